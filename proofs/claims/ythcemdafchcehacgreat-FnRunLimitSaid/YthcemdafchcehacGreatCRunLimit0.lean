/- That the code computes these functions (printed by a program). -/
import Derived.Test.YthcemdafchcehacGreatAbW
import Derived.Test.YthcemdafchcehacGreatAbQ
import Derived.KernelRfl
import Derived.Test.YthcemdafchcehacGreatAbG2
import Derived.Test.YthcemdafchcehacGreatAbC3
import Derived.Test.YthcemdafchcehacGreatAbX6
import Derived.Test.YthcemdafchcehacGreatAbX5
import Derived.Test.YthcemdafchcehacGreatAbX3
import Derived.Test.YthcemdafchcehacGreatAbX2
import Derived.Test.YthcemdafchcehacGreatFRunLimit
import Derived.Test.YthcemdafchcehacGreatProg
namespace Go.Proofs.YthcemdafchcehacGreat
open Go Go.RowKit Go.Ab
open Go.IntKind renaming wrap→QA
open _root_.Int renaming fdiv→QB
open _root_.List renaming map_nil→QC,map_cons→QD,mem_cons_of_mem→QE,cons_append→QF,nil_append→QG,length_map→QH
attribute [local irreducible] avc cO aop dgo jE vP tZ wkK U4 stz bHg bD eff bH.st Cf.ok Cf.way Cf.put Cf.putS Cf.putD Cf.A Cf.W Cf.to Cf.reg Cf.withS GQ X7 vQ F9 rV Lok Jok Cf.kr Cf.ll Cf.dw Cf.stt Cf.z Cf.zW
def cI (n:Int):List D:=[.i .i64 n]
def cU8 (n:Int):List D:=[.i .u8 n]
def cHl (n:Int):List D:=[.i .u64 n]
def cG3 (n:Int):List D:=[.i .i32 n]
def cG7 (n:Int):List D:=[.i .u32 n]
def cB (b:Bool):List D:=[.b b]
def cStr (s:List UInt8):List D:=[.s (bs s)]
def cSl {α:Type} (sz:Nat) (f:α→List D) (l:List α):List D:=[.sl sz (l.map f)]
def kT (x:gG):List D:=[.s (bs x.name),.i .i64 x.type]
def bOy (x:gG):V:=.agg (kT x)
def bJp (x:gG):List V:=(kT x).map V.d
def lG (x:eD):List D:=[.s (bs x.name),.sl 2 (x.cols.map kT)]
def aF1 (x:eD):V:=.agg (lG x)
def aOy (x:eD):List V:=(lG x).map V.d
def pV (x:aQ):List D:=[.sl 2 (x.tables.map lG)]
def cK (x:aQ):V:=.agg (pV x)
def dN (x:aQ):List V:=(pV x).map V.d
def aB (x:aA):List D:=[.i .i64 x.kind,.i .i64 x.num,.s (bs x.text)]
def bN (x:aA):V:=.agg (aB x)
def uJ (x:aA):List V:=(aB x).map V.d
def jZ (x:fM):List D:=[.sl 1 (x.rows.map (cSl 3 aB))]
def cHv (x:fM):V:=.agg (jZ x)
def cFz (x:fM):List V:=(jZ x).map V.d
def qG (x:GDb):List D:=[.sl 1 (x.tables.map jZ)]
def iG (x:GDb):V:=.agg (qG x)
def mM (x:GDb):List V:=(qG x).map V.d
mutual
def aV:aJ→List D
  | ⟨a0,a1,a2,a3,a4,a5,a6,a7⟩=>[.i .i64 a0]++[.i .i64 a1]++[.b a2]++aB a3++[.i .i64 a4]++[.i .i64 a5]++[.sl 10 (W9 a6)]++[.sl 8 (aIr a7)]
def jA:cZ→List D
  | ⟨a0,a1⟩=>aV a0++[.b a1]
def eO:aP→List D
  | ⟨a0,a1,a2,a3,a4,a5,a6,a7⟩=>[.sl 1 (a0.map cI)]++[.sl 1 (aK8 a1)]++[.sl 10 (W9 a2)]++[.sl 11 (aH5 a3)]++[.sl 10 (W9 a4)]++[.sl 1 (a5.map cStr)]++[.b a6]++[.i .i64 a7]
def W9:List aJ→List (List D)
  | []=>[]
  | x::l=>aV x::W9 l
def aH5:List cZ→List (List D)
  | []=>[]
  | x::l=>jA x::aH5 l
def aIr:List aP→List (List D)
  | []=>[]
  | x::l=>eO x::aIr l
def aK8:List (List aJ)→List (List D)
  | []=>[]
  | x::l=>[.sl 10 (W9 x)]::aK8 l
end
theorem aG8:∀ l:List aJ,W9 l=l.map aV
  | []=>by simp only [W9,QC]
  | x::l=>by simp only [W9,QD,aG8 l]
theorem aM7:∀ l:List cZ,aH5 l=l.map jA
  | []=>by simp only [aH5,QC]
  | x::l=>by simp only [aH5,QD,aM7 l]
theorem aMr:∀ l:List aP,aIr l=l.map eO
  | []=>by simp only [aIr,QC]
  | x::l=>by simp only [aIr,QD,aMr l]
theorem aMl:∀ l:List (List aJ),aK8 l=l.map (cSl 10 aV)
  | []=>by simp only [aK8,QC]
  | x::l=>by simp only [aK8,QD,aMl l,cSl,aG8]
def jC (x:aJ):List D:=[.i .i64 x.kind,.i .i64 x.op,.b x.not_,.i .i64 x.value.kind,.i .i64 x.value.num,.s (bs x.value.text),.i .i64 x.up,.i .i64 x.at_,.sl 10 (x.kids.map aV),.sl 8 (x.sub.map eO)]
def aC4 (x:cZ):List D:=[.i .i64 x.expr.kind,.i .i64 x.expr.op,.b x.expr.not_,.i .i64 x.expr.value.kind,.i .i64 x.expr.value.num,.s (bs x.expr.value.text),.i .i64 x.expr.up,.i .i64 x.expr.at_,.sl 10 (x.expr.kids.map aV),.sl 8 (x.expr.sub.map eO),.b x.desc]
def zI (x:aP):List D:=[.sl 1 (x.tables.map cI),.sl 1 (x.on_.map (cSl 10 aV)),.sl 10 (x.where_.map aV),.sl 11 (x.order.map jA),.sl 10 (x.items.map aV),.sl 1 (x.names.map cStr),.b x.distinct,.i .i64 x.limit]
theorem mW (x:aJ):aV x=jC x:=by
  obtain ⟨a0,a1,a2,a3,a4,a5,a6,a7⟩:=x
  simp only [aV,jC,aG8,aM7,aMr,aMl,QF,QG,aB]
theorem aZv (x:cZ):jA x=aC4 x:=by
  obtain ⟨a0,a1⟩:=x
  simp only [jA,aC4,aG8,aM7,aMr,aMl,mW,jC,QF,QG]
theorem aG5 (x:aP):eO x=zI x:=by
  obtain ⟨a0,a1,a2,a3,a4,a5,a6,a7⟩:=x
  simp only [eO,zI,aG8,aM7,aMr,aMl,QF,QG]
def iJ (x:aJ):V:=.agg (jC x)
def uK (x:aJ):List V:=(jC x).map V.d
def cHu (x:cZ):V:=.agg (aC4 x)
def cHi (x:cZ):List V:=(aC4 x).map V.d
def fI (x:aP):V:=.agg (zI x)
def lZ (x:aP):List V:=(zI x).map V.d
def aRr (x:aL):List D:=[.sl 1 (x.b.map cU8),.i .i64 x.i,.i .i64 x.h]
def cF5 (x:aL):V:=.agg (aRr x)
def aZ (x:aL):List V:=(aRr x).map V.d
mutual
def qX:eH→List D
  | ⟨a0,a1,a2,a3,a4,a5,a6,a7⟩=>[.i .i64 a0]++[.i .i64 a1]++[.b a2]++aB a3++[.s (bs a4)]++[.s (bs a5)]++[.sl 10 (aC5 a6)]++[.sl 6 (aJ0 a7)]
def aC0:pK→List D
  | ⟨a0,a1,a2,a3⟩=>[.b a0]++[.s (bs a1)]++qX a2++[.s (bs a3)]
def vZ:jH→List D
  | ⟨a0,a1,a2,a3,a4,a5⟩=>[.b a0]++[.sl 13 (aFz a1)]++[.sl 3 (aKa a2)]++[.sl 10 (aC5 a3)]++[.sl 11 (aHm a4)]++[.i .i64 a5]
def aBs:pM→List D
  | ⟨a0,a1⟩=>qX a0++[.b a1]
def aAz:oV→List D
  | ⟨a0,a1,a2⟩=>[.s (bs a0)]++[.s (bs a1)]++[.sl 10 (aC5 a2)]
def aC5:List eH→List (List D)
  | []=>[]
  | x::l=>qX x::aC5 l
def aFz:List pK→List (List D)
  | []=>[]
  | x::l=>aC0 x::aFz l
def aJ0:List jH→List (List D)
  | []=>[]
  | x::l=>vZ x::aJ0 l
def aHm:List pM→List (List D)
  | []=>[]
  | x::l=>aBs x::aHm l
def aKa:List oV→List (List D)
  | []=>[]
  | x::l=>aAz x::aKa l
end
theorem aFw:∀ l:List eH,aC5 l=l.map qX
  | []=>by simp only [aC5,QC]
  | x::l=>by simp only [aC5,QD,aFw l]
theorem aE3:∀ l:List pK,aFz l=l.map aC0
  | []=>by simp only [aFz,QC]
  | x::l=>by simp only [aFz,QD,aE3 l]
theorem aDy:∀ l:List jH,aJ0 l=l.map vZ
  | []=>by simp only [aJ0,QC]
  | x::l=>by simp only [aJ0,QD,aDy l]
theorem aDk:∀ l:List pM,aHm l=l.map aBs
  | []=>by simp only [aHm,QC]
  | x::l=>by simp only [aHm,QD,aDk l]
theorem aF4:∀ l:List oV,aKa l=l.map aAz
  | []=>by simp only [aKa,QC]
  | x::l=>by simp only [aKa,QD,aF4 l]
def I9 (x:eH):List D:=[.i .i64 x.kind,.i .i64 x.op,.b x.not_,.i .i64 x.value.kind,.i .i64 x.value.num,.s (bs x.value.text),.s (bs x.qual),.s (bs x.name),.sl 10 (x.kids.map qX),.sl 6 (x.sub.map vZ)]
def aGj (x:pK):List D:=[.b x.star,.s (bs x.qual),.i .i64 x.expr.kind,.i .i64 x.expr.op,.b x.expr.not_,.i .i64 x.expr.value.kind,.i .i64 x.expr.value.num,.s (bs x.expr.value.text),.s (bs x.expr.qual),.s (bs x.expr.name),.sl 10 (x.expr.kids.map qX),.sl 6 (x.expr.sub.map vZ),.s (bs x.as_)]
def aFe (x:jH):List D:=[.b x.distinct,.sl 13 (x.items.map aC0),.sl 3 (x.from_.map aAz),.sl 10 (x.where_.map qX),.sl 11 (x.order.map aBs),.i .i64 x.limit]
def aHi (x:pM):List D:=[.i .i64 x.expr.kind,.i .i64 x.expr.op,.b x.expr.not_,.i .i64 x.expr.value.kind,.i .i64 x.expr.value.num,.s (bs x.expr.value.text),.s (bs x.expr.qual),.s (bs x.expr.name),.sl 10 (x.expr.kids.map qX),.sl 6 (x.expr.sub.map vZ),.b x.desc]
def aH6 (x:oV):List D:=[.s (bs x.table),.s (bs x.as_),.sl 10 (x.on_.map qX)]
theorem aEx (x:eH):qX x=I9 x:=by
  obtain ⟨a0,a1,a2,a3,a4,a5,a6,a7⟩:=x
  simp only [qX,I9,aFw,aE3,aDy,aDk,aF4,QF,QG,aB]
theorem bZg (x:pK):aC0 x=aGj x:=by
  obtain ⟨a0,a1,a2,a3⟩:=x
  simp only [aC0,aGj,aFw,aE3,aDy,aDk,aF4,aEx,I9,QF,QG]
theorem bAd (x:jH):vZ x=aFe x:=by
  obtain ⟨a0,a1,a2,a3,a4,a5⟩:=x
  simp only [vZ,aFe,aFw,aE3,aDy,aDk,aF4,QF,QG]
theorem bLk (x:pM):aBs x=aHi x:=by
  obtain ⟨a0,a1⟩:=x
  simp only [aBs,aHi,aFw,aE3,aDy,aDk,aF4,aEx,I9,QF,QG]
theorem bY0 (x:oV):aAz x=aH6 x:=by
  obtain ⟨a0,a1,a2⟩:=x
  simp only [aAz,aH6,aFw,aE3,aDy,aDk,aF4,QF,QG]
def bHp (x:eH):V:=.agg (I9 x)
def bLh (x:eH):List V:=(I9 x).map V.d
def cGy (x:pK):V:=.agg (aGj x)
def cH7 (x:pK):List V:=(aGj x).map V.d
def cHo (x:jH):V:=.agg (aFe x)
def cGj (x:jH):List V:=(aFe x).map V.d
def cE6 (x:pM):V:=.agg (aHi x)
def cHd (x:pM):List V:=(aHi x).map V.d
def cGh (x:oV):V:=.agg (aH6 x)
def cEp (x:oV):List V:=(aH6 x).map V.d
def aZ0 (x:kR):List D:=[.b x.op,.b x.not_,.b x.value,.b x.name,.i .i64 x.least,.i .i64 x.most,.i .i64 x.subs]
def aY2 (x:kR):V:=.agg (aZ0 x)
def cEm (x:kR):List V:=(aZ0 x).map V.d
def aOi (x:bP):D:=.fn 40 [pV x.c0,qG x.c1,(cSl 1 (cSl 3 aB)) x.c2,jC x.c3]
def iC (x:bP):List D:=[aOi x]
def vN (x:mO):List D:=[aOi x.eval,.b x.desc]
def cGg (x:mO):V:=.agg (vN x)
def cFh (x:mO):List V:=(vN x).map V.d
def bIq (x:aA3):D:=.fn 42 [(cSl 1 iC) x.c0]
def cH0 (x:aA3):List D:=[bIq x]
def tQ (x:eP):List D:=[.sl 1 (x.tables.map (cSl 1 (cSl 3 aB))),.sl 1 (x.on_.map (cSl 1 iC)),.sl 1 (x.where_.map iC),.sl 2 (x.order.map vN),bIq x.items,.b x.distinct,.i .i64 x.limit]
def E8 (x:eP):V:=.agg (tQ x)
def aBa (x:eP):List V:=(tQ x).map V.d
def aW5 (x:nR):D:=.fn 39 [pV x.c0,qG x.c1,(cSl 1 (cSl 3 aB)) x.c2]
def cGz (x:nR):List D:=[aW5 x]
def aR5 (x:nW):List D:=[.i .i64 x.kind,.i .i64 x.op,.b x.not_,.i .i64 x.value.kind,.i .i64 x.value.num,.s (bs x.value.text),.sl 3 (x.kids.map aB),.sl 1 (x.rows.map (cSl 3 aB))]
def bBq (x:nW):V:=.agg (aR5 x)
def bXb (x:nW):List V:=(aR5 x).map V.d
def bA (x:aU):List D:=[.sl 3 (x.row.map aB),.sl 3 (x.keys.map aB)]
def jR (x:aU):V:=.agg (bA x)
def aMe (x:aU):List V:=(bA x).map V.d
def lM (x:eU):D:=.fn 128 [tQ x.c0]
def cHf (x:eU):List D:=[lM x]
instance:Enc (List aA):=⟨cSl 3 aB,cSl 3 aB,(fun _=>rfl)⟩
instance:Enc fM:=⟨jZ,jZ,(fun _=>rfl)⟩
instance:Enc eD:=⟨lG,lG,(fun _=>rfl)⟩
instance:Enc aA:=⟨aB,aB,(fun _=>rfl)⟩
instance:Enc gG:=⟨kT,kT,(fun _=>rfl)⟩
instance:Enc aJ:=⟨aV,jC,mW⟩
instance:Enc aP:=⟨eO,zI,aG5⟩
instance:Enc (List aJ):=⟨cSl 10 aV,cSl 10 aV,(fun _=>rfl)⟩
instance:Enc cZ:=⟨jA,aC4,aZv⟩
instance:Enc eH:=⟨qX,I9,aEx⟩
instance:Enc jH:=⟨vZ,aFe,bAd⟩
instance:Enc (List UInt8):=⟨cStr,cStr,(fun _=>rfl)⟩
instance:Enc (List (List aA)):=⟨cSl 1 (cSl 3 aB),cSl 1 (cSl 3 aB),(fun _=>rfl)⟩
instance:Enc mO:=⟨vN,vN,(fun _=>rfl)⟩


theorem kr {p:Prop} (h:p:=by kernel_rfl):p:=h
def V5 (l:List Int):V:=.d (.sl 1 (l.map cU8))
def eQ (l:List aA):V:=.d (.sl 3 (l.map aB))
def fQ (l:List Int):V:=.d (.sl 1 (l.map cI))
def fH (l:List aJ):V:=.d (.sl 10 (l.map aV))
def uW (l:List cZ):V:=.d (.sl 11 (l.map jA))
def bMs (l:List fM):V:=.d (.sl 1 (l.map jZ))
def aQw (l:List eD):V:=.d (.sl 2 (l.map lG))
def aOv (l:List gG):V:=.d (.sl 2 (l.map kT))
def aLc (l:List aP):V:=.d (.sl 8 (l.map eO))
def aNv (l:List (List UInt8)):V:=.d (.sl 1 (l.map cStr))
def xN (l:List bP):V:=.d (.sl 1 (l.map iC))
def bA3 (l:List mO):V:=.d (.sl 2 (l.map vN))
def mP:V:=(.d (.s (bs [])))
def bI:V:=(.d (.i .i64 0))
def lV:V:=(.d (.b false))

def bPk (p0:List Int) (x3:Int) (x4:Int):St:=⟨[(0,V5 p0),(3,vI x3),(4,vI x4)],[]⟩
abbrev aTp:=fun p0 x3 x4 r=>Lok Tryz.prog 23 0 (BQ (fun (y:aL)=>(.ptr 31 0)) (fun (y:aL)=>[(31,aZ y)]) r) (bPk p0 x3 x4)


def bM1 (p0:aQ) (p1:GDb) (x5:Int):St:=⟨[(2,.ptr 2 0),(3,.ptr 3 0),(5,vI x5)],[(2,dN p0),(3,mM p1)]⟩
abbrev aTm:=fun p0 p1 x5 r=>Lok Tryz.prog 19 0 (PQ (fun y=>(vB y)) r) (bM1 p0 p1 x5)
def cDg (x5:Int) (p0:aQ) (p1:GDb) (x6:Int):St:=⟨[(2,.ptr 2 0),(3,.ptr 3 0),(5,vI x5),(6,vI x6)],[(2,dN p0),(3,mM p1)]⟩
abbrev aU1:=fun x5 p0 p1 x6 r=>Lok Tryz.prog 19 1 (PQ (fun y=>(vB y)) r) (cDg x5 p0 p1 x6)
def bN5 (p0:List aA) (p1:List Int) (x5:Int):St:=⟨[(0,eQ p0),(1,fQ p1),(5,vI x5)],[]⟩
abbrev aR4:=fun p0 p1 x5 r=>Lok Tryz.prog 49 0 (PQ (fun y=>(vB y)) r) (bN5 p0 p1 x5)



def bP7 (p0:aQ) (x3:Int):St:=⟨[(1,.ptr 1 0),(3,vI x3)],[(1,dN p0)]⟩
abbrev aSi:=fun p0 x3 r=>Lok Tryz.prog 45 0 (PQ (fun y=>(vB y)) r) (bP7 p0 x3)
def bYh (x3:Int) (p0:aQ) (y1:eD) (x5:Int):St:=⟨[(1,.ptr 1 0),(3,vI x3),(4,.ptr 4 0),(5,vI x5)],[(1,dN p0),(4,aOy y1)]⟩
abbrev aSj:=fun x3 p0 y1 x5 r=>Lok Tryz.prog 45 1 (PQ (fun y=>(vB y)) r) (bYh x3 p0 y1 x5)
def cDp (p1:List UInt8) (p0:aQ) (x5:Int):St:=⟨[(1,vS p1),(2,.ptr 2 0),(5,vI x5)],[(2,dN p0)]⟩
abbrev aQ2:=fun p1 p0 x5 r=>Lok Tryz.prog 81 0 (PQ (fun y=>(vI y)) r) (cDp p1 p0 x5)
def bLa (p1:List UInt8) (p0:eD) (x5:Int):St:=⟨[(1,vS p1),(2,.ptr 2 0),(5,vI x5)],[(2,aOy p0)]⟩
abbrev aVv:=fun p1 p0 x5 r=>Lok Tryz.prog 83 0 (PQ (fun y=>(vI y)) r) (bLa p1 p0 x5)

def bZk (p0:eD) (x3:List Int) (x4:Int):St:=⟨[(1,.ptr 1 0),(3,.osl 3 3 1 (x3.map cI)),(4,vI x4)],[(1,aOy p0)]⟩
abbrev Z3 (y:List Int):V:=(.osl 243 3 1 (y.map cI))
abbrev Za (y:List Int):List (Nat×List V):=[]
abbrev aQi:=fun p0 x3 x4 (r:List Int)=>Lok Tryz.prog 50 0 (BQ Z3 Za r) (bZk p0 x3 x4)

def bS7 (y1:List aJ) (x3:Int) (x5:Int):St:=⟨[(3,vI x3),(4,.osl 4 54 10 (y1.map aV)),(5,vI x5)],[]⟩
abbrev aS7:=fun y1 x3 x5 r=>Lok Tryz.prog 47 0 (PQ (fun y=>(vI y)) r) (bS7 y1 x3 x5)
def bX7 (p0:aJ) (x3:Int) (x4:Int):St:=⟨[(1,.ptr 1 0),(3,vI x3),(4,vI x4)],[(1,uK p0)]⟩
abbrev aY4:=fun p0 x3 x4 r=>Lok Tryz.prog 87 0 (PQ (fun y=>(vI y)) r) (bX7 p0 x3 x4)
def cDi (p0:aJ) (rP:Int) (x5:Int):St:=⟨[(1,.ptr 1 0),(3,vI rP),(5,vI x5)],[(1,uK p0)]⟩
abbrev aVy:=fun p0 rP x5 r=>Lok Tryz.prog 87 1 (PQ (fun y=>(vI y)) r) (cDi p0 rP x5)
def bJt (p0:aP) (x3:List aJ) (x4:Int):St:=⟨[(1,.ptr 1 0),(3,.osl 3 54 10 (x3.map aV)),(4,vI x4)],[(1,lZ p0)]⟩
abbrev Zc (y:List aJ):V:=(.osl 243 54 10 (y.map aV))
abbrev Zd (y:List aJ):List (Nat×List V):=[]
abbrev aYu:=fun p0 x3 x4 (r:List aJ)=>Lok Tryz.prog 84 0 (BQ Zc Zd r) (bJt p0 x3 x4)
def bQi (p0:aP) (eY:List aJ) (x5:Int):St:=⟨[(1,.ptr 1 0),(3,.osl 3 54 10 (eY.map aV)),(5,vI x5)],[(1,lZ p0)]⟩
abbrev aS0:=fun p0 eY x5 (r:List aJ)=>Lok Tryz.prog 84 1 (BQ Zc Zd r) (bQi p0 eY x5)
def bSv (y1:List aJ) (x3:Int) (x5:Int):St:=⟨[(3,vI x3),(4,.osl 4 54 10 (y1.map aV)),(5,vI x5)],[]⟩
abbrev aQg:=fun y1 x3 x5 r=>Lok Tryz.prog 46 0 (PQ (fun y=>(vI y)) r) (bSv y1 x3 x5)

def cC8 (p0:aJ) (x3:Int) (x4:Int):St:=⟨[(1,.ptr 1 0),(3,vI x3),(4,vI x4)],[(1,uK p0)]⟩
abbrev aTo:=fun p0 x3 x4 r=>Lok Tryz.prog 86 0 (PQ (fun y=>(vI y)) r) (cC8 p0 x3 x4)
def bXe (p0:aJ) (eY:Int) (x5:Int):St:=⟨[(1,.ptr 1 0),(3,vI eY),(5,vI x5)],[(1,uK p0)]⟩
abbrev aWi:=fun p0 eY x5 r=>Lok Tryz.prog 86 1 (PQ (fun y=>(vI y)) r) (bXe p0 eY x5)
def bLc (p1:List (List Int)) (p0:aQ) (p2:aP) (x8:Int):St:=⟨[(1,.d (.sl 1 (p1.map (cSl 1 cI)))),(3,.ptr 3 0),(5,.ptr 5 0),(8,vI x8)],[(3,dN p0),(5,lZ p2)]⟩
abbrev Ze (y:(List Int)×Bool):V:=(.tup [.osl 243 3 1 (y.1.map cI),vB y.2])
abbrev Zf (y:(List Int)×Bool):List (Nat×List V):=[]
abbrev aWe:=fun p1 p0 p2 x8 (r:(List Int)×Bool)=>Lok Tryz.prog 48 0 (BQ Ze Zf r) (bLc p1 p0 p2 x8)
def bMp (y8:List (List Int)) (p0:aQ) (p2:aP) (x14:Int):St:=⟨[(3,.ptr 3 0),(5,.ptr 5 0),(13,.osl 13 30 1 (y8.map (cSl 1 cI))),(14,vI x14)],[(3,dN p0),(5,lZ p2)]⟩
abbrev aVq:=fun y8 p0 p2 x14 (r:(List Int)×Bool)=>Lok Tryz.prog 48 1 (BQ Ze Zf r) (bMp y8 p0 p2 x14)
def bJu (y8:List (List Int)) (p0:aQ) (p2:aP) (x17:List Int) (x18:Int):St:=⟨[(3,.ptr 3 0),(5,.ptr 5 0),(13,.osl 13 30 1 (y8.map (cSl 1 cI))),(17,.osl 17 3 1 (x17.map cI)),(18,vI x18)],[(3,dN p0),(5,lZ p2)]⟩
abbrev aRu:=fun y8 p0 p2 x17 x18 (r:(List Int)×Bool)=>Lok Tryz.prog 48 2 (BQ Ze Zf r) (bJu y8 p0 p2 x17 x18)

def bN1 (p1:List (List Int)) (p2:List aJ) (p0:aQ) (x7:Int):St:=⟨[(1,.d (.sl 1 (p1.map (cSl 1 cI)))),(2,fH p2),(3,.ptr 3 0),(7,vI x7)],[(3,dN p0)]⟩
abbrev aZ5:=fun p1 p2 p0 x7 r=>Lok Tryz.prog 90 0 (PQ (fun y=>(vB y)) r) (bN1 p1 p2 p0 x7)
def cBc (p1:List (List Int)) (p0:aQ) (p2:aJ) (x8:List Int) (x9:Int):St:=⟨[(1,.d (.sl 1 (p1.map (cSl 1 cI)))),(3,.ptr 3 0),(5,.ptr 5 0),(8,.osl 8 3 1 (x8.map cI)),(9,vI x9)],[(3,dN p0),(5,uK p2)]⟩
abbrev aQ8:=fun p1 p0 p2 x8 x9 (r:Int×Bool)=>Lok Tryz.prog 92 0 (PQ (fun y=>(.tup [vI y.1,vB y.2])) r) (cBc p1 p0 p2 x8 x9)
def bN3 (p2:aJ) (O6:List Int):St:=⟨[(5,.ptr 5 0),(8,.osl 8 3 1 (O6.map cI))],[(5,uK p2)]⟩
abbrev bZ1:=fun p2 O6 (r:Int×Bool)=>Jok Tryz.prog 92 27 (PQ (fun y=>(.tup [vI y.1,vB y.2])) r) (bN3 p2 O6)
def bLi (p1:Int) (p2:Int) (x10:Int):St:=⟨[(1,vI p1),(2,vI p2),(10,vI x10)],[]⟩
abbrev cBo:=fun p1 p2 x10 (r:Int×Bool)=>Jok Tryz.prog 136 12 (PQ (fun y=>(.tup [vI y.1,vB y.2])) r) (bLi p1 p2 x10)






def bVu (p0:List Int) (x3:Int) (x4:Int):St:=⟨[(0,fQ p0),(3,vI x3),(4,vI x4)],[]⟩
abbrev aTw:=fun p0 x3 x4 r=>Lok Tryz.prog 138 0 (PQ (fun y=>(vB y)) r) (bVu p0 x3 x4)
def cAw (p0:aJ) (y3:List eH) (y4:List jH) (nQ:List UInt8):St:=⟨[(3,.ptr 3 0)],[(3,bLh (eH.mk p0.kind p0.op p0.not_ p0.value [] nQ y3 y4))]⟩
abbrev bQe:=fun p0 y3 y4 nQ r=>Jok Tryz.prog 134 5 (PQ (fun y=>(vB y)) r) (cAw p0 y3 y4 nQ)



def bU8 (p1:List Int) (p0:aQ) (x6:List Int) (x7:Int):St:=⟨[(1,fQ p1),(2,.ptr 2 0),(6,.osl 6 3 1 (x6.map cI)),(7,vI x7)],[(2,dN p0)]⟩
abbrev aS8:=fun p1 p0 x6 x7 (r:(List Int)×Bool)=>Lok Tryz.prog 89 0 (BQ Ze Zf r) (bU8 p1 p0 x6 x7)
def bS6 (p0:aQ) (p1:aP) (x5:Int):St:=⟨[(2,.ptr 2 0),(3,.ptr 3 0),(5,vI x5)],[(2,dN p0),(3,lZ p1)]⟩
abbrev aZb:=fun p0 p1 x5 r=>Lok Tryz.prog 88 0 (PQ (fun y=>(vB y)) r) (bS6 p0 p1 x5)
def bL8 (p0:aQ) (p1:aP) (x6:Int):St:=⟨[(2,.ptr 2 0),(3,.ptr 3 0),(6,vI x6)],[(2,dN p0),(3,lZ p1)]⟩
abbrev aYq:=fun p0 p1 x6 r=>Lok Tryz.prog 88 1 (PQ (fun y=>(vB y)) r) (bL8 p0 p1 x6)
def bKp (p2:List (List aA)) (p0:aQ) (p1:GDb) (p3:aP) (x11:List (List aA)):St:=⟨[(2,.d (.sl 1 (p2.map (cSl 3 aB)))),(4,.ptr 4 0),(5,.ptr 5 0),(7,.ptr 7 0),(10,.osl 10 62 1 (([]:List (List aA)).map (cSl 3 aB))),(11,.d (.sl 1 (x11.map (cSl 3 aB))))],[(4,dN p0),(5,mM p1),(7,lZ p3)]⟩
abbrev aTt:=fun p2 p0 p1 p3 x11 (r:(List (List aA))×Int)=>Jok Tryz.prog 20 13 (PQ (fun y=>(.tup [.d (.sl 1 (y.1.map (cSl 3 aB))),vI y.2])) r) (bKp p2 p0 p1 p3 x11)
def bW9 (p3:aP) (vJ:List (List aA)):St:=⟨[(7,.ptr 7 0),(11,.d (.sl 1 (vJ.map (cSl 3 aB))))],[(7,lZ p3)]⟩
abbrev bVd:=fun p3 vJ (r:(List (List aA))×Int)=>Jok Tryz.prog 20 22 (PQ (fun y=>(.tup [.d (.sl 1 (y.1.map (cSl 3 aB))),vI y.2])) r) (bW9 p3 vJ)
def cD2 (Z9:List (List aA)):St:=⟨[(11,.d (.sl 1 (Z9.map (cSl 3 aB))))],[]⟩
abbrev bRd:=fun Z9 (r:(List (List aA))×Int)=>Jok Tryz.prog 20 24 (PQ (fun y=>(.tup [.d (.sl 1 (y.1.map (cSl 3 aB))),vI y.2])) r) (cD2 Z9)
def bSf (p2:List (List aA)) (p3:List (List aA)) (p4:List aJ) (p0:aQ) (p1:GDb) (x12:List (List aA)) (x13:Int):St:=⟨[(2,.d (.sl 1 (p2.map (cSl 3 aB)))),(3,.d (.sl 1 (p3.map (cSl 3 aB)))),(4,fH p4),(5,.ptr 5 0),(6,.ptr 6 0),(12,.osl 12 62 1 (x12.map (cSl 3 aB))),(13,vI x13)],[(5,dN p0),(6,mM p1)]⟩
abbrev Zg (y:(List (List aA))×Int):V:=(.tup [.osl 243 62 1 (y.1.map (cSl 3 aB)),vI y.2])
abbrev Zh (y:(List (List aA))×Int):List (Nat×List V):=[]
abbrev aWs:=fun p2 p3 p4 p0 p1 x12 x13 (r:(List (List aA))×Int)=>Lok Tryz.prog 55 0 (BQ Zg Zh r) (bSf p2 p3 p4 p0 p1 x12 x13)
def bMa (p2:List (List aA)) (p3:List (List aA)) (p4:List aJ) (x12:List (List aA)) (x13:Int) (p0:aQ) (kp1:GDb×(List aA)×Int):St:=⟨[(2,.d (.sl 1 (p2.map (cSl 3 aB)))),(3,.d (.sl 1 (p3.map (cSl 3 aB)))),(4,fH p4),(5,.ptr 5 0),(6,.ptr 6 0),(12,.osl 12 62 1 (x12.map (cSl 3 aB))),(13,vI x13),(14,.osl 14 51 3 (kp1.2.1.map aB)),(15,vI kp1.2.2)],[(5,dN p0),(6,mM kp1.1)]⟩
abbrev aXx:=fun p2 p3 p4 x12 x13 p0 kp1 (r:(List (List aA))×Int)=>Lok Tryz.prog 55 1 (BQ Zg Zh r) (bMa p2 p3 p4 x12 x13 p0 kp1)

def cCp (p2:List (List aA)) (p0:aQ) (p1:GDb) (p3:aJ) (x10:List aA) (x11:Int):St:=⟨[(2,.d (.sl 1 (p2.map (cSl 3 aB)))),(4,.ptr 4 0),(5,.ptr 5 0),(7,.ptr 7 0),(8,.ptr 8 0),(10,.osl 10 51 3 (x10.map aB)),(11,vI x11)],[(4,dN p0),(5,mM p1),(7,uK p3),(8,[vI 0,vI 0,vS []])]⟩
abbrev aWf:=fun p2 p0 p1 p3 x10 x11 (r:aA×Int)=>Lok Tryz.prog 94 0 (PQ (fun y=>(.tup [bN y.1,vI y.2])) r) (cCp p2 p0 p1 p3 x10 x11)
def bQa (p2:List (List aA)) (x10:List aA) (p3:aJ) (x14:List (List aA)):St:=⟨[(2,.d (.sl 1 (p2.map (cSl 3 aB)))),(7,.ptr 7 0),(8,.ptr 8 0),(10,.osl 10 51 3 (x10.map aB)),(14,.d (.sl 1 (x14.map (cSl 3 aB))))],[(7,uK p3),(8,[vI 0,vI 0,vS []])]⟩
abbrev bPx:=fun p2 x10 p3 x14 (r:aA×Int)=>Jok Tryz.prog 94 15 (PQ (fun y=>(.tup [bN y.1,vI y.2])) r) (bQa p2 x10 p3 x14)
def bZc (x10:List aA) (x14:List (List aA)) (p3:aJ) (x21:List aA) (x22:Int):St:=⟨[(7,.ptr 7 0),(8,.ptr 8 0),(10,.osl 10 51 3 (x10.map aB)),(14,.d (.sl 1 (x14.map (cSl 3 aB)))),(21,.osl 21 51 3 (x21.map aB)),(22,vI x22)],[(7,uK p3),(8,[vI 0,vI 0,vS []])]⟩
abbrev aY5:=fun x10 x14 p3 x21 x22 (r:aA×Int)=>Lok Tryz.prog 94 1 (PQ (fun y=>(.tup [bN y.1,vI y.2])) r) (bZc x10 x14 p3 x21 x22)







def bZ8 (p0:aJ) (x13:Bool):St:=⟨[(3,vI (p0.kids.length:Int)),(4,vI (p0.sub.length:Int)),(12,vI p0.kind),(13,vB x13)],[]⟩
abbrev bUz:=fun p0 x13 r=>Jok Tryz.prog 140 5 (PQ (fun y=>(vB y)) r) (bZ8 p0 x13)
def bWi (p0:aJ) (x20:Bool):St:=⟨[(3,vI (p0.kids.length:Int)),(4,vI (p0.sub.length:Int)),(12,vI p0.kind),(20,vB x20)],[]⟩
abbrev cDz:=fun p0 x20 r=>Jok Tryz.prog 140 8 (PQ (fun y=>(vB y)) r) (bWi p0 x20)

def bXl (p0:Int) (p1:aA) (p2:aA) (Y1:Bool):St:=⟨[(0,vI p0),(4,.ptr 4 0),(5,.ptr 5 0),(6,.ptr 6 0),(112,vB Y1)],[(4,uJ p1),(5,uJ p2),(6,[vI 0,vI 0,vS []])]⟩
abbrev bS2:=fun p0 p1 p2 Y1 (r:aA×Int)=>Jok Tryz.prog 142 29 (PQ (fun y=>(.tup [bN y.1,vI y.2])) r) (bXl p0 p1 p2 Y1)








def bNj (p1:List aA) (p0:aA) (x7:Int) (iU:Int) (iW:Int) (iV:List UInt8):St:=⟨[(1,eQ p1),(2,.ptr 2 0),(4,.ptr 4 0),(6,.ptr 6 0),(7,vI x7)],[(2,uJ p0),(4,[vI 0,vI 0,vS []]),(6,uJ (aA.mk iU iW iV))]⟩
abbrev aYg:=fun p1 p0 x7 iU iW iV (r:aA×Int)=>Lok Tryz.prog 145 0 (PQ (fun y=>(.tup [bN y.1,vI y.2])) r) (bNj p1 p0 x7 iU iW iV)

def bNp (p2:List (List aA)) (p4:List aJ) (p0:aQ) (p1:GDb) (x3:List (List aA)) (x12:Int):St:=⟨[(2,.d (.sl 1 (p2.map (cSl 3 aB)))),(3,.d (.sl 1 (x3.map (cSl 3 aB)))),(4,fH p4),(5,.ptr 5 0),(6,.ptr 6 0),(12,vI x12)],[(5,dN p0),(6,mM p1)]⟩
abbrev aTf:=fun p2 p4 p0 p1 x3 x12 (r:(List (List aA))×Int)=>Lok Tryz.prog 53 0 (PQ (fun y=>(.tup [.d (.sl 1 (y.1.map (cSl 3 aB))),vI y.2])) r) (bNp p2 p4 p0 p1 x3 x12)
def bJd (p2:List (List aA)) (x3:List (List aA)) (p4:List aJ) (x12:Int) (p0:aQ) (p1:GDb) (kx13:(List (List aA))×Int):St:=⟨[(2,.d (.sl 1 (p2.map (cSl 3 aB)))),(3,.d (.sl 1 (x3.map (cSl 3 aB)))),(4,fH p4),(5,.ptr 5 0),(6,.ptr 6 0),(12,vI x12),(13,.osl 13 62 1 (kx13.1.map (cSl 3 aB))),(14,vI kx13.2)],[(5,dN p0),(6,mM p1)]⟩
abbrev aX3:=fun p2 x3 p4 x12 p0 p1 kx13 (r:(List (List aA))×Int)=>Lok Tryz.prog 53 1 (PQ (fun y=>(.tup [.d (.sl 1 (y.1.map (cSl 3 aB))),vI y.2])) r) (bJd p2 x3 p4 x12 p0 p1 kx13)
def cAi (p2:List (List aA)) (x3:List (List aA)) (p4:List aJ) (x12:Int) (x14:Int) (p0:aQ) (kp1:GDb×(List (List aA))):St:=⟨[(2,.d (.sl 1 (p2.map (cSl 3 aB)))),(3,.d (.sl 1 (x3.map (cSl 3 aB)))),(4,fH p4),(5,.ptr 5 0),(6,.ptr 6 0),(12,vI x12),(13,.osl 13 62 1 (kp1.2.map (cSl 3 aB))),(14,vI x14)],[(5,dN p0),(6,mM kp1.1)]⟩
abbrev aPz:=fun p2 x3 p4 x12 x14 p0 kp1 (r:(List (List aA))×Int)=>Jok Tryz.prog 53 11 (PQ (fun y=>(.tup [.d (.sl 1 (y.1.map (cSl 3 aB))),vI y.2])) r) (cAi p2 x3 p4 x12 x14 p0 kp1)

def bMk (p2:List (List aA)) (p0:aQ) (p1:GDb) (p3:aP) (x10:List (List aA)) (x11:Int):St:=⟨[(2,.d (.sl 1 (p2.map (cSl 3 aB)))),(4,.ptr 4 0),(5,.ptr 5 0),(7,.ptr 7 0),(10,.d (.sl 1 (x10.map (cSl 3 aB)))),(11,vI x11)],[(4,dN p0),(5,mM p1),(7,lZ p3)]⟩
abbrev aSf:=fun p2 p0 p1 p3 x10 x11 (r:(List (List aA))×Int)=>Lok Tryz.prog 52 0 (PQ (fun y=>(.tup [.d (.sl 1 (y.1.map (cSl 3 aB))),vI y.2])) r) (bMk p2 p0 p1 p3 x10 x11)
def cAt (p2:List (List aA)) (x10:List (List aA)) (x11:Int) (y2:fM) (p0:aQ) (p1:GDb) (kp3q:aP×(((List (List aA))×Int))):St:=⟨[(2,.d (.sl 1 (p2.map (cSl 3 aB)))),(4,.ptr 4 0),(5,.ptr 5 0),(7,.ptr 7 0),(10,.d (.sl 1 (x10.map (cSl 3 aB)))),(11,vI x11),(12,.d (.sl 1 (y2.rows.map (cSl 3 aB)))),(13,.osl 13 62 1 (kp3q.2.1.map (cSl 3 aB))),(14,vI kp3q.2.2)],[(4,dN p0),(5,mM p1),(7,lZ kp3q.1)]⟩
abbrev aSq:=fun p2 x10 x11 y2 p0 p1 kp3q (r:(List (List aA))×Int)=>Lok Tryz.prog 52 1 (PQ (fun y=>(.tup [.d (.sl 1 (y.1.map (cSl 3 aB))),vI y.2])) r) (cAt p2 x10 x11 y2 p0 p1 kp3q)
def bJk (p2:List (List aA)) (x10:List (List aA)) (x11:Int) (y2:fM) (x14:Int) (p0:aQ) (kp1:GDb×aP×(((List (List aA))×Int))):St:=⟨[(2,.d (.sl 1 (p2.map (cSl 3 aB)))),(4,.ptr 4 0),(5,.ptr 5 0),(7,.ptr 7 0),(10,.d (.sl 1 (x10.map (cSl 3 aB)))),(11,vI x11),(12,.d (.sl 1 (y2.rows.map (cSl 3 aB)))),(13,.osl 13 62 1 (kp1.2.2.1.map (cSl 3 aB))),(14,vI x14),(15,vI kp1.2.2.2)],[(4,dN p0),(5,mM kp1.1),(7,lZ kp1.2.1)]⟩
abbrev aYh:=fun p2 x10 x11 y2 x14 p0 kp1 (r:(List (List aA))×Int)=>Lok Tryz.prog 52 2 (PQ (fun y=>(.tup [.d (.sl 1 (y.1.map (cSl 3 aB))),vI y.2])) r) (bJk p2 x10 x11 y2 x14 p0 kp1)

def bL2 (p0:List (List aA)) (x3:List (List aA)) (x4:Int):St:=⟨[(0,.d (.sl 1 (p0.map (cSl 3 aB)))),(3,.osl 3 62 1 (x3.map (cSl 3 aB))),(4,vI x4)],[]⟩
abbrev aRs:=fun p0 x3 x4 (r:List (List aA))=>Lok Tryz.prog 11 0 (PQ (fun y=>(.d (.sl 1 (y.map (cSl 3 aB))))) r) (bL2 p0 x3 x4)
def bPd (p0:List (List aA)) (x3:List (List aA)) (x4:Int) (x5:Bool) (x6:Int):St:=⟨[(0,.d (.sl 1 (p0.map (cSl 3 aB)))),(3,.osl 3 62 1 (x3.map (cSl 3 aB))),(4,vI x4),(5,vB x5),(6,vI x6)],[]⟩
abbrev aQ1:=fun p0 x3 x4 x5 x6 (r:List (List aA))=>Lok Tryz.prog 11 1 (PQ (fun y=>(.d (.sl 1 (y.map (cSl 3 aB))))) r) (bPd p0 x3 x4 x5 x6)
def cA7 (p0:List (List aA)) (x4:Int) (tK:List (List aA)):St:=⟨[(0,.d (.sl 1 (p0.map (cSl 3 aB)))),(3,.osl 3 62 1 (tK.map (cSl 3 aB))),(4,vI x4)],[]⟩
abbrev aRy:=fun p0 x4 tK (r:List (List aA))=>Jok Tryz.prog 11 6 (PQ (fun y=>(.d (.sl 1 (y.map (cSl 3 aB))))) r) (cA7 p0 x4 tK)
def bP0 (p0:List aA) (p1:List aA) (x5:Int):St:=⟨[(0,eQ p0),(1,eQ p1),(5,vI x5)],[]⟩
abbrev aZx:=fun p0 p1 x5 r=>Lok Tryz.prog 21 0 (PQ (fun y=>(vB y)) r) (bP0 p0 p1 x5)
def bO8 (p2:List (List aA)) (p3:List (List aA)) (p4:List cZ) (p0:aQ) (p1:GDb) (x12:List (List aA)) (kx13:(List (List aA))×Int):St:=⟨[(2,.d (.sl 1 (p2.map (cSl 3 aB)))),(3,.d (.sl 1 (p3.map (cSl 3 aB)))),(4,uW p4),(5,.ptr 5 0),(6,.ptr 6 0),(12,.osl 12 62 1 (x12.map (cSl 3 aB))),(13,.osl 13 62 1 (kx13.1.map (cSl 3 aB))),(14,vI kx13.2)],[(5,dN p0),(6,mM p1)]⟩
abbrev aXo:=fun p2 p3 p4 p0 p1 x12 kx13 (r:(List (List aA))×Int)=>Lok Tryz.prog 54 0 (BQ Zg Zh r) (bO8 p2 p3 p4 p0 p1 x12 kx13)
def bLl (p2:List (List aA)) (p3:List (List aA)) (p4:List cZ) (x12:List (List aA)) (x13:List (List aA)) (x14:Int) (kp0q:aQ×GDb×(List aA)×Int):St:=⟨[(2,.d (.sl 1 (p2.map (cSl 3 aB)))),(3,.d (.sl 1 (p3.map (cSl 3 aB)))),(4,uW p4),(5,.ptr 5 0),(6,.ptr 6 0),(12,.osl 12 62 1 (x12.map (cSl 3 aB))),(13,.osl 13 62 1 (x13.map (cSl 3 aB))),(14,vI x14),(15,.osl 15 51 3 (kp0q.2.2.1.map aB)),(16,vI kp0q.2.2.2)],[(5,dN kp0q.1),(6,mM kp0q.2.1)]⟩
abbrev aWr:=fun p2 p3 p4 x12 x13 x14 kp0q (r:(List (List aA))×Int)=>Lok Tryz.prog 54 1 (BQ Zg Zh r) (bLl p2 p3 p4 x12 x13 x14 kp0q)
def bKx (p2:List (List aA)) (p3:List (List aA)) (p4:List cZ) (x12:List (List aA)) (x13:List (List aA)) (x14:Int) (kx15q:(List aA)×aQ×GDb×Int):St:=⟨[(2,.d (.sl 1 (p2.map (cSl 3 aB)))),(3,.d (.sl 1 (p3.map (cSl 3 aB)))),(4,uW p4),(5,.ptr 5 0),(6,.ptr 6 0),(12,.osl 12 62 1 (x12.map (cSl 3 aB))),(13,.osl 13 62 1 (x13.map (cSl 3 aB))),(14,vI x14),(15,.osl 15 51 3 (kx15q.1.map aB)),(19,vI kx15q.2.2.2)],[(5,dN kx15q.2.1),(6,mM kx15q.2.2.1)]⟩
abbrev aYe:=fun p2 p3 p4 x12 x13 x14 kx15q (r:(List (List aA))×Int)=>Lok Tryz.prog 54 2 (BQ Zg Zh r) (bKx p2 p3 p4 x12 x13 x14 kx15q)
def bLz (p0:List aA) (p1:List aA) (p2:List cZ) (x7:Int):St:=⟨[(0,eQ p0),(1,eQ p1),(2,uW p2),(7,vI x7)],[]⟩
abbrev aRg:=fun p0 p1 p2 x7 r=>Lok Tryz.prog 97 0 (PQ (fun y=>(vB y)) r) (bLz p0 p1 p2 x7)
def bOh (p0:List aA) (p1:List aA) (p2:List cZ) (x7:Int) (x8:Int):St:=⟨[(0,eQ p0),(1,eQ p1),(2,uW p2),(7,vI x7),(8,vI x8)],[]⟩
abbrev aQl:=fun p0 p1 p2 x7 x8 r=>Jok Tryz.prog 97 7 (PQ (fun y=>(vB y)) r) (bOh p0 p1 p2 x7 x8)
def cE3 (p0:GDb) (p1:aP) (x5:Int):St:=⟨[(2,.ptr 2 0),(3,.ptr 3 0),(5,vI x5)],[(2,mM p0),(3,lZ p1)]⟩
abbrev aSb:=fun p0 p1 x5 r=>Lok Tryz.prog 51 0 (PQ (fun y=>(vB y)) r) (cE3 p0 p1 x5)

def cCy (p1:GDb) (p0:aQ) (x23:Int):St:=⟨[(2,.ptr 2 0),(21,bMs p1.tables),(22,vI (p1.tables.length:Int)),(23,vI x23)],[(2,dN p0)]⟩
abbrev aYk:=fun p1 p0 x23 r=>Lok Tryz.prog 16 0 (PQ (fun y=>(vB y)) r) (cCy p1 p0 x23)
def bSz (p0:aQ) (x8:Int):St:=⟨[(1,.ptr 1 0),(6,aQw p0.tables),(7,vI (p0.tables.length:Int)),(8,vI x8)],[(1,dN p0)]⟩
abbrev aXy:=fun p0 x8 r=>Lok Tryz.prog 30 0 (PQ (fun y=>(vB y)) r) (bSz p0 x8)

def cCo (p0:List eD) (c0_0:List UInt8) (x8:Int):St:=⟨[(0,aQw p0),(1,.fn 107 [.ptr 241 0]),(7,vI (p0.length:Int)),(8,vI x8)],[(241,[vS c0_0])]⟩
abbrev Zi (y:Int):V:=(vI y)
abbrev aWl:=fun p0 c0_0 x8 r=>Lok Tryz.prog 106 0 (BQ Zi (fun (y:Int)=>[(241,[vS c0_0])]) r) (cCo p0 c0_0 x8)

def bTq (p0:eD) (x8:Int):St:=⟨[(1,.ptr 1 0),(6,aOv p0.cols),(7,vI (p0.cols.length:Int)),(8,vI x8)],[(1,aOy p0)]⟩
abbrev aUe:=fun p0 x8 r=>Lok Tryz.prog 63 0 (PQ (fun y=>(vB y)) r) (bTq p0 x8)

def bVj (p0:List gG) (c0_0:List UInt8) (x8:Int):St:=⟨[(0,aOv p0),(1,.fn 152 [.ptr 241 0]),(7,vI (p0.length:Int)),(8,vI x8)],[(241,[vS c0_0])]⟩
abbrev aWu:=fun p0 c0_0 x8 r=>Lok Tryz.prog 151 0 (BQ Zi (fun (y:Int)=>[(241,[vS c0_0])]) r) (bVj p0 c0_0 x8)


def cBg (p0:eD) (x3:List Int) (x10:Int):St:=⟨[(3,.osl 3 3 1 (x3.map cI)),(8,aOv p0.cols),(9,vI (p0.cols.length:Int)),(10,vI x10)],[]⟩
abbrev aTu:=fun p0 x3 x10 (r:List Int)=>Lok Tryz.prog 35 0 (BQ Z3 Za r) (cBg p0 x3 x10)

def bS8 (p0:List (List aA)) (c0_0:List Int) (x8:Int):St:=⟨[(0,.d (.sl 1 (p0.map (cSl 3 aB)))),(1,.fn 37 [.ptr 241 0]),(7,vI (p0.length:Int)),(8,vI x8)],[(241,[fQ c0_0])]⟩
abbrev aRc:=fun p0 c0_0 x8 r=>Lok Tryz.prog 73 0 (BQ Zi (fun (y:Int)=>[(241,[.d (.sl 1 (c0_0.map cI))])]) r) (bS8 p0 c0_0 x8)

def bPf (p1:List Int) (p0:List aA) (x14:Int):St:=⟨[(1,fQ p1),(12,eQ p0),(13,vI (p0.length:Int)),(14,vI x14)],[]⟩
abbrev aR9:=fun p1 p0 x14 r=>Lok Tryz.prog 38 0 (PQ (fun y=>(vB y)) r) (bPf p1 p0 x14)




def bN9 (p0:List aJ) (x3:Int) (x8:Int):St:=⟨[(3,vI x3),(6,fH p0),(7,vI (p0.length:Int)),(8,vI x8)],[]⟩
abbrev aUw:=fun p0 x3 x8 r=>Lok Tryz.prog 65 0 (PQ (fun y=>(vI y)) r) (bN9 p0 x3 x8)
def bS1 (p0:aJ) (x3:Int) (x12:Int):St:=⟨[(3,vI x3),(10,aLc p0.sub),(11,vI (p0.sub.length:Int)),(12,vI x12)],[]⟩
abbrev aW7:=fun p0 x3 x12 r=>Lok Tryz.prog 108 0 (PQ (fun y=>(vI y)) r) (bS1 p0 x3 x12)
def bU5 (p0:aP) (x3:List aJ) (x12:Int):St:=⟨[(1,.ptr 1 0),(3,.osl 3 54 10 (x3.map aV)),(10,.d (.sl 1 (p0.on_.map (cSl 10 aV)))),(11,vI (p0.on_.length:Int)),(12,vI x12)],[(1,lZ p0)]⟩
abbrev aQ6:=fun p0 x3 x12 (r:List aJ)=>Lok Tryz.prog 66 0 (BQ Zc Zd r) (bU5 p0 x3 x12)
def bL3 (p0:aP) (eY:List aJ) (x27:Int):St:=⟨[(1,.ptr 1 0),(3,.osl 3 54 10 (eY.map aV)),(25,uW p0.order),(26,vI (p0.order.length:Int)),(27,vI x27)],[(1,lZ p0)]⟩
abbrev aWn:=fun p0 eY x27 (r:List aJ)=>Lok Tryz.prog 66 1 (BQ Zc Zd r) (bL3 p0 eY x27)

def bMc (p1:List (List Int)) (y1:(List Int)×Bool) (p2:aP) (p0:aQ) (x41:Int):St:=⟨[(1,.d (.sl 1 (p1.map (cSl 1 cI)))),(3,.ptr 3 0),(5,.ptr 5 0),(8,.osl 8 3 1 (y1.1.map cI)),(39,.d (.sl 1 (p2.on_.map (cSl 10 aV)))),(40,vI (p2.on_.length:Int)),(41,vI x41)],[(3,dN p0),(5,lZ p2)]⟩
abbrev aVe:=fun p1 y1 p2 p0 x41 (r:(List Int)×Bool)=>Lok Tryz.prog 34 0 (BQ Ze Zf r) (bMc p1 y1 p2 p0 x41)
def bKq (y9:List (List Int)) (p2:aP) (p0:aQ) (x76:Int):St:=⟨[(3,.ptr 3 0),(5,.ptr 5 0),(14,.osl 14 30 1 (y9.map (cSl 1 cI))),(74,uW p2.order),(75,vI (p2.order.length:Int)),(76,vI x76)],[(3,dN p0),(5,lZ p2)]⟩
abbrev aUl:=fun y9 p2 p0 x76 (r:(List Int)×Bool)=>Lok Tryz.prog 34 1 (BQ Ze Zf r) (bKq y9 p2 p0 x76)
def bVi (y9:List (List Int)) (p2:aP) (p0:aQ) (x19:List Int) (x95:Int):St:=⟨[(3,.ptr 3 0),(14,.osl 14 30 1 (y9.map (cSl 1 cI))),(19,.osl 19 3 1 (x19.map cI)),(93,fH p2.items),(94,vI (p2.items.length:Int)),(95,vI x95)],[(3,dN p0)]⟩
abbrev aWm:=fun y9 p2 p0 x19 x95 (r:(List Int)×Bool)=>Lok Tryz.prog 34 2 (BQ Ze Zf r) (bVi y9 p2 p0 x19 x95)


def bRv (p0:List (List aJ)) (x8:Int):St:=⟨[(0,.d (.sl 1 (p0.map (cSl 10 aV)))),(1,.fn 111 []),(7,vI (p0.length:Int)),(8,vI x8)],[]⟩
abbrev aQc:=fun p0 x8 r=>Lok Tryz.prog 153 0 (PQ (fun y=>(vI y)) r) (bRv p0 x8)


def bJh (p0:List (List UInt8)) (x8:Int):St:=⟨[(0,aNv p0),(1,.fn 113 []),(7,vI (p0.length:Int)),(8,vI x8)],[]⟩
abbrev aRl:=fun p0 x8 r=>Lok Tryz.prog 154 0 (PQ (fun y=>(vI y)) r) (bJh p0 x8)

def bRm (p1:List Int) (p0:aQ) (x6:List Int) (x12:Int):St:=⟨[(2,.ptr 2 0),(6,.osl 6 3 1 (x6.map cI)),(10,fQ p1),(11,vI (p1.length:Int)),(12,vI x12)],[(2,dN p0)]⟩
abbrev aW9:=fun p1 p0 x6 x12 (r:(List Int)×Bool)=>Lok Tryz.prog 68 0 (BQ Ze Zf r) (bRm p1 p0 x6 x12)



def bW6 (p0:List aJ) (c0:aQ) (c1_0:List (List Int)) (x8:Int):St:=⟨[(0,fH p0),(1,.fn 115 [.ptr 241 0,.ptr 242 0]),(7,vI (p0.length:Int)),(8,vI x8)],[(241,dN c0),(242,[.d (.sl 1 (c1_0.map (cSl 1 cI)))])]⟩
abbrev aSd:=fun p0 c0 c1_0 x8 r=>Lok Tryz.prog 155 0 (BQ Zi (fun (y:Int)=>[(241,dN c0),(242,[.d (.sl 1 (c1_0.map (cSl 1 cI)))])]) r) (bW6 p0 c0 c1_0 x8)


def bO7 (p1:List (List Int)) (p2:aJ) (p0:aQ) (x8:List Int) (x64:Int):St:=⟨[(1,.d (.sl 1 (p1.map (cSl 1 cI)))),(3,.ptr 3 0),(5,.ptr 5 0),(8,.osl 8 3 1 (x8.map cI)),(9,.osl 9 3 1 (([]:List Int).map cI)),(62,fH p2.kids),(63,vI (p2.kids.length:Int)),(64,vI x64)],[(3,dN p0),(5,uK p2)]⟩
abbrev aQb:=fun p1 p2 p0 x8 x64 (r:Int×Bool)=>Lok Tryz.prog 72 0 (PQ (fun y=>(.tup [vI y.1,vB y.2])) r) (bO7 p1 p2 p0 x8 x64)
def bUb (p1:List (List Int)) (x8:List Int) (p2:aJ) (p0:aQ) (x9:List Int) (x85:Int):St:=⟨[(1,.d (.sl 1 (p1.map (cSl 1 cI)))),(3,.ptr 3 0),(5,.ptr 5 0),(8,.osl 8 3 1 (x8.map cI)),(9,.osl 9 3 1 (x9.map cI)),(83,aLc p2.sub),(84,vI (p2.sub.length:Int)),(85,vI x85)],[(3,dN p0),(5,uK p2)]⟩
abbrev aUq:=fun p1 x8 p2 p0 x9 x85 (r:Int×Bool)=>Lok Tryz.prog 72 1 (PQ (fun y=>(.tup [vI y.1,vB y.2])) r) (bUb p1 x8 p2 p0 x9 x85)



def bWg (p1:List Int) (p2:List Int) (x40:Bool):St:=⟨[(1,fQ p1),(2,fQ p2),(40,vB x40)],[]⟩
abbrev cD0:=fun p1 p2 x40 (r:Int×Bool)=>Jok Tryz.prog 118 9 (PQ (fun y=>(.tup [vI y.1,vB y.2])) r) (bWg p1 p2 x40)
def bVm (x8:Int) (x9:Bool):St:=⟨[(8,vI x8),(9,vB x9)],[]⟩
abbrev bNg:=fun x8 x9 (r:Int×Bool)=>Jok Tryz.prog 158 2 (PQ (fun y=>(.tup [vI y.1,vB y.2])) r) (bVm x8 x9)





def bOg (p0:List Int) (x4:Int) (x11:Int):St:=⟨[(4,vI x4),(9,fQ p0),(10,vI (p0.length:Int)),(11,vI x11)],[]⟩
abbrev aTh:=fun p0 x4 x11 (r:Int×Bool)=>Lok Tryz.prog 159 0 (PQ (fun y=>(.tup [vI y.1,vB y.2])) r) (bOg p0 x4 x11)

def bU1 (p0:List aJ) (x3:Int) (x8:Int):St:=⟨[(3,vI x3),(6,fH p0),(7,vI (p0.length:Int)),(8,vI x8)],[]⟩
abbrev aQd:=fun p0 x3 x8 r=>Lok Tryz.prog 67 0 (PQ (fun y=>(vI y)) r) (bU1 p0 x3 x8)
def bQn (p0:aJ) (x3:Int) (x13:Int):St:=⟨[(3,vI x3),(11,aLc p0.sub),(12,vI (p0.sub.length:Int)),(13,vI x13)],[]⟩
abbrev aXv:=fun p0 x3 x13 r=>Lok Tryz.prog 109 0 (PQ (fun y=>(vI y)) r) (bQn p0 x3 x13)
def cDn (p3:aP) (p0:aQ) (p1:GDb) (p2:List (List aA)) (x40:Int) (eG:List (List (List aA))):St:=⟨[(4,.ptr 4 0),(5,.ptr 5 0),(6,.ptr 6 0),(7,.ptr 7 0),(10,.ptr 10 0),(38,fQ p3.tables),(39,vI (p3.tables.length:Int)),(40,vI x40)],[(4,dN p0),(5,mM p1),(6,[.d (.sl 1 (p2.map (cSl 3 aB)))]),(7,lZ p3),(10,[.osl 62 40 1 (eG.map (cSl 1 (cSl 3 aB))),.nil 1,.nil 1,.nil 2,.nf,vB p3.distinct,vI p3.limit])]⟩
abbrev aQy:=fun p3 p0 p1 p2 x40 eG (r:(List (List aA))×Int)=>Lok Tryz.prog 17 0 (PQ (fun y=>(.tup [.d (.sl 1 (y.1.map (cSl 3 aB))),vI y.2])) r) (cDn p3 p0 p1 p2 x40 eG)
def bQb (p0:aQ) (p1:GDb) (p2:List (List aA)) (p3:aP) (eG:List (List (List aA))) (x69:Int) (gX:List (List bP)):St:=⟨[(7,.ptr 7 0),(10,.ptr 10 0),(13,.d (aW5 (nR.mk p0 p1 p2))),(67,.d (.sl 1 (p3.on_.map (cSl 10 aV)))),(68,vI (p3.on_.length:Int)),(69,vI x69)],[(7,lZ p3),(10,[.osl 62 40 1 (eG.map (cSl 1 (cSl 3 aB))),.osl 79 85 1 (gX.map (cSl 1 iC)),.nil 1,.nil 2,.nf,vB p3.distinct,vI p3.limit])]⟩
abbrev aWo:=fun p0 p1 p2 p3 eG x69 gX (r:(List (List aA))×Int)=>Lok Tryz.prog 17 1 (PQ (fun y=>(.tup [.d (.sl 1 (y.1.map (cSl 3 aB))),vI y.2])) r) (bQb p0 p1 p2 p3 eG x69 gX)
def bNl (p0:aQ) (p1:GDb) (p2:List (List aA)) (p3:aP) (eG:List (List (List aA))) (gX:List (List bP)) (ky9:(List bP)×Int×(List mO)):St:=⟨[(7,.ptr 7 0),(10,.ptr 10 0),(13,.d (aW5 (nR.mk p0 p1 p2))),(88,uW p3.order),(89,vI (p3.order.length:Int)),(90,vI ky9.2.1)],[(7,lZ p3),(10,[.osl 62 40 1 (eG.map (cSl 1 (cSl 3 aB))),.osl 79 85 1 (gX.map (cSl 1 iC)),.osl 85 96 1 (ky9.1.map iC),.osl 107 98 2 (ky9.2.2.map vN),.nf,vB p3.distinct,vI p3.limit])]⟩
abbrev aS3:=fun p0 p1 p2 p3 eG gX ky9 (r:(List (List aA))×Int)=>Lok Tryz.prog 17 2 (PQ (fun y=>(.tup [.d (.sl 1 (y.1.map (cSl 3 aB))),vI y.2])) r) (bNl p0 p1 p2 p3 eG gX ky9)
def cAv (y2:(List (List aA))×Int) (p0:eP) (x6:List (List aA)) (x31:Int):St:=⟨[(1,.ptr 1 0),(6,.osl 6 62 1 (x6.map (cSl 3 aB))),(29,.osl 4 62 1 (y2.1.map (cSl 3 aB))),(30,vI (y2.1.length:Int)),(31,vI x31)],[(1,aBa p0)]⟩
abbrev aYi:=fun y2 p0 x6 x31 (r:(List (List aA))×Int)=>Lok Tryz.prog 44 0 (PQ (fun y=>(.tup [.d (.sl 1 (y.1.map (cSl 3 aB))),vI y.2])) r) (cAv y2 p0 x6 x31)
def cA9 (p0:eP) (vK:List (List aA)):St:=⟨[(1,.ptr 1 0),(6,.osl 6 62 1 (vK.map (cSl 3 aB)))],[(1,aBa p0)]⟩
abbrev bN8:=fun p0 vK (r:(List (List aA))×Int)=>Jok Tryz.prog 44 20 (PQ (fun y=>(.tup [.d (.sl 1 (y.1.map (cSl 3 aB))),vI y.2])) r) (cA9 p0 vK)
def bT5 (V9:List (List aA)):St:=⟨[(6,.d (.sl 1 (V9.map (cSl 3 aB))))],[]⟩
abbrev bRo:=fun V9 (r:(List (List aA))×Int)=>Jok Tryz.prog 44 22 (PQ (fun y=>(.tup [.d (.sl 1 (y.1.map (cSl 3 aB))),vI y.2])) r) (bT5 V9)
def bT2 (p0:eP) (x4:List (List aA)) (x19:Int):St:=⟨[(1,.ptr 1 0),(4,.d (.sl 1 (x4.map (cSl 3 aB)))),(17,.d (.sl 1 (p0.tables.map (cSl 1 (cSl 3 aB))))),(18,vI (p0.tables.length:Int)),(19,vI x19)],[(1,aBa p0)]⟩
abbrev aXp:=fun p0 x4 x19 (r:(List (List aA))×Int)=>Lok Tryz.prog 77 0 (PQ (fun y=>(.tup [.d (.sl 1 (y.1.map (cSl 3 aB))),vI y.2])) r) (bT2 p0 x4 x19)
def bT4 (x19:Int) (y1:List (List aA)) (p0:eP) (x4:List (List aA)) (x7:List (List aA)) (x27:Int):St:=⟨[(1,.ptr 1 0),(5,vI x19),(6,.d (.sl 1 (y1.map (cSl 3 aB)))),(7,.osl 7 62 1 (x7.map (cSl 3 aB))),(17,.d (.sl 1 (p0.tables.map (cSl 1 (cSl 3 aB))))),(18,vI (p0.tables.length:Int)),(19,vI x19),(25,.d (.sl 1 (x4.map (cSl 3 aB)))),(26,vI (x4.length:Int)),(27,vI x27)],[(1,aBa p0)]⟩
abbrev aYa:=fun x19 y1 p0 x4 x7 x27 (r:(List (List aA))×Int)=>Lok Tryz.prog 77 1 (PQ (fun y=>(.tup [.d (.sl 1 (y.1.map (cSl 3 aB))),vI y.2])) r) (bT4 x19 y1 p0 x4 x7 x27)
def bWo (x19:Int) (y1:List (List aA)) (y3:List aA) (p0:eP) (x4:List (List aA)) (x27:Int) (mG:(List (List aA))×Int):St:=⟨[(1,.ptr 1 0),(5,vI x19),(6,.d (.sl 1 (y1.map (cSl 3 aB)))),(7,.osl 7 62 1 (mG.1.map (cSl 3 aB))),(9,eQ y3),(17,.d (.sl 1 (p0.tables.map (cSl 1 (cSl 3 aB))))),(18,vI (p0.tables.length:Int)),(19,vI x19),(25,.d (.sl 1 (x4.map (cSl 3 aB)))),(26,vI (x4.length:Int)),(27,vI x27),(31,.d (.sl 1 (y1.map (cSl 3 aB)))),(32,vI (y1.length:Int)),(33,vI mG.2)],[(1,aBa p0)]⟩
abbrev aVf:=fun x19 y1 y3 p0 x4 x27 mG (r:(List (List aA))×Int)=>Lok Tryz.prog 77 2 (PQ (fun y=>(.tup [.d (.sl 1 (y.1.map (cSl 3 aB))),vI y.2])) r) (bWo x19 y1 y3 p0 x4 x27 mG)
def cCa (p1:List bP) (x0:List (List aA)) (x15:Int):St:=⟨[(0,.d (.sl 1 (x0.map (cSl 3 aB)))),(13,xN p1),(14,vI (p1.length:Int)),(15,vI x15)],[]⟩
abbrev aYt:=fun p1 x0 x15 (r:(List (List aA))×Int)=>Lok Tryz.prog 126 0 (PQ (fun y=>(.tup [.d (.sl 1 (y.1.map (cSl 3 aB))),vI y.2])) r) (cCa p1 x0 x15)
def bRw (y1:bP) (p1:List bP) (x15:Int) (x0:List (List aA)) (x8:List (List aA)) (x22:Int):St:=⟨[(7,.d (aOi y1)),(8,.osl 8 62 1 (x8.map (cSl 3 aB))),(13,xN p1),(14,vI (p1.length:Int)),(15,vI x15),(20,.d (.sl 1 (x0.map (cSl 3 aB)))),(21,vI (x0.length:Int)),(22,vI x22)],[]⟩
abbrev aVg:=fun y1 p1 x15 x0 x8 x22 (r:(List (List aA))×Int)=>Lok Tryz.prog 126 1 (PQ (fun y=>(.tup [.d (.sl 1 (y.1.map (cSl 3 aB))),vI y.2])) r) (bRw y1 p1 x15 x0 x8 x22)
def bL1 (y1:bP) (p1:List bP) (x15:Int) (x0:List (List aA)) (x22:Int) (qH:List (List aA)):St:=⟨[(7,.d (aOi y1)),(8,.osl 8 62 1 (qH.map (cSl 3 aB))),(13,xN p1),(14,vI (p1.length:Int)),(15,vI x15),(20,.d (.sl 1 (x0.map (cSl 3 aB)))),(21,vI (x0.length:Int)),(22,vI x22)],[]⟩
abbrev aVh:=fun y1 p1 x15 x0 x22 qH (r:(List (List aA))×Int)=>Jok Tryz.prog 126 12 (PQ (fun y=>(.tup [.d (.sl 1 (y.1.map (cSl 3 aB))),vI y.2])) r) (bL1 y1 p1 x15 x0 x22 qH)


def cCh (p2:List (List aA)) (p3:aJ) (p0:aQ) (p1:GDb) (x81:Int) (gL:List aA):St:=⟨[(2,.d (.sl 1 (p2.map (cSl 3 aB)))),(4,.ptr 4 0),(5,.ptr 5 0),(7,.ptr 7 0),(8,.ptr 8 0),(10,.ptr 10 0),(79,fH p3.kids),(80,vI (p3.kids.length:Int)),(81,vI x81)],[(4,dN p0),(5,mM p1),(7,uK p3),(8,[vI 0,vI 0,vS []]),(10,[vI p3.kind,vI p3.op,vB p3.not_,vI p3.value.kind,vI p3.value.num,vS p3.value.text,.osl 101 51 3 (gL.map aB),.nil 1])]⟩
abbrev aUz:=fun p2 p3 p0 p1 x81 gL (r:aA×Int)=>Lok Tryz.prog 41 0 (PQ (fun y=>(.tup [bN y.1,vI y.2])) r) (cCh p2 p3 p0 p1 x81 gL)
def cBe (p2:List (List aA)) (p3:aJ) (p0:aQ) (p1:GDb) (gL:List aA) (nT:Int) (qI:List (List aA)):St:=⟨[(2,.d (.sl 1 (p2.map (cSl 3 aB)))),(4,.ptr 4 0),(5,.ptr 5 0),(8,.ptr 8 0),(10,.ptr 10 0),(105,aLc p3.sub),(106,vI (p3.sub.length:Int)),(107,vI nT)],[(4,dN p0),(5,mM p1),(8,[vI 0,vI 0,vS []]),(10,[vI p3.kind,vI p3.op,vB p3.not_,vI p3.value.kind,vI p3.value.num,vS p3.value.text,.osl 101 51 3 (gL.map aB),.d (.sl 1 (qI.map (cSl 3 aB)))])]⟩
abbrev aQk:=fun p2 p3 p0 p1 gL nT qI (r:aA×Int)=>Lok Tryz.prog 41 1 (PQ (fun y=>(.tup [bN y.1,vI y.2])) r) (cBe p2 p3 p0 p1 gL nT qI)

def bU7 (jV:Int):St:=⟨[(2,.ptr 2 0),(3,.ptr 3 0)],[(2,[vI 0,vI 0,vS []]),(3,uJ (aA.mk 3 jV []))]⟩
abbrev cDa:=fun jV r=>Jok Tryz.prog 123 2 (PQ (fun y=>(bN y)) r) (bU7 jV)
def bK0 (p0:nW) (x4:List aA) (x42:Int):St:=⟨[(1,.ptr 1 0),(2,.ptr 2 0),(4,.osl 4 51 3 (x4.map aB)),(40,.d (.sl 1 (p0.rows.map (cSl 3 aB)))),(41,vI (p0.rows.length:Int)),(42,vI x42)],[(1,bXb p0),(2,[vI 0,vI 0,vS []])]⟩
abbrev aSs:=fun p0 x4 x42 (r:aA×Int)=>Lok Tryz.prog 124 0 (PQ (fun y=>(.tup [bN y.1,vI y.2])) r) (bK0 p0 x4 x42)






def bJj (p0:List Int) (x8:Int):St:=⟨[(3,vI 0),(6,fQ p0),(7,vI (p0.length:Int)),(8,vI x8)],[]⟩
abbrev aQ7:=fun p0 x8 r=>Lok Tryz.prog 171 0 (PQ (fun y=>(vI y)) r) (bJj p0 x8)


def bWk (p0:Int) (p1:aA) (p2:aA) (x15:Int):St:=⟨[(0,vI p0),(4,.ptr 4 0),(5,.ptr 5 0),(6,.ptr 6 0),(13,.osl 13 51 3 (([p1,p2]:List aA).map aB)),(14,vI (([p1,p2]:List aA).length:Int)),(15,vI x15)],[(4,uJ p1),(5,uJ p2),(6,[vI 0,vI 0,vS []])]⟩
abbrev aTj:=fun p0 p1 p2 x15 (r:aA×Int)=>Lok Tryz.prog 162 0 (PQ (fun y=>(.tup [bN y.1,vI y.2])) r) (bWk p0 p1 p2 x15)
def bRx (x8:Int) (x9:Bool):St:=⟨[(6,.ptr 6 0),(8,vI x8),(9,vB x9)],[(6,[vI 0,vI 0,vS []])]⟩
abbrev cD1:=fun x8 x9 (r:aA×Int)=>Jok Tryz.prog 161 2 (PQ (fun y=>(.tup [bN y.1,vI y.2])) r) (bRx x8 x9)







def bNs (p1:List aA) (p0:aA) (x14:Int) (iU:Int) (iW:Int) (iV:List UInt8):St:=⟨[(2,.ptr 2 0),(4,.ptr 4 0),(6,.ptr 6 0),(12,eQ p1),(13,vI (p1.length:Int)),(14,vI x14)],[(2,uJ p0),(4,[vI 0,vI 0,vS []]),(6,uJ (aA.mk iU iW iV))]⟩
abbrev bA4:=fun p1 p0 x14 iU iW iV (r:aA×Int)=>Lok Tryz.prog 167 0 (PQ (fun y=>(.tup [bN y.1,vI y.2])) r) (bNs p1 p0 x14 iU iW iV)


def bWb (p0:Int) (aA2:Int):St:=⟨[(2,.ptr 2 0),(4,.ptr 4 0)],[(2,[vB false,vB false,vB false,vB false,vI 0,vI 0,vI 0]),(4,[vI p0,vI aA2,vB false,vI 0,vI 0,vS [],vS [],vS [120],.nil 10,.nil 6])]⟩
abbrev cDr:=fun p0 aA2 (r:kR×Bool)=>Jok Tryz.prog 120 2 (PQ (fun y=>(.tup [aY2 y.1,vB y.2])) r) (bWb p0 aA2)
def bVk (p0:List (List aA)) (x3:Int) (x11:Int):St:=⟨[(0,.d (.sl 1 (p0.map (cSl 3 aB)))),(3,vI x3),(9,.d (.sl 1 (p0.map (cSl 3 aB)))),(10,vI (p0.length:Int)),(11,vI x11)],[]⟩
abbrev Zj (y:List aA):V:=(.osl 243 51 3 (y.map aB))
abbrev Zk (y:List aA):List (Nat×List V):=[]
abbrev aVs:=fun p0 x3 x11 (r:List aA)=>Lok Tryz.prog 125 0 (BQ Zj Zk r) (bVk p0 x3 x11)
def bU6 (p0:List (List aA)) (x3:Int) (y1:List aA) (x11:Int):St:=⟨[(0,.d (.sl 1 (p0.map (cSl 3 aB)))),(3,vI (QA .i64 (x3+(y1.length:Int)))),(9,.d (.sl 1 (p0.map (cSl 3 aB)))),(10,vI (p0.length:Int)),(11,vI x11)],[]⟩
abbrev aSe:=fun p0 x3 y1 x11 (r:List aA)=>Jok Tryz.prog 125 6 (BQ Zj Zk r) (bU6 p0 x3 y1 x11)
def bVw (p0:List (List aA)) (x6:List aA) (x27:Int):St:=⟨[(6,.osl 6 51 3 (x6.map aB)),(25,.d (.sl 1 (p0.map (cSl 3 aB)))),(26,vI (p0.length:Int)),(27,vI x27)],[]⟩
abbrev aR6:=fun p0 x6 x27 (r:List aA)=>Lok Tryz.prog 125 1 (BQ Zj Zk r) (bVw p0 x6 x27)

def bJs (p0:List (List aA)) (x3:List (List aA)) (x9:Int):St:=⟨[(3,.osl 3 62 1 (x3.map (cSl 3 aB))),(7,.d (.sl 1 (p0.map (cSl 3 aB)))),(8,vI (p0.length:Int)),(9,vI x9)],[]⟩
abbrev Zl (y:List (List aA)):V:=(.osl 243 62 1 (y.map (cSl 3 aB)))
abbrev Zm (y:List (List aA)):List (Nat×List V):=[]
abbrev aXf:=fun p0 x3 x9 (r:List (List aA))=>Lok Tryz.prog 79 0 (BQ Zl Zm r) (bJs p0 x3 x9)
def bSi (p0:List (List aA)) (x9:Int) (qD:List (List aA)):St:=⟨[(3,.osl 3 62 1 (qD.map (cSl 3 aB))),(7,.d (.sl 1 (p0.map (cSl 3 aB)))),(8,vI (p0.length:Int)),(9,vI x9)],[]⟩
abbrev aTv:=fun p0 x9 qD (r:List (List aA))=>Jok Tryz.prog 79 6 (BQ Zl Zm r) (bSi p0 x9 qD)

def bNo (p0:List (List aA)) (c0_0:List aA) (x8:Int):St:=⟨[(0,.d (.sl 1 (p0.map (cSl 3 aB)))),(1,.fn 130 [.ptr 241 0]),(7,vI (p0.length:Int)),(8,vI x8)],[(241,[eQ c0_0])]⟩
abbrev aQe:=fun p0 c0_0 x8 r=>Lok Tryz.prog 73 0 (BQ Zi (fun (y:Int)=>[(241,[.d (.sl 3 (c0_0.map aB))])]) r) (bNo p0 c0_0 x8)

def bTi (p0:List aA) (p1:List aA) (x13:Int):St:=⟨[(0,eQ p0),(1,eQ p1),(12,vI (p0.length:Int)),(13,vI x13)],[]⟩
abbrev aX1:=fun p0 p1 x13 r=>Lok Tryz.prog 131 0 (PQ (fun y=>(vB y)) r) (bTi p0 p1 x13)

def bXh (p1:List (List aA)) (p0:eP) (x20:Int) (gY:List aU):St:=⟨[(2,.ptr 2 0),(6,.tre 346),(18,.d (.sl 1 (p1.map (cSl 3 aB)))),(19,vI (p1.length:Int)),(20,vI x20)],[(2,aBa p0),(346,[.trs 2 (gY.map bA)])]⟩
abbrev aTk:=fun p1 p0 x20 gY (r:(List (List aA))×Int)=>Lok Tryz.prog 78 0 (BQ Zg Zh r) (bXh p1 p0 x20 gY)
def bJw (y1:List aA) (p1:List (List aA)) (x20:Int) (p0:eP) (gY:List aU) (x9:List aA) (x28:Int):St:=⟨[(2,.ptr 2 0),(6,.tre 356),(8,eQ y1),(9,.osl 9 51 3 (x9.map aB)),(18,.d (.sl 1 (p1.map (cSl 3 aB)))),(19,vI (p1.length:Int)),(20,vI x20),(26,bA3 p0.order),(27,vI (p0.order.length:Int)),(28,vI x28)],[(2,aBa p0),(356,[.trs 2 (gY.map bA)])]⟩
abbrev aW8:=fun y1 p1 x20 p0 gY x9 x28 (r:(List (List aA))×Int)=>Lok Tryz.prog 78 1 (BQ Zg Zh r) (bJw y1 p1 x20 p0 gY x9 x28)
def bQz (y2:List aU) (x14:List (List aA)) (x60:Int):St:=⟨[(14,.osl 14 62 1 (x14.map (cSl 3 aB))),(58,.tre 372),(59,vI (y2.length:Int)),(60,vI x60)],[(372,[.trs 2 (y2.map bA)])]⟩
abbrev aT0:=fun y2 x14 x60 (r:(List (List aA))×Int)=>Lok Tryz.prog 78 2 (BQ Zg Zh r) (bQz y2 x14 x60)

def bNq (p1:Int) (p2:eU) (x7:Int) (x8:Int) (bC:List aU):St:=⟨[(0,.tre 244),(1,vI p1),(2,.d (lM p2)),(6,vI 20),(7,vI x7),(8,vI x8)],[(244,[.trs 2 (bC.map bA)])]⟩
abbrev Zo (y:List aU):List (Nat×List V):=[(244,[.trs 2 (y.map bA)])]
abbrev Zn (y:List aU):V:=(.tup [])
abbrev aXd:=fun p1 p2 x7 x8 bC (r:List aU)=>Lok Tryz.prog 170 0 (BQ Zn Zo r) (bNq p1 p2 x7 x8 bC)
def bW3 (p1:Int) (p2:eU) (x6:Int) (oW:List aU):St:=⟨[(0,.tre 244),(1,vI p1),(2,.d (lM p2)),(6,vI x6)],[(244,[.trs 2 (oW.map bA)])]⟩
abbrev aVl:=fun p1 p2 x6 oW (r:List aU)=>Lok Tryz.prog 170 1 (BQ Zn Zo r) (bW3 p1 p2 x6 oW)
def cCm (p1:Int) (p2:eU) (x6:Int) (nD:Int) (nL:Int) (oD:List aU):St:=⟨[(0,.tre 244),(1,vI p1),(2,.d (lM p2)),(6,vI x6),(7,vI nD),(8,vI nL)],[(244,[.trs 2 (oD.map bA)])]⟩
abbrev aQ0:=fun p1 p2 x6 nD nL oD (r:List aU)=>Lok Tryz.prog 170 2 (BQ Zn Zo r) (cCm p1 p2 x6 nD nL oD)
def bJ9 (p1:Int) (p2:eU) (x6:Int) (pW:List aU):St:=⟨[(0,.tre 244),(1,vI p1),(2,.d (lM p2)),(6,vI x6)],[(244,[.trs 2 (pW.map bA)])]⟩
abbrev aSc:=fun p1 p2 x6 pW (r:List aU)=>Jok Tryz.prog 170 16 (BQ Zn Zo r) (bJ9 p1 p2 x6 pW)
def bWh (p1:Int) (p4:eU) (p0:List aU) (x10:Int) (x11:Int):St:=⟨[(0,.tre 244),(1,vI p1),(4,.d (lM p4)),(10,vI x10),(11,vI x11)],[(244,[.trs 2 (p0.map bA)])]⟩
abbrev aS2:=fun p1 p4 p0 x10 x11 (r:List aU)=>Lok Tryz.prog 197 0 (BQ Zn Zo r) (bWh p1 p4 p0 x10 x11)
def bS5 (p2:Int) (p4:eU) (p0:List aU) (x14:Int) (x15:Int):St:=⟨[(0,.tre 244),(2,vI p2),(4,.d (lM p4)),(14,vI x14),(15,vI x15)],[(244,[.trs 2 (p0.map bA)])]⟩
abbrev aXj:=fun p2 p4 p0 x14 x15 (r:List aU)=>Lok Tryz.prog 197 2 (BQ Zn Zo r) (bS5 p2 p4 p0 x14 x15)
def cCd (p1:Int) (p2:Int) (p3:Int) (p4:eU) (p0:List aU) (x20:Int) (x21:Int):St:=⟨[(0,.tre 244),(1,vI p1),(2,vI p2),(3,vI p3),(4,.d (lM p4)),(18,vI (QA .i64 (QB (QA .u64 (QA .i64 (p1+p3))) (2 ^ 1)))),(19,vI (QA .i64 ((QA .i64 (QB (QA .u64 (QA .i64 (p1+p3))) (2 ^ 1)))+p2))),(20,vI x20),(21,vI x21)],[(244,[.trs 2 (p0.map bA)])]⟩
abbrev aX6:=fun p1 p2 p3 p4 p0 x20 x21 (r:List aU)=>Jok Tryz.prog 197 31 (BQ Zn Zo r) (cCd p1 p2 p3 p4 p0 x20 x21)
def bLn (x10:Int) (x13:Int) (bC:List aU):St:=⟨[(0,.tre 244),(10,vI x10),(13,vI x13)],[(244,[.trs 2 (bC.map bA)])]⟩
abbrev aU2:=fun x10 x13 bC (r:List aU)=>Lok Tryz.prog 197 1 (BQ Zn Zo r) (bLn x10 x13 bC)
def bPc (x14:Int) (x17:Int) (iL:List aU):St:=⟨[(0,.tre 244),(14,vI x14),(17,vI x17)],[(244,[.trs 2 (iL.map bA)])]⟩
abbrev aUu:=fun x14 x17 iL (r:List aU)=>Lok Tryz.prog 197 3 (BQ Zn Zo r) (bPc x14 x17 iL)
def cCn (p1:Int) (p2:Int) (p3:Int) (p4:eU) (p0:List aU) (dF:Int) (iI:Int):St:=⟨[(0,.tre 244),(1,vI p1),(2,vI p2),(3,vI p3),(4,.d (lM p4)),(18,vI (QA .i64 (QB (QA .u64 (QA .i64 (p1+p3))) (2 ^ 1)))),(19,vI (QA .i64 ((QA .i64 (QB (QA .u64 (QA .i64 (p1+p3))) (2 ^ 1)))+p2))),(20,vI dF),(21,vI iI),(22,vI (QA .i64 ((QA .i64 ((QA .i64 (QB (QA .u64 (QA .i64 (p1+p3))) (2 ^ 1)))+p2)) - 1)))],[(244,[.trs 2 (p0.map bA)])]⟩
abbrev aTr:=fun p1 p2 p3 p4 p0 dF iI (r:List aU)=>Lok Tryz.prog 197 4 (BQ Zn Zo r) (cCn p1 p2 p3 p4 p0 dF iI)
def cDt (p1:Int) (p3:Int) (p4:eU) (dF:Int) (p2:Int) (oP:List aU):St:=⟨[(0,.tre 244),(1,vI p1),(3,vI p3),(4,.d (lM p4)),(18,vI (QA .i64 (QB (QA .u64 (QA .i64 (p1+p3))) (2 ^ 1)))),(20,vI dF),(24,vI (QA .i64 ((QA .i64 ((QA .i64 (QB (QA .u64 (QA .i64 (p1+p3))) (2 ^ 1)))+p2)) - dF)))],[(244,[.trs 2 (oP.map bA)])]⟩
abbrev aS4:=fun p1 p3 p4 dF p2 oP (r:List aU)=>Jok Tryz.prog 197 42 (BQ Zn Zo r) (cDt p1 p3 p4 dF p2 oP)
def bYy (p3:Int) (p4:eU) (p1:Int) (p2:Int) (dF:Int) (oZ:List aU):St:=⟨[(0,.tre 244),(3,vI p3),(4,.d (lM p4)),(18,vI (QA .i64 (QB (QA .u64 (QA .i64 (p1+p3))) (2 ^ 1)))),(24,vI (QA .i64 ((QA .i64 ((QA .i64 (QB (QA .u64 (QA .i64 (p1+p3))) (2 ^ 1)))+p2)) - dF)))],[(244,[.trs 2 (oZ.map bA)])]⟩
abbrev aZn:=fun p3 p4 p1 p2 dF oZ (r:List aU)=>Jok Tryz.prog 197 44 (BQ Zn Zo r) (bYy p3 p4 p1 p2 dF oZ)
def bNf (p2:eP) (p0:aU) (p1:aU) (x12:Int):St:=⟨[(3,.ptr 3 0),(4,.ptr 4 0),(10,bA3 p2.order),(11,vI (p2.order.length:Int)),(12,vI x12)],[(3,aMe p0),(4,aMe p1)]⟩
abbrev aQu:=fun p2 p0 p1 x12 r=>Lok Tryz.prog 128 0 (PQ (fun y=>(vI y)) r) (bNf p2 p0 p1 x12)
def bLs (p2:eP) (x12:Int) (p0:aU) (p1:aU) (x8:Int):St:=⟨[(3,.ptr 3 0),(4,.ptr 4 0),(8,vI x8),(10,bA3 p2.order),(11,vI (p2.order.length:Int)),(12,vI x12)],[(3,aMe p0),(4,aMe p1)]⟩
abbrev aQn:=fun p2 x12 p0 p1 x8 r=>Jok Tryz.prog 128 8 (PQ (fun y=>(vI y)) r) (bLs p2 x12 p0 p1 x8)
def bYf (p2:Int) (p4:eU) (x10:Int) (x11:Int) (bC:List aU):St:=⟨[(0,.tre 244),(2,vI p2),(4,.d (lM p4)),(10,vI x10),(11,vI x11)],[(244,[.trs 2 (bC.map bA)])]⟩
abbrev aZ3:=fun p2 p4 x10 x11 bC (r:List aU)=>Lok Tryz.prog 203 0 (BQ Zn Zo r) (bYf p2 p4 x10 x11 bC)
def bKk (p1:Int) (p2:Int) (p3:Int) (x10:Int) (bC:List aU):St:=⟨[(0,.tre 244),(1,vI p1),(2,vI p2),(3,vI p3),(10,vI x10)],[(244,[.trs 2 (bC.map bA)])]⟩
abbrev aUa:=fun p1 p2 p3 x10 bC (r:List aU)=>Lok Tryz.prog 204 0 (BQ Zn Zo r) (bKk p1 p2 p3 x10 bC)
def bSx (p1:Int) (p2:Int) (p3:eU) (x8:Int) (bC:List aU):St:=⟨[(0,.tre 244),(1,vI p1),(2,vI p2),(3,.d (lM p3)),(8,vI x8)],[(244,[.trs 2 (bC.map bA)])]⟩
abbrev aV7:=fun p1 p2 p3 x8 bC (r:List aU)=>Lok Tryz.prog 196 0 (BQ Zn Zo r) (bSx p1 p2 p3 x8 bC)
def bOf (p1:Int) (p2:Int) (p3:eU) (x8:Int) (x9:Int) (fB:List aU):St:=⟨[(0,.tre 244),(1,vI p1),(2,vI p2),(3,.d (lM p3)),(8,vI x8),(9,vI x9)],[(244,[.trs 2 (fB.map bA)])]⟩
abbrev bA1:=fun p1 p2 p3 x8 x9 fB (r:List aU)=>Lok Tryz.prog 196 1 (BQ Zn Zo r) (bOf p1 p2 p3 x8 x9 fB)

def bY8 (p1:List aA) (p0:List bP) (x6:List aA) (x14:Int):St:=⟨[(1,eQ p1),(6,.osl 6 51 3 (x6.map aB)),(12,xN p0),(13,vI (p0.length:Int)),(14,vI x14)],[]⟩
abbrev Zp (y:(List aA)×Int):V:=(.tup [.osl 243 51 3 (y.1.map aB),vI y.2])
abbrev Zq (y:(List aA)×Int):List (Nat×List V):=[]
abbrev aUp:=fun p1 p0 x6 x14 (r:(List aA)×Int)=>Lok Tryz.prog 43 0 (BQ Zp Zq r) (bY8 p1 p0 x6 x14)
def bOq (p1:aQ) (p2:GDb) (p3:List (List aA)) (p0:List aJ) (x6:List bP) (x12:Int):St:=⟨[(1,.rp [.sl 2 (p1.tables.map lG)]),(2,.rp [.sl 1 (p2.tables.map jZ)]),(3,.rp [.sl 1 (p3.map (cSl 3 aB))]),(6,.osl 6 96 1 (x6.map iC)),(10,fH p0),(11,vI (p0.length:Int)),(12,vI x12)],[]⟩
abbrev Zr (y:List bP):V:=(.osl 243 96 1 (y.map iC))
abbrev aZd:=fun p1 p2 p3 p0 x6 x12 (r:List bP)=>Lok Tryz.prog 39 0 (BQ Zr (fun (y:List bP)=>[]) r) (bOq p1 p2 p3 p0 x6 x12)

def bSg (p0:List (List aA)) (p1:List (List aA)) (x5:Int):St:=⟨[(0,.d (.sl 1 (p0.map (cSl 3 aB)))),(1,.d (.sl 1 (p1.map (cSl 3 aB)))),(5,vI x5)],[]⟩
abbrev aUc:=fun p0 p1 x5 r=>Lok Tryz.prog 9 0 (PQ (fun y=>(vB y)) r) (bSg p0 p1 x5)


def bMh (p1:Int) (y1:aQ×aL) (x7:List Int) (dU:List Int) (dJ:Int) (dV:Int):St:=⟨[(0,.ptr 241 0),(1,vI p1),(4,.ptr 4 0),(5,.ptr 5 0),(6,.ptr 6 0),(7,.osl 7 3 1 (x7.map cI))],[(4,[.nil 2]),(5,[.nil 1,.nil 1,.nil 10,.nil 11,.nil 10,.nil 1,vB false,vI 0]),(6,dN y1.1),(241,aZ (aL.mk dU dJ dV))]⟩
abbrev Zu (y:aQ×aP×aL):List (Nat×List V):=[(271,[.trc 1 (y.2.1.tables.map cI)]),(272,[.trc 1 (y.2.1.on_.map (cSl 10 aV))]),(273,[.trc 10 (y.2.1.where_.map aV)]),(274,[.trc 11 (y.2.1.order.map jA)]),(275,[.trc 10 (y.2.1.items.map aV)]),(276,[.trc 1 (y.2.1.names.map cStr)]),(241,aZ y.2.2)]
abbrev Zt (y:aQ×aP×aL):V:=(.tup [cK y.1,.agv [.tre 271,.tre 272,.tre 273,.tre 274,.tre 275,.tre 276,vB y.2.1.distinct,vI y.2.1.limit]])
abbrev cCj:=fun p1 y1 x7 dU dJ dV (r:aQ×aP×aL)=>Jok Tryz.prog 24 3 (BQ Zt Zu r) (bMh p1 y1 x7 dU dJ dV)
def bJr (p2:List (List Int)) (p3:List Int) (p4:Int) (y2:Int×aL) (p1:aQ) (y1:Bool×aL) (kx13:Int×(List Int)×Int×Int×(((List (List aJ))×(List Int)))):St:=⟨[(0,.ptr 241 0),(2,.d (.sl 1 (p2.map (cSl 1 cI)))),(3,fQ p3),(4,vI p4),(6,.ptr 6 0),(10,.ptr 10 0),(11,.ptr 11 0),(12,vI (QA .i64 (1+y2.1))),(13,vI kx13.1)],[(6,dN p1),(10,[.nil 1,.nil 1,.nil 10,.nil 11,.nil 10,.nil 1,vB false,vI 0]),(11,[.tre 347,.tre 348,.nil 10,.nil 11,.nil 10,.nil 1,vB y1.1,vI (-1)]),(241,aZ (aL.mk kx13.2.1 kx13.2.2.1 kx13.2.2.2.1)),(348,[.trc 1 (kx13.2.2.2.2.1.map (cSl 10 aV))]),(347,[.trc 1 (kx13.2.2.2.2.2.map cI)])]⟩
abbrev Zw (y:aP×aL):List (Nat×List V):=[(263,[.trc 1 (y.1.tables.map cI)]),(264,[.trc 1 (y.1.on_.map (cSl 10 aV))]),(265,[.trc 10 (y.1.where_.map aV)]),(266,[.trc 11 (y.1.order.map jA)]),(267,[.trc 10 (y.1.items.map aV)]),(268,[.trc 1 (y.1.names.map cStr)]),(241,aZ y.2)]
abbrev Zv (y:aP×aL):V:=(.agv [.tre 263,.tre 264,.tre 265,.tre 266,.tre 267,.tre 268,vB y.1.distinct,vI y.1.limit])
abbrev aX8:=fun p2 p3 p4 y2 p1 y1 kx13 (r:aP×aL)=>Lok Tryz.prog 57 0 (BQ Zv Zw r) (bJr p2 p3 p4 y2 p1 y1 kx13)
def bZ3 (p2:List (List Int)) (p3:List Int) (p4:Int) (y2:Int×aL) (x13:Int) (p1:aQ) (y1:Bool×aL) (ky4:(List Int)×(((List (List aJ))×(List Int)×Int×Int×(List aJ)))):St:=⟨[(0,.ptr 241 0),(2,.d (.sl 1 (p2.map (cSl 1 cI)))),(3,fQ p3),(4,vI p4),(6,.ptr 6 0),(10,.ptr 10 0),(11,.ptr 11 0),(12,vI (QA .i64 (1+y2.1))),(13,vI x13),(16,.tre 365)],[(6,dN p1),(10,[.nil 1,.nil 1,.nil 10,.nil 11,.nil 10,.nil 1,vB false,vI 0]),(11,[.tre 366,.tre 367,.nil 10,.nil 11,.nil 10,.nil 1,vB y1.1,vI (-1)]),(241,aZ (aL.mk ky4.2.2.1 ky4.2.2.2.1 ky4.2.2.2.2.1)),(365,[.trc 10 (ky4.2.2.2.2.2.map aV)]),(366,[.trc 1 (ky4.1.map cI)]),(367,[.trc 1 (ky4.2.1.map (cSl 10 aV))])]⟩
abbrev aVk:=fun p2 p3 p4 y2 x13 p1 y1 ky4 (r:aP×aL)=>Jok Tryz.prog 57 11 (BQ Zv Zw r) (bZ3 p2 p3 p4 y2 x13 p1 y1 ky4)
def bJq (p3:List Int) (p4:Int) (y15:List (List Int)) (p1:aQ) (y1:Bool×aL) (gH:List (List aJ)) (gD:List Int) (kx20:Int×(List Int)×Int×Int×(((List (List UInt8))×(List aJ)))):St:=⟨[(0,.ptr 241 0),(3,fQ p3),(4,vI p4),(6,.ptr 6 0),(10,.ptr 10 0),(11,.ptr 11 0),(19,.osl 19 30 1 (y15.map (cSl 1 cI))),(20,vI kx20.1)],[(6,dN p1),(10,[.nil 1,.nil 1,.nil 10,.nil 11,.nil 10,.nil 1,vB false,vI 0]),(11,[.tre 368,.tre 369,.nil 10,.nil 11,.tre 370,.tre 371,vB y1.1,vI (-1)]),(241,aZ (aL.mk kx20.2.1 kx20.2.2.1 kx20.2.2.2.1)),(371,[.trc 1 (kx20.2.2.2.2.1.map cStr)]),(370,[.trc 10 (kx20.2.2.2.2.2.map aV)]),(369,[.trc 1 (gH.map (cSl 10 aV))]),(368,[.trc 1 (gD.map cI)])]⟩
abbrev aUf:=fun p3 p4 y15 p1 y1 gH gD kx20 (r:aP×aL)=>Lok Tryz.prog 57 1 (BQ Zv Zw r) (bJq p3 p4 y15 p1 y1 gH gD kx20)
def cAx (p4:Int) (y15:List (List Int)) (p1:aQ) (y1:Bool×aL) (gJ:List (List UInt8)) (gI:List aJ) (jL:(List (List aJ))×(List Int)×(List Int)×Int×Int×(List aJ)):St:=⟨[(0,.ptr 241 0),(4,vI p4),(6,.ptr 6 0),(10,.ptr 10 0),(11,.ptr 11 0),(19,.osl 19 30 1 (y15.map (cSl 1 cI)))],[(6,dN p1),(10,[.nil 1,.nil 1,.nil 10,.nil 11,.nil 10,.nil 1,vB false,vI 0]),(11,[.tre 373,.tre 374,.tre 375,.nil 11,.tre 376,.tre 377,vB y1.1,vI (-1)]),(241,aZ (aL.mk jL.2.2.1 jL.2.2.2.1 jL.2.2.2.2.1)),(375,[.trc 10 (jL.2.2.2.2.2.map aV)]),(377,[.trc 1 (gJ.map cStr)]),(376,[.trc 10 (gI.map aV)]),(374,[.trc 1 (jL.1.map (cSl 10 aV))]),(373,[.trc 1 (jL.2.1.map cI)])]⟩
abbrev aRk:=fun p4 y15 p1 y1 gJ gI jL (r:aP×aL)=>Jok Tryz.prog 57 21 (BQ Zv Zw r) (cAx p4 y15 p1 y1 gJ gI jL)
def bLt (y1:Bool×aL) (nC:List aJ) (gJ:List (List UInt8)) (gI:List aJ) (gH:List (List aJ)) (gD:List Int) (K7:List Int) (U0:Int) (Z8:Int) (nI:List cZ):St:=⟨[(0,.ptr 241 0),(10,.ptr 10 0),(11,.ptr 11 0)],[(10,[.nil 1,.nil 1,.nil 10,.nil 11,.nil 10,.nil 1,vB false,vI 0]),(11,[.tre 378,.tre 379,.tre 380,.tre 381,.tre 382,.tre 383,vB y1.1,vI (-1)]),(241,aZ (aL.mk K7 U0 Z8)),(381,[.trc 11 (nI.map jA)]),(380,[.trc 10 (nC.map aV)]),(383,[.trc 1 (gJ.map cStr)]),(382,[.trc 10 (gI.map aV)]),(379,[.trc 1 (gH.map (cSl 10 aV))]),(378,[.trc 1 (gD.map cI)])]⟩
abbrev bQd:=fun y1 nC gJ gI gH gD K7 U0 Z8 nI (r:aP×aL)=>Jok Tryz.prog 57 23 (BQ Zv Zw r) (bLt y1 nC gJ gI gH gD K7 U0 Z8 nI)
def bL9 (y1:Bool×aL) (nI:List cZ) (nC:List aJ) (gJ:List (List UInt8)) (gI:List aJ) (gH:List (List aJ)) (gD:List Int) (zM:Int) (yQ:List Int) (F6:Int) (D8:Int):St:=⟨[(10,.ptr 10 0),(11,.ptr 11 0)],[(10,[.nil 1,.nil 1,.nil 10,.nil 11,.nil 10,.nil 1,vB false,vI 0]),(11,[.tre 384,.tre 385,.tre 386,.tre 387,.tre 388,.tre 389,vB y1.1,vI zM]),(241,aZ (aL.mk yQ F6 D8)),(387,[.trc 11 (nI.map jA)]),(386,[.trc 10 (nC.map aV)]),(389,[.trc 1 (gJ.map cStr)]),(388,[.trc 10 (gI.map aV)]),(385,[.trc 1 (gH.map (cSl 10 aV))]),(384,[.trc 1 (gD.map cI)])]⟩
abbrev bV9:=fun y1 nI nC gJ gI gH gD zM yQ F6 D8 (r:aP×aL)=>Jok Tryz.prog 57 25 (BQ Zv Zw r) (bL9 y1 nI nC gJ gI gH gD zM yQ F6 D8)


def bMx (p0:aL) (x3:Int) (dJ:Int):St:=⟨[(3,vI x3)],[(241,aZ (aL.mk p0.b dJ (QA .i64 ((QA .i64 (p0.h * 6364136223846793005))+1442695040888963407))))]⟩
abbrev Zy (y:Int×aL):List (Nat×List V):=[(241,aZ y.2)]
abbrev Zx (y:Int×aL):V:=(vI y.1)
abbrev bWc:=fun p0 x3 dJ (r:Int×aL)=>Jok Tryz.prog 58 3 (BQ Zx Zy r) (bMx p0 x3 dJ)


def bK4 (y1:aA×aL) (Z5:Int) (dU:List Int) (dJ:Int) (dV:Int):St:=⟨[(4,.ptr 4 0),(5,.ptr 5 0)],[(4,[vI 0,vI 0,vS []]),(5,uJ (aA.mk y1.1.kind Z5 y1.1.text)),(241,aZ (aL.mk dU dJ dV))]⟩
abbrev ZA (y:aA×aL):List (Nat×List V):=[(241,aZ y.2)]
abbrev Zz (y:aA×aL):V:=(bN y.1)
abbrev bZw:=fun y1 Z5 dU dJ dV (r:aA×aL)=>Jok Tryz.prog 147 2 (BQ Zz ZA r) (bK4 y1 Z5 dU dJ dV)



def bX8 (p1:List (List Int)) (p2:Int) (x7:Int) (x9:Int) (qW:Int) (qN:Int) (pU:Int) (gK:(List UInt8)×Int×Int×(List Int)×Int×Int):St:=⟨[(0,.ptr 241 0),(1,.d (.sl 1 (p1.map (cSl 1 cI)))),(2,vI p2),(6,.ptr 6 0),(7,vI x7),(8,.ptr 8 0),(9,vI x9)],[(6,[vI 0,vI 0,vB false,vI 0,vI 0,vS [],vI 0,vI 0,.nil 10,.nil 8]),(8,[vI qW,vI 0,vB false,vI qN,vI pU,vS gK.1,vI gK.2.1,vI gK.2.2.1,.nil 10,.nil 8]),(241,aZ (aL.mk gK.2.2.2.1 gK.2.2.2.2.1 gK.2.2.2.2.2))]⟩
abbrev ZB (y:aJ×aL):V:=(.agv [vI y.1.kind,vI y.1.op,vB y.1.not_,vI y.1.value.kind,vI y.1.value.num,vS y.1.value.text,vI y.1.up,vI y.1.at_,.tre 269,.tre 270])
abbrev ZC (y:aJ×aL):List (Nat×List V):=[(269,[.trc 10 (y.1.kids.map aV)]),(270,[.trc 8 (y.1.sub.map eO)]),(241,aZ y.2)]
abbrev aV1:=fun p1 p2 x7 x9 qW qN pU gK (r:aJ×aL)=>Lok Tryz.prog 148 0 (BQ ZB ZC r) (bX8 p1 p2 x7 x9 qW qN pU gK)
def bJo (p1:List (List Int)) (p2:Int) (x9:Int) (nZ:Int) (x10:Int) (qM:Int) (qJ:Int) (qY:Int) (gN:(List UInt8)×Int×Int×(List Int)×Int×Int):St:=⟨[(0,.ptr 241 0),(1,.d (.sl 1 (p1.map (cSl 1 cI)))),(2,vI p2),(6,.ptr 6 0),(7,vI nZ),(8,.ptr 8 0),(9,vI x9),(10,vI x10)],[(6,[vI 0,vI 0,vB false,vI 0,vI 0,vS [],vI 0,vI 0,.nil 10,.nil 8]),(8,[vI qM,vI 0,vB false,vI qJ,vI qY,vS gN.1,vI gN.2.1,vI gN.2.2.1,.nil 10,.nil 8]),(241,aZ (aL.mk gN.2.2.2.1 gN.2.2.2.2.1 gN.2.2.2.2.2))]⟩
abbrev aSw:=fun p1 p2 x9 nZ x10 qM qJ qY gN (r:aJ×aL)=>Lok Tryz.prog 148 1 (BQ ZB ZC r) (bJo p1 p2 x9 nZ x10 qM qJ qY gN)
def cC2 (p1:List (List Int)) (p2:Int) (x9:Int) (x10:Int) (tY:Int) (uD:Int) (tC:Int) (uF:Int) (lD:(List UInt8)×Int×Int×(List Int)×Int×Int):St:=⟨[(0,.ptr 241 0),(1,.d (.sl 1 (p1.map (cSl 1 cI)))),(2,vI p2),(6,.ptr 6 0),(7,vI tY),(8,.ptr 8 0),(9,vI x9),(10,vI x10)],[(6,[vI 0,vI 0,vB false,vI 0,vI 0,vS [],vI 0,vI 0,.nil 10,.nil 8]),(8,[vI uD,vI 0,vB false,vI tC,vI uF,vS lD.1,vI lD.2.1,vI lD.2.2.1,.nil 10,.nil 8]),(241,aZ (aL.mk lD.2.2.2.1 lD.2.2.2.2.1 lD.2.2.2.2.2))]⟩
abbrev aWy:=fun p1 p2 x9 x10 tY uD tC uF lD (r:aJ×aL)=>Jok Tryz.prog 148 11 (BQ ZB ZC r) (cC2 p1 p2 x9 x10 tY uD tC uF lD)
def bU4 (p2:List (List Int)) (p3:Int) (p4:Int) (p5:Int) (p1:aQ) (x14:Int) (iX:(List Int)×Int×Int×(List aJ)):St:=⟨[(0,.ptr 241 0),(2,.d (.sl 1 (p2.map (cSl 1 cI)))),(3,vI p3),(4,vI p4),(5,vI p5),(7,.ptr 7 0),(13,.tre 344),(14,vI x14)],[(7,dN p1),(241,aZ (aL.mk iX.1 iX.2.1 iX.2.2.1)),(344,[.trc 10 (iX.2.2.2.map aV)])]⟩
abbrev ZE (y:(List aJ)×aL):List (Nat×List V):=[(263,[.trc 10 (y.1.map aV)]),(241,aZ y.2)]
abbrev ZD (y:(List aJ)×aL):V:=(.tre 263)
abbrev aZh:=fun p2 p3 p4 p5 p1 x14 iX (r:(List aJ)×aL)=>Lok Tryz.prog 149 0 (BQ ZD ZE r) (bU4 p2 p3 p4 p5 p1 x14 iX)
def bX6 (p2:List (List Int)) (p3:Int) (y1:Int×aL) (y2:Bool×aL) (y3:Int×aL) (p1:aQ) (x18:Bool):St:=⟨[(0,.ptr 241 0),(2,.d (.sl 1 (p2.map (cSl 1 cI)))),(3,vI p3),(5,.ptr 5 0),(8,.ptr 8 0),(9,vI (QA .i64 (1+y1.1))),(10,vB y2.1),(17,vI y3.1),(18,vB x18)],[(5,dN p1),(8,[vI 0,vI 0,vB false,vI 0,vI 0,vS [],vI 0,vI 0,.nil 10,.nil 8]),(241,aZ y3.2)]⟩
abbrev aQm:=fun p2 p3 y1 y2 y3 p1 x18 (r:aJ×aL)=>Jok Tryz.prog 150 5 (BQ ZB ZC r) (bX6 p2 p3 y1 y2 y3 p1 x18)
def cCk (p2:List (List Int)) (p3:Int) (y1:Int×aL) (p1:aQ) (y3:Int×aL):St:=⟨[(0,.ptr 241 0),(2,.d (.sl 1 (p2.map (cSl 1 cI)))),(3,vI p3),(5,.ptr 5 0),(8,.ptr 8 0),(9,vI (QA .i64 (1+y1.1)))],[(5,dN p1),(8,[vI 0,vI 0,vB false,vI 0,vI 0,vS [],vI 0,vI 0,.nil 10,.nil 8]),(241,aZ y3.2)]⟩
abbrev aWc:=fun p2 p3 y1 p1 y3 (r:aJ×aL)=>Jok Tryz.prog 150 3 (BQ ZB ZC r) (cCk p2 p3 y1 p1 y3)
def bT0 (y1:Int×aL) (x6:Int) (bV:List eD) (dU:List Int) (dJ:Int) (dV:Int):St:=⟨[(0,.ptr 241 0),(2,.ptr 2 0),(3,.ptr 3 0),(4,.osl 4 9 1 (([[116],[117],[118]]:List (List UInt8)).map cStr)),(5,vI (QA .i64 (1+y1.1))),(6,vI x6)],[(2,[.nil 2]),(3,[.osl 61 79 2 (bV.map lG)]),(241,aZ (aL.mk dU dJ dV))]⟩
abbrev ZG (y:aQ×aL):List (Nat×List V):=[(241,aZ y.2)]
abbrev ZF (y:aQ×aL):V:=(cK y.1)
abbrev aZz:=fun y1 x6 bV dU dJ dV (r:aQ×aL)=>Lok Tryz.prog 56 0 (BQ ZF ZG r) (bT0 y1 x6 bV dU dJ dV)
def bRb (y1:Int×aL) (x6:Int) (y3:Int×aL) (bV:List eD) (y2:List UInt8) (x9:Int) (jS:(List gG)×(List Int)×Int×Int):St:=⟨[(0,.ptr 241 0),(2,.ptr 2 0),(3,.ptr 3 0),(4,.osl 4 9 1 (([[116],[117],[118]]:List (List UInt8)).map cStr)),(5,vI (QA .i64 (1+y1.1))),(6,vI x6),(7,.ptr 7 0),(8,vI (QA .i64 (1+y3.1))),(9,vI x9)],[(2,[.nil 2]),(3,[.osl 61 79 2 (bV.map lG)]),(7,[vS y2,.osl 55 111 2 (jS.1.map kT)]),(241,aZ (aL.mk jS.2.1 jS.2.2.1 jS.2.2.2))]⟩
abbrev aVi:=fun y1 x6 y3 bV y2 x9 jS (r:aQ×aL)=>Lok Tryz.prog 56 1 (BQ ZF ZG r) (bRb y1 x6 y3 bV y2 x9 jS)
def bMy (y1:Int×aL) (x6:Int) (y3:Int×aL) (x9:Int) (bV:List eD) (y2:List UInt8) (pE:List gG) (ky8:(Int×aL)×(List UInt8)×(List Int)×Int×Int):St:=⟨[(0,.ptr 241 0),(2,.ptr 2 0),(3,.ptr 3 0),(4,.osl 4 9 1 (([[116],[117],[118]]:List (List UInt8)).map cStr)),(5,vI (QA .i64 (1+y1.1))),(6,vI x6),(7,.ptr 7 0),(8,vI (QA .i64 (1+y3.1))),(9,vI x9),(10,.ptr 10 0)],[(2,[.nil 2]),(3,[.osl 61 79 2 (bV.map lG)]),(7,[vS y2,.osl 55 111 2 (pE.map kT)]),(10,bJp (gG.mk ky8.2.1 ky8.1.1)),(241,aZ (aL.mk ky8.2.2.1 ky8.2.2.2.1 ky8.2.2.2.2))]⟩
abbrev aS6:=fun y1 x6 y3 x9 bV y2 pE ky8 (r:aQ×aL)=>Jok Tryz.prog 56 17 (BQ ZF ZG r) (bMy y1 x6 y3 x9 bV y2 pE ky8)
def bRs (y1:Int×aL) (x6:Int) (y3:Int×aL) (x9:Int) (bV:List eD) (y2:List UInt8) (mE:(List Int)×Int×Int×(List gG)):St:=⟨[(0,.ptr 241 0),(2,.ptr 2 0),(3,.ptr 3 0),(4,.osl 4 9 1 (([[116],[117],[118]]:List (List UInt8)).map cStr)),(5,vI (QA .i64 (1+y1.1))),(6,vI x6),(7,.ptr 7 0),(8,vI (QA .i64 (1+y3.1))),(9,vI x9)],[(2,[.nil 2]),(3,[.osl 61 79 2 (bV.map lG)]),(7,[vS y2,.osl 55 111 2 (mE.2.2.2.map kT)]),(241,aZ (aL.mk mE.1 mE.2.1 mE.2.2.1))]⟩
abbrev aZt:=fun y1 x6 y3 x9 bV y2 mE (r:aQ×aL)=>Jok Tryz.prog 56 15 (BQ ZF ZG r) (bRs y1 x6 y3 x9 bV y2 mE)

def bZt (p1:aQ) (x6:Int) (dU:List Int) (dJ:Int) (dV:Int) (eT:List fM):St:=⟨[(0,.ptr 241 0),(3,.ptr 3 0),(4,.ptr 4 0),(5,.ptr 5 0),(6,vI x6)],[(3,dN p1),(4,[.nil 1]),(5,[.tre 345]),(241,aZ (aL.mk dU dJ dV)),(345,[.trs 1 (eT.map jZ)])]⟩
abbrev ZI (y:GDb×aL):List (Nat×List V):=[(263,[.trs 1 (y.1.tables.map jZ)]),(241,aZ y.2)]
abbrev ZH (y:GDb×aL):V:=(.agv [.tre 263])
abbrev aS5:=fun p1 x6 dU dJ dV eT (r:GDb×aL)=>Lok Tryz.prog 27 0 (BQ ZH ZI r) (bZt p1 x6 dU dJ dV eT)
def bKw (x6:Int) (y1:Int×aL) (p1:aQ) (eT:List fM) (x9:Int) (fU:List (List aA)) (lQ:(List Int)×Int×Int):St:=⟨[(0,.ptr 241 0),(3,.ptr 3 0),(4,.ptr 4 0),(5,.ptr 5 0),(6,vI x6),(7,.ptr 7 0),(8,vI y1.1),(9,vI x9)],[(3,dN p1),(4,[.nil 1]),(5,[.tre 356]),(7,[.osl 59 62 1 (fU.map (cSl 3 aB))]),(241,aZ (aL.mk lQ.1 lQ.2.1 lQ.2.2)),(356,[.trs 1 (eT.map jZ)])]⟩
abbrev aYm:=fun x6 y1 p1 eT x9 fU lQ (r:GDb×aL)=>Lok Tryz.prog 27 1 (BQ ZH ZI r) (bKw x6 y1 p1 eT x9 fU lQ)
def bOo (x6:Int) (y1:Int×aL) (x9:Int) (p1:aQ) (fU:List (List aA)) (eT:List fM) (x10:List aA) (kx11:Int×(List Int)×Int×Int):St:=⟨[(0,.ptr 241 0),(3,.ptr 3 0),(4,.ptr 4 0),(5,.ptr 5 0),(6,vI x6),(7,.ptr 7 0),(8,vI y1.1),(9,vI x9),(10,.osl 10 51 3 (x10.map aB)),(11,vI kx11.1)],[(3,dN p1),(4,[.nil 1]),(5,[.tre 364]),(7,[.osl 59 62 1 (fU.map (cSl 3 aB))]),(241,aZ (aL.mk kx11.2.1 kx11.2.2.1 kx11.2.2.2)),(364,[.trs 1 (eT.map jZ)])]⟩
abbrev aYv:=fun x6 y1 x9 p1 fU eT x10 kx11 (r:GDb×aL)=>Lok Tryz.prog 27 2 (BQ ZH ZI r) (bOo x6 y1 x9 p1 fU eT x10 kx11)

def cDj (y1:aL×aQ×GDb×aP) (M8:List Int) (J6:Int) (X6:Int) (nH:List aJ):St:=⟨[(2,.ptr 2 0),(3,.ptr 3 0),(4,.ptr 4 0),(5,.ptr 11 0),(6,.ptr 6 0),(7,.ptr 7 0),(8,.ptr 8 0)],[(2,[.nil 2]),(3,[.nil 1]),(4,[.nil 1,.nil 1,.nil 10,.nil 11,.nil 10,.nil 1,vB false,vI 0]),(6,dN y1.2.1),(7,[.tre 349]),(8,[.tre 350,.tre 351,.tre 352,.tre 353,.tre 354,.tre 355,vB y1.2.2.2.distinct,vI y1.2.2.2.limit]),(11,aZ (aL.mk M8 J6 X6)),(349,[.trs 1 (y1.2.2.1.tables.map jZ)]),(350,[.trc 1 (y1.2.2.2.tables.map cI)]),(351,[.trc 1 (y1.2.2.2.on_.map (cSl 10 aV))]),(352,[.trc 10 (y1.2.2.2.where_.map aV)]),(353,[.trc 11 (y1.2.2.2.order.map jA)]),(354,[.trc 10 (nH.map aV)]),(355,[.trc 1 (y1.2.2.2.names.map cStr)])]⟩
abbrev bYs:=fun y1 M8 J6 X6 nH (r:aQ×GDb×aP)=>Jok Tryz.prog 5 2 (PQ (fun y=>(.tup [cK y.1,iG y.2.1,fI y.2.2])) r) (cDj y1 M8 J6 X6 nH)
def bSt (y1:aL×aQ×GDb×aP) (nH:List aJ) (yO:List fM):St:=⟨[(2,.ptr 2 0),(3,.ptr 3 0),(4,.ptr 4 0),(6,.ptr 6 0),(7,.ptr 7 0),(8,.ptr 8 0)],[(2,[.nil 2]),(3,[.nil 1]),(4,[.nil 1,.nil 1,.nil 10,.nil 11,.nil 10,.nil 1,vB false,vI 0]),(6,dN y1.2.1),(7,[.tre 357]),(8,[.tre 358,.tre 359,.tre 360,.tre 361,.tre 362,.tre 363,vB y1.2.2.2.distinct,vI y1.2.2.2.limit]),(357,[.trs 1 (yO.map jZ)]),(358,[.trc 1 (y1.2.2.2.tables.map cI)]),(359,[.trc 1 (y1.2.2.2.on_.map (cSl 10 aV))]),(360,[.trc 10 (y1.2.2.2.where_.map aV)]),(361,[.trc 11 (y1.2.2.2.order.map jA)]),(362,[.trc 10 (nH.map aV)]),(363,[.trc 1 (y1.2.2.2.names.map cStr)])]⟩
abbrev bSw:=fun y1 nH yO (r:aQ×GDb×aP)=>Jok Tryz.prog 5 4 (PQ (fun y=>(.tup [cK y.1,iG y.2.1,fI y.2.2])) r) (bSt y1 nH yO)
def cBn (p1:aJ) (bV:Int) (jV:Int) (nS:Bool) (yH:Int) (yC:Int) (yS:List UInt8) (yI:Int) (nQ:Int) (dU:List Int) (dJ:Int) (dV:Int) (zB:List aP):St:=⟨[(3,.ptr 3 0),(4,.ptr 4 0)],[(3,[vI bV,vI jV,vB nS,vI yH,vI yC,vS yS,vI yI,vI nQ,.tre 245,.tre 368]),(4,[vI 0,vI 0,vB false,vI 0,vI 0,vS [],vI 0,vI 0,.nil 10,.nil 8]),(241,aZ (aL.mk dU dJ dV)),(245,[.trc 10 (p1.kids.map aV)]),(368,[.trc 8 (zB.map eO)])]⟩
abbrev ZJ (y:aJ×aL):List (Nat×List V):=[(269,[.trc 10 (y.1.kids.map aV)]),(270,[.trc 8 (y.1.sub.map eO)]),(241,aZ y.2),(245,[.trd]),(246,[.trd])]
abbrev bMm:=fun p1 bV jV nS yH yC yS yI nQ dU dJ dV zB (r:aJ×aL)=>Jok Tryz.prog 14 6 (BQ ZB ZJ r) (cBn p1 bV jV nS yH yC yS yI nQ dU dJ dV zB)
def bY9 (bV:Int) (jV:Int) (nS:List UInt8) (dU:List Int) (dJ:Int) (dV:Int):St:=⟨[(2,.ptr 2 0),(3,.ptr 3 0)],[(2,[vI 0,vI 0,vS []]),(3,uJ (aA.mk bV jV nS)),(241,aZ (aL.mk dU dJ dV))]⟩
abbrev bJ4:=fun bV jV nS dU dJ dV (r:aA×aL)=>Jok Tryz.prog 29 2 (BQ Zz ZA r) (bY9 bV jV nS dU dJ dV)
def bVv (y1:aA×aL) (nN:List UInt8) (sS:List Int) (uC:Int) (tL:Int):St:=⟨[(0,.ptr 241 0),(2,.ptr 2 0),(3,.ptr 3 0)],[(2,[vI 0,vI 0,vS []]),(3,uJ (aA.mk y1.1.kind y1.1.num nN)),(241,aZ (aL.mk sS uC tL))]⟩
abbrev aRa:=fun y1 nN sS uC tL (r:aA×aL)=>Lok Tryz.prog 29 0 (BQ Zz ZA r) (bVv y1 nN sS uC tL)

theorem cA8 (x:gG) (h:∀ d∈kT x,OkD d):okGCol x:=⟨xU _ (dL h 0 1),mK _ (dL h 1 1)⟩
theorem bXd (x:eD) (h:∀ d∈lG x,OkD d):okGTable x:=⟨xU _ (dL h 0 1),lX _ (fun y hy=>cA8 y hy) (dL h 1 1)⟩
theorem cHa (x:aQ) (h:∀ d∈pV x,OkD d):okGCatalog x:=lX _ (fun y hy=>bXd y hy) (dL h 0 1)
theorem zY (x:aA) (h:∀ d∈aB x,OkD d):okGValue x:=⟨mK _ (dL h 0 1),mK _ (dL h 1 1),xU _ (dL h 2 1)⟩
theorem bYd (x:fM) (h:∀ d∈jZ x,OkD d):okGData x:=lX _ (fun y hy=>lX _ (fun y hy=>zY y hy) hy) (dL h 0 1)
theorem cEa (x:GDb) (h:∀ d∈qG x,OkD d):okGDb x:=lX _ (fun y hy=>bYd y hy) (dL h 0 1)
mutual
theorem bB8:∀ x:aJ,(∀ d∈aV x,OkD d)→okGPExpr x
  | ⟨a0,a1,a2,a3,a4,a5,a6,a7⟩,h0=>by
    rw [mW] at h0
    have h:∀ d∈jC ⟨a0,a1,a2,a3,a4,a5,a6,a7⟩,OkD d:=h0
    unfold okGPExpr
    exact ⟨mK _ (dL h 0 1),mK _ (dL h 1 1),trivial,zY a3 (dL h 3 3),mK _ (dL h 6 1),mK _ (dL h 7 1),⟨by simpa using (jM (dL h 8 1)).1,aH4 a6 (jM (dL h 8 1)).2⟩,⟨by simpa using (jM (dL h 9 1)).1,bHj a7 (jM (dL h 9 1)).2⟩⟩
theorem bY4:∀ x:cZ,(∀ d∈jA x,OkD d)→okGPSort x
  | ⟨a0,a1⟩,h0=>by
    rw [aZv] at h0
    have h:∀ d∈aC4 ⟨a0,a1⟩,OkD d:=h0
    unfold okGPSort
    exact ⟨bB8 a0 (by rw [mW]; exact (dL h 0 10)),trivial⟩
theorem cD4:∀ x:aP,(∀ d∈eO x,OkD d)→okGPlan x
  | ⟨a0,a1,a2,a3,a4,a5,a6,a7⟩,h0=>by
    rw [aG5] at h0
    have h:∀ d∈zI ⟨a0,a1,a2,a3,a4,a5,a6,a7⟩,OkD d:=h0
    unfold okGPlan
    exact ⟨lX _ (fun y hy=>mK _ hy) (dL h 0 1),⟨by simpa using (jM (dL h 1 1)).1,bG6 a1 (jM (dL h 1 1)).2⟩,⟨by simpa using (jM (dL h 2 1)).1,aH4 a2 (jM (dL h 2 1)).2⟩,⟨by simpa using (jM (dL h 3 1)).1,bB6 a3 (jM (dL h 3 1)).2⟩,⟨by simpa using (jM (dL h 4 1)).1,aH4 a4 (jM (dL h 4 1)).2⟩,lX _ (fun y hy=>xU _ hy) (dL h 5 1),trivial,mK _ (dL h 7 1)⟩
theorem aH4:∀ l:List aJ,(∀ x∈l.map aV,∀ d∈x,OkD d)→okLGPExpr l
  | [],_=>by unfold okLGPExpr; trivial
  | x::l,h=>by
    unfold okLGPExpr
    exact ⟨bB8 x (h _ (by simp)),aH4 l fun y hy=>h y (QE _ hy)⟩
theorem bB6:∀ l:List cZ,(∀ x∈l.map jA,∀ d∈x,OkD d)→okLGPSort l
  | [],_=>by unfold okLGPSort; trivial
  | x::l,h=>by
    unfold okLGPSort
    exact ⟨bY4 x (h _ (by simp)),bB6 l fun y hy=>h y (QE _ hy)⟩
theorem bHj:∀ l:List aP,(∀ x∈l.map eO,∀ d∈x,OkD d)→okLGPlan l
  | [],_=>by unfold okLGPlan; trivial
  | x::l,h=>by
    unfold okLGPlan
    exact ⟨cD4 x (h _ (by simp)),bHj l fun y hy=>h y (QE _ hy)⟩
theorem bG6:∀ l:List (List aJ),(∀ x∈l.map (cSl 10 aV),∀ d∈x,OkD d)→okLLGPExpr l
  | [],_=>by unfold okLLGPExpr; trivial
  | x::l,h=>by
    unfold okLLGPExpr
    have h1:∀ d∈cSl 10 aV x,OkD d:=h _ (by simp)
    exact ⟨⟨by simpa using (jM h1).1,aH4 x (jM h1).2⟩,bG6 l fun y hy=>h y (QE _ hy)⟩
end
theorem cF7 (x:aL) (h:∀ d∈aRr x,OkD d):okGL1Cur x:=⟨lX _ (fun y hy=>bFu _ hy) (dL h 0 1),mK _ (dL h 1 1),mK _ (dL h 2 1)⟩
mutual
theorem aU0:∀ x:eH,(∀ d∈qX x,OkD d)→okGExpr x
  | ⟨a0,a1,a2,a3,a4,a5,a6,a7⟩,h0=>by
    rw [aEx] at h0
    have h:∀ d∈I9 ⟨a0,a1,a2,a3,a4,a5,a6,a7⟩,OkD d:=h0
    unfold okGExpr
    exact ⟨mK _ (dL h 0 1),mK _ (dL h 1 1),trivial,zY a3 (dL h 3 3),xU _ (dL h 6 1),xU _ (dL h 7 1),⟨by simpa using (jM (dL h 8 1)).1,aM1 a6 (jM (dL h 8 1)).2⟩,⟨by simpa using (jM (dL h 9 1)).1,bIs a7 (jM (dL h 9 1)).2⟩⟩
theorem bTj:∀ x:pK,(∀ d∈aC0 x,OkD d)→okGItem x
  | ⟨a0,a1,a2,a3⟩,h0=>by
    rw [bZg] at h0
    have h:∀ d∈aGj ⟨a0,a1,a2,a3⟩,OkD d:=h0
    unfold okGItem
    exact ⟨trivial,xU _ (dL h 1 1),aU0 a2 (by rw [aEx]; exact (dL h 2 10)),xU _ (dL h 12 1)⟩
theorem cCv:∀ x:jH,(∀ d∈vZ x,OkD d)→okGQuery x
  | ⟨a0,a1,a2,a3,a4,a5⟩,h0=>by
    rw [bAd] at h0
    have h:∀ d∈aFe ⟨a0,a1,a2,a3,a4,a5⟩,OkD d:=h0
    unfold okGQuery
    exact ⟨trivial,⟨by simpa using (jM (dL h 1 1)).1,bDw a1 (jM (dL h 1 1)).2⟩,⟨by simpa using (jM (dL h 2 1)).1,bBu a2 (jM (dL h 2 1)).2⟩,⟨by simpa using (jM (dL h 3 1)).1,aM1 a3 (jM (dL h 3 1)).2⟩,⟨by simpa using (jM (dL h 4 1)).1,bAv a4 (jM (dL h 4 1)).2⟩,mK _ (dL h 5 1)⟩
theorem bSh:∀ x:pM,(∀ d∈aBs x,OkD d)→okGSortKey x
  | ⟨a0,a1⟩,h0=>by
    rw [bLk] at h0
    have h:∀ d∈aHi ⟨a0,a1⟩,OkD d:=h0
    unfold okGSortKey
    exact ⟨aU0 a0 (by rw [aEx]; exact (dL h 0 10)),trivial⟩
theorem bV7:∀ x:oV,(∀ d∈aAz x,OkD d)→okGSource x
  | ⟨a0,a1,a2⟩,h0=>by
    rw [bY0] at h0
    have h:∀ d∈aH6 ⟨a0,a1,a2⟩,OkD d:=h0
    unfold okGSource
    exact ⟨xU _ (dL h 0 1),xU _ (dL h 1 1),⟨by simpa using (jM (dL h 2 1)).1,aM1 a2 (jM (dL h 2 1)).2⟩⟩
theorem aM1:∀ l:List eH,(∀ x∈l.map qX,∀ d∈x,OkD d)→okLGExpr l
  | [],_=>by unfold okLGExpr; trivial
  | x::l,h=>by
    unfold okLGExpr
    exact ⟨aU0 x (h _ (by simp)),aM1 l fun y hy=>h y (QE _ hy)⟩
theorem bDw:∀ l:List pK,(∀ x∈l.map aC0,∀ d∈x,OkD d)→okLGItem l
  | [],_=>by unfold okLGItem; trivial
  | x::l,h=>by
    unfold okLGItem
    exact ⟨bTj x (h _ (by simp)),bDw l fun y hy=>h y (QE _ hy)⟩
theorem bIs:∀ l:List jH,(∀ x∈l.map vZ,∀ d∈x,OkD d)→okLGQuery l
  | [],_=>by unfold okLGQuery; trivial
  | x::l,h=>by
    unfold okLGQuery
    exact ⟨cCv x (h _ (by simp)),bIs l fun y hy=>h y (QE _ hy)⟩
theorem bAv:∀ l:List pM,(∀ x∈l.map aBs,∀ d∈x,OkD d)→okLGSortKey l
  | [],_=>by unfold okLGSortKey; trivial
  | x::l,h=>by
    unfold okLGSortKey
    exact ⟨bSh x (h _ (by simp)),bAv l fun y hy=>h y (QE _ hy)⟩
theorem bBu:∀ l:List oV,(∀ x∈l.map aAz,∀ d∈x,OkD d)→okLGSource l
  | [],_=>by unfold okLGSource; trivial
  | x::l,h=>by
    unfold okLGSource
    exact ⟨bV7 x (h _ (by simp)),bBu l fun y hy=>h y (QE _ hy)⟩
end
theorem cHp (x:kR) (h:∀ d∈aZ0 x,OkD d):okGForm x:=⟨trivial,trivial,trivial,trivial,mK _ (dL h 4 1),mK _ (dL h 5 1),mK _ (dL h 6 1)⟩
theorem bTh (x:mO) (h:∀ d∈vN x,OkD d):okGSortBy x:=⟨trivial,trivial⟩
theorem cHg (x:eP) (h:∀ d∈tQ x,OkD d):okGExecution x:=⟨lX _ (fun y hy=>lX _ (fun y hy=>lX _ (fun y hy=>zY y hy) hy) hy) (dL h 0 1),lX _ (fun y hy=>lX _ (fun y hy=>trivial) hy) (dL h 1 1),lX _ (fun y hy=>trivial) (dL h 2 1),lX _ (fun y hy=>bTh y hy) (dL h 3 1),trivial,trivial,mK _ (dL h 6 1)⟩
theorem cGv (x:nW) (h:∀ d∈aR5 x,OkD d):okGNode x:=⟨mK _ (dL h 0 1),mK _ (dL h 1 1),trivial,zY x.value (dL h 3 3),lX _ (fun y hy=>zY y hy) (dL h 6 1),lX _ (fun y hy=>lX _ (fun y hy=>zY y hy) hy) (dL h 7 1)⟩
theorem cFn (x:aU) (h:∀ d∈bA x,OkD d):okGKeyed x:=⟨lX _ (fun y hy=>zY y hy) (dL h 0 1),lX _ (fun y hy=>zY y hy) (dL h 1 1)⟩
theorem de5 {l:List D} (h:WtC Tryz.prog 5 l):∃ x:Int,l=cU8 x:=(bSr h (k:=.u8) kr)
theorem bZl {l:List D} (h:WtC Tryz.prog 22 l):∃ x:(List Int),l=(cSl 1 cU8) x:=(bUu h (e:=5) (n:=1) (c:=cU8) kr kr fun x hx=>de5 hx)
abbrev ZK (y:Bool):V:=(vB y)
theorem bVa (p0:gG) (c0_0:List UInt8):dD Tryz.prog 152 [bOy p0,.ptr 241 0] [(241,[vS c0_0])] ZK (fun (y:Bool)=>[(241,[vS c0_0])]) (aMi p0 c0_0):=by
 refine aoB fun r h=>?_;rw [aMi] at h;exact rb' h
abbrev bT9 (p0) (c0_0):=R6.partial_correctness p0 c0_0 (aWu p0 c0_0) (by intro cFg aVw x8 r h;refine Lok.un ?_;refine cd' h ?_ ?_<;>intro h;refine iq' h fun y1 h=>(cg' c1_ h (bVa _ _) fun y2 h=>?_);refine cd' h ?_ ?_<;>intro h;exact rb' h;exact lb' (aVw _ _ h) (wr [] eS bS);exact rb' h)
abbrev aVw:=bT9
theorem bN2 (p0:List gG) (c0_0:List UInt8):dD Tryz.prog 151 [aOv p0,.fn 152 [.ptr 241 0]] [(241,[vS c0_0])] Zi (fun (y:Int)=>[(241,[vS c0_0])]) (aOl p0 c0_0):=by
 refine aoB fun r h=>?_;rw [aOl] at h;exact lq' p0 (lb' (aVw _ _ _ _ h) (wr [] eS bS))
theorem cDo (p0:eD) (p1:List UInt8):FOk Tryz.prog 105 [aF1 p0,vS p1] (fun y=>(vI y)) (aGt p0 p1):=by
 refine aoP fun r h=>?_;rw [aGt] at h;exact cg' ⟨[(241,3)],[],[],[],[],[],[],[],[]⟩ h (bN2 _ _) fun y1 h=>(rp' h)
theorem aJq (p0:List UInt8):FOk Tryz.prog 104 [vS p0] (fun y=>(vB y)) (qF p0):=by
 refine aoP fun r h=>?_;rw [qF] at h;exact bU h fun y1 h=>(rp' h)
abbrev bQ3 (p0):=R7.partial_correctness p0 (aUe p0) (by intro cFv aYd x8 r h;refine Lok.un ?_;refine cd' h ?_ ?_<;>intro h;refine iq' h fun y1 h=>(cs' h (aJq _) fun y2 h=>(bR h fun y3 h=>(bR h fun y4 h=>(gc' h (cDo _ _) fun y5 h=>(bR h fun y6 h=>?_)))));refine cd' h ?_ ?_<;>intro h;exact rp' h;exact lb' (aYd _ _ h) (wr [] eS bS);exact cs' h (aJq _) fun y7 h=>(iZ p0.cols (bU h fun y8 h=>(iZ p0.cols (bU h fun y9 h=>(rp' h))))))
abbrev aYd:=bQ3
theorem bO9 (p0:eD):FOk Tryz.prog 63 [aF1 p0] (fun y=>(vB y)) (aJ4 p0):=by
 refine aoP fun r h=>?_;rw [aJ4] at h;exact lq' p0.cols (lb' (aYd _ _ _ h) (wr [] eS bS))
theorem cCe (p0:eD) (c0_0:List UInt8):dD Tryz.prog 107 [aF1 p0,.ptr 241 0] [(241,[vS c0_0])] ZK (fun (y:Bool)=>[(241,[vS c0_0])]) (aL2 p0 c0_0):=by
 refine aoB fun r h=>?_;rw [aL2] at h;exact rb' h
abbrev bW7 (p0) (c0_0):=J5.partial_correctness p0 c0_0 (aWl p0 c0_0) (by intro cG4 aSu x8 r h;refine Lok.un ?_;refine cd' h ?_ ?_<;>intro h;refine iq' h fun y1 h=>(cg' c1_ h (cCe _ _) fun y2 h=>?_);refine cd' h ?_ ?_<;>intro h;exact rb' h;exact lb' (aSu _ _ h) (wr [] eS bS);exact rb' h)
abbrev aSu:=bW7
theorem bPh (p0:List eD) (c0_0:List UInt8):dD Tryz.prog 106 [aQw p0,.fn 107 [.ptr 241 0]] [(241,[vS c0_0])] Zi (fun (y:Int)=>[(241,[vS c0_0])]) (aL4 p0 c0_0):=by
 refine aoB fun r h=>?_;rw [aL4] at h;exact lq' p0 (lb' (aSu _ _ _ _ h) (wr [] eS bS))
theorem bMv (p0:aQ) (p1:List UInt8):FOk Tryz.prog 64 [cK p0,vS p1] (fun y=>(vI y)) (aJe p0 p1):=by
 refine aoP fun r h=>?_;rw [aJe] at h;exact cg' ⟨[(241,3)],[],[],[],[],[],[],[],[]⟩ h (bPh _ _) fun y1 h=>(rp' h)
abbrev bR1 (p0):=S9.partial_correctness p0 (aXy p0) (by intro cE8 aWq x8 r h;refine Lok.un ?_;refine cd' h ?_ ?_<;>intro h;refine iq' h fun y1 h=>(cs' h (bO9 _) fun y2 h=>(gc' h (bMv _ _) fun y3 h=>(bR h fun y4 h=>?_)));refine cd' h ?_ ?_<;>intro h;exact rp' h;exact lb' (aWq _ _ h) (wr [] eS bS);exact lq' p0.tables (rp' h))
abbrev aWq:=bR1
theorem bCc (p0:aQ):FOk Tryz.prog 30 [cK p0] (fun y=>(vB y)) (aD8 p0):=by
 refine aoP fun r h=>?_;rw [aD8] at h;exact lq' p0.tables (lb' (aWq _ _ _ h) (wr [] eS bS))
theorem aJu (p0:aA):FOk Tryz.prog 119 [bN p0] (fun y=>(vB y)) (pX p0):=by
 refine aoP fun r h=>?_;rw [pX] at h;refine cd' h ?_ ?_<;>intro h;exact bU h fun y1 h=>(rp' h);refine cd' h ?_ ?_<;>intro h;exact rp' h;refine cd' h ?_ ?_<;>intro h;exact bU h fun y2 h=>(rp' h);refine cd' h ?_ ?_<;>intro h;exact bR h fun y3 h=>(bU h fun y4 h=>(rp' h));exact rp' h
theorem cAq (p0:aA) (p1:Int):FOk Tryz.prog 74 [bN p0,vI p1] (fun y=>(vB y)) (aHl p0 p1):=by
 refine aoP fun r h=>?_;rw [aHl] at h;refine cs' h (aJu _) fun y1 h=>?_;refine aO (.g 7 true (.pick 16 11 (kB true) 15)) (gv true y1 ZK h (fun y hy hc=>jQ hy (p:=true) (q:=((true&&(y1==true))&&((decide (p0.kind=0))==false))) (Eq.trans (b:=([true&&(y1==true)]:List Bool).all id) kr (dX hc rfl)) kr kr kr (fun _=>rfl) (fun hb=>rZ hc hb)) fun y2 h=>oC ?_);exact bU h fun y3 h=>(rp' h)
abbrev bKb (p1) (p0):=U7.partial_correctness p1 p0 (aR9 p1 p0) (by intro cHt aT8 x14 r h;refine Lok.un ?_;refine cd' h ?_ ?_<;>intro h;refine iq' h fun y1 h=>(iA cI h fun y2 h=>(cs' h (cAq _ _) fun y3 h=>?_));refine cd' h ?_ ?_<;>intro h;exact rp' h;exact lb' (aT8 _ _ h) (wr [] eS aX);exact rp' h)
abbrev aT8:=bKb
theorem bW8 (p0:List aA) (p1:List Int):FOk Tryz.prog 38 [eQ p0,fQ p1] (fun y=>(vB y)) (aK4 p0 p1):=by
 refine aoP fun r h=>?_;rw [aK4] at h;refine lq' p0 (jK cI p1 ?_);refine cd' h ?_ ?_<;>intro h;exact rp' h;exact lq' p0 (lb' (aT8 _ _ _ _ h) (wr [] eS aX))
theorem cB9 (p0:List aA) (c0_0:List Int):dD Tryz.prog 37 [eQ p0,.ptr 241 0] [(241,[fQ c0_0])] ZK (fun (y:Bool)=>[(241,[fQ c0_0])]) (aNl p0 c0_0):=by
 refine aoB fun r h=>?_;rw [aNl] at h;exact cs' h (bW8 _ _) fun y1 h=>(rb' h)
abbrev bWs (p0) (c0_0):=Q4.partial_correctness p0 c0_0 (aRc p0 c0_0) (by intro cGm aRm x8 r h;refine Lok.un ?_;refine cd' h ?_ ?_<;>intro h;refine iq' h fun y1 h=>(cg' c1_ h (cB9 _ _) fun y2 h=>?_);refine cd' h ?_ ?_<;>intro h;exact rb' h;exact lb' (aRm _ _ h) (wr [] eS bS);exact rb' h)
abbrev aRm:=bWs
theorem cAc (p0:List (List aA)) (c0_0:List Int):dD Tryz.prog 73 [.d (.sl 1 (p0.map (cSl 3 aB))),.fn 37 [.ptr 241 0]] [(241,[fQ c0_0])] Zi (fun (y:Int)=>[(241,[fQ c0_0])]) (aOd p0 c0_0):=by
 refine aoB fun r h=>?_;rw [aOd] at h;exact lq' p0 (lb' (aRm _ _ _ _ h) (wr [] eS bS))
theorem bJe (p0:List (List aA)) (c0_0:List Int):dD Tryz.prog 36 [.d (.sl 1 (p0.map (cSl 3 aB))),.fn 37 [.ptr 241 0]] [(241,[fQ c0_0])] ZK (fun (y:Bool)=>[(241,[fQ c0_0])]) (aGo p0 c0_0):=by
 refine aoB fun r h=>?_;rw [aGo] at h;exact cg' c1_ h (cAc _ _) fun y1 h=>(rb' h)
abbrev bZp (p0):=wC.partial_correctness p0 (aTu p0) (by intro cEf aZ7 x3 x10 r h;refine Lok.un ?_;refine cd' h ?_ ?_<;>intro h;refine iq' h fun y1 h=>?_;refine aO (.bsl 17 3 1 [16]) (bJ (l:=([y1.type]:List Int)) (f:=cI) (g:=cI) kr (fun _=>rfl) kr (oC ?_));exact aq' 3 cI h fun y2 h=>(lb' (aZ7 _ _ _ h) (wr [(3,.old 3)] (eo 3 eS) aX));exact rw' (s':=⟨[(2,.osl 243 3 1 (x3.map cI))],[]⟩) (wr [(243,.old 2)] (eo 2 iP) aX) (rb' h))
abbrev aZ7:=bZp
theorem bH3 (p0:eD):dD Tryz.prog 35 [aF1 p0] [] Z3 Za (O7 p0):=by
 refine aoB fun r h=>?_;rw [O7] at h;refine aO (.bsl 6 3 1 []) (bJ (l:=([]:List Int)) (f:=cI) (g:=cI) kr (fun _=>rfl) kr (oC ?_));exact lq' p0.cols (lb' (aZ7 _ _ _ _ h) (wr [(3,.old 3)] (eo 3 eS) aX))
abbrev bPt (p1) (p0):=yM.partial_correctness p1 p0 (aYk p1 p0) (by intro cFp aU7 x23 r h;refine Lok.un ?_;refine cd' h ?_ ?_<;>intro h;refine iq' h fun y3 h=>(iq' h fun y4 h=>(cg' ⟨[],[],[],[],[],[(243,33)],[],[33],[]⟩ h (bH3 _) fun y5 h=>(lq' y3.rows ?_)));refine aO (.g 38 false (.call (some 42) 36 [40,41])) (aIh ⟨[(241,7)],[],[],[],[],[],[],[33],[]⟩ (p:=true) (b:=(decide (6<(ln y3.rows)))) (m:=aGo y3.rows y5) (dflt:=(default:Bool)) h kr (bJe _ _) (fun hc=>by kernel_rfl) kr kr kr (fun y=>by kernel_rfl) kr (fun hc=>(Eq.trans (b:=([true&&((decide (6<(ln y3.rows)))==false),true&&((decide (6<(ln y3.rows)))==false)]:List Bool).all id) kr (dX hc (dX hc rfl)))) (fun _=>rfl) fun y6 h=>oC ?_);refine bR h fun y7 h=>?_;refine cd' h ?_ ?_<;>intro h;exact rp' h;exact lb' (aU7 _ _ h) (wr [] eS bS);exact rp' h)
abbrev aU7:=bPt
theorem bLf (p0:aQ) (p1:GDb):FOk Tryz.prog 16 [cK p0,iG p1] (fun y=>(vB y)) (aDs p0 p1):=by
 refine aoP fun r h=>?_;rw [aDs] at h;refine cs' h (bCc _) fun y1 h=>(iZ p1.tables (iZ p0.tables (bR h fun y2 h=>?_)));refine cd' h ?_ ?_<;>intro h;exact rp' h;exact lq' p1.tables (lb' (aU7 _ _ _ _ h) (wr [] eS bS))
abbrev bSb (p1) (p2) (p3) (p0):=aBb.partial_correctness p1 p2 p3 p0 (aZd p1 p2 p3 p0) (by intro cHs aRe x6 x12 r h;refine Lok.un ?_;refine cd' h ?_ ?_<;>intro h;refine iq' h fun y1 h=>(tw' 0 [.fzb 8] ?_);refine aO (.bsl 18 96 1 [17]) (bJ (l:=([bP.mk p1 p2 p3 y1]:List bP)) (f:=iC) (g:=iC) kr (fun _=>rfl) kr (oC ?_));exact aq' 6 iC h fun y2 h=>(lb' (aRe _ _ _ h) (wr [(6,.old 6)] (es (es (es (eo 6 eS)))) aX));exact rw' (s':=⟨[(5,.osl 243 96 1 (x6.map iC))],[]⟩) (wr [(243,.old 5)] (eo 5 iP) aX) (rb' h))
abbrev aRe:=bSb
theorem aOm (p0:List aJ) (p1:aQ) (p2:GDb) (p3:List (List aA)):dD Tryz.prog 39 [fH p0,.rp (pV p1),.rp (qG p2),.rp [.sl 1 (p3.map (cSl 3 aB))]] [] Zr (fun (y:List bP)=>[]) (M5 p0 p1 p2 p3):=by
 refine aoB fun r h=>?_;rw [M5] at h;refine aO (.bsl 9 96 1 []) (bJ (l:=([]:List bP)) (f:=iC) (g:=iC) kr (fun _=>rfl) kr (oC ?_));exact lq' p0 (lb' (aRe _ _ _ _ _ _ _ h) (wr [(6,.old 6)] (es (es (es (eo 6 eS)))) aX))
abbrev cB7 (p0):=vY.partial_correctness p0 (aR6 p0) (by intro cFr aZ9 x6 x27 r h;refine Lok.un ?_;refine cd' h ?_ ?_<;>intro h;exact iq' h fun y3 h=>(aq' 6 aB h fun y4 h=>(lb' (aZ9 _ _ _ h) (wr [(6,.old 6)] (eo 6 eS) aX)));exact rw' (s':=⟨[(2,.osl 243 51 3 (x6.map aB))],[]⟩) (wr [(243,.old 2)] (eo 2 iP) aX) (rb' h))
abbrev aZ9:=cB7
theorem bRa (p0:List aA) (p1:Int):dD Tryz.prog 168 [.osl 247 51 3 (p0.map aB),vI p1] [] Zj Zk (aNk p0 p1):=by
 exact bNb sh168 rfl rfl
abbrev bBo (p0):=aDm.mutual_partial_correctness p0 (aSe p0) (aVs p0) (by intro cEd aV8 x3 y1 x11 r h;exact Jok.un (lb' (aV8 _ _ _ h) (wr [] eS aX))) (by intro cGn bAn x3 x11 r h;refine Lok.un ?_;refine cd' h ?_ ?_<;>intro h;refine iq' h fun y1 h=>(lq' y1 ?_);refine cd' h ?_ ?_<;>intro h;exact nomatch h;exact jn' (bAn _ _ _ _ h) (wr [] eS aX);exact cg' ⟨[],[],[(247,51,3)],[some 247,none],[],[(243,24)],[],[24],[]⟩ h (bRa _ _) fun y2 h=>(lq' p0 (lb' (aZ9 _ _ _ _ h) (wr [(6,.old 6)] (eo 6 eS) aX))))
abbrev bAn:=fun p0=>(bBo p0).1
abbrev aV8:=fun p0=>(bBo p0).2
theorem bM7 (p0:List (List aA)):dD Tryz.prog 125 [.d (.sl 1 (p0.map (cSl 3 aB)))] [] Zj Zk (aJ2 p0):=by
 refine aoB fun r h=>?_;rw [aJ2] at h;exact lq' p0 (lb' (aV8 _ _ _ _ h) (wr [] eS aX))
theorem bQs (p0:aA):FOk Tryz.prog 169 [bN p0] (fun y=>(vB y)) (aG7 p0):=by
 refine aoP fun r h=>?_;rw [aG7] at h;exact bU h fun y1 h=>(rp' h)
theorem bAk (jV r) (h:aNr jV=some r):cDa jV r:=by
 rw [aNr] at h;exact Jok.un (rp' h)
theorem vL (p0:Bool):FOk Tryz.prog 123 [vB p0] (fun y=>(bN y)) (qC p0):=by
 refine aoP fun r h=>?_;rw [qC] at h;refine cd' h ?_ ?_<;>intro h;exact jn' (bAk _ _ h) (wr [] eS bS);exact jn' (bAk _ _ h) (wr [] eS bS)
theorem bM8 (p0:Int) (p1:Int):FOk Tryz.prog 191 [vI p0,vI p1] (fun y=>(.tup [vI y.1,vB y.2])) (aD7 p0 p1):=by
 refine aoP fun r h=>?_;rw [aD7] at h;refine bU h fun y1 h=>?_;refine aO (.g 14 false (.pick 22 17 21 (kB false))) (gv true y1 ZK h (fun y hy hc=>jQ hy (p:=((true&&(y1==false))&&((decide (p1<0))==true))) (q:=true) (Eq.trans (b:=([true&&(y1==false)]:List Bool).all id) kr (dX hc rfl)) kr kr kr (fun hb=>qU hc hb) (fun _=>rfl)) fun y2 h=>oC ?_);refine bR h fun y3 h=>?_;refine cd' h ?_ ?_<;>intro h;exact rp' h;exact rp' h
theorem aVc (p0:Int):FOk Tryz.prog 195 [vI p0] (fun y=>(bN y)) (X0 p0):=by
 refine aoP fun r h=>?_;rw [X0] at h;exact rp' h
theorem aS1 (x8 x9 r) (h:aDr x8 x9=some r):cD1 x8 x9 r:=by
 rw [aDr] at h;refine Jok.un ?_;refine cd' h ?_ ?_<;>intro h;exact rp' h;exact cs' h (aVc _) fun y5 h=>(rp' h)
theorem bSo (p0:Int) (p1:Int) (p2:Int):FOk Tryz.prog 194 [vI p0,vI p1,vI p2] (fun y=>(.tup [bN y.1,vI y.2])) (aP6 p0 p1 p2):=by
 refine aoP fun r h=>?_;rw [aP6] at h;refine cd' h ?_ ?_<;>intro h;exact rp' h;refine cd' h ?_ ?_<;>intro h;refine aO (.bin 17 .rem 15 16) (vs Zi h (fun y hy=>aMy (k:=.i64) (a:=p1) (b:=p2) hy kr kr kr) fun y1 h=>oC ?_);exact cs' h (aVc _) fun y2 h=>(rp' h);refine bU h fun y3 h=>?_;refine cd' h ?_ ?_<;>intro h;exact rp' h;refine aO (.bin 29 .quo 27 28) (vs Zi h (fun y hy=>aM5 (k:=.i64) (a:=p1) (b:=p2) hy kr kr kr) fun y4 h=>oC ?_);exact cs' h (aVc _) fun y5 h=>(rp' h)
theorem cC1 (p0:Int) (p1:Int):FOk Tryz.prog 193 [vI p0,vI p1] (fun y=>(.tup [vI y.1,vB y.2])) (aH0 p0 p1):=by
 refine aoP fun r h=>?_;rw [aH0] at h;refine aO (.g 12 true (.bin 15 .quo 13 14)) (gv true (!decide (p0=0)) Zi h (fun y hy hc=>aM5 (k:=.i64) (a:=(QA .i64 (p0 * p1))) (b:=p0) hy (Eq.trans (b:=([true&&((!decide (p0=0))==true),true&&((!decide (p0=0))==true)]:List Bool).all id) kr (dX hc (dX hc rfl))) kr kr) fun y1 h=>oC ?_);refine aO (.g 18 false (.pick 24 21 23 (kB false))) (gv (true&&((!decide (p0=0))==true)) (!decide (y1=p1)) ZK h (fun y hy hc=>jQ hy (p:=(((true&&((!decide (p0=0))==true))&&((!decide (y1=p1))==false))&&((decide (p0=(-1)))==true))) (q:=true) (Eq.trans (b:=([(true&&((!decide (p0=0))==true))&&((!decide (y1=p1))==false)]:List Bool).all id) kr (dX hc rfl)) kr kr kr (fun hb=>qU hc hb) (fun _=>rfl)) fun y2 h=>oC ?_);refine aO (.g 12 true (.pick 25 18 (kB true) 24)) (gv true (!decide (p0=0)) ZK h (fun y hy hc=>jQ hy (p:=true) (q:=((true&&((!decide (p0=0))==true))&&((!decide (y1=p1))==false))) (Eq.trans (b:=([true&&((!decide (p0=0))==true)]:List Bool).all id) kr (dX hc rfl)) kr kr kr (fun _=>rfl) (fun hb=>rZ hc hb)) fun y3 h=>oC ?_);refine bU h fun y4 h=>?_;refine cd' h ?_ ?_<;>intro h;exact rp' h;exact rp' h
theorem bTs (p0:Int) (p1:Int):FOk Tryz.prog 192 [vI p0,vI p1] (fun y=>(.tup [vI y.1,vB y.2])) (aEz p0 p1):=by
 refine aoP fun r h=>?_;rw [aEz] at h;refine bU h fun y1 h=>?_;refine aO (.g 14 false (.pick 22 17 21 (kB false))) (gv true y1 ZK h (fun y hy hc=>jQ hy (p:=((true&&(y1==false))&&((decide (0<p1))==true))) (q:=true) (Eq.trans (b:=([true&&(y1==false)]:List Bool).all id) kr (dX hc rfl)) kr kr kr (fun hb=>qU hc hb) (fun _=>rfl)) fun y2 h=>oC ?_);refine bR h fun y3 h=>?_;refine cd' h ?_ ?_<;>intro h;exact rp' h;exact rp' h
theorem bB0 (p0:Int) (p1:Int) (p2:Int):FOk Tryz.prog 161 [vI p0,vI p1,vI p2] (fun y=>(.tup [bN y.1,vI y.2])) (aEi p0 p1 p2):=by
 refine aoP fun r h=>?_;rw [aEi] at h;refine cd' h ?_ ?_<;>intro h;exact cs' h (bM8 _ _) fun y1 h=>(jn' (aS1 _ _ _ h) (wr [] eS bS));refine cd' h ?_ ?_<;>intro h;exact cs' h (bTs _ _) fun y2 h=>(jn' (aS1 _ _ _ h) (wr [] eS bS));refine cd' h ?_ ?_<;>intro h;exact cs' h (cC1 _ _) fun y3 h=>(jn' (aS1 _ _ _ h) (wr [] eS bS));exact cs' h (bSo _ _ _) fun y4 h=>(rp' h)
theorem bGv (p0:Int):FOk Tryz.prog 198 [vI p0] (fun y=>(vB y)) (aGz p0):=by
 refine aoP fun r h=>?_;rw [aGz] at h;exact rp' h
theorem bEu (p0:Int) (p1:Int):FOk Tryz.prog 172 [vI p0,vI p1] (fun y=>(vI y)) (aEs p0 p1):=by
 refine aoP fun r h=>?_;rw [aEs] at h;refine cs' h (bGv _) fun y1 h=>(cs' h (bGv _) fun y2 h=>?_);refine cd' h ?_ ?_<;>intro h;refine cd' h ?_ ?_<;>intro h;exact rp' h;exact rp' h;refine cd' h ?_ ?_<;>intro h;exact rp' h;refine cd' h ?_ ?_<;>intro h;exact rp' h;refine cd' h ?_ ?_<;>intro h;exact rp' h;exact rp' h
theorem bCv (p0:List UInt8):FOk Tryz.prog 199 [vS p0] (fun y=>(vB y)) (aIq p0):=by
 refine aoP fun r h=>?_;rw [aIq] at h;exact rp' h
theorem cC5 (p0:List UInt8) (p1:List UInt8):FOk Tryz.prog 173 [vS p0,vS p1] (fun y=>(vI y)) (aIm p0 p1):=by
 refine aoP fun r h=>?_;rw [aIm] at h;refine cs' h (bCv _) fun y1 h=>(cs' h (bCv _) fun y2 h=>?_);refine cd' h ?_ ?_<;>intro h;refine cd' h ?_ ?_<;>intro h;exact rp' h;exact rp' h;refine cd' h ?_ ?_<;>intro h;exact rp' h;refine cd' h ?_ ?_<;>intro h;exact rp' h;refine cd' h ?_ ?_<;>intro h;exact rp' h;exact rp' h
abbrev bNe (p0):=yK.partial_correctness p0 (aQ7 p0) (by intro cF2 aXk x8 r h;refine Lok.un ?_;refine cd' h ?_ ?_<;>intro h;refine iA cI h fun y1 h=>?_;refine cd' h ?_ ?_<;>intro h;exact rp' h;exact lb' (aXk _ _ h) (wr [] eS aX);exact rp' h)
abbrev aXk:=bNe
theorem bY1 (p0:List Int):FOk Tryz.prog 171 [fQ p0] (fun y=>(vI y)) (aIs p0):=by
 refine aoP fun r h=>?_;rw [aIs] at h;exact jK cI p0 (lb' (aXk _ _ _ h) (wr [] eS aX))
theorem bBz (p0:aA) (p1:aA):FOk Tryz.prog 129 [bN p0,bN p1] (fun y=>(vI y)) (aFp p0 p1):=by
 refine aoP fun r h=>?_;rw [aFp] at h;refine cs' h (bEu _ _) fun y1 h=>(cs' h (bEu _ _) fun y2 h=>(cs' h (cC5 _ _) fun y3 h=>?_));refine dO (.bsl 20 3 1 [9,14,19]) (tF (l:=([y1,y2,y3]:List Int)) (f:=cI) (g:=cI) kr (fun _=>rfl) (dC ?_));exact cs' h (bY1 _) fun y4 h=>(rp' h)
theorem bOj (p0:Int) (p1:aA) (p2:aA):FOk Tryz.prog 164 [vI p0,bN p1,bN p2] (fun y=>(bN y)) (aBw p0 p1 p2):=by
 refine aoP fun r h=>?_;rw [aBw] at h;refine cs' h (bBz _ _) fun y1 h=>?_;refine cd' h ?_ ?_<;>intro h;exact cs' h (vL _) fun y2 h=>(rp' h);refine cd' h ?_ ?_<;>intro h;exact cs' h (vL _) fun y3 h=>(rp' h);refine cd' h ?_ ?_<;>intro h;exact cs' h (vL _) fun y4 h=>(rp' h);refine cd' h ?_ ?_<;>intro h;exact cs' h (vL _) fun y5 h=>(rp' h);refine cd' h ?_ ?_<;>intro h;exact cs' h (vL _) fun y6 h=>(rp' h);exact cs' h (vL _) fun y7 h=>(rp' h)
theorem bIl (p0:Int) (p1:aA):FOk Tryz.prog 163 [vI p0,bN p1] (fun y=>(vB y)) (O0 p0 p1):=by
 refine aoP fun r h=>?_;rw [O0] at h;refine bR h fun y1 h=>?_;refine cd' h ?_ ?_<;>intro h;exact rp' h;refine cd' h ?_ ?_<;>intro h;exact rp' h;exact rp' h
abbrev bRi (p0) (p1) (p2):=P8.partial_correctness p0 p1 p2 (aTj p0 p1 p2) (by intro cFo aQf x15 r h;refine Lok.un ?_;refine cd' h ?_ ?_<;>intro h;refine iq' h fun y1 h=>(bU h fun y2 h=>?_);refine cd' h ?_ ?_<;>intro h;exact rp' h;exact lb' (aQf _ _ h) (wr [(13,.old 13)] (es (es (es (es (eo 13 eS))))) bS);refine cs' h (vL _) fun y3 h=>(bR h fun y4 h=>?_);refine cd' h ?_ ?_<;>intro h;exact rp' h;refine bR h fun y5 h=>?_;refine cd' h ?_ ?_<;>intro h;exact rp' h;exact cs' h (vL _) fun y6 h=>(rp' h))
abbrev aQf:=bRi
theorem bM3 (p0:Int) (p1:aA) (p2:aA):FOk Tryz.prog 162 [vI p0,bN p1,bN p2] (fun y=>(.tup [bN y.1,vI y.2])) (aHs p0 p1 p2):=by
 refine aoP fun r h=>?_;rw [aHs] at h;refine aO (.bsl 13 51 3 [11,12]) (bJ (l:=([p1,p2]:List aA)) (f:=aB) (g:=aB) kr (fun _=>rfl) kr (oC ?_));refine lq' ([p1,p2]:List aA) ?_;exact lb' (aQf _ _ _ _ _ h) (wr [(13,.old 13)] (es (es (es (es (eo 13 eS))))) bS)
theorem bT1 (p0:List UInt8):FOk Tryz.prog 165 [vS p0] (fun y=>(bN y)) (aOz p0):=by
 refine aoP fun r h=>?_;rw [aOz] at h;exact rp' h
abbrev ZL (y:List UInt8):V:=(vS y)
theorem aDz (p0:Int) (p1:aA) (p2:aA):FOk Tryz.prog 122 [vI p0,bN p1,bN p2] (fun y=>(.tup [bN y.1,vI y.2])) (sG p0 p1 p2):=by
 refine aoP fun r h=>?_;rw [sG] at h;refine bR h fun y1 h=>(gc' h (aJu _) fun y2 h=>(bR h fun y3 h=>(gc' h (aJu _) fun y4 h=>(bR h fun y5 h=>?_))));refine cd' h ?_ ?_<;>intro h;exact rp' h;refine cd' h ?_ ?_<;>intro h;exact cs' h (bM3 _ _ _) fun y6 h=>(rp' h);refine bR h fun y7 h=>(cs' h (bIl _ _) fun y8 h=>(gc' h (bIl _ _) fun y9 h=>(bR h fun y10 h=>?_)));refine aO (.g 52 false (.pick 58 55 57 (kB false))) (gv true y10 ZK h (fun y hy hc=>jQ hy (p:=((true&&(y10==false))&&((decide (p0≤8))==true))) (q:=true) (Eq.trans (b:=([true&&(y10==false)]:List Bool).all id) kr (dX hc rfl)) kr kr kr (fun hb=>qU hc hb) (fun _=>rfl)) fun y11 h=>oC ?_);refine aO (.g 52 false (.pick 65 59 64 (kB false))) (gv true y10 ZK h (fun y hy hc=>jQ hy (p:=((true&&(y10==false))&&(y11==true))) (q:=true) (Eq.trans (b:=([true&&(y10==false)]:List Bool).all id) kr (dX hc rfl)) kr kr kr (fun hb=>qU hc hb) (fun _=>rfl)) fun y12 h=>oC ?_);refine bR h fun y13 h=>?_;refine cd' h ?_ ?_<;>intro h;exact rp' h;refine cd' h ?_ ?_<;>intro h;exact rp' h;refine cd' h ?_ ?_<;>intro h;exact cs' h (bOj _ _ _) fun y14 h=>(rp' h);refine cd' h ?_ ?_<;>intro h;exact cs' h (bB0 _ _ _) fun y15 h=>(rp' h);refine cd' h ?_ ?_<;>intro h;exact rp' h;refine aO (.bin 102 .add 99 101) (vs ZL h (fun y hy=>aMg (a:=p1.text) (b:=p2.text) hy kr kr kr) fun y16 h=>oC ?_);exact cs' h (bT1 _) fun y17 h=>(rp' h)
theorem cBj (p0:aA) (p1:aA) (p2:aA):FOk Tryz.prog 166 [bN p0,bN p1,bN p2] (fun y=>(.tup [bN y.1,vI y.2])) (aK0 p0 p1 p2):=by
 refine aoP fun r h=>?_;rw [aK0] at h;refine cs' h (aDz _ _ _) fun y1 h=>?_;refine cd' h ?_ ?_<;>intro h;exact rp' h;refine cs' h (aDz _ _ _) fun y2 h=>?_;refine cd' h ?_ ?_<;>intro h;exact rp' h;exact cs' h (aDz _ _ _) fun y3 h=>(rp' h)
abbrev bRc (p1) (p0):=P9.partial_correctness p1 p0 (bA4 p1 p0) (by intro cFl aXw x14 iU iW iV r h;refine Lok.un ?_;refine cd' h ?_ ?_<;>intro h;refine iq' h fun y2 h=>(cs' h (aDz _ _ _) fun y3 h=>?_);refine cd' h ?_ ?_<;>intro h;exact rp' h;refine cs' h (aDz _ _ _) fun y4 h=>?_;refine cd' h ?_ ?_<;>intro h;exact rp' h;exact lb' (aXw _ _ _ _ _ h) (wr [] eS bS);exact rp' h)
abbrev aXw:=bRc
theorem bH1 (p0:aA) (p1:List aA):FOk Tryz.prog 167 [bN p0,eQ p1] (fun y=>(.tup [bN y.1,vI y.2])) (aFi p0 p1):=by
 refine aoP fun r h=>?_;rw [aFi] at h;exact cs' h (vL _) fun y1 h=>(lq' p1 (lb' (aXw _ _ _ _ _ _ _ h) (wr [] eS bS)))
abbrev bNu (p0):=zK.partial_correctness p0 (aSs p0) (by intro cEn aUs x4 x42 r h;refine Lok.un ?_;refine cd' h ?_ ?_<;>intro h;refine iq' h fun y8 h=>(lq' y8 ?_);refine cd' h ?_ ?_<;>intro h;exact rp' h;refine iq' h fun y9 h=>?_;refine aO (.bsl 54 51 3 [53]) (bJ (l:=([y9]:List aA)) (f:=aB) (g:=aB) kr (fun _=>rfl) kr (oC ?_));exact aq' 4 aB h fun y10 h=>(lb' (aUs _ _ _ h) (wr [(4,.old 4)] (es (es (eo 4 eS))) bS));exact iq' h fun y11 h=>(cs' h (bH1 _ _) fun y12 h=>(rp' h)))
abbrev aUs:=bNu
theorem bYj (p0:nW):FOk Tryz.prog 124 [bBq p0] (fun y=>(.tup [bN y.1,vI y.2])) (aDw p0):=by
 refine aoP fun r h=>?_;rw [aDw] at h;refine cd' h ?_ ?_<;>intro h;exact iq' h fun y1 h=>(iq' h fun y2 h=>(iq' h fun y3 h=>(cs' h (cBj _ _ _) fun y4 h=>(rp' h))));refine cd' h ?_ ?_<;>intro h;refine iq' h fun y5 h=>?_;refine dO (.slc 34 3 33 (some (kI 1)) none none) (eZ (m:=iM p0.kids 1 (ln p0.kids)) (v':=fun y=>(eQ y)) h rfl rfl (fun y hy=>vR (l:=p0.kids) (f:=aB) (lo:=1) (hi:=(ln p0.kids)) hy kr kr rfl ⟨kr,.i64,kr⟩) fun y6 h=>dC ?_);exact cs' h (bH1 _ _) fun y7 h=>(rp' h);refine aO (.bsl 38 51 3 []) (bJ (l:=([]:List aA)) (f:=aB) (g:=aB) kr (fun _=>rfl) kr (oC ?_));exact lq' p0.rows (lb' (aUs _ _ _ _ h) (wr [(4,.old 4)] (es (es (eo 4 eS))) bS))
theorem bIy (p0:Int) (p1:aA):FOk Tryz.prog 121 [vI p0,bN p1] (fun y=>(.tup [bN y.1,vI y.2])) (aAg p0 p1):=by
 refine aoP fun r h=>?_;rw [aAg] at h;refine cs' h (aJu _) fun y1 h=>?_;refine aO (.g 9 false (.pick 15 12 14 (kB false))) (gv true (!y1) ZK h (fun y hy hc=>jQ hy (p:=((true&&((!y1)==false))&&((!decide (p0=15))==true))) (q:=true) (Eq.trans (b:=([true&&((!y1)==false)]:List Bool).all id) kr (dX hc rfl)) kr kr kr (fun hb=>qU hc hb) (fun _=>rfl)) fun y2 h=>oC ?_);refine bR h fun y3 h=>?_;refine cd' h ?_ ?_<;>intro h;exact rp' h;refine cd' h ?_ ?_<;>intro h;exact rp' h;refine bU h fun y4 h=>?_;refine cd' h ?_ ?_<;>intro h;exact cs' h (vL _) fun y5 h=>(rp' h);refine bU h fun y6 h=>?_;refine cd' h ?_ ?_<;>intro h;exact cs' h (bB0 _ _ _) fun y7 h=>(rp' h);exact rp' h
theorem bZj (p0:nW):FOk Tryz.prog 76 [bBq p0] (fun y=>(.tup [bN y.1,vI y.2])) (aI8 p0):=by
 refine aoP fun r h=>?_;rw [aI8] at h;refine cd' h ?_ ?_<;>intro h;exact rp' h;refine cd' h ?_ ?_<;>intro h;exact iq' h fun y1 h=>(cs' h (bIy _ _) fun y2 h=>(rp' h));refine cd' h ?_ ?_<;>intro h;exact iq' h fun y3 h=>(iq' h fun y4 h=>(cs' h (aDz _ _ _) fun y5 h=>(rp' h)));refine cd' h ?_ ?_<;>intro h;exact iq' h fun y6 h=>(cs' h (vL _) fun y7 h=>(rp' h));refine cd' h ?_ ?_<;>intro h;exact lq' p0.rows (cs' h (vL _) fun y8 h=>(rp' h));refine cs' h (bYj _) fun y9 h=>?_;refine cd' h ?_ ?_<;>intro h;exact rp' h;refine cd' h ?_ ?_<;>intro h;exact cs' h (bIy _ _) fun y10 h=>(rp' h);exact rp' h
theorem bTp (p0:aA):FOk Tryz.prog 188 [bN p0] (fun y=>(vB y)) (aAq p0):=by
 refine aoP fun r h=>?_;rw [aAq] at h;refine cs' h (aJu _) fun y1 h=>?_;refine aO (.g 5 true (.pick 13 9 (kB true) 12)) (gv true y1 ZK h (fun y hy hc=>jQ hy (p:=true) (q:=((true&&(y1==true))&&((!decide (p0.kind=1))==false))) (Eq.trans (b:=([true&&(y1==true)]:List Bool).all id) kr (dX hc rfl)) kr kr kr (fun _=>rfl) (fun hb=>rZ hc hb)) fun y2 h=>oC ?_);exact bU h fun y3 h=>(bU h fun y4 h=>(rp' h))
theorem bDr (p0:eH):FOk Tryz.prog 156 [bHp p0] (fun y=>(.tup [aY2 y.1,vB y.2])) (F5 p0):=by
 refine aoP fun r h=>?_;rw [F5] at h;refine cd' h ?_ ?_<;>intro h;exact cs' h (bTp _) fun y1 h=>(rp' h);refine cd' h ?_ ?_<;>intro h;refine cs' h (aJq _) fun y2 h=>(gc' h (aJq _) fun y3 h=>?_);refine aO (.g 18 true (.pick 26 22 (kB true) 25)) (gv true y2 ZK h (fun y hy hc=>jQ hy (p:=true) (q:=((true&&(y2==true))&&((decide (p0.qual=[]))==false))) (Eq.trans (b:=([true&&(y2==true)]:List Bool).all id) kr (dX hc rfl)) kr kr kr (fun _=>rfl) (fun hb=>rZ hc hb)) fun y4 h=>oC ?_);exact bU h fun y5 h=>(rp' h);refine cd' h ?_ ?_<;>intro h;exact bR h fun y6 h=>(rp' h);refine cd' h ?_ ?_<;>intro h;exact bU h fun y7 h=>(rp' h);refine cd' h ?_ ?_<;>intro h;exact rp' h;refine cd' h ?_ ?_<;>intro h;exact rp' h;refine cd' h ?_ ?_<;>intro h;exact rp' h;refine cd' h ?_ ?_<;>intro h;exact rp' h;refine cd' h ?_ ?_<;>intro h;exact rp' h;exact rp' h
theorem bE8 (p0 aA2 r) (h:aJz p0 aA2=some r):cDr p0 aA2 r:=by
 rw [aJz] at h;exact Jok.un (cs' h (bDr _) fun y1 h=>(rp' h))
theorem bTg (p0:Int):FOk Tryz.prog 120 [vI p0] (fun y=>(.tup [aY2 y.1,vB y.2])) (aPo p0):=by
 refine aoP fun r h=>?_;rw [aPo] at h;refine aO (.bld 6 [bI,bI,lV,bI,bI,mP,mP,mP,.nil 10,.nil 6] [(0,1,5),(1,1,kI 15),(7,1,.c (.d (.s (bs [120]))))]) (mR (c:=[vI p0,vI 15,vB false,vI 0,vI 0,vS [],vS [],vS [120],.nil 10,.nil 6]) kr kr rfl (oC ?_));refine cd' h ?_ ?_<;>intro h;exact jn' (bE8 _ _ _ h) (wr [] eS bS);exact jn' (bE8 _ _ _ h) (wr [] eS bS)
theorem bXu (p0:Int) (p1:Int) (p2:Int):FOk Tryz.prog 75 [vI p0,vI p1,vI p2] (fun y=>(vB y)) (aGa p0 p1 p2):=by
 refine aoP fun r h=>?_;rw [aGa] at h;exact cs' h (bTg _) fun y1 h=>(bU h fun y2 h=>(bU h fun y3 h=>(bU h fun y4 h=>(rp' h))))
theorem cB6 (p0:List aA):dD Tryz.prog 132 [eQ p0] [] Zj Zk (aG3 p0):=by
 refine aoB fun r h=>?_;rw [aG3] at h;refine aO (.eqn 4 false 3) (bB2 (sz:=3) (l:=p0) (f:=aB) h kr kr (fun hl h=>oC ?_) fun hl h=>?_);refine aOa ?_;refine aO (.bsl 5 51 3 []) (bJ (l:=([]:List aA)) (f:=aB) (g:=aB) kr (fun _=>rfl) kr (oC ?_));exact aq' 5 aB h fun y1 h=>(rw' (s':=⟨[(2,.osl 243 51 3 (y1.map aB))],[]⟩) (wr [(243,.old 2)] (eo 2 iP) aX) (rb' h))
 subst hl
 refine ⟨oC ?_,oC ?_⟩
 replace h:((appG 32 ([]:List aA) ([]:List aA))>>=fun (y2:List aA)=>some y2:Option (List aA))=some r:=h
 refine aOa ?_;refine aO (.bsl 5 51 3 []) (bJ (l:=([]:List aA)) (f:=aB) (g:=aB) kr (fun _=>rfl) kr (oC ?_));exact aq' 5 aB h fun y2 h=>(rw' (s':=⟨[(2,.osl 243 51 3 (y2.map aB))],[]⟩) (wr [(243,.old 2)] (eo 2 iP) aX) (rb' h));exact bFn (rw' (s':=⟨[(2,.osl 243 51 3 (([]:List aA).map aB))],[]⟩) (wr [(243,.new 51 3)] (en iP) aX) (rb' h))
abbrev bKi (p0) (p1):=Z0.partial_correctness p0 p1 (aX1 p0 p1) (by intro cH3 aTg x13 r h;refine Lok.un ?_;refine cd' h ?_ ?_<;>intro h;refine iq' h fun y1 h=>(iq' h fun y2 h=>?_);refine cd' h ?_ ?_<;>intro h;exact rp' h;exact lb' (aTg _ _ h) (wr [] eS aX);exact rp' h)
abbrev aTg:=bKi
theorem bKr (p0:List aA) (p1:List aA):FOk Tryz.prog 131 [eQ p0,eQ p1] (fun y=>(vB y)) (aHa p0 p1):=by
 refine aoP fun r h=>?_;rw [aHa] at h;refine lq' p0 (lq' p1 ?_);refine cd' h ?_ ?_<;>intro h;exact rp' h;exact lq' p0 (lb' (aTg _ _ _ _ h) (wr [] eS aX))
theorem bT3 (p0:List aA) (c0_0:List aA):dD Tryz.prog 130 [eQ p0,.ptr 241 0] [(241,[eQ c0_0])] ZK (fun (y:Bool)=>[(241,[eQ c0_0])]) (aPe p0 c0_0):=by
 refine aoB fun r h=>?_;rw [aPe] at h;exact cs' h (bKr _ _) fun y1 h=>(rb' h)
abbrev bV0 (p0) (c0_0):=U2.partial_correctness p0 c0_0 (aQe p0 c0_0) (by intro cFq aRi x8 r h;refine Lok.un ?_;refine cd' h ?_ ?_<;>intro h;refine iq' h fun y1 h=>(cg' c1_ h (bT3 _ _) fun y2 h=>?_);refine cd' h ?_ ?_<;>intro h;exact rb' h;exact lb' (aRi _ _ h) (wr [] eS bS);exact rb' h)
abbrev aRi:=bV0
theorem bK1 (p0:List (List aA)) (c0_0:List aA):dD Tryz.prog 73 [.d (.sl 1 (p0.map (cSl 3 aB))),.fn 130 [.ptr 241 0]] [(241,[eQ c0_0])] Zi (fun (y:Int)=>[(241,[eQ c0_0])]) (aKi p0 c0_0):=by
 refine aoB fun r h=>?_;rw [aKi] at h;exact lq' p0 (lb' (aRi _ _ _ _ h) (wr [] eS bS))
theorem bVo (p0:List (List aA)) (c0_0:List aA):dD Tryz.prog 36 [.d (.sl 1 (p0.map (cSl 3 aB))),.fn 130 [.ptr 241 0]] [(241,[eQ c0_0])] ZK (fun (y:Bool)=>[(241,[eQ c0_0])]) (aK3 p0 c0_0):=by
 refine aoB fun r h=>?_;rw [aK3] at h;exact cg' c1_ h (bK1 _ _) fun y1 h=>(rb' h)
abbrev bH2 (p0):=aCj.mutual_partial_correctness p0 (aTv p0) (aXf p0) (by intro cGu aXc x9 qD r h;exact Jok.un (lb' (aXc _ _ _ h) (wr [(3,.old 3)] (eo 3 eS) aX))) (by intro cH9 aUy x3 x9 r h;refine Lok.un ?_;refine cd' h ?_ ?_<;>intro h;refine iq' h fun y1 h=>(cg' ⟨[(241,5)],[],[],[],[],[],[],[],[]⟩ h (bVo _ _) fun y2 h=>?_);refine cd' h ?_ ?_<;>intro h;refine cg' ⟨[],[],[],[],[],[(243,19)],[],[19],[]⟩ h (cB6 _) fun y3 h=>?_;refine aO (.bsl 20 62 1 [19]) (bJ (l:=([y3]:List (List aA))) (f:=(cSl 3 aB)) (g:=(cSl 3 aB)) kr (fun _=>rfl) kr (oC ?_));exact aq' 3 (cSl 3 aB) h fun y4 h=>(jn' (aUy _ _ _ h) (wr [(3,.old 3)] (eo 3 eS) aX));exact jn' (aUy _ _ _ h) (wr [(3,.old 3)] (eo 3 eS) aX);exact rw' (s':=⟨[(2,.osl 243 62 1 (x3.map (cSl 3 aB)))],[]⟩) (wr [(243,.old 2)] (eo 2 iP) aX) (rb' h))
abbrev aUy:=fun p0=>(bH2 p0).1
abbrev aXc:=fun p0=>(bH2 p0).2
theorem bRq (p0:List (List aA)):dD Tryz.prog 79 [.d (.sl 1 (p0.map (cSl 3 aB)))] [] Zl Zm (aAs p0):=by
 refine aoB fun r h=>?_;rw [aAs] at h;refine aO (.bsl 6 62 1 []) (bJ (l:=([]:List (List aA))) (f:=(cSl 3 aB)) (g:=(cSl 3 aB)) kr (fun _=>rfl) kr (oC ?_));exact lq' p0 (lb' (aXc _ _ _ _ h) (wr [(3,.old 3)] (eo 3 eS) aX))
theorem bF2 (V9 r) (h:aJv V9=some r):bRo V9 r:=by
 rw [aJv] at h;exact Jok.un (rp' h)
abbrev ZM (y:List (List aA)):V:=(.d (.sl 1 (y.map (cSl 3 aB))))
theorem bG9 (p0 vK r) (h:xK p0 vK=some r):bN8 p0 vK r:=by
 rw [xK] at h;refine Jok.un (iZ vK (bU h fun y8 h=>?_));refine cd' h ?_ ?_<;>intro h;refine aO (.slc 67 1 64 none (some 66) none) (vs ZM h (fun y hy=>vR (l:=vK) (f:=(cSl 3 aB)) (lo:=0) (hi:=p0.limit) hy kr kr ⟨kr,.i64,kr⟩ rfl) fun y9 h=>oC ?_);exact jn' (bF2 _ _ h) (wr [] eS aX);exact jn' (bF2 _ _ h) (wr [] (ew iP) aX)
abbrev bCz (p2) (p0) (p1):=aAj.mutual_partial_correctness p2 p0 p1 (fun x12=>aQn p2 x12 p0 p1) (aQu p2 p0 p1) (by intro cG1 aXg x12 x8 r h;refine Jok.un ?_;refine cd' h ?_ ?_<;>intro h;exact rp' h;exact lb' (aXg _ _ h) (wr [] eS bS)) (by intro cEg aT2 x12 r h;refine Lok.un ?_;refine cd' h ?_ ?_<;>intro h;refine iq' h fun y1 h=>(iq' h fun y2 h=>(iq' h fun y3 h=>(cs' h (bBz _ _) fun y4 h=>?_)));refine cd' h ?_ ?_<;>intro h;exact jn' (aT2 _ _ _ h) (wr [] eS bS);exact jn' (aT2 _ _ _ h) (wr [] eS bS);exact rp' h)
abbrev aT2:=fun p2 x12 p0 p1=>(bCz p2 p0 p1).1 x12
abbrev aXg:=fun p2 p0 p1=>(bCz p2 p0 p1).2
theorem aPh (p0:aU) (p1:aU) (p2:eP):FOk Tryz.prog 128 [jR p0,jR p1,.rp (tQ p2)] (fun y=>(vI y)) (uX p0 p1 p2):=by
 refine aoP fun r h=>?_;rw [uX] at h;exact lq' p2.order (lb' (aXg _ _ _ _ _ h) (wr [] eS bS))
abbrev bFt (p1) (p2) (p3):=O8.mutual_partial_correctness p1 p2 p3 (bA1 p1 p2 p3) (aV7 p1 p2 p3) (by intro cD9 cGx aLa aWb x8 x9 fB r h;refine Lok.un ?_;refine dO (.g 21 true (.ia 25 2 23 24)) (uG (p:=true) (b:=(decide (p1<x9))) (m:=idx fB x9) (dflt:=default) (v':=fun y=>(.trp 244 2 (x9).toNat 0)) h kr rfl rfl (fun y hy hc=>kH (n:=244) (l:=fB) (f:=bA) (k:=.i64) (i:=x9) hy kr (Eq.trans (b:=([true&&((decide (p1<x9))==true),true&&((decide (p1<x9))==true)]:List Bool).all id) kr (dX hc (dX hc rfl))) kr kr) fun y2 h=>dC ?_);refine dO (.g 21 true (.ld 26 2 true 25)) (uG (p:=true) (b:=(decide (p1<x9))) (m:=idx fB x9) (dflt:=default) (v':=fun y=>(jR y)) h kr rfl rfl (fun y hy hc=>oG (off:=0) (n:=244) (sz:=2) (l:=fB) (f:=bA) (g:=bA) (j:=x9) hy (fun _=>rfl) kr (Eq.trans (b:=([true&&((decide (p1<x9))==true)]:List Bool).all id) kr (dX hc rfl)) kr kr) fun y3 h=>dC ?_);refine dO (.g 21 true (.ia 30 2 27 29)) (uG (p:=true) (b:=(decide (p1<x9))) (m:=idx fB (QA .i64 (x9 - 1))) (dflt:=default) (v':=fun y=>(.trp 244 2 ((QA .i64 (x9 - 1))).toNat 0)) h kr rfl rfl (fun y hy hc=>kH (n:=244) (l:=fB) (f:=bA) (k:=.i64) (i:=(QA .i64 (x9 - 1))) hy kr (Eq.trans (b:=([true&&((decide (p1<x9))==true),true&&((decide (p1<x9))==true)]:List Bool).all id) kr (dX hc (dX hc rfl))) kr kr) fun y4 h=>dC ?_);refine dO (.g 21 true (.ld 31 2 true 30)) (uG (p:=true) (b:=(decide (p1<x9))) (m:=idx fB (QA .i64 (x9 - 1))) (dflt:=default) (v':=fun y=>(jR y)) h kr rfl rfl (fun y hy hc=>oG (off:=0) (n:=244) (sz:=2) (l:=fB) (f:=bA) (g:=bA) (j:=(QA .i64 (x9 - 1))) hy (fun _=>rfl) kr (Eq.trans (b:=([true&&((decide (p1<x9))==true)]:List Bool).all id) kr (dX hc rfl)) kr kr) fun y5 h=>dC ?_);refine dO (.g 21 true (.callv (some 32) 22 [26,31])) (bLj (caps:=[.rp (tQ p3.c0)]) (p:=true) (b:=(decide (p1<x9))) (m:=uX y3 y5 p3.c0) (dflt:=default) (args:=[jR y3,jR y5,.rp (tQ p3.c0)]) (v':=(fun y=>(vI y))) h kr kr kr (aPh _ _ _) (fun hc=>by kernel_rfl) kr (fun _=>rfl) (fun hc=>(Eq.trans (b:=([true&&((decide (p1<x9))==true),true&&((decide (p1<x9))==true),true&&((decide (p1<x9))==true)]:List Bool).all id) kr (dX hc (dX hc (dX hc rfl))))) fun y6 h=>dC ?_);refine bU h fun y7 h=>?_;refine cd' h ?_ ?_<;>intro h;refine dO (.ia 45 2 42 44) (eZ (m:=idx fB (QA .i64 (x9 - 1))) (v':=fun y=>(.trp 244 2 ((QA .i64 (x9 - 1))).toNat 0)) h rfl rfl (fun y hy=>kH (n:=244) (l:=fB) (f:=bA) (k:=.i64) (i:=(QA .i64 (x9 - 1))) hy kr kr kr kr) fun y8 h=>dC ?_);refine dO (.ld 46 2 true 45) (eZ (m:=idx fB (QA .i64 (x9 - 1))) (v':=fun y=>(jR y)) h rfl rfl (fun y hy=>oG (off:=0) (n:=244) (sz:=2) (l:=fB) (f:=bA) (g:=bA) (j:=(QA .i64 (x9 - 1))) hy (fun _=>rfl) kr kr kr kr) fun y9 h=>dC ?_);refine dO (.ia 49 2 47 48) (eZ (m:=idx fB x9) (v':=fun y=>(.trp 244 2 (x9).toNat 0)) h rfl rfl (fun y hy=>kH (n:=244) (l:=fB) (f:=bA) (k:=.i64) (i:=x9) hy kr kr kr kr) fun y10 h=>dC ?_);refine dO (.ld 50 2 true 49) (eZ (m:=idx fB x9) (v':=fun y=>(jR y)) h rfl rfl (fun y hy=>oG (off:=0) (n:=244) (sz:=2) (l:=fB) (f:=bA) (g:=bA) (j:=x9) hy (fun _=>rfl) kr kr kr kr) fun y11 h=>dC ?_);refine dO (.ia 51 2 37 38) (eZ (m:=idx fB x9) (v':=fun y=>(.trp 244 2 (x9).toNat 0)) h rfl rfl (fun y hy=>kH (n:=244) (l:=fB) (f:=bA) (k:=.i64) (i:=x9) hy kr kr kr kr) fun y12 h=>dC ?_);refine dO (.st 2 51 46) (R9 (n:=244) (sz:=2) (l:=fB) (f:=bA) (j:=x9) (v:=y9) h kr kr (fun _=>rfl) kr kr (fun _=>rfl) fun y13 h=>dC ?_);refine dO (.ia 52 2 39 41) (eZ (m:=idx y13 (QA .i64 (x9 - 1))) (v':=fun y=>(.trp 244 2 ((QA .i64 (x9 - 1))).toNat 0)) h rfl rfl (fun y hy=>kH (n:=244) (l:=y13) (f:=bA) (k:=.i64) (i:=(QA .i64 (x9 - 1))) hy kr kr kr kr) fun y14 h=>dC ?_);refine dO (.st 2 52 50) (R9 (n:=244) (sz:=2) (l:=y13) (f:=bA) (j:=(QA .i64 (x9 - 1))) (v:=y11) h kr kr (fun _=>rfl) kr kr (fun _=>rfl) fun y15 h=>dC ?_);exact lb' (aLa _ _ _ _ h) (wr [] eS bS);exact lb' (aWb _ _ _ h) (wr [] eS bS)) (by intro cD9 aLa x8 bC r h;refine Lok.un ?_;refine cd' h ?_ ?_<;>intro h;exact lb' (aLa _ _ _ _ h) (wr [] eS bS);exact rb' h)
abbrev aLa:=fun p1 p2 p3=>(bFt p1 p2 p3).1
abbrev aWb:=fun p1 p2 p3=>(bFt p1 p2 p3).2
theorem bDv (p0:List aU) (p1:Int) (p2:Int) (p3:eU):dD Tryz.prog 196 [.tre 244,vI p1,vI p2,.d (lM p3)] [(244,[.trs 2 (p0.map bA)])] Zn Zo (aDo p0 p1 p2 p3):=by
 refine aoB fun r h=>?_;rw [aDo] at h;exact lb' (aWb _ _ _ _ _ _ h) (wr [] eS bS)
abbrev bJm (p1) (p2) (p3):=aJl.partial_correctness p1 p2 p3 (aUa p1 p2 p3) (by intro cEz aVp x10 bC r h;refine Lok.un ?_;refine cd' h ?_ ?_<;>intro h;refine dO (.ia 28 2 24 27) (eZ (m:=idx bC (QA .i64 (p2+x10))) (v':=fun y=>(.trp 244 2 ((QA .i64 (p2+x10))).toNat 0)) h rfl rfl (fun y hy=>kH (n:=244) (l:=bC) (f:=bA) (k:=.i64) (i:=(QA .i64 (p2+x10))) hy kr kr kr kr) fun y1 h=>dC ?_);refine dO (.ld 29 2 true 28) (eZ (m:=idx bC (QA .i64 (p2+x10))) (v':=fun y=>(jR y)) h rfl rfl (fun y hy=>oG (off:=0) (n:=244) (sz:=2) (l:=bC) (f:=bA) (g:=bA) (j:=(QA .i64 (p2+x10))) hy (fun _=>rfl) kr kr kr kr) fun y2 h=>dC ?_);refine dO (.ia 34 2 30 33) (eZ (m:=idx bC (QA .i64 (p1+x10))) (v':=fun y=>(.trp 244 2 ((QA .i64 (p1+x10))).toNat 0)) h rfl rfl (fun y hy=>kH (n:=244) (l:=bC) (f:=bA) (k:=.i64) (i:=(QA .i64 (p1+x10))) hy kr kr kr kr) fun y3 h=>dC ?_);refine dO (.ld 35 2 true 34) (eZ (m:=idx bC (QA .i64 (p1+x10))) (v':=fun y=>(jR y)) h rfl rfl (fun y hy=>oG (off:=0) (n:=244) (sz:=2) (l:=bC) (f:=bA) (g:=bA) (j:=(QA .i64 (p1+x10))) hy (fun _=>rfl) kr kr kr kr) fun y4 h=>dC ?_);refine dO (.ia 36 2 16 19) (eZ (m:=idx bC (QA .i64 (p1+x10))) (v':=fun y=>(.trp 244 2 ((QA .i64 (p1+x10))).toNat 0)) h rfl rfl (fun y hy=>kH (n:=244) (l:=bC) (f:=bA) (k:=.i64) (i:=(QA .i64 (p1+x10))) hy kr kr kr kr) fun y5 h=>dC ?_);refine dO (.st 2 36 29) (R9 (n:=244) (sz:=2) (l:=bC) (f:=bA) (j:=(QA .i64 (p1+x10))) (v:=y2) h kr kr (fun _=>rfl) kr kr (fun _=>rfl) fun y6 h=>dC ?_);refine dO (.ia 37 2 20 23) (eZ (m:=idx y6 (QA .i64 (p2+x10))) (v':=fun y=>(.trp 244 2 ((QA .i64 (p2+x10))).toNat 0)) h rfl rfl (fun y hy=>kH (n:=244) (l:=y6) (f:=bA) (k:=.i64) (i:=(QA .i64 (p2+x10))) hy kr kr kr kr) fun y7 h=>dC ?_);refine dO (.st 2 37 35) (R9 (n:=244) (sz:=2) (l:=y6) (f:=bA) (j:=(QA .i64 (p2+x10))) (v:=y4) h kr kr (fun _=>rfl) kr kr (fun _=>rfl) fun y8 h=>dC ?_);exact lb' (aVp _ _ _ h) (wr [] eS bS);exact rb' h)
abbrev aVp:=bJm
theorem aV9 (p0:List aU) (p1:Int) (p2:Int) (p3:Int) (p4:eU):dD Tryz.prog 204 [.tre 244,vI p1,vI p2,vI p3,.d (lM p4)] [(244,[.trs 2 (p0.map bA)])] Zn Zo (aG0 p0 p1 p2 p3 p4):=by
 refine aoB fun r h=>?_;rw [aG0] at h;exact lb' (aVp _ _ _ _ _ _ h) (wr [] eS bS)
abbrev bPo (p2) (p4):=aE9.partial_correctness p2 p4 (aZ3 p2 p4) (by intro cEe aM6 x10 x11 bC r h;refine Lok.un ?_;refine cd' h ?_ ?_<;>intro h;refine cd' h ?_ ?_<;>intro h;exact cg' ⟨[(244,244)],[],[],[],[],[],[],[],[]⟩ h (aV9 _ _ _ _ _) fun y1 h=>(lb' (aM6 _ _ _ _ h) (wr [] eS bS));exact cg' ⟨[(244,244)],[],[],[],[],[],[],[],[]⟩ h (aV9 _ _ _ _ _) fun y2 h=>(lb' (aM6 _ _ _ _ h) (wr [] eS bS));exact cg' ⟨[(244,244)],[],[],[],[],[],[],[],[]⟩ h (aV9 _ _ _ _ _) fun y3 h=>(rb' h))
abbrev aM6:=bPo
theorem bKc (p0:List aU) (p1:Int) (p2:Int) (p3:Int) (p4:eU):dD Tryz.prog 203 [.tre 244,vI p1,vI p2,vI p3,.d (lM p4)] [(244,[.trs 2 (p0.map bA)])] Zn Zo (bA5 p0 p1 p2 p3 p4):=by
 refine aoB fun r h=>?_;rw [bA5] at h;exact lb' (aM6 _ _ _ _ _ _ h) (wr [] eS bS)
abbrev bO4 (x10):=aJ6.partial_correctness x10 (aU2 x10) (by intro cFj aQr x13 bC r h;refine Lok.un ?_;refine cd' h ?_ ?_<;>intro h;refine dO (.ia 69 2 66 68) (eZ (m:=idx bC (QA .i64 (x13+1))) (v':=fun y=>(.trp 244 2 ((QA .i64 (x13+1))).toNat 0)) h rfl rfl (fun y hy=>kH (n:=244) (l:=bC) (f:=bA) (k:=.i64) (i:=(QA .i64 (x13+1))) hy kr kr kr kr) fun y14 h=>dC ?_);refine dO (.ld 70 2 true 69) (eZ (m:=idx bC (QA .i64 (x13+1))) (v':=fun y=>(jR y)) h rfl rfl (fun y hy=>oG (off:=0) (n:=244) (sz:=2) (l:=bC) (f:=bA) (g:=bA) (j:=(QA .i64 (x13+1))) hy (fun _=>rfl) kr kr kr kr) fun y15 h=>dC ?_);refine dO (.ia 73 2 71 72) (eZ (m:=idx bC x13) (v':=fun y=>(.trp 244 2 (x13).toNat 0)) h rfl rfl (fun y hy=>kH (n:=244) (l:=bC) (f:=bA) (k:=.i64) (i:=x13) hy kr kr kr kr) fun y16 h=>dC ?_);refine dO (.ld 74 2 true 73) (eZ (m:=idx bC x13) (v':=fun y=>(jR y)) h rfl rfl (fun y hy=>oG (off:=0) (n:=244) (sz:=2) (l:=bC) (f:=bA) (g:=bA) (j:=x13) hy (fun _=>rfl) kr kr kr kr) fun y17 h=>dC ?_);refine dO (.ia 75 2 61 62) (eZ (m:=idx bC x13) (v':=fun y=>(.trp 244 2 (x13).toNat 0)) h rfl rfl (fun y hy=>kH (n:=244) (l:=bC) (f:=bA) (k:=.i64) (i:=x13) hy kr kr kr kr) fun y18 h=>dC ?_);refine dO (.st 2 75 70) (R9 (n:=244) (sz:=2) (l:=bC) (f:=bA) (j:=x13) (v:=y15) h kr kr (fun _=>rfl) kr kr (fun _=>rfl) fun y19 h=>dC ?_);refine dO (.ia 76 2 63 65) (eZ (m:=idx y19 (QA .i64 (x13+1))) (v':=fun y=>(.trp 244 2 ((QA .i64 (x13+1))).toNat 0)) h rfl rfl (fun y hy=>kH (n:=244) (l:=y19) (f:=bA) (k:=.i64) (i:=(QA .i64 (x13+1))) hy kr kr kr kr) fun y20 h=>dC ?_);refine dO (.st 2 76 74) (R9 (n:=244) (sz:=2) (l:=y19) (f:=bA) (j:=(QA .i64 (x13+1))) (v:=y17) h kr kr (fun _=>rfl) kr kr (fun _=>rfl) fun y21 h=>dC ?_);exact lb' (aQr _ _ _ h) (wr [] eS bS);exact rb' h)
abbrev aQr:=bO4
abbrev cDk (p1) (p4) (p0):=aEl.partial_correctness p1 p4 p0 (aS2 p1 p4 p0) (by intro cH6 aL6 x10 x11 r h;refine Lok.un ?_;refine cd' h ?_ ?_<;>intro h;refine dO (.ia 43 2 41 42) (eZ (m:=idx p0 (QA .i64 (QB (QA .u64 (QA .i64 (x10+x11))) (2 ^ 1)))) (v':=fun y=>(.trp 244 2 ((QA .i64 (QB (QA .u64 (QA .i64 (x10+x11))) (2 ^ 1)))).toNat 0)) h rfl rfl (fun y hy=>kH (n:=244) (l:=p0) (f:=bA) (k:=.i64) (i:=(QA .i64 (QB (QA .u64 (QA .i64 (x10+x11))) (2 ^ 1)))) hy kr kr kr kr) fun y1 h=>dC ?_);refine dO (.ld 44 2 true 43) (eZ (m:=idx p0 (QA .i64 (QB (QA .u64 (QA .i64 (x10+x11))) (2 ^ 1)))) (v':=fun y=>(jR y)) h rfl rfl (fun y hy=>oG (off:=0) (n:=244) (sz:=2) (l:=p0) (f:=bA) (g:=bA) (j:=(QA .i64 (QB (QA .u64 (QA .i64 (x10+x11))) (2 ^ 1)))) hy (fun _=>rfl) kr kr kr kr) fun y2 h=>dC ?_);refine dO (.ia 47 2 45 46) (eZ (m:=idx p0 p1) (v':=fun y=>(.trp 244 2 (p1).toNat 0)) h rfl rfl (fun y hy=>kH (n:=244) (l:=p0) (f:=bA) (k:=.i64) (i:=p1) hy kr kr kr kr) fun y3 h=>dC ?_);refine dO (.ld 48 2 true 47) (eZ (m:=idx p0 p1) (v':=fun y=>(jR y)) h rfl rfl (fun y hy=>oG (off:=0) (n:=244) (sz:=2) (l:=p0) (f:=bA) (g:=bA) (j:=p1) hy (fun _=>rfl) kr kr kr kr) fun y4 h=>dC ?_);refine dO (.callv (some 49) 40 [44,48]) (aU4 (m:=uX y2 y4 p4.c0) (caps:=[.rp (tQ p4.c0)]) (args:=[jR y2,jR y4,.rp (tQ p4.c0)]) (v':=(fun y=>(vI y))) h kr kr (aPh _ _ _) kr kr (fun _=>rfl) fun y5 h=>dC ?_);refine cd' h ?_ ?_<;>intro h;exact lb' (aL6 _ _ _ h) (wr [] eS bS);exact lb' (aL6 _ _ _ h) (wr [] eS bS);exact lb' (aQr _ _ _ _ h) (wr [] eS bS))
abbrev aL6:=cDk
abbrev bLg (x14):=aHx.partial_correctness x14 (aUu x14) (by intro cFk aSt x17 iL r h;refine Lok.un ?_;refine cd' h ?_ ?_<;>intro h;refine dO (.ia 121 2 118 120) (eZ (m:=idx iL (QA .i64 (x17 - 1))) (v':=fun y=>(.trp 244 2 ((QA .i64 (x17 - 1))).toNat 0)) h rfl rfl (fun y hy=>kH (n:=244) (l:=iL) (f:=bA) (k:=.i64) (i:=(QA .i64 (x17 - 1))) hy kr kr kr kr) fun y22 h=>dC ?_);refine dO (.ld 122 2 true 121) (eZ (m:=idx iL (QA .i64 (x17 - 1))) (v':=fun y=>(jR y)) h rfl rfl (fun y hy=>oG (off:=0) (n:=244) (sz:=2) (l:=iL) (f:=bA) (g:=bA) (j:=(QA .i64 (x17 - 1))) hy (fun _=>rfl) kr kr kr kr) fun y23 h=>dC ?_);refine dO (.ia 125 2 123 124) (eZ (m:=idx iL x17) (v':=fun y=>(.trp 244 2 (x17).toNat 0)) h rfl rfl (fun y hy=>kH (n:=244) (l:=iL) (f:=bA) (k:=.i64) (i:=x17) hy kr kr kr kr) fun y24 h=>dC ?_);refine dO (.ld 126 2 true 125) (eZ (m:=idx iL x17) (v':=fun y=>(jR y)) h rfl rfl (fun y hy=>oG (off:=0) (n:=244) (sz:=2) (l:=iL) (f:=bA) (g:=bA) (j:=x17) hy (fun _=>rfl) kr kr kr kr) fun y25 h=>dC ?_);refine dO (.ia 127 2 113 114) (eZ (m:=idx iL x17) (v':=fun y=>(.trp 244 2 (x17).toNat 0)) h rfl rfl (fun y hy=>kH (n:=244) (l:=iL) (f:=bA) (k:=.i64) (i:=x17) hy kr kr kr kr) fun y26 h=>dC ?_);refine dO (.st 2 127 122) (R9 (n:=244) (sz:=2) (l:=iL) (f:=bA) (j:=x17) (v:=y23) h kr kr (fun _=>rfl) kr kr (fun _=>rfl) fun y27 h=>dC ?_);refine dO (.ia 128 2 115 117) (eZ (m:=idx y27 (QA .i64 (x17 - 1))) (v':=fun y=>(.trp 244 2 ((QA .i64 (x17 - 1))).toNat 0)) h rfl rfl (fun y hy=>kH (n:=244) (l:=y27) (f:=bA) (k:=.i64) (i:=(QA .i64 (x17 - 1))) hy kr kr kr kr) fun y28 h=>dC ?_);refine dO (.st 2 128 126) (R9 (n:=244) (sz:=2) (l:=y27) (f:=bA) (j:=(QA .i64 (x17 - 1))) (v:=y25) h kr kr (fun _=>rfl) kr kr (fun _=>rfl) fun y29 h=>dC ?_);exact lb' (aSt _ _ _ h) (wr [] eS bS);exact rb' h)
abbrev aSt:=bLg
abbrev bR8 (p2) (p4) (p0):=aF3.partial_correctness p2 p4 p0 (aXj p2 p4 p0) (by intro cEo aN1 x14 x15 r h;refine Lok.un ?_;refine cd' h ?_ ?_<;>intro h;refine dO (.ia 95 2 93 94) (eZ (m:=idx p0 p2) (v':=fun y=>(.trp 244 2 (p2).toNat 0)) h rfl rfl (fun y hy=>kH (n:=244) (l:=p0) (f:=bA) (k:=.i64) (i:=p2) hy kr kr kr kr) fun y6 h=>dC ?_);refine dO (.ld 96 2 true 95) (eZ (m:=idx p0 p2) (v':=fun y=>(jR y)) h rfl rfl (fun y hy=>oG (off:=0) (n:=244) (sz:=2) (l:=p0) (f:=bA) (g:=bA) (j:=p2) hy (fun _=>rfl) kr kr kr kr) fun y7 h=>dC ?_);refine dO (.ia 99 2 97 98) (eZ (m:=idx p0 (QA .i64 (QB (QA .u64 (QA .i64 (x14+x15))) (2 ^ 1)))) (v':=fun y=>(.trp 244 2 ((QA .i64 (QB (QA .u64 (QA .i64 (x14+x15))) (2 ^ 1)))).toNat 0)) h rfl rfl (fun y hy=>kH (n:=244) (l:=p0) (f:=bA) (k:=.i64) (i:=(QA .i64 (QB (QA .u64 (QA .i64 (x14+x15))) (2 ^ 1)))) hy kr kr kr kr) fun y8 h=>dC ?_);refine dO (.ld 100 2 true 99) (eZ (m:=idx p0 (QA .i64 (QB (QA .u64 (QA .i64 (x14+x15))) (2 ^ 1)))) (v':=fun y=>(jR y)) h rfl rfl (fun y hy=>oG (off:=0) (n:=244) (sz:=2) (l:=p0) (f:=bA) (g:=bA) (j:=(QA .i64 (QB (QA .u64 (QA .i64 (x14+x15))) (2 ^ 1)))) hy (fun _=>rfl) kr kr kr kr) fun y9 h=>dC ?_);refine dO (.callv (some 101) 92 [96,100]) (aU4 (m:=uX y7 y9 p4.c0) (caps:=[.rp (tQ p4.c0)]) (args:=[jR y7,jR y9,.rp (tQ p4.c0)]) (v':=(fun y=>(vI y))) h kr kr (aPh _ _ _) kr kr (fun _=>rfl) fun y10 h=>dC ?_);refine cd' h ?_ ?_<;>intro h;exact lb' (aN1 _ _ _ h) (wr [] eS bS);exact lb' (aN1 _ _ _ h) (wr [] eS bS);exact lb' (aSt _ _ _ _ h) (wr [] eS bS))
abbrev aN1:=bR8
abbrev aJ3 (p4):=aJs.mutual_partial_correctness p4 (fun p3=>aZn p3 p4) (fun p0 p1 p2 p3 r=>bD Tryz.prog 197 [.tre 244,vI p1,vI p2,vI p3,.d (lM p4)] [(244,[.trs 2 (p0.map bA)])] (BQ Zn Zo r)) (fun p1 p2 p3=>aX6 p1 p2 p3 p4) (fun p1 p2 p3=>aTr p1 p2 p3 p4) (fun p1 p3=>aS4 p1 p3 p4) (by intro bYn aDx p3 p1 p2 dF oZ r h;refine Jok.un (bU h fun y41 h=>?_);refine cd' h ?_ ?_<;>intro h;exact cg' ⟨[(244,244)],[],[],[],[],[],[],[],[]⟩ h (aDx _ _ _ _) fun y42 h=>(rb' h);exact rb' h) (by intro cGc aQx p0 p1 p2 p3 r h;refine ao' ?_;refine cd' h ?_ ?_<;>intro h;exact lb' (aL6 _ _ _ _ _ _ h) (wr [] eS bS);refine cd' h ?_ ?_<;>intro h;exact lb' (aN1 _ _ _ _ _ _ h) (wr [] eS bS);refine cd' h ?_ ?_<;>intro h;exact jn' (aQx _ _ _ _ _ _ _ h) (wr [] eS bS);exact jn' (aQx _ _ _ _ _ _ _ h) (wr [] eS bS)) (by intro bNt aJp p1 p2 p3 p0 x20 x21 r h;refine Jok.un ?_;exact lb' (aJp _ _ _ _ _ _ _ h) (wr [] eS bS)) (by intro bNt cE5 aJp aUr p1 p2 p3 p0 dF iI r h;refine Lok.un ?_;refine cd' h ?_ ?_<;>intro h;refine dO (.ia 163 2 159 162) (eZ (m:=idx p0 (QA .i64 ((QA .i64 ((QA .i64 ((QA .i64 (QB (QA .u64 (QA .i64 (p1+p3))) (2 ^ 1)))+p2)) - 1)) - (QA .i64 (QB (QA .u64 (QA .i64 (dF+iI))) (2 ^ 1)))))) (v':=fun y=>(.trp 244 2 ((QA .i64 ((QA .i64 ((QA .i64 ((QA .i64 (QB (QA .u64 (QA .i64 (p1+p3))) (2 ^ 1)))+p2)) - 1)) - (QA .i64 (QB (QA .u64 (QA .i64 (dF+iI))) (2 ^ 1)))))).toNat 0)) h rfl rfl (fun y hy=>kH (n:=244) (l:=p0) (f:=bA) (k:=.i64) (i:=(QA .i64 ((QA .i64 ((QA .i64 ((QA .i64 (QB (QA .u64 (QA .i64 (p1+p3))) (2 ^ 1)))+p2)) - 1)) - (QA .i64 (QB (QA .u64 (QA .i64 (dF+iI))) (2 ^ 1)))))) hy kr kr kr kr) fun y30 h=>dC ?_);refine dO (.ld 164 2 true 163) (eZ (m:=idx p0 (QA .i64 ((QA .i64 ((QA .i64 ((QA .i64 (QB (QA .u64 (QA .i64 (p1+p3))) (2 ^ 1)))+p2)) - 1)) - (QA .i64 (QB (QA .u64 (QA .i64 (dF+iI))) (2 ^ 1)))))) (v':=fun y=>(jR y)) h rfl rfl (fun y hy=>oG (off:=0) (n:=244) (sz:=2) (l:=p0) (f:=bA) (g:=bA) (j:=(QA .i64 ((QA .i64 ((QA .i64 ((QA .i64 (QB (QA .u64 (QA .i64 (p1+p3))) (2 ^ 1)))+p2)) - 1)) - (QA .i64 (QB (QA .u64 (QA .i64 (dF+iI))) (2 ^ 1)))))) hy (fun _=>rfl) kr kr kr kr) fun y31 h=>dC ?_);refine dO (.ia 167 2 165 166) (eZ (m:=idx p0 (QA .i64 (QB (QA .u64 (QA .i64 (dF+iI))) (2 ^ 1)))) (v':=fun y=>(.trp 244 2 ((QA .i64 (QB (QA .u64 (QA .i64 (dF+iI))) (2 ^ 1)))).toNat 0)) h rfl rfl (fun y hy=>kH (n:=244) (l:=p0) (f:=bA) (k:=.i64) (i:=(QA .i64 (QB (QA .u64 (QA .i64 (dF+iI))) (2 ^ 1)))) hy kr kr kr kr) fun y32 h=>dC ?_);refine dO (.ld 168 2 true 167) (eZ (m:=idx p0 (QA .i64 (QB (QA .u64 (QA .i64 (dF+iI))) (2 ^ 1)))) (v':=fun y=>(jR y)) h rfl rfl (fun y hy=>oG (off:=0) (n:=244) (sz:=2) (l:=p0) (f:=bA) (g:=bA) (j:=(QA .i64 (QB (QA .u64 (QA .i64 (dF+iI))) (2 ^ 1)))) hy (fun _=>rfl) kr kr kr kr) fun y33 h=>dC ?_);refine dO (.callv (some 169) 158 [164,168]) (aU4 (m:=uX y31 y33 p4.c0) (caps:=[.rp (tQ p4.c0)]) (args:=[jR y31,jR y33,.rp (tQ p4.c0)]) (v':=(fun y=>(vI y))) h kr kr (aPh _ _ _) kr kr (fun _=>rfl) fun y34 h=>dC ?_);refine cd' h ?_ ?_<;>intro h;exact lb' (aJp _ _ _ _ _ _ _ h) (wr [] eS bS);exact lb' (aJp _ _ _ _ _ _ _ h) (wr [] eS bS);refine bU h fun y35 h=>?_;refine cd' h ?_ ?_<;>intro h;refine cg' ⟨[(244,244)],[],[],[],[],[],[],[],[]⟩ h (bKc _ _ _ _ _) fun y36 h=>?_;exact jn' (aUr _ _ _ _ _ _ h) (wr [] eS bS);exact jn' (aUr _ _ _ _ _ _ h) (wr [] eS bS)) (by intro cEl bYn aU9 aDx p1 p3 dF p2 oP r h;refine Jok.un (bU h fun y38 h=>?_);refine cd' h ?_ ?_<;>intro h;exact cg' ⟨[(244,244)],[],[],[],[],[],[],[],[]⟩ h (aDx _ _ _ _) fun y39 h=>(jn' (aU9 _ _ _ _ _ _ h) (wr [] eS bS));exact jn' (aU9 _ _ _ _ _ _ h) (wr [] eS bS))
abbrev aU9:=fun p3 p4=>(aJ3 p4).1 p3
theorem aDx (p0:List aU) (p1:Int) (p2:Int) (p3:Int) (p4:eU):dD Tryz.prog 197 [.tre 244,vI p1,vI p2,vI p3,.d (lM p4)] [(244,[.trs 2 (p0.map bA)])] Zn Zo (aFx p0 p1 p2 p3 p4):=fun r h=>(aJ3 p4).2.1 p0 p1 p2 p3 r h
abbrev aQx:=fun p1 p2 p3 p4=>(aJ3 p4).2.2.1 p1 p2 p3
abbrev aJp:=fun p1 p2 p3 p4=>(aJ3 p4).2.2.2.1 p1 p2 p3
abbrev aUr:=fun p1 p3 p4=>(aJ3 p4).2.2.2.2 p1 p3
abbrev aTd (p1) (p2):=aIa.mutual_partial_correctness p1 p2 (aSc p1 p2) (aVl p1 p2) (aQ0 p1 p2) (by intro cG2 aTn x6 pW r h;exact Jok.un (lb' (aTn _ _ _ h) (wr [] eS bS))) (by intro bQg aM8 x6 oW r h;refine Lok.un ?_;refine cd' h ?_ ?_<;>intro h;exact lb' (aM8 _ _ _ _ _ h) (wr [] eS bS);exact rb' h) (by intro cGl bQg aZa aM8 x6 nD nL oD r h;refine Lok.un ?_;refine cd' h ?_ ?_<;>intro h;exact cg' ⟨[(244,244)],[],[],[],[],[],[],[],[]⟩ h (aDx _ _ _ _ _) fun y7 h=>(lb' (aM8 _ _ _ _ _ h) (wr [] eS bS));refine cd' h ?_ ?_<;>intro h;exact cg' ⟨[(244,244)],[],[],[],[],[],[],[],[]⟩ h (aDx _ _ _ _ _) fun y8 h=>(jn' (aZa _ _ _ h) (wr [] eS bS));exact jn' (aZa _ _ _ h) (wr [] eS bS))
abbrev aZa:=fun p1 p2=>(aTd p1 p2).1
abbrev aTn:=fun p1 p2=>(aTd p1 p2).2.1
abbrev aM8:=fun p1 p2=>(aTd p1 p2).2.2
abbrev bQx (p1) (p2):=aEw.partial_correctness p1 p2 (aXd p1 p2) (by intro cFx aV6 x7 x8 bC r h;refine Lok.un ?_;refine cd' h ?_ ?_<;>intro h;exact cg' ⟨[(244,244)],[],[],[],[],[],[],[],[]⟩ h (bDv _ _ _ _) fun y1 h=>(lb' (aV6 _ _ _ _ h) (wr [] eS bS));exact cg' ⟨[(244,244)],[],[],[],[],[],[],[],[]⟩ h (bDv _ _ _ _) fun y2 h=>(lb' (aTn _ _ _ _ _ h) (wr [] eS bS)))
abbrev aV6:=bQx
theorem bUe (p0:List aU) (p1:Int) (p2:eU):dD Tryz.prog 170 [.tre 244,vI p1,.d (lM p2)] [(244,[.trs 2 (p0.map bA)])] Zn Zo (aKr p0 p1 p2):=by
 refine aoB fun r h=>?_;rw [aKr] at h;exact lb' (aV6 _ _ _ _ _ _ h) (wr [] eS bS)
theorem cD6 (p0:List aU) (p1:eU):dD Tryz.prog 127 [.tre 244,.d (lM p1)] [(244,[.trs 2 (p0.map bA)])] Zn Zo (aHw p0 p1):=by
 refine aoB fun r h=>?_;rw [aHw] at h;refine aO (.len 6 5) (ps (vI (ln p0)) (aKk (n:=244) (l:=p0.map bA) (L:=p0.length) kr kr (QH ..)) (oC ?_));exact cg' ⟨[(244,244)],[],[],[],[],[],[],[],[]⟩ h (bUe _ _ _) fun y1 h=>(rb' h)
abbrev bPi (y2):=L8.partial_correctness y2 (aT0 y2) (by intro cEy aT5 x14 x60 r h;refine Lok.un ?_;refine cd' h ?_ ?_<;>intro h;refine aO (.ia 62 2 58 60) (vs (fun (y:aU)=>(.trp 372 2 (x60).toNat 0)) h (fun y hy=>kH (n:=372) (l:=y2) (f:=bA) (k:=.i64) (i:=x60) hy kr kr kr kr) fun y7 h=>oC ?_);refine aO (.ld 63 2 true 62) (vs (fun (y:aU)=>(jR y)) h (fun y hy=>oG (off:=0) (n:=372) (sz:=2) (l:=y2) (f:=bA) (g:=bA) (j:=x60) hy (fun _=>rfl) kr kr kr kr) fun y8 h=>oC ?_);refine aO (.bsl 67 62 1 [66]) (bJ (l:=([y8.row]:List (List aA))) (f:=(cSl 3 aB)) (g:=(cSl 3 aB)) kr (fun _=>rfl) kr (oC ?_));exact aq' 14 (cSl 3 aB) h fun y9 h=>(lb' (aT5 _ _ _ h) (wr [(14,.old 14)] (eo 14 eS) bS));exact rw' (s':=⟨[(4,.osl 243 62 1 (x14.map (cSl 3 aB))),(5,vI 0)],[]⟩) (wr [(243,.old 4)] (eo 4 eS) aX) (rb' h))
abbrev aT5:=bPi
abbrev kU:=aBv.mutual_partial_correctness aW8 aTk (fun p0 p1 p2 p3 p4 r=>bD Tryz.prog 40 [eQ p0,.rp (pV p1),.rp (qG p2),.rp [.sl 1 (p3.map (cSl 3 aB))],.rp (jC p4)] [] (PQ (fun y=>(.tup [bN y.1,vI y.2])) r)) (fun p0 p1 p2 p3 r=>bD Tryz.prog 41 [cK p0,iG p1,.d (.sl 1 (p2.map (cSl 3 aB))),iJ p3] [] (PQ (fun y=>(.tup [bN y.1,vI y.2])) r)) aUz aQk (fun p0 p1 p2 p3 r=>bD Tryz.prog 17 [cK p0,iG p1,.d (.sl 1 (p2.map (cSl 3 aB))),fI p3] [] (PQ (fun y=>(.tup [.d (.sl 1 (y.1.map (cSl 3 aB))),vI y.2])) r)) aQy aWo aS3 (fun p0 r=>bD Tryz.prog 44 [E8 p0] [] (PQ (fun y=>(.tup [.d (.sl 1 (y.1.map (cSl 3 aB))),vI y.2])) r)) aYi (fun p0 p1 r=>bD Tryz.prog 42 [eQ p0,.rp [.sl 1 (p1.map iC)]] [] (BQ Zp Zq r)) (fun p0 p1 r=>bD Tryz.prog 43 [xN p0,eQ p1] [] (BQ Zp Zq r)) aUp (fun p0 p1 r=>bD Tryz.prog 78 [E8 p0,.d (.sl 1 (p1.map (cSl 3 aB)))] [] (BQ Zg Zh r)) (fun p0 r=>bD Tryz.prog 77 [E8 p0] [] (PQ (fun y=>(.tup [.d (.sl 1 (y.1.map (cSl 3 aB))),vI y.2])) r)) aXp (fun p0 p1 r=>bD Tryz.prog 126 [.d (.sl 1 (p0.map (cSl 3 aB))),xN p1] [] (PQ (fun y=>(.tup [.d (.sl 1 (y.1.map (cSl 3 aB))),vI y.2])) r)) aYt aVg aVh aYa aVf (by intro bXs bVb aIu aMt aPm aFj y1 p1 x20 p0 gY x9 x28 r h;refine Lok.un ?_;refine cd' h ?_ ?_<;>intro h;refine iq' h fun y3 h=>?_;refine aO (.callv (some 36) 34 [35]) (aGp (m:=aIu y1 y3.eval.c0 y3.eval.c1 y3.eval.c2 y3.eval.c3) (caps:=[.rp (pV y3.eval.c0),.rp (qG y3.eval.c1),.rp [.sl 1 (y3.eval.c2.map (cSl 3 aB))],.rp (jC y3.eval.c3)]) (args:=[eQ y1,.rp (pV y3.eval.c0),.rp (qG y3.eval.c1),.rp [.sl 1 (y3.eval.c2.map (cSl 3 aB))],.rp (jC y3.eval.c3)]) (v':=(fun y=>(.tup [bN y.1,vI y.2]))) h kr kr (aFj _ _ _ _ _) kr kr (fun _=>rfl) fun y4 h=>oC ?_);refine cd' h ?_ ?_<;>intro h;exact rw' (s':=⟨[(4,.osl 243 62 1 (([]:List (List aA)).map (cSl 3 aB))),(5,vI y4.2)],[]⟩) (wr [(243,.new 62 1)] (en eS) aX) (rb' h);refine aO (.bsl 44 51 3 [43]) (bJ (l:=([y4.1]:List aA)) (f:=aB) (g:=aB) kr (fun _=>rfl) kr (oC ?_));refine aq' 9 aB h fun y5 h=>?_;exact lb' (aMt _ _ _ _ _ _ _ _ h) (wr [(9,.old 9)] (es (es (es (eo 9 eS)))) bS);refine aO (.bsl 51 163 2 [50]) (bJ (l:=([aU.mk y1 x9]:List aU)) (f:=bA) (g:=bA) kr (fun _=>rfl) kr (oC ?_));refine aO (.app 52 163 2 48 47 51) (aZg (l:=gY) (m:=([aU.mk y1 x9]:List aU)) (f:=bA) [356] h kr kr kr kr (fun _=>rfl) fun y6 h=>oC ?_);exact lb' (aPm _ _ _ _ _ h) (tw [.rn [(52,346)]] (wr [] eS bS))) (by intro bXs aMt p1 p0 x20 gY r h;refine Lok.un ?_;refine cd' h ?_ ?_<;>intro h;refine iq' h fun y1 h=>?_;refine aO (.bsl 24 51 3 []) (bJ (l:=([]:List aA)) (f:=aB) (g:=aB) kr (fun _=>rfl) kr (oC ?_));refine lq' p0.order ?_;exact lb' (aMt _ _ _ _ _ _ _ _ h) (tw [.rn [(346,356)]] (wr [(9,.old 9)] (es (es (es (eo 9 eS)))) bS));refine tw' 0 [.fzb 2] (cg' ⟨[(244,346)],[],[],[],[],[],[],[],[]⟩ h (cD6 _ _) fun y2 h=>?_);refine aO (.bsl 57 62 1 []) (bJ (l:=([]:List (List aA))) (f:=(cSl 3 aB)) (g:=(cSl 3 aB)) kr (fun _=>rfl) kr (oC ?_));refine aO (.len 59 58) (ps (vI (ln y2)) (aKk (n:=346) (l:=y2.map bA) (L:=y2.length) kr kr (QH ..)) (oC ?_));exact lb' (aT5 _ _ _ _ h) (tw [.rn [(346,372)]] (wr [(14,.old 14)] (eo 14 eS) bS))) (by intro bYo aPj p0 p1 p2 p3 p4 r h;refine ao' ?_;refine dO (.bsl 11 62 1 [10]) (tF (l:=([p0]:List (List aA))) (f:=(cSl 3 aB)) (g:=(cSl 3 aB)) kr (fun _=>rfl) (dC ?_));exact sQ 11 [11] [] (cSl 3 aB) h fun y1 h=>(cs' h (aPj _ _ _ _) fun y2 h=>(rp' h))) (by intro cE1 aN8 p0 p1 p2 p3 r h;refine ao' (lq' p3.kids (lq' p3.sub (cs' h (bXu _ _ _) fun y1 h=>?_)));refine cd' h ?_ ?_<;>intro h;exact rp' h;refine cd' h ?_ ?_<;>intro h;refine dO (.g 36 false (.len 40 39)) (aCo (p:=true) (b:=(decide (p3.up<0))) (v':=(vI (ln p2))) kr rfl rfl (fun hc=>M7 (sz:=1) (l:=p2) (f:=(cSl 3 aB)) (Eq.trans (b:=([true&&((decide (p3.up<0))==false)]:List Bool).all id) kr (dX hc rfl)) kr) (dC ?_));refine bR h fun y2 h=>(bR h fun y3 h=>?_);refine dO (.g 48 false (.ia 54 1 51 53)) (uG (p:=true) (b:=y3) (m:=idx p2 p3.up) (dflt:=default) (v':=fun y=>(.rp [.sl 3 (y.map aB)])) h kr rfl rfl (fun y hy hc=>xA (l:=p2) (f:=(cSl 3 aB)) (g:=(cSl 3 aB)) (k:=.i64) hy (fun _=>rfl) (Eq.trans (b:=([true&&(y3==false),true&&(y3==false)]:List Bool).all id) kr (dX hc (dX hc rfl))) kr kr) fun y4 h=>dC ?_);refine dO (.g 48 false (.len 56 55)) (aCo (p:=true) (b:=y3) (v':=(vI (ln y4))) kr rfl rfl (fun hc=>M7 (sz:=3) (l:=y4) (f:=aB) (Eq.trans (b:=([true&&(y3==false)]:List Bool).all id) kr (dX hc rfl)) kr) (dC ?_));refine bR h fun y5 h=>?_;refine cd' h ?_ ?_<;>intro h;exact rp' h;exact iq' h fun y6 h=>(iq' h fun y7 h=>(rp' h));refine aO (.bld 77 [bI,bI,lV,bI,bI,mP,.nil 3,.nil 1] [(0,1,70),(1,1,72),(2,1,74),(3,3,76)]) (mR (c:=[vI p3.kind,vI p3.op,vB p3.not_,vI p3.value.kind,vI p3.value.num,vS p3.value.text,.nil 3,.nil 1]) kr kr rfl (oC ?_));refine lq' p3.kids ?_;exact lb' (aN8 _ _ _ _ _ _ _ h) (wr [(101,.new 51 3)] eS (bs_ (bs_ (bs_ (bs_ (jN (c0:=[vI p3.kind,vI p3.op,vB p3.not_,vI p3.value.kind,vI p3.value.num,vS p3.value.text,.nil 3,.nil 1]) kr (bL (dY kr kr) (bL (dY kr kr) (bL (dY kr kr) (bL (dY kr kr) (bL (dY kr kr) (bL (dY kr kr) (bL (R4 kr kr) (bL (dY kr kr) jP)))))))) aX))))))) (by intro bYo cE1 bMt aPj aN8 aO5 p2 p3 p0 p1 x81 gL r h;refine Lok.un ?_;refine cd' h ?_ ?_<;>intro h;refine iq' h fun y8 h=>(cs' h (aPj _ _ _ _) fun y9 h=>?_);refine cd' h ?_ ?_<;>intro h;exact rp' h;refine aO (.bsl 100 51 3 [99]) (bJ (l:=([y9.1]:List aA)) (f:=aB) (g:=aB) kr (fun _=>rfl) kr (oC ?_));refine aq' 101 aB h fun y10 h=>?_;exact lb' (aN8 _ _ _ _ _ _ _ h) (wr [(101,.old 101)] eS (bs_ (bs_ (bs_ (bs_ (jN (c0:=[vI p3.kind,vI p3.op,vB p3.not_,vI p3.value.kind,vI p3.value.num,vS p3.value.text,.osl 101 51 3 (y10.map aB),.nil 1]) kr (bL (dY kr kr) (bL (dY kr kr) (bL (dY kr kr) (bL (dY kr kr) (bL (dY kr kr) (bL (dY kr kr) (bL (iY (t:=101) kr kr) (bL (dY kr kr) jP)))))))) aX))))));refine lq' p3.sub ?_;exact lb' (aO5 _ _ _ _ _ _ _ _ h) (wr [(101,.old 101)] eS (bs_ (bs_ (bs_ (jN (c0:=[vI p3.kind,vI p3.op,vB p3.not_,vI p3.value.kind,vI p3.value.num,vS p3.value.text,.osl 101 51 3 (gL.map aB),.nil 1]) kr (bL (dY kr kr) (bL (dY kr kr) (bL (dY kr kr) (bL (dY kr kr) (bL (dY kr kr) (bL (dY kr kr) (bL (iY (t:=101) kr kr) (bL (bDc kr kr) jP)))))))) aX)))))) (by intro bMt cGw aO5 aYp p2 p3 p0 p1 gL nT qI r h;refine Lok.un ?_;refine cd' h ?_ ?_<;>intro h;refine iq' h fun y11 h=>(cs' h (aYp _ _ _ _) fun y12 h=>?_);refine cd' h ?_ ?_<;>intro h;exact rp' h;exact lb' (aO5 _ _ _ _ _ _ _ _ h) (wr [(101,.old 101)] eS (bs_ (bs_ (bs_ (jN (c0:=[vI p3.kind,vI p3.op,vB p3.not_,vI p3.value.kind,vI p3.value.num,vS p3.value.text,.osl 101 51 3 (gL.map aB),.d (.sl 1 (y12.1.map (cSl 3 aB)))]) kr (bL (dY kr kr) (bL (dY kr kr) (bL (dY kr kr) (bL (dY kr kr) (bL (dY kr kr) (bL (dY kr kr) (bL (iY (t:=101) kr kr) (bL (dY kr kr) jP)))))))) aX)))));exact cs' h (bZj _) fun y13 h=>(rp' h)) (by intro bXv aPk p0 p1 p2 p3 r h;refine ao' (jK cI p3.tables (iZ p3.on_ (J7 cI p3.tables (bR h fun y1 h=>?_))));refine cd' h ?_ ?_<;>intro h;exact rw' (s':=⟨[(8,.d (.sl 1 (([]:List (List aA)).map (cSl 3 aB)))),(9,vI 4)],[]⟩) (wr [] (ew eS) aX) (rp' h);refine aO (.bld 36 [.nil 1,.nil 1,.nil 1,.nil 2,.nf,lV,bI] [(5,1,33),(6,1,35)]) (mR (c:=[.nil 1,.nil 1,.nil 1,.nil 2,.nf,vB p3.distinct,vI p3.limit]) kr kr rfl (oC ?_));refine jK cI p3.tables ?_;exact lb' (aPk _ _ _ _ _ _ _ h) (wr [(62,.new 40 1)] eS (bs_ (bs_ (bs_ (bs_ (jN (c0:=[.nil 1,.nil 1,.nil 1,.nil 2,.nf,vB p3.distinct,vI p3.limit]) kr (bL (R4 kr kr) (bL (dY kr kr) (bL (dY kr kr) (bL (dY kr kr) (bL (dY kr kr) (bL (dY kr kr) (bL (dY kr kr) jP))))))) aX))))))) (by intro bXv bXy aPk aP8 p3 p0 p1 p2 x40 eG r h;refine Lok.un ?_;refine cd' h ?_ ?_<;>intro h;refine iA cI h fun y2 h=>(iZ p1.tables (bR h fun y3 h=>?_));refine cd' h ?_ ?_<;>intro h;exact rw' (s':=⟨[(8,.d (.sl 1 (([]:List (List aA)).map (cSl 3 aB)))),(9,vI 4)],[]⟩) (wr [] (ew eS) aX) (rp' h);refine iq' h fun y4 h=>?_;refine dO (.bsl 61 40 1 [60]) (tF (l:=([y4.rows]:List (List (List aA)))) (f:=(cSl 1 (cSl 3 aB))) (g:=(cSl 1 (cSl 3 aB))) kr (fun _=>rfl) (dC ?_));refine sQ 62 [54] [10] (cSl 1 (cSl 3 aB)) h fun y5 h=>?_;exact lb' (aPk _ _ _ _ _ _ _ h) (wr [(62,.old 62)] eS (bs_ (bs_ (bs_ (bs_ (jN (c0:=[.osl 62 40 1 (y5.map (cSl 1 (cSl 3 aB))),.nil 1,.nil 1,.nil 2,.nf,vB p3.distinct,vI p3.limit]) kr (bL (iY (t:=62) kr kr) (bL (dY kr kr) (bL (dY kr kr) (bL (dY kr kr) (bL (dY kr kr) (bL (dY kr kr) (bL (dY kr kr) jP))))))) aX))))));refine tw' 0 [.fzb 4,.fzb 5,.fzb 6] (lq' p3.on_ ?_);exact lb' (aP8 _ _ _ _ _ _ _ _ h) (wr [(62,.old 62),(79,.new 85 1)] eS (bs_ (jN (c0:=[.osl 62 40 1 (eG.map (cSl 1 (cSl 3 aB))),.nil 1,.nil 1,.nil 2,.nf,vB p3.distinct,vI p3.limit]) kr (bL (iY (t:=62) kr kr) (bL (R4 kr kr) (bL (dY kr kr) (bL (dY kr kr) (bL (dY kr kr) (bL (dY kr kr) (bL (dY kr kr) jP))))))) aX)))) (by intro bXy bUf aP8 aLm p0 p1 p2 p3 eG x69 gX r h;refine Lok.un ?_;refine cd' h ?_ ?_<;>intro h;refine iq' h fun y6 h=>(gU ⟨[],[],[],[],[],[(243,77)],[],[77],[]⟩ [] [] h (aOm _ _ _ _) fun y7 h=>?_);refine dO (.bsl 78 85 1 [77]) (tF (l:=([y7]:List (List bP))) (f:=(cSl 1 iC)) (g:=(cSl 1 iC)) kr (fun _=>rfl) (dC ?_));refine sQ 79 [74] [10] (cSl 1 iC) h fun y8 h=>?_;exact lb' (aP8 _ _ _ _ _ _ _ _ h) (wr [(62,.old 62),(79,.old 79)] eS (bs_ (jN (c0:=[.osl 62 40 1 (eG.map (cSl 1 (cSl 3 aB))),.osl 79 85 1 (y8.map (cSl 1 iC)),.nil 1,.nil 2,.nf,vB p3.distinct,vI p3.limit]) kr (bL (iY (t:=62) kr kr) (bL (iY (t:=79) kr kr) (bL (dY kr kr) (bL (dY kr kr) (bL (dY kr kr) (bL (dY kr kr) (bL (dY kr kr) jP))))))) aX)));refine cg' ⟨[],[],[],[],[],[(243,85)],[],[85],[]⟩ h (aOm _ _ _ _) fun y9 h=>(lq' p3.order ?_);exact lb' (aLm _ _ _ _ _ _ (_,_,_) _ h) (wr [(62,.old 62),(79,.old 79),(85,.old 85),(107,.new 98 2)] eS (bs_ (jN (c0:=[.osl 62 40 1 (eG.map (cSl 1 (cSl 3 aB))),.osl 79 85 1 (gX.map (cSl 1 iC)),.osl 85 96 1 (y9.map iC),.nil 2,.nf,vB p3.distinct,vI p3.limit]) kr (bL (iY (t:=62) kr kr) (bL (iY (t:=79) kr kr) (bL (iY (t:=85) kr kr) (bL (R4 kr kr) (bL (dY kr kr) (bL (dY kr kr) (bL (dY kr kr) jP))))))) aX)))) (by intro bUf cHe aLm bI2 p0 p1 p2 p3 eG gX ky9 r h;refine Lok.un ?_;refine cd' h ?_ ?_<;>intro h;refine iq' h fun y10 h=>?_;refine dO (.bsl 99 54 10 [98]) (tF (l:=([y10.expr]:List aJ)) (f:=aV) (g:=jC) kr mW (dC ?_));refine gU ⟨[],[],[],[],[],[(243,100)],[],[100],[]⟩ [] [] h (aOm _ _ _ _) fun y11 h=>(iA iC h fun y12 h=>?_);refine dO (.bsl 106 98 2 [105]) (tF (l:=([mO.mk y12 y10.desc]:List mO)) (f:=vN) (g:=vN) kr (fun _=>rfl) (dC ?_));refine sQ 107 [95] [10] vN h fun y13 h=>?_;exact lb' (aLm _ _ _ _ _ _ (_,_,_) _ h) (wr [(62,.old 62),(79,.old 79),(85,.old 85),(107,.old 107)] eS (bs_ (jN (c0:=[.osl 62 40 1 (eG.map (cSl 1 (cSl 3 aB))),.osl 79 85 1 (gX.map (cSl 1 iC)),.osl 85 96 1 (ky9.1.map iC),.osl 107 98 2 (y13.map vN),.nf,vB p3.distinct,vI p3.limit]) kr (bL (iY (t:=62) kr kr) (bL (iY (t:=79) kr kr) (bL (iY (t:=85) kr kr) (bL (iY (t:=107) kr kr) (bL (dY kr kr) (bL (dY kr kr) (bL (dY kr kr) jP))))))) aX)));exact cg' ⟨[],[],[],[],[],[(243,113)],[],[113],[]⟩ h (aOm _ _ _ _) fun y14 h=>(tw' 0 [.fzb 18] (cs' h (bI2 _) fun y15 h=>(rp' h)))) (by intro bJz cE9 cG9 aOn bFa bB9 p0 r h;refine ao' (cs' h (bB9 _) fun y1 h=>?_);refine cd' h ?_ ?_<;>intro h;exact rw' (s':=⟨[(2,.d (.sl 1 (([]:List (List aA)).map (cSl 3 aB)))),(3,vI y1.2)],[]⟩) (wr [] (ew eS) aX) (rp' h);refine cg' ⟨[],[],[],[],[],[(243,251)],[],[251],[]⟩ h (bFa _ _) fun y2 h=>?_;refine cd' h ?_ ?_<;>intro h;exact rw' (s':=⟨[(2,.d (.sl 1 (([]:List (List aA)).map (cSl 3 aB)))),(3,vI y2.2)],[]⟩) (wr [] (ew eS) aX) (rp' h);refine aO (.bsl 28 62 1 []) (bJ (l:=([]:List (List aA))) (f:=(cSl 3 aB)) (g:=(cSl 3 aB)) kr (fun _=>rfl) kr (oC ?_));exact lq' y2.1 (lb' (aOn _ _ _ _ _ h) (wr [(6,.old 6),(4,.old 4)] (es (eo 6 (eo 4 eS))) bS))) (by intro bJz cFs aOn bB1 y2 p0 x6 x31 r h;refine Lok.un ?_;refine cd' h ?_ ?_<;>intro h;refine iq' h fun y3 h=>(cg' ⟨[],[],[],[],[],[(243,255)],[],[255],[]⟩ h (bB1 _ _) fun y4 h=>?_);refine cd' h ?_ ?_<;>intro h;exact rw' (s':=⟨[(2,.d (.sl 1 (([]:List (List aA)).map (cSl 3 aB)))),(3,vI y4.2)],[]⟩) (wr [] (ew eS) aX) (rp' h);refine aO (.bsl 47 62 1 [46]) (bJ (l:=([y4.1]:List (List aA))) (f:=(cSl 3 aB)) (g:=(cSl 3 aB)) kr (fun _=>rfl) kr (oC ?_));exact aq' 6 (cSl 3 aB) h fun y5 h=>(lb' (aOn _ _ _ _ _ h) (wr [(6,.old 6),(4,.old 4)] (es (eo 6 (eo 4 eS))) bS));refine cd' h ?_ ?_<;>intro h;exact cg' ⟨[],[],[],[],[],[(243,53)],[],[53],[]⟩ h (bRq _) fun y6 h=>(jn' (bG9 _ _ _ h) (wr [(6,.old 6)] (es (eo 6 iP)) bS));exact jn' (bG9 _ _ _ h) (wr [(6,.old 6)] (es (eo 6 iP)) bS)) (by intro cF3 bBi p0 p1 r h;exact ao' (cg' ⟨[],[],[],[],[],[(243,248)],[],[248],[]⟩ h (bBi _ _) fun y1 h=>(rw' (s':=⟨[(3,.osl 243 51 3 (y1.1.map aB)),(4,vI y1.2)],[]⟩) (wr [(243,.old 3)] (eo 3 eS) aX) (rb' h)))) (by intro cBd aNj p0 p1 r h;refine ao' ?_;refine aO (.bsl 11 51 3 []) (bJ (l:=([]:List aA)) (f:=aB) (g:=aB) kr (fun _=>rfl) kr (oC ?_));exact jK iC p0 (lb' (aNj _ _ _ _ _ h) (wr [(6,.old 6)] (es (eo 6 eS)) aX))) (by intro aIu cBd aFj aNj p1 p0 x6 x14 r h;refine Lok.un ?_;refine cd' h ?_ ?_<;>intro h;refine iA iC h fun y1 h=>?_;refine aO (.callv (some 21) 19 [20]) (aGp (m:=aIu p1 y1.c0 y1.c1 y1.c2 y1.c3) (caps:=[.rp (pV y1.c0),.rp (qG y1.c1),.rp [.sl 1 (y1.c2.map (cSl 3 aB))],.rp (jC y1.c3)]) (args:=[eQ p1,.rp (pV y1.c0),.rp (qG y1.c1),.rp [.sl 1 (y1.c2.map (cSl 3 aB))],.rp (jC y1.c3)]) (v':=(fun y=>(.tup [bN y.1,vI y.2]))) h kr kr (aFj _ _ _ _ _) kr kr (fun _=>rfl) fun y2 h=>oC ?_);refine cd' h ?_ ?_<;>intro h;exact rw' (s':=⟨[(4,.osl 243 51 3 (([]:List aA).map aB)),(5,vI y2.2)],[]⟩) (wr [(243,.new 51 3)] (en eS) aX) (rb' h);refine aO (.bsl 29 51 3 [28]) (bJ (l:=([y2.1]:List aA)) (f:=aB) (g:=aB) kr (fun _=>rfl) kr (oC ?_));exact aq' 6 aB h fun y3 h=>(lb' (aNj _ _ _ _ _ h) (wr [(6,.old 6)] (es (eo 6 eS)) aX));exact rw' (s':=⟨[(4,.osl 243 51 3 (x6.map aB)),(5,vI 0)],[]⟩) (wr [(243,.old 4)] (eo 4 eS) aX) (rb' h)) (by intro bVb aPm p0 p1 r h;refine ao' ?_;refine aO (.bsl 17 163 2 []) (bWe (l:=([]:List aU)) (f:=bA) (g:=bA) kr (fun _=>rfl) kr rfl (oC ?_));exact lq' p1 (lb' (aPm _ _ _ _ _ h) (tw [.rn [(17,346)]] (wr [] eS bS)))) (by intro bKh aPp p0 r h;refine ao' ?_;refine aO (.bsl 14 51 3 []) (bJ (l:=([]:List aA)) (f:=aB) (g:=aB) kr (fun _=>rfl) kr (oC ?_));refine aO (.bsl 15 62 1 [14]) (bJ (l:=([([]:List aA)]:List (List aA))) (f:=(cSl 3 aB)) (g:=(cSl 3 aB)) kr (fun _=>rfl) kr (oC ?_));exact lq' p0.tables (lb' (aPp _ _ _ _ h) (wr [] (es (ew eS)) bS))) (by intro bXx bQ4 aM3 aLk p0 x4 x19 r h;refine Lok.un ?_;refine cd' h ?_ ?_<;>intro h;refine iq' h fun y1 h=>?_;refine aO (.bsl 24 62 1 []) (bJ (l:=([]:List (List aA))) (f:=(cSl 3 aB)) (g:=(cSl 3 aB)) kr (fun _=>rfl) kr (oC ?_));refine lq' x4 ?_;exact lb' (aLk _ _ _ _ _ _ _ h) (wr [(7,.old 7)] (es (es (es (eo 7 eS)))) bS);exact cs' h (aM3 _ _) fun y2 h=>(rp' h)) (by intro bYx aM2 p0 p1 r h;exact ao' (jK iC p1 (lb' (aM2 _ _ _ _ h) (wr [] eS aX)))) (by intro bLx aMb p1 x0 x15 r h;refine Lok.un ?_;refine cd' h ?_ ?_<;>intro h;refine iA iC h fun y1 h=>?_;refine aO (.bsl 19 62 1 []) (bJ (l:=([]:List (List aA))) (f:=(cSl 3 aB)) (g:=(cSl 3 aB)) kr (fun _=>rfl) kr (oC ?_));exact lq' x0 (lb' (aMb _ _ _ _ _ _ _ h) (wr [(8,.old 8)] (es (eo 8 eS)) aX));exact rp' h) (by intro aIu bYx cGt aFj aM2 aRf y1 p1 x15 x0 x8 x22 r h;refine Lok.un ?_;refine cd' h ?_ ?_<;>intro h;refine iq' h fun y2 h=>?_;refine aO (.callv (some 29) 27 [28]) (aGp (m:=aIu y2 y1.c0 y1.c1 y1.c2 y1.c3) (caps:=[.rp (pV y1.c0),.rp (qG y1.c1),.rp [.sl 1 (y1.c2.map (cSl 3 aB))],.rp (jC y1.c3)]) (args:=[eQ y2,.rp (pV y1.c0),.rp (qG y1.c1),.rp [.sl 1 (y1.c2.map (cSl 3 aB))],.rp (jC y1.c3)]) (v':=(fun y=>(.tup [bN y.1,vI y.2]))) h kr kr (aFj _ _ _ _ _) kr kr (fun _=>rfl) fun y3 h=>oC ?_);refine cd' h ?_ ?_<;>intro h;exact rw' (s':=⟨[(4,.d (.sl 1 (([]:List (List aA)).map (cSl 3 aB)))),(5,vI y3.2)],[]⟩) (wr [] (ew eS) aX) (rp' h);refine cs' h (bQs _) fun y4 h=>?_;refine cd' h ?_ ?_<;>intro h;refine aO (.bsl 39 62 1 [38]) (bJ (l:=([y2]:List (List aA))) (f:=(cSl 3 aB)) (g:=(cSl 3 aB)) kr (fun _=>rfl) kr (oC ?_));exact aq' 8 (cSl 3 aB) h fun y5 h=>(jn' (aRf _ _ _ _ _ _ _ h) (wr [(8,.old 8)] (es (eo 8 eS)) aX));exact jn' (aRf _ _ _ _ _ _ _ h) (wr [(8,.old 8)] (es (eo 8 eS)) aX);exact lb' (aM2 _ _ _ _ h) (wr [] (ew eS) aX)) (by intro bLx aMb y1 p1 x15 x0 x22 qH r h;exact Jok.un (lb' (aMb _ _ _ _ _ _ _ h) (wr [(8,.old 8)] (es (eo 8 eS)) aX))) (by intro bKh bXx bYr aPp aM3 aPg x19 y1 p0 x4 x7 x27 r h;refine Lok.un ?_;refine cd' h ?_ ?_<;>intro h;refine iq' h fun y3 h=>(lq' y1 ?_);exact lb' (aPg _ _ _ _ _ _ (_,_) _ h) (wr [(7,.old 7)] (es (es (es (eo 7 eS)))) bS);refine iA (cSl 1 iC) h fun y5 h=>(cs' h (aM3 _ _) fun y6 h=>?_);refine cd' h ?_ ?_<;>intro h;exact rw' (s':=⟨[(2,.d (.sl 1 (([]:List (List aA)).map (cSl 3 aB)))),(3,vI y6.2)],[]⟩) (wr [] (ew eS) aX) (rp' h);exact lb' (aPp _ _ _ _ h) (wr [] eS bS)) (by intro bQ4 bYr aLk aPg x19 y1 y3 p0 x4 x27 mG r h;refine Lok.un ?_;refine cd' h ?_ ?_<;>intro h;refine iq' h fun y7 h=>?_;refine aO (.bsl 40 62 1 [38,39]) (bJ (l:=([y3,y7]:List (List aA))) (f:=(cSl 3 aB)) (g:=(cSl 3 aB)) kr (fun _=>rfl) kr (oC ?_));refine cg' ⟨[],[],[],[],[],[(243,41)],[],[41],[]⟩ h (bM7 _) fun y8 h=>?_;refine aO (.bsl 42 62 1 [41]) (bJ (l:=([y8]:List (List aA))) (f:=(cSl 3 aB)) (g:=(cSl 3 aB)) kr (fun _=>rfl) kr (oC ?_));refine aq' 7 (cSl 3 aB) h fun y9 h=>?_;exact lb' (aPg _ _ _ _ _ _ (_,_) _ h) (wr [(7,.old 7)] (es (es (es (eo 7 eS)))) bS);exact lb' (aLk _ _ _ _ _ _ _ h) (wr [(7,.old 7)] (es (es (es (eo 7 eS)))) bS))
abbrev aMt:=kU.1
abbrev aPm:=kU.2.1
theorem aFj (p0:List aA) (p1:aQ) (p2:GDb) (p3:List (List aA)) (p4:aJ):FOk Tryz.prog 40 [eQ p0,.rp (pV p1),.rp (qG p2),.rp [.sl 1 (p3.map (cSl 3 aB))],.rp (jC p4)] (fun y=>(.tup [bN y.1,vI y.2])) (nM p0 p1 p2 p3 p4):=fun r h=>(kU).2.2.1 p0 p1 p2 p3 p4 r h
theorem aPj (p0:aQ) (p1:GDb) (p2:List (List aA)) (p3:aJ):FOk Tryz.prog 41 [cK p0,iG p1,.d (.sl 1 (p2.map (cSl 3 aB))),iJ p3] (fun y=>(.tup [bN y.1,vI y.2])) (vC p0 p1 p2 p3):=fun r h=>(kU).2.2.2.1 p0 p1 p2 p3 r h
abbrev aN8:=kU.2.2.2.2.1
abbrev aO5:=kU.2.2.2.2.2.1
theorem aYp (p0:aQ) (p1:GDb) (p2:List (List aA)) (p3:aP):FOk Tryz.prog 17 [cK p0,iG p1,.d (.sl 1 (p2.map (cSl 3 aB))),fI p3] (fun y=>(.tup [.d (.sl 1 (y.1.map (cSl 3 aB))),vI y.2])) (xP p0 p1 p2 p3):=fun r h=>(kU).2.2.2.2.2.2.1 p0 p1 p2 p3 r h
abbrev aPk:=kU.2.2.2.2.2.2.2.1
abbrev aP8:=kU.2.2.2.2.2.2.2.2.1
abbrev aLm:=kU.2.2.2.2.2.2.2.2.2.1
theorem bI2 (p0:eP):FOk Tryz.prog 44 [E8 p0] (fun y=>(.tup [.d (.sl 1 (y.1.map (cSl 3 aB))),vI y.2])) (Q5 p0):=fun r h=>(kU).2.2.2.2.2.2.2.2.2.2.1 p0 r h
abbrev aOn:=kU.2.2.2.2.2.2.2.2.2.2.2.1
theorem bB1 (p0:List aA) (p1:List bP):dD Tryz.prog 42 [eQ p0,.rp [.sl 1 (p1.map iC)]] [] Zp Zq (aDl p0 p1):=fun r h=>(kU).2.2.2.2.2.2.2.2.2.2.2.2.1 p0 p1 r h
theorem bBi (p0:List bP) (p1:List aA):dD Tryz.prog 43 [xN p0,eQ p1] [] Zp Zq (aMp p0 p1):=fun r h=>(kU).2.2.2.2.2.2.2.2.2.2.2.2.2.1 p0 p1 r h
abbrev aNj:=kU.2.2.2.2.2.2.2.2.2.2.2.2.2.2.1
theorem bFa (p0:eP) (p1:List (List aA)):dD Tryz.prog 78 [E8 p0,.d (.sl 1 (p1.map (cSl 3 aB)))] [] Zg Zh (aKh p0 p1):=fun r h=>(kU).2.2.2.2.2.2.2.2.2.2.2.2.2.2.2.1 p0 p1 r h
theorem bB9 (p0:eP):FOk Tryz.prog 77 [E8 p0] (fun y=>(.tup [.d (.sl 1 (y.1.map (cSl 3 aB))),vI y.2])) (aKp p0):=fun r h=>(kU).2.2.2.2.2.2.2.2.2.2.2.2.2.2.2.2.1 p0 r h
abbrev aPp:=kU.2.2.2.2.2.2.2.2.2.2.2.2.2.2.2.2.2.1
theorem aM3 (p0:List (List aA)) (p1:List bP):FOk Tryz.prog 126 [.d (.sl 1 (p0.map (cSl 3 aB))),xN p1] (fun y=>(.tup [.d (.sl 1 (y.1.map (cSl 3 aB))),vI y.2])) (aAy p0 p1):=fun r h=>(kU).2.2.2.2.2.2.2.2.2.2.2.2.2.2.2.2.2.2.1 p0 p1 r h
abbrev aM2:=kU.2.2.2.2.2.2.2.2.2.2.2.2.2.2.2.2.2.2.2.1
abbrev aMb:=kU.2.2.2.2.2.2.2.2.2.2.2.2.2.2.2.2.2.2.2.2.1
abbrev aRf:=kU.2.2.2.2.2.2.2.2.2.2.2.2.2.2.2.2.2.2.2.2.2.1
abbrev aLk:=kU.2.2.2.2.2.2.2.2.2.2.2.2.2.2.2.2.2.2.2.2.2.2.1
abbrev aPg:=kU.2.2.2.2.2.2.2.2.2.2.2.2.2.2.2.2.2.2.2.2.2.2.2
theorem bNr (p0:Int) (p1:Int):FOk Tryz.prog 31 [vI p0,vI p1] (fun y=>(vB y)) (aP9 p0 p1):=by
 refine aoP fun r h=>?_;rw [aP9] at h;exact bU h fun y1 h=>(rp' h)
abbrev bUc (p0):=E9.partial_correctness p0 (aWn p0) (by intro cFe aQ3 eY x27 r h;refine Lok.un ?_;refine cd' h ?_ ?_<;>intro h;refine iq' h fun y5 h=>?_;refine aO (.bsl 34 54 10 [33]) (bJ (l:=([y5.expr]:List aJ)) (f:=aV) (g:=jC) kr mW kr (oC ?_));exact aq' 3 aV h fun y6 h=>(lb' (aQ3 _ _ _ h) (wr [(3,.old 3)] (es (eo 3 eS)) bS));exact aq' 3 aV h fun y7 h=>(rw' (s':=⟨[(2,.osl 243 54 10 (y7.map aV))],[]⟩) (wr [(243,.old 2)] (eo 2 iP) aX) (rb' h)))
abbrev aQ3:=bUc
abbrev bR0 (p0):=aAe.partial_correctness p0 (aQ6 p0) (by intro cHr aV0 x3 x12 r h;refine Lok.un ?_;refine cd' h ?_ ?_<;>intro h;exact iq' h fun y1 h=>(aq' 3 aV h fun y2 h=>(lb' (aV0 _ _ _ h) (wr [(3,.old 3)] (es (eo 3 eS)) bS)));exact aq' 3 aV h fun y3 h=>(lq' p0.order (lb' (aQ3 _ _ _ _ h) (wr [(3,.old 3)] (es (eo 3 eS)) bS))))
abbrev aV0:=bR0
theorem bHw (p0:aP):dD Tryz.prog 66 [fI p0] [] Zc Zd (aFa p0):=by
 refine aoB fun r h=>?_;rw [aFa] at h;refine aO (.bsl 8 54 10 []) (bJ (l:=([]:List aJ)) (f:=aV) (g:=jC) kr mW kr (oC ?_));exact lq' p0.on_ (lb' (aV0 _ _ _ _ h) (wr [(3,.old 3)] (es (eo 3 eS)) bS))
abbrev aGl:=aCc.mutual_partial_correctness aW7 (fun p0 r=>bD Tryz.prog 32 [fI p0] [] (PQ (fun y=>(vI y)) r)) (fun p0 r=>bD Tryz.prog 65 [fH p0] [] (PQ (fun y=>(vI y)) r)) aUw (fun p0 r=>bD Tryz.prog 108 [iJ p0] [] (PQ (fun y=>(vI y)) r)) (by intro bZe cFw aPs aRt p0 x3 x12 r h;refine Lok.un ?_;refine cd' h ?_ ?_<;>intro h;exact iq' h fun y2 h=>(cs' h (aRt _) fun y3 h=>(lb' (aPs _ _ _ _ h) (wr [] eS aX)));exact rp' h) (by intro bOt aO9 p0 r h;exact ao' (cg' ⟨[],[],[],[],[],[(243,4)],[],[4],[]⟩ h (bHw _) fun y1 h=>(cs' h (aO9 _) fun y2 h=>(rp' h)))) (by intro bWw aP1 p0 r h;exact ao' (lq' p0 (lb' (aP1 _ _ _ _ h) (wr [] eS aX)))) (by intro bWw cEx aP1 bFy p0 x3 x8 r h;refine Lok.un ?_;refine cd' h ?_ ?_<;>intro h;exact iq' h fun y1 h=>(cs' h (bFy _) fun y2 h=>(lb' (aP1 _ _ _ _ h) (wr [] eS aX)));exact rp' h) (by intro bZe bOt aPs aO9 p0 r h;exact ao' (cs' h (aO9 _) fun y1 h=>(lq' p0.sub (lb' (aPs _ _ _ _ h) (wr [] eS aX)))))
abbrev aPs:=aGl.1
theorem aRt (p0:aP):FOk Tryz.prog 32 [fI p0] (fun y=>(vI y)) (wJ p0):=fun r h=>(aGl).2.1 p0 r h
theorem aO9 (p0:List aJ):FOk Tryz.prog 65 [fH p0] (fun y=>(vI y)) (aAk p0):=fun r h=>(aGl).2.2.1 p0 r h
abbrev aP1:=aGl.2.2.2.1
theorem bFy (p0:aJ):FOk Tryz.prog 108 [iJ p0] (fun y=>(vI y)) (N8 p0):=fun r h=>(aGl).2.2.2.2 p0 r h
abbrev aHq:=aAt.mutual_partial_correctness aXv (fun p0 r=>bD Tryz.prog 33 [fI p0] [] (PQ (fun y=>(vI y)) r)) (fun p0 r=>bD Tryz.prog 67 [fH p0] [] (PQ (fun y=>(vI y)) r)) aQd (fun p0 r=>bD Tryz.prog 109 [iJ p0] [] (PQ (fun y=>(vI y)) r)) (by intro cBx cF1 aKq aWz p0 x3 x13 r h;refine Lok.un ?_;refine cd' h ?_ ?_<;>intro h;exact iq' h fun y2 h=>(cs' h (aWz _) fun y3 h=>(lb' (aKq _ _ _ _ h) (wr [] eS aX)));exact rp' h) (by intro bV4 aN5 p0 r h;exact ao' (cg' ⟨[],[],[],[],[],[(243,4)],[],[4],[]⟩ h (bHw _) fun y1 h=>(cs' h (aN5 _) fun y2 h=>(rp' h)))) (by intro bPy aNm p0 r h;exact ao' (lq' p0 (lb' (aNm _ _ _ _ h) (wr [] eS aX)))) (by intro bPy cFf aNm bHv p0 x3 x8 r h;refine Lok.un ?_;refine cd' h ?_ ?_<;>intro h;exact iq' h fun y1 h=>(cs' h (bHv _) fun y2 h=>(lb' (aNm _ _ _ _ h) (wr [] eS aX)));exact rp' h) (by intro cBx bV4 aKq aN5 p0 r h;exact ao' (cs' h (aN5 _) fun y1 h=>(lq' p0.sub (lb' (aKq _ _ _ _ h) (wr [] eS aX)))))
abbrev aKq:=aHq.1
theorem aWz (p0:aP):FOk Tryz.prog 33 [fI p0] (fun y=>(vI y)) (vX p0):=fun r h=>(aHq).2.1 p0 r h
theorem aN5 (p0:List aJ):FOk Tryz.prog 67 [fH p0] (fun y=>(vI y)) (aFf p0):=fun r h=>(aHq).2.2.1 p0 r h
abbrev aNm:=aHq.2.2.2.1
theorem bHv (p0:aJ):FOk Tryz.prog 109 [iJ p0] (fun y=>(vI y)) (yP p0):=fun r h=>(aHq).2.2.2.2 p0 r h
theorem bZy (p0:List aJ):FOk Tryz.prog 111 [fH p0] (fun y=>(vB y)) (aIg p0):=by
 refine aoP fun r h=>?_;rw [aIg] at h;exact lq' p0 (rp' h)
abbrev bLu (p0):=Q9.partial_correctness p0 (aQc p0) (by intro cEh aT4 x8 r h;refine Lok.un ?_;refine cd' h ?_ ?_<;>intro h;refine iq' h fun y1 h=>?_;refine aO (.callv (some 16) 11 [15]) (aGp (m:=aIg y1) (caps:=[]) (args:=[fH y1]) (v':=(fun y=>(vB y))) h kr kr (bZy _) kr kr (fun _=>rfl) fun y2 h=>oC ?_);refine cd' h ?_ ?_<;>intro h;exact rp' h;exact lb' (aT4 _ _ h) (wr [] eS aX);exact rp' h)
abbrev aT4:=bLu
theorem cBz (p0:List (List aJ)):FOk Tryz.prog 153 [.d (.sl 1 (p0.map (cSl 10 aV))),.fn 111 []] (fun y=>(vI y)) (aMo p0):=by
 refine aoP fun r h=>?_;rw [aMo] at h;exact lq' p0 (lb' (aT4 _ _ _ h) (wr [] eS aX))
theorem bO2 (p0:List (List aJ)):FOk Tryz.prog 110 [.d (.sl 1 (p0.map (cSl 10 aV))),.fn 111 []] (fun y=>(vB y)) (aGg p0):=by
 refine aoP fun r h=>?_;rw [aGg] at h;exact cs' h (cBz _) fun y1 h=>(rp' h)
theorem bQc (p0:List UInt8):FOk Tryz.prog 113 [vS p0] (fun y=>(vB y)) (aHu p0):=by
 refine aoP fun r h=>?_;rw [aHu] at h;exact cs' h (aJq _) fun y1 h=>(rp' h)
abbrev bUi (p0):=O4.partial_correctness p0 (aRl p0) (by intro cGs aRw x8 r h;refine Lok.un ?_;refine cd' h ?_ ?_<;>intro h;refine iq' h fun y1 h=>?_;refine aO (.callv (some 16) 11 [15]) (aGp (m:=aHu y1) (caps:=[]) (args:=[vS y1]) (v':=(fun y=>(vB y))) h kr kr (bQc _) kr kr (fun _=>rfl) fun y2 h=>oC ?_);refine cd' h ?_ ?_<;>intro h;exact rp' h;exact lb' (aRw _ _ h) (wr [] eS aX);exact rp' h)
abbrev aRw:=bUi
theorem bOk (p0:List (List UInt8)):FOk Tryz.prog 154 [aNv p0,.fn 113 []] (fun y=>(vI y)) (aP2 p0):=by
 refine aoP fun r h=>?_;rw [aP2] at h;exact lq' p0 (lb' (aRw _ _ _ h) (wr [] eS aX))
theorem bNi (p0:List (List UInt8)):FOk Tryz.prog 112 [aNv p0,.fn 113 []] (fun y=>(vB y)) (aK2 p0):=by
 refine aoP fun r h=>?_;rw [aK2] at h;exact cs' h (bOk _) fun y1 h=>(rp' h)
theorem bZb (p0:aP):FOk Tryz.prog 69 [fI p0] (fun y=>(vB y)) (aIb p0):=by
 refine aoP fun r h=>?_;rw [aIb] at h;refine jK cI p0.tables (J7 cI p0.tables (bR h fun y1 h=>(iZ p0.on_ (J7 cI p0.tables (bR h fun y2 h=>(aXi h fun y3 h=>(iZ y3 (bR h fun y4 h=>(iZ p0.where_ (bR h fun y5 h=>(iZ p0.order (bR h fun y6 h=>?_))))))))))));refine cd' h ?_ ?_<;>intro h;exact rp' h;exact lq' p0.items (iZ p0.items (bU h fun y7 h=>(iZ p0.names (iZ p0.items (bU h fun y8 h=>(bU h fun y9 h=>(gc' h (bO2 _) fun y10 h=>(bU h fun y11 h=>(gc' h (bNi _) fun y12 h=>(bU h fun y13 h=>(rp' h)))))))))))
theorem aPn (p0:Int):FOk Tryz.prog 116 [vI p0] (fun y=>(vB y)) (aBx p0):=by
 refine aoP fun r h=>?_;rw [aBx] at h;exact bR h fun y1 h=>(rp' h)
theorem cA6 (p0:aJ):FOk Tryz.prog 117 [iJ p0] (fun y=>(vB y)) (aF7 p0):=by
 refine aoP fun r h=>?_;rw [aF7] at h;refine cs' h (bDr _) fun y1 h=>?_;refine aO (.g 17 true (.pick 24 20 (kB true) 23)) (gv true y1.2 ZK h (fun y hy hc=>jQ hy (p:=true) (q:=((true&&(y1.2==true))&&(y1.1.op==false))) (Eq.trans (b:=([true&&(y1.2==true)]:List Bool).all id) kr (dX hc rfl)) kr kr kr (fun _=>rfl) (fun hb=>rZ hc hb)) fun y2 h=>oC ?_);refine bU h fun y3 h=>?_;refine aO (.g 26 true (.pick 33 29 (kB true) 32)) (gv true y3 ZK h (fun y hy hc=>jQ hy (p:=true) (q:=((true&&(y3==true))&&(y1.1.not_==false))) (Eq.trans (b:=([true&&(y3==true)]:List Bool).all id) kr (dX hc rfl)) kr kr kr (fun _=>rfl) (fun hb=>rZ hc hb)) fun y4 h=>oC ?_);refine bU h fun y5 h=>?_;refine aO (.g 35 true (.pick 43 38 (kB true) 42)) (gv true y5 ZK h (fun y hy hc=>jQ hy (p:=true) (q:=((true&&(y5==true))&&(y1.1.value==false))) (Eq.trans (b:=([true&&(y5==true)]:List Bool).all id) kr (dX hc rfl)) kr kr kr (fun _=>rfl) (fun hb=>rZ hc hb)) fun y6 h=>oC ?_);refine bU h fun y7 h=>?_;refine aO (.g 48 false (.pick 56 52 55 (kB false))) (gv (true&&(y7==true)) y1.1.name ZK h (fun y hy hc=>jQ hy (p:=(((true&&(y7==true))&&(y1.1.name==false))&&((decide (p0.up=0))==true))) (q:=true) (Eq.trans (b:=([(true&&(y7==true))&&(y1.1.name==false)]:List Bool).all id) kr (dX hc rfl)) kr kr kr (fun hb=>qU hc hb) (fun _=>rfl)) fun y8 h=>oC ?_);refine aO (.g 45 true (.pick 57 48 (kB true) 56)) (gv true y7 ZK h (fun y hy hc=>jQ hy (p:=true) (q:=((true&&(y7==true))&&(y1.1.name==false))) (Eq.trans (b:=([true&&(y7==true)]:List Bool).all id) kr (dX hc rfl)) kr kr kr (fun _=>rfl) (fun hb=>rZ hc hb)) fun y9 h=>oC ?_);exact bU h fun y10 h=>(iZ p0.kids (bU h fun y11 h=>(iZ p0.kids (bU h fun y12 h=>(iZ p0.sub (bU h fun y13 h=>(rp' h)))))))
theorem aVx (p0:Int) (p1:Int) (p2:Int):FOk Tryz.prog 189 [vI p0,vI p1,vI p2] (fun y=>(vB y)) (aBf p0 p1 p2):=by
 refine aoP fun r h=>?_;rw [aBf] at h;refine bR h fun y1 h=>?_;refine aO (.g 14 true (.pick 21 18 (kB true) 20)) (gv true y1 ZK h (fun y hy hc=>jQ hy (p:=true) (q:=((true&&(y1==true))&&((decide (p2=p0))==false))) (Eq.trans (b:=([true&&(y1==true)]:List Bool).all id) kr (dX hc rfl)) kr kr kr (fun _=>rfl) (fun hb=>rZ hc hb)) fun y2 h=>oC ?_);exact bU h fun y3 h=>(rp' h)
theorem aJg (x8 x9 r) (h:U6 x8 x9=some r):bNg x8 x9 r:=by
 rw [U6] at h;refine Jok.un ?_;refine cd' h ?_ ?_<;>intro h;exact rp' h;exact rp' h
theorem bFp (p0:Int):FOk Tryz.prog 202 [vI p0] (fun y=>(vB y)) (aKg p0):=by
 refine aoP fun r h=>?_;rw [aKg] at h;exact bU h fun y1 h=>(rp' h)
theorem bD0 (p0:Int) (p1:Int):FOk Tryz.prog 190 [vI p0,vI p1] (fun y=>(.tup [vI y.1,vB y.2])) (aDn p0 p1):=by
 refine aoP fun r h=>?_;rw [aDn] at h;refine cs' h (bFp _) fun y1 h=>(gc' h (bFp _) fun y2 h=>(bR h fun y3 h=>?_));refine cd' h ?_ ?_<;>intro h;exact rp' h;refine cd' h ?_ ?_<;>intro h;exact rp' h;refine bR h fun y4 h=>?_;refine cd' h ?_ ?_<;>intro h;exact rp' h;exact rp' h
theorem bSp (p0:Int) (p1:Int) (p2:Int):FOk Tryz.prog 158 [vI p0,vI p1,vI p2] (fun y=>(.tup [vI y.1,vB y.2])) (aJb p0 p1 p2):=by
 refine aoP fun r h=>?_;rw [aJb] at h;refine bR h fun y1 h=>?_;refine cd' h ?_ ?_<;>intro h;exact jn' (aJg _ _ _ h) (wr [] eS aX);refine cd' h ?_ ?_<;>intro h;exact cs' h (aPn _) fun y2 h=>(gc' h (aPn _) fun y3 h=>(bU h fun y4 h=>(jn' (aJg _ _ _ h) (wr [] eS aX))));refine cd' h ?_ ?_<;>intro h;exact cs' h (bD0 _ _) fun y5 h=>(jn' (aJg _ _ _ h) (wr [] eS aX));refine cd' h ?_ ?_<;>intro h;exact cs' h (aVx _ _ _) fun y6 h=>(jn' (aJg _ _ _ h) (wr [] eS aX));exact cs' h (aVx _ _ _) fun y7 h=>(jn' (aJg _ _ _ h) (wr [] eS aX))
theorem cBp (p0:List Int):dD Tryz.prog 160 [fQ p0] [] Z3 Za (aI7 p0):=by
 refine aoB fun r h=>?_;rw [aI7] at h;refine aO (.eqn 4 false 3) (bB2 (sz:=1) (l:=p0) (f:=cI) h kr kr (fun hl h=>oC ?_) fun hl h=>?_);refine aOa ?_;refine aO (.bsl 5 3 1 []) (bJ (l:=([]:List Int)) (f:=cI) (g:=cI) kr (fun _=>rfl) kr (oC ?_));exact aq' 5 cI h fun y1 h=>(rw' (s':=⟨[(2,.osl 243 3 1 (y1.map cI))],[]⟩) (wr [(243,.old 2)] (eo 2 iP) aX) (rb' h))
 subst hl
 refine ⟨oC ?_,oC ?_⟩
 replace h:((appG 8 ([]:List Int) ([]:List Int))>>=fun (y2:List Int)=>some y2:Option (List Int))=some r:=h
 refine aOa ?_;refine aO (.bsl 5 3 1 []) (bJ (l:=([]:List Int)) (f:=cI) (g:=cI) kr (fun _=>rfl) kr (oC ?_));exact aq' 5 cI h fun y2 h=>(rw' (s':=⟨[(2,.osl 243 3 1 (y2.map cI))],[]⟩) (wr [(243,.old 2)] (eo 2 iP) aX) (rb' h));exact bFn (rw' (s':=⟨[(2,.osl 243 3 1 (([]:List Int).map cI))],[]⟩) (wr [(243,.new 3 1)] (en iP) aX) (rb' h))
abbrev bOn (p0):=L9.partial_correctness p0 (aTh p0) (by intro cHq aQh x4 x11 r h;refine Lok.un ?_;refine cd' h ?_ ?_<;>intro h;refine iA cI h fun y1 h=>(cs' h (bD0 _ _) fun y2 h=>?_);refine cd' h ?_ ?_<;>intro h;exact rp' h;exact lb' (aQh _ _ _ h) (wr [] eS aX);exact rp' h)
abbrev aQh:=bOn
theorem bK5 (p0:List Int):FOk Tryz.prog 159 [fQ p0] (fun y=>(.tup [vI y.1,vB y.2])) (aHz p0):=by
 refine aoP fun r h=>?_;rw [aHz] at h;exact jK cI p0 (lb' (aQh _ _ _ _ h) (wr [] eS aX))
theorem bCu (p1 p2 x40 r) (h:N7 p1 p2 x40=some r):cD0 p1 p2 x40 r:=by
 rw [N7] at h;refine Jok.un ?_;refine cd' h ?_ ?_<;>intro h;exact rp' h;refine cg' ⟨[],[],[],[],[],[(243,45)],[],[45],[]⟩ h (cBp _) fun y6 h=>(aq' 45 cI h fun y7 h=>(cs' h (bK5 _) fun y8 h=>?_));refine cd' h ?_ ?_<;>intro h;exact rp' h;exact rp' h
theorem bUl (p0:Int) (p1:Int):FOk Tryz.prog 157 [vI p0,vI p1] (fun y=>(.tup [vI y.1,vB y.2])) (aHn p0 p1):=by
 refine aoP fun r h=>?_;rw [aHn] at h;refine gc' h (aPn _) fun y1 h=>(bU h fun y2 h=>?_);refine cd' h ?_ ?_<;>intro h;exact rp' h;refine gc' h (aVx _ _ _) fun y3 h=>(bU h fun y4 h=>?_);refine cd' h ?_ ?_<;>intro h;exact rp' h;exact rp' h
theorem cB5 (p0:aJ) (p1:List Int) (p2:List Int):FOk Tryz.prog 118 [iJ p0,fQ p1,fQ p2] (fun y=>(.tup [vI y.1,vB y.2])) (vW p0 p1 p2):=by
 refine aoP fun r h=>?_;rw [vW] at h;refine cd' h ?_ ?_<;>intro h;exact rp' h;refine cd' h ?_ ?_<;>intro h;exact iA cI h fun y1 h=>(cs' h (bUl _ _) fun y2 h=>(rp' h));refine cd' h ?_ ?_<;>intro h;exact iA cI h fun y3 h=>(iA cI h fun y4 h=>(cs' h (bSp _ _ _) fun y5 h=>(rp' h)));refine cd' h ?_ ?_<;>intro h;exact jn' (bCu _ _ _ _ h) (wr [] eS aX);exact jn' (bCu _ _ _ _ h) (wr [] eS aX)
abbrev ZN (y:List (List Int)):V:=(.osl 243 30 1 (y.map (cSl 1 cI)))
theorem bG4 (p0:List Int) (p1:List (List Int)):dD Tryz.prog 71 [fQ p0,.d (.sl 1 (p1.map (cSl 1 cI)))] [] ZN (fun (y:List (List Int))=>[]) (aDc p0 p1):=by
 refine aoB fun r h=>?_;rw [aDc] at h;refine aO (.bsl 6 30 1 [5]) (bJ (l:=([p0]:List (List Int))) (f:=(cSl 1 cI)) (g:=(cSl 1 cI)) kr (fun _=>rfl) kr (oC ?_));exact aq' 6 (cSl 1 cI) h fun y1 h=>(rw' (s':=⟨[(4,.osl 243 30 1 (y1.map (cSl 1 cI)))],[]⟩) (wr [(243,.old 4)] (eo 4 iP) aX) (rb' h))
end Go.Proofs.YthcemdafchcehacGreat
