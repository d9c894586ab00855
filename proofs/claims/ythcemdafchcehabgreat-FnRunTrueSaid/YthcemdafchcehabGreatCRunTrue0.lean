/- That the code computes these functions (printed by a program). -/
import Derived.Test.YthcemdafchcehabGreatAbW
import Derived.Test.YthcemdafchcehabGreatAbQ
import Derived.KernelRfl
import Derived.Test.YthcemdafchcehabGreatAbG2
import Derived.Test.YthcemdafchcehabGreatAbC3
import Derived.Test.YthcemdafchcehabGreatAbX6
import Derived.Test.YthcemdafchcehabGreatAbX5
import Derived.Test.YthcemdafchcehabGreatAbX3
import Derived.Test.YthcemdafchcehabGreatAbX2
import Derived.Test.YthcemdafchcehabGreatFRunTrue
import Derived.Test.YthcemdafchcehabGreatProg
namespace Go.Proofs.YthcemdafchcehabGreat
open Go Go.RowKit Go.Ab
open Go.IntKind renaming wrap→QA
open _root_.Int renaming fdiv→QB
open _root_.List renaming map_nil→QC,map_cons→QD,mem_cons_of_mem→QE,cons_append→QF,nil_append→QG,length_map→QH
attribute [local irreducible] avc cO aop dgo jG vE tV wkK V8 stz bAn bF eff bH.st Cf.ok Cf.way Cf.put Cf.putS Cf.putD Cf.A Cf.W Cf.to Cf.reg Cf.withS GQ aA8 uW zU sG Lok Jok Cf.kr Cf.ll Cf.dw Cf.stt Cf.z Cf.zW
def cI (n:Int):List D:=[.i .i64 n]
def cU8 (n:Int):List D:=[.i .u8 n]
def cFn (n:Int):List D:=[.i .u64 n]
def cGm (n:Int):List D:=[.i .i32 n]
def cEq (n:Int):List D:=[.i .u32 n]
def cB (b:Bool):List D:=[.b b]
def cStr (s:List UInt8):List D:=[.s (bs s)]
def cSl {α:Type} (sz:Nat) (f:α→List D) (l:List α):List D:=[.sl sz (l.map f)]
def kR (x:gD):List D:=[.s (bs x.name),.i .i64 x.type]
def cCs (x:gD):V:=.agg (kR x)
def bKr (x:gD):List V:=(kR x).map V.d
def lU (x:eD):List D:=[.s (bs x.name),.sl 2 (x.cols.map kR)]
def aE6 (x:eD):V:=.agg (lU x)
def aNi (x:eD):List V:=(lU x).map V.d
def qY (x:aQ):List D:=[.sl 2 (x.tables.map lU)]
def cK (x:aQ):V:=.agg (qY x)
def dN (x:aQ):List V:=(qY x).map V.d
def aB (x:aA):List D:=[.i .i64 x.kind,.i .i64 x.num,.s (bs x.text)]
def bN (x:aA):V:=.agg (aB x)
def vL (x:aA):List V:=(aB x).map V.d
def jX (x:fJ):List D:=[.sl 1 (x.rows.map (cSl 3 aB))]
def cFb (x:fJ):V:=.agg (jX x)
def cH1 (x:fJ):List V:=(jX x).map V.d
def qF (x:GDb):List D:=[.sl 1 (x.tables.map jX)]
def iG (x:GDb):V:=.agg (qF x)
def mJ (x:GDb):List V:=(qF x).map V.d
mutual
def aV:aJ→List D
  | ⟨a0,a1,a2,a3,a4,a5,a6,a7⟩=>[.i .i64 a0]++[.i .i64 a1]++[.b a2]++aB a3++[.i .i64 a4]++[.i .i64 a5]++[.sl 10 (I6 a6)]++[.sl 8 (aIq a7)]
def jA:dD→List D
  | ⟨a0,a1⟩=>aV a0++[.b a1]
def eQ:aP→List D
  | ⟨a0,a1,a2,a3,a4,a5,a6,a7⟩=>[.sl 1 (a0.map cI)]++[.sl 1 (aH2 a1)]++[.sl 10 (I6 a2)]++[.sl 11 (aI7 a3)]++[.sl 10 (I6 a4)]++[.sl 1 (a5.map cStr)]++[.b a6]++[.i .i64 a7]
def I6:List aJ→List (List D)
  | []=>[]
  | x::l=>aV x::I6 l
def aI7:List dD→List (List D)
  | []=>[]
  | x::l=>jA x::aI7 l
def aIq:List aP→List (List D)
  | []=>[]
  | x::l=>eQ x::aIq l
def aH2:List (List aJ)→List (List D)
  | []=>[]
  | x::l=>[.sl 10 (I6 x)]::aH2 l
end
theorem aJn:∀ l:List aJ,I6 l=l.map aV
  | []=>by simp only [I6,QC]
  | x::l=>by simp only [I6,QD,aJn l]
theorem aMq:∀ l:List dD,aI7 l=l.map jA
  | []=>by simp only [aI7,QC]
  | x::l=>by simp only [aI7,QD,aMq l]
theorem aOg:∀ l:List aP,aIq l=l.map eQ
  | []=>by simp only [aIq,QC]
  | x::l=>by simp only [aIq,QD,aOg l]
theorem aM4:∀ l:List (List aJ),aH2 l=l.map (cSl 10 aV)
  | []=>by simp only [aH2,QC]
  | x::l=>by simp only [aH2,QD,aM4 l,cSl,aJn]
def iM (x:aJ):List D:=[.i .i64 x.kind,.i .i64 x.op,.b x.not_,.i .i64 x.value.kind,.i .i64 x.value.num,.s (bs x.value.text),.i .i64 x.up,.i .i64 x.at_,.sl 10 (x.kids.map aV),.sl 8 (x.sub.map eQ)]
def aD2 (x:dD):List D:=[.i .i64 x.expr.kind,.i .i64 x.expr.op,.b x.expr.not_,.i .i64 x.expr.value.kind,.i .i64 x.expr.value.num,.s (bs x.expr.value.text),.i .i64 x.expr.up,.i .i64 x.expr.at_,.sl 10 (x.expr.kids.map aV),.sl 8 (x.expr.sub.map eQ),.b x.desc]
def zI (x:aP):List D:=[.sl 1 (x.tables.map cI),.sl 1 (x.on_.map (cSl 10 aV)),.sl 10 (x.where_.map aV),.sl 11 (x.order.map jA),.sl 10 (x.items.map aV),.sl 1 (x.names.map cStr),.b x.distinct,.i .i64 x.limit]
theorem lY (x:aJ):aV x=iM x:=by
  obtain ⟨a0,a1,a2,a3,a4,a5,a6,a7⟩:=x
  simp only [aV,iM,aJn,aMq,aOg,aM4,QF,QG,aB]
theorem aYf (x:dD):jA x=aD2 x:=by
  obtain ⟨a0,a1⟩:=x
  simp only [jA,aD2,aJn,aMq,aOg,aM4,lY,iM,QF,QG]
theorem aGa (x:aP):eQ x=zI x:=by
  obtain ⟨a0,a1,a2,a3,a4,a5,a6,a7⟩:=x
  simp only [eQ,zI,aJn,aMq,aOg,aM4,QF,QG]
def iJ (x:aJ):V:=.agg (iM x)
def uO (x:aJ):List V:=(iM x).map V.d
def cGc (x:dD):V:=.agg (aD2 x)
def cHh (x:dD):List V:=(aD2 x).map V.d
def fO (x:aP):V:=.agg (zI x)
def lW (x:aP):List V:=(zI x).map V.d
mutual
def qC:eO→List D
  | ⟨a0,a1,a2,a3,a4,a5,a6,a7⟩=>[.i .i64 a0]++[.i .i64 a1]++[.b a2]++aB a3++[.s (bs a4)]++[.s (bs a5)]++[.sl 10 (aAe a6)]++[.sl 6 (aGs a7)]
def aD1:pE→List D
  | ⟨a0,a1,a2,a3⟩=>[.b a0]++[.s (bs a1)]++qC a2++[.s (bs a3)]
def wR:jJ→List D
  | ⟨a0,a1,a2,a3,a4,a5⟩=>[.b a0]++[.sl 13 (aJ9 a1)]++[.sl 3 (aJ6 a2)]++[.sl 10 (aAe a3)]++[.sl 11 (aK3 a4)]++[.i .i64 a5]
def aBi:oU→List D
  | ⟨a0,a1⟩=>qC a0++[.b a1]
def aCn:oZ→List D
  | ⟨a0,a1,a2⟩=>[.s (bs a0)]++[.s (bs a1)]++[.sl 10 (aAe a2)]
def aAe:List eO→List (List D)
  | []=>[]
  | x::l=>qC x::aAe l
def aJ9:List pE→List (List D)
  | []=>[]
  | x::l=>aD1 x::aJ9 l
def aGs:List jJ→List (List D)
  | []=>[]
  | x::l=>wR x::aGs l
def aK3:List oU→List (List D)
  | []=>[]
  | x::l=>aBi x::aK3 l
def aJ6:List oZ→List (List D)
  | []=>[]
  | x::l=>aCn x::aJ6 l
end
theorem aFs:∀ l:List eO,aAe l=l.map qC
  | []=>by simp only [aAe,QC]
  | x::l=>by simp only [aAe,QD,aFs l]
theorem aEk:∀ l:List pE,aJ9 l=l.map aD1
  | []=>by simp only [aJ9,QC]
  | x::l=>by simp only [aJ9,QD,aEk l]
theorem aEv:∀ l:List jJ,aGs l=l.map wR
  | []=>by simp only [aGs,QC]
  | x::l=>by simp only [aGs,QD,aEv l]
theorem aEf:∀ l:List oU,aK3 l=l.map aBi
  | []=>by simp only [aK3,QC]
  | x::l=>by simp only [aK3,QD,aEf l]
theorem aEo:∀ l:List oZ,aJ6 l=l.map aCn
  | []=>by simp only [aJ6,QC]
  | x::l=>by simp only [aJ6,QD,aEo l]
def M4 (x:eO):List D:=[.i .i64 x.kind,.i .i64 x.op,.b x.not_,.i .i64 x.value.kind,.i .i64 x.value.num,.s (bs x.value.text),.s (bs x.qual),.s (bs x.name),.sl 10 (x.kids.map qC),.sl 6 (x.sub.map wR)]
def aIj (x:pE):List D:=[.b x.star,.s (bs x.qual),.i .i64 x.expr.kind,.i .i64 x.expr.op,.b x.expr.not_,.i .i64 x.expr.value.kind,.i .i64 x.expr.value.num,.s (bs x.expr.value.text),.s (bs x.expr.qual),.s (bs x.expr.name),.sl 10 (x.expr.kids.map qC),.sl 6 (x.expr.sub.map wR),.s (bs x.as_)]
def aD4 (x:jJ):List D:=[.b x.distinct,.sl 13 (x.items.map aD1),.sl 3 (x.from_.map aCn),.sl 10 (x.where_.map qC),.sl 11 (x.order.map aBi),.i .i64 x.limit]
def aJ3 (x:oU):List D:=[.i .i64 x.expr.kind,.i .i64 x.expr.op,.b x.expr.not_,.i .i64 x.expr.value.kind,.i .i64 x.expr.value.num,.s (bs x.expr.value.text),.s (bs x.expr.qual),.s (bs x.expr.name),.sl 10 (x.expr.kids.map qC),.sl 6 (x.expr.sub.map wR),.b x.desc]
def aIx (x:oZ):List D:=[.s (bs x.table),.s (bs x.as_),.sl 10 (x.on_.map qC)]
theorem aEi (x:eO):qC x=M4 x:=by
  obtain ⟨a0,a1,a2,a3,a4,a5,a6,a7⟩:=x
  simp only [qC,M4,aFs,aEk,aEv,aEf,aEo,QF,QG,aB]
theorem bSi (x:pE):aD1 x=aIj x:=by
  obtain ⟨a0,a1,a2,a3⟩:=x
  simp only [aD1,aIj,aFs,aEk,aEv,aEf,aEo,aEi,M4,QF,QG]
theorem bGk (x:jJ):wR x=aD4 x:=by
  obtain ⟨a0,a1,a2,a3,a4,a5⟩:=x
  simp only [wR,aD4,aFs,aEk,aEv,aEf,aEo,QF,QG]
theorem bZ8 (x:oU):aBi x=aJ3 x:=by
  obtain ⟨a0,a1⟩:=x
  simp only [aBi,aJ3,aFs,aEk,aEv,aEf,aEo,aEi,M4,QF,QG]
theorem bP8 (x:oZ):aCn x=aIx x:=by
  obtain ⟨a0,a1,a2⟩:=x
  simp only [aCn,aIx,aFs,aEk,aEv,aEf,aEo,QF,QG]
def bD7 (x:eO):V:=.agg (M4 x)
def bS4 (x:eO):List V:=(M4 x).map V.d
def cHd (x:pE):V:=.agg (aIj x)
def cE7 (x:pE):List V:=(aIj x).map V.d
def cHo (x:jJ):V:=.agg (aD4 x)
def cFm (x:jJ):List V:=(aD4 x).map V.d
def cF4 (x:oU):V:=.agg (aJ3 x)
def cGv (x:oU):List V:=(aJ3 x).map V.d
def cFc (x:oZ):V:=.agg (aIx x)
def cEy (x:oZ):List V:=(aIx x).map V.d
def aRm (x:kM):List D:=[.b x.op,.b x.not_,.b x.value,.b x.name,.i .i64 x.least,.i .i64 x.most,.i .i64 x.subs]
def aTf (x:kM):V:=.agg (aRm x)
def cEr (x:kM):List V:=(aRm x).map V.d
def aNd (x:bU):D:=.fn 43 [qY x.c0,qF x.c1,(cSl 1 (cSl 3 aB)) x.c2,iM x.c3]
def iE (x:bU):List D:=[aNd x]
def uV (x:mU):List D:=[aNd x.eval,.b x.desc]
def cGa (x:mU):V:=.agg (uV x)
def cE9 (x:mU):List V:=(uV x).map V.d
def bE6 (x:O8):D:=.fn 45 [(cSl 1 iE) x.c0]
def cFq (x:O8):List D:=[bE6 x]
def uG (x:eT):List D:=[.sl 1 (x.tables.map (cSl 1 (cSl 3 aB))),.sl 1 (x.on_.map (cSl 1 iE)),.sl 1 (x.where_.map iE),.sl 2 (x.order.map uV),bE6 x.items,.b x.distinct,.i .i64 x.limit]
def zM (x:eT):V:=.agg (uG x)
def aCo (x:eT):List V:=(uG x).map V.d
def aSm (x:nS):D:=.fn 42 [qY x.c0,qF x.c1,(cSl 1 (cSl 3 aB)) x.c2]
def cGs (x:nS):List D:=[aSm x]
def aTa (x:oM):List D:=[.i .i64 x.kind,.i .i64 x.op,.b x.not_,.i .i64 x.value.kind,.i .i64 x.value.num,.s (bs x.value.text),.sl 3 (x.kids.map aB),.sl 1 (x.rows.map (cSl 3 aB))]
def bBm (x:oM):V:=.agg (aTa x)
def bOz (x:oM):List V:=(aTa x).map V.d
def bA (x:aU):List D:=[.sl 3 (x.row.map aB),.sl 3 (x.keys.map aB)]
def jQ (x:aU):V:=.agg (bA x)
def aNy (x:aU):List V:=(bA x).map V.d
def lM (x:eX):D:=.fn 133 [uG x.c0]
def cEt (x:eX):List D:=[lM x]
def aZp (x:aL):List D:=[.sl 1 (x.b.map cU8),.i .i64 x.i,.i .i64 x.h]
def cGw (x:aL):V:=.agg (aZp x)
def aZ (x:aL):List V:=(aZp x).map V.d
instance:Enc (List aA):=⟨cSl 3 aB,cSl 3 aB,(fun _=>rfl)⟩
instance:Enc (List aJ):=⟨cSl 10 aV,cSl 10 aV,(fun _=>rfl)⟩
instance:Enc dD:=⟨jA,aD2,aYf⟩
instance:Enc aJ:=⟨aV,iM,lY⟩
instance:Enc aP:=⟨eQ,zI,aGa⟩
instance:Enc eD:=⟨lU,lU,(fun _=>rfl)⟩
instance:Enc gD:=⟨kR,kR,(fun _=>rfl)⟩
instance:Enc (List UInt8):=⟨cStr,cStr,(fun _=>rfl)⟩
instance:Enc fJ:=⟨jX,jX,(fun _=>rfl)⟩
instance:Enc (List (List aA)):=⟨cSl 1 (cSl 3 aB),cSl 1 (cSl 3 aB),(fun _=>rfl)⟩
instance:Enc aA:=⟨aB,aB,(fun _=>rfl)⟩
instance:Enc mU:=⟨uV,uV,(fun _=>rfl)⟩
instance:Enc eO:=⟨qC,M4,aEi⟩
instance:Enc jJ:=⟨wR,aD4,bGk⟩




theorem kr {p:Prop} (h:p:=by kernel_rfl):p:=h
def vQ (l:List dD):V:=.d (.sl 11 (l.map jA))
def fH (l:List aJ):V:=.d (.sl 10 (l.map aV))
def aNx (l:List aP):V:=.d (.sl 8 (l.map eQ))
def aY6 (l:List eD):V:=.d (.sl 2 (l.map lU))
def aNb (l:List gD):V:=.d (.sl 2 (l.map kR))
def aPk (l:List (List UInt8)):V:=.d (.sl 1 (l.map cStr))
def fU (l:List Int):V:=.d (.sl 1 (l.map cI))
def eP (l:List aA):V:=.d (.sl 3 (l.map aB))
def xZ (l:List bU):V:=.d (.sl 1 (l.map iE))
def aUl (l:List mU):V:=.d (.sl 2 (l.map uV))
def bU9 (l:List fJ):V:=.d (.sl 1 (l.map jX))
def aAi (l:List Int):V:=.d (.sl 1 (l.map cU8))
def mK:V:=(.d (.s (bs [])))
def bJ:V:=(.d (.i .i64 0))
def lX:V:=(.d (.b false))

def bQ2 (p0:aP) (x3:List aJ) (x12:Int):St:=⟨[(1,.ptr 1 0),(3,.osl 3 47 10 (x3.map aV)),(10,.d (.sl 1 (p0.on_.map (cSl 10 aV)))),(11,vI (p0.on_.length:Int)),(12,vI x12)],[(1,lW p0)]⟩
abbrev Z1 (y:List aJ):V:=(.osl 243 47 10 (y.map aV))
abbrev Z2 (y:List aJ):List (Nat×List V):=[]
abbrev aWp:=fun p0 x3 x12 (r:List aJ)=>Lok Tryz.prog 78 0 (BQ Z1 Z2 r) (bQ2 p0 x3 x12)
def bYz (p0:aP) (eZ:List aJ) (x27:Int):St:=⟨[(1,.ptr 1 0),(3,.osl 3 47 10 (eZ.map aV)),(25,vQ p0.order),(26,vI (p0.order.length:Int)),(27,vI x27)],[(1,lW p0)]⟩
abbrev aQ7:=fun p0 eZ x27 (r:List aJ)=>Lok Tryz.prog 78 1 (BQ Z1 Z2 r) (bYz p0 eZ x27)
def bQe (p0:List aJ) (x3:Int) (x8:Int):St:=⟨[(3,vI x3),(6,fH p0),(7,vI (p0.length:Int)),(8,vI x8)],[]⟩
abbrev aYx:=fun p0 x3 x8 r=>Lok Tryz.prog 79 0 (PQ (fun y=>(vI y)) r) (bQe p0 x3 x8)
def bNo (p0:aJ) (x3:Int) (x13:Int):St:=⟨[(3,vI x3),(11,aNx p0.sub),(12,vI (p0.sub.length:Int)),(13,vI x13)],[]⟩
abbrev aSz:=fun p0 x3 x13 r=>Lok Tryz.prog 115 0 (PQ (fun y=>(vI y)) r) (bNo p0 x3 x13)

def cAf (p0:List aJ) (x3:Int) (x8:Int):St:=⟨[(3,vI x3),(6,fH p0),(7,vI (p0.length:Int)),(8,vI x8)],[]⟩
abbrev aUd:=fun p0 x3 x8 r=>Lok Tryz.prog 77 0 (PQ (fun y=>(vI y)) r) (cAf p0 x3 x8)
def bXf (p0:aJ) (x3:Int) (x12:Int):St:=⟨[(3,vI x3),(10,aNx p0.sub),(11,vI (p0.sub.length:Int)),(12,vI x12)],[]⟩
abbrev aQp:=fun p0 x3 x12 r=>Lok Tryz.prog 114 0 (PQ (fun y=>(vI y)) r) (bXf p0 x3 x12)

def bO7 (p0:aQ) (x8:Int):St:=⟨[(1,.ptr 1 0),(6,aY6 p0.tables),(7,vI (p0.tables.length:Int)),(8,vI x8)],[(1,dN p0)]⟩
abbrev aQk:=fun p0 x8 r=>Lok Tryz.prog 33 0 (PQ (fun y=>(vB y)) r) (bO7 p0 x8)

def bX0 (p0:List eD) (c0_0:List UInt8) (x8:Int):St:=⟨[(0,aY6 p0),(1,.fn 113 [.ptr 241 0]),(7,vI (p0.length:Int)),(8,vI x8)],[(241,[vS c0_0])]⟩
abbrev Z3 (y:Int):V:=(vI y)
abbrev aW5:=fun p0 c0_0 x8 r=>Lok Tryz.prog 112 0 (BQ Z3 (fun (y:Int)=>[(241,[vS c0_0])]) r) (bX0 p0 c0_0 x8)

def bZz (p0:eD) (x8:Int):St:=⟨[(1,.ptr 1 0),(6,aNb p0.cols),(7,vI (p0.cols.length:Int)),(8,vI x8)],[(1,aNi p0)]⟩
abbrev aVu:=fun p0 x8 r=>Lok Tryz.prog 75 0 (PQ (fun y=>(vB y)) r) (bZz p0 x8)

def cA3 (p0:List gD) (c0_0:List UInt8) (x8:Int):St:=⟨[(0,aNb p0),(1,.fn 154 [.ptr 241 0]),(7,vI (p0.length:Int)),(8,vI x8)],[(241,[vS c0_0])]⟩
abbrev aZs:=fun p0 c0_0 x8 r=>Lok Tryz.prog 153 0 (BQ Z3 (fun (y:Int)=>[(241,[vS c0_0])]) r) (cA3 p0 c0_0 x8)


def bK7 (p1:List (List Int)) (y1:(List Int)×Bool) (p2:aP) (p0:aQ) (x41:Int):St:=⟨[(1,.d (.sl 1 (p1.map (cSl 1 cI)))),(3,.ptr 3 0),(5,.ptr 5 0),(8,.osl 8 3 1 (y1.1.map cI)),(39,.d (.sl 1 (p2.on_.map (cSl 10 aV)))),(40,vI (p2.on_.length:Int)),(41,vI x41)],[(3,dN p0),(5,lW p2)]⟩
abbrev Za (y:(List Int)×Bool):V:=(.tup [.osl 243 3 1 (y.1.map cI),vB y.2])
abbrev Zc (y:(List Int)×Bool):List (Nat×List V):=[]
abbrev aUe:=fun p1 y1 p2 p0 x41 (r:(List Int)×Bool)=>Lok Tryz.prog 37 0 (BQ Za Zc r) (bK7 p1 y1 p2 p0 x41)
def bP4 (y9:List (List Int)) (p2:aP) (p0:aQ) (x76:Int):St:=⟨[(3,.ptr 3 0),(5,.ptr 5 0),(14,.osl 14 30 1 (y9.map (cSl 1 cI))),(74,vQ p2.order),(75,vI (p2.order.length:Int)),(76,vI x76)],[(3,dN p0),(5,lW p2)]⟩
abbrev aQx:=fun y9 p2 p0 x76 (r:(List Int)×Bool)=>Lok Tryz.prog 37 1 (BQ Za Zc r) (bP4 y9 p2 p0 x76)
def cE4 (y9:List (List Int)) (p2:aP) (p0:aQ) (x19:List Int) (x95:Int):St:=⟨[(3,.ptr 3 0),(14,.osl 14 30 1 (y9.map (cSl 1 cI))),(19,.osl 19 3 1 (x19.map cI)),(93,fH p2.items),(94,vI (p2.items.length:Int)),(95,vI x95)],[(3,dN p0)]⟩
abbrev aSg:=fun y9 p2 p0 x19 x95 (r:(List Int)×Bool)=>Lok Tryz.prog 37 2 (BQ Za Zc r) (cE4 y9 p2 p0 x19 x95)


def bNb (p0:List (List UInt8)) (x8:Int):St:=⟨[(0,aPk p0),(1,.fn 119 []),(7,vI (p0.length:Int)),(8,vI x8)],[]⟩
abbrev bA7:=fun p0 x8 r=>Lok Tryz.prog 156 0 (PQ (fun y=>(vI y)) r) (bNb p0 x8)


def bWe (p0:List (List aJ)) (x8:Int):St:=⟨[(0,.d (.sl 1 (p0.map (cSl 10 aV)))),(1,.fn 117 []),(7,vI (p0.length:Int)),(8,vI x8)],[]⟩
abbrev aVe:=fun p0 x8 r=>Lok Tryz.prog 155 0 (PQ (fun y=>(vI y)) r) (bWe p0 x8)

def bWy (p1:List Int) (p0:aQ) (x6:List Int) (x12:Int):St:=⟨[(2,.ptr 2 0),(6,.osl 6 3 1 (x6.map cI)),(10,fU p1),(11,vI (p1.length:Int)),(12,vI x12)],[(2,dN p0)]⟩
abbrev aYw:=fun p1 p0 x6 x12 (r:(List Int)×Bool)=>Lok Tryz.prog 80 0 (BQ Za Zc r) (bWy p1 p0 x6 x12)
def bXx (p0:eD) (x3:List Int) (x10:Int):St:=⟨[(3,.osl 3 3 1 (x3.map cI)),(8,aNb p0.cols),(9,vI (p0.cols.length:Int)),(10,vI x10)],[]⟩
abbrev Zd (y:List Int):V:=(.osl 243 3 1 (y.map cI))
abbrev Ze (y:List Int):List (Nat×List V):=[]
abbrev aXm:=fun p0 x3 x10 (r:List Int)=>Lok Tryz.prog 38 0 (BQ Zd Ze r) (bXx p0 x3 x10)
def bJt (p1:List (List Int)) (p2:aJ) (p0:aQ) (x8:List Int) (x64:Int):St:=⟨[(1,.d (.sl 1 (p1.map (cSl 1 cI)))),(3,.ptr 3 0),(5,.ptr 5 0),(8,.osl 8 3 1 (x8.map cI)),(9,.osl 9 3 1 (([]:List Int).map cI)),(62,fH p2.kids),(63,vI (p2.kids.length:Int)),(64,vI x64)],[(3,dN p0),(5,uO p2)]⟩
abbrev aVm:=fun p1 p2 p0 x8 x64 (r:Int×Bool)=>Lok Tryz.prog 84 0 (PQ (fun y=>(.tup [vI y.1,vB y.2])) r) (bJt p1 p2 p0 x8 x64)
def bZa (p1:List (List Int)) (x8:List Int) (p2:aJ) (p0:aQ) (x9:List Int) (x85:Int):St:=⟨[(1,.d (.sl 1 (p1.map (cSl 1 cI)))),(3,.ptr 3 0),(5,.ptr 5 0),(8,.osl 8 3 1 (x8.map cI)),(9,.osl 9 3 1 (x9.map cI)),(83,aNx p2.sub),(84,vI (p2.sub.length:Int)),(85,vI x85)],[(3,dN p0),(5,uO p2)]⟩
abbrev aZz:=fun p1 x8 p2 p0 x9 x85 (r:Int×Bool)=>Lok Tryz.prog 84 1 (PQ (fun y=>(.tup [vI y.1,vB y.2])) r) (bZa p1 x8 p2 p0 x9 x85)
def bMm (p1:List Int) (p2:List Int) (x40:Bool):St:=⟨[(1,fU p1),(2,fU p2),(40,vB x40)],[]⟩
abbrev bUr:=fun p1 p2 x40 (r:Int×Bool)=>Jok Tryz.prog 124 9 (PQ (fun y=>(.tup [vI y.1,vB y.2])) r) (bMm p1 p2 x40)
def bRm (x8:Int) (x9:Bool):St:=⟨[(8,vI x8),(9,vB x9)],[]⟩
abbrev bXv:=fun x8 x9 (r:Int×Bool)=>Jok Tryz.prog 160 2 (PQ (fun y=>(.tup [vI y.1,vB y.2])) r) (bRm x8 x9)






def bMx (p0:List Int) (x4:Int) (x11:Int):St:=⟨[(4,vI x4),(9,fU p0),(10,vI (p0.length:Int)),(11,vI x11)],[]⟩
abbrev aTz:=fun p0 x4 x11 (r:Int×Bool)=>Lok Tryz.prog 161 0 (PQ (fun y=>(.tup [vI y.1,vB y.2])) r) (bMx p0 x4 x11)







def bZc (p0:List aJ) (c0:aQ) (c1_0:List (List Int)) (x8:Int):St:=⟨[(0,fH p0),(1,.fn 121 [.ptr 241 0,.ptr 242 0]),(7,vI (p0.length:Int)),(8,vI x8)],[(241,dN c0),(242,[.d (.sl 1 (c1_0.map (cSl 1 cI)))])]⟩
abbrev aWt:=fun p0 c0 c1_0 x8 r=>Lok Tryz.prog 157 0 (BQ Z3 (fun (y:Int)=>[(241,dN c0),(242,[.d (.sl 1 (c1_0.map (cSl 1 cI)))])]) r) (bZc p0 c0 c1_0 x8)

def cBo (p3:aP) (p0:aQ) (p1:GDb) (p2:List (List aA)) (x40:Int) (eH:List (List (List aA))):St:=⟨[(4,.ptr 4 0),(5,.ptr 5 0),(6,.ptr 6 0),(7,.ptr 7 0),(10,.ptr 10 0),(38,fU p3.tables),(39,vI (p3.tables.length:Int)),(40,vI x40)],[(4,dN p0),(5,mJ p1),(6,[.d (.sl 1 (p2.map (cSl 3 aB)))]),(7,lW p3),(10,[.osl 62 39 1 (eH.map (cSl 1 (cSl 3 aB))),.nil 1,.nil 1,.nil 2,.nf,vB p3.distinct,vI p3.limit])]⟩
abbrev aRw:=fun p3 p0 p1 p2 x40 eH (r:(List (List aA))×Int)=>Lok Tryz.prog 17 0 (PQ (fun y=>(.tup [.d (.sl 1 (y.1.map (cSl 3 aB))),vI y.2])) r) (cBo p3 p0 p1 p2 x40 eH)
def bMl (p0:aQ) (p1:GDb) (p2:List (List aA)) (p3:aP) (eH:List (List (List aA))) (x69:Int) (gU:List (List bU)):St:=⟨[(7,.ptr 7 0),(10,.ptr 10 0),(13,.d (aSm (nS.mk p0 p1 p2))),(67,.d (.sl 1 (p3.on_.map (cSl 10 aV)))),(68,vI (p3.on_.length:Int)),(69,vI x69)],[(7,lW p3),(10,[.osl 62 39 1 (eH.map (cSl 1 (cSl 3 aB))),.osl 79 83 1 (gU.map (cSl 1 iE)),.nil 1,.nil 2,.nf,vB p3.distinct,vI p3.limit])]⟩
abbrev aZ8:=fun p0 p1 p2 p3 eH x69 gU (r:(List (List aA))×Int)=>Lok Tryz.prog 17 1 (PQ (fun y=>(.tup [.d (.sl 1 (y.1.map (cSl 3 aB))),vI y.2])) r) (bMl p0 p1 p2 p3 eH x69 gU)
def bQi (p0:aQ) (p1:GDb) (p2:List (List aA)) (p3:aP) (eH:List (List (List aA))) (gU:List (List bU)) (ky9:(List bU)×Int×(List mU)):St:=⟨[(7,.ptr 7 0),(10,.ptr 10 0),(13,.d (aSm (nS.mk p0 p1 p2))),(88,vQ p3.order),(89,vI (p3.order.length:Int)),(90,vI ky9.2.1)],[(7,lW p3),(10,[.osl 62 39 1 (eH.map (cSl 1 (cSl 3 aB))),.osl 79 83 1 (gU.map (cSl 1 iE)),.osl 85 94 1 (ky9.1.map iE),.osl 107 96 2 (ky9.2.2.map uV),.nf,vB p3.distinct,vI p3.limit])]⟩
abbrev aWv:=fun p0 p1 p2 p3 eH gU ky9 (r:(List (List aA))×Int)=>Lok Tryz.prog 17 2 (PQ (fun y=>(.tup [.d (.sl 1 (y.1.map (cSl 3 aB))),vI y.2])) r) (bQi p0 p1 p2 p3 eH gU ky9)
def bTp (p1:aQ) (p2:GDb) (p3:List (List aA)) (p0:List aJ) (x6:List bU) (x12:Int):St:=⟨[(1,.rp [.sl 2 (p1.tables.map lU)]),(2,.rp [.sl 1 (p2.tables.map jX)]),(3,.rp [.sl 1 (p3.map (cSl 3 aB))]),(6,.osl 6 94 1 (x6.map iE)),(10,fH p0),(11,vI (p0.length:Int)),(12,vI x12)],[]⟩
abbrev Zf (y:List bU):V:=(.osl 243 94 1 (y.map iE))
abbrev aXv:=fun p1 p2 p3 p0 x6 x12 (r:List bU)=>Lok Tryz.prog 42 0 (BQ Zf (fun (y:List bU)=>[]) r) (bTp p1 p2 p3 p0 x6 x12)
def bU2 (y2:(List (List aA))×Int) (p0:eT) (x6:List (List aA)) (x31:Int):St:=⟨[(1,.ptr 1 0),(6,.osl 6 64 1 (x6.map (cSl 3 aB))),(29,.osl 4 64 1 (y2.1.map (cSl 3 aB))),(30,vI (y2.1.length:Int)),(31,vI x31)],[(1,aCo p0)]⟩
abbrev aSl:=fun y2 p0 x6 x31 (r:(List (List aA))×Int)=>Lok Tryz.prog 47 0 (PQ (fun y=>(.tup [.d (.sl 1 (y.1.map (cSl 3 aB))),vI y.2])) r) (bU2 y2 p0 x6 x31)
def bV4 (p0:eT) (vP:List (List aA)):St:=⟨[(1,.ptr 1 0),(6,.osl 6 64 1 (vP.map (cSl 3 aB)))],[(1,aCo p0)]⟩
abbrev bL0:=fun p0 vP (r:(List (List aA))×Int)=>Jok Tryz.prog 47 20 (PQ (fun y=>(.tup [.d (.sl 1 (y.1.map (cSl 3 aB))),vI y.2])) r) (bV4 p0 vP)
def cA2 (Z6:List (List aA)):St:=⟨[(6,.d (.sl 1 (Z6.map (cSl 3 aB))))],[]⟩
abbrev bJo:=fun Z6 (r:(List (List aA))×Int)=>Jok Tryz.prog 47 22 (PQ (fun y=>(.tup [.d (.sl 1 (y.1.map (cSl 3 aB))),vI y.2])) r) (cA2 Z6)
def bOd (p0:eT) (x4:List (List aA)) (x19:Int):St:=⟨[(1,.ptr 1 0),(4,.d (.sl 1 (x4.map (cSl 3 aB)))),(17,.d (.sl 1 (p0.tables.map (cSl 1 (cSl 3 aB))))),(18,vI (p0.tables.length:Int)),(19,vI x19)],[(1,aCo p0)]⟩
abbrev aVv:=fun p0 x4 x19 (r:(List (List aA))×Int)=>Lok Tryz.prog 89 0 (PQ (fun y=>(.tup [.d (.sl 1 (y.1.map (cSl 3 aB))),vI y.2])) r) (bOd p0 x4 x19)
def cC0 (x19:Int) (y1:List (List aA)) (p0:eT) (x4:List (List aA)) (x7:List (List aA)) (x27:Int):St:=⟨[(1,.ptr 1 0),(5,vI x19),(6,.d (.sl 1 (y1.map (cSl 3 aB)))),(7,.osl 7 64 1 (x7.map (cSl 3 aB))),(17,.d (.sl 1 (p0.tables.map (cSl 1 (cSl 3 aB))))),(18,vI (p0.tables.length:Int)),(19,vI x19),(25,.d (.sl 1 (x4.map (cSl 3 aB)))),(26,vI (x4.length:Int)),(27,vI x27)],[(1,aCo p0)]⟩
abbrev aZm:=fun x19 y1 p0 x4 x7 x27 (r:(List (List aA))×Int)=>Lok Tryz.prog 89 1 (PQ (fun y=>(.tup [.d (.sl 1 (y.1.map (cSl 3 aB))),vI y.2])) r) (cC0 x19 y1 p0 x4 x7 x27)
def bYn (x19:Int) (y1:List (List aA)) (y3:List aA) (p0:eT) (x4:List (List aA)) (x27:Int) (mH:(List (List aA))×Int):St:=⟨[(1,.ptr 1 0),(5,vI x19),(6,.d (.sl 1 (y1.map (cSl 3 aB)))),(7,.osl 7 64 1 (mH.1.map (cSl 3 aB))),(9,eP y3),(17,.d (.sl 1 (p0.tables.map (cSl 1 (cSl 3 aB))))),(18,vI (p0.tables.length:Int)),(19,vI x19),(25,.d (.sl 1 (x4.map (cSl 3 aB)))),(26,vI (x4.length:Int)),(27,vI x27),(31,.d (.sl 1 (y1.map (cSl 3 aB)))),(32,vI (y1.length:Int)),(33,vI mH.2)],[(1,aCo p0)]⟩
abbrev aY3:=fun x19 y1 y3 p0 x4 x27 mH (r:(List (List aA))×Int)=>Lok Tryz.prog 89 2 (PQ (fun y=>(.tup [.d (.sl 1 (y.1.map (cSl 3 aB))),vI y.2])) r) (bYn x19 y1 y3 p0 x4 x27 mH)
def bMs (p1:List bU) (x0:List (List aA)) (x15:Int):St:=⟨[(0,.d (.sl 1 (x0.map (cSl 3 aB)))),(13,xZ p1),(14,vI (p1.length:Int)),(15,vI x15)],[]⟩
abbrev aV6:=fun p1 x0 x15 (r:(List (List aA))×Int)=>Lok Tryz.prog 131 0 (PQ (fun y=>(.tup [.d (.sl 1 (y.1.map (cSl 3 aB))),vI y.2])) r) (bMs p1 x0 x15)
def bPz (y1:bU) (p1:List bU) (x15:Int) (x0:List (List aA)) (x8:List (List aA)) (x22:Int):St:=⟨[(7,.d (aNd y1)),(8,.osl 8 64 1 (x8.map (cSl 3 aB))),(13,xZ p1),(14,vI (p1.length:Int)),(15,vI x15),(20,.d (.sl 1 (x0.map (cSl 3 aB)))),(21,vI (x0.length:Int)),(22,vI x22)],[]⟩
abbrev aUh:=fun y1 p1 x15 x0 x8 x22 (r:(List (List aA))×Int)=>Lok Tryz.prog 131 1 (PQ (fun y=>(.tup [.d (.sl 1 (y.1.map (cSl 3 aB))),vI y.2])) r) (bPz y1 p1 x15 x0 x8 x22)
def bNx (y1:bU) (p1:List bU) (x15:Int) (x0:List (List aA)) (x22:Int) (qM:List (List aA)):St:=⟨[(7,.d (aNd y1)),(8,.osl 8 64 1 (qM.map (cSl 3 aB))),(13,xZ p1),(14,vI (p1.length:Int)),(15,vI x15),(20,.d (.sl 1 (x0.map (cSl 3 aB)))),(21,vI (x0.length:Int)),(22,vI x22)],[]⟩
abbrev aR6:=fun y1 p1 x15 x0 x22 qM (r:(List (List aA))×Int)=>Jok Tryz.prog 131 12 (PQ (fun y=>(.tup [.d (.sl 1 (y.1.map (cSl 3 aB))),vI y.2])) r) (bNx y1 p1 x15 x0 x22 qM)

def bVb (p2:List (List aA)) (p3:aJ) (p0:aQ) (p1:GDb) (x81:Int) (gK:List aA):St:=⟨[(2,.d (.sl 1 (p2.map (cSl 3 aB)))),(4,.ptr 4 0),(5,.ptr 5 0),(7,.ptr 7 0),(8,.ptr 8 0),(10,.ptr 10 0),(79,fH p3.kids),(80,vI (p3.kids.length:Int)),(81,vI x81)],[(4,dN p0),(5,mJ p1),(7,uO p3),(8,[vI 0,vI 0,vS []]),(10,[vI p3.kind,vI p3.op,vB p3.not_,vI p3.value.kind,vI p3.value.num,vS p3.value.text,.osl 101 43 3 (gK.map aB),.nil 1])]⟩
abbrev aZc:=fun p2 p3 p0 p1 x81 gK (r:aA×Int)=>Lok Tryz.prog 44 0 (PQ (fun y=>(.tup [bN y.1,vI y.2])) r) (bVb p2 p3 p0 p1 x81 gK)
def cC1 (p2:List (List aA)) (p3:aJ) (p0:aQ) (p1:GDb) (gK:List aA) (oG:Int) (qJ:List (List aA)):St:=⟨[(2,.d (.sl 1 (p2.map (cSl 3 aB)))),(4,.ptr 4 0),(5,.ptr 5 0),(8,.ptr 8 0),(10,.ptr 10 0),(105,aNx p3.sub),(106,vI (p3.sub.length:Int)),(107,vI oG)],[(4,dN p0),(5,mJ p1),(8,[vI 0,vI 0,vS []]),(10,[vI p3.kind,vI p3.op,vB p3.not_,vI p3.value.kind,vI p3.value.num,vS p3.value.text,.osl 101 43 3 (gK.map aB),.d (.sl 1 (qJ.map (cSl 3 aB)))])]⟩
abbrev aQ2:=fun p2 p3 p0 p1 gK oG qJ (r:aA×Int)=>Lok Tryz.prog 44 1 (PQ (fun y=>(.tup [bN y.1,vI y.2])) r) (cC1 p2 p3 p0 p1 gK oG qJ)


def bRy (x8:Int) (x9:Bool):St:=⟨[(6,.ptr 6 0),(8,vI x8),(9,vB x9)],[(6,[vI 0,vI 0,vS []])]⟩
abbrev bNv:=fun x8 x9 (r:aA×Int)=>Jok Tryz.prog 163 2 (PQ (fun y=>(.tup [bN y.1,vI y.2])) r) (bRy x8 x9)





def bXj (jS:Int):St:=⟨[(2,.ptr 2 0),(3,.ptr 3 0)],[(2,[vI 0,vI 0,vS []]),(3,vL (aA.mk 3 jS []))]⟩
abbrev bMo:=fun jS r=>Jok Tryz.prog 8 2 (PQ (fun y=>(bN y)) r) (bXj jS)
def bVh (p0:oM) (x4:List aA) (x42:Int):St:=⟨[(1,.ptr 1 0),(2,.ptr 2 0),(4,.osl 4 43 3 (x4.map aB)),(40,.d (.sl 1 (p0.rows.map (cSl 3 aB)))),(41,vI (p0.rows.length:Int)),(42,vI x42)],[(1,bOz p0),(2,[vI 0,vI 0,vS []])]⟩
abbrev aWs:=fun p0 x4 x42 (r:aA×Int)=>Lok Tryz.prog 129 0 (PQ (fun y=>(.tup [bN y.1,vI y.2])) r) (bVh p0 x4 x42)


def bZ4 (p0:Int) (p1:aA) (p2:aA) (x15:Int):St:=⟨[(0,vI p0),(4,.ptr 4 0),(5,.ptr 5 0),(6,.ptr 6 0),(13,.osl 13 43 3 (([p1,p2]:List aA).map aB)),(14,vI (([p1,p2]:List aA).length:Int)),(15,vI x15)],[(4,vL p1),(5,vL p2),(6,[vI 0,vI 0,vS []])]⟩
abbrev aQe:=fun p0 p1 p2 x15 (r:aA×Int)=>Lok Tryz.prog 164 0 (PQ (fun y=>(.tup [bN y.1,vI y.2])) r) (bZ4 p0 p1 p2 x15)



def bJs (p0:List Int) (x8:Int):St:=⟨[(3,vI 0),(6,fU p0),(7,vI (p0.length:Int)),(8,vI x8)],[]⟩
abbrev aQy:=fun p0 x8 r=>Lok Tryz.prog 173 0 (PQ (fun y=>(vI y)) r) (bJs p0 x8)





def cD2 (p1:List aA) (p0:aA) (x14:Int) (iY:Int) (iQ:Int) (iX:List UInt8):St:=⟨[(2,.ptr 2 0),(4,.ptr 4 0),(6,.ptr 6 0),(12,eP p1),(13,vI (p1.length:Int)),(14,vI x14)],[(2,vL p0),(4,[vI 0,vI 0,vS []]),(6,vL (aA.mk iY iQ iX))]⟩
abbrev aUs:=fun p1 p0 x14 iY iQ iX (r:aA×Int)=>Lok Tryz.prog 169 0 (PQ (fun y=>(.tup [bN y.1,vI y.2])) r) (cD2 p1 p0 x14 iY iQ iX)

def bV5 (p0:Int) (aA1:Int):St:=⟨[(2,.ptr 2 0),(4,.ptr 4 0)],[(2,[vB false,vB false,vB false,vB false,vI 0,vI 0,vI 0]),(4,[vI p0,vI aA1,vB false,vI 0,vI 0,vS [],vS [],vS [120],.nil 10,.nil 6])]⟩
abbrev bT8:=fun p0 aA1 (r:kM×Bool)=>Jok Tryz.prog 126 2 (PQ (fun y=>(.tup [aTf y.1,vB y.2])) r) (bV5 p0 aA1)

def bPb (p0:List (List aA)) (x3:Int) (x11:Int):St:=⟨[(0,.d (.sl 1 (p0.map (cSl 3 aB)))),(3,vI x3),(9,.d (.sl 1 (p0.map (cSl 3 aB)))),(10,vI (p0.length:Int)),(11,vI x11)],[]⟩
abbrev Zh (y:List aA):V:=(.osl 243 43 3 (y.map aB))
abbrev Zi (y:List aA):List (Nat×List V):=[]
abbrev aW7:=fun p0 x3 x11 (r:List aA)=>Lok Tryz.prog 130 0 (BQ Zh Zi r) (bPb p0 x3 x11)
def bS3 (p0:List (List aA)) (x3:Int) (y1:List aA) (x11:Int):St:=⟨[(0,.d (.sl 1 (p0.map (cSl 3 aB)))),(3,vI (QA .i64 (x3+(y1.length:Int)))),(9,.d (.sl 1 (p0.map (cSl 3 aB)))),(10,vI (p0.length:Int)),(11,vI x11)],[]⟩
abbrev aZ1:=fun p0 x3 y1 x11 (r:List aA)=>Jok Tryz.prog 130 6 (BQ Zh Zi r) (bS3 p0 x3 y1 x11)
def bNr (p0:List (List aA)) (x6:List aA) (x27:Int):St:=⟨[(6,.osl 6 43 3 (x6.map aB)),(25,.d (.sl 1 (p0.map (cSl 3 aB)))),(26,vI (p0.length:Int)),(27,vI x27)],[]⟩
abbrev aZq:=fun p0 x6 x27 (r:List aA)=>Lok Tryz.prog 130 1 (BQ Zh Zi r) (bNr p0 x6 x27)

def bTy (p0:List (List aA)) (x3:List (List aA)) (x9:Int):St:=⟨[(3,.osl 3 64 1 (x3.map (cSl 3 aB))),(7,.d (.sl 1 (p0.map (cSl 3 aB)))),(8,vI (p0.length:Int)),(9,vI x9)],[]⟩
abbrev Zj (y:List (List aA)):V:=(.osl 243 64 1 (y.map (cSl 3 aB)))
abbrev Zk (y:List (List aA)):List (Nat×List V):=[]
abbrev aVw:=fun p0 x3 x9 (r:List (List aA))=>Lok Tryz.prog 91 0 (BQ Zj Zk r) (bTy p0 x3 x9)
def bW5 (p0:List (List aA)) (x9:Int) (qN:List (List aA)):St:=⟨[(3,.osl 3 64 1 (qN.map (cSl 3 aB))),(7,.d (.sl 1 (p0.map (cSl 3 aB)))),(8,vI (p0.length:Int)),(9,vI x9)],[]⟩
abbrev aQj:=fun p0 x9 qN (r:List (List aA))=>Jok Tryz.prog 91 6 (BQ Zj Zk r) (bW5 p0 x9 qN)


def bO9 (p0:List (List aA)) (c0_0:List aA) (x8:Int):St:=⟨[(0,.d (.sl 1 (p0.map (cSl 3 aB)))),(1,.fn 135 [.ptr 241 0]),(7,vI (p0.length:Int)),(8,vI x8)],[(241,[eP c0_0])]⟩
abbrev aVz:=fun p0 c0_0 x8 r=>Lok Tryz.prog 85 0 (BQ Z3 (fun (y:Int)=>[(241,[.d (.sl 3 (c0_0.map aB))])]) r) (bO9 p0 c0_0 x8)

def bQm (p0:List aA) (p1:List aA) (x13:Int):St:=⟨[(0,eP p0),(1,eP p1),(12,vI (p0.length:Int)),(13,vI x13)],[]⟩
abbrev aZo:=fun p0 p1 x13 r=>Lok Tryz.prog 136 0 (PQ (fun y=>(vB y)) r) (bQm p0 p1 x13)

def bPe (p1:List aA) (p0:List bU) (x6:List aA) (x14:Int):St:=⟨[(1,eP p1),(6,.osl 6 43 3 (x6.map aB)),(12,xZ p0),(13,vI (p0.length:Int)),(14,vI x14)],[]⟩
abbrev Zl (y:(List aA)×Int):V:=(.tup [.osl 243 43 3 (y.1.map aB),vI y.2])
abbrev Zm (y:(List aA)×Int):List (Nat×List V):=[]
abbrev aVq:=fun p1 p0 x6 x14 (r:(List aA)×Int)=>Lok Tryz.prog 46 0 (BQ Zl Zm r) (bPe p1 p0 x6 x14)
def cC5 (p1:List (List aA)) (p0:eT) (x20:Int) (gY:List aU):St:=⟨[(2,.ptr 2 0),(6,.tre 346),(18,.d (.sl 1 (p1.map (cSl 3 aB)))),(19,vI (p1.length:Int)),(20,vI x20)],[(2,aCo p0),(346,[.trs 2 (gY.map bA)])]⟩
abbrev Zn (y:(List (List aA))×Int):V:=(.tup [.osl 243 64 1 (y.1.map (cSl 3 aB)),vI y.2])
abbrev Zo (y:(List (List aA))×Int):List (Nat×List V):=[]
abbrev aQo:=fun p1 p0 x20 gY (r:(List (List aA))×Int)=>Lok Tryz.prog 90 0 (BQ Zn Zo r) (cC5 p1 p0 x20 gY)
def cC6 (y1:List aA) (p1:List (List aA)) (x20:Int) (p0:eT) (gY:List aU) (x9:List aA) (x28:Int):St:=⟨[(2,.ptr 2 0),(6,.tre 356),(8,eP y1),(9,.osl 9 43 3 (x9.map aB)),(18,.d (.sl 1 (p1.map (cSl 3 aB)))),(19,vI (p1.length:Int)),(20,vI x20),(26,aUl p0.order),(27,vI (p0.order.length:Int)),(28,vI x28)],[(2,aCo p0),(356,[.trs 2 (gY.map bA)])]⟩
abbrev aUg:=fun y1 p1 x20 p0 gY x9 x28 (r:(List (List aA))×Int)=>Lok Tryz.prog 90 1 (BQ Zn Zo r) (cC6 y1 p1 x20 p0 gY x9 x28)
def bRd (y2:List aU) (x14:List (List aA)) (x60:Int):St:=⟨[(14,.osl 14 64 1 (x14.map (cSl 3 aB))),(58,.tre 372),(59,vI (y2.length:Int)),(60,vI x60)],[(372,[.trs 2 (y2.map bA)])]⟩
abbrev aVp:=fun y2 x14 x60 (r:(List (List aA))×Int)=>Lok Tryz.prog 90 2 (BQ Zn Zo r) (bRd y2 x14 x60)

def bKh (p1:Int) (p2:eX) (x7:Int) (x8:Int) (bC:List aU):St:=⟨[(0,.tre 244),(1,vI p1),(2,.d (lM p2)),(6,vI 20),(7,vI x7),(8,vI x8)],[(244,[.trs 2 (bC.map bA)])]⟩
abbrev Zq (y:List aU):List (Nat×List V):=[(244,[.trs 2 (y.map bA)])]
abbrev Zp (y:List aU):V:=(.tup [])
abbrev aWe:=fun p1 p2 x7 x8 bC (r:List aU)=>Lok Tryz.prog 172 0 (BQ Zp Zq r) (bKh p1 p2 x7 x8 bC)
def bVn (p1:Int) (p2:eX) (x6:Int) (pM:List aU):St:=⟨[(0,.tre 244),(1,vI p1),(2,.d (lM p2)),(6,vI x6)],[(244,[.trs 2 (pM.map bA)])]⟩
abbrev aWz:=fun p1 p2 x6 pM (r:List aU)=>Lok Tryz.prog 172 1 (BQ Zp Zq r) (bVn p1 p2 x6 pM)
def bW8 (p1:Int) (p2:eX) (x6:Int) (nE:Int) (nL:Int) (oJ:List aU):St:=⟨[(0,.tre 244),(1,vI p1),(2,.d (lM p2)),(6,vI x6),(7,vI nE),(8,vI nL)],[(244,[.trs 2 (oJ.map bA)])]⟩
abbrev aU9:=fun p1 p2 x6 nE nL oJ (r:List aU)=>Lok Tryz.prog 172 2 (BQ Zp Zq r) (bW8 p1 p2 x6 nE nL oJ)
def bXi (p1:Int) (p2:eX) (x6:Int) (qV:List aU):St:=⟨[(0,.tre 244),(1,vI p1),(2,.d (lM p2)),(6,vI x6)],[(244,[.trs 2 (qV.map bA)])]⟩
abbrev aXk:=fun p1 p2 x6 qV (r:List aU)=>Jok Tryz.prog 172 16 (BQ Zp Zq r) (bXi p1 p2 x6 qV)
def bLq (p1:Int) (p2:Int) (p3:eX) (x8:Int) (bC:List aU):St:=⟨[(0,.tre 244),(1,vI p1),(2,vI p2),(3,.d (lM p3)),(8,vI x8)],[(244,[.trs 2 (bC.map bA)])]⟩
abbrev aSq:=fun p1 p2 p3 x8 bC (r:List aU)=>Lok Tryz.prog 196 0 (BQ Zp Zq r) (bLq p1 p2 p3 x8 bC)
def cC8 (p1:Int) (p2:Int) (p3:eX) (x8:Int) (x9:Int) (fC:List aU):St:=⟨[(0,.tre 244),(1,vI p1),(2,vI p2),(3,.d (lM p3)),(8,vI x8),(9,vI x9)],[(244,[.trs 2 (fC.map bA)])]⟩
abbrev aQ8:=fun p1 p2 p3 x8 x9 fC (r:List aU)=>Lok Tryz.prog 196 1 (BQ Zp Zq r) (cC8 p1 p2 p3 x8 x9 fC)
def bS1 (p2:eT) (p0:aU) (p1:aU) (x12:Int):St:=⟨[(3,.ptr 3 0),(4,.ptr 4 0),(10,aUl p2.order),(11,vI (p2.order.length:Int)),(12,vI x12)],[(3,aNy p0),(4,aNy p1)]⟩
abbrev aYs:=fun p2 p0 p1 x12 r=>Lok Tryz.prog 133 0 (PQ (fun y=>(vI y)) r) (bS1 p2 p0 p1 x12)
def cB8 (p2:eT) (x12:Int) (p0:aU) (p1:aU) (x8:Int):St:=⟨[(3,.ptr 3 0),(4,.ptr 4 0),(8,vI x8),(10,aUl p2.order),(11,vI (p2.order.length:Int)),(12,vI x12)],[(3,aNy p0),(4,aNy p1)]⟩
abbrev aQz:=fun p2 x12 p0 p1 x8 r=>Jok Tryz.prog 133 8 (PQ (fun y=>(vI y)) r) (cB8 p2 x12 p0 p1 x8)
def bZ0 (p1:Int) (p4:eX) (p0:List aU) (x10:Int) (x11:Int):St:=⟨[(0,.tre 244),(1,vI p1),(4,.d (lM p4)),(10,vI x10),(11,vI x11)],[(244,[.trs 2 (p0.map bA)])]⟩
abbrev aQb:=fun p1 p4 p0 x10 x11 (r:List aU)=>Lok Tryz.prog 197 0 (BQ Zp Zq r) (bZ0 p1 p4 p0 x10 x11)
def cD4 (p2:Int) (p4:eX) (p0:List aU) (x14:Int) (x15:Int):St:=⟨[(0,.tre 244),(2,vI p2),(4,.d (lM p4)),(14,vI x14),(15,vI x15)],[(244,[.trs 2 (p0.map bA)])]⟩
abbrev aR4:=fun p2 p4 p0 x14 x15 (r:List aU)=>Lok Tryz.prog 197 2 (BQ Zp Zq r) (cD4 p2 p4 p0 x14 x15)
def cB7 (p1:Int) (p2:Int) (p3:Int) (p4:eX) (p0:List aU) (x20:Int) (x21:Int):St:=⟨[(0,.tre 244),(1,vI p1),(2,vI p2),(3,vI p3),(4,.d (lM p4)),(18,vI (QA .i64 (QB (QA .u64 (QA .i64 (p1+p3))) (2 ^ 1)))),(19,vI (QA .i64 ((QA .i64 (QB (QA .u64 (QA .i64 (p1+p3))) (2 ^ 1)))+p2))),(20,vI x20),(21,vI x21)],[(244,[.trs 2 (p0.map bA)])]⟩
abbrev aRb:=fun p1 p2 p3 p4 p0 x20 x21 (r:List aU)=>Jok Tryz.prog 197 31 (BQ Zp Zq r) (cB7 p1 p2 p3 p4 p0 x20 x21)
def bL8 (x10:Int) (x13:Int) (bC:List aU):St:=⟨[(0,.tre 244),(10,vI x10),(13,vI x13)],[(244,[.trs 2 (bC.map bA)])]⟩
abbrev aYo:=fun x10 x13 bC (r:List aU)=>Lok Tryz.prog 197 1 (BQ Zp Zq r) (bL8 x10 x13 bC)
def bP6 (x14:Int) (x17:Int) (iL:List aU):St:=⟨[(0,.tre 244),(14,vI x14),(17,vI x17)],[(244,[.trs 2 (iL.map bA)])]⟩
abbrev aXa:=fun x14 x17 iL (r:List aU)=>Lok Tryz.prog 197 3 (BQ Zp Zq r) (bP6 x14 x17 iL)
def cB5 (p1:Int) (p2:Int) (p3:Int) (p4:eX) (p0:List aU) (dF:Int) (iI:Int):St:=⟨[(0,.tre 244),(1,vI p1),(2,vI p2),(3,vI p3),(4,.d (lM p4)),(18,vI (QA .i64 (QB (QA .u64 (QA .i64 (p1+p3))) (2 ^ 1)))),(19,vI (QA .i64 ((QA .i64 (QB (QA .u64 (QA .i64 (p1+p3))) (2 ^ 1)))+p2))),(20,vI dF),(21,vI iI),(22,vI (QA .i64 ((QA .i64 ((QA .i64 (QB (QA .u64 (QA .i64 (p1+p3))) (2 ^ 1)))+p2)) - 1)))],[(244,[.trs 2 (p0.map bA)])]⟩
abbrev aYk:=fun p1 p2 p3 p4 p0 dF iI (r:List aU)=>Lok Tryz.prog 197 4 (BQ Zp Zq r) (cB5 p1 p2 p3 p4 p0 dF iI)
def bJa (p1:Int) (p3:Int) (p4:eX) (dF:Int) (p2:Int) (pR:List aU):St:=⟨[(0,.tre 244),(1,vI p1),(3,vI p3),(4,.d (lM p4)),(18,vI (QA .i64 (QB (QA .u64 (QA .i64 (p1+p3))) (2 ^ 1)))),(20,vI dF),(24,vI (QA .i64 ((QA .i64 ((QA .i64 (QB (QA .u64 (QA .i64 (p1+p3))) (2 ^ 1)))+p2)) - dF)))],[(244,[.trs 2 (pR.map bA)])]⟩
abbrev aQg:=fun p1 p3 p4 dF p2 pR (r:List aU)=>Jok Tryz.prog 197 42 (BQ Zp Zq r) (bJa p1 p3 p4 dF p2 pR)
def bXz (p3:Int) (p4:eX) (p1:Int) (p2:Int) (dF:Int) (pW:List aU):St:=⟨[(0,.tre 244),(3,vI p3),(4,.d (lM p4)),(18,vI (QA .i64 (QB (QA .u64 (QA .i64 (p1+p3))) (2 ^ 1)))),(24,vI (QA .i64 ((QA .i64 ((QA .i64 (QB (QA .u64 (QA .i64 (p1+p3))) (2 ^ 1)))+p2)) - dF)))],[(244,[.trs 2 (pW.map bA)])]⟩
abbrev aT9:=fun p3 p4 p1 p2 dF pW (r:List aU)=>Jok Tryz.prog 197 44 (BQ Zp Zq r) (bXz p3 p4 p1 p2 dF pW)
def cDw (p2:Int) (p4:eX) (x10:Int) (x11:Int) (bC:List aU):St:=⟨[(0,.tre 244),(2,vI p2),(4,.d (lM p4)),(10,vI x10),(11,vI x11)],[(244,[.trs 2 (bC.map bA)])]⟩
abbrev aW8:=fun p2 p4 x10 x11 bC (r:List aU)=>Lok Tryz.prog 201 0 (BQ Zp Zq r) (cDw p2 p4 x10 x11 bC)
def bK6 (p1:Int) (p2:Int) (p3:Int) (x10:Int) (bC:List aU):St:=⟨[(0,.tre 244),(1,vI p1),(2,vI p2),(3,vI p3),(10,vI x10)],[(244,[.trs 2 (bC.map bA)])]⟩
abbrev aXh:=fun p1 p2 p3 x10 bC (r:List aU)=>Lok Tryz.prog 202 0 (BQ Zp Zq r) (bK6 p1 p2 p3 x10 bC)
def bQo (p1:GDb) (p0:aQ) (x23:Int):St:=⟨[(2,.ptr 2 0),(21,bU9 p1.tables),(22,vI (p1.tables.length:Int)),(23,vI x23)],[(2,dN p0)]⟩
abbrev aV9:=fun p1 p0 x23 r=>Lok Tryz.prog 16 0 (PQ (fun y=>(vB y)) r) (bQo p1 p0 x23)

def bTg (p0:List (List aA)) (c0_0:List Int) (x8:Int):St:=⟨[(0,.d (.sl 1 (p0.map (cSl 3 aB)))),(1,.fn 40 [.ptr 241 0]),(7,vI (p0.length:Int)),(8,vI x8)],[(241,[fU c0_0])]⟩
abbrev aVi:=fun p0 c0_0 x8 r=>Lok Tryz.prog 85 0 (BQ Z3 (fun (y:Int)=>[(241,[.d (.sl 1 (c0_0.map cI))])]) r) (bTg p0 c0_0 x8)

def cBu (p1:List Int) (p0:List aA) (x14:Int):St:=⟨[(1,fU p1),(12,eP p0),(13,vI (p0.length:Int)),(14,vI x14)],[]⟩
abbrev aZ0:=fun p1 p0 x14 r=>Lok Tryz.prog 41 0 (PQ (fun y=>(vB y)) r) (cBu p1 p0 x14)

def cAv (p0:List Int) (x3:Int) (x4:Int):St:=⟨[(0,aAi p0),(3,vI x3),(4,vI x4)],[]⟩
abbrev aQl:=fun p0 x3 x4 r=>Lok Tryz.prog 26 0 (BQ (fun (y:aL)=>(.ptr 31 0)) (fun (y:aL)=>[(31,aZ y)]) r) (cAv p0 x3 x4)
def bU0 (p0:aQ) (p1:GDb) (x5:Int):St:=⟨[(2,.ptr 2 0),(3,.ptr 3 0),(5,vI x5)],[(2,dN p0),(3,mJ p1)]⟩
abbrev aRg:=fun p0 p1 x5 r=>Lok Tryz.prog 10 0 (PQ (fun y=>(vB y)) r) (bU0 p0 p1 x5)
def cAd (x5:Int) (p0:aQ) (p1:GDb) (x6:Int):St:=⟨[(2,.ptr 2 0),(3,.ptr 3 0),(5,vI x5),(6,vI x6)],[(2,dN p0),(3,mJ p1)]⟩
abbrev bA1:=fun x5 p0 p1 x6 r=>Lok Tryz.prog 10 1 (PQ (fun y=>(vB y)) r) (cAd x5 p0 p1 x6)
def cAj (p0:eD) (x3:List Int) (x4:Int):St:=⟨[(1,.ptr 1 0),(3,.osl 3 3 1 (x3.map cI)),(4,vI x4)],[(1,aNi p0)]⟩
abbrev aXg:=fun p0 x3 x4 (r:List Int)=>Lok Tryz.prog 24 0 (BQ Zd Ze r) (cAj p0 x3 x4)
def bJb (p0:List aA) (p1:List Int) (x5:Int):St:=⟨[(0,eP p0),(1,fU p1),(5,vI x5)],[]⟩
abbrev aWu:=fun p0 p1 x5 r=>Lok Tryz.prog 23 0 (PQ (fun y=>(vB y)) r) (bJb p0 p1 x5)



def bUf (p0:aQ) (x3:Int):St:=⟨[(1,.ptr 1 0),(3,vI x3)],[(1,dN p0)]⟩
abbrev aWk:=fun p0 x3 r=>Lok Tryz.prog 19 0 (PQ (fun y=>(vB y)) r) (bUf p0 x3)
def bL1 (x3:Int) (p0:aQ) (y1:eD) (x5:Int):St:=⟨[(1,.ptr 1 0),(3,vI x3),(4,.ptr 4 0),(5,vI x5)],[(1,dN p0),(4,aNi y1)]⟩
abbrev aSx:=fun x3 p0 y1 x5 r=>Lok Tryz.prog 19 1 (PQ (fun y=>(vB y)) r) (bL1 x3 p0 y1 x5)
def bW9 (p1:List UInt8) (p0:eD) (x5:Int):St:=⟨[(1,vS p1),(2,.ptr 2 0),(5,vI x5)],[(2,aNi p0)]⟩
abbrev aRd:=fun p1 p0 x5 r=>Lok Tryz.prog 57 0 (PQ (fun y=>(vI y)) r) (bW9 p1 p0 x5)
def bLe (p1:List UInt8) (p0:aQ) (x5:Int):St:=⟨[(1,vS p1),(2,.ptr 2 0),(5,vI x5)],[(2,dN p0)]⟩
abbrev aYp:=fun p1 p0 x5 r=>Lok Tryz.prog 55 0 (PQ (fun y=>(vI y)) r) (bLe p1 p0 x5)


def cCi (p2:List (List aA)) (p0:aQ) (p1:GDb) (p3:aP) (x11:List (List aA)):St:=⟨[(2,.d (.sl 1 (p2.map (cSl 3 aB)))),(4,.ptr 4 0),(5,.ptr 5 0),(7,.ptr 7 0),(10,.osl 10 64 1 (([]:List (List aA)).map (cSl 3 aB))),(11,.d (.sl 1 (x11.map (cSl 3 aB))))],[(4,dN p0),(5,mJ p1),(7,lW p3)]⟩
abbrev aUc:=fun p2 p0 p1 p3 x11 (r:(List (List aA))×Int)=>Jok Tryz.prog 18 13 (PQ (fun y=>(.tup [.d (.sl 1 (y.1.map (cSl 3 aB))),vI y.2])) r) (cCi p2 p0 p1 p3 x11)
def bNc (p3:aP) (vO:List (List aA)):St:=⟨[(7,.ptr 7 0),(11,.osl 11 64 1 (vO.map (cSl 3 aB)))],[(7,lW p3)]⟩
abbrev bSr:=fun p3 vO (r:(List (List aA))×Int)=>Jok Tryz.prog 18 22 (PQ (fun y=>(.tup [.d (.sl 1 (y.1.map (cSl 3 aB))),vI y.2])) r) (bNc p3 vO)
def bYe (X6:List (List aA)):St:=⟨[(11,.d (.sl 1 (X6.map (cSl 3 aB))))],[]⟩
abbrev bY5:=fun X6 (r:(List (List aA))×Int)=>Jok Tryz.prog 18 24 (PQ (fun y=>(.tup [.d (.sl 1 (y.1.map (cSl 3 aB))),vI y.2])) r) (bYe X6)
def bOo (p2:List (List aA)) (p3:List (List aA)) (p4:List dD) (p0:aQ) (p1:GDb) (x12:List (List aA)) (kx13:(List (List aA))×Int):St:=⟨[(2,.d (.sl 1 (p2.map (cSl 3 aB)))),(3,.d (.sl 1 (p3.map (cSl 3 aB)))),(4,vQ p4),(5,.ptr 5 0),(6,.ptr 6 0),(12,.osl 12 64 1 (x12.map (cSl 3 aB))),(13,.osl 13 64 1 (kx13.1.map (cSl 3 aB))),(14,vI kx13.2)],[(5,dN p0),(6,mJ p1)]⟩
abbrev aS7:=fun p2 p3 p4 p0 p1 x12 kx13 (r:(List (List aA))×Int)=>Lok Tryz.prog 51 0 (BQ Zn Zo r) (bOo p2 p3 p4 p0 p1 x12 kx13)
def bX6 (p2:List (List aA)) (p3:List (List aA)) (p4:List dD) (x12:List (List aA)) (x13:List (List aA)) (x14:Int) (kp0q:aQ×GDb×(List aA)×Int):St:=⟨[(2,.d (.sl 1 (p2.map (cSl 3 aB)))),(3,.d (.sl 1 (p3.map (cSl 3 aB)))),(4,vQ p4),(5,.ptr 5 0),(6,.ptr 6 0),(12,.osl 12 64 1 (x12.map (cSl 3 aB))),(13,.osl 13 64 1 (x13.map (cSl 3 aB))),(14,vI x14),(15,.osl 15 43 3 (kp0q.2.2.1.map aB)),(16,vI kp0q.2.2.2)],[(5,dN kp0q.1),(6,mJ kp0q.2.1)]⟩
abbrev aSn:=fun p2 p3 p4 x12 x13 x14 kp0q (r:(List (List aA))×Int)=>Lok Tryz.prog 51 1 (BQ Zn Zo r) (bX6 p2 p3 p4 x12 x13 x14 kp0q)
def bPh (p2:List (List aA)) (p3:List (List aA)) (p4:List dD) (x12:List (List aA)) (x13:List (List aA)) (x14:Int) (kx15q:(List aA)×aQ×GDb×Int):St:=⟨[(2,.d (.sl 1 (p2.map (cSl 3 aB)))),(3,.d (.sl 1 (p3.map (cSl 3 aB)))),(4,vQ p4),(5,.ptr 5 0),(6,.ptr 6 0),(12,.osl 12 64 1 (x12.map (cSl 3 aB))),(13,.osl 13 64 1 (x13.map (cSl 3 aB))),(14,vI x14),(15,.osl 15 43 3 (kx15q.1.map aB)),(19,vI kx15q.2.2.2)],[(5,dN kx15q.2.1),(6,mJ kx15q.2.2.1)]⟩
abbrev aRi:=fun p2 p3 p4 x12 x13 x14 kx15q (r:(List (List aA))×Int)=>Lok Tryz.prog 51 2 (BQ Zn Zo r) (bPh p2 p3 p4 x12 x13 x14 kx15q)

def bRa (p0:List aA) (p1:List aA) (p2:List dD) (x7:Int):St:=⟨[(0,eP p0),(1,eP p1),(2,vQ p2),(7,vI x7)],[]⟩
abbrev aRj:=fun p0 p1 p2 x7 r=>Lok Tryz.prog 96 0 (PQ (fun y=>(vB y)) r) (bRa p0 p1 p2 x7)
def bZu (p0:List aA) (p1:List aA) (p2:List dD) (x7:Int) (x8:Int):St:=⟨[(0,eP p0),(1,eP p1),(2,vQ p2),(7,vI x7),(8,vI x8)],[]⟩
abbrev aZd:=fun p0 p1 p2 x7 x8 r=>Jok Tryz.prog 96 7 (PQ (fun y=>(vB y)) r) (bZu p0 p1 p2 x7 x8)

def bZ7 (p2:List (List aA)) (p0:aQ) (p1:GDb) (p3:aJ) (x10:List aA) (x11:Int):St:=⟨[(2,.d (.sl 1 (p2.map (cSl 3 aB)))),(4,.ptr 4 0),(5,.ptr 5 0),(7,.ptr 7 0),(8,.ptr 8 0),(10,.osl 10 43 3 (x10.map aB)),(11,vI x11)],[(4,dN p0),(5,mJ p1),(7,uO p3),(8,[vI 0,vI 0,vS []])]⟩
abbrev aRu:=fun p2 p0 p1 p3 x10 x11 (r:aA×Int)=>Lok Tryz.prog 93 0 (PQ (fun y=>(.tup [bN y.1,vI y.2])) r) (bZ7 p2 p0 p1 p3 x10 x11)
def cBd (p2:List (List aA)) (x10:List aA) (p3:aJ) (x14:List (List aA)):St:=⟨[(2,.d (.sl 1 (p2.map (cSl 3 aB)))),(7,.ptr 7 0),(8,.ptr 8 0),(10,.osl 10 43 3 (x10.map aB)),(14,.d (.sl 1 (x14.map (cSl 3 aB))))],[(7,uO p3),(8,[vI 0,vI 0,vS []])]⟩
abbrev bNj:=fun p2 x10 p3 x14 (r:aA×Int)=>Jok Tryz.prog 93 15 (PQ (fun y=>(.tup [bN y.1,vI y.2])) r) (cBd p2 x10 p3 x14)
def cCk (x10:List aA) (x14:List (List aA)) (p3:aJ) (x21:List aA) (x22:Int):St:=⟨[(7,.ptr 7 0),(8,.ptr 8 0),(10,.osl 10 43 3 (x10.map aB)),(14,.d (.sl 1 (x14.map (cSl 3 aB)))),(21,.osl 21 43 3 (x21.map aB)),(22,vI x22)],[(7,uO p3),(8,[vI 0,vI 0,vS []])]⟩
abbrev aUz:=fun x10 x14 p3 x21 x22 (r:aA×Int)=>Lok Tryz.prog 93 1 (PQ (fun y=>(.tup [bN y.1,vI y.2])) r) (cCk x10 x14 p3 x21 x22)
def bS8 (p1:List aA) (p0:aA) (x7:Int) (iY:Int) (iQ:Int) (iX:List UInt8):St:=⟨[(1,eP p1),(2,.ptr 2 0),(4,.ptr 4 0),(6,.ptr 6 0),(7,vI x7)],[(2,vL p0),(4,[vI 0,vI 0,vS []]),(6,vL (aA.mk iY iQ iX))]⟩
abbrev aXx:=fun p1 p0 x7 iY iQ iX (r:aA×Int)=>Lok Tryz.prog 143 0 (PQ (fun y=>(.tup [bN y.1,vI y.2])) r) (bS8 p1 p0 x7 iY iQ iX)
def bR0 (p0:Int) (p1:aA) (p2:aA) (aA7:Bool):St:=⟨[(0,vI p0),(4,.ptr 4 0),(5,.ptr 5 0),(6,.ptr 6 0),(112,vB aA7)],[(4,vL p1),(5,vL p2),(6,[vI 0,vI 0,vS []])]⟩
abbrev bV0:=fun p0 p1 p2 aA7 (r:aA×Int)=>Jok Tryz.prog 140 29 (PQ (fun y=>(.tup [bN y.1,vI y.2])) r) (bR0 p0 p1 p2 aA7)















def bLt (p0:aJ) (x13:Bool):St:=⟨[(3,vI (p0.kids.length:Int)),(4,vI (p0.sub.length:Int)),(12,vI p0.kind),(13,vB x13)],[]⟩
abbrev bWh:=fun p0 x13 r=>Jok Tryz.prog 138 5 (PQ (fun y=>(vB y)) r) (bLt p0 x13)
def bK1 (p0:aJ) (x20:Bool):St:=⟨[(3,vI (p0.kids.length:Int)),(4,vI (p0.sub.length:Int)),(12,vI p0.kind),(20,vB x20)],[]⟩
abbrev bQ1:=fun p0 x20 r=>Jok Tryz.prog 138 8 (PQ (fun y=>(vB y)) r) (bK1 p0 x20)

def cBl (p0:GDb) (p1:aP) (x5:Int):St:=⟨[(2,.ptr 2 0),(3,.ptr 3 0),(5,vI x5)],[(2,mJ p0),(3,lW p1)]⟩
abbrev aWc:=fun p0 p1 x5 r=>Lok Tryz.prog 48 0 (PQ (fun y=>(vB y)) r) (cBl p0 p1 x5)
def bMr (p0:List (List aA)) (x3:List (List aA)) (x4:Int):St:=⟨[(0,.d (.sl 1 (p0.map (cSl 3 aB)))),(3,.osl 3 64 1 (x3.map (cSl 3 aB))),(4,vI x4)],[]⟩
abbrev aR9:=fun p0 x3 x4 (r:List (List aA))=>Lok Tryz.prog 53 0 (BQ Zj Zk r) (bMr p0 x3 x4)
def bP3 (p0:List (List aA)) (x3:List (List aA)) (x4:Int) (x5:Bool) (x6:Int):St:=⟨[(0,.d (.sl 1 (p0.map (cSl 3 aB)))),(3,.osl 3 64 1 (x3.map (cSl 3 aB))),(4,vI x4),(5,vB x5),(6,vI x6)],[]⟩
abbrev aVf:=fun p0 x3 x4 x5 x6 (r:List (List aA))=>Lok Tryz.prog 53 1 (BQ Zj Zk r) (bP3 p0 x3 x4 x5 x6)
def bOy (p0:List (List aA)) (x4:Int) (uL:List (List aA)):St:=⟨[(0,.d (.sl 1 (p0.map (cSl 3 aB)))),(3,.osl 3 64 1 (uL.map (cSl 3 aB))),(4,vI x4)],[]⟩
abbrev aS2:=fun p0 x4 uL (r:List (List aA))=>Jok Tryz.prog 53 6 (BQ Zj Zk r) (bOy p0 x4 uL)
def bKg (p0:List aA) (p1:List aA) (x5:Int):St:=⟨[(0,eP p0),(1,eP p1),(5,vI x5)],[]⟩
abbrev aWr:=fun p0 p1 x5 r=>Lok Tryz.prog 25 0 (PQ (fun y=>(vB y)) r) (bKg p0 p1 x5)

def bNy (p2:List (List aA)) (p3:List (List aA)) (p4:List aJ) (p0:aQ) (p1:GDb) (x12:List (List aA)) (x13:Int):St:=⟨[(2,.d (.sl 1 (p2.map (cSl 3 aB)))),(3,.d (.sl 1 (p3.map (cSl 3 aB)))),(4,fH p4),(5,.ptr 5 0),(6,.ptr 6 0),(12,.osl 12 64 1 (x12.map (cSl 3 aB))),(13,vI x13)],[(5,dN p0),(6,mJ p1)]⟩
abbrev aWj:=fun p2 p3 p4 p0 p1 x12 x13 (r:(List (List aA))×Int)=>Lok Tryz.prog 52 0 (BQ Zn Zo r) (bNy p2 p3 p4 p0 p1 x12 x13)
def bT9 (p2:List (List aA)) (p3:List (List aA)) (p4:List aJ) (x12:List (List aA)) (x13:Int) (p0:aQ) (kp1:GDb×(List aA)×Int):St:=⟨[(2,.d (.sl 1 (p2.map (cSl 3 aB)))),(3,.d (.sl 1 (p3.map (cSl 3 aB)))),(4,fH p4),(5,.ptr 5 0),(6,.ptr 6 0),(12,.osl 12 64 1 (x12.map (cSl 3 aB))),(13,vI x13),(14,.osl 14 43 3 (kp1.2.1.map aB)),(15,vI kp1.2.2)],[(5,dN p0),(6,mJ kp1.1)]⟩
abbrev aUx:=fun p2 p3 p4 x12 x13 p0 kp1 (r:(List (List aA))×Int)=>Lok Tryz.prog 52 1 (BQ Zn Zo r) (bT9 p2 p3 p4 x12 x13 p0 kp1)
def cA1 (p2:List (List aA)) (p4:List aJ) (p0:aQ) (p1:GDb) (x3:List (List aA)) (x12:Int):St:=⟨[(2,.d (.sl 1 (p2.map (cSl 3 aB)))),(3,.d (.sl 1 (x3.map (cSl 3 aB)))),(4,fH p4),(5,.ptr 5 0),(6,.ptr 6 0),(12,vI x12)],[(5,dN p0),(6,mJ p1)]⟩
abbrev aX6:=fun p2 p4 p0 p1 x3 x12 (r:(List (List aA))×Int)=>Lok Tryz.prog 50 0 (PQ (fun y=>(.tup [.d (.sl 1 (y.1.map (cSl 3 aB))),vI y.2])) r) (cA1 p2 p4 p0 p1 x3 x12)
def bOa (p2:List (List aA)) (x3:List (List aA)) (p4:List aJ) (x12:Int) (p0:aQ) (p1:GDb) (kx13:(List (List aA))×Int):St:=⟨[(2,.d (.sl 1 (p2.map (cSl 3 aB)))),(3,.d (.sl 1 (x3.map (cSl 3 aB)))),(4,fH p4),(5,.ptr 5 0),(6,.ptr 6 0),(12,vI x12),(13,.osl 13 64 1 (kx13.1.map (cSl 3 aB))),(14,vI kx13.2)],[(5,dN p0),(6,mJ p1)]⟩
abbrev aTb:=fun p2 x3 p4 x12 p0 p1 kx13 (r:(List (List aA))×Int)=>Lok Tryz.prog 50 1 (PQ (fun y=>(.tup [.d (.sl 1 (y.1.map (cSl 3 aB))),vI y.2])) r) (bOa p2 x3 p4 x12 p0 p1 kx13)
def bR1 (p2:List (List aA)) (x3:List (List aA)) (p4:List aJ) (x12:Int) (x14:Int) (p0:aQ) (kp1:GDb×(List (List aA))):St:=⟨[(2,.d (.sl 1 (p2.map (cSl 3 aB)))),(3,.d (.sl 1 (x3.map (cSl 3 aB)))),(4,fH p4),(5,.ptr 5 0),(6,.ptr 6 0),(12,vI x12),(13,.osl 13 64 1 (kp1.2.map (cSl 3 aB))),(14,vI x14)],[(5,dN p0),(6,mJ kp1.1)]⟩
abbrev aT7:=fun p2 x3 p4 x12 x14 p0 kp1 (r:(List (List aA))×Int)=>Jok Tryz.prog 50 11 (PQ (fun y=>(.tup [.d (.sl 1 (y.1.map (cSl 3 aB))),vI y.2])) r) (bR1 p2 x3 p4 x12 x14 p0 kp1)

def bW6 (p2:List (List aA)) (p0:aQ) (p1:GDb) (p3:aP) (x10:List (List aA)) (x11:Int):St:=⟨[(2,.d (.sl 1 (p2.map (cSl 3 aB)))),(4,.ptr 4 0),(5,.ptr 5 0),(7,.ptr 7 0),(10,.d (.sl 1 (x10.map (cSl 3 aB)))),(11,vI x11)],[(4,dN p0),(5,mJ p1),(7,lW p3)]⟩
abbrev aWw:=fun p2 p0 p1 p3 x10 x11 (r:(List (List aA))×Int)=>Lok Tryz.prog 49 0 (PQ (fun y=>(.tup [.d (.sl 1 (y.1.map (cSl 3 aB))),vI y.2])) r) (bW6 p2 p0 p1 p3 x10 x11)
def bQ4 (p2:List (List aA)) (x10:List (List aA)) (x11:Int) (y2:fJ) (p0:aQ) (p1:GDb) (kp3q:aP×(((List (List aA))×Int))):St:=⟨[(2,.d (.sl 1 (p2.map (cSl 3 aB)))),(4,.ptr 4 0),(5,.ptr 5 0),(7,.ptr 7 0),(10,.d (.sl 1 (x10.map (cSl 3 aB)))),(11,vI x11),(12,.d (.sl 1 (y2.rows.map (cSl 3 aB)))),(13,.osl 13 64 1 (kp3q.2.1.map (cSl 3 aB))),(14,vI kp3q.2.2)],[(4,dN p0),(5,mJ p1),(7,lW kp3q.1)]⟩
abbrev aU8:=fun p2 x10 x11 y2 p0 p1 kp3q (r:(List (List aA))×Int)=>Lok Tryz.prog 49 1 (PQ (fun y=>(.tup [.d (.sl 1 (y.1.map (cSl 3 aB))),vI y.2])) r) (bQ4 p2 x10 x11 y2 p0 p1 kp3q)
def bJg (p2:List (List aA)) (x10:List (List aA)) (x11:Int) (y2:fJ) (x14:Int) (p0:aQ) (kp1:GDb×aP×(((List (List aA))×Int))):St:=⟨[(2,.d (.sl 1 (p2.map (cSl 3 aB)))),(4,.ptr 4 0),(5,.ptr 5 0),(7,.ptr 7 0),(10,.d (.sl 1 (x10.map (cSl 3 aB)))),(11,vI x11),(12,.d (.sl 1 (y2.rows.map (cSl 3 aB)))),(13,.osl 13 64 1 (kp1.2.2.1.map (cSl 3 aB))),(14,vI x14),(15,vI kp1.2.2.2)],[(4,dN p0),(5,mJ kp1.1),(7,lW kp1.2.1)]⟩
abbrev aU0:=fun p2 x10 x11 y2 x14 p0 kp1 (r:(List (List aA))×Int)=>Lok Tryz.prog 49 2 (PQ (fun y=>(.tup [.d (.sl 1 (y.1.map (cSl 3 aB))),vI y.2])) r) (bJg p2 x10 x11 y2 x14 p0 kp1)

def cAw (y1:List aJ) (x3:Int) (x5:Int):St:=⟨[(3,vI x3),(4,.osl 4 47 10 (y1.map aV)),(5,vI x5)],[]⟩
abbrev aZ3:=fun y1 x3 x5 r=>Lok Tryz.prog 21 0 (PQ (fun y=>(vI y)) r) (cAw y1 x3 x5)
def bTl (p0:aJ) (x3:Int) (x4:Int):St:=⟨[(1,.ptr 1 0),(3,vI x3),(4,vI x4)],[(1,uO p0)]⟩
abbrev aSe:=fun p0 x3 x4 r=>Lok Tryz.prog 61 0 (PQ (fun y=>(vI y)) r) (bTl p0 x3 x4)
def bV8 (p0:aJ) (sF:Int) (x5:Int):St:=⟨[(1,.ptr 1 0),(3,vI sF),(5,vI x5)],[(1,uO p0)]⟩
abbrev aTg:=fun p0 sF x5 r=>Lok Tryz.prog 61 1 (PQ (fun y=>(vI y)) r) (bV8 p0 sF x5)
def bU6 (p0:aP) (x3:List aJ) (x4:Int):St:=⟨[(1,.ptr 1 0),(3,.osl 3 47 10 (x3.map aV)),(4,vI x4)],[(1,lW p0)]⟩
abbrev aSv:=fun p0 x3 x4 (r:List aJ)=>Lok Tryz.prog 58 0 (BQ Z1 Z2 r) (bU6 p0 x3 x4)
def bLw (p0:aP) (eZ:List aJ) (x5:Int):St:=⟨[(1,.ptr 1 0),(3,.osl 3 47 10 (eZ.map aV)),(5,vI x5)],[(1,lW p0)]⟩
abbrev aQ6:=fun p0 eZ x5 (r:List aJ)=>Lok Tryz.prog 58 1 (BQ Z1 Z2 r) (bLw p0 eZ x5)
def bYd (p1:List (List Int)) (p0:aQ) (p2:aP) (x8:Int):St:=⟨[(1,.d (.sl 1 (p1.map (cSl 1 cI)))),(3,.ptr 3 0),(5,.ptr 5 0),(8,vI x8)],[(3,dN p0),(5,lW p2)]⟩
abbrev aXw:=fun p1 p0 p2 x8 (r:(List Int)×Bool)=>Lok Tryz.prog 22 0 (BQ Za Zc r) (bYd p1 p0 p2 x8)
def cAy (y8:List (List Int)) (p0:aQ) (p2:aP) (x14:Int):St:=⟨[(3,.ptr 3 0),(5,.ptr 5 0),(13,.osl 13 30 1 (y8.map (cSl 1 cI))),(14,vI x14)],[(3,dN p0),(5,lW p2)]⟩
abbrev aVo:=fun y8 p0 p2 x14 (r:(List Int)×Bool)=>Lok Tryz.prog 22 1 (BQ Za Zc r) (cAy y8 p0 p2 x14)
def bLm (y8:List (List Int)) (p0:aQ) (p2:aP) (x17:List Int) (x18:Int):St:=⟨[(3,.ptr 3 0),(5,.ptr 5 0),(13,.osl 13 30 1 (y8.map (cSl 1 cI))),(17,.osl 17 3 1 (x17.map cI)),(18,vI x18)],[(3,dN p0),(5,lW p2)]⟩
abbrev aTy:=fun y8 p0 p2 x17 x18 (r:(List Int)×Bool)=>Lok Tryz.prog 22 2 (BQ Za Zc r) (bLm y8 p0 p2 x17 x18)

def cAz (p1:List (List Int)) (p2:List aJ) (p0:aQ) (x7:Int):St:=⟨[(1,.d (.sl 1 (p1.map (cSl 1 cI)))),(2,fH p2),(3,.ptr 3 0),(7,vI x7)],[(3,dN p0)]⟩
abbrev aUf:=fun p1 p2 p0 x7 r=>Lok Tryz.prog 64 0 (PQ (fun y=>(vB y)) r) (cAz p1 p2 p0 x7)

def bJp (p1:List (List Int)) (p0:aQ) (p2:aJ) (x8:List Int) (x9:Int):St:=⟨[(1,.d (.sl 1 (p1.map (cSl 1 cI)))),(3,.ptr 3 0),(5,.ptr 5 0),(8,.osl 8 3 1 (x8.map cI)),(9,vI x9)],[(3,dN p0),(5,uO p2)]⟩
abbrev aXs:=fun p1 p0 p2 x8 x9 (r:Int×Bool)=>Lok Tryz.prog 66 0 (PQ (fun y=>(.tup [vI y.1,vB y.2])) r) (bJp p1 p0 p2 x8 x9)
def bTm (p2:aJ) (O1:List Int):St:=⟨[(5,.ptr 5 0),(8,.osl 8 3 1 (O1.map cI))],[(5,uO p2)]⟩
abbrev bWa:=fun p2 O1 (r:Int×Bool)=>Jok Tryz.prog 66 27 (PQ (fun y=>(.tup [vI y.1,vB y.2])) r) (bTm p2 O1)
def bMp (p0:aJ) (y3:List eO) (y4:List jJ) (nN:List UInt8):St:=⟨[(3,.ptr 3 0)],[(3,bS4 (eO.mk p0.kind p0.op p0.not_ p0.value [] nN y3 y4))]⟩
abbrev bPr:=fun p0 y3 y4 nN r=>Jok Tryz.prog 98 5 (PQ (fun y=>(vB y)) r) (bMp p0 y3 y4 nN)



def bTh (p0:List Int) (x3:Int) (x4:Int):St:=⟨[(0,fU p0),(3,vI x3),(4,vI x4)],[]⟩
abbrev aYz:=fun p0 x3 x4 r=>Lok Tryz.prog 102 0 (PQ (fun y=>(vB y)) r) (bTh p0 x3 x4)



def bW4 (p1:Int) (p2:Int) (x10:Int):St:=⟨[(1,vI p1),(2,vI p2),(10,vI x10)],[]⟩
abbrev cE1:=fun p1 p2 x10 (r:Int×Bool)=>Jok Tryz.prog 100 12 (PQ (fun y=>(.tup [vI y.1,vB y.2])) r) (bW4 p1 p2 x10)


def bOr (p0:aQ) (p1:aP) (x5:Int):St:=⟨[(2,.ptr 2 0),(3,.ptr 3 0),(5,vI x5)],[(2,dN p0),(3,lW p1)]⟩
abbrev aSa:=fun p0 p1 x5 r=>Lok Tryz.prog 62 0 (PQ (fun y=>(vB y)) r) (bOr p0 p1 x5)
def bJ6 (p0:aQ) (p1:aP) (x6:Int):St:=⟨[(2,.ptr 2 0),(3,.ptr 3 0),(6,vI x6)],[(2,dN p0),(3,lW p1)]⟩
abbrev aSw:=fun p0 p1 x6 r=>Lok Tryz.prog 62 1 (PQ (fun y=>(vB y)) r) (bJ6 p0 p1 x6)
def bMi (p1:List Int) (p0:aQ) (x6:List Int) (x7:Int):St:=⟨[(1,fU p1),(2,.ptr 2 0),(6,.osl 6 3 1 (x6.map cI)),(7,vI x7)],[(2,dN p0)]⟩
abbrev aTo:=fun p1 p0 x6 x7 (r:(List Int)×Bool)=>Lok Tryz.prog 63 0 (BQ Za Zc r) (bMi p1 p0 x6 x7)
def bSp (y1:List aJ) (x3:Int) (x5:Int):St:=⟨[(3,vI x3),(4,.osl 4 47 10 (y1.map aV)),(5,vI x5)],[]⟩
abbrev aT2:=fun y1 x3 x5 r=>Lok Tryz.prog 20 0 (PQ (fun y=>(vI y)) r) (bSp y1 x3 x5)

def bLc (p0:aJ) (x3:Int) (x4:Int):St:=⟨[(1,.ptr 1 0),(3,vI x3),(4,vI x4)],[(1,uO p0)]⟩
abbrev aS0:=fun p0 x3 x4 r=>Lok Tryz.prog 60 0 (PQ (fun y=>(vI y)) r) (bLc p0 x3 x4)
def bXq (p0:aJ) (eZ:Int) (x5:Int):St:=⟨[(1,.ptr 1 0),(3,vI eZ),(5,vI x5)],[(1,uO p0)]⟩
abbrev aQf:=fun p0 eZ x5 r=>Lok Tryz.prog 60 1 (PQ (fun y=>(vI y)) r) (bXq p0 eZ x5)
def bPw (p0:List (List aA)) (p1:List (List aA)) (x5:Int):St:=⟨[(0,.d (.sl 1 (p0.map (cSl 3 aB)))),(1,.d (.sl 1 (p1.map (cSl 3 aB)))),(5,vI x5)],[]⟩
abbrev bA6:=fun p0 p1 x5 r=>Lok Tryz.prog 11 0 (PQ (fun y=>(vB y)) r) (bPw p0 p1 x5)




def bT0 (p0:aL) (x3:Int) (dJ:Int):St:=⟨[(3,vI x3)],[(241,aZ (aL.mk p0.b dJ (QA .i64 ((QA .i64 (p0.h * 6364136223846793005))+1442695040888963407))))]⟩
abbrev Zu (y:Int×aL):List (Nat×List V):=[(241,aZ y.2)]
abbrev Zt (y:Int×aL):V:=(vI y.1)
abbrev bRx:=fun p0 x3 dJ (r:Int×aL)=>Jok Tryz.prog 70 3 (BQ Zt Zu r) (bT0 p0 x3 dJ)
def cBx (p1:Int) (y1:aQ×aL) (x7:List Int) (dV:List Int) (dJ:Int) (dU:Int):St:=⟨[(0,.ptr 241 0),(1,vI p1),(4,.ptr 4 0),(5,.ptr 5 0),(6,.ptr 6 0),(7,.osl 7 3 1 (x7.map cI))],[(4,[.nil 2]),(5,[.nil 1,.nil 1,.nil 10,.nil 11,.nil 10,.nil 1,vB false,vI 0]),(6,dN y1.1),(241,aZ (aL.mk dV dJ dU))]⟩
abbrev Zw (y:aQ×aP×aL):List (Nat×List V):=[(271,[.trc 1 (y.2.1.tables.map cI)]),(272,[.trc 1 (y.2.1.on_.map (cSl 10 aV))]),(273,[.trc 10 (y.2.1.where_.map aV)]),(274,[.trc 11 (y.2.1.order.map jA)]),(275,[.trc 10 (y.2.1.items.map aV)]),(276,[.trc 1 (y.2.1.names.map cStr)]),(241,aZ y.2.2)]
abbrev Zv (y:aQ×aP×aL):V:=(.tup [cK y.1,.agv [.tre 271,.tre 272,.tre 273,.tre 274,.tre 275,.tre 276,vB y.2.1.distinct,vI y.2.1.limit]])
abbrev bL6:=fun p1 y1 x7 dV dJ dU (r:aQ×aP×aL)=>Jok Tryz.prog 27 3 (BQ Zv Zw r) (cBx p1 y1 x7 dV dJ dU)

def cCq (p2:List (List Int)) (p3:List Int) (p4:Int) (y2:Int×aL) (p1:aQ) (y1:Bool×aL) (kx13:Int×(List Int)×Int×Int×(((List (List aJ))×(List Int)))):St:=⟨[(0,.ptr 241 0),(2,.d (.sl 1 (p2.map (cSl 1 cI)))),(3,fU p3),(4,vI p4),(6,.ptr 6 0),(10,.ptr 10 0),(11,.ptr 11 0),(12,vI (QA .i64 (1+y2.1))),(13,vI kx13.1)],[(6,dN p1),(10,[.nil 1,.nil 1,.nil 10,.nil 11,.nil 10,.nil 1,vB false,vI 0]),(11,[.tre 347,.tre 348,.nil 10,.nil 11,.nil 10,.nil 1,vB y1.1,vI (-1)]),(241,aZ (aL.mk kx13.2.1 kx13.2.2.1 kx13.2.2.2.1)),(348,[.trc 1 (kx13.2.2.2.2.1.map (cSl 10 aV))]),(347,[.trc 1 (kx13.2.2.2.2.2.map cI)])]⟩
abbrev Zy (y:aP×aL):List (Nat×List V):=[(263,[.trc 1 (y.1.tables.map cI)]),(264,[.trc 1 (y.1.on_.map (cSl 10 aV))]),(265,[.trc 10 (y.1.where_.map aV)]),(266,[.trc 11 (y.1.order.map jA)]),(267,[.trc 10 (y.1.items.map aV)]),(268,[.trc 1 (y.1.names.map cStr)]),(241,aZ y.2)]
abbrev Zx (y:aP×aL):V:=(.agv [.tre 263,.tre 264,.tre 265,.tre 266,.tre 267,.tre 268,vB y.1.distinct,vI y.1.limit])
abbrev aY9:=fun p2 p3 p4 y2 p1 y1 kx13 (r:aP×aL)=>Lok Tryz.prog 69 0 (BQ Zx Zy r) (cCq p2 p3 p4 y2 p1 y1 kx13)
def bXy (p2:List (List Int)) (p3:List Int) (p4:Int) (y2:Int×aL) (x13:Int) (p1:aQ) (y1:Bool×aL) (ky4:(List Int)×(((List (List aJ))×(List Int)×Int×Int×(List aJ)))):St:=⟨[(0,.ptr 241 0),(2,.d (.sl 1 (p2.map (cSl 1 cI)))),(3,fU p3),(4,vI p4),(6,.ptr 6 0),(10,.ptr 10 0),(11,.ptr 11 0),(12,vI (QA .i64 (1+y2.1))),(13,vI x13),(16,.tre 365)],[(6,dN p1),(10,[.nil 1,.nil 1,.nil 10,.nil 11,.nil 10,.nil 1,vB false,vI 0]),(11,[.tre 366,.tre 367,.nil 10,.nil 11,.nil 10,.nil 1,vB y1.1,vI (-1)]),(241,aZ (aL.mk ky4.2.2.1 ky4.2.2.2.1 ky4.2.2.2.2.1)),(365,[.trc 10 (ky4.2.2.2.2.2.map aV)]),(366,[.trc 1 (ky4.1.map cI)]),(367,[.trc 1 (ky4.2.1.map (cSl 10 aV))])]⟩
abbrev aRz:=fun p2 p3 p4 y2 x13 p1 y1 ky4 (r:aP×aL)=>Jok Tryz.prog 69 11 (BQ Zx Zy r) (bXy p2 p3 p4 y2 x13 p1 y1 ky4)
def cCo (p3:List Int) (p4:Int) (y15:List (List Int)) (p1:aQ) (y1:Bool×aL) (gG:List (List aJ)) (gH:List Int) (kx20:Int×(List Int)×Int×Int×(((List (List UInt8))×(List aJ)))):St:=⟨[(0,.ptr 241 0),(3,fU p3),(4,vI p4),(6,.ptr 6 0),(10,.ptr 10 0),(11,.ptr 11 0),(19,.osl 19 30 1 (y15.map (cSl 1 cI))),(20,vI kx20.1)],[(6,dN p1),(10,[.nil 1,.nil 1,.nil 10,.nil 11,.nil 10,.nil 1,vB false,vI 0]),(11,[.tre 368,.tre 369,.nil 10,.nil 11,.tre 370,.tre 371,vB y1.1,vI (-1)]),(241,aZ (aL.mk kx20.2.1 kx20.2.2.1 kx20.2.2.2.1)),(371,[.trc 1 (kx20.2.2.2.2.1.map cStr)]),(370,[.trc 10 (kx20.2.2.2.2.2.map aV)]),(369,[.trc 1 (gG.map (cSl 10 aV))]),(368,[.trc 1 (gH.map cI)])]⟩
abbrev aU5:=fun p3 p4 y15 p1 y1 gG gH kx20 (r:aP×aL)=>Lok Tryz.prog 69 1 (BQ Zx Zy r) (cCo p3 p4 y15 p1 y1 gG gH kx20)
def cCf (p4:Int) (y15:List (List Int)) (p1:aQ) (y1:Bool×aL) (gJ:List (List UInt8)) (gI:List aJ) (jM:(List (List aJ))×(List Int)×(List Int)×Int×Int×(List aJ)):St:=⟨[(0,.ptr 241 0),(4,vI p4),(6,.ptr 6 0),(10,.ptr 10 0),(11,.ptr 11 0),(19,.osl 19 30 1 (y15.map (cSl 1 cI)))],[(6,dN p1),(10,[.nil 1,.nil 1,.nil 10,.nil 11,.nil 10,.nil 1,vB false,vI 0]),(11,[.tre 373,.tre 374,.tre 375,.nil 11,.tre 376,.tre 377,vB y1.1,vI (-1)]),(241,aZ (aL.mk jM.2.2.1 jM.2.2.2.1 jM.2.2.2.2.1)),(375,[.trc 10 (jM.2.2.2.2.2.map aV)]),(377,[.trc 1 (gJ.map cStr)]),(376,[.trc 10 (gI.map aV)]),(374,[.trc 1 (jM.1.map (cSl 10 aV))]),(373,[.trc 1 (jM.2.1.map cI)])]⟩
abbrev aTx:=fun p4 y15 p1 y1 gJ gI jM (r:aP×aL)=>Jok Tryz.prog 69 21 (BQ Zx Zy r) (cCf p4 y15 p1 y1 gJ gI jM)
def cBk (y1:Bool×aL) (nC:List aJ) (gJ:List (List UInt8)) (gI:List aJ) (gG:List (List aJ)) (gH:List Int) (aA3:List Int) (X4:Int) (Y9:Int) (nH:List dD):St:=⟨[(0,.ptr 241 0),(10,.ptr 10 0),(11,.ptr 11 0)],[(10,[.nil 1,.nil 1,.nil 10,.nil 11,.nil 10,.nil 1,vB false,vI 0]),(11,[.tre 378,.tre 379,.tre 380,.tre 381,.tre 382,.tre 383,vB y1.1,vI (-1)]),(241,aZ (aL.mk aA3 X4 Y9)),(381,[.trc 11 (nH.map jA)]),(380,[.trc 10 (nC.map aV)]),(383,[.trc 1 (gJ.map cStr)]),(382,[.trc 10 (gI.map aV)]),(379,[.trc 1 (gG.map (cSl 10 aV))]),(378,[.trc 1 (gH.map cI)])]⟩
abbrev bPm:=fun y1 nC gJ gI gG gH aA3 X4 Y9 nH (r:aP×aL)=>Jok Tryz.prog 69 23 (BQ Zx Zy r) (cBk y1 nC gJ gI gG gH aA3 X4 Y9 nH)
def cAc (y1:Bool×aL) (nH:List dD) (nC:List aJ) (gJ:List (List UInt8)) (gI:List aJ) (gG:List (List aJ)) (gH:List Int) (zQ:Int) (zH:List Int) (I1:Int) (yK:Int):St:=⟨[(10,.ptr 10 0),(11,.ptr 11 0)],[(10,[.nil 1,.nil 1,.nil 10,.nil 11,.nil 10,.nil 1,vB false,vI 0]),(11,[.tre 384,.tre 385,.tre 386,.tre 387,.tre 388,.tre 389,vB y1.1,vI zQ]),(241,aZ (aL.mk zH I1 yK)),(387,[.trc 11 (nH.map jA)]),(386,[.trc 10 (nC.map aV)]),(389,[.trc 1 (gJ.map cStr)]),(388,[.trc 10 (gI.map aV)]),(385,[.trc 1 (gG.map (cSl 10 aV))]),(384,[.trc 1 (gH.map cI)])]⟩
abbrev cDd:=fun y1 nH nC gJ gI gG gH zQ zH I1 yK (r:aP×aL)=>Jok Tryz.prog 69 25 (BQ Zx Zy r) (cAc y1 nH nC gJ gI gG gH zQ zH I1 yK)


def bMy (p2:List (List Int)) (p3:Int) (p4:Int) (p5:Int) (p1:aQ) (x14:Int) (jE:(List Int)×Int×Int×(List aJ)):St:=⟨[(0,.ptr 241 0),(2,.d (.sl 1 (p2.map (cSl 1 cI)))),(3,vI p3),(4,vI p4),(5,vI p5),(7,.ptr 7 0),(13,.tre 344),(14,vI x14)],[(7,dN p1),(241,aZ (aL.mk jE.1 jE.2.1 jE.2.2.1)),(344,[.trc 10 (jE.2.2.2.map aV)])]⟩
abbrev ZA (y:(List aJ)×aL):List (Nat×List V):=[(263,[.trc 10 (y.1.map aV)]),(241,aZ y.2)]
abbrev Zz (y:(List aJ)×aL):V:=(.tre 263)
abbrev aSj:=fun p2 p3 p4 p5 p1 x14 jE (r:(List aJ)×aL)=>Lok Tryz.prog 151 0 (BQ Zz ZA r) (bMy p2 p3 p4 p5 p1 x14 jE)
def bTq (p2:List (List Int)) (p3:Int) (y1:Int×aL) (y2:Bool×aL) (y3:Int×aL) (p1:aQ) (x18:Bool):St:=⟨[(0,.ptr 241 0),(2,.d (.sl 1 (p2.map (cSl 1 cI)))),(3,vI p3),(5,.ptr 5 0),(8,.ptr 8 0),(9,vI (QA .i64 (1+y1.1))),(10,vB y2.1),(17,vI y3.1),(18,vB x18)],[(5,dN p1),(8,[vI 0,vI 0,vB false,vI 0,vI 0,vS [],vI 0,vI 0,.nil 10,.nil 8]),(241,aZ y3.2)]⟩
abbrev ZB (y:aJ×aL):V:=(.agv [vI y.1.kind,vI y.1.op,vB y.1.not_,vI y.1.value.kind,vI y.1.value.num,vS y.1.value.text,vI y.1.up,vI y.1.at_,.tre 269,.tre 270])
abbrev ZC (y:aJ×aL):List (Nat×List V):=[(269,[.trc 10 (y.1.kids.map aV)]),(270,[.trc 8 (y.1.sub.map eQ)]),(241,aZ y.2)]
abbrev aZ2:=fun p2 p3 y1 y2 y3 p1 x18 (r:aJ×aL)=>Jok Tryz.prog 152 5 (BQ ZB ZC r) (bTq p2 p3 y1 y2 y3 p1 x18)
def cA7 (p2:List (List Int)) (p3:Int) (y1:Int×aL) (p1:aQ) (y3:Int×aL):St:=⟨[(0,.ptr 241 0),(2,.d (.sl 1 (p2.map (cSl 1 cI)))),(3,vI p3),(5,.ptr 5 0),(8,.ptr 8 0),(9,vI (QA .i64 (1+y1.1)))],[(5,dN p1),(8,[vI 0,vI 0,vB false,vI 0,vI 0,vS [],vI 0,vI 0,.nil 10,.nil 8]),(241,aZ y3.2)]⟩
abbrev aXo:=fun p2 p3 y1 p1 y3 (r:aJ×aL)=>Jok Tryz.prog 152 3 (BQ ZB ZC r) (cA7 p2 p3 y1 p1 y3)
def bOv (y1:aA×aL) (aAb:Int) (dV:List Int) (dJ:Int) (dU:Int):St:=⟨[(4,.ptr 4 0),(5,.ptr 5 0)],[(4,[vI 0,vI 0,vS []]),(5,vL (aA.mk y1.1.kind aAb y1.1.text)),(241,aZ (aL.mk dV dJ dU))]⟩
abbrev ZE (y:aA×aL):List (Nat×List V):=[(241,aZ y.2)]
abbrev ZD (y:aA×aL):V:=(bN y.1)
abbrev cA8:=fun y1 aAb dV dJ dU (r:aA×aL)=>Jok Tryz.prog 149 2 (BQ ZD ZE r) (bOv y1 aAb dV dJ dU)



def bJ8 (p1:List (List Int)) (p2:Int) (x7:Int) (x9:Int) (qW:Int) (qZ:Int) (pY:Int) (gN:(List UInt8)×Int×Int×(List Int)×Int×Int):St:=⟨[(0,.ptr 241 0),(1,.d (.sl 1 (p1.map (cSl 1 cI)))),(2,vI p2),(6,.ptr 6 0),(7,vI x7),(8,.ptr 8 0),(9,vI x9)],[(6,[vI 0,vI 0,vB false,vI 0,vI 0,vS [],vI 0,vI 0,.nil 10,.nil 8]),(8,[vI qW,vI 0,vB false,vI qZ,vI pY,vS gN.1,vI gN.2.1,vI gN.2.2.1,.nil 10,.nil 8]),(241,aZ (aL.mk gN.2.2.2.1 gN.2.2.2.2.1 gN.2.2.2.2.2))]⟩
abbrev aR1:=fun p1 p2 x7 x9 qW qZ pY gN (r:aJ×aL)=>Lok Tryz.prog 150 0 (BQ ZB ZC r) (bJ8 p1 p2 x7 x9 qW qZ pY gN)
def cDp (p1:List (List Int)) (p2:Int) (x9:Int) (oI:Int) (x10:Int) (qB:Int) (rA:Int) (rF:Int) (gL:(List UInt8)×Int×Int×(List Int)×Int×Int):St:=⟨[(0,.ptr 241 0),(1,.d (.sl 1 (p1.map (cSl 1 cI)))),(2,vI p2),(6,.ptr 6 0),(7,vI oI),(8,.ptr 8 0),(9,vI x9),(10,vI x10)],[(6,[vI 0,vI 0,vB false,vI 0,vI 0,vS [],vI 0,vI 0,.nil 10,.nil 8]),(8,[vI qB,vI 0,vB false,vI rA,vI rF,vS gL.1,vI gL.2.1,vI gL.2.2.1,.nil 10,.nil 8]),(241,aZ (aL.mk gL.2.2.2.1 gL.2.2.2.2.1 gL.2.2.2.2.2))]⟩
abbrev aT4:=fun p1 p2 x9 oI x10 qB rA rF gL (r:aJ×aL)=>Lok Tryz.prog 150 1 (BQ ZB ZC r) (cDp p1 p2 x9 oI x10 qB rA rF gL)
def bWm (p1:List (List Int)) (p2:Int) (x9:Int) (x10:Int) (uI:Int) (tH:Int) (uF:Int) (tC:Int) (kX:(List UInt8)×Int×Int×(List Int)×Int×Int):St:=⟨[(0,.ptr 241 0),(1,.d (.sl 1 (p1.map (cSl 1 cI)))),(2,vI p2),(6,.ptr 6 0),(7,vI uI),(8,.ptr 8 0),(9,vI x9),(10,vI x10)],[(6,[vI 0,vI 0,vB false,vI 0,vI 0,vS [],vI 0,vI 0,.nil 10,.nil 8]),(8,[vI tH,vI 0,vB false,vI uF,vI tC,vS kX.1,vI kX.2.1,vI kX.2.2.1,.nil 10,.nil 8]),(241,aZ (aL.mk kX.2.2.2.1 kX.2.2.2.2.1 kX.2.2.2.2.2))]⟩
abbrev aU6:=fun p1 p2 x9 x10 uI tH uF tC kX (r:aJ×aL)=>Jok Tryz.prog 150 11 (BQ ZB ZC r) (bWm p1 p2 x9 x10 uI tH uF tC kX)
def cBh (y1:Int×aL) (x6:Int) (bV:List eD) (dV:List Int) (dJ:Int) (dU:Int):St:=⟨[(0,.ptr 241 0),(2,.ptr 2 0),(3,.ptr 3 0),(4,.osl 4 9 1 (([[116],[117],[118]]:List (List UInt8)).map cStr)),(5,vI (QA .i64 (1+y1.1))),(6,vI x6)],[(2,[.nil 2]),(3,[.osl 61 68 2 (bV.map lU)]),(241,aZ (aL.mk dV dJ dU))]⟩
abbrev ZG (y:aQ×aL):List (Nat×List V):=[(241,aZ y.2)]
abbrev ZF (y:aQ×aL):V:=(cK y.1)
abbrev aV4:=fun y1 x6 bV dV dJ dU (r:aQ×aL)=>Lok Tryz.prog 68 0 (BQ ZF ZG r) (cBh y1 x6 bV dV dJ dU)
def bOc (y1:Int×aL) (x6:Int) (y3:Int×aL) (bV:List eD) (y2:List UInt8) (x9:Int) (jU:(List gD)×(List Int)×Int×Int):St:=⟨[(0,.ptr 241 0),(2,.ptr 2 0),(3,.ptr 3 0),(4,.osl 4 9 1 (([[116],[117],[118]]:List (List UInt8)).map cStr)),(5,vI (QA .i64 (1+y1.1))),(6,vI x6),(7,.ptr 7 0),(8,vI (QA .i64 (1+y3.1))),(9,vI x9)],[(2,[.nil 2]),(3,[.osl 61 68 2 (bV.map lU)]),(7,[vS y2,.osl 55 108 2 (jU.1.map kR)]),(241,aZ (aL.mk jU.2.1 jU.2.2.1 jU.2.2.2))]⟩
abbrev aWm:=fun y1 x6 y3 bV y2 x9 jU (r:aQ×aL)=>Lok Tryz.prog 68 1 (BQ ZF ZG r) (bOc y1 x6 y3 bV y2 x9 jU)
def bLd (y1:Int×aL) (x6:Int) (y3:Int×aL) (x9:Int) (bV:List eD) (y2:List UInt8) (pO:List gD) (ky8:(Int×aL)×(List UInt8)×(List Int)×Int×Int):St:=⟨[(0,.ptr 241 0),(2,.ptr 2 0),(3,.ptr 3 0),(4,.osl 4 9 1 (([[116],[117],[118]]:List (List UInt8)).map cStr)),(5,vI (QA .i64 (1+y1.1))),(6,vI x6),(7,.ptr 7 0),(8,vI (QA .i64 (1+y3.1))),(9,vI x9),(10,.ptr 10 0)],[(2,[.nil 2]),(3,[.osl 61 68 2 (bV.map lU)]),(7,[vS y2,.osl 55 108 2 (pO.map kR)]),(10,bKr (gD.mk ky8.2.1 ky8.1.1)),(241,aZ (aL.mk ky8.2.2.1 ky8.2.2.2.1 ky8.2.2.2.2))]⟩
abbrev aWy:=fun y1 x6 y3 x9 bV y2 pO ky8 (r:aQ×aL)=>Jok Tryz.prog 68 17 (BQ ZF ZG r) (bLd y1 x6 y3 x9 bV y2 pO ky8)
def cDy (y1:Int×aL) (x6:Int) (y3:Int×aL) (x9:Int) (bV:List eD) (y2:List UInt8) (mV:(List Int)×Int×Int×(List gD)):St:=⟨[(0,.ptr 241 0),(2,.ptr 2 0),(3,.ptr 3 0),(4,.osl 4 9 1 (([[116],[117],[118]]:List (List UInt8)).map cStr)),(5,vI (QA .i64 (1+y1.1))),(6,vI x6),(7,.ptr 7 0),(8,vI (QA .i64 (1+y3.1))),(9,vI x9)],[(2,[.nil 2]),(3,[.osl 61 68 2 (bV.map lU)]),(7,[vS y2,.osl 55 108 2 (mV.2.2.2.map kR)]),(241,aZ (aL.mk mV.1 mV.2.1 mV.2.2.1))]⟩
abbrev aRp:=fun y1 x6 y3 x9 bV y2 mV (r:aQ×aL)=>Jok Tryz.prog 68 15 (BQ ZF ZG r) (cDy y1 x6 y3 x9 bV y2 mV)

def bQr (p1:aQ) (x6:Int) (dV:List Int) (dJ:Int) (dU:Int) (eU:List fJ):St:=⟨[(0,.ptr 241 0),(3,.ptr 3 0),(4,.ptr 4 0),(5,.ptr 5 0),(6,vI x6)],[(3,dN p1),(4,[.nil 1]),(5,[.tre 345]),(241,aZ (aL.mk dV dJ dU)),(345,[.trs 1 (eU.map jX)])]⟩
abbrev ZI (y:GDb×aL):List (Nat×List V):=[(263,[.trs 1 (y.1.tables.map jX)]),(241,aZ y.2)]
abbrev ZH (y:GDb×aL):V:=(.agv [.tre 263])
abbrev aRf:=fun p1 x6 dV dJ dU eU (r:GDb×aL)=>Lok Tryz.prog 30 0 (BQ ZH ZI r) (bQr p1 x6 dV dJ dU eU)
def bM7 (x6:Int) (y1:Int×aL) (p1:aQ) (eU:List fJ) (x9:Int) (fV:List (List aA)) (lK:(List Int)×Int×Int):St:=⟨[(0,.ptr 241 0),(3,.ptr 3 0),(4,.ptr 4 0),(5,.ptr 5 0),(6,vI x6),(7,.ptr 7 0),(8,vI y1.1),(9,vI x9)],[(3,dN p1),(4,[.nil 1]),(5,[.tre 356]),(7,[.osl 59 64 1 (fV.map (cSl 3 aB))]),(241,aZ (aL.mk lK.1 lK.2.1 lK.2.2)),(356,[.trs 1 (eU.map jX)])]⟩
abbrev aYd:=fun x6 y1 p1 eU x9 fV lK (r:GDb×aL)=>Lok Tryz.prog 30 1 (BQ ZH ZI r) (bM7 x6 y1 p1 eU x9 fV lK)
def bN3 (x6:Int) (y1:Int×aL) (x9:Int) (p1:aQ) (fV:List (List aA)) (eU:List fJ) (x10:List aA) (kx11:Int×(List Int)×Int×Int):St:=⟨[(0,.ptr 241 0),(3,.ptr 3 0),(4,.ptr 4 0),(5,.ptr 5 0),(6,vI x6),(7,.ptr 7 0),(8,vI y1.1),(9,vI x9),(10,.osl 10 43 3 (x10.map aB)),(11,vI kx11.1)],[(3,dN p1),(4,[.nil 1]),(5,[.tre 364]),(7,[.osl 59 64 1 (fV.map (cSl 3 aB))]),(241,aZ (aL.mk kx11.2.1 kx11.2.2.1 kx11.2.2.2)),(364,[.trs 1 (eU.map jX)])]⟩
abbrev aUa:=fun x6 y1 x9 p1 fV eU x10 kx11 (r:GDb×aL)=>Lok Tryz.prog 30 2 (BQ ZH ZI r) (bN3 x6 y1 x9 p1 fV eU x10 kx11)

def bVt (y1:aL×aQ×GDb×aP) (Q9:List Int) (U0:Int) (Y6:Int) (nI:List aJ):St:=⟨[(2,.ptr 2 0),(3,.ptr 3 0),(4,.ptr 4 0),(5,.ptr 11 0),(6,.ptr 6 0),(7,.ptr 7 0),(8,.ptr 8 0)],[(2,[.nil 2]),(3,[.nil 1]),(4,[.nil 1,.nil 1,.nil 10,.nil 11,.nil 10,.nil 1,vB false,vI 0]),(6,dN y1.2.1),(7,[.tre 349]),(8,[.tre 350,.tre 351,.tre 352,.tre 353,.tre 354,.tre 355,vB y1.2.2.2.distinct,vI y1.2.2.2.limit]),(11,aZ (aL.mk Q9 U0 Y6)),(349,[.trs 1 (y1.2.2.1.tables.map jX)]),(350,[.trc 1 (y1.2.2.2.tables.map cI)]),(351,[.trc 1 (y1.2.2.2.on_.map (cSl 10 aV))]),(352,[.trc 10 (y1.2.2.2.where_.map aV)]),(353,[.trc 11 (y1.2.2.2.order.map jA)]),(354,[.trc 10 (nI.map aV)]),(355,[.trc 1 (y1.2.2.2.names.map cStr)])]⟩
abbrev bMz:=fun y1 Q9 U0 Y6 nI (r:aQ×GDb×aP)=>Jok Tryz.prog 5 2 (PQ (fun y=>(.tup [cK y.1,iG y.2.1,fO y.2.2])) r) (bVt y1 Q9 U0 Y6 nI)
def bVc (y1:aL×aQ×GDb×aP) (nI:List aJ) (zJ:List fJ):St:=⟨[(2,.ptr 2 0),(3,.ptr 3 0),(4,.ptr 4 0),(6,.ptr 6 0),(7,.ptr 7 0),(8,.ptr 8 0)],[(2,[.nil 2]),(3,[.nil 1]),(4,[.nil 1,.nil 1,.nil 10,.nil 11,.nil 10,.nil 1,vB false,vI 0]),(6,dN y1.2.1),(7,[.tre 357]),(8,[.tre 358,.tre 359,.tre 360,.tre 361,.tre 362,.tre 363,vB y1.2.2.2.distinct,vI y1.2.2.2.limit]),(357,[.trs 1 (zJ.map jX)]),(358,[.trc 1 (y1.2.2.2.tables.map cI)]),(359,[.trc 1 (y1.2.2.2.on_.map (cSl 10 aV))]),(360,[.trc 10 (y1.2.2.2.where_.map aV)]),(361,[.trc 11 (y1.2.2.2.order.map jA)]),(362,[.trc 10 (nI.map aV)]),(363,[.trc 1 (y1.2.2.2.names.map cStr)])]⟩
abbrev bVi:=fun y1 nI zJ (r:aQ×GDb×aP)=>Jok Tryz.prog 5 4 (PQ (fun y=>(.tup [cK y.1,iG y.2.1,fO y.2.2])) r) (bVc y1 nI zJ)
def bYk (p1:aJ) (bV:Int) (jS:Int) (nQ:Bool) (F6:Int) (yH:Int) (H6:List UInt8) (I4:Int) (nN:Int) (dV:List Int) (dJ:Int) (dU:Int) (G5:List aP):St:=⟨[(3,.ptr 3 0),(4,.ptr 4 0)],[(3,[vI bV,vI jS,vB nQ,vI F6,vI yH,vS H6,vI I4,vI nN,.tre 245,.tre 368]),(4,[vI 0,vI 0,vB false,vI 0,vI 0,vS [],vI 0,vI 0,.nil 10,.nil 8]),(241,aZ (aL.mk dV dJ dU)),(245,[.trc 10 (p1.kids.map aV)]),(368,[.trc 8 (G5.map eQ)])]⟩
abbrev ZJ (y:aJ×aL):List (Nat×List V):=[(269,[.trc 10 (y.1.kids.map aV)]),(270,[.trc 8 (y.1.sub.map eQ)]),(241,aZ y.2),(245,[.trd]),(246,[.trd])]
abbrev bLf:=fun p1 bV jS nQ F6 yH H6 I4 nN dV dJ dU G5 (r:aJ×aL)=>Jok Tryz.prog 14 6 (BQ ZB ZJ r) (bYk p1 bV jS nQ F6 yH H6 I4 nN dV dJ dU G5)
def bZm (bV:Int) (jS:Int) (nQ:List UInt8) (dV:List Int) (dJ:Int) (dU:Int):St:=⟨[(2,.ptr 2 0),(3,.ptr 3 0)],[(2,[vI 0,vI 0,vS []]),(3,vL (aA.mk bV jS nQ)),(241,aZ (aL.mk dV dJ dU))]⟩
abbrev cCm:=fun bV jS nQ dV dJ dU (r:aA×aL)=>Jok Tryz.prog 32 2 (BQ ZD ZE r) (bZm bV jS nQ dV dJ dU)
def bZd (y1:aA×aL) (nT:List UInt8) (uE:List Int) (uB:Int) (tZ:Int):St:=⟨[(0,.ptr 241 0),(2,.ptr 2 0),(3,.ptr 3 0)],[(2,[vI 0,vI 0,vS []]),(3,vL (aA.mk y1.1.kind y1.1.num nT)),(241,aZ (aL.mk uE uB tZ))]⟩
abbrev aTn:=fun y1 nT uE uB tZ (r:aA×aL)=>Lok Tryz.prog 32 0 (BQ ZD ZE r) (bZd y1 nT uE uB tZ)

theorem bWv (x:gD) (h:∀ d∈kR x,OkD d):okGCol x:=⟨yA _ (dL h 0 1),mR _ (dL h 1 1)⟩
theorem bNl (x:eD) (h:∀ d∈lU x,OkD d):okGTable x:=⟨yA _ (dL h 0 1),mG _ (fun y hy=>bWv y hy) (dL h 1 1)⟩
theorem cHu (x:aQ) (h:∀ d∈qY x,OkD d):okGCatalog x:=mG _ (fun y hy=>bNl y hy) (dL h 0 1)
theorem F3 (x:aA) (h:∀ d∈aB x,OkD d):okGValue x:=⟨mR _ (dL h 0 1),mR _ (dL h 1 1),yA _ (dL h 2 1)⟩
theorem cCn (x:fJ) (h:∀ d∈jX x,OkD d):okGData x:=mG _ (fun y hy=>mG _ (fun y hy=>F3 y hy) hy) (dL h 0 1)
theorem cEb (x:GDb) (h:∀ d∈qF x,OkD d):okGDb x:=mG _ (fun y hy=>cCn y hy) (dL h 0 1)
mutual
theorem bBu:∀ x:aJ,(∀ d∈aV x,OkD d)→okGPExpr x
  | ⟨a0,a1,a2,a3,a4,a5,a6,a7⟩,h0=>by
    rw [lY] at h0
    have h:∀ d∈iM ⟨a0,a1,a2,a3,a4,a5,a6,a7⟩,OkD d:=h0
    unfold okGPExpr
    exact ⟨mR _ (dL h 0 1),mR _ (dL h 1 1),trivial,F3 a3 (dL h 3 3),mR _ (dL h 6 1),mR _ (dL h 7 1),⟨by simpa using (jL (dL h 8 1)).1,aK4 a6 (jL (dL h 8 1)).2⟩,⟨by simpa using (jL (dL h 9 1)).1,bJ1 a7 (jL (dL h 9 1)).2⟩⟩
theorem bWw:∀ x:dD,(∀ d∈jA x,OkD d)→okGPSort x
  | ⟨a0,a1⟩,h0=>by
    rw [aYf] at h0
    have h:∀ d∈aD2 ⟨a0,a1⟩,OkD d:=h0
    unfold okGPSort
    exact ⟨bBu a0 (by rw [lY]; exact (dL h 0 10)),trivial⟩
theorem bYi:∀ x:aP,(∀ d∈eQ x,OkD d)→okGPlan x
  | ⟨a0,a1,a2,a3,a4,a5,a6,a7⟩,h0=>by
    rw [aGa] at h0
    have h:∀ d∈zI ⟨a0,a1,a2,a3,a4,a5,a6,a7⟩,OkD d:=h0
    unfold okGPlan
    exact ⟨mG _ (fun y hy=>mR _ hy) (dL h 0 1),⟨by simpa using (jL (dL h 1 1)).1,bDs a1 (jL (dL h 1 1)).2⟩,⟨by simpa using (jL (dL h 2 1)).1,aK4 a2 (jL (dL h 2 1)).2⟩,⟨by simpa using (jL (dL h 3 1)).1,bGe a3 (jL (dL h 3 1)).2⟩,⟨by simpa using (jL (dL h 4 1)).1,aK4 a4 (jL (dL h 4 1)).2⟩,mG _ (fun y hy=>yA _ hy) (dL h 5 1),trivial,mR _ (dL h 7 1)⟩
theorem aK4:∀ l:List aJ,(∀ x∈l.map aV,∀ d∈x,OkD d)→okLGPExpr l
  | [],_=>by unfold okLGPExpr; trivial
  | x::l,h=>by
    unfold okLGPExpr
    exact ⟨bBu x (h _ (by simp)),aK4 l fun y hy=>h y (QE _ hy)⟩
theorem bGe:∀ l:List dD,(∀ x∈l.map jA,∀ d∈x,OkD d)→okLGPSort l
  | [],_=>by unfold okLGPSort; trivial
  | x::l,h=>by
    unfold okLGPSort
    exact ⟨bWw x (h _ (by simp)),bGe l fun y hy=>h y (QE _ hy)⟩
theorem bJ1:∀ l:List aP,(∀ x∈l.map eQ,∀ d∈x,OkD d)→okLGPlan l
  | [],_=>by unfold okLGPlan; trivial
  | x::l,h=>by
    unfold okLGPlan
    exact ⟨bYi x (h _ (by simp)),bJ1 l fun y hy=>h y (QE _ hy)⟩
theorem bDs:∀ l:List (List aJ),(∀ x∈l.map (cSl 10 aV),∀ d∈x,OkD d)→okLLGPExpr l
  | [],_=>by unfold okLLGPExpr; trivial
  | x::l,h=>by
    unfold okLLGPExpr
    have h1:∀ d∈cSl 10 aV x,OkD d:=h _ (by simp)
    exact ⟨⟨by simpa using (jL h1).1,aK4 x (jL h1).2⟩,bDs l fun y hy=>h y (QE _ hy)⟩
end
mutual
theorem aSs:∀ x:eO,(∀ d∈qC x,OkD d)→okGExpr x
  | ⟨a0,a1,a2,a3,a4,a5,a6,a7⟩,h0=>by
    rw [aEi] at h0
    have h:∀ d∈M4 ⟨a0,a1,a2,a3,a4,a5,a6,a7⟩,OkD d:=h0
    unfold okGExpr
    exact ⟨mR _ (dL h 0 1),mR _ (dL h 1 1),trivial,F3 a3 (dL h 3 3),yA _ (dL h 6 1),yA _ (dL h 7 1),⟨by simpa using (jL (dL h 8 1)).1,aOy a6 (jL (dL h 8 1)).2⟩,⟨by simpa using (jL (dL h 9 1)).1,bGv a7 (jL (dL h 9 1)).2⟩⟩
theorem cCp:∀ x:pE,(∀ d∈aD1 x,OkD d)→okGItem x
  | ⟨a0,a1,a2,a3⟩,h0=>by
    rw [bSi] at h0
    have h:∀ d∈aIj ⟨a0,a1,a2,a3⟩,OkD d:=h0
    unfold okGItem
    exact ⟨trivial,yA _ (dL h 1 1),aSs a2 (by rw [aEi]; exact (dL h 2 10)),yA _ (dL h 12 1)⟩
theorem bR8:∀ x:jJ,(∀ d∈wR x,OkD d)→okGQuery x
  | ⟨a0,a1,a2,a3,a4,a5⟩,h0=>by
    rw [bGk] at h0
    have h:∀ d∈aD4 ⟨a0,a1,a2,a3,a4,a5⟩,OkD d:=h0
    unfold okGQuery
    exact ⟨trivial,⟨by simpa using (jL (dL h 1 1)).1,bC8 a1 (jL (dL h 1 1)).2⟩,⟨by simpa using (jL (dL h 2 1)).1,bDg a2 (jL (dL h 2 1)).2⟩,⟨by simpa using (jL (dL h 3 1)).1,aOy a3 (jL (dL h 3 1)).2⟩,⟨by simpa using (jL (dL h 4 1)).1,bB9 a4 (jL (dL h 4 1)).2⟩,mR _ (dL h 5 1)⟩
theorem bVd:∀ x:oU,(∀ d∈aBi x,OkD d)→okGSortKey x
  | ⟨a0,a1⟩,h0=>by
    rw [bZ8] at h0
    have h:∀ d∈aJ3 ⟨a0,a1⟩,OkD d:=h0
    unfold okGSortKey
    exact ⟨aSs a0 (by rw [aEi]; exact (dL h 0 10)),trivial⟩
theorem cDj:∀ x:oZ,(∀ d∈aCn x,OkD d)→okGSource x
  | ⟨a0,a1,a2⟩,h0=>by
    rw [bP8] at h0
    have h:∀ d∈aIx ⟨a0,a1,a2⟩,OkD d:=h0
    unfold okGSource
    exact ⟨yA _ (dL h 0 1),yA _ (dL h 1 1),⟨by simpa using (jL (dL h 2 1)).1,aOy a2 (jL (dL h 2 1)).2⟩⟩
theorem aOy:∀ l:List eO,(∀ x∈l.map qC,∀ d∈x,OkD d)→okLGExpr l
  | [],_=>by unfold okLGExpr; trivial
  | x::l,h=>by
    unfold okLGExpr
    exact ⟨aSs x (h _ (by simp)),aOy l fun y hy=>h y (QE _ hy)⟩
theorem bC8:∀ l:List pE,(∀ x∈l.map aD1,∀ d∈x,OkD d)→okLGItem l
  | [],_=>by unfold okLGItem; trivial
  | x::l,h=>by
    unfold okLGItem
    exact ⟨cCp x (h _ (by simp)),bC8 l fun y hy=>h y (QE _ hy)⟩
theorem bGv:∀ l:List jJ,(∀ x∈l.map wR,∀ d∈x,OkD d)→okLGQuery l
  | [],_=>by unfold okLGQuery; trivial
  | x::l,h=>by
    unfold okLGQuery
    exact ⟨bR8 x (h _ (by simp)),bGv l fun y hy=>h y (QE _ hy)⟩
theorem bB9:∀ l:List oU,(∀ x∈l.map aBi,∀ d∈x,OkD d)→okLGSortKey l
  | [],_=>by unfold okLGSortKey; trivial
  | x::l,h=>by
    unfold okLGSortKey
    exact ⟨bVd x (h _ (by simp)),bB9 l fun y hy=>h y (QE _ hy)⟩
theorem bDg:∀ l:List oZ,(∀ x∈l.map aCn,∀ d∈x,OkD d)→okLGSource l
  | [],_=>by unfold okLGSource; trivial
  | x::l,h=>by
    unfold okLGSource
    exact ⟨cDj x (h _ (by simp)),bDg l fun y hy=>h y (QE _ hy)⟩
end
theorem cFr (x:kM) (h:∀ d∈aRm x,OkD d):okGForm x:=⟨trivial,trivial,trivial,trivial,mR _ (dL h 4 1),mR _ (dL h 5 1),mR _ (dL h 6 1)⟩
theorem bPc (x:mU) (h:∀ d∈uV x,OkD d):okGSortBy x:=⟨trivial,trivial⟩
theorem cEp (x:eT) (h:∀ d∈uG x,OkD d):okGExecution x:=⟨mG _ (fun y hy=>mG _ (fun y hy=>mG _ (fun y hy=>F3 y hy) hy) hy) (dL h 0 1),mG _ (fun y hy=>mG _ (fun y hy=>trivial) hy) (dL h 1 1),mG _ (fun y hy=>trivial) (dL h 2 1),mG _ (fun y hy=>bPc y hy) (dL h 3 1),trivial,trivial,mR _ (dL h 6 1)⟩
theorem cGj (x:oM) (h:∀ d∈aTa x,OkD d):okGNode x:=⟨mR _ (dL h 0 1),mR _ (dL h 1 1),trivial,F3 x.value (dL h 3 3),mG _ (fun y hy=>F3 y hy) (dL h 6 1),mG _ (fun y hy=>mG _ (fun y hy=>F3 y hy) hy) (dL h 7 1)⟩
theorem cFy (x:aU) (h:∀ d∈bA x,OkD d):okGKeyed x:=⟨mG _ (fun y hy=>F3 y hy) (dL h 0 1),mG _ (fun y hy=>F3 y hy) (dL h 1 1)⟩
theorem cFs (x:aL) (h:∀ d∈aZp x,OkD d):okGL1Cur x:=⟨mG _ (fun y hy=>bB5 _ hy) (dL h 0 1),mR _ (dL h 1 1),mR _ (dL h 2 1)⟩
theorem de5 {l:List D} (h:WtC Tryz.prog 5 l):∃ x:Int,l=cU8 x:=(bMw h (k:=.u8) kr)
theorem bKn {l:List D} (h:WtC Tryz.prog 22 l):∃ x:(List Int),l=(cSl 1 cU8) x:=(bK5 h (e:=5) (n:=1) (c:=cU8) kr kr fun x hx=>de5 hx)
theorem bF4 (jS r) (h:aOd jS=some r):bMo jS r:=by
 rw [aOd] at h;exact Jok.un (rp' h)
theorem tL (p0:Bool):FOk Tryz.prog 8 [vB p0] (fun y=>(bN y)) (oO p0):=by
 refine aoP fun r h=>?_;rw [oO] at h;refine cd' h ?_ ?_<;>intro h;exact jn' (bF4 _ _ h) (wr [] eS bS);exact jn' (bF4 _ _ h) (wr [] eS bS)
abbrev ZK (y:Bool):V:=(vB y)
theorem bUm (p0:gD) (c0_0:List UInt8):cZ Tryz.prog 154 [cCs p0,.ptr 241 0] [(241,[vS c0_0])] ZK (fun (y:Bool)=>[(241,[vS c0_0])]) (aLw p0 c0_0):=by
 refine aoB fun r h=>?_;rw [aLw] at h;exact rb' h
abbrev bWs (p0) (c0_0):=M5.partial_correctness p0 c0_0 (aZs p0 c0_0) (by intro cGx aXy x8 r h;refine Lok.un ?_;refine cd' h ?_ ?_<;>intro h;refine iq' h fun y1 h=>(cg' c1_ h (bUm _ _) fun y2 h=>?_);refine cd' h ?_ ?_<;>intro h;exact rb' h;exact lb' (aXy _ _ h) (wr [] eS bS);exact rb' h)
abbrev aXy:=bWs
theorem bJv (p0:List gD) (c0_0:List UInt8):cZ Tryz.prog 153 [aNb p0,.fn 154 [.ptr 241 0]] [(241,[vS c0_0])] Z3 (fun (y:Int)=>[(241,[vS c0_0])]) (aM0 p0 c0_0):=by
 refine aoB fun r h=>?_;rw [aM0] at h;exact lq' p0 (lb' (aXy _ _ _ _ h) (wr [] eS bS))
theorem bVe (p0:eD) (p1:List UInt8):FOk Tryz.prog 111 [aE6 p0,vS p1] (fun y=>(vI y)) (aKf p0 p1):=by
 refine aoP fun r h=>?_;rw [aKf] at h;exact cg' ⟨[(241,3)],[],[],[],[],[],[],[],[]⟩ h (bJv _ _) fun y1 h=>(rp' h)
theorem aKa (p0:List UInt8):FOk Tryz.prog 110 [vS p0] (fun y=>(vB y)) (qX p0):=by
 refine aoP fun r h=>?_;rw [qX] at h;exact bP h fun y1 h=>(rp' h)
abbrev bLv (p0):=X0.partial_correctness p0 (aVu p0) (by intro cFa aRk x8 r h;refine Lok.un ?_;refine cd' h ?_ ?_<;>intro h;refine iq' h fun y1 h=>(cs' h (aKa _) fun y2 h=>(bR h fun y3 h=>(bR h fun y4 h=>(gc' h (bVe _ _) fun y5 h=>(bR h fun y6 h=>?_)))));refine cd' h ?_ ?_<;>intro h;exact rp' h;exact lb' (aRk _ _ h) (wr [] eS bS);exact cs' h (aKa _) fun y7 h=>(iP p0.cols (bP h fun y8 h=>(iP p0.cols (bP h fun y9 h=>(rp' h))))))
abbrev aRk:=bLv
theorem bYr (p0:eD):FOk Tryz.prog 75 [aE6 p0] (fun y=>(vB y)) (aHk p0):=by
 refine aoP fun r h=>?_;rw [aHk] at h;exact lq' p0.cols (lb' (aRk _ _ _ h) (wr [] eS bS))
theorem bUl (p0:eD) (c0_0:List UInt8):cZ Tryz.prog 113 [aE6 p0,.ptr 241 0] [(241,[vS c0_0])] ZK (fun (y:Bool)=>[(241,[vS c0_0])]) (aNj p0 c0_0):=by
 refine aoB fun r h=>?_;rw [aNj] at h;exact rb' h
abbrev bXn (p0) (c0_0):=K3.partial_correctness p0 c0_0 (aW5 p0 c0_0) (by intro cF1 aXi x8 r h;refine Lok.un ?_;refine cd' h ?_ ?_<;>intro h;refine iq' h fun y1 h=>(cg' c1_ h (bUl _ _) fun y2 h=>?_);refine cd' h ?_ ?_<;>intro h;exact rb' h;exact lb' (aXi _ _ h) (wr [] eS bS);exact rb' h)
abbrev aXi:=bXn
theorem cDx (p0:List eD) (c0_0:List UInt8):cZ Tryz.prog 112 [aY6 p0,.fn 113 [.ptr 241 0]] [(241,[vS c0_0])] Z3 (fun (y:Int)=>[(241,[vS c0_0])]) (aMz p0 c0_0):=by
 refine aoB fun r h=>?_;rw [aMz] at h;exact lq' p0 (lb' (aXi _ _ _ _ h) (wr [] eS bS))
theorem cCl (p0:aQ) (p1:List UInt8):FOk Tryz.prog 76 [cK p0,vS p1] (fun y=>(vI y)) (aG8 p0 p1):=by
 refine aoP fun r h=>?_;rw [aG8] at h;exact cg' ⟨[(241,3)],[],[],[],[],[],[],[],[]⟩ h (cDx _ _) fun y1 h=>(rp' h)
abbrev bLz (p0):=M0.partial_correctness p0 (aQk p0) (by intro cHe aT0 x8 r h;refine Lok.un ?_;refine cd' h ?_ ?_<;>intro h;refine iq' h fun y1 h=>(cs' h (bYr _) fun y2 h=>(gc' h (cCl _ _) fun y3 h=>(bR h fun y4 h=>?_)));refine cd' h ?_ ?_<;>intro h;exact rp' h;exact lb' (aT0 _ _ h) (wr [] eS bS);exact lq' p0.tables (rp' h))
abbrev aT0:=bLz
theorem bE3 (p0:aQ):FOk Tryz.prog 33 [cK p0] (fun y=>(vB y)) (aDh p0):=by
 refine aoP fun r h=>?_;rw [aDh] at h;exact lq' p0.tables (lb' (aT0 _ _ _ h) (wr [] eS bS))
theorem aJj (p0:aA):FOk Tryz.prog 125 [bN p0] (fun y=>(vB y)) (qI p0):=by
 refine aoP fun r h=>?_;rw [qI] at h;refine cd' h ?_ ?_<;>intro h;exact bP h fun y1 h=>(rp' h);refine cd' h ?_ ?_<;>intro h;exact rp' h;refine cd' h ?_ ?_<;>intro h;exact bP h fun y2 h=>(rp' h);refine cd' h ?_ ?_<;>intro h;exact bR h fun y3 h=>(bP h fun y4 h=>(rp' h));exact rp' h
theorem bWk (p0:aA) (p1:Int):FOk Tryz.prog 86 [bN p0,vI p1] (fun y=>(vB y)) (aHv p0 p1):=by
 refine aoP fun r h=>?_;rw [aHv] at h;refine cs' h (aJj _) fun y1 h=>?_;refine aO (.g 7 true (.pick 16 11 (kB true) 15)) (gv true y1 ZK h (fun y hy hc=>jC hy (p:=true) (q:=((true&&(y1==true))&&((decide (p0.kind=0))==false))) (Eq.trans (b:=([true&&(y1==true)]:List Bool).all id) kr (dR hc rfl)) kr kr kr (fun _=>rfl) (fun hb=>qA hc hb)) fun y2 h=>oC ?_);exact bP h fun y3 h=>(rp' h)
abbrev cAo (p1) (p0):=K6.partial_correctness p1 p0 (aZ0 p1 p0) (by intro cFt aTm x14 r h;refine Lok.un ?_;refine cd' h ?_ ?_<;>intro h;refine iq' h fun y1 h=>(iB cI h fun y2 h=>(cs' h (bWk _ _) fun y3 h=>?_));refine cd' h ?_ ?_<;>intro h;exact rp' h;exact lb' (aTm _ _ h) (wr [] eS aX);exact rp' h)
abbrev aTm:=cAo
theorem bOj (p0:List aA) (p1:List Int):FOk Tryz.prog 41 [eP p0,fU p1] (fun y=>(vB y)) (aHu p0 p1):=by
 refine aoP fun r h=>?_;rw [aHu] at h;refine lq' p0 (jY cI p1 ?_);refine cd' h ?_ ?_<;>intro h;exact rp' h;exact lq' p0 (lb' (aTm _ _ _ _ h) (wr [] eS aX))
theorem bM4 (p0:List aA) (c0_0:List Int):cZ Tryz.prog 40 [eP p0,.ptr 241 0] [(241,[fU c0_0])] ZK (fun (y:Bool)=>[(241,[fU c0_0])]) (aKw p0 c0_0):=by
 refine aoB fun r h=>?_;rw [aKw] at h;exact cs' h (bOj _ _) fun y1 h=>(rb' h)
abbrev bUg (p0) (c0_0):=W9.partial_correctness p0 c0_0 (aVi p0 c0_0) (by intro cEo aXe x8 r h;refine Lok.un ?_;refine cd' h ?_ ?_<;>intro h;refine iq' h fun y1 h=>(cg' c1_ h (bM4 _ _) fun y2 h=>?_);refine cd' h ?_ ?_<;>intro h;exact rb' h;exact lb' (aXe _ _ h) (wr [] eS bS);exact rb' h)
abbrev aXe:=bUg
theorem cAn (p0:List (List aA)) (c0_0:List Int):cZ Tryz.prog 85 [.d (.sl 1 (p0.map (cSl 3 aB))),.fn 40 [.ptr 241 0]] [(241,[fU c0_0])] Z3 (fun (y:Int)=>[(241,[fU c0_0])]) (aL1 p0 c0_0):=by
 refine aoB fun r h=>?_;rw [aL1] at h;exact lq' p0 (lb' (aXe _ _ _ _ h) (wr [] eS bS))
theorem bPt (p0:List (List aA)) (c0_0:List Int):cZ Tryz.prog 39 [.d (.sl 1 (p0.map (cSl 3 aB))),.fn 40 [.ptr 241 0]] [(241,[fU c0_0])] ZK (fun (y:Bool)=>[(241,[fU c0_0])]) (aI3 p0 c0_0):=by
 refine aoB fun r h=>?_;rw [aI3] at h;exact cg' c1_ h (cAn _ _) fun y1 h=>(rb' h)
abbrev bUn (p0):=vV.partial_correctness p0 (aXm p0) (by intro cFi aQa x3 x10 r h;refine Lok.un ?_;refine cd' h ?_ ?_<;>intro h;refine iq' h fun y1 h=>?_;refine aO (.bsl 17 3 1 [16]) (bI (l:=([y1.type]:List Int)) (f:=cI) (g:=cI) kr (fun _=>rfl) kr (oC ?_));exact aq' 3 cI h fun y2 h=>(lb' (aQa _ _ _ h) (wr [(3,.old 3)] (eo 3 eS) aX));exact rw' (s':=⟨[(2,.osl 243 3 1 (x3.map cI))],[]⟩) (wr [(243,.old 2)] (eo 2 iA) aX) (rb' h))
abbrev aQa:=bUn
theorem bD1 (p0:eD):cZ Tryz.prog 38 [aE6 p0] [] Zd Ze (J5 p0):=by
 refine aoB fun r h=>?_;rw [J5] at h;refine aO (.bsl 6 3 1 []) (bI (l:=([]:List Int)) (f:=cI) (g:=cI) kr (fun _=>rfl) kr (oC ?_));exact lq' p0.cols (lb' (aQa _ _ _ _ h) (wr [(3,.old 3)] (eo 3 eS) aX))
abbrev bS2 (p1) (p0):=H8.partial_correctness p1 p0 (aV9 p1 p0) (by intro cFk aQ0 x23 r h;refine Lok.un ?_;refine cd' h ?_ ?_<;>intro h;refine iq' h fun y3 h=>(iq' h fun y4 h=>(cg' ⟨[],[],[],[],[],[(243,33)],[],[33],[]⟩ h (bD1 _) fun y5 h=>(lq' y3.rows ?_)));refine aO (.g 38 false (.call (some 42) 39 [40,41])) (aJa ⟨[(241,7)],[],[],[],[],[],[],[33],[]⟩ (p:=true) (b:=(decide (6<(ln y3.rows)))) (m:=aI3 y3.rows y5) (dflt:=(default:Bool)) h kr (bPt _ _) (fun hc=>by kernel_rfl) kr kr kr (fun y=>by kernel_rfl) kr (fun hc=>(Eq.trans (b:=([true&&((decide (6<(ln y3.rows)))==false),true&&((decide (6<(ln y3.rows)))==false)]:List Bool).all id) kr (dR hc (dR hc rfl)))) (fun _=>rfl) fun y6 h=>oC ?_);refine bR h fun y7 h=>?_;refine cd' h ?_ ?_<;>intro h;exact rp' h;exact lb' (aQ0 _ _ h) (wr [] eS bS);exact rp' h)
abbrev aQ0:=bS2
theorem bNf (p0:aQ) (p1:GDb):FOk Tryz.prog 16 [cK p0,iG p1] (fun y=>(vB y)) (aE1 p0 p1):=by
 refine aoP fun r h=>?_;rw [aE1] at h;refine cs' h (bE3 _) fun y1 h=>(iP p1.tables (iP p0.tables (bR h fun y2 h=>?_)));refine cd' h ?_ ?_<;>intro h;exact rp' h;exact lq' p1.tables (lb' (aQ0 _ _ _ _ h) (wr [] eS bS))
abbrev cD7 (p1) (p2) (p3) (p0):=aBl.partial_correctness p1 p2 p3 p0 (aXv p1 p2 p3 p0) (by intro cEn aQh x6 x12 r h;refine Lok.un ?_;refine cd' h ?_ ?_<;>intro h;refine iq' h fun y1 h=>(tw' 0 [.fzb 8] ?_);refine aO (.bsl 18 94 1 [17]) (bI (l:=([bU.mk p1 p2 p3 y1]:List bU)) (f:=iE) (g:=iE) kr (fun _=>rfl) kr (oC ?_));exact aq' 6 iE h fun y2 h=>(lb' (aQh _ _ _ h) (wr [(6,.old 6)] (es (es (es (eo 6 eS)))) aX));exact rw' (s':=⟨[(5,.osl 243 94 1 (x6.map iE))],[]⟩) (wr [(243,.old 5)] (eo 5 iA) aX) (rb' h))
abbrev aQh:=cD7
theorem aOe (p0:List aJ) (p1:aQ) (p2:GDb) (p3:List (List aA)):cZ Tryz.prog 42 [fH p0,.rp (qY p1),.rp (qF p2),.rp [.sl 1 (p3.map (cSl 3 aB))]] [] Zf (fun (y:List bU)=>[]) (K4 p0 p1 p2 p3):=by
 refine aoB fun r h=>?_;rw [K4] at h;refine aO (.bsl 9 94 1 []) (bI (l:=([]:List bU)) (f:=iE) (g:=iE) kr (fun _=>rfl) kr (oC ?_));exact lq' p0 (lb' (aQh _ _ _ _ _ _ _ h) (wr [(6,.old 6)] (es (es (es (eo 6 eS)))) aX))
abbrev bW0 (p0):=wU.partial_correctness p0 (aZq p0) (by intro cGi aQ4 x6 x27 r h;refine Lok.un ?_;refine cd' h ?_ ?_<;>intro h;exact iq' h fun y3 h=>(aq' 6 aB h fun y4 h=>(lb' (aQ4 _ _ _ h) (wr [(6,.old 6)] (eo 6 eS) aX)));exact rw' (s':=⟨[(2,.osl 243 43 3 (x6.map aB))],[]⟩) (wr [(243,.old 2)] (eo 2 iA) aX) (rb' h))
abbrev aQ4:=bW0
theorem bJk (p0:List aA) (p1:Int):cZ Tryz.prog 170 [.osl 247 43 3 (p0.map aB),vI p1] [] Zh Zi (aLo p0 p1):=by
 exact bV1 sh170 rfl rfl
abbrev bG6 (p0):=aFw.mutual_partial_correctness p0 (aZ1 p0) (aW7 p0) (by intro cH2 aQ1 x3 y1 x11 r h;exact Jok.un (lb' (aQ1 _ _ _ h) (wr [] eS aX))) (by intro cGq bE2 x3 x11 r h;refine Lok.un ?_;refine cd' h ?_ ?_<;>intro h;refine iq' h fun y1 h=>(lq' y1 ?_);refine cd' h ?_ ?_<;>intro h;exact nomatch h;exact jn' (bE2 _ _ _ _ h) (wr [] eS aX);exact cg' ⟨[],[],[(247,43,3)],[some 247,none],[],[(243,24)],[],[24],[]⟩ h (bJk _ _) fun y2 h=>(lq' p0 (lb' (aQ4 _ _ _ _ h) (wr [(6,.old 6)] (eo 6 eS) aX))))
abbrev bE2:=fun p0=>(bG6 p0).1
abbrev aQ1:=fun p0=>(bG6 p0).2
theorem cAi (p0:List (List aA)):cZ Tryz.prog 130 [.d (.sl 1 (p0.map (cSl 3 aB)))] [] Zh Zi (aHj p0):=by
 refine aoB fun r h=>?_;rw [aHj] at h;exact lq' p0 (lb' (aQ1 _ _ _ _ h) (wr [] eS aX))
theorem bMh (p0:aA):FOk Tryz.prog 171 [bN p0] (fun y=>(vB y)) (aI4 p0):=by
 refine aoP fun r h=>?_;rw [aI4] at h;exact bP h fun y1 h=>(rp' h)
theorem bN8 (p0:Int) (p1:Int):FOk Tryz.prog 191 [vI p0,vI p1] (fun y=>(.tup [vI y.1,vB y.2])) (aDu p0 p1):=by
 refine aoP fun r h=>?_;rw [aDu] at h;refine bP h fun y1 h=>?_;refine aO (.g 14 false (.pick 22 17 21 (kB false))) (gv true y1 ZK h (fun y hy hc=>jC hy (p:=((true&&(y1==false))&&((decide (p1<0))==true))) (q:=true) (Eq.trans (b:=([true&&(y1==false)]:List Bool).all id) kr (dR hc rfl)) kr kr kr (fun hb=>pK hc hb) (fun _=>rfl)) fun y2 h=>oC ?_);refine bR h fun y3 h=>?_;refine cd' h ?_ ?_<;>intro h;exact rp' h;exact rp' h
theorem aR0 (p0:Int):FOk Tryz.prog 195 [vI p0] (fun y=>(bN y)) (I5 p0):=by
 refine aoP fun r h=>?_;rw [I5] at h;exact rp' h
theorem aVk (x8 x9 r) (h:aDj x8 x9=some r):bNv x8 x9 r:=by
 rw [aDj] at h;refine Jok.un ?_;refine cd' h ?_ ?_<;>intro h;exact rp' h;exact cs' h (aR0 _) fun y5 h=>(rp' h)
theorem bKz (p0:Int) (p1:Int) (p2:Int):FOk Tryz.prog 194 [vI p0,vI p1,vI p2] (fun y=>(.tup [bN y.1,vI y.2])) (aM9 p0 p1 p2):=by
 refine aoP fun r h=>?_;rw [aM9] at h;refine cd' h ?_ ?_<;>intro h;exact rp' h;refine cd' h ?_ ?_<;>intro h;refine aO (.bin 17 .rem 15 16) (vs Z3 h (fun y hy=>aMc (k:=.i64) (a:=p1) (b:=p2) hy kr kr kr) fun y1 h=>oC ?_);exact cs' h (aR0 _) fun y2 h=>(rp' h);refine bP h fun y3 h=>?_;refine cd' h ?_ ?_<;>intro h;exact rp' h;refine aO (.bin 29 .quo 27 28) (vs Z3 h (fun y hy=>aMk (k:=.i64) (a:=p1) (b:=p2) hy kr kr kr) fun y4 h=>oC ?_);exact cs' h (aR0 _) fun y5 h=>(rp' h)
theorem bZh (p0:Int) (p1:Int):FOk Tryz.prog 193 [vI p0,vI p1] (fun y=>(.tup [vI y.1,vB y.2])) (aGw p0 p1):=by
 refine aoP fun r h=>?_;rw [aGw] at h;refine aO (.g 12 true (.bin 15 .quo 13 14)) (gv true (!decide (p0=0)) Z3 h (fun y hy hc=>aMk (k:=.i64) (a:=(QA .i64 (p0 * p1))) (b:=p0) hy (Eq.trans (b:=([true&&((!decide (p0=0))==true),true&&((!decide (p0=0))==true)]:List Bool).all id) kr (dR hc (dR hc rfl))) kr kr) fun y1 h=>oC ?_);refine aO (.g 18 false (.pick 24 21 23 (kB false))) (gv (true&&((!decide (p0=0))==true)) (!decide (y1=p1)) ZK h (fun y hy hc=>jC hy (p:=(((true&&((!decide (p0=0))==true))&&((!decide (y1=p1))==false))&&((decide (p0=(-1)))==true))) (q:=true) (Eq.trans (b:=([(true&&((!decide (p0=0))==true))&&((!decide (y1=p1))==false)]:List Bool).all id) kr (dR hc rfl)) kr kr kr (fun hb=>pK hc hb) (fun _=>rfl)) fun y2 h=>oC ?_);refine aO (.g 12 true (.pick 25 18 (kB true) 24)) (gv true (!decide (p0=0)) ZK h (fun y hy hc=>jC hy (p:=true) (q:=((true&&((!decide (p0=0))==true))&&((!decide (y1=p1))==false))) (Eq.trans (b:=([true&&((!decide (p0=0))==true)]:List Bool).all id) kr (dR hc rfl)) kr kr kr (fun _=>rfl) (fun hb=>qA hc hb)) fun y3 h=>oC ?_);refine bP h fun y4 h=>?_;refine cd' h ?_ ?_<;>intro h;exact rp' h;exact rp' h
theorem bWq (p0:Int) (p1:Int):FOk Tryz.prog 192 [vI p0,vI p1] (fun y=>(.tup [vI y.1,vB y.2])) (aEz p0 p1):=by
 refine aoP fun r h=>?_;rw [aEz] at h;refine bP h fun y1 h=>?_;refine aO (.g 14 false (.pick 22 17 21 (kB false))) (gv true y1 ZK h (fun y hy hc=>jC hy (p:=((true&&(y1==false))&&((decide (0<p1))==true))) (q:=true) (Eq.trans (b:=([true&&(y1==false)]:List Bool).all id) kr (dR hc rfl)) kr kr kr (fun hb=>pK hc hb) (fun _=>rfl)) fun y2 h=>oC ?_);refine bR h fun y3 h=>?_;refine cd' h ?_ ?_<;>intro h;exact rp' h;exact rp' h
theorem bAg (p0:Int) (p1:Int) (p2:Int):FOk Tryz.prog 163 [vI p0,vI p1,vI p2] (fun y=>(.tup [bN y.1,vI y.2])) (aDr p0 p1 p2):=by
 refine aoP fun r h=>?_;rw [aDr] at h;refine cd' h ?_ ?_<;>intro h;exact cs' h (bN8 _ _) fun y1 h=>(jn' (aVk _ _ _ h) (wr [] eS bS));refine cd' h ?_ ?_<;>intro h;exact cs' h (bWq _ _) fun y2 h=>(jn' (aVk _ _ _ h) (wr [] eS bS));refine cd' h ?_ ?_<;>intro h;exact cs' h (bZh _ _) fun y3 h=>(jn' (aVk _ _ _ h) (wr [] eS bS));exact cs' h (bKz _ _ _) fun y4 h=>(rp' h)
theorem bI8 (p0:Int):FOk Tryz.prog 198 [vI p0] (fun y=>(vB y)) (aHf p0):=by
 refine aoP fun r h=>?_;rw [aHf] at h;exact rp' h
theorem bHx (p0:Int) (p1:Int):FOk Tryz.prog 174 [vI p0,vI p1] (fun y=>(vI y)) (aF3 p0 p1):=by
 refine aoP fun r h=>?_;rw [aF3] at h;refine cs' h (bI8 _) fun y1 h=>(cs' h (bI8 _) fun y2 h=>?_);refine cd' h ?_ ?_<;>intro h;refine cd' h ?_ ?_<;>intro h;exact rp' h;exact rp' h;refine cd' h ?_ ?_<;>intro h;exact rp' h;refine cd' h ?_ ?_<;>intro h;exact rp' h;refine cd' h ?_ ?_<;>intro h;exact rp' h;exact rp' h
theorem bHb (p0:List UInt8):FOk Tryz.prog 199 [vS p0] (fun y=>(vB y)) (aGl p0):=by
 refine aoP fun r h=>?_;rw [aGl] at h;exact rp' h
theorem bQ0 (p0:List UInt8) (p1:List UInt8):FOk Tryz.prog 175 [vS p0,vS p1] (fun y=>(vI y)) (aJy p0 p1):=by
 refine aoP fun r h=>?_;rw [aJy] at h;refine cs' h (bHb _) fun y1 h=>(cs' h (bHb _) fun y2 h=>?_);refine cd' h ?_ ?_<;>intro h;refine cd' h ?_ ?_<;>intro h;exact rp' h;exact rp' h;refine cd' h ?_ ?_<;>intro h;exact rp' h;refine cd' h ?_ ?_<;>intro h;exact rp' h;refine cd' h ?_ ?_<;>intro h;exact rp' h;exact rp' h
abbrev bPu (p0):=zB.partial_correctness p0 (aQy p0) (by intro cHf aZ6 x8 r h;refine Lok.un ?_;refine cd' h ?_ ?_<;>intro h;refine iB cI h fun y1 h=>?_;refine cd' h ?_ ?_<;>intro h;exact rp' h;exact lb' (aZ6 _ _ h) (wr [] eS aX);exact rp' h)
abbrev aZ6:=bPu
theorem bZw (p0:List Int):FOk Tryz.prog 173 [fU p0] (fun y=>(vI y)) (aJc p0):=by
 refine aoP fun r h=>?_;rw [aJc] at h;exact jY cI p0 (lb' (aZ6 _ _ _ h) (wr [] eS aX))
theorem bBf (p0:aA) (p1:aA):FOk Tryz.prog 134 [bN p0,bN p1] (fun y=>(vI y)) (aEa p0 p1):=by
 refine aoP fun r h=>?_;rw [aEa] at h;refine cs' h (bHx _ _) fun y1 h=>(cs' h (bHx _ _) fun y2 h=>(cs' h (bQ0 _ _) fun y3 h=>?_));refine dO (.bsl 20 3 1 [9,14,19]) (uC (l:=([y1,y2,y3]:List Int)) (f:=cI) (g:=cI) kr (fun _=>rfl) (dC ?_));exact cs' h (bZw _) fun y4 h=>(rp' h)
theorem bWu (p0:Int) (p1:aA) (p2:aA):FOk Tryz.prog 166 [vI p0,bN p1,bN p2] (fun y=>(bN y)) (aBa p0 p1 p2):=by
 refine aoP fun r h=>?_;rw [aBa] at h;refine cs' h (bBf _ _) fun y1 h=>?_;refine cd' h ?_ ?_<;>intro h;exact cs' h (tL _) fun y2 h=>(rp' h);refine cd' h ?_ ?_<;>intro h;exact cs' h (tL _) fun y3 h=>(rp' h);refine cd' h ?_ ?_<;>intro h;exact cs' h (tL _) fun y4 h=>(rp' h);refine cd' h ?_ ?_<;>intro h;exact cs' h (tL _) fun y5 h=>(rp' h);refine cd' h ?_ ?_<;>intro h;exact cs' h (tL _) fun y6 h=>(rp' h);exact cs' h (tL _) fun y7 h=>(rp' h)
theorem bDi (p0:Int) (p1:aA):FOk Tryz.prog 165 [vI p0,bN p1] (fun y=>(vB y)) (L9 p0 p1):=by
 refine aoP fun r h=>?_;rw [L9] at h;refine bR h fun y1 h=>?_;refine cd' h ?_ ?_<;>intro h;exact rp' h;refine cd' h ?_ ?_<;>intro h;exact rp' h;exact rp' h
abbrev bKf (p0) (p1) (p2):=J9.partial_correctness p0 p1 p2 (aQe p0 p1 p2) (by intro cE8 aTp x15 r h;refine Lok.un ?_;refine cd' h ?_ ?_<;>intro h;refine iq' h fun y1 h=>(bP h fun y2 h=>?_);refine cd' h ?_ ?_<;>intro h;exact rp' h;exact lb' (aTp _ _ h) (wr [(13,.old 13)] (es (es (es (es (eo 13 eS))))) bS);refine cs' h (tL _) fun y3 h=>(bR h fun y4 h=>?_);refine cd' h ?_ ?_<;>intro h;exact rp' h;refine bR h fun y5 h=>?_;refine cd' h ?_ ?_<;>intro h;exact rp' h;exact cs' h (tL _) fun y6 h=>(rp' h))
abbrev aTp:=bKf
theorem cBt (p0:Int) (p1:aA) (p2:aA):FOk Tryz.prog 164 [vI p0,bN p1,bN p2] (fun y=>(.tup [bN y.1,vI y.2])) (aHr p0 p1 p2):=by
 refine aoP fun r h=>?_;rw [aHr] at h;refine aO (.bsl 13 43 3 [11,12]) (bI (l:=([p1,p2]:List aA)) (f:=aB) (g:=aB) kr (fun _=>rfl) kr (oC ?_));refine lq' ([p1,p2]:List aA) ?_;exact lb' (aTp _ _ _ _ _ h) (wr [(13,.old 13)] (es (es (es (es (eo 13 eS))))) bS)
theorem cCa (p0:List UInt8):FOk Tryz.prog 167 [vS p0] (fun y=>(bN y)) (aMf p0):=by
 refine aoP fun r h=>?_;rw [aMf] at h;exact rp' h
abbrev ZL (y:List UInt8):V:=(vS y)
theorem aE4 (p0:Int) (p1:aA) (p2:aA):FOk Tryz.prog 128 [vI p0,bN p1,bN p2] (fun y=>(.tup [bN y.1,vI y.2])) (rU p0 p1 p2):=by
 refine aoP fun r h=>?_;rw [rU] at h;refine bR h fun y1 h=>(gc' h (aJj _) fun y2 h=>(bR h fun y3 h=>(gc' h (aJj _) fun y4 h=>(bR h fun y5 h=>?_))));refine cd' h ?_ ?_<;>intro h;exact rp' h;refine cd' h ?_ ?_<;>intro h;exact cs' h (cBt _ _ _) fun y6 h=>(rp' h);refine bR h fun y7 h=>(cs' h (bDi _ _) fun y8 h=>(gc' h (bDi _ _) fun y9 h=>(bR h fun y10 h=>?_)));refine aO (.g 52 false (.pick 58 55 57 (kB false))) (gv true y10 ZK h (fun y hy hc=>jC hy (p:=((true&&(y10==false))&&((decide (p0≤8))==true))) (q:=true) (Eq.trans (b:=([true&&(y10==false)]:List Bool).all id) kr (dR hc rfl)) kr kr kr (fun hb=>pK hc hb) (fun _=>rfl)) fun y11 h=>oC ?_);refine aO (.g 52 false (.pick 65 59 64 (kB false))) (gv true y10 ZK h (fun y hy hc=>jC hy (p:=((true&&(y10==false))&&(y11==true))) (q:=true) (Eq.trans (b:=([true&&(y10==false)]:List Bool).all id) kr (dR hc rfl)) kr kr kr (fun hb=>pK hc hb) (fun _=>rfl)) fun y12 h=>oC ?_);refine bR h fun y13 h=>?_;refine cd' h ?_ ?_<;>intro h;exact rp' h;refine cd' h ?_ ?_<;>intro h;exact rp' h;refine cd' h ?_ ?_<;>intro h;exact cs' h (bWu _ _ _) fun y14 h=>(rp' h);refine cd' h ?_ ?_<;>intro h;exact cs' h (bAg _ _ _) fun y15 h=>(rp' h);refine cd' h ?_ ?_<;>intro h;exact rp' h;refine aO (.bin 102 .add 99 101) (vs ZL h (fun y hy=>aPy (a:=p1.text) (b:=p2.text) hy kr kr kr) fun y16 h=>oC ?_);exact cs' h (cCa _) fun y17 h=>(rp' h)
theorem bT1 (p0:aA) (p1:aA) (p2:aA):FOk Tryz.prog 168 [bN p0,bN p1,bN p2] (fun y=>(.tup [bN y.1,vI y.2])) (aIe p0 p1 p2):=by
 refine aoP fun r h=>?_;rw [aIe] at h;refine cs' h (aE4 _ _ _) fun y1 h=>?_;refine cd' h ?_ ?_<;>intro h;exact rp' h;refine cs' h (aE4 _ _ _) fun y2 h=>?_;refine cd' h ?_ ?_<;>intro h;exact rp' h;exact cs' h (aE4 _ _ _) fun y3 h=>(rp' h)
abbrev bY7 (p1) (p0):=I8.partial_correctness p1 p0 (aUs p1 p0) (by intro cG8 aSk x14 iY iQ iX r h;refine Lok.un ?_;refine cd' h ?_ ?_<;>intro h;refine iq' h fun y2 h=>(cs' h (aE4 _ _ _) fun y3 h=>?_);refine cd' h ?_ ?_<;>intro h;exact rp' h;refine cs' h (aE4 _ _ _) fun y4 h=>?_;refine cd' h ?_ ?_<;>intro h;exact rp' h;exact lb' (aSk _ _ _ _ _ h) (wr [] eS bS);exact rp' h)
abbrev aSk:=bY7
theorem bFj (p0:aA) (p1:List aA):FOk Tryz.prog 169 [bN p0,eP p1] (fun y=>(.tup [bN y.1,vI y.2])) (aF1 p0 p1):=by
 refine aoP fun r h=>?_;rw [aF1] at h;exact cs' h (tL _) fun y1 h=>(lq' p1 (lb' (aSk _ _ _ _ _ _ _ h) (wr [] eS bS)))
abbrev cD0 (p0):=zO.partial_correctness p0 (aWs p0) (by intro cHv aZh x4 x42 r h;refine Lok.un ?_;refine cd' h ?_ ?_<;>intro h;refine iq' h fun y8 h=>(lq' y8 ?_);refine cd' h ?_ ?_<;>intro h;exact rp' h;refine iq' h fun y9 h=>?_;refine aO (.bsl 54 43 3 [53]) (bI (l:=([y9]:List aA)) (f:=aB) (g:=aB) kr (fun _=>rfl) kr (oC ?_));exact aq' 4 aB h fun y10 h=>(lb' (aZh _ _ _ h) (wr [(4,.old 4)] (es (es (eo 4 eS))) bS));exact iq' h fun y11 h=>(cs' h (bFj _ _) fun y12 h=>(rp' h)))
abbrev aZh:=cD0
theorem bQs (p0:oM):FOk Tryz.prog 129 [bBm p0] (fun y=>(.tup [bN y.1,vI y.2])) (aEn p0):=by
 refine aoP fun r h=>?_;rw [aEn] at h;refine cd' h ?_ ?_<;>intro h;exact iq' h fun y1 h=>(iq' h fun y2 h=>(iq' h fun y3 h=>(cs' h (bT1 _ _ _) fun y4 h=>(rp' h))));refine cd' h ?_ ?_<;>intro h;refine iq' h fun y5 h=>?_;refine dO (.slc 34 3 33 (some (kI 1)) none none) (fB (m:=iW p0.kids 1 (ln p0.kids)) (v':=fun y=>(eP y)) h rfl rfl (fun y hy=>xP (l:=p0.kids) (f:=aB) (lo:=1) (hi:=(ln p0.kids)) hy kr kr rfl ⟨kr,.i64,kr⟩) fun y6 h=>dC ?_);exact cs' h (bFj _ _) fun y7 h=>(rp' h);refine aO (.bsl 38 43 3 []) (bI (l:=([]:List aA)) (f:=aB) (g:=aB) kr (fun _=>rfl) kr (oC ?_));exact lq' p0.rows (lb' (aZh _ _ _ _ h) (wr [(4,.old 4)] (es (es (eo 4 eS))) bS))
theorem bFs (p0:Int) (p1:aA):FOk Tryz.prog 127 [vI p0,bN p1] (fun y=>(.tup [bN y.1,vI y.2])) (aBd p0 p1):=by
 refine aoP fun r h=>?_;rw [aBd] at h;refine cs' h (aJj _) fun y1 h=>?_;refine aO (.g 9 false (.pick 15 12 14 (kB false))) (gv true (!y1) ZK h (fun y hy hc=>jC hy (p:=((true&&((!y1)==false))&&((!decide (p0=15))==true))) (q:=true) (Eq.trans (b:=([true&&((!y1)==false)]:List Bool).all id) kr (dR hc rfl)) kr kr kr (fun hb=>pK hc hb) (fun _=>rfl)) fun y2 h=>oC ?_);refine bR h fun y3 h=>?_;refine cd' h ?_ ?_<;>intro h;exact rp' h;refine cd' h ?_ ?_<;>intro h;exact rp' h;refine bP h fun y4 h=>?_;refine cd' h ?_ ?_<;>intro h;exact cs' h (tL _) fun y5 h=>(rp' h);refine bP h fun y6 h=>?_;refine cd' h ?_ ?_<;>intro h;exact cs' h (bAg _ _ _) fun y7 h=>(rp' h);exact rp' h
theorem bJq (p0:oM):FOk Tryz.prog 88 [bBm p0] (fun y=>(.tup [bN y.1,vI y.2])) (aI2 p0):=by
 refine aoP fun r h=>?_;rw [aI2] at h;refine cd' h ?_ ?_<;>intro h;exact rp' h;refine cd' h ?_ ?_<;>intro h;exact iq' h fun y1 h=>(cs' h (bFs _ _) fun y2 h=>(rp' h));refine cd' h ?_ ?_<;>intro h;exact iq' h fun y3 h=>(iq' h fun y4 h=>(cs' h (aE4 _ _ _) fun y5 h=>(rp' h)));refine cd' h ?_ ?_<;>intro h;exact iq' h fun y6 h=>(cs' h (tL _) fun y7 h=>(rp' h));refine cd' h ?_ ?_<;>intro h;exact lq' p0.rows (cs' h (tL _) fun y8 h=>(rp' h));refine cs' h (bQs _) fun y9 h=>?_;refine cd' h ?_ ?_<;>intro h;exact rp' h;refine cd' h ?_ ?_<;>intro h;exact cs' h (bFs _ _) fun y10 h=>(rp' h);exact rp' h
theorem bVf (p0:aA):FOk Tryz.prog 188 [bN p0] (fun y=>(vB y)) (aCr p0):=by
 refine aoP fun r h=>?_;rw [aCr] at h;refine cs' h (aJj _) fun y1 h=>?_;refine aO (.g 5 true (.pick 13 9 (kB true) 12)) (gv true y1 ZK h (fun y hy hc=>jC hy (p:=true) (q:=((true&&(y1==true))&&((!decide (p0.kind=1))==false))) (Eq.trans (b:=([true&&(y1==true)]:List Bool).all id) kr (dR hc rfl)) kr kr kr (fun _=>rfl) (fun hb=>qA hc hb)) fun y2 h=>oC ?_);exact bP h fun y3 h=>(bP h fun y4 h=>(rp' h))
theorem bCm (p0:eO):FOk Tryz.prog 158 [bD7 p0] (fun y=>(.tup [aTf y.1,vB y.2])) (zK p0):=by
 refine aoP fun r h=>?_;rw [zK] at h;refine cd' h ?_ ?_<;>intro h;exact cs' h (bVf _) fun y1 h=>(rp' h);refine cd' h ?_ ?_<;>intro h;refine cs' h (aKa _) fun y2 h=>(gc' h (aKa _) fun y3 h=>?_);refine aO (.g 18 true (.pick 26 22 (kB true) 25)) (gv true y2 ZK h (fun y hy hc=>jC hy (p:=true) (q:=((true&&(y2==true))&&((decide (p0.qual=[]))==false))) (Eq.trans (b:=([true&&(y2==true)]:List Bool).all id) kr (dR hc rfl)) kr kr kr (fun _=>rfl) (fun hb=>qA hc hb)) fun y4 h=>oC ?_);exact bP h fun y5 h=>(rp' h);refine cd' h ?_ ?_<;>intro h;exact bR h fun y6 h=>(rp' h);refine cd' h ?_ ?_<;>intro h;exact bP h fun y7 h=>(rp' h);refine cd' h ?_ ?_<;>intro h;exact rp' h;refine cd' h ?_ ?_<;>intro h;exact rp' h;refine cd' h ?_ ?_<;>intro h;exact rp' h;refine cd' h ?_ ?_<;>intro h;exact rp' h;refine cd' h ?_ ?_<;>intro h;exact rp' h;exact rp' h
theorem bG9 (p0 aA1 r) (h:aK1 p0 aA1=some r):bT8 p0 aA1 r:=by
 rw [aK1] at h;exact Jok.un (cs' h (bCm _) fun y1 h=>(rp' h))
theorem bSw (p0:Int):FOk Tryz.prog 126 [vI p0] (fun y=>(.tup [aTf y.1,vB y.2])) (aO1 p0):=by
 refine aoP fun r h=>?_;rw [aO1] at h;refine aO (.bld 6 [bJ,bJ,lX,bJ,bJ,mK,mK,mK,.nil 10,.nil 6] [(0,1,5),(1,1,kI 15),(7,1,.c (.d (.s (bs [120]))))]) (nG (c:=[vI p0,vI 15,vB false,vI 0,vI 0,vS [],vS [],vS [120],.nil 10,.nil 6]) kr kr rfl (oC ?_));refine cd' h ?_ ?_<;>intro h;exact jn' (bG9 _ _ _ h) (wr [] eS bS);exact jn' (bG9 _ _ _ h) (wr [] eS bS)
theorem cCe (p0:Int) (p1:Int) (p2:Int):FOk Tryz.prog 87 [vI p0,vI p1,vI p2] (fun y=>(vB y)) (aJg p0 p1 p2):=by
 refine aoP fun r h=>?_;rw [aJg] at h;exact cs' h (bSw _) fun y1 h=>(bP h fun y2 h=>(bP h fun y3 h=>(bP h fun y4 h=>(rp' h))))
theorem bQk (p0:List aA):cZ Tryz.prog 137 [eP p0] [] Zh Zi (aK8 p0):=by
 refine aoB fun r h=>?_;rw [aK8] at h;refine aO (.eqn 4 false 3) (bFi (sz:=3) (l:=p0) (f:=aB) h kr kr (fun hl h=>oC ?_) fun hl h=>?_);refine aMn ?_;refine aO (.bsl 5 43 3 []) (bI (l:=([]:List aA)) (f:=aB) (g:=aB) kr (fun _=>rfl) kr (oC ?_));exact aq' 5 aB h fun y1 h=>(rw' (s':=⟨[(2,.osl 243 43 3 (y1.map aB))],[]⟩) (wr [(243,.old 2)] (eo 2 iA) aX) (rb' h))
 subst hl
 refine ⟨oC ?_,oC ?_⟩
 replace h:((appG 32 ([]:List aA) ([]:List aA))>>=fun (y2:List aA)=>some y2:Option (List aA))=some r:=h
 refine aMn ?_;refine aO (.bsl 5 43 3 []) (bI (l:=([]:List aA)) (f:=aB) (g:=aB) kr (fun _=>rfl) kr (oC ?_));exact aq' 5 aB h fun y2 h=>(rw' (s':=⟨[(2,.osl 243 43 3 (y2.map aB))],[]⟩) (wr [(243,.old 2)] (eo 2 iA) aX) (rb' h));exact bB0 (rw' (s':=⟨[(2,.osl 243 43 3 (([]:List aA).map aB))],[]⟩) (wr [(243,.new 43 3)] (en iA) aX) (rb' h))
abbrev bLb (p0) (p1):=aA5.partial_correctness p0 p1 (aZo p0 p1) (by intro cH8 aY7 x13 r h;refine Lok.un ?_;refine cd' h ?_ ?_<;>intro h;refine iq' h fun y1 h=>(iq' h fun y2 h=>?_);refine cd' h ?_ ?_<;>intro h;exact rp' h;exact lb' (aY7 _ _ h) (wr [] eS aX);exact rp' h)
abbrev aY7:=bLb
theorem bO1 (p0:List aA) (p1:List aA):FOk Tryz.prog 136 [eP p0,eP p1] (fun y=>(vB y)) (aK0 p0 p1):=by
 refine aoP fun r h=>?_;rw [aK0] at h;refine lq' p0 (lq' p1 ?_);refine cd' h ?_ ?_<;>intro h;exact rp' h;exact lq' p0 (lb' (aY7 _ _ _ _ h) (wr [] eS aX))
theorem bYc (p0:List aA) (c0_0:List aA):cZ Tryz.prog 135 [eP p0,.ptr 241 0] [(241,[eP c0_0])] ZK (fun (y:Bool)=>[(241,[eP c0_0])]) (aP4 p0 c0_0):=by
 refine aoB fun r h=>?_;rw [aP4] at h;exact cs' h (bO1 _ _) fun y1 h=>(rb' h)
abbrev bMa (p0) (c0_0):=R4.partial_correctness p0 c0_0 (aVz p0 c0_0) (by intro cG5 aTr x8 r h;refine Lok.un ?_;refine cd' h ?_ ?_<;>intro h;refine iq' h fun y1 h=>(cg' c1_ h (bYc _ _) fun y2 h=>?_);refine cd' h ?_ ?_<;>intro h;exact rb' h;exact lb' (aTr _ _ h) (wr [] eS bS);exact rb' h)
abbrev aTr:=bMa
theorem bYj (p0:List (List aA)) (c0_0:List aA):cZ Tryz.prog 85 [.d (.sl 1 (p0.map (cSl 3 aB))),.fn 135 [.ptr 241 0]] [(241,[eP c0_0])] Z3 (fun (y:Int)=>[(241,[eP c0_0])]) (aOr p0 c0_0):=by
 refine aoB fun r h=>?_;rw [aOr] at h;exact lq' p0 (lb' (aTr _ _ _ _ h) (wr [] eS bS))
theorem bNn (p0:List (List aA)) (c0_0:List aA):cZ Tryz.prog 39 [.d (.sl 1 (p0.map (cSl 3 aB))),.fn 135 [.ptr 241 0]] [(241,[eP c0_0])] ZK (fun (y:Bool)=>[(241,[eP c0_0])]) (aHo p0 c0_0):=by
 refine aoB fun r h=>?_;rw [aHo] at h;exact cg' c1_ h (bYj _ _) fun y1 h=>(rb' h)
abbrev bE4 (p0):=aB1.mutual_partial_correctness p0 (aQj p0) (aVw p0) (by intro cH3 aQ3 x9 qN r h;exact Jok.un (lb' (aQ3 _ _ _ h) (wr [(3,.old 3)] (eo 3 eS) aX))) (by intro cGb aUi x3 x9 r h;refine Lok.un ?_;refine cd' h ?_ ?_<;>intro h;refine iq' h fun y1 h=>(cg' ⟨[(241,5)],[],[],[],[],[],[],[],[]⟩ h (bNn _ _) fun y2 h=>?_);refine cd' h ?_ ?_<;>intro h;refine cg' ⟨[],[],[],[],[],[(243,19)],[],[19],[]⟩ h (bQk _) fun y3 h=>?_;refine aO (.bsl 20 64 1 [19]) (bI (l:=([y3]:List (List aA))) (f:=(cSl 3 aB)) (g:=(cSl 3 aB)) kr (fun _=>rfl) kr (oC ?_));exact aq' 3 (cSl 3 aB) h fun y4 h=>(jn' (aUi _ _ _ h) (wr [(3,.old 3)] (eo 3 eS) aX));exact jn' (aUi _ _ _ h) (wr [(3,.old 3)] (eo 3 eS) aX);exact rw' (s':=⟨[(2,.osl 243 64 1 (x3.map (cSl 3 aB)))],[]⟩) (wr [(243,.old 2)] (eo 2 iA) aX) (rb' h))
abbrev aUi:=fun p0=>(bE4 p0).1
abbrev aQ3:=fun p0=>(bE4 p0).2
theorem bXb (p0:List (List aA)):cZ Tryz.prog 91 [.d (.sl 1 (p0.map (cSl 3 aB)))] [] Zj Zk (aCk p0):=by
 refine aoB fun r h=>?_;rw [aCk] at h;refine aO (.bsl 6 64 1 []) (bI (l:=([]:List (List aA))) (f:=(cSl 3 aB)) (g:=(cSl 3 aB)) kr (fun _=>rfl) kr (oC ?_));exact lq' p0 (lb' (aQ3 _ _ _ _ h) (wr [(3,.old 3)] (eo 3 eS) aX))
theorem bB8 (Z6 r) (h:aH7 Z6=some r):bJo Z6 r:=by
 rw [aH7] at h;exact Jok.un (rp' h)
abbrev ZM (y:List (List aA)):V:=(.d (.sl 1 (y.map (cSl 3 aB))))
theorem bEr (p0 vP r) (h:wY p0 vP=some r):bL0 p0 vP r:=by
 rw [wY] at h;refine Jok.un (iP vP (bP h fun y8 h=>?_));refine cd' h ?_ ?_<;>intro h;refine aO (.slc 67 1 64 none (some 66) none) (vs ZM h (fun y hy=>xP (l:=vP) (f:=(cSl 3 aB)) (lo:=0) (hi:=p0.limit) hy kr kr ⟨kr,.i64,kr⟩ rfl) fun y9 h=>oC ?_);exact jn' (bB8 _ _ h) (wr [] eS aX);exact jn' (bB8 _ _ h) (wr [] (ew iA) aX)
abbrev bF0 (p2) (p0) (p1):=aAh.mutual_partial_correctness p2 p0 p1 (fun x12=>aQz p2 x12 p0 p1) (aYs p2 p0 p1) (by intro cEk aVs x12 x8 r h;refine Jok.un ?_;refine cd' h ?_ ?_<;>intro h;exact rp' h;exact lb' (aVs _ _ h) (wr [] eS bS)) (by intro cGh aSr x12 r h;refine Lok.un ?_;refine cd' h ?_ ?_<;>intro h;refine iq' h fun y1 h=>(iq' h fun y2 h=>(iq' h fun y3 h=>(cs' h (bBf _ _) fun y4 h=>?_)));refine cd' h ?_ ?_<;>intro h;exact jn' (aSr _ _ _ h) (wr [] eS bS);exact jn' (aSr _ _ _ h) (wr [] eS bS);exact rp' h)
abbrev aSr:=fun p2 x12 p0 p1=>(bF0 p2 p0 p1).1 x12
abbrev aVs:=fun p2 p0 p1=>(bF0 p2 p0 p1).2
theorem aLv (p0:aU) (p1:aU) (p2:eT):FOk Tryz.prog 133 [jQ p0,jQ p1,.rp (uG p2)] (fun y=>(vI y)) (vD p0 p1 p2):=by
 refine aoP fun r h=>?_;rw [vD] at h;exact lq' p2.order (lb' (aVs _ _ _ _ _ h) (wr [] eS bS))
abbrev bCd (p1) (p2) (p3):=Z8.mutual_partial_correctness p1 p2 p3 (aQ8 p1 p2 p3) (aSq p1 p2 p3) (by intro bO0 cGf aNu aYy x8 x9 fC r h;refine Lok.un ?_;refine dO (.g 21 true (.ia 25 2 23 24)) (uD (p:=true) (b:=(decide (p1<x9))) (m:=idx fC x9) (dflt:=default) (v':=fun y=>(.trp 244 2 (x9).toNat 0)) h kr rfl rfl (fun y hy hc=>kJ (n:=244) (l:=fC) (f:=bA) (k:=.i64) (i:=x9) hy kr (Eq.trans (b:=([true&&((decide (p1<x9))==true),true&&((decide (p1<x9))==true)]:List Bool).all id) kr (dR hc (dR hc rfl))) kr kr) fun y2 h=>dC ?_);refine dO (.g 21 true (.ld 26 2 true 25)) (uD (p:=true) (b:=(decide (p1<x9))) (m:=idx fC x9) (dflt:=default) (v':=fun y=>(jQ y)) h kr rfl rfl (fun y hy hc=>nW (off:=0) (n:=244) (sz:=2) (l:=fC) (f:=bA) (g:=bA) (j:=x9) hy (fun _=>rfl) kr (Eq.trans (b:=([true&&((decide (p1<x9))==true)]:List Bool).all id) kr (dR hc rfl)) kr kr) fun y3 h=>dC ?_);refine dO (.g 21 true (.ia 30 2 27 29)) (uD (p:=true) (b:=(decide (p1<x9))) (m:=idx fC (QA .i64 (x9 - 1))) (dflt:=default) (v':=fun y=>(.trp 244 2 ((QA .i64 (x9 - 1))).toNat 0)) h kr rfl rfl (fun y hy hc=>kJ (n:=244) (l:=fC) (f:=bA) (k:=.i64) (i:=(QA .i64 (x9 - 1))) hy kr (Eq.trans (b:=([true&&((decide (p1<x9))==true),true&&((decide (p1<x9))==true)]:List Bool).all id) kr (dR hc (dR hc rfl))) kr kr) fun y4 h=>dC ?_);refine dO (.g 21 true (.ld 31 2 true 30)) (uD (p:=true) (b:=(decide (p1<x9))) (m:=idx fC (QA .i64 (x9 - 1))) (dflt:=default) (v':=fun y=>(jQ y)) h kr rfl rfl (fun y hy hc=>nW (off:=0) (n:=244) (sz:=2) (l:=fC) (f:=bA) (g:=bA) (j:=(QA .i64 (x9 - 1))) hy (fun _=>rfl) kr (Eq.trans (b:=([true&&((decide (p1<x9))==true)]:List Bool).all id) kr (dR hc rfl)) kr kr) fun y5 h=>dC ?_);refine dO (.g 21 true (.callv (some 32) 22 [26,31])) (bW1 (caps:=[.rp (uG p3.c0)]) (p:=true) (b:=(decide (p1<x9))) (m:=vD y3 y5 p3.c0) (dflt:=default) (args:=[jQ y3,jQ y5,.rp (uG p3.c0)]) (v':=(fun y=>(vI y))) h kr kr kr (aLv _ _ _) (fun hc=>by kernel_rfl) kr (fun _=>rfl) (fun hc=>(Eq.trans (b:=([true&&((decide (p1<x9))==true),true&&((decide (p1<x9))==true),true&&((decide (p1<x9))==true)]:List Bool).all id) kr (dR hc (dR hc (dR hc rfl))))) fun y6 h=>dC ?_);refine bP h fun y7 h=>?_;refine cd' h ?_ ?_<;>intro h;refine dO (.ia 45 2 42 44) (fB (m:=idx fC (QA .i64 (x9 - 1))) (v':=fun y=>(.trp 244 2 ((QA .i64 (x9 - 1))).toNat 0)) h rfl rfl (fun y hy=>kJ (n:=244) (l:=fC) (f:=bA) (k:=.i64) (i:=(QA .i64 (x9 - 1))) hy kr kr kr kr) fun y8 h=>dC ?_);refine dO (.ld 46 2 true 45) (fB (m:=idx fC (QA .i64 (x9 - 1))) (v':=fun y=>(jQ y)) h rfl rfl (fun y hy=>nW (off:=0) (n:=244) (sz:=2) (l:=fC) (f:=bA) (g:=bA) (j:=(QA .i64 (x9 - 1))) hy (fun _=>rfl) kr kr kr kr) fun y9 h=>dC ?_);refine dO (.ia 49 2 47 48) (fB (m:=idx fC x9) (v':=fun y=>(.trp 244 2 (x9).toNat 0)) h rfl rfl (fun y hy=>kJ (n:=244) (l:=fC) (f:=bA) (k:=.i64) (i:=x9) hy kr kr kr kr) fun y10 h=>dC ?_);refine dO (.ld 50 2 true 49) (fB (m:=idx fC x9) (v':=fun y=>(jQ y)) h rfl rfl (fun y hy=>nW (off:=0) (n:=244) (sz:=2) (l:=fC) (f:=bA) (g:=bA) (j:=x9) hy (fun _=>rfl) kr kr kr kr) fun y11 h=>dC ?_);refine dO (.ia 51 2 37 38) (fB (m:=idx fC x9) (v':=fun y=>(.trp 244 2 (x9).toNat 0)) h rfl rfl (fun y hy=>kJ (n:=244) (l:=fC) (f:=bA) (k:=.i64) (i:=x9) hy kr kr kr kr) fun y12 h=>dC ?_);refine dO (.st 2 51 46) (X9 (n:=244) (sz:=2) (l:=fC) (f:=bA) (j:=x9) (v:=y9) h kr kr (fun _=>rfl) kr kr (fun _=>rfl) fun y13 h=>dC ?_);refine dO (.ia 52 2 39 41) (fB (m:=idx y13 (QA .i64 (x9 - 1))) (v':=fun y=>(.trp 244 2 ((QA .i64 (x9 - 1))).toNat 0)) h rfl rfl (fun y hy=>kJ (n:=244) (l:=y13) (f:=bA) (k:=.i64) (i:=(QA .i64 (x9 - 1))) hy kr kr kr kr) fun y14 h=>dC ?_);refine dO (.st 2 52 50) (X9 (n:=244) (sz:=2) (l:=y13) (f:=bA) (j:=(QA .i64 (x9 - 1))) (v:=y11) h kr kr (fun _=>rfl) kr kr (fun _=>rfl) fun y15 h=>dC ?_);exact lb' (aNu _ _ _ _ h) (wr [] eS bS);exact lb' (aYy _ _ _ h) (wr [] eS bS)) (by intro bO0 aNu x8 bC r h;refine Lok.un ?_;refine cd' h ?_ ?_<;>intro h;exact lb' (aNu _ _ _ _ h) (wr [] eS bS);exact rb' h)
abbrev aNu:=fun p1 p2 p3=>(bCd p1 p2 p3).1
abbrev aYy:=fun p1 p2 p3=>(bCd p1 p2 p3).2
theorem bAy (p0:List aU) (p1:Int) (p2:Int) (p3:eX):cZ Tryz.prog 196 [.tre 244,vI p1,vI p2,.d (lM p3)] [(244,[.trs 2 (p0.map bA)])] Zp Zq (aEu p0 p1 p2 p3):=by
 refine aoB fun r h=>?_;rw [aEu] at h;exact lb' (aYy _ _ _ _ _ _ h) (wr [] eS bS)
abbrev bNm (p1) (p2) (p3):=aHq.partial_correctness p1 p2 p3 (aXh p1 p2 p3) (by intro cFl aRt x10 bC r h;refine Lok.un ?_;refine cd' h ?_ ?_<;>intro h;refine dO (.ia 28 2 24 27) (fB (m:=idx bC (QA .i64 (p2+x10))) (v':=fun y=>(.trp 244 2 ((QA .i64 (p2+x10))).toNat 0)) h rfl rfl (fun y hy=>kJ (n:=244) (l:=bC) (f:=bA) (k:=.i64) (i:=(QA .i64 (p2+x10))) hy kr kr kr kr) fun y1 h=>dC ?_);refine dO (.ld 29 2 true 28) (fB (m:=idx bC (QA .i64 (p2+x10))) (v':=fun y=>(jQ y)) h rfl rfl (fun y hy=>nW (off:=0) (n:=244) (sz:=2) (l:=bC) (f:=bA) (g:=bA) (j:=(QA .i64 (p2+x10))) hy (fun _=>rfl) kr kr kr kr) fun y2 h=>dC ?_);refine dO (.ia 34 2 30 33) (fB (m:=idx bC (QA .i64 (p1+x10))) (v':=fun y=>(.trp 244 2 ((QA .i64 (p1+x10))).toNat 0)) h rfl rfl (fun y hy=>kJ (n:=244) (l:=bC) (f:=bA) (k:=.i64) (i:=(QA .i64 (p1+x10))) hy kr kr kr kr) fun y3 h=>dC ?_);refine dO (.ld 35 2 true 34) (fB (m:=idx bC (QA .i64 (p1+x10))) (v':=fun y=>(jQ y)) h rfl rfl (fun y hy=>nW (off:=0) (n:=244) (sz:=2) (l:=bC) (f:=bA) (g:=bA) (j:=(QA .i64 (p1+x10))) hy (fun _=>rfl) kr kr kr kr) fun y4 h=>dC ?_);refine dO (.ia 36 2 16 19) (fB (m:=idx bC (QA .i64 (p1+x10))) (v':=fun y=>(.trp 244 2 ((QA .i64 (p1+x10))).toNat 0)) h rfl rfl (fun y hy=>kJ (n:=244) (l:=bC) (f:=bA) (k:=.i64) (i:=(QA .i64 (p1+x10))) hy kr kr kr kr) fun y5 h=>dC ?_);refine dO (.st 2 36 29) (X9 (n:=244) (sz:=2) (l:=bC) (f:=bA) (j:=(QA .i64 (p1+x10))) (v:=y2) h kr kr (fun _=>rfl) kr kr (fun _=>rfl) fun y6 h=>dC ?_);refine dO (.ia 37 2 20 23) (fB (m:=idx y6 (QA .i64 (p2+x10))) (v':=fun y=>(.trp 244 2 ((QA .i64 (p2+x10))).toNat 0)) h rfl rfl (fun y hy=>kJ (n:=244) (l:=y6) (f:=bA) (k:=.i64) (i:=(QA .i64 (p2+x10))) hy kr kr kr kr) fun y7 h=>dC ?_);refine dO (.st 2 37 35) (X9 (n:=244) (sz:=2) (l:=y6) (f:=bA) (j:=(QA .i64 (p2+x10))) (v:=y4) h kr kr (fun _=>rfl) kr kr (fun _=>rfl) fun y8 h=>dC ?_);exact lb' (aRt _ _ _ h) (wr [] eS bS);exact rb' h)
abbrev aRt:=bNm
theorem aV3 (p0:List aU) (p1:Int) (p2:Int) (p3:Int) (p4:eX):cZ Tryz.prog 202 [.tre 244,vI p1,vI p2,vI p3,.d (lM p4)] [(244,[.trs 2 (p0.map bA)])] Zp Zq (aJ7 p0 p1 p2 p3 p4):=by
 refine aoB fun r h=>?_;rw [aJ7] at h;exact lb' (aRt _ _ _ _ _ _ h) (wr [] eS bS)
abbrev bTz (p2) (p4):=aEs.partial_correctness p2 p4 (aW8 p2 p4) (by intro cG3 aNt x10 x11 bC r h;refine Lok.un ?_;refine cd' h ?_ ?_<;>intro h;refine cd' h ?_ ?_<;>intro h;exact cg' ⟨[(244,244)],[],[],[],[],[],[],[],[]⟩ h (aV3 _ _ _ _ _) fun y1 h=>(lb' (aNt _ _ _ _ h) (wr [] eS bS));exact cg' ⟨[(244,244)],[],[],[],[],[],[],[],[]⟩ h (aV3 _ _ _ _ _) fun y2 h=>(lb' (aNt _ _ _ _ h) (wr [] eS bS));exact cg' ⟨[(244,244)],[],[],[],[],[],[],[],[]⟩ h (aV3 _ _ _ _ _) fun y3 h=>(rb' h))
abbrev aNt:=bTz
theorem bZ5 (p0:List aU) (p1:Int) (p2:Int) (p3:Int) (p4:eX):cZ Tryz.prog 201 [.tre 244,vI p1,vI p2,vI p3,.d (lM p4)] [(244,[.trs 2 (p0.map bA)])] Zp Zq (aQw p0 p1 p2 p3 p4):=by
 refine aoB fun r h=>?_;rw [aQw] at h;exact lb' (aNt _ _ _ _ _ _ h) (wr [] eS bS)
abbrev bW2 (x10):=aIw.partial_correctness x10 (aYo x10) (by intro cHg aVy x13 bC r h;refine Lok.un ?_;refine cd' h ?_ ?_<;>intro h;refine dO (.ia 69 2 66 68) (fB (m:=idx bC (QA .i64 (x13+1))) (v':=fun y=>(.trp 244 2 ((QA .i64 (x13+1))).toNat 0)) h rfl rfl (fun y hy=>kJ (n:=244) (l:=bC) (f:=bA) (k:=.i64) (i:=(QA .i64 (x13+1))) hy kr kr kr kr) fun y14 h=>dC ?_);refine dO (.ld 70 2 true 69) (fB (m:=idx bC (QA .i64 (x13+1))) (v':=fun y=>(jQ y)) h rfl rfl (fun y hy=>nW (off:=0) (n:=244) (sz:=2) (l:=bC) (f:=bA) (g:=bA) (j:=(QA .i64 (x13+1))) hy (fun _=>rfl) kr kr kr kr) fun y15 h=>dC ?_);refine dO (.ia 73 2 71 72) (fB (m:=idx bC x13) (v':=fun y=>(.trp 244 2 (x13).toNat 0)) h rfl rfl (fun y hy=>kJ (n:=244) (l:=bC) (f:=bA) (k:=.i64) (i:=x13) hy kr kr kr kr) fun y16 h=>dC ?_);refine dO (.ld 74 2 true 73) (fB (m:=idx bC x13) (v':=fun y=>(jQ y)) h rfl rfl (fun y hy=>nW (off:=0) (n:=244) (sz:=2) (l:=bC) (f:=bA) (g:=bA) (j:=x13) hy (fun _=>rfl) kr kr kr kr) fun y17 h=>dC ?_);refine dO (.ia 75 2 61 62) (fB (m:=idx bC x13) (v':=fun y=>(.trp 244 2 (x13).toNat 0)) h rfl rfl (fun y hy=>kJ (n:=244) (l:=bC) (f:=bA) (k:=.i64) (i:=x13) hy kr kr kr kr) fun y18 h=>dC ?_);refine dO (.st 2 75 70) (X9 (n:=244) (sz:=2) (l:=bC) (f:=bA) (j:=x13) (v:=y15) h kr kr (fun _=>rfl) kr kr (fun _=>rfl) fun y19 h=>dC ?_);refine dO (.ia 76 2 63 65) (fB (m:=idx y19 (QA .i64 (x13+1))) (v':=fun y=>(.trp 244 2 ((QA .i64 (x13+1))).toNat 0)) h rfl rfl (fun y hy=>kJ (n:=244) (l:=y19) (f:=bA) (k:=.i64) (i:=(QA .i64 (x13+1))) hy kr kr kr kr) fun y20 h=>dC ?_);refine dO (.st 2 76 74) (X9 (n:=244) (sz:=2) (l:=y19) (f:=bA) (j:=(QA .i64 (x13+1))) (v:=y17) h kr kr (fun _=>rfl) kr kr (fun _=>rfl) fun y21 h=>dC ?_);exact lb' (aVy _ _ _ h) (wr [] eS bS);exact rb' h)
abbrev aVy:=bW2
abbrev bJj (p1) (p4) (p0):=aFi.partial_correctness p1 p4 p0 (aQb p1 p4 p0) (by intro cFg aP2 x10 x11 r h;refine Lok.un ?_;refine cd' h ?_ ?_<;>intro h;refine dO (.ia 43 2 41 42) (fB (m:=idx p0 (QA .i64 (QB (QA .u64 (QA .i64 (x10+x11))) (2 ^ 1)))) (v':=fun y=>(.trp 244 2 ((QA .i64 (QB (QA .u64 (QA .i64 (x10+x11))) (2 ^ 1)))).toNat 0)) h rfl rfl (fun y hy=>kJ (n:=244) (l:=p0) (f:=bA) (k:=.i64) (i:=(QA .i64 (QB (QA .u64 (QA .i64 (x10+x11))) (2 ^ 1)))) hy kr kr kr kr) fun y1 h=>dC ?_);refine dO (.ld 44 2 true 43) (fB (m:=idx p0 (QA .i64 (QB (QA .u64 (QA .i64 (x10+x11))) (2 ^ 1)))) (v':=fun y=>(jQ y)) h rfl rfl (fun y hy=>nW (off:=0) (n:=244) (sz:=2) (l:=p0) (f:=bA) (g:=bA) (j:=(QA .i64 (QB (QA .u64 (QA .i64 (x10+x11))) (2 ^ 1)))) hy (fun _=>rfl) kr kr kr kr) fun y2 h=>dC ?_);refine dO (.ia 47 2 45 46) (fB (m:=idx p0 p1) (v':=fun y=>(.trp 244 2 (p1).toNat 0)) h rfl rfl (fun y hy=>kJ (n:=244) (l:=p0) (f:=bA) (k:=.i64) (i:=p1) hy kr kr kr kr) fun y3 h=>dC ?_);refine dO (.ld 48 2 true 47) (fB (m:=idx p0 p1) (v':=fun y=>(jQ y)) h rfl rfl (fun y hy=>nW (off:=0) (n:=244) (sz:=2) (l:=p0) (f:=bA) (g:=bA) (j:=p1) hy (fun _=>rfl) kr kr kr kr) fun y4 h=>dC ?_);refine dO (.callv (some 49) 40 [44,48]) (aUb (m:=vD y2 y4 p4.c0) (caps:=[.rp (uG p4.c0)]) (args:=[jQ y2,jQ y4,.rp (uG p4.c0)]) (v':=(fun y=>(vI y))) h kr kr (aLv _ _ _) kr kr (fun _=>rfl) fun y5 h=>dC ?_);refine cd' h ?_ ?_<;>intro h;exact lb' (aP2 _ _ _ h) (wr [] eS bS);exact lb' (aP2 _ _ _ h) (wr [] eS bS);exact lb' (aVy _ _ _ _ h) (wr [] eS bS))
abbrev aP2:=bJj
abbrev bOn (x14):=aG3.partial_correctness x14 (aXa x14) (by intro cFp aY0 x17 iL r h;refine Lok.un ?_;refine cd' h ?_ ?_<;>intro h;refine dO (.ia 121 2 118 120) (fB (m:=idx iL (QA .i64 (x17 - 1))) (v':=fun y=>(.trp 244 2 ((QA .i64 (x17 - 1))).toNat 0)) h rfl rfl (fun y hy=>kJ (n:=244) (l:=iL) (f:=bA) (k:=.i64) (i:=(QA .i64 (x17 - 1))) hy kr kr kr kr) fun y22 h=>dC ?_);refine dO (.ld 122 2 true 121) (fB (m:=idx iL (QA .i64 (x17 - 1))) (v':=fun y=>(jQ y)) h rfl rfl (fun y hy=>nW (off:=0) (n:=244) (sz:=2) (l:=iL) (f:=bA) (g:=bA) (j:=(QA .i64 (x17 - 1))) hy (fun _=>rfl) kr kr kr kr) fun y23 h=>dC ?_);refine dO (.ia 125 2 123 124) (fB (m:=idx iL x17) (v':=fun y=>(.trp 244 2 (x17).toNat 0)) h rfl rfl (fun y hy=>kJ (n:=244) (l:=iL) (f:=bA) (k:=.i64) (i:=x17) hy kr kr kr kr) fun y24 h=>dC ?_);refine dO (.ld 126 2 true 125) (fB (m:=idx iL x17) (v':=fun y=>(jQ y)) h rfl rfl (fun y hy=>nW (off:=0) (n:=244) (sz:=2) (l:=iL) (f:=bA) (g:=bA) (j:=x17) hy (fun _=>rfl) kr kr kr kr) fun y25 h=>dC ?_);refine dO (.ia 127 2 113 114) (fB (m:=idx iL x17) (v':=fun y=>(.trp 244 2 (x17).toNat 0)) h rfl rfl (fun y hy=>kJ (n:=244) (l:=iL) (f:=bA) (k:=.i64) (i:=x17) hy kr kr kr kr) fun y26 h=>dC ?_);refine dO (.st 2 127 122) (X9 (n:=244) (sz:=2) (l:=iL) (f:=bA) (j:=x17) (v:=y23) h kr kr (fun _=>rfl) kr kr (fun _=>rfl) fun y27 h=>dC ?_);refine dO (.ia 128 2 115 117) (fB (m:=idx y27 (QA .i64 (x17 - 1))) (v':=fun y=>(.trp 244 2 ((QA .i64 (x17 - 1))).toNat 0)) h rfl rfl (fun y hy=>kJ (n:=244) (l:=y27) (f:=bA) (k:=.i64) (i:=(QA .i64 (x17 - 1))) hy kr kr kr kr) fun y28 h=>dC ?_);refine dO (.st 2 128 126) (X9 (n:=244) (sz:=2) (l:=y27) (f:=bA) (j:=(QA .i64 (x17 - 1))) (v:=y25) h kr kr (fun _=>rfl) kr kr (fun _=>rfl) fun y29 h=>dC ?_);exact lb' (aY0 _ _ _ h) (wr [] eS bS);exact rb' h)
abbrev aY0:=bOn
abbrev bL9 (p2) (p4) (p0):=aDq.partial_correctness p2 p4 p0 (aR4 p2 p4 p0) (by intro cHn aOl x14 x15 r h;refine Lok.un ?_;refine cd' h ?_ ?_<;>intro h;refine dO (.ia 95 2 93 94) (fB (m:=idx p0 p2) (v':=fun y=>(.trp 244 2 (p2).toNat 0)) h rfl rfl (fun y hy=>kJ (n:=244) (l:=p0) (f:=bA) (k:=.i64) (i:=p2) hy kr kr kr kr) fun y6 h=>dC ?_);refine dO (.ld 96 2 true 95) (fB (m:=idx p0 p2) (v':=fun y=>(jQ y)) h rfl rfl (fun y hy=>nW (off:=0) (n:=244) (sz:=2) (l:=p0) (f:=bA) (g:=bA) (j:=p2) hy (fun _=>rfl) kr kr kr kr) fun y7 h=>dC ?_);refine dO (.ia 99 2 97 98) (fB (m:=idx p0 (QA .i64 (QB (QA .u64 (QA .i64 (x14+x15))) (2 ^ 1)))) (v':=fun y=>(.trp 244 2 ((QA .i64 (QB (QA .u64 (QA .i64 (x14+x15))) (2 ^ 1)))).toNat 0)) h rfl rfl (fun y hy=>kJ (n:=244) (l:=p0) (f:=bA) (k:=.i64) (i:=(QA .i64 (QB (QA .u64 (QA .i64 (x14+x15))) (2 ^ 1)))) hy kr kr kr kr) fun y8 h=>dC ?_);refine dO (.ld 100 2 true 99) (fB (m:=idx p0 (QA .i64 (QB (QA .u64 (QA .i64 (x14+x15))) (2 ^ 1)))) (v':=fun y=>(jQ y)) h rfl rfl (fun y hy=>nW (off:=0) (n:=244) (sz:=2) (l:=p0) (f:=bA) (g:=bA) (j:=(QA .i64 (QB (QA .u64 (QA .i64 (x14+x15))) (2 ^ 1)))) hy (fun _=>rfl) kr kr kr kr) fun y9 h=>dC ?_);refine dO (.callv (some 101) 92 [96,100]) (aUb (m:=vD y7 y9 p4.c0) (caps:=[.rp (uG p4.c0)]) (args:=[jQ y7,jQ y9,.rp (uG p4.c0)]) (v':=(fun y=>(vI y))) h kr kr (aLv _ _ _) kr kr (fun _=>rfl) fun y10 h=>dC ?_);refine cd' h ?_ ?_<;>intro h;exact lb' (aOl _ _ _ h) (wr [] eS bS);exact lb' (aOl _ _ _ h) (wr [] eS bS);exact lb' (aY0 _ _ _ _ h) (wr [] eS bS))
abbrev aOl:=bL9
abbrev aJ1 (p4):=aGz.mutual_partial_correctness p4 (fun p3=>aT9 p3 p4) (fun p0 p1 p2 p3 r=>bF Tryz.prog 197 [.tre 244,vI p1,vI p2,vI p3,.d (lM p4)] [(244,[.trs 2 (p0.map bA)])] (BQ Zp Zq r)) (fun p1 p2 p3=>aRb p1 p2 p3 p4) (fun p1 p2 p3=>aYk p1 p2 p3 p4) (fun p1 p3=>aQg p1 p3 p4) (by intro bX8 aDa p3 p1 p2 dF pW r h;refine Jok.un (bP h fun y41 h=>?_);refine cd' h ?_ ?_<;>intro h;exact cg' ⟨[(244,244)],[],[],[],[],[],[],[],[]⟩ h (aDa _ _ _ _) fun y42 h=>(rb' h);exact rb' h) (by intro cHk aYn p0 p1 p2 p3 r h;refine ao' ?_;refine cd' h ?_ ?_<;>intro h;exact lb' (aP2 _ _ _ _ _ _ h) (wr [] eS bS);refine cd' h ?_ ?_<;>intro h;exact lb' (aOl _ _ _ _ _ _ h) (wr [] eS bS);refine cd' h ?_ ?_<;>intro h;exact jn' (aYn _ _ _ _ _ _ _ h) (wr [] eS bS);exact jn' (aYn _ _ _ _ _ _ _ h) (wr [] eS bS)) (by intro bM0 aIa p1 p2 p3 p0 x20 x21 r h;refine Jok.un ?_;exact lb' (aIa _ _ _ _ _ _ _ h) (wr [] eS bS)) (by intro bM0 cEg aIa aXl p1 p2 p3 p0 dF iI r h;refine Lok.un ?_;refine cd' h ?_ ?_<;>intro h;refine dO (.ia 163 2 159 162) (fB (m:=idx p0 (QA .i64 ((QA .i64 ((QA .i64 ((QA .i64 (QB (QA .u64 (QA .i64 (p1+p3))) (2 ^ 1)))+p2)) - 1)) - (QA .i64 (QB (QA .u64 (QA .i64 (dF+iI))) (2 ^ 1)))))) (v':=fun y=>(.trp 244 2 ((QA .i64 ((QA .i64 ((QA .i64 ((QA .i64 (QB (QA .u64 (QA .i64 (p1+p3))) (2 ^ 1)))+p2)) - 1)) - (QA .i64 (QB (QA .u64 (QA .i64 (dF+iI))) (2 ^ 1)))))).toNat 0)) h rfl rfl (fun y hy=>kJ (n:=244) (l:=p0) (f:=bA) (k:=.i64) (i:=(QA .i64 ((QA .i64 ((QA .i64 ((QA .i64 (QB (QA .u64 (QA .i64 (p1+p3))) (2 ^ 1)))+p2)) - 1)) - (QA .i64 (QB (QA .u64 (QA .i64 (dF+iI))) (2 ^ 1)))))) hy kr kr kr kr) fun y30 h=>dC ?_);refine dO (.ld 164 2 true 163) (fB (m:=idx p0 (QA .i64 ((QA .i64 ((QA .i64 ((QA .i64 (QB (QA .u64 (QA .i64 (p1+p3))) (2 ^ 1)))+p2)) - 1)) - (QA .i64 (QB (QA .u64 (QA .i64 (dF+iI))) (2 ^ 1)))))) (v':=fun y=>(jQ y)) h rfl rfl (fun y hy=>nW (off:=0) (n:=244) (sz:=2) (l:=p0) (f:=bA) (g:=bA) (j:=(QA .i64 ((QA .i64 ((QA .i64 ((QA .i64 (QB (QA .u64 (QA .i64 (p1+p3))) (2 ^ 1)))+p2)) - 1)) - (QA .i64 (QB (QA .u64 (QA .i64 (dF+iI))) (2 ^ 1)))))) hy (fun _=>rfl) kr kr kr kr) fun y31 h=>dC ?_);refine dO (.ia 167 2 165 166) (fB (m:=idx p0 (QA .i64 (QB (QA .u64 (QA .i64 (dF+iI))) (2 ^ 1)))) (v':=fun y=>(.trp 244 2 ((QA .i64 (QB (QA .u64 (QA .i64 (dF+iI))) (2 ^ 1)))).toNat 0)) h rfl rfl (fun y hy=>kJ (n:=244) (l:=p0) (f:=bA) (k:=.i64) (i:=(QA .i64 (QB (QA .u64 (QA .i64 (dF+iI))) (2 ^ 1)))) hy kr kr kr kr) fun y32 h=>dC ?_);refine dO (.ld 168 2 true 167) (fB (m:=idx p0 (QA .i64 (QB (QA .u64 (QA .i64 (dF+iI))) (2 ^ 1)))) (v':=fun y=>(jQ y)) h rfl rfl (fun y hy=>nW (off:=0) (n:=244) (sz:=2) (l:=p0) (f:=bA) (g:=bA) (j:=(QA .i64 (QB (QA .u64 (QA .i64 (dF+iI))) (2 ^ 1)))) hy (fun _=>rfl) kr kr kr kr) fun y33 h=>dC ?_);refine dO (.callv (some 169) 158 [164,168]) (aUb (m:=vD y31 y33 p4.c0) (caps:=[.rp (uG p4.c0)]) (args:=[jQ y31,jQ y33,.rp (uG p4.c0)]) (v':=(fun y=>(vI y))) h kr kr (aLv _ _ _) kr kr (fun _=>rfl) fun y34 h=>dC ?_);refine cd' h ?_ ?_<;>intro h;exact lb' (aIa _ _ _ _ _ _ _ h) (wr [] eS bS);exact lb' (aIa _ _ _ _ _ _ _ h) (wr [] eS bS);refine bP h fun y35 h=>?_;refine cd' h ?_ ?_<;>intro h;refine cg' ⟨[(244,244)],[],[],[],[],[],[],[],[]⟩ h (bZ5 _ _ _ _ _) fun y36 h=>?_;exact jn' (aXl _ _ _ _ _ _ h) (wr [] eS bS);exact jn' (aXl _ _ _ _ _ _ h) (wr [] eS bS)) (by intro cG7 bX8 aSy aDa p1 p3 dF p2 pR r h;refine Jok.un (bP h fun y38 h=>?_);refine cd' h ?_ ?_<;>intro h;exact cg' ⟨[(244,244)],[],[],[],[],[],[],[],[]⟩ h (aDa _ _ _ _) fun y39 h=>(jn' (aSy _ _ _ _ _ _ h) (wr [] eS bS));exact jn' (aSy _ _ _ _ _ _ h) (wr [] eS bS))
abbrev aSy:=fun p3 p4=>(aJ1 p4).1 p3
theorem aDa (p0:List aU) (p1:Int) (p2:Int) (p3:Int) (p4:eX):cZ Tryz.prog 197 [.tre 244,vI p1,vI p2,vI p3,.d (lM p4)] [(244,[.trs 2 (p0.map bA)])] Zp Zq (aEq p0 p1 p2 p3 p4):=fun r h=>(aJ1 p4).2.1 p0 p1 p2 p3 r h
abbrev aYn:=fun p1 p2 p3 p4=>(aJ1 p4).2.2.1 p1 p2 p3
abbrev aIa:=fun p1 p2 p3 p4=>(aJ1 p4).2.2.2.1 p1 p2 p3
abbrev aXl:=fun p1 p3 p4=>(aJ1 p4).2.2.2.2 p1 p3
abbrev aX8 (p1) (p2):=aHs.mutual_partial_correctness p1 p2 (aXk p1 p2) (aWz p1 p2) (aU9 p1 p2) (by intro cHm aYc x6 qV r h;exact Jok.un (lb' (aYc _ _ _ h) (wr [] eS bS))) (by intro cCb aLr x6 pM r h;refine Lok.un ?_;refine cd' h ?_ ?_<;>intro h;exact lb' (aLr _ _ _ _ _ h) (wr [] eS bS);exact rb' h) (by intro cHp cCb aR2 aLr x6 nE nL oJ r h;refine Lok.un ?_;refine cd' h ?_ ?_<;>intro h;exact cg' ⟨[(244,244)],[],[],[],[],[],[],[],[]⟩ h (aDa _ _ _ _ _) fun y7 h=>(lb' (aLr _ _ _ _ _ h) (wr [] eS bS));refine cd' h ?_ ?_<;>intro h;exact cg' ⟨[(244,244)],[],[],[],[],[],[],[],[]⟩ h (aDa _ _ _ _ _) fun y8 h=>(jn' (aR2 _ _ _ h) (wr [] eS bS));exact jn' (aR2 _ _ _ h) (wr [] eS bS))
abbrev aR2:=fun p1 p2=>(aX8 p1 p2).1
abbrev aYc:=fun p1 p2=>(aX8 p1 p2).2.1
abbrev aLr:=fun p1 p2=>(aX8 p1 p2).2.2
abbrev bOh (p1) (p2):=aFf.partial_correctness p1 p2 (aWe p1 p2) (by intro cF5 aT8 x7 x8 bC r h;refine Lok.un ?_;refine cd' h ?_ ?_<;>intro h;exact cg' ⟨[(244,244)],[],[],[],[],[],[],[],[]⟩ h (bAy _ _ _ _) fun y1 h=>(lb' (aT8 _ _ _ _ h) (wr [] eS bS));exact cg' ⟨[(244,244)],[],[],[],[],[],[],[],[]⟩ h (bAy _ _ _ _) fun y2 h=>(lb' (aYc _ _ _ _ _ h) (wr [] eS bS)))
abbrev aT8:=bOh
theorem bXc (p0:List aU) (p1:Int) (p2:eX):cZ Tryz.prog 172 [.tre 244,vI p1,.d (lM p2)] [(244,[.trs 2 (p0.map bA)])] Zp Zq (aP9 p0 p1 p2):=by
 refine aoB fun r h=>?_;rw [aP9] at h;exact lb' (aT8 _ _ _ _ _ _ h) (wr [] eS bS)
theorem bPj (p0:List aU) (p1:eX):cZ Tryz.prog 132 [.tre 244,.d (lM p1)] [(244,[.trs 2 (p0.map bA)])] Zp Zq (aGt p0 p1):=by
 refine aoB fun r h=>?_;rw [aGt] at h;refine aO (.len 6 5) (ps (vI (ln p0)) (aNs (n:=244) (l:=p0.map bA) (L:=p0.length) kr kr (QH ..)) (oC ?_));exact cg' ⟨[(244,244)],[],[],[],[],[],[],[],[]⟩ h (bXc _ _ _) fun y1 h=>(rb' h)
abbrev bUv (y2):=Y0.partial_correctness y2 (aVp y2) (by intro cEm aR3 x14 x60 r h;refine Lok.un ?_;refine cd' h ?_ ?_<;>intro h;refine aO (.ia 62 2 58 60) (vs (fun (y:aU)=>(.trp 372 2 (x60).toNat 0)) h (fun y hy=>kJ (n:=372) (l:=y2) (f:=bA) (k:=.i64) (i:=x60) hy kr kr kr kr) fun y7 h=>oC ?_);refine aO (.ld 63 2 true 62) (vs (fun (y:aU)=>(jQ y)) h (fun y hy=>nW (off:=0) (n:=372) (sz:=2) (l:=y2) (f:=bA) (g:=bA) (j:=x60) hy (fun _=>rfl) kr kr kr kr) fun y8 h=>oC ?_);refine aO (.bsl 67 64 1 [66]) (bI (l:=([y8.row]:List (List aA))) (f:=(cSl 3 aB)) (g:=(cSl 3 aB)) kr (fun _=>rfl) kr (oC ?_));exact aq' 14 (cSl 3 aB) h fun y9 h=>(lb' (aR3 _ _ _ h) (wr [(14,.old 14)] (eo 14 eS) bS));exact rw' (s':=⟨[(4,.osl 243 64 1 (x14.map (cSl 3 aB))),(5,vI 0)],[]⟩) (wr [(243,.old 4)] (eo 4 eS) aX) (rb' h))
abbrev aR3:=bUv
abbrev kV:=aBr.mutual_partial_correctness aUg aQo (fun p0 p1 p2 p3 p4 r=>bF Tryz.prog 43 [eP p0,.rp (qY p1),.rp (qF p2),.rp [.sl 1 (p3.map (cSl 3 aB))],.rp (iM p4)] [] (PQ (fun y=>(.tup [bN y.1,vI y.2])) r)) (fun p0 p1 p2 p3 r=>bF Tryz.prog 44 [cK p0,iG p1,.d (.sl 1 (p2.map (cSl 3 aB))),iJ p3] [] (PQ (fun y=>(.tup [bN y.1,vI y.2])) r)) aZc aQ2 (fun p0 p1 p2 p3 r=>bF Tryz.prog 17 [cK p0,iG p1,.d (.sl 1 (p2.map (cSl 3 aB))),fO p3] [] (PQ (fun y=>(.tup [.d (.sl 1 (y.1.map (cSl 3 aB))),vI y.2])) r)) aRw aZ8 aWv (fun p0 r=>bF Tryz.prog 47 [zM p0] [] (PQ (fun y=>(.tup [.d (.sl 1 (y.1.map (cSl 3 aB))),vI y.2])) r)) aSl (fun p0 p1 r=>bF Tryz.prog 45 [eP p0,.rp [.sl 1 (p1.map iE)]] [] (BQ Zl Zm r)) (fun p0 p1 r=>bF Tryz.prog 46 [xZ p0,eP p1] [] (BQ Zl Zm r)) aVq (fun p0 p1 r=>bF Tryz.prog 90 [zM p0,.d (.sl 1 (p1.map (cSl 3 aB)))] [] (BQ Zn Zo r)) (fun p0 r=>bF Tryz.prog 89 [zM p0] [] (PQ (fun y=>(.tup [.d (.sl 1 (y.1.map (cSl 3 aB))),vI y.2])) r)) aVv (fun p0 p1 r=>bF Tryz.prog 131 [.d (.sl 1 (p0.map (cSl 3 aB))),xZ p1] [] (PQ (fun y=>(.tup [.d (.sl 1 (y.1.map (cSl 3 aB))),vI y.2])) r)) aV6 aUh aR6 aZm aY3 (by intro bNp bYa aKe aPu aNf aDi y1 p1 x20 p0 gY x9 x28 r h;refine Lok.un ?_;refine cd' h ?_ ?_<;>intro h;refine iq' h fun y3 h=>?_;refine aO (.callv (some 36) 34 [35]) (aGk (m:=aKe y1 y3.eval.c0 y3.eval.c1 y3.eval.c2 y3.eval.c3) (caps:=[.rp (qY y3.eval.c0),.rp (qF y3.eval.c1),.rp [.sl 1 (y3.eval.c2.map (cSl 3 aB))],.rp (iM y3.eval.c3)]) (args:=[eP y1,.rp (qY y3.eval.c0),.rp (qF y3.eval.c1),.rp [.sl 1 (y3.eval.c2.map (cSl 3 aB))],.rp (iM y3.eval.c3)]) (v':=(fun y=>(.tup [bN y.1,vI y.2]))) h kr kr (aDi _ _ _ _ _) kr kr (fun _=>rfl) fun y4 h=>oC ?_);refine cd' h ?_ ?_<;>intro h;exact rw' (s':=⟨[(4,.osl 243 64 1 (([]:List (List aA)).map (cSl 3 aB))),(5,vI y4.2)],[]⟩) (wr [(243,.new 64 1)] (en eS) aX) (rb' h);refine aO (.bsl 44 43 3 [43]) (bI (l:=([y4.1]:List aA)) (f:=aB) (g:=aB) kr (fun _=>rfl) kr (oC ?_));refine aq' 9 aB h fun y5 h=>?_;exact lb' (aPu _ _ _ _ _ _ _ _ h) (wr [(9,.old 9)] (es (es (es (eo 9 eS)))) bS);refine aO (.bsl 51 167 2 [50]) (bI (l:=([aU.mk y1 x9]:List aU)) (f:=bA) (g:=bA) kr (fun _=>rfl) kr (oC ?_));refine aO (.app 52 167 2 48 47 51) (aWb (l:=gY) (m:=([aU.mk y1 x9]:List aU)) (f:=bA) [356] h kr kr kr kr (fun _=>rfl) fun y6 h=>oC ?_);exact lb' (aNf _ _ _ _ _ h) (tw [.rn [(52,346)]] (wr [] eS bS))) (by intro bNp aPu p1 p0 x20 gY r h;refine Lok.un ?_;refine cd' h ?_ ?_<;>intro h;refine iq' h fun y1 h=>?_;refine aO (.bsl 24 43 3 []) (bI (l:=([]:List aA)) (f:=aB) (g:=aB) kr (fun _=>rfl) kr (oC ?_));refine lq' p0.order ?_;exact lb' (aPu _ _ _ _ _ _ _ _ h) (tw [.rn [(346,356)]] (wr [(9,.old 9)] (es (es (es (eo 9 eS)))) bS));refine tw' 0 [.fzb 2] (cg' ⟨[(244,346)],[],[],[],[],[],[],[],[]⟩ h (bPj _ _) fun y2 h=>?_);refine aO (.bsl 57 64 1 []) (bI (l:=([]:List (List aA))) (f:=(cSl 3 aB)) (g:=(cSl 3 aB)) kr (fun _=>rfl) kr (oC ?_));refine aO (.len 59 58) (ps (vI (ln y2)) (aNs (n:=346) (l:=y2.map bA) (L:=y2.length) kr kr (QH ..)) (oC ?_));exact lb' (aR3 _ _ _ _ h) (tw [.rn [(346,372)]] (wr [(14,.old 14)] (eo 14 eS) bS))) (by intro bRp aN3 p0 p1 p2 p3 p4 r h;refine ao' ?_;refine dO (.bsl 11 64 1 [10]) (uC (l:=([p0]:List (List aA))) (f:=(cSl 3 aB)) (g:=(cSl 3 aB)) kr (fun _=>rfl) (dC ?_));exact tY 11 [11] [] (cSl 3 aB) h fun y1 h=>(cs' h (aN3 _ _ _ _) fun y2 h=>(rp' h))) (by intro bX3 aKt p0 p1 p2 p3 r h;refine ao' (lq' p3.kids (lq' p3.sub (cs' h (cCe _ _ _) fun y1 h=>?_)));refine cd' h ?_ ?_<;>intro h;exact rp' h;refine cd' h ?_ ?_<;>intro h;refine dO (.g 36 false (.len 40 39)) (aAl (p:=true) (b:=(decide (p3.up<0))) (v':=(vI (ln p2))) kr rfl rfl (fun hc=>I7 (sz:=1) (l:=p2) (f:=(cSl 3 aB)) (Eq.trans (b:=([true&&((decide (p3.up<0))==false)]:List Bool).all id) kr (dR hc rfl)) kr) (dC ?_));refine bR h fun y2 h=>(bR h fun y3 h=>?_);refine dO (.g 48 false (.ia 54 1 51 53)) (uD (p:=true) (b:=y3) (m:=idx p2 p3.up) (dflt:=default) (v':=fun y=>(.rp [.sl 3 (y.map aB)])) h kr rfl rfl (fun y hy hc=>yD (l:=p2) (f:=(cSl 3 aB)) (g:=(cSl 3 aB)) (k:=.i64) hy (fun _=>rfl) (Eq.trans (b:=([true&&(y3==false),true&&(y3==false)]:List Bool).all id) kr (dR hc (dR hc rfl))) kr kr) fun y4 h=>dC ?_);refine dO (.g 48 false (.len 56 55)) (aAl (p:=true) (b:=y3) (v':=(vI (ln y4))) kr rfl rfl (fun hc=>I7 (sz:=3) (l:=y4) (f:=aB) (Eq.trans (b:=([true&&(y3==false)]:List Bool).all id) kr (dR hc rfl)) kr) (dC ?_));refine bR h fun y5 h=>?_;refine cd' h ?_ ?_<;>intro h;exact rp' h;exact iq' h fun y6 h=>(iq' h fun y7 h=>(rp' h));refine aO (.bld 77 [bJ,bJ,lX,bJ,bJ,mK,.nil 3,.nil 1] [(0,1,70),(1,1,72),(2,1,74),(3,3,76)]) (nG (c:=[vI p3.kind,vI p3.op,vB p3.not_,vI p3.value.kind,vI p3.value.num,vS p3.value.text,.nil 3,.nil 1]) kr kr rfl (oC ?_));refine lq' p3.kids ?_;exact lb' (aKt _ _ _ _ _ _ _ h) (wr [(101,.new 43 3)] eS (bs_ (bs_ (bs_ (bs_ (jN (c0:=[vI p3.kind,vI p3.op,vB p3.not_,vI p3.value.kind,vI p3.value.num,vS p3.value.text,.nil 3,.nil 1]) kr (bL (dY kr kr) (bL (dY kr kr) (bL (dY kr kr) (bL (dY kr kr) (bL (dY kr kr) (bL (dY kr kr) (bL (U1 kr kr) (bL (dY kr kr) jO)))))))) aX))))))) (by intro bRp bX3 bVo aN3 aKt aLq p2 p3 p0 p1 x81 gK r h;refine Lok.un ?_;refine cd' h ?_ ?_<;>intro h;refine iq' h fun y8 h=>(cs' h (aN3 _ _ _ _) fun y9 h=>?_);refine cd' h ?_ ?_<;>intro h;exact rp' h;refine aO (.bsl 100 43 3 [99]) (bI (l:=([y9.1]:List aA)) (f:=aB) (g:=aB) kr (fun _=>rfl) kr (oC ?_));refine aq' 101 aB h fun y10 h=>?_;exact lb' (aKt _ _ _ _ _ _ _ h) (wr [(101,.old 101)] eS (bs_ (bs_ (bs_ (bs_ (jN (c0:=[vI p3.kind,vI p3.op,vB p3.not_,vI p3.value.kind,vI p3.value.num,vS p3.value.text,.osl 101 43 3 (y10.map aB),.nil 1]) kr (bL (dY kr kr) (bL (dY kr kr) (bL (dY kr kr) (bL (dY kr kr) (bL (dY kr kr) (bL (dY kr kr) (bL (jD (t:=101) kr kr) (bL (dY kr kr) jO)))))))) aX))))));refine lq' p3.sub ?_;exact lb' (aLq _ _ _ _ _ _ _ _ h) (wr [(101,.old 101)] eS (bs_ (bs_ (bs_ (jN (c0:=[vI p3.kind,vI p3.op,vB p3.not_,vI p3.value.kind,vI p3.value.num,vS p3.value.text,.osl 101 43 3 (gK.map aB),.nil 1]) kr (bL (dY kr kr) (bL (dY kr kr) (bL (dY kr kr) (bL (dY kr kr) (bL (dY kr kr) (bL (dY kr kr) (bL (jD (t:=101) kr kr) (bL (bFl kr kr) jO)))))))) aX)))))) (by intro bVo cEs aLq aSo p2 p3 p0 p1 gK oG qJ r h;refine Lok.un ?_;refine cd' h ?_ ?_<;>intro h;refine iq' h fun y11 h=>(cs' h (aSo _ _ _ _) fun y12 h=>?_);refine cd' h ?_ ?_<;>intro h;exact rp' h;exact lb' (aLq _ _ _ _ _ _ _ _ h) (wr [(101,.old 101)] eS (bs_ (bs_ (bs_ (jN (c0:=[vI p3.kind,vI p3.op,vB p3.not_,vI p3.value.kind,vI p3.value.num,vS p3.value.text,.osl 101 43 3 (gK.map aB),.d (.sl 1 (y12.1.map (cSl 3 aB)))]) kr (bL (dY kr kr) (bL (dY kr kr) (bL (dY kr kr) (bL (dY kr kr) (bL (dY kr kr) (bL (dY kr kr) (bL (jD (t:=101) kr kr) (bL (dY kr kr) jO)))))))) aX)))));exact cs' h (bJq _) fun y13 h=>(rp' h)) (by intro bWx aN1 p0 p1 p2 p3 r h;refine ao' (jY cI p3.tables (iP p3.on_ (aA4 cI p3.tables (bR h fun y1 h=>?_))));refine cd' h ?_ ?_<;>intro h;exact rw' (s':=⟨[(8,.d (.sl 1 (([]:List (List aA)).map (cSl 3 aB)))),(9,vI 4)],[]⟩) (wr [] (ew eS) aX) (rp' h);refine aO (.bld 36 [.nil 1,.nil 1,.nil 1,.nil 2,.nf,lX,bJ] [(5,1,33),(6,1,35)]) (nG (c:=[.nil 1,.nil 1,.nil 1,.nil 2,.nf,vB p3.distinct,vI p3.limit]) kr kr rfl (oC ?_));refine jY cI p3.tables ?_;exact lb' (aN1 _ _ _ _ _ _ _ h) (wr [(62,.new 39 1)] eS (bs_ (bs_ (bs_ (bs_ (jN (c0:=[.nil 1,.nil 1,.nil 1,.nil 2,.nf,vB p3.distinct,vI p3.limit]) kr (bL (U1 kr kr) (bL (dY kr kr) (bL (dY kr kr) (bL (dY kr kr) (bL (dY kr kr) (bL (dY kr kr) (bL (dY kr kr) jO))))))) aX))))))) (by intro bWx bNa aN1 aNk p3 p0 p1 p2 x40 eH r h;refine Lok.un ?_;refine cd' h ?_ ?_<;>intro h;refine iB cI h fun y2 h=>(iP p1.tables (bR h fun y3 h=>?_));refine cd' h ?_ ?_<;>intro h;exact rw' (s':=⟨[(8,.d (.sl 1 (([]:List (List aA)).map (cSl 3 aB)))),(9,vI 4)],[]⟩) (wr [] (ew eS) aX) (rp' h);refine iq' h fun y4 h=>?_;refine dO (.bsl 61 39 1 [60]) (uC (l:=([y4.rows]:List (List (List aA)))) (f:=(cSl 1 (cSl 3 aB))) (g:=(cSl 1 (cSl 3 aB))) kr (fun _=>rfl) (dC ?_));refine tY 62 [54] [10] (cSl 1 (cSl 3 aB)) h fun y5 h=>?_;exact lb' (aN1 _ _ _ _ _ _ _ h) (wr [(62,.old 62)] eS (bs_ (bs_ (bs_ (bs_ (jN (c0:=[.osl 62 39 1 (y5.map (cSl 1 (cSl 3 aB))),.nil 1,.nil 1,.nil 2,.nf,vB p3.distinct,vI p3.limit]) kr (bL (jD (t:=62) kr kr) (bL (dY kr kr) (bL (dY kr kr) (bL (dY kr kr) (bL (dY kr kr) (bL (dY kr kr) (bL (dY kr kr) jO))))))) aX))))));refine tw' 0 [.fzb 4,.fzb 5,.fzb 6] (lq' p3.on_ ?_);exact lb' (aNk _ _ _ _ _ _ _ _ h) (wr [(62,.old 62),(79,.new 83 1)] eS (bs_ (jN (c0:=[.osl 62 39 1 (eH.map (cSl 1 (cSl 3 aB))),.nil 1,.nil 1,.nil 2,.nf,vB p3.distinct,vI p3.limit]) kr (bL (jD (t:=62) kr kr) (bL (U1 kr kr) (bL (dY kr kr) (bL (dY kr kr) (bL (dY kr kr) (bL (dY kr kr) (bL (dY kr kr) jO))))))) aX)))) (by intro bNa bPl aNk aMx p0 p1 p2 p3 eH x69 gU r h;refine Lok.un ?_;refine cd' h ?_ ?_<;>intro h;refine iq' h fun y6 h=>(gM ⟨[],[],[],[],[],[(243,77)],[],[77],[]⟩ [] [] h (aOe _ _ _ _) fun y7 h=>?_);refine dO (.bsl 78 83 1 [77]) (uC (l:=([y7]:List (List bU))) (f:=(cSl 1 iE)) (g:=(cSl 1 iE)) kr (fun _=>rfl) (dC ?_));refine tY 79 [74] [10] (cSl 1 iE) h fun y8 h=>?_;exact lb' (aNk _ _ _ _ _ _ _ _ h) (wr [(62,.old 62),(79,.old 79)] eS (bs_ (jN (c0:=[.osl 62 39 1 (eH.map (cSl 1 (cSl 3 aB))),.osl 79 83 1 (y8.map (cSl 1 iE)),.nil 1,.nil 2,.nf,vB p3.distinct,vI p3.limit]) kr (bL (jD (t:=62) kr kr) (bL (jD (t:=79) kr kr) (bL (dY kr kr) (bL (dY kr kr) (bL (dY kr kr) (bL (dY kr kr) (bL (dY kr kr) jO))))))) aX)));refine cg' ⟨[],[],[],[],[],[(243,85)],[],[85],[]⟩ h (aOe _ _ _ _) fun y9 h=>(lq' p3.order ?_);exact lb' (aMx _ _ _ _ _ _ (_,_,_) _ h) (wr [(62,.old 62),(79,.old 79),(85,.old 85),(107,.new 96 2)] eS (bs_ (jN (c0:=[.osl 62 39 1 (eH.map (cSl 1 (cSl 3 aB))),.osl 79 83 1 (gU.map (cSl 1 iE)),.osl 85 94 1 (y9.map iE),.nil 2,.nf,vB p3.distinct,vI p3.limit]) kr (bL (jD (t:=62) kr kr) (bL (jD (t:=79) kr kr) (bL (jD (t:=85) kr kr) (bL (U1 kr kr) (bL (dY kr kr) (bL (dY kr kr) (bL (dY kr kr) jO))))))) aX)))) (by intro bPl cF0 aMx bBe p0 p1 p2 p3 eH gU ky9 r h;refine Lok.un ?_;refine cd' h ?_ ?_<;>intro h;refine iq' h fun y10 h=>?_;refine dO (.bsl 99 47 10 [98]) (uC (l:=([y10.expr]:List aJ)) (f:=aV) (g:=iM) kr lY (dC ?_));refine gM ⟨[],[],[],[],[],[(243,100)],[],[100],[]⟩ [] [] h (aOe _ _ _ _) fun y11 h=>(iB iE h fun y12 h=>?_);refine dO (.bsl 106 96 2 [105]) (uC (l:=([mU.mk y12 y10.desc]:List mU)) (f:=uV) (g:=uV) kr (fun _=>rfl) (dC ?_));refine tY 107 [95] [10] uV h fun y13 h=>?_;exact lb' (aMx _ _ _ _ _ _ (_,_,_) _ h) (wr [(62,.old 62),(79,.old 79),(85,.old 85),(107,.old 107)] eS (bs_ (jN (c0:=[.osl 62 39 1 (eH.map (cSl 1 (cSl 3 aB))),.osl 79 83 1 (gU.map (cSl 1 iE)),.osl 85 94 1 (ky9.1.map iE),.osl 107 96 2 (y13.map uV),.nf,vB p3.distinct,vI p3.limit]) kr (bL (jD (t:=62) kr kr) (bL (jD (t:=79) kr kr) (bL (jD (t:=85) kr kr) (bL (jD (t:=107) kr kr) (bL (dY kr kr) (bL (dY kr kr) (bL (dY kr kr) jO))))))) aX)));exact cg' ⟨[],[],[],[],[],[(243,113)],[],[113],[]⟩ h (aOe _ _ _ _) fun y14 h=>(tw' 0 [.fzb 18] (cs' h (bBe _) fun y15 h=>(rp' h)))) (by intro bZx cG2 cG4 aL3 bAq bIf p0 r h;refine ao' (cs' h (bIf _) fun y1 h=>?_);refine cd' h ?_ ?_<;>intro h;exact rw' (s':=⟨[(2,.d (.sl 1 (([]:List (List aA)).map (cSl 3 aB)))),(3,vI y1.2)],[]⟩) (wr [] (ew eS) aX) (rp' h);refine cg' ⟨[],[],[],[],[],[(243,251)],[],[251],[]⟩ h (bAq _ _) fun y2 h=>?_;refine cd' h ?_ ?_<;>intro h;exact rw' (s':=⟨[(2,.d (.sl 1 (([]:List (List aA)).map (cSl 3 aB)))),(3,vI y2.2)],[]⟩) (wr [] (ew eS) aX) (rp' h);refine aO (.bsl 28 64 1 []) (bI (l:=([]:List (List aA))) (f:=(cSl 3 aB)) (g:=(cSl 3 aB)) kr (fun _=>rfl) kr (oC ?_));exact lq' y2.1 (lb' (aL3 _ _ _ _ _ h) (wr [(6,.old 6),(4,.old 4)] (es (eo 6 (eo 4 eS))) bS))) (by intro bZx cEu aL3 bFr y2 p0 x6 x31 r h;refine Lok.un ?_;refine cd' h ?_ ?_<;>intro h;refine iq' h fun y3 h=>(cg' ⟨[],[],[],[],[],[(243,255)],[],[255],[]⟩ h (bFr _ _) fun y4 h=>?_);refine cd' h ?_ ?_<;>intro h;exact rw' (s':=⟨[(2,.d (.sl 1 (([]:List (List aA)).map (cSl 3 aB)))),(3,vI y4.2)],[]⟩) (wr [] (ew eS) aX) (rp' h);refine aO (.bsl 47 64 1 [46]) (bI (l:=([y4.1]:List (List aA))) (f:=(cSl 3 aB)) (g:=(cSl 3 aB)) kr (fun _=>rfl) kr (oC ?_));exact aq' 6 (cSl 3 aB) h fun y5 h=>(lb' (aL3 _ _ _ _ _ h) (wr [(6,.old 6),(4,.old 4)] (es (eo 6 (eo 4 eS))) bS));refine cd' h ?_ ?_<;>intro h;exact cg' ⟨[],[],[],[],[],[(243,53)],[],[53],[]⟩ h (bXb _) fun y6 h=>(jn' (bEr _ _ _ h) (wr [(6,.old 6)] (es (eo 6 iA)) bS));exact jn' (bEr _ _ _ h) (wr [(6,.old 6)] (es (eo 6 iA)) bS)) (by intro cF9 bBx p0 p1 r h;exact ao' (cg' ⟨[],[],[],[],[],[(243,248)],[],[248],[]⟩ h (bBx _ _) fun y1 h=>(rw' (s':=⟨[(3,.osl 243 43 3 (y1.1.map aB)),(4,vI y1.2)],[]⟩) (wr [(243,.old 3)] (eo 3 eS) aX) (rb' h)))) (by intro bUs aLe p0 p1 r h;refine ao' ?_;refine aO (.bsl 11 43 3 []) (bI (l:=([]:List aA)) (f:=aB) (g:=aB) kr (fun _=>rfl) kr (oC ?_));exact jY iE p0 (lb' (aLe _ _ _ _ _ h) (wr [(6,.old 6)] (es (eo 6 eS)) aX))) (by intro aKe bUs aDi aLe p1 p0 x6 x14 r h;refine Lok.un ?_;refine cd' h ?_ ?_<;>intro h;refine iB iE h fun y1 h=>?_;refine aO (.callv (some 21) 19 [20]) (aGk (m:=aKe p1 y1.c0 y1.c1 y1.c2 y1.c3) (caps:=[.rp (qY y1.c0),.rp (qF y1.c1),.rp [.sl 1 (y1.c2.map (cSl 3 aB))],.rp (iM y1.c3)]) (args:=[eP p1,.rp (qY y1.c0),.rp (qF y1.c1),.rp [.sl 1 (y1.c2.map (cSl 3 aB))],.rp (iM y1.c3)]) (v':=(fun y=>(.tup [bN y.1,vI y.2]))) h kr kr (aDi _ _ _ _ _) kr kr (fun _=>rfl) fun y2 h=>oC ?_);refine cd' h ?_ ?_<;>intro h;exact rw' (s':=⟨[(4,.osl 243 43 3 (([]:List aA).map aB)),(5,vI y2.2)],[]⟩) (wr [(243,.new 43 3)] (en eS) aX) (rb' h);refine aO (.bsl 29 43 3 [28]) (bI (l:=([y2.1]:List aA)) (f:=aB) (g:=aB) kr (fun _=>rfl) kr (oC ?_));exact aq' 6 aB h fun y3 h=>(lb' (aLe _ _ _ _ _ h) (wr [(6,.old 6)] (es (eo 6 eS)) aX));exact rw' (s':=⟨[(4,.osl 243 43 3 (x6.map aB)),(5,vI 0)],[]⟩) (wr [(243,.old 4)] (eo 4 eS) aX) (rb' h)) (by intro bYa aNf p0 p1 r h;refine ao' ?_;refine aO (.bsl 17 167 2 []) (bZe (l:=([]:List aU)) (f:=bA) (g:=bA) kr (fun _=>rfl) kr rfl (oC ?_));exact lq' p1 (lb' (aNf _ _ _ _ _ h) (tw [.rn [(17,346)]] (wr [] eS bS)))) (by intro bNu aM3 p0 r h;refine ao' ?_;refine aO (.bsl 14 43 3 []) (bI (l:=([]:List aA)) (f:=aB) (g:=aB) kr (fun _=>rfl) kr (oC ?_));refine aO (.bsl 15 64 1 [14]) (bI (l:=([([]:List aA)]:List (List aA))) (f:=(cSl 3 aB)) (g:=(cSl 3 aB)) kr (fun _=>rfl) kr (oC ?_));exact lq' p0.tables (lb' (aM3 _ _ _ _ h) (wr [] (es (ew eS)) bS))) (by intro cD9 bVr aLm aPp p0 x4 x19 r h;refine Lok.un ?_;refine cd' h ?_ ?_<;>intro h;refine iq' h fun y1 h=>?_;refine aO (.bsl 24 64 1 []) (bI (l:=([]:List (List aA))) (f:=(cSl 3 aB)) (g:=(cSl 3 aB)) kr (fun _=>rfl) kr (oC ?_));refine lq' x4 ?_;exact lb' (aPp _ _ _ _ _ _ _ h) (wr [(7,.old 7)] (es (es (es (eo 7 eS)))) bS);exact cs' h (aLm _ _) fun y2 h=>(rp' h)) (by intro bNt aLb p0 p1 r h;exact ao' (jY iE p1 (lb' (aLb _ _ _ _ h) (wr [] eS aX)))) (by intro bRv aOm p1 x0 x15 r h;refine Lok.un ?_;refine cd' h ?_ ?_<;>intro h;refine iB iE h fun y1 h=>?_;refine aO (.bsl 19 64 1 []) (bI (l:=([]:List (List aA))) (f:=(cSl 3 aB)) (g:=(cSl 3 aB)) kr (fun _=>rfl) kr (oC ?_));exact lq' x0 (lb' (aOm _ _ _ _ _ _ _ h) (wr [(8,.old 8)] (es (eo 8 eS)) aX));exact rp' h) (by intro aKe bNt cEd aDi aLb aYv y1 p1 x15 x0 x8 x22 r h;refine Lok.un ?_;refine cd' h ?_ ?_<;>intro h;refine iq' h fun y2 h=>?_;refine aO (.callv (some 29) 27 [28]) (aGk (m:=aKe y2 y1.c0 y1.c1 y1.c2 y1.c3) (caps:=[.rp (qY y1.c0),.rp (qF y1.c1),.rp [.sl 1 (y1.c2.map (cSl 3 aB))],.rp (iM y1.c3)]) (args:=[eP y2,.rp (qY y1.c0),.rp (qF y1.c1),.rp [.sl 1 (y1.c2.map (cSl 3 aB))],.rp (iM y1.c3)]) (v':=(fun y=>(.tup [bN y.1,vI y.2]))) h kr kr (aDi _ _ _ _ _) kr kr (fun _=>rfl) fun y3 h=>oC ?_);refine cd' h ?_ ?_<;>intro h;exact rw' (s':=⟨[(4,.d (.sl 1 (([]:List (List aA)).map (cSl 3 aB)))),(5,vI y3.2)],[]⟩) (wr [] (ew eS) aX) (rp' h);refine cs' h (bMh _) fun y4 h=>?_;refine cd' h ?_ ?_<;>intro h;refine aO (.bsl 39 64 1 [38]) (bI (l:=([y2]:List (List aA))) (f:=(cSl 3 aB)) (g:=(cSl 3 aB)) kr (fun _=>rfl) kr (oC ?_));exact aq' 8 (cSl 3 aB) h fun y5 h=>(jn' (aYv _ _ _ _ _ _ _ h) (wr [(8,.old 8)] (es (eo 8 eS)) aX));exact jn' (aYv _ _ _ _ _ _ _ h) (wr [(8,.old 8)] (es (eo 8 eS)) aX);exact lb' (aLb _ _ _ _ h) (wr [] (ew eS) aX)) (by intro bRv aOm y1 p1 x15 x0 x22 qM r h;exact Jok.un (lb' (aOm _ _ _ _ _ _ _ h) (wr [(8,.old 8)] (es (eo 8 eS)) aX))) (by intro bNu cD9 bUi aM3 aLm aO8 x19 y1 p0 x4 x7 x27 r h;refine Lok.un ?_;refine cd' h ?_ ?_<;>intro h;refine iq' h fun y3 h=>(lq' y1 ?_);exact lb' (aO8 _ _ _ _ _ _ (_,_) _ h) (wr [(7,.old 7)] (es (es (es (eo 7 eS)))) bS);refine iB (cSl 1 iE) h fun y5 h=>(cs' h (aLm _ _) fun y6 h=>?_);refine cd' h ?_ ?_<;>intro h;exact rw' (s':=⟨[(2,.d (.sl 1 (([]:List (List aA)).map (cSl 3 aB)))),(3,vI y6.2)],[]⟩) (wr [] (ew eS) aX) (rp' h);exact lb' (aM3 _ _ _ _ h) (wr [] eS bS)) (by intro bVr bUi aPp aO8 x19 y1 y3 p0 x4 x27 mH r h;refine Lok.un ?_;refine cd' h ?_ ?_<;>intro h;refine iq' h fun y7 h=>?_;refine aO (.bsl 40 64 1 [38,39]) (bI (l:=([y3,y7]:List (List aA))) (f:=(cSl 3 aB)) (g:=(cSl 3 aB)) kr (fun _=>rfl) kr (oC ?_));refine cg' ⟨[],[],[],[],[],[(243,41)],[],[41],[]⟩ h (cAi _) fun y8 h=>?_;refine aO (.bsl 42 64 1 [41]) (bI (l:=([y8]:List (List aA))) (f:=(cSl 3 aB)) (g:=(cSl 3 aB)) kr (fun _=>rfl) kr (oC ?_));refine aq' 7 (cSl 3 aB) h fun y9 h=>?_;exact lb' (aO8 _ _ _ _ _ _ (_,_) _ h) (wr [(7,.old 7)] (es (es (es (eo 7 eS)))) bS);exact lb' (aPp _ _ _ _ _ _ _ h) (wr [(7,.old 7)] (es (es (es (eo 7 eS)))) bS))
abbrev aPu:=kV.1
abbrev aNf:=kV.2.1
theorem aDi (p0:List aA) (p1:aQ) (p2:GDb) (p3:List (List aA)) (p4:aJ):FOk Tryz.prog 43 [eP p0,.rp (qY p1),.rp (qF p2),.rp [.sl 1 (p3.map (cSl 3 aB))],.rp (iM p4)] (fun y=>(.tup [bN y.1,vI y.2])) (nM p0 p1 p2 p3 p4):=fun r h=>(kV).2.2.1 p0 p1 p2 p3 p4 r h
theorem aN3 (p0:aQ) (p1:GDb) (p2:List (List aA)) (p3:aJ):FOk Tryz.prog 44 [cK p0,iG p1,.d (.sl 1 (p2.map (cSl 3 aB))),iJ p3] (fun y=>(.tup [bN y.1,vI y.2])) (uT p0 p1 p2 p3):=fun r h=>(kV).2.2.2.1 p0 p1 p2 p3 r h
abbrev aKt:=kV.2.2.2.2.1
abbrev aLq:=kV.2.2.2.2.2.1
theorem aSo (p0:aQ) (p1:GDb) (p2:List (List aA)) (p3:aP):FOk Tryz.prog 17 [cK p0,iG p1,.d (.sl 1 (p2.map (cSl 3 aB))),fO p3] (fun y=>(.tup [.d (.sl 1 (y.1.map (cSl 3 aB))),vI y.2])) (xX p0 p1 p2 p3):=fun r h=>(kV).2.2.2.2.2.2.1 p0 p1 p2 p3 r h
abbrev aN1:=kV.2.2.2.2.2.2.2.1
abbrev aNk:=kV.2.2.2.2.2.2.2.2.1
abbrev aMx:=kV.2.2.2.2.2.2.2.2.2.1
theorem bBe (p0:eT):FOk Tryz.prog 47 [zM p0] (fun y=>(.tup [.d (.sl 1 (y.1.map (cSl 3 aB))),vI y.2])) (aA6 p0):=fun r h=>(kV).2.2.2.2.2.2.2.2.2.2.1 p0 r h
abbrev aL3:=kV.2.2.2.2.2.2.2.2.2.2.2.1
theorem bFr (p0:List aA) (p1:List bU):cZ Tryz.prog 45 [eP p0,.rp [.sl 1 (p1.map iE)]] [] Zl Zm (aEh p0 p1):=fun r h=>(kV).2.2.2.2.2.2.2.2.2.2.2.2.1 p0 p1 r h
theorem bBx (p0:List bU) (p1:List aA):cZ Tryz.prog 46 [xZ p0,eP p1] [] Zl Zm (aKz p0 p1):=fun r h=>(kV).2.2.2.2.2.2.2.2.2.2.2.2.2.1 p0 p1 r h
abbrev aLe:=kV.2.2.2.2.2.2.2.2.2.2.2.2.2.2.1
theorem bAq (p0:eT) (p1:List (List aA)):cZ Tryz.prog 90 [zM p0,.d (.sl 1 (p1.map (cSl 3 aB)))] [] Zn Zo (aHx p0 p1):=fun r h=>(kV).2.2.2.2.2.2.2.2.2.2.2.2.2.2.2.1 p0 p1 r h
theorem bIf (p0:eT):FOk Tryz.prog 89 [zM p0] (fun y=>(.tup [.d (.sl 1 (y.1.map (cSl 3 aB))),vI y.2])) (aO5 p0):=fun r h=>(kV).2.2.2.2.2.2.2.2.2.2.2.2.2.2.2.2.1 p0 r h
abbrev aM3:=kV.2.2.2.2.2.2.2.2.2.2.2.2.2.2.2.2.2.1
theorem aLm (p0:List (List aA)) (p1:List bU):FOk Tryz.prog 131 [.d (.sl 1 (p0.map (cSl 3 aB))),xZ p1] (fun y=>(.tup [.d (.sl 1 (y.1.map (cSl 3 aB))),vI y.2])) (aBo p0 p1):=fun r h=>(kV).2.2.2.2.2.2.2.2.2.2.2.2.2.2.2.2.2.2.1 p0 p1 r h
abbrev aLb:=kV.2.2.2.2.2.2.2.2.2.2.2.2.2.2.2.2.2.2.2.1
abbrev aOm:=kV.2.2.2.2.2.2.2.2.2.2.2.2.2.2.2.2.2.2.2.2.1
abbrev aYv:=kV.2.2.2.2.2.2.2.2.2.2.2.2.2.2.2.2.2.2.2.2.2.1
abbrev aPp:=kV.2.2.2.2.2.2.2.2.2.2.2.2.2.2.2.2.2.2.2.2.2.2.1
abbrev aO8:=kV.2.2.2.2.2.2.2.2.2.2.2.2.2.2.2.2.2.2.2.2.2.2.2
theorem bUx (p0:Int) (p1:Int):FOk Tryz.prog 34 [vI p0,vI p1] (fun y=>(vB y)) (aPx p0 p1):=by
 refine aoP fun r h=>?_;rw [aPx] at h;exact bP h fun y1 h=>(rp' h)
abbrev cAm (p0):=yV.partial_correctness p0 (aQ7 p0) (by intro cF7 aYa eZ x27 r h;refine Lok.un ?_;refine cd' h ?_ ?_<;>intro h;refine iq' h fun y5 h=>?_;refine aO (.bsl 34 47 10 [33]) (bI (l:=([y5.expr]:List aJ)) (f:=aV) (g:=iM) kr lY kr (oC ?_));exact aq' 3 aV h fun y6 h=>(lb' (aYa _ _ _ h) (wr [(3,.old 3)] (es (eo 3 eS)) bS));exact aq' 3 aV h fun y7 h=>(rw' (s':=⟨[(2,.osl 243 47 10 (y7.map aV))],[]⟩) (wr [(243,.old 2)] (eo 2 iA) aX) (rb' h)))
abbrev aYa:=cAm
abbrev cCr (p0):=aBh.partial_correctness p0 (aWp p0) (by intro cEa aZr x3 x12 r h;refine Lok.un ?_;refine cd' h ?_ ?_<;>intro h;exact iq' h fun y1 h=>(aq' 3 aV h fun y2 h=>(lb' (aZr _ _ _ h) (wr [(3,.old 3)] (es (eo 3 eS)) bS)));exact aq' 3 aV h fun y3 h=>(lq' p0.order (lb' (aYa _ _ _ _ h) (wr [(3,.old 3)] (es (eo 3 eS)) bS))))
abbrev aZr:=cCr
theorem bEw (p0:aP):cZ Tryz.prog 78 [fO p0] [] Z1 Z2 (aDn p0):=by
 refine aoB fun r h=>?_;rw [aDn] at h;refine aO (.bsl 8 47 10 []) (bI (l:=([]:List aJ)) (f:=aV) (g:=iM) kr lY kr (oC ?_));exact lq' p0.on_ (lb' (aZr _ _ _ _ h) (wr [(3,.old 3)] (es (eo 3 eS)) bS))
abbrev aH9:=V4.mutual_partial_correctness aQp (fun p0 r=>bF Tryz.prog 35 [fO p0] [] (PQ (fun y=>(vI y)) r)) (fun p0 r=>bF Tryz.prog 77 [fH p0] [] (PQ (fun y=>(vI y)) r)) aUd (fun p0 r=>bF Tryz.prog 114 [iJ p0] [] (PQ (fun y=>(vI y)) r)) (by intro bSe cFo aMw aQi p0 x3 x12 r h;refine Lok.un ?_;refine cd' h ?_ ?_<;>intro h;exact iq' h fun y2 h=>(cs' h (aQi _) fun y3 h=>(lb' (aMw _ _ _ _ h) (wr [] eS aX)));exact rp' h) (by intro cA9 aOa p0 r h;exact ao' (cg' ⟨[],[],[],[],[],[(243,4)],[],[4],[]⟩ h (bEw _) fun y1 h=>(cs' h (aOa _) fun y2 h=>(rp' h)))) (by intro bZb aN6 p0 r h;exact ao' (lq' p0 (lb' (aN6 _ _ _ _ h) (wr [] eS aX)))) (by intro bZb cEz aN6 bCk p0 x3 x8 r h;refine Lok.un ?_;refine cd' h ?_ ?_<;>intro h;exact iq' h fun y1 h=>(cs' h (bCk _) fun y2 h=>(lb' (aN6 _ _ _ _ h) (wr [] eS aX)));exact rp' h) (by intro bSe cA9 aMw aOa p0 r h;exact ao' (cs' h (aOa _) fun y1 h=>(lq' p0.sub (lb' (aMw _ _ _ _ h) (wr [] eS aX)))))
abbrev aMw:=aH9.1
theorem aQi (p0:aP):FOk Tryz.prog 35 [fO p0] (fun y=>(vI y)) (wT p0):=fun r h=>(aH9).2.1 p0 r h
theorem aOa (p0:List aJ):FOk Tryz.prog 77 [fH p0] (fun y=>(vI y)) (F5 p0):=fun r h=>(aH9).2.2.1 p0 r h
abbrev aN6:=aH9.2.2.2.1
theorem bCk (p0:aJ):FOk Tryz.prog 114 [iJ p0] (fun y=>(vI y)) (yL p0):=fun r h=>(aH9).2.2.2.2 p0 r h
abbrev aHl:=Z5.mutual_partial_correctness aSz (fun p0 r=>bF Tryz.prog 36 [fO p0] [] (PQ (fun y=>(vI y)) r)) (fun p0 r=>bF Tryz.prog 79 [fH p0] [] (PQ (fun y=>(vI y)) r)) aYx (fun p0 r=>bF Tryz.prog 115 [iJ p0] [] (PQ (fun y=>(vI y)) r)) (by intro bSh cGp aLt aX2 p0 x3 x13 r h;refine Lok.un ?_;refine cd' h ?_ ?_<;>intro h;exact iq' h fun y2 h=>(cs' h (aX2 _) fun y3 h=>(lb' (aLt _ _ _ _ h) (wr [] eS aX)));exact rp' h) (by intro bS7 aNn p0 r h;exact ao' (cg' ⟨[],[],[],[],[],[(243,4)],[],[4],[]⟩ h (bEw _) fun y1 h=>(cs' h (aNn _) fun y2 h=>(rp' h)))) (by intro bL5 aKg p0 r h;exact ao' (lq' p0 (lb' (aKg _ _ _ _ h) (wr [] eS aX)))) (by intro bL5 cGu aKg bH9 p0 x3 x8 r h;refine Lok.un ?_;refine cd' h ?_ ?_<;>intro h;exact iq' h fun y1 h=>(cs' h (bH9 _) fun y2 h=>(lb' (aKg _ _ _ _ h) (wr [] eS aX)));exact rp' h) (by intro bSh bS7 aLt aNn p0 r h;exact ao' (cs' h (aNn _) fun y1 h=>(lq' p0.sub (lb' (aLt _ _ _ _ h) (wr [] eS aX)))))
abbrev aLt:=aHl.1
theorem aX2 (p0:aP):FOk Tryz.prog 36 [fO p0] (fun y=>(vI y)) (wN p0):=fun r h=>(aHl).2.1 p0 r h
theorem aNn (p0:List aJ):FOk Tryz.prog 79 [fH p0] (fun y=>(vI y)) (P7 p0):=fun r h=>(aHl).2.2.1 p0 r h
abbrev aKg:=aHl.2.2.2.1
theorem bH9 (p0:aJ):FOk Tryz.prog 115 [iJ p0] (fun y=>(vI y)) (yE p0):=fun r h=>(aHl).2.2.2.2 p0 r h
theorem bUy (p0:List aJ):FOk Tryz.prog 117 [fH p0] (fun y=>(vB y)) (aHw p0):=by
 refine aoP fun r h=>?_;rw [aHw] at h;exact lq' p0 (rp' h)
abbrev bQn (p0):=M3.partial_correctness p0 (aVe p0) (by intro cH6 aW4 x8 r h;refine Lok.un ?_;refine cd' h ?_ ?_<;>intro h;refine iq' h fun y1 h=>?_;refine aO (.callv (some 16) 11 [15]) (aGk (m:=aHw y1) (caps:=[]) (args:=[fH y1]) (v':=(fun y=>(vB y))) h kr kr (bUy _) kr kr (fun _=>rfl) fun y2 h=>oC ?_);refine cd' h ?_ ?_<;>intro h;exact rp' h;exact lb' (aW4 _ _ h) (wr [] eS aX);exact rp' h)
abbrev aW4:=bQn
theorem bZt (p0:List (List aJ)):FOk Tryz.prog 155 [.d (.sl 1 (p0.map (cSl 10 aV))),.fn 117 []] (fun y=>(vI y)) (aO2 p0):=by
 refine aoP fun r h=>?_;rw [aO2] at h;exact lq' p0 (lb' (aW4 _ _ _ h) (wr [] eS aX))
theorem bVa (p0:List (List aJ)):FOk Tryz.prog 116 [.d (.sl 1 (p0.map (cSl 10 aV))),.fn 117 []] (fun y=>(vB y)) (aGo p0):=by
 refine aoP fun r h=>?_;rw [aGo] at h;exact cs' h (bZt _) fun y1 h=>(rp' h)
theorem cCg (p0:List UInt8):FOk Tryz.prog 119 [vS p0] (fun y=>(vB y)) (aJx p0):=by
 refine aoP fun r h=>?_;rw [aJx] at h;exact cs' h (aKa _) fun y1 h=>(rp' h)
abbrev bNk (p0):=X3.partial_correctness p0 (bA7 p0) (by intro cFj aTk x8 r h;refine Lok.un ?_;refine cd' h ?_ ?_<;>intro h;refine iq' h fun y1 h=>?_;refine aO (.callv (some 16) 11 [15]) (aGk (m:=aJx y1) (caps:=[]) (args:=[vS y1]) (v':=(fun y=>(vB y))) h kr kr (cCg _) kr kr (fun _=>rfl) fun y2 h=>oC ?_);refine cd' h ?_ ?_<;>intro h;exact rp' h;exact lb' (aTk _ _ h) (wr [] eS aX);exact rp' h)
abbrev aTk:=bNk
theorem bM6 (p0:List (List UInt8)):FOk Tryz.prog 156 [aPk p0,.fn 119 []] (fun y=>(vI y)) (aOt p0):=by
 refine aoP fun r h=>?_;rw [aOt] at h;exact lq' p0 (lb' (aTk _ _ _ h) (wr [] eS aX))
theorem bZk (p0:List (List UInt8)):FOk Tryz.prog 118 [aPk p0,.fn 119 []] (fun y=>(vB y)) (aIp p0):=by
 refine aoP fun r h=>?_;rw [aIp] at h;exact cs' h (bM6 _) fun y1 h=>(rp' h)
theorem bL4 (p0:aP):FOk Tryz.prog 81 [fO p0] (fun y=>(vB y)) (aGu p0):=by
 refine aoP fun r h=>?_;rw [aGu] at h;refine jY cI p0.tables (aA4 cI p0.tables (bR h fun y1 h=>(iP p0.on_ (aA4 cI p0.tables (bR h fun y2 h=>(aVt h fun y3 h=>(iP y3 (bR h fun y4 h=>(iP p0.where_ (bR h fun y5 h=>(iP p0.order (bR h fun y6 h=>?_))))))))))));refine cd' h ?_ ?_<;>intro h;exact rp' h;exact lq' p0.items (iP p0.items (bP h fun y7 h=>(iP p0.names (iP p0.items (bP h fun y8 h=>(bP h fun y9 h=>(gc' h (bVa _) fun y10 h=>(bP h fun y11 h=>(gc' h (bZk _) fun y12 h=>(bP h fun y13 h=>(rp' h)))))))))))
theorem aOx (p0:Int):FOk Tryz.prog 122 [vI p0] (fun y=>(vB y)) (aB3 p0):=by
 refine aoP fun r h=>?_;rw [aB3] at h;exact bR h fun y1 h=>(rp' h)
theorem bJn (p0:aJ):FOk Tryz.prog 123 [iJ p0] (fun y=>(vB y)) (aD6 p0):=by
 refine aoP fun r h=>?_;rw [aD6] at h;refine cs' h (bCm _) fun y1 h=>?_;refine aO (.g 17 true (.pick 24 20 (kB true) 23)) (gv true y1.2 ZK h (fun y hy hc=>jC hy (p:=true) (q:=((true&&(y1.2==true))&&(y1.1.op==false))) (Eq.trans (b:=([true&&(y1.2==true)]:List Bool).all id) kr (dR hc rfl)) kr kr kr (fun _=>rfl) (fun hb=>qA hc hb)) fun y2 h=>oC ?_);refine bP h fun y3 h=>?_;refine aO (.g 26 true (.pick 33 29 (kB true) 32)) (gv true y3 ZK h (fun y hy hc=>jC hy (p:=true) (q:=((true&&(y3==true))&&(y1.1.not_==false))) (Eq.trans (b:=([true&&(y3==true)]:List Bool).all id) kr (dR hc rfl)) kr kr kr (fun _=>rfl) (fun hb=>qA hc hb)) fun y4 h=>oC ?_);refine bP h fun y5 h=>?_;refine aO (.g 35 true (.pick 43 38 (kB true) 42)) (gv true y5 ZK h (fun y hy hc=>jC hy (p:=true) (q:=((true&&(y5==true))&&(y1.1.value==false))) (Eq.trans (b:=([true&&(y5==true)]:List Bool).all id) kr (dR hc rfl)) kr kr kr (fun _=>rfl) (fun hb=>qA hc hb)) fun y6 h=>oC ?_);refine bP h fun y7 h=>?_;refine aO (.g 48 false (.pick 56 52 55 (kB false))) (gv (true&&(y7==true)) y1.1.name ZK h (fun y hy hc=>jC hy (p:=(((true&&(y7==true))&&(y1.1.name==false))&&((decide (p0.up=0))==true))) (q:=true) (Eq.trans (b:=([(true&&(y7==true))&&(y1.1.name==false)]:List Bool).all id) kr (dR hc rfl)) kr kr kr (fun hb=>pK hc hb) (fun _=>rfl)) fun y8 h=>oC ?_);refine aO (.g 45 true (.pick 57 48 (kB true) 56)) (gv true y7 ZK h (fun y hy hc=>jC hy (p:=true) (q:=((true&&(y7==true))&&(y1.1.name==false))) (Eq.trans (b:=([true&&(y7==true)]:List Bool).all id) kr (dR hc rfl)) kr kr kr (fun _=>rfl) (fun hb=>qA hc hb)) fun y9 h=>oC ?_);exact bP h fun y10 h=>(iP p0.kids (bP h fun y11 h=>(iP p0.kids (bP h fun y12 h=>(iP p0.sub (bP h fun y13 h=>(rp' h)))))))
theorem aTc (p0:Int) (p1:Int) (p2:Int):FOk Tryz.prog 189 [vI p0,vI p1,vI p2] (fun y=>(vB y)) (aCv p0 p1 p2):=by
 refine aoP fun r h=>?_;rw [aCv] at h;refine bR h fun y1 h=>?_;refine aO (.g 14 true (.pick 21 18 (kB true) 20)) (gv true y1 ZK h (fun y hy hc=>jC hy (p:=true) (q:=((true&&(y1==true))&&((decide (p2=p0))==false))) (Eq.trans (b:=([true&&(y1==true)]:List Bool).all id) kr (dR hc rfl)) kr kr kr (fun _=>rfl) (fun hb=>qA hc hb)) fun y2 h=>oC ?_);exact bP h fun y3 h=>(rp' h)
theorem aJr (x8 x9 r) (h:S9 x8 x9=some r):bXv x8 x9 r:=by
 rw [S9] at h;refine Jok.un ?_;refine cd' h ?_ ?_<;>intro h;exact rp' h;exact rp' h
theorem bBh (p0:Int):FOk Tryz.prog 200 [vI p0] (fun y=>(vB y)) (aIh p0):=by
 refine aoP fun r h=>?_;rw [aIh] at h;exact bP h fun y1 h=>(rp' h)
theorem bIa (p0:Int) (p1:Int):FOk Tryz.prog 190 [vI p0,vI p1] (fun y=>(.tup [vI y.1,vB y.2])) (aEr p0 p1):=by
 refine aoP fun r h=>?_;rw [aEr] at h;refine cs' h (bBh _) fun y1 h=>(gc' h (bBh _) fun y2 h=>(bR h fun y3 h=>?_));refine cd' h ?_ ?_<;>intro h;exact rp' h;refine cd' h ?_ ?_<;>intro h;exact rp' h;refine bR h fun y4 h=>?_;refine cd' h ?_ ?_<;>intro h;exact rp' h;exact rp' h
theorem bV9 (p0:Int) (p1:Int) (p2:Int):FOk Tryz.prog 160 [vI p0,vI p1,vI p2] (fun y=>(.tup [vI y.1,vB y.2])) (aJd p0 p1 p2):=by
 refine aoP fun r h=>?_;rw [aJd] at h;refine bR h fun y1 h=>?_;refine cd' h ?_ ?_<;>intro h;exact jn' (aJr _ _ _ h) (wr [] eS aX);refine cd' h ?_ ?_<;>intro h;exact cs' h (aOx _) fun y2 h=>(gc' h (aOx _) fun y3 h=>(bP h fun y4 h=>(jn' (aJr _ _ _ h) (wr [] eS aX))));refine cd' h ?_ ?_<;>intro h;exact cs' h (bIa _ _) fun y5 h=>(jn' (aJr _ _ _ h) (wr [] eS aX));refine cd' h ?_ ?_<;>intro h;exact cs' h (aTc _ _ _) fun y6 h=>(jn' (aJr _ _ _ h) (wr [] eS aX));exact cs' h (aTc _ _ _) fun y7 h=>(jn' (aJr _ _ _ h) (wr [] eS aX))
theorem bMb (p0:List Int):cZ Tryz.prog 162 [fU p0] [] Zd Ze (aIc p0):=by
 refine aoB fun r h=>?_;rw [aIc] at h;refine aO (.eqn 4 false 3) (bFi (sz:=1) (l:=p0) (f:=cI) h kr kr (fun hl h=>oC ?_) fun hl h=>?_);refine aMn ?_;refine aO (.bsl 5 3 1 []) (bI (l:=([]:List Int)) (f:=cI) (g:=cI) kr (fun _=>rfl) kr (oC ?_));exact aq' 5 cI h fun y1 h=>(rw' (s':=⟨[(2,.osl 243 3 1 (y1.map cI))],[]⟩) (wr [(243,.old 2)] (eo 2 iA) aX) (rb' h))
 subst hl
 refine ⟨oC ?_,oC ?_⟩
 replace h:((appG 8 ([]:List Int) ([]:List Int))>>=fun (y2:List Int)=>some y2:Option (List Int))=some r:=h
 refine aMn ?_;refine aO (.bsl 5 3 1 []) (bI (l:=([]:List Int)) (f:=cI) (g:=cI) kr (fun _=>rfl) kr (oC ?_));exact aq' 5 cI h fun y2 h=>(rw' (s':=⟨[(2,.osl 243 3 1 (y2.map cI))],[]⟩) (wr [(243,.old 2)] (eo 2 iA) aX) (rb' h));exact bB0 (rw' (s':=⟨[(2,.osl 243 3 1 (([]:List Int).map cI))],[]⟩) (wr [(243,.new 3 1)] (en iA) aX) (rb' h))
abbrev bY8 (p0):=Y3.partial_correctness p0 (aTz p0) (by intro cGr aU3 x4 x11 r h;refine Lok.un ?_;refine cd' h ?_ ?_<;>intro h;refine iB cI h fun y1 h=>(cs' h (bIa _ _) fun y2 h=>?_);refine cd' h ?_ ?_<;>intro h;exact rp' h;exact lb' (aU3 _ _ _ h) (wr [] eS aX);exact rp' h)
abbrev aU3:=bY8
theorem cE0 (p0:List Int):FOk Tryz.prog 161 [fU p0] (fun y=>(.tup [vI y.1,vB y.2])) (aKd p0):=by
 refine aoP fun r h=>?_;rw [aKd] at h;exact jY cI p0 (lb' (aU3 _ _ _ _ h) (wr [] eS aX))
theorem bB4 (p1 p2 x40 r) (h:V7 p1 p2 x40=some r):bUr p1 p2 x40 r:=by
 rw [V7] at h;refine Jok.un ?_;refine cd' h ?_ ?_<;>intro h;exact rp' h;refine cg' ⟨[],[],[],[],[],[(243,45)],[],[45],[]⟩ h (bMb _) fun y6 h=>(aq' 45 cI h fun y7 h=>(cs' h (cE0 _) fun y8 h=>?_));refine cd' h ?_ ?_<;>intro h;exact rp' h;exact rp' h
theorem bJ5 (p0:Int) (p1:Int):FOk Tryz.prog 159 [vI p0,vI p1] (fun y=>(.tup [vI y.1,vB y.2])) (aH6 p0 p1):=by
 refine aoP fun r h=>?_;rw [aH6] at h;refine gc' h (aOx _) fun y1 h=>(bP h fun y2 h=>?_);refine cd' h ?_ ?_<;>intro h;exact rp' h;refine gc' h (aTc _ _ _) fun y3 h=>(bP h fun y4 h=>?_);refine cd' h ?_ ?_<;>intro h;exact rp' h;exact rp' h
theorem bSc (p0:aJ) (p1:List Int) (p2:List Int):FOk Tryz.prog 124 [iJ p0,fU p1,fU p2] (fun y=>(.tup [vI y.1,vB y.2])) (wH p0 p1 p2):=by
 refine aoP fun r h=>?_;rw [wH] at h;refine cd' h ?_ ?_<;>intro h;exact rp' h;refine cd' h ?_ ?_<;>intro h;exact iB cI h fun y1 h=>(cs' h (bJ5 _ _) fun y2 h=>(rp' h));refine cd' h ?_ ?_<;>intro h;exact iB cI h fun y3 h=>(iB cI h fun y4 h=>(cs' h (bV9 _ _ _) fun y5 h=>(rp' h)));refine cd' h ?_ ?_<;>intro h;exact jn' (bB4 _ _ _ _ h) (wr [] eS aX);exact jn' (bB4 _ _ _ _ h) (wr [] eS aX)
abbrev ZN (y:List (List Int)):V:=(.osl 243 30 1 (y.map (cSl 1 cI)))
theorem bCb (p0:List Int) (p1:List (List Int)):cZ Tryz.prog 83 [fU p0,.d (.sl 1 (p1.map (cSl 1 cI)))] [] ZN (fun (y:List (List Int))=>[]) (aFq p0 p1):=by
 refine aoB fun r h=>?_;rw [aFq] at h;refine aO (.bsl 6 30 1 [5]) (bI (l:=([p0]:List (List Int))) (f:=(cSl 1 cI)) (g:=(cSl 1 cI)) kr (fun _=>rfl) kr (oC ?_));exact aq' 6 (cSl 1 cI) h fun y1 h=>(rw' (s':=⟨[(4,.osl 243 30 1 (y1.map (cSl 1 cI)))],[]⟩) (wr [(243,.old 4)] (eo 4 iA) aX) (rb' h))
end Go.Proofs.YthcemdafchcehabGreat
