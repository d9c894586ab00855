/- That the code computes these functions (printed by a program). -/
import Derived.Test.YtpedjchcopnlmaaGreatAbW
import Derived.Test.YtpedjchcopnlmaaGreatAbQ
import Derived.KernelRfl
import Derived.Test.YtpedjchcopnlmaaGreatAbG2
import Derived.Test.YtpedjchcopnlmaaGreatAbC3
import Derived.Test.YtpedjchcopnlmaaGreatAbX6
import Derived.Test.YtpedjchcopnlmaaGreatAbX5
import Derived.Test.YtpedjchcopnlmaaGreatAbX3
import Derived.Test.YtpedjchcopnlmaaGreatAbX2
import Derived.Test.YtpedjchcopnlmaaGreatFEvalOut
import Derived.Test.YtpedjchcopnlmaaGreatProg
namespace Go.Proofs.YtpedjchcopnlmaaGreat
open Go Go.RowKit Go.Ab
open Go.IntKind renaming wrap→QA
open _root_.Int renaming fdiv→QB
open _root_.List renaming map_nil→QC,map_cons→QD,mem_cons_of_mem→QE,cons_append→QF,nil_append→QG,length_map→QH
attribute [local irreducible] avc cO aop dgo jW wX vO wkK W9 stz bG5 bU eff bM.st Cf.ok Cf.way Cf.put Cf.putS Cf.putD Cf.A Cf.W Cf.to Cf.reg Cf.withS GQ aAi wO I7 uD Lok Jok Cf.kr Cf.ll Cf.dw Cf.stt Cf.z Cf.zW
def cI (n:Int):List D:=[.i .i64 n]
def cU8 (n:Int):List D:=[.i .u8 n]
def cCp (n:Int):List D:=[.i .u64 n]
def cEt (n:Int):List D:=[.i .i32 n]
def cEp (n:Int):List D:=[.i .u32 n]
def cB (b:Bool):List D:=[.b b]
def cStr (s:List UInt8):List D:=[.s (bs s)]
def cSl {α:Type} (sz:Nat) (f:α→List D) (l:List α):List D:=[.sl sz (l.map f)]
def pW (x:iP):List D:=[.s (bs x.name),.i .i64 x.type]
def cCi (x:iP):V:=.agg (pW x)
def bSa (x:iP):List V:=(pW x).map V.d
def mO (x:gG):List D:=[.s (bs x.name),.sl 2 (x.cols.map pW)]
def bAp (x:gG):V:=.agg (mO x)
def bBv (x:gG):List V:=(mO x).map V.d
def tQ (x:aR):List D:=[.sl 2 (x.tables.map mO)]
def eG (x:aR):V:=.agg (tQ x)
def gJ (x:aR):List V:=(tQ x).map V.d
def aL (x:aA):List D:=[.i .i64 x.kind,.i .i64 x.num,.s (bs x.text)]
def bV (x:aA):V:=.agg (aL x)
def tK (x:aA):List V:=(aL x).map V.d
def oW (x:jR):List D:=[.sl 1 (x.rows.map (cSl 3 aL))]
def cDd (x:jR):V:=.agg (oW x)
def cDs (x:jR):List V:=(oW x).map V.d
def tC (x:GDb):List D:=[.sl 1 (x.tables.map oW)]
def jY (x:GDb):V:=.agg (tC x)
def nI (x:GDb):List V:=(tC x).map V.d
mutual
def aP:aB→List D
  | ⟨a0,a1,a2,a3,a4,a5,a6,a7⟩=>[.i .i64 a0]++[.i .i64 a1]++[.b a2]++aL a3++[.i .i64 a4]++[.i .i64 a5]++[.sl 10 (U7 a6)]++[.sl 8 (aIs a7)]
def dU:bF→List D
  | ⟨a0,a1⟩=>aP a0++[.b a1]
def bR:aQ→List D
  | ⟨a0,a1,a2,a3,a4,a5,a6,a7⟩=>[.sl 1 (a0.map cI)]++[.sl 1 (aHq a1)]++[.sl 10 (U7 a2)]++[.sl 11 (aK1 a3)]++[.sl 10 (U7 a4)]++[.sl 1 (a5.map cStr)]++[.b a6]++[.i .i64 a7]
def U7:List aB→List (List D)
  | []=>[]
  | x::l=>aP x::U7 l
def aK1:List bF→List (List D)
  | []=>[]
  | x::l=>dU x::aK1 l
def aIs:List aQ→List (List D)
  | []=>[]
  | x::l=>bR x::aIs l
def aHq:List (List aB)→List (List D)
  | []=>[]
  | x::l=>[.sl 10 (U7 x)]::aHq l
end
theorem aJe:∀ l:List aB,U7 l=l.map aP
  | []=>by simp only [U7,QC]
  | x::l=>by simp only [U7,QD,aJe l]
theorem aLi:∀ l:List bF,aK1 l=l.map dU
  | []=>by simp only [aK1,QC]
  | x::l=>by simp only [aK1,QD,aLi l]
theorem aOh:∀ l:List aQ,aIs l=l.map bR
  | []=>by simp only [aIs,QC]
  | x::l=>by simp only [aIs,QD,aOh l]
theorem aMt:∀ l:List (List aB),aHq l=l.map (cSl 10 aP)
  | []=>by simp only [aHq,QC]
  | x::l=>by simp only [aHq,QD,aMt l,cSl,aJe]
def gK (x:aB):List D:=[.i .i64 x.kind,.i .i64 x.op,.b x.not_,.i .i64 x.value.kind,.i .i64 x.value.num,.s (bs x.value.text),.i .i64 x.up,.i .i64 x.at_,.sl 10 (x.kids.map aP),.sl 8 (x.sub.map bR)]
def yU (x:bF):List D:=[.i .i64 x.expr.kind,.i .i64 x.expr.op,.b x.expr.not_,.i .i64 x.expr.value.kind,.i .i64 x.expr.value.num,.s (bs x.expr.value.text),.i .i64 x.expr.up,.i .i64 x.expr.at_,.sl 10 (x.expr.kids.map aP),.sl 8 (x.expr.sub.map bR),.b x.desc]
def vT (x:aQ):List D:=[.sl 1 (x.tables.map cI),.sl 1 (x.on_.map (cSl 10 aP)),.sl 10 (x.where_.map aP),.sl 11 (x.order.map dU),.sl 10 (x.items.map aP),.sl 1 (x.names.map cStr),.b x.distinct,.i .i64 x.limit]
theorem jO (x:aB):aP x=gK x:=by
  obtain ⟨a0,a1,a2,a3,a4,a5,a6,a7⟩:=x
  simp only [aP,gK,aJe,aLi,aOh,aMt,QF,QG,aL]
theorem aCm (x:bF):dU x=yU x:=by
  obtain ⟨a0,a1⟩:=x
  simp only [dU,yU,aJe,aLi,aOh,aMt,jO,gK,QF,QG]
theorem yJ (x:aQ):bR x=vT x:=by
  obtain ⟨a0,a1,a2,a3,a4,a5,a6,a7⟩:=x
  simp only [bR,vT,aJe,aLi,aOh,aMt,QF,QG]
def lX (x:aB):V:=.agg (gK x)
def sS (x:aB):List V:=(gK x).map V.d
def cCw (x:bF):V:=.agg (yU x)
def cCn (x:bF):List V:=(yU x).map V.d
def pE (x:aQ):V:=.agg (vT x)
def oQ (x:aQ):List V:=(vT x).map V.d
mutual
def tL:eT→List D
  | ⟨a0,a1,a2,a3,a4,a5,a6,a7⟩=>[.i .i64 a0]++[.i .i64 a1]++[.b a2]++aL a3++[.s (bs a4)]++[.s (bs a5)]++[.sl 10 (aBw a6)]++[.sl 6 (aKd a7)]
def aD1:rH→List D
  | ⟨a0,a1,a2,a3⟩=>[.b a0]++[.s (bs a1)]++tL a2++[.s (bs a3)]
def xH:jV→List D
  | ⟨a0,a1,a2,a3,a4,a5⟩=>[.b a0]++[.sl 13 (aHz a1)]++[.sl 3 (aHp a2)]++[.sl 10 (aBw a3)]++[.sl 11 (aJj a4)]++[.i .i64 a5]
def aCb:qW→List D
  | ⟨a0,a1⟩=>tL a0++[.b a1]
def aD0:qV→List D
  | ⟨a0,a1,a2⟩=>[.s (bs a0)]++[.s (bs a1)]++[.sl 10 (aBw a2)]
def aBw:List eT→List (List D)
  | []=>[]
  | x::l=>tL x::aBw l
def aHz:List rH→List (List D)
  | []=>[]
  | x::l=>aD1 x::aHz l
def aKd:List jV→List (List D)
  | []=>[]
  | x::l=>xH x::aKd l
def aJj:List qW→List (List D)
  | []=>[]
  | x::l=>aCb x::aJj l
def aHp:List qV→List (List D)
  | []=>[]
  | x::l=>aD0 x::aHp l
end
theorem aGj:∀ l:List eT,aBw l=l.map tL
  | []=>by simp only [aBw,QC]
  | x::l=>by simp only [aBw,QD,aGj l]
theorem aF4:∀ l:List rH,aHz l=l.map aD1
  | []=>by simp only [aHz,QC]
  | x::l=>by simp only [aHz,QD,aF4 l]
theorem aGn:∀ l:List jV,aKd l=l.map xH
  | []=>by simp only [aKd,QC]
  | x::l=>by simp only [aKd,QD,aGn l]
theorem aEj:∀ l:List qW,aJj l=l.map aCb
  | []=>by simp only [aJj,QC]
  | x::l=>by simp only [aJj,QD,aEj l]
theorem aFn:∀ l:List qV,aHp l=l.map aD0
  | []=>by simp only [aHp,QC]
  | x::l=>by simp only [aHp,QD,aFn l]
def V3 (x:eT):List D:=[.i .i64 x.kind,.i .i64 x.op,.b x.not_,.i .i64 x.value.kind,.i .i64 x.value.num,.s (bs x.value.text),.s (bs x.qual),.s (bs x.name),.sl 10 (x.kids.map tL),.sl 6 (x.sub.map xH)]
def aJq (x:rH):List D:=[.b x.star,.s (bs x.qual),.i .i64 x.expr.kind,.i .i64 x.expr.op,.b x.expr.not_,.i .i64 x.expr.value.kind,.i .i64 x.expr.value.num,.s (bs x.expr.value.text),.s (bs x.expr.qual),.s (bs x.expr.name),.sl 10 (x.expr.kids.map tL),.sl 6 (x.expr.sub.map xH),.s (bs x.as_)]
def aEg (x:jV):List D:=[.b x.distinct,.sl 13 (x.items.map aD1),.sl 3 (x.from_.map aD0),.sl 10 (x.where_.map tL),.sl 11 (x.order.map aCb),.i .i64 x.limit]
def aKh (x:qW):List D:=[.i .i64 x.expr.kind,.i .i64 x.expr.op,.b x.expr.not_,.i .i64 x.expr.value.kind,.i .i64 x.expr.value.num,.s (bs x.expr.value.text),.s (bs x.expr.qual),.s (bs x.expr.name),.sl 10 (x.expr.kids.map tL),.sl 6 (x.expr.sub.map xH),.b x.desc]
def aHx (x:qV):List D:=[.s (bs x.table),.s (bs x.as_),.sl 10 (x.on_.map tL)]
theorem aF2 (x:eT):tL x=V3 x:=by
  obtain ⟨a0,a1,a2,a3,a4,a5,a6,a7⟩:=x
  simp only [tL,V3,aGj,aF4,aGn,aEj,aFn,QF,QG,aL]
theorem cBv (x:rH):aD1 x=aJq x:=by
  obtain ⟨a0,a1,a2,a3⟩:=x
  simp only [aD1,aJq,aGj,aF4,aGn,aEj,aFn,aF2,V3,QF,QG]
theorem bHf (x:jV):xH x=aEg x:=by
  obtain ⟨a0,a1,a2,a3,a4,a5⟩:=x
  simp only [xH,aEg,aGj,aF4,aGn,aEj,aFn,QF,QG]
theorem bP3 (x:qW):aCb x=aKh x:=by
  obtain ⟨a0,a1⟩:=x
  simp only [aCb,aKh,aGj,aF4,aGn,aEj,aFn,aF2,V3,QF,QG]
theorem bYm (x:qV):aD0 x=aHx x:=by
  obtain ⟨a0,a1,a2⟩:=x
  simp only [aD0,aHx,aGj,aF4,aGn,aEj,aFn,QF,QG]
def bHu (x:eT):V:=.agg (V3 x)
def bTo (x:eT):List V:=(V3 x).map V.d
def cEb (x:rH):V:=.agg (aJq x)
def cFd (x:rH):List V:=(aJq x).map V.d
def cE4 (x:jV):V:=.agg (aEg x)
def cD6 (x:jV):List V:=(aEg x).map V.d
def cCg (x:qW):V:=.agg (aKh x)
def cDh (x:qW):List V:=(aKh x).map V.d
def cEx (x:qV):V:=.agg (aHx x)
def cD7 (x:qV):List V:=(aHx x).map V.d
def aZ6 (x:qF):List D:=[.i .i64 x.kind,.i .i64 x.op,.b x.not_,.i .i64 x.value.kind,.i .i64 x.value.num,.s (bs x.value.text),.sl 3 (x.kids.map aL),.sl 1 (x.rows.map (cSl 3 aL))]
def bHe (x:qF):V:=.agg (aZ6 x)
def bV1 (x:qF):List V:=(aZ6 x).map V.d
def aZs (x:kW):List D:=[.b x.op,.b x.not_,.b x.value,.b x.name,.i .i64 x.least,.i .i64 x.most,.i .i64 x.subs]
def aSx (x:kW):V:=.agg (aZs x)
def cDl (x:kW):List V:=(aZs x).map V.d
def aMb (x:bZ):D:=.fn 60 [tQ x.c0,tC x.c1,(cSl 1 (cSl 3 aL)) x.c2,gK x.c3]
def iY (x:bZ):List D:=[aMb x]
def wE (x:nL):List D:=[aMb x.eval,.b x.desc]
def cEn (x:nL):V:=.agg (wE x)
def cD9 (x:nL):List V:=(wE x).map V.d
def bHn (x:aAn):D:=.fn 61 [(cSl 1 iY) x.c0]
def cDt (x:aAn):List D:=[bHn x]
def vJ (x:eX):List D:=[.sl 1 (x.tables.map (cSl 1 (cSl 3 aL))),.sl 1 (x.on_.map (cSl 1 iY)),.sl 1 (x.where_.map iY),.sl 2 (x.order.map wE),bHn x.items,.b x.distinct,.i .i64 x.limit]
def A9 (x:eX):V:=.agg (vJ x)
def aCv (x:eX):List V:=(vJ x).map V.d
def aTh (x:pG):D:=.fn 59 [tQ x.c0,tC x.c1,(cSl 1 (cSl 3 aL)) x.c2]
def cF6 (x:pG):List D:=[aTh x]
def bD (x:aX):List D:=[.sl 3 (x.row.map aL),.sl 3 (x.keys.map aL)]
def kU (x:aX):V:=.agg (bD x)
def aOv (x:aX):List V:=(bD x).map V.d
def mF (x:fH):D:=.fn 130 [vJ x.c0]
def cE3 (x:fH):List D:=[mF x]
def aXs (x:aJ):List D:=[.sl 1 (x.b.map cU8),.i .i64 x.i,.i .i64 x.h]
def cDc (x:aJ):V:=.agg (aXs x)
def aV (x:aJ):List V:=(aXs x).map V.d
instance:Enc (List aA):=⟨cSl 3 aL,cSl 3 aL,(fun _=>rfl)⟩
instance:Enc aA:=⟨aL,aL,(fun _=>rfl)⟩
instance:Enc aB:=⟨aP,gK,jO⟩
instance:Enc aQ:=⟨bR,vT,yJ⟩
instance:Enc (List aB):=⟨cSl 10 aP,cSl 10 aP,(fun _=>rfl)⟩
instance:Enc bF:=⟨dU,yU,aCm⟩
instance:Enc (List UInt8):=⟨cStr,cStr,(fun _=>rfl)⟩
instance:Enc gG:=⟨mO,mO,(fun _=>rfl)⟩
instance:Enc iP:=⟨pW,pW,(fun _=>rfl)⟩
instance:Enc eT:=⟨tL,V3,aF2⟩
instance:Enc jV:=⟨xH,aEg,bHf⟩
instance:Enc jR:=⟨oW,oW,(fun _=>rfl)⟩
instance:Enc nL:=⟨wE,wE,(fun _=>rfl)⟩
instance:Enc (List (List aA)):=⟨cSl 1 (cSl 3 aL),cSl 1 (cSl 3 aL),(fun _=>rfl)⟩
theorem kr {p:Prop} (h:p:=by kernel_rfl):p:=h
def mJ (l:List aB):V:=.d (.sl 10 (l.map aP))
def qH (l:List Int):V:=.d (.sl 1 (l.map cI))
def fM (l:List aA):V:=.d (.sl 3 (l.map aL))
def yM (l:List bF):V:=.d (.sl 11 (l.map dU))
def bTw (l:List aQ):V:=.d (.sl 8 (l.map bR))
def zO (l:List bZ):V:=.d (.sl 1 (l.map iY))
def aS0 (l:List nL):V:=.d (.sl 2 (l.map wE))
def aEs (l:List Int):V:=.d (.sl 1 (l.map cU8))
def bTg (l:List (List UInt8)):V:=.d (.sl 1 (l.map cStr))
def jG:V:=(.d (.s (bs [])))
def aY:V:=(.d (.i .i64 0))
def iA:V:=(.d (.b false))

def bPz (y2:aR×GDb×(List (List aA))×aB) (y3:aA×Int) (x11:List (List Int)) (x12:Int):St:=⟨[(3,.ptr 3 0),(4,.ptr 4 0),(5,.osl 5 43 1 (y2.2.2.1.map (cSl 3 aL))),(6,.ptr 6 0),(7,.ptr 7 0),(8,vI y3.2),(11,.osl 11 42 1 (x11.map (cSl 1 cI))),(12,vI x12)],[(3,gJ y2.1),(4,nI y2.2.1),(6,sS y2.2.2.2),(7,tK y3.1)]⟩
abbrev aYz:=fun y2 y3 x11 x12 r=>Lok Tryz.prog 3 0 (PQ (fun y=>(vB y)) r) (bPz y2 y3 x11 x12)
def bUz (y2:aR×GDb×(List (List aA))×aB) (y3:aA×Int) (x11:List (List Int)) (x12:Int) (x13:List Int) (x14:Int):St:=⟨[(3,.ptr 3 0),(4,.ptr 4 0),(5,.osl 5 43 1 (y2.2.2.1.map (cSl 3 aL))),(6,.ptr 6 0),(7,.ptr 7 0),(8,vI y3.2),(11,.osl 11 42 1 (x11.map (cSl 1 cI))),(12,vI x12),(13,.osl 13 3 1 (x13.map cI)),(14,vI x14)],[(3,gJ y2.1),(4,nI y2.2.1),(6,sS y2.2.2.2),(7,tK y3.1)]⟩
abbrev aZn:=fun y2 y3 x11 x12 x13 x14 r=>Lok Tryz.prog 3 1 (PQ (fun y=>(vB y)) r) (bUz y2 y3 x11 x12 x13 x14)
def bQw (p1:List (List Int)) (p0:aR) (p2:aB) (x8:List Int) (x9:Int):St:=⟨[(1,.d (.sl 1 (p1.map (cSl 1 cI)))),(3,.ptr 3 0),(5,.ptr 5 0),(8,.osl 8 3 1 (x8.map cI)),(9,vI x9)],[(3,gJ p0),(5,sS p2)]⟩
abbrev aRu:=fun p1 p0 p2 x8 x9 (r:Int×Bool)=>Lok Tryz.prog 8 0 (PQ (fun y=>(.tup [vI y.1,vB y.2])) r) (bQw p1 p0 p2 x8 x9)
def bQx (p2:aB) (aAa:List Int):St:=⟨[(5,.ptr 5 0),(8,.osl 8 3 1 (aAa.map cI))],[(5,sS p2)]⟩
abbrev bSd:=fun p2 aAa (r:Int×Bool)=>Jok Tryz.prog 8 27 (PQ (fun y=>(.tup [vI y.1,vB y.2])) r) (bQx p2 aAa)
def bKk (p1:Int) (p2:Int) (x10:Int):St:=⟨[(1,vI p1),(2,vI p2),(10,vI x10)],[]⟩
abbrev bJ4:=fun p1 p2 x10 (r:Int×Bool)=>Jok Tryz.prog 36 12 (PQ (fun y=>(.tup [vI y.1,vB y.2])) r) (bKk p1 p2 x10)






def bX1 (p1:List (List Int)) (p0:aR) (p2:aQ) (x8:Int):St:=⟨[(1,.d (.sl 1 (p1.map (cSl 1 cI)))),(3,.ptr 3 0),(5,.ptr 5 0),(8,vI x8)],[(3,gJ p0),(5,oQ p2)]⟩
abbrev Z1 (y:(List Int)×Bool):V:=(.tup [.osl 242 3 1 (y.1.map cI),vB y.2])
abbrev Z2 (y:(List Int)×Bool):List (Nat×List V):=[]
abbrev aVf:=fun p1 p0 p2 x8 (r:(List Int)×Bool)=>Lok Tryz.prog 37 0 (BQ Z1 Z2 r) (bX1 p1 p0 p2 x8)
def bXw (y8:List (List Int)) (p0:aR) (p2:aQ) (x14:Int):St:=⟨[(3,.ptr 3 0),(5,.ptr 5 0),(13,.osl 13 42 1 (y8.map (cSl 1 cI))),(14,vI x14)],[(3,gJ p0),(5,oQ p2)]⟩
abbrev aTs:=fun y8 p0 p2 x14 (r:(List Int)×Bool)=>Lok Tryz.prog 37 1 (BQ Z1 Z2 r) (bXw y8 p0 p2 x14)
def bMi (y8:List (List Int)) (p0:aR) (p2:aQ) (x17:List Int) (x18:Int):St:=⟨[(3,.ptr 3 0),(5,.ptr 5 0),(13,.osl 13 42 1 (y8.map (cSl 1 cI))),(17,.osl 17 3 1 (x17.map cI)),(18,vI x18)],[(3,gJ p0),(5,oQ p2)]⟩
abbrev aXm:=fun y8 p0 p2 x17 x18 (r:(List Int)×Bool)=>Lok Tryz.prog 37 2 (BQ Z1 Z2 r) (bMi y8 p0 p2 x17 x18)
def bJ9 (p1:List (List Int)) (p2:List aB) (p0:aR) (x7:Int):St:=⟨[(1,.d (.sl 1 (p1.map (cSl 1 cI)))),(2,mJ p2),(3,.ptr 3 0),(7,vI x7)],[(3,gJ p0)]⟩
abbrev aR1:=fun p1 p2 p0 x7 r=>Lok Tryz.prog 94 0 (PQ (fun y=>(vB y)) r) (bJ9 p1 p2 p0 x7)
def bRt (p0:aR) (p1:aQ) (x5:Int):St:=⟨[(2,.ptr 2 0),(3,.ptr 3 0),(5,vI x5)],[(2,gJ p0),(3,oQ p1)]⟩
abbrev aU9:=fun p0 p1 x5 r=>Lok Tryz.prog 92 0 (PQ (fun y=>(vB y)) r) (bRt p0 p1 x5)
def bSb (p0:aR) (p1:aQ) (x6:Int):St:=⟨[(2,.ptr 2 0),(3,.ptr 3 0),(6,vI x6)],[(2,gJ p0),(3,oQ p1)]⟩
abbrev aT4:=fun p0 p1 x6 r=>Lok Tryz.prog 92 1 (PQ (fun y=>(vB y)) r) (bSb p0 p1 x6)
def bOh (p1:List Int) (p0:aR) (x6:List Int) (x7:Int):St:=⟨[(1,qH p1),(2,.ptr 2 0),(6,.osl 6 3 1 (x6.map cI)),(7,vI x7)],[(2,gJ p0)]⟩
abbrev aU2:=fun p1 p0 x6 x7 (r:(List Int)×Bool)=>Lok Tryz.prog 93 0 (BQ Z1 Z2 r) (bOh p1 p0 x6 x7)
def bYl (p0:gG) (x3:List Int) (x4:Int):St:=⟨[(1,.ptr 1 0),(3,.osl 3 3 1 (x3.map cI)),(4,vI x4)],[(1,bBv p0)]⟩
abbrev Z3 (y:List Int):V:=(.osl 242 3 1 (y.map cI))
abbrev aXz:=fun p0 x3 x4 (r:List Int)=>Lok Tryz.prog 124 0 (BQ Z3 (fun (y:List Int)=>[]) r) (bYl p0 x3 x4)



def bW5 (p0:aB) (y3:List eT) (y4:List jV) (oV:List UInt8):St:=⟨[(3,.ptr 3 0)],[(3,bTo (eT.mk p0.kind p0.op p0.not_ p0.value [] oV y3 y4))]⟩
abbrev bUu:=fun p0 y3 y4 oV r=>Jok Tryz.prog 34 5 (PQ (fun y=>(vB y)) r) (bW5 p0 y3 y4 oV)




def bZn (p0:List Int) (x3:Int) (x4:Int):St:=⟨[(0,qH p0),(3,vI x3),(4,vI x4)],[]⟩
abbrev aV9:=fun p0 x3 x4 r=>Lok Tryz.prog 39 0 (PQ (fun y=>(vB y)) r) (bZn p0 x3 x4)
def bRj (p2:List (List aA)) (p0:aR) (p1:GDb) (p3:aB) (x10:List aA) (x11:Int):St:=⟨[(2,.d (.sl 1 (p2.map (cSl 3 aL)))),(4,.ptr 4 0),(5,.ptr 5 0),(7,.ptr 7 0),(8,.ptr 8 0),(10,.osl 10 32 3 (x10.map aL)),(11,vI x11)],[(4,gJ p0),(5,nI p1),(7,sS p3),(8,[vI 0,vI 0,vS []])]⟩
abbrev aV7:=fun p2 p0 p1 p3 x10 x11 (r:aA×Int)=>Lok Tryz.prog 7 0 (PQ (fun y=>(.tup [bV y.1,vI y.2])) r) (bRj p2 p0 p1 p3 x10 x11)
def bW2 (p2:List (List aA)) (x10:List aA) (p3:aB) (x14:List (List aA)):St:=⟨[(2,.d (.sl 1 (p2.map (cSl 3 aL)))),(7,.ptr 7 0),(8,.ptr 8 0),(10,.osl 10 32 3 (x10.map aL)),(14,.d (.sl 1 (x14.map (cSl 3 aL))))],[(7,sS p3),(8,[vI 0,vI 0,vS []])]⟩
abbrev bLy:=fun p2 x10 p3 x14 (r:aA×Int)=>Jok Tryz.prog 7 15 (PQ (fun y=>(.tup [bV y.1,vI y.2])) r) (bW2 p2 x10 p3 x14)
def bY2 (x10:List aA) (x14:List (List aA)) (p3:aB) (x21:List aA) (x22:Int):St:=⟨[(7,.ptr 7 0),(8,.ptr 8 0),(10,.osl 10 32 3 (x10.map aL)),(14,.d (.sl 1 (x14.map (cSl 3 aL)))),(21,.osl 21 32 3 (x21.map aL)),(22,vI x22)],[(7,sS p3),(8,[vI 0,vI 0,vS []])]⟩
abbrev aW8:=fun x10 x14 p3 x21 x22 (r:aA×Int)=>Lok Tryz.prog 7 1 (PQ (fun y=>(.tup [bV y.1,vI y.2])) r) (bY2 x10 x14 p3 x21 x22)
def bQj (p1:List aA) (p0:aA) (x7:Int) (jL:Int) (jJ:Int) (jI:List UInt8):St:=⟨[(1,fM p1),(2,.ptr 2 0),(4,.ptr 4 0),(6,.ptr 6 0),(7,vI x7)],[(2,tK p0),(4,[vI 0,vI 0,vS []]),(6,tK (aA.mk jL jJ jI))]⟩
abbrev aVp:=fun p1 p0 x7 jL jJ jI (r:aA×Int)=>Lok Tryz.prog 33 0 (PQ (fun y=>(.tup [bV y.1,vI y.2])) r) (bQj p1 p0 x7 jL jJ jI)

def bQ0 (p0:Int) (p1:aA) (p2:aA) (aAh:Bool):St:=⟨[(0,vI p0),(4,.ptr 4 0),(5,.ptr 5 0),(6,.ptr 6 0),(112,vB aAh)],[(4,tK p1),(5,tK p2),(6,[vI 0,vI 0,vS []])]⟩
abbrev bRr:=fun p0 p1 p2 aAh (r:aA×Int)=>Jok Tryz.prog 29 29 (PQ (fun y=>(.tup [bV y.1,vI y.2])) r) (bQ0 p0 p1 p2 aAh)














def cB5 (p0:aB) (x13:Bool):St:=⟨[(3,vI (p0.kids.length:Int)),(4,vI (p0.sub.length:Int)),(12,vI p0.kind),(13,vB x13)],[]⟩
abbrev cC2:=fun p0 x13 r=>Jok Tryz.prog 25 5 (PQ (fun y=>(vB y)) r) (cB5 p0 x13)
def bMs (p0:aB) (x20:Bool):St:=⟨[(3,vI (p0.kids.length:Int)),(4,vI (p0.sub.length:Int)),(12,vI p0.kind),(20,vB x20)],[]⟩
abbrev bQq:=fun p0 x20 r=>Jok Tryz.prog 25 8 (PQ (fun y=>(vB y)) r) (bMs p0 x20)

def bRa (p2:List (List aA)) (p0:aR) (p1:GDb) (p3:aQ) (x11:List (List aA)):St:=⟨[(2,.d (.sl 1 (p2.map (cSl 3 aL)))),(4,.ptr 4 0),(5,.ptr 5 0),(7,.ptr 7 0),(10,.osl 10 43 1 (([]:List (List aA)).map (cSl 3 aL))),(11,.d (.sl 1 (x11.map (cSl 3 aL))))],[(4,gJ p0),(5,nI p1),(7,oQ p3)]⟩
abbrev aSs:=fun p2 p0 p1 p3 x11 (r:(List (List aA))×Int)=>Jok Tryz.prog 26 13 (PQ (fun y=>(.tup [.d (.sl 1 (y.1.map (cSl 3 aL))),vI y.2])) r) (bRa p2 p0 p1 p3 x11)
def bKy (p3:aQ) (wJ:List (List aA)):St:=⟨[(7,.ptr 7 0),(11,.osl 11 43 1 (wJ.map (cSl 3 aL)))],[(7,oQ p3)]⟩
abbrev bUl:=fun p3 wJ (r:(List (List aA))×Int)=>Jok Tryz.prog 26 22 (PQ (fun y=>(.tup [.d (.sl 1 (y.1.map (cSl 3 aL))),vI y.2])) r) (bKy p3 wJ)
def bU3 (X3:List (List aA)):St:=⟨[(11,.d (.sl 1 (X3.map (cSl 3 aL))))],[]⟩
abbrev bS8:=fun X3 (r:(List (List aA))×Int)=>Jok Tryz.prog 26 24 (PQ (fun y=>(.tup [.d (.sl 1 (y.1.map (cSl 3 aL))),vI y.2])) r) (bU3 X3)
def bMe (p0:GDb) (p1:aQ) (x5:Int):St:=⟨[(2,.ptr 2 0),(3,.ptr 3 0),(5,vI x5)],[(2,nI p0),(3,oQ p1)]⟩
abbrev aT2:=fun p0 p1 x5 r=>Lok Tryz.prog 68 0 (PQ (fun y=>(vB y)) r) (bMe p0 p1 x5)
def bZo (p0:List (List aA)) (x3:List (List aA)) (x4:Int):St:=⟨[(0,.d (.sl 1 (p0.map (cSl 3 aL)))),(3,.osl 3 43 1 (x3.map (cSl 3 aL))),(4,vI x4)],[]⟩
abbrev Zc (y:List (List aA)):V:=(.osl 242 43 1 (y.map (cSl 3 aL)))
abbrev Zd (y:List (List aA)):List (Nat×List V):=[]
abbrev aUv:=fun p0 x3 x4 (r:List (List aA))=>Lok Tryz.prog 73 0 (BQ Zc Zd r) (bZo p0 x3 x4)
def bLh (p0:List (List aA)) (x3:List (List aA)) (x4:Int) (x5:Bool) (x6:Int):St:=⟨[(0,.d (.sl 1 (p0.map (cSl 3 aL)))),(3,.osl 3 43 1 (x3.map (cSl 3 aL))),(4,vI x4),(5,vB x5),(6,vI x6)],[]⟩
abbrev aS6:=fun p0 x3 x4 x5 x6 (r:List (List aA))=>Lok Tryz.prog 73 1 (BQ Zc Zd r) (bLh p0 x3 x4 x5 x6)
def bOw (p0:List (List aA)) (x4:Int) (vQ:List (List aA)):St:=⟨[(0,.d (.sl 1 (p0.map (cSl 3 aL)))),(3,.osl 3 43 1 (vQ.map (cSl 3 aL))),(4,vI x4)],[]⟩
abbrev aUm:=fun p0 x4 vQ (r:List (List aA))=>Jok Tryz.prog 73 6 (BQ Zc Zd r) (bOw p0 x4 vQ)
def bMl (p0:List aA) (p1:List aA) (x5:Int):St:=⟨[(0,fM p0),(1,fM p1),(5,vI x5)],[]⟩
abbrev aQc:=fun p0 p1 x5 r=>Lok Tryz.prog 120 0 (PQ (fun y=>(vB y)) r) (bMl p0 p1 x5)

def bSq (p2:List (List aA)) (p3:List (List aA)) (p4:List bF) (p0:aR) (p1:GDb) (x12:List (List aA)) (kx13:(List (List aA))×Int):St:=⟨[(2,.d (.sl 1 (p2.map (cSl 3 aL)))),(3,.d (.sl 1 (p3.map (cSl 3 aL)))),(4,yM p4),(5,.ptr 5 0),(6,.ptr 6 0),(12,.osl 12 43 1 (x12.map (cSl 3 aL))),(13,.osl 13 43 1 (kx13.1.map (cSl 3 aL))),(14,vI kx13.2)],[(5,gJ p0),(6,nI p1)]⟩
abbrev Ze (y:(List (List aA))×Int):V:=(.tup [.osl 242 43 1 (y.1.map (cSl 3 aL)),vI y.2])
abbrev Zf (y:(List (List aA))×Int):List (Nat×List V):=[]
abbrev aSp:=fun p2 p3 p4 p0 p1 x12 kx13 (r:(List (List aA))×Int)=>Lok Tryz.prog 71 0 (BQ Ze Zf r) (bSq p2 p3 p4 p0 p1 x12 kx13)
def cC5 (p2:List (List aA)) (p3:List (List aA)) (p4:List bF) (x12:List (List aA)) (x13:List (List aA)) (x14:Int) (kp0q:aR×GDb×(List aA)×Int):St:=⟨[(2,.d (.sl 1 (p2.map (cSl 3 aL)))),(3,.d (.sl 1 (p3.map (cSl 3 aL)))),(4,yM p4),(5,.ptr 5 0),(6,.ptr 6 0),(12,.osl 12 43 1 (x12.map (cSl 3 aL))),(13,.osl 13 43 1 (x13.map (cSl 3 aL))),(14,vI x14),(15,.osl 15 32 3 (kp0q.2.2.1.map aL)),(16,vI kp0q.2.2.2)],[(5,gJ kp0q.1),(6,nI kp0q.2.1)]⟩
abbrev aVv:=fun p2 p3 p4 x12 x13 x14 kp0q (r:(List (List aA))×Int)=>Lok Tryz.prog 71 1 (BQ Ze Zf r) (cC5 p2 p3 p4 x12 x13 x14 kp0q)
def bLv (p2:List (List aA)) (p3:List (List aA)) (p4:List bF) (x12:List (List aA)) (x13:List (List aA)) (x14:Int) (kx15q:(List aA)×aR×GDb×Int):St:=⟨[(2,.d (.sl 1 (p2.map (cSl 3 aL)))),(3,.d (.sl 1 (p3.map (cSl 3 aL)))),(4,yM p4),(5,.ptr 5 0),(6,.ptr 6 0),(12,.osl 12 43 1 (x12.map (cSl 3 aL))),(13,.osl 13 43 1 (x13.map (cSl 3 aL))),(14,vI x14),(15,.osl 15 32 3 (kx15q.1.map aL)),(19,vI kx15q.2.2.2)],[(5,gJ kx15q.2.1),(6,nI kx15q.2.2.1)]⟩
abbrev aTv:=fun p2 p3 p4 x12 x13 x14 kx15q (r:(List (List aA))×Int)=>Lok Tryz.prog 71 2 (BQ Ze Zf r) (bLv p2 p3 p4 x12 x13 x14 kx15q)

def bNb (p0:List aA) (p1:List aA) (p2:List bF) (x7:Int):St:=⟨[(0,fM p0),(1,fM p1),(2,yM p2),(7,vI x7)],[]⟩
abbrev aWv:=fun p0 p1 p2 x7 r=>Lok Tryz.prog 119 0 (PQ (fun y=>(vB y)) r) (bNb p0 p1 p2 x7)
def bJg (p0:List aA) (p1:List aA) (p2:List bF) (x7:Int) (x8:Int):St:=⟨[(0,fM p0),(1,fM p1),(2,yM p2),(7,vI x7),(8,vI x8)],[]⟩
abbrev aWh:=fun p0 p1 p2 x7 x8 r=>Jok Tryz.prog 119 7 (PQ (fun y=>(vB y)) r) (bJg p0 p1 p2 x7 x8)
def bTi (p2:List (List aA)) (p4:List aB) (p0:aR) (p1:GDb) (x3:List (List aA)) (x12:Int):St:=⟨[(2,.d (.sl 1 (p2.map (cSl 3 aL)))),(3,.d (.sl 1 (x3.map (cSl 3 aL)))),(4,mJ p4),(5,.ptr 5 0),(6,.ptr 6 0),(12,vI x12)],[(5,gJ p0),(6,nI p1)]⟩
abbrev aTp:=fun p2 p4 p0 p1 x3 x12 (r:(List (List aA))×Int)=>Lok Tryz.prog 70 0 (PQ (fun y=>(.tup [.d (.sl 1 (y.1.map (cSl 3 aL))),vI y.2])) r) (bTi p2 p4 p0 p1 x3 x12)
def cAv (p2:List (List aA)) (x3:List (List aA)) (p4:List aB) (x12:Int) (p0:aR) (p1:GDb) (kx13:(List (List aA))×Int):St:=⟨[(2,.d (.sl 1 (p2.map (cSl 3 aL)))),(3,.d (.sl 1 (x3.map (cSl 3 aL)))),(4,mJ p4),(5,.ptr 5 0),(6,.ptr 6 0),(12,vI x12),(13,.osl 13 43 1 (kx13.1.map (cSl 3 aL))),(14,vI kx13.2)],[(5,gJ p0),(6,nI p1)]⟩
abbrev aT3:=fun p2 x3 p4 x12 p0 p1 kx13 (r:(List (List aA))×Int)=>Lok Tryz.prog 70 1 (PQ (fun y=>(.tup [.d (.sl 1 (y.1.map (cSl 3 aL))),vI y.2])) r) (cAv p2 x3 p4 x12 p0 p1 kx13)
def cBr (p2:List (List aA)) (x3:List (List aA)) (p4:List aB) (x12:Int) (x14:Int) (p0:aR) (kp1:GDb×(List (List aA))):St:=⟨[(2,.d (.sl 1 (p2.map (cSl 3 aL)))),(3,.d (.sl 1 (x3.map (cSl 3 aL)))),(4,mJ p4),(5,.ptr 5 0),(6,.ptr 6 0),(12,vI x12),(13,.osl 13 43 1 (kp1.2.map (cSl 3 aL))),(14,vI x14)],[(5,gJ p0),(6,nI kp1.1)]⟩
abbrev aUi:=fun p2 x3 p4 x12 x14 p0 kp1 (r:(List (List aA))×Int)=>Jok Tryz.prog 70 11 (PQ (fun y=>(.tup [.d (.sl 1 (y.1.map (cSl 3 aL))),vI y.2])) r) (cBr p2 x3 p4 x12 x14 p0 kp1)

def bJ5 (p2:List (List aA)) (p3:List (List aA)) (p4:List aB) (p0:aR) (p1:GDb) (x12:List (List aA)) (x13:Int):St:=⟨[(2,.d (.sl 1 (p2.map (cSl 3 aL)))),(3,.d (.sl 1 (p3.map (cSl 3 aL)))),(4,mJ p4),(5,.ptr 5 0),(6,.ptr 6 0),(12,.osl 12 43 1 (x12.map (cSl 3 aL))),(13,vI x13)],[(5,gJ p0),(6,nI p1)]⟩
abbrev aX1:=fun p2 p3 p4 p0 p1 x12 x13 (r:(List (List aA))×Int)=>Lok Tryz.prog 72 0 (BQ Ze Zf r) (bJ5 p2 p3 p4 p0 p1 x12 x13)
def bRb (p2:List (List aA)) (p3:List (List aA)) (p4:List aB) (x12:List (List aA)) (x13:Int) (p0:aR) (kp1:GDb×(List aA)×Int):St:=⟨[(2,.d (.sl 1 (p2.map (cSl 3 aL)))),(3,.d (.sl 1 (p3.map (cSl 3 aL)))),(4,mJ p4),(5,.ptr 5 0),(6,.ptr 6 0),(12,.osl 12 43 1 (x12.map (cSl 3 aL))),(13,vI x13),(14,.osl 14 32 3 (kp1.2.1.map aL)),(15,vI kp1.2.2)],[(5,gJ p0),(6,nI kp1.1)]⟩
abbrev aX8:=fun p2 p3 p4 x12 x13 p0 kp1 (r:(List (List aA))×Int)=>Lok Tryz.prog 72 1 (BQ Ze Zf r) (bRb p2 p3 p4 x12 x13 p0 kp1)
def bQm (p2:List (List aA)) (p0:aR) (p1:GDb) (p3:aQ) (x10:List (List aA)) (x11:Int):St:=⟨[(2,.d (.sl 1 (p2.map (cSl 3 aL)))),(4,.ptr 4 0),(5,.ptr 5 0),(7,.ptr 7 0),(10,.d (.sl 1 (x10.map (cSl 3 aL)))),(11,vI x11)],[(4,gJ p0),(5,nI p1),(7,oQ p3)]⟩
abbrev aQl:=fun p2 p0 p1 p3 x10 x11 (r:(List (List aA))×Int)=>Lok Tryz.prog 69 0 (PQ (fun y=>(.tup [.d (.sl 1 (y.1.map (cSl 3 aL))),vI y.2])) r) (bQm p2 p0 p1 p3 x10 x11)
def bO1 (p2:List (List aA)) (x10:List (List aA)) (x11:Int) (y2:jR) (p0:aR) (p1:GDb) (kp3q:aQ×(((List (List aA))×Int))):St:=⟨[(2,.d (.sl 1 (p2.map (cSl 3 aL)))),(4,.ptr 4 0),(5,.ptr 5 0),(7,.ptr 7 0),(10,.d (.sl 1 (x10.map (cSl 3 aL)))),(11,vI x11),(12,.d (.sl 1 (y2.rows.map (cSl 3 aL)))),(13,.osl 13 43 1 (kp3q.2.1.map (cSl 3 aL))),(14,vI kp3q.2.2)],[(4,gJ p0),(5,nI p1),(7,oQ kp3q.1)]⟩
abbrev aUp:=fun p2 x10 x11 y2 p0 p1 kp3q (r:(List (List aA))×Int)=>Lok Tryz.prog 69 1 (PQ (fun y=>(.tup [.d (.sl 1 (y.1.map (cSl 3 aL))),vI y.2])) r) (bO1 p2 x10 x11 y2 p0 p1 kp3q)
def bWd (p2:List (List aA)) (x10:List (List aA)) (x11:Int) (y2:jR) (x14:Int) (p0:aR) (kp1:GDb×aQ×(((List (List aA))×Int))):St:=⟨[(2,.d (.sl 1 (p2.map (cSl 3 aL)))),(4,.ptr 4 0),(5,.ptr 5 0),(7,.ptr 7 0),(10,.d (.sl 1 (x10.map (cSl 3 aL)))),(11,vI x11),(12,.d (.sl 1 (y2.rows.map (cSl 3 aL)))),(13,.osl 13 43 1 (kp1.2.2.1.map (cSl 3 aL))),(14,vI x14),(15,vI kp1.2.2.2)],[(4,gJ p0),(5,nI kp1.1),(7,oQ kp1.2.1)]⟩
abbrev aUs:=fun p2 x10 x11 y2 x14 p0 kp1 (r:(List (List aA))×Int)=>Lok Tryz.prog 69 2 (PQ (fun y=>(.tup [.d (.sl 1 (y.1.map (cSl 3 aL))),vI y.2])) r) (bWd p2 x10 x11 y2 x14 p0 kp1)



def bN1 (p2:List (List aA)) (p3:aB) (p0:aR) (p1:GDb) (x81:Int) (iE:List aA):St:=⟨[(2,.d (.sl 1 (p2.map (cSl 3 aL)))),(4,.ptr 4 0),(5,.ptr 5 0),(7,.ptr 7 0),(8,.ptr 8 0),(10,.ptr 10 0),(79,mJ p3.kids),(80,vI (p3.kids.length:Int)),(81,vI x81)],[(4,gJ p0),(5,nI p1),(7,sS p3),(8,[vI 0,vI 0,vS []]),(10,[vI p3.kind,vI p3.op,vB p3.not_,vI p3.value.kind,vI p3.value.num,vS p3.value.text,.osl 101 32 3 (iE.map aL),.nil 1])]⟩
abbrev aQj:=fun p2 p3 p0 p1 x81 iE (r:aA×Int)=>Lok Tryz.prog 6 0 (PQ (fun y=>(.tup [bV y.1,vI y.2])) r) (bN1 p2 p3 p0 p1 x81 iE)
def bOq (p2:List (List aA)) (p3:aB) (p0:aR) (p1:GDb) (iE:List aA) (qD:Int) (rU:List (List aA)):St:=⟨[(2,.d (.sl 1 (p2.map (cSl 3 aL)))),(4,.ptr 4 0),(5,.ptr 5 0),(8,.ptr 8 0),(10,.ptr 10 0),(105,bTw p3.sub),(106,vI (p3.sub.length:Int)),(107,vI qD)],[(4,gJ p0),(5,nI p1),(8,[vI 0,vI 0,vS []]),(10,[vI p3.kind,vI p3.op,vB p3.not_,vI p3.value.kind,vI p3.value.num,vS p3.value.text,.osl 101 32 3 (iE.map aL),.d (.sl 1 (rU.map (cSl 3 aL)))])]⟩
abbrev aZh:=fun p2 p3 p0 p1 iE qD rU (r:aA×Int)=>Lok Tryz.prog 6 1 (PQ (fun y=>(.tup [bV y.1,vI y.2])) r) (bOq p2 p3 p0 p1 iE qD rU)

def bNa (p0:Int) (Y8:Int):St:=⟨[(2,.ptr 2 0),(4,.ptr 4 0)],[(2,[vB false,vB false,vB false,vB false,vI 0,vI 0,vI 0]),(4,[vI p0,vI Y8,vB false,vI 0,vI 0,vS [],vS [],vS [120],.nil 10,.nil 6])]⟩
abbrev bXx:=fun p0 Y8 (r:kW×Bool)=>Jok Tryz.prog 58 2 (PQ (fun y=>(.tup [aSx y.1,vB y.2])) r) (bNa p0 Y8)










def bUy (p0:List Int) (x8:Int):St:=⟨[(3,vI 0),(6,qH p0),(7,vI (p0.length:Int)),(8,vI x8)],[]⟩
abbrev aQi:=fun p0 x8 r=>Lok Tryz.prog 143 0 (PQ (fun y=>(vI y)) r) (bUy p0 x8)


def bTt (gY:Int):St:=⟨[(2,.ptr 2 0),(3,.ptr 3 0)],[(2,[vI 0,vI 0,vS []]),(3,tK (aA.mk 3 gY []))]⟩
abbrev bRx:=fun gY r=>Jok Tryz.prog 66 2 (PQ (fun y=>(bV y)) r) (bTt gY)

def bXz (x8:Int) (x9:Bool):St:=⟨[(6,.ptr 6 0),(8,vI x8),(9,vB x9)],[(6,[vI 0,vI 0,vS []])]⟩
abbrev bR3:=fun x8 x9 (r:aA×Int)=>Jok Tryz.prog 109 2 (PQ (fun y=>(.tup [bV y.1,vI y.2])) r) (bXz x8 x9)





def bVc (p0:Int) (p1:aA) (p2:aA) (x15:Int):St:=⟨[(0,vI p0),(4,.ptr 4 0),(5,.ptr 5 0),(6,.ptr 6 0),(13,.osl 13 32 3 (([p1,p2]:List aA).map aL)),(14,vI (([p1,p2]:List aA).length:Int)),(15,vI x15)],[(4,tK p1),(5,tK p2),(6,[vI 0,vI 0,vS []])]⟩
abbrev aUq:=fun p0 p1 p2 x15 (r:aA×Int)=>Lok Tryz.prog 110 0 (PQ (fun y=>(.tup [bV y.1,vI y.2])) r) (bVc p0 p1 p2 x15)
def bOd (p0:qF) (x4:List aA) (x42:Int):St:=⟨[(1,.ptr 1 0),(2,.ptr 2 0),(4,.osl 4 32 3 (x4.map aL)),(40,.d (.sl 1 (p0.rows.map (cSl 3 aL)))),(41,vI (p0.rows.length:Int)),(42,vI x42)],[(1,bV1 p0),(2,[vI 0,vI 0,vS []])]⟩
abbrev aWl:=fun p0 x4 x42 (r:aA×Int)=>Lok Tryz.prog 67 0 (PQ (fun y=>(.tup [bV y.1,vI y.2])) r) (bOd p0 x4 x42)

def bT2 (p1:List aA) (p0:aA) (x14:Int) (jL:Int) (jJ:Int) (jI:List UInt8):St:=⟨[(2,.ptr 2 0),(4,.ptr 4 0),(6,.ptr 6 0),(12,fM p1),(13,vI (p1.length:Int)),(14,vI x14)],[(2,tK p0),(4,[vI 0,vI 0,vS []]),(6,tK (aA.mk jL jJ jI))]⟩
abbrev aWn:=fun p1 p0 x14 jL jJ jI (r:aA×Int)=>Lok Tryz.prog 115 0 (PQ (fun y=>(.tup [bV y.1,vI y.2])) r) (bT2 p1 p0 x14 jL jJ jI)

def bXa (p3:aQ) (p0:aR) (p1:GDb) (p2:List (List aA)) (x40:Int) (eQ:List (List (List aA))):St:=⟨[(4,.ptr 4 0),(5,.ptr 5 0),(6,.ptr 6 0),(7,.ptr 7 0),(10,.ptr 10 0),(38,qH p3.tables),(39,vI (p3.tables.length:Int)),(40,vI x40)],[(4,gJ p0),(5,nI p1),(6,[.d (.sl 1 (p2.map (cSl 3 aL)))]),(7,oQ p3),(10,[.osl 62 30 1 (eQ.map (cSl 1 (cSl 3 aL))),.nil 1,.nil 1,.nil 2,.nf,vB p3.distinct,vI p3.limit])]⟩
abbrev aSy:=fun p3 p0 p1 p2 x40 eQ (r:(List (List aA))×Int)=>Lok Tryz.prog 23 0 (PQ (fun y=>(.tup [.d (.sl 1 (y.1.map (cSl 3 aL))),vI y.2])) r) (bXa p3 p0 p1 p2 x40 eQ)
def bO0 (p0:aR) (p1:GDb) (p2:List (List aA)) (p3:aQ) (eQ:List (List (List aA))) (x69:Int) (iI:List (List bZ)):St:=⟨[(7,.ptr 7 0),(10,.ptr 10 0),(13,.d (aTh (pG.mk p0 p1 p2))),(67,.d (.sl 1 (p3.on_.map (cSl 10 aP)))),(68,vI (p3.on_.length:Int)),(69,vI x69)],[(7,oQ p3),(10,[.osl 62 30 1 (eQ.map (cSl 1 (cSl 3 aL))),.osl 79 113 1 (iI.map (cSl 1 iY)),.nil 1,.nil 2,.nf,vB p3.distinct,vI p3.limit])]⟩
abbrev aRo:=fun p0 p1 p2 p3 eQ x69 iI (r:(List (List aA))×Int)=>Lok Tryz.prog 23 1 (PQ (fun y=>(.tup [.d (.sl 1 (y.1.map (cSl 3 aL))),vI y.2])) r) (bO0 p0 p1 p2 p3 eQ x69 iI)
def bMd (p0:aR) (p1:GDb) (p2:List (List aA)) (p3:aQ) (eQ:List (List (List aA))) (iI:List (List bZ)) (ky9:(List bZ)×Int×(List nL)):St:=⟨[(7,.ptr 7 0),(10,.ptr 10 0),(13,.d (aTh (pG.mk p0 p1 p2))),(88,yM p3.order),(89,vI (p3.order.length:Int)),(90,vI ky9.2.1)],[(7,oQ p3),(10,[.osl 62 30 1 (eQ.map (cSl 1 (cSl 3 aL))),.osl 79 113 1 (iI.map (cSl 1 iY)),.osl 85 122 1 (ky9.1.map iY),.osl 107 124 2 (ky9.2.2.map wE),.nf,vB p3.distinct,vI p3.limit])]⟩
abbrev aXy:=fun p0 p1 p2 p3 eQ iI ky9 (r:(List (List aA))×Int)=>Lok Tryz.prog 23 2 (PQ (fun y=>(.tup [.d (.sl 1 (y.1.map (cSl 3 aL))),vI y.2])) r) (bMd p0 p1 p2 p3 eQ iI ky9)
def bPc (p1:aR) (p2:GDb) (p3:List (List aA)) (p0:List aB) (x6:List bZ) (x12:Int):St:=⟨[(1,.rp [.sl 2 (p1.tables.map mO)]),(2,.rp [.sl 1 (p2.tables.map oW)]),(3,.rp [.sl 1 (p3.map (cSl 3 aL))]),(6,.osl 6 122 1 (x6.map iY)),(10,mJ p0),(11,vI (p0.length:Int)),(12,vI x12)],[]⟩
abbrev Zg (y:List bZ):V:=(.osl 242 122 1 (y.map iY))
abbrev aYl:=fun p1 p2 p3 p0 x6 x12 (r:List bZ)=>Lok Tryz.prog 59 0 (BQ Zg (fun (y:List bZ)=>[]) r) (bPc p1 p2 p3 p0 x6 x12)
def bKp (y2:(List (List aA))×Int) (p0:eX) (x6:List (List aA)) (x31:Int):St:=⟨[(1,.ptr 1 0),(6,.osl 6 43 1 (x6.map (cSl 3 aL))),(29,.osl 4 43 1 (y2.1.map (cSl 3 aL))),(30,vI (y2.1.length:Int)),(31,vI x31)],[(1,aCv p0)]⟩
abbrev aUr:=fun y2 p0 x6 x31 (r:(List (List aA))×Int)=>Lok Tryz.prog 63 0 (PQ (fun y=>(.tup [.d (.sl 1 (y.1.map (cSl 3 aL))),vI y.2])) r) (bKp y2 p0 x6 x31)
def bRc (p0:eX) (xA:List (List aA)):St:=⟨[(1,.ptr 1 0),(6,.osl 6 43 1 (xA.map (cSl 3 aL)))],[(1,aCv p0)]⟩
abbrev cAn:=fun p0 xA (r:(List (List aA))×Int)=>Jok Tryz.prog 63 20 (PQ (fun y=>(.tup [.d (.sl 1 (y.1.map (cSl 3 aL))),vI y.2])) r) (bRc p0 xA)
def bKv (aAb:List (List aA)):St:=⟨[(6,.d (.sl 1 (aAb.map (cSl 3 aL))))],[]⟩
abbrev bUd:=fun aAb (r:(List (List aA))×Int)=>Jok Tryz.prog 63 22 (PQ (fun y=>(.tup [.d (.sl 1 (y.1.map (cSl 3 aL))),vI y.2])) r) (bKv aAb)

def cAi (p1:List aA) (p0:List bZ) (x6:List aA) (x14:Int):St:=⟨[(1,fM p1),(6,.osl 6 32 3 (x6.map aL)),(12,zO p0),(13,vI (p0.length:Int)),(14,vI x14)],[]⟩
abbrev Zi (y:(List aA)×Int):V:=(.tup [.osl 242 32 3 (y.1.map aL),vI y.2])
abbrev Zj (y:(List aA)×Int):List (Nat×List V):=[]
abbrev aR9:=fun p1 p0 x6 x14 (r:(List aA)×Int)=>Lok Tryz.prog 62 0 (BQ Zi Zj r) (cAi p1 p0 x6 x14)

def bWs (p1:List (List aA)) (p0:eX) (x20:Int) (iV:List aX):St:=⟨[(2,.ptr 2 0),(6,.tre 399),(18,.d (.sl 1 (p1.map (cSl 3 aL)))),(19,vI (p1.length:Int)),(20,vI x20)],[(2,aCv p0),(399,[.trs 2 (iV.map bD)])]⟩
abbrev aQn:=fun p1 p0 x20 iV (r:(List (List aA))×Int)=>Lok Tryz.prog 106 0 (BQ Ze Zf r) (bWs p1 p0 x20 iV)
def bYv (y1:List aA) (p1:List (List aA)) (x20:Int) (p0:eX) (iV:List aX) (x9:List aA) (x28:Int):St:=⟨[(2,.ptr 2 0),(6,.tre 411),(8,fM y1),(9,.osl 9 32 3 (x9.map aL)),(18,.d (.sl 1 (p1.map (cSl 3 aL)))),(19,vI (p1.length:Int)),(20,vI x20),(26,aS0 p0.order),(27,vI (p0.order.length:Int)),(28,vI x28)],[(2,aCv p0),(411,[.trs 2 (iV.map bD)])]⟩
abbrev aQu:=fun y1 p1 x20 p0 iV x9 x28 (r:(List (List aA))×Int)=>Lok Tryz.prog 106 1 (BQ Ze Zf r) (bYv y1 p1 x20 p0 iV x9 x28)
def bJ6 (y2:List aX) (x14:List (List aA)) (x60:Int):St:=⟨[(14,.osl 14 43 1 (x14.map (cSl 3 aL))),(58,.tre 437),(59,vI (y2.length:Int)),(60,vI x60)],[(437,[.trs 2 (y2.map bD)])]⟩
abbrev aSk:=fun y2 x14 x60 (r:(List (List aA))×Int)=>Lok Tryz.prog 106 2 (BQ Ze Zf r) (bJ6 y2 x14 x60)

def bZ5 (p1:Int) (p2:fH) (x7:Int) (x8:Int) (bI:List aX):St:=⟨[(0,.tre 244),(1,vI p1),(2,.d (mF p2)),(6,vI 20),(7,vI x7),(8,vI x8)],[(244,[.trs 2 (bI.map bD)])]⟩
abbrev Zl (y:List aX):List (Nat×List V):=[(244,[.trs 2 (y.map bD)])]
abbrev Zk (y:List aX):V:=(.tup [])
abbrev aWo:=fun p1 p2 x7 x8 bI (r:List aX)=>Lok Tryz.prog 142 0 (BQ Zk Zl r) (bZ5 p1 p2 x7 x8 bI)
def bPx (p1:Int) (p2:fH) (x6:Int) (qX:List aX):St:=⟨[(0,.tre 244),(1,vI p1),(2,.d (mF p2)),(6,vI x6)],[(244,[.trs 2 (qX.map bD)])]⟩
abbrev aVb:=fun p1 p2 x6 qX (r:List aX)=>Lok Tryz.prog 142 1 (BQ Zk Zl r) (bPx p1 p2 x6 qX)
def bJa (p1:Int) (p2:fH) (x6:Int) (nV:Int) (oP:Int) (qC:List aX):St:=⟨[(0,.tre 244),(1,vI p1),(2,.d (mF p2)),(6,vI x6),(7,vI nV),(8,vI oP)],[(244,[.trs 2 (qC.map bD)])]⟩
abbrev aY8:=fun p1 p2 x6 nV oP qC (r:List aX)=>Lok Tryz.prog 142 2 (BQ Zk Zl r) (bJa p1 p2 x6 nV oP qC)
def bVg (p1:Int) (p2:fH) (x6:Int) (rZ:List aX):St:=⟨[(0,.tre 244),(1,vI p1),(2,.d (mF p2)),(6,vI x6)],[(244,[.trs 2 (rZ.map bD)])]⟩
abbrev aRk:=fun p1 p2 x6 rZ (r:List aX)=>Jok Tryz.prog 142 16 (BQ Zk Zl r) (bVg p1 p2 x6 rZ)
def bWp (p1:Int) (p2:Int) (p3:fH) (x8:Int) (bI:List aX):St:=⟨[(0,.tre 244),(1,vI p1),(2,vI p2),(3,.d (mF p3)),(8,vI x8)],[(244,[.trs 2 (bI.map bD)])]⟩
abbrev aR8:=fun p1 p2 p3 x8 bI (r:List aX)=>Lok Tryz.prog 147 0 (BQ Zk Zl r) (bWp p1 p2 p3 x8 bI)
def bK3 (p1:Int) (p2:Int) (p3:fH) (x8:Int) (x9:Int) (fO:List aX):St:=⟨[(0,.tre 244),(1,vI p1),(2,vI p2),(3,.d (mF p3)),(8,vI x8),(9,vI x9)],[(244,[.trs 2 (fO.map bD)])]⟩
abbrev aY5:=fun p1 p2 p3 x8 x9 fO (r:List aX)=>Lok Tryz.prog 147 1 (BQ Zk Zl r) (bK3 p1 p2 p3 x8 x9 fO)
def bMo (p2:eX) (p0:aX) (p1:aX) (x12:Int):St:=⟨[(3,.ptr 3 0),(4,.ptr 4 0),(10,aS0 p2.order),(11,vI (p2.order.length:Int)),(12,vI x12)],[(3,aOv p0),(4,aOv p1)]⟩
abbrev aTu:=fun p2 p0 p1 x12 r=>Lok Tryz.prog 130 0 (PQ (fun y=>(vI y)) r) (bMo p2 p0 p1 x12)
def cC0 (p2:eX) (x12:Int) (p0:aX) (p1:aX) (x8:Int):St:=⟨[(3,.ptr 3 0),(4,.ptr 4 0),(8,vI x8),(10,aS0 p2.order),(11,vI (p2.order.length:Int)),(12,vI x12)],[(3,aOv p0),(4,aOv p1)]⟩
abbrev aXv:=fun p2 x12 p0 p1 x8 r=>Jok Tryz.prog 130 8 (PQ (fun y=>(vI y)) r) (cC0 p2 x12 p0 p1 x8)
def bNt (p1:Int) (p4:fH) (p0:List aX) (x10:Int) (x11:Int):St:=⟨[(0,.tre 244),(1,vI p1),(4,.d (mF p4)),(10,vI x10),(11,vI x11)],[(244,[.trs 2 (p0.map bD)])]⟩
abbrev aVy:=fun p1 p4 p0 x10 x11 (r:List aX)=>Lok Tryz.prog 148 0 (BQ Zk Zl r) (bNt p1 p4 p0 x10 x11)
def bNk (p2:Int) (p4:fH) (p0:List aX) (x14:Int) (x15:Int):St:=⟨[(0,.tre 244),(2,vI p2),(4,.d (mF p4)),(14,vI x14),(15,vI x15)],[(244,[.trs 2 (p0.map bD)])]⟩
abbrev aYr:=fun p2 p4 p0 x14 x15 (r:List aX)=>Lok Tryz.prog 148 2 (BQ Zk Zl r) (bNk p2 p4 p0 x14 x15)
def bUv (p1:Int) (p2:Int) (p3:Int) (p4:fH) (p0:List aX) (x20:Int) (x21:Int):St:=⟨[(0,.tre 244),(1,vI p1),(2,vI p2),(3,vI p3),(4,.d (mF p4)),(18,vI (QA .i64 (QB (QA .u64 (QA .i64 (p1+p3))) (2 ^ 1)))),(19,vI (QA .i64 ((QA .i64 (QB (QA .u64 (QA .i64 (p1+p3))) (2 ^ 1)))+p2))),(20,vI x20),(21,vI x21)],[(244,[.trs 2 (p0.map bD)])]⟩
abbrev aTo:=fun p1 p2 p3 p4 p0 x20 x21 (r:List aX)=>Jok Tryz.prog 148 31 (BQ Zk Zl r) (bUv p1 p2 p3 p4 p0 x20 x21)
def bVq (x10:Int) (x13:Int) (bI:List aX):St:=⟨[(0,.tre 244),(10,vI x10),(13,vI x13)],[(244,[.trs 2 (bI.map bD)])]⟩
abbrev aYw:=fun x10 x13 bI (r:List aX)=>Lok Tryz.prog 148 1 (BQ Zk Zl r) (bVq x10 x13 bI)
def bUk (x14:Int) (x17:Int) (iZ:List aX):St:=⟨[(0,.tre 244),(14,vI x14),(17,vI x17)],[(244,[.trs 2 (iZ.map bD)])]⟩
abbrev aXq:=fun x14 x17 iZ (r:List aX)=>Lok Tryz.prog 148 3 (BQ Zk Zl r) (bUk x14 x17 iZ)
def bM5 (p1:Int) (p2:Int) (p3:Int) (p4:fH) (p0:List aX) (dF:Int) (jC:Int):St:=⟨[(0,.tre 244),(1,vI p1),(2,vI p2),(3,vI p3),(4,.d (mF p4)),(18,vI (QA .i64 (QB (QA .u64 (QA .i64 (p1+p3))) (2 ^ 1)))),(19,vI (QA .i64 ((QA .i64 (QB (QA .u64 (QA .i64 (p1+p3))) (2 ^ 1)))+p2))),(20,vI dF),(21,vI jC),(22,vI (QA .i64 ((QA .i64 ((QA .i64 (QB (QA .u64 (QA .i64 (p1+p3))) (2 ^ 1)))+p2)) - 1)))],[(244,[.trs 2 (p0.map bD)])]⟩
abbrev aUa:=fun p1 p2 p3 p4 p0 dF jC (r:List aX)=>Lok Tryz.prog 148 4 (BQ Zk Zl r) (bM5 p1 p2 p3 p4 p0 dF jC)
def bKa (p1:Int) (p3:Int) (p4:fH) (dF:Int) (p2:Int) (rA:List aX):St:=⟨[(0,.tre 244),(1,vI p1),(3,vI p3),(4,.d (mF p4)),(18,vI (QA .i64 (QB (QA .u64 (QA .i64 (p1+p3))) (2 ^ 1)))),(20,vI dF),(24,vI (QA .i64 ((QA .i64 ((QA .i64 (QB (QA .u64 (QA .i64 (p1+p3))) (2 ^ 1)))+p2)) - dF)))],[(244,[.trs 2 (rA.map bD)])]⟩
abbrev aXr:=fun p1 p3 p4 dF p2 rA (r:List aX)=>Jok Tryz.prog 148 42 (BQ Zk Zl r) (bKa p1 p3 p4 dF p2 rA)
def cAw (p3:Int) (p4:fH) (p1:Int) (p2:Int) (dF:Int) (qY:List aX):St:=⟨[(0,.tre 244),(3,vI p3),(4,.d (mF p4)),(18,vI (QA .i64 (QB (QA .u64 (QA .i64 (p1+p3))) (2 ^ 1)))),(24,vI (QA .i64 ((QA .i64 ((QA .i64 (QB (QA .u64 (QA .i64 (p1+p3))) (2 ^ 1)))+p2)) - dF)))],[(244,[.trs 2 (qY.map bD)])]⟩
abbrev aZr:=fun p3 p4 p1 p2 dF qY (r:List aX)=>Jok Tryz.prog 148 44 (BQ Zk Zl r) (cAw p3 p4 p1 p2 dF qY)
def bK4 (p2:Int) (p4:fH) (x10:Int) (x11:Int) (bI:List aX):St:=⟨[(0,.tre 244),(2,vI p2),(4,.d (mF p4)),(10,vI x10),(11,vI x11)],[(244,[.trs 2 (bI.map bD)])]⟩
abbrev aWf:=fun p2 p4 x10 x11 bI (r:List aX)=>Lok Tryz.prog 151 0 (BQ Zk Zl r) (bK4 p2 p4 x10 x11 bI)
def bVk (p1:Int) (p2:Int) (p3:Int) (x10:Int) (bI:List aX):St:=⟨[(0,.tre 244),(1,vI p1),(2,vI p2),(3,vI p3),(10,vI x10)],[(244,[.trs 2 (bI.map bD)])]⟩
abbrev aYx:=fun p1 p2 p3 x10 bI (r:List aX)=>Lok Tryz.prog 152 0 (BQ Zk Zl r) (bVk p1 p2 p3 x10 bI)
def bJt (p0:eX) (x4:List (List aA)) (x19:Int):St:=⟨[(1,.ptr 1 0),(4,.d (.sl 1 (x4.map (cSl 3 aL)))),(17,.d (.sl 1 (p0.tables.map (cSl 1 (cSl 3 aL))))),(18,vI (p0.tables.length:Int)),(19,vI x19)],[(1,aCv p0)]⟩
abbrev aRr:=fun p0 x4 x19 (r:(List (List aA))×Int)=>Lok Tryz.prog 105 0 (PQ (fun y=>(.tup [.d (.sl 1 (y.1.map (cSl 3 aL))),vI y.2])) r) (bJt p0 x4 x19)
def bZ3 (x19:Int) (y1:List (List aA)) (p0:eX) (x4:List (List aA)) (x7:List (List aA)) (x27:Int):St:=⟨[(1,.ptr 1 0),(5,vI x19),(6,.d (.sl 1 (y1.map (cSl 3 aL)))),(7,.osl 7 43 1 (x7.map (cSl 3 aL))),(17,.d (.sl 1 (p0.tables.map (cSl 1 (cSl 3 aL))))),(18,vI (p0.tables.length:Int)),(19,vI x19),(25,.d (.sl 1 (x4.map (cSl 3 aL)))),(26,vI (x4.length:Int)),(27,vI x27)],[(1,aCv p0)]⟩
abbrev aQk:=fun x19 y1 p0 x4 x7 x27 (r:(List (List aA))×Int)=>Lok Tryz.prog 105 1 (PQ (fun y=>(.tup [.d (.sl 1 (y.1.map (cSl 3 aL))),vI y.2])) r) (bZ3 x19 y1 p0 x4 x7 x27)
def bYa (x19:Int) (y1:List (List aA)) (y3:List aA) (p0:eX) (x4:List (List aA)) (x27:Int) (mW:(List (List aA))×Int):St:=⟨[(1,.ptr 1 0),(5,vI x19),(6,.d (.sl 1 (y1.map (cSl 3 aL)))),(7,.osl 7 43 1 (mW.1.map (cSl 3 aL))),(9,fM y3),(17,.d (.sl 1 (p0.tables.map (cSl 1 (cSl 3 aL))))),(18,vI (p0.tables.length:Int)),(19,vI x19),(25,.d (.sl 1 (x4.map (cSl 3 aL)))),(26,vI (x4.length:Int)),(27,vI x27),(31,.d (.sl 1 (y1.map (cSl 3 aL)))),(32,vI (y1.length:Int)),(33,vI mW.2)],[(1,aCv p0)]⟩
abbrev aVj:=fun x19 y1 y3 p0 x4 x27 mW (r:(List (List aA))×Int)=>Lok Tryz.prog 105 2 (PQ (fun y=>(.tup [.d (.sl 1 (y.1.map (cSl 3 aL))),vI y.2])) r) (bYa x19 y1 y3 p0 x4 x27 mW)
def bMc (p1:List bZ) (x0:List (List aA)) (x15:Int):St:=⟨[(0,.d (.sl 1 (x0.map (cSl 3 aL)))),(13,zO p1),(14,vI (p1.length:Int)),(15,vI x15)],[]⟩
abbrev aT9:=fun p1 x0 x15 (r:(List (List aA))×Int)=>Lok Tryz.prog 128 0 (PQ (fun y=>(.tup [.d (.sl 1 (y.1.map (cSl 3 aL))),vI y.2])) r) (bMc p1 x0 x15)
def bKj (y1:bZ) (p1:List bZ) (x15:Int) (x0:List (List aA)) (x8:List (List aA)) (x22:Int):St:=⟨[(7,.d (aMb y1)),(8,.osl 8 43 1 (x8.map (cSl 3 aL))),(13,zO p1),(14,vI (p1.length:Int)),(15,vI x15),(20,.d (.sl 1 (x0.map (cSl 3 aL)))),(21,vI (x0.length:Int)),(22,vI x22)],[]⟩
abbrev aQy:=fun y1 p1 x15 x0 x8 x22 (r:(List (List aA))×Int)=>Lok Tryz.prog 128 1 (PQ (fun y=>(.tup [.d (.sl 1 (y.1.map (cSl 3 aL))),vI y.2])) r) (bKj y1 p1 x15 x0 x8 x22)
def cAj (y1:bZ) (p1:List bZ) (x15:Int) (x0:List (List aA)) (x22:Int) (rV:List (List aA)):St:=⟨[(7,.d (aMb y1)),(8,.osl 8 43 1 (rV.map (cSl 3 aL))),(13,zO p1),(14,vI (p1.length:Int)),(15,vI x15),(20,.d (.sl 1 (x0.map (cSl 3 aL)))),(21,vI (x0.length:Int)),(22,vI x22)],[]⟩
abbrev aSc:=fun y1 p1 x15 x0 x22 rV (r:(List (List aA))×Int)=>Jok Tryz.prog 128 12 (PQ (fun y=>(.tup [.d (.sl 1 (y.1.map (cSl 3 aL))),vI y.2])) r) (cAj y1 p1 x15 x0 x22 rV)

def bYj (p0:List (List aA)) (x3:Int) (x11:Int):St:=⟨[(0,.d (.sl 1 (p0.map (cSl 3 aL)))),(3,vI x3),(9,.d (.sl 1 (p0.map (cSl 3 aL)))),(10,vI (p0.length:Int)),(11,vI x11)],[]⟩
abbrev Zm (y:List aA):V:=(.osl 242 32 3 (y.map aL))
abbrev Zn (y:List aA):List (Nat×List V):=[]
abbrev aS1:=fun p0 x3 x11 (r:List aA)=>Lok Tryz.prog 127 0 (BQ Zm Zn r) (bYj p0 x3 x11)
def cAr (p0:List (List aA)) (x3:Int) (y1:List aA) (x11:Int):St:=⟨[(0,.d (.sl 1 (p0.map (cSl 3 aL)))),(3,vI (QA .i64 (x3+(y1.length:Int)))),(9,.d (.sl 1 (p0.map (cSl 3 aL)))),(10,vI (p0.length:Int)),(11,vI x11)],[]⟩
abbrev aWx:=fun p0 x3 y1 x11 (r:List aA)=>Jok Tryz.prog 127 6 (BQ Zm Zn r) (cAr p0 x3 y1 x11)
def bU7 (p0:List (List aA)) (x6:List aA) (x27:Int):St:=⟨[(6,.osl 6 32 3 (x6.map aL)),(25,.d (.sl 1 (p0.map (cSl 3 aL)))),(26,vI (p0.length:Int)),(27,vI x27)],[]⟩
abbrev aTm:=fun p0 x6 x27 (r:List aA)=>Lok Tryz.prog 127 1 (BQ Zm Zn r) (bU7 p0 x6 x27)

def bMa (p0:List (List aA)) (x3:List (List aA)) (x9:Int):St:=⟨[(3,.osl 3 43 1 (x3.map (cSl 3 aL))),(7,.d (.sl 1 (p0.map (cSl 3 aL)))),(8,vI (p0.length:Int)),(9,vI x9)],[]⟩
abbrev aSb:=fun p0 x3 x9 (r:List (List aA))=>Lok Tryz.prog 107 0 (BQ Zc Zd r) (bMa p0 x3 x9)
def bZs (p0:List (List aA)) (x9:Int) (sF:List (List aA)):St:=⟨[(3,.osl 3 43 1 (sF.map (cSl 3 aL))),(7,.d (.sl 1 (p0.map (cSl 3 aL)))),(8,vI (p0.length:Int)),(9,vI x9)],[]⟩
abbrev aY1:=fun p0 x9 sF (r:List (List aA))=>Jok Tryz.prog 107 6 (BQ Zc Zd r) (bZs p0 x9 sF)

def bTq (p0:List (List aA)) (c0_0:List aA) (x8:Int):St:=⟨[(0,.d (.sl 1 (p0.map (cSl 3 aL)))),(1,.fn 133 [.ptr 241 0]),(7,vI (p0.length:Int)),(8,vI x8)],[(241,[fM c0_0])]⟩
abbrev Zo (y:Int):V:=(vI y)
abbrev aRj:=fun p0 c0_0 x8 r=>Lok Tryz.prog 146 0 (BQ Zo (fun (y:Int)=>[(241,[.d (.sl 3 (c0_0.map aL))])]) r) (bTq p0 c0_0 x8)

def bRv (p0:List aA) (p1:List aA) (x13:Int):St:=⟨[(0,fM p0),(1,fM p1),(12,vI (p0.length:Int)),(13,vI x13)],[]⟩
abbrev aZl:=fun p0 p1 x13 r=>Lok Tryz.prog 134 0 (PQ (fun y=>(vB y)) r) (bRv p0 p1 x13)

def bRs (p0:List Int) (x3:Int) (x4:Int):St:=⟨[(0,aEs p0),(3,vI x3),(4,vI x4)],[]⟩
abbrev aRc:=fun p0 x3 x4 r=>Lok Tryz.prog 11 0 (BQ (fun (y:aJ)=>(.ptr 31 0)) (fun (y:aJ)=>[(31,aV y)]) r) (bRs p0 x3 x4)

def bOs (p0:aB) (x3:Int):St:=⟨[(1,.ptr 1 0),(3,vI x3)],[(1,sS p0)]⟩
abbrev aWs:=fun p0 x3 r=>Lok Tryz.prog 41 0 (PQ (fun y=>(vB y)) r) (bOs p0 x3)
def bU9 (p0:aB) (x4:Int):St:=⟨[(1,.ptr 1 0),(4,vI x4)],[(1,sS p0)]⟩
abbrev aUw:=fun p0 x4 r=>Lok Tryz.prog 41 1 (PQ (fun y=>(vB y)) r) (bU9 p0 x4)
def bUt (x4:Int) (y5:List aB) (p0:aB) (x6:Int):St:=⟨[(1,.ptr 1 0),(4,vI x4),(5,.osl 5 36 10 (y5.map aP)),(6,vI x6)],[(1,sS p0)]⟩
abbrev aQs:=fun x4 y5 p0 x6 r=>Lok Tryz.prog 41 2 (PQ (fun y=>(vB y)) r) (bUt x4 y5 p0 x6)
def bNv (p0:aQ) (x3:List aB) (x4:Int):St:=⟨[(1,.ptr 1 0),(3,.osl 3 36 10 (x3.map aP)),(4,vI x4)],[(1,oQ p0)]⟩
abbrev Zs (y:List aB):V:=(.osl 242 36 10 (y.map aP))
abbrev aZi:=fun p0 x3 x4 (r:List aB)=>Lok Tryz.prog 98 0 (BQ Zs (fun (y:List aB)=>[]) r) (bNv p0 x3 x4)
def bW9 (p0:aQ) (qN:List aB) (x5:Int):St:=⟨[(1,.ptr 1 0),(3,.osl 3 36 10 (qN.map aP)),(5,vI x5)],[(1,oQ p0)]⟩
abbrev aVt:=fun p0 qN x5 (r:List aB)=>Lok Tryz.prog 98 1 (BQ Zs (fun (y:List aB)=>[]) r) (bW9 p0 qN x5)
def bX7 (p1:Int) (p2:Int) (p0:aB) (eP:Int):St:=⟨[(1,vI p1),(2,vI p2),(3,.ptr 3 0),(6,.ptr 6 0)],[(3,[vI p0.kind,vI p0.op,vB p0.not_,vI p0.value.kind,vI p0.value.num,vS p0.value.text,vI eP,vI p0.at_,.tre 250,.tre 251]),(6,[vI 0,vI 0,vB false,vI 0,vI 0,vS [],vI 0,vI 0,.nil 10,.nil 8]),(250,[.trc 10 (p0.kids.map aP)]),(251,[.trc 8 (p0.sub.map bR)])]⟩
abbrev Zu (y:aB):V:=(.agv [vI y.kind,vI y.op,vB y.not_,vI y.value.kind,vI y.value.num,vS y.value.text,vI y.up,vI y.at_,.tre 273,.tre 274])
abbrev Zv (y:aB):List (Nat×List V):=[(273,[.trc 10 (y.kids.map aP)]),(274,[.trc 8 (y.sub.map bR)]),(250,[.trd]),(251,[.trd])]
abbrev aS2:=fun p1 p2 p0 eP (r:aB)=>Jok Tryz.prog 42 1 (BQ Zu Zv r) (bX7 p1 p2 p0 eP)
def bT4 (p1:Int) (p2:Int) (p0:aB) (eP:Int) (x7:Int) (fV:List aB):St:=⟨[(1,vI p1),(2,vI p2),(3,.ptr 3 0),(6,.ptr 6 0),(7,vI x7)],[(3,[vI p0.kind,vI p0.op,vB p0.not_,vI p0.value.kind,vI p0.value.num,vS p0.value.text,vI eP,vI p0.at_,.tre 250,.tre 251]),(6,[vI 0,vI 0,vB false,vI 0,vI 0,vS [],vI 0,vI 0,.nil 10,.nil 8]),(250,[.trc 10 (fV.map aP)]),(251,[.trc 8 (p0.sub.map bR)])]⟩
abbrev aVl:=fun p1 p2 p0 eP x7 fV (r:aB)=>Lok Tryz.prog 42 0 (BQ Zu Zv r) (bT4 p1 p2 p0 eP x7 fV)
def cBc (p1:Int) (p2:Int) (p0:aB) (eP:Int) (fV:List aB) (x8:Int) (kX:List aQ):St:=⟨[(1,vI p1),(2,vI p2),(3,.ptr 3 0),(6,.ptr 6 0),(8,vI x8)],[(3,[vI p0.kind,vI p0.op,vB p0.not_,vI p0.value.kind,vI p0.value.num,vS p0.value.text,vI eP,vI p0.at_,.tre 250,.tre 251]),(6,[vI 0,vI 0,vB false,vI 0,vI 0,vS [],vI 0,vI 0,.nil 10,.nil 8]),(250,[.trc 10 (fV.map aP)]),(251,[.trc 8 (kX.map bR)])]⟩
abbrev aYs:=fun p1 p2 p0 eP fV x8 kX (r:aB)=>Lok Tryz.prog 42 1 (BQ Zu Zv r) (cBc p1 p2 p0 eP fV x8 kX)
def bZt (p1:Int) (p2:Int) (p0:aQ) (x7:Int) (dY:List (List aB)):St:=⟨[(1,vI p1),(2,vI p2),(3,.ptr 3 0),(6,.ptr 6 0),(7,vI x7)],[(3,[.tre 244,.tre 245,.tre 246,.tre 247,.tre 248,.tre 249,vB p0.distinct,vI p0.limit]),(6,[.nil 1,.nil 1,.nil 10,.nil 11,.nil 10,.nil 1,vB false,vI 0]),(244,[.trc 1 (p0.tables.map cI)]),(245,[.trc 1 (dY.map (cSl 10 aP))]),(246,[.trc 10 (p0.where_.map aP)]),(247,[.trc 11 (p0.order.map dU)]),(248,[.trc 10 (p0.items.map aP)]),(249,[.trc 1 (p0.names.map cStr)])]⟩
abbrev Zx (y:aQ):List (Nat×List V):=[(267,[.trc 1 (y.tables.map cI)]),(268,[.trc 1 (y.on_.map (cSl 10 aP))]),(269,[.trc 10 (y.where_.map aP)]),(270,[.trc 11 (y.order.map dU)]),(271,[.trc 10 (y.items.map aP)]),(272,[.trc 1 (y.names.map cStr)]),(244,[.trd]),(245,[.trd]),(246,[.trd]),(247,[.trd]),(248,[.trd]),(249,[.trd])]
abbrev Zw (y:aQ):V:=(.agv [.tre 267,.tre 268,.tre 269,.tre 270,.tre 271,.tre 272,vB y.distinct,vI y.limit])
abbrev aV0:=fun p1 p2 p0 x7 dY (r:aQ)=>Lok Tryz.prog 99 0 (BQ Zw Zx r) (bZt p1 p2 p0 x7 dY)
def bTx (p1:Int) (p2:Int) (x7:Int) (p0:aQ) (x8:Int) (kV:List (List aB)):St:=⟨[(1,vI p1),(2,vI p2),(3,.ptr 3 0),(6,.ptr 6 0),(7,vI x7),(8,vI x8)],[(3,[.tre 244,.tre 245,.tre 246,.tre 247,.tre 248,.tre 249,vB p0.distinct,vI p0.limit]),(6,[.nil 1,.nil 1,.nil 10,.nil 11,.nil 10,.nil 1,vB false,vI 0]),(244,[.trc 1 (p0.tables.map cI)]),(245,[.trc 1 (kV.map (cSl 10 aP))]),(246,[.trc 10 (p0.where_.map aP)]),(247,[.trc 11 (p0.order.map dU)]),(248,[.trc 10 (p0.items.map aP)]),(249,[.trc 1 (p0.names.map cStr)])]⟩
abbrev aZq:=fun p1 p2 x7 p0 x8 kV (r:aQ)=>Lok Tryz.prog 99 1 (BQ Zw Zx r) (bTx p1 p2 x7 p0 x8 kV)
def bY8 (p1:Int) (p2:Int) (p0:aQ) (dY:List (List aB)) (x9:Int) (eH:List aB):St:=⟨[(1,vI p1),(2,vI p2),(3,.ptr 3 0),(6,.ptr 6 0),(9,vI x9)],[(3,[.tre 244,.tre 245,.tre 246,.tre 247,.tre 248,.tre 249,vB p0.distinct,vI p0.limit]),(6,[.nil 1,.nil 1,.nil 10,.nil 11,.nil 10,.nil 1,vB false,vI 0]),(244,[.trc 1 (p0.tables.map cI)]),(245,[.trc 1 (dY.map (cSl 10 aP))]),(246,[.trc 10 (eH.map aP)]),(247,[.trc 11 (p0.order.map dU)]),(248,[.trc 10 (p0.items.map aP)]),(249,[.trc 1 (p0.names.map cStr)])]⟩
abbrev aYi:=fun p1 p2 p0 dY x9 eH (r:aQ)=>Lok Tryz.prog 99 2 (BQ Zw Zx r) (bY8 p1 p2 p0 dY x9 eH)
def cAf (p1:Int) (p2:Int) (p0:aQ) (dY:List (List aB)) (eH:List aB) (x10:Int) (fU:List bF):St:=⟨[(1,vI p1),(2,vI p2),(3,.ptr 3 0),(6,.ptr 6 0),(10,vI x10)],[(3,[.tre 244,.tre 245,.tre 246,.tre 247,.tre 248,.tre 249,vB p0.distinct,vI p0.limit]),(6,[.nil 1,.nil 1,.nil 10,.nil 11,.nil 10,.nil 1,vB false,vI 0]),(244,[.trc 1 (p0.tables.map cI)]),(245,[.trc 1 (dY.map (cSl 10 aP))]),(246,[.trc 10 (eH.map aP)]),(247,[.trc 11 (fU.map dU)]),(248,[.trc 10 (p0.items.map aP)]),(249,[.trc 1 (p0.names.map cStr)])]⟩
abbrev aU7:=fun p1 p2 p0 dY eH x10 fU (r:aQ)=>Lok Tryz.prog 99 3 (BQ Zw Zx r) (cAf p1 p2 p0 dY eH x10 fU)
def bLm (p1:Int) (p2:Int) (p0:aQ) (dY:List (List aB)) (eH:List aB) (fU:List bF) (x11:Int) (lC:List aB):St:=⟨[(1,vI p1),(2,vI p2),(3,.ptr 3 0),(6,.ptr 6 0),(11,vI x11)],[(3,[.tre 244,.tre 245,.tre 246,.tre 247,.tre 248,.tre 249,vB p0.distinct,vI p0.limit]),(6,[.nil 1,.nil 1,.nil 10,.nil 11,.nil 10,.nil 1,vB false,vI 0]),(244,[.trc 1 (p0.tables.map cI)]),(245,[.trc 1 (dY.map (cSl 10 aP))]),(246,[.trc 10 (eH.map aP)]),(247,[.trc 11 (fU.map dU)]),(248,[.trc 10 (lC.map aP)]),(249,[.trc 1 (p0.names.map cStr)])]⟩
abbrev aZc:=fun p1 p2 p0 dY eH fU x11 lC (r:aQ)=>Lok Tryz.prog 99 4 (BQ Zw Zx r) (bLm p1 p2 p0 dY eH fU x11 lC)
def bOu (p0:aB) (y1:List aB) (x4:Int) (rD:List aQ):St:=⟨[(1,.ptr 1 0),(2,.ptr 2 0),(3,.ptr 3 0),(4,vI x4)],[(1,sS p0),(2,[vI 0,vI 0,vB false,vI 0,vI 0,vS [],vI 0,vI 0,.nil 10,.nil 8]),(3,[vI p0.kind,vI p0.op,vB p0.not_,vI p0.value.kind,vI p0.value.num,vS p0.value.text,vI p0.up,vI p0.at_,.tre 404,.tre 405]),(405,[.trc 8 (rD.map bR)]),(404,[.trc 10 (y1.map aP)])]⟩
abbrev Zy (y:aB):List (Nat×List V):=[(273,[.trc 10 (y.kids.map aP)]),(274,[.trc 8 (y.sub.map bR)])]
abbrev aUb:=fun p0 y1 x4 rD (r:aB)=>Lok Tryz.prog 40 0 (BQ Zu Zy r) (bOu p0 y1 x4 rD)
def bRe (p0:List aB) (x4:Int) (iX:List aB):St:=⟨[(0,mJ p0),(3,.tre 396),(4,vI x4)],[(396,[.trc 10 (iX.map aP)])]⟩
abbrev ZA (y:List aB):List (Nat×List V):=[(267,[.trc 10 (y.map aP)])]
abbrev Zz (y:List aB):V:=(.tre 267)
abbrev aTq:=fun p0 x4 iX (r:List aB)=>Lok Tryz.prog 96 0 (BQ Zz ZA r) (bRe p0 x4 iX)
def bZ9 (p0:aQ) (y4:List (List UInt8)) (y3:List aB) (y2:List aB) (y1:List Int) (x4:Int) (jD:List (List aB)):St:=⟨[(1,.ptr 1 0),(2,.ptr 2 0),(3,.ptr 3 0),(4,vI x4)],[(1,oQ p0),(2,[.nil 1,.nil 1,.nil 10,.nil 11,.nil 10,.nil 1,vB false,vI 0]),(3,[.tre 406,.tre 407,.tre 408,.nil 11,.tre 409,.tre 410,vB p0.distinct,vI p0.limit]),(407,[.trc 1 (jD.map (cSl 10 aP))]),(410,[.trc 1 (y4.map cStr)]),(409,[.trc 10 (y3.map aP)]),(408,[.trc 10 (y2.map aP)]),(406,[.trc 1 (y1.map cI)])]⟩
abbrev ZB (y:aQ):List (Nat×List V):=[(267,[.trc 1 (y.tables.map cI)]),(268,[.trc 1 (y.on_.map (cSl 10 aP))]),(269,[.trc 10 (y.where_.map aP)]),(270,[.trc 11 (y.order.map dU)]),(271,[.trc 10 (y.items.map aP)]),(272,[.trc 1 (y.names.map cStr)])]
abbrev aTj:=fun p0 y4 y3 y2 y1 x4 jD (r:aQ)=>Lok Tryz.prog 97 0 (BQ Zw ZB r) (bZ9 p0 y4 y3 y2 y1 x4 jD)
def bSt (p0:aQ) (jD:List (List aB)) (y4:List (List UInt8)) (y3:List aB) (y2:List aB) (y1:List Int) (kx5:Int×(List bF)):St:=⟨[(1,.ptr 1 0),(2,.ptr 2 0),(3,.ptr 3 0),(5,vI kx5.1)],[(1,oQ p0),(2,[.nil 1,.nil 1,.nil 10,.nil 11,.nil 10,.nil 1,vB false,vI 0]),(3,[.tre 420,.tre 421,.tre 422,.tre 423,.tre 424,.tre 425,vB p0.distinct,vI p0.limit]),(423,[.trc 11 (kx5.2.map dU)]),(421,[.trc 1 (jD.map (cSl 10 aP))]),(425,[.trc 1 (y4.map cStr)]),(424,[.trc 10 (y3.map aP)]),(422,[.trc 10 (y2.map aP)]),(420,[.trc 1 (y1.map cI)])]⟩
abbrev aSl:=fun p0 jD y4 y3 y2 y1 kx5 (r:aQ)=>Lok Tryz.prog 97 1 (BQ Zw ZB r) (bSt p0 jD y4 y3 y2 y1 kx5)
def bLn (y3:(List (List Int))×aJ) (y2:aR×aJ) (U1:Int) (aBc:Int) (aA3:Bool) (aA7:Int) (R8:Int) (aAf:List UInt8) (R7:Int) (aB2:Int) (aAp:List Int) (V8:Int) (aBe:Int) (U6:List aB) (Y9:List aQ):St:=⟨[(2,.ptr 2 0),(3,.ptr 3 0),(5,.ptr 5 0),(6,.ptr 11 0),(7,.ptr 7 0),(8,.osl 8 42 1 (y3.1.map (cSl 1 cI))),(9,.ptr 9 0)],[(2,[.nil 2]),(3,[.nil 1]),(5,[vI 0,vI 0,vB false,vI 0,vI 0,vS [],vI 0,vI 0,.nil 10,.nil 8]),(7,gJ y2.1),(9,[vI U1,vI aBc,vB aA3,vI aA7,vI R8,vS aAf,vI R7,vI aB2,.tre 412,.tre 413]),(11,aV (aJ.mk aAp V8 aBe)),(412,[.trc 10 (U6.map aP)]),(413,[.trc 8 (Y9.map bR)])]⟩
abbrev ZC (y:aR×GDb×(List (List aA))×aB):V:=(.tup [eG y.1,jY y.2.1,.osl 243 43 1 (y.2.2.1.map (cSl 3 aL)),lX y.2.2.2])
abbrev ZD (y:aR×GDb×(List (List aA))×aB):List (Nat×List V):=[]
abbrev bUj:=fun y3 y2 U1 aBc aA3 aA7 R8 aAf R7 aB2 aAp V8 aBe U6 Y9 (r:aR×GDb×(List (List aA))×aB)=>Jok Tryz.prog 5 5 (BQ ZC ZD r) (bLn y3 y2 U1 aBc aA3 aA7 R8 aAf R7 aB2 aAp V8 aBe U6 Y9)
def bWo (y3:(List (List Int))×aJ) (y2:aR×aJ) (J5:Int) (O8:Int) (P8:Bool) (E8:Int) (F7:Int) (J9:List UInt8) (Q4:Int) (K5:Int) (X7:List Int) (aAs:Int) (aB6:Int) (Q3:List aB) (G6:List aQ):St:=⟨[(2,.ptr 2 0),(3,.ptr 3 0),(5,.ptr 5 0),(6,.ptr 11 0),(7,.ptr 7 0),(8,.osl 8 42 1 (y3.1.map (cSl 1 cI))),(9,.ptr 9 0)],[(2,[.nil 2]),(3,[.nil 1]),(5,[vI 0,vI 0,vB false,vI 0,vI 0,vS [],vI 0,vI 0,.nil 10,.nil 8]),(7,gJ y2.1),(9,[vI J5,vI O8,vB P8,vI E8,vI F7,vS J9,vI Q4,vI K5,.tre 414,.tre 415]),(11,aV (aJ.mk X7 aAs aB6)),(414,[.trc 10 (Q3.map aP)]),(415,[.trc 8 (G6.map bR)])]⟩
abbrev bSh:=fun y3 y2 J5 O8 P8 E8 F7 J9 Q4 K5 X7 aAs aB6 Q3 G6 (r:aR×GDb×(List (List aA))×aB)=>Jok Tryz.prog 5 7 (BQ ZC ZD r) (bWo y3 y2 J5 O8 P8 E8 F7 J9 Q4 K5 X7 aAs aB6 Q3 G6)


def bWj (p0:aJ) (x3:Int) (bC:Int):St:=⟨[(3,vI x3)],[(241,aV (aJ.mk p0.b bC (QA .i64 ((QA .i64 (p0.h * 6364136223846793005))+1442695040888963407))))]⟩
abbrev ZF (y:Int×aJ):List (Nat×List V):=[(241,aV y.2)]
abbrev ZE (y:Int×aJ):V:=(vI y.1)
abbrev bWc:=fun p0 x3 bC (r:Int×aJ)=>Jok Tryz.prog 51 3 (BQ ZE ZF r) (bWj p0 x3 bC)

def bYd (p1:List (List Int)) (x5:List (List aA)) (x6:Int) (bG:List Int) (bC:Int) (bJ:Int):St:=⟨[(0,.ptr 241 0),(1,.d (.sl 1 (p1.map (cSl 1 cI)))),(5,.osl 5 43 1 (x5.map (cSl 3 aL))),(6,vI x6)],[(241,aV (aJ.mk bG bC bJ))]⟩
abbrev ZG (y:(List (List aA))×aJ):V:=(.osl 242 43 1 (y.1.map (cSl 3 aL)))
abbrev ZH (y:(List (List aA))×aJ):List (Nat×List V):=[(241,aV y.2)]
abbrev aTa:=fun p1 x5 x6 bG bC bJ (r:(List (List aA))×aJ)=>Lok Tryz.prog 21 0 (BQ ZG ZH r) (bYd p1 x5 x6 bG bC bJ)
def cBw (p1:List (List Int)) (x5:List (List aA)) (x6:Int) (x7:List aA) (x8:Int) (uQ:List Int) (uA:Int) (uM:Int):St:=⟨[(0,.ptr 241 0),(1,.d (.sl 1 (p1.map (cSl 1 cI)))),(5,.osl 5 43 1 (x5.map (cSl 3 aL))),(6,vI x6),(7,.osl 7 32 3 (x7.map aL)),(8,vI x8)],[(241,aV (aJ.mk uQ uA uM))]⟩
abbrev aZm:=fun p1 x5 x6 x7 x8 uQ uA uM (r:(List (List aA))×aJ)=>Lok Tryz.prog 21 1 (BQ ZG ZH r) (cBw p1 x5 x6 x7 x8 uQ uA uM)






def bZi (y1:aA×aJ) (aBb:Int) (bG:List Int) (bC:Int) (bJ:Int):St:=⟨[(4,.ptr 4 0),(5,.ptr 5 0)],[(4,[vI 0,vI 0,vS []]),(5,tK (aA.mk y1.1.kind aBb y1.1.text)),(241,aV (aJ.mk bG bC bJ))]⟩
abbrev ZJ (y:aA×aJ):List (Nat×List V):=[(241,aV y.2)]
abbrev ZI (y:aA×aJ):V:=(bV y.1)
abbrev bVr:=fun y1 aBb bG bC bJ (r:aA×aJ)=>Jok Tryz.prog 47 2 (BQ ZI ZJ r) (bZi y1 aBb bG bC bJ)
def bYx (p2:List (List Int)) (p3:Int) (y1:Int×aJ) (y2:Bool×aJ) (y3:Int×aJ) (p1:aR) (x18:Bool):St:=⟨[(0,.ptr 241 0),(2,.d (.sl 1 (p2.map (cSl 1 cI)))),(3,vI p3),(5,.ptr 5 0),(8,.ptr 8 0),(9,vI (QA .i64 (1+y1.1))),(10,vB y2.1),(17,vI y3.1),(18,vB x18)],[(5,gJ p1),(8,[vI 0,vI 0,vB false,vI 0,vI 0,vS [],vI 0,vI 0,.nil 10,.nil 8]),(241,aV y3.2)]⟩
abbrev ZK (y:aB×aJ):V:=(.agv [vI y.1.kind,vI y.1.op,vB y.1.not_,vI y.1.value.kind,vI y.1.value.num,vS y.1.value.text,vI y.1.up,vI y.1.at_,.tre 273,.tre 274])
abbrev ZL (y:aB×aJ):List (Nat×List V):=[(273,[.trc 10 (y.1.kids.map aP)]),(274,[.trc 8 (y.1.sub.map bR)]),(241,aV y.2)]
abbrev aUn:=fun p2 p3 y1 y2 y3 p1 x18 (r:aB×aJ)=>Jok Tryz.prog 50 5 (BQ ZK ZL r) (bYx p2 p3 y1 y2 y3 p1 x18)
def bN5 (p2:List (List Int)) (p3:Int) (y1:Int×aJ) (p1:aR) (y3:Int×aJ):St:=⟨[(0,.ptr 241 0),(2,.d (.sl 1 (p2.map (cSl 1 cI)))),(3,vI p3),(5,.ptr 5 0),(8,.ptr 8 0),(9,vI (QA .i64 (1+y1.1)))],[(5,gJ p1),(8,[vI 0,vI 0,vB false,vI 0,vI 0,vS [],vI 0,vI 0,.nil 10,.nil 8]),(241,aV y3.2)]⟩
abbrev aXa:=fun p2 p3 y1 p1 y3 (r:aB×aJ)=>Jok Tryz.prog 50 3 (BQ ZK ZL r) (bN5 p2 p3 y1 p1 y3)
def bYp (p2:List (List Int)) (p3:Int) (p4:Int) (p5:Int) (p1:aR) (x14:Int) (jP:(List Int)×Int×Int×(List aB)):St:=⟨[(0,.ptr 241 0),(2,.d (.sl 1 (p2.map (cSl 1 cI)))),(3,vI p3),(4,vI p4),(5,vI p5),(7,.ptr 7 0),(13,.tre 397),(14,vI x14)],[(7,gJ p1),(241,aV (aJ.mk jP.1 jP.2.1 jP.2.2.1)),(397,[.trc 10 (jP.2.2.2.map aP)])]⟩
abbrev ZN (y:(List aB)×aJ):List (Nat×List V):=[(267,[.trc 10 (y.1.map aP)]),(241,aV y.2)]
abbrev ZM (y:(List aB)×aJ):V:=(.tre 267)
abbrev aRx:=fun p2 p3 p4 p5 p1 x14 jP (r:(List aB)×aJ)=>Lok Tryz.prog 49 0 (BQ ZM ZN r) (bYp p2 p3 p4 p5 p1 x14 jP)
def cAs (p2:List (List Int)) (p3:List Int) (p4:Int) (y2:Int×aJ) (p1:aR) (y1:Bool×aJ) (kx13:Int×(List Int)×Int×Int×(((List (List aB))×(List Int)))):St:=⟨[(0,.ptr 241 0),(2,.d (.sl 1 (p2.map (cSl 1 cI)))),(3,qH p3),(4,vI p4),(6,.ptr 6 0),(10,.ptr 10 0),(11,.ptr 11 0),(12,vI (QA .i64 (1+y2.1))),(13,vI kx13.1)],[(6,gJ p1),(10,[.nil 1,.nil 1,.nil 10,.nil 11,.nil 10,.nil 1,vB false,vI 0]),(11,[.tre 402,.tre 403,.nil 10,.nil 11,.nil 10,.nil 1,vB y1.1,vI (-1)]),(241,aV (aJ.mk kx13.2.1 kx13.2.2.1 kx13.2.2.2.1)),(403,[.trc 1 (kx13.2.2.2.2.1.map (cSl 10 aP))]),(402,[.trc 1 (kx13.2.2.2.2.2.map cI)])]⟩
abbrev ZP (y:aQ×aJ):List (Nat×List V):=[(267,[.trc 1 (y.1.tables.map cI)]),(268,[.trc 1 (y.1.on_.map (cSl 10 aP))]),(269,[.trc 10 (y.1.where_.map aP)]),(270,[.trc 11 (y.1.order.map dU)]),(271,[.trc 10 (y.1.items.map aP)]),(272,[.trc 1 (y.1.names.map cStr)]),(241,aV y.2)]
abbrev ZO (y:aQ×aJ):V:=(.agv [.tre 267,.tre 268,.tre 269,.tre 270,.tre 271,.tre 272,vB y.1.distinct,vI y.1.limit])
abbrev aQw:=fun p2 p3 p4 y2 p1 y1 kx13 (r:aQ×aJ)=>Lok Tryz.prog 101 0 (BQ ZO ZP r) (cAs p2 p3 p4 y2 p1 y1 kx13)
def bP6 (p2:List (List Int)) (p3:List Int) (p4:Int) (y2:Int×aJ) (x13:Int) (p1:aR) (y1:Bool×aJ) (ky4:(List Int)×(((List (List aB))×(List Int)×Int×Int×(List aB)))):St:=⟨[(0,.ptr 241 0),(2,.d (.sl 1 (p2.map (cSl 1 cI)))),(3,qH p3),(4,vI p4),(6,.ptr 6 0),(10,.ptr 10 0),(11,.ptr 11 0),(12,vI (QA .i64 (1+y2.1))),(13,vI x13),(16,.tre 426)],[(6,gJ p1),(10,[.nil 1,.nil 1,.nil 10,.nil 11,.nil 10,.nil 1,vB false,vI 0]),(11,[.tre 427,.tre 428,.nil 10,.nil 11,.nil 10,.nil 1,vB y1.1,vI (-1)]),(241,aV (aJ.mk ky4.2.2.1 ky4.2.2.2.1 ky4.2.2.2.2.1)),(426,[.trc 10 (ky4.2.2.2.2.2.map aP)]),(427,[.trc 1 (ky4.1.map cI)]),(428,[.trc 1 (ky4.2.1.map (cSl 10 aP))])]⟩
abbrev aT5:=fun p2 p3 p4 y2 x13 p1 y1 ky4 (r:aQ×aJ)=>Jok Tryz.prog 101 11 (BQ ZO ZP r) (bP6 p2 p3 p4 y2 x13 p1 y1 ky4)
def bY0 (p3:List Int) (p4:Int) (y15:List (List Int)) (p1:aR) (y1:Bool×aJ) (gU:List (List aB)) (gX:List Int) (kx20:Int×(List Int)×Int×Int×(((List (List UInt8))×(List aB)))):St:=⟨[(0,.ptr 241 0),(3,qH p3),(4,vI p4),(6,.ptr 6 0),(10,.ptr 10 0),(11,.ptr 11 0),(19,.osl 19 42 1 (y15.map (cSl 1 cI))),(20,vI kx20.1)],[(6,gJ p1),(10,[.nil 1,.nil 1,.nil 10,.nil 11,.nil 10,.nil 1,vB false,vI 0]),(11,[.tre 433,.tre 434,.nil 10,.nil 11,.tre 435,.tre 436,vB y1.1,vI (-1)]),(241,aV (aJ.mk kx20.2.1 kx20.2.2.1 kx20.2.2.2.1)),(436,[.trc 1 (kx20.2.2.2.2.1.map cStr)]),(435,[.trc 10 (kx20.2.2.2.2.2.map aP)]),(434,[.trc 1 (gU.map (cSl 10 aP))]),(433,[.trc 1 (gX.map cI)])]⟩
abbrev aT1:=fun p3 p4 y15 p1 y1 gU gX kx20 (r:aQ×aJ)=>Lok Tryz.prog 101 1 (BQ ZO ZP r) (bY0 p3 p4 y15 p1 y1 gU gX kx20)
def bKu (p4:Int) (y15:List (List Int)) (p1:aR) (y1:Bool×aJ) (iC:List (List UInt8)) (gZ:List aB) (kH:(List (List aB))×(List Int)×(List Int)×Int×Int×(List aB)):St:=⟨[(0,.ptr 241 0),(4,vI p4),(6,.ptr 6 0),(10,.ptr 10 0),(11,.ptr 11 0),(19,.osl 19 42 1 (y15.map (cSl 1 cI)))],[(6,gJ p1),(10,[.nil 1,.nil 1,.nil 10,.nil 11,.nil 10,.nil 1,vB false,vI 0]),(11,[.tre 455,.tre 456,.tre 457,.nil 11,.tre 458,.tre 459,vB y1.1,vI (-1)]),(241,aV (aJ.mk kH.2.2.1 kH.2.2.2.1 kH.2.2.2.2.1)),(457,[.trc 10 (kH.2.2.2.2.2.map aP)]),(459,[.trc 1 (iC.map cStr)]),(458,[.trc 10 (gZ.map aP)]),(456,[.trc 1 (kH.1.map (cSl 10 aP))]),(455,[.trc 1 (kH.2.1.map cI)])]⟩
abbrev aZg:=fun p4 y15 p1 y1 iC gZ kH (r:aQ×aJ)=>Jok Tryz.prog 101 21 (BQ ZO ZP r) (bKu p4 y15 p1 y1 iC gZ kH)
def bKm (y1:Bool×aJ) (nP:List aB) (iC:List (List UInt8)) (gZ:List aB) (gU:List (List aB)) (gX:List Int) (oJ:List Int) (oI:Int) (oM:Int) (nT:List bF):St:=⟨[(0,.ptr 241 0),(10,.ptr 10 0),(11,.ptr 11 0)],[(10,[.nil 1,.nil 1,.nil 10,.nil 11,.nil 10,.nil 1,vB false,vI 0]),(11,[.tre 460,.tre 461,.tre 462,.tre 463,.tre 464,.tre 465,vB y1.1,vI (-1)]),(241,aV (aJ.mk oJ oI oM)),(463,[.trc 11 (nT.map dU)]),(462,[.trc 10 (nP.map aP)]),(465,[.trc 1 (iC.map cStr)]),(464,[.trc 10 (gZ.map aP)]),(461,[.trc 1 (gU.map (cSl 10 aP))]),(460,[.trc 1 (gX.map cI)])]⟩
abbrev bKx:=fun y1 nP iC gZ gU gX oJ oI oM nT (r:aQ×aJ)=>Jok Tryz.prog 101 23 (BQ ZO ZP r) (bKm y1 nP iC gZ gU gX oJ oI oM nT)
def bWm (y1:Bool×aJ) (nT:List bF) (nP:List aB) (iC:List (List UInt8)) (gZ:List aB) (gU:List (List aB)) (gX:List Int) (zR:Int) (M4:List Int) (O4:Int) (K3:Int):St:=⟨[(10,.ptr 10 0),(11,.ptr 11 0)],[(10,[.nil 1,.nil 1,.nil 10,.nil 11,.nil 10,.nil 1,vB false,vI 0]),(11,[.tre 466,.tre 467,.tre 468,.tre 469,.tre 470,.tre 471,vB y1.1,vI zR]),(241,aV (aJ.mk M4 O4 K3)),(469,[.trc 11 (nT.map dU)]),(468,[.trc 10 (nP.map aP)]),(471,[.trc 1 (iC.map cStr)]),(470,[.trc 10 (gZ.map aP)]),(467,[.trc 1 (gU.map (cSl 10 aP))]),(466,[.trc 1 (gX.map cI)])]⟩
abbrev cBm:=fun y1 nT nP iC gZ gU gX zR M4 O4 K3 (r:aQ×aJ)=>Jok Tryz.prog 101 25 (BQ ZO ZP r) (bWm y1 nT nP iC gZ gU gX zR M4 O4 K3)
def bOj (p1:List (List Int)) (p2:Int) (x7:Int) (x9:Int) (rQ:Int) (sV:Int) (sQ:Int) (iM:(List UInt8)×Int×Int×(List Int)×Int×Int):St:=⟨[(0,.ptr 241 0),(1,.d (.sl 1 (p1.map (cSl 1 cI)))),(2,vI p2),(6,.ptr 6 0),(7,vI x7),(8,.ptr 8 0),(9,vI x9)],[(6,[vI 0,vI 0,vB false,vI 0,vI 0,vS [],vI 0,vI 0,.nil 10,.nil 8]),(8,[vI rQ,vI 0,vB false,vI sV,vI sQ,vS iM.1,vI iM.2.1,vI iM.2.2.1,.nil 10,.nil 8]),(241,aV (aJ.mk iM.2.2.2.1 iM.2.2.2.2.1 iM.2.2.2.2.2))]⟩
abbrev aXc:=fun p1 p2 x7 x9 rQ sV sQ iM (r:aB×aJ)=>Lok Tryz.prog 48 0 (BQ ZK ZL r) (bOj p1 p2 x7 x9 rQ sV sQ iM)
def bTk (p1:List (List Int)) (p2:Int) (x9:Int) (qB:Int) (x10:Int) (tH:Int) (sH:Int) (sG:Int) (iG:(List UInt8)×Int×Int×(List Int)×Int×Int):St:=⟨[(0,.ptr 241 0),(1,.d (.sl 1 (p1.map (cSl 1 cI)))),(2,vI p2),(6,.ptr 6 0),(7,vI qB),(8,.ptr 8 0),(9,vI x9),(10,vI x10)],[(6,[vI 0,vI 0,vB false,vI 0,vI 0,vS [],vI 0,vI 0,.nil 10,.nil 8]),(8,[vI tH,vI 0,vB false,vI sH,vI sG,vS iG.1,vI iG.2.1,vI iG.2.2.1,.nil 10,.nil 8]),(241,aV (aJ.mk iG.2.2.2.1 iG.2.2.2.2.1 iG.2.2.2.2.2))]⟩
abbrev aUe:=fun p1 p2 x9 qB x10 tH sH sG iG (r:aB×aJ)=>Lok Tryz.prog 48 1 (BQ ZK ZL r) (bTk p1 p2 x9 qB x10 tH sH sG iG)
def bOy (p1:List (List Int)) (p2:Int) (x9:Int) (x10:Int) (uZ:Int) (vF:Int) (vX:Int) (vC:Int) (mE:(List UInt8)×Int×Int×(List Int)×Int×Int):St:=⟨[(0,.ptr 241 0),(1,.d (.sl 1 (p1.map (cSl 1 cI)))),(2,vI p2),(6,.ptr 6 0),(7,vI uZ),(8,.ptr 8 0),(9,vI x9),(10,vI x10)],[(6,[vI 0,vI 0,vB false,vI 0,vI 0,vS [],vI 0,vI 0,.nil 10,.nil 8]),(8,[vI vF,vI 0,vB false,vI vX,vI vC,vS mE.1,vI mE.2.1,vI mE.2.2.1,.nil 10,.nil 8]),(241,aV (aJ.mk mE.2.2.2.1 mE.2.2.2.2.1 mE.2.2.2.2.2))]⟩
abbrev aQd:=fun p1 p2 x9 x10 uZ vF vX vC mE (r:aB×aJ)=>Jok Tryz.prog 48 11 (BQ ZK ZL r) (bOy p1 p2 x9 x10 uZ vF vX vC mE)
def bPm (p1:aB) (cK:Int) (gY:Int) (oU:Bool) (F6:Int) (O6:Int) (F4:List UInt8) (eP:Int) (oV:Int) (bG:List Int) (bC:Int) (bJ:Int) (O1:List aQ):St:=⟨[(3,.ptr 3 0),(4,.ptr 4 0)],[(3,[vI cK,vI gY,vB oU,vI F6,vI O6,vS F4,vI eP,vI oV,.tre 252,.tre 433]),(4,[vI 0,vI 0,vB false,vI 0,vI 0,vS [],vI 0,vI 0,.nil 10,.nil 8]),(241,aV (aJ.mk bG bC bJ)),(252,[.trc 10 (p1.kids.map aP)]),(433,[.trc 8 (O1.map bR)])]⟩
abbrev ZQ (y:aB×aJ):List (Nat×List V):=[(273,[.trc 10 (y.1.kids.map aP)]),(274,[.trc 8 (y.1.sub.map bR)]),(241,aV y.2),(252,[.trd]),(253,[.trd])]
abbrev bL1:=fun p1 cK gY oU F6 O6 F4 eP oV bG bC bJ O1 (r:aB×aJ)=>Jok Tryz.prog 18 6 (BQ ZK ZQ r) (bPm p1 cK gY oU F6 O6 F4 eP oV bG bC bJ O1)
def bU4 (cK:Int) (gY:Int) (oU:List UInt8) (bG:List Int) (bC:Int) (bJ:Int):St:=⟨[(2,.ptr 2 0),(3,.ptr 3 0)],[(2,[vI 0,vI 0,vS []]),(3,tK (aA.mk cK gY oU)),(241,aV (aJ.mk bG bC bJ))]⟩
abbrev bN0:=fun cK gY oU bG bC bJ (r:aA×aJ)=>Jok Tryz.prog 53 2 (BQ ZI ZJ r) (bU4 cK gY oU bG bC bJ)
def bTh (y1:aA×aJ) (pR:List UInt8) (vU:List Int) (vD:Int) (vH:Int):St:=⟨[(0,.ptr 241 0),(2,.ptr 2 0),(3,.ptr 3 0)],[(2,[vI 0,vI 0,vS []]),(3,tK (aA.mk y1.1.kind y1.1.num pR)),(241,aV (aJ.mk vU vD vH))]⟩
abbrev aRn:=fun y1 pR vU vD vH (r:aA×aJ)=>Lok Tryz.prog 53 0 (BQ ZI ZJ r) (bTh y1 pR vU vD vH)

def bKl (p1:aR) (x6:Int) (bG:List Int) (bC:Int) (bJ:Int) (fB:List jR):St:=⟨[(0,.ptr 241 0),(3,.ptr 3 0),(4,.ptr 4 0),(5,.ptr 5 0),(6,vI x6)],[(3,gJ p1),(4,[.nil 1]),(5,[.tre 398]),(241,aV (aJ.mk bG bC bJ)),(398,[.trs 1 (fB.map oW)])]⟩
abbrev ZS (y:GDb×aJ):List (Nat×List V):=[(267,[.trs 1 (y.1.tables.map oW)]),(241,aV y.2)]
abbrev ZR (y:GDb×aJ):V:=(.agv [.tre 267])
abbrev aYb:=fun p1 x6 bG bC bJ fB (r:GDb×aJ)=>Lok Tryz.prog 20 0 (BQ ZR ZS r) (bKl p1 x6 bG bC bJ fB)
def bY3 (x6:Int) (y1:Int×aJ) (p1:aR) (fB:List jR) (x9:Int) (gN:List (List aA)) (mI:(List Int)×Int×Int):St:=⟨[(0,.ptr 241 0),(3,.ptr 3 0),(4,.ptr 4 0),(5,.ptr 5 0),(6,vI x6),(7,.ptr 7 0),(8,vI y1.1),(9,vI x9)],[(3,gJ p1),(4,[.nil 1]),(5,[.tre 411]),(7,[.osl 59 43 1 (gN.map (cSl 3 aL))]),(241,aV (aJ.mk mI.1 mI.2.1 mI.2.2)),(411,[.trs 1 (fB.map oW)])]⟩
abbrev aW6:=fun x6 y1 p1 fB x9 gN mI (r:GDb×aJ)=>Lok Tryz.prog 20 1 (BQ ZR ZS r) (bY3 x6 y1 p1 fB x9 gN mI)
def bQa (x6:Int) (y1:Int×aJ) (x9:Int) (p1:aR) (gN:List (List aA)) (fB:List jR) (x10:List aA) (kx11:Int×(List Int)×Int×Int):St:=⟨[(0,.ptr 241 0),(3,.ptr 3 0),(4,.ptr 4 0),(5,.ptr 5 0),(6,vI x6),(7,.ptr 7 0),(8,vI y1.1),(9,vI x9),(10,.osl 10 32 3 (x10.map aL)),(11,vI kx11.1)],[(3,gJ p1),(4,[.nil 1]),(5,[.tre 416]),(7,[.osl 59 43 1 (gN.map (cSl 3 aL))]),(241,aV (aJ.mk kx11.2.1 kx11.2.2.1 kx11.2.2.2)),(416,[.trs 1 (fB.map oW)])]⟩
abbrev aXi:=fun x6 y1 x9 p1 gN fB x10 kx11 (r:GDb×aJ)=>Lok Tryz.prog 20 2 (BQ ZR ZS r) (bQa x6 y1 x9 p1 gN fB x10 kx11)
def bSk (p1:Int) (y7:Int×aJ):St:=⟨[(0,.ptr 241 0),(1,vI p1),(4,.ptr 4 0)],[(4,[vI 0,vI 0,vB false,vI 0,vI 0,vS [],vI 0,vI 0,.nil 10,.nil 8]),(241,aV y7.2)]⟩
abbrev aSm:=fun p1 y7 (r:aB×aJ)=>Jok Tryz.prog 19 7 (BQ ZK ZL r) (bSk p1 y7)
def bRo (p1:Int) (y2:Int×aJ) (y1:Bool×aJ) (x7:Int) (bG:List Int) (bC:Int) (mK:Int×(((List (List aB))×(List Int)))):St:=⟨[(0,.ptr 241 0),(1,vI p1),(4,.ptr 4 0),(5,.ptr 5 0),(6,vI (QA .i64 (1+y2.1))),(7,vI x7)],[(4,[.nil 1,.nil 1,.nil 10,.nil 11,.nil 10,.nil 1,vB false,vI 0]),(5,[.tre 400,.tre 401,.nil 10,.nil 11,.nil 10,.nil 1,vB y1.1,vI (-1)]),(241,aV (aJ.mk bG bC mK.1)),(401,[.trc 1 (mK.2.1.map (cSl 10 aP))]),(400,[.trc 1 (mK.2.2.map cI)])]⟩
abbrev aU1:=fun p1 y2 y1 x7 bG bC mK (r:aQ×aJ)=>Lok Tryz.prog 56 0 (BQ ZO ZP r) (bRo p1 y2 y1 x7 bG bC mK)
def bZa (p1:Int) (y2:Int×aJ) (x7:Int) (y1:Bool×aJ) (y4:List Int) (dW:List (List aB)) (mU:(List Int)×Int×Int×(List aB)):St:=⟨[(0,.ptr 241 0),(1,vI p1),(4,.ptr 4 0),(5,.ptr 5 0),(6,vI (QA .i64 (1+y2.1))),(7,vI x7),(8,.tre 417)],[(4,[.nil 1,.nil 1,.nil 10,.nil 11,.nil 10,.nil 1,vB false,vI 0]),(5,[.tre 418,.tre 419,.nil 10,.nil 11,.nil 10,.nil 1,vB y1.1,vI (-1)]),(241,aV (aJ.mk mU.1 mU.2.1 mU.2.2.1)),(417,[.trc 10 (mU.2.2.2.map aP)]),(418,[.trc 1 (y4.map cI)]),(419,[.trc 1 (dW.map (cSl 10 aP))])]⟩
abbrev aVg:=fun p1 y2 x7 y1 y4 dW mU (r:aQ×aJ)=>Jok Tryz.prog 56 10 (BQ ZO ZP r) (bZa p1 y2 x7 y1 y4 dW mU)
def bPs (p1:Int) (y12:Int×aJ) (y1:Bool×aJ) (dW:List (List aB)) (eY:List Int) (x9:Int) (jN:(List Int)×Int×Int×(((List (List UInt8))×(List aB)))):St:=⟨[(0,.ptr 241 0),(1,vI p1),(4,.ptr 4 0),(5,.ptr 5 0),(6,vI (QA .i64 (1+y12.1))),(9,vI x9)],[(4,[.nil 1,.nil 1,.nil 10,.nil 11,.nil 10,.nil 1,vB false,vI 0]),(5,[.tre 429,.tre 430,.nil 10,.nil 11,.tre 431,.tre 432,vB y1.1,vI (-1)]),(241,aV (aJ.mk jN.1 jN.2.1 jN.2.2.1)),(432,[.trc 1 (jN.2.2.2.1.map cStr)]),(431,[.trc 10 (jN.2.2.2.2.map aP)]),(430,[.trc 1 (dW.map (cSl 10 aP))]),(429,[.trc 1 (eY.map cI)])]⟩
abbrev aUz:=fun p1 y12 y1 dW eY x9 jN (r:aQ×aJ)=>Lok Tryz.prog 56 1 (BQ ZO ZP r) (bPs p1 y12 y1 dW eY x9 jN)
def bJ1 (p1:Int) (y1:Bool×aJ) (iR:List (List UInt8)) (iU:List aB) (dW:List (List aB)) (eY:List Int) (mV:(List Int)×Int×Int×(List aB)):St:=⟨[(0,.ptr 241 0),(1,vI p1),(4,.ptr 4 0),(5,.ptr 5 0)],[(4,[.nil 1,.nil 1,.nil 10,.nil 11,.nil 10,.nil 1,vB false,vI 0]),(5,[.tre 438,.tre 439,.tre 440,.nil 11,.tre 441,.tre 442,vB y1.1,vI (-1)]),(241,aV (aJ.mk mV.1 mV.2.1 mV.2.2.1)),(440,[.trc 10 (mV.2.2.2.map aP)]),(442,[.trc 1 (iR.map cStr)]),(441,[.trc 10 (iU.map aP)]),(439,[.trc 1 (dW.map (cSl 10 aP))]),(438,[.trc 1 (eY.map cI)])]⟩
abbrev aUf:=fun p1 y1 iR iU dW eY mV (r:aQ×aJ)=>Jok Tryz.prog 56 19 (BQ ZO ZP r) (bJ1 p1 y1 iR iU dW eY mV)
def bKq (y1:Bool×aJ) (nU:List aB) (iR:List (List UInt8)) (iU:List aB) (dW:List (List aB)) (eY:List Int) (aAq:List Int) (aAt:Int) (aB7:Int) (nR:List bF):St:=⟨[(0,.ptr 241 0),(4,.ptr 4 0),(5,.ptr 5 0)],[(4,[.nil 1,.nil 1,.nil 10,.nil 11,.nil 10,.nil 1,vB false,vI 0]),(5,[.tre 443,.tre 444,.tre 445,.tre 446,.tre 447,.tre 448,vB y1.1,vI (-1)]),(241,aV (aJ.mk aAq aAt aB7)),(446,[.trc 11 (nR.map dU)]),(445,[.trc 10 (nU.map aP)]),(448,[.trc 1 (iR.map cStr)]),(447,[.trc 10 (iU.map aP)]),(444,[.trc 1 (dW.map (cSl 10 aP))]),(443,[.trc 1 (eY.map cI)])]⟩
abbrev bZx:=fun y1 nU iR iU dW eY aAq aAt aB7 nR (r:aQ×aJ)=>Jok Tryz.prog 56 21 (BQ ZO ZP r) (bKq y1 nU iR iU dW eY aAq aAt aB7 nR)
def bLl (y1:Bool×aJ) (nR:List bF) (nU:List aB) (iR:List (List UInt8)) (iU:List aB) (dW:List (List aB)) (eY:List Int) (A8:Int) (oJ:List Int) (oI:Int) (oM:Int):St:=⟨[(4,.ptr 4 0),(5,.ptr 5 0)],[(4,[.nil 1,.nil 1,.nil 10,.nil 11,.nil 10,.nil 1,vB false,vI 0]),(5,[.tre 449,.tre 450,.tre 451,.tre 452,.tre 453,.tre 454,vB y1.1,vI A8]),(241,aV (aJ.mk oJ oI oM)),(452,[.trc 11 (nR.map dU)]),(451,[.trc 10 (nU.map aP)]),(454,[.trc 1 (iR.map cStr)]),(453,[.trc 10 (iU.map aP)]),(450,[.trc 1 (dW.map (cSl 10 aP))]),(449,[.trc 1 (eY.map cI)])]⟩
abbrev cC6:=fun y1 nR nU iR iU dW eY A8 oJ oI oM (r:aQ×aJ)=>Jok Tryz.prog 56 23 (BQ ZO ZP r) (bLl y1 nR nU iR iU dW eY A8 oJ oI oM)

def bZ8 (p1:Int) (p2:Int) (x8:Int) (bG:List Int) (bC:Int) (bJ:Int) (iX:List aB):St:=⟨[(0,.ptr 241 0),(1,vI p1),(2,vI p2),(7,.tre 396),(8,vI x8)],[(241,aV (aJ.mk bG bC bJ)),(396,[.trc 10 (iX.map aP)])]⟩
abbrev aYc:=fun p1 p2 x8 bG bC bJ iX (r:(List aB)×aJ)=>Lok Tryz.prog 55 0 (BQ ZM ZN r) (bZ8 p1 p2 x8 bG bC bJ iX)
def bV7 (y1:aA×aJ) (gY:Int):St:=⟨[(2,.ptr 2 0),(3,.ptr 3 0)],[(2,[vI 0,vI 0,vS []]),(3,tK (aA.mk y1.1.kind gY y1.1.text)),(241,aV y1.2)]⟩
abbrev cAo:=fun y1 gY (r:aA×aJ)=>Jok Tryz.prog 54 2 (BQ ZI ZJ r) (bV7 y1 gY)
def bVv (y1:Int×aJ) (x3:List (List Int)) (x5:Int) (bG:List Int) (bC:Int) (bJ:Int):St:=⟨[(0,.ptr 241 0),(3,.osl 3 42 1 (x3.map (cSl 1 cI))),(4,vI y1.1),(5,vI x5)],[(241,aV (aJ.mk bG bC bJ))]⟩
abbrev ZT (y:(List (List Int))×aJ):V:=(.osl 242 42 1 (y.1.map (cSl 1 cI)))
abbrev ZU (y:(List (List Int))×aJ):List (Nat×List V):=[(241,aV y.2)]
abbrev aZf:=fun y1 x3 x5 bG bC bJ (r:(List (List Int))×aJ)=>Lok Tryz.prog 13 0 (BQ ZT ZU r) (bVv y1 x3 x5 bG bC bJ)
def bTe (y1:Int×aJ) (x6:Int) (cK:List gG) (bG:List Int) (bC:Int) (bJ:Int):St:=⟨[(0,.ptr 241 0),(2,.ptr 2 0),(3,.ptr 3 0),(4,.osl 4 9 1 (([[116],[117],[118]]:List (List UInt8)).map cStr)),(5,vI (QA .i64 (1+y1.1))),(6,vI x6)],[(2,[.nil 2]),(3,[.osl 61 90 2 (cK.map mO)]),(241,aV (aJ.mk bG bC bJ))]⟩
abbrev ZW (y:aR×aJ):List (Nat×List V):=[(241,aV y.2)]
abbrev ZV (y:aR×aJ):V:=(eG y.1)
abbrev aTn:=fun y1 x6 cK bG bC bJ (r:aR×aJ)=>Lok Tryz.prog 12 0 (BQ ZV ZW r) (bTe y1 x6 cK bG bC bJ)
def bY6 (y1:Int×aJ) (x6:Int) (y3:Int×aJ) (cK:List gG) (y2:List UInt8) (x9:Int) (kS:(List iP)×(List Int)×Int×Int):St:=⟨[(0,.ptr 241 0),(2,.ptr 2 0),(3,.ptr 3 0),(4,.osl 4 9 1 (([[116],[117],[118]]:List (List UInt8)).map cStr)),(5,vI (QA .i64 (1+y1.1))),(6,vI x6),(7,.ptr 7 0),(8,vI (QA .i64 (1+y3.1))),(9,vI x9)],[(2,[.nil 2]),(3,[.osl 61 90 2 (cK.map mO)]),(7,[vS y2,.osl 55 94 2 (kS.1.map pW)]),(241,aV (aJ.mk kS.2.1 kS.2.2.1 kS.2.2.2))]⟩
abbrev aS4:=fun y1 x6 y3 cK y2 x9 kS (r:aR×aJ)=>Lok Tryz.prog 12 1 (BQ ZV ZW r) (bY6 y1 x6 y3 cK y2 x9 kS)
def cA2 (y1:Int×aJ) (x6:Int) (y3:Int×aJ) (x9:Int) (cK:List gG) (y2:List UInt8) (qQ:List iP) (ky8:(Int×aJ)×(List UInt8)×(List Int)×Int×Int):St:=⟨[(0,.ptr 241 0),(2,.ptr 2 0),(3,.ptr 3 0),(4,.osl 4 9 1 (([[116],[117],[118]]:List (List UInt8)).map cStr)),(5,vI (QA .i64 (1+y1.1))),(6,vI x6),(7,.ptr 7 0),(8,vI (QA .i64 (1+y3.1))),(9,vI x9),(10,.ptr 10 0)],[(2,[.nil 2]),(3,[.osl 61 90 2 (cK.map mO)]),(7,[vS y2,.osl 55 94 2 (qQ.map pW)]),(10,bSa (iP.mk ky8.2.1 ky8.1.1)),(241,aV (aJ.mk ky8.2.2.1 ky8.2.2.2.1 ky8.2.2.2.2))]⟩
abbrev aW4:=fun y1 x6 y3 x9 cK y2 qQ ky8 (r:aR×aJ)=>Jok Tryz.prog 12 17 (BQ ZV ZW r) (cA2 y1 x6 y3 x9 cK y2 qQ ky8)
def cAa (y1:Int×aJ) (x6:Int) (y3:Int×aJ) (x9:Int) (cK:List gG) (y2:List UInt8) (mX:(List Int)×Int×Int×(List iP)):St:=⟨[(0,.ptr 241 0),(2,.ptr 2 0),(3,.ptr 3 0),(4,.osl 4 9 1 (([[116],[117],[118]]:List (List UInt8)).map cStr)),(5,vI (QA .i64 (1+y1.1))),(6,vI x6),(7,.ptr 7 0),(8,vI (QA .i64 (1+y3.1))),(9,vI x9)],[(2,[.nil 2]),(3,[.osl 61 90 2 (cK.map mO)]),(7,[vS y2,.osl 55 94 2 (mX.2.2.2.map pW)]),(241,aV (aJ.mk mX.1 mX.2.1 mX.2.2.1))]⟩
abbrev aQe:=fun y1 x6 y3 x9 cK y2 mX (r:aR×aJ)=>Jok Tryz.prog 12 15 (BQ ZV ZW r) (cAa y1 x6 y3 x9 cK y2 mX)
def bMy (p1:List UInt8) (p0:gG) (x5:Int):St:=⟨[(1,vS p1),(2,.ptr 2 0),(5,vI x5)],[(2,bBv p0)]⟩
abbrev aWk:=fun p1 p0 x5 r=>Lok Tryz.prog 46 0 (PQ (fun y=>(vI y)) r) (bMy p1 p0 x5)
theorem bVp (x:iP) (h:∀ d∈pW x,OkD d):okGCol x:=⟨yY _ (dI h 0 1),nD _ (dI h 1 1)⟩
theorem bZ2 (x:gG) (h:∀ d∈mO x,OkD d):okGTable x:=⟨yY _ (dI h 0 1),mR _ (fun y hy=>bVp y hy) (dI h 1 1)⟩
theorem cCk (x:aR) (h:∀ d∈tQ x,OkD d):okGCatalog x:=mR _ (fun y hy=>bZ2 y hy) (dI h 0 1)
theorem I4 (x:aA) (h:∀ d∈aL x,OkD d):okGValue x:=⟨nD _ (dI h 0 1),nD _ (dI h 1 1),yY _ (dI h 2 1)⟩
theorem bV0 (x:jR) (h:∀ d∈oW x,OkD d):okGData x:=mR _ (fun y hy=>mR _ (fun y hy=>I4 y hy) hy) (dI h 0 1)
theorem cCa (x:GDb) (h:∀ d∈tC x,OkD d):okGDb x:=mR _ (fun y hy=>bV0 y hy) (dI h 0 1)
mutual
theorem bHz:∀ x:aB,(∀ d∈aP x,OkD d)→okGPExpr x
  | ⟨a0,a1,a2,a3,a4,a5,a6,a7⟩,h0=>by
    rw [jO] at h0
    have h:∀ d∈gK ⟨a0,a1,a2,a3,a4,a5,a6,a7⟩,OkD d:=h0
    unfold okGPExpr
    exact ⟨nD _ (dI h 0 1),nD _ (dI h 1 1),trivial,I4 a3 (dI h 3 3),nD _ (dI h 6 1),nD _ (dI h 7 1),⟨by simpa using (kG (dI h 8 1)).1,aKa a6 (kG (dI h 8 1)).2⟩,⟨by simpa using (kG (dI h 9 1)).1,bGg a7 (kG (dI h 9 1)).2⟩⟩
theorem bOp:∀ x:bF,(∀ d∈dU x,OkD d)→okGPSort x
  | ⟨a0,a1⟩,h0=>by
    rw [aCm] at h0
    have h:∀ d∈yU ⟨a0,a1⟩,OkD d:=h0
    unfold okGPSort
    exact ⟨bHz a0 (by rw [jO]; exact (dI h 0 10)),trivial⟩
theorem bX6:∀ x:aQ,(∀ d∈bR x,OkD d)→okGPlan x
  | ⟨a0,a1,a2,a3,a4,a5,a6,a7⟩,h0=>by
    rw [yJ] at h0
    have h:∀ d∈vT ⟨a0,a1,a2,a3,a4,a5,a6,a7⟩,OkD d:=h0
    unfold okGPlan
    exact ⟨mR _ (fun y hy=>nD _ hy) (dI h 0 1),⟨by simpa using (kG (dI h 1 1)).1,bH7 a1 (kG (dI h 1 1)).2⟩,⟨by simpa using (kG (dI h 2 1)).1,aKa a2 (kG (dI h 2 1)).2⟩,⟨by simpa using (kG (dI h 3 1)).1,bF2 a3 (kG (dI h 3 1)).2⟩,⟨by simpa using (kG (dI h 4 1)).1,aKa a4 (kG (dI h 4 1)).2⟩,mR _ (fun y hy=>yY _ hy) (dI h 5 1),trivial,nD _ (dI h 7 1)⟩
theorem aKa:∀ l:List aB,(∀ x∈l.map aP,∀ d∈x,OkD d)→okLGPExpr l
  | [],_=>by unfold okLGPExpr; trivial
  | x::l,h=>by
    unfold okLGPExpr
    exact ⟨bHz x (h _ (by simp)),aKa l fun y hy=>h y (QE _ hy)⟩
theorem bF2:∀ l:List bF,(∀ x∈l.map dU,∀ d∈x,OkD d)→okLGPSort l
  | [],_=>by unfold okLGPSort; trivial
  | x::l,h=>by
    unfold okLGPSort
    exact ⟨bOp x (h _ (by simp)),bF2 l fun y hy=>h y (QE _ hy)⟩
theorem bGg:∀ l:List aQ,(∀ x∈l.map bR,∀ d∈x,OkD d)→okLGPlan l
  | [],_=>by unfold okLGPlan; trivial
  | x::l,h=>by
    unfold okLGPlan
    exact ⟨bX6 x (h _ (by simp)),bGg l fun y hy=>h y (QE _ hy)⟩
theorem bH7:∀ l:List (List aB),(∀ x∈l.map (cSl 10 aP),∀ d∈x,OkD d)→okLLGPExpr l
  | [],_=>by unfold okLLGPExpr; trivial
  | x::l,h=>by
    unfold okLLGPExpr
    have h1:∀ d∈cSl 10 aP x,OkD d:=h _ (by simp)
    exact ⟨⟨by simpa using (kG h1).1,aKa x (kG h1).2⟩,bH7 l fun y hy=>h y (QE _ hy)⟩
end
mutual
theorem aWd:∀ x:eT,(∀ d∈tL x,OkD d)→okGExpr x
  | ⟨a0,a1,a2,a3,a4,a5,a6,a7⟩,h0=>by
    rw [aF2] at h0
    have h:∀ d∈V3 ⟨a0,a1,a2,a3,a4,a5,a6,a7⟩,OkD d:=h0
    unfold okGExpr
    exact ⟨nD _ (dI h 0 1),nD _ (dI h 1 1),trivial,I4 a3 (dI h 3 3),yY _ (dI h 6 1),yY _ (dI h 7 1),⟨by simpa using (kG (dI h 8 1)).1,aOl a6 (kG (dI h 8 1)).2⟩,⟨by simpa using (kG (dI h 9 1)).1,bFg a7 (kG (dI h 9 1)).2⟩⟩
theorem bU0:∀ x:rH,(∀ d∈aD1 x,OkD d)→okGItem x
  | ⟨a0,a1,a2,a3⟩,h0=>by
    rw [cBv] at h0
    have h:∀ d∈aJq ⟨a0,a1,a2,a3⟩,OkD d:=h0
    unfold okGItem
    exact ⟨trivial,yY _ (dI h 1 1),aWd a2 (by rw [aF2]; exact (dI h 2 10)),yY _ (dI h 12 1)⟩
theorem bNi:∀ x:jV,(∀ d∈xH x,OkD d)→okGQuery x
  | ⟨a0,a1,a2,a3,a4,a5⟩,h0=>by
    rw [bHf] at h0
    have h:∀ d∈aEg ⟨a0,a1,a2,a3,a4,a5⟩,OkD d:=h0
    unfold okGQuery
    exact ⟨trivial,⟨by simpa using (kG (dI h 1 1)).1,bCw a1 (kG (dI h 1 1)).2⟩,⟨by simpa using (kG (dI h 2 1)).1,bDi a2 (kG (dI h 2 1)).2⟩,⟨by simpa using (kG (dI h 3 1)).1,aOl a3 (kG (dI h 3 1)).2⟩,⟨by simpa using (kG (dI h 4 1)).1,bCr a4 (kG (dI h 4 1)).2⟩,nD _ (dI h 5 1)⟩
theorem bWt:∀ x:qW,(∀ d∈aCb x,OkD d)→okGSortKey x
  | ⟨a0,a1⟩,h0=>by
    rw [bP3] at h0
    have h:∀ d∈aKh ⟨a0,a1⟩,OkD d:=h0
    unfold okGSortKey
    exact ⟨aWd a0 (by rw [aF2]; exact (dI h 0 10)),trivial⟩
theorem bTu:∀ x:qV,(∀ d∈aD0 x,OkD d)→okGSource x
  | ⟨a0,a1,a2⟩,h0=>by
    rw [bYm] at h0
    have h:∀ d∈aHx ⟨a0,a1,a2⟩,OkD d:=h0
    unfold okGSource
    exact ⟨yY _ (dI h 0 1),yY _ (dI h 1 1),⟨by simpa using (kG (dI h 2 1)).1,aOl a2 (kG (dI h 2 1)).2⟩⟩
theorem aOl:∀ l:List eT,(∀ x∈l.map tL,∀ d∈x,OkD d)→okLGExpr l
  | [],_=>by unfold okLGExpr; trivial
  | x::l,h=>by
    unfold okLGExpr
    exact ⟨aWd x (h _ (by simp)),aOl l fun y hy=>h y (QE _ hy)⟩
theorem bCw:∀ l:List rH,(∀ x∈l.map aD1,∀ d∈x,OkD d)→okLGItem l
  | [],_=>by unfold okLGItem; trivial
  | x::l,h=>by
    unfold okLGItem
    exact ⟨bU0 x (h _ (by simp)),bCw l fun y hy=>h y (QE _ hy)⟩
theorem bFg:∀ l:List jV,(∀ x∈l.map xH,∀ d∈x,OkD d)→okLGQuery l
  | [],_=>by unfold okLGQuery; trivial
  | x::l,h=>by
    unfold okLGQuery
    exact ⟨bNi x (h _ (by simp)),bFg l fun y hy=>h y (QE _ hy)⟩
theorem bCr:∀ l:List qW,(∀ x∈l.map aCb,∀ d∈x,OkD d)→okLGSortKey l
  | [],_=>by unfold okLGSortKey; trivial
  | x::l,h=>by
    unfold okLGSortKey
    exact ⟨bWt x (h _ (by simp)),bCr l fun y hy=>h y (QE _ hy)⟩
theorem bDi:∀ l:List qV,(∀ x∈l.map aD0,∀ d∈x,OkD d)→okLGSource l
  | [],_=>by unfold okLGSource; trivial
  | x::l,h=>by
    unfold okLGSource
    exact ⟨bTu x (h _ (by simp)),bDi l fun y hy=>h y (QE _ hy)⟩
end
theorem cEr (x:qF) (h:∀ d∈aZ6 x,OkD d):okGNode x:=⟨nD _ (dI h 0 1),nD _ (dI h 1 1),trivial,I4 x.value (dI h 3 3),mR _ (fun y hy=>I4 y hy) (dI h 6 1),mR _ (fun y hy=>mR _ (fun y hy=>I4 y hy) hy) (dI h 7 1)⟩
theorem cEw (x:kW) (h:∀ d∈aZs x,OkD d):okGForm x:=⟨trivial,trivial,trivial,trivial,nD _ (dI h 4 1),nD _ (dI h 5 1),nD _ (dI h 6 1)⟩
theorem bW3 (x:nL) (h:∀ d∈wE x,OkD d):okGSortBy x:=⟨trivial,trivial⟩
theorem cCq (x:eX) (h:∀ d∈vJ x,OkD d):okGExecution x:=⟨mR _ (fun y hy=>mR _ (fun y hy=>mR _ (fun y hy=>I4 y hy) hy) hy) (dI h 0 1),mR _ (fun y hy=>mR _ (fun y hy=>trivial) hy) (dI h 1 1),mR _ (fun y hy=>trivial) (dI h 2 1),mR _ (fun y hy=>bW3 y hy) (dI h 3 1),trivial,trivial,nD _ (dI h 6 1)⟩
theorem cEf (x:aX) (h:∀ d∈bD x,OkD d):okGKeyed x:=⟨mR _ (fun y hy=>I4 y hy) (dI h 0 1),mR _ (fun y hy=>I4 y hy) (dI h 1 1)⟩
theorem cCz (x:aJ) (h:∀ d∈aXs x,OkD d):okGL1Cur x:=⟨mR _ (fun y hy=>bAj _ hy) (dI h 0 1),nD _ (dI h 1 1),nD _ (dI h 2 1)⟩
theorem de5 {l:List D} (h:WtC Tryz.prog 5 l):∃ x:Int,l=cU8 x:=(bJf h (k:=.u8) kr)
theorem bYw {l:List D} (h:WtC Tryz.prog 22 l):∃ x:(List Int),l=(cSl 1 cU8) x:=(bRn h (e:=5) (n:=1) (c:=cU8) kr kr fun x hx=>de5 hx)
theorem bCe (gY r) (h:aOa gY=some r):bRx gY r:=by
 rw [aOa] at h;exact Jok.un (rp' h)
theorem wY (p0:Bool):FOk Tryz.prog 66 [vB p0] (fun y=>(bV y)) (tV p0):=by
 refine aoP fun r h=>?_;rw [tV] at h;refine cd' h ?_ ?_<;>intro h;exact jn' (bCe _ _ h) (wr [] eS bS);exact jn' (bCe _ _ h) (wr [] eS bS)
abbrev ZX (y:Bool):V:=(vB y)
theorem bWy (p0:Int) (p1:Int):FOk Tryz.prog 136 [vI p0,vI p1] (fun y=>(.tup [vI y.1,vB y.2])) (aH8 p0 p1):=by
 refine aoP fun r h=>?_;rw [aH8] at h;refine dL h fun y1 h=>?_;refine aO (.g 14 false (.pick 22 17 21 (kB false))) (gv true y1 ZX h (fun y hy hc=>nS hy (p:=((true&&(y1==false))&&((decide (p1<0))==true))) (q:=true) (Eq.trans (b:=([true&&(y1==false)]:List Bool).all id) kr (fC hc rfl)) kr kr kr (fun hb=>vN hc hb) (fun _=>rfl)) fun y2 h=>oC ?_);refine eF h fun y3 h=>?_;refine cd' h ?_ ?_<;>intro h;exact rp' h;exact rp' h
theorem aJ5 (p0:Int):FOk Tryz.prog 9 [vI p0] (fun y=>(bV y)) (xG p0):=by
 refine aoP fun r h=>?_;rw [xG] at h;exact rp' h
theorem aYa (x8 x9 r) (h:aGd x8 x9=some r):bR3 x8 x9 r:=by
 rw [aGd] at h;refine Jok.un ?_;refine cd' h ?_ ?_<;>intro h;exact rp' h;exact cs' h (aJ5 _) fun y5 h=>(rp' h)
theorem bKi (p0:Int) (p1:Int) (p2:Int):FOk Tryz.prog 139 [vI p0,vI p1,vI p2] (fun y=>(.tup [bV y.1,vI y.2])) (aNq p0 p1 p2):=by
 refine aoP fun r h=>?_;rw [aNq] at h;refine cd' h ?_ ?_<;>intro h;exact rp' h;refine cd' h ?_ ?_<;>intro h;refine aO (.bin 17 .rem 15 16) (vs Zo h (fun y hy=>aLs (k:=.i64) (a:=p1) (b:=p2) hy kr kr kr) fun y1 h=>oC ?_);exact cs' h (aJ5 _) fun y2 h=>(rp' h);refine dL h fun y3 h=>?_;refine cd' h ?_ ?_<;>intro h;exact rp' h;refine aO (.bin 29 .quo 27 28) (vs Zo h (fun y hy=>aMw (k:=.i64) (a:=p1) (b:=p2) hy kr kr kr) fun y4 h=>oC ?_);exact cs' h (aJ5 _) fun y5 h=>(rp' h)
theorem bQh (p0:Int) (p1:Int):FOk Tryz.prog 138 [vI p0,vI p1] (fun y=>(.tup [vI y.1,vB y.2])) (aHn p0 p1):=by
 refine aoP fun r h=>?_;rw [aHn] at h;refine aO (.g 12 true (.bin 15 .quo 13 14)) (gv true (!decide (p0=0)) Zo h (fun y hy hc=>aMw (k:=.i64) (a:=(QA .i64 (p0 * p1))) (b:=p0) hy (Eq.trans (b:=([true&&((!decide (p0=0))==true),true&&((!decide (p0=0))==true)]:List Bool).all id) kr (fC hc (fC hc rfl))) kr kr) fun y1 h=>oC ?_);refine aO (.g 18 false (.pick 24 21 23 (kB false))) (gv (true&&((!decide (p0=0))==true)) (!decide (y1=p1)) ZX h (fun y hy hc=>nS hy (p:=(((true&&((!decide (p0=0))==true))&&((!decide (y1=p1))==false))&&((decide (p0=(-1)))==true))) (q:=true) (Eq.trans (b:=([(true&&((!decide (p0=0))==true))&&((!decide (y1=p1))==false)]:List Bool).all id) kr (fC hc rfl)) kr kr kr (fun hb=>vN hc hb) (fun _=>rfl)) fun y2 h=>oC ?_);refine aO (.g 12 true (.pick 25 18 (kB true) 24)) (gv true (!decide (p0=0)) ZX h (fun y hy hc=>nS hy (p:=true) (q:=((true&&((!decide (p0=0))==true))&&((!decide (y1=p1))==false))) (Eq.trans (b:=([true&&((!decide (p0=0))==true)]:List Bool).all id) kr (fC hc rfl)) kr kr kr (fun _=>rfl) (fun hb=>aDf hc hb)) fun y3 h=>oC ?_);refine dL h fun y4 h=>?_;refine cd' h ?_ ?_<;>intro h;exact rp' h;exact rp' h
theorem bSe (p0:Int) (p1:Int):FOk Tryz.prog 137 [vI p0,vI p1] (fun y=>(.tup [vI y.1,vB y.2])) (aGc p0 p1):=by
 refine aoP fun r h=>?_;rw [aGc] at h;refine dL h fun y1 h=>?_;refine aO (.g 14 false (.pick 22 17 21 (kB false))) (gv true y1 ZX h (fun y hy hc=>nS hy (p:=((true&&(y1==false))&&((decide (0<p1))==true))) (q:=true) (Eq.trans (b:=([true&&(y1==false)]:List Bool).all id) kr (fC hc rfl)) kr kr kr (fun hb=>vN hc hb) (fun _=>rfl)) fun y2 h=>oC ?_);refine eF h fun y3 h=>?_;refine cd' h ?_ ?_<;>intro h;exact rp' h;exact rp' h
theorem bEd (p0:Int) (p1:Int) (p2:Int):FOk Tryz.prog 109 [vI p0,vI p1,vI p2] (fun y=>(.tup [bV y.1,vI y.2])) (aH3 p0 p1 p2):=by
 refine aoP fun r h=>?_;rw [aH3] at h;refine cd' h ?_ ?_<;>intro h;exact cs' h (bWy _ _) fun y1 h=>(jn' (aYa _ _ _ h) (wr [] eS bS));refine cd' h ?_ ?_<;>intro h;exact cs' h (bSe _ _) fun y2 h=>(jn' (aYa _ _ _ h) (wr [] eS bS));refine cd' h ?_ ?_<;>intro h;exact cs' h (bQh _ _) fun y3 h=>(jn' (aYa _ _ _ h) (wr [] eS bS));exact cs' h (bKi _ _ _) fun y4 h=>(rp' h)
theorem bEs (p0:Int):FOk Tryz.prog 149 [vI p0] (fun y=>(vB y)) (aK2 p0):=by
 refine aoP fun r h=>?_;rw [aK2] at h;exact rp' h
theorem bGx (p0:Int) (p1:Int):FOk Tryz.prog 144 [vI p0,vI p1] (fun y=>(vI y)) (aEc p0 p1):=by
 refine aoP fun r h=>?_;rw [aEc] at h;refine cs' h (bEs _) fun y1 h=>(cs' h (bEs _) fun y2 h=>?_);refine cd' h ?_ ?_<;>intro h;refine cd' h ?_ ?_<;>intro h;exact rp' h;exact rp' h;refine cd' h ?_ ?_<;>intro h;exact rp' h;refine cd' h ?_ ?_<;>intro h;exact rp' h;refine cd' h ?_ ?_<;>intro h;exact rp' h;exact rp' h
theorem bIk (p0:List UInt8):FOk Tryz.prog 150 [vS p0] (fun y=>(vB y)) (aLe p0):=by
 refine aoP fun r h=>?_;rw [aLe] at h;exact rp' h
theorem bQr (p0:List UInt8) (p1:List UInt8):FOk Tryz.prog 145 [vS p0,vS p1] (fun y=>(vI y)) (aI0 p0 p1):=by
 refine aoP fun r h=>?_;rw [aI0] at h;refine cs' h (bIk _) fun y1 h=>(cs' h (bIk _) fun y2 h=>?_);refine cd' h ?_ ?_<;>intro h;refine cd' h ?_ ?_<;>intro h;exact rp' h;exact rp' h;refine cd' h ?_ ?_<;>intro h;exact rp' h;refine cd' h ?_ ?_<;>intro h;exact rp' h;refine cd' h ?_ ?_<;>intro h;exact rp' h;exact rp' h
abbrev bM7 (p0):=I9.partial_correctness p0 (aQi p0) (by intro cEd aUt x8 r h;refine Lok.un ?_;refine cd' h ?_ ?_<;>intro h;refine kR cI h fun y1 h=>?_;refine cd' h ?_ ?_<;>intro h;exact rp' h;exact lb' (aUt _ _ h) (wr [] eS bL);exact rp' h)
abbrev aUt:=bM7
theorem bY7 (p0:List Int):FOk Tryz.prog 143 [qH p0] (fun y=>(vI y)) (aL1 p0):=by
 refine aoP fun r h=>?_;rw [aL1] at h;exact lY cI p0 (lb' (aUt _ _ _ h) (wr [] eS bL))
theorem bE8 (p0:aA) (p1:aA):FOk Tryz.prog 131 [bV p0,bV p1] (fun y=>(vI y)) (aFt p0 p1):=by
 refine aoP fun r h=>?_;rw [aFt] at h;refine cs' h (bGx _ _) fun y1 h=>(cs' h (bGx _ _) fun y2 h=>(cs' h (bQr _ _) fun y3 h=>?_));refine dO (.bsl 20 3 1 [9,14,19]) (vR (l:=([y1,y2,y3]:List Int)) (f:=cI) (g:=cI) kr (fun _=>rfl) (dC ?_));exact cs' h (bY7 _) fun y4 h=>(rp' h)
theorem bOb (p0:Int) (p1:aA) (p2:aA):FOk Tryz.prog 112 [vI p0,bV p1,bV p2] (fun y=>(bV y)) (aD8 p0 p1 p2):=by
 refine aoP fun r h=>?_;rw [aD8] at h;refine cs' h (bE8 _ _) fun y1 h=>?_;refine cd' h ?_ ?_<;>intro h;exact cs' h (wY _) fun y2 h=>(rp' h);refine cd' h ?_ ?_<;>intro h;exact cs' h (wY _) fun y3 h=>(rp' h);refine cd' h ?_ ?_<;>intro h;exact cs' h (wY _) fun y4 h=>(rp' h);refine cd' h ?_ ?_<;>intro h;exact cs' h (wY _) fun y5 h=>(rp' h);refine cd' h ?_ ?_<;>intro h;exact cs' h (wY _) fun y6 h=>(rp' h);exact cs' h (wY _) fun y7 h=>(rp' h)
theorem bGb (p0:Int) (p1:aA):FOk Tryz.prog 111 [vI p0,bV p1] (fun y=>(vB y)) (Y5 p0 p1):=by
 refine aoP fun r h=>?_;rw [Y5] at h;refine eF h fun y1 h=>?_;refine cd' h ?_ ?_<;>intro h;exact rp' h;refine cd' h ?_ ?_<;>intro h;exact rp' h;exact rp' h
abbrev bRi (p0) (p1) (p2):=aBg.partial_correctness p0 p1 p2 (aUq p0 p1 p2) (by intro cEe aZ4 x15 r h;refine Lok.un ?_;refine cd' h ?_ ?_<;>intro h;refine iq' h fun y1 h=>(dL h fun y2 h=>?_);refine cd' h ?_ ?_<;>intro h;exact rp' h;exact lb' (aZ4 _ _ h) (wr [(13,.old 13)] (es (es (es (es (eo 13 eS))))) bS);refine cs' h (wY _) fun y3 h=>(eF h fun y4 h=>?_);refine cd' h ?_ ?_<;>intro h;exact rp' h;refine eF h fun y5 h=>?_;refine cd' h ?_ ?_<;>intro h;exact rp' h;exact cs' h (wY _) fun y6 h=>(rp' h))
abbrev aZ4:=bRi
theorem bOm (p0:Int) (p1:aA) (p2:aA):FOk Tryz.prog 110 [vI p0,bV p1,bV p2] (fun y=>(.tup [bV y.1,vI y.2])) (aJs p0 p1 p2):=by
 refine aoP fun r h=>?_;rw [aJs] at h;refine aO (.bsl 13 32 3 [11,12]) (bN (l:=([p1,p2]:List aA)) (f:=aL) (g:=aL) kr (fun _=>rfl) kr (oC ?_));refine lq' ([p1,p2]:List aA) ?_;exact lb' (aZ4 _ _ _ _ _ h) (wr [(13,.old 13)] (es (es (es (es (eo 13 eS))))) bS)
theorem bZv (p0:List UInt8):FOk Tryz.prog 113 [vS p0] (fun y=>(bV y)) (aMp p0):=by
 refine aoP fun r h=>?_;rw [aMp] at h;exact rp' h
theorem aMg (p0:aA):FOk Tryz.prog 108 [bV p0] (fun y=>(vB y)) (wF p0):=by
 refine aoP fun r h=>?_;rw [wF] at h;refine cd' h ?_ ?_<;>intro h;exact dL h fun y1 h=>(rp' h);refine cd' h ?_ ?_<;>intro h;exact rp' h;refine cd' h ?_ ?_<;>intro h;exact dL h fun y2 h=>(rp' h);refine cd' h ?_ ?_<;>intro h;exact eF h fun y3 h=>(dL h fun y4 h=>(rp' h));exact rp' h
abbrev ZY (y:List UInt8):V:=(vS y)
theorem aFx (p0:Int) (p1:aA) (p2:aA):FOk Tryz.prog 65 [vI p0,bV p1,bV p2] (fun y=>(.tup [bV y.1,vI y.2])) (uR p0 p1 p2):=by
 refine aoP fun r h=>?_;rw [uR] at h;refine eF h fun y1 h=>(gc' h (aMg _) fun y2 h=>(eF h fun y3 h=>(gc' h (aMg _) fun y4 h=>(eF h fun y5 h=>?_))));refine cd' h ?_ ?_<;>intro h;exact rp' h;refine cd' h ?_ ?_<;>intro h;exact cs' h (bOm _ _ _) fun y6 h=>(rp' h);refine eF h fun y7 h=>(cs' h (bGb _ _) fun y8 h=>(gc' h (bGb _ _) fun y9 h=>(eF h fun y10 h=>?_)));refine aO (.g 52 false (.pick 58 55 57 (kB false))) (gv true y10 ZX h (fun y hy hc=>nS hy (p:=((true&&(y10==false))&&((decide (p0≤8))==true))) (q:=true) (Eq.trans (b:=([true&&(y10==false)]:List Bool).all id) kr (fC hc rfl)) kr kr kr (fun hb=>vN hc hb) (fun _=>rfl)) fun y11 h=>oC ?_);refine aO (.g 52 false (.pick 65 59 64 (kB false))) (gv true y10 ZX h (fun y hy hc=>nS hy (p:=((true&&(y10==false))&&(y11==true))) (q:=true) (Eq.trans (b:=([true&&(y10==false)]:List Bool).all id) kr (fC hc rfl)) kr kr kr (fun hb=>vN hc hb) (fun _=>rfl)) fun y12 h=>oC ?_);refine eF h fun y13 h=>?_;refine cd' h ?_ ?_<;>intro h;exact rp' h;refine cd' h ?_ ?_<;>intro h;exact rp' h;refine cd' h ?_ ?_<;>intro h;exact cs' h (bOb _ _ _) fun y14 h=>(rp' h);refine cd' h ?_ ?_<;>intro h;exact cs' h (bEd _ _ _) fun y15 h=>(rp' h);refine cd' h ?_ ?_<;>intro h;exact rp' h;refine aO (.bin 102 .add 99 101) (vs ZY h (fun y hy=>aMc (a:=p1.text) (b:=p2.text) hy kr kr kr) fun y16 h=>oC ?_);exact cs' h (bZv _) fun y17 h=>(rp' h)
theorem bKf (p0:aA) (p1:aA) (p2:aA):FOk Tryz.prog 114 [bV p0,bV p1,bV p2] (fun y=>(.tup [bV y.1,vI y.2])) (aKl p0 p1 p2):=by
 refine aoP fun r h=>?_;rw [aKl] at h;refine cs' h (aFx _ _ _) fun y1 h=>?_;refine cd' h ?_ ?_<;>intro h;exact rp' h;refine cs' h (aFx _ _ _) fun y2 h=>?_;refine cd' h ?_ ?_<;>intro h;exact rp' h;exact cs' h (aFx _ _ _) fun y3 h=>(rp' h)
abbrev bT9 (p1) (p0):=Z0.partial_correctness p1 p0 (aWn p1 p0) (by intro cCv aR3 x14 jL jJ jI r h;refine Lok.un ?_;refine cd' h ?_ ?_<;>intro h;refine iq' h fun y2 h=>(cs' h (aFx _ _ _) fun y3 h=>?_);refine cd' h ?_ ?_<;>intro h;exact rp' h;refine cs' h (aFx _ _ _) fun y4 h=>?_;refine cd' h ?_ ?_<;>intro h;exact rp' h;exact lb' (aR3 _ _ _ _ _ h) (wr [] eS bS);exact rp' h)
abbrev aR3:=bT9
theorem bBb (p0:aA) (p1:List aA):FOk Tryz.prog 115 [bV p0,fM p1] (fun y=>(.tup [bV y.1,vI y.2])) (aEi p0 p1):=by
 refine aoP fun r h=>?_;rw [aEi] at h;exact cs' h (wY _) fun y1 h=>(lq' p1 (lb' (aR3 _ _ _ _ _ _ _ h) (wr [] eS bS)))
abbrev bR7 (p0):=M5.partial_correctness p0 (aWl p0) (by intro cDo aS8 x4 x42 r h;refine Lok.un ?_;refine cd' h ?_ ?_<;>intro h;refine iq' h fun y8 h=>(lq' y8 ?_);refine cd' h ?_ ?_<;>intro h;exact rp' h;refine iq' h fun y9 h=>?_;refine aO (.bsl 54 32 3 [53]) (bN (l:=([y9]:List aA)) (f:=aL) (g:=aL) kr (fun _=>rfl) kr (oC ?_));exact aq' 4 aL h fun y10 h=>(lb' (aS8 _ _ _ h) (wr [(4,.old 4)] (es (es (eo 4 eS))) bS));exact iq' h fun y11 h=>(cs' h (bBb _ _) fun y12 h=>(rp' h)))
abbrev aS8:=bR7
theorem bR8 (p0:qF):FOk Tryz.prog 67 [bHe p0] (fun y=>(.tup [bV y.1,vI y.2])) (aFo p0):=by
 refine aoP fun r h=>?_;rw [aFo] at h;refine cd' h ?_ ?_<;>intro h;exact iq' h fun y1 h=>(iq' h fun y2 h=>(iq' h fun y3 h=>(cs' h (bKf _ _ _) fun y4 h=>(rp' h))));refine cd' h ?_ ?_<;>intro h;refine iq' h fun y5 h=>?_;refine dO (.slc 34 3 33 (some (kI 1)) none none) (fP (m:=jA p0.kids 1 (ln p0.kids)) (v':=fun y=>(fM y)) h rfl rfl (fun y hy=>yN (l:=p0.kids) (f:=aL) (lo:=1) (hi:=(ln p0.kids)) hy kr kr rfl ⟨kr,.i64,kr⟩) fun y6 h=>dC ?_);exact cs' h (bBb _ _) fun y7 h=>(rp' h);refine aO (.bsl 38 32 3 []) (bN (l:=([]:List aA)) (f:=aL) (g:=aL) kr (fun _=>rfl) kr (oC ?_));exact lq' p0.rows (lb' (aS8 _ _ _ _ h) (wr [(4,.old 4)] (es (es (eo 4 eS))) bS))
theorem bGi (p0:Int) (p1:aA):FOk Tryz.prog 64 [vI p0,bV p1] (fun y=>(.tup [bV y.1,vI y.2])) (aDm p0 p1):=by
 refine aoP fun r h=>?_;rw [aDm] at h;refine cs' h (aMg _) fun y1 h=>?_;refine aO (.g 9 false (.pick 15 12 14 (kB false))) (gv true (!y1) ZX h (fun y hy hc=>nS hy (p:=((true&&((!y1)==false))&&((!decide (p0=15))==true))) (q:=true) (Eq.trans (b:=([true&&((!y1)==false)]:List Bool).all id) kr (fC hc rfl)) kr kr kr (fun hb=>vN hc hb) (fun _=>rfl)) fun y2 h=>oC ?_);refine eF h fun y3 h=>?_;refine cd' h ?_ ?_<;>intro h;exact rp' h;refine cd' h ?_ ?_<;>intro h;exact rp' h;refine dL h fun y4 h=>?_;refine cd' h ?_ ?_<;>intro h;exact cs' h (wY _) fun y5 h=>(rp' h);refine dL h fun y6 h=>?_;refine cd' h ?_ ?_<;>intro h;exact cs' h (bEd _ _ _) fun y7 h=>(rp' h);exact rp' h
theorem cBl (p0:qF):FOk Tryz.prog 24 [bHe p0] (fun y=>(.tup [bV y.1,vI y.2])) (aKw p0):=by
 refine aoP fun r h=>?_;rw [aKw] at h;refine cd' h ?_ ?_<;>intro h;exact rp' h;refine cd' h ?_ ?_<;>intro h;exact iq' h fun y1 h=>(cs' h (bGi _ _) fun y2 h=>(rp' h));refine cd' h ?_ ?_<;>intro h;exact iq' h fun y3 h=>(iq' h fun y4 h=>(cs' h (aFx _ _ _) fun y5 h=>(rp' h)));refine cd' h ?_ ?_<;>intro h;exact iq' h fun y6 h=>(cs' h (wY _) fun y7 h=>(rp' h));refine cd' h ?_ ?_<;>intro h;exact lq' p0.rows (cs' h (wY _) fun y8 h=>(rp' h));refine cs' h (bR8 _) fun y9 h=>?_;refine cd' h ?_ ?_<;>intro h;exact rp' h;refine cd' h ?_ ?_<;>intro h;exact cs' h (bGi _ _) fun y10 h=>(rp' h);exact rp' h
abbrev bRk (p1) (p2) (p3) (p0):=aC7.partial_correctness p1 p2 p3 p0 (aYl p1 p2 p3 p0) (by intro cF2 aWa x6 x12 r h;refine Lok.un ?_;refine cd' h ?_ ?_<;>intro h;refine iq' h fun y1 h=>(tw' 0 [.fzb 8] ?_);refine aO (.bsl 18 122 1 [17]) (bN (l:=([bZ.mk p1 p2 p3 y1]:List bZ)) (f:=iY) (g:=iY) kr (fun _=>rfl) kr (oC ?_));exact aq' 6 iY h fun y2 h=>(lb' (aWa _ _ _ h) (wr [(6,.old 6)] (es (es (es (eo 6 eS)))) bL));exact rw' (s':=⟨[(5,.osl 242 122 1 (x6.map iY))],[]⟩) (wr [(242,.old 5)] (eo 5 jZ) bL) (rb' h))
abbrev aWa:=bRk
theorem aLz (p0:List aB) (p1:aR) (p2:GDb) (p3:List (List aA)):dJ Tryz.prog 59 [mJ p0,.rp (tQ p1),.rp (tC p2),.rp [.sl 1 (p3.map (cSl 3 aL))]] [] Zg (fun (y:List bZ)=>[]) (aAg p0 p1 p2 p3):=by
 refine aoB fun r h=>?_;rw [aAg] at h;refine aO (.bsl 9 122 1 []) (bN (l:=([]:List bZ)) (f:=iY) (g:=iY) kr (fun _=>rfl) kr (oC ?_));exact lq' p0 (lb' (aWa _ _ _ _ _ _ _ h) (wr [(6,.old 6)] (es (es (es (eo 6 eS)))) bL))
abbrev bUr (p0):=xU.partial_correctness p0 (aTm p0) (by intro cD1 aYu x6 x27 r h;refine Lok.un ?_;refine cd' h ?_ ?_<;>intro h;exact iq' h fun y3 h=>(aq' 6 aL h fun y4 h=>(lb' (aYu _ _ _ h) (wr [(6,.old 6)] (eo 6 eS) bL)));exact rw' (s':=⟨[(2,.osl 242 32 3 (x6.map aL))],[]⟩) (wr [(242,.old 2)] (eo 2 jZ) bL) (rb' h))
abbrev aYu:=bUr
theorem bO5 (p0:List aA) (p1:Int):dJ Tryz.prog 140 [.osl 254 32 3 (p0.map aL),vI p1] [] Zm Zn (aLp p0 p1):=by
 exact bTc sh140 rfl rfl
abbrev bDg (p0):=aGk.mutual_partial_correctness p0 (aWx p0) (aS1 p0) (by intro cDw aTc x3 y1 x11 r h;exact Jok.un (lb' (aTc _ _ _ h) (wr [] eS bL))) (by intro cF4 bAx x3 x11 r h;refine Lok.un ?_;refine cd' h ?_ ?_<;>intro h;refine iq' h fun y1 h=>(lq' y1 ?_);refine cd' h ?_ ?_<;>intro h;exact nomatch h;exact jn' (bAx _ _ _ _ h) (wr [] eS bL);exact cg' ⟨[],[],[(254,32,3)],[some 254,none],[],[(242,24)],[],[24],[]⟩ h (bO5 _ _) fun y2 h=>(lq' p0 (lb' (aYu _ _ _ _ h) (wr [(6,.old 6)] (eo 6 eS) bL))))
abbrev bAx:=fun p0=>(bDg p0).1
abbrev aTc:=fun p0=>(bDg p0).2
theorem bXj (p0:List (List aA)):dJ Tryz.prog 127 [.d (.sl 1 (p0.map (cSl 3 aL)))] [] Zm Zn (aKk p0):=by
 refine aoB fun r h=>?_;rw [aKk] at h;exact lq' p0 (lb' (aTc _ _ _ _ h) (wr [] eS bL))
theorem bK9 (p0:aA):FOk Tryz.prog 141 [bV p0] (fun y=>(vB y)) (aJ6 p0):=by
 refine aoP fun r h=>?_;rw [aJ6] at h;exact dL h fun y1 h=>(rp' h)
theorem bZ4 (p0:List aA):dJ Tryz.prog 135 [fM p0] [] Zm Zn (aKp p0):=by
 refine aoB fun r h=>?_;rw [aKp] at h;refine aO (.eqn 4 false 3) (bSm (sz:=3) (l:=p0) (f:=aL) h kr kr (fun hl h=>oC ?_) fun hl h=>?_);refine bCt ?_;refine aO (.bsl 5 32 3 []) (bN (l:=([]:List aA)) (f:=aL) (g:=aL) kr (fun _=>rfl) kr (oC ?_));exact aq' 5 aL h fun y1 h=>(rw' (s':=⟨[(2,.osl 242 32 3 (y1.map aL))],[]⟩) (wr [(242,.old 2)] (eo 2 jZ) bL) (rb' h))
 subst hl
 refine ⟨oC ?_,oC ?_⟩
 replace h:((appG 32 ([]:List aA) ([]:List aA))>>=fun (y2:List aA)=>some y2:Option (List aA))=some r:=h
 refine bCt ?_;refine aO (.bsl 5 32 3 []) (bN (l:=([]:List aA)) (f:=aL) (g:=aL) kr (fun _=>rfl) kr (oC ?_));exact aq' 5 aL h fun y2 h=>(rw' (s':=⟨[(2,.osl 242 32 3 (y2.map aL))],[]⟩) (wr [(242,.old 2)] (eo 2 jZ) bL) (rb' h));exact bVt (rw' (s':=⟨[(2,.osl 242 32 3 (([]:List aA).map aL))],[]⟩) (wr [(242,.new 32 3)] (en jZ) bL) (rb' h))
abbrev bY5 (p0) (p1):=aAc.partial_correctness p0 p1 (aZl p0 p1) (by intro cDy aSo x13 r h;refine Lok.un ?_;refine cd' h ?_ ?_<;>intro h;refine iq' h fun y1 h=>(iq' h fun y2 h=>?_);refine cd' h ?_ ?_<;>intro h;exact rp' h;exact lb' (aSo _ _ h) (wr [] eS bL);exact rp' h)
abbrev aSo:=bY5
theorem bXe (p0:List aA) (p1:List aA):FOk Tryz.prog 134 [fM p0,fM p1] (fun y=>(vB y)) (aHh p0 p1):=by
 refine aoP fun r h=>?_;rw [aHh] at h;refine lq' p0 (lq' p1 ?_);refine cd' h ?_ ?_<;>intro h;exact rp' h;exact lq' p0 (lb' (aSo _ _ _ _ h) (wr [] eS bL))
theorem bYu (p0:List aA) (c0_0:List aA):dJ Tryz.prog 133 [fM p0,.ptr 241 0] [(241,[fM c0_0])] ZX (fun (y:Bool)=>[(241,[fM c0_0])]) (aP8 p0 c0_0):=by
 refine aoB fun r h=>?_;rw [aP8] at h;exact cs' h (bXe _ _) fun y1 h=>(rb' h)
abbrev bQd (p0) (c0_0):=aAo.partial_correctness p0 c0_0 (aRj p0 c0_0) (by intro cDj aZ7 x8 r h;refine Lok.un ?_;refine cd' h ?_ ?_<;>intro h;refine iq' h fun y1 h=>(cg' c1_ h (bYu _ _) fun y2 h=>?_);refine cd' h ?_ ?_<;>intro h;exact rb' h;exact lb' (aZ7 _ _ h) (wr [] eS bS);exact rb' h)
abbrev aZ7:=bQd
theorem cBt (p0:List (List aA)) (c0_0:List aA):dJ Tryz.prog 146 [.d (.sl 1 (p0.map (cSl 3 aL))),.fn 133 [.ptr 241 0]] [(241,[fM c0_0])] Zo (fun (y:Int)=>[(241,[fM c0_0])]) (aNb p0 c0_0):=by
 refine aoB fun r h=>?_;rw [aNb] at h;exact lq' p0 (lb' (aZ7 _ _ _ _ h) (wr [] eS bS))
theorem cA4 (p0:List (List aA)) (c0_0:List aA):dJ Tryz.prog 132 [.d (.sl 1 (p0.map (cSl 3 aL))),.fn 133 [.ptr 241 0]] [(241,[fM c0_0])] ZX (fun (y:Bool)=>[(241,[fM c0_0])]) (aHt p0 c0_0):=by
 refine aoB fun r h=>?_;rw [aHt] at h;exact cg' c1_ h (cBt _ _) fun y1 h=>(rb' h)
abbrev bI5 (p0):=aBm.mutual_partial_correctness p0 (aY1 p0) (aSb p0) (by intro cF3 aZ8 x9 sF r h;exact Jok.un (lb' (aZ8 _ _ _ h) (wr [(3,.old 3)] (eo 3 eS) bL))) (by intro cD8 aRh x3 x9 r h;refine Lok.un ?_;refine cd' h ?_ ?_<;>intro h;refine iq' h fun y1 h=>(cg' ⟨[(241,5)],[],[],[],[],[],[],[],[]⟩ h (cA4 _ _) fun y2 h=>?_);refine cd' h ?_ ?_<;>intro h;refine cg' ⟨[],[],[],[],[],[(242,19)],[],[19],[]⟩ h (bZ4 _) fun y3 h=>?_;refine aO (.bsl 20 43 1 [19]) (bN (l:=([y3]:List (List aA))) (f:=(cSl 3 aL)) (g:=(cSl 3 aL)) kr (fun _=>rfl) kr (oC ?_));exact aq' 3 (cSl 3 aL) h fun y4 h=>(jn' (aRh _ _ _ h) (wr [(3,.old 3)] (eo 3 eS) bL));exact jn' (aRh _ _ _ h) (wr [(3,.old 3)] (eo 3 eS) bL);exact rw' (s':=⟨[(2,.osl 242 43 1 (x3.map (cSl 3 aL)))],[]⟩) (wr [(242,.old 2)] (eo 2 jZ) bL) (rb' h))
abbrev aRh:=fun p0=>(bI5 p0).1
abbrev aZ8:=fun p0=>(bI5 p0).2
theorem bJm (p0:List (List aA)):dJ Tryz.prog 107 [.d (.sl 1 (p0.map (cSl 3 aL)))] [] Zc Zd (aE7 p0):=by
 refine aoB fun r h=>?_;rw [aE7] at h;refine aO (.bsl 6 43 1 []) (bN (l:=([]:List (List aA))) (f:=(cSl 3 aL)) (g:=(cSl 3 aL)) kr (fun _=>rfl) kr (oC ?_));exact lq' p0 (lb' (aZ8 _ _ _ _ h) (wr [(3,.old 3)] (eo 3 eS) bL))
theorem bEn (aAb r) (h:aHi aAb=some r):bUd aAb r:=by
 rw [aHi] at h;exact Jok.un (rp' h)
abbrev ZZ (y:List (List aA)):V:=(.d (.sl 1 (y.map (cSl 3 aL))))
theorem bDv (p0 xA r) (h:yO p0 xA=some r):cAn p0 xA r:=by
 rw [yO] at h;refine Jok.un (wL xA (dL h fun y8 h=>?_));refine cd' h ?_ ?_<;>intro h;refine aO (.slc 67 1 64 none (some 66) none) (vs ZZ h (fun y hy=>yN (l:=xA) (f:=(cSl 3 aL)) (lo:=0) (hi:=p0.limit) hy kr kr ⟨kr,.i64,kr⟩ rfl) fun y9 h=>oC ?_);exact jn' (bEn _ _ h) (wr [] eS bL);exact jn' (bEn _ _ h) (wr [] (ew jZ) bL)
abbrev aZz (p2) (p0) (p1):=aDa.mutual_partial_correctness p2 p0 p1 (fun x12=>aXv p2 x12 p0 p1) (aTu p2 p0 p1) (by intro cD5 aTb x12 x8 r h;refine Jok.un ?_;refine cd' h ?_ ?_<;>intro h;exact rp' h;exact lb' (aTb _ _ h) (wr [] eS bS)) (by intro cE1 aX4 x12 r h;refine Lok.un ?_;refine cd' h ?_ ?_<;>intro h;refine iq' h fun y1 h=>(iq' h fun y2 h=>(iq' h fun y3 h=>(cs' h (bE8 _ _) fun y4 h=>?_)));refine cd' h ?_ ?_<;>intro h;exact jn' (aX4 _ _ _ h) (wr [] eS bS);exact jn' (aX4 _ _ _ h) (wr [] eS bS);exact rp' h)
abbrev aX4:=fun p2 x12 p0 p1=>(aZz p2 p0 p1).1 x12
abbrev aTb:=fun p2 p0 p1=>(aZz p2 p0 p1).2
theorem aPa (p0:aX) (p1:aX) (p2:eX):FOk Tryz.prog 130 [kU p0,kU p1,.rp (vJ p2)] (fun y=>(vI y)) (wP p0 p1 p2):=by
 refine aoP fun r h=>?_;rw [wP] at h;exact lq' p2.order (lb' (aTb _ _ _ _ _ h) (wr [] eS bS))
abbrev bI4 (p1) (p2) (p3):=Z6.mutual_partial_correctness p1 p2 p3 (aY5 p1 p2 p3) (aR8 p1 p2 p3) (by intro bWl cCt aQ4 aY6 x8 x9 fO r h;refine Lok.un ?_;refine dO (.g 21 true (.ia 25 2 23 24)) (zF (p:=true) (b:=(decide (p1<x9))) (m:=idx fO x9) (dflt:=default) (v':=fun y=>(.trp 244 2 (x9).toNat 0)) h kr rfl rfl (fun y hy hc=>lF (n:=244) (l:=fO) (f:=bD) (k:=.i64) (i:=x9) hy kr (Eq.trans (b:=([true&&((decide (p1<x9))==true),true&&((decide (p1<x9))==true)]:List Bool).all id) kr (fC hc (fC hc rfl))) kr kr) fun y2 h=>dC ?_);refine dO (.g 21 true (.ld 26 2 true 25)) (zF (p:=true) (b:=(decide (p1<x9))) (m:=idx fO x9) (dflt:=default) (v':=fun y=>(kU y)) h kr rfl rfl (fun y hy hc=>qG (off:=0) (n:=244) (sz:=2) (l:=fO) (f:=bD) (g:=bD) (j:=x9) hy (fun _=>rfl) kr (Eq.trans (b:=([true&&((decide (p1<x9))==true)]:List Bool).all id) kr (fC hc rfl)) kr kr) fun y3 h=>dC ?_);refine dO (.g 21 true (.ia 30 2 27 29)) (zF (p:=true) (b:=(decide (p1<x9))) (m:=idx fO (QA .i64 (x9 - 1))) (dflt:=default) (v':=fun y=>(.trp 244 2 ((QA .i64 (x9 - 1))).toNat 0)) h kr rfl rfl (fun y hy hc=>lF (n:=244) (l:=fO) (f:=bD) (k:=.i64) (i:=(QA .i64 (x9 - 1))) hy kr (Eq.trans (b:=([true&&((decide (p1<x9))==true),true&&((decide (p1<x9))==true)]:List Bool).all id) kr (fC hc (fC hc rfl))) kr kr) fun y4 h=>dC ?_);refine dO (.g 21 true (.ld 31 2 true 30)) (zF (p:=true) (b:=(decide (p1<x9))) (m:=idx fO (QA .i64 (x9 - 1))) (dflt:=default) (v':=fun y=>(kU y)) h kr rfl rfl (fun y hy hc=>qG (off:=0) (n:=244) (sz:=2) (l:=fO) (f:=bD) (g:=bD) (j:=(QA .i64 (x9 - 1))) hy (fun _=>rfl) kr (Eq.trans (b:=([true&&((decide (p1<x9))==true)]:List Bool).all id) kr (fC hc rfl)) kr kr) fun y5 h=>dC ?_);refine dO (.g 21 true (.callv (some 32) 22 [26,31])) (bZr (caps:=[.rp (vJ p3.c0)]) (p:=true) (b:=(decide (p1<x9))) (m:=wP y3 y5 p3.c0) (dflt:=default) (args:=[kU y3,kU y5,.rp (vJ p3.c0)]) (v':=(fun y=>(vI y))) h kr kr kr (aPa _ _ _) (fun hc=>by kernel_rfl) kr (fun _=>rfl) (fun hc=>(Eq.trans (b:=([true&&((decide (p1<x9))==true),true&&((decide (p1<x9))==true),true&&((decide (p1<x9))==true)]:List Bool).all id) kr (fC hc (fC hc (fC hc rfl))))) fun y6 h=>dC ?_);refine dL h fun y7 h=>?_;refine cd' h ?_ ?_<;>intro h;refine dO (.ia 45 2 42 44) (fP (m:=idx fO (QA .i64 (x9 - 1))) (v':=fun y=>(.trp 244 2 ((QA .i64 (x9 - 1))).toNat 0)) h rfl rfl (fun y hy=>lF (n:=244) (l:=fO) (f:=bD) (k:=.i64) (i:=(QA .i64 (x9 - 1))) hy kr kr kr kr) fun y8 h=>dC ?_);refine dO (.ld 46 2 true 45) (fP (m:=idx fO (QA .i64 (x9 - 1))) (v':=fun y=>(kU y)) h rfl rfl (fun y hy=>qG (off:=0) (n:=244) (sz:=2) (l:=fO) (f:=bD) (g:=bD) (j:=(QA .i64 (x9 - 1))) hy (fun _=>rfl) kr kr kr kr) fun y9 h=>dC ?_);refine dO (.ia 49 2 47 48) (fP (m:=idx fO x9) (v':=fun y=>(.trp 244 2 (x9).toNat 0)) h rfl rfl (fun y hy=>lF (n:=244) (l:=fO) (f:=bD) (k:=.i64) (i:=x9) hy kr kr kr kr) fun y10 h=>dC ?_);refine dO (.ld 50 2 true 49) (fP (m:=idx fO x9) (v':=fun y=>(kU y)) h rfl rfl (fun y hy=>qG (off:=0) (n:=244) (sz:=2) (l:=fO) (f:=bD) (g:=bD) (j:=x9) hy (fun _=>rfl) kr kr kr kr) fun y11 h=>dC ?_);refine dO (.ia 51 2 37 38) (fP (m:=idx fO x9) (v':=fun y=>(.trp 244 2 (x9).toNat 0)) h rfl rfl (fun y hy=>lF (n:=244) (l:=fO) (f:=bD) (k:=.i64) (i:=x9) hy kr kr kr kr) fun y12 h=>dC ?_);refine dO (.st 2 51 46) (aAm (n:=244) (sz:=2) (l:=fO) (f:=bD) (j:=x9) (v:=y9) h kr kr (fun _=>rfl) kr kr (fun _=>rfl) fun y13 h=>dC ?_);refine dO (.ia 52 2 39 41) (fP (m:=idx y13 (QA .i64 (x9 - 1))) (v':=fun y=>(.trp 244 2 ((QA .i64 (x9 - 1))).toNat 0)) h rfl rfl (fun y hy=>lF (n:=244) (l:=y13) (f:=bD) (k:=.i64) (i:=(QA .i64 (x9 - 1))) hy kr kr kr kr) fun y14 h=>dC ?_);refine dO (.st 2 52 50) (aAm (n:=244) (sz:=2) (l:=y13) (f:=bD) (j:=(QA .i64 (x9 - 1))) (v:=y11) h kr kr (fun _=>rfl) kr kr (fun _=>rfl) fun y15 h=>dC ?_);exact lb' (aQ4 _ _ _ _ h) (wr [] eS bS);exact lb' (aY6 _ _ _ h) (wr [] eS bS)) (by intro bWl aQ4 x8 bI r h;refine Lok.un ?_;refine cd' h ?_ ?_<;>intro h;exact lb' (aQ4 _ _ _ _ h) (wr [] eS bS);exact rb' h)
abbrev aQ4:=fun p1 p2 p3=>(bI4 p1 p2 p3).1
abbrev aY6:=fun p1 p2 p3=>(bI4 p1 p2 p3).2
theorem bCy (p0:List aX) (p1:Int) (p2:Int) (p3:fH):dJ Tryz.prog 147 [.tre 244,vI p1,vI p2,.d (mF p3)] [(244,[.trs 2 (p0.map bD)])] Zk Zl (aGu p0 p1 p2 p3):=by
 refine aoB fun r h=>?_;rw [aGu] at h;exact lb' (aY6 _ _ _ _ _ _ h) (wr [] eS bS)
abbrev bLx (p1) (p2) (p3):=aJd.partial_correctness p1 p2 p3 (aYx p1 p2 p3) (by intro cDu aY4 x10 bI r h;refine Lok.un ?_;refine cd' h ?_ ?_<;>intro h;refine dO (.ia 28 2 24 27) (fP (m:=idx bI (QA .i64 (p2+x10))) (v':=fun y=>(.trp 244 2 ((QA .i64 (p2+x10))).toNat 0)) h rfl rfl (fun y hy=>lF (n:=244) (l:=bI) (f:=bD) (k:=.i64) (i:=(QA .i64 (p2+x10))) hy kr kr kr kr) fun y1 h=>dC ?_);refine dO (.ld 29 2 true 28) (fP (m:=idx bI (QA .i64 (p2+x10))) (v':=fun y=>(kU y)) h rfl rfl (fun y hy=>qG (off:=0) (n:=244) (sz:=2) (l:=bI) (f:=bD) (g:=bD) (j:=(QA .i64 (p2+x10))) hy (fun _=>rfl) kr kr kr kr) fun y2 h=>dC ?_);refine dO (.ia 34 2 30 33) (fP (m:=idx bI (QA .i64 (p1+x10))) (v':=fun y=>(.trp 244 2 ((QA .i64 (p1+x10))).toNat 0)) h rfl rfl (fun y hy=>lF (n:=244) (l:=bI) (f:=bD) (k:=.i64) (i:=(QA .i64 (p1+x10))) hy kr kr kr kr) fun y3 h=>dC ?_);refine dO (.ld 35 2 true 34) (fP (m:=idx bI (QA .i64 (p1+x10))) (v':=fun y=>(kU y)) h rfl rfl (fun y hy=>qG (off:=0) (n:=244) (sz:=2) (l:=bI) (f:=bD) (g:=bD) (j:=(QA .i64 (p1+x10))) hy (fun _=>rfl) kr kr kr kr) fun y4 h=>dC ?_);refine dO (.ia 36 2 16 19) (fP (m:=idx bI (QA .i64 (p1+x10))) (v':=fun y=>(.trp 244 2 ((QA .i64 (p1+x10))).toNat 0)) h rfl rfl (fun y hy=>lF (n:=244) (l:=bI) (f:=bD) (k:=.i64) (i:=(QA .i64 (p1+x10))) hy kr kr kr kr) fun y5 h=>dC ?_);refine dO (.st 2 36 29) (aAm (n:=244) (sz:=2) (l:=bI) (f:=bD) (j:=(QA .i64 (p1+x10))) (v:=y2) h kr kr (fun _=>rfl) kr kr (fun _=>rfl) fun y6 h=>dC ?_);refine dO (.ia 37 2 20 23) (fP (m:=idx y6 (QA .i64 (p2+x10))) (v':=fun y=>(.trp 244 2 ((QA .i64 (p2+x10))).toNat 0)) h rfl rfl (fun y hy=>lF (n:=244) (l:=y6) (f:=bD) (k:=.i64) (i:=(QA .i64 (p2+x10))) hy kr kr kr kr) fun y7 h=>dC ?_);refine dO (.st 2 37 35) (aAm (n:=244) (sz:=2) (l:=y6) (f:=bD) (j:=(QA .i64 (p2+x10))) (v:=y4) h kr kr (fun _=>rfl) kr kr (fun _=>rfl) fun y8 h=>dC ?_);exact lb' (aY4 _ _ _ h) (wr [] eS bS);exact rb' h)
abbrev aY4:=bLx
theorem aXb (p0:List aX) (p1:Int) (p2:Int) (p3:Int) (p4:fH):dJ Tryz.prog 152 [.tre 244,vI p1,vI p2,vI p3,.d (mF p4)] [(244,[.trs 2 (p0.map bD)])] Zk Zl (aL7 p0 p1 p2 p3 p4):=by
 refine aoB fun r h=>?_;rw [aL7] at h;exact lb' (aY4 _ _ _ _ _ _ h) (wr [] eS bS)
abbrev bKt (p2) (p4):=aFy.partial_correctness p2 p4 (aWf p2 p4) (by intro cF0 aMa x10 x11 bI r h;refine Lok.un ?_;refine cd' h ?_ ?_<;>intro h;refine cd' h ?_ ?_<;>intro h;exact cg' ⟨[(244,244)],[],[],[],[],[],[],[],[]⟩ h (aXb _ _ _ _ _) fun y1 h=>(lb' (aMa _ _ _ _ h) (wr [] eS bS));exact cg' ⟨[(244,244)],[],[],[],[],[],[],[],[]⟩ h (aXb _ _ _ _ _) fun y2 h=>(lb' (aMa _ _ _ _ h) (wr [] eS bS));exact cg' ⟨[(244,244)],[],[],[],[],[],[],[],[]⟩ h (aXb _ _ _ _ _) fun y3 h=>(rb' h))
abbrev aMa:=bKt
theorem bSo (p0:List aX) (p1:Int) (p2:Int) (p3:Int) (p4:fH):dJ Tryz.prog 151 [.tre 244,vI p1,vI p2,vI p3,.d (mF p4)] [(244,[.trs 2 (p0.map bD)])] Zk Zl (aT0 p0 p1 p2 p3 p4):=by
 refine aoB fun r h=>?_;rw [aT0] at h;exact lb' (aMa _ _ _ _ _ _ h) (wr [] eS bS)
abbrev bR4 (x10):=aIy.partial_correctness x10 (aYw x10) (by intro cDx aRp x13 bI r h;refine Lok.un ?_;refine cd' h ?_ ?_<;>intro h;refine dO (.ia 69 2 66 68) (fP (m:=idx bI (QA .i64 (x13+1))) (v':=fun y=>(.trp 244 2 ((QA .i64 (x13+1))).toNat 0)) h rfl rfl (fun y hy=>lF (n:=244) (l:=bI) (f:=bD) (k:=.i64) (i:=(QA .i64 (x13+1))) hy kr kr kr kr) fun y14 h=>dC ?_);refine dO (.ld 70 2 true 69) (fP (m:=idx bI (QA .i64 (x13+1))) (v':=fun y=>(kU y)) h rfl rfl (fun y hy=>qG (off:=0) (n:=244) (sz:=2) (l:=bI) (f:=bD) (g:=bD) (j:=(QA .i64 (x13+1))) hy (fun _=>rfl) kr kr kr kr) fun y15 h=>dC ?_);refine dO (.ia 73 2 71 72) (fP (m:=idx bI x13) (v':=fun y=>(.trp 244 2 (x13).toNat 0)) h rfl rfl (fun y hy=>lF (n:=244) (l:=bI) (f:=bD) (k:=.i64) (i:=x13) hy kr kr kr kr) fun y16 h=>dC ?_);refine dO (.ld 74 2 true 73) (fP (m:=idx bI x13) (v':=fun y=>(kU y)) h rfl rfl (fun y hy=>qG (off:=0) (n:=244) (sz:=2) (l:=bI) (f:=bD) (g:=bD) (j:=x13) hy (fun _=>rfl) kr kr kr kr) fun y17 h=>dC ?_);refine dO (.ia 75 2 61 62) (fP (m:=idx bI x13) (v':=fun y=>(.trp 244 2 (x13).toNat 0)) h rfl rfl (fun y hy=>lF (n:=244) (l:=bI) (f:=bD) (k:=.i64) (i:=x13) hy kr kr kr kr) fun y18 h=>dC ?_);refine dO (.st 2 75 70) (aAm (n:=244) (sz:=2) (l:=bI) (f:=bD) (j:=x13) (v:=y15) h kr kr (fun _=>rfl) kr kr (fun _=>rfl) fun y19 h=>dC ?_);refine dO (.ia 76 2 63 65) (fP (m:=idx y19 (QA .i64 (x13+1))) (v':=fun y=>(.trp 244 2 ((QA .i64 (x13+1))).toNat 0)) h rfl rfl (fun y hy=>lF (n:=244) (l:=y19) (f:=bD) (k:=.i64) (i:=(QA .i64 (x13+1))) hy kr kr kr kr) fun y20 h=>dC ?_);refine dO (.st 2 76 74) (aAm (n:=244) (sz:=2) (l:=y19) (f:=bD) (j:=(QA .i64 (x13+1))) (v:=y17) h kr kr (fun _=>rfl) kr kr (fun _=>rfl) fun y21 h=>dC ?_);exact lb' (aRp _ _ _ h) (wr [] eS bS);exact rb' h)
abbrev aRp:=bR4
abbrev bZj (p1) (p4) (p0):=aEx.partial_correctness p1 p4 p0 (aVy p1 p4 p0) (by intro cDv aNh x10 x11 r h;refine Lok.un ?_;refine cd' h ?_ ?_<;>intro h;refine dO (.ia 43 2 41 42) (fP (m:=idx p0 (QA .i64 (QB (QA .u64 (QA .i64 (x10+x11))) (2 ^ 1)))) (v':=fun y=>(.trp 244 2 ((QA .i64 (QB (QA .u64 (QA .i64 (x10+x11))) (2 ^ 1)))).toNat 0)) h rfl rfl (fun y hy=>lF (n:=244) (l:=p0) (f:=bD) (k:=.i64) (i:=(QA .i64 (QB (QA .u64 (QA .i64 (x10+x11))) (2 ^ 1)))) hy kr kr kr kr) fun y1 h=>dC ?_);refine dO (.ld 44 2 true 43) (fP (m:=idx p0 (QA .i64 (QB (QA .u64 (QA .i64 (x10+x11))) (2 ^ 1)))) (v':=fun y=>(kU y)) h rfl rfl (fun y hy=>qG (off:=0) (n:=244) (sz:=2) (l:=p0) (f:=bD) (g:=bD) (j:=(QA .i64 (QB (QA .u64 (QA .i64 (x10+x11))) (2 ^ 1)))) hy (fun _=>rfl) kr kr kr kr) fun y2 h=>dC ?_);refine dO (.ia 47 2 45 46) (fP (m:=idx p0 p1) (v':=fun y=>(.trp 244 2 (p1).toNat 0)) h rfl rfl (fun y hy=>lF (n:=244) (l:=p0) (f:=bD) (k:=.i64) (i:=p1) hy kr kr kr kr) fun y3 h=>dC ?_);refine dO (.ld 48 2 true 47) (fP (m:=idx p0 p1) (v':=fun y=>(kU y)) h rfl rfl (fun y hy=>qG (off:=0) (n:=244) (sz:=2) (l:=p0) (f:=bD) (g:=bD) (j:=p1) hy (fun _=>rfl) kr kr kr kr) fun y4 h=>dC ?_);refine dO (.callv (some 49) 40 [44,48]) (aRa (m:=wP y2 y4 p4.c0) (caps:=[.rp (vJ p4.c0)]) (args:=[kU y2,kU y4,.rp (vJ p4.c0)]) (v':=(fun y=>(vI y))) h kr kr (aPa _ _ _) kr kr (fun _=>rfl) fun y5 h=>dC ?_);refine cd' h ?_ ?_<;>intro h;exact lb' (aNh _ _ _ h) (wr [] eS bS);exact lb' (aNh _ _ _ h) (wr [] eS bS);exact lb' (aRp _ _ _ _ h) (wr [] eS bS))
abbrev aNh:=bZj
abbrev bMh (x14):=aI9.partial_correctness x14 (aXq x14) (by intro cD4 aR7 x17 iZ r h;refine Lok.un ?_;refine cd' h ?_ ?_<;>intro h;refine dO (.ia 121 2 118 120) (fP (m:=idx iZ (QA .i64 (x17 - 1))) (v':=fun y=>(.trp 244 2 ((QA .i64 (x17 - 1))).toNat 0)) h rfl rfl (fun y hy=>lF (n:=244) (l:=iZ) (f:=bD) (k:=.i64) (i:=(QA .i64 (x17 - 1))) hy kr kr kr kr) fun y22 h=>dC ?_);refine dO (.ld 122 2 true 121) (fP (m:=idx iZ (QA .i64 (x17 - 1))) (v':=fun y=>(kU y)) h rfl rfl (fun y hy=>qG (off:=0) (n:=244) (sz:=2) (l:=iZ) (f:=bD) (g:=bD) (j:=(QA .i64 (x17 - 1))) hy (fun _=>rfl) kr kr kr kr) fun y23 h=>dC ?_);refine dO (.ia 125 2 123 124) (fP (m:=idx iZ x17) (v':=fun y=>(.trp 244 2 (x17).toNat 0)) h rfl rfl (fun y hy=>lF (n:=244) (l:=iZ) (f:=bD) (k:=.i64) (i:=x17) hy kr kr kr kr) fun y24 h=>dC ?_);refine dO (.ld 126 2 true 125) (fP (m:=idx iZ x17) (v':=fun y=>(kU y)) h rfl rfl (fun y hy=>qG (off:=0) (n:=244) (sz:=2) (l:=iZ) (f:=bD) (g:=bD) (j:=x17) hy (fun _=>rfl) kr kr kr kr) fun y25 h=>dC ?_);refine dO (.ia 127 2 113 114) (fP (m:=idx iZ x17) (v':=fun y=>(.trp 244 2 (x17).toNat 0)) h rfl rfl (fun y hy=>lF (n:=244) (l:=iZ) (f:=bD) (k:=.i64) (i:=x17) hy kr kr kr kr) fun y26 h=>dC ?_);refine dO (.st 2 127 122) (aAm (n:=244) (sz:=2) (l:=iZ) (f:=bD) (j:=x17) (v:=y23) h kr kr (fun _=>rfl) kr kr (fun _=>rfl) fun y27 h=>dC ?_);refine dO (.ia 128 2 115 117) (fP (m:=idx y27 (QA .i64 (x17 - 1))) (v':=fun y=>(.trp 244 2 ((QA .i64 (x17 - 1))).toNat 0)) h rfl rfl (fun y hy=>lF (n:=244) (l:=y27) (f:=bD) (k:=.i64) (i:=(QA .i64 (x17 - 1))) hy kr kr kr kr) fun y28 h=>dC ?_);refine dO (.st 2 128 126) (aAm (n:=244) (sz:=2) (l:=y27) (f:=bD) (j:=(QA .i64 (x17 - 1))) (v:=y25) h kr kr (fun _=>rfl) kr kr (fun _=>rfl) fun y29 h=>dC ?_);exact lb' (aR7 _ _ _ h) (wr [] eS bS);exact rb' h)
abbrev aR7:=bMh
abbrev bSl (p2) (p4) (p0):=aGt.partial_correctness p2 p4 p0 (aYr p2 p4 p0) (by intro cCy aNt x14 x15 r h;refine Lok.un ?_;refine cd' h ?_ ?_<;>intro h;refine dO (.ia 95 2 93 94) (fP (m:=idx p0 p2) (v':=fun y=>(.trp 244 2 (p2).toNat 0)) h rfl rfl (fun y hy=>lF (n:=244) (l:=p0) (f:=bD) (k:=.i64) (i:=p2) hy kr kr kr kr) fun y6 h=>dC ?_);refine dO (.ld 96 2 true 95) (fP (m:=idx p0 p2) (v':=fun y=>(kU y)) h rfl rfl (fun y hy=>qG (off:=0) (n:=244) (sz:=2) (l:=p0) (f:=bD) (g:=bD) (j:=p2) hy (fun _=>rfl) kr kr kr kr) fun y7 h=>dC ?_);refine dO (.ia 99 2 97 98) (fP (m:=idx p0 (QA .i64 (QB (QA .u64 (QA .i64 (x14+x15))) (2 ^ 1)))) (v':=fun y=>(.trp 244 2 ((QA .i64 (QB (QA .u64 (QA .i64 (x14+x15))) (2 ^ 1)))).toNat 0)) h rfl rfl (fun y hy=>lF (n:=244) (l:=p0) (f:=bD) (k:=.i64) (i:=(QA .i64 (QB (QA .u64 (QA .i64 (x14+x15))) (2 ^ 1)))) hy kr kr kr kr) fun y8 h=>dC ?_);refine dO (.ld 100 2 true 99) (fP (m:=idx p0 (QA .i64 (QB (QA .u64 (QA .i64 (x14+x15))) (2 ^ 1)))) (v':=fun y=>(kU y)) h rfl rfl (fun y hy=>qG (off:=0) (n:=244) (sz:=2) (l:=p0) (f:=bD) (g:=bD) (j:=(QA .i64 (QB (QA .u64 (QA .i64 (x14+x15))) (2 ^ 1)))) hy (fun _=>rfl) kr kr kr kr) fun y9 h=>dC ?_);refine dO (.callv (some 101) 92 [96,100]) (aRa (m:=wP y7 y9 p4.c0) (caps:=[.rp (vJ p4.c0)]) (args:=[kU y7,kU y9,.rp (vJ p4.c0)]) (v':=(fun y=>(vI y))) h kr kr (aPa _ _ _) kr kr (fun _=>rfl) fun y10 h=>dC ?_);refine cd' h ?_ ?_<;>intro h;exact lb' (aNt _ _ _ h) (wr [] eS bS);exact lb' (aNt _ _ _ h) (wr [] eS bS);exact lb' (aR7 _ _ _ _ h) (wr [] eS bS))
abbrev aNt:=bSl
abbrev aJl (p4):=aHy.mutual_partial_correctness p4 (fun p3=>aZr p3 p4) (fun p0 p1 p2 p3 r=>bU Tryz.prog 148 [.tre 244,vI p1,vI p2,vI p3,.d (mF p4)] [(244,[.trs 2 (p0.map bD)])] (BQ Zk Zl r)) (fun p1 p2 p3=>aTo p1 p2 p3 p4) (fun p1 p2 p3=>aUa p1 p2 p3 p4) (fun p1 p3=>aXr p1 p3 p4) (by intro bXt aEp p3 p1 p2 dF qY r h;refine Jok.un (dL h fun y41 h=>?_);refine cd' h ?_ ?_<;>intro h;exact cg' ⟨[(244,244)],[],[],[],[],[],[],[],[]⟩ h (aEp _ _ _ _) fun y42 h=>(rb' h);exact rb' h) (by intro cF5 aYf p0 p1 p2 p3 r h;refine ao' ?_;refine cd' h ?_ ?_<;>intro h;exact lb' (aNh _ _ _ _ _ _ h) (wr [] eS bS);refine cd' h ?_ ?_<;>intro h;exact lb' (aNt _ _ _ _ _ _ h) (wr [] eS bS);refine cd' h ?_ ?_<;>intro h;exact jn' (aYf _ _ _ _ _ _ _ h) (wr [] eS bS);exact jn' (aYf _ _ _ _ _ _ _ h) (wr [] eS bS)) (by intro bUc aIe p1 p2 p3 p0 x20 x21 r h;refine Jok.un ?_;exact lb' (aIe _ _ _ _ _ _ _ h) (wr [] eS bS)) (by intro bUc cDi aIe aQq p1 p2 p3 p0 dF jC r h;refine Lok.un ?_;refine cd' h ?_ ?_<;>intro h;refine dO (.ia 163 2 159 162) (fP (m:=idx p0 (QA .i64 ((QA .i64 ((QA .i64 ((QA .i64 (QB (QA .u64 (QA .i64 (p1+p3))) (2 ^ 1)))+p2)) - 1)) - (QA .i64 (QB (QA .u64 (QA .i64 (dF+jC))) (2 ^ 1)))))) (v':=fun y=>(.trp 244 2 ((QA .i64 ((QA .i64 ((QA .i64 ((QA .i64 (QB (QA .u64 (QA .i64 (p1+p3))) (2 ^ 1)))+p2)) - 1)) - (QA .i64 (QB (QA .u64 (QA .i64 (dF+jC))) (2 ^ 1)))))).toNat 0)) h rfl rfl (fun y hy=>lF (n:=244) (l:=p0) (f:=bD) (k:=.i64) (i:=(QA .i64 ((QA .i64 ((QA .i64 ((QA .i64 (QB (QA .u64 (QA .i64 (p1+p3))) (2 ^ 1)))+p2)) - 1)) - (QA .i64 (QB (QA .u64 (QA .i64 (dF+jC))) (2 ^ 1)))))) hy kr kr kr kr) fun y30 h=>dC ?_);refine dO (.ld 164 2 true 163) (fP (m:=idx p0 (QA .i64 ((QA .i64 ((QA .i64 ((QA .i64 (QB (QA .u64 (QA .i64 (p1+p3))) (2 ^ 1)))+p2)) - 1)) - (QA .i64 (QB (QA .u64 (QA .i64 (dF+jC))) (2 ^ 1)))))) (v':=fun y=>(kU y)) h rfl rfl (fun y hy=>qG (off:=0) (n:=244) (sz:=2) (l:=p0) (f:=bD) (g:=bD) (j:=(QA .i64 ((QA .i64 ((QA .i64 ((QA .i64 (QB (QA .u64 (QA .i64 (p1+p3))) (2 ^ 1)))+p2)) - 1)) - (QA .i64 (QB (QA .u64 (QA .i64 (dF+jC))) (2 ^ 1)))))) hy (fun _=>rfl) kr kr kr kr) fun y31 h=>dC ?_);refine dO (.ia 167 2 165 166) (fP (m:=idx p0 (QA .i64 (QB (QA .u64 (QA .i64 (dF+jC))) (2 ^ 1)))) (v':=fun y=>(.trp 244 2 ((QA .i64 (QB (QA .u64 (QA .i64 (dF+jC))) (2 ^ 1)))).toNat 0)) h rfl rfl (fun y hy=>lF (n:=244) (l:=p0) (f:=bD) (k:=.i64) (i:=(QA .i64 (QB (QA .u64 (QA .i64 (dF+jC))) (2 ^ 1)))) hy kr kr kr kr) fun y32 h=>dC ?_);refine dO (.ld 168 2 true 167) (fP (m:=idx p0 (QA .i64 (QB (QA .u64 (QA .i64 (dF+jC))) (2 ^ 1)))) (v':=fun y=>(kU y)) h rfl rfl (fun y hy=>qG (off:=0) (n:=244) (sz:=2) (l:=p0) (f:=bD) (g:=bD) (j:=(QA .i64 (QB (QA .u64 (QA .i64 (dF+jC))) (2 ^ 1)))) hy (fun _=>rfl) kr kr kr kr) fun y33 h=>dC ?_);refine dO (.callv (some 169) 158 [164,168]) (aRa (m:=wP y31 y33 p4.c0) (caps:=[.rp (vJ p4.c0)]) (args:=[kU y31,kU y33,.rp (vJ p4.c0)]) (v':=(fun y=>(vI y))) h kr kr (aPa _ _ _) kr kr (fun _=>rfl) fun y34 h=>dC ?_);refine cd' h ?_ ?_<;>intro h;exact lb' (aIe _ _ _ _ _ _ _ h) (wr [] eS bS);exact lb' (aIe _ _ _ _ _ _ _ h) (wr [] eS bS);refine dL h fun y35 h=>?_;refine cd' h ?_ ?_<;>intro h;refine cg' ⟨[(244,244)],[],[],[],[],[],[],[],[]⟩ h (bSo _ _ _ _ _) fun y36 h=>?_;exact jn' (aQq _ _ _ _ _ _ h) (wr [] eS bS);exact jn' (aQq _ _ _ _ _ _ h) (wr [] eS bS)) (by intro cEc bXt aWr aEp p1 p3 dF p2 rA r h;refine Jok.un (dL h fun y38 h=>?_);refine cd' h ?_ ?_<;>intro h;exact cg' ⟨[(244,244)],[],[],[],[],[],[],[],[]⟩ h (aEp _ _ _ _) fun y39 h=>(jn' (aWr _ _ _ _ _ _ h) (wr [] eS bS));exact jn' (aWr _ _ _ _ _ _ h) (wr [] eS bS))
abbrev aWr:=fun p3 p4=>(aJl p4).1 p3
theorem aEp (p0:List aX) (p1:Int) (p2:Int) (p3:Int) (p4:fH):dJ Tryz.prog 148 [.tre 244,vI p1,vI p2,vI p3,.d (mF p4)] [(244,[.trs 2 (p0.map bD)])] Zk Zl (aFb p0 p1 p2 p3 p4):=fun r h=>(aJl p4).2.1 p0 p1 p2 p3 r h
abbrev aYf:=fun p1 p2 p3 p4=>(aJl p4).2.2.1 p1 p2 p3
abbrev aIe:=fun p1 p2 p3 p4=>(aJl p4).2.2.2.1 p1 p2 p3
abbrev aQq:=fun p1 p3 p4=>(aJl p4).2.2.2.2 p1 p3
abbrev aSf (p1) (p2):=aLg.mutual_partial_correctness p1 p2 (aRk p1 p2) (aVb p1 p2) (aY8 p1 p2) (by intro cCd aXn x6 rZ r h;exact Jok.un (lb' (aXn _ _ _ h) (wr [] eS bS))) (by intro bSy aPo x6 qX r h;refine Lok.un ?_;refine cd' h ?_ ?_<;>intro h;exact lb' (aPo _ _ _ _ _ h) (wr [] eS bS);exact rb' h) (by intro cEz bSy aR6 aPo x6 nV oP qC r h;refine Lok.un ?_;refine cd' h ?_ ?_<;>intro h;exact cg' ⟨[(244,244)],[],[],[],[],[],[],[],[]⟩ h (aEp _ _ _ _ _) fun y7 h=>(lb' (aPo _ _ _ _ _ h) (wr [] eS bS));refine cd' h ?_ ?_<;>intro h;exact cg' ⟨[(244,244)],[],[],[],[],[],[],[],[]⟩ h (aEp _ _ _ _ _) fun y8 h=>(jn' (aR6 _ _ _ h) (wr [] eS bS));exact jn' (aR6 _ _ _ h) (wr [] eS bS))
abbrev aR6:=fun p1 p2=>(aSf p1 p2).1
abbrev aXn:=fun p1 p2=>(aSf p1 p2).2.1
abbrev aPo:=fun p1 p2=>(aSf p1 p2).2.2
abbrev bPk (p1) (p2):=aH1.partial_correctness p1 p2 (aWo p1 p2) (by intro cD0 aY0 x7 x8 bI r h;refine Lok.un ?_;refine cd' h ?_ ?_<;>intro h;exact cg' ⟨[(244,244)],[],[],[],[],[],[],[],[]⟩ h (bCy _ _ _ _) fun y1 h=>(lb' (aY0 _ _ _ _ h) (wr [] eS bS));exact cg' ⟨[(244,244)],[],[],[],[],[],[],[],[]⟩ h (bCy _ _ _ _) fun y2 h=>(lb' (aXn _ _ _ _ _ h) (wr [] eS bS)))
abbrev aY0:=bPk
theorem bYf (p0:List aX) (p1:Int) (p2:fH):dJ Tryz.prog 142 [.tre 244,vI p1,.d (mF p2)] [(244,[.trs 2 (p0.map bD)])] Zk Zl (aOz p0 p1 p2):=by
 refine aoB fun r h=>?_;rw [aOz] at h;exact lb' (aY0 _ _ _ _ _ _ h) (wr [] eS bS)
theorem bSz (p0:List aX) (p1:fH):dJ Tryz.prog 129 [.tre 244,.d (mF p1)] [(244,[.trs 2 (p0.map bD)])] Zk Zl (aHl p0 p1):=by
 refine aoB fun r h=>?_;rw [aHl] at h;refine aO (.len 6 5) (ps (vI (ln p0)) (xZ (n:=244) (l:=p0.map bD) (L:=p0.length) kr kr (QH ..)) (oC ?_));exact cg' ⟨[(244,244)],[],[],[],[],[],[],[],[]⟩ h (bYf _ _ _) fun y1 h=>(rb' h)
abbrev bQ2 (y2):=aB0.partial_correctness y2 (aSk y2) (by intro cCl aRe x14 x60 r h;refine Lok.un ?_;refine cd' h ?_ ?_<;>intro h;refine aO (.ia 62 2 58 60) (vs (fun (y:aX)=>(.trp 437 2 (x60).toNat 0)) h (fun y hy=>lF (n:=437) (l:=y2) (f:=bD) (k:=.i64) (i:=x60) hy kr kr kr kr) fun y7 h=>oC ?_);refine aO (.ld 63 2 true 62) (vs (fun (y:aX)=>(kU y)) h (fun y hy=>qG (off:=0) (n:=437) (sz:=2) (l:=y2) (f:=bD) (g:=bD) (j:=x60) hy (fun _=>rfl) kr kr kr kr) fun y8 h=>oC ?_);refine aO (.bsl 67 43 1 [66]) (bN (l:=([y8.row]:List (List aA))) (f:=(cSl 3 aL)) (g:=(cSl 3 aL)) kr (fun _=>rfl) kr (oC ?_));exact aq' 14 (cSl 3 aL) h fun y9 h=>(lb' (aRe _ _ _ h) (wr [(14,.old 14)] (eo 14 eS) bS));exact rw' (s':=⟨[(4,.osl 242 43 1 (x14.map (cSl 3 aL))),(5,vI 0)],[]⟩) (wr [(242,.old 4)] (eo 4 eS) bL) (rb' h))
abbrev aRe:=bQ2
theorem bX4 (p0:aA):FOk Tryz.prog 125 [bV p0] (fun y=>(vB y)) (aE9 p0):=by
 refine aoP fun r h=>?_;rw [aE9] at h;refine cs' h (aMg _) fun y1 h=>?_;refine aO (.g 5 true (.pick 13 9 (kB true) 12)) (gv true y1 ZX h (fun y hy hc=>nS hy (p:=true) (q:=((true&&(y1==true))&&((!decide (p0.kind=1))==false))) (Eq.trans (b:=([true&&(y1==true)]:List Bool).all id) kr (fC hc rfl)) kr kr kr (fun _=>rfl) (fun hb=>aDf hc hb)) fun y2 h=>oC ?_);exact dL h fun y3 h=>(dL h fun y4 h=>(rp' h))
theorem bCf (p0:List UInt8):FOk Tryz.prog 126 [vS p0] (fun y=>(vB y)) (xQ p0):=by
 refine aoP fun r h=>?_;rw [xQ] at h;exact dL h fun y1 h=>(rp' h)
theorem bLt (p0:eT):FOk Tryz.prog 104 [bHu p0] (fun y=>(.tup [aSx y.1,vB y.2])) (L6 p0):=by
 refine aoP fun r h=>?_;rw [L6] at h;refine cd' h ?_ ?_<;>intro h;exact cs' h (bX4 _) fun y1 h=>(rp' h);refine cd' h ?_ ?_<;>intro h;refine cs' h (bCf _) fun y2 h=>(gc' h (bCf _) fun y3 h=>?_);refine aO (.g 18 true (.pick 26 22 (kB true) 25)) (gv true y2 ZX h (fun y hy hc=>nS hy (p:=true) (q:=((true&&(y2==true))&&((decide (p0.qual=[]))==false))) (Eq.trans (b:=([true&&(y2==true)]:List Bool).all id) kr (fC hc rfl)) kr kr kr (fun _=>rfl) (fun hb=>aDf hc hb)) fun y4 h=>oC ?_);exact dL h fun y5 h=>(rp' h);refine cd' h ?_ ?_<;>intro h;exact eF h fun y6 h=>(rp' h);refine cd' h ?_ ?_<;>intro h;exact dL h fun y7 h=>(rp' h);refine cd' h ?_ ?_<;>intro h;exact rp' h;refine cd' h ?_ ?_<;>intro h;exact rp' h;refine cd' h ?_ ?_<;>intro h;exact rp' h;refine cd' h ?_ ?_<;>intro h;exact rp' h;refine cd' h ?_ ?_<;>intro h;exact rp' h;exact rp' h
theorem bDu (p0 Y8 r) (h:aJw p0 Y8=some r):bXx p0 Y8 r:=by
 rw [aJw] at h;exact Jok.un (cs' h (bLt _) fun y1 h=>(rp' h))
theorem bNr (p0:Int):FOk Tryz.prog 58 [vI p0] (fun y=>(.tup [aSx y.1,vB y.2])) (aN0 p0):=by
 refine aoP fun r h=>?_;rw [aN0] at h;refine aO (.bld 6 [aY,aY,iA,aY,aY,jG,jG,jG,.nil 10,.nil 6] [(0,1,5),(1,1,kI 15),(7,1,.c (.d (.s (bs [120]))))]) (kJ (c:=[vI p0,vI 15,vB false,vI 0,vI 0,vS [],vS [],vS [120],.nil 10,.nil 6]) kr kr rfl (oC ?_));refine cd' h ?_ ?_<;>intro h;exact jn' (bDu _ _ _ h) (wr [] eS bS);exact jn' (bDu _ _ _ h) (wr [] eS bS)
theorem bPh (p0:Int) (p1:Int) (p2:Int):FOk Tryz.prog 22 [vI p0,vI p1,vI p2] (fun y=>(vB y)) (aLd p0 p1 p2):=by
 refine aoP fun r h=>?_;rw [aLd] at h;exact cs' h (bNr _) fun y1 h=>(dL h fun y2 h=>(dL h fun y3 h=>(dL h fun y4 h=>(rp' h))))
abbrev lQ:=aC5.mutual_partial_correctness aQu aQn (fun p0 p1 p2 p3 p4 r=>bU Tryz.prog 60 [fM p0,.rp (tQ p1),.rp (tC p2),.rp [.sl 1 (p3.map (cSl 3 aL))],.rp (gK p4)] [] (PQ (fun y=>(.tup [bV y.1,vI y.2])) r)) (fun p0 p1 p2 p3 r=>bU Tryz.prog 6 [eG p0,jY p1,.d (.sl 1 (p2.map (cSl 3 aL))),lX p3] [] (PQ (fun y=>(.tup [bV y.1,vI y.2])) r)) aQj aZh (fun p0 p1 p2 p3 r=>bU Tryz.prog 23 [eG p0,jY p1,.d (.sl 1 (p2.map (cSl 3 aL))),pE p3] [] (PQ (fun y=>(.tup [.d (.sl 1 (y.1.map (cSl 3 aL))),vI y.2])) r)) aSy aRo aXy (fun p0 r=>bU Tryz.prog 63 [A9 p0] [] (PQ (fun y=>(.tup [.d (.sl 1 (y.1.map (cSl 3 aL))),vI y.2])) r)) aUr (fun p0 p1 r=>bU Tryz.prog 61 [fM p0,.rp [.sl 1 (p1.map iY)]] [] (BQ Zi Zj r)) (fun p0 p1 r=>bU Tryz.prog 62 [zO p0,fM p1] [] (BQ Zi Zj r)) aR9 (fun p0 p1 r=>bU Tryz.prog 106 [A9 p0,.d (.sl 1 (p1.map (cSl 3 aL)))] [] (BQ Ze Zf r)) (fun p0 r=>bU Tryz.prog 105 [A9 p0] [] (PQ (fun y=>(.tup [.d (.sl 1 (y.1.map (cSl 3 aL))),vI y.2])) r)) aRr (fun p0 p1 r=>bU Tryz.prog 128 [.d (.sl 1 (p0.map (cSl 3 aL))),zO p1] [] (PQ (fun y=>(.tup [.d (.sl 1 (y.1.map (cSl 3 aL))),vI y.2])) r)) aT9 aQy aSc aQk aVj (by intro bL2 bYz aJ9 aNf aPm aEw y1 p1 x20 p0 iV x9 x28 r h;refine Lok.un ?_;refine cd' h ?_ ?_<;>intro h;refine iq' h fun y3 h=>?_;refine aO (.callv (some 36) 34 [35]) (aTe (m:=aJ9 y1 y3.eval.c0 y3.eval.c1 y3.eval.c2 y3.eval.c3) (caps:=[.rp (tQ y3.eval.c0),.rp (tC y3.eval.c1),.rp [.sl 1 (y3.eval.c2.map (cSl 3 aL))],.rp (gK y3.eval.c3)]) (args:=[fM y1,.rp (tQ y3.eval.c0),.rp (tC y3.eval.c1),.rp [.sl 1 (y3.eval.c2.map (cSl 3 aL))],.rp (gK y3.eval.c3)]) (v':=(fun y=>(.tup [bV y.1,vI y.2]))) h kr kr (aEw _ _ _ _ _) kr kr (fun _=>rfl) fun y4 h=>oC ?_);refine cd' h ?_ ?_<;>intro h;exact rw' (s':=⟨[(4,.osl 242 43 1 (([]:List (List aA)).map (cSl 3 aL))),(5,vI y4.2)],[]⟩) (wr [(242,.new 43 1)] (en eS) bL) (rb' h);refine aO (.bsl 44 32 3 [43]) (bN (l:=([y4.1]:List aA)) (f:=aL) (g:=aL) kr (fun _=>rfl) kr (oC ?_));refine aq' 9 aL h fun y5 h=>?_;exact lb' (aNf _ _ _ _ _ _ _ _ h) (wr [(9,.old 9)] (es (es (es (eo 9 eS)))) bS);refine aO (.bsl 51 170 2 [50]) (bN (l:=([aX.mk y1 x9]:List aX)) (f:=bD) (g:=bD) kr (fun _=>rfl) kr (oC ?_));refine aO (.app 52 170 2 48 47 51) (bB3 (l:=iV) (m:=([aX.mk y1 x9]:List aX)) (f:=bD) [411] h kr kr kr kr (fun _=>rfl) fun y6 h=>oC ?_);exact lb' (aPm _ _ _ _ _ h) (tw [.rn [(52,399)]] (wr [] eS bS))) (by intro bL2 aNf p1 p0 x20 iV r h;refine Lok.un ?_;refine cd' h ?_ ?_<;>intro h;refine iq' h fun y1 h=>?_;refine aO (.bsl 24 32 3 []) (bN (l:=([]:List aA)) (f:=aL) (g:=aL) kr (fun _=>rfl) kr (oC ?_));refine lq' p0.order ?_;exact lb' (aNf _ _ _ _ _ _ _ _ h) (tw [.rn [(399,411)]] (wr [(9,.old 9)] (es (es (es (eo 9 eS)))) bS));refine tw' 0 [.fzb 2] (cg' ⟨[(244,399)],[],[],[],[],[],[],[],[]⟩ h (bSz _ _) fun y2 h=>?_);refine aO (.bsl 57 43 1 []) (bN (l:=([]:List (List aA))) (f:=(cSl 3 aL)) (g:=(cSl 3 aL)) kr (fun _=>rfl) kr (oC ?_));refine aO (.len 59 58) (ps (vI (ln y2)) (xZ (n:=399) (l:=y2.map bD) (L:=y2.length) kr kr (QH ..)) (oC ?_));exact lb' (aRe _ _ _ _ h) (tw [.rn [(399,437)]] (wr [(14,.old 14)] (eo 14 eS) bS))) (by intro bY4 aDc p0 p1 p2 p3 p4 r h;refine ao' ?_;refine dO (.bsl 11 43 1 [10]) (vR (l:=([p0]:List (List aA))) (f:=(cSl 3 aL)) (g:=(cSl 3 aL)) kr (fun _=>rfl) (dC ?_));exact vG 11 [11] [] (cSl 3 aL) h fun y1 h=>(cs' h (aDc _ _ _ _) fun y2 h=>(rp' h))) (by intro bO4 aQ9 p0 p1 p2 p3 r h;refine ao' (lq' p3.kids (lq' p3.sub (cs' h (bPh _ _ _) fun y1 h=>?_)));refine cd' h ?_ ?_<;>intro h;exact rp' h;refine cd' h ?_ ?_<;>intro h;refine dO (.g 36 false (.len 40 39)) (aK0 (p:=true) (b:=(decide (p3.up<0))) (v':=(vI (ln p2))) kr rfl rfl (fun hc=>aFq (sz:=1) (l:=p2) (f:=(cSl 3 aL)) (Eq.trans (b:=([true&&((decide (p3.up<0))==false)]:List Bool).all id) kr (fC hc rfl)) kr) (dC ?_));refine eF h fun y2 h=>(eF h fun y3 h=>?_);refine dO (.g 48 false (.ia 54 1 51 53)) (zF (p:=true) (b:=y3) (m:=idx p2 p3.up) (dflt:=default) (v':=fun y=>(.rp [.sl 3 (y.map aL)])) h kr rfl rfl (fun y hy hc=>aCj (l:=p2) (f:=(cSl 3 aL)) (g:=(cSl 3 aL)) (k:=.i64) hy (fun _=>rfl) (Eq.trans (b:=([true&&(y3==false),true&&(y3==false)]:List Bool).all id) kr (fC hc (fC hc rfl))) kr kr) fun y4 h=>dC ?_);refine dO (.g 48 false (.len 56 55)) (aK0 (p:=true) (b:=y3) (v':=(vI (ln y4))) kr rfl rfl (fun hc=>aFq (sz:=3) (l:=y4) (f:=aL) (Eq.trans (b:=([true&&(y3==false)]:List Bool).all id) kr (fC hc rfl)) kr) (dC ?_));refine eF h fun y5 h=>?_;refine cd' h ?_ ?_<;>intro h;exact rp' h;exact iq' h fun y6 h=>(iq' h fun y7 h=>(rp' h));refine aO (.bld 77 [aY,aY,iA,aY,aY,jG,.nil 3,.nil 1] [(0,1,70),(1,1,72),(2,1,74),(3,3,76)]) (kJ (c:=[vI p3.kind,vI p3.op,vB p3.not_,vI p3.value.kind,vI p3.value.num,vS p3.value.text,.nil 3,.nil 1]) kr kr rfl (oC ?_));refine lq' p3.kids ?_;exact lb' (aQ9 _ _ _ _ _ _ _ h) (wr [(101,.new 32 3)] eS (bs_ (bs_ (bs_ (bs_ (kM (c0:=[vI p3.kind,vI p3.op,vB p3.not_,vI p3.value.kind,vI p3.value.num,vS p3.value.text,.nil 3,.nil 1]) kr (bO (dX kr kr) (bO (dX kr kr) (bO (dX kr kr) (bO (dX kr kr) (bO (dX kr kr) (bO (dX kr kr) (bO (aB3 kr kr) (bO (dX kr kr) kN)))))))) bL))))))) (by intro bY4 bO4 bU2 aDc aQ9 aPp p2 p3 p0 p1 x81 iE r h;refine Lok.un ?_;refine cd' h ?_ ?_<;>intro h;refine iq' h fun y8 h=>(cs' h (aDc _ _ _ _) fun y9 h=>?_);refine cd' h ?_ ?_<;>intro h;exact rp' h;refine aO (.bsl 100 32 3 [99]) (bN (l:=([y9.1]:List aA)) (f:=aL) (g:=aL) kr (fun _=>rfl) kr (oC ?_));refine aq' 101 aL h fun y10 h=>?_;exact lb' (aQ9 _ _ _ _ _ _ _ h) (wr [(101,.old 101)] eS (bs_ (bs_ (bs_ (bs_ (kM (c0:=[vI p3.kind,vI p3.op,vB p3.not_,vI p3.value.kind,vI p3.value.num,vS p3.value.text,.osl 101 32 3 (y10.map aL),.nil 1]) kr (bO (dX kr kr) (bO (dX kr kr) (bO (dX kr kr) (bO (dX kr kr) (bO (dX kr kr) (bO (dX kr kr) (bO (jQ (t:=101) kr kr) (bO (dX kr kr) kN)))))))) bL))))));refine lq' p3.sub ?_;exact lb' (aPp _ _ _ _ _ _ _ _ h) (wr [(101,.old 101)] eS (bs_ (bs_ (bs_ (kM (c0:=[vI p3.kind,vI p3.op,vB p3.not_,vI p3.value.kind,vI p3.value.num,vS p3.value.text,.osl 101 32 3 (iE.map aL),.nil 1]) kr (bO (dX kr kr) (bO (dX kr kr) (bO (dX kr kr) (bO (dX kr kr) (bO (dX kr kr) (bO (dX kr kr) (bO (jQ (t:=101) kr kr) (bO (bCl kr kr) kN)))))))) bL)))))) (by intro bU2 cEm aPp bGs p2 p3 p0 p1 iE qD rU r h;refine Lok.un ?_;refine cd' h ?_ ?_<;>intro h;refine iq' h fun y11 h=>(cs' h (bGs _ _ _ _) fun y12 h=>?_);refine cd' h ?_ ?_<;>intro h;exact rp' h;exact lb' (aPp _ _ _ _ _ _ _ _ h) (wr [(101,.old 101)] eS (bs_ (bs_ (bs_ (kM (c0:=[vI p3.kind,vI p3.op,vB p3.not_,vI p3.value.kind,vI p3.value.num,vS p3.value.text,.osl 101 32 3 (iE.map aL),.d (.sl 1 (y12.1.map (cSl 3 aL)))]) kr (bO (dX kr kr) (bO (dX kr kr) (bO (dX kr kr) (bO (dX kr kr) (bO (dX kr kr) (bO (dX kr kr) (bO (jQ (t:=101) kr kr) (bO (dX kr kr) kN)))))))) bL)))));exact cs' h (cBl _) fun y13 h=>(rp' h)) (by intro bQf aPq p0 p1 p2 p3 r h;refine ao' (lY cI p3.tables (wL p3.on_ (aHk cI p3.tables (eF h fun y1 h=>?_))));refine cd' h ?_ ?_<;>intro h;exact rw' (s':=⟨[(8,.d (.sl 1 (([]:List (List aA)).map (cSl 3 aL)))),(9,vI 4)],[]⟩) (wr [] (ew eS) bL) (rp' h);refine aO (.bld 36 [.nil 1,.nil 1,.nil 1,.nil 2,.nf,iA,aY] [(5,1,33),(6,1,35)]) (kJ (c:=[.nil 1,.nil 1,.nil 1,.nil 2,.nf,vB p3.distinct,vI p3.limit]) kr kr rfl (oC ?_));refine lY cI p3.tables ?_;exact lb' (aPq _ _ _ _ _ _ _ h) (wr [(62,.new 30 1)] eS (bs_ (bs_ (bs_ (bs_ (kM (c0:=[.nil 1,.nil 1,.nil 1,.nil 2,.nf,vB p3.distinct,vI p3.limit]) kr (bO (aB3 kr kr) (bO (dX kr kr) (bO (dX kr kr) (bO (dX kr kr) (bO (dX kr kr) (bO (dX kr kr) (bO (dX kr kr) kN))))))) bL))))))) (by intro bQf bQ6 aPq aNo p3 p0 p1 p2 x40 eQ r h;refine Lok.un ?_;refine cd' h ?_ ?_<;>intro h;refine kR cI h fun y2 h=>(wL p1.tables (eF h fun y3 h=>?_));refine cd' h ?_ ?_<;>intro h;exact rw' (s':=⟨[(8,.d (.sl 1 (([]:List (List aA)).map (cSl 3 aL)))),(9,vI 4)],[]⟩) (wr [] (ew eS) bL) (rp' h);refine iq' h fun y4 h=>?_;refine dO (.bsl 61 30 1 [60]) (vR (l:=([y4.rows]:List (List (List aA)))) (f:=(cSl 1 (cSl 3 aL))) (g:=(cSl 1 (cSl 3 aL))) kr (fun _=>rfl) (dC ?_));refine vG 62 [54] [10] (cSl 1 (cSl 3 aL)) h fun y5 h=>?_;exact lb' (aPq _ _ _ _ _ _ _ h) (wr [(62,.old 62)] eS (bs_ (bs_ (bs_ (bs_ (kM (c0:=[.osl 62 30 1 (y5.map (cSl 1 (cSl 3 aL))),.nil 1,.nil 1,.nil 2,.nf,vB p3.distinct,vI p3.limit]) kr (bO (jQ (t:=62) kr kr) (bO (dX kr kr) (bO (dX kr kr) (bO (dX kr kr) (bO (dX kr kr) (bO (dX kr kr) (bO (dX kr kr) kN))))))) bL))))));refine tw' 0 [.fzb 4,.fzb 5,.fzb 6] (lq' p3.on_ ?_);exact lb' (aNo _ _ _ _ _ _ _ _ h) (wr [(62,.old 62),(79,.new 113 1)] eS (bs_ (kM (c0:=[.osl 62 30 1 (eQ.map (cSl 1 (cSl 3 aL))),.nil 1,.nil 1,.nil 2,.nf,vB p3.distinct,vI p3.limit]) kr (bO (jQ (t:=62) kr kr) (bO (aB3 kr kr) (bO (dX kr kr) (bO (dX kr kr) (bO (dX kr kr) (bO (dX kr kr) (bO (dX kr kr) kN))))))) bL)))) (by intro bQ6 cBu aNo aM3 p0 p1 p2 p3 eQ x69 iI r h;refine Lok.un ?_;refine cd' h ?_ ?_<;>intro h;refine iq' h fun y6 h=>(eZ ⟨[],[],[],[],[],[(242,77)],[],[77],[]⟩ [] [] h (aLz _ _ _ _) fun y7 h=>?_);refine dO (.bsl 78 113 1 [77]) (vR (l:=([y7]:List (List bZ))) (f:=(cSl 1 iY)) (g:=(cSl 1 iY)) kr (fun _=>rfl) (dC ?_));refine vG 79 [74] [10] (cSl 1 iY) h fun y8 h=>?_;exact lb' (aNo _ _ _ _ _ _ _ _ h) (wr [(62,.old 62),(79,.old 79)] eS (bs_ (kM (c0:=[.osl 62 30 1 (eQ.map (cSl 1 (cSl 3 aL))),.osl 79 113 1 (y8.map (cSl 1 iY)),.nil 1,.nil 2,.nf,vB p3.distinct,vI p3.limit]) kr (bO (jQ (t:=62) kr kr) (bO (jQ (t:=79) kr kr) (bO (dX kr kr) (bO (dX kr kr) (bO (dX kr kr) (bO (dX kr kr) (bO (dX kr kr) kN))))))) bL)));refine cg' ⟨[],[],[],[],[],[(242,85)],[],[85],[]⟩ h (aLz _ _ _ _) fun y9 h=>(lq' p3.order ?_);exact lb' (aM3 _ _ _ _ _ _ (_,_,_) _ h) (wr [(62,.old 62),(79,.old 79),(85,.old 85),(107,.new 124 2)] eS (bs_ (kM (c0:=[.osl 62 30 1 (eQ.map (cSl 1 (cSl 3 aL))),.osl 79 113 1 (iI.map (cSl 1 iY)),.osl 85 122 1 (y9.map iY),.nil 2,.nf,vB p3.distinct,vI p3.limit]) kr (bO (jQ (t:=62) kr kr) (bO (jQ (t:=79) kr kr) (bO (jQ (t:=85) kr kr) (bO (aB3 kr kr) (bO (dX kr kr) (bO (dX kr kr) (bO (dX kr kr) kN))))))) bL)))) (by intro cBu cCh aM3 bAi p0 p1 p2 p3 eQ iI ky9 r h;refine Lok.un ?_;refine cd' h ?_ ?_<;>intro h;refine iq' h fun y10 h=>?_;refine dO (.bsl 99 36 10 [98]) (vR (l:=([y10.expr]:List aB)) (f:=aP) (g:=gK) kr jO (dC ?_));refine eZ ⟨[],[],[],[],[],[(242,100)],[],[100],[]⟩ [] [] h (aLz _ _ _ _) fun y11 h=>(kR iY h fun y12 h=>?_);refine dO (.bsl 106 124 2 [105]) (vR (l:=([nL.mk y12 y10.desc]:List nL)) (f:=wE) (g:=wE) kr (fun _=>rfl) (dC ?_));refine vG 107 [95] [10] wE h fun y13 h=>?_;exact lb' (aM3 _ _ _ _ _ _ (_,_,_) _ h) (wr [(62,.old 62),(79,.old 79),(85,.old 85),(107,.old 107)] eS (bs_ (kM (c0:=[.osl 62 30 1 (eQ.map (cSl 1 (cSl 3 aL))),.osl 79 113 1 (iI.map (cSl 1 iY)),.osl 85 122 1 (ky9.1.map iY),.osl 107 124 2 (y13.map wE),.nf,vB p3.distinct,vI p3.limit]) kr (bO (jQ (t:=62) kr kr) (bO (jQ (t:=79) kr kr) (bO (jQ (t:=85) kr kr) (bO (jQ (t:=107) kr kr) (bO (dX kr kr) (bO (dX kr kr) (bO (dX kr kr) kN))))))) bL)));exact cg' ⟨[],[],[],[],[],[(242,113)],[],[113],[]⟩ h (aLz _ _ _ _) fun y14 h=>(tw' 0 [.fzb 18] (cs' h (bAi _) fun y15 h=>(rp' h)))) (by intro bRg cFf cCm aPs bA2 bHc p0 r h;refine ao' (cs' h (bHc _) fun y1 h=>?_);refine cd' h ?_ ?_<;>intro h;exact rw' (s':=⟨[(2,.d (.sl 1 (([]:List (List aA)).map (cSl 3 aL)))),(3,vI y1.2)],[]⟩) (wr [] (ew eS) bL) (rp' h);refine cg' ⟨[],[],[],[],[],[(242,257)],[],[257],[]⟩ h (bA2 _ _) fun y2 h=>?_;refine cd' h ?_ ?_<;>intro h;exact rw' (s':=⟨[(2,.d (.sl 1 (([]:List (List aA)).map (cSl 3 aL)))),(3,vI y2.2)],[]⟩) (wr [] (ew eS) bL) (rp' h);refine aO (.bsl 28 43 1 []) (bN (l:=([]:List (List aA))) (f:=(cSl 3 aL)) (g:=(cSl 3 aL)) kr (fun _=>rfl) kr (oC ?_));exact lq' y2.1 (lb' (aPs _ _ _ _ _ h) (wr [(6,.old 6),(4,.old 4)] (es (eo 6 (eo 4 eS))) bS))) (by intro bRg cCu aPs bAs y2 p0 x6 x31 r h;refine Lok.un ?_;refine cd' h ?_ ?_<;>intro h;refine iq' h fun y3 h=>(cg' ⟨[],[],[],[],[],[(242,260)],[],[260],[]⟩ h (bAs _ _) fun y4 h=>?_);refine cd' h ?_ ?_<;>intro h;exact rw' (s':=⟨[(2,.d (.sl 1 (([]:List (List aA)).map (cSl 3 aL)))),(3,vI y4.2)],[]⟩) (wr [] (ew eS) bL) (rp' h);refine aO (.bsl 47 43 1 [46]) (bN (l:=([y4.1]:List (List aA))) (f:=(cSl 3 aL)) (g:=(cSl 3 aL)) kr (fun _=>rfl) kr (oC ?_));exact aq' 6 (cSl 3 aL) h fun y5 h=>(lb' (aPs _ _ _ _ _ h) (wr [(6,.old 6),(4,.old 4)] (es (eo 6 (eo 4 eS))) bS));refine cd' h ?_ ?_<;>intro h;exact cg' ⟨[],[],[],[],[],[(242,53)],[],[53],[]⟩ h (bJm _) fun y6 h=>(jn' (bDv _ _ _ h) (wr [(6,.old 6)] (es (eo 6 jZ)) bS));exact jn' (bDv _ _ _ h) (wr [(6,.old 6)] (es (eo 6 jZ)) bS)) (by intro cEl bFl p0 p1 r h;exact ao' (cg' ⟨[],[],[],[],[],[(242,255)],[],[255],[]⟩ h (bFl _ _) fun y1 h=>(rw' (s':=⟨[(3,.osl 242 32 3 (y1.1.map aL)),(4,vI y1.2)],[]⟩) (wr [(242,.old 3)] (eo 3 eS) bL) (rb' h)))) (by intro bOf aPx p0 p1 r h;refine ao' ?_;refine aO (.bsl 11 32 3 []) (bN (l:=([]:List aA)) (f:=aL) (g:=aL) kr (fun _=>rfl) kr (oC ?_));exact lY iY p0 (lb' (aPx _ _ _ _ _ h) (wr [(6,.old 6)] (es (eo 6 eS)) bL))) (by intro aJ9 bOf aEw aPx p1 p0 x6 x14 r h;refine Lok.un ?_;refine cd' h ?_ ?_<;>intro h;refine kR iY h fun y1 h=>?_;refine aO (.callv (some 21) 19 [20]) (aTe (m:=aJ9 p1 y1.c0 y1.c1 y1.c2 y1.c3) (caps:=[.rp (tQ y1.c0),.rp (tC y1.c1),.rp [.sl 1 (y1.c2.map (cSl 3 aL))],.rp (gK y1.c3)]) (args:=[fM p1,.rp (tQ y1.c0),.rp (tC y1.c1),.rp [.sl 1 (y1.c2.map (cSl 3 aL))],.rp (gK y1.c3)]) (v':=(fun y=>(.tup [bV y.1,vI y.2]))) h kr kr (aEw _ _ _ _ _) kr kr (fun _=>rfl) fun y2 h=>oC ?_);refine cd' h ?_ ?_<;>intro h;exact rw' (s':=⟨[(4,.osl 242 32 3 (([]:List aA).map aL)),(5,vI y2.2)],[]⟩) (wr [(242,.new 32 3)] (en eS) bL) (rb' h);refine aO (.bsl 29 32 3 [28]) (bN (l:=([y2.1]:List aA)) (f:=aL) (g:=aL) kr (fun _=>rfl) kr (oC ?_));exact aq' 6 aL h fun y3 h=>(lb' (aPx _ _ _ _ _ h) (wr [(6,.old 6)] (es (eo 6 eS)) bL));exact rw' (s':=⟨[(4,.osl 242 32 3 (x6.map aL)),(5,vI 0)],[]⟩) (wr [(242,.old 4)] (eo 4 eS) bL) (rb' h)) (by intro bYz aPm p0 p1 r h;refine ao' ?_;refine aO (.bsl 17 170 2 []) (bLs (l:=([]:List aX)) (f:=bD) (g:=bD) kr (fun _=>rfl) kr rfl (oC ?_));exact lq' p1 (lb' (aPm _ _ _ _ _ h) (tw [.rn [(17,399)]] (wr [] eS bS)))) (by intro cAt aPw p0 r h;refine ao' ?_;refine aO (.bsl 14 32 3 []) (bN (l:=([]:List aA)) (f:=aL) (g:=aL) kr (fun _=>rfl) kr (oC ?_));refine aO (.bsl 15 43 1 [14]) (bN (l:=([([]:List aA)]:List (List aA))) (f:=(cSl 3 aL)) (g:=(cSl 3 aL)) kr (fun _=>rfl) kr (oC ?_));exact lq' p0.tables (lb' (aPw _ _ _ _ h) (wr [] (es (ew eS)) bS))) (by intro bIx bW8 aMs aNe p0 x4 x19 r h;refine Lok.un ?_;refine cd' h ?_ ?_<;>intro h;refine iq' h fun y1 h=>?_;refine aO (.bsl 24 43 1 []) (bN (l:=([]:List (List aA))) (f:=(cSl 3 aL)) (g:=(cSl 3 aL)) kr (fun _=>rfl) kr (oC ?_));refine lq' x4 ?_;exact lb' (aNe _ _ _ _ _ _ _ h) (wr [(7,.old 7)] (es (es (es (eo 7 eS)))) bS);exact cs' h (aMs _ _) fun y2 h=>(rp' h)) (by intro bRy aOg p0 p1 r h;exact ao' (lY iY p1 (lb' (aOg _ _ _ _ h) (wr [] eS bL)))) (by intro bV5 aPi p1 x0 x15 r h;refine Lok.un ?_;refine cd' h ?_ ?_<;>intro h;refine kR iY h fun y1 h=>?_;refine aO (.bsl 19 43 1 []) (bN (l:=([]:List (List aA))) (f:=(cSl 3 aL)) (g:=(cSl 3 aL)) kr (fun _=>rfl) kr (oC ?_));exact lq' x0 (lb' (aPi _ _ _ _ _ _ _ h) (wr [(8,.old 8)] (es (eo 8 eS)) bL));exact rp' h) (by intro aJ9 bRy cCj aEw aOg aUd y1 p1 x15 x0 x8 x22 r h;refine Lok.un ?_;refine cd' h ?_ ?_<;>intro h;refine iq' h fun y2 h=>?_;refine aO (.callv (some 29) 27 [28]) (aTe (m:=aJ9 y2 y1.c0 y1.c1 y1.c2 y1.c3) (caps:=[.rp (tQ y1.c0),.rp (tC y1.c1),.rp [.sl 1 (y1.c2.map (cSl 3 aL))],.rp (gK y1.c3)]) (args:=[fM y2,.rp (tQ y1.c0),.rp (tC y1.c1),.rp [.sl 1 (y1.c2.map (cSl 3 aL))],.rp (gK y1.c3)]) (v':=(fun y=>(.tup [bV y.1,vI y.2]))) h kr kr (aEw _ _ _ _ _) kr kr (fun _=>rfl) fun y3 h=>oC ?_);refine cd' h ?_ ?_<;>intro h;exact rw' (s':=⟨[(4,.d (.sl 1 (([]:List (List aA)).map (cSl 3 aL)))),(5,vI y3.2)],[]⟩) (wr [] (ew eS) bL) (rp' h);refine cs' h (bK9 _) fun y4 h=>?_;refine cd' h ?_ ?_<;>intro h;refine aO (.bsl 39 43 1 [38]) (bN (l:=([y2]:List (List aA))) (f:=(cSl 3 aL)) (g:=(cSl 3 aL)) kr (fun _=>rfl) kr (oC ?_));exact aq' 8 (cSl 3 aL) h fun y5 h=>(jn' (aUd _ _ _ _ _ _ _ h) (wr [(8,.old 8)] (es (eo 8 eS)) bL));exact jn' (aUd _ _ _ _ _ _ _ h) (wr [(8,.old 8)] (es (eo 8 eS)) bL);exact lb' (aOg _ _ _ _ h) (wr [] (ew eS) bL)) (by intro bV5 aPi y1 p1 x15 x0 x22 rV r h;exact Jok.un (lb' (aPi _ _ _ _ _ _ _ h) (wr [(8,.old 8)] (es (eo 8 eS)) bL))) (by intro cAt bIx bLo aPw aMs aQ5 x19 y1 p0 x4 x7 x27 r h;refine Lok.un ?_;refine cd' h ?_ ?_<;>intro h;refine iq' h fun y3 h=>(lq' y1 ?_);exact lb' (aQ5 _ _ _ _ _ _ (_,_) _ h) (wr [(7,.old 7)] (es (es (es (eo 7 eS)))) bS);refine kR (cSl 1 iY) h fun y5 h=>(cs' h (aMs _ _) fun y6 h=>?_);refine cd' h ?_ ?_<;>intro h;exact rw' (s':=⟨[(2,.d (.sl 1 (([]:List (List aA)).map (cSl 3 aL)))),(3,vI y6.2)],[]⟩) (wr [] (ew eS) bL) (rp' h);exact lb' (aPw _ _ _ _ h) (wr [] eS bS)) (by intro bW8 bLo aNe aQ5 x19 y1 y3 p0 x4 x27 mW r h;refine Lok.un ?_;refine cd' h ?_ ?_<;>intro h;refine iq' h fun y7 h=>?_;refine aO (.bsl 40 43 1 [38,39]) (bN (l:=([y3,y7]:List (List aA))) (f:=(cSl 3 aL)) (g:=(cSl 3 aL)) kr (fun _=>rfl) kr (oC ?_));refine cg' ⟨[],[],[],[],[],[(242,41)],[],[41],[]⟩ h (bXj _) fun y8 h=>?_;refine aO (.bsl 42 43 1 [41]) (bN (l:=([y8]:List (List aA))) (f:=(cSl 3 aL)) (g:=(cSl 3 aL)) kr (fun _=>rfl) kr (oC ?_));refine aq' 7 (cSl 3 aL) h fun y9 h=>?_;exact lb' (aQ5 _ _ _ _ _ _ (_,_) _ h) (wr [(7,.old 7)] (es (es (es (eo 7 eS)))) bS);exact lb' (aNe _ _ _ _ _ _ _ h) (wr [(7,.old 7)] (es (es (es (eo 7 eS)))) bS))
abbrev aNf:=lQ.1
abbrev aPm:=lQ.2.1
theorem aEw (p0:List aA) (p1:aR) (p2:GDb) (p3:List (List aA)) (p4:aB):FOk Tryz.prog 60 [fM p0,.rp (tQ p1),.rp (tC p2),.rp [.sl 1 (p3.map (cSl 3 aL))],.rp (gK p4)] (fun y=>(.tup [bV y.1,vI y.2])) (oZ p0 p1 p2 p3 p4):=fun r h=>(lQ).2.2.1 p0 p1 p2 p3 p4 r h
theorem aDc (p0:aR) (p1:GDb) (p2:List (List aA)) (p3:aB):FOk Tryz.prog 6 [eG p0,jY p1,.d (.sl 1 (p2.map (cSl 3 aL))),lX p3] (fun y=>(.tup [bV y.1,vI y.2])) (rO p0 p1 p2 p3):=fun r h=>(lQ).2.2.2.1 p0 p1 p2 p3 r h
abbrev aQ9:=lQ.2.2.2.2.1
abbrev aPp:=lQ.2.2.2.2.2.1
theorem bGs (p0:aR) (p1:GDb) (p2:List (List aA)) (p3:aQ):FOk Tryz.prog 23 [eG p0,jY p1,.d (.sl 1 (p2.map (cSl 3 aL))),pE p3] (fun y=>(.tup [.d (.sl 1 (y.1.map (cSl 3 aL))),vI y.2])) (O7 p0 p1 p2 p3):=fun r h=>(lQ).2.2.2.2.2.2.1 p0 p1 p2 p3 r h
abbrev aPq:=lQ.2.2.2.2.2.2.2.1
abbrev aNo:=lQ.2.2.2.2.2.2.2.2.1
abbrev aM3:=lQ.2.2.2.2.2.2.2.2.2.1
theorem bAi (p0:eX):FOk Tryz.prog 63 [A9 p0] (fun y=>(.tup [.d (.sl 1 (y.1.map (cSl 3 aL))),vI y.2])) (aBd p0):=fun r h=>(lQ).2.2.2.2.2.2.2.2.2.2.1 p0 r h
abbrev aPs:=lQ.2.2.2.2.2.2.2.2.2.2.2.1
theorem bAs (p0:List aA) (p1:List bZ):dJ Tryz.prog 61 [fM p0,.rp [.sl 1 (p1.map iY)]] [] Zi Zj (aF5 p0 p1):=fun r h=>(lQ).2.2.2.2.2.2.2.2.2.2.2.2.1 p0 p1 r h
theorem bFl (p0:List bZ) (p1:List aA):dJ Tryz.prog 62 [zO p0,fM p1] [] Zi Zj (aNu p0 p1):=fun r h=>(lQ).2.2.2.2.2.2.2.2.2.2.2.2.2.1 p0 p1 r h
abbrev aPx:=lQ.2.2.2.2.2.2.2.2.2.2.2.2.2.2.1
theorem bA2 (p0:eX) (p1:List (List aA)):dJ Tryz.prog 106 [A9 p0,.d (.sl 1 (p1.map (cSl 3 aL)))] [] Ze Zf (aHm p0 p1):=fun r h=>(lQ).2.2.2.2.2.2.2.2.2.2.2.2.2.2.2.1 p0 p1 r h
theorem bHc (p0:eX):FOk Tryz.prog 105 [A9 p0] (fun y=>(.tup [.d (.sl 1 (y.1.map (cSl 3 aL))),vI y.2])) (aOt p0):=fun r h=>(lQ).2.2.2.2.2.2.2.2.2.2.2.2.2.2.2.2.1 p0 r h
abbrev aPw:=lQ.2.2.2.2.2.2.2.2.2.2.2.2.2.2.2.2.2.1
theorem aMs (p0:List (List aA)) (p1:List bZ):FOk Tryz.prog 128 [.d (.sl 1 (p0.map (cSl 3 aL))),zO p1] (fun y=>(.tup [.d (.sl 1 (y.1.map (cSl 3 aL))),vI y.2])) (aD9 p0 p1):=fun r h=>(lQ).2.2.2.2.2.2.2.2.2.2.2.2.2.2.2.2.2.2.1 p0 p1 r h
abbrev aOg:=lQ.2.2.2.2.2.2.2.2.2.2.2.2.2.2.2.2.2.2.2.1
abbrev aPi:=lQ.2.2.2.2.2.2.2.2.2.2.2.2.2.2.2.2.2.2.2.2.1
abbrev aUd:=lQ.2.2.2.2.2.2.2.2.2.2.2.2.2.2.2.2.2.2.2.2.2.1
abbrev aNe:=lQ.2.2.2.2.2.2.2.2.2.2.2.2.2.2.2.2.2.2.2.2.2.2.1
abbrev aQ5:=lQ.2.2.2.2.2.2.2.2.2.2.2.2.2.2.2.2.2.2.2.2.2.2.2
theorem bFb (p0 x3 bC r) (h:aI3 p0 x3 bC=some r):bWc p0 x3 bC r:=by
 rw [aI3] at h;exact Jok.un (rb' h)
theorem aHo (p0:aJ):dJ Tryz.prog 51 [.ptr 241 0] [(241,aV p0)] ZE ZF (J7 p0):=by
 refine aoB fun r h=>?_;rw [J7] at h;refine lY cU8 p0.b ?_;refine cd' h ?_ ?_<;>intro h;exact kR cU8 h fun y1 h=>(jn' (bFb _ _ _ _ h) (wr [] eS bS));exact jn' (bFb _ _ _ _ h) (wr [] eS bS)
theorem gH (p0:aJ) (p1:Int):dJ Tryz.prog 15 [.ptr 241 0,vI p1] [(241,aV p0)] ZE ZF (fJ p0 p1):=by
 refine aoB fun r h=>?_;rw [fJ] at h;refine cd' h ?_ ?_<;>intro h;exact rb' h;refine cd' h ?_ ?_<;>intro h;refine cg' c1_ h (aHo _) fun y1 h=>?_;refine aO (.bin 16 .rem 14 15) (vs Zo h (fun y hy=>aLs (k:=.i64) (a:=y1.1) (b:=p1) hy kr kr kr) fun y2 h=>oC ?_);exact rb' h;refine cg' c1_ h (aHo _) fun y3 h=>(cg' c1_ h (aHo _) fun y4 h=>(cg' c1_ h (aHo _) fun y5 h=>(cg' c1_ h (aHo _) fun y6 h=>?_)));refine aO (.bin 36 .rem 34 35) (vs Zo h (fun y hy=>aLs (k:=.i64) (a:=(QA .i64 ((QA .i64 ((QA .i64 ((QA .i64 (y3.1 * 16777216))+(QA .i64 (y4.1 * 65536))))+(QA .i64 (y5.1 * 256))))+y6.1))) (b:=p1) hy kr kr kr) fun y7 h=>oC ?_);exact rb' h
theorem U8 (p0:Int):FOk Tryz.prog 103 [vI p0] (fun y=>(bV y)) (xV p0):=by
 refine aoP fun r h=>?_;rw [xV] at h;exact rp' h
theorem iW (p0:aJ) (p1:Int):dJ Tryz.prog 17 [.ptr 241 0,vI p1] [(241,aV p0)] (fun (y:Bool×aJ)=>(vB y.1)) (fun (y:Bool×aJ)=>[(241,aV y.2)]) (fI p0 p1):=by
 refine aoB fun r h=>?_;rw [fI] at h;exact cg' c1_ h (gH _ _) fun y1 h=>(rb' h)
theorem D6 (p0:Bool):FOk Tryz.prog 30 [vB p0] (fun y=>(bV y)) (rP p0):=by
 refine aoP fun r h=>?_;rw [rP] at h;refine cd' h ?_ ?_<;>intro h;exact rp' h;exact rp' h
abbrev Z10 (y:(List UInt8)×aJ):V:=(vS y.1)
theorem aCt (p0:aJ) (p1:List (List UInt8)):dJ Tryz.prog 43 [.ptr 241 0,bTg p1] [(241,aV p0)] Z10 (fun (y:(List UInt8)×aJ)=>[(241,aV y.2)]) (vM p0 p1):=by
 refine aoB fun r h=>?_;rw [vM] at h;exact lq' p1 (cg' c1_ h (gH _ _) fun y1 h=>(iq' h fun y2 h=>(rb' h)))
theorem aXg (p0:aJ) (p1:List Int):dJ Tryz.prog 44 [.ptr 241 0,qH p1] [(241,aV p0)] ZE ZF (X4 p0 p1):=by
 refine aoB fun r h=>?_;rw [X4] at h;exact lY cI p1 (cg' c1_ h (gH _ _) fun y1 h=>(kR cI h fun y2 h=>(rb' h)))
theorem aA0 (p0:aJ):dJ Tryz.prog 52 [.ptr 241 0] [(241,aV p0)] ZE ZF (xB p0):=by
 refine aoB fun r h=>?_;rw [xB] at h;refine cg' c1_ h (gH _ _) fun y1 h=>?_;refine cd' h ?_ ?_<;>intro h;refine aO (.bsl 8 3 1 [kI 0,kI 1,kI (-1),kI 63,kI 64,kI (-64),kI (-65),kI 127,kI 128,kI 16383,kI 16384,kI 9223372036854775807,kI (-9223372036854775808),kI 4611686018427387904]) (bN (l:=([0,1,-1,63,64,-64,-65,127,128,16383,16384,9223372036854775807,-9223372036854775808,4611686018427387904]:List Int)) (f:=cI) (g:=cI) kr (fun _=>rfl) kr (oC ?_));exact cg' c1_ h (aXg _ _) fun y2 h=>(rb' h);refine cd' h ?_ ?_<;>intro h;exact cg' c1_ h (gH _ _) fun y3 h=>(rb' h);exact cg' c1_ h (gH _ _) fun y4 h=>(rb' h)
theorem aVk (p0:List UInt8):FOk Tryz.prog 81 [vS p0] (fun y=>(bV y)) (aGv p0):=by
 refine aoP fun r h=>?_;rw [aGv] at h;exact rp' h
theorem bBe (p0:aJ) (p1:Int):dJ Tryz.prog 100 [.ptr 241 0,vI p1] [(241,aV p0)] ZI ZJ (Q7 p0 p1):=by
 refine aoB fun r h=>?_;rw [Q7] at h;refine cg' c1_ h (iW _ _) fun y1 h=>?_;refine cd' h ?_ ?_<;>intro h;exact rb' h;refine cd' h ?_ ?_<;>intro h;refine aO (.bsl 12 9 1 [.c (.d (.s (bs []))),.c (.d (.s (bs [97]))),.c (.d (.s (bs [98]))),.c (.d (.s (bs [97,98])))]) (bN (l:=([[],[97],[98],[97,98]]:List (List UInt8))) (f:=cStr) (g:=cStr) kr (fun _=>rfl) kr (oC ?_));exact cg' c1_ h (aCt _ _) fun y2 h=>(cs' h (aVk _) fun y3 h=>(rb' h));refine cd' h ?_ ?_<;>intro h;exact cg' c1_ h (iW _ _) fun y4 h=>(cs' h (D6 _) fun y5 h=>(rb' h));exact cg' c1_ h (aA0 _) fun y6 h=>(cs' h (U8 _) fun y7 h=>(rb' h))
theorem bE3 (p0:aJ) (p1:Int):dJ Tryz.prog 57 [.ptr 241 0,vI p1] [(241,aV p0)] ZI ZJ (V5 p0 p1):=by
 refine aoB fun r h=>?_;rw [V5] at h;refine aO (.g 7 true (.call (some 9) 17 [8,kI 12])) (aGy c1_ (p:=true) (b:=(decide (p1=1))) (m:=fI p0 12) (dflt:=((default:Bool),p0)) h kr (iW _ _) (fun hc=>by kernel_rfl) kr kr kr (fun y=>by kernel_rfl) kr (fun hc=>(Eq.trans (b:=([true&&((decide (p1=1))==true)]:List Bool).all id) kr (fC hc rfl))) (fun _=>rfl) fun y1 h=>oC ?_);refine dL h fun y2 h=>?_;refine cd' h ?_ ?_<;>intro h;exact cg' c1_ h (gH _ _) fun y3 h=>(cs' h (U8 _) fun y4 h=>(rb' h));exact cg' c1_ h (bBe _ _) fun y5 h=>(rb' h)
abbrev aWu (p1):=U9.mutual_partial_correctness p1 (fun x6 y1 x9=>aXi x6 y1 x9 p1) (fun x6 y1=>aW6 x6 y1 p1) (aYb p1) (by intro cAx bP5 aN5 aNl x6 y1 x9 gN fB x10 kx11 r h;refine Lok.un (iq' h fun y9 h=>(lq' y9.cols ?_));refine cd' h ?_ ?_<;>intro h;refine iq' h fun y10 h=>(iq' h fun y11 h=>(cg' c1_ h (bE3 _ _) fun y12 h=>?_));refine aO (.bsl 53 32 3 [52]) (bN (l:=([y12.1]:List aA)) (f:=aL) (g:=aL) kr (fun _=>rfl) kr (oC ?_));refine aq' 10 aL h fun y13 h=>?_;exact lb' (aN5 _ _ _ _ _ _ (_,_,_,_) _ h) (wr [(10,.old 10),(59,.old 59)] (es (es (es (es (es (es (es (es (eo 10 eS))))))))) (bs_ (bs_ (bs_ (kM (c0:=[.osl 59 43 1 (gN.map (cSl 3 aL))]) kr (bO (jQ (t:=59) kr kr) kN) bS)))));refine aO (.bsl 58 43 1 [57]) (bN (l:=([x10]:List (List aA))) (f:=(cSl 3 aL)) (g:=(cSl 3 aL)) kr (fun _=>rfl) kr (oC ?_));refine aq' 59 (cSl 3 aL) h fun y14 h=>?_;exact lb' (aNl _ _ _ _ _ (_,_,_) _ h) (tw [.rn [(416,411)]] (wr [(59,.old 59)] eS (bs_ (bs_ (bs_ (kM (c0:=[.osl 59 43 1 (y14.map (cSl 3 aL))]) kr (bO (jQ (t:=59) kr kr) kN) bS))))))) (by intro cAx cCb aN5 aWg x6 y1 fB x9 gN mI r h;refine Lok.un ?_;refine cd' h ?_ ?_<;>intro h;refine aO (.bsl 28 32 3 []) (bN (l:=([]:List aA)) (f:=aL) (g:=aL) kr (fun _=>rfl) kr (oC ?_));exact lb' (aN5 _ _ _ _ _ _ (_,_,_,_) _ h) (tw [.rn [(411,416)]] (wr [(10,.old 10),(59,.old 59)] (es (es (es (es (es (es (es (es (eo 10 eS))))))))) (bs_ (bs_ (bs_ (kM (c0:=[.osl 59 43 1 (gN.map (cSl 3 aL))]) kr (bO (jQ (t:=59) kr kr) kN) bS))))));refine aO (.bsl 64 106 1 [63]) (bN (l:=([jR.mk gN]:List jR)) (f:=oW) (g:=oW) kr (fun _=>rfl) kr (oC ?_));refine aO (.app 65 106 1 24 62 64) (bB3 (l:=fB) (m:=([jR.mk gN]:List jR)) (f:=oW) [411] h kr kr kr kr (fun _=>rfl) fun y8 h=>oC ?_);exact lb' (aWg _ _ _ _ _ _ h) (tw [.rn [(65,398)]] (wr [] eS bS))) (by intro bP5 aNl x6 bG bC bJ fB r h;refine Lok.un (lq' p1.tables ?_);refine cd' h ?_ ?_<;>intro h;refine aO (.bld 20 [.nil 1] []) (kJ (c:=[.nil 1]) kr kr rfl (oC ?_));refine cg' c1_ h (gH _ _) fun y1 h=>?_;exact lb' (aNl _ _ _ _ _ (_,_,_) _ h) (tw [.rn [(398,411)]] (wr [(59,.new 43 1)] eS (bs_ (bs_ (bs_ (kM (c0:=[.nil 1]) kr (bO (aB3 kr kr) kN) bS))))));refine rw' (s':=⟨[(4,.ptr 4 0)],[(4,[.tre 267]),(241,aV (aJ.mk bG bC bJ)),(267,[.trs 1 (fB.map oW)])]⟩) (tw [.rn [(398,267)]] (wr [] eS bS)) ?_;exact rb' h)
abbrev aN5:=fun x6 y1 x9 p1=>(aWu p1).1 x6 y1 x9
abbrev aNl:=fun x6 y1 p1=>(aWu p1).2.1 x6 y1
abbrev aWg:=fun p1=>(aWu p1).2.2
theorem bS6 (p0:aJ) (p1:aR):dJ Tryz.prog 20 [.ptr 241 0,eG p1] [(241,aV p0)] ZR ZS (aLa p0 p1):=by
 refine aoB fun r h=>?_;rw [aLa] at h;refine aO (.bld 12 [.nil 1] []) (kJ (c:=[.nil 1]) kr kr rfl (oC ?_));exact lb' (aWg _ _ _ _ _ _ _ h) (tw [.ns 5 0 398] (wr [] eS bS))
abbrev bC6 (p1):=Y7.mutual_partial_correctness p1 (aZm p1) (aTa p1) (by intro bTn cEj aM9 aVd x5 x6 x7 x8 uQ uA uM r h;refine Lok.un (kR (cSl 1 cI) h fun y4 h=>(lY cI y4 ?_));refine cd' h ?_ ?_<;>intro h;refine kR (cSl 1 cI) h fun y5 h=>(kR cI h fun y6 h=>(cg' c1_ h (bE3 _ _) fun y7 h=>?_));refine aO (.bsl 36 32 3 [35]) (bN (l:=([y7.1]:List aA)) (f:=aL) (g:=aL) kr (fun _=>rfl) kr (oC ?_));exact aq' 7 aL h fun y8 h=>(lb' (aM9 _ _ _ _ _ _ _ _ h) (wr [(5,.old 5),(7,.old 7)] (es (es (eo 5 (es (eo 7 eS))))) bS));refine aO (.bsl 40 43 1 [39]) (bN (l:=([x7]:List (List aA))) (f:=(cSl 3 aL)) (g:=(cSl 3 aL)) kr (fun _=>rfl) kr (oC ?_));exact aq' 5 (cSl 3 aL) h fun y9 h=>(lb' (aVd _ _ _ _ _ _ h) (wr [(5,.old 5)] (es (es (eo 5 eS))) bS))) (by intro bTn aM9 x5 x6 bG bC bJ r h;refine Lok.un (lY (cSl 1 cI) p1 ?_);refine cd' h ?_ ?_<;>intro h;refine aO (.bsl 16 32 3 []) (bN (l:=([]:List aA)) (f:=aL) (g:=aL) kr (fun _=>rfl) kr (oC ?_));exact lb' (aM9 _ _ _ _ _ _ _ _ h) (wr [(5,.old 5),(7,.old 7)] (es (es (eo 5 (es (eo 7 eS))))) bS);exact rw' (s':=⟨[(4,.osl 242 43 1 (x5.map (cSl 3 aL)))],[(241,aV (aJ.mk bG bC bJ))]⟩) (wr [(242,.old 4)] (eo 4 jZ) bS) (rb' h))
abbrev aM9:=fun p1=>(bC6 p1).1
abbrev aVd:=fun p1=>(bC6 p1).2
theorem bX5 (p0:aJ) (p1:List (List Int)):dJ Tryz.prog 21 [.ptr 241 0,.d (.sl 1 (p1.map (cSl 1 cI)))] [(241,aV p0)] ZG ZH (aIb p0 p1):=by
 refine aoB fun r h=>?_;rw [aIb] at h;refine aO (.bsl 9 43 1 []) (bN (l:=([]:List (List aA))) (f:=(cSl 3 aL)) (g:=(cSl 3 aL)) kr (fun _=>rfl) kr (oC ?_));exact lb' (aVd _ _ _ _ _ _ _ h) (wr [(5,.old 5)] (es (es (eo 5 eS))) bS)
theorem bIc (y3 y2 J5 O8 P8 E8 F7 J9 Q4 K5 X7 aAs aB6 Q3 G6 r) (h:aFc y3 y2 J5 O8 P8 E8 F7 J9 Q4 K5 X7 aAs aB6 Q3 G6=some r):bSh y3 y2 J5 O8 P8 E8 F7 J9 Q4 K5 X7 aAs aB6 Q3 G6 r:=by
 rw [aFc] at h;refine Jok.un (eZ ⟨[(241,11)],[],[],[],[],[],[(267,330)],[],[]⟩ [] [] h (bS6 _ _) fun y23 h=>(eZ ⟨[(241,11)],[],[],[],[],[(242,42)],[],[42],[]⟩ [] [] h (bX5 _ _) fun y24 h=>?_));refine dO (.asg 4 42) (aJ3 (t:=42) (e:=43) (sz:=1) (l:=y24.1.map (cSl 3 aL)) [42] [] kr kr  rfl (dC ?_));refine rw' (s':=⟨[(2,.ptr 2 0),(3,.ptr 3 0),(4,.osl 243 43 1 (y24.1.map (cSl 3 aL))),(5,.ptr 5 0)],[(2,gJ y2.1),(3,nI y23.1),(5,sS (aB.mk J5 O8 P8 (aA.mk E8 F7 J9) Q4 K5 Q3 G6))]⟩) (tw [.frz [330,414,415]] (wr [(243,.old 4)] (es (es (eo 4 eS))) bS)) ?_;exact rb' h
theorem bI0 (y1 nR nU iR iU dW eY A8 oJ oI oM r) (h:aHw y1 nR nU iR iU dW eY A8 oJ oI oM=some r):cC6 y1 nR nU iR iU dW eY A8 oJ oI oM r:=by
 rw [aHw] at h;refine Jok.un ?_;refine rw' (s':=⟨[(4,.ptr 4 0)],[(4,[.tre 267,.tre 268,.tre 269,.tre 270,.tre 271,.tre 272,vB y1.1,vI A8]),(241,aV (aJ.mk oJ oI oM)),(270,[.trc 11 (nR.map dU)]),(269,[.trc 10 (nU.map aP)]),(272,[.trc 1 (iR.map cStr)]),(271,[.trc 10 (iU.map aP)]),(268,[.trc 1 (dW.map (cSl 10 aP))]),(267,[.trc 1 (eY.map cI)])]⟩) (tw [.rn [(449,267),(450,268),(451,269),(452,270),(453,271),(454,272)]] (wr [] eS bS)) ?_;exact rb' h
theorem bB2 (y1 nU iR iU dW eY aAq aAt aB7 nR r) (h:aG6 y1 nU iR iU dW eY aAq aAt aB7 nR=some r):bZx y1 nU iR iU dW eY aAq aAt aB7 nR r:=by
 rw [aG6] at h;refine Jok.un (cg' c1_ h (iW _ _) fun y33 h=>?_);refine cd' h ?_ ?_<;>intro h;refine cg' c1_ h (aA0 _) fun y34 h=>?_;exact jn' (bI0 _ _ _ _ _ _ _ _ _ _ _ _ h) (tw [.rn [(443,449),(444,450),(445,451),(446,452),(447,453),(448,454)]] (wr [] eS bS));exact jn' (bI0 _ _ _ _ _ _ _ _ _ _ _ _ h) (tw [.rn [(443,449),(444,450),(445,451),(446,452),(447,453),(448,454)]] (wr [] eS bS))
theorem bHa (p0:aJ):dJ Tryz.prog 45 [.ptr 241 0] [(241,aV p0)] Z10 (fun (y:(List UInt8)×aJ)=>[(241,aV y.2)]) (aHa p0):=by
 refine aoB fun r h=>?_;rw [aHa] at h;refine cg' c1_ h (iW _ _) fun y1 h=>?_;refine cd' h ?_ ?_<;>intro h;refine aO (.bsl 6 9 1 [.c (.d (.s (bs [97,32,98]))),.c (.d (.s (bs [102,114,111,109]))),.c (.d (.s (bs [83,101,108,101,99,116]))),.c (.d (.s (bs [49,120]))),.c (.d (.s (bs [113,34,113]))),.c (.d (.s (bs [0]))),.c (.d (.s (bs [34]))),.c (.d (.s (bs [105,116,39,115]))),.c (.d (.s (bs [120,46,121]))),.c (.d (.s (bs [45])))]) (bN (l:=([[97,32,98],[102,114,111,109],[83,101,108,101,99,116],[49,120],[113,34,113],[0],[34],[105,116,39,115],[120,46,121],[45]]:List (List UInt8))) (f:=cStr) (g:=cStr) kr (fun _=>rfl) kr (oC ?_));exact cg' c1_ h (aCt _ _) fun y2 h=>(rb' h);refine aO (.bsl 9 9 1 [.c (.d (.s (bs [97]))),.c (.d (.s (bs [98]))),.c (.d (.s (bs [99]))),.c (.d (.s (bs [116]))),.c (.d (.s (bs [117]))),.c (.d (.s (bs [118]))),.c (.d (.s (bs [105,100]))),.c (.d (.s (bs [110,97,109,101]))),.c (.d (.s (bs [65]))),.c (.d (.s (bs [95,120,49])))]) (bN (l:=([[97],[98],[99],[116],[117],[118],[105,100],[110,97,109,101],[65],[95,120,49]]:List (List UInt8))) (f:=cStr) (g:=cStr) kr (fun _=>rfl) kr (oC ?_));exact cg' c1_ h (aCt _ _) fun y3 h=>(rb' h)
theorem bGm (p0:aJ):dJ Tryz.prog 102 [.ptr 241 0] [(241,aV p0)] ZI ZJ (aFm p0):=by
 refine aoB fun r h=>?_;rw [aFm] at h;refine cg' c1_ h (gH _ _) fun y1 h=>?_;refine cd' h ?_ ?_<;>intro h;exact rb' h;refine cd' h ?_ ?_<;>intro h;refine aO (.bsl 11 9 1 [.c (.d (.s (bs []))),.c (.d (.s (bs [97]))),.c (.d (.s (bs [98]))),.c (.d (.s (bs [105,116,39,115]))),.c (.d (.s (bs [97,98]))),.c (.d (.s (bs [255])))]) (bN (l:=([[],[97],[98],[105,116,39,115],[97,98],[255]]:List (List UInt8))) (f:=cStr) (g:=cStr) kr (fun _=>rfl) kr (oC ?_));exact cg' c1_ h (aCt _ _) fun y2 h=>(cs' h (aVk _) fun y3 h=>(rb' h));refine cd' h ?_ ?_<;>intro h;exact cg' c1_ h (iW _ _) fun y4 h=>(cs' h (D6 _) fun y5 h=>(rb' h));refine cd' h ?_ ?_<;>intro h;exact cg' c1_ h (aA0 _) fun y6 h=>(cs' h (U8 _) fun y7 h=>(rb' h));exact cg' c1_ h (gH _ _) fun y8 h=>(cs' h (U8 _) fun y9 h=>(rb' h))
theorem bH2 (y1 gY r) (h:aJt y1 gY=some r):cAo y1 gY r:=by
 rw [aJt] at h;exact Jok.un (rb' h)
end Go.Proofs.YtpedjchcopnlmaaGreat
