/- That the code computes these functions (printed by a program). -/
import Derived.KernelRfl
import Derived.Test.YtflhmnfmihkbmaeGreatAbG2
import Derived.Test.YtflhmnfmihkbmaeGreatAbC3
import Derived.Test.YtflhmnfmihkbmaeGreatAbX1
import Derived.Test.YtflhmnfmihkbmaeGreatFExactUsesOf
import Derived.Test.YtflhmnfmihkbmaeGreatProg
namespace Go.Proofs.YtflhmnfmihkbmaeGreat
open Go Go.RowKit Go.Ab
attribute [local irreducible] avc bQ aop dgo bF bJ bM wkK F8 stz aFd bD eff bU.st
def cI (n:Int):List D:=[.i .i64 n]
def cU8 (n:Int):List D:=[.i .u8 n]
def cSt (n:Int):List D:=[.i .u64 n]
def cSm (n:Int):List D:=[.i .i32 n]
def cS5 (n:Int):List D:=[.i .u32 n]
def cB (b:Bool):List D:=[.b b]
def cStr (s:List UInt8):List D:=[.s (bs s)]
def cSl {α:Type} (sz:Nat) (f:α→List D) (l:List α):List D:=[.sl sz (l.map f)]
def fH (x:bI):List D:=[(.s (bs x.name)),(.i .i64 x.type)]
def vJ (x:bI):V:=.agg (fH x)
def cPv (x:bI):List V:=(fH x).map V.d
def fK (x:aP):List D:=[(.s (bs x.name)),(.sl 2 (x.cols.map fH))]
def pE (x:aP):V:=.agg (fK x)
def aLl (x:aP):List V:=(fK x).map V.d
def aBc (x:aY):List D:=[(.sl 2 (x.tables.map fK))]
def iJ (x:aY):V:=.agg (aBc x)
def iZ (x:aY):List V:=(aBc x).map V.d
def aCa (x:dV):List D:=[(.i .i64 x.kind),(.i .i64 x.num),(.s (bs x.text))]
def vH (x:dV):V:=.agg (aCa x)
def cT0 (x:dV):List V:=(aCa x).map V.d
mutual
def bN:aA→List D
  | ⟨a0,a1,a2,a3,a4,a5,a6,a7⟩=>[(.i .i64 a0)]++[(.i .i64 a1)]++[(.b a2)]++aCa a3++[(.s (bs a4))]++[(.s (bs a5))]++[.sl 10 (I9 a6)]++[.sl 6 (aEu a7)]
def dF:bA→List D
  | ⟨a0,a1,a2,a3⟩=>[(.b a0)]++[(.s (bs a1))]++bN a2++[(.s (bs a3))]
def dI:aJ→List D
  | ⟨a0,a1,a2,a3,a4,a5⟩=>[(.b a0)]++[.sl 13 (aF9 a1)]++[.sl 3 (aD8 a2)]++[.sl 10 (I9 a3)]++[.sl 11 (aEb a4)]++[(.i .i64 a5)]
def dJ:bC→List D
  | ⟨a0,a1⟩=>bN a0++[(.b a1)]
def dZ:aV→List D
  | ⟨a0,a1,a2⟩=>[(.s (bs a0))]++[(.s (bs a1))]++[.sl 10 (I9 a2)]
def I9:List aA→List (List D)
  | []=>[]
  | x::l=>bN x::I9 l
def aF9:List bA→List (List D)
  | []=>[]
  | x::l=>dF x::aF9 l
def aEu:List aJ→List (List D)
  | []=>[]
  | x::l=>dI x::aEu l
def aEb:List bC→List (List D)
  | []=>[]
  | x::l=>dJ x::aEb l
def aD8:List aV→List (List D)
  | []=>[]
  | x::l=>dZ x::aD8 l
end
theorem aCf:∀ l:List aA,I9 l=l.map bN
  | []=>by simp only [I9,List.map_nil]
  | x::l=>by simp only [I9,List.map_cons,aCf l]
theorem aBt:∀ l:List bA,aF9 l=l.map dF
  | []=>by simp only [aF9,List.map_nil]
  | x::l=>by simp only [aF9,List.map_cons,aBt l]
theorem aBv:∀ l:List aJ,aEu l=l.map dI
  | []=>by simp only [aEu,List.map_nil]
  | x::l=>by simp only [aEu,List.map_cons,aBv l]
theorem Y3:∀ l:List bC,aEb l=l.map dJ
  | []=>by simp only [aEb,List.map_nil]
  | x::l=>by simp only [aEb,List.map_cons,Y3 l]
theorem U2:∀ l:List aV,aD8 l=l.map dZ
  | []=>by simp only [aD8,List.map_nil]
  | x::l=>by simp only [aD8,List.map_cons,U2 l]
def kL (x:aA):List D:=[(.i .i64 x.kind),(.i .i64 x.op),(.b x.not_),(.i .i64 x.value.kind),(.i .i64 x.value.num),(.s (bs x.value.text)),(.s (bs x.qual)),(.s (bs x.name)),(.sl 10 (x.kids.map bN)),(.sl 6 (x.sub.map dI))]
def tK (x:bA):List D:=[(.b x.star),(.s (bs x.qual)),(.i .i64 x.expr.kind),(.i .i64 x.expr.op),(.b x.expr.not_),(.i .i64 x.expr.value.kind),(.i .i64 x.expr.value.num),(.s (bs x.expr.value.text)),(.s (bs x.expr.qual)),(.s (bs x.expr.name)),(.sl 10 (x.expr.kids.map bN)),(.sl 6 (x.expr.sub.map dI)),(.s (bs x.as_))]
def uT (x:aJ):List D:=[(.b x.distinct),(.sl 13 (x.items.map dF)),(.sl 3 (x.from_.map dZ)),(.sl 10 (x.where_.map bN)),(.sl 11 (x.order.map dJ)),(.i .i64 x.limit)]
def lY (x:bC):List D:=[(.i .i64 x.expr.kind),(.i .i64 x.expr.op),(.b x.expr.not_),(.i .i64 x.expr.value.kind),(.i .i64 x.expr.value.num),(.s (bs x.expr.value.text)),(.s (bs x.expr.qual)),(.s (bs x.expr.name)),(.sl 10 (x.expr.kids.map bN)),(.sl 6 (x.expr.sub.map dI)),(.b x.desc)]
def uI (x:aV):List D:=[(.s (bs x.table)),(.s (bs x.as_)),(.sl 10 (x.on_.map bN))]
theorem jQ (x:aA):bN x=kL x:=by
  obtain ⟨a0,a1,a2,a3,a4,a5,a6,a7⟩:=x
  simp only [bN,kL,aCf,aBt,aBv,Y3,U2,List.cons_append,List.nil_append,aCa]
theorem uZ (x:bA):dF x=tK x:=by
  obtain ⟨a0,a1,a2,a3⟩:=x
  simp only [dF,tK,aCf,aBt,aBv,Y3,U2,jQ,kL,List.cons_append,List.nil_append]
theorem uB (x:aJ):dI x=uT x:=by
  obtain ⟨a0,a1,a2,a3,a4,a5⟩:=x
  simp only [dI,uT,aCf,aBt,aBv,Y3,U2,List.cons_append,List.nil_append]
theorem rU (x:bC):dJ x=lY x:=by
  obtain ⟨a0,a1⟩:=x
  simp only [dJ,lY,aCf,aBt,aBv,Y3,U2,jQ,kL,List.cons_append,List.nil_append]
theorem vU (x:aV):dZ x=uI x:=by
  obtain ⟨a0,a1,a2⟩:=x
  simp only [dZ,uI,aCf,aBt,aBv,Y3,U2,List.cons_append,List.nil_append]
def dN (x:aA):V:=.agg (kL x)
def nW (x:aA):List V:=(kL x).map V.d
def iP (x:bA):V:=.agg (tK x)
def cG6 (x:bA):List V:=(tK x).map V.d
def dC (x:aJ):V:=.agg (uT x)
def iC (x:aJ):List V:=(uT x).map V.d
def iV (x:bC):V:=.agg (lY x)
def cSd (x:bC):List V:=(lY x).map V.d
def iG (x:aV):V:=.agg (uI x)
def cKg (x:aV):List V:=(uI x).map V.d
def bL (x:aB):List D:=[(.s (bs x.qual)),(.s (bs x.name)),(.i .i64 x.count),(.i .i64 x.up),(.i .i64 x.at_)]
def aJg (x:aB):V:=.agg (bL x)
def O4 (x:aB):List V:=(bL x).map V.d
def iY (x:dL):List D:=[(.s (bs x.qual)),(.s (bs x.name)),(.i .i64 x.type)]
def cQ6 (x:dL):V:=.agg (iY x)
def cRc (x:dL):List V:=(iY x).map V.d
def jA (x:aL):List D:=[(.sl 3 (x.names.map iY))]
def sH (x:aL):V:=.agg (jA x)
def mW (x:aL):List V:=(jA x).map V.d
def aSi (x:cK):List D:=[(.sl 2 (x.c.tables.map fK)),(.sl 5 (x.list.map bL)),(.b x.failed)]
def cQn (x:cK):V:=.agg (aSi x)
def cT4 (x:cK):List V:=(aSi x).map V.d
def aOe (x:jW):List D:=[(.b x.op),(.b x.not_),(.b x.value),(.b x.name),(.i .i64 x.least),(.i .i64 x.most),(.i .i64 x.subs)]
def bGc (x:jW):V:=.agg (aOe x)
def cTt (x:jW):List V:=(aOe x).map V.d
instance:Enc aP:=⟨fK,fK,(fun _=>rfl)⟩
instance:Enc bI:=⟨fH,fH,(fun _=>rfl)⟩
instance:Enc aV:=⟨dZ,uI,vU⟩
instance:Enc aA:=⟨bN,kL,jQ⟩
instance:Enc aJ:=⟨dI,uT,uB⟩
instance:Enc bC:=⟨dJ,lY,rU⟩
instance:Enc bA:=⟨dF,tK,uZ⟩
instance:Enc aB:=⟨bL,bL,(fun _=>rfl)⟩
instance:Enc dL:=⟨iY,iY,(fun _=>rfl)⟩
instance:Enc aL:=⟨jA,jA,(fun _=>rfl)⟩
instance:Enc (List UInt8):=⟨cStr,cStr,(fun _=>rfl)⟩
theorem kr {p:Prop} (h:p:=by kernel_rfl):p:=h
def dW (l:List aP):V:=.d (.sl 2 (l.map fK))
def jO (l:List bI):V:=.d (.sl 2 (l.map fH))
def eD (l:List aV):V:=.d (.sl 3 (l.map dZ))
def bZ (l:List aA):V:=.d (.sl 10 (l.map bN))
def fE (l:List aJ):V:=.d (.sl 6 (l.map dI))
def fP (l:List bC):V:=.d (.sl 11 (l.map dJ))
def fU (l:List bA):V:=.d (.sl 13 (l.map dF))
def aBe (l:List aB):V:=.d (.sl 5 (l.map bL))
def gG (l:List aL):V:=.d (.sl 1 (l.map jA))
def bDo (l:List (List UInt8)):V:=.d (.sl 1 (l.map cStr))
def aL0 (l:List dL):V:=.d (.sl 3 (l.map iY))
def bX:V:=(.d (.s (bs [])))
def bS:V:=(.d (.i .i64 0))
def eG:V:=(.d (.b false))
def rG:List V:=[eG,bX,bS,bS,eG,bS,bS,bX,bX,bX,(.nil 10),(.nil 6),bX]
def uX:List V:=[eG,(.nil 13),(.nil 3),(.nil 10),(.nil 11),bS]
def vX:List V:=[bS,bS,eG,bS,bS,bX,bX,bX,(.nil 10),(.nil 6)]
def zV:List V:=[bS,bS,eG,bS,bS,bX,bX,bX,(.nil 10),(.nil 6),eG]
def bCb:List V:=[eG,eG,eG,eG,bS,bS,bS]
def bMj:AC:=(.seq (.ops [.box 2 24 0,.box 3 30 1,.asg 4 (kB false)]) (.seq (.ops [.asg 5 (kI 1048576)]) (.seq (.ops [.ld 17 1 true 2,.mv 18 5,.call (some 19) 4 [17,18],.asg 5 19]) (.seq (.seq (.ops [.mv 20 5,.bin 21 .lss 20 (kI 0)]) (.cond 21 (.seq (.ops [.asg 4 (kB true)]) .ret) .skip)) (.seq (.ops [.ld 22 6 true 3,.mv 23 5,.call (some 24) 5 [22,23],.asg 5 24]) (.seq (.seq (.ops [.mv 25 5,.bin 26 .lss 25 (kI 0)]) (.cond 26 (.seq (.ops [.asg 4 (kB true)]) .ret) .skip)) (.seq (.dops [[],[0],[],[2,1],[1,3,3],[4],[5],[5],[6,4,0,1,2,3,4,5,6],[7,8,0,1,2,3,4,5,6,7,8]] [.ld 28 1 true 2,.call (some 29) 7 [28],.ld 30 6 true 3,.call (some 31) 8 [30],.call (some 32) 6 [29,31],.mv 27 32,.ext 33 27 0,.ext 34 27 1,.asg 6 33,.asg 7 34]) (.seq (.ops [.ld 35 1 true 2,.call (some 36) 7 [35],.alc 8 [(.nil 2)],.st 1 8 36]) (.seq (.ops [.ld 37 6 true 3,.call (some 38) 8 [37],.alc 9 uX,.st 6 9 38]) (.seq (.ops [.ld 40 1 true 8,.ld 41 6 true 9,.call (some 42) 9 [40,41],.mv 39 42,.ext 43 39 0,.ext 44 39 1,.asg 10 43,.asg 11 44]) (.seq (.seq (.ops [.mv 45 10,.mv 46 6,.call (some 47) 10 [45,46],.not 48 47,.mv 49 48,.g 49 false (.mv 50 11),.g 49 false (.mv 51 7),.g 49 false (.eqb 52 true 50 51),.pick 53 49 (kB true) 52]) (.cond 53 (.seq (.ops [.asg 4 (kB false)]) .ret) .skip)) (.seq (.seq (.dops [[],[],[1],[0,2,2],[3]] [.ld 54 1 true 8,.ld 55 1 true 2,.call (some 56) 7 [55],.call (some 57) 11 [54,56],.not 58 57]) (.cond 58 (.seq (.ops [.asg 4 (kB false)]) .ret) .skip)) (.seq (.seq (.dops [[],[],[1],[0,2,2],[3]] [.ld 59 6 true 9,.ld 60 6 true 3,.call (some 61) 8 [60],.call (some 62) 12 [59,61],.not 63 62]) (.cond 63 (.seq (.ops [.asg 4 (kB false)]) .ret) .skip)) (.seq (.ops [.asg 12 (kI 1)]) (.seq (.ops [.ld 64 1 true 8,.mv 65 12,.call (some 66) 13 [64,65],.asg 12 66]) (.seq (.ops [.ld 67 6 true 9,.mv 68 12,.call (some 69) 14 [67,68],.asg 12 69]) (.seq (.seq (.ops [.mv 70 12,.bin 71 .lss 70 (kI 0),.mv 72 71,.g 72 false (.mv 73 10),.g 72 false (.mv 74 6),.g 72 false (.call (some 75) 10 [73,74]),.g 72 false (.not 76 75),.pick 77 72 (kB true) 76,.mv 78 77,.g 78 false (.mv 79 11),.g 78 false (.mv 80 7),.g 78 false (.eqb 81 true 79 80),.pick 82 78 (kB true) 81]) (.cond 82 (.seq (.ops [.asg 4 (kB false)]) .ret) .skip)) (.seq (.ops [.asg 13 (kI 1)]) (.seq (.ops [.mv 83 10,.mv 84 13,.call (some 85) 15 [83,84],.asg 13 85]) (.seq (.ops [.asg 14 (kI 1)]) (.seq (.ops [.mv 86 10,.mv 87 14,.call (some 88) 16 [86,87],.asg 14 88]) (.seq (.seq (.ops [.mv 89 14,.bin 90 .lss 89 (kI 0)]) (.cond 90 (.seq (.ops [.asg 4 (kB false)]) .ret) .skip)) (.seq (.seq (.ops [.mv 91 14,.mv 92 13,.bin 93 .neq 91 92]) (.cond 93 (.seq (.ops [.asg 4 (kB false)]) .ret) .skip)) (.seq (.dops [[],[0],[],[2,1],[1,3,3],[4],[5],[5],[6,4,0,1,2,3,4,5,6],[7,8,0,1,2,3,4,5,6,7,8]] [.ld 95 1 true 2,.call (some 96) 7 [95],.ld 97 6 true 3,.call (some 98) 8 [97],.call (some 99) 9 [96,98],.mv 94 99,.ext 100 94 0,.ext 101 94 1,.asg 15 100,.asg 16 101]) (.seq (.seq (.ops [.mv 102 15,.mv 103 6,.call (some 104) 10 [102,103],.not 105 104,.mv 106 105,.g 106 false (.mv 107 16),.g 106 false (.mv 108 7),.g 106 false (.eqb 109 true 107 108),.pick 110 106 (kB true) 109]) (.cond 110 (.seq (.ops [.asg 4 (kB false)]) .ret) .skip)) (.seq (.ops [.asg 14 (kI 1)]) (.seq (.ops [.mv 111 10,.mv 112 14,.call (some 113) 16 [111,112],.asg 14 113]) (.seq (.seq (.ops [.mv 114 14,.bin 115 .lss 114 (kI 0)]) (.cond 115 (.seq (.ops [.asg 4 (kB false)]) .ret) .skip)) (.seq (.seq (.ops [.mv 116 14,.mv 117 13,.bin 118 .neq 116 117]) (.cond 118 (.seq (.ops [.asg 4 (kB false)]) .ret) .skip)) (.seq (.ops [.asg 4 (kB true)]) .ret))))))))))))))))))))))))))))))
theorem bVd:bG Tryz.prog 3=some (bMj,[.mv 0 4],119):=by kernel_rfl
def cRe (r:Bool):Exit→St→Prop:=bF [.mv 0 4] fun x _=>x=(fun y=>(vB y)) r
def bZi:AC:=(.seq (.ops [.box 1 24 0,.alc 2 [(.nil 2)]]) (.seq (.ops [.alc 3 [(.nil 2)]]) (.seq (.ops [.fa 4 0 1,.ld 5 1 false 4,.call (some 6) 25 [5],.fa 7 0 3,.st 1 7 6]) (.seq (.ops [.ld 8 1 true 3,.st 1 2 8]) .ret))))
theorem cL3:bG Tryz.prog 7=some (bZi,[.ld 0 1 true 2],9):=by kernel_rfl
def cRh (r:aY):Exit→St→Prop:=bF [.ld 0 1 true 2] fun x _=>x=(fun y=>(iJ y)) r
def aTt:AC:=(.loop (.seq (.seq (.ops [.mv 8 4,.mv 9 0,.len 10 9,.bin 11 .lss 8 10]) (.cond 11 .skip (.exit 0))) (.seq (.block 1 (.ops [.mv 14 3,.mv 15 4,.mv 16 0,.mv 17 4,.ia 18 2 16 17,.ld 19 2 true 18,.call (some 20) 62 [19],.ia 21 2 14 15,.st 2 21 20])) (.ops [.mv 12 4,.bin 13 .add 12 (kI 1),.asg 4 13]))))
def bD5:AC:=(.seq (.ops [.mv 22 3,.asg 2 22]) .ret)
def cL9:AC:=(.seq (.ops [.asg 2 (.c (.nil 2))]) (.seq (.ops [.mv 5 0,.len 6 5,.mks 7 106 2 40 [(.s (bs [])),(.sl 2 [])] 6 6,.asg 3 7]) (.seq (.seq (.ops [.asg 4 (kI 0)]) (.block 0 aTt)) bD5)))
theorem cCk:bG Tryz.prog 25=some (cL9,[.mv 0 2],23):=by kernel_rfl
def bDa (r:(List aP)):Exit→St→Prop:=bF [.mv 0 2] fun x _=>x=(fun y=>(dW y)) r
def bV8 (r:(List aP)):Exit→St→Prop:=(bJ (wkK (avc Tryz.prog bD5 (bDa r))) (bDa r))
def cNn (r:(List aP)):Exit→St→Prop:=(bM 0 (bV8 r))
def bV4 (p0:(List aP)) (x4:Int) (aX:(List aP)):St:=⟨[(0,(dW p0)),(3,(.msl 7 2 0 aX.length aX.length)),(4,(vI x4))],[(7,fC (aX.map fK))]⟩
abbrev aLm (p0:(List aP)) (x4:Int) (aX:(List aP)) (r:(List aP)):Prop:=avc Tryz.prog aTt (cNn r) (bV4 p0 x4 aX)
def bYd:AC:=(.seq (.ops [.box 1 88 0,.alc 2 [bX,(.nil 2)]]) (.seq (.ops [.alc 3 [bX,(.nil 2)]]) (.seq (.ops [.fa 4 0 1,.ld 5 1 false 4,.fa 6 0 3,.st 1 6 5]) (.seq (.ops [.fa 7 1 1,.ld 8 1 false 7,.call (some 9) 97 [8],.fa 10 1 3,.st 1 10 9]) (.seq (.ops [.ld 11 2 true 3,.st 2 2 11]) .ret)))))
theorem bTl:bG Tryz.prog 62=some (bYd,[.ld 0 2 true 2],12):=by kernel_rfl
def cPr (r:aP):Exit→St→Prop:=bF [.ld 0 2 true 2] fun x _=>x=(fun y=>(pE y)) r
def aRu:AC:=(.loop (.seq (.seq (.ops [.mv 8 4,.mv 9 0,.len 10 9,.bin 11 .lss 8 10]) (.cond 11 .skip (.exit 0))) (.seq (.block 1 (.ops [.mv 14 3,.mv 15 4,.mv 16 0,.mv 17 4,.ia 18 2 16 17,.ld 19 2 true 18,.call (some 20) 119 [19],.ia 21 2 14 15,.st 2 21 20])) (.ops [.mv 12 4,.bin 13 .add 12 (kI 1),.asg 4 13]))))
def bJv:AC:=(.seq (.ops [.mv 22 3,.asg 2 22]) .ret)
def bXh:AC:=(.seq (.ops [.asg 2 (.c (.nil 2))]) (.seq (.ops [.mv 5 0,.len 6 5,.mks 7 111 2 24 [(.s (bs [])),(.i .i64 0)] 6 6,.asg 3 7]) (.seq (.seq (.ops [.asg 4 (kI 0)]) (.block 0 aRu)) bJv)))
theorem bPa:bG Tryz.prog 97=some (bXh,[.mv 0 2],23):=by kernel_rfl
def bK9 (r:(List bI)):Exit→St→Prop:=bF [.mv 0 2] fun x _=>x=(fun y=>(jO y)) r
def cO5 (r:(List bI)):Exit→St→Prop:=(bJ (wkK (avc Tryz.prog bJv (bK9 r))) (bK9 r))
def cOz (r:(List bI)):Exit→St→Prop:=(bM 0 (cO5 r))
def cFo (p0:(List bI)) (x4:Int) (aX:(List bI)):St:=⟨[(0,(jO p0)),(3,(.msl 7 2 0 aX.length aX.length)),(4,(vI x4))],[(7,fC (aX.map fH))]⟩
abbrev aMk (p0:(List bI)) (x4:Int) (aX:(List bI)) (r:(List bI)):Prop:=avc Tryz.prog aRu (cOz r) (cFo p0 x4 aX)
def cEu:AC:=(.seq (.ops [.box 1 177 0,.alc 2 [bX,bS]]) (.seq (.ops [.alc 3 [bX,bS]]) (.seq (.ops [.fa 4 0 1,.ld 5 1 false 4,.fa 6 0 3,.st 1 6 5]) (.seq (.ops [.fa 7 1 1,.ld 8 1 false 7,.fa 9 1 3,.st 1 9 8]) (.seq (.ops [.ld 10 2 true 3,.st 2 2 10]) .ret)))))
theorem cO3:bG Tryz.prog 119=some (cEu,[.ld 0 2 true 2],11):=by kernel_rfl
def cSb (r:bI):Exit→St→Prop:=bF [.ld 0 2 true 2] fun x _=>x=(fun y=>(vJ y)) r
def cGz:AC:=(.seq (.ops [.box 2 45 0,.box 3 45 1,.asg 4 (kB false)]) (.seq (.seq (.ops [.fa 5 0 2,.ld 6 1 false 5,.fa 7 0 3,.ld 8 1 false 7,.eqb 9 true 6 8]) (.cond 9 (.seq (.ops [.asg 4 (kB false)]) .ret) .skip)) (.seq (.seq (.ops [.fa 10 1 2,.ld 11 1 false 10,.fa 12 1 3,.ld 13 1 false 12,.call (some 14) 35 [11,13],.not 15 14]) (.cond 15 (.seq (.ops [.asg 4 (kB false)]) .ret) .skip)) (.seq (.seq (.ops [.fa 16 2 2,.ld 17 1 false 16,.fa 18 2 3,.ld 19 1 false 18,.call (some 20) 36 [17,19],.not 21 20]) (.cond 21 (.seq (.ops [.asg 4 (kB false)]) .ret) .skip)) (.seq (.seq (.ops [.fa 22 3 2,.ld 23 1 false 22,.fa 24 3 3,.ld 25 1 false 24,.call (some 26) 37 [23,25],.not 27 26]) (.cond 27 (.seq (.ops [.asg 4 (kB false)]) .ret) .skip)) (.seq (.seq (.ops [.fa 28 4 2,.ld 29 1 false 28,.fa 30 4 3,.ld 31 1 false 30,.call (some 32) 38 [29,31],.not 33 32]) (.cond 33 (.seq (.ops [.asg 4 (kB false)]) .ret) .skip)) (.seq (.seq (.ops [.fa 34 5 2,.ld 35 1 false 34,.fa 36 5 3,.ld 37 1 false 36,.bin 38 .neq 35 37]) (.cond 38 (.seq (.ops [.asg 4 (kB false)]) .ret) .skip)) (.seq (.ops [.asg 4 (kB true)]) .ret))))))))
theorem bLq:bG Tryz.prog 12=some (cGz,[.mv 0 4],39):=by kernel_rfl
def cUy (r:Bool):Exit→St→Prop:=bF [.mv 0 4] fun x _=>x=(fun y=>(vB y)) r
def aWi:AC:=(.loop (.seq (.seq (.ops [.mv 11 5,.mv 12 0,.len 13 12,.bin 14 .lss 11 13]) (.cond 14 .skip (.exit 0))) (.seq (.block 1 (.seq (.dops [[],[],[0,1],[2],[],[],[4,5],[6],[3,7],[8]] [.mv 17 0,.mv 18 5,.ia 19 3 17 18,.ld 20 3 true 19,.mv 21 1,.mv 22 5,.ia 23 3 21 22,.ld 24 3 true 23,.call (some 25) 79 [20,24],.not 26 25]) (.cond 26 (.seq (.ops [.asg 4 (kB false)]) .ret) .skip))) (.ops [.mv 15 5,.bin 16 .add 15 (kI 1),.asg 5 16]))))
def bD2:AC:=(.seq (.ops [.asg 4 (kB true)]) .ret)
def cNz:AC:=(.seq (.ops [.asg 4 (kB false)]) (.seq (.seq (.ops [.mv 6 0,.len 7 6,.mv 8 1,.len 9 8,.bin 10 .neq 7 9]) (.cond 10 (.seq (.ops [.asg 4 (kB false)]) .ret) .skip)) (.seq (.seq (.ops [.asg 5 (kI 0)]) (.block 0 aWi)) bD2)))
theorem cMq:bG Tryz.prog 36=some (cNz,[.mv 0 4],27):=by kernel_rfl
def bCa (r:Bool):Exit→St→Prop:=bF [.mv 0 4] fun x _=>x=(fun y=>(vB y)) r
def bN2 (r:Bool):Exit→St→Prop:=(bJ (wkK (avc Tryz.prog bD2 (bCa r))) (bCa r))
def bZh (r:Bool):Exit→St→Prop:=(bM 0 (bN2 r))
def cIl (p0:(List aV)) (p1:(List aV)) (x5:Int):St:=⟨[(0,(eD p0)),(1,(eD p1)),(5,(vI x5))],[]⟩
abbrev aGr (p0:(List aV)) (p1:(List aV)) (x5:Int) (r:Bool):Prop:=avc Tryz.prog aWi (bZh r) (cIl p0 p1 x5)
def bMy:AC:=(.seq (.ops [.box 2 123 0,.box 3 123 1,.asg 4 (kB false)]) (.seq (.seq (.ops [.fa 5 0 2,.ld 6 1 false 5,.fa 7 0 3,.ld 8 1 false 7,.bin 9 .neq 6 8]) (.cond 9 (.seq (.ops [.asg 4 (kB false)]) .ret) .skip)) (.seq (.seq (.ops [.fa 10 1 2,.ld 11 1 false 10,.fa 12 1 3,.ld 13 1 false 12,.bin 14 .neq 11 13]) (.cond 14 (.seq (.ops [.asg 4 (kB false)]) .ret) .skip)) (.seq (.seq (.ops [.fa 15 2 2,.ld 16 1 false 15,.fa 17 2 3,.ld 18 1 false 17,.call (some 19) 37 [16,18],.not 20 19]) (.cond 20 (.seq (.ops [.asg 4 (kB false)]) .ret) .skip)) (.seq (.ops [.asg 4 (kB true)]) .ret)))))
theorem bZ0:bG Tryz.prog 79=some (bMy,[.mv 0 4],21):=by kernel_rfl
def cUp (r:Bool):Exit→St→Prop:=bF [.mv 0 4] fun x _=>x=(fun y=>(vB y)) r
def aRr:AC:=(.loop (.seq (.seq (.ops [.mv 11 5,.mv 12 0,.len 13 12,.bin 14 .lss 11 13]) (.cond 14 .skip (.exit 0))) (.seq (.block 1 (.seq (.dops [[],[],[0,1],[2],[],[],[4,5],[6],[3,7],[8]] [.mv 17 0,.mv 18 5,.ia 19 10 17 18,.ld 20 10 true 19,.mv 21 1,.mv 22 5,.ia 23 10 21 22,.ld 24 10 true 23,.call (some 25) 80 [20,24],.not 26 25]) (.cond 26 (.seq (.ops [.asg 4 (kB false)]) .ret) .skip))) (.ops [.mv 15 5,.bin 16 .add 15 (kI 1),.asg 5 16]))))
def bE8:AC:=(.seq (.ops [.asg 4 (kB true)]) .ret)
def cFl:AC:=(.seq (.ops [.asg 4 (kB false)]) (.seq (.seq (.ops [.mv 6 0,.len 7 6,.mv 8 1,.len 9 8,.bin 10 .neq 7 9]) (.cond 10 (.seq (.ops [.asg 4 (kB false)]) .ret) .skip)) (.seq (.seq (.ops [.asg 5 (kI 0)]) (.block 0 aRr)) bE8)))
theorem cP5:bG Tryz.prog 37=some (cFl,[.mv 0 4],27):=by kernel_rfl
def bJj (r:Bool):Exit→St→Prop:=bF [.mv 0 4] fun x _=>x=(fun y=>(vB y)) r
def bQ3 (r:Bool):Exit→St→Prop:=(bJ (wkK (avc Tryz.prog bE8 (bJj r))) (bJj r))
def bZj (r:Bool):Exit→St→Prop:=(bM 0 (bQ3 r))
def bV7 (p0:(List aA)) (p1:(List aA)) (x5:Int):St:=⟨[(0,(bZ p0)),(1,(bZ p1)),(5,(vI x5))],[]⟩
abbrev aI4 (p0:(List aA)) (p1:(List aA)) (x5:Int) (r:Bool):Prop:=avc Tryz.prog aRr (bZj r) (bV7 p0 p1 x5)
def cHa:AC:=(.seq (.ops [.box 2 128 0,.box 3 128 1,.asg 4 (kB false)]) (.seq (.seq (.ops [.fa 5 0 2,.ld 6 1 false 5,.fa 7 0 3,.ld 8 1 false 7,.bin 9 .neq 6 8]) (.cond 9 (.seq (.ops [.asg 4 (kB false)]) .ret) .skip)) (.seq (.seq (.ops [.fa 10 1 2,.ld 11 1 false 10,.fa 12 1 3,.ld 13 1 false 12,.bin 14 .neq 11 13]) (.cond 14 (.seq (.ops [.asg 4 (kB false)]) .ret) .skip)) (.seq (.seq (.ops [.fa 15 2 2,.ld 16 1 false 15,.fa 17 2 3,.ld 18 1 false 17,.eqb 19 true 16 18]) (.cond 19 (.seq (.ops [.asg 4 (kB false)]) .ret) .skip)) (.seq (.seq (.ops [.fa 20 3 2,.ld 21 3 true 20,.fa 22 3 3,.ld 23 3 true 22,.call (some 24) 113 [21,23],.not 25 24]) (.cond 25 (.seq (.ops [.asg 4 (kB false)]) .ret) .skip)) (.seq (.seq (.ops [.fa 26 6 2,.ld 27 1 false 26,.fa 28 6 3,.ld 29 1 false 28,.bin 30 .neq 27 29]) (.cond 30 (.seq (.ops [.asg 4 (kB false)]) .ret) .skip)) (.seq (.seq (.ops [.fa 31 7 2,.ld 32 1 false 31,.fa 33 7 3,.ld 34 1 false 33,.bin 35 .neq 32 34]) (.cond 35 (.seq (.ops [.asg 4 (kB false)]) .ret) .skip)) (.seq (.seq (.ops [.fa 36 8 2,.ld 37 1 false 36,.fa 38 8 3,.ld 39 1 false 38,.call (some 40) 37 [37,39],.not 41 40]) (.cond 41 (.seq (.ops [.asg 4 (kB false)]) .ret) .skip)) (.seq (.seq (.ops [.fa 42 9 2,.ld 43 1 false 42,.fa 44 9 3,.ld 45 1 false 44,.call (some 46) 114 [43,45],.not 47 46]) (.cond 47 (.seq (.ops [.asg 4 (kB false)]) .ret) .skip)) (.seq (.ops [.asg 4 (kB true)]) .ret))))))))))
theorem bZn:bG Tryz.prog 80=some (cHa,[.mv 0 4],48):=by kernel_rfl
def cQj (r:Bool):Exit→St→Prop:=bF [.mv 0 4] fun x _=>x=(fun y=>(vB y)) r
def aP0:AC:=(.loop (.seq (.seq (.ops [.mv 11 5,.mv 12 0,.len 13 12,.bin 14 .lss 11 13]) (.cond 14 .skip (.exit 0))) (.seq (.block 1 (.seq (.dops [[],[],[0,1],[2],[],[],[4,5],[6],[3,7],[8]] [.mv 17 0,.mv 18 5,.ia 19 6 17 18,.ld 20 6 true 19,.mv 21 1,.mv 22 5,.ia 23 6 21 22,.ld 24 6 true 23,.call (some 25) 12 [20,24],.not 26 25]) (.cond 26 (.seq (.ops [.asg 4 (kB false)]) .ret) .skip))) (.ops [.mv 15 5,.bin 16 .add 15 (kI 1),.asg 5 16]))))
def bC0:AC:=(.seq (.ops [.asg 4 (kB true)]) .ret)
def cCt:AC:=(.seq (.ops [.asg 4 (kB false)]) (.seq (.seq (.ops [.mv 6 0,.len 7 6,.mv 8 1,.len 9 8,.bin 10 .neq 7 9]) (.cond 10 (.seq (.ops [.asg 4 (kB false)]) .ret) .skip)) (.seq (.seq (.ops [.asg 5 (kI 0)]) (.block 0 aP0)) bC0)))
theorem cOl:bG Tryz.prog 114=some (cCt,[.mv 0 4],27):=by kernel_rfl
def bJ8 (r:Bool):Exit→St→Prop:=bF [.mv 0 4] fun x _=>x=(fun y=>(vB y)) r
def cB7 (r:Bool):Exit→St→Prop:=(bJ (wkK (avc Tryz.prog bC0 (bJ8 r))) (bJ8 r))
def bRx (r:Bool):Exit→St→Prop:=(bM 0 (cB7 r))
def bZm (p0:(List aJ)) (p1:(List aJ)) (x5:Int):St:=⟨[(0,(fE p0)),(1,(fE p1)),(5,(vI x5))],[]⟩
abbrev aIx (p0:(List aJ)) (p1:(List aJ)) (x5:Int) (r:Bool):Prop:=avc Tryz.prog aP0 (bRx r) (bZm p0 p1 x5)
def bQr:AC:=(.seq (.ops [.box 2 125 0,.box 3 125 1,.asg 4 (kB false)]) (.seq (.seq (.ops [.fa 5 0 2,.ld 6 1 false 5,.fa 7 0 3,.ld 8 1 false 7,.bin 9 .neq 6 8]) (.cond 9 (.seq (.ops [.asg 4 (kB false)]) .ret) .skip)) (.seq (.seq (.ops [.fa 10 1 2,.ld 11 1 false 10,.fa 12 1 3,.ld 13 1 false 12,.bin 14 .neq 11 13]) (.cond 14 (.seq (.ops [.asg 4 (kB false)]) .ret) .skip)) (.seq (.seq (.ops [.fa 15 2 2,.ld 16 1 false 15,.fa 17 2 3,.ld 18 1 false 17,.bin 19 .neq 16 18]) (.cond 19 (.seq (.ops [.asg 4 (kB false)]) .ret) .skip)) (.seq (.ops [.asg 4 (kB true)]) .ret)))))
theorem bR3:bG Tryz.prog 113=some (bQr,[.mv 0 4],20):=by kernel_rfl
def cUh (r:Bool):Exit→St→Prop:=bF [.mv 0 4] fun x _=>x=(fun y=>(vB y)) r
def aPp:AC:=(.loop (.seq (.seq (.ops [.mv 11 5,.mv 12 0,.len 13 12,.bin 14 .lss 11 13]) (.cond 14 .skip (.exit 0))) (.seq (.block 1 (.seq (.dops [[],[],[0,1],[2],[],[],[4,5],[6],[3,7],[8]] [.mv 17 0,.mv 18 5,.ia 19 11 17 18,.ld 20 11 true 19,.mv 21 1,.mv 22 5,.ia 23 11 21 22,.ld 24 11 true 23,.call (some 25) 81 [20,24],.not 26 25]) (.cond 26 (.seq (.ops [.asg 4 (kB false)]) .ret) .skip))) (.ops [.mv 15 5,.bin 16 .add 15 (kI 1),.asg 5 16]))))
def bGs:AC:=(.seq (.ops [.asg 4 (kB true)]) .ret)
def bMb:AC:=(.seq (.ops [.asg 4 (kB false)]) (.seq (.seq (.ops [.mv 6 0,.len 7 6,.mv 8 1,.len 9 8,.bin 10 .neq 7 9]) (.cond 10 (.seq (.ops [.asg 4 (kB false)]) .ret) .skip)) (.seq (.seq (.ops [.asg 5 (kI 0)]) (.block 0 aPp)) bGs)))
theorem bRp:bG Tryz.prog 38=some (bMb,[.mv 0 4],27):=by kernel_rfl
def bCr (r:Bool):Exit→St→Prop:=bF [.mv 0 4] fun x _=>x=(fun y=>(vB y)) r
def cHk (r:Bool):Exit→St→Prop:=(bJ (wkK (avc Tryz.prog bGs (bCr r))) (bCr r))
def cO4 (r:Bool):Exit→St→Prop:=(bM 0 (cHk r))
def bUc (p0:(List bC)) (p1:(List bC)) (x5:Int):St:=⟨[(0,(fP p0)),(1,(fP p1)),(5,(vI x5))],[]⟩
abbrev aIp (p0:(List bC)) (p1:(List bC)) (x5:Int) (r:Bool):Prop:=avc Tryz.prog aPp (cO4 r) (bUc p0 p1 x5)
def bVb:AC:=(.seq (.ops [.box 2 130 0,.box 3 130 1,.asg 4 (kB false)]) (.seq (.seq (.ops [.fa 5 0 2,.ld 6 10 true 5,.fa 7 0 3,.ld 8 10 true 7,.call (some 9) 80 [6,8],.not 10 9]) (.cond 10 (.seq (.ops [.asg 4 (kB false)]) .ret) .skip)) (.seq (.seq (.ops [.fa 11 10 2,.ld 12 1 false 11,.fa 13 10 3,.ld 14 1 false 13,.eqb 15 true 12 14]) (.cond 15 (.seq (.ops [.asg 4 (kB false)]) .ret) .skip)) (.seq (.ops [.asg 4 (kB true)]) .ret))))
theorem cM0:bG Tryz.prog 81=some (bVb,[.mv 0 4],16):=by kernel_rfl
def cQ8 (r:Bool):Exit→St→Prop:=bF [.mv 0 4] fun x _=>x=(fun y=>(vB y)) r
def aVs:AC:=(.loop (.seq (.seq (.ops [.mv 11 5,.mv 12 0,.len 13 12,.bin 14 .lss 11 13]) (.cond 14 .skip (.exit 0))) (.seq (.block 1 (.seq (.dops [[],[],[0,1],[2],[],[],[4,5],[6],[3,7],[8]] [.mv 17 0,.mv 18 5,.ia 19 13 17 18,.ld 20 13 true 19,.mv 21 1,.mv 22 5,.ia 23 13 21 22,.ld 24 13 true 23,.call (some 25) 78 [20,24],.not 26 25]) (.cond 26 (.seq (.ops [.asg 4 (kB false)]) .ret) .skip))) (.ops [.mv 15 5,.bin 16 .add 15 (kI 1),.asg 5 16]))))
def bJi:AC:=(.seq (.ops [.asg 4 (kB true)]) .ret)
def cEv:AC:=(.seq (.ops [.asg 4 (kB false)]) (.seq (.seq (.ops [.mv 6 0,.len 7 6,.mv 8 1,.len 9 8,.bin 10 .neq 7 9]) (.cond 10 (.seq (.ops [.asg 4 (kB false)]) .ret) .skip)) (.seq (.seq (.ops [.asg 5 (kI 0)]) (.block 0 aVs)) bJi)))
theorem cI7:bG Tryz.prog 35=some (cEv,[.mv 0 4],27):=by kernel_rfl
def bC8 (r:Bool):Exit→St→Prop:=bF [.mv 0 4] fun x _=>x=(fun y=>(vB y)) r
def bRl (r:Bool):Exit→St→Prop:=(bJ (wkK (avc Tryz.prog bJi (bC8 r))) (bC8 r))
def cIo (r:Bool):Exit→St→Prop:=(bM 0 (bRl r))
def bRh (p0:(List bA)) (p1:(List bA)) (x5:Int):St:=⟨[(0,(fU p0)),(1,(fU p1)),(5,(vI x5))],[]⟩
abbrev aKl (p0:(List bA)) (p1:(List bA)) (x5:Int) (r:Bool):Prop:=avc Tryz.prog aVs (cIo r) (bRh p0 p1 x5)
def cDl:AC:=(.seq (.ops [.box 2 132 0,.box 3 132 1,.asg 4 (kB false)]) (.seq (.seq (.ops [.fa 5 0 2,.ld 6 1 false 5,.fa 7 0 3,.ld 8 1 false 7,.eqb 9 true 6 8]) (.cond 9 (.seq (.ops [.asg 4 (kB false)]) .ret) .skip)) (.seq (.seq (.ops [.fa 10 1 2,.ld 11 1 false 10,.fa 12 1 3,.ld 13 1 false 12,.bin 14 .neq 11 13]) (.cond 14 (.seq (.ops [.asg 4 (kB false)]) .ret) .skip)) (.seq (.seq (.ops [.fa 15 2 2,.ld 16 10 true 15,.fa 17 2 3,.ld 18 10 true 17,.call (some 19) 80 [16,18],.not 20 19]) (.cond 20 (.seq (.ops [.asg 4 (kB false)]) .ret) .skip)) (.seq (.seq (.ops [.fa 21 12 2,.ld 22 1 false 21,.fa 23 12 3,.ld 24 1 false 23,.bin 25 .neq 22 24]) (.cond 25 (.seq (.ops [.asg 4 (kB false)]) .ret) .skip)) (.seq (.ops [.asg 4 (kB true)]) .ret))))))
theorem cOh:bG Tryz.prog 78=some (cDl,[.mv 0 4],26):=by kernel_rfl
def cSv (r:Bool):Exit→St→Prop:=bF [.mv 0 4] fun x _=>x=(fun y=>(vB y)) r
def bLx:AC:=(.seq (.ops [.box 2 38 0,.box 3 38 1,.asg 4 (kB false)]) (.seq (.seq (.ops [.fa 5 0 2,.ld 6 1 false 5,.fa 7 0 3,.ld 8 1 false 7,.call (some 9) 34 [6,8],.not 10 9]) (.cond 10 (.seq (.ops [.asg 4 (kB false)]) .ret) .skip)) (.seq (.ops [.asg 4 (kB true)]) .ret)))
theorem bNw:bG Tryz.prog 11=some (bLx,[.mv 0 4],11):=by kernel_rfl
def cRd (r:Bool):Exit→St→Prop:=bF [.mv 0 4] fun x _=>x=(fun y=>(vB y)) r
def aQl:AC:=(.loop (.seq (.seq (.ops [.mv 11 5,.mv 12 0,.len 13 12,.bin 14 .lss 11 13]) (.cond 14 .skip (.exit 0))) (.seq (.block 1 (.seq (.dops [[],[],[0,1],[2],[],[],[4,5],[6],[3,7],[8]] [.mv 17 0,.mv 18 5,.ia 19 2 17 18,.ld 20 2 true 19,.mv 21 1,.mv 22 5,.ia 23 2 21 22,.ld 24 2 true 23,.call (some 25) 77 [20,24],.not 26 25]) (.cond 26 (.seq (.ops [.asg 4 (kB false)]) .ret) .skip))) (.ops [.mv 15 5,.bin 16 .add 15 (kI 1),.asg 5 16]))))
def bBb:AC:=(.seq (.ops [.asg 4 (kB true)]) .ret)
def cIh:AC:=(.seq (.ops [.asg 4 (kB false)]) (.seq (.seq (.ops [.mv 6 0,.len 7 6,.mv 8 1,.len 9 8,.bin 10 .neq 7 9]) (.cond 10 (.seq (.ops [.asg 4 (kB false)]) .ret) .skip)) (.seq (.seq (.ops [.asg 5 (kI 0)]) (.block 0 aQl)) bBb)))
theorem cF8:bG Tryz.prog 34=some (cIh,[.mv 0 4],27):=by kernel_rfl
def bF1 (r:Bool):Exit→St→Prop:=bF [.mv 0 4] fun x _=>x=(fun y=>(vB y)) r
def cJm (r:Bool):Exit→St→Prop:=(bJ (wkK (avc Tryz.prog bBb (bF1 r))) (bF1 r))
def bWj (r:Bool):Exit→St→Prop:=(bM 0 (cJm r))
def bLy (p0:(List aP)) (p1:(List aP)) (x5:Int):St:=⟨[(0,(dW p0)),(1,(dW p1)),(5,(vI x5))],[]⟩
abbrev aKt (p0:(List aP)) (p1:(List aP)) (x5:Int) (r:Bool):Prop:=avc Tryz.prog aQl (bWj r) (bLy p0 p1 x5)
def bVx:AC:=(.seq (.ops [.box 2 106 0,.box 3 106 1,.asg 4 (kB false)]) (.seq (.seq (.ops [.fa 5 0 2,.ld 6 1 false 5,.fa 7 0 3,.ld 8 1 false 7,.bin 9 .neq 6 8]) (.cond 9 (.seq (.ops [.asg 4 (kB false)]) .ret) .skip)) (.seq (.seq (.ops [.fa 10 1 2,.ld 11 1 false 10,.fa 12 1 3,.ld 13 1 false 12,.call (some 14) 112 [11,13],.not 15 14]) (.cond 15 (.seq (.ops [.asg 4 (kB false)]) .ret) .skip)) (.seq (.ops [.asg 4 (kB true)]) .ret))))
theorem cD9:bG Tryz.prog 77=some (bVx,[.mv 0 4],16):=by kernel_rfl
def cQq (r:Bool):Exit→St→Prop:=bF [.mv 0 4] fun x _=>x=(fun y=>(vB y)) r
def aTq:AC:=(.loop (.seq (.seq (.ops [.mv 11 5,.mv 12 0,.len 13 12,.bin 14 .lss 11 13]) (.cond 14 .skip (.exit 0))) (.seq (.block 1 (.seq (.dops [[],[],[0,1],[2],[],[],[4,5],[6],[3,7],[8]] [.mv 17 0,.mv 18 5,.ia 19 2 17 18,.ld 20 2 true 19,.mv 21 1,.mv 22 5,.ia 23 2 21 22,.ld 24 2 true 23,.call (some 25) 130 [20,24],.not 26 25]) (.cond 26 (.seq (.ops [.asg 4 (kB false)]) .ret) .skip))) (.ops [.mv 15 5,.bin 16 .add 15 (kI 1),.asg 5 16]))))
def aYo:AC:=(.seq (.ops [.asg 4 (kB true)]) .ret)
def cLd:AC:=(.seq (.ops [.asg 4 (kB false)]) (.seq (.seq (.ops [.mv 6 0,.len 7 6,.mv 8 1,.len 9 8,.bin 10 .neq 7 9]) (.cond 10 (.seq (.ops [.asg 4 (kB false)]) .ret) .skip)) (.seq (.seq (.ops [.asg 5 (kI 0)]) (.block 0 aTq)) aYo)))
theorem bS4:bG Tryz.prog 112=some (cLd,[.mv 0 4],27):=by kernel_rfl
def aZu (r:Bool):Exit→St→Prop:=bF [.mv 0 4] fun x _=>x=(fun y=>(vB y)) r
def bTw (r:Bool):Exit→St→Prop:=(bJ (wkK (avc Tryz.prog aYo (aZu r))) (aZu r))
def bWp (r:Bool):Exit→St→Prop:=(bM 0 (bTw r))
def cD6 (p0:(List bI)) (p1:(List bI)) (x5:Int):St:=⟨[(0,(jO p0)),(1,(jO p1)),(5,(vI x5))],[]⟩
abbrev aG8 (p0:(List bI)) (p1:(List bI)) (x5:Int) (r:Bool):Prop:=avc Tryz.prog aTq (bWp r) (cD6 p0 p1 x5)
def bWo:AC:=(.seq (.ops [.box 2 111 0,.box 3 111 1,.asg 4 (kB false)]) (.seq (.seq (.ops [.fa 5 0 2,.ld 6 1 false 5,.fa 7 0 3,.ld 8 1 false 7,.bin 9 .neq 6 8]) (.cond 9 (.seq (.ops [.asg 4 (kB false)]) .ret) .skip)) (.seq (.seq (.ops [.fa 10 1 2,.ld 11 1 false 10,.fa 12 1 3,.ld 13 1 false 12,.bin 14 .neq 11 13]) (.cond 14 (.seq (.ops [.asg 4 (kB false)]) .ret) .skip)) (.seq (.ops [.asg 4 (kB true)]) .ret))))
theorem cI4:bG Tryz.prog 130=some (bWo,[.mv 0 4],15):=by kernel_rfl
def cT8 (r:Bool):Exit→St→Prop:=bF [.mv 0 4] fun x _=>x=(fun y=>(vB y)) r
def aRm:AC:=(.loop (.seq (.seq (.ops [.mv 6 5,.mv 7 0,.len 8 7,.bin 9 .lss 6 8]) (.cond 9 .skip (.exit 0))) (.seq (.block 1 (.seq (.seq (.dops [[],[],[0,1],[2],[3],[],[5],[4,6]] [.mv 12 0,.mv 13 5,.ia 14 5 12 13,.fa 15 0 14,.ld 16 1 false 15,.mv 17 1,.call (some 18) 44 [17],.bin 19 .neq 16 18]) (.cond 19 (.seq (.ops [.asg 4 (kI (-1))]) .ret) .skip)) (.seq (.ops [.mv 20 1,.bin 21 .add 20 (kI 1),.asg 1 21]) (.seq (.seq (.dops [[],[],[0,1],[2],[3],[],[5],[4,6]] [.mv 22 0,.mv 23 5,.ia 24 5 22 23,.fa 25 1 24,.ld 26 1 false 25,.mv 27 1,.call (some 28) 44 [27],.bin 29 .neq 26 28]) (.cond 29 (.seq (.ops [.asg 4 (kI (-1))]) .ret) .skip)) (.seq (.ops [.mv 30 1,.bin 31 .add 30 (kI 1),.asg 1 31]) (.seq (.seq (.ops [.mv 32 0,.mv 33 5,.ia 34 5 32 33,.fa 35 2 34,.ld 36 1 false 35,.mv 37 1,.bin 38 .neq 36 37]) (.cond 38 (.seq (.ops [.asg 4 (kI (-1))]) .ret) .skip)) (.seq (.ops [.mv 39 1,.bin 40 .add 39 (kI 1),.asg 1 40]) (.seq (.seq (.ops [.mv 41 0,.mv 42 5,.ia 43 5 41 42,.fa 44 3 43,.ld 45 1 false 44,.mv 46 1,.bin 47 .neq 45 46]) (.cond 47 (.seq (.ops [.asg 4 (kI (-1))]) .ret) .skip)) (.seq (.ops [.mv 48 1,.bin 49 .add 48 (kI 1),.asg 1 49]) (.seq (.seq (.ops [.mv 50 0,.mv 51 5,.ia 52 5 50 51,.fa 53 4 52,.ld 54 1 false 53,.mv 55 1,.bin 56 .neq 54 55]) (.cond 56 (.seq (.ops [.asg 4 (kI (-1))]) .ret) .skip)) (.ops [.mv 57 1,.bin 58 .add 57 (kI 1),.asg 1 58]))))))))))) (.ops [.mv 10 5,.bin 11 .add 10 (kI 1),.asg 5 11]))))
def bJk:AC:=(.seq (.ops [.mv 59 1,.asg 4 59]) .ret)
def cM5:AC:=(.seq (.ops [.asg 4 (kI 0)]) (.seq (.seq (.ops [.asg 5 (kI 0)]) (.block 0 aRm)) bJk))
theorem bZf:bG Tryz.prog 16=some (cM5,[.mv 0 4],60):=by kernel_rfl
def bG0 (r:Int):Exit→St→Prop:=bF [.mv 0 4] fun x _=>x=(fun y=>(vI y)) r
def bQ7 (r:Int):Exit→St→Prop:=(bJ (wkK (avc Tryz.prog bJk (bG0 r))) (bG0 r))
def bSb (r:Int):Exit→St→Prop:=(bM 0 (bQ7 r))
def bNc (p0:(List aB)) (x1:Int) (x5:Int):St:=⟨[(0,(aBe p0)),(1,(vI x1)),(5,(vI x5))],[]⟩
abbrev aHi (p0:(List aB)) (x1:Int) (x5:Int) (r:Int):Prop:=avc Tryz.prog aRm (bSb r) (bNc p0 x1 x5)
def aOj:AC:=(.loop (.seq (.seq (.ops [.mv 6 0,.bin 7 .gtr 6 (kI 0)]) (.cond 7 .skip (.exit 0))) (.block 1 (.seq (.ops [.mv 8 0,.bin 9 .rem 8 (kI 10),.bin 10 .add (kI 48) 9,.cvi 11 .u8 10,.bsl 12 5 1 [11],.cbs 13 12,.mv 14 3,.bin 15 .add 13 14,.asg 3 15]) (.ops [.mv 16 0,.bin 17 .quo 16 (kI 10),.asg 0 17])))))
def aXr:AC:=(.seq (.ops [.mv 18 3,.bin 19 .add (.c (.d (.s (bs [109])))) 18,.asg 2 19]) .ret)
def bNs:AC:=(.seq (.ops [.asg 2 (.c (.d (.s (bs []))))]) (.seq (.seq (.ops [.mv 4 0,.bin 5 .leq 4 (kI 0)]) (.cond 5 (.seq (.ops [.asg 2 (.c (.d (.s (bs [109,48]))))]) .ret) .skip)) (.seq (.ops [.asg 3 (.c (.d (.s (bs []))))]) (.seq (.block 0 aOj) aXr))))
theorem bMs:bG Tryz.prog 44=some (bNs,[.mv 0 2],20):=by kernel_rfl
def bCl (r:(List UInt8)):Exit→St→Prop:=bF [.mv 0 2] fun x _=>x=(fun y=>(vS y)) r
def bMg (r:(List UInt8)):Exit→St→Prop:=(bJ (wkK (avc Tryz.prog aXr (bCl r))) (bCl r))
def bMo (r:(List UInt8)):Exit→St→Prop:=(bM 0 (bMg r))
def bLb (x0:Int) (x3:(List UInt8)):St:=⟨[(0,(vI x0)),(3,(vS x3))],[]⟩
abbrev aJr (x0:Int) (x3:(List UInt8)) (r:(List UInt8)):Prop:=avc Tryz.prog aOj (bMo r) (bLb x0 x3)
def cL1:AC:=(.seq (.ops [.box 2 24 0,.asg 4 (kI 0)]) (.seq (.ops [.fa 5 0 2,.ld 6 1 false 5,.mv 7 1,.call (some 8) 17 [6,7],.asg 1 8]) (.seq (.seq (.ops [.mv 9 1,.bin 10 .lss 9 (kI 0)]) (.cond 10 (.seq (.ops [.asg 4 (kI (-1))]) .ret) .skip)) (.seq (.ops [.mv 11 1,.asg 4 11]) .ret))))
theorem bRb:bG Tryz.prog 4=some (cL1,[.mv 0 4],12):=by kernel_rfl
def cPj (r:Int):Exit→St→Prop:=bF [.mv 0 4] fun x _=>x=(fun y=>(vI y)) r
def aOk:AC:=(.loop (.seq (.seq (.ops [.mv 12 5,.mv 13 0,.len 14 13,.bin 15 .lss 12 14]) (.cond 15 .skip (.exit 0))) (.seq (.block 1 (.seq (.ops [.mv 18 0,.mv 19 5,.ia 20 2 18 19,.ld 21 2 true 20,.mv 22 1,.call (some 23) 45 [21,22],.asg 1 23]) (.seq (.ops [.mv 24 1,.bin 25 .lss 24 (kI 0)]) (.cond 25 (.seq (.ops [.asg 4 (kI (-1))]) .ret) .skip)))) (.ops [.mv 16 5,.bin 17 .add 16 (kI 1),.asg 5 17]))))
def bAf:AC:=(.seq (.ops [.mv 26 1,.asg 4 26]) .ret)
def bPr:AC:=(.seq (.ops [.asg 4 (kI 0)]) (.seq (.ops [.mv 6 1,.mv 7 0,.len 8 7,.bin 9 .sub 6 8,.asg 1 9]) (.seq (.seq (.ops [.mv 10 1,.bin 11 .lss 10 (kI 0)]) (.cond 11 (.seq (.ops [.asg 4 (kI (-1))]) .ret) .skip)) (.seq (.seq (.ops [.asg 5 (kI 0)]) (.block 0 aOk)) bAf))))
theorem cJ5:bG Tryz.prog 17=some (bPr,[.mv 0 4],27):=by kernel_rfl
def bJm (r:Int):Exit→St→Prop:=bF [.mv 0 4] fun x _=>x=(fun y=>(vI y)) r
def cNa (r:Int):Exit→St→Prop:=(bJ (wkK (avc Tryz.prog bAf (bJm r))) (bJm r))
def bWl (r:Int):Exit→St→Prop:=(bM 0 (cNa r))
def cJ3 (p0:(List aP)) (x1:Int) (x5:Int):St:=⟨[(0,(dW p0)),(1,(vI x1)),(5,(vI x5))],[]⟩
abbrev aIq (p0:(List aP)) (x1:Int) (x5:Int) (r:Int):Prop:=avc Tryz.prog aOk (bWl r) (cJ3 p0 x1 x5)
def cAl:AC:=(.seq (.ops [.box 2 88 0,.asg 4 (kI 0)]) (.seq (.ops [.mv 5 1,.fa 6 0 2,.ld 7 1 false 6,.lns 8 7,.bin 9 .sub 5 8,.asg 1 9]) (.seq (.seq (.ops [.mv 10 1,.bin 11 .lss 10 (kI 0)]) (.cond 11 (.seq (.ops [.asg 4 (kI (-1))]) .ret) .skip)) (.seq (.ops [.fa 12 1 2,.ld 13 1 false 12,.mv 14 1,.call (some 15) 84 [13,14],.asg 1 15]) (.seq (.seq (.ops [.mv 16 1,.bin 17 .lss 16 (kI 0)]) (.cond 17 (.seq (.ops [.asg 4 (kI (-1))]) .ret) .skip)) (.seq (.ops [.mv 18 1,.asg 4 18]) .ret))))))
theorem bY5:bG Tryz.prog 45=some (cAl,[.mv 0 4],19):=by kernel_rfl
def cS9 (r:Int):Exit→St→Prop:=bF [.mv 0 4] fun x _=>x=(fun y=>(vI y)) r
def aS0:AC:=(.loop (.seq (.seq (.ops [.mv 12 5,.mv 13 0,.len 14 13,.bin 15 .lss 12 14]) (.cond 15 .skip (.exit 0))) (.seq (.block 1 (.seq (.ops [.mv 18 0,.mv 19 5,.ia 20 2 18 19,.ld 21 2 true 20,.mv 22 1,.call (some 23) 115 [21,22],.asg 1 23]) (.seq (.ops [.mv 24 1,.bin 25 .lss 24 (kI 0)]) (.cond 25 (.seq (.ops [.asg 4 (kI (-1))]) .ret) .skip)))) (.ops [.mv 16 5,.bin 17 .add 16 (kI 1),.asg 5 17]))))
def bCj:AC:=(.seq (.ops [.mv 26 1,.asg 4 26]) .ret)
def bUd:AC:=(.seq (.ops [.asg 4 (kI 0)]) (.seq (.ops [.mv 6 1,.mv 7 0,.len 8 7,.bin 9 .sub 6 8,.asg 1 9]) (.seq (.seq (.ops [.mv 10 1,.bin 11 .lss 10 (kI 0)]) (.cond 11 (.seq (.ops [.asg 4 (kI (-1))]) .ret) .skip)) (.seq (.seq (.ops [.asg 5 (kI 0)]) (.block 0 aS0)) bCj))))
theorem bPb:bG Tryz.prog 84=some (bUd,[.mv 0 4],27):=by kernel_rfl
def bJu (r:Int):Exit→St→Prop:=bF [.mv 0 4] fun x _=>x=(fun y=>(vI y)) r
def cO9 (r:Int):Exit→St→Prop:=(bJ (wkK (avc Tryz.prog bCj (bJu r))) (bJu r))
def bUz (r:Int):Exit→St→Prop:=(bM 0 (cO9 r))
def cDs (p0:(List bI)) (x1:Int) (x5:Int):St:=⟨[(0,(jO p0)),(1,(vI x1)),(5,(vI x5))],[]⟩
abbrev aLn (p0:(List bI)) (x1:Int) (x5:Int) (r:Int):Prop:=avc Tryz.prog aS0 (bUz r) (cDs p0 x1 x5)
def bOc:AC:=(.seq (.ops [.box 2 177 0,.asg 4 (kI 0)]) (.seq (.ops [.mv 5 1,.fa 6 0 2,.ld 7 1 false 6,.lns 8 7,.bin 9 .sub 5 8,.asg 1 9]) (.seq (.seq (.ops [.mv 10 1,.bin 11 .lss 10 (kI 0)]) (.cond 11 (.seq (.ops [.asg 4 (kI (-1))]) .ret) .skip)) (.seq (.ops [.mv 12 1,.asg 4 12]) .ret))))
theorem cKh:bG Tryz.prog 115=some (bOc,[.mv 0 4],13):=by kernel_rfl
def cTz (r:Int):Exit→St→Prop:=bF [.mv 0 4] fun x _=>x=(fun y=>(vI y)) r
def cCr:AC:=(.seq (.ops [.box 1 30 0,.alc 2 uX]) (.seq (.ops [.alc 3 uX]) (.seq (.ops [.fa 4 0 1,.ld 5 1 false 4,.fa 6 0 3,.st 1 6 5]) (.seq (.ops [.fa 7 1 1,.ld 8 1 false 7,.call (some 9) 26 [8],.fa 10 1 3,.st 1 10 9]) (.seq (.ops [.fa 11 2 1,.ld 12 1 false 11,.call (some 13) 27 [12],.fa 14 2 3,.st 1 14 13]) (.seq (.ops [.fa 15 3 1,.ld 16 1 false 15,.call (some 17) 28 [16],.fa 18 3 3,.st 1 18 17]) (.seq (.ops [.fa 19 4 1,.ld 20 1 false 19,.call (some 21) 29 [20],.fa 22 4 3,.st 1 22 21]) (.seq (.ops [.fa 23 5 1,.ld 24 1 false 23,.fa 25 5 3,.st 1 25 24]) (.seq (.ops [.ld 26 6 true 3,.st 6 2 26]) .ret)))))))))
theorem bSr:bG Tryz.prog 8=some (cCr,[.ld 0 6 true 2],27):=by kernel_rfl
def cSz (r:aJ):Exit→St→Prop:=bF [.ld 0 6 true 2] fun x b=>x=(fun (y:aJ)=>(.agv [(vB y.distinct),(.tre 10000001),(.tre 10000002),(.tre 10000003),(.tre 10000004),(vI y.limit)])) r∧bV ((fun (y:aJ)=>[(10000001,[(.trc 13 (y.items.map dF))]),(10000002,[(.trc 3 (y.from_.map dZ))]),(10000003,[(.trc 10 (y.where_.map bN))]),(10000004,[(.trc 11 (y.order.map dJ))])]) r) b
def aVo:AC:=(.loop (.seq (.seq (.ops [.mv 8 4,.mv 9 0,.len 10 9,.bin 11 .lss 8 10]) (.cond 11 .skip (.exit 0))) (.seq (.block 1 (.ops [.mv 14 3,.mv 15 4,.mv 16 0,.mv 17 4,.ia 18 3 16 17,.ld 19 3 true 18,.call (some 20) 64 [19],.ia 21 3 14 15,.st 3 21 20])) (.ops [.mv 12 4,.bin 13 .add 12 (kI 1),.asg 4 13]))))
def aYd:AC:=(.seq (.ops [.mv 22 3,.asg 2 22]) .ret)
def bL4:AC:=(.seq (.ops [.asg 2 (.c (.nil 3))]) (.seq (.ops [.mv 5 0,.len 6 5,.mks 7 123 3 56 [(.s (bs [])),(.s (bs [])),(.sl 10 [])] 6 6,.asg 3 7]) (.seq (.seq (.ops [.asg 4 (kI 0)]) (.block 0 aVo)) aYd)))
theorem bLh:bG Tryz.prog 27=some (bL4,[.mv 0 2],23):=by kernel_rfl
def aZ3 (r:(List aV)):Exit→St→Prop:=bF [.mv 0 2] fun x b=>x=(fun (y:(List aV))=>(.tre 10000000)) r∧bV ((fun (y:(List aV))=>[(10000000,[(.trc 3 (y.map dZ))])]) r) b
def cDf (r:(List aV)):Exit→St→Prop:=(bJ (wkK (avc Tryz.prog aYd (aZ3 r))) (aZ3 r))
def cO0 (r:(List aV)):Exit→St→Prop:=(bM 0 (cDf r))
def cBn (p0:(List aV)) (x4:Int) (bH:(List aV)):St:=⟨[(0,(eD p0)),(3,(.tre 60014000)),(4,(vI x4))],[(60014000,[(.trc 3 (bH.map dZ))])]⟩
abbrev aKb (p0:(List aV)) (x4:Int) (bH:(List aV)) (r:(List aV)):Prop:=avc Tryz.prog aVo (cO0 r) (cBn p0 x4 bH)
def cJa:AC:=(.seq (.ops [.box 1 99 0,.alc 2 [bX,bX,(.nil 10)]]) (.seq (.ops [.alc 3 [bX,bX,(.nil 10)]]) (.seq (.ops [.fa 4 0 1,.ld 5 1 false 4,.fa 6 0 3,.st 1 6 5]) (.seq (.ops [.fa 7 1 1,.ld 8 1 false 7,.fa 9 1 3,.st 1 9 8]) (.seq (.ops [.fa 10 2 1,.ld 11 1 false 10,.call (some 12) 28 [11],.fa 13 2 3,.st 1 13 12]) (.seq (.ops [.ld 14 3 true 3,.st 3 2 14]) .ret))))))
theorem bOy:bG Tryz.prog 64=some (cJa,[.ld 0 3 true 2],15):=by kernel_rfl
def cSr (r:aV):Exit→St→Prop:=bF [.ld 0 3 true 2] fun x b=>x=(fun (y:aV)=>(.agv [(vS y.table),(vS y.as_),(.tre 10000002)])) r∧bV ((fun (y:aV)=>[(10000002,[(.trc 10 (y.on_.map bN))])]) r) b
def aU3:AC:=(.loop (.seq (.seq (.ops [.mv 8 4,.mv 9 0,.len 10 9,.bin 11 .lss 8 10]) (.cond 11 .skip (.exit 0))) (.seq (.block 1 (.ops [.mv 14 3,.mv 15 4,.mv 16 0,.mv 17 4,.ia 18 10 16 17,.ld 19 10 true 18,.call (some 20) 65 [19],.ia 21 10 14 15,.st 10 21 20])) (.ops [.mv 12 4,.bin 13 .add 12 (kI 1),.asg 4 13]))))
def bIb:AC:=(.seq (.ops [.mv 22 3,.asg 2 22]) .ret)
def bTa:AC:=(.seq (.ops [.asg 2 (.c (.nil 10))]) (.seq (.ops [.mv 5 0,.len 6 5,.mks 7 128 10 136 [(.i .i64 0),(.i .i64 0),(.b false),(.i .i64 0),(.i .i64 0),(.s (bs [])),(.s (bs [])),(.s (bs [])),(.sl 10 []),(.sl 6 [])] 6 6,.asg 3 7]) (.seq (.seq (.ops [.asg 4 (kI 0)]) (.block 0 aU3)) bIb)))
theorem bY4:bG Tryz.prog 28=some (bTa,[.mv 0 2],23):=by kernel_rfl
def aYr (r:(List aA)):Exit→St→Prop:=bF [.mv 0 2] fun x b=>x=(fun (y:(List aA))=>(.tre 10000000)) r∧bV ((fun (y:(List aA))=>[(10000000,[(.trc 10 (y.map bN))])]) r) b
def bTo (r:(List aA)):Exit→St→Prop:=(bJ (wkK (avc Tryz.prog bIb (aYr r))) (aYr r))
def bZk (r:(List aA)):Exit→St→Prop:=(bM 0 (bTo r))
def cMz (p0:(List aA)) (x4:Int) (bH:(List aA)):St:=⟨[(0,(bZ p0)),(3,(.tre 60014000)),(4,(vI x4))],[(60014000,[(.trc 10 (bH.map bN))])]⟩
abbrev aLc (p0:(List aA)) (x4:Int) (bH:(List aA)) (r:(List aA)):Prop:=avc Tryz.prog aU3 (bZk r) (cMz p0 x4 bH)
def bQk:AC:=(.seq (.ops [.box 1 94 0,.alc 2 vX]) (.seq (.ops [.alc 3 vX]) (.seq (.ops [.fa 4 0 1,.ld 5 1 false 4,.fa 6 0 3,.st 1 6 5]) (.seq (.ops [.fa 7 1 1,.ld 8 1 false 7,.fa 9 1 3,.st 1 9 8]) (.seq (.ops [.fa 10 2 1,.ld 11 1 false 10,.fa 12 2 3,.st 1 12 11]) (.seq (.ops [.fa 13 3 1,.ld 14 3 true 13,.call (some 15) 98 [14],.fa 16 3 3,.st 3 16 15]) (.seq (.ops [.fa 17 6 1,.ld 18 1 false 17,.fa 19 6 3,.st 1 19 18]) (.seq (.ops [.fa 20 7 1,.ld 21 1 false 20,.fa 22 7 3,.st 1 22 21]) (.seq (.ops [.fa 23 8 1,.ld 24 1 false 23,.call (some 25) 28 [24],.fa 26 8 3,.st 1 26 25]) (.seq (.ops [.fa 27 9 1,.ld 28 1 false 27,.call (some 29) 99 [28],.fa 30 9 3,.st 1 30 29]) (.seq (.ops [.ld 31 10 true 3,.st 10 2 31]) .ret)))))))))))
theorem cF7:bG Tryz.prog 65=some (bQk,[.ld 0 10 true 2],32):=by kernel_rfl
def cUj (r:aA):Exit→St→Prop:=bF [.ld 0 10 true 2] fun x b=>x=(fun (y:aA)=>(.agv [(vI y.kind),(vI y.op),(vB y.not_),(vI y.value.kind),(vI y.value.num),(vS y.value.text),(vS y.qual),(vS y.name),(.tre 10000008),(.tre 10000009)])) r∧bV ((fun (y:aA)=>[(10000008,[(.trc 10 (y.kids.map bN))]),(10000009,[(.trc 6 (y.sub.map dI))])]) r) b
def cLs:AC:=(.seq (.ops [.box 1 91 0,.alc 2 [bS,bS,bX]]) (.seq (.ops [.alc 3 [bS,bS,bX]]) (.seq (.ops [.fa 4 0 1,.ld 5 1 false 4,.fa 6 0 3,.st 1 6 5]) (.seq (.ops [.fa 7 1 1,.ld 8 1 false 7,.fa 9 1 3,.st 1 9 8]) (.seq (.ops [.fa 10 2 1,.ld 11 1 false 10,.fa 12 2 3,.st 1 12 11]) (.seq (.ops [.ld 13 3 true 3,.st 3 2 13]) .ret))))))
theorem bVg:bG Tryz.prog 98=some (cLs,[.ld 0 3 true 2],14):=by kernel_rfl
def cUx (r:dV):Exit→St→Prop:=bF [.ld 0 3 true 2] fun x _=>x=(fun y=>(vH y)) r
def aSb:AC:=(.loop (.seq (.seq (.ops [.mv 8 4,.mv 9 0,.len 10 9,.bin 11 .lss 8 10]) (.cond 11 .skip (.exit 0))) (.seq (.block 1 (.ops [.mv 14 3,.mv 15 4,.mv 16 0,.mv 17 4,.ia 18 6 16 17,.ld 19 6 true 18,.call (some 20) 8 [19],.ia 21 6 14 15,.st 6 21 20])) (.ops [.mv 12 4,.bin 13 .add 12 (kI 1),.asg 4 13]))))
def aZv:AC:=(.seq (.ops [.mv 22 3,.asg 2 22]) .ret)
def cAu:AC:=(.seq (.ops [.asg 2 (.c (.nil 6))]) (.seq (.ops [.mv 5 0,.len 6 5,.mks 7 45 6 112 [(.b false),(.sl 13 []),(.sl 3 []),(.sl 10 []),(.sl 11 []),(.i .i64 0)] 6 6,.asg 3 7]) (.seq (.seq (.ops [.asg 4 (kI 0)]) (.block 0 aSb)) aZv)))
theorem bZb:bG Tryz.prog 99=some (cAu,[.mv 0 2],23):=by kernel_rfl
def bFf (r:(List aJ)):Exit→St→Prop:=bF [.mv 0 2] fun x b=>x=(fun (y:(List aJ))=>(.tre 10000000)) r∧bV ((fun (y:(List aJ))=>[(10000000,[(.trc 6 (y.map dI))])]) r) b
def bQv (r:(List aJ)):Exit→St→Prop:=(bJ (wkK (avc Tryz.prog aZv (bFf r))) (bFf r))
def cO8 (r:(List aJ)):Exit→St→Prop:=(bM 0 (bQv r))
def bQj (p0:(List aJ)) (x4:Int) (bH:(List aJ)):St:=⟨[(0,(fE p0)),(3,(.tre 60014000)),(4,(vI x4))],[(60014000,[(.trc 6 (bH.map dI))])]⟩
abbrev aFo (p0:(List aJ)) (x4:Int) (bH:(List aJ)) (r:(List aJ)):Prop:=avc Tryz.prog aSb (cO8 r) (bQj p0 x4 bH)
def aVb:AC:=(.loop (.seq (.seq (.ops [.mv 8 4,.mv 9 0,.len 10 9,.bin 11 .lss 8 10]) (.cond 11 .skip (.exit 0))) (.seq (.block 1 (.ops [.mv 14 3,.mv 15 4,.mv 16 0,.mv 17 4,.ia 18 11 16 17,.ld 19 11 true 18,.call (some 20) 66 [19],.ia 21 11 14 15,.st 11 21 20])) (.ops [.mv 12 4,.bin 13 .add 12 (kI 1),.asg 4 13]))))
def bH0:AC:=(.seq (.ops [.mv 22 3,.asg 2 22]) .ret)
def cGb:AC:=(.seq (.ops [.asg 2 (.c (.nil 11))]) (.seq (.ops [.mv 5 0,.len 6 5,.mks 7 130 11 144 [(.i .i64 0),(.i .i64 0),(.b false),(.i .i64 0),(.i .i64 0),(.s (bs [])),(.s (bs [])),(.s (bs [])),(.sl 10 []),(.sl 6 []),(.b false)] 6 6,.asg 3 7]) (.seq (.seq (.ops [.asg 4 (kI 0)]) (.block 0 aVb)) bH0)))
theorem cJj:bG Tryz.prog 29=some (cGb,[.mv 0 2],23):=by kernel_rfl
def bKc (r:(List bC)):Exit→St→Prop:=bF [.mv 0 2] fun x b=>x=(fun (y:(List bC))=>(.tre 10000000)) r∧bV ((fun (y:(List bC))=>[(10000000,[(.trc 11 (y.map dJ))])]) r) b
def bOx (r:(List bC)):Exit→St→Prop:=(bJ (wkK (avc Tryz.prog bH0 (bKc r))) (bKc r))
def bRa (r:(List bC)):Exit→St→Prop:=(bM 0 (bOx r))
def bLs (p0:(List bC)) (x4:Int) (bH:(List bC)):St:=⟨[(0,(fP p0)),(3,(.tre 60014000)),(4,(vI x4))],[(60014000,[(.trc 11 (bH.map dJ))])]⟩
abbrev aGj (p0:(List bC)) (x4:Int) (bH:(List bC)) (r:(List bC)):Prop:=avc Tryz.prog aVb (bRa r) (bLs p0 x4 bH)
def cGn:AC:=(.seq (.ops [.box 1 103 0,.alc 2 zV]) (.seq (.ops [.alc 3 zV]) (.seq (.ops [.fa 4 0 1,.ld 5 10 true 4,.call (some 6) 65 [5],.fa 7 0 3,.st 10 7 6]) (.seq (.ops [.fa 8 10 1,.ld 9 1 false 8,.fa 10 10 3,.st 1 10 9]) (.seq (.ops [.ld 11 11 true 3,.st 11 2 11]) .ret)))))
theorem cMe:bG Tryz.prog 66=some (cGn,[.ld 0 11 true 2],12):=by kernel_rfl
def cP8 (r:bC):Exit→St→Prop:=bF [.ld 0 11 true 2] fun x b=>x=(fun (y:bC)=>(.agv [(vI y.expr.kind),(vI y.expr.op),(vB y.expr.not_),(vI y.expr.value.kind),(vI y.expr.value.num),(vS y.expr.value.text),(vS y.expr.qual),(vS y.expr.name),(.tre 10000008),(.tre 10000009),(vB y.desc)])) r∧bV ((fun (y:bC)=>[(10000008,[(.trc 10 (y.expr.kids.map bN))]),(10000009,[(.trc 6 (y.expr.sub.map dI))])]) r) b
def aRh:AC:=(.loop (.seq (.seq (.ops [.mv 8 4,.mv 9 0,.len 10 9,.bin 11 .lss 8 10]) (.cond 11 .skip (.exit 0))) (.seq (.block 1 (.ops [.mv 14 3,.mv 15 4,.mv 16 0,.mv 17 4,.ia 18 13 16 17,.ld 19 13 true 18,.call (some 20) 63 [19],.ia 21 13 14 15,.st 13 21 20])) (.ops [.mv 12 4,.bin 13 .add 12 (kI 1),.asg 4 13]))))
def bGb:AC:=(.seq (.ops [.mv 22 3,.asg 2 22]) .ret)
def bP6:AC:=(.seq (.ops [.asg 2 (.c (.nil 13))]) (.seq (.ops [.mv 5 0,.len 6 5,.mks 7 132 13 176 [(.b false),(.s (bs [])),(.i .i64 0),(.i .i64 0),(.b false),(.i .i64 0),(.i .i64 0),(.s (bs [])),(.s (bs [])),(.s (bs [])),(.sl 10 []),(.sl 6 []),(.s (bs []))] 6 6,.asg 3 7]) (.seq (.seq (.ops [.asg 4 (kI 0)]) (.block 0 aRh)) bGb)))
theorem bXz:bG Tryz.prog 26=some (bP6,[.mv 0 2],23):=by kernel_rfl
def bGf (r:(List bA)):Exit→St→Prop:=bF [.mv 0 2] fun x b=>x=(fun (y:(List bA))=>(.tre 10000000)) r∧bV ((fun (y:(List bA))=>[(10000000,[(.trc 13 (y.map dF))])]) r) b
def cJ1 (r:(List bA)):Exit→St→Prop:=(bJ (wkK (avc Tryz.prog bGb (bGf r))) (bGf r))
def cEk (r:(List bA)):Exit→St→Prop:=(bM 0 (cJ1 r))
def cGw (p0:(List bA)) (x4:Int) (bH:(List bA)):St:=⟨[(0,(fU p0)),(3,(.tre 60014000)),(4,(vI x4))],[(60014000,[(.trc 13 (bH.map dF))])]⟩
abbrev aK6 (p0:(List bA)) (x4:Int) (bH:(List bA)) (r:(List bA)):Prop:=avc Tryz.prog aRh (cEk r) (cGw p0 x4 bH)
def bPf:AC:=(.seq (.ops [.box 1 96 0,.alc 2 rG]) (.seq (.ops [.alc 3 rG]) (.seq (.ops [.fa 4 0 1,.ld 5 1 false 4,.fa 6 0 3,.st 1 6 5]) (.seq (.ops [.fa 7 1 1,.ld 8 1 false 7,.fa 9 1 3,.st 1 9 8]) (.seq (.ops [.fa 10 2 1,.ld 11 10 true 10,.call (some 12) 65 [11],.fa 13 2 3,.st 10 13 12]) (.seq (.ops [.fa 14 12 1,.ld 15 1 false 14,.fa 16 12 3,.st 1 16 15]) (.seq (.ops [.ld 17 13 true 3,.st 13 2 17]) .ret)))))))
theorem bLu:bG Tryz.prog 63=some (bPf,[.ld 0 13 true 2],18):=by kernel_rfl
def cPt (r:bA):Exit→St→Prop:=bF [.ld 0 13 true 2] fun x b=>x=(fun (y:bA)=>(.agv [(vB y.star),(vS y.qual),(vI y.expr.kind),(vI y.expr.op),(vB y.expr.not_),(vI y.expr.value.kind),(vI y.expr.value.num),(vS y.expr.value.text),(vS y.expr.qual),(vS y.expr.name),(.tre 10000010),(.tre 10000011),(vS y.as_)])) r∧bV ((fun (y:bA)=>[(10000010,[(.trc 10 (y.expr.kids.map bN))]),(10000011,[(.trc 6 (y.expr.sub.map dI))])]) r) b
def bXr:AC:=(.seq (.ops [.box 2 45 0,.asg 4 (kI 0)]) (.seq (.ops [.fa 5 1 2,.ld 6 1 false 5,.mv 7 1,.call (some 8) 40 [6,7],.asg 1 8]) (.seq (.ops [.fa 9 2 2,.ld 10 1 false 9,.mv 11 1,.call (some 12) 41 [10,11],.asg 1 12]) (.seq (.ops [.fa 13 3 2,.ld 14 1 false 13,.mv 15 1,.call (some 16) 42 [14,15],.asg 1 16]) (.seq (.ops [.fa 17 4 2,.ld 18 1 false 17,.mv 19 1,.call (some 20) 43 [18,19],.asg 1 20]) (.seq (.ops [.mv 21 1,.asg 4 21]) .ret))))))
theorem cE8:bG Tryz.prog 14=some (bXr,[.mv 0 4],22):=by kernel_rfl
def cTp (r:Int×(List bA)×(List aV)×(List aA)×(List bC)):Exit→St→Prop:=bF [.mv 0 4] fun x b=>x=(fun (y:Int×(List bA)×(List aV)×(List aA)×(List bC))=>(vI y.1)) r∧bV ((fun (y:Int×(List bA)×(List aV)×(List aA)×(List bC))=>[(3000001,[(.trc 13 (y.2.1.map dF))]),(3000002,[(.trc 3 (y.2.2.1.map dZ))]),(3000003,[(.trc 10 (y.2.2.2.1.map bN))]),(3000004,[(.trc 11 (y.2.2.2.2.map dJ))])]) r) b
def aRv:AC:=(.loop (.seq (.seq (.ops [.mv 6 5,.mv 7 0,.len 8 7,.bin 9 .lss 6 8]) (.cond 9 .skip (.exit 0))) (.seq (.block 1 (.seq (.ops [.mv 12 0,.mv 13 5,.mv 14 1,.bin 15 .rem 14 (kI 3),.bin 16 .eql 15 (kI 0),.ia 17 13 12 13,.fa 18 0 17,.st 1 18 16]) (.seq (.ops [.mv 19 1,.bin 20 .add 19 (kI 1),.asg 1 20]) (.seq (.ops [.mv 21 0,.mv 22 5,.mv 23 1,.call (some 24) 44 [23],.ia 25 13 21 22,.fa 26 1 25,.st 1 26 24]) (.seq (.ops [.mv 27 1,.bin 28 .add 27 (kI 1),.asg 1 28]) (.seq (.ops [.mv 29 0,.mv 30 5,.mv 31 1,.ia 32 13 29 30,.fa 33 2 32,.fa 34 0 33,.st 1 34 31]) (.seq (.ops [.mv 35 1,.bin 36 .add 35 (kI 1),.asg 1 36]) (.seq (.ops [.mv 37 0,.mv 38 5,.mv 39 1,.ia 40 13 37 38,.fa 41 2 40,.fa 42 1 41,.st 1 42 39]) (.seq (.ops [.mv 43 1,.bin 44 .add 43 (kI 1),.asg 1 44]) (.seq (.ops [.mv 45 0,.mv 46 5,.mv 47 1,.bin 48 .rem 47 (kI 3),.bin 49 .eql 48 (kI 0),.ia 50 13 45 46,.fa 51 2 50,.fa 52 2 51,.st 1 52 49]) (.seq (.ops [.mv 53 1,.bin 54 .add 53 (kI 1),.asg 1 54]) (.seq (.ops [.mv 55 0,.mv 56 5,.mv 57 1,.ia 58 13 55 56,.fa 59 2 58,.fa 60 3 59,.fa 61 0 60,.st 1 61 57]) (.seq (.ops [.mv 62 1,.bin 63 .add 62 (kI 1),.asg 1 63]) (.seq (.ops [.mv 64 0,.mv 65 5,.mv 66 1,.ia 67 13 64 65,.fa 68 2 67,.fa 69 3 68,.fa 70 1 69,.st 1 70 66]) (.seq (.ops [.mv 71 1,.bin 72 .add 71 (kI 1),.asg 1 72]) (.seq (.ops [.mv 73 0,.mv 74 5,.mv 75 1,.call (some 76) 44 [75],.ia 77 13 73 74,.fa 78 2 77,.fa 79 3 78,.fa 80 2 79,.st 1 80 76]) (.seq (.ops [.mv 81 1,.bin 82 .add 81 (kI 1),.asg 1 82]) (.seq (.ops [.mv 83 0,.mv 84 5,.mv 85 1,.call (some 86) 44 [85],.ia 87 13 83 84,.fa 88 2 87,.fa 89 6 88,.st 1 89 86]) (.seq (.ops [.mv 90 1,.bin 91 .add 90 (kI 1),.asg 1 91]) (.seq (.ops [.mv 92 0,.mv 93 5,.mv 94 1,.call (some 95) 44 [94],.ia 96 13 92 93,.fa 97 2 96,.fa 98 7 97,.st 1 98 95]) (.seq (.ops [.mv 99 1,.bin 100 .add 99 (kI 1),.asg 1 100]) (.seq (.ops [.mv 101 0,.mv 102 5,.ia 103 13 101 102,.fa 104 2 103,.fa 105 8 104,.ld 106 1 false 105,.mv 107 1,.call (some 108) 42 [106,107],.asg 1 108]) (.seq (.ops [.mv 109 0,.mv 110 5,.ia 111 13 109 110,.fa 112 2 111,.fa 113 9 112,.ld 114 1 false 113,.mv 115 1,.call (some 116) 83 [114,115],.asg 1 116]) (.seq (.ops [.mv 117 0,.mv 118 5,.mv 119 1,.call (some 120) 44 [119],.ia 121 13 117 118,.fa 122 12 121,.st 1 122 120]) (.ops [.mv 123 1,.bin 124 .add 123 (kI 1),.asg 1 124]))))))))))))))))))))))))) (.ops [.mv 10 5,.bin 11 .add 10 (kI 1),.asg 5 11]))))
def bJl:AC:=(.seq (.ops [.mv 125 1,.asg 4 125]) .ret)
def cCq:AC:=(.seq (.ops [.asg 4 (kI 0)]) (.seq (.seq (.ops [.asg 5 (kI 0)]) (.block 0 aRv)) bJl))
theorem bZc:bG Tryz.prog 40=some (cCq,[.mv 0 4],126):=by kernel_rfl
def bIc (r:Int×(List bA)):Exit→St→Prop:=bF [.mv 0 4] fun x b=>x=(fun (y:Int×(List bA))=>(vI y.1)) r∧bV ((fun (y:Int×(List bA))=>[(3000000,[(.trc 13 (y.2.map dF))])]) r) b
def cGu (r:Int×(List bA)):Exit→St→Prop:=(bJ (wkK (avc Tryz.prog bJl (bIc r))) (bIc r))
def cD7 (r:Int×(List bA)):Exit→St→Prop:=(bM 0 (cGu r))
def bJt (x1:Int) (x5:Int) (aQ:(List bA)):St:=⟨[(0,(.tre 3000000)),(1,(vI x1)),(5,(vI x5))],[(3000000,[(.trc 13 (aQ.map dF))])]⟩
abbrev aHy (x1:Int) (x5:Int) (aQ:(List bA)) (r:Int×(List bA)):Prop:=avc Tryz.prog aRv (cD7 r) (bJt x1 x5 aQ)
def aQ8:AC:=(.loop (.seq (.seq (.ops [.mv 6 5,.mv 7 0,.len 8 7,.bin 9 .lss 6 8]) (.cond 9 .skip (.exit 0))) (.seq (.block 1 (.seq (.ops [.mv 12 0,.mv 13 5,.mv 14 1,.ia 15 10 12 13,.fa 16 0 15,.st 1 16 14]) (.seq (.ops [.mv 17 1,.bin 18 .add 17 (kI 1),.asg 1 18]) (.seq (.ops [.mv 19 0,.mv 20 5,.mv 21 1,.ia 22 10 19 20,.fa 23 1 22,.st 1 23 21]) (.seq (.ops [.mv 24 1,.bin 25 .add 24 (kI 1),.asg 1 25]) (.seq (.ops [.mv 26 0,.mv 27 5,.mv 28 1,.bin 29 .rem 28 (kI 3),.bin 30 .eql 29 (kI 0),.ia 31 10 26 27,.fa 32 2 31,.st 1 32 30]) (.seq (.ops [.mv 33 1,.bin 34 .add 33 (kI 1),.asg 1 34]) (.seq (.ops [.mv 35 0,.mv 36 5,.mv 37 1,.ia 38 10 35 36,.fa 39 3 38,.fa 40 0 39,.st 1 40 37]) (.seq (.ops [.mv 41 1,.bin 42 .add 41 (kI 1),.asg 1 42]) (.seq (.ops [.mv 43 0,.mv 44 5,.mv 45 1,.ia 46 10 43 44,.fa 47 3 46,.fa 48 1 47,.st 1 48 45]) (.seq (.ops [.mv 49 1,.bin 50 .add 49 (kI 1),.asg 1 50]) (.seq (.ops [.mv 51 0,.mv 52 5,.mv 53 1,.call (some 54) 44 [53],.ia 55 10 51 52,.fa 56 3 55,.fa 57 2 56,.st 1 57 54]) (.seq (.ops [.mv 58 1,.bin 59 .add 58 (kI 1),.asg 1 59]) (.seq (.ops [.mv 60 0,.mv 61 5,.mv 62 1,.call (some 63) 44 [62],.ia 64 10 60 61,.fa 65 6 64,.st 1 65 63]) (.seq (.ops [.mv 66 1,.bin 67 .add 66 (kI 1),.asg 1 67]) (.seq (.ops [.mv 68 0,.mv 69 5,.mv 70 1,.call (some 71) 44 [70],.ia 72 10 68 69,.fa 73 7 72,.st 1 73 71]) (.seq (.ops [.mv 74 1,.bin 75 .add 74 (kI 1),.asg 1 75]) (.seq (.ops [.mv 76 0,.mv 77 5,.ia 78 10 76 77,.fa 79 8 78,.ld 80 1 false 79,.mv 81 1,.call (some 82) 42 [80,81],.asg 1 82]) (.ops [.mv 83 0,.mv 84 5,.ia 85 10 83 84,.fa 86 9 85,.ld 87 1 false 86,.mv 88 1,.call (some 89) 83 [87,88],.asg 1 89]))))))))))))))))))) (.ops [.mv 10 5,.bin 11 .add 10 (kI 1),.asg 5 11]))))
def bG6:AC:=(.seq (.ops [.mv 90 1,.asg 4 90]) .ret)
def bNe:AC:=(.seq (.ops [.asg 4 (kI 0)]) (.seq (.seq (.ops [.asg 5 (kI 0)]) (.block 0 aQ8)) bG6))
theorem bQw:bG Tryz.prog 42=some (bNe,[.mv 0 4],91):=by kernel_rfl
def bFj (r:Int×(List aA)):Exit→St→Prop:=bF [.mv 0 4] fun x b=>x=(fun (y:Int×(List aA))=>(vI y.1)) r∧bV ((fun (y:Int×(List aA))=>[(3000000,[(.trc 10 (y.2.map bN))])]) r) b
def bOf (r:Int×(List aA)):Exit→St→Prop:=(bJ (wkK (avc Tryz.prog bG6 (bFj r))) (bFj r))
def cCl (r:Int×(List aA)):Exit→St→Prop:=(bM 0 (bOf r))
def bP7 (x1:Int) (x5:Int) (aQ:(List aA)):St:=⟨[(0,(.tre 3000000)),(1,(vI x1)),(5,(vI x5))],[(3000000,[(.trc 10 (aQ.map bN))])]⟩
abbrev aNl (x1:Int) (x5:Int) (aQ:(List aA)) (r:Int×(List aA)):Prop:=avc Tryz.prog aQ8 (cCl r) (bP7 x1 x5 aQ)
def aVz:AC:=(.loop (.seq (.seq (.ops [.mv 6 5,.mv 7 0,.len 8 7,.bin 9 .lss 6 8]) (.cond 9 .skip (.exit 0))) (.seq (.block 1 (.seq (.ops [.mv 12 0,.mv 13 5,.mv 14 1,.bin 15 .rem 14 (kI 3),.bin 16 .eql 15 (kI 0),.ia 17 6 12 13,.fa 18 0 17,.st 1 18 16]) (.seq (.ops [.mv 19 1,.bin 20 .add 19 (kI 1),.asg 1 20]) (.seq (.ops [.mv 21 0,.mv 22 5,.ia 23 6 21 22,.fa 24 1 23,.ld 25 1 false 24,.mv 26 1,.call (some 27) 40 [25,26],.asg 1 27]) (.seq (.ops [.mv 28 0,.mv 29 5,.ia 30 6 28 29,.fa 31 2 30,.ld 32 1 false 31,.mv 33 1,.call (some 34) 41 [32,33],.asg 1 34]) (.seq (.ops [.mv 35 0,.mv 36 5,.ia 37 6 35 36,.fa 38 3 37,.ld 39 1 false 38,.mv 40 1,.call (some 41) 42 [39,40],.asg 1 41]) (.seq (.ops [.mv 42 0,.mv 43 5,.ia 44 6 42 43,.fa 45 4 44,.ld 46 1 false 45,.mv 47 1,.call (some 48) 43 [46,47],.asg 1 48]) (.seq (.ops [.mv 49 0,.mv 50 5,.mv 51 1,.ia 52 6 49 50,.fa 53 5 52,.st 1 53 51]) (.ops [.mv 54 1,.bin 55 .add 54 (kI 1),.asg 1 55]))))))))) (.ops [.mv 10 5,.bin 11 .add 10 (kI 1),.asg 5 11]))))
def bI3:AC:=(.seq (.ops [.mv 56 1,.asg 4 56]) .ret)
def cP4:AC:=(.seq (.ops [.asg 4 (kI 0)]) (.seq (.seq (.ops [.asg 5 (kI 0)]) (.block 0 aVz)) bI3))
theorem cKl:bG Tryz.prog 83=some (cP4,[.mv 0 4],57):=by kernel_rfl
def bFt (r:Int×(List aJ)):Exit→St→Prop:=bF [.mv 0 4] fun x b=>x=(fun (y:Int×(List aJ))=>(vI y.1)) r∧bV ((fun (y:Int×(List aJ))=>[(3000000,[(.trc 6 (y.2.map dI))])]) r) b
def bLi (r:Int×(List aJ)):Exit→St→Prop:=(bJ (wkK (avc Tryz.prog bI3 (bFt r))) (bFt r))
def cGv (r:Int×(List aJ)):Exit→St→Prop:=(bM 0 (bLi r))
def cEn (x1:Int) (x5:Int) (aQ:(List aJ)):St:=⟨[(0,(.tre 3000000)),(1,(vI x1)),(5,(vI x5))],[(3000000,[(.trc 6 (aQ.map dI))])]⟩
abbrev aH3 (x1:Int) (x5:Int) (aQ:(List aJ)) (r:Int×(List aJ)):Prop:=avc Tryz.prog aVz (cGv r) (cEn x1 x5 aQ)
def aUz:AC:=(.loop (.seq (.seq (.ops [.mv 6 5,.mv 7 0,.len 8 7,.bin 9 .lss 6 8]) (.cond 9 .skip (.exit 0))) (.seq (.block 1 (.seq (.ops [.mv 12 0,.mv 13 5,.mv 14 1,.call (some 15) 44 [14],.ia 16 3 12 13,.fa 17 0 16,.st 1 17 15]) (.seq (.ops [.mv 18 1,.bin 19 .add 18 (kI 1),.asg 1 19]) (.seq (.ops [.mv 20 0,.mv 21 5,.mv 22 1,.call (some 23) 44 [22],.ia 24 3 20 21,.fa 25 1 24,.st 1 25 23]) (.seq (.ops [.mv 26 1,.bin 27 .add 26 (kI 1),.asg 1 27]) (.ops [.mv 28 0,.mv 29 5,.ia 30 3 28 29,.fa 31 2 30,.ld 32 1 false 31,.mv 33 1,.call (some 34) 42 [32,33],.asg 1 34])))))) (.ops [.mv 10 5,.bin 11 .add 10 (kI 1),.asg 5 11]))))
def bE6:AC:=(.seq (.ops [.mv 35 1,.asg 4 35]) .ret)
def bYu:AC:=(.seq (.ops [.asg 4 (kI 0)]) (.seq (.seq (.ops [.asg 5 (kI 0)]) (.block 0 aUz)) bE6))
theorem bSz:bG Tryz.prog 41=some (bYu,[.mv 0 4],36):=by kernel_rfl
def aYg (r:Int×(List aV)):Exit→St→Prop:=bF [.mv 0 4] fun x b=>x=(fun (y:Int×(List aV))=>(vI y.1)) r∧bV ((fun (y:Int×(List aV))=>[(3000000,[(.trc 3 (y.2.map dZ))])]) r) b
def cFt (r:Int×(List aV)):Exit→St→Prop:=(bJ (wkK (avc Tryz.prog bE6 (aYg r))) (aYg r))
def bL8 (r:Int×(List aV)):Exit→St→Prop:=(bM 0 (cFt r))
def bO7 (x1:Int) (x5:Int) (aQ:(List aV)):St:=⟨[(0,(.tre 3000000)),(1,(vI x1)),(5,(vI x5))],[(3000000,[(.trc 3 (aQ.map dZ))])]⟩
abbrev aM8 (x1:Int) (x5:Int) (aQ:(List aV)) (r:Int×(List aV)):Prop:=avc Tryz.prog aUz (bL8 r) (bO7 x1 x5 aQ)
def aVa:AC:=(.loop (.seq (.seq (.ops [.mv 6 5,.mv 7 0,.len 8 7,.bin 9 .lss 6 8]) (.cond 9 .skip (.exit 0))) (.seq (.block 1 (.seq (.ops [.mv 12 0,.mv 13 5,.mv 14 1,.ia 15 11 12 13,.fa 16 0 15,.fa 17 0 16,.st 1 17 14]) (.seq (.ops [.mv 18 1,.bin 19 .add 18 (kI 1),.asg 1 19]) (.seq (.ops [.mv 20 0,.mv 21 5,.mv 22 1,.ia 23 11 20 21,.fa 24 0 23,.fa 25 1 24,.st 1 25 22]) (.seq (.ops [.mv 26 1,.bin 27 .add 26 (kI 1),.asg 1 27]) (.seq (.ops [.mv 28 0,.mv 29 5,.mv 30 1,.bin 31 .rem 30 (kI 3),.bin 32 .eql 31 (kI 0),.ia 33 11 28 29,.fa 34 0 33,.fa 35 2 34,.st 1 35 32]) (.seq (.ops [.mv 36 1,.bin 37 .add 36 (kI 1),.asg 1 37]) (.seq (.ops [.mv 38 0,.mv 39 5,.mv 40 1,.ia 41 11 38 39,.fa 42 0 41,.fa 43 3 42,.fa 44 0 43,.st 1 44 40]) (.seq (.ops [.mv 45 1,.bin 46 .add 45 (kI 1),.asg 1 46]) (.seq (.ops [.mv 47 0,.mv 48 5,.mv 49 1,.ia 50 11 47 48,.fa 51 0 50,.fa 52 3 51,.fa 53 1 52,.st 1 53 49]) (.seq (.ops [.mv 54 1,.bin 55 .add 54 (kI 1),.asg 1 55]) (.seq (.ops [.mv 56 0,.mv 57 5,.mv 58 1,.call (some 59) 44 [58],.ia 60 11 56 57,.fa 61 0 60,.fa 62 3 61,.fa 63 2 62,.st 1 63 59]) (.seq (.ops [.mv 64 1,.bin 65 .add 64 (kI 1),.asg 1 65]) (.seq (.ops [.mv 66 0,.mv 67 5,.mv 68 1,.call (some 69) 44 [68],.ia 70 11 66 67,.fa 71 0 70,.fa 72 6 71,.st 1 72 69]) (.seq (.ops [.mv 73 1,.bin 74 .add 73 (kI 1),.asg 1 74]) (.seq (.ops [.mv 75 0,.mv 76 5,.mv 77 1,.call (some 78) 44 [77],.ia 79 11 75 76,.fa 80 0 79,.fa 81 7 80,.st 1 81 78]) (.seq (.ops [.mv 82 1,.bin 83 .add 82 (kI 1),.asg 1 83]) (.seq (.ops [.mv 84 0,.mv 85 5,.ia 86 11 84 85,.fa 87 0 86,.fa 88 8 87,.ld 89 1 false 88,.mv 90 1,.call (some 91) 42 [89,90],.asg 1 91]) (.seq (.ops [.mv 92 0,.mv 93 5,.ia 94 11 92 93,.fa 95 0 94,.fa 96 9 95,.ld 97 1 false 96,.mv 98 1,.call (some 99) 83 [97,98],.asg 1 99]) (.seq (.ops [.mv 100 0,.mv 101 5,.mv 102 1,.bin 103 .rem 102 (kI 3),.bin 104 .eql 103 (kI 0),.ia 105 11 100 101,.fa 106 10 105,.st 1 106 104]) (.ops [.mv 107 1,.bin 108 .add 107 (kI 1),.asg 1 108]))))))))))))))))))))) (.ops [.mv 10 5,.bin 11 .add 10 (kI 1),.asg 5 11]))))
def aYu:AC:=(.seq (.ops [.mv 109 1,.asg 4 109]) .ret)
def bO5:AC:=(.seq (.ops [.asg 4 (kI 0)]) (.seq (.seq (.ops [.asg 5 (kI 0)]) (.block 0 aVa)) aYu))
theorem bXq:bG Tryz.prog 43=some (bO5,[.mv 0 4],110):=by kernel_rfl
def bBq (r:Int×(List bC)):Exit→St→Prop:=bF [.mv 0 4] fun x b=>x=(fun (y:Int×(List bC))=>(vI y.1)) r∧bV ((fun (y:Int×(List bC))=>[(3000000,[(.trc 11 (y.2.map dJ))])]) r) b
def bVe (r:Int×(List bC)):Exit→St→Prop:=(bJ (wkK (avc Tryz.prog aYu (bBq r))) (bBq r))
def cBt (r:Int×(List bC)):Exit→St→Prop:=(bM 0 (bVe r))
def cP0 (x1:Int) (x5:Int) (aQ:(List bC)):St:=⟨[(0,(.tre 3000000)),(1,(vI x1)),(5,(vI x5))],[(3000000,[(.trc 11 (aQ.map dJ))])]⟩
abbrev aHn (x1:Int) (x5:Int) (aQ:(List bC)) (r:Int×(List bC)):Prop:=avc Tryz.prog aVa (cBt r) (cP0 x1 x5 aQ)
def bZ3:AC:=(.seq (.ops [.box 1 24 0,.alc 2 [(.nil 2)]]) (.seq (.ops [.alc 3 [(.nil 2)]]) (.seq (.ops [.fa 4 0 1,.ld 5 1 false 4,.call (some 6) 25 [5],.fa 7 0 3,.st 1 7 6]) (.seq (.ops [.ld 8 1 true 3,.st 1 2 8]) .ret))))
theorem cH6:bG Tryz.prog 7=some (bZ3,[.ld 0 1 true 2],9):=by kernel_rfl
def cPw (r:aY):Exit→St→Prop:=bF [.ld 0 1 true 2] fun x b=>x=(fun (y:aY)=>(.agv [(.tre 10000000)])) r∧bV ((fun (y:aY)=>[(10000000,[(.trc 2 (y.tables.map fK))])]) r) b
def aTs:AC:=(.loop (.seq (.seq (.ops [.mv 8 4,.mv 9 0,.len 10 9,.bin 11 .lss 8 10]) (.cond 11 .skip (.exit 0))) (.seq (.block 1 (.ops [.mv 14 3,.mv 15 4,.mv 16 0,.mv 17 4,.ia 18 2 16 17,.ld 19 2 true 18,.call (some 20) 62 [19],.ia 21 2 14 15,.st 2 21 20])) (.ops [.mv 12 4,.bin 13 .add 12 (kI 1),.asg 4 13]))))
def aXx:AC:=(.seq (.ops [.mv 22 3,.asg 2 22]) .ret)
def bX9:AC:=(.seq (.ops [.asg 2 (.c (.nil 2))]) (.seq (.ops [.mv 5 0,.len 6 5,.mks 7 106 2 40 [(.s (bs [])),(.sl 2 [])] 6 6,.asg 3 7]) (.seq (.seq (.ops [.asg 4 (kI 0)]) (.block 0 aTs)) aXx)))
theorem cH9:bG Tryz.prog 25=some (bX9,[.mv 0 2],23):=by kernel_rfl
def aY5 (r:(List aP)):Exit→St→Prop:=bF [.mv 0 2] fun x b=>x=(fun (y:(List aP))=>(.tre 10000000)) r∧bV ((fun (y:(List aP))=>[(10000000,[(.trc 2 (y.map fK))])]) r) b
def bSh (r:(List aP)):Exit→St→Prop:=(bJ (wkK (avc Tryz.prog aXx (aY5 r))) (aY5 r))
def cO6 (r:(List aP)):Exit→St→Prop:=(bM 0 (bSh r))
def cLa (p0:(List aP)) (x4:Int) (bH:(List aP)):St:=⟨[(0,(dW p0)),(3,(.tre 60014000)),(4,(vI x4))],[(60014000,[(.trc 2 (bH.map fK))])]⟩
abbrev aN6 (p0:(List aP)) (x4:Int) (bH:(List aP)) (r:(List aP)):Prop:=avc Tryz.prog aTs (cO6 r) (cLa p0 x4 bH)
def bOs:AC:=(.seq (.ops [.box 1 88 0,.alc 2 [bX,(.nil 2)]]) (.seq (.ops [.alc 3 [bX,(.nil 2)]]) (.seq (.ops [.fa 4 0 1,.ld 5 1 false 4,.fa 6 0 3,.st 1 6 5]) (.seq (.ops [.fa 7 1 1,.ld 8 1 false 7,.call (some 9) 97 [8],.fa 10 1 3,.st 1 10 9]) (.seq (.ops [.ld 11 2 true 3,.st 2 2 11]) .ret)))))
theorem bYr:bG Tryz.prog 62=some (bOs,[.ld 0 2 true 2],12):=by kernel_rfl
def cUs (r:aP):Exit→St→Prop:=bF [.ld 0 2 true 2] fun x b=>x=(fun (y:aP)=>(.agv [(vS y.name),(.tre 10000001)])) r∧bV ((fun (y:aP)=>[(10000001,[(.trc 2 (y.cols.map fH))])]) r) b
def aSy:AC:=(.loop (.seq (.seq (.ops [.mv 8 4,.mv 9 0,.len 10 9,.bin 11 .lss 8 10]) (.cond 11 .skip (.exit 0))) (.seq (.block 1 (.ops [.mv 14 3,.mv 15 4,.mv 16 0,.mv 17 4,.ia 18 2 16 17,.ld 19 2 true 18,.call (some 20) 119 [19],.ia 21 2 14 15,.st 2 21 20])) (.ops [.mv 12 4,.bin 13 .add 12 (kI 1),.asg 4 13]))))
def bHd:AC:=(.seq (.ops [.mv 22 3,.asg 2 22]) .ret)
def bYw:AC:=(.seq (.ops [.asg 2 (.c (.nil 2))]) (.seq (.ops [.mv 5 0,.len 6 5,.mks 7 111 2 24 [(.s (bs [])),(.i .i64 0)] 6 6,.asg 3 7]) (.seq (.seq (.ops [.asg 4 (kI 0)]) (.block 0 aSy)) bHd)))
theorem bU5:bG Tryz.prog 97=some (bYw,[.mv 0 2],23):=by kernel_rfl
def aWx (r:(List bI)):Exit→St→Prop:=bF [.mv 0 2] fun x b=>x=(fun (y:(List bI))=>(.tre 10000000)) r∧bV ((fun (y:(List bI))=>[(10000000,[(.trc 2 (y.map fH))])]) r) b
def bKx (r:(List bI)):Exit→St→Prop:=(bJ (wkK (avc Tryz.prog bHd (aWx r))) (aWx r))
def cCe (r:(List bI)):Exit→St→Prop:=(bM 0 (bKx r))
def bRm (p0:(List bI)) (x4:Int) (bH:(List bI)):St:=⟨[(0,(jO p0)),(3,(.tre 60014000)),(4,(vI x4))],[(60014000,[(.trc 2 (bH.map fH))])]⟩
abbrev aJm (p0:(List bI)) (x4:Int) (bH:(List bI)) (r:(List bI)):Prop:=avc Tryz.prog aSy (cCe r) (bRm p0 x4 bH)
def bWu:AC:=(.seq (.ops [.box 2 38 0,.box 3 45 1,.asg 4 (.c (.nil 5)),.asg 5 (kB false)]) (.seq (.seq (.ops [.ld 8 1 true 2,.call (some 9) 22 [8],.not 10 9,.mv 11 10,.g 11 false (.ld 12 6 true 3),.g 11 false (.call (some 13) 23 [12]),.g 11 false (.not 14 13),.pick 15 11 (kB true) 14]) (.cond 15 (.seq (.ops [.bsl 16 73 5 [],.asg 4 16,.asg 5 (kB false)]) .ret) .skip)) (.seq (.ops [.ld 18 1 true 2,.ld 19 6 true 3,.bsl 20 73 5 [],.call (some 21) 24 [18,(.c (.nil 1)),19,20],.mv 17 21,.ext 22 17 0,.ext 23 17 1,.asg 6 22,.asg 7 23]) (.seq (.seq (.ops [.mv 24 7,.not 25 24]) (.cond 25 (.seq (.ops [.bsl 26 73 5 [],.asg 4 26,.asg 5 (kB false)]) .ret) .skip)) (.seq (.ops [.mv 27 6,.asg 4 27,.asg 5 (kB true)]) .ret)))))
theorem cIv:bG Tryz.prog 6=some (bWu,[.mv 0 4,.mv 0 5],28):=by kernel_rfl
def cT6 (r:(List aB)×Bool):Exit→St→Prop:=bF [.mv 0 4,.mv 0 5] fun x b=>x=(fun (y:(List aB)×Bool)=>(.tup [(.osl 2000000 73 5 (y.1.map bL)),(vB y.2)])) r∧bV ((fun (y:(List aB)×Bool)=>[]) r) b
def bOq:AC:=(.seq (.ops [.box 1 45 0,.asg 2 (kB false)]) (.seq (.ops [.ld 3 6 true 1,.call (some 4) 54 [3],.mv 5 4,.g 5 true (.ld 6 6 true 1),.g 5 true (.call (some 7) 55 [6]),.g 5 true (.bin 8 .leq 7 (kI 24)),.pick 9 5 8 (kB false),.mv 10 9,.g 10 true (.ld 11 6 true 1),.g 10 true (.call (some 12) 56 [11]),.g 10 true (.bin 13 .leq 12 (kI 200)),.pick 14 10 13 (kB false),.asg 2 14]) .ret))
theorem bZ4:bG Tryz.prog 23=some (bOq,[.mv 0 2],15):=by kernel_rfl
def cQ3 (r:Bool):Exit→St→Prop:=bF [.mv 0 2] fun x _=>x=(fun y=>(vB y)) r
def aQt:AC:=(.loop (.seq (.seq (.ops [.mv 8 5,.mv 9 4,.len 10 9,.bin 11 .lss 8 10]) (.cond 11 .skip (.exit 0))) (.seq (.block 1 (.ops [.mv 14 3,.mv 15 4,.mv 16 5,.ia 17 10 15 16,.ld 18 10 true 17,.call (some 19) 93 [18],.bin 20 .add 14 19,.asg 3 20])) (.ops [.mv 12 5,.bin 13 .add 12 (kI 1),.asg 5 13]))))
def bAc:AC:=(.seq (.ops [.mv 21 3,.asg 2 21]) .ret)
def bWe:AC:=(.seq (.ops [.box 1 45 0,.asg 2 (kI 0)]) (.seq (.ops [.asg 3 (kI 0)]) (.seq (.ops [.ld 6 6 true 1,.call (some 7) 89 [6],.asg 4 7]) (.seq (.seq (.ops [.asg 5 (kI 0)]) (.block 0 aQt)) bAc))))
theorem bWm:bG Tryz.prog 56=some (bWe,[.mv 0 2],22):=by kernel_rfl
def aXj (r:Int):Exit→St→Prop:=bF [.mv 0 2] fun x _=>x=(fun y=>(vI y)) r
def bTi (r:Int):Exit→St→Prop:=(bJ (wkK (avc Tryz.prog bAc (aXj r))) (aXj r))
def bVl (r:Int):Exit→St→Prop:=(bM 0 (bTi r))
def bLf (y1:(List aA)) (x3:Int) (x5:Int):St:=⟨[(3,(vI x3)),(4,(.osl 4 128 10 (y1.map bN))),(5,(vI x5))],[]⟩
abbrev aI7 (y1:(List aA)) (x3:Int) (x5:Int) (r:Int):Prop:=avc Tryz.prog aQt (bVl r) (bLf y1 x3 x5)
def aR9:AC:=(.loop (.seq (.seq (.ops [.mv 6 4,.fa 7 8 1,.ld 8 1 false 7,.len 9 8,.bin 10 .lss 6 9]) (.cond 10 .skip (.exit 0))) (.seq (.block 1 (.ops [.mv 13 3,.fa 14 8 1,.ld 15 1 false 14,.mv 16 4,.ia 17 10 15 16,.ld 18 10 true 17,.call (some 19) 93 [18],.bin 20 .add 13 19,.asg 3 20])) (.ops [.mv 11 4,.bin 12 .add 11 (kI 1),.asg 4 12]))))
def aTl:AC:=(.loop (.seq (.seq (.ops [.mv 21 5,.fa 22 9 1,.ld 23 1 false 22,.len 24 23,.bin 25 .lss 21 24]) (.cond 25 .skip (.exit 2))) (.seq (.block 3 (.ops [.mv 28 3,.fa 29 9 1,.ld 30 1 false 29,.mv 31 5,.ia 32 6 30 31,.ld 33 6 true 32,.call (some 34) 56 [33],.bin 35 .add 28 34,.asg 3 35])) (.ops [.mv 26 5,.bin 27 .add 26 (kI 1),.asg 5 27]))))
def bEa:AC:=(.seq (.ops [.mv 36 3,.asg 2 36]) .ret)
def bCf:AC:=(.seq (.seq (.ops [.asg 5 (kI 0)]) (.block 2 aTl)) bEa)
def cAw:AC:=(.seq (.ops [.box 1 128 0,.asg 2 (kI 0)]) (.seq (.ops [.asg 3 (kI 1)]) (.seq (.seq (.ops [.asg 4 (kI 0)]) (.block 0 aR9)) bCf)))
theorem bPy:bG Tryz.prog 93=some (cAw,[.mv 0 2],37):=by kernel_rfl
def aKe (r:Int):Exit→St→Prop:=bF [.mv 0 2] fun x _=>x=(fun y=>(vI y)) r
def bXg (r:Int):Exit→St→Prop:=(bJ (wkK (avc Tryz.prog bCf (aKe r))) (aKe r))
def bQn (r:Int):Exit→St→Prop:=(bM 0 (bXg r))
def bUv (r:Int):Exit→St→Prop:=(bJ (wkK (avc Tryz.prog bEa (aKe r))) (aKe r))
def bX4 (r:Int):Exit→St→Prop:=(bM 2 (bUv r))
def cFy (p0:aA) (x3:Int) (x4:Int):St:=⟨[(1,(.ptr 1 0)),(3,(vI x3)),(4,(vI x4))],[(1,nW p0)]⟩
abbrev aJq (p0:aA) (x3:Int) (x4:Int) (r:Int):Prop:=avc Tryz.prog aR9 (bQn r) (cFy p0 x3 x4)
def bUl (p0:aA) (dU:Int) (x5:Int):St:=⟨[(1,(.ptr 1 0)),(3,(vI dU)),(5,(vI x5))],[(1,nW p0)]⟩
abbrev aJs (p0:aA) (dU:Int) (x5:Int) (r:Int):Prop:=avc Tryz.prog aTl (bX4 r) (bUl p0 dU x5)
def aQg:AC:=(.ops [.mv 13 4,.bin 14 .add 13 (kI 1),.asg 4 14])
def aKk:AC:=(.loop (.seq (.seq (.ops [.mv 8 4,.fa 9 1 1,.ld 10 1 false 9,.len 11 10,.bin 12 .lss 8 11]) (.cond 12 .skip (.exit 0))) (.seq (.block 1 (.seq (.ops [.fa 15 1 1,.ld 16 1 false 15,.mv 17 4,.ia 18 13 16 17,.fa 19 0 18,.ld 20 1 false 19,.not 21 20]) (.cond 21 (.ops [.mv 22 3,.fa 23 1 1,.ld 24 1 false 23,.mv 25 4,.ia 26 13 24 25,.fa 27 2 26,.ld 28 10 true 27,.bsl 29 128 10 [28],.app 30 128 10 136 22 29,.asg 3 30]) .skip))) aQg)))
def aRx:AC:=(.loop (.seq (.seq (.ops [.mv 31 5,.fa 32 2 1,.ld 33 1 false 32,.len 34 33,.bin 35 .lss 31 34]) (.cond 35 .skip (.exit 2))) (.seq (.block 3 (.ops [.mv 38 3,.fa 39 2 1,.ld 40 1 false 39,.mv 41 5,.ia 42 3 40 41,.fa 43 2 42,.ld 44 1 false 43,.app 45 128 10 136 38 44,.asg 3 45])) (.ops [.mv 36 5,.bin 37 .add 36 (kI 1),.asg 5 37]))))
def aPi:AC:=(.loop (.seq (.seq (.ops [.mv 50 6,.fa 51 4 1,.ld 52 1 false 51,.len 53 52,.bin 54 .lss 50 53]) (.cond 54 .skip (.exit 4))) (.seq (.block 5 (.ops [.mv 57 3,.fa 58 4 1,.ld 59 1 false 58,.mv 60 6,.ia 61 11 59 60,.fa 62 0 61,.ld 63 10 true 62,.bsl 64 128 10 [63],.app 65 128 10 136 57 64,.asg 3 65])) (.ops [.mv 55 6,.bin 56 .add 55 (kI 1),.asg 6 56]))))
def bF7:AC:=(.seq (.ops [.mv 66 3,.asg 2 66]) .ret)
def bEf:AC:=(.seq (.ops [.mv 46 3,.fa 47 3 1,.ld 48 1 false 47,.app 49 128 10 136 46 48,.asg 3 49]) (.seq (.seq (.ops [.asg 6 (kI 0)]) (.block 4 aPi)) bF7))
def bK1:AC:=(.seq (.seq (.ops [.asg 5 (kI 0)]) (.block 2 aRx)) bEf)
def bRt:AC:=(.seq (.ops [.box 1 45 0,.asg 2 (.c (.nil 10))]) (.seq (.ops [.bsl 7 128 10 [],.asg 3 7]) (.seq (.seq (.ops [.asg 4 (kI 0)]) (.block 0 aKk)) bK1)))
theorem bKu:bG Tryz.prog 89=some (bRt,[.mv 0 2],67):=by kernel_rfl
def aCe (r:(List aA)):Exit→St→Prop:=bF [.mv 0 2] fun x b=>x=(fun (y:(List aA))=>(.osl 2000000 128 10 (y.map bN))) r∧bV ((fun (y:(List aA))=>[]) r) b
def cHt (r:(List aA)):Exit→St→Prop:=(bJ (wkK (avc Tryz.prog bK1 (aCe r))) (aCe r))
def aPd (r:(List aA)):Exit→St→Prop:=(bM 0 (cHt r))
def cDr (r:(List aA)):Exit→St→Prop:=(bJ (avc Tryz.prog aKk (aPd r)) (aPd r))
def bYn (r:(List aA)):Exit→St→Prop:=(bJ (wkK (avc Tryz.prog bEf (aCe r))) (aCe r))
def cMu (r:(List aA)):Exit→St→Prop:=(bM 2 (bYn r))
def bYe (r:(List aA)):Exit→St→Prop:=(bJ (wkK (avc Tryz.prog bF7 (aCe r))) (aCe r))
def cMh (r:(List aA)):Exit→St→Prop:=(bM 4 (bYe r))
def cI9 (p0:aJ) (x3:(List aA)) (x4:Int):St:=⟨[(1,(.ptr 1 0)),(3,(.osl 3 128 10 (x3.map bN))),(4,(vI x4))],[(1,iC p0)]⟩
abbrev aGo (p0:aJ) (x3:(List aA)) (x4:Int) (r:(List aA)):Prop:=avc Tryz.prog aKk (aPd r) (cI9 p0 x3 x4)
def cKc (x4:Int) (p0:aJ) (eP:(List aA)):St:=⟨[(1,(.ptr 1 0)),(3,(.osl 3 128 10 (eP.map bN))),(4,(vI x4))],[(1,iC p0)]⟩
abbrev aNi (x4:Int) (p0:aJ) (eP:(List aA)) (r:(List aA)):Prop:=avc Tryz.prog aQg (cDr r) (cKc x4 p0 eP)
def cF9 (p0:aJ) (nU:(List aA)) (x5:Int):St:=⟨[(1,(.ptr 1 0)),(3,(.osl 3 128 10 (nU.map bN))),(5,(vI x5))],[(1,iC p0)]⟩
abbrev aNj (p0:aJ) (nU:(List aA)) (x5:Int) (r:(List aA)):Prop:=avc Tryz.prog aRx (cMu r) (cF9 p0 nU x5)
def bXj (p0:aJ) (kW:(List aA)) (x6:Int):St:=⟨[(1,(.ptr 1 0)),(3,(.osl 3 128 10 (kW.map bN))),(6,(vI x6))],[(1,iC p0)]⟩
abbrev aLz (p0:aJ) (kW:(List aA)) (x6:Int) (r:(List aA)):Prop:=avc Tryz.prog aPi (cMh r) (bXj p0 kW x6)
def aSa:AC:=(.loop (.seq (.seq (.ops [.mv 8 5,.mv 9 4,.len 10 9,.bin 11 .lss 8 10]) (.cond 11 .skip (.exit 0))) (.seq (.block 1 (.ops [.mv 14 3,.mv 15 4,.mv 16 5,.ia 17 10 15 16,.ld 18 10 true 17,.call (some 19) 92 [18],.call (some 20) 91 [14,19],.asg 3 20])) (.ops [.mv 12 5,.bin 13 .add 12 (kI 1),.asg 5 13]))))
def bCm:AC:=(.seq (.ops [.mv 21 3,.asg 2 21]) .ret)
def cAb:AC:=(.seq (.ops [.box 1 45 0,.asg 2 (kI 0)]) (.seq (.ops [.asg 3 (kI 0)]) (.seq (.ops [.ld 6 6 true 1,.call (some 7) 89 [6],.asg 4 7]) (.seq (.seq (.ops [.asg 5 (kI 0)]) (.block 0 aSa)) bCm))))
theorem bOz:bG Tryz.prog 55=some (cAb,[.mv 0 2],22):=by kernel_rfl
def bH4 (r:Int):Exit→St→Prop:=bF [.mv 0 2] fun x _=>x=(fun y=>(vI y)) r
def bQh (r:Int):Exit→St→Prop:=(bJ (wkK (avc Tryz.prog bCm (bH4 r))) (bH4 r))
def cJv (r:Int):Exit→St→Prop:=(bM 0 (bQh r))
def bL9 (y1:(List aA)) (x3:Int) (x5:Int):St:=⟨[(3,(vI x3)),(4,(.osl 4 128 10 (y1.map bN))),(5,(vI x5))],[]⟩
abbrev aI0 (y1:(List aA)) (x3:Int) (x5:Int) (r:Int):Prop:=avc Tryz.prog aSa (cJv r) (bL9 y1 x3 x5)
def cL6:AC:=(.seq (.ops [.asg 4 (kI 0)]) (.seq (.seq (.ops [.mv 5 0,.mv 6 1,.bin 7 .gtr 5 6]) (.cond 7 (.seq (.ops [.mv 8 0,.asg 4 8]) .ret) .skip)) (.seq (.ops [.mv 9 1,.asg 4 9]) .ret)))
theorem bPg:bG Tryz.prog 91=some (cL6,[.mv 0 4],10):=by kernel_rfl
def cQp (r:Int):Exit→St→Prop:=bF [.mv 0 4] fun x _=>x=(fun y=>(vI y)) r
def aTf:AC:=(.loop (.seq (.seq (.ops [.mv 6 4,.fa 7 8 1,.ld 8 1 false 7,.len 9 8,.bin 10 .lss 6 9]) (.cond 10 .skip (.exit 0))) (.seq (.block 1 (.ops [.mv 13 3,.fa 14 8 1,.ld 15 1 false 14,.mv 16 4,.ia 17 10 15 16,.ld 18 10 true 17,.call (some 19) 92 [18],.call (some 20) 91 [13,19],.asg 3 20])) (.ops [.mv 11 4,.bin 12 .add 11 (kI 1),.asg 4 12]))))
def aWj:AC:=(.loop (.seq (.seq (.ops [.mv 21 5,.fa 22 9 1,.ld 23 1 false 22,.len 24 23,.bin 25 .lss 21 24]) (.cond 25 .skip (.exit 2))) (.seq (.block 3 (.ops [.mv 28 3,.fa 29 9 1,.ld 30 1 false 29,.mv 31 5,.ia 32 6 30 31,.ld 33 6 true 32,.call (some 34) 55 [33],.call (some 35) 91 [28,34],.asg 3 35])) (.ops [.mv 26 5,.bin 27 .add 26 (kI 1),.asg 5 27]))))
def bAr:AC:=(.seq (.ops [.mv 36 3,.bin 37 .add 36 (kI 1),.asg 2 37]) .ret)
def aXs:AC:=(.seq (.seq (.ops [.asg 5 (kI 0)]) (.block 2 aWj)) bAr)
def bW9:AC:=(.seq (.ops [.box 1 128 0,.asg 2 (kI 0)]) (.seq (.ops [.asg 3 (kI 0)]) (.seq (.seq (.ops [.asg 4 (kI 0)]) (.block 0 aTf)) aXs)))
theorem cM4:bG Tryz.prog 92=some (bW9,[.mv 0 2],38):=by kernel_rfl
def aJi (r:Int):Exit→St→Prop:=bF [.mv 0 2] fun x _=>x=(fun y=>(vI y)) r
def bR7 (r:Int):Exit→St→Prop:=(bJ (wkK (avc Tryz.prog aXs (aJi r))) (aJi r))
def bU2 (r:Int):Exit→St→Prop:=(bM 0 (bR7 r))
def cCs (r:Int):Exit→St→Prop:=(bJ (wkK (avc Tryz.prog bAr (aJi r))) (aJi r))
def bUb (r:Int):Exit→St→Prop:=(bM 2 (cCs r))
def cH3 (p0:aA) (x3:Int) (x4:Int):St:=⟨[(1,(.ptr 1 0)),(3,(vI x3)),(4,(vI x4))],[(1,nW p0)]⟩
abbrev aMf (p0:aA) (x3:Int) (x4:Int) (r:Int):Prop:=avc Tryz.prog aTf (bU2 r) (cH3 p0 x3 x4)
def cHw (p0:aA) (eP:Int) (x5:Int):St:=⟨[(1,(.ptr 1 0)),(3,(vI eP)),(5,(vI x5))],[(1,nW p0)]⟩
abbrev aLa (p0:aA) (eP:Int) (x5:Int) (r:Int):Prop:=avc Tryz.prog aWj (bUb r) (cHw p0 eP x5)
def aSf:AC:=(.loop (.seq (.seq (.ops [.mv 38 3,.fa 39 1 1,.ld 40 1 false 39,.len 41 40,.bin 42 .lss 38 41]) (.cond 42 .skip (.exit 0))) (.seq (.block 1 (.seq (.ops [.fa 45 1 1,.ld 46 1 false 45,.mv 47 3,.ia 48 13 46 47,.ld 49 13 true 48,.alc 4 rG,.st 13 4 49]) (.seq (.ops [.fa 50 0 4,.ld 51 1 false 50,.mv 52 51,.g 52 true (.fa 53 1 4),.g 52 true (.ld 54 1 false 53),.g 52 true (.call (some 55) 87 [54]),.g 52 true (.not 56 55),.g 52 true (.mv 57 56),.g 57 false (.fa 58 12 4),.g 57 false (.ld 59 1 false 58),.g 57 false (.bin 60 .neq 59 (.c (.d (.s (bs []))))),.g 52 true (.pick 61 57 (kB true) 60),.g 52 true (.mv 62 61),.g 62 false (.fa 63 2 4),.g 62 false (.ld 64 10 true 63),.g 62 false (.bld 65 [bS,bS,eG,bS,bS,bX,bX,bX,(.nil 10),(.nil 6)] []),.g 62 false (.call (some 66) 88 [64,65]),.g 62 false (.not 67 66),.g 52 true (.pick 68 62 (kB true) 67),.pick 69 52 68 (kB false),.mv 70 69,.g 70 false (.fa 71 0 4),.g 70 false (.ld 72 1 false 71),.g 70 false (.not 73 72),.g 70 false (.mv 74 73),.g 74 true (.fa 75 1 4),.g 74 true (.ld 76 1 false 75),.g 74 true (.bin 77 .neq 76 (.c (.d (.s (bs []))))),.g 74 true (.mv 78 77),.g 78 false (.fa 79 12 4),.g 78 false (.ld 80 1 false 79),.g 78 false (.call (some 81) 87 [80]),.g 78 false (.not 82 81),.g 74 true (.pick 83 78 (kB true) 82),.g 70 false (.pick 84 74 83 (kB false)),.pick 85 70 (kB true) 84]) (.cond 85 (.seq (.ops [.asg 2 (kB false)]) .ret) .skip)))) (.ops [.mv 43 3,.bin 44 .add 43 (kI 1),.asg 3 44]))))
def aPq:AC:=(.loop (.seq (.seq (.ops [.mv 86 5,.fa 87 2 1,.ld 88 1 false 87,.len 89 88,.bin 90 .lss 86 89]) (.cond 90 .skip (.exit 2))) (.seq (.block 3 (.seq (.ops [.fa 93 2 1,.ld 94 1 false 93,.mv 95 5,.ia 96 3 94 95,.ld 97 3 true 96,.alc 6 [bX,bX,(.nil 10)],.st 3 6 97]) (.seq (.ops [.fa 98 0 6,.ld 99 1 false 98,.call (some 100) 50 [99],.not 101 100,.mv 102 101,.g 102 false (.fa 103 1 6),.g 102 false (.ld 104 1 false 103),.g 102 false (.call (some 105) 87 [104]),.g 102 false (.not 106 105),.pick 107 102 (kB true) 106,.mv 108 107,.g 108 false (.fa 109 2 6),.g 108 false (.ld 110 1 false 109),.g 108 false (.len 111 110),.g 108 false (.bin 112 .gtr 111 (kI 1)),.pick 113 108 (kB true) 112,.mv 114 113,.g 114 false (.mv 115 5),.g 114 false (.bin 116 .eql 115 (kI 0)),.g 114 false (.mv 117 116),.g 117 true (.fa 118 2 6),.g 117 true (.ld 119 1 false 118),.g 117 true (.len 120 119),.g 117 true (.bin 121 .gtr 120 (kI 0)),.g 114 false (.pick 122 117 121 (kB false)),.pick 123 114 (kB true) 122]) (.cond 123 (.seq (.ops [.asg 2 (kB false)]) .ret) .skip)))) (.ops [.mv 91 5,.bin 92 .add 91 (kI 1),.asg 5 92]))))
def aU0:AC:=(.loop (.seq (.seq (.ops [.mv 126 8,.mv 127 7,.len 128 127,.bin 129 .lss 126 128]) (.cond 129 .skip (.exit 4))) (.seq (.block 5 (.seq (.ops [.mv 132 7,.mv 133 8,.ia 134 10 132 133,.ld 135 10 true 134,.call (some 136) 90 [135],.not 137 136]) (.cond 137 (.seq (.ops [.asg 2 (kB false)]) .ret) .skip))) (.ops [.mv 130 8,.bin 131 .add 130 (kI 1),.asg 8 131]))))
def bEg:AC:=(.seq (.ops [.asg 2 (kB true)]) .ret)
def bDb:AC:=(.seq (.ops [.ld 124 6 true 1,.call (some 125) 89 [124],.asg 7 125]) (.seq (.seq (.ops [.asg 8 (kI 0)]) (.block 4 aU0)) bEg))
def bCc:AC:=(.seq (.seq (.ops [.asg 5 (kI 0)]) (.block 2 aPq)) bDb)
def cHl:AC:=(.seq (.ops [.box 1 45 0,.asg 2 (kB false)]) (.seq (.seq (.ops [.fa 9 1 1,.ld 10 1 false 9,.len 11 10,.call (some 12) 52 [11,(kI 1),(kI 12)],.not 13 12,.mv 14 13,.g 14 false (.fa 15 2 1),.g 14 false (.ld 16 1 false 15),.g 14 false (.len 17 16),.g 14 false (.call (some 18) 52 [17,(kI 1),(kI 3)]),.g 14 false (.not 19 18),.pick 20 14 (kB true) 19,.mv 21 20,.g 21 false (.fa 22 3 1),.g 21 false (.ld 23 1 false 22),.g 21 false (.len 24 23),.g 21 false (.bin 25 .gtr 24 (kI 1)),.pick 26 21 (kB true) 25,.mv 27 26,.g 27 false (.fa 28 4 1),.g 27 false (.ld 29 1 false 28),.g 27 false (.len 30 29),.g 27 false (.bin 31 .gtr 30 (kI 12)),.pick 32 27 (kB true) 31,.mv 33 32,.g 33 false (.fa 34 5 1),.g 33 false (.ld 35 1 false 34),.g 33 false (.bin 36 .lss 35 (kI (-1))),.pick 37 33 (kB true) 36]) (.cond 37 (.seq (.ops [.asg 2 (kB false)]) .ret) .skip)) (.seq (.seq (.ops [.asg 3 (kI 0)]) (.block 0 aSf)) bCc)))
theorem bPt:bG Tryz.prog 54=some (cHl,[.mv 0 2],138):=by kernel_rfl
def X9 (r:Bool):Exit→St→Prop:=bF [.mv 0 2] fun x _=>x=(fun y=>(vB y)) r
def cG5 (r:Bool):Exit→St→Prop:=(bJ (wkK (avc Tryz.prog bCc (X9 r))) (X9 r))
def bZ9 (r:Bool):Exit→St→Prop:=(bM 0 (cG5 r))
def cNi (r:Bool):Exit→St→Prop:=(bJ (wkK (avc Tryz.prog bDb (X9 r))) (X9 r))
def cFc (r:Bool):Exit→St→Prop:=(bM 2 (cNi r))
def cLn (r:Bool):Exit→St→Prop:=(bJ (wkK (avc Tryz.prog bEg (X9 r))) (X9 r))
def cF5 (r:Bool):Exit→St→Prop:=(bM 4 (cLn r))
def cNf (p0:aJ) (x3:Int):St:=⟨[(1,(.ptr 1 0)),(3,(vI x3))],[(1,iC p0)]⟩
abbrev aGy (p0:aJ) (x3:Int) (r:Bool):Prop:=avc Tryz.prog aSf (bZ9 r) (cNf p0 x3)
def bR2 (p0:aJ) (x5:Int):St:=⟨[(1,(.ptr 1 0)),(5,(vI x5))],[(1,iC p0)]⟩
abbrev aGx (p0:aJ) (x5:Int) (r:Bool):Prop:=avc Tryz.prog aPq (cFc r) (bR2 p0 x5)
def cFa (y24:(List aA)) (x8:Int):St:=⟨[(7,(.osl 7 128 10 (y24.map bN))),(8,(vI x8))],[]⟩
abbrev aIv (y24:(List aA)) (x8:Int) (r:Bool):Prop:=avc Tryz.prog aU0 (cF5 r) (cFa y24 x8)
def cAd:AC:=(.seq (.ops [.asg 2 (kB false)]) (.seq (.ops [.mv 3 0,.lns 4 3,.call (some 5) 52 [4,(kI 1),(kI 20)],.asg 2 5]) .ret))
theorem cA3:bG Tryz.prog 50=some (cAd,[.mv 0 2],6):=by kernel_rfl
def cQ7 (r:Bool):Exit→St→Prop:=bF [.mv 0 2] fun x _=>x=(fun y=>(vB y)) r
def bSx:AC:=(.seq (.ops [.asg 6 (kB false)]) (.seq (.ops [.mv 7 0,.mv 8 1,.bin 9 .geq 7 8,.mv 10 9,.g 10 true (.mv 11 0),.g 10 true (.mv 12 2),.g 10 true (.bin 13 .leq 11 12),.pick 14 10 13 (kB false),.asg 6 14]) .ret))
theorem cGe:bG Tryz.prog 52=some (bSx,[.mv 0 6],15):=by kernel_rfl
def cSq (r:Bool):Exit→St→Prop:=bF [.mv 0 6] fun x _=>x=(fun y=>(vB y)) r
def aPw:AC:=(.loop (.seq (.seq (.ops [.mv 7 3,.fa 8 8 1,.ld 9 1 false 8,.len 10 9,.bin 11 .lss 7 10]) (.cond 11 .skip (.exit 0))) (.seq (.block 1 (.seq (.ops [.fa 14 8 1,.ld 15 1 false 14,.mv 16 3,.ia 17 10 15 16,.ld 18 10 true 17,.call (some 19) 90 [18],.not 20 19]) (.cond 20 (.seq (.ops [.asg 2 (kB false)]) .ret) .skip))) (.ops [.mv 12 3,.bin 13 .add 12 (kI 1),.asg 3 13]))))
def bAy:AC:=(.seq (.ops [.fa 21 9 1,.ld 22 1 false 21,.len 23 22,.bin 24 .eql 23 (kI 0),.mv 25 24,.g 25 false (.fa 26 9 1),.g 25 false (.ld 27 1 false 26),.g 25 false (.ia 28 6 27 (kI 0)),.g 25 false (.ld 29 6 true 28),.g 25 false (.call (some 30) 54 [29]),.pick 31 25 (kB true) 30,.asg 2 31]) .ret)
def bKh:AC:=(.seq (.ops [.box 1 128 0,.asg 2 (kB false)]) (.seq (.seq (.ops [.ld 4 10 true 1,.call (some 5) 118 [4],.not 6 5]) (.cond 6 (.seq (.ops [.asg 2 (kB false)]) .ret) .skip)) (.seq (.seq (.ops [.asg 3 (kI 0)]) (.block 0 aPw)) bAy)))
theorem bP3:bG Tryz.prog 90=some (bKh,[.mv 0 2],32):=by kernel_rfl
def bAi (r:Bool):Exit→St→Prop:=bF [.mv 0 2] fun x _=>x=(fun y=>(vB y)) r
def cGc (r:Bool):Exit→St→Prop:=(bJ (wkK (avc Tryz.prog bAy (bAi r))) (bAi r))
def bNz (r:Bool):Exit→St→Prop:=(bM 0 (cGc r))
def bP4 (p0:aA) (x3:Int):St:=⟨[(1,(.ptr 1 0)),(3,(vI x3))],[(1,nW p0)]⟩
abbrev aHd (p0:aA) (x3:Int) (r:Bool):Prop:=avc Tryz.prog aPw (bNz r) (bP4 p0 x3)
def cCu:AC:=(.seq (.ops [.box 1 128 0,.asg 2 (kB false)]) (.seq (.ops [.fa 5 8 1,.ld 6 1 false 5,.len 7 6,.asg 3 7]) (.seq (.ops [.fa 8 9 1,.ld 9 1 false 8,.len 10 9,.asg 4 10]) (.seq (.seq (.ops [.fa 11 0 1,.ld 12 1 false 11,.bin 13 .neq 12 (kI 2),.mv 14 13,.g 14 true (.fa 15 6 1),.g 14 true (.ld 16 1 false 15),.g 14 true (.bin 17 .neq 16 (.c (.d (.s (bs []))))),.g 14 true (.mv 18 17),.g 18 false (.fa 19 7 1),.g 18 false (.ld 20 1 false 19),.g 18 false (.bin 21 .neq 20 (.c (.d (.s (bs []))))),.g 14 true (.pick 22 18 (kB true) 21),.pick 23 14 22 (kB false),.mv 24 23,.g 24 false (.fa 25 0 1),.g 24 false (.ld 26 1 false 25),.g 24 false (.bin 27 .neq 26 (kI 1)),.g 24 false (.mv 28 27),.g 28 true (.fa 29 3 1),.g 28 true (.ld 30 3 true 29),.g 28 true (.bld 31 [bS,bS,bX] []),.g 28 true (.eqv 32 true [0,0,1] 30 31),.g 24 false (.pick 33 28 32 (kB false)),.pick 34 24 (kB true) 33]) (.cond 34 (.seq (.ops [.asg 2 (kB false)]) .ret) .skip)) (.seq (.seq (.ops [.fa 35 0 1,.ld 36 1 false 35,.bin 37 .neq 36 (kI 3),.mv 38 37,.g 38 true (.fa 39 0 1),.g 38 true (.ld 40 1 false 39),.g 38 true (.bin 41 .neq 40 (kI 4)),.pick 42 38 41 (kB false),.mv 43 42,.g 43 true (.fa 44 1 1),.g 43 true (.ld 45 1 false 44),.g 43 true (.bin 46 .neq 45 (kI 0)),.pick 47 43 46 (kB false),.mv 48 47,.g 48 false (.fa 49 2 1),.g 48 false (.ld 50 1 false 49),.g 48 false (.mv 51 50),.g 51 true (.fa 52 0 1),.g 51 true (.ld 53 1 false 52),.g 51 true (.call (some 54) 52 [53,(kI 5),(kI 8)]),.g 51 true (.not 55 54),.g 48 false (.pick 56 51 55 (kB false)),.pick 57 48 (kB true) 56]) (.cond 57 (.seq (.ops [.asg 2 (kB false)]) .ret) .skip)) (.seq (.seq (.ops [.fa 58 0 1,.ld 59 1 false 58]) (.block 0 (.seq (.ops [.bin 61 .eql 59 (kI 1),.asg 60 61]) (.cond 60 (.seq (.ops [.fa 62 3 1,.ld 63 3 true 62,.call (some 64) 131 [63],.mv 65 64,.g 65 true (.mv 66 3),.g 65 true (.mv 67 4),.g 65 true (.bin 68 .add 66 67),.g 65 true (.bin 69 .eql 68 (kI 0)),.pick 70 65 69 (kB false),.asg 2 70]) .ret) (.seq (.ops [.bin 72 .eql 59 (kI 2),.asg 71 72]) (.cond 71 (.seq (.ops [.fa 73 7 1,.ld 74 1 false 73,.call (some 75) 50 [74],.mv 76 75,.g 76 true (.fa 77 6 1),.g 76 true (.ld 78 1 false 77),.g 76 true (.call (some 79) 87 [78]),.pick 80 76 79 (kB false),.mv 81 80,.g 81 true (.mv 82 3),.g 81 true (.mv 83 4),.g 81 true (.bin 84 .add 82 83),.g 81 true (.bin 85 .eql 84 (kI 0)),.pick 86 81 85 (kB false),.asg 2 86]) .ret) (.seq (.ops [.bin 88 .eql 59 (kI 3),.asg 87 88]) (.cond 87 (.seq (.ops [.fa 89 1 1,.ld 90 1 false 89,.bin 91 .eql 90 (kI 15),.mv 92 91,.g 92 false (.fa 93 1 1),.g 92 false (.ld 94 1 false 93),.g 92 false (.bin 95 .eql 94 (kI 16)),.pick 96 92 (kB true) 95,.mv 97 96,.g 97 true (.mv 98 3),.g 97 true (.bin 99 .eql 98 (kI 1)),.pick 100 97 99 (kB false),.mv 101 100,.g 101 true (.mv 102 4),.g 101 true (.bin 103 .eql 102 (kI 0)),.pick 104 101 103 (kB false),.asg 2 104]) .ret) (.seq (.ops [.bin 106 .eql 59 (kI 4),.asg 105 106]) (.cond 105 (.seq (.ops [.fa 107 1 1,.ld 108 1 false 107,.call (some 109) 52 [108,(kI 1),(kI 14)],.mv 110 109,.g 110 true (.mv 111 3),.g 110 true (.bin 112 .eql 111 (kI 2)),.pick 113 110 112 (kB false),.mv 114 113,.g 114 true (.mv 115 4),.g 114 true (.bin 116 .eql 115 (kI 0)),.pick 117 114 116 (kB false),.asg 2 117]) .ret) (.seq (.ops [.bin 119 .eql 59 (kI 5),.asg 118 119]) (.cond 118 (.seq (.ops [.mv 120 3,.bin 121 .eql 120 (kI 1),.mv 122 121,.g 122 true (.mv 123 4),.g 122 true (.bin 124 .eql 123 (kI 0)),.pick 125 122 124 (kB false),.asg 2 125]) .ret) (.seq (.ops [.bin 127 .eql 59 (kI 6),.asg 126 127]) (.cond 126 (.seq (.ops [.mv 128 3,.bin 129 .eql 128 (kI 3),.mv 130 129,.g 130 true (.mv 131 4),.g 130 true (.bin 132 .eql 131 (kI 0)),.pick 133 130 132 (kB false),.asg 2 133]) .ret) (.seq (.ops [.bin 135 .eql 59 (kI 7),.asg 134 135]) (.cond 134 (.seq (.ops [.mv 136 3,.call (some 137) 52 [136,(kI 2),(kI 9)],.mv 138 137,.g 138 true (.mv 139 4),.g 138 true (.bin 140 .eql 139 (kI 0)),.pick 141 138 140 (kB false),.asg 2 141]) .ret) (.seq (.ops [.bin 143 .eql 59 (kI 8),.asg 142 143]) (.cond 142 (.seq (.ops [.mv 144 3,.bin 145 .eql 144 (kI 1),.mv 146 145,.g 146 true (.mv 147 4),.g 146 true (.bin 148 .eql 147 (kI 1)),.pick 149 146 148 (kB false),.asg 2 149]) .ret) (.seq (.ops [.bin 151 .eql 59 (kI 9),.asg 150 151]) (.cond 150 (.seq (.ops [.mv 152 3,.bin 153 .eql 152 (kI 0),.mv 154 153,.g 154 true (.mv 155 4),.g 154 true (.bin 156 .eql 155 (kI 1)),.pick 157 154 156 (kB false),.asg 2 157]) .ret) .skip)))))))))))))))))))) (.seq (.ops [.asg 2 (kB false)]) .ret)))))))
theorem cIy:bG Tryz.prog 118=some (cCu,[.mv 0 2],158):=by kernel_rfl
def cPm (r:Bool):Exit→St→Prop:=bF [.mv 0 2] fun x _=>x=(fun y=>(vB y)) r
def cOu:AC:=(.seq (.ops [.box 1 125 0,.asg 2 (kB false)]) (.seq (.ops [.ld 3 3 true 1,.call (some 4) 139 [3],.mv 5 4,.g 5 true (.fa 6 0 1),.g 5 true (.ld 7 1 false 6),.g 5 true (.bin 8 .neq 7 (kI 1)),.g 5 true (.mv 9 8),.g 9 false (.fa 10 1 1),.g 9 false (.ld 11 1 false 10),.g 9 false (.bin 12 .geq 11 (kI 0)),.g 5 true (.pick 13 9 (kB true) 12),.pick 14 5 13 (kB false),.mv 15 14,.g 15 true (.fa 16 2 1),.g 15 true (.ld 17 1 false 16),.g 15 true (.lns 18 17),.g 15 true (.bin 19 .leq 18 (kI 40)),.pick 20 15 19 (kB false),.asg 2 20]) .ret))
theorem bL1:bG Tryz.prog 131=some (cOu,[.mv 0 2],21):=by kernel_rfl
def cT3 (r:Bool):Exit→St→Prop:=bF [.mv 0 2] fun x _=>x=(fun y=>(vB y)) r
def cHc:AC:=(.seq (.ops [.box 1 125 0,.asg 2 (kB false)]) (.seq (.seq (.ops [.fa 3 0 1,.ld 4 1 false 3]) (.block 0 (.seq (.ops [.bin 6 .eql 4 (kI 0),.asg 5 6]) (.cond 5 (.seq (.ops [.fa 7 1 1,.ld 8 1 false 7,.bin 9 .eql 8 (kI 0),.mv 10 9,.g 10 true (.fa 11 2 1),.g 10 true (.ld 12 1 false 11),.g 10 true (.bin 13 .eql 12 (.c (.d (.s (bs []))))),.pick 14 10 13 (kB false),.asg 2 14]) .ret) (.seq (.ops [.bin 16 .eql 4 (kI 1),.asg 15 16]) (.cond 15 (.seq (.ops [.fa 17 2 1,.ld 18 1 false 17,.bin 19 .eql 18 (.c (.d (.s (bs [])))),.asg 2 19]) .ret) (.seq (.ops [.bin 21 .eql 4 (kI 2),.asg 20 21]) (.cond 20 (.seq (.ops [.fa 22 1 1,.ld 23 1 false 22,.bin 24 .eql 23 (kI 0),.mv 25 24,.g 25 true (.fa 26 2 1),.g 25 true (.ld 27 1 false 26),.g 25 true (.lns 28 27),.g 25 true (.bin 29 .leq 28 (kI 200)),.pick 30 25 29 (kB false),.asg 2 30]) .ret) (.seq (.ops [.bin 32 .eql 4 (kI 3),.asg 31 32]) (.cond 31 (.seq (.ops [.fa 33 1 1,.ld 34 1 false 33,.call (some 35) 52 [34,(kI 0),(kI 1)],.mv 36 35,.g 36 true (.fa 37 2 1),.g 36 true (.ld 38 1 false 37),.g 36 true (.bin 39 .eql 38 (.c (.d (.s (bs []))))),.pick 40 36 39 (kB false),.asg 2 40]) .ret) .skip)))))))))) (.seq (.ops [.asg 2 (kB false)]) .ret)))
theorem cH4:bG Tryz.prog 139=some (cHc,[.mv 0 2],41):=by kernel_rfl
def cSf (r:Bool):Exit→St→Prop:=bF [.mv 0 2] fun x _=>x=(fun y=>(vB y)) r
def bNl:AC:=(.seq (.ops [.asg 2 (kB false)]) (.seq (.ops [.mv 3 0,.bin 4 .eql 3 (.c (.d (.s (bs [])))),.mv 5 4,.g 5 false (.mv 6 0),.g 5 false (.call (some 7) 50 [6]),.pick 8 5 (kB true) 7,.asg 2 8]) .ret))
theorem bLz:bG Tryz.prog 87=some (bNl,[.mv 0 2],9):=by kernel_rfl
def cTn (r:Bool):Exit→St→Prop:=bF [.mv 0 2] fun x _=>x=(fun y=>(vB y)) r
def aUh:AC:=(.loop (.seq (.seq (.ops [.mv 63 5,.fa 64 9 2,.ld 65 1 false 64,.len 66 65,.bin 67 .lss 63 66]) (.cond 67 .skip (.exit 0))) (.seq (.block 1 (.seq (.dops [[],[0],[],[1,2],[3],[],[5],[],[6,7],[8],[4,9],[10]] [.fa 70 9 2,.ld 71 1 false 70,.mv 72 5,.ia 73 6 71 72,.ld 74 6 true 73,.fa 75 9 3,.ld 76 1 false 75,.mv 77 5,.ia 78 6 76 77,.ld 79 6 true 78,.call (some 80) 117 [74,79],.not 81 80]) (.cond 81 (.seq (.ops [.asg 4 (kB false)]) .ret) .skip))) (.ops [.mv 68 5,.bin 69 .add 68 (kI 1),.asg 5 69]))))
def aWk:AC:=(.seq (.ops [.asg 4 (kB true)]) .ret)
def cNo:AC:=(.seq (.ops [.box 2 128 0,.box 3 128 1,.asg 4 (kB false)]) (.seq (.seq (.ops [.fa 6 0 2,.ld 7 1 false 6,.fa 8 0 3,.ld 9 1 false 8,.bin 10 .neq 7 9,.mv 11 10,.g 11 false (.fa 12 1 2),.g 11 false (.ld 13 1 false 12),.g 11 false (.fa 14 1 3),.g 11 false (.ld 15 1 false 14),.g 11 false (.bin 16 .neq 13 15),.pick 17 11 (kB true) 16,.mv 18 17,.g 18 false (.fa 19 2 2),.g 18 false (.ld 20 1 false 19),.g 18 false (.fa 21 2 3),.g 18 false (.ld 22 1 false 21),.g 18 false (.eqb 23 true 20 22),.pick 24 18 (kB true) 23,.mv 25 24,.g 25 false (.fa 26 3 2),.g 25 false (.ld 27 3 true 26),.g 25 false (.fa 28 3 3),.g 25 false (.ld 29 3 true 28),.g 25 false (.eqv 30 true [0,0,1] 27 29),.pick 31 25 (kB true) 30,.mv 32 31,.g 32 false (.fa 33 6 2),.g 32 false (.ld 34 1 false 33),.g 32 false (.fa 35 6 3),.g 32 false (.ld 36 1 false 35),.g 32 false (.bin 37 .neq 34 36),.pick 38 32 (kB true) 37,.mv 39 38,.g 39 false (.fa 40 7 2),.g 39 false (.ld 41 1 false 40),.g 39 false (.fa 42 7 3),.g 39 false (.ld 43 1 false 42),.g 39 false (.bin 44 .neq 41 43),.pick 45 39 (kB true) 44,.mv 46 45,.g 46 false (.fa 47 9 2),.g 46 false (.ld 48 1 false 47),.g 46 false (.len 49 48),.g 46 false (.fa 50 9 3),.g 46 false (.ld 51 1 false 50),.g 46 false (.len 52 51),.g 46 false (.bin 53 .neq 49 52),.pick 54 46 (kB true) 53,.mv 55 54,.g 55 false (.fa 56 8 2),.g 55 false (.ld 57 1 false 56),.g 55 false (.fa 58 8 3),.g 55 false (.ld 59 1 false 58),.g 55 false (.call (some 60) 116 [57,59]),.g 55 false (.not 61 60),.pick 62 55 (kB true) 61]) (.cond 62 (.seq (.ops [.asg 4 (kB false)]) .ret) .skip)) (.seq (.seq (.ops [.asg 5 (kI 0)]) (.block 0 aUh)) aWk)))
theorem cCv:bG Tryz.prog 88=some (cNo,[.mv 0 4],82):=by kernel_rfl
def bAn (r:Bool):Exit→St→Prop:=bF [.mv 0 4] fun x _=>x=(fun y=>(vB y)) r
def bXt (r:Bool):Exit→St→Prop:=(bJ (wkK (avc Tryz.prog aWk (bAn r))) (bAn r))
def cEj (r:Bool):Exit→St→Prop:=(bM 0 (bXt r))
def cBj (p0:aA) (p1:aA) (x5:Int):St:=⟨[(2,(.ptr 2 0)),(3,(.ptr 3 0)),(5,(vI x5))],[(2,nW p0),(3,nW p1)]⟩
abbrev aHm (p0:aA) (p1:aA) (x5:Int) (r:Bool):Prop:=avc Tryz.prog aUh (cEj r) (cBj p0 p1 x5)
def aUc:AC:=(.loop (.seq (.seq (.ops [.mv 59 5,.fa 60 1 2,.ld 61 1 false 60,.len 62 61,.bin 63 .lss 59 62]) (.cond 63 .skip (.exit 0))) (.seq (.block 1 (.seq (.ops [.fa 66 1 2,.ld 67 1 false 66,.mv 68 5,.ia 69 13 67 68,.ld 70 13 true 69,.alc 6 rG,.st 13 6 70]) (.seq (.ops [.fa 71 1 3,.ld 72 1 false 71,.mv 73 5,.ia 74 13 72 73,.ld 75 13 true 74,.alc 7 rG,.st 13 7 75]) (.seq (.ops [.fa 76 0 6,.ld 77 1 false 76,.fa 78 0 7,.ld 79 1 false 78,.eqb 80 true 77 79,.mv 81 80,.g 81 false (.fa 82 1 6),.g 81 false (.ld 83 1 false 82),.g 81 false (.fa 84 1 7),.g 81 false (.ld 85 1 false 84),.g 81 false (.bin 86 .neq 83 85),.pick 87 81 (kB true) 86,.mv 88 87,.g 88 false (.fa 89 12 6),.g 88 false (.ld 90 1 false 89),.g 88 false (.fa 91 12 7),.g 88 false (.ld 92 1 false 91),.g 88 false (.bin 93 .neq 90 92),.pick 94 88 (kB true) 93,.mv 95 94,.g 95 false (.fa 96 2 6),.g 95 false (.ld 97 10 true 96),.g 95 false (.fa 98 2 7),.g 95 false (.ld 99 10 true 98),.g 95 false (.call (some 100) 88 [97,99]),.g 95 false (.not 101 100),.pick 102 95 (kB true) 101]) (.cond 102 (.seq (.ops [.asg 4 (kB false)]) .ret) .skip))))) (.ops [.mv 64 5,.bin 65 .add 64 (kI 1),.asg 5 65]))))
def aPk:AC:=(.loop (.seq (.seq (.ops [.mv 103 8,.fa 104 2 2,.ld 105 1 false 104,.len 106 105,.bin 107 .lss 103 106]) (.cond 107 .skip (.exit 2))) (.seq (.block 3 (.seq (.ops [.fa 110 2 2,.ld 111 1 false 110,.mv 112 8,.ia 113 3 111 112,.ld 114 3 true 113,.alc 9 [bX,bX,(.nil 10)],.st 3 9 114]) (.seq (.ops [.fa 115 2 3,.ld 116 1 false 115,.mv 117 8,.ia 118 3 116 117,.ld 119 3 true 118,.alc 10 [bX,bX,(.nil 10)],.st 3 10 119]) (.seq (.ops [.fa 120 0 9,.ld 121 1 false 120,.fa 122 0 10,.ld 123 1 false 122,.bin 124 .neq 121 123,.mv 125 124,.g 125 false (.fa 126 1 9),.g 125 false (.ld 127 1 false 126),.g 125 false (.fa 128 1 10),.g 125 false (.ld 129 1 false 128),.g 125 false (.bin 130 .neq 127 129),.pick 131 125 (kB true) 130,.mv 132 131,.g 132 false (.fa 133 2 9),.g 132 false (.ld 134 1 false 133),.g 132 false (.fa 135 2 10),.g 132 false (.ld 136 1 false 135),.g 132 false (.call (some 137) 116 [134,136]),.g 132 false (.not 138 137),.pick 139 132 (kB true) 138]) (.cond 139 (.seq (.ops [.asg 4 (kB false)]) .ret) .skip))))) (.ops [.mv 108 8,.bin 109 .add 108 (kI 1),.asg 8 109]))))
def aW7:AC:=(.loop (.seq (.seq (.ops [.mv 140 11,.fa 141 4 2,.ld 142 1 false 141,.len 143 142,.bin 144 .lss 140 143]) (.cond 144 .skip (.exit 4))) (.seq (.block 5 (.seq (.dops [[],[0],[],[1,2],[3],[4],[],[6],[],[7,8],[9],[10],[5,11],[12],[13],[14,13],[13],[15,16,13],[17,13],[18,13],[13],[20,13],[13],[21,22,13],[23,13],[24,13],[19,25,13,13],[26,13],[13,27]] [.fa 147 4 2,.ld 148 1 false 147,.mv 149 11,.ia 150 11 148 149,.fa 151 10 150,.ld 152 1 false 151,.fa 153 4 3,.ld 154 1 false 153,.mv 155 11,.ia 156 11 154 155,.fa 157 10 156,.ld 158 1 false 157,.eqb 159 true 152 158,.mv 160 159,.g 160 false (.fa 161 4 2),.g 160 false (.ld 162 1 false 161),.g 160 false (.mv 163 11),.g 160 false (.ia 164 11 162 163),.g 160 false (.fa 165 0 164),.g 160 false (.ld 166 10 true 165),.g 160 false (.fa 167 4 3),.g 160 false (.ld 168 1 false 167),.g 160 false (.mv 169 11),.g 160 false (.ia 170 11 168 169),.g 160 false (.fa 171 0 170),.g 160 false (.ld 172 10 true 171),.g 160 false (.call (some 173) 88 [166,172]),.g 160 false (.not 174 173),.pick 175 160 (kB true) 174]) (.cond 175 (.seq (.ops [.asg 4 (kB false)]) .ret) .skip))) (.ops [.mv 145 11,.bin 146 .add 145 (kI 1),.asg 11 146]))))
def aY7:AC:=(.seq (.ops [.asg 4 (kB true)]) .ret)
def aX1:AC:=(.seq (.seq (.ops [.asg 11 (kI 0)]) (.block 4 aW7)) aY7)
def bA8:AC:=(.seq (.seq (.ops [.asg 8 (kI 0)]) (.block 2 aPk)) aX1)
def bW4:AC:=(.seq (.ops [.box 2 45 0,.box 3 45 1,.asg 4 (kB false)]) (.seq (.seq (.ops [.fa 12 0 2,.ld 13 1 false 12,.fa 14 0 3,.ld 15 1 false 14,.eqb 16 true 13 15,.mv 17 16,.g 17 false (.fa 18 5 2),.g 17 false (.ld 19 1 false 18),.g 17 false (.fa 20 5 3),.g 17 false (.ld 21 1 false 20),.g 17 false (.bin 22 .neq 19 21),.pick 23 17 (kB true) 22,.mv 24 23,.g 24 false (.fa 25 1 2),.g 24 false (.ld 26 1 false 25),.g 24 false (.len 27 26),.g 24 false (.fa 28 1 3),.g 24 false (.ld 29 1 false 28),.g 24 false (.len 30 29),.g 24 false (.bin 31 .neq 27 30),.pick 32 24 (kB true) 31,.mv 33 32,.g 33 false (.fa 34 2 2),.g 33 false (.ld 35 1 false 34),.g 33 false (.len 36 35),.g 33 false (.fa 37 2 3),.g 33 false (.ld 38 1 false 37),.g 33 false (.len 39 38),.g 33 false (.bin 40 .neq 36 39),.pick 41 33 (kB true) 40,.mv 42 41,.g 42 false (.fa 43 4 2),.g 42 false (.ld 44 1 false 43),.g 42 false (.len 45 44),.g 42 false (.fa 46 4 3),.g 42 false (.ld 47 1 false 46),.g 42 false (.len 48 47),.g 42 false (.bin 49 .neq 45 48),.pick 50 42 (kB true) 49,.mv 51 50,.g 51 false (.fa 52 3 2),.g 51 false (.ld 53 1 false 52),.g 51 false (.fa 54 3 3),.g 51 false (.ld 55 1 false 54),.g 51 false (.call (some 56) 116 [53,55]),.g 51 false (.not 57 56),.pick 58 51 (kB true) 57]) (.cond 58 (.seq (.ops [.asg 4 (kB false)]) .ret) .skip)) (.seq (.seq (.ops [.asg 5 (kI 0)]) (.block 0 aUc)) bA8)))
theorem cKj:bG Tryz.prog 117=some (bW4,[.mv 0 4],176):=by kernel_rfl
def Z4 (r:Bool):Exit→St→Prop:=bF [.mv 0 4] fun x _=>x=(fun y=>(vB y)) r
def bSf (r:Bool):Exit→St→Prop:=(bJ (wkK (avc Tryz.prog bA8 (Z4 r))) (Z4 r))
def bMa (r:Bool):Exit→St→Prop:=(bM 0 (bSf r))
def bPd (r:Bool):Exit→St→Prop:=(bJ (wkK (avc Tryz.prog aX1 (Z4 r))) (Z4 r))
def bVk (r:Bool):Exit→St→Prop:=(bM 2 (bPd r))
def bUa (r:Bool):Exit→St→Prop:=(bJ (wkK (avc Tryz.prog aY7 (Z4 r))) (Z4 r))
def cM8 (r:Bool):Exit→St→Prop:=(bM 4 (bUa r))
def bSm (p0:aJ) (p1:aJ) (x5:Int):St:=⟨[(2,(.ptr 2 0)),(3,(.ptr 3 0)),(5,(vI x5))],[(2,iC p0),(3,iC p1)]⟩
abbrev aGp (p0:aJ) (p1:aJ) (x5:Int) (r:Bool):Prop:=avc Tryz.prog aUc (bMa r) (bSm p0 p1 x5)
def cBc (p0:aJ) (p1:aJ) (x8:Int):St:=⟨[(2,(.ptr 2 0)),(3,(.ptr 3 0)),(8,(vI x8))],[(2,iC p0),(3,iC p1)]⟩
abbrev aGu (p0:aJ) (p1:aJ) (x8:Int) (r:Bool):Prop:=avc Tryz.prog aPk (bVk r) (cBc p0 p1 x8)
def bDz (p0:aJ) (p1:aJ) (x11:Int):St:=⟨[(2,(.ptr 2 0)),(3,(.ptr 3 0)),(11,(vI x11))],[(2,iC p0),(3,iC p1)]⟩
abbrev aFm (p0:aJ) (p1:aJ) (x11:Int) (r:Bool):Prop:=avc Tryz.prog aW7 (cM8 r) (bDz p0 p1 x11)
def aRp:AC:=(.loop (.seq (.seq (.ops [.mv 11 5,.mv 12 0,.len 13 12,.bin 14 .lss 11 13]) (.cond 14 .skip (.exit 0))) (.seq (.block 1 (.seq (.dops [[],[],[0,1],[2],[],[],[4,5],[6],[3,7],[8]] [.mv 17 0,.mv 18 5,.ia 19 10 17 18,.ld 20 10 true 19,.mv 21 1,.mv 22 5,.ia 23 10 21 22,.ld 24 10 true 23,.call (some 25) 88 [20,24],.not 26 25]) (.cond 26 (.seq (.ops [.asg 4 (kB false)]) .ret) .skip))) (.ops [.mv 15 5,.bin 16 .add 15 (kI 1),.asg 5 16]))))
def aYh:AC:=(.seq (.ops [.asg 4 (kB true)]) .ret)
def cBd:AC:=(.seq (.ops [.asg 4 (kB false)]) (.seq (.seq (.ops [.mv 6 0,.len 7 6,.mv 8 1,.len 9 8,.bin 10 .neq 7 9]) (.cond 10 (.seq (.ops [.asg 4 (kB false)]) .ret) .skip)) (.seq (.seq (.ops [.asg 5 (kI 0)]) (.block 0 aRp)) aYh)))
theorem bPq:bG Tryz.prog 116=some (cBd,[.mv 0 4],27):=by kernel_rfl
def bC9 (r:Bool):Exit→St→Prop:=bF [.mv 0 4] fun x _=>x=(fun y=>(vB y)) r
def cGf (r:Bool):Exit→St→Prop:=(bJ (wkK (avc Tryz.prog aYh (bC9 r))) (bC9 r))
def bN4 (r:Bool):Exit→St→Prop:=(bM 0 (cGf r))
def bQs (p0:(List aA)) (p1:(List aA)) (x5:Int):St:=⟨[(0,(bZ p0)),(1,(bZ p1)),(5,(vI x5))],[]⟩
abbrev aJz (p0:(List aA)) (p1:(List aA)) (x5:Int) (r:Bool):Prop:=avc Tryz.prog aRp (bN4 r) (bQs p0 p1 x5)
def aQo:AC:=(.loop (.seq (.seq (.ops [.mv 41 5,.fa 42 1 4,.ld 43 1 false 42,.len 44 43,.bin 45 .lss 41 44]) (.cond 45 .skip (.exit 2))) (.seq (.block 3 (.seq (.dops [[],[0],[],[1,2],[3],[4],[5],[6],[7,6],[8],[8],[10,8],[8],[11,12,8],[13,8],[14,8],[9,15,8,8],[8],[16,17,8],[8,18],[19,16],[20],[21,20],[20],[22,23,20],[24,20],[25,20],[26,20,20],[27,20],[20,28]] [.fa 48 1 4,.ld 49 1 false 48,.mv 50 5,.ia 51 2 49 50,.fa 52 0 51,.ld 53 1 false 52,.call (some 54) 50 [53],.not 55 54,.mv 56 55,.g 56 false (.ld 57 2 true 4),.g 56 false (.fa 58 1 4),.g 56 false (.ld 59 1 false 58),.g 56 false (.mv 60 5),.g 56 false (.ia 61 2 59 60),.g 56 false (.fa 62 0 61),.g 56 false (.ld 63 1 false 62),.g 56 false (.call (some 64) 53 [57,63]),.g 56 false (.mv 65 5),.g 56 false (.bin 66 .neq 64 65),.pick 67 56 (kB true) 66,.mv 68 67,.g 68 false (.fa 69 1 4),.g 68 false (.ld 70 1 false 69),.g 68 false (.mv 71 5),.g 68 false (.ia 72 2 70 71),.g 68 false (.fa 73 1 72),.g 68 false (.ld 74 1 false 73),.g 68 false (.call (some 75) 52 [74,(kI 1),(kI 3)]),.g 68 false (.not 76 75),.pick 77 68 (kB true) 76]) (.cond 77 (.seq (.ops [.asg 2 (kB false)]) .ret) .skip))) (.ops [.mv 46 5,.bin 47 .add 46 (kI 1),.asg 5 47]))))
def bC6:AC:=(.ops [.mv 15 3,.bin 16 .add 15 (kI 1),.asg 3 16])
def aL2:AC:=(.loop (.seq (.seq (.ops [.mv 10 3,.fa 11 0 1,.ld 12 1 false 11,.len 13 12,.bin 14 .lss 10 13]) (.cond 14 .skip (.exit 0))) (.seq (.block 1 (.seq (.ops [.fa 17 0 1,.ld 18 1 false 17,.mv 19 3,.ia 20 2 18 19,.ld 21 2 true 20,.alc 4 [bX,(.nil 2)],.st 2 4 21]) (.seq (.seq (.ops [.fa 22 0 4,.ld 23 1 false 22,.call (some 24) 50 [23],.not 25 24,.mv 26 25,.g 26 false (.ld 27 1 true 1),.g 26 false (.fa 28 0 4),.g 26 false (.ld 29 1 false 28),.g 26 false (.call (some 30) 51 [27,29]),.g 26 false (.mv 31 3),.g 26 false (.bin 32 .neq 30 31),.pick 33 26 (kB true) 32,.mv 34 33,.g 34 false (.fa 35 1 4),.g 34 false (.ld 36 1 false 35),.g 34 false (.len 37 36),.g 34 false (.call (some 38) 52 [37,(kI 1),(kI 4)]),.g 34 false (.not 39 38),.pick 40 34 (kB true) 39]) (.cond 40 (.seq (.ops [.asg 2 (kB false)]) .ret) .skip)) (.seq (.ops [.asg 5 (kI 0)]) (.block 2 aQo))))) bC6)))
def aZw:AC:=(.seq (.ops [.asg 2 (kB true)]) .ret)
def bYy:AC:=(.seq (.ops [.box 1 38 0,.asg 2 (kB false)]) (.seq (.seq (.ops [.fa 6 0 1,.ld 7 1 false 6,.len 8 7,.bin 9 .gtr 8 (kI 4)]) (.cond 9 (.seq (.ops [.asg 2 (kB false)]) .ret) .skip)) (.seq (.seq (.ops [.asg 3 (kI 0)]) (.block 0 aL2)) aZw)))
theorem bXw:bG Tryz.prog 22=some (bYy,[.mv 0 2],78):=by kernel_rfl
def bHr (r:Bool):Exit→St→Prop:=bF [.mv 0 2] fun x _=>x=(fun y=>(vB y)) r
def bXc (r:Bool):Exit→St→Prop:=(bJ (wkK (avc Tryz.prog aZw (bHr r))) (bHr r))
def aWb (r:Bool):Exit→St→Prop:=(bM 0 (bXc r))
def bFi (r:Bool):Exit→St→Prop:=(bJ (avc Tryz.prog aL2 (aWb r)) (aWb r))
def cEy (r:Bool):Exit→St→Prop:=(bJ (wkK (avc Tryz.prog bC6 (bFi r))) (bFi r))
def bWx (r:Bool):Exit→St→Prop:=(bM 1 (cEy r))
def cH0 (r:Bool):Exit→St→Prop:=(bM 2 (bWx r))
def aXe (p0:aY) (x3:Int):St:=⟨[(1,(.ptr 1 0)),(3,(vI x3))],[(1,iZ p0)]⟩
abbrev aJ9 (p0:aY) (x3:Int) (r:Bool):Prop:=avc Tryz.prog aL2 (aWb r) (aXe p0 x3)
def bO8 (x3:Int) (p0:aY) (y1:aP) (x5:Int):St:=⟨[(1,(.ptr 1 0)),(3,(vI x3)),(4,(.ptr 4 0)),(5,(vI x5))],[(1,iZ p0),(4,aLl y1)]⟩
abbrev aNh (x3:Int) (p0:aY) (y1:aP) (x5:Int) (r:Bool):Prop:=avc Tryz.prog aQo (cH0 r) (bO8 x3 p0 y1 x5)
def aUa:AC:=(.loop (.seq (.seq (.ops [.mv 6 5,.fa 7 1 2,.ld 8 1 false 7,.len 9 8,.bin 10 .lss 6 9]) (.cond 10 .skip (.exit 0))) (.seq (.block 1 (.seq (.ops [.fa 13 1 2,.ld 14 1 false 13,.mv 15 5,.ia 16 2 14 15,.fa 17 0 16,.ld 18 1 false 17,.mv 19 1,.bin 20 .eql 18 19]) (.cond 20 (.seq (.ops [.mv 21 5,.asg 4 21]) .ret) .skip))) (.ops [.mv 11 5,.bin 12 .add 11 (kI 1),.asg 5 12]))))
def bIz:AC:=(.seq (.ops [.asg 4 (kI (-1))]) .ret)
def bW2:AC:=(.seq (.ops [.box 2 106 0,.asg 4 (kI 0)]) (.seq (.seq (.ops [.asg 5 (kI 0)]) (.block 0 aUa)) bIz))
theorem cMj:bG Tryz.prog 53=some (bW2,[.mv 0 4],22):=by kernel_rfl
def bHl (r:Int):Exit→St→Prop:=bF [.mv 0 4] fun x _=>x=(fun y=>(vI y)) r
def cHf (r:Int):Exit→St→Prop:=(bJ (wkK (avc Tryz.prog bIz (bHl r))) (bHl r))
def cHo (r:Int):Exit→St→Prop:=(bM 0 (cHf r))
def bKi (p1:(List UInt8)) (p0:aP) (x5:Int):St:=⟨[(1,(vS p1)),(2,(.ptr 2 0)),(5,(vI x5))],[(2,aLl p0)]⟩
abbrev aIt (p1:(List UInt8)) (p0:aP) (x5:Int) (r:Int):Prop:=avc Tryz.prog aUa (cHo r) (bKi p1 p0 x5)
def aR3:AC:=(.loop (.seq (.seq (.ops [.mv 6 5,.fa 7 0 2,.ld 8 1 false 7,.len 9 8,.bin 10 .lss 6 9]) (.cond 10 .skip (.exit 0))) (.seq (.block 1 (.seq (.ops [.fa 13 0 2,.ld 14 1 false 13,.mv 15 5,.ia 16 2 14 15,.fa 17 0 16,.ld 18 1 false 17,.mv 19 1,.bin 20 .eql 18 19]) (.cond 20 (.seq (.ops [.mv 21 5,.asg 4 21]) .ret) .skip))) (.ops [.mv 11 5,.bin 12 .add 11 (kI 1),.asg 5 12]))))
def bF5:AC:=(.seq (.ops [.asg 4 (kI (-1))]) .ret)
def bUo:AC:=(.seq (.ops [.box 2 38 0,.asg 4 (kI 0)]) (.seq (.seq (.ops [.asg 5 (kI 0)]) (.block 0 aR3)) bF5))
theorem cIu:bG Tryz.prog 51=some (bUo,[.mv 0 4],22):=by kernel_rfl
def bJe (r:Int):Exit→St→Prop:=bF [.mv 0 4] fun x _=>x=(fun y=>(vI y)) r
def cNk (r:Int):Exit→St→Prop:=(bJ (wkK (avc Tryz.prog bF5 (bJe r))) (bJe r))
def cK3 (r:Int):Exit→St→Prop:=(bM 0 (cNk r))
def bV0 (p1:(List UInt8)) (p0:aY) (x5:Int):St:=⟨[(1,(vS p1)),(2,(.ptr 2 0)),(5,(vI x5))],[(2,iZ p0)]⟩
abbrev aNu (p1:(List UInt8)) (p0:aY) (x5:Int) (r:Int):Prop:=avc Tryz.prog aR3 (cK3 r) (bV0 p1 p0 x5)
def aR4:AC:=(.ops [.mv 13 6,.bin 14 .add 13 (kI 1),.asg 6 14])
def aIk:AC:=(.loop (.seq (.seq (.ops [.mv 8 6,.fa 9 0 2,.ld 10 1 false 9,.len 11 10,.bin 12 .lss 8 11]) (.cond 12 .skip (.exit 0))) (.seq (.block 1 (.seq (.ops [.mv 15 1,.bin 16 .eql 15 (.c (.d (.s (bs [])))),.mv 17 16,.g 17 false (.fa 18 0 2),.g 17 false (.ld 19 1 false 18),.g 17 false (.mv 20 6),.g 17 false (.ia 21 3 19 20),.g 17 false (.fa 22 0 21),.g 17 false (.ld 23 1 false 22),.g 17 false (.mv 24 1),.g 17 false (.bin 25 .eql 23 24),.pick 26 17 (kB true) 25]) (.cond 26 (.ops [.mv 27 5,.mv 28 6,.bsl 29 3 1 [28],.app 30 3 1 8 27 29,.asg 5 30]) .skip))) aR4)))
def bGl:AC:=(.seq (.ops [.mv 31 5,.asg 4 31]) .ret)
def bKl:AC:=(.seq (.ops [.box 2 117 0,.asg 4 (.c (.nil 1))]) (.seq (.ops [.bsl 7 3 1 [],.asg 5 7]) (.seq (.seq (.ops [.asg 6 (kI 0)]) (.block 0 aIk)) bGl)))
theorem cJ6:bG Tryz.prog 61=some (bKl,[.mv 0 4],32):=by kernel_rfl
def bCx (r:(List Int)):Exit→St→Prop:=bF [.mv 0 4] fun x b=>x=(fun (y:(List Int))=>(.osl 2000000 3 1 (y.map cI))) r∧bV ((fun (y:(List Int))=>[]) r) b
def bYc (r:(List Int)):Exit→St→Prop:=(bJ (wkK (avc Tryz.prog bGl (bCx r))) (bCx r))
def aW5 (r:(List Int)):Exit→St→Prop:=(bM 0 (bYc r))
def cHx (r:(List Int)):Exit→St→Prop:=(bJ (avc Tryz.prog aIk (aW5 r)) (aW5 r))
def bVh (p1:(List UInt8)) (p0:aL) (x5:(List Int)) (x6:Int):St:=⟨[(1,(vS p1)),(2,(.ptr 2 0)),(5,(.osl 5 3 1 (x5.map cI))),(6,(vI x6))],[(2,mW p0)]⟩
abbrev aJ6 (p1:(List UInt8)) (p0:aL) (x5:(List Int)) (x6:Int) (r:(List Int)):Prop:=avc Tryz.prog aIk (aW5 r) (bVh p1 p0 x5 x6)
def bMl (p1:(List UInt8)) (x6:Int) (p0:aL) (iR:(List Int)):St:=⟨[(1,(vS p1)),(2,(.ptr 2 0)),(5,(.osl 5 3 1 (iR.map cI))),(6,(vI x6))],[(2,mW p0)]⟩
abbrev aNb (p1:(List UInt8)) (x6:Int) (p0:aL) (iR:(List Int)) (r:(List Int)):Prop:=avc Tryz.prog aR4 (cHx r) (bMl p1 x6 p0 iR)
def aVv:AC:=(.ops [.mv 28 7,.bin 29 .add 28 (kI 1),.asg 7 29])
def aO2:AC:=(.loop (.seq (.seq (.ops [.mv 20 7,.mv 21 0,.mv 22 6,.ia 23 1 21 22,.fa 24 0 23,.ld 25 1 false 24,.len 26 25,.bin 27 .lss 20 26]) (.cond 27 .skip (.exit 2))) (.seq (.block 3 (.seq (.ops [.mv 30 0,.mv 31 6,.ia 32 1 30 31,.fa 33 0 32,.ld 34 1 false 33,.mv 35 7,.ia 36 3 34 35,.ld 37 3 true 36,.alc 8 [bX,bX,bS],.st 3 8 37]) (.seq (.ops [.fa 38 1 8,.ld 39 1 false 38,.fa 40 7 3,.ld 41 1 false 40,.bin 42 .eql 39 41,.mv 43 42,.g 43 true (.fa 44 6 3),.g 43 true (.ld 45 1 false 44),.g 43 true (.bin 46 .eql 45 (.c (.d (.s (bs []))))),.g 43 true (.mv 47 46),.g 47 false (.fa 48 0 8),.g 47 false (.ld 49 1 false 48),.g 47 false (.fa 50 6 3),.g 47 false (.ld 51 1 false 50),.g 47 false (.bin 52 .eql 49 51),.g 43 true (.pick 53 47 (kB true) 52),.pick 54 43 53 (kB false)]) (.cond 54 (.seq (.ops [.fa 55 2 5,.ld 56 1 false 55,.bin 57 .add 56 (kI 1),.fa 58 2 5,.st 1 58 57]) (.seq (.ops [.mv 59 6,.fa 60 3 5,.st 1 60 59]) (.ops [.mv 61 7,.fa 62 4 5,.st 1 62 61]))) .skip)))) aVv)))
def bEy:AC:=(.seq (.ops [.fa 63 2 5,.ld 64 1 false 63,.bin 65 .gtr 64 (kI 0)]) (.cond 65 (.exit 0) .skip))
def bDc:AC:=(.ops [.mv 18 6,.bin 19 .add 18 (kI 1),.asg 6 19])
def aIs:AC:=(.loop (.seq (.seq (.ops [.mv 14 6,.mv 15 0,.len 16 15,.bin 17 .lss 14 16]) (.cond 17 .skip (.exit 0))) (.seq (.block 1 (.seq (.seq (.ops [.asg 7 (kI 0)]) (.block 2 aO2)) bEy)) bDc)))
def aSo:AC:=(.seq (.ops [.ld 71 5 true 5,.st 5 4 71]) .ret)
def aIh:AC:=(.seq (.seq (.ops [.fa 66 2 5,.ld 67 1 false 66,.bin 68 .neq 67 (kI 1)]) (.cond 68 (.seq (.ops [.fa 69 3 5,.st 1 69 (kI 0)]) (.ops [.fa 70 4 5,.st 1 70 (kI 0)])) .skip)) aSo)
def bN8:AC:=(.seq (.ops [.box 3 128 1,.alc 4 [bX,bX,bS,bS,bS]]) (.seq (.ops [.fa 9 6 3,.ld 10 1 false 9,.fa 11 7 3,.ld 12 1 false 11,.bld 13 [bX,bX,bS,bS,bS] [(0,1,10),(1,1,12)],.alc 5 [bX,bX,bS,bS,bS],.st 5 5 13]) (.seq (.seq (.ops [.asg 6 (kI 0)]) (.block 0 aIs)) aIh)))
theorem cG9:bG Tryz.prog 96=some (bN8,[.ld 0 5 true 4],72):=by kernel_rfl
def aNe (r:aB):Exit→St→Prop:=bF [.ld 0 5 true 4] fun x _=>x=(fun y=>(aJg y)) r
def bUx (r:aB):Exit→St→Prop:=(bJ (wkK (avc Tryz.prog aIh (aNe r))) (aNe r))
def aP5 (r:aB):Exit→St→Prop:=(bM 0 (bUx r))
def aYf (r:aB):Exit→St→Prop:=(bJ (avc Tryz.prog aIs (aP5 r)) (aP5 r))
def cLh (r:aB):Exit→St→Prop:=(bJ (wkK (avc Tryz.prog bDc (aYf r))) (aYf r))
def bAx (r:aB):Exit→St→Prop:=(bM 1 (cLh r))
def bUt (r:aB):Exit→St→Prop:=(bJ (wkK (avc Tryz.prog bEy (bAx r))) (bAx r))
def aOa (r:aB):Exit→St→Prop:=(bM 2 (bUt r))
def cOy (r:aB):Exit→St→Prop:=(bJ (avc Tryz.prog aO2 (aOa r)) (aOa r))
def bVm (p0:(List aL)) (p1:aA) (x6:Int) (nP:Int) (nN:Int) (nQ:Int):St:=⟨[(0,(gG p0)),(3,(.ptr 3 0)),(4,(.ptr 4 0)),(5,(.ptr 5 0)),(6,(vI x6))],[(3,nW p1),(4,[(vS []),(vS []),(vI 0),(vI 0),(vI 0)]),(5,O4 (aB.mk p1.qual p1.name nP nN nQ))]⟩
abbrev aGh (p0:(List aL)) (p1:aA) (x6:Int) (nP:Int) (nN:Int) (nQ:Int) (r:aB):Prop:=avc Tryz.prog aIs (aP5 r) (bVm p0 p1 x6 nP nN nQ)
def bQ2 (p0:(List aL)) (x6:Int) (p1:aA) (x7:Int) (lQ:Int) (nI:Int) (nH:Int):St:=⟨[(0,(gG p0)),(3,(.ptr 3 0)),(4,(.ptr 4 0)),(5,(.ptr 5 0)),(6,(vI x6)),(7,(vI x7))],[(3,nW p1),(4,[(vS []),(vS []),(vI 0),(vI 0),(vI 0)]),(5,O4 (aB.mk p1.qual p1.name lQ nI nH))]⟩
abbrev aFk (p0:(List aL)) (x6:Int) (p1:aA) (x7:Int) (lQ:Int) (nI:Int) (nH:Int) (r:aB):Prop:=avc Tryz.prog aO2 (aOa r) (bQ2 p0 x6 p1 x7 lQ nI nH)
def bXn (p1:aA) (lK:Int) (yP:Int) (zW:Int):St:=⟨[(4,(.ptr 4 0)),(5,(.ptr 5 0))],[(4,[(vS []),(vS []),(vI 0),(vI 0),(vI 0)]),(5,O4 (aB.mk p1.qual p1.name lK yP zW))]⟩
abbrev bD4 (p1:aA) (lK:Int) (yP:Int) (zW:Int) (r:aB):Prop:=avc Tryz.prog aIh (aNe r) (bXn p1 lK yP zW)
def cDe (p0:(List aL)) (x6:Int) (x7:Int) (p1:aA) (oU:Int) (pX:Int) (oZ:Int):St:=⟨[(0,(gG p0)),(3,(.ptr 3 0)),(4,(.ptr 4 0)),(5,(.ptr 5 0)),(6,(vI x6)),(7,(vI x7))],[(3,nW p1),(4,[(vS []),(vS []),(vI 0),(vI 0),(vI 0)]),(5,O4 (aB.mk p1.qual p1.name oU pX oZ))]⟩
abbrev aMd (p0:(List aL)) (x6:Int) (x7:Int) (p1:aA) (oU:Int) (pX:Int) (oZ:Int) (r:aB):Prop:=avc Tryz.prog aVv (cOy r) (cDe p0 x6 x7 p1 oU pX oZ)
def bV1 (p1:aA) (lK:Int) (xO:Int) (yF:Int):St:=⟨[(4,(.ptr 4 0)),(5,(.ptr 5 0))],[(4,[(vS []),(vS []),(vI 0),(vI 0),(vI 0)]),(5,O4 (aB.mk p1.qual p1.name lK xO yF))]⟩
abbrev bHz (p1:aA) (lK:Int) (xO:Int) (yF:Int) (r:aB):Prop:=avc Tryz.prog aSo (aNe r) (bV1 p1 lK xO yF)
def cMr:AC:=(.seq (.ops [.box 2 117 0,.asg 4 (.c (.nil 1))]) (.seq (.ops [.ld 5 1 true 2,.bsl 6 117 1 [5],.mv 7 1,.app 8 117 1 24 6 7,.asg 4 8]) .ret))
theorem cBs:bG Tryz.prog 59=some (cMr,[.mv 0 4],9):=by kernel_rfl
def cQb (r:(List aL)):Exit→St→Prop:=bF [.mv 0 4] fun x b=>x=(fun (y:(List aL))=>(.osl 2000000 117 1 (y.map jA))) r∧bV ((fun (y:(List aL))=>[]) r) b
def aQf:AC:=(.loop (.seq (.seq (.ops [.mv 57 13,.mv 58 12,.len 59 58,.bin 60 .lss 57 59]) (.cond 60 .skip (.exit 2))) (.seq (.block 3 (.dops [[],[0],[],[],[],[3,4],[5],[6],[],[],[8,9],[10],[11],[2,7,12],[13],[1,14],[0,1,2,3,4,5,6,7,8,9,10,11,12,13,14,15],[16,15,15,0,1,2,3,4,5,6,7,8,9,10,11,12,13,14,15]] [.fa 63 0 7,.ld 64 1 false 63,.mv 65 11,.mv 66 12,.mv 67 13,.ia 68 2 66 67,.fa 69 0 68,.ld 70 1 false 69,.mv 71 12,.mv 72 13,.ia 73 2 71 72,.fa 74 1 73,.ld 75 1 false 74,.bld 76 [bX,bX,bS] [(0,1,65),(1,1,70),(2,1,75)],.bsl 77 136 3 [76],.app 78 136 3 40 64 77,.fa 79 0 7,.st 1 79 78])) (.ops [.mv 61 13,.bin 62 .add 61 (kI 1),.asg 13 62]))))
def bDt:AC:=(.ops [.mv 20 9,.bin 21 .add 20 (kI 1),.asg 9 21])
def aMe:AC:=(.loop (.seq (.seq (.ops [.mv 16 9,.mv 17 1,.len 18 17,.bin 19 .lss 16 18]) (.cond 19 .skip (.exit 0))) (.seq (.block 1 (.seq (.dops [[],[],[],[1,2],[3],[4],[0,5],[6,6,0,1,2,3,4,5,6]] [.ld 22 1 true 2,.mv 23 1,.mv 24 9,.ia 25 3 23 24,.fa 26 0 25,.ld 27 1 false 26,.call (some 28) 51 [22,27],.asg 10 28]) (.seq (.ops [.mv 29 1,.mv 30 9,.ia 31 3 29 30,.ld 32 3 true 31,.call (some 33) 94 [32],.asg 11 33]) (.seq (.seq (.ops [.mv 34 10,.bin 35 .lss 34 (kI 0)]) (.cond 35 (.seq (.dops [[],[],[],[1,2],[3],[4],[0,0],[6,0,6],[5,7,0,1,2,3,4,5,6,7]] [.bld 36 [(.nil 3)] [],.mv 37 1,.mv 38 9,.ia 39 3 37 38,.fa 40 0 39,.ld 41 1 false 40,.st 1 4 36,.asg 5 (kI 1),.asg 6 41]) .ret) .skip)) (.seq (.seq (.ops [.mv 42 8,.mv 43 11,.call (some 44) 95 [42,43]]) (.cond 44 (.seq (.ops [.bld 45 [(.nil 3)] [],.mv 46 11,.st 1 4 45,.asg 5 (kI 2),.asg 6 46]) .ret) .skip)) (.seq (.ops [.mv 47 8,.mv 48 11,.bsl 49 9 1 [48],.app 50 9 1 16 47 49,.asg 8 50]) (.seq (.ops [.fa 51 0 2,.ld 52 1 false 51,.mv 53 10,.ia 54 2 52 53,.fa 55 1 54,.ld 56 1 false 55,.asg 12 56]) (.seq (.ops [.asg 13 (kI 0)]) (.block 2 aQf))))))))) bDt)))
def bAv:AC:=(.seq (.ops [.ld 80 1 true 7,.st 1 4 80,.asg 5 (kI 0),.asg 6 (.c (.d (.s (bs []))))]) .ret)
def bX2:AC:=(.seq (.ops [.box 2 38 0,.alc 4 [(.nil 3)],.asg 5 (kI 0),.asg 6 (.c (.d (.s (bs []))))]) (.seq (.ops [.bld 14 [(.nil 3)] [],.alc 7 [(.nil 3)],.st 1 7 14]) (.seq (.ops [.bsl 15 9 1 [],.asg 8 15]) (.seq (.seq (.ops [.asg 9 (kI 0)]) (.block 0 aMe)) bAv))))
theorem cAr:bG Tryz.prog 57=some (bX2,[.ld 0 1 true 4,.mv 0 5,.mv 0 6],81):=by kernel_rfl
def aXi (r:aL×Int×(List UInt8)):Exit→St→Prop:=bF [.ld 0 1 true 4,.mv 0 5,.mv 0 6] fun x _=>x=(fun y=>(.tup [(sH y.1),(vI y.2.1),(vS y.2.2)])) r
def cBa (r:aL×Int×(List UInt8)):Exit→St→Prop:=(bJ (wkK (avc Tryz.prog bAv (aXi r))) (aXi r))
def aO5 (r:aL×Int×(List UInt8)):Exit→St→Prop:=(bM 0 (cBa r))
def bHx (r:aL×Int×(List UInt8)):Exit→St→Prop:=(bJ (avc Tryz.prog aMe (aO5 r)) (aO5 r))
def cJn (r:aL×Int×(List UInt8)):Exit→St→Prop:=(bJ (wkK (avc Tryz.prog bDt (bHx r))) (bHx r))
def bZg (r:aL×Int×(List UInt8)):Exit→St→Prop:=(bM 1 (cJn r))
def cF1 (r:aL×Int×(List UInt8)):Exit→St→Prop:=(bM 2 (bZg r))
def bWr (p1:(List aV)) (p0:aY) (x8:(List (List UInt8))) (x9:Int) (aX:(List dL)):St:=⟨[(1,(eD p1)),(2,(.ptr 2 0)),(4,(.ptr 4 0)),(7,(.ptr 7 0)),(8,(.osl 8 9 1 (x8.map cStr))),(9,(vI x9))],[(2,iZ p0),(4,[(.nil 3)]),(7,[(.osl 78 136 3 (aX.map iY))])]⟩
abbrev aJ5 (p1:(List aV)) (p0:aY) (x8:(List (List UInt8))) (x9:Int) (aX:(List dL)) (r:aL×Int×(List UInt8)):Prop:=avc Tryz.prog aMe (aO5 r) (bWr p1 p0 x8 x9 aX)
def bG2 (p1:(List aV)) (y7:(List (List UInt8))) (x9:Int) (y4:(List UInt8)) (y8:aP) (p0:aY) (x13:Int) (lG:(List dL)):St:=⟨[(1,(eD p1)),(2,(.ptr 2 0)),(4,(.ptr 4 0)),(7,(.ptr 7 0)),(8,(.osl 8 9 1 (y7.map cStr))),(9,(vI x9)),(11,(vS y4)),(12,(jO y8.cols)),(13,(vI x13))],[(2,iZ p0),(4,[(.nil 3)]),(7,[(.osl 78 136 3 (lG.map iY))])]⟩
abbrev aIl (p1:(List aV)) (y7:(List (List UInt8))) (x9:Int) (y4:(List UInt8)) (y8:aP) (p0:aY) (x13:Int) (lG:(List dL)) (r:aL×Int×(List UInt8)):Prop:=avc Tryz.prog aQf (cF1 r) (bG2 p1 y7 x9 y4 y8 p0 x13 lG)
def aQv:AC:=(.loop (.seq (.seq (.ops [.mv 6 5,.mv 7 0,.len 8 7,.bin 9 .lss 6 8]) (.cond 9 .skip (.exit 0))) (.seq (.block 1 (.seq (.ops [.mv 12 0,.mv 13 5,.ia 14 1 12 13,.ld 15 1 false 14,.mv 16 1,.bin 17 .eql 15 16]) (.cond 17 (.seq (.ops [.asg 4 (kB true)]) .ret) .skip))) (.ops [.mv 10 5,.bin 11 .add 10 (kI 1),.asg 5 11]))))
def aWu:AC:=(.seq (.ops [.asg 4 (kB false)]) .ret)
def bW8:AC:=(.seq (.ops [.asg 4 (kB false)]) (.seq (.seq (.ops [.asg 5 (kI 0)]) (.block 0 aQv)) aWu))
theorem bS7:bG Tryz.prog 95=some (bW8,[.mv 0 4],18):=by kernel_rfl
def aWo (r:Bool):Exit→St→Prop:=bF [.mv 0 4] fun x _=>x=(fun y=>(vB y)) r
def bWy (r:Bool):Exit→St→Prop:=(bJ (wkK (avc Tryz.prog aWu (aWo r))) (aWo r))
def bTq (r:Bool):Exit→St→Prop:=(bM 0 (bWy r))
def bZu (p0:(List (List UInt8))) (p1:(List UInt8)) (x5:Int):St:=⟨[(0,(bDo p0)),(1,(vS p1)),(5,(vI x5))],[]⟩
abbrev aJe (p0:(List (List UInt8))) (p1:(List UInt8)) (x5:Int) (r:Bool):Prop:=avc Tryz.prog aQv (bTq r) (bZu p0 p1 x5)
def bNg:AC:=(.seq (.ops [.box 1 123 0,.asg 2 (.c (.d (.s (bs []))))]) (.seq (.seq (.ops [.fa 3 1 1,.ld 4 1 false 3,.bin 5 .neq 4 (.c (.d (.s (bs []))))]) (.cond 5 (.seq (.ops [.fa 6 1 1,.ld 7 1 false 6,.asg 2 7]) .ret) .skip)) (.seq (.ops [.fa 8 0 1,.ld 9 1 false 8,.asg 2 9]) .ret)))
theorem bRe:bG Tryz.prog 94=some (bNg,[.mv 0 2],10):=by kernel_rfl
def cUq (r:(List UInt8)):Exit→St→Prop:=bF [.mv 0 2] fun x _=>x=(fun y=>(vS y)) r
def bPh:AC:=(.seq (.ops [.box 2 38 0,.box 3 45 1,.asg 4 (.c (.nil 5)),.asg 5 (kB false)]) (.seq (.seq (.ops [.ld 7 1 true 2,.call (some 8) 30 [7],.not 9 8,.mv 10 9,.g 10 false (.ld 11 6 true 3),.g 10 false (.call (some 12) 31 [11]),.g 10 false (.not 13 12),.pick 14 10 (kB true) 13]) (.cond 14 (.seq (.ops [.asg 4 (.c (.nil 5)),.asg 5 (kB false)]) .ret) .skip)) (.seq (.ops [.ld 15 1 true 2,.bld 16 [(.nil 2),(.nil 5),eG] [(0,1,15)],.box 17 69 16,.asg 6 17]) (.seq (.ops [.mv 18 6,.ld 19 6 true 3,.call (some 20) 32 [18,(.c (.nil 1)),19]]) (.seq (.seq (.ops [.mv 21 6,.nck 22 21,.fa 23 2 22,.ld 24 1 false 23]) (.cond 24 (.seq (.ops [.asg 4 (.c (.nil 5)),.asg 5 (kB false)]) .ret) .skip)) (.seq (.ops [.mv 25 6,.nck 26 25,.fa 27 1 26,.ld 28 1 false 27,.asg 4 28,.asg 5 (kB true)]) .ret))))))
theorem cCa:bG Tryz.prog 9=some (bPh,[.mv 0 4,.mv 0 5],29):=by kernel_rfl
def cS0 (r:(List aB)×Bool):Exit→St→Prop:=bF [.mv 0 4,.mv 0 5] fun x b=>x=(fun (y:(List aB)×Bool)=>(.tup [(.tre 10000000),(vB y.2)])) r∧bV ((fun (y:(List aB)×Bool)=>[(10000000,[(.trc 5 (y.1.map bL))])]) r) b
def cDg:AC:=(.seq (.ops [.box 1 45 0,.asg 2 (kB false)]) (.seq (.dops [[],[0],[],[2,1],[1,3,3],[4,4],[5],[6,5,5],[5,7],[8,7,0,1,2,3,4,5,6,7,8]] [.ld 3 6 true 1,.call (some 4) 70 [3],.ld 5 6 true 1,.call (some 6) 71 [5],.call (some 7) 69 [4,6],.mv 8 7,.g 8 true (.ld 9 6 true 1),.g 8 true (.call (some 10) 72 [9]),.pick 11 8 10 (kB false),.asg 2 11]) .ret))
theorem cHp:bG Tryz.prog 31=some (cDg,[.mv 0 2],12):=by kernel_rfl
def cTo (r:Bool):Exit→St→Prop:=bF [.mv 0 2] fun x _=>x=(fun y=>(vB y)) r
def cC3:AC:=(.seq (.ops [.asg 4 (kB false)]) (.seq (.ops [.mv 5 0,.bin 6 .leq 5 (kI 24),.mv 7 6,.g 7 true (.mv 8 1),.g 7 true (.bin 9 .leq 8 (kI 200)),.pick 10 7 9 (kB false),.asg 4 10]) .ret))
theorem cFb:bG Tryz.prog 69=some (cC3,[.mv 0 4],11):=by kernel_rfl
def cPc (r:Bool):Exit→St→Prop:=bF [.mv 0 4] fun x _=>x=(fun y=>(vB y)) r
def bT8:AC:=(.seq (.ops [.box 1 45 0,.asg 2 (kI 0)]) (.seq (.ops [.ld 3 6 true 1,.call (some 4) 105 [3],.call (some 5) 106 [4],.asg 2 5]) .ret))
theorem cLr:bG Tryz.prog 71=some (bT8,[.mv 0 2],6):=by kernel_rfl
def cS8 (r:Int):Exit→St→Prop:=bF [.mv 0 2] fun x _=>x=(fun y=>(vI y)) r
def aT9:AC:=(.loop (.seq (.ops [.bin 9 .lss 8 7]) (.seq (.cond 9 .skip (.exit 0)) (.seq (.block 1 (.seq (.ops [.ia 10 10 6 8,.ld 11 10 true 10,.alc 5 vX,.st 10 5 11]) (.ops [.mv 12 3,.ld 13 10 true 5,.call (some 14) 123 [13],.bin 15 .add 12 14,.asg 3 15]))) (.ops [.bin 16 .add 8 (kI 1),.mv 8 16])))))
def bAh:AC:=(.seq (.ops [.mv 17 3,.asg 2 17]) .ret)
def cOc:AC:=(.seq (.ops [.asg 2 (kI 0)]) (.seq (.ops [.asg 3 (kI 0)]) (.seq (.seq (.ops [.mv 6 0,.len 7 6,.mv 8 (kI 0)]) (.block 0 aT9)) bAh)))
theorem bKd:bG Tryz.prog 106=some (cOc,[.mv 0 2],18):=by kernel_rfl
def aZl (r:Int):Exit→St→Prop:=bF [.mv 0 2] fun x _=>x=(fun y=>(vI y)) r
def bR1 (r:Int):Exit→St→Prop:=(bJ (wkK (avc Tryz.prog bAh (aZl r))) (aZl r))
def cHb (r:Int):Exit→St→Prop:=(bM 0 (bR1 r))
def cCy (p0:(List aA)) (x3:Int) (x8:Int):St:=⟨[(3,(vI x3)),(6,(bZ p0)),(7,(vI (p0.length:Int))),(8,(vI x8))],[]⟩
abbrev aGc (p0:(List aA)) (x3:Int) (x8:Int) (r:Int):Prop:=avc Tryz.prog aT9 (cHb r) (cCy p0 x3 x8)
def aVf:AC:=(.loop (.seq (.ops [.bin 14 .lss 13 12]) (.seq (.cond 14 .skip (.exit 0)) (.seq (.block 1 (.seq (.ops [.ia 15 6 11 13,.ld 16 6 true 15,.alc 5 uX,.st 6 5 16]) (.ops [.mv 17 3,.ld 18 6 true 5,.call (some 19) 71 [18],.bin 20 .add 17 19,.asg 3 20]))) (.ops [.bin 21 .add 13 (kI 1),.mv 13 21])))))
def aXa:AC:=(.seq (.ops [.mv 22 3,.asg 2 22]) .ret)
def cJp:AC:=(.seq (.ops [.box 1 128 0,.asg 2 (kI 0)]) (.seq (.ops [.fa 6 8 1,.ld 7 1 false 6,.call (some 8) 106 [7],.bin 9 .add (kI 1) 8,.asg 3 9]) (.seq (.seq (.ops [.fa 10 9 1,.ld 11 1 false 10,.len 12 11,.mv 13 (kI 0)]) (.block 0 aVf)) aXa)))
theorem cBp:bG Tryz.prog 123=some (cJp,[.mv 0 2],23):=by kernel_rfl
def bBw (r:Int):Exit→St→Prop:=bF [.mv 0 2] fun x _=>x=(fun y=>(vI y)) r
def bQl (r:Int):Exit→St→Prop:=(bJ (wkK (avc Tryz.prog aXa (bBw r))) (bBw r))
def cLl (r:Int):Exit→St→Prop:=(bM 0 (bQl r))
def bVp (p0:aA) (x3:Int) (x13:Int):St:=⟨[(3,(vI x3)),(11,(fE p0.sub)),(12,(vI (p0.sub.length:Int))),(13,(vI x13))],[]⟩
abbrev aKz (p0:aA) (x3:Int) (x13:Int) (r:Int):Prop:=avc Tryz.prog aVf (cLl r) (bVp p0 x3 x13)
def aV9:AC:=(.ops [.bin 26 .add 14 (kI 1),.mv 14 26])
def aNf:AC:=(.loop (.seq (.ops [.bin 15 .lss 14 13]) (.seq (.cond 15 .skip (.exit 0)) (.seq (.block 1 (.seq (.ops [.ia 16 13 12 14,.ld 17 13 true 16,.alc 5 rG,.st 13 5 17]) (.seq (.ops [.fa 18 0 5,.ld 19 1 false 18,.not 20 19]) (.cond 20 (.ops [.mv 21 3,.fa 22 2 5,.ld 23 10 true 22,.bsl 24 128 10 [23],.app 25 128 10 136 21 24,.asg 3 25]) .skip)))) aV9))))
def aRq:AC:=(.loop (.seq (.ops [.bin 31 .lss 30 29]) (.seq (.cond 31 .skip (.exit 2)) (.seq (.block 3 (.seq (.ops [.ia 32 3 28 30,.ld 33 3 true 32,.alc 7 [bX,bX,(.nil 10)],.st 3 7 33]) (.ops [.mv 34 3,.fa 35 2 7,.ld 36 1 false 35,.app 37 128 10 136 34 36,.asg 3 37]))) (.ops [.bin 38 .add 30 (kI 1),.mv 30 38])))))
def aOz:AC:=(.loop (.seq (.ops [.bin 47 .lss 46 45]) (.seq (.cond 47 .skip (.exit 4)) (.seq (.block 5 (.seq (.ops [.ia 48 11 44 46,.ld 49 11 true 48,.alc 9 zV,.st 11 9 49]) (.ops [.mv 50 3,.fa 51 0 9,.ld 52 10 true 51,.bsl 53 128 10 [52],.app 54 128 10 136 50 53,.asg 3 54]))) (.ops [.bin 55 .add 46 (kI 1),.mv 46 55])))))
def bHp:AC:=(.seq (.ops [.mv 56 3,.asg 2 56]) .ret)
def aYl:AC:=(.seq (.ops [.mv 39 3,.fa 40 3 1,.ld 41 1 false 40,.app 42 128 10 136 39 41,.asg 3 42]) (.seq (.seq (.ops [.fa 43 4 1,.ld 44 1 false 43,.len 45 44,.mv 46 (kI 0)]) (.block 4 aOz)) bHp))
def bAe:AC:=(.seq (.seq (.ops [.fa 27 2 1,.ld 28 1 false 27,.len 29 28,.mv 30 (kI 0)]) (.block 2 aRq)) aYl)
def bVu:AC:=(.seq (.ops [.box 1 45 0,.asg 2 (.c (.nil 10))]) (.seq (.ops [.bsl 10 128 10 [],.asg 3 10]) (.seq (.seq (.ops [.fa 11 1 1,.ld 12 1 false 11,.len 13 12,.mv 14 (kI 0)]) (.block 0 aNf)) bAe)))
theorem cMf:bG Tryz.prog 105=some (bVu,[.mv 0 2],57):=by kernel_rfl
def Y4 (r:(List aA)):Exit→St→Prop:=bF [.mv 0 2] fun x b=>x=(fun (y:(List aA))=>(.osl 2000000 128 10 (y.map bN))) r∧bV ((fun (y:(List aA))=>[]) r) b
def cEd (r:(List aA)):Exit→St→Prop:=(bJ (wkK (avc Tryz.prog bAe (Y4 r))) (Y4 r))
def aPm (r:(List aA)):Exit→St→Prop:=(bM 0 (cEd r))
def cF0 (r:(List aA)):Exit→St→Prop:=(bJ (avc Tryz.prog aNf (aPm r)) (aPm r))
def cNh (r:(List aA)):Exit→St→Prop:=(bJ (wkK (avc Tryz.prog aYl (Y4 r))) (Y4 r))
def bM8 (r:(List aA)):Exit→St→Prop:=(bM 2 (cNh r))
def cAm (r:(List aA)):Exit→St→Prop:=(bJ (wkK (avc Tryz.prog bHp (Y4 r))) (Y4 r))
def bLg (r:(List aA)):Exit→St→Prop:=(bM 4 (cAm r))
def bLk (p0:aJ) (x3:(List aA)) (x14:Int):St:=⟨[(1,(.ptr 1 0)),(3,(.osl 3 128 10 (x3.map bN))),(12,(fU p0.items)),(13,(vI (p0.items.length:Int))),(14,(vI x14))],[(1,iC p0)]⟩
abbrev aM6 (p0:aJ) (x3:(List aA)) (x14:Int) (r:(List aA)):Prop:=avc Tryz.prog aNf (aPm r) (bLk p0 x3 x14)
def cMm (p0:aJ) (x14:Int) (dU:(List aA)):St:=⟨[(1,(.ptr 1 0)),(3,(.osl 3 128 10 (dU.map bN))),(12,(fU p0.items)),(13,(vI (p0.items.length:Int))),(14,(vI x14))],[(1,iC p0)]⟩
abbrev aFu (p0:aJ) (x14:Int) (dU:(List aA)) (r:(List aA)):Prop:=avc Tryz.prog aV9 (cF0 r) (cMm p0 x14 dU)
def cG8 (p0:aJ) (eP:(List aA)) (x30:Int):St:=⟨[(1,(.ptr 1 0)),(3,(.osl 3 128 10 (eP.map bN))),(28,(eD p0.from_)),(29,(vI (p0.from_.length:Int))),(30,(vI x30))],[(1,iC p0)]⟩
abbrev aL5 (p0:aJ) (eP:(List aA)) (x30:Int) (r:(List aA)):Prop:=avc Tryz.prog aRq (bM8 r) (cG8 p0 eP x30)
def cKd (p0:aJ) (nA:(List aA)) (x46:Int):St:=⟨[(3,(.osl 3 128 10 (nA.map bN))),(44,(fP p0.order)),(45,(vI (p0.order.length:Int))),(46,(vI x46))],[]⟩
abbrev aMh (p0:aJ) (nA:(List aA)) (x46:Int) (r:(List aA)):Prop:=avc Tryz.prog aOz (bLg r) (cKd p0 nA x46)
def aOi:AC:=(.loop (.seq (.ops [.bin 50 .lss 49 48]) (.seq (.cond 50 .skip (.exit 0)) (.seq (.block 1 (.seq (.ops [.ia 51 13 47 49,.ld 52 13 true 51,.alc 4 rG,.st 13 4 52]) (.seq (.ops [.fa 53 0 4,.ld 54 1 false 53,.mv 55 54,.g 55 true (.fa 56 1 4),.g 55 true (.ld 57 1 false 56),.g 55 true (.call (some 58) 107 [57]),.g 55 true (.not 59 58),.g 55 true (.mv 60 59),.g 60 false (.fa 61 12 4),.g 60 false (.ld 62 1 false 61),.g 60 false (.bin 63 .neq 62 (.c (.d (.s (bs []))))),.g 55 true (.pick 64 60 (kB true) 63),.g 55 true (.mv 65 64),.g 65 false (.fa 66 2 4),.g 65 false (.ld 67 10 true 66),.g 65 false (.call (some 68) 108 [67]),.g 65 false (.not 69 68),.g 55 true (.pick 70 65 (kB true) 69),.pick 71 55 70 (kB false),.mv 72 71,.g 72 false (.fa 73 0 4),.g 72 false (.ld 74 1 false 73),.g 72 false (.not 75 74),.g 72 false (.mv 76 75),.g 76 true (.fa 77 1 4),.g 76 true (.ld 78 1 false 77),.g 76 true (.bin 79 .neq 78 (.c (.d (.s (bs []))))),.g 76 true (.mv 80 79),.g 80 false (.fa 81 12 4),.g 80 false (.ld 82 1 false 81),.g 80 false (.call (some 83) 107 [82]),.g 80 false (.not 84 83),.g 76 true (.pick 85 80 (kB true) 84),.g 72 false (.pick 86 76 85 (kB false)),.pick 87 72 (kB true) 86]) (.cond 87 (.seq (.ops [.asg 2 (kB false)]) .ret) .skip)))) (.ops [.bin 88 .add 49 (kI 1),.mv 49 88])))))
def aV3:AC:=(.loop (.seq (.ops [.bin 93 .lss 92 91]) (.seq (.cond 93 .skip (.exit 2)) (.seq (.block 3 (.seq (.ops [.mv 94 92,.ia 95 3 90 92,.ld 96 3 true 95,.alc 6 [bX,bX,(.nil 10)],.asg 5 94,.st 3 6 96]) (.seq (.ops [.fa 97 0 6,.ld 98 1 false 97,.call (some 99) 100 [98],.not 100 99,.mv 101 100,.g 101 false (.fa 102 1 6),.g 101 false (.ld 103 1 false 102),.g 101 false (.call (some 104) 107 [103]),.g 101 false (.not 105 104),.pick 106 101 (kB true) 105,.mv 107 106,.g 107 false (.fa 108 2 6),.g 107 false (.ld 109 1 false 108),.g 107 false (.len 110 109),.g 107 false (.bin 111 .gtr 110 (kI 1)),.pick 112 107 (kB true) 111,.mv 113 112,.g 113 false (.mv 114 5),.g 113 false (.bin 115 .eql 114 (kI 0)),.g 113 false (.mv 116 115),.g 116 true (.fa 117 2 6),.g 116 true (.ld 118 1 false 117),.g 116 true (.len 119 118),.g 116 true (.bin 120 .gtr 119 (kI 0)),.g 113 false (.pick 121 116 120 (kB false)),.pick 122 113 (kB true) 121]) (.cond 122 (.seq (.ops [.asg 2 (kB false)]) .ret) .skip)))) (.ops [.bin 123 .add 92 (kI 1),.mv 92 123])))))
def bA5:AC:=(.seq (.ops [.ld 124 6 true 1,.call (some 125) 105 [124],.call (some 126) 109 [125],.asg 2 126]) .ret)
def bGw:AC:=(.seq (.seq (.ops [.fa 89 2 1,.ld 90 1 false 89,.len 91 90,.mv 92 (kI 0)]) (.block 2 aV3)) bA5)
def bPs:AC:=(.seq (.ops [.box 1 45 0,.asg 2 (kB false)]) (.seq (.seq (.ops [.fa 7 1 1,.ld 8 1 false 7,.len 9 8,.bin 10 .lss 9 (kI 1),.mv 11 10,.g 11 false (.fa 12 1 1),.g 11 false (.ld 13 1 false 12),.g 11 false (.len 14 13),.g 11 false (.bin 15 .gtr 14 (kI 12)),.pick 16 11 (kB true) 15,.mv 17 16,.g 17 false (.fa 18 2 1),.g 17 false (.ld 19 1 false 18),.g 17 false (.len 20 19),.g 17 false (.bin 21 .lss 20 (kI 1)),.pick 22 17 (kB true) 21,.mv 23 22,.g 23 false (.fa 24 2 1),.g 23 false (.ld 25 1 false 24),.g 23 false (.len 26 25),.g 23 false (.bin 27 .gtr 26 (kI 3)),.pick 28 23 (kB true) 27,.mv 29 28,.g 29 false (.fa 30 3 1),.g 29 false (.ld 31 1 false 30),.g 29 false (.len 32 31),.g 29 false (.bin 33 .gtr 32 (kI 1)),.pick 34 29 (kB true) 33,.mv 35 34,.g 35 false (.fa 36 4 1),.g 35 false (.ld 37 1 false 36),.g 35 false (.len 38 37),.g 35 false (.bin 39 .gtr 38 (kI 12)),.pick 40 35 (kB true) 39,.mv 41 40,.g 41 false (.fa 42 5 1),.g 41 false (.ld 43 1 false 42),.g 41 false (.bin 44 .lss 43 (kI (-1))),.pick 45 41 (kB true) 44]) (.cond 45 (.seq (.ops [.asg 2 (kB false)]) .ret) .skip)) (.seq (.seq (.ops [.fa 46 1 1,.ld 47 1 false 46,.len 48 47,.mv 49 (kI 0)]) (.block 0 aOi)) bGw)))
theorem cIm:bG Tryz.prog 72=some (bPs,[.mv 0 2],127):=by kernel_rfl
def aKr (r:Bool):Exit→St→Prop:=bF [.mv 0 2] fun x _=>x=(fun y=>(vB y)) r
def bWf (r:Bool):Exit→St→Prop:=(bJ (wkK (avc Tryz.prog bGw (aKr r))) (aKr r))
def bUy (r:Bool):Exit→St→Prop:=(bM 0 (bWf r))
def cAj (r:Bool):Exit→St→Prop:=(bJ (wkK (avc Tryz.prog bA5 (aKr r))) (aKr r))
def cFk (r:Bool):Exit→St→Prop:=(bM 2 (cAj r))
def bSv (p0:aJ) (x49:Int):St:=⟨[(1,(.ptr 1 0)),(47,(fU p0.items)),(48,(vI (p0.items.length:Int))),(49,(vI x49))],[(1,iC p0)]⟩
abbrev aLh (p0:aJ) (x49:Int) (r:Bool):Prop:=avc Tryz.prog aOi (bUy r) (bSv p0 x49)
def cIa (p0:aJ) (x92:Int):St:=⟨[(1,(.ptr 1 0)),(90,(eD p0.from_)),(91,(vI (p0.from_.length:Int))),(92,(vI x92))],[(1,iC p0)]⟩
abbrev aK8 (p0:aJ) (x92:Int) (r:Bool):Prop:=avc Tryz.prog aV3 (cFk r) (cIa p0 x92)
def cJx:AC:=(.seq (.ops [.asg 2 (kB false)]) (.seq (.ops [.mv 3 0,.bin 4 .eql 3 (.c (.d (.s (bs [])))),.mv 5 4,.g 5 false (.mv 6 0),.g 5 false (.call (some 7) 100 [6]),.pick 8 5 (kB true) 7,.asg 2 8]) .ret))
theorem cGm:bG Tryz.prog 107=some (cJx,[.mv 0 2],9):=by kernel_rfl
def cRj (r:Bool):Exit→St→Prop:=bF [.mv 0 2] fun x _=>x=(fun y=>(vB y)) r
def bVy:AC:=(.seq (.ops [.asg 2 (kB false)]) (.seq (.ops [.mv 3 0,.lns 4 3,.bin 5 .geq 4 (kI 1),.mv 6 5,.g 6 true (.mv 7 0),.g 6 true (.lns 8 7),.g 6 true (.bin 9 .leq 8 (kI 20)),.pick 10 6 9 (kB false),.asg 2 10]) .ret))
theorem cDa:bG Tryz.prog 100=some (bVy,[.mv 0 2],11):=by kernel_rfl
def cQ5 (r:Bool):Exit→St→Prop:=bF [.mv 0 2] fun x _=>x=(fun y=>(vB y)) r
def cDk:AC:=(.seq (.ops [.box 1 128 0,.asg 2 (kB false)]) (.seq (.ops [.ld 3 10 true 1,.bld 4 [bS,bS,eG,bS,bS,bX,bX,bX,(.nil 10),(.nil 6)] [],.call (some 5) 124 [3,4],.asg 2 5]) .ret))
theorem cJt:bG Tryz.prog 108=some (cDk,[.mv 0 2],6):=by kernel_rfl
def cUi (r:Bool):Exit→St→Prop:=bF [.mv 0 2] fun x _=>x=(fun y=>(vB y)) r
def bY9:AC:=(.seq (.ops [.box 2 128 0,.box 3 128 1,.asg 4 (kB false)]) (.seq (.ops [.fa 5 0 2,.ld 6 1 false 5,.fa 7 0 3,.ld 8 1 false 7,.bin 9 .eql 6 8,.mv 10 9,.g 10 true (.fa 11 1 2),.g 10 true (.ld 12 1 false 11),.g 10 true (.fa 13 1 3),.g 10 true (.ld 14 1 false 13),.g 10 true (.bin 15 .eql 12 14),.pick 16 10 15 (kB false),.mv 17 16,.g 17 true (.fa 18 2 2),.g 17 true (.ld 19 1 false 18),.g 17 true (.fa 20 2 3),.g 17 true (.ld 21 1 false 20),.g 17 true (.eqb 22 false 19 21),.pick 23 17 22 (kB false),.mv 24 23,.g 24 true (.fa 25 3 2),.g 24 true (.ld 26 3 true 25),.g 24 true (.fa 27 3 3),.g 24 true (.ld 28 3 true 27),.g 24 true (.eqv 29 false [0,0,1] 26 28),.pick 30 24 29 (kB false),.mv 31 30,.g 31 true (.fa 32 6 2),.g 31 true (.ld 33 1 false 32),.g 31 true (.fa 34 6 3),.g 31 true (.ld 35 1 false 34),.g 31 true (.bin 36 .eql 33 35),.pick 37 31 36 (kB false),.mv 38 37,.g 38 true (.fa 39 7 2),.g 38 true (.ld 40 1 false 39),.g 38 true (.fa 41 7 3),.g 38 true (.ld 42 1 false 41),.g 38 true (.bin 43 .eql 40 42),.pick 44 38 43 (kB false),.mv 45 44,.g 45 true (.fa 46 8 2),.g 45 true (.ld 47 1 false 46),.g 45 true (.fa 48 8 3),.g 45 true (.ld 49 1 false 48),.g 45 true (.call (some 50) 132 [47,49]),.pick 51 45 50 (kB false),.mv 52 51,.g 52 true (.fa 53 9 2),.g 52 true (.ld 54 1 false 53),.g 52 true (.fa 55 9 3),.g 52 true (.ld 56 1 false 55),.g 52 true (.call (some 57) 133 [54,56,(.c (.fn 134 []))]),.pick 58 52 57 (kB false),.asg 4 58]) .ret))
theorem bTh:bG Tryz.prog 124=some (bY9,[.mv 0 4],59):=by kernel_rfl
def cPx (r:Bool):Exit→St→Prop:=bF [.mv 0 4] fun x _=>x=(fun y=>(vB y)) r
def aUq:AC:=(.loop (.seq (.ops [.bin 18 .lss 17 16]) (.seq (.cond 18 .skip (.exit 0)) (.seq (.block 1 (.seq (.ops [.mv 19 17,.ia 20 6 15 17,.ld 21 6 true 20,.alc 8 uX,.asg 7 19,.st 6 8 21]) (.seq (.ops [.mv 22 1,.mv 23 7,.ia 24 6 22 23,.ld 25 6 true 24,.alc 9 uX,.st 6 9 25]) (.seq (.ops [.mv 26 2,.ld 27 6 true 8,.ld 28 6 true 9,.callv (some 29) 26 [27,28],.not 30 29]) (.cond 30 (.seq (.ops [.asg 6 (kB false)]) .ret) .skip))))) (.ops [.bin 31 .add 17 (kI 1),.mv 17 31])))))
def aXg:AC:=(.seq (.ops [.asg 6 (kB true)]) .ret)
def cHn:AC:=(.seq (.ops [.asg 6 (kB false)]) (.seq (.seq (.ops [.mv 10 0,.len 11 10,.mv 12 1,.len 13 12,.bin 14 .neq 11 13]) (.cond 14 (.seq (.ops [.asg 6 (kB false)]) .ret) .skip)) (.seq (.seq (.ops [.mv 15 0,.len 16 15,.mv 17 (kI 0)]) (.block 0 aUq)) aXg)))
theorem bKq:bG Tryz.prog 133=some (cHn,[.mv 0 6],32):=by kernel_rfl
def bIe (r:Bool):Exit→St→Prop:=bF [.mv 0 6] fun x _=>x=(fun y=>(vB y)) r
def cGx (r:Bool):Exit→St→Prop:=(bJ (wkK (avc Tryz.prog aXg (bIe r))) (bIe r))
def bNm (r:Bool):Exit→St→Prop:=(bM 0 (cGx r))
def bNt (p1:(List aJ)) (p0:(List aJ)) (x17:Int):St:=⟨[(1,(fE p1)),(2,(.fn 134 [])),(15,(fE p0)),(16,(vI (p0.length:Int))),(17,(vI x17))],[]⟩
abbrev aI5 (p1:(List aJ)) (p0:(List aJ)) (x17:Int) (r:Bool):Prop:=avc Tryz.prog aUq (bNm r) (bNt p1 p0 x17)
def cKf:AC:=(.seq (.ops [.box 2 45 0,.box 3 45 1,.asg 4 (kB false)]) (.seq (.ops [.asg 5 (.c (.fn 141 []))]) (.seq (.ops [.asg 6 (.c (.fn 142 []))]) (.seq (.ops [.asg 7 (.c (.fn 143 []))]) (.seq (.ops [.fa 8 0 2,.ld 9 1 false 8,.fa 10 0 3,.ld 11 1 false 10,.eqb 12 false 9 11,.mv 13 12,.g 13 true (.fa 14 5 2),.g 13 true (.ld 15 1 false 14),.g 13 true (.fa 16 5 3),.g 13 true (.ld 17 1 false 16),.g 13 true (.bin 18 .eql 15 17),.pick 19 13 18 (kB false),.mv 20 19,.g 20 true (.fa 21 1 2),.g 20 true (.ld 22 1 false 21),.g 20 true (.fa 23 1 3),.g 20 true (.ld 24 1 false 23),.g 20 true (.mv 25 5),.g 20 true (.call (some 26) 144 [22,24,25]),.pick 27 20 26 (kB false),.mv 28 27,.g 28 true (.fa 29 2 2),.g 28 true (.ld 30 1 false 29),.g 28 true (.fa 31 2 3),.g 28 true (.ld 32 1 false 31),.g 28 true (.mv 33 6),.g 28 true (.call (some 34) 145 [30,32,33]),.pick 35 28 34 (kB false),.mv 36 35,.g 36 true (.fa 37 3 2),.g 36 true (.ld 38 1 false 37),.g 36 true (.fa 39 3 3),.g 36 true (.ld 40 1 false 39),.g 36 true (.call (some 41) 132 [38,40]),.pick 42 36 41 (kB false),.mv 43 42,.g 43 true (.fa 44 4 2),.g 43 true (.ld 45 1 false 44),.g 43 true (.fa 46 4 3),.g 43 true (.ld 47 1 false 46),.g 43 true (.mv 48 7),.g 43 true (.call (some 49) 146 [45,47,48]),.pick 50 43 49 (kB false),.asg 4 50]) .ret)))))
theorem cLt:bG Tryz.prog 134=some (cKf,[.mv 0 4],51):=by kernel_rfl
def cUb (r:Bool):Exit→St→Prop:=bF [.mv 0 4] fun x _=>x=(fun y=>(vB y)) r
def aQx:AC:=(.loop (.seq (.ops [.bin 18 .lss 17 16]) (.seq (.cond 18 .skip (.exit 0)) (.seq (.block 1 (.seq (.ops [.mv 19 17,.ia 20 3 15 17,.ld 21 3 true 20,.alc 8 [bX,bX,(.nil 10)],.asg 7 19,.st 3 8 21]) (.seq (.ops [.mv 22 1,.mv 23 7,.ia 24 3 22 23,.ld 25 3 true 24,.alc 9 [bX,bX,(.nil 10)],.st 3 9 25]) (.seq (.ops [.mv 26 2,.ld 27 3 true 8,.ld 28 3 true 9,.callv (some 29) 26 [27,28],.not 30 29]) (.cond 30 (.seq (.ops [.asg 6 (kB false)]) .ret) .skip))))) (.ops [.bin 31 .add 17 (kI 1),.mv 17 31])))))
def bDf:AC:=(.seq (.ops [.asg 6 (kB true)]) .ret)
def bNf:AC:=(.seq (.ops [.asg 6 (kB false)]) (.seq (.seq (.ops [.mv 10 0,.len 11 10,.mv 12 1,.len 13 12,.bin 14 .neq 11 13]) (.cond 14 (.seq (.ops [.asg 6 (kB false)]) .ret) .skip)) (.seq (.seq (.ops [.mv 15 0,.len 16 15,.mv 17 (kI 0)]) (.block 0 aQx)) bDf)))
theorem cJc:bG Tryz.prog 145=some (bNf,[.mv 0 6],32):=by kernel_rfl
def aYt (r:Bool):Exit→St→Prop:=bF [.mv 0 6] fun x _=>x=(fun y=>(vB y)) r
def bU7 (r:Bool):Exit→St→Prop:=(bJ (wkK (avc Tryz.prog bDf (aYt r))) (aYt r))
def bNo (r:Bool):Exit→St→Prop:=(bM 0 (bU7 r))
def cAf (p1:(List aV)) (p0:(List aV)) (x17:Int):St:=⟨[(1,(eD p1)),(2,(.fn 142 [])),(15,(eD p0)),(16,(vI (p0.length:Int))),(17,(vI x17))],[]⟩
abbrev aIi (p1:(List aV)) (p0:(List aV)) (x17:Int) (r:Bool):Prop:=avc Tryz.prog aQx (bNo r) (cAf p1 p0 x17)
def cO1:AC:=(.seq (.ops [.box 2 123 0,.box 3 123 1,.asg 4 (kB false)]) (.seq (.ops [.fa 5 0 2,.ld 6 1 false 5,.fa 7 0 3,.ld 8 1 false 7,.bin 9 .eql 6 8,.mv 10 9,.g 10 true (.fa 11 1 2),.g 10 true (.ld 12 1 false 11),.g 10 true (.fa 13 1 3),.g 10 true (.ld 14 1 false 13),.g 10 true (.bin 15 .eql 12 14),.pick 16 10 15 (kB false),.mv 17 16,.g 17 true (.fa 18 2 2),.g 17 true (.ld 19 1 false 18),.g 17 true (.fa 20 2 3),.g 17 true (.ld 21 1 false 20),.g 17 true (.call (some 22) 132 [19,21]),.pick 23 17 22 (kB false),.asg 4 23]) .ret))
theorem bQo:bG Tryz.prog 142=some (cO1,[.mv 0 4],24):=by kernel_rfl
def cSj (r:Bool):Exit→St→Prop:=bF [.mv 0 4] fun x _=>x=(fun y=>(vB y)) r
def bW1:AC:=(.seq (.ops [.asg 4 (kB false)]) (.seq (.ops [.mv 5 0,.mv 6 1,.call (some 7) 140 [5,6,(.c (.fn 124 []))],.asg 4 7]) .ret))
theorem cJo:bG Tryz.prog 132=some (bW1,[.mv 0 4],8):=by kernel_rfl
def cPu (r:Bool):Exit→St→Prop:=bF [.mv 0 4] fun x _=>x=(fun y=>(vB y)) r
def aT4:AC:=(.loop (.seq (.ops [.bin 18 .lss 17 16]) (.seq (.cond 18 .skip (.exit 0)) (.seq (.block 1 (.seq (.ops [.mv 19 17,.ia 20 10 15 17,.ld 21 10 true 20,.alc 8 vX,.asg 7 19,.st 10 8 21]) (.seq (.ops [.mv 22 1,.mv 23 7,.ia 24 10 22 23,.ld 25 10 true 24,.alc 9 vX,.st 10 9 25]) (.seq (.ops [.mv 26 2,.ld 27 10 true 8,.ld 28 10 true 9,.callv (some 29) 26 [27,28],.not 30 29]) (.cond 30 (.seq (.ops [.asg 6 (kB false)]) .ret) .skip))))) (.ops [.bin 31 .add 17 (kI 1),.mv 17 31])))))
def bDm:AC:=(.seq (.ops [.asg 6 (kB true)]) .ret)
def bLj:AC:=(.seq (.ops [.asg 6 (kB false)]) (.seq (.seq (.ops [.mv 10 0,.len 11 10,.mv 12 1,.len 13 12,.bin 14 .neq 11 13]) (.cond 14 (.seq (.ops [.asg 6 (kB false)]) .ret) .skip)) (.seq (.seq (.ops [.mv 15 0,.len 16 15,.mv 17 (kI 0)]) (.block 0 aT4)) bDm)))
theorem cEa:bG Tryz.prog 140=some (bLj,[.mv 0 6],32):=by kernel_rfl
def bIt (r:Bool):Exit→St→Prop:=bF [.mv 0 6] fun x _=>x=(fun y=>(vB y)) r
def cOp (r:Bool):Exit→St→Prop:=(bJ (wkK (avc Tryz.prog bDm (bIt r))) (bIt r))
def bS8 (r:Bool):Exit→St→Prop:=(bM 0 (cOp r))
def cB9 (p1:(List aA)) (p0:(List aA)) (x17:Int):St:=⟨[(1,(bZ p1)),(2,(.fn 124 [])),(15,(bZ p0)),(16,(vI (p0.length:Int))),(17,(vI x17))],[]⟩
abbrev aHx (p1:(List aA)) (p0:(List aA)) (x17:Int) (r:Bool):Prop:=avc Tryz.prog aT4 (bS8 r) (cB9 p1 p0 x17)
def aT5:AC:=(.loop (.seq (.ops [.bin 18 .lss 17 16]) (.seq (.cond 18 .skip (.exit 0)) (.seq (.block 1 (.seq (.ops [.mv 19 17,.ia 20 13 15 17,.ld 21 13 true 20,.alc 8 rG,.asg 7 19,.st 13 8 21]) (.seq (.ops [.mv 22 1,.mv 23 7,.ia 24 13 22 23,.ld 25 13 true 24,.alc 9 rG,.st 13 9 25]) (.seq (.ops [.mv 26 2,.ld 27 13 true 8,.ld 28 13 true 9,.callv (some 29) 26 [27,28],.not 30 29]) (.cond 30 (.seq (.ops [.asg 6 (kB false)]) .ret) .skip))))) (.ops [.bin 31 .add 17 (kI 1),.mv 17 31])))))
def bFc:AC:=(.seq (.ops [.asg 6 (kB true)]) .ret)
def bXe:AC:=(.seq (.ops [.asg 6 (kB false)]) (.seq (.seq (.ops [.mv 10 0,.len 11 10,.mv 12 1,.len 13 12,.bin 14 .neq 11 13]) (.cond 14 (.seq (.ops [.asg 6 (kB false)]) .ret) .skip)) (.seq (.seq (.ops [.mv 15 0,.len 16 15,.mv 17 (kI 0)]) (.block 0 aT5)) bFc)))
theorem cNd:bG Tryz.prog 144=some (bXe,[.mv 0 6],32):=by kernel_rfl
def aYe (r:Bool):Exit→St→Prop:=bF [.mv 0 6] fun x _=>x=(fun y=>(vB y)) r
def cCf (r:Bool):Exit→St→Prop:=(bJ (wkK (avc Tryz.prog bFc (aYe r))) (aYe r))
def bM6 (r:Bool):Exit→St→Prop:=(bM 0 (cCf r))
def bW6 (p1:(List bA)) (p0:(List bA)) (x17:Int):St:=⟨[(1,(fU p1)),(2,(.fn 141 [])),(15,(fU p0)),(16,(vI (p0.length:Int))),(17,(vI x17))],[]⟩
abbrev aHg (p1:(List bA)) (p0:(List bA)) (x17:Int) (r:Bool):Prop:=avc Tryz.prog aT5 (bM6 r) (bW6 p1 p0 x17)
def bSn:AC:=(.seq (.ops [.box 2 132 0,.box 3 132 1,.asg 4 (kB false)]) (.seq (.ops [.fa 5 0 2,.ld 6 1 false 5,.fa 7 0 3,.ld 8 1 false 7,.eqb 9 false 6 8,.mv 10 9,.g 10 true (.fa 11 1 2),.g 10 true (.ld 12 1 false 11),.g 10 true (.fa 13 1 3),.g 10 true (.ld 14 1 false 13),.g 10 true (.bin 15 .eql 12 14),.pick 16 10 15 (kB false),.mv 17 16,.g 17 true (.fa 18 12 2),.g 17 true (.ld 19 1 false 18),.g 17 true (.fa 20 12 3),.g 17 true (.ld 21 1 false 20),.g 17 true (.bin 22 .eql 19 21),.pick 23 17 22 (kB false),.mv 24 23,.g 24 true (.fa 25 2 2),.g 24 true (.ld 26 10 true 25),.g 24 true (.fa 27 2 3),.g 24 true (.ld 28 10 true 27),.g 24 true (.call (some 29) 124 [26,28]),.pick 30 24 29 (kB false),.asg 4 30]) .ret))
theorem cAq:bG Tryz.prog 141=some (bSn,[.mv 0 4],31):=by kernel_rfl
def cQt (r:Bool):Exit→St→Prop:=bF [.mv 0 4] fun x _=>x=(fun y=>(vB y)) r
def aO7:AC:=(.loop (.seq (.ops [.bin 18 .lss 17 16]) (.seq (.cond 18 .skip (.exit 0)) (.seq (.block 1 (.seq (.ops [.mv 19 17,.ia 20 11 15 17,.ld 21 11 true 20,.alc 8 zV,.asg 7 19,.st 11 8 21]) (.seq (.ops [.mv 22 1,.mv 23 7,.ia 24 11 22 23,.ld 25 11 true 24,.alc 9 zV,.st 11 9 25]) (.seq (.ops [.mv 26 2,.ld 27 11 true 8,.ld 28 11 true 9,.callv (some 29) 26 [27,28],.not 30 29]) (.cond 30 (.seq (.ops [.asg 6 (kB false)]) .ret) .skip))))) (.ops [.bin 31 .add 17 (kI 1),.mv 17 31])))))
def bHi:AC:=(.seq (.ops [.asg 6 (kB true)]) .ret)
def cDu:AC:=(.seq (.ops [.asg 6 (kB false)]) (.seq (.seq (.ops [.mv 10 0,.len 11 10,.mv 12 1,.len 13 12,.bin 14 .neq 11 13]) (.cond 14 (.seq (.ops [.asg 6 (kB false)]) .ret) .skip)) (.seq (.seq (.ops [.mv 15 0,.len 16 15,.mv 17 (kI 0)]) (.block 0 aO7)) bHi)))
theorem bXx:bG Tryz.prog 146=some (cDu,[.mv 0 6],32):=by kernel_rfl
def bC3 (r:Bool):Exit→St→Prop:=bF [.mv 0 6] fun x _=>x=(fun y=>(vB y)) r
def bQp (r:Bool):Exit→St→Prop:=(bJ (wkK (avc Tryz.prog bHi (bC3 r))) (bC3 r))
def cC6 (r:Bool):Exit→St→Prop:=(bM 0 (bQp r))
def cFp (p1:(List bC)) (p0:(List bC)) (x17:Int):St:=⟨[(1,(fP p1)),(2,(.fn 143 [])),(15,(fP p0)),(16,(vI (p0.length:Int))),(17,(vI x17))],[]⟩
abbrev aKf (p1:(List bC)) (p0:(List bC)) (x17:Int) (r:Bool):Prop:=avc Tryz.prog aO7 (cC6 r) (cFp p1 p0 x17)
def cGs:AC:=(.seq (.ops [.box 2 130 0,.box 3 130 1,.asg 4 (kB false)]) (.seq (.ops [.fa 5 10 2,.ld 6 1 false 5,.fa 7 10 3,.ld 8 1 false 7,.eqb 9 false 6 8,.mv 10 9,.g 10 true (.fa 11 0 2),.g 10 true (.ld 12 10 true 11),.g 10 true (.fa 13 0 3),.g 10 true (.ld 14 10 true 13),.g 10 true (.call (some 15) 124 [12,14]),.pick 16 10 15 (kB false),.asg 4 16]) .ret))
theorem bWh:bG Tryz.prog 143=some (cGs,[.mv 0 4],17):=by kernel_rfl
def cQs (r:Bool):Exit→St→Prop:=bF [.mv 0 4] fun x _=>x=(fun y=>(vB y)) r
def cFw:AC:=(.seq (.ops [.asg 2 (kB false)]) (.seq (.ops [.mv 3 0,.call (some 4) 125 [3,(.c (.fn 126 []))],.not 5 4,.asg 2 5]) .ret))
theorem cNs:bG Tryz.prog 109=some (cFw,[.mv 0 2],6):=by kernel_rfl
def cTv (r:Bool):Exit→St→Prop:=bF [.mv 0 2] fun x _=>x=(fun y=>(vB y)) r
def bQc:AC:=(.seq (.ops [.asg 4 (kB false)]) (.seq (.ops [.mv 5 0,.mv 6 1,.call (some 7) 135 [5,6],.bin 8 .geq 7 (kI 0),.asg 4 8]) .ret))
theorem cH8:bG Tryz.prog 125=some (bQc,[.mv 0 4],9):=by kernel_rfl
def cR0 (r:Bool):Exit→St→Prop:=bF [.mv 0 4] fun x _=>x=(fun y=>(vB y)) r
def aPb:AC:=(.loop (.seq (.ops [.bin 9 .lss 8 7]) (.seq (.cond 9 .skip (.exit 0)) (.seq (.block 1 (.seq (.ops [.mv 10 8,.asg 5 10]) (.seq (.ops [.mv 11 1,.mv 12 0,.mv 13 5,.ia 14 10 12 13,.ld 15 10 true 14,.callv (some 16) 11 [15]]) (.cond 16 (.seq (.ops [.mv 17 5,.asg 4 17]) .ret) .skip)))) (.ops [.bin 18 .add 8 (kI 1),.mv 8 18])))))
def bDn:AC:=(.seq (.ops [.asg 4 (kI (-1))]) .ret)
def bKr:AC:=(.seq (.ops [.asg 4 (kI 0)]) (.seq (.seq (.ops [.mv 6 0,.len 7 6,.mv 8 (kI 0)]) (.block 0 aPb)) bDn))
theorem bQe:bG Tryz.prog 135=some (bKr,[.mv 0 4],19):=by kernel_rfl
def bGi (r:Int):Exit→St→Prop:=bF [.mv 0 4] fun x _=>x=(fun y=>(vI y)) r
def bKo (r:Int):Exit→St→Prop:=(bJ (wkK (avc Tryz.prog bDn (bGi r))) (bGi r))
def bMv (r:Int):Exit→St→Prop:=(bM 0 (bKo r))
def cA1 (p0:(List aA)) (x8:Int):St:=⟨[(0,(bZ p0)),(1,(.fn 126 [])),(7,(vI (p0.length:Int))),(8,(vI x8))],[]⟩
abbrev aG6 (p0:(List aA)) (x8:Int) (r:Int):Prop:=avc Tryz.prog aPb (bMv r) (cA1 p0 x8)
def bMu:AC:=(.seq (.ops [.box 1 128 0,.asg 2 (kB false)]) (.seq (.ops [.ld 3 10 true 1,.call (some 4) 127 [3],.not 5 4,.asg 2 5]) .ret))
theorem cOe:bG Tryz.prog 126=some (bMu,[.mv 0 2],6):=by kernel_rfl
def cQ0 (r:Bool):Exit→St→Prop:=bF [.mv 0 2] fun x _=>x=(fun y=>(vB y)) r
def bV5:AC:=(.seq (.ops [.box 1 128 0,.asg 2 (kB false)]) (.seq (.ops [.ld 6 10 true 1,.call (some 7) 136 [6],.mv 5 7,.ext 8 5 0,.ext 9 5 1,.alc 3 bCb,.st 7 3 8,.asg 4 9]) (.seq (.seq (.ops [.mv 10 4,.not 11 10,.mv 12 11,.g 12 false (.fa 13 0 3),.g 12 false (.ld 14 1 false 13),.g 12 false (.not 15 14),.g 12 false (.mv 16 15),.g 16 true (.fa 17 1 1),.g 16 true (.ld 18 1 false 17),.g 16 true (.bin 19 .neq 18 (kI 0)),.g 12 false (.pick 20 16 19 (kB false)),.pick 21 12 (kB true) 20,.mv 22 21,.g 22 false (.fa 23 1 3),.g 22 false (.ld 24 1 false 23),.g 22 false (.not 25 24),.g 22 false (.mv 26 25),.g 26 true (.fa 27 2 1),.g 26 true (.ld 28 1 false 27),.g 22 false (.pick 29 26 28 (kB false)),.pick 30 22 (kB true) 29,.mv 31 30,.g 31 false (.fa 32 2 3),.g 31 false (.ld 33 1 false 32),.g 31 false (.not 34 33),.g 31 false (.mv 35 34),.g 35 true (.fa 36 3 1),.g 35 true (.ld 37 3 true 36),.g 35 true (.bld 38 [bS,bS,bX] []),.g 35 true (.eqv 39 true [0,0,1] 37 38),.g 31 false (.pick 40 35 39 (kB false)),.pick 41 31 (kB true) 40,.mv 42 41,.g 42 false (.fa 43 3 3),.g 42 false (.ld 44 1 false 43),.g 42 false (.not 45 44),.g 42 false (.mv 46 45),.g 46 true (.fa 47 6 1),.g 46 true (.ld 48 1 false 47),.g 46 true (.bin 49 .neq 48 (.c (.d (.s (bs []))))),.g 46 true (.mv 50 49),.g 50 false (.fa 51 7 1),.g 50 false (.ld 52 1 false 51),.g 50 false (.bin 53 .neq 52 (.c (.d (.s (bs []))))),.g 46 true (.pick 54 50 (kB true) 53),.g 42 false (.pick 55 46 54 (kB false)),.pick 56 42 (kB true) 55]) (.cond 56 (.seq (.ops [.asg 2 (kB false)]) .ret) .skip)) (.seq (.seq (.ops [.fa 57 8 1,.ld 58 1 false 57,.len 59 58,.fa 60 4 3,.ld 61 1 false 60,.bin 62 .lss 59 61,.mv 63 62,.g 63 false (.fa 64 8 1),.g 63 false (.ld 65 1 false 64),.g 63 false (.len 66 65),.g 63 false (.fa 67 5 3),.g 63 false (.ld 68 1 false 67),.g 63 false (.bin 69 .gtr 66 68),.pick 70 63 (kB true) 69,.mv 71 70,.g 71 false (.fa 72 9 1),.g 71 false (.ld 73 1 false 72),.g 71 false (.len 74 73),.g 71 false (.fa 75 6 3),.g 71 false (.ld 76 1 false 75),.g 71 false (.bin 77 .neq 74 76),.pick 78 71 (kB true) 77]) (.cond 78 (.seq (.ops [.asg 2 (kB false)]) .ret) .skip)) (.seq (.ops [.fa 79 8 1,.ld 80 1 false 79,.call (some 81) 109 [80],.mv 82 81,.g 82 true (.fa 83 9 1),.g 82 true (.ld 84 1 false 83),.g 82 true (.call (some 85) 137 [84,(.c (.fn 138 []))]),.g 82 true (.not 86 85),.pick 87 82 86 (kB false),.asg 2 87]) .ret)))))
theorem cIr:bG Tryz.prog 127=some (bV5,[.mv 0 2],88):=by kernel_rfl
def cQz (r:Bool):Exit→St→Prop:=bF [.mv 0 2] fun x _=>x=(fun y=>(vB y)) r
def cM3:AC:=(.seq (.ops [.asg 4 (kB false)]) (.seq (.ops [.mv 5 0,.mv 6 1,.call (some 7) 148 [5,6],.bin 8 .geq 7 (kI 0),.asg 4 8]) .ret))
theorem cBe:bG Tryz.prog 137=some (cM3,[.mv 0 4],9):=by kernel_rfl
def cPp (r:Bool):Exit→St→Prop:=bF [.mv 0 4] fun x _=>x=(fun y=>(vB y)) r
def aWf:AC:=(.loop (.seq (.ops [.bin 9 .lss 8 7]) (.seq (.cond 9 .skip (.exit 0)) (.seq (.block 1 (.seq (.ops [.mv 10 8,.asg 5 10]) (.seq (.ops [.mv 11 1,.mv 12 0,.mv 13 5,.ia 14 6 12 13,.ld 15 6 true 14,.callv (some 16) 11 [15]]) (.cond 16 (.seq (.ops [.mv 17 5,.asg 4 17]) .ret) .skip)))) (.ops [.bin 18 .add 8 (kI 1),.mv 8 18])))))
def aZh:AC:=(.seq (.ops [.asg 4 (kI (-1))]) .ret)
def cP6:AC:=(.seq (.ops [.asg 4 (kI 0)]) (.seq (.seq (.ops [.mv 6 0,.len 7 6,.mv 8 (kI 0)]) (.block 0 aWf)) aZh))
theorem bM7:bG Tryz.prog 148=some (cP6,[.mv 0 4],19):=by kernel_rfl
def bEw (r:Int):Exit→St→Prop:=bF [.mv 0 4] fun x _=>x=(fun y=>(vI y)) r
def bXl (r:Int):Exit→St→Prop:=(bJ (wkK (avc Tryz.prog aZh (bEw r))) (bEw r))
def bNx (r:Int):Exit→St→Prop:=(bM 0 (bXl r))
def cHe (p0:(List aJ)) (x8:Int):St:=⟨[(0,(fE p0)),(1,(.fn 138 [])),(7,(vI (p0.length:Int))),(8,(vI x8))],[]⟩
abbrev aNn (p0:(List aJ)) (x8:Int) (r:Int):Prop:=avc Tryz.prog aWf (bNx r) (cHe p0 x8)
def cN4:AC:=(.seq (.ops [.box 1 45 0,.asg 2 (kB false)]) (.seq (.ops [.ld 3 6 true 1,.call (some 4) 72 [3],.not 5 4,.asg 2 5]) .ret))
theorem bZ1:bG Tryz.prog 138=some (cN4,[.mv 0 2],6):=by kernel_rfl
def cUt (r:Bool):Exit→St→Prop:=bF [.mv 0 2] fun x _=>x=(fun y=>(vB y)) r
def cAz:AC:=(.seq (.ops [.box 1 128 0,.alc 2 bCb,.asg 3 (kB false)]) (.seq (.seq (.ops [.fa 4 0 1,.ld 5 1 false 4]) (.block 0 (.seq (.ops [.bin 7 .eql 5 (kI 1),.asg 6 7]) (.cond 6 (.seq (.ops [.bld 8 [eG,eG,eG,eG,bS,bS,bS] [(2,1,(kB true))],.fa 9 3 1,.ld 10 3 true 9,.call (some 11) 147 [10],.st 7 2 8,.asg 3 11]) .ret) (.seq (.ops [.bin 13 .eql 5 (kI 2),.asg 12 13]) (.cond 12 (.seq (.ops [.bld 14 [eG,eG,eG,eG,bS,bS,bS] [(3,1,(kB true))],.fa 15 7 1,.ld 16 1 false 15,.call (some 17) 100 [16],.mv 18 17,.g 18 true (.fa 19 6 1),.g 18 true (.ld 20 1 false 19),.g 18 true (.bin 21 .eql 20 (.c (.d (.s (bs []))))),.g 18 true (.mv 22 21),.g 22 false (.fa 23 6 1),.g 22 false (.ld 24 1 false 23),.g 22 false (.call (some 25) 100 [24]),.g 18 true (.pick 26 22 (kB true) 25),.pick 27 18 26 (kB false),.st 7 2 14,.asg 3 27]) .ret) (.seq (.ops [.bin 29 .eql 5 (kI 3),.asg 28 29]) (.cond 28 (.seq (.dops [[],[],[1],[2],[3],[4],[5,4],[6,4],[4,7],[0,4,0],[8,9,0,1,2,3,4,5,6,7,8,9]] [.bld 30 [eG,eG,eG,eG,bS,bS,bS] [(0,1,(kB true)),(4,1,(kI 1)),(5,1,(kI 1))],.fa 31 1 1,.ld 32 1 false 31,.bin 33 .eql 32 (kI 15),.mv 34 33,.g 34 false (.fa 35 1 1),.g 34 false (.ld 36 1 false 35),.g 34 false (.bin 37 .eql 36 (kI 16)),.pick 38 34 (kB true) 37,.st 7 2 30,.asg 3 38]) .ret) (.seq (.ops [.bin 40 .eql 5 (kI 4),.asg 39 40]) (.cond 39 (.seq (.dops [[],[],[1],[2],[3],[4],[5,4],[6,4],[4,7],[0,4,0],[8,9,0,1,2,3,4,5,6,7,8,9]] [.bld 41 [eG,eG,eG,eG,bS,bS,bS] [(0,1,(kB true)),(4,1,(kI 2)),(5,1,(kI 2))],.fa 42 1 1,.ld 43 1 false 42,.bin 44 .geq 43 (kI 1),.mv 45 44,.g 45 true (.fa 46 1 1),.g 45 true (.ld 47 1 false 46),.g 45 true (.bin 48 .leq 47 (kI 14)),.pick 49 45 48 (kB false),.st 7 2 41,.asg 3 49]) .ret) (.seq (.ops [.bin 51 .eql 5 (kI 5),.asg 50 51]) (.cond 50 (.seq (.ops [.bld 52 [eG,eG,eG,eG,bS,bS,bS] [(1,1,(kB true)),(4,1,(kI 1)),(5,1,(kI 1))],.st 7 2 52,.asg 3 (kB true)]) .ret) (.seq (.ops [.bin 54 .eql 5 (kI 6),.asg 53 54]) (.cond 53 (.seq (.ops [.bld 55 [eG,eG,eG,eG,bS,bS,bS] [(1,1,(kB true)),(4,1,(kI 3)),(5,1,(kI 3))],.st 7 2 55,.asg 3 (kB true)]) .ret) (.seq (.ops [.bin 57 .eql 5 (kI 7),.asg 56 57]) (.cond 56 (.seq (.ops [.bld 58 [eG,eG,eG,eG,bS,bS,bS] [(1,1,(kB true)),(4,1,(kI 2)),(5,1,(kI 9))],.st 7 2 58,.asg 3 (kB true)]) .ret) (.seq (.ops [.bin 60 .eql 5 (kI 8),.asg 59 60]) (.cond 59 (.seq (.ops [.bld 61 [eG,eG,eG,eG,bS,bS,bS] [(1,1,(kB true)),(4,1,(kI 1)),(5,1,(kI 1)),(6,1,(kI 1))],.st 7 2 61,.asg 3 (kB true)]) .ret) (.seq (.ops [.bin 63 .eql 5 (kI 9),.asg 62 63]) (.cond 62 (.seq (.ops [.bld 64 [eG,eG,eG,eG,bS,bS,bS] [(6,1,(kI 1))],.st 7 2 64,.asg 3 (kB true)]) .ret) .skip)))))))))))))))))))) (.seq (.ops [.bld 65 [eG,eG,eG,eG,bS,bS,bS] [],.st 7 2 65,.asg 3 (kB false)]) .ret)))
theorem cA7:bG Tryz.prog 136=some (cAz,[.ld 0 7 true 2,.mv 0 3],66):=by kernel_rfl
def cSk (r:jW×Bool):Exit→St→Prop:=bF [.ld 0 7 true 2,.mv 0 3] fun x _=>x=(fun y=>(.tup [(bGc y.1),(vB y.2)])) r
def bOu:AC:=(.seq (.ops [.box 1 125 0,.asg 2 (kB false)]) (.seq (.ops [.ld 3 3 true 1,.call (some 4) 149 [3],.mv 5 4,.g 5 true (.fa 6 0 1),.g 5 true (.ld 7 1 false 6),.g 5 true (.bin 8 .neq 7 (kI 1)),.g 5 true (.mv 9 8),.g 9 false (.fa 10 1 1),.g 9 false (.ld 11 1 false 10),.g 9 false (.bin 12 .geq 11 (kI 0)),.g 5 true (.pick 13 9 (kB true) 12),.pick 14 5 13 (kB false),.mv 15 14,.g 15 true (.fa 16 2 1),.g 15 true (.ld 17 1 false 16),.g 15 true (.lns 18 17),.g 15 true (.bin 19 .leq 18 (kI 40)),.pick 20 15 19 (kB false),.asg 2 20]) .ret))
theorem cEh:bG Tryz.prog 147=some (bOu,[.mv 0 2],21):=by kernel_rfl
def cPd (r:Bool):Exit→St→Prop:=bF [.mv 0 2] fun x _=>x=(fun y=>(vB y)) r
def cLm:AC:=(.seq (.ops [.box 1 125 0,.asg 2 (kB false)]) (.seq (.seq (.ops [.fa 3 0 1,.ld 4 1 false 3]) (.block 0 (.seq (.ops [.bin 6 .eql 4 (kI 0),.asg 5 6]) (.cond 5 (.seq (.ops [.fa 7 1 1,.ld 8 1 false 7,.bin 9 .eql 8 (kI 0),.mv 10 9,.g 10 true (.fa 11 2 1),.g 10 true (.ld 12 1 false 11),.g 10 true (.bin 13 .eql 12 (.c (.d (.s (bs []))))),.pick 14 10 13 (kB false),.asg 2 14]) .ret) (.seq (.ops [.bin 16 .eql 4 (kI 1),.asg 15 16]) (.cond 15 (.seq (.ops [.fa 17 2 1,.ld 18 1 false 17,.bin 19 .eql 18 (.c (.d (.s (bs [])))),.asg 2 19]) .ret) (.seq (.ops [.bin 21 .eql 4 (kI 2),.asg 20 21]) (.cond 20 (.seq (.ops [.fa 22 1 1,.ld 23 1 false 22,.bin 24 .eql 23 (kI 0),.mv 25 24,.g 25 true (.fa 26 2 1),.g 25 true (.ld 27 1 false 26),.g 25 true (.lns 28 27),.g 25 true (.bin 29 .leq 28 (kI 200)),.pick 30 25 29 (kB false),.asg 2 30]) .ret) (.seq (.ops [.bin 32 .eql 4 (kI 3),.asg 31 32]) (.cond 31 (.seq (.ops [.fa 33 1 1,.ld 34 1 false 33,.bin 35 .eql 34 (kI 0),.mv 36 35,.g 36 false (.fa 37 1 1),.g 36 false (.ld 38 1 false 37),.g 36 false (.bin 39 .eql 38 (kI 1)),.pick 40 36 (kB true) 39,.mv 41 40,.g 41 true (.fa 42 2 1),.g 41 true (.ld 43 1 false 42),.g 41 true (.bin 44 .eql 43 (.c (.d (.s (bs []))))),.pick 45 41 44 (kB false),.asg 2 45]) .ret) .skip)))))))))) (.seq (.ops [.asg 2 (kB false)]) .ret)))
theorem cKz:bG Tryz.prog 149=some (cLm,[.mv 0 2],46):=by kernel_rfl
def cRz (r:Bool):Exit→St→Prop:=bF [.mv 0 2] fun x _=>x=(fun y=>(vB y)) r
def bYx:AC:=(.seq (.ops [.box 1 45 0,.asg 2 (kI 0)]) (.seq (.ops [.ld 3 6 true 1,.call (some 4) 105 [3],.call (some 5) 104 [4],.asg 2 5]) .ret))
theorem bP5:bG Tryz.prog 70=some (bYx,[.mv 0 2],6):=by kernel_rfl
def cU3 (r:Int):Exit→St→Prop:=bF [.mv 0 2] fun x _=>x=(fun y=>(vI y)) r
def aUw:AC:=(.loop (.seq (.ops [.bin 9 .lss 8 7]) (.seq (.cond 9 .skip (.exit 0)) (.seq (.block 1 (.seq (.ops [.ia 10 10 6 8,.ld 11 10 true 10,.alc 5 vX,.st 10 5 11]) (.ops [.mv 12 3,.ld 13 10 true 5,.call (some 14) 122 [13],.max 15 12 14,.asg 3 15]))) (.ops [.bin 16 .add 8 (kI 1),.mv 8 16])))))
def bF6:AC:=(.seq (.ops [.mv 17 3,.asg 2 17]) .ret)
def cJw:AC:=(.seq (.ops [.asg 2 (kI 0)]) (.seq (.ops [.asg 3 (kI 0)]) (.seq (.seq (.ops [.mv 6 0,.len 7 6,.mv 8 (kI 0)]) (.block 0 aUw)) bF6)))
theorem cHh:bG Tryz.prog 104=some (cJw,[.mv 0 2],18):=by kernel_rfl
def bFg (r:Int):Exit→St→Prop:=bF [.mv 0 2] fun x _=>x=(fun y=>(vI y)) r
def bUk (r:Int):Exit→St→Prop:=(bJ (wkK (avc Tryz.prog bF6 (bFg r))) (bFg r))
def bTr (r:Int):Exit→St→Prop:=(bM 0 (bUk r))
def bT4 (p0:(List aA)) (x3:Int) (x8:Int):St:=⟨[(3,(vI x3)),(6,(bZ p0)),(7,(vI (p0.length:Int))),(8,(vI x8))],[]⟩
abbrev aL4 (p0:(List aA)) (x3:Int) (x8:Int) (r:Int):Prop:=avc Tryz.prog aUw (bTr r) (bT4 p0 x3 x8)
def aS7:AC:=(.loop (.seq (.ops [.bin 12 .lss 11 10]) (.seq (.cond 12 .skip (.exit 0)) (.seq (.block 1 (.seq (.ops [.ia 13 10 9 11,.ld 14 10 true 13,.alc 5 vX,.st 10 5 14]) (.ops [.mv 15 3,.ld 16 10 true 5,.call (some 17) 122 [16],.max 18 15 17,.asg 3 18]))) (.ops [.bin 19 .add 11 (kI 1),.mv 11 19])))))
def aU2:AC:=(.loop (.seq (.ops [.bin 24 .lss 23 22]) (.seq (.cond 24 .skip (.exit 2)) (.seq (.block 3 (.seq (.ops [.ia 25 6 21 23,.ld 26 6 true 25,.alc 7 uX,.st 6 7 26]) (.ops [.mv 27 3,.ld 28 6 true 7,.call (some 29) 70 [28],.max 30 27 29,.asg 3 30]))) (.ops [.bin 31 .add 23 (kI 1),.mv 23 31])))))
def bJd:AC:=(.seq (.ops [.mv 32 3,.bin 33 .add (kI 1) 32,.asg 2 33]) .ret)
def aXp:AC:=(.seq (.seq (.ops [.fa 20 9 1,.ld 21 1 false 20,.len 22 21,.mv 23 (kI 0)]) (.block 2 aU2)) bJd)
def cMg:AC:=(.seq (.ops [.box 1 128 0,.asg 2 (kI 0)]) (.seq (.ops [.asg 3 (kI 0)]) (.seq (.seq (.ops [.fa 8 8 1,.ld 9 1 false 8,.len 10 9,.mv 11 (kI 0)]) (.block 0 aS7)) aXp)))
theorem cD5:bG Tryz.prog 122=some (cMg,[.mv 0 2],34):=by kernel_rfl
def aG4 (r:Int):Exit→St→Prop:=bF [.mv 0 2] fun x _=>x=(fun y=>(vI y)) r
def cDx (r:Int):Exit→St→Prop:=(bJ (wkK (avc Tryz.prog aXp (aG4 r))) (aG4 r))
def cJq (r:Int):Exit→St→Prop:=(bM 0 (cDx r))
def bKp (r:Int):Exit→St→Prop:=(bJ (wkK (avc Tryz.prog bJd (aG4 r))) (aG4 r))
def cGt (r:Int):Exit→St→Prop:=(bM 2 (bKp r))
def cAg (p0:aA) (x3:Int) (x11:Int):St:=⟨[(1,(.ptr 1 0)),(3,(vI x3)),(9,(bZ p0.kids)),(10,(vI (p0.kids.length:Int))),(11,(vI x11))],[(1,nW p0)]⟩
abbrev aId (p0:aA) (x3:Int) (x11:Int) (r:Int):Prop:=avc Tryz.prog aS7 (cJq r) (cAg p0 x3 x11)
def bZt (p0:aA) (dU:Int) (x23:Int):St:=⟨[(3,(vI dU)),(21,(fE p0.sub)),(22,(vI (p0.sub.length:Int))),(23,(vI x23))],[]⟩
abbrev aL8 (p0:aA) (dU:Int) (x23:Int) (r:Int):Prop:=avc Tryz.prog aU2 (cGt r) (bZt p0 dU x23)
def aUi:AC:=(.loop (.seq (.ops [.bin 9 .lss 8 7]) (.seq (.cond 9 .skip (.exit 0)) (.seq (.block 1 (.seq (.ops [.mv 10 8,.ia 11 2 6 8,.ld 12 2 true 11,.alc 4 [bX,(.nil 2)],.asg 3 10,.st 2 4 12]) (.seq (.ops [.ld 13 2 true 4,.call (some 14) 67 [13],.not 15 14,.mv 16 15,.g 16 false (.ld 17 1 true 1),.g 16 false (.fa 18 0 4),.g 16 false (.ld 19 1 false 18),.g 16 false (.call (some 20) 68 [17,19]),.g 16 false (.mv 21 3),.g 16 false (.bin 22 .neq 20 21),.pick 23 16 (kB true) 22]) (.cond 23 (.seq (.ops [.asg 2 (kB false)]) .ret) .skip)))) (.ops [.bin 24 .add 8 (kI 1),.mv 8 24])))))
def aZb:AC:=(.seq (.ops [.fa 25 0 1,.ld 26 1 false 25,.len 27 26,.bin 28 .leq 27 (kI 4),.asg 2 28]) .ret)
def cJz:AC:=(.seq (.ops [.box 1 38 0,.asg 2 (kB false)]) (.seq (.seq (.ops [.fa 5 0 1,.ld 6 1 false 5,.len 7 6,.mv 8 (kI 0)]) (.block 0 aUi)) aZb))
theorem cN0:bG Tryz.prog 30=some (cJz,[.mv 0 2],29):=by kernel_rfl
def bHb (r:Bool):Exit→St→Prop:=bF [.mv 0 2] fun x _=>x=(fun y=>(vB y)) r
def cIf (r:Bool):Exit→St→Prop:=(bJ (wkK (avc Tryz.prog aZb (bHb r))) (bHb r))
def cMi (r:Bool):Exit→St→Prop:=(bM 0 (cIf r))
def cOv (p0:aY) (x8:Int):St:=⟨[(1,(.ptr 1 0)),(6,(dW p0.tables)),(7,(vI (p0.tables.length:Int))),(8,(vI x8))],[(1,iZ p0)]⟩
abbrev aJ2 (p0:aY) (x8:Int) (r:Bool):Prop:=avc Tryz.prog aUi (cMi r) (cOv p0 x8)
def cIg:AC:=(.seq (.ops [.box 2 38 0,.box 3 9 1,.asg 4 (kI 0)]) (.seq (.ops [.fa 5 0 2,.ld 6 1 false 5,.mkf 7 103 [3],.call (some 8) 102 [6,7],.asg 4 8]) .ret))
theorem bYq:bG Tryz.prog 68=some (cIg,[.mv 0 4],9):=by kernel_rfl
def cRp (r:Int):Exit→St→Prop:=bF [.mv 0 4] fun x _=>x=(fun y=>(vI y)) r
def aSe:AC:=(.loop (.seq (.ops [.bin 9 .lss 8 7]) (.seq (.cond 9 .skip (.exit 0)) (.seq (.block 1 (.seq (.ops [.mv 10 8,.asg 5 10]) (.seq (.ops [.mv 11 1,.mv 12 0,.mv 13 5,.ia 14 2 12 13,.ld 15 2 true 14,.callv (some 16) 11 [15]]) (.cond 16 (.seq (.ops [.mv 17 5,.asg 4 17]) .ret) .skip)))) (.ops [.bin 18 .add 8 (kI 1),.mv 8 18])))))
def bDq:AC:=(.seq (.ops [.asg 4 (kI (-1))]) .ret)
def bUw:AC:=(.seq (.ops [.asg 4 (kI 0)]) (.seq (.seq (.ops [.mv 6 0,.len 7 6,.mv 8 (kI 0)]) (.block 0 aSe)) bDq))
theorem bM4:bG Tryz.prog 102=some (bUw,[.mv 0 4],19):=by kernel_rfl
def bFa (c0_0:(List UInt8)) (r:Int):Exit→St→Prop:=bF [.mv 0 4] fun x b=>x=(fun (y:Int)=>(vI y)) r∧bV ((fun (y:Int)=>[(1000000,[(vS c0_0)])]) r) b
def cLq (c0_0:(List UInt8)) (r:Int):Exit→St→Prop:=(bJ (wkK (avc Tryz.prog bDq (bFa c0_0 r))) (bFa c0_0 r))
def cN3 (c0_0:(List UInt8)) (r:Int):Exit→St→Prop:=(bM 0 (cLq c0_0 r))
def cI5 (p0:(List aP)) (c0_0:(List UInt8)) (x8:Int):St:=⟨[(0,(dW p0)),(1,(.fn 103 [(.ptr 1000000 0)])),(7,(vI (p0.length:Int))),(8,(vI x8))],[(1000000,[(vS c0_0)])]⟩
abbrev aKi (p0:(List aP)) (c0_0:(List UInt8)) (x8:Int) (r:Int):Prop:=avc Tryz.prog aSe (cN3 c0_0 r) (cI5 p0 c0_0 x8)
def cBo:AC:=(.seq (.ops [.box 2 106 0,.asg 3 (kB false)]) (.seq (.ops [.fa 4 0 2,.ld 5 1 false 4,.ld 6 1 false 1,.bin 7 .eql 5 6,.asg 3 7]) .ret))
theorem cD8:bG Tryz.prog 103=some (cBo,[.mv 0 3],8):=by kernel_rfl
def cTi (c0_0:(List UInt8)) (r:Bool):Exit→St→Prop:=bF [.mv 0 3] fun x b=>x=(fun (y:Bool)=>(vB y)) r∧bV ((fun (y:Bool)=>[(1000000,[(vS c0_0)])]) r) b
def aO8:AC:=(.loop (.seq (.ops [.bin 9 .lss 8 7]) (.seq (.cond 9 .skip (.exit 0)) (.seq (.block 1 (.seq (.ops [.mv 10 8,.ia 11 2 6 8,.ld 12 2 true 11,.alc 4 [bX,bS],.asg 3 10,.st 2 4 12]) (.seq (.ops [.fa 13 0 4,.ld 14 1 false 13,.call (some 15) 100 [14],.not 16 15,.mv 17 16,.g 17 false (.fa 18 1 4),.g 17 false (.ld 19 1 false 18),.g 17 false (.bin 20 .lss 19 (kI 1)),.pick 21 17 (kB true) 20,.mv 22 21,.g 22 false (.fa 23 1 4),.g 22 false (.ld 24 1 false 23),.g 22 false (.bin 25 .gtr 24 (kI 3)),.pick 26 22 (kB true) 25,.mv 27 26,.g 27 false (.ld 28 2 true 1),.g 27 false (.fa 29 0 4),.g 27 false (.ld 30 1 false 29),.g 27 false (.call (some 31) 101 [28,30]),.g 27 false (.mv 32 3),.g 27 false (.bin 33 .neq 31 32),.pick 34 27 (kB true) 33]) (.cond 34 (.seq (.ops [.asg 2 (kB false)]) .ret) .skip)))) (.ops [.bin 35 .add 8 (kI 1),.mv 8 35])))))
def bE5:AC:=(.seq (.ops [.fa 36 0 1,.ld 37 1 false 36,.call (some 38) 100 [37],.mv 39 38,.g 39 true (.fa 40 1 1),.g 39 true (.ld 41 1 false 40),.g 39 true (.len 42 41),.g 39 true (.bin 43 .geq 42 (kI 1)),.pick 44 39 43 (kB false),.mv 45 44,.g 45 true (.fa 46 1 1),.g 45 true (.ld 47 1 false 46),.g 45 true (.len 48 47),.g 45 true (.bin 49 .leq 48 (kI 4)),.pick 50 45 49 (kB false),.asg 2 50]) .ret)
def bLl:AC:=(.seq (.ops [.box 1 106 0,.asg 2 (kB false)]) (.seq (.seq (.ops [.fa 5 1 1,.ld 6 1 false 5,.len 7 6,.mv 8 (kI 0)]) (.block 0 aO8)) bE5))
theorem bRv:bG Tryz.prog 67=some (bLl,[.mv 0 2],51):=by kernel_rfl
def bG9 (r:Bool):Exit→St→Prop:=bF [.mv 0 2] fun x _=>x=(fun y=>(vB y)) r
def cMl (r:Bool):Exit→St→Prop:=(bJ (wkK (avc Tryz.prog bE5 (bG9 r))) (bG9 r))
def bL0 (r:Bool):Exit→St→Prop:=(bM 0 (cMl r))
def bOh (p0:aP) (x8:Int):St:=⟨[(1,(.ptr 1 0)),(6,(jO p0.cols)),(7,(vI (p0.cols.length:Int))),(8,(vI x8))],[(1,aLl p0)]⟩
abbrev aM2 (p0:aP) (x8:Int) (r:Bool):Prop:=avc Tryz.prog aO8 (bL0 r) (bOh p0 x8)
def cIk:AC:=(.seq (.ops [.box 2 106 0,.box 3 9 1,.asg 4 (kI 0)]) (.seq (.ops [.fa 5 1 2,.ld 6 1 false 5,.mkf 7 121 [3],.call (some 8) 120 [6,7],.asg 4 8]) .ret))
theorem bSd:bG Tryz.prog 101=some (cIk,[.mv 0 4],9):=by kernel_rfl
def cU1 (r:Int):Exit→St→Prop:=bF [.mv 0 4] fun x _=>x=(fun y=>(vI y)) r
def aRc:AC:=(.loop (.seq (.ops [.bin 9 .lss 8 7]) (.seq (.cond 9 .skip (.exit 0)) (.seq (.block 1 (.seq (.ops [.mv 10 8,.asg 5 10]) (.seq (.ops [.mv 11 1,.mv 12 0,.mv 13 5,.ia 14 2 12 13,.ld 15 2 true 14,.callv (some 16) 11 [15]]) (.cond 16 (.seq (.ops [.mv 17 5,.asg 4 17]) .ret) .skip)))) (.ops [.bin 18 .add 8 (kI 1),.mv 8 18])))))
def bGm:AC:=(.seq (.ops [.asg 4 (kI (-1))]) .ret)
def cNj:AC:=(.seq (.ops [.asg 4 (kI 0)]) (.seq (.seq (.ops [.mv 6 0,.len 7 6,.mv 8 (kI 0)]) (.block 0 aRc)) bGm))
theorem cEi:bG Tryz.prog 120=some (cNj,[.mv 0 4],19):=by kernel_rfl
def bE9 (c0_0:(List UInt8)) (r:Int):Exit→St→Prop:=bF [.mv 0 4] fun x b=>x=(fun (y:Int)=>(vI y)) r∧bV ((fun (y:Int)=>[(1000000,[(vS c0_0)])]) r) b
def bYb (c0_0:(List UInt8)) (r:Int):Exit→St→Prop:=(bJ (wkK (avc Tryz.prog bGm (bE9 c0_0 r))) (bE9 c0_0 r))
def bVf (c0_0:(List UInt8)) (r:Int):Exit→St→Prop:=(bM 0 (bYb c0_0 r))
def bWc (p0:(List bI)) (c0_0:(List UInt8)) (x8:Int):St:=⟨[(0,(jO p0)),(1,(.fn 121 [(.ptr 1000000 0)])),(7,(vI (p0.length:Int))),(8,(vI x8))],[(1000000,[(vS c0_0)])]⟩
abbrev aKs (p0:(List bI)) (c0_0:(List UInt8)) (x8:Int) (r:Int):Prop:=avc Tryz.prog aRc (bVf c0_0 r) (bWc p0 c0_0 x8)
def cFs:AC:=(.seq (.ops [.box 2 111 0,.asg 3 (kB false)]) (.seq (.ops [.fa 4 0 2,.ld 5 1 false 4,.ld 6 1 false 1,.bin 7 .eql 5 6,.asg 3 7]) .ret))
theorem bXm:bG Tryz.prog 121=some (cFs,[.mv 0 3],8):=by kernel_rfl
def cQy (c0_0:(List UInt8)) (r:Bool):Exit→St→Prop:=bF [.mv 0 3] fun x b=>x=(fun (y:Bool)=>(vB y)) r∧bV ((fun (y:Bool)=>[(1000000,[(vS c0_0)])]) r) b
def aTe:AC:=(.loop (.seq (.ops [.bin 20 .lss 19 18]) (.seq (.cond 20 .skip (.exit 0)) (.seq (.block 1 (.seq (.ops [.mv 21 19,.ia 22 3 17 19,.ld 23 3 true 22,.alc 7 [bX,bX,(.nil 10)],.asg 6 21,.st 3 7 23]) (.dops [[],[],[],[2],[],[4],[3,5],[1,6],[],[7,8,7],[],[10],[0,9,11,9]] [.mv 24 0,.mv 25 0,.fa 26 2 5,.ld 27 1 false 26,.mv 28 6,.bin 29 .add 28 (kI 1),.slc 30 3 27 none (some 29) none,.call (some 31) 75 [25,30],.mv 32 1,.call (some 33) 74 [31,32],.fa 34 2 7,.ld 35 1 false 34,.call (some 36) 73 [24,33,35]]))) (.ops [.bin 37 .add 19 (kI 1),.mv 19 37])))))
def aWg:AC:=(.loop (.seq (.ops [.bin 53 .lss 52 51]) (.seq (.cond 53 .skip (.exit 2)) (.seq (.block 3 (.seq (.ops [.ia 54 11 50 52,.ld 55 11 true 54,.alc 10 zV,.st 11 10 55]) (.ops [.mv 56 0,.mv 57 8,.fa 58 0 10,.ld 59 10 true 58,.bsl 60 128 10 [59],.call (some 61) 73 [56,57,60]]))) (.ops [.bin 62 .add 52 (kI 1),.mv 52 62])))))
def aMt:AC:=(.ops [.bin 113 .add 66 (kI 1),.mv 66 113])
def aVi:AC:=(.loop (.seq (.ops [.bin 87 .lss 86 85]) (.seq (.cond 87 .skip (.exit 6)) (.seq (.block 7 (.seq (.ops [.ia 88 1 84 86,.ld 89 1 false 88,.asg 14 89]) (.seq (.ops [.mv 90 8,.ia 91 1 90 (kI 0),.fa 92 0 91,.ld 93 1 false 92,.mv 94 14,.ia 95 3 93 94,.ld 96 3 true 95,.alc 15 [bX,bX,bS],.st 3 15 96]) (.dops [[],[],[1],[2],[3],[],[5],[],[7],[],[6,8,9],[10],[4,11],[0,0,1,2,3,4,5,6,7,8,9,10,11,12],[13,0,1,2,3,4,5,6,7,8,9,10,11,12],[14,12,12,0,1,2,3,4,5,6,7,8,9,10,11,12]] [.mv 97 0,.mv 98 0,.nck 99 98,.fa 100 1 99,.ld 101 1 false 100,.fa 102 0 15,.ld 103 1 false 102,.fa 104 1 15,.ld 105 1 false 104,.mv 106 14,.bld 107 [bX,bX,bS,bS,bS] [(0,1,103),(1,1,105),(2,1,(kI 1)),(4,1,106)],.bsl 108 73 5 [107],.app 109 73 5 56 101 108,.nck 110 97,.fa 111 1 110,.st 1 111 109])))) (.ops [.bin 112 .add 86 (kI 1),.mv 86 112])))))
def aJl:AC:=(.loop (.seq (.ops [.bin 67 .lss 66 65]) (.seq (.cond 67 .skip (.exit 4)) (.seq (.block 5 (.seq (.ops [.ia 68 13 64 66,.ld 69 13 true 68,.alc 12 rG,.st 13 12 69]) (.seq (.seq (.ops [.fa 70 0 12,.ld 71 1 false 70,.not 72 71]) (.cond 72 (.seq (.ops [.mv 73 0,.mv 74 8,.fa 75 2 12,.ld 76 10 true 75,.bsl 77 128 10 [76],.call (some 78) 73 [73,74,77]]) (.exit 5)) .skip)) (.seq (.dops [[],[0],[1],[],[3],[2,4],[5],[]] [.mv 79 8,.ia 80 1 79 (kI 0),.ld 81 1 true 80,.fa 82 1 12,.ld 83 1 false 82,.call (some 84) 76 [81,83],.len 85 84,.mv 86 (kI 0)]) (.block 6 aVi))))) aMt))))
def bHe:AC:=(.seq (.ops [.fa 63 1 5,.ld 64 1 false 63,.len 65 64,.mv 66 (kI 0)]) (.block 4 aJl))
def bBu:AC:=(.seq (.ops [.mv 38 0,.fa 39 2 5,.ld 40 1 false 39,.call (some 41) 75 [38,40],.mv 42 1,.call (some 43) 74 [41,42],.asg 8 43]) (.seq (.ops [.mv 44 0,.mv 45 8,.fa 46 3 5,.ld 47 1 false 46,.call (some 48) 73 [44,45,47]]) (.seq (.seq (.ops [.fa 49 4 5,.ld 50 1 false 49,.len 51 50,.mv 52 (kI 0)]) (.block 2 aWg)) bHe)))
def bNa:AC:=(.seq (.ops [.box 5 45 2]) (.seq (.seq (.ops [.fa 16 2 5,.ld 17 1 false 16,.len 18 17,.mv 19 (kI 0)]) (.block 0 aTe)) bBu))
theorem bY6:bG Tryz.prog 32=some (bNa,[],114):=by kernel_rfl
def aEd (r:(List aP)×Bool×(List aB)):Exit→St→Prop:=bF [] fun x b=>x=(fun (y:(List aP)×Bool×(List aB))=>(.tup [])) r∧bV ((fun (y:(List aP)×Bool×(List aB))=>[(1000000,[(dW y.1),(.tre 15000001),(vB y.2.1)]),(3500001,[.trd]),(15000001,[(.trc 5 (y.2.2.map bL))])]) r) b
def bN0 (r:(List aP)×Bool×(List aB)):Exit→St→Prop:=(bJ (wkK (avc Tryz.prog bBu (aEd r))) (aEd r))
def bRi (r:(List aP)×Bool×(List aB)):Exit→St→Prop:=(bM 0 (bN0 r))
def cN5 (r:(List aP)×Bool×(List aB)):Exit→St→Prop:=(bJ (wkK (avc Tryz.prog bHe (aEd r))) (aEd r))
def bZa (r:(List aP)×Bool×(List aB)):Exit→St→Prop:=(bM 2 (cN5 r))
def aQu (r:(List aP)×Bool×(List aB)):Exit→St→Prop:=(bM 4 (aEd r))
def aPc (r:(List aP)×Bool×(List aB)):Exit→St→Prop:=(bJ (avc Tryz.prog aJl (aQu r)) (aQu r))
def cJh (r:(List aP)×Bool×(List aB)):Exit→St→Prop:=(bJ (wkK (avc Tryz.prog aMt (aPc r))) (aPc r))
def cEp (r:(List aP)×Bool×(List aB)):Exit→St→Prop:=(bM 5 (cJh r))
def bWg (r:(List aP)×Bool×(List aB)):Exit→St→Prop:=(bM 6 (cEp r))
def bKf (p1:(List aL)) (p2:aJ) (x19:Int) (eQ:(List aP)) (eT:Bool) (mG:(List aB)):St:=⟨[(0,(.ptr 1000000 0)),(1,(gG p1)),(5,(.ptr 5 0)),(17,(eD p2.from_)),(18,(vI (p2.from_.length:Int))),(19,(vI x19))],[(5,iC p2),(1000000,[(dW eQ),(.tre 60011000),(vB eT)]),(60011000,[(.trc 5 (mG.map bL))])]⟩
abbrev aGz (p1:(List aL)) (p2:aJ) (x19:Int) (eQ:(List aP)) (eT:Bool) (mG:(List aB)) (r:(List aP)×Bool×(List aB)):Prop:=avc Tryz.prog aTe (bRi r) (bKf p1 p2 x19 eQ eT mG)
def cE3 (y7:(List aL)) (p2:aJ) (x52:Int) (jX:(List aP)) (nM:Bool) (nK:(List aB)):St:=⟨[(0,(.ptr 1000000 0)),(5,(.ptr 5 0)),(8,(.osl 8 117 1 (y7.map jA))),(50,(fP p2.order)),(51,(vI (p2.order.length:Int))),(52,(vI x52))],[(5,iC p2),(1000000,[(dW jX),(.tre 60070000),(vB nM)]),(60070000,[(.trc 5 (nK.map bL))])]⟩
abbrev aI8 (y7:(List aL)) (p2:aJ) (x52:Int) (jX:(List aP)) (nM:Bool) (nK:(List aB)) (r:(List aP)×Bool×(List aB)):Prop:=avc Tryz.prog aWg (bZa r) (cE3 y7 p2 x52 jX nM nK)
def bJ1 (y7:(List aL)) (p2:aJ) (x66:Int) (gI:(List aP)) (gJ:Bool) (kV:(List aB)):St:=⟨[(0,(.ptr 1000000 0)),(8,(.osl 8 117 1 (y7.map jA))),(64,(fU p2.items)),(65,(vI (p2.items.length:Int))),(66,(vI x66))],[(1000000,[(dW gI),(.tre 60103000),(vB gJ)]),(60103000,[(.trc 5 (kV.map bL))])]⟩
abbrev aHb (y7:(List aL)) (p2:aJ) (x66:Int) (gI:(List aP)) (gJ:Bool) (kV:(List aB)) (r:(List aP)×Bool×(List aB)):Prop:=avc Tryz.prog aJl (aQu r) (bJ1 y7 p2 x66 gI gJ kV)
def bTx (y7:(List aL)) (p2:aJ) (x66:Int) (oM:(List aP)) (pU:Bool) (pI:(List aB)):St:=⟨[(0,(.ptr 1000000 0)),(8,(.osl 8 117 1 (y7.map jA))),(64,(fU p2.items)),(65,(vI (p2.items.length:Int))),(66,(vI x66))],[(1000000,[(dW oM),(.tre 60193000),(vB pU)]),(60193000,[(.trc 5 (pI.map bL))])]⟩
abbrev aGq (y7:(List aL)) (p2:aJ) (x66:Int) (oM:(List aP)) (pU:Bool) (pI:(List aB)) (r:(List aP)×Bool×(List aB)):Prop:=avc Tryz.prog aMt (aPc r) (bTx y7 p2 x66 oM pU pI)
def bWz (y7:(List aL)) (p2:aJ) (x66:Int) (y20:(List Int)) (gI:(List aP)) (gJ:Bool) (kx86:(Int×(List aB))):St:=⟨[(0,(.ptr 1000000 0)),(8,(.osl 8 117 1 (y7.map jA))),(64,(fU p2.items)),(65,(vI (p2.items.length:Int))),(66,(vI x66)),(84,(.osl 84 3 1 (y20.map cI))),(85,(vI (y20.length:Int))),(86,(vI kx86.1))],[(1000000,[(dW gI),(.tre 60147000),(vB gJ)]),(60147000,[(.trc 5 (kx86.2.map bL))])]⟩
abbrev aIb (y7:(List aL)) (p2:aJ) (x66:Int) (y20:(List Int)) (gI:(List aP)) (gJ:Bool) (kx86:(Int×(List aB))) (r:(List aP)×Bool×(List aB)):Prop:=avc Tryz.prog aVi (bWg r) (bWz y7 p2 x66 y20 gI gJ kx86)
def cN8:AC:=(.seq (.ops [.alc 4 [(.nil 3)]]) (.seq (.ops [.mv 9 0,.nck 10 9,.fa 11 0 10,.ld 12 1 true 11,.mv 13 1,.call (some 14) 111 [12,13],.mv 8 14,.ext 15 8 0,.ext 16 8 1,.ext 17 8 2,.alc 5 [(.nil 3)],.st 1 5 15,.asg 6 16,.asg 7 17]) (.seq (.ops [.mv 18 0,.mv 19 0,.nck 20 19,.fa 21 2 20,.ld 22 1 false 21,.mv 23 22,.g 23 false (.mv 24 6),.g 23 false (.bin 25 .neq 24 (kI 0)),.pick 26 23 (kB true) 25,.nck 27 18,.fa 28 2 27,.st 1 28 26]) (.seq (.ops [.ld 29 1 true 5,.st 1 4 29]) .ret))))
theorem cD4:bG Tryz.prog 75=some (cN8,[.ld 0 1 true 4],30):=by kernel_rfl
def cTe (c0_1:(List aB)) (r:aL×(List aP)×Bool):Exit→St→Prop:=bF [.ld 0 1 true 4] fun x b=>x=(fun (y:aL×(List aP)×Bool)=>(sH y.1)) r∧bV ((fun (y:aL×(List aP)×Bool)=>[(1000000,[(dW y.2.1),(.tre 3500001),(vB y.2.2)]),(3500001,[(.trc 5 (c0_1.map bL))])]) r) b
def aRo:AC:=(.loop (.seq (.ops [.bin 40 .lss 39 38]) (.seq (.cond 40 .skip (.exit 2)) (.seq (.block 3 (.seq (.ops [.ia 41 3 37 39,.ld 42 3 true 41,.alc 13 [bX,bX,(.nil 10)],.st 3 13 42]) (.seq (.ops [.ld 43 3 true 13,.call (some 44) 129 [43],.mv 45 11,.bin 46 .eql 44 45]) (.cond 46 (.seq (.ops [.bld 47 [(.nil 3)] [],.mv 48 11,.st 1 4 47,.asg 5 (kI 2),.asg 6 48]) .ret) .skip)))) (.ops [.bin 49 .add 39 (kI 1),.mv 39 49])))))
def aVp:AC:=(.loop (.seq (.ops [.bin 58 .lss 57 56]) (.seq (.cond 58 .skip (.exit 4)) (.seq (.block 5 (.seq (.ops [.ia 59 2 55 57,.ld 60 2 true 59,.alc 15 [bX,bS],.st 2 15 60]) (.ops [.fa 61 0 7,.ld 62 1 false 61,.mv 63 11,.fa 64 0 15,.ld 65 1 false 64,.fa 66 1 15,.ld 67 1 false 66,.bld 68 [bX,bX,bS] [(0,1,63),(1,1,65),(2,1,67)],.bsl 69 136 3 [68],.app 70 136 3 40 62 69,.fa 71 0 7,.st 1 71 70]))) (.ops [.bin 72 .add 57 (kI 1),.mv 57 72])))))
def bGg:AC:=(.seq (.ops [.fa 50 0 2,.ld 51 1 false 50,.mv 52 10,.ia 53 2 51 52,.fa 54 1 53,.ld 55 1 false 54,.len 56 55,.mv 57 (kI 0)]) (.block 4 aVp))
def bH7:AC:=(.ops [.bin 73 .add 19 (kI 1),.mv 19 73])
def aK7:AC:=(.loop (.seq (.ops [.bin 20 .lss 19 18]) (.seq (.cond 20 .skip (.exit 0)) (.seq (.block 1 (.seq (.ops [.mv 21 19,.ia 22 3 17 19,.ld 23 3 true 22,.alc 9 [bX,bX,(.nil 10)],.asg 8 21,.st 3 9 23]) (.seq (.ops [.ld 24 1 true 2,.fa 25 0 9,.ld 26 1 false 25,.call (some 27) 68 [24,26],.asg 10 27]) (.seq (.seq (.ops [.mv 28 10,.bin 29 .lss 28 (kI 0)]) (.cond 29 (.seq (.dops [[],[],[1],[0,0],[3,0,3],[2,4,0,1,2,3,4]] [.bld 30 [(.nil 3)] [],.fa 31 0 9,.ld 32 1 false 31,.st 1 4 30,.asg 5 (kI 1),.asg 6 32]) .ret) .skip)) (.seq (.ops [.ld 33 3 true 9,.call (some 34) 129 [33],.asg 11 34]) (.seq (.seq (.ops [.mv 35 1,.mv 36 8,.slc 37 3 35 none (some 36) none,.len 38 37,.mv 39 (kI 0)]) (.block 2 aRo)) bGg)))))) bH7))))
def aWl:AC:=(.seq (.ops [.ld 74 1 true 7,.st 1 4 74,.asg 5 (kI 0),.asg 6 (.c (.d (.s (bs []))))]) .ret)
def bMn:AC:=(.seq (.ops [.box 2 38 0,.alc 4 [(.nil 3)],.asg 5 (kI 0),.asg 6 (.c (.d (.s (bs []))))]) (.seq (.ops [.bld 16 [(.nil 3)] [],.alc 7 [(.nil 3)],.st 1 7 16]) (.seq (.seq (.ops [.mv 17 1,.len 18 17,.mv 19 (kI 0)]) (.block 0 aK7)) aWl)))
theorem bUi:bG Tryz.prog 111=some (bMn,[.ld 0 1 true 4,.mv 0 5,.mv 0 6],75):=by kernel_rfl
def bIy (r:aL×Int×(List UInt8)):Exit→St→Prop:=bF [.ld 0 1 true 4,.mv 0 5,.mv 0 6] fun x _=>x=(fun y=>(.tup [(sH y.1),(vI y.2.1),(vS y.2.2)])) r
def bSu (r:aL×Int×(List UInt8)):Exit→St→Prop:=(bJ (wkK (avc Tryz.prog aWl (bIy r))) (bIy r))
def aRg (r:aL×Int×(List UInt8)):Exit→St→Prop:=(bM 0 (bSu r))
def aZc (r:aL×Int×(List UInt8)):Exit→St→Prop:=(bJ (avc Tryz.prog aK7 (aRg r)) (aRg r))
def bXi (r:aL×Int×(List UInt8)):Exit→St→Prop:=(bJ (wkK (avc Tryz.prog bH7 (aZc r))) (aZc r))
def aT3 (r:aL×Int×(List UInt8)):Exit→St→Prop:=(bM 1 (bXi r))
def cE5 (r:aL×Int×(List UInt8)):Exit→St→Prop:=(bJ (wkK (avc Tryz.prog bGg (aT3 r))) (aT3 r))
def cMk (r:aL×Int×(List UInt8)):Exit→St→Prop:=(bM 2 (cE5 r))
def cLu (r:aL×Int×(List UInt8)):Exit→St→Prop:=(bM 4 (aT3 r))
def bB8 (p1:(List aV)) (p0:aY) (x19:Int) (aX:(List dL)):St:=⟨[(1,(eD p1)),(2,(.ptr 2 0)),(4,(.ptr 4 0)),(7,(.ptr 7 0)),(17,(eD p1)),(18,(vI (p1.length:Int))),(19,(vI x19))],[(2,iZ p0),(4,[(.nil 3)]),(7,[(.osl 70 136 3 (aX.map iY))])]⟩
abbrev aI9 (p1:(List aV)) (p0:aY) (x19:Int) (aX:(List dL)) (r:aL×Int×(List UInt8)):Prop:=avc Tryz.prog aK7 (aRg r) (bB8 p1 p0 x19 aX)
def bL2 (p1:(List aV)) (y2:Int) (y3:(List UInt8)) (x19:Int) (y4:(List aV)) (p0:aY) (aX:(List dL)) (x39:Int):St:=⟨[(1,(eD p1)),(2,(.ptr 2 0)),(4,(.ptr 4 0)),(7,(.ptr 7 0)),(10,(vI y2)),(11,(vS y3)),(17,(eD p1)),(18,(vI (p1.length:Int))),(19,(vI x19)),(37,(eD y4)),(38,(vI (y4.length:Int))),(39,(vI x39))],[(2,iZ p0),(4,[(.nil 3)]),(7,[(.osl 70 136 3 (aX.map iY))])]⟩
abbrev aMp (p1:(List aV)) (y2:Int) (y3:(List UInt8)) (x19:Int) (y4:(List aV)) (p0:aY) (aX:(List dL)) (x39:Int) (r:aL×Int×(List UInt8)):Prop:=avc Tryz.prog aRo (cMk r) (bL2 p1 y2 y3 x19 y4 p0 aX x39)
def bZo (p1:(List aV)) (y3:(List UInt8)) (x19:Int) (y7:aP) (p0:aY) (x57:Int) (nE:(List dL)):St:=⟨[(1,(eD p1)),(2,(.ptr 2 0)),(4,(.ptr 4 0)),(7,(.ptr 7 0)),(11,(vS y3)),(17,(eD p1)),(18,(vI (p1.length:Int))),(19,(vI x19)),(55,(jO y7.cols)),(56,(vI (y7.cols.length:Int))),(57,(vI x57))],[(2,iZ p0),(4,[(.nil 3)]),(7,[(.osl 70 136 3 (nE.map iY))])]⟩
abbrev aMw (p1:(List aV)) (y3:(List UInt8)) (x19:Int) (y7:aP) (p0:aY) (x57:Int) (nE:(List dL)) (r:aL×Int×(List UInt8)):Prop:=avc Tryz.prog aVp (cLu r) (bZo p1 y3 x19 y7 p0 x57 nE)
def bNv:AC:=(.seq (.ops [.box 1 123 0,.asg 2 (.c (.d (.s (bs []))))]) (.seq (.seq (.ops [.fa 3 1 1,.ld 4 1 false 3,.bin 5 .eql 4 (.c (.d (.s (bs []))))]) (.cond 5 (.seq (.ops [.fa 6 0 1,.ld 7 1 false 6,.asg 2 7]) .ret) .skip)) (.seq (.ops [.fa 8 1 1,.ld 9 1 false 8,.asg 2 9]) .ret)))
theorem bUr:bG Tryz.prog 129=some (bNv,[.mv 0 2],10):=by kernel_rfl
def cUu (r:(List UInt8)):Exit→St→Prop:=bF [.mv 0 2] fun x _=>x=(fun y=>(vS y)) r
def aW4:AC:=(.loop (.seq (.ops [.bin 32 .lss 31 30]) (.seq (.cond 32 .skip (.exit 2)) (.seq (.block 3 (.seq (.ops [.ia 33 6 29 31,.ld 34 6 true 33,.alc 9 uX,.st 6 9 34]) (.ops [.mv 35 0,.mv 36 1,.ld 37 6 true 9,.call (some 38) 32 [35,36,37]]))) (.ops [.bin 39 .add 31 (kI 1),.mv 31 39])))))
def aVt:AC:=(.seq (.ops [.mv 23 0,.mv 24 1,.fa 25 8 7,.ld 26 1 false 25,.call (some 27) 73 [23,24,26]]) (.seq (.ops [.fa 28 9 7,.ld 29 1 false 28,.len 30 29,.mv 31 (kI 0)]) (.block 2 aW4)))
def bBa:AC:=(.ops [.bin 40 .add 12 (kI 1),.mv 12 40])
def aGn:AC:=(.loop (.seq (.ops [.bin 13 .lss 12 11]) (.seq (.cond 13 .skip (.exit 0)) (.seq (.block 1 (.seq (.ops [.ia 14 10 10 12,.ld 15 10 true 14,.alc 7 vX,.st 10 7 15]) (.seq (.seq (.ops [.fa 16 0 7,.ld 17 1 false 16,.bin 18 .eql 17 (kI 2)]) (.cond 18 (.ops [.mv 19 0,.mv 20 1,.ld 21 10 true 7,.call (some 22) 110 [19,20,21]]) .skip)) aVt))) bBa))))
def bQx:AC:=(.seq (.ops [.mv 10 2,.len 11 10,.mv 12 (kI 0)]) (.block 0 aGn))
theorem cDv:bG Tryz.prog 73=some (bQx,[],41):=by kernel_rfl
def cAx (r:(List aP)×Bool×(List aB)):Exit→St→Prop:=bF [] fun x b=>x=(fun (y:(List aP)×Bool×(List aB))=>(.tup [])) r∧bV ((fun (y:(List aP)×Bool×(List aB))=>[(1000000,[(dW y.1),(.tre 15000001),(vB y.2.1)]),(3500001,[.trd]),(15000001,[(.trc 5 (y.2.2.map bL))])]) r) b
def aRd (r:(List aP)×Bool×(List aB)):Exit→St→Prop:=(bM 0 (cAx r))
def bFk (r:(List aP)×Bool×(List aB)):Exit→St→Prop:=(bJ (avc Tryz.prog aGn (aRd r)) (aRd r))
def cMt (r:(List aP)×Bool×(List aB)):Exit→St→Prop:=(bJ (wkK (avc Tryz.prog bBa (bFk r))) (bFk r))
def bEo (r:(List aP)×Bool×(List aB)):Exit→St→Prop:=(bM 1 (cMt r))
def bKn (r:(List aP)×Bool×(List aB)):Exit→St→Prop:=(bM 2 (bEo r))
def bT9 (p1:(List aL)) (p2:(List aA)) (x12:Int) (eQ:(List aP)) (eT:Bool) (lW:(List aB)):St:=⟨[(0,(.ptr 1000000 0)),(1,(gG p1)),(10,(bZ p2)),(11,(vI (p2.length:Int))),(12,(vI x12))],[(1000000,[(dW eQ),(.tre 60006000),(vB eT)]),(60006000,[(.trc 5 (lW.map bL))])]⟩
abbrev aN9 (p1:(List aL)) (p2:(List aA)) (x12:Int) (eQ:(List aP)) (eT:Bool) (lW:(List aB)) (r:(List aP)×Bool×(List aB)):Prop:=avc Tryz.prog aGn (aRd r) (bT9 p1 p2 x12 eQ eT lW)
def cKy (p1:(List aL)) (p2:(List aA)) (x12:Int) (y1:aA) (kT:(List aP)) (oJ:Bool) (pW:(List aB)):St:=⟨[(0,(.ptr 1000000 0)),(1,(gG p1)),(7,(.ptr 7 0)),(10,(bZ p2)),(11,(vI (p2.length:Int))),(12,(vI x12))],[(7,nW y1),(1000000,[(dW kT),(.tre 60035000),(vB oJ)]),(60035000,[(.trc 5 (pW.map bL))])]⟩
abbrev aGk (p1:(List aL)) (p2:(List aA)) (x12:Int) (y1:aA) (kT:(List aP)) (oJ:Bool) (pW:(List aB)) (r:(List aP)×Bool×(List aB)):Prop:=avc Tryz.prog aVt (bEo r) (cKy p1 p2 x12 y1 kT oJ pW)
def cOf (p1:(List aL)) (p2:(List aA)) (x12:Int) (y1:aA) (x31:Int) (nT:(List aP)) (lC:(Bool×(List aB))):St:=⟨[(0,(.ptr 1000000 0)),(1,(gG p1)),(10,(bZ p2)),(11,(vI (p2.length:Int))),(12,(vI x12)),(29,(fE y1.sub)),(30,(vI (y1.sub.length:Int))),(31,(vI x31))],[(1000000,[(dW nT),(.tre 60049000),(vB lC.1)]),(60049000,[(.trc 5 (lC.2.map bL))])]⟩
abbrev aMg (p1:(List aL)) (p2:(List aA)) (x12:Int) (y1:aA) (x31:Int) (nT:(List aP)) (lC:(Bool×(List aB))) (r:(List aP)×Bool×(List aB)):Prop:=avc Tryz.prog aW4 (bKn r) (cOf p1 p2 x12 y1 x31 nT lC)
def aP4:AC:=(.loop (.seq (.ops [.bin 18 .lss 17 16]) (.seq (.cond 18 .skip (.exit 0)) (.seq (.block 1 (.seq (.ops [.mv 19 17,.ia 20 1 15 17,.ld 21 1 true 20,.alc 8 [(.nil 3)],.asg 7 19,.st 1 8 21]) (.seq (.ops [.ld 22 1 true 8,.fa 23 6 5,.ld 24 1 false 23,.fa 25 7 5,.ld 26 1 false 25,.call (some 27) 128 [22,24,26],.asg 9 27]) (.seq (.ops [.mv 28 9,.len 29 28,.bin 30 .gtr 29 (kI 0)]) (.cond 30 (.seq (.ops [.mv 31 9,.len 32 31,.fa 33 2 6,.st 1 33 32]) (.seq (.seq (.ops [.mv 34 9,.len 35 34,.bin 36 .eql 35 (kI 1)]) (.cond 36 (.dops [[],[],[1],[2],[0],[4,0,0],[0,1,2,3,4,5],[6,3,5,0,1,2,3,4,5]] [.mv 37 7,.mv 38 9,.ia 39 1 38 (kI 0),.ld 40 1 false 39,.fa 41 3 6,.st 1 41 37,.fa 42 4 6,.st 1 42 40]) .skip)) (.exit 0))) .skip))))) (.ops [.bin 43 .add 17 (kI 1),.mv 17 43])))))
def aHc:AC:=(.dops [[],[],[1],[2],[3],[],[5],[4,6],[0,0,1,2,3,4,5,6,7],[8,0,1,2,3,4,5,6,7],[9,7,7,0,1,2,3,4,5,6,7]] [.mv 44 0,.mv 45 0,.nck 46 45,.fa 47 1 46,.ld 48 1 false 47,.ld 49 5 true 6,.bsl 50 73 5 [49],.app 51 73 5 56 48 50,.nck 52 44,.fa 53 1 52,.st 1 53 51])
def bU8:AC:=(.seq (.ops [.box 5 128 2]) (.seq (.ops [.fa 10 6 5,.ld 11 1 false 10,.fa 12 7 5,.ld 13 1 false 12,.bld 14 [bX,bX,bS,bS,bS] [(0,1,11),(1,1,13)],.alc 6 [bX,bX,bS,bS,bS],.st 5 6 14]) (.seq (.seq (.ops [.mv 15 1,.len 16 15,.mv 17 (kI 0)]) (.block 0 aP4)) aHc)))
theorem cOo:bG Tryz.prog 110=some (bU8,[],54):=by kernel_rfl
def aSj (r:(List aP)×Bool×(List aB)):Exit→St→Prop:=bF [] fun x b=>x=(fun (y:(List aP)×Bool×(List aB))=>(.tup [])) r∧bV ((fun (y:(List aP)×Bool×(List aB))=>[(1000000,[(dW y.1),(.tre 15000001),(vB y.2.1)]),(3500001,[.trd]),(15000001,[(.trc 5 (y.2.2.map bL))])]) r) b
def cCh (r:(List aP)×Bool×(List aB)):Exit→St→Prop:=(bJ (wkK (avc Tryz.prog aHc (aSj r))) (aSj r))
def bSp (r:(List aP)×Bool×(List aB)):Exit→St→Prop:=(bM 0 (cCh r))
def bLp (p1:(List aL)) (p2:aA) (c0_0:(List aP)) (c0_2:Bool) (c0_1:(List aB)) (x17:Int):St:=⟨[(0,(.ptr 1000000 0)),(5,(.ptr 5 0)),(6,(.ptr 6 0)),(15,(gG p1)),(16,(vI (p1.length:Int))),(17,(vI x17))],[(5,nW p2),(6,O4 (aB.mk p2.qual p2.name 0 0 0)),(1000000,[(dW c0_0),(.tre 3500001),(vB c0_2)]),(3500001,[(.trc 5 (c0_1.map bL))])]⟩
abbrev aGs (p1:(List aL)) (p2:aA) (c0_0:(List aP)) (c0_2:Bool) (c0_1:(List aB)) (x17:Int) (r:(List aP)×Bool×(List aB)):Prop:=avc Tryz.prog aP4 (bSp r) (bLp p1 p2 c0_0 c0_2 c0_1 x17)
def bTv (p2:aA) (c0_0:(List aP)) (c0_2:Bool) (c0_1:(List aB)) (oD:Int) (oO:Int) (oG:Int):St:=⟨[(0,(.ptr 1000000 0)),(6,(.ptr 6 0))],[(6,O4 (aB.mk p2.qual p2.name oD oO oG)),(1000000,[(dW c0_0),(.tre 3500001),(vB c0_2)]),(3500001,[(.trc 5 (c0_1.map bL))])]⟩
abbrev aYi (p2:aA) (c0_0:(List aP)) (c0_2:Bool) (c0_1:(List aB)) (oD:Int) (oO:Int) (oG:Int) (r:(List aP)×Bool×(List aB)):Prop:=avc Tryz.prog aHc (aSj r) (bTv p2 c0_0 c0_2 c0_1 oD oO oG)
def aUn:AC:=(.ops [.bin 37 .add 14 (kI 1),.mv 14 37])
def aNt:AC:=(.loop (.seq (.ops [.bin 15 .lss 14 13]) (.seq (.cond 15 .skip (.exit 0)) (.seq (.block 1 (.seq (.ops [.mv 16 14,.ia 17 3 12 14,.ld 18 3 true 17,.alc 9 [bX,bX,bS],.asg 8 16,.st 3 9 18]) (.seq (.ops [.fa 19 1 9,.ld 20 1 false 19,.mv 21 2,.bin 22 .eql 20 21,.mv 23 22,.g 23 true (.mv 24 1),.g 23 true (.bin 25 .eql 24 (.c (.d (.s (bs []))))),.g 23 true (.mv 26 25),.g 26 false (.fa 27 0 9),.g 26 false (.ld 28 1 false 27),.g 26 false (.mv 29 1),.g 26 false (.bin 30 .eql 28 29),.g 23 true (.pick 31 26 (kB true) 30),.pick 32 23 31 (kB false)]) (.cond 32 (.ops [.mv 33 7,.mv 34 8,.bsl 35 3 1 [34],.app 36 3 1 8 33 35,.asg 7 36]) .skip)))) aUn))))
def bBm:AC:=(.seq (.ops [.mv 38 7,.asg 6 38]) .ret)
def bU0:AC:=(.seq (.ops [.box 3 117 0,.asg 6 (.c (.nil 1))]) (.seq (.ops [.bsl 10 3 1 [],.asg 7 10]) (.seq (.seq (.ops [.fa 11 0 3,.ld 12 1 false 11,.len 13 12,.mv 14 (kI 0)]) (.block 0 aNt)) bBm)))
theorem bTj:bG Tryz.prog 128=some (bU0,[.mv 0 6],39):=by kernel_rfl
def bEt (r:(List Int)):Exit→St→Prop:=bF [.mv 0 6] fun x b=>x=(fun (y:(List Int))=>(.osl 2000000 3 1 (y.map cI))) r∧bV ((fun (y:(List Int))=>[]) r) b
def bSg (r:(List Int)):Exit→St→Prop:=(bJ (wkK (avc Tryz.prog bBm (bEt r))) (bEt r))
def aVk (r:(List Int)):Exit→St→Prop:=(bM 0 (bSg r))
def bXp (r:(List Int)):Exit→St→Prop:=(bJ (avc Tryz.prog aNt (aVk r)) (aVk r))
def bQ4 (p1:(List UInt8)) (p2:(List UInt8)) (p0:aL) (x7:(List Int)) (x14:Int):St:=⟨[(1,(vS p1)),(2,(vS p2)),(7,(.osl 7 3 1 (x7.map cI))),(12,(aL0 p0.names)),(13,(vI (p0.names.length:Int))),(14,(vI x14))],[]⟩
abbrev aHo (p1:(List UInt8)) (p2:(List UInt8)) (p0:aL) (x7:(List Int)) (x14:Int) (r:(List Int)):Prop:=avc Tryz.prog aNt (aVk r) (bQ4 p1 p2 p0 x7 x14)
def bOo (p1:(List UInt8)) (p2:(List UInt8)) (p0:aL) (x14:Int) (oW:(List Int)):St:=⟨[(1,(vS p1)),(2,(vS p2)),(7,(.osl 7 3 1 (oW.map cI))),(12,(aL0 p0.names)),(13,(vI (p0.names.length:Int))),(14,(vI x14))],[]⟩
abbrev aFz (p1:(List UInt8)) (p2:(List UInt8)) (p0:aL) (x14:Int) (oW:(List Int)) (r:(List Int)):Prop:=avc Tryz.prog aUn (bXp r) (bOo p1 p2 p0 x14 oW)
def bRw:AC:=(.seq (.ops [.box 2 117 0,.asg 4 (.c (.nil 1))]) (.seq (.ops [.ld 5 1 true 2,.bsl 6 117 1 [5],.mv 7 1,.app 8 117 1 24 6 7,.asg 4 8]) .ret))
theorem bTe:bG Tryz.prog 74=some (bRw,[.mv 0 4],9):=by kernel_rfl
def cRg (r:(List aL)):Exit→St→Prop:=bF [.mv 0 4] fun x b=>x=(fun (y:(List aL))=>(.osl 2000000 117 1 (y.map jA))) r∧bV ((fun (y:(List aL))=>[]) r) b
def aUs:AC:=(.ops [.bin 29 .add 12 (kI 1),.mv 12 29])
def aO0:AC:=(.loop (.seq (.ops [.bin 13 .lss 12 11]) (.seq (.cond 13 .skip (.exit 0)) (.seq (.block 1 (.seq (.ops [.mv 14 12,.ia 15 3 10 12,.ld 16 3 true 15,.alc 7 [bX,bX,bS],.asg 6 14,.st 3 7 16]) (.seq (.ops [.mv 17 1,.bin 18 .eql 17 (.c (.d (.s (bs [])))),.mv 19 18,.g 19 false (.fa 20 0 7),.g 19 false (.ld 21 1 false 20),.g 19 false (.mv 22 1),.g 19 false (.bin 23 .eql 21 22),.pick 24 19 (kB true) 23]) (.cond 24 (.ops [.mv 25 5,.mv 26 6,.bsl 27 3 1 [26],.app 28 3 1 8 25 27,.asg 5 28]) .skip)))) aUs))))
def bE1:AC:=(.seq (.ops [.mv 30 5,.asg 4 30]) .ret)
def cE1:AC:=(.seq (.ops [.box 2 117 0,.asg 4 (.c (.nil 1))]) (.seq (.ops [.bsl 8 3 1 [],.asg 5 8]) (.seq (.seq (.ops [.fa 9 0 2,.ld 10 1 false 9,.len 11 10,.mv 12 (kI 0)]) (.block 0 aO0)) bE1)))
theorem cN1:bG Tryz.prog 76=some (cE1,[.mv 0 4],31):=by kernel_rfl
def bD3 (r:(List Int)):Exit→St→Prop:=bF [.mv 0 4] fun x b=>x=(fun (y:(List Int))=>(.osl 2000000 3 1 (y.map cI))) r∧bV ((fun (y:(List Int))=>[]) r) b
def cHr (r:(List Int)):Exit→St→Prop:=(bJ (wkK (avc Tryz.prog bE1 (bD3 r))) (bD3 r))
def aV6 (r:(List Int)):Exit→St→Prop:=(bM 0 (cHr r))
def bRn (r:(List Int)):Exit→St→Prop:=(bJ (avc Tryz.prog aO0 (aV6 r)) (aV6 r))
def cE6 (p1:(List UInt8)) (p0:aL) (x5:(List Int)) (x12:Int):St:=⟨[(1,(vS p1)),(5,(.osl 5 3 1 (x5.map cI))),(10,(aL0 p0.names)),(11,(vI (p0.names.length:Int))),(12,(vI x12))],[]⟩
abbrev aKg (p1:(List UInt8)) (p0:aL) (x5:(List Int)) (x12:Int) (r:(List Int)):Prop:=avc Tryz.prog aO0 (aV6 r) (cE6 p1 p0 x5 x12)
def cLc (p1:(List UInt8)) (p0:aL) (x12:Int) (iR:(List Int)):St:=⟨[(1,(vS p1)),(5,(.osl 5 3 1 (iR.map cI))),(10,(aL0 p0.names)),(11,(vI (p0.names.length:Int))),(12,(vI x12))],[]⟩
abbrev aMb (p1:(List UInt8)) (p0:aL) (x12:Int) (iR:(List Int)) (r:(List Int)):Prop:=avc Tryz.prog aUs (bRn r) (cLc p1 p0 x12 iR)
def cC7:AC:=(.seq (.ops [.box 2 30 0,.asg 4 (kI 0)]) (.seq (.ops [.fa 5 1 2,.ld 6 1 false 5,.mv 7 1,.call (some 8) 18 [6,7],.asg 1 8]) (.seq (.seq (.ops [.mv 9 1,.bin 10 .lss 9 (kI 0)]) (.cond 10 (.seq (.ops [.asg 4 (kI (-1))]) .ret) .skip)) (.seq (.ops [.fa 11 2 2,.ld 12 1 false 11,.mv 13 1,.call (some 14) 19 [12,13],.asg 1 14]) (.seq (.seq (.ops [.mv 15 1,.bin 16 .lss 15 (kI 0)]) (.cond 16 (.seq (.ops [.asg 4 (kI (-1))]) .ret) .skip)) (.seq (.ops [.fa 17 3 2,.ld 18 1 false 17,.mv 19 1,.call (some 20) 20 [18,19],.asg 1 20]) (.seq (.seq (.ops [.mv 21 1,.bin 22 .lss 21 (kI 0)]) (.cond 22 (.seq (.ops [.asg 4 (kI (-1))]) .ret) .skip)) (.seq (.ops [.fa 23 4 2,.ld 24 1 false 23,.mv 25 1,.call (some 26) 21 [24,25],.asg 1 26]) (.seq (.seq (.ops [.mv 27 1,.bin 28 .lss 27 (kI 0)]) (.cond 28 (.seq (.ops [.asg 4 (kI (-1))]) .ret) .skip)) (.seq (.ops [.mv 29 1,.asg 4 29]) .ret))))))))))
theorem cNx:bG Tryz.prog 5=some (cC7,[.mv 0 4],30):=by kernel_rfl
def cQx (r:Int):Exit→St→Prop:=bF [.mv 0 4] fun x _=>x=(fun y=>(vI y)) r
def aOr:AC:=(.loop (.seq (.seq (.ops [.mv 12 5,.mv 13 0,.len 14 13,.bin 15 .lss 12 14]) (.cond 15 .skip (.exit 0))) (.seq (.block 1 (.seq (.ops [.mv 18 0,.mv 19 5,.ia 20 13 18 19,.ld 21 13 true 20,.mv 22 1,.call (some 23) 46 [21,22],.asg 1 23]) (.seq (.ops [.mv 24 1,.bin 25 .lss 24 (kI 0)]) (.cond 25 (.seq (.ops [.asg 4 (kI (-1))]) .ret) .skip)))) (.ops [.mv 16 5,.bin 17 .add 16 (kI 1),.asg 5 17]))))
def bJq:AC:=(.seq (.ops [.mv 26 1,.asg 4 26]) .ret)
def bM0:AC:=(.seq (.ops [.asg 4 (kI 0)]) (.seq (.ops [.mv 6 1,.mv 7 0,.len 8 7,.bin 9 .sub 6 8,.asg 1 9]) (.seq (.seq (.ops [.mv 10 1,.bin 11 .lss 10 (kI 0)]) (.cond 11 (.seq (.ops [.asg 4 (kI (-1))]) .ret) .skip)) (.seq (.seq (.ops [.asg 5 (kI 0)]) (.block 0 aOr)) bJq))))
theorem bKv:bG Tryz.prog 18=some (bM0,[.mv 0 4],27):=by kernel_rfl
def bD8 (r:Int):Exit→St→Prop:=bF [.mv 0 4] fun x _=>x=(fun y=>(vI y)) r
def bX8 (r:Int):Exit→St→Prop:=(bJ (wkK (avc Tryz.prog bJq (bD8 r))) (bD8 r))
def bUf (r:Int):Exit→St→Prop:=(bM 0 (bX8 r))
def cA9 (p0:(List bA)) (x1:Int) (x5:Int):St:=⟨[(0,(fU p0)),(1,(vI x1)),(5,(vI x5))],[]⟩
abbrev aNv (p0:(List bA)) (x1:Int) (x5:Int) (r:Int):Prop:=avc Tryz.prog aOr (bUf r) (cA9 p0 x1 x5)
def cH5:AC:=(.seq (.ops [.box 2 96 0,.asg 4 (kI 0)]) (.seq (.ops [.mv 5 1,.fa 6 1 2,.ld 7 1 false 6,.lns 8 7,.bin 9 .sub 5 8,.asg 1 9]) (.seq (.seq (.ops [.mv 10 1,.bin 11 .lss 10 (kI 0)]) (.cond 11 (.seq (.ops [.asg 4 (kI (-1))]) .ret) .skip)) (.seq (.ops [.fa 12 2 2,.ld 13 10 true 12,.mv 14 1,.call (some 15) 48 [13,14],.asg 1 15]) (.seq (.seq (.ops [.mv 16 1,.bin 17 .lss 16 (kI 0)]) (.cond 17 (.seq (.ops [.asg 4 (kI (-1))]) .ret) .skip)) (.seq (.ops [.mv 18 1,.fa 19 12 2,.ld 20 1 false 19,.lns 21 20,.bin 22 .sub 18 21,.asg 1 22]) (.seq (.seq (.ops [.mv 23 1,.bin 24 .lss 23 (kI 0)]) (.cond 24 (.seq (.ops [.asg 4 (kI (-1))]) .ret) .skip)) (.seq (.ops [.mv 25 1,.asg 4 25]) .ret))))))))
theorem bW5:bG Tryz.prog 46=some (cH5,[.mv 0 4],26):=by kernel_rfl
def cU9 (r:Int):Exit→St→Prop:=bF [.mv 0 4] fun x _=>x=(fun y=>(vI y)) r
def bMm:AC:=(.seq (.ops [.box 2 94 0,.asg 4 (kI 0)]) (.seq (.ops [.fa 5 3 2,.ld 6 3 true 5,.mv 7 1,.call (some 8) 85 [6,7],.asg 1 8]) (.seq (.seq (.ops [.mv 9 1,.bin 10 .lss 9 (kI 0)]) (.cond 10 (.seq (.ops [.asg 4 (kI (-1))]) .ret) .skip)) (.seq (.ops [.mv 11 1,.fa 12 6 2,.ld 13 1 false 12,.lns 14 13,.bin 15 .sub 11 14,.asg 1 15]) (.seq (.seq (.ops [.mv 16 1,.bin 17 .lss 16 (kI 0)]) (.cond 17 (.seq (.ops [.asg 4 (kI (-1))]) .ret) .skip)) (.seq (.ops [.mv 18 1,.fa 19 7 2,.ld 20 1 false 19,.lns 21 20,.bin 22 .sub 18 21,.asg 1 22]) (.seq (.seq (.ops [.mv 23 1,.bin 24 .lss 23 (kI 0)]) (.cond 24 (.seq (.ops [.asg 4 (kI (-1))]) .ret) .skip)) (.seq (.ops [.fa 25 8 2,.ld 26 1 false 25,.mv 27 1,.call (some 28) 20 [26,27],.asg 1 28]) (.seq (.seq (.ops [.mv 29 1,.bin 30 .lss 29 (kI 0)]) (.cond 30 (.seq (.ops [.asg 4 (kI (-1))]) .ret) .skip)) (.seq (.ops [.fa 31 9 2,.ld 32 1 false 31,.mv 33 1,.call (some 34) 86 [32,33],.asg 1 34]) (.seq (.seq (.ops [.mv 35 1,.bin 36 .lss 35 (kI 0)]) (.cond 36 (.seq (.ops [.asg 4 (kI (-1))]) .ret) .skip)) (.seq (.ops [.mv 37 1,.asg 4 37]) .ret))))))))))))
theorem bW3:bG Tryz.prog 48=some (bMm,[.mv 0 4],38):=by kernel_rfl
def cQ1 (r:Int):Exit→St→Prop:=bF [.mv 0 4] fun x _=>x=(fun y=>(vI y)) r
def aWa:AC:=(.loop (.seq (.seq (.ops [.mv 12 5,.mv 13 0,.len 14 13,.bin 15 .lss 12 14]) (.cond 15 .skip (.exit 0))) (.seq (.block 1 (.seq (.ops [.mv 18 0,.mv 19 5,.ia 20 10 18 19,.ld 21 10 true 20,.mv 22 1,.call (some 23) 48 [21,22],.asg 1 23]) (.seq (.ops [.mv 24 1,.bin 25 .lss 24 (kI 0)]) (.cond 25 (.seq (.ops [.asg 4 (kI (-1))]) .ret) .skip)))) (.ops [.mv 16 5,.bin 17 .add 16 (kI 1),.asg 5 17]))))
def bIq:AC:=(.seq (.ops [.mv 26 1,.asg 4 26]) .ret)
def bRj:AC:=(.seq (.ops [.asg 4 (kI 0)]) (.seq (.ops [.mv 6 1,.mv 7 0,.len 8 7,.bin 9 .sub 6 8,.asg 1 9]) (.seq (.seq (.ops [.mv 10 1,.bin 11 .lss 10 (kI 0)]) (.cond 11 (.seq (.ops [.asg 4 (kI (-1))]) .ret) .skip)) (.seq (.seq (.ops [.asg 5 (kI 0)]) (.block 0 aWa)) bIq))))
theorem cIe:bG Tryz.prog 20=some (bRj,[.mv 0 4],27):=by kernel_rfl
def aZ0 (r:Int):Exit→St→Prop:=bF [.mv 0 4] fun x _=>x=(fun y=>(vI y)) r
def cE9 (r:Int):Exit→St→Prop:=(bJ (wkK (avc Tryz.prog bIq (aZ0 r))) (aZ0 r))
def cKv (r:Int):Exit→St→Prop:=(bM 0 (cE9 r))
def cGa (p0:(List aA)) (x1:Int) (x5:Int):St:=⟨[(0,(bZ p0)),(1,(vI x1)),(5,(vI x5))],[]⟩
abbrev aLd (p0:(List aA)) (x1:Int) (x5:Int) (r:Int):Prop:=avc Tryz.prog aWa (cKv r) (cGa p0 x1 x5)
def cG0:AC:=(.seq (.ops [.box 2 91 0,.asg 4 (kI 0)]) (.seq (.ops [.mv 5 1,.fa 6 2 2,.ld 7 1 false 6,.lns 8 7,.bin 9 .sub 5 8,.asg 1 9]) (.seq (.seq (.ops [.mv 10 1,.bin 11 .lss 10 (kI 0)]) (.cond 11 (.seq (.ops [.asg 4 (kI (-1))]) .ret) .skip)) (.seq (.ops [.mv 12 1,.asg 4 12]) .ret))))
theorem cOw:bG Tryz.prog 85=some (cG0,[.mv 0 4],13):=by kernel_rfl
def cR1 (r:Int):Exit→St→Prop:=bF [.mv 0 4] fun x _=>x=(fun y=>(vI y)) r
def aPg:AC:=(.loop (.seq (.seq (.ops [.mv 12 5,.mv 13 0,.len 14 13,.bin 15 .lss 12 14]) (.cond 15 .skip (.exit 0))) (.seq (.block 1 (.seq (.ops [.mv 18 0,.mv 19 5,.ia 20 6 18 19,.ld 21 6 true 20,.mv 22 1,.call (some 23) 5 [21,22],.asg 1 23]) (.seq (.ops [.mv 24 1,.bin 25 .lss 24 (kI 0)]) (.cond 25 (.seq (.ops [.asg 4 (kI (-1))]) .ret) .skip)))) (.ops [.mv 16 5,.bin 17 .add 16 (kI 1),.asg 5 17]))))
def bHa:AC:=(.seq (.ops [.mv 26 1,.asg 4 26]) .ret)
def cEg:AC:=(.seq (.ops [.asg 4 (kI 0)]) (.seq (.ops [.mv 6 1,.mv 7 0,.len 8 7,.bin 9 .sub 6 8,.asg 1 9]) (.seq (.seq (.ops [.mv 10 1,.bin 11 .lss 10 (kI 0)]) (.cond 11 (.seq (.ops [.asg 4 (kI (-1))]) .ret) .skip)) (.seq (.seq (.ops [.asg 5 (kI 0)]) (.block 0 aPg)) bHa))))
theorem cMy:bG Tryz.prog 86=some (cEg,[.mv 0 4],27):=by kernel_rfl
def bCo (r:Int):Exit→St→Prop:=bF [.mv 0 4] fun x _=>x=(fun y=>(vI y)) r
def bPj (r:Int):Exit→St→Prop:=(bJ (wkK (avc Tryz.prog bHa (bCo r))) (bCo r))
def bTy (r:Int):Exit→St→Prop:=(bM 0 (bPj r))
def cP2 (p0:(List aJ)) (x1:Int) (x5:Int):St:=⟨[(0,(fE p0)),(1,(vI x1)),(5,(vI x5))],[]⟩
abbrev aNg (p0:(List aJ)) (x1:Int) (x5:Int) (r:Int):Prop:=avc Tryz.prog aPg (bTy r) (cP2 p0 x1 x5)
def aVj:AC:=(.loop (.seq (.seq (.ops [.mv 12 5,.mv 13 0,.len 14 13,.bin 15 .lss 12 14]) (.cond 15 .skip (.exit 0))) (.seq (.block 1 (.seq (.ops [.mv 18 0,.mv 19 5,.ia 20 3 18 19,.ld 21 3 true 20,.mv 22 1,.call (some 23) 47 [21,22],.asg 1 23]) (.seq (.ops [.mv 24 1,.bin 25 .lss 24 (kI 0)]) (.cond 25 (.seq (.ops [.asg 4 (kI (-1))]) .ret) .skip)))) (.ops [.mv 16 5,.bin 17 .add 16 (kI 1),.asg 5 17]))))
def aXk:AC:=(.seq (.ops [.mv 26 1,.asg 4 26]) .ret)
def bVc:AC:=(.seq (.ops [.asg 4 (kI 0)]) (.seq (.ops [.mv 6 1,.mv 7 0,.len 8 7,.bin 9 .sub 6 8,.asg 1 9]) (.seq (.seq (.ops [.mv 10 1,.bin 11 .lss 10 (kI 0)]) (.cond 11 (.seq (.ops [.asg 4 (kI (-1))]) .ret) .skip)) (.seq (.seq (.ops [.asg 5 (kI 0)]) (.block 0 aVj)) aXk))))
theorem cCz:bG Tryz.prog 19=some (bVc,[.mv 0 4],27):=by kernel_rfl
def aZf (r:Int):Exit→St→Prop:=bF [.mv 0 4] fun x _=>x=(fun y=>(vI y)) r
def cHu (r:Int):Exit→St→Prop:=(bJ (wkK (avc Tryz.prog aXk (aZf r))) (aZf r))
def bKe (r:Int):Exit→St→Prop:=(bM 0 (cHu r))
def cA2 (p0:(List aV)) (x1:Int) (x5:Int):St:=⟨[(0,(eD p0)),(1,(vI x1)),(5,(vI x5))],[]⟩
abbrev aFr (p0:(List aV)) (x1:Int) (x5:Int) (r:Int):Prop:=avc Tryz.prog aVj (bKe r) (cA2 p0 x1 x5)
def cL8:AC:=(.seq (.ops [.box 2 99 0,.asg 4 (kI 0)]) (.seq (.ops [.mv 5 1,.fa 6 0 2,.ld 7 1 false 6,.lns 8 7,.bin 9 .sub 5 8,.asg 1 9]) (.seq (.seq (.ops [.mv 10 1,.bin 11 .lss 10 (kI 0)]) (.cond 11 (.seq (.ops [.asg 4 (kI (-1))]) .ret) .skip)) (.seq (.ops [.mv 12 1,.fa 13 1 2,.ld 14 1 false 13,.lns 15 14,.bin 16 .sub 12 15,.asg 1 16]) (.seq (.seq (.ops [.mv 17 1,.bin 18 .lss 17 (kI 0)]) (.cond 18 (.seq (.ops [.asg 4 (kI (-1))]) .ret) .skip)) (.seq (.ops [.fa 19 2 2,.ld 20 1 false 19,.mv 21 1,.call (some 22) 20 [20,21],.asg 1 22]) (.seq (.seq (.ops [.mv 23 1,.bin 24 .lss 23 (kI 0)]) (.cond 24 (.seq (.ops [.asg 4 (kI (-1))]) .ret) .skip)) (.seq (.ops [.mv 25 1,.asg 4 25]) .ret))))))))
theorem cIq:bG Tryz.prog 47=some (cL8,[.mv 0 4],26):=by kernel_rfl
def cRb (r:Int):Exit→St→Prop:=bF [.mv 0 4] fun x _=>x=(fun y=>(vI y)) r
def aT8:AC:=(.loop (.seq (.seq (.ops [.mv 12 5,.mv 13 0,.len 14 13,.bin 15 .lss 12 14]) (.cond 15 .skip (.exit 0))) (.seq (.block 1 (.seq (.ops [.mv 18 0,.mv 19 5,.ia 20 11 18 19,.ld 21 11 true 20,.mv 22 1,.call (some 23) 49 [21,22],.asg 1 23]) (.seq (.ops [.mv 24 1,.bin 25 .lss 24 (kI 0)]) (.cond 25 (.seq (.ops [.asg 4 (kI (-1))]) .ret) .skip)))) (.ops [.mv 16 5,.bin 17 .add 16 (kI 1),.asg 5 17]))))
def bFh:AC:=(.seq (.ops [.mv 26 1,.asg 4 26]) .ret)
def cMc:AC:=(.seq (.ops [.asg 4 (kI 0)]) (.seq (.ops [.mv 6 1,.mv 7 0,.len 8 7,.bin 9 .sub 6 8,.asg 1 9]) (.seq (.seq (.ops [.mv 10 1,.bin 11 .lss 10 (kI 0)]) (.cond 11 (.seq (.ops [.asg 4 (kI (-1))]) .ret) .skip)) (.seq (.seq (.ops [.asg 5 (kI 0)]) (.block 0 aT8)) bFh))))
theorem bTk:bG Tryz.prog 21=some (cMc,[.mv 0 4],27):=by kernel_rfl
def bCt (r:Int):Exit→St→Prop:=bF [.mv 0 4] fun x _=>x=(fun y=>(vI y)) r
def cFv (r:Int):Exit→St→Prop:=(bJ (wkK (avc Tryz.prog bFh (bCt r))) (bCt r))
def cMx (r:Int):Exit→St→Prop:=(bM 0 (cFv r))
def cEx (p0:(List bC)) (x1:Int) (x5:Int):St:=⟨[(0,(fP p0)),(1,(vI x1)),(5,(vI x5))],[]⟩
abbrev aN3 (p0:(List bC)) (x1:Int) (x5:Int) (r:Int):Prop:=avc Tryz.prog aT8 (cMx r) (cEx p0 x1 x5)
def bTn:AC:=(.seq (.ops [.box 2 103 0,.asg 4 (kI 0)]) (.seq (.ops [.fa 5 0 2,.ld 6 10 true 5,.mv 7 1,.call (some 8) 48 [6,7],.asg 1 8]) (.seq (.seq (.ops [.mv 9 1,.bin 10 .lss 9 (kI 0)]) (.cond 10 (.seq (.ops [.asg 4 (kI (-1))]) .ret) .skip)) (.seq (.ops [.mv 11 1,.asg 4 11]) .ret))))
theorem cKq:bG Tryz.prog 49=some (bTn,[.mv 0 4],12):=by kernel_rfl
def cU5 (r:Int):Exit→St→Prop:=bF [.mv 0 4] fun x _=>x=(fun y=>(vI y)) r
def aQb:AC:=(.loop (.seq (.seq (.ops [.mv 11 5,.mv 12 0,.len 13 12,.bin 14 .lss 11 13]) (.cond 14 .skip (.exit 0))) (.seq (.block 1 (.seq (.dops [[],[],[0,1],[2],[],[],[4,5],[6],[3,7],[8]] [.mv 17 0,.mv 18 5,.ia 19 5 17 18,.ld 20 5 true 19,.mv 21 1,.mv 22 5,.ia 23 5 21 22,.ld 24 5 true 23,.call (some 25) 33 [20,24],.not 26 25]) (.cond 26 (.seq (.ops [.asg 4 (kB false)]) .ret) .skip))) (.ops [.mv 15 5,.bin 16 .add 15 (kI 1),.asg 5 16]))))
def aXc:AC:=(.seq (.ops [.asg 4 (kB true)]) .ret)
def bYj:AC:=(.seq (.ops [.asg 4 (kB false)]) (.seq (.seq (.ops [.mv 6 0,.len 7 6,.mv 8 1,.len 9 8,.bin 10 .neq 7 9]) (.cond 10 (.seq (.ops [.asg 4 (kB false)]) .ret) .skip)) (.seq (.seq (.ops [.asg 5 (kI 0)]) (.block 0 aQb)) aXc)))
theorem bZr:bG Tryz.prog 10=some (bYj,[.mv 0 4],27):=by kernel_rfl
def bEb (r:Bool):Exit→St→Prop:=bF [.mv 0 4] fun x _=>x=(fun y=>(vB y)) r
def bP0 (r:Bool):Exit→St→Prop:=(bJ (wkK (avc Tryz.prog aXc (bEb r))) (bEb r))
def cFh (r:Bool):Exit→St→Prop:=(bM 0 (bP0 r))
def bM1 (p0:(List aB)) (p1:(List aB)) (x5:Int):St:=⟨[(0,(aBe p0)),(1,(aBe p1)),(5,(vI x5))],[]⟩
abbrev aLq (p0:(List aB)) (p1:(List aB)) (x5:Int) (r:Bool):Prop:=avc Tryz.prog aQb (cFh r) (bM1 p0 p1 x5)
def cC0:AC:=(.seq (.ops [.box 2 73 0,.box 3 73 1,.asg 4 (kB false)]) (.seq (.seq (.ops [.fa 5 0 2,.ld 6 1 false 5,.fa 7 0 3,.ld 8 1 false 7,.bin 9 .neq 6 8]) (.cond 9 (.seq (.ops [.asg 4 (kB false)]) .ret) .skip)) (.seq (.seq (.ops [.fa 10 1 2,.ld 11 1 false 10,.fa 12 1 3,.ld 13 1 false 12,.bin 14 .neq 11 13]) (.cond 14 (.seq (.ops [.asg 4 (kB false)]) .ret) .skip)) (.seq (.seq (.ops [.fa 15 2 2,.ld 16 1 false 15,.fa 17 2 3,.ld 18 1 false 17,.bin 19 .neq 16 18]) (.cond 19 (.seq (.ops [.asg 4 (kB false)]) .ret) .skip)) (.seq (.seq (.ops [.fa 20 3 2,.ld 21 1 false 20,.fa 22 3 3,.ld 23 1 false 22,.bin 24 .neq 21 23]) (.cond 24 (.seq (.ops [.asg 4 (kB false)]) .ret) .skip)) (.seq (.seq (.ops [.fa 25 4 2,.ld 26 1 false 25,.fa 27 4 3,.ld 28 1 false 27,.bin 29 .neq 26 28]) (.cond 29 (.seq (.ops [.asg 4 (kB false)]) .ret) .skip)) (.seq (.ops [.asg 4 (kB true)]) .ret)))))))
theorem bOp:bG Tryz.prog 33=some (cC0,[.mv 0 4],30):=by kernel_rfl
def cPk (r:Bool):Exit→St→Prop:=bF [.mv 0 4] fun x _=>x=(fun y=>(vB y)) r
def aO4:AC:=(.loop (.seq (.seq (.ops [.mv 6 5,.mv 7 0,.len 8 7,.bin 9 .lss 6 8]) (.cond 9 .skip (.exit 0))) (.seq (.block 1 (.seq (.ops [.mv 12 0,.mv 13 5,.mv 14 1,.call (some 15) 44 [14],.ia 16 5 12 13,.fa 17 0 16,.st 1 17 15]) (.seq (.ops [.mv 18 1,.bin 19 .add 18 (kI 1),.asg 1 19]) (.seq (.ops [.mv 20 0,.mv 21 5,.mv 22 1,.call (some 23) 44 [22],.ia 24 5 20 21,.fa 25 1 24,.st 1 25 23]) (.seq (.ops [.mv 26 1,.bin 27 .add 26 (kI 1),.asg 1 27]) (.seq (.ops [.mv 28 0,.mv 29 5,.mv 30 1,.ia 31 5 28 29,.fa 32 2 31,.st 1 32 30]) (.seq (.ops [.mv 33 1,.bin 34 .add 33 (kI 1),.asg 1 34]) (.seq (.ops [.mv 35 0,.mv 36 5,.mv 37 1,.ia 38 5 35 36,.fa 39 3 38,.st 1 39 37]) (.seq (.ops [.mv 40 1,.bin 41 .add 40 (kI 1),.asg 1 41]) (.seq (.ops [.mv 42 0,.mv 43 5,.mv 44 1,.ia 45 5 42 43,.fa 46 4 45,.st 1 46 44]) (.ops [.mv 47 1,.bin 48 .add 47 (kI 1),.asg 1 48]))))))))))) (.ops [.mv 10 5,.bin 11 .add 10 (kI 1),.asg 5 11]))))
def bAj:AC:=(.seq (.ops [.mv 49 1,.asg 4 49]) .ret)
def bOj:AC:=(.seq (.ops [.asg 4 (kI 0)]) (.seq (.seq (.ops [.asg 5 (kI 0)]) (.block 0 aO4)) bAj))
theorem cL0:bG Tryz.prog 15=some (bOj,[.mv 0 4],50):=by kernel_rfl
def bB0 (r:Int×(List aB)):Exit→St→Prop:=bF [.mv 0 4] fun x b=>x=(fun (y:Int×(List aB))=>(vI y.1)) r∧bV ((fun (y:Int×(List aB))=>[(3000000,[(.trc 5 (y.2.map bL))])]) r) b
def cK0 (r:Int×(List aB)):Exit→St→Prop:=(bJ (wkK (avc Tryz.prog bAj (bB0 r))) (bB0 r))
def bLa (r:Int×(List aB)):Exit→St→Prop:=(bM 0 (cK0 r))
def bQ1 (x1:Int) (x5:Int) (aQ:(List aB)):St:=⟨[(0,(.tre 3000000)),(1,(vI x1)),(5,(vI x5))],[(3000000,[(.trc 5 (aQ.map bL))])]⟩
abbrev aKh (x1:Int) (x5:Int) (aQ:(List aB)) (r:Int×(List aB)):Prop:=avc Tryz.prog aO4 (bLa r) (bQ1 x1 x5 aQ)
def bYo:AC:=(.seq (.ops [.box 1 30 0,.alc 2 uX]) (.seq (.ops [.alc 3 uX]) (.seq (.ops [.fa 4 0 1,.ld 5 1 false 4,.fa 6 0 3,.st 1 6 5]) (.seq (.ops [.fa 7 1 1,.ld 8 1 false 7,.call (some 9) 26 [8],.fa 10 1 3,.st 1 10 9]) (.seq (.ops [.fa 11 2 1,.ld 12 1 false 11,.call (some 13) 27 [12],.fa 14 2 3,.st 1 14 13]) (.seq (.ops [.fa 15 3 1,.ld 16 1 false 15,.call (some 17) 28 [16],.fa 18 3 3,.st 1 18 17]) (.seq (.ops [.fa 19 4 1,.ld 20 1 false 19,.call (some 21) 29 [20],.fa 22 4 3,.st 1 22 21]) (.seq (.ops [.fa 23 5 1,.ld 24 1 false 23,.fa 25 5 3,.st 1 25 24]) (.seq (.ops [.ld 26 6 true 3,.st 6 2 26]) .ret)))))))))
theorem bZz:bG Tryz.prog 8=some (bYo,[.ld 0 6 true 2],27):=by kernel_rfl
def cTx (r:aJ):Exit→St→Prop:=bF [.ld 0 6 true 2] fun x _=>x=(fun y=>(dC y)) r
def aR0:AC:=(.loop (.seq (.seq (.ops [.mv 8 4,.mv 9 0,.len 10 9,.bin 11 .lss 8 10]) (.cond 11 .skip (.exit 0))) (.seq (.block 1 (.ops [.mv 14 3,.mv 15 4,.mv 16 0,.mv 17 4,.ia 18 13 16 17,.ld 19 13 true 18,.call (some 20) 63 [19],.ia 21 13 14 15,.st 13 21 20])) (.ops [.mv 12 4,.bin 13 .add 12 (kI 1),.asg 4 13]))))
def aZo:AC:=(.seq (.ops [.mv 22 3,.asg 2 22]) .ret)
def bQ9:AC:=(.seq (.ops [.asg 2 (.c (.nil 13))]) (.seq (.ops [.mv 5 0,.len 6 5,.mks 7 132 13 176 [(.b false),(.s (bs [])),(.i .i64 0),(.i .i64 0),(.b false),(.i .i64 0),(.i .i64 0),(.s (bs [])),(.s (bs [])),(.s (bs [])),(.sl 10 []),(.sl 6 []),(.s (bs []))] 6 6,.asg 3 7]) (.seq (.seq (.ops [.asg 4 (kI 0)]) (.block 0 aR0)) aZo)))
theorem bP1:bG Tryz.prog 26=some (bQ9,[.mv 0 2],23):=by kernel_rfl
def bEn (r:(List bA)):Exit→St→Prop:=bF [.mv 0 2] fun x _=>x=(fun y=>(fU y)) r
def cEl (r:(List bA)):Exit→St→Prop:=(bJ (wkK (avc Tryz.prog aZo (bEn r))) (bEn r))
def bN1 (r:(List bA)):Exit→St→Prop:=(bM 0 (cEl r))
def bPz (p0:(List bA)) (x4:Int) (aX:(List bA)):St:=⟨[(0,(fU p0)),(3,(.msl 7 13 0 aX.length aX.length)),(4,(vI x4))],[(7,fC (aX.map dF))]⟩
abbrev aK4 (p0:(List bA)) (x4:Int) (aX:(List bA)) (r:(List bA)):Prop:=avc Tryz.prog aR0 (bN1 r) (bPz p0 x4 aX)
def cF4:AC:=(.seq (.ops [.box 1 96 0,.alc 2 rG]) (.seq (.ops [.alc 3 rG]) (.seq (.ops [.fa 4 0 1,.ld 5 1 false 4,.fa 6 0 3,.st 1 6 5]) (.seq (.ops [.fa 7 1 1,.ld 8 1 false 7,.fa 9 1 3,.st 1 9 8]) (.seq (.ops [.fa 10 2 1,.ld 11 10 true 10,.call (some 12) 65 [11],.fa 13 2 3,.st 10 13 12]) (.seq (.ops [.fa 14 12 1,.ld 15 1 false 14,.fa 16 12 3,.st 1 16 15]) (.seq (.ops [.ld 17 13 true 3,.st 13 2 17]) .ret)))))))
theorem bQm:bG Tryz.prog 63=some (cF4,[.ld 0 13 true 2],18):=by kernel_rfl
def cTf (r:bA):Exit→St→Prop:=bF [.ld 0 13 true 2] fun x _=>x=(fun y=>(iP y)) r
def cNm:AC:=(.seq (.ops [.box 1 94 0,.alc 2 vX]) (.seq (.ops [.alc 3 vX]) (.seq (.ops [.fa 4 0 1,.ld 5 1 false 4,.fa 6 0 3,.st 1 6 5]) (.seq (.ops [.fa 7 1 1,.ld 8 1 false 7,.fa 9 1 3,.st 1 9 8]) (.seq (.ops [.fa 10 2 1,.ld 11 1 false 10,.fa 12 2 3,.st 1 12 11]) (.seq (.ops [.fa 13 3 1,.ld 14 3 true 13,.call (some 15) 98 [14],.fa 16 3 3,.st 3 16 15]) (.seq (.ops [.fa 17 6 1,.ld 18 1 false 17,.fa 19 6 3,.st 1 19 18]) (.seq (.ops [.fa 20 7 1,.ld 21 1 false 20,.fa 22 7 3,.st 1 22 21]) (.seq (.ops [.fa 23 8 1,.ld 24 1 false 23,.call (some 25) 28 [24],.fa 26 8 3,.st 1 26 25]) (.seq (.ops [.fa 27 9 1,.ld 28 1 false 27,.call (some 29) 99 [28],.fa 30 9 3,.st 1 30 29]) (.seq (.ops [.ld 31 10 true 3,.st 10 2 31]) .ret)))))))))))
theorem bOm:bG Tryz.prog 65=some (cNm,[.ld 0 10 true 2],32):=by kernel_rfl
def cSw (r:aA):Exit→St→Prop:=bF [.ld 0 10 true 2] fun x _=>x=(fun y=>(dN y)) r
def aUx:AC:=(.loop (.seq (.seq (.ops [.mv 8 4,.mv 9 0,.len 10 9,.bin 11 .lss 8 10]) (.cond 11 .skip (.exit 0))) (.seq (.block 1 (.ops [.mv 14 3,.mv 15 4,.mv 16 0,.mv 17 4,.ia 18 6 16 17,.ld 19 6 true 18,.call (some 20) 8 [19],.ia 21 6 14 15,.st 6 21 20])) (.ops [.mv 12 4,.bin 13 .add 12 (kI 1),.asg 4 13]))))
def bFr:AC:=(.seq (.ops [.mv 22 3,.asg 2 22]) .ret)
def bS9:AC:=(.seq (.ops [.asg 2 (.c (.nil 6))]) (.seq (.ops [.mv 5 0,.len 6 5,.mks 7 45 6 112 [(.b false),(.sl 13 []),(.sl 3 []),(.sl 10 []),(.sl 11 []),(.i .i64 0)] 6 6,.asg 3 7]) (.seq (.seq (.ops [.asg 4 (kI 0)]) (.block 0 aUx)) bFr)))
theorem cNt:bG Tryz.prog 99=some (bS9,[.mv 0 2],23):=by kernel_rfl
def bDy (r:(List aJ)):Exit→St→Prop:=bF [.mv 0 2] fun x _=>x=(fun y=>(fE y)) r
def cLw (r:(List aJ)):Exit→St→Prop:=(bJ (wkK (avc Tryz.prog bFr (bDy r))) (bDy r))
def bXv (r:(List aJ)):Exit→St→Prop:=(bM 0 (cLw r))
def bMq (p0:(List aJ)) (x4:Int) (aX:(List aJ)):St:=⟨[(0,(fE p0)),(3,(.msl 7 6 0 aX.length aX.length)),(4,(vI x4))],[(7,fC (aX.map dI))]⟩
abbrev aGv (p0:(List aJ)) (x4:Int) (aX:(List aJ)) (r:(List aJ)):Prop:=avc Tryz.prog aUx (bXv r) (bMq p0 x4 aX)
def aQw:AC:=(.loop (.seq (.seq (.ops [.mv 8 4,.mv 9 0,.len 10 9,.bin 11 .lss 8 10]) (.cond 11 .skip (.exit 0))) (.seq (.block 1 (.ops [.mv 14 3,.mv 15 4,.mv 16 0,.mv 17 4,.ia 18 10 16 17,.ld 19 10 true 18,.call (some 20) 65 [19],.ia 21 10 14 15,.st 10 21 20])) (.ops [.mv 12 4,.bin 13 .add 12 (kI 1),.asg 4 13]))))
def bFe:AC:=(.seq (.ops [.mv 22 3,.asg 2 22]) .ret)
def cId:AC:=(.seq (.ops [.asg 2 (.c (.nil 10))]) (.seq (.ops [.mv 5 0,.len 6 5,.mks 7 128 10 136 [(.i .i64 0),(.i .i64 0),(.b false),(.i .i64 0),(.i .i64 0),(.s (bs [])),(.s (bs [])),(.s (bs [])),(.sl 10 []),(.sl 6 [])] 6 6,.asg 3 7]) (.seq (.seq (.ops [.asg 4 (kI 0)]) (.block 0 aQw)) bFe)))
theorem bQz:bG Tryz.prog 28=some (cId,[.mv 0 2],23):=by kernel_rfl
def bHw (r:(List aA)):Exit→St→Prop:=bF [.mv 0 2] fun x _=>x=(fun y=>(bZ y)) r
def bNn (r:(List aA)):Exit→St→Prop:=(bJ (wkK (avc Tryz.prog bFe (bHw r))) (bHw r))
def cKo (r:(List aA)):Exit→St→Prop:=(bM 0 (bNn r))
def cBx (p0:(List aA)) (x4:Int) (aX:(List aA)):St:=⟨[(0,(bZ p0)),(3,(.msl 7 10 0 aX.length aX.length)),(4,(vI x4))],[(7,fC (aX.map bN))]⟩
abbrev aMi (p0:(List aA)) (x4:Int) (aX:(List aA)) (r:(List aA)):Prop:=avc Tryz.prog aQw (cKo r) (cBx p0 x4 aX)
def aTv:AC:=(.loop (.seq (.seq (.ops [.mv 8 4,.mv 9 0,.len 10 9,.bin 11 .lss 8 10]) (.cond 11 .skip (.exit 0))) (.seq (.block 1 (.ops [.mv 14 3,.mv 15 4,.mv 16 0,.mv 17 4,.ia 18 3 16 17,.ld 19 3 true 18,.call (some 20) 64 [19],.ia 21 3 14 15,.st 3 21 20])) (.ops [.mv 12 4,.bin 13 .add 12 (kI 1),.asg 4 13]))))
def bFu:AC:=(.seq (.ops [.mv 22 3,.asg 2 22]) .ret)
def bY1:AC:=(.seq (.ops [.asg 2 (.c (.nil 3))]) (.seq (.ops [.mv 5 0,.len 6 5,.mks 7 123 3 56 [(.s (bs [])),(.s (bs [])),(.sl 10 [])] 6 6,.asg 3 7]) (.seq (.seq (.ops [.asg 4 (kI 0)]) (.block 0 aTv)) bFu)))
theorem bUh:bG Tryz.prog 27=some (bY1,[.mv 0 2],23):=by kernel_rfl
def aWr (r:(List aV)):Exit→St→Prop:=bF [.mv 0 2] fun x _=>x=(fun y=>(eD y)) r
def bLw (r:(List aV)):Exit→St→Prop:=(bJ (wkK (avc Tryz.prog bFu (aWr r))) (aWr r))
def bYg (r:(List aV)):Exit→St→Prop:=(bM 0 (bLw r))
def cOn (p0:(List aV)) (x4:Int) (aX:(List aV)):St:=⟨[(0,(eD p0)),(3,(.msl 7 3 0 aX.length aX.length)),(4,(vI x4))],[(7,fC (aX.map dZ))]⟩
abbrev aKn (p0:(List aV)) (x4:Int) (aX:(List aV)) (r:(List aV)):Prop:=avc Tryz.prog aTv (bYg r) (cOn p0 x4 aX)
def bTg:AC:=(.seq (.ops [.box 1 99 0,.alc 2 [bX,bX,(.nil 10)]]) (.seq (.ops [.alc 3 [bX,bX,(.nil 10)]]) (.seq (.ops [.fa 4 0 1,.ld 5 1 false 4,.fa 6 0 3,.st 1 6 5]) (.seq (.ops [.fa 7 1 1,.ld 8 1 false 7,.fa 9 1 3,.st 1 9 8]) (.seq (.ops [.fa 10 2 1,.ld 11 1 false 10,.call (some 12) 28 [11],.fa 13 2 3,.st 1 13 12]) (.seq (.ops [.ld 14 3 true 3,.st 3 2 14]) .ret))))))
theorem bPe:bG Tryz.prog 64=some (bTg,[.ld 0 3 true 2],15):=by kernel_rfl
def cPi (r:aV):Exit→St→Prop:=bF [.ld 0 3 true 2] fun x _=>x=(fun y=>(iG y)) r
def aSq:AC:=(.loop (.seq (.seq (.ops [.mv 8 4,.mv 9 0,.len 10 9,.bin 11 .lss 8 10]) (.cond 11 .skip (.exit 0))) (.seq (.block 1 (.ops [.mv 14 3,.mv 15 4,.mv 16 0,.mv 17 4,.ia 18 11 16 17,.ld 19 11 true 18,.call (some 20) 66 [19],.ia 21 11 14 15,.st 11 21 20])) (.ops [.mv 12 4,.bin 13 .add 12 (kI 1),.asg 4 13]))))
def bB1:AC:=(.seq (.ops [.mv 22 3,.asg 2 22]) .ret)
def cJy:AC:=(.seq (.ops [.asg 2 (.c (.nil 11))]) (.seq (.ops [.mv 5 0,.len 6 5,.mks 7 130 11 144 [(.i .i64 0),(.i .i64 0),(.b false),(.i .i64 0),(.i .i64 0),(.s (bs [])),(.s (bs [])),(.s (bs [])),(.sl 10 []),(.sl 6 []),(.b false)] 6 6,.asg 3 7]) (.seq (.seq (.ops [.asg 4 (kI 0)]) (.block 0 aSq)) bB1)))
theorem cIw:bG Tryz.prog 29=some (cJy,[.mv 0 2],23):=by kernel_rfl
def bK2 (r:(List bC)):Exit→St→Prop:=bF [.mv 0 2] fun x _=>x=(fun y=>(fP y)) r
def bSk (r:(List bC)):Exit→St→Prop:=(bJ (wkK (avc Tryz.prog bB1 (bK2 r))) (bK2 r))
def bT2 (r:(List bC)):Exit→St→Prop:=(bM 0 (bSk r))
def cHg (p0:(List bC)) (x4:Int) (aX:(List bC)):St:=⟨[(0,(fP p0)),(3,(.msl 7 11 0 aX.length aX.length)),(4,(vI x4))],[(7,fC (aX.map dJ))]⟩
abbrev aG5 (p0:(List bC)) (x4:Int) (aX:(List bC)) (r:(List bC)):Prop:=avc Tryz.prog aSq (bT2 r) (cHg p0 x4 aX)
def bSj:AC:=(.seq (.ops [.box 1 103 0,.alc 2 zV]) (.seq (.ops [.alc 3 zV]) (.seq (.ops [.fa 4 0 1,.ld 5 10 true 4,.call (some 6) 65 [5],.fa 7 0 3,.st 10 7 6]) (.seq (.ops [.fa 8 10 1,.ld 9 1 false 8,.fa 10 10 3,.st 1 10 9]) (.seq (.ops [.ld 11 11 true 3,.st 11 2 11]) .ret)))))
theorem bPx:bG Tryz.prog 66=some (bSj,[.ld 0 11 true 2],12):=by kernel_rfl
def cSs (r:bC):Exit→St→Prop:=bF [.ld 0 11 true 2] fun x _=>x=(fun y=>(iV y)) r
def cG2:AC:=(.seq (.ops [.box 2 38 0,.asg 4 (kI 0)]) (.seq (.ops [.fa 5 0 2,.ld 6 1 false 5,.mv 7 1,.call (some 8) 39 [6,7],.asg 1 8]) (.seq (.ops [.mv 9 1,.asg 4 9]) .ret)))
theorem cLx:bG Tryz.prog 13=some (cG2,[.mv 0 4],10):=by kernel_rfl
def cSi (r:Int×(List aP)):Exit→St→Prop:=bF [.mv 0 4] fun x b=>x=(fun (y:Int×(List aP))=>(vI y.1)) r∧bV ((fun (y:Int×(List aP))=>[(3000000,[(.trc 2 (y.2.map fK))])]) r) b
def aUf:AC:=(.loop (.seq (.seq (.ops [.mv 6 5,.mv 7 0,.len 8 7,.bin 9 .lss 6 8]) (.cond 9 .skip (.exit 0))) (.seq (.block 1 (.seq (.ops [.mv 12 0,.mv 13 5,.mv 14 1,.call (some 15) 44 [14],.ia 16 2 12 13,.fa 17 0 16,.st 1 17 15]) (.seq (.ops [.mv 18 1,.bin 19 .add 18 (kI 1),.asg 1 19]) (.ops [.mv 20 0,.mv 21 5,.ia 22 2 20 21,.fa 23 1 22,.ld 24 1 false 23,.mv 25 1,.call (some 26) 82 [24,25],.asg 1 26])))) (.ops [.mv 10 5,.bin 11 .add 10 (kI 1),.asg 5 11]))))
def bAa:AC:=(.seq (.ops [.mv 27 1,.asg 4 27]) .ret)
def bXk:AC:=(.seq (.ops [.asg 4 (kI 0)]) (.seq (.seq (.ops [.asg 5 (kI 0)]) (.block 0 aUf)) bAa))
theorem bRq:bG Tryz.prog 39=some (bXk,[.mv 0 4],28):=by kernel_rfl
def bG4 (r:Int×(List aP)):Exit→St→Prop:=bF [.mv 0 4] fun x b=>x=(fun (y:Int×(List aP))=>(vI y.1)) r∧bV ((fun (y:Int×(List aP))=>[(3000000,[(.trc 2 (y.2.map fK))])]) r) b
def bYi (r:Int×(List aP)):Exit→St→Prop:=(bJ (wkK (avc Tryz.prog bAa (bG4 r))) (bG4 r))
def cDy (r:Int×(List aP)):Exit→St→Prop:=(bM 0 (bYi r))
def bLn (x1:Int) (x5:Int) (aQ:(List aP)):St:=⟨[(0,(.tre 3000000)),(1,(vI x1)),(5,(vI x5))],[(3000000,[(.trc 2 (aQ.map fK))])]⟩
abbrev aN5 (x1:Int) (x5:Int) (aQ:(List aP)) (r:Int×(List aP)):Prop:=avc Tryz.prog aUf (cDy r) (bLn x1 x5 aQ)
end Go.Proofs.YtflhmnfmihkbmaeGreat
