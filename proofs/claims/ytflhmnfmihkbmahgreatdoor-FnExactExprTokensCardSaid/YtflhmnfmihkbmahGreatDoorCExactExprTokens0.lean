/- That the code computes these functions (printed by a program). -/
import Derived.Test.YtflhmnfmihkbmahGreatDoorAbP
import Derived.Test.YtflhmnfmihkbmahGreatDoorAbQ
import Derived.KernelRfl
import Derived.Test.YtflhmnfmihkbmahGreatDoorAbG2
import Derived.Test.YtflhmnfmihkbmahGreatDoorAbC3
import Derived.Test.YtflhmnfmihkbmahGreatDoorAbX1
import Derived.Test.YtflhmnfmihkbmahGreatDoorFExactExprTokens
import Derived.Test.YtflhmnfmihkbmahGreatDoorProg
namespace Go.Proofs.YtflhmnfmihkbmahGreatDoor
open Go Go.RowKit Go.Ab
attribute [local irreducible] avc bO aop dgo bA bN bP wkK xR stz aBv aY eff bQ.st
def cI (n:Int):List D:=[.i .i64 n]
def cU8 (n:Int):List D:=[.i .u8 n]
def cF4 (n:Int):List D:=[.i .u64 n]
def cH6 (n:Int):List D:=[.i .i32 n]
def cGi (n:Int):List D:=[.i .u32 n]
def cB (b:Bool):List D:=[.b b]
def cStr (s:List UInt8):List D:=[.s (bs s)]
def cSl {α:Type} (sz:Nat) (f:α→List D) (l:List α):List D:=[.sl sz (l.map f)]
def H6 (x:cZ):List D:=[(.i .i64 x.kind),(.i .i64 x.num),(.s (bs x.text))]
def nM (x:cZ):V:=.agg (H6 x)
def cFu (x:cZ):List V:=(H6 x).map V.d
mutual
def bD:aB→List D
  | ⟨a0,a1,a2,a3,a4,a5,a6,a7⟩=>[(.i .i64 a0)]++[(.i .i64 a1)]++[(.b a2)]++H6 a3++[(.s (bs a4))]++[(.s (bs a5))]++[.sl 10 (C8 a6)]++[.sl 6 (aAg a7)]
def cO:aZ→List D
  | ⟨a0,a1,a2,a3⟩=>[(.b a0)]++[(.s (bs a1))]++bD a2++[(.s (bs a3))]
def bZ:aJ→List D
  | ⟨a0,a1,a2,a3,a4,a5⟩=>[(.b a0)]++[.sl 13 (aAi a1)]++[.sl 3 (aCi a2)]++[.sl 10 (C8 a3)]++[.sl 11 (aAp a4)]++[(.i .i64 a5)]
def dD:aX→List D
  | ⟨a0,a1⟩=>bD a0++[(.b a1)]
def dW:aR→List D
  | ⟨a0,a1,a2⟩=>[(.s (bs a0))]++[(.s (bs a1))]++[.sl 10 (C8 a2)]
def C8:List aB→List (List D)
  | []=>[]
  | x::l=>bD x::C8 l
def aAi:List aZ→List (List D)
  | []=>[]
  | x::l=>cO x::aAi l
def aAg:List aJ→List (List D)
  | []=>[]
  | x::l=>bZ x::aAg l
def aAp:List aX→List (List D)
  | []=>[]
  | x::l=>dD x::aAp l
def aCi:List aR→List (List D)
  | []=>[]
  | x::l=>dW x::aCi l
end
theorem H5:∀ l:List aB,C8 l=l.map bD
  | []=>by simp only [C8,List.map_nil]
  | x::l=>by simp only [C8,List.map_cons,H5 l]
theorem U3:∀ l:List aZ,aAi l=l.map cO
  | []=>by simp only [aAi,List.map_nil]
  | x::l=>by simp only [aAi,List.map_cons,U3 l]
theorem U5:∀ l:List aJ,aAg l=l.map bZ
  | []=>by simp only [aAg,List.map_nil]
  | x::l=>by simp only [aAg,List.map_cons,U5 l]
theorem I9:∀ l:List aX,aAp l=l.map dD
  | []=>by simp only [aAp,List.map_nil]
  | x::l=>by simp only [aAp,List.map_cons,I9 l]
theorem L6:∀ l:List aR,aCi l=l.map dW
  | []=>by simp only [aCi,List.map_nil]
  | x::l=>by simp only [aCi,List.map_cons,L6 l]
def iV (x:aB):List D:=[(.i .i64 x.kind),(.i .i64 x.op),(.b x.not_),(.i .i64 x.value.kind),(.i .i64 x.value.num),(.s (bs x.value.text)),(.s (bs x.qual)),(.s (bs x.name)),(.sl 10 (x.kids.map bD)),(.sl 6 (x.sub.map bZ))]
def uA (x:aZ):List D:=[(.b x.star),(.s (bs x.qual)),(.i .i64 x.expr.kind),(.i .i64 x.expr.op),(.b x.expr.not_),(.i .i64 x.expr.value.kind),(.i .i64 x.expr.value.num),(.s (bs x.expr.value.text)),(.s (bs x.expr.qual)),(.s (bs x.expr.name)),(.sl 10 (x.expr.kids.map bD)),(.sl 6 (x.expr.sub.map bZ)),(.s (bs x.as_))]
def tY (x:aJ):List D:=[(.b x.distinct),(.sl 13 (x.items.map cO)),(.sl 3 (x.from_.map dW)),(.sl 10 (x.where_.map bD)),(.sl 11 (x.order.map dD)),(.i .i64 x.limit)]
def jM (x:aX):List D:=[(.i .i64 x.expr.kind),(.i .i64 x.expr.op),(.b x.expr.not_),(.i .i64 x.expr.value.kind),(.i .i64 x.expr.value.num),(.s (bs x.expr.value.text)),(.s (bs x.expr.qual)),(.s (bs x.expr.name)),(.sl 10 (x.expr.kids.map bD)),(.sl 6 (x.expr.sub.map bZ)),(.b x.desc)]
def uB (x:aR):List D:=[(.s (bs x.table)),(.s (bs x.as_)),(.sl 10 (x.on_.map bD))]
theorem iA (x:aB):bD x=iV x:=by
  obtain ⟨a0,a1,a2,a3,a4,a5,a6,a7⟩:=x
  simp only [bD,iV,H5,U3,U5,I9,L6,List.cons_append,List.nil_append,H6]
theorem rG (x:aZ):cO x=uA x:=by
  obtain ⟨a0,a1,a2,a3⟩:=x
  simp only [cO,uA,H5,U3,U5,I9,L6,iA,iV,List.cons_append,List.nil_append]
theorem rO (x:aJ):bZ x=tY x:=by
  obtain ⟨a0,a1,a2,a3,a4,a5⟩:=x
  simp only [bZ,tY,H5,U3,U5,I9,L6,List.cons_append,List.nil_append]
theorem oI (x:aX):dD x=jM x:=by
  obtain ⟨a0,a1⟩:=x
  simp only [dD,jM,H5,U3,U5,I9,L6,iA,iV,List.cons_append,List.nil_append]
theorem sG (x:aR):dW x=uB x:=by
  obtain ⟨a0,a1,a2⟩:=x
  simp only [dW,uB,H5,U3,U5,I9,L6,List.cons_append,List.nil_append]
def bR (x:aB):V:=.agg (iV x)
def kL (x:aB):List V:=(iV x).map V.d
def gG (x:aZ):V:=.agg (uA x)
def cGt (x:aZ):List V:=(uA x).map V.d
def dF (x:aJ):V:=.agg (tY x)
def gD (x:aJ):List V:=(tY x).map V.d
def gJ (x:aX):V:=.agg (jM x)
def aVa (x:aX):List V:=(jM x).map V.d
def fZ (x:aR):V:=.agg (uB x)
def bK1 (x:aR):List V:=(uB x).map V.d
def aL (x:aA):List D:=[(.i .i64 x.kind),(.s (bs x.text)),(.i .i64 x.at_)]
def nT (x:aA):V:=.agg (aL x)
def cFi (x:aA):List V:=(aL x).map V.d
def aJt (x:xY):List D:=[(.sl 3 (x.list.map aL)),(.b x.full)]
def cHi (x:xY):V:=.agg (aJt x)
def cIb (x:xY):List V:=(aJt x).map V.d
def aN3 (x:iM):List D:=[(.b x.op),(.b x.not_),(.b x.value),(.b x.name),(.i .i64 x.least),(.i .i64 x.most),(.i .i64 x.subs)]
def aZq (x:iM):V:=.agg (aN3 x)
def cGe (x:iM):List V:=(aN3 x).map V.d
instance:Enc aA:=⟨aL,aL,(fun _=>rfl)⟩
instance:Enc aB:=⟨bD,iV,iA⟩
instance:Enc aJ:=⟨bZ,tY,rO⟩
instance:Enc aR:=⟨dW,uB,sG⟩
instance:Enc aZ:=⟨cO,uA,rG⟩
instance:Enc aX:=⟨dD,jM,oI⟩
instance:Enc (List UInt8):=⟨cStr,cStr,(fun _=>rfl)⟩
theorem kr {p:Prop} (h:p:=by kernel_rfl):p:=h
def pE (l:List aA):V:=.d (.sl 3 (l.map aL))
def bX (l:List aB):V:=.d (.sl 10 (l.map bD))
def eG (l:List aJ):V:=.d (.sl 6 (l.map bZ))
def dZ (l:List aR):V:=.d (.sl 3 (l.map dW))
def eQ (l:List aZ):V:=.d (.sl 13 (l.map cO))
def eF (l:List aX):V:=.d (.sl 11 (l.map dD))
def aY6 (l:List (List UInt8)):V:=.d (.sl 1 (l.map cStr))
def dL:V:=(.d (.s (bs [])))
def bS:V:=(.d (.i .i64 0))
def dR:V:=(.d (.b false))
def pO:List V:=[dR,dL,bS,bS,dR,bS,bS,dL,dL,dL,(.nil 10),(.nil 6),dL]
def qZ:List V:=[bS,bS,dR,bS,bS,dL,dL,dL,(.nil 10),(.nil 6)]
def wX:List V:=[dR,(.nil 13),(.nil 3),(.nil 10),(.nil 11),bS]
def xD:List V:=[bS,bS,dR,bS,bS,dL,dL,dL,(.nil 10),(.nil 6),dR]
def aZj:List V:=[dR,dR,dR,dR,bS,bS,bS]
def bS3:AC:=(.seq (.ops [.box 1 27 0,.asg 2 (kB false)]) (.seq (.ops [.asg 3 (kI 1048576)]) (.seq (.ops [.ld 11 10 true 1,.mv 12 3,.call (some 13) 4 [11,12],.asg 3 13]) (.seq (.seq (.ops [.mv 14 3,.bin 15 .lss 14 (kI 0)]) (.cond 15 (.seq (.ops [.asg 2 (kB true)]) .ret) .skip)) (.seq (.ops [.ld 16 10 true 1,.call (some 17) 6 [16],.call (some 18) 5 [17],.asg 4 18]) (.seq (.ops [.ld 19 10 true 1,.call (some 20) 6 [19],.alc 5 qZ,.st 10 5 20]) (.seq (.ops [.ld 21 10 true 5,.call (some 22) 7 [21],.asg 6 22]) (.seq (.seq (.ops [.mv 23 6,.mv 24 4,.call (some 25) 8 [23,24],.not 26 25]) (.cond 26 (.seq (.ops [.asg 2 (kB false)]) .ret) .skip)) (.seq (.seq (.dops [[],[],[1],[0,2,2],[3]] [.ld 27 10 true 5,.ld 28 10 true 1,.call (some 29) 6 [28],.call (some 30) 9 [27,29],.not 31 30]) (.cond 31 (.seq (.ops [.asg 2 (kB false)]) .ret) .skip)) (.seq (.ops [.asg 7 (kI 1)]) (.seq (.ops [.ld 32 10 true 5,.mv 33 7,.call (some 34) 10 [32,33],.asg 7 34]) (.seq (.seq (.ops [.mv 35 7,.bin 36 .lss 35 (kI 0),.mv 37 36,.g 37 false (.mv 38 6),.g 37 false (.mv 39 4),.g 37 false (.call (some 40) 8 [38,39]),.g 37 false (.not 41 40),.pick 42 37 (kB true) 41]) (.cond 42 (.seq (.ops [.asg 2 (kB false)]) .ret) .skip)) (.seq (.ops [.asg 8 (kI 1)]) (.seq (.ops [.mv 43 6,.mv 44 8,.call (some 45) 11 [43,44],.asg 8 45]) (.seq (.ops [.asg 9 (kI 1)]) (.seq (.ops [.mv 46 6,.mv 47 9,.call (some 48) 12 [46,47],.asg 9 48]) (.seq (.seq (.ops [.mv 49 9,.bin 50 .lss 49 (kI 0)]) (.cond 50 (.seq (.ops [.asg 2 (kB false)]) .ret) .skip)) (.seq (.seq (.ops [.mv 51 9,.mv 52 8,.bin 53 .neq 51 52]) (.cond 53 (.seq (.ops [.asg 2 (kB false)]) .ret) .skip)) (.seq (.ops [.ld 54 10 true 1,.call (some 55) 6 [54],.call (some 56) 7 [55],.asg 10 56]) (.seq (.seq (.ops [.mv 57 10,.mv 58 4,.call (some 59) 8 [57,58],.not 60 59]) (.cond 60 (.seq (.ops [.asg 2 (kB false)]) .ret) .skip)) (.seq (.ops [.asg 9 (kI 1)]) (.seq (.ops [.mv 61 6,.mv 62 9,.call (some 63) 12 [61,62],.asg 9 63]) (.seq (.seq (.ops [.mv 64 9,.bin 65 .lss 64 (kI 0)]) (.cond 65 (.seq (.ops [.asg 2 (kB false)]) .ret) .skip)) (.seq (.seq (.ops [.mv 66 9,.mv 67 8,.bin 68 .neq 66 67]) (.cond 68 (.seq (.ops [.asg 2 (kB false)]) .ret) .skip)) (.seq (.ops [.asg 2 (kB true)]) .ret)))))))))))))))))))))))))
theorem bPj:bC Tryz.prog 3=some (bS3,[.mv 0 2],69):=by kernel_rfl
def cG9 (r:Bool):Exit→St→Prop:=bA [.mv 0 2] fun x _=>x=(fun y=>(vB y)) r
def aL3:AC:=(.loop (.seq (.seq (.ops [.mv 6 5,.mv 7 0,.len 8 7,.bin 9 .lss 6 8]) (.cond 9 .skip (.exit 0))) (.seq (.block 1 (.seq (.seq (.ops [.mv 12 0,.mv 13 5,.ia 14 3 12 13,.fa 15 0 14,.ld 16 1 false 15,.mv 17 1,.bin 18 .neq 16 17]) (.cond 18 (.seq (.ops [.asg 4 (kI (-1))]) .ret) .skip)) (.seq (.ops [.mv 19 1,.bin 20 .add 19 (kI 1),.asg 1 20]) (.seq (.seq (.dops [[],[],[0,1],[2],[3],[],[5],[4,6]] [.mv 21 0,.mv 22 5,.ia 23 3 21 22,.fa 24 1 23,.ld 25 1 false 24,.mv 26 1,.call (some 27) 29 [26],.bin 28 .neq 25 27]) (.cond 28 (.seq (.ops [.asg 4 (kI (-1))]) .ret) .skip)) (.seq (.ops [.mv 29 1,.bin 30 .add 29 (kI 1),.asg 1 30]) (.seq (.seq (.ops [.mv 31 0,.mv 32 5,.ia 33 3 31 32,.fa 34 2 33,.ld 35 1 false 34,.mv 36 1,.bin 37 .neq 35 36]) (.cond 37 (.seq (.ops [.asg 4 (kI (-1))]) .ret) .skip)) (.ops [.mv 38 1,.bin 39 .add 38 (kI 1),.asg 1 39]))))))) (.ops [.mv 10 5,.bin 11 .add 10 (kI 1),.asg 5 11]))))
def bA0:AC:=(.seq (.ops [.mv 40 1,.asg 4 40]) .ret)
def bFj:AC:=(.seq (.ops [.asg 4 (kI 0)]) (.seq (.seq (.ops [.asg 5 (kI 0)]) (.block 0 aL3)) bA0))
theorem bFf:bC Tryz.prog 12=some (bFj,[.mv 0 4],41):=by kernel_rfl
def aX2 (r:Int):Exit→St→Prop:=bA [.mv 0 4] fun x _=>x=(fun y=>(vI y)) r
def bTc (r:Int):Exit→St→Prop:=(bN (wkK (avc Tryz.prog bA0 (aX2 r))) (aX2 r))
def bNi (r:Int):Exit→St→Prop:=(bP 0 (bTc r))
def bNd (p0:(List aA)) (x1:Int) (x5:Int):St:=⟨[(0,(pE p0)),(1,(vI x1)),(5,(vI x5))],[]⟩
abbrev aDl (p0:(List aA)) (x1:Int) (x5:Int) (r:Int):Prop:=avc Tryz.prog aL3 (bNi r) (bNd p0 x1 x5)
def aPh:AC:=(.loop (.seq (.seq (.ops [.mv 6 0,.bin 7 .gtr 6 (kI 0)]) (.cond 7 .skip (.exit 0))) (.block 1 (.seq (.ops [.mv 8 0,.bin 9 .rem 8 (kI 10),.bin 10 .add (kI 48) 9,.cvi 11 .u8 10,.bsl 12 5 1 [11],.cbs 13 12,.mv 14 3,.bin 15 .add 13 14,.asg 3 15]) (.ops [.mv 16 0,.bin 17 .quo 16 (kI 10),.asg 0 17])))))
def aZr:AC:=(.seq (.ops [.mv 18 3,.bin 19 .add (.c (.d (.s (bs [109])))) 18,.asg 2 19]) .ret)
def cDv:AC:=(.seq (.ops [.asg 2 (.c (.d (.s (bs []))))]) (.seq (.seq (.ops [.mv 4 0,.bin 5 .leq 4 (kI 0)]) (.cond 5 (.seq (.ops [.asg 2 (.c (.d (.s (bs [109,48]))))]) .ret) .skip)) (.seq (.ops [.asg 3 (.c (.d (.s (bs []))))]) (.seq (.block 0 aPh) aZr))))
theorem bJn:bC Tryz.prog 29=some (cDv,[.mv 0 2],20):=by kernel_rfl
def aZ6 (r:(List UInt8)):Exit→St→Prop:=bA [.mv 0 2] fun x _=>x=(fun y=>(vS y)) r
def cDm (r:(List UInt8)):Exit→St→Prop:=(bN (wkK (avc Tryz.prog aZr (aZ6 r))) (aZ6 r))
def bY8 (r:(List UInt8)):Exit→St→Prop:=(bP 0 (cDm r))
def bNu (x0:Int) (x3:(List UInt8)):St:=⟨[(0,(vI x0)),(3,(vS x3))],[]⟩
abbrev aI0 (x0:Int) (x3:(List UInt8)) (r:(List UInt8)):Prop:=avc Tryz.prog aPh (bY8 r) (bNu x0 x3)
def bQs:AC:=(.seq (.ops [.box 1 27 0,.alc 2 qZ]) (.seq (.ops [.alc 3 qZ]) (.seq (.ops [.fa 4 0 1,.ld 5 1 false 4,.fa 6 0 3,.st 1 6 5]) (.seq (.ops [.fa 7 1 1,.ld 8 1 false 7,.fa 9 1 3,.st 1 9 8]) (.seq (.ops [.fa 10 2 1,.ld 11 1 false 10,.fa 12 2 3,.st 1 12 11]) (.seq (.ops [.fa 13 3 1,.ld 14 3 true 13,.call (some 15) 18 [14],.fa 16 3 3,.st 3 16 15]) (.seq (.ops [.fa 17 6 1,.ld 18 1 false 17,.fa 19 6 3,.st 1 19 18]) (.seq (.ops [.fa 20 7 1,.ld 21 1 false 20,.fa 22 7 3,.st 1 22 21]) (.seq (.ops [.fa 23 8 1,.ld 24 1 false 23,.call (some 25) 19 [24],.fa 26 8 3,.st 1 26 25]) (.seq (.ops [.fa 27 9 1,.ld 28 1 false 27,.call (some 29) 20 [28],.fa 30 9 3,.st 1 30 29]) (.seq (.ops [.ld 31 10 true 3,.st 10 2 31]) .ret)))))))))))
theorem bZk:bC Tryz.prog 6=some (bQs,[.ld 0 10 true 2],32):=by kernel_rfl
def cGu (r:aB):Exit→St→Prop:=bA [.ld 0 10 true 2] fun x b=>x=(fun (y:aB)=>(.agv [(vI y.kind),(vI y.op),(vB y.not_),(vI y.value.kind),(vI y.value.num),(vS y.value.text),(vS y.qual),(vS y.name),(.tre 10000008),(.tre 10000009)])) r∧bM ((fun (y:aB)=>[(10000008,[(.trc 10 (y.kids.map bD))]),(10000009,[(.trc 6 (y.sub.map bZ))])]) r) b
def aQc:AC:=(.loop (.seq (.seq (.ops [.mv 8 4,.mv 9 0,.len 10 9,.bin 11 .lss 8 10]) (.cond 11 .skip (.exit 0))) (.seq (.block 1 (.ops [.mv 14 3,.mv 15 4,.mv 16 0,.mv 17 4,.ia 18 10 16 17,.ld 19 10 true 18,.call (some 20) 6 [19],.ia 21 10 14 15,.st 10 21 20])) (.ops [.mv 12 4,.bin 13 .add 12 (kI 1),.asg 4 13]))))
def bCm:AC:=(.seq (.ops [.mv 22 3,.asg 2 22]) .ret)
def bZp:AC:=(.seq (.ops [.asg 2 (.c (.nil 10))]) (.seq (.ops [.mv 5 0,.len 6 5,.mks 7 35 10 136 [(.i .i64 0),(.i .i64 0),(.b false),(.i .i64 0),(.i .i64 0),(.s (bs [])),(.s (bs [])),(.s (bs [])),(.sl 10 []),(.sl 6 [])] 6 6,.asg 3 7]) (.seq (.seq (.ops [.asg 4 (kI 0)]) (.block 0 aQc)) bCm)))
theorem bQk:bC Tryz.prog 19=some (bZp,[.mv 0 2],23):=by kernel_rfl
def aR4 (r:(List aB)):Exit→St→Prop:=bA [.mv 0 2] fun x b=>x=(fun (y:(List aB))=>(.tre 10000000)) r∧bM ((fun (y:(List aB))=>[(10000000,[(.trc 10 (y.map bD))])]) r) b
def bN5 (r:(List aB)):Exit→St→Prop:=(bN (wkK (avc Tryz.prog bCm (aR4 r))) (aR4 r))
def bE6 (r:(List aB)):Exit→St→Prop:=(bP 0 (bN5 r))
def cCa (p0:(List aB)) (x4:Int) (bJ:(List aB)):St:=⟨[(0,(bX p0)),(3,(.tre 60014000)),(4,(vI x4))],[(60014000,[(.trc 10 (bJ.map bD))])]⟩
abbrev aHt (p0:(List aB)) (x4:Int) (bJ:(List aB)) (r:(List aB)):Prop:=avc Tryz.prog aQc (bE6 r) (cCa p0 x4 bJ)
def aKm:AC:=(.loop (.seq (.seq (.ops [.mv 8 4,.mv 9 0,.len 10 9,.bin 11 .lss 8 10]) (.cond 11 .skip (.exit 0))) (.seq (.block 1 (.ops [.mv 14 3,.mv 15 4,.mv 16 0,.mv 17 4,.ia 18 6 16 17,.ld 19 6 true 18,.call (some 20) 42 [19],.ia 21 6 14 15,.st 6 21 20])) (.ops [.mv 12 4,.bin 13 .add 12 (kI 1),.asg 4 13]))))
def bBk:AC:=(.seq (.ops [.mv 22 3,.asg 2 22]) .ret)
def bNs:AC:=(.seq (.ops [.asg 2 (.c (.nil 6))]) (.seq (.ops [.mv 5 0,.len 6 5,.mks 7 79 6 112 [(.b false),(.sl 13 []),(.sl 3 []),(.sl 10 []),(.sl 11 []),(.i .i64 0)] 6 6,.asg 3 7]) (.seq (.seq (.ops [.asg 4 (kI 0)]) (.block 0 aKm)) bBk)))
theorem bSr:bC Tryz.prog 20=some (bNs,[.mv 0 2],23):=by kernel_rfl
def bC9 (r:(List aJ)):Exit→St→Prop:=bA [.mv 0 2] fun x b=>x=(fun (y:(List aJ))=>(.tre 10000000)) r∧bM ((fun (y:(List aJ))=>[(10000000,[(.trc 6 (y.map bZ))])]) r) b
def bHr (r:(List aJ)):Exit→St→Prop:=(bN (wkK (avc Tryz.prog bBk (bC9 r))) (bC9 r))
def bGb (r:(List aJ)):Exit→St→Prop:=(bP 0 (bHr r))
def cAd (p0:(List aJ)) (x4:Int) (bJ:(List aJ)):St:=⟨[(0,(eG p0)),(3,(.tre 60014000)),(4,(vI x4))],[(60014000,[(.trc 6 (bJ.map bZ))])]⟩
abbrev aJk (p0:(List aJ)) (x4:Int) (bJ:(List aJ)) (r:(List aJ)):Prop:=avc Tryz.prog aKm (bGb r) (cAd p0 x4 bJ)
def bGt:AC:=(.seq (.ops [.box 1 68 0,.alc 2 wX]) (.seq (.ops [.alc 3 wX]) (.seq (.ops [.fa 4 0 1,.ld 5 1 false 4,.fa 6 0 3,.st 1 6 5]) (.seq (.ops [.fa 7 1 1,.ld 8 1 false 7,.call (some 9) 77 [8],.fa 10 1 3,.st 1 10 9]) (.seq (.ops [.fa 11 2 1,.ld 12 1 false 11,.call (some 13) 78 [12],.fa 14 2 3,.st 1 14 13]) (.seq (.ops [.fa 15 3 1,.ld 16 1 false 15,.call (some 17) 19 [16],.fa 18 3 3,.st 1 18 17]) (.seq (.ops [.fa 19 4 1,.ld 20 1 false 19,.call (some 21) 79 [20],.fa 22 4 3,.st 1 22 21]) (.seq (.ops [.fa 23 5 1,.ld 24 1 false 23,.fa 25 5 3,.st 1 25 24]) (.seq (.ops [.ld 26 6 true 3,.st 6 2 26]) .ret)))))))))
theorem cD1:bC Tryz.prog 42=some (bGt,[.ld 0 6 true 2],27):=by kernel_rfl
def cHs (r:aJ):Exit→St→Prop:=bA [.ld 0 6 true 2] fun x b=>x=(fun (y:aJ)=>(.agv [(vB y.distinct),(.tre 10000001),(.tre 10000002),(.tre 10000003),(.tre 10000004),(vI y.limit)])) r∧bM ((fun (y:aJ)=>[(10000001,[(.trc 13 (y.items.map cO))]),(10000002,[(.trc 3 (y.from_.map dW))]),(10000003,[(.trc 10 (y.where_.map bD))]),(10000004,[(.trc 11 (y.order.map dD))])]) r) b
def aP3:AC:=(.loop (.seq (.seq (.ops [.mv 8 4,.mv 9 0,.len 10 9,.bin 11 .lss 8 10]) (.cond 11 .skip (.exit 0))) (.seq (.block 1 (.ops [.mv 14 3,.mv 15 4,.mv 16 0,.mv 17 4,.ia 18 3 16 17,.ld 19 3 true 18,.call (some 20) 111 [19],.ia 21 3 14 15,.st 3 21 20])) (.ops [.mv 12 4,.bin 13 .add 12 (kI 1),.asg 4 13]))))
def aTn:AC:=(.seq (.ops [.mv 22 3,.asg 2 22]) .ret)
def bFt:AC:=(.seq (.ops [.asg 2 (.c (.nil 3))]) (.seq (.ops [.mv 5 0,.len 6 5,.mks 7 127 3 56 [(.s (bs [])),(.s (bs [])),(.sl 10 [])] 6 6,.asg 3 7]) (.seq (.seq (.ops [.asg 4 (kI 0)]) (.block 0 aP3)) aTn)))
theorem bDn:bC Tryz.prog 78=some (bFt,[.mv 0 2],23):=by kernel_rfl
def aYe (r:(List aR)):Exit→St→Prop:=bA [.mv 0 2] fun x b=>x=(fun (y:(List aR))=>(.tre 10000000)) r∧bM ((fun (y:(List aR))=>[(10000000,[(.trc 3 (y.map dW))])]) r) b
def bGi (r:(List aR)):Exit→St→Prop:=(bN (wkK (avc Tryz.prog aTn (aYe r))) (aYe r))
def bSw (r:(List aR)):Exit→St→Prop:=(bP 0 (bGi r))
def bUi (p0:(List aR)) (x4:Int) (bJ:(List aR)):St:=⟨[(0,(dZ p0)),(3,(.tre 60014000)),(4,(vI x4))],[(60014000,[(.trc 3 (bJ.map dW))])]⟩
abbrev aJ8 (p0:(List aR)) (x4:Int) (bJ:(List aR)) (r:(List aR)):Prop:=avc Tryz.prog aP3 (bSw r) (bUi p0 x4 bJ)
def bJ4:AC:=(.seq (.ops [.box 1 133 0,.alc 2 [dL,dL,(.nil 10)]]) (.seq (.ops [.alc 3 [dL,dL,(.nil 10)]]) (.seq (.ops [.fa 4 0 1,.ld 5 1 false 4,.fa 6 0 3,.st 1 6 5]) (.seq (.ops [.fa 7 1 1,.ld 8 1 false 7,.fa 9 1 3,.st 1 9 8]) (.seq (.ops [.fa 10 2 1,.ld 11 1 false 10,.call (some 12) 19 [11],.fa 13 2 3,.st 1 13 12]) (.seq (.ops [.ld 14 3 true 3,.st 3 2 14]) .ret))))))
theorem bOd:bC Tryz.prog 111=some (bJ4,[.ld 0 3 true 2],15):=by kernel_rfl
def cI6 (r:aR):Exit→St→Prop:=bA [.ld 0 3 true 2] fun x b=>x=(fun (y:aR)=>(.agv [(vS y.table),(vS y.as_),(.tre 10000002)])) r∧bM ((fun (y:aR)=>[(10000002,[(.trc 10 (y.on_.map bD))])]) r) b
def aQf:AC:=(.loop (.seq (.seq (.ops [.mv 8 4,.mv 9 0,.len 10 9,.bin 11 .lss 8 10]) (.cond 11 .skip (.exit 0))) (.seq (.block 1 (.ops [.mv 14 3,.mv 15 4,.mv 16 0,.mv 17 4,.ia 18 13 16 17,.ld 19 13 true 18,.call (some 20) 110 [19],.ia 21 13 14 15,.st 13 21 20])) (.ops [.mv 12 4,.bin 13 .add 12 (kI 1),.asg 4 13]))))
def aY2:AC:=(.seq (.ops [.mv 22 3,.asg 2 22]) .ret)
def bKi:AC:=(.seq (.ops [.asg 2 (.c (.nil 13))]) (.seq (.ops [.mv 5 0,.len 6 5,.mks 7 104 13 176 [(.b false),(.s (bs [])),(.i .i64 0),(.i .i64 0),(.b false),(.i .i64 0),(.i .i64 0),(.s (bs [])),(.s (bs [])),(.s (bs [])),(.sl 10 []),(.sl 6 []),(.s (bs []))] 6 6,.asg 3 7]) (.seq (.seq (.ops [.asg 4 (kI 0)]) (.block 0 aQf)) aY2)))
theorem bPm:bC Tryz.prog 77=some (bKi,[.mv 0 2],23):=by kernel_rfl
def aUc (r:(List aZ)):Exit→St→Prop:=bA [.mv 0 2] fun x b=>x=(fun (y:(List aZ))=>(.tre 10000000)) r∧bM ((fun (y:(List aZ))=>[(10000000,[(.trc 13 (y.map cO))])]) r) b
def bOm (r:(List aZ)):Exit→St→Prop:=(bN (wkK (avc Tryz.prog aY2 (aUc r))) (aUc r))
def bP9 (r:(List aZ)):Exit→St→Prop:=(bP 0 (bOm r))
def bHi (p0:(List aZ)) (x4:Int) (bJ:(List aZ)):St:=⟨[(0,(eQ p0)),(3,(.tre 60014000)),(4,(vI x4))],[(60014000,[(.trc 13 (bJ.map cO))])]⟩
abbrev aD1 (p0:(List aZ)) (x4:Int) (bJ:(List aZ)) (r:(List aZ)):Prop:=avc Tryz.prog aQf (bP9 r) (bHi p0 x4 bJ)
def bKy:AC:=(.seq (.ops [.box 1 130 0,.alc 2 pO]) (.seq (.ops [.alc 3 pO]) (.seq (.ops [.fa 4 0 1,.ld 5 1 false 4,.fa 6 0 3,.st 1 6 5]) (.seq (.ops [.fa 7 1 1,.ld 8 1 false 7,.fa 9 1 3,.st 1 9 8]) (.seq (.ops [.fa 10 2 1,.ld 11 10 true 10,.call (some 12) 6 [11],.fa 13 2 3,.st 10 13 12]) (.seq (.ops [.fa 14 12 1,.ld 15 1 false 14,.fa 16 12 3,.st 1 16 15]) (.seq (.ops [.ld 17 13 true 3,.st 13 2 17]) .ret)))))))
theorem bT8:bC Tryz.prog 110=some (bKy,[.ld 0 13 true 2],18):=by kernel_rfl
def cE0 (r:aZ):Exit→St→Prop:=bA [.ld 0 13 true 2] fun x b=>x=(fun (y:aZ)=>(.agv [(vB y.star),(vS y.qual),(vI y.expr.kind),(vI y.expr.op),(vB y.expr.not_),(vI y.expr.value.kind),(vI y.expr.value.num),(vS y.expr.value.text),(vS y.expr.qual),(vS y.expr.name),(.tre 10000010),(.tre 10000011),(vS y.as_)])) r∧bM ((fun (y:aZ)=>[(10000010,[(.trc 10 (y.expr.kids.map bD))]),(10000011,[(.trc 6 (y.expr.sub.map bZ))])]) r) b
def aMh:AC:=(.loop (.seq (.seq (.ops [.mv 8 4,.mv 9 0,.len 10 9,.bin 11 .lss 8 10]) (.cond 11 .skip (.exit 0))) (.seq (.block 1 (.ops [.mv 14 3,.mv 15 4,.mv 16 0,.mv 17 4,.ia 18 11 16 17,.ld 19 11 true 18,.call (some 20) 112 [19],.ia 21 11 14 15,.st 11 21 20])) (.ops [.mv 12 4,.bin 13 .add 12 (kI 1),.asg 4 13]))))
def aYy:AC:=(.seq (.ops [.mv 22 3,.asg 2 22]) .ret)
def bE8:AC:=(.seq (.ops [.asg 2 (.c (.nil 11))]) (.seq (.ops [.mv 5 0,.len 6 5,.mks 7 108 11 144 [(.i .i64 0),(.i .i64 0),(.b false),(.i .i64 0),(.i .i64 0),(.s (bs [])),(.s (bs [])),(.s (bs [])),(.sl 10 []),(.sl 6 []),(.b false)] 6 6,.asg 3 7]) (.seq (.seq (.ops [.asg 4 (kI 0)]) (.block 0 aMh)) aYy)))
theorem bW5:bC Tryz.prog 79=some (bE8,[.mv 0 2],23):=by kernel_rfl
def aU4 (r:(List aX)):Exit→St→Prop:=bA [.mv 0 2] fun x b=>x=(fun (y:(List aX))=>(.tre 10000000)) r∧bM ((fun (y:(List aX))=>[(10000000,[(.trc 11 (y.map dD))])]) r) b
def cCh (r:(List aX)):Exit→St→Prop:=(bN (wkK (avc Tryz.prog aYy (aU4 r))) (aU4 r))
def bOc (r:(List aX)):Exit→St→Prop:=(bP 0 (cCh r))
def bJv (p0:(List aX)) (x4:Int) (bJ:(List aX)):St:=⟨[(0,(eF p0)),(3,(.tre 60014000)),(4,(vI x4))],[(60014000,[(.trc 11 (bJ.map dD))])]⟩
abbrev aHn (p0:(List aX)) (x4:Int) (bJ:(List aX)) (r:(List aX)):Prop:=avc Tryz.prog aMh (bOc r) (bJv p0 x4 bJ)
def bOa:AC:=(.seq (.ops [.box 1 136 0,.alc 2 xD]) (.seq (.ops [.alc 3 xD]) (.seq (.ops [.fa 4 0 1,.ld 5 10 true 4,.call (some 6) 6 [5],.fa 7 0 3,.st 10 7 6]) (.seq (.ops [.fa 8 10 1,.ld 9 1 false 8,.fa 10 10 3,.st 1 10 9]) (.seq (.ops [.ld 11 11 true 3,.st 11 2 11]) .ret)))))
theorem cDk:bC Tryz.prog 112=some (bOa,[.ld 0 11 true 2],12):=by kernel_rfl
def cIe (r:aX):Exit→St→Prop:=bA [.ld 0 11 true 2] fun x b=>x=(fun (y:aX)=>(.agv [(vI y.expr.kind),(vI y.expr.op),(vB y.expr.not_),(vI y.expr.value.kind),(vI y.expr.value.num),(vS y.expr.value.text),(vS y.expr.qual),(vS y.expr.name),(.tre 10000008),(.tre 10000009),(vB y.desc)])) r∧bM ((fun (y:aX)=>[(10000008,[(.trc 10 (y.expr.kids.map bD))]),(10000009,[(.trc 6 (y.expr.sub.map bZ))])]) r) b
def bHa:AC:=(.seq (.ops [.box 1 23 0,.alc 2 [bS,bS,dL]]) (.seq (.ops [.alc 3 [bS,bS,dL]]) (.seq (.ops [.fa 4 0 1,.ld 5 1 false 4,.fa 6 0 3,.st 1 6 5]) (.seq (.ops [.fa 7 1 1,.ld 8 1 false 7,.fa 9 1 3,.st 1 9 8]) (.seq (.ops [.fa 10 2 1,.ld 11 1 false 10,.fa 12 2 3,.st 1 12 11]) (.seq (.ops [.ld 13 3 true 3,.st 3 2 13]) .ret))))))
theorem bJk:bC Tryz.prog 18=some (bHa,[.ld 0 3 true 2],14):=by kernel_rfl
def cGc (r:cZ):Exit→St→Prop:=bA [.ld 0 3 true 2] fun x _=>x=(fun y=>(nM y)) r
def bOq:AC:=(.seq (.ops [.box 2 27 0,.asg 4 (kI 0)]) (.seq (.ops [.fa 5 3 2,.ld 6 3 true 5,.mv 7 1,.call (some 8) 13 [6,7],.asg 1 8]) (.seq (.seq (.ops [.mv 9 1,.bin 10 .lss 9 (kI 0)]) (.cond 10 (.seq (.ops [.asg 4 (kI (-1))]) .ret) .skip)) (.seq (.ops [.mv 11 1,.fa 12 6 2,.ld 13 1 false 12,.lns 14 13,.bin 15 .sub 11 14,.asg 1 15]) (.seq (.seq (.ops [.mv 16 1,.bin 17 .lss 16 (kI 0)]) (.cond 17 (.seq (.ops [.asg 4 (kI (-1))]) .ret) .skip)) (.seq (.ops [.mv 18 1,.fa 19 7 2,.ld 20 1 false 19,.lns 21 20,.bin 22 .sub 18 21,.asg 1 22]) (.seq (.seq (.ops [.mv 23 1,.bin 24 .lss 23 (kI 0)]) (.cond 24 (.seq (.ops [.asg 4 (kI (-1))]) .ret) .skip)) (.seq (.ops [.fa 25 8 2,.ld 26 1 false 25,.mv 27 1,.call (some 28) 14 [26,27],.asg 1 28]) (.seq (.seq (.ops [.mv 29 1,.bin 30 .lss 29 (kI 0)]) (.cond 30 (.seq (.ops [.asg 4 (kI (-1))]) .ret) .skip)) (.seq (.ops [.fa 31 9 2,.ld 32 1 false 31,.mv 33 1,.call (some 34) 15 [32,33],.asg 1 34]) (.seq (.seq (.ops [.mv 35 1,.bin 36 .lss 35 (kI 0)]) (.cond 36 (.seq (.ops [.asg 4 (kI (-1))]) .ret) .skip)) (.seq (.ops [.mv 37 1,.asg 4 37]) .ret))))))))))))
theorem bV1:bC Tryz.prog 4=some (bOq,[.mv 0 4],38):=by kernel_rfl
def cHw (r:Int):Exit→St→Prop:=bA [.mv 0 4] fun x _=>x=(fun y=>(vI y)) r
def aKl:AC:=(.loop (.seq (.seq (.ops [.mv 12 5,.mv 13 0,.len 14 13,.bin 15 .lss 12 14]) (.cond 15 .skip (.exit 0))) (.seq (.block 1 (.seq (.ops [.mv 18 0,.mv 19 5,.ia 20 10 18 19,.ld 21 10 true 20,.mv 22 1,.call (some 23) 4 [21,22],.asg 1 23]) (.seq (.ops [.mv 24 1,.bin 25 .lss 24 (kI 0)]) (.cond 25 (.seq (.ops [.asg 4 (kI (-1))]) .ret) .skip)))) (.ops [.mv 16 5,.bin 17 .add 16 (kI 1),.asg 5 17]))))
def bB0:AC:=(.seq (.ops [.mv 26 1,.asg 4 26]) .ret)
def bW0:AC:=(.seq (.ops [.asg 4 (kI 0)]) (.seq (.ops [.mv 6 1,.mv 7 0,.len 8 7,.bin 9 .sub 6 8,.asg 1 9]) (.seq (.seq (.ops [.mv 10 1,.bin 11 .lss 10 (kI 0)]) (.cond 11 (.seq (.ops [.asg 4 (kI (-1))]) .ret) .skip)) (.seq (.seq (.ops [.asg 5 (kI 0)]) (.block 0 aKl)) bB0))))
theorem bDy:bC Tryz.prog 14=some (bW0,[.mv 0 4],27):=by kernel_rfl
def bCi (r:Int):Exit→St→Prop:=bA [.mv 0 4] fun x _=>x=(fun y=>(vI y)) r
def cDr (r:Int):Exit→St→Prop:=(bN (wkK (avc Tryz.prog bB0 (bCi r))) (bCi r))
def bWq (r:Int):Exit→St→Prop:=(bP 0 (cDr r))
def bZv (p0:(List aB)) (x1:Int) (x5:Int):St:=⟨[(0,(bX p0)),(1,(vI x1)),(5,(vI x5))],[]⟩
abbrev aF2 (p0:(List aB)) (x1:Int) (x5:Int) (r:Int):Prop:=avc Tryz.prog aKl (bWq r) (bZv p0 x1 x5)
def bW9:AC:=(.seq (.ops [.box 2 23 0,.asg 4 (kI 0)]) (.seq (.ops [.mv 5 1,.fa 6 2 2,.ld 7 1 false 6,.lns 8 7,.bin 9 .sub 5 8,.asg 1 9]) (.seq (.seq (.ops [.mv 10 1,.bin 11 .lss 10 (kI 0)]) (.cond 11 (.seq (.ops [.asg 4 (kI (-1))]) .ret) .skip)) (.seq (.ops [.mv 12 1,.asg 4 12]) .ret))))
theorem bN6:bC Tryz.prog 13=some (bW9,[.mv 0 4],13):=by kernel_rfl
def cHg (r:Int):Exit→St→Prop:=bA [.mv 0 4] fun x _=>x=(fun y=>(vI y)) r
def aPa:AC:=(.loop (.seq (.seq (.ops [.mv 12 5,.mv 13 0,.len 14 13,.bin 15 .lss 12 14]) (.cond 15 .skip (.exit 0))) (.seq (.block 1 (.seq (.ops [.mv 18 0,.mv 19 5,.ia 20 6 18 19,.ld 21 6 true 20,.mv 22 1,.call (some 23) 30 [21,22],.asg 1 23]) (.seq (.ops [.mv 24 1,.bin 25 .lss 24 (kI 0)]) (.cond 25 (.seq (.ops [.asg 4 (kI (-1))]) .ret) .skip)))) (.ops [.mv 16 5,.bin 17 .add 16 (kI 1),.asg 5 17]))))
def bBt:AC:=(.seq (.ops [.mv 26 1,.asg 4 26]) .ret)
def cDn:AC:=(.seq (.ops [.asg 4 (kI 0)]) (.seq (.ops [.mv 6 1,.mv 7 0,.len 8 7,.bin 9 .sub 6 8,.asg 1 9]) (.seq (.seq (.ops [.mv 10 1,.bin 11 .lss 10 (kI 0)]) (.cond 11 (.seq (.ops [.asg 4 (kI (-1))]) .ret) .skip)) (.seq (.seq (.ops [.asg 5 (kI 0)]) (.block 0 aPa)) bBt))))
theorem bX4:bC Tryz.prog 15=some (cDn,[.mv 0 4],27):=by kernel_rfl
def aWj (r:Int):Exit→St→Prop:=bA [.mv 0 4] fun x _=>x=(fun y=>(vI y)) r
def bYd (r:Int):Exit→St→Prop:=(bN (wkK (avc Tryz.prog bBt (aWj r))) (aWj r))
def bZ4 (r:Int):Exit→St→Prop:=(bP 0 (bYd r))
def bT1 (p0:(List aJ)) (x1:Int) (x5:Int):St:=⟨[(0,(eG p0)),(1,(vI x1)),(5,(vI x5))],[]⟩
abbrev aDw (p0:(List aJ)) (x1:Int) (x5:Int) (r:Int):Prop:=avc Tryz.prog aPa (bZ4 r) (bT1 p0 x1 x5)
def bYr:AC:=(.seq (.ops [.box 2 68 0,.asg 4 (kI 0)]) (.seq (.ops [.fa 5 1 2,.ld 6 1 false 5,.mv 7 1,.call (some 8) 61 [6,7],.asg 1 8]) (.seq (.seq (.ops [.mv 9 1,.bin 10 .lss 9 (kI 0)]) (.cond 10 (.seq (.ops [.asg 4 (kI (-1))]) .ret) .skip)) (.seq (.ops [.fa 11 2 2,.ld 12 1 false 11,.mv 13 1,.call (some 14) 62 [12,13],.asg 1 14]) (.seq (.seq (.ops [.mv 15 1,.bin 16 .lss 15 (kI 0)]) (.cond 16 (.seq (.ops [.asg 4 (kI (-1))]) .ret) .skip)) (.seq (.ops [.fa 17 3 2,.ld 18 1 false 17,.mv 19 1,.call (some 20) 14 [18,19],.asg 1 20]) (.seq (.seq (.ops [.mv 21 1,.bin 22 .lss 21 (kI 0)]) (.cond 22 (.seq (.ops [.asg 4 (kI (-1))]) .ret) .skip)) (.seq (.ops [.fa 23 4 2,.ld 24 1 false 23,.mv 25 1,.call (some 26) 63 [24,25],.asg 1 26]) (.seq (.seq (.ops [.mv 27 1,.bin 28 .lss 27 (kI 0)]) (.cond 28 (.seq (.ops [.asg 4 (kI (-1))]) .ret) .skip)) (.seq (.ops [.mv 29 1,.asg 4 29]) .ret))))))))))
theorem bHd:bC Tryz.prog 30=some (bYr,[.mv 0 4],30):=by kernel_rfl
def cIf (r:Int):Exit→St→Prop:=bA [.mv 0 4] fun x _=>x=(fun y=>(vI y)) r
def aL2:AC:=(.loop (.seq (.seq (.ops [.mv 12 5,.mv 13 0,.len 14 13,.bin 15 .lss 12 14]) (.cond 15 .skip (.exit 0))) (.seq (.block 1 (.seq (.ops [.mv 18 0,.mv 19 5,.ia 20 11 18 19,.ld 21 11 true 20,.mv 22 1,.call (some 23) 101 [21,22],.asg 1 23]) (.seq (.ops [.mv 24 1,.bin 25 .lss 24 (kI 0)]) (.cond 25 (.seq (.ops [.asg 4 (kI (-1))]) .ret) .skip)))) (.ops [.mv 16 5,.bin 17 .add 16 (kI 1),.asg 5 17]))))
def aUf:AC:=(.seq (.ops [.mv 26 1,.asg 4 26]) .ret)
def bWj:AC:=(.seq (.ops [.asg 4 (kI 0)]) (.seq (.ops [.mv 6 1,.mv 7 0,.len 8 7,.bin 9 .sub 6 8,.asg 1 9]) (.seq (.seq (.ops [.mv 10 1,.bin 11 .lss 10 (kI 0)]) (.cond 11 (.seq (.ops [.asg 4 (kI (-1))]) .ret) .skip)) (.seq (.seq (.ops [.asg 5 (kI 0)]) (.block 0 aL2)) aUf))))
theorem bE5:bC Tryz.prog 63=some (bWj,[.mv 0 4],27):=by kernel_rfl
def bCv (r:Int):Exit→St→Prop:=bA [.mv 0 4] fun x _=>x=(fun y=>(vI y)) r
def bHz (r:Int):Exit→St→Prop:=(bN (wkK (avc Tryz.prog aUf (bCv r))) (bCv r))
def bRk (r:Int):Exit→St→Prop:=(bP 0 (bHz r))
def bGo (p0:(List aX)) (x1:Int) (x5:Int):St:=⟨[(0,(eF p0)),(1,(vI x1)),(5,(vI x5))],[]⟩
abbrev aH2 (p0:(List aX)) (x1:Int) (x5:Int) (r:Int):Prop:=avc Tryz.prog aL2 (bRk r) (bGo p0 x1 x5)
def bMt:AC:=(.seq (.ops [.box 2 136 0,.asg 4 (kI 0)]) (.seq (.ops [.fa 5 0 2,.ld 6 10 true 5,.mv 7 1,.call (some 8) 4 [6,7],.asg 1 8]) (.seq (.seq (.ops [.mv 9 1,.bin 10 .lss 9 (kI 0)]) (.cond 10 (.seq (.ops [.asg 4 (kI (-1))]) .ret) .skip)) (.seq (.ops [.mv 11 1,.asg 4 11]) .ret))))
theorem bXz:bC Tryz.prog 101=some (bMt,[.mv 0 4],12):=by kernel_rfl
def cI7 (r:Int):Exit→St→Prop:=bA [.mv 0 4] fun x _=>x=(fun y=>(vI y)) r
def aO4:AC:=(.loop (.seq (.seq (.ops [.mv 12 5,.mv 13 0,.len 14 13,.bin 15 .lss 12 14]) (.cond 15 .skip (.exit 0))) (.seq (.block 1 (.seq (.ops [.mv 18 0,.mv 19 5,.ia 20 3 18 19,.ld 21 3 true 20,.mv 22 1,.call (some 23) 100 [21,22],.asg 1 23]) (.seq (.ops [.mv 24 1,.bin 25 .lss 24 (kI 0)]) (.cond 25 (.seq (.ops [.asg 4 (kI (-1))]) .ret) .skip)))) (.ops [.mv 16 5,.bin 17 .add 16 (kI 1),.asg 5 17]))))
def aWp:AC:=(.seq (.ops [.mv 26 1,.asg 4 26]) .ret)
def cAq:AC:=(.seq (.ops [.asg 4 (kI 0)]) (.seq (.ops [.mv 6 1,.mv 7 0,.len 8 7,.bin 9 .sub 6 8,.asg 1 9]) (.seq (.seq (.ops [.mv 10 1,.bin 11 .lss 10 (kI 0)]) (.cond 11 (.seq (.ops [.asg 4 (kI (-1))]) .ret) .skip)) (.seq (.seq (.ops [.asg 5 (kI 0)]) (.block 0 aO4)) aWp))))
theorem bNv:bC Tryz.prog 62=some (cAq,[.mv 0 4],27):=by kernel_rfl
def aRq (r:Int):Exit→St→Prop:=bA [.mv 0 4] fun x _=>x=(fun y=>(vI y)) r
def bEx (r:Int):Exit→St→Prop:=(bN (wkK (avc Tryz.prog aWp (aRq r))) (aRq r))
def bGh (r:Int):Exit→St→Prop:=(bP 0 (bEx r))
def bS8 (p0:(List aR)) (x1:Int) (x5:Int):St:=⟨[(0,(dZ p0)),(1,(vI x1)),(5,(vI x5))],[]⟩
abbrev aIb (p0:(List aR)) (x1:Int) (x5:Int) (r:Int):Prop:=avc Tryz.prog aO4 (bGh r) (bS8 p0 x1 x5)
def bN1:AC:=(.seq (.ops [.box 2 133 0,.asg 4 (kI 0)]) (.seq (.ops [.mv 5 1,.fa 6 0 2,.ld 7 1 false 6,.lns 8 7,.bin 9 .sub 5 8,.asg 1 9]) (.seq (.seq (.ops [.mv 10 1,.bin 11 .lss 10 (kI 0)]) (.cond 11 (.seq (.ops [.asg 4 (kI (-1))]) .ret) .skip)) (.seq (.ops [.mv 12 1,.fa 13 1 2,.ld 14 1 false 13,.lns 15 14,.bin 16 .sub 12 15,.asg 1 16]) (.seq (.seq (.ops [.mv 17 1,.bin 18 .lss 17 (kI 0)]) (.cond 18 (.seq (.ops [.asg 4 (kI (-1))]) .ret) .skip)) (.seq (.ops [.fa 19 2 2,.ld 20 1 false 19,.mv 21 1,.call (some 22) 14 [20,21],.asg 1 22]) (.seq (.seq (.ops [.mv 23 1,.bin 24 .lss 23 (kI 0)]) (.cond 24 (.seq (.ops [.asg 4 (kI (-1))]) .ret) .skip)) (.seq (.ops [.mv 25 1,.asg 4 25]) .ret))))))))
theorem bL8:bC Tryz.prog 100=some (bN1,[.mv 0 4],26):=by kernel_rfl
def cHu (r:Int):Exit→St→Prop:=bA [.mv 0 4] fun x _=>x=(fun y=>(vI y)) r
def aL4:AC:=(.loop (.seq (.seq (.ops [.mv 12 5,.mv 13 0,.len 14 13,.bin 15 .lss 12 14]) (.cond 15 .skip (.exit 0))) (.seq (.block 1 (.seq (.ops [.mv 18 0,.mv 19 5,.ia 20 13 18 19,.ld 21 13 true 20,.mv 22 1,.call (some 23) 99 [21,22],.asg 1 23]) (.seq (.ops [.mv 24 1,.bin 25 .lss 24 (kI 0)]) (.cond 25 (.seq (.ops [.asg 4 (kI (-1))]) .ret) .skip)))) (.ops [.mv 16 5,.bin 17 .add 16 (kI 1),.asg 5 17]))))
def bB4:AC:=(.seq (.ops [.mv 26 1,.asg 4 26]) .ret)
def bNp:AC:=(.seq (.ops [.asg 4 (kI 0)]) (.seq (.ops [.mv 6 1,.mv 7 0,.len 8 7,.bin 9 .sub 6 8,.asg 1 9]) (.seq (.seq (.ops [.mv 10 1,.bin 11 .lss 10 (kI 0)]) (.cond 11 (.seq (.ops [.asg 4 (kI (-1))]) .ret) .skip)) (.seq (.seq (.ops [.asg 5 (kI 0)]) (.block 0 aL4)) bB4))))
theorem cBn:bC Tryz.prog 61=some (bNp,[.mv 0 4],27):=by kernel_rfl
def aVf (r:Int):Exit→St→Prop:=bA [.mv 0 4] fun x _=>x=(fun y=>(vI y)) r
def bDf (r:Int):Exit→St→Prop:=(bN (wkK (avc Tryz.prog bB4 (aVf r))) (aVf r))
def bNz (r:Int):Exit→St→Prop:=(bP 0 (bDf r))
def bKx (p0:(List aZ)) (x1:Int) (x5:Int):St:=⟨[(0,(eQ p0)),(1,(vI x1)),(5,(vI x5))],[]⟩
abbrev aD0 (p0:(List aZ)) (x1:Int) (x5:Int) (r:Int):Prop:=avc Tryz.prog aL4 (bNz r) (bKx p0 x1 x5)
def bV2:AC:=(.seq (.ops [.box 2 130 0,.asg 4 (kI 0)]) (.seq (.ops [.mv 5 1,.fa 6 1 2,.ld 7 1 false 6,.lns 8 7,.bin 9 .sub 5 8,.asg 1 9]) (.seq (.seq (.ops [.mv 10 1,.bin 11 .lss 10 (kI 0)]) (.cond 11 (.seq (.ops [.asg 4 (kI (-1))]) .ret) .skip)) (.seq (.ops [.fa 12 2 2,.ld 13 10 true 12,.mv 14 1,.call (some 15) 4 [13,14],.asg 1 15]) (.seq (.seq (.ops [.mv 16 1,.bin 17 .lss 16 (kI 0)]) (.cond 17 (.seq (.ops [.asg 4 (kI (-1))]) .ret) .skip)) (.seq (.ops [.mv 18 1,.fa 19 12 2,.ld 20 1 false 19,.lns 21 20,.bin 22 .sub 18 21,.asg 1 22]) (.seq (.seq (.ops [.mv 23 1,.bin 24 .lss 23 (kI 0)]) (.cond 24 (.seq (.ops [.asg 4 (kI (-1))]) .ret) .skip)) (.seq (.ops [.mv 25 1,.asg 4 25]) .ret))))))))
theorem bHt:bC Tryz.prog 99=some (bV2,[.mv 0 4],26):=by kernel_rfl
def cEn (r:Int):Exit→St→Prop:=bA [.mv 0 4] fun x _=>x=(fun y=>(vI y)) r
def bTx:AC:=(.seq (.ops [.box 2 35 0,.box 3 35 1,.asg 4 (kB false)]) (.seq (.seq (.ops [.fa 5 0 2,.ld 6 1 false 5,.fa 7 0 3,.ld 8 1 false 7,.bin 9 .neq 6 8]) (.cond 9 (.seq (.ops [.asg 4 (kB false)]) .ret) .skip)) (.seq (.seq (.ops [.fa 10 1 2,.ld 11 1 false 10,.fa 12 1 3,.ld 13 1 false 12,.bin 14 .neq 11 13]) (.cond 14 (.seq (.ops [.asg 4 (kB false)]) .ret) .skip)) (.seq (.seq (.ops [.fa 15 2 2,.ld 16 1 false 15,.fa 17 2 3,.ld 18 1 false 17,.eqb 19 true 16 18]) (.cond 19 (.seq (.ops [.asg 4 (kB false)]) .ret) .skip)) (.seq (.seq (.ops [.fa 20 3 2,.ld 21 3 true 20,.fa 22 3 3,.ld 23 3 true 22,.call (some 24) 24 [21,23],.not 25 24]) (.cond 25 (.seq (.ops [.asg 4 (kB false)]) .ret) .skip)) (.seq (.seq (.ops [.fa 26 6 2,.ld 27 1 false 26,.fa 28 6 3,.ld 29 1 false 28,.bin 30 .neq 27 29]) (.cond 30 (.seq (.ops [.asg 4 (kB false)]) .ret) .skip)) (.seq (.seq (.ops [.fa 31 7 2,.ld 32 1 false 31,.fa 33 7 3,.ld 34 1 false 33,.bin 35 .neq 32 34]) (.cond 35 (.seq (.ops [.asg 4 (kB false)]) .ret) .skip)) (.seq (.seq (.ops [.fa 36 8 2,.ld 37 1 false 36,.fa 38 8 3,.ld 39 1 false 38,.call (some 40) 25 [37,39],.not 41 40]) (.cond 41 (.seq (.ops [.asg 4 (kB false)]) .ret) .skip)) (.seq (.seq (.ops [.fa 42 9 2,.ld 43 1 false 42,.fa 44 9 3,.ld 45 1 false 44,.call (some 46) 26 [43,45],.not 47 46]) (.cond 47 (.seq (.ops [.asg 4 (kB false)]) .ret) .skip)) (.seq (.ops [.asg 4 (kB true)]) .ret))))))))))
theorem bO9:bC Tryz.prog 9=some (bTx,[.mv 0 4],48):=by kernel_rfl
def cFc (r:Bool):Exit→St→Prop:=bA [.mv 0 4] fun x _=>x=(fun y=>(vB y)) r
def aM0:AC:=(.loop (.seq (.seq (.ops [.mv 11 5,.mv 12 0,.len 13 12,.bin 14 .lss 11 13]) (.cond 14 .skip (.exit 0))) (.seq (.block 1 (.seq (.dops [[],[],[0,1],[2],[],[],[4,5],[6],[3,7],[8]] [.mv 17 0,.mv 18 5,.ia 19 10 17 18,.ld 20 10 true 19,.mv 21 1,.mv 22 5,.ia 23 10 21 22,.ld 24 10 true 23,.call (some 25) 9 [20,24],.not 26 25]) (.cond 26 (.seq (.ops [.asg 4 (kB false)]) .ret) .skip))) (.ops [.mv 15 5,.bin 16 .add 15 (kI 1),.asg 5 16]))))
def aY7:AC:=(.seq (.ops [.asg 4 (kB true)]) .ret)
def bSy:AC:=(.seq (.ops [.asg 4 (kB false)]) (.seq (.seq (.ops [.mv 6 0,.len 7 6,.mv 8 1,.len 9 8,.bin 10 .neq 7 9]) (.cond 10 (.seq (.ops [.asg 4 (kB false)]) .ret) .skip)) (.seq (.seq (.ops [.asg 5 (kI 0)]) (.block 0 aM0)) aY7)))
theorem bLu:bC Tryz.prog 25=some (bSy,[.mv 0 4],27):=by kernel_rfl
def aUs (r:Bool):Exit→St→Prop:=bA [.mv 0 4] fun x _=>x=(fun y=>(vB y)) r
def bWg (r:Bool):Exit→St→Prop:=(bN (wkK (avc Tryz.prog aY7 (aUs r))) (aUs r))
def cCr (r:Bool):Exit→St→Prop:=(bP 0 (bWg r))
def cD7 (p0:(List aB)) (p1:(List aB)) (x5:Int):St:=⟨[(0,(bX p0)),(1,(bX p1)),(5,(vI x5))],[]⟩
abbrev aF9 (p0:(List aB)) (p1:(List aB)) (x5:Int) (r:Bool):Prop:=avc Tryz.prog aM0 (cCr r) (cD7 p0 p1 x5)
def bTh:AC:=(.seq (.ops [.box 2 31 0,.box 3 31 1,.asg 4 (kB false)]) (.seq (.seq (.ops [.fa 5 0 2,.ld 6 1 false 5,.fa 7 0 3,.ld 8 1 false 7,.bin 9 .neq 6 8]) (.cond 9 (.seq (.ops [.asg 4 (kB false)]) .ret) .skip)) (.seq (.seq (.ops [.fa 10 1 2,.ld 11 1 false 10,.fa 12 1 3,.ld 13 1 false 12,.bin 14 .neq 11 13]) (.cond 14 (.seq (.ops [.asg 4 (kB false)]) .ret) .skip)) (.seq (.seq (.ops [.fa 15 2 2,.ld 16 1 false 15,.fa 17 2 3,.ld 18 1 false 17,.bin 19 .neq 16 18]) (.cond 19 (.seq (.ops [.asg 4 (kB false)]) .ret) .skip)) (.seq (.ops [.asg 4 (kB true)]) .ret)))))
theorem bNy:bC Tryz.prog 24=some (bTh,[.mv 0 4],20):=by kernel_rfl
def cIl (r:Bool):Exit→St→Prop:=bA [.mv 0 4] fun x _=>x=(fun y=>(vB y)) r
def aPx:AC:=(.loop (.seq (.seq (.ops [.mv 11 5,.mv 12 0,.len 13 12,.bin 14 .lss 11 13]) (.cond 14 .skip (.exit 0))) (.seq (.block 1 (.seq (.dops [[],[],[0,1],[2],[],[],[4,5],[6],[3,7],[8]] [.mv 17 0,.mv 18 5,.ia 19 6 17 18,.ld 20 6 true 19,.mv 21 1,.mv 22 5,.ia 23 6 21 22,.ld 24 6 true 23,.call (some 25) 57 [20,24],.not 26 25]) (.cond 26 (.seq (.ops [.asg 4 (kB false)]) .ret) .skip))) (.ops [.mv 15 5,.bin 16 .add 15 (kI 1),.asg 5 16]))))
def aV1:AC:=(.seq (.ops [.asg 4 (kB true)]) .ret)
def bSt:AC:=(.seq (.ops [.asg 4 (kB false)]) (.seq (.seq (.ops [.mv 6 0,.len 7 6,.mv 8 1,.len 9 8,.bin 10 .neq 7 9]) (.cond 10 (.seq (.ops [.asg 4 (kB false)]) .ret) .skip)) (.seq (.seq (.ops [.asg 5 (kI 0)]) (.block 0 aPx)) aV1)))
theorem bFl:bC Tryz.prog 26=some (bSt,[.mv 0 4],27):=by kernel_rfl
def bD0 (r:Bool):Exit→St→Prop:=bA [.mv 0 4] fun x _=>x=(fun y=>(vB y)) r
def bIg (r:Bool):Exit→St→Prop:=(bN (wkK (avc Tryz.prog aV1 (bD0 r))) (bD0 r))
def bG8 (r:Bool):Exit→St→Prop:=(bP 0 (bIg r))
def bF6 (p0:(List aJ)) (p1:(List aJ)) (x5:Int):St:=⟨[(0,(eG p0)),(1,(eG p1)),(5,(vI x5))],[]⟩
abbrev aEw (p0:(List aJ)) (p1:(List aJ)) (x5:Int) (r:Bool):Prop:=avc Tryz.prog aPx (bG8 r) (bF6 p0 p1 x5)
def bNh:AC:=(.seq (.ops [.box 2 79 0,.box 3 79 1,.asg 4 (kB false)]) (.seq (.seq (.ops [.fa 5 0 2,.ld 6 1 false 5,.fa 7 0 3,.ld 8 1 false 7,.eqb 9 true 6 8]) (.cond 9 (.seq (.ops [.asg 4 (kB false)]) .ret) .skip)) (.seq (.seq (.ops [.fa 10 1 2,.ld 11 1 false 10,.fa 12 1 3,.ld 13 1 false 12,.call (some 14) 96 [11,13],.not 15 14]) (.cond 15 (.seq (.ops [.asg 4 (kB false)]) .ret) .skip)) (.seq (.seq (.ops [.fa 16 2 2,.ld 17 1 false 16,.fa 18 2 3,.ld 19 1 false 18,.call (some 20) 97 [17,19],.not 21 20]) (.cond 21 (.seq (.ops [.asg 4 (kB false)]) .ret) .skip)) (.seq (.seq (.ops [.fa 22 3 2,.ld 23 1 false 22,.fa 24 3 3,.ld 25 1 false 24,.call (some 26) 25 [23,25],.not 27 26]) (.cond 27 (.seq (.ops [.asg 4 (kB false)]) .ret) .skip)) (.seq (.seq (.ops [.fa 28 4 2,.ld 29 1 false 28,.fa 30 4 3,.ld 31 1 false 30,.call (some 32) 98 [29,31],.not 33 32]) (.cond 33 (.seq (.ops [.asg 4 (kB false)]) .ret) .skip)) (.seq (.seq (.ops [.fa 34 5 2,.ld 35 1 false 34,.fa 36 5 3,.ld 37 1 false 36,.bin 38 .neq 35 37]) (.cond 38 (.seq (.ops [.asg 4 (kB false)]) .ret) .skip)) (.seq (.ops [.asg 4 (kB true)]) .ret))))))))
theorem bJ2:bC Tryz.prog 57=some (bNh,[.mv 0 4],39):=by kernel_rfl
def cFy (r:Bool):Exit→St→Prop:=bA [.mv 0 4] fun x _=>x=(fun y=>(vB y)) r
def aPm:AC:=(.loop (.seq (.seq (.ops [.mv 11 5,.mv 12 0,.len 13 12,.bin 14 .lss 11 13]) (.cond 14 .skip (.exit 0))) (.seq (.block 1 (.seq (.dops [[],[],[0,1],[2],[],[],[4,5],[6],[3,7],[8]] [.mv 17 0,.mv 18 5,.ia 19 13 17 18,.ld 20 13 true 19,.mv 21 1,.mv 22 5,.ia 23 13 21 22,.ld 24 13 true 23,.call (some 25) 131 [20,24],.not 26 25]) (.cond 26 (.seq (.ops [.asg 4 (kB false)]) .ret) .skip))) (.ops [.mv 15 5,.bin 16 .add 15 (kI 1),.asg 5 16]))))
def bBf:AC:=(.seq (.ops [.asg 4 (kB true)]) .ret)
def bUh:AC:=(.seq (.ops [.asg 4 (kB false)]) (.seq (.seq (.ops [.mv 6 0,.len 7 6,.mv 8 1,.len 9 8,.bin 10 .neq 7 9]) (.cond 10 (.seq (.ops [.asg 4 (kB false)]) .ret) .skip)) (.seq (.seq (.ops [.asg 5 (kI 0)]) (.block 0 aPm)) bBf)))
theorem bVi:bC Tryz.prog 96=some (bUh,[.mv 0 4],27):=by kernel_rfl
def aVj (r:Bool):Exit→St→Prop:=bA [.mv 0 4] fun x _=>x=(fun y=>(vB y)) r
def bFr (r:Bool):Exit→St→Prop:=(bN (wkK (avc Tryz.prog bBf (aVj r))) (aVj r))
def bLw (r:Bool):Exit→St→Prop:=(bP 0 (bFr r))
def bM6 (p0:(List aZ)) (p1:(List aZ)) (x5:Int):St:=⟨[(0,(eQ p0)),(1,(eQ p1)),(5,(vI x5))],[]⟩
abbrev aHj (p0:(List aZ)) (p1:(List aZ)) (x5:Int) (r:Bool):Prop:=avc Tryz.prog aPm (bLw r) (bM6 p0 p1 x5)
def bH7:AC:=(.seq (.ops [.box 2 104 0,.box 3 104 1,.asg 4 (kB false)]) (.seq (.seq (.ops [.fa 5 0 2,.ld 6 1 false 5,.fa 7 0 3,.ld 8 1 false 7,.eqb 9 true 6 8]) (.cond 9 (.seq (.ops [.asg 4 (kB false)]) .ret) .skip)) (.seq (.seq (.ops [.fa 10 1 2,.ld 11 1 false 10,.fa 12 1 3,.ld 13 1 false 12,.bin 14 .neq 11 13]) (.cond 14 (.seq (.ops [.asg 4 (kB false)]) .ret) .skip)) (.seq (.seq (.ops [.fa 15 2 2,.ld 16 10 true 15,.fa 17 2 3,.ld 18 10 true 17,.call (some 19) 9 [16,18],.not 20 19]) (.cond 20 (.seq (.ops [.asg 4 (kB false)]) .ret) .skip)) (.seq (.seq (.ops [.fa 21 12 2,.ld 22 1 false 21,.fa 23 12 3,.ld 24 1 false 23,.bin 25 .neq 22 24]) (.cond 25 (.seq (.ops [.asg 4 (kB false)]) .ret) .skip)) (.seq (.ops [.asg 4 (kB true)]) .ret))))))
theorem bQl:bC Tryz.prog 131=some (bH7,[.mv 0 4],26):=by kernel_rfl
def cEz (r:Bool):Exit→St→Prop:=bA [.mv 0 4] fun x _=>x=(fun y=>(vB y)) r
def aLs:AC:=(.loop (.seq (.seq (.ops [.mv 11 5,.mv 12 0,.len 13 12,.bin 14 .lss 11 13]) (.cond 14 .skip (.exit 0))) (.seq (.block 1 (.seq (.dops [[],[],[0,1],[2],[],[],[4,5],[6],[3,7],[8]] [.mv 17 0,.mv 18 5,.ia 19 11 17 18,.ld 20 11 true 19,.mv 21 1,.mv 22 5,.ia 23 11 21 22,.ld 24 11 true 23,.call (some 25) 133 [20,24],.not 26 25]) (.cond 26 (.seq (.ops [.asg 4 (kB false)]) .ret) .skip))) (.ops [.mv 15 5,.bin 16 .add 15 (kI 1),.asg 5 16]))))
def aWg:AC:=(.seq (.ops [.asg 4 (kB true)]) .ret)
def bZ5:AC:=(.seq (.ops [.asg 4 (kB false)]) (.seq (.seq (.ops [.mv 6 0,.len 7 6,.mv 8 1,.len 9 8,.bin 10 .neq 7 9]) (.cond 10 (.seq (.ops [.asg 4 (kB false)]) .ret) .skip)) (.seq (.seq (.ops [.asg 5 (kI 0)]) (.block 0 aLs)) aWg)))
theorem bEz:bC Tryz.prog 98=some (bZ5,[.mv 0 4],27):=by kernel_rfl
def aSw (r:Bool):Exit→St→Prop:=bA [.mv 0 4] fun x _=>x=(fun y=>(vB y)) r
def bEm (r:Bool):Exit→St→Prop:=(bN (wkK (avc Tryz.prog aWg (aSw r))) (aSw r))
def bGx (r:Bool):Exit→St→Prop:=(bP 0 (bEm r))
def cDq (p0:(List aX)) (p1:(List aX)) (x5:Int):St:=⟨[(0,(eF p0)),(1,(eF p1)),(5,(vI x5))],[]⟩
abbrev aGm (p0:(List aX)) (p1:(List aX)) (x5:Int) (r:Bool):Prop:=avc Tryz.prog aLs (bGx r) (cDq p0 p1 x5)
def bEr:AC:=(.seq (.ops [.box 2 108 0,.box 3 108 1,.asg 4 (kB false)]) (.seq (.seq (.ops [.fa 5 0 2,.ld 6 10 true 5,.fa 7 0 3,.ld 8 10 true 7,.call (some 9) 9 [6,8],.not 10 9]) (.cond 10 (.seq (.ops [.asg 4 (kB false)]) .ret) .skip)) (.seq (.seq (.ops [.fa 11 10 2,.ld 12 1 false 11,.fa 13 10 3,.ld 14 1 false 13,.eqb 15 true 12 14]) (.cond 15 (.seq (.ops [.asg 4 (kB false)]) .ret) .skip)) (.seq (.ops [.asg 4 (kB true)]) .ret))))
theorem bXn:bC Tryz.prog 133=some (bEr,[.mv 0 4],16):=by kernel_rfl
def cG2 (r:Bool):Exit→St→Prop:=bA [.mv 0 4] fun x _=>x=(fun y=>(vB y)) r
def aPr:AC:=(.loop (.seq (.seq (.ops [.mv 11 5,.mv 12 0,.len 13 12,.bin 14 .lss 11 13]) (.cond 14 .skip (.exit 0))) (.seq (.block 1 (.seq (.dops [[],[],[0,1],[2],[],[],[4,5],[6],[3,7],[8]] [.mv 17 0,.mv 18 5,.ia 19 3 17 18,.ld 20 3 true 19,.mv 21 1,.mv 22 5,.ia 23 3 21 22,.ld 24 3 true 23,.call (some 25) 132 [20,24],.not 26 25]) (.cond 26 (.seq (.ops [.asg 4 (kB false)]) .ret) .skip))) (.ops [.mv 15 5,.bin 16 .add 15 (kI 1),.asg 5 16]))))
def bAg:AC:=(.seq (.ops [.asg 4 (kB true)]) .ret)
def bO0:AC:=(.seq (.ops [.asg 4 (kB false)]) (.seq (.seq (.ops [.mv 6 0,.len 7 6,.mv 8 1,.len 9 8,.bin 10 .neq 7 9]) (.cond 10 (.seq (.ops [.asg 4 (kB false)]) .ret) .skip)) (.seq (.seq (.ops [.asg 5 (kI 0)]) (.block 0 aPr)) bAg)))
theorem bOi:bC Tryz.prog 97=some (bO0,[.mv 0 4],27):=by kernel_rfl
def aWz (r:Bool):Exit→St→Prop:=bA [.mv 0 4] fun x _=>x=(fun y=>(vB y)) r
def cBx (r:Bool):Exit→St→Prop:=(bN (wkK (avc Tryz.prog bAg (aWz r))) (aWz r))
def bTt (r:Bool):Exit→St→Prop:=(bP 0 (cBx r))
def bH8 (p0:(List aR)) (p1:(List aR)) (x5:Int):St:=⟨[(0,(dZ p0)),(1,(dZ p1)),(5,(vI x5))],[]⟩
abbrev aG5 (p0:(List aR)) (p1:(List aR)) (x5:Int) (r:Bool):Prop:=avc Tryz.prog aPr (bTt r) (bH8 p0 p1 x5)
def bT3:AC:=(.seq (.ops [.box 2 127 0,.box 3 127 1,.asg 4 (kB false)]) (.seq (.seq (.ops [.fa 5 0 2,.ld 6 1 false 5,.fa 7 0 3,.ld 8 1 false 7,.bin 9 .neq 6 8]) (.cond 9 (.seq (.ops [.asg 4 (kB false)]) .ret) .skip)) (.seq (.seq (.ops [.fa 10 1 2,.ld 11 1 false 10,.fa 12 1 3,.ld 13 1 false 12,.bin 14 .neq 11 13]) (.cond 14 (.seq (.ops [.asg 4 (kB false)]) .ret) .skip)) (.seq (.seq (.ops [.fa 15 2 2,.ld 16 1 false 15,.fa 17 2 3,.ld 18 1 false 17,.call (some 19) 25 [16,18],.not 20 19]) (.cond 20 (.seq (.ops [.asg 4 (kB false)]) .ret) .skip)) (.seq (.ops [.asg 4 (kB true)]) .ret)))))
theorem cCq:bC Tryz.prog 132=some (bT3,[.mv 0 4],21):=by kernel_rfl
def cEp (r:Bool):Exit→St→Prop:=bA [.mv 0 4] fun x _=>x=(fun y=>(vB y)) r
def bZc:AC:=(.seq (.ops [.box 2 35 0,.asg 4 (kI 0)]) (.seq (.ops [.fa 5 8 2,.ld 6 1 false 5,.mv 7 1,.call (some 8) 27 [6,7],.asg 1 8]) (.seq (.ops [.fa 9 9 2,.ld 10 1 false 9,.mv 11 1,.call (some 12) 28 [10,11],.asg 1 12]) (.seq (.ops [.mv 13 1,.asg 4 13]) .ret))))
theorem bWr:bC Tryz.prog 10=some (bZc,[.mv 0 4],14):=by kernel_rfl
def cH4 (r:Int×(List aB)×(List aJ)):Exit→St→Prop:=bA [.mv 0 4] fun x b=>x=(fun (y:Int×(List aB)×(List aJ))=>(vI y.1)) r∧bM ((fun (y:Int×(List aB)×(List aJ))=>[(3000008,[(.trc 10 (y.2.1.map bD))]),(3000009,[(.trc 6 (y.2.2.map bZ))])]) r) b
def aM1:AC:=(.loop (.seq (.seq (.ops [.mv 6 5,.mv 7 0,.len 8 7,.bin 9 .lss 6 8]) (.cond 9 .skip (.exit 0))) (.seq (.block 1 (.seq (.ops [.mv 12 0,.mv 13 5,.mv 14 1,.bin 15 .rem 14 (kI 3),.bin 16 .eql 15 (kI 0),.ia 17 6 12 13,.fa 18 0 17,.st 1 18 16]) (.seq (.ops [.mv 19 1,.bin 20 .add 19 (kI 1),.asg 1 20]) (.seq (.ops [.mv 21 0,.mv 22 5,.ia 23 6 21 22,.fa 24 1 23,.ld 25 1 false 24,.mv 26 1,.call (some 27) 58 [25,26],.asg 1 27]) (.seq (.ops [.mv 28 0,.mv 29 5,.ia 30 6 28 29,.fa 31 2 30,.ld 32 1 false 31,.mv 33 1,.call (some 34) 59 [32,33],.asg 1 34]) (.seq (.ops [.mv 35 0,.mv 36 5,.ia 37 6 35 36,.fa 38 3 37,.ld 39 1 false 38,.mv 40 1,.call (some 41) 27 [39,40],.asg 1 41]) (.seq (.ops [.mv 42 0,.mv 43 5,.ia 44 6 42 43,.fa 45 4 44,.ld 46 1 false 45,.mv 47 1,.call (some 48) 60 [46,47],.asg 1 48]) (.seq (.ops [.mv 49 0,.mv 50 5,.mv 51 1,.ia 52 6 49 50,.fa 53 5 52,.st 1 53 51]) (.ops [.mv 54 1,.bin 55 .add 54 (kI 1),.asg 1 55]))))))))) (.ops [.mv 10 5,.bin 11 .add 10 (kI 1),.asg 5 11]))))
def bC7:AC:=(.seq (.ops [.mv 56 1,.asg 4 56]) .ret)
def cC8:AC:=(.seq (.ops [.asg 4 (kI 0)]) (.seq (.seq (.ops [.asg 5 (kI 0)]) (.block 0 aM1)) bC7))
theorem bPq:bC Tryz.prog 28=some (cC8,[.mv 0 4],57):=by kernel_rfl
def bBy (r:Int×(List aJ)):Exit→St→Prop:=bA [.mv 0 4] fun x b=>x=(fun (y:Int×(List aJ))=>(vI y.1)) r∧bM ((fun (y:Int×(List aJ))=>[(3000000,[(.trc 6 (y.2.map bZ))])]) r) b
def bR8 (r:Int×(List aJ)):Exit→St→Prop:=(bN (wkK (avc Tryz.prog bC7 (bBy r))) (bBy r))
def bQm (r:Int×(List aJ)):Exit→St→Prop:=(bP 0 (bR8 r))
def bDb (x1:Int) (x5:Int) (aU:(List aJ)):St:=⟨[(0,(.tre 3000000)),(1,(vI x1)),(5,(vI x5))],[(3000000,[(.trc 6 (aU.map bZ))])]⟩
abbrev aFi (x1:Int) (x5:Int) (aU:(List aJ)) (r:Int×(List aJ)):Prop:=avc Tryz.prog aM1 (bQm r) (bDb x1 x5 aU)
def aQi:AC:=(.loop (.seq (.seq (.ops [.mv 6 5,.mv 7 0,.len 8 7,.bin 9 .lss 6 8]) (.cond 9 .skip (.exit 0))) (.seq (.block 1 (.seq (.ops [.mv 12 0,.mv 13 5,.mv 14 1,.bin 15 .rem 14 (kI 3),.bin 16 .eql 15 (kI 0),.ia 17 13 12 13,.fa 18 0 17,.st 1 18 16]) (.seq (.ops [.mv 19 1,.bin 20 .add 19 (kI 1),.asg 1 20]) (.seq (.ops [.mv 21 0,.mv 22 5,.mv 23 1,.call (some 24) 29 [23],.ia 25 13 21 22,.fa 26 1 25,.st 1 26 24]) (.seq (.ops [.mv 27 1,.bin 28 .add 27 (kI 1),.asg 1 28]) (.seq (.ops [.mv 29 0,.mv 30 5,.mv 31 1,.ia 32 13 29 30,.fa 33 2 32,.fa 34 0 33,.st 1 34 31]) (.seq (.ops [.mv 35 1,.bin 36 .add 35 (kI 1),.asg 1 36]) (.seq (.ops [.mv 37 0,.mv 38 5,.mv 39 1,.ia 40 13 37 38,.fa 41 2 40,.fa 42 1 41,.st 1 42 39]) (.seq (.ops [.mv 43 1,.bin 44 .add 43 (kI 1),.asg 1 44]) (.seq (.ops [.mv 45 0,.mv 46 5,.mv 47 1,.bin 48 .rem 47 (kI 3),.bin 49 .eql 48 (kI 0),.ia 50 13 45 46,.fa 51 2 50,.fa 52 2 51,.st 1 52 49]) (.seq (.ops [.mv 53 1,.bin 54 .add 53 (kI 1),.asg 1 54]) (.seq (.ops [.mv 55 0,.mv 56 5,.mv 57 1,.ia 58 13 55 56,.fa 59 2 58,.fa 60 3 59,.fa 61 0 60,.st 1 61 57]) (.seq (.ops [.mv 62 1,.bin 63 .add 62 (kI 1),.asg 1 63]) (.seq (.ops [.mv 64 0,.mv 65 5,.mv 66 1,.ia 67 13 64 65,.fa 68 2 67,.fa 69 3 68,.fa 70 1 69,.st 1 70 66]) (.seq (.ops [.mv 71 1,.bin 72 .add 71 (kI 1),.asg 1 72]) (.seq (.ops [.mv 73 0,.mv 74 5,.mv 75 1,.call (some 76) 29 [75],.ia 77 13 73 74,.fa 78 2 77,.fa 79 3 78,.fa 80 2 79,.st 1 80 76]) (.seq (.ops [.mv 81 1,.bin 82 .add 81 (kI 1),.asg 1 82]) (.seq (.ops [.mv 83 0,.mv 84 5,.mv 85 1,.call (some 86) 29 [85],.ia 87 13 83 84,.fa 88 2 87,.fa 89 6 88,.st 1 89 86]) (.seq (.ops [.mv 90 1,.bin 91 .add 90 (kI 1),.asg 1 91]) (.seq (.ops [.mv 92 0,.mv 93 5,.mv 94 1,.call (some 95) 29 [94],.ia 96 13 92 93,.fa 97 2 96,.fa 98 7 97,.st 1 98 95]) (.seq (.ops [.mv 99 1,.bin 100 .add 99 (kI 1),.asg 1 100]) (.seq (.ops [.mv 101 0,.mv 102 5,.ia 103 13 101 102,.fa 104 2 103,.fa 105 8 104,.ld 106 1 false 105,.mv 107 1,.call (some 108) 27 [106,107],.asg 1 108]) (.seq (.ops [.mv 109 0,.mv 110 5,.ia 111 13 109 110,.fa 112 2 111,.fa 113 9 112,.ld 114 1 false 113,.mv 115 1,.call (some 116) 28 [114,115],.asg 1 116]) (.seq (.ops [.mv 117 0,.mv 118 5,.mv 119 1,.call (some 120) 29 [119],.ia 121 13 117 118,.fa 122 12 121,.st 1 122 120]) (.ops [.mv 123 1,.bin 124 .add 123 (kI 1),.asg 1 124]))))))))))))))))))))))))) (.ops [.mv 10 5,.bin 11 .add 10 (kI 1),.asg 5 11]))))
def aT5:AC:=(.seq (.ops [.mv 125 1,.asg 4 125]) .ret)
def bLp:AC:=(.seq (.ops [.asg 4 (kI 0)]) (.seq (.seq (.ops [.asg 5 (kI 0)]) (.block 0 aQi)) aT5))
theorem bMg:bC Tryz.prog 58=some (bLp,[.mv 0 4],126):=by kernel_rfl
def aT8 (r:Int×(List aZ)):Exit→St→Prop:=bA [.mv 0 4] fun x b=>x=(fun (y:Int×(List aZ))=>(vI y.1)) r∧bM ((fun (y:Int×(List aZ))=>[(3000000,[(.trc 13 (y.2.map cO))])]) r) b
def bWt (r:Int×(List aZ)):Exit→St→Prop:=(bN (wkK (avc Tryz.prog aT5 (aT8 r))) (aT8 r))
def bKw (r:Int×(List aZ)):Exit→St→Prop:=(bP 0 (bWt r))
def bAw (x1:Int) (x5:Int) (aU:(List aZ)):St:=⟨[(0,(.tre 3000000)),(1,(vI x1)),(5,(vI x5))],[(3000000,[(.trc 13 (aU.map cO))])]⟩
abbrev aFh (x1:Int) (x5:Int) (aU:(List aZ)) (r:Int×(List aZ)):Prop:=avc Tryz.prog aQi (bKw r) (bAw x1 x5 aU)
def aKz:AC:=(.loop (.seq (.seq (.ops [.mv 6 5,.mv 7 0,.len 8 7,.bin 9 .lss 6 8]) (.cond 9 .skip (.exit 0))) (.seq (.block 1 (.seq (.ops [.mv 12 0,.mv 13 5,.mv 14 1,.ia 15 10 12 13,.fa 16 0 15,.st 1 16 14]) (.seq (.ops [.mv 17 1,.bin 18 .add 17 (kI 1),.asg 1 18]) (.seq (.ops [.mv 19 0,.mv 20 5,.mv 21 1,.ia 22 10 19 20,.fa 23 1 22,.st 1 23 21]) (.seq (.ops [.mv 24 1,.bin 25 .add 24 (kI 1),.asg 1 25]) (.seq (.ops [.mv 26 0,.mv 27 5,.mv 28 1,.bin 29 .rem 28 (kI 3),.bin 30 .eql 29 (kI 0),.ia 31 10 26 27,.fa 32 2 31,.st 1 32 30]) (.seq (.ops [.mv 33 1,.bin 34 .add 33 (kI 1),.asg 1 34]) (.seq (.ops [.mv 35 0,.mv 36 5,.mv 37 1,.ia 38 10 35 36,.fa 39 3 38,.fa 40 0 39,.st 1 40 37]) (.seq (.ops [.mv 41 1,.bin 42 .add 41 (kI 1),.asg 1 42]) (.seq (.ops [.mv 43 0,.mv 44 5,.mv 45 1,.ia 46 10 43 44,.fa 47 3 46,.fa 48 1 47,.st 1 48 45]) (.seq (.ops [.mv 49 1,.bin 50 .add 49 (kI 1),.asg 1 50]) (.seq (.ops [.mv 51 0,.mv 52 5,.mv 53 1,.call (some 54) 29 [53],.ia 55 10 51 52,.fa 56 3 55,.fa 57 2 56,.st 1 57 54]) (.seq (.ops [.mv 58 1,.bin 59 .add 58 (kI 1),.asg 1 59]) (.seq (.ops [.mv 60 0,.mv 61 5,.mv 62 1,.call (some 63) 29 [62],.ia 64 10 60 61,.fa 65 6 64,.st 1 65 63]) (.seq (.ops [.mv 66 1,.bin 67 .add 66 (kI 1),.asg 1 67]) (.seq (.ops [.mv 68 0,.mv 69 5,.mv 70 1,.call (some 71) 29 [70],.ia 72 10 68 69,.fa 73 7 72,.st 1 73 71]) (.seq (.ops [.mv 74 1,.bin 75 .add 74 (kI 1),.asg 1 75]) (.seq (.ops [.mv 76 0,.mv 77 5,.ia 78 10 76 77,.fa 79 8 78,.ld 80 1 false 79,.mv 81 1,.call (some 82) 27 [80,81],.asg 1 82]) (.ops [.mv 83 0,.mv 84 5,.ia 85 10 83 84,.fa 86 9 85,.ld 87 1 false 86,.mv 88 1,.call (some 89) 28 [87,88],.asg 1 89]))))))))))))))))))) (.ops [.mv 10 5,.bin 11 .add 10 (kI 1),.asg 5 11]))))
def aSf:AC:=(.seq (.ops [.mv 90 1,.asg 4 90]) .ret)
def bK8:AC:=(.seq (.ops [.asg 4 (kI 0)]) (.seq (.seq (.ops [.asg 5 (kI 0)]) (.block 0 aKz)) aSf))
theorem bSd:bC Tryz.prog 27=some (bK8,[.mv 0 4],91):=by kernel_rfl
def aUp (r:Int×(List aB)):Exit→St→Prop:=bA [.mv 0 4] fun x b=>x=(fun (y:Int×(List aB))=>(vI y.1)) r∧bM ((fun (y:Int×(List aB))=>[(3000000,[(.trc 10 (y.2.map bD))])]) r) b
def bDo (r:Int×(List aB)):Exit→St→Prop:=(bN (wkK (avc Tryz.prog aSf (aUp r))) (aUp r))
def bXy (r:Int×(List aB)):Exit→St→Prop:=(bP 0 (bDo r))
def aUv (x1:Int) (x5:Int) (aU:(List aB)):St:=⟨[(0,(.tre 3000000)),(1,(vI x1)),(5,(vI x5))],[(3000000,[(.trc 10 (aU.map bD))])]⟩
abbrev aIz (x1:Int) (x5:Int) (aU:(List aB)) (r:Int×(List aB)):Prop:=avc Tryz.prog aKz (bXy r) (aUv x1 x5 aU)
def aL5:AC:=(.loop (.seq (.seq (.ops [.mv 6 5,.mv 7 0,.len 8 7,.bin 9 .lss 6 8]) (.cond 9 .skip (.exit 0))) (.seq (.block 1 (.seq (.ops [.mv 12 0,.mv 13 5,.mv 14 1,.ia 15 11 12 13,.fa 16 0 15,.fa 17 0 16,.st 1 17 14]) (.seq (.ops [.mv 18 1,.bin 19 .add 18 (kI 1),.asg 1 19]) (.seq (.ops [.mv 20 0,.mv 21 5,.mv 22 1,.ia 23 11 20 21,.fa 24 0 23,.fa 25 1 24,.st 1 25 22]) (.seq (.ops [.mv 26 1,.bin 27 .add 26 (kI 1),.asg 1 27]) (.seq (.ops [.mv 28 0,.mv 29 5,.mv 30 1,.bin 31 .rem 30 (kI 3),.bin 32 .eql 31 (kI 0),.ia 33 11 28 29,.fa 34 0 33,.fa 35 2 34,.st 1 35 32]) (.seq (.ops [.mv 36 1,.bin 37 .add 36 (kI 1),.asg 1 37]) (.seq (.ops [.mv 38 0,.mv 39 5,.mv 40 1,.ia 41 11 38 39,.fa 42 0 41,.fa 43 3 42,.fa 44 0 43,.st 1 44 40]) (.seq (.ops [.mv 45 1,.bin 46 .add 45 (kI 1),.asg 1 46]) (.seq (.ops [.mv 47 0,.mv 48 5,.mv 49 1,.ia 50 11 47 48,.fa 51 0 50,.fa 52 3 51,.fa 53 1 52,.st 1 53 49]) (.seq (.ops [.mv 54 1,.bin 55 .add 54 (kI 1),.asg 1 55]) (.seq (.ops [.mv 56 0,.mv 57 5,.mv 58 1,.call (some 59) 29 [58],.ia 60 11 56 57,.fa 61 0 60,.fa 62 3 61,.fa 63 2 62,.st 1 63 59]) (.seq (.ops [.mv 64 1,.bin 65 .add 64 (kI 1),.asg 1 65]) (.seq (.ops [.mv 66 0,.mv 67 5,.mv 68 1,.call (some 69) 29 [68],.ia 70 11 66 67,.fa 71 0 70,.fa 72 6 71,.st 1 72 69]) (.seq (.ops [.mv 73 1,.bin 74 .add 73 (kI 1),.asg 1 74]) (.seq (.ops [.mv 75 0,.mv 76 5,.mv 77 1,.call (some 78) 29 [77],.ia 79 11 75 76,.fa 80 0 79,.fa 81 7 80,.st 1 81 78]) (.seq (.ops [.mv 82 1,.bin 83 .add 82 (kI 1),.asg 1 83]) (.seq (.ops [.mv 84 0,.mv 85 5,.ia 86 11 84 85,.fa 87 0 86,.fa 88 8 87,.ld 89 1 false 88,.mv 90 1,.call (some 91) 27 [89,90],.asg 1 91]) (.seq (.ops [.mv 92 0,.mv 93 5,.ia 94 11 92 93,.fa 95 0 94,.fa 96 9 95,.ld 97 1 false 96,.mv 98 1,.call (some 99) 28 [97,98],.asg 1 99]) (.seq (.ops [.mv 100 0,.mv 101 5,.mv 102 1,.bin 103 .rem 102 (kI 3),.bin 104 .eql 103 (kI 0),.ia 105 11 100 101,.fa 106 10 105,.st 1 106 104]) (.ops [.mv 107 1,.bin 108 .add 107 (kI 1),.asg 1 108]))))))))))))))))))))) (.ops [.mv 10 5,.bin 11 .add 10 (kI 1),.asg 5 11]))))
def bB2:AC:=(.seq (.ops [.mv 109 1,.asg 4 109]) .ret)
def bP0:AC:=(.seq (.ops [.asg 4 (kI 0)]) (.seq (.seq (.ops [.asg 5 (kI 0)]) (.block 0 aL5)) bB2))
theorem bZz:bC Tryz.prog 60=some (bP0,[.mv 0 4],110):=by kernel_rfl
def aRe (r:Int×(List aX)):Exit→St→Prop:=bA [.mv 0 4] fun x b=>x=(fun (y:Int×(List aX))=>(vI y.1)) r∧bM ((fun (y:Int×(List aX))=>[(3000000,[(.trc 11 (y.2.map dD))])]) r) b
def bZ3 (r:Int×(List aX)):Exit→St→Prop:=(bN (wkK (avc Tryz.prog bB2 (aRe r))) (aRe r))
def bVr (r:Int×(List aX)):Exit→St→Prop:=(bP 0 (bZ3 r))
def bV7 (x1:Int) (x5:Int) (aU:(List aX)):St:=⟨[(0,(.tre 3000000)),(1,(vI x1)),(5,(vI x5))],[(3000000,[(.trc 11 (aU.map dD))])]⟩
abbrev aFy (x1:Int) (x5:Int) (aU:(List aX)) (r:Int×(List aX)):Prop:=avc Tryz.prog aL5 (bVr r) (bV7 x1 x5 aU)
def aNe:AC:=(.loop (.seq (.seq (.ops [.mv 6 5,.mv 7 0,.len 8 7,.bin 9 .lss 6 8]) (.cond 9 .skip (.exit 0))) (.seq (.block 1 (.seq (.ops [.mv 12 0,.mv 13 5,.mv 14 1,.call (some 15) 29 [14],.ia 16 3 12 13,.fa 17 0 16,.st 1 17 15]) (.seq (.ops [.mv 18 1,.bin 19 .add 18 (kI 1),.asg 1 19]) (.seq (.ops [.mv 20 0,.mv 21 5,.mv 22 1,.call (some 23) 29 [22],.ia 24 3 20 21,.fa 25 1 24,.st 1 25 23]) (.seq (.ops [.mv 26 1,.bin 27 .add 26 (kI 1),.asg 1 27]) (.ops [.mv 28 0,.mv 29 5,.ia 30 3 28 29,.fa 31 2 30,.ld 32 1 false 31,.mv 33 1,.call (some 34) 27 [32,33],.asg 1 34])))))) (.ops [.mv 10 5,.bin 11 .add 10 (kI 1),.asg 5 11]))))
def aYb:AC:=(.seq (.ops [.mv 35 1,.asg 4 35]) .ret)
def bMh:AC:=(.seq (.ops [.asg 4 (kI 0)]) (.seq (.seq (.ops [.asg 5 (kI 0)]) (.block 0 aNe)) aYb))
theorem bTj:bC Tryz.prog 59=some (bMh,[.mv 0 4],36):=by kernel_rfl
def aWa (r:Int×(List aR)):Exit→St→Prop:=bA [.mv 0 4] fun x b=>x=(fun (y:Int×(List aR))=>(vI y.1)) r∧bM ((fun (y:Int×(List aR))=>[(3000000,[(.trc 3 (y.2.map dW))])]) r) b
def bRq (r:Int×(List aR)):Exit→St→Prop:=(bN (wkK (avc Tryz.prog aYb (aWa r))) (aWa r))
def bGr (r:Int×(List aR)):Exit→St→Prop:=(bP 0 (bRq r))
def bVx (x1:Int) (x5:Int) (aU:(List aR)):St:=⟨[(0,(.tre 3000000)),(1,(vI x1)),(5,(vI x5))],[(3000000,[(.trc 3 (aU.map dW))])]⟩
abbrev aE6 (x1:Int) (x5:Int) (aU:(List aR)) (r:Int×(List aR)):Prop:=avc Tryz.prog aNe (bGr r) (bVx x1 x5 aU)
def bJu:AC:=(.seq (.ops [.box 1 35 0,.asg 2 (.c (.nil 3))]) (.seq (.seq (.ops [.ld 4 10 true 1,.call (some 5) 21 [4],.not 6 5]) (.cond 6 (.seq (.ops [.asg 2 (.c (.nil 3))]) .ret) .skip)) (.seq (.ops [.bld 7 [(.nil 3),dR] [],.box 8 52 7,.asg 3 8]) (.seq (.ops [.mv 9 3,.ld 10 10 true 1,.call (some 11) 22 [9,10]]) (.seq (.ops [.mv 12 3,.nck 13 12,.fa 14 0 13,.ld 15 1 false 14,.asg 2 15]) .ret)))))
theorem bWc:bC Tryz.prog 7=some (bJu,[.mv 0 2],16):=by kernel_rfl
def cJ1 (r:(List aA)):Exit→St→Prop:=bA [.mv 0 2] fun x b=>x=(fun (y:(List aA))=>(.tre 10000000)) r∧bM ((fun (y:(List aA))=>[(10000000,[(.trc 3 (y.map aL))])]) r) b
def aMr:AC:=(.loop (.seq (.seq (.ops [.mv 106 4,.fa 107 8 3,.ld 108 1 false 107,.len 109 108,.bin 110 .lss 106 109]) (.cond 110 .skip (.exit 2))) (.seq (.block 3 (.seq (.ops [.mv 113 0,.mv 114 4,.bin 115 .sub 114 (kI 1),.call (some 116) 56 [113,115]]) (.ops [.mv 117 0,.ld 118 10 true 3,.mv 119 4,.call (some 120) 51 [117,118,119]]))) (.ops [.mv 111 4,.bin 112 .add 111 (kI 1),.asg 4 112]))))
def aX6:AC:=(.ops [.mv 121 0,.call (some 122) 55 [121,(.c (.d (.s (bs [41]))))]])
def bP6:AC:=(.seq (.ops [.box 3 35 1]) (.seq (.seq (.ops [.fa 5 0 3,.ld 6 1 false 5]) (.block 0 (.seq (.ops [.bin 8 .eql 6 (kI 1),.asg 7 8]) (.cond 7 (.seq (.ops [.mv 9 0,.fa 10 3 3,.ld 11 3 true 10,.call (some 12) 47 [9,11]]) .ret) (.seq (.ops [.bin 14 .eql 6 (kI 2),.asg 13 14]) (.cond 13 (.seq (.ops [.mv 15 0,.fa 16 6 3,.ld 17 1 false 16,.call (some 18) 48 [15,17]]) (.seq (.ops [.mv 19 0,.fa 20 7 3,.ld 21 1 false 20,.call (some 22) 49 [19,21]]) .ret)) (.seq (.ops [.bin 24 .eql 6 (kI 3),.asg 23 24]) (.cond 23 (.seq (.ops [.mv 25 0,.fa 26 1 3,.ld 27 1 false 26,.call (some 28) 50 [25,27]]) (.seq (.ops [.mv 29 0,.ld 30 10 true 3,.call (some 31) 51 [29,30,(kI 0)]]) .ret)) (.seq (.ops [.bin 33 .eql 6 (kI 9),.asg 32 33]) (.cond 32 (.seq (.ops [.mv 34 0,.call (some 35) 52 [34,(.c (.d (.s (bs [69,88,73,83,84,83]))))]]) (.seq (.ops [.mv 36 0,.fa 37 9 3,.ld 38 1 false 37,.ia 39 6 38 (kI 0),.ld 40 6 true 39,.call (some 41) 53 [36,40]]) .ret)) .skip)))))))))) (.seq (.ops [.mv 42 0,.ld 43 10 true 3,.call (some 44) 51 [42,43,(kI 0)]]) (.seq (.ops [.fa 45 0 3,.ld 46 1 false 45]) (.block 1 (.seq (.ops [.bin 48 .eql 46 (kI 4),.asg 47 48]) (.cond 47 (.seq (.ops [.mv 49 0,.fa 50 1 3,.ld 51 1 false 50,.call (some 52) 50 [49,51]]) (.ops [.mv 53 0,.ld 54 10 true 3,.call (some 55) 51 [53,54,(kI 1)]])) (.seq (.ops [.bin 57 .eql 46 (kI 5),.asg 56 57]) (.cond 56 (.seq (.ops [.mv 58 0,.call (some 59) 52 [58,(.c (.d (.s (bs [73,83]))))]]) (.seq (.ops [.mv 60 0,.fa 61 2 3,.ld 62 1 false 61,.call (some 63) 54 [60,62]]) (.ops [.mv 64 0,.call (some 65) 52 [64,(.c (.d (.s (bs [78,85,76,76]))))]]))) (.seq (.ops [.bin 67 .eql 46 (kI 6),.asg 66 67]) (.cond 66 (.seq (.ops [.mv 68 0,.fa 69 2 3,.ld 70 1 false 69,.call (some 71) 54 [68,70]]) (.seq (.ops [.mv 72 0,.call (some 73) 52 [72,(.c (.d (.s (bs [66,69,84,87,69,69,78]))))]]) (.seq (.ops [.mv 74 0,.ld 75 10 true 3,.call (some 76) 51 [74,75,(kI 1)]]) (.seq (.ops [.mv 77 0,.call (some 78) 52 [77,(.c (.d (.s (bs [65,78,68]))))]]) (.ops [.mv 79 0,.ld 80 10 true 3,.call (some 81) 51 [79,80,(kI 2)]]))))) (.seq (.ops [.bin 83 .eql 46 (kI 8),.asg 82 83]) (.cond 82 (.seq (.ops [.mv 84 0,.fa 85 2 3,.ld 86 1 false 85,.call (some 87) 54 [84,86]]) (.seq (.ops [.mv 88 0,.call (some 89) 52 [88,(.c (.d (.s (bs [73,78]))))]]) (.ops [.mv 90 0,.fa 91 9 3,.ld 92 1 false 91,.ia 93 6 92 (kI 0),.ld 94 6 true 93,.call (some 95) 53 [90,94]]))) (.seq (.ops [.bin 97 .eql 46 (kI 7),.asg 96 97]) (.cond 96 (.seq (.ops [.mv 98 0,.fa 99 2 3,.ld 100 1 false 99,.call (some 101) 54 [98,100]]) (.seq (.ops [.mv 102 0,.call (some 103) 52 [102,(.c (.d (.s (bs [73,78]))))]]) (.seq (.ops [.mv 104 0,.call (some 105) 55 [104,(.c (.d (.s (bs [40]))))]]) (.seq (.seq (.ops [.asg 4 (kI 1)]) (.block 2 aMr)) aX6)))) .skip)))))))))))))))
theorem bLn:bC Tryz.prog 22=some (bP6,[],123):=by kernel_rfl
def bW7 (r:Bool×(List aA)):Exit→St→Prop:=bA [] fun x b=>x=(fun (y:Bool×(List aA))=>(.tup [])) r∧bM ((fun (y:Bool×(List aA))=>[(1000000,[(.tre 15000000),(vB y.1)]),(3500000,[.trd]),(15000000,[(.trc 3 (y.2.map aL))])]) r) b
def aZm (r:Bool×(List aA)):Exit→St→Prop:=(bP 1 (bW7 r))
def bJc (r:Bool×(List aA)):Exit→St→Prop:=(bN (wkK (avc Tryz.prog aX6 (aZm r))) (aZm r))
def bGu (r:Bool×(List aA)):Exit→St→Prop:=(bP 2 (bJc r))
def bUd (p1:aB) (x4:Int) (dI:Bool) (kP:(List aA)):St:=⟨[(0,(.ptr 1000000 0)),(3,(.ptr 3 0)),(4,(vI x4))],[(3,kL p1),(1000000,[(.tre 60192000),(vB dI)]),(60192000,[(.trc 3 (kP.map aL))])]⟩
abbrev aH5 (p1:aB) (x4:Int) (dI:Bool) (kP:(List aA)) (r:Bool×(List aA)):Prop:=avc Tryz.prog aMr (bGu r) (bUd p1 x4 dI kP)
def bOr:AC:=(.seq (.ops [.box 3 31 1]) (.seq (.ops [.fa 4 0 3,.ld 5 1 false 4]) (.block 0 (.seq (.ops [.bin 11 .eql 5 (kI 1),.asg 10 11]) (.cond 10 (.ops [.mv 12 0,.fa 13 1 3,.ld 14 1 false 13,.call (some 15) 89 [14],.call (some 16) 88 [12,(kI 3),15]]) (.seq (.ops [.bin 18 .eql 5 (kI 2),.asg 17 18]) (.cond 17 (.ops [.mv 19 0,.fa 20 2 3,.ld 21 1 false 20,.call (some 22) 88 [19,(kI 4),21]]) (.ops [.mv 6 0,.ld 7 3 true 3,.call (some 8) 90 [7],.call (some 9) 52 [6,8]]))))))))
theorem bQi:bC Tryz.prog 47=some (bOr,[],23):=by kernel_rfl
def cE3 (r:Bool×(List aA)):Exit→St→Prop:=bA [] fun x b=>x=(fun (y:Bool×(List aA))=>(.tup [])) r∧bM ((fun (y:Bool×(List aA))=>[(1000000,[(.tre 15000000),(vB y.1)]),(3500000,[.trd]),(15000000,[(.trc 3 (y.2.map aL))])]) r) b
def bM3:AC:=(.ops [.mv 6 0,.mv 7 0,.nck 8 7,.fa 9 0 8,.ld 10 1 false 9,.mv 11 1,.mv 12 2,.bld 13 [bS,dL,bS] [(0,1,11),(1,1,12)],.bsl 14 56 3 [13],.app 15 56 3 32 10 14,.nck 16 6,.fa 17 0 16,.st 1 17 15])
theorem bZs:bC Tryz.prog 88=some (bM3,[],18):=by kernel_rfl
def cFw (r:Bool×(List aA)):Exit→St→Prop:=bA [] fun x b=>x=(fun (y:Bool×(List aA))=>(.tup [])) r∧bM ((fun (y:Bool×(List aA))=>[(1000000,[(.tre 15000000),(vB y.1)]),(3500000,[.trd]),(15000000,[(.trc 3 (y.2.map aL))])]) r) b
def cBg:AC:=(.seq (.ops [.box 1 31 0,.asg 2 (.c (.d (.s (bs []))))]) (.seq (.seq (.ops [.ld 3 3 true 1,.call (some 4) 123 [3],.not 5 4]) (.cond 5 (.seq (.ops [.asg 2 (.c (.d (.s (bs [63]))))]) .ret) .skip)) (.seq (.seq (.ops [.fa 6 0 1,.ld 7 1 false 6]) (.block 0 (.seq (.ops [.bin 9 .eql 7 (kI 1),.asg 8 9]) (.cond 8 (.seq (.ops [.fa 10 1 1,.ld 11 1 false 10,.call (some 12) 89 [11],.asg 2 12]) .ret) (.seq (.ops [.bin 14 .eql 7 (kI 2),.asg 13 14]) (.cond 13 (.seq (.ops [.fa 15 2 1,.ld 16 1 false 15,.call (some 17) 124 [16],.asg 2 17]) .ret) (.seq (.ops [.bin 19 .eql 7 (kI 3),.asg 18 19]) (.cond 18 (.seq (.seq (.ops [.fa 20 1 1,.ld 21 1 false 20,.bin 22 .eql 21 (kI 1)]) (.cond 22 (.seq (.ops [.asg 2 (.c (.d (.s (bs [84,82,85,69]))))]) .ret) .skip)) (.seq (.ops [.asg 2 (.c (.d (.s (bs [70,65,76,83,69]))))]) .ret)) .skip)))))))) (.seq (.ops [.asg 2 (.c (.d (.s (bs [78,85,76,76]))))]) .ret))))
theorem bTy:bC Tryz.prog 90=some (cBg,[.mv 0 2],23):=by kernel_rfl
def cFm (r:(List UInt8)):Exit→St→Prop:=bA [.mv 0 2] fun x _=>x=(fun y=>(vS y)) r
def bNl:AC:=(.seq (.ops [.box 1 31 0,.asg 2 (kB false)]) (.seq (.seq (.ops [.fa 3 0 1,.ld 4 1 false 3]) (.block 0 (.seq (.ops [.bin 6 .eql 4 (kI 0),.asg 5 6]) (.cond 5 (.seq (.ops [.fa 7 1 1,.ld 8 1 false 7,.bin 9 .eql 8 (kI 0),.mv 10 9,.g 10 true (.fa 11 2 1),.g 10 true (.ld 12 1 false 11),.g 10 true (.bin 13 .eql 12 (.c (.d (.s (bs []))))),.pick 14 10 13 (kB false),.asg 2 14]) .ret) (.seq (.ops [.bin 16 .eql 4 (kI 1),.asg 15 16]) (.cond 15 (.seq (.ops [.fa 17 2 1,.ld 18 1 false 17,.bin 19 .eql 18 (.c (.d (.s (bs [])))),.asg 2 19]) .ret) (.seq (.ops [.bin 21 .eql 4 (kI 2),.asg 20 21]) (.cond 20 (.seq (.ops [.fa 22 1 1,.ld 23 1 false 22,.bin 24 .eql 23 (kI 0),.mv 25 24,.g 25 true (.fa 26 2 1),.g 25 true (.ld 27 1 false 26),.g 25 true (.lns 28 27),.g 25 true (.bin 29 .leq 28 (kI 200)),.pick 30 25 29 (kB false),.asg 2 30]) .ret) (.seq (.ops [.bin 32 .eql 4 (kI 3),.asg 31 32]) (.cond 31 (.seq (.ops [.fa 33 1 1,.ld 34 1 false 33,.bin 35 .eql 34 (kI 0),.mv 36 35,.g 36 false (.fa 37 1 1),.g 36 false (.ld 38 1 false 37),.g 36 false (.bin 39 .eql 38 (kI 1)),.pick 40 36 (kB true) 39,.mv 41 40,.g 41 true (.fa 42 2 1),.g 41 true (.ld 43 1 false 42),.g 41 true (.bin 44 .eql 43 (.c (.d (.s (bs []))))),.pick 45 41 44 (kB false),.asg 2 45]) .ret) .skip)))))))))) (.seq (.ops [.asg 2 (kB false)]) .ret)))
theorem cA2:bC Tryz.prog 123=some (bNl,[.mv 0 2],46):=by kernel_rfl
def cEt (r:Bool):Exit→St→Prop:=bA [.mv 0 2] fun x _=>x=(fun y=>(vB y)) r
def bZ6:AC:=(.seq (.ops [.asg 2 (.c (.d (.s (bs []))))]) (.seq (.ops [.mv 3 0,.call (some 4) 122 [3],.asg 2 4]) .ret))
theorem bRh:bC Tryz.prog 89=some (bZ6,[.mv 0 2],5):=by kernel_rfl
def cGr (r:(List UInt8)):Exit→St→Prop:=bA [.mv 0 2] fun x _=>x=(fun y=>(vS y)) r

def bO4:AC:=(.seq (.ops [.asg 2 (.c (.d (.s (bs []))))]) (.seq (.ops [.mv 3 0,.call (some 4) 140 [3,(.c (.d (.s (bs [39]))))],.asg 2 4]) .ret))
theorem bTb:bC Tryz.prog 124=some (bO4,[.mv 0 2],5):=by kernel_rfl
def cIc (r:(List UInt8)):Exit→St→Prop:=bA [.mv 0 2] fun x _=>x=(fun y=>(vS y)) r
def bQg:AC:=(.seq (.ops [.asg 4 (.c (.d (.s (bs []))))]) (.seq (.ops [.mv 5 1,.mv 6 0,.mv 7 1,.mv 8 1,.mv 9 1,.bin 10 .add 8 9,.call (some 11) 148 [6,7,10],.bin 12 .add 5 11,.mv 13 1,.bin 14 .add 12 13,.asg 4 14]) .ret))
theorem cCn:bC Tryz.prog 140=some (bQg,[.mv 0 4],15):=by kernel_rfl
def cFj (r:(List UInt8)):Exit→St→Prop:=bA [.mv 0 4] fun x _=>x=(fun y=>(vS y)) r

def aMu:AC:=(.loop (.seq (.ops [.bin 10 .lss 9 8]) (.seq (.cond 10 .skip (.exit 0)) (.seq (.block 1 (.seq (.ops [.ia 11 1 7 9,.ld 12 1 false 11,.asg 5 12]) (.ops [.mv 13 0,.mv 14 5,.call (some 15) 88 [13,(kI 1),14]]))) (.ops [.bin 16 .add 9 (kI 1),.mv 9 16])))))
def bHw:AC:=(.seq (.ops [.mv 6 1,.call (some 7) 94 [6,(.c (.d (.s (bs [32]))))],.len 8 7,.mv 9 (kI 0)]) (.block 0 aMu))
theorem bQ5:bC Tryz.prog 52=some (bHw,[],17):=by kernel_rfl
def cCo (r:Bool×(List aA)):Exit→St→Prop:=bA [] fun x b=>x=(fun (y:Bool×(List aA))=>(.tup [])) r∧bM ((fun (y:Bool×(List aA))=>[(1000000,[(.tre 15000000),(vB y.1)]),(3500000,[.trd]),(15000000,[(.trc 3 (y.2.map aL))])]) r) b
def bLv (r:Bool×(List aA)):Exit→St→Prop:=(bP 0 (cCo r))
def bDe (y1:(List (List UInt8))) (x9:Int) (dI:Bool) (kJ:(List aA)):St:=⟨[(0,(.ptr 1000000 0)),(7,(aY6 y1)),(8,(vI (y1.length:Int))),(9,(vI x9))],[(1000000,[(.tre 60007000),(vB dI)]),(60007000,[(.trc 3 (kJ.map aL))])]⟩
abbrev aIr (y1:(List (List UInt8))) (x9:Int) (dI:Bool) (kJ:(List aA)) (r:Bool×(List aA)):Prop:=avc Tryz.prog aMu (bLv r) (bDe y1 x9 dI kJ)

def bXd:AC:=(.seq (.ops [.mv 4 1,.bin 5 .gtr 4 (kI 0)]) (.cond 5 (.ops [.mv 6 0,.call (some 7) 55 [6,(.c (.d (.s (bs [44]))))]]) .skip))
theorem bPl:bC Tryz.prog 56=some (bXd,[],8):=by kernel_rfl
def cFt (r:Bool×(List aA)):Exit→St→Prop:=bA [] fun x b=>x=(fun (y:Bool×(List aA))=>(.tup [])) r∧bM ((fun (y:Bool×(List aA))=>[(1000000,[(.tre 15000000),(vB y.1)]),(3500000,[.trd]),(15000000,[(.trc 3 (y.2.map aL))])]) r) b
def bKo:AC:=(.ops [.mv 4 0,.mv 5 1,.call (some 6) 88 [4,(kI 5),5]])
theorem bTw:bC Tryz.prog 55=some (bKo,[],7):=by kernel_rfl
def cGz (r:Bool×(List aA)):Exit→St→Prop:=bA [] fun x b=>x=(fun (y:Bool×(List aA))=>(.tup [])) r∧bM ((fun (y:Bool×(List aA))=>[(1000000,[(.tre 15000000),(vB y.1)]),(3500000,[.trd]),(15000000,[(.trc 3 (y.2.map aL))])]) r) b
def bT5:AC:=(.seq (.ops [.mv 4 1,.bin 5 .eql 4 (kI 1),.mv 6 5,.g 6 false (.mv 7 1),.g 6 false (.bin 8 .eql 7 (kI 2)),.pick 9 6 (kB true) 8,.mv 10 9,.g 10 false (.mv 11 1),.g 10 false (.bin 12 .eql 11 (kI 15)),.pick 13 10 (kB true) 12]) (.cond 13 (.ops [.mv 14 0,.mv 15 1,.call (some 16) 91 [15],.call (some 17) 52 [14,16]]) (.ops [.mv 18 0,.mv 19 1,.call (some 20) 91 [19],.call (some 21) 55 [18,20]])))
theorem bUv:bC Tryz.prog 50=some (bT5,[],22):=by kernel_rfl
def cEq (r:Bool×(List aA)):Exit→St→Prop:=bA [] fun x b=>x=(fun (y:Bool×(List aA))=>(.tup [])) r∧bM ((fun (y:Bool×(List aA))=>[(1000000,[(.tre 15000000),(vB y.1)]),(3500000,[.trd]),(15000000,[(.trc 3 (y.2.map aL))])]) r) b
def bG3:AC:=(.seq (.ops [.asg 2 (.c (.d (.s (bs []))))]) (.seq (.seq (.ops [.mv 3 0,.bin 4 .lss 3 (kI 1),.mv 5 4,.g 5 false (.mv 6 0),.g 5 false (.bin 7 .gtr 6 (kI 16)),.pick 8 5 (kB true) 7]) (.cond 8 (.seq (.ops [.asg 2 (.c (.d (.s (bs []))))]) .ret) .skip)) (.seq (.ops [.bsl 9 9 1 [(.c (.d (.s (bs [79,82])))),(.c (.d (.s (bs [65,78,68])))),(.c (.d (.s (bs [61])))),(.c (.d (.s (bs [60,62])))),(.c (.d (.s (bs [60])))),(.c (.d (.s (bs [60,61])))),(.c (.d (.s (bs [62])))),(.c (.d (.s (bs [62,61])))),(.c (.d (.s (bs [124,124])))),(.c (.d (.s (bs [43])))),(.c (.d (.s (bs [45])))),(.c (.d (.s (bs [42])))),(.c (.d (.s (bs [47])))),(.c (.d (.s (bs [37])))),(.c (.d (.s (bs [78,79,84])))),(.c (.d (.s (bs [45]))))],.mv 10 0,.bin 11 .sub 10 (kI 1),.ia 12 1 9 11,.ld 13 1 false 12,.asg 2 13]) .ret)))
theorem bPo:bC Tryz.prog 91=some (bG3,[.mv 0 2],14):=by kernel_rfl
def cE4 (r:(List UInt8)):Exit→St→Prop:=bA [.mv 0 2] fun x _=>x=(fun y=>(vS y)) r
def bUw:AC:=(.ops [.mv 4 0,.mv 5 1,.call (some 6) 88 [4,(kI 2),5]])
theorem cCw:bC Tryz.prog 49=some (bUw,[],7):=by kernel_rfl
def cE8 (r:Bool×(List aA)):Exit→St→Prop:=bA [] fun x b=>x=(fun (y:Bool×(List aA))=>(.tup [])) r∧bM ((fun (y:Bool×(List aA))=>[(1000000,[(.tre 15000000),(vB y.1)]),(3500000,[.trd]),(15000000,[(.trc 3 (y.2.map aL))])]) r) b
def bQa:AC:=(.seq (.ops [.mv 4 1]) (.cond 4 (.ops [.mv 5 0,.call (some 6) 52 [5,(.c (.d (.s (bs [78,79,84]))))]]) .skip))
theorem bK4:bC Tryz.prog 54=some (bQa,[],7):=by kernel_rfl
def cJd (r:Bool×(List aA)):Exit→St→Prop:=bA [] fun x b=>x=(fun (y:Bool×(List aA))=>(.tup [])) r∧bM ((fun (y:Bool×(List aA))=>[(1000000,[(.tre 15000000),(vB y.1)]),(3500000,[.trd]),(15000000,[(.trc 3 (y.2.map aL))])]) r) b
def bKb:AC:=(.seq (.ops [.box 4 35 1]) (.seq (.seq (.ops [.ld 6 10 true 4,.mv 7 2,.call (some 8) 92 [6,7],.not 9 8,.mv 10 9,.g 10 true (.mv 11 0),.g 10 true (.nck 12 11),.g 10 true (.fa 13 1 12),.g 10 true (.ld 14 1 false 13),.g 10 true (.mv 15 14),.g 15 true (.fa 16 8 4),.g 15 true (.ld 17 1 false 16),.g 15 true (.mv 18 2),.g 15 true (.ia 19 10 17 18),.g 15 true (.ld 20 10 true 19),.g 15 true (.call (some 21) 93 [20]),.g 15 true (.bin 22 .neq 21 (kI 9)),.g 10 true (.pick 23 15 22 (kB false)),.g 10 true (.not 24 23),.pick 25 10 24 (kB false)]) (.cond 25 (.seq (.ops [.mv 26 0,.fa 27 8 4,.ld 28 1 false 27,.mv 29 2,.ia 30 10 28 29,.ld 31 10 true 30,.call (some 32) 22 [26,31]]) .ret) .skip)) (.seq (.ops [.mv 33 0,.call (some 34) 55 [33,(.c (.d (.s (bs [40]))))]]) (.seq (.ops [.mv 35 0,.fa 36 8 4,.ld 37 1 false 36,.mv 38 2,.ia 39 10 37 38,.ld 40 10 true 39,.call (some 41) 22 [35,40]]) (.ops [.mv 42 0,.call (some 43) 55 [42,(.c (.d (.s (bs [41]))))]])))))
theorem bN0:bC Tryz.prog 51=some (bKb,[],44):=by kernel_rfl
def cJ2 (r:Bool×(List aA)):Exit→St→Prop:=bA [] fun x b=>x=(fun (y:Bool×(List aA))=>(.tup [])) r∧bM ((fun (y:Bool×(List aA))=>[(1000000,[(.tre 15000000),(vB y.1)]),(3500000,[.trd]),(15000000,[(.trc 3 (y.2.map aL))])]) r) b
def aDy:AC:=(.seq (.ops [.asg 2 (kI 0)]) .ret)
def aJx:AC:=(.cond 23 (.seq (.ops [.asg 2 (kI 9)]) .ret) .skip)
def aKu:AC:=(.cond 18 (.seq (.ops [.asg 2 (kI 4)]) .ret) (.seq (.seq (.ops [.bin 24 .eql 4 (kI 1),.asg 23 24]) (.cond 23 .skip (.seq (.ops [.bin 25 .eql 4 (kI 2),.asg 23 25]) (.cond 23 .skip (.ops [.bin 26 .eql 4 (kI 9),.asg 23 26]))))) aJx))
def bJ5:AC:=(.seq (.ops [.box 1 35 0,.asg 2 (kI 0)]) (.seq (.seq (.ops [.fa 3 0 1,.ld 4 1 false 3]) (.block 0 (.seq (.ops [.bin 6 .eql 4 (kI 4),.asg 5 6]) (.cond 5 (.seq (.ops [.fa 7 1 1,.ld 8 1 false 7,.call (some 9) 126 [8],.asg 2 9]) .ret) (.seq (.ops [.bin 11 .eql 4 (kI 3),.asg 10 11]) (.cond 10 (.seq (.ops [.fa 12 1 1,.ld 13 1 false 12]) (.block 1 (.seq (.ops [.bin 15 .eql 13 (kI 15),.asg 14 15]) (.cond 14 (.seq (.ops [.asg 2 (kI 3)]) .ret) (.seq (.ops [.bin 17 .eql 13 (kI 16),.asg 16 17]) (.cond 16 (.seq (.ops [.asg 2 (kI 8)]) .ret) .skip)))))) (.seq (.seq (.ops [.bin 19 .eql 4 (kI 5),.asg 18 19]) (.cond 18 .skip (.seq (.ops [.bin 20 .eql 4 (kI 6),.asg 18 20]) (.cond 18 .skip (.seq (.ops [.bin 21 .eql 4 (kI 7),.asg 18 21]) (.cond 18 .skip (.ops [.bin 22 .eql 4 (kI 8),.asg 18 22]))))))) aKu))))))) aDy))
theorem bRf:bC Tryz.prog 93=some (bJ5,[.mv 0 2],27):=by kernel_rfl
def aMz (r:Int):Exit→St→Prop:=bA [.mv 0 2] fun x _=>x=(fun y=>(vI y)) r
def bLq (r:Int):Exit→St→Prop:=(bN (wkK (avc Tryz.prog aDy (aMz r))) (aMz r))
def aV7 (r:Int):Exit→St→Prop:=(bP 0 (bLq r))
def cD3:St:=⟨[],[]⟩
abbrev aXj (r:Int):Prop:=avc Tryz.prog aDy (aMz r) (cD3)
def bEb (p0:aB) (x18:Bool):St:=⟨[(4,(vI p0.kind)),(18,(vB x18))],[]⟩
abbrev bBe (p0:aB) (x18:Bool) (r:Int):Prop:=avc Tryz.prog aKu (aV7 r) (bEb p0 x18)
def bOe (x23:Bool):St:=⟨[(23,(vB x23))],[]⟩
abbrev aSi (x23:Bool) (r:Int):Prop:=avc Tryz.prog aJx (aV7 r) (bOe x23)
def aPn:AC:=(.cond 20 (.seq (.ops [.asg 2 (kI 7)]) .ret) .skip)
def aK3:AC:=(.cond 17 (.seq (.ops [.asg 2 (kI 6)]) .ret) (.seq (.seq (.ops [.bin 21 .eql 3 (kI 12),.asg 20 21]) (.cond 20 .skip (.seq (.ops [.bin 22 .eql 3 (kI 13),.asg 20 22]) (.cond 20 .skip (.ops [.bin 23 .eql 3 (kI 14),.asg 20 23]))))) aPn))
def aM9:AC:=(.cond 8 (.seq (.ops [.asg 2 (kI 4)]) .ret) (.seq (.ops [.bin 16 .eql 3 (kI 9),.asg 15 16]) (.cond 15 (.seq (.ops [.asg 2 (kI 5)]) .ret) (.seq (.seq (.ops [.bin 18 .eql 3 (kI 10),.asg 17 18]) (.cond 17 .skip (.ops [.bin 19 .eql 3 (kI 11),.asg 17 19]))) aK3))))
def bCa:AC:=(.seq (.ops [.asg 2 (kI 0)]) .ret)
def bU3:AC:=(.seq (.ops [.asg 2 (kI 0)]) (.seq (.seq (.ops [.mv 3 0]) (.block 0 (.seq (.ops [.bin 5 .eql 3 (kI 1),.asg 4 5]) (.cond 4 (.seq (.ops [.asg 2 (kI 1)]) .ret) (.seq (.ops [.bin 7 .eql 3 (kI 2),.asg 6 7]) (.cond 6 (.seq (.ops [.asg 2 (kI 2)]) .ret) (.seq (.seq (.ops [.bin 9 .eql 3 (kI 3),.asg 8 9]) (.cond 8 .skip (.seq (.ops [.bin 10 .eql 3 (kI 4),.asg 8 10]) (.cond 8 .skip (.seq (.ops [.bin 11 .eql 3 (kI 5),.asg 8 11]) (.cond 8 .skip (.seq (.ops [.bin 12 .eql 3 (kI 6),.asg 8 12]) (.cond 8 .skip (.seq (.ops [.bin 13 .eql 3 (kI 7),.asg 8 13]) (.cond 8 .skip (.ops [.bin 14 .eql 3 (kI 8),.asg 8 14]))))))))))) aM9))))))) bCa))
theorem bLx:bC Tryz.prog 126=some (bU3,[.mv 0 2],24):=by kernel_rfl
def aWe (r:Int):Exit→St→Prop:=bA [.mv 0 2] fun x _=>x=(fun y=>(vI y)) r
def bLh (r:Int):Exit→St→Prop:=(bN (wkK (avc Tryz.prog bCa (aWe r))) (aWe r))
def aLm (r:Int):Exit→St→Prop:=(bP 0 (bLh r))
def bL0 (p0:Int) (x8:Bool):St:=⟨[(3,(vI p0)),(8,(vB x8))],[]⟩
abbrev aU8 (p0:Int) (x8:Bool) (r:Int):Prop:=avc Tryz.prog aM9 (aLm r) (bL0 p0 x8)
def bYx (p0:Int) (x17:Bool):St:=⟨[(3,(vI p0)),(17,(vB x17))],[]⟩
abbrev aUb (p0:Int) (x17:Bool) (r:Int):Prop:=avc Tryz.prog aK3 (aLm r) (bYx p0 x17)
def bKs (x20:Bool):St:=⟨[(20,(vB x20))],[]⟩
abbrev aS4 (x20:Bool) (r:Int):Prop:=avc Tryz.prog aPn (aLm r) (bKs x20)
def bVj:AC:=(.seq (.ops [.box 2 35 0,.asg 4 (kB false)]) (.seq (.dops [[],[0],[1],[2],[2],[4,2],[5,2],[3,6,2],[2,7],[8,2],[9],[10,9],[9],[11,12,9],[13,9],[14,9,9],[9],[9],[16,17,15,9],[15,18,9],[9,19],[20,18,0,1,2,3,4,5,6,7,8,9,10,11,12,13,14,15,16,17,18,19,20]] [.mv 5 1,.bin 6 .geq 5 (kI 0),.mv 7 6,.g 7 true (.mv 8 1),.g 7 true (.fa 9 8 2),.g 7 true (.ld 10 1 false 9),.g 7 true (.len 11 10),.g 7 true (.bin 12 .lss 8 11),.pick 13 7 12 (kB false),.mv 14 13,.g 14 true (.fa 15 8 2),.g 14 true (.ld 16 1 false 15),.g 14 true (.mv 17 1),.g 14 true (.ia 18 10 16 17),.g 14 true (.ld 19 10 true 18),.g 14 true (.call (some 20) 93 [19]),.g 14 true (.ld 21 10 true 2),.g 14 true (.mv 22 1),.g 14 true (.call (some 23) 125 [21,22]),.g 14 true (.bin 24 .lss 20 23),.pick 25 14 24 (kB false),.asg 4 25]) .ret))
theorem bEo:bC Tryz.prog 92=some (bVj,[.mv 0 4],26):=by kernel_rfl
def cFs (r:Bool):Exit→St→Prop:=bA [.mv 0 4] fun x _=>x=(fun y=>(vB y)) r
def aLe:AC:=(.seq (.ops [.asg 4 (kI 5)]) .ret)
def bKl:AC:=(.seq (.ops [.box 2 35 0,.asg 4 (kI 0)]) (.seq (.ops [.ld 6 10 true 2,.call (some 7) 93 [6],.asg 5 7]) (.seq (.seq (.ops [.mv 8 1,.bin 9 .lss 8 (kI 0),.mv 10 9,.g 10 false (.mv 11 1),.g 10 false (.fa 12 8 2),.g 10 false (.ld 13 1 false 12),.g 10 false (.len 14 13),.g 10 false (.bin 15 .geq 11 14),.pick 16 10 (kB true) 15,.mv 17 16,.g 17 false (.mv 18 5),.g 17 false (.bin 19 .eql 18 (kI 0)),.pick 20 17 (kB true) 19,.mv 21 20,.g 21 false (.mv 22 5),.g 21 false (.bin 23 .eql 22 (kI 9)),.pick 24 21 (kB true) 23]) (.cond 24 (.seq (.ops [.asg 4 (kI 0)]) .ret) .skip)) (.seq (.seq (.ops [.fa 25 0 2,.ld 26 1 false 25]) (.block 0 (.seq (.ops [.bin 28 .eql 26 (kI 4),.asg 27 28]) (.cond 27 (.seq (.seq (.ops [.mv 29 5,.bin 30 .eql 29 (kI 4)]) (.cond 30 (.seq (.ops [.asg 4 (kI 5)]) .ret) .skip)) (.seq (.ops [.mv 31 5,.mv 32 1,.min 33 32 (kI 1),.bin 34 .add 31 33,.asg 4 34]) .ret)) (.seq (.ops [.bin 36 .eql 26 (kI 3),.asg 35 36]) (.cond 35 (.seq (.ops [.mv 37 5,.asg 4 37]) .ret) (.seq (.ops [.bin 39 .eql 26 (kI 7),.asg 38 39]) (.cond 38 (.seq (.ops [.mv 40 1,.bin 41 .gtr 40 (kI 0)]) (.cond 41 (.seq (.ops [.asg 4 (kI 1)]) .ret) .skip)) .skip)))))))) aLe))))
theorem bU7:bC Tryz.prog 125=some (bKl,[.mv 0 4],42):=by kernel_rfl
def cBb (r:Int):Exit→St→Prop:=bA [.mv 0 4] fun x _=>x=(fun y=>(vI y)) r
def bFo:St:=⟨[],[]⟩
abbrev aVn (r:Int):Prop:=avc Tryz.prog aLe (cBb r) (bFo)
def cAj:AC:=(.seq (.ops [.mv 4 1,.bin 5 .neq 4 (.c (.d (.s (bs []))))]) (.cond 5 (.seq (.ops [.mv 6 0,.mv 7 1,.call (some 8) 49 [6,7]]) (.ops [.mv 9 0,.call (some 10) 55 [9,(.c (.d (.s (bs [46]))))]])) .skip))
theorem bO3:bC Tryz.prog 48=some (cAj,[],11):=by kernel_rfl
def cEh (r:Bool×(List aA)):Exit→St→Prop:=bA [] fun x b=>x=(fun (y:Bool×(List aA))=>(.tup [])) r∧bM ((fun (y:Bool×(List aA))=>[(1000000,[(.tre 15000000),(vB y.1)]),(3500000,[.trd]),(15000000,[(.trc 3 (y.2.map aL))])]) r) b
def bUp:AC:=(.seq (.ops [.box 3 79 1]) (.seq (.ops [.mv 4 0,.call (some 5) 55 [4,(.c (.d (.s (bs [40]))))]]) (.seq (.ops [.mv 6 0,.ld 7 6 true 3,.call (some 8) 95 [6,7]]) (.ops [.mv 9 0,.call (some 10) 55 [9,(.c (.d (.s (bs [41]))))]]))))
theorem bSs:bC Tryz.prog 53=some (bUp,[],11):=by kernel_rfl
def cEr (r:Bool×(List aA)):Exit→St→Prop:=bA [] fun x b=>x=(fun (y:Bool×(List aA))=>(.tup [])) r∧bM ((fun (y:Bool×(List aA))=>[(1000000,[(.tre 15000000),(vB y.1)]),(3500000,[.trd]),(15000000,[(.trc 3 (y.2.map aL))])]) r) b
def aOi:AC:=(.ops [.bin 43 .add 19 (kI 1),.mv 19 43])
def aDq:AC:=(.loop (.seq (.ops [.bin 20 .lss 19 18]) (.seq (.cond 20 .skip (.exit 0)) (.seq (.block 1 (.seq (.ops [.mv 21 19,.ia 22 13 17 19,.ld 23 13 true 22,.alc 5 pO,.asg 4 21,.st 13 5 23]) (.seq (.ops [.mv 24 0,.mv 25 4,.call (some 26) 56 [24,25]]) (.seq (.seq (.ops [.fa 27 0 5,.ld 28 1 false 27]) (.cond 28 (.seq (.ops [.mv 29 0,.fa 30 1 5,.ld 31 1 false 30,.call (some 32) 48 [29,31]]) (.seq (.ops [.mv 33 0,.call (some 34) 55 [33,(.c (.d (.s (bs [42]))))]]) (.exit 1))) .skip)) (.seq (.ops [.mv 35 0,.fa 36 2 5,.ld 37 10 true 36,.call (some 38) 22 [35,37]]) (.ops [.mv 39 0,.fa 40 12 5,.ld 41 1 false 40,.call (some 42) 128 [39,41]])))))) aOi))))
def aJq:AC:=(.loop (.seq (.ops [.bin 50 .lss 49 48]) (.seq (.cond 50 .skip (.exit 2)) (.seq (.block 3 (.seq (.ops [.mv 51 49,.ia 52 3 47 49,.ld 53 3 true 52,.alc 7 [dL,dL,(.nil 10)],.asg 6 51,.st 3 7 53]) (.ops [.mv 54 0,.mv 55 6,.ld 56 3 true 7,.call (some 57) 129 [54,55,56]]))) (.ops [.bin 58 .add 49 (kI 1),.mv 49 58])))))
def aN5:AC:=(.seq (.ops [.mv 75 0,.mv 76 8,.call (some 77) 56 [75,76]]) (.seq (.ops [.mv 78 0,.fa 79 0 9,.ld 80 10 true 79,.call (some 81) 22 [78,80]]) (.seq (.ops [.fa 82 10 9,.ld 83 1 false 82]) (.cond 83 (.ops [.mv 84 0,.call (some 85) 52 [84,(.c (.d (.s (bs [68,69,83,67]))))]]) .skip))))
def aEv:AC:=(.ops [.bin 86 .add 66 (kI 1),.mv 66 86])
def aE9:AC:=(.loop (.seq (.ops [.bin 67 .lss 66 65]) (.seq (.cond 67 .skip (.exit 4)) (.seq (.block 5 (.seq (.ops [.mv 68 66,.ia 69 11 64 66,.ld 70 11 true 69,.alc 9 xD,.asg 8 68,.st 11 9 70]) (.seq (.seq (.ops [.mv 71 8,.bin 72 .eql 71 (kI 0)]) (.cond 72 (.ops [.mv 73 0,.call (some 74) 52 [73,(.c (.d (.s (bs [79,82,68,69,82,32,66,89]))))]]) .skip)) aN5))) aEv))))
def aTk:AC:=(.seq (.ops [.fa 87 5 3,.ld 88 1 false 87,.bin 89 .geq 88 (kI 0)]) (.cond 89 (.seq (.ops [.mv 90 0,.call (some 91) 52 [90,(.c (.d (.s (bs [76,73,77,73,84]))))]]) (.ops [.mv 92 0,.fa 93 5 3,.ld 94 1 false 93,.call (some 95) 89 [94],.call (some 96) 88 [92,(kI 3),95]])) .skip))
def bCe:AC:=(.seq (.ops [.mv 59 0,.fa 60 3 3,.ld 61 1 false 60,.call (some 62) 130 [59,61]]) (.seq (.seq (.ops [.fa 63 4 3,.ld 64 1 false 63,.len 65 64,.mv 66 (kI 0)]) (.block 4 aE9)) aTk))
def aU7:AC:=(.seq (.ops [.mv 44 0,.call (some 45) 52 [44,(.c (.d (.s (bs [70,82,79,77]))))]]) (.seq (.seq (.ops [.fa 46 2 3,.ld 47 1 false 46,.len 48 47,.mv 49 (kI 0)]) (.block 2 aJq)) bCe))
def aKh:AC:=(.seq (.seq (.ops [.fa 16 1 3,.ld 17 1 false 16,.len 18 17,.mv 19 (kI 0)]) (.block 0 aDq)) aU7)
def bHk:AC:=(.seq (.ops [.box 3 79 1]) (.seq (.ops [.mv 10 0,.call (some 11) 52 [10,(.c (.d (.s (bs [83,69,76,69,67,84]))))]]) (.seq (.seq (.ops [.fa 12 0 3,.ld 13 1 false 12]) (.cond 13 (.ops [.mv 14 0,.call (some 15) 52 [14,(.c (.d (.s (bs [68,73,83,84,73,78,67,84]))))]]) .skip)) aKh)))
theorem bLa:bC Tryz.prog 95=some (bHk,[],97):=by kernel_rfl
def zU (r:Bool×(List aA)):Exit→St→Prop:=bA [] fun x b=>x=(fun (y:Bool×(List aA))=>(.tup [])) r∧bM ((fun (y:Bool×(List aA))=>[(1000000,[(.tre 15000000),(vB y.1)]),(3500000,[.trd]),(15000000,[(.trc 3 (y.2.map aL))])]) r) b
def bEc (r:Bool×(List aA)):Exit→St→Prop:=(bN (wkK (avc Tryz.prog aU7 (zU r))) (zU r))
def aQ7 (r:Bool×(List aA)):Exit→St→Prop:=(bP 0 (bEc r))
def bH9 (r:Bool×(List aA)):Exit→St→Prop:=(bN (avc Tryz.prog aDq (aQ7 r)) (aQ7 r))
def bGf (r:Bool×(List aA)):Exit→St→Prop:=(bN (wkK (avc Tryz.prog bCe (zU r))) (zU r))
def cCb (r:Bool×(List aA)):Exit→St→Prop:=(bP 2 (bGf r))
def bVs (r:Bool×(List aA)):Exit→St→Prop:=(bN (wkK (avc Tryz.prog aTk (zU r))) (zU r))
def aNw (r:Bool×(List aA)):Exit→St→Prop:=(bP 4 (bVs r))
def aLv (r:Bool×(List aA)):Exit→St→Prop:=(bN (avc Tryz.prog aE9 (aNw r)) (aNw r))
def bI5 (r:Bool×(List aA)):Exit→St→Prop:=(bN (wkK (avc Tryz.prog aEv (aLv r))) (aLv r))
def bNk (r:Bool×(List aA)):Exit→St→Prop:=(bP 5 (bI5 r))
def bOx (p1:aJ) (dI:Bool) (lG:(List aA)):St:=⟨[(0,(.ptr 1000000 0)),(3,(.ptr 3 0))],[(3,gD p1),(1000000,[(.tre 60017000),(vB dI)]),(60017000,[(.trc 3 (lG.map aL))])]⟩
abbrev aH9 (p1:aJ) (dI:Bool) (lG:(List aA)) (r:Bool×(List aA)):Prop:=avc Tryz.prog aKh (zU r) (bOx p1 dI lG)
def bLd (p1:aJ) (x19:Int) (kX:Bool) (kR:(List aA)):St:=⟨[(0,(.ptr 1000000 0)),(3,(.ptr 3 0)),(17,(eQ p1.items)),(18,(vI (p1.items.length:Int))),(19,(vI x19))],[(3,gD p1),(1000000,[(.tre 60025000),(vB kX)]),(60025000,[(.trc 3 (kR.map aL))])]⟩
abbrev aDt (p1:aJ) (x19:Int) (kX:Bool) (kR:(List aA)) (r:Bool×(List aA)):Prop:=avc Tryz.prog aDq (aQ7 r) (bLd p1 x19 kX kR)
def bIl (p1:aJ) (x19:Int) (lX:Bool) (mW:(List aA)):St:=⟨[(0,(.ptr 1000000 0)),(3,(.ptr 3 0)),(17,(eQ p1.items)),(18,(vI (p1.items.length:Int))),(19,(vI x19))],[(3,gD p1),(1000000,[(.tre 60077000),(vB lX)]),(60077000,[(.trc 3 (mW.map aL))])]⟩
abbrev aF8 (p1:aJ) (x19:Int) (lX:Bool) (mW:(List aA)) (r:Bool×(List aA)):Prop:=avc Tryz.prog aOi (bH9 r) (bIl p1 x19 lX mW)
def bLo (p1:aJ) (x49:Int) (kN:Bool) (kZ:(List aA)):St:=⟨[(0,(.ptr 1000000 0)),(3,(.ptr 3 0)),(47,(dZ p1.from_)),(48,(vI (p1.from_.length:Int))),(49,(vI x49))],[(3,gD p1),(1000000,[(.tre 60092000),(vB kN)]),(60092000,[(.trc 3 (kZ.map aL))])]⟩
abbrev aGe (p1:aJ) (x49:Int) (kN:Bool) (kZ:(List aA)) (r:Bool×(List aA)):Prop:=avc Tryz.prog aJq (cCb r) (bLo p1 x49 kN kZ)
def bBq (p1:aJ) (x66:Int) (iY:Bool) (jC:(List aA)):St:=⟨[(0,(.ptr 1000000 0)),(3,(.ptr 3 0)),(64,(eF p1.order)),(65,(vI (p1.order.length:Int))),(66,(vI x66))],[(3,gD p1),(1000000,[(.tre 60132000),(vB iY)]),(60132000,[(.trc 3 (jC.map aL))])]⟩
abbrev aIx (p1:aJ) (x66:Int) (iY:Bool) (jC:(List aA)) (r:Bool×(List aA)):Prop:=avc Tryz.prog aE9 (aNw r) (bBq p1 x66 iY jC)
def bEa (x66:Int) (p1:aJ) (y17:aX) (lF:Bool) (mZ:(List aA)):St:=⟨[(0,(.ptr 1000000 0)),(3,(.ptr 3 0)),(8,(vI x66)),(9,(.ptr 9 0)),(64,(eF p1.order)),(65,(vI (p1.order.length:Int))),(66,(vI x66))],[(3,gD p1),(9,aVa y17),(1000000,[(.tre 60160000),(vB lF)]),(60160000,[(.trc 3 (mZ.map aL))])]⟩
abbrev aFw (x66:Int) (p1:aJ) (y17:aX) (lF:Bool) (mZ:(List aA)) (r:Bool×(List aA)):Prop:=avc Tryz.prog aN5 (bNk r) (bEa x66 p1 y17 lF mZ)
def bT0 (p1:aJ) (x66:Int) (mR:Bool) (mJ:(List aA)):St:=⟨[(0,(.ptr 1000000 0)),(3,(.ptr 3 0)),(64,(eF p1.order)),(65,(vI (p1.order.length:Int))),(66,(vI x66))],[(3,gD p1),(1000000,[(.tre 60180000),(vB mR)]),(60180000,[(.trc 3 (mJ.map aL))])]⟩
abbrev aE4 (p1:aJ) (x66:Int) (mR:Bool) (mJ:(List aA)) (r:Bool×(List aA)):Prop:=avc Tryz.prog aEv (aLv r) (bT0 p1 x66 mR mJ)
def bHy:AC:=(.seq (.ops [.mv 4 1,.bin 5 .neq 4 (.c (.d (.s (bs []))))]) (.cond 5 (.seq (.ops [.mv 6 0,.call (some 7) 52 [6,(.c (.d (.s (bs [65,83]))))]]) (.ops [.mv 8 0,.mv 9 1,.call (some 10) 49 [8,9]])) .skip))
theorem bVz:bC Tryz.prog 128=some (bHy,[],11):=by kernel_rfl
def cEd (r:Bool×(List aA)):Exit→St→Prop:=bA [] fun x b=>x=(fun (y:Bool×(List aA))=>(.tup [])) r∧bM ((fun (y:Bool×(List aA))=>[(1000000,[(.tre 15000000),(vB y.1)]),(3500000,[.trd]),(15000000,[(.trc 3 (y.2.map aL))])]) r) b
def bUt:AC:=(.seq (.ops [.mv 4 1,.len 5 4,.bin 6 .gtr 5 (kI 0)]) (.cond 6 (.seq (.ops [.mv 7 0,.call (some 8) 52 [7,(.c (.d (.s (bs [87,72,69,82,69]))))]]) (.ops [.mv 9 0,.mv 10 1,.ia 11 10 10 (kI 0),.ld 12 10 true 11,.call (some 13) 22 [9,12]])) .skip))
theorem bSx:bC Tryz.prog 130=some (bUt,[],14):=by kernel_rfl
def cHd (r:Bool×(List aA)):Exit→St→Prop:=bA [] fun x b=>x=(fun (y:Bool×(List aA))=>(.tup [])) r∧bM ((fun (y:Bool×(List aA))=>[(1000000,[(.tre 15000000),(vB y.1)]),(3500000,[.trd]),(15000000,[(.trc 3 (y.2.map aL))])]) r) b
def aN0:AC:=(.seq (.ops [.mv 19 0,.fa 20 0 5,.ld 21 1 false 20,.call (some 22) 49 [19,21]]) (.seq (.ops [.mv 23 0,.fa 24 1 5,.ld 25 1 false 24,.call (some 26) 128 [23,25]]) (.seq (.ops [.fa 27 2 5,.ld 28 1 false 27,.len 29 28,.bin 30 .gtr 29 (kI 0)]) (.cond 30 (.seq (.ops [.mv 31 0,.call (some 32) 52 [31,(.c (.d (.s (bs [79,78]))))]]) (.ops [.mv 33 0,.fa 34 2 5,.ld 35 1 false 34,.ia 36 10 35 (kI 0),.ld 37 10 true 36,.call (some 38) 22 [33,37]])) .skip))))
def bJs:AC:=(.seq (.ops [.box 5 127 2]) (.seq (.seq (.ops [.mv 6 1,.bin 7 .gtr 6 (kI 0),.mv 8 7,.g 8 true (.fa 9 2 5),.g 8 true (.ld 10 1 false 9),.g 8 true (.len 11 10),.g 8 true (.bin 12 .gtr 11 (kI 0)),.pick 13 8 12 (kB false)]) (.cond 13 (.ops [.mv 14 0,.call (some 15) 52 [14,(.c (.d (.s (bs [74,79,73,78]))))]]) (.ops [.mv 16 0,.mv 17 1,.call (some 18) 56 [16,17]]))) aN0))
theorem bUj:bC Tryz.prog 129=some (bJs,[],39):=by kernel_rfl
def bW6 (r:Bool×(List aA)):Exit→St→Prop:=bA [] fun x b=>x=(fun (y:Bool×(List aA))=>(.tup [])) r∧bM ((fun (y:Bool×(List aA))=>[(1000000,[(.tre 15000000),(vB y.1)]),(3500000,[.trd]),(15000000,[(.trc 3 (y.2.map aL))])]) r) b
def bZb (p2:aR) (dI:Bool) (mF:(List aA)):St:=⟨[(0,(.ptr 1000000 0)),(5,(.ptr 5 0))],[(5,bK1 p2),(1000000,[(.tre 60022000),(vB dI)]),(60022000,[(.trc 3 (mF.map aL))])]⟩
abbrev aIj (p2:aR) (dI:Bool) (mF:(List aA)) (r:Bool×(List aA)):Prop:=avc Tryz.prog aN0 (bW6 r) (bZb p2 dI mF)
def bWd:AC:=(.seq (.ops [.box 1 35 0,.asg 2 (kB false)]) (.seq (.dops [[],[0],[],[2,1],[1,3,3],[4,4],[5],[6,5,5],[5,7],[8,7,0,1,2,3,4,5,6,7,8]] [.ld 3 10 true 1,.call (some 4) 44 [3],.ld 5 10 true 1,.call (some 6) 45 [5],.call (some 7) 43 [4,6],.mv 8 7,.g 8 true (.ld 9 10 true 1),.g 8 true (.call (some 10) 46 [9]),.pick 11 8 10 (kB false),.asg 2 11]) .ret))
theorem bLz:bC Tryz.prog 21=some (bWd,[.mv 0 2],12):=by kernel_rfl
def cIr (r:Bool):Exit→St→Prop:=bA [.mv 0 2] fun x _=>x=(fun y=>(vB y)) r
def aNl:AC:=(.loop (.seq (.ops [.bin 12 .lss 11 10]) (.seq (.cond 12 .skip (.exit 0)) (.seq (.block 1 (.seq (.ops [.ia 13 10 9 11,.ld 14 10 true 13,.alc 5 qZ,.st 10 5 14]) (.ops [.mv 15 3,.ld 16 10 true 5,.call (some 17) 44 [16],.max 18 15 17,.asg 3 18]))) (.ops [.bin 19 .add 11 (kI 1),.mv 11 19])))))
def aNu:AC:=(.loop (.seq (.ops [.bin 24 .lss 23 22]) (.seq (.cond 24 .skip (.exit 2)) (.seq (.block 3 (.seq (.ops [.ia 25 6 21 23,.ld 26 6 true 25,.alc 7 wX,.st 6 7 26]) (.ops [.mv 27 3,.ld 28 6 true 7,.call (some 29) 80 [28],.max 30 27 29,.asg 3 30]))) (.ops [.bin 31 .add 23 (kI 1),.mv 23 31])))))
def aW8:AC:=(.seq (.ops [.mv 32 3,.bin 33 .add (kI 1) 32,.asg 2 33]) .ret)
def aUx:AC:=(.seq (.seq (.ops [.fa 20 9 1,.ld 21 1 false 20,.len 22 21,.mv 23 (kI 0)]) (.block 2 aNu)) aW8)
def bF1:AC:=(.seq (.ops [.box 1 35 0,.asg 2 (kI 0)]) (.seq (.ops [.asg 3 (kI 0)]) (.seq (.seq (.ops [.fa 8 8 1,.ld 9 1 false 8,.len 10 9,.mv 11 (kI 0)]) (.block 0 aNl)) aUx)))
theorem bUs:bC Tryz.prog 44=some (bF1,[.mv 0 2],34):=by kernel_rfl
def aF1 (r:Int):Exit→St→Prop:=bA [.mv 0 2] fun x _=>x=(fun y=>(vI y)) r
def bOj (r:Int):Exit→St→Prop:=(bN (wkK (avc Tryz.prog aUx (aF1 r))) (aF1 r))
def cC3 (r:Int):Exit→St→Prop:=(bP 0 (bOj r))
def bK2 (r:Int):Exit→St→Prop:=(bN (wkK (avc Tryz.prog aW8 (aF1 r))) (aF1 r))
def bXr (r:Int):Exit→St→Prop:=(bP 2 (bK2 r))
def bZ9 (p0:aB) (x3:Int) (x11:Int):St:=⟨[(1,(.ptr 1 0)),(3,(vI x3)),(9,(bX p0.kids)),(10,(vI (p0.kids.length:Int))),(11,(vI x11))],[(1,kL p0)]⟩
abbrev aF7 (p0:aB) (x3:Int) (x11:Int) (r:Int):Prop:=avc Tryz.prog aNl (cC3 r) (bZ9 p0 x3 x11)
def bNf (p0:aB) (fV:Int) (x23:Int):St:=⟨[(3,(vI fV)),(21,(eG p0.sub)),(22,(vI (p0.sub.length:Int))),(23,(vI x23))],[]⟩
abbrev aEp (p0:aB) (fV:Int) (x23:Int) (r:Int):Prop:=avc Tryz.prog aNu (bXr r) (bNf p0 fV x23)
def bVe:AC:=(.seq (.ops [.box 1 79 0,.asg 2 (kI 0)]) (.seq (.ops [.ld 3 6 true 1,.call (some 4) 114 [3],.call (some 5) 113 [4],.asg 2 5]) .ret))
theorem cDh:bC Tryz.prog 80=some (bVe,[.mv 0 2],6):=by kernel_rfl
def cGk (r:Int):Exit→St→Prop:=bA [.mv 0 2] fun x _=>x=(fun y=>(vI y)) r
def aP2:AC:=(.ops [.bin 26 .add 14 (kI 1),.mv 14 26])
def aHd:AC:=(.loop (.seq (.ops [.bin 15 .lss 14 13]) (.seq (.cond 15 .skip (.exit 0)) (.seq (.block 1 (.seq (.ops [.ia 16 13 12 14,.ld 17 13 true 16,.alc 5 pO,.st 13 5 17]) (.seq (.ops [.fa 18 0 5,.ld 19 1 false 18,.not 20 19]) (.cond 20 (.ops [.mv 21 3,.fa 22 2 5,.ld 23 10 true 22,.bsl 24 35 10 [23],.app 25 35 10 136 21 24,.asg 3 25]) .skip)))) aP2))))
def aKw:AC:=(.loop (.seq (.ops [.bin 31 .lss 30 29]) (.seq (.cond 31 .skip (.exit 2)) (.seq (.block 3 (.seq (.ops [.ia 32 3 28 30,.ld 33 3 true 32,.alc 7 [dL,dL,(.nil 10)],.st 3 7 33]) (.ops [.mv 34 3,.fa 35 2 7,.ld 36 1 false 35,.app 37 35 10 136 34 36,.asg 3 37]))) (.ops [.bin 38 .add 30 (kI 1),.mv 30 38])))))
def aL7:AC:=(.loop (.seq (.ops [.bin 47 .lss 46 45]) (.seq (.cond 47 .skip (.exit 4)) (.seq (.block 5 (.seq (.ops [.ia 48 11 44 46,.ld 49 11 true 48,.alc 9 xD,.st 11 9 49]) (.ops [.mv 50 3,.fa 51 0 9,.ld 52 10 true 51,.bsl 53 35 10 [52],.app 54 35 10 136 50 53,.asg 3 54]))) (.ops [.bin 55 .add 46 (kI 1),.mv 46 55])))))
def bBo:AC:=(.seq (.ops [.mv 56 3,.asg 2 56]) .ret)
def aS1:AC:=(.seq (.ops [.mv 39 3,.fa 40 3 1,.ld 41 1 false 40,.app 42 35 10 136 39 41,.asg 3 42]) (.seq (.seq (.ops [.fa 43 4 1,.ld 44 1 false 43,.len 45 44,.mv 46 (kI 0)]) (.block 4 aL7)) bBo))
def bAl:AC:=(.seq (.seq (.ops [.fa 27 2 1,.ld 28 1 false 27,.len 29 28,.mv 30 (kI 0)]) (.block 2 aKw)) aS1)
def bKm:AC:=(.seq (.ops [.box 1 79 0,.asg 2 (.c (.nil 10))]) (.seq (.ops [.bsl 10 35 10 [],.asg 3 10]) (.seq (.seq (.ops [.fa 11 1 1,.ld 12 1 false 11,.len 13 12,.mv 14 (kI 0)]) (.block 0 aHd)) bAl)))
theorem bJ0:bC Tryz.prog 114=some (bKm,[.mv 0 2],57):=by kernel_rfl
def J2 (r:(List aB)):Exit→St→Prop:=bA [.mv 0 2] fun x b=>x=(fun (y:(List aB))=>(.osl 2000000 35 10 (y.map bD))) r∧bM ((fun (y:(List aB))=>[]) r) b
def bSz (r:(List aB)):Exit→St→Prop:=(bN (wkK (avc Tryz.prog bAl (J2 r))) (J2 r))
def aN7 (r:(List aB)):Exit→St→Prop:=(bP 0 (bSz r))
def bNx (r:(List aB)):Exit→St→Prop:=(bN (avc Tryz.prog aHd (aN7 r)) (aN7 r))
def bIw (r:(List aB)):Exit→St→Prop:=(bN (wkK (avc Tryz.prog aS1 (J2 r))) (J2 r))
def bIr (r:(List aB)):Exit→St→Prop:=(bP 2 (bIw r))
def bYn (r:(List aB)):Exit→St→Prop:=(bN (wkK (avc Tryz.prog bBo (J2 r))) (J2 r))
def bZu (r:(List aB)):Exit→St→Prop:=(bP 4 (bYn r))
def cAy (p0:aJ) (x3:(List aB)) (x14:Int):St:=⟨[(1,(.ptr 1 0)),(3,(.osl 3 35 10 (x3.map bD))),(12,(eQ p0.items)),(13,(vI (p0.items.length:Int))),(14,(vI x14))],[(1,gD p0)]⟩
abbrev aEa (p0:aJ) (x3:(List aB)) (x14:Int) (r:(List aB)):Prop:=avc Tryz.prog aHd (aN7 r) (cAy p0 x3 x14)
def bF3 (p0:aJ) (x14:Int) (fV:(List aB)):St:=⟨[(1,(.ptr 1 0)),(3,(.osl 3 35 10 (fV.map bD))),(12,(eQ p0.items)),(13,(vI (p0.items.length:Int))),(14,(vI x14))],[(1,gD p0)]⟩
abbrev aH3 (p0:aJ) (x14:Int) (fV:(List aB)) (r:(List aB)):Prop:=avc Tryz.prog aP2 (bNx r) (bF3 p0 x14 fV)
def bP5 (p0:aJ) (dX:(List aB)) (x30:Int):St:=⟨[(1,(.ptr 1 0)),(3,(.osl 3 35 10 (dX.map bD))),(28,(dZ p0.from_)),(29,(vI (p0.from_.length:Int))),(30,(vI x30))],[(1,gD p0)]⟩
abbrev aFm (p0:aJ) (dX:(List aB)) (x30:Int) (r:(List aB)):Prop:=avc Tryz.prog aKw (bIr r) (bP5 p0 dX x30)
def bI4 (p0:aJ) (kG:(List aB)) (x46:Int):St:=⟨[(3,(.osl 3 35 10 (kG.map bD))),(44,(eF p0.order)),(45,(vI (p0.order.length:Int))),(46,(vI x46))],[]⟩
abbrev aJb (p0:aJ) (kG:(List aB)) (x46:Int) (r:(List aB)):Prop:=avc Tryz.prog aL7 (bZu r) (bI4 p0 kG x46)
def aKk:AC:=(.loop (.seq (.ops [.bin 9 .lss 8 7]) (.seq (.cond 9 .skip (.exit 0)) (.seq (.block 1 (.seq (.ops [.ia 10 10 6 8,.ld 11 10 true 10,.alc 5 qZ,.st 10 5 11]) (.ops [.mv 12 3,.ld 13 10 true 5,.call (some 14) 44 [13],.max 15 12 14,.asg 3 15]))) (.ops [.bin 16 .add 8 (kI 1),.mv 8 16])))))
def bAc:AC:=(.seq (.ops [.mv 17 3,.asg 2 17]) .ret)
def bEv:AC:=(.seq (.ops [.asg 2 (kI 0)]) (.seq (.ops [.asg 3 (kI 0)]) (.seq (.seq (.ops [.mv 6 0,.len 7 6,.mv 8 (kI 0)]) (.block 0 aKk)) bAc)))
theorem bNm:bC Tryz.prog 113=some (bEv,[.mv 0 2],18):=by kernel_rfl
def aVo (r:Int):Exit→St→Prop:=bA [.mv 0 2] fun x _=>x=(fun y=>(vI y)) r
def bGc (r:Int):Exit→St→Prop:=(bN (wkK (avc Tryz.prog bAc (aVo r))) (aVo r))
def cC7 (r:Int):Exit→St→Prop:=(bP 0 (bGc r))
def bDq (p0:(List aB)) (x3:Int) (x8:Int):St:=⟨[(3,(vI x3)),(6,(bX p0)),(7,(vI (p0.length:Int))),(8,(vI x8))],[]⟩
abbrev aFq (p0:(List aB)) (x3:Int) (x8:Int) (r:Int):Prop:=avc Tryz.prog aKk (cC7 r) (bDq p0 x3 x8)
def bG1:AC:=(.seq (.ops [.box 1 35 0,.asg 2 (kB false)]) (.seq (.ops [.ld 6 10 true 1,.call (some 7) 83 [6],.mv 5 7,.ext 8 5 0,.ext 9 5 1,.alc 3 aZj,.st 7 3 8,.asg 4 9]) (.seq (.seq (.ops [.mv 10 4,.not 11 10,.mv 12 11,.g 12 false (.fa 13 0 3),.g 12 false (.ld 14 1 false 13),.g 12 false (.not 15 14),.g 12 false (.mv 16 15),.g 16 true (.fa 17 1 1),.g 16 true (.ld 18 1 false 17),.g 16 true (.bin 19 .neq 18 (kI 0)),.g 12 false (.pick 20 16 19 (kB false)),.pick 21 12 (kB true) 20,.mv 22 21,.g 22 false (.fa 23 1 3),.g 22 false (.ld 24 1 false 23),.g 22 false (.not 25 24),.g 22 false (.mv 26 25),.g 26 true (.fa 27 2 1),.g 26 true (.ld 28 1 false 27),.g 22 false (.pick 29 26 28 (kB false)),.pick 30 22 (kB true) 29,.mv 31 30,.g 31 false (.fa 32 2 3),.g 31 false (.ld 33 1 false 32),.g 31 false (.not 34 33),.g 31 false (.mv 35 34),.g 35 true (.fa 36 3 1),.g 35 true (.ld 37 3 true 36),.g 35 true (.bld 38 [bS,bS,dL] []),.g 35 true (.eqv 39 true [0,0,1] 37 38),.g 31 false (.pick 40 35 39 (kB false)),.pick 41 31 (kB true) 40,.mv 42 41,.g 42 false (.fa 43 3 3),.g 42 false (.ld 44 1 false 43),.g 42 false (.not 45 44),.g 42 false (.mv 46 45),.g 46 true (.fa 47 6 1),.g 46 true (.ld 48 1 false 47),.g 46 true (.bin 49 .neq 48 (.c (.d (.s (bs []))))),.g 46 true (.mv 50 49),.g 50 false (.fa 51 7 1),.g 50 false (.ld 52 1 false 51),.g 50 false (.bin 53 .neq 52 (.c (.d (.s (bs []))))),.g 46 true (.pick 54 50 (kB true) 53),.g 42 false (.pick 55 46 54 (kB false)),.pick 56 42 (kB true) 55]) (.cond 56 (.seq (.ops [.asg 2 (kB false)]) .ret) .skip)) (.seq (.seq (.ops [.fa 57 8 1,.ld 58 1 false 57,.len 59 58,.fa 60 4 3,.ld 61 1 false 60,.bin 62 .lss 59 61,.mv 63 62,.g 63 false (.fa 64 8 1),.g 63 false (.ld 65 1 false 64),.g 63 false (.len 66 65),.g 63 false (.fa 67 5 3),.g 63 false (.ld 68 1 false 67),.g 63 false (.bin 69 .gtr 66 68),.pick 70 63 (kB true) 69,.mv 71 70,.g 71 false (.fa 72 9 1),.g 71 false (.ld 73 1 false 72),.g 71 false (.len 74 73),.g 71 false (.fa 75 6 3),.g 71 false (.ld 76 1 false 75),.g 71 false (.bin 77 .neq 74 76),.pick 78 71 (kB true) 77]) (.cond 78 (.seq (.ops [.asg 2 (kB false)]) .ret) .skip)) (.seq (.ops [.fa 79 8 1,.ld 80 1 false 79,.call (some 81) 84 [80],.mv 82 81,.g 82 true (.fa 83 9 1),.g 82 true (.ld 84 1 false 83),.g 82 true (.call (some 85) 85 [84,(.c (.fn 86 []))]),.g 82 true (.not 86 85),.pick 87 82 86 (kB false),.asg 2 87]) .ret)))))
theorem bLr:bC Tryz.prog 46=some (bG1,[.mv 0 2],88):=by kernel_rfl
def cEu (r:Bool):Exit→St→Prop:=bA [.mv 0 2] fun x _=>x=(fun y=>(vB y)) r
def bRp:AC:=(.seq (.ops [.asg 2 (kB false)]) (.seq (.ops [.mv 3 0,.call (some 4) 117 [3,(.c (.fn 118 []))],.not 5 4,.asg 2 5]) .ret))
theorem bYm:bC Tryz.prog 84=some (bRp,[.mv 0 2],6):=by kernel_rfl
def cI1 (r:Bool):Exit→St→Prop:=bA [.mv 0 2] fun x _=>x=(fun y=>(vB y)) r
def bM7:AC:=(.seq (.ops [.asg 4 (kB false)]) (.seq (.ops [.mv 5 0,.mv 6 1,.call (some 7) 137 [5,6],.bin 8 .geq 7 (kI 0),.asg 4 8]) .ret))
theorem bYh:bC Tryz.prog 117=some (bM7,[.mv 0 4],9):=by kernel_rfl
def cEl (r:Bool):Exit→St→Prop:=bA [.mv 0 4] fun x _=>x=(fun y=>(vB y)) r
def aQ8:AC:=(.loop (.seq (.ops [.bin 9 .lss 8 7]) (.seq (.cond 9 .skip (.exit 0)) (.seq (.block 1 (.seq (.ops [.mv 10 8,.asg 5 10]) (.seq (.ops [.mv 11 1,.mv 12 0,.mv 13 5,.ia 14 10 12 13,.ld 15 10 true 14,.callv (some 16) 11 [15]]) (.cond 16 (.seq (.ops [.mv 17 5,.asg 4 17]) .ret) .skip)))) (.ops [.bin 18 .add 8 (kI 1),.mv 8 18])))))
def aXw:AC:=(.seq (.ops [.asg 4 (kI (-1))]) .ret)
def cCz:AC:=(.seq (.ops [.asg 4 (kI 0)]) (.seq (.seq (.ops [.mv 6 0,.len 7 6,.mv 8 (kI 0)]) (.block 0 aQ8)) aXw))
theorem bPu:bC Tryz.prog 137=some (cCz,[.mv 0 4],19):=by kernel_rfl
def aYs (r:Int):Exit→St→Prop:=bA [.mv 0 4] fun x _=>x=(fun y=>(vI y)) r
def bV4 (r:Int):Exit→St→Prop:=(bN (wkK (avc Tryz.prog aXw (aYs r))) (aYs r))
def bPv (r:Int):Exit→St→Prop:=(bP 0 (bV4 r))
def bY9 (p0:(List aB)) (x8:Int):St:=⟨[(0,(bX p0)),(1,(.fn 118 [])),(7,(vI (p0.length:Int))),(8,(vI x8))],[]⟩
abbrev aDc (p0:(List aB)) (x8:Int) (r:Int):Prop:=avc Tryz.prog aQ8 (bPv r) (bY9 p0 x8)
def bWi:AC:=(.seq (.ops [.box 1 35 0,.asg 2 (kB false)]) (.seq (.ops [.ld 3 10 true 1,.call (some 4) 46 [3],.not 5 4,.asg 2 5]) .ret))
theorem cCm:bC Tryz.prog 118=some (bWi,[.mv 0 2],6):=by kernel_rfl
def cGm (r:Bool):Exit→St→Prop:=bA [.mv 0 2] fun x _=>x=(fun y=>(vB y)) r
def bUb:AC:=(.seq (.ops [.asg 4 (kB false)]) (.seq (.ops [.mv 5 0,.mv 6 1,.call (some 7) 119 [5,6],.bin 8 .geq 7 (kI 0),.asg 4 8]) .ret))
theorem bYi:bC Tryz.prog 85=some (bUb,[.mv 0 4],9):=by kernel_rfl
def cIn (r:Bool):Exit→St→Prop:=bA [.mv 0 4] fun x _=>x=(fun y=>(vB y)) r
def aKc:AC:=(.loop (.seq (.ops [.bin 9 .lss 8 7]) (.seq (.cond 9 .skip (.exit 0)) (.seq (.block 1 (.seq (.ops [.mv 10 8,.asg 5 10]) (.seq (.ops [.mv 11 1,.mv 12 0,.mv 13 5,.ia 14 6 12 13,.ld 15 6 true 14,.callv (some 16) 11 [15]]) (.cond 16 (.seq (.ops [.mv 17 5,.asg 4 17]) .ret) .skip)))) (.ops [.bin 18 .add 8 (kI 1),.mv 8 18])))))
def aV4:AC:=(.seq (.ops [.asg 4 (kI (-1))]) .ret)
def bJe:AC:=(.seq (.ops [.asg 4 (kI 0)]) (.seq (.seq (.ops [.mv 6 0,.len 7 6,.mv 8 (kI 0)]) (.block 0 aKc)) aV4))
theorem bUf:bC Tryz.prog 119=some (bJe,[.mv 0 4],19):=by kernel_rfl
def bAo (r:Int):Exit→St→Prop:=bA [.mv 0 4] fun x _=>x=(fun y=>(vI y)) r
def bVw (r:Int):Exit→St→Prop:=(bN (wkK (avc Tryz.prog aV4 (bAo r))) (bAo r))
def bL1 (r:Int):Exit→St→Prop:=(bP 0 (bVw r))
def bTg (p0:(List aJ)) (x8:Int):St:=⟨[(0,(eG p0)),(1,(.fn 86 [])),(7,(vI (p0.length:Int))),(8,(vI x8))],[]⟩
abbrev aHu (p0:(List aJ)) (x8:Int) (r:Int):Prop:=avc Tryz.prog aKc (bL1 r) (bTg p0 x8)
def bXo:AC:=(.seq (.ops [.box 1 79 0,.asg 2 (kB false)]) (.seq (.ops [.ld 3 6 true 1,.call (some 4) 87 [3],.not 5 4,.asg 2 5]) .ret))
theorem bWw:bC Tryz.prog 86=some (bXo,[.mv 0 2],6):=by kernel_rfl
def cIi (r:Bool):Exit→St→Prop:=bA [.mv 0 2] fun x _=>x=(fun y=>(vB y)) r
def aMj:AC:=(.loop (.seq (.ops [.bin 50 .lss 49 48]) (.seq (.cond 50 .skip (.exit 0)) (.seq (.block 1 (.seq (.ops [.ia 51 13 47 49,.ld 52 13 true 51,.alc 4 pO,.st 13 4 52]) (.seq (.ops [.fa 53 0 4,.ld 54 1 false 53,.mv 55 54,.g 55 true (.fa 56 1 4),.g 55 true (.ld 57 1 false 56),.g 55 true (.call (some 58) 120 [57]),.g 55 true (.not 59 58),.g 55 true (.mv 60 59),.g 60 false (.fa 61 12 4),.g 60 false (.ld 62 1 false 61),.g 60 false (.bin 63 .neq 62 (.c (.d (.s (bs []))))),.g 55 true (.pick 64 60 (kB true) 63),.g 55 true (.mv 65 64),.g 65 false (.fa 66 2 4),.g 65 false (.ld 67 10 true 66),.g 65 false (.call (some 68) 121 [67]),.g 65 false (.not 69 68),.g 55 true (.pick 70 65 (kB true) 69),.pick 71 55 70 (kB false),.mv 72 71,.g 72 false (.fa 73 0 4),.g 72 false (.ld 74 1 false 73),.g 72 false (.not 75 74),.g 72 false (.mv 76 75),.g 76 true (.fa 77 1 4),.g 76 true (.ld 78 1 false 77),.g 76 true (.bin 79 .neq 78 (.c (.d (.s (bs []))))),.g 76 true (.mv 80 79),.g 80 false (.fa 81 12 4),.g 80 false (.ld 82 1 false 81),.g 80 false (.call (some 83) 120 [82]),.g 80 false (.not 84 83),.g 76 true (.pick 85 80 (kB true) 84),.g 72 false (.pick 86 76 85 (kB false)),.pick 87 72 (kB true) 86]) (.cond 87 (.seq (.ops [.asg 2 (kB false)]) .ret) .skip)))) (.ops [.bin 88 .add 49 (kI 1),.mv 49 88])))))
def aOx:AC:=(.loop (.seq (.ops [.bin 93 .lss 92 91]) (.seq (.cond 93 .skip (.exit 2)) (.seq (.block 3 (.seq (.ops [.mv 94 92,.ia 95 3 90 92,.ld 96 3 true 95,.alc 6 [dL,dL,(.nil 10)],.asg 5 94,.st 3 6 96]) (.seq (.ops [.fa 97 0 6,.ld 98 1 false 97,.call (some 99) 116 [98],.not 100 99,.mv 101 100,.g 101 false (.fa 102 1 6),.g 101 false (.ld 103 1 false 102),.g 101 false (.call (some 104) 120 [103]),.g 101 false (.not 105 104),.pick 106 101 (kB true) 105,.mv 107 106,.g 107 false (.fa 108 2 6),.g 107 false (.ld 109 1 false 108),.g 107 false (.len 110 109),.g 107 false (.bin 111 .gtr 110 (kI 1)),.pick 112 107 (kB true) 111,.mv 113 112,.g 113 false (.mv 114 5),.g 113 false (.bin 115 .eql 114 (kI 0)),.g 113 false (.mv 116 115),.g 116 true (.fa 117 2 6),.g 116 true (.ld 118 1 false 117),.g 116 true (.len 119 118),.g 116 true (.bin 120 .gtr 119 (kI 0)),.g 113 false (.pick 121 116 120 (kB false)),.pick 122 113 (kB true) 121]) (.cond 122 (.seq (.ops [.asg 2 (kB false)]) .ret) .skip)))) (.ops [.bin 123 .add 92 (kI 1),.mv 92 123])))))
def aXv:AC:=(.seq (.ops [.ld 124 6 true 1,.call (some 125) 114 [124],.call (some 126) 84 [125],.asg 2 126]) .ret)
def aT4:AC:=(.seq (.seq (.ops [.fa 89 2 1,.ld 90 1 false 89,.len 91 90,.mv 92 (kI 0)]) (.block 2 aOx)) aXv)
def bRa:AC:=(.seq (.ops [.box 1 79 0,.asg 2 (kB false)]) (.seq (.seq (.ops [.fa 7 1 1,.ld 8 1 false 7,.len 9 8,.bin 10 .lss 9 (kI 1),.mv 11 10,.g 11 false (.fa 12 1 1),.g 11 false (.ld 13 1 false 12),.g 11 false (.len 14 13),.g 11 false (.bin 15 .gtr 14 (kI 12)),.pick 16 11 (kB true) 15,.mv 17 16,.g 17 false (.fa 18 2 1),.g 17 false (.ld 19 1 false 18),.g 17 false (.len 20 19),.g 17 false (.bin 21 .lss 20 (kI 1)),.pick 22 17 (kB true) 21,.mv 23 22,.g 23 false (.fa 24 2 1),.g 23 false (.ld 25 1 false 24),.g 23 false (.len 26 25),.g 23 false (.bin 27 .gtr 26 (kI 3)),.pick 28 23 (kB true) 27,.mv 29 28,.g 29 false (.fa 30 3 1),.g 29 false (.ld 31 1 false 30),.g 29 false (.len 32 31),.g 29 false (.bin 33 .gtr 32 (kI 1)),.pick 34 29 (kB true) 33,.mv 35 34,.g 35 false (.fa 36 4 1),.g 35 false (.ld 37 1 false 36),.g 35 false (.len 38 37),.g 35 false (.bin 39 .gtr 38 (kI 12)),.pick 40 35 (kB true) 39,.mv 41 40,.g 41 false (.fa 42 5 1),.g 41 false (.ld 43 1 false 42),.g 41 false (.bin 44 .lss 43 (kI (-1))),.pick 45 41 (kB true) 44]) (.cond 45 (.seq (.ops [.asg 2 (kB false)]) .ret) .skip)) (.seq (.seq (.ops [.fa 46 1 1,.ld 47 1 false 46,.len 48 47,.mv 49 (kI 0)]) (.block 0 aMj)) aT4)))
theorem bX9:bC Tryz.prog 87=some (bRa,[.mv 0 2],127):=by kernel_rfl
def aHi (r:Bool):Exit→St→Prop:=bA [.mv 0 2] fun x _=>x=(fun y=>(vB y)) r
def cC4 (r:Bool):Exit→St→Prop:=(bN (wkK (avc Tryz.prog aT4 (aHi r))) (aHi r))
def bYk (r:Bool):Exit→St→Prop:=(bP 0 (cC4 r))
def bZy (r:Bool):Exit→St→Prop:=(bN (wkK (avc Tryz.prog aXv (aHi r))) (aHi r))
def cA8 (r:Bool):Exit→St→Prop:=(bP 2 (bZy r))
def bVn (p0:aJ) (x49:Int):St:=⟨[(1,(.ptr 1 0)),(47,(eQ p0.items)),(48,(vI (p0.items.length:Int))),(49,(vI x49))],[(1,gD p0)]⟩
abbrev aGh (p0:aJ) (x49:Int) (r:Bool):Prop:=avc Tryz.prog aMj (bYk r) (bVn p0 x49)
def bM8 (p0:aJ) (x92:Int):St:=⟨[(1,(.ptr 1 0)),(90,(dZ p0.from_)),(91,(vI (p0.from_.length:Int))),(92,(vI x92))],[(1,gD p0)]⟩
abbrev aG0 (p0:aJ) (x92:Int) (r:Bool):Prop:=avc Tryz.prog aOx (cA8 r) (bM8 p0 x92)
def cBa:AC:=(.seq (.ops [.asg 2 (kB false)]) (.seq (.ops [.mv 3 0,.lns 4 3,.bin 5 .geq 4 (kI 1),.mv 6 5,.g 6 true (.mv 7 0),.g 6 true (.lns 8 7),.g 6 true (.bin 9 .leq 8 (kI 20)),.pick 10 6 9 (kB false),.asg 2 10]) .ret))
theorem bH2:bC Tryz.prog 116=some (cBa,[.mv 0 2],11):=by kernel_rfl
def cId (r:Bool):Exit→St→Prop:=bA [.mv 0 2] fun x _=>x=(fun y=>(vB y)) r
def bLj:AC:=(.seq (.ops [.box 1 35 0,.asg 2 (kB false)]) (.seq (.ops [.ld 3 10 true 1,.bld 4 [bS,bS,dR,bS,bS,dL,dL,dL,(.nil 10),(.nil 6)] [],.call (some 5) 138 [3,4],.asg 2 5]) .ret))
theorem bJx:bC Tryz.prog 121=some (bLj,[.mv 0 2],6):=by kernel_rfl
def cEy (r:Bool):Exit→St→Prop:=bA [.mv 0 2] fun x _=>x=(fun y=>(vB y)) r
def bNo:AC:=(.seq (.ops [.box 2 35 0,.box 3 35 1,.asg 4 (kB false)]) (.seq (.ops [.fa 5 0 2,.ld 6 1 false 5,.fa 7 0 3,.ld 8 1 false 7,.bin 9 .eql 6 8,.mv 10 9,.g 10 true (.fa 11 1 2),.g 10 true (.ld 12 1 false 11),.g 10 true (.fa 13 1 3),.g 10 true (.ld 14 1 false 13),.g 10 true (.bin 15 .eql 12 14),.pick 16 10 15 (kB false),.mv 17 16,.g 17 true (.fa 18 2 2),.g 17 true (.ld 19 1 false 18),.g 17 true (.fa 20 2 3),.g 17 true (.ld 21 1 false 20),.g 17 true (.eqb 22 false 19 21),.pick 23 17 22 (kB false),.mv 24 23,.g 24 true (.fa 25 3 2),.g 24 true (.ld 26 3 true 25),.g 24 true (.fa 27 3 3),.g 24 true (.ld 28 3 true 27),.g 24 true (.eqv 29 false [0,0,1] 26 28),.pick 30 24 29 (kB false),.mv 31 30,.g 31 true (.fa 32 6 2),.g 31 true (.ld 33 1 false 32),.g 31 true (.fa 34 6 3),.g 31 true (.ld 35 1 false 34),.g 31 true (.bin 36 .eql 33 35),.pick 37 31 36 (kB false),.mv 38 37,.g 38 true (.fa 39 7 2),.g 38 true (.ld 40 1 false 39),.g 38 true (.fa 41 7 3),.g 38 true (.ld 42 1 false 41),.g 38 true (.bin 43 .eql 40 42),.pick 44 38 43 (kB false),.mv 45 44,.g 45 true (.fa 46 8 2),.g 45 true (.ld 47 1 false 46),.g 45 true (.fa 48 8 3),.g 45 true (.ld 49 1 false 48),.g 45 true (.call (some 50) 144 [47,49]),.pick 51 45 50 (kB false),.mv 52 51,.g 52 true (.fa 53 9 2),.g 52 true (.ld 54 1 false 53),.g 52 true (.fa 55 9 3),.g 52 true (.ld 56 1 false 55),.g 52 true (.call (some 57) 145 [54,56,(.c (.fn 146 []))]),.pick 58 52 57 (kB false),.asg 4 58]) .ret))
theorem bYf:bC Tryz.prog 138=some (bNo,[.mv 0 4],59):=by kernel_rfl
def cFk (r:Bool):Exit→St→Prop:=bA [.mv 0 4] fun x _=>x=(fun y=>(vB y)) r
def cAz:AC:=(.seq (.ops [.asg 4 (kB false)]) (.seq (.ops [.mv 5 0,.mv 6 1,.call (some 7) 153 [5,6,(.c (.fn 138 []))],.asg 4 7]) .ret))
theorem bY4:bC Tryz.prog 144=some (cAz,[.mv 0 4],8):=by kernel_rfl
def cJf (r:Bool):Exit→St→Prop:=bA [.mv 0 4] fun x _=>x=(fun y=>(vB y)) r
def aNa:AC:=(.loop (.seq (.ops [.bin 18 .lss 17 16]) (.seq (.cond 18 .skip (.exit 0)) (.seq (.block 1 (.seq (.ops [.mv 19 17,.ia 20 10 15 17,.ld 21 10 true 20,.alc 8 qZ,.asg 7 19,.st 10 8 21]) (.seq (.ops [.mv 22 1,.mv 23 7,.ia 24 10 22 23,.ld 25 10 true 24,.alc 9 qZ,.st 10 9 25]) (.seq (.ops [.mv 26 2,.ld 27 10 true 8,.ld 28 10 true 9,.callv (some 29) 26 [27,28],.not 30 29]) (.cond 30 (.seq (.ops [.asg 6 (kB false)]) .ret) .skip))))) (.ops [.bin 31 .add 17 (kI 1),.mv 17 31])))))
def aZv:AC:=(.seq (.ops [.asg 6 (kB true)]) .ret)
def bNc:AC:=(.seq (.ops [.asg 6 (kB false)]) (.seq (.seq (.ops [.mv 10 0,.len 11 10,.mv 12 1,.len 13 12,.bin 14 .neq 11 13]) (.cond 14 (.seq (.ops [.asg 6 (kB false)]) .ret) .skip)) (.seq (.seq (.ops [.mv 15 0,.len 16 15,.mv 17 (kI 0)]) (.block 0 aNa)) aZv)))
theorem bFa:bC Tryz.prog 153=some (bNc,[.mv 0 6],32):=by kernel_rfl
def aX8 (r:Bool):Exit→St→Prop:=bA [.mv 0 6] fun x _=>x=(fun y=>(vB y)) r
def bI7 (r:Bool):Exit→St→Prop:=(bN (wkK (avc Tryz.prog aZv (aX8 r))) (aX8 r))
def cCt (r:Bool):Exit→St→Prop:=(bP 0 (bI7 r))
def bId (p1:(List aB)) (p0:(List aB)) (x17:Int):St:=⟨[(1,(bX p1)),(2,(.fn 138 [])),(15,(bX p0)),(16,(vI (p0.length:Int))),(17,(vI x17))],[]⟩
abbrev aDo (p1:(List aB)) (p0:(List aB)) (x17:Int) (r:Bool):Prop:=avc Tryz.prog aNa (cCt r) (bId p1 p0 x17)
def aMo:AC:=(.loop (.seq (.ops [.bin 18 .lss 17 16]) (.seq (.cond 18 .skip (.exit 0)) (.seq (.block 1 (.seq (.ops [.mv 19 17,.ia 20 6 15 17,.ld 21 6 true 20,.alc 8 wX,.asg 7 19,.st 6 8 21]) (.seq (.ops [.mv 22 1,.mv 23 7,.ia 24 6 22 23,.ld 25 6 true 24,.alc 9 wX,.st 6 9 25]) (.seq (.ops [.mv 26 2,.ld 27 6 true 8,.ld 28 6 true 9,.callv (some 29) 26 [27,28],.not 30 29]) (.cond 30 (.seq (.ops [.asg 6 (kB false)]) .ret) .skip))))) (.ops [.bin 31 .add 17 (kI 1),.mv 17 31])))))
def aZ5:AC:=(.seq (.ops [.asg 6 (kB true)]) .ret)
def bO1:AC:=(.seq (.ops [.asg 6 (kB false)]) (.seq (.seq (.ops [.mv 10 0,.len 11 10,.mv 12 1,.len 13 12,.bin 14 .neq 11 13]) (.cond 14 (.seq (.ops [.asg 6 (kB false)]) .ret) .skip)) (.seq (.seq (.ops [.mv 15 0,.len 16 15,.mv 17 (kI 0)]) (.block 0 aMo)) aZ5)))
theorem bEf:bC Tryz.prog 145=some (bO1,[.mv 0 6],32):=by kernel_rfl
def aSx (r:Bool):Exit→St→Prop:=bA [.mv 0 6] fun x _=>x=(fun y=>(vB y)) r
def bPd (r:Bool):Exit→St→Prop:=(bN (wkK (avc Tryz.prog aZ5 (aSx r))) (aSx r))
def bOv (r:Bool):Exit→St→Prop:=(bP 0 (bPd r))
def bIo (p1:(List aJ)) (p0:(List aJ)) (x17:Int):St:=⟨[(1,(eG p1)),(2,(.fn 146 [])),(15,(eG p0)),(16,(vI (p0.length:Int))),(17,(vI x17))],[]⟩
abbrev aIy (p1:(List aJ)) (p0:(List aJ)) (x17:Int) (r:Bool):Prop:=avc Tryz.prog aMo (bOv r) (bIo p1 p0 x17)
def bWv:AC:=(.seq (.ops [.box 2 79 0,.box 3 79 1,.asg 4 (kB false)]) (.seq (.ops [.asg 5 (.c (.fn 154 []))]) (.seq (.ops [.asg 6 (.c (.fn 155 []))]) (.seq (.ops [.asg 7 (.c (.fn 156 []))]) (.seq (.ops [.fa 8 0 2,.ld 9 1 false 8,.fa 10 0 3,.ld 11 1 false 10,.eqb 12 false 9 11,.mv 13 12,.g 13 true (.fa 14 5 2),.g 13 true (.ld 15 1 false 14),.g 13 true (.fa 16 5 3),.g 13 true (.ld 17 1 false 16),.g 13 true (.bin 18 .eql 15 17),.pick 19 13 18 (kB false),.mv 20 19,.g 20 true (.fa 21 1 2),.g 20 true (.ld 22 1 false 21),.g 20 true (.fa 23 1 3),.g 20 true (.ld 24 1 false 23),.g 20 true (.mv 25 5),.g 20 true (.call (some 26) 157 [22,24,25]),.pick 27 20 26 (kB false),.mv 28 27,.g 28 true (.fa 29 2 2),.g 28 true (.ld 30 1 false 29),.g 28 true (.fa 31 2 3),.g 28 true (.ld 32 1 false 31),.g 28 true (.mv 33 6),.g 28 true (.call (some 34) 158 [30,32,33]),.pick 35 28 34 (kB false),.mv 36 35,.g 36 true (.fa 37 3 2),.g 36 true (.ld 38 1 false 37),.g 36 true (.fa 39 3 3),.g 36 true (.ld 40 1 false 39),.g 36 true (.call (some 41) 144 [38,40]),.pick 42 36 41 (kB false),.mv 43 42,.g 43 true (.fa 44 4 2),.g 43 true (.ld 45 1 false 44),.g 43 true (.fa 46 4 3),.g 43 true (.ld 47 1 false 46),.g 43 true (.mv 48 7),.g 43 true (.call (some 49) 159 [45,47,48]),.pick 50 43 49 (kB false),.asg 4 50]) .ret)))))
theorem bJi:bC Tryz.prog 146=some (bWv,[.mv 0 4],51):=by kernel_rfl
def cI5 (r:Bool):Exit→St→Prop:=bA [.mv 0 4] fun x _=>x=(fun y=>(vB y)) r
def aPb:AC:=(.loop (.seq (.ops [.bin 18 .lss 17 16]) (.seq (.cond 18 .skip (.exit 0)) (.seq (.block 1 (.seq (.ops [.mv 19 17,.ia 20 11 15 17,.ld 21 11 true 20,.alc 8 xD,.asg 7 19,.st 11 8 21]) (.seq (.ops [.mv 22 1,.mv 23 7,.ia 24 11 22 23,.ld 25 11 true 24,.alc 9 xD,.st 11 9 25]) (.seq (.ops [.mv 26 2,.ld 27 11 true 8,.ld 28 11 true 9,.callv (some 29) 26 [27,28],.not 30 29]) (.cond 30 (.seq (.ops [.asg 6 (kB false)]) .ret) .skip))))) (.ops [.bin 31 .add 17 (kI 1),.mv 17 31])))))
def aTz:AC:=(.seq (.ops [.asg 6 (kB true)]) .ret)
def bPy:AC:=(.seq (.ops [.asg 6 (kB false)]) (.seq (.seq (.ops [.mv 10 0,.len 11 10,.mv 12 1,.len 13 12,.bin 14 .neq 11 13]) (.cond 14 (.seq (.ops [.asg 6 (kB false)]) .ret) .skip)) (.seq (.seq (.ops [.mv 15 0,.len 16 15,.mv 17 (kI 0)]) (.block 0 aPb)) aTz)))
theorem bQx:bC Tryz.prog 159=some (bPy,[.mv 0 6],32):=by kernel_rfl
def aWx (r:Bool):Exit→St→Prop:=bA [.mv 0 6] fun x _=>x=(fun y=>(vB y)) r
def bU5 (r:Bool):Exit→St→Prop:=(bN (wkK (avc Tryz.prog aTz (aWx r))) (aWx r))
def bKu (r:Bool):Exit→St→Prop:=(bP 0 (bU5 r))
def bO6 (p1:(List aX)) (p0:(List aX)) (x17:Int):St:=⟨[(1,(eF p1)),(2,(.fn 156 [])),(15,(eF p0)),(16,(vI (p0.length:Int))),(17,(vI x17))],[]⟩
abbrev aDe (p1:(List aX)) (p0:(List aX)) (x17:Int) (r:Bool):Prop:=avc Tryz.prog aPb (bKu r) (bO6 p1 p0 x17)
def bPn:AC:=(.seq (.ops [.box 2 108 0,.box 3 108 1,.asg 4 (kB false)]) (.seq (.ops [.fa 5 10 2,.ld 6 1 false 5,.fa 7 10 3,.ld 8 1 false 7,.eqb 9 false 6 8,.mv 10 9,.g 10 true (.fa 11 0 2),.g 10 true (.ld 12 10 true 11),.g 10 true (.fa 13 0 3),.g 10 true (.ld 14 10 true 13),.g 10 true (.call (some 15) 138 [12,14]),.pick 16 10 15 (kB false),.asg 4 16]) .ret))
theorem bE0:bC Tryz.prog 156=some (bPn,[.mv 0 4],17):=by kernel_rfl
def cFn (r:Bool):Exit→St→Prop:=bA [.mv 0 4] fun x _=>x=(fun y=>(vB y)) r
def aKt:AC:=(.loop (.seq (.ops [.bin 18 .lss 17 16]) (.seq (.cond 18 .skip (.exit 0)) (.seq (.block 1 (.seq (.ops [.mv 19 17,.ia 20 3 15 17,.ld 21 3 true 20,.alc 8 [dL,dL,(.nil 10)],.asg 7 19,.st 3 8 21]) (.seq (.ops [.mv 22 1,.mv 23 7,.ia 24 3 22 23,.ld 25 3 true 24,.alc 9 [dL,dL,(.nil 10)],.st 3 9 25]) (.seq (.ops [.mv 26 2,.ld 27 3 true 8,.ld 28 3 true 9,.callv (some 29) 26 [27,28],.not 30 29]) (.cond 30 (.seq (.ops [.asg 6 (kB false)]) .ret) .skip))))) (.ops [.bin 31 .add 17 (kI 1),.mv 17 31])))))
def bCb:AC:=(.seq (.ops [.asg 6 (kB true)]) .ret)
def bF5:AC:=(.seq (.ops [.asg 6 (kB false)]) (.seq (.seq (.ops [.mv 10 0,.len 11 10,.mv 12 1,.len 13 12,.bin 14 .neq 11 13]) (.cond 14 (.seq (.ops [.asg 6 (kB false)]) .ret) .skip)) (.seq (.seq (.ops [.mv 15 0,.len 16 15,.mv 17 (kI 0)]) (.block 0 aKt)) bCb)))
theorem bG4:bC Tryz.prog 158=some (bF5,[.mv 0 6],32):=by kernel_rfl
def aR1 (r:Bool):Exit→St→Prop:=bA [.mv 0 6] fun x _=>x=(fun y=>(vB y)) r
def cAg (r:Bool):Exit→St→Prop:=(bN (wkK (avc Tryz.prog bCb (aR1 r))) (aR1 r))
def bN8 (r:Bool):Exit→St→Prop:=(bP 0 (cAg r))
def bRr (p1:(List aR)) (p0:(List aR)) (x17:Int):St:=⟨[(1,(dZ p1)),(2,(.fn 155 [])),(15,(dZ p0)),(16,(vI (p0.length:Int))),(17,(vI x17))],[]⟩
abbrev aHc (p1:(List aR)) (p0:(List aR)) (x17:Int) (r:Bool):Prop:=avc Tryz.prog aKt (bN8 r) (bRr p1 p0 x17)
def bEd:AC:=(.seq (.ops [.box 2 127 0,.box 3 127 1,.asg 4 (kB false)]) (.seq (.ops [.fa 5 0 2,.ld 6 1 false 5,.fa 7 0 3,.ld 8 1 false 7,.bin 9 .eql 6 8,.mv 10 9,.g 10 true (.fa 11 1 2),.g 10 true (.ld 12 1 false 11),.g 10 true (.fa 13 1 3),.g 10 true (.ld 14 1 false 13),.g 10 true (.bin 15 .eql 12 14),.pick 16 10 15 (kB false),.mv 17 16,.g 17 true (.fa 18 2 2),.g 17 true (.ld 19 1 false 18),.g 17 true (.fa 20 2 3),.g 17 true (.ld 21 1 false 20),.g 17 true (.call (some 22) 144 [19,21]),.pick 23 17 22 (kB false),.asg 4 23]) .ret))
theorem bQh:bC Tryz.prog 155=some (bEd,[.mv 0 4],24):=by kernel_rfl
def cJb (r:Bool):Exit→St→Prop:=bA [.mv 0 4] fun x _=>x=(fun y=>(vB y)) r
def aOl:AC:=(.loop (.seq (.ops [.bin 18 .lss 17 16]) (.seq (.cond 18 .skip (.exit 0)) (.seq (.block 1 (.seq (.ops [.mv 19 17,.ia 20 13 15 17,.ld 21 13 true 20,.alc 8 pO,.asg 7 19,.st 13 8 21]) (.seq (.ops [.mv 22 1,.mv 23 7,.ia 24 13 22 23,.ld 25 13 true 24,.alc 9 pO,.st 13 9 25]) (.seq (.ops [.mv 26 2,.ld 27 13 true 8,.ld 28 13 true 9,.callv (some 29) 26 [27,28],.not 30 29]) (.cond 30 (.seq (.ops [.asg 6 (kB false)]) .ret) .skip))))) (.ops [.bin 31 .add 17 (kI 1),.mv 17 31])))))
def aYz:AC:=(.seq (.ops [.asg 6 (kB true)]) .ret)
def bT9:AC:=(.seq (.ops [.asg 6 (kB false)]) (.seq (.seq (.ops [.mv 10 0,.len 11 10,.mv 12 1,.len 13 12,.bin 14 .neq 11 13]) (.cond 14 (.seq (.ops [.asg 6 (kB false)]) .ret) .skip)) (.seq (.seq (.ops [.mv 15 0,.len 16 15,.mv 17 (kI 0)]) (.block 0 aOl)) aYz)))
theorem bDu:bC Tryz.prog 157=some (bT9,[.mv 0 6],32):=by kernel_rfl
def aS7 (r:Bool):Exit→St→Prop:=bA [.mv 0 6] fun x _=>x=(fun y=>(vB y)) r
def cC9 (r:Bool):Exit→St→Prop:=(bN (wkK (avc Tryz.prog aYz (aS7 r))) (aS7 r))
def bWb (r:Bool):Exit→St→Prop:=(bP 0 (cC9 r))
def bY2 (p1:(List aZ)) (p0:(List aZ)) (x17:Int):St:=⟨[(1,(eQ p1)),(2,(.fn 154 [])),(15,(eQ p0)),(16,(vI (p0.length:Int))),(17,(vI x17))],[]⟩
abbrev aIe (p1:(List aZ)) (p0:(List aZ)) (x17:Int) (r:Bool):Prop:=avc Tryz.prog aOl (bWb r) (bY2 p1 p0 x17)
def bGl:AC:=(.seq (.ops [.box 2 104 0,.box 3 104 1,.asg 4 (kB false)]) (.seq (.ops [.fa 5 0 2,.ld 6 1 false 5,.fa 7 0 3,.ld 8 1 false 7,.eqb 9 false 6 8,.mv 10 9,.g 10 true (.fa 11 1 2),.g 10 true (.ld 12 1 false 11),.g 10 true (.fa 13 1 3),.g 10 true (.ld 14 1 false 13),.g 10 true (.bin 15 .eql 12 14),.pick 16 10 15 (kB false),.mv 17 16,.g 17 true (.fa 18 12 2),.g 17 true (.ld 19 1 false 18),.g 17 true (.fa 20 12 3),.g 17 true (.ld 21 1 false 20),.g 17 true (.bin 22 .eql 19 21),.pick 23 17 22 (kB false),.mv 24 23,.g 24 true (.fa 25 2 2),.g 24 true (.ld 26 10 true 25),.g 24 true (.fa 27 2 3),.g 24 true (.ld 28 10 true 27),.g 24 true (.call (some 29) 138 [26,28]),.pick 30 24 29 (kB false),.asg 4 30]) .ret))
theorem bT7:bC Tryz.prog 154=some (bGl,[.mv 0 4],31):=by kernel_rfl
def cGq (r:Bool):Exit→St→Prop:=bA [.mv 0 4] fun x _=>x=(fun y=>(vB y)) r
def bXc:AC:=(.seq (.ops [.asg 2 (kB false)]) (.seq (.ops [.mv 3 0,.bin 4 .eql 3 (.c (.d (.s (bs [])))),.mv 5 4,.g 5 false (.mv 6 0),.g 5 false (.call (some 7) 116 [6]),.pick 8 5 (kB true) 7,.asg 2 8]) .ret))
theorem bDr:bC Tryz.prog 120=some (bXc,[.mv 0 2],9):=by kernel_rfl
def cI4 (r:Bool):Exit→St→Prop:=bA [.mv 0 2] fun x _=>x=(fun y=>(vB y)) r
def bI0:AC:=(.seq (.ops [.box 1 35 0,.alc 2 aZj,.asg 3 (kB false)]) (.seq (.seq (.ops [.fa 4 0 1,.ld 5 1 false 4]) (.block 0 (.seq (.ops [.bin 7 .eql 5 (kI 1),.asg 6 7]) (.cond 6 (.seq (.ops [.bld 8 [dR,dR,dR,dR,bS,bS,bS] [(2,1,(kB true))],.fa 9 3 1,.ld 10 3 true 9,.call (some 11) 115 [10],.st 7 2 8,.asg 3 11]) .ret) (.seq (.ops [.bin 13 .eql 5 (kI 2),.asg 12 13]) (.cond 12 (.seq (.ops [.bld 14 [dR,dR,dR,dR,bS,bS,bS] [(3,1,(kB true))],.fa 15 7 1,.ld 16 1 false 15,.call (some 17) 116 [16],.mv 18 17,.g 18 true (.fa 19 6 1),.g 18 true (.ld 20 1 false 19),.g 18 true (.bin 21 .eql 20 (.c (.d (.s (bs []))))),.g 18 true (.mv 22 21),.g 22 false (.fa 23 6 1),.g 22 false (.ld 24 1 false 23),.g 22 false (.call (some 25) 116 [24]),.g 18 true (.pick 26 22 (kB true) 25),.pick 27 18 26 (kB false),.st 7 2 14,.asg 3 27]) .ret) (.seq (.ops [.bin 29 .eql 5 (kI 3),.asg 28 29]) (.cond 28 (.seq (.dops [[],[],[1],[2],[3],[4],[5,4],[6,4],[4,7],[0,4,0],[8,9,0,1,2,3,4,5,6,7,8,9]] [.bld 30 [dR,dR,dR,dR,bS,bS,bS] [(0,1,(kB true)),(4,1,(kI 1)),(5,1,(kI 1))],.fa 31 1 1,.ld 32 1 false 31,.bin 33 .eql 32 (kI 15),.mv 34 33,.g 34 false (.fa 35 1 1),.g 34 false (.ld 36 1 false 35),.g 34 false (.bin 37 .eql 36 (kI 16)),.pick 38 34 (kB true) 37,.st 7 2 30,.asg 3 38]) .ret) (.seq (.ops [.bin 40 .eql 5 (kI 4),.asg 39 40]) (.cond 39 (.seq (.dops [[],[],[1],[2],[3],[4],[5,4],[6,4],[4,7],[0,4,0],[8,9,0,1,2,3,4,5,6,7,8,9]] [.bld 41 [dR,dR,dR,dR,bS,bS,bS] [(0,1,(kB true)),(4,1,(kI 2)),(5,1,(kI 2))],.fa 42 1 1,.ld 43 1 false 42,.bin 44 .geq 43 (kI 1),.mv 45 44,.g 45 true (.fa 46 1 1),.g 45 true (.ld 47 1 false 46),.g 45 true (.bin 48 .leq 47 (kI 14)),.pick 49 45 48 (kB false),.st 7 2 41,.asg 3 49]) .ret) (.seq (.ops [.bin 51 .eql 5 (kI 5),.asg 50 51]) (.cond 50 (.seq (.ops [.bld 52 [dR,dR,dR,dR,bS,bS,bS] [(1,1,(kB true)),(4,1,(kI 1)),(5,1,(kI 1))],.st 7 2 52,.asg 3 (kB true)]) .ret) (.seq (.ops [.bin 54 .eql 5 (kI 6),.asg 53 54]) (.cond 53 (.seq (.ops [.bld 55 [dR,dR,dR,dR,bS,bS,bS] [(1,1,(kB true)),(4,1,(kI 3)),(5,1,(kI 3))],.st 7 2 55,.asg 3 (kB true)]) .ret) (.seq (.ops [.bin 57 .eql 5 (kI 7),.asg 56 57]) (.cond 56 (.seq (.ops [.bld 58 [dR,dR,dR,dR,bS,bS,bS] [(1,1,(kB true)),(4,1,(kI 2)),(5,1,(kI 9))],.st 7 2 58,.asg 3 (kB true)]) .ret) (.seq (.ops [.bin 60 .eql 5 (kI 8),.asg 59 60]) (.cond 59 (.seq (.ops [.bld 61 [dR,dR,dR,dR,bS,bS,bS] [(1,1,(kB true)),(4,1,(kI 1)),(5,1,(kI 1)),(6,1,(kI 1))],.st 7 2 61,.asg 3 (kB true)]) .ret) (.seq (.ops [.bin 63 .eql 5 (kI 9),.asg 62 63]) (.cond 62 (.seq (.ops [.bld 64 [dR,dR,dR,dR,bS,bS,bS] [(6,1,(kI 1))],.st 7 2 64,.asg 3 (kB true)]) .ret) .skip)))))))))))))))))))) (.seq (.ops [.bld 65 [dR,dR,dR,dR,bS,bS,bS] [],.st 7 2 65,.asg 3 (kB false)]) .ret)))
theorem bFy:bC Tryz.prog 83=some (bI0,[.ld 0 7 true 2,.mv 0 3],66):=by kernel_rfl
def cFl (r:iM×Bool):Exit→St→Prop:=bA [.ld 0 7 true 2,.mv 0 3] fun x _=>x=(fun y=>(.tup [(aZq y.1),(vB y.2)])) r
def bSv:AC:=(.seq (.ops [.box 1 31 0,.asg 2 (kB false)]) (.seq (.ops [.ld 3 3 true 1,.call (some 4) 123 [3],.mv 5 4,.g 5 true (.fa 6 0 1),.g 5 true (.ld 7 1 false 6),.g 5 true (.bin 8 .neq 7 (kI 1)),.g 5 true (.mv 9 8),.g 9 false (.fa 10 1 1),.g 9 false (.ld 11 1 false 10),.g 9 false (.bin 12 .geq 11 (kI 0)),.g 5 true (.pick 13 9 (kB true) 12),.pick 14 5 13 (kB false),.mv 15 14,.g 15 true (.fa 16 2 1),.g 15 true (.ld 17 1 false 16),.g 15 true (.lns 18 17),.g 15 true (.bin 19 .leq 18 (kI 40)),.pick 20 15 19 (kB false),.asg 2 20]) .ret))
theorem bYu:bC Tryz.prog 115=some (bSv,[.mv 0 2],21):=by kernel_rfl
def cIt (r:Bool):Exit→St→Prop:=bA [.mv 0 2] fun x _=>x=(fun y=>(vB y)) r
def bH3:AC:=(.seq (.ops [.asg 4 (kB false)]) (.seq (.ops [.mv 5 0,.bin 6 .leq 5 (kI 24),.mv 7 6,.g 7 true (.mv 8 1),.g 7 true (.bin 9 .leq 8 (kI 200)),.pick 10 7 9 (kB false),.asg 4 10]) .ret))
theorem bVk:bC Tryz.prog 43=some (bH3,[.mv 0 4],11):=by kernel_rfl
def cJ8 (r:Bool):Exit→St→Prop:=bA [.mv 0 4] fun x _=>x=(fun y=>(vB y)) r
def aO6:AC:=(.loop (.seq (.ops [.bin 14 .lss 13 12]) (.seq (.cond 14 .skip (.exit 0)) (.seq (.block 1 (.seq (.ops [.ia 15 6 11 13,.ld 16 6 true 15,.alc 5 wX,.st 6 5 16]) (.ops [.mv 17 3,.ld 18 6 true 5,.call (some 19) 82 [18],.bin 20 .add 17 19,.asg 3 20]))) (.ops [.bin 21 .add 13 (kI 1),.mv 13 21])))))
def aX3:AC:=(.seq (.ops [.mv 22 3,.asg 2 22]) .ret)
def bN9:AC:=(.seq (.ops [.box 1 35 0,.asg 2 (kI 0)]) (.seq (.ops [.fa 6 8 1,.ld 7 1 false 6,.call (some 8) 81 [7],.bin 9 .add (kI 1) 8,.asg 3 9]) (.seq (.seq (.ops [.fa 10 9 1,.ld 11 1 false 10,.len 12 11,.mv 13 (kI 0)]) (.block 0 aO6)) aX3)))
theorem bQz:bC Tryz.prog 45=some (bN9,[.mv 0 2],23):=by kernel_rfl
def aRc (r:Int):Exit→St→Prop:=bA [.mv 0 2] fun x _=>x=(fun y=>(vI y)) r
def bYv (r:Int):Exit→St→Prop:=(bN (wkK (avc Tryz.prog aX3 (aRc r))) (aRc r))
def cB8 (r:Int):Exit→St→Prop:=(bP 0 (bYv r))
def bWf (p0:aB) (x3:Int) (x13:Int):St:=⟨[(3,(vI x3)),(11,(eG p0.sub)),(12,(vI (p0.sub.length:Int))),(13,(vI x13))],[]⟩
abbrev aDu (p0:aB) (x3:Int) (x13:Int) (r:Int):Prop:=avc Tryz.prog aO6 (cB8 r) (bWf p0 x3 x13)
def bQr:AC:=(.seq (.ops [.box 1 79 0,.asg 2 (kI 0)]) (.seq (.ops [.ld 3 6 true 1,.call (some 4) 114 [3],.call (some 5) 81 [4],.asg 2 5]) .ret))
theorem cDb:bC Tryz.prog 82=some (bQr,[.mv 0 2],6):=by kernel_rfl
def cF1 (r:Int):Exit→St→Prop:=bA [.mv 0 2] fun x _=>x=(fun y=>(vI y)) r
def aKv:AC:=(.loop (.seq (.ops [.bin 9 .lss 8 7]) (.seq (.cond 9 .skip (.exit 0)) (.seq (.block 1 (.seq (.ops [.ia 10 10 6 8,.ld 11 10 true 10,.alc 5 qZ,.st 10 5 11]) (.ops [.mv 12 3,.ld 13 10 true 5,.call (some 14) 45 [13],.bin 15 .add 12 14,.asg 3 15]))) (.ops [.bin 16 .add 8 (kI 1),.mv 8 16])))))
def aTw:AC:=(.seq (.ops [.mv 17 3,.asg 2 17]) .ret)
def bMp:AC:=(.seq (.ops [.asg 2 (kI 0)]) (.seq (.ops [.asg 3 (kI 0)]) (.seq (.seq (.ops [.mv 6 0,.len 7 6,.mv 8 (kI 0)]) (.block 0 aKv)) aTw)))
theorem bVc:bC Tryz.prog 81=some (bMp,[.mv 0 2],18):=by kernel_rfl
def aVq (r:Int):Exit→St→Prop:=bA [.mv 0 2] fun x _=>x=(fun y=>(vI y)) r
def cBp (r:Int):Exit→St→Prop:=(bN (wkK (avc Tryz.prog aTw (aVq r))) (aVq r))
def bSa (r:Int):Exit→St→Prop:=(bP 0 (cBp r))
def bMn (p0:(List aB)) (x3:Int) (x8:Int):St:=⟨[(3,(vI x3)),(6,(bX p0)),(7,(vI (p0.length:Int))),(8,(vI x8))],[]⟩
abbrev aF4 (p0:(List aB)) (x3:Int) (x8:Int) (r:Int):Prop:=avc Tryz.prog aKv (bSa r) (bMn p0 x3 x8)
def aQo:AC:=(.loop (.seq (.seq (.ops [.mv 6 5,.mv 7 0,.len 8 7,.bin 9 .lss 6 8]) (.cond 9 .skip (.exit 0))) (.seq (.block 1 (.seq (.ops [.mv 12 0,.mv 13 5,.mv 14 1,.ia 15 3 12 13,.fa 16 0 15,.st 1 16 14]) (.seq (.ops [.mv 17 1,.bin 18 .add 17 (kI 1),.asg 1 18]) (.seq (.ops [.mv 19 0,.mv 20 5,.mv 21 1,.call (some 22) 29 [21],.ia 23 3 19 20,.fa 24 1 23,.st 1 24 22]) (.seq (.ops [.mv 25 1,.bin 26 .add 25 (kI 1),.asg 1 26]) (.seq (.ops [.mv 27 0,.mv 28 5,.mv 29 1,.ia 30 3 27 28,.fa 31 2 30,.st 1 31 29]) (.ops [.mv 32 1,.bin 33 .add 32 (kI 1),.asg 1 33]))))))) (.ops [.mv 10 5,.bin 11 .add 10 (kI 1),.asg 5 11]))))
def aZs:AC:=(.seq (.ops [.mv 34 1,.asg 4 34]) .ret)
def bHs:AC:=(.seq (.ops [.asg 4 (kI 0)]) (.seq (.seq (.ops [.asg 5 (kI 0)]) (.block 0 aQo)) aZs))
theorem bDj:bC Tryz.prog 11=some (bHs,[.mv 0 4],35):=by kernel_rfl
def aZ1 (r:Int×(List aA)):Exit→St→Prop:=bA [.mv 0 4] fun x b=>x=(fun (y:Int×(List aA))=>(vI y.1)) r∧bM ((fun (y:Int×(List aA))=>[(3000000,[(.trc 3 (y.2.map aL))])]) r) b
def bFq (r:Int×(List aA)):Exit→St→Prop:=(bN (wkK (avc Tryz.prog aZs (aZ1 r))) (aZ1 r))
def bRx (r:Int×(List aA)):Exit→St→Prop:=(bP 0 (bFq r))
def bN2 (x1:Int) (x5:Int) (aU:(List aA)):St:=⟨[(0,(.tre 3000000)),(1,(vI x1)),(5,(vI x5))],[(3000000,[(.trc 3 (aU.map aL))])]⟩
abbrev aIv (x1:Int) (x5:Int) (aU:(List aA)) (r:Int×(List aA)):Prop:=avc Tryz.prog aQo (bRx r) (bN2 x1 x5 aU)
def bG7:AC:=(.seq (.ops [.box 1 27 0,.alc 2 qZ]) (.seq (.ops [.alc 3 qZ]) (.seq (.ops [.fa 4 0 1,.ld 5 1 false 4,.fa 6 0 3,.st 1 6 5]) (.seq (.ops [.fa 7 1 1,.ld 8 1 false 7,.fa 9 1 3,.st 1 9 8]) (.seq (.ops [.fa 10 2 1,.ld 11 1 false 10,.fa 12 2 3,.st 1 12 11]) (.seq (.ops [.fa 13 3 1,.ld 14 3 true 13,.call (some 15) 18 [14],.fa 16 3 3,.st 3 16 15]) (.seq (.ops [.fa 17 6 1,.ld 18 1 false 17,.fa 19 6 3,.st 1 19 18]) (.seq (.ops [.fa 20 7 1,.ld 21 1 false 20,.fa 22 7 3,.st 1 22 21]) (.seq (.ops [.fa 23 8 1,.ld 24 1 false 23,.call (some 25) 19 [24],.fa 26 8 3,.st 1 26 25]) (.seq (.ops [.fa 27 9 1,.ld 28 1 false 27,.call (some 29) 20 [28],.fa 30 9 3,.st 1 30 29]) (.seq (.ops [.ld 31 10 true 3,.st 10 2 31]) .ret)))))))))))
theorem bZo:bC Tryz.prog 6=some (bG7,[.ld 0 10 true 2],32):=by kernel_rfl
def cFq (r:aB):Exit→St→Prop:=bA [.ld 0 10 true 2] fun x _=>x=(fun y=>(bR y)) r
def aNi:AC:=(.loop (.seq (.seq (.ops [.mv 8 4,.mv 9 0,.len 10 9,.bin 11 .lss 8 10]) (.cond 11 .skip (.exit 0))) (.seq (.block 1 (.ops [.mv 14 3,.mv 15 4,.mv 16 0,.mv 17 4,.ia 18 6 16 17,.ld 19 6 true 18,.call (some 20) 42 [19],.ia 21 6 14 15,.st 6 21 20])) (.ops [.mv 12 4,.bin 13 .add 12 (kI 1),.asg 4 13]))))
def aX9:AC:=(.seq (.ops [.mv 22 3,.asg 2 22]) .ret)
def bOu:AC:=(.seq (.ops [.asg 2 (.c (.nil 6))]) (.seq (.ops [.mv 5 0,.len 6 5,.mks 7 79 6 112 [(.b false),(.sl 13 []),(.sl 3 []),(.sl 10 []),(.sl 11 []),(.i .i64 0)] 6 6,.asg 3 7]) (.seq (.seq (.ops [.asg 4 (kI 0)]) (.block 0 aNi)) aX9)))
theorem bFu:bC Tryz.prog 20=some (bOu,[.mv 0 2],23):=by kernel_rfl
def bCq (r:(List aJ)):Exit→St→Prop:=bA [.mv 0 2] fun x _=>x=(fun y=>(eG y)) r
def bY6 (r:(List aJ)):Exit→St→Prop:=(bN (wkK (avc Tryz.prog aX9 (bCq r))) (bCq r))
def cAs (r:(List aJ)):Exit→St→Prop:=(bP 0 (bY6 r))
def bLk (p0:(List aJ)) (x4:Int) (bF:(List aJ)):St:=⟨[(0,(eG p0)),(3,(.msl 7 6 0 bF.length bF.length)),(4,(vI x4))],[(7,eH (bF.map bZ))]⟩
abbrev aF6 (p0:(List aJ)) (x4:Int) (bF:(List aJ)) (r:(List aJ)):Prop:=avc Tryz.prog aNi (cAs r) (bLk p0 x4 bF)
def bDp:AC:=(.seq (.ops [.box 1 68 0,.alc 2 wX]) (.seq (.ops [.alc 3 wX]) (.seq (.ops [.fa 4 0 1,.ld 5 1 false 4,.fa 6 0 3,.st 1 6 5]) (.seq (.ops [.fa 7 1 1,.ld 8 1 false 7,.call (some 9) 77 [8],.fa 10 1 3,.st 1 10 9]) (.seq (.ops [.fa 11 2 1,.ld 12 1 false 11,.call (some 13) 78 [12],.fa 14 2 3,.st 1 14 13]) (.seq (.ops [.fa 15 3 1,.ld 16 1 false 15,.call (some 17) 19 [16],.fa 18 3 3,.st 1 18 17]) (.seq (.ops [.fa 19 4 1,.ld 20 1 false 19,.call (some 21) 79 [20],.fa 22 4 3,.st 1 22 21]) (.seq (.ops [.fa 23 5 1,.ld 24 1 false 23,.fa 25 5 3,.st 1 25 24]) (.seq (.ops [.ld 26 6 true 3,.st 6 2 26]) .ret)))))))))
theorem cCd:bC Tryz.prog 42=some (bDp,[.ld 0 6 true 2],27):=by kernel_rfl
def cJ5 (r:aJ):Exit→St→Prop:=bA [.ld 0 6 true 2] fun x _=>x=(fun y=>(dF y)) r
def aJs:AC:=(.loop (.seq (.seq (.ops [.mv 8 4,.mv 9 0,.len 10 9,.bin 11 .lss 8 10]) (.cond 11 .skip (.exit 0))) (.seq (.block 1 (.ops [.mv 14 3,.mv 15 4,.mv 16 0,.mv 17 4,.ia 18 13 16 17,.ld 19 13 true 18,.call (some 20) 110 [19],.ia 21 13 14 15,.st 13 21 20])) (.ops [.mv 12 4,.bin 13 .add 12 (kI 1),.asg 4 13]))))
def bC8:AC:=(.seq (.ops [.mv 22 3,.asg 2 22]) .ret)
def bXi:AC:=(.seq (.ops [.asg 2 (.c (.nil 13))]) (.seq (.ops [.mv 5 0,.len 6 5,.mks 7 104 13 176 [(.b false),(.s (bs [])),(.i .i64 0),(.i .i64 0),(.b false),(.i .i64 0),(.i .i64 0),(.s (bs [])),(.s (bs [])),(.s (bs [])),(.sl 10 []),(.sl 6 []),(.s (bs []))] 6 6,.asg 3 7]) (.seq (.seq (.ops [.asg 4 (kI 0)]) (.block 0 aJs)) bC8)))
theorem bUa:bC Tryz.prog 77=some (bXi,[.mv 0 2],23):=by kernel_rfl
def aSd (r:(List aZ)):Exit→St→Prop:=bA [.mv 0 2] fun x _=>x=(fun y=>(eQ y)) r
def bMd (r:(List aZ)):Exit→St→Prop:=(bN (wkK (avc Tryz.prog bC8 (aSd r))) (aSd r))
def cCe (r:(List aZ)):Exit→St→Prop:=(bP 0 (bMd r))
def bE3 (p0:(List aZ)) (x4:Int) (bF:(List aZ)):St:=⟨[(0,(eQ p0)),(3,(.msl 7 13 0 bF.length bF.length)),(4,(vI x4))],[(7,eH (bF.map cO))]⟩
abbrev aD9 (p0:(List aZ)) (x4:Int) (bF:(List aZ)) (r:(List aZ)):Prop:=avc Tryz.prog aJs (cCe r) (bE3 p0 x4 bF)
def cC2:AC:=(.seq (.ops [.box 1 130 0,.alc 2 pO]) (.seq (.ops [.alc 3 pO]) (.seq (.ops [.fa 4 0 1,.ld 5 1 false 4,.fa 6 0 3,.st 1 6 5]) (.seq (.ops [.fa 7 1 1,.ld 8 1 false 7,.fa 9 1 3,.st 1 9 8]) (.seq (.ops [.fa 10 2 1,.ld 11 10 true 10,.call (some 12) 6 [11],.fa 13 2 3,.st 10 13 12]) (.seq (.ops [.fa 14 12 1,.ld 15 1 false 14,.fa 16 12 3,.st 1 16 15]) (.seq (.ops [.ld 17 13 true 3,.st 13 2 17]) .ret)))))))
theorem bUx:bC Tryz.prog 110=some (cC2,[.ld 0 13 true 2],18):=by kernel_rfl
def cH2 (r:aZ):Exit→St→Prop:=bA [.ld 0 13 true 2] fun x _=>x=(fun y=>(gG y)) r
def aPo:AC:=(.loop (.seq (.seq (.ops [.mv 8 4,.mv 9 0,.len 10 9,.bin 11 .lss 8 10]) (.cond 11 .skip (.exit 0))) (.seq (.block 1 (.ops [.mv 14 3,.mv 15 4,.mv 16 0,.mv 17 4,.ia 18 11 16 17,.ld 19 11 true 18,.call (some 20) 112 [19],.ia 21 11 14 15,.st 11 21 20])) (.ops [.mv 12 4,.bin 13 .add 12 (kI 1),.asg 4 13]))))
def aV6:AC:=(.seq (.ops [.mv 22 3,.asg 2 22]) .ret)
def cBv:AC:=(.seq (.ops [.asg 2 (.c (.nil 11))]) (.seq (.ops [.mv 5 0,.len 6 5,.mks 7 108 11 144 [(.i .i64 0),(.i .i64 0),(.b false),(.i .i64 0),(.i .i64 0),(.s (bs [])),(.s (bs [])),(.s (bs [])),(.sl 10 []),(.sl 6 []),(.b false)] 6 6,.asg 3 7]) (.seq (.seq (.ops [.asg 4 (kI 0)]) (.block 0 aPo)) aV6)))
theorem bLt:bC Tryz.prog 79=some (cBv,[.mv 0 2],23):=by kernel_rfl
def aW9 (r:(List aX)):Exit→St→Prop:=bA [.mv 0 2] fun x _=>x=(fun y=>(eF y)) r
def bMe (r:(List aX)):Exit→St→Prop:=(bN (wkK (avc Tryz.prog aV6 (aW9 r))) (aW9 r))
def bP7 (r:(List aX)):Exit→St→Prop:=(bP 0 (bMe r))
def bKz (p0:(List aX)) (x4:Int) (bF:(List aX)):St:=⟨[(0,(eF p0)),(3,(.msl 7 11 0 bF.length bF.length)),(4,(vI x4))],[(7,eH (bF.map dD))]⟩
abbrev aDp (p0:(List aX)) (x4:Int) (bF:(List aX)) (r:(List aX)):Prop:=avc Tryz.prog aPo (bP7 r) (bKz p0 x4 bF)
def bOn:AC:=(.seq (.ops [.box 1 136 0,.alc 2 xD]) (.seq (.ops [.alc 3 xD]) (.seq (.ops [.fa 4 0 1,.ld 5 10 true 4,.call (some 6) 6 [5],.fa 7 0 3,.st 10 7 6]) (.seq (.ops [.fa 8 10 1,.ld 9 1 false 8,.fa 10 10 3,.st 1 10 9]) (.seq (.ops [.ld 11 11 true 3,.st 11 2 11]) .ret)))))
theorem bWh:bC Tryz.prog 112=some (bOn,[.ld 0 11 true 2],12):=by kernel_rfl
def cG4 (r:aX):Exit→St→Prop:=bA [.ld 0 11 true 2] fun x _=>x=(fun y=>(gJ y)) r
def aPi:AC:=(.loop (.seq (.seq (.ops [.mv 8 4,.mv 9 0,.len 10 9,.bin 11 .lss 8 10]) (.cond 11 .skip (.exit 0))) (.seq (.block 1 (.ops [.mv 14 3,.mv 15 4,.mv 16 0,.mv 17 4,.ia 18 10 16 17,.ld 19 10 true 18,.call (some 20) 6 [19],.ia 21 10 14 15,.st 10 21 20])) (.ops [.mv 12 4,.bin 13 .add 12 (kI 1),.asg 4 13]))))
def aYm:AC:=(.seq (.ops [.mv 22 3,.asg 2 22]) .ret)
def bD6:AC:=(.seq (.ops [.asg 2 (.c (.nil 10))]) (.seq (.ops [.mv 5 0,.len 6 5,.mks 7 35 10 136 [(.i .i64 0),(.i .i64 0),(.b false),(.i .i64 0),(.i .i64 0),(.s (bs [])),(.s (bs [])),(.s (bs [])),(.sl 10 []),(.sl 6 [])] 6 6,.asg 3 7]) (.seq (.seq (.ops [.asg 4 (kI 0)]) (.block 0 aPi)) aYm)))
theorem bNr:bC Tryz.prog 19=some (bD6,[.mv 0 2],23):=by kernel_rfl
def aRl (r:(List aB)):Exit→St→Prop:=bA [.mv 0 2] fun x _=>x=(fun y=>(bX y)) r
def bQ0 (r:(List aB)):Exit→St→Prop:=(bN (wkK (avc Tryz.prog aYm (aRl r))) (aRl r))
def bTl (r:(List aB)):Exit→St→Prop:=(bP 0 (bQ0 r))
def bNq (p0:(List aB)) (x4:Int) (bF:(List aB)):St:=⟨[(0,(bX p0)),(3,(.msl 7 10 0 bF.length bF.length)),(4,(vI x4))],[(7,eH (bF.map bD))]⟩
abbrev aIu (p0:(List aB)) (x4:Int) (bF:(List aB)) (r:(List aB)):Prop:=avc Tryz.prog aPi (bTl r) (bNq p0 x4 bF)
def aQj:AC:=(.loop (.seq (.seq (.ops [.mv 8 4,.mv 9 0,.len 10 9,.bin 11 .lss 8 10]) (.cond 11 .skip (.exit 0))) (.seq (.block 1 (.ops [.mv 14 3,.mv 15 4,.mv 16 0,.mv 17 4,.ia 18 3 16 17,.ld 19 3 true 18,.call (some 20) 111 [19],.ia 21 3 14 15,.st 3 21 20])) (.ops [.mv 12 4,.bin 13 .add 12 (kI 1),.asg 4 13]))))
def aRx:AC:=(.seq (.ops [.mv 22 3,.asg 2 22]) .ret)
def bGy:AC:=(.seq (.ops [.asg 2 (.c (.nil 3))]) (.seq (.ops [.mv 5 0,.len 6 5,.mks 7 127 3 56 [(.s (bs [])),(.s (bs [])),(.sl 10 [])] 6 6,.asg 3 7]) (.seq (.seq (.ops [.asg 4 (kI 0)]) (.block 0 aQj)) aRx)))
theorem bJh:bC Tryz.prog 78=some (bGy,[.mv 0 2],23):=by kernel_rfl
def bCy (r:(List aR)):Exit→St→Prop:=bA [.mv 0 2] fun x _=>x=(fun y=>(dZ y)) r
def bMy (r:(List aR)):Exit→St→Prop:=(bN (wkK (avc Tryz.prog aRx (bCy r))) (bCy r))
def bZi (r:(List aR)):Exit→St→Prop:=(bP 0 (bMy r))
def bFv (p0:(List aR)) (x4:Int) (bF:(List aR)):St:=⟨[(0,(dZ p0)),(3,(.msl 7 3 0 bF.length bF.length)),(4,(vI x4))],[(7,eH (bF.map dW))]⟩
abbrev aJ4 (p0:(List aR)) (x4:Int) (bF:(List aR)) (r:(List aR)):Prop:=avc Tryz.prog aQj (bZi r) (bFv p0 x4 bF)
def bJ3:AC:=(.seq (.ops [.box 1 133 0,.alc 2 [dL,dL,(.nil 10)]]) (.seq (.ops [.alc 3 [dL,dL,(.nil 10)]]) (.seq (.ops [.fa 4 0 1,.ld 5 1 false 4,.fa 6 0 3,.st 1 6 5]) (.seq (.ops [.fa 7 1 1,.ld 8 1 false 7,.fa 9 1 3,.st 1 9 8]) (.seq (.ops [.fa 10 2 1,.ld 11 1 false 10,.call (some 12) 19 [11],.fa 13 2 3,.st 1 13 12]) (.seq (.ops [.ld 14 3 true 3,.st 3 2 14]) .ret))))))
theorem bE9:bC Tryz.prog 111=some (bJ3,[.ld 0 3 true 2],15):=by kernel_rfl
def cHr (r:aR):Exit→St→Prop:=bA [.ld 0 3 true 2] fun x _=>x=(fun y=>(fZ y)) r
def aNd:AC:=(.loop (.seq (.seq (.ops [.mv 11 5,.mv 12 0,.len 13 12,.bin 14 .lss 11 13]) (.cond 14 .skip (.exit 0))) (.seq (.block 1 (.seq (.dops [[],[],[0,1],[2],[],[],[4,5],[6],[3,7],[8]] [.mv 17 0,.mv 18 5,.ia 19 3 17 18,.ld 20 3 true 19,.mv 21 1,.mv 22 5,.ia 23 3 21 22,.ld 24 3 true 23,.call (some 25) 23 [20,24],.not 26 25]) (.cond 26 (.seq (.ops [.asg 4 (kB false)]) .ret) .skip))) (.ops [.mv 15 5,.bin 16 .add 15 (kI 1),.asg 5 16]))))
def aUg:AC:=(.seq (.ops [.asg 4 (kB true)]) .ret)
def bSi:AC:=(.seq (.ops [.asg 4 (kB false)]) (.seq (.seq (.ops [.mv 6 0,.len 7 6,.mv 8 1,.len 9 8,.bin 10 .neq 7 9]) (.cond 10 (.seq (.ops [.asg 4 (kB false)]) .ret) .skip)) (.seq (.seq (.ops [.asg 5 (kI 0)]) (.block 0 aNd)) aUg)))
theorem bYc:bC Tryz.prog 8=some (bSi,[.mv 0 4],27):=by kernel_rfl
def aTt (r:Bool):Exit→St→Prop:=bA [.mv 0 4] fun x _=>x=(fun y=>(vB y)) r
def bHm (r:Bool):Exit→St→Prop:=(bN (wkK (avc Tryz.prog aUg (aTt r))) (aTt r))
def bXp (r:Bool):Exit→St→Prop:=(bP 0 (bHm r))
def cBh (p0:(List aA)) (p1:(List aA)) (x5:Int):St:=⟨[(0,(pE p0)),(1,(pE p1)),(5,(vI x5))],[]⟩
abbrev aJ3 (p0:(List aA)) (p1:(List aA)) (x5:Int) (r:Bool):Prop:=avc Tryz.prog aNd (bXp r) (cBh p0 p1 x5)
def bIe:AC:=(.seq (.ops [.box 2 56 0,.box 3 56 1,.asg 4 (kB false)]) (.seq (.seq (.ops [.fa 5 0 2,.ld 6 1 false 5,.fa 7 0 3,.ld 8 1 false 7,.bin 9 .neq 6 8]) (.cond 9 (.seq (.ops [.asg 4 (kB false)]) .ret) .skip)) (.seq (.seq (.ops [.fa 10 1 2,.ld 11 1 false 10,.fa 12 1 3,.ld 13 1 false 12,.bin 14 .neq 11 13]) (.cond 14 (.seq (.ops [.asg 4 (kB false)]) .ret) .skip)) (.seq (.seq (.ops [.fa 15 2 2,.ld 16 1 false 15,.fa 17 2 3,.ld 18 1 false 17,.bin 19 .neq 16 18]) (.cond 19 (.seq (.ops [.asg 4 (kB false)]) .ret) .skip)) (.seq (.ops [.asg 4 (kB true)]) .ret)))))
theorem bYa:bC Tryz.prog 23=some (bIe,[.mv 0 4],20):=by kernel_rfl
def cE1 (r:Bool):Exit→St→Prop:=bA [.mv 0 4] fun x _=>x=(fun y=>(vB y)) r
def bEg:AC:=(.seq (.ops [.box 1 35 0,.asg 2 (.c (.nil 3))]) (.seq (.seq (.ops [.ld 3 10 true 1,.call (some 4) 16 [3],.not 5 4]) (.cond 5 (.seq (.ops [.bsl 6 56 3 [],.asg 2 6]) .ret) .skip)) (.seq (.ops [.bsl 7 56 3 [],.ld 8 10 true 1,.call (some 9) 17 [7,8,(kB false)],.asg 2 9]) .ret)))
theorem bGj:bC Tryz.prog 5=some (bEg,[.mv 0 2],10):=by kernel_rfl
def cGy (r:(List aA)):Exit→St→Prop:=bA [.mv 0 2] fun x b=>x=(fun (y:(List aA))=>(.osl 2000000 56 3 (y.map aL))) r∧bM ((fun (y:(List aA))=>[]) r) b
def bFi:AC:=(.seq (.ops [.box 1 31 0,.alc 2 [bS,dL,bS]]) (.seq (.seq (.ops [.fa 3 0 1,.ld 4 1 false 3]) (.block 0 (.seq (.ops [.bin 6 .eql 4 (kI 1),.asg 5 6]) (.cond 5 (.seq (.ops [.fa 7 1 1,.ld 8 1 false 7,.call (some 9) 69 [8],.bld 10 [bS,dL,bS] [(0,1,(kI 3)),(1,1,9)],.st 3 2 10]) .ret) (.seq (.ops [.bin 12 .eql 4 (kI 2),.asg 11 12]) (.cond 11 (.seq (.ops [.fa 13 2 1,.ld 14 1 false 13,.bld 15 [bS,dL,bS] [(0,1,(kI 4)),(1,1,14)],.st 3 2 15]) .ret) (.seq (.ops [.bin 17 .eql 4 (kI 3),.asg 16 17]) (.cond 16 (.seq (.seq (.ops [.fa 18 1 1,.ld 19 1 false 18,.bin 20 .eql 19 (kI 1)]) (.cond 20 (.seq (.ops [.call (some 21) 40 [(kI 21)],.st 3 2 21]) .ret) .skip)) (.seq (.ops [.call (some 22) 40 [(kI 22)],.st 3 2 22]) .ret)) .skip)))))))) (.seq (.ops [.call (some 23) 40 [(kI 20)],.st 3 2 23]) .ret)))
theorem bYp:bC Tryz.prog 34=some (bFi,[.ld 0 3 true 2],24):=by kernel_rfl
def cF6 (r:aA):Exit→St→Prop:=bA [.ld 0 3 true 2] fun x _=>x=(fun y=>(nT y)) r
def aP7:AC:=(.seq (.ops [.mv 18 5,.bin 19 .add (kI 48) 18,.cvi 20 .u8 19,.bsl 21 5 1 [20],.cbs 22 21,.mv 23 4,.bin 24 .add 22 23,.asg 4 24]) (.ops [.mv 25 0,.bin 26 .quo 25 (kI 10),.asg 0 26]))
def aEc:AC:=(.loop (.seq (.seq (.ops [.mv 10 0,.bin 11 .neq 10 (kI 0)]) (.cond 11 .skip (.exit 0))) (.block 1 (.seq (.ops [.mv 12 0,.bin 13 .rem 12 (kI 10),.asg 5 13]) (.seq (.seq (.ops [.mv 14 5,.bin 15 .lss 14 (kI 0)]) (.cond 15 (.ops [.mv 16 5,.bin 17 .sub (kI 0) 16,.asg 5 17]) .skip)) aP7)))))
def aSn:AC:=(.seq (.seq (.ops [.mv 27 3]) (.cond 27 (.seq (.ops [.mv 28 4,.bin 29 .add (.c (.d (.s (bs [45])))) 28,.asg 2 29]) .ret) .skip)) (.seq (.ops [.mv 30 4,.asg 2 30]) .ret))
def bJy:AC:=(.seq (.ops [.asg 2 (.c (.d (.s (bs []))))]) (.seq (.seq (.ops [.mv 6 0,.bin 7 .eql 6 (kI 0)]) (.cond 7 (.seq (.ops [.asg 2 (.c (.d (.s (bs [48]))))]) .ret) .skip)) (.seq (.ops [.mv 8 0,.bin 9 .lss 8 (kI 0),.asg 3 9]) (.seq (.ops [.asg 4 (.c (.d (.s (bs []))))]) (.seq (.block 0 aEc) aSn)))))
theorem cDg:bC Tryz.prog 69=some (bJy,[.mv 0 2],31):=by kernel_rfl
def bAp (r:(List UInt8)):Exit→St→Prop:=bA [.mv 0 2] fun x _=>x=(fun y=>(vS y)) r
def bRi (r:(List UInt8)):Exit→St→Prop:=(bN (wkK (avc Tryz.prog aSn (bAp r))) (bAp r))
def aN6 (r:(List UInt8)):Exit→St→Prop:=(bP 0 (bRi r))
def bP3 (r:(List UInt8)):Exit→St→Prop:=(bN (avc Tryz.prog aEc (aN6 r)) (aN6 r))
def bO5 (r:(List UInt8)):Exit→St→Prop:=(bP 1 (bP3 r))
def bZ0 (p0:Int) (x0:Int) (x4:(List UInt8)):St:=⟨[(0,(vI x0)),(3,(vB (decide (p0<0)))),(4,(vS x4))],[]⟩
abbrev aCr (p0:Int) (x0:Int) (x4:(List UInt8)) (r:(List UInt8)):Prop:=avc Tryz.prog aEc (aN6 r) (bZ0 p0 x0 x4)
def bGz (x0:Int) (p0:Int) (x4:(List UInt8)) (x5:Int):St:=⟨[(0,(vI x0)),(3,(vB (decide (p0<0)))),(4,(vS x4)),(5,(vI x5))],[]⟩
abbrev aEx (x0:Int) (p0:Int) (x4:(List UInt8)) (x5:Int) (r:(List UInt8)):Prop:=avc Tryz.prog aP7 (bO5 r) (bGz x0 p0 x4 x5)
def bQ3:AC:=(.seq (.ops [.alc 2 [bS,dL,bS]]) (.seq (.ops [.mv 3 0,.call (some 4) 76 [3],.bld 5 [bS,dL,bS] [(0,1,(kI 1)),(1,1,4)],.st 3 2 5]) .ret))
theorem cAi:bC Tryz.prog 40=some (bQ3,[.ld 0 3 true 2],6):=by kernel_rfl
def cGp (r:aA):Exit→St→Prop:=bA [.ld 0 3 true 2] fun x _=>x=(fun y=>(nT y)) r
def bTk:AC:=(.seq (.ops [.asg 2 (.c (.d (.s (bs []))))]) (.seq (.seq (.ops [.mv 3 0,.call (some 4) 102 [3,(kI 1),(kI 28)],.not 5 4]) (.cond 5 (.seq (.ops [.asg 2 (.c (.d (.s (bs []))))]) .ret) .skip)) (.seq (.ops [.call (some 6) 109 [],.mv 7 0,.ia 8 1 6 7,.ld 9 1 false 8,.asg 2 9]) .ret)))
theorem bQ1:bC Tryz.prog 76=some (bTk,[.mv 0 2],10):=by kernel_rfl
def cGd (r:(List UInt8)):Exit→St→Prop:=bA [.mv 0 2] fun x _=>x=(fun y=>(vS y)) r
def bJz:AC:=(.seq (.ops [.asg 0 (.c (.nil 1))]) (.seq (.ops [.bsl 1 9 1 [(.c (.d (.s (bs [])))),(.c (.d (.s (bs [83,69,76,69,67,84])))),(.c (.d (.s (bs [68,73,83,84,73,78,67,84])))),(.c (.d (.s (bs [70,82,79,77])))),(.c (.d (.s (bs [74,79,73,78])))),(.c (.d (.s (bs [79,78])))),(.c (.d (.s (bs [87,72,69,82,69])))),(.c (.d (.s (bs [79,82,68,69,82])))),(.c (.d (.s (bs [66,89])))),(.c (.d (.s (bs [65,83,67])))),(.c (.d (.s (bs [68,69,83,67])))),(.c (.d (.s (bs [76,73,77,73,84])))),(.c (.d (.s (bs [65,83])))),(.c (.d (.s (bs [65,78,68])))),(.c (.d (.s (bs [79,82])))),(.c (.d (.s (bs [78,79,84])))),(.c (.d (.s (bs [73,83])))),(.c (.d (.s (bs [73,78])))),(.c (.d (.s (bs [66,69,84,87,69,69,78])))),(.c (.d (.s (bs [69,88,73,83,84,83])))),(.c (.d (.s (bs [78,85,76,76])))),(.c (.d (.s (bs [84,82,85,69])))),(.c (.d (.s (bs [70,65,76,83,69])))),(.c (.d (.s (bs [73,78,83,69,82,84])))),(.c (.d (.s (bs [73,78,84,79])))),(.c (.d (.s (bs [86,65,76,85,69,83])))),(.c (.d (.s (bs [85,80,68,65,84,69])))),(.c (.d (.s (bs [83,69,84])))),(.c (.d (.s (bs [68,69,76,69,84,69]))))],.asg 0 1]) .ret))
theorem bIf:bC Tryz.prog 109=some (bJz,[.mv 0 0],2):=by kernel_rfl
def cHb (r:(List (List UInt8))):Exit→St→Prop:=bA [.mv 0 0] fun x b=>x=(fun (y:(List (List UInt8)))=>(.osl 2000000 9 1 (y.map cStr))) r∧bM ((fun (y:(List (List UInt8)))=>[]) r) b
def cDc:AC:=(.seq (.ops [.asg 6 (kB false)]) (.seq (.ops [.mv 7 0,.mv 8 1,.bin 9 .geq 7 8,.mv 10 9,.g 10 true (.mv 11 0),.g 10 true (.mv 12 2),.g 10 true (.bin 13 .leq 11 12),.pick 14 10 13 (kB false),.asg 6 14]) .ret))
theorem bWp:bC Tryz.prog 102=some (cDc,[.mv 0 6],15):=by kernel_rfl
def cH5 (r:Bool):Exit→St→Prop:=bA [.mv 0 6] fun x _=>x=(fun y=>(vB y)) r
def cBk:AC:=(.seq (.ops [.box 1 35 0,.asg 2 (kB false)]) (.seq (.ops [.ld 3 10 true 1,.call (some 4) 31 [3,(kI 200)],.bin 5 .geq 4 (kI 0),.mv 6 5,.g 6 true (.ld 7 10 true 1),.g 6 true (.call (some 8) 32 [7]),.pick 9 6 8 (kB false),.mv 10 9,.g 10 true (.ld 11 10 true 1),.g 10 true (.call (some 12) 33 [11]),.g 10 true (.bin 13 .leq 12 (kI 24)),.pick 14 10 13 (kB false),.asg 2 14]) .ret))
theorem bJd:bC Tryz.prog 16=some (cBk,[.mv 0 2],15):=by kernel_rfl
def cIj (r:Bool):Exit→St→Prop:=bA [.mv 0 2] fun x _=>x=(fun y=>(vB y)) r
def aOt:AC:=(.loop (.seq (.seq (.ops [.mv 11 5,.fa 12 8 2,.ld 13 1 false 12,.len 14 13,.bin 15 .lss 11 14,.mv 16 15,.g 16 true (.mv 17 1),.g 16 true (.bin 18 .geq 17 (kI 0)),.pick 19 16 18 (kB false)]) (.cond 19 .skip (.exit 0))) (.seq (.block 1 (.ops [.fa 22 8 2,.ld 23 1 false 22,.mv 24 5,.ia 25 10 23 24,.ld 26 10 true 25,.mv 27 1,.call (some 28) 31 [26,27],.asg 1 28])) (.ops [.mv 20 5,.bin 21 .add 20 (kI 1),.asg 5 21]))))
def aK9:AC:=(.loop (.seq (.seq (.ops [.mv 46 8,.mv 47 7,.len 48 47,.bin 49 .lss 46 48,.mv 50 49,.g 50 true (.mv 51 1),.g 50 true (.bin 52 .geq 51 (kI 0)),.pick 53 50 52 (kB false)]) (.cond 53 .skip (.exit 4))) (.seq (.block 5 (.ops [.mv 56 7,.mv 57 8,.ia 58 10 56 57,.ld 59 10 true 58,.mv 60 1,.call (some 61) 31 [59,60],.asg 1 61])) (.ops [.mv 54 8,.bin 55 .add 54 (kI 1),.asg 8 55]))))
def aVh:AC:=(.ops [.mv 38 6,.bin 39 .add 38 (kI 1),.asg 6 39])
def aJe:AC:=(.loop (.seq (.seq (.ops [.mv 29 6,.fa 30 9 2,.ld 31 1 false 30,.len 32 31,.bin 33 .lss 29 32,.mv 34 33,.g 34 true (.mv 35 1),.g 34 true (.bin 36 .geq 35 (kI 0)),.pick 37 34 36 (kB false)]) (.cond 37 .skip (.exit 2))) (.seq (.block 3 (.seq (.ops [.fa 40 9 2,.ld 41 1 false 40,.mv 42 6,.ia 43 6 41 42,.ld 44 6 true 43,.call (some 45) 64 [44],.asg 7 45]) (.seq (.ops [.asg 8 (kI 0)]) (.block 4 aK9)))) aVh)))
def bA6:AC:=(.seq (.ops [.mv 62 1,.asg 4 62]) .ret)
def aYt:AC:=(.seq (.seq (.ops [.asg 6 (kI 0)]) (.block 2 aJe)) bA6)
def cA6:AC:=(.seq (.ops [.box 2 35 0,.asg 4 (kI 0)]) (.seq (.ops [.mv 9 1,.bin 10 .sub 9 (kI 1),.asg 1 10]) (.seq (.seq (.ops [.asg 5 (kI 0)]) (.block 0 aOt)) aYt)))
theorem bTr:bC Tryz.prog 31=some (cA6,[.mv 0 4],63):=by kernel_rfl
def aEy (r:Int):Exit→St→Prop:=bA [.mv 0 4] fun x _=>x=(fun y=>(vI y)) r
def bJp (r:Int):Exit→St→Prop:=(bN (wkK (avc Tryz.prog aYt (aEy r))) (aEy r))
def bGn (r:Int):Exit→St→Prop:=(bP 0 (bJp r))
def bRl (r:Int):Exit→St→Prop:=(bN (wkK (avc Tryz.prog bA6 (aEy r))) (aEy r))
def aLz (r:Int):Exit→St→Prop:=(bP 2 (bRl r))
def aY8 (r:Int):Exit→St→Prop:=(bN (avc Tryz.prog aJe (aLz r)) (aLz r))
def bF2 (r:Int):Exit→St→Prop:=(bN (wkK (avc Tryz.prog aVh (aY8 r))) (aY8 r))
def bE4 (r:Int):Exit→St→Prop:=(bP 3 (bF2 r))
def bVy (r:Int):Exit→St→Prop:=(bP 4 (bE4 r))
def cCi (p0:aB) (x1:Int) (x5:Int):St:=⟨[(1,(vI x1)),(2,(.ptr 2 0)),(5,(vI x5))],[(2,kL p0)]⟩
abbrev aDn (p0:aB) (x1:Int) (x5:Int) (r:Int):Prop:=avc Tryz.prog aOt (bGn r) (cCi p0 x1 x5)
def bNt (p0:aB) (jZ:Int) (x6:Int):St:=⟨[(1,(vI jZ)),(2,(.ptr 2 0)),(6,(vI x6))],[(2,kL p0)]⟩
abbrev aJg (p0:aB) (jZ:Int) (x6:Int) (r:Int):Prop:=avc Tryz.prog aJe (aLz r) (bNt p0 jZ x6)
def bZf (x6:Int) (y7:(List aB)) (p0:aB) (jY:Int) (x8:Int):St:=⟨[(1,(vI jY)),(2,(.ptr 2 0)),(6,(vI x6)),(7,(.osl 7 35 10 (y7.map bD))),(8,(vI x8))],[(2,kL p0)]⟩
abbrev aGw (x6:Int) (y7:(List aB)) (p0:aB) (jY:Int) (x8:Int) (r:Int):Prop:=avc Tryz.prog aK9 (bVy r) (bZf x6 y7 p0 jY x8)
def aK6:AC:=(.ops [.mv 13 4,.bin 14 .add 13 (kI 1),.asg 4 14])
def aGy:AC:=(.loop (.seq (.seq (.ops [.mv 8 4,.fa 9 1 1,.ld 10 1 false 9,.len 11 10,.bin 12 .lss 8 11]) (.cond 12 .skip (.exit 0))) (.seq (.block 1 (.seq (.ops [.fa 15 1 1,.ld 16 1 false 15,.mv 17 4,.ia 18 13 16 17,.fa 19 0 18,.ld 20 1 false 19,.not 21 20]) (.cond 21 (.ops [.mv 22 3,.fa 23 1 1,.ld 24 1 false 23,.mv 25 4,.ia 26 13 24 25,.fa 27 2 26,.ld 28 10 true 27,.bsl 29 35 10 [28],.app 30 35 10 136 22 29,.asg 3 30]) .skip))) aK6)))
def aO1:AC:=(.loop (.seq (.seq (.ops [.mv 31 5,.fa 32 2 1,.ld 33 1 false 32,.len 34 33,.bin 35 .lss 31 34]) (.cond 35 .skip (.exit 2))) (.seq (.block 3 (.ops [.mv 38 3,.fa 39 2 1,.ld 40 1 false 39,.mv 41 5,.ia 42 3 40 41,.fa 43 2 42,.ld 44 1 false 43,.app 45 35 10 136 38 44,.asg 3 45])) (.ops [.mv 36 5,.bin 37 .add 36 (kI 1),.asg 5 37]))))
def aKx:AC:=(.loop (.seq (.seq (.ops [.mv 50 6,.fa 51 4 1,.ld 52 1 false 51,.len 53 52,.bin 54 .lss 50 53]) (.cond 54 .skip (.exit 4))) (.seq (.block 5 (.ops [.mv 57 3,.fa 58 4 1,.ld 59 1 false 58,.mv 60 6,.ia 61 11 59 60,.fa 62 0 61,.ld 63 10 true 62,.bsl 64 35 10 [63],.app 65 35 10 136 57 64,.asg 3 65])) (.ops [.mv 55 6,.bin 56 .add 55 (kI 1),.asg 6 56]))))
def aRj:AC:=(.seq (.ops [.mv 66 3,.asg 2 66]) .ret)
def aRh:AC:=(.seq (.ops [.mv 46 3,.fa 47 3 1,.ld 48 1 false 47,.app 49 35 10 136 46 48,.asg 3 49]) (.seq (.seq (.ops [.asg 6 (kI 0)]) (.block 4 aKx)) aRj))
def aWv:AC:=(.seq (.seq (.ops [.asg 5 (kI 0)]) (.block 2 aO1)) aRh)
def cB7:AC:=(.seq (.ops [.box 1 79 0,.asg 2 (.c (.nil 10))]) (.seq (.ops [.bsl 7 35 10 [],.asg 3 7]) (.seq (.seq (.ops [.asg 4 (kI 0)]) (.block 0 aGy)) aWv)))
theorem bTs:bC Tryz.prog 64=some (cB7,[.mv 0 2],67):=by kernel_rfl
def P5 (r:(List aB)):Exit→St→Prop:=bA [.mv 0 2] fun x b=>x=(fun (y:(List aB))=>(.osl 2000000 35 10 (y.map bD))) r∧bM ((fun (y:(List aB))=>[]) r) b
def bFm (r:(List aB)):Exit→St→Prop:=(bN (wkK (avc Tryz.prog aWv (P5 r))) (P5 r))
def aMb (r:(List aB)):Exit→St→Prop:=(bP 0 (bFm r))
def bJb (r:(List aB)):Exit→St→Prop:=(bN (avc Tryz.prog aGy (aMb r)) (aMb r))
def cBt (r:(List aB)):Exit→St→Prop:=(bN (wkK (avc Tryz.prog aRh (P5 r))) (P5 r))
def bI8 (r:(List aB)):Exit→St→Prop:=(bP 2 (cBt r))
def bFp (r:(List aB)):Exit→St→Prop:=(bN (wkK (avc Tryz.prog aRj (P5 r))) (P5 r))
def cBz (r:(List aB)):Exit→St→Prop:=(bP 4 (bFp r))
def bJ6 (p0:aJ) (x3:(List aB)) (x4:Int):St:=⟨[(1,(.ptr 1 0)),(3,(.osl 3 35 10 (x3.map bD))),(4,(vI x4))],[(1,gD p0)]⟩
abbrev aF5 (p0:aJ) (x3:(List aB)) (x4:Int) (r:(List aB)):Prop:=avc Tryz.prog aGy (aMb r) (bJ6 p0 x3 x4)
def bXm (x4:Int) (p0:aJ) (dX:(List aB)):St:=⟨[(1,(.ptr 1 0)),(3,(.osl 3 35 10 (dX.map bD))),(4,(vI x4))],[(1,gD p0)]⟩
abbrev aDh (x4:Int) (p0:aJ) (dX:(List aB)) (r:(List aB)):Prop:=avc Tryz.prog aK6 (bJb r) (bXm x4 p0 dX)
def bOg (p0:aJ) (kW:(List aB)) (x5:Int):St:=⟨[(1,(.ptr 1 0)),(3,(.osl 3 35 10 (kW.map bD))),(5,(vI x5))],[(1,gD p0)]⟩
abbrev aHk (p0:aJ) (kW:(List aB)) (x5:Int) (r:(List aB)):Prop:=avc Tryz.prog aO1 (bI8 r) (bOg p0 kW x5)
def bGs (p0:aJ) (jG:(List aB)) (x6:Int):St:=⟨[(1,(.ptr 1 0)),(3,(.osl 3 35 10 (jG.map bD))),(6,(vI x6))],[(1,gD p0)]⟩
abbrev aCv (p0:aJ) (jG:(List aB)) (x6:Int) (r:(List aB)):Prop:=avc Tryz.prog aKx (cBz r) (bGs p0 jG x6)
def aLb:AC:=(.loop (.seq (.seq (.ops [.mv 6 4,.fa 7 8 1,.ld 8 1 false 7,.len 9 8,.bin 10 .lss 6 9]) (.cond 10 .skip (.exit 0))) (.seq (.block 1 (.ops [.mv 13 3,.fa 14 8 1,.ld 15 1 false 14,.mv 16 4,.ia 17 10 15 16,.ld 18 10 true 17,.call (some 19) 33 [18],.call (some 20) 67 [13,19],.asg 3 20])) (.ops [.mv 11 4,.bin 12 .add 11 (kI 1),.asg 4 12]))))
def aMi:AC:=(.loop (.seq (.seq (.ops [.mv 21 5,.fa 22 9 1,.ld 23 1 false 22,.len 24 23,.bin 25 .lss 21 24]) (.cond 25 .skip (.exit 2))) (.seq (.block 3 (.ops [.mv 28 3,.fa 29 9 1,.ld 30 1 false 29,.mv 31 5,.ia 32 6 30 31,.ld 33 6 true 32,.call (some 34) 68 [33],.call (some 35) 67 [28,34],.asg 3 35])) (.ops [.mv 26 5,.bin 27 .add 26 (kI 1),.asg 5 27]))))
def bAm:AC:=(.seq (.ops [.mv 36 3,.bin 37 .add 36 (kI 1),.asg 2 37]) .ret)
def aQq:AC:=(.seq (.seq (.ops [.asg 5 (kI 0)]) (.block 2 aMi)) bAm)
def bMz:AC:=(.seq (.ops [.box 1 35 0,.asg 2 (kI 0)]) (.seq (.ops [.asg 3 (kI 0)]) (.seq (.seq (.ops [.asg 4 (kI 0)]) (.block 0 aLb)) aQq)))
theorem cB5:bC Tryz.prog 33=some (bMz,[.mv 0 2],38):=by kernel_rfl
def aI2 (r:Int):Exit→St→Prop:=bA [.mv 0 2] fun x _=>x=(fun y=>(vI y)) r
def bMs (r:Int):Exit→St→Prop:=(bN (wkK (avc Tryz.prog aQq (aI2 r))) (aI2 r))
def bQu (r:Int):Exit→St→Prop:=(bP 0 (bMs r))
def bMc (r:Int):Exit→St→Prop:=(bN (wkK (avc Tryz.prog bAm (aI2 r))) (aI2 r))
def bMu (r:Int):Exit→St→Prop:=(bP 2 (bMc r))
def bDh (p0:aB) (x3:Int) (x4:Int):St:=⟨[(1,(.ptr 1 0)),(3,(vI x3)),(4,(vI x4))],[(1,kL p0)]⟩
abbrev aFt (p0:aB) (x3:Int) (x4:Int) (r:Int):Prop:=avc Tryz.prog aLb (bQu r) (bDh p0 x3 x4)
def bLi (p0:aB) (dX:Int) (x5:Int):St:=⟨[(1,(.ptr 1 0)),(3,(vI dX)),(5,(vI x5))],[(1,kL p0)]⟩
abbrev aJn (p0:aB) (dX:Int) (x5:Int) (r:Int):Prop:=avc Tryz.prog aMi (bMu r) (bLi p0 dX x5)
def aN1:AC:=(.loop (.seq (.seq (.ops [.mv 8 5,.mv 9 4,.len 10 9,.bin 11 .lss 8 10]) (.cond 11 .skip (.exit 0))) (.seq (.block 1 (.ops [.mv 14 3,.mv 15 4,.mv 16 5,.ia 17 10 15 16,.ld 18 10 true 17,.call (some 19) 33 [18],.call (some 20) 67 [14,19],.asg 3 20])) (.ops [.mv 12 5,.bin 13 .add 12 (kI 1),.asg 5 13]))))
def aYr:AC:=(.seq (.ops [.mv 21 3,.asg 2 21]) .ret)
def bZx:AC:=(.seq (.ops [.box 1 79 0,.asg 2 (kI 0)]) (.seq (.ops [.asg 3 (kI 0)]) (.seq (.ops [.ld 6 6 true 1,.call (some 7) 64 [6],.asg 4 7]) (.seq (.seq (.ops [.asg 5 (kI 0)]) (.block 0 aN1)) aYr))))
theorem cDi:bC Tryz.prog 68=some (bZx,[.mv 0 2],22):=by kernel_rfl
def aZk (r:Int):Exit→St→Prop:=bA [.mv 0 2] fun x _=>x=(fun y=>(vI y)) r
def bPc (r:Int):Exit→St→Prop:=(bN (wkK (avc Tryz.prog aYr (aZk r))) (aZk r))
def cCv (r:Int):Exit→St→Prop:=(bP 0 (bPc r))
def bVg (y1:(List aB)) (x3:Int) (x5:Int):St:=⟨[(3,(vI x3)),(4,(.osl 4 35 10 (y1.map bD))),(5,(vI x5))],[]⟩
abbrev aE8 (y1:(List aB)) (x3:Int) (x5:Int) (r:Int):Prop:=avc Tryz.prog aN1 (cCv r) (bVg y1 x3 x5)
def cDj:AC:=(.seq (.ops [.asg 4 (kI 0)]) (.seq (.seq (.ops [.mv 5 0,.mv 6 1,.bin 7 .gtr 5 6]) (.cond 7 (.seq (.ops [.mv 8 0,.asg 4 8]) .ret) .skip)) (.seq (.ops [.mv 9 1,.asg 4 9]) .ret)))
theorem cCs:bC Tryz.prog 67=some (cDj,[.mv 0 4],10):=by kernel_rfl
def cH7 (r:Int):Exit→St→Prop:=bA [.mv 0 4] fun x _=>x=(fun y=>(vI y)) r
def aMs:AC:=(.loop (.seq (.seq (.ops [.mv 7 3,.fa 8 8 1,.ld 9 1 false 8,.len 10 9,.bin 11 .lss 7 10]) (.cond 11 .skip (.exit 0))) (.seq (.block 1 (.seq (.ops [.fa 14 8 1,.ld 15 1 false 14,.mv 16 3,.ia 17 10 15 16,.ld 18 10 true 17,.call (some 19) 32 [18],.not 20 19]) (.cond 20 (.seq (.ops [.asg 2 (kB false)]) .ret) .skip))) (.ops [.mv 12 3,.bin 13 .add 12 (kI 1),.asg 3 13]))))
def aZx:AC:=(.seq (.ops [.fa 21 9 1,.ld 22 1 false 21,.len 23 22,.bin 24 .eql 23 (kI 0),.mv 25 24,.g 25 false (.fa 26 9 1),.g 25 false (.ld 27 1 false 26),.g 25 false (.ia 28 6 27 (kI 0)),.g 25 false (.ld 29 6 true 28),.g 25 false (.call (some 30) 66 [29]),.pick 31 25 (kB true) 30,.asg 2 31]) .ret)
def bSc:AC:=(.seq (.ops [.box 1 35 0,.asg 2 (kB false)]) (.seq (.seq (.ops [.ld 4 10 true 1,.call (some 5) 65 [4],.not 6 5]) (.cond 6 (.seq (.ops [.asg 2 (kB false)]) .ret) .skip)) (.seq (.seq (.ops [.asg 3 (kI 0)]) (.block 0 aMs)) aZx)))
theorem cAo:bC Tryz.prog 32=some (bSc,[.mv 0 2],32):=by kernel_rfl
def bCd (r:Bool):Exit→St→Prop:=bA [.mv 0 2] fun x _=>x=(fun y=>(vB y)) r
def bU9 (r:Bool):Exit→St→Prop:=(bN (wkK (avc Tryz.prog aZx (bCd r))) (bCd r))
def bGa (r:Bool):Exit→St→Prop:=(bP 0 (bU9 r))
def bKj (p0:aB) (x3:Int):St:=⟨[(1,(.ptr 1 0)),(3,(vI x3))],[(1,kL p0)]⟩
abbrev aI6 (p0:aB) (x3:Int) (r:Bool):Prop:=avc Tryz.prog aMs (bGa r) (bKj p0 x3)
def aKn:AC:=(.loop (.seq (.seq (.ops [.mv 38 3,.fa 39 1 1,.ld 40 1 false 39,.len 41 40,.bin 42 .lss 38 41]) (.cond 42 .skip (.exit 0))) (.seq (.block 1 (.seq (.ops [.fa 45 1 1,.ld 46 1 false 45,.mv 47 3,.ia 48 13 46 47,.ld 49 13 true 48,.alc 4 pO,.st 13 4 49]) (.seq (.ops [.fa 50 0 4,.ld 51 1 false 50,.mv 52 51,.g 52 true (.fa 53 1 4),.g 52 true (.ld 54 1 false 53),.g 52 true (.call (some 55) 105 [54]),.g 52 true (.not 56 55),.g 52 true (.mv 57 56),.g 57 false (.fa 58 12 4),.g 57 false (.ld 59 1 false 58),.g 57 false (.bin 60 .neq 59 (.c (.d (.s (bs []))))),.g 52 true (.pick 61 57 (kB true) 60),.g 52 true (.mv 62 61),.g 62 false (.fa 63 2 4),.g 62 false (.ld 64 10 true 63),.g 62 false (.bld 65 [bS,bS,dR,bS,bS,dL,dL,dL,(.nil 10),(.nil 6)] []),.g 62 false (.call (some 66) 106 [64,65]),.g 62 false (.not 67 66),.g 52 true (.pick 68 62 (kB true) 67),.pick 69 52 68 (kB false),.mv 70 69,.g 70 false (.fa 71 0 4),.g 70 false (.ld 72 1 false 71),.g 70 false (.not 73 72),.g 70 false (.mv 74 73),.g 74 true (.fa 75 1 4),.g 74 true (.ld 76 1 false 75),.g 74 true (.bin 77 .neq 76 (.c (.d (.s (bs []))))),.g 74 true (.mv 78 77),.g 78 false (.fa 79 12 4),.g 78 false (.ld 80 1 false 79),.g 78 false (.call (some 81) 105 [80]),.g 78 false (.not 82 81),.g 74 true (.pick 83 78 (kB true) 82),.g 70 false (.pick 84 74 83 (kB false)),.pick 85 70 (kB true) 84]) (.cond 85 (.seq (.ops [.asg 2 (kB false)]) .ret) .skip)))) (.ops [.mv 43 3,.bin 44 .add 43 (kI 1),.asg 3 44]))))
def aLi:AC:=(.loop (.seq (.seq (.ops [.mv 86 5,.fa 87 2 1,.ld 88 1 false 87,.len 89 88,.bin 90 .lss 86 89]) (.cond 90 .skip (.exit 2))) (.seq (.block 3 (.seq (.ops [.fa 93 2 1,.ld 94 1 false 93,.mv 95 5,.ia 96 3 94 95,.ld 97 3 true 96,.alc 6 [dL,dL,(.nil 10)],.st 3 6 97]) (.seq (.ops [.fa 98 0 6,.ld 99 1 false 98,.call (some 100) 104 [99],.not 101 100,.mv 102 101,.g 102 false (.fa 103 1 6),.g 102 false (.ld 104 1 false 103),.g 102 false (.call (some 105) 105 [104]),.g 102 false (.not 106 105),.pick 107 102 (kB true) 106,.mv 108 107,.g 108 false (.fa 109 2 6),.g 108 false (.ld 110 1 false 109),.g 108 false (.len 111 110),.g 108 false (.bin 112 .gtr 111 (kI 1)),.pick 113 108 (kB true) 112,.mv 114 113,.g 114 false (.mv 115 5),.g 114 false (.bin 116 .eql 115 (kI 0)),.g 114 false (.mv 117 116),.g 117 true (.fa 118 2 6),.g 117 true (.ld 119 1 false 118),.g 117 true (.len 120 119),.g 117 true (.bin 121 .gtr 120 (kI 0)),.g 114 false (.pick 122 117 121 (kB false)),.pick 123 114 (kB true) 122]) (.cond 123 (.seq (.ops [.asg 2 (kB false)]) .ret) .skip)))) (.ops [.mv 91 5,.bin 92 .add 91 (kI 1),.asg 5 92]))))
def aNo:AC:=(.loop (.seq (.seq (.ops [.mv 126 8,.mv 127 7,.len 128 127,.bin 129 .lss 126 128]) (.cond 129 .skip (.exit 4))) (.seq (.block 5 (.seq (.ops [.mv 132 7,.mv 133 8,.ia 134 10 132 133,.ld 135 10 true 134,.call (some 136) 32 [135],.not 137 136]) (.cond 137 (.seq (.ops [.asg 2 (kB false)]) .ret) .skip))) (.ops [.mv 130 8,.bin 131 .add 130 (kI 1),.asg 8 131]))))
def aX4:AC:=(.seq (.ops [.asg 2 (kB true)]) .ret)
def aTl:AC:=(.seq (.ops [.ld 124 6 true 1,.call (some 125) 64 [124],.asg 7 125]) (.seq (.seq (.ops [.asg 8 (kI 0)]) (.block 4 aNo)) aX4))
def aUr:AC:=(.seq (.seq (.ops [.asg 5 (kI 0)]) (.block 2 aLi)) aTl)
def bDc:AC:=(.seq (.ops [.box 1 79 0,.asg 2 (kB false)]) (.seq (.seq (.ops [.fa 9 1 1,.ld 10 1 false 9,.len 11 10,.call (some 12) 102 [11,(kI 1),(kI 12)],.not 13 12,.mv 14 13,.g 14 false (.fa 15 2 1),.g 14 false (.ld 16 1 false 15),.g 14 false (.len 17 16),.g 14 false (.call (some 18) 102 [17,(kI 1),(kI 3)]),.g 14 false (.not 19 18),.pick 20 14 (kB true) 19,.mv 21 20,.g 21 false (.fa 22 3 1),.g 21 false (.ld 23 1 false 22),.g 21 false (.len 24 23),.g 21 false (.bin 25 .gtr 24 (kI 1)),.pick 26 21 (kB true) 25,.mv 27 26,.g 27 false (.fa 28 4 1),.g 27 false (.ld 29 1 false 28),.g 27 false (.len 30 29),.g 27 false (.bin 31 .gtr 30 (kI 12)),.pick 32 27 (kB true) 31,.mv 33 32,.g 33 false (.fa 34 5 1),.g 33 false (.ld 35 1 false 34),.g 33 false (.bin 36 .lss 35 (kI (-1))),.pick 37 33 (kB true) 36]) (.cond 37 (.seq (.ops [.asg 2 (kB false)]) .ret) .skip)) (.seq (.seq (.ops [.asg 3 (kI 0)]) (.block 0 aKn)) aUr)))
theorem bIv:bC Tryz.prog 66=some (bDc,[.mv 0 2],138):=by kernel_rfl
def H9 (r:Bool):Exit→St→Prop:=bA [.mv 0 2] fun x _=>x=(fun y=>(vB y)) r
def bR6 (r:Bool):Exit→St→Prop:=(bN (wkK (avc Tryz.prog aUr (H9 r))) (H9 r))
def cD9 (r:Bool):Exit→St→Prop:=(bP 0 (bR6 r))
def bGg (r:Bool):Exit→St→Prop:=(bN (wkK (avc Tryz.prog aTl (H9 r))) (H9 r))
def cCx (r:Bool):Exit→St→Prop:=(bP 2 (bGg r))
def bM1 (r:Bool):Exit→St→Prop:=(bN (wkK (avc Tryz.prog aX4 (H9 r))) (H9 r))
def cCl (r:Bool):Exit→St→Prop:=(bP 4 (bM1 r))
def bV3 (p0:aJ) (x3:Int):St:=⟨[(1,(.ptr 1 0)),(3,(vI x3))],[(1,gD p0)]⟩
abbrev aIf (p0:aJ) (x3:Int) (r:Bool):Prop:=avc Tryz.prog aKn (cD9 r) (bV3 p0 x3)
def bIz (p0:aJ) (x5:Int):St:=⟨[(1,(.ptr 1 0)),(5,(vI x5))],[(1,gD p0)]⟩
abbrev aJp (p0:aJ) (x5:Int) (r:Bool):Prop:=avc Tryz.prog aLi (cCx r) (bIz p0 x5)
def bPz (y24:(List aB)) (x8:Int):St:=⟨[(7,(.osl 7 35 10 (y24.map bD))),(8,(vI x8))],[]⟩
abbrev aGn (y24:(List aB)) (x8:Int) (r:Bool):Prop:=avc Tryz.prog aNo (cCl r) (bPz y24 x8)
def aKe:AC:=(.loop (.seq (.seq (.ops [.mv 63 5,.fa 64 9 2,.ld 65 1 false 64,.len 66 65,.bin 67 .lss 63 66]) (.cond 67 .skip (.exit 0))) (.seq (.block 1 (.seq (.dops [[],[0],[],[1,2],[3],[],[5],[],[6,7],[8],[4,9],[10]] [.fa 70 9 2,.ld 71 1 false 70,.mv 72 5,.ia 73 6 71 72,.ld 74 6 true 73,.fa 75 9 3,.ld 76 1 false 75,.mv 77 5,.ia 78 6 76 77,.ld 79 6 true 78,.call (some 80) 136 [74,79],.not 81 80]) (.cond 81 (.seq (.ops [.asg 4 (kB false)]) .ret) .skip))) (.ops [.mv 68 5,.bin 69 .add 68 (kI 1),.asg 5 69]))))
def aVu:AC:=(.seq (.ops [.asg 4 (kB true)]) .ret)
def bDm:AC:=(.seq (.ops [.box 2 35 0,.box 3 35 1,.asg 4 (kB false)]) (.seq (.seq (.ops [.fa 6 0 2,.ld 7 1 false 6,.fa 8 0 3,.ld 9 1 false 8,.bin 10 .neq 7 9,.mv 11 10,.g 11 false (.fa 12 1 2),.g 11 false (.ld 13 1 false 12),.g 11 false (.fa 14 1 3),.g 11 false (.ld 15 1 false 14),.g 11 false (.bin 16 .neq 13 15),.pick 17 11 (kB true) 16,.mv 18 17,.g 18 false (.fa 19 2 2),.g 18 false (.ld 20 1 false 19),.g 18 false (.fa 21 2 3),.g 18 false (.ld 22 1 false 21),.g 18 false (.eqb 23 true 20 22),.pick 24 18 (kB true) 23,.mv 25 24,.g 25 false (.fa 26 3 2),.g 25 false (.ld 27 3 true 26),.g 25 false (.fa 28 3 3),.g 25 false (.ld 29 3 true 28),.g 25 false (.eqv 30 true [0,0,1] 27 29),.pick 31 25 (kB true) 30,.mv 32 31,.g 32 false (.fa 33 6 2),.g 32 false (.ld 34 1 false 33),.g 32 false (.fa 35 6 3),.g 32 false (.ld 36 1 false 35),.g 32 false (.bin 37 .neq 34 36),.pick 38 32 (kB true) 37,.mv 39 38,.g 39 false (.fa 40 7 2),.g 39 false (.ld 41 1 false 40),.g 39 false (.fa 42 7 3),.g 39 false (.ld 43 1 false 42),.g 39 false (.bin 44 .neq 41 43),.pick 45 39 (kB true) 44,.mv 46 45,.g 46 false (.fa 47 9 2),.g 46 false (.ld 48 1 false 47),.g 46 false (.len 49 48),.g 46 false (.fa 50 9 3),.g 46 false (.ld 51 1 false 50),.g 46 false (.len 52 51),.g 46 false (.bin 53 .neq 49 52),.pick 54 46 (kB true) 53,.mv 55 54,.g 55 false (.fa 56 8 2),.g 55 false (.ld 57 1 false 56),.g 55 false (.fa 58 8 3),.g 55 false (.ld 59 1 false 58),.g 55 false (.call (some 60) 135 [57,59]),.g 55 false (.not 61 60),.pick 62 55 (kB true) 61]) (.cond 62 (.seq (.ops [.asg 4 (kB false)]) .ret) .skip)) (.seq (.seq (.ops [.asg 5 (kI 0)]) (.block 0 aKe)) aVu)))
theorem bFw:bC Tryz.prog 106=some (bDm,[.mv 0 4],82):=by kernel_rfl
def bD1 (r:Bool):Exit→St→Prop:=bA [.mv 0 4] fun x _=>x=(fun y=>(vB y)) r
def cDe (r:Bool):Exit→St→Prop:=(bN (wkK (avc Tryz.prog aVu (bD1 r))) (bD1 r))
def cC5 (r:Bool):Exit→St→Prop:=(bP 0 (cDe r))
def bQe (p0:aB) (p1:aB) (x5:Int):St:=⟨[(2,(.ptr 2 0)),(3,(.ptr 3 0)),(5,(vI x5))],[(2,kL p0),(3,kL p1)]⟩
abbrev aId (p0:aB) (p1:aB) (x5:Int) (r:Bool):Prop:=avc Tryz.prog aKe (cC5 r) (bQe p0 p1 x5)
def aNq:AC:=(.loop (.seq (.seq (.ops [.mv 59 5,.fa 60 1 2,.ld 61 1 false 60,.len 62 61,.bin 63 .lss 59 62]) (.cond 63 .skip (.exit 0))) (.seq (.block 1 (.seq (.ops [.fa 66 1 2,.ld 67 1 false 66,.mv 68 5,.ia 69 13 67 68,.ld 70 13 true 69,.alc 6 pO,.st 13 6 70]) (.seq (.ops [.fa 71 1 3,.ld 72 1 false 71,.mv 73 5,.ia 74 13 72 73,.ld 75 13 true 74,.alc 7 pO,.st 13 7 75]) (.seq (.ops [.fa 76 0 6,.ld 77 1 false 76,.fa 78 0 7,.ld 79 1 false 78,.eqb 80 true 77 79,.mv 81 80,.g 81 false (.fa 82 1 6),.g 81 false (.ld 83 1 false 82),.g 81 false (.fa 84 1 7),.g 81 false (.ld 85 1 false 84),.g 81 false (.bin 86 .neq 83 85),.pick 87 81 (kB true) 86,.mv 88 87,.g 88 false (.fa 89 12 6),.g 88 false (.ld 90 1 false 89),.g 88 false (.fa 91 12 7),.g 88 false (.ld 92 1 false 91),.g 88 false (.bin 93 .neq 90 92),.pick 94 88 (kB true) 93,.mv 95 94,.g 95 false (.fa 96 2 6),.g 95 false (.ld 97 10 true 96),.g 95 false (.fa 98 2 7),.g 95 false (.ld 99 10 true 98),.g 95 false (.call (some 100) 106 [97,99]),.g 95 false (.not 101 100),.pick 102 95 (kB true) 101]) (.cond 102 (.seq (.ops [.asg 4 (kB false)]) .ret) .skip))))) (.ops [.mv 64 5,.bin 65 .add 64 (kI 1),.asg 5 65]))))
def aNf:AC:=(.loop (.seq (.seq (.ops [.mv 103 8,.fa 104 2 2,.ld 105 1 false 104,.len 106 105,.bin 107 .lss 103 106]) (.cond 107 .skip (.exit 2))) (.seq (.block 3 (.seq (.ops [.fa 110 2 2,.ld 111 1 false 110,.mv 112 8,.ia 113 3 111 112,.ld 114 3 true 113,.alc 9 [dL,dL,(.nil 10)],.st 3 9 114]) (.seq (.ops [.fa 115 2 3,.ld 116 1 false 115,.mv 117 8,.ia 118 3 116 117,.ld 119 3 true 118,.alc 10 [dL,dL,(.nil 10)],.st 3 10 119]) (.seq (.ops [.fa 120 0 9,.ld 121 1 false 120,.fa 122 0 10,.ld 123 1 false 122,.bin 124 .neq 121 123,.mv 125 124,.g 125 false (.fa 126 1 9),.g 125 false (.ld 127 1 false 126),.g 125 false (.fa 128 1 10),.g 125 false (.ld 129 1 false 128),.g 125 false (.bin 130 .neq 127 129),.pick 131 125 (kB true) 130,.mv 132 131,.g 132 false (.fa 133 2 9),.g 132 false (.ld 134 1 false 133),.g 132 false (.fa 135 2 10),.g 132 false (.ld 136 1 false 135),.g 132 false (.call (some 137) 135 [134,136]),.g 132 false (.not 138 137),.pick 139 132 (kB true) 138]) (.cond 139 (.seq (.ops [.asg 4 (kB false)]) .ret) .skip))))) (.ops [.mv 108 8,.bin 109 .add 108 (kI 1),.asg 8 109]))))
def aNb:AC:=(.loop (.seq (.seq (.ops [.mv 140 11,.fa 141 4 2,.ld 142 1 false 141,.len 143 142,.bin 144 .lss 140 143]) (.cond 144 .skip (.exit 4))) (.seq (.block 5 (.seq (.dops [[],[0],[],[1,2],[3],[4],[],[6],[],[7,8],[9],[10],[5,11],[12],[13],[14,13],[13],[15,16,13],[17,13],[18,13],[13],[20,13],[13],[21,22,13],[23,13],[24,13],[19,25,13,13],[26,13],[13,27]] [.fa 147 4 2,.ld 148 1 false 147,.mv 149 11,.ia 150 11 148 149,.fa 151 10 150,.ld 152 1 false 151,.fa 153 4 3,.ld 154 1 false 153,.mv 155 11,.ia 156 11 154 155,.fa 157 10 156,.ld 158 1 false 157,.eqb 159 true 152 158,.mv 160 159,.g 160 false (.fa 161 4 2),.g 160 false (.ld 162 1 false 161),.g 160 false (.mv 163 11),.g 160 false (.ia 164 11 162 163),.g 160 false (.fa 165 0 164),.g 160 false (.ld 166 10 true 165),.g 160 false (.fa 167 4 3),.g 160 false (.ld 168 1 false 167),.g 160 false (.mv 169 11),.g 160 false (.ia 170 11 168 169),.g 160 false (.fa 171 0 170),.g 160 false (.ld 172 10 true 171),.g 160 false (.call (some 173) 106 [166,172]),.g 160 false (.not 174 173),.pick 175 160 (kB true) 174]) (.cond 175 (.seq (.ops [.asg 4 (kB false)]) .ret) .skip))) (.ops [.mv 145 11,.bin 146 .add 145 (kI 1),.asg 11 146]))))
def aR5:AC:=(.seq (.ops [.asg 4 (kB true)]) .ret)
def aQv:AC:=(.seq (.seq (.ops [.asg 11 (kI 0)]) (.block 4 aNb)) aR5)
def aTc:AC:=(.seq (.seq (.ops [.asg 8 (kI 0)]) (.block 2 aNf)) aQv)
def bEt:AC:=(.seq (.ops [.box 2 79 0,.box 3 79 1,.asg 4 (kB false)]) (.seq (.seq (.ops [.fa 12 0 2,.ld 13 1 false 12,.fa 14 0 3,.ld 15 1 false 14,.eqb 16 true 13 15,.mv 17 16,.g 17 false (.fa 18 5 2),.g 17 false (.ld 19 1 false 18),.g 17 false (.fa 20 5 3),.g 17 false (.ld 21 1 false 20),.g 17 false (.bin 22 .neq 19 21),.pick 23 17 (kB true) 22,.mv 24 23,.g 24 false (.fa 25 1 2),.g 24 false (.ld 26 1 false 25),.g 24 false (.len 27 26),.g 24 false (.fa 28 1 3),.g 24 false (.ld 29 1 false 28),.g 24 false (.len 30 29),.g 24 false (.bin 31 .neq 27 30),.pick 32 24 (kB true) 31,.mv 33 32,.g 33 false (.fa 34 2 2),.g 33 false (.ld 35 1 false 34),.g 33 false (.len 36 35),.g 33 false (.fa 37 2 3),.g 33 false (.ld 38 1 false 37),.g 33 false (.len 39 38),.g 33 false (.bin 40 .neq 36 39),.pick 41 33 (kB true) 40,.mv 42 41,.g 42 false (.fa 43 4 2),.g 42 false (.ld 44 1 false 43),.g 42 false (.len 45 44),.g 42 false (.fa 46 4 3),.g 42 false (.ld 47 1 false 46),.g 42 false (.len 48 47),.g 42 false (.bin 49 .neq 45 48),.pick 50 42 (kB true) 49,.mv 51 50,.g 51 false (.fa 52 3 2),.g 51 false (.ld 53 1 false 52),.g 51 false (.fa 54 3 3),.g 51 false (.ld 55 1 false 54),.g 51 false (.call (some 56) 135 [53,55]),.g 51 false (.not 57 56),.pick 58 51 (kB true) 57]) (.cond 58 (.seq (.ops [.asg 4 (kB false)]) .ret) .skip)) (.seq (.seq (.ops [.asg 5 (kI 0)]) (.block 0 aNq)) aTc)))
theorem cAt:bC Tryz.prog 136=some (bEt,[.mv 0 4],176):=by kernel_rfl
def V7 (r:Bool):Exit→St→Prop:=bA [.mv 0 4] fun x _=>x=(fun y=>(vB y)) r
def bX8 (r:Bool):Exit→St→Prop:=(bN (wkK (avc Tryz.prog aTc (V7 r))) (V7 r))
def bI9 (r:Bool):Exit→St→Prop:=(bP 0 (bX8 r))
def bX7 (r:Bool):Exit→St→Prop:=(bN (wkK (avc Tryz.prog aQv (V7 r))) (V7 r))
def bWy (r:Bool):Exit→St→Prop:=(bP 2 (bX7 r))
def bQy (r:Bool):Exit→St→Prop:=(bN (wkK (avc Tryz.prog aR5 (V7 r))) (V7 r))
def bK9 (r:Bool):Exit→St→Prop:=(bP 4 (bQy r))
def bSk (p0:aJ) (p1:aJ) (x5:Int):St:=⟨[(2,(.ptr 2 0)),(3,(.ptr 3 0)),(5,(vI x5))],[(2,gD p0),(3,gD p1)]⟩
abbrev aFz (p0:aJ) (p1:aJ) (x5:Int) (r:Bool):Prop:=avc Tryz.prog aNq (bI9 r) (bSk p0 p1 x5)
def bX5 (p0:aJ) (p1:aJ) (x8:Int):St:=⟨[(2,(.ptr 2 0)),(3,(.ptr 3 0)),(8,(vI x8))],[(2,gD p0),(3,gD p1)]⟩
abbrev aHq (p0:aJ) (p1:aJ) (x8:Int) (r:Bool):Prop:=avc Tryz.prog aNf (bWy r) (bX5 p0 p1 x8)
def aT0 (p0:aJ) (p1:aJ) (x11:Int):St:=⟨[(2,(.ptr 2 0)),(3,(.ptr 3 0)),(11,(vI x11))],[(2,gD p0),(3,gD p1)]⟩
abbrev aJf (p0:aJ) (p1:aJ) (x11:Int) (r:Bool):Prop:=avc Tryz.prog aNb (bK9 r) (aT0 p0 p1 x11)
def aK7:AC:=(.loop (.seq (.seq (.ops [.mv 11 5,.mv 12 0,.len 13 12,.bin 14 .lss 11 13]) (.cond 14 .skip (.exit 0))) (.seq (.block 1 (.seq (.dops [[],[],[0,1],[2],[],[],[4,5],[6],[3,7],[8]] [.mv 17 0,.mv 18 5,.ia 19 10 17 18,.ld 20 10 true 19,.mv 21 1,.mv 22 5,.ia 23 10 21 22,.ld 24 10 true 23,.call (some 25) 106 [20,24],.not 26 25]) (.cond 26 (.seq (.ops [.asg 4 (kB false)]) .ret) .skip))) (.ops [.mv 15 5,.bin 16 .add 15 (kI 1),.asg 5 16]))))
def aWo:AC:=(.seq (.ops [.asg 4 (kB true)]) .ret)
def cAp:AC:=(.seq (.ops [.asg 4 (kB false)]) (.seq (.seq (.ops [.mv 6 0,.len 7 6,.mv 8 1,.len 9 8,.bin 10 .neq 7 9]) (.cond 10 (.seq (.ops [.asg 4 (kB false)]) .ret) .skip)) (.seq (.seq (.ops [.asg 5 (kI 0)]) (.block 0 aK7)) aWo)))
theorem bZa:bC Tryz.prog 135=some (cAp,[.mv 0 4],27):=by kernel_rfl
def aRn (r:Bool):Exit→St→Prop:=bA [.mv 0 4] fun x _=>x=(fun y=>(vB y)) r
def bDw (r:Bool):Exit→St→Prop:=(bN (wkK (avc Tryz.prog aWo (aRn r))) (aRn r))
def bZd (r:Bool):Exit→St→Prop:=(bP 0 (bDw r))
def bPi (p0:(List aB)) (p1:(List aB)) (x5:Int):St:=⟨[(0,(bX p0)),(1,(bX p1)),(5,(vI x5))],[]⟩
abbrev aI7 (p0:(List aB)) (p1:(List aB)) (x5:Int) (r:Bool):Prop:=avc Tryz.prog aK7 (bZd r) (bPi p0 p1 x5)
def cA3:AC:=(.seq (.ops [.asg 2 (kB false)]) (.seq (.ops [.mv 3 0,.bin 4 .eql 3 (.c (.d (.s (bs [])))),.mv 5 4,.g 5 false (.mv 6 0),.g 5 false (.call (some 7) 104 [6]),.pick 8 5 (kB true) 7,.asg 2 8]) .ret))
theorem bWm:bC Tryz.prog 105=some (cA3,[.mv 0 2],9):=by kernel_rfl
def cHp (r:Bool):Exit→St→Prop:=bA [.mv 0 2] fun x _=>x=(fun y=>(vB y)) r
def bJt:AC:=(.seq (.ops [.asg 2 (kB false)]) (.seq (.ops [.mv 3 0,.lns 4 3,.call (some 5) 102 [4,(kI 1),(kI 20)],.asg 2 5]) .ret))
theorem bFn:bC Tryz.prog 104=some (bJt,[.mv 0 2],6):=by kernel_rfl
def cGn (r:Bool):Exit→St→Prop:=bA [.mv 0 2] fun x _=>x=(fun y=>(vB y)) r
def bRs:AC:=(.seq (.ops [.box 1 35 0,.asg 2 (kB false)]) (.seq (.ops [.fa 5 8 1,.ld 6 1 false 5,.len 7 6,.asg 3 7]) (.seq (.ops [.fa 8 9 1,.ld 9 1 false 8,.len 10 9,.asg 4 10]) (.seq (.seq (.ops [.fa 11 0 1,.ld 12 1 false 11,.bin 13 .neq 12 (kI 2),.mv 14 13,.g 14 true (.fa 15 6 1),.g 14 true (.ld 16 1 false 15),.g 14 true (.bin 17 .neq 16 (.c (.d (.s (bs []))))),.g 14 true (.mv 18 17),.g 18 false (.fa 19 7 1),.g 18 false (.ld 20 1 false 19),.g 18 false (.bin 21 .neq 20 (.c (.d (.s (bs []))))),.g 14 true (.pick 22 18 (kB true) 21),.pick 23 14 22 (kB false),.mv 24 23,.g 24 false (.fa 25 0 1),.g 24 false (.ld 26 1 false 25),.g 24 false (.bin 27 .neq 26 (kI 1)),.g 24 false (.mv 28 27),.g 28 true (.fa 29 3 1),.g 28 true (.ld 30 3 true 29),.g 28 true (.bld 31 [bS,bS,dL] []),.g 28 true (.eqv 32 true [0,0,1] 30 31),.g 24 false (.pick 33 28 32 (kB false)),.pick 34 24 (kB true) 33]) (.cond 34 (.seq (.ops [.asg 2 (kB false)]) .ret) .skip)) (.seq (.seq (.ops [.fa 35 0 1,.ld 36 1 false 35,.bin 37 .neq 36 (kI 3),.mv 38 37,.g 38 true (.fa 39 0 1),.g 38 true (.ld 40 1 false 39),.g 38 true (.bin 41 .neq 40 (kI 4)),.pick 42 38 41 (kB false),.mv 43 42,.g 43 true (.fa 44 1 1),.g 43 true (.ld 45 1 false 44),.g 43 true (.bin 46 .neq 45 (kI 0)),.pick 47 43 46 (kB false),.mv 48 47,.g 48 false (.fa 49 2 1),.g 48 false (.ld 50 1 false 49),.g 48 false (.mv 51 50),.g 51 true (.fa 52 0 1),.g 51 true (.ld 53 1 false 52),.g 51 true (.call (some 54) 102 [53,(kI 5),(kI 8)]),.g 51 true (.not 55 54),.g 48 false (.pick 56 51 55 (kB false)),.pick 57 48 (kB true) 56]) (.cond 57 (.seq (.ops [.asg 2 (kB false)]) .ret) .skip)) (.seq (.seq (.ops [.fa 58 0 1,.ld 59 1 false 58]) (.block 0 (.seq (.ops [.bin 61 .eql 59 (kI 1),.asg 60 61]) (.cond 60 (.seq (.ops [.fa 62 3 1,.ld 63 3 true 62,.call (some 64) 103 [63],.mv 65 64,.g 65 true (.mv 66 3),.g 65 true (.mv 67 4),.g 65 true (.bin 68 .add 66 67),.g 65 true (.bin 69 .eql 68 (kI 0)),.pick 70 65 69 (kB false),.asg 2 70]) .ret) (.seq (.ops [.bin 72 .eql 59 (kI 2),.asg 71 72]) (.cond 71 (.seq (.ops [.fa 73 7 1,.ld 74 1 false 73,.call (some 75) 104 [74],.mv 76 75,.g 76 true (.fa 77 6 1),.g 76 true (.ld 78 1 false 77),.g 76 true (.call (some 79) 105 [78]),.pick 80 76 79 (kB false),.mv 81 80,.g 81 true (.mv 82 3),.g 81 true (.mv 83 4),.g 81 true (.bin 84 .add 82 83),.g 81 true (.bin 85 .eql 84 (kI 0)),.pick 86 81 85 (kB false),.asg 2 86]) .ret) (.seq (.ops [.bin 88 .eql 59 (kI 3),.asg 87 88]) (.cond 87 (.seq (.ops [.fa 89 1 1,.ld 90 1 false 89,.bin 91 .eql 90 (kI 15),.mv 92 91,.g 92 false (.fa 93 1 1),.g 92 false (.ld 94 1 false 93),.g 92 false (.bin 95 .eql 94 (kI 16)),.pick 96 92 (kB true) 95,.mv 97 96,.g 97 true (.mv 98 3),.g 97 true (.bin 99 .eql 98 (kI 1)),.pick 100 97 99 (kB false),.mv 101 100,.g 101 true (.mv 102 4),.g 101 true (.bin 103 .eql 102 (kI 0)),.pick 104 101 103 (kB false),.asg 2 104]) .ret) (.seq (.ops [.bin 106 .eql 59 (kI 4),.asg 105 106]) (.cond 105 (.seq (.ops [.fa 107 1 1,.ld 108 1 false 107,.call (some 109) 102 [108,(kI 1),(kI 14)],.mv 110 109,.g 110 true (.mv 111 3),.g 110 true (.bin 112 .eql 111 (kI 2)),.pick 113 110 112 (kB false),.mv 114 113,.g 114 true (.mv 115 4),.g 114 true (.bin 116 .eql 115 (kI 0)),.pick 117 114 116 (kB false),.asg 2 117]) .ret) (.seq (.ops [.bin 119 .eql 59 (kI 5),.asg 118 119]) (.cond 118 (.seq (.ops [.mv 120 3,.bin 121 .eql 120 (kI 1),.mv 122 121,.g 122 true (.mv 123 4),.g 122 true (.bin 124 .eql 123 (kI 0)),.pick 125 122 124 (kB false),.asg 2 125]) .ret) (.seq (.ops [.bin 127 .eql 59 (kI 6),.asg 126 127]) (.cond 126 (.seq (.ops [.mv 128 3,.bin 129 .eql 128 (kI 3),.mv 130 129,.g 130 true (.mv 131 4),.g 130 true (.bin 132 .eql 131 (kI 0)),.pick 133 130 132 (kB false),.asg 2 133]) .ret) (.seq (.ops [.bin 135 .eql 59 (kI 7),.asg 134 135]) (.cond 134 (.seq (.ops [.mv 136 3,.call (some 137) 102 [136,(kI 2),(kI 9)],.mv 138 137,.g 138 true (.mv 139 4),.g 138 true (.bin 140 .eql 139 (kI 0)),.pick 141 138 140 (kB false),.asg 2 141]) .ret) (.seq (.ops [.bin 143 .eql 59 (kI 8),.asg 142 143]) (.cond 142 (.seq (.ops [.mv 144 3,.bin 145 .eql 144 (kI 1),.mv 146 145,.g 146 true (.mv 147 4),.g 146 true (.bin 148 .eql 147 (kI 1)),.pick 149 146 148 (kB false),.asg 2 149]) .ret) (.seq (.ops [.bin 151 .eql 59 (kI 9),.asg 150 151]) (.cond 150 (.seq (.ops [.mv 152 3,.bin 153 .eql 152 (kI 0),.mv 154 153,.g 154 true (.mv 155 4),.g 154 true (.bin 156 .eql 155 (kI 1)),.pick 157 154 156 (kB false),.asg 2 157]) .ret) .skip)))))))))))))))))))) (.seq (.ops [.asg 2 (kB false)]) .ret)))))))
theorem bOt:bC Tryz.prog 65=some (bRs,[.mv 0 2],158):=by kernel_rfl
def cEk (r:Bool):Exit→St→Prop:=bA [.mv 0 2] fun x _=>x=(fun y=>(vB y)) r
def bSf:AC:=(.seq (.ops [.box 1 31 0,.asg 2 (kB false)]) (.seq (.ops [.ld 3 3 true 1,.call (some 4) 134 [3],.mv 5 4,.g 5 true (.fa 6 0 1),.g 5 true (.ld 7 1 false 6),.g 5 true (.bin 8 .neq 7 (kI 1)),.g 5 true (.mv 9 8),.g 9 false (.fa 10 1 1),.g 9 false (.ld 11 1 false 10),.g 9 false (.bin 12 .geq 11 (kI 0)),.g 5 true (.pick 13 9 (kB true) 12),.pick 14 5 13 (kB false),.mv 15 14,.g 15 true (.fa 16 2 1),.g 15 true (.ld 17 1 false 16),.g 15 true (.lns 18 17),.g 15 true (.bin 19 .leq 18 (kI 40)),.pick 20 15 19 (kB false),.asg 2 20]) .ret))
theorem bR4:bC Tryz.prog 103=some (bSf,[.mv 0 2],21):=by kernel_rfl
def cFe (r:Bool):Exit→St→Prop:=bA [.mv 0 2] fun x _=>x=(fun y=>(vB y)) r
def bD9:AC:=(.seq (.ops [.box 1 31 0,.asg 2 (kB false)]) (.seq (.seq (.ops [.fa 3 0 1,.ld 4 1 false 3]) (.block 0 (.seq (.ops [.bin 6 .eql 4 (kI 0),.asg 5 6]) (.cond 5 (.seq (.ops [.fa 7 1 1,.ld 8 1 false 7,.bin 9 .eql 8 (kI 0),.mv 10 9,.g 10 true (.fa 11 2 1),.g 10 true (.ld 12 1 false 11),.g 10 true (.bin 13 .eql 12 (.c (.d (.s (bs []))))),.pick 14 10 13 (kB false),.asg 2 14]) .ret) (.seq (.ops [.bin 16 .eql 4 (kI 1),.asg 15 16]) (.cond 15 (.seq (.ops [.fa 17 2 1,.ld 18 1 false 17,.bin 19 .eql 18 (.c (.d (.s (bs [])))),.asg 2 19]) .ret) (.seq (.ops [.bin 21 .eql 4 (kI 2),.asg 20 21]) (.cond 20 (.seq (.ops [.fa 22 1 1,.ld 23 1 false 22,.bin 24 .eql 23 (kI 0),.mv 25 24,.g 25 true (.fa 26 2 1),.g 25 true (.ld 27 1 false 26),.g 25 true (.lns 28 27),.g 25 true (.bin 29 .leq 28 (kI 200)),.pick 30 25 29 (kB false),.asg 2 30]) .ret) (.seq (.ops [.bin 32 .eql 4 (kI 3),.asg 31 32]) (.cond 31 (.seq (.ops [.fa 33 1 1,.ld 34 1 false 33,.call (some 35) 102 [34,(kI 0),(kI 1)],.mv 36 35,.g 36 true (.fa 37 2 1),.g 36 true (.ld 38 1 false 37),.g 36 true (.bin 39 .eql 38 (.c (.d (.s (bs []))))),.pick 40 36 39 (kB false),.asg 2 40]) .ret) .skip)))))))))) (.seq (.ops [.asg 2 (kB false)]) .ret)))
theorem bXj:bC Tryz.prog 134=some (bD9,[.mv 0 2],41):=by kernel_rfl
def cHc (r:Bool):Exit→St→Prop:=bA [.mv 0 2] fun x _=>x=(fun y=>(vB y)) r
def aLu:AC:=(.seq (.ops [.mv 30 0,.fa 31 7 4,.ld 32 1 false 31,.call (some 33) 35 [32],.bsl 34 56 3 [33],.app 35 56 3 32 30 34,.asg 6 35]) .ret)
def aM8:AC:=(.ops [.mv 143 0,.ld 144 10 true 4,.mv 145 7,.mv 146 2,.call (some 147) 37 [143,144,145,146],.asg 0 147])
def aVg:AC:=(.ops [.mv 135 7,.bin 136 .add 135 (kI 1),.asg 7 136])
def aG2:AC:=(.loop (.seq (.seq (.ops [.mv 130 7,.fa 131 8 4,.ld 132 1 false 131,.len 133 132,.bin 134 .lss 130 133]) (.cond 134 .skip (.exit 2))) (.seq (.block 3 (.seq (.seq (.ops [.mv 137 7,.bin 138 .gtr 137 (kI 1)]) (.cond 138 (.ops [.mv 139 0,.call (some 140) 36 [(.c (.d (.s (bs [44]))))],.bsl 141 56 3 [140],.app 142 56 3 32 139 141,.asg 0 142]) .skip)) aM8)) aVg)))
def bD4:AC:=(.seq (.ops [.mv 148 0,.call (some 149) 36 [(.c (.d (.s (bs [41]))))],.bsl 150 56 3 [149],.app 151 56 3 32 148 150,.asg 6 151]) .ret)
def aWn:AC:=(.seq (.ops [.mv 64 0,.ld 65 10 true 4,.mv 66 2,.call (some 67) 37 [64,65,(kI 0),66],.asg 0 67]) (.seq (.seq (.ops [.fa 68 0 4,.ld 69 1 false 68]) (.block 1 (.seq (.ops [.bin 71 .eql 69 (kI 4),.asg 70 71]) (.cond 70 (.seq (.dops [[],[],[1],[2],[3],[0,4,3],[],[],[5,6,7,5],[8,8,0,1,2,3,4,5,6,7,8]] [.mv 72 0,.fa 73 1 4,.ld 74 1 false 73,.call (some 75) 38 [74],.bsl 76 56 3 [75],.app 77 56 3 32 72 76,.ld 78 10 true 4,.mv 79 2,.call (some 80) 37 [77,78,(kI 1),79],.asg 6 80]) .ret) (.seq (.ops [.bin 82 .eql 69 (kI 5),.asg 81 82]) (.cond 81 (.seq (.dops [[],[],[1],[0,2,1],[],[3,4,3],[5],[6],[5,7,6],[8,8,0,1,2,3,4,5,6,7,8]] [.mv 83 0,.call (some 84) 40 [(kI 16)],.bsl 85 56 3 [84],.app 86 56 3 32 83 85,.ld 87 10 true 4,.call (some 88) 41 [86,87],.call (some 89) 40 [(kI 20)],.bsl 90 56 3 [89],.app 91 56 3 32 88 90,.asg 6 91]) .ret) (.seq (.ops [.bin 93 .eql 69 (kI 6),.asg 92 93]) (.cond 92 (.seq (.dops [[],[],[0,1],[2],[3],[2,4,3],[],[],[5,6,7,5],[8,8,0,1,2,3,4,5,6,7,8]] [.mv 94 0,.ld 95 10 true 4,.call (some 96) 41 [94,95],.call (some 97) 40 [(kI 18)],.bsl 98 56 3 [97],.app 99 56 3 32 96 98,.ld 100 10 true 4,.mv 101 2,.call (some 102) 37 [99,100,(kI 1),101],.asg 0 102]) (.seq (.dops [[],[],[1],[0,2,1],[],[],[3,4,5,3],[6,6,0,1,2,3,4,5,6]] [.mv 103 0,.call (some 104) 40 [(kI 13)],.bsl 105 56 3 [104],.app 106 56 3 32 103 105,.ld 107 10 true 4,.mv 108 2,.call (some 109) 37 [106,107,(kI 2),108],.asg 6 109]) .ret)) .skip)))))))) (.seq (.ops [.mv 110 0,.ld 111 10 true 4,.call (some 112) 41 [110,111],.call (some 113) 40 [(kI 17)],.call (some 114) 36 [(.c (.d (.s (bs [40]))))],.bsl 115 56 3 [113,114],.app 116 56 3 32 112 115,.asg 0 116]) (.seq (.seq (.ops [.fa 117 0 4,.ld 118 1 false 117,.bin 119 .eql 118 (kI 8)]) (.cond 119 (.seq (.ops [.mv 120 0,.fa 121 9 4,.ld 122 1 false 121,.ia 123 6 122 (kI 0),.ld 124 6 true 123,.mv 125 2,.call (some 126) 39 [120,124,125],.call (some 127) 36 [(.c (.d (.s (bs [41]))))],.bsl 128 56 3 [127],.app 129 56 3 32 126 128,.asg 6 129]) .ret) .skip)) (.seq (.seq (.ops [.asg 7 (kI 1)]) (.block 2 aG2)) bD4)))))
def cAc:AC:=(.seq (.ops [.box 4 35 1,.asg 6 (.c (.nil 3))]) (.seq (.seq (.ops [.fa 8 0 4,.ld 9 1 false 8]) (.block 0 (.seq (.ops [.bin 11 .eql 9 (kI 1),.asg 10 11]) (.cond 10 (.seq (.ops [.mv 12 0,.fa 13 3 4,.ld 14 3 true 13,.call (some 15) 34 [14],.bsl 16 56 3 [15],.app 17 56 3 32 12 16,.asg 6 17]) .ret) (.seq (.ops [.bin 19 .eql 9 (kI 2),.asg 18 19]) (.cond 18 (.seq (.seq (.ops [.fa 20 6 4,.ld 21 1 false 20,.bin 22 .neq 21 (.c (.d (.s (bs []))))]) (.cond 22 (.ops [.mv 23 0,.fa 24 6 4,.ld 25 1 false 24,.call (some 26) 35 [25],.call (some 27) 36 [(.c (.d (.s (bs [46]))))],.bsl 28 56 3 [26,27],.app 29 56 3 32 23 28,.asg 0 29]) .skip)) aLu) (.seq (.ops [.bin 37 .eql 9 (kI 3),.asg 36 37]) (.cond 36 (.seq (.dops [[],[],[1],[2],[3],[0,4,3],[],[],[5,6,7,5],[8,8,0,1,2,3,4,5,6,7,8]] [.mv 38 0,.fa 39 1 4,.ld 40 1 false 39,.call (some 41) 38 [40],.bsl 42 56 3 [41],.app 43 56 3 32 38 42,.ld 44 10 true 4,.mv 45 2,.call (some 46) 37 [43,44,(kI 0),45],.asg 6 46]) .ret) (.seq (.ops [.bin 48 .eql 9 (kI 9),.asg 47 48]) (.cond 47 (.seq (.dops [[],[],[1],[1,2],[0,3,2],[],[5],[6],[7],[],[4,8,9,4],[10,10,0,1,2,3,4,5,6,7,8,9,10]] [.mv 49 0,.call (some 50) 40 [(kI 19)],.call (some 51) 36 [(.c (.d (.s (bs [40]))))],.bsl 52 56 3 [50,51],.app 53 56 3 32 49 52,.fa 54 9 4,.ld 55 1 false 54,.ia 56 6 55 (kI 0),.ld 57 6 true 56,.mv 58 2,.call (some 59) 39 [53,57,58],.asg 0 59]) (.seq (.ops [.mv 60 0,.call (some 61) 36 [(.c (.d (.s (bs [41]))))],.bsl 62 56 3 [61],.app 63 56 3 32 60 62,.asg 6 63]) .ret)) .skip)))))))))) aWn))
theorem bG5:bC Tryz.prog 17=some (cAc,[.mv 0 6],152):=by kernel_rfl
def aIq (r:(List aA)):Exit→St→Prop:=bA [.mv 0 6] fun x b=>x=(fun (y:(List aA))=>(.osl 2000000 56 3 (y.map aL))) r∧bM ((fun (y:(List aA))=>[]) r) b
def bT4 (r:(List aA)):Exit→St→Prop:=(bN (wkK (avc Tryz.prog aWn (aIq r))) (aIq r))
def bHl (r:(List aA)):Exit→St→Prop:=(bP 0 (bT4 r))
def bZr (r:(List aA)):Exit→St→Prop:=(bN (wkK (avc Tryz.prog bD4 (aIq r))) (aIq r))
def aOg (r:(List aA)):Exit→St→Prop:=(bP 2 (bZr r))
def aXq (r:(List aA)):Exit→St→Prop:=(bN (avc Tryz.prog aG2 (aOg r)) (aOg r))
def bFe (r:(List aA)):Exit→St→Prop:=(bN (wkK (avc Tryz.prog aVg (aXq r))) (aXq r))
def bDd (r:(List aA)):Exit→St→Prop:=(bP 3 (bFe r))
def bXu (p1:aB) (x0:(List aA)):St:=⟨[(0,(.osl 0 56 3 (x0.map aL))),(4,(.ptr 4 0))],[(4,kL p1)]⟩
abbrev aRp (p1:aB) (x0:(List aA)) (r:(List aA)):Prop:=avc Tryz.prog aLu (bHl r) (bXu p1 x0)
def bUo (p2:Bool) (p1:aB) (kM:(List aA)) (x7:Int):St:=⟨[(0,(.osl 0 56 3 (kM.map aL))),(2,(vB p2)),(4,(.ptr 4 0)),(7,(vI x7))],[(4,kL p1)]⟩
abbrev aEl (p2:Bool) (p1:aB) (kM:(List aA)) (x7:Int) (r:(List aA)):Prop:=avc Tryz.prog aG2 (aOg r) (bUo p2 p1 kM x7)
def bHb (p2:Bool) (x7:Int) (p1:aB) (mP:(List aA)):St:=⟨[(0,(.osl 0 56 3 (mP.map aL))),(2,(vB p2)),(4,(.ptr 4 0)),(7,(vI x7))],[(4,kL p1)]⟩
abbrev aE1 (p2:Bool) (x7:Int) (p1:aB) (mP:(List aA)) (r:(List aA)):Prop:=avc Tryz.prog aM8 (bDd r) (bHb p2 x7 p1 mP)
def cBm:AC:=(.seq (.ops [.alc 2 [bS,dL,bS]]) (.seq (.ops [.mv 3 0,.bld 4 [bS,dL,bS] [(0,1,(kI 5)),(1,1,3)],.st 3 2 4]) .ret))
theorem bQf:bC Tryz.prog 36=some (cBm,[.ld 0 3 true 2],5):=by kernel_rfl
def cFv (r:aA):Exit→St→Prop:=bA [.ld 0 3 true 2] fun x _=>x=(fun y=>(nT y)) r
def bVa:AC:=(.seq (.ops [.alc 2 [bS,dL,bS]]) (.seq (.seq (.ops [.mv 3 0,.bin 4 .eql 3 (kI 1),.mv 5 4,.g 5 false (.mv 6 0),.g 5 false (.bin 7 .eql 6 (kI 2)),.pick 8 5 (kB true) 7,.mv 9 8,.g 9 false (.mv 10 0),.g 9 false (.bin 11 .eql 10 (kI 15)),.pick 12 9 (kB true) 11]) (.cond 12 (.seq (.ops [.mv 13 0,.call (some 14) 72 [13],.bld 15 [bS,dL,bS] [(0,1,(kI 1)),(1,1,14)],.st 3 2 15]) .ret) .skip)) (.seq (.ops [.mv 16 0,.call (some 17) 72 [16],.call (some 18) 36 [17],.st 3 2 18]) .ret)))
theorem bW3:bC Tryz.prog 38=some (bVa,[.ld 0 3 true 2],19):=by kernel_rfl
def cEm (r:aA):Exit→St→Prop:=bA [.ld 0 3 true 2] fun x _=>x=(fun y=>(nT y)) r
def bJg:AC:=(.seq (.ops [.asg 2 (.c (.d (.s (bs []))))]) (.seq (.seq (.ops [.mv 3 0,.call (some 4) 102 [3,(kI 1),(kI 16)],.not 5 4]) (.cond 5 (.seq (.ops [.asg 2 (.c (.d (.s (bs []))))]) .ret) .skip)) (.seq (.ops [.bsl 6 9 1 [(.c (.d (.s (bs [])))),(.c (.d (.s (bs [79,82])))),(.c (.d (.s (bs [65,78,68])))),(.c (.d (.s (bs [61])))),(.c (.d (.s (bs [60,62])))),(.c (.d (.s (bs [60])))),(.c (.d (.s (bs [60,61])))),(.c (.d (.s (bs [62])))),(.c (.d (.s (bs [62,61])))),(.c (.d (.s (bs [124,124])))),(.c (.d (.s (bs [43])))),(.c (.d (.s (bs [45])))),(.c (.d (.s (bs [42])))),(.c (.d (.s (bs [47])))),(.c (.d (.s (bs [37])))),(.c (.d (.s (bs [78,79,84])))),(.c (.d (.s (bs [45]))))],.mv 7 0,.ia 8 1 6 7,.ld 9 1 false 8,.asg 2 9]) .ret)))
theorem bGm:bC Tryz.prog 72=some (bJg,[.mv 0 2],10):=by kernel_rfl
def cJc (r:(List UInt8)):Exit→St→Prop:=bA [.mv 0 2] fun x _=>x=(fun y=>(vS y)) r
def aOu:AC:=(.cond 9 (.seq (.ops [.asg 2 (kI 4)]) .ret) (.seq (.ops [.bin 15 .eql 4 (kI 3),.asg 14 15]) (.cond 14 (.seq (.seq (.ops [.fa 16 1 1,.ld 17 1 false 16,.bin 18 .eql 17 (kI 15)]) (.cond 18 (.seq (.ops [.asg 2 (kI 3)]) .ret) .skip)) (.seq (.ops [.fa 19 1 1,.ld 20 1 false 19,.bin 21 .eql 20 (kI 16)]) (.cond 21 (.seq (.ops [.asg 2 (kI 8)]) .ret) .skip))) (.seq (.ops [.bin 23 .eql 4 (kI 4),.asg 22 23]) (.cond 22 (.seq (.ops [.fa 24 1 1,.ld 25 1 false 24,.call (some 26) 102 [25,(kI 1),(kI 14)]]) (.cond 26 (.seq (.ops [.bsl 27 3 1 [(kI 0),(kI 1),(kI 2),(kI 4),(kI 4),(kI 4),(kI 4),(kI 4),(kI 4),(kI 5),(kI 6),(kI 6),(kI 7),(kI 7),(kI 7)],.fa 28 1 1,.ld 29 1 false 28,.ia 30 1 27 29,.ld 31 1 false 30,.asg 2 31]) .ret) .skip)) .skip)))))
def aMp:AC:=(.cond 5 (.seq (.ops [.asg 2 (kI 9)]) .ret) (.seq (.seq (.ops [.bin 10 .eql 4 (kI 5),.asg 9 10]) (.cond 9 .skip (.seq (.ops [.bin 11 .eql 4 (kI 6),.asg 9 11]) (.cond 9 .skip (.seq (.ops [.bin 12 .eql 4 (kI 7),.asg 9 12]) (.cond 9 .skip (.ops [.bin 13 .eql 4 (kI 8),.asg 9 13]))))))) aOu))
def aHx:AC:=(.seq (.ops [.asg 2 (kI 0)]) .ret)
def bKg:AC:=(.seq (.ops [.box 1 35 0,.asg 2 (kI 0)]) (.seq (.seq (.ops [.fa 3 0 1,.ld 4 1 false 3]) (.block 0 (.seq (.seq (.ops [.bin 6 .eql 4 (kI 1),.asg 5 6]) (.cond 5 .skip (.seq (.ops [.bin 7 .eql 4 (kI 2),.asg 5 7]) (.cond 5 .skip (.ops [.bin 8 .eql 4 (kI 9),.asg 5 8]))))) aMp))) aHx))
theorem bQb:bC Tryz.prog 71=some (bKg,[.mv 0 2],32):=by kernel_rfl
def aLk (r:Int):Exit→St→Prop:=bA [.mv 0 2] fun x _=>x=(fun y=>(vI y)) r
def bH4 (r:Int):Exit→St→Prop:=(bN (wkK (avc Tryz.prog aHx (aLk r))) (aLk r))
def aZe (r:Int):Exit→St→Prop:=(bP 0 (bH4 r))
def cC0 (p0:aB) (x5:Bool):St:=⟨[(1,(.ptr 1 0)),(4,(vI p0.kind)),(5,(vB x5))],[(1,kL p0)]⟩
abbrev aWi (p0:aB) (x5:Bool) (r:Int):Prop:=avc Tryz.prog aMp (aZe r) (cC0 p0 x5)
def bE2 (p0:aB) (x9:Bool):St:=⟨[(1,(.ptr 1 0)),(4,(vI p0.kind)),(9,(vB x9))],[(1,kL p0)]⟩
abbrev aR7 (p0:aB) (x9:Bool) (r:Int):Prop:=avc Tryz.prog aOu (aZe r) (bE2 p0 x9)
def bQ2:St:=⟨[],[]⟩
abbrev bBh (r:Int):Prop:=avc Tryz.prog aHx (aLk r) (bQ2)
def cDd:AC:=(.seq (.ops [.box 2 35 0,.asg 4 (kB false)]) (.seq (.dops [[],[],[1],[2],[3],[0,4],[5,5],[6],[7,6],[6],[8,9,6],[10,6],[11,6,6],[6],[6],[13,14,12,6],[12,15,6],[6,16],[17,15,0,1,2,3,4,5,6,7,8,9,10,11,12,13,14,15,16,17]] [.mv 5 1,.fa 6 8 2,.ld 7 1 false 6,.len 8 7,.bin 9 .sub 8 (kI 1),.call (some 10) 102 [5,(kI 0),9],.mv 11 10,.g 11 true (.fa 12 8 2),.g 11 true (.ld 13 1 false 12),.g 11 true (.mv 14 1),.g 11 true (.ia 15 10 13 14),.g 11 true (.ld 16 10 true 15),.g 11 true (.call (some 17) 71 [16]),.g 11 true (.ld 18 10 true 2),.g 11 true (.mv 19 1),.g 11 true (.call (some 20) 107 [18,19]),.g 11 true (.bin 21 .lss 17 20),.pick 22 11 21 (kB false),.asg 4 22]) .ret))
theorem bY1:bC Tryz.prog 70=some (cDd,[.mv 0 4],23):=by kernel_rfl
def cIz (r:Bool):Exit→St→Prop:=bA [.mv 0 4] fun x _=>x=(fun y=>(vB y)) r
def aP4:AC:=(.seq (.ops [.asg 4 (kI 5)]) .ret)
def bR5:AC:=(.seq (.ops [.box 2 35 0,.asg 4 (kI 0)]) (.seq (.ops [.ld 6 10 true 2,.call (some 7) 71 [6],.asg 5 7]) (.seq (.seq (.ops [.mv 8 1,.fa 9 8 2,.ld 10 1 false 9,.len 11 10,.bin 12 .sub 11 (kI 1),.call (some 13) 102 [8,(kI 0),12],.not 14 13,.mv 15 14,.g 15 false (.mv 16 5),.g 15 false (.bin 17 .eql 16 (kI 0)),.pick 18 15 (kB true) 17,.mv 19 18,.g 19 false (.mv 20 5),.g 19 false (.bin 21 .eql 20 (kI 9)),.pick 22 19 (kB true) 21]) (.cond 22 (.seq (.ops [.asg 4 (kI 0)]) .ret) .skip)) (.seq (.seq (.ops [.fa 23 0 2,.ld 24 1 false 23]) (.block 0 (.seq (.ops [.bin 26 .eql 24 (kI 3),.asg 25 26]) (.cond 25 (.seq (.ops [.mv 27 5,.asg 4 27]) .ret) (.seq (.ops [.bin 29 .eql 24 (kI 4),.asg 28 29]) (.cond 28 (.seq (.seq (.ops [.mv 30 5,.bin 31 .eql 30 (kI 4)]) (.cond 31 (.seq (.ops [.asg 4 (kI 5)]) .ret) .skip)) (.seq (.seq (.ops [.mv 32 1,.bin 33 .eql 32 (kI 0)]) (.cond 33 (.seq (.ops [.mv 34 5,.asg 4 34]) .ret) .skip)) (.seq (.ops [.mv 35 5,.bin 36 .add 35 (kI 1),.asg 4 36]) .ret))) (.seq (.ops [.bin 38 .eql 24 (kI 7),.asg 37 38]) (.cond 37 (.seq (.ops [.mv 39 1,.bin 40 .gtr 39 (kI 0)]) (.cond 40 (.seq (.ops [.asg 4 (kI 1)]) .ret) .skip)) .skip)))))))) aP4))))
theorem bKp:bC Tryz.prog 107=some (bR5,[.mv 0 4],41):=by kernel_rfl
def bVb (r:Int):Exit→St→Prop:=bA [.mv 0 4] fun x _=>x=(fun y=>(vI y)) r
def bPe:St:=⟨[],[]⟩
abbrev bAn (r:Int):Prop:=avc Tryz.prog aP4 (bVb r) (bPe)
def bVo:AC:=(.seq (.ops [.alc 2 [bS,dL,bS]]) (.seq (.ops [.mv 3 0,.bld 4 [bS,dL,bS] [(0,1,(kI 2)),(1,1,3)],.st 3 2 4]) .ret))
theorem bO7:bC Tryz.prog 35=some (bVo,[.ld 0 3 true 2],5):=by kernel_rfl
def cGv (r:aA):Exit→St→Prop:=bA [.ld 0 3 true 2] fun x _=>x=(fun y=>(nT y)) r
def aNr:AC:=(.ops [.mv 32 0,.fa 33 1 4,.ld 34 1 false 33,.mv 35 7,.ia 36 13 34 35,.ld 37 13 true 36,.mv 38 2,.call (some 39) 73 [32,37,38],.asg 0 39])
def aZu:AC:=(.ops [.mv 24 7,.bin 25 .add 24 (kI 1),.asg 7 25])
def aGl:AC:=(.loop (.seq (.seq (.ops [.mv 19 7,.fa 20 1 4,.ld 21 1 false 20,.len 22 21,.bin 23 .lss 19 22]) (.cond 23 .skip (.exit 0))) (.seq (.block 1 (.seq (.seq (.ops [.mv 26 7,.bin 27 .gtr 26 (kI 0)]) (.cond 27 (.ops [.mv 28 0,.call (some 29) 36 [(.c (.d (.s (bs [44]))))],.bsl 30 56 3 [29],.app 31 56 3 32 28 30,.asg 0 31]) .skip)) aNr)) aZu)))
def aOh:AC:=(.seq (.ops [.mv 71 0,.fa 72 4 4,.ld 73 1 false 72,.mv 74 8,.ia 75 11 73 74,.fa 76 0 75,.ld 77 10 true 76,.mv 78 2,.call (some 79) 17 [71,77,78],.asg 0 79]) (.seq (.ops [.fa 80 4 4,.ld 81 1 false 80,.mv 82 8,.ia 83 11 81 82,.fa 84 10 83,.ld 85 1 false 84]) (.cond 85 (.ops [.mv 86 0,.call (some 87) 40 [(kI 10)],.bsl 88 56 3 [87],.app 89 56 3 32 86 88,.asg 0 89]) .skip)))
def aJh:AC:=(.ops [.mv 58 8,.bin 59 .add 58 (kI 1),.asg 8 59])
def aFb:AC:=(.loop (.seq (.seq (.ops [.mv 53 8,.fa 54 4 4,.ld 55 1 false 54,.len 56 55,.bin 57 .lss 53 56]) (.cond 57 .skip (.exit 2))) (.seq (.block 3 (.seq (.seq (.ops [.mv 60 8,.bin 61 .eql 60 (kI 0)]) (.cond 61 (.ops [.mv 62 0,.call (some 63) 40 [(kI 7)],.call (some 64) 40 [(kI 8)],.bsl 65 56 3 [63,64],.app 66 56 3 32 62 65,.asg 0 66]) (.ops [.mv 67 0,.call (some 68) 36 [(.c (.d (.s (bs [44]))))],.bsl 69 56 3 [68],.app 70 56 3 32 67 69,.asg 0 70]))) aOh)) aJh)))
def aNt:AC:=(.seq (.ops [.mv 101 0,.asg 6 101]) .ret)
def bAd:AC:=(.seq (.seq (.ops [.fa 90 5 4,.ld 91 1 false 90,.bin 92 .geq 91 (kI 0)]) (.cond 92 (.dops [[],[],[],[2],[3,1],[4],[1,5],[0,6,4],[7,7,0,1,2,3,4,5,6,7]] [.mv 93 0,.call (some 94) 40 [(kI 11)],.fa 95 5 4,.ld 96 1 false 95,.call (some 97) 69 [96],.bld 98 [bS,dL,bS] [(0,1,(kI 3)),(1,1,97)],.bsl 99 56 3 [94,98],.app 100 56 3 32 93 99,.asg 0 100]) .skip)) aNt)
def bAk:AC:=(.seq (.dops [[],[],[1],[0,2,1],[],[4],[],[3,5,6,3],[7,7,0,1,2,3,4,5,6,7]] [.mv 40 0,.call (some 41) 40 [(kI 3)],.bsl 42 56 3 [41],.app 43 56 3 32 40 42,.fa 44 2 4,.ld 45 1 false 44,.mv 46 2,.call (some 47) 74 [43,45,46],.asg 0 47]) (.seq (.ops [.mv 48 0,.fa 49 3 4,.ld 50 1 false 49,.mv 51 2,.call (some 52) 75 [48,50,51],.asg 0 52]) (.seq (.seq (.ops [.asg 8 (kI 0)]) (.block 2 aFb)) bAd)))
def aLr:AC:=(.seq (.seq (.ops [.asg 7 (kI 0)]) (.block 0 aGl)) bAk)
def bU2:AC:=(.seq (.ops [.box 4 79 1,.asg 6 (.c (.nil 3))]) (.seq (.ops [.mv 9 0,.call (some 10) 40 [(kI 1)],.bsl 11 56 3 [10],.app 12 56 3 32 9 11,.asg 0 12]) (.seq (.seq (.ops [.fa 13 0 4,.ld 14 1 false 13]) (.cond 14 (.ops [.mv 15 0,.call (some 16) 40 [(kI 2)],.bsl 17 56 3 [16],.app 18 56 3 32 15 17,.asg 0 18]) .skip)) aLr)))
theorem bS0:bC Tryz.prog 39=some (bU2,[.mv 0 6],102):=by kernel_rfl
def P7 (r:(List aA)):Exit→St→Prop:=bA [.mv 0 6] fun x b=>x=(fun (y:(List aA))=>(.osl 2000000 56 3 (y.map aL))) r∧bM ((fun (y:(List aA))=>[]) r) b
def bMv (r:(List aA)):Exit→St→Prop:=(bN (wkK (avc Tryz.prog bAk (P7 r))) (P7 r))
def aP5 (r:(List aA)):Exit→St→Prop:=(bP 0 (bMv r))
def aSk (r:(List aA)):Exit→St→Prop:=(bN (avc Tryz.prog aGl (aP5 r)) (aP5 r))
def cCc (r:(List aA)):Exit→St→Prop:=(bN (wkK (avc Tryz.prog aZu (aSk r))) (aSk r))
def bYl (r:(List aA)):Exit→St→Prop:=(bP 1 (cCc r))
def bHh (r:(List aA)):Exit→St→Prop:=(bN (wkK (avc Tryz.prog bAd (P7 r))) (P7 r))
def aNs (r:(List aA)):Exit→St→Prop:=(bP 2 (bHh r))
def aOa (r:(List aA)):Exit→St→Prop:=(bN (avc Tryz.prog aFb (aNs r)) (aNs r))
def bV5 (r:(List aA)):Exit→St→Prop:=(bN (wkK (avc Tryz.prog aJh (aOa r))) (aOa r))
def bKt (r:(List aA)):Exit→St→Prop:=(bP 3 (bV5 r))
def cDl (p2:Bool) (p1:aJ) (x0:(List aA)):St:=⟨[(0,(.osl 0 56 3 (x0.map aL))),(2,(vB p2)),(4,(.ptr 4 0))],[(4,gD p1)]⟩
abbrev aJ7 (p2:Bool) (p1:aJ) (x0:(List aA)) (r:(List aA)):Prop:=avc Tryz.prog aLr (P7 r) (cDl p2 p1 x0)
def bRb (p2:Bool) (p1:aJ) (fU:(List aA)) (x7:Int):St:=⟨[(0,(.osl 0 56 3 (fU.map aL))),(2,(vB p2)),(4,(.ptr 4 0)),(7,(vI x7))],[(4,gD p1)]⟩
abbrev aHb (p2:Bool) (p1:aJ) (fU:(List aA)) (x7:Int) (r:(List aA)):Prop:=avc Tryz.prog aGl (aP5 r) (bRb p2 p1 fU x7)
def bYj (p2:Bool) (x7:Int) (p1:aJ) (lC:(List aA)):St:=⟨[(0,(.osl 0 56 3 (lC.map aL))),(2,(vB p2)),(4,(.ptr 4 0)),(7,(vI x7))],[(4,gD p1)]⟩
abbrev aCq (p2:Bool) (x7:Int) (p1:aJ) (lC:(List aA)) (r:(List aA)):Prop:=avc Tryz.prog aNr (bYl r) (bYj p2 x7 p1 lC)
def bHn (p2:Bool) (p1:aJ) (jV:(List aA)) (x8:Int):St:=⟨[(0,(.osl 0 56 3 (jV.map aL))),(2,(vB p2)),(4,(.ptr 4 0)),(8,(vI x8))],[(4,gD p1)]⟩
abbrev aI5 (p2:Bool) (p1:aJ) (jV:(List aA)) (x8:Int) (r:(List aA)):Prop:=avc Tryz.prog aFb (aNs r) (bHn p2 p1 jV x8)
def bSg (p2:Bool) (x8:Int) (p1:aJ) (lQ:(List aA)):St:=⟨[(0,(.osl 0 56 3 (lQ.map aL))),(2,(vB p2)),(4,(.ptr 4 0)),(8,(vI x8))],[(4,gD p1)]⟩
abbrev aGu (p2:Bool) (x8:Int) (p1:aJ) (lQ:(List aA)) (r:(List aA)):Prop:=avc Tryz.prog aOh (bKt r) (bSg p2 x8 p1 lQ)
def bLs (vE:(List aA)):St:=⟨[(0,(.osl 0 56 3 (vE.map aL)))],[]⟩
abbrev aUz (vE:(List aA)) (r:(List aA)):Prop:=avc Tryz.prog aNt (P7 r) (bLs vE)
def bIb (p2:Bool) (x8:Int) (p1:aJ) (lW:(List aA)):St:=⟨[(0,(.osl 0 56 3 (lW.map aL))),(2,(vB p2)),(4,(.ptr 4 0)),(8,(vI x8))],[(4,gD p1)]⟩
abbrev aDf (p2:Bool) (x8:Int) (p1:aJ) (lW:(List aA)) (r:(List aA)):Prop:=avc Tryz.prog aJh (aOa r) (bIb p2 x8 p1 lW)
def bDl:AC:=(.seq (.ops [.box 3 35 1,.asg 4 (.c (.nil 3))]) (.seq (.seq (.ops [.fa 5 2 3,.ld 6 1 false 5]) (.cond 6 (.seq (.ops [.mv 7 0,.call (some 8) 40 [(kI 15)],.bsl 9 56 3 [8],.app 10 56 3 32 7 9,.asg 4 10]) .ret) .skip)) (.seq (.ops [.mv 11 0,.asg 4 11]) .ret)))
theorem bWa:bC Tryz.prog 41=some (bDl,[.mv 0 4],12):=by kernel_rfl
def cH0 (r:(List aA)):Exit→St→Prop:=bA [.mv 0 4] fun x b=>x=(fun (y:(List aA))=>(.osl 2000000 56 3 (y.map aL))) r∧bM ((fun (y:(List aA))=>[]) r) b
def bXb:AC:=(.seq (.ops [.box 5 35 1,.asg 8 (.c (.nil 3))]) (.seq (.ops [.fa 10 8 5,.ld 11 1 false 10,.mv 12 2,.ia 13 10 11 12,.ld 14 10 true 13,.alc 9 qZ,.st 10 9 14]) (.seq (.seq (.ops [.ld 15 10 true 5,.mv 16 2,.call (some 17) 70 [15,16],.mv 18 17,.g 18 false (.mv 19 3),.g 18 false (.mv 20 19),.g 20 true (.ld 21 10 true 9),.g 20 true (.call (some 22) 71 [21]),.g 20 true (.bin 23 .lss 22 (kI 9)),.g 18 false (.pick 24 20 23 (kB false)),.pick 25 18 (kB true) 24]) (.cond 25 (.seq (.dops [[],[],[1],[0,2,1],[],[],[3,4,5,3],[6,6,0,1,2,3,4,5,6]] [.mv 26 0,.call (some 27) 36 [(.c (.d (.s (bs [40]))))],.bsl 28 56 3 [27],.app 29 56 3 32 26 28,.ld 30 10 true 9,.mv 31 3,.call (some 32) 17 [29,30,31],.asg 0 32]) (.seq (.ops [.mv 33 0,.call (some 34) 36 [(.c (.d (.s (bs [41]))))],.bsl 35 56 3 [34],.app 36 56 3 32 33 35,.asg 8 36]) .ret)) .skip)) (.seq (.ops [.mv 37 0,.ld 38 10 true 9,.mv 39 3,.call (some 40) 17 [37,38,39],.asg 8 40]) .ret))))
theorem bGe:bC Tryz.prog 37=some (bXb,[.mv 0 8],41):=by kernel_rfl
def cE7 (r:(List aA)):Exit→St→Prop:=bA [.mv 0 8] fun x b=>x=(fun (y:(List aA))=>(.osl 2000000 56 3 (y.map aL))) r∧bM ((fun (y:(List aA))=>[]) r) b
def aMy:AC:=(.seq (.ops [.mv 28 0,.call (some 29) 36 [(.c (.d (.s (bs [42]))))],.bsl 30 56 3 [29],.app 31 56 3 32 28 30,.asg 6 31]) .ret)
def bF7:AC:=(.seq (.ops [.box 4 104 1,.asg 6 (.c (.nil 3))]) (.seq (.seq (.ops [.fa 7 0 4,.ld 8 1 false 7,.not 9 8]) (.cond 9 (.seq (.dops [[],[],[1],[],[0,2,3],[],[5],[4,6,4],[7,7,0,1,2,3,4,5,6,7]] [.mv 10 0,.fa 11 2 4,.ld 12 10 true 11,.mv 13 2,.call (some 14) 17 [10,12,13],.fa 15 12 4,.ld 16 1 false 15,.call (some 17) 108 [14,16],.asg 6 17]) .ret) .skip)) (.seq (.seq (.ops [.fa 18 1 4,.ld 19 1 false 18,.bin 20 .neq 19 (.c (.d (.s (bs []))))]) (.cond 20 (.ops [.mv 21 0,.fa 22 1 4,.ld 23 1 false 22,.call (some 24) 35 [23],.call (some 25) 36 [(.c (.d (.s (bs [46]))))],.bsl 26 56 3 [24,25],.app 27 56 3 32 21 26,.asg 0 27]) .skip)) aMy)))
theorem bRy:bC Tryz.prog 73=some (bF7,[.mv 0 6],32):=by kernel_rfl
def bK3 (r:(List aA)):Exit→St→Prop:=bA [.mv 0 6] fun x b=>x=(fun (y:(List aA))=>(.osl 2000000 56 3 (y.map aL))) r∧bM ((fun (y:(List aA))=>[]) r) b
def bVd (x0:(List aA)):St:=⟨[(0,(.osl 0 56 3 (x0.map aL)))],[]⟩
abbrev aZf (x0:(List aA)) (r:(List aA)):Prop:=avc Tryz.prog aMy (bK3 r) (bVd x0)
def bQv:AC:=(.seq (.ops [.asg 4 (.c (.nil 3))]) (.seq (.seq (.ops [.mv 5 1,.bin 6 .eql 5 (.c (.d (.s (bs []))))]) (.cond 6 (.seq (.ops [.mv 7 0,.asg 4 7]) .ret) .skip)) (.seq (.ops [.mv 8 0,.call (some 9) 40 [(kI 12)],.mv 10 1,.call (some 11) 35 [10],.bsl 12 56 3 [9,11],.app 13 56 3 32 8 12,.asg 4 13]) .ret)))
theorem cDw:bC Tryz.prog 108=some (bQv,[.mv 0 4],14):=by kernel_rfl
def cIx (r:(List aA)):Exit→St→Prop:=bA [.mv 0 4] fun x b=>x=(fun (y:(List aA))=>(.osl 2000000 56 3 (y.map aL))) r∧bM ((fun (y:(List aA))=>[]) r) b
def bHo:AC:=(.seq (.ops [.asg 6 (.c (.nil 3))]) (.seq (.seq (.ops [.mv 7 1,.len 8 7,.bin 9 .eql 8 (kI 0)]) (.cond 9 (.seq (.ops [.mv 10 0,.asg 6 10]) .ret) .skip)) (.seq (.dops [[],[],[1],[0,2,1],[],[4],[5],[],[3,6,7,3],[8,8,0,1,2,3,4,5,6,7,8]] [.mv 11 0,.call (some 12) 40 [(kI 6)],.bsl 13 56 3 [12],.app 14 56 3 32 11 13,.mv 15 1,.ia 16 10 15 (kI 0),.ld 17 10 true 16,.mv 18 2,.call (some 19) 17 [14,17,18],.asg 6 19]) .ret)))
theorem bOl:bC Tryz.prog 75=some (bHo,[.mv 0 6],20):=by kernel_rfl
def cIq (r:(List aA)):Exit→St→Prop:=bA [.mv 0 6] fun x b=>x=(fun (y:(List aA))=>(.osl 2000000 56 3 (y.map aL))) r∧bM ((fun (y:(List aA))=>[]) r) b
def aMq:AC:=(.seq (.dops [[],[],[],[1,2],[3],[4],[5],[6],[0,7,6],[],[],[9,10],[11],[12],[8,13,8],[14,14,0,1,2,3,4,5,6,7,8,9,10,11,12,13,14]] [.mv 44 0,.mv 45 1,.mv 46 7,.ia 47 3 45 46,.fa 48 0 47,.ld 49 1 false 48,.call (some 50) 35 [49],.bsl 51 56 3 [50],.app 52 56 3 32 44 51,.mv 53 1,.mv 54 7,.ia 55 3 53 54,.fa 56 1 55,.ld 57 1 false 56,.call (some 58) 108 [52,57],.asg 0 58]) (.seq (.ops [.mv 59 1,.mv 60 7,.ia 61 3 59 60,.fa 62 2 61,.ld 63 1 false 62,.len 64 63,.bin 65 .gtr 64 (kI 0)]) (.cond 65 (.dops [[],[],[1],[0,2,1],[],[],[4,5],[6],[7],[8],[9],[],[3,10,11,3],[12,12,0,1,2,3,4,5,6,7,8,9,10,11,12]] [.mv 66 0,.call (some 67) 40 [(kI 5)],.bsl 68 56 3 [67],.app 69 56 3 32 66 68,.mv 70 1,.mv 71 7,.ia 72 3 70 71,.fa 73 2 72,.ld 74 1 false 73,.ia 75 10 74 (kI 0),.ld 76 10 true 75,.mv 77 2,.call (some 78) 17 [69,76,77],.asg 0 78]) .skip)))
def aPs:AC:=(.seq (.seq (.ops [.mv 29 7,.bin 30 .gtr 29 (kI 0),.mv 31 30,.g 31 true (.mv 32 1),.g 31 true (.mv 33 7),.g 31 true (.ia 34 3 32 33),.g 31 true (.fa 35 2 34),.g 31 true (.ld 36 1 false 35),.g 31 true (.len 37 36),.g 31 true (.bin 38 .eql 37 (kI 0)),.pick 39 31 38 (kB false)]) (.cond 39 (.ops [.mv 40 0,.call (some 41) 36 [(.c (.d (.s (bs [44]))))],.bsl 42 56 3 [41],.app 43 56 3 32 40 42,.asg 0 43]) .skip)) aMq)
def aH8:AC:=(.ops [.mv 12 7,.bin 13 .add 12 (kI 1),.asg 7 13])
def aCy:AC:=(.loop (.seq (.seq (.ops [.mv 8 7,.mv 9 1,.len 10 9,.bin 11 .lss 8 10]) (.cond 11 .skip (.exit 0))) (.seq (.block 1 (.seq (.seq (.ops [.mv 14 7,.bin 15 .gtr 14 (kI 0),.mv 16 15,.g 16 true (.mv 17 1),.g 16 true (.mv 18 7),.g 16 true (.ia 19 3 17 18),.g 16 true (.fa 20 2 19),.g 16 true (.ld 21 1 false 20),.g 16 true (.len 22 21),.g 16 true (.bin 23 .gtr 22 (kI 0)),.pick 24 16 23 (kB false)]) (.cond 24 (.ops [.mv 25 0,.call (some 26) 40 [(kI 4)],.bsl 27 56 3 [26],.app 28 56 3 32 25 27,.asg 0 28]) .skip)) aPs)) aH8)))
def bBl:AC:=(.seq (.ops [.mv 79 0,.asg 6 79]) .ret)
def bTa:AC:=(.seq (.ops [.asg 6 (.c (.nil 3))]) (.seq (.seq (.ops [.asg 7 (kI 0)]) (.block 0 aCy)) bBl))
theorem bZl:bC Tryz.prog 74=some (bTa,[.mv 0 6],80):=by kernel_rfl
def aWr (r:(List aA)):Exit→St→Prop:=bA [.mv 0 6] fun x b=>x=(fun (y:(List aA))=>(.osl 2000000 56 3 (y.map aL))) r∧bM ((fun (y:(List aA))=>[]) r) b
def bEw (r:(List aA)):Exit→St→Prop:=(bN (wkK (avc Tryz.prog bBl (aWr r))) (aWr r))
def aMf (r:(List aA)):Exit→St→Prop:=(bP 0 (bEw r))
def aM4 (r:(List aA)):Exit→St→Prop:=(bN (avc Tryz.prog aCy (aMf r)) (aMf r))
def bYw (r:(List aA)):Exit→St→Prop:=(bN (wkK (avc Tryz.prog aH8 (aM4 r))) (aM4 r))
def aWy (r:(List aA)):Exit→St→Prop:=(bP 1 (bYw r))
def bIt (p1:(List aR)) (p2:Bool) (x0:(List aA)) (x7:Int):St:=⟨[(0,(.osl 4000000 56 3 (x0.map aL))),(1,(dZ p1)),(2,(vB p2)),(7,(vI x7))],[]⟩
abbrev aFj (p1:(List aR)) (p2:Bool) (x0:(List aA)) (x7:Int) (r:(List aA)):Prop:=avc Tryz.prog aCy (aMf r) (bIt p1 p2 x0 x7)
def bT6 (p1:(List aR)) (p2:Bool) (x7:Int) (fU:(List aA)):St:=⟨[(0,(.osl 0 56 3 (fU.map aL))),(1,(dZ p1)),(2,(vB p2)),(7,(vI x7))],[]⟩
abbrev aE3 (p1:(List aR)) (p2:Bool) (x7:Int) (fU:(List aA)) (r:(List aA)):Prop:=avc Tryz.prog aPs (aWy r) (bT6 p1 p2 x7 fU)
def cA9 (p1:(List aR)) (p2:Bool) (x7:Int) (mU:(List aA)):St:=⟨[(0,(.osl 0 56 3 (mU.map aL))),(1,(dZ p1)),(2,(vB p2)),(7,(vI x7))],[]⟩
abbrev aEh (p1:(List aR)) (p2:Bool) (x7:Int) (mU:(List aA)) (r:(List aA)):Prop:=avc Tryz.prog aMq (aWy r) (cA9 p1 p2 x7 mU)
def bVv (p1:(List aR)) (p2:Bool) (x7:Int) (lZ:(List aA)):St:=⟨[(0,(.osl 0 56 3 (lZ.map aL))),(1,(dZ p1)),(2,(vB p2)),(7,(vI x7))],[]⟩
abbrev aDb (p1:(List aR)) (p2:Bool) (x7:Int) (lZ:(List aA)) (r:(List aA)):Prop:=avc Tryz.prog aH8 (aM4 r) (bVv p1 p2 x7 lZ)
theorem cAf (x:cZ) (h:∀ d ∈ H6 x,OkD d):okGValue x:=⟨tJ _ (fJ h 0 1),tJ _ (fJ h 1 1),wH _ (fJ h 2 1)⟩
mutual
theorem aEd:∀ x:aB,(∀ d ∈ bD x,OkD d)→okGExpr x
  | ⟨a0,a1,a2,a3,a4,a5,a6,a7⟩,h0=>by
    rw [iA] at h0
    have h:∀ d ∈ iV ⟨a0,a1,a2,a3,a4,a5,a6,a7⟩,OkD d:=h0
    unfold okGExpr
    exact ⟨tJ _ (fJ h 0 1),tJ _ (fJ h 1 1),trivial,cAf a3 (fJ h 3 3),wH _ (fJ h 6 1),wH _ (fJ h 7 1),⟨by simpa using (nJ (fJ h 8 1)).1,aHh a6 (nJ (fJ h 8 1)).2⟩,⟨by simpa using (nJ (fJ h 9 1)).1,bD5 a7 (nJ (fJ h 9 1)).2⟩⟩
theorem bS5:∀ x:aZ,(∀ d ∈ cO x,OkD d)→okGItem x
  | ⟨a0,a1,a2,a3⟩,h0=>by
    rw [rG] at h0
    have h:∀ d ∈ uA ⟨a0,a1,a2,a3⟩,OkD d:=h0
    unfold okGItem
    exact ⟨trivial,wH _ (fJ h 1 1),aEd a2 (by rw [iA]; exact (fJ h 2 10)),wH _ (fJ h 12 1)⟩
theorem bMa:∀ x:aJ,(∀ d ∈ bZ x,OkD d)→okGQuery x
  | ⟨a0,a1,a2,a3,a4,a5⟩,h0=>by
    rw [rO] at h0
    have h:∀ d ∈ tY ⟨a0,a1,a2,a3,a4,a5⟩,OkD d:=h0
    unfold okGQuery
    exact ⟨trivial,⟨by simpa using (nJ (fJ h 1 1)).1,aYd a1 (nJ (fJ h 1 1)).2⟩,⟨by simpa using (nJ (fJ h 2 1)).1,bBn a2 (nJ (fJ h 2 1)).2⟩,⟨by simpa using (nJ (fJ h 3 1)).1,aHh a3 (nJ (fJ h 3 1)).2⟩,⟨by simpa using (nJ (fJ h 4 1)).1,bCx a4 (nJ (fJ h 4 1)).2⟩,tJ _ (fJ h 5 1)⟩
theorem cCy:∀ x:aX,(∀ d ∈ dD x,OkD d)→okGSortKey x
  | ⟨a0,a1⟩,h0=>by
    rw [oI] at h0
    have h:∀ d ∈ jM ⟨a0,a1⟩,OkD d:=h0
    unfold okGSortKey
    exact ⟨aEd a0 (by rw [iA]; exact (fJ h 0 10)),trivial⟩
theorem bEl:∀ x:aR,(∀ d ∈ dW x,OkD d)→okGSource x
  | ⟨a0,a1,a2⟩,h0=>by
    rw [sG] at h0
    have h:∀ d ∈ uB ⟨a0,a1,a2⟩,OkD d:=h0
    unfold okGSource
    exact ⟨wH _ (fJ h 0 1),wH _ (fJ h 1 1),⟨by simpa using (nJ (fJ h 2 1)).1,aHh a2 (nJ (fJ h 2 1)).2⟩⟩
theorem aHh:∀ l:List aB,(∀ x ∈ l.map bD,∀ d ∈ x,OkD d)→okLGExpr l
  | [],_=>by unfold okLGExpr; trivial
  | x::l,h=>by
    unfold okLGExpr
    exact ⟨aEd x (h _ (by simp)),aHh l fun y hy=>h y (List.mem_cons_of_mem _ hy)⟩
theorem aYd:∀ l:List aZ,(∀ x ∈ l.map cO,∀ d ∈ x,OkD d)→okLGItem l
  | [],_=>by unfold okLGItem; trivial
  | x::l,h=>by
    unfold okLGItem
    exact ⟨bS5 x (h _ (by simp)),aYd l fun y hy=>h y (List.mem_cons_of_mem _ hy)⟩
theorem bD5:∀ l:List aJ,(∀ x ∈ l.map bZ,∀ d ∈ x,OkD d)→okLGQuery l
  | [],_=>by unfold okLGQuery; trivial
  | x::l,h=>by
    unfold okLGQuery
    exact ⟨bMa x (h _ (by simp)),bD5 l fun y hy=>h y (List.mem_cons_of_mem _ hy)⟩
theorem bCx:∀ l:List aX,(∀ x ∈ l.map dD,∀ d ∈ x,OkD d)→okLGSortKey l
  | [],_=>by unfold okLGSortKey; trivial
  | x::l,h=>by
    unfold okLGSortKey
    exact ⟨cCy x (h _ (by simp)),bCx l fun y hy=>h y (List.mem_cons_of_mem _ hy)⟩
theorem bBn:∀ l:List aR,(∀ x ∈ l.map dW,∀ d ∈ x,OkD d)→okLGSource l
  | [],_=>by unfold okLGSource; trivial
  | x::l,h=>by
    unfold okLGSource
    exact ⟨bEl x (h _ (by simp)),bBn l fun y hy=>h y (List.mem_cons_of_mem _ hy)⟩
end
theorem bIh (x:aA) (h:∀ d ∈ aL x,OkD d):okGToken x:=⟨tJ _ (fJ h 0 1),wH _ (fJ h 1 1),tJ _ (fJ h 2 1)⟩
theorem cFb (x:xY) (h:∀ d ∈ aJt x,OkD d):okGPrinter x:=⟨bXv _ (fun y hy=>bIh y hy) (fJ h 0 1),trivial⟩
theorem cF5 (x:iM) (h:∀ d ∈ aN3 x,OkD d):okGForm x:=⟨trivial,trivial,trivial,trivial,tJ _ (fJ h 4 1),tJ _ (fJ h 5 1),tJ _ (fJ h 6 1)⟩
theorem de3 {l:List D} (h:WtC Tryz.prog 3 l):∃ x:Int,l=cI x:=(bHe h (k:=.i64) kr)
theorem de4 {l:List D} (h:WtC Tryz.prog 4 l):∃ x:Bool,l=cB x:=(bWn h kr)
theorem de9 {l:List D} (h:WtC Tryz.prog 9 l):∃ x:(List UInt8),l=cStr x:=(bN4 h kr)
theorem bNw {l:List D} (h:WtC Tryz.prog 23 l):∃ x:cZ,l=H6 x:=by
  obtain ⟨x0,e0⟩:=de3 (gY h 0 (off:=0) (n:=1) kr)
  obtain ⟨x1,e1⟩:=de3 (gY h 1 (off:=1) (n:=1) kr)
  obtain ⟨x2,e2⟩:=de9 (gY h 2 (off:=2) (n:=1) kr)
  exact ⟨⟨x0,x1,x2⟩,(dr1 (m:=1) kr e0 (dr1 (m:=2) kr e1 (dr1 (m:=3) kr e2 (dr0 (G9 h (n:=3) kr)))))⟩
def vO (n:Nat):Prop:=∀ m:List D,SizeOf.sizeOf m≤n→(WtC Tryz.prog 24 m→∃ x:(List aB),m=(cSl 10 bD) x)∧(WtC Tryz.prog 25 m→∃ x:(List aJ),m=(cSl 6 bZ) x)∧(WtC Tryz.prog 64 m→∃ x:(List aZ),m=(cSl 13 cO) x)∧(WtC Tryz.prog 65 m→∃ x:(List aR),m=(cSl 3 dW) x)∧(WtC Tryz.prog 66 m→∃ x:(List aX),m=(cSl 11 dD) x)
theorem yR {n m:Nat} (h:vO n) (hm:m≤n):vO m:=fun l hl=>h l (Nat.le_trans hl hm)
theorem aH6 {l:List D} (H:vO (SizeOf.sizeOf l)) (h:WtC Tryz.prog 27 l):∃ x:aB,l=bD x:=by
  obtain ⟨x0,e0⟩:=de3 (gY h 0 (off:=0) (n:=1) (tf:=3) kr)
  obtain ⟨x1,e1⟩:=de3 (gY h 1 (off:=1) (n:=1) (tf:=3) kr)
  obtain ⟨x2,e2⟩:=de4 (gY h 2 (off:=2) (n:=1) (tf:=4) kr)
  obtain ⟨x3,e3⟩:=bNw (gY h 3 (off:=3) (n:=3) (tf:=23) kr)
  obtain ⟨x4,e4⟩:=de9 (gY h 4 (off:=6) (n:=1) (tf:=9) kr)
  obtain ⟨x5,e5⟩:=de9 (gY h 5 (off:=7) (n:=1) (tf:=9) kr)
  obtain ⟨x6,e6⟩:=(H _ (uM l 8 1)).1 (gY h 6 (off:=8) (n:=1) (tf:=24) kr)
  obtain ⟨x7,e7⟩:=(H _ (uM l 9 1)).2.1 (gY h 7 (off:=9) (n:=1) (tf:=25) kr)
  exact ⟨⟨x0,x1,x2,x3,x4,x5,x6,x7⟩,(show l=iV ⟨x0,x1,x2,x3,x4,x5,x6,x7⟩ from (dr1 (m:=1) kr e0 (dr1 (m:=2) kr e1 (dr1 (m:=3) kr e2 (dr1 (m:=6) kr e3 (dr1 (m:=7) kr e4 (dr1 (m:=8) kr e5 (dr1 (m:=9) kr e6 (dr1 (m:=10) kr e7 (dr0 (G9 h (n:=10) kr))))))))))).trans (iA _).symm⟩
theorem aRu {l:List D} (H:vO (SizeOf.sizeOf l)) (h:WtC Tryz.prog 136 l):∃ x:aX,l=dD x:=by
  obtain ⟨x0,e0⟩:=aH6 (yR H (uM l 0 10)) (gY h 0 (off:=0) (n:=10) (tf:=27) kr)
  rw [iA] at e0
  obtain ⟨x1,e1⟩:=de4 (gY h 1 (off:=10) (n:=1) (tf:=4) kr)
  exact ⟨⟨x0,x1⟩,(show l=jM ⟨x0,x1⟩ from (dr1 (m:=10) kr e0 (dr1 (m:=11) kr e1 (dr0 (G9 h (n:=11) kr))))).trans (oI _).symm⟩
theorem aS3 {l:List D} (H:vO (SizeOf.sizeOf l)) (h:WtC Tryz.prog 133 l):∃ x:aR,l=dW x:=by
  obtain ⟨x0,e0⟩:=de9 (gY h 0 (off:=0) (n:=1) (tf:=9) kr)
  obtain ⟨x1,e1⟩:=de9 (gY h 1 (off:=1) (n:=1) (tf:=9) kr)
  obtain ⟨x2,e2⟩:=(H _ (uM l 2 1)).1 (gY h 2 (off:=2) (n:=1) (tf:=24) kr)
  exact ⟨⟨x0,x1,x2⟩,(show l=uB ⟨x0,x1,x2⟩ from (dr1 (m:=1) kr e0 (dr1 (m:=2) kr e1 (dr1 (m:=3) kr e2 (dr0 (G9 h (n:=3) kr)))))).trans (sG _).symm⟩
theorem aSt {l:List D} (H:vO (SizeOf.sizeOf l)) (h:WtC Tryz.prog 130 l):∃ x:aZ,l=cO x:=by
  obtain ⟨x0,e0⟩:=de4 (gY h 0 (off:=0) (n:=1) (tf:=4) kr)
  obtain ⟨x1,e1⟩:=de9 (gY h 1 (off:=1) (n:=1) (tf:=9) kr)
  obtain ⟨x2,e2⟩:=aH6 (yR H (uM l 2 10)) (gY h 2 (off:=2) (n:=10) (tf:=27) kr)
  rw [iA] at e2
  obtain ⟨x3,e3⟩:=de9 (gY h 3 (off:=12) (n:=1) (tf:=9) kr)
  exact ⟨⟨x0,x1,x2,x3⟩,(show l=uA ⟨x0,x1,x2,x3⟩ from (dr1 (m:=1) kr e0 (dr1 (m:=2) kr e1 (dr1 (m:=12) kr e2 (dr1 (m:=13) kr e3 (dr0 (G9 h (n:=13) kr))))))).trans (rG _).symm⟩
theorem aWu {l:List D} (H:vO (SizeOf.sizeOf l)) (h:WtC Tryz.prog 68 l):∃ x:aJ,l=bZ x:=by
  obtain ⟨x0,e0⟩:=de4 (gY h 0 (off:=0) (n:=1) (tf:=4) kr)
  obtain ⟨x1,e1⟩:=(H _ (uM l 1 1)).2.2.1 (gY h 1 (off:=1) (n:=1) (tf:=64) kr)
  obtain ⟨x2,e2⟩:=(H _ (uM l 2 1)).2.2.2.1 (gY h 2 (off:=2) (n:=1) (tf:=65) kr)
  obtain ⟨x3,e3⟩:=(H _ (uM l 3 1)).1 (gY h 3 (off:=3) (n:=1) (tf:=24) kr)
  obtain ⟨x4,e4⟩:=(H _ (uM l 4 1)).2.2.2.2 (gY h 4 (off:=4) (n:=1) (tf:=66) kr)
  obtain ⟨x5,e5⟩:=de3 (gY h 5 (off:=5) (n:=1) (tf:=3) kr)
  exact ⟨⟨x0,x1,x2,x3,x4,x5⟩,(show l=tY ⟨x0,x1,x2,x3,x4,x5⟩ from (dr1 (m:=1) kr e0 (dr1 (m:=2) kr e1 (dr1 (m:=3) kr e2 (dr1 (m:=4) kr e3 (dr1 (m:=5) kr e4 (dr1 (m:=6) kr e5 (dr0 (G9 h (n:=6) kr))))))))).trans (rO _).symm⟩
theorem rJ:∀ n,vO n:=by
  intro n
  induction n with
  | zero =>
    intro m hm
    have:m=[]:=by cases m with | nil=>rfl | cons x l=>simp at hm
    subst this
    exact ⟨fun h=>by obtain ⟨ls,hl,_⟩:=rZ h (e:=27) (n:=10) kr kr; simp at hl,fun h=>by obtain ⟨ls,hl,_⟩:=rZ h (e:=68) (n:=6) kr kr; simp at hl,fun h=>by obtain ⟨ls,hl,_⟩:=rZ h (e:=130) (n:=13) kr kr; simp at hl,fun h=>by obtain ⟨ls,hl,_⟩:=rZ h (e:=133) (n:=3) kr kr; simp at hl,fun h=>by obtain ⟨ls,hl,_⟩:=rZ h (e:=136) (n:=11) kr kr; simp at hl⟩
  | succ n ih =>
    intro m hm
    refine ⟨?_,?_,?_,?_,?_⟩
    · intro h
      obtain ⟨ls,rfl,hx⟩:=rZ h (e:=27) (n:=10) kr kr
      have H:∀ x ∈ ls,∃ y:aB,x=bD y:=fun x hm2=>aH6 (yR ih (by have:=aCf (sz:=10) hm2; omega)) (hx x hm2)
      obtain ⟨ys,rfl⟩:=R9 H
      exact ⟨ys,rfl⟩
    · intro h
      obtain ⟨ls,rfl,hx⟩:=rZ h (e:=68) (n:=6) kr kr
      have H:∀ x ∈ ls,∃ y:aJ,x=bZ y:=fun x hm2=>aWu (yR ih (by have:=aCf (sz:=6) hm2; omega)) (hx x hm2)
      obtain ⟨ys,rfl⟩:=R9 H
      exact ⟨ys,rfl⟩
    · intro h
      obtain ⟨ls,rfl,hx⟩:=rZ h (e:=130) (n:=13) kr kr
      have H:∀ x ∈ ls,∃ y:aZ,x=cO y:=fun x hm2=>aSt (yR ih (by have:=aCf (sz:=13) hm2; omega)) (hx x hm2)
      obtain ⟨ys,rfl⟩:=R9 H
      exact ⟨ys,rfl⟩
    · intro h
      obtain ⟨ls,rfl,hx⟩:=rZ h (e:=133) (n:=3) kr kr
      have H:∀ x ∈ ls,∃ y:aR,x=dW y:=fun x hm2=>aS3 (yR ih (by have:=aCf (sz:=3) hm2; omega)) (hx x hm2)
      obtain ⟨ys,rfl⟩:=R9 H
      exact ⟨ys,rfl⟩
    · intro h
      obtain ⟨ls,rfl,hx⟩:=rZ h (e:=136) (n:=11) kr kr
      have H:∀ x ∈ ls,∃ y:aX,x=dD y:=fun x hm2=>aRu (yR ih (by have:=aCf (sz:=11) hm2; omega)) (hx x hm2)
      obtain ⟨ys,rfl⟩:=R9 H
      exact ⟨ys,rfl⟩
theorem cJh {l:List D} (h:WtC Tryz.prog 24 l):∃ x:(List aB),l=(cSl 10 bD) x:=(rJ _ l (Nat.le_refl _)).1 h
theorem cG7 {l:List D} (h:WtC Tryz.prog 25 l):∃ x:(List aJ),l=(cSl 6 bZ) x:=(rJ _ l (Nat.le_refl _)).2.1 h
theorem cH8 {l:List D} (h:WtC Tryz.prog 64 l):∃ x:(List aZ),l=(cSl 13 cO) x:=(rJ _ l (Nat.le_refl _)).2.2.1 h
theorem cIm {l:List D} (h:WtC Tryz.prog 65 l):∃ x:(List aR),l=(cSl 3 dW) x:=(rJ _ l (Nat.le_refl _)).2.2.2.1 h
theorem cE2 {l:List D} (h:WtC Tryz.prog 66 l):∃ x:(List aX),l=(cSl 11 dD) x:=(rJ _ l (Nat.le_refl _)).2.2.2.2 h
theorem bX0 {l:List D} (h:WtC Tryz.prog 27 l):∃ x:aB,l=bD x:=aH6 (rJ _) h
theorem cEo {l:List D} (h:WtC Tryz.prog 136 l):∃ x:aX,l=dD x:=aRu (rJ _) h
theorem cF7 {l:List D} (h:WtC Tryz.prog 133 l):∃ x:aR,l=dW x:=aS3 (rJ _) h
theorem cGb {l:List D} (h:WtC Tryz.prog 130 l):∃ x:aZ,l=cO x:=aSt (rJ _) h
theorem cH9 {l:List D} (h:WtC Tryz.prog 68 l):∃ x:aJ,l=bZ x:=aWu (rJ _) h
end Go.Proofs.YtflhmnfmihkbmahGreatDoor
