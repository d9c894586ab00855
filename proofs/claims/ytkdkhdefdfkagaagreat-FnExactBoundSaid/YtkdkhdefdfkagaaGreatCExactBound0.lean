/- That the code computes these functions (printed by a program). -/
import Derived.KernelRfl
import Derived.Test.YtkdkhdefdfkagaaGreatAbG2
import Derived.Test.YtkdkhdefdfkagaaGreatAbC3
import Derived.Test.YtkdkhdefdfkagaaGreatFExactBound
import Derived.Test.YtkdkhdefdfkagaaGreatProg
namespace Go.Proofs.YtkdkhdefdfkagaaGreat
open Go Go.RowKit Go.Ab
def cI (n:Int):List D:=[.i .i64 n]
def cU8 (n:Int):List D:=[.i .u8 n]
def bZm (n:Int):List D:=[.i .u64 n]
def bZ4 (n:Int):List D:=[.i .i32 n]
def cAk (n:Int):List D:=[.i .u32 n]
def cB (b:Bool):List D:=[.b b]
def cStr (s:List UInt8):List D:=[.s (bs s)]
def cSl {α:Type} (sz:Nat) (f:α→List D) (l:List α):List D:=[.sl sz (l.map f)]
def dU (x:eG):List D:=[(.s (bs x.name)),(.i .i64 x.type)]
def jB (x:eG):V:=.agg (dU x)
def pX (x:eG):List V:=(dU x).map V.d
def fC (x:bO):List D:=[(.s (bs x.name)),(.sl 2 (x.cols.map dU))]
def gX (x:bO):V:=.agg (fC x)
def mO (x:bO):List V:=(fC x).map V.d
def aA8 (x:bB):List D:=[(.sl 2 (x.tables.map fC))]
def bN (x:bB):V:=.agg (aA8 x)
def bZ (x:bB):List V:=(aA8 x).map V.d
def aBp (x:fT):List D:=[(.i .i64 x.kind),(.i .i64 x.num),(.s (bs x.text))]
def gK (x:fT):V:=.agg (aBp x)
def qE (x:fT):List V:=(aBp x).map V.d
mutual
def aY:aA→List D
  | ⟨a0,a1,a2,a3,a4,a5,a6,a7⟩=>[(.i .i64 a0)]++[(.i .i64 a1)]++[(.b a2)]++aBp a3++[(.s (bs a4))]++[(.s (bs a5))]++[.sl 10 (yR a6)]++[.sl 6 (aGp a7)]
def fM:bR→List D
  | ⟨a0,a1,a2,a3⟩=>[(.b a0)]++[(.s (bs a1))]++aY a2++[(.s (bs a3))]
def dJ:aJ→List D
  | ⟨a0,a1,a2,a3,a4,a5⟩=>[(.b a0)]++[.sl 13 (aIn a1)]++[.sl 3 (aIt a2)]++[.sl 10 (yR a3)]++[.sl 11 (aGf a4)]++[(.i .i64 a5)]
def gI:bX→List D
  | ⟨a0,a1⟩=>aY a0++[(.b a1)]
def fD:bD→List D
  | ⟨a0,a1,a2⟩=>[(.s (bs a0))]++[(.s (bs a1))]++[.sl 10 (yR a2)]
def yR:List aA→List (List D)
  | []=>[]
  | x::l=>aY x::yR l
def aIn:List bR→List (List D)
  | []=>[]
  | x::l=>fM x::aIn l
def aGp:List aJ→List (List D)
  | []=>[]
  | x::l=>dJ x::aGp l
def aGf:List bX→List (List D)
  | []=>[]
  | x::l=>gI x::aGf l
def aIt:List bD→List (List D)
  | []=>[]
  | x::l=>fD x::aIt l
end
theorem V6:∀ l:List aA,yR l=l.map aY
  | []=>by simp only [yR,List.map_nil]
  | x::l=>by simp only [yR,List.map_cons,V6 l]
theorem U1:∀ l:List bR,aIn l=l.map fM
  | []=>by simp only [aIn,List.map_nil]
  | x::l=>by simp only [aIn,List.map_cons,U1 l]
theorem aC8:∀ l:List aJ,aGp l=l.map dJ
  | []=>by simp only [aGp,List.map_nil]
  | x::l=>by simp only [aGp,List.map_cons,aC8 l]
theorem X3:∀ l:List bX,aGf l=l.map gI
  | []=>by simp only [aGf,List.map_nil]
  | x::l=>by simp only [aGf,List.map_cons,X3 l]
theorem aCa:∀ l:List bD,aIt l=l.map fD
  | []=>by simp only [aIt,List.map_nil]
  | x::l=>by simp only [aIt,List.map_cons,aCa l]
def eO (x:aA):List D:=[(.i .i64 x.kind),(.i .i64 x.op),(.b x.not_),(.i .i64 x.value.kind),(.i .i64 x.value.num),(.s (bs x.value.text)),(.s (bs x.qual)),(.s (bs x.name)),(.sl 10 (x.kids.map aY)),(.sl 6 (x.sub.map dJ))]
def eQ (x:bR):List D:=[(.b x.star),(.s (bs x.qual)),(.i .i64 x.expr.kind),(.i .i64 x.expr.op),(.b x.expr.not_),(.i .i64 x.expr.value.kind),(.i .i64 x.expr.value.num),(.s (bs x.expr.value.text)),(.s (bs x.expr.qual)),(.s (bs x.expr.name)),(.sl 10 (x.expr.kids.map aY)),(.sl 6 (x.expr.sub.map dJ)),(.s (bs x.as_))]
def gD (x:aJ):List D:=[(.b x.distinct),(.sl 13 (x.items.map fM)),(.sl 3 (x.from_.map fD)),(.sl 10 (x.where_.map aY)),(.sl 11 (x.order.map gI)),(.i .i64 x.limit)]
def fO (x:bX):List D:=[(.i .i64 x.expr.kind),(.i .i64 x.expr.op),(.b x.expr.not_),(.i .i64 x.expr.value.kind),(.i .i64 x.expr.value.num),(.s (bs x.expr.value.text)),(.s (bs x.expr.qual)),(.s (bs x.expr.name)),(.sl 10 (x.expr.kids.map aY)),(.sl 6 (x.expr.sub.map dJ)),(.b x.desc)]
def eT (x:bD):List D:=[(.s (bs x.table)),(.s (bs x.as_)),(.sl 10 (x.on_.map aY))]
theorem iQ (x:aA):aY x=eO x:=by
  obtain ⟨a0,a1,a2,a3,a4,a5,a6,a7⟩:=x
  simp only [aY,eO,V6,U1,aC8,X3,aCa,List.cons_append,List.nil_append,aBp]
theorem lC (x:bR):fM x=eQ x:=by
  obtain ⟨a0,a1,a2,a3⟩:=x
  simp only [fM,eQ,V6,U1,aC8,X3,aCa,iQ,eO,List.cons_append,List.nil_append]
theorem mI (x:aJ):dJ x=gD x:=by
  obtain ⟨a0,a1,a2,a3,a4,a5⟩:=x
  simp only [dJ,gD,V6,U1,aC8,X3,aCa,List.cons_append,List.nil_append]
theorem nD (x:bX):gI x=fO x:=by
  obtain ⟨a0,a1⟩:=x
  simp only [gI,fO,V6,U1,aC8,X3,aCa,iQ,eO,List.cons_append,List.nil_append]
theorem lD (x:bD):fD x=eT x:=by
  obtain ⟨a0,a1,a2⟩:=x
  simp only [fD,eT,V6,U1,aC8,X3,aCa,List.cons_append,List.nil_append]
def aX (x:aA):V:=.agg (eO x)
def eF (x:aA):List V:=(eO x).map V.d
def fP (x:bR):V:=.agg (eQ x)
def kV (x:bR):List V:=(eQ x).map V.d
def bA (x:aJ):V:=.agg (gD x)
def bL (x:aJ):List V:=(gD x).map V.d
def gH (x:bX):V:=.agg (fO x)
def nA (x:bX):List V:=(fO x).map V.d
def eZ (x:bD):V:=.agg (eT x)
def jE (x:bD):List V:=(eT x).map V.d
def aP (x:aB):List D:=[(.s (bs x.qual)),(.s (bs x.name)),(.i .i64 x.count),(.i .i64 x.up),(.i .i64 x.at_)]
def kL (x:aB):V:=.agg (aP x)
def lV (x:aB):List V:=(aP x).map V.d
def dN (x:dR):List D:=[(.s (bs x.qual)),(.s (bs x.name)),(.i .i64 x.type)]
def lG (x:dR):V:=.agg (dN x)
def mU (x:dR):List V:=(dN x).map V.d
def dY (x:aL):List D:=[(.sl 3 (x.names.map dN))]
def dI (x:aL):V:=.agg (dY x)
def eU (x:aL):List V:=(dY x).map V.d
def aT2 (x:bF):List D:=[(.sl 2 (x.c.tables.map fC)),(.sl 5 (x.list.map aP)),(.b x.failed)]
def cAd (x:bF):V:=.agg (aT2 x)
def aO6 (x:bF):List V:=(aT2 x).map V.d
def aSw (x:gQ):List D:=[(.b x.op),(.b x.not_),(.b x.value),(.b x.name),(.i .i64 x.least),(.i .i64 x.most),(.i .i64 x.subs)]
def kX (x:gQ):V:=.agg (aSw x)
def rY (x:gQ):List V:=(aSw x).map V.d
theorem kr {p:Prop} (h:p:=by kernel_rfl):p:=h
def bC (l:List bD):V:=.d (.sl 3 (l.map fD))
def eD (l:List eG):V:=.d (.sl 2 (l.map dU))
def pY (l:List (List UInt8)):V:=.d (.sl 1 (l.map cStr))
def bJ (l:List aL):V:=.d (.sl 1 (l.map dY))
def aQ (l:List aA):V:=.d (.sl 10 (l.map aY))
def bV (l:List aJ):V:=.d (.sl 6 (l.map dJ))
def cK (l:List bX):V:=.d (.sl 11 (l.map gI))
def bS (l:List bR):V:=.d (.sl 13 (l.map fM))
def bG (l:List bO):V:=.d (.sl 2 (l.map fC))
def iU (l:List dR):V:=.d (.sl 3 (l.map dN))
def cO (l:List aB):V:=.d (.sl 5 (l.map aP))
def jV (l:List Int):V:=.d (.sl 1 (l.map cI))
def eP:V:=(.d (.s (bs [])))
def dL:V:=(.d (.i .i64 0))
def gU:V:=(.d (.b false))
def uJ:List V:=[gU,eP,dL,dL,gU,dL,dL,eP,eP,eP,(.nil 10),(.nil 6),eP]
def xI:List V:=[gU,(.nil 13),(.nil 3),(.nil 10),(.nil 11),dL]
def xA:List V:=[dL,dL,gU,dL,dL,eP,eP,eP,(.nil 10),(.nil 6)]
def aDj:List V:=[dL,dL,gU,dL,dL,eP,eP,eP,(.nil 10),(.nil 6),gU]
def bA4:List V:=[gU,gU,gU,gU,dL,dL,dL]
def aOo:AC:=(.seq (.ops [.box 2 24 0,.box 3 30 1,.asg 4 (kB false)]) (.seq (.ops [.asg 5 (kI 1048576)]) (.seq (.ops [.ld 10 1 true 2,.mv 11 5,.call (some 12) 8 [10,11],.asg 5 12]) (.seq (.seq (.ops [.mv 13 5,.bin 14 .lss 13 (kI 0)]) (.cond 14 (.seq (.ops [.asg 4 (kB true)]) .ret) .skip)) (.seq (.ops [.ld 15 6 true 3,.mv 16 5,.call (some 17) 9 [15,16],.asg 5 17]) (.seq (.seq (.ops [.mv 18 5,.bin 19 .lss 18 (kI 0)]) (.cond 19 (.seq (.ops [.asg 4 (kB true)]) .ret) .skip)) (.seq (.dops [[],[0],[],[2,1],[1,3,3],[4,4,0,1,2,3,4]] [.ld 20 1 true 2,.call (some 21) 11 [20],.ld 22 6 true 3,.call (some 23) 12 [22],.call (some 24) 10 [21,23],.asg 6 24]) (.seq (.ops [.ld 25 1 true 2,.call (some 26) 11 [25],.alc 7 [(.nil 2)],.st 1 7 26]) (.seq (.ops [.ld 27 6 true 3,.call (some 28) 12 [27],.alc 8 xI,.st 6 8 28]) (.seq (.ops [.ld 29 1 true 7,.ld 30 6 true 8,.call (some 31) 13 [29,30],.asg 9 31]) (.seq (.seq (.ops [.mv 32 9,.mv 33 6,.eqb 34 true 32 33]) (.cond 34 (.seq (.ops [.asg 4 (kB false)]) .ret) .skip)) (.seq (.seq (.dops [[],[],[1],[0,2,2],[3]] [.ld 35 1 true 7,.ld 36 1 true 2,.call (some 37) 11 [36],.call (some 38) 14 [35,37],.not 39 38]) (.cond 39 (.seq (.ops [.asg 4 (kB false)]) .ret) .skip)) (.seq (.seq (.dops [[],[],[1],[0,2,2],[3]] [.ld 40 6 true 8,.ld 41 6 true 3,.call (some 42) 12 [41],.call (some 43) 15 [40,42],.not 44 43]) (.cond 44 (.seq (.ops [.asg 4 (kB false)]) .ret) .skip)) (.seq (.ops [.asg 4 (kB true)]) .ret))))))))))))))
theorem bK9:bQ Tryz.prog 3=some (aOo,[.mv 0 4],45):=by kernel_rfl
def bTl (r:Bool):Exit→St→Prop:=bP [.mv 0 4] fun x _=>x=(fun y=>(vB y)) r
def aEk:AC:=(.loop (.seq (.seq (.ops [.mv 14 7,.mv 15 5,.len 16 15,.bin 17 .lss 14 16]) (.cond 17 .skip (.exit 0))) (.seq (.block 1 (.ops [.mv 20 6,.mv 21 20,.g 21 true (.mv 22 5),.g 21 true (.mv 23 7),.g 21 true (.ia 24 5 22 23),.g 21 true (.fa 25 2 24),.g 21 true (.ld 26 1 false 25),.g 21 true (.bin 27 .eql 26 (kI 1)),.pick 28 21 27 (kB false),.asg 6 28])) (.ops [.mv 18 7,.bin 19 .add 18 (kI 1),.asg 7 19]))))
def aVr:AC:=(.seq (.ops [.box 2 36 0,.box 3 43 1,.asg 4 (kB false)]) (.seq (.ops [.ld 9 1 true 2,.ld 10 6 true 3,.call (some 11) 48 [9,10],.mv 8 11,.ext 12 8 0,.ext 13 8 1,.asg 5 12,.asg 6 13]) (.seq (.seq (.ops [.asg 7 (kI 0)]) (.block 0 aEk)) (.seq (.ops [.mv 29 6,.asg 4 29]) .ret))))
theorem bPl:bQ Tryz.prog 10=some (aVr,[.mv 0 4],30):=by kernel_rfl
def aTb (r:Bool):Exit→St→Prop:=bP [.mv 0 4] fun x _=>x=(fun y=>(vB y)) r
def bIn (r:Bool):Exit→St→Prop:=(cZ (wkK (avc Tryz.prog (.seq (.ops [.mv 29 6,.asg 4 29]) .ret) (aTb r))) (aTb r))
def aOk (r:Bool):Exit→St→Prop:=(dD 0 (bIn r))
def aDh (y1:(List aB)×Bool) (x6:Bool) (x7:Int):St:=⟨[(5,(.osl 5 125 5 (y1.1.map aP))),(6,(vB x6)),(7,(vI x7))],[]⟩
def aUd:AC:=(.seq (.ops [.box 2 36 0,.box 3 43 1,.asg 4 (.c (.nil 5)),.asg 5 (kB false)]) (.seq (.seq (.ops [.ld 8 1 true 2,.call (some 9) 67 [8],.not 10 9,.mv 11 10,.g 11 false (.ld 12 6 true 3),.g 11 false (.call (some 13) 131 [12]),.g 11 false (.not 14 13),.pick 15 11 (kB true) 14]) (.cond 15 (.seq (.ops [.bsl 16 125 5 [],.asg 4 16,.asg 5 (kB false)]) .ret) .skip)) (.seq (.ops [.ld 18 1 true 2,.ld 19 6 true 3,.bsl 20 125 5 [],.call (some 21) 132 [18,(.c (.nil 1)),19,20],.mv 17 21,.ext 22 17 0,.ext 23 17 1,.asg 6 22,.asg 7 23]) (.seq (.seq (.ops [.mv 24 7,.not 25 24]) (.cond 25 (.seq (.ops [.bsl 26 125 5 [],.asg 4 26,.asg 5 (kB false)]) .ret) .skip)) (.seq (.ops [.mv 27 6,.asg 4 27,.asg 5 (kB true)]) .ret)))))
theorem bOa:bQ Tryz.prog 48=some (aUd,[.mv 0 4,.mv 0 5],28):=by kernel_rfl
def bW7 (r:(List aB)×Bool):Exit→St→Prop:=bP [.mv 0 4,.mv 0 5] fun x b=>x=(fun (y:(List aB)×Bool)=>(.tup [(.osl 2000000 125 5 (y.1.map aP)),(vB y.2)])) r∧iY ((fun (y:(List aB)×Bool)=>[]) r) b
def aF0:AC:=(.loop (.seq (.seq (.ops [.mv 41 5,.fa 42 1 4,.ld 43 1 false 42,.len 44 43,.bin 45 .lss 41 44]) (.cond 45 .skip (.exit 2))) (.seq (.block 3 (.seq (.dops [[],[0],[],[1,2],[3],[4],[5],[6],[7,6],[8],[8],[10,8],[8],[11,12,8],[13,8],[14,8],[9,15,8,8],[8],[16,17,8],[8,18],[19,16],[20],[21,20],[20],[22,23,20],[24,20],[25,20],[26,20,20],[27,20],[20,28]] [.fa 48 1 4,.ld 49 1 false 48,.mv 50 5,.ia 51 2 49 50,.fa 52 0 51,.ld 53 1 false 52,.call (some 54) 149 [53],.not 55 54,.mv 56 55,.g 56 false (.ld 57 2 true 4),.g 56 false (.fa 58 1 4),.g 56 false (.ld 59 1 false 58),.g 56 false (.mv 60 5),.g 56 false (.ia 61 2 59 60),.g 56 false (.fa 62 0 61),.g 56 false (.ld 63 1 false 62),.g 56 false (.call (some 64) 151 [57,63]),.g 56 false (.mv 65 5),.g 56 false (.bin 66 .neq 64 65),.pick 67 56 (kB true) 66,.mv 68 67,.g 68 false (.fa 69 1 4),.g 68 false (.ld 70 1 false 69),.g 68 false (.mv 71 5),.g 68 false (.ia 72 2 70 71),.g 68 false (.fa 73 1 72),.g 68 false (.ld 74 1 false 73),.g 68 false (.call (some 75) 68 [74,(kI 1),(kI 3)]),.g 68 false (.not 76 75),.pick 77 68 (kB true) 76]) (.cond 77 (.seq (.ops [.asg 2 (kB false)]) .ret) .skip))) (.ops [.mv 46 5,.bin 47 .add 46 (kI 1),.asg 5 47]))))
def Q7:AC:=(.loop (.seq (.seq (.ops [.mv 10 3,.fa 11 0 1,.ld 12 1 false 11,.len 13 12,.bin 14 .lss 10 13]) (.cond 14 .skip (.exit 0))) (.seq (.block 1 (.seq (.ops [.fa 17 0 1,.ld 18 1 false 17,.mv 19 3,.ia 20 2 18 19,.ld 21 2 true 20,.alc 4 [eP,(.nil 2)],.st 2 4 21]) (.seq (.seq (.ops [.fa 22 0 4,.ld 23 1 false 22,.call (some 24) 149 [23],.not 25 24,.mv 26 25,.g 26 false (.ld 27 1 true 1),.g 26 false (.fa 28 0 4),.g 26 false (.ld 29 1 false 28),.g 26 false (.call (some 30) 150 [27,29]),.g 26 false (.mv 31 3),.g 26 false (.bin 32 .neq 30 31),.pick 33 26 (kB true) 32,.mv 34 33,.g 34 false (.fa 35 1 4),.g 34 false (.ld 36 1 false 35),.g 34 false (.len 37 36),.g 34 false (.call (some 38) 68 [37,(kI 1),(kI 4)]),.g 34 false (.not 39 38),.pick 40 34 (kB true) 39]) (.cond 40 (.seq (.ops [.asg 2 (kB false)]) .ret) .skip)) (.seq (.ops [.asg 5 (kI 0)]) (.block 2 aF0))))) (.ops [.mv 15 3,.bin 16 .add 15 (kI 1),.asg 3 16]))))
def aVf:AC:=(.seq (.ops [.box 1 36 0,.asg 2 (kB false)]) (.seq (.seq (.ops [.fa 6 0 1,.ld 7 1 false 6,.len 8 7,.bin 9 .gtr 8 (kI 4)]) (.cond 9 (.seq (.ops [.asg 2 (kB false)]) .ret) .skip)) (.seq (.seq (.ops [.asg 3 (kI 0)]) (.block 0 Q7)) (.seq (.ops [.asg 2 (kB true)]) .ret))))
theorem bYv:bQ Tryz.prog 67=some (aVf,[.mv 0 2],78):=by kernel_rfl
def aNa (r:Bool):Exit→St→Prop:=bP [.mv 0 2] fun x _=>x=(fun y=>(vB y)) r
def bMw (r:Bool):Exit→St→Prop:=(cZ (wkK (avc Tryz.prog (.seq (.ops [.asg 2 (.c (.d (.b true)))]) .ret) (aNa r))) (aNa r))
def aHf (r:Bool):Exit→St→Prop:=(dD 0 (bMw r))
def bEf (r:Bool):Exit→St→Prop:=(cZ (avc Tryz.prog Q7 (aHf r)) (aHf r))
def bRo (r:Bool):Exit→St→Prop:=(cZ (wkK (avc Tryz.prog (.ops [.mv 15 3,.bin 16 .add 15 (.c (.d (.i .i64 1))),.asg 3 16]) (bEf r))) (bEf r))
def bQv (r:Bool):Exit→St→Prop:=(dD 1 (bRo r))
def aPk (r:Bool):Exit→St→Prop:=(dD 2 (bQv r))
def aD1 (p0:bB) (x3:Int):St:=⟨[(1,(.ptr 1 0)),(3,(vI x3))],[(1,bZ p0)]⟩
def aAi (x3:Int) (p0:bB) (y1:bO) (x5:Int):St:=⟨[(1,(.ptr 1 0)),(3,(vI x3)),(4,(.ptr 4 0)),(5,(vI x5))],[(1,bZ p0),(4,mO y1)]⟩
def aWm:AC:=(.seq (.ops [.asg 6 (kB false)]) (.seq (.ops [.mv 7 0,.mv 8 1,.bin 9 .geq 7 8,.mv 10 9,.g 10 true (.mv 11 0),.g 10 true (.mv 12 2),.g 10 true (.bin 13 .leq 11 12),.pick 14 10 13 (kB false),.asg 6 14]) .ret))
theorem bMe:bQ Tryz.prog 68=some (aWm,[.mv 0 6],15):=by kernel_rfl
def bJ1 (r:Bool):Exit→St→Prop:=bP [.mv 0 6] fun x _=>x=(fun y=>(vB y)) r
def aOw:AC:=(.seq (.ops [.asg 2 (kB false)]) (.seq (.ops [.mv 3 0,.lns 4 3,.call (some 5) 68 [4,(kI 1),(kI 20)],.asg 2 5]) .ret))
theorem bSl:bQ Tryz.prog 149=some (aOw,[.mv 0 2],6):=by kernel_rfl
def bHf (r:Bool):Exit→St→Prop:=bP [.mv 0 2] fun x _=>x=(fun y=>(vB y)) r
def aFy:AC:=(.loop (.seq (.seq (.ops [.mv 6 5,.fa 7 1 2,.ld 8 1 false 7,.len 9 8,.bin 10 .lss 6 9]) (.cond 10 .skip (.exit 0))) (.seq (.block 1 (.seq (.ops [.fa 13 1 2,.ld 14 1 false 13,.mv 15 5,.ia 16 2 14 15,.fa 17 0 16,.ld 18 1 false 17,.mv 19 1,.bin 20 .eql 18 19]) (.cond 20 (.seq (.ops [.mv 21 5,.asg 4 21]) .ret) .skip))) (.ops [.mv 11 5,.bin 12 .add 11 (kI 1),.asg 5 12]))))
def aUr:AC:=(.seq (.ops [.box 2 150 0,.asg 4 (kI 0)]) (.seq (.seq (.ops [.asg 5 (kI 0)]) (.block 0 aFy)) (.seq (.ops [.asg 4 (kI (-1))]) .ret)))
theorem bLm:bQ Tryz.prog 151=some (aUr,[.mv 0 4],22):=by kernel_rfl
def aXz (r:Int):Exit→St→Prop:=bP [.mv 0 4] fun x _=>x=(fun y=>(vI y)) r
def bXj (r:Int):Exit→St→Prop:=(cZ (wkK (avc Tryz.prog (.seq (.ops [.asg 4 (.c (.d (.i .i64 (-1))))]) .ret) (aXz r))) (aXz r))
def aNm (r:Int):Exit→St→Prop:=(dD 0 (bXj r))
def Z4 (p1:(List UInt8)) (p0:bO) (x5:Int):St:=⟨[(1,(vS p1)),(2,(.ptr 2 0)),(5,(vI x5))],[(2,mO p0)]⟩
def aId:AC:=(.loop (.seq (.seq (.ops [.mv 6 5,.fa 7 0 2,.ld 8 1 false 7,.len 9 8,.bin 10 .lss 6 9]) (.cond 10 .skip (.exit 0))) (.seq (.block 1 (.seq (.ops [.fa 13 0 2,.ld 14 1 false 13,.mv 15 5,.ia 16 2 14 15,.fa 17 0 16,.ld 18 1 false 17,.mv 19 1,.bin 20 .eql 18 19]) (.cond 20 (.seq (.ops [.mv 21 5,.asg 4 21]) .ret) .skip))) (.ops [.mv 11 5,.bin 12 .add 11 (kI 1),.asg 5 12]))))
def aNt:AC:=(.seq (.ops [.box 2 36 0,.asg 4 (kI 0)]) (.seq (.seq (.ops [.asg 5 (kI 0)]) (.block 0 aId)) (.seq (.ops [.asg 4 (kI (-1))]) .ret)))
theorem bRg:bQ Tryz.prog 150=some (aNt,[.mv 0 4],22):=by kernel_rfl
def aUz (r:Int):Exit→St→Prop:=bP [.mv 0 4] fun x _=>x=(fun y=>(vI y)) r
def bWy (r:Int):Exit→St→Prop:=(cZ (wkK (avc Tryz.prog (.seq (.ops [.asg 4 (.c (.d (.i .i64 (-1))))]) .ret) (aUz r))) (aUz r))
def aQg (r:Int):Exit→St→Prop:=(dD 0 (bWy r))
def aCv (p1:(List UInt8)) (p0:bB) (x5:Int):St:=⟨[(1,(vS p1)),(2,(.ptr 2 0)),(5,(vI x5))],[(2,bZ p0)]⟩
def aI0:AC:=(.loop (.seq (.seq (.ops [.mv 57 13,.mv 58 12,.len 59 58,.bin 60 .lss 57 59]) (.cond 60 .skip (.exit 2))) (.seq (.block 3 (.dops [[],[0],[],[],[],[3,4],[5],[6],[],[],[8,9],[10],[11],[2,7,12],[13],[1,14],[0,1,2,3,4,5,6,7,8,9,10,11,12,13,14,15],[16,15,15,0,1,2,3,4,5,6,7,8,9,10,11,12,13,14,15]] [.fa 63 0 7,.ld 64 1 false 63,.mv 65 11,.mv 66 12,.mv 67 13,.ia 68 2 66 67,.fa 69 0 68,.ld 70 1 false 69,.mv 71 12,.mv 72 13,.ia 73 2 71 72,.fa 74 1 73,.ld 75 1 false 74,.bld 76 [eP,eP,dL] [(0,1,65),(1,1,70),(2,1,75)],.bsl 77 326 3 [76],.app 78 326 3 40 64 77,.fa 79 0 7,.st 1 79 78])) (.ops [.mv 61 13,.bin 62 .add 61 (kI 1),.asg 13 62]))))
def aDt:AC:=(.loop (.seq (.seq (.ops [.mv 16 9,.mv 17 1,.len 18 17,.bin 19 .lss 16 18]) (.cond 19 .skip (.exit 0))) (.seq (.block 1 (.seq (.dops [[],[],[],[1,2],[3],[4],[0,5],[6,6,0,1,2,3,4,5,6]] [.ld 22 1 true 2,.mv 23 1,.mv 24 9,.ia 25 3 23 24,.fa 26 0 25,.ld 27 1 false 26,.call (some 28) 150 [22,27],.asg 10 28]) (.seq (.ops [.mv 29 1,.mv 30 9,.ia 31 3 29 30,.ld 32 3 true 31,.call (some 33) 299 [32],.asg 11 33]) (.seq (.seq (.ops [.mv 34 10,.bin 35 .lss 34 (kI 0)]) (.cond 35 (.seq (.dops [[],[],[],[1,2],[3],[4],[0,0],[6,0,6],[5,7,0,1,2,3,4,5,6,7]] [.bld 36 [(.nil 3)] [],.mv 37 1,.mv 38 9,.ia 39 3 37 38,.fa 40 0 39,.ld 41 1 false 40,.st 1 4 36,.asg 5 (kI 1),.asg 6 41]) .ret) .skip)) (.seq (.seq (.ops [.mv 42 8,.mv 43 11,.call (some 44) 300 [42,43]]) (.cond 44 (.seq (.ops [.bld 45 [(.nil 3)] [],.mv 46 11,.st 1 4 45,.asg 5 (kI 2),.asg 6 46]) .ret) .skip)) (.seq (.ops [.mv 47 8,.mv 48 11,.bsl 49 9 1 [48],.app 50 9 1 16 47 49,.asg 8 50]) (.seq (.ops [.fa 51 0 2,.ld 52 1 false 51,.mv 53 10,.ia 54 2 52 53,.fa 55 1 54,.ld 56 1 false 55,.asg 12 56]) (.seq (.ops [.asg 13 (kI 0)]) (.block 2 aI0))))))))) (.ops [.mv 20 9,.bin 21 .add 20 (kI 1),.asg 9 21]))))
def aOv:AC:=(.seq (.ops [.box 2 36 0,.alc 4 [(.nil 3)],.asg 5 (kI 0),.asg 6 (.c (.d (.s (bs []))))]) (.seq (.ops [.bld 14 [(.nil 3)] [],.alc 7 [(.nil 3)],.st 1 7 14]) (.seq (.ops [.bsl 15 9 1 [],.asg 8 15]) (.seq (.seq (.ops [.asg 9 (kI 0)]) (.block 0 aDt)) (.seq (.ops [.ld 80 1 true 7,.st 1 4 80,.asg 5 (kI 0),.asg 6 (.c (.d (.s (bs []))))]) .ret)))))
theorem bX0:bQ Tryz.prog 214=some (aOv,[.ld 0 1 true 4,.mv 0 5,.mv 0 6],81):=by kernel_rfl
def aOn (r:aL×Int×(List UInt8)):Exit→St→Prop:=bP [.ld 0 1 true 4,.mv 0 5,.mv 0 6] fun x _=>x=(fun y=>(.tup [(dI y.1),(vI y.2.1),(vS y.2.2)])) r
def bVq (r:aL×Int×(List UInt8)):Exit→St→Prop:=(cZ (wkK (avc Tryz.prog (.seq (.ops [.ld 80 1 true 7,.st 1 4 80,.asg 5 (.c (.d (.i .i64 0))),.asg 6 (.c (.d (.s (bs []))))]) .ret) (aOn r))) (aOn r))
def aG6 (r:aL×Int×(List UInt8)):Exit→St→Prop:=(dD 0 (bVq r))
def aZ5 (r:aL×Int×(List UInt8)):Exit→St→Prop:=(cZ (avc Tryz.prog aDt (aG6 r)) (aG6 r))
def bLk (r:aL×Int×(List UInt8)):Exit→St→Prop:=(cZ (wkK (avc Tryz.prog (.ops [.mv 20 9,.bin 21 .add 20 (.c (.d (.i .i64 1))),.asg 9 21]) (aZ5 r))) (aZ5 r))
def bIf (r:aL×Int×(List UInt8)):Exit→St→Prop:=(dD 1 (bLk r))
def aYs (r:aL×Int×(List UInt8)):Exit→St→Prop:=(dD 2 (bIf r))
def O1 (p1:(List bD)) (p0:bB) (x8:(List (List UInt8))) (x9:Int) (aR:(List dR)):St:=⟨[(1,(bC p1)),(2,(.ptr 2 0)),(4,(.ptr 4 0)),(7,(.ptr 7 0)),(8,(.osl 8 9 1 (x8.map cStr))),(9,(vI x9))],[(2,bZ p0),(4,[(.nil 3)]),(7,[(.osl 78 326 3 (aR.map dN))])]⟩
def aDl (p1:(List bD)) (y7:(List (List UInt8))) (x9:Int) (y4:(List UInt8)) (y8:bO) (p0:bB) (x13:Int) (lX:(List dR)):St:=⟨[(1,(bC p1)),(2,(.ptr 2 0)),(4,(.ptr 4 0)),(7,(.ptr 7 0)),(8,(.osl 8 9 1 (y7.map cStr))),(9,(vI x9)),(11,(vS y4)),(12,(eD y8.cols)),(13,(vI x13))],[(2,bZ p0),(4,[(.nil 3)]),(7,[(.osl 78 326 3 (lX.map dN))])]⟩
def aIa:AC:=(.loop (.seq (.seq (.ops [.mv 6 5,.mv 7 0,.len 8 7,.bin 9 .lss 6 8]) (.cond 9 .skip (.exit 0))) (.seq (.block 1 (.seq (.ops [.mv 12 0,.mv 13 5,.ia 14 1 12 13,.ld 15 1 false 14,.mv 16 1,.bin 17 .eql 15 16]) (.cond 17 (.seq (.ops [.asg 4 (kB true)]) .ret) .skip))) (.ops [.mv 10 5,.bin 11 .add 10 (kI 1),.asg 5 11]))))
def aRi:AC:=(.seq (.ops [.asg 4 (kB false)]) (.seq (.seq (.ops [.asg 5 (kI 0)]) (.block 0 aIa)) (.seq (.ops [.asg 4 (kB false)]) .ret)))
theorem bM8:bQ Tryz.prog 300=some (aRi,[.mv 0 4],18):=by kernel_rfl
def aPf (r:Bool):Exit→St→Prop:=bP [.mv 0 4] fun x _=>x=(fun y=>(vB y)) r
def bGo (r:Bool):Exit→St→Prop:=(cZ (wkK (avc Tryz.prog (.seq (.ops [.asg 4 (.c (.d (.b false)))]) .ret) (aPf r))) (aPf r))
def aTz (r:Bool):Exit→St→Prop:=(dD 0 (bGo r))
def aA0 (p0:(List (List UInt8))) (p1:(List UInt8)) (x5:Int):St:=⟨[(0,(pY p0)),(1,(vS p1)),(5,(vI x5))],[]⟩
def aS6:AC:=(.seq (.ops [.box 1 227 0,.asg 2 (.c (.d (.s (bs []))))]) (.seq (.seq (.ops [.fa 3 1 1,.ld 4 1 false 3,.bin 5 .neq 4 (.c (.d (.s (bs []))))]) (.cond 5 (.seq (.ops [.fa 6 1 1,.ld 7 1 false 6,.asg 2 7]) .ret) .skip)) (.seq (.ops [.fa 8 0 1,.ld 9 1 false 8,.asg 2 9]) .ret)))
theorem bHe:bQ Tryz.prog 299=some (aS6,[.mv 0 2],10):=by kernel_rfl
def bSs (r:(List UInt8)):Exit→St→Prop:=bP [.mv 0 2] fun x _=>x=(fun y=>(vS y)) r
def aHc:AC:=(.ops [.mv 28 7,.bin 29 .add 28 (kI 1),.asg 7 29])
def aCz:AC:=(.loop (.seq (.seq (.ops [.mv 20 7,.mv 21 0,.mv 22 6,.ia 23 1 21 22,.fa 24 0 23,.ld 25 1 false 24,.len 26 25,.bin 27 .lss 20 26]) (.cond 27 .skip (.exit 2))) (.seq (.block 3 (.seq (.ops [.mv 30 0,.mv 31 6,.ia 32 1 30 31,.fa 33 0 32,.ld 34 1 false 33,.mv 35 7,.ia 36 3 34 35,.ld 37 3 true 36,.alc 8 [eP,eP,dL],.st 3 8 37]) (.seq (.ops [.fa 38 1 8,.ld 39 1 false 38,.fa 40 7 3,.ld 41 1 false 40,.bin 42 .eql 39 41,.mv 43 42,.g 43 true (.fa 44 6 3),.g 43 true (.ld 45 1 false 44),.g 43 true (.bin 46 .eql 45 (.c (.d (.s (bs []))))),.g 43 true (.mv 47 46),.g 47 false (.fa 48 0 8),.g 47 false (.ld 49 1 false 48),.g 47 false (.fa 50 6 3),.g 47 false (.ld 51 1 false 50),.g 47 false (.bin 52 .eql 49 51),.g 43 true (.pick 53 47 (kB true) 52),.pick 54 43 53 (kB false)]) (.cond 54 (.seq (.ops [.fa 55 2 5,.ld 56 1 false 55,.bin 57 .add 56 (kI 1),.fa 58 2 5,.st 1 58 57]) (.seq (.ops [.mv 59 6,.fa 60 3 5,.st 1 60 59]) (.ops [.mv 61 7,.fa 62 4 5,.st 1 62 61]))) .skip)))) aHc)))
def X4:AC:=(.loop (.seq (.seq (.ops [.mv 14 6,.mv 15 0,.len 16 15,.bin 17 .lss 14 16]) (.cond 17 .skip (.exit 0))) (.seq (.block 1 (.seq (.seq (.ops [.asg 7 (kI 0)]) (.block 2 aCz)) (.seq (.ops [.fa 63 2 5,.ld 64 1 false 63,.bin 65 .gtr 64 (kI 0)]) (.cond 65 (.exit 0) .skip)))) (.ops [.mv 18 6,.bin 19 .add 18 (kI 1),.asg 6 19]))))
def aY0:AC:=(.seq (.ops [.ld 71 5 true 5,.st 5 4 71]) .ret)
def aJn:AC:=(.seq (.seq (.ops [.fa 66 2 5,.ld 67 1 false 66,.bin 68 .neq 67 (kI 1)]) (.cond 68 (.seq (.ops [.fa 69 3 5,.st 1 69 (kI 0)]) (.ops [.fa 70 4 5,.st 1 70 (kI 0)])) .skip)) aY0)
def aRu:AC:=(.seq (.ops [.box 3 111 1,.alc 4 [eP,eP,dL,dL,dL]]) (.seq (.ops [.fa 9 6 3,.ld 10 1 false 9,.fa 11 7 3,.ld 12 1 false 11,.bld 13 [eP,eP,dL,dL,dL] [(0,1,10),(1,1,12)],.alc 5 [eP,eP,dL,dL,dL],.st 5 5 13]) (.seq (.seq (.ops [.asg 6 (kI 0)]) (.block 0 X4)) aJn)))
theorem bLd:bQ Tryz.prog 311=some (aRu,[.ld 0 5 true 4],72):=by kernel_rfl
def aJ4 (r:aB):Exit→St→Prop:=bP [.ld 0 5 true 4] fun x _=>x=(fun y=>(kL y)) r
def bRn (r:aB):Exit→St→Prop:=(cZ (wkK (avc Tryz.prog aJn (aJ4 r))) (aJ4 r))
def aHd (r:aB):Exit→St→Prop:=(dD 0 (bRn r))
def bAd (r:aB):Exit→St→Prop:=(cZ (avc Tryz.prog X4 (aHd r)) (aHd r))
def bM9 (r:aB):Exit→St→Prop:=(cZ (wkK (avc Tryz.prog (.ops [.mv 18 6,.bin 19 .add 18 (.c (.d (.i .i64 1))),.asg 6 19]) (bAd r))) (bAd r))
def aYy (r:aB):Exit→St→Prop:=(dD 1 (bM9 r))
def bRa (r:aB):Exit→St→Prop:=(cZ (wkK (avc Tryz.prog (.seq (.ops [.fa 63 2 5,.ld 64 1 false 63,.bin 65 .gtr 64 (.c (.d (.i .i64 0)))]) (.cond 65 (.exit 0) .skip)) (aYy r))) (aYy r))
def aE6 (r:aB):Exit→St→Prop:=(dD 2 (bRa r))
def aWn (r:aB):Exit→St→Prop:=(cZ (avc Tryz.prog aCz (aE6 r)) (aE6 r))
def aD9 (p0:(List aL)) (p1:aA) (x6:Int) (nG:Int) (nH:Int) (nI:Int):St:=⟨[(0,(bJ p0)),(3,(.ptr 3 0)),(4,(.ptr 4 0)),(5,(.ptr 5 0)),(6,(vI x6))],[(3,eF p1),(4,[(vS []),(vS []),(vI 0),(vI 0),(vI 0)]),(5,lV (aB.mk p1.qual p1.name nG nH nI))]⟩
def aA5 (p0:(List aL)) (x6:Int) (p1:aA) (x7:Int) (jC:Int) (lH:Int) (kZ:Int):St:=⟨[(0,(bJ p0)),(3,(.ptr 3 0)),(4,(.ptr 4 0)),(5,(.ptr 5 0)),(6,(vI x6)),(7,(vI x7))],[(3,eF p1),(4,[(vS []),(vS []),(vI 0),(vI 0),(vI 0)]),(5,lV (aB.mk p1.qual p1.name jC lH kZ))]⟩
def aJw (p1:aA) (jY:Int) (vE:Int) (uG:Int):St:=⟨[(4,(.ptr 4 0)),(5,(.ptr 5 0))],[(4,[(vS []),(vS []),(vI 0),(vI 0),(vI 0)]),(5,lV (aB.mk p1.qual p1.name jY vE uG))]⟩
def R6 (p0:(List aL)) (x6:Int) (x7:Int) (p1:aA) (oV:Int) (oH:Int) (nY:Int):St:=⟨[(0,(bJ p0)),(3,(.ptr 3 0)),(4,(.ptr 4 0)),(5,(.ptr 5 0)),(6,(vI x6)),(7,(vI x7))],[(3,eF p1),(4,[(vS []),(vS []),(vI 0),(vI 0),(vI 0)]),(5,lV (aB.mk p1.qual p1.name oV oH nY))]⟩
def aLu (p1:aA) (jY:Int) (sF:Int) (sQ:Int):St:=⟨[(4,(.ptr 4 0)),(5,(.ptr 5 0))],[(4,[(vS []),(vS []),(vI 0),(vI 0),(vI 0)]),(5,lV (aB.mk p1.qual p1.name jY sF sQ))]⟩
def aF7:AC:=(.ops [.mv 13 6,.bin 14 .add 13 (kI 1),.asg 6 14])
def aAn:AC:=(.loop (.seq (.seq (.ops [.mv 8 6,.fa 9 0 2,.ld 10 1 false 9,.len 11 10,.bin 12 .lss 8 11]) (.cond 12 .skip (.exit 0))) (.seq (.block 1 (.seq (.ops [.mv 15 1,.bin 16 .eql 15 (.c (.d (.s (bs [])))),.mv 17 16,.g 17 false (.fa 18 0 2),.g 17 false (.ld 19 1 false 18),.g 17 false (.mv 20 6),.g 17 false (.ia 21 3 19 20),.g 17 false (.fa 22 0 21),.g 17 false (.ld 23 1 false 22),.g 17 false (.mv 24 1),.g 17 false (.bin 25 .eql 23 24),.pick 26 17 (kB true) 25]) (.cond 26 (.ops [.mv 27 5,.mv 28 6,.bsl 29 3 1 [28],.app 30 3 1 8 27 29,.asg 5 30]) .skip))) aF7)))
def aYi:AC:=(.seq (.ops [.box 2 306 0,.asg 4 (.c (.nil 1))]) (.seq (.ops [.bsl 7 3 1 [],.asg 5 7]) (.seq (.seq (.ops [.asg 6 (kI 0)]) (.block 0 aAn)) (.seq (.ops [.mv 31 5,.asg 4 31]) .ret))))
theorem bLc:bQ Tryz.prog 236=some (aYi,[.mv 0 4],32):=by kernel_rfl
def aV4 (r:(List Int)):Exit→St→Prop:=bP [.mv 0 4] fun x b=>x=(fun (y:(List Int))=>(.osl 2000000 3 1 (y.map cI))) r∧iY ((fun (y:(List Int))=>[]) r) b
def bYw (r:(List Int)):Exit→St→Prop:=(cZ (wkK (avc Tryz.prog (.seq (.ops [.mv 31 5,.asg 4 31]) .ret) (aV4 r))) (aV4 r))
def aFb (r:(List Int)):Exit→St→Prop:=(dD 0 (bYw r))
def aV3 (r:(List Int)):Exit→St→Prop:=(cZ (avc Tryz.prog aAn (aFb r)) (aFb r))
def aDo (p1:(List UInt8)) (p0:aL) (x5:(List Int)) (x6:Int):St:=⟨[(1,(vS p1)),(2,(.ptr 2 0)),(5,(.osl 5 3 1 (x5.map cI))),(6,(vI x6))],[(2,eU p0)]⟩
def aCs (p1:(List UInt8)) (x6:Int) (p0:aL) (jG:(List Int)):St:=⟨[(1,(vS p1)),(2,(.ptr 2 0)),(5,(.osl 5 3 1 (jG.map cI))),(6,(vI x6))],[(2,eU p0)]⟩
def aXl:AC:=(.seq (.ops [.box 2 306 0,.asg 4 (.c (.nil 1))]) (.seq (.ops [.ld 5 1 true 2,.bsl 6 306 1 [5],.mv 7 1,.app 8 306 1 24 6 7,.asg 4 8]) .ret))
theorem bHv:bQ Tryz.prog 234=some (aXl,[.mv 0 4],9):=by kernel_rfl
def bXh (r:(List aL)):Exit→St→Prop:=bP [.mv 0 4] fun x b=>x=(fun (y:(List aL))=>(.osl 2000000 306 1 (y.map dY))) r∧iY ((fun (y:(List aL))=>[]) r) b
def aOq:AC:=(.seq (.ops [.box 1 43 0,.asg 2 (kB false)]) (.seq (.ops [.ld 3 6 true 1,.call (some 4) 230 [3],.mv 5 4,.g 5 true (.ld 6 6 true 1),.g 5 true (.call (some 7) 231 [6]),.g 5 true (.bin 8 .leq 7 (kI 24)),.pick 9 5 8 (kB false),.mv 10 9,.g 10 true (.ld 11 6 true 1),.g 10 true (.call (some 12) 232 [11]),.g 10 true (.bin 13 .leq 12 (kI 200)),.pick 14 10 13 (kB false),.asg 2 14]) .ret))
theorem bWv:bQ Tryz.prog 131=some (aOq,[.mv 0 2],15):=by kernel_rfl
def bG1 (r:Bool):Exit→St→Prop:=bP [.mv 0 2] fun x _=>x=(fun y=>(vB y)) r
def aIo:AC:=(.loop (.seq (.seq (.ops [.mv 8 5,.mv 9 4,.len 10 9,.bin 11 .lss 8 10]) (.cond 11 .skip (.exit 0))) (.seq (.block 1 (.ops [.mv 14 3,.mv 15 4,.mv 16 5,.ia 17 10 15 16,.ld 18 10 true 17,.call (some 19) 309 [18],.call (some 20) 248 [14,19],.asg 3 20])) (.ops [.mv 12 5,.bin 13 .add 12 (kI 1),.asg 5 13]))))
def aRl:AC:=(.seq (.ops [.box 1 43 0,.asg 2 (kI 0)]) (.seq (.ops [.asg 3 (kI 0)]) (.seq (.ops [.ld 6 6 true 1,.call (some 7) 307 [6],.asg 4 7]) (.seq (.seq (.ops [.asg 5 (kI 0)]) (.block 0 aIo)) (.seq (.ops [.mv 21 3,.asg 2 21]) .ret)))))
theorem bVh:bQ Tryz.prog 231=some (aRl,[.mv 0 2],22):=by kernel_rfl
def aQ4 (r:Int):Exit→St→Prop:=bP [.mv 0 2] fun x _=>x=(fun y=>(vI y)) r
def bLw (r:Int):Exit→St→Prop:=(cZ (wkK (avc Tryz.prog (.seq (.ops [.mv 21 3,.asg 2 21]) .ret) (aQ4 r))) (aQ4 r))
def aRx (r:Int):Exit→St→Prop:=(dD 0 (bLw r))
def O7 (y1:(List aA)) (x3:Int) (x5:Int):St:=⟨[(3,(vI x3)),(4,(.osl 4 111 10 (y1.map aY))),(5,(vI x5))],[]⟩
def aGv:AC:=(.loop (.seq (.seq (.ops [.mv 6 4,.fa 7 8 1,.ld 8 1 false 7,.len 9 8,.bin 10 .lss 6 9]) (.cond 10 .skip (.exit 0))) (.seq (.block 1 (.ops [.mv 13 3,.fa 14 8 1,.ld 15 1 false 14,.mv 16 4,.ia 17 10 15 16,.ld 18 10 true 17,.call (some 19) 309 [18],.call (some 20) 248 [13,19],.asg 3 20])) (.ops [.mv 11 4,.bin 12 .add 11 (kI 1),.asg 4 12]))))
def R3:AC:=(.loop (.seq (.seq (.ops [.mv 21 5,.fa 22 9 1,.ld 23 1 false 22,.len 24 23,.bin 25 .lss 21 24]) (.cond 25 .skip (.exit 2))) (.seq (.block 3 (.ops [.mv 28 3,.fa 29 9 1,.ld 30 1 false 29,.mv 31 5,.ia 32 6 30 31,.ld 33 6 true 32,.call (some 34) 231 [33],.call (some 35) 248 [28,34],.asg 3 35])) (.ops [.mv 26 5,.bin 27 .add 26 (kI 1),.asg 5 27]))))
def aSs:AC:=(.seq (.ops [.box 1 111 0,.asg 2 (kI 0)]) (.seq (.ops [.asg 3 (kI 0)]) (.seq (.seq (.ops [.asg 4 (kI 0)]) (.block 0 aGv)) (.seq (.seq (.ops [.asg 5 (kI 0)]) (.block 2 R3)) (.seq (.ops [.mv 36 3,.bin 37 .add 36 (kI 1),.asg 2 37]) .ret)))))
theorem bU6:bQ Tryz.prog 309=some (aSs,[.mv 0 2],38):=by kernel_rfl
def aI2 (r:Int):Exit→St→Prop:=bP [.mv 0 2] fun x _=>x=(fun y=>(vI y)) r
def bGv (r:Int):Exit→St→Prop:=(cZ (wkK (avc Tryz.prog (.seq (.seq (.ops [.asg 5 (.c (.d (.i .i64 0)))]) (.block 2 R3)) (.seq (.ops [.mv 36 3,.bin 37 .add 36 (.c (.d (.i .i64 1))),.asg 2 37]) .ret)) (aI2 r))) (aI2 r))
def aXh (r:Int):Exit→St→Prop:=(dD 0 (bGv r))
def bUf (r:Int):Exit→St→Prop:=(cZ (wkK (avc Tryz.prog (.seq (.ops [.mv 36 3,.bin 37 .add 36 (.c (.d (.i .i64 1))),.asg 2 37]) .ret) (aI2 r))) (aI2 r))
def aTf (r:Int):Exit→St→Prop:=(dD 2 (bUf r))
def aBu (p0:aA) (x3:Int) (x4:Int):St:=⟨[(1,(.ptr 1 0)),(3,(vI x3)),(4,(vI x4))],[(1,eF p0)]⟩
def aC6 (p0:aA) (fH:Int) (x5:Int):St:=⟨[(1,(.ptr 1 0)),(3,(vI fH)),(5,(vI x5))],[(1,eF p0)]⟩
def aSt:AC:=(.seq (.ops [.asg 4 (kI 0)]) (.seq (.seq (.ops [.mv 5 0,.mv 6 1,.bin 7 .gtr 5 6]) (.cond 7 (.seq (.ops [.mv 8 0,.asg 4 8]) .ret) .skip)) (.seq (.ops [.mv 9 1,.asg 4 9]) .ret)))
theorem bU7:bQ Tryz.prog 248=some (aSt,[.mv 0 4],10):=by kernel_rfl
def bX6 (r:Int):Exit→St→Prop:=bP [.mv 0 4] fun x _=>x=(fun y=>(vI y)) r
def aGw:AC:=(.ops [.mv 13 4,.bin 14 .add 13 (kI 1),.asg 4 14])
def Y8:AC:=(.loop (.seq (.seq (.ops [.mv 8 4,.fa 9 1 1,.ld 10 1 false 9,.len 11 10,.bin 12 .lss 8 11]) (.cond 12 .skip (.exit 0))) (.seq (.block 1 (.seq (.ops [.fa 15 1 1,.ld 16 1 false 15,.mv 17 4,.ia 18 13 16 17,.fa 19 0 18,.ld 20 1 false 19,.not 21 20]) (.cond 21 (.ops [.mv 22 3,.fa 23 1 1,.ld 24 1 false 23,.mv 25 4,.ia 26 13 24 25,.fa 27 2 26,.ld 28 10 true 27,.bsl 29 111 10 [28],.app 30 111 10 136 22 29,.asg 3 30]) .skip))) aGw)))
def L8:AC:=(.loop (.seq (.seq (.ops [.mv 31 5,.fa 32 2 1,.ld 33 1 false 32,.len 34 33,.bin 35 .lss 31 34]) (.cond 35 .skip (.exit 2))) (.seq (.block 3 (.ops [.mv 38 3,.fa 39 2 1,.ld 40 1 false 39,.mv 41 5,.ia 42 3 40 41,.fa 43 2 42,.ld 44 1 false 43,.app 45 111 10 136 38 44,.asg 3 45])) (.ops [.mv 36 5,.bin 37 .add 36 (kI 1),.asg 5 37]))))
def zY:AC:=(.loop (.seq (.seq (.ops [.mv 50 6,.fa 51 4 1,.ld 52 1 false 51,.len 53 52,.bin 54 .lss 50 53]) (.cond 54 .skip (.exit 4))) (.seq (.block 5 (.ops [.mv 57 3,.fa 58 4 1,.ld 59 1 false 58,.mv 60 6,.ia 61 11 59 60,.fa 62 0 61,.ld 63 10 true 62,.bsl 64 111 10 [63],.app 65 111 10 136 57 64,.asg 3 65])) (.ops [.mv 55 6,.bin 56 .add 55 (kI 1),.asg 6 56]))))
def aSj:AC:=(.seq (.ops [.box 1 43 0,.asg 2 (.c (.nil 10))]) (.seq (.ops [.bsl 7 111 10 [],.asg 3 7]) (.seq (.seq (.ops [.asg 4 (kI 0)]) (.block 0 Y8)) (.seq (.seq (.ops [.asg 5 (kI 0)]) (.block 2 L8)) (.seq (.ops [.mv 46 3,.fa 47 3 1,.ld 48 1 false 47,.app 49 111 10 136 46 48,.asg 3 49]) (.seq (.seq (.ops [.asg 6 (kI 0)]) (.block 4 zY)) (.seq (.ops [.mv 66 3,.asg 2 66]) .ret)))))))
theorem bK7:bQ Tryz.prog 307=some (aSj,[.mv 0 2],67):=by kernel_rfl
def zO (r:(List aA)):Exit→St→Prop:=bP [.mv 0 2] fun x b=>x=(fun (y:(List aA))=>(.osl 2000000 111 10 (y.map aY))) r∧iY ((fun (y:(List aA))=>[]) r) b
def bY4 (r:(List aA)):Exit→St→Prop:=(cZ (wkK (avc Tryz.prog (.seq (.seq (.ops [.asg 5 (.c (.d (.i .i64 0)))]) (.block 2 L8)) (.seq (.ops [.mv 46 3,.fa 47 3 1,.ld 48 1 false 47,.app 49 111 10 136 46 48,.asg 3 49]) (.seq (.seq (.ops [.asg 6 (.c (.d (.i .i64 0)))]) (.block 4 zY)) (.seq (.ops [.mv 66 3,.asg 2 66]) .ret)))) (zO r))) (zO r))
def aE8 (r:(List aA)):Exit→St→Prop:=(dD 0 (bY4 r))
def aVt (r:(List aA)):Exit→St→Prop:=(cZ (avc Tryz.prog Y8 (aE8 r)) (aE8 r))
def bOw (r:(List aA)):Exit→St→Prop:=(cZ (wkK (avc Tryz.prog (.seq (.ops [.mv 46 3,.fa 47 3 1,.ld 48 1 false 47,.app 49 111 10 136 46 48,.asg 3 49]) (.seq (.seq (.ops [.asg 6 (.c (.d (.i .i64 0)))]) (.block 4 zY)) (.seq (.ops [.mv 66 3,.asg 2 66]) .ret))) (zO r))) (zO r))
def aOx (r:(List aA)):Exit→St→Prop:=(dD 2 (bOw r))
def bIo (r:(List aA)):Exit→St→Prop:=(cZ (wkK (avc Tryz.prog (.seq (.ops [.mv 66 3,.asg 2 66]) .ret) (zO r))) (zO r))
def aWa (r:(List aA)):Exit→St→Prop:=(dD 4 (bIo r))
def aBf (p0:aJ) (x3:(List aA)) (x4:Int):St:=⟨[(1,(.ptr 1 0)),(3,(.osl 3 111 10 (x3.map aY))),(4,(vI x4))],[(1,bL p0)]⟩
def aAr (x4:Int) (p0:aJ) (fH:(List aA)):St:=⟨[(1,(.ptr 1 0)),(3,(.osl 3 111 10 (fH.map aY))),(4,(vI x4))],[(1,bL p0)]⟩
def U5 (p0:aJ) (kH:(List aA)) (x5:Int):St:=⟨[(1,(.ptr 1 0)),(3,(.osl 3 111 10 (kH.map aY))),(5,(vI x5))],[(1,bL p0)]⟩
def aCy (p0:aJ) (kR:(List aA)) (x6:Int):St:=⟨[(1,(.ptr 1 0)),(3,(.osl 3 111 10 (kR.map aY))),(6,(vI x6))],[(1,bL p0)]⟩
def aHa:AC:=(.loop (.seq (.seq (.ops [.mv 38 3,.fa 39 1 1,.ld 40 1 false 39,.len 41 40,.bin 42 .lss 38 41]) (.cond 42 .skip (.exit 0))) (.seq (.block 1 (.seq (.ops [.fa 45 1 1,.ld 46 1 false 45,.mv 47 3,.ia 48 13 46 47,.ld 49 13 true 48,.alc 4 uJ,.st 13 4 49]) (.seq (.ops [.fa 50 0 4,.ld 51 1 false 50,.mv 52 51,.g 52 true (.fa 53 1 4),.g 52 true (.ld 54 1 false 53),.g 52 true (.call (some 55) 305 [54]),.g 52 true (.not 56 55),.g 52 true (.mv 57 56),.g 57 false (.fa 58 12 4),.g 57 false (.ld 59 1 false 58),.g 57 false (.bin 60 .neq 59 (.c (.d (.s (bs []))))),.g 52 true (.pick 61 57 (kB true) 60),.g 52 true (.mv 62 61),.g 62 false (.fa 63 2 4),.g 62 false (.ld 64 10 true 63),.g 62 false (.bld 65 [dL,dL,gU,dL,dL,eP,eP,eP,(.nil 10),(.nil 6)] []),.g 62 false (.call (some 66) 306 [64,65]),.g 62 false (.not 67 66),.g 52 true (.pick 68 62 (kB true) 67),.pick 69 52 68 (kB false),.mv 70 69,.g 70 false (.fa 71 0 4),.g 70 false (.ld 72 1 false 71),.g 70 false (.not 73 72),.g 70 false (.mv 74 73),.g 74 true (.fa 75 1 4),.g 74 true (.ld 76 1 false 75),.g 74 true (.bin 77 .neq 76 (.c (.d (.s (bs []))))),.g 74 true (.mv 78 77),.g 78 false (.fa 79 12 4),.g 78 false (.ld 80 1 false 79),.g 78 false (.call (some 81) 305 [80]),.g 78 false (.not 82 81),.g 74 true (.pick 83 78 (kB true) 82),.g 70 false (.pick 84 74 83 (kB false)),.pick 85 70 (kB true) 84]) (.cond 85 (.seq (.ops [.asg 2 (kB false)]) .ret) .skip)))) (.ops [.mv 43 3,.bin 44 .add 43 (kI 1),.asg 3 44]))))
def W9:AC:=(.loop (.seq (.seq (.ops [.mv 86 5,.fa 87 2 1,.ld 88 1 false 87,.len 89 88,.bin 90 .lss 86 89]) (.cond 90 .skip (.exit 2))) (.seq (.block 3 (.seq (.ops [.fa 93 2 1,.ld 94 1 false 93,.mv 95 5,.ia 96 3 94 95,.ld 97 3 true 96,.alc 6 [eP,eP,(.nil 10)],.st 3 6 97]) (.seq (.ops [.fa 98 0 6,.ld 99 1 false 98,.call (some 100) 149 [99],.not 101 100,.mv 102 101,.g 102 false (.fa 103 1 6),.g 102 false (.ld 104 1 false 103),.g 102 false (.call (some 105) 305 [104]),.g 102 false (.not 106 105),.pick 107 102 (kB true) 106,.mv 108 107,.g 108 false (.fa 109 2 6),.g 108 false (.ld 110 1 false 109),.g 108 false (.len 111 110),.g 108 false (.bin 112 .gtr 111 (kI 1)),.pick 113 108 (kB true) 112,.mv 114 113,.g 114 false (.mv 115 5),.g 114 false (.bin 116 .eql 115 (kI 0)),.g 114 false (.mv 117 116),.g 117 true (.fa 118 2 6),.g 117 true (.ld 119 1 false 118),.g 117 true (.len 120 119),.g 117 true (.bin 121 .gtr 120 (kI 0)),.g 114 false (.pick 122 117 121 (kB false)),.pick 123 114 (kB true) 122]) (.cond 123 (.seq (.ops [.asg 2 (kB false)]) .ret) .skip)))) (.ops [.mv 91 5,.bin 92 .add 91 (kI 1),.asg 5 92]))))
def zN:AC:=(.loop (.seq (.seq (.ops [.mv 126 8,.mv 127 7,.len 128 127,.bin 129 .lss 126 128]) (.cond 129 .skip (.exit 4))) (.seq (.block 5 (.seq (.ops [.mv 132 7,.mv 133 8,.ia 134 10 132 133,.ld 135 10 true 134,.call (some 136) 308 [135],.not 137 136]) (.cond 137 (.seq (.ops [.asg 2 (kB false)]) .ret) .skip))) (.ops [.mv 130 8,.bin 131 .add 130 (kI 1),.asg 8 131]))))
def aN7:AC:=(.seq (.ops [.box 1 43 0,.asg 2 (kB false)]) (.seq (.seq (.ops [.fa 9 1 1,.ld 10 1 false 9,.len 11 10,.call (some 12) 68 [11,(kI 1),(kI 12)],.not 13 12,.mv 14 13,.g 14 false (.fa 15 2 1),.g 14 false (.ld 16 1 false 15),.g 14 false (.len 17 16),.g 14 false (.call (some 18) 68 [17,(kI 1),(kI 3)]),.g 14 false (.not 19 18),.pick 20 14 (kB true) 19,.mv 21 20,.g 21 false (.fa 22 3 1),.g 21 false (.ld 23 1 false 22),.g 21 false (.len 24 23),.g 21 false (.bin 25 .gtr 24 (kI 1)),.pick 26 21 (kB true) 25,.mv 27 26,.g 27 false (.fa 28 4 1),.g 27 false (.ld 29 1 false 28),.g 27 false (.len 30 29),.g 27 false (.bin 31 .gtr 30 (kI 12)),.pick 32 27 (kB true) 31,.mv 33 32,.g 33 false (.fa 34 5 1),.g 33 false (.ld 35 1 false 34),.g 33 false (.bin 36 .lss 35 (kI (-1))),.pick 37 33 (kB true) 36]) (.cond 37 (.seq (.ops [.asg 2 (kB false)]) .ret) .skip)) (.seq (.seq (.ops [.asg 3 (kI 0)]) (.block 0 aHa)) (.seq (.seq (.ops [.asg 5 (kI 0)]) (.block 2 W9)) (.seq (.ops [.ld 124 6 true 1,.call (some 125) 307 [124],.asg 7 125]) (.seq (.seq (.ops [.asg 8 (kI 0)]) (.block 4 zN)) (.seq (.ops [.asg 2 (kB true)]) .ret)))))))
theorem bHu:bQ Tryz.prog 230=some (aN7,[.mv 0 2],138):=by kernel_rfl
def J6 (r:Bool):Exit→St→Prop:=bP [.mv 0 2] fun x _=>x=(fun y=>(vB y)) r
def bGj (r:Bool):Exit→St→Prop:=(cZ (wkK (avc Tryz.prog (.seq (.seq (.ops [.asg 5 (.c (.d (.i .i64 0)))]) (.block 2 W9)) (.seq (.ops [.ld 124 6 true 1,.call (some 125) 307 [124],.asg 7 125]) (.seq (.seq (.ops [.asg 8 (.c (.d (.i .i64 0)))]) (.block 4 zN)) (.seq (.ops [.asg 2 (.c (.d (.b true)))]) .ret)))) (J6 r))) (J6 r))
def aXu (r:Bool):Exit→St→Prop:=(dD 0 (bGj r))
def bOf (r:Bool):Exit→St→Prop:=(cZ (wkK (avc Tryz.prog (.seq (.ops [.ld 124 6 true 1,.call (some 125) 307 [124],.asg 7 125]) (.seq (.seq (.ops [.asg 8 (.c (.d (.i .i64 0)))]) (.block 4 zN)) (.seq (.ops [.asg 2 (.c (.d (.b true)))]) .ret))) (J6 r))) (J6 r))
def aSm (r:Bool):Exit→St→Prop:=(dD 2 (bOf r))
def bI5 (r:Bool):Exit→St→Prop:=(cZ (wkK (avc Tryz.prog (.seq (.ops [.asg 2 (.c (.d (.b true)))]) .ret) (J6 r))) (J6 r))
def aX1 (r:Bool):Exit→St→Prop:=(dD 4 (bI5 r))
def aB8 (p0:aJ) (x3:Int):St:=⟨[(1,(.ptr 1 0)),(3,(vI x3))],[(1,bL p0)]⟩
def U6 (p0:aJ) (x5:Int):St:=⟨[(1,(.ptr 1 0)),(5,(vI x5))],[(1,bL p0)]⟩
def Y5 (y24:(List aA)) (x8:Int):St:=⟨[(7,(.osl 7 111 10 (y24.map aY))),(8,(vI x8))],[]⟩
def aHs:AC:=(.loop (.seq (.seq (.ops [.mv 63 5,.fa 64 9 2,.ld 65 1 false 64,.len 66 65,.bin 67 .lss 63 66]) (.cond 67 .skip (.exit 0))) (.seq (.block 1 (.seq (.dops [[],[0],[],[1,2],[3],[],[5],[],[6,7],[8],[4,9],[10]] [.fa 70 9 2,.ld 71 1 false 70,.mv 72 5,.ia 73 6 71 72,.ld 74 6 true 73,.fa 75 9 3,.ld 76 1 false 75,.mv 77 5,.ia 78 6 76 77,.ld 79 6 true 78,.call (some 80) 353 [74,79],.not 81 80]) (.cond 81 (.seq (.ops [.asg 4 (kB false)]) .ret) .skip))) (.ops [.mv 68 5,.bin 69 .add 68 (kI 1),.asg 5 69]))))
def aX6:AC:=(.seq (.ops [.box 2 111 0,.box 3 111 1,.asg 4 (kB false)]) (.seq (.seq (.ops [.fa 6 0 2,.ld 7 1 false 6,.fa 8 0 3,.ld 9 1 false 8,.bin 10 .neq 7 9,.mv 11 10,.g 11 false (.fa 12 1 2),.g 11 false (.ld 13 1 false 12),.g 11 false (.fa 14 1 3),.g 11 false (.ld 15 1 false 14),.g 11 false (.bin 16 .neq 13 15),.pick 17 11 (kB true) 16,.mv 18 17,.g 18 false (.fa 19 2 2),.g 18 false (.ld 20 1 false 19),.g 18 false (.fa 21 2 3),.g 18 false (.ld 22 1 false 21),.g 18 false (.eqb 23 true 20 22),.pick 24 18 (kB true) 23,.mv 25 24,.g 25 false (.fa 26 3 2),.g 25 false (.ld 27 3 true 26),.g 25 false (.fa 28 3 3),.g 25 false (.ld 29 3 true 28),.g 25 false (.eqv 30 true [0,0,1] 27 29),.pick 31 25 (kB true) 30,.mv 32 31,.g 32 false (.fa 33 6 2),.g 32 false (.ld 34 1 false 33),.g 32 false (.fa 35 6 3),.g 32 false (.ld 36 1 false 35),.g 32 false (.bin 37 .neq 34 36),.pick 38 32 (kB true) 37,.mv 39 38,.g 39 false (.fa 40 7 2),.g 39 false (.ld 41 1 false 40),.g 39 false (.fa 42 7 3),.g 39 false (.ld 43 1 false 42),.g 39 false (.bin 44 .neq 41 43),.pick 45 39 (kB true) 44,.mv 46 45,.g 46 false (.fa 47 9 2),.g 46 false (.ld 48 1 false 47),.g 46 false (.len 49 48),.g 46 false (.fa 50 9 3),.g 46 false (.ld 51 1 false 50),.g 46 false (.len 52 51),.g 46 false (.bin 53 .neq 49 52),.pick 54 46 (kB true) 53,.mv 55 54,.g 55 false (.fa 56 8 2),.g 55 false (.ld 57 1 false 56),.g 55 false (.fa 58 8 3),.g 55 false (.ld 59 1 false 58),.g 55 false (.call (some 60) 352 [57,59]),.g 55 false (.not 61 60),.pick 62 55 (kB true) 61]) (.cond 62 (.seq (.ops [.asg 4 (kB false)]) .ret) .skip)) (.seq (.seq (.ops [.asg 5 (kI 0)]) (.block 0 aHs)) (.seq (.ops [.asg 4 (kB true)]) .ret))))
theorem bMl:bQ Tryz.prog 306=some (aX6,[.mv 0 4],82):=by kernel_rfl
def aX2 (r:Bool):Exit→St→Prop:=bP [.mv 0 4] fun x _=>x=(fun y=>(vB y)) r
def bOr (r:Bool):Exit→St→Prop:=(cZ (wkK (avc Tryz.prog (.seq (.ops [.asg 4 (.c (.d (.b true)))]) .ret) (aX2 r))) (aX2 r))
def aOa (r:Bool):Exit→St→Prop:=(dD 0 (bOr r))
def aA6 (p0:aA) (p1:aA) (x5:Int):St:=⟨[(2,(.ptr 2 0)),(3,(.ptr 3 0)),(5,(vI x5))],[(2,eF p0),(3,eF p1)]⟩
def aGx:AC:=(.loop (.seq (.seq (.ops [.mv 59 5,.fa 60 1 2,.ld 61 1 false 60,.len 62 61,.bin 63 .lss 59 62]) (.cond 63 .skip (.exit 0))) (.seq (.block 1 (.seq (.ops [.fa 66 1 2,.ld 67 1 false 66,.mv 68 5,.ia 69 13 67 68,.ld 70 13 true 69,.alc 6 uJ,.st 13 6 70]) (.seq (.ops [.fa 71 1 3,.ld 72 1 false 71,.mv 73 5,.ia 74 13 72 73,.ld 75 13 true 74,.alc 7 uJ,.st 13 7 75]) (.seq (.ops [.fa 76 0 6,.ld 77 1 false 76,.fa 78 0 7,.ld 79 1 false 78,.eqb 80 true 77 79,.mv 81 80,.g 81 false (.fa 82 1 6),.g 81 false (.ld 83 1 false 82),.g 81 false (.fa 84 1 7),.g 81 false (.ld 85 1 false 84),.g 81 false (.bin 86 .neq 83 85),.pick 87 81 (kB true) 86,.mv 88 87,.g 88 false (.fa 89 12 6),.g 88 false (.ld 90 1 false 89),.g 88 false (.fa 91 12 7),.g 88 false (.ld 92 1 false 91),.g 88 false (.bin 93 .neq 90 92),.pick 94 88 (kB true) 93,.mv 95 94,.g 95 false (.fa 96 2 6),.g 95 false (.ld 97 10 true 96),.g 95 false (.fa 98 2 7),.g 95 false (.ld 99 10 true 98),.g 95 false (.call (some 100) 306 [97,99]),.g 95 false (.not 101 100),.pick 102 95 (kB true) 101]) (.cond 102 (.seq (.ops [.asg 4 (kB false)]) .ret) .skip))))) (.ops [.mv 64 5,.bin 65 .add 64 (kI 1),.asg 5 65]))))
def U4:AC:=(.loop (.seq (.seq (.ops [.mv 103 8,.fa 104 2 2,.ld 105 1 false 104,.len 106 105,.bin 107 .lss 103 106]) (.cond 107 .skip (.exit 2))) (.seq (.block 3 (.seq (.ops [.fa 110 2 2,.ld 111 1 false 110,.mv 112 8,.ia 113 3 111 112,.ld 114 3 true 113,.alc 9 [eP,eP,(.nil 10)],.st 3 9 114]) (.seq (.ops [.fa 115 2 3,.ld 116 1 false 115,.mv 117 8,.ia 118 3 116 117,.ld 119 3 true 118,.alc 10 [eP,eP,(.nil 10)],.st 3 10 119]) (.seq (.ops [.fa 120 0 9,.ld 121 1 false 120,.fa 122 0 10,.ld 123 1 false 122,.bin 124 .neq 121 123,.mv 125 124,.g 125 false (.fa 126 1 9),.g 125 false (.ld 127 1 false 126),.g 125 false (.fa 128 1 10),.g 125 false (.ld 129 1 false 128),.g 125 false (.bin 130 .neq 127 129),.pick 131 125 (kB true) 130,.mv 132 131,.g 132 false (.fa 133 2 9),.g 132 false (.ld 134 1 false 133),.g 132 false (.fa 135 2 10),.g 132 false (.ld 136 1 false 135),.g 132 false (.call (some 137) 352 [134,136]),.g 132 false (.not 138 137),.pick 139 132 (kB true) 138]) (.cond 139 (.seq (.ops [.asg 4 (kB false)]) .ret) .skip))))) (.ops [.mv 108 8,.bin 109 .add 108 (kI 1),.asg 8 109]))))
def G8:AC:=(.loop (.seq (.seq (.ops [.mv 140 11,.fa 141 4 2,.ld 142 1 false 141,.len 143 142,.bin 144 .lss 140 143]) (.cond 144 .skip (.exit 4))) (.seq (.block 5 (.seq (.dops [[],[0],[],[1,2],[3],[4],[],[6],[],[7,8],[9],[10],[5,11],[12],[13],[14,13],[13],[15,16,13],[17,13],[18,13],[13],[20,13],[13],[21,22,13],[23,13],[24,13],[19,25,13,13],[26,13],[13,27]] [.fa 147 4 2,.ld 148 1 false 147,.mv 149 11,.ia 150 11 148 149,.fa 151 10 150,.ld 152 1 false 151,.fa 153 4 3,.ld 154 1 false 153,.mv 155 11,.ia 156 11 154 155,.fa 157 10 156,.ld 158 1 false 157,.eqb 159 true 152 158,.mv 160 159,.g 160 false (.fa 161 4 2),.g 160 false (.ld 162 1 false 161),.g 160 false (.mv 163 11),.g 160 false (.ia 164 11 162 163),.g 160 false (.fa 165 0 164),.g 160 false (.ld 166 10 true 165),.g 160 false (.fa 167 4 3),.g 160 false (.ld 168 1 false 167),.g 160 false (.mv 169 11),.g 160 false (.ia 170 11 168 169),.g 160 false (.fa 171 0 170),.g 160 false (.ld 172 10 true 171),.g 160 false (.call (some 173) 306 [166,172]),.g 160 false (.not 174 173),.pick 175 160 (kB true) 174]) (.cond 175 (.seq (.ops [.asg 4 (kB false)]) .ret) .skip))) (.ops [.mv 145 11,.bin 146 .add 145 (kI 1),.asg 11 146]))))
def aYl:AC:=(.seq (.ops [.box 2 43 0,.box 3 43 1,.asg 4 (kB false)]) (.seq (.seq (.ops [.fa 12 0 2,.ld 13 1 false 12,.fa 14 0 3,.ld 15 1 false 14,.eqb 16 true 13 15,.mv 17 16,.g 17 false (.fa 18 5 2),.g 17 false (.ld 19 1 false 18),.g 17 false (.fa 20 5 3),.g 17 false (.ld 21 1 false 20),.g 17 false (.bin 22 .neq 19 21),.pick 23 17 (kB true) 22,.mv 24 23,.g 24 false (.fa 25 1 2),.g 24 false (.ld 26 1 false 25),.g 24 false (.len 27 26),.g 24 false (.fa 28 1 3),.g 24 false (.ld 29 1 false 28),.g 24 false (.len 30 29),.g 24 false (.bin 31 .neq 27 30),.pick 32 24 (kB true) 31,.mv 33 32,.g 33 false (.fa 34 2 2),.g 33 false (.ld 35 1 false 34),.g 33 false (.len 36 35),.g 33 false (.fa 37 2 3),.g 33 false (.ld 38 1 false 37),.g 33 false (.len 39 38),.g 33 false (.bin 40 .neq 36 39),.pick 41 33 (kB true) 40,.mv 42 41,.g 42 false (.fa 43 4 2),.g 42 false (.ld 44 1 false 43),.g 42 false (.len 45 44),.g 42 false (.fa 46 4 3),.g 42 false (.ld 47 1 false 46),.g 42 false (.len 48 47),.g 42 false (.bin 49 .neq 45 48),.pick 50 42 (kB true) 49,.mv 51 50,.g 51 false (.fa 52 3 2),.g 51 false (.ld 53 1 false 52),.g 51 false (.fa 54 3 3),.g 51 false (.ld 55 1 false 54),.g 51 false (.call (some 56) 352 [53,55]),.g 51 false (.not 57 56),.pick 58 51 (kB true) 57]) (.cond 58 (.seq (.ops [.asg 4 (kB false)]) .ret) .skip)) (.seq (.seq (.ops [.asg 5 (kI 0)]) (.block 0 aGx)) (.seq (.seq (.ops [.asg 8 (kI 0)]) (.block 2 U4)) (.seq (.seq (.ops [.asg 11 (kI 0)]) (.block 4 G8)) (.seq (.ops [.asg 4 (kB true)]) .ret))))))
theorem bVw:bQ Tryz.prog 353=some (aYl,[.mv 0 4],176):=by kernel_rfl
def D5 (r:Bool):Exit→St→Prop:=bP [.mv 0 4] fun x _=>x=(fun y=>(vB y)) r
def bVv (r:Bool):Exit→St→Prop:=(cZ (wkK (avc Tryz.prog (.seq (.seq (.ops [.asg 8 (.c (.d (.i .i64 0)))]) (.block 2 U4)) (.seq (.seq (.ops [.asg 11 (.c (.d (.i .i64 0)))]) (.block 4 G8)) (.seq (.ops [.asg 4 (.c (.d (.b true)))]) .ret))) (D5 r))) (D5 r))
def aU8 (r:Bool):Exit→St→Prop:=(dD 0 (bVv r))
def bQ3 (r:Bool):Exit→St→Prop:=(cZ (wkK (avc Tryz.prog (.seq (.seq (.ops [.asg 11 (.c (.d (.i .i64 0)))]) (.block 4 G8)) (.seq (.ops [.asg 4 (.c (.d (.b true)))]) .ret)) (D5 r))) (D5 r))
def aTu (r:Bool):Exit→St→Prop:=(dD 2 (bQ3 r))
def bGs (r:Bool):Exit→St→Prop:=(cZ (wkK (avc Tryz.prog (.seq (.ops [.asg 4 (.c (.d (.b true)))]) .ret) (D5 r))) (D5 r))
def aNn (r:Bool):Exit→St→Prop:=(dD 4 (bGs r))
def aBw (p0:aJ) (p1:aJ) (x5:Int):St:=⟨[(2,(.ptr 2 0)),(3,(.ptr 3 0)),(5,(vI x5))],[(2,bL p0),(3,bL p1)]⟩
def aCq (p0:aJ) (p1:aJ) (x8:Int):St:=⟨[(2,(.ptr 2 0)),(3,(.ptr 3 0)),(8,(vI x8))],[(2,bL p0),(3,bL p1)]⟩
def aBr (p0:aJ) (p1:aJ) (x11:Int):St:=⟨[(2,(.ptr 2 0)),(3,(.ptr 3 0)),(11,(vI x11))],[(2,bL p0),(3,bL p1)]⟩
def aGj:AC:=(.loop (.seq (.seq (.ops [.mv 11 5,.mv 12 0,.len 13 12,.bin 14 .lss 11 13]) (.cond 14 .skip (.exit 0))) (.seq (.block 1 (.seq (.dops [[],[],[0,1],[2],[],[],[4,5],[6],[3,7],[8]] [.mv 17 0,.mv 18 5,.ia 19 10 17 18,.ld 20 10 true 19,.mv 21 1,.mv 22 5,.ia 23 10 21 22,.ld 24 10 true 23,.call (some 25) 306 [20,24],.not 26 25]) (.cond 26 (.seq (.ops [.asg 4 (kB false)]) .ret) .skip))) (.ops [.mv 15 5,.bin 16 .add 15 (kI 1),.asg 5 16]))))
def aUy:AC:=(.seq (.ops [.asg 4 (kB false)]) (.seq (.seq (.ops [.mv 6 0,.len 7 6,.mv 8 1,.len 9 8,.bin 10 .neq 7 9]) (.cond 10 (.seq (.ops [.asg 4 (kB false)]) .ret) .skip)) (.seq (.seq (.ops [.asg 5 (kI 0)]) (.block 0 aGj)) (.seq (.ops [.asg 4 (kB true)]) .ret))))
theorem bQw:bQ Tryz.prog 352=some (aUy,[.mv 0 4],27):=by kernel_rfl
def aNo (r:Bool):Exit→St→Prop:=bP [.mv 0 4] fun x _=>x=(fun y=>(vB y)) r
def bTy (r:Bool):Exit→St→Prop:=(cZ (wkK (avc Tryz.prog (.seq (.ops [.asg 4 (.c (.d (.b true)))]) .ret) (aNo r))) (aNo r))
def aRd (r:Bool):Exit→St→Prop:=(dD 0 (bTy r))
def V4 (p0:(List aA)) (p1:(List aA)) (x5:Int):St:=⟨[(0,(aQ p0)),(1,(aQ p1)),(5,(vI x5))],[]⟩
def aEh:AC:=(.loop (.seq (.seq (.ops [.mv 7 3,.fa 8 8 1,.ld 9 1 false 8,.len 10 9,.bin 11 .lss 7 10]) (.cond 11 .skip (.exit 0))) (.seq (.block 1 (.seq (.ops [.fa 14 8 1,.ld 15 1 false 14,.mv 16 3,.ia 17 10 15 16,.ld 18 10 true 17,.call (some 19) 308 [18],.not 20 19]) (.cond 20 (.seq (.ops [.asg 2 (kB false)]) .ret) .skip))) (.ops [.mv 12 3,.bin 13 .add 12 (kI 1),.asg 3 13]))))
def aTn:AC:=(.seq (.ops [.box 1 111 0,.asg 2 (kB false)]) (.seq (.seq (.ops [.ld 4 10 true 1,.call (some 5) 322 [4],.not 6 5]) (.cond 6 (.seq (.ops [.asg 2 (kB false)]) .ret) .skip)) (.seq (.seq (.ops [.asg 3 (kI 0)]) (.block 0 aEh)) (.seq (.ops [.fa 21 9 1,.ld 22 1 false 21,.len 23 22,.bin 24 .eql 23 (kI 0),.mv 25 24,.g 25 false (.fa 26 9 1),.g 25 false (.ld 27 1 false 26),.g 25 false (.ia 28 6 27 (kI 0)),.g 25 false (.ld 29 6 true 28),.g 25 false (.call (some 30) 230 [29]),.pick 31 25 (kB true) 30,.asg 2 31]) .ret))))
theorem bSv:bQ Tryz.prog 308=some (aTn,[.mv 0 2],32):=by kernel_rfl
def aTa (r:Bool):Exit→St→Prop:=bP [.mv 0 2] fun x _=>x=(fun y=>(vB y)) r
def bVj (r:Bool):Exit→St→Prop:=(cZ (wkK (avc Tryz.prog (.seq (.ops [.fa 21 9 1,.ld 22 1 false 21,.len 23 22,.bin 24 .eql 23 (.c (.d (.i .i64 0))),.mv 25 24,.g 25 false (.fa 26 9 1),.g 25 false (.ld 27 1 false 26),.g 25 false (.ia 28 6 27 (.c (.d (.i .i64 0)))),.g 25 false (.ld 29 6 true 28),.g 25 false (.call (some 30) 230 [29]),.pick 31 25 (.c (.d (.b true))) 30,.asg 2 31]) .ret) (aTa r))) (aTa r))
def aQx (r:Bool):Exit→St→Prop:=(dD 0 (bVj r))
def aBh (p0:aA) (x3:Int):St:=⟨[(1,(.ptr 1 0)),(3,(vI x3))],[(1,eF p0)]⟩
def aSg:AC:=(.seq (.ops [.box 1 111 0,.asg 2 (kB false)]) (.seq (.ops [.fa 5 8 1,.ld 6 1 false 5,.len 7 6,.asg 3 7]) (.seq (.ops [.fa 8 9 1,.ld 9 1 false 8,.len 10 9,.asg 4 10]) (.seq (.seq (.ops [.fa 11 0 1,.ld 12 1 false 11,.bin 13 .neq 12 (kI 2),.mv 14 13,.g 14 true (.fa 15 6 1),.g 14 true (.ld 16 1 false 15),.g 14 true (.bin 17 .neq 16 (.c (.d (.s (bs []))))),.g 14 true (.mv 18 17),.g 18 false (.fa 19 7 1),.g 18 false (.ld 20 1 false 19),.g 18 false (.bin 21 .neq 20 (.c (.d (.s (bs []))))),.g 14 true (.pick 22 18 (kB true) 21),.pick 23 14 22 (kB false),.mv 24 23,.g 24 false (.fa 25 0 1),.g 24 false (.ld 26 1 false 25),.g 24 false (.bin 27 .neq 26 (kI 1)),.g 24 false (.mv 28 27),.g 28 true (.fa 29 3 1),.g 28 true (.ld 30 3 true 29),.g 28 true (.bld 31 [dL,dL,eP] []),.g 28 true (.eqv 32 true [0,0,1] 30 31),.g 24 false (.pick 33 28 32 (kB false)),.pick 34 24 (kB true) 33]) (.cond 34 (.seq (.ops [.asg 2 (kB false)]) .ret) .skip)) (.seq (.seq (.ops [.fa 35 0 1,.ld 36 1 false 35,.bin 37 .neq 36 (kI 3),.mv 38 37,.g 38 true (.fa 39 0 1),.g 38 true (.ld 40 1 false 39),.g 38 true (.bin 41 .neq 40 (kI 4)),.pick 42 38 41 (kB false),.mv 43 42,.g 43 true (.fa 44 1 1),.g 43 true (.ld 45 1 false 44),.g 43 true (.bin 46 .neq 45 (kI 0)),.pick 47 43 46 (kB false),.mv 48 47,.g 48 false (.fa 49 2 1),.g 48 false (.ld 50 1 false 49),.g 48 false (.mv 51 50),.g 51 true (.fa 52 0 1),.g 51 true (.ld 53 1 false 52),.g 51 true (.call (some 54) 68 [53,(kI 5),(kI 8)]),.g 51 true (.not 55 54),.g 48 false (.pick 56 51 55 (kB false)),.pick 57 48 (kB true) 56]) (.cond 57 (.seq (.ops [.asg 2 (kB false)]) .ret) .skip)) (.seq (.seq (.ops [.fa 58 0 1,.ld 59 1 false 58]) (.block 0 (.seq (.ops [.bin 61 .eql 59 (kI 1),.asg 60 61]) (.cond 60 (.seq (.ops [.fa 62 3 1,.ld 63 3 true 62,.call (some 64) 360 [63],.mv 65 64,.g 65 true (.mv 66 3),.g 65 true (.mv 67 4),.g 65 true (.bin 68 .add 66 67),.g 65 true (.bin 69 .eql 68 (kI 0)),.pick 70 65 69 (kB false),.asg 2 70]) .ret) (.seq (.ops [.bin 72 .eql 59 (kI 2),.asg 71 72]) (.cond 71 (.seq (.ops [.fa 73 7 1,.ld 74 1 false 73,.call (some 75) 149 [74],.mv 76 75,.g 76 true (.fa 77 6 1),.g 76 true (.ld 78 1 false 77),.g 76 true (.call (some 79) 305 [78]),.pick 80 76 79 (kB false),.mv 81 80,.g 81 true (.mv 82 3),.g 81 true (.mv 83 4),.g 81 true (.bin 84 .add 82 83),.g 81 true (.bin 85 .eql 84 (kI 0)),.pick 86 81 85 (kB false),.asg 2 86]) .ret) (.seq (.ops [.bin 88 .eql 59 (kI 3),.asg 87 88]) (.cond 87 (.seq (.ops [.fa 89 1 1,.ld 90 1 false 89,.bin 91 .eql 90 (kI 15),.mv 92 91,.g 92 false (.fa 93 1 1),.g 92 false (.ld 94 1 false 93),.g 92 false (.bin 95 .eql 94 (kI 16)),.pick 96 92 (kB true) 95,.mv 97 96,.g 97 true (.mv 98 3),.g 97 true (.bin 99 .eql 98 (kI 1)),.pick 100 97 99 (kB false),.mv 101 100,.g 101 true (.mv 102 4),.g 101 true (.bin 103 .eql 102 (kI 0)),.pick 104 101 103 (kB false),.asg 2 104]) .ret) (.seq (.ops [.bin 106 .eql 59 (kI 4),.asg 105 106]) (.cond 105 (.seq (.ops [.fa 107 1 1,.ld 108 1 false 107,.call (some 109) 68 [108,(kI 1),(kI 14)],.mv 110 109,.g 110 true (.mv 111 3),.g 110 true (.bin 112 .eql 111 (kI 2)),.pick 113 110 112 (kB false),.mv 114 113,.g 114 true (.mv 115 4),.g 114 true (.bin 116 .eql 115 (kI 0)),.pick 117 114 116 (kB false),.asg 2 117]) .ret) (.seq (.ops [.bin 119 .eql 59 (kI 5),.asg 118 119]) (.cond 118 (.seq (.ops [.mv 120 3,.bin 121 .eql 120 (kI 1),.mv 122 121,.g 122 true (.mv 123 4),.g 122 true (.bin 124 .eql 123 (kI 0)),.pick 125 122 124 (kB false),.asg 2 125]) .ret) (.seq (.ops [.bin 127 .eql 59 (kI 6),.asg 126 127]) (.cond 126 (.seq (.ops [.mv 128 3,.bin 129 .eql 128 (kI 3),.mv 130 129,.g 130 true (.mv 131 4),.g 130 true (.bin 132 .eql 131 (kI 0)),.pick 133 130 132 (kB false),.asg 2 133]) .ret) (.seq (.ops [.bin 135 .eql 59 (kI 7),.asg 134 135]) (.cond 134 (.seq (.ops [.mv 136 3,.call (some 137) 68 [136,(kI 2),(kI 9)],.mv 138 137,.g 138 true (.mv 139 4),.g 138 true (.bin 140 .eql 139 (kI 0)),.pick 141 138 140 (kB false),.asg 2 141]) .ret) (.seq (.ops [.bin 143 .eql 59 (kI 8),.asg 142 143]) (.cond 142 (.seq (.ops [.mv 144 3,.bin 145 .eql 144 (kI 1),.mv 146 145,.g 146 true (.mv 147 4),.g 146 true (.bin 148 .eql 147 (kI 1)),.pick 149 146 148 (kB false),.asg 2 149]) .ret) (.seq (.ops [.bin 151 .eql 59 (kI 9),.asg 150 151]) (.cond 150 (.seq (.ops [.mv 152 3,.bin 153 .eql 152 (kI 0),.mv 154 153,.g 154 true (.mv 155 4),.g 154 true (.bin 156 .eql 155 (kI 1)),.pick 157 154 156 (kB false),.asg 2 157]) .ret) .skip)))))))))))))))))))) (.seq (.ops [.asg 2 (kB false)]) .ret)))))))
theorem bX8:bQ Tryz.prog 322=some (aSg,[.mv 0 2],158):=by kernel_rfl
def bXi (r:Bool):Exit→St→Prop:=bP [.mv 0 2] fun x _=>x=(fun y=>(vB y)) r
def aTw:AC:=(.seq (.ops [.box 1 82 0,.asg 2 (kB false)]) (.seq (.ops [.ld 3 3 true 1,.call (some 4) 188 [3],.mv 5 4,.g 5 true (.fa 6 0 1),.g 5 true (.ld 7 1 false 6),.g 5 true (.bin 8 .neq 7 (kI 1)),.g 5 true (.mv 9 8),.g 9 false (.fa 10 1 1),.g 9 false (.ld 11 1 false 10),.g 9 false (.bin 12 .geq 11 (kI 0)),.g 5 true (.pick 13 9 (kB true) 12),.pick 14 5 13 (kB false),.mv 15 14,.g 15 true (.fa 16 2 1),.g 15 true (.ld 17 1 false 16),.g 15 true (.lns 18 17),.g 15 true (.bin 19 .leq 18 (kI 40)),.pick 20 15 19 (kB false),.asg 2 20]) .ret))
theorem bQj:bQ Tryz.prog 360=some (aTw,[.mv 0 2],21):=by kernel_rfl
def bO2 (r:Bool):Exit→St→Prop:=bP [.mv 0 2] fun x _=>x=(fun y=>(vB y)) r
def aOc:AC:=(.seq (.ops [.box 1 82 0,.asg 2 (kB false)]) (.seq (.seq (.ops [.fa 3 0 1,.ld 4 1 false 3]) (.block 0 (.seq (.ops [.bin 6 .eql 4 (kI 0),.asg 5 6]) (.cond 5 (.seq (.ops [.fa 7 1 1,.ld 8 1 false 7,.bin 9 .eql 8 (kI 0),.mv 10 9,.g 10 true (.fa 11 2 1),.g 10 true (.ld 12 1 false 11),.g 10 true (.bin 13 .eql 12 (.c (.d (.s (bs []))))),.pick 14 10 13 (kB false),.asg 2 14]) .ret) (.seq (.ops [.bin 16 .eql 4 (kI 1),.asg 15 16]) (.cond 15 (.seq (.ops [.fa 17 2 1,.ld 18 1 false 17,.bin 19 .eql 18 (.c (.d (.s (bs [])))),.asg 2 19]) .ret) (.seq (.ops [.bin 21 .eql 4 (kI 2),.asg 20 21]) (.cond 20 (.seq (.ops [.fa 22 1 1,.ld 23 1 false 22,.bin 24 .eql 23 (kI 0),.mv 25 24,.g 25 true (.fa 26 2 1),.g 25 true (.ld 27 1 false 26),.g 25 true (.lns 28 27),.g 25 true (.bin 29 .leq 28 (kI 200)),.pick 30 25 29 (kB false),.asg 2 30]) .ret) (.seq (.ops [.bin 32 .eql 4 (kI 3),.asg 31 32]) (.cond 31 (.seq (.ops [.fa 33 1 1,.ld 34 1 false 33,.call (some 35) 68 [34,(kI 0),(kI 1)],.mv 36 35,.g 36 true (.fa 37 2 1),.g 36 true (.ld 38 1 false 37),.g 36 true (.bin 39 .eql 38 (.c (.d (.s (bs []))))),.pick 40 36 39 (kB false),.asg 2 40]) .ret) .skip)))))))))) (.seq (.ops [.asg 2 (kB false)]) .ret)))
theorem bOz:bQ Tryz.prog 188=some (aOc,[.mv 0 2],41):=by kernel_rfl
def bSe (r:Bool):Exit→St→Prop:=bP [.mv 0 2] fun x _=>x=(fun y=>(vB y)) r
def aNi:AC:=(.seq (.ops [.asg 2 (kB false)]) (.seq (.ops [.mv 3 0,.bin 4 .eql 3 (.c (.d (.s (bs [])))),.mv 5 4,.g 5 false (.mv 6 0),.g 5 false (.call (some 7) 149 [6]),.pick 8 5 (kB true) 7,.asg 2 8]) .ret))
theorem bKq:bQ Tryz.prog 305=some (aNi,[.mv 0 2],9):=by kernel_rfl
def bSn (r:Bool):Exit→St→Prop:=bP [.mv 0 2] fun x _=>x=(fun y=>(vB y)) r
def aGe:AC:=(.loop (.seq (.seq (.ops [.mv 8 5,.mv 9 4,.len 10 9,.bin 11 .lss 8 10]) (.cond 11 .skip (.exit 0))) (.seq (.block 1 (.ops [.mv 14 3,.mv 15 4,.mv 16 5,.ia 17 10 15 16,.ld 18 10 true 17,.call (some 19) 310 [18],.bin 20 .add 14 19,.asg 3 20])) (.ops [.mv 12 5,.bin 13 .add 12 (kI 1),.asg 5 13]))))
def aRg:AC:=(.seq (.ops [.box 1 43 0,.asg 2 (kI 0)]) (.seq (.ops [.asg 3 (kI 0)]) (.seq (.ops [.ld 6 6 true 1,.call (some 7) 307 [6],.asg 4 7]) (.seq (.seq (.ops [.asg 5 (kI 0)]) (.block 0 aGe)) (.seq (.ops [.mv 21 3,.asg 2 21]) .ret)))))
theorem bY3:bQ Tryz.prog 232=some (aRg,[.mv 0 2],22):=by kernel_rfl
def aPp (r:Int):Exit→St→Prop:=bP [.mv 0 2] fun x _=>x=(fun y=>(vI y)) r
def bMx (r:Int):Exit→St→Prop:=(cZ (wkK (avc Tryz.prog (.seq (.ops [.mv 21 3,.asg 2 21]) .ret) (aPp r))) (aPp r))
def aWy (r:Int):Exit→St→Prop:=(dD 0 (bMx r))
def aBa (y1:(List aA)) (x3:Int) (x5:Int):St:=⟨[(3,(vI x3)),(4,(.osl 4 111 10 (y1.map aY))),(5,(vI x5))],[]⟩
def aIi:AC:=(.loop (.seq (.seq (.ops [.mv 6 4,.fa 7 8 1,.ld 8 1 false 7,.len 9 8,.bin 10 .lss 6 9]) (.cond 10 .skip (.exit 0))) (.seq (.block 1 (.ops [.mv 13 3,.fa 14 8 1,.ld 15 1 false 14,.mv 16 4,.ia 17 10 15 16,.ld 18 10 true 17,.call (some 19) 310 [18],.bin 20 .add 13 19,.asg 3 20])) (.ops [.mv 11 4,.bin 12 .add 11 (kI 1),.asg 4 12]))))
def Z6:AC:=(.loop (.seq (.seq (.ops [.mv 21 5,.fa 22 9 1,.ld 23 1 false 22,.len 24 23,.bin 25 .lss 21 24]) (.cond 25 .skip (.exit 2))) (.seq (.block 3 (.ops [.mv 28 3,.fa 29 9 1,.ld 30 1 false 29,.mv 31 5,.ia 32 6 30 31,.ld 33 6 true 32,.call (some 34) 232 [33],.bin 35 .add 28 34,.asg 3 35])) (.ops [.mv 26 5,.bin 27 .add 26 (kI 1),.asg 5 27]))))
def aP5:AC:=(.seq (.ops [.box 1 111 0,.asg 2 (kI 0)]) (.seq (.ops [.asg 3 (kI 1)]) (.seq (.seq (.ops [.asg 4 (kI 0)]) (.block 0 aIi)) (.seq (.seq (.ops [.asg 5 (kI 0)]) (.block 2 Z6)) (.seq (.ops [.mv 36 3,.asg 2 36]) .ret)))))
theorem bWc:bQ Tryz.prog 310=some (aP5,[.mv 0 2],37):=by kernel_rfl
def aDu (r:Int):Exit→St→Prop:=bP [.mv 0 2] fun x _=>x=(fun y=>(vI y)) r
def bYi (r:Int):Exit→St→Prop:=(cZ (wkK (avc Tryz.prog (.seq (.seq (.ops [.asg 5 (.c (.d (.i .i64 0)))]) (.block 2 Z6)) (.seq (.ops [.mv 36 3,.asg 2 36]) .ret)) (aDu r))) (aDu r))
def aY2 (r:Int):Exit→St→Prop:=(dD 0 (bYi r))
def bN4 (r:Int):Exit→St→Prop:=(cZ (wkK (avc Tryz.prog (.seq (.ops [.mv 36 3,.asg 2 36]) .ret) (aDu r))) (aDu r))
def aOf (r:Int):Exit→St→Prop:=(dD 2 (bN4 r))
def aAc (p0:aA) (x3:Int) (x4:Int):St:=⟨[(1,(.ptr 1 0)),(3,(vI x3)),(4,(vI x4))],[(1,eF p0)]⟩
def aCl (p0:aA) (dW:Int) (x5:Int):St:=⟨[(1,(.ptr 1 0)),(3,(vI dW)),(5,(vI x5))],[(1,eF p0)]⟩
def aRb:AC:=(.seq (.ops [.box 2 43 0,.box 3 43 1,.asg 4 (kB false)]) (.seq (.seq (.ops [.fa 5 0 2,.ld 6 1 false 5,.fa 7 0 3,.ld 8 1 false 7,.eqb 9 true 6 8]) (.cond 9 (.seq (.ops [.asg 4 (kB false)]) .ret) .skip)) (.seq (.seq (.ops [.fa 10 1 2,.ld 11 1 false 10,.fa 12 1 3,.ld 13 1 false 12,.call (some 14) 58 [11,13],.not 15 14]) (.cond 15 (.seq (.ops [.asg 4 (kB false)]) .ret) .skip)) (.seq (.seq (.ops [.fa 16 2 2,.ld 17 1 false 16,.fa 18 2 3,.ld 19 1 false 18,.call (some 20) 59 [17,19],.not 21 20]) (.cond 21 (.seq (.ops [.asg 4 (kB false)]) .ret) .skip)) (.seq (.seq (.ops [.fa 22 3 2,.ld 23 1 false 22,.fa 24 3 3,.ld 25 1 false 24,.call (some 26) 60 [23,25],.not 27 26]) (.cond 27 (.seq (.ops [.asg 4 (kB false)]) .ret) .skip)) (.seq (.seq (.ops [.fa 28 4 2,.ld 29 1 false 28,.fa 30 4 3,.ld 31 1 false 30,.call (some 32) 61 [29,31],.not 33 32]) (.cond 33 (.seq (.ops [.asg 4 (kB false)]) .ret) .skip)) (.seq (.seq (.ops [.fa 34 5 2,.ld 35 1 false 34,.fa 36 5 3,.ld 37 1 false 36,.bin 38 .neq 35 37]) (.cond 38 (.seq (.ops [.asg 4 (kB false)]) .ret) .skip)) (.seq (.ops [.asg 4 (kB true)]) .ret))))))))
theorem bNs:bQ Tryz.prog 15=some (aRb,[.mv 0 4],39):=by kernel_rfl
def bPm (r:Bool):Exit→St→Prop:=bP [.mv 0 4] fun x _=>x=(fun y=>(vB y)) r
def aEm:AC:=(.loop (.seq (.seq (.ops [.mv 11 5,.mv 12 0,.len 13 12,.bin 14 .lss 11 13]) (.cond 14 .skip (.exit 0))) (.seq (.block 1 (.seq (.dops [[],[],[0,1],[2],[],[],[4,5],[6],[3,7],[8]] [.mv 17 0,.mv 18 5,.ia 19 10 17 18,.ld 20 10 true 19,.mv 21 1,.mv 22 5,.ia 23 10 21 22,.ld 24 10 true 23,.call (some 25) 42 [20,24],.not 26 25]) (.cond 26 (.seq (.ops [.asg 4 (kB false)]) .ret) .skip))) (.ops [.mv 15 5,.bin 16 .add 15 (kI 1),.asg 5 16]))))
def aNs:AC:=(.seq (.ops [.asg 4 (kB false)]) (.seq (.seq (.ops [.mv 6 0,.len 7 6,.mv 8 1,.len 9 8,.bin 10 .neq 7 9]) (.cond 10 (.seq (.ops [.asg 4 (kB false)]) .ret) .skip)) (.seq (.seq (.ops [.asg 5 (kI 0)]) (.block 0 aEm)) (.seq (.ops [.asg 4 (kB true)]) .ret))))
theorem bWe:bQ Tryz.prog 60=some (aNs,[.mv 0 4],27):=by kernel_rfl
def aT9 (r:Bool):Exit→St→Prop:=bP [.mv 0 4] fun x _=>x=(fun y=>(vB y)) r
def bTg (r:Bool):Exit→St→Prop:=(cZ (wkK (avc Tryz.prog (.seq (.ops [.asg 4 (.c (.d (.b true)))]) .ret) (aT9 r))) (aT9 r))
def aOj (r:Bool):Exit→St→Prop:=(dD 0 (bTg r))
def aDq (p0:(List aA)) (p1:(List aA)) (x5:Int):St:=⟨[(0,(aQ p0)),(1,(aQ p1)),(5,(vI x5))],[]⟩
def aSz:AC:=(.seq (.ops [.box 2 111 0,.box 3 111 1,.asg 4 (kB false)]) (.seq (.seq (.ops [.fa 5 0 2,.ld 6 1 false 5,.fa 7 0 3,.ld 8 1 false 7,.bin 9 .neq 6 8]) (.cond 9 (.seq (.ops [.asg 4 (kB false)]) .ret) .skip)) (.seq (.seq (.ops [.fa 10 1 2,.ld 11 1 false 10,.fa 12 1 3,.ld 13 1 false 12,.bin 14 .neq 11 13]) (.cond 14 (.seq (.ops [.asg 4 (kB false)]) .ret) .skip)) (.seq (.seq (.ops [.fa 15 2 2,.ld 16 1 false 15,.fa 17 2 3,.ld 18 1 false 17,.eqb 19 true 16 18]) (.cond 19 (.seq (.ops [.asg 4 (kB false)]) .ret) .skip)) (.seq (.seq (.ops [.fa 20 3 2,.ld 21 3 true 20,.fa 22 3 3,.ld 23 3 true 22,.call (some 24) 31 [21,23],.not 25 24]) (.cond 25 (.seq (.ops [.asg 4 (kB false)]) .ret) .skip)) (.seq (.seq (.ops [.fa 26 6 2,.ld 27 1 false 26,.fa 28 6 3,.ld 29 1 false 28,.bin 30 .neq 27 29]) (.cond 30 (.seq (.ops [.asg 4 (kB false)]) .ret) .skip)) (.seq (.seq (.ops [.fa 31 7 2,.ld 32 1 false 31,.fa 33 7 3,.ld 34 1 false 33,.bin 35 .neq 32 34]) (.cond 35 (.seq (.ops [.asg 4 (kB false)]) .ret) .skip)) (.seq (.seq (.ops [.fa 36 8 2,.ld 37 1 false 36,.fa 38 8 3,.ld 39 1 false 38,.call (some 40) 60 [37,39],.not 41 40]) (.cond 41 (.seq (.ops [.asg 4 (kB false)]) .ret) .skip)) (.seq (.seq (.ops [.fa 42 9 2,.ld 43 1 false 42,.fa 44 9 3,.ld 45 1 false 44,.call (some 46) 126 [43,45],.not 47 46]) (.cond 47 (.seq (.ops [.asg 4 (kB false)]) .ret) .skip)) (.seq (.ops [.asg 4 (kB true)]) .ret))))))))))
theorem bRc:bQ Tryz.prog 42=some (aSz,[.mv 0 4],48):=by kernel_rfl
def bY1 (r:Bool):Exit→St→Prop:=bP [.mv 0 4] fun x _=>x=(fun y=>(vB y)) r
def aH7:AC:=(.loop (.seq (.seq (.ops [.mv 11 5,.mv 12 0,.len 13 12,.bin 14 .lss 11 13]) (.cond 14 .skip (.exit 0))) (.seq (.block 1 (.seq (.dops [[],[],[0,1],[2],[],[],[4,5],[6],[3,7],[8]] [.mv 17 0,.mv 18 5,.ia 19 6 17 18,.ld 20 6 true 19,.mv 21 1,.mv 22 5,.ia 23 6 21 22,.ld 24 6 true 23,.call (some 25) 15 [20,24],.not 26 25]) (.cond 26 (.seq (.ops [.asg 4 (kB false)]) .ret) .skip))) (.ops [.mv 15 5,.bin 16 .add 15 (kI 1),.asg 5 16]))))
def aV2:AC:=(.seq (.ops [.asg 4 (kB false)]) (.seq (.seq (.ops [.mv 6 0,.len 7 6,.mv 8 1,.len 9 8,.bin 10 .neq 7 9]) (.cond 10 (.seq (.ops [.asg 4 (kB false)]) .ret) .skip)) (.seq (.seq (.ops [.asg 5 (kI 0)]) (.block 0 aH7)) (.seq (.ops [.asg 4 (kB true)]) .ret))))
theorem bN8:bQ Tryz.prog 126=some (aV2,[.mv 0 4],27):=by kernel_rfl
def aW7 (r:Bool):Exit→St→Prop:=bP [.mv 0 4] fun x _=>x=(fun y=>(vB y)) r
def bJh (r:Bool):Exit→St→Prop:=(cZ (wkK (avc Tryz.prog (.seq (.ops [.asg 4 (.c (.d (.b true)))]) .ret) (aW7 r))) (aW7 r))
def aSu (r:Bool):Exit→St→Prop:=(dD 0 (bJh r))
def Z5 (p0:(List aJ)) (p1:(List aJ)) (x5:Int):St:=⟨[(0,(bV p0)),(1,(bV p1)),(5,(vI x5))],[]⟩
def aTo:AC:=(.seq (.ops [.box 2 82 0,.box 3 82 1,.asg 4 (kB false)]) (.seq (.seq (.ops [.fa 5 0 2,.ld 6 1 false 5,.fa 7 0 3,.ld 8 1 false 7,.bin 9 .neq 6 8]) (.cond 9 (.seq (.ops [.asg 4 (kB false)]) .ret) .skip)) (.seq (.seq (.ops [.fa 10 1 2,.ld 11 1 false 10,.fa 12 1 3,.ld 13 1 false 12,.bin 14 .neq 11 13]) (.cond 14 (.seq (.ops [.asg 4 (kB false)]) .ret) .skip)) (.seq (.seq (.ops [.fa 15 2 2,.ld 16 1 false 15,.fa 17 2 3,.ld 18 1 false 17,.bin 19 .neq 16 18]) (.cond 19 (.seq (.ops [.asg 4 (kB false)]) .ret) .skip)) (.seq (.ops [.asg 4 (kB true)]) .ret)))))
theorem bKy:bQ Tryz.prog 31=some (aTo,[.mv 0 4],20):=by kernel_rfl
def bJ0 (r:Bool):Exit→St→Prop:=bP [.mv 0 4] fun x _=>x=(fun y=>(vB y)) r
def aEz:AC:=(.loop (.seq (.seq (.ops [.mv 11 5,.mv 12 0,.len 13 12,.bin 14 .lss 11 13]) (.cond 14 .skip (.exit 0))) (.seq (.block 1 (.seq (.dops [[],[],[0,1],[2],[],[],[4,5],[6],[3,7],[8]] [.mv 17 0,.mv 18 5,.ia 19 3 17 18,.ld 20 3 true 19,.mv 21 1,.mv 22 5,.ia 23 3 21 22,.ld 24 3 true 23,.call (some 25) 142 [20,24],.not 26 25]) (.cond 26 (.seq (.ops [.asg 4 (kB false)]) .ret) .skip))) (.ops [.mv 15 5,.bin 16 .add 15 (kI 1),.asg 5 16]))))
def aWf:AC:=(.seq (.ops [.asg 4 (kB false)]) (.seq (.seq (.ops [.mv 6 0,.len 7 6,.mv 8 1,.len 9 8,.bin 10 .neq 7 9]) (.cond 10 (.seq (.ops [.asg 4 (kB false)]) .ret) .skip)) (.seq (.seq (.ops [.asg 5 (kI 0)]) (.block 0 aEz)) (.seq (.ops [.asg 4 (kB true)]) .ret))))
theorem bL3:bQ Tryz.prog 59=some (aWf,[.mv 0 4],27):=by kernel_rfl
def aP9 (r:Bool):Exit→St→Prop:=bP [.mv 0 4] fun x _=>x=(fun y=>(vB y)) r
def bJp (r:Bool):Exit→St→Prop:=(cZ (wkK (avc Tryz.prog (.seq (.ops [.asg 4 (.c (.d (.b true)))]) .ret) (aP9 r))) (aP9 r))
def aO3 (r:Bool):Exit→St→Prop:=(dD 0 (bJp r))
def aAp (p0:(List bD)) (p1:(List bD)) (x5:Int):St:=⟨[(0,(bC p0)),(1,(bC p1)),(5,(vI x5))],[]⟩
def aXn:AC:=(.seq (.ops [.box 2 227 0,.box 3 227 1,.asg 4 (kB false)]) (.seq (.seq (.ops [.fa 5 0 2,.ld 6 1 false 5,.fa 7 0 3,.ld 8 1 false 7,.bin 9 .neq 6 8]) (.cond 9 (.seq (.ops [.asg 4 (kB false)]) .ret) .skip)) (.seq (.seq (.ops [.fa 10 1 2,.ld 11 1 false 10,.fa 12 1 3,.ld 13 1 false 12,.bin 14 .neq 11 13]) (.cond 14 (.seq (.ops [.asg 4 (kB false)]) .ret) .skip)) (.seq (.seq (.ops [.fa 15 2 2,.ld 16 1 false 15,.fa 17 2 3,.ld 18 1 false 17,.call (some 19) 60 [16,18],.not 20 19]) (.cond 20 (.seq (.ops [.asg 4 (kB false)]) .ret) .skip)) (.seq (.ops [.asg 4 (kB true)]) .ret)))))
theorem bWz:bQ Tryz.prog 142=some (aXn,[.mv 0 4],21):=by kernel_rfl
def bVm (r:Bool):Exit→St→Prop:=bP [.mv 0 4] fun x _=>x=(fun y=>(vB y)) r
def aE1:AC:=(.loop (.seq (.seq (.ops [.mv 11 5,.mv 12 0,.len 13 12,.bin 14 .lss 11 13]) (.cond 14 .skip (.exit 0))) (.seq (.block 1 (.seq (.dops [[],[],[0,1],[2],[],[],[4,5],[6],[3,7],[8]] [.mv 17 0,.mv 18 5,.ia 19 11 17 18,.ld 20 11 true 19,.mv 21 1,.mv 22 5,.ia 23 11 21 22,.ld 24 11 true 23,.call (some 25) 143 [20,24],.not 26 25]) (.cond 26 (.seq (.ops [.asg 4 (kB false)]) .ret) .skip))) (.ops [.mv 15 5,.bin 16 .add 15 (kI 1),.asg 5 16]))))
def aRy:AC:=(.seq (.ops [.asg 4 (kB false)]) (.seq (.seq (.ops [.mv 6 0,.len 7 6,.mv 8 1,.len 9 8,.bin 10 .neq 7 9]) (.cond 10 (.seq (.ops [.asg 4 (kB false)]) .ret) .skip)) (.seq (.seq (.ops [.asg 5 (kI 0)]) (.block 0 aE1)) (.seq (.ops [.asg 4 (kB true)]) .ret))))
theorem bJa:bQ Tryz.prog 61=some (aRy,[.mv 0 4],27):=by kernel_rfl
def aSi (r:Bool):Exit→St→Prop:=bP [.mv 0 4] fun x _=>x=(fun y=>(vB y)) r
def bPv (r:Bool):Exit→St→Prop:=(cZ (wkK (avc Tryz.prog (.seq (.ops [.asg 4 (.c (.d (.b true)))]) .ret) (aSi r))) (aSi r))
def aXa (r:Bool):Exit→St→Prop:=(dD 0 (bPv r))
def M3 (p0:(List bX)) (p1:(List bX)) (x5:Int):St:=⟨[(0,(cK p0)),(1,(cK p1)),(5,(vI x5))],[]⟩
def aYv:AC:=(.seq (.ops [.box 2 230 0,.box 3 230 1,.asg 4 (kB false)]) (.seq (.seq (.ops [.fa 5 0 2,.ld 6 10 true 5,.fa 7 0 3,.ld 8 10 true 7,.call (some 9) 42 [6,8],.not 10 9]) (.cond 10 (.seq (.ops [.asg 4 (kB false)]) .ret) .skip)) (.seq (.seq (.ops [.fa 11 10 2,.ld 12 1 false 11,.fa 13 10 3,.ld 14 1 false 13,.eqb 15 true 12 14]) (.cond 15 (.seq (.ops [.asg 4 (kB false)]) .ret) .skip)) (.seq (.ops [.asg 4 (kB true)]) .ret))))
theorem bIg:bQ Tryz.prog 143=some (aYv,[.mv 0 4],16):=by kernel_rfl
def bUr (r:Bool):Exit→St→Prop:=bP [.mv 0 4] fun x _=>x=(fun y=>(vB y)) r
def aIz:AC:=(.loop (.seq (.seq (.ops [.mv 11 5,.mv 12 0,.len 13 12,.bin 14 .lss 11 13]) (.cond 14 .skip (.exit 0))) (.seq (.block 1 (.seq (.dops [[],[],[0,1],[2],[],[],[4,5],[6],[3,7],[8]] [.mv 17 0,.mv 18 5,.ia 19 13 17 18,.ld 20 13 true 19,.mv 21 1,.mv 22 5,.ia 23 13 21 22,.ld 24 13 true 23,.call (some 25) 141 [20,24],.not 26 25]) (.cond 26 (.seq (.ops [.asg 4 (kB false)]) .ret) .skip))) (.ops [.mv 15 5,.bin 16 .add 15 (kI 1),.asg 5 16]))))
def aUe:AC:=(.seq (.ops [.asg 4 (kB false)]) (.seq (.seq (.ops [.mv 6 0,.len 7 6,.mv 8 1,.len 9 8,.bin 10 .neq 7 9]) (.cond 10 (.seq (.ops [.asg 4 (kB false)]) .ret) .skip)) (.seq (.seq (.ops [.asg 5 (kI 0)]) (.block 0 aIz)) (.seq (.ops [.asg 4 (kB true)]) .ret))))
theorem bQa:bQ Tryz.prog 58=some (aUe,[.mv 0 4],27):=by kernel_rfl
def aWu (r:Bool):Exit→St→Prop:=bP [.mv 0 4] fun x _=>x=(fun y=>(vB y)) r
def bJw (r:Bool):Exit→St→Prop:=(cZ (wkK (avc Tryz.prog (.seq (.ops [.asg 4 (.c (.d (.b true)))]) .ret) (aWu r))) (aWu r))
def aXs (r:Bool):Exit→St→Prop:=(dD 0 (bJw r))
def aCd (p0:(List bR)) (p1:(List bR)) (x5:Int):St:=⟨[(0,(bS p0)),(1,(bS p1)),(5,(vI x5))],[]⟩
def aP3:AC:=(.seq (.ops [.box 2 224 0,.box 3 224 1,.asg 4 (kB false)]) (.seq (.seq (.ops [.fa 5 0 2,.ld 6 1 false 5,.fa 7 0 3,.ld 8 1 false 7,.eqb 9 true 6 8]) (.cond 9 (.seq (.ops [.asg 4 (kB false)]) .ret) .skip)) (.seq (.seq (.ops [.fa 10 1 2,.ld 11 1 false 10,.fa 12 1 3,.ld 13 1 false 12,.bin 14 .neq 11 13]) (.cond 14 (.seq (.ops [.asg 4 (kB false)]) .ret) .skip)) (.seq (.seq (.ops [.fa 15 2 2,.ld 16 10 true 15,.fa 17 2 3,.ld 18 10 true 17,.call (some 19) 42 [16,18],.not 20 19]) (.cond 20 (.seq (.ops [.asg 4 (kB false)]) .ret) .skip)) (.seq (.seq (.ops [.fa 21 12 2,.ld 22 1 false 21,.fa 23 12 3,.ld 24 1 false 23,.bin 25 .neq 22 24]) (.cond 25 (.seq (.ops [.asg 4 (kB false)]) .ret) .skip)) (.seq (.ops [.asg 4 (kB true)]) .ret))))))
theorem bT7:bQ Tryz.prog 141=some (aP3,[.mv 0 4],26):=by kernel_rfl
def bQz (r:Bool):Exit→St→Prop:=bP [.mv 0 4] fun x _=>x=(fun y=>(vB y)) r
def aT3:AC:=(.seq (.ops [.box 2 36 0,.box 3 36 1,.asg 4 (kB false)]) (.seq (.seq (.ops [.fa 5 0 2,.ld 6 1 false 5,.fa 7 0 3,.ld 8 1 false 7,.call (some 9) 57 [6,8],.not 10 9]) (.cond 10 (.seq (.ops [.asg 4 (kB false)]) .ret) .skip)) (.seq (.ops [.asg 4 (kB true)]) .ret)))
theorem bJv:bQ Tryz.prog 14=some (aT3,[.mv 0 4],11):=by kernel_rfl
def bQy (r:Bool):Exit→St→Prop:=bP [.mv 0 4] fun x _=>x=(fun y=>(vB y)) r
def aHo:AC:=(.loop (.seq (.seq (.ops [.mv 11 5,.mv 12 0,.len 13 12,.bin 14 .lss 11 13]) (.cond 14 .skip (.exit 0))) (.seq (.block 1 (.seq (.dops [[],[],[0,1],[2],[],[],[4,5],[6],[3,7],[8]] [.mv 17 0,.mv 18 5,.ia 19 2 17 18,.ld 20 2 true 19,.mv 21 1,.mv 22 5,.ia 23 2 21 22,.ld 24 2 true 23,.call (some 25) 140 [20,24],.not 26 25]) (.cond 26 (.seq (.ops [.asg 4 (kB false)]) .ret) .skip))) (.ops [.mv 15 5,.bin 16 .add 15 (kI 1),.asg 5 16]))))
def aU1:AC:=(.seq (.ops [.asg 4 (kB false)]) (.seq (.seq (.ops [.mv 6 0,.len 7 6,.mv 8 1,.len 9 8,.bin 10 .neq 7 9]) (.cond 10 (.seq (.ops [.asg 4 (kB false)]) .ret) .skip)) (.seq (.seq (.ops [.asg 5 (kI 0)]) (.block 0 aHo)) (.seq (.ops [.asg 4 (kB true)]) .ret))))
theorem bMf:bQ Tryz.prog 57=some (aU1,[.mv 0 4],27):=by kernel_rfl
def aOl (r:Bool):Exit→St→Prop:=bP [.mv 0 4] fun x _=>x=(fun y=>(vB y)) r
def bRh (r:Bool):Exit→St→Prop:=(cZ (wkK (avc Tryz.prog (.seq (.ops [.asg 4 (.c (.d (.b true)))]) .ret) (aOl r))) (aOl r))
def aRq (r:Bool):Exit→St→Prop:=(dD 0 (bRh r))
def X5 (p0:(List bO)) (p1:(List bO)) (x5:Int):St:=⟨[(0,(bG p0)),(1,(bG p1)),(5,(vI x5))],[]⟩
def aYx:AC:=(.seq (.ops [.box 2 150 0,.box 3 150 1,.asg 4 (kB false)]) (.seq (.seq (.ops [.fa 5 0 2,.ld 6 1 false 5,.fa 7 0 3,.ld 8 1 false 7,.bin 9 .neq 6 8]) (.cond 9 (.seq (.ops [.asg 4 (kB false)]) .ret) .skip)) (.seq (.seq (.ops [.fa 10 1 2,.ld 11 1 false 10,.fa 12 1 3,.ld 13 1 false 12,.call (some 14) 245 [11,13],.not 15 14]) (.cond 15 (.seq (.ops [.asg 4 (kB false)]) .ret) .skip)) (.seq (.ops [.asg 4 (kB true)]) .ret))))
theorem bPc:bQ Tryz.prog 140=some (aYx,[.mv 0 4],16):=by kernel_rfl
def bWl (r:Bool):Exit→St→Prop:=bP [.mv 0 4] fun x _=>x=(fun y=>(vB y)) r
def aHg:AC:=(.loop (.seq (.seq (.ops [.mv 11 5,.mv 12 0,.len 13 12,.bin 14 .lss 11 13]) (.cond 14 .skip (.exit 0))) (.seq (.block 1 (.seq (.dops [[],[],[0,1],[2],[],[],[4,5],[6],[3,7],[8]] [.mv 17 0,.mv 18 5,.ia 19 2 17 18,.ld 20 2 true 19,.mv 21 1,.mv 22 5,.ia 23 2 21 22,.ld 24 2 true 23,.call (some 25) 320 [20,24],.not 26 25]) (.cond 26 (.seq (.ops [.asg 4 (kB false)]) .ret) .skip))) (.ops [.mv 15 5,.bin 16 .add 15 (kI 1),.asg 5 16]))))
def aRw:AC:=(.seq (.ops [.asg 4 (kB false)]) (.seq (.seq (.ops [.mv 6 0,.len 7 6,.mv 8 1,.len 9 8,.bin 10 .neq 7 9]) (.cond 10 (.seq (.ops [.asg 4 (kB false)]) .ret) .skip)) (.seq (.seq (.ops [.asg 5 (kI 0)]) (.block 0 aHg)) (.seq (.ops [.asg 4 (kB true)]) .ret))))
theorem bLt:bQ Tryz.prog 245=some (aRw,[.mv 0 4],27):=by kernel_rfl
def aSk (r:Bool):Exit→St→Prop:=bP [.mv 0 4] fun x _=>x=(fun y=>(vB y)) r
def bNy (r:Bool):Exit→St→Prop:=(cZ (wkK (avc Tryz.prog (.seq (.ops [.asg 4 (.c (.d (.b true)))]) .ret) (aSk r))) (aSk r))
def aQ7 (r:Bool):Exit→St→Prop:=(dD 0 (bNy r))
def aB3 (p0:(List eG)) (p1:(List eG)) (x5:Int):St:=⟨[(0,(eD p0)),(1,(eD p1)),(5,(vI x5))],[]⟩
def aPq:AC:=(.seq (.ops [.box 2 249 0,.box 3 249 1,.asg 4 (kB false)]) (.seq (.seq (.ops [.fa 5 0 2,.ld 6 1 false 5,.fa 7 0 3,.ld 8 1 false 7,.bin 9 .neq 6 8]) (.cond 9 (.seq (.ops [.asg 4 (kB false)]) .ret) .skip)) (.seq (.seq (.ops [.fa 10 1 2,.ld 11 1 false 10,.fa 12 1 3,.ld 13 1 false 12,.bin 14 .neq 11 13]) (.cond 14 (.seq (.ops [.asg 4 (kB false)]) .ret) .skip)) (.seq (.ops [.asg 4 (kB true)]) .ret))))
theorem bPf:bQ Tryz.prog 320=some (aPq,[.mv 0 4],15):=by kernel_rfl
def bGf (r:Bool):Exit→St→Prop:=bP [.mv 0 4] fun x _=>x=(fun y=>(vB y)) r
def aYb:AC:=(.seq (.ops [.box 2 24 0,.asg 4 (kI 0)]) (.seq (.ops [.fa 5 0 2,.ld 6 1 false 5,.mv 7 1,.call (some 8) 43 [6,7],.asg 1 8]) (.seq (.seq (.ops [.mv 9 1,.bin 10 .lss 9 (kI 0)]) (.cond 10 (.seq (.ops [.asg 4 (kI (-1))]) .ret) .skip)) (.seq (.ops [.mv 11 1,.asg 4 11]) .ret))))
theorem bWr:bQ Tryz.prog 8=some (aYb,[.mv 0 4],12):=by kernel_rfl
def bPo (r:Int):Exit→St→Prop:=bP [.mv 0 4] fun x _=>x=(fun y=>(vI y)) r
def aF2:AC:=(.loop (.seq (.seq (.ops [.mv 12 5,.mv 13 0,.len 14 13,.bin 15 .lss 12 14]) (.cond 15 .skip (.exit 0))) (.seq (.block 1 (.seq (.ops [.mv 18 0,.mv 19 5,.ia 20 2 18 19,.ld 21 2 true 20,.mv 22 1,.call (some 23) 127 [21,22],.asg 1 23]) (.seq (.ops [.mv 24 1,.bin 25 .lss 24 (kI 0)]) (.cond 25 (.seq (.ops [.asg 4 (kI (-1))]) .ret) .skip)))) (.ops [.mv 16 5,.bin 17 .add 16 (kI 1),.asg 5 17]))))
def aQh:AC:=(.seq (.ops [.asg 4 (kI 0)]) (.seq (.ops [.mv 6 1,.mv 7 0,.len 8 7,.bin 9 .sub 6 8,.asg 1 9]) (.seq (.seq (.ops [.mv 10 1,.bin 11 .lss 10 (kI 0)]) (.cond 11 (.seq (.ops [.asg 4 (kI (-1))]) .ret) .skip)) (.seq (.seq (.ops [.asg 5 (kI 0)]) (.block 0 aF2)) (.seq (.ops [.mv 26 1,.asg 4 26]) .ret)))))
theorem bOd:bQ Tryz.prog 43=some (aQh,[.mv 0 4],27):=by kernel_rfl
def aYd (r:Int):Exit→St→Prop:=bP [.mv 0 4] fun x _=>x=(fun y=>(vI y)) r
def bNo (r:Int):Exit→St→Prop:=(cZ (wkK (avc Tryz.prog (.seq (.ops [.mv 26 1,.asg 4 26]) .ret) (aYd r))) (aYd r))
def aOy (r:Int):Exit→St→Prop:=(dD 0 (bNo r))
def aAt (p0:(List bO)) (x1:Int) (x5:Int):St:=⟨[(0,(bG p0)),(1,(vI x1)),(5,(vI x5))],[]⟩
def aSx:AC:=(.seq (.ops [.box 2 210 0,.asg 4 (kI 0)]) (.seq (.ops [.mv 5 1,.fa 6 0 2,.ld 7 1 false 6,.lns 8 7,.bin 9 .sub 5 8,.asg 1 9]) (.seq (.seq (.ops [.mv 10 1,.bin 11 .lss 10 (kI 0)]) (.cond 11 (.seq (.ops [.asg 4 (kI (-1))]) .ret) .skip)) (.seq (.ops [.fa 12 1 2,.ld 13 1 false 12,.mv 14 1,.call (some 15) 229 [13,14],.asg 1 15]) (.seq (.seq (.ops [.mv 16 1,.bin 17 .lss 16 (kI 0)]) (.cond 17 (.seq (.ops [.asg 4 (kI (-1))]) .ret) .skip)) (.seq (.ops [.mv 18 1,.asg 4 18]) .ret))))))
theorem bJ6:bQ Tryz.prog 127=some (aSx,[.mv 0 4],19):=by kernel_rfl
def bTa (r:Int):Exit→St→Prop:=bP [.mv 0 4] fun x _=>x=(fun y=>(vI y)) r
def aJc:AC:=(.loop (.seq (.seq (.ops [.mv 12 5,.mv 13 0,.len 14 13,.bin 15 .lss 12 14]) (.cond 15 .skip (.exit 0))) (.seq (.block 1 (.seq (.ops [.mv 18 0,.mv 19 5,.ia 20 2 18 19,.ld 21 2 true 20,.mv 22 1,.call (some 23) 304 [21,22],.asg 1 23]) (.seq (.ops [.mv 24 1,.bin 25 .lss 24 (kI 0)]) (.cond 25 (.seq (.ops [.asg 4 (kI (-1))]) .ret) .skip)))) (.ops [.mv 16 5,.bin 17 .add 16 (kI 1),.asg 5 17]))))
def aV1:AC:=(.seq (.ops [.asg 4 (kI 0)]) (.seq (.ops [.mv 6 1,.mv 7 0,.len 8 7,.bin 9 .sub 6 8,.asg 1 9]) (.seq (.seq (.ops [.mv 10 1,.bin 11 .lss 10 (kI 0)]) (.cond 11 (.seq (.ops [.asg 4 (kI (-1))]) .ret) .skip)) (.seq (.seq (.ops [.asg 5 (kI 0)]) (.block 0 aJc)) (.seq (.ops [.mv 26 1,.asg 4 26]) .ret)))))
theorem bU0:bQ Tryz.prog 229=some (aV1,[.mv 0 4],27):=by kernel_rfl
def aRr (r:Int):Exit→St→Prop:=bP [.mv 0 4] fun x _=>x=(fun y=>(vI y)) r
def bXg (r:Int):Exit→St→Prop:=(cZ (wkK (avc Tryz.prog (.seq (.ops [.mv 26 1,.asg 4 26]) .ret) (aRr r))) (aRr r))
def aUp (r:Int):Exit→St→Prop:=(dD 0 (bXg r))
def aAf (p0:(List eG)) (x1:Int) (x5:Int):St:=⟨[(0,(eD p0)),(1,(vI x1)),(5,(vI x5))],[]⟩
def aPi:AC:=(.seq (.ops [.box 2 363 0,.asg 4 (kI 0)]) (.seq (.ops [.mv 5 1,.fa 6 0 2,.ld 7 1 false 6,.lns 8 7,.bin 9 .sub 5 8,.asg 1 9]) (.seq (.seq (.ops [.mv 10 1,.bin 11 .lss 10 (kI 0)]) (.cond 11 (.seq (.ops [.asg 4 (kI (-1))]) .ret) .skip)) (.seq (.ops [.mv 12 1,.asg 4 12]) .ret))))
theorem bIs:bQ Tryz.prog 304=some (aPi,[.mv 0 4],13):=by kernel_rfl
def bVy (r:Int):Exit→St→Prop:=bP [.mv 0 4] fun x _=>x=(fun y=>(vI y)) r
def aYt:AC:=(.seq (.ops [.box 2 36 0,.box 3 43 1,.asg 4 (kB false)]) (.seq (.ops [.ld 8 1 true 2,.ld 9 6 true 3,.call (some 10) 54 [8,9],.mv 7 10,.ext 11 7 0,.ext 12 7 1,.asg 5 11,.asg 6 12]) (.seq (.ops [.mv 13 6,.mv 14 13,.g 14 true (.mv 15 5),.g 14 true (.call (some 16) 55 [15,(.c (.fn 56 []))]),.g 14 true (.not 17 16),.pick 18 14 17 (kB false),.asg 4 18]) .ret)))
theorem bY8:bQ Tryz.prog 13=some (aYt,[.mv 0 4],19):=by kernel_rfl
def bKc (r:Bool):Exit→St→Prop:=bP [.mv 0 4] fun x _=>x=(fun y=>(vB y)) r
def aUw:AC:=(.seq (.ops [.box 2 36 0,.box 3 43 1,.asg 4 (.c (.nil 5)),.asg 5 (kB false)]) (.seq (.seq (.ops [.ld 7 1 true 2,.call (some 8) 80 [7],.not 9 8,.mv 10 9,.g 10 false (.ld 11 6 true 3),.g 10 false (.call (some 12) 137 [11]),.g 10 false (.not 13 12),.pick 14 10 (kB true) 13]) (.cond 14 (.seq (.ops [.asg 4 (.c (.nil 5)),.asg 5 (kB false)]) .ret) .skip)) (.seq (.ops [.ld 15 1 true 2,.bld 16 [(.nil 2),(.nil 5),gU] [(0,1,15)],.box 17 234 16,.asg 6 17]) (.seq (.ops [.mv 18 6,.ld 19 6 true 3,.call (some 20) 138 [18,(.c (.nil 1)),19]]) (.seq (.seq (.ops [.mv 21 6,.nck 22 21,.fa 23 2 22,.ld 24 1 false 23]) (.cond 24 (.seq (.ops [.asg 4 (.c (.nil 5)),.asg 5 (kB false)]) .ret) .skip)) (.seq (.ops [.mv 25 6,.nck 26 25,.fa 27 1 26,.ld 28 1 false 27,.asg 4 28,.asg 5 (kB true)]) .ret))))))
theorem bOu:bQ Tryz.prog 54=some (aUw,[.mv 0 4,.mv 0 5],29):=by kernel_rfl
def bKt (r:(List aB)×Bool):Exit→St→Prop:=bP [.mv 0 4,.mv 0 5] fun x b=>x=(fun (y:(List aB)×Bool)=>(.tup [(.osl 2000000 125 5 (y.1.map aP)),(vB y.2)])) r∧iY ((fun (y:(List aB)×Bool)=>[]) r) b
def aF5:AC:=(.loop (.seq (.ops [.bin 20 .lss 19 18]) (.seq (.cond 20 .skip (.exit 0)) (.seq (.block 1 (.seq (.ops [.mv 21 19,.ia 22 3 17 19,.ld 23 3 true 22,.alc 7 [eP,eP,(.nil 10)],.asg 6 21,.st 3 7 23]) (.dops [[],[],[],[2],[],[4],[3,5],[1,6],[],[7,8,7],[],[10],[0,9,11,9]] [.mv 24 0,.mv 25 0,.fa 26 2 5,.ld 27 1 false 26,.mv 28 6,.bin 29 .add 28 (kI 1),.slc 30 3 27 none (some 29) none,.call (some 31) 243 [25,30],.mv 32 1,.call (some 33) 242 [31,32],.fa 34 2 7,.ld 35 1 false 34,.call (some 36) 241 [24,33,35]]))) (.ops [.bin 37 .add 19 (kI 1),.mv 19 37])))))
def X9:AC:=(.loop (.seq (.ops [.bin 53 .lss 52 51]) (.seq (.cond 53 .skip (.exit 2)) (.seq (.block 3 (.seq (.ops [.ia 54 11 50 52,.ld 55 11 true 54,.alc 10 aDj,.st 11 10 55]) (.ops [.mv 56 0,.mv 57 8,.fa 58 0 10,.ld 59 10 true 58,.bsl 60 111 10 [59],.call (some 61) 241 [56,57,60]]))) (.ops [.bin 62 .add 52 (kI 1),.mv 52 62])))))
def aCb:AC:=(.ops [.bin 113 .add 66 (kI 1),.mv 66 113])
def aGb:AC:=(.loop (.seq (.ops [.bin 87 .lss 86 85]) (.seq (.cond 87 .skip (.exit 6)) (.seq (.block 7 (.seq (.ops [.ia 88 1 84 86,.ld 89 1 false 88,.asg 14 89]) (.seq (.ops [.mv 90 8,.ia 91 1 90 (kI 0),.fa 92 0 91,.ld 93 1 false 92,.mv 94 14,.ia 95 3 93 94,.ld 96 3 true 95,.alc 15 [eP,eP,dL],.st 3 15 96]) (.dops [[],[],[1],[2],[3],[],[5],[],[7],[],[6,8,9],[10],[4,11],[0,0,1,2,3,4,5,6,7,8,9,10,11,12],[13,0,1,2,3,4,5,6,7,8,9,10,11,12],[14,12,12,0,1,2,3,4,5,6,7,8,9,10,11,12]] [.mv 97 0,.mv 98 0,.nck 99 98,.fa 100 1 99,.ld 101 1 false 100,.fa 102 0 15,.ld 103 1 false 102,.fa 104 1 15,.ld 105 1 false 104,.mv 106 14,.bld 107 [eP,eP,dL,dL,dL] [(0,1,103),(1,1,105),(2,1,(kI 1)),(4,1,106)],.bsl 108 125 5 [107],.app 109 125 5 56 101 108,.nck 110 97,.fa 111 1 110,.st 1 111 109])))) (.ops [.bin 112 .add 86 (kI 1),.mv 86 112])))))
def xE:AC:=(.loop (.seq (.ops [.bin 67 .lss 66 65]) (.seq (.cond 67 .skip (.exit 4)) (.seq (.block 5 (.seq (.ops [.ia 68 13 64 66,.ld 69 13 true 68,.alc 12 uJ,.st 13 12 69]) (.seq (.seq (.ops [.fa 70 0 12,.ld 71 1 false 70,.not 72 71]) (.cond 72 (.seq (.ops [.mv 73 0,.mv 74 8,.fa 75 2 12,.ld 76 10 true 75,.bsl 77 111 10 [76],.call (some 78) 241 [73,74,77]]) (.exit 5)) .skip)) (.seq (.dops [[],[0],[1],[],[3],[2,4],[5],[]] [.mv 79 8,.ia 80 1 79 (kI 0),.ld 81 1 true 80,.fa 82 1 12,.ld 83 1 false 82,.call (some 84) 244 [81,83],.len 85 84,.mv 86 (kI 0)]) (.block 6 aGb))))) aCb))))
def aUv:AC:=(.seq (.ops [.box 5 43 2]) (.seq (.seq (.ops [.fa 16 2 5,.ld 17 1 false 16,.len 18 17,.mv 19 (kI 0)]) (.block 0 aF5)) (.seq (.ops [.mv 38 0,.fa 39 2 5,.ld 40 1 false 39,.call (some 41) 243 [38,40],.mv 42 1,.call (some 43) 242 [41,42],.asg 8 43]) (.seq (.ops [.mv 44 0,.mv 45 8,.fa 46 3 5,.ld 47 1 false 46,.call (some 48) 241 [44,45,47]]) (.seq (.seq (.ops [.fa 49 4 5,.ld 50 1 false 49,.len 51 50,.mv 52 (kI 0)]) (.block 2 X9)) (.seq (.ops [.fa 63 1 5,.ld 64 1 false 63,.len 65 64,.mv 66 (kI 0)]) (.block 4 xE)))))))
theorem bMi:bQ Tryz.prog 138=some (aUv,[],114):=by kernel_rfl
def Q6 (r:bF):Exit→St→Prop:=bP [] fun x b=>x=(fun (y:bF)=>(.tup [])) r∧iY ((fun (y:bF)=>[(1000000,[(bG y.c.tables),(.osl 6000001 125 5 (y.list.map aP)),(vB y.failed)])]) r) b
def bQ7 (r:bF):Exit→St→Prop:=(cZ (wkK (avc Tryz.prog (.seq (.ops [.mv 38 0,.fa 39 2 5,.ld 40 1 false 39,.call (some 41) 243 [38,40],.mv 42 1,.call (some 43) 242 [41,42],.asg 8 43]) (.seq (.ops [.mv 44 0,.mv 45 8,.fa 46 3 5,.ld 47 1 false 46,.call (some 48) 241 [44,45,47]]) (.seq (.seq (.ops [.fa 49 4 5,.ld 50 1 false 49,.len 51 50,.mv 52 (.c (.d (.i .i64 0)))]) (.block 2 X9)) (.seq (.ops [.fa 63 1 5,.ld 64 1 false 63,.len 65 64,.mv 66 (.c (.d (.i .i64 0)))]) (.block 4 xE))))) (Q6 r))) (Q6 r))
def aUa (r:bF):Exit→St→Prop:=(dD 0 (bQ7 r))
def bTz (r:bF):Exit→St→Prop:=(cZ (wkK (avc Tryz.prog (.seq (.ops [.fa 63 1 5,.ld 64 1 false 63,.len 65 64,.mv 66 (.c (.d (.i .i64 0)))]) (.block 4 xE)) (Q6 r))) (Q6 r))
def aRv (r:bF):Exit→St→Prop:=(dD 2 (bTz r))
def aEa (r:bF):Exit→St→Prop:=(dD 4 (Q6 r))
def aFx (r:bF):Exit→St→Prop:=(cZ (avc Tryz.prog xE (aEa r)) (aEa r))
def bUp (r:bF):Exit→St→Prop:=(cZ (wkK (avc Tryz.prog aCb (aFx r))) (aFx r))
def bRp (r:bF):Exit→St→Prop:=(dD 5 (bUp r))
def aVv (r:bF):Exit→St→Prop:=(dD 6 (bRp r))
def R4 (p1:(List aL)) (p2:aJ) (x19:Int) (iG:(List bO)) (iI:(List aB)) (iL:Bool):St:=⟨[(0,(.ptr 1000000 0)),(1,(bJ p1)),(5,(.ptr 5 0)),(17,(bC p2.from_)),(18,(vI (p2.from_.length:Int))),(19,(vI x19))],[(5,bL p2),(1000000,[(bG iG),(.osl 6000001 125 5 (iI.map aP)),(vB iL)])]⟩
def aB7 (y7:(List aL)) (p2:aJ) (x52:Int) (mV:(List bO)) (mR:(List aB)) (mP:Bool):St:=⟨[(0,(.ptr 1000000 0)),(5,(.ptr 5 0)),(8,(.osl 8 306 1 (y7.map dY))),(50,(cK p2.order)),(51,(vI (p2.order.length:Int))),(52,(vI x52))],[(5,bL p2),(1000000,[(bG mV),(.osl 6000001 125 5 (mR.map aP)),(vB mP)])]⟩
def aBn (y7:(List aL)) (p2:aJ) (x66:Int) (gZ:(List bO)) (lU:(List aB)) (iA:Bool):St:=⟨[(0,(.ptr 1000000 0)),(8,(.osl 8 306 1 (y7.map dY))),(64,(bS p2.items)),(65,(vI (p2.items.length:Int))),(66,(vI x66))],[(1000000,[(bG gZ),(.osl 6000001 125 5 (lU.map aP)),(vB iA)])]⟩
def aC4 (y7:(List aL)) (p2:aJ) (x66:Int) (nV:(List bO)) (nT:(List aB)) (nS:Bool):St:=⟨[(0,(.ptr 1000000 0)),(8,(.osl 8 306 1 (y7.map dY))),(64,(bS p2.items)),(65,(vI (p2.items.length:Int))),(66,(vI x66))],[(1000000,[(bG nV),(.osl 6000001 125 5 (nT.map aP)),(vB nS)])]⟩
def Y6 (y7:(List aL)) (p2:aJ) (x66:Int) (y23:(List Int)) (gZ:(List bO)) (iA:Bool) (kx86:(Int×(List aB))):St:=⟨[(0,(.ptr 1000000 0)),(8,(.osl 8 306 1 (y7.map dY))),(64,(bS p2.items)),(65,(vI (p2.items.length:Int))),(66,(vI x66)),(84,(.osl 84 3 1 (y23.map cI))),(85,(vI (y23.length:Int))),(86,(vI kx86.1))],[(1000000,[(bG gZ),(.osl 6000001 125 5 (kx86.2.map aP)),(vB iA)])]⟩
def aFs:AC:=(.loop (.seq (.ops [.bin 32 .lss 31 30]) (.seq (.cond 32 .skip (.exit 2)) (.seq (.block 3 (.seq (.ops [.ia 33 6 29 31,.ld 34 6 true 33,.alc 9 xI,.st 6 9 34]) (.ops [.mv 35 0,.mv 36 1,.ld 37 6 true 9,.call (some 38) 138 [35,36,37]]))) (.ops [.bin 39 .add 31 (kI 1),.mv 31 39])))))
def aJ3:AC:=(.seq (.ops [.mv 23 0,.mv 24 1,.fa 25 8 7,.ld 26 1 false 25,.call (some 27) 241 [23,24,26]]) (.seq (.ops [.fa 28 9 7,.ld 29 1 false 28,.len 30 29,.mv 31 (kI 0)]) (.block 2 aFs)))
def X7:AC:=(.loop (.seq (.ops [.bin 13 .lss 12 11]) (.seq (.cond 13 .skip (.exit 0)) (.seq (.block 1 (.seq (.ops [.ia 14 10 10 12,.ld 15 10 true 14,.alc 7 xA,.st 10 7 15]) (.seq (.seq (.ops [.fa 16 0 7,.ld 17 1 false 16,.bin 18 .eql 17 (kI 2)]) (.cond 18 (.ops [.mv 19 0,.mv 20 1,.ld 21 10 true 7,.call (some 22) 319 [19,20,21]]) .skip)) aJ3))) (.ops [.bin 40 .add 12 (kI 1),.mv 12 40])))))
def aS3:AC:=(.seq (.ops [.mv 10 2,.len 11 10,.mv 12 (kI 0)]) (.block 0 X7))
theorem bUd:bQ Tryz.prog 241=some (aS3,[],41):=by kernel_rfl
def bBd (r:bF):Exit→St→Prop:=bP [] fun x b=>x=(fun (y:bF)=>(.tup [])) r∧iY ((fun (y:bF)=>[(1000000,[(bG y.c.tables),(.osl 6000001 125 5 (y.list.map aP)),(vB y.failed)])]) r) b
def aI5 (r:bF):Exit→St→Prop:=(dD 0 (bBd r))
def bBk (r:bF):Exit→St→Prop:=(cZ (avc Tryz.prog X7 (aI5 r)) (aI5 r))
def bXn (r:bF):Exit→St→Prop:=(cZ (wkK (avc Tryz.prog (.ops [.bin 40 .add 12 (.c (.d (.i .i64 1))),.mv 12 40]) (bBk r))) (bBk r))
def aMm (r:bF):Exit→St→Prop:=(dD 1 (bXn r))
def aPy (r:bF):Exit→St→Prop:=(dD 2 (aMm r))
def aC5 (p1:(List aL)) (p2:(List aA)) (x12:Int) (iG:(List bO)) (iI:(List aB)) (iL:Bool):St:=⟨[(0,(.ptr 1000000 0)),(1,(bJ p1)),(10,(aQ p2)),(11,(vI (p2.length:Int))),(12,(vI x12))],[(1000000,[(bG iG),(.osl 6000001 125 5 (iI.map aP)),(vB iL)])]⟩
def O6 (p1:(List aL)) (p2:(List aA)) (x12:Int) (y1:aA) (oG:(List bO)) (oW:(List aB)) (oO:Bool):St:=⟨[(0,(.ptr 1000000 0)),(1,(bJ p1)),(7,(.ptr 7 0)),(10,(aQ p2)),(11,(vI (p2.length:Int))),(12,(vI x12))],[(7,eF y1),(1000000,[(bG oG),(.osl 6000001 125 5 (oW.map aP)),(vB oO)])]⟩
def N9 (p1:(List aL)) (p2:(List aA)) (x12:Int) (y1:aA) (x31:Int) (mX:(List bO)) (jO:((List aB)×Bool)):St:=⟨[(0,(.ptr 1000000 0)),(1,(bJ p1)),(10,(aQ p2)),(11,(vI (p2.length:Int))),(12,(vI x12)),(29,(bV y1.sub)),(30,(vI (y1.sub.length:Int))),(31,(vI x31))],[(1000000,[(bG mX),(.osl 6000001 125 5 (jO.1.map aP)),(vB jO.2)])]⟩
def aFe:AC:=(.loop (.seq (.ops [.bin 18 .lss 17 16]) (.seq (.cond 18 .skip (.exit 0)) (.seq (.block 1 (.seq (.ops [.mv 19 17,.ia 20 1 15 17,.ld 21 1 true 20,.alc 8 [(.nil 3)],.asg 7 19,.st 1 8 21]) (.seq (.ops [.ld 22 1 true 8,.fa 23 6 5,.ld 24 1 false 23,.fa 25 7 5,.ld 26 1 false 25,.call (some 27) 222 [22,24,26],.asg 9 27]) (.seq (.ops [.mv 28 9,.len 29 28,.bin 30 .gtr 29 (kI 0)]) (.cond 30 (.seq (.ops [.mv 31 9,.len 32 31,.fa 33 2 6,.st 1 33 32]) (.seq (.seq (.ops [.mv 34 9,.len 35 34,.bin 36 .eql 35 (kI 1)]) (.cond 36 (.dops [[],[],[1],[2],[0],[4,0,0],[0,1,2,3,4,5],[6,3,5,0,1,2,3,4,5]] [.mv 37 7,.mv 38 9,.ia 39 1 38 (kI 0),.ld 40 1 false 39,.fa 41 3 6,.st 1 41 37,.fa 42 4 6,.st 1 42 40]) .skip)) (.exit 0))) .skip))))) (.ops [.bin 43 .add 17 (kI 1),.mv 17 43])))))
def aLf:AC:=(.dops [[],[],[1],[2],[3],[],[5],[4,6],[0,0,1,2,3,4,5,6,7],[8,0,1,2,3,4,5,6,7],[9,7,7,0,1,2,3,4,5,6,7]] [.mv 44 0,.mv 45 0,.nck 46 45,.fa 47 1 46,.ld 48 1 false 47,.ld 49 5 true 6,.bsl 50 125 5 [49],.app 51 125 5 56 48 50,.nck 52 44,.fa 53 1 52,.st 1 53 51])
def aOu:AC:=(.seq (.ops [.box 5 111 2]) (.seq (.ops [.fa 10 6 5,.ld 11 1 false 10,.fa 12 7 5,.ld 13 1 false 12,.bld 14 [eP,eP,dL,dL,dL] [(0,1,11),(1,1,13)],.alc 6 [eP,eP,dL,dL,dL],.st 5 6 14]) (.seq (.seq (.ops [.mv 15 1,.len 16 15,.mv 17 (kI 0)]) (.block 0 aFe)) aLf)))
theorem bN5:bQ Tryz.prog 319=some (aOu,[],54):=by kernel_rfl
def aJu (r:bF):Exit→St→Prop:=bP [] fun x b=>x=(fun (y:bF)=>(.tup [])) r∧iY ((fun (y:bF)=>[(1000000,[(bG y.c.tables),(.osl 6000001 125 5 (y.list.map aP)),(vB y.failed)])]) r) b
def bMs (r:bF):Exit→St→Prop:=(cZ (wkK (avc Tryz.prog aLf (aJu r))) (aJu r))
def aU2 (r:bF):Exit→St→Prop:=(dD 0 (bMs r))
def aDp (p1:(List aL)) (p2:aA) (p0:bF) (x17:Int):St:=⟨[(0,(.ptr 1000000 0)),(5,(.ptr 5 0)),(6,(.ptr 6 0)),(15,(bJ p1)),(16,(vI (p1.length:Int))),(17,(vI x17))],[(5,eF p2),(6,lV (aB.mk p2.qual p2.name 0 0 0)),(1000000,[(bG p0.c.tables),(.osl 6000001 125 5 (p0.list.map aP)),(vB p0.failed)])]⟩
def aGd (p2:aA) (p0:bF) (oI:Int) (oC:Int) (oJ:Int):St:=⟨[(0,(.ptr 1000000 0)),(6,(.ptr 6 0))],[(6,lV (aB.mk p2.qual p2.name oI oC oJ)),(1000000,[(bG p0.c.tables),(.osl 6000001 125 5 (p0.list.map aP)),(vB p0.failed)])]⟩
def aG0:AC:=(.ops [.bin 37 .add 14 (kI 1),.mv 14 37])
def aC7:AC:=(.loop (.seq (.ops [.bin 15 .lss 14 13]) (.seq (.cond 15 .skip (.exit 0)) (.seq (.block 1 (.seq (.ops [.mv 16 14,.ia 17 3 12 14,.ld 18 3 true 17,.alc 9 [eP,eP,dL],.asg 8 16,.st 3 9 18]) (.seq (.ops [.fa 19 1 9,.ld 20 1 false 19,.mv 21 2,.bin 22 .eql 20 21,.mv 23 22,.g 23 true (.mv 24 1),.g 23 true (.bin 25 .eql 24 (.c (.d (.s (bs []))))),.g 23 true (.mv 26 25),.g 26 false (.fa 27 0 9),.g 26 false (.ld 28 1 false 27),.g 26 false (.mv 29 1),.g 26 false (.bin 30 .eql 28 29),.g 23 true (.pick 31 26 (kB true) 30),.pick 32 23 31 (kB false)]) (.cond 32 (.ops [.mv 33 7,.mv 34 8,.bsl 35 3 1 [34],.app 36 3 1 8 33 35,.asg 7 36]) .skip)))) aG0))))
def aRk:AC:=(.seq (.ops [.box 3 306 0,.asg 6 (.c (.nil 1))]) (.seq (.ops [.bsl 10 3 1 [],.asg 7 10]) (.seq (.seq (.ops [.fa 11 0 3,.ld 12 1 false 11,.len 13 12,.mv 14 (kI 0)]) (.block 0 aC7)) (.seq (.ops [.mv 38 7,.asg 6 38]) .ret))))
theorem bGd:bQ Tryz.prog 222=some (aRk,[.mv 0 6],39):=by kernel_rfl
def aWb (r:(List Int)):Exit→St→Prop:=bP [.mv 0 6] fun x b=>x=(fun (y:(List Int))=>(.osl 2000000 3 1 (y.map cI))) r∧iY ((fun (y:(List Int))=>[]) r) b
def bTw (r:(List Int)):Exit→St→Prop:=(cZ (wkK (avc Tryz.prog (.seq (.ops [.mv 38 7,.asg 6 38]) .ret) (aWb r))) (aWb r))
def aGq (r:(List Int)):Exit→St→Prop:=(dD 0 (bTw r))
def aSq (r:(List Int)):Exit→St→Prop:=(cZ (avc Tryz.prog aC7 (aGq r)) (aGq r))
def M6 (p1:(List UInt8)) (p2:(List UInt8)) (p0:aL) (x7:(List Int)) (x14:Int):St:=⟨[(1,(vS p1)),(2,(vS p2)),(7,(.osl 7 3 1 (x7.map cI))),(12,(iU p0.names)),(13,(vI (p0.names.length:Int))),(14,(vI x14))],[]⟩
def M9 (p1:(List UInt8)) (p2:(List UInt8)) (p0:aL) (x14:Int) (oD:(List Int)):St:=⟨[(1,(vS p1)),(2,(vS p2)),(7,(.osl 7 3 1 (oD.map cI))),(12,(iU p0.names)),(13,(vI (p0.names.length:Int))),(14,(vI x14))],[]⟩
def aVq:AC:=(.seq (.ops [.alc 4 [(.nil 3)]]) (.seq (.ops [.mv 9 0,.nck 10 9,.fa 11 0 10,.ld 12 1 true 11,.mv 13 1,.call (some 14) 223 [12,13],.mv 8 14,.ext 15 8 0,.ext 16 8 1,.ext 17 8 2,.alc 5 [(.nil 3)],.st 1 5 15,.asg 6 16,.asg 7 17]) (.seq (.ops [.mv 18 0,.mv 19 0,.nck 20 19,.fa 21 2 20,.ld 22 1 false 21,.mv 23 22,.g 23 false (.mv 24 6),.g 23 false (.bin 25 .neq 24 (kI 0)),.pick 26 23 (kB true) 25,.nck 27 18,.fa 28 2 27,.st 1 28 26]) (.seq (.ops [.ld 29 1 true 5,.st 1 4 29]) .ret))))
theorem bLx:bQ Tryz.prog 243=some (aVq,[.ld 0 1 true 4],30):=by kernel_rfl
def bRq (r:aL×bF):Exit→St→Prop:=bP [.ld 0 1 true 4] fun x b=>x=(fun (y:aL×bF)=>(dI y.1)) r∧iY ((fun (y:aL×bF)=>[(1000000,[(bG y.2.c.tables),(.osl 6000001 125 5 (y.2.list.map aP)),(vB y.2.failed)])]) r) b
def aDw:AC:=(.loop (.seq (.ops [.bin 40 .lss 39 38]) (.seq (.cond 40 .skip (.exit 2)) (.seq (.block 3 (.seq (.ops [.ia 41 3 37 39,.ld 42 3 true 41,.alc 13 [eP,eP,(.nil 10)],.st 3 13 42]) (.seq (.ops [.ld 43 3 true 13,.call (some 44) 302 [43],.mv 45 11,.bin 46 .eql 44 45]) (.cond 46 (.seq (.ops [.bld 47 [(.nil 3)] [],.mv 48 11,.st 1 4 47,.asg 5 (kI 2),.asg 6 48]) .ret) .skip)))) (.ops [.bin 49 .add 39 (kI 1),.mv 39 49])))))
def X6:AC:=(.loop (.seq (.ops [.bin 58 .lss 57 56]) (.seq (.cond 58 .skip (.exit 4)) (.seq (.block 5 (.seq (.ops [.ia 59 2 55 57,.ld 60 2 true 59,.alc 15 [eP,dL],.st 2 15 60]) (.ops [.fa 61 0 7,.ld 62 1 false 61,.mv 63 11,.fa 64 0 15,.ld 65 1 false 64,.fa 66 1 15,.ld 67 1 false 66,.bld 68 [eP,eP,dL] [(0,1,63),(1,1,65),(2,1,67)],.bsl 69 326 3 [68],.app 70 326 3 40 62 69,.fa 71 0 7,.st 1 71 70]))) (.ops [.bin 72 .add 57 (kI 1),.mv 57 72])))))
def aA2:AC:=(.loop (.seq (.ops [.bin 20 .lss 19 18]) (.seq (.cond 20 .skip (.exit 0)) (.seq (.block 1 (.seq (.ops [.mv 21 19,.ia 22 3 17 19,.ld 23 3 true 22,.alc 9 [eP,eP,(.nil 10)],.asg 8 21,.st 3 9 23]) (.seq (.ops [.ld 24 1 true 2,.fa 25 0 9,.ld 26 1 false 25,.call (some 27) 169 [24,26],.asg 10 27]) (.seq (.seq (.ops [.mv 28 10,.bin 29 .lss 28 (kI 0)]) (.cond 29 (.seq (.dops [[],[],[1],[0,0],[3,0,3],[2,4,0,1,2,3,4]] [.bld 30 [(.nil 3)] [],.fa 31 0 9,.ld 32 1 false 31,.st 1 4 30,.asg 5 (kI 1),.asg 6 32]) .ret) .skip)) (.seq (.ops [.ld 33 3 true 9,.call (some 34) 302 [33],.asg 11 34]) (.seq (.seq (.ops [.mv 35 1,.mv 36 8,.slc 37 3 35 none (some 36) none,.len 38 37,.mv 39 (kI 0)]) (.block 2 aDw)) (.seq (.ops [.fa 50 0 2,.ld 51 1 false 50,.mv 52 10,.ia 53 2 51 52,.fa 54 1 53,.ld 55 1 false 54,.len 56 55,.mv 57 (kI 0)]) (.block 4 X6)))))))) (.ops [.bin 73 .add 19 (kI 1),.mv 19 73])))))
def aYj:AC:=(.seq (.ops [.box 2 36 0,.alc 4 [(.nil 3)],.asg 5 (kI 0),.asg 6 (.c (.d (.s (bs []))))]) (.seq (.ops [.bld 16 [(.nil 3)] [],.alc 7 [(.nil 3)],.st 1 7 16]) (.seq (.seq (.ops [.mv 17 1,.len 18 17,.mv 19 (kI 0)]) (.block 0 aA2)) (.seq (.ops [.ld 74 1 true 7,.st 1 4 74,.asg 5 (kI 0),.asg 6 (.c (.d (.s (bs []))))]) .ret))))
theorem bJb:bQ Tryz.prog 223=some (aYj,[.ld 0 1 true 4,.mv 0 5,.mv 0 6],75):=by kernel_rfl
def aOs (r:aL×Int×(List UInt8)):Exit→St→Prop:=bP [.ld 0 1 true 4,.mv 0 5,.mv 0 6] fun x _=>x=(fun y=>(.tup [(dI y.1),(vI y.2.1),(vS y.2.2)])) r
def bNe (r:aL×Int×(List UInt8)):Exit→St→Prop:=(cZ (wkK (avc Tryz.prog (.seq (.ops [.ld 74 1 true 7,.st 1 4 74,.asg 5 (.c (.d (.i .i64 0))),.asg 6 (.c (.d (.s (bs []))))]) .ret) (aOs r))) (aOs r))
def aGm (r:aL×Int×(List UInt8)):Exit→St→Prop:=(dD 0 (bNe r))
def bDd (r:aL×Int×(List UInt8)):Exit→St→Prop:=(cZ (avc Tryz.prog aA2 (aGm r)) (aGm r))
def bIv (r:aL×Int×(List UInt8)):Exit→St→Prop:=(cZ (wkK (avc Tryz.prog (.ops [.bin 73 .add 19 (.c (.d (.i .i64 1))),.mv 19 73]) (bDd r))) (bDd r))
def aW6 (r:aL×Int×(List UInt8)):Exit→St→Prop:=(dD 1 (bIv r))
def bYo (r:aL×Int×(List UInt8)):Exit→St→Prop:=(cZ (wkK (avc Tryz.prog (.seq (.ops [.fa 50 0 2,.ld 51 1 false 50,.mv 52 10,.ia 53 2 51 52,.fa 54 1 53,.ld 55 1 false 54,.len 56 55,.mv 57 (.c (.d (.i .i64 0)))]) (.block 4 X6)) (aW6 r))) (aW6 r))
def aS2 (r:aL×Int×(List UInt8)):Exit→St→Prop:=(dD 2 (bYo r))
def aN6 (r:aL×Int×(List UInt8)):Exit→St→Prop:=(dD 4 (aW6 r))
def aBv (p1:(List bD)) (p0:bB) (x19:Int) (aR:(List dR)):St:=⟨[(1,(bC p1)),(2,(.ptr 2 0)),(4,(.ptr 4 0)),(7,(.ptr 7 0)),(17,(bC p1)),(18,(vI (p1.length:Int))),(19,(vI x19))],[(2,bZ p0),(4,[(.nil 3)]),(7,[(.osl 70 326 3 (aR.map dN))])]⟩
def aAq (p1:(List bD)) (y2:Int) (y3:(List UInt8)) (x19:Int) (y4:(List bD)) (p0:bB) (aR:(List dR)) (x39:Int):St:=⟨[(1,(bC p1)),(2,(.ptr 2 0)),(4,(.ptr 4 0)),(7,(.ptr 7 0)),(10,(vI y2)),(11,(vS y3)),(17,(bC p1)),(18,(vI (p1.length:Int))),(19,(vI x19)),(37,(bC y4)),(38,(vI (y4.length:Int))),(39,(vI x39))],[(2,bZ p0),(4,[(.nil 3)]),(7,[(.osl 70 326 3 (aR.map dN))])]⟩
def M8 (p1:(List bD)) (y3:(List UInt8)) (x19:Int) (y7:bO) (p0:bB) (x57:Int) (lQ:(List dR)):St:=⟨[(1,(bC p1)),(2,(.ptr 2 0)),(4,(.ptr 4 0)),(7,(.ptr 7 0)),(11,(vS y3)),(17,(bC p1)),(18,(vI (p1.length:Int))),(19,(vI x19)),(55,(eD y7.cols)),(56,(vI (y7.cols.length:Int))),(57,(vI x57))],[(2,bZ p0),(4,[(.nil 3)]),(7,[(.osl 70 326 3 (lQ.map dN))])]⟩
def aYw:AC:=(.seq (.ops [.box 2 36 0,.box 3 9 1,.asg 4 (kI 0)]) (.seq (.ops [.fa 5 0 2,.ld 6 1 false 5,.mkf 7 266 [3],.call (some 8) 265 [6,7],.asg 4 8]) .ret))
theorem bMb:bQ Tryz.prog 169=some (aYw,[.mv 0 4],9):=by kernel_rfl
def bHd (r:Int):Exit→St→Prop:=bP [.mv 0 4] fun x _=>x=(fun y=>(vI y)) r
def aIm:AC:=(.loop (.seq (.ops [.bin 9 .lss 8 7]) (.seq (.cond 9 .skip (.exit 0)) (.seq (.block 1 (.seq (.ops [.mv 10 8,.asg 5 10]) (.seq (.ops [.mv 11 1,.mv 12 0,.mv 13 5,.ia 14 2 12 13,.ld 15 2 true 14,.callv (some 16) 11 [15]]) (.cond 16 (.seq (.ops [.mv 17 5,.asg 4 17]) .ret) .skip)))) (.ops [.bin 18 .add 8 (kI 1),.mv 8 18])))))
def aNb:AC:=(.seq (.ops [.asg 4 (kI 0)]) (.seq (.seq (.ops [.mv 6 0,.len 7 6,.mv 8 (kI 0)]) (.block 0 aIm)) (.seq (.ops [.asg 4 (kI (-1))]) .ret)))
theorem bP6:bQ Tryz.prog 265=some (aNb,[.mv 0 4],19):=by kernel_rfl
def aVj (c0_0:(List UInt8)) (r:Int):Exit→St→Prop:=bP [.mv 0 4] fun x b=>x=(fun (y:Int)=>(vI y)) r∧iY ((fun (y:Int)=>[(1000000,[(vS c0_0)])]) r) b
def bYa (c0_0:(List UInt8)) (r:Int):Exit→St→Prop:=(cZ (wkK (avc Tryz.prog (.seq (.ops [.asg 4 (.c (.d (.i .i64 (-1))))]) .ret) (aVj c0_0 r))) (aVj c0_0 r))
def aW9 (c0_0:(List UInt8)) (r:Int):Exit→St→Prop:=(dD 0 (bYa c0_0 r))
def aD0 (p0:(List bO)) (c0_0:(List UInt8)) (x8:Int):St:=⟨[(0,(bG p0)),(1,(.fn 266 [(.ptr 1000000 0)])),(7,(vI (p0.length:Int))),(8,(vI x8))],[(1000000,[(vS c0_0)])]⟩
def aPl:AC:=(.seq (.ops [.box 2 150 0,.asg 3 (kB false)]) (.seq (.ops [.fa 4 0 2,.ld 5 1 false 4,.ld 6 1 false 1,.bin 7 .eql 5 6,.asg 3 7]) .ret))
theorem bS9:bQ Tryz.prog 266=some (aPl,[.mv 0 3],8):=by kernel_rfl
def bPu (c0_0:(List UInt8)) (r:Bool):Exit→St→Prop:=bP [.mv 0 3] fun x b=>x=(fun (y:Bool)=>(vB y)) r∧iY ((fun (y:Bool)=>[(1000000,[(vS c0_0)])]) r) b
def aOt:AC:=(.seq (.ops [.box 1 227 0,.asg 2 (.c (.d (.s (bs []))))]) (.seq (.seq (.ops [.fa 3 1 1,.ld 4 1 false 3,.bin 5 .eql 4 (.c (.d (.s (bs []))))]) (.cond 5 (.seq (.ops [.fa 6 0 1,.ld 7 1 false 6,.asg 2 7]) .ret) .skip)) (.seq (.ops [.fa 8 1 1,.ld 9 1 false 8,.asg 2 9]) .ret)))
theorem bY6:bQ Tryz.prog 302=some (aOt,[.mv 0 2],10):=by kernel_rfl
def bSw (r:(List UInt8)):Exit→St→Prop:=bP [.mv 0 2] fun x _=>x=(fun y=>(vS y)) r
def aN9:AC:=(.seq (.ops [.box 2 306 0,.asg 4 (.c (.nil 1))]) (.seq (.ops [.ld 5 1 true 2,.bsl 6 306 1 [5],.mv 7 1,.app 8 306 1 24 6 7,.asg 4 8]) .ret))
theorem bOe:bQ Tryz.prog 242=some (aN9,[.mv 0 4],9):=by kernel_rfl
def bL4 (r:(List aL)):Exit→St→Prop:=bP [.mv 0 4] fun x b=>x=(fun (y:(List aL))=>(.osl 2000000 306 1 (y.map dY))) r∧iY ((fun (y:(List aL))=>[]) r) b
def aIf:AC:=(.ops [.bin 29 .add 12 (kI 1),.mv 12 29])
def aBd:AC:=(.loop (.seq (.ops [.bin 13 .lss 12 11]) (.seq (.cond 13 .skip (.exit 0)) (.seq (.block 1 (.seq (.ops [.mv 14 12,.ia 15 3 10 12,.ld 16 3 true 15,.alc 7 [eP,eP,dL],.asg 6 14,.st 3 7 16]) (.seq (.ops [.mv 17 1,.bin 18 .eql 17 (.c (.d (.s (bs [])))),.mv 19 18,.g 19 false (.fa 20 0 7),.g 19 false (.ld 21 1 false 20),.g 19 false (.mv 22 1),.g 19 false (.bin 23 .eql 21 22),.pick 24 19 (kB true) 23]) (.cond 24 (.ops [.mv 25 5,.mv 26 6,.bsl 27 3 1 [26],.app 28 3 1 8 25 27,.asg 5 28]) .skip)))) aIf))))
def aSo:AC:=(.seq (.ops [.box 2 306 0,.asg 4 (.c (.nil 1))]) (.seq (.ops [.bsl 8 3 1 [],.asg 5 8]) (.seq (.seq (.ops [.fa 9 0 2,.ld 10 1 false 9,.len 11 10,.mv 12 (kI 0)]) (.block 0 aBd)) (.seq (.ops [.mv 30 5,.asg 4 30]) .ret))))
theorem bTq:bQ Tryz.prog 244=some (aSo,[.mv 0 4],31):=by kernel_rfl
def aYu (r:(List Int)):Exit→St→Prop:=bP [.mv 0 4] fun x b=>x=(fun (y:(List Int))=>(.osl 2000000 3 1 (y.map cI))) r∧iY ((fun (y:(List Int))=>[]) r) b
def bIb (r:(List Int)):Exit→St→Prop:=(cZ (wkK (avc Tryz.prog (.seq (.ops [.mv 30 5,.asg 4 30]) .ret) (aYu r))) (aYu r))
def aFo (r:(List Int)):Exit→St→Prop:=(dD 0 (bIb r))
def aP6 (r:(List Int)):Exit→St→Prop:=(cZ (avc Tryz.prog aBd (aFo r)) (aFo r))
def aD7 (p1:(List UInt8)) (p0:aL) (x5:(List Int)) (x12:Int):St:=⟨[(1,(vS p1)),(5,(.osl 5 3 1 (x5.map cI))),(10,(iU p0.names)),(11,(vI (p0.names.length:Int))),(12,(vI x12))],[]⟩
def aCt (p1:(List UInt8)) (p0:aL) (x12:Int) (jG:(List Int)):St:=⟨[(1,(vS p1)),(5,(.osl 5 3 1 (jG.map cI))),(10,(iU p0.names)),(11,(vI (p0.names.length:Int))),(12,(vI x12))],[]⟩
def aU9:AC:=(.seq (.ops [.box 1 43 0,.asg 2 (kB false)]) (.seq (.dops [[],[0],[],[2,1],[1,3,3],[4,4],[5],[6,5,5],[5,7],[8,7,0,1,2,3,4,5,6,7,8]] [.ld 3 6 true 1,.call (some 4) 238 [3],.ld 5 6 true 1,.call (some 6) 239 [5],.call (some 7) 82 [4,6],.mv 8 7,.g 8 true (.ld 9 6 true 1),.g 8 true (.call (some 10) 240 [9]),.pick 11 8 10 (kB false),.asg 2 11]) .ret))
theorem bQs:bQ Tryz.prog 137=some (aU9,[.mv 0 2],12):=by kernel_rfl
def bHa (r:Bool):Exit→St→Prop:=bP [.mv 0 2] fun x _=>x=(fun y=>(vB y)) r
def aP4:AC:=(.seq (.ops [.box 1 43 0,.asg 2 (kI 0)]) (.seq (.ops [.ld 3 6 true 1,.call (some 4) 314 [3],.call (some 5) 315 [4],.asg 2 5]) .ret))
theorem bPh:bQ Tryz.prog 239=some (aP4,[.mv 0 2],6):=by kernel_rfl
def bMm (r:Int):Exit→St→Prop:=bP [.mv 0 2] fun x _=>x=(fun y=>(vI y)) r
def aE9:AC:=(.loop (.seq (.ops [.bin 9 .lss 8 7]) (.seq (.cond 9 .skip (.exit 0)) (.seq (.block 1 (.seq (.ops [.ia 10 10 6 8,.ld 11 10 true 10,.alc 5 xA,.st 10 5 11]) (.ops [.mv 12 3,.ld 13 10 true 5,.call (some 14) 355 [13],.bin 15 .add 12 14,.asg 3 15]))) (.ops [.bin 16 .add 8 (kI 1),.mv 8 16])))))
def aUf:AC:=(.seq (.ops [.asg 2 (kI 0)]) (.seq (.ops [.asg 3 (kI 0)]) (.seq (.seq (.ops [.mv 6 0,.len 7 6,.mv 8 (kI 0)]) (.block 0 aE9)) (.seq (.ops [.mv 17 3,.asg 2 17]) .ret))))
theorem bGp:bQ Tryz.prog 315=some (aUf,[.mv 0 2],18):=by kernel_rfl
def aRm (r:Int):Exit→St→Prop:=bP [.mv 0 2] fun x _=>x=(fun y=>(vI y)) r
def bP9 (r:Int):Exit→St→Prop:=(cZ (wkK (avc Tryz.prog (.seq (.ops [.mv 17 3,.asg 2 17]) .ret) (aRm r))) (aRm r))
def aNh (r:Int):Exit→St→Prop:=(dD 0 (bP9 r))
def aAw (p0:(List aA)) (x3:Int) (x8:Int):St:=⟨[(3,(vI x3)),(6,(aQ p0)),(7,(vI (p0.length:Int))),(8,(vI x8))],[]⟩
def aG9:AC:=(.loop (.seq (.ops [.bin 14 .lss 13 12]) (.seq (.cond 14 .skip (.exit 0)) (.seq (.block 1 (.seq (.ops [.ia 15 6 11 13,.ld 16 6 true 15,.alc 5 xI,.st 6 5 16]) (.ops [.mv 17 3,.ld 18 6 true 5,.call (some 19) 239 [18],.bin 20 .add 17 19,.asg 3 20]))) (.ops [.bin 21 .add 13 (kI 1),.mv 13 21])))))
def aY4:AC:=(.seq (.ops [.box 1 111 0,.asg 2 (kI 0)]) (.seq (.ops [.fa 6 8 1,.ld 7 1 false 6,.call (some 8) 315 [7],.bin 9 .add (kI 1) 8,.asg 3 9]) (.seq (.seq (.ops [.fa 10 9 1,.ld 11 1 false 10,.len 12 11,.mv 13 (kI 0)]) (.block 0 aG9)) (.seq (.ops [.mv 22 3,.asg 2 22]) .ret))))
theorem bXu:bQ Tryz.prog 355=some (aY4,[.mv 0 2],23):=by kernel_rfl
def aPa (r:Int):Exit→St→Prop:=bP [.mv 0 2] fun x _=>x=(fun y=>(vI y)) r
def bJc (r:Int):Exit→St→Prop:=(cZ (wkK (avc Tryz.prog (.seq (.ops [.mv 22 3,.asg 2 22]) .ret) (aPa r))) (aPa r))
def aOg (r:Int):Exit→St→Prop:=(dD 0 (bJc r))
def aBk (p0:aA) (x3:Int) (x13:Int):St:=⟨[(3,(vI x3)),(11,(bV p0.sub)),(12,(vI (p0.sub.length:Int))),(13,(vI x13))],[]⟩
def aHi:AC:=(.ops [.bin 26 .add 14 (kI 1),.mv 14 26])
def aBg:AC:=(.loop (.seq (.ops [.bin 15 .lss 14 13]) (.seq (.cond 15 .skip (.exit 0)) (.seq (.block 1 (.seq (.ops [.ia 16 13 12 14,.ld 17 13 true 16,.alc 5 uJ,.st 13 5 17]) (.seq (.ops [.fa 18 0 5,.ld 19 1 false 18,.not 20 19]) (.cond 20 (.ops [.mv 21 3,.fa 22 2 5,.ld 23 10 true 22,.bsl 24 111 10 [23],.app 25 111 10 136 21 24,.asg 3 25]) .skip)))) aHi))))
def aCx:AC:=(.loop (.seq (.ops [.bin 31 .lss 30 29]) (.seq (.cond 31 .skip (.exit 2)) (.seq (.block 3 (.seq (.ops [.ia 32 3 28 30,.ld 33 3 true 32,.alc 7 [eP,eP,(.nil 10)],.st 3 7 33]) (.ops [.mv 34 3,.fa 35 2 7,.ld 36 1 false 35,.app 37 111 10 136 34 36,.asg 3 37]))) (.ops [.bin 38 .add 30 (kI 1),.mv 30 38])))))
def A8:AC:=(.loop (.seq (.ops [.bin 47 .lss 46 45]) (.seq (.cond 47 .skip (.exit 4)) (.seq (.block 5 (.seq (.ops [.ia 48 11 44 46,.ld 49 11 true 48,.alc 9 aDj,.st 11 9 49]) (.ops [.mv 50 3,.fa 51 0 9,.ld 52 10 true 51,.bsl 53 111 10 [52],.app 54 111 10 136 50 53,.asg 3 54]))) (.ops [.bin 55 .add 46 (kI 1),.mv 46 55])))))
def aYp:AC:=(.seq (.ops [.box 1 43 0,.asg 2 (.c (.nil 10))]) (.seq (.ops [.bsl 10 111 10 [],.asg 3 10]) (.seq (.seq (.ops [.fa 11 1 1,.ld 12 1 false 11,.len 13 12,.mv 14 (kI 0)]) (.block 0 aBg)) (.seq (.seq (.ops [.fa 27 2 1,.ld 28 1 false 27,.len 29 28,.mv 30 (kI 0)]) (.block 2 aCx)) (.seq (.ops [.mv 39 3,.fa 40 3 1,.ld 41 1 false 40,.app 42 111 10 136 39 41,.asg 3 42]) (.seq (.seq (.ops [.fa 43 4 1,.ld 44 1 false 43,.len 45 44,.mv 46 (kI 0)]) (.block 4 A8)) (.seq (.ops [.mv 56 3,.asg 2 56]) .ret)))))))
theorem bM3:bQ Tryz.prog 314=some (aYp,[.mv 0 2],57):=by kernel_rfl
def J9 (r:(List aA)):Exit→St→Prop:=bP [.mv 0 2] fun x b=>x=(fun (y:(List aA))=>(.osl 2000000 111 10 (y.map aY))) r∧iY ((fun (y:(List aA))=>[]) r) b
def bKr (r:(List aA)):Exit→St→Prop:=(cZ (wkK (avc Tryz.prog (.seq (.seq (.ops [.fa 27 2 1,.ld 28 1 false 27,.len 29 28,.mv 30 (.c (.d (.i .i64 0)))]) (.block 2 aCx)) (.seq (.ops [.mv 39 3,.fa 40 3 1,.ld 41 1 false 40,.app 42 111 10 136 39 41,.asg 3 42]) (.seq (.seq (.ops [.fa 43 4 1,.ld 44 1 false 43,.len 45 44,.mv 46 (.c (.d (.i .i64 0)))]) (.block 4 A8)) (.seq (.ops [.mv 56 3,.asg 2 56]) .ret)))) (J9 r))) (J9 r))
def aJd (r:(List aA)):Exit→St→Prop:=(dD 0 (bKr r))
def aX0 (r:(List aA)):Exit→St→Prop:=(cZ (avc Tryz.prog aBg (aJd r)) (aJd r))
def bXw (r:(List aA)):Exit→St→Prop:=(cZ (wkK (avc Tryz.prog (.seq (.ops [.mv 39 3,.fa 40 3 1,.ld 41 1 false 40,.app 42 111 10 136 39 41,.asg 3 42]) (.seq (.seq (.ops [.fa 43 4 1,.ld 44 1 false 43,.len 45 44,.mv 46 (.c (.d (.i .i64 0)))]) (.block 4 A8)) (.seq (.ops [.mv 56 3,.asg 2 56]) .ret))) (J9 r))) (J9 r))
def aUi (r:(List aA)):Exit→St→Prop:=(dD 2 (bXw r))
def bYc (r:(List aA)):Exit→St→Prop:=(cZ (wkK (avc Tryz.prog (.seq (.ops [.mv 56 3,.asg 2 56]) .ret) (J9 r))) (J9 r))
def aWj (r:(List aA)):Exit→St→Prop:=(dD 4 (bYc r))
def aAm (p0:aJ) (x3:(List aA)) (x14:Int):St:=⟨[(1,(.ptr 1 0)),(3,(.osl 3 111 10 (x3.map aY))),(12,(bS p0.items)),(13,(vI (p0.items.length:Int))),(14,(vI x14))],[(1,bL p0)]⟩
def aDa (p0:aJ) (x14:Int) (dW:(List aA)):St:=⟨[(1,(.ptr 1 0)),(3,(.osl 3 111 10 (dW.map aY))),(12,(bS p0.items)),(13,(vI (p0.items.length:Int))),(14,(vI x14))],[(1,bL p0)]⟩
def P7 (p0:aJ) (fH:(List aA)) (x30:Int):St:=⟨[(1,(.ptr 1 0)),(3,(.osl 3 111 10 (fH.map aY))),(28,(bC p0.from_)),(29,(vI (p0.from_.length:Int))),(30,(vI x30))],[(1,bL p0)]⟩
def aBz (p0:aJ) (kU:(List aA)) (x46:Int):St:=⟨[(3,(.osl 3 111 10 (kU.map aY))),(44,(cK p0.order)),(45,(vI (p0.order.length:Int))),(46,(vI x46))],[]⟩
def aRn:AC:=(.seq (.ops [.box 1 43 0,.asg 2 (kI 0)]) (.seq (.ops [.ld 3 6 true 1,.call (some 4) 314 [3],.call (some 5) 313 [4],.asg 2 5]) .ret))
theorem bIw:bQ Tryz.prog 238=some (aRn,[.mv 0 2],6):=by kernel_rfl
def bIt (r:Int):Exit→St→Prop:=bP [.mv 0 2] fun x _=>x=(fun y=>(vI y)) r
def aHl:AC:=(.loop (.seq (.ops [.bin 9 .lss 8 7]) (.seq (.cond 9 .skip (.exit 0)) (.seq (.block 1 (.seq (.ops [.ia 10 10 6 8,.ld 11 10 true 10,.alc 5 xA,.st 10 5 11]) (.ops [.mv 12 3,.ld 13 10 true 5,.call (some 14) 354 [13],.max 15 12 14,.asg 3 15]))) (.ops [.bin 16 .add 8 (kI 1),.mv 8 16])))))
def aRh:AC:=(.seq (.ops [.asg 2 (kI 0)]) (.seq (.ops [.asg 3 (kI 0)]) (.seq (.seq (.ops [.mv 6 0,.len 7 6,.mv 8 (kI 0)]) (.block 0 aHl)) (.seq (.ops [.mv 17 3,.asg 2 17]) .ret))))
theorem bX4:bQ Tryz.prog 313=some (aRh,[.mv 0 2],18):=by kernel_rfl
def aUh (r:Int):Exit→St→Prop:=bP [.mv 0 2] fun x _=>x=(fun y=>(vI y)) r
def bWu (r:Int):Exit→St→Prop:=(cZ (wkK (avc Tryz.prog (.seq (.ops [.mv 17 3,.asg 2 17]) .ret) (aUh r))) (aUh r))
def aVo (r:Int):Exit→St→Prop:=(dD 0 (bWu r))
def aCr (p0:(List aA)) (x3:Int) (x8:Int):St:=⟨[(3,(vI x3)),(6,(aQ p0)),(7,(vI (p0.length:Int))),(8,(vI x8))],[]⟩
def aJ8:AC:=(.loop (.seq (.ops [.bin 12 .lss 11 10]) (.seq (.cond 12 .skip (.exit 0)) (.seq (.block 1 (.seq (.ops [.ia 13 10 9 11,.ld 14 10 true 13,.alc 5 xA,.st 10 5 14]) (.ops [.mv 15 3,.ld 16 10 true 5,.call (some 17) 354 [16],.max 18 15 17,.asg 3 18]))) (.ops [.bin 19 .add 11 (kI 1),.mv 11 19])))))
def aC9:AC:=(.loop (.seq (.ops [.bin 24 .lss 23 22]) (.seq (.cond 24 .skip (.exit 2)) (.seq (.block 3 (.seq (.ops [.ia 25 6 21 23,.ld 26 6 true 25,.alc 7 xI,.st 6 7 26]) (.ops [.mv 27 3,.ld 28 6 true 7,.call (some 29) 238 [28],.max 30 27 29,.asg 3 30]))) (.ops [.bin 31 .add 23 (kI 1),.mv 23 31])))))
def aP2:AC:=(.seq (.ops [.box 1 111 0,.asg 2 (kI 0)]) (.seq (.ops [.asg 3 (kI 0)]) (.seq (.seq (.ops [.fa 8 8 1,.ld 9 1 false 8,.len 10 9,.mv 11 (kI 0)]) (.block 0 aJ8)) (.seq (.seq (.ops [.fa 20 9 1,.ld 21 1 false 20,.len 22 21,.mv 23 (kI 0)]) (.block 2 aC9)) (.seq (.ops [.mv 32 3,.bin 33 .add (kI 1) 32,.asg 2 33]) .ret)))))
theorem bI6:bQ Tryz.prog 354=some (aP2,[.mv 0 2],34):=by kernel_rfl
def aFp (r:Int):Exit→St→Prop:=bP [.mv 0 2] fun x _=>x=(fun y=>(vI y)) r
def bI0 (r:Int):Exit→St→Prop:=(cZ (wkK (avc Tryz.prog (.seq (.seq (.ops [.fa 20 9 1,.ld 21 1 false 20,.len 22 21,.mv 23 (.c (.d (.i .i64 0)))]) (.block 2 aC9)) (.seq (.ops [.mv 32 3,.bin 33 .add (.c (.d (.i .i64 1))) 32,.asg 2 33]) .ret)) (aFp r))) (aFp r))
def aTm (r:Int):Exit→St→Prop:=(dD 0 (bI0 r))
def bQ1 (r:Int):Exit→St→Prop:=(cZ (wkK (avc Tryz.prog (.seq (.ops [.mv 32 3,.bin 33 .add (.c (.d (.i .i64 1))) 32,.asg 2 33]) .ret) (aFp r))) (aFp r))
def aP0 (r:Int):Exit→St→Prop:=(dD 2 (bQ1 r))
def Z0 (p0:aA) (x3:Int) (x11:Int):St:=⟨[(1,(.ptr 1 0)),(3,(vI x3)),(9,(aQ p0.kids)),(10,(vI (p0.kids.length:Int))),(11,(vI x11))],[(1,eF p0)]⟩
def aDf (p0:aA) (dW:Int) (x23:Int):St:=⟨[(3,(vI dW)),(21,(bV p0.sub)),(22,(vI (p0.sub.length:Int))),(23,(vI x23))],[]⟩
def aI3:AC:=(.loop (.seq (.ops [.bin 50 .lss 49 48]) (.seq (.cond 50 .skip (.exit 0)) (.seq (.block 1 (.seq (.ops [.ia 51 13 47 49,.ld 52 13 true 51,.alc 4 uJ,.st 13 4 52]) (.seq (.ops [.fa 53 0 4,.ld 54 1 false 53,.mv 55 54,.g 55 true (.fa 56 1 4),.g 55 true (.ld 57 1 false 56),.g 55 true (.call (some 58) 316 [57]),.g 55 true (.not 59 58),.g 55 true (.mv 60 59),.g 60 false (.fa 61 12 4),.g 60 false (.ld 62 1 false 61),.g 60 false (.bin 63 .neq 62 (.c (.d (.s (bs []))))),.g 55 true (.pick 64 60 (kB true) 63),.g 55 true (.mv 65 64),.g 65 false (.fa 66 2 4),.g 65 false (.ld 67 10 true 66),.g 65 false (.call (some 68) 317 [67]),.g 65 false (.not 69 68),.g 55 true (.pick 70 65 (kB true) 69),.pick 71 55 70 (kB false),.mv 72 71,.g 72 false (.fa 73 0 4),.g 72 false (.ld 74 1 false 73),.g 72 false (.not 75 74),.g 72 false (.mv 76 75),.g 76 true (.fa 77 1 4),.g 76 true (.ld 78 1 false 77),.g 76 true (.bin 79 .neq 78 (.c (.d (.s (bs []))))),.g 76 true (.mv 80 79),.g 80 false (.fa 81 12 4),.g 80 false (.ld 82 1 false 81),.g 80 false (.call (some 83) 316 [82]),.g 80 false (.not 84 83),.g 76 true (.pick 85 80 (kB true) 84),.g 72 false (.pick 86 76 85 (kB false)),.pick 87 72 (kB true) 86]) (.cond 87 (.seq (.ops [.asg 2 (kB false)]) .ret) .skip)))) (.ops [.bin 88 .add 49 (kI 1),.mv 49 88])))))
def aDg:AC:=(.loop (.seq (.ops [.bin 93 .lss 92 91]) (.seq (.cond 93 .skip (.exit 2)) (.seq (.block 3 (.seq (.ops [.mv 94 92,.ia 95 3 90 92,.ld 96 3 true 95,.alc 6 [eP,eP,(.nil 10)],.asg 5 94,.st 3 6 96]) (.seq (.ops [.fa 97 0 6,.ld 98 1 false 97,.call (some 99) 263 [98],.not 100 99,.mv 101 100,.g 101 false (.fa 102 1 6),.g 101 false (.ld 103 1 false 102),.g 101 false (.call (some 104) 316 [103]),.g 101 false (.not 105 104),.pick 106 101 (kB true) 105,.mv 107 106,.g 107 false (.fa 108 2 6),.g 107 false (.ld 109 1 false 108),.g 107 false (.len 110 109),.g 107 false (.bin 111 .gtr 110 (kI 1)),.pick 112 107 (kB true) 111,.mv 113 112,.g 113 false (.mv 114 5),.g 113 false (.bin 115 .eql 114 (kI 0)),.g 113 false (.mv 116 115),.g 116 true (.fa 117 2 6),.g 116 true (.ld 118 1 false 117),.g 116 true (.len 119 118),.g 116 true (.bin 120 .gtr 119 (kI 0)),.g 113 false (.pick 121 116 120 (kB false)),.pick 122 113 (kB true) 121]) (.cond 122 (.seq (.ops [.asg 2 (kB false)]) .ret) .skip)))) (.ops [.bin 123 .add 92 (kI 1),.mv 92 123])))))
def aO5:AC:=(.seq (.ops [.box 1 43 0,.asg 2 (kB false)]) (.seq (.seq (.ops [.fa 7 1 1,.ld 8 1 false 7,.len 9 8,.bin 10 .lss 9 (kI 1),.mv 11 10,.g 11 false (.fa 12 1 1),.g 11 false (.ld 13 1 false 12),.g 11 false (.len 14 13),.g 11 false (.bin 15 .gtr 14 (kI 12)),.pick 16 11 (kB true) 15,.mv 17 16,.g 17 false (.fa 18 2 1),.g 17 false (.ld 19 1 false 18),.g 17 false (.len 20 19),.g 17 false (.bin 21 .lss 20 (kI 1)),.pick 22 17 (kB true) 21,.mv 23 22,.g 23 false (.fa 24 2 1),.g 23 false (.ld 25 1 false 24),.g 23 false (.len 26 25),.g 23 false (.bin 27 .gtr 26 (kI 3)),.pick 28 23 (kB true) 27,.mv 29 28,.g 29 false (.fa 30 3 1),.g 29 false (.ld 31 1 false 30),.g 29 false (.len 32 31),.g 29 false (.bin 33 .gtr 32 (kI 1)),.pick 34 29 (kB true) 33,.mv 35 34,.g 35 false (.fa 36 4 1),.g 35 false (.ld 37 1 false 36),.g 35 false (.len 38 37),.g 35 false (.bin 39 .gtr 38 (kI 12)),.pick 40 35 (kB true) 39,.mv 41 40,.g 41 false (.fa 42 5 1),.g 41 false (.ld 43 1 false 42),.g 41 false (.bin 44 .lss 43 (kI (-1))),.pick 45 41 (kB true) 44]) (.cond 45 (.seq (.ops [.asg 2 (kB false)]) .ret) .skip)) (.seq (.seq (.ops [.fa 46 1 1,.ld 47 1 false 46,.len 48 47,.mv 49 (kI 0)]) (.block 0 aI3)) (.seq (.seq (.ops [.fa 89 2 1,.ld 90 1 false 89,.len 91 90,.mv 92 (kI 0)]) (.block 2 aDg)) (.seq (.ops [.ld 124 6 true 1,.call (some 125) 314 [124],.call (some 126) 318 [125],.asg 2 126]) .ret)))))
theorem bL8:bQ Tryz.prog 240=some (aO5,[.mv 0 2],127):=by kernel_rfl
def aIg (r:Bool):Exit→St→Prop:=bP [.mv 0 2] fun x _=>x=(fun y=>(vB y)) r
def bQ4 (r:Bool):Exit→St→Prop:=(cZ (wkK (avc Tryz.prog (.seq (.seq (.ops [.fa 89 2 1,.ld 90 1 false 89,.len 91 90,.mv 92 (.c (.d (.i .i64 0)))]) (.block 2 aDg)) (.seq (.ops [.ld 124 6 true 1,.call (some 125) 314 [124],.call (some 126) 318 [125],.asg 2 126]) .ret)) (aIg r))) (aIg r))
def aS1 (r:Bool):Exit→St→Prop:=(dD 0 (bQ4 r))
def bJt (r:Bool):Exit→St→Prop:=(cZ (wkK (avc Tryz.prog (.seq (.ops [.ld 124 6 true 1,.call (some 125) 314 [124],.call (some 126) 318 [125],.asg 2 126]) .ret) (aIg r))) (aIg r))
def aQ6 (r:Bool):Exit→St→Prop:=(dD 2 (bJt r))
def aCw (p0:aJ) (x49:Int):St:=⟨[(1,(.ptr 1 0)),(47,(bS p0.items)),(48,(vI (p0.items.length:Int))),(49,(vI x49))],[(1,bL p0)]⟩
def aD2 (p0:aJ) (x92:Int):St:=⟨[(1,(.ptr 1 0)),(90,(bC p0.from_)),(91,(vI (p0.from_.length:Int))),(92,(vI x92))],[(1,bL p0)]⟩
def aO1:AC:=(.seq (.ops [.asg 2 (kB false)]) (.seq (.ops [.mv 3 0,.bin 4 .eql 3 (.c (.d (.s (bs [])))),.mv 5 4,.g 5 false (.mv 6 0),.g 5 false (.call (some 7) 263 [6]),.pick 8 5 (kB true) 7,.asg 2 8]) .ret))
theorem bVx:bQ Tryz.prog 316=some (aO1,[.mv 0 2],9):=by kernel_rfl
def bKa (r:Bool):Exit→St→Prop:=bP [.mv 0 2] fun x _=>x=(fun y=>(vB y)) r
def aXr:AC:=(.seq (.ops [.asg 2 (kB false)]) (.seq (.ops [.mv 3 0,.lns 4 3,.bin 5 .geq 4 (kI 1),.mv 6 5,.g 6 true (.mv 7 0),.g 6 true (.lns 8 7),.g 6 true (.bin 9 .leq 8 (kI 20)),.pick 10 6 9 (kB false),.asg 2 10]) .ret))
theorem bNg:bQ Tryz.prog 263=some (aXr,[.mv 0 2],11):=by kernel_rfl
def bG2 (r:Bool):Exit→St→Prop:=bP [.mv 0 2] fun x _=>x=(fun y=>(vB y)) r
def aXq:AC:=(.seq (.ops [.asg 2 (kB false)]) (.seq (.ops [.mv 3 0,.call (some 4) 357 [3,(.c (.fn 358 []))],.not 5 4,.asg 2 5]) .ret))
theorem bK1:bQ Tryz.prog 318=some (aXq,[.mv 0 2],6):=by kernel_rfl
def bU1 (r:Bool):Exit→St→Prop:=bP [.mv 0 2] fun x _=>x=(fun y=>(vB y)) r
def aPx:AC:=(.seq (.ops [.asg 4 (kB false)]) (.seq (.ops [.mv 5 0,.mv 6 1,.call (some 7) 374 [5,6],.bin 8 .geq 7 (kI 0),.asg 4 8]) .ret))
theorem bH0:bQ Tryz.prog 357=some (aPx,[.mv 0 4],9):=by kernel_rfl
def bM4 (r:Bool):Exit→St→Prop:=bP [.mv 0 4] fun x _=>x=(fun y=>(vB y)) r
def aHm:AC:=(.loop (.seq (.ops [.bin 9 .lss 8 7]) (.seq (.cond 9 .skip (.exit 0)) (.seq (.block 1 (.seq (.ops [.mv 10 8,.asg 5 10]) (.seq (.ops [.mv 11 1,.mv 12 0,.mv 13 5,.ia 14 10 12 13,.ld 15 10 true 14,.callv (some 16) 11 [15]]) (.cond 16 (.seq (.ops [.mv 17 5,.asg 4 17]) .ret) .skip)))) (.ops [.bin 18 .add 8 (kI 1),.mv 8 18])))))
def aO2:AC:=(.seq (.ops [.asg 4 (kI 0)]) (.seq (.seq (.ops [.mv 6 0,.len 7 6,.mv 8 (kI 0)]) (.block 0 aHm)) (.seq (.ops [.asg 4 (kI (-1))]) .ret)))
theorem bK2:bQ Tryz.prog 374=some (aO2,[.mv 0 4],19):=by kernel_rfl
def aR9 (r:Int):Exit→St→Prop:=bP [.mv 0 4] fun x _=>x=(fun y=>(vI y)) r
def bNp (r:Int):Exit→St→Prop:=(cZ (wkK (avc Tryz.prog (.seq (.ops [.asg 4 (.c (.d (.i .i64 (-1))))]) .ret) (aR9 r))) (aR9 r))
def aQz (r:Int):Exit→St→Prop:=(dD 0 (bNp r))
def K9 (p0:(List aA)) (x8:Int):St:=⟨[(0,(aQ p0)),(1,(.fn 358 [])),(7,(vI (p0.length:Int))),(8,(vI x8))],[]⟩
def aOz:AC:=(.seq (.ops [.box 1 111 0,.asg 2 (kB false)]) (.seq (.ops [.ld 3 10 true 1,.call (some 4) 359 [3],.not 5 4,.asg 2 5]) .ret))
theorem bT1:bQ Tryz.prog 358=some (aOz,[.mv 0 2],6):=by kernel_rfl
def bRb (r:Bool):Exit→St→Prop:=bP [.mv 0 2] fun x _=>x=(fun y=>(vB y)) r
def aTy:AC:=(.seq (.ops [.box 1 111 0,.asg 2 (kB false)]) (.seq (.ops [.ld 6 10 true 1,.call (some 7) 286 [6],.mv 5 7,.ext 8 5 0,.ext 9 5 1,.alc 3 bA4,.st 7 3 8,.asg 4 9]) (.seq (.seq (.ops [.mv 10 4,.not 11 10,.mv 12 11,.g 12 false (.fa 13 0 3),.g 12 false (.ld 14 1 false 13),.g 12 false (.not 15 14),.g 12 false (.mv 16 15),.g 16 true (.fa 17 1 1),.g 16 true (.ld 18 1 false 17),.g 16 true (.bin 19 .neq 18 (kI 0)),.g 12 false (.pick 20 16 19 (kB false)),.pick 21 12 (kB true) 20,.mv 22 21,.g 22 false (.fa 23 1 3),.g 22 false (.ld 24 1 false 23),.g 22 false (.not 25 24),.g 22 false (.mv 26 25),.g 26 true (.fa 27 2 1),.g 26 true (.ld 28 1 false 27),.g 22 false (.pick 29 26 28 (kB false)),.pick 30 22 (kB true) 29,.mv 31 30,.g 31 false (.fa 32 2 3),.g 31 false (.ld 33 1 false 32),.g 31 false (.not 34 33),.g 31 false (.mv 35 34),.g 35 true (.fa 36 3 1),.g 35 true (.ld 37 3 true 36),.g 35 true (.bld 38 [dL,dL,eP] []),.g 35 true (.eqv 39 true [0,0,1] 37 38),.g 31 false (.pick 40 35 39 (kB false)),.pick 41 31 (kB true) 40,.mv 42 41,.g 42 false (.fa 43 3 3),.g 42 false (.ld 44 1 false 43),.g 42 false (.not 45 44),.g 42 false (.mv 46 45),.g 46 true (.fa 47 6 1),.g 46 true (.ld 48 1 false 47),.g 46 true (.bin 49 .neq 48 (.c (.d (.s (bs []))))),.g 46 true (.mv 50 49),.g 50 false (.fa 51 7 1),.g 50 false (.ld 52 1 false 51),.g 50 false (.bin 53 .neq 52 (.c (.d (.s (bs []))))),.g 46 true (.pick 54 50 (kB true) 53),.g 42 false (.pick 55 46 54 (kB false)),.pick 56 42 (kB true) 55]) (.cond 56 (.seq (.ops [.asg 2 (kB false)]) .ret) .skip)) (.seq (.seq (.ops [.fa 57 8 1,.ld 58 1 false 57,.len 59 58,.fa 60 4 3,.ld 61 1 false 60,.bin 62 .lss 59 61,.mv 63 62,.g 63 false (.fa 64 8 1),.g 63 false (.ld 65 1 false 64),.g 63 false (.len 66 65),.g 63 false (.fa 67 5 3),.g 63 false (.ld 68 1 false 67),.g 63 false (.bin 69 .gtr 66 68),.pick 70 63 (kB true) 69,.mv 71 70,.g 71 false (.fa 72 9 1),.g 71 false (.ld 73 1 false 72),.g 71 false (.len 74 73),.g 71 false (.fa 75 6 3),.g 71 false (.ld 76 1 false 75),.g 71 false (.bin 77 .neq 74 76),.pick 78 71 (kB true) 77]) (.cond 78 (.seq (.ops [.asg 2 (kB false)]) .ret) .skip)) (.seq (.ops [.fa 79 8 1,.ld 80 1 false 79,.call (some 81) 318 [80],.mv 82 81,.g 82 true (.fa 83 9 1),.g 82 true (.ld 84 1 false 83),.g 82 true (.call (some 85) 375 [84,(.c (.fn 376 []))]),.g 82 true (.not 86 85),.pick 87 82 86 (kB false),.asg 2 87]) .ret)))))
theorem bXk:bQ Tryz.prog 359=some (aTy,[.mv 0 2],88):=by kernel_rfl
def bQ8 (r:Bool):Exit→St→Prop:=bP [.mv 0 2] fun x _=>x=(fun y=>(vB y)) r
def aTr:AC:=(.seq (.ops [.asg 4 (kB false)]) (.seq (.ops [.mv 5 0,.mv 6 1,.call (some 7) 388 [5,6],.bin 8 .geq 7 (kI 0),.asg 4 8]) .ret))
theorem bM0:bQ Tryz.prog 375=some (aTr,[.mv 0 4],9):=by kernel_rfl
def bRe (r:Bool):Exit→St→Prop:=bP [.mv 0 4] fun x _=>x=(fun y=>(vB y)) r
def aEe:AC:=(.loop (.seq (.ops [.bin 9 .lss 8 7]) (.seq (.cond 9 .skip (.exit 0)) (.seq (.block 1 (.seq (.ops [.mv 10 8,.asg 5 10]) (.seq (.ops [.mv 11 1,.mv 12 0,.mv 13 5,.ia 14 6 12 13,.ld 15 6 true 14,.callv (some 16) 11 [15]]) (.cond 16 (.seq (.ops [.mv 17 5,.asg 4 17]) .ret) .skip)))) (.ops [.bin 18 .add 8 (kI 1),.mv 8 18])))))
def aYc:AC:=(.seq (.ops [.asg 4 (kI 0)]) (.seq (.seq (.ops [.mv 6 0,.len 7 6,.mv 8 (kI 0)]) (.block 0 aEe)) (.seq (.ops [.asg 4 (kI (-1))]) .ret)))
theorem bYd:bQ Tryz.prog 388=some (aYc,[.mv 0 4],19):=by kernel_rfl
def aQf (r:Int):Exit→St→Prop:=bP [.mv 0 4] fun x _=>x=(fun y=>(vI y)) r
def bU8 (r:Int):Exit→St→Prop:=(cZ (wkK (avc Tryz.prog (.seq (.ops [.asg 4 (.c (.d (.i .i64 (-1))))]) .ret) (aQf r))) (aQf r))
def aY9 (r:Int):Exit→St→Prop:=(dD 0 (bU8 r))
def aA3 (p0:(List aJ)) (x8:Int):St:=⟨[(0,(bV p0)),(1,(.fn 376 [])),(7,(vI (p0.length:Int))),(8,(vI x8))],[]⟩
def aSl:AC:=(.seq (.ops [.box 1 43 0,.asg 2 (kB false)]) (.seq (.ops [.ld 3 6 true 1,.call (some 4) 240 [3],.not 5 4,.asg 2 5]) .ret))
theorem bNj:bQ Tryz.prog 376=some (aSl,[.mv 0 2],6):=by kernel_rfl
def bI9 (r:Bool):Exit→St→Prop:=bP [.mv 0 2] fun x _=>x=(fun y=>(vB y)) r
def aVs:AC:=(.seq (.ops [.box 1 111 0,.alc 2 bA4,.asg 3 (kB false)]) (.seq (.seq (.ops [.fa 4 0 1,.ld 5 1 false 4]) (.block 0 (.seq (.ops [.bin 7 .eql 5 (kI 1),.asg 6 7]) (.cond 6 (.seq (.ops [.bld 8 [gU,gU,gU,gU,dL,dL,dL] [(2,1,(kB true))],.fa 9 3 1,.ld 10 3 true 9,.call (some 11) 337 [10],.st 7 2 8,.asg 3 11]) .ret) (.seq (.ops [.bin 13 .eql 5 (kI 2),.asg 12 13]) (.cond 12 (.seq (.ops [.bld 14 [gU,gU,gU,gU,dL,dL,dL] [(3,1,(kB true))],.fa 15 7 1,.ld 16 1 false 15,.call (some 17) 263 [16],.mv 18 17,.g 18 true (.fa 19 6 1),.g 18 true (.ld 20 1 false 19),.g 18 true (.bin 21 .eql 20 (.c (.d (.s (bs []))))),.g 18 true (.mv 22 21),.g 22 false (.fa 23 6 1),.g 22 false (.ld 24 1 false 23),.g 22 false (.call (some 25) 263 [24]),.g 18 true (.pick 26 22 (kB true) 25),.pick 27 18 26 (kB false),.st 7 2 14,.asg 3 27]) .ret) (.seq (.ops [.bin 29 .eql 5 (kI 3),.asg 28 29]) (.cond 28 (.seq (.dops [[],[],[1],[2],[3],[4],[5,4],[6,4],[4,7],[0,4,0],[8,9,0,1,2,3,4,5,6,7,8,9]] [.bld 30 [gU,gU,gU,gU,dL,dL,dL] [(0,1,(kB true)),(4,1,(kI 1)),(5,1,(kI 1))],.fa 31 1 1,.ld 32 1 false 31,.bin 33 .eql 32 (kI 15),.mv 34 33,.g 34 false (.fa 35 1 1),.g 34 false (.ld 36 1 false 35),.g 34 false (.bin 37 .eql 36 (kI 16)),.pick 38 34 (kB true) 37,.st 7 2 30,.asg 3 38]) .ret) (.seq (.ops [.bin 40 .eql 5 (kI 4),.asg 39 40]) (.cond 39 (.seq (.dops [[],[],[1],[2],[3],[4],[5,4],[6,4],[4,7],[0,4,0],[8,9,0,1,2,3,4,5,6,7,8,9]] [.bld 41 [gU,gU,gU,gU,dL,dL,dL] [(0,1,(kB true)),(4,1,(kI 2)),(5,1,(kI 2))],.fa 42 1 1,.ld 43 1 false 42,.bin 44 .geq 43 (kI 1),.mv 45 44,.g 45 true (.fa 46 1 1),.g 45 true (.ld 47 1 false 46),.g 45 true (.bin 48 .leq 47 (kI 14)),.pick 49 45 48 (kB false),.st 7 2 41,.asg 3 49]) .ret) (.seq (.ops [.bin 51 .eql 5 (kI 5),.asg 50 51]) (.cond 50 (.seq (.ops [.bld 52 [gU,gU,gU,gU,dL,dL,dL] [(1,1,(kB true)),(4,1,(kI 1)),(5,1,(kI 1))],.st 7 2 52,.asg 3 (kB true)]) .ret) (.seq (.ops [.bin 54 .eql 5 (kI 6),.asg 53 54]) (.cond 53 (.seq (.ops [.bld 55 [gU,gU,gU,gU,dL,dL,dL] [(1,1,(kB true)),(4,1,(kI 3)),(5,1,(kI 3))],.st 7 2 55,.asg 3 (kB true)]) .ret) (.seq (.ops [.bin 57 .eql 5 (kI 7),.asg 56 57]) (.cond 56 (.seq (.ops [.bld 58 [gU,gU,gU,gU,dL,dL,dL] [(1,1,(kB true)),(4,1,(kI 2)),(5,1,(kI 9))],.st 7 2 58,.asg 3 (kB true)]) .ret) (.seq (.ops [.bin 60 .eql 5 (kI 8),.asg 59 60]) (.cond 59 (.seq (.ops [.bld 61 [gU,gU,gU,gU,dL,dL,dL] [(1,1,(kB true)),(4,1,(kI 1)),(5,1,(kI 1)),(6,1,(kI 1))],.st 7 2 61,.asg 3 (kB true)]) .ret) (.seq (.ops [.bin 63 .eql 5 (kI 9),.asg 62 63]) (.cond 62 (.seq (.ops [.bld 64 [gU,gU,gU,gU,dL,dL,dL] [(6,1,(kI 1))],.st 7 2 64,.asg 3 (kB true)]) .ret) .skip)))))))))))))))))))) (.seq (.ops [.bld 65 [gU,gU,gU,gU,dL,dL,dL] [],.st 7 2 65,.asg 3 (kB false)]) .ret)))
theorem bS2:bQ Tryz.prog 286=some (aVs,[.ld 0 7 true 2,.mv 0 3],66):=by kernel_rfl
def bR0 (r:gQ×Bool):Exit→St→Prop:=bP [.ld 0 7 true 2,.mv 0 3] fun x _=>x=(fun y=>(.tup [(kX y.1),(vB y.2)])) r
def aQ1:AC:=(.seq (.ops [.box 1 82 0,.asg 2 (kB false)]) (.seq (.ops [.ld 3 3 true 1,.call (some 4) 290 [3],.mv 5 4,.g 5 true (.fa 6 0 1),.g 5 true (.ld 7 1 false 6),.g 5 true (.bin 8 .neq 7 (kI 1)),.g 5 true (.mv 9 8),.g 9 false (.fa 10 1 1),.g 9 false (.ld 11 1 false 10),.g 9 false (.bin 12 .geq 11 (kI 0)),.g 5 true (.pick 13 9 (kB true) 12),.pick 14 5 13 (kB false),.mv 15 14,.g 15 true (.fa 16 2 1),.g 15 true (.ld 17 1 false 16),.g 15 true (.lns 18 17),.g 15 true (.bin 19 .leq 18 (kI 40)),.pick 20 15 19 (kB false),.asg 2 20]) .ret))
theorem bKn:bQ Tryz.prog 337=some (aQ1,[.mv 0 2],21):=by kernel_rfl
def bMu (r:Bool):Exit→St→Prop:=bP [.mv 0 2] fun x _=>x=(fun y=>(vB y)) r
def aS9:AC:=(.seq (.ops [.box 1 82 0,.asg 2 (kB false)]) (.seq (.seq (.ops [.fa 3 0 1,.ld 4 1 false 3]) (.block 0 (.seq (.ops [.bin 6 .eql 4 (kI 0),.asg 5 6]) (.cond 5 (.seq (.ops [.fa 7 1 1,.ld 8 1 false 7,.bin 9 .eql 8 (kI 0),.mv 10 9,.g 10 true (.fa 11 2 1),.g 10 true (.ld 12 1 false 11),.g 10 true (.bin 13 .eql 12 (.c (.d (.s (bs []))))),.pick 14 10 13 (kB false),.asg 2 14]) .ret) (.seq (.ops [.bin 16 .eql 4 (kI 1),.asg 15 16]) (.cond 15 (.seq (.ops [.fa 17 2 1,.ld 18 1 false 17,.bin 19 .eql 18 (.c (.d (.s (bs [])))),.asg 2 19]) .ret) (.seq (.ops [.bin 21 .eql 4 (kI 2),.asg 20 21]) (.cond 20 (.seq (.ops [.fa 22 1 1,.ld 23 1 false 22,.bin 24 .eql 23 (kI 0),.mv 25 24,.g 25 true (.fa 26 2 1),.g 25 true (.ld 27 1 false 26),.g 25 true (.lns 28 27),.g 25 true (.bin 29 .leq 28 (kI 200)),.pick 30 25 29 (kB false),.asg 2 30]) .ret) (.seq (.ops [.bin 32 .eql 4 (kI 3),.asg 31 32]) (.cond 31 (.seq (.ops [.fa 33 1 1,.ld 34 1 false 33,.bin 35 .eql 34 (kI 0),.mv 36 35,.g 36 false (.fa 37 1 1),.g 36 false (.ld 38 1 false 37),.g 36 false (.bin 39 .eql 38 (kI 1)),.pick 40 36 (kB true) 39,.mv 41 40,.g 41 true (.fa 42 2 1),.g 41 true (.ld 43 1 false 42),.g 41 true (.bin 44 .eql 43 (.c (.d (.s (bs []))))),.pick 45 41 44 (kB false),.asg 2 45]) .ret) .skip)))))))))) (.seq (.ops [.asg 2 (kB false)]) .ret)))
theorem bQh:bQ Tryz.prog 290=some (aS9,[.mv 0 2],46):=by kernel_rfl
def bTn (r:Bool):Exit→St→Prop:=bP [.mv 0 2] fun x _=>x=(fun y=>(vB y)) r
def aP1:AC:=(.seq (.ops [.box 1 111 0,.asg 2 (kB false)]) (.seq (.ops [.ld 3 10 true 1,.bld 4 [dL,dL,gU,dL,dL,eP,eP,eP,(.nil 10),(.nil 6)] [],.call (some 5) 356 [3,4],.asg 2 5]) .ret))
theorem bI7:bQ Tryz.prog 317=some (aP1,[.mv 0 2],6):=by kernel_rfl
def bTi (r:Bool):Exit→St→Prop:=bP [.mv 0 2] fun x _=>x=(fun y=>(vB y)) r
def aW4:AC:=(.seq (.ops [.box 2 111 0,.box 3 111 1,.asg 4 (kB false)]) (.seq (.ops [.fa 5 0 2,.ld 6 1 false 5,.fa 7 0 3,.ld 8 1 false 7,.bin 9 .eql 6 8,.mv 10 9,.g 10 true (.fa 11 1 2),.g 10 true (.ld 12 1 false 11),.g 10 true (.fa 13 1 3),.g 10 true (.ld 14 1 false 13),.g 10 true (.bin 15 .eql 12 14),.pick 16 10 15 (kB false),.mv 17 16,.g 17 true (.fa 18 2 2),.g 17 true (.ld 19 1 false 18),.g 17 true (.fa 20 2 3),.g 17 true (.ld 21 1 false 20),.g 17 true (.eqb 22 false 19 21),.pick 23 17 22 (kB false),.mv 24 23,.g 24 true (.fa 25 3 2),.g 24 true (.ld 26 3 true 25),.g 24 true (.fa 27 3 3),.g 24 true (.ld 28 3 true 27),.g 24 true (.eqv 29 false [0,0,1] 26 28),.pick 30 24 29 (kB false),.mv 31 30,.g 31 true (.fa 32 6 2),.g 31 true (.ld 33 1 false 32),.g 31 true (.fa 34 6 3),.g 31 true (.ld 35 1 false 34),.g 31 true (.bin 36 .eql 33 35),.pick 37 31 36 (kB false),.mv 38 37,.g 38 true (.fa 39 7 2),.g 38 true (.ld 40 1 false 39),.g 38 true (.fa 41 7 3),.g 38 true (.ld 42 1 false 41),.g 38 true (.bin 43 .eql 40 42),.pick 44 38 43 (kB false),.mv 45 44,.g 45 true (.fa 46 8 2),.g 45 true (.ld 47 1 false 46),.g 45 true (.fa 48 8 3),.g 45 true (.ld 49 1 false 48),.g 45 true (.call (some 50) 371 [47,49]),.pick 51 45 50 (kB false),.mv 52 51,.g 52 true (.fa 53 9 2),.g 52 true (.ld 54 1 false 53),.g 52 true (.fa 55 9 3),.g 52 true (.ld 56 1 false 55),.g 52 true (.call (some 57) 372 [54,56,(.c (.fn 373 []))]),.pick 58 52 57 (kB false),.asg 4 58]) .ret))
theorem bX2:bQ Tryz.prog 356=some (aW4,[.mv 0 4],59):=by kernel_rfl
def bT4 (r:Bool):Exit→St→Prop:=bP [.mv 0 4] fun x _=>x=(fun y=>(vB y)) r
def aWz:AC:=(.seq (.ops [.asg 4 (kB false)]) (.seq (.ops [.mv 5 0,.mv 6 1,.call (some 7) 381 [5,6,(.c (.fn 356 []))],.asg 4 7]) .ret))
theorem bYl:bQ Tryz.prog 371=some (aWz,[.mv 0 4],8):=by kernel_rfl
def bX9 (r:Bool):Exit→St→Prop:=bP [.mv 0 4] fun x _=>x=(fun y=>(vB y)) r
def aFd:AC:=(.loop (.seq (.ops [.bin 18 .lss 17 16]) (.seq (.cond 18 .skip (.exit 0)) (.seq (.block 1 (.seq (.ops [.mv 19 17,.ia 20 10 15 17,.ld 21 10 true 20,.alc 8 xA,.asg 7 19,.st 10 8 21]) (.seq (.ops [.mv 22 1,.mv 23 7,.ia 24 10 22 23,.ld 25 10 true 24,.alc 9 xA,.st 10 9 25]) (.seq (.ops [.mv 26 2,.ld 27 10 true 8,.ld 28 10 true 9,.callv (some 29) 26 [27,28],.not 30 29]) (.cond 30 (.seq (.ops [.asg 6 (kB false)]) .ret) .skip))))) (.ops [.bin 31 .add 17 (kI 1),.mv 17 31])))))
def aNx:AC:=(.seq (.ops [.asg 6 (kB false)]) (.seq (.seq (.ops [.mv 10 0,.len 11 10,.mv 12 1,.len 13 12,.bin 14 .neq 11 13]) (.cond 14 (.seq (.ops [.asg 6 (kB false)]) .ret) .skip)) (.seq (.seq (.ops [.mv 15 0,.len 16 15,.mv 17 (kI 0)]) (.block 0 aFd)) (.seq (.ops [.asg 6 (kB true)]) .ret))))
theorem bLj:bQ Tryz.prog 381=some (aNx,[.mv 0 6],32):=by kernel_rfl
def aOd (r:Bool):Exit→St→Prop:=bP [.mv 0 6] fun x _=>x=(fun y=>(vB y)) r
def bM7 (r:Bool):Exit→St→Prop:=(cZ (wkK (avc Tryz.prog (.seq (.ops [.asg 6 (.c (.d (.b true)))]) .ret) (aOd r))) (aOd r))
def aX5 (r:Bool):Exit→St→Prop:=(dD 0 (bM7 r))
def O4 (p1:(List aA)) (p0:(List aA)) (x17:Int):St:=⟨[(1,(aQ p1)),(2,(.fn 356 [])),(15,(aQ p0)),(16,(vI (p0.length:Int))),(17,(vI x17))],[]⟩
def aF1:AC:=(.loop (.seq (.ops [.bin 18 .lss 17 16]) (.seq (.cond 18 .skip (.exit 0)) (.seq (.block 1 (.seq (.ops [.mv 19 17,.ia 20 6 15 17,.ld 21 6 true 20,.alc 8 xI,.asg 7 19,.st 6 8 21]) (.seq (.ops [.mv 22 1,.mv 23 7,.ia 24 6 22 23,.ld 25 6 true 24,.alc 9 xI,.st 6 9 25]) (.seq (.ops [.mv 26 2,.ld 27 6 true 8,.ld 28 6 true 9,.callv (some 29) 26 [27,28],.not 30 29]) (.cond 30 (.seq (.ops [.asg 6 (kB false)]) .ret) .skip))))) (.ops [.bin 31 .add 17 (kI 1),.mv 17 31])))))
def aUs:AC:=(.seq (.ops [.asg 6 (kB false)]) (.seq (.seq (.ops [.mv 10 0,.len 11 10,.mv 12 1,.len 13 12,.bin 14 .neq 11 13]) (.cond 14 (.seq (.ops [.asg 6 (kB false)]) .ret) .skip)) (.seq (.seq (.ops [.mv 15 0,.len 16 15,.mv 17 (kI 0)]) (.block 0 aF1)) (.seq (.ops [.asg 6 (kB true)]) .ret))))
theorem bPr:bQ Tryz.prog 372=some (aUs,[.mv 0 6],32):=by kernel_rfl
def aYn (r:Bool):Exit→St→Prop:=bP [.mv 0 6] fun x _=>x=(fun y=>(vB y)) r
def bPp (r:Bool):Exit→St→Prop:=(cZ (wkK (avc Tryz.prog (.seq (.ops [.asg 6 (.c (.d (.b true)))]) .ret) (aYn r))) (aYn r))
def aNf (r:Bool):Exit→St→Prop:=(dD 0 (bPp r))
def aDe (p1:(List aJ)) (p0:(List aJ)) (x17:Int):St:=⟨[(1,(bV p1)),(2,(.fn 373 [])),(15,(bV p0)),(16,(vI (p0.length:Int))),(17,(vI x17))],[]⟩
def aPt:AC:=(.seq (.ops [.box 2 43 0,.box 3 43 1,.asg 4 (kB false)]) (.seq (.ops [.asg 5 (.c (.fn 382 []))]) (.seq (.ops [.asg 6 (.c (.fn 383 []))]) (.seq (.ops [.asg 7 (.c (.fn 384 []))]) (.seq (.ops [.fa 8 0 2,.ld 9 1 false 8,.fa 10 0 3,.ld 11 1 false 10,.eqb 12 false 9 11,.mv 13 12,.g 13 true (.fa 14 5 2),.g 13 true (.ld 15 1 false 14),.g 13 true (.fa 16 5 3),.g 13 true (.ld 17 1 false 16),.g 13 true (.bin 18 .eql 15 17),.pick 19 13 18 (kB false),.mv 20 19,.g 20 true (.fa 21 1 2),.g 20 true (.ld 22 1 false 21),.g 20 true (.fa 23 1 3),.g 20 true (.ld 24 1 false 23),.g 20 true (.mv 25 5),.g 20 true (.call (some 26) 385 [22,24,25]),.pick 27 20 26 (kB false),.mv 28 27,.g 28 true (.fa 29 2 2),.g 28 true (.ld 30 1 false 29),.g 28 true (.fa 31 2 3),.g 28 true (.ld 32 1 false 31),.g 28 true (.mv 33 6),.g 28 true (.call (some 34) 386 [30,32,33]),.pick 35 28 34 (kB false),.mv 36 35,.g 36 true (.fa 37 3 2),.g 36 true (.ld 38 1 false 37),.g 36 true (.fa 39 3 3),.g 36 true (.ld 40 1 false 39),.g 36 true (.call (some 41) 371 [38,40]),.pick 42 36 41 (kB false),.mv 43 42,.g 43 true (.fa 44 4 2),.g 43 true (.ld 45 1 false 44),.g 43 true (.fa 46 4 3),.g 43 true (.ld 47 1 false 46),.g 43 true (.mv 48 7),.g 43 true (.call (some 49) 387 [45,47,48]),.pick 50 43 49 (kB false),.asg 4 50]) .ret)))))
theorem bIx:bQ Tryz.prog 373=some (aPt,[.mv 0 4],51):=by kernel_rfl
def bUn (r:Bool):Exit→St→Prop:=bP [.mv 0 4] fun x _=>x=(fun y=>(vB y)) r
def aHr:AC:=(.loop (.seq (.ops [.bin 18 .lss 17 16]) (.seq (.cond 18 .skip (.exit 0)) (.seq (.block 1 (.seq (.ops [.mv 19 17,.ia 20 13 15 17,.ld 21 13 true 20,.alc 8 uJ,.asg 7 19,.st 13 8 21]) (.seq (.ops [.mv 22 1,.mv 23 7,.ia 24 13 22 23,.ld 25 13 true 24,.alc 9 uJ,.st 13 9 25]) (.seq (.ops [.mv 26 2,.ld 27 13 true 8,.ld 28 13 true 9,.callv (some 29) 26 [27,28],.not 30 29]) (.cond 30 (.seq (.ops [.asg 6 (kB false)]) .ret) .skip))))) (.ops [.bin 31 .add 17 (kI 1),.mv 17 31])))))
def aT1:AC:=(.seq (.ops [.asg 6 (kB false)]) (.seq (.seq (.ops [.mv 10 0,.len 11 10,.mv 12 1,.len 13 12,.bin 14 .neq 11 13]) (.cond 14 (.seq (.ops [.asg 6 (kB false)]) .ret) .skip)) (.seq (.seq (.ops [.mv 15 0,.len 16 15,.mv 17 (kI 0)]) (.block 0 aHr)) (.seq (.ops [.asg 6 (kB true)]) .ret))))
theorem bNm:bQ Tryz.prog 385=some (aT1,[.mv 0 6],32):=by kernel_rfl
def aV6 (r:Bool):Exit→St→Prop:=bP [.mv 0 6] fun x _=>x=(fun y=>(vB y)) r
def bO9 (r:Bool):Exit→St→Prop:=(cZ (wkK (avc Tryz.prog (.seq (.ops [.asg 6 (.c (.d (.b true)))]) .ret) (aV6 r))) (aV6 r))
def aUu (r:Bool):Exit→St→Prop:=(dD 0 (bO9 r))
def aDc (p1:(List bR)) (p0:(List bR)) (x17:Int):St:=⟨[(1,(bS p1)),(2,(.fn 382 [])),(15,(bS p0)),(16,(vI (p0.length:Int))),(17,(vI x17))],[]⟩
def aY1:AC:=(.seq (.ops [.box 2 224 0,.box 3 224 1,.asg 4 (kB false)]) (.seq (.ops [.fa 5 0 2,.ld 6 1 false 5,.fa 7 0 3,.ld 8 1 false 7,.eqb 9 false 6 8,.mv 10 9,.g 10 true (.fa 11 1 2),.g 10 true (.ld 12 1 false 11),.g 10 true (.fa 13 1 3),.g 10 true (.ld 14 1 false 13),.g 10 true (.bin 15 .eql 12 14),.pick 16 10 15 (kB false),.mv 17 16,.g 17 true (.fa 18 12 2),.g 17 true (.ld 19 1 false 18),.g 17 true (.fa 20 12 3),.g 17 true (.ld 21 1 false 20),.g 17 true (.bin 22 .eql 19 21),.pick 23 17 22 (kB false),.mv 24 23,.g 24 true (.fa 25 2 2),.g 24 true (.ld 26 10 true 25),.g 24 true (.fa 27 2 3),.g 24 true (.ld 28 10 true 27),.g 24 true (.call (some 29) 356 [26,28]),.pick 30 24 29 (kB false),.asg 4 30]) .ret))
theorem bVs:bQ Tryz.prog 382=some (aY1,[.mv 0 4],31):=by kernel_rfl
def bHj (r:Bool):Exit→St→Prop:=bP [.mv 0 4] fun x _=>x=(fun y=>(vB y)) r
def aEf:AC:=(.loop (.seq (.ops [.bin 18 .lss 17 16]) (.seq (.cond 18 .skip (.exit 0)) (.seq (.block 1 (.seq (.ops [.mv 19 17,.ia 20 11 15 17,.ld 21 11 true 20,.alc 8 aDj,.asg 7 19,.st 11 8 21]) (.seq (.ops [.mv 22 1,.mv 23 7,.ia 24 11 22 23,.ld 25 11 true 24,.alc 9 aDj,.st 11 9 25]) (.seq (.ops [.mv 26 2,.ld 27 11 true 8,.ld 28 11 true 9,.callv (some 29) 26 [27,28],.not 30 29]) (.cond 30 (.seq (.ops [.asg 6 (kB false)]) .ret) .skip))))) (.ops [.bin 31 .add 17 (kI 1),.mv 17 31])))))
def aV0:AC:=(.seq (.ops [.asg 6 (kB false)]) (.seq (.seq (.ops [.mv 10 0,.len 11 10,.mv 12 1,.len 13 12,.bin 14 .neq 11 13]) (.cond 14 (.seq (.ops [.asg 6 (kB false)]) .ret) .skip)) (.seq (.seq (.ops [.mv 15 0,.len 16 15,.mv 17 (kI 0)]) (.block 0 aEf)) (.seq (.ops [.asg 6 (kB true)]) .ret))))
theorem bXl:bQ Tryz.prog 387=some (aV0,[.mv 0 6],32):=by kernel_rfl
def aYe (r:Bool):Exit→St→Prop:=bP [.mv 0 6] fun x _=>x=(fun y=>(vB y)) r
def bV3 (r:Bool):Exit→St→Prop:=(cZ (wkK (avc Tryz.prog (.seq (.ops [.asg 6 (.c (.d (.b true)))]) .ret) (aYe r))) (aYe r))
def aR7 (r:Bool):Exit→St→Prop:=(dD 0 (bV3 r))
def M5 (p1:(List bX)) (p0:(List bX)) (x17:Int):St:=⟨[(1,(cK p1)),(2,(.fn 384 [])),(15,(cK p0)),(16,(vI (p0.length:Int))),(17,(vI x17))],[]⟩
def aPd:AC:=(.seq (.ops [.box 2 230 0,.box 3 230 1,.asg 4 (kB false)]) (.seq (.ops [.fa 5 10 2,.ld 6 1 false 5,.fa 7 10 3,.ld 8 1 false 7,.eqb 9 false 6 8,.mv 10 9,.g 10 true (.fa 11 0 2),.g 10 true (.ld 12 10 true 11),.g 10 true (.fa 13 0 3),.g 10 true (.ld 14 10 true 13),.g 10 true (.call (some 15) 356 [12,14]),.pick 16 10 15 (kB false),.asg 4 16]) .ret))
theorem bSt:bQ Tryz.prog 384=some (aPd,[.mv 0 4],17):=by kernel_rfl
def bW1 (r:Bool):Exit→St→Prop:=bP [.mv 0 4] fun x _=>x=(fun y=>(vB y)) r
def aG2:AC:=(.loop (.seq (.ops [.bin 18 .lss 17 16]) (.seq (.cond 18 .skip (.exit 0)) (.seq (.block 1 (.seq (.ops [.mv 19 17,.ia 20 3 15 17,.ld 21 3 true 20,.alc 8 [eP,eP,(.nil 10)],.asg 7 19,.st 3 8 21]) (.seq (.ops [.mv 22 1,.mv 23 7,.ia 24 3 22 23,.ld 25 3 true 24,.alc 9 [eP,eP,(.nil 10)],.st 3 9 25]) (.seq (.ops [.mv 26 2,.ld 27 3 true 8,.ld 28 3 true 9,.callv (some 29) 26 [27,28],.not 30 29]) (.cond 30 (.seq (.ops [.asg 6 (kB false)]) .ret) .skip))))) (.ops [.bin 31 .add 17 (kI 1),.mv 17 31])))))
def aU6:AC:=(.seq (.ops [.asg 6 (kB false)]) (.seq (.seq (.ops [.mv 10 0,.len 11 10,.mv 12 1,.len 13 12,.bin 14 .neq 11 13]) (.cond 14 (.seq (.ops [.asg 6 (kB false)]) .ret) .skip)) (.seq (.seq (.ops [.mv 15 0,.len 16 15,.mv 17 (kI 0)]) (.block 0 aG2)) (.seq (.ops [.asg 6 (kB true)]) .ret))))
theorem bNq:bQ Tryz.prog 386=some (aU6,[.mv 0 6],32):=by kernel_rfl
def aSe (r:Bool):Exit→St→Prop:=bP [.mv 0 6] fun x _=>x=(fun y=>(vB y)) r
def bK4 (r:Bool):Exit→St→Prop:=(cZ (wkK (avc Tryz.prog (.seq (.ops [.asg 6 (.c (.d (.b true)))]) .ret) (aSe r))) (aSe r))
def aRa (r:Bool):Exit→St→Prop:=(dD 0 (bK4 r))
def aDd (p1:(List bD)) (p0:(List bD)) (x17:Int):St:=⟨[(1,(bC p1)),(2,(.fn 383 [])),(15,(bC p0)),(16,(vI (p0.length:Int))),(17,(vI x17))],[]⟩
def aNy:AC:=(.seq (.ops [.box 2 227 0,.box 3 227 1,.asg 4 (kB false)]) (.seq (.ops [.fa 5 0 2,.ld 6 1 false 5,.fa 7 0 3,.ld 8 1 false 7,.bin 9 .eql 6 8,.mv 10 9,.g 10 true (.fa 11 1 2),.g 10 true (.ld 12 1 false 11),.g 10 true (.fa 13 1 3),.g 10 true (.ld 14 1 false 13),.g 10 true (.bin 15 .eql 12 14),.pick 16 10 15 (kB false),.mv 17 16,.g 17 true (.fa 18 2 2),.g 17 true (.ld 19 1 false 18),.g 17 true (.fa 20 2 3),.g 17 true (.ld 21 1 false 20),.g 17 true (.call (some 22) 371 [19,21]),.pick 23 17 22 (kB false),.asg 4 23]) .ret))
theorem bPn:bQ Tryz.prog 383=some (aNy,[.mv 0 4],24):=by kernel_rfl
def bGk (r:Bool):Exit→St→Prop:=bP [.mv 0 4] fun x _=>x=(fun y=>(vB y)) r
def aUb:AC:=(.seq (.ops [.asg 4 (kB false)]) (.seq (.ops [.mv 5 0,.bin 6 .leq 5 (kI 24),.mv 7 6,.g 7 true (.mv 8 1),.g 7 true (.bin 9 .leq 8 (kI 200)),.pick 10 7 9 (kB false),.asg 4 10]) .ret))
theorem bUe:bQ Tryz.prog 82=some (aUb,[.mv 0 4],11):=by kernel_rfl
def bG7 (r:Bool):Exit→St→Prop:=bP [.mv 0 4] fun x _=>x=(fun y=>(vB y)) r
def aI7:AC:=(.loop (.seq (.ops [.bin 9 .lss 8 7]) (.seq (.cond 9 .skip (.exit 0)) (.seq (.block 1 (.seq (.ops [.mv 10 8,.ia 11 2 6 8,.ld 12 2 true 11,.alc 4 [eP,(.nil 2)],.asg 3 10,.st 2 4 12]) (.seq (.ops [.ld 13 2 true 4,.call (some 14) 168 [13],.not 15 14,.mv 16 15,.g 16 false (.ld 17 1 true 1),.g 16 false (.fa 18 0 4),.g 16 false (.ld 19 1 false 18),.g 16 false (.call (some 20) 169 [17,19]),.g 16 false (.mv 21 3),.g 16 false (.bin 22 .neq 20 21),.pick 23 16 (kB true) 22]) (.cond 23 (.seq (.ops [.asg 2 (kB false)]) .ret) .skip)))) (.ops [.bin 24 .add 8 (kI 1),.mv 8 24])))))
def aX7:AC:=(.seq (.ops [.box 1 36 0,.asg 2 (kB false)]) (.seq (.seq (.ops [.fa 5 0 1,.ld 6 1 false 5,.len 7 6,.mv 8 (kI 0)]) (.block 0 aI7)) (.seq (.ops [.fa 25 0 1,.ld 26 1 false 25,.len 27 26,.bin 28 .leq 27 (kI 4),.asg 2 28]) .ret)))
theorem bIc:bQ Tryz.prog 80=some (aX7,[.mv 0 2],29):=by kernel_rfl
def aSy (r:Bool):Exit→St→Prop:=bP [.mv 0 2] fun x _=>x=(fun y=>(vB y)) r
def bOk (r:Bool):Exit→St→Prop:=(cZ (wkK (avc Tryz.prog (.seq (.ops [.fa 25 0 1,.ld 26 1 false 25,.len 27 26,.bin 28 .leq 27 (.c (.d (.i .i64 4))),.asg 2 28]) .ret) (aSy r))) (aSy r))
def aT8 (r:Bool):Exit→St→Prop:=(dD 0 (bOk r))
def aB5 (p0:bB) (x8:Int):St:=⟨[(1,(.ptr 1 0)),(6,(bG p0.tables)),(7,(vI (p0.tables.length:Int))),(8,(vI x8))],[(1,bZ p0)]⟩
def aHj:AC:=(.loop (.seq (.ops [.bin 9 .lss 8 7]) (.seq (.cond 9 .skip (.exit 0)) (.seq (.block 1 (.seq (.ops [.mv 10 8,.ia 11 2 6 8,.ld 12 2 true 11,.alc 4 [eP,dL],.asg 3 10,.st 2 4 12]) (.seq (.ops [.fa 13 0 4,.ld 14 1 false 13,.call (some 15) 263 [14],.not 16 15,.mv 17 16,.g 17 false (.fa 18 1 4),.g 17 false (.ld 19 1 false 18),.g 17 false (.bin 20 .lss 19 (kI 1)),.pick 21 17 (kB true) 20,.mv 22 21,.g 22 false (.fa 23 1 4),.g 22 false (.ld 24 1 false 23),.g 22 false (.bin 25 .gtr 24 (kI 3)),.pick 26 22 (kB true) 25,.mv 27 26,.g 27 false (.ld 28 2 true 1),.g 27 false (.fa 29 0 4),.g 27 false (.ld 30 1 false 29),.g 27 false (.call (some 31) 264 [28,30]),.g 27 false (.mv 32 3),.g 27 false (.bin 33 .neq 31 32),.pick 34 27 (kB true) 33]) (.cond 34 (.seq (.ops [.asg 2 (kB false)]) .ret) .skip)))) (.ops [.bin 35 .add 8 (kI 1),.mv 8 35])))))
def aPs:AC:=(.seq (.ops [.box 1 150 0,.asg 2 (kB false)]) (.seq (.seq (.ops [.fa 5 1 1,.ld 6 1 false 5,.len 7 6,.mv 8 (kI 0)]) (.block 0 aHj)) (.seq (.ops [.fa 36 0 1,.ld 37 1 false 36,.call (some 38) 263 [37],.mv 39 38,.g 39 true (.fa 40 1 1),.g 39 true (.ld 41 1 false 40),.g 39 true (.len 42 41),.g 39 true (.bin 43 .geq 42 (kI 1)),.pick 44 39 43 (kB false),.mv 45 44,.g 45 true (.fa 46 1 1),.g 45 true (.ld 47 1 false 46),.g 45 true (.len 48 47),.g 45 true (.bin 49 .leq 48 (kI 4)),.pick 50 45 49 (kB false),.asg 2 50]) .ret)))
theorem bJm:bQ Tryz.prog 168=some (aPs,[.mv 0 2],51):=by kernel_rfl
def aSv (r:Bool):Exit→St→Prop:=bP [.mv 0 2] fun x _=>x=(fun y=>(vB y)) r
def bSg (r:Bool):Exit→St→Prop:=(cZ (wkK (avc Tryz.prog (.seq (.ops [.fa 36 0 1,.ld 37 1 false 36,.call (some 38) 263 [37],.mv 39 38,.g 39 true (.fa 40 1 1),.g 39 true (.ld 41 1 false 40),.g 39 true (.len 42 41),.g 39 true (.bin 43 .geq 42 (.c (.d (.i .i64 1)))),.pick 44 39 43 (.c (.d (.b false))),.mv 45 44,.g 45 true (.fa 46 1 1),.g 45 true (.ld 47 1 false 46),.g 45 true (.len 48 47),.g 45 true (.bin 49 .leq 48 (.c (.d (.i .i64 4)))),.pick 50 45 49 (.c (.d (.b false))),.asg 2 50]) .ret) (aSv r))) (aSv r))
def aPw (r:Bool):Exit→St→Prop:=(dD 0 (bSg r))
def aAy (p0:bO) (x8:Int):St:=⟨[(1,(.ptr 1 0)),(6,(eD p0.cols)),(7,(vI (p0.cols.length:Int))),(8,(vI x8))],[(1,mO p0)]⟩
def aU3:AC:=(.seq (.ops [.box 2 150 0,.box 3 9 1,.asg 4 (kI 0)]) (.seq (.ops [.fa 5 1 2,.ld 6 1 false 5,.mkf 7 329 [3],.call (some 8) 328 [6,7],.asg 4 8]) .ret))
theorem bFy:bQ Tryz.prog 264=some (aU3,[.mv 0 4],9):=by kernel_rfl
def bNh (r:Int):Exit→St→Prop:=bP [.mv 0 4] fun x _=>x=(fun y=>(vI y)) r
def aJ0:AC:=(.loop (.seq (.ops [.bin 9 .lss 8 7]) (.seq (.cond 9 .skip (.exit 0)) (.seq (.block 1 (.seq (.ops [.mv 10 8,.asg 5 10]) (.seq (.ops [.mv 11 1,.mv 12 0,.mv 13 5,.ia 14 2 12 13,.ld 15 2 true 14,.callv (some 16) 11 [15]]) (.cond 16 (.seq (.ops [.mv 17 5,.asg 4 17]) .ret) .skip)))) (.ops [.bin 18 .add 8 (kI 1),.mv 8 18])))))
def aTe:AC:=(.seq (.ops [.asg 4 (kI 0)]) (.seq (.seq (.ops [.mv 6 0,.len 7 6,.mv 8 (kI 0)]) (.block 0 aJ0)) (.seq (.ops [.asg 4 (kI (-1))]) .ret)))
theorem bHg:bQ Tryz.prog 328=some (aTe,[.mv 0 4],19):=by kernel_rfl
def aQj (c0_0:(List UInt8)) (r:Int):Exit→St→Prop:=bP [.mv 0 4] fun x b=>x=(fun (y:Int)=>(vI y)) r∧iY ((fun (y:Int)=>[(1000000,[(vS c0_0)])]) r) b
def bIa (c0_0:(List UInt8)) (r:Int):Exit→St→Prop:=(cZ (wkK (avc Tryz.prog (.seq (.ops [.asg 4 (.c (.d (.i .i64 (-1))))]) .ret) (aQj c0_0 r))) (aQj c0_0 r))
def aNl (c0_0:(List UInt8)) (r:Int):Exit→St→Prop:=(dD 0 (bIa c0_0 r))
def aCe (p0:(List eG)) (c0_0:(List UInt8)) (x8:Int):St:=⟨[(0,(eD p0)),(1,(.fn 329 [(.ptr 1000000 0)])),(7,(vI (p0.length:Int))),(8,(vI x8))],[(1000000,[(vS c0_0)])]⟩
def aVl:AC:=(.seq (.ops [.box 2 249 0,.asg 3 (kB false)]) (.seq (.ops [.fa 4 0 2,.ld 5 1 false 4,.ld 6 1 false 1,.bin 7 .eql 5 6,.asg 3 7]) .ret))
theorem bU2:bQ Tryz.prog 329=some (aVl,[.mv 0 3],8):=by kernel_rfl
def bS3 (c0_0:(List UInt8)) (r:Bool):Exit→St→Prop:=bP [.mv 0 3] fun x b=>x=(fun (y:Bool)=>(vB y)) r∧iY ((fun (y:Bool)=>[(1000000,[(vS c0_0)])]) r) b
def aWv:AC:=(.seq (.ops [.asg 4 (kB false)]) (.seq (.ops [.mv 5 0,.mv 6 1,.call (some 7) 139 [5,6],.bin 8 .geq 7 (kI 0),.asg 4 8]) .ret))
theorem bH4:bQ Tryz.prog 55=some (aWv,[.mv 0 4],9):=by kernel_rfl
def bQp (r:Bool):Exit→St→Prop:=bP [.mv 0 4] fun x _=>x=(fun y=>(vB y)) r
def aFa:AC:=(.loop (.seq (.ops [.bin 9 .lss 8 7]) (.seq (.cond 9 .skip (.exit 0)) (.seq (.block 1 (.seq (.ops [.mv 10 8,.asg 5 10]) (.seq (.ops [.mv 11 1,.mv 12 0,.mv 13 5,.ia 14 5 12 13,.ld 15 5 true 14,.callv (some 16) 11 [15]]) (.cond 16 (.seq (.ops [.mv 17 5,.asg 4 17]) .ret) .skip)))) (.ops [.bin 18 .add 8 (kI 1),.mv 8 18])))))
def aV5:AC:=(.seq (.ops [.asg 4 (kI 0)]) (.seq (.seq (.ops [.mv 6 0,.len 7 6,.mv 8 (kI 0)]) (.block 0 aFa)) (.seq (.ops [.asg 4 (kI (-1))]) .ret)))
theorem bT9:bQ Tryz.prog 139=some (aV5,[.mv 0 4],19):=by kernel_rfl
def aS0 (r:Int):Exit→St→Prop:=bP [.mv 0 4] fun x _=>x=(fun y=>(vI y)) r
def bLh (r:Int):Exit→St→Prop:=(cZ (wkK (avc Tryz.prog (.seq (.ops [.asg 4 (.c (.d (.i .i64 (-1))))]) .ret) (aS0 r))) (aS0 r))
def aUj (r:Int):Exit→St→Prop:=(dD 0 (bLh r))
def aBx (p0:(List aB)) (x8:Int):St:=⟨[(0,(cO p0)),(1,(.fn 56 [])),(7,(vI (p0.length:Int))),(8,(vI x8))],[]⟩
def aOm:AC:=(.seq (.ops [.box 1 125 0,.asg 2 (kB false)]) (.seq (.ops [.fa 3 2 1,.ld 4 1 false 3,.bin 5 .neq 4 (kI 1),.asg 2 5]) .ret))
theorem bP1:bQ Tryz.prog 56=some (aOm,[.mv 0 2],6):=by kernel_rfl
def bLu (r:Bool):Exit→St→Prop:=bP [.mv 0 2] fun x _=>x=(fun y=>(vB y)) r
def aR5:AC:=(.seq (.ops [.box 1 30 0,.alc 2 xI]) (.seq (.ops [.alc 3 xI]) (.seq (.ops [.fa 4 0 1,.ld 5 1 false 4,.fa 6 0 3,.st 1 6 5]) (.seq (.ops [.fa 7 1 1,.ld 8 1 false 7,.call (some 9) 50 [8],.fa 10 1 3,.st 1 10 9]) (.seq (.ops [.fa 11 2 1,.ld 12 1 false 11,.call (some 13) 51 [12],.fa 14 2 3,.st 1 14 13]) (.seq (.ops [.fa 15 3 1,.ld 16 1 false 15,.call (some 17) 52 [16],.fa 18 3 3,.st 1 18 17]) (.seq (.ops [.fa 19 4 1,.ld 20 1 false 19,.call (some 21) 53 [20],.fa 22 4 3,.st 1 22 21]) (.seq (.ops [.fa 23 5 1,.ld 24 1 false 23,.fa 25 5 3,.st 1 25 24]) (.seq (.ops [.ld 26 6 true 3,.st 6 2 26]) .ret)))))))))
theorem bL6:bQ Tryz.prog 12=some (aR5,[.ld 0 6 true 2],27):=by kernel_rfl
def bTx (r:aJ):Exit→St→Prop:=bP [.ld 0 6 true 2] fun x _=>x=(fun y=>(bA y)) r
def aJ7:AC:=(.loop (.seq (.seq (.ops [.mv 8 4,.mv 9 0,.len 10 9,.bin 11 .lss 8 10]) (.cond 11 .skip (.exit 0))) (.seq (.block 1 (.ops [.mv 14 3,.mv 15 4,.mv 16 0,.mv 17 4,.ia 18 3 16 17,.ld 19 3 true 18,.call (some 20) 135 [19],.ia 21 3 14 15,.st 3 21 20])) (.ops [.mv 12 4,.bin 13 .add 12 (kI 1),.asg 4 13]))))
def aXg:AC:=(.seq (.ops [.asg 2 (.c (.nil 3))]) (.seq (.ops [.mv 5 0,.len 6 5,.mks 7 227 3 56 [(.s (bs [])),(.s (bs [])),(.sl 10 [])] 6 6,.asg 3 7]) (.seq (.seq (.ops [.asg 4 (kI 0)]) (.block 0 aJ7)) (.seq (.ops [.mv 22 3,.asg 2 22]) .ret))))
theorem bH8:bQ Tryz.prog 51=some (aXg,[.mv 0 2],23):=by kernel_rfl
def aTx (r:(List bD)):Exit→St→Prop:=bP [.mv 0 2] fun x _=>x=(fun y=>(bC y)) r
def bPw (r:(List bD)):Exit→St→Prop:=(cZ (wkK (avc Tryz.prog (.seq (.ops [.mv 22 3,.asg 2 22]) .ret) (aTx r))) (aTx r))
def aN8 (r:(List bD)):Exit→St→Prop:=(dD 0 (bPw r))
def aBe (p0:(List bD)) (x4:Int) (aR:(List bD)):St:=⟨[(0,(bC p0)),(3,(.msl 7 3 0 aR.length aR.length)),(4,(vI x4))],[(7,fK (aR.map fD))]⟩
def aQt:AC:=(.seq (.ops [.box 1 216 0,.alc 2 [eP,eP,(.nil 10)]]) (.seq (.ops [.alc 3 [eP,eP,(.nil 10)]]) (.seq (.ops [.fa 4 0 1,.ld 5 1 false 4,.fa 6 0 3,.st 1 6 5]) (.seq (.ops [.fa 7 1 1,.ld 8 1 false 7,.fa 9 1 3,.st 1 9 8]) (.seq (.ops [.fa 10 2 1,.ld 11 1 false 10,.call (some 12) 52 [11],.fa 13 2 3,.st 1 13 12]) (.seq (.ops [.ld 14 3 true 3,.st 3 2 14]) .ret))))))
theorem bN3:bQ Tryz.prog 135=some (aQt,[.ld 0 3 true 2],15):=by kernel_rfl
def bYs (r:bD):Exit→St→Prop:=bP [.ld 0 3 true 2] fun x _=>x=(fun y=>(eZ y)) r
def aEb:AC:=(.loop (.seq (.seq (.ops [.mv 8 4,.mv 9 0,.len 10 9,.bin 11 .lss 8 10]) (.cond 11 .skip (.exit 0))) (.seq (.block 1 (.ops [.mv 14 3,.mv 15 4,.mv 16 0,.mv 17 4,.ia 18 10 16 17,.ld 19 10 true 18,.call (some 20) 39 [19],.ia 21 10 14 15,.st 10 21 20])) (.ops [.mv 12 4,.bin 13 .add 12 (kI 1),.asg 4 13]))))
def aYr:AC:=(.seq (.ops [.asg 2 (.c (.nil 10))]) (.seq (.ops [.mv 5 0,.len 6 5,.mks 7 111 10 136 [(.i .i64 0),(.i .i64 0),(.b false),(.i .i64 0),(.i .i64 0),(.s (bs [])),(.s (bs [])),(.s (bs [])),(.sl 10 []),(.sl 6 [])] 6 6,.asg 3 7]) (.seq (.seq (.ops [.asg 4 (kI 0)]) (.block 0 aEb)) (.seq (.ops [.mv 22 3,.asg 2 22]) .ret))))
theorem bMg:bQ Tryz.prog 52=some (aYr,[.mv 0 2],23):=by kernel_rfl
def aY7 (r:(List aA)):Exit→St→Prop:=bP [.mv 0 2] fun x _=>x=(fun y=>(aQ y)) r
def bVn (r:(List aA)):Exit→St→Prop:=(cZ (wkK (avc Tryz.prog (.seq (.ops [.mv 22 3,.asg 2 22]) .ret) (aY7 r))) (aY7 r))
def aQ3 (r:(List aA)):Exit→St→Prop:=(dD 0 (bVn r))
def U8 (p0:(List aA)) (x4:Int) (aR:(List aA)):St:=⟨[(0,(aQ p0)),(3,(.msl 7 10 0 aR.length aR.length)),(4,(vI x4))],[(7,fK (aR.map aY))]⟩
def aN4:AC:=(.seq (.ops [.box 1 103 0,.alc 2 xA]) (.seq (.ops [.alc 3 xA]) (.seq (.ops [.fa 4 0 1,.ld 5 1 false 4,.fa 6 0 3,.st 1 6 5]) (.seq (.ops [.fa 7 1 1,.ld 8 1 false 7,.fa 9 1 3,.st 1 9 8]) (.seq (.ops [.fa 10 2 1,.ld 11 1 false 10,.fa 12 2 3,.st 1 12 11]) (.seq (.ops [.fa 13 3 1,.ld 14 3 true 13,.call (some 15) 108 [14],.fa 16 3 3,.st 3 16 15]) (.seq (.ops [.fa 17 6 1,.ld 18 1 false 17,.fa 19 6 3,.st 1 19 18]) (.seq (.ops [.fa 20 7 1,.ld 21 1 false 20,.fa 22 7 3,.st 1 22 21]) (.seq (.ops [.fa 23 8 1,.ld 24 1 false 23,.call (some 25) 52 [24],.fa 26 8 3,.st 1 26 25]) (.seq (.ops [.fa 27 9 1,.ld 28 1 false 27,.call (some 29) 122 [28],.fa 30 9 3,.st 1 30 29]) (.seq (.ops [.ld 31 10 true 3,.st 10 2 31]) .ret)))))))))))
theorem bR5:bQ Tryz.prog 39=some (aN4,[.ld 0 10 true 2],32):=by kernel_rfl
def bMc (r:aA):Exit→St→Prop:=bP [.ld 0 10 true 2] fun x _=>x=(fun y=>(aX y)) r
def aQu:AC:=(.seq (.ops [.box 1 75 0,.alc 2 [dL,dL,eP]]) (.seq (.ops [.alc 3 [dL,dL,eP]]) (.seq (.ops [.fa 4 0 1,.ld 5 1 false 4,.fa 6 0 3,.st 1 6 5]) (.seq (.ops [.fa 7 1 1,.ld 8 1 false 7,.fa 9 1 3,.st 1 9 8]) (.seq (.ops [.fa 10 2 1,.ld 11 1 false 10,.fa 12 2 3,.st 1 12 11]) (.seq (.ops [.ld 13 3 true 3,.st 3 2 13]) .ret))))))
theorem bV4:bQ Tryz.prog 108=some (aQu,[.ld 0 3 true 2],14):=by kernel_rfl
def bOi (r:fT):Exit→St→Prop:=bP [.ld 0 3 true 2] fun x _=>x=(fun y=>(gK y)) r
def aJ2:AC:=(.loop (.seq (.seq (.ops [.mv 8 4,.mv 9 0,.len 10 9,.bin 11 .lss 8 10]) (.cond 11 .skip (.exit 0))) (.seq (.block 1 (.ops [.mv 14 3,.mv 15 4,.mv 16 0,.mv 17 4,.ia 18 6 16 17,.ld 19 6 true 18,.call (some 20) 12 [19],.ia 21 6 14 15,.st 6 21 20])) (.ops [.mv 12 4,.bin 13 .add 12 (kI 1),.asg 4 13]))))
def aYf:AC:=(.seq (.ops [.asg 2 (.c (.nil 6))]) (.seq (.ops [.mv 5 0,.len 6 5,.mks 7 43 6 112 [(.b false),(.sl 13 []),(.sl 3 []),(.sl 10 []),(.sl 11 []),(.i .i64 0)] 6 6,.asg 3 7]) (.seq (.seq (.ops [.asg 4 (kI 0)]) (.block 0 aJ2)) (.seq (.ops [.mv 22 3,.asg 2 22]) .ret))))
theorem bLp:bQ Tryz.prog 122=some (aYf,[.mv 0 2],23):=by kernel_rfl
def aN5 (r:(List aJ)):Exit→St→Prop:=bP [.mv 0 2] fun x _=>x=(fun y=>(bV y)) r
def bXp (r:(List aJ)):Exit→St→Prop:=(cZ (wkK (avc Tryz.prog (.seq (.ops [.mv 22 3,.asg 2 22]) .ret) (aN5 r))) (aN5 r))
def aQv (r:(List aJ)):Exit→St→Prop:=(dD 0 (bXp r))
def aDi (p0:(List aJ)) (x4:Int) (aR:(List aJ)):St:=⟨[(0,(bV p0)),(3,(.msl 7 6 0 aR.length aR.length)),(4,(vI x4))],[(7,fK (aR.map dJ))]⟩
def aJ5:AC:=(.loop (.seq (.seq (.ops [.mv 8 4,.mv 9 0,.len 10 9,.bin 11 .lss 8 10]) (.cond 11 .skip (.exit 0))) (.seq (.block 1 (.ops [.mv 14 3,.mv 15 4,.mv 16 0,.mv 17 4,.ia 18 13 16 17,.ld 19 13 true 18,.call (some 20) 134 [19],.ia 21 13 14 15,.st 13 21 20])) (.ops [.mv 12 4,.bin 13 .add 12 (kI 1),.asg 4 13]))))
def aX8:AC:=(.seq (.ops [.asg 2 (.c (.nil 13))]) (.seq (.ops [.mv 5 0,.len 6 5,.mks 7 224 13 176 [(.b false),(.s (bs [])),(.i .i64 0),(.i .i64 0),(.b false),(.i .i64 0),(.i .i64 0),(.s (bs [])),(.s (bs [])),(.s (bs [])),(.sl 10 []),(.sl 6 []),(.s (bs []))] 6 6,.asg 3 7]) (.seq (.seq (.ops [.asg 4 (kI 0)]) (.block 0 aJ5)) (.seq (.ops [.mv 22 3,.asg 2 22]) .ret))))
theorem bPb:bQ Tryz.prog 50=some (aX8,[.mv 0 2],23):=by kernel_rfl
def aT5 (r:(List bR)):Exit→St→Prop:=bP [.mv 0 2] fun x _=>x=(fun y=>(bS y)) r
def bQc (r:(List bR)):Exit→St→Prop:=(cZ (wkK (avc Tryz.prog (.seq (.ops [.mv 22 3,.asg 2 22]) .ret) (aT5 r))) (aT5 r))
def aVk (r:(List bR)):Exit→St→Prop:=(dD 0 (bQc r))
def aA7 (p0:(List bR)) (x4:Int) (aR:(List bR)):St:=⟨[(0,(bS p0)),(3,(.msl 7 13 0 aR.length aR.length)),(4,(vI x4))],[(7,fK (aR.map fM))]⟩
def aXi:AC:=(.seq (.ops [.box 1 213 0,.alc 2 uJ]) (.seq (.ops [.alc 3 uJ]) (.seq (.ops [.fa 4 0 1,.ld 5 1 false 4,.fa 6 0 3,.st 1 6 5]) (.seq (.ops [.fa 7 1 1,.ld 8 1 false 7,.fa 9 1 3,.st 1 9 8]) (.seq (.ops [.fa 10 2 1,.ld 11 10 true 10,.call (some 12) 39 [11],.fa 13 2 3,.st 10 13 12]) (.seq (.ops [.fa 14 12 1,.ld 15 1 false 14,.fa 16 12 3,.st 1 16 15]) (.seq (.ops [.ld 17 13 true 3,.st 13 2 17]) .ret)))))))
theorem bPs:bQ Tryz.prog 134=some (aXi,[.ld 0 13 true 2],18):=by kernel_rfl
def bJk (r:bR):Exit→St→Prop:=bP [.ld 0 13 true 2] fun x _=>x=(fun y=>(fP y)) r
def aEq:AC:=(.loop (.seq (.seq (.ops [.mv 8 4,.mv 9 0,.len 10 9,.bin 11 .lss 8 10]) (.cond 11 .skip (.exit 0))) (.seq (.block 1 (.ops [.mv 14 3,.mv 15 4,.mv 16 0,.mv 17 4,.ia 18 11 16 17,.ld 19 11 true 18,.call (some 20) 136 [19],.ia 21 11 14 15,.st 11 21 20])) (.ops [.mv 12 4,.bin 13 .add 12 (kI 1),.asg 4 13]))))
def aQi:AC:=(.seq (.ops [.asg 2 (.c (.nil 11))]) (.seq (.ops [.mv 5 0,.len 6 5,.mks 7 230 11 144 [(.i .i64 0),(.i .i64 0),(.b false),(.i .i64 0),(.i .i64 0),(.s (bs [])),(.s (bs [])),(.s (bs [])),(.sl 10 []),(.sl 6 []),(.b false)] 6 6,.asg 3 7]) (.seq (.seq (.ops [.asg 4 (kI 0)]) (.block 0 aEq)) (.seq (.ops [.mv 22 3,.asg 2 22]) .ret))))
theorem bSb:bQ Tryz.prog 53=some (aQi,[.mv 0 2],23):=by kernel_rfl
def aVb (r:(List bX)):Exit→St→Prop:=bP [.mv 0 2] fun x _=>x=(fun y=>(cK y)) r
def bVd (r:(List bX)):Exit→St→Prop:=(cZ (wkK (avc Tryz.prog (.seq (.ops [.mv 22 3,.asg 2 22]) .ret) (aVb r))) (aVb r))
def aTj (r:(List bX)):Exit→St→Prop:=(dD 0 (bVd r))
def aDk (p0:(List bX)) (x4:Int) (aR:(List bX)):St:=⟨[(0,(cK p0)),(3,(.msl 7 11 0 aR.length aR.length)),(4,(vI x4))],[(7,fK (aR.map gI))]⟩
def aSr:AC:=(.seq (.ops [.box 1 219 0,.alc 2 aDj]) (.seq (.ops [.alc 3 aDj]) (.seq (.ops [.fa 4 0 1,.ld 5 10 true 4,.call (some 6) 39 [5],.fa 7 0 3,.st 10 7 6]) (.seq (.ops [.fa 8 10 1,.ld 9 1 false 8,.fa 10 10 3,.st 1 10 9]) (.seq (.ops [.ld 11 11 true 3,.st 11 2 11]) .ret)))))
theorem bH9:bQ Tryz.prog 136=some (aSr,[.ld 0 11 true 2],12):=by kernel_rfl
def bM1 (r:bX):Exit→St→Prop:=bP [.ld 0 11 true 2] fun x _=>x=(fun y=>(gH y)) r
def aXw:AC:=(.seq (.ops [.box 1 24 0,.alc 2 [(.nil 2)]]) (.seq (.ops [.alc 3 [(.nil 2)]]) (.seq (.ops [.fa 4 0 1,.ld 5 1 false 4,.call (some 6) 49 [5],.fa 7 0 3,.st 1 7 6]) (.seq (.ops [.ld 8 1 true 3,.st 1 2 8]) .ret))))
theorem bY7:bQ Tryz.prog 11=some (aXw,[.ld 0 1 true 2],9):=by kernel_rfl
def bIp (r:bB):Exit→St→Prop:=bP [.ld 0 1 true 2] fun x _=>x=(fun y=>(bN y)) r
def aHv:AC:=(.loop (.seq (.seq (.ops [.mv 8 4,.mv 9 0,.len 10 9,.bin 11 .lss 8 10]) (.cond 11 .skip (.exit 0))) (.seq (.block 1 (.ops [.mv 14 3,.mv 15 4,.mv 16 0,.mv 17 4,.ia 18 2 16 17,.ld 19 2 true 18,.call (some 20) 133 [19],.ia 21 2 14 15,.st 2 21 20])) (.ops [.mv 12 4,.bin 13 .add 12 (kI 1),.asg 4 13]))))
def aY8:AC:=(.seq (.ops [.asg 2 (.c (.nil 2))]) (.seq (.ops [.mv 5 0,.len 6 5,.mks 7 150 2 40 [(.s (bs [])),(.sl 2 [])] 6 6,.asg 3 7]) (.seq (.seq (.ops [.asg 4 (kI 0)]) (.block 0 aHv)) (.seq (.ops [.mv 22 3,.asg 2 22]) .ret))))
theorem bXf:bQ Tryz.prog 49=some (aY8,[.mv 0 2],23):=by kernel_rfl
def aW8 (r:(List bO)):Exit→St→Prop:=bP [.mv 0 2] fun x _=>x=(fun y=>(bG y)) r
def bUx (r:(List bO)):Exit→St→Prop:=(cZ (wkK (avc Tryz.prog (.seq (.ops [.mv 22 3,.asg 2 22]) .ret) (aW8 r))) (aW8 r))
def aP8 (r:(List bO)):Exit→St→Prop:=(dD 0 (bUx r))
def V7 (p0:(List bO)) (x4:Int) (aR:(List bO)):St:=⟨[(0,(bG p0)),(3,(.msl 7 2 0 aR.length aR.length)),(4,(vI x4))],[(7,fK (aR.map fC))]⟩
def aRe:AC:=(.seq (.ops [.box 1 210 0,.alc 2 [eP,(.nil 2)]]) (.seq (.ops [.alc 3 [eP,(.nil 2)]]) (.seq (.ops [.fa 4 0 1,.ld 5 1 false 4,.fa 6 0 3,.st 1 6 5]) (.seq (.ops [.fa 7 1 1,.ld 8 1 false 7,.call (some 9) 237 [8],.fa 10 1 3,.st 1 10 9]) (.seq (.ops [.ld 11 2 true 3,.st 2 2 11]) .ret)))))
theorem bV0:bQ Tryz.prog 133=some (aRe,[.ld 0 2 true 2],12):=by kernel_rfl
def bHq (r:bO):Exit→St→Prop:=bP [.ld 0 2 true 2] fun x _=>x=(fun y=>(gX y)) r
def aFu:AC:=(.loop (.seq (.seq (.ops [.mv 8 4,.mv 9 0,.len 10 9,.bin 11 .lss 8 10]) (.cond 11 .skip (.exit 0))) (.seq (.block 1 (.ops [.mv 14 3,.mv 15 4,.mv 16 0,.mv 17 4,.ia 18 2 16 17,.ld 19 2 true 18,.call (some 20) 312 [19],.ia 21 2 14 15,.st 2 21 20])) (.ops [.mv 12 4,.bin 13 .add 12 (kI 1),.asg 4 13]))))
def aW5:AC:=(.seq (.ops [.asg 2 (.c (.nil 2))]) (.seq (.ops [.mv 5 0,.len 6 5,.mks 7 249 2 24 [(.s (bs [])),(.i .i64 0)] 6 6,.asg 3 7]) (.seq (.seq (.ops [.asg 4 (kI 0)]) (.block 0 aFu)) (.seq (.ops [.mv 22 3,.asg 2 22]) .ret))))
theorem bJd:bQ Tryz.prog 237=some (aW5,[.mv 0 2],23):=by kernel_rfl
def aTk (r:(List eG)):Exit→St→Prop:=bP [.mv 0 2] fun x _=>x=(fun y=>(eD y)) r
def bOg (r:(List eG)):Exit→St→Prop:=(cZ (wkK (avc Tryz.prog (.seq (.ops [.mv 22 3,.asg 2 22]) .ret) (aTk r))) (aTk r))
def aYa (r:(List eG)):Exit→St→Prop:=(dD 0 (bOg r))
def aBs (p0:(List eG)) (x4:Int) (aR:(List eG)):St:=⟨[(0,(eD p0)),(3,(.msl 7 2 0 aR.length aR.length)),(4,(vI x4))],[(7,fK (aR.map dU))]⟩
def aPm:AC:=(.seq (.ops [.box 1 363 0,.alc 2 [eP,dL]]) (.seq (.ops [.alc 3 [eP,dL]]) (.seq (.ops [.fa 4 0 1,.ld 5 1 false 4,.fa 6 0 3,.st 1 6 5]) (.seq (.ops [.fa 7 1 1,.ld 8 1 false 7,.fa 9 1 3,.st 1 9 8]) (.seq (.ops [.ld 10 2 true 3,.st 2 2 10]) .ret)))))
theorem bXv:bQ Tryz.prog 312=some (aPm,[.ld 0 2 true 2],11):=by kernel_rfl
def bXm (r:eG):Exit→St→Prop:=bP [.ld 0 2 true 2] fun x _=>x=(fun y=>(jB y)) r
def aWg:AC:=(.seq (.ops [.box 2 30 0,.asg 4 (kI 0)]) (.seq (.ops [.fa 5 1 2,.ld 6 1 false 5,.mv 7 1,.call (some 8) 44 [6,7],.asg 1 8]) (.seq (.seq (.ops [.mv 9 1,.bin 10 .lss 9 (kI 0)]) (.cond 10 (.seq (.ops [.asg 4 (kI (-1))]) .ret) .skip)) (.seq (.ops [.fa 11 2 2,.ld 12 1 false 11,.mv 13 1,.call (some 14) 45 [12,13],.asg 1 14]) (.seq (.seq (.ops [.mv 15 1,.bin 16 .lss 15 (kI 0)]) (.cond 16 (.seq (.ops [.asg 4 (kI (-1))]) .ret) .skip)) (.seq (.ops [.fa 17 3 2,.ld 18 1 false 17,.mv 19 1,.call (some 20) 46 [18,19],.asg 1 20]) (.seq (.seq (.ops [.mv 21 1,.bin 22 .lss 21 (kI 0)]) (.cond 22 (.seq (.ops [.asg 4 (kI (-1))]) .ret) .skip)) (.seq (.ops [.fa 23 4 2,.ld 24 1 false 23,.mv 25 1,.call (some 26) 47 [24,25],.asg 1 26]) (.seq (.seq (.ops [.mv 27 1,.bin 28 .lss 27 (kI 0)]) (.cond 28 (.seq (.ops [.asg 4 (kI (-1))]) .ret) .skip)) (.seq (.ops [.mv 29 1,.asg 4 29]) .ret))))))))))
theorem bPt:bQ Tryz.prog 9=some (aWg,[.mv 0 4],30):=by kernel_rfl
def bHb (r:Int):Exit→St→Prop:=bP [.mv 0 4] fun x _=>x=(fun y=>(vI y)) r
def aI9:AC:=(.loop (.seq (.seq (.ops [.mv 12 5,.mv 13 0,.len 14 13,.bin 15 .lss 12 14]) (.cond 15 .skip (.exit 0))) (.seq (.block 1 (.seq (.ops [.mv 18 0,.mv 19 5,.ia 20 10 18 19,.ld 21 10 true 20,.mv 22 1,.call (some 23) 36 [21,22],.asg 1 23]) (.seq (.ops [.mv 24 1,.bin 25 .lss 24 (kI 0)]) (.cond 25 (.seq (.ops [.asg 4 (kI (-1))]) .ret) .skip)))) (.ops [.mv 16 5,.bin 17 .add 16 (kI 1),.asg 5 17]))))
def aYm:AC:=(.seq (.ops [.asg 4 (kI 0)]) (.seq (.ops [.mv 6 1,.mv 7 0,.len 8 7,.bin 9 .sub 6 8,.asg 1 9]) (.seq (.seq (.ops [.mv 10 1,.bin 11 .lss 10 (kI 0)]) (.cond 11 (.seq (.ops [.asg 4 (kI (-1))]) .ret) .skip)) (.seq (.seq (.ops [.asg 5 (kI 0)]) (.block 0 aI9)) (.seq (.ops [.mv 26 1,.asg 4 26]) .ret)))))
theorem bP8:bQ Tryz.prog 46=some (aYm,[.mv 0 4],27):=by kernel_rfl
def aUl (r:Int):Exit→St→Prop:=bP [.mv 0 4] fun x _=>x=(fun y=>(vI y)) r
def bKp (r:Int):Exit→St→Prop:=(cZ (wkK (avc Tryz.prog (.seq (.ops [.mv 26 1,.asg 4 26]) .ret) (aUl r))) (aUl r))
def aNk (r:Int):Exit→St→Prop:=(dD 0 (bKp r))
def X0 (p0:(List aA)) (x1:Int) (x5:Int):St:=⟨[(0,(aQ p0)),(1,(vI x1)),(5,(vI x5))],[]⟩
def aVi:AC:=(.seq (.ops [.box 2 103 0,.asg 4 (kI 0)]) (.seq (.ops [.fa 5 3 2,.ld 6 3 true 5,.mv 7 1,.call (some 8) 96 [6,7],.asg 1 8]) (.seq (.seq (.ops [.mv 9 1,.bin 10 .lss 9 (kI 0)]) (.cond 10 (.seq (.ops [.asg 4 (kI (-1))]) .ret) .skip)) (.seq (.ops [.mv 11 1,.fa 12 6 2,.ld 13 1 false 12,.lns 14 13,.bin 15 .sub 11 14,.asg 1 15]) (.seq (.seq (.ops [.mv 16 1,.bin 17 .lss 16 (kI 0)]) (.cond 17 (.seq (.ops [.asg 4 (kI (-1))]) .ret) .skip)) (.seq (.ops [.mv 18 1,.fa 19 7 2,.ld 20 1 false 19,.lns 21 20,.bin 22 .sub 18 21,.asg 1 22]) (.seq (.seq (.ops [.mv 23 1,.bin 24 .lss 23 (kI 0)]) (.cond 24 (.seq (.ops [.asg 4 (kI (-1))]) .ret) .skip)) (.seq (.ops [.fa 25 8 2,.ld 26 1 false 25,.mv 27 1,.call (some 28) 46 [26,27],.asg 1 28]) (.seq (.seq (.ops [.mv 29 1,.bin 30 .lss 29 (kI 0)]) (.cond 30 (.seq (.ops [.asg 4 (kI (-1))]) .ret) .skip)) (.seq (.ops [.fa 31 9 2,.ld 32 1 false 31,.mv 33 1,.call (some 34) 117 [32,33],.asg 1 34]) (.seq (.seq (.ops [.mv 35 1,.bin 36 .lss 35 (kI 0)]) (.cond 36 (.seq (.ops [.asg 4 (kI (-1))]) .ret) .skip)) (.seq (.ops [.mv 37 1,.asg 4 37]) .ret))))))))))))
theorem bWm:bQ Tryz.prog 36=some (aVi,[.mv 0 4],38):=by kernel_rfl
def bJn (r:Int):Exit→St→Prop:=bP [.mv 0 4] fun x _=>x=(fun y=>(vI y)) r
def aVz:AC:=(.seq (.ops [.box 2 75 0,.asg 4 (kI 0)]) (.seq (.ops [.mv 5 1,.fa 6 2 2,.ld 7 1 false 6,.lns 8 7,.bin 9 .sub 5 8,.asg 1 9]) (.seq (.seq (.ops [.mv 10 1,.bin 11 .lss 10 (kI 0)]) (.cond 11 (.seq (.ops [.asg 4 (kI (-1))]) .ret) .skip)) (.seq (.ops [.mv 12 1,.asg 4 12]) .ret))))
theorem bRz:bQ Tryz.prog 96=some (aVz,[.mv 0 4],13):=by kernel_rfl
def bPq (r:Int):Exit→St→Prop:=bP [.mv 0 4] fun x _=>x=(fun y=>(vI y)) r
def aFg:AC:=(.loop (.seq (.seq (.ops [.mv 12 5,.mv 13 0,.len 14 13,.bin 15 .lss 12 14]) (.cond 15 .skip (.exit 0))) (.seq (.block 1 (.seq (.ops [.mv 18 0,.mv 19 5,.ia 20 6 18 19,.ld 21 6 true 20,.mv 22 1,.call (some 23) 9 [21,22],.asg 1 23]) (.seq (.ops [.mv 24 1,.bin 25 .lss 24 (kI 0)]) (.cond 25 (.seq (.ops [.asg 4 (kI (-1))]) .ret) .skip)))) (.ops [.mv 16 5,.bin 17 .add 16 (kI 1),.asg 5 17]))))
def aYq:AC:=(.seq (.ops [.asg 4 (kI 0)]) (.seq (.ops [.mv 6 1,.mv 7 0,.len 8 7,.bin 9 .sub 6 8,.asg 1 9]) (.seq (.seq (.ops [.mv 10 1,.bin 11 .lss 10 (kI 0)]) (.cond 11 (.seq (.ops [.asg 4 (kI (-1))]) .ret) .skip)) (.seq (.seq (.ops [.asg 5 (kI 0)]) (.block 0 aFg)) (.seq (.ops [.mv 26 1,.asg 4 26]) .ret)))))
theorem bV9:bQ Tryz.prog 117=some (aYq,[.mv 0 4],27):=by kernel_rfl
def aQq (r:Int):Exit→St→Prop:=bP [.mv 0 4] fun x _=>x=(fun y=>(vI y)) r
def bTt (r:Int):Exit→St→Prop:=(cZ (wkK (avc Tryz.prog (.seq (.ops [.mv 26 1,.asg 4 26]) .ret) (aQq r))) (aQq r))
def aNc (r:Int):Exit→St→Prop:=(dD 0 (bTt r))
def Y2 (p0:(List aJ)) (x1:Int) (x5:Int):St:=⟨[(0,(bV p0)),(1,(vI x1)),(5,(vI x5))],[]⟩
def aEc:AC:=(.loop (.seq (.seq (.ops [.mv 12 5,.mv 13 0,.len 14 13,.bin 15 .lss 12 14]) (.cond 15 .skip (.exit 0))) (.seq (.block 1 (.seq (.ops [.mv 18 0,.mv 19 5,.ia 20 11 18 19,.ld 21 11 true 20,.mv 22 1,.call (some 23) 130 [21,22],.asg 1 23]) (.seq (.ops [.mv 24 1,.bin 25 .lss 24 (kI 0)]) (.cond 25 (.seq (.ops [.asg 4 (kI (-1))]) .ret) .skip)))) (.ops [.mv 16 5,.bin 17 .add 16 (kI 1),.asg 5 17]))))
def aVw:AC:=(.seq (.ops [.asg 4 (kI 0)]) (.seq (.ops [.mv 6 1,.mv 7 0,.len 8 7,.bin 9 .sub 6 8,.asg 1 9]) (.seq (.seq (.ops [.mv 10 1,.bin 11 .lss 10 (kI 0)]) (.cond 11 (.seq (.ops [.asg 4 (kI (-1))]) .ret) .skip)) (.seq (.seq (.ops [.asg 5 (kI 0)]) (.block 0 aEc)) (.seq (.ops [.mv 26 1,.asg 4 26]) .ret)))))
theorem bTs:bQ Tryz.prog 47=some (aVw,[.mv 0 4],27):=by kernel_rfl
def aVx (r:Int):Exit→St→Prop:=bP [.mv 0 4] fun x _=>x=(fun y=>(vI y)) r
def bUt (r:Int):Exit→St→Prop:=(cZ (wkK (avc Tryz.prog (.seq (.ops [.mv 26 1,.asg 4 26]) .ret) (aVx r))) (aVx r))
def aU0 (r:Int):Exit→St→Prop:=(dD 0 (bUt r))
def N8 (p0:(List bX)) (x1:Int) (x5:Int):St:=⟨[(0,(cK p0)),(1,(vI x1)),(5,(vI x5))],[]⟩
def aXj:AC:=(.seq (.ops [.box 2 219 0,.asg 4 (kI 0)]) (.seq (.ops [.fa 5 0 2,.ld 6 10 true 5,.mv 7 1,.call (some 8) 36 [6,7],.asg 1 8]) (.seq (.seq (.ops [.mv 9 1,.bin 10 .lss 9 (kI 0)]) (.cond 10 (.seq (.ops [.asg 4 (kI (-1))]) .ret) .skip)) (.seq (.ops [.mv 11 1,.asg 4 11]) .ret))))
theorem bQf:bQ Tryz.prog 130=some (aXj,[.mv 0 4],12):=by kernel_rfl
def bWs (r:Int):Exit→St→Prop:=bP [.mv 0 4] fun x _=>x=(fun y=>(vI y)) r
def aG7:AC:=(.loop (.seq (.seq (.ops [.mv 12 5,.mv 13 0,.len 14 13,.bin 15 .lss 12 14]) (.cond 15 .skip (.exit 0))) (.seq (.block 1 (.seq (.ops [.mv 18 0,.mv 19 5,.ia 20 3 18 19,.ld 21 3 true 20,.mv 22 1,.call (some 23) 129 [21,22],.asg 1 23]) (.seq (.ops [.mv 24 1,.bin 25 .lss 24 (kI 0)]) (.cond 25 (.seq (.ops [.asg 4 (kI (-1))]) .ret) .skip)))) (.ops [.mv 16 5,.bin 17 .add 16 (kI 1),.asg 5 17]))))
def aPe:AC:=(.seq (.ops [.asg 4 (kI 0)]) (.seq (.ops [.mv 6 1,.mv 7 0,.len 8 7,.bin 9 .sub 6 8,.asg 1 9]) (.seq (.seq (.ops [.mv 10 1,.bin 11 .lss 10 (kI 0)]) (.cond 11 (.seq (.ops [.asg 4 (kI (-1))]) .ret) .skip)) (.seq (.seq (.ops [.asg 5 (kI 0)]) (.block 0 aG7)) (.seq (.ops [.mv 26 1,.asg 4 26]) .ret)))))
theorem bMv:bQ Tryz.prog 45=some (aPe,[.mv 0 4],27):=by kernel_rfl
def aPu (r:Int):Exit→St→Prop:=bP [.mv 0 4] fun x _=>x=(fun y=>(vI y)) r
def bWw (r:Int):Exit→St→Prop:=(cZ (wkK (avc Tryz.prog (.seq (.ops [.mv 26 1,.asg 4 26]) .ret) (aPu r))) (aPu r))
def aOb (r:Int):Exit→St→Prop:=(dD 0 (bWw r))
def aBt (p0:(List bD)) (x1:Int) (x5:Int):St:=⟨[(0,(bC p0)),(1,(vI x1)),(5,(vI x5))],[]⟩
def aR2:AC:=(.seq (.ops [.box 2 216 0,.asg 4 (kI 0)]) (.seq (.ops [.mv 5 1,.fa 6 0 2,.ld 7 1 false 6,.lns 8 7,.bin 9 .sub 5 8,.asg 1 9]) (.seq (.seq (.ops [.mv 10 1,.bin 11 .lss 10 (kI 0)]) (.cond 11 (.seq (.ops [.asg 4 (kI (-1))]) .ret) .skip)) (.seq (.ops [.mv 12 1,.fa 13 1 2,.ld 14 1 false 13,.lns 15 14,.bin 16 .sub 12 15,.asg 1 16]) (.seq (.seq (.ops [.mv 17 1,.bin 18 .lss 17 (kI 0)]) (.cond 18 (.seq (.ops [.asg 4 (kI (-1))]) .ret) .skip)) (.seq (.ops [.fa 19 2 2,.ld 20 1 false 19,.mv 21 1,.call (some 22) 46 [20,21],.asg 1 22]) (.seq (.seq (.ops [.mv 23 1,.bin 24 .lss 23 (kI 0)]) (.cond 24 (.seq (.ops [.asg 4 (kI (-1))]) .ret) .skip)) (.seq (.ops [.mv 25 1,.asg 4 25]) .ret))))))))
theorem bOt:bQ Tryz.prog 129=some (aR2,[.mv 0 4],26):=by kernel_rfl
def bH3 (r:Int):Exit→St→Prop:=bP [.mv 0 4] fun x _=>x=(fun y=>(vI y)) r
def aF6:AC:=(.loop (.seq (.seq (.ops [.mv 12 5,.mv 13 0,.len 14 13,.bin 15 .lss 12 14]) (.cond 15 .skip (.exit 0))) (.seq (.block 1 (.seq (.ops [.mv 18 0,.mv 19 5,.ia 20 13 18 19,.ld 21 13 true 20,.mv 22 1,.call (some 23) 128 [21,22],.asg 1 23]) (.seq (.ops [.mv 24 1,.bin 25 .lss 24 (kI 0)]) (.cond 25 (.seq (.ops [.asg 4 (kI (-1))]) .ret) .skip)))) (.ops [.mv 16 5,.bin 17 .add 16 (kI 1),.asg 5 17]))))
def aXx:AC:=(.seq (.ops [.asg 4 (kI 0)]) (.seq (.ops [.mv 6 1,.mv 7 0,.len 8 7,.bin 9 .sub 6 8,.asg 1 9]) (.seq (.seq (.ops [.mv 10 1,.bin 11 .lss 10 (kI 0)]) (.cond 11 (.seq (.ops [.asg 4 (kI (-1))]) .ret) .skip)) (.seq (.seq (.ops [.asg 5 (kI 0)]) (.block 0 aF6)) (.seq (.ops [.mv 26 1,.asg 4 26]) .ret)))))
theorem bS6:bQ Tryz.prog 44=some (aXx,[.mv 0 4],27):=by kernel_rfl
def aWr (r:Int):Exit→St→Prop:=bP [.mv 0 4] fun x _=>x=(fun y=>(vI y)) r
def bGn (r:Int):Exit→St→Prop:=(cZ (wkK (avc Tryz.prog (.seq (.ops [.mv 26 1,.asg 4 26]) .ret) (aWr r))) (aWr r))
def aPo (r:Int):Exit→St→Prop:=(dD 0 (bGn r))
def aB2 (p0:(List bR)) (x1:Int) (x5:Int):St:=⟨[(0,(bS p0)),(1,(vI x1)),(5,(vI x5))],[]⟩
def aQk:AC:=(.seq (.ops [.box 2 213 0,.asg 4 (kI 0)]) (.seq (.ops [.mv 5 1,.fa 6 1 2,.ld 7 1 false 6,.lns 8 7,.bin 9 .sub 5 8,.asg 1 9]) (.seq (.seq (.ops [.mv 10 1,.bin 11 .lss 10 (kI 0)]) (.cond 11 (.seq (.ops [.asg 4 (kI (-1))]) .ret) .skip)) (.seq (.ops [.fa 12 2 2,.ld 13 10 true 12,.mv 14 1,.call (some 15) 36 [13,14],.asg 1 15]) (.seq (.seq (.ops [.mv 16 1,.bin 17 .lss 16 (kI 0)]) (.cond 17 (.seq (.ops [.asg 4 (kI (-1))]) .ret) .skip)) (.seq (.ops [.mv 18 1,.fa 19 12 2,.ld 20 1 false 19,.lns 21 20,.bin 22 .sub 18 21,.asg 1 22]) (.seq (.seq (.ops [.mv 23 1,.bin 24 .lss 23 (kI 0)]) (.cond 24 (.seq (.ops [.asg 4 (kI (-1))]) .ret) .skip)) (.seq (.ops [.mv 25 1,.asg 4 25]) .ret))))))))
theorem bS7:bQ Tryz.prog 128=some (aQk,[.mv 0 4],26):=by kernel_rfl
def bSr (r:Int):Exit→St→Prop:=bP [.mv 0 4] fun x _=>x=(fun y=>(vI y)) r
def aGh:AC:=(.loop (.seq (.seq (.ops [.mv 35 14,.fa 36 2 6,.ld 37 1 false 36,.len 38 37,.bin 39 .lss 35 38,.mv 40 39,.g 40 true (.mv 41 13),.pick 42 40 41 (kB false)]) (.cond 42 .skip (.exit 0))) (.seq (.block 1 (.seq (.dops [[],[],[1],[],[3],[2,4],[0,5],[6],[7],[7],[7],[],[11,8,6,0,1,2,3,4,5,6,7,8,11],[9,12,0,1,2,3,4,5,6,7,8,9,11,12],[10,13,0,1,2,3,4,5,6,7,8,9,10,11,12,13]] [.ld 46 1 true 4,.fa 47 2 6,.ld 48 1 false 47,.mv 49 14,.bin 50 .add 49 (kI 1),.slc 51 3 48 none (some 50) none,.call (some 52) 214 [46,51],.mv 45 52,.ext 53 45 0,.ext 54 45 1,.ext 55 45 2,.alc 15 [(.nil 3)],.st 1 15 53,.asg 16 54,.asg 17 55]) (.dops [[],[],[],[1,2],[],[4],[],[5,6],[7],[8],[],[0,3,9,10,3],[11],[12],[12],[13,11,0,1,2,3,4,5,6,7,8,9,10,11,12,13],[14,15,0,1,2,3,4,5,6,7,8,9,10,11,12,13,14,15]] [.ld 57 1 true 4,.ld 58 1 true 15,.mv 59 1,.call (some 60) 234 [58,59],.fa 61 2 6,.ld 62 1 false 61,.mv 63 14,.ia 64 3 62 63,.fa 65 2 64,.ld 66 1 false 65,.mv 67 3,.call (some 68) 233 [57,60,66,67],.mv 56 68,.ext 69 56 0,.ext 70 56 1,.asg 3 69,.asg 13 70]))) (.ops [.mv 43 14,.bin 44 .add 43 (kI 1),.asg 14 44]))))
def aIv:AC:=(.loop (.seq (.seq (.ops [.mv 84 19,.fa 85 4 6,.ld 86 1 false 85,.len 87 86,.bin 88 .lss 84 87,.mv 89 88,.g 89 true (.mv 90 13),.pick 91 89 90 (kB false)]) (.cond 91 .skip (.exit 2))) (.seq (.block 3 (.dops [[],[],[],[2],[],[3,4],[5],[6],[],[0,1,7,8],[9],[10],[10],[11,9,0,1,2,3,4,5,6,7,8,9,10,11],[12,13,0,1,2,3,4,5,6,7,8,9,10,11,12,13]] [.ld 95 1 true 4,.mv 96 18,.fa 97 4 6,.ld 98 1 false 97,.mv 99 19,.ia 100 11 98 99,.fa 101 0 100,.ld 102 10 true 101,.mv 103 3,.call (some 104) 235 [95,96,102,103],.mv 94 104,.ext 105 94 0,.ext 106 94 1,.asg 3 105,.asg 13 106])) (.ops [.mv 92 19,.bin 93 .add 92 (kI 1),.asg 19 93]))))
def M7:AC:=(.ops [.mv 115 20,.bin 116 .add 115 (kI 1),.asg 20 116])
def aF8:AC:=(.loop (.seq (.seq (.ops [.mv 145 22,.mv 146 21,.len 147 146,.bin 148 .lss 145 147]) (.cond 148 .skip (.exit 6))) (.seq (.block 7 (.seq (.dops [[],[0],[],[],[2,3],[4],[1,5],[6],[],[8,7,0,1,2,3,4,5,6,7,8]] [.fa 151 0 10,.ld 152 1 false 151,.mv 153 21,.mv 154 22,.ia 155 1 153 154,.ld 156 1 false 155,.ia 157 3 152 156,.ld 158 3 true 157,.alc 23 [eP,eP,dL],.st 3 23 158]) (.dops [[],[],[1],[],[3],[],[],[5,6],[7],[2,4,8],[9],[0,10],[11,11,0,1,2,3,4,5,6,7,8,9,10,11]] [.mv 159 3,.fa 160 0 23,.ld 161 1 false 160,.fa 162 1 23,.ld 163 1 false 162,.mv 164 21,.mv 165 22,.ia 166 1 164 165,.ld 167 1 false 166,.bld 168 [eP,eP,dL,dL,dL] [(0,1,161),(1,1,163),(2,1,(kI 1)),(4,1,167)],.bsl 169 125 5 [168],.app 170 125 5 56 159 169,.asg 3 170]))) (.ops [.mv 149 22,.bin 150 .add 149 (kI 1),.asg 22 150]))))
def zK:AC:=(.loop (.seq (.seq (.ops [.mv 107 20,.fa 108 1 6,.ld 109 1 false 108,.len 110 109,.bin 111 .lss 107 110,.mv 112 111,.g 112 true (.mv 113 13),.pick 114 112 113 (kB false)]) (.cond 114 .skip (.exit 4))) (.seq (.block 5 (.seq (.seq (.ops [.fa 117 1 6,.ld 118 1 false 117,.mv 119 20,.ia 120 13 118 119,.fa 121 0 120,.ld 122 1 false 121,.not 123 122]) (.cond 123 (.seq (.dops [[],[],[],[2],[],[3,4],[5],[6],[],[0,1,7,8],[9],[10],[10],[11,9,0,1,2,3,4,5,6,7,8,9,10,11],[12,13,0,1,2,3,4,5,6,7,8,9,10,11,12,13]] [.ld 125 1 true 4,.mv 126 18,.fa 127 1 6,.ld 128 1 false 127,.mv 129 20,.ia 130 13 128 129,.fa 131 2 130,.ld 132 10 true 131,.mv 133 3,.call (some 134) 235 [125,126,132,133],.mv 124 134,.ext 135 124 0,.ext 136 124 1,.asg 3 135,.asg 13 136]) (.exit 5)) .skip)) (.seq (.dops [[],[],[1],[],[2,3],[4],[5],[0,6],[7,7,0,1,2,3,4,5,6,7]] [.ld 137 1 true 10,.fa 138 1 6,.ld 139 1 false 138,.mv 140 20,.ia 141 13 139 140,.fa 142 1 141,.ld 143 1 false 142,.call (some 144) 236 [137,143],.asg 21 144]) (.seq (.ops [.asg 22 (kI 0)]) (.block 6 aF8))))) M7)))
def aMs:AC:=(.seq (.seq (.ops [.asg 19 (kI 0)]) (.block 2 aIv)) (.seq (.seq (.ops [.asg 20 (kI 0)]) (.block 4 zK)) (.seq (.ops [.mv 171 3,.mv 172 13,.asg 8 171,.asg 9 172]) .ret)))
def aNg:AC:=(.seq (.ops [.box 4 36 0,.box 6 43 2,.asg 8 (.c (.nil 5)),.asg 9 (kB false)]) (.seq (.ops [.ld 25 1 true 4,.fa 26 2 6,.ld 27 1 false 26,.call (some 28) 214 [25,27],.mv 24 28,.ext 29 24 0,.ext 30 24 1,.ext 31 24 2,.alc 10 [(.nil 3)],.st 1 10 29,.asg 11 30,.asg 12 31]) (.seq (.seq (.ops [.mv 32 11,.bin 33 .neq 32 (kI 0)]) (.cond 33 (.seq (.ops [.mv 34 3,.asg 8 34,.asg 9 (kB false)]) .ret) .skip)) (.seq (.ops [.asg 13 (kB true)]) (.seq (.seq (.ops [.asg 14 (kI 0)]) (.block 0 aGh)) (.seq (.ops [.ld 71 1 true 10,.mv 72 1,.call (some 73) 234 [71,72],.asg 18 73]) (.seq (.seq (.ops [.mv 74 13]) (.cond 74 (.ops [.ld 76 1 true 4,.mv 77 18,.fa 78 3 6,.ld 79 1 false 78,.mv 80 3,.call (some 81) 233 [76,77,79,80],.mv 75 81,.ext 82 75 0,.ext 83 75 1,.asg 3 82,.asg 13 83]) .skip)) aMs)))))))
theorem bLi:bQ Tryz.prog 132=some (aNg,[.mv 0 8,.mv 0 9],173):=by kernel_rfl
def yK (r:(List aB)×Bool):Exit→St→Prop:=bP [.mv 0 8,.mv 0 9] fun x b=>x=(fun (y:(List aB)×Bool)=>(.tup [(.osl 2000000 125 5 (y.1.map aP)),(vB y.2)])) r∧iY ((fun (y:(List aB)×Bool)=>[]) r) b
def bWn (r:(List aB)×Bool):Exit→St→Prop:=(cZ (wkK (avc Tryz.prog (.seq (.ops [.ld 71 1 true 10,.mv 72 1,.call (some 73) 234 [71,72],.asg 18 73]) (.seq (.seq (.ops [.mv 74 13]) (.cond 74 (.ops [.ld 76 1 true 4,.mv 77 18,.fa 78 3 6,.ld 79 1 false 78,.mv 80 3,.call (some 81) 233 [76,77,79,80],.mv 75 81,.ext 82 75 0,.ext 83 75 1,.asg 3 82,.asg 13 83]) .skip)) aMs)) (yK r))) (yK r))
def aPc (r:(List aB)×Bool):Exit→St→Prop:=(dD 0 (bWn r))
def bYq (r:(List aB)×Bool):Exit→St→Prop:=(cZ (wkK (avc Tryz.prog (.seq (.seq (.ops [.asg 20 (.c (.d (.i .i64 0)))]) (.block 4 zK)) (.seq (.ops [.mv 171 3,.mv 172 13,.asg 8 171,.asg 9 172]) .ret)) (yK r))) (yK r))
def aUt (r:(List aB)×Bool):Exit→St→Prop:=(dD 2 (bYq r))
def bLr (r:(List aB)×Bool):Exit→St→Prop:=(cZ (wkK (avc Tryz.prog (.seq (.ops [.mv 171 3,.mv 172 13,.asg 8 171,.asg 9 172]) .ret) (yK r))) (yK r))
def aEn (r:(List aB)×Bool):Exit→St→Prop:=(dD 4 (bLr r))
def aG3 (r:(List aB)×Bool):Exit→St→Prop:=(cZ (avc Tryz.prog zK (aEn r)) (aEn r))
def bT2 (r:(List aB)×Bool):Exit→St→Prop:=(cZ (wkK (avc Tryz.prog M7 (aG3 r))) (aG3 r))
def bPd (r:(List aB)×Bool):Exit→St→Prop:=(dD 5 (bT2 r))
def aPg (r:(List aB)×Bool):Exit→St→Prop:=(dD 6 (bPd r))
def aBl (p1:(List aL)) (p0:bB) (p2:aJ) (y1:aL×Int×(List UInt8)) (x3:(List aB)) (x13:Bool) (x14:Int):St:=⟨[(1,(.osl 4000001 306 1 (p1.map dY))),(3,(.osl 4000003 125 5 (x3.map aP))),(4,(.ptr 4 0)),(6,(.ptr 6 0)),(10,(.ptr 10 0)),(13,(vB x13)),(14,(vI x14))],[(4,bZ p0),(6,bL p2),(10,eU y1.1)]⟩
def aMq (p0:bB) (p2:aJ) (y1:aL×Int×(List UInt8)) (jS:(List aB)) (jX:Bool) (x18:(List aL)):St:=⟨[(3,(.osl 3 125 5 (jS.map aP))),(4,(.ptr 4 0)),(6,(.ptr 6 0)),(10,(.ptr 10 0)),(13,(vB jX)),(18,(bJ x18))],[(4,bZ p0),(6,bL p2),(10,eU y1.1)]⟩
def O8 (x18:(List aL)) (p0:bB) (p2:aJ) (y1:aL×Int×(List UInt8)) (gL:(List aB)) (gN:Bool) (x19:Int):St:=⟨[(3,(.osl 3 125 5 (gL.map aP))),(4,(.ptr 4 0)),(6,(.ptr 6 0)),(10,(.ptr 10 0)),(13,(vB gN)),(18,(bJ x18)),(19,(vI x19))],[(4,bZ p0),(6,bL p2),(10,eU y1.1)]⟩
def aCo (x18:(List aL)) (p0:bB) (p2:aJ) (y1:aL×Int×(List UInt8)) (fJ:(List aB)) (dC:Bool) (x20:Int):St:=⟨[(3,(.osl 3 125 5 (fJ.map aP))),(4,(.ptr 4 0)),(6,(.ptr 6 0)),(10,(.ptr 10 0)),(13,(vB dC)),(18,(bJ x18)),(20,(vI x20))],[(4,bZ p0),(6,bL p2),(10,eU y1.1)]⟩
def U9 (x18:(List aL)) (x20:Int) (p0:bB) (p2:aJ) (y1:aL×Int×(List UInt8)) (jA:(List aB)) (iZ:Bool):St:=⟨[(3,(.osl 5207000 125 5 (jA.map aP))),(4,(.ptr 4 0)),(6,(.ptr 6 0)),(10,(.ptr 10 0)),(13,(vB iZ)),(18,(bJ x18)),(20,(vI x20))],[(4,bZ p0),(6,bL p2),(10,eU y1.1)]⟩
def Y7 (dC:Bool) (x18:(List aL)) (x20:Int) (y26:(List Int)) (p0:bB) (p2:aJ) (y1:aL×Int×(List UInt8)) (jU:(List aB)) (x22:Int):St:=⟨[(3,(.osl 3 125 5 (jU.map aP))),(4,(.ptr 4 0)),(6,(.ptr 6 0)),(10,(.ptr 10 0)),(13,(vB dC)),(18,(bJ x18)),(20,(vI x20)),(21,(.osl 21 3 1 (y26.map cI))),(22,(vI x22))],[(4,bZ p0),(6,bL p2),(10,eU y1.1)]⟩
def aH6:AC:=(.loop (.seq (.seq (.ops [.mv 12 11,.mv 13 2,.len 14 13,.bin 15 .lss 12 14,.mv 16 15,.g 16 true (.mv 17 10),.pick 18 16 17 (kB false)]) (.cond 18 .skip (.exit 0))) (.seq (.block 1 (.dops [[],[],[],[],[2,3],[4],[],[0,1,5,6],[7],[8],[8],[9,7,0,1,2,3,4,5,6,7,8,9],[10,11,0,1,2,3,4,5,6,7,8,9,10,11]] [.ld 22 1 true 4,.mv 23 1,.mv 24 2,.mv 25 11,.ia 26 10 24 25,.ld 27 10 true 26,.mv 28 3,.call (some 29) 235 [22,23,27,28],.mv 21 29,.ext 30 21 0,.ext 31 21 1,.asg 3 30,.asg 10 31])) (.ops [.mv 19 11,.bin 20 .add 19 (kI 1),.asg 11 20]))))
def aYk:AC:=(.seq (.ops [.box 4 36 0,.asg 8 (.c (.nil 5)),.asg 9 (kB false)]) (.seq (.ops [.asg 10 (kB true)]) (.seq (.seq (.ops [.asg 11 (kI 0)]) (.block 0 aH6)) (.seq (.ops [.mv 32 3,.mv 33 10,.asg 8 32,.asg 9 33]) .ret))))
theorem bWq:bQ Tryz.prog 233=some (aYk,[.mv 0 8,.mv 0 9],34):=by kernel_rfl
def aRp (r:(List aB)×Bool):Exit→St→Prop:=bP [.mv 0 8,.mv 0 9] fun x b=>x=(fun (y:(List aB)×Bool)=>(.tup [(.osl 2000000 125 5 (y.1.map aP)),(vB y.2)])) r∧iY ((fun (y:(List aB)×Bool)=>[]) r) b
def bOl (r:(List aB)×Bool):Exit→St→Prop:=(cZ (wkK (avc Tryz.prog (.seq (.ops [.mv 32 3,.mv 33 10,.asg 8 32,.asg 9 33]) .ret) (aRp r))) (aRp r))
def aTi (r:(List aB)×Bool):Exit→St→Prop:=(dD 0 (bOl r))
def P6 (p2:(List aA)) (p0:bB) (x1:(List aL)) (x3:(List aB)) (x10:Bool) (x11:Int):St:=⟨[(1,(bJ x1)),(2,(aQ p2)),(3,(.osl 4000003 125 5 (x3.map aP))),(4,(.ptr 4 0)),(10,(vB x10)),(11,(vI x11))],[(4,bZ p0)]⟩
def aGs:AC:=(.loop (.seq (.seq (.ops [.mv 22 11,.fa 23 8 6,.ld 24 1 false 23,.len 25 24,.bin 26 .lss 22 25,.mv 27 26,.g 27 true (.mv 28 10),.pick 29 27 28 (kB false)]) (.cond 29 .skip (.exit 0))) (.seq (.block 1 (.dops [[],[],[],[2],[],[3,4],[5],[],[0,1,6,7],[8],[9],[9],[10,8,0,1,2,3,4,5,6,7,8,9,10],[11,12,0,1,2,3,4,5,6,7,8,9,10,11,12]] [.ld 33 1 true 4,.mv 34 1,.fa 35 8 6,.ld 36 1 false 35,.mv 37 11,.ia 38 10 36 37,.ld 39 10 true 38,.mv 40 3,.call (some 41) 235 [33,34,39,40],.mv 32 41,.ext 42 32 0,.ext 43 32 1,.asg 3 42,.asg 10 43])) (.ops [.mv 30 11,.bin 31 .add 30 (kI 1),.asg 11 31]))))
def aDn:AC:=(.loop (.seq (.seq (.ops [.mv 44 12,.fa 45 9 6,.ld 46 1 false 45,.len 47 46,.bin 48 .lss 44 47,.mv 49 48,.g 49 true (.mv 50 10),.pick 51 49 50 (kB false)]) (.cond 51 .skip (.exit 2))) (.seq (.block 3 (.dops [[],[],[],[2],[],[3,4],[5],[],[0,1,6,7],[8],[9],[9],[10,8,0,1,2,3,4,5,6,7,8,9,10],[11,12,0,1,2,3,4,5,6,7,8,9,10,11,12]] [.ld 55 1 true 4,.mv 56 1,.fa 57 9 6,.ld 58 1 false 57,.mv 59 12,.ia 60 6 58 59,.ld 61 6 true 60,.mv 62 3,.call (some 63) 132 [55,56,61,62],.mv 54 63,.ext 64 54 0,.ext 65 54 1,.asg 3 64,.asg 10 65])) (.ops [.mv 52 12,.bin 53 .add 52 (kI 1),.asg 12 53]))))
def aGg:AC:=(.seq (.seq (.ops [.asg 11 (kI 0)]) (.block 0 aGs)) (.seq (.seq (.ops [.asg 12 (kI 0)]) (.block 2 aDn)) (.seq (.ops [.mv 66 3,.mv 67 10,.asg 8 66,.asg 9 67]) .ret)))
def aTt:AC:=(.seq (.ops [.box 4 36 0,.box 6 111 2,.asg 8 (.c (.nil 5)),.asg 9 (kB false)]) (.seq (.ops [.asg 10 (kB true)]) (.seq (.seq (.ops [.fa 13 0 6,.ld 14 1 false 13,.bin 15 .eql 14 (kI 2)]) (.cond 15 (.ops [.mv 16 3,.mv 17 1,.ld 18 10 true 6,.call (some 19) 311 [17,18],.bsl 20 125 5 [19],.app 21 125 5 56 16 20,.asg 3 21]) .skip)) aGg)))
theorem bRm:bQ Tryz.prog 235=some (aTt,[.mv 0 8,.mv 0 9],68):=by kernel_rfl
def wL (r:(List aB)×Bool):Exit→St→Prop:=bP [.mv 0 8,.mv 0 9] fun x b=>x=(fun (y:(List aB)×Bool)=>(.tup [(.osl 2000000 125 5 (y.1.map aP)),(vB y.2)])) r∧iY ((fun (y:(List aB)×Bool)=>[]) r) b
def bX3 (r:(List aB)×Bool):Exit→St→Prop:=(cZ (wkK (avc Tryz.prog (.seq (.seq (.ops [.asg 12 (.c (.d (.i .i64 0)))]) (.block 2 aDn)) (.seq (.ops [.mv 66 3,.mv 67 10,.asg 8 66,.asg 9 67]) .ret)) (wL r))) (wL r))
def aQd (r:(List aB)×Bool):Exit→St→Prop:=(dD 0 (bX3 r))
def bVt (r:(List aB)×Bool):Exit→St→Prop:=(cZ (wkK (avc Tryz.prog (.seq (.ops [.mv 66 3,.mv 67 10,.asg 8 66,.asg 9 67]) .ret) (wL r))) (wL r))
def aO9 (r:(List aB)×Bool):Exit→St→Prop:=(dD 2 (bVt r))
def U7 (p1:(List aL)) (p0:bB) (p2:aA) (x3:(List aB)):St:=⟨[(1,(bJ p1)),(3,(.osl 3 125 5 (x3.map aP))),(4,(.ptr 4 0)),(6,(.ptr 6 0)),(10,(vB true))],[(4,bZ p0),(6,eF p2)]⟩
def aC3 (p1:(List aL)) (p0:bB) (p2:aA) (dW:(List aB)) (x10:Bool) (x11:Int):St:=⟨[(1,(bJ p1)),(3,(.osl 3 125 5 (dW.map aP))),(4,(.ptr 4 0)),(6,(.ptr 6 0)),(10,(vB x10)),(11,(vI x11))],[(4,bZ p0),(6,eF p2)]⟩
def K8 (p1:(List aL)) (p0:bB) (p2:aA) (kN:(List aB)) (kM:Bool) (x12:Int):St:=⟨[(1,(bJ p1)),(3,(.osl 3 125 5 (kN.map aP))),(4,(.ptr 4 0)),(6,(.ptr 6 0)),(10,(vB kM)),(12,(vI x12))],[(4,bZ p0),(6,eF p2)]⟩
def aH1:AC:=(.loop (.seq (.seq (.ops [.mv 35 14,.fa 36 2 6,.ld 37 1 false 36,.len 38 37,.bin 39 .lss 35 38,.mv 40 39,.g 40 true (.mv 41 13),.pick 42 40 41 (kB false)]) (.cond 42 .skip (.exit 0))) (.seq (.block 1 (.seq (.dops [[],[],[1],[],[3],[2,4],[0,5],[6],[7],[7],[7],[],[11,8,6,0,1,2,3,4,5,6,7,8,11],[9,12,0,1,2,3,4,5,6,7,8,9,11,12],[10,13,0,1,2,3,4,5,6,7,8,9,10,11,12,13]] [.ld 46 1 true 4,.fa 47 2 6,.ld 48 1 false 47,.mv 49 14,.bin 50 .add 49 (kI 1),.slc 51 3 48 none (some 50) none,.call (some 52) 214 [46,51],.mv 45 52,.ext 53 45 0,.ext 54 45 1,.ext 55 45 2,.alc 15 [(.nil 3)],.st 1 15 53,.asg 16 54,.asg 17 55]) (.dops [[],[],[],[1,2],[],[4],[],[5,6],[7],[8],[],[0,3,9,10,3],[11],[12],[12],[13,11,0,1,2,3,4,5,6,7,8,9,10,11,12,13],[14,15,0,1,2,3,4,5,6,7,8,9,10,11,12,13,14,15]] [.ld 57 1 true 4,.ld 58 1 true 15,.mv 59 1,.call (some 60) 234 [58,59],.fa 61 2 6,.ld 62 1 false 61,.mv 63 14,.ia 64 3 62 63,.fa 65 2 64,.ld 66 1 false 65,.mv 67 3,.call (some 68) 233 [57,60,66,67],.mv 56 68,.ext 69 56 0,.ext 70 56 1,.asg 3 69,.asg 13 70]))) (.ops [.mv 43 14,.bin 44 .add 43 (kI 1),.asg 14 44]))))
def aGk:AC:=(.loop (.seq (.seq (.ops [.mv 84 19,.fa 85 4 6,.ld 86 1 false 85,.len 87 86,.bin 88 .lss 84 87,.mv 89 88,.g 89 true (.mv 90 13),.pick 91 89 90 (kB false)]) (.cond 91 .skip (.exit 2))) (.seq (.block 3 (.dops [[],[],[],[2],[],[3,4],[5],[6],[],[0,1,7,8],[9],[10],[10],[11,9,0,1,2,3,4,5,6,7,8,9,10,11],[12,13,0,1,2,3,4,5,6,7,8,9,10,11,12,13]] [.ld 95 1 true 4,.mv 96 18,.fa 97 4 6,.ld 98 1 false 97,.mv 99 19,.ia 100 11 98 99,.fa 101 0 100,.ld 102 10 true 101,.mv 103 3,.call (some 104) 235 [95,96,102,103],.mv 94 104,.ext 105 94 0,.ext 106 94 1,.asg 3 105,.asg 13 106])) (.ops [.mv 92 19,.bin 93 .add 92 (kI 1),.asg 19 93]))))
def aDr:AC:=(.ops [.mv 115 20,.bin 116 .add 115 (kI 1),.asg 20 116])
def aFm:AC:=(.loop (.seq (.seq (.ops [.mv 145 22,.mv 146 21,.len 147 146,.bin 148 .lss 145 147]) (.cond 148 .skip (.exit 6))) (.seq (.block 7 (.seq (.dops [[],[0],[],[],[2,3],[4],[1,5],[6],[],[8,7,0,1,2,3,4,5,6,7,8]] [.fa 151 0 10,.ld 152 1 false 151,.mv 153 21,.mv 154 22,.ia 155 1 153 154,.ld 156 1 false 155,.ia 157 3 152 156,.ld 158 3 true 157,.alc 23 [eP,eP,dL],.st 3 23 158]) (.dops [[],[],[1],[],[3],[],[],[5,6],[7],[2,4,8],[9],[0,10],[11,11,0,1,2,3,4,5,6,7,8,9,10,11]] [.mv 159 3,.fa 160 0 23,.ld 161 1 false 160,.fa 162 1 23,.ld 163 1 false 162,.mv 164 21,.mv 165 22,.ia 166 1 164 165,.ld 167 1 false 166,.bld 168 [eP,eP,dL,dL,dL] [(0,1,161),(1,1,163),(2,1,(kI 1)),(4,1,167)],.bsl 169 125 5 [168],.app 170 125 5 56 159 169,.asg 3 170]))) (.ops [.mv 149 22,.bin 150 .add 149 (kI 1),.asg 22 150]))))
def K7:AC:=(.loop (.seq (.seq (.ops [.mv 107 20,.fa 108 1 6,.ld 109 1 false 108,.len 110 109,.bin 111 .lss 107 110,.mv 112 111,.g 112 true (.mv 113 13),.pick 114 112 113 (kB false)]) (.cond 114 .skip (.exit 4))) (.seq (.block 5 (.seq (.seq (.ops [.fa 117 1 6,.ld 118 1 false 117,.mv 119 20,.ia 120 13 118 119,.fa 121 0 120,.ld 122 1 false 121,.not 123 122]) (.cond 123 (.seq (.dops [[],[],[],[2],[],[3,4],[5],[6],[],[0,1,7,8],[9],[10],[10],[11,9,0,1,2,3,4,5,6,7,8,9,10,11],[12,13,0,1,2,3,4,5,6,7,8,9,10,11,12,13]] [.ld 125 1 true 4,.mv 126 18,.fa 127 1 6,.ld 128 1 false 127,.mv 129 20,.ia 130 13 128 129,.fa 131 2 130,.ld 132 10 true 131,.mv 133 3,.call (some 134) 235 [125,126,132,133],.mv 124 134,.ext 135 124 0,.ext 136 124 1,.asg 3 135,.asg 13 136]) (.exit 5)) .skip)) (.seq (.dops [[],[],[1],[],[2,3],[4],[5],[0,6],[7,7,0,1,2,3,4,5,6,7]] [.ld 137 1 true 10,.fa 138 1 6,.ld 139 1 false 138,.mv 140 20,.ia 141 13 139 140,.fa 142 1 141,.ld 143 1 false 142,.call (some 144) 236 [137,143],.asg 21 144]) (.seq (.ops [.asg 22 (kI 0)]) (.block 6 aFm))))) aDr)))
def U0:AC:=(.seq (.seq (.ops [.asg 19 (kI 0)]) (.block 2 aGk)) (.seq (.seq (.ops [.asg 20 (kI 0)]) (.block 4 K7)) (.seq (.ops [.mv 171 3,.mv 172 13,.asg 8 171,.asg 9 172]) .ret)))
def aT0:AC:=(.seq (.ops [.box 4 36 0,.box 6 43 2,.asg 8 (.c (.nil 5)),.asg 9 (kB false)]) (.seq (.ops [.ld 25 1 true 4,.fa 26 2 6,.ld 27 1 false 26,.call (some 28) 214 [25,27],.mv 24 28,.ext 29 24 0,.ext 30 24 1,.ext 31 24 2,.alc 10 [(.nil 3)],.st 1 10 29,.asg 11 30,.asg 12 31]) (.seq (.seq (.ops [.mv 32 11,.bin 33 .neq 32 (kI 0)]) (.cond 33 (.seq (.ops [.mv 34 3,.asg 8 34,.asg 9 (kB false)]) .ret) .skip)) (.seq (.ops [.asg 13 (kB true)]) (.seq (.seq (.ops [.asg 14 (kI 0)]) (.block 0 aH1)) (.seq (.ops [.ld 71 1 true 10,.mv 72 1,.call (some 73) 234 [71,72],.asg 18 73]) (.seq (.seq (.ops [.mv 74 13]) (.cond 74 (.ops [.ld 76 1 true 4,.mv 77 18,.fa 78 3 6,.ld 79 1 false 78,.mv 80 3,.call (some 81) 233 [76,77,79,80],.mv 75 81,.ext 82 75 0,.ext 83 75 1,.asg 3 82,.asg 13 83]) .skip)) U0)))))))
theorem bU3:bQ Tryz.prog 132=some (aT0,[.mv 0 8,.mv 0 9],173):=by kernel_rfl
def tK (r:(List aB)×Bool):Exit→St→Prop:=bP [.mv 0 8,.mv 0 9] fun x b=>x=(fun (y:(List aB)×Bool)=>(.tup [(.osl 2000000 125 5 (y.1.map aP)),(vB y.2)])) r∧iY ((fun (y:(List aB)×Bool)=>[]) r) b
def bUc (r:(List aB)×Bool):Exit→St→Prop:=(cZ (wkK (avc Tryz.prog (.seq (.ops [.ld 71 1 true 10,.mv 72 1,.call (some 73) 234 [71,72],.asg 18 73]) (.seq (.seq (.ops [.mv 74 13]) (.cond 74 (.ops [.ld 76 1 true 4,.mv 77 18,.fa 78 3 6,.ld 79 1 false 78,.mv 80 3,.call (some 81) 233 [76,77,79,80],.mv 75 81,.ext 82 75 0,.ext 83 75 1,.asg 3 82,.asg 13 83]) .skip)) U0)) (tK r))) (tK r))
def aWh (r:(List aB)×Bool):Exit→St→Prop:=(dD 0 (bUc r))
def bRf (r:(List aB)×Bool):Exit→St→Prop:=(cZ (wkK (avc Tryz.prog (.seq (.seq (.ops [.asg 20 (.c (.d (.i .i64 0)))]) (.block 4 K7)) (.seq (.ops [.mv 171 3,.mv 172 13,.asg 8 171,.asg 9 172]) .ret)) (tK r))) (tK r))
def aQa (r:(List aB)×Bool):Exit→St→Prop:=(dD 2 (bRf r))
def bKh (r:(List aB)×Bool):Exit→St→Prop:=(cZ (wkK (avc Tryz.prog (.seq (.ops [.mv 171 3,.mv 172 13,.asg 8 171,.asg 9 172]) .ret) (tK r))) (tK r))
def aDy (r:(List aB)×Bool):Exit→St→Prop:=(dD 4 (bKh r))
def aEo (r:(List aB)×Bool):Exit→St→Prop:=(cZ (avc Tryz.prog K7 (aDy r)) (aDy r))
def bKk (r:(List aB)×Bool):Exit→St→Prop:=(cZ (wkK (avc Tryz.prog aDr (aEo r))) (aEo r))
def bXs (r:(List aB)×Bool):Exit→St→Prop:=(dD 5 (bKk r))
def aRz (r:(List aB)×Bool):Exit→St→Prop:=(dD 6 (bXs r))
def aBb (p1:(List aL)) (p0:bB) (p2:aJ) (y1:aL×Int×(List UInt8)) (x3:(List aB)) (x13:Bool) (x14:Int):St:=⟨[(1,(bJ p1)),(3,(.osl 4000003 125 5 (x3.map aP))),(4,(.ptr 4 0)),(6,(.ptr 6 0)),(10,(.ptr 10 0)),(13,(vB x13)),(14,(vI x14))],[(4,bZ p0),(6,bL p2),(10,eU y1.1)]⟩
def aAx (p0:bB) (p2:aJ) (y1:aL×Int×(List UInt8)) (jS:(List aB)) (jX:Bool) (x18:(List aL)):St:=⟨[(3,(.osl 3 125 5 (jS.map aP))),(4,(.ptr 4 0)),(6,(.ptr 6 0)),(10,(.ptr 10 0)),(13,(vB jX)),(18,(bJ x18))],[(4,bZ p0),(6,bL p2),(10,eU y1.1)]⟩
def aCn (x18:(List aL)) (p0:bB) (p2:aJ) (y1:aL×Int×(List UInt8)) (gL:(List aB)) (gN:Bool) (x19:Int):St:=⟨[(3,(.osl 3 125 5 (gL.map aP))),(4,(.ptr 4 0)),(6,(.ptr 6 0)),(10,(.ptr 10 0)),(13,(vB gN)),(18,(bJ x18)),(19,(vI x19))],[(4,bZ p0),(6,bL p2),(10,eU y1.1)]⟩
def P9 (x18:(List aL)) (p0:bB) (p2:aJ) (y1:aL×Int×(List UInt8)) (fJ:(List aB)) (dC:Bool) (x20:Int):St:=⟨[(3,(.osl 3 125 5 (fJ.map aP))),(4,(.ptr 4 0)),(6,(.ptr 6 0)),(10,(.ptr 10 0)),(13,(vB dC)),(18,(bJ x18)),(20,(vI x20))],[(4,bZ p0),(6,bL p2),(10,eU y1.1)]⟩
def aB9 (x18:(List aL)) (x20:Int) (p0:bB) (p2:aJ) (y1:aL×Int×(List UInt8)) (jA:(List aB)) (iZ:Bool):St:=⟨[(3,(.osl 5207000 125 5 (jA.map aP))),(4,(.ptr 4 0)),(6,(.ptr 6 0)),(10,(.ptr 10 0)),(13,(vB iZ)),(18,(bJ x18)),(20,(vI x20))],[(4,bZ p0),(6,bL p2),(10,eU y1.1)]⟩
def U2 (dC:Bool) (x18:(List aL)) (x20:Int) (y26:(List Int)) (p0:bB) (p2:aJ) (y1:aL×Int×(List UInt8)) (gG:((List aB)×Int)):St:=⟨[(3,(.osl 3 125 5 (gG.1.map aP))),(4,(.ptr 4 0)),(6,(.ptr 6 0)),(10,(.ptr 10 0)),(13,(vB dC)),(18,(bJ x18)),(20,(vI x20)),(21,(.osl 21 3 1 (y26.map cI))),(22,(vI gG.2))],[(4,bZ p0),(6,bL p2),(10,eU y1.1)]⟩
theorem bI2 (x:eG) (h:∀ d ∈ dU x,OkD d):okGCol x:=⟨qN _ (iB h 0 1),qO _ (iB h 1 1)⟩
theorem bGr (x:bO) (h:∀ d ∈ fC x,OkD d):okGTable x:=⟨qN _ (iB h 0 1),aMf _ (fun y hy=>bI2 y hy) (iB h 1 1)⟩
theorem bD3 (x:bB) (h:∀ d ∈ aA8 x,OkD d):okGCatalog x:=aMf _ (fun y hy=>bGr y hy) (iB h 0 1)
theorem bPi (x:fT) (h:∀ d ∈ aBp x,OkD d):okGValue x:=⟨qO _ (iB h 0 1),qO _ (iB h 1 1),qN _ (iB h 2 1)⟩
mutual
theorem aVp:∀ x:aA,(∀ d ∈ aY x,OkD d)→okGExpr x
  | ⟨a0,a1,a2,a3,a4,a5,a6,a7⟩,h0=>by
    rw [iQ] at h0
    have h:∀ d ∈ eO ⟨a0,a1,a2,a3,a4,a5,a6,a7⟩,OkD d:=h0
    unfold okGExpr
    exact ⟨qO _ (iB h 0 1),qO _ (iB h 1 1),trivial,bPi a3 (iB h 3 3),qN _ (iB h 6 1),qN _ (iB h 7 1),⟨by simpa using (qI (iB h 8 1)).1,aMz a6 (qI (iB h 8 1)).2⟩,⟨by simpa using (qI (iB h 9 1)).1,bDo a7 (qI (iB h 9 1)).2⟩⟩
theorem bKj:∀ x:bR,(∀ d ∈ fM x,OkD d)→okGItem x
  | ⟨a0,a1,a2,a3⟩,h0=>by
    rw [lC] at h0
    have h:∀ d ∈ eQ ⟨a0,a1,a2,a3⟩,OkD d:=h0
    unfold okGItem
    exact ⟨trivial,qN _ (iB h 1 1),aVp a2 (by rw [iQ]; exact (iB h 2 10)),qN _ (iB h 12 1)⟩
theorem bBb:∀ x:aJ,(∀ d ∈ dJ x,OkD d)→okGQuery x
  | ⟨a0,a1,a2,a3,a4,a5⟩,h0=>by
    rw [mI] at h0
    have h:∀ d ∈ gD ⟨a0,a1,a2,a3,a4,a5⟩,OkD d:=h0
    unfold okGQuery
    exact ⟨trivial,⟨by simpa using (qI (iB h 1 1)).1,bDn a1 (qI (iB h 1 1)).2⟩,⟨by simpa using (qI (iB h 2 1)).1,bEi a2 (qI (iB h 2 1)).2⟩,⟨by simpa using (qI (iB h 3 1)).1,aMz a3 (qI (iB h 3 1)).2⟩,⟨by simpa using (qI (iB h 4 1)).1,aZ3 a4 (qI (iB h 4 1)).2⟩,qO _ (iB h 5 1)⟩
theorem bYj:∀ x:bX,(∀ d ∈ gI x,OkD d)→okGSortKey x
  | ⟨a0,a1⟩,h0=>by
    rw [nD] at h0
    have h:∀ d ∈ fO ⟨a0,a1⟩,OkD d:=h0
    unfold okGSortKey
    exact ⟨aVp a0 (by rw [iQ]; exact (iB h 0 10)),trivial⟩
theorem bJe:∀ x:bD,(∀ d ∈ fD x,OkD d)→okGSource x
  | ⟨a0,a1,a2⟩,h0=>by
    rw [lD] at h0
    have h:∀ d ∈ eT ⟨a0,a1,a2⟩,OkD d:=h0
    unfold okGSource
    exact ⟨qN _ (iB h 0 1),qN _ (iB h 1 1),⟨by simpa using (qI (iB h 2 1)).1,aMz a2 (qI (iB h 2 1)).2⟩⟩
theorem aMz:∀ l:List aA,(∀ x ∈ l.map aY,∀ d ∈ x,OkD d)→okLGExpr l
  | [],_=>by unfold okLGExpr; trivial
  | x::l,h=>by
    unfold okLGExpr
    exact ⟨aVp x (h _ (by simp)),aMz l fun y hy=>h y (List.mem_cons_of_mem _ hy)⟩
theorem bDn:∀ l:List bR,(∀ x ∈ l.map fM,∀ d ∈ x,OkD d)→okLGItem l
  | [],_=>by unfold okLGItem; trivial
  | x::l,h=>by
    unfold okLGItem
    exact ⟨bKj x (h _ (by simp)),bDn l fun y hy=>h y (List.mem_cons_of_mem _ hy)⟩
theorem bDo:∀ l:List aJ,(∀ x ∈ l.map dJ,∀ d ∈ x,OkD d)→okLGQuery l
  | [],_=>by unfold okLGQuery; trivial
  | x::l,h=>by
    unfold okLGQuery
    exact ⟨bBb x (h _ (by simp)),bDo l fun y hy=>h y (List.mem_cons_of_mem _ hy)⟩
theorem aZ3:∀ l:List bX,(∀ x ∈ l.map gI,∀ d ∈ x,OkD d)→okLGSortKey l
  | [],_=>by unfold okLGSortKey; trivial
  | x::l,h=>by
    unfold okLGSortKey
    exact ⟨bYj x (h _ (by simp)),aZ3 l fun y hy=>h y (List.mem_cons_of_mem _ hy)⟩
theorem bEi:∀ l:List bD,(∀ x ∈ l.map fD,∀ d ∈ x,OkD d)→okLGSource l
  | [],_=>by unfold okLGSource; trivial
  | x::l,h=>by
    unfold okLGSource
    exact ⟨bJe x (h _ (by simp)),bEi l fun y hy=>h y (List.mem_cons_of_mem _ hy)⟩
end
theorem bMr (x:aB) (h:∀ d ∈ aP x,OkD d):okGUse x:=⟨qN _ (iB h 0 1),qN _ (iB h 1 1),qO _ (iB h 2 1),qO _ (iB h 3 1),qO _ (iB h 4 1)⟩
theorem bGi (x:dR) (h:∀ d ∈ dN x,OkD d):okGNamed x:=⟨qN _ (iB h 0 1),qN _ (iB h 1 1),qO _ (iB h 2 1)⟩
theorem cAr (x:aL) (h:∀ d ∈ dY x,OkD d):okGScope x:=aMf _ (fun y hy=>bGi y hy) (iB h 0 1)
theorem cB4 (x:bF) (h:∀ d ∈ aT2 x,OkD d):okGUser x:=⟨bD3 x.c (iB h 0 1),aMf _ (fun y hy=>bMr y hy) (iB h 1 1),trivial⟩
theorem bZl (x:gQ) (h:∀ d ∈ aSw x,OkD d):okGForm x:=⟨trivial,trivial,trivial,trivial,qO _ (iB h 4 1),qO _ (iB h 5 1),qO _ (iB h 6 1)⟩
theorem de9 {l:List D} (h:WtC Tryz.prog 9 l):∃ x:(List UInt8),l=cStr x:=(bKz h kr)
theorem de3 {l:List D} (h:WtC Tryz.prog 3 l):∃ x:Int,l=cI x:=(bHm h (k:=.i64) kr)
theorem bOb {l:List D} (h:WtC Tryz.prog 363 l):∃ x:eG,l=dU x:=by
  obtain ⟨x0,e0⟩:=de9 (jN h 0 (off:=0) (n:=1) kr)
  obtain ⟨x1,e1⟩:=de3 (jN h 1 (off:=1) (n:=1) kr)
  exact ⟨⟨x0,x1⟩,(dr1 (m:=1) kr e0 (dr1 (m:=2) kr e1 (dr0 (uT h (n:=2) kr))))⟩
theorem bVg {l:List D} (h:WtC Tryz.prog 208 l):∃ x:(List eG),l=(cSl 2 dU) x:=(aZu h (e:=363) (n:=2) (c:=dU) kr kr fun x hx=>bOb hx)
theorem bGu {l:List D} (h:WtC Tryz.prog 210 l):∃ x:bO,l=fC x:=by
  obtain ⟨x0,e0⟩:=de9 (jN h 0 (off:=0) (n:=1) kr)
  obtain ⟨x1,e1⟩:=bVg (jN h 1 (off:=1) (n:=1) kr)
  exact ⟨⟨x0,x1⟩,(dr1 (m:=1) kr e0 (dr1 (m:=2) kr e1 (dr0 (uT h (n:=2) kr))))⟩
theorem bOy {l:List D} (h:WtC Tryz.prog 22 l):∃ x:(List bO),l=(cSl 2 fC) x:=(aZu h (e:=210) (n:=2) (c:=fC) kr kr fun x hx=>bGu hx)
theorem bKi {l:List D} (h:WtC Tryz.prog 24 l):∃ x:bB,l=aA8 x:=by
  obtain ⟨x0,e0⟩:=bOy (jN h 0 (off:=0) (n:=1) kr)
  exact ⟨⟨x0⟩,(dr1 (m:=1) kr e0 (dr0 (uT h (n:=1) kr)))⟩
theorem de4 {l:List D} (h:WtC Tryz.prog 4 l):∃ x:Bool,l=cB x:=(bXd h kr)
theorem bQ0 {l:List D} (h:WtC Tryz.prog 75 l):∃ x:fT,l=aBp x:=by
  obtain ⟨x0,e0⟩:=de3 (jN h 0 (off:=0) (n:=1) kr)
  obtain ⟨x1,e1⟩:=de3 (jN h 1 (off:=1) (n:=1) kr)
  obtain ⟨x2,e2⟩:=de9 (jN h 2 (off:=2) (n:=1) kr)
  exact ⟨⟨x0,x1,x2⟩,(dr1 (m:=1) kr e0 (dr1 (m:=2) kr e1 (dr1 (m:=3) kr e2 (dr0 (uT h (n:=3) kr)))))⟩
def xW (n:Nat):Prop:=∀ m:List D,SizeOf.sizeOf m≤n→(WtC Tryz.prog 25 m→∃ x:(List bR),m=(cSl 13 fM) x)∧(WtC Tryz.prog 26 m→∃ x:(List bD),m=(cSl 3 fD) x)∧(WtC Tryz.prog 27 m→∃ x:(List aA),m=(cSl 10 aY) x)∧(WtC Tryz.prog 28 m→∃ x:(List bX),m=(cSl 11 gI) x)∧(WtC Tryz.prog 101 m→∃ x:(List aJ),m=(cSl 6 dJ) x)
theorem yV {n m:Nat} (h:xW n) (hm:m≤n):xW m:=fun l hl=>h l (Nat.le_trans hl hm)
theorem aL7 {l:List D} (H:xW (SizeOf.sizeOf l)) (h:WtC Tryz.prog 103 l):∃ x:aA,l=aY x:=by
  obtain ⟨x0,e0⟩:=de3 (jN h 0 (off:=0) (n:=1) (tf:=3) kr)
  obtain ⟨x1,e1⟩:=de3 (jN h 1 (off:=1) (n:=1) (tf:=3) kr)
  obtain ⟨x2,e2⟩:=de4 (jN h 2 (off:=2) (n:=1) (tf:=4) kr)
  obtain ⟨x3,e3⟩:=bQ0 (jN h 3 (off:=3) (n:=3) (tf:=75) kr)
  obtain ⟨x4,e4⟩:=de9 (jN h 4 (off:=6) (n:=1) (tf:=9) kr)
  obtain ⟨x5,e5⟩:=de9 (jN h 5 (off:=7) (n:=1) (tf:=9) kr)
  obtain ⟨x6,e6⟩:=(H _ (uY l 8 1)).2.2.1 (jN h 6 (off:=8) (n:=1) (tf:=27) kr)
  obtain ⟨x7,e7⟩:=(H _ (uY l 9 1)).2.2.2.2 (jN h 7 (off:=9) (n:=1) (tf:=101) kr)
  exact ⟨⟨x0,x1,x2,x3,x4,x5,x6,x7⟩,(show l=eO ⟨x0,x1,x2,x3,x4,x5,x6,x7⟩ from (dr1 (m:=1) kr e0 (dr1 (m:=2) kr e1 (dr1 (m:=3) kr e2 (dr1 (m:=6) kr e3 (dr1 (m:=7) kr e4 (dr1 (m:=8) kr e5 (dr1 (m:=9) kr e6 (dr1 (m:=10) kr e7 (dr0 (uT h (n:=10) kr))))))))))).trans (iQ _).symm⟩
theorem bAh {l:List D} (H:xW (SizeOf.sizeOf l)) (h:WtC Tryz.prog 219 l):∃ x:bX,l=gI x:=by
  obtain ⟨x0,e0⟩:=aL7 (yV H (uY l 0 10)) (jN h 0 (off:=0) (n:=10) (tf:=103) kr)
  rw [iQ] at e0
  obtain ⟨x1,e1⟩:=de4 (jN h 1 (off:=10) (n:=1) (tf:=4) kr)
  exact ⟨⟨x0,x1⟩,(show l=fO ⟨x0,x1⟩ from (dr1 (m:=10) kr e0 (dr1 (m:=11) kr e1 (dr0 (uT h (n:=11) kr))))).trans (nD _).symm⟩
theorem bC1 {l:List D} (H:xW (SizeOf.sizeOf l)) (h:WtC Tryz.prog 216 l):∃ x:bD,l=fD x:=by
  obtain ⟨x0,e0⟩:=de9 (jN h 0 (off:=0) (n:=1) (tf:=9) kr)
  obtain ⟨x1,e1⟩:=de9 (jN h 1 (off:=1) (n:=1) (tf:=9) kr)
  obtain ⟨x2,e2⟩:=(H _ (uY l 2 1)).2.2.1 (jN h 2 (off:=2) (n:=1) (tf:=27) kr)
  exact ⟨⟨x0,x1,x2⟩,(show l=eT ⟨x0,x1,x2⟩ from (dr1 (m:=1) kr e0 (dr1 (m:=2) kr e1 (dr1 (m:=3) kr e2 (dr0 (uT h (n:=3) kr)))))).trans (lD _).symm⟩
theorem bDj {l:List D} (H:xW (SizeOf.sizeOf l)) (h:WtC Tryz.prog 213 l):∃ x:bR,l=fM x:=by
  obtain ⟨x0,e0⟩:=de4 (jN h 0 (off:=0) (n:=1) (tf:=4) kr)
  obtain ⟨x1,e1⟩:=de9 (jN h 1 (off:=1) (n:=1) (tf:=9) kr)
  obtain ⟨x2,e2⟩:=aL7 (yV H (uY l 2 10)) (jN h 2 (off:=2) (n:=10) (tf:=103) kr)
  rw [iQ] at e2
  obtain ⟨x3,e3⟩:=de9 (jN h 3 (off:=12) (n:=1) (tf:=9) kr)
  exact ⟨⟨x0,x1,x2,x3⟩,(show l=eQ ⟨x0,x1,x2,x3⟩ from (dr1 (m:=1) kr e0 (dr1 (m:=2) kr e1 (dr1 (m:=12) kr e2 (dr1 (m:=13) kr e3 (dr0 (uT h (n:=13) kr))))))).trans (lC _).symm⟩
theorem bCl {l:List D} (H:xW (SizeOf.sizeOf l)) (h:WtC Tryz.prog 30 l):∃ x:aJ,l=dJ x:=by
  obtain ⟨x0,e0⟩:=de4 (jN h 0 (off:=0) (n:=1) (tf:=4) kr)
  obtain ⟨x1,e1⟩:=(H _ (uY l 1 1)).1 (jN h 1 (off:=1) (n:=1) (tf:=25) kr)
  obtain ⟨x2,e2⟩:=(H _ (uY l 2 1)).2.1 (jN h 2 (off:=2) (n:=1) (tf:=26) kr)
  obtain ⟨x3,e3⟩:=(H _ (uY l 3 1)).2.2.1 (jN h 3 (off:=3) (n:=1) (tf:=27) kr)
  obtain ⟨x4,e4⟩:=(H _ (uY l 4 1)).2.2.2.1 (jN h 4 (off:=4) (n:=1) (tf:=28) kr)
  obtain ⟨x5,e5⟩:=de3 (jN h 5 (off:=5) (n:=1) (tf:=3) kr)
  exact ⟨⟨x0,x1,x2,x3,x4,x5⟩,(show l=gD ⟨x0,x1,x2,x3,x4,x5⟩ from (dr1 (m:=1) kr e0 (dr1 (m:=2) kr e1 (dr1 (m:=3) kr e2 (dr1 (m:=4) kr e3 (dr1 (m:=5) kr e4 (dr1 (m:=6) kr e5 (dr0 (uT h (n:=6) kr))))))))).trans (mI _).symm⟩
theorem tH:∀ n,xW n:=by
  intro n
  induction n with
  | zero =>
    intro m hm
    have:m=[]:=by cases m with | nil=>rfl | cons x l=>simp at hm
    subst this
    exact ⟨fun h=>by obtain ⟨ls,hl,_⟩:=sG h (e:=213) (n:=13) kr kr; simp at hl,fun h=>by obtain ⟨ls,hl,_⟩:=sG h (e:=216) (n:=3) kr kr; simp at hl,fun h=>by obtain ⟨ls,hl,_⟩:=sG h (e:=103) (n:=10) kr kr; simp at hl,fun h=>by obtain ⟨ls,hl,_⟩:=sG h (e:=219) (n:=11) kr kr; simp at hl,fun h=>by obtain ⟨ls,hl,_⟩:=sG h (e:=30) (n:=6) kr kr; simp at hl⟩
  | succ n ih =>
    intro m hm
    refine ⟨?_,?_,?_,?_,?_⟩
    · intro h
      obtain ⟨ls,rfl,hx⟩:=sG h (e:=213) (n:=13) kr kr
      have H:∀ x ∈ ls,∃ y:bR,x=fM y:=fun x hm2=>bDj (yV ih (by have:=aGr (sz:=13) hm2; omega)) (hx x hm2)
      obtain ⟨ys,rfl⟩:=D6 H
      exact ⟨ys,rfl⟩
    · intro h
      obtain ⟨ls,rfl,hx⟩:=sG h (e:=216) (n:=3) kr kr
      have H:∀ x ∈ ls,∃ y:bD,x=fD y:=fun x hm2=>bC1 (yV ih (by have:=aGr (sz:=3) hm2; omega)) (hx x hm2)
      obtain ⟨ys,rfl⟩:=D6 H
      exact ⟨ys,rfl⟩
    · intro h
      obtain ⟨ls,rfl,hx⟩:=sG h (e:=103) (n:=10) kr kr
      have H:∀ x ∈ ls,∃ y:aA,x=aY y:=fun x hm2=>aL7 (yV ih (by have:=aGr (sz:=10) hm2; omega)) (hx x hm2)
      obtain ⟨ys,rfl⟩:=D6 H
      exact ⟨ys,rfl⟩
    · intro h
      obtain ⟨ls,rfl,hx⟩:=sG h (e:=219) (n:=11) kr kr
      have H:∀ x ∈ ls,∃ y:bX,x=gI y:=fun x hm2=>bAh (yV ih (by have:=aGr (sz:=11) hm2; omega)) (hx x hm2)
      obtain ⟨ys,rfl⟩:=D6 H
      exact ⟨ys,rfl⟩
    · intro h
      obtain ⟨ls,rfl,hx⟩:=sG h (e:=30) (n:=6) kr kr
      have H:∀ x ∈ ls,∃ y:aJ,x=dJ y:=fun x hm2=>bCl (yV ih (by have:=aGr (sz:=6) hm2; omega)) (hx x hm2)
      obtain ⟨ys,rfl⟩:=D6 H
      exact ⟨ys,rfl⟩
theorem bZj {l:List D} (h:WtC Tryz.prog 25 l):∃ x:(List bR),l=(cSl 13 fM) x:=(tH _ l (Nat.le_refl _)).1 h
theorem bZx {l:List D} (h:WtC Tryz.prog 26 l):∃ x:(List bD),l=(cSl 3 fD) x:=(tH _ l (Nat.le_refl _)).2.1 h
theorem bZ8 {l:List D} (h:WtC Tryz.prog 27 l):∃ x:(List aA),l=(cSl 10 aY) x:=(tH _ l (Nat.le_refl _)).2.2.1 h
theorem cBe {l:List D} (h:WtC Tryz.prog 28 l):∃ x:(List bX),l=(cSl 11 gI) x:=(tH _ l (Nat.le_refl _)).2.2.2.1 h
theorem cAt {l:List D} (h:WtC Tryz.prog 101 l):∃ x:(List aJ),l=(cSl 6 dJ) x:=(tH _ l (Nat.le_refl _)).2.2.2.2 h
theorem cA3 {l:List D} (h:WtC Tryz.prog 103 l):∃ x:aA,l=aY x:=aL7 (tH _) h
theorem bZe {l:List D} (h:WtC Tryz.prog 219 l):∃ x:bX,l=gI x:=bAh (tH _) h
theorem bZk {l:List D} (h:WtC Tryz.prog 216 l):∃ x:bD,l=fD x:=bC1 (tH _) h
theorem cAx {l:List D} (h:WtC Tryz.prog 213 l):∃ x:bR,l=fM x:=bDj (tH _) h
theorem bTb {l:List D} (h:WtC Tryz.prog 30 l):∃ x:aJ,l=dJ x:=bCl (tH _) h
theorem bV6 (p0:aB):FOk Tryz.prog 56 [(kL p0)] (fun y=>(vB y)) (aGy p0):=by
 intro r h
 rw [aGy] at h;refine aof bP1 ?_;show avc Tryz.prog aOm (bLu _) ⟨[(0,(kL p0))],[]⟩;delta aOm;refine so ?_;let a0:St:=⟨[(2,(vB false)),(1,(.ptr 1 0)),(0,(kL p0))],[(1,lV p0)]⟩;refine st 2 a0 (nx (so ?_));let a1:=a0.p [(2,(vB (!decide (p0.count=1)))),(5,(vB (!decide (p0.count=1)))),(4,(vI p0.count)),(3,(.ptr 1 2))];refine st 4 a1 (nx (ri ?_));injection h with h; subst h;exact r1 (v:=(vB (!decide (p0.count=1))))
theorem bUa (p0:(List aB)):(∀ (x8:Int) (r:Int),uN p0 x8=some r→avc Tryz.prog aFa (aUj r) (aBx p0 x8)):=by
 refine uN.partial_correctness p0 (fun x8 r=>avc Tryz.prog aFa (aUj r) (aBx p0 x8)) ?_
 · intro cA0 aV7 x8 r h;delta aFa;refine dX (so ?_);let a3:St:=(aBx p0 x8).p [(9,(vB (decide (x8<(ln p0)))))];refine st 1 a3 (nx (si ?_));refine cd h (fun h=>?_) fun h=>?_;refine ki (xi (si (bi (so ?_))));let a4:=a3.p [(5,(vI x8)),(10,(vI x8))];refine st 2 a4 (nx (so ?_));let a5:=a4.p [(13,(vI x8)),(12,(cO p0)),(11,(.fn 56 []))];refine st 3 a5 (vs (fun (y:aB)=>(.rp (aP y))) h (fun y hy=>via (l:=p0) (f:=aP) (g:=aP) (k:=.i64) hy (fun _=>rfl)) fun y1 h=>?_);let a6:=a5.p [(15,(kL y1)),(14,(.rp (aP y1)))];refine st 1 a6 (xC (m:=aGy y1) (caps:=[]) (args:=[(kL y1)]) (v':=(fun y=>(vB y))) h kr kr (bV6 y1) kr kr (fun _=>rfl) ?_);clear h; intro y2 h;refine nx ?_;refine cd h (fun h=>?_) fun h=>?_;refine so ?_;let a7:=a6.p [(4,(vI x8)),(17,(vI x8)),(16,(vB y2))];refine st 2 a7 (nx (ri (br (tr (tr (br (tr ?_)))))));injection h with h; subst h;exact r1 (v:=(vI x8));refine ki (bn (xi (oi ?_)));let a8:=a6.p [(8,(vI (IntKind.wrap .i64 (x8+1)))),(18,(vI (IntKind.wrap .i64 (x8+1)))),(16,(vB y2))];exact st 2 a8 (ni (dV (s':=aBx p0 (IntKind.wrap .i64 (x8+1))) (wr [] (es (es (es (es aV)))) aU) (aV7 (IntKind.wrap .i64 (x8+1)) _ h)));refine ei (te (te (bh (xi (so ?_)))));let a9:=a3.p [(4,(vI (-1)))];refine st 1 a9 (nx (ri ?_));injection h with h; subst h;exact r1 (v:=(vI (-1)))
theorem aV7 (p0:(List aB)) (x8:Int) (r:Int) (h:uN p0 x8=some r):avc Tryz.prog aFa (aUj r) (aBx p0 x8):=(bUa p0) x8 r h
theorem bIl (p0:(List aB)):FOk Tryz.prog 139 [(cO p0),(.fn 56 [])] (fun y=>(vI y)) (aMu p0):=by
 intro r h
 rw [aMu] at h;refine aof bT9 ?_;show avc Tryz.prog aV5 (aS0 _) ⟨[(0,(cO p0)),(1,(.fn 56 []))],[]⟩;delta aV5;refine so ?_;let a0:St:=⟨[(4,(vI 0)),(0,(cO p0)),(1,(.fn 56 []))],[]⟩;refine st 1 a0 (nx (si (so ?_)));let a1:=a0.p [(6,(cO p0))];refine st 1 a1 (ps (vI (ln p0)) (vln (sz:=5) (l:=p0) (f:=aP)) ?_);let a2:=a1.p [(8,(vI 0)),(7,(vI (ln p0)))];exact st 1 a2 (nx (bi (dZ (s':=aBx p0 0) (wr [] (es (es (es (es aV)))) aU) (aV7 p0 0 _ h))))
theorem bLy (p0:(List aB)):FOk Tryz.prog 55 [(cO p0),(.fn 56 [])] (fun y=>(vB y)) (aIr p0):=by
 intro r h
 rw [aIr] at h;refine aof bH4 ?_;show avc Tryz.prog aWv (bQp _) ⟨[(0,(cO p0)),(1,(.fn 56 []))],[]⟩;delta aWv;refine so ?_;let a0:St:=⟨[(4,(vB false)),(0,(cO p0)),(1,(.fn 56 []))],[]⟩;refine st 1 a0 (nx (so ?_));let a1:=a0.p [(6,(.fn 56 [])),(5,(cO p0))];refine st 2 a1 (cs h (bIl p0) fun y1 h=>?_);let a2:=a1.p [(4,(vB (decide (0≤y1)))),(8,(vB (decide (0≤y1)))),(7,(vI y1))];refine st 2 a2 (nx (ri ?_));injection h with h; subst h;exact r1 (v:=(vB (decide (0≤y1))))
theorem bVf (p0:eG) (c0_0:(List UInt8)):lK Tryz.prog 329 [(jB p0),(.ptr 1000000 0)] [(1000000,[(vS c0_0)])] (fun (y:Bool)=>(vB y)) (fun (y:Bool)=>[(1000000,[(vS c0_0)])]) (aEj p0 c0_0):=by
 intro r h
 rw [aEj] at h;refine vF bU2 (Nat.le_of_ble_eq_true rfl) (by intro n hn; simp at hn; omega) ?_;show avc Tryz.prog aVl (bS3 c0_0 _) ⟨[(0,(jB p0)),(1,(.ptr 1000000 0))],[(1000000,[(vS c0_0)])]⟩;delta aVl;refine so ?_;let a0:St:=⟨[(3,(vB false)),(2,(.ptr 2 0)),(0,(jB p0)),(1,(.ptr 1000000 0))],[(2,pX p0),(1000000,[(vS c0_0)])]⟩;refine st 2 a0 (nx (so ?_));let a1:=a0.p [(3,(vB (decide (p0.name=c0_0)))),(7,(vB (decide (p0.name=c0_0)))),(6,(vS c0_0)),(5,(vS p0.name)),(4,(.ptr 2 0))];refine st 5 a1 (nx (ri ?_));injection h with h; subst h
 exact pE (v:=(vB (decide (p0.name=c0_0)))) kr kr ⟨by kernel_rfl,by kernel_rfl,trivial⟩
theorem bTp (p0:(List eG)) (c0_0:(List UInt8)):(∀ (x8:Int) (r:Int),xZ p0 c0_0 x8=some r→avc Tryz.prog aJ0 (aNl c0_0 r) (aCe p0 c0_0 x8)):=by
 refine xZ.partial_correctness p0 c0_0 (fun x8 r=>avc Tryz.prog aJ0 (aNl c0_0 r) (aCe p0 c0_0 x8)) ?_
 · intro cAa aQn x8 r h;delta aJ0;refine dX (so ?_);let a3:St:=(aCe p0 c0_0 x8).p [(9,(vB (decide (x8<(ln p0)))))];refine st 1 a3 (nx (si ?_));refine cd h (fun h=>?_) fun h=>?_;refine ki (xi (si (bi (so ?_))));let a4:=a3.p [(5,(vI x8)),(10,(vI x8))];refine st 2 a4 (nx (so ?_));let a5:=a4.p [(13,(vI x8)),(12,(eD p0)),(11,(.fn 329 [(.ptr 1000000 0)]))];refine st 3 a5 (vs (fun (y:eG)=>(.rp (dU y))) h (fun y hy=>via (l:=p0) (f:=dU) (g:=dU) (k:=.i64) hy (fun _=>rfl)) fun y1 h=>?_);let a6:=a5.p [(15,(jB y1)),(14,(.rp (dU y1)))];refine st 1 a6 (bF3 ⟨[(1000000,1000000)],[],[],[],[],[],[],[]⟩ (m:=aEj y1 c0_0) (caps:=[(.ptr 1000000 0)]) (S':=fun (y:Bool)=>⟨(16,(vB y))::a6.env,[(1000000,[(vS c0_0)])]⟩) h (bVf y1 c0_0) kr kr kr kr kr kr (fun y=>by kernel_rfl) (fun y=>by kernel_rfl) ?_);clear h; intro y2 h;refine nx ?_;refine cd h (fun h=>?_) fun h=>?_;refine so ?_;let a7:St:=⟨(4,(vI x8))::(17,(vI x8))::(16,(vB y2))::a6.env,[(1000000,[(vS c0_0)])]⟩;refine st 2 a7 (nx (ri (br (tr (tr (br (tr ?_)))))));injection h with h; subst h
   exact pE (v:=(vI x8)) kr kr ⟨by kernel_rfl,by kernel_rfl,trivial⟩
   refine ki (bn (xi (oi ?_)));let a8:St:=⟨(8,(vI (IntKind.wrap .i64 (x8+1))))::(18,(vI (IntKind.wrap .i64 (x8+1))))::(16,(vB y2))::a6.env,[(1000000,[(vS c0_0)])]⟩;exact st 2 a8 (ni (dV (s':=aCe p0 c0_0 (IntKind.wrap .i64 (x8+1))) (wr [] (es (es (es (es aV)))) (bs_ aU)) (aQn (IntKind.wrap .i64 (x8+1)) _ h)));refine ei (te (te (bh (xi (so ?_)))));let a9:=a3.p [(4,(vI (-1)))];refine st 1 a9 (nx (ri ?_));injection h with h; subst h
   exact pE (v:=(vI (-1))) kr kr ⟨by kernel_rfl,by kernel_rfl,trivial⟩
theorem aQn (p0:(List eG)) (c0_0:(List UInt8)) (x8:Int) (r:Int) (h:xZ p0 c0_0 x8=some r):avc Tryz.prog aJ0 (aNl c0_0 r) (aCe p0 c0_0 x8):=(bTp p0 c0_0) x8 r h
theorem bUg (p0:(List eG)) (c0_0:(List UInt8)):lK Tryz.prog 328 [(eD p0),(.fn 329 [(.ptr 1000000 0)])] [(1000000,[(vS c0_0)])] (fun (y:Int)=>(vI y)) (fun (y:Int)=>[(1000000,[(vS c0_0)])]) (aH5 p0 c0_0):=by
 intro r h
 rw [aH5] at h;refine vF bHg (Nat.le_of_ble_eq_true rfl) (by intro n hn; simp at hn; omega) ?_;show avc Tryz.prog aTe (aQj c0_0 _) ⟨[(0,(eD p0)),(1,(.fn 329 [(.ptr 1000000 0)]))],[(1000000,[(vS c0_0)])]⟩;delta aTe;refine so ?_;let a0:St:=⟨[(4,(vI 0)),(0,(eD p0)),(1,(.fn 329 [(.ptr 1000000 0)]))],[(1000000,[(vS c0_0)])]⟩;refine st 1 a0 (nx (si (so ?_)));let a1:=a0.p [(6,(eD p0))];refine st 1 a1 (ps (vI (ln p0)) (vln (sz:=2) (l:=p0) (f:=dU)) ?_);let a2:=a1.p [(8,(vI 0)),(7,(vI (ln p0)))];exact st 1 a2 (nx (bi (dZ (s':=aCe p0 c0_0 0) (wr [] (es (es (es (es aV)))) (bs_ aU)) (aQn p0 c0_0 0 _ h))))
theorem bRy (p0:bO) (p1:(List UInt8)):FOk Tryz.prog 264 [(gX p0),(vS p1)] (fun y=>(vI y)) (aAz p0 p1):=by
 intro r h
 rw [aAz] at h;refine aof bFy ?_;show avc Tryz.prog aU3 (bNh _) ⟨[(0,(gX p0)),(1,(vS p1))],[]⟩;delta aU3;refine so ?_;let a0:St:=⟨[(4,(vI 0)),(3,(.ptr 3 0)),(2,(.ptr 2 0)),(0,(gX p0)),(1,(vS p1))],[(3,[(vS p1)]),(2,mO p0)]⟩;refine st 3 a0 (nx (so ?_));let a1:=a0.p [(7,(.fn 329 [(.ptr 3 0)])),(6,(eD p0.cols)),(5,(.ptr 2 1))];refine st 3 a1 (kY ⟨[(1000000,3)],[],[],[],[],[],[],[]⟩ (m:=aH5 p0.cols p1) (S':=fun (y:Int)=>⟨(8,(vI y))::a1.env,[(3,[(vS p1)]),(2,mO p0)]⟩) h (bUg p0.cols p1) kr kr kr kr (fun y=>by kernel_rfl) (fun y=>by kernel_rfl) ?_);clear h; intro y1 h;let a2:St:=⟨(4,(vI y1))::(8,(vI y1))::a1.env,[(3,[(vS p1)]),(2,mO p0)]⟩;refine st 1 a2 (nx (ri ?_));injection h with h; subst h;exact r1 (v:=(vI y1))
theorem R9 (p0:(List UInt8)):FOk Tryz.prog 263 [(vS p0)] (fun y=>(vB y)) (oL p0):=by
 intro r h
 rw [oL] at h;refine aof bNg ?_;show avc Tryz.prog aXr (bG2 _) ⟨[(0,(vS p0))],[]⟩;delta aXr;refine so ?_;let a0:St:=⟨[(2,(vB false)),(0,(vS p0))],[]⟩;refine st 1 a0 (nx (so ?_));let a1:=a0.p [(6,(vB (decide (1≤(ln p0))))),(5,(vB (decide (1≤(ln p0))))),(4,(vI (ln p0))),(3,(vS p0))];refine st 4 a1 (gp true (decide (1≤(ln p0))) (vS p0) (fun hc=>vl) (gp true (decide (1≤(ln p0))) (vI (ln p0)) (fun hc=>vg hc) (gp true (decide (1≤(ln p0))) (vB (decide ((ln p0)≤20))) (fun hc=>vg hc) ?_)));refine vs (fun (y:Bool)=>(vB y)) h (fun y hy=>bM hy (p:=(true&&((decide (1≤(ln p0)))==true))) (q:=true) kr kr kr kr (fun hb=>eX rfl hb) (fun _=>rfl)) fun y1 h=>?_;let a2:=a1.p [(2,(vB y1)),(10,(vB y1)),(9,(.ite (true&&((decide (1≤(ln p0)))==true)) (vB (decide ((ln p0)≤20))))),(8,(.ite (true&&((decide (1≤(ln p0)))==true)) (vI (ln p0)))),(7,(.ite (true&&((decide (1≤(ln p0)))==true)) (vS p0)))];refine st 1 a2 (nx (ri ?_));injection h with h; subst h;exact r1 (v:=(vB y1))
theorem bQ5 (p0:bO):(∀ (x8:Int) (r:Bool),yD p0 x8=some r→avc Tryz.prog aHj (aPw r) (aAy p0 x8)):=by
 refine yD.partial_correctness p0 (fun x8 r=>avc Tryz.prog aHj (aPw r) (aAy p0 x8)) ?_
 · intro bZt aXb x8 r h;delta aHj;refine dX (so ?_);let a3:St:=(aAy p0 x8).p [(9,(vB (decide (x8<(ln p0.cols)))))];refine st 1 a3 (nx (si ?_));refine cd h (fun h=>?_) fun h=>?_;refine ki (xi (si (bi (so ?_))));let a4:=a3.p [(10,(vI x8))];refine st 1 a4 (vs (fun (y:eG)=>(.rp (dU y))) h (fun y hy=>via (l:=p0.cols) (f:=dU) (g:=dU) (k:=.i64) hy (fun _=>rfl)) fun y1 h=>?_);let a5:St:=⟨(3,(vI x8))::(4,(.ptr 4 0))::(12,(jB y1))::(11,(.rp (dU y1)))::a4.env,[(4,pX y1),(1,mO p0)]⟩;refine st 4 a5 (nx (so ?_));let a6:=a5.p [(14,(vS y1.name)),(13,(.ptr 4 0))];refine st 2 a6 (cs h (R9 y1.name) fun y2 h=>?_);let a7:=a6.p [(17,(vB (!y2))),(16,(vB (!y2))),(15,(vB y2))];refine st 2 a7 (gp true (!y2) (.ptr 4 1) (fun hc=>vl) (gp true (!y2) (vI y1.type) (fun hc=>vg hc) (gp true (!y2) (vB (decide (y1.type<1))) (fun hc=>vg hc) (vs (fun (y:Bool)=>(vB y)) h (fun y hy=>bM hy (p:=true) (q:=(true&&((!y2)==false))) kr kr kr kr (fun _=>rfl) (fun hb=>eY rfl hb)) fun y3 h=>?_))));let a8:=a7.p [(22,(vB y3)),(21,(vB y3)),(20,(.ite (true&&((!y2)==false)) (vB (decide (y1.type<1))))),(19,(.ite (true&&((!y2)==false)) (vI y1.type))),(18,(.ite (true&&((!y2)==false)) (.ptr 4 1)))];refine st 1 a8 (gp true y3 (.ptr 4 1) (fun hc=>vl) (gp true y3 (vI y1.type) (fun hc=>vg hc) (gp true y3 (vB (decide (3<y1.type))) (fun hc=>vg hc) (vs (fun (y:Bool)=>(vB y)) h (fun y hy=>bM hy (p:=true) (q:=(true&&(y3==false))) kr kr kr kr (fun _=>rfl) (fun hb=>eY rfl hb)) fun y4 h=>?_))));let a9:=a8.p [(27,(vB y4)),(26,(vB y4)),(25,(.ite (gF y3) (vB (decide (3<y1.type))))),(24,(.ite (gF y3) (vI y1.type))),(23,(.ite (gF y3) (.ptr 4 1)))];refine st 1 a9 (gp true y4 (gX p0) (fun hc=>vl) (gp true y4 (.ptr 4 0) (fun hc=>vl) (gp true y4 (vS y1.name) (fun hc=>vg hc) ?_)));refine iW (p:=true) (b:=y4) (m:=aAz p0 y1.name) (dflt:=default) (args:=[(gX p0),(vS y1.name)]) (v':=(fun y=>(vI y))) h kr (bRy p0 y1.name) (fun hc=>by kernel_rfl) kr (fun _=>rfl) (fun hc=>(Eq.trans (b:=([(true&&(y4==false)),(true&&(y4==false))]:List Bool).all id) kr (aZ hc (aZ hc rfl)))) ?_;clear h; intro y5 h;refine gp true y4 (vI x8) (fun hc=>vl) (gp true y4 (vB (!decide (y5=x8))) (fun hc=>gJ (Eq.trans (b:=([(true&&(y4==false)),(true&&(y4==false))]:List Bool).all id) kr (aZ hc (aZ hc rfl))) kr) ?_);refine vs (fun (y:Bool)=>(vB y)) h (fun y hy=>bM hy (p:=true) (q:=(true&&(y4==false))) kr kr kr kr (fun _=>rfl) (fun hb=>eY rfl hb)) fun y6 h=>(nx ?_);refine cd h (fun h=>?_) fun h=>?_;refine so ?_;let a10:=a9.p [(2,(vB false)),(34,(vB y6)),(33,(.ite (gF y4) (vB (!decide (y5=x8))))),(32,(.ite (gF y4) (vI x8))),(31,(.ite (gF y4) (vI y5))),(30,(.ite (gF y4) (vS y1.name))),(29,(.ite (gF y4) (.ptr 4 0))),(28,(.ite (gF y4) (gX p0)))];refine st 1 a10 (nx (ri (br (tr (tr (br (tr ?_)))))));injection h with h; subst h;exact r1 (v:=(vB false));refine ki (bn (xi (oi ?_)));let a11:=a9.p [(8,(vI (IntKind.wrap .i64 (x8+1)))),(35,(vI (IntKind.wrap .i64 (x8+1)))),(34,(vB y6)),(33,(.ite (gF y4) (vB (!decide (y5=x8))))),(32,(.ite (gF y4) (vI x8))),(31,(.ite (gF y4) (vI y5))),(30,(.ite (gF y4) (vS y1.name))),(29,(.ite (gF y4) (.ptr 4 0))),(28,(.ite (gF y4) (gX p0)))];exact st 2 a11 (ni (dV (s':=aAy p0 (IntKind.wrap .i64 (x8+1))) (wr [] (es (es (es (es aV)))) (bs_ aU)) (aXb (IntKind.wrap .i64 (x8+1)) _ h)));refine ei (te (te (bh (xi (so ?_)))));let a12:=a3.p [(37,(vS p0.name)),(36,(.ptr 1 0))];refine st 2 a12 (cs h (R9 p0.name) fun y7 h=>?_);let a13:=a12.p [(39,(vB y7)),(38,(vB y7))];refine st 1 a13 (gp true y7 (.ptr 1 1) (fun hc=>vl) (gp true y7 (eD p0.cols) (fun hc=>vg hc) (gp true y7 (vI (ln p0.cols)) (fun hc=>kT (sz:=2) (l:=p0.cols) (f:=dU) (Eq.trans (b:=([(true&&(y7==true))]:List Bool).all id) kr (aZ hc rfl)) kr) (gp true y7 (vB (decide (1≤(ln p0.cols)))) (fun hc=>vg hc) ?_))));refine vs (fun (y:Bool)=>(vB y)) h (fun y hy=>bM hy (p:=(true&&(y7==true))) (q:=true) kr kr kr kr (fun hb=>eX rfl hb) (fun _=>rfl)) fun y8 h=>?_;let a14:=a13.p [(45,(vB y8)),(44,(vB y8)),(43,(.ite (gT y7) (vB (decide (1≤(ln p0.cols)))))),(42,(.ite (gT y7) (vI (ln p0.cols)))),(41,(.ite (gT y7) (eD p0.cols))),(40,(.ite (gT y7) (.ptr 1 1)))];refine st 1 a14 (gp true y8 (.ptr 1 1) (fun hc=>vl) (gp true y8 (eD p0.cols) (fun hc=>vg hc) (gp true y8 (vI (ln p0.cols)) (fun hc=>kT (sz:=2) (l:=p0.cols) (f:=dU) (Eq.trans (b:=([(true&&(y8==true))]:List Bool).all id) kr (aZ hc rfl)) kr) (gp true y8 (vB (decide ((ln p0.cols)≤4))) (fun hc=>vg hc) ?_))));refine vs (fun (y:Bool)=>(vB y)) h (fun y hy=>bM hy (p:=(true&&(y8==true))) (q:=true) kr kr kr kr (fun hb=>eX rfl hb) (fun _=>rfl)) fun y9 h=>?_;let a15:=a14.p [(2,(vB y9)),(50,(vB y9)),(49,(.ite (gT y8) (vB (decide ((ln p0.cols)≤4))))),(48,(.ite (gT y8) (vI (ln p0.cols)))),(47,(.ite (gT y8) (eD p0.cols))),(46,(.ite (gT y8) (.ptr 1 1)))];refine st 1 a15 (nx (ri ?_));injection h with h; subst h;exact r1 (v:=(vB y9))
theorem aXb (p0:bO) (x8:Int) (r:Bool) (h:yD p0 x8=some r):avc Tryz.prog aHj (aPw r) (aAy p0 x8):=(bQ5 p0) x8 r h
theorem bHw (p0:bO):FOk Tryz.prog 168 [(gX p0)] (fun y=>(vB y)) (aJ1 p0):=by
 intro r h
 rw [aJ1] at h;refine aof bJm ?_;show avc Tryz.prog aPs (aSv _) ⟨[(0,(gX p0))],[]⟩;delta aPs;refine so ?_;let a0:St:=⟨[(2,(vB false)),(1,(.ptr 1 0)),(0,(gX p0))],[(1,mO p0)]⟩;refine st 2 a0 (nx (si (so ?_)));let a1:=a0.p [(6,(eD p0.cols)),(5,(.ptr 1 1))];refine st 2 a1 (ps (vI (ln p0.cols)) (vln (sz:=2) (l:=p0.cols) (f:=dU)) ?_);let a2:=a1.p [(8,(vI 0)),(7,(vI (ln p0.cols)))];exact st 1 a2 (nx (bi (dZ (s':=aAy p0 0) (wr [] (es (es (es (es aV)))) (bs_ aU)) (aXb p0 0 _ h))))
end Go.Proofs.YtkdkhdefdfkagaaGreat
