/- That the code computes these functions (printed by a program). -/
import Derived.KernelRfl
import Derived.Test.YtflhmnfmihkbmacAbG2
import Derived.Test.YtflhmnfmihkbmacAbC3
import Derived.Test.YtflhmnfmihkbmacAbX1
import Derived.Test.YtflhmnfmihkbmacFTables
import Derived.Test.YtflhmnfmihkbmacProg
namespace Go.Proofs.Ytflhmnfmihkbmac
open Go Go.RowKit Go.Ab
attribute [local irreducible] avc bX aop dgo bO bM bP wkK Y9 stz aIq dC eff bQ.st
def cI (n:Int):List D:=[.i .i64 n]
def cU8 (n:Int):List D:=[.i .u8 n]
def bZu (n:Int):List D:=[.i .u64 n]
def bZy (n:Int):List D:=[.i .i32 n]
def bZd (n:Int):List D:=[.i .u32 n]
def cB (b:Bool):List D:=[.b b]
def cStr (s:List UInt8):List D:=[.s (bs s)]
def cSl {α:Type} (sz:Nat) (f:α→List D) (l:List α):List D:=[.sl sz (l.map f)]
def aB7 (x:bN):List D:=[(.i .i64 x.kind),(.i .i64 x.num),(.s (bs x.text))]
def nK (x:bN):V:=.agg (aB7 x)
def aQm (x:bN):List V:=(aB7 x).map V.d
mutual
def aZ:aA→List D
  | ⟨a0,a1,a2,a3,a4,a5,a6,a7⟩=>[(.i .i64 a0)]++[(.i .i64 a1)]++[(.b a2)]++aB7 a3++[(.s (bs a4))]++[(.s (bs a5))]++[.sl 10 (zX a6)]++[.sl 6 (aB0 a7)]
def fH:bH→List D
  | ⟨a0,a1,a2,a3⟩=>[(.b a0)]++[(.s (bs a1))]++aZ a2++[(.s (bs a3))]
def eB:aQ→List D
  | ⟨a0,a1,a2,a3,a4,a5⟩=>[(.b a0)]++[.sl 13 (aAd a1)]++[.sl 3 (aCb a2)]++[.sl 10 (zX a3)]++[.sl 11 (aBx a4)]++[(.i .i64 a5)]
def iI:dU→List D
  | ⟨a0,a1⟩=>aZ a0++[(.b a1)]
def gY:bI→List D
  | ⟨a0,a1,a2⟩=>[(.s (bs a0))]++[(.s (bs a1))]++[.sl 10 (zX a2)]
def zX:List aA→List (List D)
  | []=>[]
  | x::l=>aZ x::zX l
def aAd:List bH→List (List D)
  | []=>[]
  | x::l=>fH x::aAd l
def aB0:List aQ→List (List D)
  | []=>[]
  | x::l=>eB x::aB0 l
def aBx:List dU→List (List D)
  | []=>[]
  | x::l=>iI x::aBx l
def aCb:List bI→List (List D)
  | []=>[]
  | x::l=>gY x::aCb l
end
theorem P5:∀ l:List aA,zX l=l.map aZ
  | []=>by simp only [zX,List.map_nil]
  | x::l=>by simp only [zX,List.map_cons,P5 l]
theorem Y1:∀ l:List bH,aAd l=l.map fH
  | []=>by simp only [aAd,List.map_nil]
  | x::l=>by simp only [aAd,List.map_cons,Y1 l]
theorem Y5:∀ l:List aQ,aB0 l=l.map eB
  | []=>by simp only [aB0,List.map_nil]
  | x::l=>by simp only [aB0,List.map_cons,Y5 l]
theorem R5:∀ l:List dU,aBx l=l.map iI
  | []=>by simp only [aBx,List.map_nil]
  | x::l=>by simp only [aBx,List.map_cons,R5 l]
theorem U4:∀ l:List bI,aCb l=l.map gY
  | []=>by simp only [aCb,List.map_nil]
  | x::l=>by simp only [aCb,List.map_cons,U4 l]
def iM (x:aA):List D:=[(.i .i64 x.kind),(.i .i64 x.op),(.b x.not_),(.i .i64 x.value.kind),(.i .i64 x.value.num),(.s (bs x.value.text)),(.s (bs x.qual)),(.s (bs x.name)),(.sl 10 (x.kids.map aZ)),(.sl 6 (x.sub.map eB))]
def wR (x:bH):List D:=[(.b x.star),(.s (bs x.qual)),(.i .i64 x.expr.kind),(.i .i64 x.expr.op),(.b x.expr.not_),(.i .i64 x.expr.value.kind),(.i .i64 x.expr.value.num),(.s (bs x.expr.value.text)),(.s (bs x.expr.qual)),(.s (bs x.expr.name)),(.sl 10 (x.expr.kids.map aZ)),(.sl 6 (x.expr.sub.map eB)),(.s (bs x.as_))]
def wN (x:aQ):List D:=[(.b x.distinct),(.sl 13 (x.items.map fH)),(.sl 3 (x.from_.map gY)),(.sl 10 (x.where_.map aZ)),(.sl 11 (x.order.map iI)),(.i .i64 x.limit)]
def nA (x:dU):List D:=[(.i .i64 x.expr.kind),(.i .i64 x.expr.op),(.b x.expr.not_),(.i .i64 x.expr.value.kind),(.i .i64 x.expr.value.num),(.s (bs x.expr.value.text)),(.s (bs x.expr.qual)),(.s (bs x.expr.name)),(.sl 10 (x.expr.kids.map aZ)),(.sl 6 (x.expr.sub.map eB)),(.b x.desc)]
def I9 (x:bI):List D:=[(.s (bs x.table)),(.s (bs x.as_)),(.sl 10 (x.on_.map aZ))]
theorem jA (x:aA):aZ x=iM x:=by
  obtain ⟨a0,a1,a2,a3,a4,a5,a6,a7⟩:=x
  simp only [aZ,iM,P5,Y1,Y5,R5,U4,List.cons_append,List.nil_append,aB7]
theorem aC4 (x:bH):fH x=wR x:=by
  obtain ⟨a0,a1,a2,a3⟩:=x
  simp only [fH,wR,P5,Y1,Y5,R5,U4,jA,iM,List.cons_append,List.nil_append]
theorem Q6 (x:aQ):eB x=wN x:=by
  obtain ⟨a0,a1,a2,a3,a4,a5⟩:=x
  simp only [eB,wN,P5,Y1,Y5,R5,U4,List.cons_append,List.nil_append]
theorem aAh (x:dU):iI x=nA x:=by
  obtain ⟨a0,a1⟩:=x
  simp only [iI,nA,P5,Y1,Y5,R5,U4,jA,iM,List.cons_append,List.nil_append]
theorem aQy (x:bI):gY x=I9 x:=by
  obtain ⟨a0,a1,a2⟩:=x
  simp only [gY,I9,P5,Y1,Y5,R5,U4,List.cons_append,List.nil_append]
def eU (x:aA):V:=.agg (iM x)
def kS (x:aA):List V:=(iM x).map V.d
def aO9 (x:bH):V:=.agg (wR x)
def bZe (x:bH):List V:=(wR x).map V.d
def iP (x:aQ):V:=.agg (wN x)
def iU (x:aQ):List V:=(wN x).map V.d
def cA5 (x:dU):V:=.agg (nA x)
def bZf (x:dU):List V:=(nA x).map V.d
def bXk (x:bI):V:=.agg (I9 x)
def bZs (x:bI):List V:=(I9 x).map V.d
def aNs (x:bD):List D:=[(.i .i64 x.kind),(.b x.query.distinct),(.sl 13 (x.query.items.map fH)),(.sl 3 (x.query.from_.map gY)),(.sl 10 (x.query.where_.map aZ)),(.sl 11 (x.query.order.map iI)),(.i .i64 x.query.limit),(.s (bs x.table)),(.sl 1 (x.rows.map (cSl 10 aZ))),(.sl 1 (x.cols.map cStr)),(.sl 10 (x.sets.map aZ)),(.sl 10 (x.where_.map aZ))]
def kJ (x:bD):V:=.agg (aNs x)
def pW (x:bD):List V:=(aNs x).map V.d
def aV (x:aB):List D:=[(.i .i64 x.kind),(.s (bs x.text)),(.i .i64 x.at_)]
def oO (x:aB):V:=.agg (aV x)
def cA2 (x:aB):List V:=(aV x).map V.d
def aPq (x:dD):List D:=[(.sl 1 (x.list.map cStr))]
def cA4 (x:dD):V:=.agg (aPq x)
def bYy (x:dD):List V:=(aPq x).map V.d
def aKq (x:aJ):List D:=[(.sl 1 (x.b.map cU8)),(.i .i64 x.i),(.i .i64 x.h)]
def bZ9 (x:aJ):V:=.agg (aKq x)
def bG (x:aJ):List V:=(aKq x).map V.d
instance:Enc (List UInt8):=⟨cStr,cStr,(fun _=>rfl)⟩
instance:Enc aB:=⟨aV,aV,(fun _=>rfl)⟩
instance:Enc bI:=⟨gY,I9,aQy⟩
instance:Enc (List aA):=⟨(cSl 10 aZ),(cSl 10 aZ),(fun _=>rfl)⟩
instance:Enc bH:=⟨fH,wR,aC4⟩
instance:Enc dU:=⟨iI,nA,aAh⟩
instance:Enc aA:=⟨aZ,iM,jA⟩
instance:Enc aQ:=⟨eB,wN,Q6⟩
theorem kr {p:Prop} (h:p:=by kernel_rfl):p:=h
def qU (l:List bI):V:=.d (.sl 3 (l.map gY))
def H8 (l:List (List UInt8)):V:=.d (.sl 1 (l.map cStr))
def aIb (l:List bH):V:=.d (.sl 13 (l.map fH))
def xH (l:List dU):V:=.d (.sl 11 (l.map iI))
def iL (l:List aA):V:=.d (.sl 10 (l.map aZ))
def bSe (l:List aQ):V:=.d (.sl 6 (l.map eB))
def gU (l:List Int):V:=.d (.sl 1 (l.map cU8))
def bIp (l:List Int):V:=.d (.sl 1 (l.map cI))
def uT (l:List aB):V:=.d (.sl 3 (l.map aV))
def bL:V:=(.d (.s (bs [])))
def bA:V:=(.d (.i .i64 0))
def fZ:V:=(.d (.b false))
def yV:List V:=[bA,bA,fZ,bA,bA,bL,bL,bL,(.nil 10),(.nil 6)]
def aA4:List V:=[bA,fZ,(.nil 13),(.nil 3),(.nil 10),(.nil 11),bA,bL,(.nil 1),(.nil 1),(.nil 10),(.nil 10)]
def aBv:List V:=[fZ,bL,bA,bA,fZ,bA,bA,bL,bL,bL,(.nil 10),(.nil 6),bL]
def aN2:List V:=[fZ,(.nil 13),(.nil 3),(.nil 10),(.nil 11),bA]
def aNu:AC:=(.loop (.seq (.seq (.ops [.mv 30 7,.mv 31 6,.bin 32 .lss 30 31]) (.cond 32 .skip (.exit 2))) (.seq (.block 3 (.seq (.dops [[],[],[0,1],[2],[],[],[4,5],[6],[3,7]] [.mv 35 4,.mv 36 7,.ia 37 1 35 36,.ld 38 1 false 37,.mv 39 4,.mv 40 6,.ia 41 1 39 40,.ld 42 1 false 41,.bin 43 .eql 38 42]) (.cond 43 (.seq (.ops [.asg 2 (kB false)]) .ret) .skip))) (.ops [.mv 33 7,.bin 34 .add 33 (kI 1),.asg 7 34]))))
def aLd:AC:=(.loop (.seq (.seq (.ops [.mv 47 9,.mv 48 5,.len 49 48,.bin 50 .lss 47 49]) (.cond 50 .skip (.exit 4))) (.seq (.block 5 (.dops [[],[0],[1],[1],[2,3,1],[4,1],[5,1],[6,1],[7,1,1],[8],[8],[9,10,8],[11,8],[12,8],[8],[8],[14,15,8],[16,8],[13,17,8],[8,18,1],[1,19],[20,8,0,1,2,3,4,5,6,7,8,9,10,11,12,13,14,15,16,17,18,19,20]] [.mv 53 8,.mv 54 53,.g 54 false (.mv 55 5),.g 54 false (.mv 56 9),.g 54 false (.ia 57 3 55 56),.g 54 false (.fa 58 0 57),.g 54 false (.ld 59 1 false 58),.g 54 false (.bin 60 .eql 59 (kI 2)),.g 54 false (.mv 61 60),.g 61 true (.mv 62 5),.g 61 true (.mv 63 9),.g 61 true (.ia 64 3 62 63),.g 61 true (.fa 65 1 64),.g 61 true (.ld 66 1 false 65),.g 61 true (.mv 67 4),.g 61 true (.mv 68 6),.g 61 true (.ia 69 1 67 68),.g 61 true (.ld 70 1 false 69),.g 61 true (.bin 71 .eql 66 70),.g 54 false (.pick 72 61 71 (kB false)),.pick 73 54 (kB true) 72,.asg 8 73])) (.ops [.mv 51 9,.bin 52 .add 51 (kI 1),.asg 9 52]))))
def aWd:AC:=(.seq (.ops [.mv 74 8,.not 75 74]) (.cond 75 (.seq (.ops [.asg 2 (kB false)]) .ret) .skip))
def aTp:AC:=(.seq (.ops [.mv 44 5,.len 45 44,.bin 46 .eql 45 (kI 0),.asg 8 46]) (.seq (.seq (.ops [.asg 9 (kI 0)]) (.block 4 aLd)) aWd))
def aUy:AC:=(.ops [.mv 28 6,.bin 29 .add 28 (kI 1),.asg 6 29])
def aEf:AC:=(.loop (.seq (.seq (.ops [.mv 24 6,.mv 25 4,.len 26 25,.bin 27 .lss 24 26]) (.cond 27 .skip (.exit 0))) (.seq (.block 1 (.seq (.seq (.ops [.asg 7 (kI 0)]) (.block 2 aNu)) aTp)) aUy)))
def bA8:AC:=(.seq (.ops [.asg 2 (kB true)]) .ret)
def bF4:AC:=(.seq (.ops [.asg 2 (kB false)]) (.seq (.seq (.ops [.mv 10 0,.call (some 11) 4 [10]]) (.cond 11 (.seq (.ops [.asg 2 (kB true)]) .ret) .skip)) (.seq (.ops [.mv 12 0,.call (some 13) 5 [12],.alc 3 aA4,.st 12 3 13]) (.seq (.ops [.ld 14 12 true 3,.call (some 15) 6 [14],.asg 4 15]) (.seq (.seq (.ops [.mv 16 4,.len 17 16,.ld 18 12 true 3,.call (some 19) 7 [18],.len 20 19,.bin 21 .neq 17 20]) (.cond 21 (.seq (.ops [.asg 2 (kB false)]) .ret) .skip)) (.seq (.ops [.ld 22 12 true 3,.call (some 23) 8 [22],.asg 5 23]) (.seq (.seq (.ops [.asg 6 (kI 0)]) (.block 0 aEf)) bA8)))))))
theorem bCe:bR Try.prog 3=some (bF4,[.mv 0 2],76):=by kernel_rfl
def aTq (r:Bool):Exit→St→Prop:=bO [.mv 0 2] fun x _=>x=(fun y=>(vB y)) r
def bSh (r:Bool):Exit→St→Prop:=(bM (wkK (avc Try.prog bA8 (aTq r))) (aTq r))
def aNd (r:Bool):Exit→St→Prop:=(bP 0 (bSh r))
def aZ7 (r:Bool):Exit→St→Prop:=(bM (avc Try.prog aEf (aNd r)) (aNd r))
def bQ5 (r:Bool):Exit→St→Prop:=(bM (wkK (avc Try.prog aUy (aZ7 r))) (aZ7 r))
def aJe (r:Bool):Exit→St→Prop:=(bP 1 (bQ5 r))
def bGb (r:Bool):Exit→St→Prop:=(bM (wkK (avc Try.prog aTp (aJe r))) (aJe r))
def bBy (r:Bool):Exit→St→Prop:=(bP 2 (bGb r))
def bMx (r:Bool):Exit→St→Prop:=(bM (wkK (avc Try.prog aWd (aJe r))) (aJe r))
def bWe (r:Bool):Exit→St→Prop:=(bP 4 (bMx r))
def bP4 (y3:(List (List UInt8))) (y5:(List aB)) (x6:Int):St:=⟨[(4,(.osl 4 9 1 (y3.map cStr))),(5,(.osl 5 39 3 (y5.map aV))),(6,(vI x6))],[]⟩
abbrev aFy (y3:(List (List UInt8))) (y5:(List aB)) (x6:Int) (r:Bool):Prop:=avc Try.prog aEf (aNd r) (bP4 y3 y5 x6)
def bCk (y3:(List (List UInt8))) (y5:(List aB)) (x6:Int) (x7:Int):St:=⟨[(4,(.osl 4 9 1 (y3.map cStr))),(5,(.osl 5 39 3 (y5.map aV))),(6,(vI x6)),(7,(vI x7))],[]⟩
abbrev aEm (y3:(List (List UInt8))) (y5:(List aB)) (x6:Int) (x7:Int) (r:Bool):Prop:=avc Try.prog aNu (bBy r) (bCk y3 y5 x6 x7)
def bLo (y3:(List (List UInt8))) (y5:(List aB)) (x6:Int) (x8:Bool) (x9:Int):St:=⟨[(4,(.osl 4 9 1 (y3.map cStr))),(5,(.osl 5 39 3 (y5.map aV))),(6,(vI x6)),(8,(vB x8)),(9,(vI x9))],[]⟩
abbrev aGg (y3:(List (List UInt8))) (y5:(List aB)) (x6:Int) (x8:Bool) (x9:Int) (r:Bool):Prop:=avc Try.prog aLd (bWe r) (bLo y3 y5 x6 x8 x9)
def bF0:AC:=(.seq (.ops [.box 1 33 0,.asg 2 (.c (.nil 1))]) (.seq (.ops [.bld 4 [(.nil 1)] [],.box 5 42 4,.asg 3 5]) (.seq (.ops [.mv 6 3,.fa 7 7 1,.ld 8 1 false 7,.call (some 9) 10 [6,8]]) (.seq (.ops [.mv 10 3,.fa 11 1 1,.ld 12 6 true 11,.call (some 13) 11 [10,12]]) (.seq (.ops [.mv 14 3,.ld 15 12 true 1,.call (some 16) 13 [15],.call (some 17) 12 [14,16]]) (.seq (.ops [.mv 18 3,.nck 19 18,.fa 20 0 19,.ld 21 1 false 20,.asg 2 21]) .ret))))))
theorem bE7:bR Try.prog 6=some (bF0,[.mv 0 2],22):=by kernel_rfl
def bY3 (r:(List (List UInt8))):Exit→St→Prop:=bO [.mv 0 2] fun x b=>x=(fun (y:(List (List UInt8)))=>(.osl 2000000 9 1 (y.map cStr))) r∧bZ ((fun (y:(List (List UInt8)))=>[]) r) b
def aQ7:AC:=(.loop (.seq (.ops [.bin 10 .lss 9 8]) (.seq (.cond 10 .skip (.exit 0)) (.seq (.block 1 (.seq (.ops [.ia 11 3 7 9,.ld 12 3 true 11,.alc 5 [bL,bL,(.nil 10)],.st 3 5 12]) (.ops [.mv 13 0,.fa 14 0 5,.ld 15 1 false 14,.call (some 16) 10 [13,15]]))) (.ops [.bin 17 .add 9 (kI 1),.mv 9 17])))))
def bCt:AC:=(.seq (.ops [.box 3 29 1]) (.seq (.ops [.fa 6 2 3,.ld 7 1 false 6,.len 8 7,.mv 9 (kI 0)]) (.block 0 aQ7)))
theorem bQ7:bR Try.prog 11=some (bCt,[],18):=by kernel_rfl
def bR2 (r:dD):Exit→St→Prop:=bO [] fun x b=>x=(fun (y:dD)=>(.tup [])) r∧bZ ((fun (y:dD)=>[(1000000,[(.osl 6000000 9 1 (y.list.map cStr))])]) r) b
def bGp (r:dD):Exit→St→Prop:=(bP 0 (bR2 r))
def bFu (p1:aQ) (x9:Int) (bC:(List (List UInt8))):St:=⟨[(0,(.ptr 1000000 0)),(7,(qU p1.from_)),(8,(vI (p1.from_.length:Int))),(9,(vI x9))],[(1000000,[(.osl 6000000 9 1 (bC.map cStr))])]⟩
abbrev aHj (p1:aQ) (x9:Int) (bC:(List (List UInt8))) (r:dD):Prop:=avc Try.prog aQ7 (bGp r) (bFu p1 x9 bC)
def bS1:AC:=(.seq (.ops [.mv 4 1,.bin 5 .neq 4 (.c (.d (.s (bs [])))),.mv 6 5,.g 6 true (.mv 7 0),.g 6 true (.nck 8 7),.g 6 true (.fa 9 0 8),.g 6 true (.ld 10 1 false 9),.g 6 true (.mv 11 1),.g 6 true (.call (some 12) 27 [10,11]),.g 6 true (.not 13 12),.pick 14 6 13 (kB false)]) (.cond 14 (.ops [.mv 15 0,.mv 16 0,.nck 17 16,.fa 18 0 17,.ld 19 1 false 18,.mv 20 1,.bsl 21 9 1 [20],.app 22 9 1 16 19 21,.nck 23 15,.fa 24 0 23,.st 1 24 22]) .skip))
theorem bMu:bR Try.prog 10=some (bS1,[],25):=by kernel_rfl
def bYw (r:dD):Exit→St→Prop:=bO [] fun x b=>x=(fun (y:dD)=>(.tup [])) r∧bZ ((fun (y:dD)=>[(1000000,[(.osl 6000000 9 1 (y.list.map cStr))])]) r) b
def bJy:AC:=(.seq (.ops [.asg 4 (kB false)]) (.seq (.ops [.mv 5 0,.mv 6 1,.call (some 7) 53 [5,6],.bin 8 .geq 7 (kI 0),.asg 4 8]) .ret))
theorem bWq:bR Try.prog 27=some (bJy,[.mv 0 4],9):=by kernel_rfl
def bZv (r:Bool):Exit→St→Prop:=bO [.mv 0 4] fun x _=>x=(fun y=>(vB y)) r
def aMy:AC:=(.loop (.seq (.ops [.bin 9 .lss 8 7]) (.seq (.cond 9 .skip (.exit 0)) (.seq (.block 1 (.seq (.ops [.mv 10 8,.asg 5 10]) (.seq (.ops [.mv 11 1,.mv 12 0,.mv 13 5,.ia 14 1 12 13,.ld 15 1 false 14,.bin 16 .eql 11 15]) (.cond 16 (.seq (.ops [.mv 17 5,.asg 4 17]) .ret) .skip)))) (.ops [.bin 18 .add 8 (kI 1),.mv 8 18])))))
def bAv:AC:=(.seq (.ops [.asg 4 (kI (-1))]) .ret)
def bSz:AC:=(.seq (.ops [.asg 4 (kI 0)]) (.seq (.seq (.ops [.mv 6 0,.len 7 6,.mv 8 (kI 0)]) (.block 0 aMy)) bAv))
theorem bMt:bR Try.prog 53=some (bSz,[.mv 0 4],19):=by kernel_rfl
def aZs (r:Int):Exit→St→Prop:=bO [.mv 0 4] fun x _=>x=(fun y=>(vI y)) r
def bVv (r:Int):Exit→St→Prop:=(bM (wkK (avc Try.prog bAv (aZs r))) (aZs r))
def bGi (r:Int):Exit→St→Prop:=(bP 0 (bVv r))
def bDb (p0:(List (List UInt8))) (p1:(List UInt8)) (x8:Int):St:=⟨[(0,(H8 p0)),(1,(vS p1)),(7,(vI (p0.length:Int))),(8,(vI x8))],[]⟩
abbrev aI2 (p0:(List (List UInt8))) (p1:(List UInt8)) (x8:Int) (r:Int):Prop:=avc Try.prog aMy (bGi r) (bDb p0 p1 x8)
def aLr:AC:=(.loop (.seq (.ops [.bin 13 .lss 12 11]) (.seq (.cond 13 .skip (.exit 0)) (.seq (.block 1 (.seq (.ops [.ia 14 1 10 12,.ld 15 1 false 14,.asg 5 15]) (.ops [.mv 16 3,.mv 17 5,.app 18 54 10 136 16 17,.asg 3 18]))) (.ops [.bin 19 .add 12 (kI 1),.mv 12 19])))))
def aV2:AC:=(.seq (.ops [.mv 20 3,.fa 21 10 1,.ld 22 1 false 21,.app 23 54 10 136 20 22,.asg 3 23]) (.seq (.ops [.mv 24 3,.fa 25 11 1,.ld 26 1 false 25,.app 27 54 10 136 24 26,.asg 2 27]) .ret))
def bJo:AC:=(.seq (.ops [.box 1 33 0,.asg 2 (.c (.nil 10))]) (.seq (.ops [.fa 6 1 1,.ld 7 6 true 6,.call (some 8) 28 [7],.asg 3 8]) (.seq (.seq (.ops [.fa 9 8 1,.ld 10 1 false 9,.len 11 10,.mv 12 (kI 0)]) (.block 0 aLr)) aV2)))
theorem bHv:bR Try.prog 13=some (bJo,[.mv 0 2],28):=by kernel_rfl
def aY7 (r:(List aA)):Exit→St→Prop:=bO [.mv 0 2] fun x b=>x=(fun (y:(List aA))=>(.osl 2000000 54 10 (y.map aZ))) r∧bZ ((fun (y:(List aA))=>[]) r) b
def bDz (r:(List aA)):Exit→St→Prop:=(bM (wkK (avc Try.prog aV2 (aY7 r))) (aY7 r))
def bGd (r:(List aA)):Exit→St→Prop:=(bP 0 (bDz r))
def bSg (p0:bD) (x3:(List aA)) (x12:Int):St:=⟨[(1,(.ptr 1 0)),(3,(.osl 3 54 10 (x3.map aZ))),(10,(.d (.sl 1 (p0.rows.map (cSl 10 aZ))))),(11,(vI (p0.rows.length:Int))),(12,(vI x12))],[(1,pW p0)]⟩
abbrev aF7 (p0:bD) (x3:(List aA)) (x12:Int) (r:(List aA)):Prop:=avc Try.prog aLr (bGd r) (bSg p0 x3 x12)
def aK2:AC:=(.ops [.bin 26 .add 14 (kI 1),.mv 14 26])
def aGu:AC:=(.loop (.seq (.ops [.bin 15 .lss 14 13]) (.seq (.cond 15 .skip (.exit 0)) (.seq (.block 1 (.seq (.ops [.ia 16 13 12 14,.ld 17 13 true 16,.alc 5 aBv,.st 13 5 17]) (.seq (.ops [.fa 18 0 5,.ld 19 1 false 18,.not 20 19]) (.cond 20 (.ops [.mv 21 3,.fa 22 2 5,.ld 23 10 true 22,.bsl 24 54 10 [23],.app 25 54 10 136 21 24,.asg 3 25]) .skip)))) aK2))))
def aLv:AC:=(.loop (.seq (.ops [.bin 31 .lss 30 29]) (.seq (.cond 31 .skip (.exit 2)) (.seq (.block 3 (.seq (.ops [.ia 32 3 28 30,.ld 33 3 true 32,.alc 7 [bL,bL,(.nil 10)],.st 3 7 33]) (.ops [.mv 34 3,.fa 35 2 7,.ld 36 1 false 35,.app 37 54 10 136 34 36,.asg 3 37]))) (.ops [.bin 38 .add 30 (kI 1),.mv 30 38])))))
def aJp:AC:=(.loop (.seq (.ops [.bin 47 .lss 46 45]) (.seq (.cond 47 .skip (.exit 4)) (.seq (.block 5 (.seq (.ops [.ia 48 11 44 46,.ld 49 11 true 48,.alc 9 [bA,bA,fZ,bA,bA,bL,bL,bL,(.nil 10),(.nil 6),fZ],.st 11 9 49]) (.ops [.mv 50 3,.fa 51 0 9,.ld 52 10 true 51,.bsl 53 54 10 [52],.app 54 54 10 136 50 53,.asg 3 54]))) (.ops [.bin 55 .add 46 (kI 1),.mv 46 55])))))
def aUv:AC:=(.seq (.ops [.mv 56 3,.asg 2 56]) .ret)
def bAp:AC:=(.seq (.ops [.mv 39 3,.fa 40 3 1,.ld 41 1 false 40,.app 42 54 10 136 39 41,.asg 3 42]) (.seq (.seq (.ops [.fa 43 4 1,.ld 44 1 false 43,.len 45 44,.mv 46 (kI 0)]) (.block 4 aJp)) aUv))
def aV0:AC:=(.seq (.seq (.ops [.fa 27 2 1,.ld 28 1 false 27,.len 29 28,.mv 30 (kI 0)]) (.block 2 aLv)) bAp)
def bKz:AC:=(.seq (.ops [.box 1 29 0,.asg 2 (.c (.nil 10))]) (.seq (.ops [.bsl 10 54 10 [],.asg 3 10]) (.seq (.seq (.ops [.fa 11 1 1,.ld 12 1 false 11,.len 13 12,.mv 14 (kI 0)]) (.block 0 aGu)) aV0)))
theorem bDm:bR Try.prog 28=some (bKz,[.mv 0 2],57):=by kernel_rfl
def S9 (r:(List aA)):Exit→St→Prop:=bO [.mv 0 2] fun x b=>x=(fun (y:(List aA))=>(.osl 2000000 54 10 (y.map aZ))) r∧bZ ((fun (y:(List aA))=>[]) r) b
def bK8 (r:(List aA)):Exit→St→Prop:=(bM (wkK (avc Try.prog aV0 (S9 r))) (S9 r))
def aPb (r:(List aA)):Exit→St→Prop:=(bP 0 (bK8 r))
def bKc (r:(List aA)):Exit→St→Prop:=(bM (avc Try.prog aGu (aPb r)) (aPb r))
def bTr (r:(List aA)):Exit→St→Prop:=(bM (wkK (avc Try.prog bAp (S9 r))) (S9 r))
def bFj (r:(List aA)):Exit→St→Prop:=(bP 2 (bTr r))
def bTg (r:(List aA)):Exit→St→Prop:=(bM (wkK (avc Try.prog aUv (S9 r))) (S9 r))
def bQn (r:(List aA)):Exit→St→Prop:=(bP 4 (bTg r))
def bGq (p0:aQ) (x3:(List aA)) (x14:Int):St:=⟨[(1,(.ptr 1 0)),(3,(.osl 3 54 10 (x3.map aZ))),(12,(aIb p0.items)),(13,(vI (p0.items.length:Int))),(14,(vI x14))],[(1,iU p0)]⟩
abbrev aEz (p0:aQ) (x3:(List aA)) (x14:Int) (r:(List aA)):Prop:=avc Try.prog aGu (aPb r) (bGq p0 x3 x14)
def bOh (p0:aQ) (x14:Int) (dX:(List aA)):St:=⟨[(1,(.ptr 1 0)),(3,(.osl 3 54 10 (dX.map aZ))),(12,(aIb p0.items)),(13,(vI (p0.items.length:Int))),(14,(vI x14))],[(1,iU p0)]⟩
abbrev aF3 (p0:aQ) (x14:Int) (dX:(List aA)) (r:(List aA)):Prop:=avc Try.prog aK2 (bKc r) (bOh p0 x14 dX)
def bR8 (p0:aQ) (dF:(List aA)) (x30:Int):St:=⟨[(1,(.ptr 1 0)),(3,(.osl 3 54 10 (dF.map aZ))),(28,(qU p0.from_)),(29,(vI (p0.from_.length:Int))),(30,(vI x30))],[(1,iU p0)]⟩
abbrev aF9 (p0:aQ) (dF:(List aA)) (x30:Int) (r:(List aA)):Prop:=avc Try.prog aLv (bFj r) (bR8 p0 dF x30)
def bIi (p0:aQ) (lK:(List aA)) (x46:Int):St:=⟨[(3,(.osl 3 54 10 (lK.map aZ))),(44,(xH p0.order)),(45,(vI (p0.order.length:Int))),(46,(vI x46))],[]⟩
abbrev aFk (p0:aQ) (lK:(List aA)) (x46:Int) (r:(List aA)):Prop:=avc Try.prog aJp (bQn r) (bIi p0 lK x46)
def aQv:AC:=(.loop (.seq (.ops [.bin 22 .lss 21 20]) (.seq (.cond 22 .skip (.exit 2)) (.seq (.block 3 (.seq (.ops [.ia 23 6 19 21,.ld 24 6 true 23,.alc 7 aN2,.st 6 7 24]) (.seq (.ops [.mv 25 0,.ld 26 6 true 7,.call (some 27) 11 [25,26]]) (.ops [.mv 28 0,.ld 29 6 true 7,.call (some 30) 28 [29],.call (some 31) 12 [28,30]])))) (.ops [.bin 32 .add 21 (kI 1),.mv 21 32])))))
def aYv:AC:=(.ops [.bin 33 .add 10 (kI 1),.mv 10 33])
def aG7:AC:=(.loop (.seq (.ops [.bin 11 .lss 10 9]) (.seq (.cond 11 .skip (.exit 0)) (.seq (.block 1 (.seq (.ops [.ia 12 10 8 10,.ld 13 10 true 12,.alc 5 yV,.st 10 5 13]) (.seq (.ops [.mv 14 0,.fa 15 8 5,.ld 16 1 false 15,.call (some 17) 12 [14,16]]) (.seq (.ops [.fa 18 9 5,.ld 19 1 false 18,.len 20 19,.mv 21 (kI 0)]) (.block 2 aQv))))) aYv))))
def bWi:AC:=(.seq (.ops [.mv 8 1,.len 9 8,.mv 10 (kI 0)]) (.block 0 aG7))
theorem bF2:bR Try.prog 12=some (bWi,[],34):=by kernel_rfl
def bEt (r:dD):Exit→St→Prop:=bO [] fun x b=>x=(fun (y:dD)=>(.tup [])) r∧bZ ((fun (y:dD)=>[(1000000,[(.osl 6000000 9 1 (y.list.map cStr))])]) r) b
def aK0 (r:dD):Exit→St→Prop:=(bP 0 (bEt r))
def aXj (r:dD):Exit→St→Prop:=(bM (avc Try.prog aG7 (aK0 r)) (aK0 r))
def bGl (r:dD):Exit→St→Prop:=(bM (wkK (avc Try.prog aYv (aXj r))) (aXj r))
def bS8 (r:dD):Exit→St→Prop:=(bP 1 (bGl r))
def bW2 (r:dD):Exit→St→Prop:=(bP 2 (bS8 r))
def bNq (p1:(List aA)) (x10:Int) (bC:(List (List UInt8))):St:=⟨[(0,(.ptr 1000000 0)),(8,(iL p1)),(9,(vI (p1.length:Int))),(10,(vI x10))],[(1000000,[(.osl 6000000 9 1 (bC.map cStr))])]⟩
abbrev aE8 (p1:(List aA)) (x10:Int) (bC:(List (List UInt8))) (r:dD):Prop:=avc Try.prog aG7 (aK0 r) (bNq p1 x10 bC)
def bCc (p1:(List aA)) (x10:Int) (y1:aA) (x21:Int) (lH:(List (List UInt8))):St:=⟨[(0,(.ptr 1000000 0)),(8,(iL p1)),(9,(vI (p1.length:Int))),(10,(vI x10)),(19,(bSe y1.sub)),(20,(vI (y1.sub.length:Int))),(21,(vI x21))],[(1000000,[(.osl 6000000 9 1 (lH.map cStr))])]⟩
abbrev aHd (p1:(List aA)) (x10:Int) (y1:aA) (x21:Int) (lH:(List (List UInt8))) (r:dD):Prop:=avc Try.prog aQv (bW2 r) (bCc p1 x10 y1 x21 lH)
def bO9:AC:=(.seq (.ops [.alc 2 aA4]) (.seq (.ops [.mv 3 0,.call (some 4) 9 [3],.st 12 2 4]) .ret))
theorem bI3:bR Try.prog 5=some (bO9,[.ld 0 12 true 2],5):=by kernel_rfl
def bXt (r:bD):Exit→St→Prop:=bO [.ld 0 12 true 2] fun x _=>x=(fun y=>(kJ y)) r
def aR0:AC:=(.loop (.seq (.seq (.ops [.mv 8 4,.mv 9 0,.len 10 9,.bin 11 .lss 8 10,.mv 12 11,.g 12 true (.mv 13 4),.g 12 true (.bin 14 .lss 13 (kI 4000)),.pick 15 12 14 (kB false)]) (.cond 15 .skip (.exit 0))) (.seq (.block 1 (.ops [.mv 18 3,.bin 19 .mul 18 (kI 131),.mv 20 0,.mv 21 4,.ia 22 1 20 21,.ld 23 1 false 22,.cvi 24 .i64 23,.bin 25 .add 19 24,.bin 26 .add 25 (kI 7),.bin 27 .and 26 (kI 1073741823),.asg 3 27])) (.ops [.mv 16 4,.bin 17 .add 16 (kI 1),.asg 4 17]))))
def aSr:AC:=(.seq (.ops [.mv 28 0,.mv 29 3,.bld 30 [(.nil 1),bA,bA] [(0,1,28),(2,1,29)],.box 31 78 30,.asg 2 31]) .ret)
def bI5:AC:=(.seq (.ops [.asg 2 (.c .np)]) (.seq (.ops [.mv 5 0,.len 6 5,.bin 7 .add (kI 28322) 6,.asg 3 7]) (.seq (.seq (.ops [.asg 4 (kI 0)]) (.block 0 aR0)) aSr)))
theorem bP3:bR Try.prog 19=some (bI5,[.mv 0 2],32):=by kernel_rfl
def aTr (r:aJ):Exit→St→Prop:=bO [.mv 0 2] fun x b=>x=(fun (y:aJ)=>(.ptr 31 0)) r∧bZ ((fun (y:aJ)=>[(31,bG y)]) r) b
def bU7 (r:aJ):Exit→St→Prop:=(bM (wkK (avc Try.prog aSr (aTr r))) (aTr r))
def bPl (r:aJ):Exit→St→Prop:=(bP 0 (bU7 r))
def bWd (p0:(List Int)) (x3:Int) (x4:Int):St:=⟨[(0,(gU p0)),(3,(vI x3)),(4,(vI x4))],[]⟩
abbrev aJg (p0:(List Int)) (x3:Int) (x4:Int) (r:aJ):Prop:=avc Try.prog aR0 (bPl r) (bWd p0 x3 x4)
def bWc:AC:=(.seq (.ops [.box 1 33 0,.asg 2 (.c (.nil 3))]) (.seq (.seq (.ops [.ld 3 12 true 1,.call (some 4) 17 [3],.not 5 4]) (.cond 5 (.seq (.ops [.bsl 6 39 3 [],.asg 2 6]) .ret) .skip)) (.seq (.ops [.ld 7 12 true 1,.call (some 8) 18 [7,(kB false)],.asg 2 8]) .ret)))
theorem bLc:bR Try.prog 8=some (bWc,[.mv 0 2],9):=by kernel_rfl
def bY0 (r:(List aB)):Exit→St→Prop:=bO [.mv 0 2] fun x b=>x=(fun (y:(List aB))=>(.osl 2000000 39 3 (y.map aV))) r∧bZ ((fun (y:(List aB))=>[]) r) b
def aMf:AC:=(.dops [[],[],[1],[],[2,3],[4],[5],[6],[6,7],[0,8,7],[],[10],[],[11,12],[13],[],[9,14,15,9],[16,16,0,1,2,3,4,5,6,7,8,9,10,11,12,13,14,15,16]] [.mv 56 5,.fa 57 9 2,.ld 58 1 false 57,.mv 59 6,.ia 60 1 58 59,.ld 61 1 false 60,.call (some 62) 36 [61],.call (some 63) 38 [(.c (.d (.s (bs [61]))))],.bsl 64 39 3 [62,63],.app 65 39 3 32 56 64,.fa 66 10 2,.ld 67 1 false 66,.mv 68 6,.ia 69 10 67 68,.ld 70 10 true 69,.mv 71 1,.call (some 72) 39 [65,70,71],.asg 5 72])
def aTz:AC:=(.ops [.mv 48 6,.bin 49 .add 48 (kI 1),.asg 6 49])
def aEn:AC:=(.loop (.seq (.seq (.ops [.mv 43 6,.fa 44 9 2,.ld 45 1 false 44,.len 46 45,.bin 47 .lss 43 46]) (.cond 47 .skip (.exit 1))) (.seq (.block 2 (.seq (.seq (.ops [.mv 50 6,.bin 51 .gtr 50 (kI 0)]) (.cond 51 (.ops [.mv 52 5,.call (some 53) 38 [(.c (.d (.s (bs [44]))))],.bsl 54 39 3 [53],.app 55 39 3 32 52 54,.asg 5 55]) .skip)) aMf)) aTz)))
def aTe:AC:=(.seq (.ops [.mv 73 5,.fa 74 11 2,.ld 75 1 false 74,.mv 76 1,.call (some 77) 40 [73,75,76],.asg 4 77]) .ret)
def bAd:AC:=(.seq (.dops [[],[],[1],[],[3],[4,2],[1,2,5],[0,6,5],[7,7,0,1,2,3,4,5,6,7]] [.mv 78 5,.call (some 79) 35 [(kI 28)],.call (some 80) 35 [(kI 3)],.fa 81 7 2,.ld 82 1 false 81,.call (some 83) 36 [82],.bsl 84 39 3 [79,80,83],.app 85 39 3 32 78 84,.asg 5 85]) (.seq (.ops [.mv 86 5,.fa 87 11 2,.ld 88 1 false 87,.mv 89 1,.call (some 90) 40 [86,88,89],.asg 4 90]) .ret))
def bK7:AC:=(.seq (.ops [.box 2 33 0,.asg 4 (.c (.nil 3))]) (.seq (.ops [.bsl 7 39 3 [],.asg 5 7]) (.seq (.seq (.ops [.fa 8 0 2,.ld 9 1 false 8]) (.block 0 (.seq (.ops [.bin 11 .eql 9 (kI 1),.asg 10 11]) (.cond 10 (.seq (.ops [.mv 12 5,.fa 13 1 2,.ld 14 6 true 13,.mv 15 1,.call (some 16) 34 [12,14,15],.asg 4 16]) .ret) (.seq (.ops [.bin 18 .eql 9 (kI 2),.asg 17 18]) (.cond 17 (.seq (.dops [[],[],[1],[],[3],[4,2],[5],[1,2,5,6],[0,7,6],[8,8,0,1,2,3,4,5,6,7,8]] [.mv 19 5,.call (some 20) 35 [(kI 23)],.call (some 21) 35 [(kI 24)],.fa 22 7 2,.ld 23 1 false 22,.call (some 24) 36 [23],.call (some 25) 35 [(kI 25)],.bsl 26 39 3 [20,21,24,25],.app 27 39 3 32 19 26,.asg 5 27]) (.seq (.ops [.mv 28 5,.fa 29 8 2,.ld 30 1 false 29,.mv 31 1,.call (some 32) 37 [28,30,31],.asg 4 32]) .ret)) (.seq (.ops [.bin 34 .eql 9 (kI 3),.asg 33 34]) (.cond 33 (.seq (.dops [[],[],[],[2],[3,1],[4],[1,4,5],[0,6,5],[7,7,0,1,2,3,4,5,6,7]] [.mv 35 5,.call (some 36) 35 [(kI 26)],.fa 37 7 2,.ld 38 1 false 37,.call (some 39) 36 [38],.call (some 40) 35 [(kI 27)],.bsl 41 39 3 [36,39,40],.app 42 39 3 32 35 41,.asg 5 42]) (.seq (.seq (.ops [.asg 6 (kI 0)]) (.block 1 aEn)) aTe)) .skip)))))))) bAd)))
theorem bIb:bR Try.prog 18=some (bK7,[.mv 0 4],91):=by kernel_rfl
def aY3 (r:(List aB)):Exit→St→Prop:=bO [.mv 0 4] fun x b=>x=(fun (y:(List aB))=>(.osl 2000000 39 3 (y.map aV))) r∧bZ ((fun (y:(List aB))=>[]) r) b
def bKe (r:(List aB)):Exit→St→Prop:=(bM (wkK (avc Try.prog bAd (aY3 r))) (aY3 r))
def aW4 (r:(List aB)):Exit→St→Prop:=(bP 0 (bKe r))
def bDj (r:(List aB)):Exit→St→Prop:=(bM (wkK (avc Try.prog aTe (aW4 r))) (aW4 r))
def aPv (r:(List aB)):Exit→St→Prop:=(bP 1 (bDj r))
def aZ4 (r:(List aB)):Exit→St→Prop:=(bM (avc Try.prog aEn (aPv r)) (aPv r))
def bOd (r:(List aB)):Exit→St→Prop:=(bM (wkK (avc Try.prog aTz (aZ4 r))) (aZ4 r))
def bBr (r:(List aB)):Exit→St→Prop:=(bP 2 (bOd r))
def bSq (p1:Bool) (p0:bD) (x5:(List aB)) (x6:Int):St:=⟨[(1,(vB p1)),(2,(.ptr 2 0)),(5,(.osl 5 39 3 (x5.map aV))),(6,(vI x6))],[(2,pW p0)]⟩
abbrev aI6 (p1:Bool) (p0:bD) (x5:(List aB)) (x6:Int) (r:(List aB)):Prop:=avc Try.prog aEn (aPv r) (bSq p1 p0 x5 x6)
def bEd (p1:Bool) (x6:Int) (p0:bD) (nD:(List aB)):St:=⟨[(1,(vB p1)),(2,(.ptr 2 0)),(5,(.osl 5 39 3 (nD.map aV))),(6,(vI x6))],[(2,pW p0)]⟩
abbrev aFj (p1:Bool) (x6:Int) (p0:bD) (nD:(List aB)) (r:(List aB)):Prop:=avc Try.prog aMf (bBr r) (bEd p1 x6 p0 nD)
def bVi:AC:=(.seq (.ops [.box 1 51 0,.alc 2 [bA,bL,bA]]) (.seq (.seq (.ops [.fa 3 0 1,.ld 4 1 false 3]) (.block 0 (.seq (.ops [.bin 6 .eql 4 (kI 1),.asg 5 6]) (.cond 5 (.seq (.ops [.fa 7 1 1,.ld 8 1 false 7,.call (some 9) 65 [8],.bld 10 [bA,bL,bA] [(0,1,(kI 3)),(1,1,9)],.st 3 2 10]) .ret) (.seq (.ops [.bin 12 .eql 4 (kI 2),.asg 11 12]) (.cond 11 (.seq (.ops [.fa 13 2 1,.ld 14 1 false 13,.bld 15 [bA,bL,bA] [(0,1,(kI 4)),(1,1,14)],.st 3 2 15]) .ret) (.seq (.ops [.bin 17 .eql 4 (kI 3),.asg 16 17]) (.cond 16 (.seq (.seq (.ops [.fa 18 1 1,.ld 19 1 false 18,.bin 20 .eql 19 (kI 1)]) (.cond 20 (.seq (.ops [.call (some 21) 35 [(kI 21)],.st 3 2 21]) .ret) .skip)) (.seq (.ops [.call (some 22) 35 [(kI 22)],.st 3 2 22]) .ret)) .skip)))))))) (.seq (.ops [.call (some 23) 35 [(kI 20)],.st 3 2 23]) .ret)))
theorem bJm:bR Try.prog 67=some (bVi,[.ld 0 3 true 2],24):=by kernel_rfl
def bXq (r:aB):Exit→St→Prop:=bO [.ld 0 3 true 2] fun x _=>x=(fun y=>(oO y)) r
def bN1:AC:=(.seq (.ops [.alc 2 [bA,bL,bA]]) (.seq (.ops [.mv 3 0,.call (some 4) 66 [3],.bld 5 [bA,bL,bA] [(0,1,(kI 1)),(1,1,4)],.st 3 2 5]) .ret))
theorem bEk:bR Try.prog 35=some (bN1,[.ld 0 3 true 2],6):=by kernel_rfl
def bYz (r:aB):Exit→St→Prop:=bO [.ld 0 3 true 2] fun x _=>x=(fun y=>(oO y)) r
def bJq:AC:=(.seq (.ops [.asg 2 (.c (.d (.s (bs []))))]) (.seq (.seq (.ops [.mv 3 0,.call (some 4) 57 [3,(kI 1),(kI 28)],.not 5 4]) (.cond 5 (.seq (.ops [.asg 2 (.c (.d (.s (bs []))))]) .ret) .skip)) (.seq (.ops [.call (some 6) 47 [],.mv 7 0,.ia 8 1 6 7,.ld 9 1 false 8,.asg 2 9]) .ret)))
theorem bPc:bR Try.prog 66=some (bJq,[.mv 0 2],10):=by kernel_rfl
def bY9 (r:(List UInt8)):Exit→St→Prop:=bO [.mv 0 2] fun x _=>x=(fun y=>(vS y)) r
def bMm:AC:=(.seq (.ops [.asg 6 (kB false)]) (.seq (.ops [.mv 7 0,.mv 8 1,.bin 9 .geq 7 8,.mv 10 9,.g 10 true (.mv 11 0),.g 10 true (.mv 12 2),.g 10 true (.bin 13 .leq 11 12),.pick 14 10 13 (kB false),.asg 6 14]) .ret))
theorem bQe:bR Try.prog 57=some (bMm,[.mv 0 6],15):=by kernel_rfl
def bZr (r:Bool):Exit→St→Prop:=bO [.mv 0 6] fun x _=>x=(fun y=>(vB y)) r
def bWu:AC:=(.seq (.ops [.asg 0 (.c (.nil 1))]) (.seq (.ops [.bsl 1 9 1 [(.c (.d (.s (bs [])))),(.c (.d (.s (bs [83,69,76,69,67,84])))),(.c (.d (.s (bs [68,73,83,84,73,78,67,84])))),(.c (.d (.s (bs [70,82,79,77])))),(.c (.d (.s (bs [74,79,73,78])))),(.c (.d (.s (bs [79,78])))),(.c (.d (.s (bs [87,72,69,82,69])))),(.c (.d (.s (bs [79,82,68,69,82])))),(.c (.d (.s (bs [66,89])))),(.c (.d (.s (bs [65,83,67])))),(.c (.d (.s (bs [68,69,83,67])))),(.c (.d (.s (bs [76,73,77,73,84])))),(.c (.d (.s (bs [65,83])))),(.c (.d (.s (bs [65,78,68])))),(.c (.d (.s (bs [79,82])))),(.c (.d (.s (bs [78,79,84])))),(.c (.d (.s (bs [73,83])))),(.c (.d (.s (bs [73,78])))),(.c (.d (.s (bs [66,69,84,87,69,69,78])))),(.c (.d (.s (bs [69,88,73,83,84,83])))),(.c (.d (.s (bs [78,85,76,76])))),(.c (.d (.s (bs [84,82,85,69])))),(.c (.d (.s (bs [70,65,76,83,69])))),(.c (.d (.s (bs [73,78,83,69,82,84])))),(.c (.d (.s (bs [73,78,84,79])))),(.c (.d (.s (bs [86,65,76,85,69,83])))),(.c (.d (.s (bs [85,80,68,65,84,69])))),(.c (.d (.s (bs [83,69,84])))),(.c (.d (.s (bs [68,69,76,69,84,69]))))],.asg 0 1]) .ret))
theorem bQd:bR Try.prog 47=some (bWu,[.mv 0 0],2):=by kernel_rfl
def cA9 (r:(List (List UInt8))):Exit→St→Prop:=bO [.mv 0 0] fun x b=>x=(fun (y:(List (List UInt8)))=>(.osl 2000000 9 1 (y.map cStr))) r∧bZ ((fun (y:(List (List UInt8)))=>[]) r) b
def aNo:AC:=(.seq (.ops [.mv 18 5,.bin 19 .add (kI 48) 18,.cvi 20 .u8 19,.bsl 21 5 1 [20],.cbs 22 21,.mv 23 4,.bin 24 .add 22 23,.asg 4 24]) (.ops [.mv 25 0,.bin 26 .quo 25 (kI 10),.asg 0 26]))
def aD6:AC:=(.loop (.seq (.seq (.ops [.mv 10 0,.bin 11 .neq 10 (kI 0)]) (.cond 11 .skip (.exit 0))) (.block 1 (.seq (.ops [.mv 12 0,.bin 13 .rem 12 (kI 10),.asg 5 13]) (.seq (.seq (.ops [.mv 14 5,.bin 15 .lss 14 (kI 0)]) (.cond 15 (.ops [.mv 16 5,.bin 17 .sub (kI 0) 16,.asg 5 17]) .skip)) aNo)))))
def aUd:AC:=(.seq (.seq (.ops [.mv 27 3]) (.cond 27 (.seq (.ops [.mv 28 4,.bin 29 .add (.c (.d (.s (bs [45])))) 28,.asg 2 29]) .ret) .skip)) (.seq (.ops [.mv 30 4,.asg 2 30]) .ret))
def bU4:AC:=(.seq (.ops [.asg 2 (.c (.d (.s (bs []))))]) (.seq (.seq (.ops [.mv 6 0,.bin 7 .eql 6 (kI 0)]) (.cond 7 (.seq (.ops [.asg 2 (.c (.d (.s (bs [48]))))]) .ret) .skip)) (.seq (.ops [.mv 8 0,.bin 9 .lss 8 (kI 0),.asg 3 9]) (.seq (.ops [.asg 4 (.c (.d (.s (bs []))))]) (.seq (.block 0 aD6) aUd)))))
theorem bKh:bR Try.prog 65=some (bU4,[.mv 0 2],31):=by kernel_rfl
def aY8 (r:(List UInt8)):Exit→St→Prop:=bO [.mv 0 2] fun x _=>x=(fun y=>(vS y)) r
def bWl (r:(List UInt8)):Exit→St→Prop:=(bM (wkK (avc Try.prog aUd (aY8 r))) (aY8 r))
def aL1 (r:(List UInt8)):Exit→St→Prop:=(bP 0 (bWl r))
def bW7 (r:(List UInt8)):Exit→St→Prop:=(bM (avc Try.prog aD6 (aL1 r)) (aL1 r))
def bJd (r:(List UInt8)):Exit→St→Prop:=(bP 1 (bW7 r))
def bN5 (p0:Int) (x0:Int) (x4:(List UInt8)):St:=⟨[(0,(vI x0)),(3,(vB (decide (p0<0)))),(4,(vS x4))],[]⟩
abbrev aGb (p0:Int) (x0:Int) (x4:(List UInt8)) (r:(List UInt8)):Prop:=avc Try.prog aD6 (aL1 r) (bN5 p0 x0 x4)
def bQv (x0:Int) (p0:Int) (x4:(List UInt8)) (x5:Int):St:=⟨[(0,(vI x0)),(3,(vB (decide (p0<0)))),(4,(vS x4)),(5,(vI x5))],[]⟩
abbrev aGc (x0:Int) (p0:Int) (x4:(List UInt8)) (x5:Int) (r:(List UInt8)):Prop:=avc Try.prog aNo (bJd r) (bQv x0 p0 x4 x5)
def bEo:AC:=(.seq (.ops [.alc 2 [bA,bL,bA]]) (.seq (.ops [.mv 3 0,.bld 4 [bA,bL,bA] [(0,1,(kI 2)),(1,1,3)],.st 3 2 4]) .ret))
theorem bG3:bR Try.prog 36=some (bEo,[.ld 0 3 true 2],5):=by kernel_rfl
def bXu (r:aB):Exit→St→Prop:=bO [.ld 0 3 true 2] fun x _=>x=(fun y=>(oO y)) r
def bO0:AC:=(.seq (.ops [.alc 2 [bA,bL,bA]]) (.seq (.ops [.mv 3 0,.bld 4 [bA,bL,bA] [(0,1,(kI 5)),(1,1,3)],.st 3 2 4]) .ret))
theorem bD6:bR Try.prog 38=some (bO0,[.ld 0 3 true 2],5):=by kernel_rfl
def bZ4 (r:aB):Exit→St→Prop:=bO [.ld 0 3 true 2] fun x _=>x=(fun y=>(oO y)) r
def bVs:AC:=(.seq (.ops [.box 1 33 0,.asg 2 (kB false)]) (.seq (.ops [.ld 3 12 true 1,.call (some 4) 31 [3],.mv 5 4,.g 5 true (.ld 6 12 true 1),.g 5 true (.call (some 7) 32 [6]),.g 5 true (.bin 8 .leq 7 (kI 24)),.pick 9 5 8 (kB false),.mv 10 9,.g 10 true (.ld 11 12 true 1),.g 10 true (.call (some 12) 33 [11]),.g 10 true (.bin 13 .leq 12 (kI 200)),.pick 14 10 13 (kB false),.asg 2 14]) .ret))
theorem bTz:bR Try.prog 17=some (bVs,[.mv 0 2],15):=by kernel_rfl
def bYa (r:Bool):Exit→St→Prop:=bO [.mv 0 2] fun x _=>x=(fun y=>(vB y)) r
def aN7:AC:=(.loop (.seq (.seq (.ops [.mv 8 5,.mv 9 4,.len 10 9,.bin 11 .lss 8 10]) (.cond 11 .skip (.exit 0))) (.seq (.block 1 (.ops [.mv 14 3,.mv 15 4,.mv 16 5,.ia 17 10 15 16,.ld 18 10 true 17,.call (some 19) 61 [18],.call (some 20) 60 [14,19],.asg 3 20])) (.ops [.mv 12 5,.bin 13 .add 12 (kI 1),.asg 5 13]))))
def aS8:AC:=(.seq (.ops [.mv 21 3,.asg 2 21]) .ret)
def bS9:AC:=(.seq (.ops [.box 1 33 0,.asg 2 (kI 0)]) (.seq (.ops [.asg 3 (kI 0)]) (.seq (.ops [.ld 6 12 true 1,.call (some 7) 59 [6],.asg 4 7]) (.seq (.seq (.ops [.asg 5 (kI 0)]) (.block 0 aN7)) aS8))))
theorem bHj:bR Try.prog 32=some (bS9,[.mv 0 2],22):=by kernel_rfl
def aUf (r:Int):Exit→St→Prop:=bO [.mv 0 2] fun x _=>x=(fun y=>(vI y)) r
def bC9 (r:Int):Exit→St→Prop:=(bM (wkK (avc Try.prog aS8 (aUf r))) (aUf r))
def bNl (r:Int):Exit→St→Prop:=(bP 0 (bC9 r))
def bTk (y1:(List aA)) (x3:Int) (x5:Int):St:=⟨[(3,(vI x3)),(4,(.osl 4 54 10 (y1.map aZ))),(5,(vI x5))],[]⟩
abbrev aEs (y1:(List aA)) (x3:Int) (x5:Int) (r:Int):Prop:=avc Try.prog aN7 (bNl r) (bTk y1 x3 x5)
def bHb:AC:=(.seq (.ops [.asg 4 (kI 0)]) (.seq (.seq (.ops [.mv 5 0,.mv 6 1,.bin 7 .gtr 5 6]) (.cond 7 (.seq (.ops [.mv 8 0,.asg 4 8]) .ret) .skip)) (.seq (.ops [.mv 9 1,.asg 4 9]) .ret)))
theorem bGa:bR Try.prog 60=some (bHb,[.mv 0 4],10):=by kernel_rfl
def bY2 (r:Int):Exit→St→Prop:=bO [.mv 0 4] fun x _=>x=(fun y=>(vI y)) r
def aQz:AC:=(.loop (.seq (.seq (.ops [.mv 8 4,.fa 9 8 1,.ld 10 1 false 9,.len 11 10,.bin 12 .lss 8 11]) (.cond 12 .skip (.exit 0))) (.seq (.block 1 (.ops [.mv 15 3,.fa 16 8 1,.ld 17 1 false 16,.mv 18 4,.ia 19 1 17 18,.ld 20 1 false 19,.app 21 54 10 136 15 20,.asg 3 21])) (.ops [.mv 13 4,.bin 14 .add 13 (kI 1),.asg 4 14]))))
def aRm:AC:=(.seq (.ops [.mv 22 3,.fa 23 10 1,.ld 24 1 false 23,.app 25 54 10 136 22 24,.asg 3 25]) (.seq (.ops [.mv 26 3,.fa 27 11 1,.ld 28 1 false 27,.app 29 54 10 136 26 28,.asg 2 29]) .ret))
def bEx:AC:=(.seq (.ops [.box 1 33 0,.asg 2 (.c (.nil 10))]) (.seq (.ops [.fa 5 1 1,.ld 6 6 true 5,.call (some 7) 29 [6],.asg 3 7]) (.seq (.seq (.ops [.asg 4 (kI 0)]) (.block 0 aQz)) aRm)))
theorem bRi:bR Try.prog 59=some (bEx,[.mv 0 2],30):=by kernel_rfl
def aSz (r:(List aA)):Exit→St→Prop:=bO [.mv 0 2] fun x b=>x=(fun (y:(List aA))=>(.osl 2000000 54 10 (y.map aZ))) r∧bZ ((fun (y:(List aA))=>[]) r) b
def bTx (r:(List aA)):Exit→St→Prop:=(bM (wkK (avc Try.prog aRm (aSz r))) (aSz r))
def bC1 (r:(List aA)):Exit→St→Prop:=(bP 0 (bTx r))
def bMp (p0:bD) (x3:(List aA)) (x4:Int):St:=⟨[(1,(.ptr 1 0)),(3,(.osl 3 54 10 (x3.map aZ))),(4,(vI x4))],[(1,pW p0)]⟩
abbrev aJ0 (p0:bD) (x3:(List aA)) (x4:Int) (r:(List aA)):Prop:=avc Try.prog aQz (bC1 r) (bMp p0 x3 x4)
def aOd:AC:=(.ops [.mv 13 4,.bin 14 .add 13 (kI 1),.asg 4 14])
def aEj:AC:=(.loop (.seq (.seq (.ops [.mv 8 4,.fa 9 1 1,.ld 10 1 false 9,.len 11 10,.bin 12 .lss 8 11]) (.cond 12 .skip (.exit 0))) (.seq (.block 1 (.seq (.ops [.fa 15 1 1,.ld 16 1 false 15,.mv 17 4,.ia 18 13 16 17,.fa 19 0 18,.ld 20 1 false 19,.not 21 20]) (.cond 21 (.ops [.mv 22 3,.fa 23 1 1,.ld 24 1 false 23,.mv 25 4,.ia 26 13 24 25,.fa 27 2 26,.ld 28 10 true 27,.bsl 29 54 10 [28],.app 30 54 10 136 22 29,.asg 3 30]) .skip))) aOd)))
def aQ0:AC:=(.loop (.seq (.seq (.ops [.mv 31 5,.fa 32 2 1,.ld 33 1 false 32,.len 34 33,.bin 35 .lss 31 34]) (.cond 35 .skip (.exit 2))) (.seq (.block 3 (.ops [.mv 38 3,.fa 39 2 1,.ld 40 1 false 39,.mv 41 5,.ia 42 3 40 41,.fa 43 2 42,.ld 44 1 false 43,.app 45 54 10 136 38 44,.asg 3 45])) (.ops [.mv 36 5,.bin 37 .add 36 (kI 1),.asg 5 37]))))
def aMw:AC:=(.loop (.seq (.seq (.ops [.mv 50 6,.fa 51 4 1,.ld 52 1 false 51,.len 53 52,.bin 54 .lss 50 53]) (.cond 54 .skip (.exit 4))) (.seq (.block 5 (.ops [.mv 57 3,.fa 58 4 1,.ld 59 1 false 58,.mv 60 6,.ia 61 11 59 60,.fa 62 0 61,.ld 63 10 true 62,.bsl 64 54 10 [63],.app 65 54 10 136 57 64,.asg 3 65])) (.ops [.mv 55 6,.bin 56 .add 55 (kI 1),.asg 6 56]))))
def aVd:AC:=(.seq (.ops [.mv 66 3,.asg 2 66]) .ret)
def aWm:AC:=(.seq (.ops [.mv 46 3,.fa 47 3 1,.ld 48 1 false 47,.app 49 54 10 136 46 48,.asg 3 49]) (.seq (.seq (.ops [.asg 6 (kI 0)]) (.block 4 aMw)) aVd))
def aUw:AC:=(.seq (.seq (.ops [.asg 5 (kI 0)]) (.block 2 aQ0)) aWm)
def bPx:AC:=(.seq (.ops [.box 1 29 0,.asg 2 (.c (.nil 10))]) (.seq (.ops [.bsl 7 54 10 [],.asg 3 7]) (.seq (.seq (.ops [.asg 4 (kI 0)]) (.block 0 aEj)) aUw)))
theorem bVg:bR Try.prog 29=some (bPx,[.mv 0 2],67):=by kernel_rfl
def W9 (r:(List aA)):Exit→St→Prop:=bO [.mv 0 2] fun x b=>x=(fun (y:(List aA))=>(.osl 2000000 54 10 (y.map aZ))) r∧bZ ((fun (y:(List aA))=>[]) r) b
def bV3 (r:(List aA)):Exit→St→Prop:=(bM (wkK (avc Try.prog aUw (W9 r))) (W9 r))
def aLz (r:(List aA)):Exit→St→Prop:=(bP 0 (bV3 r))
def bKi (r:(List aA)):Exit→St→Prop:=(bM (avc Try.prog aEj (aLz r)) (aLz r))
def bSc (r:(List aA)):Exit→St→Prop:=(bM (wkK (avc Try.prog aWm (W9 r))) (W9 r))
def bOk (r:(List aA)):Exit→St→Prop:=(bP 2 (bSc r))
def bOf (r:(List aA)):Exit→St→Prop:=(bM (wkK (avc Try.prog aVd (W9 r))) (W9 r))
def bR3 (r:(List aA)):Exit→St→Prop:=(bP 4 (bOf r))
def bQw (p0:aQ) (x3:(List aA)) (x4:Int):St:=⟨[(1,(.ptr 1 0)),(3,(.osl 3 54 10 (x3.map aZ))),(4,(vI x4))],[(1,iU p0)]⟩
abbrev aDi (p0:aQ) (x3:(List aA)) (x4:Int) (r:(List aA)):Prop:=avc Try.prog aEj (aLz r) (bQw p0 x3 x4)
def bN7 (x4:Int) (p0:aQ) (dF:(List aA)):St:=⟨[(1,(.ptr 1 0)),(3,(.osl 3 54 10 (dF.map aZ))),(4,(vI x4))],[(1,iU p0)]⟩
abbrev aH0 (x4:Int) (p0:aQ) (dF:(List aA)) (r:(List aA)):Prop:=avc Try.prog aOd (bKi r) (bN7 x4 p0 dF)
def bBh (p0:aQ) (mK:(List aA)) (x5:Int):St:=⟨[(1,(.ptr 1 0)),(3,(.osl 3 54 10 (mK.map aZ))),(5,(vI x5))],[(1,iU p0)]⟩
abbrev aDd (p0:aQ) (mK:(List aA)) (x5:Int) (r:(List aA)):Prop:=avc Try.prog aQ0 (bOk r) (bBh p0 mK x5)
def bH0 (p0:aQ) (jR:(List aA)) (x6:Int):St:=⟨[(1,(.ptr 1 0)),(3,(.osl 3 54 10 (jR.map aZ))),(6,(vI x6))],[(1,iU p0)]⟩
abbrev aJ5 (p0:aQ) (jR:(List aA)) (x6:Int) (r:(List aA)):Prop:=avc Try.prog aMw (bR3 r) (bH0 p0 jR x6)
def aMt:AC:=(.loop (.seq (.seq (.ops [.mv 6 4,.fa 7 8 1,.ld 8 1 false 7,.len 9 8,.bin 10 .lss 6 9]) (.cond 10 .skip (.exit 0))) (.seq (.block 1 (.ops [.mv 13 3,.fa 14 8 1,.ld 15 1 false 14,.mv 16 4,.ia 17 10 15 16,.ld 18 10 true 17,.call (some 19) 61 [18],.call (some 20) 60 [13,19],.asg 3 20])) (.ops [.mv 11 4,.bin 12 .add 11 (kI 1),.asg 4 12]))))
def aNh:AC:=(.loop (.seq (.seq (.ops [.mv 21 5,.fa 22 9 1,.ld 23 1 false 22,.len 24 23,.bin 25 .lss 21 24]) (.cond 25 .skip (.exit 2))) (.seq (.block 3 (.ops [.mv 28 3,.fa 29 9 1,.ld 30 1 false 29,.mv 31 5,.ia 32 6 30 31,.ld 33 6 true 32,.call (some 34) 76 [33],.call (some 35) 60 [28,34],.asg 3 35])) (.ops [.mv 26 5,.bin 27 .add 26 (kI 1),.asg 5 27]))))
def aTo:AC:=(.seq (.ops [.mv 36 3,.bin 37 .add 36 (kI 1),.asg 2 37]) .ret)
def aTb:AC:=(.seq (.seq (.ops [.asg 5 (kI 0)]) (.block 2 aNh)) aTo)
def bVe:AC:=(.seq (.ops [.box 1 54 0,.asg 2 (kI 0)]) (.seq (.ops [.asg 3 (kI 0)]) (.seq (.seq (.ops [.asg 4 (kI 0)]) (.block 0 aMt)) aTb)))
theorem bCv:bR Try.prog 61=some (bVe,[.mv 0 2],38):=by kernel_rfl
def aD9 (r:Int):Exit→St→Prop:=bO [.mv 0 2] fun x _=>x=(fun y=>(vI y)) r
def bT6 (r:Int):Exit→St→Prop:=(bM (wkK (avc Try.prog aTb (aD9 r))) (aD9 r))
def bO2 (r:Int):Exit→St→Prop:=(bP 0 (bT6 r))
def bOw (r:Int):Exit→St→Prop:=(bM (wkK (avc Try.prog aTo (aD9 r))) (aD9 r))
def bL1 (r:Int):Exit→St→Prop:=(bP 2 (bOw r))
def bBs (p0:aA) (x3:Int) (x4:Int):St:=⟨[(1,(.ptr 1 0)),(3,(vI x3)),(4,(vI x4))],[(1,kS p0)]⟩
abbrev aFe (p0:aA) (x3:Int) (x4:Int) (r:Int):Prop:=avc Try.prog aMt (bO2 r) (bBs p0 x3 x4)
def bD4 (p0:aA) (dF:Int) (x5:Int):St:=⟨[(1,(.ptr 1 0)),(3,(vI dF)),(5,(vI x5))],[(1,kS p0)]⟩
abbrev aHv (p0:aA) (dF:Int) (x5:Int) (r:Int):Prop:=avc Try.prog aNh (bL1 r) (bD4 p0 dF x5)
def aJz:AC:=(.loop (.seq (.seq (.ops [.mv 8 5,.mv 9 4,.len 10 9,.bin 11 .lss 8 10]) (.cond 11 .skip (.exit 0))) (.seq (.block 1 (.ops [.mv 14 3,.mv 15 4,.mv 16 5,.ia 17 10 15 16,.ld 18 10 true 17,.call (some 19) 61 [18],.call (some 20) 60 [14,19],.asg 3 20])) (.ops [.mv 12 5,.bin 13 .add 12 (kI 1),.asg 5 13]))))
def aV3:AC:=(.seq (.ops [.mv 21 3,.asg 2 21]) .ret)
def bKk:AC:=(.seq (.ops [.box 1 29 0,.asg 2 (kI 0)]) (.seq (.ops [.asg 3 (kI 0)]) (.seq (.ops [.ld 6 6 true 1,.call (some 7) 29 [6],.asg 4 7]) (.seq (.seq (.ops [.asg 5 (kI 0)]) (.block 0 aJz)) aV3))))
theorem bR6:bR Try.prog 76=some (bKk,[.mv 0 2],22):=by kernel_rfl
def aSw (r:Int):Exit→St→Prop:=bO [.mv 0 2] fun x _=>x=(fun y=>(vI y)) r
def bJ9 (r:Int):Exit→St→Prop:=(bM (wkK (avc Try.prog aV3 (aSw r))) (aSw r))
def bN9 (r:Int):Exit→St→Prop:=(bP 0 (bJ9 r))
def bDk (y1:(List aA)) (x3:Int) (x5:Int):St:=⟨[(3,(vI x3)),(4,(.osl 4 54 10 (y1.map aZ))),(5,(vI x5))],[]⟩
abbrev aIp (y1:(List aA)) (x3:Int) (x5:Int) (r:Int):Prop:=avc Try.prog aJz (bN9 r) (bDk y1 x3 x5)
def aNz:AC:=(.loop (.seq (.seq (.ops [.mv 54 9,.mv 55 5,.bin 56 .lss 54 55]) (.cond 56 .skip (.exit 1))) (.seq (.block 2 (.seq (.ops [.fa 59 8 1,.ld 60 1 false 59,.mv 61 9,.ia 62 1 60 61,.ld 63 1 false 62,.len 64 63,.call (some 65) 57 [64,(kI 1),(kI 12)],.not 66 65,.mv 67 66,.g 67 false (.fa 68 8 1),.g 67 false (.ld 69 1 false 68),.g 67 false (.mv 70 9),.g 67 false (.ia 71 1 69 70),.g 67 false (.ld 72 1 false 71),.g 67 false (.call (some 73) 58 [72]),.g 67 false (.not 74 73),.pick 75 67 (kB true) 74]) (.cond 75 (.seq (.ops [.asg 2 (kB false)]) .ret) .skip))) (.ops [.mv 57 9,.bin 58 .add 57 (kI 1),.asg 9 58]))))
def aQn:AC:=(.loop (.seq (.seq (.ops [.mv 94 10,.mv 95 6,.bin 96 .lss 94 95]) (.cond 96 .skip (.exit 3))) (.seq (.block 4 (.seq (.ops [.fa 99 9 1,.ld 100 1 false 99,.mv 101 10,.ia 102 1 100 101,.ld 103 1 false 102,.call (some 104) 55 [103],.not 105 104]) (.cond 105 (.seq (.ops [.asg 2 (kB false)]) .ret) .skip))) (.ops [.mv 97 10,.bin 98 .add 97 (kI 1),.asg 10 98]))))
def aTh:AC:=(.seq (.ops [.mv 76 3,.mv 77 76,.g 77 true (.mv 78 4),.pick 79 77 78 (kB false),.mv 80 79,.g 80 true (.mv 81 5),.g 80 true (.call (some 82) 57 [81,(kI 1),(kI 5)]),.pick 83 80 82 (kB false),.mv 84 83,.g 84 true (.mv 85 6),.g 84 true (.mv 86 7),.g 84 true (.bin 87 .add 85 86),.g 84 true (.mv 88 8),.g 84 true (.bin 89 .add 87 88),.g 84 true (.bin 90 .eql 89 (kI 0)),.pick 91 84 90 (kB false),.asg 2 91]) .ret)
def aS2:AC:=(.seq (.ops [.asg 2 (kB false)]) .ret)
def aRi:AC:=(.seq (.ops [.mv 106 3,.mv 107 106,.g 107 true (.mv 108 4),.pick 109 107 108 (kB false),.mv 110 109,.g 110 true (.mv 111 5),.g 110 true (.bin 112 .eql 111 (kI 0)),.pick 113 110 112 (kB false),.mv 114 113,.g 114 true (.mv 115 6),.g 114 true (.call (some 116) 57 [115,(kI 1),(kI 12)]),.pick 117 114 116 (kB false),.mv 118 117,.g 118 true (.mv 119 7),.g 118 true (.mv 120 6),.g 118 true (.bin 121 .eql 119 120),.pick 122 118 121 (kB false),.mv 123 122,.g 123 true (.mv 124 8),.g 123 true (.bin 125 .leq 124 (kI 1)),.pick 126 123 125 (kB false),.mv 127 126,.g 127 true (.fa 128 10 1),.g 127 true (.ld 129 1 false 128),.g 127 true (.call (some 130) 58 [129]),.pick 131 127 130 (kB false),.mv 132 131,.g 132 true (.fa 133 11 1),.g 132 true (.ld 134 1 false 133),.g 132 true (.call (some 135) 58 [134]),.pick 136 132 135 (kB false),.asg 2 136]) .ret)
def bD5:AC:=(.seq (.ops [.box 1 33 0,.asg 2 (kB false)]) (.seq (.ops [.fa 11 1 1,.ld 12 6 true 11,.bld 13 [fZ,(.nil 13),(.nil 3),(.nil 10),(.nil 11),bA] [],.call (some 14) 54 [12,13],.asg 3 14]) (.seq (.ops [.fa 15 7 1,.ld 16 1 false 15,.call (some 17) 55 [16],.asg 4 17]) (.seq (.dops [[],[0],[1],[],[3],[4],[],[6],[7],[],[9],[10],[2,0,1,2],[5,12,0,1,2,3,4,5,12],[8,13,0,1,2,3,4,5,6,7,8,12,13],[11,14,0,1,2,3,4,5,6,7,8,9,10,11,12,13,14]] [.fa 18 8 1,.ld 19 1 false 18,.len 20 19,.fa 21 9 1,.ld 22 1 false 21,.len 23 22,.fa 24 10 1,.ld 25 1 false 24,.len 26 25,.fa 27 11 1,.ld 28 1 false 27,.len 29 28,.asg 5 20,.asg 6 23,.asg 7 26,.asg 8 29]) (.seq (.seq (.ops [.fa 30 0 1,.ld 31 1 false 30]) (.block 0 (.seq (.ops [.bin 33 .eql 31 (kI 1),.asg 32 33]) (.cond 32 (.seq (.ops [.fa 34 1 1,.ld 35 6 true 34,.call (some 36) 56 [35],.mv 37 36,.g 37 true (.fa 38 7 1),.g 37 true (.ld 39 1 false 38),.g 37 true (.bin 40 .eql 39 (.c (.d (.s (bs []))))),.pick 41 37 40 (kB false),.mv 42 41,.g 42 true (.mv 43 5),.g 42 true (.mv 44 6),.g 42 true (.bin 45 .add 43 44),.g 42 true (.mv 46 7),.g 42 true (.bin 47 .add 45 46),.g 42 true (.mv 48 8),.g 42 true (.bin 49 .add 47 48),.g 42 true (.bin 50 .eql 49 (kI 0)),.pick 51 42 50 (kB false),.asg 2 51]) .ret) (.seq (.ops [.bin 53 .eql 31 (kI 2),.asg 52 53]) (.cond 52 (.seq (.seq (.ops [.asg 9 (kI 0)]) (.block 1 aNz)) aTh) (.seq (.ops [.bin 93 .eql 31 (kI 3),.asg 92 93]) (.cond 92 (.seq (.seq (.ops [.asg 10 (kI 0)]) (.block 3 aQn)) aRi) (.seq (.ops [.bin 138 .eql 31 (kI 4),.asg 137 138]) (.cond 137 (.seq (.ops [.mv 139 3,.mv 140 139,.g 140 true (.mv 141 4),.pick 142 140 141 (kB false),.mv 143 142,.g 143 true (.mv 144 5),.g 143 true (.mv 145 6),.g 143 true (.bin 146 .add 144 145),.g 143 true (.mv 147 7),.g 143 true (.bin 148 .add 146 147),.g 143 true (.bin 149 .eql 148 (kI 0)),.pick 150 143 149 (kB false),.mv 151 150,.g 151 true (.mv 152 8),.g 151 true (.bin 153 .leq 152 (kI 1)),.pick 154 151 153 (kB false),.mv 155 154,.g 155 true (.fa 156 11 1),.g 155 true (.ld 157 1 false 156),.g 155 true (.call (some 158) 58 [157]),.pick 159 155 158 (kB false),.asg 2 159]) .ret) .skip)))))))))) aS2)))))
theorem bQm:bR Try.prog 31=some (bD5,[.mv 0 2],160):=by kernel_rfl
def aX4 (r:Bool):Exit→St→Prop:=bO [.mv 0 2] fun x _=>x=(fun y=>(vB y)) r
def bVn (r:Bool):Exit→St→Prop:=(bM (wkK (avc Try.prog aS2 (aX4 r))) (aX4 r))
def aHc (r:Bool):Exit→St→Prop:=(bP 0 (bVn r))
def bE8 (r:Bool):Exit→St→Prop:=(bM (wkK (avc Try.prog aTh (aHc r))) (aHc r))
def bTu (r:Bool):Exit→St→Prop:=(bP 1 (bE8 r))
def bFi (r:Bool):Exit→St→Prop:=(bM (wkK (avc Try.prog aRi (aHc r))) (aHc r))
def bIg (r:Bool):Exit→St→Prop:=(bP 3 (bFi r))
def bQy (y1:Bool) (y2:Bool) (p0:bD) (x9:Int):St:=⟨[(1,(.ptr 1 0)),(3,(vB y1)),(4,(vB y2)),(5,(vI (p0.rows.length:Int))),(6,(vI (p0.cols.length:Int))),(7,(vI (p0.sets.length:Int))),(8,(vI (p0.where_.length:Int))),(9,(vI x9))],[(1,pW p0)]⟩
abbrev aEe (y1:Bool) (y2:Bool) (p0:bD) (x9:Int) (r:Bool):Prop:=avc Try.prog aNz (bTu r) (bQy y1 y2 p0 x9)
def bDv (y1:Bool) (y2:Bool) (p0:bD) (x10:Int):St:=⟨[(1,(.ptr 1 0)),(3,(vB y1)),(4,(vB y2)),(5,(vI (p0.rows.length:Int))),(6,(vI (p0.cols.length:Int))),(7,(vI (p0.sets.length:Int))),(8,(vI (p0.where_.length:Int))),(10,(vI x10))],[(1,pW p0)]⟩
abbrev aHq (y1:Bool) (y2:Bool) (p0:bD) (x10:Int) (r:Bool):Prop:=avc Try.prog aQn (bIg r) (bDv y1 y2 p0 x10)
def bM9:AC:=(.seq (.ops [.asg 2 (kB false)]) (.seq (.ops [.mv 3 0,.lns 4 3,.call (some 5) 57 [4,(kI 1),(kI 20)],.asg 2 5]) .ret))
theorem bVp:bR Try.prog 55=some (bM9,[.mv 0 2],6):=by kernel_rfl
def cA1 (r:Bool):Exit→St→Prop:=bO [.mv 0 2] fun x _=>x=(fun y=>(vB y)) r
def aN8:AC:=(.loop (.seq (.seq (.ops [.mv 4 3,.mv 5 0,.len 6 5,.bin 7 .lss 4 6]) (.cond 7 .skip (.exit 0))) (.seq (.block 1 (.seq (.ops [.mv 10 0,.mv 11 3,.ia 12 10 10 11,.ld 13 10 true 12,.call (some 14) 78 [13],.not 15 14]) (.cond 15 (.seq (.ops [.asg 2 (kB false)]) .ret) .skip))) (.ops [.mv 8 3,.bin 9 .add 8 (kI 1),.asg 3 9]))))
def aW9:AC:=(.seq (.ops [.asg 2 (kB true)]) .ret)
def bEg:AC:=(.seq (.ops [.asg 2 (kB false)]) (.seq (.seq (.ops [.asg 3 (kI 0)]) (.block 0 aN8)) aW9))
theorem bQ3:bR Try.prog 58=some (bEg,[.mv 0 2],16):=by kernel_rfl
def aRg (r:Bool):Exit→St→Prop:=bO [.mv 0 2] fun x _=>x=(fun y=>(vB y)) r
def bBz (r:Bool):Exit→St→Prop:=(bM (wkK (avc Try.prog aW9 (aRg r))) (aRg r))
def bH4 (r:Bool):Exit→St→Prop:=(bP 0 (bBz r))
def bWg (p0:(List aA)) (x3:Int):St:=⟨[(0,(iL p0)),(3,(vI x3))],[]⟩
abbrev aDe (p0:(List aA)) (x3:Int) (r:Bool):Prop:=avc Try.prog aN8 (bH4 r) (bWg p0 x3)
def bRq:AC:=(.seq (.ops [.box 1 54 0,.asg 2 (kB false)]) (.seq (.ops [.ld 3 10 true 1,.call (some 4) 88 [3,(kI 200)],.bin 5 .geq 4 (kI 0),.mv 6 5,.g 6 true (.ld 7 10 true 1),.g 6 true (.call (some 8) 87 [7]),.pick 9 6 8 (kB false),.mv 10 9,.g 10 true (.ld 11 10 true 1),.g 10 true (.call (some 12) 61 [11]),.g 10 true (.bin 13 .leq 12 (kI 24)),.pick 14 10 13 (kB false),.asg 2 14]) .ret))
theorem bT5:bR Try.prog 78=some (bRq,[.mv 0 2],15):=by kernel_rfl
def bYj (r:Bool):Exit→St→Prop:=bO [.mv 0 2] fun x _=>x=(fun y=>(vB y)) r
def aKc:AC:=(.loop (.seq (.seq (.ops [.mv 7 3,.fa 8 8 1,.ld 9 1 false 8,.len 10 9,.bin 11 .lss 7 10]) (.cond 11 .skip (.exit 0))) (.seq (.block 1 (.seq (.ops [.fa 14 8 1,.ld 15 1 false 14,.mv 16 3,.ia 17 10 15 16,.ld 18 10 true 17,.call (some 19) 87 [18],.not 20 19]) (.cond 20 (.seq (.ops [.asg 2 (kB false)]) .ret) .skip))) (.ops [.mv 12 3,.bin 13 .add 12 (kI 1),.asg 3 13]))))
def aT6:AC:=(.seq (.ops [.fa 21 9 1,.ld 22 1 false 21,.len 23 22,.bin 24 .eql 23 (kI 0),.mv 25 24,.g 25 false (.fa 26 9 1),.g 25 false (.ld 27 1 false 26),.g 25 false (.ia 28 6 27 (kI 0)),.g 25 false (.ld 29 6 true 28),.g 25 false (.call (some 30) 75 [29]),.pick 31 25 (kB true) 30,.asg 2 31]) .ret)
def bRp:AC:=(.seq (.ops [.box 1 54 0,.asg 2 (kB false)]) (.seq (.seq (.ops [.ld 4 10 true 1,.call (some 5) 90 [4],.not 6 5]) (.cond 6 (.seq (.ops [.asg 2 (kB false)]) .ret) .skip)) (.seq (.seq (.ops [.asg 3 (kI 0)]) (.block 0 aKc)) aT6)))
theorem bIh:bR Try.prog 87=some (bRp,[.mv 0 2],32):=by kernel_rfl
def bB6 (r:Bool):Exit→St→Prop:=bO [.mv 0 2] fun x _=>x=(fun y=>(vB y)) r
def bJe (r:Bool):Exit→St→Prop:=(bM (wkK (avc Try.prog aT6 (bB6 r))) (bB6 r))
def bQh (r:Bool):Exit→St→Prop:=(bP 0 (bJe r))
def bJr (p0:aA) (x3:Int):St:=⟨[(1,(.ptr 1 0)),(3,(vI x3))],[(1,kS p0)]⟩
abbrev aDw (p0:aA) (x3:Int) (r:Bool):Prop:=avc Try.prog aKc (bQh r) (bJr p0 x3)
def bDd:AC:=(.seq (.ops [.box 1 54 0,.asg 2 (kB false)]) (.seq (.ops [.fa 5 8 1,.ld 6 1 false 5,.len 7 6,.asg 3 7]) (.seq (.ops [.fa 8 9 1,.ld 9 1 false 8,.len 10 9,.asg 4 10]) (.seq (.seq (.ops [.fa 11 0 1,.ld 12 1 false 11,.bin 13 .neq 12 (kI 2),.mv 14 13,.g 14 true (.fa 15 6 1),.g 14 true (.ld 16 1 false 15),.g 14 true (.bin 17 .neq 16 (.c (.d (.s (bs []))))),.g 14 true (.mv 18 17),.g 18 false (.fa 19 7 1),.g 18 false (.ld 20 1 false 19),.g 18 false (.bin 21 .neq 20 (.c (.d (.s (bs []))))),.g 14 true (.pick 22 18 (kB true) 21),.pick 23 14 22 (kB false),.mv 24 23,.g 24 false (.fa 25 0 1),.g 24 false (.ld 26 1 false 25),.g 24 false (.bin 27 .neq 26 (kI 1)),.g 24 false (.mv 28 27),.g 28 true (.fa 29 3 1),.g 28 true (.ld 30 3 true 29),.g 28 true (.bld 31 [bA,bA,bL] []),.g 28 true (.eqv 32 true [0,0,1] 30 31),.g 24 false (.pick 33 28 32 (kB false)),.pick 34 24 (kB true) 33]) (.cond 34 (.seq (.ops [.asg 2 (kB false)]) .ret) .skip)) (.seq (.seq (.ops [.fa 35 0 1,.ld 36 1 false 35,.bin 37 .neq 36 (kI 3),.mv 38 37,.g 38 true (.fa 39 0 1),.g 38 true (.ld 40 1 false 39),.g 38 true (.bin 41 .neq 40 (kI 4)),.pick 42 38 41 (kB false),.mv 43 42,.g 43 true (.fa 44 1 1),.g 43 true (.ld 45 1 false 44),.g 43 true (.bin 46 .neq 45 (kI 0)),.pick 47 43 46 (kB false),.mv 48 47,.g 48 false (.fa 49 2 1),.g 48 false (.ld 50 1 false 49),.g 48 false (.mv 51 50),.g 51 true (.fa 52 0 1),.g 51 true (.ld 53 1 false 52),.g 51 true (.call (some 54) 57 [53,(kI 5),(kI 8)]),.g 51 true (.not 55 54),.g 48 false (.pick 56 51 55 (kB false)),.pick 57 48 (kB true) 56]) (.cond 57 (.seq (.ops [.asg 2 (kB false)]) .ret) .skip)) (.seq (.seq (.ops [.fa 58 0 1,.ld 59 1 false 58]) (.block 0 (.seq (.ops [.bin 61 .eql 59 (kI 1),.asg 60 61]) (.cond 60 (.seq (.ops [.fa 62 3 1,.ld 63 3 true 62,.call (some 64) 91 [63],.mv 65 64,.g 65 true (.mv 66 3),.g 65 true (.mv 67 4),.g 65 true (.bin 68 .add 66 67),.g 65 true (.bin 69 .eql 68 (kI 0)),.pick 70 65 69 (kB false),.asg 2 70]) .ret) (.seq (.ops [.bin 72 .eql 59 (kI 2),.asg 71 72]) (.cond 71 (.seq (.ops [.fa 73 7 1,.ld 74 1 false 73,.call (some 75) 55 [74],.mv 76 75,.g 76 true (.fa 77 6 1),.g 76 true (.ld 78 1 false 77),.g 76 true (.call (some 79) 86 [78]),.pick 80 76 79 (kB false),.mv 81 80,.g 81 true (.mv 82 3),.g 81 true (.mv 83 4),.g 81 true (.bin 84 .add 82 83),.g 81 true (.bin 85 .eql 84 (kI 0)),.pick 86 81 85 (kB false),.asg 2 86]) .ret) (.seq (.ops [.bin 88 .eql 59 (kI 3),.asg 87 88]) (.cond 87 (.seq (.ops [.fa 89 1 1,.ld 90 1 false 89,.bin 91 .eql 90 (kI 15),.mv 92 91,.g 92 false (.fa 93 1 1),.g 92 false (.ld 94 1 false 93),.g 92 false (.bin 95 .eql 94 (kI 16)),.pick 96 92 (kB true) 95,.mv 97 96,.g 97 true (.mv 98 3),.g 97 true (.bin 99 .eql 98 (kI 1)),.pick 100 97 99 (kB false),.mv 101 100,.g 101 true (.mv 102 4),.g 101 true (.bin 103 .eql 102 (kI 0)),.pick 104 101 103 (kB false),.asg 2 104]) .ret) (.seq (.ops [.bin 106 .eql 59 (kI 4),.asg 105 106]) (.cond 105 (.seq (.ops [.fa 107 1 1,.ld 108 1 false 107,.call (some 109) 57 [108,(kI 1),(kI 14)],.mv 110 109,.g 110 true (.mv 111 3),.g 110 true (.bin 112 .eql 111 (kI 2)),.pick 113 110 112 (kB false),.mv 114 113,.g 114 true (.mv 115 4),.g 114 true (.bin 116 .eql 115 (kI 0)),.pick 117 114 116 (kB false),.asg 2 117]) .ret) (.seq (.ops [.bin 119 .eql 59 (kI 5),.asg 118 119]) (.cond 118 (.seq (.ops [.mv 120 3,.bin 121 .eql 120 (kI 1),.mv 122 121,.g 122 true (.mv 123 4),.g 122 true (.bin 124 .eql 123 (kI 0)),.pick 125 122 124 (kB false),.asg 2 125]) .ret) (.seq (.ops [.bin 127 .eql 59 (kI 6),.asg 126 127]) (.cond 126 (.seq (.ops [.mv 128 3,.bin 129 .eql 128 (kI 3),.mv 130 129,.g 130 true (.mv 131 4),.g 130 true (.bin 132 .eql 131 (kI 0)),.pick 133 130 132 (kB false),.asg 2 133]) .ret) (.seq (.ops [.bin 135 .eql 59 (kI 7),.asg 134 135]) (.cond 134 (.seq (.ops [.mv 136 3,.call (some 137) 57 [136,(kI 2),(kI 9)],.mv 138 137,.g 138 true (.mv 139 4),.g 138 true (.bin 140 .eql 139 (kI 0)),.pick 141 138 140 (kB false),.asg 2 141]) .ret) (.seq (.ops [.bin 143 .eql 59 (kI 8),.asg 142 143]) (.cond 142 (.seq (.ops [.mv 144 3,.bin 145 .eql 144 (kI 1),.mv 146 145,.g 146 true (.mv 147 4),.g 146 true (.bin 148 .eql 147 (kI 1)),.pick 149 146 148 (kB false),.asg 2 149]) .ret) (.seq (.ops [.bin 151 .eql 59 (kI 9),.asg 150 151]) (.cond 150 (.seq (.ops [.mv 152 3,.bin 153 .eql 152 (kI 0),.mv 154 153,.g 154 true (.mv 155 4),.g 154 true (.bin 156 .eql 155 (kI 1)),.pick 157 154 156 (kB false),.asg 2 157]) .ret) .skip)))))))))))))))))))) (.seq (.ops [.asg 2 (kB false)]) .ret)))))))
theorem bL7:bR Try.prog 90=some (bDd,[.mv 0 2],158):=by kernel_rfl
def bXs (r:Bool):Exit→St→Prop:=bO [.mv 0 2] fun x _=>x=(fun y=>(vB y)) r
def bNx:AC:=(.seq (.ops [.asg 2 (kB false)]) (.seq (.ops [.mv 3 0,.bin 4 .eql 3 (.c (.d (.s (bs [])))),.mv 5 4,.g 5 false (.mv 6 0),.g 5 false (.call (some 7) 55 [6]),.pick 8 5 (kB true) 7,.asg 2 8]) .ret))
theorem bV2:bR Try.prog 86=some (bNx,[.mv 0 2],9):=by kernel_rfl
def bZq (r:Bool):Exit→St→Prop:=bO [.mv 0 2] fun x _=>x=(fun y=>(vB y)) r
def bX2:AC:=(.seq (.ops [.box 1 51 0,.asg 2 (kB false)]) (.seq (.ops [.ld 3 3 true 1,.call (some 4) 92 [3],.mv 5 4,.g 5 true (.fa 6 0 1),.g 5 true (.ld 7 1 false 6),.g 5 true (.bin 8 .neq 7 (kI 1)),.g 5 true (.mv 9 8),.g 9 false (.fa 10 1 1),.g 9 false (.ld 11 1 false 10),.g 9 false (.bin 12 .geq 11 (kI 0)),.g 5 true (.pick 13 9 (kB true) 12),.pick 14 5 13 (kB false),.mv 15 14,.g 15 true (.fa 16 2 1),.g 15 true (.ld 17 1 false 16),.g 15 true (.lns 18 17),.g 15 true (.bin 19 .leq 18 (kI 40)),.pick 20 15 19 (kB false),.asg 2 20]) .ret))
theorem bEn:bR Try.prog 91=some (bX2,[.mv 0 2],21):=by kernel_rfl
def bYc (r:Bool):Exit→St→Prop:=bO [.mv 0 2] fun x _=>x=(fun y=>(vB y)) r
def bOr:AC:=(.seq (.ops [.box 1 51 0,.asg 2 (kB false)]) (.seq (.seq (.ops [.fa 3 0 1,.ld 4 1 false 3]) (.block 0 (.seq (.ops [.bin 6 .eql 4 (kI 0),.asg 5 6]) (.cond 5 (.seq (.ops [.fa 7 1 1,.ld 8 1 false 7,.bin 9 .eql 8 (kI 0),.mv 10 9,.g 10 true (.fa 11 2 1),.g 10 true (.ld 12 1 false 11),.g 10 true (.bin 13 .eql 12 (.c (.d (.s (bs []))))),.pick 14 10 13 (kB false),.asg 2 14]) .ret) (.seq (.ops [.bin 16 .eql 4 (kI 1),.asg 15 16]) (.cond 15 (.seq (.ops [.fa 17 2 1,.ld 18 1 false 17,.bin 19 .eql 18 (.c (.d (.s (bs [])))),.asg 2 19]) .ret) (.seq (.ops [.bin 21 .eql 4 (kI 2),.asg 20 21]) (.cond 20 (.seq (.ops [.fa 22 1 1,.ld 23 1 false 22,.bin 24 .eql 23 (kI 0),.mv 25 24,.g 25 true (.fa 26 2 1),.g 25 true (.ld 27 1 false 26),.g 25 true (.lns 28 27),.g 25 true (.bin 29 .leq 28 (kI 200)),.pick 30 25 29 (kB false),.asg 2 30]) .ret) (.seq (.ops [.bin 32 .eql 4 (kI 3),.asg 31 32]) (.cond 31 (.seq (.ops [.fa 33 1 1,.ld 34 1 false 33,.call (some 35) 57 [34,(kI 0),(kI 1)],.mv 36 35,.g 36 true (.fa 37 2 1),.g 36 true (.ld 38 1 false 37),.g 36 true (.bin 39 .eql 38 (.c (.d (.s (bs []))))),.pick 40 36 39 (kB false),.asg 2 40]) .ret) .skip)))))))))) (.seq (.ops [.asg 2 (kB false)]) .ret)))
theorem bCh:bR Try.prog 92=some (bOr,[.mv 0 2],41):=by kernel_rfl
def bXo (r:Bool):Exit→St→Prop:=bO [.mv 0 2] fun x _=>x=(fun y=>(vB y)) r
def aNk:AC:=(.loop (.seq (.seq (.ops [.mv 38 3,.fa 39 1 1,.ld 40 1 false 39,.len 41 40,.bin 42 .lss 38 41]) (.cond 42 .skip (.exit 0))) (.seq (.block 1 (.seq (.ops [.fa 45 1 1,.ld 46 1 false 45,.mv 47 3,.ia 48 13 46 47,.ld 49 13 true 48,.alc 4 aBv,.st 13 4 49]) (.seq (.ops [.fa 50 0 4,.ld 51 1 false 50,.mv 52 51,.g 52 true (.fa 53 1 4),.g 52 true (.ld 54 1 false 53),.g 52 true (.call (some 55) 86 [54]),.g 52 true (.not 56 55),.g 52 true (.mv 57 56),.g 57 false (.fa 58 12 4),.g 57 false (.ld 59 1 false 58),.g 57 false (.bin 60 .neq 59 (.c (.d (.s (bs []))))),.g 52 true (.pick 61 57 (kB true) 60),.g 52 true (.mv 62 61),.g 62 false (.fa 63 2 4),.g 62 false (.ld 64 10 true 63),.g 62 false (.bld 65 [bA,bA,fZ,bA,bA,bL,bL,bL,(.nil 10),(.nil 6)] []),.g 62 false (.call (some 66) 74 [64,65]),.g 62 false (.not 67 66),.g 52 true (.pick 68 62 (kB true) 67),.pick 69 52 68 (kB false),.mv 70 69,.g 70 false (.fa 71 0 4),.g 70 false (.ld 72 1 false 71),.g 70 false (.not 73 72),.g 70 false (.mv 74 73),.g 74 true (.fa 75 1 4),.g 74 true (.ld 76 1 false 75),.g 74 true (.bin 77 .neq 76 (.c (.d (.s (bs []))))),.g 74 true (.mv 78 77),.g 78 false (.fa 79 12 4),.g 78 false (.ld 80 1 false 79),.g 78 false (.call (some 81) 86 [80]),.g 78 false (.not 82 81),.g 74 true (.pick 83 78 (kB true) 82),.g 70 false (.pick 84 74 83 (kB false)),.pick 85 70 (kB true) 84]) (.cond 85 (.seq (.ops [.asg 2 (kB false)]) .ret) .skip)))) (.ops [.mv 43 3,.bin 44 .add 43 (kI 1),.asg 3 44]))))
def aMo:AC:=(.loop (.seq (.seq (.ops [.mv 86 5,.fa 87 2 1,.ld 88 1 false 87,.len 89 88,.bin 90 .lss 86 89]) (.cond 90 .skip (.exit 2))) (.seq (.block 3 (.seq (.ops [.fa 93 2 1,.ld 94 1 false 93,.mv 95 5,.ia 96 3 94 95,.ld 97 3 true 96,.alc 6 [bL,bL,(.nil 10)],.st 3 6 97]) (.seq (.ops [.fa 98 0 6,.ld 99 1 false 98,.call (some 100) 55 [99],.not 101 100,.mv 102 101,.g 102 false (.fa 103 1 6),.g 102 false (.ld 104 1 false 103),.g 102 false (.call (some 105) 86 [104]),.g 102 false (.not 106 105),.pick 107 102 (kB true) 106,.mv 108 107,.g 108 false (.fa 109 2 6),.g 108 false (.ld 110 1 false 109),.g 108 false (.len 111 110),.g 108 false (.bin 112 .gtr 111 (kI 1)),.pick 113 108 (kB true) 112,.mv 114 113,.g 114 false (.mv 115 5),.g 114 false (.bin 116 .eql 115 (kI 0)),.g 114 false (.mv 117 116),.g 117 true (.fa 118 2 6),.g 117 true (.ld 119 1 false 118),.g 117 true (.len 120 119),.g 117 true (.bin 121 .gtr 120 (kI 0)),.g 114 false (.pick 122 117 121 (kB false)),.pick 123 114 (kB true) 122]) (.cond 123 (.seq (.ops [.asg 2 (kB false)]) .ret) .skip)))) (.ops [.mv 91 5,.bin 92 .add 91 (kI 1),.asg 5 92]))))
def aLb:AC:=(.loop (.seq (.seq (.ops [.mv 126 8,.mv 127 7,.len 128 127,.bin 129 .lss 126 128]) (.cond 129 .skip (.exit 4))) (.seq (.block 5 (.seq (.ops [.mv 132 7,.mv 133 8,.ia 134 10 132 133,.ld 135 10 true 134,.call (some 136) 87 [135],.not 137 136]) (.cond 137 (.seq (.ops [.asg 2 (kB false)]) .ret) .skip))) (.ops [.mv 130 8,.bin 131 .add 130 (kI 1),.asg 8 131]))))
def aXh:AC:=(.seq (.ops [.asg 2 (kB true)]) .ret)
def aX7:AC:=(.seq (.ops [.ld 124 6 true 1,.call (some 125) 29 [124],.asg 7 125]) (.seq (.seq (.ops [.asg 8 (kI 0)]) (.block 4 aLb)) aXh))
def bAa:AC:=(.seq (.seq (.ops [.asg 5 (kI 0)]) (.block 2 aMo)) aX7)
def bPm:AC:=(.seq (.ops [.box 1 29 0,.asg 2 (kB false)]) (.seq (.seq (.ops [.fa 9 1 1,.ld 10 1 false 9,.len 11 10,.call (some 12) 57 [11,(kI 1),(kI 12)],.not 13 12,.mv 14 13,.g 14 false (.fa 15 2 1),.g 14 false (.ld 16 1 false 15),.g 14 false (.len 17 16),.g 14 false (.call (some 18) 57 [17,(kI 1),(kI 3)]),.g 14 false (.not 19 18),.pick 20 14 (kB true) 19,.mv 21 20,.g 21 false (.fa 22 3 1),.g 21 false (.ld 23 1 false 22),.g 21 false (.len 24 23),.g 21 false (.bin 25 .gtr 24 (kI 1)),.pick 26 21 (kB true) 25,.mv 27 26,.g 27 false (.fa 28 4 1),.g 27 false (.ld 29 1 false 28),.g 27 false (.len 30 29),.g 27 false (.bin 31 .gtr 30 (kI 12)),.pick 32 27 (kB true) 31,.mv 33 32,.g 33 false (.fa 34 5 1),.g 33 false (.ld 35 1 false 34),.g 33 false (.bin 36 .lss 35 (kI (-1))),.pick 37 33 (kB true) 36]) (.cond 37 (.seq (.ops [.asg 2 (kB false)]) .ret) .skip)) (.seq (.seq (.ops [.asg 3 (kI 0)]) (.block 0 aNk)) bAa)))
theorem bL3:bR Try.prog 75=some (bPm,[.mv 0 2],138):=by kernel_rfl
def Y3 (r:Bool):Exit→St→Prop:=bO [.mv 0 2] fun x _=>x=(fun y=>(vB y)) r
def bVd (r:Bool):Exit→St→Prop:=(bM (wkK (avc Try.prog bAa (Y3 r))) (Y3 r))
def bVu (r:Bool):Exit→St→Prop:=(bP 0 (bVd r))
def bOt (r:Bool):Exit→St→Prop:=(bM (wkK (avc Try.prog aX7 (Y3 r))) (Y3 r))
def bMl (r:Bool):Exit→St→Prop:=(bP 2 (bOt r))
def bRx (r:Bool):Exit→St→Prop:=(bM (wkK (avc Try.prog aXh (Y3 r))) (Y3 r))
def bHe (r:Bool):Exit→St→Prop:=(bP 4 (bRx r))
def bIl (p0:aQ) (x3:Int):St:=⟨[(1,(.ptr 1 0)),(3,(vI x3))],[(1,iU p0)]⟩
abbrev aEb (p0:aQ) (x3:Int) (r:Bool):Prop:=avc Try.prog aNk (bVu r) (bIl p0 x3)
def bKq (p0:aQ) (x5:Int):St:=⟨[(1,(.ptr 1 0)),(5,(vI x5))],[(1,iU p0)]⟩
abbrev aF5 (p0:aQ) (x5:Int) (r:Bool):Prop:=avc Try.prog aMo (bMl r) (bKq p0 x5)
def bV9 (y24:(List aA)) (x8:Int):St:=⟨[(7,(.osl 7 54 10 (y24.map aZ))),(8,(vI x8))],[]⟩
abbrev aFz (y24:(List aA)) (x8:Int) (r:Bool):Prop:=avc Try.prog aLb (bHe r) (bV9 y24 x8)
def aLh:AC:=(.loop (.seq (.seq (.ops [.mv 63 5,.fa 64 9 2,.ld 65 1 false 64,.len 66 65,.bin 67 .lss 63 66]) (.cond 67 .skip (.exit 0))) (.seq (.block 1 (.seq (.dops [[],[0],[],[1,2],[3],[],[5],[],[6,7],[8],[4,9],[10]] [.fa 70 9 2,.ld 71 1 false 70,.mv 72 5,.ia 73 6 71 72,.ld 74 6 true 73,.fa 75 9 3,.ld 76 1 false 75,.mv 77 5,.ia 78 6 76 77,.ld 79 6 true 78,.call (some 80) 54 [74,79],.not 81 80]) (.cond 81 (.seq (.ops [.asg 4 (kB false)]) .ret) .skip))) (.ops [.mv 68 5,.bin 69 .add 68 (kI 1),.asg 5 69]))))
def aXb:AC:=(.seq (.ops [.asg 4 (kB true)]) .ret)
def bBq:AC:=(.seq (.ops [.box 2 54 0,.box 3 54 1,.asg 4 (kB false)]) (.seq (.seq (.ops [.fa 6 0 2,.ld 7 1 false 6,.fa 8 0 3,.ld 9 1 false 8,.bin 10 .neq 7 9,.mv 11 10,.g 11 false (.fa 12 1 2),.g 11 false (.ld 13 1 false 12),.g 11 false (.fa 14 1 3),.g 11 false (.ld 15 1 false 14),.g 11 false (.bin 16 .neq 13 15),.pick 17 11 (kB true) 16,.mv 18 17,.g 18 false (.fa 19 2 2),.g 18 false (.ld 20 1 false 19),.g 18 false (.fa 21 2 3),.g 18 false (.ld 22 1 false 21),.g 18 false (.eqb 23 true 20 22),.pick 24 18 (kB true) 23,.mv 25 24,.g 25 false (.fa 26 3 2),.g 25 false (.ld 27 3 true 26),.g 25 false (.fa 28 3 3),.g 25 false (.ld 29 3 true 28),.g 25 false (.eqv 30 true [0,0,1] 27 29),.pick 31 25 (kB true) 30,.mv 32 31,.g 32 false (.fa 33 6 2),.g 32 false (.ld 34 1 false 33),.g 32 false (.fa 35 6 3),.g 32 false (.ld 36 1 false 35),.g 32 false (.bin 37 .neq 34 36),.pick 38 32 (kB true) 37,.mv 39 38,.g 39 false (.fa 40 7 2),.g 39 false (.ld 41 1 false 40),.g 39 false (.fa 42 7 3),.g 39 false (.ld 43 1 false 42),.g 39 false (.bin 44 .neq 41 43),.pick 45 39 (kB true) 44,.mv 46 45,.g 46 false (.fa 47 9 2),.g 46 false (.ld 48 1 false 47),.g 46 false (.len 49 48),.g 46 false (.fa 50 9 3),.g 46 false (.ld 51 1 false 50),.g 46 false (.len 52 51),.g 46 false (.bin 53 .neq 49 52),.pick 54 46 (kB true) 53,.mv 55 54,.g 55 false (.fa 56 8 2),.g 55 false (.ld 57 1 false 56),.g 55 false (.fa 58 8 3),.g 55 false (.ld 59 1 false 58),.g 55 false (.call (some 60) 73 [57,59]),.g 55 false (.not 61 60),.pick 62 55 (kB true) 61]) (.cond 62 (.seq (.ops [.asg 4 (kB false)]) .ret) .skip)) (.seq (.seq (.ops [.asg 5 (kI 0)]) (.block 0 aLh)) aXb)))
theorem bKo:bR Try.prog 74=some (bBq,[.mv 0 4],82):=by kernel_rfl
def aWx (r:Bool):Exit→St→Prop:=bO [.mv 0 4] fun x _=>x=(fun y=>(vB y)) r
def bTo (r:Bool):Exit→St→Prop:=(bM (wkK (avc Try.prog aXb (aWx r))) (aWx r))
def bCu (r:Bool):Exit→St→Prop:=(bP 0 (bTo r))
def bUj (p0:aA) (p1:aA) (x5:Int):St:=⟨[(2,(.ptr 2 0)),(3,(.ptr 3 0)),(5,(vI x5))],[(2,kS p0),(3,kS p1)]⟩
abbrev aG1 (p0:aA) (p1:aA) (x5:Int) (r:Bool):Prop:=avc Try.prog aLh (bCu r) (bUj p0 p1 x5)
def aKy:AC:=(.loop (.seq (.seq (.ops [.mv 59 5,.fa 60 1 2,.ld 61 1 false 60,.len 62 61,.bin 63 .lss 59 62]) (.cond 63 .skip (.exit 0))) (.seq (.block 1 (.seq (.ops [.fa 66 1 2,.ld 67 1 false 66,.mv 68 5,.ia 69 13 67 68,.ld 70 13 true 69,.alc 6 aBv,.st 13 6 70]) (.seq (.ops [.fa 71 1 3,.ld 72 1 false 71,.mv 73 5,.ia 74 13 72 73,.ld 75 13 true 74,.alc 7 aBv,.st 13 7 75]) (.seq (.ops [.fa 76 0 6,.ld 77 1 false 76,.fa 78 0 7,.ld 79 1 false 78,.eqb 80 true 77 79,.mv 81 80,.g 81 false (.fa 82 1 6),.g 81 false (.ld 83 1 false 82),.g 81 false (.fa 84 1 7),.g 81 false (.ld 85 1 false 84),.g 81 false (.bin 86 .neq 83 85),.pick 87 81 (kB true) 86,.mv 88 87,.g 88 false (.fa 89 12 6),.g 88 false (.ld 90 1 false 89),.g 88 false (.fa 91 12 7),.g 88 false (.ld 92 1 false 91),.g 88 false (.bin 93 .neq 90 92),.pick 94 88 (kB true) 93,.mv 95 94,.g 95 false (.fa 96 2 6),.g 95 false (.ld 97 10 true 96),.g 95 false (.fa 98 2 7),.g 95 false (.ld 99 10 true 98),.g 95 false (.call (some 100) 74 [97,99]),.g 95 false (.not 101 100),.pick 102 95 (kB true) 101]) (.cond 102 (.seq (.ops [.asg 4 (kB false)]) .ret) .skip))))) (.ops [.mv 64 5,.bin 65 .add 64 (kI 1),.asg 5 65]))))
def aLl:AC:=(.loop (.seq (.seq (.ops [.mv 103 8,.fa 104 2 2,.ld 105 1 false 104,.len 106 105,.bin 107 .lss 103 106]) (.cond 107 .skip (.exit 2))) (.seq (.block 3 (.seq (.ops [.fa 110 2 2,.ld 111 1 false 110,.mv 112 8,.ia 113 3 111 112,.ld 114 3 true 113,.alc 9 [bL,bL,(.nil 10)],.st 3 9 114]) (.seq (.ops [.fa 115 2 3,.ld 116 1 false 115,.mv 117 8,.ia 118 3 116 117,.ld 119 3 true 118,.alc 10 [bL,bL,(.nil 10)],.st 3 10 119]) (.seq (.ops [.fa 120 0 9,.ld 121 1 false 120,.fa 122 0 10,.ld 123 1 false 122,.bin 124 .neq 121 123,.mv 125 124,.g 125 false (.fa 126 1 9),.g 125 false (.ld 127 1 false 126),.g 125 false (.fa 128 1 10),.g 125 false (.ld 129 1 false 128),.g 125 false (.bin 130 .neq 127 129),.pick 131 125 (kB true) 130,.mv 132 131,.g 132 false (.fa 133 2 9),.g 132 false (.ld 134 1 false 133),.g 132 false (.fa 135 2 10),.g 132 false (.ld 136 1 false 135),.g 132 false (.call (some 137) 73 [134,136]),.g 132 false (.not 138 137),.pick 139 132 (kB true) 138]) (.cond 139 (.seq (.ops [.asg 4 (kB false)]) .ret) .skip))))) (.ops [.mv 108 8,.bin 109 .add 108 (kI 1),.asg 8 109]))))
def aKp:AC:=(.loop (.seq (.seq (.ops [.mv 140 11,.fa 141 4 2,.ld 142 1 false 141,.len 143 142,.bin 144 .lss 140 143]) (.cond 144 .skip (.exit 4))) (.seq (.block 5 (.seq (.dops [[],[0],[],[1,2],[3],[4],[],[6],[],[7,8],[9],[10],[5,11],[12],[13],[14,13],[13],[15,16,13],[17,13],[18,13],[13],[20,13],[13],[21,22,13],[23,13],[24,13],[19,25,13,13],[26,13],[13,27]] [.fa 147 4 2,.ld 148 1 false 147,.mv 149 11,.ia 150 11 148 149,.fa 151 10 150,.ld 152 1 false 151,.fa 153 4 3,.ld 154 1 false 153,.mv 155 11,.ia 156 11 154 155,.fa 157 10 156,.ld 158 1 false 157,.eqb 159 true 152 158,.mv 160 159,.g 160 false (.fa 161 4 2),.g 160 false (.ld 162 1 false 161),.g 160 false (.mv 163 11),.g 160 false (.ia 164 11 162 163),.g 160 false (.fa 165 0 164),.g 160 false (.ld 166 10 true 165),.g 160 false (.fa 167 4 3),.g 160 false (.ld 168 1 false 167),.g 160 false (.mv 169 11),.g 160 false (.ia 170 11 168 169),.g 160 false (.fa 171 0 170),.g 160 false (.ld 172 10 true 171),.g 160 false (.call (some 173) 74 [166,172]),.g 160 false (.not 174 173),.pick 175 160 (kB true) 174]) (.cond 175 (.seq (.ops [.asg 4 (kB false)]) .ret) .skip))) (.ops [.mv 145 11,.bin 146 .add 145 (kI 1),.asg 11 146]))))
def aU7:AC:=(.seq (.ops [.asg 4 (kB true)]) .ret)
def aW5:AC:=(.seq (.seq (.ops [.asg 11 (kI 0)]) (.block 4 aKp)) aU7)
def aU1:AC:=(.seq (.seq (.ops [.asg 8 (kI 0)]) (.block 2 aLl)) aW5)
def bC3:AC:=(.seq (.ops [.box 2 29 0,.box 3 29 1,.asg 4 (kB false)]) (.seq (.seq (.ops [.fa 12 0 2,.ld 13 1 false 12,.fa 14 0 3,.ld 15 1 false 14,.eqb 16 true 13 15,.mv 17 16,.g 17 false (.fa 18 5 2),.g 17 false (.ld 19 1 false 18),.g 17 false (.fa 20 5 3),.g 17 false (.ld 21 1 false 20),.g 17 false (.bin 22 .neq 19 21),.pick 23 17 (kB true) 22,.mv 24 23,.g 24 false (.fa 25 1 2),.g 24 false (.ld 26 1 false 25),.g 24 false (.len 27 26),.g 24 false (.fa 28 1 3),.g 24 false (.ld 29 1 false 28),.g 24 false (.len 30 29),.g 24 false (.bin 31 .neq 27 30),.pick 32 24 (kB true) 31,.mv 33 32,.g 33 false (.fa 34 2 2),.g 33 false (.ld 35 1 false 34),.g 33 false (.len 36 35),.g 33 false (.fa 37 2 3),.g 33 false (.ld 38 1 false 37),.g 33 false (.len 39 38),.g 33 false (.bin 40 .neq 36 39),.pick 41 33 (kB true) 40,.mv 42 41,.g 42 false (.fa 43 4 2),.g 42 false (.ld 44 1 false 43),.g 42 false (.len 45 44),.g 42 false (.fa 46 4 3),.g 42 false (.ld 47 1 false 46),.g 42 false (.len 48 47),.g 42 false (.bin 49 .neq 45 48),.pick 50 42 (kB true) 49,.mv 51 50,.g 51 false (.fa 52 3 2),.g 51 false (.ld 53 1 false 52),.g 51 false (.fa 54 3 3),.g 51 false (.ld 55 1 false 54),.g 51 false (.call (some 56) 73 [53,55]),.g 51 false (.not 57 56),.pick 58 51 (kB true) 57]) (.cond 58 (.seq (.ops [.asg 4 (kB false)]) .ret) .skip)) (.seq (.seq (.ops [.asg 5 (kI 0)]) (.block 0 aKy)) aU1)))
theorem bDf:bR Try.prog 54=some (bC3,[.mv 0 4],176):=by kernel_rfl
def O4 (r:Bool):Exit→St→Prop:=bO [.mv 0 4] fun x _=>x=(fun y=>(vB y)) r
def bLm (r:Bool):Exit→St→Prop:=(bM (wkK (avc Try.prog aU1 (O4 r))) (O4 r))
def bI9 (r:Bool):Exit→St→Prop:=(bP 0 (bLm r))
def bD2 (r:Bool):Exit→St→Prop:=(bM (wkK (avc Try.prog aW5 (O4 r))) (O4 r))
def bHd (r:Bool):Exit→St→Prop:=(bP 2 (bD2 r))
def bPh (r:Bool):Exit→St→Prop:=(bM (wkK (avc Try.prog aU7 (O4 r))) (O4 r))
def bFe (r:Bool):Exit→St→Prop:=(bP 4 (bPh r))
def bKt (p0:aQ) (p1:aQ) (x5:Int):St:=⟨[(2,(.ptr 2 0)),(3,(.ptr 3 0)),(5,(vI x5))],[(2,iU p0),(3,iU p1)]⟩
abbrev aFl (p0:aQ) (p1:aQ) (x5:Int) (r:Bool):Prop:=avc Try.prog aKy (bI9 r) (bKt p0 p1 x5)
def bKr (p0:aQ) (p1:aQ) (x8:Int):St:=⟨[(2,(.ptr 2 0)),(3,(.ptr 3 0)),(8,(vI x8))],[(2,iU p0),(3,iU p1)]⟩
abbrev aEt (p0:aQ) (p1:aQ) (x8:Int) (r:Bool):Prop:=avc Try.prog aLl (bHd r) (bKr p0 p1 x8)
def aY1 (p0:aQ) (p1:aQ) (x11:Int):St:=⟨[(2,(.ptr 2 0)),(3,(.ptr 3 0)),(11,(vI x11))],[(2,iU p0),(3,iU p1)]⟩
abbrev aH4 (p0:aQ) (p1:aQ) (x11:Int) (r:Bool):Prop:=avc Try.prog aKp (bFe r) (aY1 p0 p1 x11)
def aQd:AC:=(.loop (.seq (.seq (.ops [.mv 11 5,.mv 12 0,.len 13 12,.bin 14 .lss 11 13]) (.cond 14 .skip (.exit 0))) (.seq (.block 1 (.seq (.dops [[],[],[0,1],[2],[],[],[4,5],[6],[3,7],[8]] [.mv 17 0,.mv 18 5,.ia 19 10 17 18,.ld 20 10 true 19,.mv 21 1,.mv 22 5,.ia 23 10 21 22,.ld 24 10 true 23,.call (some 25) 74 [20,24],.not 26 25]) (.cond 26 (.seq (.ops [.asg 4 (kB false)]) .ret) .skip))) (.ops [.mv 15 5,.bin 16 .add 15 (kI 1),.asg 5 16]))))
def aRo:AC:=(.seq (.ops [.asg 4 (kB true)]) .ret)
def bBn:AC:=(.seq (.ops [.asg 4 (kB false)]) (.seq (.seq (.ops [.mv 6 0,.len 7 6,.mv 8 1,.len 9 8,.bin 10 .neq 7 9]) (.cond 10 (.seq (.ops [.asg 4 (kB false)]) .ret) .skip)) (.seq (.seq (.ops [.asg 5 (kI 0)]) (.block 0 aQd)) aRo)))
theorem bEz:bR Try.prog 73=some (bBn,[.mv 0 4],27):=by kernel_rfl
def bAq (r:Bool):Exit→St→Prop:=bO [.mv 0 4] fun x _=>x=(fun y=>(vB y)) r
def bNv (r:Bool):Exit→St→Prop:=(bM (wkK (avc Try.prog aRo (bAq r))) (bAq r))
def bGk (r:Bool):Exit→St→Prop:=(bP 0 (bNv r))
def bJa (p0:(List aA)) (p1:(List aA)) (x5:Int):St:=⟨[(0,(iL p0)),(1,(iL p1)),(5,(vI x5))],[]⟩
abbrev aDf (p0:(List aA)) (p1:(List aA)) (x5:Int) (r:Bool):Prop:=avc Try.prog aQd (bGk r) (bJa p0 p1 x5)
def aMv:AC:=(.loop (.seq (.seq (.ops [.mv 11 5,.fa 12 8 2,.ld 13 1 false 12,.len 14 13,.bin 15 .lss 11 14,.mv 16 15,.g 16 true (.mv 17 1),.g 16 true (.bin 18 .geq 17 (kI 0)),.pick 19 16 18 (kB false)]) (.cond 19 .skip (.exit 0))) (.seq (.block 1 (.ops [.fa 22 8 2,.ld 23 1 false 22,.mv 24 5,.ia 25 10 23 24,.ld 26 10 true 25,.mv 27 1,.call (some 28) 88 [26,27],.asg 1 28])) (.ops [.mv 20 5,.bin 21 .add 20 (kI 1),.asg 5 21]))))
def aMp:AC:=(.loop (.seq (.seq (.ops [.mv 46 8,.mv 47 7,.len 48 47,.bin 49 .lss 46 48,.mv 50 49,.g 50 true (.mv 51 1),.g 50 true (.bin 52 .geq 51 (kI 0)),.pick 53 50 52 (kB false)]) (.cond 53 .skip (.exit 4))) (.seq (.block 5 (.ops [.mv 56 7,.mv 57 8,.ia 58 10 56 57,.ld 59 10 true 58,.mv 60 1,.call (some 61) 88 [59,60],.asg 1 61])) (.ops [.mv 54 8,.bin 55 .add 54 (kI 1),.asg 8 55]))))
def aYm:AC:=(.ops [.mv 38 6,.bin 39 .add 38 (kI 1),.asg 6 39])
def aFv:AC:=(.loop (.seq (.seq (.ops [.mv 29 6,.fa 30 9 2,.ld 31 1 false 30,.len 32 31,.bin 33 .lss 29 32,.mv 34 33,.g 34 true (.mv 35 1),.g 34 true (.bin 36 .geq 35 (kI 0)),.pick 37 34 36 (kB false)]) (.cond 37 .skip (.exit 2))) (.seq (.block 3 (.seq (.ops [.fa 40 9 2,.ld 41 1 false 40,.mv 42 6,.ia 43 6 41 42,.ld 44 6 true 43,.call (some 45) 29 [44],.asg 7 45]) (.seq (.ops [.asg 8 (kI 0)]) (.block 4 aMp)))) aYm)))
def aS6:AC:=(.seq (.ops [.mv 62 1,.asg 4 62]) .ret)
def bAc:AC:=(.seq (.seq (.ops [.asg 6 (kI 0)]) (.block 2 aFv)) aS6)
def bM5:AC:=(.seq (.ops [.box 2 54 0,.asg 4 (kI 0)]) (.seq (.ops [.mv 9 1,.bin 10 .sub 9 (kI 1),.asg 1 10]) (.seq (.seq (.ops [.asg 5 (kI 0)]) (.block 0 aMv)) bAc)))
theorem bOq:bR Try.prog 88=some (bM5,[.mv 0 4],63):=by kernel_rfl
def aDl (r:Int):Exit→St→Prop:=bO [.mv 0 4] fun x _=>x=(fun y=>(vI y)) r
def bL4 (r:Int):Exit→St→Prop:=(bM (wkK (avc Try.prog bAc (aDl r))) (aDl r))
def bRy (r:Int):Exit→St→Prop:=(bP 0 (bL4 r))
def bNa (r:Int):Exit→St→Prop:=(bM (wkK (avc Try.prog aS6 (aDl r))) (aDl r))
def aLc (r:Int):Exit→St→Prop:=(bP 2 (bNa r))
def aZu (r:Int):Exit→St→Prop:=(bM (avc Try.prog aFv (aLc r)) (aLc r))
def bRe (r:Int):Exit→St→Prop:=(bM (wkK (avc Try.prog aYm (aZu r))) (aZu r))
def bRr (r:Int):Exit→St→Prop:=(bP 3 (bRe r))
def bMs (r:Int):Exit→St→Prop:=(bP 4 (bRr r))
def bCr (p0:aA) (x1:Int) (x5:Int):St:=⟨[(1,(vI x1)),(2,(.ptr 2 0)),(5,(vI x5))],[(2,kS p0)]⟩
abbrev aGp (p0:aA) (x1:Int) (x5:Int) (r:Int):Prop:=avc Try.prog aMv (bRy r) (bCr p0 x1 x5)
def bNj (p0:aA) (fJ:Int) (x6:Int):St:=⟨[(1,(vI fJ)),(2,(.ptr 2 0)),(6,(vI x6))],[(2,kS p0)]⟩
abbrev aFi (p0:aA) (fJ:Int) (x6:Int) (r:Int):Prop:=avc Try.prog aFv (aLc r) (bNj p0 fJ x6)
def bCj (x6:Int) (y7:(List aA)) (p0:aA) (kZ:Int) (x8:Int):St:=⟨[(1,(vI kZ)),(2,(.ptr 2 0)),(6,(vI x6)),(7,(.osl 7 54 10 (y7.map aZ))),(8,(vI x8))],[(2,kS p0)]⟩
abbrev aFa (x6:Int) (y7:(List aA)) (p0:aA) (kZ:Int) (x8:Int) (r:Int):Prop:=avc Try.prog aMp (bMs r) (bCj x6 y7 p0 kZ x8)
def bSx:AC:=(.seq (.ops [.box 1 29 0,.asg 2 (kB false)]) (.seq (.ops [.ld 3 6 true 1,.call (some 4) 75 [3],.mv 5 4,.g 5 true (.ld 6 6 true 1),.g 5 true (.call (some 7) 76 [6]),.g 5 true (.bin 8 .leq 7 (kI 24)),.pick 9 5 8 (kB false),.mv 10 9,.g 10 true (.ld 11 6 true 1),.g 10 true (.call (some 12) 77 [11]),.g 10 true (.bin 13 .leq 12 (kI 200)),.pick 14 10 13 (kB false),.asg 2 14]) .ret))
theorem bEm:bR Try.prog 56=some (bSx,[.mv 0 2],15):=by kernel_rfl
def bZ1 (r:Bool):Exit→St→Prop:=bO [.mv 0 2] fun x _=>x=(fun y=>(vB y)) r
def aNf:AC:=(.loop (.seq (.seq (.ops [.mv 8 5,.mv 9 4,.len 10 9,.bin 11 .lss 8 10]) (.cond 11 .skip (.exit 0))) (.seq (.block 1 (.ops [.mv 14 3,.mv 15 4,.mv 16 5,.ia 17 10 15 16,.ld 18 10 true 17,.call (some 19) 62 [18],.bin 20 .add 14 19,.asg 3 20])) (.ops [.mv 12 5,.bin 13 .add 12 (kI 1),.asg 5 13]))))
def aT4:AC:=(.seq (.ops [.mv 21 3,.asg 2 21]) .ret)
def bLb:AC:=(.seq (.ops [.box 1 29 0,.asg 2 (kI 0)]) (.seq (.ops [.asg 3 (kI 0)]) (.seq (.ops [.ld 6 6 true 1,.call (some 7) 29 [6],.asg 4 7]) (.seq (.seq (.ops [.asg 5 (kI 0)]) (.block 0 aNf)) aT4))))
theorem bGg:bR Try.prog 77=some (bLb,[.mv 0 2],22):=by kernel_rfl
def aWe (r:Int):Exit→St→Prop:=bO [.mv 0 2] fun x _=>x=(fun y=>(vI y)) r
def bUy (r:Int):Exit→St→Prop:=(bM (wkK (avc Try.prog aT4 (aWe r))) (aWe r))
def bMd (r:Int):Exit→St→Prop:=(bP 0 (bUy r))
def bCd (y1:(List aA)) (x3:Int) (x5:Int):St:=⟨[(3,(vI x3)),(4,(.osl 4 54 10 (y1.map aZ))),(5,(vI x5))],[]⟩
abbrev aHy (y1:(List aA)) (x3:Int) (x5:Int) (r:Int):Prop:=avc Try.prog aNf (bMd r) (bCd y1 x3 x5)
def aPl:AC:=(.loop (.seq (.seq (.ops [.mv 6 4,.fa 7 8 1,.ld 8 1 false 7,.len 9 8,.bin 10 .lss 6 9]) (.cond 10 .skip (.exit 0))) (.seq (.block 1 (.ops [.mv 13 3,.fa 14 8 1,.ld 15 1 false 14,.mv 16 4,.ia 17 10 15 16,.ld 18 10 true 17,.call (some 19) 62 [18],.bin 20 .add 13 19,.asg 3 20])) (.ops [.mv 11 4,.bin 12 .add 11 (kI 1),.asg 4 12]))))
def aNe:AC:=(.loop (.seq (.seq (.ops [.mv 21 5,.fa 22 9 1,.ld 23 1 false 22,.len 24 23,.bin 25 .lss 21 24]) (.cond 25 .skip (.exit 2))) (.seq (.block 3 (.ops [.mv 28 3,.fa 29 9 1,.ld 30 1 false 29,.mv 31 5,.ia 32 6 30 31,.ld 33 6 true 32,.call (some 34) 77 [33],.bin 35 .add 28 34,.asg 3 35])) (.ops [.mv 26 5,.bin 27 .add 26 (kI 1),.asg 5 27]))))
def aVi:AC:=(.seq (.ops [.mv 36 3,.asg 2 36]) .ret)
def bAn:AC:=(.seq (.seq (.ops [.asg 5 (kI 0)]) (.block 2 aNe)) aVi)
def bNy:AC:=(.seq (.ops [.box 1 54 0,.asg 2 (kI 0)]) (.seq (.ops [.asg 3 (kI 1)]) (.seq (.seq (.ops [.asg 4 (kI 0)]) (.block 0 aPl)) bAn)))
theorem bLx:bR Try.prog 62=some (bNy,[.mv 0 2],37):=by kernel_rfl
def aHo (r:Int):Exit→St→Prop:=bO [.mv 0 2] fun x _=>x=(fun y=>(vI y)) r
def bWp (r:Int):Exit→St→Prop:=(bM (wkK (avc Try.prog bAn (aHo r))) (aHo r))
def bQ0 (r:Int):Exit→St→Prop:=(bP 0 (bWp r))
def bOp (r:Int):Exit→St→Prop:=(bM (wkK (avc Try.prog aVi (aHo r))) (aHo r))
def bTa (r:Int):Exit→St→Prop:=(bP 2 (bOp r))
def bSs (p0:aA) (x3:Int) (x4:Int):St:=⟨[(1,(.ptr 1 0)),(3,(vI x3)),(4,(vI x4))],[(1,kS p0)]⟩
abbrev aIr (p0:aA) (x3:Int) (x4:Int) (r:Int):Prop:=avc Try.prog aPl (bQ0 r) (bSs p0 x3 x4)
def bIr (p0:aA) (dX:Int) (x5:Int):St:=⟨[(1,(.ptr 1 0)),(3,(vI dX)),(5,(vI x5))],[(1,kS p0)]⟩
abbrev aEd (p0:aA) (dX:Int) (x5:Int) (r:Int):Prop:=avc Try.prog aNe (bTa r) (bIr p0 dX x5)
def aNn:AC:=(.loop (.seq (.seq (.ops [.mv 8 5,.mv 9 4,.len 10 9,.bin 11 .lss 8 10]) (.cond 11 .skip (.exit 0))) (.seq (.block 1 (.ops [.mv 14 3,.mv 15 4,.mv 16 5,.ia 17 10 15 16,.ld 18 10 true 17,.call (some 19) 62 [18],.bin 20 .add 14 19,.asg 3 20])) (.ops [.mv 12 5,.bin 13 .add 12 (kI 1),.asg 5 13]))))
def aU4:AC:=(.seq (.ops [.mv 21 3,.asg 2 21]) .ret)
def bMq:AC:=(.seq (.ops [.box 1 33 0,.asg 2 (kI 0)]) (.seq (.ops [.asg 3 (kI 0)]) (.seq (.ops [.ld 6 12 true 1,.call (some 7) 59 [6],.asg 4 7]) (.seq (.seq (.ops [.asg 5 (kI 0)]) (.block 0 aNn)) aU4))))
theorem bBm:bR Try.prog 33=some (bMq,[.mv 0 2],22):=by kernel_rfl
def bAm (r:Int):Exit→St→Prop:=bO [.mv 0 2] fun x _=>x=(fun y=>(vI y)) r
def bFt (r:Int):Exit→St→Prop:=(bM (wkK (avc Try.prog aU4 (bAm r))) (bAm r))
def bS7 (r:Int):Exit→St→Prop:=(bP 0 (bFt r))
def bP5 (y1:(List aA)) (x3:Int) (x5:Int):St:=⟨[(3,(vI x3)),(4,(.osl 4 54 10 (y1.map aZ))),(5,(vI x5))],[]⟩
abbrev aIh (y1:(List aA)) (x3:Int) (x5:Int) (r:Int):Prop:=avc Try.prog aNn (bS7 r) (bP5 y1 x3 x5)
def aM5:AC:=(.loop (.seq (.seq (.ops [.mv 22 5,.fa 23 8 1,.ld 24 1 false 23,.mv 25 4,.ia 26 1 24 25,.ld 27 1 false 26,.len 28 27,.bin 29 .lss 22 28]) (.cond 29 .skip (.exit 2))) (.seq (.block 3 (.ops [.fa 32 8 1,.ld 33 1 false 32,.mv 34 4,.ia 35 1 33 34,.ld 36 1 false 35,.mv 37 5,.ia 38 10 36 37,.ld 39 10 true 38,.mv 40 3,.call (some 41) 16 [39,40],.asg 3 41])) (.ops [.mv 30 5,.bin 31 .add 30 (kI 1),.asg 5 31]))))
def aXu:AC:=(.ops [.mv 20 4,.bin 21 .add 20 (kI 1),.asg 4 21])
def aIk:AC:=(.loop (.seq (.seq (.ops [.mv 15 4,.fa 16 8 1,.ld 17 1 false 16,.len 18 17,.bin 19 .lss 15 18]) (.cond 19 .skip (.exit 0))) (.seq (.block 1 (.seq (.ops [.asg 5 (kI 0)]) (.block 2 aM5))) aXu)))
def aQk:AC:=(.loop (.seq (.seq (.ops [.mv 42 6,.fa 43 10 1,.ld 44 1 false 43,.len 45 44,.bin 46 .lss 42 45]) (.cond 46 .skip (.exit 4))) (.seq (.block 5 (.ops [.fa 49 10 1,.ld 50 1 false 49,.mv 51 6,.ia 52 10 50 51,.ld 53 10 true 52,.mv 54 3,.call (some 55) 16 [53,54],.asg 3 55])) (.ops [.mv 47 6,.bin 48 .add 47 (kI 1),.asg 6 48]))))
def aLs:AC:=(.loop (.seq (.seq (.ops [.mv 56 7,.fa 57 11 1,.ld 58 1 false 57,.len 59 58,.bin 60 .lss 56 59]) (.cond 60 .skip (.exit 6))) (.seq (.block 7 (.ops [.fa 63 11 1,.ld 64 1 false 63,.mv 65 7,.ia 66 10 64 65,.ld 67 10 true 66,.mv 68 3,.call (some 69) 16 [67,68],.asg 3 69])) (.ops [.mv 61 7,.bin 62 .add 61 (kI 1),.asg 7 62]))))
def aTl:AC:=(.seq (.ops [.mv 70 3,.asg 2 70]) .ret)
def aZr:AC:=(.seq (.seq (.ops [.asg 7 (kI 0)]) (.block 6 aLs)) aTl)
def aVr:AC:=(.seq (.seq (.ops [.asg 6 (kI 0)]) (.block 4 aQk)) aZr)
def bG6:AC:=(.seq (.ops [.box 1 33 0,.asg 2 (.c (.nil 1))]) (.seq (.dops [[],[0],[],[],[3],[2,4],[1,5,5],[6,6,0,1,2,3,4,5,6]] [.fa 8 1 1,.ld 9 6 true 8,.bsl 10 9 1 [],.fa 11 7 1,.ld 12 1 false 11,.call (some 13) 15 [10,12],.call (some 14) 14 [9,13],.asg 3 14]) (.seq (.seq (.ops [.asg 4 (kI 0)]) (.block 0 aIk)) aVr)))
theorem bNe:bR Try.prog 7=some (bG6,[.mv 0 2],71):=by kernel_rfl
def X0 (r:(List (List UInt8))):Exit→St→Prop:=bO [.mv 0 2] fun x b=>x=(fun (y:(List (List UInt8)))=>(.osl 2000000 9 1 (y.map cStr))) r∧bZ ((fun (y:(List (List UInt8)))=>[]) r) b
def bIn (r:(List (List UInt8))):Exit→St→Prop:=(bM (wkK (avc Try.prog aVr (X0 r))) (X0 r))
def aP6 (r:(List (List UInt8))):Exit→St→Prop:=(bP 0 (bIn r))
def aZa (r:(List (List UInt8))):Exit→St→Prop:=(bM (avc Try.prog aIk (aP6 r)) (aP6 r))
def bJ1 (r:(List (List UInt8))):Exit→St→Prop:=(bM (wkK (avc Try.prog aXu (aZa r))) (aZa r))
def bM4 (r:(List (List UInt8))):Exit→St→Prop:=(bP 1 (bJ1 r))
def bJg (r:(List (List UInt8))):Exit→St→Prop:=(bP 2 (bM4 r))
def bDi (r:(List (List UInt8))):Exit→St→Prop:=(bM (wkK (avc Try.prog aZr (X0 r))) (X0 r))
def bN8 (r:(List (List UInt8))):Exit→St→Prop:=(bP 4 (bDi r))
def bO1 (r:(List (List UInt8))):Exit→St→Prop:=(bM (wkK (avc Try.prog aTl (X0 r))) (X0 r))
def bVq (r:(List (List UInt8))):Exit→St→Prop:=(bP 6 (bO1 r))
def bUz (p0:bD) (x3:(List (List UInt8))) (x4:Int):St:=⟨[(1,(.ptr 1 0)),(3,(.osl 3 9 1 (x3.map cStr))),(4,(vI x4))],[(1,pW p0)]⟩
abbrev aJf (p0:bD) (x3:(List (List UInt8))) (x4:Int) (r:(List (List UInt8))):Prop:=avc Try.prog aIk (aP6 r) (bUz p0 x3 x4)
def aV5 (x4:Int) (p0:bD) (dX:(List (List UInt8))) (x5:Int):St:=⟨[(1,(.ptr 1 0)),(3,(.osl 3 9 1 (dX.map cStr))),(4,(vI x4)),(5,(vI x5))],[(1,pW p0)]⟩
abbrev aDz (x4:Int) (p0:bD) (dX:(List (List UInt8))) (x5:Int) (r:(List (List UInt8))):Prop:=avc Try.prog aM5 (bJg r) (aV5 x4 p0 dX x5)
def bLn (p0:bD) (dF:(List (List UInt8))) (x6:Int):St:=⟨[(1,(.ptr 1 0)),(3,(.osl 3 9 1 (dF.map cStr))),(6,(vI x6))],[(1,pW p0)]⟩
abbrev aHm (p0:bD) (dF:(List (List UInt8))) (x6:Int) (r:(List (List UInt8))):Prop:=avc Try.prog aQk (bN8 r) (bLn p0 dF x6)
def bQp (p0:bD) (lC:(List (List UInt8))) (x7:Int):St:=⟨[(1,(.ptr 1 0)),(3,(.osl 3 9 1 (lC.map cStr))),(7,(vI x7))],[(1,pW p0)]⟩
abbrev aGj (p0:bD) (lC:(List (List UInt8))) (x7:Int) (r:(List (List UInt8))):Prop:=avc Try.prog aLs (bVq r) (bQp p0 lC x7)
def aQo:AC:=(.loop (.seq (.seq (.ops [.mv 6 5,.mv 7 0,.len 8 7,.bin 9 .lss 6 8]) (.cond 9 .skip (.exit 0))) (.seq (.block 1 (.seq (.ops [.mv 12 0,.mv 13 5,.ia 14 1 12 13,.ld 15 1 false 14,.mv 16 1,.bin 17 .eql 15 16]) (.cond 17 (.seq (.ops [.asg 4 (kB true)]) .ret) .skip))) (.ops [.mv 10 5,.bin 11 .add 10 (kI 1),.asg 5 11]))))
def aX9:AC:=(.seq (.ops [.asg 4 (kB false)]) .ret)
def bOn:AC:=(.seq (.ops [.asg 4 (kB false)]) (.seq (.seq (.ops [.asg 5 (kI 0)]) (.block 0 aQo)) aX9))
theorem bTs:bR Try.prog 30=some (bOn,[.mv 0 4],18):=by kernel_rfl
def aYa (r:Bool):Exit→St→Prop:=bO [.mv 0 4] fun x _=>x=(fun y=>(vB y)) r
def bMv (r:Bool):Exit→St→Prop:=(bM (wkK (avc Try.prog aX9 (aYa r))) (aYa r))
def bHl (r:Bool):Exit→St→Prop:=(bP 0 (bMv r))
def bQu (p0:(List (List UInt8))) (p1:(List UInt8)) (x5:Int):St:=⟨[(0,(H8 p0)),(1,(vS p1)),(5,(vI x5))],[]⟩
abbrev aGa (p0:(List (List UInt8))) (p1:(List UInt8)) (x5:Int) (r:Bool):Prop:=avc Try.prog aQo (bHl r) (bQu p0 p1 x5)
def bLj:AC:=(.seq (.ops [.asg 2 (kB false)]) (.seq (.ops [.mv 3 0,.len 4 3,.bin 5 .gtr 4 (kI 1048576),.asg 2 5]) .ret))
theorem bM2:bR Try.prog 4=some (bLj,[.mv 0 2],6):=by kernel_rfl
def bXd (r:Bool):Exit→St→Prop:=bO [.mv 0 2] fun x _=>x=(fun y=>(vB y)) r
def aOr:AC:=(.seq (.ops [.ld 71 12 true 4,.st 12 2 71]) .ret)
def bHk:AC:=(.seq (.ops [.alc 2 aA4]) (.seq (.ops [.mv 5 0,.call (some 6) 19 [5],.asg 3 6]) (.seq (.ops [.mv 7 3,.mv 8 3,.mv 9 0,.call (some 10) 22 [9,(kI 3)],.call (some 11) 21 [8,10],.bin 12 .add (kI 1) 11,.call (some 13) 20 [7,12],.alc 4 aA4,.st 12 4 13]) (.seq (.seq (.ops [.mv 14 3,.call (some 15) 21 [14,(kI 14)]]) (.block 0 (.seq (.ops [.bin 17 .eql 15 (kI 0),.asg 16 17]) (.cond 16 (.ops [.mv 18 3,.call (some 19) 21 [18,(kI 7)],.bin 20 .sub 19 (kI 1),.fa 21 0 4,.st 1 21 20]) (.seq (.ops [.bin 23 .eql 15 (kI 1),.asg 22 23]) (.cond 22 (.ops [.mv 24 3,.call (some 25) 23 [24],.fa 26 7 4,.st 1 26 25]) (.seq (.ops [.bin 28 .eql 15 (kI 2),.asg 27 28]) (.cond 27 (.dops [[],[0],[],[],[3],[2,4,4],[5],[1,6,5],[0,1,2,3,4,5,6,7],[8,7,7,0,1,2,3,4,5,6,7]] [.fa 29 11 4,.ld 30 1 false 29,.mv 31 3,.mv 32 3,.call (some 33) 25 [32,(kI 1)],.call (some 34) 24 [31,33],.bsl 35 54 10 [34],.app 36 54 10 136 30 35,.fa 37 11 4,.st 1 37 36]) (.seq (.ops [.bin 39 .eql 15 (kI 3),.asg 38 39]) (.cond 38 (.dops [[],[0],[],[2],[3],[1,4,3],[0,1,2,3,4,5],[6,5,5,0,1,2,3,4,5]] [.fa 40 9 4,.ld 41 1 false 40,.mv 42 3,.call (some 43) 23 [42],.bsl 44 9 1 [43],.app 45 9 1 16 41 44,.fa 46 9 4,.st 1 46 45]) (.seq (.ops [.bin 48 .eql 15 (kI 4),.asg 47 48]) (.cond 47 (.ops [.fa 49 8 4,.ld 50 1 false 49,.bsl 51 54 10 [],.bsl 52 26 1 [51],.app 53 26 1 24 50 52,.fa 54 8 4,.st 1 54 53]) (.seq (.ops [.bin 56 .eql 15 (kI 5),.asg 55 56]) (.cond 55 (.ops [.mv 57 3,.call (some 58) 21 [57,(kI 4)],.bin 59 .sub 58 (kI 2),.fa 60 1 4,.fa 61 5 60,.st 1 61 59]) (.seq (.ops [.bin 63 .eql 15 (kI 6),.asg 62 63]) (.cond 62 (.dops [[],[0],[],[2],[3],[1,4,3],[0,1,2,3,4,5],[6,5,5,0,1,2,3,4,5]] [.fa 64 10 4,.ld 65 1 false 64,.mv 66 3,.call (some 67) 26 [66],.bsl 68 54 10 [67],.app 69 54 10 136 65 68,.fa 70 10 4,.st 1 70 69]) .skip)))))))))))))))) aOr))))
theorem bGz:bR Try.prog 9=some (bHk,[.ld 0 12 true 2],72):=by kernel_rfl
def bUt (r:bD):Exit→St→Prop:=bO [.ld 0 12 true 2] fun x _=>x=(fun y=>(kJ y)) r
def bU8 (y4:bD×aJ) (uB:Int) (tZ:Int) (sF:(List UInt8)) (uC:(List (List UInt8))) (tF:(List (List aA))) (uA:(List aA)) (uL:(List aA)):St:=⟨[(2,(.ptr 2 0)),(4,(.ptr 4 0))],[(2,[(vI 0),(vB false),(.nil 13),(.nil 3),(.nil 10),(.nil 11),(vI 0),(vS []),(.nil 1),(.nil 1),(.nil 10),(.nil 10)]),(4,[(vI uB),(vB y4.1.query.distinct),(.tre 60116000),(.tre 60116001),(.tre 60116002),(.tre 60116003),(vI tZ),(vS sF),(.tre 60116004),(.osl 300330009 9 1 (uC.map cStr)),(.tre 60116005),(.tre 60116006)]),(60116000,[(.trc 13 (y4.1.query.items.map fH))]),(60116001,[(.trc 3 (y4.1.query.from_.map gY))]),(60116002,[(.trc 10 (y4.1.query.where_.map aZ))]),(60116003,[(.trc 11 (y4.1.query.order.map iI))]),(60116004,[(.trc 1 (tF.map (cSl 10 aZ)))]),(60116005,[(.trc 10 (uA.map aZ))]),(60116006,[(.trc 10 (uL.map aZ))])]⟩
abbrev aSj (y4:bD×aJ) (uB:Int) (tZ:Int) (sF:(List UInt8)) (uC:(List (List UInt8))) (tF:(List (List aA))) (uA:(List aA)) (uL:(List aA)) (r:bD):Prop:=avc Try.prog aOr (bUt r) (bU8 y4 uB tZ sF uC tF uA uL)
def aPj:AC:=(.seq (.ops [.ld 81 10 true 3,.st 10 4 81]) .ret)
def bGr:AC:=(.seq (.ops [.box 3 54 1,.alc 4 yV]) (.seq (.seq (.ops [.fa 6 8 3,.ld 7 1 false 6,.len 8 7,.bin 9 .gtr 8 (kI 0),.mv 10 9,.g 10 true (.mv 11 0),.g 10 true (.call (some 12) 44 [11,(kI 2)]),.pick 13 10 12 (kB false)]) (.cond 13 (.seq (.ops [.mv 14 0,.fa 15 8 3,.ld 16 1 false 15,.len 17 16,.call (some 18) 21 [14,17],.asg 5 18]) (.seq (.dops [[],[0],[],[],[],[4],[],[5,6],[7],[3,8],[1,2,0,1,2,3,4,5,6,7,8,9],[10,9,9,0,1,2,3,4,5,6,7,8,9]] [.fa 19 8 3,.ld 20 1 false 19,.mv 21 5,.mv 22 0,.fa 23 8 3,.ld 24 1 false 23,.mv 25 5,.ia 26 10 24 25,.ld 27 10 true 26,.call (some 28) 24 [22,27],.ia 29 10 20 21,.st 10 29 28]) (.seq (.ops [.ld 30 10 true 3,.st 10 4 30]) .ret))) .skip)) (.seq (.seq (.ops [.mv 31 0,.call (some 32) 21 [31,(kI 8)]]) (.block 0 (.seq (.ops [.bin 40 .eql 32 (kI 0),.asg 39 40]) (.cond 39 (.ops [.mv 41 0,.call (some 42) 21 [41,(kI 12)],.bin 43 .sub 42 (kI 1),.fa 44 0 3,.st 1 44 43]) (.seq (.ops [.bin 46 .eql 32 (kI 1),.asg 45 46]) (.cond 45 (.ops [.mv 47 0,.bsl 48 3 1 [(kI 0),(kI 1),(kI 14),(kI 15),(kI 16),(kI 17),(kI (-1))],.call (some 49) 49 [47,48],.fa 50 1 3,.st 1 50 49]) (.seq (.ops [.bin 52 .eql 32 (kI 2),.asg 51 52]) (.cond 51 (.ops [.fa 53 2 3,.ld 54 1 false 53,.not 55 54,.fa 56 2 3,.st 1 56 55]) (.seq (.ops [.bin 58 .eql 32 (kI 3),.asg 57 58]) (.cond 57 (.ops [.mv 59 0,.call (some 60) 50 [59],.fa 61 3 3,.st 3 61 60]) (.seq (.ops [.bin 63 .eql 32 (kI 4),.asg 62 63]) (.cond 62 (.ops [.mv 64 0,.call (some 65) 23 [64],.fa 66 7 3,.st 1 66 65]) (.seq (.ops [.bin 68 .eql 32 (kI 5),.asg 67 68]) (.cond 67 (.ops [.mv 69 0,.call (some 70) 23 [69],.fa 71 6 3,.st 1 71 70]) (.seq (.ops [.bin 73 .eql 32 (kI 6),.asg 72 73]) (.cond 72 (.dops [[],[0],[],[2],[3],[1,4,3],[0,1,2,3,4,5],[6,5,5,0,1,2,3,4,5]] [.fa 74 8 3,.ld 75 1 false 74,.mv 76 0,.call (some 77) 51 [76],.bsl 78 54 10 [77],.app 79 54 10 136 75 78,.fa 80 8 3,.st 1 80 79]) (.ops [.fa 33 9 3,.ld 34 1 false 33,.bld 35 [fZ,(.nil 13),(.nil 3),(.nil 10),(.nil 11),bA] [],.bsl 36 29 6 [35],.app 37 29 6 112 34 36,.fa 38 9 3,.st 1 38 37]))))))))))))))))) aPj)))
theorem bV7:bR Try.prog 24=some (bGr,[.ld 0 10 true 4],82):=by kernel_rfl
def bH3 (r:aA×aJ):Exit→St→Prop:=bO [.ld 0 10 true 4] fun x b=>x=(fun (y:aA×aJ)=>(.agv [(vI y.1.kind),(vI y.1.op),(vB y.1.not_),(vI y.1.value.kind),(vI y.1.value.num),(vS y.1.value.text),(vS y.1.qual),(vS y.1.name),(.tre 10000008),(.tre 10000009)])) r∧bZ ((fun (y:aA×aJ)=>[(10000008,[(.trc 10 (y.1.kids.map aZ))]),(10000009,[(.trc 6 (y.1.sub.map eB))]),(1000000,bG y.2),(3001008,[.trd]),(3001009,[.trd])]) r) b
def bJ2 (eY:Int) (eG:Int) (eX:Bool) (gJ:Int) (gK:Int) (sS:(List UInt8)) (gD:(List UInt8)) (jO:(List UInt8)) (bC:(List Int)) (bJ:Int) (bS:Int) (uV:(List aA)) (vN:(List aQ)):St:=⟨[(3,(.ptr 3 0)),(4,(.ptr 4 0))],[(3,[(vI eY),(vI eG),(vB eX),(vI gJ),(vI gK),(vS sS),(vS gD),(vS jO),(.tre 60135000),(.tre 60135001)]),(4,[(vI 0),(vI 0),(vB false),(vI 0),(vI 0),(vS []),(vS []),(vS []),(.nil 10),(.nil 6)]),(1000000,bG (aJ.mk bC bJ bS)),(60135000,[(.trc 10 (uV.map aZ))]),(60135001,[(.trc 6 (vN.map eB))])]⟩
abbrev aSb (eY:Int) (eG:Int) (eX:Bool) (gJ:Int) (gK:Int) (sS:(List UInt8)) (gD:(List UInt8)) (jO:(List UInt8)) (bC:(List Int)) (bJ:Int) (bS:Int) (uV:(List aA)) (vN:(List aQ)) (r:aA×aJ):Prop:=avc Try.prog aPj (bH3 r) (bJ2 eY eG eX gJ gK sS gD jO bC bJ bS uV vN)
def bJ8:AC:=(.seq (.ops [.asg 2 (.c (.d (.s (bs []))))]) (.seq (.seq (.ops [.mv 3 0,.call (some 4) 21 [3,(kI 6)]]) (.block 0 (.seq (.ops [.bin 6 .eql 4 (kI 0),.asg 5 6]) (.cond 5 (.seq (.ops [.mv 7 0,.bsl 8 9 1 [(.c (.d (.s (bs [])))),(.c (.d (.s (bs [97,98,99,100,101,102,103,104,105,106,107,108,109,110,111,112,113,114,115,116])))),(.c (.d (.s (bs [97,98,99,100,101,102,103,104,105,106,107,108,109,110,111,112,113,114,115,116,117])))),(.c (.d (.s (bs [108,105,109,105,116])))),(.c (.d (.s (bs [76,73,77,73,84,83])))),(.c (.d (.s (bs [65,83,99])))),(.c (.d (.s (bs [57])))),(.c (.d (.s (bs [97,57])))),(.c (.d (.s (bs [195,169]))))],.call (some 9) 46 [7,8],.asg 2 9]) .ret) (.seq (.ops [.bin 11 .eql 4 (kI 1),.asg 10 11]) (.cond 10 (.seq (.ops [.call (some 12) 47 [],.mv 13 0,.call (some 14) 21 [13,(kI 29)],.ia 15 1 12 14,.ld 16 1 false 15,.asg 2 16]) .ret) (.seq (.ops [.bin 18 .eql 4 (kI 2),.asg 17 18]) (.cond 17 (.seq (.ops [.mv 19 0,.mv 20 0,.call (some 21) 21 [20,(kI 5)],.call (some 22) 48 [19,21],.cbs 23 22,.asg 2 23]) .ret) .skip)))))))) (.seq (.ops [.mv 24 0,.call (some 25) 42 [24],.asg 2 25]) .ret)))
theorem bE2:bR Try.prog 23=some (bJ8,[.mv 0 2],26):=by kernel_rfl
def bXp (r:(List UInt8)×aJ):Exit→St→Prop:=bO [.mv 0 2] fun x b=>x=(fun (y:(List UInt8)×aJ)=>(vS y.1)) r∧bZ ((fun (y:(List UInt8)×aJ)=>[(1000000,bG y.2)]) r) b
def aP3:AC:=(.loop (.seq (.seq (.ops [.mv 8 6,.mv 9 1,.bin 10 .lss 8 9]) (.cond 10 .skip (.exit 0))) (.seq (.block 1 (.ops [.mv 13 5,.mv 14 0,.call (some 15) 45 [14],.cvi 16 .u8 15,.bsl 17 5 1 [16],.app 18 5 1 1 13 17,.asg 5 18])) (.ops [.mv 11 6,.bin 12 .add 11 (kI 1),.asg 6 12]))))
def aUi:AC:=(.seq (.ops [.mv 19 5,.asg 4 19]) .ret)
def bT3:AC:=(.seq (.ops [.asg 4 (.c (.nil 1))]) (.seq (.ops [.bsl 7 5 1 [],.asg 5 7]) (.seq (.seq (.ops [.asg 6 (kI 0)]) (.block 0 aP3)) aUi)))
theorem bKw:bR Try.prog 48=some (bT3,[.mv 0 4],20):=by kernel_rfl
def aYb (r:(List Int)×aJ):Exit→St→Prop:=bO [.mv 0 4] fun x b=>x=(fun (y:(List Int)×aJ)=>(.osl 2000000 5 1 (y.1.map cU8))) r∧bZ ((fun (y:(List Int)×aJ)=>[(1000000,bG y.2)]) r) b
def bE4 (r:(List Int)×aJ):Exit→St→Prop:=(bM (wkK (avc Try.prog aUi (aYb r))) (aYb r))
def bOl (r:(List Int)×aJ):Exit→St→Prop:=(bP 0 (bE4 r))
def bWy (p1:Int) (x5:(List Int)) (x6:Int) (bC:(List Int)) (bJ:Int) (bS:Int):St:=⟨[(0,(.ptr 1000000 0)),(1,(vI p1)),(5,(.osl 5 5 1 (x5.map cU8))),(6,(vI x6))],[(1000000,bG (aJ.mk bC bJ bS))]⟩
abbrev aIm (p1:Int) (x5:(List Int)) (x6:Int) (bC:(List Int)) (bJ:Int) (bS:Int) (r:(List Int)×aJ):Prop:=avc Try.prog aP3 (bOl r) (bWy p1 x5 x6 bC bJ bS)
def aJx:AC:=(.seq (.ops [.mv 57 3,.asg 2 57]) .ret)
def bPn:AC:=(.seq (.ops [.asg 2 (kI 0)]) (.seq (.ops [.mv 4 0,.mv 5 0,.nck 6 5,.fa 7 2 6,.ld 8 1 false 7,.bin 9 .mul 8 (kI 6364136223846793005),.bin 10 .add 9 (kI 1442695040888963407),.nck 11 4,.fa 12 2 11,.st 1 12 10]) (.seq (.dops [[],[0],[1],[2],[3],[],[5],[6],[7],[8],[4,9],[10],[11,0,1,2,3,4,5,6,7,8,9,10,11]] [.mv 13 0,.nck 14 13,.fa 15 2 14,.ld 16 1 false 15,.bin 17 .shr 16 (.c (.d (.i .u64 33))),.mv 18 0,.nck 19 18,.fa 20 2 19,.ld 21 1 false 20,.bin 22 .shr 21 (.c (.d (.i .u64 45))),.bin 23 .xor 17 22,.bin 24 .and 23 (kI 255),.asg 3 24]) (.seq (.seq (.dops [[],[0],[1],[2],[],[4],[5],[6],[7],[3,8]] [.mv 25 0,.nck 26 25,.fa 27 1 26,.ld 28 1 false 27,.mv 29 0,.nck 30 29,.fa 31 0 30,.ld 32 1 false 31,.len 33 32,.bin 34 .lss 28 33]) (.cond 34 (.seq (.dops [[],[],[1],[2],[3],[],[5],[6],[7],[4,8],[9],[10],[0,11],[12],[13,0,1,2,3,4,5,6,7,8,9,10,11,12,13]] [.mv 35 3,.mv 36 0,.nck 37 36,.fa 38 0 37,.ld 39 1 false 38,.mv 40 0,.nck 41 40,.fa 42 1 41,.ld 43 1 false 42,.ia 44 1 39 43,.ld 45 1 false 44,.cvi 46 .i64 45,.bin 47 .add 35 46,.bin 48 .and 47 (kI 255),.asg 3 48]) (.ops [.mv 49 0,.mv 50 0,.nck 51 50,.fa 52 1 51,.ld 53 1 false 52,.bin 54 .add 53 (kI 1),.nck 55 49,.fa 56 1 55,.st 1 56 54])) .skip)) aJx))))
theorem bPj:bR Try.prog 45=some (bPn,[.mv 0 2],58):=by kernel_rfl
def bV0 (r:Int×aJ):Exit→St→Prop:=bO [.mv 0 2] fun x b=>x=(fun (y:Int×aJ)=>(vI y.1)) r∧bZ ((fun (y:Int×aJ)=>[(1000000,bG y.2)]) r) b
def bSo (p0:aJ) (x3:Int) (bJ:Int):St:=⟨[(3,(vI x3))],[(1000000,bG (aJ.mk p0.b bJ (IntKind.wrap .i64 ((IntKind.wrap .i64 (p0.h * 6364136223846793005))+1442695040888963407))))]⟩
abbrev aXt (p0:aJ) (x3:Int) (bJ:Int) (r:Int×aJ):Prop:=avc Try.prog aJx (bV0 r) (bSo p0 x3 bJ)
def bKs:AC:=(.seq (.ops [.asg 4 (.c (.d (.s (bs []))))]) (.seq (.ops [.mv 5 1,.mv 6 0,.mv 7 1,.len 8 7,.call (some 9) 21 [6,8],.ia 10 1 5 9,.ld 11 1 false 10,.asg 4 11]) .ret))
theorem bHf:bR Try.prog 46=some (bKs,[.mv 0 4],12):=by kernel_rfl
def bY4 (r:(List UInt8)×aJ):Exit→St→Prop:=bO [.mv 0 4] fun x b=>x=(fun (y:(List UInt8)×aJ)=>(vS y.1)) r∧bZ ((fun (y:(List UInt8)×aJ)=>[(1000000,bG y.2)]) r) b
def bT0:AC:=(.seq (.ops [.asg 4 (kI 0)]) (.seq (.seq (.ops [.mv 9 1,.bin 10 .leq 9 (kI 0)]) (.cond 10 (.seq (.ops [.asg 4 (kI 0)]) .ret) .skip)) (.seq (.seq (.ops [.mv 11 1,.bin 12 .leq 11 (kI 256)]) (.cond 12 (.seq (.ops [.mv 13 0,.call (some 14) 45 [13],.mv 15 1,.bin 16 .rem 14 15,.asg 4 16]) .ret) .skip)) (.seq (.ops [.mv 17 0,.call (some 18) 45 [17],.asg 5 18]) (.seq (.ops [.mv 19 0,.call (some 20) 45 [19],.asg 6 20]) (.seq (.ops [.mv 21 0,.call (some 22) 45 [21],.asg 7 22]) (.seq (.ops [.mv 23 0,.call (some 24) 45 [23],.asg 8 24]) (.seq (.ops [.mv 25 5,.bin 26 .mul 25 (kI 16777216),.mv 27 6,.bin 28 .mul 27 (kI 65536),.bin 29 .add 26 28,.mv 30 7,.bin 31 .mul 30 (kI 256),.bin 32 .add 29 31,.mv 33 8,.bin 34 .add 32 33,.mv 35 1,.bin 36 .rem 34 35,.asg 4 36]) .ret))))))))
theorem bVo:bR Try.prog 21=some (bT0,[.mv 0 4],37):=by kernel_rfl
def bXz (r:Int×aJ):Exit→St→Prop:=bO [.mv 0 4] fun x b=>x=(fun (y:Int×aJ)=>(vI y.1)) r∧bZ ((fun (y:Int×aJ)=>[(1000000,bG y.2)]) r) b
def bLp:AC:=(.seq (.ops [.asg 2 (.c (.d (.s (bs []))))]) (.seq (.seq (.ops [.mv 3 0,.call (some 4) 44 [3,(kI 6)]]) (.cond 4 (.seq (.ops [.mv 5 0,.bsl 6 9 1 [(.c (.d (.s (bs [97,32,98])))),(.c (.d (.s (bs [102,114,111,109])))),(.c (.d (.s (bs [83,101,108,101,99,116])))),(.c (.d (.s (bs [49,120])))),(.c (.d (.s (bs [113,34,113])))),(.c (.d (.s (bs [0])))),(.c (.d (.s (bs [34])))),(.c (.d (.s (bs [105,116,39,115])))),(.c (.d (.s (bs [120,46,121])))),(.c (.d (.s (bs [45]))))],.call (some 7) 46 [5,6],.asg 2 7]) .ret) .skip)) (.seq (.ops [.mv 8 0,.bsl 9 9 1 [(.c (.d (.s (bs [97])))),(.c (.d (.s (bs [98])))),(.c (.d (.s (bs [99])))),(.c (.d (.s (bs [116])))),(.c (.d (.s (bs [117])))),(.c (.d (.s (bs [118])))),(.c (.d (.s (bs [105,100])))),(.c (.d (.s (bs [110,97,109,101])))),(.c (.d (.s (bs [65])))),(.c (.d (.s (bs [95,120,49]))))],.call (some 10) 46 [8,9],.asg 2 10]) .ret)))
theorem bF8:bR Try.prog 42=some (bLp,[.mv 0 2],11):=by kernel_rfl
def bZj (r:(List UInt8)×aJ):Exit→St→Prop:=bO [.mv 0 2] fun x b=>x=(fun (y:(List UInt8)×aJ)=>(vS y.1)) r∧bZ ((fun (y:(List UInt8)×aJ)=>[(1000000,bG y.2)]) r) b
def bDo:AC:=(.seq (.ops [.asg 4 (kB false)]) (.seq (.ops [.mv 5 0,.mv 6 1,.call (some 7) 21 [5,6],.bin 8 .eql 7 (kI 0),.asg 4 8]) .ret))
theorem bFw:bR Try.prog 44=some (bDo,[.mv 0 4],9):=by kernel_rfl
def bXe (r:Bool×aJ):Exit→St→Prop:=bO [.mv 0 4] fun x b=>x=(fun (y:Bool×aJ)=>(vB y.1)) r∧bZ ((fun (y:Bool×aJ)=>[(1000000,bG y.2)]) r) b
def aEo:AC:=(.seq (.ops [.ld 40 3 true 3,.st 3 2 40]) .ret)
def aNv:AC:=(.loop (.seq (.seq (.ops [.mv 25 0,.call (some 26) 44 [25,(kI 2)],.mv 27 26,.g 27 true (.fa 28 2 3),.g 27 true (.ld 29 1 false 28),.g 27 true (.lns 30 29),.g 27 true (.bin 31 .lss 30 (kI 400)),.pick 32 27 31 (kB false)]) (.cond 32 .skip (.exit 1))) (.block 2 (.ops [.fa 33 2 3,.ld 34 1 false 33,.fa 35 2 3,.ld 36 1 false 35,.bin 37 .add 34 36,.bin 38 .add 37 (.c (.d (.s (bs [48,49,50,51,52,53,54,55,56,57])))),.fa 39 2 3,.st 1 39 38]))))
def bVc:AC:=(.seq (.ops [.alc 2 [bA,bA,bL]]) (.seq (.ops [.mv 4 0,.call (some 5) 71 [4],.alc 3 [bA,bA,bL],.st 3 3 5]) (.seq (.seq (.ops [.mv 6 0,.call (some 7) 21 [6,(kI 14)]]) (.block 0 (.seq (.ops [.bin 9 .eql 7 (kI 0),.asg 8 9]) (.cond 8 (.ops [.mv 10 0,.call (some 11) 21 [10,(kI 6)],.bin 12 .sub 11 (kI 1),.fa 13 0 3,.st 1 13 12]) (.seq (.ops [.bin 15 .eql 7 (kI 1),.asg 14 15]) (.cond 14 (.ops [.mv 16 0,.call (some 17) 72 [16],.fa 18 1 3,.st 1 18 17]) (.seq (.ops [.bin 20 .eql 7 (kI 2),.asg 19 20]) (.cond 19 (.seq (.ops [.mv 21 0,.bsl 22 9 1 [(.c (.d (.s (bs [120])))),(.c (.d (.s (bs [])))),(.c (.d (.s (bs [108,111,110,103]))))],.call (some 23) 46 [21,22],.fa 24 2 3,.st 1 24 23]) (.block 1 aNv)) .skip)))))))) aEo)))
theorem bVr:bR Try.prog 50=some (bVc,[.ld 0 3 true 2],41):=by kernel_rfl
def aO4 (r:bN×aJ):Exit→St→Prop:=bO [.ld 0 3 true 2] fun x b=>x=(fun (y:bN×aJ)=>(nK y.1)) r∧bZ ((fun (y:bN×aJ)=>[(1000000,bG y.2)]) r) b
def bEs (r:bN×aJ):Exit→St→Prop:=(bM (wkK (avc Try.prog aEo (aO4 r))) (aO4 r))
def bFr (r:bN×aJ):Exit→St→Prop:=(bP 0 (bEs r))
def bL2 (r:bN×aJ):Exit→St→Prop:=(bP 1 (bFr r))
def bMn (eY:Int) (eG:Int) (eX:(List UInt8)) (bC:(List Int)) (bJ:Int) (bS:Int):St:=⟨[(2,(.ptr 2 0)),(3,(.ptr 3 0))],[(2,[(vI 0),(vI 0),(vS [])]),(3,aQm (bN.mk eY eG eX)),(1000000,bG (aJ.mk bC bJ bS))]⟩
abbrev aXm (eY:Int) (eG:Int) (eX:(List UInt8)) (bC:(List Int)) (bJ:Int) (bS:Int) (r:bN×aJ):Prop:=avc Try.prog aEo (aO4 r) (bMn eY eG eX bC bJ bS)
def bBk (y1:bN×aJ) (jS:(List UInt8)) (nH:(List Int)) (nU:Int) (nI:Int):St:=⟨[(0,(.ptr 1000000 0)),(2,(.ptr 2 0)),(3,(.ptr 3 0))],[(2,[(vI 0),(vI 0),(vS [])]),(3,aQm (bN.mk y1.1.kind y1.1.num jS)),(1000000,bG (aJ.mk nH nU nI))]⟩
abbrev aDk (y1:bN×aJ) (jS:(List UInt8)) (nH:(List Int)) (nU:Int) (nI:Int) (r:bN×aJ):Prop:=avc Try.prog aNv (bL2 r) (bBk y1 jS nH nU nI)
def bSk:AC:=(.seq (.ops [.asg 2 (kI 0)]) (.seq (.seq (.ops [.mv 3 0,.call (some 4) 21 [3,(kI 3)]]) (.block 0 (.seq (.ops [.bin 6 .eql 4 (kI 0),.asg 5 6]) (.cond 5 (.seq (.ops [.mv 7 0,.bsl 8 3 1 [(kI 0),(kI 1),(kI (-1)),(kI 63),(kI 64),(kI (-64)),(kI (-65)),(kI 127),(kI 128),(kI 16383),(kI 16384),(kI 9223372036854775807),(kI (-9223372036854775808)),(kI 4611686018427387904)],.call (some 9) 49 [7,8],.asg 2 9]) .ret) (.seq (.ops [.bin 11 .eql 4 (kI 1),.asg 10 11]) (.cond 10 (.seq (.ops [.mv 12 0,.call (some 13) 21 [12,(kI 1000000)],.bin 14 .sub 13 (kI 500000),.asg 2 14]) .ret) .skip)))))) (.seq (.ops [.mv 15 0,.call (some 16) 21 [15,(kI 20)],.asg 2 16]) .ret)))
theorem bKv:bR Try.prog 72=some (bSk,[.mv 0 2],17):=by kernel_rfl
def bXg (r:Int×aJ):Exit→St→Prop:=bO [.mv 0 2] fun x b=>x=(fun (y:Int×aJ)=>(vI y.1)) r∧bZ ((fun (y:Int×aJ)=>[(1000000,bG y.2)]) r) b
def bL9:AC:=(.seq (.ops [.asg 4 (kI 0)]) (.seq (.ops [.mv 5 1,.mv 6 0,.mv 7 1,.len 8 7,.call (some 9) 21 [6,8],.ia 10 1 5 9,.ld 11 1 false 10,.asg 4 11]) .ret))
theorem bV6:bR Try.prog 49=some (bL9,[.mv 0 4],12):=by kernel_rfl
def bXm (r:Int×aJ):Exit→St→Prop:=bO [.mv 0 4] fun x b=>x=(fun (y:Int×aJ)=>(vI y.1)) r∧bZ ((fun (y:Int×aJ)=>[(1000000,bG y.2)]) r) b
def bJh:AC:=(.seq (.ops [.alc 2 [bA,bA,bL]]) (.seq (.seq (.ops [.mv 3 0,.call (some 4) 21 [3,(kI 6)]]) (.block 0 (.seq (.ops [.bin 6 .eql 4 (kI 0),.asg 5 6]) (.cond 5 (.seq (.ops [.bld 7 [bA,bA,bL] [],.st 3 2 7]) .ret) (.seq (.ops [.bin 9 .eql 4 (kI 1),.asg 8 9]) (.cond 8 (.seq (.ops [.mv 10 0,.bsl 11 9 1 [(.c (.d (.s (bs [])))),(.c (.d (.s (bs [97])))),(.c (.d (.s (bs [98])))),(.c (.d (.s (bs [105,116,39,115])))),(.c (.d (.s (bs [97,98])))),(.c (.d (.s (bs [255]))))],.call (some 12) 46 [10,11],.call (some 13) 83 [12],.st 3 2 13]) .ret) (.seq (.ops [.bin 15 .eql 4 (kI 2),.asg 14 15]) (.cond 14 (.seq (.ops [.mv 16 0,.call (some 17) 44 [16,(kI 2)],.call (some 18) 84 [17],.st 3 2 18]) .ret) (.seq (.ops [.bin 20 .eql 4 (kI 3),.asg 19 20]) (.cond 19 (.seq (.ops [.mv 21 0,.call (some 22) 72 [21],.call (some 23) 85 [22],.st 3 2 23]) .ret) .skip)))))))))) (.seq (.ops [.mv 24 0,.call (some 25) 21 [24,(kI 7)],.bin 26 .sub 25 (kI 2),.call (some 27) 85 [26],.st 3 2 27]) .ret)))
theorem bDn:bR Try.prog 71=some (bJh,[.ld 0 3 true 2],28):=by kernel_rfl
def bYp (r:bN×aJ):Exit→St→Prop:=bO [.ld 0 3 true 2] fun x b=>x=(fun (y:bN×aJ)=>(nK y.1)) r∧bZ ((fun (y:bN×aJ)=>[(1000000,bG y.2)]) r) b
def bCs:AC:=(.seq (.ops [.alc 2 [bA,bA,bL]]) (.seq (.ops [.mv 3 0,.bld 4 [bA,bA,bL] [(0,1,(kI 1)),(1,1,3)],.st 3 2 4]) .ret))
theorem bEw:bR Try.prog 85=some (bCs,[.ld 0 3 true 2],5):=by kernel_rfl
def bZz (r:bN):Exit→St→Prop:=bO [.ld 0 3 true 2] fun x _=>x=(fun y=>(nK y)) r
def bQ9:AC:=(.seq (.ops [.alc 2 [bA,bA,bL]]) (.seq (.seq (.ops [.mv 3 0]) (.cond 3 (.seq (.ops [.bld 4 [bA,bA,bL] [(0,1,(kI 3)),(1,1,(kI 1))],.st 3 2 4]) .ret) .skip)) (.seq (.ops [.bld 5 [bA,bA,bL] [(0,1,(kI 3))],.st 3 2 5]) .ret)))
theorem bQ2:bR Try.prog 84=some (bQ9,[.ld 0 3 true 2],6):=by kernel_rfl
def cA8 (r:bN):Exit→St→Prop:=bO [.ld 0 3 true 2] fun x _=>x=(fun y=>(nK y)) r
def bO5:AC:=(.seq (.ops [.alc 2 [bA,bA,bL]]) (.seq (.ops [.mv 3 0,.bld 4 [bA,bA,bL] [(0,1,(kI 2)),(2,1,3)],.st 3 2 4]) .ret))
theorem bU0:bR Try.prog 83=some (bO5,[.ld 0 3 true 2],5):=by kernel_rfl
def bXw (r:bN):Exit→St→Prop:=bO [.ld 0 3 true 2] fun x _=>x=(fun y=>(nK y)) r
def aQc:AC:=(.seq (.ops [.ld 19 10 true 3,.st 10 2 19]) .ret)
def aMd:AC:=(.seq (.seq (.ops [.mv 14 0,.call (some 15) 44 [14,(kI 12)]]) (.cond 15 (.ops [.mv 16 0,.call (some 17) 42 [16],.fa 18 7 3,.st 1 18 17]) .skip)) aQc)
def bC0:AC:=(.seq (.ops [.alc 2 yV]) (.seq (.ops [.mv 4 0,.bsl 5 9 1 [(.c (.d (.s (bs [97])))),(.c (.d (.s (bs [98])))),(.c (.d (.s (bs [99])))),(.c (.d (.s (bs [105,100])))),(.c (.d (.s (bs [110,97,109,101]))))],.call (some 6) 46 [4,5],.bld 7 [bA,bA,fZ,bA,bA,bL,bL,bL,(.nil 10),(.nil 6)] [(0,1,(kI 2)),(7,1,6)],.alc 3 yV,.st 10 3 7]) (.seq (.seq (.ops [.mv 8 0,.call (some 9) 44 [8,(kI 3)]]) (.cond 9 (.ops [.mv 10 0,.bsl 11 9 1 [(.c (.d (.s (bs [116])))),(.c (.d (.s (bs [117])))),(.c (.d (.s (bs [118]))))],.call (some 12) 46 [10,11],.fa 13 6 3,.st 1 13 12]) .skip)) aMd)))
theorem bM6:bR Try.prog 51=some (bC0,[.ld 0 10 true 2],20):=by kernel_rfl
def aRh (r:aA×aJ):Exit→St→Prop:=bO [.ld 0 10 true 2] fun x b=>x=(fun (y:aA×aJ)=>(.agv [(vI y.1.kind),(vI y.1.op),(vB y.1.not_),(vI y.1.value.kind),(vI y.1.value.num),(vS y.1.value.text),(vS y.1.qual),(vS y.1.name),(.tre 10000008),(.tre 10000009)])) r∧bZ ((fun (y:aA×aJ)=>[(10000008,[(.trc 10 (y.1.kids.map aZ))]),(10000009,[(.trc 6 (y.1.sub.map eB))]),(1000000,bG y.2)]) r) b
def bKp (y1:(List UInt8)×aJ) (gD:(List UInt8)) (bC:(List Int)) (bJ:Int) (bS:Int):St:=⟨[(0,(.ptr 1000000 0)),(2,(.ptr 2 0)),(3,(.ptr 3 0))],[(2,[(vI 0),(vI 0),(vB false),(vI 0),(vI 0),(vS []),(vS []),(vS []),(.nil 10),(.nil 6)]),(3,[(vI 2),(vI 0),(vB false),(vI 0),(vI 0),(vS []),(vS gD),(vS y1.1),(.nil 10),(.nil 6)]),(1000000,bG (aJ.mk bC bJ bS))]⟩
abbrev bB7 (y1:(List UInt8)×aJ) (gD:(List UInt8)) (bC:(List Int)) (bJ:Int) (bS:Int) (r:aA×aJ):Prop:=avc Try.prog aMd (aRh r) (bKp y1 gD bC bJ bS)
def bEf (gD:(List UInt8)) (jO:(List UInt8)) (tK:(List Int)) (tY:Int) (uD:Int):St:=⟨[(2,(.ptr 2 0)),(3,(.ptr 3 0))],[(2,[(vI 0),(vI 0),(vB false),(vI 0),(vI 0),(vS []),(vS []),(vS []),(.nil 10),(.nil 6)]),(3,[(vI 2),(vI 0),(vB false),(vI 0),(vI 0),(vS []),(vS gD),(vS jO),(.nil 10),(.nil 6)]),(1000000,bG (aJ.mk tK tY uD))]⟩
abbrev aVp (gD:(List UInt8)) (jO:(List UInt8)) (tK:(List Int)) (tY:Int) (uD:Int) (r:aA×aJ):Prop:=avc Try.prog aQc (aRh r) (bEf gD jO tK tY uD)
def bJx:AC:=(.seq (.ops [.asg 4 (kI 0)]) (.seq (.ops [.mv 6 0,.len 7 6,.bin 8 .quo 7 (kI 20),.bin 9 .add (kI 2) 8,.asg 5 9]) (.seq (.seq (.ops [.mv 10 5,.mv 11 1,.bin 12 .gtr 10 11]) (.cond 12 (.seq (.ops [.mv 13 1,.asg 4 13]) .ret) .skip)) (.seq (.ops [.mv 14 5,.asg 4 14]) .ret))))
theorem bSi:bR Try.prog 22=some (bJx,[.mv 0 4],15):=by kernel_rfl
def bZm (r:Int):Exit→St→Prop:=bO [.mv 0 4] fun x _=>x=(fun y=>(vI y)) r
def aOx:AC:=(.seq (.ops [.mv 84 0,.call (some 85) 21 [84,(kI 14)],.bin 86 .add (kI 1) 85,.mv 87 0,.mv 88 1,.call (some 89) 41 [87,88,(kI 2)],.bld 90 [bA,bA,fZ,bA,bA,bL,bL,bL,(.nil 10),(.nil 6)] [(0,1,(kI 4)),(1,1,86),(8,1,89)],.st 10 4 90]) .ret)
def bWh:AC:=(.seq (.ops [.alc 4 yV]) (.seq (.seq (.ops [.mv 5 1,.bin 6 .leq 5 (kI 0),.mv 7 6,.g 7 false (.mv 8 0),.g 7 false (.call (some 9) 44 [8,(kI 5)]),.pick 10 7 (kB true) 9]) (.cond 10 (.seq (.seq (.ops [.mv 11 0,.call (some 12) 44 [11,(kI 2)]]) (.cond 12 (.seq (.ops [.mv 13 0,.call (some 14) 51 [13],.st 10 4 14]) .ret) .skip)) (.seq (.ops [.mv 15 0,.call (some 16) 52 [15],.bld 17 [bA,bA,fZ,bA,bA,bL,bL,bL,(.nil 10),(.nil 6)] [(0,1,(kI 1)),(3,3,16)],.st 10 4 17]) .ret)) .skip)) (.seq (.seq (.ops [.mv 18 0,.call (some 19) 21 [18,(kI 12)]]) (.block 0 (.seq (.ops [.bin 21 .eql 19 (kI 0),.asg 20 21]) (.cond 20 (.seq (.ops [.mv 22 0,.mv 23 1,.call (some 24) 41 [22,23,(kI 1)],.bld 25 [bA,bA,fZ,bA,bA,bL,bL,bL,(.nil 10),(.nil 6)] [(0,1,(kI 3)),(1,1,(kI 15)),(8,1,24)],.st 10 4 25]) .ret) (.seq (.ops [.bin 27 .eql 19 (kI 1),.asg 26 27]) (.cond 26 (.seq (.ops [.mv 28 0,.mv 29 1,.call (some 30) 41 [28,29,(kI 1)],.bld 31 [bA,bA,fZ,bA,bA,bL,bL,bL,(.nil 10),(.nil 6)] [(0,1,(kI 3)),(1,1,(kI 16)),(8,1,30)],.st 10 4 31]) .ret) (.seq (.ops [.bin 33 .eql 19 (kI 2),.asg 32 33]) (.cond 32 (.seq (.ops [.mv 34 0,.call (some 35) 44 [34,(kI 2)],.mv 36 0,.mv 37 1,.call (some 38) 41 [36,37,(kI 1)],.bld 39 [bA,bA,fZ,bA,bA,bL,bL,bL,(.nil 10),(.nil 6)] [(0,1,(kI 5)),(2,1,35),(8,1,38)],.st 10 4 39]) .ret) (.seq (.ops [.bin 41 .eql 19 (kI 3),.asg 40 41]) (.cond 40 (.seq (.ops [.mv 42 0,.call (some 43) 44 [42,(kI 2)],.mv 44 0,.mv 45 1,.call (some 46) 41 [44,45,(kI 3)],.bld 47 [bA,bA,fZ,bA,bA,bL,bL,bL,(.nil 10),(.nil 6)] [(0,1,(kI 6)),(2,1,43),(8,1,46)],.st 10 4 47]) .ret) (.seq (.ops [.bin 49 .eql 19 (kI 4),.asg 48 49]) (.cond 48 (.seq (.ops [.mv 50 0,.call (some 51) 44 [50,(kI 2)],.mv 52 0,.mv 53 1,.mv 54 0,.call (some 55) 21 [54,(kI 2)],.bin 56 .add (kI 2) 55,.call (some 57) 41 [52,53,56],.bld 58 [bA,bA,fZ,bA,bA,bL,bL,bL,(.nil 10),(.nil 6)] [(0,1,(kI 7)),(2,1,51),(8,1,57)],.st 10 4 58]) .ret) (.seq (.ops [.bin 60 .eql 19 (kI 5),.asg 59 60]) (.cond 59 (.seq (.ops [.mv 61 1,.bin 62 .gtr 61 (kI 1)]) (.cond 62 (.seq (.ops [.mv 63 0,.call (some 64) 44 [63,(kI 2)],.mv 65 0,.mv 66 1,.call (some 67) 41 [65,66,(kI 1)],.mv 68 0,.mv 69 1,.bin 70 .sub 69 (kI 2),.call (some 71) 43 [68,70],.bsl 72 29 6 [71],.bld 73 [bA,bA,fZ,bA,bA,bL,bL,bL,(.nil 10),(.nil 6)] [(0,1,(kI 8)),(2,1,64),(8,1,67),(9,1,72)],.st 10 4 73]) .ret) .skip)) (.seq (.ops [.bin 75 .eql 19 (kI 6),.asg 74 75]) (.cond 74 (.seq (.ops [.mv 76 1,.bin 77 .gtr 76 (kI 1)]) (.cond 77 (.seq (.ops [.mv 78 0,.mv 79 1,.bin 80 .sub 79 (kI 2),.call (some 81) 43 [78,80],.bsl 82 29 6 [81],.bld 83 [bA,bA,fZ,bA,bA,bL,bL,bL,(.nil 10),(.nil 6)] [(0,1,(kI 9)),(9,1,82)],.st 10 4 83]) .ret) .skip)) .skip)))))))))))))))) aOx)))
theorem bN6:bR Try.prog 25=some (bWh,[.ld 0 10 true 4],91):=by kernel_rfl
def bCz (r:aA×aJ):Exit→St→Prop:=bO [.ld 0 10 true 4] fun x b=>x=(fun (y:aA×aJ)=>(.agv [(vI y.1.kind),(vI y.1.op),(vB y.1.not_),(vI y.1.value.kind),(vI y.1.value.num),(vS y.1.value.text),(vS y.1.qual),(vS y.1.name),(.tre 10000008),(.tre 10000009)])) r∧bZ ((fun (y:aA×aJ)=>[(10000008,[(.trc 10 (y.1.kids.map aZ))]),(10000009,[(.trc 6 (y.1.sub.map eB))]),(1000000,bG y.2)]) r) b
def bHy (p1:Int) (y6:Int×aJ):St:=⟨[(0,(.ptr 1000000 0)),(1,(vI p1)),(4,(.ptr 4 0))],[(4,[(vI 0),(vI 0),(vB false),(vI 0),(vI 0),(vS []),(vS []),(vS []),(.nil 10),(.nil 6)]),(1000000,bG y6.2)]⟩
abbrev aGt (p1:Int) (y6:Int×aJ) (r:aA×aJ):Prop:=avc Try.prog aOx (bCz r) (bHy p1 y6)
def aLo:AC:=(.loop (.seq (.seq (.ops [.mv 10 8,.mv 11 2,.bin 12 .lss 10 11]) (.cond 12 .skip (.exit 0))) (.seq (.block 1 (.ops [.mv 15 7,.mv 16 0,.mv 17 1,.bin 18 .sub 17 (kI 1),.call (some 19) 25 [16,18],.bsl 20 54 10 [19],.app 21 54 10 136 15 20,.asg 7 21])) (.ops [.mv 13 8,.bin 14 .add 13 (kI 1),.asg 8 14]))))
def aSd:AC:=(.seq (.ops [.mv 22 7,.asg 6 22]) .ret)
def bDe:AC:=(.seq (.ops [.asg 6 (.c (.nil 10))]) (.seq (.ops [.bsl 9 54 10 [],.asg 7 9]) (.seq (.seq (.ops [.asg 8 (kI 0)]) (.block 0 aLo)) aSd)))
theorem bLl:bR Try.prog 41=some (bDe,[.mv 0 6],23):=by kernel_rfl
def aZ9 (r:(List aA)×aJ):Exit→St→Prop:=bO [.mv 0 6] fun x b=>x=(fun (y:(List aA)×aJ)=>(.tre 10000000)) r∧bZ ((fun (y:(List aA)×aJ)=>[(10000000,[(.trc 10 (y.1.map aZ))]),(1000000,bG y.2)]) r) b
def bFg (r:(List aA)×aJ):Exit→St→Prop:=(bM (wkK (avc Try.prog aSd (aZ9 r))) (aZ9 r))
def bRg (r:(List aA)×aJ):Exit→St→Prop:=(bP 0 (bFg r))
def bO3 (p1:Int) (p2:Int) (x8:Int) (bC:(List Int)) (bJ:Int) (bS:Int) (kU:(List aA)):St:=⟨[(0,(.ptr 1000000 0)),(1,(vI p1)),(2,(vI p2)),(7,(.tre 60012000)),(8,(vI x8))],[(1000000,bG (aJ.mk bC bJ bS)),(60012000,[(.trc 10 (kU.map aZ))])]⟩
abbrev aIz (p1:Int) (p2:Int) (x8:Int) (bC:(List Int)) (bJ:Int) (bS:Int) (kU:(List aA)) (r:(List aA)×aJ):Prop:=avc Try.prog aLo (bRg r) (bO3 p1 p2 x8 bC bJ bS kU)
def aOz:AC:=(.seq (.ops [.ld 15 3 true 3,.st 3 2 15]) .ret)
def bDa:AC:=(.seq (.ops [.alc 2 [bA,bA,bL]]) (.seq (.ops [.mv 4 0,.call (some 5) 71 [4],.alc 3 [bA,bA,bL],.st 3 3 5]) (.seq (.seq (.ops [.fa 6 0 3,.ld 7 1 false 6,.bin 8 .eql 7 (kI 1),.mv 9 8,.g 9 true (.fa 10 1 3),.g 9 true (.ld 11 1 false 10),.g 9 true (.bin 12 .lss 11 (kI 0)),.pick 13 9 12 (kB false)]) (.cond 13 (.ops [.fa 14 1 3,.st 1 14 (kI 9223372036854775807)]) .skip)) aOz)))
theorem bU2:bR Try.prog 52=some (bDa,[.ld 0 3 true 2],16):=by kernel_rfl
def bMy (r:bN×aJ):Exit→St→Prop:=bO [.ld 0 3 true 2] fun x b=>x=(fun (y:bN×aJ)=>(nK y.1)) r∧bZ ((fun (y:bN×aJ)=>[(1000000,bG y.2)]) r) b
def bH8 (y1:bN×aJ) (eG:Int):St:=⟨[(2,(.ptr 2 0)),(3,(.ptr 3 0))],[(2,[(vI 0),(vI 0),(vS [])]),(3,aQm (bN.mk y1.1.kind eG y1.1.text)),(1000000,bG y1.2)]⟩
abbrev aU6 (y1:bN×aJ) (eG:Int) (r:bN×aJ):Prop:=avc Try.prog aOz (bMy r) (bH8 y1 eG)
def aD3:AC:=(.ops [.mv 20 7,.bin 21 .add 20 (kI 1),.asg 7 21])
def aOm:AC:=(.ops [.fa 33 1 5,.ld 34 1 false 33,.ld 35 13 true 8,.bsl 36 91 13 [35],.app 37 91 13 176 34 36,.fa 38 1 5,.st 1 38 37])
def aDg:AC:=(.loop (.seq (.seq (.ops [.mv 17 7,.mv 18 6,.bin 19 .lss 17 18]) (.cond 19 .skip (.exit 0))) (.seq (.block 1 (.seq (.ops [.mv 22 0,.call (some 23) 21 [22,(kI 5)]]) (.block 2 (.seq (.ops [.bin 40 .eql 23 (kI 0),.asg 39 40]) (.cond 39 (.ops [.fa 41 1 5,.ld 42 1 false 41,.bld 43 [fZ,bL,bA,bA,fZ,bA,bA,bL,bL,bL,(.nil 10),(.nil 6),bL] [(0,1,(kB true))],.bsl 44 91 13 [43],.app 45 91 13 176 42 44,.fa 46 1 5,.st 1 46 45]) (.seq (.ops [.bin 48 .eql 23 (kI 1),.asg 47 48]) (.cond 47 (.dops [[],[0],[],[],[2,3],[4],[5],[1,6,4],[0,1,2,3,4,5,6,7],[8,7,7,0,1,2,3,4,5,6,7]] [.fa 49 1 5,.ld 50 1 false 49,.mv 51 0,.bsl 52 9 1 [(.c (.d (.s (bs [116])))),(.c (.d (.s (bs [117]))))],.call (some 53) 46 [51,52],.bld 54 [fZ,bL,bA,bA,fZ,bA,bA,bL,bL,bL,(.nil 10),(.nil 6),bL] [(0,1,(kB true)),(1,1,53)],.bsl 55 91 13 [54],.app 56 91 13 176 50 55,.fa 57 1 5,.st 1 57 56]) (.seq (.ops [.mv 24 0,.mv 25 1,.call (some 26) 25 [24,25],.bld 27 [fZ,bL,bA,bA,fZ,bA,bA,bL,bL,bL,(.nil 10),(.nil 6),bL] [(2,10,26)],.alc 8 aBv,.st 13 8 27]) (.seq (.seq (.ops [.mv 28 0,.call (some 29) 44 [28,(kI 2)]]) (.cond 29 (.ops [.mv 30 0,.call (some 31) 42 [30],.fa 32 12 8,.st 1 32 31]) .skip)) aOm))))))))) aD3)))
def aQt:AC:=(.ops [.fa 86 2 5,.ld 87 1 false 86,.ld 88 3 true 10,.bsl 89 68 3 [88],.app 90 68 3 56 87 89,.fa 91 2 5,.st 1 91 90])
def aOa:AC:=(.seq (.seq (.ops [.mv 75 9,.bin 76 .gtr 75 (kI 0),.mv 77 76,.g 77 true (.mv 78 0),.g 77 true (.call (some 79) 44 [78,(kI 2)]),.pick 80 77 79 (kB false)]) (.cond 80 (.ops [.mv 81 0,.mv 82 1,.call (some 83) 25 [81,82],.bsl 84 54 10 [83],.fa 85 2 10,.st 1 85 84]) .skip)) aQt)
def aU2:AC:=(.ops [.mv 64 9,.bin 65 .add 64 (kI 1),.asg 9 65])
def aD8:AC:=(.loop (.seq (.seq (.ops [.mv 61 9,.mv 62 6,.bin 63 .lss 61 62]) (.cond 63 .skip (.exit 3))) (.seq (.block 4 (.seq (.ops [.mv 66 0,.bsl 67 9 1 [(.c (.d (.s (bs [116])))),(.c (.d (.s (bs [117])))),(.c (.d (.s (bs [118]))))],.call (some 68) 46 [66,67],.bld 69 [bL,bL,(.nil 10)] [(0,1,68)],.alc 10 [bL,bL,(.nil 10)],.st 3 10 69]) (.seq (.seq (.ops [.mv 70 0,.call (some 71) 44 [70,(kI 3)]]) (.cond 71 (.ops [.mv 72 0,.call (some 73) 42 [72],.fa 74 1 10,.st 1 74 73]) .skip)) aOa))) aU2)))
def aMe:AC:=(.seq (.ops [.ld 118 6 true 5,.st 6 4 118]) .ret)
def aJo:AC:=(.seq (.seq (.ops [.mv 112 0,.call (some 113) 44 [112,(kI 4)]]) (.cond 113 (.ops [.mv 114 0,.bsl 115 3 1 [(kI 0),(kI 1),(kI 2),(kI 9223372036854775807)],.call (some 116) 49 [114,115],.fa 117 5 5,.st 1 117 116]) .skip)) aMe)
def aK7:AC:=(.seq (.seq (.ops [.mv 99 0,.call (some 100) 44 [99,(kI 3)]]) (.cond 100 (.dops [[],[0],[],[],[2,3],[],[5,4],[4,6],[7],[1,8,6],[0,1,2,3,4,5,6,7,8,9],[10,9,9,0,1,2,3,4,5,6,7,8,9]] [.fa 101 4 5,.ld 102 1 false 101,.mv 103 0,.mv 104 1,.call (some 105) 25 [103,104],.mv 106 0,.call (some 107) 44 [106,(kI 2)],.bld 108 [bA,bA,fZ,bA,bA,bL,bL,bL,(.nil 10),(.nil 6),fZ] [(0,10,105),(10,1,107)],.bsl 109 93 11 [108],.app 110 93 11 144 102 109,.fa 111 4 5,.st 1 111 110]) .skip)) aJo)
def aWb:AC:=(.seq (.seq (.ops [.mv 92 0,.call (some 93) 44 [92,(kI 2)]]) (.cond 93 (.ops [.mv 94 0,.mv 95 1,.call (some 96) 25 [94,95],.bsl 97 54 10 [96],.fa 98 3 5,.st 1 98 97]) .skip)) aK7)
def aT9:AC:=(.seq (.ops [.mv 58 0,.call (some 59) 21 [58,(kI 2)],.bin 60 .add (kI 1) 59,.asg 6 60]) (.seq (.seq (.ops [.asg 9 (kI 0)]) (.block 3 aD8)) aWb))
def bSm:AC:=(.seq (.ops [.alc 4 aN2]) (.seq (.ops [.mv 11 0,.call (some 12) 44 [11,(kI 4)],.bld 13 [fZ,(.nil 13),(.nil 3),(.nil 10),(.nil 11),bA] [(0,1,12),(5,1,(kI (-1)))],.alc 5 aN2,.st 6 5 13]) (.seq (.ops [.mv 14 0,.call (some 15) 21 [14,(kI 2)],.bin 16 .add (kI 1) 15,.asg 6 16]) (.seq (.seq (.ops [.asg 7 (kI 0)]) (.block 0 aDg)) aT9))))
theorem bKb:bR Try.prog 43=some (bSm,[.ld 0 6 true 4],119):=by kernel_rfl
def zM (r:aQ×aJ):Exit→St→Prop:=bO [.ld 0 6 true 4] fun x b=>x=(fun (y:aQ×aJ)=>(.agv [(vB y.1.distinct),(.tre 10000001),(.tre 10000002),(.tre 10000003),(.tre 10000004),(vI y.1.limit)])) r∧bZ ((fun (y:aQ×aJ)=>[(10000001,[(.trc 13 (y.1.items.map fH))]),(10000002,[(.trc 3 (y.1.from_.map gY))]),(10000003,[(.trc 10 (y.1.where_.map aZ))]),(10000004,[(.trc 11 (y.1.order.map iI))]),(1000000,bG y.2)]) r) b
def bJ3 (r:aQ×aJ):Exit→St→Prop:=(bM (wkK (avc Try.prog aT9 (zM r))) (zM r))
def aLp (r:aQ×aJ):Exit→St→Prop:=(bP 0 (bJ3 r))
def aNp (r:aQ×aJ):Exit→St→Prop:=(bM (avc Try.prog aDg (aLp r)) (aLp r))
def bQa (r:aQ×aJ):Exit→St→Prop:=(bM (wkK (avc Try.prog aD3 (aNp r))) (aNp r))
def bGs (r:aQ×aJ):Exit→St→Prop:=(bP 1 (bQa r))
def bWr (r:aQ×aJ):Exit→St→Prop:=(bP 2 (bGs r))
def bQq (r:aQ×aJ):Exit→St→Prop:=(bM (wkK (avc Try.prog aWb (zM r))) (zM r))
def aP8 (r:aQ×aJ):Exit→St→Prop:=(bP 3 (bQq r))
def aVc (r:aQ×aJ):Exit→St→Prop:=(bM (avc Try.prog aD8 (aP8 r)) (aP8 r))
def bMh (r:aQ×aJ):Exit→St→Prop:=(bM (wkK (avc Try.prog aU2 (aVc r))) (aVc r))
def aVj (r:aQ×aJ):Exit→St→Prop:=(bP 4 (bMh r))
def bJj (p1:Int) (y2:Int×aJ) (y1:Bool×aJ) (x7:Int) (bC:(List Int)) (bJ:Int) (iW:(Int×(List bH))):St:=⟨[(0,(.ptr 1000000 0)),(1,(vI p1)),(4,(.ptr 4 0)),(5,(.ptr 5 0)),(6,(vI (IntKind.wrap .i64 (1+y2.1)))),(7,(vI x7))],[(4,[(vB false),(.nil 13),(.nil 3),(.nil 10),(.nil 11),(vI 0)]),(5,[(vB y1.1),(.tre 60021000),(.nil 3),(.nil 10),(.nil 11),(vI (-1))]),(1000000,bG (aJ.mk bC bJ iW.1)),(60021000,[(.trc 13 (iW.2.map fH))])]⟩
abbrev aEr (p1:Int) (y2:Int×aJ) (y1:Bool×aJ) (x7:Int) (bC:(List Int)) (bJ:Int) (iW:(Int×(List bH))) (r:aQ×aJ):Prop:=avc Try.prog aDg (aLp r) (bJj p1 y2 y1 x7 bC bJ iW)
def bQx (p1:Int) (y2:Int×aJ) (x7:Int) (y1:Bool×aJ) (nC:(List Int)) (nL:Int) (lQ:(Int×(List bH))):St:=⟨[(0,(.ptr 1000000 0)),(1,(vI p1)),(4,(.ptr 4 0)),(5,(.ptr 5 0)),(6,(vI (IntKind.wrap .i64 (1+y2.1)))),(7,(vI x7))],[(4,[(vB false),(.nil 13),(.nil 3),(.nil 10),(.nil 11),(vI 0)]),(5,[(vB y1.1),(.tre 60095000),(.nil 3),(.nil 10),(.nil 11),(vI (-1))]),(1000000,bG (aJ.mk nC nL lQ.1)),(60095000,[(.trc 13 (lQ.2.map fH))])]⟩
abbrev aE6 (p1:Int) (y2:Int×aJ) (x7:Int) (y1:Bool×aJ) (nC:(List Int)) (nL:Int) (lQ:(Int×(List bH))) (r:aQ×aJ):Prop:=avc Try.prog aD3 (aNp r) (bQx p1 y2 x7 y1 nC nL lQ)
def bOm (p1:Int) (y2:Int×aJ) (x7:Int) (y1:Bool×aJ) (y10:aA×aJ) (cZ:(List bH)) (jC:((List UInt8)×((List Int)×(Int×Int)))):St:=⟨[(0,(.ptr 1000000 0)),(1,(vI p1)),(4,(.ptr 4 0)),(5,(.ptr 5 0)),(6,(vI (IntKind.wrap .i64 (1+y2.1)))),(7,(vI x7)),(8,(.ptr 8 0))],[(4,[(vB false),(.nil 13),(.nil 3),(.nil 10),(.nil 11),(vI 0)]),(5,[(vB y1.1),(.tre 60087000),(.nil 3),(.nil 10),(.nil 11),(vI (-1))]),(8,[(vB false),(vS []),(vI y10.1.kind),(vI y10.1.op),(vB y10.1.not_),(vI y10.1.value.kind),(vI y10.1.value.num),(vS y10.1.value.text),(vS y10.1.qual),(vS y10.1.name),(.tre 60087001),(.tre 60087002),(vS jC.1)]),(1000000,bG (aJ.mk jC.2.1 jC.2.2.1 jC.2.2.2)),(60087001,[(.trc 10 (y10.1.kids.map aZ))]),(60087002,[(.trc 6 (y10.1.sub.map eB))]),(60087000,[(.trc 13 (cZ.map fH))])]⟩
abbrev aDx (p1:Int) (y2:Int×aJ) (x7:Int) (y1:Bool×aJ) (y10:aA×aJ) (cZ:(List bH)) (jC:((List UInt8)×((List Int)×(Int×Int)))) (r:aQ×aJ):Prop:=avc Try.prog aOm (bWr r) (bOm p1 y2 x7 y1 y10 cZ jC)
def bDx (p1:Int) (y16:Int×aJ) (y1:Bool×aJ) (cZ:(List bH)) (x9:Int) (mJ:(List Int)) (iY:(Int×(Int×(List bI)))):St:=⟨[(0,(.ptr 1000000 0)),(1,(vI p1)),(4,(.ptr 4 0)),(5,(.ptr 5 0)),(6,(vI (IntKind.wrap .i64 (1+y16.1)))),(9,(vI x9))],[(4,[(vB false),(.nil 13),(.nil 3),(.nil 10),(.nil 11),(vI 0)]),(5,[(vB y1.1),(.tre 60110000),(.tre 60110001),(.nil 10),(.nil 11),(vI (-1))]),(1000000,bG (aJ.mk mJ iY.1 iY.2.1)),(60110001,[(.trc 3 (iY.2.2.map gY))]),(60110000,[(.trc 13 (cZ.map fH))])]⟩
abbrev aJ3 (p1:Int) (y16:Int×aJ) (y1:Bool×aJ) (cZ:(List bH)) (x9:Int) (mJ:(List Int)) (iY:(Int×(Int×(List bI)))) (r:aQ×aJ):Prop:=avc Try.prog aD8 (aP8 r) (bDx p1 y16 y1 cZ x9 mJ iY)
def bNu (p1:Int) (y16:Int×aJ) (x9:Int) (y1:Bool×aJ) (y21:(List UInt8)×aJ) (mF:(List bI)) (fQ:((List bH)×((List UInt8)×((List Int)×(Int×Int))))):St:=⟨[(0,(.ptr 1000000 0)),(1,(vI p1)),(4,(.ptr 4 0)),(5,(.ptr 5 0)),(6,(vI (IntKind.wrap .i64 (1+y16.1)))),(9,(vI x9)),(10,(.ptr 10 0))],[(4,[(vB false),(.nil 13),(.nil 3),(.nil 10),(.nil 11),(vI 0)]),(5,[(vB y1.1),(.tre 60142000),(.tre 60142001),(.nil 10),(.nil 11),(vI (-1))]),(10,[(vS y21.1),(vS fQ.2.1),(.nil 10)]),(1000000,bG (aJ.mk fQ.2.2.1 fQ.2.2.2.1 fQ.2.2.2.2)),(60142001,[(.trc 3 (mF.map gY))]),(60142000,[(.trc 13 (fQ.1.map fH))])]⟩
abbrev aE9 (p1:Int) (y16:Int×aJ) (x9:Int) (y1:Bool×aJ) (y21:(List UInt8)×aJ) (mF:(List bI)) (fQ:((List bH)×((List UInt8)×((List Int)×(Int×Int))))) (r:aQ×aJ):Prop:=avc Try.prog aOa (aVj r) (bNu p1 y16 x9 y1 y21 mF fQ)
def bGc (p1:Int) (y1:Bool×aJ) (cZ:(List bH)) (nV:(List Int)) (nS:Int) (nE:Int) (kE:((List aA)×(List bI))):St:=⟨[(0,(.ptr 1000000 0)),(1,(vI p1)),(4,(.ptr 4 0)),(5,(.ptr 5 0))],[(4,[(vB false),(.nil 13),(.nil 3),(.nil 10),(.nil 11),(vI 0)]),(5,[(vB y1.1),(.tre 60186000),(.tre 60186001),(.tre 60186002),(.nil 11),(vI (-1))]),(1000000,bG (aJ.mk nV nS nE)),(60186002,[(.trc 10 (kE.1.map aZ))]),(60186001,[(.trc 3 (kE.2.map gY))]),(60186000,[(.trc 13 (cZ.map fH))])]⟩
abbrev aJd (p1:Int) (y1:Bool×aJ) (cZ:(List bH)) (nV:(List Int)) (nS:Int) (nE:Int) (kE:((List aA)×(List bI))) (r:aQ×aJ):Prop:=avc Try.prog aK7 (zM r) (bGc p1 y1 cZ nV nS nE kE)
def bId (p1:Int) (y16:Int×aJ) (x9:Int) (y1:Bool×aJ) (y21:(List UInt8)×aJ) (kY:(List UInt8)) (iA:((List bH)×((List Int)×(Int×(Int×((List aA)×(List bI))))))):St:=⟨[(0,(.ptr 1000000 0)),(1,(vI p1)),(4,(.ptr 4 0)),(5,(.ptr 5 0)),(6,(vI (IntKind.wrap .i64 (1+y16.1)))),(9,(vI x9)),(10,(.ptr 10 0))],[(4,[(vB false),(.nil 13),(.nil 3),(.nil 10),(.nil 11),(vI 0)]),(5,[(vB y1.1),(.tre 60160000),(.tre 60160001),(.nil 10),(.nil 11),(vI (-1))]),(10,[(vS y21.1),(vS kY),(.tre 60160002)]),(1000000,bG (aJ.mk iA.2.1 iA.2.2.1 iA.2.2.2.1)),(60160002,[(.trc 10 (iA.2.2.2.2.1.map aZ))]),(60160001,[(.trc 3 (iA.2.2.2.2.2.map gY))]),(60160000,[(.trc 13 (iA.1.map fH))])]⟩
abbrev aD0 (p1:Int) (y16:Int×aJ) (x9:Int) (y1:Bool×aJ) (y21:(List UInt8)×aJ) (kY:(List UInt8)) (iA:((List bH)×((List Int)×(Int×(Int×((List aA)×(List bI))))))) (r:aQ×aJ):Prop:=avc Try.prog aQt (aVj r) (bId p1 y16 x9 y1 y21 kY iA)
def aWv (y1:Bool×aJ) (jL:(List bI)) (cZ:(List bH)) (wO:(List Int)) (wK:Int) (vF:Int) (jH:(List dU)) (jJ:(List aA)):St:=⟨[(0,(.ptr 1000000 0)),(4,(.ptr 4 0)),(5,(.ptr 5 0))],[(4,[(vB false),(.nil 13),(.nil 3),(.nil 10),(.nil 11),(vI 0)]),(5,[(vB y1.1),(.tre 60206000),(.tre 60206001),(.tre 60206002),(.tre 60206003),(vI (-1))]),(1000000,bG (aJ.mk wO wK vF)),(60206003,[(.trc 11 (jH.map iI))]),(60206002,[(.trc 10 (jJ.map aZ))]),(60206001,[(.trc 3 (jL.map gY))]),(60206000,[(.trc 13 (cZ.map fH))])]⟩
abbrev aZb (y1:Bool×aJ) (jL:(List bI)) (cZ:(List bH)) (wO:(List Int)) (wK:Int) (vF:Int) (jH:(List dU)) (jJ:(List aA)) (r:aQ×aJ):Prop:=avc Try.prog aJo (zM r) (aWv y1 jL cZ wO wK vF jH jJ)
def bE5 (y1:Bool×aJ) (jH:(List dU)) (jJ:(List aA)) (jL:(List bI)) (cZ:(List bH)) (uK:Int) (uN:(List Int)) (uH:Int) (rZ:Int):St:=⟨[(4,(.ptr 4 0)),(5,(.ptr 5 0))],[(4,[(vB false),(.nil 13),(.nil 3),(.nil 10),(.nil 11),(vI 0)]),(5,[(vB y1.1),(.tre 60219000),(.tre 60219001),(.tre 60219002),(.tre 60219003),(vI uK)]),(1000000,bG (aJ.mk uN uH rZ)),(60219003,[(.trc 11 (jH.map iI))]),(60219002,[(.trc 10 (jJ.map aZ))]),(60219001,[(.trc 3 (jL.map gY))]),(60219000,[(.trc 13 (cZ.map fH))])]⟩
abbrev aXx (y1:Bool×aJ) (jH:(List dU)) (jJ:(List aA)) (jL:(List bI)) (cZ:(List bH)) (uK:Int) (uN:(List Int)) (uH:Int) (rZ:Int) (r:aQ×aJ):Prop:=avc Try.prog aMe (zM r) (bE5 y1 jH jJ jL cZ uK uN uH rZ)
def aMx:AC:=(.loop (.seq (.seq (.ops [.mv 24 7,.mv 25 6,.bin 26 .lss 24 25]) (.cond 26 .skip (.exit 1))) (.seq (.block 2 (.dops [[],[0],[],[],[],[4],[5],[2,3,6,5],[7],[1,8,7],[0,1,2,3,4,5,6,7,8,9],[10,9,9,0,1,2,3,4,5,6,7,8,9]] [.fa 29 8 5,.ld 30 1 false 29,.mv 31 0,.mv 32 1,.mv 33 0,.call (some 34) 21 [33,(kI 3)],.bin 35 .add (kI 1) 34,.call (some 36) 41 [31,32,35],.bsl 37 26 1 [36],.app 38 26 1 24 30 37,.fa 39 8 5,.st 1 39 38])) (.ops [.mv 27 7,.bin 28 .add 27 (kI 1),.asg 7 28]))))
def aOu:AC:=(.loop (.seq (.seq (.ops [.mv 46 9,.mv 47 8,.bin 48 .lss 46 47]) (.cond 48 .skip (.exit 3))) (.seq (.block 4 (.dops [[],[0],[],[2],[3],[1,4,3],[0,1,2,3,4,5],[6,5,5,0,1,2,3,4,5]] [.fa 51 9 5,.ld 52 1 false 51,.mv 53 0,.call (some 54) 42 [53],.bsl 55 9 1 [54],.app 56 9 1 16 52 55,.fa 57 9 5,.st 1 57 56])) (.ops [.mv 49 9,.bin 50 .add 49 (kI 1),.asg 9 50]))))
def aMz:AC:=(.seq (.ops [.ld 80 12 true 5,.st 12 4 80]) .ret)
def aF1:AC:=(.seq (.ops [.mv 66 0,.call (some 67) 42 [66],.fa 68 7 5,.st 1 68 67]) (.seq (.seq (.ops [.fa 69 0 5,.ld 70 1 false 69,.bin 71 .neq 70 (kI 2),.mv 72 71,.g 72 true (.mv 73 0),.g 72 true (.call (some 74) 44 [73,(kI 2)]),.pick 75 72 74 (kB false)]) (.cond 75 (.ops [.mv 76 0,.mv 77 1,.call (some 78) 41 [76,77,(kI 1)],.fa 79 11 5,.st 1 79 78]) .skip)) aMz))
def aWh:AC:=(.ops [.mv 58 0,.mv 59 1,.mv 60 8,.call (some 61) 41 [58,59,60],.fa 62 10 5,.st 1 62 61])
def bLu:AC:=(.seq (.ops [.alc 4 aA4]) (.seq (.ops [.bld 10 [bA,fZ,(.nil 13),(.nil 3),(.nil 10),(.nil 11),bA,bL,(.nil 1),(.nil 1),(.nil 10),(.nil 10)] [(0,1,(kI 1))],.alc 5 aA4,.st 12 5 10]) (.seq (.seq (.ops [.mv 11 0,.call (some 12) 21 [11,(kI 6)]]) (.block 0 (.seq (.ops [.bin 19 .eql 12 (kI 0),.asg 18 19]) (.cond 18 (.seq (.ops [.fa 20 0 5,.st 1 20 (kI 2)]) (.seq (.ops [.mv 21 0,.call (some 22) 21 [21,(kI 2)],.bin 23 .add (kI 1) 22,.asg 6 23]) (.seq (.ops [.asg 7 (kI 0)]) (.block 1 aMx)))) (.seq (.ops [.bin 41 .eql 12 (kI 1),.asg 40 41]) (.cond 40 (.seq (.ops [.fa 42 0 5,.st 1 42 (kI 3)]) (.seq (.ops [.mv 43 0,.call (some 44) 21 [43,(kI 2)],.bin 45 .add (kI 1) 44,.asg 8 45]) (.seq (.seq (.ops [.asg 9 (kI 0)]) (.block 3 aOu)) aWh))) (.seq (.ops [.bin 64 .eql 12 (kI 2),.asg 63 64]) (.cond 63 (.ops [.fa 65 0 5,.st 1 65 (kI 4)]) (.seq (.ops [.mv 13 0,.mv 14 1,.call (some 15) 43 [13,14],.fa 16 1 5,.st 6 16 15]) (.seq (.ops [.ld 17 12 true 5,.st 12 4 17]) .ret)))))))))) aF1)))
theorem bWj:bR Try.prog 20=some (bLu,[.ld 0 12 true 4],81):=by kernel_rfl
def aIw (r:bD×aJ):Exit→St→Prop:=bO [.ld 0 12 true 4] fun x b=>x=(fun (y:bD×aJ)=>(.agv [(vI y.1.kind),(vB y.1.query.distinct),(.tre 10000002),(.tre 10000003),(.tre 10000004),(.tre 10000005),(vI y.1.query.limit),(vS y.1.table),(.tre 10000008),(.osl 2010009 9 1 (y.1.cols.map cStr)),(.tre 10000010),(.tre 10000011)])) r∧bZ ((fun (y:bD×aJ)=>[(10000002,[(.trc 13 (y.1.query.items.map fH))]),(10000003,[(.trc 3 (y.1.query.from_.map gY))]),(10000004,[(.trc 10 (y.1.query.where_.map aZ))]),(10000005,[(.trc 11 (y.1.query.order.map iI))]),(10000008,[(.trc 1 (y.1.rows.map (cSl 10 aZ)))]),(10000010,[(.trc 10 (y.1.sets.map aZ))]),(10000011,[(.trc 10 (y.1.where_.map aZ))]),(1000000,bG y.2)]) r) b
def bDs (r:bD×aJ):Exit→St→Prop:=(bM (wkK (avc Try.prog aF1 (aIw r))) (aIw r))
def aKo (r:bD×aJ):Exit→St→Prop:=(bP 0 (bDs r))
def bQ1 (r:bD×aJ):Exit→St→Prop:=(bP 1 (aKo r))
def bFm (r:bD×aJ):Exit→St→Prop:=(bM (wkK (avc Try.prog aWh (aKo r))) (aKo r))
def bDr (r:bD×aJ):Exit→St→Prop:=(bP 3 (bFm r))
def bUq (p1:Int) (y2:Int×aJ) (x7:Int) (bC:(List Int)) (bJ:Int) (bS:Int) (lM:(List (List aA))):St:=⟨[(0,(.ptr 1000000 0)),(1,(vI p1)),(4,(.ptr 4 0)),(5,(.ptr 5 0)),(6,(vI (IntKind.wrap .i64 (1+y2.1)))),(7,(vI x7))],[(4,[(vI 0),(vB false),(.nil 13),(.nil 3),(.nil 10),(.nil 11),(vI 0),(vS []),(.nil 1),(.nil 1),(.nil 10),(.nil 10)]),(5,[(vI 2),(vB false),(.nil 13),(.nil 3),(.nil 10),(.nil 11),(vI 0),(vS []),(.tre 60033000),(.nil 1),(.nil 10),(.nil 10)]),(1000000,bG (aJ.mk bC bJ bS)),(60033000,[(.trc 1 (lM.map (cSl 10 aZ)))])]⟩
abbrev aI8 (p1:Int) (y2:Int×aJ) (x7:Int) (bC:(List Int)) (bJ:Int) (bS:Int) (lM:(List (List aA))) (r:bD×aJ):Prop:=avc Try.prog aMx (bQ1 r) (bUq p1 y2 x7 bC bJ bS lM)
def bGt (p1:Int) (y3:Int×aJ) (x9:Int) (lY:(List (List UInt8))) (mE:(List Int)) (mO:Int) (mU:Int):St:=⟨[(0,(.ptr 1000000 0)),(1,(vI p1)),(4,(.ptr 4 0)),(5,(.ptr 5 0)),(8,(vI (IntKind.wrap .i64 (1+y3.1)))),(9,(vI x9))],[(4,[(vI 0),(vB false),(.nil 13),(.nil 3),(.nil 10),(.nil 11),(vI 0),(vS []),(.nil 1),(.nil 1),(.nil 10),(.nil 10)]),(5,[(vI 3),(vB false),(.nil 13),(.nil 3),(.nil 10),(.nil 11),(vI 0),(vS []),(.nil 1),(.osl 56 9 1 (lY.map cStr)),(.nil 10),(.nil 10)]),(1000000,bG (aJ.mk mE mO mU))]⟩
abbrev aEg (p1:Int) (y3:Int×aJ) (x9:Int) (lY:(List (List UInt8))) (mE:(List Int)) (mO:Int) (mU:Int) (r:bD×aJ):Prop:=avc Try.prog aOu (bDr r) (bGt p1 y3 x9 lY mE mO mU)
def bMr (p1:Int) (iJ:Int) (jG:(List (List UInt8))) (xC:(List Int)) (xD:Int) (yZ:Int) (jZ:(List aA)) (jY:(List (List aA))):St:=⟨[(0,(.ptr 1000000 0)),(1,(vI p1)),(4,(.ptr 4 0)),(5,(.ptr 5 0))],[(4,[(vI 0),(vB false),(.nil 13),(.nil 3),(.nil 10),(.nil 11),(vI 0),(vS []),(.nil 1),(.nil 1),(.nil 10),(.nil 10)]),(5,[(vI iJ),(vB false),(.nil 13),(.nil 3),(.nil 10),(.nil 11),(vI 0),(vS []),(.tre 60134000),(.osl 56 9 1 (jG.map cStr)),(.tre 60134001),(.nil 10)]),(1000000,bG (aJ.mk xC xD yZ)),(60134001,[(.trc 10 (jZ.map aZ))]),(60134000,[(.trc 1 (jY.map (cSl 10 aZ)))])]⟩
abbrev aUq (p1:Int) (iJ:Int) (jG:(List (List UInt8))) (xC:(List Int)) (xD:Int) (yZ:Int) (jZ:(List aA)) (jY:(List (List aA))) (r:bD×aJ):Prop:=avc Try.prog aF1 (aIw r) (bMr p1 iJ jG xC xD yZ jZ jY)
def bEy (iJ:Int) (y18:(List UInt8)×aJ) (jG:(List (List UInt8))) (jZ:(List aA)) (jY:(List (List aA))) (uO:(List Int)) (uQ:Int) (tL:Int) (vX:(List aA)):St:=⟨[(4,(.ptr 4 0)),(5,(.ptr 5 0))],[(4,[(vI 0),(vB false),(.nil 13),(.nil 3),(.nil 10),(.nil 11),(vI 0),(vS []),(.nil 1),(.nil 1),(.nil 10),(.nil 10)]),(5,[(vI iJ),(vB false),(.nil 13),(.nil 3),(.nil 10),(.nil 11),(vI 0),(vS y18.1),(.tre 60158000),(.osl 56 9 1 (jG.map cStr)),(.tre 60158001),(.tre 60158002)]),(1000000,bG (aJ.mk uO uQ tL)),(60158002,[(.trc 10 (vX.map aZ))]),(60158001,[(.trc 10 (jZ.map aZ))]),(60158000,[(.trc 1 (jY.map (cSl 10 aZ)))])]⟩
abbrev aSu (iJ:Int) (y18:(List UInt8)×aJ) (jG:(List (List UInt8))) (jZ:(List aA)) (jY:(List (List aA))) (uO:(List Int)) (uQ:Int) (tL:Int) (vX:(List aA)) (r:bD×aJ):Prop:=avc Try.prog aMz (aIw r) (bEy iJ y18 jG jZ jY uO uQ tL vX)
def aOe:AC:=(.loop (.seq (.seq (.ops [.mv 11 5,.mv 12 4,.bin 13 .lss 11 12]) (.cond 13 .skip (.exit 0))) (.seq (.block 1 (.ops [.ld 16 10 true 3,.bsl 17 54 10 [16],.bld 18 [bA,bA,fZ,bA,bA,bL,bL,bL,(.nil 10),(.nil 6)] [(0,1,(kI 3)),(1,1,(kI 16)),(8,1,17)],.st 10 3 18])) (.ops [.mv 14 5,.bin 15 .add 14 (kI 1),.asg 5 15]))))
def aXq:AC:=(.seq (.ops [.ld 19 10 true 3,.st 10 2 19]) .ret)
def bW9:AC:=(.seq (.ops [.alc 2 yV]) (.seq (.ops [.mv 6 0,.call (some 7) 51 [6],.alc 3 yV,.st 10 3 7]) (.seq (.ops [.mv 8 0,.call (some 9) 21 [8,(kI 3)],.bin 10 .add (kI 22) 9,.asg 4 10]) (.seq (.seq (.ops [.asg 5 (kI 0)]) (.block 0 aOe)) aXq))))
theorem bHm:bR Try.prog 26=some (bW9,[.ld 0 10 true 2],20):=by kernel_rfl
def bAx (r:aA×aJ):Exit→St→Prop:=bO [.ld 0 10 true 2] fun x b=>x=(fun (y:aA×aJ)=>(.agv [(vI y.1.kind),(vI y.1.op),(vB y.1.not_),(vI y.1.value.kind),(vI y.1.value.num),(vS y.1.value.text),(vS y.1.qual),(vS y.1.name),(.tre 10000008),(.tre 10000009)])) r∧bZ ((fun (y:aA×aJ)=>[(10000008,[(.trc 10 (y.1.kids.map aZ))]),(10000009,[(.trc 6 (y.1.sub.map eB))]),(1000000,bG y.2)]) r) b
def bK6 (r:aA×aJ):Exit→St→Prop:=(bM (wkK (avc Try.prog aXq (bAx r))) (bAx r))
def bJf (r:aA×aJ):Exit→St→Prop:=(bP 0 (bK6 r))
def bGo (y2:Int×aJ) (x5:Int) (eY:Int) (eG:Int) (eX:Bool) (gJ:Int) (gK:Int) (eT:((List UInt8)×((List UInt8)×((List UInt8)×((List aA)×(List aQ)))))):St:=⟨[(2,(.ptr 2 0)),(3,(.ptr 3 0)),(4,(vI (IntKind.wrap .i64 (22+y2.1)))),(5,(vI x5))],[(2,[(vI 0),(vI 0),(vB false),(vI 0),(vI 0),(vS []),(vS []),(vS []),(.nil 10),(.nil 6)]),(3,[(vI eY),(vI eG),(vB eX),(vI gJ),(vI gK),(vS eT.1),(vS eT.2.1),(vS eT.2.2.1),(.tre 60020000),(.tre 60020001)]),(1000000,bG y2.2),(60020000,[(.trc 10 (eT.2.2.2.1.map aZ))]),(60020001,[(.trc 6 (eT.2.2.2.2.map eB))])]⟩
abbrev aG4 (y2:Int×aJ) (x5:Int) (eY:Int) (eG:Int) (eX:Bool) (gJ:Int) (gK:Int) (eT:((List UInt8)×((List UInt8)×((List UInt8)×((List aA)×(List aQ)))))) (r:aA×aJ):Prop:=avc Try.prog aOe (bJf r) (bGo y2 x5 eY eG eX gJ gK eT)
def bV1:AC:=(.seq (.ops [.asg 6 (.c (.nil 3))]) (.seq (.seq (.ops [.mv 7 1,.len 8 7,.bin 9 .eql 8 (kI 0)]) (.cond 9 (.seq (.ops [.mv 10 0,.asg 6 10]) .ret) .skip)) (.seq (.dops [[],[],[1],[0,2,1],[],[4],[5],[],[3,6,7,3],[8,8,0,1,2,3,4,5,6,7,8]] [.mv 11 0,.call (some 12) 35 [(kI 6)],.bsl 13 39 3 [12],.app 14 39 3 32 11 13,.mv 15 1,.ia 16 10 15 (kI 0),.ld 17 10 true 16,.mv 18 2,.call (some 19) 39 [14,17,18],.asg 6 19]) .ret)))
theorem bUc:bR Try.prog 40=some (bV1,[.mv 0 6],20):=by kernel_rfl
def bYb (r:(List aB)):Exit→St→Prop:=bO [.mv 0 6] fun x b=>x=(fun (y:(List aB))=>(.osl 2000000 39 3 (y.map aV))) r∧bZ ((fun (y:(List aB))=>[]) r) b
def aOf:AC:=(.seq (.ops [.mv 30 0,.fa 31 7 4,.ld 32 1 false 31,.call (some 33) 36 [32],.bsl 34 39 3 [33],.app 35 39 3 32 30 34,.asg 6 35]) .ret)
def aQu:AC:=(.ops [.mv 143 0,.ld 144 10 true 4,.mv 145 7,.mv 146 2,.call (some 147) 68 [143,144,145,146],.asg 0 147])
def aV9:AC:=(.ops [.mv 135 7,.bin 136 .add 135 (kI 1),.asg 7 136])
def aIv:AC:=(.loop (.seq (.seq (.ops [.mv 130 7,.fa 131 8 4,.ld 132 1 false 131,.len 133 132,.bin 134 .lss 130 133]) (.cond 134 .skip (.exit 2))) (.seq (.block 3 (.seq (.seq (.ops [.mv 137 7,.bin 138 .gtr 137 (kI 1)]) (.cond 138 (.ops [.mv 139 0,.call (some 140) 38 [(.c (.d (.s (bs [44]))))],.bsl 141 39 3 [140],.app 142 39 3 32 139 141,.asg 0 142]) .skip)) aQu)) aV9)))
def aXd:AC:=(.seq (.ops [.mv 148 0,.call (some 149) 38 [(.c (.d (.s (bs [41]))))],.bsl 150 39 3 [149],.app 151 39 3 32 148 150,.asg 6 151]) .ret)
def aSl:AC:=(.seq (.ops [.mv 64 0,.ld 65 10 true 4,.mv 66 2,.call (some 67) 68 [64,65,(kI 0),66],.asg 0 67]) (.seq (.seq (.ops [.fa 68 0 4,.ld 69 1 false 68]) (.block 1 (.seq (.ops [.bin 71 .eql 69 (kI 4),.asg 70 71]) (.cond 70 (.seq (.dops [[],[],[1],[2],[3],[0,4,3],[],[],[5,6,7,5],[8,8,0,1,2,3,4,5,6,7,8]] [.mv 72 0,.fa 73 1 4,.ld 74 1 false 73,.call (some 75) 69 [74],.bsl 76 39 3 [75],.app 77 39 3 32 72 76,.ld 78 10 true 4,.mv 79 2,.call (some 80) 68 [77,78,(kI 1),79],.asg 6 80]) .ret) (.seq (.ops [.bin 82 .eql 69 (kI 5),.asg 81 82]) (.cond 81 (.seq (.dops [[],[],[1],[0,2,1],[],[3,4,3],[5],[6],[5,7,6],[8,8,0,1,2,3,4,5,6,7,8]] [.mv 83 0,.call (some 84) 35 [(kI 16)],.bsl 85 39 3 [84],.app 86 39 3 32 83 85,.ld 87 10 true 4,.call (some 88) 70 [86,87],.call (some 89) 35 [(kI 20)],.bsl 90 39 3 [89],.app 91 39 3 32 88 90,.asg 6 91]) .ret) (.seq (.ops [.bin 93 .eql 69 (kI 6),.asg 92 93]) (.cond 92 (.seq (.dops [[],[],[0,1],[2],[3],[2,4,3],[],[],[5,6,7,5],[8,8,0,1,2,3,4,5,6,7,8]] [.mv 94 0,.ld 95 10 true 4,.call (some 96) 70 [94,95],.call (some 97) 35 [(kI 18)],.bsl 98 39 3 [97],.app 99 39 3 32 96 98,.ld 100 10 true 4,.mv 101 2,.call (some 102) 68 [99,100,(kI 1),101],.asg 0 102]) (.seq (.dops [[],[],[1],[0,2,1],[],[],[3,4,5,3],[6,6,0,1,2,3,4,5,6]] [.mv 103 0,.call (some 104) 35 [(kI 13)],.bsl 105 39 3 [104],.app 106 39 3 32 103 105,.ld 107 10 true 4,.mv 108 2,.call (some 109) 68 [106,107,(kI 2),108],.asg 6 109]) .ret)) .skip)))))))) (.seq (.ops [.mv 110 0,.ld 111 10 true 4,.call (some 112) 70 [110,111],.call (some 113) 35 [(kI 17)],.call (some 114) 38 [(.c (.d (.s (bs [40]))))],.bsl 115 39 3 [113,114],.app 116 39 3 32 112 115,.asg 0 116]) (.seq (.seq (.ops [.fa 117 0 4,.ld 118 1 false 117,.bin 119 .eql 118 (kI 8)]) (.cond 119 (.seq (.ops [.mv 120 0,.fa 121 9 4,.ld 122 1 false 121,.ia 123 6 122 (kI 0),.ld 124 6 true 123,.mv 125 2,.call (some 126) 34 [120,124,125],.call (some 127) 38 [(.c (.d (.s (bs [41]))))],.bsl 128 39 3 [127],.app 129 39 3 32 126 128,.asg 6 129]) .ret) .skip)) (.seq (.seq (.ops [.asg 7 (kI 1)]) (.block 2 aIv)) aXd)))))
def bUr:AC:=(.seq (.ops [.box 4 54 1,.asg 6 (.c (.nil 3))]) (.seq (.seq (.ops [.fa 8 0 4,.ld 9 1 false 8]) (.block 0 (.seq (.ops [.bin 11 .eql 9 (kI 1),.asg 10 11]) (.cond 10 (.seq (.ops [.mv 12 0,.fa 13 3 4,.ld 14 3 true 13,.call (some 15) 67 [14],.bsl 16 39 3 [15],.app 17 39 3 32 12 16,.asg 6 17]) .ret) (.seq (.ops [.bin 19 .eql 9 (kI 2),.asg 18 19]) (.cond 18 (.seq (.seq (.ops [.fa 20 6 4,.ld 21 1 false 20,.bin 22 .neq 21 (.c (.d (.s (bs []))))]) (.cond 22 (.ops [.mv 23 0,.fa 24 6 4,.ld 25 1 false 24,.call (some 26) 36 [25],.call (some 27) 38 [(.c (.d (.s (bs [46]))))],.bsl 28 39 3 [26,27],.app 29 39 3 32 23 28,.asg 0 29]) .skip)) aOf) (.seq (.ops [.bin 37 .eql 9 (kI 3),.asg 36 37]) (.cond 36 (.seq (.dops [[],[],[1],[2],[3],[0,4,3],[],[],[5,6,7,5],[8,8,0,1,2,3,4,5,6,7,8]] [.mv 38 0,.fa 39 1 4,.ld 40 1 false 39,.call (some 41) 69 [40],.bsl 42 39 3 [41],.app 43 39 3 32 38 42,.ld 44 10 true 4,.mv 45 2,.call (some 46) 68 [43,44,(kI 0),45],.asg 6 46]) .ret) (.seq (.ops [.bin 48 .eql 9 (kI 9),.asg 47 48]) (.cond 47 (.seq (.dops [[],[],[1],[1,2],[0,3,2],[],[5],[6],[7],[],[4,8,9,4],[10,10,0,1,2,3,4,5,6,7,8,9,10]] [.mv 49 0,.call (some 50) 35 [(kI 19)],.call (some 51) 38 [(.c (.d (.s (bs [40]))))],.bsl 52 39 3 [50,51],.app 53 39 3 32 49 52,.fa 54 9 4,.ld 55 1 false 54,.ia 56 6 55 (kI 0),.ld 57 6 true 56,.mv 58 2,.call (some 59) 34 [53,57,58],.asg 0 59]) (.seq (.ops [.mv 60 0,.call (some 61) 38 [(.c (.d (.s (bs [41]))))],.bsl 62 39 3 [61],.app 63 39 3 32 60 62,.asg 6 63]) .ret)) .skip)))))))))) aSl))
theorem bO8:bR Try.prog 39=some (bUr,[.mv 0 6],152):=by kernel_rfl
def aGk (r:(List aB)):Exit→St→Prop:=bO [.mv 0 6] fun x b=>x=(fun (y:(List aB))=>(.osl 2000000 39 3 (y.map aV))) r∧bZ ((fun (y:(List aB))=>[]) r) b
def bIu (r:(List aB)):Exit→St→Prop:=(bM (wkK (avc Try.prog aSl (aGk r))) (aGk r))
def bVz (r:(List aB)):Exit→St→Prop:=(bP 0 (bIu r))
def bWt (r:(List aB)):Exit→St→Prop:=(bM (wkK (avc Try.prog aXd (aGk r))) (aGk r))
def aP5 (r:(List aB)):Exit→St→Prop:=(bP 2 (bWt r))
def aVz (r:(List aB)):Exit→St→Prop:=(bM (avc Try.prog aIv (aP5 r)) (aP5 r))
def bQc (r:(List aB)):Exit→St→Prop:=(bM (wkK (avc Try.prog aV9 (aVz r))) (aVz r))
def bF7 (r:(List aB)):Exit→St→Prop:=(bP 3 (bQc r))
def bVf (p1:aA) (x0:(List aB)):St:=⟨[(0,(.osl 0 39 3 (x0.map aV))),(4,(.ptr 4 0))],[(4,kS p1)]⟩
abbrev bB3 (p1:aA) (x0:(List aB)) (r:(List aB)):Prop:=avc Try.prog aOf (bVz r) (bVf p1 x0)
def bJz (p2:Bool) (p1:aA) (lW:(List aB)) (x7:Int):St:=⟨[(0,(.osl 0 39 3 (lW.map aV))),(2,(vB p2)),(4,(.ptr 4 0)),(7,(vI x7))],[(4,kS p1)]⟩
abbrev aFo (p2:Bool) (p1:aA) (lW:(List aB)) (x7:Int) (r:(List aB)):Prop:=avc Try.prog aIv (aP5 r) (bJz p2 p1 lW x7)
def bP9 (p2:Bool) (x7:Int) (p1:aA) (nR:(List aB)):St:=⟨[(0,(.osl 0 39 3 (nR.map aV))),(2,(vB p2)),(4,(.ptr 4 0)),(7,(vI x7))],[(4,kS p1)]⟩
abbrev aI5 (p2:Bool) (x7:Int) (p1:aA) (nR:(List aB)) (r:(List aB)):Prop:=avc Try.prog aQu (bF7 r) (bP9 p2 x7 p1 nR)
def aPx:AC:=(.ops [.mv 32 0,.fa 33 1 4,.ld 34 1 false 33,.mv 35 7,.ia 36 13 34 35,.ld 37 13 true 36,.mv 38 2,.call (some 39) 63 [32,37,38],.asg 0 39])
def aT1:AC:=(.ops [.mv 24 7,.bin 25 .add 24 (kI 1),.asg 7 25])
def aDh:AC:=(.loop (.seq (.seq (.ops [.mv 19 7,.fa 20 1 4,.ld 21 1 false 20,.len 22 21,.bin 23 .lss 19 22]) (.cond 23 .skip (.exit 0))) (.seq (.block 1 (.seq (.seq (.ops [.mv 26 7,.bin 27 .gtr 26 (kI 0)]) (.cond 27 (.ops [.mv 28 0,.call (some 29) 38 [(.c (.d (.s (bs [44]))))],.bsl 30 39 3 [29],.app 31 39 3 32 28 30,.asg 0 31]) .skip)) aPx)) aT1)))
def aJr:AC:=(.seq (.ops [.mv 71 0,.fa 72 4 4,.ld 73 1 false 72,.mv 74 8,.ia 75 11 73 74,.fa 76 0 75,.ld 77 10 true 76,.mv 78 2,.call (some 79) 39 [71,77,78],.asg 0 79]) (.seq (.ops [.fa 80 4 4,.ld 81 1 false 80,.mv 82 8,.ia 83 11 81 82,.fa 84 10 83,.ld 85 1 false 84]) (.cond 85 (.ops [.mv 86 0,.call (some 87) 35 [(kI 10)],.bsl 88 39 3 [87],.app 89 39 3 32 86 88,.asg 0 89]) .skip)))
def aG8:AC:=(.ops [.mv 58 8,.bin 59 .add 58 (kI 1),.asg 8 59])
def aDp:AC:=(.loop (.seq (.seq (.ops [.mv 53 8,.fa 54 4 4,.ld 55 1 false 54,.len 56 55,.bin 57 .lss 53 56]) (.cond 57 .skip (.exit 2))) (.seq (.block 3 (.seq (.seq (.ops [.mv 60 8,.bin 61 .eql 60 (kI 0)]) (.cond 61 (.ops [.mv 62 0,.call (some 63) 35 [(kI 7)],.call (some 64) 35 [(kI 8)],.bsl 65 39 3 [63,64],.app 66 39 3 32 62 65,.asg 0 66]) (.ops [.mv 67 0,.call (some 68) 38 [(.c (.d (.s (bs [44]))))],.bsl 69 39 3 [68],.app 70 39 3 32 67 69,.asg 0 70]))) aJr)) aG8)))
def aNc:AC:=(.seq (.ops [.mv 101 0,.asg 6 101]) .ret)
def aWo:AC:=(.seq (.seq (.ops [.fa 90 5 4,.ld 91 1 false 90,.bin 92 .geq 91 (kI 0)]) (.cond 92 (.dops [[],[],[],[2],[3,1],[4],[1,5],[0,6,4],[7,7,0,1,2,3,4,5,6,7]] [.mv 93 0,.call (some 94) 35 [(kI 11)],.fa 95 5 4,.ld 96 1 false 95,.call (some 97) 65 [96],.bld 98 [bA,bL,bA] [(0,1,(kI 3)),(1,1,97)],.bsl 99 39 3 [94,98],.app 100 39 3 32 93 99,.asg 0 100]) .skip)) aNc)
def bAl:AC:=(.seq (.dops [[],[],[1],[0,2,1],[],[4],[],[3,5,6,3],[7,7,0,1,2,3,4,5,6,7]] [.mv 40 0,.call (some 41) 35 [(kI 3)],.bsl 42 39 3 [41],.app 43 39 3 32 40 42,.fa 44 2 4,.ld 45 1 false 44,.mv 46 2,.call (some 47) 64 [43,45,46],.asg 0 47]) (.seq (.ops [.mv 48 0,.fa 49 3 4,.ld 50 1 false 49,.mv 51 2,.call (some 52) 40 [48,50,51],.asg 0 52]) (.seq (.seq (.ops [.asg 8 (kI 0)]) (.block 2 aDp)) aWo)))
def aR2:AC:=(.seq (.seq (.ops [.asg 7 (kI 0)]) (.block 0 aDh)) bAl)
def bV4:AC:=(.seq (.ops [.box 4 29 1,.asg 6 (.c (.nil 3))]) (.seq (.ops [.mv 9 0,.call (some 10) 35 [(kI 1)],.bsl 11 39 3 [10],.app 12 39 3 32 9 11,.asg 0 12]) (.seq (.seq (.ops [.fa 13 0 4,.ld 14 1 false 13]) (.cond 14 (.ops [.mv 15 0,.call (some 16) 35 [(kI 2)],.bsl 17 39 3 [16],.app 18 39 3 32 15 17,.asg 0 18]) .skip)) aR2)))
theorem bWf:bR Try.prog 34=some (bV4,[.mv 0 6],102):=by kernel_rfl
def N7 (r:(List aB)):Exit→St→Prop:=bO [.mv 0 6] fun x b=>x=(fun (y:(List aB))=>(.osl 2000000 39 3 (y.map aV))) r∧bZ ((fun (y:(List aB))=>[]) r) b
def bJu (r:(List aB)):Exit→St→Prop:=(bM (wkK (avc Try.prog bAl (N7 r))) (N7 r))
def aQg (r:(List aB)):Exit→St→Prop:=(bP 0 (bJu r))
def aSh (r:(List aB)):Exit→St→Prop:=(bM (avc Try.prog aDh (aQg r)) (aQg r))
def bCn (r:(List aB)):Exit→St→Prop:=(bM (wkK (avc Try.prog aT1 (aSh r))) (aSh r))
def bQ4 (r:(List aB)):Exit→St→Prop:=(bP 1 (bCn r))
def bRa (r:(List aB)):Exit→St→Prop:=(bM (wkK (avc Try.prog aWo (N7 r))) (N7 r))
def aL8 (r:(List aB)):Exit→St→Prop:=(bP 2 (bRa r))
def aKt (r:(List aB)):Exit→St→Prop:=(bM (avc Try.prog aDp (aL8 r)) (aL8 r))
def bIq (r:(List aB)):Exit→St→Prop:=(bM (wkK (avc Try.prog aG8 (aKt r))) (aKt r))
def bI7 (r:(List aB)):Exit→St→Prop:=(bP 3 (bIq r))
def bJp (p2:Bool) (p1:aQ) (x0:(List aB)):St:=⟨[(0,(.osl 0 39 3 (x0.map aV))),(2,(vB p2)),(4,(.ptr 4 0))],[(4,iU p1)]⟩
abbrev aHa (p2:Bool) (p1:aQ) (x0:(List aB)) (r:(List aB)):Prop:=avc Try.prog aR2 (N7 r) (bJp p2 p1 x0)
def bIf (p2:Bool) (p1:aQ) (fP:(List aB)) (x7:Int):St:=⟨[(0,(.osl 0 39 3 (fP.map aV))),(2,(vB p2)),(4,(.ptr 4 0)),(7,(vI x7))],[(4,iU p1)]⟩
abbrev aJ7 (p2:Bool) (p1:aQ) (fP:(List aB)) (x7:Int) (r:(List aB)):Prop:=avc Try.prog aDh (aQg r) (bIf p2 p1 fP x7)
def bIx (p2:Bool) (x7:Int) (p1:aQ) (nQ:(List aB)):St:=⟨[(0,(.osl 0 39 3 (nQ.map aV))),(2,(vB p2)),(4,(.ptr 4 0)),(7,(vI x7))],[(4,iU p1)]⟩
abbrev aEc (p2:Bool) (x7:Int) (p1:aQ) (nQ:(List aB)) (r:(List aB)):Prop:=avc Try.prog aPx (bQ4 r) (bIx p2 x7 p1 nQ)
def bVb (p2:Bool) (p1:aQ) (kR:(List aB)) (x8:Int):St:=⟨[(0,(.osl 0 39 3 (kR.map aV))),(2,(vB p2)),(4,(.ptr 4 0)),(8,(vI x8))],[(4,iU p1)]⟩
abbrev aFp (p2:Bool) (p1:aQ) (kR:(List aB)) (x8:Int) (r:(List aB)):Prop:=avc Try.prog aDp (aL8 r) (bVb p2 p1 kR x8)
def bLt (p2:Bool) (x8:Int) (p1:aQ) (nM:(List aB)):St:=⟨[(0,(.osl 0 39 3 (nM.map aV))),(2,(vB p2)),(4,(.ptr 4 0)),(8,(vI x8))],[(4,iU p1)]⟩
abbrev aDu (p2:Bool) (x8:Int) (p1:aQ) (nM:(List aB)) (r:(List aB)):Prop:=avc Try.prog aJr (bI7 r) (bLt p2 x8 p1 nM)
def bNz (wF:(List aB)):St:=⟨[(0,(.osl 0 39 3 (wF.map aV)))],[]⟩
abbrev bAu (wF:(List aB)) (r:(List aB)):Prop:=avc Try.prog aNc (N7 r) (bNz wF)
def bWb (p2:Bool) (x8:Int) (p1:aQ) (oC:(List aB)):St:=⟨[(0,(.osl 0 39 3 (oC.map aV))),(2,(vB p2)),(4,(.ptr 4 0)),(8,(vI x8))],[(4,iU p1)]⟩
abbrev aFs (p2:Bool) (x8:Int) (p1:aQ) (oC:(List aB)) (r:(List aB)):Prop:=avc Try.prog aG8 (aKt r) (bWb p2 x8 p1 oC)
def bMc:AC:=(.seq (.ops [.alc 2 [bA,bL,bA]]) (.seq (.seq (.ops [.mv 3 0,.bin 4 .eql 3 (kI 1),.mv 5 4,.g 5 false (.mv 6 0),.g 5 false (.bin 7 .eql 6 (kI 2)),.pick 8 5 (kB true) 7,.mv 9 8,.g 9 false (.mv 10 0),.g 9 false (.bin 11 .eql 10 (kI 15)),.pick 12 9 (kB true) 11]) (.cond 12 (.seq (.ops [.mv 13 0,.call (some 14) 82 [13],.bld 15 [bA,bL,bA] [(0,1,(kI 1)),(1,1,14)],.st 3 2 15]) .ret) .skip)) (.seq (.ops [.mv 16 0,.call (some 17) 82 [16],.call (some 18) 38 [17],.st 3 2 18]) .ret)))
theorem bFc:bR Try.prog 69=some (bMc,[.ld 0 3 true 2],19):=by kernel_rfl
def bYv (r:aB):Exit→St→Prop:=bO [.ld 0 3 true 2] fun x _=>x=(fun y=>(oO y)) r
def bHg:AC:=(.seq (.ops [.asg 2 (.c (.d (.s (bs []))))]) (.seq (.seq (.ops [.mv 3 0,.call (some 4) 57 [3,(kI 1),(kI 16)],.not 5 4]) (.cond 5 (.seq (.ops [.asg 2 (.c (.d (.s (bs []))))]) .ret) .skip)) (.seq (.ops [.bsl 6 9 1 [(.c (.d (.s (bs [])))),(.c (.d (.s (bs [79,82])))),(.c (.d (.s (bs [65,78,68])))),(.c (.d (.s (bs [61])))),(.c (.d (.s (bs [60,62])))),(.c (.d (.s (bs [60])))),(.c (.d (.s (bs [60,61])))),(.c (.d (.s (bs [62])))),(.c (.d (.s (bs [62,61])))),(.c (.d (.s (bs [124,124])))),(.c (.d (.s (bs [43])))),(.c (.d (.s (bs [45])))),(.c (.d (.s (bs [42])))),(.c (.d (.s (bs [47])))),(.c (.d (.s (bs [37])))),(.c (.d (.s (bs [78,79,84])))),(.c (.d (.s (bs [45]))))],.mv 7 0,.ia 8 1 6 7,.ld 9 1 false 8,.asg 2 9]) .ret)))
theorem bPi:bR Try.prog 82=some (bHg,[.mv 0 2],10):=by kernel_rfl
def bXh (r:(List UInt8)):Exit→St→Prop:=bO [.mv 0 2] fun x _=>x=(fun y=>(vS y)) r
def aN9:AC:=(.cond 9 (.seq (.ops [.asg 2 (kI 4)]) .ret) (.seq (.ops [.bin 15 .eql 4 (kI 3),.asg 14 15]) (.cond 14 (.seq (.seq (.ops [.fa 16 1 1,.ld 17 1 false 16,.bin 18 .eql 17 (kI 15)]) (.cond 18 (.seq (.ops [.asg 2 (kI 3)]) .ret) .skip)) (.seq (.ops [.fa 19 1 1,.ld 20 1 false 19,.bin 21 .eql 20 (kI 16)]) (.cond 21 (.seq (.ops [.asg 2 (kI 8)]) .ret) .skip))) (.seq (.ops [.bin 23 .eql 4 (kI 4),.asg 22 23]) (.cond 22 (.seq (.ops [.fa 24 1 1,.ld 25 1 false 24,.call (some 26) 57 [25,(kI 1),(kI 14)]]) (.cond 26 (.seq (.ops [.bsl 27 3 1 [(kI 0),(kI 1),(kI 2),(kI 4),(kI 4),(kI 4),(kI 4),(kI 4),(kI 4),(kI 5),(kI 6),(kI 6),(kI 7),(kI 7),(kI 7)],.fa 28 1 1,.ld 29 1 false 28,.ia 30 1 27 29,.ld 31 1 false 30,.asg 2 31]) .ret) .skip)) .skip)))))
def aMu:AC:=(.cond 5 (.seq (.ops [.asg 2 (kI 9)]) .ret) (.seq (.seq (.ops [.bin 10 .eql 4 (kI 5),.asg 9 10]) (.cond 9 .skip (.seq (.ops [.bin 11 .eql 4 (kI 6),.asg 9 11]) (.cond 9 .skip (.seq (.ops [.bin 12 .eql 4 (kI 7),.asg 9 12]) (.cond 9 .skip (.ops [.bin 13 .eql 4 (kI 8),.asg 9 13]))))))) aN9))
def aHu:AC:=(.seq (.ops [.asg 2 (kI 0)]) .ret)
def bNn:AC:=(.seq (.ops [.box 1 54 0,.asg 2 (kI 0)]) (.seq (.seq (.ops [.fa 3 0 1,.ld 4 1 false 3]) (.block 0 (.seq (.seq (.ops [.bin 6 .eql 4 (kI 1),.asg 5 6]) (.cond 5 .skip (.seq (.ops [.bin 7 .eql 4 (kI 2),.asg 5 7]) (.cond 5 .skip (.ops [.bin 8 .eql 4 (kI 9),.asg 5 8]))))) aMu))) aHu))
theorem bNf:bR Try.prog 81=some (bNn,[.mv 0 2],32):=by kernel_rfl
def aQj (r:Int):Exit→St→Prop:=bO [.mv 0 2] fun x _=>x=(fun y=>(vI y)) r
def bNg (r:Int):Exit→St→Prop:=(bM (wkK (avc Try.prog aHu (aQj r))) (aQj r))
def aWk (r:Int):Exit→St→Prop:=(bP 0 (bNg r))
def bQs (p0:aA) (x5:Bool):St:=⟨[(1,(.ptr 1 0)),(4,(vI p0.kind)),(5,(vB x5))],[(1,kS p0)]⟩
abbrev aTt (p0:aA) (x5:Bool) (r:Int):Prop:=avc Try.prog aMu (aWk r) (bQs p0 x5)
def bRs (p0:aA) (x9:Bool):St:=⟨[(1,(.ptr 1 0)),(4,(vI p0.kind)),(9,(vB x9))],[(1,kS p0)]⟩
abbrev aZy (p0:aA) (x9:Bool) (r:Int):Prop:=avc Try.prog aN9 (aWk r) (bRs p0 x9)
def bR5:St:=⟨[],[]⟩
abbrev aRd (r:Int):Prop:=avc Try.prog aHu (aQj r) (bR5)
def bUx:AC:=(.seq (.ops [.box 2 54 0,.asg 4 (kB false)]) (.seq (.dops [[],[],[1],[2],[3],[0,4],[5,5],[6],[7,6],[6],[8,9,6],[10,6],[11,6,6],[6],[6],[13,14,12,6],[12,15,6],[6,16],[17,15,0,1,2,3,4,5,6,7,8,9,10,11,12,13,14,15,16,17]] [.mv 5 1,.fa 6 8 2,.ld 7 1 false 6,.len 8 7,.bin 9 .sub 8 (kI 1),.call (some 10) 57 [5,(kI 0),9],.mv 11 10,.g 11 true (.fa 12 8 2),.g 11 true (.ld 13 1 false 12),.g 11 true (.mv 14 1),.g 11 true (.ia 15 10 13 14),.g 11 true (.ld 16 10 true 15),.g 11 true (.call (some 17) 81 [16]),.g 11 true (.ld 18 10 true 2),.g 11 true (.mv 19 1),.g 11 true (.call (some 20) 89 [18,19]),.g 11 true (.bin 21 .lss 17 20),.pick 22 11 21 (kB false),.asg 4 22]) .ret))
theorem bNk:bR Try.prog 80=some (bUx,[.mv 0 4],23):=by kernel_rfl
def bZ3 (r:Bool):Exit→St→Prop:=bO [.mv 0 4] fun x _=>x=(fun y=>(vB y)) r
def aR4:AC:=(.seq (.ops [.asg 4 (kI 5)]) .ret)
def bRu:AC:=(.seq (.ops [.box 2 54 0,.asg 4 (kI 0)]) (.seq (.ops [.ld 6 10 true 2,.call (some 7) 81 [6],.asg 5 7]) (.seq (.seq (.ops [.mv 8 1,.fa 9 8 2,.ld 10 1 false 9,.len 11 10,.bin 12 .sub 11 (kI 1),.call (some 13) 57 [8,(kI 0),12],.not 14 13,.mv 15 14,.g 15 false (.mv 16 5),.g 15 false (.bin 17 .eql 16 (kI 0)),.pick 18 15 (kB true) 17,.mv 19 18,.g 19 false (.mv 20 5),.g 19 false (.bin 21 .eql 20 (kI 9)),.pick 22 19 (kB true) 21]) (.cond 22 (.seq (.ops [.asg 4 (kI 0)]) .ret) .skip)) (.seq (.seq (.ops [.fa 23 0 2,.ld 24 1 false 23]) (.block 0 (.seq (.ops [.bin 26 .eql 24 (kI 3),.asg 25 26]) (.cond 25 (.seq (.ops [.mv 27 5,.asg 4 27]) .ret) (.seq (.ops [.bin 29 .eql 24 (kI 4),.asg 28 29]) (.cond 28 (.seq (.seq (.ops [.mv 30 5,.bin 31 .eql 30 (kI 4)]) (.cond 31 (.seq (.ops [.asg 4 (kI 5)]) .ret) .skip)) (.seq (.seq (.ops [.mv 32 1,.bin 33 .eql 32 (kI 0)]) (.cond 33 (.seq (.ops [.mv 34 5,.asg 4 34]) .ret) .skip)) (.seq (.ops [.mv 35 5,.bin 36 .add 35 (kI 1),.asg 4 36]) .ret))) (.seq (.ops [.bin 38 .eql 24 (kI 7),.asg 37 38]) (.cond 37 (.seq (.ops [.mv 39 1,.bin 40 .gtr 39 (kI 0)]) (.cond 40 (.seq (.ops [.asg 4 (kI 1)]) .ret) .skip)) .skip)))))))) aR4))))
theorem bDy:bR Try.prog 89=some (bRu,[.mv 0 4],41):=by kernel_rfl
def bO7 (r:Int):Exit→St→Prop:=bO [.mv 0 4] fun x _=>x=(fun y=>(vI y)) r
def bVj:St:=⟨[],[]⟩
abbrev aS9 (r:Int):Prop:=avc Try.prog aR4 (bO7 r) (bVj)
def aNb:AC:=(.ops [.mv 40 0,.mv 41 1,.mv 42 7,.ia 43 1 41 42,.ld 44 1 false 43,.mv 45 8,.ia 46 10 44 45,.ld 47 10 true 46,.mv 48 2,.call (some 49) 39 [40,47,48],.asg 0 49])
def aSy:AC:=(.ops [.mv 32 8,.bin 33 .add 32 (kI 1),.asg 8 33])
def aIy:AC:=(.loop (.seq (.seq (.ops [.mv 25 8,.mv 26 1,.mv 27 7,.ia 28 1 26 27,.ld 29 1 false 28,.len 30 29,.bin 31 .lss 25 30]) (.cond 31 .skip (.exit 2))) (.seq (.block 3 (.seq (.seq (.ops [.mv 34 8,.bin 35 .gtr 34 (kI 0)]) (.cond 35 (.ops [.mv 36 0,.call (some 37) 38 [(.c (.d (.s (bs [44]))))],.bsl 38 39 3 [37],.app 39 39 3 32 36 38,.asg 0 39]) .skip)) aNb)) aSy)))
def aVe:AC:=(.ops [.mv 50 0,.call (some 51) 38 [(.c (.d (.s (bs [41]))))],.bsl 52 39 3 [51],.app 53 39 3 32 50 52,.asg 0 53])
def aKb:AC:=(.seq (.ops [.mv 21 0,.call (some 22) 38 [(.c (.d (.s (bs [40]))))],.bsl 23 39 3 [22],.app 24 39 3 32 21 23,.asg 0 24]) (.seq (.seq (.ops [.asg 8 (kI 0)]) (.block 2 aIy)) aVe))
def aXa:AC:=(.ops [.mv 13 7,.bin 14 .add 13 (kI 1),.asg 7 14])
def aHh:AC:=(.loop (.seq (.seq (.ops [.mv 9 7,.mv 10 1,.len 11 10,.bin 12 .lss 9 11]) (.cond 12 .skip (.exit 0))) (.seq (.block 1 (.seq (.seq (.ops [.mv 15 7,.bin 16 .gtr 15 (kI 0)]) (.cond 16 (.ops [.mv 17 0,.call (some 18) 38 [(.c (.d (.s (bs [44]))))],.bsl 19 39 3 [18],.app 20 39 3 32 17 19,.asg 0 20]) .skip)) aKb)) aXa)))
def aS3:AC:=(.seq (.ops [.mv 54 0,.asg 6 54]) .ret)
def bQk:AC:=(.seq (.ops [.asg 6 (.c (.nil 3))]) (.seq (.seq (.ops [.asg 7 (kI 0)]) (.block 0 aHh)) aS3))
theorem bBt:bR Try.prog 37=some (bQk,[.mv 0 6],55):=by kernel_rfl
def aUg (r:(List aB)):Exit→St→Prop:=bO [.mv 0 6] fun x b=>x=(fun (y:(List aB))=>(.osl 2000000 39 3 (y.map aV))) r∧bZ ((fun (y:(List aB))=>[]) r) b
def bFs (r:(List aB)):Exit→St→Prop:=(bM (wkK (avc Try.prog aS3 (aUg r))) (aUg r))
def aJk (r:(List aB)):Exit→St→Prop:=(bP 0 (bFs r))
def bAg (r:(List aB)):Exit→St→Prop:=(bM (avc Try.prog aHh (aJk r)) (aJk r))
def bDw (r:(List aB)):Exit→St→Prop:=(bM (wkK (avc Try.prog aXa (bAg r))) (bAg r))
def aL3 (r:(List aB)):Exit→St→Prop:=(bP 1 (bDw r))
def bOx (r:(List aB)):Exit→St→Prop:=(bM (wkK (avc Try.prog aVe (aL3 r))) (aL3 r))
def aL9 (r:(List aB)):Exit→St→Prop:=(bP 2 (bOx r))
def bBd (r:(List aB)):Exit→St→Prop:=(bM (avc Try.prog aIy (aL9 r)) (aL9 r))
def bJ4 (r:(List aB)):Exit→St→Prop:=(bM (wkK (avc Try.prog aSy (bBd r))) (bBd r))
def bLz (r:(List aB)):Exit→St→Prop:=(bP 3 (bJ4 r))
def bG5 (p1:(List (List aA))) (p2:Bool) (x0:(List aB)) (x7:Int):St:=⟨[(0,(.osl 4000000 39 3 (x0.map aV))),(1,(.d (.sl 1 (p1.map (cSl 10 aZ))))),(2,(vB p2)),(7,(vI x7))],[]⟩
abbrev aFr (p1:(List (List aA))) (p2:Bool) (x0:(List aB)) (x7:Int) (r:(List aB)):Prop:=avc Try.prog aHh (aJk r) (bG5 p1 p2 x0 x7)
def bG2 (p1:(List (List aA))) (p2:Bool) (x7:Int) (oD:(List aB)):St:=⟨[(0,(.osl 0 39 3 (oD.map aV))),(1,(.d (.sl 1 (p1.map (cSl 10 aZ))))),(2,(vB p2)),(7,(vI x7))],[]⟩
abbrev aGr (p1:(List (List aA))) (p2:Bool) (x7:Int) (oD:(List aB)) (r:(List aB)):Prop:=avc Try.prog aKb (aL3 r) (bG2 p1 p2 x7 oD)
def bT9 (p1:(List (List aA))) (p2:Bool) (x7:Int) (lX:(List aB)) (x8:Int):St:=⟨[(0,(.osl 0 39 3 (lX.map aV))),(1,(.d (.sl 1 (p1.map (cSl 10 aZ))))),(2,(vB p2)),(7,(vI x7)),(8,(vI x8))],[]⟩
abbrev aHt (p1:(List (List aA))) (p2:Bool) (x7:Int) (lX:(List aB)) (x8:Int) (r:(List aB)):Prop:=avc Try.prog aIy (aL9 r) (bT9 p1 p2 x7 lX x8)
def bHo (p1:(List (List aA))) (p2:Bool) (x7:Int) (x8:Int) (gG:(List aB)):St:=⟨[(0,(.osl 0 39 3 (gG.map aV))),(1,(.d (.sl 1 (p1.map (cSl 10 aZ))))),(2,(vB p2)),(7,(vI x7)),(8,(vI x8))],[]⟩
abbrev aHp (p1:(List (List aA))) (p2:Bool) (x7:Int) (x8:Int) (gG:(List aB)) (r:(List aB)):Prop:=avc Try.prog aNb (bLz r) (bHo p1 p2 x7 x8 gG)
def aOb:AC:=(.loop (.seq (.seq (.ops [.mv 7 5,.fa 8 8 2,.ld 9 1 false 8,.len 10 9,.bin 11 .lss 7 10]) (.cond 11 .skip (.exit 0))) (.seq (.block 1 (.ops [.fa 14 8 2,.ld 15 1 false 14,.mv 16 5,.ia 17 10 15 16,.ld 18 10 true 17,.mv 19 1,.call (some 20) 16 [18,19],.asg 1 20])) (.ops [.mv 12 5,.bin 13 .add 12 (kI 1),.asg 5 13]))))
def aKs:AC:=(.loop (.seq (.seq (.ops [.mv 21 6,.fa 22 9 2,.ld 23 1 false 22,.len 24 23,.bin 25 .lss 21 24]) (.cond 25 .skip (.exit 2))) (.seq (.block 3 (.ops [.fa 28 9 2,.ld 29 1 false 28,.mv 30 6,.ia 31 6 29 30,.ld 32 6 true 31,.mv 33 1,.call (some 34) 14 [32,33],.asg 1 34])) (.ops [.mv 26 6,.bin 27 .add 26 (kI 1),.asg 6 27]))))
def bA1:AC:=(.seq (.ops [.mv 35 1,.asg 4 35]) .ret)
def aS7:AC:=(.seq (.seq (.ops [.asg 6 (kI 0)]) (.block 2 aKs)) bA1)
def bDh:AC:=(.seq (.ops [.box 2 54 0,.asg 4 (.c (.nil 1))]) (.seq (.seq (.ops [.asg 5 (kI 0)]) (.block 0 aOb)) aS7))
theorem bC6:bR Try.prog 16=some (bDh,[.mv 0 4],36):=by kernel_rfl
def aGm (r:(List (List UInt8))):Exit→St→Prop:=bO [.mv 0 4] fun x b=>x=(fun (y:(List (List UInt8)))=>(.osl 2000000 9 1 (y.map cStr))) r∧bZ ((fun (y:(List (List UInt8)))=>[]) r) b
def bEr (r:(List (List UInt8))):Exit→St→Prop:=(bM (wkK (avc Try.prog aS7 (aGm r))) (aGm r))
def bP6 (r:(List (List UInt8))):Exit→St→Prop:=(bP 0 (bEr r))
def bM0 (r:(List (List UInt8))):Exit→St→Prop:=(bM (wkK (avc Try.prog bA1 (aGm r))) (aGm r))
def bP8 (r:(List (List UInt8))):Exit→St→Prop:=(bP 2 (bM0 r))
def bOo (p0:aA) (x1:(List (List UInt8))) (x5:Int):St:=⟨[(1,(.osl 4000001 9 1 (x1.map cStr))),(2,(.ptr 2 0)),(5,(vI x5))],[(2,kS p0)]⟩
abbrev aI4 (p0:aA) (x1:(List (List UInt8))) (x5:Int) (r:(List (List UInt8))):Prop:=avc Try.prog aOb (bP6 r) (bOo p0 x1 x5)
def bOj (p0:aA) (lJ:(List (List UInt8))) (x6:Int):St:=⟨[(1,(.osl 4000001 9 1 (lJ.map cStr))),(2,(.ptr 2 0)),(6,(vI x6))],[(2,kS p0)]⟩
abbrev aE1 (p0:aA) (lJ:(List (List UInt8))) (x6:Int) (r:(List (List UInt8))):Prop:=avc Try.prog aKs (bP8 r) (bOj p0 lJ x6)
def aMq:AC:=(.loop (.seq (.seq (.ops [.mv 8 5,.fa 9 2 2,.ld 10 1 false 9,.len 11 10,.bin 12 .lss 8 11]) (.cond 12 .skip (.exit 0))) (.seq (.block 1 (.ops [.mv 15 1,.fa 16 2 2,.ld 17 1 false 16,.mv 18 5,.ia 19 3 17 18,.fa 20 0 19,.ld 21 1 false 20,.call (some 22) 15 [15,21],.asg 1 22])) (.ops [.mv 13 5,.bin 14 .add 13 (kI 1),.asg 5 14]))))
def aKl:AC:=(.loop (.seq (.seq (.ops [.mv 25 7,.mv 26 6,.len 27 26,.bin 28 .lss 25 27]) (.cond 28 .skip (.exit 2))) (.seq (.block 3 (.ops [.mv 31 6,.mv 32 7,.ia 33 10 31 32,.ld 34 10 true 33,.mv 35 1,.call (some 36) 16 [34,35],.asg 1 36])) (.ops [.mv 29 7,.bin 30 .add 29 (kI 1),.asg 7 30]))))
def bA9:AC:=(.seq (.ops [.mv 37 1,.asg 4 37]) .ret)
def aZk:AC:=(.seq (.ops [.ld 23 6 true 2,.call (some 24) 29 [23],.asg 6 24]) (.seq (.seq (.ops [.asg 7 (kI 0)]) (.block 2 aKl)) bA9))
def bDc:AC:=(.seq (.ops [.box 2 29 0,.asg 4 (.c (.nil 1))]) (.seq (.seq (.ops [.asg 5 (kI 0)]) (.block 0 aMq)) aZk))
theorem bJt:bR Try.prog 14=some (bDc,[.mv 0 4],38):=by kernel_rfl
def aDc (r:(List (List UInt8))):Exit→St→Prop:=bO [.mv 0 4] fun x b=>x=(fun (y:(List (List UInt8)))=>(.osl 2000000 9 1 (y.map cStr))) r∧bZ ((fun (y:(List (List UInt8)))=>[]) r) b
def bRz (r:(List (List UInt8))):Exit→St→Prop:=(bM (wkK (avc Try.prog aZk (aDc r))) (aDc r))
def bQ6 (r:(List (List UInt8))):Exit→St→Prop:=(bP 0 (bRz r))
def bLk (r:(List (List UInt8))):Exit→St→Prop:=(bM (wkK (avc Try.prog bA9 (aDc r))) (aDc r))
def bIv (r:(List (List UInt8))):Exit→St→Prop:=(bP 2 (bLk r))
def bGv (p0:aQ) (x1:(List (List UInt8))) (x5:Int):St:=⟨[(1,(.osl 4000001 9 1 (x1.map cStr))),(2,(.ptr 2 0)),(5,(vI x5))],[(2,iU p0)]⟩
abbrev aFf (p0:aQ) (x1:(List (List UInt8))) (x5:Int) (r:(List (List UInt8))):Prop:=avc Try.prog aMq (bQ6 r) (bGv p0 x1 x5)
def bSa (y3:(List aA)) (fJ:(List (List UInt8))) (x7:Int):St:=⟨[(1,(.osl 4000001 9 1 (fJ.map cStr))),(6,(.osl 6 54 10 (y3.map aZ))),(7,(vI x7))],[]⟩
abbrev aJ8 (y3:(List aA)) (fJ:(List (List UInt8))) (x7:Int) (r:(List (List UInt8))):Prop:=avc Try.prog aKl (bIv r) (bSa y3 fJ x7)
def bCy:AC:=(.seq (.ops [.asg 4 (.c (.nil 1))]) (.seq (.seq (.ops [.mv 5 1,.bin 6 .eql 5 (.c (.d (.s (bs [])))),.mv 7 6,.g 7 false (.mv 8 0),.g 7 false (.mv 9 1),.g 7 false (.call (some 10) 30 [8,9]),.pick 11 7 (kB true) 10]) (.cond 11 (.seq (.ops [.mv 12 0,.asg 4 12]) .ret) .skip)) (.seq (.ops [.mv 13 0,.mv 14 1,.bsl 15 9 1 [14],.app 16 9 1 16 13 15,.asg 4 16]) .ret)))
theorem bLy:bR Try.prog 15=some (bCy,[.mv 0 4],17):=by kernel_rfl
def bYm (r:(List (List UInt8))):Exit→St→Prop:=bO [.mv 0 4] fun x b=>x=(fun (y:(List (List UInt8)))=>(.osl 2000000 9 1 (y.map cStr))) r∧bZ ((fun (y:(List (List UInt8)))=>[]) r) b
def bGm:AC:=(.seq (.ops [.box 3 54 1,.asg 4 (.c (.nil 3))]) (.seq (.seq (.ops [.fa 5 2 3,.ld 6 1 false 5]) (.cond 6 (.seq (.ops [.mv 7 0,.call (some 8) 35 [(kI 15)],.bsl 9 39 3 [8],.app 10 39 3 32 7 9,.asg 4 10]) .ret) .skip)) (.seq (.ops [.mv 11 0,.asg 4 11]) .ret)))
theorem bUg:bR Try.prog 70=some (bGm,[.mv 0 4],12):=by kernel_rfl
def bYi (r:(List aB)):Exit→St→Prop:=bO [.mv 0 4] fun x b=>x=(fun (y:(List aB))=>(.osl 2000000 39 3 (y.map aV))) r∧bZ ((fun (y:(List aB))=>[]) r) b
def aO2:AC:=(.seq (.dops [[],[],[],[1,2],[3],[4],[5],[6],[0,7,6],[],[],[9,10],[11],[12],[8,13,8],[14,14,0,1,2,3,4,5,6,7,8,9,10,11,12,13,14]] [.mv 44 0,.mv 45 1,.mv 46 7,.ia 47 3 45 46,.fa 48 0 47,.ld 49 1 false 48,.call (some 50) 36 [49],.bsl 51 39 3 [50],.app 52 39 3 32 44 51,.mv 53 1,.mv 54 7,.ia 55 3 53 54,.fa 56 1 55,.ld 57 1 false 56,.call (some 58) 79 [52,57],.asg 0 58]) (.seq (.ops [.mv 59 1,.mv 60 7,.ia 61 3 59 60,.fa 62 2 61,.ld 63 1 false 62,.len 64 63,.bin 65 .gtr 64 (kI 0)]) (.cond 65 (.dops [[],[],[1],[0,2,1],[],[],[4,5],[6],[7],[8],[9],[],[3,10,11,3],[12,12,0,1,2,3,4,5,6,7,8,9,10,11,12]] [.mv 66 0,.call (some 67) 35 [(kI 5)],.bsl 68 39 3 [67],.app 69 39 3 32 66 68,.mv 70 1,.mv 71 7,.ia 72 3 70 71,.fa 73 2 72,.ld 74 1 false 73,.ia 75 10 74 (kI 0),.ld 76 10 true 75,.mv 77 2,.call (some 78) 39 [69,76,77],.asg 0 78]) .skip)))
def aNm:AC:=(.seq (.seq (.ops [.mv 29 7,.bin 30 .gtr 29 (kI 0),.mv 31 30,.g 31 true (.mv 32 1),.g 31 true (.mv 33 7),.g 31 true (.ia 34 3 32 33),.g 31 true (.fa 35 2 34),.g 31 true (.ld 36 1 false 35),.g 31 true (.len 37 36),.g 31 true (.bin 38 .eql 37 (kI 0)),.pick 39 31 38 (kB false)]) (.cond 39 (.ops [.mv 40 0,.call (some 41) 38 [(.c (.d (.s (bs [44]))))],.bsl 42 39 3 [41],.app 43 39 3 32 40 42,.asg 0 43]) .skip)) aO2)
def aDm:AC:=(.ops [.mv 12 7,.bin 13 .add 12 (kI 1),.asg 7 13])
def aF4:AC:=(.loop (.seq (.seq (.ops [.mv 8 7,.mv 9 1,.len 10 9,.bin 11 .lss 8 10]) (.cond 11 .skip (.exit 0))) (.seq (.block 1 (.seq (.seq (.ops [.mv 14 7,.bin 15 .gtr 14 (kI 0),.mv 16 15,.g 16 true (.mv 17 1),.g 16 true (.mv 18 7),.g 16 true (.ia 19 3 17 18),.g 16 true (.fa 20 2 19),.g 16 true (.ld 21 1 false 20),.g 16 true (.len 22 21),.g 16 true (.bin 23 .gtr 22 (kI 0)),.pick 24 16 23 (kB false)]) (.cond 24 (.ops [.mv 25 0,.call (some 26) 35 [(kI 4)],.bsl 27 39 3 [26],.app 28 39 3 32 25 27,.asg 0 28]) .skip)) aNm)) aDm)))
def aZd:AC:=(.seq (.ops [.mv 79 0,.asg 6 79]) .ret)
def bVa:AC:=(.seq (.ops [.asg 6 (.c (.nil 3))]) (.seq (.seq (.ops [.asg 7 (kI 0)]) (.block 0 aF4)) aZd))
theorem bRo:bR Try.prog 64=some (bVa,[.mv 0 6],80):=by kernel_rfl
def bAj (r:(List aB)):Exit→St→Prop:=bO [.mv 0 6] fun x b=>x=(fun (y:(List aB))=>(.osl 2000000 39 3 (y.map aV))) r∧bZ ((fun (y:(List aB))=>[]) r) b
def bTb (r:(List aB)):Exit→St→Prop:=(bM (wkK (avc Try.prog aZd (bAj r))) (bAj r))
def aQh (r:(List aB)):Exit→St→Prop:=(bP 0 (bTb r))
def aQa (r:(List aB)):Exit→St→Prop:=(bM (avc Try.prog aF4 (aQh r)) (aQh r))
def bSp (r:(List aB)):Exit→St→Prop:=(bM (wkK (avc Try.prog aDm (aQa r))) (aQa r))
def aUu (r:(List aB)):Exit→St→Prop:=(bP 1 (bSp r))
def bF6 (p1:(List bI)) (p2:Bool) (x0:(List aB)) (x7:Int):St:=⟨[(0,(.osl 4000000 39 3 (x0.map aV))),(1,(qU p1)),(2,(vB p2)),(7,(vI x7))],[]⟩
abbrev aGi (p1:(List bI)) (p2:Bool) (x0:(List aB)) (x7:Int) (r:(List aB)):Prop:=avc Try.prog aF4 (aQh r) (bF6 p1 p2 x0 x7)
def bKj (p1:(List bI)) (p2:Bool) (x7:Int) (fP:(List aB)):St:=⟨[(0,(.osl 0 39 3 (fP.map aV))),(1,(qU p1)),(2,(vB p2)),(7,(vI x7))],[]⟩
abbrev aEp (p1:(List bI)) (p2:Bool) (x7:Int) (fP:(List aB)) (r:(List aB)):Prop:=avc Try.prog aNm (aUu r) (bKj p1 p2 x7 fP)
def bNm (p1:(List bI)) (p2:Bool) (x7:Int) (gG:(List aB)):St:=⟨[(0,(.osl 0 39 3 (gG.map aV))),(1,(qU p1)),(2,(vB p2)),(7,(vI x7))],[]⟩
abbrev aE0 (p1:(List bI)) (p2:Bool) (x7:Int) (gG:(List aB)) (r:(List aB)):Prop:=avc Try.prog aO2 (aUu r) (bNm p1 p2 x7 gG)
def bHa (p1:(List bI)) (p2:Bool) (x7:Int) (nN:(List aB)):St:=⟨[(0,(.osl 0 39 3 (nN.map aV))),(1,(qU p1)),(2,(vB p2)),(7,(vI x7))],[]⟩
abbrev aDa (p1:(List bI)) (p2:Bool) (x7:Int) (nN:(List aB)) (r:(List aB)):Prop:=avc Try.prog aDm (aQa r) (bHa p1 p2 x7 nN)
def bR9:AC:=(.seq (.ops [.asg 4 (.c (.nil 3))]) (.seq (.seq (.ops [.mv 5 1,.bin 6 .eql 5 (.c (.d (.s (bs []))))]) (.cond 6 (.seq (.ops [.mv 7 0,.asg 4 7]) .ret) .skip)) (.seq (.ops [.mv 8 0,.call (some 9) 35 [(kI 12)],.mv 10 1,.call (some 11) 36 [10],.bsl 12 39 3 [9,11],.app 13 39 3 32 8 12,.asg 4 13]) .ret)))
theorem bLi:bR Try.prog 79=some (bR9,[.mv 0 4],14):=by kernel_rfl
def bZl (r:(List aB)):Exit→St→Prop:=bO [.mv 0 4] fun x b=>x=(fun (y:(List aB))=>(.osl 2000000 39 3 (y.map aV))) r∧bZ ((fun (y:(List aB))=>[]) r) b
def aQ2:AC:=(.seq (.ops [.mv 28 0,.call (some 29) 38 [(.c (.d (.s (bs [42]))))],.bsl 30 39 3 [29],.app 31 39 3 32 28 30,.asg 6 31]) .ret)
def bCl:AC:=(.seq (.ops [.box 4 91 1,.asg 6 (.c (.nil 3))]) (.seq (.seq (.ops [.fa 7 0 4,.ld 8 1 false 7,.not 9 8]) (.cond 9 (.seq (.dops [[],[],[1],[],[0,2,3],[],[5],[4,6,4],[7,7,0,1,2,3,4,5,6,7]] [.mv 10 0,.fa 11 2 4,.ld 12 10 true 11,.mv 13 2,.call (some 14) 39 [10,12,13],.fa 15 12 4,.ld 16 1 false 15,.call (some 17) 79 [14,16],.asg 6 17]) .ret) .skip)) (.seq (.seq (.ops [.fa 18 1 4,.ld 19 1 false 18,.bin 20 .neq 19 (.c (.d (.s (bs []))))]) (.cond 20 (.ops [.mv 21 0,.fa 22 1 4,.ld 23 1 false 22,.call (some 24) 36 [23],.call (some 25) 38 [(.c (.d (.s (bs [46]))))],.bsl 26 39 3 [24,25],.app 27 39 3 32 21 26,.asg 0 27]) .skip)) aQ2)))
theorem bGe:bR Try.prog 63=some (bCl,[.mv 0 6],32):=by kernel_rfl
def bQi (r:(List aB)):Exit→St→Prop:=bO [.mv 0 6] fun x b=>x=(fun (y:(List aB))=>(.osl 2000000 39 3 (y.map aV))) r∧bZ ((fun (y:(List aB))=>[]) r) b
def bHn (x0:(List aB)):St:=⟨[(0,(.osl 0 39 3 (x0.map aV)))],[]⟩
abbrev aU8 (x0:(List aB)) (r:(List aB)):Prop:=avc Try.prog aQ2 (bQi r) (bHn x0)
def bIz:AC:=(.seq (.ops [.box 5 54 1,.asg 8 (.c (.nil 3))]) (.seq (.ops [.fa 10 8 5,.ld 11 1 false 10,.mv 12 2,.ia 13 10 11 12,.ld 14 10 true 13,.alc 9 yV,.st 10 9 14]) (.seq (.seq (.ops [.ld 15 10 true 5,.mv 16 2,.call (some 17) 80 [15,16],.mv 18 17,.g 18 false (.mv 19 3),.g 18 false (.mv 20 19),.g 20 true (.ld 21 10 true 9),.g 20 true (.call (some 22) 81 [21]),.g 20 true (.bin 23 .lss 22 (kI 9)),.g 18 false (.pick 24 20 23 (kB false)),.pick 25 18 (kB true) 24]) (.cond 25 (.seq (.dops [[],[],[1],[0,2,1],[],[],[3,4,5,3],[6,6,0,1,2,3,4,5,6]] [.mv 26 0,.call (some 27) 38 [(.c (.d (.s (bs [40]))))],.bsl 28 39 3 [27],.app 29 39 3 32 26 28,.ld 30 10 true 9,.mv 31 3,.call (some 32) 39 [29,30,31],.asg 0 32]) (.seq (.ops [.mv 33 0,.call (some 34) 38 [(.c (.d (.s (bs [41]))))],.bsl 35 39 3 [34],.app 36 39 3 32 33 35,.asg 8 36]) .ret)) .skip)) (.seq (.ops [.mv 37 0,.ld 38 10 true 9,.mv 39 3,.call (some 40) 39 [37,38,39],.asg 8 40]) .ret))))
theorem bS2:bR Try.prog 68=some (bIz,[.mv 0 8],41):=by kernel_rfl
def bZb (r:(List aB)):Exit→St→Prop:=bO [.mv 0 8] fun x b=>x=(fun (y:(List aB))=>(.osl 2000000 39 3 (y.map aV))) r∧bZ ((fun (y:(List aB))=>[]) r) b
theorem bUh (x:bN) (h:∀ d ∈ aB7 x,OkD d):okGValue x:=⟨uR _ (eQ h 0 1),uR _ (eQ h 1 1),rU _ (eQ h 2 1)⟩
mutual
theorem X8:∀ x:aA,(∀ d ∈ aZ x,OkD d)→okGExpr x
  | ⟨a0,a1,a2,a3,a4,a5,a6,a7⟩,h0=>by
    rw [jA] at h0
    have h:∀ d ∈ iM ⟨a0,a1,a2,a3,a4,a5,a6,a7⟩,OkD d:=h0
    unfold okGExpr
    exact ⟨uR _ (eQ h 0 1),uR _ (eQ h 1 1),trivial,bUh a3 (eQ h 3 3),rU _ (eQ h 6 1),rU _ (eQ h 7 1),⟨by simpa using (oZ (eQ h 8 1)).1,aGw a6 (oZ (eQ h 8 1)).2⟩,⟨by simpa using (oZ (eQ h 9 1)).1,aYl a7 (oZ (eQ h 9 1)).2⟩⟩
theorem bI4:∀ x:bH,(∀ d ∈ fH x,OkD d)→okGItem x
  | ⟨a0,a1,a2,a3⟩,h0=>by
    rw [aC4] at h0
    have h:∀ d ∈ wR ⟨a0,a1,a2,a3⟩,OkD d:=h0
    unfold okGItem
    exact ⟨trivial,rU _ (eQ h 1 1),X8 a2 (by rw [jA]; exact (eQ h 2 10)),rU _ (eQ h 12 1)⟩
theorem aXl:∀ x:aQ,(∀ d ∈ eB x,OkD d)→okGQuery x
  | ⟨a0,a1,a2,a3,a4,a5⟩,h0=>by
    rw [Q6] at h0
    have h:∀ d ∈ wN ⟨a0,a1,a2,a3,a4,a5⟩,OkD d:=h0
    unfold okGQuery
    exact ⟨trivial,⟨by simpa using (oZ (eQ h 1 1)).1,aX5 a1 (oZ (eQ h 1 1)).2⟩,⟨by simpa using (oZ (eQ h 2 1)).1,aWl a2 (oZ (eQ h 2 1)).2⟩,⟨by simpa using (oZ (eQ h 3 1)).1,aGw a3 (oZ (eQ h 3 1)).2⟩,⟨by simpa using (oZ (eQ h 4 1)).1,aTu a4 (oZ (eQ h 4 1)).2⟩,uR _ (eQ h 5 1)⟩
theorem bEh:∀ x:dU,(∀ d ∈ iI x,OkD d)→okGSortKey x
  | ⟨a0,a1⟩,h0=>by
    rw [aAh] at h0
    have h:∀ d ∈ nA ⟨a0,a1⟩,OkD d:=h0
    unfold okGSortKey
    exact ⟨X8 a0 (by rw [jA]; exact (eQ h 0 10)),trivial⟩
theorem bDu:∀ x:bI,(∀ d ∈ gY x,OkD d)→okGSource x
  | ⟨a0,a1,a2⟩,h0=>by
    rw [aQy] at h0
    have h:∀ d ∈ I9 ⟨a0,a1,a2⟩,OkD d:=h0
    unfold okGSource
    exact ⟨rU _ (eQ h 0 1),rU _ (eQ h 1 1),⟨by simpa using (oZ (eQ h 2 1)).1,aGw a2 (oZ (eQ h 2 1)).2⟩⟩
theorem aGw:∀ l:List aA,(∀ x ∈ l.map aZ,∀ d ∈ x,OkD d)→okLGExpr l
  | [],_=>by unfold okLGExpr; trivial
  | x::l,h=>by
    unfold okLGExpr
    exact ⟨X8 x (h _ (by simp)),aGw l fun y hy=>h y (List.mem_cons_of_mem _ hy)⟩
theorem aX5:∀ l:List bH,(∀ x ∈ l.map fH,∀ d ∈ x,OkD d)→okLGItem l
  | [],_=>by unfold okLGItem; trivial
  | x::l,h=>by
    unfold okLGItem
    exact ⟨bI4 x (h _ (by simp)),aX5 l fun y hy=>h y (List.mem_cons_of_mem _ hy)⟩
theorem aYl:∀ l:List aQ,(∀ x ∈ l.map eB,∀ d ∈ x,OkD d)→okLGQuery l
  | [],_=>by unfold okLGQuery; trivial
  | x::l,h=>by
    unfold okLGQuery
    exact ⟨aXl x (h _ (by simp)),aYl l fun y hy=>h y (List.mem_cons_of_mem _ hy)⟩
theorem aTu:∀ l:List dU,(∀ x ∈ l.map iI,∀ d ∈ x,OkD d)→okLGSortKey l
  | [],_=>by unfold okLGSortKey; trivial
  | x::l,h=>by
    unfold okLGSortKey
    exact ⟨bEh x (h _ (by simp)),aTu l fun y hy=>h y (List.mem_cons_of_mem _ hy)⟩
theorem aWl:∀ l:List bI,(∀ x ∈ l.map gY,∀ d ∈ x,OkD d)→okLGSource l
  | [],_=>by unfold okLGSource; trivial
  | x::l,h=>by
    unfold okLGSource
    exact ⟨bDu x (h _ (by simp)),aWl l fun y hy=>h y (List.mem_cons_of_mem _ hy)⟩
end
theorem cAa (x:bD) (h:∀ d ∈ aNs x,OkD d):okGStmt x:=⟨uR _ (eQ h 0 1),aXl x.query (by rw [Q6]; exact eQ h 1 6),rU _ (eQ h 7 1),yE _ (fun y hy=>yE _ (fun y hy=>X8 y hy) hy) (eQ h 8 1),yE _ (fun y hy=>rU _ hy) (eQ h 9 1),yE _ (fun y hy=>X8 y hy) (eQ h 10 1),yE _ (fun y hy=>X8 y hy) (eQ h 11 1)⟩
theorem bYd (x:aB) (h:∀ d ∈ aV x,OkD d):okGToken x:=⟨uR _ (eQ h 0 1),rU _ (eQ h 1 1),uR _ (eQ h 2 1)⟩
theorem bYs (x:dD) (h:∀ d ∈ aPq x,OkD d):okGTables x:=yE _ (fun y hy=>rU _ hy) (eQ h 0 1)
theorem bXf (x:aJ) (h:∀ d ∈ aKq x,OkD d):okGL1Cur x:=⟨yE _ (fun y hy=>aYr _ hy) (eQ h 0 1),uR _ (eQ h 1 1),uR _ (eQ h 2 1)⟩
theorem de5 {l:List D} (h:WtC Try.prog 5 l):∃ x:Int,l=cU8 x:=(bPw h (k:=.u8) kr)
theorem bW0 {l:List D} (h:WtC Try.prog 22 l):∃ x:(List Int),l=(cSl 1 cU8) x:=(bQj h (e:=5) (n:=1) (c:=cU8) kr kr fun x hx=>de5 hx)
theorem bOz (p0:aQ):(∀ (lK:(List aA)) (x46:Int) (r:(List aA)),xI p0 lK x46=some r→aFk p0 lK x46 r):=by
 refine xI.partial_correctness p0 (fun lK x46 r=>aFk p0 lK x46 r) ?_
 · intro cAb aL5 lK x46 r h;delta aFk aJp;refine dI (si (oi (sx 1 (ni (xi (si ?_))))));refine cd h (fun h=>?_) fun h=>?_;exact ki (xi (si (bi (si (oi (iq h fun y9 h=>(sx 3 (ni (xi (oi (sx 3 (dY (l:=([y9.expr]:List aA)) (f:=aZ) (g:=iM) kr jA kr (aq 3 aZ h fun y10 h=>(sx 1 (ni (bn (xi (oi (sx 2 (ni (lbs (aL5 _ _ _ h) (wr [(3,.old 3)] (eo 3 (es (es (es aU)))) aR))))))))))))))))))))));refine ei (te (te (bh (xi (si (oi (sx 2 (ni (xi (dN (s':=⟨[(2,(.osl 2000000 54 10 (lK.map aZ)))],[]⟩) (wr [(2000000,.old 2)] (eo 2 aU) aR) ?_))))))))));injection h with h; subst h;exact rb
theorem aL5 (p0:aQ) (lK:(List aA)) (x46:Int) (r:(List aA)) (h:xI p0 lK x46=some r):aFk p0 lK x46 r:=(bOz p0) lK x46 r h
theorem bCp (p0:aQ):(∀ (dF:(List aA)) (x30:Int) (r:(List aA)),yK p0 dF x30=some r→aF9 p0 dF x30 r):=by
 refine yK.partial_correctness p0 (fun dF x30 r=>aF9 p0 dF x30 r) ?_
 · intro bX9 aL6 dF x30 r h;delta aF9 aLv;refine dI (si (oi (sx 1 (ni (xi (si ?_))))));refine cd h (fun h=>?_) fun h=>?_;exact ki (xi (si (bi (si (oi (iq h fun y5 h=>(sx 3 (ni (xi (oi (sx 3 (aq 3 aZ h fun y6 h=>(sx 1 (ni (bn (xi (oi (sx 2 (ni (lbs (aL6 _ _ _ h) (wr [(3,.old 3)] (es (eo 3 (es (es (es aU))))) (bs_ aR))))))))))))))))))))));exact ei (te (te (bh (xi (si (oi (sx 3 (aq 3 aZ h fun y7 h=>(sx 1 (ni (xi (si (si (oi (sx 2 (lq p0.order (sx 1 (ni (xi (bi (lgs (aL5 _ _ _ _ h) (wr [(3,.old 3)] (eo 3 (es (es (es aU)))) aR))))))))))))))))))))))
theorem aL6 (p0:aQ) (dF:(List aA)) (x30:Int) (r:(List aA)) (h:yK p0 dF x30=some r):aF9 p0 dF x30 r:=(bCp p0) dF x30 r h
theorem aV7 (p0:aQ):(∀ (x14:Int) (dX:(List aA)) (r:(List aA)),Y4 p0 x14 dX=some r→aF3 p0 x14 dX r)∧(∀ (x3:(List aA)) (x14:Int) (r:(List aA)),Q4 p0 x3 x14=some r→aEz p0 x3 x14 r):=by
 refine Y4.mutual_partial_correctness p0 (fun x14 dX r=>aF3 p0 x14 dX r) (fun x3 x14 r=>aEz p0 x3 x14 r) ?_ ?_
 · intro bZw aPd x14 dX r h;delta aF3 aK2;exact oi (sx 2 (ni (lbs (aPd _ _ _ h) (wr [(3,.old 3)] (es (eo 3 (es (es (es aU))))) (bs_ aR)))))
 · intro bZx aNg x3 x14 r h;delta aEz aGu;refine dI (si (oi (sx 1 (ni (xi (si ?_))))));refine cd h (fun h=>?_) fun h=>?_;refine ki (xi (si (bi (si (oi (iq h fun y1 h=>(sx 3 (ni (xi (si (oi (sx 3 (ni (xi ?_))))))))))))));refine cd h (fun h=>?_) fun h=>?_;exact oi (sx 3 (dY (l:=([y1.expr]:List aA)) (f:=aZ) (g:=iM) kr jA kr (aq 3 aZ h fun y2 h=>(sx 1 (ni (bn (nxs (aNg _ _ _ h) (wr [(3,.old 3)] (es (eo 3 (es (es (es aU))))) (bs_ aR)))))))));exact ki (bn (nxs (aNg _ _ _ h) (wr [(3,.old 3)] (es (eo 3 (es (es (es aU))))) (bs_ aR))));exact ei (te (te (bh (xi (si (si (oi (sx 2 (lq p0.from_ (sx 1 (ni (xi (bi (lgs (aL6 _ _ _ _ h) (wr [(3,.old 3)] (es (eo 3 (es (es (es aU))))) (bs_ aR))))))))))))))))
theorem aNg (p0:aQ) (x14:Int) (dX:(List aA)) (r:(List aA)) (h:Y4 p0 x14 dX=some r):aF3 p0 x14 dX r:=(aV7 p0).1 x14 dX r h
theorem aPd (p0:aQ) (x3:(List aA)) (x14:Int) (r:(List aA)) (h:Q4 p0 x3 x14=some r):aEz p0 x3 x14 r:=(aV7 p0).2 x3 x14 r h
theorem aXv (p0:aQ):dZ Try.prog 28 [(iP p0)] [] (fun (y:(List aA))=>(.osl 2000000 54 10 (y.map aZ))) (fun (y:(List aA))=>[]) (qY p0):=by
 intro r h
 rw [qY] at h;refine ao bDm (si (oi (sx 2 (ni (xi (si (oi (dY (l:=([]:List aA)) (f:=aZ) (g:=iM) kr jA kr (sx 1 (ni (xi (si (si (oi (sx 2 (lq p0.items (sx 1 (ni (xi (bi ?_))))))))))))))))))));exact lgs (aPd _ _ _ _ h) (wr [(3,.old 3)] (es (eo 3 (es (es (es aU))))) (bs_ aR))
theorem bR7 (p0:bD):(∀ (x3:(List aA)) (x12:Int) (r:(List aA)),C9 p0 x3 x12=some r→aF7 p0 x3 x12 r):=by
 refine C9.partial_correctness p0 (fun x3 x12 r=>aF7 p0 x3 x12 r) ?_
 · intro bYf aPn x3 x12 r h;delta aF7 aLr;refine dI (si (oi (sx 1 (ni (xi (si ?_))))));refine cd h (fun h=>?_) fun h=>?_;exact ki (xi (si (bi (si (oi (iq h fun y2 h=>(sx 2 (ni (xi (oi (sx 2 (aq 3 aZ h fun y3 h=>(sx 1 (ni (bn (xi (oi (sx 2 (ni (lbs (aPn _ _ _ h) (wr [(3,.old 3)] (es (eo 3 (es (es (es aU))))) (bs_ aR))))))))))))))))))))));refine ei (te (te (bh (xi (si (oi (sx 3 (aq 3 aZ h fun y4 h=>(sx 1 (ni (xi (si (oi (sx 3 (aq 3 aZ h fun y5 h=>(sx 1 (ni (xi (dN (s':=⟨[(2,(.osl 2000000 54 10 (y5.map aZ)))],[]⟩) (wr [(2000000,.old 2)] (eo 2 aU) aR) ?_)))))))))))))))))));injection h with h; subst h;exact rb
theorem aPn (p0:bD) (x3:(List aA)) (x12:Int) (r:(List aA)) (h:C9 p0 x3 x12=some r):aF7 p0 x3 x12 r:=(bR7 p0) x3 x12 r h
theorem bRw (p0:bD):dZ Try.prog 13 [(kJ p0)] [] (fun (y:(List aA))=>(.osl 2000000 54 10 (y.map aZ))) (fun (y:(List aA))=>[]) (O8 p0):=by
 intro r h
 rw [O8] at h;refine ao bHv (si (oi (sx 2 (ni (xi (si (oi (sx 2 (cg ⟨[],[],[],[],[],[(2000000,8)],[],[8],[]⟩ h (aXv _) fun y1 h=>(sx 1 (ni (xi (si (si (oi (sx 2 (lq p0.rows (sx 1 (ni (xi (bi ?_)))))))))))))))))))));exact lgs (aPn _ _ _ _ h) (wr [(3,.old 3)] (es (eo 3 (es (es (es aU))))) (bs_ aR))
theorem bMb (p0:(List (List UInt8))) (p1:(List UInt8)):(∀ (x8:Int) (r:Int),yM p0 p1 x8=some r→aI2 p0 p1 x8 r):=by
 refine yM.partial_correctness p0 p1 (fun x8 r=>aI2 p0 p1 x8 r) ?_
 · intro bXy aK8 x8 r h;delta aI2 aMy;refine dI (si (oi (sx 1 (ni (xi (si ?_))))));refine cd h (fun h=>?_) fun h=>?_;refine ki (xi (si (bi (si (oi (sx 2 (ni (xi (si (oi (sx 3 (iq h fun y1 h=>(sx 2 (ni (xi ?_)))))))))))))));refine cd h (fun h=>?_) fun h=>?_;refine si (oi (sx 2 (ni (xi (ri (br (tr (tr (br (tr ?_))))))))));injection h with h; subst h;exact rp;exact ki (bn (xi (oi (sx 2 (ni (lbs (aK8 _ _ h) (wr [] (es (es (es (es aU)))) aR)))))));refine ei (te (te (bh (xi (si (oi (sx 1 (ni (xi (ri ?_))))))))));injection h with h; subst h;exact rp
theorem aK8 (p0:(List (List UInt8))) (p1:(List UInt8)) (x8:Int) (r:Int) (h:yM p0 p1 x8=some r):aI2 p0 p1 x8 r:=(bMb p0 p1) x8 r h
theorem bEa (p0:(List (List UInt8))) (p1:(List UInt8)):FOk Try.prog 53 [(H8 p0),(vS p1)] (fun y=>(vI y)) (aIs p0 p1):=by
 intro r h
 rw [aIs] at h;exact ao bMt (si (oi (sx 1 (ni (xi (si (si (oi (sx 1 (lq p0 (sx 1 (ni (xi (bi (lgs (aK8 _ _ _ _ h) (wr [] (es (es (es (es aU)))) aR))))))))))))))))
theorem bRf (p0:(List (List UInt8))) (p1:(List UInt8)):FOk Try.prog 27 [(H8 p0),(vS p1)] (fun y=>(vB y)) (aAl p0 p1):=by
 intro r h
 rw [aAl] at h;refine ao bWq (si (oi (sx 1 (ni (xi (si (oi (sx 2 (cs h (bEa _ _) fun y1 h=>(sx 2 (ni (xi (ri ?_)))))))))))));injection h with h; subst h;exact rp
theorem aY0 (p0:dD) (p1:(List UInt8)):dZ Try.prog 10 [(.ptr 1000000 0),(vS p1)] [(1000000,[(.osl 6000000 9 1 (p0.list.map cStr))])] (fun (y:dD)=>(.tup [])) (fun (y:dD)=>[(1000000,[(.osl 6000000 9 1 (y.list.map cStr))])]) (P9 p0 p1):=by
 intro r h
 rw [P9] at h;refine ao bMu (si (oi (sx 3 (gq 0 (gq 1 (gq 1 (gq 1 (gq 0 (gc 2 h (bRf _ _) fun y1 h=>(gq 1 (pkA h fun y2 h=>(ni (xi ?_)))))))))))));refine cd h (fun h=>?_) fun h=>?_;refine oi (sx 6 (dY (l:=([p1]:List (List UInt8))) (f:=cStr) (g:=cStr) kr (fun _=>rfl) kr (aq 6000000 cStr h fun y3 h=>(sx 3 (ni ?_)))));refine aHi (s':=⟨[],[(1000000,[(.osl 6000000 9 1 (y3.map cStr))])]⟩) (wr [(6000000,.old 22)] aU (dL (c0:=[(.osl 22 9 1 (y3.map cStr))]) kr (aL (iZ (t:=22) kr kr) (dJ)) aR)) ?_;injection h with h; subst h;exact r0b;refine ki (aHi (s':=⟨[],[(1000000,[(.osl 6000000 9 1 (p0.list.map cStr))])]⟩) (wr [(6000000,.old 6000000)] aU (dL (c0:=[(.osl 6000000 9 1 (p0.list.map cStr))]) kr (aL (iZ (t:=6000000) kr kr) (dJ)) aR)) ?_);injection h with h; subst h;exact r0b
theorem bCf (p1:aQ):(∀ (x9:Int) (bC:(List (List UInt8))) (r:dD),F7 p1 x9 bC=some r→aHj p1 x9 bC r):=by
 refine F7.partial_correctness p1 (fun x9 bC r=>aHj p1 x9 bC r) ?_
 · intro cA6 aMa x9 bC r h;delta aHj aQ7;refine dI (si (oi (sx 1 (ni (xi (si ?_))))));refine cd h (fun h=>?_) fun h=>?_;refine ki (xi (si (bi (si (oi (iq h fun y1 h=>(sx 3 (ni (xi (oi (sx 3 (cg ⟨[(1000000,1000000)],[(6000000,6000000)],[],[],[],[(6000000,6000000)],[],[6000000],[]⟩ h (aY0 _ _) fun y2 h=>(ni (bn (xi (oi (sx 2 (ni ?_))))))))))))))))));exact lbs (aMa _ _ _ h) (wr [(6000000,.old 6000000)] (es (es (es (es aU)))) (dL (c0:=[(.osl 6000000 9 1 (y2.list.map cStr))]) kr (aL (iZ (t:=6000000) kr kr) (dJ)) aR));refine ei (te (te (bh (aHi (s':=⟨[],[(1000000,[(.osl 6000000 9 1 (bC.map cStr))])]⟩) (wr [(6000000,.old 6000000)] aU (dL (c0:=[(.osl 6000000 9 1 (bC.map cStr))]) kr (aL (iZ (t:=6000000) kr kr) (dJ)) aR)) ?_))));injection h with h; subst h;exact r0b
theorem aMa (p1:aQ) (x9:Int) (bC:(List (List UInt8))) (r:dD) (h:F7 p1 x9 bC=some r):aHj p1 x9 bC r:=(bCf p1) x9 bC r h
theorem aTj (p0:dD) (p1:aQ):dZ Try.prog 11 [(.ptr 1000000 0),(iP p1)] [(1000000,[(.osl 6000000 9 1 (p0.list.map cStr))])] (fun (y:dD)=>(.tup [])) (fun (y:dD)=>[(1000000,[(.osl 6000000 9 1 (y.list.map cStr))])]) (Y0 p0 p1):=by
 intro r h
 rw [Y0] at h;exact ao bQ7 (si (oi (sx 1 (ni (xi (si (oi (sx 2 (lq p1.from_ (sx 1 (ni (xi (bi (lgs (aMa _ _ _ _ h) (wr [(6000000,.old 6000000)] (es (es (es (es aU)))) (dL (c0:=[(.osl 6000000 9 1 (p0.list.map cStr))]) kr (aL (iZ (t:=6000000) kr kr) (dJ)) aR))))))))))))))))
theorem aQf:(∀ (p1:(List aA)) (x10:Int) (y1:aA) (x21:Int) (lH:(List (List UInt8))) (r:dD),A7 p1 x10 y1 x21 lH=some r→aHd p1 x10 y1 x21 lH r)∧(∀ (p1:(List aA)) (x10:Int) (bC:(List (List UInt8))) (r:dD),Q0 p1 x10 bC=some r→aE8 p1 x10 bC r)∧(∀ (p0:dD) (p1:(List aA)) (r:dD),xV p0 p1=some r→dC Try.prog 12 [(.ptr 1000000 0),(iL p1)] [(1000000,[(.osl 6000000 9 1 (p0.list.map cStr))])] fun x b=>x=(fun (y:dD)=>(.tup [])) r∧bZ ((fun (y:dD)=>[(1000000,[(.osl 6000000 9 1 (y.list.map cStr))])]) r) b):=by
 refine A7.mutual_partial_correctness (fun p1 x10 y1 x21 lH r=>aHd p1 x10 y1 x21 lH r) (fun p1 x10 bC r=>aE8 p1 x10 bC r) (fun p0 p1 r=>dC Try.prog 12 [(.ptr 1000000 0),(iL p1)] [(1000000,[(.osl 6000000 9 1 (p0.list.map cStr))])] fun x b=>x=(fun (y:dD)=>(.tup [])) r∧bZ ((fun (y:dD)=>[(1000000,[(.osl 6000000 9 1 (y.list.map cStr))])]) r) b) ?_ ?_ ?_
 · intro bM1 bJs bF5 aIi aHs aCt p1 x10 y1 x21 lH r h;delta aHd aQv;refine dI (si (oi (sx 1 (ni (xi (si ?_))))));refine cd h (fun h=>?_) fun h=>?_;refine ki (xi (si (bi (si (oi (iq h fun y4 h=>(sx 3 (ni (xi (si (oi (sx 2 (cg ⟨[(1000000,1000000)],[(6000000,6000000)],[],[],[],[(6000000,6000000)],[],[6000000],[]⟩ h (aTj _ _) fun y5 h=>(ni (xi (oi (sx 2 (cg ⟨[],[],[],[],[],[(2000000,30)],[],[30],[]⟩ h (aXv _) fun y6 h=>?_))))))))))))))))));refine cg ⟨[(1000000,1000000)],[(6000000,6000000)],[],[],[],[(6000000,6000000)],[],[6000000],[]⟩ h (aCt _ _) fun y7 h=>(ni (bn (xi (oi (sx 2 (ni ?_))))));exact lbs (aIi _ _ _ _ _ _ h) (wr [(6000000,.old 6000000)] (es (es (es (es (es (es (es aU))))))) (dL (c0:=[(.osl 6000000 9 1 (y7.list.map cStr))]) kr (aL (iZ (t:=6000000) kr kr) (dJ)) aR));exact ei (te (te (bh (bn (xi (oi (sx 2 (ni (lbs (aHs _ _ _ _ h) (wr [(6000000,.old 6000000)] (es (es (es (es aU)))) (dL (c0:=[(.osl 6000000 9 1 (lH.map cStr))]) kr (aL (iZ (t:=6000000) kr kr) (dJ)) aR)))))))))))
 · intro bM1 bF5 aIi aCt p1 x10 bC r h;delta aE8 aG7;refine dI (si (oi (sx 1 (ni (xi (si ?_))))));refine cd h (fun h=>?_) fun h=>?_;refine ki (xi (si (bi (si (oi (iq h fun y1 h=>(sx 3 (ni (xi (si (oi (sx 3 (cg ⟨[(1000000,1000000)],[(6000000,6000000)],[],[],[],[(6000000,6000000)],[],[6000000],[]⟩ h (aCt _ _) fun y2 h=>(ni (xi (si (oi (sx 2 (lq y1.sub (sx 1 (ni (xi (bi ?_)))))))))))))))))))))));exact lgs (aIi _ _ _ _ _ _ h) (wr [(6000000,.old 6000000)] (es (es (es (es (es (es (es aU))))))) (dL (c0:=[(.osl 6000000 9 1 (y2.list.map cStr))]) kr (aL (iZ (t:=6000000) kr kr) (dJ)) aR));refine ei (te (te (bh (aHi (s':=⟨[],[(1000000,[(.osl 6000000 9 1 (bC.map cStr))])]⟩) (wr [(6000000,.old 6000000)] aU (dL (c0:=[(.osl 6000000 9 1 (bC.map cStr))]) kr (aL (iZ (t:=6000000) kr kr) (dJ)) aR)) ?_))));injection h with h; subst h;exact r0b
 · intro bJs aHs p0 p1 r h;exact ao bF2 (si (oi (sx 1 (lq p1 (sx 1 (ni (xi (bi (lgs (aHs _ _ _ _ h) (wr [(6000000,.old 6000000)] (es (es (es (es aU)))) (dL (c0:=[(.osl 6000000 9 1 (p0.list.map cStr))]) kr (aL (iZ (t:=6000000) kr kr) (dJ)) aR)))))))))))
theorem aIi (p1:(List aA)) (x10:Int) (y1:aA) (x21:Int) (lH:(List (List UInt8))) (r:dD) (h:A7 p1 x10 y1 x21 lH=some r):aHd p1 x10 y1 x21 lH r:=(aQf).1 p1 x10 y1 x21 lH r h
theorem aHs (p1:(List aA)) (x10:Int) (bC:(List (List UInt8))) (r:dD) (h:Q0 p1 x10 bC=some r):aE8 p1 x10 bC r:=(aQf).2.1 p1 x10 bC r h
theorem aCt (p0:dD) (p1:(List aA)):dZ Try.prog 12 [(.ptr 1000000 0),(iL p1)] [(1000000,[(.osl 6000000 9 1 (p0.list.map cStr))])] (fun (y:dD)=>(.tup [])) (fun (y:dD)=>[(1000000,[(.osl 6000000 9 1 (y.list.map cStr))])]) (xV p0 p1):=fun r h=>(aQf).2.2 p0 p1 r h
theorem bGw (p0:bD):dZ Try.prog 6 [(kJ p0)] [] (fun (y:(List (List UInt8)))=>(.osl 2000000 9 1 (y.map cStr))) (fun (y:(List (List UInt8)))=>[]) (X3 p0):=by
 intro r h
 rw [X3] at h;refine ao bE7 (si (oi (sx 2 (ni (xi (si (oi (kV (c:=[(.nil 1)]) kr kr rfl (sx 2 (ni (xi (si (oi (sx 3 (cg ⟨[(1000000,5)],[],[(6000000,9,1)],[],[[some 6000000]],[(6000000,5014500)],[],[5014500],[]⟩ h (aY0 _ _) fun y1 h=>(ni (xi (si (oi (sx 3 ?_))))))))))))))))))));refine cg ⟨[(1000000,5)],[(6000000,5014500)],[],[],[],[(6000000,5014500)],[],[5014500],[]⟩ h (aTj _ _) fun y2 h=>(ni (xi (si (oi (sx 2 (cg ⟨[],[],[],[],[],[(2000000,16)],[],[16],[]⟩ h (bRw _) fun y3 h=>(cg ⟨[(1000000,5)],[(6000000,5014500)],[],[],[],[(6000000,5014500)],[],[5014500],[]⟩ h (aCt _ _) fun y4 h=>(ni (xi ?_)))))))));refine si (oi (sx 5 (ni (xi (dN (s':=⟨[(2,(.osl 2000000 9 1 (y4.list.map cStr)))],[]⟩) (wr [(2000000,.old 2)] (eo 2 aU) aR) ?_)))));injection h with h; subst h;exact rb
theorem bAb (p0:aJ) (x3:Int) (bJ:Int) (r:Int×aJ) (h:aC5 p0 x3 bJ=some r):aXt p0 x3 bJ r:=by
 rw [aC5] at h;delta aXt aJx;refine si (oi (sx 2 (ni (xi (ri ?_)))));injection h with h; subst h;exact rb
theorem R6 (p0:aJ):dZ Try.prog 45 [(.ptr 1000000 0)] [(1000000,bG p0)] (fun (y:Int×aJ)=>(vI y.1)) (fun (y:Int×aJ)=>[(1000000,bG y.2)]) (uI p0):=by
 intro r h
 rw [uI] at h;refine ao bPj (si (oi (sx 1 (ni (xi (si (oi (sx 10 (ni (xi (si (fD (dsx 13 (fC kr kr (xi (si (si (fD (dsx 8 (bAs cU8 p0.b (dsx 1 (fC kr kr (xi ?_)))))))))))))))))))))));refine cd h (fun h=>?_) fun h=>?_;exact si (fD (dsx 9 (bQ8 cU8 h fun y1 h=>(dsx 5 (fC kr kr (xi (oi (sx 9 (ni (nxs (bAb _ _ _ _ h) (wr [] (es aU) (bs_ aR))))))))))));exact ki (nxs (bAb _ _ _ _ h) (wr [] (es aU) (bs_ aR)))
theorem gI (p0:aJ) (p1:Int):dZ Try.prog 21 [(.ptr 1000000 0),(vI p1)] [(1000000,bG p0)] (fun (y:Int×aJ)=>(vI y.1)) (fun (y:Int×aJ)=>[(1000000,bG y.2)]) (fI p0 p1):=by
 intro r h
 rw [fI] at h;refine ao bVo (si (oi (sx 1 (ni (xi (si (si (oi (sx 2 (ni (xi ?_)))))))))));refine cd h (fun h=>?_) fun h=>?_;refine si (oi (sx 1 (ni (xi (ri (tr ?_))))));injection h with h; subst h;exact rb;refine ki (xi (si (si (oi (sx 2 (ni (xi ?_)))))));refine cd h (fun h=>?_) fun h=>?_;refine si (oi (sx 1 (cg ⟨[(1000000,1000000)],[],[],[],[],[],[],[],[]⟩ h (R6 _) fun y1 h=>(sx 1 (vs (fun (y:Int)=>(vI y)) h (fun y hy=>aYk (k:=.i64) (a:=y1.1) (b:=p1) hy kr kr kr) fun y2 h=>(sx 1 (ni (xi (ri (tr ?_))))))))));injection h with h; subst h;exact rb;refine ki (xi (si (oi (sx 1 (cg ⟨[(1000000,1000000)],[],[],[],[],[],[],[],[]⟩ h (R6 _) fun y3 h=>(sx 1 (ni (xi (si (oi (sx 1 (cg ⟨[(1000000,1000000)],[],[],[],[],[],[],[],[]⟩ h (R6 _) fun y4 h=>(sx 1 (ni (xi (si (oi (sx 1 (cg ⟨[(1000000,1000000)],[],[],[],[],[],[],[],[]⟩ h (R6 _) fun y5 h=>(sx 1 (ni (xi (si (oi (sx 1 ?_)))))))))))))))))))))))));refine cg ⟨[(1000000,1000000)],[],[],[],[],[],[],[],[]⟩ h (R6 _) fun y6 h=>(sx 1 (ni (xi (si (oi (sx 11 ?_))))));refine vs (fun (y:Int)=>(vI y)) h (fun y hy=>aYk (k:=.i64) (a:=(IntKind.wrap .i64 ((IntKind.wrap .i64 ((IntKind.wrap .i64 ((IntKind.wrap .i64 (y3.1 * 16777216))+(IntKind.wrap .i64 (y4.1 * 65536))))+(IntKind.wrap .i64 (y5.1 * 256))))+y6.1))) (b:=p1) hy kr kr kr) fun y7 h=>(sx 1 (ni (xi (ri ?_))));injection h with h; subst h;exact rb
theorem bUe (p0:(List Int)):(∀ (x3:Int) (x4:Int) (r:aJ),yI p0 x3 x4=some r→aJg p0 x3 x4 r):=by
 refine yI.partial_correctness p0 (fun x3 x4 r=>aJg p0 x3 x4 r) ?_
 · intro cA0 aOl x3 x4 r h;delta aJg aR0;refine dI (si (si (oi (sx 2 (lqf cU8 p0 (sx 2 (gq 0 (gq 1 (pkA h fun y1 h=>(ni (xi ?_)))))))))));refine cd h (fun h=>?_) fun h=>?_;exact ki (xi (si (bi (oi (sx 4 (iqf cU8 h fun y2 h=>(sx 6 (ni (bn (xi (oi (sx 3 (ni (lbs (aOl _ _ _ h) (wr [] (es (es (es aU))) aR)))))))))))))));refine ei (te (te (bh (xi (si (oi (sx 5 (ni (xi (ri ?_))))))))));injection h with h; subst h;exact rb
theorem aOl (p0:(List Int)) (x3:Int) (x4:Int) (r:aJ) (h:yI p0 x3 x4=some r):aJg p0 x3 x4 r:=(bUe p0) x3 x4 r h
theorem bPu (p0:(List Int)):dZ Try.prog 19 [(gU p0)] [] (fun (y:aJ)=>(.ptr 31 0)) (fun (y:aJ)=>[(31,bG y)]) (aBn p0):=by
 intro r h
 rw [aBn] at h;exact ao bP3 (si (oi (sx 1 (ni (xi (si (oi (sx 1 (lqf cU8 p0 (sx 2 (ni (xi (si (si (oi (sx 1 (ni (xi (bi (lgs (aOl _ _ _ _ h) (wr [] (es (es (es aU))) aR)))))))))))))))))))))
theorem bMz (p0:(List Int)) (p1:Int):FOk Try.prog 22 [(gU p0),(vI p1)] (fun y=>(vI y)) (aC7 p0 p1):=by
 intro r h
 rw [aC7] at h;refine ao bSi (si (oi (sx 1 (ni (xi (si (oi (sx 1 (lqf cU8 p0 (sx 3 (ni (xi (si (si (oi (sx 3 (ni (xi ?_))))))))))))))))));refine cd h (fun h=>?_) fun h=>?_;refine si (oi (sx 2 (ni (xi (ri (tr ?_))))));injection h with h; subst h;exact rp;refine ki (xi (si (oi (sx 2 (ni (xi (ri ?_)))))));injection h with h; subst h;exact rp
theorem bRn (p1:Int):(∀ (x5:(List Int)) (x6:Int) (bC:(List Int)) (bJ:Int) (bS:Int) (r:(List Int)×aJ),wX p1 x5 x6 bC bJ bS=some r→aIm p1 x5 x6 bC bJ bS r):=by
 refine wX.partial_correctness p1 (fun x5 x6 bC bJ bS r=>aIm p1 x5 x6 bC bJ bS r) ?_
 · intro bYg aNa x5 x6 bC bJ bS r h;delta aIm aP3;refine dI (si (si (oi (sx 3 (ni (xi ?_))))));refine cd h (fun h=>?_) fun h=>?_;refine ki (xi (si (bi (oi (sx 2 (cg ⟨[(1000000,1000000)],[],[],[],[],[],[],[],[]⟩ h (R6 _) fun y1 h=>(sx 1 (dY (l:=([(IntKind.wrap .u8 y1.1)]:List Int)) (f:=cU8) (g:=cU8) kr (fun _=>rfl) kr (aq 5 cU8 h fun y2 h=>(sx 1 (ni (bn (xi (oi (sx 3 (ni ?_))))))))))))))));exact lbs (aNa _ _ _ _ _ _ h) (wr [(5,.old 5)] (es (es (eo 5 (es aU)))) (bs_ aR));refine ei (te (te (bh (xi (si (oi (sx 2 (ni (xi ?_)))))))));refine dN (s':=⟨[(4,(.osl 2000000 5 1 (x5.map cU8)))],[(1000000,bG (aJ.mk bC bJ bS))]⟩) (wr [(2000000,.old 4)] (eo 4 aU) (dL (c0:=[(gU bC),(vI bJ),(vI bS)]) kr (aL (aP kr kr) (aL (aP kr kr) (aL (aP kr kr) (dJ)))) aR)) ?_;injection h with h; subst h;exact rb
theorem aNa (p1:Int) (x5:(List Int)) (x6:Int) (bC:(List Int)) (bJ:Int) (bS:Int) (r:(List Int)×aJ) (h:wX p1 x5 x6 bC bJ bS=some r):aIm p1 x5 x6 bC bJ bS r:=(bRn p1) x5 x6 bC bJ bS r h
theorem bJl (p0:aJ) (p1:Int):dZ Try.prog 48 [(.ptr 1000000 0),(vI p1)] [(1000000,bG p0)] (fun (y:(List Int)×aJ)=>(.osl 2000000 5 1 (y.1.map cU8))) (fun (y:(List Int)×aJ)=>[(1000000,bG y.2)]) (aOi p0 p1):=by
 intro r h
 rw [aOi] at h;exact ao bKw (si (oi (sx 1 (ni (xi (si (oi (dY (l:=([]:List Int)) (f:=cU8) (g:=cU8) kr (fun _=>rfl) kr (sx 1 (ni (xi (si (si (oi (sx 1 (ni (xi (bi (lgs (aNa _ _ _ _ _ _ _ h) (wr [(5,.old 5)] (es (es (eo 5 (es aU)))) (bs_ aR)))))))))))))))))))))
theorem vO (p0:aJ) (p1:(List (List UInt8))):dZ Try.prog 46 [(.ptr 1000000 0),(H8 p1)] [(1000000,bG p0)] (fun (y:(List UInt8)×aJ)=>(vS y.1)) (fun (y:(List UInt8)×aJ)=>[(1000000,bG y.2)]) (oM p0 p1):=by
 intro r h
 rw [oM] at h;refine ao bHf (si (oi (sx 1 (ni (xi (si (oi (sx 3 (lq p1 (cg ⟨[(1000000,1000000)],[],[],[],[],[],[],[],[]⟩ h (gI _ _) fun y1 h=>(iq h fun y2 h=>(sx 2 (ni (xi (ri ?_)))))))))))))));injection h with h; subst h;exact rb
theorem jK (p0:aJ) (p1:Int):dZ Try.prog 44 [(.ptr 1000000 0),(vI p1)] [(1000000,bG p0)] (fun (y:Bool×aJ)=>(vB y.1)) (fun (y:Bool×aJ)=>[(1000000,bG y.2)]) (fV p0 p1):=by
 intro r h
 rw [fV] at h;refine ao bFw (si (oi (sx 1 (ni (xi (si (oi (sx 2 (cg ⟨[(1000000,1000000)],[],[],[],[],[],[],[],[]⟩ h (gI _ _) fun y1 h=>(sx 2 (ni (xi (ri ?_)))))))))))));injection h with h; subst h;exact rb
theorem O1 (p0:aJ):dZ Try.prog 42 [(.ptr 1000000 0)] [(1000000,bG p0)] (fun (y:(List UInt8)×aJ)=>(vS y.1)) (fun (y:(List UInt8)×aJ)=>[(1000000,bG y.2)]) (sI p0):=by
 intro r h
 rw [sI] at h;refine ao bF8 (si (oi (sx 1 (ni (xi (si (si (oi (sx 1 (cg ⟨[(1000000,1000000)],[],[],[],[],[],[],[],[]⟩ h (jK _ _) fun y1 h=>(ni (xi ?_))))))))))));refine cd h (fun h=>?_) fun h=>?_;refine si (oi (sx 1 (dY (l:=([[97,32,98],[102,114,111,109],[83,101,108,101,99,116],[49,120],[113,34,113],[0],[34],[105,116,39,115],[120,46,121],[45]]:List (List UInt8))) (f:=cStr) (g:=cStr) kr (fun _=>rfl) kr (cg ⟨[(1000000,1000000)],[],[],[],[],[],[],[],[]⟩ h (vO _ _) fun y2 h=>(sx 1 (ni (xi (ri (tr ?_)))))))));injection h with h; subst h;exact rb;refine ki (xi (si (oi (sx 1 (dY (l:=([[97],[98],[99],[116],[117],[118],[105,100],[110,97,109,101],[65],[95,120,49]]:List (List UInt8))) (f:=cStr) (g:=cStr) kr (fun _=>rfl) kr (cg ⟨[(1000000,1000000)],[],[],[],[],[],[],[],[]⟩ h (vO _ _) fun y3 h=>(sx 1 (ni (xi (ri ?_))))))))));injection h with h; subst h;exact rb
theorem aVb:dZ Try.prog 47 [] [] (fun (y:(List (List UInt8)))=>(.osl 2000000 9 1 (y.map cStr))) (fun (y:(List (List UInt8)))=>[]) (aHk):=by
 intro r h
 rw [aHk] at h;refine ao bQd (si (oi (sx 1 (ni (xi (si (oi ?_)))))));refine dY (l:=([[],[83,69,76,69,67,84],[68,73,83,84,73,78,67,84],[70,82,79,77],[74,79,73,78],[79,78],[87,72,69,82,69],[79,82,68,69,82],[66,89],[65,83,67],[68,69,83,67],[76,73,77,73,84],[65,83],[65,78,68],[79,82],[78,79,84],[73,83],[73,78],[66,69,84,87,69,69,78],[69,88,73,83,84,83],[78,85,76,76],[84,82,85,69],[70,65,76,83,69],[73,78,83,69,82,84],[73,78,84,79],[86,65,76,85,69,83],[85,80,68,65,84,69],[83,69,84],[68,69,76,69,84,69]]:List (List UInt8))) (f:=cStr) (g:=cStr) kr (fun _=>rfl) kr ?_;refine sx 1 (ni (xi ?_));refine dN (s':=⟨[(0,(.osl 2000000 9 1 (([[],[83,69,76,69,67,84],[68,73,83,84,73,78,67,84],[70,82,79,77],[74,79,73,78],[79,78],[87,72,69,82,69],[79,82,68,69,82],[66,89],[65,83,67],[68,69,83,67],[76,73,77,73,84],[65,83],[65,78,68],[79,82],[78,79,84],[73,83],[73,78],[66,69,84,87,69,69,78],[69,88,73,83,84,83],[78,85,76,76],[84,82,85,69],[70,65,76,83,69],[73,78,83,69,82,84],[73,78,84,79],[86,65,76,85,69,83],[85,80,68,65,84,69],[83,69,84],[68,69,76,69,84,69]]:List (List UInt8)).map cStr)))],[]⟩) (wr [(2000000,.old 0)] (eo 0 aU) aR) ?_;injection h with h; subst h;exact rb
theorem aFu (p0:aJ):dZ Try.prog 23 [(.ptr 1000000 0)] [(1000000,bG p0)] (fun (y:(List UInt8)×aJ)=>(vS y.1)) (fun (y:(List UInt8)×aJ)=>[(1000000,bG y.2)]) (yB p0):=by
 intro r h
 rw [yB] at h;refine ao bE2 (si (oi (sx 1 (ni (xi (si (si (oi (sx 1 (cg ⟨[(1000000,1000000)],[],[],[],[],[],[],[],[]⟩ h (gI _ _) fun y1 h=>(ni (xi (bi (si (oi (sx 2 (ni (xi ?_))))))))))))))))));refine cd h (fun h=>?_) fun h=>?_;refine si (oi (sx 1 ?_));refine dY (l:=([[],[97,98,99,100,101,102,103,104,105,106,107,108,109,110,111,112,113,114,115,116],[97,98,99,100,101,102,103,104,105,106,107,108,109,110,111,112,113,114,115,116,117],[108,105,109,105,116],[76,73,77,73,84,83],[65,83,99],[57],[97,57],[195,169]]:List (List UInt8))) (f:=cStr) (g:=cStr) kr (fun _=>rfl) kr ?_;refine cg ⟨[(1000000,1000000)],[],[],[],[],[],[],[],[]⟩ h (vO _ _) fun y2 h=>(sx 1 (ni (xi (ri (br (tr ?_))))));injection h with h; subst h;exact rb;refine si (oi (sx 2 (ni (xi ?_))));refine cd h (fun h=>?_) fun h=>?_;refine si (oi (cg ⟨[],[],[],[],[],[(2000000,12)],[],[12],[]⟩ h (aVb) fun y3 h=>(sx 1 (cg ⟨[(1000000,1000000)],[],[],[],[],[],[],[],[]⟩ h (gI _ _) fun y4 h=>(iq h fun y5 h=>(sx 2 (ni (xi (ri (br (tr ?_)))))))))));injection h with h; subst h;exact rb;refine si (oi (sx 2 (ni (xi ?_))));refine cd h (fun h=>?_) fun h=>?_;refine si (oi (sx 2 (cg ⟨[(1000000,1000000)],[],[],[],[],[],[],[],[]⟩ h (gI _ _) fun y6 h=>(cg ⟨[(1000000,1000000)],[],[],[],[],[(2000000,22)],[],[22],[]⟩ h (bJl _ _) fun y7 h=>(vs (fun (y:(List UInt8))=>(vS y)) h (fun y hy=>aVq (l:=y7.1) hy kr kr) fun y8 h=>(sx 1 (ni (xi (ri (br (tr ?_)))))))))));injection h with h; subst h;exact rb;refine ki (bn (xi (si (oi (sx 1 (cg ⟨[(1000000,1000000)],[],[],[],[],[],[],[],[]⟩ h (O1 _) fun y9 h=>(sx 1 (ni (xi (ri ?_))))))))));injection h with h; subst h;exact rb
theorem aM1 (p0:aJ) (p1:(List Int)):dZ Try.prog 49 [(.ptr 1000000 0),(bIp p1)] [(1000000,bG p0)] (fun (y:Int×aJ)=>(vI y.1)) (fun (y:Int×aJ)=>[(1000000,bG y.2)]) (wZ p0 p1):=by
 intro r h
 rw [wZ] at h;refine ao bV6 (si (oi (sx 1 (ni (xi (si (oi (sx 3 (lqf cI p1 (cg ⟨[(1000000,1000000)],[],[],[],[],[],[],[],[]⟩ h (gI _ _) fun y1 h=>(iqf cI h fun y2 h=>(sx 2 (ni (xi (ri ?_)))))))))))))));injection h with h; subst h;exact rb
theorem bB1 (p0:aJ):dZ Try.prog 72 [(.ptr 1000000 0)] [(1000000,bG p0)] (fun (y:Int×aJ)=>(vI y.1)) (fun (y:Int×aJ)=>[(1000000,bG y.2)]) (Z9 p0):=by
 intro r h
 rw [Z9] at h;refine ao bKv (si (oi (sx 1 (ni (xi (si (si (oi (sx 1 (cg ⟨[(1000000,1000000)],[],[],[],[],[],[],[],[]⟩ h (gI _ _) fun y1 h=>(ni (xi (bi (si (oi (sx 2 (ni (xi ?_))))))))))))))))));refine cd h (fun h=>?_) fun h=>?_;refine si (oi (sx 1 (dY (l:=([0,1,(-1),63,64,(-64),(-65),127,128,16383,16384,9223372036854775807,(-9223372036854775808),4611686018427387904]:List Int)) (f:=cI) (g:=cI) kr (fun _=>rfl) kr (cg ⟨[(1000000,1000000)],[],[],[],[],[],[],[],[]⟩ h (aM1 _ _) fun y2 h=>(sx 1 (ni (xi (ri (br (tr ?_))))))))));injection h with h; subst h;exact rb;refine si (oi (sx 2 (ni (xi ?_))));refine cd h (fun h=>?_) fun h=>?_;refine si (oi (sx 1 (cg ⟨[(1000000,1000000)],[],[],[],[],[],[],[],[]⟩ h (gI _ _) fun y3 h=>(sx 2 (ni (xi (ri (br (tr ?_)))))))));injection h with h; subst h;exact rb;refine ki (bn (xi (si (oi (sx 1 (cg ⟨[(1000000,1000000)],[],[],[],[],[],[],[],[]⟩ h (gI _ _) fun y4 h=>(sx 1 (ni (xi (ri ?_))))))))));injection h with h; subst h;exact rb
theorem aJ2 (eY:Int) (eG:Int) (eX:(List UInt8)) (bC:(List Int)) (bJ:Int) (bS:Int) (r:bN×aJ) (h:vQ eY eG eX bC bJ bS=some r):aXm eY eG eX bC bJ bS r:=by
 rw [vQ] at h;delta aXm aEo;refine si (oi (sx 2 (ni (xi (ri ?_)))));injection h with h; subst h;exact rb
theorem bD7 (y1:bN×aJ):(∀ (jS:(List UInt8)) (nH:(List Int)) (nU:Int) (nI:Int) (r:bN×aJ),wY y1 jS nH nU nI=some r→aDk y1 jS nH nU nI r):=by
 refine wY.partial_correctness y1 (fun jS nH nU nI r=>aDk y1 jS nH nU nI r) ?_
 · intro bZa aK5 jS nH nU nI r h;delta aDk aNv;refine dI (si (si (oi (sx 1 (cg ⟨[(1000000,1000000)],[],[],[],[],[],[],[],[]⟩ h (jK _ _) fun y10 h=>(sx 1 (gq 0 (gq 1 (gq 1 (gq 1 (pkA h fun y11 h=>(ni (xi ?_)))))))))))));refine cd h (fun h=>?_) fun h=>?_;refine ki (xi (bi (oi (sx 4 (vs (fun (y:(List UInt8))=>(vS y)) h (fun y hy=>aIn (a:=jS) (b:=jS) hy kr kr kr) fun y12 h=>(vs (fun (y:(List UInt8))=>(vS y)) h (fun y hy=>aIn (a:=y12) (b:=[48,49,50,51,52,53,54,55,56,57]) hy kr kr kr) fun y13 h=>(sx 2 (ni (bn ?_)))))))));exact lbs (aK5 _ _ _ _ _ h) (wr [] (es (es (es aU))) (bs_ (bs_ (bs_ aR))));exact ei (te (te (bh (bn (nxs (aJ2 _ _ _ _ _ _ _ h) (wr [] (es (es aU)) (bs_ (bs_ (bs_ aR)))))))))
theorem aK5 (y1:bN×aJ) (jS:(List UInt8)) (nH:(List Int)) (nU:Int) (nI:Int) (r:bN×aJ) (h:wY y1 jS nH nU nI=some r):aDk y1 jS nH nU nI r:=(bD7 y1) jS nH nU nI r h
theorem bE1 (p0:Bool):FOk Try.prog 84 [(vB p0)] (fun y=>(nK y)) (aJb p0):=by
 intro r h
 rw [aJb] at h;refine ao bQ2 (si (oi (sx 1 (ni (xi (si (si (oi (sx 1 (ni (xi ?_)))))))))));refine cd h (fun h=>?_) fun h=>?_;refine si (oi (sx 2 (ni (xi (ri (tr ?_))))));injection h with h; subst h;exact rp;refine ki (xi (si (oi (sx 2 (ni (xi (ri ?_)))))));injection h with h; subst h;exact rp
theorem aRk (p0:Int):FOk Try.prog 85 [(vI p0)] (fun y=>(nK y)) (aBj p0):=by
 intro r h
 rw [aBj] at h;refine ao bEw (si (oi (sx 1 (ni (xi (si (oi (sx 3 (ni (xi (ri ?_)))))))))));injection h with h; subst h;exact rp
theorem bUu (p0:(List UInt8)):FOk Try.prog 83 [(vS p0)] (fun y=>(nK y)) (aD2 p0):=by
 intro r h
 rw [aD2] at h;refine ao bU0 (si (oi (sx 1 (ni (xi (si (oi (sx 3 (ni (xi (ri ?_)))))))))));injection h with h; subst h;exact rp
theorem aSs (p0:aJ):dZ Try.prog 71 [(.ptr 1000000 0)] [(1000000,bG p0)] (fun (y:bN×aJ)=>(nK y.1)) (fun (y:bN×aJ)=>[(1000000,bG y.2)]) (F8 p0):=by
 intro r h
 rw [F8] at h;refine ao bDn (si (oi (sx 1 (ni (xi (si (si (oi (sx 1 (cg ⟨[(1000000,1000000)],[],[],[],[],[],[],[],[]⟩ h (gI _ _) fun y1 h=>(ni (xi (bi (si (oi (sx 2 (ni (xi ?_))))))))))))))))));refine cd h (fun h=>?_) fun h=>?_;refine si (oi (sx 2 (ni (xi (ri (br (tr ?_)))))));injection h with h; subst h;exact rb;refine si (oi (sx 2 (ni (xi ?_))));refine cd h (fun h=>?_) fun h=>?_;refine si (oi (sx 1 (dY (l:=([[],[97],[98],[105,116,39,115],[97,98],[255]]:List (List UInt8))) (f:=cStr) (g:=cStr) kr (fun _=>rfl) kr (cg ⟨[(1000000,1000000)],[],[],[],[],[],[],[],[]⟩ h (vO _ _) fun y2 h=>(cs h (bUu _) fun y3 h=>(sx 1 (ni (xi (ri (br (tr ?_)))))))))));injection h with h; subst h;exact rb;refine si (oi (sx 2 (ni (xi ?_))));refine cd h (fun h=>?_) fun h=>?_;refine si (oi (sx 1 (cg ⟨[(1000000,1000000)],[],[],[],[],[],[],[],[]⟩ h (jK _ _) fun y4 h=>(cs h (bE1 _) fun y5 h=>(sx 1 (ni (xi (ri (br (tr ?_))))))))));injection h with h; subst h;exact rb;refine si (oi (sx 2 (ni (xi ?_))));refine cd h (fun h=>?_) fun h=>?_;refine si (oi (sx 1 (cg ⟨[(1000000,1000000)],[],[],[],[],[],[],[],[]⟩ h (bB1 _) fun y6 h=>(cs h (aRk _) fun y7 h=>(sx 1 (ni (xi (ri (br (tr ?_))))))))));injection h with h; subst h;exact rb;refine ki (bn (xi (si (oi (sx 1 (cg ⟨[(1000000,1000000)],[],[],[],[],[],[],[],[]⟩ h (gI _ _) fun y8 h=>(sx 1 (cs h (aRk _) fun y9 h=>(sx 1 (ni (xi (ri ?_))))))))))));injection h with h; subst h;exact rb
theorem bGy (p0:aJ):dZ Try.prog 50 [(.ptr 1000000 0)] [(1000000,bG p0)] (fun (y:bN×aJ)=>(nK y.1)) (fun (y:bN×aJ)=>[(1000000,bG y.2)]) (U7 p0):=by
 intro r h
 rw [U7] at h;refine ao bVr (si (oi (sx 1 (ni (xi (si (oi (sx 1 (cg ⟨[(1000000,1000000)],[],[],[],[],[],[],[],[]⟩ h (aSs _) fun y1 h=>(sx 2 (ni (xi (si (si (oi (sx 1 (cg ⟨[(1000000,1000000)],[],[],[],[],[],[],[],[]⟩ h (gI _ _) fun y2 h=>(ni (xi (bi (si (oi (sx 2 (ni (xi ?_)))))))))))))))))))))))));refine cd h (fun h=>?_) fun h=>?_;exact oi (sx 1 (cg ⟨[(1000000,1000000)],[],[],[],[],[],[],[],[]⟩ h (gI _ _) fun y3 h=>(sx 3 (ni (bn (nxs (aJ2 _ _ _ _ _ _ _ h) (wr [] (es (es aU)) (bs_ (bs_ (bs_ aR))))))))));refine si (oi (sx 2 (ni (xi ?_))));refine cd h (fun h=>?_) fun h=>?_;exact oi (sx 1 (cg ⟨[(1000000,1000000)],[],[],[],[],[],[],[],[]⟩ h (bB1 _) fun y4 h=>(sx 2 (ni (bn (nxs (aJ2 _ _ _ _ _ _ _ h) (wr [] (es (es aU)) (bs_ (bs_ (bs_ aR))))))))));refine si (oi (sx 2 (ni (xi ?_))));refine cd h (fun h=>?_) fun h=>?_;refine si (oi (sx 1 (dY (l:=([[120],[],[108,111,110,103]]:List (List UInt8))) (f:=cStr) (g:=cStr) kr (fun _=>rfl) kr (cg ⟨[(1000000,1000000)],[],[],[],[],[],[],[],[]⟩ h (vO _ _) fun y5 h=>(sx 2 (ni (xi (bi ?_))))))));exact lgs (aK5 _ _ _ _ _ _ h) (wr [] (es (es (es aU))) (bs_ (bs_ (bs_ aR))));exact ki (bn (nxs (aJ2 _ _ _ _ _ _ _ h) (wr [] (es (es aU)) (bs_ (bs_ (bs_ aR))))))
theorem yO (eY:Int) (eG:Int) (eX:Bool) (gJ:Int) (gK:Int) (sS:(List UInt8)) (gD:(List UInt8)) (jO:(List UInt8)) (bC:(List Int)) (bJ:Int) (bS:Int) (uV:(List aA)) (vN:(List aQ)) (r:aA×aJ) (h:rJ eY eG eX gJ gK sS gD jO bC bJ bS uV vN=some r):aSb eY eG eX gJ gK sS gD jO bC bJ bS uV vN r:=by
 rw [rJ] at h;delta aSb aPj;refine si (oi (sx 2 (ni (xi ?_))));refine dN (s':=⟨[(4,(.ptr 4 0))],[(4,[(vI eY),(vI eG),(vB eX),(vI gJ),(vI gK),(vS sS),(vS gD),(vS jO),(.tre 10000008),(.tre 10000009)]),(1000000,bG (aJ.mk bC bJ bS)),(3001009,[.trd]),(3001008,[.trd]),(10000008,[(.trc 10 (uV.map aZ))]),(10000009,[(.trc 6 (vN.map eB))])]⟩) (tw [.rn [(60135000,10000008),(60135001,10000009)],.kl 3001008,.kl 3001009] (wr [] (es aU) (dL (c0:=[(vI eY),(vI eG),(vB eX),(vI gJ),(vI gK),(vS sS),(vS gD),(vS jO),(.tre 10000008),(.tre 10000009)]) kr (aL (aP kr kr) (aL (aP kr kr) (aL (aP kr kr) (aL (aP kr kr) (aL (aP kr kr) (aL (aP kr kr) (aL (aP kr kr) (aL (aP kr kr) (aL (aP kr kr) (aL (aP kr kr) (dJ))))))))))) (dL (c0:=[(gU bC),(vI bJ),(vI bS)]) kr (aL (aP kr kr) (aL (aP kr kr) (aL (aP kr kr) (dJ)))) (bs_ (bs_ (bs_ (bs_ aR)))))))) ?_;injection h with h; subst h;exact rb
theorem aZm (gD:(List UInt8)) (jO:(List UInt8)) (tK:(List Int)) (tY:Int) (uD:Int) (r:aA×aJ) (h:aBy gD jO tK tY uD=some r):aVp gD jO tK tY uD r:=by
 rw [aBy] at h;delta aVp aQc;refine si (oi (sx 2 (ni (xi ?_))));refine dN (s':=⟨[(2,(.ptr 2 0))],[(2,[(vI 2),(vI 0),(vB false),(vI 0),(vI 0),(vS []),(vS gD),(vS jO),(.tre 10000008),(.tre 10000009)]),(1000000,bG (aJ.mk tK tY uD)),(10000009,[(.trc 6 (([]:List aQ).map eB))]),(10000008,[(.trc 10 (([]:List aA).map aZ))])]⟩) (tw [.nb 2 8 10000008,.nb 2 9 10000009] (wr [] (es aU) (dL (c0:=[(vI 2),(vI 0),(vB false),(vI 0),(vI 0),(vS []),(vS gD),(vS jO),(.tre 10000008),(.tre 10000009)]) kr (aL (aP kr kr) (aL (aP kr kr) (aL (aP kr kr) (aL (aP kr kr) (aL (aP kr kr) (aL (aP kr kr) (aL (aP kr kr) (aL (aP kr kr) (aL (aP kr kr) (aL (aP kr kr) (dJ))))))))))) (dL (c0:=[(gU tK),(vI tY),(vI uD)]) kr (aL (aP kr kr) (aL (aP kr kr) (aL (aP kr kr) (dJ)))) (bs_ (bs_ aR)))))) ?_;injection h with h; subst h;exact rb
theorem aYf (y1:(List UInt8)×aJ) (gD:(List UInt8)) (bC:(List Int)) (bJ:Int) (bS:Int) (r:aA×aJ) (h:M6 y1 gD bC bJ bS=some r):bB7 y1 gD bC bJ bS r:=by
 rw [M6] at h;delta bB7 aMd;refine si (si (oi (sx 1 (cg ⟨[(1000000,1000000)],[],[],[],[],[],[],[],[]⟩ h (jK _ _) fun y4 h=>(ni (xi ?_))))));refine cd h (fun h=>?_) fun h=>?_;exact oi (sx 1 (cg ⟨[(1000000,1000000)],[],[],[],[],[],[],[],[]⟩ h (O1 _) fun y5 h=>(sx 2 (ni (nxs (aZm _ _ _ _ _ _ h) (wr [] (es (es aU)) (bs_ (bs_ (bs_ aR)))))))));exact ki (nxs (aZm _ _ _ _ _ _ h) (wr [] (es (es aU)) (bs_ (bs_ (bs_ aR)))))
theorem aPu (p0:aJ):dZ Try.prog 51 [(.ptr 1000000 0)] [(1000000,bG p0)] (fun (y:aA×aJ)=>(.agv [(vI y.1.kind),(vI y.1.op),(vB y.1.not_),(vI y.1.value.kind),(vI y.1.value.num),(vS y.1.value.text),(vS y.1.qual),(vS y.1.name),(.tre 10000008),(.tre 10000009)])) (fun (y:aA×aJ)=>[(10000008,[(.trc 10 (y.1.kids.map aZ))]),(10000009,[(.trc 6 (y.1.sub.map eB))]),(1000000,bG y.2)]) (D6 p0):=by
 intro r h
 rw [D6] at h;refine ao bM6 (si (oi (sx 1 (ni (xi (si (oi (sx 1 (dY (l:=([[97],[98],[99],[105,100],[110,97,109,101]]:List (List UInt8))) (f:=cStr) (g:=cStr) kr (fun _=>rfl) kr (cg ⟨[(1000000,1000000)],[],[],[],[],[],[],[],[]⟩ h (vO _ _) fun y1 h=>?_))))))))));refine kV (c:=[(vI 2),(vI 0),(vB false),(vI 0),(vI 0),(vS []),(vS []),(vS y1.1),(.nil 10),(.nil 6)]) kr kr rfl (sx 2 (ni (xi (si (si (oi (sx 1 (cg ⟨[(1000000,1000000)],[],[],[],[],[],[],[],[]⟩ h (jK _ _) fun y2 h=>(ni (xi ?_))))))))));refine cd h (fun h=>?_) fun h=>?_;refine oi (sx 1 (dY (l:=([[116],[117],[118]]:List (List UInt8))) (f:=cStr) (g:=cStr) kr (fun _=>rfl) kr (cg ⟨[(1000000,1000000)],[],[],[],[],[],[],[],[]⟩ h (vO _ _) fun y3 h=>(sx 2 (ni ?_)))));exact nxs (aYf _ _ _ _ _ _ h) (wr [] (es (es (es aU))) (bs_ (bs_ (bs_ aR))));exact ki (nxs (aYf _ _ _ _ _ _ h) (wr [] (es (es (es aU))) (bs_ (bs_ (bs_ aR)))))
end Go.Proofs.Ytflhmnfmihkbmac
