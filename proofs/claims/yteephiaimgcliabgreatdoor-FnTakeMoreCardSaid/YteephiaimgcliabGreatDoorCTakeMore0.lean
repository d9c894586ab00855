/- That the code computes these functions (printed by a program). -/
import Derived.Test.YteephiaimgcliabGreatDoorAbP
import Derived.Test.YteephiaimgcliabGreatDoorAbQ
import Derived.KernelRfl
import Derived.Test.YteephiaimgcliabGreatDoorAbG2
import Derived.Test.YteephiaimgcliabGreatDoorAbC3
import Derived.Test.YteephiaimgcliabGreatDoorAbX4
import Derived.Test.YteephiaimgcliabGreatDoorAbX3
import Derived.Test.YteephiaimgcliabGreatDoorAbX1
import Derived.Test.YteephiaimgcliabGreatDoorFTakeMore
import Derived.Test.YteephiaimgcliabGreatDoorProg
namespace Go.Proofs.YteephiaimgcliabGreatDoor
open Go Go.RowKit Go.Ab
attribute [local irreducible] avc cZ aop dgo bM eT eY wkK O1 stz aGs bZ eff cO.st
def cI (n:Int):List D:=[.i .i64 n]
def cU8 (n:Int):List D:=[.i .u8 n]
def bU4 (n:Int):List D:=[.i .u64 n]
def bVv (n:Int):List D:=[.i .i32 n]
def bWx (n:Int):List D:=[.i .u32 n]
def cB (b:Bool):List D:=[.b b]
def cStr (s:List UInt8):List D:=[.s (bs s)]
def cSl {α:Type} (sz:Nat) (f:α→List D) (l:List α):List D:=[.sl sz (l.map f)]
def aV (x:aJ):List D:=[(.i .i64 x.kind),(.s (bs x.text)),(.i .i64 x.at_)]
def kP (x:aJ):V:=.agg (aV x)
def bC1 (x:aJ):List V:=(aV x).map V.d
def aAc (x:bJ):List D:=[(.i .i64 x.kind),(.i .i64 x.num),(.s (bs x.text))]
def lC (x:bJ):V:=.agg (aAc x)
def aR9 (x:bJ):List V:=(aAc x).map V.d
mutual
def bN:aA→List D
  | ⟨a0,a1,a2,a3,a4,a5,a6,a7⟩=>[(.i .i64 a0)]++[(.i .i64 a1)]++[(.b a2)]++aAc a3++[(.s (bs a4))]++[(.s (bs a5))]++[.sl 10 (zJ a6)]++[.sl 6 (aAy a7)]
def eF:bU→List D
  | ⟨a0,a1,a2,a3⟩=>[(.b a0)]++[(.s (bs a1))]++bN a2++[(.s (bs a3))]
def iJ:aX→List D
  | ⟨a0,a1,a2,a3,a4,a5⟩=>[(.b a0)]++[.sl 13 (aCn a1)]++[.sl 3 (aBe a2)]++[.sl 10 (zJ a3)]++[.sl 11 (aBf a4)]++[(.i .i64 a5)]
def fV:dY→List D
  | ⟨a0,a1⟩=>bN a0++[(.b a1)]
def eP:bR→List D
  | ⟨a0,a1,a2⟩=>[(.s (bs a0))]++[(.s (bs a1))]++[.sl 10 (zJ a2)]
def zJ:List aA→List (List D)
  | []=>[]
  | x::l=>bN x::zJ l
def aCn:List bU→List (List D)
  | []=>[]
  | x::l=>eF x::aCn l
def aAy:List aX→List (List D)
  | []=>[]
  | x::l=>iJ x::aAy l
def aBf:List dY→List (List D)
  | []=>[]
  | x::l=>fV x::aBf l
def aBe:List bR→List (List D)
  | []=>[]
  | x::l=>eP x::aBe l
end
theorem Z0:∀ l:List aA,zJ l=l.map bN
  | []=>by simp only [zJ,List.map_nil]
  | x::l=>by simp only [zJ,List.map_cons,Z0 l]
theorem X3:∀ l:List bU,aCn l=l.map eF
  | []=>by simp only [aCn,List.map_nil]
  | x::l=>by simp only [aCn,List.map_cons,X3 l]
theorem L6:∀ l:List aX,aAy l=l.map iJ
  | []=>by simp only [aAy,List.map_nil]
  | x::l=>by simp only [aAy,List.map_cons,L6 l]
theorem N8:∀ l:List dY,aBf l=l.map fV
  | []=>by simp only [aBf,List.map_nil]
  | x::l=>by simp only [aBf,List.map_cons,N8 l]
theorem M6:∀ l:List bR,aBe l=l.map eP
  | []=>by simp only [aBe,List.map_nil]
  | x::l=>by simp only [aBe,List.map_cons,M6 l]
def gJ (x:aA):List D:=[(.i .i64 x.kind),(.i .i64 x.op),(.b x.not_),(.i .i64 x.value.kind),(.i .i64 x.value.num),(.s (bs x.value.text)),(.s (bs x.qual)),(.s (bs x.name)),(.sl 10 (x.kids.map bN)),(.sl 6 (x.sub.map iJ))]
def oL (x:bU):List D:=[(.b x.star),(.s (bs x.qual)),(.i .i64 x.expr.kind),(.i .i64 x.expr.op),(.b x.expr.not_),(.i .i64 x.expr.value.kind),(.i .i64 x.expr.value.num),(.s (bs x.expr.value.text)),(.s (bs x.expr.qual)),(.s (bs x.expr.name)),(.sl 10 (x.expr.kids.map bN)),(.sl 6 (x.expr.sub.map iJ)),(.s (bs x.as_))]
def qE (x:aX):List D:=[(.b x.distinct),(.sl 13 (x.items.map eF)),(.sl 3 (x.from_.map eP)),(.sl 10 (x.where_.map bN)),(.sl 11 (x.order.map fV)),(.i .i64 x.limit)]
def qW (x:dY):List D:=[(.i .i64 x.expr.kind),(.i .i64 x.expr.op),(.b x.expr.not_),(.i .i64 x.expr.value.kind),(.i .i64 x.expr.value.num),(.s (bs x.expr.value.text)),(.s (bs x.expr.qual)),(.s (bs x.expr.name)),(.sl 10 (x.expr.kids.map bN)),(.sl 6 (x.expr.sub.map iJ)),(.b x.desc)]
def qC (x:bR):List D:=[(.s (bs x.table)),(.s (bs x.as_)),(.sl 10 (x.on_.map bN))]
theorem gQ (x:aA):bN x=gJ x:=by
  obtain ⟨a0,a1,a2,a3,a4,a5,a6,a7⟩:=x
  simp only [bN,gJ,Z0,X3,L6,N8,M6,List.cons_append,List.nil_append,aAc]
theorem vM (x:bU):eF x=oL x:=by
  obtain ⟨a0,a1,a2,a3⟩:=x
  simp only [eF,oL,Z0,X3,L6,N8,M6,gQ,gJ,List.cons_append,List.nil_append]
theorem yP (x:aX):iJ x=qE x:=by
  obtain ⟨a0,a1,a2,a3,a4,a5⟩:=x
  simp only [iJ,qE,Z0,X3,L6,N8,M6,List.cons_append,List.nil_append]
theorem F3 (x:dY):fV x=qW x:=by
  obtain ⟨a0,a1⟩:=x
  simp only [fV,qW,Z0,X3,L6,N8,M6,gQ,gJ,List.cons_append,List.nil_append]
theorem yQ (x:bR):eP x=qC x:=by
  obtain ⟨a0,a1,a2⟩:=x
  simp only [eP,qC,Z0,X3,L6,N8,M6,List.cons_append,List.nil_append]
def bX (x:aA):V:=.agg (gJ x)
def fM (x:aA):List V:=(gJ x).map V.d
def rO (x:bU):V:=.agg (oL x)
def aCc (x:bU):List V:=(oL x).map V.d
def kY (x:aX):V:=.agg (qE x)
def wF (x:aX):List V:=(qE x).map V.d
def xZ (x:dY):V:=.agg (qW x)
def bGg (x:dY):List V:=(qW x).map V.d
def aDu (x:bR):V:=.agg (qC x)
def aJ9 (x:bR):List V:=(qC x).map V.d
def aKk (x:aL):List D:=[(.sl 3 (x.list.map aV)),(.i .i64 x.at_),(.b x.failed)]
def bU5 (x:aL):V:=.agg (aKk x)
def bA (x:aL):List V:=(aKk x).map V.d
def aJ5 (x:aQ):List D:=[(.sl 1 (x.b.map cU8)),(.i .i64 x.i),(.i .i64 x.h)]
def bW1 (x:aQ):V:=.agg (aJ5 x)
def dC (x:aQ):List V:=(aJ5 x).map V.d
def aJc (x:aU):List D:=[(.sl 3 (x.t.map aV)),(.i .i64 x.at_),(.b x.bad)]
def bV0 (x:aU):V:=.agg (aJc x)
def bV (x:aU):List V:=(aJc x).map V.d
instance:Enc aJ:=⟨aV,aV,(fun _=>rfl)⟩
instance:Enc (List UInt8):=⟨cStr,cStr,(fun _=>rfl)⟩
instance:Enc bU:=⟨eF,oL,vM⟩
instance:Enc dY:=⟨fV,qW,F3⟩
instance:Enc bR:=⟨eP,qC,yQ⟩
instance:Enc aA:=⟨bN,gJ,gQ⟩
instance:Enc aX:=⟨iJ,qE,yP⟩
theorem kr {p:Prop} (h:p:=by kernel_rfl):p:=h
def I9 (l:List (List UInt8)):V:=.d (.sl 1 (l.map cStr))
def nT (l:List Int):V:=.d (.sl 1 (l.map cU8))
def iY (l:List Int):V:=.d (.sl 1 (l.map cI))
def jF (l:List aJ):V:=.d (.sl 3 (l.map aV))
def zI (l:List bR):V:=.d (.sl 3 (l.map eP))
def aK2 (l:List aA):V:=.d (.sl 10 (l.map bN))
def aY:V:=(.d (.s (bs [])))
def aR:V:=(.d (.i .i64 0))
def eH:V:=(.d (.b false))
def fO:List V:=[aR,aR,eH,aR,aR,aY,aY,aY,(.nil 10),(.nil 6)]
def mF:List V:=[eH,(.nil 13),(.nil 3),(.nil 10),(.nil 11),aR]
def aGl:List V:=[eH,aY,aR,aR,eH,aR,aR,aY,aY,aY,(.nil 10),(.nil 6),aY]
def aKo:List V:=[aR,aR,eH,aR,aR,aY,aY,aY,(.nil 10),(.nil 6),eH]
def bLy:AC:=(.seq (.ops [.asg 2 (kB false)]) (.seq (.seq (.ops [.mv 11 0,.call (some 12) 4 [11]]) (.cond 12 (.seq (.ops [.asg 2 (kB true)]) .ret) .skip)) (.seq (.ops [.mv 13 0,.call (some 14) 5 [13],.asg 3 14]) (.seq (.ops [.mv 16 3,.call (some 17) 6 [16],.mv 15 17,.ext 18 15 0,.ext 19 15 1,.alc 4 mF,.st 6 4 18,.asg 5 19]) (.seq (.ops [.mv 21 3,.call (some 22) 7 [21],.mv 20 22,.ext 23 20 0,.ext 24 20 1,.alc 6 mF,.st 6 6 23,.asg 7 24]) (.seq (.seq (.ops [.mv 25 5,.mv 26 7,.bin 27 .neq 25 26]) (.cond 27 (.seq (.ops [.asg 2 (kB false)]) .ret) .skip)) (.seq (.ops [.bsl 28 77 3 [],.mv 29 3,.app 30 77 3 32 28 29,.mv 31 0,.call (some 32) 9 [31],.call (some 33) 8 [32],.app 34 77 3 32 30 33,.asg 8 34]) (.seq (.ops [.mv 36 8,.call (some 37) 6 [36],.mv 35 37,.ext 38 35 0,.ext 39 35 1,.alc 9 mF,.st 6 9 38,.asg 10 39]) (.seq (.ops [.mv 40 5,.bin 41 .lss 40 (kI 0),.mv 42 41,.g 42 false (.mv 43 5),.g 42 false (.mv 44 3),.g 42 false (.len 45 44),.g 42 false (.bin 46 .eql 43 45),.pick 47 42 (kB true) 46,.mv 48 47,.g 48 false (.mv 49 10),.g 48 false (.mv 50 5),.g 48 false (.bin 51 .eql 49 50),.pick 52 48 (kB true) 51,.asg 2 52]) .ret)))))))))
theorem aZs:bQ Tryz.prog 3=some (bLy,[.mv 0 2],53):=by kernel_rfl
def bW0 (r:Bool):Exit→St→Prop:=bM [.mv 0 2] fun x _=>x=(fun y=>(vB y)) r
def bK5:AC:=(.seq (.ops [.alc 2 mF,.asg 3 (kI 0)]) (.seq (.ops [.mv 7 0,.bld 8 [(.nil 3),aR,eH] [(0,1,7)],.box 9 45 8,.asg 4 9]) (.seq (.ops [.mv 10 4,.call (some 11) 17 [10],.alc 5 mF,.st 6 5 11]) (.seq (.seq (.ops [.mv 12 4,.call (some 13) 18 [12],.asg 6 13]) (.seq (.ops [.mv 14 6,.bin 15 .geq 14 (kI 0)]) (.cond 15 (.seq (.ops [.bld 16 [eH,(.nil 13),(.nil 3),(.nil 10),(.nil 11),aR] [],.mv 17 6,.st 6 2 16,.asg 3 17]) .ret) .skip))) (.seq (.ops [.ld 18 6 true 5,.st 6 2 18,.asg 3 (kI (-1))]) .ret)))))
theorem bPs:bQ Tryz.prog 6=some (bK5,[.ld 0 6 true 2,.mv 0 3],19):=by kernel_rfl
def bTh (r:aX×Int):Exit→St→Prop:=bM [.ld 0 6 true 2,.mv 0 3] fun x _=>x=(fun y=>(.tup [(kY y.1),(vI y.2)])) r
def bFy:AC:=(.seq (.ops [.asg 2 (kI 0)]) (.seq (.seq (.dops [[],[0],[1],[2],[3],[4],[5,4],[6,4],[7,4],[4],[9,4],[10,4],[11,4],[12,4],[8,13,4],[4,14]] [.mv 3 0,.nck 4 3,.fa 5 2 4,.ld 6 1 false 5,.mv 7 6,.g 7 false (.mv 8 0),.g 7 false (.nck 9 8),.g 7 false (.fa 10 1 9),.g 7 false (.ld 11 1 false 10),.g 7 false (.mv 12 0),.g 7 false (.nck 13 12),.g 7 false (.fa 14 0 13),.g 7 false (.ld 15 1 false 14),.g 7 false (.len 16 15),.g 7 false (.bin 17 .lss 11 16),.pick 18 7 (kB true) 17]) (.cond 18 (.seq (.ops [.mv 19 0,.nck 20 19,.fa 21 1 20,.ld 22 1 false 21,.asg 2 22]) .ret) .skip)) (.seq (.ops [.asg 2 (kI (-1))]) .ret)))
theorem bF5:bQ Tryz.prog 18=some (bFy,[.mv 0 2],23):=by kernel_rfl
def bW2 (p0:aL) (r:Int):Exit→St→Prop:=bM [.mv 0 2] fun x b=>x=(fun (y:Int)=>(vI y)) r∧bI ((fun (y:Int)=>[(1000000,bA p0)]) r) b
def aLm:AC:=(.loop (.seq (.seq (.ops [.mv 13 0,.call (some 14) 38 [13,(.c (.d (.s (bs [44]))))]]) (.cond 14 .skip (.exit 0))) (.block 1 (.dops [[],[0],[],[2],[3],[1,4,3],[0,1,2,3,4,5],[6,5,5,0,1,2,3,4,5]] [.fa 15 1 3,.ld 16 1 false 15,.mv 17 0,.call (some 18) 37 [17],.bsl 19 64 13 [18],.app 20 64 13 176 16 19,.fa 21 1 3,.st 1 21 20]))))
def aJn:AC:=(.loop (.seq (.seq (.ops [.mv 38 0,.call (some 39) 38 [38,(.c (.d (.s (bs [44]))))]]) (.cond 39 .skip (.exit 2))) (.block 3 (.dops [[],[0],[],[2],[3],[1,4,3],[0,1,2,3,4,5],[6,5,5,0,1,2,3,4,5]] [.fa 40 4 3,.ld 41 1 false 40,.mv 42 0,.call (some 43) 41 [42],.bsl 44 72 11 [43],.app 45 72 11 144 41 44,.fa 46 4 3,.st 1 46 45]))))
def aIb:AC:=(.seq (.ops [.ld 52 6 true 3,.st 6 2 52]) .ret)
def aEn:AC:=(.seq (.seq (.ops [.mv 47 0,.call (some 48) 36 [47,(.c (.d (.s (bs [76,73,77,73,84]))))]]) (.cond 48 (.ops [.mv 49 0,.call (some 50) 42 [49],.fa 51 5 3,.st 1 51 50]) .skip)) aIb)
def aWh:AC:=(.seq (.ops [.mv 22 0,.call (some 23) 35 [22,(.c (.d (.s (bs [70,82,79,77]))))]]) (.seq (.ops [.mv 24 0,.call (some 25) 39 [24],.fa 26 2 3,.st 1 26 25]) (.seq (.ops [.mv 27 0,.call (some 28) 40 [27],.fa 29 3 3,.st 1 29 28]) (.seq (.seq (.ops [.mv 30 0,.call (some 31) 36 [30,(.c (.d (.s (bs [79,82,68,69,82]))))]]) (.cond 31 (.seq (.ops [.mv 32 0,.call (some 33) 35 [32,(.c (.d (.s (bs [66,89]))))]]) (.seq (.ops [.mv 34 0,.call (some 35) 41 [34],.bsl 36 72 11 [35],.fa 37 4 3,.st 1 37 36]) (.block 2 aJn))) .skip)) aEn))))
def bCl:AC:=(.seq (.ops [.alc 2 mF]) (.seq (.ops [.mv 4 0,.call (some 5) 35 [4,(.c (.d (.s (bs [83,69,76,69,67,84]))))]]) (.seq (.ops [.mv 6 0,.call (some 7) 36 [6,(.c (.d (.s (bs [68,73,83,84,73,78,67,84]))))],.bld 8 [eH,(.nil 13),(.nil 3),(.nil 10),(.nil 11),aR] [(0,1,7),(5,1,(kI (-1)))],.alc 3 mF,.st 6 3 8]) (.seq (.ops [.mv 9 0,.call (some 10) 37 [9],.bsl 11 64 13 [10],.fa 12 1 3,.st 1 12 11]) (.seq (.block 0 aLm) aWh)))))
theorem bMd:bQ Tryz.prog 17=some (bCl,[.ld 0 6 true 2],53):=by kernel_rfl
def N9 (r:aX×aL):Exit→St→Prop:=bM [.ld 0 6 true 2] fun x b=>x=(fun (y:aX×aL)=>(kY y.1)) r∧bI ((fun (y:aX×aL)=>[(1000000,bA y.2)]) r) b
def bNv (r:aX×aL):Exit→St→Prop:=(eT (wkK (avc Tryz.prog aWh (N9 r))) (N9 r))
def bJ5 (r:aX×aL):Exit→St→Prop:=(eY 0 (bNv r))
def bP4 (r:aX×aL):Exit→St→Prop:=(eT (wkK (avc Tryz.prog aEn (N9 r))) (N9 r))
def bF0 (r:aX×aL):Exit→St→Prop:=(eY 2 (bP4 r))
def aP0 (y2:Bool×aL) (bG:List bU) (bD:List aJ) (bC:Int) (bF:Bool):St:=⟨[(0,(.ptr 1000000 0)),(2,(.ptr 2 0)),(3,(.ptr 3 0))],[(2,[(vB false),(.nil 13),(.nil 3),(.nil 10),(.nil 11),(vI 0)]),(3,[(vB y2.1),(.osl 11 64 13 (bG.map eF)),(.nil 3),(.nil 10),(.nil 11),(vI (-1))]),(1000000,bA (aL.mk bD bC bF))]⟩
abbrev aEo:=fun y2 bG bD bC bF r=>avc Tryz.prog aLm (bJ5 r) (aP0 y2 bG bD bC bF)
def bOu (y2:Bool×aL) (bG:List bU) (y8:(List bR)×aL) (y9:(List aA)×aL) (gM:List dY) (nJ:List aJ) (lV:Int×Bool):St:=⟨[(0,(.ptr 1000000 0)),(2,(.ptr 2 0)),(3,(.ptr 3 0))],[(2,[(vB false),(.nil 13),(.nil 3),(.nil 10),(.nil 11),(vI 0)]),(3,[(vB y2.1),(.osl 11 64 13 (bG.map eF)),(.osl 25 70 3 (y8.1.map eP)),(.osl 28 57 10 (y9.1.map bN)),(.osl 36 72 11 (gM.map fV)),(vI (-1))]),(1000000,bA (aL.mk nJ lV.1 lV.2))]⟩
abbrev aH1:=fun y2 bG y8 y9 gM nJ lV r=>avc Tryz.prog aJn (bF0 r) (bOu y2 bG y8 y9 gM nJ lV)
def bS1 (y2:Bool×aL) (bG:List bU) (y8:(List bR)×aL) (y9:(List aA)×aL) (jW:List dY) (xL:List aJ) (xJ:Int) (vX:Bool):St:=⟨[(0,(.ptr 1000000 0)),(2,(.ptr 2 0)),(3,(.ptr 3 0))],[(2,[(vB false),(.nil 13),(.nil 3),(.nil 10),(.nil 11),(vI 0)]),(3,[(vB y2.1),(.osl 11 64 13 (bG.map eF)),(.osl 25 70 3 (y8.1.map eP)),(.osl 28 57 10 (y9.1.map bN)),(.osl 36 72 11 (jW.map fV)),(vI (-1))]),(1000000,bA (aL.mk xL xJ vX))]⟩
abbrev aOy:=fun y2 bG y8 y9 jW xL xJ vX r=>avc Tryz.prog aEn (N9 r) (bS1 y2 bG y8 y9 jW xL xJ vX)
def bJ1 (y2:Bool×aL) (bG:List bU) (y8:(List bR)×aL) (y9:(List aA)×aL) (jW:List dY) (lQ:Int) (yF:List aJ) (vR:Int) (wC:Bool):St:=⟨[(2,(.ptr 2 0)),(3,(.ptr 3 0))],[(2,[(vB false),(.nil 13),(.nil 3),(.nil 10),(.nil 11),(vI 0)]),(3,[(vB y2.1),(.osl 11 64 13 (bG.map eF)),(.osl 25 70 3 (y8.1.map eP)),(.osl 28 57 10 (y9.1.map bN)),(.osl 36 72 11 (jW.map fV)),(vI lQ)]),(1000000,bA (aL.mk yF vR wC))]⟩
abbrev aTn:=fun y2 bG y8 y9 jW lQ yF vR wC r=>avc Tryz.prog aIb (N9 r) (bJ1 y2 bG y8 y9 jW lQ yF vR wC)
def aKx:AC:=(.loop (.block 1 (.block 2 (.seq (.ops [.mv 10 0,.call (some 11) 38 [10,(.c (.d (.s (bs [44]))))],.asg 9 11]) (.cond 9 (.ops [.mv 12 3,.mv 13 0,.call (some 14) 73 [13],.bsl 15 70 3 [14],.app 16 70 3 56 12 15,.asg 3 16]) (.seq (.ops [.mv 18 0,.call (some 19) 36 [18,(.c (.d (.s (bs [74,79,73,78]))))],.asg 17 19]) (.cond 17 (.seq (.ops [.mv 20 0,.call (some 21) 73 [20],.alc 4 [aY,aY,(.nil 10)],.st 3 4 21]) (.seq (.ops [.mv 22 0,.call (some 23) 35 [22,(.c (.d (.s (bs [79,78]))))]]) (.seq (.ops [.mv 24 0,.call (some 25) 70 [24],.bsl 26 57 10 [25],.fa 27 2 4,.st 1 27 26]) (.ops [.mv 28 3,.ld 29 3 true 4,.bsl 30 70 3 [29],.app 31 70 3 56 28 30,.asg 3 31])))) (.seq (.ops [.mv 8 3,.asg 2 8]) .ret))))))))
def bG8:AC:=(.seq (.ops [.asg 2 (.c (.nil 3))]) (.seq (.ops [.mv 5 0,.call (some 6) 73 [5],.bsl 7 70 3 [6],.asg 3 7]) (.block 0 aKx)))
theorem bLg:bQ Tryz.prog 39=some (bG8,[.mv 0 2],32):=by kernel_rfl
def bRs (r:(List bR)×aL):Exit→St→Prop:=bM [.mv 0 2] fun x b=>x=(fun (y:(List bR)×aL)=>(.osl 2000000 70 3 (y.1.map eP))) r∧bI ((fun (y:(List bR)×aL)=>[(1000000,bA y.2)]) r) b
def bMk (r:(List bR)×aL):Exit→St→Prop:=(eY 0 (bRs r))
def bNd (x3:List bR) (bD:List aJ) (bC:Int) (bF:Bool):St:=⟨[(0,(.ptr 1000000 0)),(3,(.osl 3 70 3 (x3.map eP)))],[(1000000,bA (aL.mk bD bC bF))]⟩
abbrev aGb:=fun x3 bD bC bF r=>avc Tryz.prog aKx (bMk r) (bNd x3 bD bC bF)
def aK8:AC:=(.seq (.ops [.mv 17 5,.asg 4 17]) .ret)
def bLm:AC:=(.seq (.ops [.asg 4 (kB false)]) (.seq (.ops [.mv 6 0,.mv 7 1,.call (some 8) 66 [6,7],.asg 5 8]) (.seq (.seq (.ops [.mv 9 5]) (.cond 9 (.ops [.mv 10 0,.nck 11 10,.fa 12 1 11,.ld 13 1 false 12,.bin 14 .add 13 (kI 1),.nck 15 10,.fa 16 1 15,.st 1 16 14]) .skip)) aK8)))
theorem bC9:bQ Tryz.prog 36=some (bLm,[.mv 0 4],18):=by kernel_rfl
def bIv (r:Bool×aL):Exit→St→Prop:=bM [.mv 0 4] fun x b=>x=(fun (y:Bool×aL)=>(vB y.1)) r∧bI ((fun (y:Bool×aL)=>[(1000000,bA y.2)]) r) b
def bNe (y1:Bool) (p0:aL) (bC:Int):St:=⟨[(5,(vB y1))],[(1000000,bA (aL.mk p0.list bC p0.failed))]⟩
abbrev aSd:=fun y1 p0 bC r=>avc Tryz.prog aK8 (bIv r) (bNe y1 p0 bC)
def bCn:AC:=(.seq (.ops [.asg 4 (kB false)]) (.seq (.ops [.mv 5 0,.mv 6 1,.call (some 7) 68 [5,(kI 0),(kI 1),6],.asg 4 7]) .ret))
theorem bSq:bQ Tryz.prog 66=some (bCn,[.mv 0 4],8):=by kernel_rfl
def bV8 (p0:aL) (r:Bool):Exit→St→Prop:=bM [.mv 0 4] fun x b=>x=(fun (y:Bool)=>(vB y)) r∧bI ((fun (y:Bool)=>[(1000000,bA p0)]) r) b
def bB6:AC:=(.seq (.ops [.asg 8 (kB false)]) (.seq (.ops [.mv 10 0,.nck 11 10,.fa 12 1 11,.ld 13 1 false 12,.mv 14 1,.bin 15 .add 13 14,.asg 9 15]) (.seq (.ops [.mv 16 0,.nck 17 16,.fa 18 2 17,.ld 19 1 false 18,.not 20 19,.mv 21 20,.g 21 true (.mv 22 9),.g 21 true (.mv 23 0),.g 21 true (.nck 24 23),.g 21 true (.fa 25 0 24),.g 21 true (.ld 26 1 false 25),.g 21 true (.len 27 26),.g 21 true (.bin 28 .lss 22 27),.pick 29 21 28 (kB false),.mv 30 29,.g 30 true (.mv 31 0),.g 30 true (.nck 32 31),.g 30 true (.fa 33 0 32),.g 30 true (.ld 34 1 false 33),.g 30 true (.mv 35 9),.g 30 true (.ia 36 3 34 35),.g 30 true (.fa 37 0 36),.g 30 true (.ld 38 1 false 37),.g 30 true (.mv 39 2),.g 30 true (.bin 40 .eql 38 39),.pick 41 30 40 (kB false),.mv 42 41,.g 42 true (.mv 43 0),.g 42 true (.nck 44 43),.g 42 true (.fa 45 0 44),.g 42 true (.ld 46 1 false 45),.g 42 true (.mv 47 9),.g 42 true (.ia 48 3 46 47),.g 42 true (.fa 49 1 48),.g 42 true (.ld 50 1 false 49),.g 42 true (.mv 51 3),.g 42 true (.bin 52 .eql 50 51),.pick 53 42 52 (kB false),.asg 8 53]) .ret)))
theorem bGb:bQ Tryz.prog 68=some (bB6,[.mv 0 8],54):=by kernel_rfl
def bVr (p0:aL) (r:Bool):Exit→St→Prop:=bM [.mv 0 8] fun x b=>x=(fun (y:Bool)=>(vB y)) r∧bI ((fun (y:Bool)=>[(1000000,bA p0)]) r) b
def bJm:AC:=(.seq (.ops [.alc 2 [aY,aY,(.nil 10)]]) (.seq (.ops [.mv 4 0,.call (some 5) 69 [4,(kI 2)],.asg 3 5]) (.seq (.ops [.mv 6 3,.mv 7 0,.call (some 8) 71 [7],.bld 9 [aY,aY,(.nil 10)] [(0,1,6),(1,1,8)],.st 3 2 9]) .ret)))
theorem bFl:bQ Tryz.prog 73=some (bJm,[.ld 0 3 true 2],10):=by kernel_rfl
def bX6 (r:bR×aL):Exit→St→Prop:=bM [.ld 0 3 true 2] fun x b=>x=(fun (y:bR×aL)=>(aDu y.1)) r∧bI ((fun (y:bR×aL)=>[(1000000,bA y.2)]) r) b
def bDh:AC:=(.seq (.ops [.asg 4 (.c (.d (.s (bs []))))]) (.seq (.seq (.ops [.mv 5 0,.mv 6 1,.call (some 7) 67 [5,6],.not 8 7]) (.cond 8 (.seq (.ops [.mv 9 0,.nck 10 9,.fa 11 2 10,.st 1 11 (kB true)]) (.seq (.ops [.asg 4 (.c (.d (.s (bs []))))]) .ret)) .skip)) (.seq (.ops [.mv 12 0,.nck 13 12,.fa 14 1 13,.ld 15 1 false 14,.bin 16 .add 15 (kI 1),.nck 17 12,.fa 18 1 17,.st 1 18 16]) (.seq (.dops [[],[0],[1],[2],[],[4],[5],[6],[7],[3,8],[9],[10],[11,0,1,2,3,4,5,6,7,8,9,10,11]] [.mv 19 0,.nck 20 19,.fa 21 0 20,.ld 22 1 false 21,.mv 23 0,.nck 24 23,.fa 25 1 24,.ld 26 1 false 25,.bin 27 .sub 26 (kI 1),.ia 28 3 22 27,.fa 29 1 28,.ld 30 1 false 29,.asg 4 30]) .ret))))
theorem aY7:bQ Tryz.prog 69=some (bDh,[.mv 0 4],31):=by kernel_rfl
def bV1 (r:(List UInt8)×aL):Exit→St→Prop:=bM [.mv 0 4] fun x b=>x=(fun (y:(List UInt8)×aL)=>(vS y.1)) r∧bI ((fun (y:(List UInt8)×aL)=>[(1000000,bA y.2)]) r) b
def bKp:AC:=(.seq (.ops [.asg 4 (kB false)]) (.seq (.dops [[],[0],[1],[2],[3],[4],[5],[6,5],[7,5],[8,5],[5],[10,5],[11,5],[12,5],[13,5],[9,14,5],[5,15],[16,5],[17],[18,17],[19,17],[20,17],[17],[22,17],[23,17],[24,17],[21,25,17],[26,17],[27,17],[17],[28,29,17],[17,30],[31,17],[32],[33,32],[34,32],[35,32],[32],[37,32],[38,32],[39,32],[36,40,32],[41,32],[42,32,32],[32,43],[44,43,0,1,2,3,4,5,6,7,8,9,10,11,12,13,14,15,16,17,18,19,20,21,22,23,24,25,26,27,28,29,30,31,32,33,34,35,36,37,38,39,40,41,42,43,44]] [.mv 5 0,.nck 6 5,.fa 7 2 6,.ld 8 1 false 7,.not 9 8,.mv 10 9,.g 10 true (.mv 11 0),.g 10 true (.nck 12 11),.g 10 true (.fa 13 1 12),.g 10 true (.ld 14 1 false 13),.g 10 true (.mv 15 0),.g 10 true (.nck 16 15),.g 10 true (.fa 17 0 16),.g 10 true (.ld 18 1 false 17),.g 10 true (.len 19 18),.g 10 true (.bin 20 .lss 14 19),.pick 21 10 20 (kB false),.mv 22 21,.g 22 true (.mv 23 0),.g 22 true (.nck 24 23),.g 22 true (.fa 25 0 24),.g 22 true (.ld 26 1 false 25),.g 22 true (.mv 27 0),.g 22 true (.nck 28 27),.g 22 true (.fa 29 1 28),.g 22 true (.ld 30 1 false 29),.g 22 true (.ia 31 3 26 30),.g 22 true (.fa 32 0 31),.g 22 true (.ld 33 1 false 32),.g 22 true (.mv 34 1),.g 22 true (.bin 35 .eql 33 34),.pick 36 22 35 (kB false),.mv 37 36,.g 37 true (.mv 38 0),.g 37 true (.nck 39 38),.g 37 true (.fa 40 0 39),.g 37 true (.ld 41 1 false 40),.g 37 true (.mv 42 0),.g 37 true (.nck 43 42),.g 37 true (.fa 44 1 43),.g 37 true (.ld 45 1 false 44),.g 37 true (.ia 46 3 41 45),.g 37 true (.ld 47 3 true 46),.g 37 true (.call (some 48) 89 [47]),.pick 49 37 48 (kB false),.asg 4 49]) .ret))
theorem bI6:bQ Tryz.prog 67=some (bKp,[.mv 0 4],50):=by kernel_rfl
def bVt (p0:aL) (r:Bool):Exit→St→Prop:=bM [.mv 0 4] fun x b=>x=(fun (y:Bool)=>(vB y)) r∧bI ((fun (y:Bool)=>[(1000000,bA p0)]) r) b
def bM3:AC:=(.seq (.ops [.box 1 77 0,.asg 2 (kB false)]) (.seq (.seq (.ops [.fa 5 0 1,.ld 6 1 false 5]) (.block 0 (.seq (.ops [.bin 8 .eql 6 (kI 1),.asg 7 8]) (.cond 7 (.seq (.dops [[],[0],[1],[2],[3,2],[4],[5,4],[6,4,4],[4],[8,4],[7,9,4],[4,10],[11,7,0,1,2,3,4,5,6,7,8,9,10,11]] [.fa 9 1 1,.ld 10 1 false 9,.call (some 11) 100 [10],.bin 12 .neq 11 (kI 0),.mv 13 12,.g 13 true (.fa 14 1 1),.g 13 true (.ld 15 1 false 14),.g 13 true (.call (some 16) 101 [15]),.g 13 true (.fa 17 1 1),.g 13 true (.ld 18 1 false 17),.g 13 true (.bin 19 .eql 16 18),.pick 20 13 19 (kB false),.asg 2 20]) .ret) (.seq (.ops [.bin 22 .eql 6 (kI 2),.asg 21 22]) (.cond 21 (.seq (.ops [.fa 23 1 1,.ld 24 1 false 23,.call (some 25) 102 [24],.asg 2 25]) .ret) (.seq (.ops [.bin 27 .eql 6 (kI 3),.asg 26 27]) (.cond 26 (.seq (.ops [.fa 29 1 1,.ld 30 1 false 29,.call (some 31) 74 [30],.mv 28 31,.ext 32 28 0,.ext 33 28 1,.asg 3 32,.asg 4 33]) (.seq (.ops [.mv 34 4,.asg 2 34]) .ret)) (.seq (.ops [.bin 36 .eql 6 (kI 4),.asg 35 36]) (.cond 35 (.seq (.ops [.fa 37 1 1,.ld 38 1 false 37,.lns 39 38,.bin 40 .leq 39 (kI 40),.asg 2 40]) .ret) (.seq (.ops [.bin 42 .eql 6 (kI 5),.asg 41 42]) (.cond 41 (.seq (.ops [.fa 43 1 1,.ld 44 1 false 43,.call (some 45) 103 [44],.asg 2 45]) .ret) .skip)))))))))))) (.seq (.ops [.asg 2 (kB false)]) .ret)))
theorem bAc:bQ Tryz.prog 89=some (bM3,[.mv 0 2],46):=by kernel_rfl
def bU8 (r:Bool):Exit→St→Prop:=bM [.mv 0 2] fun x _=>x=(fun y=>(vB y)) r
def bPw:AC:=(.seq (.ops [.asg 2 (kB false)]) (.seq (.ops [.call (some 3) 117 [],.mv 4 0,.call (some 5) 116 [3,4],.asg 2 5]) .ret))
theorem bAs:bQ Tryz.prog 103=some (bPw,[.mv 0 2],6):=by kernel_rfl
def bW8 (r:Bool):Exit→St→Prop:=bM [.mv 0 2] fun x _=>x=(fun y=>(vB y)) r
def bFp:AC:=(.seq (.ops [.asg 0 (.c (.nil 1))]) (.seq (.ops [.bsl 1 9 1 [(.c (.d (.s (bs [40])))),(.c (.d (.s (bs [41])))),(.c (.d (.s (bs [44])))),(.c (.d (.s (bs [46])))),(.c (.d (.s (bs [42])))),(.c (.d (.s (bs [43])))),(.c (.d (.s (bs [45])))),(.c (.d (.s (bs [47])))),(.c (.d (.s (bs [37])))),(.c (.d (.s (bs [61])))),(.c (.d (.s (bs [60,62])))),(.c (.d (.s (bs [60])))),(.c (.d (.s (bs [60,61])))),(.c (.d (.s (bs [62])))),(.c (.d (.s (bs [62,61])))),(.c (.d (.s (bs [124,124]))))],.asg 0 1]) .ret))
theorem bSf:bQ Tryz.prog 117=some (bFp,[.mv 0 0],2):=by kernel_rfl
def bUz (r:List (List UInt8)):Exit→St→Prop:=bM [.mv 0 0] fun x b=>x=(fun (y:List (List UInt8))=>(.osl 2000000 9 1 (y.map cStr))) r∧bI ((fun (y:List (List UInt8))=>[]) r) b
def bQu:AC:=(.seq (.ops [.asg 4 (kB false)]) (.seq (.ops [.mv 5 0,.mv 6 1,.call (some 7) 114 [5,6],.bin 8 .geq 7 (kI 0),.asg 4 8]) .ret))
theorem bQf:bQ Tryz.prog 116=some (bQu,[.mv 0 4],9):=by kernel_rfl
def bVg (r:Bool):Exit→St→Prop:=bM [.mv 0 4] fun x _=>x=(fun y=>(vB y)) r
def aLi:AC:=(.loop (.seq (.ops [.bin 9 .lss 8 7]) (.seq (.cond 9 .skip (.exit 0)) (.seq (.block 1 (.seq (.ops [.mv 10 8,.asg 5 10]) (.seq (.ops [.mv 11 1,.mv 12 0,.mv 13 5,.ia 14 1 12 13,.ld 15 1 false 14,.bin 16 .eql 11 15]) (.cond 16 (.seq (.ops [.mv 17 5,.asg 4 17]) .ret) .skip)))) (.ops [.bin 18 .add 8 (kI 1),.mv 8 18])))))
def aP1:AC:=(.seq (.ops [.asg 4 (kI (-1))]) .ret)
def aYd:AC:=(.seq (.ops [.asg 4 (kI 0)]) (.seq (.seq (.ops [.mv 6 0,.len 7 6,.mv 8 (kI 0)]) (.block 0 aLi)) aP1))
theorem bJr:bQ Tryz.prog 114=some (aYd,[.mv 0 4],19):=by kernel_rfl
def aPl (r:Int):Exit→St→Prop:=bM [.mv 0 4] fun x _=>x=(fun y=>(vI y)) r
def bA6 (r:Int):Exit→St→Prop:=(eT (wkK (avc Tryz.prog aP1 (aPl r))) (aPl r))
def bHd (r:Int):Exit→St→Prop:=(eY 0 (bA6 r))
def bC6 (p0:List (List UInt8)) (p1:List UInt8) (x8:Int):St:=⟨[(0,(I9 p0)),(1,(vS p1)),(7,(vI (p0.length:Int))),(8,(vI x8))],[]⟩
abbrev aGj:=fun p0 p1 x8 r=>avc Tryz.prog aLi (bHd r) (bC6 p0 p1 x8)
def bC5:AC:=(.seq (.ops [.asg 2 (kB false)]) (.seq (.ops [.mv 3 0,.lns 4 3,.bin 5 .geq 4 (kI 1),.mv 6 5,.g 6 true (.mv 7 0),.g 6 true (.lns 8 7),.g 6 true (.bin 9 .leq 8 (kI 20)),.pick 10 6 9 (kB false),.asg 2 10]) .ret))
theorem bGw:bQ Tryz.prog 102=some (bC5,[.mv 0 2],11):=by kernel_rfl
def bVc (r:Bool):Exit→St→Prop:=bM [.mv 0 2] fun x _=>x=(fun y=>(vB y)) r
set_option maxHeartbeats 2000000 in
set_option maxRecDepth 100000 in
theorem aU2 (n : Int) (h0 : -9223372036854775808 ≤ n) (h1 : n ≤ 9223372036854775807) (w : World) (hv : F4 0 1 2 w) :
    Calls Tryz.prog 93 #[.int .i64 n] w fun e w'=>e=.returned (.string ⟨(Lib.itoa n).toArray⟩)∧jJ w w':=by
  go_enter Tryz.func93,Tryz.ntmps93
  go_wp2_with (go_at_call 109; refine (bN9 (g15:=0) (g16:=1) sh171 n h0 h1 _ hv).mono ?_; rintro e w' ⟨rfl,hw⟩)
  go_ret
  exact ⟨rfl,hw⟩
set_option maxHeartbeats 4000000 in
set_option maxRecDepth 100000 in
theorem bRc:aNf Tryz.prog 74 0 1 2:=by
  intro s w hs hv
  by_cases hok:∃ v,Lib.atoiAll s.data.toList=.ok v
  · obtain ⟨v,hc⟩:=hok
    have hb:=Lib.atoiAll_bounds hc
    by_cases hneg:v<0
    · have hr:iZ s.data.toList=(0,false):=by unfold iZ; rw [hc]; simp only; rw [if_pos hneg]
      rw [hr]
      go_enter Tryz.func74,Tryz.ntmps74
      go_wp2_with (go_at_call 92; refine (aN5 sh172 s hs v hc _).mono ?_; rintro e w' ⟨rfl,hw⟩)
      go_ret2
      exact ⟨rfl,hw⟩
    · by_cases he:Lib.itoa v=s.data.toList
      · have hr:iZ s.data.toList=(v,true):=by unfold iZ; rw [hc]; simp only; rw [if_neg hneg,if_pos he]
        have hes:(⟨(Lib.itoa v).toArray⟩:ByteArray)=s:=by rw [he]
        rw [hr]
        go_enter Tryz.func74,Tryz.ntmps74
        go_wp2_with (go_at_call 92; refine (aN5 sh172 s hs v hc _).mono ?_; rintro e w' ⟨rfl,hw⟩)
        go_wp2_with (go_at_call 93; refine (aU2 v hb.1 hb.2 _ (hv.grow hw)).mono ?_; rintro e w2 ⟨rfl,hw2⟩; rw [hes])
        go_ret2
        exact ⟨rfl,hw.trans hw2⟩
      · have hr:iZ s.data.toList=(0,false):=by unfold iZ; rw [hc]; simp only; rw [if_neg hneg,if_neg he]
        have hne:(⟨(Lib.itoa v).toArray⟩:ByteArray)≠s:=fun e=>he (by rw [← e])
        rw [hr]
        generalize hz:(⟨(Lib.itoa v).toArray⟩:ByteArray)=z at hne
        go_enter Tryz.func74,Tryz.ntmps74
        go_wp2_with (go_at_call 92; refine (aN5 sh172 s hs v hc _).mono ?_; rintro e w' ⟨rfl,hw⟩)
        go_wp2_with (go_at_call 93; refine (aU2 v hb.1 hb.2 _ (hv.grow hw)).mono ?_; rintro e w2 ⟨rfl,hw2⟩; rw [hz])
        · go_ret2
          exact ⟨rfl,hw.trans hw2⟩
        · rename_i hh
          have h2:z.data.toList=s.data.toList:=by
            have:=hh.2
            rw [Lib.toList_data,Lib.toList_data] at this
            simpa using this
          exact absurd ((Lib.mk_data z).symm.trans ((congrArg (fun l:List UInt8=>(⟨l.toArray⟩:ByteArray)) h2).trans (Lib.mk_data s))) hne
  · have hno:∀ v,Lib.atoiAll s.data.toList≠.ok v:=fun v e=>hok ⟨v,e⟩
    have hr:iZ s.data.toList=(0,false):=by
      unfold iZ
      split
      · rename_i n hn; exact absurd hn (hno n)
      · rfl
    rw [hr]
    obtain ⟨v,hcall⟩:=bN3 sh172 s hs hno w hv
    go_enter Tryz.func74,Tryz.ntmps74
    go_wp2_with (go_at_call 92; refine hcall.mono ?_)
    rintro e w' ⟨t,N,rfl,hw⟩
    go_wp2
    go_ret2
    exact ⟨rfl,hw⟩
def aJh:AC:=(.ops [.bin 27 .add 10 (kI 1),.mv 10 27])
def aEv:AC:=(.loop (.seq (.ops [.bin 11 .lss 10 9]) (.seq (.cond 11 .skip (.exit 0)) (.seq (.block 1 (.seq (.ops [.mv 12 10,.ia 13 1 8 10,.ld 14 1 false 13,.asg 4 12,.asg 5 14]) (.seq (.ops [.mv 15 5,.bin 16 .geq 15 (.c (.d (.i .u8 97))),.mv 17 16,.g 17 true (.mv 18 5),.g 17 true (.bin 19 .leq 18 (.c (.d (.i .u8 122)))),.pick 20 17 19 (kB false)]) (.cond 20 (.ops [.mv 21 3,.mv 22 4,.mv 23 5,.bin 24 .sub 23 (.c (.d (.i .u8 97))),.bin 25 .add 24 (.c (.d (.i .u8 65))),.ia 26 1 21 22,.st 1 26 25]) .skip)))) aJh))))
def aEq:AC:=(.seq (.ops [.mv 28 3,.cbs 29 28,.asg 2 29]) .ret)
def bNg:AC:=(.seq (.ops [.asg 2 (.c (.d (.s (bs []))))]) (.seq (.ops [.mv 6 0,.csb 7 5 6,.asg 3 7]) (.seq (.seq (.ops [.mv 8 3,.len 9 8,.mv 10 (kI 0)]) (.block 0 aEv)) aEq)))
theorem bLd:bQ Tryz.prog 101=some (bNg,[.mv 0 2],30):=by kernel_rfl
def aLf (r:List UInt8):Exit→St→Prop:=bM [.mv 0 2] fun x _=>x=(fun y=>(vS y)) r
def bIt (r:List UInt8):Exit→St→Prop:=(eT (wkK (avc Tryz.prog aEq (aLf r))) (aLf r))
def aLh (r:List UInt8):Exit→St→Prop:=(eY 0 (bIt r))
def bL9 (r:List UInt8):Exit→St→Prop:=(eT (avc Tryz.prog aEv (aLh r)) (aLh r))
def bOp (p0:List UInt8) (x10:Int) (iR:List Int):St:=⟨[(3,(.tre 60015000)),(8,(.tre 60015000)),(9,(vI ((jL p0).length:Int))),(10,(vI x10))],[(60015000,[(.trc 1 (iR.map cU8))])]⟩
abbrev aFi:=fun p0 x10 iR r=>avc Tryz.prog aEv (aLh r) (bOp p0 x10 iR)
def bSg (p0:List UInt8) (x10:Int) (nE:List Int):St:=⟨[(3,(.tre 60050000)),(8,(.tre 60050000)),(9,(vI ((jL p0).length:Int))),(10,(vI x10))],[(60050000,[(.trc 1 (nE.map cU8))])]⟩
abbrev aH7:=fun p0 x10 nE r=>avc Tryz.prog aJh (bL9 r) (bSg p0 x10 nE)
def bJw (x3:List Int):St:=⟨[(3,(nT x3))],[]⟩
abbrev aWn:=fun x3 r=>avc Tryz.prog aEq (aLf r) (bJw x3)
def aYh:AC:=(.seq (.ops [.asg 2 (kI 0)]) (.seq (.ops [.call (some 3) 115 [],.mv 4 0,.call (some 5) 101 [4],.call (some 6) 114 [3,5],.bin 7 .add 6 (kI 1),.asg 2 7]) .ret))
theorem bQk:bQ Tryz.prog 100=some (aYh,[.mv 0 2],8):=by kernel_rfl
def bWr (r:Int):Exit→St→Prop:=bM [.mv 0 2] fun x _=>x=(fun y=>(vI y)) r
def bM7:AC:=(.seq (.ops [.asg 0 (.c (.nil 1))]) (.seq (.ops [.call (some 1) 126 [(.c (.d (.s (bs [83,69,76,69,67,84,32,68,73,83,84,73,78,67,84,32,70,82,79,77,32,74,79,73,78,32,79,78,32,87,72,69,82,69,32,79,82,68,69,82,32,66,89,32,65,83,67,32,68,69,83,67,32,76,73,77,73,84,32,65,83,32,65,78,68,32,79,82,32,78,79,84,32,73,83,32,73,78,32,66,69,84,87,69,69,78,32,69,88,73,83,84,83,32,78,85,76,76,32,84,82,85,69,32,70,65,76,83,69,32,73,78,83,69,82,84,32,73,78,84,79,32,86,65,76,85,69,83,32,85,80,68,65,84,69,32,83,69,84,32,68,69,76,69,84,69])))),(.c (.d (.s (bs [32]))))],.asg 0 1]) .ret))
theorem bAh:bQ Tryz.prog 115=some (bM7,[.mv 0 0],2):=by kernel_rfl
def bWq (r:List (List UInt8)):Exit→St→Prop:=bM [.mv 0 0] fun x _=>x=(fun y=>(I9 y)) r

def bPr:AC:=(.seq (.ops [.asg 2 (.c (.d (.s (bs []))))]) (.seq (.seq (.ops [.mv 3 0,.call (some 4) 36 [3,(.c (.d (.s (bs [65,83]))))]]) (.cond 4 (.seq (.ops [.mv 5 0,.call (some 6) 69 [5,(kI 2)],.asg 2 6]) .ret) .skip)) (.seq (.ops [.asg 2 (.c (.d (.s (bs []))))]) .ret)))
theorem aYu:bQ Tryz.prog 71=some (bPr,[.mv 0 2],7):=by kernel_rfl
def bUe (r:(List UInt8)×aL):Exit→St→Prop:=bM [.mv 0 2] fun x b=>x=(fun (y:(List UInt8)×aL)=>(vS y.1)) r∧bI ((fun (y:(List UInt8)×aL)=>[(1000000,bA y.2)]) r) b
def bCz:AC:=(.seq (.ops [.mv 4 0,.mv 5 1,.call (some 6) 36 [4,5],.not 7 6]) (.cond 7 (.ops [.mv 8 0,.nck 9 8,.fa 10 2 9,.st 1 10 (kB true)]) .skip))
theorem aZ1:bQ Tryz.prog 35=some (bCz,[],11):=by kernel_rfl
def bTf (r:aL):Exit→St→Prop:=bM [] fun x b=>x=(fun (y:aL)=>(.tup [])) r∧bI ((fun (y:aL)=>[(1000000,bA y)]) r) b
def aIl:AC:=(.seq (.ops [.mv 17 5,.asg 4 17]) .ret)
def bKz:AC:=(.seq (.ops [.asg 4 (kB false)]) (.seq (.ops [.mv 6 0,.mv 7 1,.call (some 8) 72 [6,7],.asg 5 8]) (.seq (.seq (.ops [.mv 9 5]) (.cond 9 (.ops [.mv 10 0,.nck 11 10,.fa 12 1 11,.ld 13 1 false 12,.bin 14 .add 13 (kI 1),.nck 15 10,.fa 16 1 15,.st 1 16 14]) .skip)) aIl)))
theorem bF7:bQ Tryz.prog 38=some (bKz,[.mv 0 4],18):=by kernel_rfl
def aZw (r:Bool×aL):Exit→St→Prop:=bM [.mv 0 4] fun x b=>x=(fun (y:Bool×aL)=>(vB y.1)) r∧bI ((fun (y:Bool×aL)=>[(1000000,bA y.2)]) r) b
def bA5 (y1:Bool) (p0:aL) (bC:Int):St:=⟨[(5,(vB y1))],[(1000000,bA (aL.mk p0.list bC p0.failed))]⟩
abbrev aPc:=fun y1 p0 bC r=>avc Tryz.prog aIl (aZw r) (bA5 y1 p0 bC)
def bLv:AC:=(.seq (.ops [.asg 4 (kB false)]) (.seq (.ops [.mv 5 0,.mv 6 1,.call (some 7) 68 [5,(kI 0),(kI 5),6],.asg 4 7]) .ret))
theorem bRn:bQ Tryz.prog 72=some (bLv,[.mv 0 4],8):=by kernel_rfl
def bWc (p0:aL) (r:Bool):Exit→St→Prop:=bM [.mv 0 4] fun x b=>x=(fun (y:Bool)=>(vB y)) r∧bI ((fun (y:Bool)=>[(1000000,bA p0)]) r) b
def aZn:AC:=(.seq (.ops [.alc 2 fO]) (.seq (.ops [.mv 3 0,.mv 4 0,.mkf 5 1000091 [4],.bsl 6 3 1 [(kI 1)],.call (some 7) 90 [3,5,6],.st 10 2 7]) .ret))
theorem bJb:bQ Tryz.prog 70=some (aZn,[.ld 0 10 true 2],8):=by kernel_rfl
def bTq (r:aA×aL):Exit→St→Prop:=bM [.ld 0 10 true 2] fun x b=>x=(fun (y:aA×aL)=>(bX y.1)) r∧bI ((fun (y:aA×aL)=>[(1000000,bA y.2)]) r) b
def aO9:AC:=(.loop (.block 1 (.seq (.ops [.mv 11 0,.mv 12 2,.call (some 13) 104 [11,12],.asg 8 13]) (.seq (.seq (.ops [.mv 14 8,.bin 15 .eql 14 (kI 0)]) (.cond 15 (.seq (.ops [.ld 16 10 true 7,.st 10 6 16]) .ret) .skip)) (.dops [[],[],[],[2],[0,1,3,3],[4,4,0,1,2,3,4]] [.mv 17 8,.ld 18 10 true 7,.mv 19 1,.callv (some 20) 19 [],.call (some 21) 105 [17,18,20],.st 10 7 21])))))
def bQv:AC:=(.seq (.ops [.alc 6 fO]) (.seq (.ops [.mv 9 1,.callv (some 10) 9 [],.alc 7 fO,.st 10 7 10]) (.block 0 aO9)))
theorem bHf:bQ Tryz.prog 90=some (bQv,[.ld 0 10 true 6],22):=by kernel_rfl
def bEh (r:aA×aL):Exit→St→Prop:=bM [.ld 0 10 true 6] fun x b=>x=(fun (y:aA×aL)=>(bX y.1)) r∧bI ((fun (y:aA×aL)=>[(1000000,bA y.2)]) r) b
def bO9 (r:aA×aL):Exit→St→Prop:=(eY 0 (bEh r))
def bSj (p2:List Int) (dF:Int) (dV:Int) (dL:Bool) (dN:Int) (dR:Int) (bH:(List UInt8)×(List UInt8)×(List UInt8)×(List aA)×(List aX)×(List aJ)×Int×Bool):St:=⟨[(0,(.ptr 1000000 0)),(1,(.fn 1000091 [(.ptr 1000000 0)])),(2,(iY p2)),(6,(.ptr 6 0)),(7,(.ptr 7 0))],[(6,[(vI 0),(vI 0),(vB false),(vI 0),(vI 0),(vS []),(vS []),(vS []),(.nil 10),(.nil 6)]),(7,fM (aA.mk dF dV dL (bJ.mk dN dR bH.1) bH.2.1 bH.2.2.1 bH.2.2.2.1 bH.2.2.2.2.1)),(1000000,bA (aL.mk bH.2.2.2.2.2.1 bH.2.2.2.2.2.2.1 bH.2.2.2.2.2.2.2))]⟩
abbrev aDe:=fun p2 dF dV dL dN dR bH r=>avc Tryz.prog aO9 (bO9 r) (bSj p2 dF dV dL dN dR bH)
def bD7:AC:=(.seq (.ops [.box 4 57 1,.box 5 57 2,.alc 6 fO]) (.seq (.ops [.mv 7 0,.ld 8 10 true 4,.ld 9 10 true 5,.bsl 10 57 10 [8,9],.bld 11 [aR,aR,eH,aR,aR,aY,aY,aY,(.nil 10),(.nil 6)] [(0,1,(kI 4)),(1,1,7),(8,1,10)],.st 10 6 11]) .ret))
theorem bFb:bQ Tryz.prog 105=some (bD7,[.ld 0 10 true 6],12):=by kernel_rfl
def bVx (r:aA):Exit→St→Prop:=bM [.ld 0 10 true 6] fun x _=>x=(fun y=>(bX y)) r
def bBu:AC:=(.seq (.ops [.alc 2 fO]) (.seq (.ops [.mv 3 0,.mv 4 0,.mkf 5 1000106 [4],.bsl 6 3 1 [(kI 2)],.call (some 7) 90 [3,5,6],.st 10 2 7]) .ret))
theorem bP1:bQ Tryz.prog 91=some (bBu,[.ld 0 10 true 2],8):=by kernel_rfl
def bVq (r:aA×aL):Exit→St→Prop:=bM [.ld 0 10 true 2] fun x b=>x=(fun (y:aA×aL)=>(bX y.1)) r∧bI ((fun (y:aA×aL)=>[(1000000,bA y.2)]) r) b
def aIo:AC:=(.loop (.block 1 (.seq (.ops [.mv 11 0,.mv 12 2,.call (some 13) 104 [11,12],.asg 8 13]) (.seq (.seq (.ops [.mv 14 8,.bin 15 .eql 14 (kI 0)]) (.cond 15 (.seq (.ops [.ld 16 10 true 7,.st 10 6 16]) .ret) .skip)) (.dops [[],[],[],[2],[0,1,3,3],[4,4,0,1,2,3,4]] [.mv 17 8,.ld 18 10 true 7,.mv 19 1,.callv (some 20) 19 [],.call (some 21) 105 [17,18,20],.st 10 7 21])))))
def bB2:AC:=(.seq (.ops [.alc 6 fO]) (.seq (.ops [.mv 9 1,.callv (some 10) 9 [],.alc 7 fO,.st 10 7 10]) (.block 0 aIo)))
theorem bFx:bQ Tryz.prog 90=some (bB2,[.ld 0 10 true 6],22):=by kernel_rfl
def bHh (r:aA×aL):Exit→St→Prop:=bM [.ld 0 10 true 6] fun x b=>x=(fun (y:aA×aL)=>(bX y.1)) r∧bI ((fun (y:aA×aL)=>[(1000000,bA y.2)]) r) b
def aZx (r:aA×aL):Exit→St→Prop:=(eY 0 (bHh r))
def bCi (p2:List Int) (dF:Int) (dV:Int) (dL:Bool) (dN:Int) (dR:Int) (bH:(List UInt8)×(List UInt8)×(List UInt8)×(List aA)×(List aX)×(List aJ)×Int×Bool):St:=⟨[(0,(.ptr 1000000 0)),(1,(.fn 1000106 [(.ptr 1000000 0)])),(2,(iY p2)),(6,(.ptr 6 0)),(7,(.ptr 7 0))],[(6,[(vI 0),(vI 0),(vB false),(vI 0),(vI 0),(vS []),(vS []),(vS []),(.nil 10),(.nil 6)]),(7,fM (aA.mk dF dV dL (bJ.mk dN dR bH.1) bH.2.1 bH.2.2.1 bH.2.2.2.1 bH.2.2.2.2.1)),(1000000,bA (aL.mk bH.2.2.2.2.2.1 bH.2.2.2.2.2.2.1 bH.2.2.2.2.2.2.2))]⟩
abbrev aFy:=fun p2 dF dV dL dN dR bH r=>avc Tryz.prog aIo (aZx r) (bCi p2 dF dV dL dN dR bH)
def bHo:AC:=(.seq (.ops [.alc 2 fO]) (.seq (.seq (.ops [.mv 3 0,.call (some 4) 36 [3,(.c (.d (.s (bs [78,79,84]))))]]) (.cond 4 (.seq (.ops [.mv 5 0,.call (some 6) 106 [5],.bsl 7 57 10 [6],.bld 8 [aR,aR,eH,aR,aR,aY,aY,aY,(.nil 10),(.nil 6)] [(0,1,(kI 3)),(1,1,(kI 15)),(8,1,7)],.st 10 2 8]) .ret) .skip)) (.seq (.ops [.mv 9 0,.call (some 10) 119 [9],.st 10 2 10]) .ret)))
theorem bO8:bQ Tryz.prog 106=some (bHo,[.ld 0 10 true 2],11):=by kernel_rfl
def bUw (r:aA×aL):Exit→St→Prop:=bM [.ld 0 10 true 2] fun x b=>x=(fun (y:aA×aL)=>(bX y.1)) r∧bI ((fun (y:aA×aL)=>[(1000000,bA y.2)]) r) b
def bGa:AC:=(.seq (.ops [.alc 2 fO]) (.seq (.ops [.mv 8 0,.call (some 9) 127 [8],.alc 3 fO,.st 10 3 9]) (.seq (.seq (.ops [.mv 10 0,.bsl 11 3 1 [(kI 3),(kI 4),(kI 5),(kI 6),(kI 7),(kI 8)],.call (some 12) 104 [10,11],.asg 4 12]) (.seq (.ops [.mv 13 4,.bin 14 .neq 13 (kI 0)]) (.cond 14 (.seq (.dops [[],[],[],[2],[0,1,3,3],[4,4,0,1,2,3,4]] [.mv 15 4,.ld 16 10 true 3,.mv 17 0,.call (some 18) 127 [17],.call (some 19) 105 [15,16,18],.st 10 2 19]) .ret) .skip))) (.seq (.seq (.ops [.mv 20 0,.call (some 21) 36 [20,(.c (.d (.s (bs [73,83]))))]]) (.cond 21 (.seq (.ops [.mv 22 0,.call (some 23) 36 [22,(.c (.d (.s (bs [78,79,84]))))],.asg 5 23]) (.seq (.ops [.mv 24 0,.call (some 25) 35 [24,(.c (.d (.s (bs [78,85,76,76]))))]]) (.seq (.ops [.mv 26 5,.ld 27 10 true 3,.bsl 28 57 10 [27],.bld 29 [aR,aR,eH,aR,aR,aY,aY,aY,(.nil 10),(.nil 6)] [(0,1,(kI 5)),(2,1,26),(8,1,28)],.st 10 2 29]) .ret))) .skip)) (.seq (.ops [.mv 30 0,.call (some 31) 36 [30,(.c (.d (.s (bs [78,79,84]))))],.asg 6 31]) (.seq (.block 0 (.seq (.ops [.mv 33 0,.call (some 34) 36 [33,(.c (.d (.s (bs [66,69,84,87,69,69,78]))))],.asg 32 34]) (.cond 32 (.seq (.ops [.mv 35 0,.call (some 36) 127 [35],.alc 7 fO,.st 10 7 36]) (.seq (.ops [.mv 37 0,.call (some 38) 35 [37,(.c (.d (.s (bs [65,78,68]))))]]) (.seq (.dops [[],[],[],[],[3],[1,2,4],[0,5],[6,4,0,1,2,3,4,5,6]] [.mv 39 6,.ld 40 10 true 3,.ld 41 10 true 7,.mv 42 0,.call (some 43) 127 [42],.bsl 44 57 10 [40,41,43],.bld 45 [aR,aR,eH,aR,aR,aY,aY,aY,(.nil 10),(.nil 6)] [(0,1,(kI 6)),(2,1,39),(8,1,44)],.st 10 2 45]) .ret))) (.seq (.ops [.mv 47 0,.call (some 48) 36 [47,(.c (.d (.s (bs [73,78]))))],.asg 46 48]) (.cond 46 (.seq (.ops [.mv 49 0,.ld 50 10 true 3,.mv 51 6,.call (some 52) 128 [49,50,51],.st 10 2 52]) .ret) .skip))))) (.seq (.ops [.mv 53 0,.mv 54 0,.nck 55 54,.fa 56 2 55,.ld 57 1 false 56,.mv 58 57,.g 58 false (.mv 59 6),.pick 60 58 (kB true) 59,.nck 61 53,.fa 62 2 61,.st 1 62 60]) (.seq (.ops [.ld 63 10 true 3,.st 10 2 63]) .ret))))))))
theorem bHp:bQ Tryz.prog 119=some (bGa,[.ld 0 10 true 2],64):=by kernel_rfl
def bUy (r:aA×aL):Exit→St→Prop:=bM [.ld 0 10 true 2] fun x b=>x=(fun (y:aA×aL)=>(bX y.1)) r∧bI ((fun (y:aA×aL)=>[(1000000,bA y.2)]) r) b
def aNo:AC:=(.seq (.ops [.mv 27 0,.call (some 28) 135 [27,(.c (.d (.s (bs [41]))))]]) (.seq (.ops [.ld 29 10 true 7,.st 10 6 29]) .ret))
def bNm:AC:=(.seq (.ops [.box 4 57 1,.alc 6 fO]) (.seq (.ops [.mv 8 0,.call (some 9) 135 [8,(.c (.d (.s (bs [40]))))]]) (.seq (.ops [.mv 10 2,.ld 11 10 true 4,.bsl 12 57 10 [11],.bld 13 [aR,aR,eH,aR,aR,aY,aY,aY,(.nil 10),(.nil 6)] [(0,1,(kI 7)),(2,1,10),(8,1,12)],.alc 7 fO,.st 10 7 13]) (.seq (.seq (.ops [.mv 14 0,.call (some 15) 66 [14,(.c (.d (.s (bs [83,69,76,69,67,84]))))]]) (.cond 15 (.ops [.mv 16 0,.call (some 17) 17 [16],.bsl 18 31 6 [17],.fa 19 0 7,.st 1 19 (kI 8),.fa 20 9 7,.st 1 20 18]) (.dops [[],[0],[],[2],[1,3,3],[0,1,2,3,4],[5,4,4,0,1,2,3,4]] [.fa 21 8 7,.ld 22 1 false 21,.mv 23 0,.call (some 24) 136 [23],.app 25 57 10 136 22 24,.fa 26 8 7,.st 1 26 25]))) aNo))))
theorem bH2:bQ Tryz.prog 128=some (bNm,[.ld 0 10 true 6],30):=by kernel_rfl
def bLw (r:aA×aL):Exit→St→Prop:=bM [.ld 0 10 true 6] fun x b=>x=(fun (y:aA×aL)=>(bX y.1)) r∧bI ((fun (y:aA×aL)=>[(1000000,bA y.2)]) r) b
def bL1 (p2:Bool) (dF:Int) (wP:List aA) (vZ:List aX) (bD:List aJ) (bC:Int) (bF:Bool):St:=⟨[(0,(.ptr 1000000 0)),(6,(.ptr 6 0)),(7,(.ptr 7 0))],[(6,[(vI 0),(vI 0),(vB false),(vI 0),(vI 0),(vS []),(vS []),(vS []),(.nil 10),(.nil 6)]),(7,[(vI dF),(vI 0),(vB p2),(vI 0),(vI 0),(vS []),(vS []),(vS []),(.osl 12 57 10 (wP.map bN)),(.osl 18 31 6 (vZ.map iJ))]),(1000000,bA (aL.mk bD bC bF))]⟩
abbrev aS5:=fun p2 dF wP vZ bD bC bF r=>avc Tryz.prog aNo (bLw r) (bL1 p2 dF wP vZ bD bC bF)
def aOe:AC:=(.loop (.seq (.seq (.ops [.mv 7 0,.call (some 8) 38 [7,(.c (.d (.s (bs [44]))))]]) (.cond 8 .skip (.exit 0))) (.block 1 (.ops [.mv 9 3,.mv 10 0,.call (some 11) 70 [10],.bsl 12 57 10 [11],.app 13 57 10 136 9 12,.asg 3 13]))))
def aRd:AC:=(.seq (.ops [.mv 14 3,.asg 2 14]) .ret)
def bAt:AC:=(.seq (.ops [.asg 2 (.c (.nil 10))]) (.seq (.ops [.mv 4 0,.call (some 5) 70 [4],.bsl 6 57 10 [5],.asg 3 6]) (.seq (.block 0 aOe) aRd)))
theorem bQs:bQ Tryz.prog 136=some (bAt,[.mv 0 2],15):=by kernel_rfl
def aX5 (r:(List aA)×aL):Exit→St→Prop:=bM [.mv 0 2] fun x b=>x=(fun (y:(List aA)×aL)=>(.osl 2000000 57 10 (y.1.map bN))) r∧bI ((fun (y:(List aA)×aL)=>[(1000000,bA y.2)]) r) b
def bNy (r:(List aA)×aL):Exit→St→Prop:=(eT (wkK (avc Tryz.prog aRd (aX5 r))) (aX5 r))
def bSr (r:(List aA)×aL):Exit→St→Prop:=(eY 0 (bNy r))
def aYm (x3:List aA) (bD:List aJ) (bC:Int) (bF:Bool):St:=⟨[(0,(.ptr 1000000 0)),(3,(.osl 3 57 10 (x3.map bN)))],[(1000000,bA (aL.mk bD bC bF))]⟩
abbrev aH2:=fun x3 bD bC bF r=>avc Tryz.prog aOe (bSr r) (aYm x3 bD bC bF)
def bFn:AC:=(.seq (.ops [.mv 4 0,.mv 5 1,.call (some 6) 38 [4,5],.not 7 6]) (.cond 7 (.ops [.mv 8 0,.nck 9 8,.fa 10 2 9,.st 1 10 (kB true)]) .skip))
theorem bEw:bQ Tryz.prog 135=some (bFn,[],11):=by kernel_rfl
def bTt (r:aL):Exit→St→Prop:=bM [] fun x b=>x=(fun (y:aL)=>(.tup [])) r∧bI ((fun (y:aL)=>[(1000000,bA y)]) r) b
def bGj:AC:=(.seq (.ops [.alc 2 fO]) (.seq (.ops [.mv 3 0,.mv 4 0,.mkf 5 1000134 [4],.bsl 6 3 1 [(kI 9)],.call (some 7) 90 [3,5,6],.st 10 2 7]) .ret))
theorem bD1:bQ Tryz.prog 127=some (bGj,[.ld 0 10 true 2],8):=by kernel_rfl
def bTz (r:aA×aL):Exit→St→Prop:=bM [.ld 0 10 true 2] fun x b=>x=(fun (y:aA×aL)=>(bX y.1)) r∧bI ((fun (y:aA×aL)=>[(1000000,bA y.2)]) r) b
def aJr:AC:=(.loop (.block 1 (.seq (.ops [.mv 11 0,.mv 12 2,.call (some 13) 104 [11,12],.asg 8 13]) (.seq (.seq (.ops [.mv 14 8,.bin 15 .eql 14 (kI 0)]) (.cond 15 (.seq (.ops [.ld 16 10 true 7,.st 10 6 16]) .ret) .skip)) (.dops [[],[],[],[2],[0,1,3,3],[4,4,0,1,2,3,4]] [.mv 17 8,.ld 18 10 true 7,.mv 19 1,.callv (some 20) 19 [],.call (some 21) 105 [17,18,20],.st 10 7 21])))))
def bBa:AC:=(.seq (.ops [.alc 6 fO]) (.seq (.ops [.mv 9 1,.callv (some 10) 9 [],.alc 7 fO,.st 10 7 10]) (.block 0 aJr)))
theorem bKf:bQ Tryz.prog 90=some (bBa,[.ld 0 10 true 6],22):=by kernel_rfl
def bLu (r:aA×aL):Exit→St→Prop:=bM [.ld 0 10 true 6] fun x b=>x=(fun (y:aA×aL)=>(bX y.1)) r∧bI ((fun (y:aA×aL)=>[(1000000,bA y.2)]) r) b
def bHa (r:aA×aL):Exit→St→Prop:=(eY 0 (bLu r))
def bOx (p2:List Int) (dF:Int) (dV:Int) (dL:Bool) (dN:Int) (dR:Int) (bH:(List UInt8)×(List UInt8)×(List UInt8)×(List aA)×(List aX)×(List aJ)×Int×Bool):St:=⟨[(0,(.ptr 1000000 0)),(1,(.fn 1000134 [(.ptr 1000000 0)])),(2,(iY p2)),(6,(.ptr 6 0)),(7,(.ptr 7 0))],[(6,[(vI 0),(vI 0),(vB false),(vI 0),(vI 0),(vS []),(vS []),(vS []),(.nil 10),(.nil 6)]),(7,fM (aA.mk dF dV dL (bJ.mk dN dR bH.1) bH.2.1 bH.2.2.1 bH.2.2.2.1 bH.2.2.2.2.1)),(1000000,bA (aL.mk bH.2.2.2.2.2.1 bH.2.2.2.2.2.2.1 bH.2.2.2.2.2.2.2))]⟩
abbrev aDn:=fun p2 dF dV dL dN dR bH r=>avc Tryz.prog aJr (bHa r) (bOx p2 dF dV dL dN dR bH)
def bL3:AC:=(.seq (.ops [.alc 2 fO]) (.seq (.ops [.mv 3 0,.mv 4 0,.mkf 5 1000146 [4],.bsl 6 3 1 [(kI 10),(kI 11)],.call (some 7) 90 [3,5,6],.st 10 2 7]) .ret))
theorem aYf:bQ Tryz.prog 134=some (bL3,[.ld 0 10 true 2],8):=by kernel_rfl
def bWu (r:aA×aL):Exit→St→Prop:=bM [.ld 0 10 true 2] fun x b=>x=(fun (y:aA×aL)=>(bX y.1)) r∧bI ((fun (y:aA×aL)=>[(1000000,bA y.2)]) r) b
def aO0:AC:=(.loop (.block 1 (.seq (.ops [.mv 11 0,.mv 12 2,.call (some 13) 104 [11,12],.asg 8 13]) (.seq (.seq (.ops [.mv 14 8,.bin 15 .eql 14 (kI 0)]) (.cond 15 (.seq (.ops [.ld 16 10 true 7,.st 10 6 16]) .ret) .skip)) (.dops [[],[],[],[2],[0,1,3,3],[4,4,0,1,2,3,4]] [.mv 17 8,.ld 18 10 true 7,.mv 19 1,.callv (some 20) 19 [],.call (some 21) 105 [17,18,20],.st 10 7 21])))))
def bJ0:AC:=(.seq (.ops [.alc 6 fO]) (.seq (.ops [.mv 9 1,.callv (some 10) 9 [],.alc 7 fO,.st 10 7 10]) (.block 0 aO0)))
theorem bLb:bQ Tryz.prog 90=some (bJ0,[.ld 0 10 true 6],22):=by kernel_rfl
def aZp (r:aA×aL):Exit→St→Prop:=bM [.ld 0 10 true 6] fun x b=>x=(fun (y:aA×aL)=>(bX y.1)) r∧bI ((fun (y:aA×aL)=>[(1000000,bA y.2)]) r) b
def aZf (r:aA×aL):Exit→St→Prop:=(eY 0 (aZp r))
def bN1 (p2:List Int) (dF:Int) (dV:Int) (dL:Bool) (dN:Int) (dR:Int) (bH:(List UInt8)×(List UInt8)×(List UInt8)×(List aA)×(List aX)×(List aJ)×Int×Bool):St:=⟨[(0,(.ptr 1000000 0)),(1,(.fn 1000146 [(.ptr 1000000 0)])),(2,(iY p2)),(6,(.ptr 6 0)),(7,(.ptr 7 0))],[(6,[(vI 0),(vI 0),(vB false),(vI 0),(vI 0),(vS []),(vS []),(vS []),(.nil 10),(.nil 6)]),(7,fM (aA.mk dF dV dL (bJ.mk dN dR bH.1) bH.2.1 bH.2.2.1 bH.2.2.2.1 bH.2.2.2.2.1)),(1000000,bA (aL.mk bH.2.2.2.2.2.1 bH.2.2.2.2.2.2.1 bH.2.2.2.2.2.2.2))]⟩
abbrev aEc:=fun p2 dF dV dL dN dR bH r=>avc Tryz.prog aO0 (aZf r) (bN1 p2 dF dV dL dN dR bH)
def bAm:AC:=(.seq (.ops [.alc 2 fO]) (.seq (.ops [.mv 3 0,.mv 4 0,.mkf 5 1000156 [4],.bsl 6 3 1 [(kI 12),(kI 13),(kI 14)],.call (some 7) 90 [3,5,6],.st 10 2 7]) .ret))
theorem bDc:bQ Tryz.prog 146=some (bAm,[.ld 0 10 true 2],8):=by kernel_rfl
def bVd (r:aA×aL):Exit→St→Prop:=bM [.ld 0 10 true 2] fun x b=>x=(fun (y:aA×aL)=>(bX y.1)) r∧bI ((fun (y:aA×aL)=>[(1000000,bA y.2)]) r) b
def aK0:AC:=(.loop (.block 1 (.seq (.ops [.mv 11 0,.mv 12 2,.call (some 13) 104 [11,12],.asg 8 13]) (.seq (.seq (.ops [.mv 14 8,.bin 15 .eql 14 (kI 0)]) (.cond 15 (.seq (.ops [.ld 16 10 true 7,.st 10 6 16]) .ret) .skip)) (.dops [[],[],[],[2],[0,1,3,3],[4,4,0,1,2,3,4]] [.mv 17 8,.ld 18 10 true 7,.mv 19 1,.callv (some 20) 19 [],.call (some 21) 105 [17,18,20],.st 10 7 21])))))
def bIp:AC:=(.seq (.ops [.alc 6 fO]) (.seq (.ops [.mv 9 1,.callv (some 10) 9 [],.alc 7 fO,.st 10 7 10]) (.block 0 aK0)))
theorem aZl:bQ Tryz.prog 90=some (bIp,[.ld 0 10 true 6],22):=by kernel_rfl
def bL6 (r:aA×aL):Exit→St→Prop:=bM [.ld 0 10 true 6] fun x b=>x=(fun (y:aA×aL)=>(bX y.1)) r∧bI ((fun (y:aA×aL)=>[(1000000,bA y.2)]) r) b
def bLh (r:aA×aL):Exit→St→Prop:=(eY 0 (bL6 r))
def bT0 (p2:List Int) (dF:Int) (dV:Int) (dL:Bool) (dN:Int) (dR:Int) (bH:(List UInt8)×(List UInt8)×(List UInt8)×(List aA)×(List aX)×(List aJ)×Int×Bool):St:=⟨[(0,(.ptr 1000000 0)),(1,(.fn 1000156 [(.ptr 1000000 0)])),(2,(iY p2)),(6,(.ptr 6 0)),(7,(.ptr 7 0))],[(6,[(vI 0),(vI 0),(vB false),(vI 0),(vI 0),(vS []),(vS []),(vS []),(.nil 10),(.nil 6)]),(7,fM (aA.mk dF dV dL (bJ.mk dN dR bH.1) bH.2.1 bH.2.2.1 bH.2.2.2.1 bH.2.2.2.2.1)),(1000000,bA (aL.mk bH.2.2.2.2.2.1 bH.2.2.2.2.2.2.1 bH.2.2.2.2.2.2.2))]⟩
abbrev aEj:=fun p2 dF dV dL dN dR bH r=>avc Tryz.prog aK0 (bLh r) (bT0 p2 dF dV dL dN dR bH)
def bO3:AC:=(.seq (.ops [.alc 2 fO]) (.seq (.seq (.ops [.mv 3 0,.call (some 4) 38 [3,(.c (.d (.s (bs [45]))))]]) (.cond 4 (.seq (.ops [.mv 5 0,.call (some 6) 156 [5],.bsl 7 57 10 [6],.bld 8 [aR,aR,eH,aR,aR,aY,aY,aY,(.nil 10),(.nil 6)] [(0,1,(kI 3)),(1,1,(kI 16)),(8,1,7)],.st 10 2 8]) .ret) .skip)) (.seq (.ops [.mv 9 0,.call (some 10) 164 [9],.st 10 2 10]) .ret)))
theorem bJx:bQ Tryz.prog 156=some (bO3,[.ld 0 10 true 2],11):=by kernel_rfl
def bVo (r:aA×aL):Exit→St→Prop:=bM [.ld 0 10 true 2] fun x b=>x=(fun (y:aA×aL)=>(bX y.1)) r∧bI ((fun (y:aA×aL)=>[(1000000,bA y.2)]) r) b
def bSd:AC:=(.seq (.ops [.alc 2 fO]) (.seq (.block 0 (.seq (.ops [.mv 7 0,.call (some 8) 67 [7,(kI 3)],.asg 6 8]) (.cond 6 (.seq (.ops [.mv 9 0,.call (some 10) 42 [9],.call (some 11) 168 [10],.call (some 12) 167 [11],.st 10 2 12]) .ret) (.seq (.ops [.mv 14 0,.call (some 15) 67 [14,(kI 4)],.asg 13 15]) (.cond 13 (.seq (.ops [.mv 16 0,.call (some 17) 69 [16,(kI 4)],.call (some 18) 169 [17],.call (some 19) 167 [18],.st 10 2 19]) .ret) (.seq (.ops [.mv 21 0,.call (some 22) 36 [21,(.c (.d (.s (bs [78,85,76,76]))))],.asg 20 22]) (.cond 20 (.seq (.ops [.bld 23 [aR,aR,aY] [],.call (some 24) 167 [23],.st 10 2 24]) .ret) (.seq (.ops [.mv 26 0,.call (some 27) 36 [26,(.c (.d (.s (bs [84,82,85,69]))))],.asg 25 27]) (.cond 25 (.seq (.ops [.call (some 28) 170 [(kB true)],.call (some 29) 167 [28],.st 10 2 29]) .ret) (.seq (.ops [.mv 31 0,.call (some 32) 36 [31,(.c (.d (.s (bs [70,65,76,83,69]))))],.asg 30 32]) (.cond 30 (.seq (.ops [.call (some 33) 170 [(kB false)],.call (some 34) 167 [33],.st 10 2 34]) .ret) (.seq (.ops [.mv 36 0,.call (some 37) 67 [36,(kI 2)],.asg 35 37]) (.cond 35 (.seq (.ops [.mv 38 0,.call (some 39) 69 [38,(kI 2)],.asg 3 39]) (.seq (.seq (.ops [.mv 40 0,.call (some 41) 38 [40,(.c (.d (.s (bs [46]))))]]) (.cond 41 (.seq (.ops [.mv 42 3,.mv 43 0,.call (some 44) 69 [43,(kI 2)],.bld 45 [aR,aR,eH,aR,aR,aY,aY,aY,(.nil 10),(.nil 6)] [(0,1,(kI 2)),(6,1,42),(7,1,44)],.st 10 2 45]) .ret) .skip)) (.seq (.ops [.mv 46 3,.bld 47 [aR,aR,eH,aR,aR,aY,aY,aY,(.nil 10),(.nil 6)] [(0,1,(kI 2)),(7,1,46)],.st 10 2 47]) .ret))) (.seq (.ops [.mv 49 0,.call (some 50) 38 [49,(.c (.d (.s (bs [40]))))],.asg 48 50]) (.cond 48 (.seq (.ops [.mv 51 0,.call (some 52) 70 [51],.alc 4 fO,.st 10 4 52]) (.seq (.ops [.mv 53 0,.call (some 54) 135 [53,(.c (.d (.s (bs [41]))))]]) (.seq (.ops [.ld 55 10 true 4,.st 10 2 55]) .ret))) (.seq (.ops [.mv 57 0,.call (some 58) 36 [57,(.c (.d (.s (bs [69,88,73,83,84,83]))))],.asg 56 58]) (.cond 56 (.seq (.ops [.mv 59 0,.call (some 60) 135 [59,(.c (.d (.s (bs [40]))))]]) (.seq (.ops [.mv 61 0,.call (some 62) 17 [61],.alc 5 mF,.st 6 5 62]) (.seq (.ops [.mv 63 0,.call (some 64) 135 [63,(.c (.d (.s (bs [41]))))]]) (.seq (.ops [.ld 65 6 true 5,.bsl 66 31 6 [65],.bld 67 [aR,aR,eH,aR,aR,aY,aY,aY,(.nil 10),(.nil 6)] [(0,1,(kI 9)),(9,1,66)],.st 10 2 67]) .ret)))) .skip))))))))))))))))) (.seq (.ops [.mv 68 0,.nck 69 68,.fa 70 2 69,.st 1 70 (kB true)]) (.seq (.ops [.bld 71 [aR,aR,eH,aR,aR,aY,aY,aY,(.nil 10),(.nil 6)] [],.st 10 2 71]) .ret))))
theorem bBj:bQ Tryz.prog 164=some (bSd,[.ld 0 10 true 2],72):=by kernel_rfl
def bWb (r:aA×aL):Exit→St→Prop:=bM [.ld 0 10 true 2] fun x b=>x=(fun (y:aA×aL)=>(bX y.1)) r∧bI ((fun (y:aA×aL)=>[(1000000,bA y.2)]) r) b
def bSv:AC:=(.seq (.ops [.alc 2 [aR,aR,aY]]) (.seq (.ops [.mv 3 0,.bld 4 [aR,aR,aY] [(0,1,(kI 2)),(2,1,3)],.st 3 2 4]) .ret))
theorem bKn:bQ Tryz.prog 169=some (bSv,[.ld 0 3 true 2],5):=by kernel_rfl
def bTs (r:bJ):Exit→St→Prop:=bM [.ld 0 3 true 2] fun x _=>x=(fun y=>(lC y)) r
def bNb:AC:=(.seq (.ops [.alc 2 [aR,aR,aY]]) (.seq (.ops [.mv 3 0,.bld 4 [aR,aR,aY] [(0,1,(kI 1)),(1,1,3)],.st 3 2 4]) .ret))
theorem bK4:bQ Tryz.prog 168=some (bNb,[.ld 0 3 true 2],5):=by kernel_rfl
def bVs (r:bJ):Exit→St→Prop:=bM [.ld 0 3 true 2] fun x _=>x=(fun y=>(lC y)) r
def bRj:AC:=(.seq (.ops [.box 1 54 0,.alc 2 fO]) (.seq (.ops [.ld 3 3 true 1,.bld 4 [aR,aR,eH,aR,aR,aY,aY,aY,(.nil 10),(.nil 6)] [(0,1,(kI 1)),(3,3,3)],.st 10 2 4]) .ret))
theorem bK8:bQ Tryz.prog 167=some (bRj,[.ld 0 10 true 2],5):=by kernel_rfl
def bWn (r:aA):Exit→St→Prop:=bM [.ld 0 10 true 2] fun x _=>x=(fun y=>(bX y)) r
def aOh:AC:=(.seq (.ops [.ld 7 3 true 3,.st 3 2 7]) .ret)
def bE4:AC:=(.seq (.ops [.alc 2 [aR,aR,aY]]) (.seq (.ops [.bld 4 [aR,aR,aY] [(0,1,(kI 3))],.alc 3 [aR,aR,aY],.st 3 3 4]) (.seq (.seq (.ops [.mv 5 0]) (.cond 5 (.ops [.fa 6 1 3,.st 1 6 (kI 1)]) .skip)) aOh)))
theorem bOi:bQ Tryz.prog 170=some (bE4,[.ld 0 3 true 2],8):=by kernel_rfl
def bD0 (r:bJ):Exit→St→Prop:=bM [.ld 0 3 true 2] fun x _=>x=(fun y=>(lC y)) r
def bOb (bG:Int):St:=⟨[(2,(.ptr 2 0)),(3,(.ptr 3 0))],[(2,[(vI 0),(vI 0),(vS [])]),(3,aR9 (bJ.mk 3 bG []))]⟩
abbrev aVo:=fun bG r=>avc Tryz.prog aOh (bD0 r) (bOb bG)
def bCa:AC:=(.seq (.ops [.asg 2 (kI 0)]) (.seq (.ops [.mv 6 0,.call (some 7) 69 [6,(kI 3)],.call (some 8) 74 [7],.mv 5 8,.ext 9 5 0,.ext 10 5 1,.asg 3 9,.asg 4 10]) (.seq (.ops [.mv 11 3,.asg 2 11]) .ret)))
theorem bQx:bQ Tryz.prog 42=some (bCa,[.mv 0 2],12):=by kernel_rfl
def bUx (r:Int×aL):Exit→St→Prop:=bM [.mv 0 2] fun x b=>x=(fun (y:Int×aL)=>(vI y.1)) r∧bI ((fun (y:Int×aL)=>[(1000000,bA y.2)]) r) b
def aL6:AC:=(.seq (.ops [.mv 20 0,.mv 21 7,.mv 22 6,.call (some 23) 118 [22],.call (some 24) 68 [20,(kI 0),21,23]]) (.cond 24 (.seq (.ops [.mv 25 0,.nck 26 25,.fa 27 1 26,.ld 28 1 false 27,.bin 29 .add 28 (kI 1),.nck 30 25,.fa 31 1 30,.st 1 31 29]) (.seq (.ops [.mv 32 6,.asg 4 32]) .ret)) .skip))
def aR3:AC:=(.ops [.bin 33 .add 10 (kI 1),.mv 10 33])
def aG7:AC:=(.loop (.seq (.ops [.bin 11 .lss 10 9]) (.seq (.cond 11 .skip (.exit 0)) (.seq (.block 1 (.seq (.ops [.ia 12 1 8 10,.ld 13 1 false 12,.asg 6 13]) (.seq (.ops [.asg 7 (kI 5)]) (.seq (.seq (.ops [.mv 14 6,.bin 15 .eql 14 (kI 1),.mv 16 15,.g 16 false (.mv 17 6),.g 16 false (.bin 18 .eql 17 (kI 2)),.pick 19 16 (kB true) 18]) (.cond 19 (.ops [.asg 7 (kI 1)]) .skip)) aL6)))) aR3))))
def aXz:AC:=(.seq (.ops [.asg 4 (kI 0)]) .ret)
def bQa:AC:=(.seq (.ops [.asg 4 (kI 0)]) (.seq (.seq (.ops [.mv 8 1,.len 9 8,.mv 10 (kI 0)]) (.block 0 aG7)) aXz))
theorem aZ4:bQ Tryz.prog 104=some (bQa,[.mv 0 4],34):=by kernel_rfl
def aVv (r:Int×aL):Exit→St→Prop:=bM [.mv 0 4] fun x b=>x=(fun (y:Int×aL)=>(vI y.1)) r∧bI ((fun (y:Int×aL)=>[(1000000,bA y.2)]) r) b
def bDo (r:Int×aL):Exit→St→Prop:=(eT (wkK (avc Tryz.prog aXz (aVv r))) (aVv r))
def aIx (r:Int×aL):Exit→St→Prop:=(eY 0 (bDo r))
def aTr (r:Int×aL):Exit→St→Prop:=(eT (avc Tryz.prog aG7 (aIx r)) (aIx r))
def bAx (r:Int×aL):Exit→St→Prop:=(eT (wkK (avc Tryz.prog aR3 (aTr r))) (aTr r))
def bKj (r:Int×aL):Exit→St→Prop:=(eY 1 (bAx r))
def aZi (p1:List Int) (p0:aL) (x10:Int):St:=⟨[(0,(.ptr 1000000 0)),(8,(iY p1)),(9,(vI (p1.length:Int))),(10,(vI x10))],[(1000000,bA p0)]⟩
abbrev aDr:=fun p1 p0 x10 r=>avc Tryz.prog aG7 (aIx r) (aZi p1 p0 x10)
def bGu (y1:Int) (p1:List Int) (x10:Int) (p0:aL) (x7:Int):St:=⟨[(0,(.ptr 1000000 0)),(6,(vI y1)),(7,(vI x7)),(8,(iY p1)),(9,(vI (p1.length:Int))),(10,(vI x10))],[(1000000,bA p0)]⟩
abbrev aH0:=fun y1 p1 x10 p0 x7 r=>avc Tryz.prog aL6 (bKj r) (bGu y1 p1 x10 p0 x7)
def bPz:AC:=(.seq (.ops [.asg 2 (.c (.d (.s (bs []))))]) (.seq (.seq (.ops [.mv 3 0,.bin 4 .lss 3 (kI 1),.mv 5 4,.g 5 false (.mv 6 0),.g 5 false (.bin 7 .gtr 6 (kI 16)),.pick 8 5 (kB true) 7]) (.cond 8 (.seq (.ops [.asg 2 (.c (.d (.s (bs []))))]) .ret) .skip)) (.seq (.ops [.bsl 9 9 1 [(.c (.d (.s (bs [79,82])))),(.c (.d (.s (bs [65,78,68])))),(.c (.d (.s (bs [61])))),(.c (.d (.s (bs [60,62])))),(.c (.d (.s (bs [60])))),(.c (.d (.s (bs [60,61])))),(.c (.d (.s (bs [62])))),(.c (.d (.s (bs [62,61])))),(.c (.d (.s (bs [124,124])))),(.c (.d (.s (bs [43])))),(.c (.d (.s (bs [45])))),(.c (.d (.s (bs [42])))),(.c (.d (.s (bs [47])))),(.c (.d (.s (bs [37])))),(.c (.d (.s (bs [78,79,84])))),(.c (.d (.s (bs [45]))))],.mv 10 0,.bin 11 .sub 10 (kI 1),.ia 12 1 9 11,.ld 13 1 false 12,.asg 2 13]) .ret)))
theorem bGm:bQ Tryz.prog 118=some (bPz,[.mv 0 2],14):=by kernel_rfl
def bU0 (r:List UInt8):Exit→St→Prop:=bM [.mv 0 2] fun x _=>x=(fun y=>(vS y)) r
def aN6:AC:=(.seq (.ops [.ld 13 11 true 3,.st 11 2 13]) .ret)
def bKq:AC:=(.seq (.ops [.alc 2 aKo]) (.seq (.ops [.mv 4 0,.call (some 5) 70 [4],.bld 6 [aR,aR,eH,aR,aR,aY,aY,aY,(.nil 10),(.nil 6),eH] [(0,10,5)],.alc 3 aKo,.st 11 3 6]) (.seq (.seq (.ops [.mv 7 0,.call (some 8) 36 [7,(.c (.d (.s (bs [65,83,67]))))],.not 9 8]) (.cond 9 (.ops [.mv 10 0,.call (some 11) 36 [10,(.c (.d (.s (bs [68,69,83,67]))))],.fa 12 10 3,.st 1 12 11]) .skip)) aN6)))
theorem bKs:bQ Tryz.prog 41=some (bKq,[.ld 0 11 true 2],14):=by kernel_rfl
def bI0 (r:dY×aL):Exit→St→Prop:=bM [.ld 0 11 true 2] fun x b=>x=(fun (y:dY×aL)=>(xZ y.1)) r∧bI ((fun (y:dY×aL)=>[(1000000,bA y.2)]) r) b
def aYs (y1:aA×aL) (wY:Bool) (bD:List aJ) (bC:Int) (bF:Bool):St:=⟨[(2,(.ptr 2 0)),(3,(.ptr 3 0))],[(2,[(vI 0),(vI 0),(vB false),(vI 0),(vI 0),(vS []),(vS []),(vS []),(.nil 10),(.nil 6),(vB false)]),(3,bGg (dY.mk y1.1 wY)),(1000000,bA (aL.mk bD bC bF))]⟩
abbrev aXu:=fun y1 wY bD bC bF r=>avc Tryz.prog aN6 (bI0 r) (aYs y1 wY bD bC bF)
def bFf:AC:=(.seq (.ops [.asg 2 (.c (.nil 10))]) (.seq (.seq (.ops [.mv 3 0,.call (some 4) 36 [3,(.c (.d (.s (bs [87,72,69,82,69]))))]]) (.cond 4 (.seq (.ops [.mv 5 0,.call (some 6) 70 [5],.bsl 7 57 10 [6],.asg 2 7]) .ret) .skip)) (.seq (.ops [.asg 2 (.c (.nil 10))]) .ret)))
theorem bCu:bQ Tryz.prog 40=some (bFf,[.mv 0 2],8):=by kernel_rfl
def bU6 (r:(List aA)×aL):Exit→St→Prop:=bM [.mv 0 2] fun x b=>x=(fun (y:(List aA)×aL)=>(.osl 2000000 57 10 (y.1.map bN))) r∧bI ((fun (y:(List aA)×aL)=>[(1000000,bA y.2)]) r) b
def bRb:AC:=(.seq (.ops [.alc 2 aGl]) (.seq (.block 0 (.seq (.ops [.mv 6 0,.call (some 7) 38 [6,(.c (.d (.s (bs [42]))))],.asg 5 7]) (.cond 5 (.seq (.ops [.bld 8 [eH,aY,aR,aR,eH,aR,aR,aY,aY,aY,(.nil 10),(.nil 6),aY] [(0,1,(kB true))],.st 13 2 8]) .ret) (.seq (.ops [.mv 10 0,.call (some 11) 67 [10,(kI 2)],.mv 12 11,.g 12 true (.mv 13 0),.g 12 true (.call (some 14) 68 [13,(kI 1),(kI 5),(.c (.d (.s (bs [46]))))]),.pick 15 12 14 (kB false),.mv 16 15,.g 16 true (.mv 17 0),.g 16 true (.call (some 18) 68 [17,(kI 2),(kI 5),(.c (.d (.s (bs [42]))))]),.pick 19 16 18 (kB false),.asg 9 19]) (.cond 9 (.seq (.ops [.mv 20 0,.call (some 21) 69 [20,(kI 2)],.asg 3 21]) (.seq (.ops [.mv 22 0,.nck 23 22,.fa 24 1 23,.ld 25 1 false 24,.bin 26 .add 25 (kI 2),.nck 27 22,.fa 28 1 27,.st 1 28 26]) (.seq (.ops [.mv 29 3,.bld 30 [eH,aY,aR,aR,eH,aR,aR,aY,aY,aY,(.nil 10),(.nil 6),aY] [(0,1,(kB true)),(1,1,29)],.st 13 2 30]) .ret))) .skip))))) (.seq (.ops [.mv 31 0,.call (some 32) 70 [31],.alc 4 fO,.st 10 4 32]) (.seq (.dops [[],[],[1],[0,2],[3,2,0,1,2,3]] [.ld 33 10 true 4,.mv 34 0,.call (some 35) 71 [34],.bld 36 [eH,aY,aR,aR,eH,aR,aR,aY,aY,aY,(.nil 10),(.nil 6),aY] [(2,10,33),(12,1,35)],.st 13 2 36]) .ret))))
theorem bJk:bQ Tryz.prog 37=some (bRb,[.ld 0 13 true 2],37):=by kernel_rfl
def bV9 (r:bU×aL):Exit→St→Prop:=bM [.ld 0 13 true 2] fun x b=>x=(fun (y:bU×aL)=>(rO y.1)) r∧bI ((fun (y:bU×aL)=>[(1000000,bA y.2)]) r) b
def aLw:AC:=(.loop (.seq (.seq (.ops [.mv 8 4,.mv 9 0,.len 10 9,.bin 11 .lss 8 10,.mv 12 11,.g 12 true (.mv 13 4),.g 12 true (.bin 14 .lss 13 (kI 4000)),.pick 15 12 14 (kB false)]) (.cond 15 .skip (.exit 0))) (.seq (.block 1 (.ops [.mv 18 3,.bin 19 .mul 18 (kI 131),.mv 20 0,.mv 21 4,.ia 22 1 20 21,.ld 23 1 false 22,.cvi 24 .i64 23,.bin 25 .add 19 24,.bin 26 .add 25 (kI 7),.bin 27 .and 26 (kI 1073741823),.asg 3 27])) (.ops [.mv 16 4,.bin 17 .add 16 (kI 1),.asg 4 17]))))
def aWw:AC:=(.seq (.ops [.mv 28 0,.mv 29 3,.bld 30 [(.nil 1),aR,aR] [(0,1,28),(2,1,29)],.box 31 62 30,.asg 2 31]) .ret)
def bRt:AC:=(.seq (.ops [.asg 2 (.c .np)]) (.seq (.ops [.mv 5 0,.len 6 5,.bin 7 .add (kI 28322) 6,.asg 3 7]) (.seq (.seq (.ops [.asg 4 (kI 0)]) (.block 0 aLw)) aWw)))
theorem bFj:bQ Tryz.prog 10=some (bRt,[.mv 0 2],32):=by kernel_rfl
def aQn (r:aQ):Exit→St→Prop:=bM [.mv 0 2] fun x b=>x=(fun (y:aQ)=>(.ptr 31 0)) r∧bI ((fun (y:aQ)=>[(31,dC y)]) r) b
def bCt (r:aQ):Exit→St→Prop:=(eT (wkK (avc Tryz.prog aWw (aQn r))) (aQn r))
def bCh (r:aQ):Exit→St→Prop:=(eY 0 (bCt r))
def bQr (p0:List Int) (x3:Int) (x4:Int):St:=⟨[(0,(nT p0)),(3,(vI x3)),(4,(vI x4))],[]⟩
abbrev aHl:=fun p0 x3 x4 r=>avc Tryz.prog aLw (bCh r) (bQr p0 x3 x4)
def bRl:AC:=(.seq (.ops [.asg 2 (.c .np),.alc 3 fO]) (.seq (.ops [.mv 5 0,.call (some 6) 10 [5],.asg 4 6]) (.seq (.ops [.mv 7 4,.mv 8 4,.mv 9 4,.mv 10 0,.call (some 11) 13 [10,(kI 4)],.call (some 12) 12 [9,11],.call (some 13) 24 [8,12],.asg 2 7,.st 10 3 13]) .ret)))
theorem aYl:bQ Tryz.prog 21=some (bRl,[.mv 0 2,.ld 0 10 true 3],14):=by kernel_rfl
def bUr (r:aQ×aA):Exit→St→Prop:=bM [.mv 0 2,.ld 0 10 true 3] fun x b=>x=(fun (y:aQ×aA)=>(.tup [(.ptr 6 0),(bX y.2)])) r∧bI ((fun (y:aQ×aA)=>[(6,dC y.1)]) r) b
def aYx:AC:=(.seq (.ops [.asg 4 (kI 0)]) (.seq (.ops [.mv 6 0,.len 7 6,.bin 8 .quo 7 (kI 20),.bin 9 .add (kI 2) 8,.asg 5 9]) (.seq (.seq (.ops [.mv 10 5,.mv 11 1,.bin 12 .gtr 10 11]) (.cond 12 (.seq (.ops [.mv 13 1,.asg 4 13]) .ret) .skip)) (.seq (.ops [.mv 14 5,.asg 4 14]) .ret))))
theorem bM2:bQ Tryz.prog 13=some (aYx,[.mv 0 4],15):=by kernel_rfl
def bTl (r:Int):Exit→St→Prop:=bM [.mv 0 4] fun x _=>x=(fun y=>(vI y)) r
def aK5:AC:=(.seq (.ops [.mv 84 0,.call (some 85) 12 [84,(kI 14)],.bin 86 .add (kI 1) 85,.mv 87 0,.mv 88 1,.call (some 89) 61 [87,88,(kI 2)],.bld 90 [aR,aR,eH,aR,aR,aY,aY,aY,(.nil 10),(.nil 6)] [(0,1,(kI 4)),(1,1,86),(8,1,89)],.st 10 4 90]) .ret)
def bMg:AC:=(.seq (.ops [.alc 4 fO]) (.seq (.seq (.ops [.mv 5 1,.bin 6 .leq 5 (kI 0),.mv 7 6,.g 7 false (.mv 8 0),.g 7 false (.call (some 9) 16 [8,(kI 5)]),.pick 10 7 (kB true) 9]) (.cond 10 (.seq (.seq (.ops [.mv 11 0,.call (some 12) 16 [11,(kI 2)]]) (.cond 12 (.seq (.ops [.mv 13 0,.call (some 14) 59 [13],.st 10 4 14]) .ret) .skip)) (.seq (.ops [.mv 15 0,.call (some 16) 60 [15],.bld 17 [aR,aR,eH,aR,aR,aY,aY,aY,(.nil 10),(.nil 6)] [(0,1,(kI 1)),(3,3,16)],.st 10 4 17]) .ret)) .skip)) (.seq (.seq (.ops [.mv 18 0,.call (some 19) 12 [18,(kI 12)]]) (.block 0 (.seq (.ops [.bin 21 .eql 19 (kI 0),.asg 20 21]) (.cond 20 (.seq (.ops [.mv 22 0,.mv 23 1,.call (some 24) 61 [22,23,(kI 1)],.bld 25 [aR,aR,eH,aR,aR,aY,aY,aY,(.nil 10),(.nil 6)] [(0,1,(kI 3)),(1,1,(kI 15)),(8,1,24)],.st 10 4 25]) .ret) (.seq (.ops [.bin 27 .eql 19 (kI 1),.asg 26 27]) (.cond 26 (.seq (.ops [.mv 28 0,.mv 29 1,.call (some 30) 61 [28,29,(kI 1)],.bld 31 [aR,aR,eH,aR,aR,aY,aY,aY,(.nil 10),(.nil 6)] [(0,1,(kI 3)),(1,1,(kI 16)),(8,1,30)],.st 10 4 31]) .ret) (.seq (.ops [.bin 33 .eql 19 (kI 2),.asg 32 33]) (.cond 32 (.seq (.ops [.mv 34 0,.call (some 35) 16 [34,(kI 2)],.mv 36 0,.mv 37 1,.call (some 38) 61 [36,37,(kI 1)],.bld 39 [aR,aR,eH,aR,aR,aY,aY,aY,(.nil 10),(.nil 6)] [(0,1,(kI 5)),(2,1,35),(8,1,38)],.st 10 4 39]) .ret) (.seq (.ops [.bin 41 .eql 19 (kI 3),.asg 40 41]) (.cond 40 (.seq (.ops [.mv 42 0,.call (some 43) 16 [42,(kI 2)],.mv 44 0,.mv 45 1,.call (some 46) 61 [44,45,(kI 3)],.bld 47 [aR,aR,eH,aR,aR,aY,aY,aY,(.nil 10),(.nil 6)] [(0,1,(kI 6)),(2,1,43),(8,1,46)],.st 10 4 47]) .ret) (.seq (.ops [.bin 49 .eql 19 (kI 4),.asg 48 49]) (.cond 48 (.seq (.ops [.mv 50 0,.call (some 51) 16 [50,(kI 2)],.mv 52 0,.mv 53 1,.mv 54 0,.call (some 55) 12 [54,(kI 2)],.bin 56 .add (kI 2) 55,.call (some 57) 61 [52,53,56],.bld 58 [aR,aR,eH,aR,aR,aY,aY,aY,(.nil 10),(.nil 6)] [(0,1,(kI 7)),(2,1,51),(8,1,57)],.st 10 4 58]) .ret) (.seq (.ops [.bin 60 .eql 19 (kI 5),.asg 59 60]) (.cond 59 (.seq (.ops [.mv 61 1,.bin 62 .gtr 61 (kI 1)]) (.cond 62 (.seq (.ops [.mv 63 0,.call (some 64) 16 [63,(kI 2)],.mv 65 0,.mv 66 1,.call (some 67) 61 [65,66,(kI 1)],.mv 68 0,.mv 69 1,.bin 70 .sub 69 (kI 2),.call (some 71) 11 [68,70],.bsl 72 31 6 [71],.bld 73 [aR,aR,eH,aR,aR,aY,aY,aY,(.nil 10),(.nil 6)] [(0,1,(kI 8)),(2,1,64),(8,1,67),(9,1,72)],.st 10 4 73]) .ret) .skip)) (.seq (.ops [.bin 75 .eql 19 (kI 6),.asg 74 75]) (.cond 74 (.seq (.ops [.mv 76 1,.bin 77 .gtr 76 (kI 1)]) (.cond 77 (.seq (.ops [.mv 78 0,.mv 79 1,.bin 80 .sub 79 (kI 2),.call (some 81) 11 [78,80],.bsl 82 31 6 [81],.bld 83 [aR,aR,eH,aR,aR,aY,aY,aY,(.nil 10),(.nil 6)] [(0,1,(kI 9)),(9,1,82)],.st 10 4 83]) .ret) .skip)) .skip)))))))))))))))) aK5)))
theorem bE1:bQ Tryz.prog 24=some (bMg,[.ld 0 10 true 4],91):=by kernel_rfl
def bNj (r:aA×aQ):Exit→St→Prop:=bM [.ld 0 10 true 4] fun x b=>x=(fun (y:aA×aQ)=>(bX y.1)) r∧bI ((fun (y:aA×aQ)=>[(1000000,dC y.2)]) r) b
def bAu (p1:Int) (y6:Int×aQ):St:=⟨[(0,(.ptr 1000000 0)),(1,(vI p1)),(4,(.ptr 4 0))],[(4,[(vI 0),(vI 0),(vB false),(vI 0),(vI 0),(vS []),(vS []),(vS []),(.nil 10),(.nil 6)]),(1000000,dC y6.2)]⟩
abbrev aDq:=fun p1 y6 r=>avc Tryz.prog aK5 (bNj r) (bAu p1 y6)
def aKv:AC:=(.seq (.ops [.ld 15 3 true 3,.st 3 2 15]) .ret)
def bKo:AC:=(.seq (.ops [.alc 2 [aR,aR,aY]]) (.seq (.ops [.mv 4 0,.call (some 5) 84 [4],.alc 3 [aR,aR,aY],.st 3 3 5]) (.seq (.seq (.ops [.fa 6 0 3,.ld 7 1 false 6,.bin 8 .eql 7 (kI 1),.mv 9 8,.g 9 true (.fa 10 1 3),.g 9 true (.ld 11 1 false 10),.g 9 true (.bin 12 .lss 11 (kI 0)),.pick 13 9 12 (kB false)]) (.cond 13 (.ops [.fa 14 1 3,.st 1 14 (kI 9223372036854775807)]) .skip)) aKv)))
theorem bJ3:bQ Tryz.prog 60=some (bKo,[.ld 0 3 true 2],16):=by kernel_rfl
def bQ6 (r:bJ×aQ):Exit→St→Prop:=bM [.ld 0 3 true 2] fun x b=>x=(fun (y:bJ×aQ)=>(lC y.1)) r∧bI ((fun (y:bJ×aQ)=>[(1000000,dC y.2)]) r) b
def bRg (y1:bJ×aQ) (bG:Int):St:=⟨[(2,(.ptr 2 0)),(3,(.ptr 3 0))],[(2,[(vI 0),(vI 0),(vS [])]),(3,aR9 (bJ.mk y1.1.kind bG y1.1.text)),(1000000,dC y1.2)]⟩
abbrev aOv:=fun y1 bG r=>avc Tryz.prog aKv (bQ6 r) (bRg y1 bG)
def bDa:AC:=(.seq (.ops [.alc 2 [aR,aR,aY]]) (.seq (.seq (.ops [.mv 3 0,.call (some 4) 12 [3,(kI 6)]]) (.block 0 (.seq (.ops [.bin 6 .eql 4 (kI 0),.asg 5 6]) (.cond 5 (.seq (.ops [.bld 7 [aR,aR,aY] [],.st 3 2 7]) .ret) (.seq (.ops [.bin 9 .eql 4 (kI 1),.asg 8 9]) (.cond 8 (.seq (.ops [.mv 10 0,.bsl 11 9 1 [(.c (.d (.s (bs [])))),(.c (.d (.s (bs [97])))),(.c (.d (.s (bs [98])))),(.c (.d (.s (bs [105,116,39,115])))),(.c (.d (.s (bs [97,98])))),(.c (.d (.s (bs [255]))))],.call (some 12) 23 [10,11],.call (some 13) 96 [12],.st 3 2 13]) .ret) (.seq (.ops [.bin 15 .eql 4 (kI 2),.asg 14 15]) (.cond 14 (.seq (.ops [.mv 16 0,.call (some 17) 16 [16,(kI 2)],.call (some 18) 97 [17],.st 3 2 18]) .ret) (.seq (.ops [.bin 20 .eql 4 (kI 3),.asg 19 20]) (.cond 19 (.seq (.ops [.mv 21 0,.call (some 22) 63 [21],.call (some 23) 99 [22],.st 3 2 23]) .ret) .skip)))))))))) (.seq (.ops [.mv 24 0,.call (some 25) 12 [24,(kI 7)],.bin 26 .sub 25 (kI 2),.call (some 27) 99 [26],.st 3 2 27]) .ret)))
theorem bAk:bQ Tryz.prog 84=some (bDa,[.ld 0 3 true 2],28):=by kernel_rfl
def bW3 (r:bJ×aQ):Exit→St→Prop:=bM [.ld 0 3 true 2] fun x b=>x=(fun (y:bJ×aQ)=>(lC y.1)) r∧bI ((fun (y:bJ×aQ)=>[(1000000,dC y.2)]) r) b
def bLq:AC:=(.seq (.ops [.alc 2 [aR,aR,aY]]) (.seq (.seq (.ops [.mv 3 0]) (.cond 3 (.seq (.ops [.bld 4 [aR,aR,aY] [(0,1,(kI 3)),(1,1,(kI 1))],.st 3 2 4]) .ret) .skip)) (.seq (.ops [.bld 5 [aR,aR,aY] [(0,1,(kI 3))],.st 3 2 5]) .ret)))
theorem bFm:bQ Tryz.prog 97=some (bLq,[.ld 0 3 true 2],6):=by kernel_rfl
def bTg (r:bJ):Exit→St→Prop:=bM [.ld 0 3 true 2] fun x _=>x=(fun y=>(lC y)) r
def aYw:AC:=(.seq (.ops [.alc 2 [aR,aR,aY]]) (.seq (.ops [.mv 3 0,.bld 4 [aR,aR,aY] [(0,1,(kI 2)),(2,1,3)],.st 3 2 4]) .ret))
theorem bJ6:bQ Tryz.prog 96=some (aYw,[.ld 0 3 true 2],5):=by kernel_rfl
def bV5 (r:bJ):Exit→St→Prop:=bM [.ld 0 3 true 2] fun x _=>x=(fun y=>(lC y)) r
def bGx:AC:=(.seq (.ops [.alc 2 [aR,aR,aY]]) (.seq (.ops [.mv 3 0,.bld 4 [aR,aR,aY] [(0,1,(kI 1)),(1,1,3)],.st 3 2 4]) .ret))
theorem bLk:bQ Tryz.prog 99=some (bGx,[.ld 0 3 true 2],5):=by kernel_rfl
def bVl (r:bJ):Exit→St→Prop:=bM [.ld 0 3 true 2] fun x _=>x=(fun y=>(lC y)) r
def aYa:AC:=(.seq (.ops [.asg 4 (.c (.d (.s (bs []))))]) (.seq (.ops [.mv 5 1,.mv 6 0,.mv 7 1,.len 8 7,.call (some 9) 12 [6,8],.ia 10 1 5 9,.ld 11 1 false 10,.asg 4 11]) .ret))
theorem bS0:bQ Tryz.prog 23=some (aYa,[.mv 0 4],12):=by kernel_rfl
def bWp (r:(List UInt8)×aQ):Exit→St→Prop:=bM [.mv 0 4] fun x b=>x=(fun (y:(List UInt8)×aQ)=>(vS y.1)) r∧bI ((fun (y:(List UInt8)×aQ)=>[(1000000,dC y.2)]) r) b
def bL7:AC:=(.seq (.ops [.asg 4 (kI 0)]) (.seq (.seq (.ops [.mv 9 1,.bin 10 .leq 9 (kI 0)]) (.cond 10 (.seq (.ops [.asg 4 (kI 0)]) .ret) .skip)) (.seq (.seq (.ops [.mv 11 1,.bin 12 .leq 11 (kI 256)]) (.cond 12 (.seq (.ops [.mv 13 0,.call (some 14) 27 [13],.mv 15 1,.bin 16 .rem 14 15,.asg 4 16]) .ret) .skip)) (.seq (.ops [.mv 17 0,.call (some 18) 27 [17],.asg 5 18]) (.seq (.ops [.mv 19 0,.call (some 20) 27 [19],.asg 6 20]) (.seq (.ops [.mv 21 0,.call (some 22) 27 [21],.asg 7 22]) (.seq (.ops [.mv 23 0,.call (some 24) 27 [23],.asg 8 24]) (.seq (.ops [.mv 25 5,.bin 26 .mul 25 (kI 16777216),.mv 27 6,.bin 28 .mul 27 (kI 65536),.bin 29 .add 26 28,.mv 30 7,.bin 31 .mul 30 (kI 256),.bin 32 .add 29 31,.mv 33 8,.bin 34 .add 32 33,.mv 35 1,.bin 36 .rem 34 35,.asg 4 36]) .ret))))))))
theorem bC4:bQ Tryz.prog 12=some (bL7,[.mv 0 4],37):=by kernel_rfl
def bVw (r:Int×aQ):Exit→St→Prop:=bM [.mv 0 4] fun x b=>x=(fun (y:Int×aQ)=>(vI y.1)) r∧bI ((fun (y:Int×aQ)=>[(1000000,dC y.2)]) r) b
def aOg:AC:=(.seq (.ops [.mv 57 3,.asg 2 57]) .ret)
def aY8:AC:=(.seq (.ops [.asg 2 (kI 0)]) (.seq (.ops [.mv 4 0,.mv 5 0,.nck 6 5,.fa 7 2 6,.ld 8 1 false 7,.bin 9 .mul 8 (kI 6364136223846793005),.bin 10 .add 9 (kI 1442695040888963407),.nck 11 4,.fa 12 2 11,.st 1 12 10]) (.seq (.dops [[],[0],[1],[2],[3],[],[5],[6],[7],[8],[4,9],[10],[11,0,1,2,3,4,5,6,7,8,9,10,11]] [.mv 13 0,.nck 14 13,.fa 15 2 14,.ld 16 1 false 15,.bin 17 .shr 16 (.c (.d (.i .u64 33))),.mv 18 0,.nck 19 18,.fa 20 2 19,.ld 21 1 false 20,.bin 22 .shr 21 (.c (.d (.i .u64 45))),.bin 23 .xor 17 22,.bin 24 .and 23 (kI 255),.asg 3 24]) (.seq (.seq (.dops [[],[0],[1],[2],[],[4],[5],[6],[7],[3,8]] [.mv 25 0,.nck 26 25,.fa 27 1 26,.ld 28 1 false 27,.mv 29 0,.nck 30 29,.fa 31 0 30,.ld 32 1 false 31,.len 33 32,.bin 34 .lss 28 33]) (.cond 34 (.seq (.dops [[],[],[1],[2],[3],[],[5],[6],[7],[4,8],[9],[10],[0,11],[12],[13,0,1,2,3,4,5,6,7,8,9,10,11,12,13]] [.mv 35 3,.mv 36 0,.nck 37 36,.fa 38 0 37,.ld 39 1 false 38,.mv 40 0,.nck 41 40,.fa 42 1 41,.ld 43 1 false 42,.ia 44 1 39 43,.ld 45 1 false 44,.cvi 46 .i64 45,.bin 47 .add 35 46,.bin 48 .and 47 (kI 255),.asg 3 48]) (.ops [.mv 49 0,.mv 50 0,.nck 51 50,.fa 52 1 51,.ld 53 1 false 52,.bin 54 .add 53 (kI 1),.nck 55 49,.fa 56 1 55,.st 1 56 54])) .skip)) aOg))))
theorem aZv:bQ Tryz.prog 27=some (aY8,[.mv 0 2],58):=by kernel_rfl
def bD5 (r:Int×aQ):Exit→St→Prop:=bM [.mv 0 2] fun x b=>x=(fun (y:Int×aQ)=>(vI y.1)) r∧bI ((fun (y:Int×aQ)=>[(1000000,dC y.2)]) r) b
def bI5 (p0:aQ) (x3:Int) (bC:Int):St:=⟨[(3,(vI x3))],[(1000000,dC (aQ.mk p0.b bC (IntKind.wrap .i64 ((IntKind.wrap .i64 (p0.h * 6364136223846793005))+1442695040888963407))))]⟩
abbrev aQ0:=fun p0 x3 bC r=>avc Tryz.prog aOg (bD5 r) (bI5 p0 x3 bC)
def aZ6:AC:=(.seq (.ops [.asg 4 (kB false)]) (.seq (.ops [.mv 5 0,.mv 6 1,.call (some 7) 12 [5,6],.bin 8 .eql 7 (kI 0),.asg 4 8]) .ret))
theorem bE0:bQ Tryz.prog 16=some (aZ6,[.mv 0 4],9):=by kernel_rfl
def bWj (r:Bool×aQ):Exit→St→Prop:=bM [.mv 0 4] fun x b=>x=(fun (y:Bool×aQ)=>(vB y.1)) r∧bI ((fun (y:Bool×aQ)=>[(1000000,dC y.2)]) r) b
def bCp:AC:=(.seq (.ops [.asg 2 (kI 0)]) (.seq (.seq (.ops [.mv 3 0,.call (some 4) 12 [3,(kI 3)]]) (.block 0 (.seq (.ops [.bin 6 .eql 4 (kI 0),.asg 5 6]) (.cond 5 (.seq (.ops [.mv 7 0,.bsl 8 3 1 [(kI 0),(kI 1),(kI (-1)),(kI 63),(kI 64),(kI (-64)),(kI (-65)),(kI 127),(kI 128),(kI 16383),(kI 16384),(kI 9223372036854775807),(kI (-9223372036854775808)),(kI 4611686018427387904)],.call (some 9) 26 [7,8],.asg 2 9]) .ret) (.seq (.ops [.bin 11 .eql 4 (kI 1),.asg 10 11]) (.cond 10 (.seq (.ops [.mv 12 0,.call (some 13) 12 [12,(kI 1000000)],.bin 14 .sub 13 (kI 500000),.asg 2 14]) .ret) .skip)))))) (.seq (.ops [.mv 15 0,.call (some 16) 12 [15,(kI 20)],.asg 2 16]) .ret)))
theorem bCb:bQ Tryz.prog 63=some (bCp,[.mv 0 2],17):=by kernel_rfl
def bWk (r:Int×aQ):Exit→St→Prop:=bM [.mv 0 2] fun x b=>x=(fun (y:Int×aQ)=>(vI y.1)) r∧bI ((fun (y:Int×aQ)=>[(1000000,dC y.2)]) r) b
def bDj:AC:=(.seq (.ops [.asg 4 (kI 0)]) (.seq (.ops [.mv 5 1,.mv 6 0,.mv 7 1,.len 8 7,.call (some 9) 12 [6,8],.ia 10 1 5 9,.ld 11 1 false 10,.asg 4 11]) .ret))
theorem bEg:bQ Tryz.prog 26=some (bDj,[.mv 0 4],12):=by kernel_rfl
def bU1 (r:Int×aQ):Exit→St→Prop:=bM [.mv 0 4] fun x b=>x=(fun (y:Int×aQ)=>(vI y.1)) r∧bI ((fun (y:Int×aQ)=>[(1000000,dC y.2)]) r) b
def aOb:AC:=(.loop (.seq (.seq (.ops [.mv 10 8,.mv 11 2,.bin 12 .lss 10 11]) (.cond 12 .skip (.exit 0))) (.seq (.block 1 (.ops [.mv 15 7,.mv 16 0,.mv 17 1,.bin 18 .sub 17 (kI 1),.call (some 19) 24 [16,18],.bsl 20 57 10 [19],.app 21 57 10 136 15 20,.asg 7 21])) (.ops [.mv 13 8,.bin 14 .add 13 (kI 1),.asg 8 14]))))
def aVj:AC:=(.seq (.ops [.mv 22 7,.asg 6 22]) .ret)
def bA0:AC:=(.seq (.ops [.asg 6 (.c (.nil 10))]) (.seq (.ops [.bsl 9 57 10 [],.asg 7 9]) (.seq (.seq (.ops [.asg 8 (kI 0)]) (.block 0 aOb)) aVj)))
theorem bLc:bQ Tryz.prog 61=some (bA0,[.mv 0 6],23):=by kernel_rfl
def aVp (r:(List aA)×aQ):Exit→St→Prop:=bM [.mv 0 6] fun x b=>x=(fun (y:(List aA)×aQ)=>(.osl 2000000 57 10 (y.1.map bN))) r∧bI ((fun (y:(List aA)×aQ)=>[(1000000,dC y.2)]) r) b
def bS9 (r:(List aA)×aQ):Exit→St→Prop:=(eT (wkK (avc Tryz.prog aVj (aVp r))) (aVp r))
def bE6 (r:(List aA)×aQ):Exit→St→Prop:=(eY 0 (bS9 r))
def bBv (p1:Int) (p2:Int) (x7:List aA) (x8:Int) (bD:List Int) (bC:Int) (bF:Int):St:=⟨[(0,(.ptr 1000000 0)),(1,(vI p1)),(2,(vI p2)),(7,(.osl 7 57 10 (x7.map bN))),(8,(vI x8))],[(1000000,dC (aQ.mk bD bC bF))]⟩
abbrev aFe:=fun p1 p2 x7 x8 bD bC bF r=>avc Tryz.prog aOb (bE6 r) (bBv p1 p2 x7 x8 bD bC bF)
def aGy:AC:=(.ops [.mv 20 7,.bin 21 .add 20 (kI 1),.asg 7 21])
def aL1:AC:=(.ops [.fa 33 1 5,.ld 34 1 false 33,.ld 35 13 true 8,.bsl 36 64 13 [35],.app 37 64 13 176 34 36,.fa 38 1 5,.st 1 38 37])
def aEz:AC:=(.loop (.seq (.seq (.ops [.mv 17 7,.mv 18 6,.bin 19 .lss 17 18]) (.cond 19 .skip (.exit 0))) (.seq (.block 1 (.seq (.ops [.mv 22 0,.call (some 23) 12 [22,(kI 5)]]) (.block 2 (.seq (.ops [.bin 40 .eql 23 (kI 0),.asg 39 40]) (.cond 39 (.ops [.fa 41 1 5,.ld 42 1 false 41,.bld 43 [eH,aY,aR,aR,eH,aR,aR,aY,aY,aY,(.nil 10),(.nil 6),aY] [(0,1,(kB true))],.bsl 44 64 13 [43],.app 45 64 13 176 42 44,.fa 46 1 5,.st 1 46 45]) (.seq (.ops [.bin 48 .eql 23 (kI 1),.asg 47 48]) (.cond 47 (.dops [[],[0],[],[],[2,3],[4],[5],[1,6,4],[0,1,2,3,4,5,6,7],[8,7,7,0,1,2,3,4,5,6,7]] [.fa 49 1 5,.ld 50 1 false 49,.mv 51 0,.bsl 52 9 1 [(.c (.d (.s (bs [116])))),(.c (.d (.s (bs [117]))))],.call (some 53) 23 [51,52],.bld 54 [eH,aY,aR,aR,eH,aR,aR,aY,aY,aY,(.nil 10),(.nil 6),aY] [(0,1,(kB true)),(1,1,53)],.bsl 55 64 13 [54],.app 56 64 13 176 50 55,.fa 57 1 5,.st 1 57 56]) (.seq (.ops [.mv 24 0,.mv 25 1,.call (some 26) 24 [24,25],.bld 27 [eH,aY,aR,aR,eH,aR,aR,aY,aY,aY,(.nil 10),(.nil 6),aY] [(2,10,26)],.alc 8 aGl,.st 13 8 27]) (.seq (.seq (.ops [.mv 28 0,.call (some 29) 16 [28,(kI 2)]]) (.cond 29 (.ops [.mv 30 0,.call (some 31) 25 [30],.fa 32 12 8,.st 1 32 31]) .skip)) aL1))))))))) aGy)))
def aN1:AC:=(.ops [.fa 86 2 5,.ld 87 1 false 86,.ld 88 3 true 10,.bsl 89 70 3 [88],.app 90 70 3 56 87 89,.fa 91 2 5,.st 1 91 90])
def aLj:AC:=(.seq (.seq (.ops [.mv 75 9,.bin 76 .gtr 75 (kI 0),.mv 77 76,.g 77 true (.mv 78 0),.g 77 true (.call (some 79) 16 [78,(kI 2)]),.pick 80 77 79 (kB false)]) (.cond 80 (.ops [.mv 81 0,.mv 82 1,.call (some 83) 24 [81,82],.bsl 84 57 10 [83],.fa 85 2 10,.st 1 85 84]) .skip)) aN1)
def aUl:AC:=(.ops [.mv 64 9,.bin 65 .add 64 (kI 1),.asg 9 65])
def aE1:AC:=(.loop (.seq (.seq (.ops [.mv 61 9,.mv 62 6,.bin 63 .lss 61 62]) (.cond 63 .skip (.exit 3))) (.seq (.block 4 (.seq (.ops [.mv 66 0,.bsl 67 9 1 [(.c (.d (.s (bs [116])))),(.c (.d (.s (bs [117])))),(.c (.d (.s (bs [118]))))],.call (some 68) 23 [66,67],.bld 69 [aY,aY,(.nil 10)] [(0,1,68)],.alc 10 [aY,aY,(.nil 10)],.st 3 10 69]) (.seq (.seq (.ops [.mv 70 0,.call (some 71) 16 [70,(kI 3)]]) (.cond 71 (.ops [.mv 72 0,.call (some 73) 25 [72],.fa 74 1 10,.st 1 74 73]) .skip)) aLj))) aUl)))
def aIn:AC:=(.seq (.ops [.ld 118 6 true 5,.st 6 4 118]) .ret)
def aKt:AC:=(.seq (.seq (.ops [.mv 112 0,.call (some 113) 16 [112,(kI 4)]]) (.cond 113 (.ops [.mv 114 0,.bsl 115 3 1 [(kI 0),(kI 1),(kI 2),(kI 9223372036854775807)],.call (some 116) 26 [114,115],.fa 117 5 5,.st 1 117 116]) .skip)) aIn)
def aNg:AC:=(.seq (.seq (.ops [.mv 99 0,.call (some 100) 16 [99,(kI 3)]]) (.cond 100 (.dops [[],[0],[],[],[2,3],[],[5,4],[4,6],[7],[1,8,6],[0,1,2,3,4,5,6,7,8,9],[10,9,9,0,1,2,3,4,5,6,7,8,9]] [.fa 101 4 5,.ld 102 1 false 101,.mv 103 0,.mv 104 1,.call (some 105) 24 [103,104],.mv 106 0,.call (some 107) 16 [106,(kI 2)],.bld 108 [aR,aR,eH,aR,aR,aY,aY,aY,(.nil 10),(.nil 6),eH] [(0,10,105),(10,1,107)],.bsl 109 72 11 [108],.app 110 72 11 144 102 109,.fa 111 4 5,.st 1 111 110]) .skip)) aKt)
def aX6:AC:=(.seq (.seq (.ops [.mv 92 0,.call (some 93) 16 [92,(kI 2)]]) (.cond 93 (.ops [.mv 94 0,.mv 95 1,.call (some 96) 24 [94,95],.bsl 97 57 10 [96],.fa 98 3 5,.st 1 98 97]) .skip)) aNg)
def aQ2:AC:=(.seq (.ops [.mv 58 0,.call (some 59) 12 [58,(kI 2)],.bin 60 .add (kI 1) 59,.asg 6 60]) (.seq (.seq (.ops [.asg 9 (kI 0)]) (.block 3 aE1)) aX6))
def bRq:AC:=(.seq (.ops [.alc 4 mF]) (.seq (.ops [.mv 11 0,.call (some 12) 16 [11,(kI 4)],.bld 13 [eH,(.nil 13),(.nil 3),(.nil 10),(.nil 11),aR] [(0,1,12),(5,1,(kI (-1)))],.alc 5 mF,.st 6 5 13]) (.seq (.ops [.mv 14 0,.call (some 15) 12 [14,(kI 2)],.bin 16 .add (kI 1) 15,.asg 6 16]) (.seq (.seq (.ops [.asg 7 (kI 0)]) (.block 0 aEz)) aQ2))))
theorem bT3:bQ Tryz.prog 11=some (bRq,[.ld 0 6 true 4],119):=by kernel_rfl
def H8 (r:aX×aQ):Exit→St→Prop:=bM [.ld 0 6 true 4] fun x b=>x=(fun (y:aX×aQ)=>(kY y.1)) r∧bI ((fun (y:aX×aQ)=>[(1000000,dC y.2)]) r) b
def bT2 (r:aX×aQ):Exit→St→Prop:=(eT (wkK (avc Tryz.prog aQ2 (H8 r))) (H8 r))
def aK4 (r:aX×aQ):Exit→St→Prop:=(eY 0 (bT2 r))
def aOf (r:aX×aQ):Exit→St→Prop:=(eT (avc Tryz.prog aEz (aK4 r)) (aK4 r))
def bHe (r:aX×aQ):Exit→St→Prop:=(eT (wkK (avc Tryz.prog aGy (aOf r))) (aOf r))
def bEy (r:aX×aQ):Exit→St→Prop:=(eY 1 (bHe r))
def bBh (r:aX×aQ):Exit→St→Prop:=(eY 2 (bEy r))
def bS8 (r:aX×aQ):Exit→St→Prop:=(eT (wkK (avc Tryz.prog aX6 (H8 r))) (H8 r))
def aKm (r:aX×aQ):Exit→St→Prop:=(eY 3 (bS8 r))
def aQv (r:aX×aQ):Exit→St→Prop:=(eT (avc Tryz.prog aE1 (aKm r)) (aKm r))
def bFz (r:aX×aQ):Exit→St→Prop:=(eT (wkK (avc Tryz.prog aUl (aQv r))) (aQv r))
def aVt (r:aX×aQ):Exit→St→Prop:=(eY 4 (bFz r))
def bMc (p1:Int) (y2:Int×aQ) (y1:Bool×aQ) (x7:Int) (bL:List bU) (bD:List Int) (mE:Int×Int):St:=⟨[(0,(.ptr 1000000 0)),(1,(vI p1)),(4,(.ptr 4 0)),(5,(.ptr 5 0)),(6,(vI (IntKind.wrap .i64 (1+y2.1)))),(7,(vI x7))],[(4,[(vB false),(.nil 13),(.nil 3),(.nil 10),(.nil 11),(vI 0)]),(5,[(vB y1.1),(.osl 45 64 13 (bL.map eF)),(.nil 3),(.nil 10),(.nil 11),(vI (-1))]),(1000000,dC (aQ.mk bD mE.1 mE.2))]⟩
abbrev aHo:=fun p1 y2 y1 x7 bL bD mE r=>avc Tryz.prog aEz (aK4 r) (bMc p1 y2 y1 x7 bL bD mE)
def bLn (p1:Int) (y2:Int×aQ) (x7:Int) (y1:Bool×aQ) (nQ:List bU) (jH:List Int) (mV:Int×Int):St:=⟨[(0,(.ptr 1000000 0)),(1,(vI p1)),(4,(.ptr 4 0)),(5,(.ptr 5 0)),(6,(vI (IntKind.wrap .i64 (1+y2.1)))),(7,(vI x7))],[(4,[(vB false),(.nil 13),(.nil 3),(.nil 10),(.nil 11),(vI 0)]),(5,[(vB y1.1),(.osl 45 64 13 (nQ.map eF)),(.nil 3),(.nil 10),(.nil 11),(vI (-1))]),(1000000,dC (aQ.mk jH mV.1 mV.2))]⟩
abbrev aDp:=fun p1 y2 x7 y1 nQ jH mV r=>avc Tryz.prog aGy (aOf r) (bLn p1 y2 x7 y1 nQ jH mV)
def bOg (p1:Int) (y2:Int×aQ) (x7:Int) (y1:Bool×aQ) (bL:List bU) (y11:aA×aQ) (jZ:(List UInt8)×(List Int)×Int×Int):St:=⟨[(0,(.ptr 1000000 0)),(1,(vI p1)),(4,(.ptr 4 0)),(5,(.ptr 5 0)),(6,(vI (IntKind.wrap .i64 (1+y2.1)))),(7,(vI x7)),(8,(.ptr 8 0))],[(4,[(vB false),(.nil 13),(.nil 3),(.nil 10),(.nil 11),(vI 0)]),(5,[(vB y1.1),(.osl 45 64 13 (bL.map eF)),(.nil 3),(.nil 10),(.nil 11),(vI (-1))]),(8,aCc (bU.mk false [] y11.1 jZ.1)),(1000000,dC (aQ.mk jZ.2.1 jZ.2.2.1 jZ.2.2.2))]⟩
abbrev aFw:=fun p1 y2 x7 y1 bL y11 jZ r=>avc Tryz.prog aL1 (bBh r) (bOg p1 y2 x7 y1 bL y11 jZ)
def bP8 (p1:Int) (y17:Int×aQ) (y1:Bool×aQ) (bL:List bU) (x9:Int) (bP:List bR) (kG:(List Int)×Int×Int):St:=⟨[(0,(.ptr 1000000 0)),(1,(vI p1)),(4,(.ptr 4 0)),(5,(.ptr 5 0)),(6,(vI (IntKind.wrap .i64 (1+y17.1)))),(9,(vI x9))],[(4,[(vB false),(.nil 13),(.nil 3),(.nil 10),(.nil 11),(vI 0)]),(5,[(vB y1.1),(.osl 45 64 13 (bL.map eF)),(.osl 90 70 3 (bP.map eP)),(.nil 10),(.nil 11),(vI (-1))]),(1000000,dC (aQ.mk kG.1 kG.2.1 kG.2.2))]⟩
abbrev aHw:=fun p1 y17 y1 bL x9 bP kG r=>avc Tryz.prog aE1 (aKm r) (bP8 p1 y17 y1 bL x9 bP kG)
def bOe (p1:Int) (y17:Int×aQ) (x9:Int) (y1:Bool×aQ) (bL:List bU) (bP:List bR) (ky22:((List UInt8)×aQ)×(List UInt8)×(List Int)×Int×Int):St:=⟨[(0,(.ptr 1000000 0)),(1,(vI p1)),(4,(.ptr 4 0)),(5,(.ptr 5 0)),(6,(vI (IntKind.wrap .i64 (1+y17.1)))),(9,(vI x9)),(10,(.ptr 10 0))],[(4,[(vB false),(.nil 13),(.nil 3),(.nil 10),(.nil 11),(vI 0)]),(5,[(vB y1.1),(.osl 45 64 13 (bL.map eF)),(.osl 90 70 3 (bP.map eP)),(.nil 10),(.nil 11),(vI (-1))]),(10,[(vS ky22.1.1),(vS ky22.2.1),(.nil 10)]),(1000000,dC (aQ.mk ky22.2.2.1 ky22.2.2.2.1 ky22.2.2.2.2))]⟩
abbrev aDs:=fun p1 y17 x9 y1 bL bP ky22 r=>avc Tryz.prog aLj (aVt r) (bOe p1 y17 x9 y1 bL bP ky22)
def bJv (p1:Int) (y1:Bool×aQ) (bL:List bU) (bP:List bR) (eQ:List aA) (pV:List Int) (nH:Int×Int):St:=⟨[(0,(.ptr 1000000 0)),(1,(vI p1)),(4,(.ptr 4 0)),(5,(.ptr 5 0))],[(4,[(vB false),(.nil 13),(.nil 3),(.nil 10),(.nil 11),(vI 0)]),(5,[(vB y1.1),(.osl 45 64 13 (bL.map eF)),(.osl 90 70 3 (bP.map eP)),(.osl 97 57 10 (eQ.map bN)),(.nil 11),(vI (-1))]),(1000000,dC (aQ.mk pV nH.1 nH.2))]⟩
abbrev aEb:=fun p1 y1 bL bP eQ pV nH r=>avc Tryz.prog aNg (H8 r) (bJv p1 y1 bL bP eQ pV nH)
def bEm (p1:Int) (y17:Int×aQ) (x9:Int) (y1:Bool×aQ) (bL:List bU) (bP:List bR) (ky22q:((List UInt8)×aQ)×(List UInt8)×(List aA)×(List Int)×Int×Int):St:=⟨[(0,(.ptr 1000000 0)),(1,(vI p1)),(4,(.ptr 4 0)),(5,(.ptr 5 0)),(6,(vI (IntKind.wrap .i64 (1+y17.1)))),(9,(vI x9)),(10,(.ptr 10 0))],[(4,[(vB false),(.nil 13),(.nil 3),(.nil 10),(.nil 11),(vI 0)]),(5,[(vB y1.1),(.osl 45 64 13 (bL.map eF)),(.osl 90 70 3 (bP.map eP)),(.nil 10),(.nil 11),(vI (-1))]),(10,[(vS ky22q.1.1),(vS ky22q.2.1),(.osl 84 57 10 (ky22q.2.2.1.map bN))]),(1000000,dC (aQ.mk ky22q.2.2.2.1 ky22q.2.2.2.2.1 ky22q.2.2.2.2.2))]⟩
abbrev aEl:=fun p1 y17 x9 y1 bL bP ky22q r=>avc Tryz.prog aN1 (aVt r) (bEm p1 y17 x9 y1 bL bP ky22q)
def bCc (y1:Bool×aQ) (bL:List bU) (bP:List bR) (eQ:List aA) (fK:List dY) (yN:List Int) (wN:Int) (yB:Int):St:=⟨[(0,(.ptr 1000000 0)),(4,(.ptr 4 0)),(5,(.ptr 5 0))],[(4,[(vB false),(.nil 13),(.nil 3),(.nil 10),(.nil 11),(vI 0)]),(5,[(vB y1.1),(.osl 45 64 13 (bL.map eF)),(.osl 90 70 3 (bP.map eP)),(.osl 97 57 10 (eQ.map bN)),(.osl 110 72 11 (fK.map fV)),(vI (-1))]),(1000000,dC (aQ.mk yN wN yB))]⟩
abbrev aU7:=fun y1 bL bP eQ fK yN wN yB r=>avc Tryz.prog aKt (H8 r) (bCc y1 bL bP eQ fK yN wN yB)
def bO6 (y1:Bool×aQ) (bL:List bU) (bP:List bR) (eQ:List aA) (fK:List dY) (lX:Int) (wB:List Int) (wO:Int) (yO:Int):St:=⟨[(4,(.ptr 4 0)),(5,(.ptr 5 0))],[(4,[(vB false),(.nil 13),(.nil 3),(.nil 10),(.nil 11),(vI 0)]),(5,[(vB y1.1),(.osl 45 64 13 (bL.map eF)),(.osl 90 70 3 (bP.map eP)),(.osl 97 57 10 (eQ.map bN)),(.osl 110 72 11 (fK.map fV)),(vI lX)]),(1000000,dC (aQ.mk wB wO yO))]⟩
abbrev aVk:=fun y1 bL bP eQ fK lX wB wO yO r=>avc Tryz.prog aIn (H8 r) (bO6 y1 bL bP eQ fK lX wB wO yO)
def bD6:AC:=(.seq (.ops [.asg 2 (.c (.d (.s (bs []))))]) (.seq (.seq (.ops [.mv 3 0,.call (some 4) 16 [3,(kI 6)]]) (.cond 4 (.seq (.ops [.mv 5 0,.bsl 6 9 1 [(.c (.d (.s (bs [97,32,98])))),(.c (.d (.s (bs [102,114,111,109])))),(.c (.d (.s (bs [83,101,108,101,99,116])))),(.c (.d (.s (bs [49,120])))),(.c (.d (.s (bs [113,34,113])))),(.c (.d (.s (bs [0])))),(.c (.d (.s (bs [34])))),(.c (.d (.s (bs [105,116,39,115])))),(.c (.d (.s (bs [120,46,121])))),(.c (.d (.s (bs [45]))))],.call (some 7) 23 [5,6],.asg 2 7]) .ret) .skip)) (.seq (.ops [.mv 8 0,.bsl 9 9 1 [(.c (.d (.s (bs [97])))),(.c (.d (.s (bs [98])))),(.c (.d (.s (bs [99])))),(.c (.d (.s (bs [116])))),(.c (.d (.s (bs [117])))),(.c (.d (.s (bs [118])))),(.c (.d (.s (bs [105,100])))),(.c (.d (.s (bs [110,97,109,101])))),(.c (.d (.s (bs [65])))),(.c (.d (.s (bs [95,120,49]))))],.call (some 10) 23 [8,9],.asg 2 10]) .ret)))
theorem bE2:bQ Tryz.prog 25=some (bD6,[.mv 0 2],11):=by kernel_rfl
def bUs (r:(List UInt8)×aQ):Exit→St→Prop:=bM [.mv 0 2] fun x b=>x=(fun (y:(List UInt8)×aQ)=>(vS y.1)) r∧bI ((fun (y:(List UInt8)×aQ)=>[(1000000,dC y.2)]) r) b
def aMj:AC:=(.seq (.ops [.ld 19 10 true 3,.st 10 2 19]) .ret)
def aJf:AC:=(.seq (.seq (.ops [.mv 14 0,.call (some 15) 16 [14,(kI 12)]]) (.cond 15 (.ops [.mv 16 0,.call (some 17) 25 [16],.fa 18 7 3,.st 1 18 17]) .skip)) aMj)
def bHk:AC:=(.seq (.ops [.alc 2 fO]) (.seq (.ops [.mv 4 0,.bsl 5 9 1 [(.c (.d (.s (bs [97])))),(.c (.d (.s (bs [98])))),(.c (.d (.s (bs [99])))),(.c (.d (.s (bs [105,100])))),(.c (.d (.s (bs [110,97,109,101]))))],.call (some 6) 23 [4,5],.bld 7 [aR,aR,eH,aR,aR,aY,aY,aY,(.nil 10),(.nil 6)] [(0,1,(kI 2)),(7,1,6)],.alc 3 fO,.st 10 3 7]) (.seq (.seq (.ops [.mv 8 0,.call (some 9) 16 [8,(kI 3)]]) (.cond 9 (.ops [.mv 10 0,.bsl 11 9 1 [(.c (.d (.s (bs [116])))),(.c (.d (.s (bs [117])))),(.c (.d (.s (bs [118]))))],.call (some 12) 23 [10,11],.fa 13 6 3,.st 1 13 12]) .skip)) aJf)))
theorem bR5:bQ Tryz.prog 59=some (bHk,[.ld 0 10 true 2],20):=by kernel_rfl
def aUu (r:aA×aQ):Exit→St→Prop:=bM [.ld 0 10 true 2] fun x b=>x=(fun (y:aA×aQ)=>(bX y.1)) r∧bI ((fun (y:aA×aQ)=>[(1000000,dC y.2)]) r) b
def aZg (y1:(List UInt8)×aQ) (jY:List UInt8) (bD:List Int) (bC:Int) (bF:Int):St:=⟨[(0,(.ptr 1000000 0)),(2,(.ptr 2 0)),(3,(.ptr 3 0))],[(2,[(vI 0),(vI 0),(vB false),(vI 0),(vI 0),(vS []),(vS []),(vS []),(.nil 10),(.nil 6)]),(3,[(vI 2),(vI 0),(vB false),(vI 0),(vI 0),(vS []),(vS jY),(vS y1.1),(.nil 10),(.nil 6)]),(1000000,dC (aQ.mk bD bC bF))]⟩
abbrev aRs:=fun y1 jY bD bC bF r=>avc Tryz.prog aJf (aUu r) (aZg y1 jY bD bC bF)
def bG0 (jY:List UInt8) (tL:List UInt8) (jH:List Int) (uV:Int) (uN:Int):St:=⟨[(2,(.ptr 2 0)),(3,(.ptr 3 0))],[(2,[(vI 0),(vI 0),(vB false),(vI 0),(vI 0),(vS []),(vS []),(vS []),(.nil 10),(.nil 6)]),(3,[(vI 2),(vI 0),(vB false),(vI 0),(vI 0),(vS []),(vS jY),(vS tL),(.nil 10),(.nil 6)]),(1000000,dC (aQ.mk jH uV uN))]⟩
abbrev aUm:=fun jY tL jH uV uN r=>avc Tryz.prog aMj (aUu r) (bG0 jY tL jH uV uN)
def bFq:AC:=(.seq (.ops [.alc 2 mF,.asg 3 (kI 0)]) (.seq (.ops [.mv 7 0,.bld 8 [(.nil 3),aR,eH] [(0,1,7)],.box 9 50 8,.asg 4 9]) (.seq (.ops [.mv 10 4,.call (some 11) 19 [10],.alc 5 mF,.st 6 5 11]) (.seq (.ops [.mv 12 4,.call (some 13) 20 [12],.asg 6 13]) (.seq (.seq (.ops [.mv 14 6,.bin 15 .geq 14 (kI 0)]) (.cond 15 (.seq (.ops [.bld 16 [eH,(.nil 13),(.nil 3),(.nil 10),(.nil 11),aR] [],.mv 17 6,.st 6 2 16,.asg 3 17]) .ret) .skip)) (.seq (.ops [.ld 18 6 true 5,.st 6 2 18,.asg 3 (kI (-1))]) .ret))))))
theorem bDv:bQ Tryz.prog 7=some (bFq,[.ld 0 6 true 2,.mv 0 3],19):=by kernel_rfl
def bUv (r:aX×Int):Exit→St→Prop:=bM [.ld 0 6 true 2,.mv 0 3] fun x _=>x=(fun y=>(.tup [(kY y.1),(vI y.2)])) r
def aJi:AC:=(.loop (.seq (.seq (.ops [.mv 20 0,.call (some 21) 47 [20,(.c (.d (.s (bs [44]))))]]) (.cond 21 .skip (.exit 0))) (.block 1 (.seq (.ops [.mv 22 0,.call (some 23) 43 [22,(kB true)]]) (.dops [[],[0],[],[2],[3],[1,4,3],[0,1,2,3,4,5],[6,5,5,0,1,2,3,4,5]] [.fa 24 1 3,.ld 25 1 false 24,.mv 26 0,.call (some 27) 46 [26],.bsl 28 64 13 [27],.app 29 64 13 176 25 28,.fa 30 1 3,.st 1 30 29])))))
def aN9:AC:=(.ops [.fa 63 2 3,.ld 64 1 false 63,.ld 65 3 true 5,.bsl 66 70 3 [65],.app 67 70 3 56 64 66,.fa 68 2 3,.st 1 68 67])
def aEh:AC:=(.loop (.seq (.seq (.ops [.mv 42 0,.call (some 43) 47 [42,(.c (.d (.s (bs [44]))))],.mv 44 43,.g 44 false (.mv 45 0),.g 44 false (.call (some 46) 44 [45,(kI 4)]),.pick 47 44 (kB true) 46]) (.cond 47 .skip (.exit 2))) (.block 3 (.seq (.ops [.mv 48 0,.call (some 49) 44 [48,(kI 4)],.asg 4 49]) (.seq (.ops [.mv 50 0,.call (some 51) 43 [50,(kB true)]]) (.seq (.ops [.mv 52 0,.call (some 53) 48 [52],.alc 5 [aY,aY,(.nil 10)],.st 3 5 53]) (.seq (.seq (.ops [.mv 54 4]) (.cond 54 (.seq (.ops [.mv 55 0,.mv 56 0,.call (some 57) 44 [56,(kI 5)],.call (some 58) 43 [55,57]]) (.ops [.mv 59 0,.call (some 60) 49 [59,(kI 1)],.bsl 61 57 10 [60],.fa 62 2 5,.st 1 62 61])) .skip)) aN9)))))))
def aO8:AC:=(.loop (.seq (.seq (.ops [.mv 85 0,.call (some 86) 47 [85,(.c (.d (.s (bs [44]))))]]) (.cond 86 .skip (.exit 4))) (.block 5 (.seq (.ops [.mv 87 0,.call (some 88) 43 [87,(kB true)]]) (.dops [[],[0],[],[2],[3],[1,4,3],[0,1,2,3,4,5],[6,5,5,0,1,2,3,4,5]] [.fa 89 4 3,.ld 90 1 false 89,.mv 91 0,.call (some 92) 51 [91],.bsl 93 72 11 [92],.app 94 72 11 144 90 93,.fa 95 4 3,.st 1 95 94])))))
def aJy:AC:=(.seq (.ops [.ld 105 6 true 3,.st 6 2 105]) .ret)
def aHz:AC:=(.seq (.seq (.ops [.mv 96 0,.call (some 97) 45 [96,(kI 11)]]) (.cond 97 (.ops [.mv 99 0,.call (some 100) 53 [99,(kI 3)],.call (some 101) 52 [100],.mv 98 101,.ext 102 98 0,.ext 103 98 1,.fa 104 5 3,.st 1 104 102]) .skip)) aJy)
def aW8:AC:=(.seq (.ops [.mv 69 0,.call (some 70) 50 [69],.fa 71 3 3,.st 1 71 70]) (.seq (.seq (.ops [.mv 72 0,.call (some 73) 45 [72,(kI 7)]]) (.cond 73 (.seq (.ops [.mv 74 0,.mv 75 0,.call (some 76) 44 [75,(kI 8)],.call (some 77) 43 [74,76]]) (.seq (.dops [[],[0],[],[2],[3],[1,4,3],[0,1,2,3,4,5],[6,5,5,0,1,2,3,4,5]] [.fa 78 4 3,.ld 79 1 false 78,.mv 80 0,.call (some 81) 51 [80],.bsl 82 72 11 [81],.app 83 72 11 144 79 82,.fa 84 4 3,.st 1 84 83]) (.block 4 aO8))) .skip)) aHz))
def aQ8:AC:=(.seq (.ops [.mv 31 0,.mv 32 0,.call (some 33) 44 [32,(kI 3)],.call (some 34) 43 [31,33]]) (.seq (.dops [[],[0],[],[2],[3],[1,4,3],[0,1,2,3,4,5],[6,5,5,0,1,2,3,4,5]] [.fa 35 2 3,.ld 36 1 false 35,.mv 37 0,.call (some 38) 48 [37],.bsl 39 70 3 [38],.app 40 70 3 56 36 39,.fa 41 2 3,.st 1 41 40]) (.seq (.block 2 aEh) aW8)))
def bGc:AC:=(.seq (.ops [.alc 2 mF]) (.seq (.ops [.mv 6 0,.mv 7 0,.call (some 8) 44 [7,(kI 1)],.call (some 9) 43 [6,8]]) (.seq (.ops [.mv 10 0,.call (some 11) 45 [10,(kI 2)],.bld 12 [eH,(.nil 13),(.nil 3),(.nil 10),(.nil 11),aR] [(0,1,11),(5,1,(kI (-1)))],.alc 3 mF,.st 6 3 12]) (.seq (.dops [[],[0],[],[2],[3],[1,4,3],[0,1,2,3,4,5],[6,5,5,0,1,2,3,4,5]] [.fa 13 1 3,.ld 14 1 false 13,.mv 15 0,.call (some 16) 46 [15],.bsl 17 64 13 [16],.app 18 64 13 176 14 17,.fa 19 1 3,.st 1 19 18]) (.seq (.block 0 aJi) aQ8)))))
theorem bKy:bQ Tryz.prog 19=some (bGc,[.ld 0 6 true 2],106):=by kernel_rfl
def wU (r:aX×aU):Exit→St→Prop:=bM [.ld 0 6 true 2] fun x b=>x=(fun (y:aX×aU)=>(kY y.1)) r∧bI ((fun (y:aX×aU)=>[(1000000,bV y.2)]) r) b
def bRh (r:aX×aU):Exit→St→Prop:=(eT (wkK (avc Tryz.prog aQ8 (wU r))) (wU r))
def aZ9 (r:aX×aU):Exit→St→Prop:=(eY 0 (bRh r))
def bJq (r:aX×aU):Exit→St→Prop:=(eT (wkK (avc Tryz.prog aW8 (wU r))) (wU r))
def aIv (r:aX×aU):Exit→St→Prop:=(eY 2 (bJq r))
def aYj (r:aX×aU):Exit→St→Prop:=(eT (avc Tryz.prog aEh (aIv r)) (aIv r))
def bOf (r:aX×aU):Exit→St→Prop:=(eY 3 (aYj r))
def bMm (r:aX×aU):Exit→St→Prop:=(eT (wkK (avc Tryz.prog aHz (wU r))) (wU r))
def bEe (r:aX×aU):Exit→St→Prop:=(eY 4 (bMm r))
def bFr (y3:Bool×aU) (bG:List bU) (bD:List aJ) (bC:Int) (bF:Bool):St:=⟨[(0,(.ptr 1000000 0)),(2,(.ptr 2 0)),(3,(.ptr 3 0))],[(2,[(vB false),(.nil 13),(.nil 3),(.nil 10),(.nil 11),(vI 0)]),(3,[(vB y3.1),(.osl 18 64 13 (bG.map eF)),(.nil 3),(.nil 10),(.nil 11),(vI (-1))]),(1000000,bV (aU.mk bD bC bF))]⟩
abbrev aGh:=fun y3 bG bD bC bF r=>avc Tryz.prog aJi (aZ9 r) (bFr y3 bG bD bC bF)
def bF9 (y3:Bool×aU) (bG:List bU) (dZ:List bR) (kZ:List aJ) (lG:Int) (lD:Bool):St:=⟨[(0,(.ptr 1000000 0)),(2,(.ptr 2 0)),(3,(.ptr 3 0))],[(2,[(vB false),(.nil 13),(.nil 3),(.nil 10),(.nil 11),(vI 0)]),(3,[(vB y3.1),(.osl 18 64 13 (bG.map eF)),(.osl 40 70 3 (dZ.map eP)),(.nil 10),(.nil 11),(vI (-1))]),(1000000,bV (aU.mk kZ lG lD))]⟩
abbrev aFk:=fun y3 bG dZ kZ lG lD r=>avc Tryz.prog aEh (aIv r) (bF9 y3 bG dZ kZ lG lD)
def bRo (y3:Bool×aU) (bG:List bU) (dZ:List bR) (y22:bR×aU) (bP:List aA) (pW:List aJ) (nD:Int×Bool):St:=⟨[(0,(.ptr 1000000 0)),(2,(.ptr 2 0)),(3,(.ptr 3 0)),(5,(.ptr 5 0))],[(2,[(vB false),(.nil 13),(.nil 3),(.nil 10),(.nil 11),(vI 0)]),(3,[(vB y3.1),(.osl 18 64 13 (bG.map eF)),(.osl 40 70 3 (dZ.map eP)),(.nil 10),(.nil 11),(vI (-1))]),(5,aJ9 (bR.mk y22.1.table y22.1.as_ bP)),(1000000,bV (aU.mk pW nD.1 nD.2))]⟩
abbrev aEy:=fun y3 bG dZ y22 bP pW nD r=>avc Tryz.prog aN9 (bOf r) (bRo y3 bG dZ y22 bP pW nD)
def bG2 (y3:Bool×aU) (bG:List bU) (dZ:List bR) (y29:(List aA)×aU) (gM:List dY) (nK:List aJ) (kX:Int×Bool):St:=⟨[(0,(.ptr 1000000 0)),(2,(.ptr 2 0)),(3,(.ptr 3 0))],[(2,[(vB false),(.nil 13),(.nil 3),(.nil 10),(.nil 11),(vI 0)]),(3,[(vB y3.1),(.osl 18 64 13 (bG.map eF)),(.osl 40 70 3 (dZ.map eP)),(.osl 70 57 10 (y29.1.map bN)),(.osl 83 72 11 (gM.map fV)),(vI (-1))]),(1000000,bV (aU.mk nK kX.1 kX.2))]⟩
abbrev aI0:=fun y3 bG dZ y29 gM nK kX r=>avc Tryz.prog aO8 (bEe r) (bG2 y3 bG dZ y29 gM nK kX)
def bOy (y3:Bool×aU) (bG:List bU) (dZ:List bR) (y29:(List aA)×aU) (kH:List dY) (xI:List aJ) (vV:Int) (wG:Bool):St:=⟨[(0,(.ptr 1000000 0)),(2,(.ptr 2 0)),(3,(.ptr 3 0))],[(2,[(vB false),(.nil 13),(.nil 3),(.nil 10),(.nil 11),(vI 0)]),(3,[(vB y3.1),(.osl 18 64 13 (bG.map eF)),(.osl 40 70 3 (dZ.map eP)),(.osl 70 57 10 (y29.1.map bN)),(.osl 83 72 11 (kH.map fV)),(vI (-1))]),(1000000,bV (aU.mk xI vV wG))]⟩
abbrev aT5:=fun y3 bG dZ y29 kH xI vV wG r=>avc Tryz.prog aHz (wU r) (bOy y3 bG dZ y29 kH xI vV wG)
def bMl (y3:Bool×aU) (bG:List bU) (dZ:List bR) (y29:(List aA)×aU) (kH:List dY) (lQ:Int) (wE:List aJ) (wR:Int) (yC:Bool):St:=⟨[(2,(.ptr 2 0)),(3,(.ptr 3 0))],[(2,[(vB false),(.nil 13),(.nil 3),(.nil 10),(.nil 11),(vI 0)]),(3,[(vB y3.1),(.osl 18 64 13 (bG.map eF)),(.osl 40 70 3 (dZ.map eP)),(.osl 70 57 10 (y29.1.map bN)),(.osl 83 72 11 (kH.map fV)),(vI lQ)]),(1000000,bV (aU.mk wE wR yC))]⟩
abbrev aX4:=fun y3 bG dZ y29 kH lQ wE wR yC r=>avc Tryz.prog aJy (wU r) (bMl y3 bG dZ y29 kH lQ wE wR yC)
def bMo:AC:=(.seq (.ops [.alc 2 aKo]) (.seq (.ops [.mv 4 0,.call (some 5) 49 [4,(kI 1)],.alc 3 fO,.st 10 3 5]) (.seq (.seq (.ops [.mv 6 0,.call (some 7) 45 [6,(kI 10)]]) (.cond 7 (.seq (.ops [.ld 8 10 true 3,.bld 9 [aR,aR,eH,aR,aR,aY,aY,aY,(.nil 10),(.nil 6),eH] [(0,10,8),(10,1,(kB true))],.st 11 2 9]) .ret) .skip)) (.seq (.ops [.mv 10 0,.call (some 11) 45 [10,(kI 9)]]) (.seq (.ops [.ld 12 10 true 3,.bld 13 [aR,aR,eH,aR,aR,aY,aY,aY,(.nil 10),(.nil 6),eH] [(0,10,12)],.st 11 2 13]) .ret)))))
theorem bQ3:bQ Tryz.prog 51=some (bMo,[.ld 0 11 true 2],14):=by kernel_rfl
def bU2 (r:dY×aU):Exit→St→Prop:=bM [.ld 0 11 true 2] fun x b=>x=(fun (y:dY×aU)=>(xZ y.1)) r∧bI ((fun (y:dY×aU)=>[(1000000,bV y.2)]) r) b
def aM3:AC:=(.loop (.seq (.seq (.ops [.mv 38 0,.nck 39 38,.fa 40 2 39,.ld 41 1 false 40,.not 42 41]) (.cond 42 .skip (.exit 1))) (.block 2 (.seq (.ops [.mv 43 0,.mv 44 1,.call (some 45) 80 [43,44],.asg 6 45]) (.seq (.seq (.ops [.mv 46 6,.bin 47 .eql 46 (kI 0)]) (.cond 47 (.exit 1) .skip)) (.seq (.ops [.mv 48 0,.call (some 49) 43 [48,(kB true)]]) (.dops [[],[],[],[],[3],[2,4],[1,5],[0,6],[7,5,0,1,2,3,4,5,6,7]] [.mv 50 6,.ld 51 10 true 5,.mv 52 0,.mv 53 1,.bin 54 .add 53 (kI 1),.call (some 55) 49 [52,54],.bsl 56 57 10 [51,55],.bld 57 [aR,aR,eH,aR,aR,aY,aY,aY,(.nil 10),(.nil 6)] [(0,1,(kI 4)),(1,1,50),(8,1,56)],.st 10 5 57])))))))
def aE3:AC:=(.seq (.ops [.ld 58 10 true 5,.st 10 4 58]) .ret)
def bJd:AC:=(.seq (.ops [.alc 4 fO]) (.seq (.seq (.ops [.mv 7 1]) (.block 0 (.seq (.ops [.bin 9 .eql 7 (kI 3),.asg 8 9]) (.cond 8 (.seq (.seq (.ops [.mv 10 0,.call (some 11) 45 [10,(kI 15)]]) (.cond 11 (.seq (.ops [.mv 12 0,.call (some 13) 49 [12,(kI 3)],.bsl 14 57 10 [13],.bld 15 [aR,aR,eH,aR,aR,aY,aY,aY,(.nil 10),(.nil 6)] [(0,1,(kI 3)),(1,1,(kI 15)),(8,1,14)],.st 10 4 15]) .ret) .skip)) (.seq (.ops [.mv 16 0,.call (some 17) 49 [16,(kI 4)],.st 10 4 17]) .ret)) (.seq (.ops [.bin 19 .eql 7 (kI 4),.asg 18 19]) (.cond 18 (.seq (.ops [.mv 20 0,.call (some 21) 78 [20],.st 10 4 21]) .ret) (.seq (.ops [.bin 23 .eql 7 (kI 8),.asg 22 23]) (.cond 22 (.seq (.seq (.ops [.mv 24 0,.call (some 25) 47 [24,(.c (.d (.s (bs [45]))))]]) (.cond 25 (.seq (.ops [.mv 26 0,.call (some 27) 43 [26,(kB true)]]) (.seq (.ops [.mv 28 0,.call (some 29) 49 [28,(kI 8)],.bsl 30 57 10 [29],.bld 31 [aR,aR,eH,aR,aR,aY,aY,aY,(.nil 10),(.nil 6)] [(0,1,(kI 3)),(1,1,(kI 16)),(8,1,30)],.st 10 4 31]) .ret)) .skip)) (.seq (.ops [.mv 32 0,.call (some 33) 79 [32],.st 10 4 33]) .ret)) .skip)))))))) (.seq (.ops [.mv 34 0,.mv 35 1,.bin 36 .add 35 (kI 1),.call (some 37) 49 [34,36],.alc 5 fO,.st 10 5 37]) (.seq (.block 1 aM3) aE3))))
theorem aYc:bQ Tryz.prog 49=some (bJd,[.ld 0 10 true 4],59):=by kernel_rfl
def aLp (r:aA×aU):Exit→St→Prop:=bM [.ld 0 10 true 4] fun x b=>x=(fun (y:aA×aU)=>(bX y.1)) r∧bI ((fun (y:aA×aU)=>[(1000000,bV y.2)]) r) b
def bH8 (r:aA×aU):Exit→St→Prop:=(eT (wkK (avc Tryz.prog aE3 (aLp r))) (aLp r))
def bNz (r:aA×aU):Exit→St→Prop:=(eY 1 (bH8 r))
def bIb (p1:Int) (iV:Int) (bL:Int) (bP:Bool) (eQ:Int) (fK:Int) (fD:(List UInt8)×(List UInt8)×(List UInt8)×(List aA)×(List aX)×(List aJ)×Int×Bool):St:=⟨[(0,(.ptr 1000000 0)),(1,(vI p1)),(4,(.ptr 4 0)),(5,(.ptr 5 0))],[(4,[(vI 0),(vI 0),(vB false),(vI 0),(vI 0),(vS []),(vS []),(vS []),(.nil 10),(.nil 6)]),(5,fM (aA.mk iV bL bP (bJ.mk eQ fK fD.1) fD.2.1 fD.2.2.1 fD.2.2.2.1 fD.2.2.2.2.1)),(1000000,bV (aU.mk fD.2.2.2.2.2.1 fD.2.2.2.2.2.2.1 fD.2.2.2.2.2.2.2))]⟩
abbrev aEd:=fun p1 iV bL bP eQ fK fD r=>avc Tryz.prog aM3 (bNz r) (bIb p1 iV bL bP eQ fK fD)
def bKd (iV:Int) (bL:Int) (bP:Bool) (eQ:Int) (fK:Int) (lX:List UInt8) (wQ:List UInt8) (xN:List UInt8) (xR:List aA) (wW:List aX) (bD:List aJ) (bC:Int) (bF:Bool):St:=⟨[(4,(.ptr 4 0)),(5,(.ptr 5 0))],[(4,[(vI 0),(vI 0),(vB false),(vI 0),(vI 0),(vS []),(vS []),(vS []),(.nil 10),(.nil 6)]),(5,fM (aA.mk iV bL bP (bJ.mk eQ fK lX) wQ xN xR wW)),(1000000,bV (aU.mk bD bC bF))]⟩
abbrev aT6:=fun iV bL bP eQ fK lX wQ xN xR wW bD bC bF r=>avc Tryz.prog aE3 (aLp r) (bKd iV bL bP eQ fK lX wQ xN xR wW bD bC bF)
def bG3:AC:=(.seq (.seq (.ops [.mv 4 1,.not 5 4,.mv 6 5,.g 6 false (.mv 7 0),.g 6 false (.nck 8 7),.g 6 false (.fa 9 2 8),.g 6 false (.ld 10 1 false 9),.pick 11 6 (kB true) 10]) (.cond 11 (.seq (.ops [.mv 12 0,.nck 13 12,.fa 14 2 13,.st 1 14 (kB true)]) .ret) .skip)) (.ops [.mv 15 0,.mv 16 0,.nck 17 16,.fa 18 1 17,.ld 19 1 false 18,.bin 20 .add 19 (kI 1),.nck 21 15,.fa 22 1 21,.st 1 22 20]))
theorem bNf:bQ Tryz.prog 43=some (bG3,[],23):=by kernel_rfl
def bVz (r:aU):Exit→St→Prop:=bM [] fun x b=>x=(fun (y:aU)=>(.tup [])) r∧bI ((fun (y:aU)=>[(1000000,bV y)]) r) b
def aNm:AC:=(.ops [.mv 10 5,.bin 11 .add 10 (kI 1),.asg 5 11])
def aG1:AC:=(.loop (.seq (.seq (.ops [.mv 8 5,.bin 9 .leq 8 (kI 14)]) (.cond 9 .skip (.exit 0))) (.seq (.block 1 (.seq (.seq (.ops [.mv 12 5,.bld 13 [aR,aR,eH,aR,aR,aY,aY,aY,(.nil 10),(.nil 6)] [(0,1,(kI 4)),(1,1,12)],.call (some 14) 82 [13],.mv 15 1,.bin 16 .neq 14 15]) (.cond 16 (.exit 1) .skip)) (.seq (.ops [.mv 17 5,.call (some 18) 57 [17],.alc 6 [aR,aY,aR],.st 3 6 18]) (.seq (.ops [.mv 19 0,.call (some 20) 75 [19,(kI 0)],.alc 7 [aR,aY,aR],.st 3 7 20]) (.seq (.ops [.fa 21 0 7,.ld 22 1 false 21,.fa 23 0 6,.ld 24 1 false 23,.bin 25 .eql 22 24,.mv 26 25,.g 26 true (.fa 27 1 7),.g 26 true (.ld 28 1 false 27),.g 26 true (.fa 29 1 6),.g 26 true (.ld 30 1 false 29),.g 26 true (.bin 31 .eql 28 30),.pick 32 26 31 (kB false)]) (.cond 32 (.seq (.ops [.mv 33 5,.asg 4 33]) .ret) .skip)))))) aNm)))
def aQ6:AC:=(.seq (.ops [.asg 4 (kI 0)]) .ret)
def bQj:AC:=(.seq (.ops [.asg 4 (kI 0)]) (.seq (.seq (.ops [.asg 5 (kI 1)]) (.block 0 aG1)) aQ6))
theorem bJz:bQ Tryz.prog 80=some (bQj,[.mv 0 4],34):=by kernel_rfl
def aSu (p0:aU) (r:Int):Exit→St→Prop:=bM [.mv 0 4] fun x b=>x=(fun (y:Int)=>(vI y)) r∧bI ((fun (y:Int)=>[(1000000,bV p0)]) r) b
def bIz (p0:aU) (r:Int):Exit→St→Prop:=(eT (wkK (avc Tryz.prog aQ6 (aSu p0 r))) (aSu p0 r))
def aN0 (p0:aU) (r:Int):Exit→St→Prop:=(eY 0 (bIz p0 r))
def bDk (p0:aU) (r:Int):Exit→St→Prop:=(eT (avc Tryz.prog aG1 (aN0 p0 r)) (aN0 p0 r))
def bIx (p1:Int) (p0:aU) (x5:Int):St:=⟨[(0,(.ptr 1000000 0)),(1,(vI p1)),(5,(vI x5))],[(1000000,bV p0)]⟩
abbrev aH3:=fun p1 p0 x5 r=>avc Tryz.prog aG1 (aN0 p0 r) (bIx p1 p0 x5)
def bDz (p1:Int) (x5:Int) (p0:aU):St:=⟨[(0,(.ptr 1000000 0)),(1,(vI p1)),(5,(vI x5))],[(1000000,bV p0)]⟩
abbrev aE9:=fun p1 x5 p0 r=>avc Tryz.prog aNm (bDk p0 r) (bDz p1 x5 p0)
def aZj:AC:=(.seq (.ops [.alc 2 [aR,aY,aR]]) (.seq (.seq (.ops [.mv 3 0,.bin 4 .eql 3 (kI 1),.mv 5 4,.g 5 false (.mv 6 0),.g 5 false (.bin 7 .eql 6 (kI 2)),.pick 8 5 (kB true) 7,.mv 9 8,.g 9 false (.mv 10 0),.g 9 false (.bin 11 .eql 10 (kI 15)),.pick 12 9 (kB true) 11]) (.cond 12 (.seq (.ops [.mv 13 0,.call (some 14) 83 [13],.bld 15 [aR,aY,aR] [(0,1,(kI 1)),(1,1,14)],.st 3 2 15]) .ret) .skip)) (.seq (.ops [.mv 16 0,.call (some 17) 83 [16],.call (some 18) 30 [17],.st 3 2 18]) .ret)))
theorem bEk:bQ Tryz.prog 57=some (aZj,[.ld 0 3 true 2],19):=by kernel_rfl
def bUo (r:aJ):Exit→St→Prop:=bM [.ld 0 3 true 2] fun x _=>x=(fun y=>(kP y)) r
def bF3:AC:=(.seq (.ops [.alc 2 [aR,aY,aR]]) (.seq (.ops [.mv 3 0,.bld 4 [aR,aY,aR] [(0,1,(kI 5)),(1,1,3)],.st 3 2 4]) .ret))
theorem bJh:bQ Tryz.prog 30=some (bF3,[.ld 0 3 true 2],5):=by kernel_rfl
def bVm (r:aJ):Exit→St→Prop:=bM [.ld 0 3 true 2] fun x _=>x=(fun y=>(kP y)) r
def bEl:AC:=(.seq (.ops [.asg 2 (.c (.d (.s (bs []))))]) (.seq (.seq (.ops [.mv 3 0,.call (some 4) 88 [3,(kI 1),(kI 16)],.not 5 4]) (.cond 5 (.seq (.ops [.asg 2 (.c (.d (.s (bs []))))]) .ret) .skip)) (.seq (.ops [.bsl 6 9 1 [(.c (.d (.s (bs [])))),(.c (.d (.s (bs [79,82])))),(.c (.d (.s (bs [65,78,68])))),(.c (.d (.s (bs [61])))),(.c (.d (.s (bs [60,62])))),(.c (.d (.s (bs [60])))),(.c (.d (.s (bs [60,61])))),(.c (.d (.s (bs [62])))),(.c (.d (.s (bs [62,61])))),(.c (.d (.s (bs [124,124])))),(.c (.d (.s (bs [43])))),(.c (.d (.s (bs [45])))),(.c (.d (.s (bs [42])))),(.c (.d (.s (bs [47])))),(.c (.d (.s (bs [37])))),(.c (.d (.s (bs [78,79,84])))),(.c (.d (.s (bs [45]))))],.mv 7 0,.ia 8 1 6 7,.ld 9 1 false 8,.asg 2 9]) .ret)))
theorem bP0:bQ Tryz.prog 83=some (bEl,[.mv 0 2],10):=by kernel_rfl
def bUl (r:List UInt8):Exit→St→Prop:=bM [.mv 0 2] fun x _=>x=(fun y=>(vS y)) r
def bR9:AC:=(.seq (.ops [.asg 6 (kB false)]) (.seq (.ops [.mv 7 0,.mv 8 1,.bin 9 .geq 7 8,.mv 10 9,.g 10 true (.mv 11 0),.g 10 true (.mv 12 2),.g 10 true (.bin 13 .leq 11 12),.pick 14 10 13 (kB false),.asg 6 14]) .ret))
theorem bEs:bQ Tryz.prog 88=some (bR9,[.mv 0 6],15):=by kernel_rfl
def bVy (r:Bool):Exit→St→Prop:=bM [.mv 0 6] fun x _=>x=(fun y=>(vB y)) r
def bAn:AC:=(.seq (.ops [.alc 4 [aR,aY,aR]]) (.seq (.seq (.dops [[],[0],[1],[2],[3],[4],[5,4],[6,4],[7,4],[4],[8,9,4],[4],[11,4],[12,4],[13,4],[14,4],[10,15,4],[4,16]] [.mv 5 0,.nck 6 5,.fa 7 2 6,.ld 8 1 false 7,.mv 9 8,.g 9 false (.mv 10 0),.g 9 false (.nck 11 10),.g 9 false (.fa 12 1 11),.g 9 false (.ld 13 1 false 12),.g 9 false (.mv 14 1),.g 9 false (.bin 15 .add 13 14),.g 9 false (.mv 16 0),.g 9 false (.nck 17 16),.g 9 false (.fa 18 0 17),.g 9 false (.ld 19 1 false 18),.g 9 false (.len 20 19),.g 9 false (.bin 21 .geq 15 20),.pick 22 9 (kB true) 21]) (.cond 22 (.seq (.ops [.bld 23 [aR,aY,aR] [],.st 3 4 23]) .ret) .skip)) (.seq (.dops [[],[0],[1],[2],[],[4],[5],[6],[],[7,8],[3,9],[10],[11,0,1,2,3,4,5,6,7,8,9,10,11]] [.mv 24 0,.nck 25 24,.fa 26 0 25,.ld 27 1 false 26,.mv 28 0,.nck 29 28,.fa 30 1 29,.ld 31 1 false 30,.mv 32 1,.bin 33 .add 31 32,.ia 34 3 27 33,.ld 35 3 true 34,.st 3 4 35]) .ret)))
theorem bC7:bQ Tryz.prog 75=some (bAn,[.ld 0 3 true 4],36):=by kernel_rfl
def bUi (p0:aU) (r:aJ):Exit→St→Prop:=bM [.ld 0 3 true 4] fun x b=>x=(fun (y:aJ)=>(kP y)) r∧bI ((fun (y:aJ)=>[(1000000,bV p0)]) r) b
def aMe:AC:=(.cond 9 (.seq (.ops [.asg 2 (kI 4)]) .ret) (.seq (.ops [.bin 15 .eql 4 (kI 3),.asg 14 15]) (.cond 14 (.seq (.seq (.ops [.fa 16 1 1,.ld 17 1 false 16,.bin 18 .eql 17 (kI 15)]) (.cond 18 (.seq (.ops [.asg 2 (kI 3)]) .ret) .skip)) (.seq (.ops [.fa 19 1 1,.ld 20 1 false 19,.bin 21 .eql 20 (kI 16)]) (.cond 21 (.seq (.ops [.asg 2 (kI 8)]) .ret) .skip))) (.seq (.ops [.bin 23 .eql 4 (kI 4),.asg 22 23]) (.cond 22 (.seq (.ops [.fa 24 1 1,.ld 25 1 false 24,.call (some 26) 88 [25,(kI 1),(kI 14)]]) (.cond 26 (.seq (.ops [.bsl 27 3 1 [(kI 0),(kI 1),(kI 2),(kI 4),(kI 4),(kI 4),(kI 4),(kI 4),(kI 4),(kI 5),(kI 6),(kI 6),(kI 7),(kI 7),(kI 7)],.fa 28 1 1,.ld 29 1 false 28,.ia 30 1 27 29,.ld 31 1 false 30,.asg 2 31]) .ret) .skip)) .skip)))))
def aMl:AC:=(.cond 5 (.seq (.ops [.asg 2 (kI 9)]) .ret) (.seq (.seq (.ops [.bin 10 .eql 4 (kI 5),.asg 9 10]) (.cond 9 .skip (.seq (.ops [.bin 11 .eql 4 (kI 6),.asg 9 11]) (.cond 9 .skip (.seq (.ops [.bin 12 .eql 4 (kI 7),.asg 9 12]) (.cond 9 .skip (.ops [.bin 13 .eql 4 (kI 8),.asg 9 13]))))))) aMe))
def aEu:AC:=(.seq (.ops [.asg 2 (kI 0)]) .ret)
def bJs:AC:=(.seq (.ops [.box 1 57 0,.asg 2 (kI 0)]) (.seq (.seq (.ops [.fa 3 0 1,.ld 4 1 false 3]) (.block 0 (.seq (.seq (.ops [.bin 6 .eql 4 (kI 1),.asg 5 6]) (.cond 5 .skip (.seq (.ops [.bin 7 .eql 4 (kI 2),.asg 5 7]) (.cond 5 .skip (.ops [.bin 8 .eql 4 (kI 9),.asg 5 8]))))) aMl))) aEu))
theorem aYv:bQ Tryz.prog 82=some (bJs,[.mv 0 2],32):=by kernel_rfl
def aIj (r:Int):Exit→St→Prop:=bM [.mv 0 2] fun x _=>x=(fun y=>(vI y)) r
def bRx (r:Int):Exit→St→Prop:=(eT (wkK (avc Tryz.prog aEu (aIj r))) (aIj r))
def aTm (r:Int):Exit→St→Prop:=(eY 0 (bRx r))
def bCq (p0:aA) (x5:Bool):St:=⟨[(1,(.ptr 1 0)),(4,(vI p0.kind)),(5,(vB x5))],[(1,fM p0)]⟩
abbrev aPx:=fun p0 x5 r=>avc Tryz.prog aMl (aTm r) (bCq p0 x5)
def bKx (p0:aA) (x9:Bool):St:=⟨[(1,(.ptr 1 0)),(4,(vI p0.kind)),(9,(vB x9))],[(1,fM p0)]⟩
abbrev aQc:=fun p0 x9 r=>avc Tryz.prog aMe (aTm r) (bKx p0 x9)
def bPn:St:=⟨[],[]⟩
abbrev aQg:=fun r=>avc Tryz.prog aEu (aIj r) (bPn)
def bFi:AC:=(.seq (.ops [.asg 4 (kB false)]) (.seq (.ops [.mv 6 0,.call (some 7) 75 [6,(kI 0)],.alc 5 [aR,aY,aR],.st 3 5 7]) (.seq (.ops [.fa 8 0 5,.ld 9 1 false 8,.bin 10 .eql 9 (kI 5),.mv 11 10,.g 11 true (.fa 12 1 5),.g 11 true (.ld 13 1 false 12),.g 11 true (.mv 14 1),.g 11 true (.bin 15 .eql 13 14),.pick 16 11 15 (kB false),.asg 4 16]) .ret)))
theorem aYi:bQ Tryz.prog 47=some (bFi,[.mv 0 4],17):=by kernel_rfl
def bTw (p0:aU) (r:Bool):Exit→St→Prop:=bM [.mv 0 4] fun x b=>x=(fun (y:Bool)=>(vB y)) r∧bI ((fun (y:Bool)=>[(1000000,bV p0)]) r) b
def aK7:AC:=(.seq (.ops [.ld 62 10 true 4,.st 10 2 62]) .ret)
def aSs:AC:=(.seq (.ops [.mv 79 0,.mv 80 0,.call (some 81) 47 [80,(.c (.d (.s (bs [40]))))],.call (some 82) 43 [79,81]]) (.seq (.seq (.ops [.mv 83 0,.nck 84 83,.fa 85 2 84,.ld 86 1 false 85]) (.cond 86 (.seq (.ops [.bld 87 [aR,aR,eH,aR,aR,aY,aY,aY,(.nil 10),(.nil 6)] [],.st 10 2 87]) .ret) .skip)) (.seq (.ops [.mv 88 0,.call (some 89) 49 [88,(kI 1)],.alc 6 fO,.st 10 6 89]) (.seq (.ops [.mv 90 0,.mv 91 0,.call (some 92) 47 [91,(.c (.d (.s (bs [41]))))],.call (some 93) 43 [90,92]]) (.seq (.ops [.ld 94 10 true 6,.st 10 2 94]) .ret)))))
def bJ7:AC:=(.seq (.ops [.alc 2 fO]) (.seq (.ops [.bld 7 [aR,aR,eH,aR,aR,aY,aY,aY,(.nil 10),(.nil 6)] [(0,1,(kI 1))],.alc 3 fO,.st 10 3 7]) (.seq (.block 0 (.seq (.ops [.mv 9 0,.call (some 10) 76 [9,(kI 3)],.asg 8 10]) (.cond 8 (.seq (.ops [.fa 11 3 3,.fa 12 0 11,.st 1 12 (kI 1)]) (.seq (.ops [.mv 14 0,.call (some 15) 53 [14,(kI 3)],.call (some 16) 52 [15],.mv 13 16,.ext 17 13 0,.ext 18 13 1,.fa 19 3 3,.fa 20 1 19,.st 1 20 17]) (.seq (.ops [.ld 21 10 true 3,.st 10 2 21]) .ret))) (.seq (.ops [.mv 23 0,.call (some 24) 76 [23,(kI 4)],.asg 22 24]) (.cond 22 (.seq (.ops [.mv 25 0,.call (some 26) 53 [25,(kI 4)],.call (some 27) 96 [26],.fa 28 3 3,.st 3 28 27]) (.seq (.ops [.ld 29 10 true 3,.st 10 2 29]) .ret)) (.seq (.ops [.mv 31 0,.call (some 32) 45 [31,(kI 20)],.asg 30 32]) (.cond 30 (.seq (.ops [.ld 33 10 true 3,.st 10 2 33]) .ret) (.seq (.ops [.mv 35 0,.call (some 36) 45 [35,(kI 21)],.asg 34 36]) (.cond 34 (.seq (.ops [.call (some 37) 97 [(kB true)],.fa 38 3 3,.st 3 38 37]) (.seq (.ops [.ld 39 10 true 3,.st 10 2 39]) .ret)) (.seq (.ops [.mv 41 0,.call (some 42) 45 [41,(kI 22)],.asg 40 42]) (.cond 40 (.seq (.ops [.call (some 43) 97 [(kB false)],.fa 44 3 3,.st 3 44 43]) (.seq (.ops [.ld 45 10 true 3,.st 10 2 45]) .ret)) (.seq (.ops [.mv 47 0,.call (some 48) 76 [47,(kI 2)],.asg 46 48]) (.cond 46 (.seq (.ops [.mv 49 0,.call (some 50) 53 [49,(kI 2)],.bld 51 [aR,aR,eH,aR,aR,aY,aY,aY,(.nil 10),(.nil 6)] [(0,1,(kI 2)),(7,1,50)],.alc 4 fO,.st 10 4 51]) (.seq (.seq (.ops [.mv 52 0,.call (some 53) 47 [52,(.c (.d (.s (bs [46]))))]]) (.cond 53 (.seq (.ops [.mv 54 0,.call (some 55) 43 [54,(kB true)]]) (.seq (.ops [.fa 56 7 4,.ld 57 1 false 56,.fa 58 6 4,.st 1 58 57]) (.ops [.mv 59 0,.call (some 60) 53 [59,(kI 2)],.fa 61 7 4,.st 1 61 60]))) .skip)) aK7)) (.seq (.ops [.mv 64 0,.call (some 65) 45 [64,(kI 19)],.asg 63 65]) (.cond 63 (.seq (.ops [.mv 66 0,.mv 67 0,.call (some 68) 47 [67,(.c (.d (.s (bs [40]))))],.call (some 69) 43 [66,68]]) (.seq (.ops [.mv 70 0,.call (some 71) 19 [70],.alc 5 mF,.st 6 5 71]) (.seq (.ops [.mv 72 0,.mv 73 0,.call (some 74) 47 [73,(.c (.d (.s (bs [41]))))],.call (some 75) 43 [72,74]]) (.seq (.ops [.ld 76 6 true 5,.bsl 77 31 6 [76],.bld 78 [aR,aR,eH,aR,aR,aY,aY,aY,(.nil 10),(.nil 6)] [(0,1,(kI 9)),(9,1,77)],.st 10 2 78]) .ret)))) .skip))))))))))))))) aSs)))
theorem bSi:bQ Tryz.prog 79=some (bJ7,[.ld 0 10 true 2],95):=by kernel_rfl
def aOu (r:aA×aU):Exit→St→Prop:=bM [.ld 0 10 true 2] fun x b=>x=(fun (y:aA×aU)=>(bX y.1)) r∧bI ((fun (y:aA×aU)=>[(1000000,bV y.2)]) r) b
def bOn (r:aA×aU):Exit→St→Prop:=(eT (wkK (avc Tryz.prog aSs (aOu r))) (aOu r))
def bRr (r:aA×aU):Exit→St→Prop:=(eY 0 (bOn r))
def bH4 (rY:List UInt8) (sS:List UInt8) (bD:List aJ) (bC:Int) (bF:Bool):St:=⟨[(2,(.ptr 2 0)),(4,(.ptr 4 0))],[(2,[(vI 0),(vI 0),(vB false),(vI 0),(vI 0),(vS []),(vS []),(vS []),(.nil 10),(.nil 6)]),(4,[(vI 2),(vI 0),(vB false),(vI 0),(vI 0),(vS []),(vS rY),(vS sS),(.nil 10),(.nil 6)]),(1000000,bV (aU.mk bD bC bF))]⟩
abbrev aUx:=fun rY sS bD bC bF r=>avc Tryz.prog aK7 (bRr r) (bH4 rY sS bD bC bF)
def bHi:AC:=(.seq (.ops [.asg 4 (kB false)]) (.seq (.ops [.mv 6 0,.call (some 7) 75 [6,(kI 0)],.alc 5 [aR,aY,aR],.st 3 5 7]) (.seq (.ops [.fa 8 0 5,.ld 9 1 false 8,.mv 10 1,.bin 11 .eql 9 10,.mv 12 11,.g 12 true (.ld 13 3 true 5),.g 12 true (.call (some 14) 94 [13]),.pick 15 12 14 (kB false),.asg 4 15]) .ret)))
theorem bAf:bQ Tryz.prog 76=some (bHi,[.mv 0 4],16):=by kernel_rfl
def bUq (p0:aU) (r:Bool):Exit→St→Prop:=bM [.mv 0 4] fun x b=>x=(fun (y:Bool)=>(vB y)) r∧bI ((fun (y:Bool)=>[(1000000,bV p0)]) r) b
def bKa:AC:=(.seq (.ops [.box 1 77 0,.asg 2 (kB false)]) (.seq (.seq (.ops [.fa 5 0 1,.ld 6 1 false 5]) (.block 0 (.seq (.ops [.bin 8 .eql 6 (kI 1),.asg 7 8]) (.cond 7 (.seq (.dops [[],[0],[1],[2],[3,2],[4],[5,4],[6,4,4],[4],[8,4],[7,9,4],[4,10],[11,7,0,1,2,3,4,5,6,7,8,9,10,11]] [.fa 9 1 1,.ld 10 1 false 9,.call (some 11) 110 [10],.bin 12 .gtr 11 (kI 0),.mv 13 12,.g 13 true (.fa 14 1 1),.g 13 true (.ld 15 1 false 14),.g 13 true (.call (some 16) 111 [15]),.g 13 true (.fa 17 1 1),.g 13 true (.ld 18 1 false 17),.g 13 true (.bin 19 .eql 16 18),.pick 20 13 19 (kB false),.asg 2 20]) .ret) (.seq (.ops [.bin 22 .eql 6 (kI 2),.asg 21 22]) (.cond 21 (.seq (.ops [.fa 23 1 1,.ld 24 1 false 23,.call (some 25) 112 [24],.asg 2 25]) .ret) (.seq (.ops [.bin 27 .eql 6 (kI 3),.asg 26 27]) (.cond 26 (.seq (.ops [.fa 29 1 1,.ld 30 1 false 29,.call (some 31) 52 [30],.mv 28 31,.ext 32 28 0,.ext 33 28 1,.asg 3 32,.asg 4 33]) (.seq (.ops [.mv 34 4,.asg 2 34]) .ret)) (.seq (.ops [.bin 36 .eql 6 (kI 4),.asg 35 36]) (.cond 35 (.seq (.ops [.fa 37 1 1,.ld 38 1 false 37,.lns 39 38,.bin 40 .leq 39 (kI 40),.asg 2 40]) .ret) (.seq (.ops [.bin 42 .eql 6 (kI 5),.asg 41 42]) (.cond 41 (.seq (.ops [.fa 43 1 1,.ld 44 1 false 43,.call (some 45) 113 [44],.asg 2 45]) .ret) .skip)))))))))))) (.seq (.ops [.asg 2 (kB false)]) .ret)))
theorem bO2:bQ Tryz.prog 94=some (bKa,[.mv 0 2],46):=by kernel_rfl
def bVa (r:Bool):Exit→St→Prop:=bM [.mv 0 2] fun x _=>x=(fun y=>(vB y)) r
def aKc:AC:=(.loop (.seq (.seq (.ops [.mv 12 5,.mv 13 4,.len 14 13,.bin 15 .lss 12 14]) (.cond 15 .skip (.exit 0))) (.seq (.block 1 (.seq (.ops [.mv 18 4,.mv 19 5,.ia 20 1 18 19,.ld 21 1 false 20,.mv 22 3,.bin 23 .eql 21 22]) (.cond 23 (.seq (.ops [.mv 24 5,.asg 2 24]) .ret) .skip))) (.ops [.mv 16 5,.bin 17 .add 16 (kI 1),.asg 5 17]))))
def aQs:AC:=(.seq (.ops [.asg 2 (kI 0)]) .ret)
def bBt:AC:=(.seq (.ops [.asg 2 (kI 0)]) (.seq (.seq (.ops [.mv 6 0,.lns 7 6,.bin 8 .gtr 7 (kI 8)]) (.cond 8 (.seq (.ops [.asg 2 (kI 0)]) .ret) .skip)) (.seq (.ops [.mv 9 0,.call (some 10) 111 [9],.asg 3 10]) (.seq (.ops [.call (some 11) 85 [],.asg 4 11]) (.seq (.seq (.ops [.asg 5 (kI 1)]) (.block 0 aKc)) aQs)))))
theorem bFk:bQ Tryz.prog 110=some (bBt,[.mv 0 2],25):=by kernel_rfl
def aW9 (r:Int):Exit→St→Prop:=bM [.mv 0 2] fun x _=>x=(fun y=>(vI y)) r
def bM5 (r:Int):Exit→St→Prop:=(eT (wkK (avc Tryz.prog aQs (aW9 r))) (aW9 r))
def aYp (r:Int):Exit→St→Prop:=(eY 0 (bM5 r))
def bGz (y1:List UInt8) (y2:List (List UInt8)) (x5:Int):St:=⟨[(3,(vS y1)),(4,(.osl 4 9 1 (y2.map cStr))),(5,(vI x5))],[]⟩
abbrev aFn:=fun y1 y2 x5 r=>avc Tryz.prog aKc (aYp r) (bGz y1 y2 x5)
def aIr:AC:=(.ops [.mv 11 4,.bin 12 .add 11 (kI 1),.asg 4 12])
def aE7:AC:=(.loop (.seq (.seq (.ops [.mv 7 4,.mv 8 3,.len 9 8,.bin 10 .lss 7 9]) (.cond 10 .skip (.exit 0))) (.seq (.block 1 (.seq (.ops [.mv 13 3,.mv 14 4,.ia 15 1 13 14,.ld 16 1 false 15,.bin 17 .geq 16 (.c (.d (.i .u8 97))),.mv 18 17,.g 18 true (.mv 19 3),.g 18 true (.mv 20 4),.g 18 true (.ia 21 1 19 20),.g 18 true (.ld 22 1 false 21),.g 18 true (.bin 23 .leq 22 (.c (.d (.i .u8 122)))),.pick 24 18 23 (kB false)]) (.cond 24 (.ops [.mv 25 3,.mv 26 4,.mv 27 3,.mv 28 4,.ia 29 1 27 28,.ld 30 1 false 29,.bin 31 .sub 30 (.c (.d (.i .u8 32))),.ia 32 1 25 26,.st 1 32 31]) .skip))) aIr)))
def aF7:AC:=(.seq (.ops [.mv 33 3,.cbs 34 33,.asg 2 34]) .ret)
def bOt:AC:=(.seq (.ops [.asg 2 (.c (.d (.s (bs []))))]) (.seq (.ops [.mv 5 0,.csb 6 5 5,.asg 3 6]) (.seq (.seq (.ops [.asg 4 (kI 0)]) (.block 0 aE7)) aF7)))
theorem bCe:bQ Tryz.prog 111=some (bOt,[.mv 0 2],35):=by kernel_rfl
def aOi (r:List UInt8):Exit→St→Prop:=bM [.mv 0 2] fun x _=>x=(fun y=>(vS y)) r
def bOq (r:List UInt8):Exit→St→Prop:=(eT (wkK (avc Tryz.prog aF7 (aOi r))) (aOi r))
def aMp (r:List UInt8):Exit→St→Prop:=(eY 0 (bOq r))
def aZq (r:List UInt8):Exit→St→Prop:=(eT (avc Tryz.prog aE7 (aMp r)) (aMp r))
def bK3 (x4:Int) (gU:List Int):St:=⟨[(3,(.tre 60013000)),(4,(vI x4))],[(60013000,[(.trc 1 (gU.map cU8))])]⟩
abbrev aG9:=fun x4 gU r=>avc Tryz.prog aE7 (aMp r) (bK3 x4 gU)
def bEv (x4:Int) (oQ:List Int):St:=⟨[(3,(.tre 60052000)),(4,(vI x4))],[(60052000,[(.trc 1 (oQ.map cU8))])]⟩
abbrev aG5:=fun x4 oQ r=>avc Tryz.prog aIr (aZq r) (bEv x4 oQ)
def bKg (x3:List Int):St:=⟨[(3,(nT x3))],[]⟩
abbrev aWq:=fun x3 r=>avc Tryz.prog aF7 (aOi r) (bKg x3)
def bOa:AC:=(.seq (.ops [.asg 0 (.c (.nil 1))]) (.seq (.ops [.bsl 1 9 1 [(.c (.d (.s (bs [])))),(.c (.d (.s (bs [83,69,76,69,67,84])))),(.c (.d (.s (bs [68,73,83,84,73,78,67,84])))),(.c (.d (.s (bs [70,82,79,77])))),(.c (.d (.s (bs [74,79,73,78])))),(.c (.d (.s (bs [79,78])))),(.c (.d (.s (bs [87,72,69,82,69])))),(.c (.d (.s (bs [79,82,68,69,82])))),(.c (.d (.s (bs [66,89])))),(.c (.d (.s (bs [65,83,67])))),(.c (.d (.s (bs [68,69,83,67])))),(.c (.d (.s (bs [76,73,77,73,84])))),(.c (.d (.s (bs [65,83])))),(.c (.d (.s (bs [65,78,68])))),(.c (.d (.s (bs [79,82])))),(.c (.d (.s (bs [78,79,84])))),(.c (.d (.s (bs [73,83])))),(.c (.d (.s (bs [73,78])))),(.c (.d (.s (bs [66,69,84,87,69,69,78])))),(.c (.d (.s (bs [69,88,73,83,84,83])))),(.c (.d (.s (bs [78,85,76,76])))),(.c (.d (.s (bs [84,82,85,69])))),(.c (.d (.s (bs [70,65,76,83,69])))),(.c (.d (.s (bs [73,78,83,69,82,84])))),(.c (.d (.s (bs [73,78,84,79])))),(.c (.d (.s (bs [86,65,76,85,69,83])))),(.c (.d (.s (bs [85,80,68,65,84,69])))),(.c (.d (.s (bs [83,69,84])))),(.c (.d (.s (bs [68,69,76,69,84,69]))))],.asg 0 1]) .ret))
theorem bGq:bQ Tryz.prog 85=some (bOa,[.mv 0 0],2):=by kernel_rfl
def bX3 (r:List (List UInt8)):Exit→St→Prop:=bM [.mv 0 0] fun x b=>x=(fun (y:List (List UInt8))=>(.osl 2000000 9 1 (y.map cStr))) r∧bI ((fun (y:List (List UInt8))=>[]) r) b
def bI1:AC:=(.seq (.ops [.asg 2 (kB false)]) (.seq (.ops [.mv 3 0,.lns 4 3,.call (some 5) 88 [4,(kI 1),(kI 20)],.asg 2 5]) .ret))
theorem bI4:bQ Tryz.prog 112=some (bI1,[.mv 0 2],6):=by kernel_rfl
def bWl (r:Bool):Exit→St→Prop:=bM [.mv 0 2] fun x _=>x=(fun y=>(vB y)) r
def aLt:AC:=(.loop (.seq (.seq (.ops [.mv 15 5,.mv 16 0,.lns 17 16,.bin 18 .lss 15 17]) (.cond 18 .skip (.exit 0))) (.seq (.block 1 (.seq (.seq (.ops [.mv 21 0,.mv 22 5,.ix 23 21 22,.bin 24 .lss 23 (.c (.d (.i .u8 48))),.mv 25 24,.g 25 false (.mv 26 0),.g 25 false (.mv 27 5),.g 25 false (.ix 28 26 27),.g 25 false (.bin 29 .gtr 28 (.c (.d (.i .u8 57)))),.pick 30 25 (kB true) 29]) (.cond 30 (.seq (.ops [.asg 2 (kI 0),.asg 3 (kB false)]) .ret) .skip)) (.seq (.ops [.mv 31 0,.mv 32 5,.ix 33 31 32,.cvi 34 .i64 33,.bin 35 .sub 34 (kI 48),.asg 6 35]) (.seq (.seq (.ops [.mv 36 4,.mv 37 6,.bin 38 .sub (kI 9223372036854775807) 37,.bin 39 .quo 38 (kI 10),.bin 40 .gtr 36 39]) (.cond 40 (.seq (.ops [.asg 2 (kI 0),.asg 3 (kB false)]) .ret) .skip)) (.ops [.mv 41 4,.bin 42 .mul (kI 10) 41,.mv 43 6,.bin 44 .add 42 43,.asg 4 44]))))) (.ops [.mv 19 5,.bin 20 .add 19 (kI 1),.asg 5 20]))))
def aSx:AC:=(.seq (.seq (.ops [.mv 45 4,.call (some 46) 34 [45],.mv 47 0,.bin 48 .neq 46 47]) (.cond 48 (.seq (.ops [.asg 2 (kI 0),.asg 3 (kB false)]) .ret) .skip)) (.seq (.ops [.mv 49 4,.asg 2 49,.asg 3 (kB true)]) .ret))
def bFo:AC:=(.seq (.ops [.asg 2 (kI 0),.asg 3 (kB false)]) (.seq (.seq (.ops [.mv 7 0,.lns 8 7,.bin 9 .lss 8 (kI 1),.mv 10 9,.g 10 false (.mv 11 0),.g 10 false (.lns 12 11),.g 10 false (.bin 13 .gtr 12 (kI 19)),.pick 14 10 (kB true) 13]) (.cond 14 (.seq (.ops [.asg 2 (kI 0),.asg 3 (kB false)]) .ret) .skip)) (.seq (.ops [.asg 4 (kI 0)]) (.seq (.seq (.ops [.asg 5 (kI 0)]) (.block 0 aLt)) aSx))))
theorem bAl:bQ Tryz.prog 52=some (bFo,[.mv 0 2,.mv 0 3],50):=by kernel_rfl
def aS0 (r:Int×Bool):Exit→St→Prop:=bM [.mv 0 2,.mv 0 3] fun x _=>x=(fun y=>(.tup [(vI y.1),(vB y.2)])) r
def bBx (r:Int×Bool):Exit→St→Prop:=(eT (wkK (avc Tryz.prog aSx (aS0 r))) (aS0 r))
def bF8 (r:Int×Bool):Exit→St→Prop:=(eY 0 (bBx r))
def bO5 (p0:List UInt8) (x4:Int) (x5:Int):St:=⟨[(0,(vS p0)),(4,(vI x4)),(5,(vI x5))],[]⟩
abbrev aD5:=fun p0 x4 x5 r=>avc Tryz.prog aLt (bF8 r) (bO5 p0 x4 x5)
def aIq:AC:=(.seq (.ops [.mv 18 5,.bin 19 .add (kI 48) 18,.cvi 20 .u8 19,.bsl 21 5 1 [20],.cbs 22 21,.mv 23 4,.bin 24 .add 22 23,.asg 4 24]) (.ops [.mv 25 0,.bin 26 .quo 25 (kI 10),.asg 0 26]))
def aHc:AC:=(.loop (.seq (.seq (.ops [.mv 10 0,.bin 11 .neq 10 (kI 0)]) (.cond 11 .skip (.exit 0))) (.block 1 (.seq (.ops [.mv 12 0,.bin 13 .rem 12 (kI 10),.asg 5 13]) (.seq (.seq (.ops [.mv 14 5,.bin 15 .lss 14 (kI 0)]) (.cond 15 (.ops [.mv 16 5,.bin 17 .sub (kI 0) 16,.asg 5 17]) .skip)) aIq)))))
def aSw:AC:=(.seq (.seq (.ops [.mv 27 3]) (.cond 27 (.seq (.ops [.mv 28 4,.bin 29 .add (.c (.d (.s (bs [45])))) 28,.asg 2 29]) .ret) .skip)) (.seq (.ops [.mv 30 4,.asg 2 30]) .ret))
def bT9:AC:=(.seq (.ops [.asg 2 (.c (.d (.s (bs []))))]) (.seq (.seq (.ops [.mv 6 0,.bin 7 .eql 6 (kI 0)]) (.cond 7 (.seq (.ops [.asg 2 (.c (.d (.s (bs [48]))))]) .ret) .skip)) (.seq (.ops [.mv 8 0,.bin 9 .lss 8 (kI 0),.asg 3 9]) (.seq (.ops [.asg 4 (.c (.d (.s (bs []))))]) (.seq (.block 0 aHc) aSw)))))
theorem bIa:bQ Tryz.prog 34=some (bT9,[.mv 0 2],31):=by kernel_rfl
def aPu (r:List UInt8):Exit→St→Prop:=bM [.mv 0 2] fun x _=>x=(fun y=>(vS y)) r
def bHu (r:List UInt8):Exit→St→Prop:=(eT (wkK (avc Tryz.prog aSw (aPu r))) (aPu r))
def aMb (r:List UInt8):Exit→St→Prop:=(eY 0 (bHu r))
def bDb (r:List UInt8):Exit→St→Prop:=(eT (avc Tryz.prog aHc (aMb r)) (aMb r))
def bCv (r:List UInt8):Exit→St→Prop:=(eY 1 (bDb r))
def bBg (p0:Int) (x0:Int) (x4:List UInt8):St:=⟨[(0,(vI x0)),(3,(vB (decide (p0<0)))),(4,(vS x4))],[]⟩
abbrev aHp:=fun p0 x0 x4 r=>avc Tryz.prog aHc (aMb r) (bBg p0 x0 x4)
def bOv (x0:Int) (p0:Int) (x4:List UInt8) (x5:Int):St:=⟨[(0,(vI x0)),(3,(vB (decide (p0<0)))),(4,(vS x4)),(5,(vI x5))],[]⟩
abbrev aGk:=fun x0 p0 x4 x5 r=>avc Tryz.prog aIq (bCv r) (bOv x0 p0 x4 x5)
def aNw:AC:=(.cond 4 (.seq (.ops [.asg 2 (kB true)]) .ret) .skip)
def aY3:AC:=(.seq (.ops [.asg 2 (kB false)]) .ret)
def bMx:AC:=(.seq (.ops [.asg 2 (kB false)]) (.seq (.seq (.ops [.mv 3 0]) (.block 0 (.seq (.seq (.ops [.bin 5 .eql 3 (.c (.d (.s (bs [40])))),.asg 4 5]) (.cond 4 .skip (.seq (.ops [.bin 6 .eql 3 (.c (.d (.s (bs [41])))),.asg 4 6]) (.cond 4 .skip (.seq (.ops [.bin 7 .eql 3 (.c (.d (.s (bs [44])))),.asg 4 7]) (.cond 4 .skip (.seq (.ops [.bin 8 .eql 3 (.c (.d (.s (bs [46])))),.asg 4 8]) (.cond 4 .skip (.seq (.ops [.bin 9 .eql 3 (.c (.d (.s (bs [42])))),.asg 4 9]) (.cond 4 .skip (.seq (.ops [.bin 10 .eql 3 (.c (.d (.s (bs [43])))),.asg 4 10]) (.cond 4 .skip (.seq (.ops [.bin 11 .eql 3 (.c (.d (.s (bs [45])))),.asg 4 11]) (.cond 4 .skip (.seq (.ops [.bin 12 .eql 3 (.c (.d (.s (bs [47])))),.asg 4 12]) (.cond 4 .skip (.seq (.ops [.bin 13 .eql 3 (.c (.d (.s (bs [37])))),.asg 4 13]) (.cond 4 .skip (.seq (.ops [.bin 14 .eql 3 (.c (.d (.s (bs [61])))),.asg 4 14]) (.cond 4 .skip (.seq (.ops [.bin 15 .eql 3 (.c (.d (.s (bs [60,62])))),.asg 4 15]) (.cond 4 .skip (.seq (.ops [.bin 16 .eql 3 (.c (.d (.s (bs [60])))),.asg 4 16]) (.cond 4 .skip (.seq (.ops [.bin 17 .eql 3 (.c (.d (.s (bs [60,61])))),.asg 4 17]) (.cond 4 .skip (.seq (.ops [.bin 18 .eql 3 (.c (.d (.s (bs [62])))),.asg 4 18]) (.cond 4 .skip (.seq (.ops [.bin 19 .eql 3 (.c (.d (.s (bs [62,61])))),.asg 4 19]) (.cond 4 .skip (.ops [.bin 20 .eql 3 (.c (.d (.s (bs [124,124])))),.asg 4 20]))))))))))))))))))))))))))))))) aNw))) aY3))
theorem bO7:bQ Tryz.prog 113=some (bMx,[.mv 0 2],21):=by kernel_rfl
def aUy (r:Bool):Exit→St→Prop:=bM [.mv 0 2] fun x _=>x=(fun y=>(vB y)) r
def bQ9 (r:Bool):Exit→St→Prop:=(eT (wkK (avc Tryz.prog aY3 (aUy r))) (aUy r))
def bNl (r:Bool):Exit→St→Prop:=(eY 0 (bQ9 r))
def bQ4 (x4:Bool):St:=⟨[(4,(vB x4))],[]⟩
abbrev aTy:=fun x4 r=>avc Tryz.prog aNw (bNl r) (bQ4 x4)
def bRu:AC:=(.seq (.ops [.asg 4 (.c (.d (.s (bs []))))]) (.seq (.ops [.mv 6 0,.call (some 7) 75 [6,(kI 0)],.alc 5 [aR,aY,aR],.st 3 5 7]) (.seq (.ops [.mv 8 0,.mv 9 0,.mv 10 1,.call (some 11) 76 [9,10],.call (some 12) 43 [8,11]]) (.seq (.seq (.ops [.mv 13 0,.nck 14 13,.fa 15 2 14,.ld 16 1 false 15]) (.cond 16 (.seq (.ops [.asg 4 (.c (.d (.s (bs []))))]) .ret) .skip)) (.seq (.ops [.fa 17 1 5,.ld 18 1 false 17,.asg 4 18]) .ret)))))
theorem bA4:bQ Tryz.prog 53=some (bRu,[.mv 0 4],19):=by kernel_rfl
def bWw (r:(List UInt8)×aU):Exit→St→Prop:=bM [.mv 0 4] fun x b=>x=(fun (y:(List UInt8)×aU)=>(vS y.1)) r∧bI ((fun (y:(List UInt8)×aU)=>[(1000000,bV y.2)]) r) b
def aIw:AC:=(.seq (.ops [.mv 12 5,.asg 4 12]) .ret)
def bEu:AC:=(.seq (.ops [.asg 4 (kB false)]) (.seq (.ops [.mv 6 0,.mv 7 1,.call (some 8) 44 [6,7],.asg 5 8]) (.seq (.seq (.ops [.mv 9 5]) (.cond 9 (.ops [.mv 10 0,.call (some 11) 43 [10,(kB true)]]) .skip)) aIw)))
theorem bT1:bQ Tryz.prog 45=some (bEu,[.mv 0 4],13):=by kernel_rfl
def bP6 (r:Bool×aU):Exit→St→Prop:=bM [.mv 0 4] fun x b=>x=(fun (y:Bool×aU)=>(vB y.1)) r∧bI ((fun (y:Bool×aU)=>[(1000000,bV y.2)]) r) b
def bR6 (y1:Bool) (bD:List aJ) (bC:Int) (bF:Bool):St:=⟨[(5,(vB y1))],[(1000000,bV (aU.mk bD bC bF))]⟩
abbrev aY1:=fun y1 bD bC bF r=>avc Tryz.prog aIw (bP6 r) (bR6 y1 bD bC bF)
def bOs:AC:=(.seq (.ops [.asg 4 (kB false)]) (.seq (.ops [.mv 6 0,.call (some 7) 75 [6,(kI 0)],.alc 5 [aR,aY,aR],.st 3 5 7]) (.seq (.dops [[],[0],[1],[2],[3],[4,3],[3],[6,3,3],[5,7,3],[3,8],[9,7,0,1,2,3,4,5,6,7,8,9]] [.fa 8 0 5,.ld 9 1 false 8,.bin 10 .eql 9 (kI 1),.mv 11 10,.g 11 true (.fa 12 1 5),.g 11 true (.ld 13 1 false 12),.g 11 true (.mv 14 1),.g 11 true (.call (some 15) 64 [14]),.g 11 true (.bin 16 .eql 13 15),.pick 17 11 16 (kB false),.asg 4 17]) .ret)))
theorem bAi:bQ Tryz.prog 44=some (bOs,[.mv 0 4],18):=by kernel_rfl
def bTd (p0:aU) (r:Bool):Exit→St→Prop:=bM [.mv 0 4] fun x b=>x=(fun (y:Bool)=>(vB y)) r∧bI ((fun (y:Bool)=>[(1000000,bV p0)]) r) b
def bP2:AC:=(.seq (.ops [.asg 2 (.c (.d (.s (bs []))))]) (.seq (.seq (.ops [.mv 3 0,.call (some 4) 88 [3,(kI 1),(kI 28)],.not 5 4]) (.cond 5 (.seq (.ops [.asg 2 (.c (.d (.s (bs []))))]) .ret) .skip)) (.seq (.ops [.call (some 6) 85 [],.mv 7 0,.ia 8 1 6 7,.ld 9 1 false 8,.asg 2 9]) .ret)))
theorem bNq:bQ Tryz.prog 64=some (bP2,[.mv 0 2],10):=by kernel_rfl
def bV4 (r:List UInt8):Exit→St→Prop:=bM [.mv 0 2] fun x _=>x=(fun y=>(vS y)) r
def aKz:AC:=(.seq (.ops [.ld 61 10 true 3,.st 10 2 61]) .ret)
def bKk:AC:=(.seq (.ops [.alc 2 fO]) (.seq (.ops [.mv 8 0,.call (some 9) 49 [8,(kI 5)],.alc 3 fO,.st 10 3 9]) (.seq (.ops [.mv 10 0,.call (some 11) 80 [10,(kI 4)],.asg 4 11]) (.seq (.seq (.ops [.mv 12 4,.bin 13 .gtr 12 (kI 0)]) (.cond 13 (.seq (.ops [.mv 14 0,.call (some 15) 43 [14,(kB true)]]) (.seq (.dops [[],[],[],[2],[1,3],[0,4],[5,3,0,1,2,3,4,5]] [.mv 16 4,.ld 17 10 true 3,.mv 18 0,.call (some 19) 49 [18,(kI 5)],.bsl 20 57 10 [17,19],.bld 21 [aR,aR,eH,aR,aR,aY,aY,aY,(.nil 10),(.nil 6)] [(0,1,(kI 4)),(1,1,16),(8,1,20)],.st 10 2 21]) .ret)) .skip)) (.seq (.seq (.ops [.mv 22 0,.call (some 23) 45 [22,(kI 16)]]) (.cond 23 (.seq (.ops [.mv 24 0,.call (some 25) 45 [24,(kI 15)],.asg 5 25]) (.seq (.ops [.mv 26 0,.mv 27 0,.call (some 28) 44 [27,(kI 20)],.call (some 29) 43 [26,28]]) (.seq (.ops [.mv 30 5,.ld 31 10 true 3,.bsl 32 57 10 [31],.bld 33 [aR,aR,eH,aR,aR,aY,aY,aY,(.nil 10),(.nil 6)] [(0,1,(kI 5)),(2,1,30),(8,1,32)],.st 10 2 33]) .ret))) .skip)) (.seq (.ops [.mv 34 0,.call (some 35) 45 [34,(kI 15)],.asg 6 35]) (.seq (.seq (.ops [.mv 36 0,.call (some 37) 45 [36,(kI 18)]]) (.cond 37 (.seq (.ops [.mv 38 0,.call (some 39) 49 [38,(kI 5)],.alc 7 fO,.st 10 7 39]) (.seq (.ops [.mv 40 0,.mv 41 0,.call (some 42) 44 [41,(kI 13)],.call (some 43) 43 [40,42]]) (.seq (.dops [[],[],[],[],[3],[1,2,4],[0,5],[6,4,0,1,2,3,4,5,6]] [.mv 44 6,.ld 45 10 true 3,.ld 46 10 true 7,.mv 47 0,.call (some 48) 49 [47,(kI 5)],.bsl 49 57 10 [45,46,48],.bld 50 [aR,aR,eH,aR,aR,aY,aY,aY,(.nil 10),(.nil 6)] [(0,1,(kI 6)),(2,1,44),(8,1,49)],.st 10 2 50]) .ret))) .skip)) (.seq (.seq (.ops [.mv 51 0,.call (some 52) 45 [51,(kI 17)]]) (.cond 52 (.seq (.ops [.mv 53 0,.ld 54 10 true 3,.mv 55 6,.call (some 56) 95 [53,54,55],.st 10 2 56]) .ret) .skip)) (.seq (.seq (.ops [.mv 57 6]) (.cond 57 (.ops [.mv 58 0,.nck 59 58,.fa 60 2 59,.st 1 60 (kB true)]) .skip)) aKz)))))))))
theorem bRe:bQ Tryz.prog 78=some (bKk,[.ld 0 10 true 2],62):=by kernel_rfl
def bJp (r:aA×aU):Exit→St→Prop:=bM [.ld 0 10 true 2] fun x b=>x=(fun (y:aA×aU)=>(bX y.1)) r∧bI ((fun (y:aA×aU)=>[(1000000,bV y.2)]) r) b
def bOc (y1:aA×aU) (y15:Bool×aU) (bF:Bool):St:=⟨[(2,(.ptr 2 0)),(3,(.ptr 3 0))],[(2,[(vI 0),(vI 0),(vB false),(vI 0),(vI 0),(vS []),(vS []),(vS []),(.nil 10),(.nil 6)]),(3,fM y1.1),(1000000,bV (aU.mk y15.2.t y15.2.at_ bF))]⟩
abbrev aX7:=fun y1 y15 bF r=>avc Tryz.prog aKz (bJp r) (bOc y1 y15 bF)
def aJe:AC:=(.loop (.seq (.seq (.ops [.mv 31 0,.call (some 32) 47 [31,(.c (.d (.s (bs [44]))))]]) (.cond 32 .skip (.exit 0))) (.block 1 (.seq (.ops [.mv 33 0,.call (some 34) 43 [33,(kB true)]]) (.ops [.mv 35 8,.mv 36 0,.call (some 37) 49 [36,(kI 1)],.bsl 38 57 10 [37],.app 39 57 10 136 35 38,.asg 8 39])))))
def aVn:AC:=(.seq (.ops [.mv 40 0,.mv 41 0,.call (some 42) 47 [41,(.c (.d (.s (bs [41]))))],.call (some 43) 43 [40,42]]) (.seq (.ops [.mv 44 2,.mv 45 8,.bld 46 [aR,aR,eH,aR,aR,aY,aY,aY,(.nil 10),(.nil 6)] [(0,1,(kI 7)),(2,1,44),(8,1,45)],.st 10 6 46]) .ret))
def bLt:AC:=(.seq (.ops [.box 4 57 1,.alc 6 fO]) (.seq (.ops [.mv 9 0,.mv 10 0,.call (some 11) 47 [10,(.c (.d (.s (bs [40]))))],.call (some 12) 43 [9,11]]) (.seq (.seq (.ops [.mv 13 0,.call (some 14) 44 [13,(kI 1)]]) (.cond 14 (.seq (.ops [.mv 15 0,.call (some 16) 19 [15],.alc 7 mF,.st 6 7 16]) (.seq (.ops [.mv 17 0,.mv 18 0,.call (some 19) 47 [18,(.c (.d (.s (bs [41]))))],.call (some 20) 43 [17,19]]) (.seq (.ops [.mv 21 2,.ld 22 10 true 4,.bsl 23 57 10 [22],.ld 24 6 true 7,.bsl 25 31 6 [24],.bld 26 [aR,aR,eH,aR,aR,aY,aY,aY,(.nil 10),(.nil 6)] [(0,1,(kI 8)),(2,1,21),(8,1,23),(9,1,25)],.st 10 6 26]) .ret))) .skip)) (.seq (.dops [[],[],[1],[0,2],[3,2,0,1,2,3]] [.ld 27 10 true 4,.mv 28 0,.call (some 29) 49 [28,(kI 1)],.bsl 30 57 10 [27,29],.asg 8 30]) (.seq (.block 0 aJe) aVn)))))
theorem bN6:bQ Tryz.prog 95=some (bLt,[.ld 0 10 true 6],47):=by kernel_rfl
def aU4 (r:aA×aU):Exit→St→Prop:=bM [.ld 0 10 true 6] fun x b=>x=(fun (y:aA×aU)=>(bX y.1)) r∧bI ((fun (y:aA×aU)=>[(1000000,bV y.2)]) r) b
def bSe (r:aA×aU):Exit→St→Prop:=(eT (wkK (avc Tryz.prog aVn (aU4 r))) (aU4 r))
def bCx (r:aA×aU):Exit→St→Prop:=(eY 0 (bSe r))
def bDs (p2:Bool) (x8:List aA) (bD:List aJ) (bC:Int) (bF:Bool):St:=⟨[(0,(.ptr 1000000 0)),(2,(vB p2)),(6,(.ptr 6 0)),(8,(.osl 8 57 10 (x8.map bN)))],[(6,[(vI 0),(vI 0),(vB false),(vI 0),(vI 0),(vS []),(vS []),(vS []),(.nil 10),(.nil 6)]),(1000000,bV (aU.mk bD bC bF))]⟩
abbrev aD7:=fun p2 x8 bD bC bF r=>avc Tryz.prog aJe (bCx r) (bDs p2 x8 bD bC bF)
def bPa:AC:=(.seq (.ops [.alc 2 [aY,aY,(.nil 10)]]) (.seq (.ops [.mv 4 0,.call (some 5) 53 [4,(kI 2)],.asg 3 5]) (.seq (.ops [.mv 6 3,.mv 7 0,.call (some 8) 77 [7],.bld 9 [aY,aY,(.nil 10)] [(0,1,6),(1,1,8)],.st 3 2 9]) .ret)))
theorem bKl:bQ Tryz.prog 48=some (bPa,[.ld 0 3 true 2],10):=by kernel_rfl
def bUb (r:bR×aU):Exit→St→Prop:=bM [.ld 0 3 true 2] fun x b=>x=(fun (y:bR×aU)=>(aDu y.1)) r∧bI ((fun (y:bR×aU)=>[(1000000,bV y.2)]) r) b
def bGe:AC:=(.seq (.ops [.asg 2 (.c (.d (.s (bs []))))]) (.seq (.seq (.ops [.mv 3 0,.call (some 4) 45 [3,(kI 12)]]) (.cond 4 (.seq (.ops [.mv 5 0,.call (some 6) 53 [5,(kI 2)],.asg 2 6]) .ret) .skip)) (.seq (.ops [.asg 2 (.c (.d (.s (bs []))))]) .ret)))
theorem bR2:bQ Tryz.prog 77=some (bGe,[.mv 0 2],7):=by kernel_rfl
def bW7 (r:(List UInt8)×aU):Exit→St→Prop:=bM [.mv 0 2] fun x b=>x=(fun (y:(List UInt8)×aU)=>(vS y.1)) r∧bI ((fun (y:(List UInt8)×aU)=>[(1000000,bV y.2)]) r) b
def bNr:AC:=(.seq (.ops [.alc 2 aGl]) (.seq (.ops [.mv 7 0,.call (some 8) 75 [7,(kI 1)],.alc 3 [aR,aY,aR],.st 3 3 8]) (.seq (.ops [.mv 9 0,.call (some 10) 75 [9,(kI 2)],.alc 4 [aR,aY,aR],.st 3 4 10]) (.seq (.seq (.ops [.mv 11 0,.call (some 12) 47 [11,(.c (.d (.s (bs [42]))))]]) (.cond 12 (.seq (.ops [.mv 13 0,.call (some 14) 43 [13,(kB true)]]) (.seq (.ops [.bld 15 [eH,aY,aR,aR,eH,aR,aR,aY,aY,aY,(.nil 10),(.nil 6),aY] [(0,1,(kB true))],.st 13 2 15]) .ret)) .skip)) (.seq (.seq (.ops [.mv 16 0,.call (some 17) 76 [16,(kI 2)],.mv 18 17,.g 18 true (.fa 19 0 3),.g 18 true (.ld 20 1 false 19),.g 18 true (.bin 21 .eql 20 (kI 5)),.pick 22 18 21 (kB false),.mv 23 22,.g 23 true (.fa 24 1 3),.g 23 true (.ld 25 1 false 24),.g 23 true (.bin 26 .eql 25 (.c (.d (.s (bs [46]))))),.pick 27 23 26 (kB false),.mv 28 27,.g 28 true (.fa 29 0 4),.g 28 true (.ld 30 1 false 29),.g 28 true (.bin 31 .eql 30 (kI 5)),.pick 32 28 31 (kB false),.mv 33 32,.g 33 true (.fa 34 1 4),.g 33 true (.ld 35 1 false 34),.g 33 true (.bin 36 .eql 35 (.c (.d (.s (bs [42]))))),.pick 37 33 36 (kB false)]) (.cond 37 (.seq (.ops [.mv 38 0,.call (some 39) 53 [38,(kI 2)],.bld 40 [eH,aY,aR,aR,eH,aR,aR,aY,aY,aY,(.nil 10),(.nil 6),aY] [(0,1,(kB true)),(1,1,39)],.alc 5 aGl,.st 13 5 40]) (.seq (.ops [.mv 41 0,.call (some 42) 43 [41,(kB true)]]) (.seq (.ops [.mv 43 0,.call (some 44) 43 [43,(kB true)]]) (.seq (.ops [.ld 45 13 true 5,.st 13 2 45]) .ret)))) .skip)) (.seq (.ops [.mv 46 0,.call (some 47) 49 [46,(kI 1)],.alc 6 fO,.st 10 6 47]) (.seq (.dops [[],[],[1],[0,2],[3,2,0,1,2,3]] [.ld 48 10 true 6,.mv 49 0,.call (some 50) 77 [49],.bld 51 [eH,aY,aR,aR,eH,aR,aR,aY,aY,aY,(.nil 10),(.nil 6),aY] [(2,10,48),(12,1,50)],.st 13 2 51]) .ret)))))))
theorem bH6:bQ Tryz.prog 46=some (bNr,[.ld 0 13 true 2],52):=by kernel_rfl
def bTj (r:bU×aU):Exit→St→Prop:=bM [.ld 0 13 true 2] fun x b=>x=(fun (y:bU×aU)=>(rO y.1)) r∧bI ((fun (y:bU×aU)=>[(1000000,bV y.2)]) r) b
def bDd:AC:=(.seq (.ops [.asg 2 (.c (.nil 10))]) (.seq (.seq (.ops [.mv 3 0,.call (some 4) 45 [3,(kI 6)]]) (.cond 4 (.seq (.ops [.mv 5 0,.call (some 6) 49 [5,(kI 1)],.bsl 7 57 10 [6],.asg 2 7]) .ret) .skip)) (.seq (.ops [.asg 2 (.c (.nil 10))]) .ret)))
theorem bNw:bQ Tryz.prog 50=some (bDd,[.mv 0 2],8):=by kernel_rfl
def bUp (r:(List aA)×aU):Exit→St→Prop:=bM [.mv 0 2] fun x b=>x=(fun (y:(List aA)×aU)=>(.osl 2000000 57 10 (y.1.map bN))) r∧bI ((fun (y:(List aA)×aU)=>[(1000000,bV y.2)]) r) b
def bMs:AC:=(.seq (.ops [.asg 2 (kI 0)]) (.seq (.seq (.dops [[],[0],[1],[2],[3],[4],[5],[6,5],[7,5],[8,5],[5],[10,5],[11,5],[12,5],[13,5],[9,14,5],[5,15]] [.mv 3 0,.nck 4 3,.fa 5 2 4,.ld 6 1 false 5,.not 7 6,.mv 8 7,.g 8 true (.mv 9 0),.g 8 true (.nck 10 9),.g 8 true (.fa 11 1 10),.g 8 true (.ld 12 1 false 11),.g 8 true (.mv 13 0),.g 8 true (.nck 14 13),.g 8 true (.fa 15 0 14),.g 8 true (.ld 16 1 false 15),.g 8 true (.len 17 16),.g 8 true (.bin 18 .eql 12 17),.pick 19 8 18 (kB false)]) (.cond 19 (.seq (.ops [.asg 2 (kI (-1))]) .ret) .skip)) (.seq (.ops [.mv 20 0,.nck 21 20,.fa 22 1 21,.ld 23 1 false 22,.asg 2 23]) .ret)))
theorem bR1:bQ Tryz.prog 20=some (bMs,[.mv 0 2],24):=by kernel_rfl
def bWv (p0:aU) (r:Int):Exit→St→Prop:=bM [.mv 0 2] fun x b=>x=(fun (y:Int)=>(vI y)) r∧bI ((fun (y:Int)=>[(1000000,bV p0)]) r) b
def bPg:AC:=(.seq (.ops [.asg 2 (kB false)]) (.seq (.ops [.mv 3 0,.len 4 3,.bin 5 .gtr 4 (kI 1048576),.asg 2 5]) .ret))
theorem bJt:bQ Tryz.prog 4=some (bPg,[.mv 0 2],6):=by kernel_rfl
def bVn (r:Bool):Exit→St→Prop:=bM [.mv 0 2] fun x _=>x=(fun y=>(vB y)) r
def bJj:AC:=(.seq (.ops [.asg 2 (.c (.nil 1))]) (.seq (.seq (.ops [.mv 3 0,.len 4 3,.bin 5 .eql 4 (kI 0)]) (.cond 5 (.seq (.ops [.mv 6 0,.asg 2 6]) .ret) .skip)) (.seq (.ops [.mv 7 0,.slc 8 1 7 (some (kI 1)) none none,.asg 2 8]) .ret)))
theorem bFe:bQ Tryz.prog 9=some (bJj,[.mv 0 2],9):=by kernel_rfl
def bW6 (r:List Int):Exit→St→Prop:=bM [.mv 0 2] fun x _=>x=(fun y=>(nT y)) r
def bEt:AC:=(.seq (.ops [.asg 2 (.c (.nil 3))]) (.seq (.ops [.mv 5 0,.call (some 6) 10 [5],.asg 3 6]) (.seq (.ops [.mv 7 3,.mv 8 3,.mv 9 0,.call (some 10) 13 [9,(kI 4)],.call (some 11) 12 [8,10],.call (some 12) 11 [7,11],.alc 4 mF,.st 6 4 12]) (.seq (.dops [[],[],[],[],[3],[1,2,4,4],[0,5,5],[6,6,0,1,2,3,4,5,6]] [.mv 13 3,.bsl 14 77 3 [],.ld 15 6 true 4,.mv 16 3,.call (some 17) 16 [16,(kI 6)],.call (some 18) 15 [14,15,17],.call (some 19) 14 [13,18],.asg 2 19]) .ret))))
theorem bDf:bQ Tryz.prog 5=some (bEt,[.mv 0 2],20):=by kernel_rfl
def bU7 (r:List aJ):Exit→St→Prop:=bM [.mv 0 2] fun x _=>x=(fun y=>(jF y)) r
def bNp:AC:=(.seq (.ops [.alc 2 [aR,aY,aR]]) (.seq (.ops [.mv 3 0,.call (some 4) 64 [3],.bld 5 [aR,aY,aR] [(0,1,(kI 1)),(1,1,4)],.st 3 2 5]) .ret))
theorem bGv:bQ Tryz.prog 29=some (bNp,[.ld 0 3 true 2],6):=by kernel_rfl
def bVj (r:aJ):Exit→St→Prop:=bM [.ld 0 3 true 2] fun x _=>x=(fun y=>(kP y)) r
def aJm:AC:=(.seq (.ops [.mv 64 5,.asg 4 64]) .ret)
def aZ5:AC:=(.seq (.ops [.asg 4 (.c (.nil 3))]) (.seq (.ops [.bsl 7 77 3 [],.mv 8 1,.app 9 77 3 32 7 8,.asg 5 9]) (.seq (.ops [.mv 10 0,.mv 11 5,.len 12 11,.bin 13 .add 12 (kI 1),.call (some 14) 12 [10,13],.asg 6 14]) (.seq (.seq (.ops [.mv 15 0,.call (some 16) 12 [15,(kI 7)]]) (.block 0 (.seq (.ops [.bin 18 .eql 16 (kI 0),.asg 17 18]) (.cond 17 (.seq (.ops [.mv 19 5,.mv 20 6,.slc 21 3 19 none (some 20) none,.asg 4 21]) .ret) (.seq (.ops [.bin 23 .eql 16 (kI 1),.asg 22 23]) (.cond 22 (.dops [[],[],[],[1,2],[0,3],[],[5,4],[6],[4,7,6],[],[],[9,10],[8,11,8],[12,12,0,1,2,3,4,5,6,7,8,9,10,11,12]] [.bsl 24 77 3 [],.mv 25 1,.mv 26 6,.slc 27 3 25 none (some 26) none,.app 28 77 3 32 24 27,.mv 29 0,.call (some 30) 28 [29],.bsl 31 77 3 [30],.app 32 77 3 32 28 31,.mv 33 1,.mv 34 6,.slc 35 3 33 (some 34) none none,.app 36 77 3 32 32 35,.asg 5 36]) (.seq (.ops [.bin 38 .eql 16 (kI 2),.asg 37 38]) (.cond 37 (.seq (.ops [.mv 39 6,.mv 40 5,.len 41 40,.bin 42 .lss 39 41]) (.cond 42 (.dops [[],[],[],[1,2],[0,3],[],[],[6],[5,7],[4,8,4],[9,9,0,1,2,3,4,5,6,7,8,9]] [.bsl 43 77 3 [],.mv 44 1,.mv 45 6,.slc 46 3 44 none (some 45) none,.app 47 77 3 32 43 46,.mv 48 1,.mv 49 6,.bin 50 .add 49 (kI 1),.slc 51 3 48 (some 50) none none,.app 52 77 3 32 47 51,.asg 5 52]) .skip)) (.seq (.ops [.bin 54 .eql 16 (kI 3),.asg 53 54]) (.cond 53 (.seq (.ops [.mv 55 6,.mv 56 5,.len 57 56,.bin 58 .lss 55 57]) (.cond 58 (.ops [.mv 59 5,.mv 60 6,.mv 61 0,.call (some 62) 28 [61],.ia 63 3 59 60,.st 3 63 62]) .skip)) .skip)))))))))) aJm))))
theorem bE8:bQ Tryz.prog 14=some (aZ5,[.mv 0 4],65):=by kernel_rfl
def bK7 (r:(List aJ)×aQ):Exit→St→Prop:=bM [.mv 0 4] fun x b=>x=(fun (y:(List aJ)×aQ)=>(jF y.1)) r∧bI ((fun (y:(List aJ)×aQ)=>[(1000000,dC y.2)]) r) b
def bT5 (bD:List Int) (bC:Int) (bF:Int) (vF:List aJ):St:=⟨[(5,(.tre 60101000))],[(1000000,dC (aQ.mk bD bC bF)),(60101000,[(.trc 3 (vF.map aV))])]⟩
abbrev aSc:=fun bD bC bF vF r=>avc Tryz.prog aJm (bK7 r) (bT5 bD bC bF vF)
def aLy:AC:=(.seq (.ops [.ld 24 3 true 3,.st 3 2 24]) .ret)
def bD2:AC:=(.seq (.ops [.alc 2 [aR,aY,aR]]) (.seq (.ops [.mv 4 0,.call (some 5) 62 [4],.alc 3 [aR,aY,aR],.st 3 3 5]) (.seq (.seq (.ops [.mv 6 0,.call (some 7) 12 [6,(kI 10)]]) (.block 0 (.seq (.ops [.bin 9 .eql 7 (kI 0),.asg 8 9]) (.cond 8 (.ops [.mv 10 0,.call (some 11) 12 [10,(kI 7)],.fa 12 0 3,.st 1 12 11]) (.seq (.ops [.bin 14 .eql 7 (kI 1),.asg 13 14]) (.cond 13 (.ops [.mv 15 0,.bsl 16 9 1 [(.c (.d (.s (bs [])))),(.c (.d (.s (bs [115,101,108,101,99,116])))),(.c (.d (.s (bs [83,69,76,69,67,84,83])))),(.c (.d (.s (bs [48,49])))),(.c (.d (.s (bs [57,50,50,51,51,55,50,48,51,54,56,53,52,55,55,53,56,48,56])))),(.c (.d (.s (bs [61,62])))),(.c (.d (.s (bs [124])))),(.c (.d (.s (bs [97,98,99,100,101,102,103,104,105,106,107,108,109,110,111,112,113,114,115,116,117])))),(.c (.d (.s (bs [49,50,51,52,53,54,55,56,57,48,49,50,51,52,53,54,55,56,57,48,49,50,51,52,53,54,55,56,57,48,49,50,51,52,53,54,55,56,57,48,49]))))],.call (some 17) 23 [15,16],.fa 18 1 3,.st 1 18 17]) (.seq (.ops [.bin 20 .eql 7 (kI 2),.asg 19 20]) (.cond 19 (.ops [.mv 21 0,.call (some 22) 63 [21],.fa 23 2 3,.st 1 23 22]) .skip)))))))) aLy)))
theorem aZ0:bQ Tryz.prog 28=some (bD2,[.ld 0 3 true 2],25):=by kernel_rfl
def bA2 (r:aJ×aQ):Exit→St→Prop:=bM [.ld 0 3 true 2] fun x b=>x=(fun (y:aJ×aQ)=>(kP y.1)) r∧bI ((fun (y:aJ×aQ)=>[(1000000,dC y.2)]) r) b
def bHs (wI:Int) (bG:List UInt8) (dZ:Int) (bD:List Int) (bC:Int) (bF:Int):St:=⟨[(2,(.ptr 2 0)),(3,(.ptr 3 0))],[(2,[(vI 0),(vS []),(vI 0)]),(3,bC1 (aJ.mk wI bG dZ)),(1000000,dC (aQ.mk bD bC bF))]⟩
abbrev aRu:=fun wI bG dZ bD bC bF r=>avc Tryz.prog aLy (bA2 r) (bHs wI bG dZ bD bC bF)
def bFv:AC:=(.seq (.ops [.alc 2 [aR,aY,aR]]) (.seq (.seq (.ops [.mv 3 0,.call (some 4) 12 [3,(kI 6)]]) (.block 0 (.seq (.ops [.bin 6 .eql 4 (kI 0),.asg 5 6]) (.cond 5 (.seq (.ops [.call (some 7) 85 [],.mv 8 0,.call (some 9) 12 [8,(kI 28)],.bin 10 .add (kI 1) 9,.ia 11 1 7 10,.ld 12 1 false 11,.bld 13 [aR,aY,aR] [(0,1,(kI 1)),(1,1,12)],.st 3 2 13]) .ret) (.seq (.ops [.bin 15 .eql 4 (kI 1),.asg 14 15]) (.cond 14 (.seq (.ops [.mv 16 0,.call (some 17) 25 [16],.bld 18 [aR,aY,aR] [(0,1,(kI 2)),(1,1,17)],.st 3 2 18]) .ret) (.seq (.ops [.bin 20 .eql 4 (kI 2),.asg 19 20]) (.cond 19 (.seq (.ops [.mv 21 0,.call (some 22) 63 [21],.call (some 23) 86 [(kI 0),22],.call (some 24) 34 [23],.bld 25 [aR,aY,aR] [(0,1,(kI 3)),(1,1,24)],.st 3 2 25]) .ret) (.seq (.ops [.bin 27 .eql 4 (kI 3),.asg 26 27]) (.cond 26 (.seq (.ops [.mv 28 0,.bsl 29 9 1 [(.c (.d (.s (bs [])))),(.c (.d (.s (bs [120])))),(.c (.d (.s (bs [105,116,39,115])))),(.c (.d (.s (bs [39,39])))),(.c (.d (.s (bs [116,119,111,32,119,111,114,100,115])))),(.c (.d (.s (bs [34])))),(.c (.d (.s (bs [45,45])))),(.c (.d (.s (bs [0,255]))))],.call (some 30) 23 [28,29],.bld 31 [aR,aY,aR] [(0,1,(kI 4)),(1,1,30)],.st 3 2 31]) .ret) .skip)))))))))) (.seq (.ops [.mv 32 0,.call (some 33) 87 [32],.bld 34 [aR,aY,aR] [(0,1,(kI 5)),(1,1,33)],.st 3 2 34]) .ret)))
theorem bG6:bQ Tryz.prog 62=some (bFv,[.ld 0 3 true 2],35):=by kernel_rfl
def bWd (r:aJ×aQ):Exit→St→Prop:=bM [.ld 0 3 true 2] fun x b=>x=(fun (y:aJ×aQ)=>(kP y.1)) r∧bI ((fun (y:aJ×aQ)=>[(1000000,dC y.2)]) r) b
def bPl:AC:=(.seq (.ops [.asg 4 (kI 0)]) (.seq (.seq (.ops [.mv 5 0,.mv 6 1,.bin 7 .gtr 5 6]) (.cond 7 (.seq (.ops [.mv 8 0,.asg 4 8]) .ret) .skip)) (.seq (.ops [.mv 9 1,.asg 4 9]) .ret)))
theorem bI8:bQ Tryz.prog 86=some (bPl,[.mv 0 4],10):=by kernel_rfl
def bW4 (r:Int):Exit→St→Prop:=bM [.mv 0 4] fun x _=>x=(fun y=>(vI y)) r
def bRa:AC:=(.seq (.ops [.asg 2 (.c (.d (.s (bs []))))]) (.seq (.ops [.mv 3 0,.bsl 4 9 1 [(.c (.d (.s (bs [40])))),(.c (.d (.s (bs [41])))),(.c (.d (.s (bs [44])))),(.c (.d (.s (bs [46])))),(.c (.d (.s (bs [42])))),(.c (.d (.s (bs [43])))),(.c (.d (.s (bs [45])))),(.c (.d (.s (bs [47])))),(.c (.d (.s (bs [37])))),(.c (.d (.s (bs [61])))),(.c (.d (.s (bs [60,62])))),(.c (.d (.s (bs [60])))),(.c (.d (.s (bs [60,61])))),(.c (.d (.s (bs [62])))),(.c (.d (.s (bs [62,61])))),(.c (.d (.s (bs [124,124]))))],.call (some 5) 23 [3,4],.asg 2 5]) .ret))
theorem aYq:bQ Tryz.prog 87=some (bRa,[.mv 0 2],6):=by kernel_rfl
def bTb (r:(List UInt8)×aQ):Exit→St→Prop:=bM [.mv 0 2] fun x b=>x=(fun (y:(List UInt8)×aQ)=>(vS y.1)) r∧bI ((fun (y:(List UInt8)×aQ)=>[(1000000,dC y.2)]) r) b
def bCy:AC:=(.seq (.ops [.asg 2 (.c (.nil 3))]) (.seq (.ops [.mv 6 0,.call (some 7) 21 [6],.mv 5 7,.ext 8 5 0,.ext 9 5 1,.alc 4 fO,.asg 3 8,.st 10 4 9]) (.seq (.dops [[],[],[],[],[3],[1,2,4,4],[0,5,5],[6,6,0,1,2,3,4,5,6]] [.mv 10 3,.bsl 11 77 3 [],.ld 12 10 true 4,.mv 13 3,.call (some 14) 16 [13,(kI 6)],.call (some 15) 22 [11,12,14],.call (some 16) 14 [10,15],.asg 2 16]) .ret)))
theorem aZc:bQ Tryz.prog 8=some (bCy,[.mv 0 2],17):=by kernel_rfl
def bVb (r:List aJ):Exit→St→Prop:=bM [.mv 0 2] fun x _=>x=(fun y=>(jF y)) r
def bKe:AC:=(.seq (.ops [.box 1 54 0,.alc 2 [aR,aY,aR]]) (.seq (.seq (.ops [.fa 3 0 1,.ld 4 1 false 3]) (.block 0 (.seq (.ops [.bin 6 .eql 4 (kI 1),.asg 5 6]) (.cond 5 (.seq (.ops [.fa 7 1 1,.ld 8 1 false 7,.call (some 9) 34 [8],.bld 10 [aR,aY,aR] [(0,1,(kI 3)),(1,1,9)],.st 3 2 10]) .ret) (.seq (.ops [.bin 12 .eql 4 (kI 2),.asg 11 12]) (.cond 11 (.seq (.ops [.fa 13 2 1,.ld 14 1 false 13,.bld 15 [aR,aY,aR] [(0,1,(kI 4)),(1,1,14)],.st 3 2 15]) .ret) (.seq (.ops [.bin 17 .eql 4 (kI 3),.asg 16 17]) (.cond 16 (.seq (.seq (.ops [.fa 18 1 1,.ld 19 1 false 18,.bin 20 .eql 19 (kI 1)]) (.cond 20 (.seq (.ops [.call (some 21) 29 [(kI 21)],.st 3 2 21]) .ret) .skip)) (.seq (.ops [.call (some 22) 29 [(kI 22)],.st 3 2 22]) .ret)) .skip)))))))) (.seq (.ops [.call (some 23) 29 [(kI 20)],.st 3 2 23]) .ret)))
theorem bH3:bQ Tryz.prog 54=some (bKe,[.ld 0 3 true 2],24):=by kernel_rfl
def bUt (r:aJ):Exit→St→Prop:=bM [.ld 0 3 true 2] fun x _=>x=(fun y=>(kP y)) r
def aJ6:AC:=(.ops [.mv 32 0,.fa 33 1 4,.ld 34 1 false 33,.mv 35 7,.ia 36 13 34 35,.ld 37 13 true 36,.mv 38 2,.call (some 39) 31 [32,37,38],.asg 0 39])
def aVy:AC:=(.ops [.mv 24 7,.bin 25 .add 24 (kI 1),.asg 7 25])
def aGg:AC:=(.loop (.seq (.seq (.ops [.mv 19 7,.fa 20 1 4,.ld 21 1 false 20,.len 22 21,.bin 23 .lss 19 22]) (.cond 23 .skip (.exit 0))) (.seq (.block 1 (.seq (.seq (.ops [.mv 26 7,.bin 27 .gtr 26 (kI 0)]) (.cond 27 (.ops [.mv 28 0,.call (some 29) 30 [(.c (.d (.s (bs [44]))))],.bsl 30 77 3 [29],.app 31 77 3 32 28 30,.asg 0 31]) .skip)) aJ6)) aVy)))
def aNh:AC:=(.seq (.ops [.mv 71 0,.fa 72 4 4,.ld 73 1 false 72,.mv 74 8,.ia 75 11 73 74,.fa 76 0 75,.ld 77 10 true 76,.mv 78 2,.call (some 79) 22 [71,77,78],.asg 0 79]) (.seq (.ops [.fa 80 4 4,.ld 81 1 false 80,.mv 82 8,.ia 83 11 81 82,.fa 84 10 83,.ld 85 1 false 84]) (.cond 85 (.ops [.mv 86 0,.call (some 87) 29 [(kI 10)],.bsl 88 77 3 [87],.app 89 77 3 32 86 88,.asg 0 89]) .skip)))
def aHe:AC:=(.ops [.mv 58 8,.bin 59 .add 58 (kI 1),.asg 8 59])
def aHb:AC:=(.loop (.seq (.seq (.ops [.mv 53 8,.fa 54 4 4,.ld 55 1 false 54,.len 56 55,.bin 57 .lss 53 56]) (.cond 57 .skip (.exit 2))) (.seq (.block 3 (.seq (.seq (.ops [.mv 60 8,.bin 61 .eql 60 (kI 0)]) (.cond 61 (.ops [.mv 62 0,.call (some 63) 29 [(kI 7)],.call (some 64) 29 [(kI 8)],.bsl 65 77 3 [63,64],.app 66 77 3 32 62 65,.asg 0 66]) (.ops [.mv 67 0,.call (some 68) 30 [(.c (.d (.s (bs [44]))))],.bsl 69 77 3 [68],.app 70 77 3 32 67 69,.asg 0 70]))) aNh)) aHe)))
def aKa:AC:=(.seq (.ops [.mv 101 0,.asg 6 101]) .ret)
def aVg:AC:=(.seq (.seq (.ops [.fa 90 5 4,.ld 91 1 false 90,.bin 92 .geq 91 (kI 0)]) (.cond 92 (.dops [[],[],[],[2],[3,1],[4],[1,5],[0,6,4],[7,7,0,1,2,3,4,5,6,7]] [.mv 93 0,.call (some 94) 29 [(kI 11)],.fa 95 5 4,.ld 96 1 false 95,.call (some 97) 34 [96],.bld 98 [aR,aY,aR] [(0,1,(kI 3)),(1,1,97)],.bsl 99 77 3 [94,98],.app 100 77 3 32 93 99,.asg 0 100]) .skip)) aKa)
def aUn:AC:=(.seq (.dops [[],[],[1],[0,2,1],[],[4],[],[3,5,6,3],[7,7,0,1,2,3,4,5,6,7]] [.mv 40 0,.call (some 41) 29 [(kI 3)],.bsl 42 77 3 [41],.app 43 77 3 32 40 42,.fa 44 2 4,.ld 45 1 false 44,.mv 46 2,.call (some 47) 32 [43,45,46],.asg 0 47]) (.seq (.ops [.mv 48 0,.fa 49 3 4,.ld 50 1 false 49,.mv 51 2,.call (some 52) 33 [48,50,51],.asg 0 52]) (.seq (.seq (.ops [.asg 8 (kI 0)]) (.block 2 aHb)) aVg)))
def aNr:AC:=(.seq (.seq (.ops [.asg 7 (kI 0)]) (.block 0 aGg)) aUn)
def bJe:AC:=(.seq (.ops [.box 4 31 1,.asg 6 (.c (.nil 3))]) (.seq (.ops [.mv 9 0,.call (some 10) 29 [(kI 1)],.bsl 11 77 3 [10],.app 12 77 3 32 9 11,.asg 0 12]) (.seq (.seq (.ops [.fa 13 0 4,.ld 14 1 false 13]) (.cond 14 (.ops [.mv 15 0,.call (some 16) 29 [(kI 2)],.bsl 17 77 3 [16],.app 18 77 3 32 15 17,.asg 0 18]) .skip)) aNr)))
theorem bIh:bQ Tryz.prog 15=some (bJe,[.mv 0 6],102):=by kernel_rfl
def Q3 (r:List aJ):Exit→St→Prop:=bM [.mv 0 6] fun x b=>x=(fun (y:List aJ)=>(.osl 2000000 77 3 (y.map aV))) r∧bI ((fun (y:List aJ)=>[]) r) b
def bL0 (r:List aJ):Exit→St→Prop:=(eT (wkK (avc Tryz.prog aUn (Q3 r))) (Q3 r))
def aM8 (r:List aJ):Exit→St→Prop:=(eY 0 (bL0 r))
def aR6 (r:List aJ):Exit→St→Prop:=(eT (avc Tryz.prog aGg (aM8 r)) (aM8 r))
def bDt (r:List aJ):Exit→St→Prop:=(eT (wkK (avc Tryz.prog aVy (aR6 r))) (aR6 r))
def bSl (r:List aJ):Exit→St→Prop:=(eY 1 (bDt r))
def bM1 (r:List aJ):Exit→St→Prop:=(eT (wkK (avc Tryz.prog aVg (Q3 r))) (Q3 r))
def aNx (r:List aJ):Exit→St→Prop:=(eY 2 (bM1 r))
def aNe (r:List aJ):Exit→St→Prop:=(eT (avc Tryz.prog aHb (aNx r)) (aNx r))
def bQd (r:List aJ):Exit→St→Prop:=(eT (wkK (avc Tryz.prog aHe (aNe r))) (aNe r))
def bMy (r:List aJ):Exit→St→Prop:=(eY 3 (bQd r))
def bGf (p2:Bool) (p1:aX) (x0:List aJ):St:=⟨[(0,(.osl 0 77 3 (x0.map aV))),(2,(vB p2)),(4,(.ptr 4 0))],[(4,wF p1)]⟩
abbrev aG2:=fun p2 p1 x0 r=>avc Tryz.prog aNr (Q3 r) (bGf p2 p1 x0)
def bBy (p2:Bool) (p1:aX) (gN:List aJ) (x7:Int):St:=⟨[(0,(.osl 0 77 3 (gN.map aV))),(2,(vB p2)),(4,(.ptr 4 0)),(7,(vI x7))],[(4,wF p1)]⟩
abbrev aG3:=fun p2 p1 gN x7 r=>avc Tryz.prog aGg (aM8 r) (bBy p2 p1 gN x7)
def aYb (p2:Bool) (x7:Int) (p1:aX) (oZ:List aJ):St:=⟨[(0,(.osl 0 77 3 (oZ.map aV))),(2,(vB p2)),(4,(.ptr 4 0)),(7,(vI x7))],[(4,wF p1)]⟩
abbrev aHg:=fun p2 x7 p1 oZ r=>avc Tryz.prog aJ6 (bSl r) (aYb p2 x7 p1 oZ)
def bQy (p2:Bool) (p1:aX) (mK:List aJ) (x8:Int):St:=⟨[(0,(.osl 0 77 3 (mK.map aV))),(2,(vB p2)),(4,(.ptr 4 0)),(8,(vI x8))],[(4,wF p1)]⟩
abbrev aHv:=fun p2 p1 mK x8 r=>avc Tryz.prog aHb (aNx r) (bQy p2 p1 mK x8)
def bK9 (p2:Bool) (x8:Int) (p1:aX) (oO:List aJ):St:=⟨[(0,(.osl 0 77 3 (oO.map aV))),(2,(vB p2)),(4,(.ptr 4 0)),(8,(vI x8))],[(4,wF p1)]⟩
abbrev aGr:=fun p2 x8 p1 oO r=>avc Tryz.prog aNh (bMy r) (bK9 p2 x8 p1 oO)
def bNn (uF:List aJ):St:=⟨[(0,(.osl 0 77 3 (uF.map aV)))],[]⟩
abbrev aUd:=fun uF r=>avc Tryz.prog aKa (Q3 r) (bNn uF)
def bQh (p2:Bool) (x8:Int) (p1:aX) (pG:List aJ):St:=⟨[(0,(.osl 0 77 3 (pG.map aV))),(2,(vB p2)),(4,(.ptr 4 0)),(8,(vI x8))],[(4,wF p1)]⟩
abbrev aFa:=fun p2 x8 p1 pG r=>avc Tryz.prog aHe (aNe r) (bQh p2 x8 p1 pG)
def bQl:AC:=(.seq (.ops [.alc 2 [aR,aY,aR]]) (.seq (.ops [.mv 3 0,.bld 4 [aR,aY,aR] [(0,1,(kI 2)),(1,1,3)],.st 3 2 4]) .ret))
theorem bRv:bQ Tryz.prog 55=some (bQl,[.ld 0 3 true 2],5):=by kernel_rfl
def bWe (r:aJ):Exit→St→Prop:=bM [.ld 0 3 true 2] fun x _=>x=(fun y=>(kP y)) r
def aMw:AC:=(.seq (.ops [.mv 30 0,.fa 31 7 4,.ld 32 1 false 31,.call (some 33) 55 [32],.bsl 34 77 3 [33],.app 35 77 3 32 30 34,.asg 6 35]) .ret)
def aNi:AC:=(.ops [.mv 143 0,.ld 144 10 true 4,.mv 145 7,.mv 146 2,.call (some 147) 56 [143,144,145,146],.asg 0 147])
def aRy:AC:=(.ops [.mv 135 7,.bin 136 .add 135 (kI 1),.asg 7 136])
def aHx:AC:=(.loop (.seq (.seq (.ops [.mv 130 7,.fa 131 8 4,.ld 132 1 false 131,.len 133 132,.bin 134 .lss 130 133]) (.cond 134 .skip (.exit 2))) (.seq (.block 3 (.seq (.seq (.ops [.mv 137 7,.bin 138 .gtr 137 (kI 1)]) (.cond 138 (.ops [.mv 139 0,.call (some 140) 30 [(.c (.d (.s (bs [44]))))],.bsl 141 77 3 [140],.app 142 77 3 32 139 141,.asg 0 142]) .skip)) aNi)) aRy)))
def aU9:AC:=(.seq (.ops [.mv 148 0,.call (some 149) 30 [(.c (.d (.s (bs [41]))))],.bsl 150 77 3 [149],.app 151 77 3 32 148 150,.asg 6 151]) .ret)
def aU5:AC:=(.seq (.ops [.mv 64 0,.ld 65 10 true 4,.mv 66 2,.call (some 67) 56 [64,65,(kI 0),66],.asg 0 67]) (.seq (.seq (.ops [.fa 68 0 4,.ld 69 1 false 68]) (.block 1 (.seq (.ops [.bin 71 .eql 69 (kI 4),.asg 70 71]) (.cond 70 (.seq (.dops [[],[],[1],[2],[3],[0,4,3],[],[],[5,6,7,5],[8,8,0,1,2,3,4,5,6,7,8]] [.mv 72 0,.fa 73 1 4,.ld 74 1 false 73,.call (some 75) 57 [74],.bsl 76 77 3 [75],.app 77 77 3 32 72 76,.ld 78 10 true 4,.mv 79 2,.call (some 80) 56 [77,78,(kI 1),79],.asg 6 80]) .ret) (.seq (.ops [.bin 82 .eql 69 (kI 5),.asg 81 82]) (.cond 81 (.seq (.dops [[],[],[1],[0,2,1],[],[3,4,3],[5],[6],[5,7,6],[8,8,0,1,2,3,4,5,6,7,8]] [.mv 83 0,.call (some 84) 29 [(kI 16)],.bsl 85 77 3 [84],.app 86 77 3 32 83 85,.ld 87 10 true 4,.call (some 88) 58 [86,87],.call (some 89) 29 [(kI 20)],.bsl 90 77 3 [89],.app 91 77 3 32 88 90,.asg 6 91]) .ret) (.seq (.ops [.bin 93 .eql 69 (kI 6),.asg 92 93]) (.cond 92 (.seq (.dops [[],[],[0,1],[2],[3],[2,4,3],[],[],[5,6,7,5],[8,8,0,1,2,3,4,5,6,7,8]] [.mv 94 0,.ld 95 10 true 4,.call (some 96) 58 [94,95],.call (some 97) 29 [(kI 18)],.bsl 98 77 3 [97],.app 99 77 3 32 96 98,.ld 100 10 true 4,.mv 101 2,.call (some 102) 56 [99,100,(kI 1),101],.asg 0 102]) (.seq (.dops [[],[],[1],[0,2,1],[],[],[3,4,5,3],[6,6,0,1,2,3,4,5,6]] [.mv 103 0,.call (some 104) 29 [(kI 13)],.bsl 105 77 3 [104],.app 106 77 3 32 103 105,.ld 107 10 true 4,.mv 108 2,.call (some 109) 56 [106,107,(kI 2),108],.asg 6 109]) .ret)) .skip)))))))) (.seq (.ops [.mv 110 0,.ld 111 10 true 4,.call (some 112) 58 [110,111],.call (some 113) 29 [(kI 17)],.call (some 114) 30 [(.c (.d (.s (bs [40]))))],.bsl 115 77 3 [113,114],.app 116 77 3 32 112 115,.asg 0 116]) (.seq (.seq (.ops [.fa 117 0 4,.ld 118 1 false 117,.bin 119 .eql 118 (kI 8)]) (.cond 119 (.seq (.ops [.mv 120 0,.fa 121 9 4,.ld 122 1 false 121,.ia 123 6 122 (kI 0),.ld 124 6 true 123,.mv 125 2,.call (some 126) 15 [120,124,125],.call (some 127) 30 [(.c (.d (.s (bs [41]))))],.bsl 128 77 3 [127],.app 129 77 3 32 126 128,.asg 6 129]) .ret) .skip)) (.seq (.seq (.ops [.asg 7 (kI 1)]) (.block 2 aHx)) aU9)))))
def bAo:AC:=(.seq (.ops [.box 4 57 1,.asg 6 (.c (.nil 3))]) (.seq (.seq (.ops [.fa 8 0 4,.ld 9 1 false 8]) (.block 0 (.seq (.ops [.bin 11 .eql 9 (kI 1),.asg 10 11]) (.cond 10 (.seq (.ops [.mv 12 0,.fa 13 3 4,.ld 14 3 true 13,.call (some 15) 54 [14],.bsl 16 77 3 [15],.app 17 77 3 32 12 16,.asg 6 17]) .ret) (.seq (.ops [.bin 19 .eql 9 (kI 2),.asg 18 19]) (.cond 18 (.seq (.seq (.ops [.fa 20 6 4,.ld 21 1 false 20,.bin 22 .neq 21 (.c (.d (.s (bs []))))]) (.cond 22 (.ops [.mv 23 0,.fa 24 6 4,.ld 25 1 false 24,.call (some 26) 55 [25],.call (some 27) 30 [(.c (.d (.s (bs [46]))))],.bsl 28 77 3 [26,27],.app 29 77 3 32 23 28,.asg 0 29]) .skip)) aMw) (.seq (.ops [.bin 37 .eql 9 (kI 3),.asg 36 37]) (.cond 36 (.seq (.dops [[],[],[1],[2],[3],[0,4,3],[],[],[5,6,7,5],[8,8,0,1,2,3,4,5,6,7,8]] [.mv 38 0,.fa 39 1 4,.ld 40 1 false 39,.call (some 41) 57 [40],.bsl 42 77 3 [41],.app 43 77 3 32 38 42,.ld 44 10 true 4,.mv 45 2,.call (some 46) 56 [43,44,(kI 0),45],.asg 6 46]) .ret) (.seq (.ops [.bin 48 .eql 9 (kI 9),.asg 47 48]) (.cond 47 (.seq (.dops [[],[],[1],[1,2],[0,3,2],[],[5],[6],[7],[],[4,8,9,4],[10,10,0,1,2,3,4,5,6,7,8,9,10]] [.mv 49 0,.call (some 50) 29 [(kI 19)],.call (some 51) 30 [(.c (.d (.s (bs [40]))))],.bsl 52 77 3 [50,51],.app 53 77 3 32 49 52,.fa 54 9 4,.ld 55 1 false 54,.ia 56 6 55 (kI 0),.ld 57 6 true 56,.mv 58 2,.call (some 59) 15 [53,57,58],.asg 0 59]) (.seq (.ops [.mv 60 0,.call (some 61) 30 [(.c (.d (.s (bs [41]))))],.bsl 62 77 3 [61],.app 63 77 3 32 60 62,.asg 6 63]) .ret)) .skip)))))))))) aU5))
theorem bPm:bQ Tryz.prog 22=some (bAo,[.mv 0 6],152):=by kernel_rfl
def aG6 (r:List aJ):Exit→St→Prop:=bM [.mv 0 6] fun x b=>x=(fun (y:List aJ)=>(.osl 2000000 77 3 (y.map aV))) r∧bI ((fun (y:List aJ)=>[]) r) b
def bIm (r:List aJ):Exit→St→Prop:=(eT (wkK (avc Tryz.prog aU5 (aG6 r))) (aG6 r))
def bI2 (r:List aJ):Exit→St→Prop:=(eY 0 (bIm r))
def bOj (r:List aJ):Exit→St→Prop:=(eT (wkK (avc Tryz.prog aU9 (aG6 r))) (aG6 r))
def aJ0 (r:List aJ):Exit→St→Prop:=(eY 2 (bOj r))
def aRx (r:List aJ):Exit→St→Prop:=(eT (avc Tryz.prog aHx (aJ0 r)) (aJ0 r))
def bRp (r:List aJ):Exit→St→Prop:=(eT (wkK (avc Tryz.prog aRy (aRx r))) (aRx r))
def bBc (r:List aJ):Exit→St→Prop:=(eY 3 (bRp r))
def bIr (p1:aA) (x0:List aJ):St:=⟨[(0,(.osl 0 77 3 (x0.map aV))),(4,(.ptr 4 0))],[(4,fM p1)]⟩
abbrev aWl:=fun p1 x0 r=>avc Tryz.prog aMw (bI2 r) (bIr p1 x0)
def bNh (p2:Bool) (p1:aA) (mZ:List aJ) (x7:Int):St:=⟨[(0,(.osl 0 77 3 (mZ.map aV))),(2,(vB p2)),(4,(.ptr 4 0)),(7,(vI x7))],[(4,fM p1)]⟩
abbrev aF5:=fun p2 p1 mZ x7 r=>avc Tryz.prog aHx (aJ0 r) (bNh p2 p1 mZ x7)
def bA9 (p2:Bool) (x7:Int) (p1:aA) (oP:List aJ):St:=⟨[(0,(.osl 0 77 3 (oP.map aV))),(2,(vB p2)),(4,(.ptr 4 0)),(7,(vI x7))],[(4,fM p1)]⟩
abbrev aGt:=fun p2 x7 p1 oP r=>avc Tryz.prog aNi (bBc r) (bA9 p2 x7 p1 oP)
def bB9:AC:=(.seq (.ops [.box 2 57 0,.asg 4 (kB false)]) (.seq (.dops [[],[],[1],[2],[3],[0,4],[5,5],[6],[7,6],[6],[8,9,6],[10,6],[11,6,6],[6],[6],[13,14,12,6],[12,15,6],[6,16],[17,15,0,1,2,3,4,5,6,7,8,9,10,11,12,13,14,15,16,17]] [.mv 5 1,.fa 6 8 2,.ld 7 1 false 6,.len 8 7,.bin 9 .sub 8 (kI 1),.call (some 10) 88 [5,(kI 0),9],.mv 11 10,.g 11 true (.fa 12 8 2),.g 11 true (.ld 13 1 false 12),.g 11 true (.mv 14 1),.g 11 true (.ia 15 10 13 14),.g 11 true (.ld 16 10 true 15),.g 11 true (.call (some 17) 82 [16]),.g 11 true (.ld 18 10 true 2),.g 11 true (.mv 19 1),.g 11 true (.call (some 20) 98 [18,19]),.g 11 true (.bin 21 .lss 17 20),.pick 22 11 21 (kB false),.asg 4 22]) .ret))
theorem bHg:bQ Tryz.prog 81=some (bB9,[.mv 0 4],23):=by kernel_rfl
def bTe (r:Bool):Exit→St→Prop:=bM [.mv 0 4] fun x _=>x=(fun y=>(vB y)) r
def aMm:AC:=(.seq (.ops [.asg 4 (kI 5)]) .ret)
def bRd:AC:=(.seq (.ops [.box 2 57 0,.asg 4 (kI 0)]) (.seq (.ops [.ld 6 10 true 2,.call (some 7) 82 [6],.asg 5 7]) (.seq (.seq (.ops [.mv 8 1,.fa 9 8 2,.ld 10 1 false 9,.len 11 10,.bin 12 .sub 11 (kI 1),.call (some 13) 88 [8,(kI 0),12],.not 14 13,.mv 15 14,.g 15 false (.mv 16 5),.g 15 false (.bin 17 .eql 16 (kI 0)),.pick 18 15 (kB true) 17,.mv 19 18,.g 19 false (.mv 20 5),.g 19 false (.bin 21 .eql 20 (kI 9)),.pick 22 19 (kB true) 21]) (.cond 22 (.seq (.ops [.asg 4 (kI 0)]) .ret) .skip)) (.seq (.seq (.ops [.fa 23 0 2,.ld 24 1 false 23]) (.block 0 (.seq (.ops [.bin 26 .eql 24 (kI 3),.asg 25 26]) (.cond 25 (.seq (.ops [.mv 27 5,.asg 4 27]) .ret) (.seq (.ops [.bin 29 .eql 24 (kI 4),.asg 28 29]) (.cond 28 (.seq (.seq (.ops [.mv 30 5,.bin 31 .eql 30 (kI 4)]) (.cond 31 (.seq (.ops [.asg 4 (kI 5)]) .ret) .skip)) (.seq (.seq (.ops [.mv 32 1,.bin 33 .eql 32 (kI 0)]) (.cond 33 (.seq (.ops [.mv 34 5,.asg 4 34]) .ret) .skip)) (.seq (.ops [.mv 35 5,.bin 36 .add 35 (kI 1),.asg 4 36]) .ret))) (.seq (.ops [.bin 38 .eql 24 (kI 7),.asg 37 38]) (.cond 37 (.seq (.ops [.mv 39 1,.bin 40 .gtr 39 (kI 0)]) (.cond 40 (.seq (.ops [.asg 4 (kI 1)]) .ret) .skip)) .skip)))))))) aMm))))
theorem bRi:bQ Tryz.prog 98=some (bRd,[.mv 0 4],41):=by kernel_rfl
def aZ8 (r:Int):Exit→St→Prop:=bM [.mv 0 4] fun x _=>x=(fun y=>(vI y)) r
def bMb:St:=⟨[],[]⟩
abbrev aXr:=fun r=>avc Tryz.prog aMm (aZ8 r) (bMb)
def bBe:AC:=(.seq (.ops [.asg 6 (.c (.nil 3))]) (.seq (.seq (.ops [.mv 7 1,.len 8 7,.bin 9 .eql 8 (kI 0)]) (.cond 9 (.seq (.ops [.mv 10 0,.asg 6 10]) .ret) .skip)) (.seq (.dops [[],[],[1],[0,2,1],[],[4],[5],[],[3,6,7,3],[8,8,0,1,2,3,4,5,6,7,8]] [.mv 11 0,.call (some 12) 29 [(kI 6)],.bsl 13 77 3 [12],.app 14 77 3 32 11 13,.mv 15 1,.ia 16 10 15 (kI 0),.ld 17 10 true 16,.mv 18 2,.call (some 19) 22 [14,17,18],.asg 6 19]) .ret)))
theorem bS4:bQ Tryz.prog 33=some (bBe,[.mv 0 6],20):=by kernel_rfl
def bTy (r:List aJ):Exit→St→Prop:=bM [.mv 0 6] fun x b=>x=(fun (y:List aJ)=>(.osl 2000000 77 3 (y.map aV))) r∧bI ((fun (y:List aJ)=>[]) r) b
def bHv:AC:=(.seq (.ops [.box 5 57 1,.asg 8 (.c (.nil 3))]) (.seq (.ops [.fa 10 8 5,.ld 11 1 false 10,.mv 12 2,.ia 13 10 11 12,.ld 14 10 true 13,.alc 9 fO,.st 10 9 14]) (.seq (.seq (.ops [.ld 15 10 true 5,.mv 16 2,.call (some 17) 81 [15,16],.mv 18 17,.g 18 false (.mv 19 3),.g 18 false (.mv 20 19),.g 20 true (.ld 21 10 true 9),.g 20 true (.call (some 22) 82 [21]),.g 20 true (.bin 23 .lss 22 (kI 9)),.g 18 false (.pick 24 20 23 (kB false)),.pick 25 18 (kB true) 24]) (.cond 25 (.seq (.dops [[],[],[1],[0,2,1],[],[],[3,4,5,3],[6,6,0,1,2,3,4,5,6]] [.mv 26 0,.call (some 27) 30 [(.c (.d (.s (bs [40]))))],.bsl 28 77 3 [27],.app 29 77 3 32 26 28,.ld 30 10 true 9,.mv 31 3,.call (some 32) 22 [29,30,31],.asg 0 32]) (.seq (.ops [.mv 33 0,.call (some 34) 30 [(.c (.d (.s (bs [41]))))],.bsl 35 77 3 [34],.app 36 77 3 32 33 35,.asg 8 36]) .ret)) .skip)) (.seq (.ops [.mv 37 0,.ld 38 10 true 9,.mv 39 3,.call (some 40) 22 [37,38,39],.asg 8 40]) .ret))))
theorem bBp:bQ Tryz.prog 56=some (bHv,[.mv 0 8],41):=by kernel_rfl
def bWy (r:List aJ):Exit→St→Prop:=bM [.mv 0 8] fun x b=>x=(fun (y:List aJ)=>(.osl 2000000 77 3 (y.map aV))) r∧bI ((fun (y:List aJ)=>[]) r) b
def bFc:AC:=(.seq (.ops [.box 3 57 1,.asg 4 (.c (.nil 3))]) (.seq (.seq (.ops [.fa 5 2 3,.ld 6 1 false 5]) (.cond 6 (.seq (.ops [.mv 7 0,.call (some 8) 29 [(kI 15)],.bsl 9 77 3 [8],.app 10 77 3 32 7 9,.asg 4 10]) .ret) .skip)) (.seq (.ops [.mv 11 0,.asg 4 11]) .ret)))
theorem bRm:bQ Tryz.prog 58=some (bFc,[.mv 0 4],12):=by kernel_rfl
def bVi (r:List aJ):Exit→St→Prop:=bM [.mv 0 4] fun x b=>x=(fun (y:List aJ)=>(.osl 2000000 77 3 (y.map aV))) r∧bI ((fun (y:List aJ)=>[]) r) b
def aKd:AC:=(.seq (.dops [[],[],[],[1,2],[3],[4],[5],[6],[0,7,6],[],[],[9,10],[11],[12],[8,13,8],[14,14,0,1,2,3,4,5,6,7,8,9,10,11,12,13,14]] [.mv 44 0,.mv 45 1,.mv 46 7,.ia 47 3 45 46,.fa 48 0 47,.ld 49 1 false 48,.call (some 50) 55 [49],.bsl 51 77 3 [50],.app 52 77 3 32 44 51,.mv 53 1,.mv 54 7,.ia 55 3 53 54,.fa 56 1 55,.ld 57 1 false 56,.call (some 58) 65 [52,57],.asg 0 58]) (.seq (.ops [.mv 59 1,.mv 60 7,.ia 61 3 59 60,.fa 62 2 61,.ld 63 1 false 62,.len 64 63,.bin 65 .gtr 64 (kI 0)]) (.cond 65 (.dops [[],[],[1],[0,2,1],[],[],[4,5],[6],[7],[8],[9],[],[3,10,11,3],[12,12,0,1,2,3,4,5,6,7,8,9,10,11,12]] [.mv 66 0,.call (some 67) 29 [(kI 5)],.bsl 68 77 3 [67],.app 69 77 3 32 66 68,.mv 70 1,.mv 71 7,.ia 72 3 70 71,.fa 73 2 72,.ld 74 1 false 73,.ia 75 10 74 (kI 0),.ld 76 10 true 75,.mv 77 2,.call (some 78) 22 [69,76,77],.asg 0 78]) .skip)))
def aJl:AC:=(.seq (.seq (.ops [.mv 29 7,.bin 30 .gtr 29 (kI 0),.mv 31 30,.g 31 true (.mv 32 1),.g 31 true (.mv 33 7),.g 31 true (.ia 34 3 32 33),.g 31 true (.fa 35 2 34),.g 31 true (.ld 36 1 false 35),.g 31 true (.len 37 36),.g 31 true (.bin 38 .eql 37 (kI 0)),.pick 39 31 38 (kB false)]) (.cond 39 (.ops [.mv 40 0,.call (some 41) 30 [(.c (.d (.s (bs [44]))))],.bsl 42 77 3 [41],.app 43 77 3 32 40 42,.asg 0 43]) .skip)) aKd)
def aDk:AC:=(.ops [.mv 12 7,.bin 13 .add 12 (kI 1),.asg 7 13])
def aFu:AC:=(.loop (.seq (.seq (.ops [.mv 8 7,.mv 9 1,.len 10 9,.bin 11 .lss 8 10]) (.cond 11 .skip (.exit 0))) (.seq (.block 1 (.seq (.seq (.ops [.mv 14 7,.bin 15 .gtr 14 (kI 0),.mv 16 15,.g 16 true (.mv 17 1),.g 16 true (.mv 18 7),.g 16 true (.ia 19 3 17 18),.g 16 true (.fa 20 2 19),.g 16 true (.ld 21 1 false 20),.g 16 true (.len 22 21),.g 16 true (.bin 23 .gtr 22 (kI 0)),.pick 24 16 23 (kB false)]) (.cond 24 (.ops [.mv 25 0,.call (some 26) 29 [(kI 4)],.bsl 27 77 3 [26],.app 28 77 3 32 25 27,.asg 0 28]) .skip)) aJl)) aDk)))
def aP7:AC:=(.seq (.ops [.mv 79 0,.asg 6 79]) .ret)
def bJl:AC:=(.seq (.ops [.asg 6 (.c (.nil 3))]) (.seq (.seq (.ops [.asg 7 (kI 0)]) (.block 0 aFu)) aP7))
theorem bG7:bQ Tryz.prog 32=some (bJl,[.mv 0 6],80):=by kernel_rfl
def aXg (r:List aJ):Exit→St→Prop:=bM [.mv 0 6] fun x b=>x=(fun (y:List aJ)=>(.osl 2000000 77 3 (y.map aV))) r∧bI ((fun (y:List aJ)=>[]) r) b
def bGs (r:List aJ):Exit→St→Prop:=(eT (wkK (avc Tryz.prog aP7 (aXg r))) (aXg r))
def aKn (r:List aJ):Exit→St→Prop:=(eY 0 (bGs r))
def aIu (r:List aJ):Exit→St→Prop:=(eT (avc Tryz.prog aFu (aKn r)) (aKn r))
def bB4 (r:List aJ):Exit→St→Prop:=(eT (wkK (avc Tryz.prog aDk (aIu r))) (aIu r))
def aUp (r:List aJ):Exit→St→Prop:=(eY 1 (bB4 r))
def bQp (p1:List bR) (p2:Bool) (x0:List aJ) (x7:Int):St:=⟨[(0,(.osl 4000000 77 3 (x0.map aV))),(1,(zI p1)),(2,(vB p2)),(7,(vI x7))],[]⟩
abbrev aHk:=fun p1 p2 x0 x7 r=>avc Tryz.prog aFu (aKn r) (bQp p1 p2 x0 x7)
def bR3 (p1:List bR) (p2:Bool) (x7:Int) (gN:List aJ):St:=⟨[(0,(.osl 0 77 3 (gN.map aV))),(1,(zI p1)),(2,(vB p2)),(7,(vI x7))],[]⟩
abbrev aG4:=fun p1 p2 x7 gN r=>avc Tryz.prog aJl (aUp r) (bR3 p1 p2 x7 gN)
def bH5 (p1:List bR) (p2:Bool) (x7:Int) (mX:List aJ):St:=⟨[(0,(.osl 0 77 3 (mX.map aV))),(1,(zI p1)),(2,(vB p2)),(7,(vI x7))],[]⟩
abbrev aDc:=fun p1 p2 x7 mX r=>avc Tryz.prog aKd (aUp r) (bH5 p1 p2 x7 mX)
def aYz (p1:List bR) (p2:Bool) (x7:Int) (nC:List aJ):St:=⟨[(0,(.osl 0 77 3 (nC.map aV))),(1,(zI p1)),(2,(vB p2)),(7,(vI x7))],[]⟩
abbrev aFz:=fun p1 p2 x7 nC r=>avc Tryz.prog aDk (aIu r) (aYz p1 p2 x7 nC)
def bD3:AC:=(.seq (.ops [.asg 4 (.c (.nil 3))]) (.seq (.seq (.ops [.mv 5 1,.bin 6 .eql 5 (.c (.d (.s (bs []))))]) (.cond 6 (.seq (.ops [.mv 7 0,.asg 4 7]) .ret) .skip)) (.seq (.ops [.mv 8 0,.call (some 9) 29 [(kI 12)],.mv 10 1,.call (some 11) 55 [10],.bsl 12 77 3 [9,11],.app 13 77 3 32 8 12,.asg 4 13]) .ret)))
theorem bMj:bQ Tryz.prog 65=some (bD3,[.mv 0 4],14):=by kernel_rfl
def bUa (r:List aJ):Exit→St→Prop:=bM [.mv 0 4] fun x b=>x=(fun (y:List aJ)=>(.osl 2000000 77 3 (y.map aV))) r∧bI ((fun (y:List aJ)=>[]) r) b
def aIe:AC:=(.seq (.ops [.mv 28 0,.call (some 29) 30 [(.c (.d (.s (bs [42]))))],.bsl 30 77 3 [29],.app 31 77 3 32 28 30,.asg 6 31]) .ret)
def bEn:AC:=(.seq (.ops [.box 4 64 1,.asg 6 (.c (.nil 3))]) (.seq (.seq (.ops [.fa 7 0 4,.ld 8 1 false 7,.not 9 8]) (.cond 9 (.seq (.dops [[],[],[1],[],[0,2,3],[],[5],[4,6,4],[7,7,0,1,2,3,4,5,6,7]] [.mv 10 0,.fa 11 2 4,.ld 12 10 true 11,.mv 13 2,.call (some 14) 22 [10,12,13],.fa 15 12 4,.ld 16 1 false 15,.call (some 17) 65 [14,16],.asg 6 17]) .ret) .skip)) (.seq (.seq (.ops [.fa 18 1 4,.ld 19 1 false 18,.bin 20 .neq 19 (.c (.d (.s (bs []))))]) (.cond 20 (.ops [.mv 21 0,.fa 22 1 4,.ld 23 1 false 22,.call (some 24) 55 [23],.call (some 25) 30 [(.c (.d (.s (bs [46]))))],.bsl 26 77 3 [24,25],.app 27 77 3 32 21 26,.asg 0 27]) .skip)) aIe)))
theorem bQq:bQ Tryz.prog 31=some (bEn,[.mv 0 6],32):=by kernel_rfl
def bAv (r:List aJ):Exit→St→Prop:=bM [.mv 0 6] fun x b=>x=(fun (y:List aJ)=>(.osl 2000000 77 3 (y.map aV))) r∧bI ((fun (y:List aJ)=>[]) r) b
def bOd (x0:List aJ):St:=⟨[(0,(.osl 0 77 3 (x0.map aV)))],[]⟩
abbrev aWt:=fun x0 r=>avc Tryz.prog aIe (bAv r) (bOd x0)
theorem aVc (x:aJ) (h:∀ d ∈ aV x,OkD d):okGToken x:=⟨qY _ (fU h 0 1),wK _ (fU h 1 1),qY _ (fU h 2 1)⟩
theorem bIs (x:bJ) (h:∀ d ∈ aAc x,OkD d):okGValue x:=⟨qY _ (fU h 0 1),qY _ (fU h 1 1),wK _ (fU h 2 1)⟩
mutual
theorem aLv:∀ x:aA,(∀ d ∈ bN x,OkD d)→okGExpr x
  | ⟨a0,a1,a2,a3,a4,a5,a6,a7⟩,h0=>by
    rw [gQ] at h0
    have h:∀ d ∈ gJ ⟨a0,a1,a2,a3,a4,a5,a6,a7⟩,OkD d:=h0
    unfold okGExpr
    exact ⟨qY _ (fU h 0 1),qY _ (fU h 1 1),trivial,bIs a3 (fU h 3 3),wK _ (fU h 6 1),wK _ (fU h 7 1),⟨by simpa using (oD (fU h 8 1)).1,aEp a6 (oD (fU h 8 1)).2⟩,⟨by simpa using (oD (fU h 9 1)).1,aXw a7 (oD (fU h 9 1)).2⟩⟩
theorem bGh:∀ x:bU,(∀ d ∈ eF x,OkD d)→okGItem x
  | ⟨a0,a1,a2,a3⟩,h0=>by
    rw [vM] at h0
    have h:∀ d ∈ oL ⟨a0,a1,a2,a3⟩,OkD d:=h0
    unfold okGItem
    exact ⟨trivial,wK _ (fU h 1 1),aLv a2 (by rw [gQ]; exact (fU h 2 10)),wK _ (fU h 12 1)⟩
theorem bBl:∀ x:aX,(∀ d ∈ iJ x,OkD d)→okGQuery x
  | ⟨a0,a1,a2,a3,a4,a5⟩,h0=>by
    rw [yP] at h0
    have h:∀ d ∈ qE ⟨a0,a1,a2,a3,a4,a5⟩,OkD d:=h0
    unfold okGQuery
    exact ⟨trivial,⟨by simpa using (oD (fU h 1 1)).1,aPe a1 (oD (fU h 1 1)).2⟩,⟨by simpa using (oD (fU h 2 1)).1,aVf a2 (oD (fU h 2 1)).2⟩,⟨by simpa using (oD (fU h 3 1)).1,aEp a3 (oD (fU h 3 1)).2⟩,⟨by simpa using (oD (fU h 4 1)).1,aTd a4 (oD (fU h 4 1)).2⟩,qY _ (fU h 5 1)⟩
theorem bJy:∀ x:dY,(∀ d ∈ fV x,OkD d)→okGSortKey x
  | ⟨a0,a1⟩,h0=>by
    rw [F3] at h0
    have h:∀ d ∈ qW ⟨a0,a1⟩,OkD d:=h0
    unfold okGSortKey
    exact ⟨aLv a0 (by rw [gQ]; exact (fU h 0 10)),trivial⟩
theorem bBb:∀ x:bR,(∀ d ∈ eP x,OkD d)→okGSource x
  | ⟨a0,a1,a2⟩,h0=>by
    rw [yQ] at h0
    have h:∀ d ∈ qC ⟨a0,a1,a2⟩,OkD d:=h0
    unfold okGSource
    exact ⟨wK _ (fU h 0 1),wK _ (fU h 1 1),⟨by simpa using (oD (fU h 2 1)).1,aEp a2 (oD (fU h 2 1)).2⟩⟩
theorem aEp:∀ l:List aA,(∀ x ∈ l.map bN,∀ d ∈ x,OkD d)→okLGExpr l
  | [],_=>by unfold okLGExpr; trivial
  | x::l,h=>by
    unfold okLGExpr
    exact ⟨aLv x (h _ (by simp)),aEp l fun y hy=>h y (List.mem_cons_of_mem _ hy)⟩
theorem aPe:∀ l:List bU,(∀ x ∈ l.map eF,∀ d ∈ x,OkD d)→okLGItem l
  | [],_=>by unfold okLGItem; trivial
  | x::l,h=>by
    unfold okLGItem
    exact ⟨bGh x (h _ (by simp)),aPe l fun y hy=>h y (List.mem_cons_of_mem _ hy)⟩
theorem aXw:∀ l:List aX,(∀ x ∈ l.map iJ,∀ d ∈ x,OkD d)→okLGQuery l
  | [],_=>by unfold okLGQuery; trivial
  | x::l,h=>by
    unfold okLGQuery
    exact ⟨bBl x (h _ (by simp)),aXw l fun y hy=>h y (List.mem_cons_of_mem _ hy)⟩
theorem aTd:∀ l:List dY,(∀ x ∈ l.map fV,∀ d ∈ x,OkD d)→okLGSortKey l
  | [],_=>by unfold okLGSortKey; trivial
  | x::l,h=>by
    unfold okLGSortKey
    exact ⟨bJy x (h _ (by simp)),aTd l fun y hy=>h y (List.mem_cons_of_mem _ hy)⟩
theorem aVf:∀ l:List bR,(∀ x ∈ l.map eP,∀ d ∈ x,OkD d)→okLGSource l
  | [],_=>by unfold okLGSource; trivial
  | x::l,h=>by
    unfold okLGSource
    exact ⟨bBb x (h _ (by simp)),aVf l fun y hy=>h y (List.mem_cons_of_mem _ hy)⟩
end
theorem bW9 (x:aL) (h:∀ d ∈ aKk x,OkD d):okGParser x:=⟨aGx _ (fun y hy=>aVc y hy) (fU h 0 1),qY _ (fU h 1 1),trivial⟩
theorem bTc (x:aQ) (h:∀ d ∈ aJ5 x,OkD d):okGL1Cur x:=⟨aGx _ (fun y hy=>aXs _ hy) (fU h 0 1),qY _ (fU h 1 1),qY _ (fU h 2 1)⟩
theorem bWi (x:aU) (h:∀ d ∈ aJc x,OkD d):okGL12In x:=⟨aGx _ (fun y hy=>aVc y hy) (fU h 0 1),qY _ (fU h 1 1),trivial⟩
theorem de5 {l:List D} (h:WtC Tryz.prog 5 l):∃ x:Int,l=cU8 x:=(bKv h (k:=.u8) kr)
theorem bJu {l:List D} (h:WtC Tryz.prog 22 l):∃ x:(List Int),l=(cSl 1 cU8) x:=(bQz h (e:=5) (n:=1) (c:=cU8) kr kr fun x hx=>de5 hx)
theorem bAq (p0:aL):dI Tryz.prog 18 [(.ptr 1000000 0)] [(1000000,bA p0)] (fun (y:Int)=>(vI y)) (fun (y:Int)=>[(1000000,bA p0)]) (aBk p0):=by
 intro r h
 rw [aBk] at h;refine ao bF5 (si (oi (sx 1 (ni (xi (si (si (fC (dsx 5 (dgq 0 (dgq 1 (dgq 1 (dgq 1 (dgq 0 (dgq 1 (dgq 1 (dgq 1 (aCv (p:=true) (b:=p0.failed) (v':=(vI (ln p0.list))) kr rfl rfl (fun hc=>yZ (sz:=3) (l:=p0.list) (f:=aV) (Eq.trans (b:=([(true&&(p0.failed==false))]:List Bool).all id) kr (jO hc rfl)) kr) (dgq 2 ?_)))))))))))))))))));refine aSb h fun y1 h=>(fB kr kr (xi ?_));refine cd h (fun h=>?_) fun h=>?_;refine si (oi (sx 5 (ni (xi (ri (tr ?_))))));injection h with h; subst h;exact rb;refine ki (xi (si (oi (sx 1 (ni (xi (ri ?_)))))));injection h with h; subst h;exact rb
theorem bJ4 (x3 r) (h:aH4 x3=some r):aWn x3 r:=by
 rw [aH4] at h;delta aWn aEq;refine si (oi (sx 1 (vs (fun (y:List UInt8)=>(vS y)) h (fun y hy=>aM1 (l:=x3) hy kr kr) fun y3 h=>(sx 1 (ni (xi (ri ?_)))))));injection h with h; subst h;exact rp
theorem aRc (p0):(∀ x10 nE r,J9 p0 x10 nE=some r→aH7 p0 x10 nE r)∧(∀ x10 iR r,J5 p0 x10 iR=some r→aFi p0 x10 iR r):=by
 refine J9.mutual_partial_correctness p0 (fun x10 nE r=>aH7 p0 x10 nE r) (fun x10 iR r=>aFi p0 x10 iR r) ?_ ?_
 · intro bUu aKq x10 nE r h;delta aH7 aJh;exact oi (sx 2 (ni (lbs (aKq _ _ _ h) (tw [.rn [(60050000,60015000)]] (wr [] eS bS)))))
 · intro bU9 aLd x10 iR r h;delta aFi aEv;refine iB (si (oi (sx 1 (ni (xi (si ?_))))));refine cd h (fun h=>?_) fun h=>?_;refine ki (xi (si (bi (si (oi (sx 1 (aIc (n:=60015000) (k:=.i64) (i:=x10) (l:=iR) (f:=cU8) (g:=cU8) [] h kr kr kr (fun _=>rfl) kr (fun _=>rfl) fun y1 hiy1 h=>?_)))))));refine ps (.d (.i .u8 y1)) (aIy (n:=60015000) (sz:=1) (i:=(x10).toNat) (off:=0) (l:=iR.map cU8) (c:=[(.d (.i .u8 y1))]) kr kr kr) (sx 2 (ni (xi (si (oi (sx 3 (gq 0 (gq 1 (pkA h fun y2 h=>(ni (xi ?_)))))))))));refine cd h (fun h=>?_) fun h=>?_;refine oi (sx 5 (aI7 (n:=60015000) (k:=.i64) (i:=x10) (l:=iR.map cU8) (c:=[(.d (.i .u8 y1))]) kr kr (aCx hiy1).1 kr (aO4 (n:=60015000) (sz:=1) (i:=(x10).toNat) (off:=0) (l:=iR.map cU8) (c:=[(.d (.i .u8 y1))]) kr kr kr rfl (ni (bn ?_)))));exact nxs (aLd _ _ _ h) (tw [.clo 60015000,.rn [(60015000,60050000)]] (wr [] eS (bt_ (R:=(iR.set (x10).toNat (IntKind.wrap .u8 ((IntKind.wrap .u8 (y1 - 97))+65))).map cU8) (aB4 (l:=iR) (k:=(x10).toNat) (x:=(IntKind.wrap .u8 ((IntKind.wrap .u8 (y1 - 97))+65))) (fun _=>rfl)) eD)));exact ki (bn (nxs (aLd _ _ _ h) (tw [.clo 60015000,.rn [(60015000,60050000)]] (wr [] eS (bt_ (R:=(iR.set (x10).toNat y1).map cU8) (aB4 (l:=iR) (k:=(x10).toNat) (x:=y1) (fun _=>rfl)) eD)))));exact ei (te (te (bh (nxs (bJ4 _ _ h) (tw [.frz [60015000]] (wr [] eS eD))))))
theorem aLd (p0 x10 nE r) (h:J9 p0 x10 nE=some r):aH7 p0 x10 nE r:=(aRc p0).1 x10 nE r h
theorem aKq (p0 x10 iR r) (h:J5 p0 x10 iR=some r):aFi p0 x10 iR r:=(aRc p0).2 x10 iR r h
theorem aUj (p0:List UInt8):FOk Tryz.prog 101 [(vS p0)] (fun y=>(vS y)) (aA2 p0):=by
 intro r h
 rw [aA2] at h;refine ao bLd (si (oi (sx 1 (ni (xi (si (oi (sx 1 (aPh (b:=p0) kr kr rfl (sx 1 (ni (xi (si (si (oi (sx 1 (ps (vI ((jL p0).length:Int)) (aCk (n:=7) (l:=(jL p0).map cU8) (L:=(jL p0).length) kr kr (List.length_map ..)) (sx 1 (ni (xi (bi ?_)))))))))))))))))))));exact lgs (aKq _ _ _ _ h) (tw [.rn [(7,60015000)]] (wr [] eS bS))
theorem bPc (p0) (p1):(∀ x8 r,pM p0 p1 x8=some r→aGj p0 p1 x8 r):=by
 refine pM.partial_correctness p0 p1 (fun x8 r=>aGj p0 p1 x8 r) ?_
 · intro bUc aLe x8 r h;delta aGj aLi;refine iB (si (oi (sx 1 (ni (xi (si ?_))))));refine cd h (fun h=>?_) fun h=>?_;refine ki (xi (si (bi (si (oi (sx 2 (ni (xi (si (oi (sx 3 (iq h fun y1 h=>(sx 2 (ni (xi ?_)))))))))))))));refine cd h (fun h=>?_) fun h=>?_;refine si (oi (sx 2 (ni (xi (ri (br (tr (tr (br (tr ?_))))))))));injection h with h; subst h;exact rp;exact ki (bn (xi (oi (sx 2 (ni (lbs (aLe _ _ h) (wr [] eS eD)))))));refine ei (te (te (bh (xi (si (oi (sx 1 (ni (xi (ri ?_))))))))));injection h with h; subst h;exact rp
theorem aLe (p0 p1 x8 r) (h:pM p0 p1 x8=some r):aGj p0 p1 x8 r:=(bPc p0 p1) x8 r h
theorem aXj (p0:List (List UInt8)) (p1:List UInt8):FOk Tryz.prog 114 [(I9 p0),(vS p1)] (fun y=>(vI y)) (X9 p0 p1):=by
 intro r h
 rw [X9] at h;exact ao bJr (si (oi (sx 1 (ni (xi (si (si (oi (sx 1 (lq p0 (sx 1 (ni (xi (bi (lgs (aLe _ _ _ _ h) (wr [] eS eD))))))))))))))))
theorem aZu (p0:List UInt8) (p1:List UInt8):FOk Tryz.prog 126 [(vS p0),(vS p1)] (fun y=>(I9 y)) (aL4 p0 p1):=by
 intro r h
 rw [aL4] at h;exact aZ2 (ρ:=sh146_ren) sh146 kr kr kr (.tail _ (.head _)) p0 p1 r h
theorem bL8:FOk Tryz.prog 115 [] (fun y=>(I9 y)) (aF3):=by
 intro r h
 rw [aF3] at h;refine ao bAh (si (oi (sx 1 (ni (xi (si (oi (cs h (aZu _ _) fun y1 h=>(sx 1 (ni (xi (ri ?_))))))))))))
 have h:=Option.some.inj h; subst h
 exact rp
theorem bBq (p0:List UInt8):FOk Tryz.prog 100 [(vS p0)] (fun y=>(vI y)) (Y1 p0):=by
 intro r h
 rw [Y1] at h;refine ao bQk (si (oi (sx 1 (ni (xi (si (oi (cs h bL8 fun y1 h=>(sx 1 (cs h (aUj _) fun y2 h=>(cs h (aXj _ _) fun y3 h=>(sx 2 (ni (xi (ri ?_)))))))))))))))
 have h:=Option.some.inj h; subst h
 exact rp
theorem bPk (p0:List UInt8):FOk Tryz.prog 102 [(vS p0)] (fun y=>(vB y)) (aBo p0):=by
 intro r h
 rw [aBo] at h;refine ao bGw (si (oi (sx 1 (ni (xi (si (oi (sx 4 (gq 0 (gq 1 (gq 1 (pkA h fun y1 h=>(sx 1 (ni (xi (ri ?_))))))))))))))));injection h with h; subst h;exact rp
theorem aPz (p0:List UInt8):FOk Tryz.prog 74 [(vS p0)] (fun y=>(.tup [(vI y.1),(vB y.2)])) (xM p0):=by
 intro r h
 rw [xM] at h;exact bMn bRc (.tail _ (.tail _ (.head _))) (.tail _ (.tail _ (.tail _ (.head _)))) (.head _) p0 r h
theorem bFh (p0:List (List UInt8)) (p1:List UInt8):FOk Tryz.prog 116 [(I9 p0),(vS p1)] (fun y=>(vB y)) (aGm p0 p1):=by
 intro r h
 rw [aGm] at h;refine ao bQf (si (oi (sx 1 (ni (xi (si (oi (sx 2 (cs h (aXj _ _) fun y1 h=>(sx 2 (ni (xi (ri ?_)))))))))))));injection h with h; subst h;exact rp
theorem bDm:dI Tryz.prog 117 [] [] (fun (y:List (List UInt8))=>(.osl 2000000 9 1 (y.map cStr))) (fun (y:List (List UInt8))=>[]) (aDo):=by
 intro r h
 rw [aDo] at h;refine ao bSf (si (oi (sx 1 (ni (xi (si (oi (eB (l:=([[40],[41],[44],[46],[42],[43],[45],[47],[37],[61],[60,62],[60],[60,61],[62],[62,61],[124,124]]:List (List UInt8))) (f:=cStr) (g:=cStr) kr (fun _=>rfl) kr (sx 1 (ni (xi ?_)))))))))));refine eO (s':=⟨[(0,(.osl 2000000 9 1 (([[40],[41],[44],[46],[42],[43],[45],[47],[37],[61],[60,62],[60],[60,61],[62],[62,61],[124,124]]:List (List UInt8)).map cStr)))],[]⟩) (wr [(2000000,.old 0)] (eo 0 fH) eD) ?_;injection h with h; subst h;exact rb
theorem bEb (p0:List UInt8):FOk Tryz.prog 103 [(vS p0)] (fun y=>(vB y)) (aC8 p0):=by
 intro r h
 rw [aC8] at h;refine ao bAs (si (oi (sx 1 (ni (xi (si (oi (cg ⟨[],[],[],[],[],[(2000000,3)],[],[3],[]⟩ h bDm fun y1 h=>(sx 1 (cs h (bFh _ _) fun y2 h=>(sx 1 (ni (xi (ri ?_))))))))))))));injection h with h; subst h;exact rp
theorem aY9 (p0:aJ):FOk Tryz.prog 89 [(kP p0)] (fun y=>(vB y)) (K6 p0):=by
 intro r h
 rw [K6] at h;refine ao bAc (si (oi (sx 2 (ni (xi (si (si (oi (sx 2 (ni (xi (bi (si (oi (sx 2 (ni (xi ?_)))))))))))))))));refine cd h (fun h=>?_) fun h=>?_;refine si (fC (dsx 2 (dcs h (bBq _) fun y1 h=>(dsx 2 (dgq 0 (dgq 1 (dgc 1 h (aUj _) fun y2 h=>(dgq 0 (dgq 1 (dgq 2 (wS h fun y3 h=>(dsx 1 (fB kr kr (xi (ri (br (tr ?_)))))))))))))))));injection h with h; subst h;exact rp;refine si (oi (sx 2 (ni (xi ?_))));refine cd h (fun h=>?_) fun h=>?_;refine si (oi (sx 2 (cs h (bPk _) fun y4 h=>(sx 1 (ni (xi (ri (br (tr ?_)))))))));injection h with h; subst h;exact rp;refine si (oi (sx 2 (ni (xi ?_))));refine cd h (fun h=>?_) fun h=>?_;refine si (oi (sx 2 (cs h (aPz _) fun y5 h=>(sx 5 (ni (xi (si (oi (sx 2 (ni (xi (ri (br (tr ?_))))))))))))));injection h with h; subst h;exact rp;refine si (oi (sx 2 (ni (xi ?_))));refine cd h (fun h=>?_) fun h=>?_;refine si (oi (sx 5 (ni (xi (ri (br (tr ?_)))))));injection h with h; subst h;exact rp;refine si (oi (sx 2 (ni (xi ?_))));refine cd h (fun h=>?_) fun h=>?_;refine si (oi (sx 2 (cs h (bEb _) fun y6 h=>(sx 1 (ni (xi (ri (br (tr ?_)))))))));injection h with h; subst h;exact rp;refine ki (bn (xi (si (oi (sx 1 (ni (xi (ri ?_))))))));injection h with h; subst h;exact rp
theorem aB0 (p0:aL) (p1:Int):dI Tryz.prog 67 [(.ptr 1000000 0),(vI p1)] [(1000000,bA p0)] (fun (y:Bool)=>(vB y)) (fun (y:Bool)=>[(1000000,bA p0)]) (vO p0 p1):=by
 intro r h
 rw [vO] at h;refine ao bI6 (si (oi (sx 1 (ni (xi (si (fC (dsx 6 (dgq 0 (dgq 1 (dgq 1 (dgq 1 (dgq 0 (dgq 1 (dgq 1 (dgq 1 (aCv (p:=true) (b:=(!p0.failed)) (v':=(vI (ln p0.list))) kr rfl rfl (fun hc=>yZ (sz:=3) (l:=p0.list) (f:=aV) (Eq.trans (b:=([(true&&((!p0.failed)==true))]:List Bool).all id) kr (jO hc rfl)) kr) (dgq 2 ?_))))))))))))))))));refine wS h fun y1 h=>(dsx 1 (dgq 0 (dgq 1 (dgq 1 (dgq 1 (dgq 0 (dgq 1 (dgq 1 (dgq 1 ?_)))))))));refine aJq (p:=true) (b:=y1) (m:=idx p0.list p0.at_) (dflt:=default) (v':=fun y=>(.rp (aV y))) h kr rfl rfl (fun y hy hc=>xB (l:=p0.list) (f:=aV) (g:=aV) (k:=.i64) hy (fun _=>rfl) (Eq.trans (b:=([(true&&(y1==true)),(true&&(y1==true))]:List Bool).all id) kr (jO hc (jO hc rfl))) kr kr) fun y2 h=>?_;refine dgq 1 (dgq 1 (dgq 0 (dgq 2 (wS h fun y3 h=>(dsx 1 (dgq 0 (dgq 1 (dgq 1 (dgq 1 (dgq 0 (dgq 1 (dgq 1 (dgq 1 ?_)))))))))))));refine aJq (p:=true) (b:=y3) (m:=idx p0.list p0.at_) (dflt:=default) (v':=fun y=>(.rp (aV y))) h kr rfl rfl (fun y hy hc=>xB (l:=p0.list) (f:=aV) (g:=aV) (k:=.i64) hy (fun _=>rfl) (Eq.trans (b:=([(true&&(y3==true)),(true&&(y3==true))]:List Bool).all id) kr (jO hc (jO hc rfl))) kr kr) fun y4 h=>?_;refine dgq 1 (dgc 1 h (aY9 _) fun y5 h=>(wS h fun y6 h=>(dsx 1 (fB kr kr (xi (ri ?_))))));injection h with h; subst h;exact rb
theorem G9 (p0:aL) (p1:Int):dI Tryz.prog 69 [(.ptr 1000000 0),(vI p1)] [(1000000,bA p0)] (fun (y:(List UInt8)×aL)=>(vS y.1)) (fun (y:(List UInt8)×aL)=>[(1000000,bA y.2)]) (qQ p0 p1):=by
 intro r h
 rw [qQ] at h;refine ao aY7 (si (oi (sx 1 (ni (xi (si (si (oi (sx 2 (cg c1_ h (aB0 _ _) fun y1 h=>(sx 1 (ni (xi ?_)))))))))))));refine cd h (fun h=>?_) fun h=>?_;refine si (oi (sx 4 (ni (xi (si (oi (sx 1 (ni (xi (ri (tr ?_)))))))))));injection h with h; subst h;exact rb;refine ki (xi (si (oi (sx 8 (ni (xi (si (fC (dsx 9 (diq h fun y2 h=>(dsx 3 (fB kr kr (xi (ri ?_))))))))))))));injection h with h; subst h;exact rb
theorem aAq (p0:aL) (p1:Int) (p2:Int) (p3:List UInt8):dI Tryz.prog 68 [(.ptr 1000000 0),(vI p1),(vI p2),(vS p3)] [(1000000,bA p0)] (fun (y:Bool)=>(vB y)) (fun (y:Bool)=>[(1000000,bA p0)]) (pK p0 p1 p2 p3):=by
 intro r h
 rw [pK] at h;refine ao bGb (si (oi (sx 1 (ni (xi (si (oi (sx 7 (ni (xi (si (oi (sx 6 (gq 0 (gq 0 (gq 1 (gq 1 (gq 1 (glq 1 p0.list (gq 2 (pkA h fun y1 h=>(sx 1 (gq 0 (gq 1 (gq 1 (gq 1 (gq 0 (giq 2 h fun y2 h=>(gq 1 (gq 1 (gq 0 (gq 2 (pkA h fun y3 h=>(sx 1 (gq 0 (gq 1 (gq 1 (gq 1 (gq 0 (giq 2 h fun y4 h=>(gq 1 (gq 1 (gq 0 (gq 2 (pkA h fun y5 h=>(sx 1 (ni (xi (ri ?_)))))))))))))))))))))))))))))))))))))))))))))))));injection h with h; subst h;exact rb
theorem aS7 (p0:aL) (p1:List UInt8):dI Tryz.prog 66 [(.ptr 1000000 0),(vS p1)] [(1000000,bA p0)] (fun (y:Bool)=>(vB y)) (fun (y:Bool)=>[(1000000,bA p0)]) (R3 p0 p1):=by
 intro r h
 rw [R3] at h;refine ao bSq (si (oi (sx 1 (ni (xi (si (oi (sx 2 (cg c1_ h (aAq _ _ _ _) fun y1 h=>(sx 1 (ni (xi (ri ?_)))))))))))));injection h with h; subst h;exact rb
theorem aTf (y1 p0 bC r) (h:aA6 y1 p0 bC=some r):aSd y1 p0 bC r:=by
 rw [aA6] at h;delta aSd aK8;refine si (oi (sx 2 (ni (xi (ri ?_)))));injection h with h; subst h;exact rb
theorem kT (p0:aL) (p1:List UInt8):dI Tryz.prog 36 [(.ptr 1000000 0),(vS p1)] [(1000000,bA p0)] (fun (y:Bool×aL)=>(vB y.1)) (fun (y:Bool×aL)=>[(1000000,bA y.2)]) (jC p0 p1):=by
 intro r h
 rw [jC] at h;refine ao bC9 (si (oi (sx 1 (ni (xi (si (oi (sx 2 (cg c1_ h (aS7 _ _) fun y1 h=>(sx 1 (ni (xi (si (si (oi (sx 1 (ni (xi ?_))))))))))))))))));refine cd h (fun h=>?_) fun h=>?_;exact oi (sx 8 (ni (nxs (aTf _ _ _ _ h) (wr [] eS bS))));exact ki (nxs (aTf _ _ _ _ h) (wr [] eS bS))
theorem aUk (p0:aL):dI Tryz.prog 71 [(.ptr 1000000 0)] [(1000000,bA p0)] (fun (y:(List UInt8)×aL)=>(vS y.1)) (fun (y:(List UInt8)×aL)=>[(1000000,bA y.2)]) (Y8 p0):=by
 intro r h
 rw [Y8] at h;refine ao aYu (si (oi (sx 1 (ni (xi (si (si (oi (sx 1 (cg c1_ h (kT _ _) fun y1 h=>(ni (xi ?_))))))))))));refine cd h (fun h=>?_) fun h=>?_;refine si (oi (sx 1 (cg c1_ h (G9 _ _) fun y2 h=>(sx 1 (ni (xi (ri (tr ?_))))))));injection h with h; subst h;exact rb;refine ki (xi (si (oi (sx 1 (ni (xi (ri ?_)))))));injection h with h; subst h;exact rb
theorem M5 (p0:Int) (p1:aA) (p2:aA):FOk Tryz.prog 105 [(vI p0),(bX p1),(bX p2)] (fun y=>(bX y)) (rD p0 p1 p2):=by
 intro r h
 rw [rD] at h;refine ao bFb (si (oi (sx 3 (ni (xi (si (oi (sx 3 (eB (l:=([p1,p2]:List aA)) (f:=bN) (g:=gJ) kr gQ kr (fQ (c:=[(vI 4),(vI p0),(vB false),(vI 0),(vI 0),(vS []),(vS []),(vS []),(.osl 10 57 10 (([p1,p2]:List aA).map bN)),(.nil 6)]) kr kr rfl (sx 1 (ni (xi ?_)))))))))))));refine eO (s':=⟨[(6,(.ptr 6 0))],[(6,fM (aA.mk 4 p0 false (bJ.mk 0 0 []) [] [] ([p1,p2]:List aA) ([]:List aX)))]⟩) (wr [] eS (dW (c0:=[(vI 4),(vI p0),(vB false),(vI 0),(vI 0),(vS []),(vS []),(vS []),(.osl 10 57 10 (([p1,p2]:List aA).map bN)),(.nil 6)]) kr (aB (aP kr kr) (aB (aP kr kr) (aB (aP kr kr) (aB (aP kr kr) (aB (aP kr kr) (aB (aP kr kr) (aB (aP kr kr) (aB (aP kr kr) (aB (dX kr kr) (aB (dX kr kr) dJ)))))))))) eD)) ?_;injection h with h; subst h;exact rp
theorem aRm (bG r) (h:aGc bG=some r):aVo bG r:=by
 rw [aGc] at h;delta aVo aOh;refine si (oi (sx 2 (ni (xi (ri ?_)))));injection h with h; subst h;exact rp
theorem aUa (p0:Bool):FOk Tryz.prog 170 [(vB p0)] (fun y=>(lC y)) (K3 p0):=by
 intro r h
 rw [K3] at h;refine ao bOi (si (oi (sx 1 (ni (xi (si (oi (sx 3 (ni (xi (si (si (oi (sx 1 (ni (xi ?_))))))))))))))));refine cd h (fun h=>?_) fun h=>?_;exact oi (sx 2 (ni (nxs (aRm _ _ h) (wr [] eS bS))));exact ki (nxs (aRm _ _ h) (wr [] eS bS))
theorem bQb (p0:Int):FOk Tryz.prog 168 [(vI p0)] (fun y=>(lC y)) (aI4 p0):=by
 intro r h
 rw [aI4] at h;refine ao bK4 (si (oi (sx 1 (ni (xi (si (oi (sx 3 (ni (xi (ri ?_)))))))))));injection h with h; subst h;exact rp
theorem aBp (p0:bJ):FOk Tryz.prog 167 [(lC p0)] (fun y=>(bX y)) (qJ p0):=by
 intro r h
 rw [qJ] at h;refine ao bK8 (si (oi (sx 2 (ni (xi (si (oi (sx 1 (fQ (c:=[(vI 1),(vI 0),(vB false),(vI p0.kind),(vI p0.num),(vS p0.text),(vS []),(vS []),(.nil 10),(.nil 6)]) kr kr rfl (sx 1 (ni (xi ?_))))))))))));refine eO (s':=⟨[(2,(.ptr 2 0))],[(2,fM (aA.mk 1 0 false p0 [] [] ([]:List aA) ([]:List aX)))]⟩) (wr [] eS (dW (c0:=[(vI 1),(vI 0),(vB false),(vI p0.kind),(vI p0.num),(vS p0.text),(vS []),(vS []),(.nil 10),(.nil 6)]) kr (aB (aP kr kr) (aB (aP kr kr) (aB (aP kr kr) (aB (aP kr kr) (aB (aP kr kr) (aB (aP kr kr) (aB (aP kr kr) (aB (aP kr kr) (aB (dX kr kr) (aB (dX kr kr) dJ)))))))))) eD)) ?_;injection h with h; subst h;exact rp
theorem aS3 (p0:aL):dI Tryz.prog 42 [(.ptr 1000000 0)] [(1000000,bA p0)] (fun (y:Int×aL)=>(vI y.1)) (fun (y:Int×aL)=>[(1000000,bA y.2)]) (Y7 p0):=by
 intro r h
 rw [Y7] at h;refine ao bQx (si (oi (sx 1 (ni (xi (si (oi (sx 1 (cg c1_ h (G9 _ _) fun y1 h=>(cs h (aPz _) fun y2 h=>(sx 5 (ni (xi (si (oi (sx 2 (ni (xi (ri ?_)))))))))))))))))));injection h with h; subst h;exact rb
theorem bHw (p0:aL) (p1:List UInt8):dI Tryz.prog 72 [(.ptr 1000000 0),(vS p1)] [(1000000,bA p0)] (fun (y:Bool)=>(vB y)) (fun (y:Bool)=>[(1000000,bA p0)]) (aCm p0 p1):=by
 intro r h
 rw [aCm] at h;refine ao bRn (si (oi (sx 1 (ni (xi (si (oi (sx 2 (cg c1_ h (aAq _ _ _ _) fun y1 h=>(sx 1 (ni (xi (ri ?_)))))))))))));injection h with h; subst h;exact rb
theorem aWu (y1 p0 bC r) (h:aAv y1 p0 bC=some r):aPc y1 p0 bC r:=by
 rw [aAv] at h;delta aPc aIl;refine si (oi (sx 2 (ni (xi (ri ?_)))));injection h with h; subst h;exact rb
theorem uQ (p0:aL) (p1:List UInt8):dI Tryz.prog 38 [(.ptr 1000000 0),(vS p1)] [(1000000,bA p0)] (fun (y:Bool×aL)=>(vB y.1)) (fun (y:Bool×aL)=>[(1000000,bA y.2)]) (pO p0 p1):=by
 intro r h
 rw [pO] at h;refine ao bF7 (si (oi (sx 1 (ni (xi (si (oi (sx 2 (cg c1_ h (bHw _ _) fun y1 h=>(sx 1 (ni (xi (si (si (oi (sx 1 (ni (xi ?_))))))))))))))))));refine cd h (fun h=>?_) fun h=>?_;exact oi (sx 8 (ni (nxs (aWu _ _ _ _ h) (wr [] eS bS))));exact ki (nxs (aWu _ _ _ _ h) (wr [] eS bS))
theorem aB9 (p0:aL) (p1:List UInt8):dI Tryz.prog 135 [(.ptr 1000000 0),(vS p1)] [(1000000,bA p0)] (fun (y:aL)=>(.tup [])) (fun (y:aL)=>[(1000000,bA y)]) (uK p0 p1):=by
 intro r h
 rw [uK] at h;refine ao bEw (si (oi (sx 2 (cg c1_ h (uQ _ _) fun y1 h=>(sx 1 (ni (xi ?_)))))));refine cd h (fun h=>?_) fun h=>?_;refine oi (sx 4 (ni (aAp ?_)));injection h with h; subst h;exact r0b;refine ki (aAp ?_);injection h with h; subst h;exact r0b
theorem bJi (p0:List UInt8):FOk Tryz.prog 169 [(vS p0)] (fun y=>(lC y)) (aDz p0):=by
 intro r h
 rw [aDz] at h;refine ao bKn (si (oi (sx 1 (ni (xi (si (oi (sx 3 (ni (xi (ri ?_)))))))))));injection h with h; subst h;exact rp
theorem bAp (p0:Int):FOk Tryz.prog 118 [(vI p0)] (fun y=>(vS y)) (I4 p0):=by
 intro r h
 rw [I4] at h;refine ao bGm (si (oi (sx 1 (ni (xi (si (si (oi (sx 3 (gq 0 (gq 1 (pkO h fun y1 h=>(ni (xi ?_))))))))))))));refine cd h (fun h=>?_) fun h=>?_;refine si (oi (sx 1 (ni (xi (ri (tr ?_))))));injection h with h; subst h;exact rp;refine ki (xi (si (oi (eB (l:=([[79,82],[65,78,68],[61],[60,62],[60],[60,61],[62],[62,61],[124,124],[43],[45],[42],[47],[37],[78,79,84],[45]]:List (List UInt8))) (f:=cStr) (g:=cStr) kr (fun _=>rfl) kr (sx 2 (iq h fun y2 h=>(sx 2 (ni (xi (ri ?_))))))))));injection h with h; subst h;exact rp
theorem aX0 (p1) (p0):(∀ y1 x10 x7 r,yY y1 p1 x10 p0 x7=some r→aH0 y1 p1 x10 p0 x7 r)∧(∀ x10 r,zH p1 p0 x10=some r→aDr p1 p0 x10 r):=by
 refine yY.mutual_partial_correctness p1 p0 (fun y1 x10 x7 r=>aH0 y1 p1 x10 p0 x7 r) (fun x10 r=>aDr p1 p0 x10 r) ?_ ?_
 · intro bX2 aNu y1 x10 x7 r h;delta aH0 aL6;refine si (oi (sx 3 (cs h (bAp _) fun y3 h=>(cg c1_ h (aAq _ _ _ _) fun y4 h=>(ni (xi ?_))))));refine cd h (fun h=>?_) fun h=>?_;refine si (oi (sx 8 (ni (xi (si (oi (sx 2 (ni (xi (ri (br (tr (tr (br (tr ?_)))))))))))))));injection h with h; subst h;exact rb;exact ki (bn (xi (oi (sx 2 (ni (lbs (aNu _ _ h) (wr [] eS bS)))))))
 · intro bUd aKb x10 r h;delta aDr aG7;refine iB (si (oi (sx 1 (ni (xi (si ?_))))));refine cd h (fun h=>?_) fun h=>?_;refine ki (xi (si (bi (si (oi (iqf cI h fun y1 h=>(sx 2 (ni (xi (si (oi (sx 1 (ni (xi (si (si (oi (sx 3 (gq 0 (gq 1 (pkO h fun y2 h=>(ni (xi ?_)))))))))))))))))))))));refine cd h (fun h=>?_) fun h=>?_;exact oi (sx 1 (ni (nxs (aKb _ _ _ _ h) (wr [] eS bS))));exact ki (nxs (aKb _ _ _ _ h) (wr [] eS bS));refine ei (te (te (bh (xi (si (oi (sx 1 (ni (xi (ri ?_))))))))));injection h with h; subst h;exact rb
theorem aKb (y1 p1 x10 p0 x7 r) (h:yY y1 p1 x10 p0 x7=some r):aH0 y1 p1 x10 p0 x7 r:=(aX0 p1 p0).1 y1 x10 x7 r h
theorem aNu (p1 p0 x10 r) (h:zH p1 p0 x10=some r):aDr p1 p0 x10 r:=(aX0 p1 p0).2 x10 r h
theorem N7 (p0:aL) (p1:List Int):dI Tryz.prog 104 [(.ptr 1000000 0),(iY p1)] [(1000000,bA p0)] (fun (y:Int×aL)=>(vI y.1)) (fun (y:Int×aL)=>[(1000000,bA y.2)]) (nU p0 p1):=by
 intro r h
 rw [nU] at h;exact ao aZ4 (si (oi (sx 1 (ni (xi (si (si (oi (sx 1 (lqf cI p1 (sx 1 (ni (xi (bi (lgs (aNu _ _ _ _ h) (wr [] eS bS))))))))))))))))
theorem aXk (p2 dF wP vZ bD bC bF r) (h:P7 p2 dF wP vZ bD bC bF=some r):aS5 p2 dF wP vZ bD bC bF r:=by
 rw [P7] at h;delta aS5 aNo;refine si (oi (sx 1 (cg c1_ h (aB9 _ _) fun y6 h=>(ni (xi (si (oi (sx 2 (ni (xi (ri ?_)))))))))));injection h with h; subst h;exact rb
theorem Z7 (p0:aL) (p1:List UInt8):dI Tryz.prog 35 [(.ptr 1000000 0),(vS p1)] [(1000000,bA p0)] (fun (y:aL)=>(.tup [])) (fun (y:aL)=>[(1000000,bA y)]) (tY p0 p1):=by
 intro r h
 rw [tY] at h;refine ao aZ1 (si (oi (sx 2 (cg c1_ h (kT _ _) fun y1 h=>(sx 1 (ni (xi ?_)))))));refine cd h (fun h=>?_) fun h=>?_;refine oi (sx 4 (ni (aAp ?_)));injection h with h; subst h;exact r0b;refine ki (aAp ?_);injection h with h; subst h;exact r0b
theorem aRh (y1 wY bD bC bF r) (h:aB5 y1 wY bD bC bF=some r):aXu y1 wY bD bC bF r:=by
 rw [aB5] at h;delta aXu aN6;refine si (oi (sx 2 (ni (xi (ri ?_)))));injection h with h; subst h;exact rb
theorem aXo (y2 bG y8 y9 jW lQ yF vR wC r) (h:aHj y2 bG y8 y9 jW lQ yF vR wC=some r):aTn y2 bG y8 y9 jW lQ yF vR wC r:=by
 rw [aHj] at h;delta aTn aIb;refine si (oi (sx 2 (ni (xi (ri ?_)))));injection h with h; subst h;exact rb
theorem aVi (y2 bG y8 y9 jW xL xJ vX r) (h:R4 y2 bG y8 y9 jW xL xJ vX=some r):aOy y2 bG y8 y9 jW xL xJ vX r:=by
 rw [R4] at h;delta aOy aEn;refine si (si (oi (sx 1 (cg c1_ h (kT _ _) fun y23 h=>(ni (xi ?_))))));refine cd h (fun h=>?_) fun h=>?_;refine oi (sx 1 (cg c1_ h (aS3 _) fun y24 h=>(sx 2 (ni ?_))));exact nxs (aXo _ _ _ _ _ _ _ _ _ _ h) (wr [(11,.old 11),(25,.old 25),(28,.old 28),(36,.old 36)] eS (bs_ (dW (c0:=[(vB y2.1),(.osl 11 64 13 (bG.map eF)),(.osl 25 70 3 (y8.1.map eP)),(.osl 28 57 10 (y9.1.map bN)),(.osl 36 72 11 (jW.map fV)),(vI y24.1)]) kr (aB (aP kr kr) (aB (cK (t:=11) kr kr) (aB (cK (t:=25) kr kr) (aB (cK (t:=28) kr kr) (aB (cK (t:=36) kr kr) (aB (aP kr kr) dJ)))))) bS)));refine ki ?_;exact nxs (aXo _ _ _ _ _ _ _ _ _ _ h) (wr [(11,.old 11),(25,.old 25),(28,.old 28),(36,.old 36)] eS (bs_ (dW (c0:=[(vB y2.1),(.osl 11 64 13 (bG.map eF)),(.osl 25 70 3 (y8.1.map eP)),(.osl 28 57 10 (y9.1.map bN)),(.osl 36 72 11 (jW.map fV)),(vI (-1))]) kr (aB (aP kr kr) (aB (cK (t:=11) kr kr) (aB (cK (t:=25) kr kr) (aB (cK (t:=28) kr kr) (aB (cK (t:=36) kr kr) (aB (aP kr kr) dJ)))))) bS)))
theorem aKf (p0:aL):dI Tryz.prog 73 [(.ptr 1000000 0)] [(1000000,bA p0)] (fun (y:bR×aL)=>(aDu y.1)) (fun (y:bR×aL)=>[(1000000,bA y.2)]) (zL p0):=by
 intro r h
 rw [zL] at h;refine ao bFl (si (oi (sx 1 (ni (xi (si (oi (sx 1 (cg c1_ h (G9 _ _) fun y1 h=>(sx 1 (ni (xi (si (oi (sx 2 (cg c1_ h (aUk _) fun y2 h=>(fQ (c:=[(vS y1.1),(vS y2.1),(.nil 10)]) kr kr rfl (sx 1 (ni (xi ?_))))))))))))))))))));refine eO (s':=⟨[(2,(.ptr 2 0))],[(2,aJ9 (bR.mk y1.1 y2.1 ([]:List aA))),(1000000,bA y2.2)]⟩) (wr [] eS (dW (c0:=[(vS y1.1),(vS y2.1),(.nil 10)]) kr (aB (aP kr kr) (aB (aP kr kr) (aB (dX kr kr) dJ))) bS)) ?_;injection h with h; subst h;exact rb
end Go.Proofs.YteephiaimgcliabGreatDoor
