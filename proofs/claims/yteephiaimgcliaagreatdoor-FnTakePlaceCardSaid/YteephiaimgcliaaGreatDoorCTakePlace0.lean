/- That the code computes these functions (printed by a program). -/
import Derived.Test.YteephiaimgcliaaGreatDoorAbP
import Derived.Test.YteephiaimgcliaaGreatDoorAbQ
import Derived.KernelRfl
import Derived.Test.YteephiaimgcliaaGreatDoorAbG2
import Derived.Test.YteephiaimgcliaaGreatDoorAbC3
import Derived.Test.YteephiaimgcliaaGreatDoorAbX4
import Derived.Test.YteephiaimgcliaaGreatDoorAbX3
import Derived.Test.YteephiaimgcliaaGreatDoorAbX1
import Derived.Test.YteephiaimgcliaaGreatDoorFTakePlace
import Derived.Test.YteephiaimgcliaaGreatDoorProg
namespace Go.Proofs.YteephiaimgcliaaGreatDoor
open Go Go.RowKit Go.Ab
attribute [local irreducible] avc dC aop dgo bM eU eY wkK X9 stz aDe bZ eff cO.st
def cI (n:Int):List D:=[.i .i64 n]
def cU8 (n:Int):List D:=[.i .u8 n]
def bVw (n:Int):List D:=[.i .u64 n]
def bTk (n:Int):List D:=[.i .i32 n]
def bU2 (n:Int):List D:=[.i .u32 n]
def cB (b:Bool):List D:=[.b b]
def cStr (s:List UInt8):List D:=[.s (bs s)]
def cSl {α:Type} (sz:Nat) (f:α→List D) (l:List α):List D:=[.sl sz (l.map f)]
def aV (x:aJ):List D:=[(.i .i64 x.kind),(.s (bs x.text)),(.i .i64 x.at_)]
def kM (x:aJ):V:=.agg (aV x)
def bGm (x:aJ):List V:=(aV x).map V.d
def aAg (x:bJ):List D:=[(.i .i64 x.kind),(.i .i64 x.num),(.s (bs x.text))]
def lD (x:bJ):V:=.agg (aAg x)
def aXk (x:bJ):List V:=(aAg x).map V.d
mutual
def bN:aA→List D
  | ⟨a0,a1,a2,a3,a4,a5,a6,a7⟩=>[(.i .i64 a0)]++[(.i .i64 a1)]++[(.b a2)]++aAg a3++[(.s (bs a4))]++[(.s (bs a5))]++[.sl 10 (C8 a6)]++[.sl 6 (aBz a7)]
def dX:bV→List D
  | ⟨a0,a1,a2,a3⟩=>[(.b a0)]++[(.s (bs a1))]++bN a2++[(.s (bs a3))]
def iJ:aY→List D
  | ⟨a0,a1,a2,a3,a4,a5⟩=>[(.b a0)]++[.sl 13 (aCq a1)]++[.sl 3 (aCf a2)]++[.sl 10 (C8 a3)]++[.sl 11 (aBq a4)]++[(.i .i64 a5)]
def gD:eB→List D
  | ⟨a0,a1⟩=>bN a0++[(.b a1)]
def eP:bR→List D
  | ⟨a0,a1,a2⟩=>[(.s (bs a0))]++[(.s (bs a1))]++[.sl 10 (C8 a2)]
def C8:List aA→List (List D)
  | []=>[]
  | x::l=>bN x::C8 l
def aCq:List bV→List (List D)
  | []=>[]
  | x::l=>dX x::aCq l
def aBz:List aY→List (List D)
  | []=>[]
  | x::l=>iJ x::aBz l
def aBq:List eB→List (List D)
  | []=>[]
  | x::l=>gD x::aBq l
def aCf:List bR→List (List D)
  | []=>[]
  | x::l=>eP x::aCf l
end
theorem O7:∀ l:List aA,C8 l=l.map bN
  | []=>by simp only [C8,List.map_nil]
  | x::l=>by simp only [C8,List.map_cons,O7 l]
theorem Y3:∀ l:List bV,aCq l=l.map dX
  | []=>by simp only [aCq,List.map_nil]
  | x::l=>by simp only [aCq,List.map_cons,Y3 l]
theorem U9:∀ l:List aY,aBz l=l.map iJ
  | []=>by simp only [aBz,List.map_nil]
  | x::l=>by simp only [aBz,List.map_cons,U9 l]
theorem O5:∀ l:List eB,aBq l=l.map gD
  | []=>by simp only [aBq,List.map_nil]
  | x::l=>by simp only [aBq,List.map_cons,O5 l]
theorem N8:∀ l:List bR,aCf l=l.map eP
  | []=>by simp only [aCf,List.map_nil]
  | x::l=>by simp only [aCf,List.map_cons,N8 l]
def gI (x:aA):List D:=[(.i .i64 x.kind),(.i .i64 x.op),(.b x.not_),(.i .i64 x.value.kind),(.i .i64 x.value.num),(.s (bs x.value.text)),(.s (bs x.qual)),(.s (bs x.name)),(.sl 10 (x.kids.map bN)),(.sl 6 (x.sub.map iJ))]
def pK (x:bV):List D:=[(.b x.star),(.s (bs x.qual)),(.i .i64 x.expr.kind),(.i .i64 x.expr.op),(.b x.expr.not_),(.i .i64 x.expr.value.kind),(.i .i64 x.expr.value.num),(.s (bs x.expr.value.text)),(.s (bs x.expr.qual)),(.s (bs x.expr.name)),(.sl 10 (x.expr.kids.map bN)),(.sl 6 (x.expr.sub.map iJ)),(.s (bs x.as_))]
def pY (x:aY):List D:=[(.b x.distinct),(.sl 13 (x.items.map dX)),(.sl 3 (x.from_.map eP)),(.sl 10 (x.where_.map bN)),(.sl 11 (x.order.map gD)),(.i .i64 x.limit)]
def qO (x:eB):List D:=[(.i .i64 x.expr.kind),(.i .i64 x.expr.op),(.b x.expr.not_),(.i .i64 x.expr.value.kind),(.i .i64 x.expr.value.num),(.s (bs x.expr.value.text)),(.s (bs x.expr.qual)),(.s (bs x.expr.name)),(.sl 10 (x.expr.kids.map bN)),(.sl 6 (x.expr.sub.map iJ)),(.b x.desc)]
def qE (x:bR):List D:=[(.s (bs x.table)),(.s (bs x.as_)),(.sl 10 (x.on_.map bN))]
theorem gU (x:aA):bN x=gI x:=by
  obtain ⟨a0,a1,a2,a3,a4,a5,a6,a7⟩:=x
  simp only [bN,gI,O7,Y3,U9,O5,N8,List.cons_append,List.nil_append,aAg]
theorem uF (x:bV):dX x=pK x:=by
  obtain ⟨a0,a1,a2,a3⟩:=x
  simp only [dX,pK,O7,Y3,U9,O5,N8,gU,gI,List.cons_append,List.nil_append]
theorem wZ (x:aY):iJ x=pY x:=by
  obtain ⟨a0,a1,a2,a3,a4,a5⟩:=x
  simp only [iJ,pY,O7,Y3,U9,O5,N8,List.cons_append,List.nil_append]
theorem zP (x:eB):gD x=qO x:=by
  obtain ⟨a0,a1⟩:=x
  simp only [gD,qO,O7,Y3,U9,O5,N8,gU,gI,List.cons_append,List.nil_append]
theorem wS (x:bR):eP x=qE x:=by
  obtain ⟨a0,a1,a2⟩:=x
  simp only [eP,qE,O7,Y3,U9,O5,N8,List.cons_append,List.nil_append]
def bX (x:aA):V:=.agg (gI x)
def fJ (x:aA):List V:=(gI x).map V.d
def qG (x:bV):V:=.agg (pK x)
def aB7 (x:bV):List V:=(pK x).map V.d
def nL (x:aY):V:=.agg (pY x)
def R8 (x:aY):List V:=(pY x).map V.d
def xB (x:eB):V:=.agg (qO x)
def bIw (x:eB):List V:=(qO x).map V.d
def aDx (x:bR):V:=.agg (qE x)
def aM6 (x:bR):List V:=(qE x).map V.d
def aKd (x:aP):List D:=[(.sl 3 (x.list.map aV)),(.i .i64 x.at_),(.b x.failed)]
def bW9 (x:aP):V:=.agg (aKd x)
def bA (x:aP):List V:=(aKd x).map V.d
def aIx (x:aU):List D:=[(.sl 3 (x.t.map aV)),(.i .i64 x.at_),(.b x.bad)]
def bUa (x:aU):V:=.agg (aIx x)
def bU (x:aU):List V:=(aIx x).map V.d
def aOc (x:aQ):List D:=[(.sl 1 (x.b.map cU8)),(.i .i64 x.i),(.i .i64 x.h)]
def bWh (x:aQ):V:=.agg (aOc x)
def cZ (x:aQ):List V:=(aOc x).map V.d
instance:Enc aJ:=⟨aV,aV,(fun _=>rfl)⟩
instance:Enc (List UInt8):=⟨cStr,cStr,(fun _=>rfl)⟩
instance:Enc aY:=⟨iJ,pY,wZ⟩
instance:Enc aA:=⟨bN,gI,gU⟩
instance:Enc bV:=⟨dX,pK,uF⟩
instance:Enc eB:=⟨gD,qO,zP⟩
instance:Enc bR:=⟨eP,qE,wS⟩
theorem kr {p:Prop} (h:p:=by kernel_rfl):p:=h
def jB (l:List Int):V:=.d (.sl 1 (l.map cI))
def zX (l:List (List UInt8)):V:=.d (.sl 1 (l.map cStr))
def uL (l:List Int):V:=.d (.sl 1 (l.map cU8))
def iY (l:List aJ):V:=.d (.sl 3 (l.map aV))
def A9 (l:List bR):V:=.d (.sl 3 (l.map eP))
def aMj (l:List aA):V:=.d (.sl 10 (l.map bN))
def aX:V:=(.d (.s (bs [])))
def aR:V:=(.d (.i .i64 0))
def eH:V:=(.d (.b false))
def fB:List V:=[aR,aR,eH,aR,aR,aX,aX,aX,(.nil 10),(.nil 6)]
def uY:List V:=[eH,(.nil 13),(.nil 3),(.nil 10),(.nil 11),aR]
def aEr:List V:=[eH,aX,aR,aR,eH,aR,aR,aX,aX,aX,(.nil 10),(.nil 6),aX]
def aJ0:List V:=[aR,aR,eH,aR,aR,aX,aX,aX,(.nil 10),(.nil 6),eH]
def aZ4:AC:=(.seq (.ops [.asg 2 (kB false)]) (.seq (.seq (.ops [.mv 8 0,.call (some 9) 4 [8]]) (.cond 9 (.seq (.ops [.asg 2 (kB true)]) .ret) .skip)) (.seq (.ops [.mv 10 0,.call (some 11) 5 [10],.asg 3 11]) (.seq (.ops [.mv 13 3,.call (some 14) 6 [13],.mv 12 14,.ext 15 12 0,.ext 16 12 1,.alc 4 fB,.st 10 4 15,.asg 5 16]) (.seq (.ops [.mv 18 3,.call (some 19) 7 [18],.mv 17 19,.ext 20 17 0,.ext 21 17 1,.alc 6 fB,.st 10 6 20,.asg 7 21]) (.seq (.seq (.ops [.mv 22 5,.mv 23 7,.bin 24 .neq 22 23]) (.cond 24 (.seq (.ops [.asg 2 (kB false)]) .ret) .skip)) (.seq (.seq (.ops [.mv 25 5,.bin 26 .lss 25 (kI 0)]) (.cond 26 (.seq (.ops [.mv 27 3,.call (some 28) 8 [27],.asg 2 28]) .ret) .skip)) (.seq (.ops [.mv 29 5,.mv 30 3,.len 31 30,.bin 32 .leq 29 31,.mv 33 32,.g 33 true (.mv 34 3),.g 33 true (.mv 35 5),.g 33 true (.slc 36 3 34 none (some 35) none),.g 33 true (.call (some 37) 8 [36]),.pick 38 33 37 (kB false),.mv 39 38,.g 39 true (.mv 40 5),.g 39 true (.mv 41 3),.g 39 true (.len 42 41),.g 39 true (.bin 43 .eql 40 42),.g 39 true (.mv 44 43),.g 44 false (.mv 45 3),.g 44 false (.mv 46 5),.g 44 false (.bin 47 .add 46 (kI 1)),.g 44 false (.slc 48 3 45 none (some 47) none),.g 44 false (.call (some 49) 8 [48]),.g 44 false (.not 50 49),.g 39 true (.pick 51 44 (kB true) 50),.pick 52 39 51 (kB false),.asg 2 52]) .ret))))))))
theorem bA1:bQ Tryz.prog 3=some (aZ4,[.mv 0 2],53):=by kernel_rfl
def bWe (r:Bool):Exit→St→Prop:=bM [.mv 0 2] fun x _=>x=(fun y=>(vB y)) r
def bLe:AC:=(.seq (.ops [.asg 2 (kB false)]) (.seq (.ops [.mv 6 0,.call (some 7) 6 [6],.mv 5 7,.ext 8 5 0,.ext 9 5 1,.alc 3 fB,.st 10 3 8,.asg 4 9]) (.seq (.ops [.mv 10 4,.bin 11 .lss 10 (kI 0),.mv 12 11,.g 12 false (.mv 13 4),.g 12 false (.mv 14 0),.g 12 false (.len 15 14),.g 12 false (.bin 16 .eql 13 15),.pick 17 12 (kB true) 16,.asg 2 17]) .ret)))
theorem bIx:bQ Tryz.prog 8=some (bLe,[.mv 0 2],18):=by kernel_rfl
def bV0 (r:Bool):Exit→St→Prop:=bM [.mv 0 2] fun x _=>x=(fun y=>(vB y)) r
def bM8:AC:=(.seq (.ops [.alc 2 fB,.asg 3 (kI 0)]) (.seq (.ops [.mv 7 0,.bld 8 [(.nil 3),aR,eH] [(0,1,7)],.box 9 43 8,.asg 4 9]) (.seq (.ops [.mv 10 4,.call (some 11) 13 [10],.alc 5 fB,.st 10 5 11]) (.seq (.seq (.ops [.mv 12 4,.call (some 13) 14 [12],.asg 6 13]) (.seq (.ops [.mv 14 6,.bin 15 .geq 14 (kI 0)]) (.cond 15 (.seq (.ops [.bld 16 [aR,aR,eH,aR,aR,aX,aX,aX,(.nil 10),(.nil 6)] [],.mv 17 6,.st 10 2 16,.asg 3 17]) .ret) .skip))) (.seq (.ops [.ld 18 10 true 5,.st 10 2 18,.asg 3 (kI (-1))]) .ret)))))
theorem aZ8:bQ Tryz.prog 6=some (bM8,[.ld 0 10 true 2,.mv 0 3],19):=by kernel_rfl
def bVk (r:aA×Int):Exit→St→Prop:=bM [.ld 0 10 true 2,.mv 0 3] fun x _=>x=(fun y=>(.tup [(bX y.1),(vI y.2)])) r
def bNf:AC:=(.seq (.ops [.asg 2 (kI 0)]) (.seq (.seq (.dops [[],[0],[1],[2],[3],[4],[5,4],[6,4],[7,4],[4],[9,4],[10,4],[11,4],[12,4],[8,13,4],[4,14]] [.mv 3 0,.nck 4 3,.fa 5 2 4,.ld 6 1 false 5,.mv 7 6,.g 7 false (.mv 8 0),.g 7 false (.nck 9 8),.g 7 false (.fa 10 1 9),.g 7 false (.ld 11 1 false 10),.g 7 false (.mv 12 0),.g 7 false (.nck 13 12),.g 7 false (.fa 14 0 13),.g 7 false (.ld 15 1 false 14),.g 7 false (.len 16 15),.g 7 false (.bin 17 .lss 11 16),.pick 18 7 (kB true) 17]) (.cond 18 (.seq (.ops [.mv 19 0,.nck 20 19,.fa 21 1 20,.ld 22 1 false 21,.asg 2 22]) .ret) .skip)) (.seq (.ops [.asg 2 (kI (-1))]) .ret)))
theorem bI5:bQ Tryz.prog 14=some (bNf,[.mv 0 2],23):=by kernel_rfl
def bWg (p0:aP) (r:Int):Exit→St→Prop:=bM [.mv 0 2] fun x b=>x=(fun (y:Int)=>(vI y)) r∧bI ((fun (y:Int)=>[(1000000,bA p0)]) r) b
def bAo:AC:=(.seq (.ops [.alc 2 fB]) (.seq (.ops [.mv 3 0,.mv 4 0,.mkf 5 1000031 [4],.bsl 6 3 1 [(kI 1)],.call (some 7) 30 [3,5,6],.st 10 2 7]) .ret))
theorem bDx:bQ Tryz.prog 13=some (bAo,[.ld 0 10 true 2],8):=by kernel_rfl
def bVf (r:aA×aP):Exit→St→Prop:=bM [.ld 0 10 true 2] fun x b=>x=(fun (y:aA×aP)=>(bX y.1)) r∧bI ((fun (y:aA×aP)=>[(1000000,bA y.2)]) r) b
def aIs:AC:=(.loop (.block 1 (.seq (.ops [.mv 11 0,.mv 12 2,.call (some 13) 54 [11,12],.asg 8 13]) (.seq (.seq (.ops [.mv 14 8,.bin 15 .eql 14 (kI 0)]) (.cond 15 (.seq (.ops [.ld 16 10 true 7,.st 10 6 16]) .ret) .skip)) (.dops [[],[],[],[2],[0,1,3,3],[4,4,0,1,2,3,4]] [.mv 17 8,.ld 18 10 true 7,.mv 19 1,.callv (some 20) 19 [],.call (some 21) 55 [17,18,20],.st 10 7 21])))))
def bKe:AC:=(.seq (.ops [.alc 6 fB]) (.seq (.ops [.mv 9 1,.callv (some 10) 9 [],.alc 7 fB,.st 10 7 10]) (.block 0 aIs)))
theorem bAb:bQ Tryz.prog 30=some (bKe,[.ld 0 10 true 6],22):=by kernel_rfl
def bHr (r:aA×aP):Exit→St→Prop:=bM [.ld 0 10 true 6] fun x b=>x=(fun (y:aA×aP)=>(bX y.1)) r∧bI ((fun (y:aA×aP)=>[(1000000,bA y.2)]) r) b
def bMy (r:aA×aP):Exit→St→Prop:=(eY 0 (bHr r))
def bOl (p2:List Int) (dF:Int) (dN:Int) (dJ:Bool) (dW:Int) (dV:Int) (bH:(List UInt8)×(List UInt8)×(List UInt8)×(List aA)×(List aY)×(List aJ)×Int×Bool):St:=⟨[(0,(.ptr 1000000 0)),(1,(.fn 1000031 [(.ptr 1000000 0)])),(2,(jB p2)),(6,(.ptr 6 0)),(7,(.ptr 7 0))],[(6,[(vI 0),(vI 0),(vB false),(vI 0),(vI 0),(vS []),(vS []),(vS []),(.nil 10),(.nil 6)]),(7,fJ (aA.mk dF dN dJ (bJ.mk dW dV bH.1) bH.2.1 bH.2.2.1 bH.2.2.2.1 bH.2.2.2.2.1)),(1000000,bA (aP.mk bH.2.2.2.2.2.1 bH.2.2.2.2.2.2.1 bH.2.2.2.2.2.2.2))]⟩
abbrev aD8:=fun p2 dF dN dJ dW dV bH r=>avc Tryz.prog aIs (bMy r) (bOl p2 dF dN dJ dW dV bH)
def bDj:AC:=(.seq (.ops [.alc 2 fB]) (.seq (.ops [.mv 3 0,.mv 4 0,.mkf 5 1000056 [4],.bsl 6 3 1 [(kI 2)],.call (some 7) 30 [3,5,6],.st 10 2 7]) .ret))
theorem bPl:bQ Tryz.prog 31=some (bDj,[.ld 0 10 true 2],8):=by kernel_rfl
def bVo (r:aA×aP):Exit→St→Prop:=bM [.ld 0 10 true 2] fun x b=>x=(fun (y:aA×aP)=>(bX y.1)) r∧bI ((fun (y:aA×aP)=>[(1000000,bA y.2)]) r) b
def aOk:AC:=(.loop (.block 1 (.seq (.ops [.mv 11 0,.mv 12 2,.call (some 13) 54 [11,12],.asg 8 13]) (.seq (.seq (.ops [.mv 14 8,.bin 15 .eql 14 (kI 0)]) (.cond 15 (.seq (.ops [.ld 16 10 true 7,.st 10 6 16]) .ret) .skip)) (.dops [[],[],[],[2],[0,1,3,3],[4,4,0,1,2,3,4]] [.mv 17 8,.ld 18 10 true 7,.mv 19 1,.callv (some 20) 19 [],.call (some 21) 55 [17,18,20],.st 10 7 21])))))
def bGb:AC:=(.seq (.ops [.alc 6 fB]) (.seq (.ops [.mv 9 1,.callv (some 10) 9 [],.alc 7 fB,.st 10 7 10]) (.block 0 aOk)))
theorem bF4:bQ Tryz.prog 30=some (bGb,[.ld 0 10 true 6],22):=by kernel_rfl
def bGx (r:aA×aP):Exit→St→Prop:=bM [.ld 0 10 true 6] fun x b=>x=(fun (y:aA×aP)=>(bX y.1)) r∧bI ((fun (y:aA×aP)=>[(1000000,bA y.2)]) r) b
def bRa (r:aA×aP):Exit→St→Prop:=(eY 0 (bGx r))
def bM0 (p2:List Int) (dF:Int) (dN:Int) (dJ:Bool) (dW:Int) (dV:Int) (bH:(List UInt8)×(List UInt8)×(List UInt8)×(List aA)×(List aY)×(List aJ)×Int×Bool):St:=⟨[(0,(.ptr 1000000 0)),(1,(.fn 1000056 [(.ptr 1000000 0)])),(2,(jB p2)),(6,(.ptr 6 0)),(7,(.ptr 7 0))],[(6,[(vI 0),(vI 0),(vB false),(vI 0),(vI 0),(vS []),(vS []),(vS []),(.nil 10),(.nil 6)]),(7,fJ (aA.mk dF dN dJ (bJ.mk dW dV bH.1) bH.2.1 bH.2.2.1 bH.2.2.2.1 bH.2.2.2.2.1)),(1000000,bA (aP.mk bH.2.2.2.2.2.1 bH.2.2.2.2.2.2.1 bH.2.2.2.2.2.2.2))]⟩
abbrev aHw:=fun p2 dF dN dJ dW dV bH r=>avc Tryz.prog aOk (bRa r) (bM0 p2 dF dN dJ dW dV bH)
def bKr:AC:=(.seq (.ops [.alc 2 fB]) (.seq (.seq (.ops [.mv 3 0,.call (some 4) 77 [3,(.c (.d (.s (bs [78,79,84]))))]]) (.cond 4 (.seq (.ops [.mv 5 0,.call (some 6) 56 [5],.bsl 7 31 10 [6],.bld 8 [aR,aR,eH,aR,aR,aX,aX,aX,(.nil 10),(.nil 6)] [(0,1,(kI 3)),(1,1,(kI 15)),(8,1,7)],.st 10 2 8]) .ret) .skip)) (.seq (.ops [.mv 9 0,.call (some 10) 78 [9],.st 10 2 10]) .ret)))
theorem bOb:bQ Tryz.prog 56=some (bKr,[.ld 0 10 true 2],11):=by kernel_rfl
def bUk (r:aA×aP):Exit→St→Prop:=bM [.ld 0 10 true 2] fun x b=>x=(fun (y:aA×aP)=>(bX y.1)) r∧bI ((fun (y:aA×aP)=>[(1000000,bA y.2)]) r) b
def aJs:AC:=(.seq (.ops [.mv 17 5,.asg 4 17]) .ret)
def bC7:AC:=(.seq (.ops [.asg 4 (kB false)]) (.seq (.ops [.mv 6 0,.mv 7 1,.call (some 8) 85 [6,7],.asg 5 8]) (.seq (.seq (.ops [.mv 9 5]) (.cond 9 (.ops [.mv 10 0,.nck 11 10,.fa 12 1 11,.ld 13 1 false 12,.bin 14 .add 13 (kI 1),.nck 15 10,.fa 16 1 15,.st 1 16 14]) .skip)) aJs)))
theorem bNn:bQ Tryz.prog 77=some (bC7,[.mv 0 4],18):=by kernel_rfl
def bOz (r:Bool×aP):Exit→St→Prop:=bM [.mv 0 4] fun x b=>x=(fun (y:Bool×aP)=>(vB y.1)) r∧bI ((fun (y:Bool×aP)=>[(1000000,bA y.2)]) r) b
def bAh (y1:Bool) (p0:aP) (bC:Int):St:=⟨[(5,(vB y1))],[(1000000,bA (aP.mk p0.list bC p0.failed))]⟩
abbrev aXx:=fun y1 p0 bC r=>avc Tryz.prog aJs (bOz r) (bAh y1 p0 bC)
def bDb:AC:=(.seq (.ops [.asg 4 (kB false)]) (.seq (.ops [.mv 5 0,.mv 6 1,.call (some 7) 75 [5,(kI 0),(kI 1),6],.asg 4 7]) .ret))
theorem bJa:bQ Tryz.prog 85=some (bDb,[.mv 0 4],8):=by kernel_rfl
def bTa (p0:aP) (r:Bool):Exit→St→Prop:=bM [.mv 0 4] fun x b=>x=(fun (y:Bool)=>(vB y)) r∧bI ((fun (y:Bool)=>[(1000000,bA p0)]) r) b
def bHb:AC:=(.seq (.ops [.asg 8 (kB false)]) (.seq (.ops [.mv 10 0,.nck 11 10,.fa 12 1 11,.ld 13 1 false 12,.mv 14 1,.bin 15 .add 13 14,.asg 9 15]) (.seq (.ops [.mv 16 0,.nck 17 16,.fa 18 2 17,.ld 19 1 false 18,.not 20 19,.mv 21 20,.g 21 true (.mv 22 9),.g 21 true (.mv 23 0),.g 21 true (.nck 24 23),.g 21 true (.fa 25 0 24),.g 21 true (.ld 26 1 false 25),.g 21 true (.len 27 26),.g 21 true (.bin 28 .lss 22 27),.pick 29 21 28 (kB false),.mv 30 29,.g 30 true (.mv 31 0),.g 30 true (.nck 32 31),.g 30 true (.fa 33 0 32),.g 30 true (.ld 34 1 false 33),.g 30 true (.mv 35 9),.g 30 true (.ia 36 3 34 35),.g 30 true (.fa 37 0 36),.g 30 true (.ld 38 1 false 37),.g 30 true (.mv 39 2),.g 30 true (.bin 40 .eql 38 39),.pick 41 30 40 (kB false),.mv 42 41,.g 42 true (.mv 43 0),.g 42 true (.nck 44 43),.g 42 true (.fa 45 0 44),.g 42 true (.ld 46 1 false 45),.g 42 true (.mv 47 9),.g 42 true (.ia 48 3 46 47),.g 42 true (.fa 49 1 48),.g 42 true (.ld 50 1 false 49),.g 42 true (.mv 51 3),.g 42 true (.bin 52 .eql 50 51),.pick 53 42 52 (kB false),.asg 8 53]) .ret)))
theorem bF8:bQ Tryz.prog 75=some (bHb,[.mv 0 8],54):=by kernel_rfl
def bTm (p0:aP) (r:Bool):Exit→St→Prop:=bM [.mv 0 8] fun x b=>x=(fun (y:Bool)=>(vB y)) r∧bI ((fun (y:Bool)=>[(1000000,bA p0)]) r) b
def bCg:AC:=(.seq (.ops [.alc 2 fB]) (.seq (.ops [.mv 8 0,.call (some 9) 86 [8],.alc 3 fB,.st 10 3 9]) (.seq (.seq (.ops [.mv 10 0,.bsl 11 3 1 [(kI 3),(kI 4),(kI 5),(kI 6),(kI 7),(kI 8)],.call (some 12) 54 [10,11],.asg 4 12]) (.seq (.ops [.mv 13 4,.bin 14 .neq 13 (kI 0)]) (.cond 14 (.seq (.dops [[],[],[],[2],[0,1,3,3],[4,4,0,1,2,3,4]] [.mv 15 4,.ld 16 10 true 3,.mv 17 0,.call (some 18) 86 [17],.call (some 19) 55 [15,16,18],.st 10 2 19]) .ret) .skip))) (.seq (.seq (.ops [.mv 20 0,.call (some 21) 77 [20,(.c (.d (.s (bs [73,83]))))]]) (.cond 21 (.seq (.ops [.mv 22 0,.call (some 23) 77 [22,(.c (.d (.s (bs [78,79,84]))))],.asg 5 23]) (.seq (.ops [.mv 24 0,.call (some 25) 87 [24,(.c (.d (.s (bs [78,85,76,76]))))]]) (.seq (.ops [.mv 26 5,.ld 27 10 true 3,.bsl 28 31 10 [27],.bld 29 [aR,aR,eH,aR,aR,aX,aX,aX,(.nil 10),(.nil 6)] [(0,1,(kI 5)),(2,1,26),(8,1,28)],.st 10 2 29]) .ret))) .skip)) (.seq (.ops [.mv 30 0,.call (some 31) 77 [30,(.c (.d (.s (bs [78,79,84]))))],.asg 6 31]) (.seq (.block 0 (.seq (.ops [.mv 33 0,.call (some 34) 77 [33,(.c (.d (.s (bs [66,69,84,87,69,69,78]))))],.asg 32 34]) (.cond 32 (.seq (.ops [.mv 35 0,.call (some 36) 86 [35],.alc 7 fB,.st 10 7 36]) (.seq (.ops [.mv 37 0,.call (some 38) 87 [37,(.c (.d (.s (bs [65,78,68]))))]]) (.seq (.dops [[],[],[],[],[3],[1,2,4],[0,5],[6,4,0,1,2,3,4,5,6]] [.mv 39 6,.ld 40 10 true 3,.ld 41 10 true 7,.mv 42 0,.call (some 43) 86 [42],.bsl 44 31 10 [40,41,43],.bld 45 [aR,aR,eH,aR,aR,aX,aX,aX,(.nil 10),(.nil 6)] [(0,1,(kI 6)),(2,1,39),(8,1,44)],.st 10 2 45]) .ret))) (.seq (.ops [.mv 47 0,.call (some 48) 77 [47,(.c (.d (.s (bs [73,78]))))],.asg 46 48]) (.cond 46 (.seq (.ops [.mv 49 0,.ld 50 10 true 3,.mv 51 6,.call (some 52) 88 [49,50,51],.st 10 2 52]) .ret) .skip))))) (.seq (.ops [.mv 53 0,.mv 54 0,.nck 55 54,.fa 56 2 55,.ld 57 1 false 56,.mv 58 57,.g 58 false (.mv 59 6),.pick 60 58 (kB true) 59,.nck 61 53,.fa 62 2 61,.st 1 62 60]) (.seq (.ops [.ld 63 10 true 3,.st 10 2 63]) .ret))))))))
theorem bQ0:bQ Tryz.prog 78=some (bCg,[.ld 0 10 true 2],64):=by kernel_rfl
def bVd (r:aA×aP):Exit→St→Prop:=bM [.ld 0 10 true 2] fun x b=>x=(fun (y:aA×aP)=>(bX y.1)) r∧bI ((fun (y:aA×aP)=>[(1000000,bA y.2)]) r) b
def bJ6:AC:=(.seq (.ops [.alc 2 fB]) (.seq (.ops [.mv 3 0,.mv 4 0,.mkf 5 1000094 [4],.bsl 6 3 1 [(kI 9)],.call (some 7) 30 [3,5,6],.st 10 2 7]) .ret))
theorem bOe:bQ Tryz.prog 86=some (bJ6,[.ld 0 10 true 2],8):=by kernel_rfl
def bTn (r:aA×aP):Exit→St→Prop:=bM [.ld 0 10 true 2] fun x b=>x=(fun (y:aA×aP)=>(bX y.1)) r∧bI ((fun (y:aA×aP)=>[(1000000,bA y.2)]) r) b
def aNr:AC:=(.loop (.block 1 (.seq (.ops [.mv 11 0,.mv 12 2,.call (some 13) 54 [11,12],.asg 8 13]) (.seq (.seq (.ops [.mv 14 8,.bin 15 .eql 14 (kI 0)]) (.cond 15 (.seq (.ops [.ld 16 10 true 7,.st 10 6 16]) .ret) .skip)) (.dops [[],[],[],[2],[0,1,3,3],[4,4,0,1,2,3,4]] [.mv 17 8,.ld 18 10 true 7,.mv 19 1,.callv (some 20) 19 [],.call (some 21) 55 [17,18,20],.st 10 7 21])))))
def bA6:AC:=(.seq (.ops [.alc 6 fB]) (.seq (.ops [.mv 9 1,.callv (some 10) 9 [],.alc 7 fB,.st 10 7 10]) (.block 0 aNr)))
theorem bEw:bQ Tryz.prog 30=some (bA6,[.ld 0 10 true 6],22):=by kernel_rfl
def bCs (r:aA×aP):Exit→St→Prop:=bM [.ld 0 10 true 6] fun x b=>x=(fun (y:aA×aP)=>(bX y.1)) r∧bI ((fun (y:aA×aP)=>[(1000000,bA y.2)]) r) b
def bM3 (r:aA×aP):Exit→St→Prop:=(eY 0 (bCs r))
def bAv (p2:List Int) (dF:Int) (dN:Int) (dJ:Bool) (dW:Int) (dV:Int) (bH:(List UInt8)×(List UInt8)×(List UInt8)×(List aA)×(List aY)×(List aJ)×Int×Bool):St:=⟨[(0,(.ptr 1000000 0)),(1,(.fn 1000094 [(.ptr 1000000 0)])),(2,(jB p2)),(6,(.ptr 6 0)),(7,(.ptr 7 0))],[(6,[(vI 0),(vI 0),(vB false),(vI 0),(vI 0),(vS []),(vS []),(vS []),(.nil 10),(.nil 6)]),(7,fJ (aA.mk dF dN dJ (bJ.mk dW dV bH.1) bH.2.1 bH.2.2.1 bH.2.2.2.1 bH.2.2.2.2.1)),(1000000,bA (aP.mk bH.2.2.2.2.2.1 bH.2.2.2.2.2.2.1 bH.2.2.2.2.2.2.2))]⟩
abbrev aFy:=fun p2 dF dN dJ dW dV bH r=>avc Tryz.prog aNr (bM3 r) (bAv p2 dF dN dJ dW dV bH)
def bQe:AC:=(.seq (.ops [.alc 2 fB]) (.seq (.ops [.mv 3 0,.mv 4 0,.mkf 5 1000098 [4],.bsl 6 3 1 [(kI 10),(kI 11)],.call (some 7) 30 [3,5,6],.st 10 2 7]) .ret))
theorem bDo:bQ Tryz.prog 94=some (bQe,[.ld 0 10 true 2],8):=by kernel_rfl
def bVc (r:aA×aP):Exit→St→Prop:=bM [.ld 0 10 true 2] fun x b=>x=(fun (y:aA×aP)=>(bX y.1)) r∧bI ((fun (y:aA×aP)=>[(1000000,bA y.2)]) r) b
def aLo:AC:=(.loop (.block 1 (.seq (.ops [.mv 11 0,.mv 12 2,.call (some 13) 54 [11,12],.asg 8 13]) (.seq (.seq (.ops [.mv 14 8,.bin 15 .eql 14 (kI 0)]) (.cond 15 (.seq (.ops [.ld 16 10 true 7,.st 10 6 16]) .ret) .skip)) (.dops [[],[],[],[2],[0,1,3,3],[4,4,0,1,2,3,4]] [.mv 17 8,.ld 18 10 true 7,.mv 19 1,.callv (some 20) 19 [],.call (some 21) 55 [17,18,20],.st 10 7 21])))))
def bDs:AC:=(.seq (.ops [.alc 6 fB]) (.seq (.ops [.mv 9 1,.callv (some 10) 9 [],.alc 7 fB,.st 10 7 10]) (.block 0 aLo)))
theorem bNq:bQ Tryz.prog 30=some (bDs,[.ld 0 10 true 6],22):=by kernel_rfl
def bA9 (r:aA×aP):Exit→St→Prop:=bM [.ld 0 10 true 6] fun x b=>x=(fun (y:aA×aP)=>(bX y.1)) r∧bI ((fun (y:aA×aP)=>[(1000000,bA y.2)]) r) b
def bPz (r:aA×aP):Exit→St→Prop:=(eY 0 (bA9 r))
def bD4 (p2:List Int) (dF:Int) (dN:Int) (dJ:Bool) (dW:Int) (dV:Int) (bH:(List UInt8)×(List UInt8)×(List UInt8)×(List aA)×(List aY)×(List aJ)×Int×Bool):St:=⟨[(0,(.ptr 1000000 0)),(1,(.fn 1000098 [(.ptr 1000000 0)])),(2,(jB p2)),(6,(.ptr 6 0)),(7,(.ptr 7 0))],[(6,[(vI 0),(vI 0),(vB false),(vI 0),(vI 0),(vS []),(vS []),(vS []),(.nil 10),(.nil 6)]),(7,fJ (aA.mk dF dN dJ (bJ.mk dW dV bH.1) bH.2.1 bH.2.2.1 bH.2.2.2.1 bH.2.2.2.2.1)),(1000000,bA (aP.mk bH.2.2.2.2.2.1 bH.2.2.2.2.2.2.1 bH.2.2.2.2.2.2.2))]⟩
abbrev aD3:=fun p2 dF dN dJ dW dV bH r=>avc Tryz.prog aLo (bPz r) (bD4 p2 dF dN dJ dW dV bH)
def bPf:AC:=(.seq (.ops [.box 4 31 1,.box 5 31 2,.alc 6 fB]) (.seq (.ops [.mv 7 0,.ld 8 10 true 4,.ld 9 10 true 5,.bsl 10 31 10 [8,9],.bld 11 [aR,aR,eH,aR,aR,aX,aX,aX,(.nil 10),(.nil 6)] [(0,1,(kI 4)),(1,1,7),(8,1,10)],.st 10 6 11]) .ret))
theorem bLp:bQ Tryz.prog 55=some (bPf,[.ld 0 10 true 6],12):=by kernel_rfl
def bTo (r:aA):Exit→St→Prop:=bM [.ld 0 10 true 6] fun x _=>x=(fun y=>(bX y)) r
def bLz:AC:=(.seq (.ops [.alc 2 fB]) (.seq (.ops [.mv 3 0,.mv 4 0,.mkf 5 1000105 [4],.bsl 6 3 1 [(kI 12),(kI 13),(kI 14)],.call (some 7) 30 [3,5,6],.st 10 2 7]) .ret))
theorem bDh:bQ Tryz.prog 98=some (bLz,[.ld 0 10 true 2],8):=by kernel_rfl
def bV1 (r:aA×aP):Exit→St→Prop:=bM [.ld 0 10 true 2] fun x b=>x=(fun (y:aA×aP)=>(bX y.1)) r∧bI ((fun (y:aA×aP)=>[(1000000,bA y.2)]) r) b
def aJ8:AC:=(.loop (.block 1 (.seq (.ops [.mv 11 0,.mv 12 2,.call (some 13) 54 [11,12],.asg 8 13]) (.seq (.seq (.ops [.mv 14 8,.bin 15 .eql 14 (kI 0)]) (.cond 15 (.seq (.ops [.ld 16 10 true 7,.st 10 6 16]) .ret) .skip)) (.dops [[],[],[],[2],[0,1,3,3],[4,4,0,1,2,3,4]] [.mv 17 8,.ld 18 10 true 7,.mv 19 1,.callv (some 20) 19 [],.call (some 21) 55 [17,18,20],.st 10 7 21])))))
def bBn:AC:=(.seq (.ops [.alc 6 fB]) (.seq (.ops [.mv 9 1,.callv (some 10) 9 [],.alc 7 fB,.st 10 7 10]) (.block 0 aJ8)))
theorem bMx:bQ Tryz.prog 30=some (bBn,[.ld 0 10 true 6],22):=by kernel_rfl
def bIm (r:aA×aP):Exit→St→Prop:=bM [.ld 0 10 true 6] fun x b=>x=(fun (y:aA×aP)=>(bX y.1)) r∧bI ((fun (y:aA×aP)=>[(1000000,bA y.2)]) r) b
def bF3 (r:aA×aP):Exit→St→Prop:=(eY 0 (bIm r))
def bKk (p2:List Int) (dF:Int) (dN:Int) (dJ:Bool) (dW:Int) (dV:Int) (bH:(List UInt8)×(List UInt8)×(List UInt8)×(List aA)×(List aY)×(List aJ)×Int×Bool):St:=⟨[(0,(.ptr 1000000 0)),(1,(.fn 1000105 [(.ptr 1000000 0)])),(2,(jB p2)),(6,(.ptr 6 0)),(7,(.ptr 7 0))],[(6,[(vI 0),(vI 0),(vB false),(vI 0),(vI 0),(vS []),(vS []),(vS []),(.nil 10),(.nil 6)]),(7,fJ (aA.mk dF dN dJ (bJ.mk dW dV bH.1) bH.2.1 bH.2.2.1 bH.2.2.2.1 bH.2.2.2.2.1)),(1000000,bA (aP.mk bH.2.2.2.2.2.1 bH.2.2.2.2.2.2.1 bH.2.2.2.2.2.2.2))]⟩
abbrev aE8:=fun p2 dF dN dJ dW dV bH r=>avc Tryz.prog aJ8 (bF3 r) (bKk p2 dF dN dJ dW dV bH)
def aOe:AC:=(.seq (.ops [.mv 20 0,.mv 21 7,.mv 22 6,.call (some 23) 76 [22],.call (some 24) 75 [20,(kI 0),21,23]]) (.cond 24 (.seq (.ops [.mv 25 0,.nck 26 25,.fa 27 1 26,.ld 28 1 false 27,.bin 29 .add 28 (kI 1),.nck 30 25,.fa 31 1 30,.st 1 31 29]) (.seq (.ops [.mv 32 6,.asg 4 32]) .ret)) .skip))
def aQa:AC:=(.ops [.bin 33 .add 10 (kI 1),.mv 10 33])
def aEh:AC:=(.loop (.seq (.ops [.bin 11 .lss 10 9]) (.seq (.cond 11 .skip (.exit 0)) (.seq (.block 1 (.seq (.ops [.ia 12 1 8 10,.ld 13 1 false 12,.asg 6 13]) (.seq (.ops [.asg 7 (kI 5)]) (.seq (.seq (.ops [.mv 14 6,.bin 15 .eql 14 (kI 1),.mv 16 15,.g 16 false (.mv 17 6),.g 16 false (.bin 18 .eql 17 (kI 2)),.pick 19 16 (kB true) 18]) (.cond 19 (.ops [.asg 7 (kI 1)]) .skip)) aOe)))) aQa))))
def aPf:AC:=(.seq (.ops [.asg 4 (kI 0)]) .ret)
def bEi:AC:=(.seq (.ops [.asg 4 (kI 0)]) (.seq (.seq (.ops [.mv 8 1,.len 9 8,.mv 10 (kI 0)]) (.block 0 aEh)) aPf))
theorem bPi:bQ Tryz.prog 54=some (bEi,[.mv 0 4],34):=by kernel_rfl
def aU8 (r:Int×aP):Exit→St→Prop:=bM [.mv 0 4] fun x b=>x=(fun (y:Int×aP)=>(vI y.1)) r∧bI ((fun (y:Int×aP)=>[(1000000,bA y.2)]) r) b
def bQv (r:Int×aP):Exit→St→Prop:=(eU (wkK (avc Tryz.prog aPf (aU8 r))) (aU8 r))
def aL4 (r:Int×aP):Exit→St→Prop:=(eY 0 (bQv r))
def aTb (r:Int×aP):Exit→St→Prop:=(eU (avc Tryz.prog aEh (aL4 r)) (aL4 r))
def bT2 (r:Int×aP):Exit→St→Prop:=(eU (wkK (avc Tryz.prog aQa (aTb r))) (aTb r))
def bRc (r:Int×aP):Exit→St→Prop:=(eY 1 (bT2 r))
def bKg (p1:List Int) (p0:aP) (x10:Int):St:=⟨[(0,(.ptr 1000000 0)),(8,(jB p1)),(9,(vI (p1.length:Int))),(10,(vI x10))],[(1000000,bA p0)]⟩
abbrev aHq:=fun p1 p0 x10 r=>avc Tryz.prog aEh (aL4 r) (bKg p1 p0 x10)
def bCq (y1:Int) (p1:List Int) (x10:Int) (p0:aP) (x7:Int):St:=⟨[(0,(.ptr 1000000 0)),(6,(vI y1)),(7,(vI x7)),(8,(jB p1)),(9,(vI (p1.length:Int))),(10,(vI x10))],[(1000000,bA p0)]⟩
abbrev aDa:=fun y1 p1 x10 p0 x7 r=>avc Tryz.prog aOe (bRc r) (bCq y1 p1 x10 p0 x7)
def bOh:AC:=(.seq (.ops [.asg 2 (.c (.d (.s (bs []))))]) (.seq (.seq (.ops [.mv 3 0,.bin 4 .lss 3 (kI 1),.mv 5 4,.g 5 false (.mv 6 0),.g 5 false (.bin 7 .gtr 6 (kI 16)),.pick 8 5 (kB true) 7]) (.cond 8 (.seq (.ops [.asg 2 (.c (.d (.s (bs []))))]) .ret) .skip)) (.seq (.ops [.bsl 9 9 1 [(.c (.d (.s (bs [79,82])))),(.c (.d (.s (bs [65,78,68])))),(.c (.d (.s (bs [61])))),(.c (.d (.s (bs [60,62])))),(.c (.d (.s (bs [60])))),(.c (.d (.s (bs [60,61])))),(.c (.d (.s (bs [62])))),(.c (.d (.s (bs [62,61])))),(.c (.d (.s (bs [124,124])))),(.c (.d (.s (bs [43])))),(.c (.d (.s (bs [45])))),(.c (.d (.s (bs [42])))),(.c (.d (.s (bs [47])))),(.c (.d (.s (bs [37])))),(.c (.d (.s (bs [78,79,84])))),(.c (.d (.s (bs [45]))))],.mv 10 0,.bin 11 .sub 10 (kI 1),.ia 12 1 9 11,.ld 13 1 false 12,.asg 2 13]) .ret)))
theorem bF9:bQ Tryz.prog 76=some (bOh,[.mv 0 2],14):=by kernel_rfl
def bTv (r:List UInt8):Exit→St→Prop:=bM [.mv 0 2] fun x _=>x=(fun y=>(vS y)) r
def bFo:AC:=(.seq (.ops [.alc 2 fB]) (.seq (.seq (.ops [.mv 3 0,.call (some 4) 99 [3,(.c (.d (.s (bs [45]))))]]) (.cond 4 (.seq (.ops [.mv 5 0,.call (some 6) 105 [5],.bsl 7 31 10 [6],.bld 8 [aR,aR,eH,aR,aR,aX,aX,aX,(.nil 10),(.nil 6)] [(0,1,(kI 3)),(1,1,(kI 16)),(8,1,7)],.st 10 2 8]) .ret) .skip)) (.seq (.ops [.mv 9 0,.call (some 10) 112 [9],.st 10 2 10]) .ret)))
theorem bG9:bQ Tryz.prog 105=some (bFo,[.ld 0 10 true 2],11):=by kernel_rfl
def bVz (r:aA×aP):Exit→St→Prop:=bM [.ld 0 10 true 2] fun x b=>x=(fun (y:aA×aP)=>(bX y.1)) r∧bI ((fun (y:aA×aP)=>[(1000000,bA y.2)]) r) b
def aLa:AC:=(.seq (.ops [.mv 17 5,.asg 4 17]) .ret)
def aYv:AC:=(.seq (.ops [.asg 4 (kB false)]) (.seq (.ops [.mv 6 0,.mv 7 1,.call (some 8) 106 [6,7],.asg 5 8]) (.seq (.seq (.ops [.mv 9 5]) (.cond 9 (.ops [.mv 10 0,.nck 11 10,.fa 12 1 11,.ld 13 1 false 12,.bin 14 .add 13 (kI 1),.nck 15 10,.fa 16 1 15,.st 1 16 14]) .skip)) aLa)))
theorem bNt:bQ Tryz.prog 99=some (aYv,[.mv 0 4],18):=by kernel_rfl
def bQg (r:Bool×aP):Exit→St→Prop:=bM [.mv 0 4] fun x b=>x=(fun (y:Bool×aP)=>(vB y.1)) r∧bI ((fun (y:Bool×aP)=>[(1000000,bA y.2)]) r) b
def bPv (y1:Bool) (p0:aP) (bC:Int):St:=⟨[(5,(vB y1))],[(1000000,bA (aP.mk p0.list bC p0.failed))]⟩
abbrev aPm:=fun y1 p0 bC r=>avc Tryz.prog aLa (bQg r) (bPv y1 p0 bC)
def bPx:AC:=(.seq (.ops [.asg 4 (kB false)]) (.seq (.ops [.mv 5 0,.mv 6 1,.call (some 7) 75 [5,(kI 0),(kI 5),6],.asg 4 7]) .ret))
theorem bBh:bQ Tryz.prog 106=some (bPx,[.mv 0 4],8):=by kernel_rfl
def bUf (p0:aP) (r:Bool):Exit→St→Prop:=bM [.mv 0 4] fun x b=>x=(fun (y:Bool)=>(vB y)) r∧bI ((fun (y:Bool)=>[(1000000,bA p0)]) r) b
def bSe:AC:=(.seq (.ops [.alc 2 fB]) (.seq (.block 0 (.seq (.ops [.mv 7 0,.call (some 8) 107 [7,(kI 3)],.asg 6 8]) (.cond 6 (.seq (.ops [.mv 9 0,.call (some 10) 104 [9],.call (some 11) 117 [10],.call (some 12) 116 [11],.st 10 2 12]) .ret) (.seq (.ops [.mv 14 0,.call (some 15) 107 [14,(kI 4)],.asg 13 15]) (.cond 13 (.seq (.ops [.mv 16 0,.call (some 17) 108 [16,(kI 4)],.call (some 18) 118 [17],.call (some 19) 116 [18],.st 10 2 19]) .ret) (.seq (.ops [.mv 21 0,.call (some 22) 77 [21,(.c (.d (.s (bs [78,85,76,76]))))],.asg 20 22]) (.cond 20 (.seq (.ops [.bld 23 [aR,aR,aX] [],.call (some 24) 116 [23],.st 10 2 24]) .ret) (.seq (.ops [.mv 26 0,.call (some 27) 77 [26,(.c (.d (.s (bs [84,82,85,69]))))],.asg 25 27]) (.cond 25 (.seq (.ops [.call (some 28) 119 [(kB true)],.call (some 29) 116 [28],.st 10 2 29]) .ret) (.seq (.ops [.mv 31 0,.call (some 32) 77 [31,(.c (.d (.s (bs [70,65,76,83,69]))))],.asg 30 32]) (.cond 30 (.seq (.ops [.call (some 33) 119 [(kB false)],.call (some 34) 116 [33],.st 10 2 34]) .ret) (.seq (.ops [.mv 36 0,.call (some 37) 107 [36,(kI 2)],.asg 35 37]) (.cond 35 (.seq (.ops [.mv 38 0,.call (some 39) 108 [38,(kI 2)],.asg 3 39]) (.seq (.seq (.ops [.mv 40 0,.call (some 41) 99 [40,(.c (.d (.s (bs [46]))))]]) (.cond 41 (.seq (.ops [.mv 42 3,.mv 43 0,.call (some 44) 108 [43,(kI 2)],.bld 45 [aR,aR,eH,aR,aR,aX,aX,aX,(.nil 10),(.nil 6)] [(0,1,(kI 2)),(6,1,42),(7,1,44)],.st 10 2 45]) .ret) .skip)) (.seq (.ops [.mv 46 3,.bld 47 [aR,aR,eH,aR,aR,aX,aX,aX,(.nil 10),(.nil 6)] [(0,1,(kI 2)),(7,1,46)],.st 10 2 47]) .ret))) (.seq (.ops [.mv 49 0,.call (some 50) 99 [49,(.c (.d (.s (bs [40]))))],.asg 48 50]) (.cond 48 (.seq (.ops [.mv 51 0,.call (some 52) 13 [51],.alc 4 fB,.st 10 4 52]) (.seq (.ops [.mv 53 0,.call (some 54) 95 [53,(.c (.d (.s (bs [41]))))]]) (.seq (.ops [.ld 55 10 true 4,.st 10 2 55]) .ret))) (.seq (.ops [.mv 57 0,.call (some 58) 77 [57,(.c (.d (.s (bs [69,88,73,83,84,83]))))],.asg 56 58]) (.cond 56 (.seq (.ops [.mv 59 0,.call (some 60) 95 [59,(.c (.d (.s (bs [40]))))]]) (.seq (.ops [.mv 61 0,.call (some 62) 96 [61],.alc 5 uY,.st 6 5 62]) (.seq (.ops [.mv 63 0,.call (some 64) 95 [63,(.c (.d (.s (bs [41]))))]]) (.seq (.ops [.ld 65 6 true 5,.bsl 66 67 6 [65],.bld 67 [aR,aR,eH,aR,aR,aX,aX,aX,(.nil 10),(.nil 6)] [(0,1,(kI 9)),(9,1,66)],.st 10 2 67]) .ret)))) .skip))))))))))))))))) (.seq (.ops [.mv 68 0,.nck 69 68,.fa 70 2 69,.st 1 70 (kB true)]) (.seq (.ops [.bld 71 [aR,aR,eH,aR,aR,aX,aX,aX,(.nil 10),(.nil 6)] [],.st 10 2 71]) .ret))))
theorem bKo:bQ Tryz.prog 112=some (bSe,[.ld 0 10 true 2],72):=by kernel_rfl
def bTl (r:aA×aP):Exit→St→Prop:=bM [.ld 0 10 true 2] fun x b=>x=(fun (y:aA×aP)=>(bX y.1)) r∧bI ((fun (y:aA×aP)=>[(1000000,bA y.2)]) r) b
def bI3:AC:=(.seq (.ops [.asg 4 (kB false)]) (.seq (.dops [[],[0],[1],[2],[3],[4],[5],[6,5],[7,5],[8,5],[5],[10,5],[11,5],[12,5],[13,5],[9,14,5],[5,15],[16,5],[17],[18,17],[19,17],[20,17],[17],[22,17],[23,17],[24,17],[21,25,17],[26,17],[27,17],[17],[28,29,17],[17,30],[31,17],[32],[33,32],[34,32],[35,32],[32],[37,32],[38,32],[39,32],[36,40,32],[41,32],[42,32,32],[32,43],[44,43,0,1,2,3,4,5,6,7,8,9,10,11,12,13,14,15,16,17,18,19,20,21,22,23,24,25,26,27,28,29,30,31,32,33,34,35,36,37,38,39,40,41,42,43,44]] [.mv 5 0,.nck 6 5,.fa 7 2 6,.ld 8 1 false 7,.not 9 8,.mv 10 9,.g 10 true (.mv 11 0),.g 10 true (.nck 12 11),.g 10 true (.fa 13 1 12),.g 10 true (.ld 14 1 false 13),.g 10 true (.mv 15 0),.g 10 true (.nck 16 15),.g 10 true (.fa 17 0 16),.g 10 true (.ld 18 1 false 17),.g 10 true (.len 19 18),.g 10 true (.bin 20 .lss 14 19),.pick 21 10 20 (kB false),.mv 22 21,.g 22 true (.mv 23 0),.g 22 true (.nck 24 23),.g 22 true (.fa 25 0 24),.g 22 true (.ld 26 1 false 25),.g 22 true (.mv 27 0),.g 22 true (.nck 28 27),.g 22 true (.fa 29 1 28),.g 22 true (.ld 30 1 false 29),.g 22 true (.ia 31 3 26 30),.g 22 true (.fa 32 0 31),.g 22 true (.ld 33 1 false 32),.g 22 true (.mv 34 1),.g 22 true (.bin 35 .eql 33 34),.pick 36 22 35 (kB false),.mv 37 36,.g 37 true (.mv 38 0),.g 37 true (.nck 39 38),.g 37 true (.fa 40 0 39),.g 37 true (.ld 41 1 false 40),.g 37 true (.mv 42 0),.g 37 true (.nck 43 42),.g 37 true (.fa 44 1 43),.g 37 true (.ld 45 1 false 44),.g 37 true (.ia 46 3 41 45),.g 37 true (.ld 47 3 true 46),.g 37 true (.call (some 48) 113 [47]),.pick 49 37 48 (kB false),.asg 4 49]) .ret))
theorem bK1:bQ Tryz.prog 107=some (bI3,[.mv 0 4],50):=by kernel_rfl
def bTb (p0:aP) (r:Bool):Exit→St→Prop:=bM [.mv 0 4] fun x b=>x=(fun (y:Bool)=>(vB y)) r∧bI ((fun (y:Bool)=>[(1000000,bA p0)]) r) b
def bQw:AC:=(.seq (.ops [.box 1 56 0,.asg 2 (kB false)]) (.seq (.seq (.ops [.fa 5 0 1,.ld 6 1 false 5]) (.block 0 (.seq (.ops [.bin 8 .eql 6 (kI 1),.asg 7 8]) (.cond 7 (.seq (.dops [[],[0],[1],[2],[3,2],[4],[5,4],[6,4,4],[4],[8,4],[7,9,4],[4,10],[11,7,0,1,2,3,4,5,6,7,8,9,10,11]] [.fa 9 1 1,.ld 10 1 false 9,.call (some 11) 120 [10],.bin 12 .neq 11 (kI 0),.mv 13 12,.g 13 true (.fa 14 1 1),.g 13 true (.ld 15 1 false 14),.g 13 true (.call (some 16) 121 [15]),.g 13 true (.fa 17 1 1),.g 13 true (.ld 18 1 false 17),.g 13 true (.bin 19 .eql 16 18),.pick 20 13 19 (kB false),.asg 2 20]) .ret) (.seq (.ops [.bin 22 .eql 6 (kI 2),.asg 21 22]) (.cond 21 (.seq (.ops [.fa 23 1 1,.ld 24 1 false 23,.call (some 25) 122 [24],.asg 2 25]) .ret) (.seq (.ops [.bin 27 .eql 6 (kI 3),.asg 26 27]) (.cond 26 (.seq (.ops [.fa 29 1 1,.ld 30 1 false 29,.call (some 31) 111 [30],.mv 28 31,.ext 32 28 0,.ext 33 28 1,.asg 3 32,.asg 4 33]) (.seq (.ops [.mv 34 4,.asg 2 34]) .ret)) (.seq (.ops [.bin 36 .eql 6 (kI 4),.asg 35 36]) (.cond 35 (.seq (.ops [.fa 37 1 1,.ld 38 1 false 37,.lns 39 38,.bin 40 .leq 39 (kI 40),.asg 2 40]) .ret) (.seq (.ops [.bin 42 .eql 6 (kI 5),.asg 41 42]) (.cond 41 (.seq (.ops [.fa 43 1 1,.ld 44 1 false 43,.call (some 45) 123 [44],.asg 2 45]) .ret) .skip)))))))))))) (.seq (.ops [.asg 2 (kB false)]) .ret)))
theorem bNd:bQ Tryz.prog 113=some (bQw,[.mv 0 2],46):=by kernel_rfl
def bX1 (r:Bool):Exit→St→Prop:=bM [.mv 0 2] fun x _=>x=(fun y=>(vB y)) r
def aYr:AC:=(.seq (.ops [.asg 2 (kB false)]) (.seq (.ops [.call (some 3) 130 [],.mv 4 0,.call (some 5) 129 [3,4],.asg 2 5]) .ret))
theorem aZn:bQ Tryz.prog 123=some (aYr,[.mv 0 2],6):=by kernel_rfl
def bV9 (r:Bool):Exit→St→Prop:=bM [.mv 0 2] fun x _=>x=(fun y=>(vB y)) r
def bBs:AC:=(.seq (.ops [.asg 4 (kB false)]) (.seq (.ops [.mv 5 0,.mv 6 1,.call (some 7) 127 [5,6],.bin 8 .geq 7 (kI 0),.asg 4 8]) .ret))
theorem bH4:bQ Tryz.prog 129=some (bBs,[.mv 0 4],9):=by kernel_rfl
def bX3 (r:Bool):Exit→St→Prop:=bM [.mv 0 4] fun x _=>x=(fun y=>(vB y)) r
def aOl:AC:=(.loop (.seq (.ops [.bin 9 .lss 8 7]) (.seq (.cond 9 .skip (.exit 0)) (.seq (.block 1 (.seq (.ops [.mv 10 8,.asg 5 10]) (.seq (.ops [.mv 11 1,.mv 12 0,.mv 13 5,.ia 14 1 12 13,.ld 15 1 false 14,.bin 16 .eql 11 15]) (.cond 16 (.seq (.ops [.mv 17 5,.asg 4 17]) .ret) .skip)))) (.ops [.bin 18 .add 8 (kI 1),.mv 8 18])))))
def aXu:AC:=(.seq (.ops [.asg 4 (kI (-1))]) .ret)
def bC9:AC:=(.seq (.ops [.asg 4 (kI 0)]) (.seq (.seq (.ops [.mv 6 0,.len 7 6,.mv 8 (kI 0)]) (.block 0 aOl)) aXu))
theorem bNy:bQ Tryz.prog 127=some (bC9,[.mv 0 4],19):=by kernel_rfl
def aR4 (r:Int):Exit→St→Prop:=bM [.mv 0 4] fun x _=>x=(fun y=>(vI y)) r
def bSy (r:Int):Exit→St→Prop:=(eU (wkK (avc Tryz.prog aXu (aR4 r))) (aR4 r))
def bCj (r:Int):Exit→St→Prop:=(eY 0 (bSy r))
def bEz (p0:List (List UInt8)) (p1:List UInt8) (x8:Int):St:=⟨[(0,(zX p0)),(1,(vS p1)),(7,(vI (p0.length:Int))),(8,(vI x8))],[]⟩
abbrev aGh:=fun p0 p1 x8 r=>avc Tryz.prog aOl (bCj r) (bEz p0 p1 x8)
def bC2:AC:=(.seq (.ops [.asg 0 (.c (.nil 1))]) (.seq (.ops [.bsl 1 9 1 [(.c (.d (.s (bs [40])))),(.c (.d (.s (bs [41])))),(.c (.d (.s (bs [44])))),(.c (.d (.s (bs [46])))),(.c (.d (.s (bs [42])))),(.c (.d (.s (bs [43])))),(.c (.d (.s (bs [45])))),(.c (.d (.s (bs [47])))),(.c (.d (.s (bs [37])))),(.c (.d (.s (bs [61])))),(.c (.d (.s (bs [60,62])))),(.c (.d (.s (bs [60])))),(.c (.d (.s (bs [60,61])))),(.c (.d (.s (bs [62])))),(.c (.d (.s (bs [62,61])))),(.c (.d (.s (bs [124,124]))))],.asg 0 1]) .ret))
theorem bPa:bQ Tryz.prog 130=some (bC2,[.mv 0 0],2):=by kernel_rfl
def bUp (r:List (List UInt8)):Exit→St→Prop:=bM [.mv 0 0] fun x b=>x=(fun (y:List (List UInt8))=>(.osl 2000000 9 1 (y.map cStr))) r∧bI ((fun (y:List (List UInt8))=>[]) r) b
set_option maxHeartbeats 2000000 in
set_option maxRecDepth 100000 in
theorem aTt (n : Int) (h0 : -9223372036854775808 ≤ n) (h1 : n ≤ 9223372036854775807) (w : World) (hv : H8 0 1 2 w) :
    Calls Tryz.prog 115 #[.int .i64 n] w fun e w'=>e=.returned (.string ⟨(Lib.itoa n).toArray⟩)∧jN w w':=by
  go_enter Tryz.func115,Tryz.ntmps115
  go_wp2_with (go_at_call 126; refine (bKv (g15:=0) (g16:=1) sh171 n h0 h1 _ hv).mono ?_; rintro e w' ⟨rfl,hw⟩)
  go_ret
  exact ⟨rfl,hw⟩
set_option maxHeartbeats 4000000 in
set_option maxRecDepth 100000 in
theorem bFs:aJ7 Tryz.prog 111 0 1 2:=by
  intro s w hs hv
  by_cases hok:∃ v,Lib.atoiAll s.data.toList=.ok v
  · obtain ⟨v,hc⟩:=hok
    have hb:=Lib.atoiAll_bounds hc
    by_cases hneg:v<0
    · have hr:iZ s.data.toList=(0,false):=by unfold iZ; rw [hc]; simp only; rw [if_pos hneg]
      rw [hr]
      go_enter Tryz.func111,Tryz.ntmps111
      go_wp2_with (go_at_call 114; refine (aKp sh172 s hs v hc _).mono ?_; rintro e w' ⟨rfl,hw⟩)
      go_ret2
      exact ⟨rfl,hw⟩
    · by_cases he:Lib.itoa v=s.data.toList
      · have hr:iZ s.data.toList=(v,true):=by unfold iZ; rw [hc]; simp only; rw [if_neg hneg,if_pos he]
        have hes:(⟨(Lib.itoa v).toArray⟩:ByteArray)=s:=by rw [he]
        rw [hr]
        go_enter Tryz.func111,Tryz.ntmps111
        go_wp2_with (go_at_call 114; refine (aKp sh172 s hs v hc _).mono ?_; rintro e w' ⟨rfl,hw⟩)
        go_wp2_with (go_at_call 115; refine (aTt v hb.1 hb.2 _ (hv.grow hw)).mono ?_; rintro e w2 ⟨rfl,hw2⟩; rw [hes])
        go_ret2
        exact ⟨rfl,hw.trans hw2⟩
      · have hr:iZ s.data.toList=(0,false):=by unfold iZ; rw [hc]; simp only; rw [if_neg hneg,if_neg he]
        have hne:(⟨(Lib.itoa v).toArray⟩:ByteArray)≠s:=fun e=>he (by rw [← e])
        rw [hr]
        generalize hz:(⟨(Lib.itoa v).toArray⟩:ByteArray)=z at hne
        go_enter Tryz.func111,Tryz.ntmps111
        go_wp2_with (go_at_call 114; refine (aKp sh172 s hs v hc _).mono ?_; rintro e w' ⟨rfl,hw⟩)
        go_wp2_with (go_at_call 115; refine (aTt v hb.1 hb.2 _ (hv.grow hw)).mono ?_; rintro e w2 ⟨rfl,hw2⟩; rw [hz])
        · go_ret2
          exact ⟨rfl,hw.trans hw2⟩
        · rename_i hh
          have h2:z.data.toList=s.data.toList:=by
            have:=hh.2
            rw [Lib.toList_data,Lib.toList_data] at this
            simpa using this
          exact absurd ((Lib.mk_data z).symm.trans ((congrArg (fun l:List UInt8=>(⟨l.toArray⟩:ByteArray)) h2).trans (Lib.mk_data s))) hne
  · have hno:∀ v,Lib.atoiAll s.data.toList≠.ok v:=fun v e=>hok ⟨v,e⟩
    have hr:iZ s.data.toList=(0,false):=by
      unfold iZ
      split
      · rename_i n hn; exact absurd hn (hno n)
      · rfl
    rw [hr]
    obtain ⟨v,hcall⟩:=bBc sh172 s hs hno w hv
    go_enter Tryz.func111,Tryz.ntmps111
    go_wp2_with (go_at_call 114; refine hcall.mono ?_)
    rintro e w' ⟨t,N,rfl,hw⟩
    go_wp2
    go_ret2
    exact ⟨rfl,hw⟩
def aJf:AC:=(.ops [.bin 27 .add 10 (kI 1),.mv 10 27])
def aHx:AC:=(.loop (.seq (.ops [.bin 11 .lss 10 9]) (.seq (.cond 11 .skip (.exit 0)) (.seq (.block 1 (.seq (.ops [.mv 12 10,.ia 13 1 8 10,.ld 14 1 false 13,.asg 4 12,.asg 5 14]) (.seq (.ops [.mv 15 5,.bin 16 .geq 15 (.c (.d (.i .u8 97))),.mv 17 16,.g 17 true (.mv 18 5),.g 17 true (.bin 19 .leq 18 (.c (.d (.i .u8 122)))),.pick 20 17 19 (kB false)]) (.cond 20 (.ops [.mv 21 3,.mv 22 4,.mv 23 5,.bin 24 .sub 23 (.c (.d (.i .u8 97))),.bin 25 .add 24 (.c (.d (.i .u8 65))),.ia 26 1 21 22,.st 1 26 25]) .skip)))) aJf))))
def aFj:AC:=(.seq (.ops [.mv 28 3,.cbs 29 28,.asg 2 29]) .ret)
def bHj:AC:=(.seq (.ops [.asg 2 (.c (.d (.s (bs []))))]) (.seq (.ops [.mv 6 0,.csb 7 5 6,.asg 3 7]) (.seq (.seq (.ops [.mv 8 3,.len 9 8,.mv 10 (kI 0)]) (.block 0 aHx)) aFj)))
theorem aZ5:bQ Tryz.prog 121=some (bHj,[.mv 0 2],30):=by kernel_rfl
def aLg (r:List UInt8):Exit→St→Prop:=bM [.mv 0 2] fun x _=>x=(fun y=>(vS y)) r
def bC8 (r:List UInt8):Exit→St→Prop:=(eU (wkK (avc Tryz.prog aFj (aLg r))) (aLg r))
def aLz (r:List UInt8):Exit→St→Prop:=(eY 0 (bC8 r))
def bH7 (r:List UInt8):Exit→St→Prop:=(eU (avc Tryz.prog aHx (aLz r)) (aLz r))
def bNu (p0:List UInt8) (x10:Int) (iP:List Int):St:=⟨[(3,(.tre 60015000)),(8,(.tre 60015000)),(9,(vI ((jL p0).length:Int))),(10,(vI x10))],[(60015000,[(.trc 1 (iP.map cU8))])]⟩
abbrev aDo:=fun p0 x10 iP r=>avc Tryz.prog aHx (aLz r) (bNu p0 x10 iP)
def bJ7 (p0:List UInt8) (x10:Int) (nK:List Int):St:=⟨[(3,(.tre 60050000)),(8,(.tre 60050000)),(9,(vI ((jL p0).length:Int))),(10,(vI x10))],[(60050000,[(.trc 1 (nK.map cU8))])]⟩
abbrev aE1:=fun p0 x10 nK r=>avc Tryz.prog aJf (bH7 r) (bJ7 p0 x10 nK)
def bO4 (x3:List Int):St:=⟨[(3,(uL x3))],[]⟩
abbrev aPu:=fun x3 r=>avc Tryz.prog aFj (aLg r) (bO4 x3)
def bDy:AC:=(.seq (.ops [.asg 2 (kI 0)]) (.seq (.ops [.call (some 3) 128 [],.mv 4 0,.call (some 5) 121 [4],.call (some 6) 127 [3,5],.bin 7 .add 6 (kI 1),.asg 2 7]) .ret))
theorem bFj:bQ Tryz.prog 120=some (bDy,[.mv 0 2],8):=by kernel_rfl
def bUe (r:Int):Exit→St→Prop:=bM [.mv 0 2] fun x _=>x=(fun y=>(vI y)) r
def bMp:AC:=(.seq (.ops [.asg 0 (.c (.nil 1))]) (.seq (.ops [.call (some 1) 137 [(.c (.d (.s (bs [83,69,76,69,67,84,32,68,73,83,84,73,78,67,84,32,70,82,79,77,32,74,79,73,78,32,79,78,32,87,72,69,82,69,32,79,82,68,69,82,32,66,89,32,65,83,67,32,68,69,83,67,32,76,73,77,73,84,32,65,83,32,65,78,68,32,79,82,32,78,79,84,32,73,83,32,73,78,32,66,69,84,87,69,69,78,32,69,88,73,83,84,83,32,78,85,76,76,32,84,82,85,69,32,70,65,76,83,69,32,73,78,83,69,82,84,32,73,78,84,79,32,86,65,76,85,69,83,32,85,80,68,65,84,69,32,83,69,84,32,68,69,76,69,84,69])))),(.c (.d (.s (bs [32]))))],.asg 0 1]) .ret))
theorem bId:bQ Tryz.prog 128=some (bMp,[.mv 0 0],2):=by kernel_rfl
def bWw (r:List (List UInt8)):Exit→St→Prop:=bM [.mv 0 0] fun x _=>x=(fun y=>(zX y)) r

def bCi:AC:=(.seq (.ops [.asg 2 (kB false)]) (.seq (.ops [.mv 3 0,.lns 4 3,.bin 5 .geq 4 (kI 1),.mv 6 5,.g 6 true (.mv 7 0),.g 6 true (.lns 8 7),.g 6 true (.bin 9 .leq 8 (kI 20)),.pick 10 6 9 (kB false),.asg 2 10]) .ret))
theorem aZu:bQ Tryz.prog 122=some (bCi,[.mv 0 2],11):=by kernel_rfl
def bVe (r:Bool):Exit→St→Prop:=bM [.mv 0 2] fun x _=>x=(fun y=>(vB y)) r
def bPs:AC:=(.seq (.ops [.alc 2 [aR,aR,aX]]) (.seq (.ops [.mv 3 0,.bld 4 [aR,aR,aX] [(0,1,(kI 1)),(1,1,3)],.st 3 2 4]) .ret))
theorem aYm:bQ Tryz.prog 117=some (bPs,[.ld 0 3 true 2],5):=by kernel_rfl
def bWs (r:bJ):Exit→St→Prop:=bM [.ld 0 3 true 2] fun x _=>x=(fun y=>(lD y)) r
def bG4:AC:=(.seq (.ops [.mv 4 0,.mv 5 1,.call (some 6) 99 [4,5],.not 7 6]) (.cond 7 (.ops [.mv 8 0,.nck 9 8,.fa 10 2 9,.st 1 10 (kB true)]) .skip))
theorem bCn:bQ Tryz.prog 95=some (bG4,[],11):=by kernel_rfl
def bV2 (r:aP):Exit→St→Prop:=bM [] fun x b=>x=(fun (y:aP)=>(.tup [])) r∧bI ((fun (y:aP)=>[(1000000,bA y)]) r) b
def aZy:AC:=(.seq (.ops [.box 1 27 0,.alc 2 fB]) (.seq (.ops [.ld 3 3 true 1,.bld 4 [aR,aR,eH,aR,aR,aX,aX,aX,(.nil 10),(.nil 6)] [(0,1,(kI 1)),(3,3,3)],.st 10 2 4]) .ret))
theorem bLn:bQ Tryz.prog 116=some (aZy,[.ld 0 10 true 2],5):=by kernel_rfl
def bW3 (r:aA):Exit→St→Prop:=bM [.ld 0 10 true 2] fun x _=>x=(fun y=>(bX y)) r
def bS2:AC:=(.seq (.ops [.asg 2 (kI 0)]) (.seq (.ops [.mv 6 0,.call (some 7) 108 [6,(kI 3)],.call (some 8) 111 [7],.mv 5 8,.ext 9 5 0,.ext 10 5 1,.asg 3 9,.asg 4 10]) (.seq (.ops [.mv 11 3,.asg 2 11]) .ret)))
theorem bT5:bQ Tryz.prog 104=some (bS2,[.mv 0 2],12):=by kernel_rfl
def bWa (r:Int×aP):Exit→St→Prop:=bM [.mv 0 2] fun x b=>x=(fun (y:Int×aP)=>(vI y.1)) r∧bI ((fun (y:Int×aP)=>[(1000000,bA y.2)]) r) b
def aYf:AC:=(.seq (.ops [.asg 4 (.c (.d (.s (bs []))))]) (.seq (.seq (.ops [.mv 5 0,.mv 6 1,.call (some 7) 107 [5,6],.not 8 7]) (.cond 8 (.seq (.ops [.mv 9 0,.nck 10 9,.fa 11 2 10,.st 1 11 (kB true)]) (.seq (.ops [.asg 4 (.c (.d (.s (bs []))))]) .ret)) .skip)) (.seq (.ops [.mv 12 0,.nck 13 12,.fa 14 1 13,.ld 15 1 false 14,.bin 16 .add 15 (kI 1),.nck 17 12,.fa 18 1 17,.st 1 18 16]) (.seq (.dops [[],[0],[1],[2],[],[4],[5],[6],[7],[3,8],[9],[10],[11,0,1,2,3,4,5,6,7,8,9,10,11]] [.mv 19 0,.nck 20 19,.fa 21 0 20,.ld 22 1 false 21,.mv 23 0,.nck 24 23,.fa 25 1 24,.ld 26 1 false 25,.bin 27 .sub 26 (kI 1),.ia 28 3 22 27,.fa 29 1 28,.ld 30 1 false 29,.asg 4 30]) .ret))))
theorem bB0:bQ Tryz.prog 108=some (aYf,[.mv 0 4],31):=by kernel_rfl
def bV3 (r:(List UInt8)×aP):Exit→St→Prop:=bM [.mv 0 4] fun x b=>x=(fun (y:(List UInt8)×aP)=>(vS y.1)) r∧bI ((fun (y:(List UInt8)×aP)=>[(1000000,bA y.2)]) r) b
def aN1:AC:=(.loop (.seq (.seq (.ops [.mv 13 0,.call (some 14) 99 [13,(.c (.d (.s (bs [44]))))]]) (.cond 14 .skip (.exit 0))) (.block 1 (.dops [[],[0],[],[2],[3],[1,4,3],[0,1,2,3,4,5],[6,5,5,0,1,2,3,4,5]] [.fa 15 1 3,.ld 16 1 false 15,.mv 17 0,.call (some 18) 100 [17],.bsl 19 89 13 [18],.app 20 89 13 176 16 19,.fa 21 1 3,.st 1 21 20]))))
def aJk:AC:=(.loop (.seq (.seq (.ops [.mv 38 0,.call (some 39) 99 [38,(.c (.d (.s (bs [44]))))]]) (.cond 39 .skip (.exit 2))) (.block 3 (.dops [[],[0],[],[2],[3],[1,4,3],[0,1,2,3,4,5],[6,5,5,0,1,2,3,4,5]] [.fa 40 4 3,.ld 41 1 false 40,.mv 42 0,.call (some 43) 103 [42],.bsl 44 93 11 [43],.app 45 93 11 144 41 44,.fa 46 4 3,.st 1 46 45]))))
def aJz:AC:=(.seq (.ops [.ld 52 6 true 3,.st 6 2 52]) .ret)
def aE2:AC:=(.seq (.seq (.ops [.mv 47 0,.call (some 48) 77 [47,(.c (.d (.s (bs [76,73,77,73,84]))))]]) (.cond 48 (.ops [.mv 49 0,.call (some 50) 104 [49],.fa 51 5 3,.st 1 51 50]) .skip)) aJz)
def aVk:AC:=(.seq (.ops [.mv 22 0,.call (some 23) 87 [22,(.c (.d (.s (bs [70,82,79,77]))))]]) (.seq (.ops [.mv 24 0,.call (some 25) 101 [24],.fa 26 2 3,.st 1 26 25]) (.seq (.ops [.mv 27 0,.call (some 28) 102 [27],.fa 29 3 3,.st 1 29 28]) (.seq (.seq (.ops [.mv 30 0,.call (some 31) 77 [30,(.c (.d (.s (bs [79,82,68,69,82]))))]]) (.cond 31 (.seq (.ops [.mv 32 0,.call (some 33) 87 [32,(.c (.d (.s (bs [66,89]))))]]) (.seq (.ops [.mv 34 0,.call (some 35) 103 [34],.bsl 36 93 11 [35],.fa 37 4 3,.st 1 37 36]) (.block 2 aJk))) .skip)) aE2))))
def bO7:AC:=(.seq (.ops [.alc 2 uY]) (.seq (.ops [.mv 4 0,.call (some 5) 87 [4,(.c (.d (.s (bs [83,69,76,69,67,84]))))]]) (.seq (.ops [.mv 6 0,.call (some 7) 77 [6,(.c (.d (.s (bs [68,73,83,84,73,78,67,84]))))],.bld 8 [eH,(.nil 13),(.nil 3),(.nil 10),(.nil 11),aR] [(0,1,7),(5,1,(kI (-1)))],.alc 3 uY,.st 6 3 8]) (.seq (.ops [.mv 9 0,.call (some 10) 100 [9],.bsl 11 89 13 [10],.fa 12 1 3,.st 1 12 11]) (.seq (.block 0 aN1) aVk)))))
theorem bK0:bQ Tryz.prog 96=some (bO7,[.ld 0 6 true 2],53):=by kernel_rfl
def M4 (r:aY×aP):Exit→St→Prop:=bM [.ld 0 6 true 2] fun x b=>x=(fun (y:aY×aP)=>(nL y.1)) r∧bI ((fun (y:aY×aP)=>[(1000000,bA y.2)]) r) b
def bS3 (r:aY×aP):Exit→St→Prop:=(eU (wkK (avc Tryz.prog aVk (M4 r))) (M4 r))
def bRj (r:aY×aP):Exit→St→Prop:=(eY 0 (bS3 r))
def bAp (r:aY×aP):Exit→St→Prop:=(eU (wkK (avc Tryz.prog aE2 (M4 r))) (M4 r))
def bJm (r:aY×aP):Exit→St→Prop:=(eY 2 (bAp r))
def aUx (y2:Bool×aP) (bG:List bV) (bD:List aJ) (bC:Int) (bF:Bool):St:=⟨[(0,(.ptr 1000000 0)),(2,(.ptr 2 0)),(3,(.ptr 3 0))],[(2,[(vB false),(.nil 13),(.nil 3),(.nil 10),(.nil 11),(vI 0)]),(3,[(vB y2.1),(.osl 11 89 13 (bG.map dX)),(.nil 3),(.nil 10),(.nil 11),(vI (-1))]),(1000000,bA (aP.mk bD bC bF))]⟩
abbrev aDr:=fun y2 bG bD bC bF r=>avc Tryz.prog aN1 (bRj r) (aUx y2 bG bD bC bF)
def bJe (y2:Bool×aP) (bG:List bV) (y8:(List bR)×aP) (y9:(List aA)×aP) (gM:List eB) (nE:List aJ) (mE:Int×Bool):St:=⟨[(0,(.ptr 1000000 0)),(2,(.ptr 2 0)),(3,(.ptr 3 0))],[(2,[(vB false),(.nil 13),(.nil 3),(.nil 10),(.nil 11),(vI 0)]),(3,[(vB y2.1),(.osl 11 89 13 (bG.map dX)),(.osl 25 107 3 (y8.1.map eP)),(.osl 28 31 10 (y9.1.map bN)),(.osl 36 93 11 (gM.map gD)),(vI (-1))]),(1000000,bA (aP.mk nE mE.1 mE.2))]⟩
abbrev aD5:=fun y2 bG y8 y9 gM nE mE r=>avc Tryz.prog aJk (bJm r) (bJe y2 bG y8 y9 gM nE mE)
def bJo (y2:Bool×aP) (bG:List bV) (y8:(List bR)×aP) (y9:(List aA)×aP) (jZ:List eB) (yG:List aJ) (xM:Int) (wG:Bool):St:=⟨[(0,(.ptr 1000000 0)),(2,(.ptr 2 0)),(3,(.ptr 3 0))],[(2,[(vB false),(.nil 13),(.nil 3),(.nil 10),(.nil 11),(vI 0)]),(3,[(vB y2.1),(.osl 11 89 13 (bG.map dX)),(.osl 25 107 3 (y8.1.map eP)),(.osl 28 31 10 (y9.1.map bN)),(.osl 36 93 11 (jZ.map gD)),(vI (-1))]),(1000000,bA (aP.mk yG xM wG))]⟩
abbrev aQ5:=fun y2 bG y8 y9 jZ yG xM wG r=>avc Tryz.prog aE2 (M4 r) (bJo y2 bG y8 y9 jZ yG xM wG)
def bBo (y2:Bool×aP) (bG:List bV) (y8:(List bR)×aP) (y9:(List aA)×aP) (jZ:List eB) (lJ:Int) (wF:List aJ) (wW:Int) (xH:Bool):St:=⟨[(2,(.ptr 2 0)),(3,(.ptr 3 0))],[(2,[(vB false),(.nil 13),(.nil 3),(.nil 10),(.nil 11),(vI 0)]),(3,[(vB y2.1),(.osl 11 89 13 (bG.map dX)),(.osl 25 107 3 (y8.1.map eP)),(.osl 28 31 10 (y9.1.map bN)),(.osl 36 93 11 (jZ.map gD)),(vI lJ)]),(1000000,bA (aP.mk wF wW xH))]⟩
abbrev aQo:=fun y2 bG y8 y9 jZ lJ wF wW xH r=>avc Tryz.prog aJz (M4 r) (bBo y2 bG y8 y9 jZ lJ wF wW xH)
def bK8:AC:=(.seq (.ops [.asg 2 (.c (.nil 10))]) (.seq (.seq (.ops [.mv 3 0,.call (some 4) 77 [3,(.c (.d (.s (bs [87,72,69,82,69]))))]]) (.cond 4 (.seq (.ops [.mv 5 0,.call (some 6) 13 [5],.bsl 7 31 10 [6],.asg 2 7]) .ret) .skip)) (.seq (.ops [.asg 2 (.c (.nil 10))]) .ret)))
theorem bP1:bQ Tryz.prog 102=some (bK8,[.mv 0 2],8):=by kernel_rfl
def bWd (r:(List aA)×aP):Exit→St→Prop:=bM [.mv 0 2] fun x b=>x=(fun (y:(List aA)×aP)=>(.osl 2000000 31 10 (y.1.map bN))) r∧bI ((fun (y:(List aA)×aP)=>[(1000000,bA y.2)]) r) b
def aKt:AC:=(.loop (.block 1 (.block 2 (.seq (.ops [.mv 10 0,.call (some 11) 99 [10,(.c (.d (.s (bs [44]))))],.asg 9 11]) (.cond 9 (.ops [.mv 12 3,.mv 13 0,.call (some 14) 110 [13],.bsl 15 107 3 [14],.app 16 107 3 56 12 15,.asg 3 16]) (.seq (.ops [.mv 18 0,.call (some 19) 77 [18,(.c (.d (.s (bs [74,79,73,78]))))],.asg 17 19]) (.cond 17 (.seq (.ops [.mv 20 0,.call (some 21) 110 [20],.alc 4 [aX,aX,(.nil 10)],.st 3 4 21]) (.seq (.ops [.mv 22 0,.call (some 23) 87 [22,(.c (.d (.s (bs [79,78]))))]]) (.seq (.ops [.mv 24 0,.call (some 25) 13 [24],.bsl 26 31 10 [25],.fa 27 2 4,.st 1 27 26]) (.ops [.mv 28 3,.ld 29 3 true 4,.bsl 30 107 3 [29],.app 31 107 3 56 28 30,.asg 3 31])))) (.seq (.ops [.mv 8 3,.asg 2 8]) .ret))))))))
def bJz:AC:=(.seq (.ops [.asg 2 (.c (.nil 3))]) (.seq (.ops [.mv 5 0,.call (some 6) 110 [5],.bsl 7 107 3 [6],.asg 3 7]) (.block 0 aKt)))
theorem bA4:bQ Tryz.prog 101=some (bJz,[.mv 0 2],32):=by kernel_rfl
def bQ6 (r:(List bR)×aP):Exit→St→Prop:=bM [.mv 0 2] fun x b=>x=(fun (y:(List bR)×aP)=>(.osl 2000000 107 3 (y.1.map eP))) r∧bI ((fun (y:(List bR)×aP)=>[(1000000,bA y.2)]) r) b
def bGt (r:(List bR)×aP):Exit→St→Prop:=(eY 0 (bQ6 r))
def aYk (x3:List bR) (bD:List aJ) (bC:Int) (bF:Bool):St:=⟨[(0,(.ptr 1000000 0)),(3,(.osl 3 107 3 (x3.map eP)))],[(1000000,bA (aP.mk bD bC bF))]⟩
abbrev aFw:=fun x3 bD bC bF r=>avc Tryz.prog aKt (bGt r) (aYk x3 bD bC bF)
def bGe:AC:=(.seq (.ops [.mv 4 0,.mv 5 1,.call (some 6) 77 [4,5],.not 7 6]) (.cond 7 (.ops [.mv 8 0,.nck 9 8,.fa 10 2 9,.st 1 10 (kB true)]) .skip))
theorem bH9:bQ Tryz.prog 87=some (bGe,[],11):=by kernel_rfl
def bWf (r:aP):Exit→St→Prop:=bM [] fun x b=>x=(fun (y:aP)=>(.tup [])) r∧bI ((fun (y:aP)=>[(1000000,bA y)]) r) b
def bCv:AC:=(.seq (.ops [.alc 2 [aX,aX,(.nil 10)]]) (.seq (.ops [.mv 4 0,.call (some 5) 108 [4,(kI 2)],.asg 3 5]) (.seq (.ops [.mv 6 3,.mv 7 0,.call (some 8) 109 [7],.bld 9 [aX,aX,(.nil 10)] [(0,1,6),(1,1,8)],.st 3 2 9]) .ret)))
theorem bMb:bQ Tryz.prog 110=some (bCv,[.ld 0 3 true 2],10):=by kernel_rfl
def bUj (r:bR×aP):Exit→St→Prop:=bM [.ld 0 3 true 2] fun x b=>x=(fun (y:bR×aP)=>(aDx y.1)) r∧bI ((fun (y:bR×aP)=>[(1000000,bA y.2)]) r) b
def bEr:AC:=(.seq (.ops [.asg 2 (.c (.d (.s (bs []))))]) (.seq (.seq (.ops [.mv 3 0,.call (some 4) 77 [3,(.c (.d (.s (bs [65,83]))))]]) (.cond 4 (.seq (.ops [.mv 5 0,.call (some 6) 108 [5,(kI 2)],.asg 2 6]) .ret) .skip)) (.seq (.ops [.asg 2 (.c (.d (.s (bs []))))]) .ret)))
theorem bOv:bQ Tryz.prog 109=some (bEr,[.mv 0 2],7):=by kernel_rfl
def bVa (r:(List UInt8)×aP):Exit→St→Prop:=bM [.mv 0 2] fun x b=>x=(fun (y:(List UInt8)×aP)=>(vS y.1)) r∧bI ((fun (y:(List UInt8)×aP)=>[(1000000,bA y.2)]) r) b
def bJ4:AC:=(.seq (.ops [.alc 2 aEr]) (.seq (.block 0 (.seq (.ops [.mv 6 0,.call (some 7) 99 [6,(.c (.d (.s (bs [42]))))],.asg 5 7]) (.cond 5 (.seq (.ops [.bld 8 [eH,aX,aR,aR,eH,aR,aR,aX,aX,aX,(.nil 10),(.nil 6),aX] [(0,1,(kB true))],.st 13 2 8]) .ret) (.seq (.ops [.mv 10 0,.call (some 11) 107 [10,(kI 2)],.mv 12 11,.g 12 true (.mv 13 0),.g 12 true (.call (some 14) 75 [13,(kI 1),(kI 5),(.c (.d (.s (bs [46]))))]),.pick 15 12 14 (kB false),.mv 16 15,.g 16 true (.mv 17 0),.g 16 true (.call (some 18) 75 [17,(kI 2),(kI 5),(.c (.d (.s (bs [42]))))]),.pick 19 16 18 (kB false),.asg 9 19]) (.cond 9 (.seq (.ops [.mv 20 0,.call (some 21) 108 [20,(kI 2)],.asg 3 21]) (.seq (.ops [.mv 22 0,.nck 23 22,.fa 24 1 23,.ld 25 1 false 24,.bin 26 .add 25 (kI 2),.nck 27 22,.fa 28 1 27,.st 1 28 26]) (.seq (.ops [.mv 29 3,.bld 30 [eH,aX,aR,aR,eH,aR,aR,aX,aX,aX,(.nil 10),(.nil 6),aX] [(0,1,(kB true)),(1,1,29)],.st 13 2 30]) .ret))) .skip))))) (.seq (.ops [.mv 31 0,.call (some 32) 13 [31],.alc 4 fB,.st 10 4 32]) (.seq (.dops [[],[],[1],[0,2],[3,2,0,1,2,3]] [.ld 33 10 true 4,.mv 34 0,.call (some 35) 109 [34],.bld 36 [eH,aX,aR,aR,eH,aR,aR,aX,aX,aX,(.nil 10),(.nil 6),aX] [(2,10,33),(12,1,35)],.st 13 2 36]) .ret))))
theorem bGr:bQ Tryz.prog 100=some (bJ4,[.ld 0 13 true 2],37):=by kernel_rfl
def bUz (r:bV×aP):Exit→St→Prop:=bM [.ld 0 13 true 2] fun x b=>x=(fun (y:bV×aP)=>(qG y.1)) r∧bI ((fun (y:bV×aP)=>[(1000000,bA y.2)]) r) b
def aIj:AC:=(.seq (.ops [.ld 13 11 true 3,.st 11 2 13]) .ret)
def bE0:AC:=(.seq (.ops [.alc 2 aJ0]) (.seq (.ops [.mv 4 0,.call (some 5) 13 [4],.bld 6 [aR,aR,eH,aR,aR,aX,aX,aX,(.nil 10),(.nil 6),eH] [(0,10,5)],.alc 3 aJ0,.st 11 3 6]) (.seq (.seq (.ops [.mv 7 0,.call (some 8) 77 [7,(.c (.d (.s (bs [65,83,67]))))],.not 9 8]) (.cond 9 (.ops [.mv 10 0,.call (some 11) 77 [10,(.c (.d (.s (bs [68,69,83,67]))))],.fa 12 10 3,.st 1 12 11]) .skip)) aIj)))
theorem bSl:bQ Tryz.prog 103=some (bE0,[.ld 0 11 true 2],14):=by kernel_rfl
def bFh (r:eB×aP):Exit→St→Prop:=bM [.ld 0 11 true 2] fun x b=>x=(fun (y:eB×aP)=>(xB y.1)) r∧bI ((fun (y:eB×aP)=>[(1000000,bA y.2)]) r) b
def bJn (y1:aA×aP) (yF:Bool) (bD:List aJ) (bC:Int) (bF:Bool):St:=⟨[(2,(.ptr 2 0)),(3,(.ptr 3 0))],[(2,[(vI 0),(vI 0),(vB false),(vI 0),(vI 0),(vS []),(vS []),(vS []),(.nil 10),(.nil 6),(vB false)]),(3,bIw (eB.mk y1.1 yF)),(1000000,bA (aP.mk bD bC bF))]⟩
abbrev aQ6:=fun y1 yF bD bC bF r=>avc Tryz.prog aIj (bFh r) (bJn y1 yF bD bC bF)
def aOi:AC:=(.seq (.ops [.ld 7 3 true 3,.st 3 2 7]) .ret)
def bB6:AC:=(.seq (.ops [.alc 2 [aR,aR,aX]]) (.seq (.ops [.bld 4 [aR,aR,aX] [(0,1,(kI 3))],.alc 3 [aR,aR,aX],.st 3 3 4]) (.seq (.seq (.ops [.mv 5 0]) (.cond 5 (.ops [.fa 6 1 3,.st 1 6 (kI 1)]) .skip)) aOi)))
theorem bL7:bQ Tryz.prog 119=some (bB6,[.ld 0 3 true 2],8):=by kernel_rfl
def bLl (r:bJ):Exit→St→Prop:=bM [.ld 0 3 true 2] fun x _=>x=(fun y=>(lD y)) r
def bMf (bG:Int):St:=⟨[(2,(.ptr 2 0)),(3,(.ptr 3 0))],[(2,[(vI 0),(vI 0),(vS [])]),(3,aXk (bJ.mk 3 bG []))]⟩
abbrev aSd:=fun bG r=>avc Tryz.prog aOi (bLl r) (bMf bG)
def bJ2:AC:=(.seq (.ops [.alc 2 [aR,aR,aX]]) (.seq (.ops [.mv 3 0,.bld 4 [aR,aR,aX] [(0,1,(kI 2)),(2,1,3)],.st 3 2 4]) .ret))
theorem bFd:bQ Tryz.prog 118=some (bJ2,[.ld 0 3 true 2],5):=by kernel_rfl
def bTx (r:bJ):Exit→St→Prop:=bM [.ld 0 3 true 2] fun x _=>x=(fun y=>(lD y)) r
def aJb:AC:=(.seq (.ops [.mv 27 0,.call (some 28) 95 [27,(.c (.d (.s (bs [41]))))]]) (.seq (.ops [.ld 29 10 true 7,.st 10 6 29]) .ret))
def bNr:AC:=(.seq (.ops [.box 4 31 1,.alc 6 fB]) (.seq (.ops [.mv 8 0,.call (some 9) 95 [8,(.c (.d (.s (bs [40]))))]]) (.seq (.ops [.mv 10 2,.ld 11 10 true 4,.bsl 12 31 10 [11],.bld 13 [aR,aR,eH,aR,aR,aX,aX,aX,(.nil 10),(.nil 6)] [(0,1,(kI 7)),(2,1,10),(8,1,12)],.alc 7 fB,.st 10 7 13]) (.seq (.seq (.ops [.mv 14 0,.call (some 15) 85 [14,(.c (.d (.s (bs [83,69,76,69,67,84]))))]]) (.cond 15 (.ops [.mv 16 0,.call (some 17) 96 [16],.bsl 18 67 6 [17],.fa 19 0 7,.st 1 19 (kI 8),.fa 20 9 7,.st 1 20 18]) (.dops [[],[0],[],[2],[1,3,3],[0,1,2,3,4],[5,4,4,0,1,2,3,4]] [.fa 21 8 7,.ld 22 1 false 21,.mv 23 0,.call (some 24) 97 [23],.app 25 31 10 136 22 24,.fa 26 8 7,.st 1 26 25]))) aJb))))
theorem aZ6:bQ Tryz.prog 88=some (bNr,[.ld 0 10 true 6],30):=by kernel_rfl
def bOx (r:aA×aP):Exit→St→Prop:=bM [.ld 0 10 true 6] fun x b=>x=(fun (y:aA×aP)=>(bX y.1)) r∧bI ((fun (y:aA×aP)=>[(1000000,bA y.2)]) r) b
def bN8 (p2:Bool) (dF:Int) (yJ:List aA) (yH:List aY) (bD:List aJ) (bC:Int) (bF:Bool):St:=⟨[(0,(.ptr 1000000 0)),(6,(.ptr 6 0)),(7,(.ptr 7 0))],[(6,[(vI 0),(vI 0),(vB false),(vI 0),(vI 0),(vS []),(vS []),(vS []),(.nil 10),(.nil 6)]),(7,[(vI dF),(vI 0),(vB p2),(vI 0),(vI 0),(vS []),(vS []),(vS []),(.osl 12 31 10 (yJ.map bN)),(.osl 18 67 6 (yH.map iJ))]),(1000000,bA (aP.mk bD bC bF))]⟩
abbrev aQs:=fun p2 dF yJ yH bD bC bF r=>avc Tryz.prog aJb (bOx r) (bN8 p2 dF yJ yH bD bC bF)
def aJp:AC:=(.loop (.seq (.seq (.ops [.mv 7 0,.call (some 8) 99 [7,(.c (.d (.s (bs [44]))))]]) (.cond 8 .skip (.exit 0))) (.block 1 (.ops [.mv 9 3,.mv 10 0,.call (some 11) 13 [10],.bsl 12 31 10 [11],.app 13 31 10 136 9 12,.asg 3 13]))))
def aWf:AC:=(.seq (.ops [.mv 14 3,.asg 2 14]) .ret)
def bP2:AC:=(.seq (.ops [.asg 2 (.c (.nil 10))]) (.seq (.ops [.mv 4 0,.call (some 5) 13 [4],.bsl 6 31 10 [5],.asg 3 6]) (.seq (.block 0 aJp) aWf)))
theorem bFw:bQ Tryz.prog 97=some (bP2,[.mv 0 2],15):=by kernel_rfl
def aR1 (r:(List aA)×aP):Exit→St→Prop:=bM [.mv 0 2] fun x b=>x=(fun (y:(List aA)×aP)=>(.osl 2000000 31 10 (y.1.map bN))) r∧bI ((fun (y:(List aA)×aP)=>[(1000000,bA y.2)]) r) b
def bFl (r:(List aA)×aP):Exit→St→Prop:=(eU (wkK (avc Tryz.prog aWf (aR1 r))) (aR1 r))
def bGz (r:(List aA)×aP):Exit→St→Prop:=(eY 0 (bFl r))
def bD9 (x3:List aA) (bD:List aJ) (bC:Int) (bF:Bool):St:=⟨[(0,(.ptr 1000000 0)),(3,(.osl 3 31 10 (x3.map bN)))],[(1000000,bA (aP.mk bD bC bF))]⟩
abbrev aHo:=fun x3 bD bC bF r=>avc Tryz.prog aJp (bGz r) (bD9 x3 bD bC bF)
def bKu:AC:=(.seq (.ops [.alc 2 fB,.asg 3 (kI 0)]) (.seq (.ops [.mv 7 0,.bld 8 [(.nil 3),aR,eH] [(0,1,7)],.box 9 48 8,.asg 4 9]) (.seq (.ops [.mv 10 4,.call (some 11) 15 [10,(kI 1)],.alc 5 fB,.st 10 5 11]) (.seq (.ops [.mv 12 4,.call (some 13) 16 [12],.asg 6 13]) (.seq (.seq (.ops [.mv 14 6,.bin 15 .geq 14 (kI 0)]) (.cond 15 (.seq (.ops [.bld 16 [aR,aR,eH,aR,aR,aX,aX,aX,(.nil 10),(.nil 6)] [],.mv 17 6,.st 10 2 16,.asg 3 17]) .ret) .skip)) (.seq (.ops [.ld 18 10 true 5,.st 10 2 18,.asg 3 (kI (-1))]) .ret))))))
theorem bSh:bQ Tryz.prog 7=some (bKu,[.ld 0 10 true 2,.mv 0 3],19):=by kernel_rfl
def bTt (r:aA×Int):Exit→St→Prop:=bM [.ld 0 10 true 2,.mv 0 3] fun x _=>x=(fun y=>(.tup [(bX y.1),(vI y.2)])) r
def aIr:AC:=(.loop (.seq (.seq (.ops [.mv 38 0,.nck 39 38,.fa 40 2 39,.ld 41 1 false 40,.not 42 41]) (.cond 42 .skip (.exit 1))) (.block 2 (.seq (.ops [.mv 43 0,.mv 44 1,.call (some 45) 37 [43,44],.asg 6 45]) (.seq (.seq (.ops [.mv 46 6,.bin 47 .eql 46 (kI 0)]) (.cond 47 (.exit 1) .skip)) (.seq (.ops [.mv 48 0,.call (some 49) 35 [48,(kB true)]]) (.dops [[],[],[],[],[3],[2,4],[1,5],[0,6],[7,5,0,1,2,3,4,5,6,7]] [.mv 50 6,.ld 51 10 true 5,.mv 52 0,.mv 53 1,.bin 54 .add 53 (kI 1),.call (some 55) 15 [52,54],.bsl 56 31 10 [51,55],.bld 57 [aR,aR,eH,aR,aR,aX,aX,aX,(.nil 10),(.nil 6)] [(0,1,(kI 4)),(1,1,50),(8,1,56)],.st 10 5 57])))))))
def aF0:AC:=(.seq (.ops [.ld 58 10 true 5,.st 10 4 58]) .ret)
def aZo:AC:=(.seq (.ops [.alc 4 fB]) (.seq (.seq (.ops [.mv 7 1]) (.block 0 (.seq (.ops [.bin 9 .eql 7 (kI 3),.asg 8 9]) (.cond 8 (.seq (.seq (.ops [.mv 10 0,.call (some 11) 32 [10,(kI 15)]]) (.cond 11 (.seq (.ops [.mv 12 0,.call (some 13) 15 [12,(kI 3)],.bsl 14 31 10 [13],.bld 15 [aR,aR,eH,aR,aR,aX,aX,aX,(.nil 10),(.nil 6)] [(0,1,(kI 3)),(1,1,(kI 15)),(8,1,14)],.st 10 4 15]) .ret) .skip)) (.seq (.ops [.mv 16 0,.call (some 17) 15 [16,(kI 4)],.st 10 4 17]) .ret)) (.seq (.ops [.bin 19 .eql 7 (kI 4),.asg 18 19]) (.cond 18 (.seq (.ops [.mv 20 0,.call (some 21) 33 [20],.st 10 4 21]) .ret) (.seq (.ops [.bin 23 .eql 7 (kI 8),.asg 22 23]) (.cond 22 (.seq (.seq (.ops [.mv 24 0,.call (some 25) 34 [24,(.c (.d (.s (bs [45]))))]]) (.cond 25 (.seq (.ops [.mv 26 0,.call (some 27) 35 [26,(kB true)]]) (.seq (.ops [.mv 28 0,.call (some 29) 15 [28,(kI 8)],.bsl 30 31 10 [29],.bld 31 [aR,aR,eH,aR,aR,aX,aX,aX,(.nil 10),(.nil 6)] [(0,1,(kI 3)),(1,1,(kI 16)),(8,1,30)],.st 10 4 31]) .ret)) .skip)) (.seq (.ops [.mv 32 0,.call (some 33) 36 [32],.st 10 4 33]) .ret)) .skip)))))))) (.seq (.ops [.mv 34 0,.mv 35 1,.bin 36 .add 35 (kI 1),.call (some 37) 15 [34,36],.alc 5 fB,.st 10 5 37]) (.seq (.block 1 aIr) aF0))))
theorem bSq:bQ Tryz.prog 15=some (aZo,[.ld 0 10 true 4],59):=by kernel_rfl
def aKu (r:aA×aU):Exit→St→Prop:=bM [.ld 0 10 true 4] fun x b=>x=(fun (y:aA×aU)=>(bX y.1)) r∧bI ((fun (y:aA×aU)=>[(1000000,bU y.2)]) r) b
def bJy (r:aA×aU):Exit→St→Prop:=(eU (wkK (avc Tryz.prog aF0 (aKu r))) (aKu r))
def bKs (r:aA×aU):Exit→St→Prop:=(eY 1 (bJy r))
def bLy (p1:Int) (iW:Int) (bL:Int) (bP:Bool) (eQ:Int) (fO:Int) (fC:(List UInt8)×(List UInt8)×(List UInt8)×(List aA)×(List aY)×(List aJ)×Int×Bool):St:=⟨[(0,(.ptr 1000000 0)),(1,(vI p1)),(4,(.ptr 4 0)),(5,(.ptr 5 0))],[(4,[(vI 0),(vI 0),(vB false),(vI 0),(vI 0),(vS []),(vS []),(vS []),(.nil 10),(.nil 6)]),(5,fJ (aA.mk iW bL bP (bJ.mk eQ fO fC.1) fC.2.1 fC.2.2.1 fC.2.2.2.1 fC.2.2.2.2.1)),(1000000,bU (aU.mk fC.2.2.2.2.2.1 fC.2.2.2.2.2.2.1 fC.2.2.2.2.2.2.2))]⟩
abbrev aEf:=fun p1 iW bL bP eQ fO fC r=>avc Tryz.prog aIr (bKs r) (bLy p1 iW bL bP eQ fO fC)
def bJv (iW:Int) (bL:Int) (bP:Bool) (eQ:Int) (fO:Int) (lQ:List UInt8) (yR:List UInt8) (vT:List UInt8) (vW:List aA) (vY:List aY) (bD:List aJ) (bC:Int) (bF:Bool):St:=⟨[(4,(.ptr 4 0)),(5,(.ptr 5 0))],[(4,[(vI 0),(vI 0),(vB false),(vI 0),(vI 0),(vS []),(vS []),(vS []),(.nil 10),(.nil 6)]),(5,fJ (aA.mk iW bL bP (bJ.mk eQ fO lQ) yR vT vW vY)),(1000000,bU (aU.mk bD bC bF))]⟩
abbrev aVc:=fun iW bL bP eQ fO lQ yR vT vW vY bD bC bF r=>avc Tryz.prog aF0 (aKu r) (bJv iW bL bP eQ fO lQ yR vT vW vY bD bC bF)
def aJd:AC:=(.seq (.ops [.ld 62 10 true 4,.st 10 2 62]) .ret)
def aRz:AC:=(.seq (.ops [.mv 79 0,.mv 80 0,.call (some 81) 34 [80,(.c (.d (.s (bs [40]))))],.call (some 82) 35 [79,81]]) (.seq (.seq (.ops [.mv 83 0,.nck 84 83,.fa 85 2 84,.ld 86 1 false 85]) (.cond 86 (.seq (.ops [.bld 87 [aR,aR,eH,aR,aR,aX,aX,aX,(.nil 10),(.nil 6)] [],.st 10 2 87]) .ret) .skip)) (.seq (.ops [.mv 88 0,.call (some 89) 15 [88,(kI 1)],.alc 6 fB,.st 10 6 89]) (.seq (.ops [.mv 90 0,.mv 91 0,.call (some 92) 34 [91,(.c (.d (.s (bs [41]))))],.call (some 93) 35 [90,92]]) (.seq (.ops [.ld 94 10 true 6,.st 10 2 94]) .ret)))))
def bS9:AC:=(.seq (.ops [.alc 2 fB]) (.seq (.ops [.bld 7 [aR,aR,eH,aR,aR,aX,aX,aX,(.nil 10),(.nil 6)] [(0,1,(kI 1))],.alc 3 fB,.st 10 3 7]) (.seq (.block 0 (.seq (.ops [.mv 9 0,.call (some 10) 60 [9,(kI 3)],.asg 8 10]) (.cond 8 (.seq (.ops [.fa 11 3 3,.fa 12 0 11,.st 1 12 (kI 1)]) (.seq (.ops [.mv 14 0,.call (some 15) 62 [14,(kI 3)],.call (some 16) 61 [15],.mv 13 16,.ext 17 13 0,.ext 18 13 1,.fa 19 3 3,.fa 20 1 19,.st 1 20 17]) (.seq (.ops [.ld 21 10 true 3,.st 10 2 21]) .ret))) (.seq (.ops [.mv 23 0,.call (some 24) 60 [23,(kI 4)],.asg 22 24]) (.cond 22 (.seq (.ops [.mv 25 0,.call (some 26) 62 [25,(kI 4)],.call (some 27) 63 [26],.fa 28 3 3,.st 3 28 27]) (.seq (.ops [.ld 29 10 true 3,.st 10 2 29]) .ret)) (.seq (.ops [.mv 31 0,.call (some 32) 32 [31,(kI 20)],.asg 30 32]) (.cond 30 (.seq (.ops [.ld 33 10 true 3,.st 10 2 33]) .ret) (.seq (.ops [.mv 35 0,.call (some 36) 32 [35,(kI 21)],.asg 34 36]) (.cond 34 (.seq (.ops [.call (some 37) 64 [(kB true)],.fa 38 3 3,.st 3 38 37]) (.seq (.ops [.ld 39 10 true 3,.st 10 2 39]) .ret)) (.seq (.ops [.mv 41 0,.call (some 42) 32 [41,(kI 22)],.asg 40 42]) (.cond 40 (.seq (.ops [.call (some 43) 64 [(kB false)],.fa 44 3 3,.st 3 44 43]) (.seq (.ops [.ld 45 10 true 3,.st 10 2 45]) .ret)) (.seq (.ops [.mv 47 0,.call (some 48) 60 [47,(kI 2)],.asg 46 48]) (.cond 46 (.seq (.ops [.mv 49 0,.call (some 50) 62 [49,(kI 2)],.bld 51 [aR,aR,eH,aR,aR,aX,aX,aX,(.nil 10),(.nil 6)] [(0,1,(kI 2)),(7,1,50)],.alc 4 fB,.st 10 4 51]) (.seq (.seq (.ops [.mv 52 0,.call (some 53) 34 [52,(.c (.d (.s (bs [46]))))]]) (.cond 53 (.seq (.ops [.mv 54 0,.call (some 55) 35 [54,(kB true)]]) (.seq (.ops [.fa 56 7 4,.ld 57 1 false 56,.fa 58 6 4,.st 1 58 57]) (.ops [.mv 59 0,.call (some 60) 62 [59,(kI 2)],.fa 61 7 4,.st 1 61 60]))) .skip)) aJd)) (.seq (.ops [.mv 64 0,.call (some 65) 32 [64,(kI 19)],.asg 63 65]) (.cond 63 (.seq (.ops [.mv 66 0,.mv 67 0,.call (some 68) 34 [67,(.c (.d (.s (bs [40]))))],.call (some 69) 35 [66,68]]) (.seq (.ops [.mv 70 0,.call (some 71) 65 [70],.alc 5 uY,.st 6 5 71]) (.seq (.ops [.mv 72 0,.mv 73 0,.call (some 74) 34 [73,(.c (.d (.s (bs [41]))))],.call (some 75) 35 [72,74]]) (.seq (.ops [.ld 76 6 true 5,.bsl 77 67 6 [76],.bld 78 [aR,aR,eH,aR,aR,aX,aX,aX,(.nil 10),(.nil 6)] [(0,1,(kI 9)),(9,1,77)],.st 10 2 78]) .ret)))) .skip))))))))))))))) aRz)))
theorem bS6:bQ Tryz.prog 36=some (bS9,[.ld 0 10 true 2],95):=by kernel_rfl
def aSy (r:aA×aU):Exit→St→Prop:=bM [.ld 0 10 true 2] fun x b=>x=(fun (y:aA×aU)=>(bX y.1)) r∧bI ((fun (y:aA×aU)=>[(1000000,bU y.2)]) r) b
def bHn (r:aA×aU):Exit→St→Prop:=(eU (wkK (avc Tryz.prog aRz (aSy r))) (aSy r))
def bJu (r:aA×aU):Exit→St→Prop:=(eY 0 (bHn r))
def aZ2 (sF:List UInt8) (sI:List UInt8) (bD:List aJ) (bC:Int) (bF:Bool):St:=⟨[(2,(.ptr 2 0)),(4,(.ptr 4 0))],[(2,[(vI 0),(vI 0),(vB false),(vI 0),(vI 0),(vS []),(vS []),(vS []),(.nil 10),(.nil 6)]),(4,[(vI 2),(vI 0),(vB false),(vI 0),(vI 0),(vS []),(vS sF),(vS sI),(.nil 10),(.nil 6)]),(1000000,bU (aU.mk bD bC bF))]⟩
abbrev aUh:=fun sF sI bD bC bF r=>avc Tryz.prog aJd (bJu r) (aZ2 sF sI bD bC bF)
def bSi:AC:=(.seq (.ops [.alc 2 [aR,aR,aX]]) (.seq (.seq (.ops [.mv 3 0]) (.cond 3 (.seq (.ops [.bld 4 [aR,aR,aX] [(0,1,(kI 3)),(1,1,(kI 1))],.st 3 2 4]) .ret) .skip)) (.seq (.ops [.bld 5 [aR,aR,aX] [(0,1,(kI 3))],.st 3 2 5]) .ret)))
theorem bRw:bQ Tryz.prog 64=some (bSi,[.ld 0 3 true 2],6):=by kernel_rfl
def bW5 (r:bJ):Exit→St→Prop:=bM [.ld 0 3 true 2] fun x _=>x=(fun y=>(lD y)) r
def aZc:AC:=(.seq (.ops [.asg 4 (.c (.d (.s (bs []))))]) (.seq (.ops [.mv 6 0,.call (some 7) 59 [6,(kI 0)],.alc 5 [aR,aX,aR],.st 3 5 7]) (.seq (.ops [.mv 8 0,.mv 9 0,.mv 10 1,.call (some 11) 60 [9,10],.call (some 12) 35 [8,11]]) (.seq (.seq (.ops [.mv 13 0,.nck 14 13,.fa 15 2 14,.ld 16 1 false 15]) (.cond 16 (.seq (.ops [.asg 4 (.c (.d (.s (bs []))))]) .ret) .skip)) (.seq (.ops [.fa 17 1 5,.ld 18 1 false 17,.asg 4 18]) .ret)))))
theorem bMi:bQ Tryz.prog 62=some (aZc,[.mv 0 4],19):=by kernel_rfl
def bUg (r:(List UInt8)×aU):Exit→St→Prop:=bM [.mv 0 4] fun x b=>x=(fun (y:(List UInt8)×aU)=>(vS y.1)) r∧bI ((fun (y:(List UInt8)×aU)=>[(1000000,bU y.2)]) r) b
def bB3:AC:=(.seq (.seq (.ops [.mv 4 1,.not 5 4,.mv 6 5,.g 6 false (.mv 7 0),.g 6 false (.nck 8 7),.g 6 false (.fa 9 2 8),.g 6 false (.ld 10 1 false 9),.pick 11 6 (kB true) 10]) (.cond 11 (.seq (.ops [.mv 12 0,.nck 13 12,.fa 14 2 13,.st 1 14 (kB true)]) .ret) .skip)) (.ops [.mv 15 0,.mv 16 0,.nck 17 16,.fa 18 1 17,.ld 19 1 false 18,.bin 20 .add 19 (kI 1),.nck 21 15,.fa 22 1 21,.st 1 22 20]))
theorem bJi:bQ Tryz.prog 35=some (bB3,[],23):=by kernel_rfl
def bWx (r:aU):Exit→St→Prop:=bM [] fun x b=>x=(fun (y:aU)=>(.tup [])) r∧bI ((fun (y:aU)=>[(1000000,bU y)]) r) b
def bF6:AC:=(.seq (.ops [.asg 4 (kB false)]) (.seq (.ops [.mv 6 0,.call (some 7) 59 [6,(kI 0)],.alc 5 [aR,aX,aR],.st 3 5 7]) (.seq (.ops [.fa 8 0 5,.ld 9 1 false 8,.mv 10 1,.bin 11 .eql 9 10,.mv 12 11,.g 12 true (.ld 13 3 true 5),.g 12 true (.call (some 14) 79 [13]),.pick 15 12 14 (kB false),.asg 4 15]) .ret)))
theorem bSp:bQ Tryz.prog 60=some (bF6,[.mv 0 4],16):=by kernel_rfl
def bV4 (p0:aU) (r:Bool):Exit→St→Prop:=bM [.mv 0 4] fun x b=>x=(fun (y:Bool)=>(vB y)) r∧bI ((fun (y:Bool)=>[(1000000,bU p0)]) r) b
def bFc:AC:=(.seq (.ops [.box 1 56 0,.asg 2 (kB false)]) (.seq (.seq (.ops [.fa 5 0 1,.ld 6 1 false 5]) (.block 0 (.seq (.ops [.bin 8 .eql 6 (kI 1),.asg 7 8]) (.cond 7 (.seq (.dops [[],[0],[1],[2],[3,2],[4],[5,4],[6,4,4],[4],[8,4],[7,9,4],[4,10],[11,7,0,1,2,3,4,5,6,7,8,9,10,11]] [.fa 9 1 1,.ld 10 1 false 9,.call (some 11) 89 [10],.bin 12 .gtr 11 (kI 0),.mv 13 12,.g 13 true (.fa 14 1 1),.g 13 true (.ld 15 1 false 14),.g 13 true (.call (some 16) 90 [15]),.g 13 true (.fa 17 1 1),.g 13 true (.ld 18 1 false 17),.g 13 true (.bin 19 .eql 16 18),.pick 20 13 19 (kB false),.asg 2 20]) .ret) (.seq (.ops [.bin 22 .eql 6 (kI 2),.asg 21 22]) (.cond 21 (.seq (.ops [.fa 23 1 1,.ld 24 1 false 23,.call (some 25) 91 [24],.asg 2 25]) .ret) (.seq (.ops [.bin 27 .eql 6 (kI 3),.asg 26 27]) (.cond 26 (.seq (.ops [.fa 29 1 1,.ld 30 1 false 29,.call (some 31) 61 [30],.mv 28 31,.ext 32 28 0,.ext 33 28 1,.asg 3 32,.asg 4 33]) (.seq (.ops [.mv 34 4,.asg 2 34]) .ret)) (.seq (.ops [.bin 36 .eql 6 (kI 4),.asg 35 36]) (.cond 35 (.seq (.ops [.fa 37 1 1,.ld 38 1 false 37,.lns 39 38,.bin 40 .leq 39 (kI 40),.asg 2 40]) .ret) (.seq (.ops [.bin 42 .eql 6 (kI 5),.asg 41 42]) (.cond 41 (.seq (.ops [.fa 43 1 1,.ld 44 1 false 43,.call (some 45) 92 [44],.asg 2 45]) .ret) .skip)))))))))))) (.seq (.ops [.asg 2 (kB false)]) .ret)))
theorem bFa:bQ Tryz.prog 79=some (bFc,[.mv 0 2],46):=by kernel_rfl
def bUh (r:Bool):Exit→St→Prop:=bM [.mv 0 2] fun x _=>x=(fun y=>(vB y)) r
def bKd:AC:=(.seq (.ops [.asg 2 (kB false)]) (.seq (.ops [.mv 3 0,.lns 4 3,.call (some 5) 72 [4,(kI 1),(kI 20)],.asg 2 5]) .ret))
theorem bE1:bQ Tryz.prog 91=some (bKd,[.mv 0 2],6):=by kernel_rfl
def bVl (r:Bool):Exit→St→Prop:=bM [.mv 0 2] fun x _=>x=(fun y=>(vB y)) r
def bG6:AC:=(.seq (.ops [.asg 6 (kB false)]) (.seq (.ops [.mv 7 0,.mv 8 1,.bin 9 .geq 7 8,.mv 10 9,.g 10 true (.mv 11 0),.g 10 true (.mv 12 2),.g 10 true (.bin 13 .leq 11 12),.pick 14 10 13 (kB false),.asg 6 14]) .ret))
theorem bSu:bQ Tryz.prog 72=some (bG6,[.mv 0 6],15):=by kernel_rfl
def bTw (r:Bool):Exit→St→Prop:=bM [.mv 0 6] fun x _=>x=(fun y=>(vB y)) r
def aOd:AC:=(.ops [.mv 11 4,.bin 12 .add 11 (kI 1),.asg 4 12])
def aF6:AC:=(.loop (.seq (.seq (.ops [.mv 7 4,.mv 8 3,.len 9 8,.bin 10 .lss 7 9]) (.cond 10 .skip (.exit 0))) (.seq (.block 1 (.seq (.ops [.mv 13 3,.mv 14 4,.ia 15 1 13 14,.ld 16 1 false 15,.bin 17 .geq 16 (.c (.d (.i .u8 97))),.mv 18 17,.g 18 true (.mv 19 3),.g 18 true (.mv 20 4),.g 18 true (.ia 21 1 19 20),.g 18 true (.ld 22 1 false 21),.g 18 true (.bin 23 .leq 22 (.c (.d (.i .u8 122)))),.pick 24 18 23 (kB false)]) (.cond 24 (.ops [.mv 25 3,.mv 26 4,.mv 27 3,.mv 28 4,.ia 29 1 27 28,.ld 30 1 false 29,.bin 31 .sub 30 (.c (.d (.i .u8 32))),.ia 32 1 25 26,.st 1 32 31]) .skip))) aOd)))
def aHc:AC:=(.seq (.ops [.mv 33 3,.cbs 34 33,.asg 2 34]) .ret)
def bJf:AC:=(.seq (.ops [.asg 2 (.c (.d (.s (bs []))))]) (.seq (.ops [.mv 5 0,.csb 6 5 5,.asg 3 6]) (.seq (.seq (.ops [.asg 4 (kI 0)]) (.block 0 aF6)) aHc)))
theorem bGl:bQ Tryz.prog 90=some (bJf,[.mv 0 2],35):=by kernel_rfl
def aNq (r:List UInt8):Exit→St→Prop:=bM [.mv 0 2] fun x _=>x=(fun y=>(vS y)) r
def bEf (r:List UInt8):Exit→St→Prop:=(eU (wkK (avc Tryz.prog aHc (aNq r))) (aNq r))
def aO6 (r:List UInt8):Exit→St→Prop:=(eY 0 (bEf r))
def bIb (r:List UInt8):Exit→St→Prop:=(eU (avc Tryz.prog aF6 (aO6 r)) (aO6 r))
def aZd (x4:Int) (gQ:List Int):St:=⟨[(3,(.tre 60013000)),(4,(vI x4))],[(60013000,[(.trc 1 (gQ.map cU8))])]⟩
abbrev aE0:=fun x4 gQ r=>avc Tryz.prog aF6 (aO6 r) (aZd x4 gQ)
def bFp (x4:Int) (oO:List Int):St:=⟨[(3,(.tre 60052000)),(4,(vI x4))],[(60052000,[(.trc 1 (oO.map cU8))])]⟩
abbrev aF2:=fun x4 oO r=>avc Tryz.prog aOd (bIb r) (bFp x4 oO)
def bR7 (x3:List Int):St:=⟨[(3,(uL x3))],[]⟩
abbrev aWo:=fun x3 r=>avc Tryz.prog aHc (aNq r) (bR7 x3)
def aL2:AC:=(.loop (.seq (.seq (.ops [.mv 12 5,.mv 13 4,.len 14 13,.bin 15 .lss 12 14]) (.cond 15 .skip (.exit 0))) (.seq (.block 1 (.seq (.ops [.mv 18 4,.mv 19 5,.ia 20 1 18 19,.ld 21 1 false 20,.mv 22 3,.bin 23 .eql 21 22]) (.cond 23 (.seq (.ops [.mv 24 5,.asg 2 24]) .ret) .skip))) (.ops [.mv 16 5,.bin 17 .add 16 (kI 1),.asg 5 17]))))
def aWc:AC:=(.seq (.ops [.asg 2 (kI 0)]) .ret)
def bPu:AC:=(.seq (.ops [.asg 2 (kI 0)]) (.seq (.seq (.ops [.mv 6 0,.lns 7 6,.bin 8 .gtr 7 (kI 8)]) (.cond 8 (.seq (.ops [.asg 2 (kI 0)]) .ret) .skip)) (.seq (.ops [.mv 9 0,.call (some 10) 90 [9],.asg 3 10]) (.seq (.ops [.call (some 11) 69 [],.asg 4 11]) (.seq (.seq (.ops [.asg 5 (kI 1)]) (.block 0 aL2)) aWc)))))
theorem bDf:bQ Tryz.prog 89=some (bPu,[.mv 0 2],25):=by kernel_rfl
def aTa (r:Int):Exit→St→Prop:=bM [.mv 0 2] fun x _=>x=(fun y=>(vI y)) r
def bBr (r:Int):Exit→St→Prop:=(eU (wkK (avc Tryz.prog aWc (aTa r))) (aTa r))
def bBg (r:Int):Exit→St→Prop:=(eY 0 (bBr r))
def bLh (y1:List UInt8) (y2:List (List UInt8)) (x5:Int):St:=⟨[(3,(vS y1)),(4,(.osl 4 9 1 (y2.map cStr))),(5,(vI x5))],[]⟩
abbrev aH2:=fun y1 y2 x5 r=>avc Tryz.prog aL2 (bBg r) (bLh y1 y2 x5)
def bIh:AC:=(.seq (.ops [.asg 0 (.c (.nil 1))]) (.seq (.ops [.bsl 1 9 1 [(.c (.d (.s (bs [])))),(.c (.d (.s (bs [83,69,76,69,67,84])))),(.c (.d (.s (bs [68,73,83,84,73,78,67,84])))),(.c (.d (.s (bs [70,82,79,77])))),(.c (.d (.s (bs [74,79,73,78])))),(.c (.d (.s (bs [79,78])))),(.c (.d (.s (bs [87,72,69,82,69])))),(.c (.d (.s (bs [79,82,68,69,82])))),(.c (.d (.s (bs [66,89])))),(.c (.d (.s (bs [65,83,67])))),(.c (.d (.s (bs [68,69,83,67])))),(.c (.d (.s (bs [76,73,77,73,84])))),(.c (.d (.s (bs [65,83])))),(.c (.d (.s (bs [65,78,68])))),(.c (.d (.s (bs [79,82])))),(.c (.d (.s (bs [78,79,84])))),(.c (.d (.s (bs [73,83])))),(.c (.d (.s (bs [73,78])))),(.c (.d (.s (bs [66,69,84,87,69,69,78])))),(.c (.d (.s (bs [69,88,73,83,84,83])))),(.c (.d (.s (bs [78,85,76,76])))),(.c (.d (.s (bs [84,82,85,69])))),(.c (.d (.s (bs [70,65,76,83,69])))),(.c (.d (.s (bs [73,78,83,69,82,84])))),(.c (.d (.s (bs [73,78,84,79])))),(.c (.d (.s (bs [86,65,76,85,69,83])))),(.c (.d (.s (bs [85,80,68,65,84,69])))),(.c (.d (.s (bs [83,69,84])))),(.c (.d (.s (bs [68,69,76,69,84,69]))))],.asg 0 1]) .ret))
theorem bB7:bQ Tryz.prog 69=some (bIh,[.mv 0 0],2):=by kernel_rfl
def bU3 (r:List (List UInt8)):Exit→St→Prop:=bM [.mv 0 0] fun x b=>x=(fun (y:List (List UInt8))=>(.osl 2000000 9 1 (y.map cStr))) r∧bI ((fun (y:List (List UInt8))=>[]) r) b
def aNs:AC:=(.loop (.seq (.seq (.ops [.mv 15 5,.mv 16 0,.lns 17 16,.bin 18 .lss 15 17]) (.cond 18 .skip (.exit 0))) (.seq (.block 1 (.seq (.seq (.ops [.mv 21 0,.mv 22 5,.ix 23 21 22,.bin 24 .lss 23 (.c (.d (.i .u8 48))),.mv 25 24,.g 25 false (.mv 26 0),.g 25 false (.mv 27 5),.g 25 false (.ix 28 26 27),.g 25 false (.bin 29 .gtr 28 (.c (.d (.i .u8 57)))),.pick 30 25 (kB true) 29]) (.cond 30 (.seq (.ops [.asg 2 (kI 0),.asg 3 (kB false)]) .ret) .skip)) (.seq (.ops [.mv 31 0,.mv 32 5,.ix 33 31 32,.cvi 34 .i64 33,.bin 35 .sub 34 (kI 48),.asg 6 35]) (.seq (.seq (.ops [.mv 36 4,.mv 37 6,.bin 38 .sub (kI 9223372036854775807) 37,.bin 39 .quo 38 (kI 10),.bin 40 .gtr 36 39]) (.cond 40 (.seq (.ops [.asg 2 (kI 0),.asg 3 (kB false)]) .ret) .skip)) (.ops [.mv 41 4,.bin 42 .mul (kI 10) 41,.mv 43 6,.bin 44 .add 42 43,.asg 4 44]))))) (.ops [.mv 19 5,.bin 20 .add 19 (kI 1),.asg 5 20]))))
def aVs:AC:=(.seq (.seq (.ops [.mv 45 4,.call (some 46) 46 [45],.mv 47 0,.bin 48 .neq 46 47]) (.cond 48 (.seq (.ops [.asg 2 (kI 0),.asg 3 (kB false)]) .ret) .skip)) (.seq (.ops [.mv 49 4,.asg 2 49,.asg 3 (kB true)]) .ret))
def bFt:AC:=(.seq (.ops [.asg 2 (kI 0),.asg 3 (kB false)]) (.seq (.seq (.ops [.mv 7 0,.lns 8 7,.bin 9 .lss 8 (kI 1),.mv 10 9,.g 10 false (.mv 11 0),.g 10 false (.lns 12 11),.g 10 false (.bin 13 .gtr 12 (kI 19)),.pick 14 10 (kB true) 13]) (.cond 14 (.seq (.ops [.asg 2 (kI 0),.asg 3 (kB false)]) .ret) .skip)) (.seq (.ops [.asg 4 (kI 0)]) (.seq (.seq (.ops [.asg 5 (kI 0)]) (.block 0 aNs)) aVs))))
theorem bQm:bQ Tryz.prog 61=some (bFt,[.mv 0 2,.mv 0 3],50):=by kernel_rfl
def aS5 (r:Int×Bool):Exit→St→Prop:=bM [.mv 0 2,.mv 0 3] fun x _=>x=(fun y=>(.tup [(vI y.1),(vB y.2)])) r
def bGj (r:Int×Bool):Exit→St→Prop:=(eU (wkK (avc Tryz.prog aVs (aS5 r))) (aS5 r))
def aZp (r:Int×Bool):Exit→St→Prop:=(eY 0 (bGj r))
def bEl (p0:List UInt8) (x4:Int) (x5:Int):St:=⟨[(0,(vS p0)),(4,(vI x4)),(5,(vI x5))],[]⟩
abbrev aGd:=fun p0 x4 x5 r=>avc Tryz.prog aNs (aZp r) (bEl p0 x4 x5)
def aMq:AC:=(.seq (.ops [.mv 18 5,.bin 19 .add (kI 48) 18,.cvi 20 .u8 19,.bsl 21 5 1 [20],.cbs 22 21,.mv 23 4,.bin 24 .add 22 23,.asg 4 24]) (.ops [.mv 25 0,.bin 26 .quo 25 (kI 10),.asg 0 26]))
def aDb:AC:=(.loop (.seq (.seq (.ops [.mv 10 0,.bin 11 .neq 10 (kI 0)]) (.cond 11 .skip (.exit 0))) (.block 1 (.seq (.ops [.mv 12 0,.bin 13 .rem 12 (kI 10),.asg 5 13]) (.seq (.seq (.ops [.mv 14 5,.bin 15 .lss 14 (kI 0)]) (.cond 15 (.ops [.mv 16 5,.bin 17 .sub (kI 0) 16,.asg 5 17]) .skip)) aMq)))))
def aQ8:AC:=(.seq (.seq (.ops [.mv 27 3]) (.cond 27 (.seq (.ops [.mv 28 4,.bin 29 .add (.c (.d (.s (bs [45])))) 28,.asg 2 29]) .ret) .skip)) (.seq (.ops [.mv 30 4,.asg 2 30]) .ret))
def bHe:AC:=(.seq (.ops [.asg 2 (.c (.d (.s (bs []))))]) (.seq (.seq (.ops [.mv 6 0,.bin 7 .eql 6 (kI 0)]) (.cond 7 (.seq (.ops [.asg 2 (.c (.d (.s (bs [48]))))]) .ret) .skip)) (.seq (.ops [.mv 8 0,.bin 9 .lss 8 (kI 0),.asg 3 9]) (.seq (.ops [.asg 4 (.c (.d (.s (bs []))))]) (.seq (.block 0 aDb) aQ8)))))
theorem bP7:bQ Tryz.prog 46=some (bHe,[.mv 0 2],31):=by kernel_rfl
def aTo (r:List UInt8):Exit→St→Prop:=bM [.mv 0 2] fun x _=>x=(fun y=>(vS y)) r
def aZq (r:List UInt8):Exit→St→Prop:=(eU (wkK (avc Tryz.prog aQ8 (aTo r))) (aTo r))
def aN2 (r:List UInt8):Exit→St→Prop:=(eY 0 (aZq r))
def bJt (r:List UInt8):Exit→St→Prop:=(eU (avc Tryz.prog aDb (aN2 r)) (aN2 r))
def bN5 (r:List UInt8):Exit→St→Prop:=(eY 1 (bJt r))
def bRu (p0:Int) (x0:Int) (x4:List UInt8):St:=⟨[(0,(vI x0)),(3,(vB (decide (p0<0)))),(4,(vS x4))],[]⟩
abbrev aH1:=fun p0 x0 x4 r=>avc Tryz.prog aDb (aN2 r) (bRu p0 x0 x4)
def bR2 (x0:Int) (p0:Int) (x4:List UInt8) (x5:Int):St:=⟨[(0,(vI x0)),(3,(vB (decide (p0<0)))),(4,(vS x4)),(5,(vI x5))],[]⟩
abbrev aEv:=fun x0 p0 x4 x5 r=>avc Tryz.prog aMq (bN5 r) (bR2 x0 p0 x4 x5)
def aM9:AC:=(.cond 4 (.seq (.ops [.asg 2 (kB true)]) .ret) .skip)
def aXa:AC:=(.seq (.ops [.asg 2 (kB false)]) .ret)
def bIk:AC:=(.seq (.ops [.asg 2 (kB false)]) (.seq (.seq (.ops [.mv 3 0]) (.block 0 (.seq (.seq (.ops [.bin 5 .eql 3 (.c (.d (.s (bs [40])))),.asg 4 5]) (.cond 4 .skip (.seq (.ops [.bin 6 .eql 3 (.c (.d (.s (bs [41])))),.asg 4 6]) (.cond 4 .skip (.seq (.ops [.bin 7 .eql 3 (.c (.d (.s (bs [44])))),.asg 4 7]) (.cond 4 .skip (.seq (.ops [.bin 8 .eql 3 (.c (.d (.s (bs [46])))),.asg 4 8]) (.cond 4 .skip (.seq (.ops [.bin 9 .eql 3 (.c (.d (.s (bs [42])))),.asg 4 9]) (.cond 4 .skip (.seq (.ops [.bin 10 .eql 3 (.c (.d (.s (bs [43])))),.asg 4 10]) (.cond 4 .skip (.seq (.ops [.bin 11 .eql 3 (.c (.d (.s (bs [45])))),.asg 4 11]) (.cond 4 .skip (.seq (.ops [.bin 12 .eql 3 (.c (.d (.s (bs [47])))),.asg 4 12]) (.cond 4 .skip (.seq (.ops [.bin 13 .eql 3 (.c (.d (.s (bs [37])))),.asg 4 13]) (.cond 4 .skip (.seq (.ops [.bin 14 .eql 3 (.c (.d (.s (bs [61])))),.asg 4 14]) (.cond 4 .skip (.seq (.ops [.bin 15 .eql 3 (.c (.d (.s (bs [60,62])))),.asg 4 15]) (.cond 4 .skip (.seq (.ops [.bin 16 .eql 3 (.c (.d (.s (bs [60])))),.asg 4 16]) (.cond 4 .skip (.seq (.ops [.bin 17 .eql 3 (.c (.d (.s (bs [60,61])))),.asg 4 17]) (.cond 4 .skip (.seq (.ops [.bin 18 .eql 3 (.c (.d (.s (bs [62])))),.asg 4 18]) (.cond 4 .skip (.seq (.ops [.bin 19 .eql 3 (.c (.d (.s (bs [62,61])))),.asg 4 19]) (.cond 4 .skip (.ops [.bin 20 .eql 3 (.c (.d (.s (bs [124,124])))),.asg 4 20]))))))))))))))))))))))))))))))) aM9))) aXa))
theorem bHh:bQ Tryz.prog 92=some (bIk,[.mv 0 2],21):=by kernel_rfl
def aTf (r:Bool):Exit→St→Prop:=bM [.mv 0 2] fun x _=>x=(fun y=>(vB y)) r
def bJ9 (r:Bool):Exit→St→Prop:=(eU (wkK (avc Tryz.prog aXa (aTf r))) (aTf r))
def aZx (r:Bool):Exit→St→Prop:=(eY 0 (bJ9 r))
def aYc (x4:Bool):St:=⟨[(4,(vB x4))],[]⟩
abbrev aOu:=fun x4 r=>avc Tryz.prog aM9 (aZx r) (aYc x4)
def bC5:AC:=(.seq (.ops [.alc 4 [aR,aX,aR]]) (.seq (.seq (.dops [[],[0],[1],[2],[3],[4],[5,4],[6,4],[7,4],[4],[8,9,4],[4],[11,4],[12,4],[13,4],[14,4],[10,15,4],[4,16]] [.mv 5 0,.nck 6 5,.fa 7 2 6,.ld 8 1 false 7,.mv 9 8,.g 9 false (.mv 10 0),.g 9 false (.nck 11 10),.g 9 false (.fa 12 1 11),.g 9 false (.ld 13 1 false 12),.g 9 false (.mv 14 1),.g 9 false (.bin 15 .add 13 14),.g 9 false (.mv 16 0),.g 9 false (.nck 17 16),.g 9 false (.fa 18 0 17),.g 9 false (.ld 19 1 false 18),.g 9 false (.len 20 19),.g 9 false (.bin 21 .geq 15 20),.pick 22 9 (kB true) 21]) (.cond 22 (.seq (.ops [.bld 23 [aR,aX,aR] [],.st 3 4 23]) .ret) .skip)) (.seq (.dops [[],[0],[1],[2],[],[4],[5],[6],[],[7,8],[3,9],[10],[11,0,1,2,3,4,5,6,7,8,9,10,11]] [.mv 24 0,.nck 25 24,.fa 26 0 25,.ld 27 1 false 26,.mv 28 0,.nck 29 28,.fa 30 1 29,.ld 31 1 false 30,.mv 32 1,.bin 33 .add 31 32,.ia 34 3 27 33,.ld 35 3 true 34,.st 3 4 35]) .ret)))
theorem bJd:bQ Tryz.prog 59=some (bC5,[.ld 0 3 true 4],36):=by kernel_rfl
def bWy (p0:aU) (r:aJ):Exit→St→Prop:=bM [.ld 0 3 true 4] fun x b=>x=(fun (y:aJ)=>(kM y)) r∧bI ((fun (y:aJ)=>[(1000000,bU p0)]) r) b
def bMj:AC:=(.seq (.ops [.asg 4 (kB false)]) (.seq (.ops [.mv 6 0,.call (some 7) 59 [6,(kI 0)],.alc 5 [aR,aX,aR],.st 3 5 7]) (.seq (.ops [.fa 8 0 5,.ld 9 1 false 8,.bin 10 .eql 9 (kI 5),.mv 11 10,.g 11 true (.fa 12 1 5),.g 11 true (.ld 13 1 false 12),.g 11 true (.mv 14 1),.g 11 true (.bin 15 .eql 13 14),.pick 16 11 15 (kB false),.asg 4 16]) .ret)))
theorem bCy:bQ Tryz.prog 34=some (bMj,[.mv 0 4],17):=by kernel_rfl
def bVg (p0:aU) (r:Bool):Exit→St→Prop:=bM [.mv 0 4] fun x b=>x=(fun (y:Bool)=>(vB y)) r∧bI ((fun (y:Bool)=>[(1000000,bU p0)]) r) b
def bAz:AC:=(.seq (.ops [.alc 2 [aR,aR,aX]]) (.seq (.ops [.mv 3 0,.bld 4 [aR,aR,aX] [(0,1,(kI 2)),(2,1,3)],.st 3 2 4]) .ret))
theorem bM6:bQ Tryz.prog 63=some (bAz,[.ld 0 3 true 2],5):=by kernel_rfl
def bUn (r:bJ):Exit→St→Prop:=bM [.ld 0 3 true 2] fun x _=>x=(fun y=>(lD y)) r
def aNp:AC:=(.loop (.seq (.seq (.ops [.mv 20 0,.call (some 21) 34 [20,(.c (.d (.s (bs [44]))))]]) (.cond 21 .skip (.exit 0))) (.block 1 (.seq (.ops [.mv 22 0,.call (some 23) 35 [22,(kB true)]]) (.dops [[],[0],[],[2],[3],[1,4,3],[0,1,2,3,4,5],[6,5,5,0,1,2,3,4,5]] [.fa 24 1 3,.ld 25 1 false 24,.mv 26 0,.call (some 27) 80 [26],.bsl 28 89 13 [27],.app 29 89 13 176 25 28,.fa 30 1 3,.st 1 30 29])))))
def aNl:AC:=(.ops [.fa 63 2 3,.ld 64 1 false 63,.ld 65 3 true 5,.bsl 66 107 3 [65],.app 67 107 3 56 64 66,.fa 68 2 3,.st 1 68 67])
def aHf:AC:=(.loop (.seq (.seq (.ops [.mv 42 0,.call (some 43) 34 [42,(.c (.d (.s (bs [44]))))],.mv 44 43,.g 44 false (.mv 45 0),.g 44 false (.call (some 46) 57 [45,(kI 4)]),.pick 47 44 (kB true) 46]) (.cond 47 .skip (.exit 2))) (.block 3 (.seq (.ops [.mv 48 0,.call (some 49) 57 [48,(kI 4)],.asg 4 49]) (.seq (.ops [.mv 50 0,.call (some 51) 35 [50,(kB true)]]) (.seq (.ops [.mv 52 0,.call (some 53) 81 [52],.alc 5 [aX,aX,(.nil 10)],.st 3 5 53]) (.seq (.seq (.ops [.mv 54 4]) (.cond 54 (.seq (.ops [.mv 55 0,.mv 56 0,.call (some 57) 57 [56,(kI 5)],.call (some 58) 35 [55,57]]) (.ops [.mv 59 0,.call (some 60) 15 [59,(kI 1)],.bsl 61 31 10 [60],.fa 62 2 5,.st 1 62 61])) .skip)) aNl)))))))
def aIy:AC:=(.loop (.seq (.seq (.ops [.mv 85 0,.call (some 86) 34 [85,(.c (.d (.s (bs [44]))))]]) (.cond 86 .skip (.exit 4))) (.block 5 (.seq (.ops [.mv 87 0,.call (some 88) 35 [87,(kB true)]]) (.dops [[],[0],[],[2],[3],[1,4,3],[0,1,2,3,4,5],[6,5,5,0,1,2,3,4,5]] [.fa 89 4 3,.ld 90 1 false 89,.mv 91 0,.call (some 92) 83 [91],.bsl 93 93 11 [92],.app 94 93 11 144 90 93,.fa 95 4 3,.st 1 95 94])))))
def aOj:AC:=(.seq (.ops [.ld 105 6 true 3,.st 6 2 105]) .ret)
def aD1:AC:=(.seq (.seq (.ops [.mv 96 0,.call (some 97) 32 [96,(kI 11)]]) (.cond 97 (.ops [.mv 99 0,.call (some 100) 62 [99,(kI 3)],.call (some 101) 61 [100],.mv 98 101,.ext 102 98 0,.ext 103 98 1,.fa 104 5 3,.st 1 104 102]) .skip)) aOj)
def aX3:AC:=(.seq (.ops [.mv 69 0,.call (some 70) 82 [69],.fa 71 3 3,.st 1 71 70]) (.seq (.seq (.ops [.mv 72 0,.call (some 73) 32 [72,(kI 7)]]) (.cond 73 (.seq (.ops [.mv 74 0,.mv 75 0,.call (some 76) 57 [75,(kI 8)],.call (some 77) 35 [74,76]]) (.seq (.dops [[],[0],[],[2],[3],[1,4,3],[0,1,2,3,4,5],[6,5,5,0,1,2,3,4,5]] [.fa 78 4 3,.ld 79 1 false 78,.mv 80 0,.call (some 81) 83 [80],.bsl 82 93 11 [81],.app 83 93 11 144 79 82,.fa 84 4 3,.st 1 84 83]) (.block 4 aIy))) .skip)) aD1))
def aT3:AC:=(.seq (.ops [.mv 31 0,.mv 32 0,.call (some 33) 57 [32,(kI 3)],.call (some 34) 35 [31,33]]) (.seq (.dops [[],[0],[],[2],[3],[1,4,3],[0,1,2,3,4,5],[6,5,5,0,1,2,3,4,5]] [.fa 35 2 3,.ld 36 1 false 35,.mv 37 0,.call (some 38) 81 [37],.bsl 39 107 3 [38],.app 40 107 3 56 36 39,.fa 41 2 3,.st 1 41 40]) (.seq (.block 2 aHf) aX3)))
def bAg:AC:=(.seq (.ops [.alc 2 uY]) (.seq (.ops [.mv 6 0,.mv 7 0,.call (some 8) 57 [7,(kI 1)],.call (some 9) 35 [6,8]]) (.seq (.ops [.mv 10 0,.call (some 11) 32 [10,(kI 2)],.bld 12 [eH,(.nil 13),(.nil 3),(.nil 10),(.nil 11),aR] [(0,1,11),(5,1,(kI (-1)))],.alc 3 uY,.st 6 3 12]) (.seq (.dops [[],[0],[],[2],[3],[1,4,3],[0,1,2,3,4,5],[6,5,5,0,1,2,3,4,5]] [.fa 13 1 3,.ld 14 1 false 13,.mv 15 0,.call (some 16) 80 [15],.bsl 17 89 13 [16],.app 18 89 13 176 14 17,.fa 19 1 3,.st 1 19 18]) (.seq (.block 0 aNp) aT3)))))
theorem bSk:bQ Tryz.prog 65=some (bAg,[.ld 0 6 true 2],106):=by kernel_rfl
def yO (r:aY×aU):Exit→St→Prop:=bM [.ld 0 6 true 2] fun x b=>x=(fun (y:aY×aU)=>(nL y.1)) r∧bI ((fun (y:aY×aU)=>[(1000000,bU y.2)]) r) b
def bEn (r:aY×aU):Exit→St→Prop:=(eU (wkK (avc Tryz.prog aT3 (yO r))) (yO r))
def bJ5 (r:aY×aU):Exit→St→Prop:=(eY 0 (bEn r))
def bQc (r:aY×aU):Exit→St→Prop:=(eU (wkK (avc Tryz.prog aX3 (yO r))) (yO r))
def aIe (r:aY×aU):Exit→St→Prop:=(eY 2 (bQc r))
def bR5 (r:aY×aU):Exit→St→Prop:=(eU (avc Tryz.prog aHf (aIe r)) (aIe r))
def bQh (r:aY×aU):Exit→St→Prop:=(eY 3 (bR5 r))
def bPo (r:aY×aU):Exit→St→Prop:=(eU (wkK (avc Tryz.prog aD1 (yO r))) (yO r))
def aZr (r:aY×aU):Exit→St→Prop:=(eY 4 (bPo r))
def bNo (y3:Bool×aU) (bG:List bV) (bD:List aJ) (bC:Int) (bF:Bool):St:=⟨[(0,(.ptr 1000000 0)),(2,(.ptr 2 0)),(3,(.ptr 3 0))],[(2,[(vB false),(.nil 13),(.nil 3),(.nil 10),(.nil 11),(vI 0)]),(3,[(vB y3.1),(.osl 18 89 13 (bG.map dX)),(.nil 3),(.nil 10),(.nil 11),(vI (-1))]),(1000000,bU (aU.mk bD bC bF))]⟩
abbrev aD6:=fun y3 bG bD bC bF r=>avc Tryz.prog aNp (bJ5 r) (bNo y3 bG bD bC bF)
def bEk (y3:Bool×aU) (bG:List bV) (dY:List bR) (lF:List aJ) (lH:Int) (kZ:Bool):St:=⟨[(0,(.ptr 1000000 0)),(2,(.ptr 2 0)),(3,(.ptr 3 0))],[(2,[(vB false),(.nil 13),(.nil 3),(.nil 10),(.nil 11),(vI 0)]),(3,[(vB y3.1),(.osl 18 89 13 (bG.map dX)),(.osl 40 107 3 (dY.map eP)),(.nil 10),(.nil 11),(vI (-1))]),(1000000,bU (aU.mk lF lH kZ))]⟩
abbrev aHh:=fun y3 bG dY lF lH kZ r=>avc Tryz.prog aHf (aIe r) (bEk y3 bG dY lF lH kZ)
def bBk (y3:Bool×aU) (bG:List bV) (dY:List bR) (y22:bR×aU) (bP:List aA) (pU:List aJ) (nM:Int×Bool):St:=⟨[(0,(.ptr 1000000 0)),(2,(.ptr 2 0)),(3,(.ptr 3 0)),(5,(.ptr 5 0))],[(2,[(vB false),(.nil 13),(.nil 3),(.nil 10),(.nil 11),(vI 0)]),(3,[(vB y3.1),(.osl 18 89 13 (bG.map dX)),(.osl 40 107 3 (dY.map eP)),(.nil 10),(.nil 11),(vI (-1))]),(5,aM6 (bR.mk y22.1.table y22.1.as_ bP)),(1000000,bU (aU.mk pU nM.1 nM.2))]⟩
abbrev aGm:=fun y3 bG dY y22 bP pU nM r=>avc Tryz.prog aNl (bQh r) (bBk y3 bG dY y22 bP pU nM)
def bT4 (y3:Bool×aU) (bG:List bV) (dY:List bR) (y29:(List aA)×aU) (gM:List eB) (mV:List aJ) (kV:Int×Bool):St:=⟨[(0,(.ptr 1000000 0)),(2,(.ptr 2 0)),(3,(.ptr 3 0))],[(2,[(vB false),(.nil 13),(.nil 3),(.nil 10),(.nil 11),(vI 0)]),(3,[(vB y3.1),(.osl 18 89 13 (bG.map dX)),(.osl 40 107 3 (dY.map eP)),(.osl 70 31 10 (y29.1.map bN)),(.osl 83 93 11 (gM.map gD)),(vI (-1))]),(1000000,bU (aU.mk mV kV.1 kV.2))]⟩
abbrev aDk:=fun y3 bG dY y29 gM mV kV r=>avc Tryz.prog aIy (aZr r) (bT4 y3 bG dY y29 gM mV kV)
def bO9 (y3:Bool×aU) (bG:List bV) (dY:List bR) (y29:(List aA)×aU) (jY:List eB) (wV:List aJ) (yQ:Int) (wQ:Bool):St:=⟨[(0,(.ptr 1000000 0)),(2,(.ptr 2 0)),(3,(.ptr 3 0))],[(2,[(vB false),(.nil 13),(.nil 3),(.nil 10),(.nil 11),(vI 0)]),(3,[(vB y3.1),(.osl 18 89 13 (bG.map dX)),(.osl 40 107 3 (dY.map eP)),(.osl 70 31 10 (y29.1.map bN)),(.osl 83 93 11 (jY.map gD)),(vI (-1))]),(1000000,bU (aU.mk wV yQ wQ))]⟩
abbrev aP2:=fun y3 bG dY y29 jY wV yQ wQ r=>avc Tryz.prog aD1 (yO r) (bO9 y3 bG dY y29 jY wV yQ wQ)
def bGn (y3:Bool×aU) (bG:List bV) (dY:List bR) (y29:(List aA)×aU) (jY:List eB) (lJ:Int) (vX:List aJ) (wC:Int) (wL:Bool):St:=⟨[(2,(.ptr 2 0)),(3,(.ptr 3 0))],[(2,[(vB false),(.nil 13),(.nil 3),(.nil 10),(.nil 11),(vI 0)]),(3,[(vB y3.1),(.osl 18 89 13 (bG.map dX)),(.osl 40 107 3 (dY.map eP)),(.osl 70 31 10 (y29.1.map bN)),(.osl 83 93 11 (jY.map gD)),(vI lJ)]),(1000000,bU (aU.mk vX wC wL))]⟩
abbrev aQ2:=fun y3 bG dY y29 jY lJ vX wC wL r=>avc Tryz.prog aOj (yO r) (bGn y3 bG dY y29 jY lJ vX wC wL)
def bOr:AC:=(.seq (.ops [.alc 2 aEr]) (.seq (.ops [.mv 7 0,.call (some 8) 59 [7,(kI 1)],.alc 3 [aR,aX,aR],.st 3 3 8]) (.seq (.ops [.mv 9 0,.call (some 10) 59 [9,(kI 2)],.alc 4 [aR,aX,aR],.st 3 4 10]) (.seq (.seq (.ops [.mv 11 0,.call (some 12) 34 [11,(.c (.d (.s (bs [42]))))]]) (.cond 12 (.seq (.ops [.mv 13 0,.call (some 14) 35 [13,(kB true)]]) (.seq (.ops [.bld 15 [eH,aX,aR,aR,eH,aR,aR,aX,aX,aX,(.nil 10),(.nil 6),aX] [(0,1,(kB true))],.st 13 2 15]) .ret)) .skip)) (.seq (.seq (.ops [.mv 16 0,.call (some 17) 60 [16,(kI 2)],.mv 18 17,.g 18 true (.fa 19 0 3),.g 18 true (.ld 20 1 false 19),.g 18 true (.bin 21 .eql 20 (kI 5)),.pick 22 18 21 (kB false),.mv 23 22,.g 23 true (.fa 24 1 3),.g 23 true (.ld 25 1 false 24),.g 23 true (.bin 26 .eql 25 (.c (.d (.s (bs [46]))))),.pick 27 23 26 (kB false),.mv 28 27,.g 28 true (.fa 29 0 4),.g 28 true (.ld 30 1 false 29),.g 28 true (.bin 31 .eql 30 (kI 5)),.pick 32 28 31 (kB false),.mv 33 32,.g 33 true (.fa 34 1 4),.g 33 true (.ld 35 1 false 34),.g 33 true (.bin 36 .eql 35 (.c (.d (.s (bs [42]))))),.pick 37 33 36 (kB false)]) (.cond 37 (.seq (.ops [.mv 38 0,.call (some 39) 62 [38,(kI 2)],.bld 40 [eH,aX,aR,aR,eH,aR,aR,aX,aX,aX,(.nil 10),(.nil 6),aX] [(0,1,(kB true)),(1,1,39)],.alc 5 aEr,.st 13 5 40]) (.seq (.ops [.mv 41 0,.call (some 42) 35 [41,(kB true)]]) (.seq (.ops [.mv 43 0,.call (some 44) 35 [43,(kB true)]]) (.seq (.ops [.ld 45 13 true 5,.st 13 2 45]) .ret)))) .skip)) (.seq (.ops [.mv 46 0,.call (some 47) 15 [46,(kI 1)],.alc 6 fB,.st 10 6 47]) (.seq (.dops [[],[],[1],[0,2],[3,2,0,1,2,3]] [.ld 48 10 true 6,.mv 49 0,.call (some 50) 93 [49],.bld 51 [eH,aX,aR,aR,eH,aR,aR,aX,aX,aX,(.nil 10),(.nil 6),aX] [(2,10,48),(12,1,50)],.st 13 2 51]) .ret)))))))
theorem bJj:bQ Tryz.prog 80=some (bOr,[.ld 0 13 true 2],52):=by kernel_rfl
def bWu (r:bV×aU):Exit→St→Prop:=bM [.ld 0 13 true 2] fun x b=>x=(fun (y:bV×aU)=>(qG y.1)) r∧bI ((fun (y:bV×aU)=>[(1000000,bU y.2)]) r) b
def bHu:AC:=(.seq (.ops [.asg 2 (.c (.d (.s (bs []))))]) (.seq (.seq (.ops [.mv 3 0,.call (some 4) 32 [3,(kI 12)]]) (.cond 4 (.seq (.ops [.mv 5 0,.call (some 6) 62 [5,(kI 2)],.asg 2 6]) .ret) .skip)) (.seq (.ops [.asg 2 (.c (.d (.s (bs []))))]) .ret)))
theorem bAq:bQ Tryz.prog 93=some (bHu,[.mv 0 2],7):=by kernel_rfl
def bTi (r:(List UInt8)×aU):Exit→St→Prop:=bM [.mv 0 2] fun x b=>x=(fun (y:(List UInt8)×aU)=>(vS y.1)) r∧bI ((fun (y:(List UInt8)×aU)=>[(1000000,bU y.2)]) r) b
def aO4:AC:=(.seq (.ops [.mv 12 5,.asg 4 12]) .ret)
def bLt:AC:=(.seq (.ops [.asg 4 (kB false)]) (.seq (.ops [.mv 6 0,.mv 7 1,.call (some 8) 57 [6,7],.asg 5 8]) (.seq (.seq (.ops [.mv 9 5]) (.cond 9 (.ops [.mv 10 0,.call (some 11) 35 [10,(kB true)]]) .skip)) aO4)))
theorem bPp:bQ Tryz.prog 32=some (bLt,[.mv 0 4],13):=by kernel_rfl
def bSz (r:Bool×aU):Exit→St→Prop:=bM [.mv 0 4] fun x b=>x=(fun (y:Bool×aU)=>(vB y.1)) r∧bI ((fun (y:Bool×aU)=>[(1000000,bU y.2)]) r) b
def bCr (y1:Bool) (bD:List aJ) (bC:Int) (bF:Bool):St:=⟨[(5,(vB y1))],[(1000000,bU (aU.mk bD bC bF))]⟩
abbrev aQe:=fun y1 bD bC bF r=>avc Tryz.prog aO4 (bSz r) (bCr y1 bD bC bF)
def bJc:AC:=(.seq (.ops [.asg 4 (kB false)]) (.seq (.ops [.mv 6 0,.call (some 7) 59 [6,(kI 0)],.alc 5 [aR,aX,aR],.st 3 5 7]) (.seq (.dops [[],[0],[1],[2],[3],[4,3],[3],[6,3,3],[5,7,3],[3,8],[9,7,0,1,2,3,4,5,6,7,8,9]] [.fa 8 0 5,.ld 9 1 false 8,.bin 10 .eql 9 (kI 1),.mv 11 10,.g 11 true (.fa 12 1 5),.g 11 true (.ld 13 1 false 12),.g 11 true (.mv 14 1),.g 11 true (.call (some 15) 53 [14]),.g 11 true (.bin 16 .eql 13 15),.pick 17 11 16 (kB false),.asg 4 17]) .ret)))
theorem bO6:bQ Tryz.prog 57=some (bJc,[.mv 0 4],18):=by kernel_rfl
def bVy (p0:aU) (r:Bool):Exit→St→Prop:=bM [.mv 0 4] fun x b=>x=(fun (y:Bool)=>(vB y)) r∧bI ((fun (y:Bool)=>[(1000000,bU p0)]) r) b
def bAa:AC:=(.seq (.ops [.asg 2 (.c (.d (.s (bs []))))]) (.seq (.seq (.ops [.mv 3 0,.call (some 4) 72 [3,(kI 1),(kI 28)],.not 5 4]) (.cond 5 (.seq (.ops [.asg 2 (.c (.d (.s (bs []))))]) .ret) .skip)) (.seq (.ops [.call (some 6) 69 [],.mv 7 0,.ia 8 1 6 7,.ld 9 1 false 8,.asg 2 9]) .ret)))
theorem bRe:bQ Tryz.prog 53=some (bAa,[.mv 0 2],10):=by kernel_rfl
def bW2 (r:List UInt8):Exit→St→Prop:=bM [.mv 0 2] fun x _=>x=(fun y=>(vS y)) r
def bMl:AC:=(.seq (.ops [.asg 2 (.c (.nil 10))]) (.seq (.seq (.ops [.mv 3 0,.call (some 4) 32 [3,(kI 6)]]) (.cond 4 (.seq (.ops [.mv 5 0,.call (some 6) 15 [5,(kI 1)],.bsl 7 31 10 [6],.asg 2 7]) .ret) .skip)) (.seq (.ops [.asg 2 (.c (.nil 10))]) .ret)))
theorem bHp:bQ Tryz.prog 82=some (bMl,[.mv 0 2],8):=by kernel_rfl
def bT8 (r:(List aA)×aU):Exit→St→Prop:=bM [.mv 0 2] fun x b=>x=(fun (y:(List aA)×aU)=>(.osl 2000000 31 10 (y.1.map bN))) r∧bI ((fun (y:(List aA)×aU)=>[(1000000,bU y.2)]) r) b
def bJb:AC:=(.seq (.ops [.alc 2 aJ0]) (.seq (.ops [.mv 4 0,.call (some 5) 15 [4,(kI 1)],.alc 3 fB,.st 10 3 5]) (.seq (.seq (.ops [.mv 6 0,.call (some 7) 32 [6,(kI 10)]]) (.cond 7 (.seq (.ops [.ld 8 10 true 3,.bld 9 [aR,aR,eH,aR,aR,aX,aX,aX,(.nil 10),(.nil 6),eH] [(0,10,8),(10,1,(kB true))],.st 11 2 9]) .ret) .skip)) (.seq (.ops [.mv 10 0,.call (some 11) 32 [10,(kI 9)]]) (.seq (.ops [.ld 12 10 true 3,.bld 13 [aR,aR,eH,aR,aR,aX,aX,aX,(.nil 10),(.nil 6),eH] [(0,10,12)],.st 11 2 13]) .ret)))))
theorem bPm:bQ Tryz.prog 83=some (bJb,[.ld 0 11 true 2],14):=by kernel_rfl
def bTe (r:eB×aU):Exit→St→Prop:=bM [.ld 0 11 true 2] fun x b=>x=(fun (y:eB×aU)=>(xB y.1)) r∧bI ((fun (y:eB×aU)=>[(1000000,bU y.2)]) r) b
def bRg:AC:=(.seq (.ops [.alc 2 [aX,aX,(.nil 10)]]) (.seq (.ops [.mv 4 0,.call (some 5) 62 [4,(kI 2)],.asg 3 5]) (.seq (.ops [.mv 6 3,.mv 7 0,.call (some 8) 93 [7],.bld 9 [aX,aX,(.nil 10)] [(0,1,6),(1,1,8)],.st 3 2 9]) .ret)))
theorem bFf:bQ Tryz.prog 81=some (bRg,[.ld 0 3 true 2],10):=by kernel_rfl
def bX2 (r:bR×aU):Exit→St→Prop:=bM [.ld 0 3 true 2] fun x b=>x=(fun (y:bR×aU)=>(aDx y.1)) r∧bI ((fun (y:bR×aU)=>[(1000000,bU y.2)]) r) b
def aLm:AC:=(.seq (.ops [.ld 61 10 true 3,.st 10 2 61]) .ret)
def bPq:AC:=(.seq (.ops [.alc 2 fB]) (.seq (.ops [.mv 8 0,.call (some 9) 15 [8,(kI 5)],.alc 3 fB,.st 10 3 9]) (.seq (.ops [.mv 10 0,.call (some 11) 37 [10,(kI 4)],.asg 4 11]) (.seq (.seq (.ops [.mv 12 4,.bin 13 .gtr 12 (kI 0)]) (.cond 13 (.seq (.ops [.mv 14 0,.call (some 15) 35 [14,(kB true)]]) (.seq (.dops [[],[],[],[2],[1,3],[0,4],[5,3,0,1,2,3,4,5]] [.mv 16 4,.ld 17 10 true 3,.mv 18 0,.call (some 19) 15 [18,(kI 5)],.bsl 20 31 10 [17,19],.bld 21 [aR,aR,eH,aR,aR,aX,aX,aX,(.nil 10),(.nil 6)] [(0,1,(kI 4)),(1,1,16),(8,1,20)],.st 10 2 21]) .ret)) .skip)) (.seq (.seq (.ops [.mv 22 0,.call (some 23) 32 [22,(kI 16)]]) (.cond 23 (.seq (.ops [.mv 24 0,.call (some 25) 32 [24,(kI 15)],.asg 5 25]) (.seq (.ops [.mv 26 0,.mv 27 0,.call (some 28) 57 [27,(kI 20)],.call (some 29) 35 [26,28]]) (.seq (.ops [.mv 30 5,.ld 31 10 true 3,.bsl 32 31 10 [31],.bld 33 [aR,aR,eH,aR,aR,aX,aX,aX,(.nil 10),(.nil 6)] [(0,1,(kI 5)),(2,1,30),(8,1,32)],.st 10 2 33]) .ret))) .skip)) (.seq (.ops [.mv 34 0,.call (some 35) 32 [34,(kI 15)],.asg 6 35]) (.seq (.seq (.ops [.mv 36 0,.call (some 37) 32 [36,(kI 18)]]) (.cond 37 (.seq (.ops [.mv 38 0,.call (some 39) 15 [38,(kI 5)],.alc 7 fB,.st 10 7 39]) (.seq (.ops [.mv 40 0,.mv 41 0,.call (some 42) 57 [41,(kI 13)],.call (some 43) 35 [40,42]]) (.seq (.dops [[],[],[],[],[3],[1,2,4],[0,5],[6,4,0,1,2,3,4,5,6]] [.mv 44 6,.ld 45 10 true 3,.ld 46 10 true 7,.mv 47 0,.call (some 48) 15 [47,(kI 5)],.bsl 49 31 10 [45,46,48],.bld 50 [aR,aR,eH,aR,aR,aX,aX,aX,(.nil 10),(.nil 6)] [(0,1,(kI 6)),(2,1,44),(8,1,49)],.st 10 2 50]) .ret))) .skip)) (.seq (.seq (.ops [.mv 51 0,.call (some 52) 32 [51,(kI 17)]]) (.cond 52 (.seq (.ops [.mv 53 0,.ld 54 10 true 3,.mv 55 6,.call (some 56) 58 [53,54,55],.st 10 2 56]) .ret) .skip)) (.seq (.seq (.ops [.mv 57 6]) (.cond 57 (.ops [.mv 58 0,.nck 59 58,.fa 60 2 59,.st 1 60 (kB true)]) .skip)) aLm)))))))))
theorem bGu:bQ Tryz.prog 33=some (bPq,[.ld 0 10 true 2],62):=by kernel_rfl
def bHd (r:aA×aU):Exit→St→Prop:=bM [.ld 0 10 true 2] fun x b=>x=(fun (y:aA×aU)=>(bX y.1)) r∧bI ((fun (y:aA×aU)=>[(1000000,bU y.2)]) r) b
def bLc (y1:aA×aU) (y15:Bool×aU) (bF:Bool):St:=⟨[(2,(.ptr 2 0)),(3,(.ptr 3 0))],[(2,[(vI 0),(vI 0),(vB false),(vI 0),(vI 0),(vS []),(vS []),(vS []),(.nil 10),(.nil 6)]),(3,fJ y1.1),(1000000,bU (aU.mk y15.2.t y15.2.at_ bF))]⟩
abbrev aQm:=fun y1 y15 bF r=>avc Tryz.prog aLm (bHd r) (bLc y1 y15 bF)
def aJ5:AC:=(.loop (.seq (.seq (.ops [.mv 31 0,.call (some 32) 34 [31,(.c (.d (.s (bs [44]))))]]) (.cond 32 .skip (.exit 0))) (.block 1 (.seq (.ops [.mv 33 0,.call (some 34) 35 [33,(kB true)]]) (.ops [.mv 35 8,.mv 36 0,.call (some 37) 15 [36,(kI 1)],.bsl 38 31 10 [37],.app 39 31 10 136 35 38,.asg 8 39])))))
def aUz:AC:=(.seq (.ops [.mv 40 0,.mv 41 0,.call (some 42) 34 [41,(.c (.d (.s (bs [41]))))],.call (some 43) 35 [40,42]]) (.seq (.ops [.mv 44 2,.mv 45 8,.bld 46 [aR,aR,eH,aR,aR,aX,aX,aX,(.nil 10),(.nil 6)] [(0,1,(kI 7)),(2,1,44),(8,1,45)],.st 10 6 46]) .ret))
def bC4:AC:=(.seq (.ops [.box 4 31 1,.alc 6 fB]) (.seq (.ops [.mv 9 0,.mv 10 0,.call (some 11) 34 [10,(.c (.d (.s (bs [40]))))],.call (some 12) 35 [9,11]]) (.seq (.seq (.ops [.mv 13 0,.call (some 14) 57 [13,(kI 1)]]) (.cond 14 (.seq (.ops [.mv 15 0,.call (some 16) 65 [15],.alc 7 uY,.st 6 7 16]) (.seq (.ops [.mv 17 0,.mv 18 0,.call (some 19) 34 [18,(.c (.d (.s (bs [41]))))],.call (some 20) 35 [17,19]]) (.seq (.ops [.mv 21 2,.ld 22 10 true 4,.bsl 23 31 10 [22],.ld 24 6 true 7,.bsl 25 67 6 [24],.bld 26 [aR,aR,eH,aR,aR,aX,aX,aX,(.nil 10),(.nil 6)] [(0,1,(kI 8)),(2,1,21),(8,1,23),(9,1,25)],.st 10 6 26]) .ret))) .skip)) (.seq (.dops [[],[],[1],[0,2],[3,2,0,1,2,3]] [.ld 27 10 true 4,.mv 28 0,.call (some 29) 15 [28,(kI 1)],.bsl 30 31 10 [27,29],.asg 8 30]) (.seq (.block 0 aJ5) aUz)))))
theorem aY4:bQ Tryz.prog 58=some (bC4,[.ld 0 10 true 6],47):=by kernel_rfl
def aWz (r:aA×aU):Exit→St→Prop:=bM [.ld 0 10 true 6] fun x b=>x=(fun (y:aA×aU)=>(bX y.1)) r∧bI ((fun (y:aA×aU)=>[(1000000,bU y.2)]) r) b
def bF5 (r:aA×aU):Exit→St→Prop:=(eU (wkK (avc Tryz.prog aUz (aWz r))) (aWz r))
def bB1 (r:aA×aU):Exit→St→Prop:=(eY 0 (bF5 r))
def bK7 (p2:Bool) (x8:List aA) (bD:List aJ) (bC:Int) (bF:Bool):St:=⟨[(0,(.ptr 1000000 0)),(2,(vB p2)),(6,(.ptr 6 0)),(8,(.osl 8 31 10 (x8.map bN)))],[(6,[(vI 0),(vI 0),(vB false),(vI 0),(vI 0),(vS []),(vS []),(vS []),(.nil 10),(.nil 6)]),(1000000,bU (aU.mk bD bC bF))]⟩
abbrev aDq:=fun p2 x8 bD bC bF r=>avc Tryz.prog aJ5 (bB1 r) (bK7 p2 x8 bD bC bF)
def aKz:AC:=(.ops [.mv 10 5,.bin 11 .add 10 (kI 1),.asg 5 11])
def aGy:AC:=(.loop (.seq (.seq (.ops [.mv 8 5,.bin 9 .leq 8 (kI 14)]) (.cond 9 .skip (.exit 0))) (.seq (.block 1 (.seq (.seq (.ops [.mv 12 5,.bld 13 [aR,aR,eH,aR,aR,aX,aX,aX,(.nil 10),(.nil 6)] [(0,1,(kI 4)),(1,1,12)],.call (some 14) 48 [13],.mv 15 1,.bin 16 .neq 14 15]) (.cond 16 (.exit 1) .skip)) (.seq (.ops [.mv 17 5,.call (some 18) 26 [17],.alc 6 [aR,aX,aR],.st 3 6 18]) (.seq (.ops [.mv 19 0,.call (some 20) 59 [19,(kI 0)],.alc 7 [aR,aX,aR],.st 3 7 20]) (.seq (.ops [.fa 21 0 7,.ld 22 1 false 21,.fa 23 0 6,.ld 24 1 false 23,.bin 25 .eql 22 24,.mv 26 25,.g 26 true (.fa 27 1 7),.g 26 true (.ld 28 1 false 27),.g 26 true (.fa 29 1 6),.g 26 true (.ld 30 1 false 29),.g 26 true (.bin 31 .eql 28 30),.pick 32 26 31 (kB false)]) (.cond 32 (.seq (.ops [.mv 33 5,.asg 4 33]) .ret) .skip)))))) aKz)))
def aQ3:AC:=(.seq (.ops [.asg 4 (kI 0)]) .ret)
def bAw:AC:=(.seq (.ops [.asg 4 (kI 0)]) (.seq (.seq (.ops [.asg 5 (kI 1)]) (.block 0 aGy)) aQ3))
theorem bH6:bQ Tryz.prog 37=some (bAw,[.mv 0 4],34):=by kernel_rfl
def aPw (p0:aU) (r:Int):Exit→St→Prop:=bM [.mv 0 4] fun x b=>x=(fun (y:Int)=>(vI y)) r∧bI ((fun (y:Int)=>[(1000000,bU p0)]) r) b
def bG0 (p0:aU) (r:Int):Exit→St→Prop:=(eU (wkK (avc Tryz.prog aQ3 (aPw p0 r))) (aPw p0 r))
def aI9 (p0:aU) (r:Int):Exit→St→Prop:=(eY 0 (bG0 p0 r))
def bDl (p0:aU) (r:Int):Exit→St→Prop:=(eU (avc Tryz.prog aGy (aI9 p0 r)) (aI9 p0 r))
def bMa (p1:Int) (p0:aU) (x5:Int):St:=⟨[(0,(.ptr 1000000 0)),(1,(vI p1)),(5,(vI x5))],[(1000000,bU p0)]⟩
abbrev aFx:=fun p1 p0 x5 r=>avc Tryz.prog aGy (aI9 p0 r) (bMa p1 p0 x5)
def bAu (p1:Int) (x5:Int) (p0:aU):St:=⟨[(0,(.ptr 1000000 0)),(1,(vI p1)),(5,(vI x5))],[(1000000,bU p0)]⟩
abbrev aHz:=fun p1 x5 p0 r=>avc Tryz.prog aKz (bDl p0 r) (bAu p1 x5 p0)
def aLr:AC:=(.cond 9 (.seq (.ops [.asg 2 (kI 4)]) .ret) (.seq (.ops [.bin 15 .eql 4 (kI 3),.asg 14 15]) (.cond 14 (.seq (.seq (.ops [.fa 16 1 1,.ld 17 1 false 16,.bin 18 .eql 17 (kI 15)]) (.cond 18 (.seq (.ops [.asg 2 (kI 3)]) .ret) .skip)) (.seq (.ops [.fa 19 1 1,.ld 20 1 false 19,.bin 21 .eql 20 (kI 16)]) (.cond 21 (.seq (.ops [.asg 2 (kI 8)]) .ret) .skip))) (.seq (.ops [.bin 23 .eql 4 (kI 4),.asg 22 23]) (.cond 22 (.seq (.ops [.fa 24 1 1,.ld 25 1 false 24,.call (some 26) 72 [25,(kI 1),(kI 14)]]) (.cond 26 (.seq (.ops [.bsl 27 3 1 [(kI 0),(kI 1),(kI 2),(kI 4),(kI 4),(kI 4),(kI 4),(kI 4),(kI 4),(kI 5),(kI 6),(kI 6),(kI 7),(kI 7),(kI 7)],.fa 28 1 1,.ld 29 1 false 28,.ia 30 1 27 29,.ld 31 1 false 30,.asg 2 31]) .ret) .skip)) .skip)))))
def aNx:AC:=(.cond 5 (.seq (.ops [.asg 2 (kI 9)]) .ret) (.seq (.seq (.ops [.bin 10 .eql 4 (kI 5),.asg 9 10]) (.cond 9 .skip (.seq (.ops [.bin 11 .eql 4 (kI 6),.asg 9 11]) (.cond 9 .skip (.seq (.ops [.bin 12 .eql 4 (kI 7),.asg 9 12]) (.cond 9 .skip (.ops [.bin 13 .eql 4 (kI 8),.asg 9 13]))))))) aLr))
def aEb:AC:=(.seq (.ops [.asg 2 (kI 0)]) .ret)
def bHk:AC:=(.seq (.ops [.box 1 31 0,.asg 2 (kI 0)]) (.seq (.seq (.ops [.fa 3 0 1,.ld 4 1 false 3]) (.block 0 (.seq (.seq (.ops [.bin 6 .eql 4 (kI 1),.asg 5 6]) (.cond 5 .skip (.seq (.ops [.bin 7 .eql 4 (kI 2),.asg 5 7]) (.cond 5 .skip (.ops [.bin 8 .eql 4 (kI 9),.asg 5 8]))))) aNx))) aEb))
theorem bSr:bQ Tryz.prog 48=some (bHk,[.mv 0 2],32):=by kernel_rfl
def aN0 (r:Int):Exit→St→Prop:=bM [.mv 0 2] fun x _=>x=(fun y=>(vI y)) r
def bSn (r:Int):Exit→St→Prop:=(eU (wkK (avc Tryz.prog aEb (aN0 r))) (aN0 r))
def aVi (r:Int):Exit→St→Prop:=(eY 0 (bSn r))
def aZb (p0:aA) (x5:Bool):St:=⟨[(1,(.ptr 1 0)),(4,(vI p0.kind)),(5,(vB x5))],[(1,fJ p0)]⟩
abbrev aQx:=fun p0 x5 r=>avc Tryz.prog aNx (aVi r) (aZb p0 x5)
def bPk (p0:aA) (x9:Bool):St:=⟨[(1,(.ptr 1 0)),(4,(vI p0.kind)),(9,(vB x9))],[(1,fJ p0)]⟩
abbrev aOn:=fun p0 x9 r=>avc Tryz.prog aLr (aVi r) (bPk p0 x9)
def bHl:St:=⟨[],[]⟩
abbrev aR5:=fun r=>avc Tryz.prog aEb (aN0 r) (bHl)
def bSc:AC:=(.seq (.ops [.alc 2 [aR,aX,aR]]) (.seq (.seq (.ops [.mv 3 0,.bin 4 .eql 3 (kI 1),.mv 5 4,.g 5 false (.mv 6 0),.g 5 false (.bin 7 .eql 6 (kI 2)),.pick 8 5 (kB true) 7,.mv 9 8,.g 9 false (.mv 10 0),.g 9 false (.bin 11 .eql 10 (kI 15)),.pick 12 9 (kB true) 11]) (.cond 12 (.seq (.ops [.mv 13 0,.call (some 14) 49 [13],.bld 15 [aR,aX,aR] [(0,1,(kI 1)),(1,1,14)],.st 3 2 15]) .ret) .skip)) (.seq (.ops [.mv 16 0,.call (some 17) 49 [16],.call (some 18) 24 [17],.st 3 2 18]) .ret)))
theorem bFe:bQ Tryz.prog 26=some (bSc,[.ld 0 3 true 2],19):=by kernel_rfl
def bVq (r:aJ):Exit→St→Prop:=bM [.ld 0 3 true 2] fun x _=>x=(fun y=>(kM y)) r
def bD6:AC:=(.seq (.ops [.asg 2 (.c (.d (.s (bs []))))]) (.seq (.seq (.ops [.mv 3 0,.call (some 4) 72 [3,(kI 1),(kI 16)],.not 5 4]) (.cond 5 (.seq (.ops [.asg 2 (.c (.d (.s (bs []))))]) .ret) .skip)) (.seq (.ops [.bsl 6 9 1 [(.c (.d (.s (bs [])))),(.c (.d (.s (bs [79,82])))),(.c (.d (.s (bs [65,78,68])))),(.c (.d (.s (bs [61])))),(.c (.d (.s (bs [60,62])))),(.c (.d (.s (bs [60])))),(.c (.d (.s (bs [60,61])))),(.c (.d (.s (bs [62])))),(.c (.d (.s (bs [62,61])))),(.c (.d (.s (bs [124,124])))),(.c (.d (.s (bs [43])))),(.c (.d (.s (bs [45])))),(.c (.d (.s (bs [42])))),(.c (.d (.s (bs [47])))),(.c (.d (.s (bs [37])))),(.c (.d (.s (bs [78,79,84])))),(.c (.d (.s (bs [45]))))],.mv 7 0,.ia 8 1 6 7,.ld 9 1 false 8,.asg 2 9]) .ret)))
theorem bK5:bQ Tryz.prog 49=some (bD6,[.mv 0 2],10):=by kernel_rfl
def bVu (r:List UInt8):Exit→St→Prop:=bM [.mv 0 2] fun x _=>x=(fun y=>(vS y)) r
def aYa:AC:=(.seq (.ops [.alc 2 [aR,aX,aR]]) (.seq (.ops [.mv 3 0,.bld 4 [aR,aX,aR] [(0,1,(kI 5)),(1,1,3)],.st 3 2 4]) .ret))
theorem aZs:bQ Tryz.prog 24=some (aYa,[.ld 0 3 true 2],5):=by kernel_rfl
def bUs (r:aJ):Exit→St→Prop:=bM [.ld 0 3 true 2] fun x _=>x=(fun y=>(kM y)) r
def aYz:AC:=(.seq (.ops [.asg 2 (kI 0)]) (.seq (.seq (.dops [[],[0],[1],[2],[3],[4],[5],[6,5],[7,5],[8,5],[5],[10,5],[11,5],[12,5],[13,5],[9,14,5],[5,15]] [.mv 3 0,.nck 4 3,.fa 5 2 4,.ld 6 1 false 5,.not 7 6,.mv 8 7,.g 8 true (.mv 9 0),.g 8 true (.nck 10 9),.g 8 true (.fa 11 1 10),.g 8 true (.ld 12 1 false 11),.g 8 true (.mv 13 0),.g 8 true (.nck 14 13),.g 8 true (.fa 15 0 14),.g 8 true (.ld 16 1 false 15),.g 8 true (.len 17 16),.g 8 true (.bin 18 .eql 12 17),.pick 19 8 18 (kB false)]) (.cond 19 (.seq (.ops [.asg 2 (kI (-1))]) .ret) .skip)) (.seq (.ops [.mv 20 0,.nck 21 20,.fa 22 1 21,.ld 23 1 false 22,.asg 2 23]) .ret)))
theorem aYs:bQ Tryz.prog 16=some (aYz,[.mv 0 2],24):=by kernel_rfl
def bUd (p0:aU) (r:Int):Exit→St→Prop:=bM [.mv 0 2] fun x b=>x=(fun (y:Int)=>(vI y)) r∧bI ((fun (y:Int)=>[(1000000,bU p0)]) r) b
def bIq:AC:=(.seq (.ops [.asg 2 (kB false)]) (.seq (.ops [.mv 3 0,.len 4 3,.bin 5 .gtr 4 (kI 1048576),.asg 2 5]) .ret))
theorem bPt:bQ Tryz.prog 4=some (bIq,[.mv 0 2],6):=by kernel_rfl
def bWm (r:Bool):Exit→St→Prop:=bM [.mv 0 2] fun x _=>x=(fun y=>(vB y)) r
def aKi:AC:=(.loop (.seq (.seq (.ops [.mv 8 4,.mv 9 0,.len 10 9,.bin 11 .lss 8 10,.mv 12 11,.g 12 true (.mv 13 4),.g 12 true (.bin 14 .lss 13 (kI 4000)),.pick 15 12 14 (kB false)]) (.cond 15 .skip (.exit 0))) (.seq (.block 1 (.ops [.mv 18 3,.bin 19 .mul 18 (kI 131),.mv 20 0,.mv 21 4,.ia 22 1 20 21,.ld 23 1 false 22,.cvi 24 .i64 23,.bin 25 .add 19 24,.bin 26 .add 25 (kI 7),.bin 27 .and 26 (kI 1073741823),.asg 3 27])) (.ops [.mv 16 4,.bin 17 .add 16 (kI 1),.asg 4 17]))))
def aUa:AC:=(.seq (.ops [.mv 28 0,.mv 29 3,.bld 30 [(.nil 1),aR,aR] [(0,1,28),(2,1,29)],.box 31 76 30,.asg 2 31]) .ret)
def bE2:AC:=(.seq (.ops [.asg 2 (.c .np)]) (.seq (.ops [.mv 5 0,.len 6 5,.bin 7 .add (kI 28322) 6,.asg 3 7]) (.seq (.seq (.ops [.asg 4 (kI 0)]) (.block 0 aKi)) aUa)))
theorem bGy:bQ Tryz.prog 17=some (bE2,[.mv 0 2],32):=by kernel_rfl
def aXq (r:aQ):Exit→St→Prop:=bM [.mv 0 2] fun x b=>x=(fun (y:aQ)=>(.ptr 31 0)) r∧bI ((fun (y:aQ)=>[(31,cZ y)]) r) b
def bFu (r:aQ):Exit→St→Prop:=(eU (wkK (avc Tryz.prog aUa (aXq r))) (aXq r))
def aYd (r:aQ):Exit→St→Prop:=(eY 0 (bFu r))
def bJw (p0:List Int) (x3:Int) (x4:Int):St:=⟨[(0,(uL p0)),(3,(vI x3)),(4,(vI x4))],[]⟩
abbrev aGa:=fun p0 x3 x4 r=>avc Tryz.prog aKi (aYd r) (bJw p0 x3 x4)
def bHy:AC:=(.seq (.ops [.asg 2 (.c .np),.alc 3 fB]) (.seq (.ops [.mv 5 0,.call (some 6) 17 [5],.asg 4 6]) (.seq (.ops [.mv 7 4,.mv 8 4,.mv 9 4,.mv 10 0,.call (some 11) 20 [10,(kI 4)],.call (some 12) 19 [9,11],.call (some 13) 18 [8,12],.asg 2 7,.st 10 3 13]) .ret)))
theorem bLs:bQ Tryz.prog 9=some (bHy,[.mv 0 2,.ld 0 10 true 3],14):=by kernel_rfl
def bUm (r:aQ×aA):Exit→St→Prop:=bM [.mv 0 2,.ld 0 10 true 3] fun x b=>x=(fun (y:aQ×aA)=>(.tup [(.ptr 6 0),(bX y.2)])) r∧bI ((fun (y:aQ×aA)=>[(6,cZ y.1)]) r) b
def aK7:AC:=(.seq (.ops [.mv 84 0,.call (some 85) 19 [84,(kI 14)],.bin 86 .add (kI 1) 85,.mv 87 0,.mv 88 1,.call (some 89) 40 [87,88,(kI 2)],.bld 90 [aR,aR,eH,aR,aR,aX,aX,aX,(.nil 10),(.nil 6)] [(0,1,(kI 4)),(1,1,86),(8,1,89)],.st 10 4 90]) .ret)
def bCt:AC:=(.seq (.ops [.alc 4 fB]) (.seq (.seq (.ops [.mv 5 1,.bin 6 .leq 5 (kI 0),.mv 7 6,.g 7 false (.mv 8 0),.g 7 false (.call (some 9) 12 [8,(kI 5)]),.pick 10 7 (kB true) 9]) (.cond 10 (.seq (.seq (.ops [.mv 11 0,.call (some 12) 12 [11,(kI 2)]]) (.cond 12 (.seq (.ops [.mv 13 0,.call (some 14) 38 [13],.st 10 4 14]) .ret) .skip)) (.seq (.ops [.mv 15 0,.call (some 16) 39 [15],.bld 17 [aR,aR,eH,aR,aR,aX,aX,aX,(.nil 10),(.nil 6)] [(0,1,(kI 1)),(3,3,16)],.st 10 4 17]) .ret)) .skip)) (.seq (.seq (.ops [.mv 18 0,.call (some 19) 19 [18,(kI 12)]]) (.block 0 (.seq (.ops [.bin 21 .eql 19 (kI 0),.asg 20 21]) (.cond 20 (.seq (.ops [.mv 22 0,.mv 23 1,.call (some 24) 40 [22,23,(kI 1)],.bld 25 [aR,aR,eH,aR,aR,aX,aX,aX,(.nil 10),(.nil 6)] [(0,1,(kI 3)),(1,1,(kI 15)),(8,1,24)],.st 10 4 25]) .ret) (.seq (.ops [.bin 27 .eql 19 (kI 1),.asg 26 27]) (.cond 26 (.seq (.ops [.mv 28 0,.mv 29 1,.call (some 30) 40 [28,29,(kI 1)],.bld 31 [aR,aR,eH,aR,aR,aX,aX,aX,(.nil 10),(.nil 6)] [(0,1,(kI 3)),(1,1,(kI 16)),(8,1,30)],.st 10 4 31]) .ret) (.seq (.ops [.bin 33 .eql 19 (kI 2),.asg 32 33]) (.cond 32 (.seq (.ops [.mv 34 0,.call (some 35) 12 [34,(kI 2)],.mv 36 0,.mv 37 1,.call (some 38) 40 [36,37,(kI 1)],.bld 39 [aR,aR,eH,aR,aR,aX,aX,aX,(.nil 10),(.nil 6)] [(0,1,(kI 5)),(2,1,35),(8,1,38)],.st 10 4 39]) .ret) (.seq (.ops [.bin 41 .eql 19 (kI 3),.asg 40 41]) (.cond 40 (.seq (.ops [.mv 42 0,.call (some 43) 12 [42,(kI 2)],.mv 44 0,.mv 45 1,.call (some 46) 40 [44,45,(kI 3)],.bld 47 [aR,aR,eH,aR,aR,aX,aX,aX,(.nil 10),(.nil 6)] [(0,1,(kI 6)),(2,1,43),(8,1,46)],.st 10 4 47]) .ret) (.seq (.ops [.bin 49 .eql 19 (kI 4),.asg 48 49]) (.cond 48 (.seq (.ops [.mv 50 0,.call (some 51) 12 [50,(kI 2)],.mv 52 0,.mv 53 1,.mv 54 0,.call (some 55) 19 [54,(kI 2)],.bin 56 .add (kI 2) 55,.call (some 57) 40 [52,53,56],.bld 58 [aR,aR,eH,aR,aR,aX,aX,aX,(.nil 10),(.nil 6)] [(0,1,(kI 7)),(2,1,51),(8,1,57)],.st 10 4 58]) .ret) (.seq (.ops [.bin 60 .eql 19 (kI 5),.asg 59 60]) (.cond 59 (.seq (.ops [.mv 61 1,.bin 62 .gtr 61 (kI 1)]) (.cond 62 (.seq (.ops [.mv 63 0,.call (some 64) 12 [63,(kI 2)],.mv 65 0,.mv 66 1,.call (some 67) 40 [65,66,(kI 1)],.mv 68 0,.mv 69 1,.bin 70 .sub 69 (kI 2),.call (some 71) 41 [68,70],.bsl 72 67 6 [71],.bld 73 [aR,aR,eH,aR,aR,aX,aX,aX,(.nil 10),(.nil 6)] [(0,1,(kI 8)),(2,1,64),(8,1,67),(9,1,72)],.st 10 4 73]) .ret) .skip)) (.seq (.ops [.bin 75 .eql 19 (kI 6),.asg 74 75]) (.cond 74 (.seq (.ops [.mv 76 1,.bin 77 .gtr 76 (kI 1)]) (.cond 77 (.seq (.ops [.mv 78 0,.mv 79 1,.bin 80 .sub 79 (kI 2),.call (some 81) 41 [78,80],.bsl 82 67 6 [81],.bld 83 [aR,aR,eH,aR,aR,aX,aX,aX,(.nil 10),(.nil 6)] [(0,1,(kI 9)),(9,1,82)],.st 10 4 83]) .ret) .skip)) .skip)))))))))))))))) aK7)))
theorem bIo:bQ Tryz.prog 18=some (bCt,[.ld 0 10 true 4],91):=by kernel_rfl
def bGv (r:aA×aQ):Exit→St→Prop:=bM [.ld 0 10 true 4] fun x b=>x=(fun (y:aA×aQ)=>(bX y.1)) r∧bI ((fun (y:aA×aQ)=>[(1000000,cZ y.2)]) r) b
def bK9 (p1:Int) (y6:Int×aQ):St:=⟨[(0,(.ptr 1000000 0)),(1,(vI p1)),(4,(.ptr 4 0))],[(4,[(vI 0),(vI 0),(vB false),(vI 0),(vI 0),(vS []),(vS []),(vS []),(.nil 10),(.nil 6)]),(1000000,cZ y6.2)]⟩
abbrev aEj:=fun p1 y6 r=>avc Tryz.prog aK7 (bGv r) (bK9 p1 y6)
def aHa:AC:=(.ops [.mv 20 7,.bin 21 .add 20 (kI 1),.asg 7 21])
def aMz:AC:=(.ops [.fa 33 1 5,.ld 34 1 false 33,.ld 35 13 true 8,.bsl 36 89 13 [35],.app 37 89 13 176 34 36,.fa 38 1 5,.st 1 38 37])
def aEx:AC:=(.loop (.seq (.seq (.ops [.mv 17 7,.mv 18 6,.bin 19 .lss 17 18]) (.cond 19 .skip (.exit 0))) (.seq (.block 1 (.seq (.ops [.mv 22 0,.call (some 23) 19 [22,(kI 5)]]) (.block 2 (.seq (.ops [.bin 40 .eql 23 (kI 0),.asg 39 40]) (.cond 39 (.ops [.fa 41 1 5,.ld 42 1 false 41,.bld 43 [eH,aX,aR,aR,eH,aR,aR,aX,aX,aX,(.nil 10),(.nil 6),aX] [(0,1,(kB true))],.bsl 44 89 13 [43],.app 45 89 13 176 42 44,.fa 46 1 5,.st 1 46 45]) (.seq (.ops [.bin 48 .eql 23 (kI 1),.asg 47 48]) (.cond 47 (.dops [[],[0],[],[],[2,3],[4],[5],[1,6,4],[0,1,2,3,4,5,6,7],[8,7,7,0,1,2,3,4,5,6,7]] [.fa 49 1 5,.ld 50 1 false 49,.mv 51 0,.bsl 52 9 1 [(.c (.d (.s (bs [116])))),(.c (.d (.s (bs [117]))))],.call (some 53) 44 [51,52],.bld 54 [eH,aX,aR,aR,eH,aR,aR,aX,aX,aX,(.nil 10),(.nil 6),aX] [(0,1,(kB true)),(1,1,53)],.bsl 55 89 13 [54],.app 56 89 13 176 50 55,.fa 57 1 5,.st 1 57 56]) (.seq (.ops [.mv 24 0,.mv 25 1,.call (some 26) 18 [24,25],.bld 27 [eH,aX,aR,aR,eH,aR,aR,aX,aX,aX,(.nil 10),(.nil 6),aX] [(2,10,26)],.alc 8 aEr,.st 13 8 27]) (.seq (.seq (.ops [.mv 28 0,.call (some 29) 12 [28,(kI 2)]]) (.cond 29 (.ops [.mv 30 0,.call (some 31) 66 [30],.fa 32 12 8,.st 1 32 31]) .skip)) aMz))))))))) aHa)))
def aMr:AC:=(.ops [.fa 86 2 5,.ld 87 1 false 86,.ld 88 3 true 10,.bsl 89 107 3 [88],.app 90 107 3 56 87 89,.fa 91 2 5,.st 1 91 90])
def aK5:AC:=(.seq (.seq (.ops [.mv 75 9,.bin 76 .gtr 75 (kI 0),.mv 77 76,.g 77 true (.mv 78 0),.g 77 true (.call (some 79) 12 [78,(kI 2)]),.pick 80 77 79 (kB false)]) (.cond 80 (.ops [.mv 81 0,.mv 82 1,.call (some 83) 18 [81,82],.bsl 84 31 10 [83],.fa 85 2 10,.st 1 85 84]) .skip)) aMr)
def aW6:AC:=(.ops [.mv 64 9,.bin 65 .add 64 (kI 1),.asg 9 65])
def aEi:AC:=(.loop (.seq (.seq (.ops [.mv 61 9,.mv 62 6,.bin 63 .lss 61 62]) (.cond 63 .skip (.exit 3))) (.seq (.block 4 (.seq (.ops [.mv 66 0,.bsl 67 9 1 [(.c (.d (.s (bs [116])))),(.c (.d (.s (bs [117])))),(.c (.d (.s (bs [118]))))],.call (some 68) 44 [66,67],.bld 69 [aX,aX,(.nil 10)] [(0,1,68)],.alc 10 [aX,aX,(.nil 10)],.st 3 10 69]) (.seq (.seq (.ops [.mv 70 0,.call (some 71) 12 [70,(kI 3)]]) (.cond 71 (.ops [.mv 72 0,.call (some 73) 66 [72],.fa 74 1 10,.st 1 74 73]) .skip)) aK5))) aW6)))
def aMg:AC:=(.seq (.ops [.ld 118 6 true 5,.st 6 4 118]) .ret)
def aIc:AC:=(.seq (.seq (.ops [.mv 112 0,.call (some 113) 12 [112,(kI 4)]]) (.cond 113 (.ops [.mv 114 0,.bsl 115 3 1 [(kI 0),(kI 1),(kI 2),(kI 9223372036854775807)],.call (some 116) 68 [114,115],.fa 117 5 5,.st 1 117 116]) .skip)) aMg)
def aNn:AC:=(.seq (.seq (.ops [.mv 99 0,.call (some 100) 12 [99,(kI 3)]]) (.cond 100 (.dops [[],[0],[],[],[2,3],[],[5,4],[4,6],[7],[1,8,6],[0,1,2,3,4,5,6,7,8,9],[10,9,9,0,1,2,3,4,5,6,7,8,9]] [.fa 101 4 5,.ld 102 1 false 101,.mv 103 0,.mv 104 1,.call (some 105) 18 [103,104],.mv 106 0,.call (some 107) 12 [106,(kI 2)],.bld 108 [aR,aR,eH,aR,aR,aX,aX,aX,(.nil 10),(.nil 6),eH] [(0,10,105),(10,1,107)],.bsl 109 93 11 [108],.app 110 93 11 144 102 109,.fa 111 4 5,.st 1 111 110]) .skip)) aIc)
def aR3:AC:=(.seq (.seq (.ops [.mv 92 0,.call (some 93) 12 [92,(kI 2)]]) (.cond 93 (.ops [.mv 94 0,.mv 95 1,.call (some 96) 18 [94,95],.bsl 97 31 10 [96],.fa 98 3 5,.st 1 98 97]) .skip)) aNn)
def aX7:AC:=(.seq (.ops [.mv 58 0,.call (some 59) 19 [58,(kI 2)],.bin 60 .add (kI 1) 59,.asg 6 60]) (.seq (.seq (.ops [.asg 9 (kI 0)]) (.block 3 aEi)) aR3))
def bJl:AC:=(.seq (.ops [.alc 4 uY]) (.seq (.ops [.mv 11 0,.call (some 12) 12 [11,(kI 4)],.bld 13 [eH,(.nil 13),(.nil 3),(.nil 10),(.nil 11),aR] [(0,1,12),(5,1,(kI (-1)))],.alc 5 uY,.st 6 5 13]) (.seq (.ops [.mv 14 0,.call (some 15) 19 [14,(kI 2)],.bin 16 .add (kI 1) 15,.asg 6 16]) (.seq (.seq (.ops [.asg 7 (kI 0)]) (.block 0 aEx)) aX7))))
theorem bC3:bQ Tryz.prog 41=some (bJl,[.ld 0 6 true 4],119):=by kernel_rfl
def yY (r:aY×aQ):Exit→St→Prop:=bM [.ld 0 6 true 4] fun x b=>x=(fun (y:aY×aQ)=>(nL y.1)) r∧bI ((fun (y:aY×aQ)=>[(1000000,cZ y.2)]) r) b
def bQ8 (r:aY×aQ):Exit→St→Prop:=(eU (wkK (avc Tryz.prog aX7 (yY r))) (yY r))
def aMu (r:aY×aQ):Exit→St→Prop:=(eY 0 (bQ8 r))
def aO2 (r:aY×aQ):Exit→St→Prop:=(eU (avc Tryz.prog aEx (aMu r)) (aMu r))
def bA5 (r:aY×aQ):Exit→St→Prop:=(eU (wkK (avc Tryz.prog aHa (aO2 r))) (aO2 r))
def aYj (r:aY×aQ):Exit→St→Prop:=(eY 1 (bA5 r))
def bG2 (r:aY×aQ):Exit→St→Prop:=(eY 2 (aYj r))
def bDk (r:aY×aQ):Exit→St→Prop:=(eU (wkK (avc Tryz.prog aR3 (yY r))) (yY r))
def aL9 (r:aY×aQ):Exit→St→Prop:=(eY 3 (bDk r))
def aQb (r:aY×aQ):Exit→St→Prop:=(eU (avc Tryz.prog aEi (aL9 r)) (aL9 r))
def bJq (r:aY×aQ):Exit→St→Prop:=(eU (wkK (avc Tryz.prog aW6 (aQb r))) (aQb r))
def aS9 (r:aY×aQ):Exit→St→Prop:=(eY 4 (bJq r))
def aPg (p1:Int) (y2:Int×aQ) (y1:Bool×aQ) (x7:Int) (bL:List bV) (bD:List Int) (kW:Int×Int):St:=⟨[(0,(.ptr 1000000 0)),(1,(vI p1)),(4,(.ptr 4 0)),(5,(.ptr 5 0)),(6,(vI (IntKind.wrap .i64 (1+y2.1)))),(7,(vI x7))],[(4,[(vB false),(.nil 13),(.nil 3),(.nil 10),(.nil 11),(vI 0)]),(5,[(vB y1.1),(.osl 45 89 13 (bL.map dX)),(.nil 3),(.nil 10),(.nil 11),(vI (-1))]),(1000000,cZ (aQ.mk bD kW.1 kW.2))]⟩
abbrev aGj:=fun p1 y2 y1 x7 bL bD kW r=>avc Tryz.prog aEx (aMu r) (aPg p1 y2 y1 x7 bL bD kW)
def bKt (p1:Int) (y2:Int×aQ) (x7:Int) (y1:Bool×aQ) (nP:List bV) (jG:List Int) (mP:Int×Int):St:=⟨[(0,(.ptr 1000000 0)),(1,(vI p1)),(4,(.ptr 4 0)),(5,(.ptr 5 0)),(6,(vI (IntKind.wrap .i64 (1+y2.1)))),(7,(vI x7))],[(4,[(vB false),(.nil 13),(.nil 3),(.nil 10),(.nil 11),(vI 0)]),(5,[(vB y1.1),(.osl 45 89 13 (nP.map dX)),(.nil 3),(.nil 10),(.nil 11),(vI (-1))]),(1000000,cZ (aQ.mk jG mP.1 mP.2))]⟩
abbrev aGv:=fun p1 y2 x7 y1 nP jG mP r=>avc Tryz.prog aHa (aO2 r) (bKt p1 y2 x7 y1 nP jG mP)
def bNv (p1:Int) (y2:Int×aQ) (x7:Int) (y1:Bool×aQ) (bL:List bV) (y11:aA×aQ) (jX:(List UInt8)×(List Int)×Int×Int):St:=⟨[(0,(.ptr 1000000 0)),(1,(vI p1)),(4,(.ptr 4 0)),(5,(.ptr 5 0)),(6,(vI (IntKind.wrap .i64 (1+y2.1)))),(7,(vI x7)),(8,(.ptr 8 0))],[(4,[(vB false),(.nil 13),(.nil 3),(.nil 10),(.nil 11),(vI 0)]),(5,[(vB y1.1),(.osl 45 89 13 (bL.map dX)),(.nil 3),(.nil 10),(.nil 11),(vI (-1))]),(8,aB7 (bV.mk false [] y11.1 jX.1)),(1000000,cZ (aQ.mk jX.2.1 jX.2.2.1 jX.2.2.2))]⟩
abbrev aH5:=fun p1 y2 x7 y1 bL y11 jX r=>avc Tryz.prog aMz (bG2 r) (bNv p1 y2 x7 y1 bL y11 jX)
def aYx (p1:Int) (y17:Int×aQ) (y1:Bool×aQ) (bL:List bV) (x9:Int) (bP:List bR) (kE:(List Int)×Int×Int):St:=⟨[(0,(.ptr 1000000 0)),(1,(vI p1)),(4,(.ptr 4 0)),(5,(.ptr 5 0)),(6,(vI (IntKind.wrap .i64 (1+y17.1)))),(9,(vI x9))],[(4,[(vB false),(.nil 13),(.nil 3),(.nil 10),(.nil 11),(vI 0)]),(5,[(vB y1.1),(.osl 45 89 13 (bL.map dX)),(.osl 90 107 3 (bP.map eP)),(.nil 10),(.nil 11),(vI (-1))]),(1000000,cZ (aQ.mk kE.1 kE.2.1 kE.2.2))]⟩
abbrev aHd:=fun p1 y17 y1 bL x9 bP kE r=>avc Tryz.prog aEi (aL9 r) (aYx p1 y17 y1 bL x9 bP kE)
def bL9 (p1:Int) (y17:Int×aQ) (x9:Int) (y1:Bool×aQ) (bL:List bV) (bP:List bR) (ky22:((List UInt8)×aQ)×(List UInt8)×(List Int)×Int×Int):St:=⟨[(0,(.ptr 1000000 0)),(1,(vI p1)),(4,(.ptr 4 0)),(5,(.ptr 5 0)),(6,(vI (IntKind.wrap .i64 (1+y17.1)))),(9,(vI x9)),(10,(.ptr 10 0))],[(4,[(vB false),(.nil 13),(.nil 3),(.nil 10),(.nil 11),(vI 0)]),(5,[(vB y1.1),(.osl 45 89 13 (bL.map dX)),(.osl 90 107 3 (bP.map eP)),(.nil 10),(.nil 11),(vI (-1))]),(10,[(vS ky22.1.1),(vS ky22.2.1),(.nil 10)]),(1000000,cZ (aQ.mk ky22.2.2.1 ky22.2.2.2.1 ky22.2.2.2.2))]⟩
abbrev aEp:=fun p1 y17 x9 y1 bL bP ky22 r=>avc Tryz.prog aK5 (aS9 r) (bL9 p1 y17 x9 y1 bL bP ky22)
def aZf (p1:Int) (y1:Bool×aQ) (bL:List bV) (bP:List bR) (eQ:List aA) (oH:List Int) (nD:Int×Int):St:=⟨[(0,(.ptr 1000000 0)),(1,(vI p1)),(4,(.ptr 4 0)),(5,(.ptr 5 0))],[(4,[(vB false),(.nil 13),(.nil 3),(.nil 10),(.nil 11),(vI 0)]),(5,[(vB y1.1),(.osl 45 89 13 (bL.map dX)),(.osl 90 107 3 (bP.map eP)),(.osl 97 31 10 (eQ.map bN)),(.nil 11),(vI (-1))]),(1000000,cZ (aQ.mk oH nD.1 nD.2))]⟩
abbrev aDw:=fun p1 y1 bL bP eQ oH nD r=>avc Tryz.prog aNn (yY r) (aZf p1 y1 bL bP eQ oH nD)
def bLu (p1:Int) (y17:Int×aQ) (x9:Int) (y1:Bool×aQ) (bL:List bV) (bP:List bR) (ky22q:((List UInt8)×aQ)×(List UInt8)×(List aA)×(List Int)×Int×Int):St:=⟨[(0,(.ptr 1000000 0)),(1,(vI p1)),(4,(.ptr 4 0)),(5,(.ptr 5 0)),(6,(vI (IntKind.wrap .i64 (1+y17.1)))),(9,(vI x9)),(10,(.ptr 10 0))],[(4,[(vB false),(.nil 13),(.nil 3),(.nil 10),(.nil 11),(vI 0)]),(5,[(vB y1.1),(.osl 45 89 13 (bL.map dX)),(.osl 90 107 3 (bP.map eP)),(.nil 10),(.nil 11),(vI (-1))]),(10,[(vS ky22q.1.1),(vS ky22q.2.1),(.osl 84 31 10 (ky22q.2.2.1.map bN))]),(1000000,cZ (aQ.mk ky22q.2.2.2.1 ky22q.2.2.2.2.1 ky22q.2.2.2.2.2))]⟩
abbrev aHi:=fun p1 y17 x9 y1 bL bP ky22q r=>avc Tryz.prog aMr (aS9 r) (bLu p1 y17 x9 y1 bL bP ky22q)
def bD8 (y1:Bool×aQ) (bL:List bV) (bP:List bR) (eQ:List aA) (fO:List eB) (wN:List Int) (wX:Int) (xN:Int):St:=⟨[(0,(.ptr 1000000 0)),(4,(.ptr 4 0)),(5,(.ptr 5 0))],[(4,[(vB false),(.nil 13),(.nil 3),(.nil 10),(.nil 11),(vI 0)]),(5,[(vB y1.1),(.osl 45 89 13 (bL.map dX)),(.osl 90 107 3 (bP.map eP)),(.osl 97 31 10 (eQ.map bN)),(.osl 110 93 11 (fO.map gD)),(vI (-1))]),(1000000,cZ (aQ.mk wN wX xN))]⟩
abbrev aVz:=fun y1 bL bP eQ fO wN wX xN r=>avc Tryz.prog aIc (yY r) (bD8 y1 bL bP eQ fO wN wX xN)
def bAe (y1:Bool×aQ) (bL:List bV) (bP:List bR) (eQ:List aA) (fO:List eB) (lQ:Int) (yK:List Int) (vV:Int) (wJ:Int):St:=⟨[(4,(.ptr 4 0)),(5,(.ptr 5 0))],[(4,[(vB false),(.nil 13),(.nil 3),(.nil 10),(.nil 11),(vI 0)]),(5,[(vB y1.1),(.osl 45 89 13 (bL.map dX)),(.osl 90 107 3 (bP.map eP)),(.osl 97 31 10 (eQ.map bN)),(.osl 110 93 11 (fO.map gD)),(vI lQ)]),(1000000,cZ (aQ.mk yK vV wJ))]⟩
abbrev aV0:=fun y1 bL bP eQ fO lQ yK vV wJ r=>avc Tryz.prog aMg (yY r) (bAe y1 bL bP eQ fO lQ yK vV wJ)
def bDq:AC:=(.seq (.ops [.asg 4 (kI 0)]) (.seq (.seq (.ops [.mv 9 1,.bin 10 .leq 9 (kI 0)]) (.cond 10 (.seq (.ops [.asg 4 (kI 0)]) .ret) .skip)) (.seq (.seq (.ops [.mv 11 1,.bin 12 .leq 11 (kI 256)]) (.cond 12 (.seq (.ops [.mv 13 0,.call (some 14) 42 [13],.mv 15 1,.bin 16 .rem 14 15,.asg 4 16]) .ret) .skip)) (.seq (.ops [.mv 17 0,.call (some 18) 42 [17],.asg 5 18]) (.seq (.ops [.mv 19 0,.call (some 20) 42 [19],.asg 6 20]) (.seq (.ops [.mv 21 0,.call (some 22) 42 [21],.asg 7 22]) (.seq (.ops [.mv 23 0,.call (some 24) 42 [23],.asg 8 24]) (.seq (.ops [.mv 25 5,.bin 26 .mul 25 (kI 16777216),.mv 27 6,.bin 28 .mul 27 (kI 65536),.bin 29 .add 26 28,.mv 30 7,.bin 31 .mul 30 (kI 256),.bin 32 .add 29 31,.mv 33 8,.bin 34 .add 32 33,.mv 35 1,.bin 36 .rem 34 35,.asg 4 36]) .ret))))))))
theorem aY6:bQ Tryz.prog 19=some (bDq,[.mv 0 4],37):=by kernel_rfl
def bTz (r:Int×aQ):Exit→St→Prop:=bM [.mv 0 4] fun x b=>x=(fun (y:Int×aQ)=>(vI y.1)) r∧bI ((fun (y:Int×aQ)=>[(1000000,cZ y.2)]) r) b
def aO5:AC:=(.seq (.ops [.mv 57 3,.asg 2 57]) .ret)
def bDr:AC:=(.seq (.ops [.asg 2 (kI 0)]) (.seq (.ops [.mv 4 0,.mv 5 0,.nck 6 5,.fa 7 2 6,.ld 8 1 false 7,.bin 9 .mul 8 (kI 6364136223846793005),.bin 10 .add 9 (kI 1442695040888963407),.nck 11 4,.fa 12 2 11,.st 1 12 10]) (.seq (.dops [[],[0],[1],[2],[3],[],[5],[6],[7],[8],[4,9],[10],[11,0,1,2,3,4,5,6,7,8,9,10,11]] [.mv 13 0,.nck 14 13,.fa 15 2 14,.ld 16 1 false 15,.bin 17 .shr 16 (.c (.d (.i .u64 33))),.mv 18 0,.nck 19 18,.fa 20 2 19,.ld 21 1 false 20,.bin 22 .shr 21 (.c (.d (.i .u64 45))),.bin 23 .xor 17 22,.bin 24 .and 23 (kI 255),.asg 3 24]) (.seq (.seq (.dops [[],[0],[1],[2],[],[4],[5],[6],[7],[3,8]] [.mv 25 0,.nck 26 25,.fa 27 1 26,.ld 28 1 false 27,.mv 29 0,.nck 30 29,.fa 31 0 30,.ld 32 1 false 31,.len 33 32,.bin 34 .lss 28 33]) (.cond 34 (.seq (.dops [[],[],[1],[2],[3],[],[5],[6],[7],[4,8],[9],[10],[0,11],[12],[13,0,1,2,3,4,5,6,7,8,9,10,11,12,13]] [.mv 35 3,.mv 36 0,.nck 37 36,.fa 38 0 37,.ld 39 1 false 38,.mv 40 0,.nck 41 40,.fa 42 1 41,.ld 43 1 false 42,.ia 44 1 39 43,.ld 45 1 false 44,.cvi 46 .i64 45,.bin 47 .add 35 46,.bin 48 .and 47 (kI 255),.asg 3 48]) (.ops [.mv 49 0,.mv 50 0,.nck 51 50,.fa 52 1 51,.ld 53 1 false 52,.bin 54 .add 53 (kI 1),.nck 55 49,.fa 56 1 55,.st 1 56 54])) .skip)) aO5))))
theorem bCa:bQ Tryz.prog 42=some (bDr,[.mv 0 2],58):=by kernel_rfl
def bIj (r:Int×aQ):Exit→St→Prop:=bM [.mv 0 2] fun x b=>x=(fun (y:Int×aQ)=>(vI y.1)) r∧bI ((fun (y:Int×aQ)=>[(1000000,cZ y.2)]) r) b
def bFr (p0:aQ) (x3:Int) (bC:Int):St:=⟨[(3,(vI x3))],[(1000000,cZ (aQ.mk p0.b bC (IntKind.wrap .i64 ((IntKind.wrap .i64 (p0.h * 6364136223846793005))+1442695040888963407))))]⟩
abbrev aT6:=fun p0 x3 bC r=>avc Tryz.prog aO5 (bIj r) (bFr p0 x3 bC)
def bHm:AC:=(.seq (.ops [.asg 4 (kI 0)]) (.seq (.ops [.mv 5 1,.mv 6 0,.mv 7 1,.len 8 7,.call (some 9) 19 [6,8],.ia 10 1 5 9,.ld 11 1 false 10,.asg 4 11]) .ret))
theorem bCw:bQ Tryz.prog 68=some (bHm,[.mv 0 4],12):=by kernel_rfl
def bUb (r:Int×aQ):Exit→St→Prop:=bM [.mv 0 4] fun x b=>x=(fun (y:Int×aQ)=>(vI y.1)) r∧bI ((fun (y:Int×aQ)=>[(1000000,cZ y.2)]) r) b
def bP0:AC:=(.seq (.ops [.asg 4 (kB false)]) (.seq (.ops [.mv 5 0,.mv 6 1,.call (some 7) 19 [5,6],.bin 8 .eql 7 (kI 0),.asg 4 8]) .ret))
theorem aYl:bQ Tryz.prog 12=some (bP0,[.mv 0 4],9):=by kernel_rfl
def bVx (r:Bool×aQ):Exit→St→Prop:=bM [.mv 0 4] fun x b=>x=(fun (y:Bool×aQ)=>(vB y.1)) r∧bI ((fun (y:Bool×aQ)=>[(1000000,cZ y.2)]) r) b
def bPh:AC:=(.seq (.ops [.asg 2 (.c (.d (.s (bs []))))]) (.seq (.seq (.ops [.mv 3 0,.call (some 4) 12 [3,(kI 6)]]) (.cond 4 (.seq (.ops [.mv 5 0,.bsl 6 9 1 [(.c (.d (.s (bs [97,32,98])))),(.c (.d (.s (bs [102,114,111,109])))),(.c (.d (.s (bs [83,101,108,101,99,116])))),(.c (.d (.s (bs [49,120])))),(.c (.d (.s (bs [113,34,113])))),(.c (.d (.s (bs [0])))),(.c (.d (.s (bs [34])))),(.c (.d (.s (bs [105,116,39,115])))),(.c (.d (.s (bs [120,46,121])))),(.c (.d (.s (bs [45]))))],.call (some 7) 44 [5,6],.asg 2 7]) .ret) .skip)) (.seq (.ops [.mv 8 0,.bsl 9 9 1 [(.c (.d (.s (bs [97])))),(.c (.d (.s (bs [98])))),(.c (.d (.s (bs [99])))),(.c (.d (.s (bs [116])))),(.c (.d (.s (bs [117])))),(.c (.d (.s (bs [118])))),(.c (.d (.s (bs [105,100])))),(.c (.d (.s (bs [110,97,109,101])))),(.c (.d (.s (bs [65])))),(.c (.d (.s (bs [95,120,49]))))],.call (some 10) 44 [8,9],.asg 2 10]) .ret)))
theorem bEa:bQ Tryz.prog 66=some (bPh,[.mv 0 2],11):=by kernel_rfl
def bWq (r:(List UInt8)×aQ):Exit→St→Prop:=bM [.mv 0 2] fun x b=>x=(fun (y:(List UInt8)×aQ)=>(vS y.1)) r∧bI ((fun (y:(List UInt8)×aQ)=>[(1000000,cZ y.2)]) r) b
def bE7:AC:=(.seq (.ops [.asg 4 (.c (.d (.s (bs []))))]) (.seq (.ops [.mv 5 1,.mv 6 0,.mv 7 1,.len 8 7,.call (some 9) 19 [6,8],.ia 10 1 5 9,.ld 11 1 false 10,.asg 4 11]) .ret))
theorem bMu:bQ Tryz.prog 44=some (bE7,[.mv 0 4],12):=by kernel_rfl
def bV8 (r:(List UInt8)×aQ):Exit→St→Prop:=bM [.mv 0 4] fun x b=>x=(fun (y:(List UInt8)×aQ)=>(vS y.1)) r∧bI ((fun (y:(List UInt8)×aQ)=>[(1000000,cZ y.2)]) r) b
def aMw:AC:=(.loop (.seq (.seq (.ops [.mv 10 8,.mv 11 2,.bin 12 .lss 10 11]) (.cond 12 .skip (.exit 0))) (.seq (.block 1 (.ops [.mv 15 7,.mv 16 0,.mv 17 1,.bin 18 .sub 17 (kI 1),.call (some 19) 18 [16,18],.bsl 20 31 10 [19],.app 21 31 10 136 15 20,.asg 7 21])) (.ops [.mv 13 8,.bin 14 .add 13 (kI 1),.asg 8 14]))))
def aX0:AC:=(.seq (.ops [.mv 22 7,.asg 6 22]) .ret)
def bMt:AC:=(.seq (.ops [.asg 6 (.c (.nil 10))]) (.seq (.ops [.bsl 9 31 10 [],.asg 7 9]) (.seq (.seq (.ops [.asg 8 (kI 0)]) (.block 0 aMw)) aX0)))
theorem bMr:bQ Tryz.prog 40=some (bMt,[.mv 0 6],23):=by kernel_rfl
def aTx (r:(List aA)×aQ):Exit→St→Prop:=bM [.mv 0 6] fun x b=>x=(fun (y:(List aA)×aQ)=>(.osl 2000000 31 10 (y.1.map bN))) r∧bI ((fun (y:(List aA)×aQ)=>[(1000000,cZ y.2)]) r) b
def bNp (r:(List aA)×aQ):Exit→St→Prop:=(eU (wkK (avc Tryz.prog aX0 (aTx r))) (aTx r))
def bQs (r:(List aA)×aQ):Exit→St→Prop:=(eY 0 (bNp r))
def bSf (p1:Int) (p2:Int) (x7:List aA) (x8:Int) (bD:List Int) (bC:Int) (bF:Int):St:=⟨[(0,(.ptr 1000000 0)),(1,(vI p1)),(2,(vI p2)),(7,(.osl 7 31 10 (x7.map bN))),(8,(vI x8))],[(1000000,cZ (aQ.mk bD bC bF))]⟩
abbrev aG2:=fun p1 p2 x7 x8 bD bC bF r=>avc Tryz.prog aMw (bQs r) (bSf p1 p2 x7 x8 bD bC bF)
def aM3:AC:=(.seq (.ops [.ld 19 10 true 3,.st 10 2 19]) .ret)
def aIz:AC:=(.seq (.seq (.ops [.mv 14 0,.call (some 15) 12 [14,(kI 12)]]) (.cond 15 (.ops [.mv 16 0,.call (some 17) 66 [16],.fa 18 7 3,.st 1 18 17]) .skip)) aM3)
def bKn:AC:=(.seq (.ops [.alc 2 fB]) (.seq (.ops [.mv 4 0,.bsl 5 9 1 [(.c (.d (.s (bs [97])))),(.c (.d (.s (bs [98])))),(.c (.d (.s (bs [99])))),(.c (.d (.s (bs [105,100])))),(.c (.d (.s (bs [110,97,109,101]))))],.call (some 6) 44 [4,5],.bld 7 [aR,aR,eH,aR,aR,aX,aX,aX,(.nil 10),(.nil 6)] [(0,1,(kI 2)),(7,1,6)],.alc 3 fB,.st 10 3 7]) (.seq (.seq (.ops [.mv 8 0,.call (some 9) 12 [8,(kI 3)]]) (.cond 9 (.ops [.mv 10 0,.bsl 11 9 1 [(.c (.d (.s (bs [116])))),(.c (.d (.s (bs [117])))),(.c (.d (.s (bs [118]))))],.call (some 12) 44 [10,11],.fa 13 6 3,.st 1 13 12]) .skip)) aIz)))
theorem bQo:bQ Tryz.prog 38=some (bKn,[.ld 0 10 true 2],20):=by kernel_rfl
def aUo (r:aA×aQ):Exit→St→Prop:=bM [.ld 0 10 true 2] fun x b=>x=(fun (y:aA×aQ)=>(bX y.1)) r∧bI ((fun (y:aA×aQ)=>[(1000000,cZ y.2)]) r) b
def bF0 (y1:(List UInt8)×aQ) (kG:List UInt8) (bD:List Int) (bC:Int) (bF:Int):St:=⟨[(0,(.ptr 1000000 0)),(2,(.ptr 2 0)),(3,(.ptr 3 0))],[(2,[(vI 0),(vI 0),(vB false),(vI 0),(vI 0),(vS []),(vS []),(vS []),(.nil 10),(.nil 6)]),(3,[(vI 2),(vI 0),(vB false),(vI 0),(vI 0),(vS []),(vS kG),(vS y1.1),(.nil 10),(.nil 6)]),(1000000,cZ (aQ.mk bD bC bF))]⟩
abbrev aP0:=fun y1 kG bD bC bF r=>avc Tryz.prog aIz (aUo r) (bF0 y1 kG bD bC bF)
def aYe (kG:List UInt8) (tC:List UInt8) (jG:List Int) (tY:Int) (vQ:Int):St:=⟨[(2,(.ptr 2 0)),(3,(.ptr 3 0))],[(2,[(vI 0),(vI 0),(vB false),(vI 0),(vI 0),(vS []),(vS []),(vS []),(.nil 10),(.nil 6)]),(3,[(vI 2),(vI 0),(vB false),(vI 0),(vI 0),(vS []),(vS kG),(vS tC),(.nil 10),(.nil 6)]),(1000000,cZ (aQ.mk jG tY vQ))]⟩
abbrev aVq:=fun kG tC jG tY vQ r=>avc Tryz.prog aM3 (aUo r) (aYe kG tC jG tY vQ)
def aJm:AC:=(.seq (.ops [.ld 15 3 true 3,.st 3 2 15]) .ret)
def bDn:AC:=(.seq (.ops [.alc 2 [aR,aR,aX]]) (.seq (.ops [.mv 4 0,.call (some 5) 67 [4],.alc 3 [aR,aR,aX],.st 3 3 5]) (.seq (.seq (.ops [.fa 6 0 3,.ld 7 1 false 6,.bin 8 .eql 7 (kI 1),.mv 9 8,.g 9 true (.fa 10 1 3),.g 9 true (.ld 11 1 false 10),.g 9 true (.bin 12 .lss 11 (kI 0)),.pick 13 9 12 (kB false)]) (.cond 13 (.ops [.fa 14 1 3,.st 1 14 (kI 9223372036854775807)]) .skip)) aJm)))
theorem bN9:bQ Tryz.prog 39=some (bDn,[.ld 0 3 true 2],16):=by kernel_rfl
def bBi (r:bJ×aQ):Exit→St→Prop:=bM [.ld 0 3 true 2] fun x b=>x=(fun (y:bJ×aQ)=>(lD y.1)) r∧bI ((fun (y:bJ×aQ)=>[(1000000,cZ y.2)]) r) b
def bH0 (y1:bJ×aQ) (bG:Int):St:=⟨[(2,(.ptr 2 0)),(3,(.ptr 3 0))],[(2,[(vI 0),(vI 0),(vS [])]),(3,aXk (bJ.mk y1.1.kind bG y1.1.text)),(1000000,cZ y1.2)]⟩
abbrev aOx:=fun y1 bG r=>avc Tryz.prog aJm (bBi r) (bH0 y1 bG)
def bN6:AC:=(.seq (.ops [.alc 2 [aR,aR,aX]]) (.seq (.seq (.ops [.mv 3 0,.call (some 4) 19 [3,(kI 6)]]) (.block 0 (.seq (.ops [.bin 6 .eql 4 (kI 0),.asg 5 6]) (.cond 5 (.seq (.ops [.bld 7 [aR,aR,aX] [],.st 3 2 7]) .ret) (.seq (.ops [.bin 9 .eql 4 (kI 1),.asg 8 9]) (.cond 8 (.seq (.ops [.mv 10 0,.bsl 11 9 1 [(.c (.d (.s (bs [])))),(.c (.d (.s (bs [97])))),(.c (.d (.s (bs [98])))),(.c (.d (.s (bs [105,116,39,115])))),(.c (.d (.s (bs [97,98])))),(.c (.d (.s (bs [255]))))],.call (some 12) 44 [10,11],.call (some 13) 63 [12],.st 3 2 13]) .ret) (.seq (.ops [.bin 15 .eql 4 (kI 2),.asg 14 15]) (.cond 14 (.seq (.ops [.mv 16 0,.call (some 17) 12 [16,(kI 2)],.call (some 18) 64 [17],.st 3 2 18]) .ret) (.seq (.ops [.bin 20 .eql 4 (kI 3),.asg 19 20]) (.cond 19 (.seq (.ops [.mv 21 0,.call (some 22) 45 [21],.call (some 23) 84 [22],.st 3 2 23]) .ret) .skip)))))))))) (.seq (.ops [.mv 24 0,.call (some 25) 19 [24,(kI 7)],.bin 26 .sub 25 (kI 2),.call (some 27) 84 [26],.st 3 2 27]) .ret)))
theorem bM5:bQ Tryz.prog 67=some (bN6,[.ld 0 3 true 2],28):=by kernel_rfl
def bUq (r:bJ×aQ):Exit→St→Prop:=bM [.ld 0 3 true 2] fun x b=>x=(fun (y:bJ×aQ)=>(lD y.1)) r∧bI ((fun (y:bJ×aQ)=>[(1000000,cZ y.2)]) r) b
def bBp:AC:=(.seq (.ops [.asg 2 (kI 0)]) (.seq (.seq (.ops [.mv 3 0,.call (some 4) 19 [3,(kI 3)]]) (.block 0 (.seq (.ops [.bin 6 .eql 4 (kI 0),.asg 5 6]) (.cond 5 (.seq (.ops [.mv 7 0,.bsl 8 3 1 [(kI 0),(kI 1),(kI (-1)),(kI 63),(kI 64),(kI (-64)),(kI (-65)),(kI 127),(kI 128),(kI 16383),(kI 16384),(kI 9223372036854775807),(kI (-9223372036854775808)),(kI 4611686018427387904)],.call (some 9) 68 [7,8],.asg 2 9]) .ret) (.seq (.ops [.bin 11 .eql 4 (kI 1),.asg 10 11]) (.cond 10 (.seq (.ops [.mv 12 0,.call (some 13) 19 [12,(kI 1000000)],.bin 14 .sub 13 (kI 500000),.asg 2 14]) .ret) .skip)))))) (.seq (.ops [.mv 15 0,.call (some 16) 19 [15,(kI 20)],.asg 2 16]) .ret)))
theorem bIg:bQ Tryz.prog 45=some (bBp,[.mv 0 2],17):=by kernel_rfl
def bTq (r:Int×aQ):Exit→St→Prop:=bM [.mv 0 2] fun x b=>x=(fun (y:Int×aQ)=>(vI y.1)) r∧bI ((fun (y:Int×aQ)=>[(1000000,cZ y.2)]) r) b
def bHs:AC:=(.seq (.ops [.alc 2 [aR,aR,aX]]) (.seq (.ops [.mv 3 0,.bld 4 [aR,aR,aX] [(0,1,(kI 1)),(1,1,3)],.st 3 2 4]) .ret))
theorem bLb:bQ Tryz.prog 84=some (bHs,[.ld 0 3 true 2],5):=by kernel_rfl
def bTp (r:bJ):Exit→St→Prop:=bM [.ld 0 3 true 2] fun x _=>x=(fun y=>(lD y)) r
def aZt:AC:=(.seq (.ops [.asg 4 (kI 0)]) (.seq (.ops [.mv 6 0,.len 7 6,.bin 8 .quo 7 (kI 20),.bin 9 .add (kI 2) 8,.asg 5 9]) (.seq (.seq (.ops [.mv 10 5,.mv 11 1,.bin 12 .gtr 10 11]) (.cond 12 (.seq (.ops [.mv 13 1,.asg 4 13]) .ret) .skip)) (.seq (.ops [.mv 14 5,.asg 4 14]) .ret))))
theorem bGf:bQ Tryz.prog 20=some (aZt,[.mv 0 4],15):=by kernel_rfl
def bUv (r:Int):Exit→St→Prop:=bM [.mv 0 4] fun x _=>x=(fun y=>(vI y)) r
def bBw:AC:=(.seq (.ops [.asg 2 (.c (.nil 3))]) (.seq (.ops [.mv 6 0,.call (some 7) 9 [6],.mv 5 7,.ext 8 5 0,.ext 9 5 1,.alc 4 fB,.asg 3 8,.st 10 4 9]) (.seq (.dops [[],[],[],[],[3],[1,2,4,4],[0,5,5],[6,6,0,1,2,3,4,5,6]] [.mv 10 3,.bsl 11 56 3 [],.ld 12 10 true 4,.mv 13 3,.call (some 14) 12 [13,(kI 6)],.call (some 15) 11 [11,12,14],.call (some 16) 10 [10,15],.asg 2 16]) .ret)))
theorem bOw:bQ Tryz.prog 5=some (bBw,[.mv 0 2],17):=by kernel_rfl
def bTd (r:List aJ):Exit→St→Prop:=bM [.mv 0 2] fun x _=>x=(fun y=>(iY y)) r
def aIv:AC:=(.seq (.ops [.mv 64 5,.asg 4 64]) .ret)
def bAt:AC:=(.seq (.ops [.asg 4 (.c (.nil 3))]) (.seq (.ops [.bsl 7 56 3 [],.mv 8 1,.app 9 56 3 32 7 8,.asg 5 9]) (.seq (.ops [.mv 10 0,.mv 11 5,.len 12 11,.bin 13 .add 12 (kI 1),.call (some 14) 19 [10,13],.asg 6 14]) (.seq (.seq (.ops [.mv 15 0,.call (some 16) 19 [15,(kI 7)]]) (.block 0 (.seq (.ops [.bin 18 .eql 16 (kI 0),.asg 17 18]) (.cond 17 (.seq (.ops [.mv 19 5,.mv 20 6,.slc 21 3 19 none (some 20) none,.asg 4 21]) .ret) (.seq (.ops [.bin 23 .eql 16 (kI 1),.asg 22 23]) (.cond 22 (.dops [[],[],[],[1,2],[0,3],[],[5,4],[6],[4,7,6],[],[],[9,10],[8,11,8],[12,12,0,1,2,3,4,5,6,7,8,9,10,11,12]] [.bsl 24 56 3 [],.mv 25 1,.mv 26 6,.slc 27 3 25 none (some 26) none,.app 28 56 3 32 24 27,.mv 29 0,.call (some 30) 21 [29],.bsl 31 56 3 [30],.app 32 56 3 32 28 31,.mv 33 1,.mv 34 6,.slc 35 3 33 (some 34) none none,.app 36 56 3 32 32 35,.asg 5 36]) (.seq (.ops [.bin 38 .eql 16 (kI 2),.asg 37 38]) (.cond 37 (.seq (.ops [.mv 39 6,.mv 40 5,.len 41 40,.bin 42 .lss 39 41]) (.cond 42 (.dops [[],[],[],[1,2],[0,3],[],[],[6],[5,7],[4,8,4],[9,9,0,1,2,3,4,5,6,7,8,9]] [.bsl 43 56 3 [],.mv 44 1,.mv 45 6,.slc 46 3 44 none (some 45) none,.app 47 56 3 32 43 46,.mv 48 1,.mv 49 6,.bin 50 .add 49 (kI 1),.slc 51 3 48 (some 50) none none,.app 52 56 3 32 47 51,.asg 5 52]) .skip)) (.seq (.ops [.bin 54 .eql 16 (kI 3),.asg 53 54]) (.cond 53 (.seq (.ops [.mv 55 6,.mv 56 5,.len 57 56,.bin 58 .lss 55 57]) (.cond 58 (.ops [.mv 59 5,.mv 60 6,.mv 61 0,.call (some 62) 21 [61],.ia 63 3 59 60,.st 3 63 62]) .skip)) .skip)))))))))) aIv))))
theorem bJp:bQ Tryz.prog 10=some (bAt,[.mv 0 4],65):=by kernel_rfl
def bF7 (r:(List aJ)×aQ):Exit→St→Prop:=bM [.mv 0 4] fun x b=>x=(fun (y:(List aJ)×aQ)=>(iY y.1)) r∧bI ((fun (y:(List aJ)×aQ)=>[(1000000,cZ y.2)]) r) b
def bK6 (bD:List Int) (bC:Int) (bF:Int) (uU:List aJ):St:=⟨[(5,(.tre 60101000))],[(1000000,cZ (aQ.mk bD bC bF)),(60101000,[(.trc 3 (uU.map aV))])]⟩
abbrev aU7:=fun bD bC bF uU r=>avc Tryz.prog aIv (bF7 r) (bK6 bD bC bF uU)
def aL0:AC:=(.seq (.ops [.ld 24 3 true 3,.st 3 2 24]) .ret)
def bDu:AC:=(.seq (.ops [.alc 2 [aR,aX,aR]]) (.seq (.ops [.mv 4 0,.call (some 5) 43 [4],.alc 3 [aR,aX,aR],.st 3 3 5]) (.seq (.seq (.ops [.mv 6 0,.call (some 7) 19 [6,(kI 10)]]) (.block 0 (.seq (.ops [.bin 9 .eql 7 (kI 0),.asg 8 9]) (.cond 8 (.ops [.mv 10 0,.call (some 11) 19 [10,(kI 7)],.fa 12 0 3,.st 1 12 11]) (.seq (.ops [.bin 14 .eql 7 (kI 1),.asg 13 14]) (.cond 13 (.ops [.mv 15 0,.bsl 16 9 1 [(.c (.d (.s (bs [])))),(.c (.d (.s (bs [115,101,108,101,99,116])))),(.c (.d (.s (bs [83,69,76,69,67,84,83])))),(.c (.d (.s (bs [48,49])))),(.c (.d (.s (bs [57,50,50,51,51,55,50,48,51,54,56,53,52,55,55,53,56,48,56])))),(.c (.d (.s (bs [61,62])))),(.c (.d (.s (bs [124])))),(.c (.d (.s (bs [97,98,99,100,101,102,103,104,105,106,107,108,109,110,111,112,113,114,115,116,117])))),(.c (.d (.s (bs [49,50,51,52,53,54,55,56,57,48,49,50,51,52,53,54,55,56,57,48,49,50,51,52,53,54,55,56,57,48,49,50,51,52,53,54,55,56,57,48,49]))))],.call (some 17) 44 [15,16],.fa 18 1 3,.st 1 18 17]) (.seq (.ops [.bin 20 .eql 7 (kI 2),.asg 19 20]) (.cond 19 (.ops [.mv 21 0,.call (some 22) 45 [21],.fa 23 2 3,.st 1 23 22]) .skip)))))))) aL0)))
theorem bMz:bQ Tryz.prog 21=some (bDu,[.ld 0 3 true 2],25):=by kernel_rfl
def aZk (r:aJ×aQ):Exit→St→Prop:=bM [.ld 0 3 true 2] fun x b=>x=(fun (y:aJ×aQ)=>(kM y.1)) r∧bI ((fun (y:aJ×aQ)=>[(1000000,cZ y.2)]) r) b
def bGg (xP:Int) (bG:List UInt8) (dY:Int) (bD:List Int) (bC:Int) (bF:Int):St:=⟨[(2,(.ptr 2 0)),(3,(.ptr 3 0))],[(2,[(vI 0),(vS []),(vI 0)]),(3,bGm (aJ.mk xP bG dY)),(1000000,cZ (aQ.mk bD bC bF))]⟩
abbrev aRv:=fun xP bG dY bD bC bF r=>avc Tryz.prog aL0 (aZk r) (bGg xP bG dY bD bC bF)
def bCz:AC:=(.seq (.ops [.alc 2 [aR,aX,aR]]) (.seq (.seq (.ops [.mv 3 0,.call (some 4) 19 [3,(kI 6)]]) (.block 0 (.seq (.ops [.bin 6 .eql 4 (kI 0),.asg 5 6]) (.cond 5 (.seq (.ops [.call (some 7) 69 [],.mv 8 0,.call (some 9) 19 [8,(kI 28)],.bin 10 .add (kI 1) 9,.ia 11 1 7 10,.ld 12 1 false 11,.bld 13 [aR,aX,aR] [(0,1,(kI 1)),(1,1,12)],.st 3 2 13]) .ret) (.seq (.ops [.bin 15 .eql 4 (kI 1),.asg 14 15]) (.cond 14 (.seq (.ops [.mv 16 0,.call (some 17) 66 [16],.bld 18 [aR,aX,aR] [(0,1,(kI 2)),(1,1,17)],.st 3 2 18]) .ret) (.seq (.ops [.bin 20 .eql 4 (kI 2),.asg 19 20]) (.cond 19 (.seq (.ops [.mv 21 0,.call (some 22) 45 [21],.call (some 23) 70 [(kI 0),22],.call (some 24) 46 [23],.bld 25 [aR,aX,aR] [(0,1,(kI 3)),(1,1,24)],.st 3 2 25]) .ret) (.seq (.ops [.bin 27 .eql 4 (kI 3),.asg 26 27]) (.cond 26 (.seq (.ops [.mv 28 0,.bsl 29 9 1 [(.c (.d (.s (bs [])))),(.c (.d (.s (bs [120])))),(.c (.d (.s (bs [105,116,39,115])))),(.c (.d (.s (bs [39,39])))),(.c (.d (.s (bs [116,119,111,32,119,111,114,100,115])))),(.c (.d (.s (bs [34])))),(.c (.d (.s (bs [45,45])))),(.c (.d (.s (bs [0,255]))))],.call (some 30) 44 [28,29],.bld 31 [aR,aX,aR] [(0,1,(kI 4)),(1,1,30)],.st 3 2 31]) .ret) .skip)))))))))) (.seq (.ops [.mv 32 0,.call (some 33) 71 [32],.bld 34 [aR,aX,aR] [(0,1,(kI 5)),(1,1,33)],.st 3 2 34]) .ret)))
theorem bSs:bQ Tryz.prog 43=some (bCz,[.ld 0 3 true 2],35):=by kernel_rfl
def bWo (r:aJ×aQ):Exit→St→Prop:=bM [.ld 0 3 true 2] fun x b=>x=(fun (y:aJ×aQ)=>(kM y.1)) r∧bI ((fun (y:aJ×aQ)=>[(1000000,cZ y.2)]) r) b
def bNc:AC:=(.seq (.ops [.asg 2 (.c (.d (.s (bs []))))]) (.seq (.ops [.mv 3 0,.bsl 4 9 1 [(.c (.d (.s (bs [40])))),(.c (.d (.s (bs [41])))),(.c (.d (.s (bs [44])))),(.c (.d (.s (bs [46])))),(.c (.d (.s (bs [42])))),(.c (.d (.s (bs [43])))),(.c (.d (.s (bs [45])))),(.c (.d (.s (bs [47])))),(.c (.d (.s (bs [37])))),(.c (.d (.s (bs [61])))),(.c (.d (.s (bs [60,62])))),(.c (.d (.s (bs [60])))),(.c (.d (.s (bs [60,61])))),(.c (.d (.s (bs [62])))),(.c (.d (.s (bs [62,61])))),(.c (.d (.s (bs [124,124]))))],.call (some 5) 44 [3,4],.asg 2 5]) .ret))
theorem bG7:bQ Tryz.prog 71=some (bNc,[.mv 0 2],6):=by kernel_rfl
def bWz (r:(List UInt8)×aQ):Exit→St→Prop:=bM [.mv 0 2] fun x b=>x=(fun (y:(List UInt8)×aQ)=>(vS y.1)) r∧bI ((fun (y:(List UInt8)×aQ)=>[(1000000,cZ y.2)]) r) b
def bSb:AC:=(.seq (.ops [.asg 4 (kI 0)]) (.seq (.seq (.ops [.mv 5 0,.mv 6 1,.bin 7 .gtr 5 6]) (.cond 7 (.seq (.ops [.mv 8 0,.asg 4 8]) .ret) .skip)) (.seq (.ops [.mv 9 1,.asg 4 9]) .ret)))
theorem bEv:bQ Tryz.prog 70=some (bSb,[.mv 0 4],10):=by kernel_rfl
def bTf (r:Int):Exit→St→Prop:=bM [.mv 0 4] fun x _=>x=(fun y=>(vI y)) r
def aY8:AC:=(.seq (.ops [.box 1 27 0,.alc 2 [aR,aX,aR]]) (.seq (.seq (.ops [.fa 3 0 1,.ld 4 1 false 3]) (.block 0 (.seq (.ops [.bin 6 .eql 4 (kI 1),.asg 5 6]) (.cond 5 (.seq (.ops [.fa 7 1 1,.ld 8 1 false 7,.call (some 9) 46 [8],.bld 10 [aR,aX,aR] [(0,1,(kI 3)),(1,1,9)],.st 3 2 10]) .ret) (.seq (.ops [.bin 12 .eql 4 (kI 2),.asg 11 12]) (.cond 11 (.seq (.ops [.fa 13 2 1,.ld 14 1 false 13,.bld 15 [aR,aX,aR] [(0,1,(kI 4)),(1,1,14)],.st 3 2 15]) .ret) (.seq (.ops [.bin 17 .eql 4 (kI 3),.asg 16 17]) (.cond 16 (.seq (.seq (.ops [.fa 18 1 1,.ld 19 1 false 18,.bin 20 .eql 19 (kI 1)]) (.cond 20 (.seq (.ops [.call (some 21) 28 [(kI 21)],.st 3 2 21]) .ret) .skip)) (.seq (.ops [.call (some 22) 28 [(kI 22)],.st 3 2 22]) .ret)) .skip)))))))) (.seq (.ops [.call (some 23) 28 [(kI 20)],.st 3 2 23]) .ret)))
theorem bGq:bQ Tryz.prog 22=some (aY8,[.ld 0 3 true 2],24):=by kernel_rfl
def bX0 (r:aJ):Exit→St→Prop:=bM [.ld 0 3 true 2] fun x _=>x=(fun y=>(kM y)) r
def bMd:AC:=(.seq (.ops [.alc 2 [aR,aX,aR]]) (.seq (.ops [.mv 3 0,.call (some 4) 53 [3],.bld 5 [aR,aX,aR] [(0,1,(kI 1)),(1,1,4)],.st 3 2 5]) .ret))
theorem bGc:bQ Tryz.prog 28=some (bMd,[.ld 0 3 true 2],6):=by kernel_rfl
def bUy (r:aJ):Exit→St→Prop:=bM [.ld 0 3 true 2] fun x _=>x=(fun y=>(kM y)) r
def aN4:AC:=(.seq (.ops [.mv 30 0,.fa 31 7 4,.ld 32 1 false 31,.call (some 33) 23 [32],.bsl 34 56 3 [33],.app 35 56 3 32 30 34,.asg 6 35]) .ret)
def aMx:AC:=(.ops [.mv 143 0,.ld 144 10 true 4,.mv 145 7,.mv 146 2,.call (some 147) 25 [143,144,145,146],.asg 0 147])
def aTq:AC:=(.ops [.mv 135 7,.bin 136 .add 135 (kI 1),.asg 7 136])
def aFu:AC:=(.loop (.seq (.seq (.ops [.mv 130 7,.fa 131 8 4,.ld 132 1 false 131,.len 133 132,.bin 134 .lss 130 133]) (.cond 134 .skip (.exit 2))) (.seq (.block 3 (.seq (.seq (.ops [.mv 137 7,.bin 138 .gtr 137 (kI 1)]) (.cond 138 (.ops [.mv 139 0,.call (some 140) 24 [(.c (.d (.s (bs [44]))))],.bsl 141 56 3 [140],.app 142 56 3 32 139 141,.asg 0 142]) .skip)) aMx)) aTq)))
def aV7:AC:=(.seq (.ops [.mv 148 0,.call (some 149) 24 [(.c (.d (.s (bs [41]))))],.bsl 150 56 3 [149],.app 151 56 3 32 148 150,.asg 6 151]) .ret)
def aVp:AC:=(.seq (.ops [.mv 64 0,.ld 65 10 true 4,.mv 66 2,.call (some 67) 25 [64,65,(kI 0),66],.asg 0 67]) (.seq (.seq (.ops [.fa 68 0 4,.ld 69 1 false 68]) (.block 1 (.seq (.ops [.bin 71 .eql 69 (kI 4),.asg 70 71]) (.cond 70 (.seq (.dops [[],[],[1],[2],[3],[0,4,3],[],[],[5,6,7,5],[8,8,0,1,2,3,4,5,6,7,8]] [.mv 72 0,.fa 73 1 4,.ld 74 1 false 73,.call (some 75) 26 [74],.bsl 76 56 3 [75],.app 77 56 3 32 72 76,.ld 78 10 true 4,.mv 79 2,.call (some 80) 25 [77,78,(kI 1),79],.asg 6 80]) .ret) (.seq (.ops [.bin 82 .eql 69 (kI 5),.asg 81 82]) (.cond 81 (.seq (.dops [[],[],[1],[0,2,1],[],[3,4,3],[5],[6],[5,7,6],[8,8,0,1,2,3,4,5,6,7,8]] [.mv 83 0,.call (some 84) 28 [(kI 16)],.bsl 85 56 3 [84],.app 86 56 3 32 83 85,.ld 87 10 true 4,.call (some 88) 29 [86,87],.call (some 89) 28 [(kI 20)],.bsl 90 56 3 [89],.app 91 56 3 32 88 90,.asg 6 91]) .ret) (.seq (.ops [.bin 93 .eql 69 (kI 6),.asg 92 93]) (.cond 92 (.seq (.dops [[],[],[0,1],[2],[3],[2,4,3],[],[],[5,6,7,5],[8,8,0,1,2,3,4,5,6,7,8]] [.mv 94 0,.ld 95 10 true 4,.call (some 96) 29 [94,95],.call (some 97) 28 [(kI 18)],.bsl 98 56 3 [97],.app 99 56 3 32 96 98,.ld 100 10 true 4,.mv 101 2,.call (some 102) 25 [99,100,(kI 1),101],.asg 0 102]) (.seq (.dops [[],[],[1],[0,2,1],[],[],[3,4,5,3],[6,6,0,1,2,3,4,5,6]] [.mv 103 0,.call (some 104) 28 [(kI 13)],.bsl 105 56 3 [104],.app 106 56 3 32 103 105,.ld 107 10 true 4,.mv 108 2,.call (some 109) 25 [106,107,(kI 2),108],.asg 6 109]) .ret)) .skip)))))))) (.seq (.ops [.mv 110 0,.ld 111 10 true 4,.call (some 112) 29 [110,111],.call (some 113) 28 [(kI 17)],.call (some 114) 24 [(.c (.d (.s (bs [40]))))],.bsl 115 56 3 [113,114],.app 116 56 3 32 112 115,.asg 0 116]) (.seq (.seq (.ops [.fa 117 0 4,.ld 118 1 false 117,.bin 119 .eql 118 (kI 8)]) (.cond 119 (.seq (.ops [.mv 120 0,.fa 121 9 4,.ld 122 1 false 121,.ia 123 6 122 (kI 0),.ld 124 6 true 123,.mv 125 2,.call (some 126) 27 [120,124,125],.call (some 127) 24 [(.c (.d (.s (bs [41]))))],.bsl 128 56 3 [127],.app 129 56 3 32 126 128,.asg 6 129]) .ret) .skip)) (.seq (.seq (.ops [.asg 7 (kI 1)]) (.block 2 aFu)) aV7)))))
def bFn:AC:=(.seq (.ops [.box 4 31 1,.asg 6 (.c (.nil 3))]) (.seq (.seq (.ops [.fa 8 0 4,.ld 9 1 false 8]) (.block 0 (.seq (.ops [.bin 11 .eql 9 (kI 1),.asg 10 11]) (.cond 10 (.seq (.ops [.mv 12 0,.fa 13 3 4,.ld 14 3 true 13,.call (some 15) 22 [14],.bsl 16 56 3 [15],.app 17 56 3 32 12 16,.asg 6 17]) .ret) (.seq (.ops [.bin 19 .eql 9 (kI 2),.asg 18 19]) (.cond 18 (.seq (.seq (.ops [.fa 20 6 4,.ld 21 1 false 20,.bin 22 .neq 21 (.c (.d (.s (bs []))))]) (.cond 22 (.ops [.mv 23 0,.fa 24 6 4,.ld 25 1 false 24,.call (some 26) 23 [25],.call (some 27) 24 [(.c (.d (.s (bs [46]))))],.bsl 28 56 3 [26,27],.app 29 56 3 32 23 28,.asg 0 29]) .skip)) aN4) (.seq (.ops [.bin 37 .eql 9 (kI 3),.asg 36 37]) (.cond 36 (.seq (.dops [[],[],[1],[2],[3],[0,4,3],[],[],[5,6,7,5],[8,8,0,1,2,3,4,5,6,7,8]] [.mv 38 0,.fa 39 1 4,.ld 40 1 false 39,.call (some 41) 26 [40],.bsl 42 56 3 [41],.app 43 56 3 32 38 42,.ld 44 10 true 4,.mv 45 2,.call (some 46) 25 [43,44,(kI 0),45],.asg 6 46]) .ret) (.seq (.ops [.bin 48 .eql 9 (kI 9),.asg 47 48]) (.cond 47 (.seq (.dops [[],[],[1],[1,2],[0,3,2],[],[5],[6],[7],[],[4,8,9,4],[10,10,0,1,2,3,4,5,6,7,8,9,10]] [.mv 49 0,.call (some 50) 28 [(kI 19)],.call (some 51) 24 [(.c (.d (.s (bs [40]))))],.bsl 52 56 3 [50,51],.app 53 56 3 32 49 52,.fa 54 9 4,.ld 55 1 false 54,.ia 56 6 55 (kI 0),.ld 57 6 true 56,.mv 58 2,.call (some 59) 27 [53,57,58],.asg 0 59]) (.seq (.ops [.mv 60 0,.call (some 61) 24 [(.c (.d (.s (bs [41]))))],.bsl 62 56 3 [61],.app 63 56 3 32 60 62,.asg 6 63]) .ret)) .skip)))))))))) aVp))
theorem bAf:bQ Tryz.prog 11=some (bFn,[.mv 0 6],152):=by kernel_rfl
def aD2 (r:List aJ):Exit→St→Prop:=bM [.mv 0 6] fun x b=>x=(fun (y:List aJ)=>(.osl 2000000 56 3 (y.map aV))) r∧bI ((fun (y:List aJ)=>[]) r) b
def bFi (r:List aJ):Exit→St→Prop:=(eU (wkK (avc Tryz.prog aVp (aD2 r))) (aD2 r))
def bOo (r:List aJ):Exit→St→Prop:=(eY 0 (bFi r))
def bMh (r:List aJ):Exit→St→Prop:=(eU (wkK (avc Tryz.prog aV7 (aD2 r))) (aD2 r))
def aNo (r:List aJ):Exit→St→Prop:=(eY 2 (bMh r))
def aQf (r:List aJ):Exit→St→Prop:=(eU (avc Tryz.prog aFu (aNo r)) (aNo r))
def bPn (r:List aJ):Exit→St→Prop:=(eU (wkK (avc Tryz.prog aTq (aQf r))) (aQf r))
def bQf (r:List aJ):Exit→St→Prop:=(eY 3 (bPn r))
def bKm (p1:aA) (x0:List aJ):St:=⟨[(0,(.osl 0 56 3 (x0.map aV))),(4,(.ptr 4 0))],[(4,fJ p1)]⟩
abbrev aPc:=fun p1 x0 r=>avc Tryz.prog aN4 (bOo r) (bKm p1 x0)
def bBl (p2:Bool) (p1:aA) (mZ:List aJ) (x7:Int):St:=⟨[(0,(.osl 0 56 3 (mZ.map aV))),(2,(vB p2)),(4,(.ptr 4 0)),(7,(vI x7))],[(4,fJ p1)]⟩
abbrev aF8:=fun p2 p1 mZ x7 r=>avc Tryz.prog aFu (aNo r) (bBl p2 p1 mZ x7)
def bAj (p2:Bool) (x7:Int) (p1:aA) (oU:List aJ):St:=⟨[(0,(.osl 0 56 3 (oU.map aV))),(2,(vB p2)),(4,(.ptr 4 0)),(7,(vI x7))],[(4,fJ p1)]⟩
abbrev aH6:=fun p2 x7 p1 oU r=>avc Tryz.prog aMx (bQf r) (bAj p2 x7 p1 oU)
def bOg:AC:=(.seq (.ops [.alc 2 [aR,aX,aR]]) (.seq (.ops [.mv 3 0,.bld 4 [aR,aX,aR] [(0,1,(kI 2)),(1,1,3)],.st 3 2 4]) .ret))
theorem bIs:bQ Tryz.prog 23=some (bOg,[.ld 0 3 true 2],5):=by kernel_rfl
def bWk (r:aJ):Exit→St→Prop:=bM [.ld 0 3 true 2] fun x _=>x=(fun y=>(kM y)) r
def aYb:AC:=(.seq (.ops [.box 2 31 0,.asg 4 (kB false)]) (.seq (.dops [[],[],[1],[2],[3],[0,4],[5,5],[6],[7,6],[6],[8,9,6],[10,6],[11,6,6],[6],[6],[13,14,12,6],[12,15,6],[6,16],[17,15,0,1,2,3,4,5,6,7,8,9,10,11,12,13,14,15,16,17]] [.mv 5 1,.fa 6 8 2,.ld 7 1 false 6,.len 8 7,.bin 9 .sub 8 (kI 1),.call (some 10) 72 [5,(kI 0),9],.mv 11 10,.g 11 true (.fa 12 8 2),.g 11 true (.ld 13 1 false 12),.g 11 true (.mv 14 1),.g 11 true (.ia 15 10 13 14),.g 11 true (.ld 16 10 true 15),.g 11 true (.call (some 17) 48 [16]),.g 11 true (.ld 18 10 true 2),.g 11 true (.mv 19 1),.g 11 true (.call (some 20) 73 [18,19]),.g 11 true (.bin 21 .lss 17 20),.pick 22 11 21 (kB false),.asg 4 22]) .ret))
theorem bCb:bQ Tryz.prog 47=some (aYb,[.mv 0 4],23):=by kernel_rfl
def bUt (r:Bool):Exit→St→Prop:=bM [.mv 0 4] fun x _=>x=(fun y=>(vB y)) r
def aK6:AC:=(.seq (.ops [.asg 4 (kI 5)]) .ret)
def bM9:AC:=(.seq (.ops [.box 2 31 0,.asg 4 (kI 0)]) (.seq (.ops [.ld 6 10 true 2,.call (some 7) 48 [6],.asg 5 7]) (.seq (.seq (.ops [.mv 8 1,.fa 9 8 2,.ld 10 1 false 9,.len 11 10,.bin 12 .sub 11 (kI 1),.call (some 13) 72 [8,(kI 0),12],.not 14 13,.mv 15 14,.g 15 false (.mv 16 5),.g 15 false (.bin 17 .eql 16 (kI 0)),.pick 18 15 (kB true) 17,.mv 19 18,.g 19 false (.mv 20 5),.g 19 false (.bin 21 .eql 20 (kI 9)),.pick 22 19 (kB true) 21]) (.cond 22 (.seq (.ops [.asg 4 (kI 0)]) .ret) .skip)) (.seq (.seq (.ops [.fa 23 0 2,.ld 24 1 false 23]) (.block 0 (.seq (.ops [.bin 26 .eql 24 (kI 3),.asg 25 26]) (.cond 25 (.seq (.ops [.mv 27 5,.asg 4 27]) .ret) (.seq (.ops [.bin 29 .eql 24 (kI 4),.asg 28 29]) (.cond 28 (.seq (.seq (.ops [.mv 30 5,.bin 31 .eql 30 (kI 4)]) (.cond 31 (.seq (.ops [.asg 4 (kI 5)]) .ret) .skip)) (.seq (.seq (.ops [.mv 32 1,.bin 33 .eql 32 (kI 0)]) (.cond 33 (.seq (.ops [.mv 34 5,.asg 4 34]) .ret) .skip)) (.seq (.ops [.mv 35 5,.bin 36 .add 35 (kI 1),.asg 4 36]) .ret))) (.seq (.ops [.bin 38 .eql 24 (kI 7),.asg 37 38]) (.cond 37 (.seq (.ops [.mv 39 1,.bin 40 .gtr 39 (kI 0)]) (.cond 40 (.seq (.ops [.asg 4 (kI 1)]) .ret) .skip)) .skip)))))))) aK6))))
theorem bGi:bQ Tryz.prog 73=some (bM9,[.mv 0 4],41):=by kernel_rfl
def bEo (r:Int):Exit→St→Prop:=bM [.mv 0 4] fun x _=>x=(fun y=>(vI y)) r
def bSo:St:=⟨[],[]⟩
abbrev aQi:=fun r=>avc Tryz.prog aK6 (bEo r) (bSo)
def bBv:AC:=(.seq (.ops [.box 3 31 1,.asg 4 (.c (.nil 3))]) (.seq (.seq (.ops [.fa 5 2 3,.ld 6 1 false 5]) (.cond 6 (.seq (.ops [.mv 7 0,.call (some 8) 28 [(kI 15)],.bsl 9 56 3 [8],.app 10 56 3 32 7 9,.asg 4 10]) .ret) .skip)) (.seq (.ops [.mv 11 0,.asg 4 11]) .ret)))
theorem bQk:bQ Tryz.prog 29=some (bBv,[.mv 0 4],12):=by kernel_rfl
def bVp (r:List aJ):Exit→St→Prop:=bM [.mv 0 4] fun x b=>x=(fun (y:List aJ)=>(.osl 2000000 56 3 (y.map aV))) r∧bI ((fun (y:List aJ)=>[]) r) b
def aK9:AC:=(.ops [.mv 32 0,.fa 33 1 4,.ld 34 1 false 33,.mv 35 7,.ia 36 13 34 35,.ld 37 13 true 36,.mv 38 2,.call (some 39) 50 [32,37,38],.asg 0 39])
def aQq:AC:=(.ops [.mv 24 7,.bin 25 .add 24 (kI 1),.asg 7 25])
def aFh:AC:=(.loop (.seq (.seq (.ops [.mv 19 7,.fa 20 1 4,.ld 21 1 false 20,.len 22 21,.bin 23 .lss 19 22]) (.cond 23 .skip (.exit 0))) (.seq (.block 1 (.seq (.seq (.ops [.mv 26 7,.bin 27 .gtr 26 (kI 0)]) (.cond 27 (.ops [.mv 28 0,.call (some 29) 24 [(.c (.d (.s (bs [44]))))],.bsl 30 56 3 [29],.app 31 56 3 32 28 30,.asg 0 31]) .skip)) aK9)) aQq)))
def aIg:AC:=(.seq (.ops [.mv 71 0,.fa 72 4 4,.ld 73 1 false 72,.mv 74 8,.ia 75 11 73 74,.fa 76 0 75,.ld 77 10 true 76,.mv 78 2,.call (some 79) 11 [71,77,78],.asg 0 79]) (.seq (.ops [.fa 80 4 4,.ld 81 1 false 80,.mv 82 8,.ia 83 11 81 82,.fa 84 10 83,.ld 85 1 false 84]) (.cond 85 (.ops [.mv 86 0,.call (some 87) 28 [(kI 10)],.bsl 88 56 3 [87],.app 89 56 3 32 86 88,.asg 0 89]) .skip)))
def aH3:AC:=(.ops [.mv 58 8,.bin 59 .add 58 (kI 1),.asg 8 59])
def aFc:AC:=(.loop (.seq (.seq (.ops [.mv 53 8,.fa 54 4 4,.ld 55 1 false 54,.len 56 55,.bin 57 .lss 53 56]) (.cond 57 .skip (.exit 2))) (.seq (.block 3 (.seq (.seq (.ops [.mv 60 8,.bin 61 .eql 60 (kI 0)]) (.cond 61 (.ops [.mv 62 0,.call (some 63) 28 [(kI 7)],.call (some 64) 28 [(kI 8)],.bsl 65 56 3 [63,64],.app 66 56 3 32 62 65,.asg 0 66]) (.ops [.mv 67 0,.call (some 68) 24 [(.c (.d (.s (bs [44]))))],.bsl 69 56 3 [68],.app 70 56 3 32 67 69,.asg 0 70]))) aIg)) aH3)))
def aI7:AC:=(.seq (.ops [.mv 101 0,.asg 6 101]) .ret)
def aSo:AC:=(.seq (.seq (.ops [.fa 90 5 4,.ld 91 1 false 90,.bin 92 .geq 91 (kI 0)]) (.cond 92 (.dops [[],[],[],[2],[3,1],[4],[1,5],[0,6,4],[7,7,0,1,2,3,4,5,6,7]] [.mv 93 0,.call (some 94) 28 [(kI 11)],.fa 95 5 4,.ld 96 1 false 95,.call (some 97) 46 [96],.bld 98 [aR,aX,aR] [(0,1,(kI 3)),(1,1,97)],.bsl 99 56 3 [94,98],.app 100 56 3 32 93 99,.asg 0 100]) .skip)) aI7)
def aSq:AC:=(.seq (.dops [[],[],[1],[0,2,1],[],[4],[],[3,5,6,3],[7,7,0,1,2,3,4,5,6,7]] [.mv 40 0,.call (some 41) 28 [(kI 3)],.bsl 42 56 3 [41],.app 43 56 3 32 40 42,.fa 44 2 4,.ld 45 1 false 44,.mv 46 2,.call (some 47) 51 [43,45,46],.asg 0 47]) (.seq (.ops [.mv 48 0,.fa 49 3 4,.ld 50 1 false 49,.mv 51 2,.call (some 52) 52 [48,50,51],.asg 0 52]) (.seq (.seq (.ops [.asg 8 (kI 0)]) (.block 2 aFc)) aSo)))
def aL5:AC:=(.seq (.seq (.ops [.asg 7 (kI 0)]) (.block 0 aFh)) aSq)
def bAx:AC:=(.seq (.ops [.box 4 67 1,.asg 6 (.c (.nil 3))]) (.seq (.ops [.mv 9 0,.call (some 10) 28 [(kI 1)],.bsl 11 56 3 [10],.app 12 56 3 32 9 11,.asg 0 12]) (.seq (.seq (.ops [.fa 13 0 4,.ld 14 1 false 13]) (.cond 14 (.ops [.mv 15 0,.call (some 16) 28 [(kI 2)],.bsl 17 56 3 [16],.app 18 56 3 32 15 17,.asg 0 18]) .skip)) aL5)))
theorem bCp:bQ Tryz.prog 27=some (bAx,[.mv 0 6],102):=by kernel_rfl
def Q0 (r:List aJ):Exit→St→Prop:=bM [.mv 0 6] fun x b=>x=(fun (y:List aJ)=>(.osl 2000000 56 3 (y.map aV))) r∧bI ((fun (y:List aJ)=>[]) r) b
def bMs (r:List aJ):Exit→St→Prop:=(eU (wkK (avc Tryz.prog aSq (Q0 r))) (Q0 r))
def aN6 (r:List aJ):Exit→St→Prop:=(eY 0 (bMs r))
def aPt (r:List aJ):Exit→St→Prop:=(eU (avc Tryz.prog aFh (aN6 r)) (aN6 r))
def bRy (r:List aJ):Exit→St→Prop:=(eU (wkK (avc Tryz.prog aQq (aPt r))) (aPt r))
def bA3 (r:List aJ):Exit→St→Prop:=(eY 1 (bRy r))
def bRr (r:List aJ):Exit→St→Prop:=(eU (wkK (avc Tryz.prog aSo (Q0 r))) (Q0 r))
def aLc (r:List aJ):Exit→St→Prop:=(eY 2 (bRr r))
def aKs (r:List aJ):Exit→St→Prop:=(eU (avc Tryz.prog aFc (aLc r)) (aLc r))
def bHf (r:List aJ):Exit→St→Prop:=(eU (wkK (avc Tryz.prog aH3 (aKs r))) (aKs r))
def bN4 (r:List aJ):Exit→St→Prop:=(eY 3 (bHf r))
def bR3 (p2:Bool) (p1:aY) (x0:List aJ):St:=⟨[(0,(.osl 0 56 3 (x0.map aV))),(2,(vB p2)),(4,(.ptr 4 0))],[(4,R8 p1)]⟩
abbrev aGp:=fun p2 p1 x0 r=>avc Tryz.prog aL5 (Q0 r) (bR3 p2 p1 x0)
def bEd (p2:Bool) (p1:aY) (gX:List aJ) (x7:Int):St:=⟨[(0,(.osl 0 56 3 (gX.map aV))),(2,(vB p2)),(4,(.ptr 4 0)),(7,(vI x7))],[(4,R8 p1)]⟩
abbrev aHp:=fun p2 p1 gX x7 r=>avc Tryz.prog aFh (aN6 r) (bEd p2 p1 gX x7)
def aZ0 (p2:Bool) (x7:Int) (p1:aY) (oM:List aJ):St:=⟨[(0,(.osl 0 56 3 (oM.map aV))),(2,(vB p2)),(4,(.ptr 4 0)),(7,(vI x7))],[(4,R8 p1)]⟩
abbrev aDt:=fun p2 x7 p1 oM r=>avc Tryz.prog aK9 (bA3 r) (aZ0 p2 x7 p1 oM)
def bEu (p2:Bool) (p1:aY) (mJ:List aJ) (x8:Int):St:=⟨[(0,(.osl 0 56 3 (mJ.map aV))),(2,(vB p2)),(4,(.ptr 4 0)),(8,(vI x8))],[(4,R8 p1)]⟩
abbrev aH0:=fun p2 p1 mJ x8 r=>avc Tryz.prog aFc (aLc r) (bEu p2 p1 mJ x8)
def bAn (p2:Bool) (x8:Int) (p1:aY) (pV:List aJ):St:=⟨[(0,(.osl 0 56 3 (pV.map aV))),(2,(vB p2)),(4,(.ptr 4 0)),(8,(vI x8))],[(4,R8 p1)]⟩
abbrev aFk:=fun p2 x8 p1 pV r=>avc Tryz.prog aIg (bN4 r) (bAn p2 x8 p1 pV)
def bO2 (uC:List aJ):St:=⟨[(0,(.osl 0 56 3 (uC.map aV)))],[]⟩
abbrev aPs:=fun uC r=>avc Tryz.prog aI7 (Q0 r) (bO2 uC)
def bGd (p2:Bool) (x8:Int) (p1:aY) (pG:List aJ):St:=⟨[(0,(.osl 0 56 3 (pG.map aV))),(2,(vB p2)),(4,(.ptr 4 0)),(8,(vI x8))],[(4,R8 p1)]⟩
abbrev aDz:=fun p2 x8 p1 pG r=>avc Tryz.prog aH3 (aKs r) (bGd p2 x8 p1 pG)
def bBz:AC:=(.seq (.ops [.box 5 31 1,.asg 8 (.c (.nil 3))]) (.seq (.ops [.fa 10 8 5,.ld 11 1 false 10,.mv 12 2,.ia 13 10 11 12,.ld 14 10 true 13,.alc 9 fB,.st 10 9 14]) (.seq (.seq (.ops [.ld 15 10 true 5,.mv 16 2,.call (some 17) 47 [15,16],.mv 18 17,.g 18 false (.mv 19 3),.g 18 false (.mv 20 19),.g 20 true (.ld 21 10 true 9),.g 20 true (.call (some 22) 48 [21]),.g 20 true (.bin 23 .lss 22 (kI 9)),.g 18 false (.pick 24 20 23 (kB false)),.pick 25 18 (kB true) 24]) (.cond 25 (.seq (.dops [[],[],[1],[0,2,1],[],[],[3,4,5,3],[6,6,0,1,2,3,4,5,6]] [.mv 26 0,.call (some 27) 24 [(.c (.d (.s (bs [40]))))],.bsl 28 56 3 [27],.app 29 56 3 32 26 28,.ld 30 10 true 9,.mv 31 3,.call (some 32) 11 [29,30,31],.asg 0 32]) (.seq (.ops [.mv 33 0,.call (some 34) 24 [(.c (.d (.s (bs [41]))))],.bsl 35 56 3 [34],.app 36 56 3 32 33 35,.asg 8 36]) .ret)) .skip)) (.seq (.ops [.mv 37 0,.ld 38 10 true 9,.mv 39 3,.call (some 40) 11 [37,38,39],.asg 8 40]) .ret))))
theorem bKf:bQ Tryz.prog 25=some (bBz,[.mv 0 8],41):=by kernel_rfl
def bWj (r:List aJ):Exit→St→Prop:=bM [.mv 0 8] fun x b=>x=(fun (y:List aJ)=>(.osl 2000000 56 3 (y.map aV))) r∧bI ((fun (y:List aJ)=>[]) r) b
def aNm:AC:=(.seq (.dops [[],[],[],[1,2],[3],[4],[5],[6],[0,7,6],[],[],[9,10],[11],[12],[8,13,8],[14,14,0,1,2,3,4,5,6,7,8,9,10,11,12,13,14]] [.mv 44 0,.mv 45 1,.mv 46 7,.ia 47 3 45 46,.fa 48 0 47,.ld 49 1 false 48,.call (some 50) 23 [49],.bsl 51 56 3 [50],.app 52 56 3 32 44 51,.mv 53 1,.mv 54 7,.ia 55 3 53 54,.fa 56 1 55,.ld 57 1 false 56,.call (some 58) 74 [52,57],.asg 0 58]) (.seq (.ops [.mv 59 1,.mv 60 7,.ia 61 3 59 60,.fa 62 2 61,.ld 63 1 false 62,.len 64 63,.bin 65 .gtr 64 (kI 0)]) (.cond 65 (.dops [[],[],[1],[0,2,1],[],[],[4,5],[6],[7],[8],[9],[],[3,10,11,3],[12,12,0,1,2,3,4,5,6,7,8,9,10,11,12]] [.mv 66 0,.call (some 67) 28 [(kI 5)],.bsl 68 56 3 [67],.app 69 56 3 32 66 68,.mv 70 1,.mv 71 7,.ia 72 3 70 71,.fa 73 2 72,.ld 74 1 false 73,.ia 75 10 74 (kI 0),.ld 76 10 true 75,.mv 77 2,.call (some 78) 11 [69,76,77],.asg 0 78]) .skip)))
def aKq:AC:=(.seq (.seq (.ops [.mv 29 7,.bin 30 .gtr 29 (kI 0),.mv 31 30,.g 31 true (.mv 32 1),.g 31 true (.mv 33 7),.g 31 true (.ia 34 3 32 33),.g 31 true (.fa 35 2 34),.g 31 true (.ld 36 1 false 35),.g 31 true (.len 37 36),.g 31 true (.bin 38 .eql 37 (kI 0)),.pick 39 31 38 (kB false)]) (.cond 39 (.ops [.mv 40 0,.call (some 41) 24 [(.c (.d (.s (bs [44]))))],.bsl 42 56 3 [41],.app 43 56 3 32 40 42,.asg 0 43]) .skip)) aNm)
def aDu:AC:=(.ops [.mv 12 7,.bin 13 .add 12 (kI 1),.asg 7 13])
def aEe:AC:=(.loop (.seq (.seq (.ops [.mv 8 7,.mv 9 1,.len 10 9,.bin 11 .lss 8 10]) (.cond 11 .skip (.exit 0))) (.seq (.block 1 (.seq (.seq (.ops [.mv 14 7,.bin 15 .gtr 14 (kI 0),.mv 16 15,.g 16 true (.mv 17 1),.g 16 true (.mv 18 7),.g 16 true (.ia 19 3 17 18),.g 16 true (.fa 20 2 19),.g 16 true (.ld 21 1 false 20),.g 16 true (.len 22 21),.g 16 true (.bin 23 .gtr 22 (kI 0)),.pick 24 16 23 (kB false)]) (.cond 24 (.ops [.mv 25 0,.call (some 26) 28 [(kI 4)],.bsl 27 56 3 [26],.app 28 56 3 32 25 27,.asg 0 28]) .skip)) aKq)) aDu)))
def aRt:AC:=(.seq (.ops [.mv 79 0,.asg 6 79]) .ret)
def bQ1:AC:=(.seq (.ops [.asg 6 (.c (.nil 3))]) (.seq (.seq (.ops [.asg 7 (kI 0)]) (.block 0 aEe)) aRt))
theorem bQr:bQ Tryz.prog 51=some (bQ1,[.mv 0 6],80):=by kernel_rfl
def aXh (r:List aJ):Exit→St→Prop:=bM [.mv 0 6] fun x b=>x=(fun (y:List aJ)=>(.osl 2000000 56 3 (y.map aV))) r∧bI ((fun (y:List aJ)=>[]) r) b
def aZh (r:List aJ):Exit→St→Prop:=(eU (wkK (avc Tryz.prog aRt (aXh r))) (aXh r))
def aJl (r:List aJ):Exit→St→Prop:=(eY 0 (aZh r))
def aMd (r:List aJ):Exit→St→Prop:=(eU (avc Tryz.prog aEe (aJl r)) (aJl r))
def bK2 (r:List aJ):Exit→St→Prop:=(eU (wkK (avc Tryz.prog aDu (aMd r))) (aMd r))
def aRe (r:List aJ):Exit→St→Prop:=(eY 1 (bK2 r))
def bI6 (p1:List bR) (p2:Bool) (x0:List aJ) (x7:Int):St:=⟨[(0,(.osl 4000000 56 3 (x0.map aV))),(1,(A9 p1)),(2,(vB p2)),(7,(vI x7))],[]⟩
abbrev aDj:=fun p1 p2 x0 x7 r=>avc Tryz.prog aEe (aJl r) (bI6 p1 p2 x0 x7)
def bI1 (p1:List bR) (p2:Bool) (x7:Int) (gX:List aJ):St:=⟨[(0,(.osl 0 56 3 (gX.map aV))),(1,(A9 p1)),(2,(vB p2)),(7,(vI x7))],[]⟩
abbrev aGs:=fun p1 p2 x7 gX r=>avc Tryz.prog aKq (aRe r) (bI1 p1 p2 x7 gX)
def bHa (p1:List bR) (p2:Bool) (x7:Int) (mU:List aJ):St:=⟨[(0,(.osl 0 56 3 (mU.map aV))),(1,(A9 p1)),(2,(vB p2)),(7,(vI x7))],[]⟩
abbrev aDl:=fun p1 p2 x7 mU r=>avc Tryz.prog aNm (aRe r) (bHa p1 p2 x7 mU)
def bBt (p1:List bR) (p2:Bool) (x7:Int) (nJ:List aJ):St:=⟨[(0,(.osl 0 56 3 (nJ.map aV))),(1,(A9 p1)),(2,(vB p2)),(7,(vI x7))],[]⟩
abbrev aE4:=fun p1 p2 x7 nJ r=>avc Tryz.prog aDu (aMd r) (bBt p1 p2 x7 nJ)
def bE5:AC:=(.seq (.ops [.asg 4 (.c (.nil 3))]) (.seq (.seq (.ops [.mv 5 1,.bin 6 .eql 5 (.c (.d (.s (bs []))))]) (.cond 6 (.seq (.ops [.mv 7 0,.asg 4 7]) .ret) .skip)) (.seq (.ops [.mv 8 0,.call (some 9) 28 [(kI 12)],.mv 10 1,.call (some 11) 23 [10],.bsl 12 56 3 [9,11],.app 13 56 3 32 8 12,.asg 4 13]) .ret)))
theorem bM7:bQ Tryz.prog 74=some (bE5,[.mv 0 4],14):=by kernel_rfl
def bU0 (r:List aJ):Exit→St→Prop:=bM [.mv 0 4] fun x b=>x=(fun (y:List aJ)=>(.osl 2000000 56 3 (y.map aV))) r∧bI ((fun (y:List aJ)=>[]) r) b
def bBy:AC:=(.seq (.ops [.asg 6 (.c (.nil 3))]) (.seq (.seq (.ops [.mv 7 1,.len 8 7,.bin 9 .eql 8 (kI 0)]) (.cond 9 (.seq (.ops [.mv 10 0,.asg 6 10]) .ret) .skip)) (.seq (.dops [[],[],[1],[0,2,1],[],[4],[5],[],[3,6,7,3],[8,8,0,1,2,3,4,5,6,7,8]] [.mv 11 0,.call (some 12) 28 [(kI 6)],.bsl 13 56 3 [12],.app 14 56 3 32 11 13,.mv 15 1,.ia 16 10 15 (kI 0),.ld 17 10 true 16,.mv 18 2,.call (some 19) 11 [14,17,18],.asg 6 19]) .ret)))
theorem bBj:bQ Tryz.prog 52=some (bBy,[.mv 0 6],20):=by kernel_rfl
def bWl (r:List aJ):Exit→St→Prop:=bM [.mv 0 6] fun x b=>x=(fun (y:List aJ)=>(.osl 2000000 56 3 (y.map aV))) r∧bI ((fun (y:List aJ)=>[]) r) b
def aNd:AC:=(.seq (.ops [.mv 28 0,.call (some 29) 24 [(.c (.d (.s (bs [42]))))],.bsl 30 56 3 [29],.app 31 56 3 32 28 30,.asg 6 31]) .ret)
def bQl:AC:=(.seq (.ops [.box 4 89 1,.asg 6 (.c (.nil 3))]) (.seq (.seq (.ops [.fa 7 0 4,.ld 8 1 false 7,.not 9 8]) (.cond 9 (.seq (.dops [[],[],[1],[],[0,2,3],[],[5],[4,6,4],[7,7,0,1,2,3,4,5,6,7]] [.mv 10 0,.fa 11 2 4,.ld 12 10 true 11,.mv 13 2,.call (some 14) 11 [10,12,13],.fa 15 12 4,.ld 16 1 false 15,.call (some 17) 74 [14,16],.asg 6 17]) .ret) .skip)) (.seq (.seq (.ops [.fa 18 1 4,.ld 19 1 false 18,.bin 20 .neq 19 (.c (.d (.s (bs []))))]) (.cond 20 (.ops [.mv 21 0,.fa 22 1 4,.ld 23 1 false 22,.call (some 24) 23 [23],.call (some 25) 24 [(.c (.d (.s (bs [46]))))],.bsl 26 56 3 [24,25],.app 27 56 3 32 21 26,.asg 0 27]) .skip)) aNd)))
theorem bLf:bQ Tryz.prog 50=some (bQl,[.mv 0 6],32):=by kernel_rfl
def bG3 (r:List aJ):Exit→St→Prop:=bM [.mv 0 6] fun x b=>x=(fun (y:List aJ)=>(.osl 2000000 56 3 (y.map aV))) r∧bI ((fun (y:List aJ)=>[]) r) b
def bEx (x0:List aJ):St:=⟨[(0,(.osl 0 56 3 (x0.map aV)))],[]⟩
abbrev aPq:=fun x0 r=>avc Tryz.prog aNd (bG3 r) (bEx x0)
theorem aX2 (x:aJ) (h:∀ d ∈ aV x,OkD d):okGToken x:=⟨qX _ (fT h 0 1),wP _ (fT h 1 1),qX _ (fT h 2 1)⟩
theorem aYn (x:bJ) (h:∀ d ∈ aAg x,OkD d):okGValue x:=⟨qX _ (fT h 0 1),qX _ (fT h 1 1),wP _ (fT h 2 1)⟩
mutual
theorem aM8:∀ x:aA,(∀ d ∈ bN x,OkD d)→okGExpr x
  | ⟨a0,a1,a2,a3,a4,a5,a6,a7⟩,h0=>by
    rw [gU] at h0
    have h:∀ d ∈ gI ⟨a0,a1,a2,a3,a4,a5,a6,a7⟩,OkD d:=h0
    unfold okGExpr
    exact ⟨qX _ (fT h 0 1),qX _ (fT h 1 1),trivial,aYn a3 (fT h 3 3),wP _ (fT h 6 1),wP _ (fT h 7 1),⟨by simpa using (nQ (fT h 8 1)).1,aEd a6 (nQ (fT h 8 1)).2⟩,⟨by simpa using (nQ (fT h 9 1)).1,aRh a7 (nQ (fT h 9 1)).2⟩⟩
theorem bRt:∀ x:bV,(∀ d ∈ dX x,OkD d)→okGItem x
  | ⟨a0,a1,a2,a3⟩,h0=>by
    rw [uF] at h0
    have h:∀ d ∈ pK ⟨a0,a1,a2,a3⟩,OkD d:=h0
    unfold okGItem
    exact ⟨trivial,wP _ (fT h 1 1),aM8 a2 (by rw [gU]; exact (fT h 2 10)),wP _ (fT h 12 1)⟩
theorem bP3:∀ x:aY,(∀ d ∈ iJ x,OkD d)→okGQuery x
  | ⟨a0,a1,a2,a3,a4,a5⟩,h0=>by
    rw [wZ] at h0
    have h:∀ d ∈ pY ⟨a0,a1,a2,a3,a4,a5⟩,OkD d:=h0
    unfold okGQuery
    exact ⟨trivial,⟨by simpa using (nQ (fT h 1 1)).1,aRi a1 (nQ (fT h 1 1)).2⟩,⟨by simpa using (nQ (fT h 2 1)).1,aTz a2 (nQ (fT h 2 1)).2⟩,⟨by simpa using (nQ (fT h 3 1)).1,aEd a3 (nQ (fT h 3 1)).2⟩,⟨by simpa using (nQ (fT h 4 1)).1,aUb a4 (nQ (fT h 4 1)).2⟩,qX _ (fT h 5 1)⟩
theorem bQ5:∀ x:eB,(∀ d ∈ gD x,OkD d)→okGSortKey x
  | ⟨a0,a1⟩,h0=>by
    rw [zP] at h0
    have h:∀ d ∈ qO ⟨a0,a1⟩,OkD d:=h0
    unfold okGSortKey
    exact ⟨aM8 a0 (by rw [gU]; exact (fT h 0 10)),trivial⟩
theorem bOt:∀ x:bR,(∀ d ∈ eP x,OkD d)→okGSource x
  | ⟨a0,a1,a2⟩,h0=>by
    rw [wS] at h0
    have h:∀ d ∈ qE ⟨a0,a1,a2⟩,OkD d:=h0
    unfold okGSource
    exact ⟨wP _ (fT h 0 1),wP _ (fT h 1 1),⟨by simpa using (nQ (fT h 2 1)).1,aEd a2 (nQ (fT h 2 1)).2⟩⟩
theorem aEd:∀ l:List aA,(∀ x ∈ l.map bN,∀ d ∈ x,OkD d)→okLGExpr l
  | [],_=>by unfold okLGExpr; trivial
  | x::l,h=>by
    unfold okLGExpr
    exact ⟨aM8 x (h _ (by simp)),aEd l fun y hy=>h y (List.mem_cons_of_mem _ hy)⟩
theorem aRi:∀ l:List bV,(∀ x ∈ l.map dX,∀ d ∈ x,OkD d)→okLGItem l
  | [],_=>by unfold okLGItem; trivial
  | x::l,h=>by
    unfold okLGItem
    exact ⟨bRt x (h _ (by simp)),aRi l fun y hy=>h y (List.mem_cons_of_mem _ hy)⟩
theorem aRh:∀ l:List aY,(∀ x ∈ l.map iJ,∀ d ∈ x,OkD d)→okLGQuery l
  | [],_=>by unfold okLGQuery; trivial
  | x::l,h=>by
    unfold okLGQuery
    exact ⟨bP3 x (h _ (by simp)),aRh l fun y hy=>h y (List.mem_cons_of_mem _ hy)⟩
theorem aUb:∀ l:List eB,(∀ x ∈ l.map gD,∀ d ∈ x,OkD d)→okLGSortKey l
  | [],_=>by unfold okLGSortKey; trivial
  | x::l,h=>by
    unfold okLGSortKey
    exact ⟨bQ5 x (h _ (by simp)),aUb l fun y hy=>h y (List.mem_cons_of_mem _ hy)⟩
theorem aTz:∀ l:List bR,(∀ x ∈ l.map eP,∀ d ∈ x,OkD d)→okLGSource l
  | [],_=>by unfold okLGSource; trivial
  | x::l,h=>by
    unfold okLGSource
    exact ⟨bOt x (h _ (by simp)),aTz l fun y hy=>h y (List.mem_cons_of_mem _ hy)⟩
end
theorem bUx (x:aP) (h:∀ d ∈ aKd x,OkD d):okGParser x:=⟨aHm _ (fun y hy=>aX2 y hy) (fT h 0 1),qX _ (fT h 1 1),trivial⟩
theorem bWr (x:aU) (h:∀ d ∈ aIx x,OkD d):okGL12In x:=⟨aHm _ (fun y hy=>aX2 y hy) (fT h 0 1),qX _ (fT h 1 1),trivial⟩
theorem bTy (x:aQ) (h:∀ d ∈ aOc x,OkD d):okGL1Cur x:=⟨aHm _ (fun y hy=>aW9 _ hy) (fT h 0 1),qX _ (fT h 1 1),qX _ (fT h 2 1)⟩
theorem de5 {l:List D} (h:WtC Tryz.prog 5 l):∃ x:Int,l=cU8 x:=(bL5 h (k:=.u8) kr)
theorem bBd {l:List D} (h:WtC Tryz.prog 22 l):∃ x:(List Int),l=(cSl 1 cU8) x:=(bMm h (e:=5) (n:=1) (c:=cU8) kr kr fun x hx=>de5 hx)
theorem bC6 (p0:aP):dI Tryz.prog 14 [(.ptr 1000000 0)] [(1000000,bA p0)] (fun (y:Int)=>(vI y)) (fun (y:Int)=>[(1000000,bA p0)]) (aAs p0):=by
 intro r h
 rw [aAs] at h;refine ao bI5 (si (oi (sx 1 (ni (xi (si (si (fE (dsx 5 (dgq 0 (dgq 1 (dgq 1 (dgq 1 (dgq 0 (dgq 1 (dgq 1 (dgq 1 (aB4 (p:=true) (b:=p0.failed) (v':=(vI (ln p0.list))) kr rfl rfl (fun hc=>G5 (sz:=3) (l:=p0.list) (f:=aV) (Eq.trans (b:=([(true&&(p0.failed==false))]:List Bool).all id) kr (iQ hc rfl)) kr) (dgq 2 ?_)))))))))))))))))));refine aWd h fun y1 h=>(fH kr kr (xi ?_));refine cd h (fun h=>?_) fun h=>?_;refine si (oi (sx 5 (ni (xi (ri (tr ?_))))));injection h with h; subst h;exact rb;refine ki (xi (si (oi (sx 1 (ni (xi (ri ?_)))))));injection h with h; subst h;exact rb
theorem X4 (p0:Int) (p1:aA) (p2:aA):FOk Tryz.prog 55 [(vI p0),(bX p1),(bX p2)] (fun y=>(bX y)) (qN p0 p1 p2):=by
 intro r h
 rw [qN] at h;refine ao bLp (si (oi (sx 3 (ni (xi (si (oi (sx 3 (eF (l:=([p1,p2]:List aA)) (f:=bN) (g:=gI) kr gU kr (fQ (c:=[(vI 4),(vI p0),(vB false),(vI 0),(vI 0),(vS []),(vS []),(vS []),(.osl 10 31 10 (([p1,p2]:List aA).map bN)),(.nil 6)]) kr kr rfl (sx 1 (ni (xi ?_)))))))))))));refine eO (s':=⟨[(6,(.ptr 6 0))],[(6,fJ (aA.mk 4 p0 false (bJ.mk 0 0 []) [] [] ([p1,p2]:List aA) ([]:List aY)))]⟩) (wr [] eS (dL (c0:=[(vI 4),(vI p0),(vB false),(vI 0),(vI 0),(vS []),(vS []),(vS []),(.osl 10 31 10 (([p1,p2]:List aA).map bN)),(.nil 6)]) kr (aB (aL kr kr) (aB (aL kr kr) (aB (aL kr kr) (aB (aL kr kr) (aB (aL kr kr) (aB (aL kr kr) (aB (aL kr kr) (aB (aL kr kr) (aB (eG kr kr) (aB (eG kr kr) dR)))))))))) dZ)) ?_;injection h with h; subst h;exact rp
theorem aTv (bG r) (h:aHu bG=some r):aSd bG r:=by
 rw [aHu] at h;delta aSd aOi;refine si (oi (sx 2 (ni (xi (ri ?_)))));injection h with h; subst h;exact rp
theorem aW5 (p0:Bool):FOk Tryz.prog 119 [(vB p0)] (fun y=>(lD y)) (Z8 p0):=by
 intro r h
 rw [Z8] at h;refine ao bL7 (si (oi (sx 1 (ni (xi (si (oi (sx 3 (ni (xi (si (si (oi (sx 1 (ni (xi ?_))))))))))))))));refine cd h (fun h=>?_) fun h=>?_;exact oi (sx 2 (ni (nxs (aTv _ _ h) (wr [] eS bS))));exact ki (nxs (aTv _ _ h) (wr [] eS bS))
theorem bP6 (p0:Int):FOk Tryz.prog 117 [(vI p0)] (fun y=>(lD y)) (aFa p0):=by
 intro r h
 rw [aFa] at h;refine ao aYm (si (oi (sx 1 (ni (xi (si (oi (sx 3 (ni (xi (ri ?_)))))))))));injection h with h; subst h;exact rp
theorem aB6 (p0:bJ):FOk Tryz.prog 116 [(lD p0)] (fun y=>(bX y)) (qA p0):=by
 intro r h
 rw [qA] at h;refine ao bLn (si (oi (sx 2 (ni (xi (si (oi (sx 1 (fQ (c:=[(vI 1),(vI 0),(vB false),(vI p0.kind),(vI p0.num),(vS p0.text),(vS []),(vS []),(.nil 10),(.nil 6)]) kr kr rfl (sx 1 (ni (xi ?_))))))))))));refine eO (s':=⟨[(2,(.ptr 2 0))],[(2,fJ (aA.mk 1 0 false p0 [] [] ([]:List aA) ([]:List aY)))]⟩) (wr [] eS (dL (c0:=[(vI 1),(vI 0),(vB false),(vI p0.kind),(vI p0.num),(vS p0.text),(vS []),(vS []),(.nil 10),(.nil 6)]) kr (aB (aL kr kr) (aB (aL kr kr) (aB (aL kr kr) (aB (aL kr kr) (aB (aL kr kr) (aB (aL kr kr) (aB (aL kr kr) (aB (aL kr kr) (aB (eG kr kr) (aB (eG kr kr) dR)))))))))) dZ)) ?_;injection h with h; subst h;exact rp
theorem bBf (x3 r) (h:aHy x3=some r):aPu x3 r:=by
 rw [aHy] at h;delta aPu aFj;refine si (oi (sx 1 (vs (fun (y:List UInt8)=>(vS y)) h (fun y hy=>aOg (l:=x3) hy kr kr) fun y3 h=>(sx 1 (ni (xi (ri ?_)))))));injection h with h; subst h;exact rp
theorem aTi (p0):(∀ x10 nK r,zT p0 x10 nK=some r→aE1 p0 x10 nK r)∧(∀ x10 iP r,E9 p0 x10 iP=some r→aDo p0 x10 iP r):=by
 refine zT.mutual_partial_correctness p0 (fun x10 nK r=>aE1 p0 x10 nK r) (fun x10 iP r=>aDo p0 x10 iP r) ?_ ?_
 · intro bV7 aI4 x10 nK r h;delta aE1 aJf;exact oi (sx 2 (ni (lbs (aI4 _ _ _ h) (tw [.rn [(60050000,60015000)]] (wr [] eS bS)))))
 · intro bT7 aIp x10 iP r h;delta aDo aHx;refine iB (si (oi (sx 1 (ni (xi (si ?_))))));refine cd h (fun h=>?_) fun h=>?_;refine ki (xi (si (bi (si (oi (sx 1 (aO7 (n:=60015000) (k:=.i64) (i:=x10) (l:=iP) (f:=cU8) (g:=cU8) [] h kr kr kr (fun _=>rfl) kr (fun _=>rfl) fun y1 hiy1 h=>?_)))))));refine ps (.d (.i .u8 y1)) (aJw (n:=60015000) (sz:=1) (i:=(x10).toNat) (off:=0) (l:=iP.map cU8) (c:=[(.d (.i .u8 y1))]) kr kr kr) (sx 2 (ni (xi (si (oi (sx 3 (gq 0 (gq 1 (pkA h fun y2 h=>(ni (xi ?_)))))))))));refine cd h (fun h=>?_) fun h=>?_;refine oi (sx 5 (aNz (n:=60015000) (k:=.i64) (i:=x10) (l:=iP.map cU8) (c:=[(.d (.i .u8 y1))]) kr kr (aB5 hiy1).1 kr (aKh (n:=60015000) (sz:=1) (i:=(x10).toNat) (off:=0) (l:=iP.map cU8) (c:=[(.d (.i .u8 y1))]) kr kr kr rfl (ni (bn ?_)))));exact nxs (aIp _ _ _ h) (tw [.clo 60015000,.rn [(60015000,60050000)]] (wr [] eS (bt_ (R:=(iP.set (x10).toNat (IntKind.wrap .u8 ((IntKind.wrap .u8 (y1 - 97))+65))).map cU8) (aAx (l:=iP) (k:=(x10).toNat) (x:=(IntKind.wrap .u8 ((IntKind.wrap .u8 (y1 - 97))+65))) (fun _=>rfl)) dZ)));exact ki (bn (nxs (aIp _ _ _ h) (tw [.clo 60015000,.rn [(60015000,60050000)]] (wr [] eS (bt_ (R:=(iP.set (x10).toNat y1).map cU8) (aAx (l:=iP) (k:=(x10).toNat) (x:=y1) (fun _=>rfl)) dZ)))));exact ei (te (te (bh (nxs (bBf _ _ h) (tw [.frz [60015000]] (wr [] eS dZ))))))
theorem aIp (p0 x10 nK r) (h:zT p0 x10 nK=some r):aE1 p0 x10 nK r:=(aTi p0).1 x10 nK r h
theorem aI4 (p0 x10 iP r) (h:E9 p0 x10 iP=some r):aDo p0 x10 iP r:=(aTi p0).2 x10 iP r h
theorem aUu (p0:List UInt8):FOk Tryz.prog 121 [(vS p0)] (fun y=>(vS y)) (P7 p0):=by
 intro r h
 rw [P7] at h;refine ao aZ5 (si (oi (sx 1 (ni (xi (si (oi (sx 1 (aUt (b:=p0) kr kr rfl (sx 1 (ni (xi (si (si (oi (sx 1 (ps (vI ((jL p0).length:Int)) (aAi (n:=7) (l:=(jL p0).map cU8) (L:=(jL p0).length) kr kr (List.length_map ..)) (sx 1 (ni (xi (bi ?_)))))))))))))))))))));exact lgs (aI4 _ _ _ _ h) (tw [.rn [(7,60015000)]] (wr [] eS bS))
theorem bO1 (p0) (p1):(∀ x8 r,pM p0 p1 x8=some r→aGh p0 p1 x8 r):=by
 refine pM.partial_correctness p0 p1 (fun x8 r=>aGh p0 p1 x8 r) ?_
 · intro bVr aJr x8 r h;delta aGh aOl;refine iB (si (oi (sx 1 (ni (xi (si ?_))))));refine cd h (fun h=>?_) fun h=>?_;refine ki (xi (si (bi (si (oi (sx 2 (ni (xi (si (oi (sx 3 (iq h fun y1 h=>(sx 2 (ni (xi ?_)))))))))))))));refine cd h (fun h=>?_) fun h=>?_;refine si (oi (sx 2 (ni (xi (ri (br (tr (tr (br (tr ?_))))))))));injection h with h; subst h;exact rp;exact ki (bn (xi (oi (sx 2 (ni (lbs (aJr _ _ h) (wr [] eS dZ)))))));refine ei (te (te (bh (xi (si (oi (sx 1 (ni (xi (ri ?_))))))))));injection h with h; subst h;exact rp
theorem aJr (p0 p1 x8 r) (h:pM p0 p1 x8=some r):aGh p0 p1 x8 r:=(bO1 p0 p1) x8 r h
theorem aWi (p0:List (List UInt8)) (p1:List UInt8):FOk Tryz.prog 127 [(zX p0),(vS p1)] (fun y=>(vI y)) (Q7 p0 p1):=by
 intro r h
 rw [Q7] at h;exact ao bNy (si (oi (sx 1 (ni (xi (si (si (oi (sx 1 (lq p0 (sx 1 (ni (xi (bi (lgs (aJr _ _ _ _ h) (wr [] eS dZ))))))))))))))))
theorem bR4 (p0:List UInt8) (p1:List UInt8):FOk Tryz.prog 137 [(vS p0),(vS p1)] (fun y=>(zX y)) (aMi p0 p1):=by
 intro r h
 rw [aMi] at h;exact bCd (ρ:=sh146_ren) sh146 kr kr kr (.tail _ (.head _)) p0 p1 r h
theorem bDd:FOk Tryz.prog 128 [] (fun y=>(zX y)) (aGo):=by
 intro r h
 rw [aGo] at h;refine ao bId (si (oi (sx 1 (ni (xi (si (oi (cs h (bR4 _ _) fun y1 h=>(sx 1 (ni (xi (ri ?_))))))))))))
 have h:=Option.some.inj h; subst h
 exact rp
theorem bAc (p0:List UInt8):FOk Tryz.prog 120 [(vS p0)] (fun y=>(vI y)) (P6 p0):=by
 intro r h
 rw [P6] at h;refine ao bFj (si (oi (sx 1 (ni (xi (si (oi (cs h bDd fun y1 h=>(sx 1 (cs h (aUu _) fun y2 h=>(cs h (aWi _ _) fun y3 h=>(sx 2 (ni (xi (ri ?_)))))))))))))))
 have h:=Option.some.inj h; subst h
 exact rp
theorem bOq (p0:List UInt8):FOk Tryz.prog 122 [(vS p0)] (fun y=>(vB y)) (aAm p0):=by
 intro r h
 rw [aAm] at h;refine ao aZu (si (oi (sx 1 (ni (xi (si (oi (sx 4 (gq 0 (gq 1 (gq 1 (pkA h fun y1 h=>(sx 1 (ni (xi (ri ?_))))))))))))))));injection h with h; subst h;exact rp
theorem aUk (p0:List UInt8):FOk Tryz.prog 111 [(vS p0)] (fun y=>(.tup [(vI y.1),(vB y.2)])) (wM p0):=by
 intro r h
 rw [wM] at h;exact bCl bFs (.tail _ (.tail _ (.head _))) (.tail _ (.tail _ (.tail _ (.head _)))) (.head _) p0 r h
theorem bO5 (p0:List (List UInt8)) (p1:List UInt8):FOk Tryz.prog 129 [(zX p0),(vS p1)] (fun y=>(vB y)) (aFb p0 p1):=by
 intro r h
 rw [aFb] at h;refine ao bH4 (si (oi (sx 1 (ni (xi (si (oi (sx 2 (cs h (aWi _ _) fun y1 h=>(sx 2 (ni (xi (ri ?_)))))))))))));injection h with h; subst h;exact rp
theorem bB2:dI Tryz.prog 130 [] [] (fun (y:List (List UInt8))=>(.osl 2000000 9 1 (y.map cStr))) (fun (y:List (List UInt8))=>[]) (aH8):=by
 intro r h
 rw [aH8] at h;refine ao bPa (si (oi (sx 1 (ni (xi (si (oi (eF (l:=([[40],[41],[44],[46],[42],[43],[45],[47],[37],[61],[60,62],[60],[60,61],[62],[62,61],[124,124]]:List (List UInt8))) (f:=cStr) (g:=cStr) kr (fun _=>rfl) kr (sx 1 (ni (xi ?_)))))))))));refine eO (s':=⟨[(0,(.osl 2000000 9 1 (([[40],[41],[44],[46],[42],[43],[45],[47],[37],[61],[60,62],[60],[60,61],[62],[62,61],[124,124]]:List (List UInt8)).map cStr)))],[]⟩) (wr [(2000000,.old 0)] (eo 0 fM) dZ) ?_;injection h with h; subst h;exact rb
theorem bRs (p0:List UInt8):FOk Tryz.prog 123 [(vS p0)] (fun y=>(vB y)) (aC0 p0):=by
 intro r h
 rw [aC0] at h;refine ao aZn (si (oi (sx 1 (ni (xi (si (oi (cg ⟨[],[],[],[],[],[(2000000,3)],[],[3],[]⟩ h bB2 fun y1 h=>(sx 1 (cs h (bO5 _ _) fun y2 h=>(sx 1 (ni (xi (ri ?_))))))))))))));injection h with h; subst h;exact rp
theorem aY9 (p0:aJ):FOk Tryz.prog 113 [(kM p0)] (fun y=>(vB y)) (V5 p0):=by
 intro r h
 rw [V5] at h;refine ao bNd (si (oi (sx 2 (ni (xi (si (si (oi (sx 2 (ni (xi (bi (si (oi (sx 2 (ni (xi ?_)))))))))))))))));refine cd h (fun h=>?_) fun h=>?_;refine si (fE (dsx 2 (dcs h (bAc _) fun y1 h=>(dsx 2 (dgq 0 (dgq 1 (dgc 1 h (aUu _) fun y2 h=>(dgq 0 (dgq 1 (dgq 2 (xW h fun y3 h=>(dsx 1 (fH kr kr (xi (ri (br (tr ?_)))))))))))))))));injection h with h; subst h;exact rp;refine si (oi (sx 2 (ni (xi ?_))));refine cd h (fun h=>?_) fun h=>?_;refine si (oi (sx 2 (cs h (bOq _) fun y4 h=>(sx 1 (ni (xi (ri (br (tr ?_)))))))));injection h with h; subst h;exact rp;refine si (oi (sx 2 (ni (xi ?_))));refine cd h (fun h=>?_) fun h=>?_;refine si (oi (sx 2 (cs h (aUk _) fun y5 h=>(sx 5 (ni (xi (si (oi (sx 2 (ni (xi (ri (br (tr ?_))))))))))))));injection h with h; subst h;exact rp;refine si (oi (sx 2 (ni (xi ?_))));refine cd h (fun h=>?_) fun h=>?_;refine si (oi (sx 5 (ni (xi (ri (br (tr ?_)))))));injection h with h; subst h;exact rp;refine si (oi (sx 2 (ni (xi ?_))));refine cd h (fun h=>?_) fun h=>?_;refine si (oi (sx 2 (cs h (bRs _) fun y6 h=>(sx 1 (ni (xi (ri (br (tr ?_)))))))));injection h with h; subst h;exact rp;refine ki (bn (xi (si (oi (sx 1 (ni (xi (ri ?_))))))));injection h with h; subst h;exact rp
theorem aAp (p0:aP) (p1:Int):dI Tryz.prog 107 [(.ptr 1000000 0),(vI p1)] [(1000000,bA p0)] (fun (y:Bool)=>(vB y)) (fun (y:Bool)=>[(1000000,bA p0)]) (uK p0 p1):=by
 intro r h
 rw [uK] at h;refine ao bK1 (si (oi (sx 1 (ni (xi (si (fE (dsx 6 (dgq 0 (dgq 1 (dgq 1 (dgq 1 (dgq 0 (dgq 1 (dgq 1 (dgq 1 (aB4 (p:=true) (b:=(!p0.failed)) (v':=(vI (ln p0.list))) kr rfl rfl (fun hc=>G5 (sz:=3) (l:=p0.list) (f:=aV) (Eq.trans (b:=([(true&&((!p0.failed)==true))]:List Bool).all id) kr (iQ hc rfl)) kr) (dgq 2 ?_))))))))))))))))));refine xW h fun y1 h=>(dsx 1 (dgq 0 (dgq 1 (dgq 1 (dgq 1 (dgq 0 (dgq 1 (dgq 1 (dgq 1 ?_)))))))));refine aM1 (p:=true) (b:=y1) (m:=idx p0.list p0.at_) (dflt:=default) (v':=fun y=>(.rp (aV y))) h kr rfl rfl (fun y hy hc=>yP (l:=p0.list) (f:=aV) (g:=aV) (k:=.i64) hy (fun _=>rfl) (Eq.trans (b:=([(true&&(y1==true)),(true&&(y1==true))]:List Bool).all id) kr (iQ hc (iQ hc rfl))) kr kr) fun y2 h=>?_;refine dgq 1 (dgq 1 (dgq 0 (dgq 2 (xW h fun y3 h=>(dsx 1 (dgq 0 (dgq 1 (dgq 1 (dgq 1 (dgq 0 (dgq 1 (dgq 1 (dgq 1 ?_)))))))))))));refine aM1 (p:=true) (b:=y3) (m:=idx p0.list p0.at_) (dflt:=default) (v':=fun y=>(.rp (aV y))) h kr rfl rfl (fun y hy hc=>yP (l:=p0.list) (f:=aV) (g:=aV) (k:=.i64) hy (fun _=>rfl) (Eq.trans (b:=([(true&&(y3==true)),(true&&(y3==true))]:List Bool).all id) kr (iQ hc (iQ hc rfl))) kr kr) fun y4 h=>?_;refine dgq 1 (dgc 1 h (aY9 _) fun y5 h=>(xW h fun y6 h=>(dsx 1 (fH kr kr (xi (ri ?_))))));injection h with h; subst h;exact rb
theorem zB (p0:aP) (p1:Int):dI Tryz.prog 108 [(.ptr 1000000 0),(vI p1)] [(1000000,bA p0)] (fun (y:(List UInt8)×aP)=>(vS y.1)) (fun (y:(List UInt8)×aP)=>[(1000000,bA y.2)]) (rF p0 p1):=by
 intro r h
 rw [rF] at h;refine ao bB0 (si (oi (sx 1 (ni (xi (si (si (oi (sx 2 (cg c1_ h (aAp _ _) fun y1 h=>(sx 1 (ni (xi ?_)))))))))))));refine cd h (fun h=>?_) fun h=>?_;refine si (oi (sx 4 (ni (xi (si (oi (sx 1 (ni (xi (ri (tr ?_)))))))))));injection h with h; subst h;exact rb;refine ki (xi (si (oi (sx 8 (ni (xi (si (fE (dsx 9 (diq h fun y2 h=>(dsx 3 (fH kr kr (xi (ri ?_))))))))))))));injection h with h; subst h;exact rb
theorem aT9 (p0:aP):dI Tryz.prog 104 [(.ptr 1000000 0)] [(1000000,bA p0)] (fun (y:Int×aP)=>(vI y.1)) (fun (y:Int×aP)=>[(1000000,bA y.2)]) (Z7 p0):=by
 intro r h
 rw [Z7] at h;refine ao bT5 (si (oi (sx 1 (ni (xi (si (oi (sx 1 (cg c1_ h (zB _ _) fun y1 h=>(cs h (aUk _) fun y2 h=>(sx 5 (ni (xi (si (oi (sx 2 (ni (xi (ri ?_)))))))))))))))))));injection h with h; subst h;exact rb
theorem aAy (p0:aP) (p1:Int) (p2:Int) (p3:List UInt8):dI Tryz.prog 75 [(.ptr 1000000 0),(vI p1),(vI p2),(vS p3)] [(1000000,bA p0)] (fun (y:Bool)=>(vB y)) (fun (y:Bool)=>[(1000000,bA p0)]) (oV p0 p1 p2 p3):=by
 intro r h
 rw [oV] at h;refine ao bF8 (si (oi (sx 1 (ni (xi (si (oi (sx 7 (ni (xi (si (oi (sx 6 (gq 0 (gq 0 (gq 1 (gq 1 (gq 1 (glq 1 p0.list (gq 2 (pkA h fun y1 h=>(sx 1 (gq 0 (gq 1 (gq 1 (gq 1 (gq 0 (giq 2 h fun y2 h=>(gq 1 (gq 1 (gq 0 (gq 2 (pkA h fun y3 h=>(sx 1 (gq 0 (gq 1 (gq 1 (gq 1 (gq 0 (giq 2 h fun y4 h=>(gq 1 (gq 1 (gq 0 (gq 2 (pkA h fun y5 h=>(sx 1 (ni (xi (ri ?_)))))))))))))))))))))))))))))))))))))))))))))))));injection h with h; subst h;exact rb
theorem bSg (p0:aP) (p1:List UInt8):dI Tryz.prog 106 [(.ptr 1000000 0),(vS p1)] [(1000000,bA p0)] (fun (y:Bool)=>(vB y)) (fun (y:Bool)=>[(1000000,bA p0)]) (aCs p0 p1):=by
 intro r h
 rw [aCs] at h;refine ao bBh (si (oi (sx 1 (ni (xi (si (oi (sx 2 (cg c1_ h (aAy _ _ _ _) fun y1 h=>(sx 1 (ni (xi (ri ?_)))))))))))));injection h with h; subst h;exact rb
theorem aPi (y1 p0 bC r) (h:aAz y1 p0 bC=some r):aPm y1 p0 bC r:=by
 rw [aAz] at h;delta aPm aLa;refine si (oi (sx 2 (ni (xi (ri ?_)))));injection h with h; subst h;exact rb
theorem uB (p0:aP) (p1:List UInt8):dI Tryz.prog 99 [(.ptr 1000000 0),(vS p1)] [(1000000,bA p0)] (fun (y:Bool×aP)=>(vB y.1)) (fun (y:Bool×aP)=>[(1000000,bA y.2)]) (oQ p0 p1):=by
 intro r h
 rw [oQ] at h;refine ao bNt (si (oi (sx 1 (ni (xi (si (oi (sx 2 (cg c1_ h (bSg _ _) fun y1 h=>(sx 1 (ni (xi (si (si (oi (sx 1 (ni (xi ?_))))))))))))))))));refine cd h (fun h=>?_) fun h=>?_;exact oi (sx 8 (ni (nxs (aPi _ _ _ _ h) (wr [] eS bS))));exact ki (nxs (aPi _ _ _ _ h) (wr [] eS bS))
theorem aBm (p0:aP) (p1:List UInt8):dI Tryz.prog 95 [(.ptr 1000000 0),(vS p1)] [(1000000,bA p0)] (fun (y:aP)=>(.tup [])) (fun (y:aP)=>[(1000000,bA y)]) (vM p0 p1):=by
 intro r h
 rw [vM] at h;refine ao bCn (si (oi (sx 2 (cg c1_ h (uB _ _) fun y1 h=>(sx 1 (ni (xi ?_)))))));refine cd h (fun h=>?_) fun h=>?_;refine oi (sx 4 (ni (aAa ?_)));injection h with h; subst h;exact r0b;refine ki (aAa ?_);injection h with h; subst h;exact r0b
theorem aPr (p0:aP) (p1:List UInt8):dI Tryz.prog 85 [(.ptr 1000000 0),(vS p1)] [(1000000,bA p0)] (fun (y:Bool)=>(vB y)) (fun (y:Bool)=>[(1000000,bA p0)]) (V3 p0 p1):=by
 intro r h
 rw [V3] at h;refine ao bJa (si (oi (sx 1 (ni (xi (si (oi (sx 2 (cg c1_ h (aAy _ _ _ _) fun y1 h=>(sx 1 (ni (xi (ri ?_)))))))))))));injection h with h; subst h;exact rb
theorem aSk (y1 p0 bC r) (h:aCr y1 p0 bC=some r):aXx y1 p0 bC r:=by
 rw [aCr] at h;delta aXx aJs;refine si (oi (sx 2 (ni (xi (ri ?_)))));injection h with h; subst h;exact rb
theorem kR (p0:aP) (p1:List UInt8):dI Tryz.prog 77 [(.ptr 1000000 0),(vS p1)] [(1000000,bA p0)] (fun (y:Bool×aP)=>(vB y.1)) (fun (y:Bool×aP)=>[(1000000,bA y.2)]) (jI p0 p1):=by
 intro r h
 rw [jI] at h;refine ao bNn (si (oi (sx 1 (ni (xi (si (oi (sx 2 (cg c1_ h (aPr _ _) fun y1 h=>(sx 1 (ni (xi (si (si (oi (sx 1 (ni (xi ?_))))))))))))))))));refine cd h (fun h=>?_) fun h=>?_;exact oi (sx 8 (ni (nxs (aSk _ _ _ _ h) (wr [] eS bS))));exact ki (nxs (aSk _ _ _ _ h) (wr [] eS bS))
theorem aVj (p0:aP):dI Tryz.prog 109 [(.ptr 1000000 0)] [(1000000,bA p0)] (fun (y:(List UInt8)×aP)=>(vS y.1)) (fun (y:(List UInt8)×aP)=>[(1000000,bA y.2)]) (U7 p0):=by
 intro r h
 rw [U7] at h;refine ao bOv (si (oi (sx 1 (ni (xi (si (si (oi (sx 1 (cg c1_ h (kR _ _) fun y1 h=>(ni (xi ?_))))))))))));refine cd h (fun h=>?_) fun h=>?_;refine si (oi (sx 1 (cg c1_ h (zB _ _) fun y2 h=>(sx 1 (ni (xi (ri (tr ?_))))))));injection h with h; subst h;exact rb;refine ki (xi (si (oi (sx 1 (ni (xi (ri ?_)))))));injection h with h; subst h;exact rb
theorem K8 (p0:aP) (p1:List UInt8):dI Tryz.prog 87 [(.ptr 1000000 0),(vS p1)] [(1000000,bA p0)] (fun (y:aP)=>(.tup [])) (fun (y:aP)=>[(1000000,bA y)]) (tK p0 p1):=by
 intro r h
 rw [tK] at h;refine ao bH9 (si (oi (sx 2 (cg c1_ h (kR _ _) fun y1 h=>(sx 1 (ni (xi ?_)))))));refine cd h (fun h=>?_) fun h=>?_;refine oi (sx 4 (ni (aAa ?_)));injection h with h; subst h;exact r0b;refine ki (aAa ?_);injection h with h; subst h;exact r0b
theorem aV5 (y1 yF bD bC bF r) (h:aB1 y1 yF bD bC bF=some r):aQ6 y1 yF bD bC bF r:=by
 rw [aB1] at h;delta aQ6 aIj;refine si (oi (sx 2 (ni (xi (ri ?_)))));injection h with h; subst h;exact rb
theorem aX5 (y2 bG y8 y9 jZ lJ wF wW xH r) (h:aD4 y2 bG y8 y9 jZ lJ wF wW xH=some r):aQo y2 bG y8 y9 jZ lJ wF wW xH r:=by
 rw [aD4] at h;delta aQo aJz;refine si (oi (sx 2 (ni (xi (ri ?_)))));injection h with h; subst h;exact rb
theorem aXg (y2 bG y8 y9 jZ yG xM wG r) (h:V9 y2 bG y8 y9 jZ yG xM wG=some r):aQ5 y2 bG y8 y9 jZ yG xM wG r:=by
 rw [V9] at h;delta aQ5 aE2;refine si (si (oi (sx 1 (cg c1_ h (kR _ _) fun y23 h=>(ni (xi ?_))))));refine cd h (fun h=>?_) fun h=>?_;refine oi (sx 1 (cg c1_ h (aT9 _) fun y24 h=>(sx 2 (ni ?_))));exact nxs (aX5 _ _ _ _ _ _ _ _ _ _ h) (wr [(11,.old 11),(25,.old 25),(28,.old 28),(36,.old 36)] eS (bs_ (dL (c0:=[(vB y2.1),(.osl 11 89 13 (bG.map dX)),(.osl 25 107 3 (y8.1.map eP)),(.osl 28 31 10 (y9.1.map bN)),(.osl 36 93 11 (jZ.map gD)),(vI y24.1)]) kr (aB (aL kr kr) (aB (cK (t:=11) kr kr) (aB (cK (t:=25) kr kr) (aB (cK (t:=28) kr kr) (aB (cK (t:=36) kr kr) (aB (aL kr kr) dR)))))) bS)));refine ki ?_;exact nxs (aX5 _ _ _ _ _ _ _ _ _ _ h) (wr [(11,.old 11),(25,.old 25),(28,.old 28),(36,.old 36)] eS (bs_ (dL (c0:=[(vB y2.1),(.osl 11 89 13 (bG.map dX)),(.osl 25 107 3 (y8.1.map eP)),(.osl 28 31 10 (y9.1.map bN)),(.osl 36 93 11 (jZ.map gD)),(vI (-1))]) kr (aB (aL kr kr) (aB (cK (t:=11) kr kr) (aB (cK (t:=25) kr kr) (aB (cK (t:=28) kr kr) (aB (cK (t:=36) kr kr) (aB (aL kr kr) dR)))))) bS)))
theorem aIn (p0:aP):dI Tryz.prog 110 [(.ptr 1000000 0)] [(1000000,bA p0)] (fun (y:bR×aP)=>(aDx y.1)) (fun (y:bR×aP)=>[(1000000,bA y.2)]) (yT p0):=by
 intro r h
 rw [yT] at h;refine ao bMb (si (oi (sx 1 (ni (xi (si (oi (sx 1 (cg c1_ h (zB _ _) fun y1 h=>(sx 1 (ni (xi (si (oi (sx 2 (cg c1_ h (aVj _) fun y2 h=>(fQ (c:=[(vS y1.1),(vS y2.1),(.nil 10)]) kr kr rfl (sx 1 (ni (xi ?_))))))))))))))))))));refine eO (s':=⟨[(2,(.ptr 2 0))],[(2,aM6 (bR.mk y1.1 y2.1 ([]:List aA))),(1000000,bA y2.2)]⟩) (wr [] eS (dL (c0:=[(vS y1.1),(vS y2.1),(.nil 10)]) kr (aB (aL kr kr) (aB (aL kr kr) (aB (eG kr kr) dR))) bS)) ?_;injection h with h; subst h;exact rb
theorem bG1 (p0:List UInt8):FOk Tryz.prog 118 [(vS p0)] (fun y=>(lD y)) (aFr p0):=by
 intro r h
 rw [aFr] at h;refine ao bFd (si (oi (sx 1 (ni (xi (si (oi (sx 3 (ni (xi (ri ?_)))))))))));injection h with h; subst h;exact rp
theorem bD0 (p0:Int):FOk Tryz.prog 76 [(vI p0)] (fun y=>(vS y)) (I8 p0):=by
 intro r h
 rw [I8] at h;refine ao bF9 (si (oi (sx 1 (ni (xi (si (si (oi (sx 3 (gq 0 (gq 1 (pkO h fun y1 h=>(ni (xi ?_))))))))))))));refine cd h (fun h=>?_) fun h=>?_;refine si (oi (sx 1 (ni (xi (ri (tr ?_))))));injection h with h; subst h;exact rp;refine ki (xi (si (oi (eF (l:=([[79,82],[65,78,68],[61],[60,62],[60],[60,61],[62],[62,61],[124,124],[43],[45],[42],[47],[37],[78,79,84],[45]]:List (List UInt8))) (f:=cStr) (g:=cStr) kr (fun _=>rfl) kr (sx 2 (iq h fun y2 h=>(sx 2 (ni (xi (ri ?_))))))))));injection h with h; subst h;exact rp
theorem aXy (p1) (p0):(∀ y1 x10 x7 r,D6 y1 p1 x10 p0 x7=some r→aDa y1 p1 x10 p0 x7 r)∧(∀ x10 r,D7 p1 p0 x10=some r→aHq p1 p0 x10 r):=by
 refine D6.mutual_partial_correctness p1 p0 (fun y1 x10 x7 r=>aDa y1 p1 x10 p0 x7 r) (fun x10 r=>aHq p1 p0 x10 r) ?_ ?_
 · intro bTg aN5 y1 x10 x7 r h;delta aDa aOe;refine si (oi (sx 3 (cs h (bD0 _) fun y3 h=>(cg c1_ h (aAy _ _ _ _) fun y4 h=>(ni (xi ?_))))));refine cd h (fun h=>?_) fun h=>?_;refine si (oi (sx 8 (ni (xi (si (oi (sx 2 (ni (xi (ri (br (tr (tr (br (tr ?_)))))))))))))));injection h with h; subst h;exact rb;exact ki (bn (xi (oi (sx 2 (ni (lbs (aN5 _ _ h) (wr [] eS bS)))))))
 · intro bVv aId x10 r h;delta aHq aEh;refine iB (si (oi (sx 1 (ni (xi (si ?_))))));refine cd h (fun h=>?_) fun h=>?_;refine ki (xi (si (bi (si (oi (iqf cI h fun y1 h=>(sx 2 (ni (xi (si (oi (sx 1 (ni (xi (si (si (oi (sx 3 (gq 0 (gq 1 (pkO h fun y2 h=>(ni (xi ?_)))))))))))))))))))))));refine cd h (fun h=>?_) fun h=>?_;exact oi (sx 1 (ni (nxs (aId _ _ _ _ h) (wr [] eS bS))));exact ki (nxs (aId _ _ _ _ h) (wr [] eS bS));refine ei (te (te (bh (xi (si (oi (sx 1 (ni (xi (ri ?_))))))))));injection h with h; subst h;exact rb
theorem aId (y1 p1 x10 p0 x7 r) (h:D6 y1 p1 x10 p0 x7=some r):aDa y1 p1 x10 p0 x7 r:=(aXy p1 p0).1 y1 x10 x7 r h
theorem aN5 (p1 p0 x10 r) (h:D7 p1 p0 x10=some r):aHq p1 p0 x10 r:=(aXy p1 p0).2 x10 r h
theorem U4 (p0:aP) (p1:List Int):dI Tryz.prog 54 [(.ptr 1000000 0),(jB p1)] [(1000000,bA p0)] (fun (y:Int×aP)=>(vI y.1)) (fun (y:Int×aP)=>[(1000000,bA y.2)]) (nT p0 p1):=by
 intro r h
 rw [nT] at h;exact ao bPi (si (oi (sx 1 (ni (xi (si (si (oi (sx 1 (lqf cI p1 (sx 1 (ni (xi (bi (lgs (aN5 _ _ _ _ h) (wr [] eS bS))))))))))))))))
theorem aU1 (p2 dF yJ yH bD bC bF r) (h:Z5 p2 dF yJ yH bD bC bF=some r):aQs p2 dF yJ yH bD bC bF r:=by
 rw [Z5] at h;delta aQs aJb;refine si (oi (sx 1 (cg c1_ h (aBm _ _) fun y6 h=>(ni (xi (si (oi (sx 2 (ni (xi (ri ?_)))))))))));injection h with h; subst h;exact rb
end Go.Proofs.YteephiaimgcliaaGreatDoor
