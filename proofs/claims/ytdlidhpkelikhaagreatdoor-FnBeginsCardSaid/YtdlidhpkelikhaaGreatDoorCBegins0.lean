/- That the code computes these functions (printed by a program). -/
import Derived.Test.YtdlidhpkelikhaaGreatDoorAbP
import Derived.Test.YtdlidhpkelikhaaGreatDoorAbQ
import Derived.KernelRfl
import Derived.Test.YtdlidhpkelikhaaGreatDoorAbG2
import Derived.Test.YtdlidhpkelikhaaGreatDoorAbC3
import Derived.Test.YtdlidhpkelikhaaGreatDoorAbX4
import Derived.Test.YtdlidhpkelikhaaGreatDoorAbX3
import Derived.Test.YtdlidhpkelikhaaGreatDoorAbX1
import Derived.Test.YtdlidhpkelikhaaGreatDoorFBegins
import Derived.Test.YtdlidhpkelikhaaGreatDoorProg
namespace Go.Proofs.YtdlidhpkelikhaaGreatDoor
open Go Go.RowKit Go.Ab
attribute [local irreducible] avc cZ aop dgo bM eU eY wkK S9 stz aHz bZ eff cO.st
def cI (n:Int):List D:=[.i .i64 n]
def cU8 (n:Int):List D:=[.i .u8 n]
def bU2 (n:Int):List D:=[.i .u64 n]
def bTo (n:Int):List D:=[.i .i32 n]
def bUe (n:Int):List D:=[.i .u32 n]
def cB (b:Bool):List D:=[.b b]
def cStr (s:List UInt8):List D:=[.s (bs s)]
def cSl {α:Type} (sz:Nat) (f:α→List D) (l:List α):List D:=[.sl sz (l.map f)]
def aV (x:aJ):List D:=[(.i .i64 x.kind),(.s (bs x.text)),(.i .i64 x.at_)]
def kP (x:aJ):V:=.agg (aV x)
def bNr (x:aJ):List V:=(aV x).map V.d
def aAd (x:bJ):List D:=[(.i .i64 x.kind),(.i .i64 x.num),(.s (bs x.text))]
def lC (x:bJ):V:=.agg (aAd x)
def aT3 (x:bJ):List V:=(aAd x).map V.d
mutual
def bN:aA→List D
  | ⟨a0,a1,a2,a3,a4,a5,a6,a7⟩=>[(.i .i64 a0)]++[(.i .i64 a1)]++[(.b a2)]++aAd a3++[(.s (bs a4))]++[(.s (bs a5))]++[.sl 10 (A7 a6)]++[.sl 6 (aCs a7)]
def eG:bV→List D
  | ⟨a0,a1,a2,a3⟩=>[(.b a0)]++[(.s (bs a1))]++bN a2++[(.s (bs a3))]
def iI:aY→List D
  | ⟨a0,a1,a2,a3,a4,a5⟩=>[(.b a0)]++[.sl 13 (aC3 a1)]++[.sl 3 (aCt a2)]++[.sl 10 (A7 a3)]++[.sl 11 (aAg a4)]++[(.i .i64 a5)]
def fZ:eB→List D
  | ⟨a0,a1⟩=>bN a0++[(.b a1)]
def eP:bR→List D
  | ⟨a0,a1,a2⟩=>[(.s (bs a0))]++[(.s (bs a1))]++[.sl 10 (A7 a2)]
def A7:List aA→List (List D)
  | []=>[]
  | x::l=>bN x::A7 l
def aC3:List bV→List (List D)
  | []=>[]
  | x::l=>eG x::aC3 l
def aCs:List aY→List (List D)
  | []=>[]
  | x::l=>iI x::aCs l
def aAg:List eB→List (List D)
  | []=>[]
  | x::l=>fZ x::aAg l
def aCt:List bR→List (List D)
  | []=>[]
  | x::l=>eP x::aCt l
end
theorem U3:∀ l:List aA,A7 l=l.map bN
  | []=>by simp only [A7,List.map_nil]
  | x::l=>by simp only [A7,List.map_cons,U3 l]
theorem M9:∀ l:List bV,aC3 l=l.map eG
  | []=>by simp only [aC3,List.map_nil]
  | x::l=>by simp only [aC3,List.map_cons,M9 l]
theorem Q3:∀ l:List aY,aCs l=l.map iI
  | []=>by simp only [aCs,List.map_nil]
  | x::l=>by simp only [aCs,List.map_cons,Q3 l]
theorem U0:∀ l:List eB,aAg l=l.map fZ
  | []=>by simp only [aAg,List.map_nil]
  | x::l=>by simp only [aAg,List.map_cons,U0 l]
theorem U7:∀ l:List bR,aCt l=l.map eP
  | []=>by simp only [aCt,List.map_nil]
  | x::l=>by simp only [aCt,List.map_cons,U7 l]
def gK (x:aA):List D:=[(.i .i64 x.kind),(.i .i64 x.op),(.b x.not_),(.i .i64 x.value.kind),(.i .i64 x.value.num),(.s (bs x.value.text)),(.s (bs x.qual)),(.s (bs x.name)),(.sl 10 (x.kids.map bN)),(.sl 6 (x.sub.map iI))]
def oZ (x:bV):List D:=[(.b x.star),(.s (bs x.qual)),(.i .i64 x.expr.kind),(.i .i64 x.expr.op),(.b x.expr.not_),(.i .i64 x.expr.value.kind),(.i .i64 x.expr.value.num),(.s (bs x.expr.value.text)),(.s (bs x.expr.qual)),(.s (bs x.expr.name)),(.sl 10 (x.expr.kids.map bN)),(.sl 6 (x.expr.sub.map iI)),(.s (bs x.as_))]
def qG (x:aY):List D:=[(.b x.distinct),(.sl 13 (x.items.map eG)),(.sl 3 (x.from_.map eP)),(.sl 10 (x.where_.map bN)),(.sl 11 (x.order.map fZ)),(.i .i64 x.limit)]
def qV (x:eB):List D:=[(.i .i64 x.expr.kind),(.i .i64 x.expr.op),(.b x.expr.not_),(.i .i64 x.expr.value.kind),(.i .i64 x.expr.value.num),(.s (bs x.expr.value.text)),(.s (bs x.expr.qual)),(.s (bs x.expr.name)),(.sl 10 (x.expr.kids.map bN)),(.sl 6 (x.expr.sub.map iI)),(.b x.desc)]
def qF (x:bR):List D:=[(.s (bs x.table)),(.s (bs x.as_)),(.sl 10 (x.on_.map bN))]
theorem gN (x:aA):bN x=gK x:=by
  obtain ⟨a0,a1,a2,a3,a4,a5,a6,a7⟩:=x
  simp only [bN,gK,U3,M9,Q3,U0,U7,List.cons_append,List.nil_append,aAd]
theorem vK (x:bV):eG x=oZ x:=by
  obtain ⟨a0,a1,a2,a3⟩:=x
  simp only [eG,oZ,U3,M9,Q3,U0,U7,gN,gK,List.cons_append,List.nil_append]
theorem wY (x:aY):iI x=qG x:=by
  obtain ⟨a0,a1,a2,a3,a4,a5⟩:=x
  simp only [iI,qG,U3,M9,Q3,U0,U7,List.cons_append,List.nil_append]
theorem F6 (x:eB):fZ x=qV x:=by
  obtain ⟨a0,a1⟩:=x
  simp only [fZ,qV,U3,M9,Q3,U0,U7,gN,gK,List.cons_append,List.nil_append]
theorem wO (x:bR):eP x=qF x:=by
  obtain ⟨a0,a1,a2⟩:=x
  simp only [eP,qF,U3,M9,Q3,U0,U7,List.cons_append,List.nil_append]
def bX (x:aA):V:=.agg (gK x)
def fK (x:aA):List V:=(gK x).map V.d
def qY (x:bV):V:=.agg (oZ x)
def aAe (x:bV):List V:=(oZ x).map V.d
def mU (x:aY):V:=.agg (qG x)
def L6 (x:aY):List V:=(qG x).map V.d
def xL (x:eB):V:=.agg (qV x)
def bR1 (x:eB):List V:=(qV x).map V.d
def aEw (x:bR):V:=.agg (qF x)
def aMw (x:bR):List V:=(qF x).map V.d
def aIn (x:aP):List D:=[(.sl 3 (x.list.map aV)),(.i .i64 x.at_),(.b x.failed)]
def bW2 (x:aP):V:=.agg (aIn x)
def bA (x:aP):List V:=(aIn x).map V.d
def aM2 (x:aQ):List D:=[(.sl 1 (x.b.map cU8)),(.i .i64 x.i),(.i .i64 x.h)]
def bTw (x:aQ):V:=.agg (aM2 x)
def dC (x:aQ):List V:=(aM2 x).map V.d
def aIp (x:aU):List D:=[(.sl 3 (x.t.map aV)),(.i .i64 x.at_),(.b x.bad)]
def bUw (x:aU):V:=.agg (aIp x)
def bU (x:aU):List V:=(aIp x).map V.d
instance:Enc aJ:=⟨aV,aV,(fun _=>rfl)⟩
instance:Enc (List UInt8):=⟨cStr,cStr,(fun _=>rfl)⟩
instance:Enc aY:=⟨iI,qG,wY⟩
instance:Enc aA:=⟨bN,gK,gN⟩
instance:Enc bV:=⟨eG,oZ,vK⟩
instance:Enc eB:=⟨fZ,qV,F6⟩
instance:Enc bR:=⟨eP,qF,wO⟩
theorem kr {p:Prop} (h:p:=by kernel_rfl):p:=h
def jB (l:List Int):V:=.d (.sl 1 (l.map cI))
def I6 (l:List (List UInt8)):V:=.d (.sl 1 (l.map cStr))
def sN (l:List Int):V:=.d (.sl 1 (l.map cU8))
def iU (l:List aJ):V:=.d (.sl 3 (l.map aV))
def zJ (l:List bR):V:=.d (.sl 3 (l.map eP))
def aJt (l:List aA):V:=.d (.sl 10 (l.map bN))
def aX:V:=(.d (.s (bs [])))
def aR:V:=(.d (.i .i64 0))
def eH:V:=(.d (.b false))
def fD:List V:=[aR,aR,eH,aR,aR,aX,aX,aX,(.nil 10),(.nil 6)]
def uG:List V:=[eH,(.nil 13),(.nil 3),(.nil 10),(.nil 11),aR]
def aFe:List V:=[eH,aX,aR,aR,eH,aR,aR,aX,aX,aX,(.nil 10),(.nil 6),aX]
def aMp:List V:=[aR,aR,eH,aR,aR,aX,aX,aX,(.nil 10),(.nil 6),eH]
def bAy:AC:=(.seq (.ops [.asg 2 (kB false)]) (.seq (.seq (.ops [.mv 6 0,.call (some 7) 4 [6]]) (.cond 7 (.seq (.ops [.asg 2 (kB true)]) .ret) .skip)) (.seq (.ops [.mv 8 0,.call (some 9) 5 [8],.asg 3 9]) (.seq (.ops [.mv 10 3,.call (some 11) 6 [10],.asg 4 11]) (.seq (.seq (.ops [.mv 12 4,.mv 13 3,.call (some 14) 7 [13],.eqb 15 true 12 14]) (.cond 15 (.seq (.ops [.asg 2 (kB false)]) .ret) .skip)) (.seq (.ops [.mv 16 0,.call (some 17) 8 [16,(kI 3)],.mv 18 3,.len 19 18,.bin 20 .add 19 (kI 1),.bin 21 .rem 17 20,.asg 5 21]) (.seq (.ops [.mv 22 4,.not 23 22,.mv 24 23,.g 24 false (.mv 25 3),.g 24 false (.mv 26 5),.g 24 false (.slc 27 3 25 none (some 26) none),.g 24 false (.call (some 28) 6 [27]),.pick 29 24 (kB true) 28,.asg 2 29]) .ret)))))))
theorem bSq:bP Tryz.prog 3=some (bAy,[.mv 0 2],30):=by kernel_rfl
def bUr (r:Bool):Exit→St→Prop:=bM [.mv 0 2] fun x _=>x=(fun y=>(vB y)) r
def bKm:AC:=(.seq (.ops [.asg 2 (kB false)]) (.seq (.ops [.mv 3 0,.len 4 3,.bin 5 .gtr 4 (kI 1048576),.asg 2 5]) .ret))
theorem bAb:bP Tryz.prog 4=some (bKm,[.mv 0 2],6):=by kernel_rfl
def bWn (r:Bool):Exit→St→Prop:=bM [.mv 0 2] fun x _=>x=(fun y=>(vB y)) r
def aZi:AC:=(.seq (.ops [.asg 2 (kB false)]) (.seq (.ops [.mv 6 0,.call (some 7) 14 [6],.mv 5 7,.ext 8 5 0,.ext 9 5 1,.alc 3 fD,.st 10 3 8,.asg 4 9]) (.seq (.ops [.mv 10 4,.bin 11 .lss 10 (kI 0),.mv 12 11,.g 12 false (.mv 13 4),.g 12 false (.mv 14 0),.g 12 false (.len 15 14),.g 12 false (.bin 16 .eql 13 15),.pick 17 12 (kB true) 16,.asg 2 17]) .ret)))
theorem bGu:bP Tryz.prog 6=some (aZi,[.mv 0 2],18):=by kernel_rfl
def bXb (r:Bool):Exit→St→Prop:=bM [.mv 0 2] fun x _=>x=(fun y=>(vB y)) r
def bEo:AC:=(.seq (.ops [.alc 2 fD,.asg 3 (kI 0)]) (.seq (.ops [.mv 7 0,.bld 8 [(.nil 3),aR,eH] [(0,1,7)],.box 9 62 8,.asg 4 9]) (.seq (.ops [.mv 10 4,.call (some 11) 29 [10],.alc 5 fD,.st 10 5 11]) (.seq (.seq (.ops [.mv 12 4,.call (some 13) 30 [12],.asg 6 13]) (.seq (.ops [.mv 14 6,.bin 15 .geq 14 (kI 0)]) (.cond 15 (.seq (.ops [.bld 16 [aR,aR,eH,aR,aR,aX,aX,aX,(.nil 10),(.nil 6)] [],.mv 17 6,.st 10 2 16,.asg 3 17]) .ret) .skip))) (.seq (.ops [.ld 18 10 true 5,.st 10 2 18,.asg 3 (kI (-1))]) .ret)))))
theorem aZ8:bP Tryz.prog 14=some (bEo,[.ld 0 10 true 2,.mv 0 3],19):=by kernel_rfl
def bTs (r:aA×Int):Exit→St→Prop:=bM [.ld 0 10 true 2,.mv 0 3] fun x _=>x=(fun y=>(.tup [(bX y.1),(vI y.2)])) r
def bG4:AC:=(.seq (.ops [.alc 2 fD]) (.seq (.ops [.mv 3 0,.mv 4 0,.mkf 5 1000049 [4],.bsl 6 3 1 [(kI 1)],.call (some 7) 48 [3,5,6],.st 10 2 7]) .ret))
theorem bE9:bP Tryz.prog 29=some (bG4,[.ld 0 10 true 2],8):=by kernel_rfl
def bW6 (r:aA×aP):Exit→St→Prop:=bM [.ld 0 10 true 2] fun x b=>x=(fun (y:aA×aP)=>(bX y.1)) r∧bI ((fun (y:aA×aP)=>[(1000000,bA y.2)]) r) b
def aIt:AC:=(.loop (.block 1 (.seq (.ops [.mv 11 0,.mv 12 2,.call (some 13) 65 [11,12],.asg 8 13]) (.seq (.seq (.ops [.mv 14 8,.bin 15 .eql 14 (kI 0)]) (.cond 15 (.seq (.ops [.ld 16 10 true 7,.st 10 6 16]) .ret) .skip)) (.dops [[],[],[],[2],[0,1,3,3],[4,4,0,1,2,3,4]] [.mv 17 8,.ld 18 10 true 7,.mv 19 1,.callv (some 20) 19 [],.call (some 21) 66 [17,18,20],.st 10 7 21])))))
def bOk:AC:=(.seq (.ops [.alc 6 fD]) (.seq (.ops [.mv 9 1,.callv (some 10) 9 [],.alc 7 fD,.st 10 7 10]) (.block 0 aIt)))
theorem bCu:bP Tryz.prog 48=some (bOk,[.ld 0 10 true 6],22):=by kernel_rfl
def bQk (r:aA×aP):Exit→St→Prop:=bM [.ld 0 10 true 6] fun x b=>x=(fun (y:aA×aP)=>(bX y.1)) r∧bI ((fun (y:aA×aP)=>[(1000000,bA y.2)]) r) b
def bEb (r:aA×aP):Exit→St→Prop:=(eY 0 (bQk r))
def bPq (p2:List Int) (dF:Int) (dJ:Int) (dW:Bool) (dN:Int) (dR:Int) (bH:(List UInt8)×(List UInt8)×(List UInt8)×(List aA)×(List aY)×(List aJ)×Int×Bool):St:=⟨[(0,(.ptr 1000000 0)),(1,(.fn 1000049 [(.ptr 1000000 0)])),(2,(jB p2)),(6,(.ptr 6 0)),(7,(.ptr 7 0))],[(6,[(vI 0),(vI 0),(vB false),(vI 0),(vI 0),(vS []),(vS []),(vS []),(.nil 10),(.nil 6)]),(7,fK (aA.mk dF dJ dW (bJ.mk dN dR bH.1) bH.2.1 bH.2.2.1 bH.2.2.2.1 bH.2.2.2.2.1)),(1000000,bA (aP.mk bH.2.2.2.2.2.1 bH.2.2.2.2.2.2.1 bH.2.2.2.2.2.2.2))]⟩
abbrev aEz:=fun p2 dF dJ dW dN dR bH r=>avc Tryz.prog aIt (bEb r) (bPq p2 dF dJ dW dN dR bH)
def aMm:AC:=(.seq (.ops [.mv 20 0,.mv 21 7,.mv 22 6,.call (some 23) 79 [22],.call (some 24) 78 [20,(kI 0),21,23]]) (.cond 24 (.seq (.ops [.mv 25 0,.nck 26 25,.fa 27 1 26,.ld 28 1 false 27,.bin 29 .add 28 (kI 1),.nck 30 25,.fa 31 1 30,.st 1 31 29]) (.seq (.ops [.mv 32 6,.asg 4 32]) .ret)) .skip))
def aW7:AC:=(.ops [.bin 33 .add 10 (kI 1),.mv 10 33])
def aGg:AC:=(.loop (.seq (.ops [.bin 11 .lss 10 9]) (.seq (.cond 11 .skip (.exit 0)) (.seq (.block 1 (.seq (.ops [.ia 12 1 8 10,.ld 13 1 false 12,.asg 6 13]) (.seq (.ops [.asg 7 (kI 5)]) (.seq (.seq (.ops [.mv 14 6,.bin 15 .eql 14 (kI 1),.mv 16 15,.g 16 false (.mv 17 6),.g 16 false (.bin 18 .eql 17 (kI 2)),.pick 19 16 (kB true) 18]) (.cond 19 (.ops [.asg 7 (kI 1)]) .skip)) aMm)))) aW7))))
def aQ9:AC:=(.seq (.ops [.asg 4 (kI 0)]) .ret)
def bQ0:AC:=(.seq (.ops [.asg 4 (kI 0)]) (.seq (.seq (.ops [.mv 8 1,.len 9 8,.mv 10 (kI 0)]) (.block 0 aGg)) aQ9))
theorem bGj:bP Tryz.prog 65=some (bQ0,[.mv 0 4],34):=by kernel_rfl
def aQm (r:Int×aP):Exit→St→Prop:=bM [.mv 0 4] fun x b=>x=(fun (y:Int×aP)=>(vI y.1)) r∧bI ((fun (y:Int×aP)=>[(1000000,bA y.2)]) r) b
def bO1 (r:Int×aP):Exit→St→Prop:=(eU (wkK (avc Tryz.prog aQ9 (aQm r))) (aQm r))
def aLz (r:Int×aP):Exit→St→Prop:=(eY 0 (bO1 r))
def aXn (r:Int×aP):Exit→St→Prop:=(eU (avc Tryz.prog aGg (aLz r)) (aLz r))
def bKk (r:Int×aP):Exit→St→Prop:=(eU (wkK (avc Tryz.prog aW7 (aXn r))) (aXn r))
def bHg (r:Int×aP):Exit→St→Prop:=(eY 1 (bKk r))
def bAe (p1:List Int) (p0:aP) (x10:Int):St:=⟨[(0,(.ptr 1000000 0)),(8,(jB p1)),(9,(vI (p1.length:Int))),(10,(vI x10))],[(1000000,bA p0)]⟩
abbrev aDg:=fun p1 p0 x10 r=>avc Tryz.prog aGg (aLz r) (bAe p1 p0 x10)
def bOn (y1:Int) (p1:List Int) (x10:Int) (p0:aP) (x7:Int):St:=⟨[(0,(.ptr 1000000 0)),(6,(vI y1)),(7,(vI x7)),(8,(jB p1)),(9,(vI (p1.length:Int))),(10,(vI x10))],[(1000000,bA p0)]⟩
abbrev aFh:=fun y1 p1 x10 p0 x7 r=>avc Tryz.prog aMm (bHg r) (bOn y1 p1 x10 p0 x7)
def bOe:AC:=(.seq (.ops [.asg 8 (kB false)]) (.seq (.ops [.mv 10 0,.nck 11 10,.fa 12 1 11,.ld 13 1 false 12,.mv 14 1,.bin 15 .add 13 14,.asg 9 15]) (.seq (.ops [.mv 16 0,.nck 17 16,.fa 18 2 17,.ld 19 1 false 18,.not 20 19,.mv 21 20,.g 21 true (.mv 22 9),.g 21 true (.mv 23 0),.g 21 true (.nck 24 23),.g 21 true (.fa 25 0 24),.g 21 true (.ld 26 1 false 25),.g 21 true (.len 27 26),.g 21 true (.bin 28 .lss 22 27),.pick 29 21 28 (kB false),.mv 30 29,.g 30 true (.mv 31 0),.g 30 true (.nck 32 31),.g 30 true (.fa 33 0 32),.g 30 true (.ld 34 1 false 33),.g 30 true (.mv 35 9),.g 30 true (.ia 36 3 34 35),.g 30 true (.fa 37 0 36),.g 30 true (.ld 38 1 false 37),.g 30 true (.mv 39 2),.g 30 true (.bin 40 .eql 38 39),.pick 41 30 40 (kB false),.mv 42 41,.g 42 true (.mv 43 0),.g 42 true (.nck 44 43),.g 42 true (.fa 45 0 44),.g 42 true (.ld 46 1 false 45),.g 42 true (.mv 47 9),.g 42 true (.ia 48 3 46 47),.g 42 true (.fa 49 1 48),.g 42 true (.ld 50 1 false 49),.g 42 true (.mv 51 3),.g 42 true (.bin 52 .eql 50 51),.pick 53 42 52 (kB false),.asg 8 53]) .ret)))
theorem bEt:bP Tryz.prog 78=some (bOe,[.mv 0 8],54):=by kernel_rfl
def bX9 (p0:aP) (r:Bool):Exit→St→Prop:=bM [.mv 0 8] fun x b=>x=(fun (y:Bool)=>(vB y)) r∧bI ((fun (y:Bool)=>[(1000000,bA p0)]) r) b
def bE2:AC:=(.seq (.ops [.asg 2 (.c (.d (.s (bs []))))]) (.seq (.seq (.ops [.mv 3 0,.bin 4 .lss 3 (kI 1),.mv 5 4,.g 5 false (.mv 6 0),.g 5 false (.bin 7 .gtr 6 (kI 16)),.pick 8 5 (kB true) 7]) (.cond 8 (.seq (.ops [.asg 2 (.c (.d (.s (bs []))))]) .ret) .skip)) (.seq (.ops [.bsl 9 9 1 [(.c (.d (.s (bs [79,82])))),(.c (.d (.s (bs [65,78,68])))),(.c (.d (.s (bs [61])))),(.c (.d (.s (bs [60,62])))),(.c (.d (.s (bs [60])))),(.c (.d (.s (bs [60,61])))),(.c (.d (.s (bs [62])))),(.c (.d (.s (bs [62,61])))),(.c (.d (.s (bs [124,124])))),(.c (.d (.s (bs [43])))),(.c (.d (.s (bs [45])))),(.c (.d (.s (bs [42])))),(.c (.d (.s (bs [47])))),(.c (.d (.s (bs [37])))),(.c (.d (.s (bs [78,79,84])))),(.c (.d (.s (bs [45]))))],.mv 10 0,.bin 11 .sub 10 (kI 1),.ia 12 1 9 11,.ld 13 1 false 12,.asg 2 13]) .ret)))
theorem bE7:bP Tryz.prog 79=some (bE2,[.mv 0 2],14):=by kernel_rfl
def bTi (r:List UInt8):Exit→St→Prop:=bM [.mv 0 2] fun x _=>x=(fun y=>(vS y)) r
def bRl:AC:=(.seq (.ops [.box 4 34 1,.box 5 34 2,.alc 6 fD]) (.seq (.ops [.mv 7 0,.ld 8 10 true 4,.ld 9 10 true 5,.bsl 10 34 10 [8,9],.bld 11 [aR,aR,eH,aR,aR,aX,aX,aX,(.nil 10),(.nil 6)] [(0,1,(kI 4)),(1,1,7),(8,1,10)],.st 10 6 11]) .ret))
theorem bCl:bP Tryz.prog 66=some (bRl,[.ld 0 10 true 6],12):=by kernel_rfl
def bUh (r:aA):Exit→St→Prop:=bM [.ld 0 10 true 6] fun x _=>x=(fun y=>(bX y)) r
def bAh:AC:=(.seq (.ops [.alc 2 fD]) (.seq (.ops [.mv 3 0,.mv 4 0,.mkf 5 1000067 [4],.bsl 6 3 1 [(kI 2)],.call (some 7) 48 [3,5,6],.st 10 2 7]) .ret))
theorem bHk:bP Tryz.prog 49=some (bAh,[.ld 0 10 true 2],8):=by kernel_rfl
def bV1 (r:aA×aP):Exit→St→Prop:=bM [.ld 0 10 true 2] fun x b=>x=(fun (y:aA×aP)=>(bX y.1)) r∧bI ((fun (y:aA×aP)=>[(1000000,bA y.2)]) r) b
def aMa:AC:=(.loop (.block 1 (.seq (.ops [.mv 11 0,.mv 12 2,.call (some 13) 65 [11,12],.asg 8 13]) (.seq (.seq (.ops [.mv 14 8,.bin 15 .eql 14 (kI 0)]) (.cond 15 (.seq (.ops [.ld 16 10 true 7,.st 10 6 16]) .ret) .skip)) (.dops [[],[],[],[2],[0,1,3,3],[4,4,0,1,2,3,4]] [.mv 17 8,.ld 18 10 true 7,.mv 19 1,.callv (some 20) 19 [],.call (some 21) 66 [17,18,20],.st 10 7 21])))))
def bFs:AC:=(.seq (.ops [.alc 6 fD]) (.seq (.ops [.mv 9 1,.callv (some 10) 9 [],.alc 7 fD,.st 10 7 10]) (.block 0 aMa)))
theorem bO4:bP Tryz.prog 48=some (bFs,[.ld 0 10 true 6],22):=by kernel_rfl
def bMx (r:aA×aP):Exit→St→Prop:=bM [.ld 0 10 true 6] fun x b=>x=(fun (y:aA×aP)=>(bX y.1)) r∧bI ((fun (y:aA×aP)=>[(1000000,bA y.2)]) r) b
def bCp (r:aA×aP):Exit→St→Prop:=(eY 0 (bMx r))
def bL6 (p2:List Int) (dF:Int) (dJ:Int) (dW:Bool) (dN:Int) (dR:Int) (bH:(List UInt8)×(List UInt8)×(List UInt8)×(List aA)×(List aY)×(List aJ)×Int×Bool):St:=⟨[(0,(.ptr 1000000 0)),(1,(.fn 1000067 [(.ptr 1000000 0)])),(2,(jB p2)),(6,(.ptr 6 0)),(7,(.ptr 7 0))],[(6,[(vI 0),(vI 0),(vB false),(vI 0),(vI 0),(vS []),(vS []),(vS []),(.nil 10),(.nil 6)]),(7,fK (aA.mk dF dJ dW (bJ.mk dN dR bH.1) bH.2.1 bH.2.2.1 bH.2.2.2.1 bH.2.2.2.2.1)),(1000000,bA (aP.mk bH.2.2.2.2.2.1 bH.2.2.2.2.2.2.1 bH.2.2.2.2.2.2.2))]⟩
abbrev aE0:=fun p2 dF dJ dW dN dR bH r=>avc Tryz.prog aMa (bCp r) (bL6 p2 dF dJ dW dN dR bH)
def bA0:AC:=(.seq (.ops [.alc 2 fD]) (.seq (.seq (.ops [.mv 3 0,.call (some 4) 80 [3,(.c (.d (.s (bs [78,79,84]))))]]) (.cond 4 (.seq (.ops [.mv 5 0,.call (some 6) 67 [5],.bsl 7 34 10 [6],.bld 8 [aR,aR,eH,aR,aR,aX,aX,aX,(.nil 10),(.nil 6)] [(0,1,(kI 3)),(1,1,(kI 15)),(8,1,7)],.st 10 2 8]) .ret) .skip)) (.seq (.ops [.mv 9 0,.call (some 10) 81 [9],.st 10 2 10]) .ret)))
theorem bNl:bP Tryz.prog 67=some (bA0,[.ld 0 10 true 2],11):=by kernel_rfl
def bU3 (r:aA×aP):Exit→St→Prop:=bM [.ld 0 10 true 2] fun x b=>x=(fun (y:aA×aP)=>(bX y.1)) r∧bI ((fun (y:aA×aP)=>[(1000000,bA y.2)]) r) b
def aN6:AC:=(.seq (.ops [.mv 17 5,.asg 4 17]) .ret)
def bA4:AC:=(.seq (.ops [.asg 4 (kB false)]) (.seq (.ops [.mv 6 0,.mv 7 1,.call (some 8) 87 [6,7],.asg 5 8]) (.seq (.seq (.ops [.mv 9 5]) (.cond 9 (.ops [.mv 10 0,.nck 11 10,.fa 12 1 11,.ld 13 1 false 12,.bin 14 .add 13 (kI 1),.nck 15 10,.fa 16 1 15,.st 1 16 14]) .skip)) aN6)))
theorem bG1:bP Tryz.prog 80=some (bA4,[.mv 0 4],18):=by kernel_rfl
def bOz (r:Bool×aP):Exit→St→Prop:=bM [.mv 0 4] fun x b=>x=(fun (y:Bool×aP)=>(vB y.1)) r∧bI ((fun (y:Bool×aP)=>[(1000000,bA y.2)]) r) b
def bJi (y1:Bool) (p0:aP) (bC:Int):St:=⟨[(5,(vB y1))],[(1000000,bA (aP.mk p0.list bC p0.failed))]⟩
abbrev aSg:=fun y1 p0 bC r=>avc Tryz.prog aN6 (bOz r) (bJi y1 p0 bC)
def bEc:AC:=(.seq (.ops [.asg 4 (kB false)]) (.seq (.ops [.mv 5 0,.mv 6 1,.call (some 7) 78 [5,(kI 0),(kI 1),6],.asg 4 7]) .ret))
theorem bEn:bP Tryz.prog 87=some (bEc,[.mv 0 4],8):=by kernel_rfl
def bUi (p0:aP) (r:Bool):Exit→St→Prop:=bM [.mv 0 4] fun x b=>x=(fun (y:Bool)=>(vB y)) r∧bI ((fun (y:Bool)=>[(1000000,bA p0)]) r) b
def aZl:AC:=(.seq (.ops [.alc 2 fD]) (.seq (.ops [.mv 8 0,.call (some 9) 88 [8],.alc 3 fD,.st 10 3 9]) (.seq (.seq (.ops [.mv 10 0,.bsl 11 3 1 [(kI 3),(kI 4),(kI 5),(kI 6),(kI 7),(kI 8)],.call (some 12) 65 [10,11],.asg 4 12]) (.seq (.ops [.mv 13 4,.bin 14 .neq 13 (kI 0)]) (.cond 14 (.seq (.dops [[],[],[],[2],[0,1,3,3],[4,4,0,1,2,3,4]] [.mv 15 4,.ld 16 10 true 3,.mv 17 0,.call (some 18) 88 [17],.call (some 19) 66 [15,16,18],.st 10 2 19]) .ret) .skip))) (.seq (.seq (.ops [.mv 20 0,.call (some 21) 80 [20,(.c (.d (.s (bs [73,83]))))]]) (.cond 21 (.seq (.ops [.mv 22 0,.call (some 23) 80 [22,(.c (.d (.s (bs [78,79,84]))))],.asg 5 23]) (.seq (.ops [.mv 24 0,.call (some 25) 89 [24,(.c (.d (.s (bs [78,85,76,76]))))]]) (.seq (.ops [.mv 26 5,.ld 27 10 true 3,.bsl 28 34 10 [27],.bld 29 [aR,aR,eH,aR,aR,aX,aX,aX,(.nil 10),(.nil 6)] [(0,1,(kI 5)),(2,1,26),(8,1,28)],.st 10 2 29]) .ret))) .skip)) (.seq (.ops [.mv 30 0,.call (some 31) 80 [30,(.c (.d (.s (bs [78,79,84]))))],.asg 6 31]) (.seq (.block 0 (.seq (.ops [.mv 33 0,.call (some 34) 80 [33,(.c (.d (.s (bs [66,69,84,87,69,69,78]))))],.asg 32 34]) (.cond 32 (.seq (.ops [.mv 35 0,.call (some 36) 88 [35],.alc 7 fD,.st 10 7 36]) (.seq (.ops [.mv 37 0,.call (some 38) 89 [37,(.c (.d (.s (bs [65,78,68]))))]]) (.seq (.dops [[],[],[],[],[3],[1,2,4],[0,5],[6,4,0,1,2,3,4,5,6]] [.mv 39 6,.ld 40 10 true 3,.ld 41 10 true 7,.mv 42 0,.call (some 43) 88 [42],.bsl 44 34 10 [40,41,43],.bld 45 [aR,aR,eH,aR,aR,aX,aX,aX,(.nil 10),(.nil 6)] [(0,1,(kI 6)),(2,1,39),(8,1,44)],.st 10 2 45]) .ret))) (.seq (.ops [.mv 47 0,.call (some 48) 80 [47,(.c (.d (.s (bs [73,78]))))],.asg 46 48]) (.cond 46 (.seq (.ops [.mv 49 0,.ld 50 10 true 3,.mv 51 6,.call (some 52) 90 [49,50,51],.st 10 2 52]) .ret) .skip))))) (.seq (.ops [.mv 53 0,.mv 54 0,.nck 55 54,.fa 56 2 55,.ld 57 1 false 56,.mv 58 57,.g 58 false (.mv 59 6),.pick 60 58 (kB true) 59,.nck 61 53,.fa 62 2 61,.st 1 62 60]) (.seq (.ops [.ld 63 10 true 3,.st 10 2 63]) .ret))))))))
theorem bRt:bP Tryz.prog 81=some (aZl,[.ld 0 10 true 2],64):=by kernel_rfl
def bTz (r:aA×aP):Exit→St→Prop:=bM [.ld 0 10 true 2] fun x b=>x=(fun (y:aA×aP)=>(bX y.1)) r∧bI ((fun (y:aA×aP)=>[(1000000,bA y.2)]) r) b
def aJ8:AC:=(.seq (.ops [.mv 27 0,.call (some 28) 97 [27,(.c (.d (.s (bs [41]))))]]) (.seq (.ops [.ld 29 10 true 7,.st 10 6 29]) .ret))
def bSn:AC:=(.seq (.ops [.box 4 34 1,.alc 6 fD]) (.seq (.ops [.mv 8 0,.call (some 9) 97 [8,(.c (.d (.s (bs [40]))))]]) (.seq (.ops [.mv 10 2,.ld 11 10 true 4,.bsl 12 34 10 [11],.bld 13 [aR,aR,eH,aR,aR,aX,aX,aX,(.nil 10),(.nil 6)] [(0,1,(kI 7)),(2,1,10),(8,1,12)],.alc 7 fD,.st 10 7 13]) (.seq (.seq (.ops [.mv 14 0,.call (some 15) 87 [14,(.c (.d (.s (bs [83,69,76,69,67,84]))))]]) (.cond 15 (.ops [.mv 16 0,.call (some 17) 98 [16],.bsl 18 57 6 [17],.fa 19 0 7,.st 1 19 (kI 8),.fa 20 9 7,.st 1 20 18]) (.dops [[],[0],[],[2],[1,3,3],[0,1,2,3,4],[5,4,4,0,1,2,3,4]] [.fa 21 8 7,.ld 22 1 false 21,.mv 23 0,.call (some 24) 99 [23],.app 25 34 10 136 22 24,.fa 26 8 7,.st 1 26 25]))) aJ8))))
theorem bQr:bP Tryz.prog 90=some (bSn,[.ld 0 10 true 6],30):=by kernel_rfl
def bJ5 (r:aA×aP):Exit→St→Prop:=bM [.ld 0 10 true 6] fun x b=>x=(fun (y:aA×aP)=>(bX y.1)) r∧bI ((fun (y:aA×aP)=>[(1000000,bA y.2)]) r) b
def bG9 (p2:Bool) (dF:Int) (vY:List aA) (wX:List aY) (bD:List aJ) (bC:Int) (bF:Bool):St:=⟨[(0,(.ptr 1000000 0)),(6,(.ptr 6 0)),(7,(.ptr 7 0))],[(6,[(vI 0),(vI 0),(vB false),(vI 0),(vI 0),(vS []),(vS []),(vS []),(.nil 10),(.nil 6)]),(7,[(vI dF),(vI 0),(vB p2),(vI 0),(vI 0),(vS []),(vS []),(vS []),(.osl 12 34 10 (vY.map bN)),(.osl 18 57 6 (wX.map iI))]),(1000000,bA (aP.mk bD bC bF))]⟩
abbrev aW5:=fun p2 dF vY wX bD bC bF r=>avc Tryz.prog aJ8 (bJ5 r) (bG9 p2 dF vY wX bD bC bF)
def aYk:AC:=(.seq (.ops [.mv 4 0,.mv 5 1,.call (some 6) 101 [4,5],.not 7 6]) (.cond 7 (.ops [.mv 8 0,.nck 9 8,.fa 10 2 9,.st 1 10 (kB true)]) .skip))
theorem bGa:bP Tryz.prog 97=some (aYk,[],11):=by kernel_rfl
def bW9 (r:aP):Exit→St→Prop:=bM [] fun x b=>x=(fun (y:aP)=>(.tup [])) r∧bI ((fun (y:aP)=>[(1000000,bA y)]) r) b
def aKj:AC:=(.seq (.ops [.mv 17 5,.asg 4 17]) .ret)
def aYp:AC:=(.seq (.ops [.asg 4 (kB false)]) (.seq (.ops [.mv 6 0,.mv 7 1,.call (some 8) 108 [6,7],.asg 5 8]) (.seq (.seq (.ops [.mv 9 5]) (.cond 9 (.ops [.mv 10 0,.nck 11 10,.fa 12 1 11,.ld 13 1 false 12,.bin 14 .add 13 (kI 1),.nck 15 10,.fa 16 1 15,.st 1 16 14]) .skip)) aKj)))
theorem bMj:bP Tryz.prog 101=some (aYp,[.mv 0 4],18):=by kernel_rfl
def bJc (r:Bool×aP):Exit→St→Prop:=bM [.mv 0 4] fun x b=>x=(fun (y:Bool×aP)=>(vB y.1)) r∧bI ((fun (y:Bool×aP)=>[(1000000,bA y.2)]) r) b
def aYw (y1:Bool) (p0:aP) (bC:Int):St:=⟨[(5,(vB y1))],[(1000000,bA (aP.mk p0.list bC p0.failed))]⟩
abbrev aOo:=fun y1 p0 bC r=>avc Tryz.prog aKj (bJc r) (aYw y1 p0 bC)
def bHr:AC:=(.seq (.ops [.asg 4 (kB false)]) (.seq (.ops [.mv 5 0,.mv 6 1,.call (some 7) 78 [5,(kI 0),(kI 5),6],.asg 4 7]) .ret))
theorem bMz:bP Tryz.prog 108=some (bHr,[.mv 0 4],8):=by kernel_rfl
def bWy (p0:aP) (r:Bool):Exit→St→Prop:=bM [.mv 0 4] fun x b=>x=(fun (y:Bool)=>(vB y)) r∧bI ((fun (y:Bool)=>[(1000000,bA p0)]) r) b
def aKz:AC:=(.loop (.seq (.seq (.ops [.mv 7 0,.call (some 8) 101 [7,(.c (.d (.s (bs [44]))))]]) (.cond 8 .skip (.exit 0))) (.block 1 (.ops [.mv 9 3,.mv 10 0,.call (some 11) 29 [10],.bsl 12 34 10 [11],.app 13 34 10 136 9 12,.asg 3 13]))))
def aWi:AC:=(.seq (.ops [.mv 14 3,.asg 2 14]) .ret)
def bTd:AC:=(.seq (.ops [.asg 2 (.c (.nil 10))]) (.seq (.ops [.mv 4 0,.call (some 5) 29 [4],.bsl 6 34 10 [5],.asg 3 6]) (.seq (.block 0 aKz) aWi)))
theorem bSd:bP Tryz.prog 99=some (bTd,[.mv 0 2],15):=by kernel_rfl
def aV9 (r:(List aA)×aP):Exit→St→Prop:=bM [.mv 0 2] fun x b=>x=(fun (y:(List aA)×aP)=>(.osl 2000000 34 10 (y.1.map bN))) r∧bI ((fun (y:(List aA)×aP)=>[(1000000,bA y.2)]) r) b
def bGr (r:(List aA)×aP):Exit→St→Prop:=(eU (wkK (avc Tryz.prog aWi (aV9 r))) (aV9 r))
def bQb (r:(List aA)×aP):Exit→St→Prop:=(eY 0 (bGr r))
def bH0 (x3:List aA) (bD:List aJ) (bC:Int) (bF:Bool):St:=⟨[(0,(.ptr 1000000 0)),(3,(.osl 3 34 10 (x3.map bN)))],[(1000000,bA (aP.mk bD bC bF))]⟩
abbrev aDe:=fun x3 bD bC bF r=>avc Tryz.prog aKz (bQb r) (bH0 x3 bD bC bF)
def aK3:AC:=(.loop (.seq (.seq (.ops [.mv 13 0,.call (some 14) 101 [13,(.c (.d (.s (bs [44]))))]]) (.cond 14 .skip (.exit 0))) (.block 1 (.dops [[],[0],[],[2],[3],[1,4,3],[0,1,2,3,4,5],[6,5,5,0,1,2,3,4,5]] [.fa 15 1 3,.ld 16 1 false 15,.mv 17 0,.call (some 18) 102 [17],.bsl 19 83 13 [18],.app 20 83 13 176 16 19,.fa 21 1 3,.st 1 21 20]))))
def aJh:AC:=(.loop (.seq (.seq (.ops [.mv 38 0,.call (some 39) 101 [38,(.c (.d (.s (bs [44]))))]]) (.cond 39 .skip (.exit 2))) (.block 3 (.dops [[],[0],[],[2],[3],[1,4,3],[0,1,2,3,4,5],[6,5,5,0,1,2,3,4,5]] [.fa 40 4 3,.ld 41 1 false 40,.mv 42 0,.call (some 43) 105 [42],.bsl 44 87 11 [43],.app 45 87 11 144 41 44,.fa 46 4 3,.st 1 46 45]))))
def aN1:AC:=(.seq (.ops [.ld 52 6 true 3,.st 6 2 52]) .ret)
def aGe:AC:=(.seq (.seq (.ops [.mv 47 0,.call (some 48) 80 [47,(.c (.d (.s (bs [76,73,77,73,84]))))]]) (.cond 48 (.ops [.mv 49 0,.call (some 50) 106 [49],.fa 51 5 3,.st 1 51 50]) .skip)) aN1)
def aUq:AC:=(.seq (.ops [.mv 22 0,.call (some 23) 89 [22,(.c (.d (.s (bs [70,82,79,77]))))]]) (.seq (.ops [.mv 24 0,.call (some 25) 103 [24],.fa 26 2 3,.st 1 26 25]) (.seq (.ops [.mv 27 0,.call (some 28) 104 [27],.fa 29 3 3,.st 1 29 28]) (.seq (.seq (.ops [.mv 30 0,.call (some 31) 80 [30,(.c (.d (.s (bs [79,82,68,69,82]))))]]) (.cond 31 (.seq (.ops [.mv 32 0,.call (some 33) 89 [32,(.c (.d (.s (bs [66,89]))))]]) (.seq (.ops [.mv 34 0,.call (some 35) 105 [34],.bsl 36 87 11 [35],.fa 37 4 3,.st 1 37 36]) (.block 2 aJh))) .skip)) aGe))))
def bSw:AC:=(.seq (.ops [.alc 2 uG]) (.seq (.ops [.mv 4 0,.call (some 5) 89 [4,(.c (.d (.s (bs [83,69,76,69,67,84]))))]]) (.seq (.ops [.mv 6 0,.call (some 7) 80 [6,(.c (.d (.s (bs [68,73,83,84,73,78,67,84]))))],.bld 8 [eH,(.nil 13),(.nil 3),(.nil 10),(.nil 11),aR] [(0,1,7),(5,1,(kI (-1)))],.alc 3 uG,.st 6 3 8]) (.seq (.ops [.mv 9 0,.call (some 10) 102 [9],.bsl 11 83 13 [10],.fa 12 1 3,.st 1 12 11]) (.seq (.block 0 aK3) aUq)))))
theorem bK0:bP Tryz.prog 98=some (bSw,[.ld 0 6 true 2],53):=by kernel_rfl
def Y3 (r:aY×aP):Exit→St→Prop:=bM [.ld 0 6 true 2] fun x b=>x=(fun (y:aY×aP)=>(mU y.1)) r∧bI ((fun (y:aY×aP)=>[(1000000,bA y.2)]) r) b
def bP5 (r:aY×aP):Exit→St→Prop:=(eU (wkK (avc Tryz.prog aUq (Y3 r))) (Y3 r))
def bO8 (r:aY×aP):Exit→St→Prop:=(eY 0 (bP5 r))
def bK5 (r:aY×aP):Exit→St→Prop:=(eU (wkK (avc Tryz.prog aGe (Y3 r))) (Y3 r))
def bLl (r:aY×aP):Exit→St→Prop:=(eY 2 (bK5 r))
def aQq (y2:Bool×aP) (bG:List bV) (bD:List aJ) (bC:Int) (bF:Bool):St:=⟨[(0,(.ptr 1000000 0)),(2,(.ptr 2 0)),(3,(.ptr 3 0))],[(2,[(vB false),(.nil 13),(.nil 3),(.nil 10),(.nil 11),(vI 0)]),(3,[(vB y2.1),(.osl 11 83 13 (bG.map eG)),(.nil 3),(.nil 10),(.nil 11),(vI (-1))]),(1000000,bA (aP.mk bD bC bF))]⟩
abbrev aGk:=fun y2 bG bD bC bF r=>avc Tryz.prog aK3 (bO8 r) (aQq y2 bG bD bC bF)
def bOa (y2:Bool×aP) (bG:List bV) (y8:(List bR)×aP) (y9:(List aA)×aP) (gM:List eB) (nI:List aJ) (lJ:Int×Bool):St:=⟨[(0,(.ptr 1000000 0)),(2,(.ptr 2 0)),(3,(.ptr 3 0))],[(2,[(vB false),(.nil 13),(.nil 3),(.nil 10),(.nil 11),(vI 0)]),(3,[(vB y2.1),(.osl 11 83 13 (bG.map eG)),(.osl 25 97 3 (y8.1.map eP)),(.osl 28 34 10 (y9.1.map bN)),(.osl 36 87 11 (gM.map fZ)),(vI (-1))]),(1000000,bA (aP.mk nI lJ.1 lJ.2))]⟩
abbrev aH7:=fun y2 bG y8 y9 gM nI lJ r=>avc Tryz.prog aJh (bLl r) (bOa y2 bG y8 y9 gM nI lJ)
def aZy (y2:Bool×aP) (bG:List bV) (y8:(List bR)×aP) (y9:(List aA)×aP) (kE:List eB) (wQ:List aJ) (wU:Int) (wP:Bool):St:=⟨[(0,(.ptr 1000000 0)),(2,(.ptr 2 0)),(3,(.ptr 3 0))],[(2,[(vB false),(.nil 13),(.nil 3),(.nil 10),(.nil 11),(vI 0)]),(3,[(vB y2.1),(.osl 11 83 13 (bG.map eG)),(.osl 25 97 3 (y8.1.map eP)),(.osl 28 34 10 (y9.1.map bN)),(.osl 36 87 11 (kE.map fZ)),(vI (-1))]),(1000000,bA (aP.mk wQ wU wP))]⟩
abbrev aSo:=fun y2 bG y8 y9 kE wQ wU wP r=>avc Tryz.prog aGe (Y3 r) (aZy y2 bG y8 y9 kE wQ wU wP)
def bRa (y2:Bool×aP) (bG:List bV) (y8:(List bR)×aP) (y9:(List aA)×aP) (kE:List eB) (lK:Int) (yT:List aJ) (xC:Int) (wH:Bool):St:=⟨[(2,(.ptr 2 0)),(3,(.ptr 3 0))],[(2,[(vB false),(.nil 13),(.nil 3),(.nil 10),(.nil 11),(vI 0)]),(3,[(vB y2.1),(.osl 11 83 13 (bG.map eG)),(.osl 25 97 3 (y8.1.map eP)),(.osl 28 34 10 (y9.1.map bN)),(.osl 36 87 11 (kE.map fZ)),(vI lK)]),(1000000,bA (aP.mk yT xC wH))]⟩
abbrev aQs:=fun y2 bG y8 y9 kE lK yT xC wH r=>avc Tryz.prog aN1 (Y3 r) (bRa y2 bG y8 y9 kE lK yT xC wH)
def aNb:AC:=(.loop (.block 1 (.block 2 (.seq (.ops [.mv 10 0,.call (some 11) 101 [10,(.c (.d (.s (bs [44]))))],.asg 9 11]) (.cond 9 (.ops [.mv 12 3,.mv 13 0,.call (some 14) 112 [13],.bsl 15 97 3 [14],.app 16 97 3 56 12 15,.asg 3 16]) (.seq (.ops [.mv 18 0,.call (some 19) 80 [18,(.c (.d (.s (bs [74,79,73,78]))))],.asg 17 19]) (.cond 17 (.seq (.ops [.mv 20 0,.call (some 21) 112 [20],.alc 4 [aX,aX,(.nil 10)],.st 3 4 21]) (.seq (.ops [.mv 22 0,.call (some 23) 89 [22,(.c (.d (.s (bs [79,78]))))]]) (.seq (.ops [.mv 24 0,.call (some 25) 29 [24],.bsl 26 34 10 [25],.fa 27 2 4,.st 1 27 26]) (.ops [.mv 28 3,.ld 29 3 true 4,.bsl 30 97 3 [29],.app 31 97 3 56 28 30,.asg 3 31])))) (.seq (.ops [.mv 8 3,.asg 2 8]) .ret))))))))
def bCa:AC:=(.seq (.ops [.asg 2 (.c (.nil 3))]) (.seq (.ops [.mv 5 0,.call (some 6) 112 [5],.bsl 7 97 3 [6],.asg 3 7]) (.block 0 aNb)))
theorem bK3:bP Tryz.prog 103=some (bCa,[.mv 0 2],32):=by kernel_rfl
def bB3 (r:(List bR)×aP):Exit→St→Prop:=bM [.mv 0 2] fun x b=>x=(fun (y:(List bR)×aP)=>(.osl 2000000 97 3 (y.1.map eP))) r∧bI ((fun (y:(List bR)×aP)=>[(1000000,bA y.2)]) r) b
def bAc (r:(List bR)×aP):Exit→St→Prop:=(eY 0 (bB3 r))
def bL1 (x3:List bR) (bD:List aJ) (bC:Int) (bF:Bool):St:=⟨[(0,(.ptr 1000000 0)),(3,(.osl 3 97 3 (x3.map eP)))],[(1000000,bA (aP.mk bD bC bF))]⟩
abbrev aEk:=fun x3 bD bC bF r=>avc Tryz.prog aNb (bAc r) (bL1 x3 bD bC bF)
def bCv:AC:=(.seq (.ops [.alc 2 [aX,aX,(.nil 10)]]) (.seq (.ops [.mv 4 0,.call (some 5) 110 [4,(kI 2)],.asg 3 5]) (.seq (.ops [.mv 6 3,.mv 7 0,.call (some 8) 111 [7],.bld 9 [aX,aX,(.nil 10)] [(0,1,6),(1,1,8)],.st 3 2 9]) .ret)))
theorem bOi:bP Tryz.prog 112=some (bCv,[.ld 0 3 true 2],10):=by kernel_rfl
def bTm (r:bR×aP):Exit→St→Prop:=bM [.ld 0 3 true 2] fun x b=>x=(fun (y:bR×aP)=>(aEw y.1)) r∧bI ((fun (y:bR×aP)=>[(1000000,bA y.2)]) r) b
def bS0:AC:=(.seq (.ops [.asg 2 (.c (.d (.s (bs []))))]) (.seq (.seq (.ops [.mv 3 0,.call (some 4) 80 [3,(.c (.d (.s (bs [65,83]))))]]) (.cond 4 (.seq (.ops [.mv 5 0,.call (some 6) 110 [5,(kI 2)],.asg 2 6]) .ret) .skip)) (.seq (.ops [.asg 2 (.c (.d (.s (bs []))))]) .ret)))
theorem bSl:bP Tryz.prog 111=some (bS0,[.mv 0 2],7):=by kernel_rfl
def bTy (r:(List UInt8)×aP):Exit→St→Prop:=bM [.mv 0 2] fun x b=>x=(fun (y:(List UInt8)×aP)=>(vS y.1)) r∧bI ((fun (y:(List UInt8)×aP)=>[(1000000,bA y.2)]) r) b
def bIi:AC:=(.seq (.ops [.asg 4 (.c (.d (.s (bs []))))]) (.seq (.seq (.ops [.mv 5 0,.mv 6 1,.call (some 7) 109 [5,6],.not 8 7]) (.cond 8 (.seq (.ops [.mv 9 0,.nck 10 9,.fa 11 2 10,.st 1 11 (kB true)]) (.seq (.ops [.asg 4 (.c (.d (.s (bs []))))]) .ret)) .skip)) (.seq (.ops [.mv 12 0,.nck 13 12,.fa 14 1 13,.ld 15 1 false 14,.bin 16 .add 15 (kI 1),.nck 17 12,.fa 18 1 17,.st 1 18 16]) (.seq (.dops [[],[0],[1],[2],[],[4],[5],[6],[7],[3,8],[9],[10],[11,0,1,2,3,4,5,6,7,8,9,10,11]] [.mv 19 0,.nck 20 19,.fa 21 0 20,.ld 22 1 false 21,.mv 23 0,.nck 24 23,.fa 25 1 24,.ld 26 1 false 25,.bin 27 .sub 26 (kI 1),.ia 28 3 22 27,.fa 29 1 28,.ld 30 1 false 29,.asg 4 30]) .ret))))
theorem bOl:bP Tryz.prog 110=some (bIi,[.mv 0 4],31):=by kernel_rfl
def bUn (r:(List UInt8)×aP):Exit→St→Prop:=bM [.mv 0 4] fun x b=>x=(fun (y:(List UInt8)×aP)=>(vS y.1)) r∧bI ((fun (y:(List UInt8)×aP)=>[(1000000,bA y.2)]) r) b
def bKs:AC:=(.seq (.ops [.asg 4 (kB false)]) (.seq (.dops [[],[0],[1],[2],[3],[4],[5],[6,5],[7,5],[8,5],[5],[10,5],[11,5],[12,5],[13,5],[9,14,5],[5,15],[16,5],[17],[18,17],[19,17],[20,17],[17],[22,17],[23,17],[24,17],[21,25,17],[26,17],[27,17],[17],[28,29,17],[17,30],[31,17],[32],[33,32],[34,32],[35,32],[32],[37,32],[38,32],[39,32],[36,40,32],[41,32],[42,32,32],[32,43],[44,43,0,1,2,3,4,5,6,7,8,9,10,11,12,13,14,15,16,17,18,19,20,21,22,23,24,25,26,27,28,29,30,31,32,33,34,35,36,37,38,39,40,41,42,43,44]] [.mv 5 0,.nck 6 5,.fa 7 2 6,.ld 8 1 false 7,.not 9 8,.mv 10 9,.g 10 true (.mv 11 0),.g 10 true (.nck 12 11),.g 10 true (.fa 13 1 12),.g 10 true (.ld 14 1 false 13),.g 10 true (.mv 15 0),.g 10 true (.nck 16 15),.g 10 true (.fa 17 0 16),.g 10 true (.ld 18 1 false 17),.g 10 true (.len 19 18),.g 10 true (.bin 20 .lss 14 19),.pick 21 10 20 (kB false),.mv 22 21,.g 22 true (.mv 23 0),.g 22 true (.nck 24 23),.g 22 true (.fa 25 0 24),.g 22 true (.ld 26 1 false 25),.g 22 true (.mv 27 0),.g 22 true (.nck 28 27),.g 22 true (.fa 29 1 28),.g 22 true (.ld 30 1 false 29),.g 22 true (.ia 31 3 26 30),.g 22 true (.fa 32 0 31),.g 22 true (.ld 33 1 false 32),.g 22 true (.mv 34 1),.g 22 true (.bin 35 .eql 33 34),.pick 36 22 35 (kB false),.mv 37 36,.g 37 true (.mv 38 0),.g 37 true (.nck 39 38),.g 37 true (.fa 40 0 39),.g 37 true (.ld 41 1 false 40),.g 37 true (.mv 42 0),.g 37 true (.nck 43 42),.g 37 true (.fa 44 1 43),.g 37 true (.ld 45 1 false 44),.g 37 true (.ia 46 3 41 45),.g 37 true (.ld 47 3 true 46),.g 37 true (.call (some 48) 115 [47]),.pick 49 37 48 (kB false),.asg 4 49]) .ret))
theorem bPr:bP Tryz.prog 109=some (bKs,[.mv 0 4],50):=by kernel_rfl
def bVn (p0:aP) (r:Bool):Exit→St→Prop:=bM [.mv 0 4] fun x b=>x=(fun (y:Bool)=>(vB y)) r∧bI ((fun (y:Bool)=>[(1000000,bA p0)]) r) b
def aYb:AC:=(.seq (.ops [.box 1 46 0,.asg 2 (kB false)]) (.seq (.seq (.ops [.fa 5 0 1,.ld 6 1 false 5]) (.block 0 (.seq (.ops [.bin 8 .eql 6 (kI 1),.asg 7 8]) (.cond 7 (.seq (.dops [[],[0],[1],[2],[3,2],[4],[5,4],[6,4,4],[4],[8,4],[7,9,4],[4,10],[11,7,0,1,2,3,4,5,6,7,8,9,10,11]] [.fa 9 1 1,.ld 10 1 false 9,.call (some 11) 122 [10],.bin 12 .neq 11 (kI 0),.mv 13 12,.g 13 true (.fa 14 1 1),.g 13 true (.ld 15 1 false 14),.g 13 true (.call (some 16) 123 [15]),.g 13 true (.fa 17 1 1),.g 13 true (.ld 18 1 false 17),.g 13 true (.bin 19 .eql 16 18),.pick 20 13 19 (kB false),.asg 2 20]) .ret) (.seq (.ops [.bin 22 .eql 6 (kI 2),.asg 21 22]) (.cond 21 (.seq (.ops [.fa 23 1 1,.ld 24 1 false 23,.call (some 25) 124 [24],.asg 2 25]) .ret) (.seq (.ops [.bin 27 .eql 6 (kI 3),.asg 26 27]) (.cond 26 (.seq (.ops [.fa 29 1 1,.ld 30 1 false 29,.call (some 31) 113 [30],.mv 28 31,.ext 32 28 0,.ext 33 28 1,.asg 3 32,.asg 4 33]) (.seq (.ops [.mv 34 4,.asg 2 34]) .ret)) (.seq (.ops [.bin 36 .eql 6 (kI 4),.asg 35 36]) (.cond 35 (.seq (.ops [.fa 37 1 1,.ld 38 1 false 37,.lns 39 38,.bin 40 .leq 39 (kI 40),.asg 2 40]) .ret) (.seq (.ops [.bin 42 .eql 6 (kI 5),.asg 41 42]) (.cond 41 (.seq (.ops [.fa 43 1 1,.ld 44 1 false 43,.call (some 45) 125 [44],.asg 2 45]) .ret) .skip)))))))))))) (.seq (.ops [.asg 2 (kB false)]) .ret)))
theorem aZ3:bP Tryz.prog 115=some (aYb,[.mv 0 2],46):=by kernel_rfl
def bUk (r:Bool):Exit→St→Prop:=bM [.mv 0 2] fun x _=>x=(fun y=>(vB y)) r
set_option maxHeartbeats 2000000 in
set_option maxRecDepth 100000 in
theorem aTq (n : Int) (h0 : -9223372036854775808 ≤ n) (h1 : n ≤ 9223372036854775807) (w : World) (hv : I9 0 1 2 w) :
    Calls Tryz.prog 117 #[.int .i64 n] w fun e w'=>e=.returned (.string ⟨(Lib.itoa n).toArray⟩)∧jK w w':=by
  go_enter Tryz.func117,Tryz.ntmps117
  go_wp2_with (go_at_call 128; refine (bEv (g15:=0) (g16:=1) sh171 n h0 h1 _ hv).mono ?_; rintro e w' ⟨rfl,hw⟩)
  go_ret
  exact ⟨rfl,hw⟩
set_option maxHeartbeats 4000000 in
set_option maxRecDepth 100000 in
theorem bAu:aNm Tryz.prog 113 0 1 2:=by
  intro s w hs hv
  by_cases hok:∃ v,Lib.atoiAll s.data.toList=.ok v
  · obtain ⟨v,hc⟩:=hok
    have hb:=Lib.atoiAll_bounds hc
    by_cases hneg:v<0
    · have hr:jC s.data.toList=(0,false):=by unfold jC; rw [hc]; simp only; rw [if_pos hneg]
      rw [hr]
      go_enter Tryz.func113,Tryz.ntmps113
      go_wp2_with (go_at_call 116; refine (aNq sh172 s hs v hc _).mono ?_; rintro e w' ⟨rfl,hw⟩)
      go_ret2
      exact ⟨rfl,hw⟩
    · by_cases he:Lib.itoa v=s.data.toList
      · have hr:jC s.data.toList=(v,true):=by unfold jC; rw [hc]; simp only; rw [if_neg hneg,if_pos he]
        have hes:(⟨(Lib.itoa v).toArray⟩:ByteArray)=s:=by rw [he]
        rw [hr]
        go_enter Tryz.func113,Tryz.ntmps113
        go_wp2_with (go_at_call 116; refine (aNq sh172 s hs v hc _).mono ?_; rintro e w' ⟨rfl,hw⟩)
        go_wp2_with (go_at_call 117; refine (aTq v hb.1 hb.2 _ (hv.grow hw)).mono ?_; rintro e w2 ⟨rfl,hw2⟩; rw [hes])
        go_ret2
        exact ⟨rfl,hw.trans hw2⟩
      · have hr:jC s.data.toList=(0,false):=by unfold jC; rw [hc]; simp only; rw [if_neg hneg,if_neg he]
        have hne:(⟨(Lib.itoa v).toArray⟩:ByteArray)≠s:=fun e=>he (by rw [← e])
        rw [hr]
        generalize hz:(⟨(Lib.itoa v).toArray⟩:ByteArray)=z at hne
        go_enter Tryz.func113,Tryz.ntmps113
        go_wp2_with (go_at_call 116; refine (aNq sh172 s hs v hc _).mono ?_; rintro e w' ⟨rfl,hw⟩)
        go_wp2_with (go_at_call 117; refine (aTq v hb.1 hb.2 _ (hv.grow hw)).mono ?_; rintro e w2 ⟨rfl,hw2⟩; rw [hz])
        · go_ret2
          exact ⟨rfl,hw.trans hw2⟩
        · rename_i hh
          have h2:z.data.toList=s.data.toList:=by
            have:=hh.2
            rw [Lib.toList_data,Lib.toList_data] at this
            simpa using this
          exact absurd ((Lib.mk_data z).symm.trans ((congrArg (fun l:List UInt8=>(⟨l.toArray⟩:ByteArray)) h2).trans (Lib.mk_data s))) hne
  · have hno:∀ v,Lib.atoiAll s.data.toList≠.ok v:=fun v e=>hok ⟨v,e⟩
    have hr:jC s.data.toList=(0,false):=by
      unfold jC
      split
      · rename_i n hn; exact absurd hn (hno n)
      · rfl
    rw [hr]
    obtain ⟨v,hcall⟩:=bEm sh172 s hs hno w hv
    go_enter Tryz.func113,Tryz.ntmps113
    go_wp2_with (go_at_call 116; refine hcall.mono ?_)
    rintro e w' ⟨t,N,rfl,hw⟩
    go_wp2
    go_ret2
    exact ⟨rfl,hw⟩
def bHc:AC:=(.seq (.ops [.asg 2 (kI 0)]) (.seq (.ops [.call (some 3) 130 [],.mv 4 0,.call (some 5) 123 [4],.call (some 6) 129 [3,5],.bin 7 .add 6 (kI 1),.asg 2 7]) .ret))
theorem bAr:bP Tryz.prog 122=some (bHc,[.mv 0 2],8):=by kernel_rfl
def bWk (r:Int):Exit→St→Prop:=bM [.mv 0 2] fun x _=>x=(fun y=>(vI y)) r
def aMj:AC:=(.loop (.seq (.ops [.bin 9 .lss 8 7]) (.seq (.cond 9 .skip (.exit 0)) (.seq (.block 1 (.seq (.ops [.mv 10 8,.asg 5 10]) (.seq (.ops [.mv 11 1,.mv 12 0,.mv 13 5,.ia 14 1 12 13,.ld 15 1 false 14,.bin 16 .eql 11 15]) (.cond 16 (.seq (.ops [.mv 17 5,.asg 4 17]) .ret) .skip)))) (.ops [.bin 18 .add 8 (kI 1),.mv 8 18])))))
def aWq:AC:=(.seq (.ops [.asg 4 (kI (-1))]) .ret)
def bN4:AC:=(.seq (.ops [.asg 4 (kI 0)]) (.seq (.seq (.ops [.mv 6 0,.len 7 6,.mv 8 (kI 0)]) (.block 0 aMj)) aWq))
theorem aZ9:bP Tryz.prog 129=some (bN4,[.mv 0 4],19):=by kernel_rfl
def aWb (r:Int):Exit→St→Prop:=bM [.mv 0 4] fun x _=>x=(fun y=>(vI y)) r
def bGe (r:Int):Exit→St→Prop:=(eU (wkK (avc Tryz.prog aWq (aWb r))) (aWb r))
def bA3 (r:Int):Exit→St→Prop:=(eY 0 (bGe r))
def bBr (p0:List (List UInt8)) (p1:List UInt8) (x8:Int):St:=⟨[(0,(I6 p0)),(1,(vS p1)),(7,(vI (p0.length:Int))),(8,(vI x8))],[]⟩
abbrev aG9:=fun p0 p1 x8 r=>avc Tryz.prog aMj (bA3 r) (bBr p0 p1 x8)
def aNz:AC:=(.ops [.bin 27 .add 10 (kI 1),.mv 10 27])
def aE2:AC:=(.loop (.seq (.ops [.bin 11 .lss 10 9]) (.seq (.cond 11 .skip (.exit 0)) (.seq (.block 1 (.seq (.ops [.mv 12 10,.ia 13 1 8 10,.ld 14 1 false 13,.asg 4 12,.asg 5 14]) (.seq (.ops [.mv 15 5,.bin 16 .geq 15 (.c (.d (.i .u8 97))),.mv 17 16,.g 17 true (.mv 18 5),.g 17 true (.bin 19 .leq 18 (.c (.d (.i .u8 122)))),.pick 20 17 19 (kB false)]) (.cond 20 (.ops [.mv 21 3,.mv 22 4,.mv 23 5,.bin 24 .sub 23 (.c (.d (.i .u8 97))),.bin 25 .add 24 (.c (.d (.i .u8 65))),.ia 26 1 21 22,.st 1 26 25]) .skip)))) aNz))))
def aH2:AC:=(.seq (.ops [.mv 28 3,.cbs 29 28,.asg 2 29]) .ret)
def bAs:AC:=(.seq (.ops [.asg 2 (.c (.d (.s (bs []))))]) (.seq (.ops [.mv 6 0,.csb 7 5 6,.asg 3 7]) (.seq (.seq (.ops [.mv 8 3,.len 9 8,.mv 10 (kI 0)]) (.block 0 aE2)) aH2)))
theorem bC2:bP Tryz.prog 123=some (bAs,[.mv 0 2],30):=by kernel_rfl
def aOf (r:List UInt8):Exit→St→Prop:=bM [.mv 0 2] fun x _=>x=(fun y=>(vS y)) r
def bPk (r:List UInt8):Exit→St→Prop:=(eU (wkK (avc Tryz.prog aH2 (aOf r))) (aOf r))
def aM8 (r:List UInt8):Exit→St→Prop:=(eY 0 (bPk r))
def bR5 (r:List UInt8):Exit→St→Prop:=(eU (avc Tryz.prog aE2 (aM8 r)) (aM8 r))
def bNi (p0:List UInt8) (x10:Int) (iQ:List Int):St:=⟨[(3,(.tre 60015000)),(8,(.tre 60015000)),(9,(vI ((jO p0).length:Int))),(10,(vI x10))],[(60015000,[(.trc 1 (iQ.map cU8))])]⟩
abbrev aDq:=fun p0 x10 iQ r=>avc Tryz.prog aE2 (aM8 r) (bNi p0 x10 iQ)
def aYv (p0:List UInt8) (x10:Int) (nD:List Int):St:=⟨[(3,(.tre 60050000)),(8,(.tre 60050000)),(9,(vI ((jO p0).length:Int))),(10,(vI x10))],[(60050000,[(.trc 1 (nD.map cU8))])]⟩
abbrev aF8:=fun p0 x10 nD r=>avc Tryz.prog aNz (bR5 r) (aYv p0 x10 nD)
def bG5 (x3:List Int):St:=⟨[(3,(sN x3))],[]⟩
abbrev aQz:=fun x3 r=>avc Tryz.prog aH2 (aOf r) (bG5 x3)
def bG8:AC:=(.seq (.ops [.asg 0 (.c (.nil 1))]) (.seq (.ops [.call (some 1) 139 [(.c (.d (.s (bs [83,69,76,69,67,84,32,68,73,83,84,73,78,67,84,32,70,82,79,77,32,74,79,73,78,32,79,78,32,87,72,69,82,69,32,79,82,68,69,82,32,66,89,32,65,83,67,32,68,69,83,67,32,76,73,77,73,84,32,65,83,32,65,78,68,32,79,82,32,78,79,84,32,73,83,32,73,78,32,66,69,84,87,69,69,78,32,69,88,73,83,84,83,32,78,85,76,76,32,84,82,85,69,32,70,65,76,83,69,32,73,78,83,69,82,84,32,73,78,84,79,32,86,65,76,85,69,83,32,85,80,68,65,84,69,32,83,69,84,32,68,69,76,69,84,69])))),(.c (.d (.s (bs [32]))))],.asg 0 1]) .ret))
theorem bPz:bP Tryz.prog 130=some (bG8,[.mv 0 0],2):=by kernel_rfl
def bWd (r:List (List UInt8)):Exit→St→Prop:=bM [.mv 0 0] fun x _=>x=(fun y=>(I6 y)) r

def bQj:AC:=(.seq (.ops [.asg 2 (kB false)]) (.seq (.ops [.mv 3 0,.lns 4 3,.bin 5 .geq 4 (kI 1),.mv 6 5,.g 6 true (.mv 7 0),.g 6 true (.lns 8 7),.g 6 true (.bin 9 .leq 8 (kI 20)),.pick 10 6 9 (kB false),.asg 2 10]) .ret))
theorem bJr:bP Tryz.prog 124=some (bQj,[.mv 0 2],11):=by kernel_rfl
def bUq (r:Bool):Exit→St→Prop:=bM [.mv 0 2] fun x _=>x=(fun y=>(vB y)) r
def bQv:AC:=(.seq (.ops [.asg 2 (kB false)]) (.seq (.ops [.call (some 3) 132 [],.mv 4 0,.call (some 5) 131 [3,4],.asg 2 5]) .ret))
theorem bBu:bP Tryz.prog 125=some (bQv,[.mv 0 2],6):=by kernel_rfl
def bVg (r:Bool):Exit→St→Prop:=bM [.mv 0 2] fun x _=>x=(fun y=>(vB y)) r
def bL8:AC:=(.seq (.ops [.asg 0 (.c (.nil 1))]) (.seq (.ops [.bsl 1 9 1 [(.c (.d (.s (bs [40])))),(.c (.d (.s (bs [41])))),(.c (.d (.s (bs [44])))),(.c (.d (.s (bs [46])))),(.c (.d (.s (bs [42])))),(.c (.d (.s (bs [43])))),(.c (.d (.s (bs [45])))),(.c (.d (.s (bs [47])))),(.c (.d (.s (bs [37])))),(.c (.d (.s (bs [61])))),(.c (.d (.s (bs [60,62])))),(.c (.d (.s (bs [60])))),(.c (.d (.s (bs [60,61])))),(.c (.d (.s (bs [62])))),(.c (.d (.s (bs [62,61])))),(.c (.d (.s (bs [124,124]))))],.asg 0 1]) .ret))
theorem bL9:bP Tryz.prog 132=some (bL8,[.mv 0 0],2):=by kernel_rfl
def bUm (r:List (List UInt8)):Exit→St→Prop:=bM [.mv 0 0] fun x b=>x=(fun (y:List (List UInt8))=>(.osl 2000000 9 1 (y.map cStr))) r∧bI ((fun (y:List (List UInt8))=>[]) r) b
def bSf:AC:=(.seq (.ops [.asg 4 (kB false)]) (.seq (.ops [.mv 5 0,.mv 6 1,.call (some 7) 129 [5,6],.bin 8 .geq 7 (kI 0),.asg 4 8]) .ret))
theorem bTc:bP Tryz.prog 131=some (bSf,[.mv 0 4],9):=by kernel_rfl
def bUd (r:Bool):Exit→St→Prop:=bM [.mv 0 4] fun x _=>x=(fun y=>(vB y)) r
def bQm:AC:=(.seq (.ops [.mv 4 0,.mv 5 1,.call (some 6) 80 [4,5],.not 7 6]) (.cond 7 (.ops [.mv 8 0,.nck 9 8,.fa 10 2 9,.st 1 10 (kB true)]) .skip))
theorem bH1:bP Tryz.prog 89=some (bQm,[],11):=by kernel_rfl
def bWr (r:aP):Exit→St→Prop:=bM [] fun x b=>x=(fun (y:aP)=>(.tup [])) r∧bI ((fun (y:aP)=>[(1000000,bA y)]) r) b
def bKn:AC:=(.seq (.ops [.alc 2 aFe]) (.seq (.block 0 (.seq (.ops [.mv 6 0,.call (some 7) 101 [6,(.c (.d (.s (bs [42]))))],.asg 5 7]) (.cond 5 (.seq (.ops [.bld 8 [eH,aX,aR,aR,eH,aR,aR,aX,aX,aX,(.nil 10),(.nil 6),aX] [(0,1,(kB true))],.st 13 2 8]) .ret) (.seq (.ops [.mv 10 0,.call (some 11) 109 [10,(kI 2)],.mv 12 11,.g 12 true (.mv 13 0),.g 12 true (.call (some 14) 78 [13,(kI 1),(kI 5),(.c (.d (.s (bs [46]))))]),.pick 15 12 14 (kB false),.mv 16 15,.g 16 true (.mv 17 0),.g 16 true (.call (some 18) 78 [17,(kI 2),(kI 5),(.c (.d (.s (bs [42]))))]),.pick 19 16 18 (kB false),.asg 9 19]) (.cond 9 (.seq (.ops [.mv 20 0,.call (some 21) 110 [20,(kI 2)],.asg 3 21]) (.seq (.ops [.mv 22 0,.nck 23 22,.fa 24 1 23,.ld 25 1 false 24,.bin 26 .add 25 (kI 2),.nck 27 22,.fa 28 1 27,.st 1 28 26]) (.seq (.ops [.mv 29 3,.bld 30 [eH,aX,aR,aR,eH,aR,aR,aX,aX,aX,(.nil 10),(.nil 6),aX] [(0,1,(kB true)),(1,1,29)],.st 13 2 30]) .ret))) .skip))))) (.seq (.ops [.mv 31 0,.call (some 32) 29 [31],.alc 4 fD,.st 10 4 32]) (.seq (.dops [[],[],[1],[0,2],[3,2,0,1,2,3]] [.ld 33 10 true 4,.mv 34 0,.call (some 35) 111 [34],.bld 36 [eH,aX,aR,aR,eH,aR,aR,aX,aX,aX,(.nil 10),(.nil 6),aX] [(2,10,33),(12,1,35)],.st 13 2 36]) .ret))))
theorem bA7:bP Tryz.prog 102=some (bKn,[.ld 0 13 true 2],37):=by kernel_rfl
def bTh (r:bV×aP):Exit→St→Prop:=bM [.ld 0 13 true 2] fun x b=>x=(fun (y:bV×aP)=>(qY y.1)) r∧bI ((fun (y:bV×aP)=>[(1000000,bA y.2)]) r) b
def bT5:AC:=(.seq (.ops [.asg 2 (kI 0)]) (.seq (.ops [.mv 6 0,.call (some 7) 110 [6,(kI 3)],.call (some 8) 113 [7],.mv 5 8,.ext 9 5 0,.ext 10 5 1,.asg 3 9,.asg 4 10]) (.seq (.ops [.mv 11 3,.asg 2 11]) .ret)))
theorem bIy:bP Tryz.prog 106=some (bT5,[.mv 0 2],12):=by kernel_rfl
def bW1 (r:Int×aP):Exit→St→Prop:=bM [.mv 0 2] fun x b=>x=(fun (y:Int×aP)=>(vI y.1)) r∧bI ((fun (y:Int×aP)=>[(1000000,bA y.2)]) r) b
def aNr:AC:=(.seq (.ops [.ld 13 11 true 3,.st 11 2 13]) .ret)
def bOd:AC:=(.seq (.ops [.alc 2 aMp]) (.seq (.ops [.mv 4 0,.call (some 5) 29 [4],.bld 6 [aR,aR,eH,aR,aR,aX,aX,aX,(.nil 10),(.nil 6),eH] [(0,10,5)],.alc 3 aMp,.st 11 3 6]) (.seq (.seq (.ops [.mv 7 0,.call (some 8) 80 [7,(.c (.d (.s (bs [65,83,67]))))],.not 9 8]) (.cond 9 (.ops [.mv 10 0,.call (some 11) 80 [10,(.c (.d (.s (bs [68,69,83,67]))))],.fa 12 10 3,.st 1 12 11]) .skip)) aNr)))
theorem bPi:bP Tryz.prog 105=some (bOd,[.ld 0 11 true 2],14):=by kernel_rfl
def bEr (r:eB×aP):Exit→St→Prop:=bM [.ld 0 11 true 2] fun x b=>x=(fun (y:eB×aP)=>(xL y.1)) r∧bI ((fun (y:eB×aP)=>[(1000000,bA y.2)]) r) b
def bIj (y1:aA×aP) (yA:Bool) (bD:List aJ) (bC:Int) (bF:Bool):St:=⟨[(2,(.ptr 2 0)),(3,(.ptr 3 0))],[(2,[(vI 0),(vI 0),(vB false),(vI 0),(vI 0),(vS []),(vS []),(vS []),(.nil 10),(.nil 6),(vB false)]),(3,bR1 (eB.mk y1.1 yA)),(1000000,bA (aP.mk bD bC bF))]⟩
abbrev aQ6:=fun y1 yA bD bC bF r=>avc Tryz.prog aNr (bEr r) (bIj y1 yA bD bC bF)
def bGw:AC:=(.seq (.ops [.asg 2 (.c (.nil 10))]) (.seq (.seq (.ops [.mv 3 0,.call (some 4) 80 [3,(.c (.d (.s (bs [87,72,69,82,69]))))]]) (.cond 4 (.seq (.ops [.mv 5 0,.call (some 6) 29 [5],.bsl 7 34 10 [6],.asg 2 7]) .ret) .skip)) (.seq (.ops [.asg 2 (.c (.nil 10))]) .ret)))
theorem bLw:bP Tryz.prog 104=some (bGw,[.mv 0 2],8):=by kernel_rfl
def bVz (r:(List aA)×aP):Exit→St→Prop:=bM [.mv 0 2] fun x b=>x=(fun (y:(List aA)×aP)=>(.osl 2000000 34 10 (y.1.map bN))) r∧bI ((fun (y:(List aA)×aP)=>[(1000000,bA y.2)]) r) b
def bQe:AC:=(.seq (.ops [.alc 2 fD]) (.seq (.ops [.mv 3 0,.mv 4 0,.mkf 5 1000096 [4],.bsl 6 3 1 [(kI 9)],.call (some 7) 48 [3,5,6],.st 10 2 7]) .ret))
theorem bEz:bP Tryz.prog 88=some (bQe,[.ld 0 10 true 2],8):=by kernel_rfl
def bW8 (r:aA×aP):Exit→St→Prop:=bM [.ld 0 10 true 2] fun x b=>x=(fun (y:aA×aP)=>(bX y.1)) r∧bI ((fun (y:aA×aP)=>[(1000000,bA y.2)]) r) b
def aL4:AC:=(.loop (.block 1 (.seq (.ops [.mv 11 0,.mv 12 2,.call (some 13) 65 [11,12],.asg 8 13]) (.seq (.seq (.ops [.mv 14 8,.bin 15 .eql 14 (kI 0)]) (.cond 15 (.seq (.ops [.ld 16 10 true 7,.st 10 6 16]) .ret) .skip)) (.dops [[],[],[],[2],[0,1,3,3],[4,4,0,1,2,3,4]] [.mv 17 8,.ld 18 10 true 7,.mv 19 1,.callv (some 20) 19 [],.call (some 21) 66 [17,18,20],.st 10 7 21])))))
def bPj:AC:=(.seq (.ops [.alc 6 fD]) (.seq (.ops [.mv 9 1,.callv (some 10) 9 [],.alc 7 fD,.st 10 7 10]) (.block 0 aL4)))
theorem bO9:bP Tryz.prog 48=some (bPj,[.ld 0 10 true 6],22):=by kernel_rfl
def aYd (r:aA×aP):Exit→St→Prop:=bM [.ld 0 10 true 6] fun x b=>x=(fun (y:aA×aP)=>(bX y.1)) r∧bI ((fun (y:aA×aP)=>[(1000000,bA y.2)]) r) b
def bJ3 (r:aA×aP):Exit→St→Prop:=(eY 0 (aYd r))
def bL2 (p2:List Int) (dF:Int) (dJ:Int) (dW:Bool) (dN:Int) (dR:Int) (bH:(List UInt8)×(List UInt8)×(List UInt8)×(List aA)×(List aY)×(List aJ)×Int×Bool):St:=⟨[(0,(.ptr 1000000 0)),(1,(.fn 1000096 [(.ptr 1000000 0)])),(2,(jB p2)),(6,(.ptr 6 0)),(7,(.ptr 7 0))],[(6,[(vI 0),(vI 0),(vB false),(vI 0),(vI 0),(vS []),(vS []),(vS []),(.nil 10),(.nil 6)]),(7,fK (aA.mk dF dJ dW (bJ.mk dN dR bH.1) bH.2.1 bH.2.2.1 bH.2.2.2.1 bH.2.2.2.2.1)),(1000000,bA (aP.mk bH.2.2.2.2.2.1 bH.2.2.2.2.2.2.1 bH.2.2.2.2.2.2.2))]⟩
abbrev aHa:=fun p2 dF dJ dW dN dR bH r=>avc Tryz.prog aL4 (bJ3 r) (bL2 p2 dF dJ dW dN dR bH)
def bO2:AC:=(.seq (.ops [.alc 2 fD]) (.seq (.ops [.mv 3 0,.mv 4 0,.mkf 5 1000100 [4],.bsl 6 3 1 [(kI 10),(kI 11)],.call (some 7) 48 [3,5,6],.st 10 2 7]) .ret))
theorem bQ5:bP Tryz.prog 96=some (bO2,[.ld 0 10 true 2],8):=by kernel_rfl
def bWz (r:aA×aP):Exit→St→Prop:=bM [.ld 0 10 true 2] fun x b=>x=(fun (y:aA×aP)=>(bX y.1)) r∧bI ((fun (y:aA×aP)=>[(1000000,bA y.2)]) r) b
def aKx:AC:=(.loop (.block 1 (.seq (.ops [.mv 11 0,.mv 12 2,.call (some 13) 65 [11,12],.asg 8 13]) (.seq (.seq (.ops [.mv 14 8,.bin 15 .eql 14 (kI 0)]) (.cond 15 (.seq (.ops [.ld 16 10 true 7,.st 10 6 16]) .ret) .skip)) (.dops [[],[],[],[2],[0,1,3,3],[4,4,0,1,2,3,4]] [.mv 17 8,.ld 18 10 true 7,.mv 19 1,.callv (some 20) 19 [],.call (some 21) 66 [17,18,20],.st 10 7 21])))))
def bPx:AC:=(.seq (.ops [.alc 6 fD]) (.seq (.ops [.mv 9 1,.callv (some 10) 9 [],.alc 7 fD,.st 10 7 10]) (.block 0 aKx)))
theorem bRj:bP Tryz.prog 48=some (bPx,[.ld 0 10 true 6],22):=by kernel_rfl
def bNe (r:aA×aP):Exit→St→Prop:=bM [.ld 0 10 true 6] fun x b=>x=(fun (y:aA×aP)=>(bX y.1)) r∧bI ((fun (y:aA×aP)=>[(1000000,bA y.2)]) r) b
def bB2 (r:aA×aP):Exit→St→Prop:=(eY 0 (bNe r))
def bSc (p2:List Int) (dF:Int) (dJ:Int) (dW:Bool) (dN:Int) (dR:Int) (bH:(List UInt8)×(List UInt8)×(List UInt8)×(List aA)×(List aY)×(List aJ)×Int×Bool):St:=⟨[(0,(.ptr 1000000 0)),(1,(.fn 1000100 [(.ptr 1000000 0)])),(2,(jB p2)),(6,(.ptr 6 0)),(7,(.ptr 7 0))],[(6,[(vI 0),(vI 0),(vB false),(vI 0),(vI 0),(vS []),(vS []),(vS []),(.nil 10),(.nil 6)]),(7,fK (aA.mk dF dJ dW (bJ.mk dN dR bH.1) bH.2.1 bH.2.2.1 bH.2.2.2.1 bH.2.2.2.2.1)),(1000000,bA (aP.mk bH.2.2.2.2.2.1 bH.2.2.2.2.2.2.1 bH.2.2.2.2.2.2.2))]⟩
abbrev aH6:=fun p2 dF dJ dW dN dR bH r=>avc Tryz.prog aKx (bB2 r) (bSc p2 dF dJ dW dN dR bH)
def bNv:AC:=(.seq (.ops [.alc 2 fD]) (.seq (.ops [.mv 3 0,.mv 4 0,.mkf 5 1000107 [4],.bsl 6 3 1 [(kI 12),(kI 13),(kI 14)],.call (some 7) 48 [3,5,6],.st 10 2 7]) .ret))
theorem bMi:bP Tryz.prog 100=some (bNv,[.ld 0 10 true 2],8):=by kernel_rfl
def bW3 (r:aA×aP):Exit→St→Prop:=bM [.ld 0 10 true 2] fun x b=>x=(fun (y:aA×aP)=>(bX y.1)) r∧bI ((fun (y:aA×aP)=>[(1000000,bA y.2)]) r) b
def aOh:AC:=(.loop (.block 1 (.seq (.ops [.mv 11 0,.mv 12 2,.call (some 13) 65 [11,12],.asg 8 13]) (.seq (.seq (.ops [.mv 14 8,.bin 15 .eql 14 (kI 0)]) (.cond 15 (.seq (.ops [.ld 16 10 true 7,.st 10 6 16]) .ret) .skip)) (.dops [[],[],[],[2],[0,1,3,3],[4,4,0,1,2,3,4]] [.mv 17 8,.ld 18 10 true 7,.mv 19 1,.callv (some 20) 19 [],.call (some 21) 66 [17,18,20],.st 10 7 21])))))
def bGb:AC:=(.seq (.ops [.alc 6 fD]) (.seq (.ops [.mv 9 1,.callv (some 10) 9 [],.alc 7 fD,.st 10 7 10]) (.block 0 aOh)))
theorem bL4:bP Tryz.prog 48=some (bGb,[.ld 0 10 true 6],22):=by kernel_rfl
def bM2 (r:aA×aP):Exit→St→Prop:=bM [.ld 0 10 true 6] fun x b=>x=(fun (y:aA×aP)=>(bX y.1)) r∧bI ((fun (y:aA×aP)=>[(1000000,bA y.2)]) r) b
def bLv (r:aA×aP):Exit→St→Prop:=(eY 0 (bM2 r))
def bHj (p2:List Int) (dF:Int) (dJ:Int) (dW:Bool) (dN:Int) (dR:Int) (bH:(List UInt8)×(List UInt8)×(List UInt8)×(List aA)×(List aY)×(List aJ)×Int×Bool):St:=⟨[(0,(.ptr 1000000 0)),(1,(.fn 1000107 [(.ptr 1000000 0)])),(2,(jB p2)),(6,(.ptr 6 0)),(7,(.ptr 7 0))],[(6,[(vI 0),(vI 0),(vB false),(vI 0),(vI 0),(vS []),(vS []),(vS []),(.nil 10),(.nil 6)]),(7,fK (aA.mk dF dJ dW (bJ.mk dN dR bH.1) bH.2.1 bH.2.2.1 bH.2.2.2.1 bH.2.2.2.2.1)),(1000000,bA (aP.mk bH.2.2.2.2.2.1 bH.2.2.2.2.2.2.1 bH.2.2.2.2.2.2.2))]⟩
abbrev aI0:=fun p2 dF dJ dW dN dR bH r=>avc Tryz.prog aOh (bLv r) (bHj p2 dF dJ dW dN dR bH)
def bS8:AC:=(.seq (.ops [.alc 2 fD]) (.seq (.seq (.ops [.mv 3 0,.call (some 4) 101 [3,(.c (.d (.s (bs [45]))))]]) (.cond 4 (.seq (.ops [.mv 5 0,.call (some 6) 107 [5],.bsl 7 34 10 [6],.bld 8 [aR,aR,eH,aR,aR,aX,aX,aX,(.nil 10),(.nil 6)] [(0,1,(kI 3)),(1,1,(kI 16)),(8,1,7)],.st 10 2 8]) .ret) .skip)) (.seq (.ops [.mv 9 0,.call (some 10) 114 [9],.st 10 2 10]) .ret)))
theorem bK2:bP Tryz.prog 107=some (bS8,[.ld 0 10 true 2],11):=by kernel_rfl
def bTx (r:aA×aP):Exit→St→Prop:=bM [.ld 0 10 true 2] fun x b=>x=(fun (y:aA×aP)=>(bX y.1)) r∧bI ((fun (y:aA×aP)=>[(1000000,bA y.2)]) r) b
def bD5:AC:=(.seq (.ops [.alc 2 fD]) (.seq (.block 0 (.seq (.ops [.mv 7 0,.call (some 8) 109 [7,(kI 3)],.asg 6 8]) (.cond 6 (.seq (.ops [.mv 9 0,.call (some 10) 106 [9],.call (some 11) 119 [10],.call (some 12) 118 [11],.st 10 2 12]) .ret) (.seq (.ops [.mv 14 0,.call (some 15) 109 [14,(kI 4)],.asg 13 15]) (.cond 13 (.seq (.ops [.mv 16 0,.call (some 17) 110 [16,(kI 4)],.call (some 18) 120 [17],.call (some 19) 118 [18],.st 10 2 19]) .ret) (.seq (.ops [.mv 21 0,.call (some 22) 80 [21,(.c (.d (.s (bs [78,85,76,76]))))],.asg 20 22]) (.cond 20 (.seq (.ops [.bld 23 [aR,aR,aX] [],.call (some 24) 118 [23],.st 10 2 24]) .ret) (.seq (.ops [.mv 26 0,.call (some 27) 80 [26,(.c (.d (.s (bs [84,82,85,69]))))],.asg 25 27]) (.cond 25 (.seq (.ops [.call (some 28) 121 [(kB true)],.call (some 29) 118 [28],.st 10 2 29]) .ret) (.seq (.ops [.mv 31 0,.call (some 32) 80 [31,(.c (.d (.s (bs [70,65,76,83,69]))))],.asg 30 32]) (.cond 30 (.seq (.ops [.call (some 33) 121 [(kB false)],.call (some 34) 118 [33],.st 10 2 34]) .ret) (.seq (.ops [.mv 36 0,.call (some 37) 109 [36,(kI 2)],.asg 35 37]) (.cond 35 (.seq (.ops [.mv 38 0,.call (some 39) 110 [38,(kI 2)],.asg 3 39]) (.seq (.seq (.ops [.mv 40 0,.call (some 41) 101 [40,(.c (.d (.s (bs [46]))))]]) (.cond 41 (.seq (.ops [.mv 42 3,.mv 43 0,.call (some 44) 110 [43,(kI 2)],.bld 45 [aR,aR,eH,aR,aR,aX,aX,aX,(.nil 10),(.nil 6)] [(0,1,(kI 2)),(6,1,42),(7,1,44)],.st 10 2 45]) .ret) .skip)) (.seq (.ops [.mv 46 3,.bld 47 [aR,aR,eH,aR,aR,aX,aX,aX,(.nil 10),(.nil 6)] [(0,1,(kI 2)),(7,1,46)],.st 10 2 47]) .ret))) (.seq (.ops [.mv 49 0,.call (some 50) 101 [49,(.c (.d (.s (bs [40]))))],.asg 48 50]) (.cond 48 (.seq (.ops [.mv 51 0,.call (some 52) 29 [51],.alc 4 fD,.st 10 4 52]) (.seq (.ops [.mv 53 0,.call (some 54) 97 [53,(.c (.d (.s (bs [41]))))]]) (.seq (.ops [.ld 55 10 true 4,.st 10 2 55]) .ret))) (.seq (.ops [.mv 57 0,.call (some 58) 80 [57,(.c (.d (.s (bs [69,88,73,83,84,83]))))],.asg 56 58]) (.cond 56 (.seq (.ops [.mv 59 0,.call (some 60) 97 [59,(.c (.d (.s (bs [40]))))]]) (.seq (.ops [.mv 61 0,.call (some 62) 98 [61],.alc 5 uG,.st 6 5 62]) (.seq (.ops [.mv 63 0,.call (some 64) 97 [63,(.c (.d (.s (bs [41]))))]]) (.seq (.ops [.ld 65 6 true 5,.bsl 66 57 6 [65],.bld 67 [aR,aR,eH,aR,aR,aX,aX,aX,(.nil 10),(.nil 6)] [(0,1,(kI 9)),(9,1,66)],.st 10 2 67]) .ret)))) .skip))))))))))))))))) (.seq (.ops [.mv 68 0,.nck 69 68,.fa 70 2 69,.st 1 70 (kB true)]) (.seq (.ops [.bld 71 [aR,aR,eH,aR,aR,aX,aX,aX,(.nil 10),(.nil 6)] [],.st 10 2 71]) .ret))))
theorem bM8:bP Tryz.prog 114=some (bD5,[.ld 0 10 true 2],72):=by kernel_rfl
def bVw (r:aA×aP):Exit→St→Prop:=bM [.ld 0 10 true 2] fun x b=>x=(fun (y:aA×aP)=>(bX y.1)) r∧bI ((fun (y:aA×aP)=>[(1000000,bA y.2)]) r) b
def bLj:AC:=(.seq (.ops [.alc 2 [aR,aR,aX]]) (.seq (.ops [.mv 3 0,.bld 4 [aR,aR,aX] [(0,1,(kI 1)),(1,1,3)],.st 3 2 4]) .ret))
theorem bFm:bP Tryz.prog 119=some (bLj,[.ld 0 3 true 2],5):=by kernel_rfl
def bV6 (r:bJ):Exit→St→Prop:=bM [.ld 0 3 true 2] fun x _=>x=(fun y=>(lC y)) r
def bRv:AC:=(.seq (.ops [.box 1 30 0,.alc 2 fD]) (.seq (.ops [.ld 3 3 true 1,.bld 4 [aR,aR,eH,aR,aR,aX,aX,aX,(.nil 10),(.nil 6)] [(0,1,(kI 1)),(3,3,3)],.st 10 2 4]) .ret))
theorem bFy:bP Tryz.prog 118=some (bRv,[.ld 0 10 true 2],5):=by kernel_rfl
def bWb (r:aA):Exit→St→Prop:=bM [.ld 0 10 true 2] fun x _=>x=(fun y=>(bX y)) r
def aMy:AC:=(.seq (.ops [.ld 7 3 true 3,.st 3 2 7]) .ret)
def bA1:AC:=(.seq (.ops [.alc 2 [aR,aR,aX]]) (.seq (.ops [.bld 4 [aR,aR,aX] [(0,1,(kI 3))],.alc 3 [aR,aR,aX],.st 3 3 4]) (.seq (.seq (.ops [.mv 5 0]) (.cond 5 (.ops [.fa 6 1 3,.st 1 6 (kI 1)]) .skip)) aMy)))
theorem bFf:bP Tryz.prog 121=some (bA1,[.ld 0 3 true 2],8):=by kernel_rfl
def bFe (r:bJ):Exit→St→Prop:=bM [.ld 0 3 true 2] fun x _=>x=(fun y=>(lC y)) r
def bJ4 (bG:Int):St:=⟨[(2,(.ptr 2 0)),(3,(.ptr 3 0))],[(2,[(vI 0),(vI 0),(vS [])]),(3,aT3 (bJ.mk 3 bG []))]⟩
abbrev aV6:=fun bG r=>avc Tryz.prog aMy (bFe r) (bJ4 bG)
def bG0:AC:=(.seq (.ops [.alc 2 [aR,aR,aX]]) (.seq (.ops [.mv 3 0,.bld 4 [aR,aR,aX] [(0,1,(kI 2)),(2,1,3)],.st 3 2 4]) .ret))
theorem aYm:bP Tryz.prog 120=some (bG0,[.ld 0 3 true 2],5):=by kernel_rfl
def bX3 (r:bJ):Exit→St→Prop:=bM [.ld 0 3 true 2] fun x _=>x=(fun y=>(lC y)) r
def bBc:AC:=(.seq (.ops [.asg 2 (kI 0)]) (.seq (.seq (.dops [[],[0],[1],[2],[3],[4],[5,4],[6,4],[7,4],[4],[9,4],[10,4],[11,4],[12,4],[8,13,4],[4,14]] [.mv 3 0,.nck 4 3,.fa 5 2 4,.ld 6 1 false 5,.mv 7 6,.g 7 false (.mv 8 0),.g 7 false (.nck 9 8),.g 7 false (.fa 10 1 9),.g 7 false (.ld 11 1 false 10),.g 7 false (.mv 12 0),.g 7 false (.nck 13 12),.g 7 false (.fa 14 0 13),.g 7 false (.ld 15 1 false 14),.g 7 false (.len 16 15),.g 7 false (.bin 17 .lss 11 16),.pick 18 7 (kB true) 17]) (.cond 18 (.seq (.ops [.mv 19 0,.nck 20 19,.fa 21 1 20,.ld 22 1 false 21,.asg 2 22]) .ret) .skip)) (.seq (.ops [.asg 2 (kI (-1))]) .ret)))
theorem bP6:bP Tryz.prog 30=some (bBc,[.mv 0 2],23):=by kernel_rfl
def bTr (p0:aP) (r:Int):Exit→St→Prop:=bM [.mv 0 2] fun x b=>x=(fun (y:Int)=>(vI y)) r∧bI ((fun (y:Int)=>[(1000000,bA p0)]) r) b
def aJn:AC:=(.loop (.seq (.seq (.ops [.mv 8 4,.mv 9 0,.len 10 9,.bin 11 .lss 8 10,.mv 12 11,.g 12 true (.mv 13 4),.g 12 true (.bin 14 .lss 13 (kI 4000)),.pick 15 12 14 (kB false)]) (.cond 15 .skip (.exit 0))) (.seq (.block 1 (.ops [.mv 18 3,.bin 19 .mul 18 (kI 131),.mv 20 0,.mv 21 4,.ia 22 1 20 21,.ld 23 1 false 22,.cvi 24 .i64 23,.bin 25 .add 19 24,.bin 26 .add 25 (kI 7),.bin 27 .and 26 (kI 1073741823),.asg 3 27])) (.ops [.mv 16 4,.bin 17 .add 16 (kI 1),.asg 4 17]))))
def aSk:AC:=(.seq (.ops [.mv 28 0,.mv 29 3,.bld 30 [(.nil 1),aR,aR] [(0,1,28),(2,1,29)],.box 31 71 30,.asg 2 31]) .ret)
def bFw:AC:=(.seq (.ops [.asg 2 (.c .np)]) (.seq (.ops [.mv 5 0,.len 6 5,.bin 7 .add (kI 28322) 6,.asg 3 7]) (.seq (.seq (.ops [.asg 4 (kI 0)]) (.block 0 aJn)) aSk)))
theorem bR4:bP Tryz.prog 16=some (bFw,[.mv 0 2],32):=by kernel_rfl
def aPr (r:aQ):Exit→St→Prop:=bM [.mv 0 2] fun x b=>x=(fun (y:aQ)=>(.ptr 31 0)) r∧bI ((fun (y:aQ)=>[(31,dC y)]) r) b
def bPw (r:aQ):Exit→St→Prop:=(eU (wkK (avc Tryz.prog aSk (aPr r))) (aPr r))
def bSu (r:aQ):Exit→St→Prop:=(eY 0 (bPw r))
def bLn (p0:List Int) (x3:Int) (x4:Int):St:=⟨[(0,(sN p0)),(3,(vI x3)),(4,(vI x4))],[]⟩
abbrev aDr:=fun p0 x3 x4 r=>avc Tryz.prog aJn (bSu r) (bLn p0 x3 x4)
def aYy:AC:=(.seq (.ops [.asg 4 (kI 0)]) (.seq (.seq (.ops [.mv 5 1,.mv 6 0,.len 7 6,.bin 8 .lss 5 7]) (.cond 8 (.seq (.ops [.mv 9 0,.mv 10 1,.ia 11 1 9 10,.ld 12 1 false 11,.cvi 13 .i64 12,.asg 4 13]) .ret) .skip)) (.seq (.ops [.mv 14 1,.bin 15 .mul 14 (kI 7),.mv 16 0,.len 17 16,.bin 18 .add 15 17,.bin 19 .rem 18 (kI 256),.asg 4 19]) .ret)))
theorem bBv:bP Tryz.prog 8=some (aYy,[.mv 0 4],20):=by kernel_rfl
def bV0 (r:Int):Exit→St→Prop:=bM [.mv 0 4] fun x _=>x=(fun y=>(vI y)) r
def bBg:AC:=(.seq (.ops [.asg 2 (kB false)]) (.seq (.ops [.mv 6 0,.call (some 7) 15 [6],.mv 5 7,.ext 8 5 0,.ext 9 5 1,.alc 3 fD,.st 10 3 8,.asg 4 9]) (.seq (.ops [.mv 10 4,.bin 11 .lss 10 (kI 0),.mv 12 11,.g 12 false (.mv 13 4),.g 12 false (.mv 14 0),.g 12 false (.len 15 14),.g 12 false (.bin 16 .eql 13 15),.pick 17 12 (kB true) 16,.asg 2 17]) .ret)))
theorem bAd:bP Tryz.prog 7=some (bBg,[.mv 0 2],18):=by kernel_rfl
def bVe (r:Bool):Exit→St→Prop:=bM [.mv 0 2] fun x _=>x=(fun y=>(vB y)) r
def bMm:AC:=(.seq (.ops [.alc 2 fD,.asg 3 (kI 0)]) (.seq (.ops [.mv 7 0,.bld 8 [(.nil 3),aR,eH] [(0,1,7)],.box 9 67 8,.asg 4 9]) (.seq (.ops [.mv 10 4,.call (some 11) 31 [10,(kI 1)],.alc 5 fD,.st 10 5 11]) (.seq (.ops [.mv 12 4,.call (some 13) 32 [12],.asg 6 13]) (.seq (.seq (.ops [.mv 14 6,.bin 15 .geq 14 (kI 0)]) (.cond 15 (.seq (.ops [.bld 16 [aR,aR,eH,aR,aR,aX,aX,aX,(.nil 10),(.nil 6)] [],.mv 17 6,.st 10 2 16,.asg 3 17]) .ret) .skip)) (.seq (.ops [.ld 18 10 true 5,.st 10 2 18,.asg 3 (kI (-1))]) .ret))))))
theorem bLh:bP Tryz.prog 15=some (bMm,[.ld 0 10 true 2,.mv 0 3],19):=by kernel_rfl
def bTu (r:aA×Int):Exit→St→Prop:=bM [.ld 0 10 true 2,.mv 0 3] fun x _=>x=(fun y=>(.tup [(bX y.1),(vI y.2)])) r
def bIz:AC:=(.seq (.ops [.asg 2 (kI 0)]) (.seq (.seq (.dops [[],[0],[1],[2],[3],[4],[5],[6,5],[7,5],[8,5],[5],[10,5],[11,5],[12,5],[13,5],[9,14,5],[5,15]] [.mv 3 0,.nck 4 3,.fa 5 2 4,.ld 6 1 false 5,.not 7 6,.mv 8 7,.g 8 true (.mv 9 0),.g 8 true (.nck 10 9),.g 8 true (.fa 11 1 10),.g 8 true (.ld 12 1 false 11),.g 8 true (.mv 13 0),.g 8 true (.nck 14 13),.g 8 true (.fa 15 0 14),.g 8 true (.ld 16 1 false 15),.g 8 true (.len 17 16),.g 8 true (.bin 18 .eql 12 17),.pick 19 8 18 (kB false)]) (.cond 19 (.seq (.ops [.asg 2 (kI (-1))]) .ret) .skip)) (.seq (.ops [.mv 20 0,.nck 21 20,.fa 22 1 21,.ld 23 1 false 22,.asg 2 23]) .ret)))
theorem bHq:bP Tryz.prog 32=some (bIz,[.mv 0 2],24):=by kernel_rfl
def bWq (p0:aU) (r:Int):Exit→St→Prop:=bM [.mv 0 2] fun x b=>x=(fun (y:Int)=>(vI y)) r∧bI ((fun (y:Int)=>[(1000000,bU p0)]) r) b
def aL8:AC:=(.loop (.seq (.seq (.ops [.mv 38 0,.nck 39 38,.fa 40 2 39,.ld 41 1 false 40,.not 42 41]) (.cond 42 .skip (.exit 1))) (.block 2 (.seq (.ops [.mv 43 0,.mv 44 1,.call (some 45) 55 [43,44],.asg 6 45]) (.seq (.seq (.ops [.mv 46 6,.bin 47 .eql 46 (kI 0)]) (.cond 47 (.exit 1) .skip)) (.seq (.ops [.mv 48 0,.call (some 49) 53 [48,(kB true)]]) (.dops [[],[],[],[],[3],[2,4],[1,5],[0,6],[7,5,0,1,2,3,4,5,6,7]] [.mv 50 6,.ld 51 10 true 5,.mv 52 0,.mv 53 1,.bin 54 .add 53 (kI 1),.call (some 55) 31 [52,54],.bsl 56 34 10 [51,55],.bld 57 [aR,aR,eH,aR,aR,aX,aX,aX,(.nil 10),(.nil 6)] [(0,1,(kI 4)),(1,1,50),(8,1,56)],.st 10 5 57])))))))
def aEg:AC:=(.seq (.ops [.ld 58 10 true 5,.st 10 4 58]) .ret)
def bR0:AC:=(.seq (.ops [.alc 4 fD]) (.seq (.seq (.ops [.mv 7 1]) (.block 0 (.seq (.ops [.bin 9 .eql 7 (kI 3),.asg 8 9]) (.cond 8 (.seq (.seq (.ops [.mv 10 0,.call (some 11) 50 [10,(kI 15)]]) (.cond 11 (.seq (.ops [.mv 12 0,.call (some 13) 31 [12,(kI 3)],.bsl 14 34 10 [13],.bld 15 [aR,aR,eH,aR,aR,aX,aX,aX,(.nil 10),(.nil 6)] [(0,1,(kI 3)),(1,1,(kI 15)),(8,1,14)],.st 10 4 15]) .ret) .skip)) (.seq (.ops [.mv 16 0,.call (some 17) 31 [16,(kI 4)],.st 10 4 17]) .ret)) (.seq (.ops [.bin 19 .eql 7 (kI 4),.asg 18 19]) (.cond 18 (.seq (.ops [.mv 20 0,.call (some 21) 51 [20],.st 10 4 21]) .ret) (.seq (.ops [.bin 23 .eql 7 (kI 8),.asg 22 23]) (.cond 22 (.seq (.seq (.ops [.mv 24 0,.call (some 25) 52 [24,(.c (.d (.s (bs [45]))))]]) (.cond 25 (.seq (.ops [.mv 26 0,.call (some 27) 53 [26,(kB true)]]) (.seq (.ops [.mv 28 0,.call (some 29) 31 [28,(kI 8)],.bsl 30 34 10 [29],.bld 31 [aR,aR,eH,aR,aR,aX,aX,aX,(.nil 10),(.nil 6)] [(0,1,(kI 3)),(1,1,(kI 16)),(8,1,30)],.st 10 4 31]) .ret)) .skip)) (.seq (.ops [.mv 32 0,.call (some 33) 54 [32],.st 10 4 33]) .ret)) .skip)))))))) (.seq (.ops [.mv 34 0,.mv 35 1,.bin 36 .add 35 (kI 1),.call (some 37) 31 [34,36],.alc 5 fD,.st 10 5 37]) (.seq (.block 1 aL8) aEg))))
theorem bHv:bP Tryz.prog 31=some (bR0,[.ld 0 10 true 4],59):=by kernel_rfl
def aKr (r:aA×aU):Exit→St→Prop:=bM [.ld 0 10 true 4] fun x b=>x=(fun (y:aA×aU)=>(bX y.1)) r∧bI ((fun (y:aA×aU)=>[(1000000,bU y.2)]) r) b
def bSg (r:aA×aU):Exit→St→Prop:=(eU (wkK (avc Tryz.prog aEg (aKr r))) (aKr r))
def bAx (r:aA×aU):Exit→St→Prop:=(eY 1 (bSg r))
def bFc (p1:Int) (iV:Int) (bL:Int) (bQ:Bool) (eQ:Int) (fP:Int) (fB:(List UInt8)×(List UInt8)×(List UInt8)×(List aA)×(List aY)×(List aJ)×Int×Bool):St:=⟨[(0,(.ptr 1000000 0)),(1,(vI p1)),(4,(.ptr 4 0)),(5,(.ptr 5 0))],[(4,[(vI 0),(vI 0),(vB false),(vI 0),(vI 0),(vS []),(vS []),(vS []),(.nil 10),(.nil 6)]),(5,fK (aA.mk iV bL bQ (bJ.mk eQ fP fB.1) fB.2.1 fB.2.2.1 fB.2.2.2.1 fB.2.2.2.2.1)),(1000000,bU (aU.mk fB.2.2.2.2.2.1 fB.2.2.2.2.2.2.1 fB.2.2.2.2.2.2.2))]⟩
abbrev aFa:=fun p1 iV bL bQ eQ fP fB r=>avc Tryz.prog aL8 (bAx r) (bFc p1 iV bL bQ eQ fP fB)
def bR9 (iV:Int) (bL:Int) (bQ:Bool) (eQ:Int) (fP:Int) (lX:List UInt8) (xW:List UInt8) (wV:List UInt8) (yQ:List aA) (yD:List aY) (bD:List aJ) (bC:Int) (bF:Bool):St:=⟨[(4,(.ptr 4 0)),(5,(.ptr 5 0))],[(4,[(vI 0),(vI 0),(vB false),(vI 0),(vI 0),(vS []),(vS []),(vS []),(.nil 10),(.nil 6)]),(5,fK (aA.mk iV bL bQ (bJ.mk eQ fP lX) xW wV yQ yD)),(1000000,bU (aU.mk bD bC bF))]⟩
abbrev aSr:=fun iV bL bQ eQ fP lX xW wV yQ yD bD bC bF r=>avc Tryz.prog aEg (aKr r) (bR9 iV bL bQ eQ fP lX xW wV yQ yD bD bC bF)
def aO7:AC:=(.seq (.ops [.ld 61 10 true 3,.st 10 2 61]) .ret)
def bBk:AC:=(.seq (.ops [.alc 2 fD]) (.seq (.ops [.mv 8 0,.call (some 9) 31 [8,(kI 5)],.alc 3 fD,.st 10 3 9]) (.seq (.ops [.mv 10 0,.call (some 11) 55 [10,(kI 4)],.asg 4 11]) (.seq (.seq (.ops [.mv 12 4,.bin 13 .gtr 12 (kI 0)]) (.cond 13 (.seq (.ops [.mv 14 0,.call (some 15) 53 [14,(kB true)]]) (.seq (.dops [[],[],[],[2],[1,3],[0,4],[5,3,0,1,2,3,4,5]] [.mv 16 4,.ld 17 10 true 3,.mv 18 0,.call (some 19) 31 [18,(kI 5)],.bsl 20 34 10 [17,19],.bld 21 [aR,aR,eH,aR,aR,aX,aX,aX,(.nil 10),(.nil 6)] [(0,1,(kI 4)),(1,1,16),(8,1,20)],.st 10 2 21]) .ret)) .skip)) (.seq (.seq (.ops [.mv 22 0,.call (some 23) 50 [22,(kI 16)]]) (.cond 23 (.seq (.ops [.mv 24 0,.call (some 25) 50 [24,(kI 15)],.asg 5 25]) (.seq (.ops [.mv 26 0,.mv 27 0,.call (some 28) 68 [27,(kI 20)],.call (some 29) 53 [26,28]]) (.seq (.ops [.mv 30 5,.ld 31 10 true 3,.bsl 32 34 10 [31],.bld 33 [aR,aR,eH,aR,aR,aX,aX,aX,(.nil 10),(.nil 6)] [(0,1,(kI 5)),(2,1,30),(8,1,32)],.st 10 2 33]) .ret))) .skip)) (.seq (.ops [.mv 34 0,.call (some 35) 50 [34,(kI 15)],.asg 6 35]) (.seq (.seq (.ops [.mv 36 0,.call (some 37) 50 [36,(kI 18)]]) (.cond 37 (.seq (.ops [.mv 38 0,.call (some 39) 31 [38,(kI 5)],.alc 7 fD,.st 10 7 39]) (.seq (.ops [.mv 40 0,.mv 41 0,.call (some 42) 68 [41,(kI 13)],.call (some 43) 53 [40,42]]) (.seq (.dops [[],[],[],[],[3],[1,2,4],[0,5],[6,4,0,1,2,3,4,5,6]] [.mv 44 6,.ld 45 10 true 3,.ld 46 10 true 7,.mv 47 0,.call (some 48) 31 [47,(kI 5)],.bsl 49 34 10 [45,46,48],.bld 50 [aR,aR,eH,aR,aR,aX,aX,aX,(.nil 10),(.nil 6)] [(0,1,(kI 6)),(2,1,44),(8,1,49)],.st 10 2 50]) .ret))) .skip)) (.seq (.seq (.ops [.mv 51 0,.call (some 52) 50 [51,(kI 17)]]) (.cond 52 (.seq (.ops [.mv 53 0,.ld 54 10 true 3,.mv 55 6,.call (some 56) 69 [53,54,55],.st 10 2 56]) .ret) .skip)) (.seq (.seq (.ops [.mv 57 6]) (.cond 57 (.ops [.mv 58 0,.nck 59 58,.fa 60 2 59,.st 1 60 (kB true)]) .skip)) aO7)))))))))
theorem bQ6:bP Tryz.prog 51=some (bBk,[.ld 0 10 true 2],62):=by kernel_rfl
def bBy (r:aA×aU):Exit→St→Prop:=bM [.ld 0 10 true 2] fun x b=>x=(fun (y:aA×aU)=>(bX y.1)) r∧bI ((fun (y:aA×aU)=>[(1000000,bU y.2)]) r) b
def bAn (y1:aA×aU) (y15:Bool×aU) (bF:Bool):St:=⟨[(2,(.ptr 2 0)),(3,(.ptr 3 0))],[(2,[(vI 0),(vI 0),(vB false),(vI 0),(vI 0),(vS []),(vS []),(vS []),(.nil 10),(.nil 6)]),(3,fK y1.1),(1000000,bU (aU.mk y15.2.t y15.2.at_ bF))]⟩
abbrev aQb:=fun y1 y15 bF r=>avc Tryz.prog aO7 (bBy r) (bAn y1 y15 bF)
def aKc:AC:=(.ops [.mv 10 5,.bin 11 .add 10 (kI 1),.asg 5 11])
def aEr:AC:=(.loop (.seq (.seq (.ops [.mv 8 5,.bin 9 .leq 8 (kI 14)]) (.cond 9 .skip (.exit 0))) (.seq (.block 1 (.seq (.seq (.ops [.mv 12 5,.bld 13 [aR,aR,eH,aR,aR,aX,aX,aX,(.nil 10),(.nil 6)] [(0,1,(kI 4)),(1,1,12)],.call (some 14) 42 [13],.mv 15 1,.bin 16 .neq 14 15]) (.cond 16 (.exit 1) .skip)) (.seq (.ops [.mv 17 5,.call (some 18) 24 [17],.alc 6 [aR,aX,aR],.st 3 6 18]) (.seq (.ops [.mv 19 0,.call (some 20) 70 [19,(kI 0)],.alc 7 [aR,aX,aR],.st 3 7 20]) (.seq (.ops [.fa 21 0 7,.ld 22 1 false 21,.fa 23 0 6,.ld 24 1 false 23,.bin 25 .eql 22 24,.mv 26 25,.g 26 true (.fa 27 1 7),.g 26 true (.ld 28 1 false 27),.g 26 true (.fa 29 1 6),.g 26 true (.ld 30 1 false 29),.g 26 true (.bin 31 .eql 28 30),.pick 32 26 31 (kB false)]) (.cond 32 (.seq (.ops [.mv 33 5,.asg 4 33]) .ret) .skip)))))) aKc)))
def aRc:AC:=(.seq (.ops [.asg 4 (kI 0)]) .ret)
def bJa:AC:=(.seq (.ops [.asg 4 (kI 0)]) (.seq (.seq (.ops [.asg 5 (kI 1)]) (.block 0 aEr)) aRc))
theorem bC4:bP Tryz.prog 55=some (bJa,[.mv 0 4],34):=by kernel_rfl
def aTn (p0:aU) (r:Int):Exit→St→Prop:=bM [.mv 0 4] fun x b=>x=(fun (y:Int)=>(vI y)) r∧bI ((fun (y:Int)=>[(1000000,bU p0)]) r) b
def bEl (p0:aU) (r:Int):Exit→St→Prop:=(eU (wkK (avc Tryz.prog aRc (aTn p0 r))) (aTn p0 r))
def aOm (p0:aU) (r:Int):Exit→St→Prop:=(eY 0 (bEl p0 r))
def bIw (p0:aU) (r:Int):Exit→St→Prop:=(eU (avc Tryz.prog aEr (aOm p0 r)) (aOm p0 r))
def bHz (p1:Int) (p0:aU) (x5:Int):St:=⟨[(0,(.ptr 1000000 0)),(1,(vI p1)),(5,(vI x5))],[(1000000,bU p0)]⟩
abbrev aF9:=fun p1 p0 x5 r=>avc Tryz.prog aEr (aOm p0 r) (bHz p1 p0 x5)
def bE1 (p1:Int) (x5:Int) (p0:aU):St:=⟨[(0,(.ptr 1000000 0)),(1,(vI p1)),(5,(vI x5))],[(1000000,bU p0)]⟩
abbrev aG6:=fun p1 x5 p0 r=>avc Tryz.prog aKc (bIw p0 r) (bE1 p1 x5 p0)
def bJd:AC:=(.seq (.ops [.alc 2 [aR,aX,aR]]) (.seq (.seq (.ops [.mv 3 0,.bin 4 .eql 3 (kI 1),.mv 5 4,.g 5 false (.mv 6 0),.g 5 false (.bin 7 .eql 6 (kI 2)),.pick 8 5 (kB true) 7,.mv 9 8,.g 9 false (.mv 10 0),.g 9 false (.bin 11 .eql 10 (kI 15)),.pick 12 9 (kB true) 11]) (.cond 12 (.seq (.ops [.mv 13 0,.call (some 14) 43 [13],.bld 15 [aR,aX,aR] [(0,1,(kI 1)),(1,1,14)],.st 3 2 15]) .ret) .skip)) (.seq (.ops [.mv 16 0,.call (some 17) 43 [16],.call (some 18) 22 [17],.st 3 2 18]) .ret)))
theorem bGh:bP Tryz.prog 24=some (bJd,[.ld 0 3 true 2],19):=by kernel_rfl
def bTq (r:aJ):Exit→St→Prop:=bM [.ld 0 3 true 2] fun x _=>x=(fun y=>(kP y)) r
def bLo:AC:=(.seq (.ops [.asg 2 (.c (.d (.s (bs []))))]) (.seq (.seq (.ops [.mv 3 0,.call (some 4) 62 [3,(kI 1),(kI 16)],.not 5 4]) (.cond 5 (.seq (.ops [.asg 2 (.c (.d (.s (bs []))))]) .ret) .skip)) (.seq (.ops [.bsl 6 9 1 [(.c (.d (.s (bs [])))),(.c (.d (.s (bs [79,82])))),(.c (.d (.s (bs [65,78,68])))),(.c (.d (.s (bs [61])))),(.c (.d (.s (bs [60,62])))),(.c (.d (.s (bs [60])))),(.c (.d (.s (bs [60,61])))),(.c (.d (.s (bs [62])))),(.c (.d (.s (bs [62,61])))),(.c (.d (.s (bs [124,124])))),(.c (.d (.s (bs [43])))),(.c (.d (.s (bs [45])))),(.c (.d (.s (bs [42])))),(.c (.d (.s (bs [47])))),(.c (.d (.s (bs [37])))),(.c (.d (.s (bs [78,79,84])))),(.c (.d (.s (bs [45]))))],.mv 7 0,.ia 8 1 6 7,.ld 9 1 false 8,.asg 2 9]) .ret)))
theorem bDj:bP Tryz.prog 43=some (bLo,[.mv 0 2],10):=by kernel_rfl
def bUa (r:List UInt8):Exit→St→Prop:=bM [.mv 0 2] fun x _=>x=(fun y=>(vS y)) r
def bI9:AC:=(.seq (.ops [.asg 6 (kB false)]) (.seq (.ops [.mv 7 0,.mv 8 1,.bin 9 .geq 7 8,.mv 10 9,.g 10 true (.mv 11 0),.g 10 true (.mv 12 2),.g 10 true (.bin 13 .leq 11 12),.pick 14 10 13 (kB false),.asg 6 14]) .ret))
theorem bN8:bP Tryz.prog 62=some (bI9,[.mv 0 6],15):=by kernel_rfl
def bV3 (r:Bool):Exit→St→Prop:=bM [.mv 0 6] fun x _=>x=(fun y=>(vB y)) r
def bE5:AC:=(.seq (.ops [.alc 2 [aR,aX,aR]]) (.seq (.ops [.mv 3 0,.bld 4 [aR,aX,aR] [(0,1,(kI 5)),(1,1,3)],.st 3 2 4]) .ret))
theorem bCx:bP Tryz.prog 22=some (bE5,[.ld 0 3 true 2],5):=by kernel_rfl
def bUu (r:aJ):Exit→St→Prop:=bM [.ld 0 3 true 2] fun x _=>x=(fun y=>(kP y)) r
def aNc:AC:=(.cond 9 (.seq (.ops [.asg 2 (kI 4)]) .ret) (.seq (.ops [.bin 15 .eql 4 (kI 3),.asg 14 15]) (.cond 14 (.seq (.seq (.ops [.fa 16 1 1,.ld 17 1 false 16,.bin 18 .eql 17 (kI 15)]) (.cond 18 (.seq (.ops [.asg 2 (kI 3)]) .ret) .skip)) (.seq (.ops [.fa 19 1 1,.ld 20 1 false 19,.bin 21 .eql 20 (kI 16)]) (.cond 21 (.seq (.ops [.asg 2 (kI 8)]) .ret) .skip))) (.seq (.ops [.bin 23 .eql 4 (kI 4),.asg 22 23]) (.cond 22 (.seq (.ops [.fa 24 1 1,.ld 25 1 false 24,.call (some 26) 62 [25,(kI 1),(kI 14)]]) (.cond 26 (.seq (.ops [.bsl 27 3 1 [(kI 0),(kI 1),(kI 2),(kI 4),(kI 4),(kI 4),(kI 4),(kI 4),(kI 4),(kI 5),(kI 6),(kI 6),(kI 7),(kI 7),(kI 7)],.fa 28 1 1,.ld 29 1 false 28,.ia 30 1 27 29,.ld 31 1 false 30,.asg 2 31]) .ret) .skip)) .skip)))))
def aJa:AC:=(.cond 5 (.seq (.ops [.asg 2 (kI 9)]) .ret) (.seq (.seq (.ops [.bin 10 .eql 4 (kI 5),.asg 9 10]) (.cond 9 .skip (.seq (.ops [.bin 11 .eql 4 (kI 6),.asg 9 11]) (.cond 9 .skip (.seq (.ops [.bin 12 .eql 4 (kI 7),.asg 9 12]) (.cond 9 .skip (.ops [.bin 13 .eql 4 (kI 8),.asg 9 13]))))))) aNc))
def aH8:AC:=(.seq (.ops [.asg 2 (kI 0)]) .ret)
def bL5:AC:=(.seq (.ops [.box 1 34 0,.asg 2 (kI 0)]) (.seq (.seq (.ops [.fa 3 0 1,.ld 4 1 false 3]) (.block 0 (.seq (.seq (.ops [.bin 6 .eql 4 (kI 1),.asg 5 6]) (.cond 5 .skip (.seq (.ops [.bin 7 .eql 4 (kI 2),.asg 5 7]) (.cond 5 .skip (.ops [.bin 8 .eql 4 (kI 9),.asg 5 8]))))) aJa))) aH8))
theorem bO5:bP Tryz.prog 42=some (bL5,[.mv 0 2],32):=by kernel_rfl
def aKs (r:Int):Exit→St→Prop:=bM [.mv 0 2] fun x _=>x=(fun y=>(vI y)) r
def bB7 (r:Int):Exit→St→Prop:=(eU (wkK (avc Tryz.prog aH8 (aKs r))) (aKs r))
def aP4 (r:Int):Exit→St→Prop:=(eY 0 (bB7 r))
def bDa (p0:aA) (x5:Bool):St:=⟨[(1,(.ptr 1 0)),(4,(vI p0.kind)),(5,(vB x5))],[(1,fK p0)]⟩
abbrev aTi:=fun p0 x5 r=>avc Tryz.prog aJa (aP4 r) (bDa p0 x5)
def bAi (p0:aA) (x9:Bool):St:=⟨[(1,(.ptr 1 0)),(4,(vI p0.kind)),(9,(vB x9))],[(1,fK p0)]⟩
abbrev aT7:=fun p0 x9 r=>avc Tryz.prog aNc (aP4 r) (bAi p0 x9)
def bCq:St:=⟨[],[]⟩
abbrev aWp:=fun r=>avc Tryz.prog aH8 (aKs r) (bCq)
def bCg:AC:=(.seq (.ops [.alc 4 [aR,aX,aR]]) (.seq (.seq (.dops [[],[0],[1],[2],[3],[4],[5,4],[6,4],[7,4],[4],[8,9,4],[4],[11,4],[12,4],[13,4],[14,4],[10,15,4],[4,16]] [.mv 5 0,.nck 6 5,.fa 7 2 6,.ld 8 1 false 7,.mv 9 8,.g 9 false (.mv 10 0),.g 9 false (.nck 11 10),.g 9 false (.fa 12 1 11),.g 9 false (.ld 13 1 false 12),.g 9 false (.mv 14 1),.g 9 false (.bin 15 .add 13 14),.g 9 false (.mv 16 0),.g 9 false (.nck 17 16),.g 9 false (.fa 18 0 17),.g 9 false (.ld 19 1 false 18),.g 9 false (.len 20 19),.g 9 false (.bin 21 .geq 15 20),.pick 22 9 (kB true) 21]) (.cond 22 (.seq (.ops [.bld 23 [aR,aX,aR] [],.st 3 4 23]) .ret) .skip)) (.seq (.dops [[],[0],[1],[2],[],[4],[5],[6],[],[7,8],[3,9],[10],[11,0,1,2,3,4,5,6,7,8,9,10,11]] [.mv 24 0,.nck 25 24,.fa 26 0 25,.ld 27 1 false 26,.mv 28 0,.nck 29 28,.fa 30 1 29,.ld 31 1 false 30,.mv 32 1,.bin 33 .add 31 32,.ia 34 3 27 33,.ld 35 3 true 34,.st 3 4 35]) .ret)))
theorem bJw:bP Tryz.prog 70=some (bCg,[.ld 0 3 true 4],36):=by kernel_rfl
def bVi (p0:aU) (r:aJ):Exit→St→Prop:=bM [.ld 0 3 true 4] fun x b=>x=(fun (y:aJ)=>(kP y)) r∧bI ((fun (y:aJ)=>[(1000000,bU p0)]) r) b
def aI6:AC:=(.loop (.seq (.seq (.ops [.mv 31 0,.call (some 32) 52 [31,(.c (.d (.s (bs [44]))))]]) (.cond 32 .skip (.exit 0))) (.block 1 (.seq (.ops [.mv 33 0,.call (some 34) 53 [33,(kB true)]]) (.ops [.mv 35 8,.mv 36 0,.call (some 37) 31 [36,(kI 1)],.bsl 38 34 10 [37],.app 39 34 10 136 35 38,.asg 8 39])))))
def aSv:AC:=(.seq (.ops [.mv 40 0,.mv 41 0,.call (some 42) 52 [41,(.c (.d (.s (bs [41]))))],.call (some 43) 53 [40,42]]) (.seq (.ops [.mv 44 2,.mv 45 8,.bld 46 [aR,aR,eH,aR,aR,aX,aX,aX,(.nil 10),(.nil 6)] [(0,1,(kI 7)),(2,1,44),(8,1,45)],.st 10 6 46]) .ret))
def bPb:AC:=(.seq (.ops [.box 4 34 1,.alc 6 fD]) (.seq (.ops [.mv 9 0,.mv 10 0,.call (some 11) 52 [10,(.c (.d (.s (bs [40]))))],.call (some 12) 53 [9,11]]) (.seq (.seq (.ops [.mv 13 0,.call (some 14) 68 [13,(kI 1)]]) (.cond 14 (.seq (.ops [.mv 15 0,.call (some 16) 76 [15],.alc 7 uG,.st 6 7 16]) (.seq (.ops [.mv 17 0,.mv 18 0,.call (some 19) 52 [18,(.c (.d (.s (bs [41]))))],.call (some 20) 53 [17,19]]) (.seq (.ops [.mv 21 2,.ld 22 10 true 4,.bsl 23 34 10 [22],.ld 24 6 true 7,.bsl 25 57 6 [24],.bld 26 [aR,aR,eH,aR,aR,aX,aX,aX,(.nil 10),(.nil 6)] [(0,1,(kI 8)),(2,1,21),(8,1,23),(9,1,25)],.st 10 6 26]) .ret))) .skip)) (.seq (.dops [[],[],[1],[0,2],[3,2,0,1,2,3]] [.ld 27 10 true 4,.mv 28 0,.call (some 29) 31 [28,(kI 1)],.bsl 30 34 10 [27,29],.asg 8 30]) (.seq (.block 0 aI6) aSv)))))
theorem bAj:bP Tryz.prog 69=some (bPb,[.ld 0 10 true 6],47):=by kernel_rfl
def aPh (r:aA×aU):Exit→St→Prop:=bM [.ld 0 10 true 6] fun x b=>x=(fun (y:aA×aU)=>(bX y.1)) r∧bI ((fun (y:aA×aU)=>[(1000000,bU y.2)]) r) b
def bKx (r:aA×aU):Exit→St→Prop:=(eU (wkK (avc Tryz.prog aSv (aPh r))) (aPh r))
def bHu (r:aA×aU):Exit→St→Prop:=(eY 0 (bKx r))
def bF7 (p2:Bool) (x8:List aA) (bD:List aJ) (bC:Int) (bF:Bool):St:=⟨[(0,(.ptr 1000000 0)),(2,(vB p2)),(6,(.ptr 6 0)),(8,(.osl 8 34 10 (x8.map bN)))],[(6,[(vI 0),(vI 0),(vB false),(vI 0),(vI 0),(vS []),(vS []),(vS []),(.nil 10),(.nil 6)]),(1000000,bU (aU.mk bD bC bF))]⟩
abbrev aGu:=fun p2 x8 bD bC bF r=>avc Tryz.prog aI6 (bHu r) (bF7 p2 x8 bD bC bF)
def aIh:AC:=(.loop (.seq (.seq (.ops [.mv 20 0,.call (some 21) 52 [20,(.c (.d (.s (bs [44]))))]]) (.cond 21 .skip (.exit 0))) (.block 1 (.seq (.ops [.mv 22 0,.call (some 23) 53 [22,(kB true)]]) (.dops [[],[0],[],[2],[3],[1,4,3],[0,1,2,3,4,5],[6,5,5,0,1,2,3,4,5]] [.fa 24 1 3,.ld 25 1 false 24,.mv 26 0,.call (some 27) 83 [26],.bsl 28 83 13 [27],.app 29 83 13 176 25 28,.fa 30 1 3,.st 1 30 29])))))
def aMe:AC:=(.ops [.fa 63 2 3,.ld 64 1 false 63,.ld 65 3 true 5,.bsl 66 97 3 [65],.app 67 97 3 56 64 66,.fa 68 2 3,.st 1 68 67])
def aE5:AC:=(.loop (.seq (.seq (.ops [.mv 42 0,.call (some 43) 52 [42,(.c (.d (.s (bs [44]))))],.mv 44 43,.g 44 false (.mv 45 0),.g 44 false (.call (some 46) 68 [45,(kI 4)]),.pick 47 44 (kB true) 46]) (.cond 47 .skip (.exit 2))) (.block 3 (.seq (.ops [.mv 48 0,.call (some 49) 68 [48,(kI 4)],.asg 4 49]) (.seq (.ops [.mv 50 0,.call (some 51) 53 [50,(kB true)]]) (.seq (.ops [.mv 52 0,.call (some 53) 84 [52],.alc 5 [aX,aX,(.nil 10)],.st 3 5 53]) (.seq (.seq (.ops [.mv 54 4]) (.cond 54 (.seq (.ops [.mv 55 0,.mv 56 0,.call (some 57) 68 [56,(kI 5)],.call (some 58) 53 [55,57]]) (.ops [.mv 59 0,.call (some 60) 31 [59,(kI 1)],.bsl 61 34 10 [60],.fa 62 2 5,.st 1 62 61])) .skip)) aMe)))))))
def aIk:AC:=(.loop (.seq (.seq (.ops [.mv 85 0,.call (some 86) 52 [85,(.c (.d (.s (bs [44]))))]]) (.cond 86 .skip (.exit 4))) (.block 5 (.seq (.ops [.mv 87 0,.call (some 88) 53 [87,(kB true)]]) (.dops [[],[0],[],[2],[3],[1,4,3],[0,1,2,3,4,5],[6,5,5,0,1,2,3,4,5]] [.fa 89 4 3,.ld 90 1 false 89,.mv 91 0,.call (some 92) 86 [91],.bsl 93 87 11 [92],.app 94 87 11 144 90 93,.fa 95 4 3,.st 1 95 94])))))
def aMd:AC:=(.seq (.ops [.ld 105 6 true 3,.st 6 2 105]) .ret)
def aGo:AC:=(.seq (.seq (.ops [.mv 96 0,.call (some 97) 50 [96,(kI 11)]]) (.cond 97 (.ops [.mv 99 0,.call (some 100) 73 [99,(kI 3)],.call (some 101) 72 [100],.mv 98 101,.ext 102 98 0,.ext 103 98 1,.fa 104 5 3,.st 1 104 102]) .skip)) aMd)
def aP6:AC:=(.seq (.ops [.mv 69 0,.call (some 70) 85 [69],.fa 71 3 3,.st 1 71 70]) (.seq (.seq (.ops [.mv 72 0,.call (some 73) 50 [72,(kI 7)]]) (.cond 73 (.seq (.ops [.mv 74 0,.mv 75 0,.call (some 76) 68 [75,(kI 8)],.call (some 77) 53 [74,76]]) (.seq (.dops [[],[0],[],[2],[3],[1,4,3],[0,1,2,3,4,5],[6,5,5,0,1,2,3,4,5]] [.fa 78 4 3,.ld 79 1 false 78,.mv 80 0,.call (some 81) 86 [80],.bsl 82 87 11 [81],.app 83 87 11 144 79 82,.fa 84 4 3,.st 1 84 83]) (.block 4 aIk))) .skip)) aGo))
def aTp:AC:=(.seq (.ops [.mv 31 0,.mv 32 0,.call (some 33) 68 [32,(kI 3)],.call (some 34) 53 [31,33]]) (.seq (.dops [[],[0],[],[2],[3],[1,4,3],[0,1,2,3,4,5],[6,5,5,0,1,2,3,4,5]] [.fa 35 2 3,.ld 36 1 false 35,.mv 37 0,.call (some 38) 84 [37],.bsl 39 97 3 [38],.app 40 97 3 56 36 39,.fa 41 2 3,.st 1 41 40]) (.seq (.block 2 aE5) aP6)))
def bSk:AC:=(.seq (.ops [.alc 2 uG]) (.seq (.ops [.mv 6 0,.mv 7 0,.call (some 8) 68 [7,(kI 1)],.call (some 9) 53 [6,8]]) (.seq (.ops [.mv 10 0,.call (some 11) 50 [10,(kI 2)],.bld 12 [eH,(.nil 13),(.nil 3),(.nil 10),(.nil 11),aR] [(0,1,11),(5,1,(kI (-1)))],.alc 3 uG,.st 6 3 12]) (.seq (.dops [[],[0],[],[2],[3],[1,4,3],[0,1,2,3,4,5],[6,5,5,0,1,2,3,4,5]] [.fa 13 1 3,.ld 14 1 false 13,.mv 15 0,.call (some 16) 83 [15],.bsl 17 83 13 [16],.app 18 83 13 176 14 17,.fa 19 1 3,.st 1 19 18]) (.seq (.block 0 aIh) aTp)))))
theorem bBz:bP Tryz.prog 76=some (bSk,[.ld 0 6 true 2],106):=by kernel_rfl
def yM (r:aY×aU):Exit→St→Prop:=bM [.ld 0 6 true 2] fun x b=>x=(fun (y:aY×aU)=>(mU y.1)) r∧bI ((fun (y:aY×aU)=>[(1000000,bU y.2)]) r) b
def bP0 (r:aY×aU):Exit→St→Prop:=(eU (wkK (avc Tryz.prog aTp (yM r))) (yM r))
def bQh (r:aY×aU):Exit→St→Prop:=(eY 0 (bP0 r))
def bNd (r:aY×aU):Exit→St→Prop:=(eU (wkK (avc Tryz.prog aP6 (yM r))) (yM r))
def aL0 (r:aY×aU):Exit→St→Prop:=(eY 2 (bNd r))
def bI5 (r:aY×aU):Exit→St→Prop:=(eU (avc Tryz.prog aE5 (aL0 r)) (aL0 r))
def bOq (r:aY×aU):Exit→St→Prop:=(eY 3 (bI5 r))
def bLc (r:aY×aU):Exit→St→Prop:=(eU (wkK (avc Tryz.prog aGo (yM r))) (yM r))
def aY2 (r:aY×aU):Exit→St→Prop:=(eY 4 (bLc r))
def bIv (y3:Bool×aU) (bG:List bV) (bD:List aJ) (bC:Int) (bF:Bool):St:=⟨[(0,(.ptr 1000000 0)),(2,(.ptr 2 0)),(3,(.ptr 3 0))],[(2,[(vB false),(.nil 13),(.nil 3),(.nil 10),(.nil 11),(vI 0)]),(3,[(vB y3.1),(.osl 18 83 13 (bG.map eG)),(.nil 3),(.nil 10),(.nil 11),(vI (-1))]),(1000000,bU (aU.mk bD bC bF))]⟩
abbrev aI5:=fun y3 bG bD bC bF r=>avc Tryz.prog aIh (bQh r) (bIv y3 bG bD bC bF)
def bQp (y3:Bool×aU) (bG:List bV) (dX:List bR) (kY:List aJ) (kZ:Int) (lD:Bool):St:=⟨[(0,(.ptr 1000000 0)),(2,(.ptr 2 0)),(3,(.ptr 3 0))],[(2,[(vB false),(.nil 13),(.nil 3),(.nil 10),(.nil 11),(vI 0)]),(3,[(vB y3.1),(.osl 18 83 13 (bG.map eG)),(.osl 40 97 3 (dX.map eP)),(.nil 10),(.nil 11),(vI (-1))]),(1000000,bU (aU.mk kY kZ lD))]⟩
abbrev aF0:=fun y3 bG dX kY kZ lD r=>avc Tryz.prog aE5 (aL0 r) (bQp y3 bG dX kY kZ lD)
def aYh (y3:Bool×aU) (bG:List bV) (dX:List bR) (y22:bR×aU) (bQ:List aA) (oV:List aJ) (nJ:Int×Bool):St:=⟨[(0,(.ptr 1000000 0)),(2,(.ptr 2 0)),(3,(.ptr 3 0)),(5,(.ptr 5 0))],[(2,[(vB false),(.nil 13),(.nil 3),(.nil 10),(.nil 11),(vI 0)]),(3,[(vB y3.1),(.osl 18 83 13 (bG.map eG)),(.osl 40 97 3 (dX.map eP)),(.nil 10),(.nil 11),(vI (-1))]),(5,aMw (bR.mk y22.1.table y22.1.as_ bQ)),(1000000,bU (aU.mk oV nJ.1 nJ.2))]⟩
abbrev aFt:=fun y3 bG dX y22 bQ oV nJ r=>avc Tryz.prog aMe (bOq r) (aYh y3 bG dX y22 bQ oV nJ)
def bBp (y3:Bool×aU) (bG:List bV) (dX:List bR) (y29:(List aA)×aU) (gM:List eB) (mV:List aJ) (kW:Int×Bool):St:=⟨[(0,(.ptr 1000000 0)),(2,(.ptr 2 0)),(3,(.ptr 3 0))],[(2,[(vB false),(.nil 13),(.nil 3),(.nil 10),(.nil 11),(vI 0)]),(3,[(vB y3.1),(.osl 18 83 13 (bG.map eG)),(.osl 40 97 3 (dX.map eP)),(.osl 70 34 10 (y29.1.map bN)),(.osl 83 87 11 (gM.map fZ)),(vI (-1))]),(1000000,bU (aU.mk mV kW.1 kW.2))]⟩
abbrev aD3:=fun y3 bG dX y29 gM mV kW r=>avc Tryz.prog aIk (aY2 r) (bBp y3 bG dX y29 gM mV kW)
def bCz (y3:Bool×aU) (bG:List bV) (dX:List bR) (y29:(List aA)×aU) (kG:List eB) (yN:List aJ) (yF:Int) (xZ:Bool):St:=⟨[(0,(.ptr 1000000 0)),(2,(.ptr 2 0)),(3,(.ptr 3 0))],[(2,[(vB false),(.nil 13),(.nil 3),(.nil 10),(.nil 11),(vI 0)]),(3,[(vB y3.1),(.osl 18 83 13 (bG.map eG)),(.osl 40 97 3 (dX.map eP)),(.osl 70 34 10 (y29.1.map bN)),(.osl 83 87 11 (kG.map fZ)),(vI (-1))]),(1000000,bU (aU.mk yN yF xZ))]⟩
abbrev aTu:=fun y3 bG dX y29 kG yN yF xZ r=>avc Tryz.prog aGo (yM r) (bCz y3 bG dX y29 kG yN yF xZ)
def bP2 (y3:Bool×aU) (bG:List bV) (dX:List bR) (y29:(List aA)×aU) (kG:List eB) (lK:Int) (wW:List aJ) (yG:Int) (vW:Bool):St:=⟨[(2,(.ptr 2 0)),(3,(.ptr 3 0))],[(2,[(vB false),(.nil 13),(.nil 3),(.nil 10),(.nil 11),(vI 0)]),(3,[(vB y3.1),(.osl 18 83 13 (bG.map eG)),(.osl 40 97 3 (dX.map eP)),(.osl 70 34 10 (y29.1.map bN)),(.osl 83 87 11 (kG.map fZ)),(vI lK)]),(1000000,bU (aU.mk wW yG vW))]⟩
abbrev aXk:=fun y3 bG dX y29 kG lK wW yG vW r=>avc Tryz.prog aMd (yM r) (bP2 y3 bG dX y29 kG lK wW yG vW)
def aJv:AC:=(.loop (.seq (.seq (.ops [.mv 15 5,.mv 16 0,.lns 17 16,.bin 18 .lss 15 17]) (.cond 18 .skip (.exit 0))) (.seq (.block 1 (.seq (.seq (.ops [.mv 21 0,.mv 22 5,.ix 23 21 22,.bin 24 .lss 23 (.c (.d (.i .u8 48))),.mv 25 24,.g 25 false (.mv 26 0),.g 25 false (.mv 27 5),.g 25 false (.ix 28 26 27),.g 25 false (.bin 29 .gtr 28 (.c (.d (.i .u8 57)))),.pick 30 25 (kB true) 29]) (.cond 30 (.seq (.ops [.asg 2 (kI 0),.asg 3 (kB false)]) .ret) .skip)) (.seq (.ops [.mv 31 0,.mv 32 5,.ix 33 31 32,.cvi 34 .i64 33,.bin 35 .sub 34 (kI 48),.asg 6 35]) (.seq (.seq (.ops [.mv 36 4,.mv 37 6,.bin 38 .sub (kI 9223372036854775807) 37,.bin 39 .quo 38 (kI 10),.bin 40 .gtr 36 39]) (.cond 40 (.seq (.ops [.asg 2 (kI 0),.asg 3 (kB false)]) .ret) .skip)) (.ops [.mv 41 4,.bin 42 .mul (kI 10) 41,.mv 43 6,.bin 44 .add 42 43,.asg 4 44]))))) (.ops [.mv 19 5,.bin 20 .add 19 (kI 1),.asg 5 20]))))
def aVd:AC:=(.seq (.seq (.ops [.mv 45 4,.call (some 46) 40 [45],.mv 47 0,.bin 48 .neq 46 47]) (.cond 48 (.seq (.ops [.asg 2 (kI 0),.asg 3 (kB false)]) .ret) .skip)) (.seq (.ops [.mv 49 4,.asg 2 49,.asg 3 (kB true)]) .ret))
def aY8:AC:=(.seq (.ops [.asg 2 (kI 0),.asg 3 (kB false)]) (.seq (.seq (.ops [.mv 7 0,.lns 8 7,.bin 9 .lss 8 (kI 1),.mv 10 9,.g 10 false (.mv 11 0),.g 10 false (.lns 12 11),.g 10 false (.bin 13 .gtr 12 (kI 19)),.pick 14 10 (kB true) 13]) (.cond 14 (.seq (.ops [.asg 2 (kI 0),.asg 3 (kB false)]) .ret) .skip)) (.seq (.ops [.asg 4 (kI 0)]) (.seq (.seq (.ops [.asg 5 (kI 0)]) (.block 0 aJv)) aVd))))
theorem bDk:bP Tryz.prog 72=some (aY8,[.mv 0 2,.mv 0 3],50):=by kernel_rfl
def aQy (r:Int×Bool):Exit→St→Prop:=bM [.mv 0 2,.mv 0 3] fun x _=>x=(fun y=>(.tup [(vI y.1),(vB y.2)])) r
def bKg (r:Int×Bool):Exit→St→Prop:=(eU (wkK (avc Tryz.prog aVd (aQy r))) (aQy r))
def bHp (r:Int×Bool):Exit→St→Prop:=(eY 0 (bKg r))
def bPh (p0:List UInt8) (x4:Int) (x5:Int):St:=⟨[(0,(vS p0)),(4,(vI x4)),(5,(vI x5))],[]⟩
abbrev aF7:=fun p0 x4 x5 r=>avc Tryz.prog aJv (bHp r) (bPh p0 x4 x5)
def aNx:AC:=(.seq (.ops [.mv 18 5,.bin 19 .add (kI 48) 18,.cvi 20 .u8 19,.bsl 21 5 1 [20],.cbs 22 21,.mv 23 4,.bin 24 .add 22 23,.asg 4 24]) (.ops [.mv 25 0,.bin 26 .quo 25 (kI 10),.asg 0 26]))
def aHm:AC:=(.loop (.seq (.seq (.ops [.mv 10 0,.bin 11 .neq 10 (kI 0)]) (.cond 11 .skip (.exit 0))) (.block 1 (.seq (.ops [.mv 12 0,.bin 13 .rem 12 (kI 10),.asg 5 13]) (.seq (.seq (.ops [.mv 14 5,.bin 15 .lss 14 (kI 0)]) (.cond 15 (.ops [.mv 16 5,.bin 17 .sub (kI 0) 16,.asg 5 17]) .skip)) aNx)))))
def aVz:AC:=(.seq (.seq (.ops [.mv 27 3]) (.cond 27 (.seq (.ops [.mv 28 4,.bin 29 .add (.c (.d (.s (bs [45])))) 28,.asg 2 29]) .ret) .skip)) (.seq (.ops [.mv 30 4,.asg 2 30]) .ret))
def bGt:AC:=(.seq (.ops [.asg 2 (.c (.d (.s (bs []))))]) (.seq (.seq (.ops [.mv 6 0,.bin 7 .eql 6 (kI 0)]) (.cond 7 (.seq (.ops [.asg 2 (.c (.d (.s (bs [48]))))]) .ret) .skip)) (.seq (.ops [.mv 8 0,.bin 9 .lss 8 (kI 0),.asg 3 9]) (.seq (.ops [.asg 4 (.c (.d (.s (bs []))))]) (.seq (.block 0 aHm) aVz)))))
theorem bLy:bP Tryz.prog 40=some (bGt,[.mv 0 2],31):=by kernel_rfl
def aQt (r:List UInt8):Exit→St→Prop:=bM [.mv 0 2] fun x _=>x=(fun y=>(vS y)) r
def bFi (r:List UInt8):Exit→St→Prop:=(eU (wkK (avc Tryz.prog aVz (aQt r))) (aQt r))
def aJm (r:List UInt8):Exit→St→Prop:=(eY 0 (bFi r))
def bCr (r:List UInt8):Exit→St→Prop:=(eU (avc Tryz.prog aHm (aJm r)) (aJm r))
def bF4 (r:List UInt8):Exit→St→Prop:=(eY 1 (bCr r))
def bPy (p0:Int) (x0:Int) (x4:List UInt8):St:=⟨[(0,(vI x0)),(3,(vB (decide (p0<0)))),(4,(vS x4))],[]⟩
abbrev aDi:=fun p0 x0 x4 r=>avc Tryz.prog aHm (aJm r) (bPy p0 x0 x4)
def bBq (x0:Int) (p0:Int) (x4:List UInt8) (x5:Int):St:=⟨[(0,(vI x0)),(3,(vB (decide (p0<0)))),(4,(vS x4)),(5,(vI x5))],[]⟩
abbrev aF4:=fun x0 p0 x4 x5 r=>avc Tryz.prog aNx (bF4 r) (bBq x0 p0 x4 x5)
def bIs:AC:=(.seq (.ops [.alc 2 aMp]) (.seq (.ops [.mv 4 0,.call (some 5) 31 [4,(kI 1)],.alc 3 fD,.st 10 3 5]) (.seq (.seq (.ops [.mv 6 0,.call (some 7) 50 [6,(kI 10)]]) (.cond 7 (.seq (.ops [.ld 8 10 true 3,.bld 9 [aR,aR,eH,aR,aR,aX,aX,aX,(.nil 10),(.nil 6),eH] [(0,10,8),(10,1,(kB true))],.st 11 2 9]) .ret) .skip)) (.seq (.ops [.mv 10 0,.call (some 11) 50 [10,(kI 9)]]) (.seq (.ops [.ld 12 10 true 3,.bld 13 [aR,aR,eH,aR,aR,aX,aX,aX,(.nil 10),(.nil 6),eH] [(0,10,12)],.st 11 2 13]) .ret)))))
theorem bJ2:bP Tryz.prog 86=some (bIs,[.ld 0 11 true 2],14):=by kernel_rfl
def bVm (r:eB×aU):Exit→St→Prop:=bM [.ld 0 11 true 2] fun x b=>x=(fun (y:eB×aU)=>(xL y.1)) r∧bI ((fun (y:eB×aU)=>[(1000000,bU y.2)]) r) b
def aMq:AC:=(.seq (.ops [.mv 12 5,.asg 4 12]) .ret)
def bGd:AC:=(.seq (.ops [.asg 4 (kB false)]) (.seq (.ops [.mv 6 0,.mv 7 1,.call (some 8) 68 [6,7],.asg 5 8]) (.seq (.seq (.ops [.mv 9 5]) (.cond 9 (.ops [.mv 10 0,.call (some 11) 53 [10,(kB true)]]) .skip)) aMq)))
theorem bM5:bP Tryz.prog 50=some (bGd,[.mv 0 4],13):=by kernel_rfl
def bTa (r:Bool×aU):Exit→St→Prop:=bM [.mv 0 4] fun x b=>x=(fun (y:Bool×aU)=>(vB y.1)) r∧bI ((fun (y:Bool×aU)=>[(1000000,bU y.2)]) r) b
def bEs (y1:Bool) (bD:List aJ) (bC:Int) (bF:Bool):St:=⟨[(5,(vB y1))],[(1000000,bU (aU.mk bD bC bF))]⟩
abbrev aPj:=fun y1 bD bC bF r=>avc Tryz.prog aMq (bTa r) (bEs y1 bD bC bF)
def bS7:AC:=(.seq (.seq (.ops [.mv 4 1,.not 5 4,.mv 6 5,.g 6 false (.mv 7 0),.g 6 false (.nck 8 7),.g 6 false (.fa 9 2 8),.g 6 false (.ld 10 1 false 9),.pick 11 6 (kB true) 10]) (.cond 11 (.seq (.ops [.mv 12 0,.nck 13 12,.fa 14 2 13,.st 1 14 (kB true)]) .ret) .skip)) (.ops [.mv 15 0,.mv 16 0,.nck 17 16,.fa 18 1 17,.ld 19 1 false 18,.bin 20 .add 19 (kI 1),.nck 21 15,.fa 22 1 21,.st 1 22 20]))
theorem bRf:bP Tryz.prog 53=some (bS7,[],23):=by kernel_rfl
def bTg (r:aU):Exit→St→Prop:=bM [] fun x b=>x=(fun (y:aU)=>(.tup [])) r∧bI ((fun (y:aU)=>[(1000000,bU y)]) r) b
def bCs:AC:=(.seq (.ops [.asg 4 (kB false)]) (.seq (.ops [.mv 6 0,.call (some 7) 70 [6,(kI 0)],.alc 5 [aR,aX,aR],.st 3 5 7]) (.seq (.dops [[],[0],[1],[2],[3],[4,3],[3],[6,3,3],[5,7,3],[3,8],[9,7,0,1,2,3,4,5,6,7,8,9]] [.fa 8 0 5,.ld 9 1 false 8,.bin 10 .eql 9 (kI 1),.mv 11 10,.g 11 true (.fa 12 1 5),.g 11 true (.ld 13 1 false 12),.g 11 true (.mv 14 1),.g 11 true (.call (some 15) 47 [14]),.g 11 true (.bin 16 .eql 13 15),.pick 17 11 16 (kB false),.asg 4 17]) .ret)))
theorem bIe:bP Tryz.prog 68=some (bCs,[.mv 0 4],18):=by kernel_rfl
def bUf (p0:aU) (r:Bool):Exit→St→Prop:=bM [.mv 0 4] fun x b=>x=(fun (y:Bool)=>(vB y)) r∧bI ((fun (y:Bool)=>[(1000000,bU p0)]) r) b
def bBh:AC:=(.seq (.ops [.asg 2 (.c (.d (.s (bs []))))]) (.seq (.seq (.ops [.mv 3 0,.call (some 4) 62 [3,(kI 1),(kI 28)],.not 5 4]) (.cond 5 (.seq (.ops [.asg 2 (.c (.d (.s (bs []))))]) .ret) .skip)) (.seq (.ops [.call (some 6) 59 [],.mv 7 0,.ia 8 1 6 7,.ld 9 1 false 8,.asg 2 9]) .ret)))
theorem bK7:bP Tryz.prog 47=some (bBh,[.mv 0 2],10):=by kernel_rfl
def bWm (r:List UInt8):Exit→St→Prop:=bM [.mv 0 2] fun x _=>x=(fun y=>(vS y)) r
def bH2:AC:=(.seq (.ops [.asg 0 (.c (.nil 1))]) (.seq (.ops [.bsl 1 9 1 [(.c (.d (.s (bs [])))),(.c (.d (.s (bs [83,69,76,69,67,84])))),(.c (.d (.s (bs [68,73,83,84,73,78,67,84])))),(.c (.d (.s (bs [70,82,79,77])))),(.c (.d (.s (bs [74,79,73,78])))),(.c (.d (.s (bs [79,78])))),(.c (.d (.s (bs [87,72,69,82,69])))),(.c (.d (.s (bs [79,82,68,69,82])))),(.c (.d (.s (bs [66,89])))),(.c (.d (.s (bs [65,83,67])))),(.c (.d (.s (bs [68,69,83,67])))),(.c (.d (.s (bs [76,73,77,73,84])))),(.c (.d (.s (bs [65,83])))),(.c (.d (.s (bs [65,78,68])))),(.c (.d (.s (bs [79,82])))),(.c (.d (.s (bs [78,79,84])))),(.c (.d (.s (bs [73,83])))),(.c (.d (.s (bs [73,78])))),(.c (.d (.s (bs [66,69,84,87,69,69,78])))),(.c (.d (.s (bs [69,88,73,83,84,83])))),(.c (.d (.s (bs [78,85,76,76])))),(.c (.d (.s (bs [84,82,85,69])))),(.c (.d (.s (bs [70,65,76,83,69])))),(.c (.d (.s (bs [73,78,83,69,82,84])))),(.c (.d (.s (bs [73,78,84,79])))),(.c (.d (.s (bs [86,65,76,85,69,83])))),(.c (.d (.s (bs [85,80,68,65,84,69])))),(.c (.d (.s (bs [83,69,84])))),(.c (.d (.s (bs [68,69,76,69,84,69]))))],.asg 0 1]) .ret))
theorem bEy:bP Tryz.prog 59=some (bH2,[.mv 0 0],2):=by kernel_rfl
def bV8 (r:List (List UInt8)):Exit→St→Prop:=bM [.mv 0 0] fun x b=>x=(fun (y:List (List UInt8))=>(.osl 2000000 9 1 (y.map cStr))) r∧bI ((fun (y:List (List UInt8))=>[]) r) b
def aYz:AC:=(.seq (.ops [.asg 2 (.c (.nil 10))]) (.seq (.seq (.ops [.mv 3 0,.call (some 4) 50 [3,(kI 6)]]) (.cond 4 (.seq (.ops [.mv 5 0,.call (some 6) 31 [5,(kI 1)],.bsl 7 34 10 [6],.asg 2 7]) .ret) .skip)) (.seq (.ops [.asg 2 (.c (.nil 10))]) .ret)))
theorem aZ7:bP Tryz.prog 85=some (aYz,[.mv 0 2],8):=by kernel_rfl
def bU5 (r:(List aA)×aU):Exit→St→Prop:=bM [.mv 0 2] fun x b=>x=(fun (y:(List aA)×aU)=>(.osl 2000000 34 10 (y.1.map bN))) r∧bI ((fun (y:(List aA)×aU)=>[(1000000,bU y.2)]) r) b
def bE4:AC:=(.seq (.ops [.alc 2 [aX,aX,(.nil 10)]]) (.seq (.ops [.mv 4 0,.call (some 5) 73 [4,(kI 2)],.asg 3 5]) (.seq (.ops [.mv 6 3,.mv 7 0,.call (some 8) 95 [7],.bld 9 [aX,aX,(.nil 10)] [(0,1,6),(1,1,8)],.st 3 2 9]) .ret)))
theorem bAg:bP Tryz.prog 84=some (bE4,[.ld 0 3 true 2],10):=by kernel_rfl
def bUz (r:bR×aU):Exit→St→Prop:=bM [.ld 0 3 true 2] fun x b=>x=(fun (y:bR×aU)=>(aEw y.1)) r∧bI ((fun (y:bR×aU)=>[(1000000,bU y.2)]) r) b
def bSb:AC:=(.seq (.ops [.asg 4 (.c (.d (.s (bs []))))]) (.seq (.ops [.mv 6 0,.call (some 7) 70 [6,(kI 0)],.alc 5 [aR,aX,aR],.st 3 5 7]) (.seq (.ops [.mv 8 0,.mv 9 0,.mv 10 1,.call (some 11) 71 [9,10],.call (some 12) 53 [8,11]]) (.seq (.seq (.ops [.mv 13 0,.nck 14 13,.fa 15 2 14,.ld 16 1 false 15]) (.cond 16 (.seq (.ops [.asg 4 (.c (.d (.s (bs []))))]) .ret) .skip)) (.seq (.ops [.fa 17 1 5,.ld 18 1 false 17,.asg 4 18]) .ret)))))
theorem aYx:bP Tryz.prog 73=some (bSb,[.mv 0 4],19):=by kernel_rfl
def bV9 (r:(List UInt8)×aU):Exit→St→Prop:=bM [.mv 0 4] fun x b=>x=(fun (y:(List UInt8)×aU)=>(vS y.1)) r∧bI ((fun (y:(List UInt8)×aU)=>[(1000000,bU y.2)]) r) b
def bQd:AC:=(.seq (.ops [.asg 4 (kB false)]) (.seq (.ops [.mv 6 0,.call (some 7) 70 [6,(kI 0)],.alc 5 [aR,aX,aR],.st 3 5 7]) (.seq (.ops [.fa 8 0 5,.ld 9 1 false 8,.mv 10 1,.bin 11 .eql 9 10,.mv 12 11,.g 12 true (.ld 13 3 true 5),.g 12 true (.call (some 14) 82 [13]),.pick 15 12 14 (kB false),.asg 4 15]) .ret)))
theorem bP4:bP Tryz.prog 71=some (bQd,[.mv 0 4],16):=by kernel_rfl
def bTe (p0:aU) (r:Bool):Exit→St→Prop:=bM [.mv 0 4] fun x b=>x=(fun (y:Bool)=>(vB y)) r∧bI ((fun (y:Bool)=>[(1000000,bU p0)]) r) b
def bLs:AC:=(.seq (.ops [.box 1 46 0,.asg 2 (kB false)]) (.seq (.seq (.ops [.fa 5 0 1,.ld 6 1 false 5]) (.block 0 (.seq (.ops [.bin 8 .eql 6 (kI 1),.asg 7 8]) (.cond 7 (.seq (.dops [[],[0],[1],[2],[3,2],[4],[5,4],[6,4,4],[4],[8,4],[7,9,4],[4,10],[11,7,0,1,2,3,4,5,6,7,8,9,10,11]] [.fa 9 1 1,.ld 10 1 false 9,.call (some 11) 91 [10],.bin 12 .gtr 11 (kI 0),.mv 13 12,.g 13 true (.fa 14 1 1),.g 13 true (.ld 15 1 false 14),.g 13 true (.call (some 16) 92 [15]),.g 13 true (.fa 17 1 1),.g 13 true (.ld 18 1 false 17),.g 13 true (.bin 19 .eql 16 18),.pick 20 13 19 (kB false),.asg 2 20]) .ret) (.seq (.ops [.bin 22 .eql 6 (kI 2),.asg 21 22]) (.cond 21 (.seq (.ops [.fa 23 1 1,.ld 24 1 false 23,.call (some 25) 93 [24],.asg 2 25]) .ret) (.seq (.ops [.bin 27 .eql 6 (kI 3),.asg 26 27]) (.cond 26 (.seq (.ops [.fa 29 1 1,.ld 30 1 false 29,.call (some 31) 72 [30],.mv 28 31,.ext 32 28 0,.ext 33 28 1,.asg 3 32,.asg 4 33]) (.seq (.ops [.mv 34 4,.asg 2 34]) .ret)) (.seq (.ops [.bin 36 .eql 6 (kI 4),.asg 35 36]) (.cond 35 (.seq (.ops [.fa 37 1 1,.ld 38 1 false 37,.lns 39 38,.bin 40 .leq 39 (kI 40),.asg 2 40]) .ret) (.seq (.ops [.bin 42 .eql 6 (kI 5),.asg 41 42]) (.cond 41 (.seq (.ops [.fa 43 1 1,.ld 44 1 false 43,.call (some 45) 94 [44],.asg 2 45]) .ret) .skip)))))))))))) (.seq (.ops [.asg 2 (kB false)]) .ret)))
theorem bHn:bP Tryz.prog 82=some (bLs,[.mv 0 2],46):=by kernel_rfl
def bU8 (r:Bool):Exit→St→Prop:=bM [.mv 0 2] fun x _=>x=(fun y=>(vB y)) r
def bHo:AC:=(.seq (.ops [.asg 2 (kB false)]) (.seq (.ops [.mv 3 0,.lns 4 3,.call (some 5) 62 [4,(kI 1),(kI 20)],.asg 2 5]) .ret))
theorem bEg:bP Tryz.prog 93=some (bHo,[.mv 0 2],6):=by kernel_rfl
def bW0 (r:Bool):Exit→St→Prop:=bM [.mv 0 2] fun x _=>x=(fun y=>(vB y)) r
def aIs:AC:=(.loop (.seq (.seq (.ops [.mv 12 5,.mv 13 4,.len 14 13,.bin 15 .lss 12 14]) (.cond 15 .skip (.exit 0))) (.seq (.block 1 (.seq (.ops [.mv 18 4,.mv 19 5,.ia 20 1 18 19,.ld 21 1 false 20,.mv 22 3,.bin 23 .eql 21 22]) (.cond 23 (.seq (.ops [.mv 24 5,.asg 2 24]) .ret) .skip))) (.ops [.mv 16 5,.bin 17 .add 16 (kI 1),.asg 5 17]))))
def aRi:AC:=(.seq (.ops [.asg 2 (kI 0)]) .ret)
def bHi:AC:=(.seq (.ops [.asg 2 (kI 0)]) (.seq (.seq (.ops [.mv 6 0,.lns 7 6,.bin 8 .gtr 7 (kI 8)]) (.cond 8 (.seq (.ops [.asg 2 (kI 0)]) .ret) .skip)) (.seq (.ops [.mv 9 0,.call (some 10) 92 [9],.asg 3 10]) (.seq (.ops [.call (some 11) 59 [],.asg 4 11]) (.seq (.seq (.ops [.asg 5 (kI 1)]) (.block 0 aIs)) aRi)))))
theorem bRr:bP Tryz.prog 91=some (bHi,[.mv 0 2],25):=by kernel_rfl
def aRy (r:Int):Exit→St→Prop:=bM [.mv 0 2] fun x _=>x=(fun y=>(vI y)) r
def bOx (r:Int):Exit→St→Prop:=(eU (wkK (avc Tryz.prog aRi (aRy r))) (aRy r))
def bQ7 (r:Int):Exit→St→Prop:=(eY 0 (bOx r))
def bJ0 (y1:List UInt8) (y2:List (List UInt8)) (x5:Int):St:=⟨[(3,(vS y1)),(4,(.osl 4 9 1 (y2.map cStr))),(5,(vI x5))],[]⟩
abbrev aFf:=fun y1 y2 x5 r=>avc Tryz.prog aIs (bQ7 r) (bJ0 y1 y2 x5)
def aKw:AC:=(.ops [.mv 11 4,.bin 12 .add 11 (kI 1),.asg 4 12])
def aH3:AC:=(.loop (.seq (.seq (.ops [.mv 7 4,.mv 8 3,.len 9 8,.bin 10 .lss 7 9]) (.cond 10 .skip (.exit 0))) (.seq (.block 1 (.seq (.ops [.mv 13 3,.mv 14 4,.ia 15 1 13 14,.ld 16 1 false 15,.bin 17 .geq 16 (.c (.d (.i .u8 97))),.mv 18 17,.g 18 true (.mv 19 3),.g 18 true (.mv 20 4),.g 18 true (.ia 21 1 19 20),.g 18 true (.ld 22 1 false 21),.g 18 true (.bin 23 .leq 22 (.c (.d (.i .u8 122)))),.pick 24 18 23 (kB false)]) (.cond 24 (.ops [.mv 25 3,.mv 26 4,.mv 27 3,.mv 28 4,.ia 29 1 27 28,.ld 30 1 false 29,.bin 31 .sub 30 (.c (.d (.i .u8 32))),.ia 32 1 25 26,.st 1 32 31]) .skip))) aKw)))
def aHy:AC:=(.seq (.ops [.mv 33 3,.cbs 34 33,.asg 2 34]) .ret)
def bOo:AC:=(.seq (.ops [.asg 2 (.c (.d (.s (bs []))))]) (.seq (.ops [.mv 5 0,.csb 6 5 5,.asg 3 6]) (.seq (.seq (.ops [.asg 4 (kI 0)]) (.block 0 aH3)) aHy)))
theorem bJu:bP Tryz.prog 92=some (bOo,[.mv 0 2],35):=by kernel_rfl
def aJe (r:List UInt8):Exit→St→Prop:=bM [.mv 0 2] fun x _=>x=(fun y=>(vS y)) r
def bQi (r:List UInt8):Exit→St→Prop:=(eU (wkK (avc Tryz.prog aHy (aJe r))) (aJe r))
def aOk (r:List UInt8):Exit→St→Prop:=(eY 0 (bQi r))
def bAk (r:List UInt8):Exit→St→Prop:=(eU (avc Tryz.prog aH3 (aOk r)) (aOk r))
def bLm (x4:Int) (gX:List Int):St:=⟨[(3,(.tre 60013000)),(4,(vI x4))],[(60013000,[(.trc 1 (gX.map cU8))])]⟩
abbrev aDc:=fun x4 gX r=>avc Tryz.prog aH3 (aOk r) (bLm x4 gX)
def bC6 (x4:Int) (pK:List Int):St:=⟨[(3,(.tre 60052000)),(4,(vI x4))],[(60052000,[(.trc 1 (pK.map cU8))])]⟩
abbrev aD8:=fun x4 pK r=>avc Tryz.prog aKw (bAk r) (bC6 x4 pK)
def bDu (x3:List Int):St:=⟨[(3,(sN x3))],[]⟩
abbrev aTr:=fun x3 r=>avc Tryz.prog aHy (aJe r) (bDu x3)
def aO2:AC:=(.cond 4 (.seq (.ops [.asg 2 (kB true)]) .ret) .skip)
def aTg:AC:=(.seq (.ops [.asg 2 (kB false)]) .ret)
def bOf:AC:=(.seq (.ops [.asg 2 (kB false)]) (.seq (.seq (.ops [.mv 3 0]) (.block 0 (.seq (.seq (.ops [.bin 5 .eql 3 (.c (.d (.s (bs [40])))),.asg 4 5]) (.cond 4 .skip (.seq (.ops [.bin 6 .eql 3 (.c (.d (.s (bs [41])))),.asg 4 6]) (.cond 4 .skip (.seq (.ops [.bin 7 .eql 3 (.c (.d (.s (bs [44])))),.asg 4 7]) (.cond 4 .skip (.seq (.ops [.bin 8 .eql 3 (.c (.d (.s (bs [46])))),.asg 4 8]) (.cond 4 .skip (.seq (.ops [.bin 9 .eql 3 (.c (.d (.s (bs [42])))),.asg 4 9]) (.cond 4 .skip (.seq (.ops [.bin 10 .eql 3 (.c (.d (.s (bs [43])))),.asg 4 10]) (.cond 4 .skip (.seq (.ops [.bin 11 .eql 3 (.c (.d (.s (bs [45])))),.asg 4 11]) (.cond 4 .skip (.seq (.ops [.bin 12 .eql 3 (.c (.d (.s (bs [47])))),.asg 4 12]) (.cond 4 .skip (.seq (.ops [.bin 13 .eql 3 (.c (.d (.s (bs [37])))),.asg 4 13]) (.cond 4 .skip (.seq (.ops [.bin 14 .eql 3 (.c (.d (.s (bs [61])))),.asg 4 14]) (.cond 4 .skip (.seq (.ops [.bin 15 .eql 3 (.c (.d (.s (bs [60,62])))),.asg 4 15]) (.cond 4 .skip (.seq (.ops [.bin 16 .eql 3 (.c (.d (.s (bs [60])))),.asg 4 16]) (.cond 4 .skip (.seq (.ops [.bin 17 .eql 3 (.c (.d (.s (bs [60,61])))),.asg 4 17]) (.cond 4 .skip (.seq (.ops [.bin 18 .eql 3 (.c (.d (.s (bs [62])))),.asg 4 18]) (.cond 4 .skip (.seq (.ops [.bin 19 .eql 3 (.c (.d (.s (bs [62,61])))),.asg 4 19]) (.cond 4 .skip (.ops [.bin 20 .eql 3 (.c (.d (.s (bs [124,124])))),.asg 4 20]))))))))))))))))))))))))))))))) aO2))) aTg))
theorem bHd:bP Tryz.prog 94=some (bOf,[.mv 0 2],21):=by kernel_rfl
def aPt (r:Bool):Exit→St→Prop:=bM [.mv 0 2] fun x _=>x=(fun y=>(vB y)) r
def bQy (r:Bool):Exit→St→Prop:=(eU (wkK (avc Tryz.prog aTg (aPt r))) (aPt r))
def bNm (r:Bool):Exit→St→Prop:=(eY 0 (bQy r))
def bPt (x4:Bool):St:=⟨[(4,(vB x4))],[]⟩
abbrev aUo:=fun x4 r=>avc Tryz.prog aO2 (bNm r) (bPt x4)
def bPn:AC:=(.seq (.ops [.asg 2 (.c (.d (.s (bs []))))]) (.seq (.seq (.ops [.mv 3 0,.call (some 4) 50 [3,(kI 12)]]) (.cond 4 (.seq (.ops [.mv 5 0,.call (some 6) 73 [5,(kI 2)],.asg 2 6]) .ret) .skip)) (.seq (.ops [.asg 2 (.c (.d (.s (bs []))))]) .ret)))
theorem bF8:bP Tryz.prog 95=some (bPn,[.mv 0 2],7):=by kernel_rfl
def bWu (r:(List UInt8)×aU):Exit→St→Prop:=bM [.mv 0 2] fun x b=>x=(fun (y:(List UInt8)×aU)=>(vS y.1)) r∧bI ((fun (y:(List UInt8)×aU)=>[(1000000,bU y.2)]) r) b
def bJv:AC:=(.seq (.ops [.asg 4 (kB false)]) (.seq (.ops [.mv 6 0,.call (some 7) 70 [6,(kI 0)],.alc 5 [aR,aX,aR],.st 3 5 7]) (.seq (.ops [.fa 8 0 5,.ld 9 1 false 8,.bin 10 .eql 9 (kI 5),.mv 11 10,.g 11 true (.fa 12 1 5),.g 11 true (.ld 13 1 false 12),.g 11 true (.mv 14 1),.g 11 true (.bin 15 .eql 13 14),.pick 16 11 15 (kB false),.asg 4 16]) .ret)))
theorem bJo:bP Tryz.prog 52=some (bJv,[.mv 0 4],17):=by kernel_rfl
def bTp (p0:aU) (r:Bool):Exit→St→Prop:=bM [.mv 0 4] fun x b=>x=(fun (y:Bool)=>(vB y)) r∧bI ((fun (y:Bool)=>[(1000000,bU p0)]) r) b
def bCe:AC:=(.seq (.ops [.alc 2 aFe]) (.seq (.ops [.mv 7 0,.call (some 8) 70 [7,(kI 1)],.alc 3 [aR,aX,aR],.st 3 3 8]) (.seq (.ops [.mv 9 0,.call (some 10) 70 [9,(kI 2)],.alc 4 [aR,aX,aR],.st 3 4 10]) (.seq (.seq (.ops [.mv 11 0,.call (some 12) 52 [11,(.c (.d (.s (bs [42]))))]]) (.cond 12 (.seq (.ops [.mv 13 0,.call (some 14) 53 [13,(kB true)]]) (.seq (.ops [.bld 15 [eH,aX,aR,aR,eH,aR,aR,aX,aX,aX,(.nil 10),(.nil 6),aX] [(0,1,(kB true))],.st 13 2 15]) .ret)) .skip)) (.seq (.seq (.ops [.mv 16 0,.call (some 17) 71 [16,(kI 2)],.mv 18 17,.g 18 true (.fa 19 0 3),.g 18 true (.ld 20 1 false 19),.g 18 true (.bin 21 .eql 20 (kI 5)),.pick 22 18 21 (kB false),.mv 23 22,.g 23 true (.fa 24 1 3),.g 23 true (.ld 25 1 false 24),.g 23 true (.bin 26 .eql 25 (.c (.d (.s (bs [46]))))),.pick 27 23 26 (kB false),.mv 28 27,.g 28 true (.fa 29 0 4),.g 28 true (.ld 30 1 false 29),.g 28 true (.bin 31 .eql 30 (kI 5)),.pick 32 28 31 (kB false),.mv 33 32,.g 33 true (.fa 34 1 4),.g 33 true (.ld 35 1 false 34),.g 33 true (.bin 36 .eql 35 (.c (.d (.s (bs [42]))))),.pick 37 33 36 (kB false)]) (.cond 37 (.seq (.ops [.mv 38 0,.call (some 39) 73 [38,(kI 2)],.bld 40 [eH,aX,aR,aR,eH,aR,aR,aX,aX,aX,(.nil 10),(.nil 6),aX] [(0,1,(kB true)),(1,1,39)],.alc 5 aFe,.st 13 5 40]) (.seq (.ops [.mv 41 0,.call (some 42) 53 [41,(kB true)]]) (.seq (.ops [.mv 43 0,.call (some 44) 53 [43,(kB true)]]) (.seq (.ops [.ld 45 13 true 5,.st 13 2 45]) .ret)))) .skip)) (.seq (.ops [.mv 46 0,.call (some 47) 31 [46,(kI 1)],.alc 6 fD,.st 10 6 47]) (.seq (.dops [[],[],[1],[0,2],[3,2,0,1,2,3]] [.ld 48 10 true 6,.mv 49 0,.call (some 50) 95 [49],.bld 51 [eH,aX,aR,aR,eH,aR,aR,aX,aX,aX,(.nil 10),(.nil 6),aX] [(2,10,48),(12,1,50)],.st 13 2 51]) .ret)))))))
theorem bK9:bP Tryz.prog 83=some (bCe,[.ld 0 13 true 2],52):=by kernel_rfl
def bU4 (r:bV×aU):Exit→St→Prop:=bM [.ld 0 13 true 2] fun x b=>x=(fun (y:bV×aU)=>(qY y.1)) r∧bI ((fun (y:bV×aU)=>[(1000000,bU y.2)]) r) b
def aJy:AC:=(.seq (.ops [.ld 62 10 true 4,.st 10 2 62]) .ret)
def aSi:AC:=(.seq (.ops [.mv 79 0,.mv 80 0,.call (some 81) 52 [80,(.c (.d (.s (bs [40]))))],.call (some 82) 53 [79,81]]) (.seq (.seq (.ops [.mv 83 0,.nck 84 83,.fa 85 2 84,.ld 86 1 false 85]) (.cond 86 (.seq (.ops [.bld 87 [aR,aR,eH,aR,aR,aX,aX,aX,(.nil 10),(.nil 6)] [],.st 10 2 87]) .ret) .skip)) (.seq (.ops [.mv 88 0,.call (some 89) 31 [88,(kI 1)],.alc 6 fD,.st 10 6 89]) (.seq (.ops [.mv 90 0,.mv 91 0,.call (some 92) 52 [91,(.c (.d (.s (bs [41]))))],.call (some 93) 53 [90,92]]) (.seq (.ops [.ld 94 10 true 6,.st 10 2 94]) .ret)))))
def aYu:AC:=(.seq (.ops [.alc 2 fD]) (.seq (.ops [.bld 7 [aR,aR,eH,aR,aR,aX,aX,aX,(.nil 10),(.nil 6)] [(0,1,(kI 1))],.alc 3 fD,.st 10 3 7]) (.seq (.block 0 (.seq (.ops [.mv 9 0,.call (some 10) 71 [9,(kI 3)],.asg 8 10]) (.cond 8 (.seq (.ops [.fa 11 3 3,.fa 12 0 11,.st 1 12 (kI 1)]) (.seq (.ops [.mv 14 0,.call (some 15) 73 [14,(kI 3)],.call (some 16) 72 [15],.mv 13 16,.ext 17 13 0,.ext 18 13 1,.fa 19 3 3,.fa 20 1 19,.st 1 20 17]) (.seq (.ops [.ld 21 10 true 3,.st 10 2 21]) .ret))) (.seq (.ops [.mv 23 0,.call (some 24) 71 [23,(kI 4)],.asg 22 24]) (.cond 22 (.seq (.ops [.mv 25 0,.call (some 26) 73 [25,(kI 4)],.call (some 27) 74 [26],.fa 28 3 3,.st 3 28 27]) (.seq (.ops [.ld 29 10 true 3,.st 10 2 29]) .ret)) (.seq (.ops [.mv 31 0,.call (some 32) 50 [31,(kI 20)],.asg 30 32]) (.cond 30 (.seq (.ops [.ld 33 10 true 3,.st 10 2 33]) .ret) (.seq (.ops [.mv 35 0,.call (some 36) 50 [35,(kI 21)],.asg 34 36]) (.cond 34 (.seq (.ops [.call (some 37) 75 [(kB true)],.fa 38 3 3,.st 3 38 37]) (.seq (.ops [.ld 39 10 true 3,.st 10 2 39]) .ret)) (.seq (.ops [.mv 41 0,.call (some 42) 50 [41,(kI 22)],.asg 40 42]) (.cond 40 (.seq (.ops [.call (some 43) 75 [(kB false)],.fa 44 3 3,.st 3 44 43]) (.seq (.ops [.ld 45 10 true 3,.st 10 2 45]) .ret)) (.seq (.ops [.mv 47 0,.call (some 48) 71 [47,(kI 2)],.asg 46 48]) (.cond 46 (.seq (.ops [.mv 49 0,.call (some 50) 73 [49,(kI 2)],.bld 51 [aR,aR,eH,aR,aR,aX,aX,aX,(.nil 10),(.nil 6)] [(0,1,(kI 2)),(7,1,50)],.alc 4 fD,.st 10 4 51]) (.seq (.seq (.ops [.mv 52 0,.call (some 53) 52 [52,(.c (.d (.s (bs [46]))))]]) (.cond 53 (.seq (.ops [.mv 54 0,.call (some 55) 53 [54,(kB true)]]) (.seq (.ops [.fa 56 7 4,.ld 57 1 false 56,.fa 58 6 4,.st 1 58 57]) (.ops [.mv 59 0,.call (some 60) 73 [59,(kI 2)],.fa 61 7 4,.st 1 61 60]))) .skip)) aJy)) (.seq (.ops [.mv 64 0,.call (some 65) 50 [64,(kI 19)],.asg 63 65]) (.cond 63 (.seq (.ops [.mv 66 0,.mv 67 0,.call (some 68) 52 [67,(.c (.d (.s (bs [40]))))],.call (some 69) 53 [66,68]]) (.seq (.ops [.mv 70 0,.call (some 71) 76 [70],.alc 5 uG,.st 6 5 71]) (.seq (.ops [.mv 72 0,.mv 73 0,.call (some 74) 52 [73,(.c (.d (.s (bs [41]))))],.call (some 75) 53 [72,74]]) (.seq (.ops [.ld 76 6 true 5,.bsl 77 57 6 [76],.bld 78 [aR,aR,eH,aR,aR,aX,aX,aX,(.nil 10),(.nil 6)] [(0,1,(kI 9)),(9,1,77)],.st 10 2 78]) .ret)))) .skip))))))))))))))) aSi)))
theorem bFd:bP Tryz.prog 54=some (aYu,[.ld 0 10 true 2],95):=by kernel_rfl
def aV4 (r:aA×aU):Exit→St→Prop:=bM [.ld 0 10 true 2] fun x b=>x=(fun (y:aA×aU)=>(bX y.1)) r∧bI ((fun (y:aA×aU)=>[(1000000,bU y.2)]) r) b
def bF3 (r:aA×aU):Exit→St→Prop:=(eU (wkK (avc Tryz.prog aSi (aV4 r))) (aV4 r))
def aZ5 (r:aA×aU):Exit→St→Prop:=(eY 0 (bF3 r))
def bGx (rZ:List UInt8) (rJ:List UInt8) (bD:List aJ) (bC:Int) (bF:Bool):St:=⟨[(2,(.ptr 2 0)),(4,(.ptr 4 0))],[(2,[(vI 0),(vI 0),(vB false),(vI 0),(vI 0),(vS []),(vS []),(vS []),(.nil 10),(.nil 6)]),(4,[(vI 2),(vI 0),(vB false),(vI 0),(vI 0),(vS []),(vS rZ),(vS rJ),(.nil 10),(.nil 6)]),(1000000,bU (aU.mk bD bC bF))]⟩
abbrev aSh:=fun rZ rJ bD bC bF r=>avc Tryz.prog aJy (aZ5 r) (bGx rZ rJ bD bC bF)
def aZj:AC:=(.seq (.ops [.alc 2 [aR,aR,aX]]) (.seq (.seq (.ops [.mv 3 0]) (.cond 3 (.seq (.ops [.bld 4 [aR,aR,aX] [(0,1,(kI 3)),(1,1,(kI 1))],.st 3 2 4]) .ret) .skip)) (.seq (.ops [.bld 5 [aR,aR,aX] [(0,1,(kI 3))],.st 3 2 5]) .ret)))
theorem bI8:bP Tryz.prog 75=some (aZj,[.ld 0 3 true 2],6):=by kernel_rfl
def bWj (r:bJ):Exit→St→Prop:=bM [.ld 0 3 true 2] fun x _=>x=(fun y=>(lC y)) r
def bMt:AC:=(.seq (.ops [.alc 2 [aR,aR,aX]]) (.seq (.ops [.mv 3 0,.bld 4 [aR,aR,aX] [(0,1,(kI 2)),(2,1,3)],.st 3 2 4]) .ret))
theorem bFn:bP Tryz.prog 74=some (bMt,[.ld 0 3 true 2],5):=by kernel_rfl
def bTv (r:bJ):Exit→St→Prop:=bM [.ld 0 3 true 2] fun x _=>x=(fun y=>(lC y)) r
def bSo:AC:=(.seq (.ops [.asg 2 (.c .np),.alc 3 fD]) (.seq (.ops [.mv 5 0,.call (some 6) 16 [5],.asg 4 6]) (.seq (.ops [.mv 7 4,.mv 8 4,.mv 9 4,.mv 10 0,.call (some 11) 18 [10,(kI 4)],.call (some 12) 13 [9,11],.call (some 13) 17 [8,12],.asg 2 7,.st 10 3 13]) .ret)))
theorem bPp:bP Tryz.prog 9=some (bSo,[.mv 0 2,.ld 0 10 true 3],14):=by kernel_rfl
def bUt (r:aQ×aA):Exit→St→Prop:=bM [.mv 0 2,.ld 0 10 true 3] fun x b=>x=(fun (y:aQ×aA)=>(.tup [(.ptr 6 0),(bX y.2)])) r∧bI ((fun (y:aQ×aA)=>[(6,dC y.1)]) r) b
def aYq:AC:=(.seq (.ops [.asg 4 (kI 0)]) (.seq (.seq (.ops [.mv 9 1,.bin 10 .leq 9 (kI 0)]) (.cond 10 (.seq (.ops [.asg 4 (kI 0)]) .ret) .skip)) (.seq (.seq (.ops [.mv 11 1,.bin 12 .leq 11 (kI 256)]) (.cond 12 (.seq (.ops [.mv 13 0,.call (some 14) 28 [13],.mv 15 1,.bin 16 .rem 14 15,.asg 4 16]) .ret) .skip)) (.seq (.ops [.mv 17 0,.call (some 18) 28 [17],.asg 5 18]) (.seq (.ops [.mv 19 0,.call (some 20) 28 [19],.asg 6 20]) (.seq (.ops [.mv 21 0,.call (some 22) 28 [21],.asg 7 22]) (.seq (.ops [.mv 23 0,.call (some 24) 28 [23],.asg 8 24]) (.seq (.ops [.mv 25 5,.bin 26 .mul 25 (kI 16777216),.mv 27 6,.bin 28 .mul 27 (kI 65536),.bin 29 .add 26 28,.mv 30 7,.bin 31 .mul 30 (kI 256),.bin 32 .add 29 31,.mv 33 8,.bin 34 .add 32 33,.mv 35 1,.bin 36 .rem 34 35,.asg 4 36]) .ret))))))))
theorem bFv:bP Tryz.prog 13=some (aYq,[.mv 0 4],37):=by kernel_rfl
def bWo (r:Int×aQ):Exit→St→Prop:=bM [.mv 0 4] fun x b=>x=(fun (y:Int×aQ)=>(vI y.1)) r∧bI ((fun (y:Int×aQ)=>[(1000000,dC y.2)]) r) b
def aKv:AC:=(.seq (.ops [.mv 57 3,.asg 2 57]) .ret)
def bQ3:AC:=(.seq (.ops [.asg 2 (kI 0)]) (.seq (.ops [.mv 4 0,.mv 5 0,.nck 6 5,.fa 7 2 6,.ld 8 1 false 7,.bin 9 .mul 8 (kI 6364136223846793005),.bin 10 .add 9 (kI 1442695040888963407),.nck 11 4,.fa 12 2 11,.st 1 12 10]) (.seq (.dops [[],[0],[1],[2],[3],[],[5],[6],[7],[8],[4,9],[10],[11,0,1,2,3,4,5,6,7,8,9,10,11]] [.mv 13 0,.nck 14 13,.fa 15 2 14,.ld 16 1 false 15,.bin 17 .shr 16 (.c (.d (.i .u64 33))),.mv 18 0,.nck 19 18,.fa 20 2 19,.ld 21 1 false 20,.bin 22 .shr 21 (.c (.d (.i .u64 45))),.bin 23 .xor 17 22,.bin 24 .and 23 (kI 255),.asg 3 24]) (.seq (.seq (.dops [[],[0],[1],[2],[],[4],[5],[6],[7],[3,8]] [.mv 25 0,.nck 26 25,.fa 27 1 26,.ld 28 1 false 27,.mv 29 0,.nck 30 29,.fa 31 0 30,.ld 32 1 false 31,.len 33 32,.bin 34 .lss 28 33]) (.cond 34 (.seq (.dops [[],[],[1],[2],[3],[],[5],[6],[7],[4,8],[9],[10],[0,11],[12],[13,0,1,2,3,4,5,6,7,8,9,10,11,12,13]] [.mv 35 3,.mv 36 0,.nck 37 36,.fa 38 0 37,.ld 39 1 false 38,.mv 40 0,.nck 41 40,.fa 42 1 41,.ld 43 1 false 42,.ia 44 1 39 43,.ld 45 1 false 44,.cvi 46 .i64 45,.bin 47 .add 35 46,.bin 48 .and 47 (kI 255),.asg 3 48]) (.ops [.mv 49 0,.mv 50 0,.nck 51 50,.fa 52 1 51,.ld 53 1 false 52,.bin 54 .add 53 (kI 1),.nck 55 49,.fa 56 1 55,.st 1 56 54])) .skip)) aKv))))
theorem bC0:bP Tryz.prog 28=some (bQ3,[.mv 0 2],58):=by kernel_rfl
def bIg (r:Int×aQ):Exit→St→Prop:=bM [.mv 0 2] fun x b=>x=(fun (y:Int×aQ)=>(vI y.1)) r∧bI ((fun (y:Int×aQ)=>[(1000000,dC y.2)]) r) b
def bB9 (p0:aQ) (x3:Int) (bC:Int):St:=⟨[(3,(vI x3))],[(1000000,dC (aQ.mk p0.b bC (IntKind.wrap .i64 ((IntKind.wrap .i64 (p0.h * 6364136223846793005))+1442695040888963407))))]⟩
abbrev aPq:=fun p0 x3 bC r=>avc Tryz.prog aKv (bIg r) (bB9 p0 x3 bC)
def bJz:AC:=(.seq (.ops [.asg 4 (kI 0)]) (.seq (.ops [.mv 6 0,.len 7 6,.bin 8 .quo 7 (kI 20),.bin 9 .add (kI 2) 8,.asg 5 9]) (.seq (.seq (.ops [.mv 10 5,.mv 11 1,.bin 12 .gtr 10 11]) (.cond 12 (.seq (.ops [.mv 13 1,.asg 4 13]) .ret) .skip)) (.seq (.ops [.mv 14 5,.asg 4 14]) .ret))))
theorem bJq:bP Tryz.prog 18=some (bJz,[.mv 0 4],15):=by kernel_rfl
def bVl (r:Int):Exit→St→Prop:=bM [.mv 0 4] fun x _=>x=(fun y=>(vI y)) r
def aJ2:AC:=(.seq (.ops [.mv 84 0,.call (some 85) 13 [84,(kI 14)],.bin 86 .add (kI 1) 85,.mv 87 0,.mv 88 1,.call (some 89) 35 [87,88,(kI 2)],.bld 90 [aR,aR,eH,aR,aR,aX,aX,aX,(.nil 10),(.nil 6)] [(0,1,(kI 4)),(1,1,86),(8,1,89)],.st 10 4 90]) .ret)
def bKz:AC:=(.seq (.ops [.alc 4 fD]) (.seq (.seq (.ops [.mv 5 1,.bin 6 .leq 5 (kI 0),.mv 7 6,.g 7 false (.mv 8 0),.g 7 false (.call (some 9) 12 [8,(kI 5)]),.pick 10 7 (kB true) 9]) (.cond 10 (.seq (.seq (.ops [.mv 11 0,.call (some 12) 12 [11,(kI 2)]]) (.cond 12 (.seq (.ops [.mv 13 0,.call (some 14) 33 [13],.st 10 4 14]) .ret) .skip)) (.seq (.ops [.mv 15 0,.call (some 16) 34 [15],.bld 17 [aR,aR,eH,aR,aR,aX,aX,aX,(.nil 10),(.nil 6)] [(0,1,(kI 1)),(3,3,16)],.st 10 4 17]) .ret)) .skip)) (.seq (.seq (.ops [.mv 18 0,.call (some 19) 13 [18,(kI 12)]]) (.block 0 (.seq (.ops [.bin 21 .eql 19 (kI 0),.asg 20 21]) (.cond 20 (.seq (.ops [.mv 22 0,.mv 23 1,.call (some 24) 35 [22,23,(kI 1)],.bld 25 [aR,aR,eH,aR,aR,aX,aX,aX,(.nil 10),(.nil 6)] [(0,1,(kI 3)),(1,1,(kI 15)),(8,1,24)],.st 10 4 25]) .ret) (.seq (.ops [.bin 27 .eql 19 (kI 1),.asg 26 27]) (.cond 26 (.seq (.ops [.mv 28 0,.mv 29 1,.call (some 30) 35 [28,29,(kI 1)],.bld 31 [aR,aR,eH,aR,aR,aX,aX,aX,(.nil 10),(.nil 6)] [(0,1,(kI 3)),(1,1,(kI 16)),(8,1,30)],.st 10 4 31]) .ret) (.seq (.ops [.bin 33 .eql 19 (kI 2),.asg 32 33]) (.cond 32 (.seq (.ops [.mv 34 0,.call (some 35) 12 [34,(kI 2)],.mv 36 0,.mv 37 1,.call (some 38) 35 [36,37,(kI 1)],.bld 39 [aR,aR,eH,aR,aR,aX,aX,aX,(.nil 10),(.nil 6)] [(0,1,(kI 5)),(2,1,35),(8,1,38)],.st 10 4 39]) .ret) (.seq (.ops [.bin 41 .eql 19 (kI 3),.asg 40 41]) (.cond 40 (.seq (.ops [.mv 42 0,.call (some 43) 12 [42,(kI 2)],.mv 44 0,.mv 45 1,.call (some 46) 35 [44,45,(kI 3)],.bld 47 [aR,aR,eH,aR,aR,aX,aX,aX,(.nil 10),(.nil 6)] [(0,1,(kI 6)),(2,1,43),(8,1,46)],.st 10 4 47]) .ret) (.seq (.ops [.bin 49 .eql 19 (kI 4),.asg 48 49]) (.cond 48 (.seq (.ops [.mv 50 0,.call (some 51) 12 [50,(kI 2)],.mv 52 0,.mv 53 1,.mv 54 0,.call (some 55) 13 [54,(kI 2)],.bin 56 .add (kI 2) 55,.call (some 57) 35 [52,53,56],.bld 58 [aR,aR,eH,aR,aR,aX,aX,aX,(.nil 10),(.nil 6)] [(0,1,(kI 7)),(2,1,51),(8,1,57)],.st 10 4 58]) .ret) (.seq (.ops [.bin 60 .eql 19 (kI 5),.asg 59 60]) (.cond 59 (.seq (.ops [.mv 61 1,.bin 62 .gtr 61 (kI 1)]) (.cond 62 (.seq (.ops [.mv 63 0,.call (some 64) 12 [63,(kI 2)],.mv 65 0,.mv 66 1,.call (some 67) 35 [65,66,(kI 1)],.mv 68 0,.mv 69 1,.bin 70 .sub 69 (kI 2),.call (some 71) 36 [68,70],.bsl 72 57 6 [71],.bld 73 [aR,aR,eH,aR,aR,aX,aX,aX,(.nil 10),(.nil 6)] [(0,1,(kI 8)),(2,1,64),(8,1,67),(9,1,72)],.st 10 4 73]) .ret) .skip)) (.seq (.ops [.bin 75 .eql 19 (kI 6),.asg 74 75]) (.cond 74 (.seq (.ops [.mv 76 1,.bin 77 .gtr 76 (kI 1)]) (.cond 77 (.seq (.ops [.mv 78 0,.mv 79 1,.bin 80 .sub 79 (kI 2),.call (some 81) 36 [78,80],.bsl 82 57 6 [81],.bld 83 [aR,aR,eH,aR,aR,aX,aX,aX,(.nil 10),(.nil 6)] [(0,1,(kI 9)),(9,1,82)],.st 10 4 83]) .ret) .skip)) .skip)))))))))))))))) aJ2)))
theorem bPs:bP Tryz.prog 17=some (bKz,[.ld 0 10 true 4],91):=by kernel_rfl
def bB0 (r:aA×aQ):Exit→St→Prop:=bM [.ld 0 10 true 4] fun x b=>x=(fun (y:aA×aQ)=>(bX y.1)) r∧bI ((fun (y:aA×aQ)=>[(1000000,dC y.2)]) r) b
def bDv (p1:Int) (y6:Int×aQ):St:=⟨[(0,(.ptr 1000000 0)),(1,(vI p1)),(4,(.ptr 4 0))],[(4,[(vI 0),(vI 0),(vB false),(vI 0),(vI 0),(vS []),(vS []),(vS []),(.nil 10),(.nil 6)]),(1000000,dC y6.2)]⟩
abbrev aI2:=fun p1 y6 r=>avc Tryz.prog aJ2 (bB0 r) (bDv p1 y6)
def aE8:AC:=(.ops [.mv 20 7,.bin 21 .add 20 (kI 1),.asg 7 21])
def aI8:AC:=(.ops [.fa 33 1 5,.ld 34 1 false 33,.ld 35 13 true 8,.bsl 36 83 13 [35],.app 37 83 13 176 34 36,.fa 38 1 5,.st 1 38 37])
def aGs:AC:=(.loop (.seq (.seq (.ops [.mv 17 7,.mv 18 6,.bin 19 .lss 17 18]) (.cond 19 .skip (.exit 0))) (.seq (.block 1 (.seq (.ops [.mv 22 0,.call (some 23) 13 [22,(kI 5)]]) (.block 2 (.seq (.ops [.bin 40 .eql 23 (kI 0),.asg 39 40]) (.cond 39 (.ops [.fa 41 1 5,.ld 42 1 false 41,.bld 43 [eH,aX,aR,aR,eH,aR,aR,aX,aX,aX,(.nil 10),(.nil 6),aX] [(0,1,(kB true))],.bsl 44 83 13 [43],.app 45 83 13 176 42 44,.fa 46 1 5,.st 1 46 45]) (.seq (.ops [.bin 48 .eql 23 (kI 1),.asg 47 48]) (.cond 47 (.dops [[],[0],[],[],[2,3],[4],[5],[1,6,4],[0,1,2,3,4,5,6,7],[8,7,7,0,1,2,3,4,5,6,7]] [.fa 49 1 5,.ld 50 1 false 49,.mv 51 0,.bsl 52 9 1 [(.c (.d (.s (bs [116])))),(.c (.d (.s (bs [117]))))],.call (some 53) 38 [51,52],.bld 54 [eH,aX,aR,aR,eH,aR,aR,aX,aX,aX,(.nil 10),(.nil 6),aX] [(0,1,(kB true)),(1,1,53)],.bsl 55 83 13 [54],.app 56 83 13 176 50 55,.fa 57 1 5,.st 1 57 56]) (.seq (.ops [.mv 24 0,.mv 25 1,.call (some 26) 17 [24,25],.bld 27 [eH,aX,aR,aR,eH,aR,aR,aX,aX,aX,(.nil 10),(.nil 6),aX] [(2,10,26)],.alc 8 aFe,.st 13 8 27]) (.seq (.seq (.ops [.mv 28 0,.call (some 29) 12 [28,(kI 2)]]) (.cond 29 (.ops [.mv 30 0,.call (some 31) 56 [30],.fa 32 12 8,.st 1 32 31]) .skip)) aI8))))))))) aE8)))
def aIl:AC:=(.ops [.fa 86 2 5,.ld 87 1 false 86,.ld 88 3 true 10,.bsl 89 97 3 [88],.app 90 97 3 56 87 89,.fa 91 2 5,.st 1 91 90])
def aIm:AC:=(.seq (.seq (.ops [.mv 75 9,.bin 76 .gtr 75 (kI 0),.mv 77 76,.g 77 true (.mv 78 0),.g 77 true (.call (some 79) 12 [78,(kI 2)]),.pick 80 77 79 (kB false)]) (.cond 80 (.ops [.mv 81 0,.mv 82 1,.call (some 83) 17 [81,82],.bsl 84 34 10 [83],.fa 85 2 10,.st 1 85 84]) .skip)) aIl)
def aTk:AC:=(.ops [.mv 64 9,.bin 65 .add 64 (kI 1),.asg 9 65])
def aFw:AC:=(.loop (.seq (.seq (.ops [.mv 61 9,.mv 62 6,.bin 63 .lss 61 62]) (.cond 63 .skip (.exit 3))) (.seq (.block 4 (.seq (.ops [.mv 66 0,.bsl 67 9 1 [(.c (.d (.s (bs [116])))),(.c (.d (.s (bs [117])))),(.c (.d (.s (bs [118]))))],.call (some 68) 38 [66,67],.bld 69 [aX,aX,(.nil 10)] [(0,1,68)],.alc 10 [aX,aX,(.nil 10)],.st 3 10 69]) (.seq (.seq (.ops [.mv 70 0,.call (some 71) 12 [70,(kI 3)]]) (.cond 71 (.ops [.mv 72 0,.call (some 73) 56 [72],.fa 74 1 10,.st 1 74 73]) .skip)) aIm))) aTk)))
def aJ3:AC:=(.seq (.ops [.ld 118 6 true 5,.st 6 4 118]) .ret)
def aKk:AC:=(.seq (.seq (.ops [.mv 112 0,.call (some 113) 12 [112,(kI 4)]]) (.cond 113 (.ops [.mv 114 0,.bsl 115 3 1 [(kI 0),(kI 1),(kI 2),(kI 9223372036854775807)],.call (some 116) 58 [114,115],.fa 117 5 5,.st 1 117 116]) .skip)) aJ3)
def aLf:AC:=(.seq (.seq (.ops [.mv 99 0,.call (some 100) 12 [99,(kI 3)]]) (.cond 100 (.dops [[],[0],[],[],[2,3],[],[5,4],[4,6],[7],[1,8,6],[0,1,2,3,4,5,6,7,8,9],[10,9,9,0,1,2,3,4,5,6,7,8,9]] [.fa 101 4 5,.ld 102 1 false 101,.mv 103 0,.mv 104 1,.call (some 105) 17 [103,104],.mv 106 0,.call (some 107) 12 [106,(kI 2)],.bld 108 [aR,aR,eH,aR,aR,aX,aX,aX,(.nil 10),(.nil 6),eH] [(0,10,105),(10,1,107)],.bsl 109 87 11 [108],.app 110 87 11 144 102 109,.fa 111 4 5,.st 1 111 110]) .skip)) aKk)
def aR2:AC:=(.seq (.seq (.ops [.mv 92 0,.call (some 93) 12 [92,(kI 2)]]) (.cond 93 (.ops [.mv 94 0,.mv 95 1,.call (some 96) 17 [94,95],.bsl 97 34 10 [96],.fa 98 3 5,.st 1 98 97]) .skip)) aLf)
def aS7:AC:=(.seq (.ops [.mv 58 0,.call (some 59) 13 [58,(kI 2)],.bin 60 .add (kI 1) 59,.asg 6 60]) (.seq (.seq (.ops [.asg 9 (kI 0)]) (.block 3 aFw)) aR2))
def bRe:AC:=(.seq (.ops [.alc 4 uG]) (.seq (.ops [.mv 11 0,.call (some 12) 12 [11,(kI 4)],.bld 13 [eH,(.nil 13),(.nil 3),(.nil 10),(.nil 11),aR] [(0,1,12),(5,1,(kI (-1)))],.alc 5 uG,.st 6 5 13]) (.seq (.ops [.mv 14 0,.call (some 15) 13 [14,(kI 2)],.bin 16 .add (kI 1) 15,.asg 6 16]) (.seq (.seq (.ops [.asg 7 (kI 0)]) (.block 0 aGs)) aS7))))
theorem bT3:bP Tryz.prog 36=some (bRe,[.ld 0 6 true 4],119):=by kernel_rfl
def G5 (r:aY×aQ):Exit→St→Prop:=bM [.ld 0 6 true 4] fun x b=>x=(fun (y:aY×aQ)=>(mU y.1)) r∧bI ((fun (y:aY×aQ)=>[(1000000,dC y.2)]) r) b
def aY9 (r:aY×aQ):Exit→St→Prop:=(eU (wkK (avc Tryz.prog aS7 (G5 r))) (G5 r))
def aKd (r:aY×aQ):Exit→St→Prop:=(eY 0 (aY9 r))
def aNa (r:aY×aQ):Exit→St→Prop:=(eU (avc Tryz.prog aGs (aKd r)) (aKd r))
def bIq (r:aY×aQ):Exit→St→Prop:=(eU (wkK (avc Tryz.prog aE8 (aNa r))) (aNa r))
def bD7 (r:aY×aQ):Exit→St→Prop:=(eY 1 (bIq r))
def bG3 (r:aY×aQ):Exit→St→Prop:=(eY 2 (bD7 r))
def bFz (r:aY×aQ):Exit→St→Prop:=(eU (wkK (avc Tryz.prog aR2 (G5 r))) (G5 r))
def aM0 (r:aY×aQ):Exit→St→Prop:=(eY 3 (bFz r))
def aR6 (r:aY×aQ):Exit→St→Prop:=(eU (avc Tryz.prog aFw (aM0 r)) (aM0 r))
def bLq (r:aY×aQ):Exit→St→Prop:=(eU (wkK (avc Tryz.prog aTk (aR6 r))) (aR6 r))
def aRx (r:aY×aQ):Exit→St→Prop:=(eY 4 (bLq r))
def bOg (p1:Int) (y2:Int×aQ) (y1:Bool×aQ) (x7:Int) (bL:List bV) (bD:List Int) (lQ:Int×Int):St:=⟨[(0,(.ptr 1000000 0)),(1,(vI p1)),(4,(.ptr 4 0)),(5,(.ptr 5 0)),(6,(vI (IntKind.wrap .i64 (1+y2.1)))),(7,(vI x7))],[(4,[(vB false),(.nil 13),(.nil 3),(.nil 10),(.nil 11),(vI 0)]),(5,[(vB y1.1),(.osl 45 83 13 (bL.map eG)),(.nil 3),(.nil 10),(.nil 11),(vI (-1))]),(1000000,dC (aQ.mk bD lQ.1 lQ.2))]⟩
abbrev aFs:=fun p1 y2 y1 x7 bL bD lQ r=>avc Tryz.prog aGs (aKd r) (bOg p1 y2 y1 x7 bL bD lQ)
def bRu (p1:Int) (y2:Int×aQ) (x7:Int) (y1:Bool×aQ) (nV:List bV) (jG:List Int) (mZ:Int×Int):St:=⟨[(0,(.ptr 1000000 0)),(1,(vI p1)),(4,(.ptr 4 0)),(5,(.ptr 5 0)),(6,(vI (IntKind.wrap .i64 (1+y2.1)))),(7,(vI x7))],[(4,[(vB false),(.nil 13),(.nil 3),(.nil 10),(.nil 11),(vI 0)]),(5,[(vB y1.1),(.osl 45 83 13 (nV.map eG)),(.nil 3),(.nil 10),(.nil 11),(vI (-1))]),(1000000,dC (aQ.mk jG mZ.1 mZ.2))]⟩
abbrev aEi:=fun p1 y2 x7 y1 nV jG mZ r=>avc Tryz.prog aE8 (aNa r) (bRu p1 y2 x7 y1 nV jG mZ)
def bKf (p1:Int) (y2:Int×aQ) (x7:Int) (y1:Bool×aQ) (bL:List bV) (y11:aA×aQ) (jX:(List UInt8)×(List Int)×Int×Int):St:=⟨[(0,(.ptr 1000000 0)),(1,(vI p1)),(4,(.ptr 4 0)),(5,(.ptr 5 0)),(6,(vI (IntKind.wrap .i64 (1+y2.1)))),(7,(vI x7)),(8,(.ptr 8 0))],[(4,[(vB false),(.nil 13),(.nil 3),(.nil 10),(.nil 11),(vI 0)]),(5,[(vB y1.1),(.osl 45 83 13 (bL.map eG)),(.nil 3),(.nil 10),(.nil 11),(vI (-1))]),(8,aAe (bV.mk false [] y11.1 jX.1)),(1000000,dC (aQ.mk jX.2.1 jX.2.2.1 jX.2.2.2))]⟩
abbrev aGj:=fun p1 y2 x7 y1 bL y11 jX r=>avc Tryz.prog aI8 (bG3 r) (bKf p1 y2 x7 y1 bL y11 jX)
def bR8 (p1:Int) (y17:Int×aQ) (y1:Bool×aQ) (bL:List bV) (x9:Int) (bQ:List bR) (jZ:(List Int)×Int×Int):St:=⟨[(0,(.ptr 1000000 0)),(1,(vI p1)),(4,(.ptr 4 0)),(5,(.ptr 5 0)),(6,(vI (IntKind.wrap .i64 (1+y17.1)))),(9,(vI x9))],[(4,[(vB false),(.nil 13),(.nil 3),(.nil 10),(.nil 11),(vI 0)]),(5,[(vB y1.1),(.osl 45 83 13 (bL.map eG)),(.osl 90 97 3 (bQ.map eP)),(.nil 10),(.nil 11),(vI (-1))]),(1000000,dC (aQ.mk jZ.1 jZ.2.1 jZ.2.2))]⟩
abbrev aG5:=fun p1 y17 y1 bL x9 bQ jZ r=>avc Tryz.prog aFw (aM0 r) (bR8 p1 y17 y1 bL x9 bQ jZ)
def bMg (p1:Int) (y17:Int×aQ) (x9:Int) (y1:Bool×aQ) (bL:List bV) (bQ:List bR) (ky22:((List UInt8)×aQ)×(List UInt8)×(List Int)×Int×Int):St:=⟨[(0,(.ptr 1000000 0)),(1,(vI p1)),(4,(.ptr 4 0)),(5,(.ptr 5 0)),(6,(vI (IntKind.wrap .i64 (1+y17.1)))),(9,(vI x9)),(10,(.ptr 10 0))],[(4,[(vB false),(.nil 13),(.nil 3),(.nil 10),(.nil 11),(vI 0)]),(5,[(vB y1.1),(.osl 45 83 13 (bL.map eG)),(.osl 90 97 3 (bQ.map eP)),(.nil 10),(.nil 11),(vI (-1))]),(10,[(vS ky22.1.1),(vS ky22.2.1),(.nil 10)]),(1000000,dC (aQ.mk ky22.2.2.1 ky22.2.2.2.1 ky22.2.2.2.2))]⟩
abbrev aHf:=fun p1 y17 x9 y1 bL bQ ky22 r=>avc Tryz.prog aIm (aRx r) (bMg p1 y17 x9 y1 bL bQ ky22)
def aYc (p1:Int) (y1:Bool×aQ) (bL:List bV) (bQ:List bR) (eQ:List aA) (pV:List Int) (nH:Int×Int):St:=⟨[(0,(.ptr 1000000 0)),(1,(vI p1)),(4,(.ptr 4 0)),(5,(.ptr 5 0))],[(4,[(vB false),(.nil 13),(.nil 3),(.nil 10),(.nil 11),(vI 0)]),(5,[(vB y1.1),(.osl 45 83 13 (bL.map eG)),(.osl 90 97 3 (bQ.map eP)),(.osl 97 34 10 (eQ.map bN)),(.nil 11),(vI (-1))]),(1000000,dC (aQ.mk pV nH.1 nH.2))]⟩
abbrev aEu:=fun p1 y1 bL bQ eQ pV nH r=>avc Tryz.prog aLf (G5 r) (aYc p1 y1 bL bQ eQ pV nH)
def bMy (p1:Int) (y17:Int×aQ) (x9:Int) (y1:Bool×aQ) (bL:List bV) (bQ:List bR) (ky22q:((List UInt8)×aQ)×(List UInt8)×(List aA)×(List Int)×Int×Int):St:=⟨[(0,(.ptr 1000000 0)),(1,(vI p1)),(4,(.ptr 4 0)),(5,(.ptr 5 0)),(6,(vI (IntKind.wrap .i64 (1+y17.1)))),(9,(vI x9)),(10,(.ptr 10 0))],[(4,[(vB false),(.nil 13),(.nil 3),(.nil 10),(.nil 11),(vI 0)]),(5,[(vB y1.1),(.osl 45 83 13 (bL.map eG)),(.osl 90 97 3 (bQ.map eP)),(.nil 10),(.nil 11),(vI (-1))]),(10,[(vS ky22q.1.1),(vS ky22q.2.1),(.osl 84 34 10 (ky22q.2.2.1.map bN))]),(1000000,dC (aQ.mk ky22q.2.2.2.1 ky22q.2.2.2.2.1 ky22q.2.2.2.2.2))]⟩
abbrev aFk:=fun p1 y17 x9 y1 bL bQ ky22q r=>avc Tryz.prog aIl (aRx r) (bMy p1 y17 x9 y1 bL bQ ky22q)
def bAf (y1:Bool×aQ) (bL:List bV) (bQ:List bR) (eQ:List aA) (fP:List eB) (xO:List Int) (wL:Int) (wB:Int):St:=⟨[(0,(.ptr 1000000 0)),(4,(.ptr 4 0)),(5,(.ptr 5 0))],[(4,[(vB false),(.nil 13),(.nil 3),(.nil 10),(.nil 11),(vI 0)]),(5,[(vB y1.1),(.osl 45 83 13 (bL.map eG)),(.osl 90 97 3 (bQ.map eP)),(.osl 97 34 10 (eQ.map bN)),(.osl 110 87 11 (fP.map fZ)),(vI (-1))]),(1000000,dC (aQ.mk xO wL wB))]⟩
abbrev aP9:=fun y1 bL bQ eQ fP xO wL wB r=>avc Tryz.prog aKk (G5 r) (bAf y1 bL bQ eQ fP xO wL wB)
def bOt (y1:Bool×aQ) (bL:List bV) (bQ:List bR) (eQ:List aA) (fP:List eB) (lX:Int) (xK:List Int) (wE:Int) (xI:Int):St:=⟨[(4,(.ptr 4 0)),(5,(.ptr 5 0))],[(4,[(vB false),(.nil 13),(.nil 3),(.nil 10),(.nil 11),(vI 0)]),(5,[(vB y1.1),(.osl 45 83 13 (bL.map eG)),(.osl 90 97 3 (bQ.map eP)),(.osl 97 34 10 (eQ.map bN)),(.osl 110 87 11 (fP.map fZ)),(vI lX)]),(1000000,dC (aQ.mk xK wE xI))]⟩
abbrev aSw:=fun y1 bL bQ eQ fP lX xK wE xI r=>avc Tryz.prog aJ3 (G5 r) (bOt y1 bL bQ eQ fP lX xK wE xI)
def bKd:AC:=(.seq (.ops [.asg 4 (kI 0)]) (.seq (.ops [.mv 5 1,.mv 6 0,.mv 7 1,.len 8 7,.call (some 9) 13 [6,8],.ia 10 1 5 9,.ld 11 1 false 10,.asg 4 11]) .ret))
theorem bCh:bP Tryz.prog 58=some (bKd,[.mv 0 4],12):=by kernel_rfl
def bX0 (r:Int×aQ):Exit→St→Prop:=bM [.mv 0 4] fun x b=>x=(fun (y:Int×aQ)=>(vI y.1)) r∧bI ((fun (y:Int×aQ)=>[(1000000,dC y.2)]) r) b
def bE6:AC:=(.seq (.ops [.asg 2 (.c (.d (.s (bs []))))]) (.seq (.seq (.ops [.mv 3 0,.call (some 4) 12 [3,(kI 6)]]) (.cond 4 (.seq (.ops [.mv 5 0,.bsl 6 9 1 [(.c (.d (.s (bs [97,32,98])))),(.c (.d (.s (bs [102,114,111,109])))),(.c (.d (.s (bs [83,101,108,101,99,116])))),(.c (.d (.s (bs [49,120])))),(.c (.d (.s (bs [113,34,113])))),(.c (.d (.s (bs [0])))),(.c (.d (.s (bs [34])))),(.c (.d (.s (bs [105,116,39,115])))),(.c (.d (.s (bs [120,46,121])))),(.c (.d (.s (bs [45]))))],.call (some 7) 38 [5,6],.asg 2 7]) .ret) .skip)) (.seq (.ops [.mv 8 0,.bsl 9 9 1 [(.c (.d (.s (bs [97])))),(.c (.d (.s (bs [98])))),(.c (.d (.s (bs [99])))),(.c (.d (.s (bs [116])))),(.c (.d (.s (bs [117])))),(.c (.d (.s (bs [118])))),(.c (.d (.s (bs [105,100])))),(.c (.d (.s (bs [110,97,109,101])))),(.c (.d (.s (bs [65])))),(.c (.d (.s (bs [95,120,49]))))],.call (some 10) 38 [8,9],.asg 2 10]) .ret)))
theorem bKl:bP Tryz.prog 56=some (bE6,[.mv 0 2],11):=by kernel_rfl
def bWe (r:(List UInt8)×aQ):Exit→St→Prop:=bM [.mv 0 2] fun x b=>x=(fun (y:(List UInt8)×aQ)=>(vS y.1)) r∧bI ((fun (y:(List UInt8)×aQ)=>[(1000000,dC y.2)]) r) b
def bDb:AC:=(.seq (.ops [.asg 4 (kB false)]) (.seq (.ops [.mv 5 0,.mv 6 1,.call (some 7) 13 [5,6],.bin 8 .eql 7 (kI 0),.asg 4 8]) .ret))
theorem bQu:bP Tryz.prog 12=some (bDb,[.mv 0 4],9):=by kernel_rfl
def bUx (r:Bool×aQ):Exit→St→Prop:=bM [.mv 0 4] fun x b=>x=(fun (y:Bool×aQ)=>(vB y.1)) r∧bI ((fun (y:Bool×aQ)=>[(1000000,dC y.2)]) r) b
def bEj:AC:=(.seq (.ops [.asg 4 (.c (.d (.s (bs []))))]) (.seq (.ops [.mv 5 1,.mv 6 0,.mv 7 1,.len 8 7,.call (some 9) 13 [6,8],.ia 10 1 5 9,.ld 11 1 false 10,.asg 4 11]) .ret))
theorem bJf:bP Tryz.prog 38=some (bEj,[.mv 0 4],12):=by kernel_rfl
def bWc (r:(List UInt8)×aQ):Exit→St→Prop:=bM [.mv 0 4] fun x b=>x=(fun (y:(List UInt8)×aQ)=>(vS y.1)) r∧bI ((fun (y:(List UInt8)×aQ)=>[(1000000,dC y.2)]) r) b
def aMx:AC:=(.loop (.seq (.seq (.ops [.mv 10 8,.mv 11 2,.bin 12 .lss 10 11]) (.cond 12 .skip (.exit 0))) (.seq (.block 1 (.ops [.mv 15 7,.mv 16 0,.mv 17 1,.bin 18 .sub 17 (kI 1),.call (some 19) 17 [16,18],.bsl 20 34 10 [19],.app 21 34 10 136 15 20,.asg 7 21])) (.ops [.mv 13 8,.bin 14 .add 13 (kI 1),.asg 8 14]))))
def aPf:AC:=(.seq (.ops [.mv 22 7,.asg 6 22]) .ret)
def bSe:AC:=(.seq (.ops [.asg 6 (.c (.nil 10))]) (.seq (.ops [.bsl 9 34 10 [],.asg 7 9]) (.seq (.seq (.ops [.asg 8 (kI 0)]) (.block 0 aMx)) aPf)))
theorem bFh:bP Tryz.prog 35=some (bSe,[.mv 0 6],23):=by kernel_rfl
def aR1 (r:(List aA)×aQ):Exit→St→Prop:=bM [.mv 0 6] fun x b=>x=(fun (y:(List aA)×aQ)=>(.osl 2000000 34 10 (y.1.map bN))) r∧bI ((fun (y:(List aA)×aQ)=>[(1000000,dC y.2)]) r) b
def bJm (r:(List aA)×aQ):Exit→St→Prop:=(eU (wkK (avc Tryz.prog aPf (aR1 r))) (aR1 r))
def aZ1 (r:(List aA)×aQ):Exit→St→Prop:=(eY 0 (bJm r))
def bRm (p1:Int) (p2:Int) (x7:List aA) (x8:Int) (bD:List Int) (bC:Int) (bF:Int):St:=⟨[(0,(.ptr 1000000 0)),(1,(vI p1)),(2,(vI p2)),(7,(.osl 7 34 10 (x7.map bN))),(8,(vI x8))],[(1000000,dC (aQ.mk bD bC bF))]⟩
abbrev aH5:=fun p1 p2 x7 x8 bD bC bF r=>avc Tryz.prog aMx (aZ1 r) (bRm p1 p2 x7 x8 bD bC bF)
def aKe:AC:=(.seq (.ops [.ld 15 3 true 3,.st 3 2 15]) .ret)
def aZz:AC:=(.seq (.ops [.alc 2 [aR,aR,aX]]) (.seq (.ops [.mv 4 0,.call (some 5) 57 [4],.alc 3 [aR,aR,aX],.st 3 3 5]) (.seq (.seq (.ops [.fa 6 0 3,.ld 7 1 false 6,.bin 8 .eql 7 (kI 1),.mv 9 8,.g 9 true (.fa 10 1 3),.g 9 true (.ld 11 1 false 10),.g 9 true (.bin 12 .lss 11 (kI 0)),.pick 13 9 12 (kB false)]) (.cond 13 (.ops [.fa 14 1 3,.st 1 14 (kI 9223372036854775807)]) .skip)) aKe)))
theorem bG7:bP Tryz.prog 34=some (aZz,[.ld 0 3 true 2],16):=by kernel_rfl
def aY1 (r:bJ×aQ):Exit→St→Prop:=bM [.ld 0 3 true 2] fun x b=>x=(fun (y:bJ×aQ)=>(lC y.1)) r∧bI ((fun (y:bJ×aQ)=>[(1000000,dC y.2)]) r) b
def bM7 (y1:bJ×aQ) (bG:Int):St:=⟨[(2,(.ptr 2 0)),(3,(.ptr 3 0))],[(2,[(vI 0),(vI 0),(vS [])]),(3,aT3 (bJ.mk y1.1.kind bG y1.1.text)),(1000000,dC y1.2)]⟩
abbrev aTe:=fun y1 bG r=>avc Tryz.prog aKe (aY1 r) (bM7 y1 bG)
def bNs:AC:=(.seq (.ops [.alc 2 [aR,aR,aX]]) (.seq (.seq (.ops [.mv 3 0,.call (some 4) 13 [3,(kI 6)]]) (.block 0 (.seq (.ops [.bin 6 .eql 4 (kI 0),.asg 5 6]) (.cond 5 (.seq (.ops [.bld 7 [aR,aR,aX] [],.st 3 2 7]) .ret) (.seq (.ops [.bin 9 .eql 4 (kI 1),.asg 8 9]) (.cond 8 (.seq (.ops [.mv 10 0,.bsl 11 9 1 [(.c (.d (.s (bs [])))),(.c (.d (.s (bs [97])))),(.c (.d (.s (bs [98])))),(.c (.d (.s (bs [105,116,39,115])))),(.c (.d (.s (bs [97,98])))),(.c (.d (.s (bs [255]))))],.call (some 12) 38 [10,11],.call (some 13) 74 [12],.st 3 2 13]) .ret) (.seq (.ops [.bin 15 .eql 4 (kI 2),.asg 14 15]) (.cond 14 (.seq (.ops [.mv 16 0,.call (some 17) 12 [16,(kI 2)],.call (some 18) 75 [17],.st 3 2 18]) .ret) (.seq (.ops [.bin 20 .eql 4 (kI 3),.asg 19 20]) (.cond 19 (.seq (.ops [.mv 21 0,.call (some 22) 39 [21],.call (some 23) 77 [22],.st 3 2 23]) .ret) .skip)))))))))) (.seq (.ops [.mv 24 0,.call (some 25) 13 [24,(kI 7)],.bin 26 .sub 25 (kI 2),.call (some 27) 77 [26],.st 3 2 27]) .ret)))
theorem bNa:bP Tryz.prog 57=some (bNs,[.ld 0 3 true 2],28):=by kernel_rfl
def bUb (r:bJ×aQ):Exit→St→Prop:=bM [.ld 0 3 true 2] fun x b=>x=(fun (y:bJ×aQ)=>(lC y.1)) r∧bI ((fun (y:bJ×aQ)=>[(1000000,dC y.2)]) r) b
def bE0:AC:=(.seq (.ops [.alc 2 [aR,aR,aX]]) (.seq (.ops [.mv 3 0,.bld 4 [aR,aR,aX] [(0,1,(kI 1)),(1,1,3)],.st 3 2 4]) .ret))
theorem bAz:bP Tryz.prog 77=some (bE0,[.ld 0 3 true 2],5):=by kernel_rfl
def bX4 (r:bJ):Exit→St→Prop:=bM [.ld 0 3 true 2] fun x _=>x=(fun y=>(lC y)) r
def bMk:AC:=(.seq (.ops [.asg 2 (kI 0)]) (.seq (.seq (.ops [.mv 3 0,.call (some 4) 13 [3,(kI 3)]]) (.block 0 (.seq (.ops [.bin 6 .eql 4 (kI 0),.asg 5 6]) (.cond 5 (.seq (.ops [.mv 7 0,.bsl 8 3 1 [(kI 0),(kI 1),(kI (-1)),(kI 63),(kI 64),(kI (-64)),(kI (-65)),(kI 127),(kI 128),(kI 16383),(kI 16384),(kI 9223372036854775807),(kI (-9223372036854775808)),(kI 4611686018427387904)],.call (some 9) 58 [7,8],.asg 2 9]) .ret) (.seq (.ops [.bin 11 .eql 4 (kI 1),.asg 10 11]) (.cond 10 (.seq (.ops [.mv 12 0,.call (some 13) 13 [12,(kI 1000000)],.bin 14 .sub 13 (kI 500000),.asg 2 14]) .ret) .skip)))))) (.seq (.ops [.mv 15 0,.call (some 16) 13 [15,(kI 20)],.asg 2 16]) .ret)))
theorem aYg:bP Tryz.prog 39=some (bMk,[.mv 0 2],17):=by kernel_rfl
def bVb (r:Int×aQ):Exit→St→Prop:=bM [.mv 0 2] fun x b=>x=(fun (y:Int×aQ)=>(vI y.1)) r∧bI ((fun (y:Int×aQ)=>[(1000000,dC y.2)]) r) b
def aMi:AC:=(.seq (.ops [.ld 19 10 true 3,.st 10 2 19]) .ret)
def aM7:AC:=(.seq (.seq (.ops [.mv 14 0,.call (some 15) 12 [14,(kI 12)]]) (.cond 15 (.ops [.mv 16 0,.call (some 17) 56 [16],.fa 18 7 3,.st 1 18 17]) .skip)) aMi)
def bBe:AC:=(.seq (.ops [.alc 2 fD]) (.seq (.ops [.mv 4 0,.bsl 5 9 1 [(.c (.d (.s (bs [97])))),(.c (.d (.s (bs [98])))),(.c (.d (.s (bs [99])))),(.c (.d (.s (bs [105,100])))),(.c (.d (.s (bs [110,97,109,101]))))],.call (some 6) 38 [4,5],.bld 7 [aR,aR,eH,aR,aR,aX,aX,aX,(.nil 10),(.nil 6)] [(0,1,(kI 2)),(7,1,6)],.alc 3 fD,.st 10 3 7]) (.seq (.seq (.ops [.mv 8 0,.call (some 9) 12 [8,(kI 3)]]) (.cond 9 (.ops [.mv 10 0,.bsl 11 9 1 [(.c (.d (.s (bs [116])))),(.c (.d (.s (bs [117])))),(.c (.d (.s (bs [118]))))],.call (some 12) 38 [10,11],.fa 13 6 3,.st 1 13 12]) .skip)) aM7)))
theorem bB1:bP Tryz.prog 33=some (bBe,[.ld 0 10 true 2],20):=by kernel_rfl
def aXm (r:aA×aQ):Exit→St→Prop:=bM [.ld 0 10 true 2] fun x b=>x=(fun (y:aA×aQ)=>(bX y.1)) r∧bI ((fun (y:aA×aQ)=>[(1000000,dC y.2)]) r) b
def bLf (y1:(List UInt8)×aQ) (jY:List UInt8) (bD:List Int) (bC:Int) (bF:Int):St:=⟨[(0,(.ptr 1000000 0)),(2,(.ptr 2 0)),(3,(.ptr 3 0))],[(2,[(vI 0),(vI 0),(vB false),(vI 0),(vI 0),(vS []),(vS []),(vS []),(.nil 10),(.nil 6)]),(3,[(vI 2),(vI 0),(vB false),(vI 0),(vI 0),(vS []),(vS jY),(vS y1.1),(.nil 10),(.nil 6)]),(1000000,dC (aQ.mk bD bC bF))]⟩
abbrev aPb:=fun y1 jY bD bC bF r=>avc Tryz.prog aM7 (aXm r) (bLf y1 jY bD bC bF)
def bAw (jY:List UInt8) (rP:List UInt8) (jG:List Int) (vF:Int) (uN:Int):St:=⟨[(2,(.ptr 2 0)),(3,(.ptr 3 0))],[(2,[(vI 0),(vI 0),(vB false),(vI 0),(vI 0),(vS []),(vS []),(vS []),(.nil 10),(.nil 6)]),(3,[(vI 2),(vI 0),(vB false),(vI 0),(vI 0),(vS []),(vS jY),(vS rP),(.nil 10),(.nil 6)]),(1000000,dC (aQ.mk jG vF uN))]⟩
abbrev aX3:=fun jY rP jG vF uN r=>avc Tryz.prog aMi (aXm r) (bAw jY rP jG vF uN)
def bNg:AC:=(.seq (.ops [.asg 2 (.c (.nil 3))]) (.seq (.ops [.mv 7 0,.call (some 8) 9 [7],.mv 6 8,.ext 9 6 0,.ext 10 6 1,.alc 4 fD,.asg 3 9,.st 10 4 10]) (.seq (.ops [.mv 11 3,.bsl 12 46 3 [],.ld 13 10 true 4,.call (some 14) 11 [12,13,(kB false)],.call (some 15) 10 [11,14],.asg 5 15]) (.seq (.seq (.ops [.mv 16 3,.call (some 17) 12 [16,(kI 2)]]) (.cond 17 (.seq (.ops [.mv 18 5,.mv 19 3,.mv 20 5,.len 21 20,.bin 22 .add 21 (kI 1),.call (some 23) 13 [19,22],.slc 24 3 18 none (some 23) none,.asg 2 24]) .ret) .skip)) (.seq (.ops [.mv 25 5,.asg 2 25]) .ret)))))
theorem bI1:bP Tryz.prog 5=some (bNg,[.mv 0 2],26):=by kernel_rfl
def bU1 (r:List aJ):Exit→St→Prop:=bM [.mv 0 2] fun x _=>x=(fun y=>(iU y)) r
def aNt:AC:=(.seq (.ops [.mv 64 5,.asg 4 64]) .ret)
def bGl:AC:=(.seq (.ops [.asg 4 (.c (.nil 3))]) (.seq (.ops [.bsl 7 46 3 [],.mv 8 1,.app 9 46 3 32 7 8,.asg 5 9]) (.seq (.ops [.mv 10 0,.mv 11 5,.len 12 11,.bin 13 .add 12 (kI 1),.call (some 14) 13 [10,13],.asg 6 14]) (.seq (.seq (.ops [.mv 15 0,.call (some 16) 13 [15,(kI 7)]]) (.block 0 (.seq (.ops [.bin 18 .eql 16 (kI 0),.asg 17 18]) (.cond 17 (.seq (.ops [.mv 19 5,.mv 20 6,.slc 21 3 19 none (some 20) none,.asg 4 21]) .ret) (.seq (.ops [.bin 23 .eql 16 (kI 1),.asg 22 23]) (.cond 22 (.dops [[],[],[],[1,2],[0,3],[],[5,4],[6],[4,7,6],[],[],[9,10],[8,11,8],[12,12,0,1,2,3,4,5,6,7,8,9,10,11,12]] [.bsl 24 46 3 [],.mv 25 1,.mv 26 6,.slc 27 3 25 none (some 26) none,.app 28 46 3 32 24 27,.mv 29 0,.call (some 30) 19 [29],.bsl 31 46 3 [30],.app 32 46 3 32 28 31,.mv 33 1,.mv 34 6,.slc 35 3 33 (some 34) none none,.app 36 46 3 32 32 35,.asg 5 36]) (.seq (.ops [.bin 38 .eql 16 (kI 2),.asg 37 38]) (.cond 37 (.seq (.ops [.mv 39 6,.mv 40 5,.len 41 40,.bin 42 .lss 39 41]) (.cond 42 (.dops [[],[],[],[1,2],[0,3],[],[],[6],[5,7],[4,8,4],[9,9,0,1,2,3,4,5,6,7,8,9]] [.bsl 43 46 3 [],.mv 44 1,.mv 45 6,.slc 46 3 44 none (some 45) none,.app 47 46 3 32 43 46,.mv 48 1,.mv 49 6,.bin 50 .add 49 (kI 1),.slc 51 3 48 (some 50) none none,.app 52 46 3 32 47 51,.asg 5 52]) .skip)) (.seq (.ops [.bin 54 .eql 16 (kI 3),.asg 53 54]) (.cond 53 (.seq (.ops [.mv 55 6,.mv 56 5,.len 57 56,.bin 58 .lss 55 57]) (.cond 58 (.ops [.mv 59 5,.mv 60 6,.mv 61 0,.call (some 62) 19 [61],.ia 63 3 59 60,.st 3 63 62]) .skip)) .skip)))))))))) aNt))))
theorem bLu:bP Tryz.prog 10=some (bGl,[.mv 0 4],65):=by kernel_rfl
def bH5 (r:(List aJ)×aQ):Exit→St→Prop:=bM [.mv 0 4] fun x b=>x=(fun (y:(List aJ)×aQ)=>(iU y.1)) r∧bI ((fun (y:(List aJ)×aQ)=>[(1000000,dC y.2)]) r) b
def aYr (bD:List Int) (bC:Int) (bF:Int) (uL:List aJ):St:=⟨[(5,(.tre 60101000))],[(1000000,dC (aQ.mk bD bC bF)),(60101000,[(.trc 3 (uL.map aV))])]⟩
abbrev aR7:=fun bD bC bF uL r=>avc Tryz.prog aNt (bH5 r) (aYr bD bC bF uL)
def aJ9:AC:=(.seq (.ops [.ld 24 3 true 3,.st 3 2 24]) .ret)
def aZq:AC:=(.seq (.ops [.alc 2 [aR,aX,aR]]) (.seq (.ops [.mv 4 0,.call (some 5) 37 [4],.alc 3 [aR,aX,aR],.st 3 3 5]) (.seq (.seq (.ops [.mv 6 0,.call (some 7) 13 [6,(kI 10)]]) (.block 0 (.seq (.ops [.bin 9 .eql 7 (kI 0),.asg 8 9]) (.cond 8 (.ops [.mv 10 0,.call (some 11) 13 [10,(kI 7)],.fa 12 0 3,.st 1 12 11]) (.seq (.ops [.bin 14 .eql 7 (kI 1),.asg 13 14]) (.cond 13 (.ops [.mv 15 0,.bsl 16 9 1 [(.c (.d (.s (bs [])))),(.c (.d (.s (bs [115,101,108,101,99,116])))),(.c (.d (.s (bs [83,69,76,69,67,84,83])))),(.c (.d (.s (bs [48,49])))),(.c (.d (.s (bs [57,50,50,51,51,55,50,48,51,54,56,53,52,55,55,53,56,48,56])))),(.c (.d (.s (bs [61,62])))),(.c (.d (.s (bs [124])))),(.c (.d (.s (bs [97,98,99,100,101,102,103,104,105,106,107,108,109,110,111,112,113,114,115,116,117])))),(.c (.d (.s (bs [49,50,51,52,53,54,55,56,57,48,49,50,51,52,53,54,55,56,57,48,49,50,51,52,53,54,55,56,57,48,49,50,51,52,53,54,55,56,57,48,49]))))],.call (some 17) 38 [15,16],.fa 18 1 3,.st 1 18 17]) (.seq (.ops [.bin 20 .eql 7 (kI 2),.asg 19 20]) (.cond 19 (.ops [.mv 21 0,.call (some 22) 39 [21],.fa 23 2 3,.st 1 23 22]) .skip)))))))) aJ9)))
theorem aZe:bP Tryz.prog 19=some (aZq,[.ld 0 3 true 2],25):=by kernel_rfl
def bM9 (r:aJ×aQ):Exit→St→Prop:=bM [.ld 0 3 true 2] fun x b=>x=(fun (y:aJ×aQ)=>(kP y.1)) r∧bI ((fun (y:aJ×aQ)=>[(1000000,dC y.2)]) r) b
def bI4 (xV:Int) (bG:List UInt8) (dX:Int) (bD:List Int) (bC:Int) (bF:Int):St:=⟨[(2,(.ptr 2 0)),(3,(.ptr 3 0))],[(2,[(vI 0),(vS []),(vI 0)]),(3,bNr (aJ.mk xV bG dX)),(1000000,dC (aQ.mk bD bC bF))]⟩
abbrev aUj:=fun xV bG dX bD bC bF r=>avc Tryz.prog aJ9 (bM9 r) (bI4 xV bG dX bD bC bF)
def bEp:AC:=(.seq (.ops [.alc 2 [aR,aX,aR]]) (.seq (.seq (.ops [.mv 3 0,.call (some 4) 13 [3,(kI 6)]]) (.block 0 (.seq (.ops [.bin 6 .eql 4 (kI 0),.asg 5 6]) (.cond 5 (.seq (.ops [.call (some 7) 59 [],.mv 8 0,.call (some 9) 13 [8,(kI 28)],.bin 10 .add (kI 1) 9,.ia 11 1 7 10,.ld 12 1 false 11,.bld 13 [aR,aX,aR] [(0,1,(kI 1)),(1,1,12)],.st 3 2 13]) .ret) (.seq (.ops [.bin 15 .eql 4 (kI 1),.asg 14 15]) (.cond 14 (.seq (.ops [.mv 16 0,.call (some 17) 56 [16],.bld 18 [aR,aX,aR] [(0,1,(kI 2)),(1,1,17)],.st 3 2 18]) .ret) (.seq (.ops [.bin 20 .eql 4 (kI 2),.asg 19 20]) (.cond 19 (.seq (.ops [.mv 21 0,.call (some 22) 39 [21],.call (some 23) 60 [(kI 0),22],.call (some 24) 40 [23],.bld 25 [aR,aX,aR] [(0,1,(kI 3)),(1,1,24)],.st 3 2 25]) .ret) (.seq (.ops [.bin 27 .eql 4 (kI 3),.asg 26 27]) (.cond 26 (.seq (.ops [.mv 28 0,.bsl 29 9 1 [(.c (.d (.s (bs [])))),(.c (.d (.s (bs [120])))),(.c (.d (.s (bs [105,116,39,115])))),(.c (.d (.s (bs [39,39])))),(.c (.d (.s (bs [116,119,111,32,119,111,114,100,115])))),(.c (.d (.s (bs [34])))),(.c (.d (.s (bs [45,45])))),(.c (.d (.s (bs [0,255]))))],.call (some 30) 38 [28,29],.bld 31 [aR,aX,aR] [(0,1,(kI 4)),(1,1,30)],.st 3 2 31]) .ret) .skip)))))))))) (.seq (.ops [.mv 32 0,.call (some 33) 61 [32],.bld 34 [aR,aX,aR] [(0,1,(kI 5)),(1,1,33)],.st 3 2 34]) .ret)))
theorem bC1:bP Tryz.prog 37=some (bEp,[.ld 0 3 true 2],35):=by kernel_rfl
def bVx (r:aJ×aQ):Exit→St→Prop:=bM [.ld 0 3 true 2] fun x b=>x=(fun (y:aJ×aQ)=>(kP y.1)) r∧bI ((fun (y:aJ×aQ)=>[(1000000,dC y.2)]) r) b
def aZm:AC:=(.seq (.ops [.asg 4 (kI 0)]) (.seq (.seq (.ops [.mv 5 0,.mv 6 1,.bin 7 .gtr 5 6]) (.cond 7 (.seq (.ops [.mv 8 0,.asg 4 8]) .ret) .skip)) (.seq (.ops [.mv 9 1,.asg 4 9]) .ret)))
theorem bJg:bP Tryz.prog 60=some (aZm,[.mv 0 4],10):=by kernel_rfl
def bUc (r:Int):Exit→St→Prop:=bM [.mv 0 4] fun x _=>x=(fun y=>(vI y)) r
def aZd:AC:=(.seq (.ops [.asg 2 (.c (.d (.s (bs []))))]) (.seq (.ops [.mv 3 0,.bsl 4 9 1 [(.c (.d (.s (bs [40])))),(.c (.d (.s (bs [41])))),(.c (.d (.s (bs [44])))),(.c (.d (.s (bs [46])))),(.c (.d (.s (bs [42])))),(.c (.d (.s (bs [43])))),(.c (.d (.s (bs [45])))),(.c (.d (.s (bs [47])))),(.c (.d (.s (bs [37])))),(.c (.d (.s (bs [61])))),(.c (.d (.s (bs [60,62])))),(.c (.d (.s (bs [60])))),(.c (.d (.s (bs [60,61])))),(.c (.d (.s (bs [62])))),(.c (.d (.s (bs [62,61])))),(.c (.d (.s (bs [124,124]))))],.call (some 5) 38 [3,4],.asg 2 5]) .ret))
theorem bKr:bP Tryz.prog 61=some (aZd,[.mv 0 2],6):=by kernel_rfl
def bTj (r:(List UInt8)×aQ):Exit→St→Prop:=bM [.mv 0 2] fun x b=>x=(fun (y:(List UInt8)×aQ)=>(vS y.1)) r∧bI ((fun (y:(List UInt8)×aQ)=>[(1000000,dC y.2)]) r) b
def bRy:AC:=(.seq (.ops [.box 1 30 0,.alc 2 [aR,aX,aR]]) (.seq (.seq (.ops [.fa 3 0 1,.ld 4 1 false 3]) (.block 0 (.seq (.ops [.bin 6 .eql 4 (kI 1),.asg 5 6]) (.cond 5 (.seq (.ops [.fa 7 1 1,.ld 8 1 false 7,.call (some 9) 40 [8],.bld 10 [aR,aX,aR] [(0,1,(kI 3)),(1,1,9)],.st 3 2 10]) .ret) (.seq (.ops [.bin 12 .eql 4 (kI 2),.asg 11 12]) (.cond 11 (.seq (.ops [.fa 13 2 1,.ld 14 1 false 13,.bld 15 [aR,aX,aR] [(0,1,(kI 4)),(1,1,14)],.st 3 2 15]) .ret) (.seq (.ops [.bin 17 .eql 4 (kI 3),.asg 16 17]) (.cond 16 (.seq (.seq (.ops [.fa 18 1 1,.ld 19 1 false 18,.bin 20 .eql 19 (kI 1)]) (.cond 20 (.seq (.ops [.call (some 21) 26 [(kI 21)],.st 3 2 21]) .ret) .skip)) (.seq (.ops [.call (some 22) 26 [(kI 22)],.st 3 2 22]) .ret)) .skip)))))))) (.seq (.ops [.call (some 23) 26 [(kI 20)],.st 3 2 23]) .ret)))
theorem bKj:bP Tryz.prog 20=some (bRy,[.ld 0 3 true 2],24):=by kernel_rfl
def bTn (r:aJ):Exit→St→Prop:=bM [.ld 0 3 true 2] fun x _=>x=(fun y=>(kP y)) r
def bIr:AC:=(.seq (.ops [.alc 2 [aR,aX,aR]]) (.seq (.ops [.mv 3 0,.call (some 4) 47 [3],.bld 5 [aR,aX,aR] [(0,1,(kI 1)),(1,1,4)],.st 3 2 5]) .ret))
theorem bOr:bP Tryz.prog 26=some (bIr,[.ld 0 3 true 2],6):=by kernel_rfl
def bW5 (r:aJ):Exit→St→Prop:=bM [.ld 0 3 true 2] fun x _=>x=(fun y=>(kP y)) r
def aO8:AC:=(.seq (.ops [.mv 30 0,.fa 31 7 4,.ld 32 1 false 31,.call (some 33) 21 [32],.bsl 34 46 3 [33],.app 35 46 3 32 30 34,.asg 6 35]) .ret)
def aN9:AC:=(.ops [.mv 143 0,.ld 144 10 true 4,.mv 145 7,.mv 146 2,.call (some 147) 23 [143,144,145,146],.asg 0 147])
def aXu:AC:=(.ops [.mv 135 7,.bin 136 .add 135 (kI 1),.asg 7 136])
def aG0:AC:=(.loop (.seq (.seq (.ops [.mv 130 7,.fa 131 8 4,.ld 132 1 false 131,.len 133 132,.bin 134 .lss 130 133]) (.cond 134 .skip (.exit 2))) (.seq (.block 3 (.seq (.seq (.ops [.mv 137 7,.bin 138 .gtr 137 (kI 1)]) (.cond 138 (.ops [.mv 139 0,.call (some 140) 22 [(.c (.d (.s (bs [44]))))],.bsl 141 46 3 [140],.app 142 46 3 32 139 141,.asg 0 142]) .skip)) aN9)) aXu)))
def aX4:AC:=(.seq (.ops [.mv 148 0,.call (some 149) 22 [(.c (.d (.s (bs [41]))))],.bsl 150 46 3 [149],.app 151 46 3 32 148 150,.asg 6 151]) .ret)
def aVy:AC:=(.seq (.ops [.mv 64 0,.ld 65 10 true 4,.mv 66 2,.call (some 67) 23 [64,65,(kI 0),66],.asg 0 67]) (.seq (.seq (.ops [.fa 68 0 4,.ld 69 1 false 68]) (.block 1 (.seq (.ops [.bin 71 .eql 69 (kI 4),.asg 70 71]) (.cond 70 (.seq (.dops [[],[],[1],[2],[3],[0,4,3],[],[],[5,6,7,5],[8,8,0,1,2,3,4,5,6,7,8]] [.mv 72 0,.fa 73 1 4,.ld 74 1 false 73,.call (some 75) 24 [74],.bsl 76 46 3 [75],.app 77 46 3 32 72 76,.ld 78 10 true 4,.mv 79 2,.call (some 80) 23 [77,78,(kI 1),79],.asg 6 80]) .ret) (.seq (.ops [.bin 82 .eql 69 (kI 5),.asg 81 82]) (.cond 81 (.seq (.dops [[],[],[1],[0,2,1],[],[3,4,3],[5],[6],[5,7,6],[8,8,0,1,2,3,4,5,6,7,8]] [.mv 83 0,.call (some 84) 26 [(kI 16)],.bsl 85 46 3 [84],.app 86 46 3 32 83 85,.ld 87 10 true 4,.call (some 88) 27 [86,87],.call (some 89) 26 [(kI 20)],.bsl 90 46 3 [89],.app 91 46 3 32 88 90,.asg 6 91]) .ret) (.seq (.ops [.bin 93 .eql 69 (kI 6),.asg 92 93]) (.cond 92 (.seq (.dops [[],[],[0,1],[2],[3],[2,4,3],[],[],[5,6,7,5],[8,8,0,1,2,3,4,5,6,7,8]] [.mv 94 0,.ld 95 10 true 4,.call (some 96) 27 [94,95],.call (some 97) 26 [(kI 18)],.bsl 98 46 3 [97],.app 99 46 3 32 96 98,.ld 100 10 true 4,.mv 101 2,.call (some 102) 23 [99,100,(kI 1),101],.asg 0 102]) (.seq (.dops [[],[],[1],[0,2,1],[],[],[3,4,5,3],[6,6,0,1,2,3,4,5,6]] [.mv 103 0,.call (some 104) 26 [(kI 13)],.bsl 105 46 3 [104],.app 106 46 3 32 103 105,.ld 107 10 true 4,.mv 108 2,.call (some 109) 23 [106,107,(kI 2),108],.asg 6 109]) .ret)) .skip)))))))) (.seq (.ops [.mv 110 0,.ld 111 10 true 4,.call (some 112) 27 [110,111],.call (some 113) 26 [(kI 17)],.call (some 114) 22 [(.c (.d (.s (bs [40]))))],.bsl 115 46 3 [113,114],.app 116 46 3 32 112 115,.asg 0 116]) (.seq (.seq (.ops [.fa 117 0 4,.ld 118 1 false 117,.bin 119 .eql 118 (kI 8)]) (.cond 119 (.seq (.ops [.mv 120 0,.fa 121 9 4,.ld 122 1 false 121,.ia 123 6 122 (kI 0),.ld 124 6 true 123,.mv 125 2,.call (some 126) 25 [120,124,125],.call (some 127) 22 [(.c (.d (.s (bs [41]))))],.bsl 128 46 3 [127],.app 129 46 3 32 126 128,.asg 6 129]) .ret) .skip)) (.seq (.seq (.ops [.asg 7 (kI 1)]) (.block 2 aG0)) aX4)))))
def bCw:AC:=(.seq (.ops [.box 4 34 1,.asg 6 (.c (.nil 3))]) (.seq (.seq (.ops [.fa 8 0 4,.ld 9 1 false 8]) (.block 0 (.seq (.ops [.bin 11 .eql 9 (kI 1),.asg 10 11]) (.cond 10 (.seq (.ops [.mv 12 0,.fa 13 3 4,.ld 14 3 true 13,.call (some 15) 20 [14],.bsl 16 46 3 [15],.app 17 46 3 32 12 16,.asg 6 17]) .ret) (.seq (.ops [.bin 19 .eql 9 (kI 2),.asg 18 19]) (.cond 18 (.seq (.seq (.ops [.fa 20 6 4,.ld 21 1 false 20,.bin 22 .neq 21 (.c (.d (.s (bs []))))]) (.cond 22 (.ops [.mv 23 0,.fa 24 6 4,.ld 25 1 false 24,.call (some 26) 21 [25],.call (some 27) 22 [(.c (.d (.s (bs [46]))))],.bsl 28 46 3 [26,27],.app 29 46 3 32 23 28,.asg 0 29]) .skip)) aO8) (.seq (.ops [.bin 37 .eql 9 (kI 3),.asg 36 37]) (.cond 36 (.seq (.dops [[],[],[1],[2],[3],[0,4,3],[],[],[5,6,7,5],[8,8,0,1,2,3,4,5,6,7,8]] [.mv 38 0,.fa 39 1 4,.ld 40 1 false 39,.call (some 41) 24 [40],.bsl 42 46 3 [41],.app 43 46 3 32 38 42,.ld 44 10 true 4,.mv 45 2,.call (some 46) 23 [43,44,(kI 0),45],.asg 6 46]) .ret) (.seq (.ops [.bin 48 .eql 9 (kI 9),.asg 47 48]) (.cond 47 (.seq (.dops [[],[],[1],[1,2],[0,3,2],[],[5],[6],[7],[],[4,8,9,4],[10,10,0,1,2,3,4,5,6,7,8,9,10]] [.mv 49 0,.call (some 50) 26 [(kI 19)],.call (some 51) 22 [(.c (.d (.s (bs [40]))))],.bsl 52 46 3 [50,51],.app 53 46 3 32 49 52,.fa 54 9 4,.ld 55 1 false 54,.ia 56 6 55 (kI 0),.ld 57 6 true 56,.mv 58 2,.call (some 59) 25 [53,57,58],.asg 0 59]) (.seq (.ops [.mv 60 0,.call (some 61) 22 [(.c (.d (.s (bs [41]))))],.bsl 62 46 3 [61],.app 63 46 3 32 60 62,.asg 6 63]) .ret)) .skip)))))))))) aVy))
theorem bGf:bP Tryz.prog 11=some (bCw,[.mv 0 6],152):=by kernel_rfl
def aHv (r:List aJ):Exit→St→Prop:=bM [.mv 0 6] fun x b=>x=(fun (y:List aJ)=>(.osl 2000000 46 3 (y.map aV))) r∧bI ((fun (y:List aJ)=>[]) r) b
def bL7 (r:List aJ):Exit→St→Prop:=(eU (wkK (avc Tryz.prog aVy (aHv r))) (aHv r))
def bGo (r:List aJ):Exit→St→Prop:=(eY 0 (bL7 r))
def bEw (r:List aJ):Exit→St→Prop:=(eU (wkK (avc Tryz.prog aX4 (aHv r))) (aHv r))
def aLs (r:List aJ):Exit→St→Prop:=(eY 2 (bEw r))
def aQ1 (r:List aJ):Exit→St→Prop:=(eU (avc Tryz.prog aG0 (aLs r)) (aLs r))
def bEh (r:List aJ):Exit→St→Prop:=(eU (wkK (avc Tryz.prog aXu (aQ1 r))) (aQ1 r))
def bKo (r:List aJ):Exit→St→Prop:=(eY 3 (bEh r))
def bNq (p1:aA) (x0:List aJ):St:=⟨[(0,(.osl 0 46 3 (x0.map aV))),(4,(.ptr 4 0))],[(4,fK p1)]⟩
abbrev aQj:=fun p1 x0 r=>avc Tryz.prog aO8 (bGo r) (bNq p1 x0)
def bDx (p2:Bool) (p1:aA) (nE:List aJ) (x7:Int):St:=⟨[(0,(.osl 0 46 3 (nE.map aV))),(2,(vB p2)),(4,(.ptr 4 0)),(7,(vI x7))],[(4,fK p1)]⟩
abbrev aDj:=fun p2 p1 nE x7 r=>avc Tryz.prog aG0 (aLs r) (bDx p2 p1 nE x7)
def bRz (p2:Bool) (x7:Int) (p1:aA) (oO:List aJ):St:=⟨[(0,(.osl 0 46 3 (oO.map aV))),(2,(vB p2)),(4,(.ptr 4 0)),(7,(vI x7))],[(4,fK p1)]⟩
abbrev aF1:=fun p2 x7 p1 oO r=>avc Tryz.prog aN9 (bKo r) (bRz p2 x7 p1 oO)
def bK1:AC:=(.seq (.ops [.alc 2 [aR,aX,aR]]) (.seq (.ops [.mv 3 0,.bld 4 [aR,aX,aR] [(0,1,(kI 2)),(1,1,3)],.st 3 2 4]) .ret))
theorem aYn:bP Tryz.prog 21=some (bK1,[.ld 0 3 true 2],5):=by kernel_rfl
def bVt (r:aJ):Exit→St→Prop:=bM [.ld 0 3 true 2] fun x _=>x=(fun y=>(kP y)) r
def bBx:AC:=(.seq (.ops [.box 2 34 0,.asg 4 (kB false)]) (.seq (.dops [[],[],[1],[2],[3],[0,4],[5,5],[6],[7,6],[6],[8,9,6],[10,6],[11,6,6],[6],[6],[13,14,12,6],[12,15,6],[6,16],[17,15,0,1,2,3,4,5,6,7,8,9,10,11,12,13,14,15,16,17]] [.mv 5 1,.fa 6 8 2,.ld 7 1 false 6,.len 8 7,.bin 9 .sub 8 (kI 1),.call (some 10) 62 [5,(kI 0),9],.mv 11 10,.g 11 true (.fa 12 8 2),.g 11 true (.ld 13 1 false 12),.g 11 true (.mv 14 1),.g 11 true (.ia 15 10 13 14),.g 11 true (.ld 16 10 true 15),.g 11 true (.call (some 17) 42 [16]),.g 11 true (.ld 18 10 true 2),.g 11 true (.mv 19 1),.g 11 true (.call (some 20) 63 [18,19]),.g 11 true (.bin 21 .lss 17 20),.pick 22 11 21 (kB false),.asg 4 22]) .ret))
theorem aZt:bP Tryz.prog 41=some (bBx,[.mv 0 4],23):=by kernel_rfl
def bUl (r:Bool):Exit→St→Prop:=bM [.mv 0 4] fun x _=>x=(fun y=>(vB y)) r
def aMh:AC:=(.seq (.ops [.asg 4 (kI 5)]) .ret)
def bHx:AC:=(.seq (.ops [.box 2 34 0,.asg 4 (kI 0)]) (.seq (.ops [.ld 6 10 true 2,.call (some 7) 42 [6],.asg 5 7]) (.seq (.seq (.ops [.mv 8 1,.fa 9 8 2,.ld 10 1 false 9,.len 11 10,.bin 12 .sub 11 (kI 1),.call (some 13) 62 [8,(kI 0),12],.not 14 13,.mv 15 14,.g 15 false (.mv 16 5),.g 15 false (.bin 17 .eql 16 (kI 0)),.pick 18 15 (kB true) 17,.mv 19 18,.g 19 false (.mv 20 5),.g 19 false (.bin 21 .eql 20 (kI 9)),.pick 22 19 (kB true) 21]) (.cond 22 (.seq (.ops [.asg 4 (kI 0)]) .ret) .skip)) (.seq (.seq (.ops [.fa 23 0 2,.ld 24 1 false 23]) (.block 0 (.seq (.ops [.bin 26 .eql 24 (kI 3),.asg 25 26]) (.cond 25 (.seq (.ops [.mv 27 5,.asg 4 27]) .ret) (.seq (.ops [.bin 29 .eql 24 (kI 4),.asg 28 29]) (.cond 28 (.seq (.seq (.ops [.mv 30 5,.bin 31 .eql 30 (kI 4)]) (.cond 31 (.seq (.ops [.asg 4 (kI 5)]) .ret) .skip)) (.seq (.seq (.ops [.mv 32 1,.bin 33 .eql 32 (kI 0)]) (.cond 33 (.seq (.ops [.mv 34 5,.asg 4 34]) .ret) .skip)) (.seq (.ops [.mv 35 5,.bin 36 .add 35 (kI 1),.asg 4 36]) .ret))) (.seq (.ops [.bin 38 .eql 24 (kI 7),.asg 37 38]) (.cond 37 (.seq (.ops [.mv 39 1,.bin 40 .gtr 39 (kI 0)]) (.cond 40 (.seq (.ops [.asg 4 (kI 1)]) .ret) .skip)) .skip)))))))) aMh))))
theorem bKt:bP Tryz.prog 63=some (bHx,[.mv 0 4],41):=by kernel_rfl
def bJh (r:Int):Exit→St→Prop:=bM [.mv 0 4] fun x _=>x=(fun y=>(vI y)) r
def bH8:St:=⟨[],[]⟩
abbrev aOx:=fun r=>avc Tryz.prog aMh (bJh r) (bH8)
def bGk:AC:=(.seq (.ops [.box 3 34 1,.asg 4 (.c (.nil 3))]) (.seq (.seq (.ops [.fa 5 2 3,.ld 6 1 false 5]) (.cond 6 (.seq (.ops [.mv 7 0,.call (some 8) 26 [(kI 15)],.bsl 9 46 3 [8],.app 10 46 3 32 7 9,.asg 4 10]) .ret) .skip)) (.seq (.ops [.mv 11 0,.asg 4 11]) .ret)))
theorem bKh:bP Tryz.prog 27=some (bGk,[.mv 0 4],12):=by kernel_rfl
def bWv (r:List aJ):Exit→St→Prop:=bM [.mv 0 4] fun x b=>x=(fun (y:List aJ)=>(.osl 2000000 46 3 (y.map aV))) r∧bI ((fun (y:List aJ)=>[]) r) b
def aKh:AC:=(.ops [.mv 32 0,.fa 33 1 4,.ld 34 1 false 33,.mv 35 7,.ia 36 13 34 35,.ld 37 13 true 36,.mv 38 2,.call (some 39) 44 [32,37,38],.asg 0 39])
def aQo:AC:=(.ops [.mv 24 7,.bin 25 .add 24 (kI 1),.asg 7 25])
def aEn:AC:=(.loop (.seq (.seq (.ops [.mv 19 7,.fa 20 1 4,.ld 21 1 false 20,.len 22 21,.bin 23 .lss 19 22]) (.cond 23 .skip (.exit 0))) (.seq (.block 1 (.seq (.seq (.ops [.mv 26 7,.bin 27 .gtr 26 (kI 0)]) (.cond 27 (.ops [.mv 28 0,.call (some 29) 22 [(.c (.d (.s (bs [44]))))],.bsl 30 46 3 [29],.app 31 46 3 32 28 30,.asg 0 31]) .skip)) aKh)) aQo)))
def aIy:AC:=(.seq (.ops [.mv 71 0,.fa 72 4 4,.ld 73 1 false 72,.mv 74 8,.ia 75 11 73 74,.fa 76 0 75,.ld 77 10 true 76,.mv 78 2,.call (some 79) 11 [71,77,78],.asg 0 79]) (.seq (.ops [.fa 80 4 4,.ld 81 1 false 80,.mv 82 8,.ia 83 11 81 82,.fa 84 10 83,.ld 85 1 false 84]) (.cond 85 (.ops [.mv 86 0,.call (some 87) 26 [(kI 10)],.bsl 88 46 3 [87],.app 89 46 3 32 86 88,.asg 0 89]) .skip)))
def aFz:AC:=(.ops [.mv 58 8,.bin 59 .add 58 (kI 1),.asg 8 59])
def aDt:AC:=(.loop (.seq (.seq (.ops [.mv 53 8,.fa 54 4 4,.ld 55 1 false 54,.len 56 55,.bin 57 .lss 53 56]) (.cond 57 .skip (.exit 2))) (.seq (.block 3 (.seq (.seq (.ops [.mv 60 8,.bin 61 .eql 60 (kI 0)]) (.cond 61 (.ops [.mv 62 0,.call (some 63) 26 [(kI 7)],.call (some 64) 26 [(kI 8)],.bsl 65 46 3 [63,64],.app 66 46 3 32 62 65,.asg 0 66]) (.ops [.mv 67 0,.call (some 68) 22 [(.c (.d (.s (bs [44]))))],.bsl 69 46 3 [68],.app 70 46 3 32 67 69,.asg 0 70]))) aIy)) aFz)))
def aIr:AC:=(.seq (.ops [.mv 101 0,.asg 6 101]) .ret)
def aOn:AC:=(.seq (.seq (.ops [.fa 90 5 4,.ld 91 1 false 90,.bin 92 .geq 91 (kI 0)]) (.cond 92 (.dops [[],[],[],[2],[3,1],[4],[1,5],[0,6,4],[7,7,0,1,2,3,4,5,6,7]] [.mv 93 0,.call (some 94) 26 [(kI 11)],.fa 95 5 4,.ld 96 1 false 95,.call (some 97) 40 [96],.bld 98 [aR,aX,aR] [(0,1,(kI 3)),(1,1,97)],.bsl 99 46 3 [94,98],.app 100 46 3 32 93 99,.asg 0 100]) .skip)) aIr)
def aVn:AC:=(.seq (.dops [[],[],[1],[0,2,1],[],[4],[],[3,5,6,3],[7,7,0,1,2,3,4,5,6,7]] [.mv 40 0,.call (some 41) 26 [(kI 3)],.bsl 42 46 3 [41],.app 43 46 3 32 40 42,.fa 44 2 4,.ld 45 1 false 44,.mv 46 2,.call (some 47) 45 [43,45,46],.asg 0 47]) (.seq (.ops [.mv 48 0,.fa 49 3 4,.ld 50 1 false 49,.mv 51 2,.call (some 52) 46 [48,50,51],.asg 0 52]) (.seq (.seq (.ops [.asg 8 (kI 0)]) (.block 2 aDt)) aOn)))
def aJb:AC:=(.seq (.seq (.ops [.asg 7 (kI 0)]) (.block 0 aEn)) aVn)
def bKw:AC:=(.seq (.ops [.box 4 57 1,.asg 6 (.c (.nil 3))]) (.seq (.ops [.mv 9 0,.call (some 10) 26 [(kI 1)],.bsl 11 46 3 [10],.app 12 46 3 32 9 11,.asg 0 12]) (.seq (.seq (.ops [.fa 13 0 4,.ld 14 1 false 13]) (.cond 14 (.ops [.mv 15 0,.call (some 16) 26 [(kI 2)],.bsl 17 46 3 [16],.app 18 46 3 32 15 17,.asg 0 18]) .skip)) aJb)))
theorem bIp:bP Tryz.prog 25=some (bKw,[.mv 0 6],102):=by kernel_rfl
def P6 (r:List aJ):Exit→St→Prop:=bM [.mv 0 6] fun x b=>x=(fun (y:List aJ)=>(.osl 2000000 46 3 (y.map aV))) r∧bI ((fun (y:List aJ)=>[]) r) b
def bSv (r:List aJ):Exit→St→Prop:=(eU (wkK (avc Tryz.prog aVn (P6 r))) (P6 r))
def aJj (r:List aJ):Exit→St→Prop:=(eY 0 (bSv r))
def aUy (r:List aJ):Exit→St→Prop:=(eU (avc Tryz.prog aEn (aJj r)) (aJj r))
def bN3 (r:List aJ):Exit→St→Prop:=(eU (wkK (avc Tryz.prog aQo (aUy r))) (aUy r))
def bEa (r:List aJ):Exit→St→Prop:=(eY 1 (bN3 r))
def bFp (r:List aJ):Exit→St→Prop:=(eU (wkK (avc Tryz.prog aOn (P6 r))) (P6 r))
def aNy (r:List aJ):Exit→St→Prop:=(eY 2 (bFp r))
def aLy (r:List aJ):Exit→St→Prop:=(eU (avc Tryz.prog aDt (aNy r)) (aNy r))
def bNb (r:List aJ):Exit→St→Prop:=(eU (wkK (avc Tryz.prog aFz (aLy r))) (aLy r))
def bNo (r:List aJ):Exit→St→Prop:=(eY 3 (bNb r))
def bT2 (p2:Bool) (p1:aY) (x0:List aJ):St:=⟨[(0,(.osl 0 46 3 (x0.map aV))),(2,(vB p2)),(4,(.ptr 4 0))],[(4,L6 p1)]⟩
abbrev aEd:=fun p2 p1 x0 r=>avc Tryz.prog aJb (P6 r) (bT2 p2 p1 x0)
def aZv (p2:Bool) (p1:aY) (gQ:List aJ) (x7:Int):St:=⟨[(0,(.osl 0 46 3 (gQ.map aV))),(2,(vB p2)),(4,(.ptr 4 0)),(7,(vI x7))],[(4,L6 p1)]⟩
abbrev aI1:=fun p2 p1 gQ x7 r=>avc Tryz.prog aEn (aJj r) (aZv p2 p1 gQ x7)
def bS5 (p2:Bool) (x7:Int) (p1:aY) (oW:List aJ):St:=⟨[(0,(.osl 0 46 3 (oW.map aV))),(2,(vB p2)),(4,(.ptr 4 0)),(7,(vI x7))],[(4,L6 p1)]⟩
abbrev aFc:=fun p2 x7 p1 oW r=>avc Tryz.prog aKh (bEa r) (bS5 p2 x7 p1 oW)
def bM0 (p2:Bool) (p1:aY) (mI:List aJ) (x8:Int):St:=⟨[(0,(.osl 0 46 3 (mI.map aV))),(2,(vB p2)),(4,(.ptr 4 0)),(8,(vI x8))],[(4,L6 p1)]⟩
abbrev aFq:=fun p2 p1 mI x8 r=>avc Tryz.prog aDt (aNy r) (bM0 p2 p1 mI x8)
def bQg (p2:Bool) (x8:Int) (p1:aY) (oL:List aJ):St:=⟨[(0,(.osl 0 46 3 (oL.map aV))),(2,(vB p2)),(4,(.ptr 4 0)),(8,(vI x8))],[(4,L6 p1)]⟩
abbrev aHn:=fun p2 x8 p1 oL r=>avc Tryz.prog aIy (bNo r) (bQg p2 x8 p1 oL)
def bOm (vN:List aJ):St:=⟨[(0,(.osl 0 46 3 (vN.map aV)))],[]⟩
abbrev aV0:=fun vN r=>avc Tryz.prog aIr (P6 r) (bOm vN)
def bGv (p2:Bool) (x8:Int) (p1:aY) (oM:List aJ):St:=⟨[(0,(.osl 0 46 3 (oM.map aV))),(2,(vB p2)),(4,(.ptr 4 0)),(8,(vI x8))],[(4,L6 p1)]⟩
abbrev aGp:=fun p2 x8 p1 oM r=>avc Tryz.prog aFz (aLy r) (bGv p2 x8 p1 oM)
def bQx:AC:=(.seq (.ops [.box 5 34 1,.asg 8 (.c (.nil 3))]) (.seq (.ops [.fa 10 8 5,.ld 11 1 false 10,.mv 12 2,.ia 13 10 11 12,.ld 14 10 true 13,.alc 9 fD,.st 10 9 14]) (.seq (.seq (.ops [.ld 15 10 true 5,.mv 16 2,.call (some 17) 41 [15,16],.mv 18 17,.g 18 false (.mv 19 3),.g 18 false (.mv 20 19),.g 20 true (.ld 21 10 true 9),.g 20 true (.call (some 22) 42 [21]),.g 20 true (.bin 23 .lss 22 (kI 9)),.g 18 false (.pick 24 20 23 (kB false)),.pick 25 18 (kB true) 24]) (.cond 25 (.seq (.dops [[],[],[1],[0,2,1],[],[],[3,4,5,3],[6,6,0,1,2,3,4,5,6]] [.mv 26 0,.call (some 27) 22 [(.c (.d (.s (bs [40]))))],.bsl 28 46 3 [27],.app 29 46 3 32 26 28,.ld 30 10 true 9,.mv 31 3,.call (some 32) 11 [29,30,31],.asg 0 32]) (.seq (.ops [.mv 33 0,.call (some 34) 22 [(.c (.d (.s (bs [41]))))],.bsl 35 46 3 [34],.app 36 46 3 32 33 35,.asg 8 36]) .ret)) .skip)) (.seq (.ops [.mv 37 0,.ld 38 10 true 9,.mv 39 3,.call (some 40) 11 [37,38,39],.asg 8 40]) .ret))))
theorem bRs:bP Tryz.prog 23=some (bQx,[.mv 0 8],41):=by kernel_rfl
def bX1 (r:List aJ):Exit→St→Prop:=bM [.mv 0 8] fun x b=>x=(fun (y:List aJ)=>(.osl 2000000 46 3 (y.map aV))) r∧bI ((fun (y:List aJ)=>[]) r) b
def aO1:AC:=(.seq (.ops [.mv 28 0,.call (some 29) 22 [(.c (.d (.s (bs [42]))))],.bsl 30 46 3 [29],.app 31 46 3 32 28 30,.asg 6 31]) .ret)
def bMl:AC:=(.seq (.ops [.box 4 83 1,.asg 6 (.c (.nil 3))]) (.seq (.seq (.ops [.fa 7 0 4,.ld 8 1 false 7,.not 9 8]) (.cond 9 (.seq (.dops [[],[],[1],[],[0,2,3],[],[5],[4,6,4],[7,7,0,1,2,3,4,5,6,7]] [.mv 10 0,.fa 11 2 4,.ld 12 10 true 11,.mv 13 2,.call (some 14) 11 [10,12,13],.fa 15 12 4,.ld 16 1 false 15,.call (some 17) 64 [14,16],.asg 6 17]) .ret) .skip)) (.seq (.seq (.ops [.fa 18 1 4,.ld 19 1 false 18,.bin 20 .neq 19 (.c (.d (.s (bs []))))]) (.cond 20 (.ops [.mv 21 0,.fa 22 1 4,.ld 23 1 false 22,.call (some 24) 21 [23],.call (some 25) 22 [(.c (.d (.s (bs [46]))))],.bsl 26 46 3 [24,25],.app 27 46 3 32 21 26,.asg 0 27]) .skip)) aO1)))
theorem bN5:bP Tryz.prog 44=some (bMl,[.mv 0 6],32):=by kernel_rfl
def bT0 (r:List aJ):Exit→St→Prop:=bM [.mv 0 6] fun x b=>x=(fun (y:List aJ)=>(.osl 2000000 46 3 (y.map aV))) r∧bI ((fun (y:List aJ)=>[]) r) b
def bLp (x0:List aJ):St:=⟨[(0,(.osl 0 46 3 (x0.map aV)))],[]⟩
abbrev aPa:=fun x0 r=>avc Tryz.prog aO1 (bT0 r) (bLp x0)
def bNu:AC:=(.seq (.ops [.asg 4 (.c (.nil 3))]) (.seq (.seq (.ops [.mv 5 1,.bin 6 .eql 5 (.c (.d (.s (bs []))))]) (.cond 6 (.seq (.ops [.mv 7 0,.asg 4 7]) .ret) .skip)) (.seq (.ops [.mv 8 0,.call (some 9) 26 [(kI 12)],.mv 10 1,.call (some 11) 21 [10],.bsl 12 46 3 [9,11],.app 13 46 3 32 8 12,.asg 4 13]) .ret)))
theorem bOu:bP Tryz.prog 64=some (bNu,[.mv 0 4],14):=by kernel_rfl
def bU6 (r:List aJ):Exit→St→Prop:=bM [.mv 0 4] fun x b=>x=(fun (y:List aJ)=>(.osl 2000000 46 3 (y.map aV))) r∧bI ((fun (y:List aJ)=>[]) r) b
def bPl:AC:=(.seq (.ops [.asg 6 (.c (.nil 3))]) (.seq (.seq (.ops [.mv 7 1,.len 8 7,.bin 9 .eql 8 (kI 0)]) (.cond 9 (.seq (.ops [.mv 10 0,.asg 6 10]) .ret) .skip)) (.seq (.dops [[],[],[1],[0,2,1],[],[4],[5],[],[3,6,7,3],[8,8,0,1,2,3,4,5,6,7,8]] [.mv 11 0,.call (some 12) 26 [(kI 6)],.bsl 13 46 3 [12],.app 14 46 3 32 11 13,.mv 15 1,.ia 16 10 15 (kI 0),.ld 17 10 true 16,.mv 18 2,.call (some 19) 11 [14,17,18],.asg 6 19]) .ret)))
theorem bRn:bP Tryz.prog 46=some (bPl,[.mv 0 6],20):=by kernel_rfl
def bVu (r:List aJ):Exit→St→Prop:=bM [.mv 0 6] fun x b=>x=(fun (y:List aJ)=>(.osl 2000000 46 3 (y.map aV))) r∧bI ((fun (y:List aJ)=>[]) r) b
def aL2:AC:=(.seq (.dops [[],[],[],[1,2],[3],[4],[5],[6],[0,7,6],[],[],[9,10],[11],[12],[8,13,8],[14,14,0,1,2,3,4,5,6,7,8,9,10,11,12,13,14]] [.mv 44 0,.mv 45 1,.mv 46 7,.ia 47 3 45 46,.fa 48 0 47,.ld 49 1 false 48,.call (some 50) 21 [49],.bsl 51 46 3 [50],.app 52 46 3 32 44 51,.mv 53 1,.mv 54 7,.ia 55 3 53 54,.fa 56 1 55,.ld 57 1 false 56,.call (some 58) 64 [52,57],.asg 0 58]) (.seq (.ops [.mv 59 1,.mv 60 7,.ia 61 3 59 60,.fa 62 2 61,.ld 63 1 false 62,.len 64 63,.bin 65 .gtr 64 (kI 0)]) (.cond 65 (.dops [[],[],[1],[0,2,1],[],[],[4,5],[6],[7],[8],[9],[],[3,10,11,3],[12,12,0,1,2,3,4,5,6,7,8,9,10,11,12]] [.mv 66 0,.call (some 67) 26 [(kI 5)],.bsl 68 46 3 [67],.app 69 46 3 32 66 68,.mv 70 1,.mv 71 7,.ia 72 3 70 71,.fa 73 2 72,.ld 74 1 false 73,.ia 75 10 74 (kI 0),.ld 76 10 true 75,.mv 77 2,.call (some 78) 11 [69,76,77],.asg 0 78]) .skip)))
def aOa:AC:=(.seq (.seq (.ops [.mv 29 7,.bin 30 .gtr 29 (kI 0),.mv 31 30,.g 31 true (.mv 32 1),.g 31 true (.mv 33 7),.g 31 true (.ia 34 3 32 33),.g 31 true (.fa 35 2 34),.g 31 true (.ld 36 1 false 35),.g 31 true (.len 37 36),.g 31 true (.bin 38 .eql 37 (kI 0)),.pick 39 31 38 (kB false)]) (.cond 39 (.ops [.mv 40 0,.call (some 41) 22 [(.c (.d (.s (bs [44]))))],.bsl 42 46 3 [41],.app 43 46 3 32 40 42,.asg 0 43]) .skip)) aL2)
def aE4:AC:=(.ops [.mv 12 7,.bin 13 .add 12 (kI 1),.asg 7 13])
def aHq:AC:=(.loop (.seq (.seq (.ops [.mv 8 7,.mv 9 1,.len 10 9,.bin 11 .lss 8 10]) (.cond 11 .skip (.exit 0))) (.seq (.block 1 (.seq (.seq (.ops [.mv 14 7,.bin 15 .gtr 14 (kI 0),.mv 16 15,.g 16 true (.mv 17 1),.g 16 true (.mv 18 7),.g 16 true (.ia 19 3 17 18),.g 16 true (.fa 20 2 19),.g 16 true (.ld 21 1 false 20),.g 16 true (.len 22 21),.g 16 true (.bin 23 .gtr 22 (kI 0)),.pick 24 16 23 (kB false)]) (.cond 24 (.ops [.mv 25 0,.call (some 26) 26 [(kI 4)],.bsl 27 46 3 [26],.app 28 46 3 32 25 27,.asg 0 28]) .skip)) aOa)) aE4)))
def aPs:AC:=(.seq (.ops [.mv 79 0,.asg 6 79]) .ret)
def bCm:AC:=(.seq (.ops [.asg 6 (.c (.nil 3))]) (.seq (.seq (.ops [.asg 7 (kI 0)]) (.block 0 aHq)) aPs))
theorem bIu:bP Tryz.prog 45=some (bCm,[.mv 0 6],80):=by kernel_rfl
def aUp (r:List aJ):Exit→St→Prop:=bM [.mv 0 6] fun x b=>x=(fun (y:List aJ)=>(.osl 2000000 46 3 (y.map aV))) r∧bI ((fun (y:List aJ)=>[]) r) b
def bFq (r:List aJ):Exit→St→Prop:=(eU (wkK (avc Tryz.prog aPs (aUp r))) (aUp r))
def aIa (r:List aJ):Exit→St→Prop:=(eY 0 (bFq r))
def aNg (r:List aJ):Exit→St→Prop:=(eU (avc Tryz.prog aHq (aIa r)) (aIa r))
def aZh (r:List aJ):Exit→St→Prop:=(eU (wkK (avc Tryz.prog aE4 (aNg r))) (aNg r))
def aT8 (r:List aJ):Exit→St→Prop:=(eY 1 (aZh r))
def bNx (p1:List bR) (p2:Bool) (x0:List aJ) (x7:Int):St:=⟨[(0,(.osl 4000000 46 3 (x0.map aV))),(1,(zJ p1)),(2,(vB p2)),(7,(vI x7))],[]⟩
abbrev aDy:=fun p1 p2 x0 x7 r=>avc Tryz.prog aHq (aIa r) (bNx p1 p2 x0 x7)
def bHw (p1:List bR) (p2:Bool) (x7:Int) (gQ:List aJ):St:=⟨[(0,(.osl 0 46 3 (gQ.map aV))),(1,(zJ p1)),(2,(vB p2)),(7,(vI x7))],[]⟩
abbrev aDw:=fun p1 p2 x7 gQ r=>avc Tryz.prog aOa (aT8 r) (bHw p1 p2 x7 gQ)
def bEe (p1:List bR) (p2:Bool) (x7:Int) (nC:List aJ):St:=⟨[(0,(.osl 0 46 3 (nC.map aV))),(1,(zJ p1)),(2,(vB p2)),(7,(vI x7))],[]⟩
abbrev aF2:=fun p1 p2 x7 nC r=>avc Tryz.prog aL2 (aT8 r) (bEe p1 p2 x7 nC)
def bF9 (p1:List bR) (p2:Bool) (x7:Int) (mW:List aJ):St:=⟨[(0,(.osl 0 46 3 (mW.map aV))),(1,(zJ p1)),(2,(vB p2)),(7,(vI x7))],[]⟩
abbrev aGf:=fun p1 p2 x7 mW r=>avc Tryz.prog aE4 (aNg r) (bF9 p1 p2 x7 mW)
theorem aRd (x:aJ) (h:∀ d ∈ aV x,OkD d):okGToken x:=⟨qP _ (fT h 0 1),xR _ (fT h 1 1),qP _ (fT h 2 1)⟩
theorem bJk (x:bJ) (h:∀ d ∈ aAd x,OkD d):okGValue x:=⟨qP _ (fT h 0 1),qP _ (fT h 1 1),xR _ (fT h 2 1)⟩
mutual
theorem aJr:∀ x:aA,(∀ d ∈ bN x,OkD d)→okGExpr x
  | ⟨a0,a1,a2,a3,a4,a5,a6,a7⟩,h0=>by
    rw [gN] at h0
    have h:∀ d ∈ gK ⟨a0,a1,a2,a3,a4,a5,a6,a7⟩,OkD d:=h0
    unfold okGExpr
    exact ⟨qP _ (fT h 0 1),qP _ (fT h 1 1),trivial,bJk a3 (fT h 3 3),xR _ (fT h 6 1),xR _ (fT h 7 1),⟨by simpa using (nP (fT h 8 1)).1,aF6 a6 (nP (fT h 8 1)).2⟩,⟨by simpa using (nP (fT h 9 1)).1,aQh a7 (nP (fT h 9 1)).2⟩⟩
theorem bCc:∀ x:bV,(∀ d ∈ eG x,OkD d)→okGItem x
  | ⟨a0,a1,a2,a3⟩,h0=>by
    rw [vK] at h0
    have h:∀ d ∈ oZ ⟨a0,a1,a2,a3⟩,OkD d:=h0
    unfold okGItem
    exact ⟨trivial,xR _ (fT h 1 1),aJr a2 (by rw [gN]; exact (fT h 2 10)),xR _ (fT h 12 1)⟩
theorem bBf:∀ x:aY,(∀ d ∈ iI x,OkD d)→okGQuery x
  | ⟨a0,a1,a2,a3,a4,a5⟩,h0=>by
    rw [wY] at h0
    have h:∀ d ∈ qG ⟨a0,a1,a2,a3,a4,a5⟩,OkD d:=h0
    unfold okGQuery
    exact ⟨trivial,⟨by simpa using (nP (fT h 1 1)).1,aQl a1 (nP (fT h 1 1)).2⟩,⟨by simpa using (nP (fT h 2 1)).1,aX5 a2 (nP (fT h 2 1)).2⟩,⟨by simpa using (nP (fT h 3 1)).1,aF6 a3 (nP (fT h 3 1)).2⟩,⟨by simpa using (nP (fT h 4 1)).1,aTz a4 (nP (fT h 4 1)).2⟩,qP _ (fT h 5 1)⟩
theorem bDq:∀ x:eB,(∀ d ∈ fZ x,OkD d)→okGSortKey x
  | ⟨a0,a1⟩,h0=>by
    rw [F6] at h0
    have h:∀ d ∈ qV ⟨a0,a1⟩,OkD d:=h0
    unfold okGSortKey
    exact ⟨aJr a0 (by rw [gN]; exact (fT h 0 10)),trivial⟩
theorem bS9:∀ x:bR,(∀ d ∈ eP x,OkD d)→okGSource x
  | ⟨a0,a1,a2⟩,h0=>by
    rw [wO] at h0
    have h:∀ d ∈ qF ⟨a0,a1,a2⟩,OkD d:=h0
    unfold okGSource
    exact ⟨xR _ (fT h 0 1),xR _ (fT h 1 1),⟨by simpa using (nP (fT h 2 1)).1,aF6 a2 (nP (fT h 2 1)).2⟩⟩
theorem aF6:∀ l:List aA,(∀ x ∈ l.map bN,∀ d ∈ x,OkD d)→okLGExpr l
  | [],_=>by unfold okLGExpr; trivial
  | x::l,h=>by
    unfold okLGExpr
    exact ⟨aJr x (h _ (by simp)),aF6 l fun y hy=>h y (List.mem_cons_of_mem _ hy)⟩
theorem aQl:∀ l:List bV,(∀ x ∈ l.map eG,∀ d ∈ x,OkD d)→okLGItem l
  | [],_=>by unfold okLGItem; trivial
  | x::l,h=>by
    unfold okLGItem
    exact ⟨bCc x (h _ (by simp)),aQl l fun y hy=>h y (List.mem_cons_of_mem _ hy)⟩
theorem aQh:∀ l:List aY,(∀ x ∈ l.map iI,∀ d ∈ x,OkD d)→okLGQuery l
  | [],_=>by unfold okLGQuery; trivial
  | x::l,h=>by
    unfold okLGQuery
    exact ⟨bBf x (h _ (by simp)),aQh l fun y hy=>h y (List.mem_cons_of_mem _ hy)⟩
theorem aTz:∀ l:List eB,(∀ x ∈ l.map fZ,∀ d ∈ x,OkD d)→okLGSortKey l
  | [],_=>by unfold okLGSortKey; trivial
  | x::l,h=>by
    unfold okLGSortKey
    exact ⟨bDq x (h _ (by simp)),aTz l fun y hy=>h y (List.mem_cons_of_mem _ hy)⟩
theorem aX5:∀ l:List bR,(∀ x ∈ l.map eP,∀ d ∈ x,OkD d)→okLGSource l
  | [],_=>by unfold okLGSource; trivial
  | x::l,h=>by
    unfold okLGSource
    exact ⟨bS9 x (h _ (by simp)),aX5 l fun y hy=>h y (List.mem_cons_of_mem _ hy)⟩
end
theorem bX5 (x:aP) (h:∀ d ∈ aIn x,OkD d):okGParser x:=⟨aDs _ (fun y hy=>aRd y hy) (fT h 0 1),qP _ (fT h 1 1),trivial⟩
theorem bV7 (x:aQ) (h:∀ d ∈ aM2 x,OkD d):okGL1Cur x:=⟨aDs _ (fun y hy=>aRh _ hy) (fT h 0 1),qP _ (fT h 1 1),qP _ (fT h 2 1)⟩
theorem bWf (x:aU) (h:∀ d ∈ aIp x,OkD d):okGL12In x:=⟨aDs _ (fun y hy=>aRd y hy) (fT h 0 1),qP _ (fT h 1 1),trivial⟩
theorem de5 {l:List D} (h:WtC Tryz.prog 5 l):∃ x:Int,l=cU8 x:=(bHh h (k:=.u8) kr)
theorem bGm {l:List D} (h:WtC Tryz.prog 22 l):∃ x:(List Int),l=(cSl 1 cU8) x:=(bIc h (e:=5) (n:=1) (c:=cU8) kr kr fun x hx=>de5 hx)
theorem bMf (p0:aP):dI Tryz.prog 30 [(.ptr 1000000 0)] [(1000000,bA p0)] (fun (y:Int)=>(vI y)) (fun (y:Int)=>[(1000000,bA p0)]) (aBd p0):=by
 intro r h
 rw [aBd] at h;refine ao bP6 (si (oi (sx 1 (ni (xi (si (si (fH (dsx 5 (dgq 0 (dgq 1 (dgq 1 (dgq 1 (dgq 0 (dgq 1 (dgq 1 (dgq 1 (aA1 (p:=true) (b:=p0.failed) (v':=(vI (ln p0.list))) kr rfl rfl (fun hc=>yX (sz:=3) (l:=p0.list) (f:=aV) (Eq.trans (b:=([(true&&(p0.failed==false))]:List Bool).all id) kr (jD hc rfl)) kr) (dgq 2 ?_)))))))))))))))))));refine aXe h fun y1 h=>(fE kr kr (xi ?_));refine cd h (fun h=>?_) fun h=>?_;refine si (oi (sx 5 (ni (xi (ri (tr ?_))))));injection h with h; subst h;exact rb;refine ki (xi (si (oi (sx 1 (ni (xi (ri ?_)))))));injection h with h; subst h;exact rb
theorem O7 (p0:Int) (p1:aA) (p2:aA):FOk Tryz.prog 66 [(vI p0),(bX p1),(bX p2)] (fun y=>(bX y)) (rA p0 p1 p2):=by
 intro r h
 rw [rA] at h;refine ao bCl (si (oi (sx 3 (ni (xi (si (oi (sx 3 (dZ (l:=([p1,p2]:List aA)) (f:=bN) (g:=gK) kr gN kr (fQ (c:=[(vI 4),(vI p0),(vB false),(vI 0),(vI 0),(vS []),(vS []),(vS []),(.osl 10 34 10 (([p1,p2]:List aA).map bN)),(.nil 6)]) kr kr rfl (sx 1 (ni (xi ?_)))))))))))));refine eO (s':=⟨[(6,(.ptr 6 0))],[(6,fK (aA.mk 4 p0 false (bJ.mk 0 0 []) [] [] ([p1,p2]:List aA) ([]:List aY)))]⟩) (wr [] eS (dU (c0:=[(vI 4),(vI p0),(vB false),(vI 0),(vI 0),(vS []),(vS []),(vS []),(.osl 10 34 10 (([p1,p2]:List aA).map bN)),(.nil 6)]) kr (aB (aL kr kr) (aB (aL kr kr) (aB (aL kr kr) (aB (aL kr kr) (aB (aL kr kr) (aB (aL kr kr) (aB (aL kr kr) (aB (aL kr kr) (aB (eD kr kr) (aB (eD kr kr) dL)))))))))) dY)) ?_;injection h with h; subst h;exact rp
theorem aU3 (bG r) (h:aHb bG=some r):aV6 bG r:=by
 rw [aHb] at h;delta aV6 aMy;refine si (oi (sx 2 (ni (xi (ri ?_)))));injection h with h; subst h;exact rp
theorem aVt (p0:Bool):FOk Tryz.prog 121 [(vB p0)] (fun y=>(lC y)) (P8 p0):=by
 intro r h
 rw [P8] at h;refine ao bFf (si (oi (sx 1 (ni (xi (si (oi (sx 3 (ni (xi (si (si (oi (sx 1 (ni (xi ?_))))))))))))))));refine cd h (fun h=>?_) fun h=>?_;exact oi (sx 2 (ni (nxs (aU3 _ _ h) (wr [] eS bS))));exact ki (nxs (aU3 _ _ h) (wr [] eS bS))
theorem bIh (p0:Int):FOk Tryz.prog 119 [(vI p0)] (fun y=>(lC y)) (aH9 p0):=by
 intro r h
 rw [aH9] at h;refine ao bFm (si (oi (sx 1 (ni (xi (si (oi (sx 3 (ni (xi (ri ?_)))))))))));injection h with h; subst h;exact rp
theorem aCi (p0:bJ):FOk Tryz.prog 118 [(lC p0)] (fun y=>(bX y)) (qH p0):=by
 intro r h
 rw [qH] at h;refine ao bFy (si (oi (sx 2 (ni (xi (si (oi (sx 1 (fQ (c:=[(vI 1),(vI 0),(vB false),(vI p0.kind),(vI p0.num),(vS p0.text),(vS []),(vS []),(.nil 10),(.nil 6)]) kr kr rfl (sx 1 (ni (xi ?_))))))))))));refine eO (s':=⟨[(2,(.ptr 2 0))],[(2,fK (aA.mk 1 0 false p0 [] [] ([]:List aA) ([]:List aY)))]⟩) (wr [] eS (dU (c0:=[(vI 1),(vI 0),(vB false),(vI p0.kind),(vI p0.num),(vS p0.text),(vS []),(vS []),(.nil 10),(.nil 6)]) kr (aB (aL kr kr) (aB (aL kr kr) (aB (aL kr kr) (aB (aL kr kr) (aB (aL kr kr) (aB (aL kr kr) (aB (aL kr kr) (aB (aL kr kr) (aB (eD kr kr) (aB (eD kr kr) dL)))))))))) dY)) ?_;injection h with h; subst h;exact rp
theorem bCi (x3 r) (h:aFo x3=some r):aQz x3 r:=by
 rw [aFo] at h;delta aQz aH2;refine si (oi (sx 1 (vs (fun (y:List UInt8)=>(vS y)) h (fun y hy=>aNo (l:=x3) hy kr kr) fun y3 h=>(sx 1 (ni (xi (ri ?_)))))));injection h with h; subst h;exact rp
theorem aU8 (p0):(∀ x10 nD r,D7 p0 x10 nD=some r→aF8 p0 x10 nD r)∧(∀ x10 iQ r,C8 p0 x10 iQ=some r→aDq p0 x10 iQ r):=by
 refine D7.mutual_partial_correctness p0 (fun x10 nD r=>aF8 p0 x10 nD r) (fun x10 iQ r=>aDq p0 x10 iQ r) ?_ ?_
 · intro bX2 aL1 x10 nD r h;delta aF8 aNz;exact oi (sx 2 (ni (lbs (aL1 _ _ _ h) (tw [.rn [(60050000,60015000)]] (wr [] eS bS)))))
 · intro bVv aO9 x10 iQ r h;delta aDq aE2;refine iA (si (oi (sx 1 (ni (xi (si ?_))))));refine cd h (fun h=>?_) fun h=>?_;refine ki (xi (si (bi (si (oi (sx 1 (aJp (n:=60015000) (k:=.i64) (i:=x10) (l:=iQ) (f:=cU8) (g:=cU8) [] h kr kr kr (fun _=>rfl) kr (fun _=>rfl) fun y1 hiy1 h=>?_)))))));refine ps (.d (.i .u8 y1)) (aJq (n:=60015000) (sz:=1) (i:=(x10).toNat) (off:=0) (l:=iQ.map cU8) (c:=[(.d (.i .u8 y1))]) kr kr kr) (sx 2 (ni (xi (si (oi (sx 3 (gq 0 (gq 1 (pkA h fun y2 h=>(ni (xi ?_)))))))))));refine cd h (fun h=>?_) fun h=>?_;refine oi (sx 5 (aMu (n:=60015000) (k:=.i64) (i:=x10) (l:=iQ.map cU8) (c:=[(.d (.i .u8 y1))]) kr kr (aCa hiy1).1 kr (aJw (n:=60015000) (sz:=1) (i:=(x10).toNat) (off:=0) (l:=iQ.map cU8) (c:=[(.d (.i .u8 y1))]) kr kr kr rfl (ni (bn ?_)))));exact nxs (aO9 _ _ _ h) (tw [.clo 60015000,.rn [(60015000,60050000)]] (wr [] eS (bt_ (R:=(iQ.set (x10).toNat (IntKind.wrap .u8 ((IntKind.wrap .u8 (y1 - 97))+65))).map cU8) (aA4 (l:=iQ) (k:=(x10).toNat) (x:=(IntKind.wrap .u8 ((IntKind.wrap .u8 (y1 - 97))+65))) (fun _=>rfl)) dY)));exact ki (bn (nxs (aO9 _ _ _ h) (tw [.clo 60015000,.rn [(60015000,60050000)]] (wr [] eS (bt_ (R:=(iQ.set (x10).toNat y1).map cU8) (aA4 (l:=iQ) (k:=(x10).toNat) (x:=y1) (fun _=>rfl)) dY)))));exact ei (te (te (bh (nxs (bCi _ _ h) (tw [.frz [60015000]] (wr [] eS dY))))))
theorem aO9 (p0 x10 nD r) (h:D7 p0 x10 nD=some r):aF8 p0 x10 nD r:=(aU8 p0).1 x10 nD r h
theorem aL1 (p0 x10 iQ r) (h:C8 p0 x10 iQ=some r):aDq p0 x10 iQ r:=(aU8 p0).2 x10 iQ r h
theorem aPp (p0:List UInt8):FOk Tryz.prog 123 [(vS p0)] (fun y=>(vS y)) (O9 p0):=by
 intro r h
 rw [O9] at h;refine ao bC2 (si (oi (sx 1 (ni (xi (si (oi (sx 1 (aWy (b:=p0) kr kr rfl (sx 1 (ni (xi (si (si (oi (sx 1 (ps (vI ((jO p0).length:Int)) (aA5 (n:=7) (l:=(jO p0).map cU8) (L:=(jO p0).length) kr kr (List.length_map ..)) (sx 1 (ni (xi (bi ?_)))))))))))))))))))));exact lgs (aL1 _ _ _ _ h) (tw [.rn [(7,60015000)]] (wr [] eS bS))
theorem bJy (p0) (p1):(∀ x8 r,oH p0 p1 x8=some r→aG9 p0 p1 x8 r):=by
 refine oH.partial_correctness p0 p1 (fun x8 r=>aG9 p0 p1 x8 r) ?_
 · intro bWp aOd x8 r h;delta aG9 aMj;refine iA (si (oi (sx 1 (ni (xi (si ?_))))));refine cd h (fun h=>?_) fun h=>?_;refine ki (xi (si (bi (si (oi (sx 2 (ni (xi (si (oi (sx 3 (iq h fun y1 h=>(sx 2 (ni (xi ?_)))))))))))))));refine cd h (fun h=>?_) fun h=>?_;refine si (oi (sx 2 (ni (xi (ri (br (tr (tr (br (tr ?_))))))))));injection h with h; subst h;exact rp;exact ki (bn (xi (oi (sx 2 (ni (lbs (aOd _ _ h) (wr [] eS dY)))))));refine ei (te (te (bh (xi (si (oi (sx 1 (ni (xi (ri ?_))))))))));injection h with h; subst h;exact rp
theorem aOd (p0 p1 x8 r) (h:oH p0 p1 x8=some r):aG9 p0 p1 x8 r:=(bJy p0 p1) x8 r h
theorem aRz (p0:List (List UInt8)) (p1:List UInt8):FOk Tryz.prog 129 [(I6 p0),(vS p1)] (fun y=>(vI y)) (L9 p0 p1):=by
 intro r h
 rw [L9] at h;exact ao aZ9 (si (oi (sx 1 (ni (xi (si (si (oi (sx 1 (lq p0 (sx 1 (ni (xi (bi (lgs (aOd _ _ _ _ h) (wr [] eS dY))))))))))))))))
theorem bBa (p0:List UInt8) (p1:List UInt8):FOk Tryz.prog 139 [(vS p0),(vS p1)] (fun y=>(I6 y)) (aIo p0 p1):=by
 intro r h
 rw [aIo] at h;exact aY4 (ρ:=sh146_ren) sh146 kr kr kr (.tail _ (.head _)) p0 p1 r h
theorem bQq:FOk Tryz.prog 130 [] (fun y=>(I6 y)) (aHs):=by
 intro r h
 rw [aHs] at h;refine ao bPz (si (oi (sx 1 (ni (xi (si (oi (cs h (bBa _ _) fun y1 h=>(sx 1 (ni (xi (ri ?_))))))))))))
 have h:=Option.some.inj h; subst h
 exact rp
theorem bAo (p0:List UInt8):FOk Tryz.prog 122 [(vS p0)] (fun y=>(vI y)) (Y4 p0):=by
 intro r h
 rw [Y4] at h;refine ao bAr (si (oi (sx 1 (ni (xi (si (oi (cs h bQq fun y1 h=>(sx 1 (cs h (aPp _) fun y2 h=>(cs h (aRz _ _) fun y3 h=>(sx 2 (ni (xi (ri ?_)))))))))))))))
 have h:=Option.some.inj h; subst h
 exact rp
theorem bQ1 (p0:List UInt8):FOk Tryz.prog 124 [(vS p0)] (fun y=>(vB y)) (aC0 p0):=by
 intro r h
 rw [aC0] at h;refine ao bJr (si (oi (sx 1 (ni (xi (si (oi (sx 4 (gq 0 (gq 1 (gq 1 (pkA h fun y1 h=>(sx 1 (ni (xi (ri ?_))))))))))))))));injection h with h; subst h;exact rp
theorem aVu (p0:List UInt8):FOk Tryz.prog 113 [(vS p0)] (fun y=>(.tup [(vI y.1),(vB y.2)])) (vR p0):=by
 intro r h
 rw [vR] at h;exact bFl bAu (.tail _ (.tail _ (.head _))) (.tail _ (.tail _ (.tail _ (.head _)))) (.head _) p0 r h
theorem bS3 (p0:List (List UInt8)) (p1:List UInt8):FOk Tryz.prog 131 [(I6 p0),(vS p1)] (fun y=>(vB y)) (aFu p0 p1):=by
 intro r h
 rw [aFu] at h;refine ao bTc (si (oi (sx 1 (ni (xi (si (oi (sx 2 (cs h (aRz _ _) fun y1 h=>(sx 2 (ni (xi (ri ?_)))))))))))));injection h with h; subst h;exact rp
theorem bP9:dI Tryz.prog 132 [] [] (fun (y:List (List UInt8))=>(.osl 2000000 9 1 (y.map cStr))) (fun (y:List (List UInt8))=>[]) (aE1):=by
 intro r h
 rw [aE1] at h;refine ao bL9 (si (oi (sx 1 (ni (xi (si (oi (dZ (l:=([[40],[41],[44],[46],[42],[43],[45],[47],[37],[61],[60,62],[60],[60,61],[62],[62,61],[124,124]]:List (List UInt8))) (f:=cStr) (g:=cStr) kr (fun _=>rfl) kr (sx 1 (ni (xi ?_)))))))))));refine eO (s':=⟨[(0,(.osl 2000000 9 1 (([[40],[41],[44],[46],[42],[43],[45],[47],[37],[61],[60,62],[60],[60,61],[62],[62,61],[124,124]]:List (List UInt8)).map cStr)))],[]⟩) (wr [(2000000,.old 0)] (eo 0 fO) dY) ?_;injection h with h; subst h;exact rb
theorem bNn (p0:List UInt8):FOk Tryz.prog 125 [(vS p0)] (fun y=>(vB y)) (aCj p0):=by
 intro r h
 rw [aCj] at h;refine ao bBu (si (oi (sx 1 (ni (xi (si (oi (cg ⟨[],[],[],[],[],[(2000000,3)],[],[3],[]⟩ h bP9 fun y1 h=>(sx 1 (cs h (bS3 _ _) fun y2 h=>(sx 1 (ni (xi (ri ?_))))))))))))));injection h with h; subst h;exact rp
theorem bNj (p0:aJ):FOk Tryz.prog 115 [(kP p0)] (fun y=>(vB y)) (O3 p0):=by
 intro r h
 rw [O3] at h;refine ao aZ3 (si (oi (sx 2 (ni (xi (si (si (oi (sx 2 (ni (xi (bi (si (oi (sx 2 (ni (xi ?_)))))))))))))))));refine cd h (fun h=>?_) fun h=>?_;refine si (fH (dsx 2 (dcs h (bAo _) fun y1 h=>(dsx 2 (dgq 0 (dgq 1 (dgc 1 h (aPp _) fun y2 h=>(dgq 0 (dgq 1 (dgq 2 (wF h fun y3 h=>(dsx 1 (fE kr kr (xi (ri (br (tr ?_)))))))))))))))));injection h with h; subst h;exact rp;refine si (oi (sx 2 (ni (xi ?_))));refine cd h (fun h=>?_) fun h=>?_;refine si (oi (sx 2 (cs h (bQ1 _) fun y4 h=>(sx 1 (ni (xi (ri (br (tr ?_)))))))));injection h with h; subst h;exact rp;refine si (oi (sx 2 (ni (xi ?_))));refine cd h (fun h=>?_) fun h=>?_;refine si (oi (sx 2 (cs h (aVu _) fun y5 h=>(sx 5 (ni (xi (si (oi (sx 2 (ni (xi (ri (br (tr ?_))))))))))))));injection h with h; subst h;exact rp;refine si (oi (sx 2 (ni (xi ?_))));refine cd h (fun h=>?_) fun h=>?_;refine si (oi (sx 5 (ni (xi (ri (br (tr ?_)))))));injection h with h; subst h;exact rp;refine si (oi (sx 2 (ni (xi ?_))));refine cd h (fun h=>?_) fun h=>?_;refine si (oi (sx 2 (cs h (bNn _) fun y6 h=>(sx 1 (ni (xi (ri (br (tr ?_)))))))));injection h with h; subst h;exact rp;refine ki (bn (xi (si (oi (sx 1 (ni (xi (ri ?_))))))));injection h with h; subst h;exact rp
theorem aC6 (p0:aP) (p1:Int):dI Tryz.prog 109 [(.ptr 1000000 0),(vI p1)] [(1000000,bA p0)] (fun (y:Bool)=>(vB y)) (fun (y:Bool)=>[(1000000,bA p0)]) (uJ p0 p1):=by
 intro r h
 rw [uJ] at h;refine ao bPr (si (oi (sx 1 (ni (xi (si (fH (dsx 6 (dgq 0 (dgq 1 (dgq 1 (dgq 1 (dgq 0 (dgq 1 (dgq 1 (dgq 1 (aA1 (p:=true) (b:=(!p0.failed)) (v':=(vI (ln p0.list))) kr rfl rfl (fun hc=>yX (sz:=3) (l:=p0.list) (f:=aV) (Eq.trans (b:=([(true&&((!p0.failed)==true))]:List Bool).all id) kr (jD hc rfl)) kr) (dgq 2 ?_))))))))))))))))));refine wF h fun y1 h=>(dsx 1 (dgq 0 (dgq 1 (dgq 1 (dgq 1 (dgq 0 (dgq 1 (dgq 1 (dgq 1 ?_)))))))));refine aKq (p:=true) (b:=y1) (m:=idx p0.list p0.at_) (dflt:=default) (v':=fun y=>(.rp (aV y))) h kr rfl rfl (fun y hy hc=>wR (l:=p0.list) (f:=aV) (g:=aV) (k:=.i64) hy (fun _=>rfl) (Eq.trans (b:=([(true&&(y1==true)),(true&&(y1==true))]:List Bool).all id) kr (jD hc (jD hc rfl))) kr kr) fun y2 h=>?_;refine dgq 1 (dgq 1 (dgq 0 (dgq 2 (wF h fun y3 h=>(dsx 1 (dgq 0 (dgq 1 (dgq 1 (dgq 1 (dgq 0 (dgq 1 (dgq 1 (dgq 1 ?_)))))))))))));refine aKq (p:=true) (b:=y3) (m:=idx p0.list p0.at_) (dflt:=default) (v':=fun y=>(.rp (aV y))) h kr rfl rfl (fun y hy hc=>wR (l:=p0.list) (f:=aV) (g:=aV) (k:=.i64) hy (fun _=>rfl) (Eq.trans (b:=([(true&&(y3==true)),(true&&(y3==true))]:List Bool).all id) kr (jD hc (jD hc rfl))) kr kr) fun y4 h=>?_;refine dgq 1 (dgc 1 h (bNj _) fun y5 h=>(wF h fun y6 h=>(dsx 1 (fE kr kr (xi (ri ?_))))));injection h with h; subst h;exact rb
theorem J9 (p0:aP) (p1:Int):dI Tryz.prog 110 [(.ptr 1000000 0),(vI p1)] [(1000000,bA p0)] (fun (y:(List UInt8)×aP)=>(vS y.1)) (fun (y:(List UInt8)×aP)=>[(1000000,bA y.2)]) (qR p0 p1):=by
 intro r h
 rw [qR] at h;refine ao bOl (si (oi (sx 1 (ni (xi (si (si (oi (sx 2 (cg c1_ h (aC6 _ _) fun y1 h=>(sx 1 (ni (xi ?_)))))))))))));refine cd h (fun h=>?_) fun h=>?_;refine si (oi (sx 4 (ni (xi (si (oi (sx 1 (ni (xi (ri (tr ?_)))))))))));injection h with h; subst h;exact rb;refine ki (xi (si (oi (sx 8 (ni (xi (si (fH (dsx 9 (diq h fun y2 h=>(dsx 3 (fE kr kr (xi (ri ?_))))))))))))));injection h with h; subst h;exact rb
theorem aVf (p0:aP):dI Tryz.prog 106 [(.ptr 1000000 0)] [(1000000,bA p0)] (fun (y:Int×aP)=>(vI y.1)) (fun (y:Int×aP)=>[(1000000,bA y.2)]) (Z7 p0):=by
 intro r h
 rw [Z7] at h;refine ao bIy (si (oi (sx 1 (ni (xi (si (oi (sx 1 (cg c1_ h (J9 _ _) fun y1 h=>(cs h (aVu _) fun y2 h=>(sx 5 (ni (xi (si (oi (sx 2 (ni (xi (ri ?_)))))))))))))))))));injection h with h; subst h;exact rb
theorem aCd (p0:aP) (p1:Int) (p2:Int) (p3:List UInt8):dI Tryz.prog 78 [(.ptr 1000000 0),(vI p1),(vI p2),(vS p3)] [(1000000,bA p0)] (fun (y:Bool)=>(vB y)) (fun (y:Bool)=>[(1000000,bA p0)]) (oJ p0 p1 p2 p3):=by
 intro r h
 rw [oJ] at h;refine ao bEt (si (oi (sx 1 (ni (xi (si (oi (sx 7 (ni (xi (si (oi (sx 6 (gq 0 (gq 0 (gq 1 (gq 1 (gq 1 (glq 1 p0.list (gq 2 (pkA h fun y1 h=>(sx 1 (gq 0 (gq 1 (gq 1 (gq 1 (gq 0 (giq 2 h fun y2 h=>(gq 1 (gq 1 (gq 0 (gq 2 (pkA h fun y3 h=>(sx 1 (gq 0 (gq 1 (gq 1 (gq 1 (gq 0 (giq 2 h fun y4 h=>(gq 1 (gq 1 (gq 0 (gq 2 (pkA h fun y5 h=>(sx 1 (ni (xi (ri ?_)))))))))))))))))))))))))))))))))))))))))))))))));injection h with h; subst h;exact rb
theorem bFb (p0:aP) (p1:List UInt8):dI Tryz.prog 108 [(.ptr 1000000 0),(vS p1)] [(1000000,bA p0)] (fun (y:Bool)=>(vB y)) (fun (y:Bool)=>[(1000000,bA p0)]) (aB5 p0 p1):=by
 intro r h
 rw [aB5] at h;refine ao bMz (si (oi (sx 1 (ni (xi (si (oi (sx 2 (cg c1_ h (aCd _ _ _ _) fun y1 h=>(sx 1 (ni (xi (ri ?_)))))))))))));injection h with h; subst h;exact rb
theorem aXh (y1 p0 bC r) (h:aBn y1 p0 bC=some r):aOo y1 p0 bC r:=by
 rw [aBn] at h;delta aOo aKj;refine si (oi (sx 2 (ni (xi (ri ?_)))));injection h with h; subst h;exact rb
theorem tZ (p0:aP) (p1:List UInt8):dI Tryz.prog 101 [(.ptr 1000000 0),(vS p1)] [(1000000,bA p0)] (fun (y:Bool×aP)=>(vB y.1)) (fun (y:Bool×aP)=>[(1000000,bA y.2)]) (oQ p0 p1):=by
 intro r h
 rw [oQ] at h;refine ao bMj (si (oi (sx 1 (ni (xi (si (oi (sx 2 (cg c1_ h (bFb _ _) fun y1 h=>(sx 1 (ni (xi (si (si (oi (sx 1 (ni (xi ?_))))))))))))))))));refine cd h (fun h=>?_) fun h=>?_;exact oi (sx 8 (ni (nxs (aXh _ _ _ _ h) (wr [] eS bS))));exact ki (nxs (aXh _ _ _ _ h) (wr [] eS bS))
theorem aAz (p0:aP) (p1:List UInt8):dI Tryz.prog 97 [(.ptr 1000000 0),(vS p1)] [(1000000,bA p0)] (fun (y:aP)=>(.tup [])) (fun (y:aP)=>[(1000000,bA y)]) (vQ p0 p1):=by
 intro r h
 rw [vQ] at h;refine ao bGa (si (oi (sx 2 (cg c1_ h (tZ _ _) fun y1 h=>(sx 1 (ni (xi ?_)))))));refine cd h (fun h=>?_) fun h=>?_;refine oi (sx 4 (ni (aAr ?_)));injection h with h; subst h;exact r0b;refine ki (aAr ?_);injection h with h; subst h;exact r0b
theorem aT4 (p0:aP) (p1:List UInt8):dI Tryz.prog 87 [(.ptr 1000000 0),(vS p1)] [(1000000,bA p0)] (fun (y:Bool)=>(vB y)) (fun (y:Bool)=>[(1000000,bA p0)]) (N8 p0 p1):=by
 intro r h
 rw [N8] at h;refine ao bEn (si (oi (sx 1 (ni (xi (si (oi (sx 2 (cg c1_ h (aCd _ _ _ _) fun y1 h=>(sx 1 (ni (xi (ri ?_)))))))))))));injection h with h; subst h;exact rb
theorem aPg (y1 p0 bC r) (h:aB2 y1 p0 bC=some r):aSg y1 p0 bC r:=by
 rw [aB2] at h;delta aSg aN6;refine si (oi (sx 2 (ni (xi (ri ?_)))));injection h with h; subst h;exact rb
theorem kV (p0:aP) (p1:List UInt8):dI Tryz.prog 80 [(.ptr 1000000 0),(vS p1)] [(1000000,bA p0)] (fun (y:Bool×aP)=>(vB y.1)) (fun (y:Bool×aP)=>[(1000000,bA y.2)]) (jE p0 p1):=by
 intro r h
 rw [jE] at h;refine ao bG1 (si (oi (sx 1 (ni (xi (si (oi (sx 2 (cg c1_ h (aT4 _ _) fun y1 h=>(sx 1 (ni (xi (si (si (oi (sx 1 (ni (xi ?_))))))))))))))))));refine cd h (fun h=>?_) fun h=>?_;exact oi (sx 8 (ni (nxs (aPg _ _ _ _ h) (wr [] eS bS))));exact ki (nxs (aPg _ _ _ _ h) (wr [] eS bS))
theorem aOt (p0:aP):dI Tryz.prog 111 [(.ptr 1000000 0)] [(1000000,bA p0)] (fun (y:(List UInt8)×aP)=>(vS y.1)) (fun (y:(List UInt8)×aP)=>[(1000000,bA y.2)]) (O1 p0):=by
 intro r h
 rw [O1] at h;refine ao bSl (si (oi (sx 1 (ni (xi (si (si (oi (sx 1 (cg c1_ h (kV _ _) fun y1 h=>(ni (xi ?_))))))))))));refine cd h (fun h=>?_) fun h=>?_;refine si (oi (sx 1 (cg c1_ h (J9 _ _) fun y2 h=>(sx 1 (ni (xi (ri (tr ?_))))))));injection h with h; subst h;exact rb;refine ki (xi (si (oi (sx 1 (ni (xi (ri ?_)))))));injection h with h; subst h;exact rb
theorem X5 (p0:aP) (p1:List UInt8):dI Tryz.prog 89 [(.ptr 1000000 0),(vS p1)] [(1000000,bA p0)] (fun (y:aP)=>(.tup [])) (fun (y:aP)=>[(1000000,bA y)]) (tL p0 p1):=by
 intro r h
 rw [tL] at h;refine ao bH1 (si (oi (sx 2 (cg c1_ h (kV _ _) fun y1 h=>(sx 1 (ni (xi ?_)))))));refine cd h (fun h=>?_) fun h=>?_;refine oi (sx 4 (ni (aAr ?_)));injection h with h; subst h;exact r0b;refine ki (aAr ?_);injection h with h; subst h;exact r0b
theorem aSl (y1 yA bD bC bF r) (h:aA9 y1 yA bD bC bF=some r):aQ6 y1 yA bD bC bF r:=by
 rw [aA9] at h;delta aQ6 aNr;refine si (oi (sx 2 (ni (xi (ri ?_)))));injection h with h; subst h;exact rb
theorem aUd (y2 bG y8 y9 kE lK yT xC wH r) (h:aDu y2 bG y8 y9 kE lK yT xC wH=some r):aQs y2 bG y8 y9 kE lK yT xC wH r:=by
 rw [aDu] at h;delta aQs aN1;refine si (oi (sx 2 (ni (xi (ri ?_)))));injection h with h; subst h;exact rb
theorem aQa (y2 bG y8 y9 kE wQ wU wP r) (h:Z5 y2 bG y8 y9 kE wQ wU wP=some r):aSo y2 bG y8 y9 kE wQ wU wP r:=by
 rw [Z5] at h;delta aSo aGe;refine si (si (oi (sx 1 (cg c1_ h (kV _ _) fun y23 h=>(ni (xi ?_))))));refine cd h (fun h=>?_) fun h=>?_;refine oi (sx 1 (cg c1_ h (aVf _) fun y24 h=>(sx 2 (ni ?_))));exact nxs (aUd _ _ _ _ _ _ _ _ _ _ h) (wr [(11,.old 11),(25,.old 25),(28,.old 28),(36,.old 36)] eS (bs_ (dU (c0:=[(vB y2.1),(.osl 11 83 13 (bG.map eG)),(.osl 25 97 3 (y8.1.map eP)),(.osl 28 34 10 (y9.1.map bN)),(.osl 36 87 11 (kE.map fZ)),(vI y24.1)]) kr (aB (aL kr kr) (aB (cK (t:=11) kr kr) (aB (cK (t:=25) kr kr) (aB (cK (t:=28) kr kr) (aB (cK (t:=36) kr kr) (aB (aL kr kr) dL)))))) bS)));refine ki ?_;exact nxs (aUd _ _ _ _ _ _ _ _ _ _ h) (wr [(11,.old 11),(25,.old 25),(28,.old 28),(36,.old 36)] eS (bs_ (dU (c0:=[(vB y2.1),(.osl 11 83 13 (bG.map eG)),(.osl 25 97 3 (y8.1.map eP)),(.osl 28 34 10 (y9.1.map bN)),(.osl 36 87 11 (kE.map fZ)),(vI (-1))]) kr (aB (aL kr kr) (aB (cK (t:=11) kr kr) (aB (cK (t:=25) kr kr) (aB (cK (t:=28) kr kr) (aB (cK (t:=36) kr kr) (aB (aL kr kr) dL)))))) bS)))
theorem aMk (p0:aP):dI Tryz.prog 112 [(.ptr 1000000 0)] [(1000000,bA p0)] (fun (y:bR×aP)=>(aEw y.1)) (fun (y:bR×aP)=>[(1000000,bA y.2)]) (E8 p0):=by
 intro r h
 rw [E8] at h;refine ao bOi (si (oi (sx 1 (ni (xi (si (oi (sx 1 (cg c1_ h (J9 _ _) fun y1 h=>(sx 1 (ni (xi (si (oi (sx 2 (cg c1_ h (aOt _) fun y2 h=>(fQ (c:=[(vS y1.1),(vS y2.1),(.nil 10)]) kr kr rfl (sx 1 (ni (xi ?_))))))))))))))))))));refine eO (s':=⟨[(2,(.ptr 2 0))],[(2,aMw (bR.mk y1.1 y2.1 ([]:List aA))),(1000000,bA y2.2)]⟩) (wr [] eS (dU (c0:=[(vS y1.1),(vS y2.1),(.nil 10)]) kr (aB (aL kr kr) (aB (aL kr kr) (aB (eD kr kr) dL))) bS)) ?_;injection h with h; subst h;exact rb
theorem bDe (p0:List UInt8):FOk Tryz.prog 120 [(vS p0)] (fun y=>(lC y)) (aFg p0):=by
 intro r h
 rw [aFg] at h;refine ao aYm (si (oi (sx 1 (ni (xi (si (oi (sx 3 (ni (xi (ri ?_)))))))))));injection h with h; subst h;exact rp
theorem bA9 (p0:Int):FOk Tryz.prog 79 [(vI p0)] (fun y=>(vS y)) (yZ p0):=by
 intro r h
 rw [yZ] at h;refine ao bE7 (si (oi (sx 1 (ni (xi (si (si (oi (sx 3 (gq 0 (gq 1 (pkO h fun y1 h=>(ni (xi ?_))))))))))))));refine cd h (fun h=>?_) fun h=>?_;refine si (oi (sx 1 (ni (xi (ri (tr ?_))))));injection h with h; subst h;exact rp;refine ki (xi (si (oi (dZ (l:=([[79,82],[65,78,68],[61],[60,62],[60],[60,61],[62],[62,61],[124,124],[43],[45],[42],[47],[37],[78,79,84],[45]]:List (List UInt8))) (f:=cStr) (g:=cStr) kr (fun _=>rfl) kr (sx 2 (iq h fun y2 h=>(sx 2 (ni (xi (ri ?_))))))))));injection h with h; subst h;exact rp
theorem aTj (p1) (p0):(∀ y1 x10 x7 r,zG y1 p1 x10 p0 x7=some r→aFh y1 p1 x10 p0 x7 r)∧(∀ x10 r,zH p1 p0 x10=some r→aDg p1 p0 x10 r):=by
 refine zG.mutual_partial_correctness p1 p0 (fun y1 x10 x7 r=>aFh y1 p1 x10 p0 x7 r) (fun x10 r=>aDg p1 p0 x10 r) ?_ ?_
 · intro bUp aNh y1 x10 x7 r h;delta aFh aMm;refine si (oi (sx 3 (cs h (bA9 _) fun y3 h=>(cg c1_ h (aCd _ _ _ _) fun y4 h=>(ni (xi ?_))))));refine cd h (fun h=>?_) fun h=>?_;refine si (oi (sx 8 (ni (xi (si (oi (sx 2 (ni (xi (ri (br (tr (tr (br (tr ?_)))))))))))))));injection h with h; subst h;exact rb;exact ki (bn (xi (oi (sx 2 (ni (lbs (aNh _ _ h) (wr [] eS bS)))))))
 · intro bUj aIz x10 r h;delta aDg aGg;refine iA (si (oi (sx 1 (ni (xi (si ?_))))));refine cd h (fun h=>?_) fun h=>?_;refine ki (xi (si (bi (si (oi (iqf cI h fun y1 h=>(sx 2 (ni (xi (si (oi (sx 1 (ni (xi (si (si (oi (sx 3 (gq 0 (gq 1 (pkO h fun y2 h=>(ni (xi ?_)))))))))))))))))))))));refine cd h (fun h=>?_) fun h=>?_;exact oi (sx 1 (ni (nxs (aIz _ _ _ _ h) (wr [] eS bS))));exact ki (nxs (aIz _ _ _ _ h) (wr [] eS bS));refine ei (te (te (bh (xi (si (oi (sx 1 (ni (xi (ri ?_))))))))));injection h with h; subst h;exact rb
theorem aIz (y1 p1 x10 p0 x7 r) (h:zG y1 p1 x10 p0 x7=some r):aFh y1 p1 x10 p0 x7 r:=(aTj p1 p0).1 y1 x10 x7 r h
theorem aNh (p1 p0 x10 r) (h:zH p1 p0 x10=some r):aDg p1 p0 x10 r:=(aTj p1 p0).2 x10 r h
theorem Y6 (p0:aP) (p1:List Int):dI Tryz.prog 65 [(.ptr 1000000 0),(jB p1)] [(1000000,bA p0)] (fun (y:Int×aP)=>(vI y.1)) (fun (y:Int×aP)=>[(1000000,bA y.2)]) (nQ p0 p1):=by
 intro r h
 rw [nQ] at h;exact ao bGj (si (oi (sx 1 (ni (xi (si (si (oi (sx 1 (lqf cI p1 (sx 1 (ni (xi (bi (lgs (aNh _ _ _ _ h) (wr [] eS bS))))))))))))))))
theorem aTc (p2 dF vY wX bD bC bF r) (h:Q4 p2 dF vY wX bD bC bF=some r):aW5 p2 dF vY wX bD bC bF r:=by
 rw [Q4] at h;delta aW5 aJ8;refine si (oi (sx 1 (cg c1_ h (aAz _ _) fun y6 h=>(ni (xi (si (oi (sx 2 (ni (xi (ri ?_)))))))))));injection h with h; subst h;exact rb
end Go.Proofs.YtdlidhpkelikhaaGreatDoor
