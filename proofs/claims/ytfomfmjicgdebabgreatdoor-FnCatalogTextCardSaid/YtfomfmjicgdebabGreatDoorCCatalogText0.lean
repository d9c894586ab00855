/- That the code computes these functions (printed by a program). -/
import Derived.Lib.Builder
import Derived.Lib.UnsafeStr
import Derived.Test.YtfomfmjicgdebabGreatDoorAbB
import Derived.Test.YtfomfmjicgdebabGreatDoorAbP
import Derived.Test.YtfomfmjicgdebabGreatDoorAbQ
import Derived.KernelRfl
import Derived.Test.YtfomfmjicgdebabGreatDoorAbG2
import Derived.Test.YtfomfmjicgdebabGreatDoorAbC3
import Derived.Test.YtfomfmjicgdebabGreatDoorAbX3
import Derived.Test.YtfomfmjicgdebabGreatDoorAbX1
import Derived.Test.YtfomfmjicgdebabGreatDoorFCatalogText
import Derived.Test.YtfomfmjicgdebabGreatDoorProg
namespace Go.Proofs.YtfomfmjicgdebabGreatDoor
open Go Go.RowKit Go.Ab
attribute [local irreducible] avc bA aop dgo aV bG bI wkK R8 stz aGj eX eff bC.st
def cI (n:Int):List D:=[.i .i64 n]
def cU8 (n:Int):List D:=[.i .u8 n]
def bYi (n:Int):List D:=[.i .u64 n]
def cAp (n:Int):List D:=[.i .i32 n]
def bY3 (n:Int):List D:=[.i .u32 n]
def cB (b:Bool):List D:=[.b b]
def cStr (s:List UInt8):List D:=[.s (bs s)]
def cSl {α:Type} (sz:Nat) (f:α→List D) (l:List α):List D:=[.sl sz (l.map f)]
def eU (x:aZ):List D:=[(.s (bs x.name)),(.i .i64 x.type)]
def bCq (x:aZ):V:=.agg (eU x)
def bNb (x:aZ):List V:=(eU x).map V.d
def bX (x:aQ):List D:=[(.s (bs x.name)),(.sl 2 (x.cols.map eU))]
def qC (x:aQ):V:=.agg (bX x)
def zA (x:aQ):List V:=(bX x).map V.d
def aK9 (x:aR):List D:=[(.sl 2 (x.tables.map bX))]
def iY (x:aR):V:=.agg (aK9 x)
def jN (x:aR):List V:=(aK9 x).map V.d
def aJ (x:aA):List D:=[(.i .i64 x.kind),(.s (bs x.text)),(.i .i64 x.at_)]
def fE (x:aA):V:=.agg (aJ x)
def qG (x:aA):List V:=(aJ x).map V.d
def aH9 (x:eB):List D:=[(.sl 3 (x.list.map aJ)),(.b x.full)]
def bZk (x:eB):V:=.agg (aH9 x)
def cA9 (x:eB):List V:=(aH9 x).map V.d
def aIf (x:aB):List D:=[(.sl 1 (x.b.map cU8)),(.i .i64 x.i),(.i .i64 x.h)]
def bYe (x:aB):V:=.agg (aIf x)
def bU (x:aB):List V:=(aIf x).map V.d
def aNm (x:cK):List D:=[(.sl 3 (x.t.map aJ)),(.i .i64 x.at_),(.b x.bad)]
def cAz (x:cK):V:=.agg (aNm x)
def bZs (x:cK):List V:=(aNm x).map V.d
def aJ7 (x:bZ):List D:=[(.sl 3 (x.list.map aJ)),(.i .i64 x.at_),(.b x.failed)]
def bZc (x:bZ):V:=.agg (aJ7 x)
def cA5 (x:bZ):List V:=(aJ7 x).map V.d
instance:Enc aQ:=⟨bX,bX,(fun _=>rfl)⟩
instance:Enc aZ:=⟨eU,eU,(fun _=>rfl)⟩
instance:Enc (List UInt8):=⟨cStr,cStr,(fun _=>rfl)⟩
instance:Enc aA:=⟨aJ,aJ,(fun _=>rfl)⟩
theorem kr {p:Prop} (h:p:=by kernel_rfl):p:=h
def eD (l:List aA):V:=.d (.sl 3 (l.map aJ))
def oQ (l:List aQ):V:=.d (.sl 2 (l.map bX))
def uF (l:List aZ):V:=.d (.sl 2 (l.map eU))
def zU (l:List (List UInt8)):V:=.d (.sl 1 (l.map cStr))
def vE (l:List Int):V:=.d (.sl 1 (l.map cU8))
def bJu (l:List Int):V:=.d (.sl 1 (l.map cI))
def dJ:V:=(.d (.s (bs [])))
def bO:V:=(.d (.i .i64 0))
def aOf:V:=(.d (.b false))

def bT6:AC:=(.seq (.ops [.asg 2 (kB false)]) (.seq (.seq (.ops [.mv 12 0,.call (some 13) 4 [12]]) (.cond 13 (.seq (.ops [.asg 2 (kB true)]) .ret) .skip)) (.seq (.ops [.mv 14 0,.call (some 15) 5 [14],.alc 3 [(.nil 2)],.st 1 3 15]) (.seq (.ops [.ld 16 1 true 3,.call (some 17) 6 [16],.asg 4 17]) (.seq (.ops [.mv 19 4,.call (some 20) 7 [19],.mv 18 20,.ext 21 18 0,.ext 22 18 1,.alc 5 [(.nil 2)],.st 1 5 21,.asg 6 22]) (.seq (.seq (.ops [.ld 23 1 true 3,.call (some 24) 8 [23],.not 25 24]) (.cond 25 (.seq (.ops [.mv 26 4,.bin 27 .eql 26 (.c (.d (.s (bs [])))),.mv 28 27,.g 28 true (.mv 29 6),.pick 30 28 29 (kB false),.mv 31 30,.g 31 true (.fa 32 0 5),.g 31 true (.ld 33 1 false 32),.g 31 true (.len 34 33),.g 31 true (.bin 35 .eql 34 (kI 0)),.pick 36 31 35 (kB false),.asg 2 36]) .ret) .skip)) (.seq (.ops [.mv 37 0,.call (some 38) 9 [37],.asg 7 38]) (.seq (.ops [.mv 40 7,.call (some 41) 7 [40],.mv 39 41,.ext 42 39 0,.ext 43 39 1,.alc 8 [(.nil 2)],.st 1 8 42,.asg 9 43]) (.seq (.ops [.mv 45 7,.call (some 46) 10 [45],.mv 44 46,.ext 47 44 0,.ext 48 44 1,.alc 10 [(.nil 2)],.st 1 10 47,.asg 11 48]) (.seq (.ops [.mv 49 6,.mv 50 49,.g 50 true (.ld 51 1 true 3),.g 50 true (.ld 52 1 true 5),.g 50 true (.call (some 53) 11 [51,52]),.pick 54 50 53 (kB false),.mv 55 54,.g 55 true (.ld 56 1 true 3),.g 55 true (.ld 57 1 true 5),.g 55 true (.call (some 58) 12 [56,57]),.pick 59 55 58 (kB false),.mv 60 59,.g 60 true (.mv 61 9),.g 60 true (.mv 62 11),.g 60 true (.eqb 63 false 61 62),.pick 64 60 63 (kB false),.mv 65 64,.g 65 true (.mv 66 9),.g 65 true (.not 67 66),.g 65 true (.mv 68 67),.g 68 false (.ld 69 1 true 8),.g 68 false (.call (some 70) 8 [69]),.g 65 true (.pick 71 68 (kB true) 70),.pick 72 65 71 (kB false),.asg 2 72]) .ret))))))))))
theorem bJw:aY Tryz.prog 3=some (bT6,[.mv 0 2],73):=by kernel_rfl
def cBd (r:Bool):Exit→St→Prop:=aV [.mv 0 2] fun x _=>x=(fun y=>(vB y)) r
def bP4:AC:=(.seq (.ops [.box 1 26 0,.asg 2 (.c (.d (.s (bs []))))]) (.seq (.seq (.ops [.ld 3 1 true 1,.call (some 4) 15 [3],.not 5 4]) (.cond 5 (.seq (.ops [.asg 2 (.c (.d (.s (bs []))))]) .ret) .skip)) (.seq (.ops [.ld 6 1 true 1,.call (some 7) 17 [6],.call (some 8) 16 [7],.asg 2 8]) .ret)))
theorem bFo:aY Tryz.prog 6=some (bP4,[.mv 0 2],9):=by kernel_rfl
def bYs (r:List UInt8):Exit→St→Prop:=aV [.mv 0 2] fun x _=>x=(fun y=>(vS y)) r
def aLw:AC:=(.loop (.seq (.ops [.bin 31 .lss 30 29]) (.seq (.cond 31 .skip (.exit 2)) (.seq (.block 3 (.seq (.ops [.mv 32 30,.ia 33 2 28 30,.ld 34 2 true 33,.alc 7 [dJ,bO],.asg 6 32,.st 2 7 34]) (.seq (.ops [.mv 35 3,.mv 36 6,.call (some 37) 48 [35,36]]) (.seq (.ops [.mv 38 3,.fa 39 0 7,.ld 40 1 false 39,.call (some 41) 49 [38,40]]) (.ops [.mv 42 3,.fa 43 1 7,.ld 44 1 false 43,.call (some 45) 51 [44],.call (some 46) 49 [42,45]]))))) (.ops [.bin 47 .add 30 (kI 1),.mv 30 47])))))
def aTn:AC:=(.ops [.mv 48 3,.call (some 49) 50 [48,(.c (.d (.s (bs [41]))))]])
def aV9:AC:=(.ops [.bin 50 .add 13 (kI 1),.mv 13 50])
def aDz:AC:=(.loop (.seq (.ops [.bin 14 .lss 13 12]) (.seq (.cond 14 .skip (.exit 0)) (.seq (.block 1 (.seq (.ops [.mv 15 13,.ia 16 2 11 13,.ld 17 2 true 16,.alc 5 [dJ,(.nil 2)],.asg 4 15,.st 2 5 17]) (.seq (.ops [.mv 18 3,.mv 19 4,.call (some 20) 48 [18,19]]) (.seq (.ops [.mv 21 3,.fa 22 0 5,.ld 23 1 false 22,.call (some 24) 49 [21,23]]) (.seq (.ops [.mv 25 3,.call (some 26) 50 [25,(.c (.d (.s (bs [40]))))]]) (.seq (.seq (.ops [.fa 27 1 5,.ld 28 1 false 27,.len 29 28,.mv 30 (kI 0)]) (.block 2 aLw)) aTn)))))) aV9))))
def aR0:AC:=(.seq (.ops [.mv 51 3,.nck 52 51,.fa 53 0 52,.ld 54 1 false 53,.asg 2 54]) .ret)
def bXf:AC:=(.seq (.ops [.box 1 26 0,.asg 2 (.c (.nil 3))]) (.seq (.ops [.bld 8 [(.nil 3),aOf] [],.box 9 80 8,.asg 3 9]) (.seq (.seq (.ops [.fa 10 0 1,.ld 11 1 false 10,.len 12 11,.mv 13 (kI 0)]) (.block 0 aDz)) aR0)))
theorem bJ9:aY Tryz.prog 17=some (bXf,[.mv 0 2],55):=by kernel_rfl
def aYd (r:List aA):Exit→St→Prop:=aV [.mv 0 2] fun x _=>x=(fun y=>(eD y)) r
def bDa (r:List aA):Exit→St→Prop:=(bG (wkK (avc Tryz.prog aR0 (aYd r))) (aYd r))
def aH4 (r:List aA):Exit→St→Prop:=(bI 0 (bDa r))
def aXt (r:List aA):Exit→St→Prop:=(bG (avc Tryz.prog aDz (aH4 r)) (aH4 r))
def bKc (r:List aA):Exit→St→Prop:=(bG (wkK (avc Tryz.prog aV9 (aXt r))) (aXt r))
def aOt (r:List aA):Exit→St→Prop:=(bI 1 (bKc r))
def aZz (r:List aA):Exit→St→Prop:=(bG (wkK (avc Tryz.prog aTn (aOt r))) (aOt r))
def bJ8 (r:List aA):Exit→St→Prop:=(bI 2 (aZz r))
def bRb (p0:aR) (x13:Int) (jR:List aA) (fP:Bool):St:=⟨[(3,(.ptr 9 0)),(11,(oQ p0.tables)),(12,(vI (p0.tables.length:Int))),(13,(vI x13))],[(9,[(.osl 5039500 85 3 (jR.map aJ)),(vB fP)])]⟩
abbrev aFx:=fun p0 x13 jR fP r=>avc Tryz.prog aDz (aH4 r) (bRb p0 x13 jR fP)
def bMn (p0:aR) (x13:Int) (y1:aQ) (x30:Int) (kZ:List aA) (kY:Bool):St:=⟨[(3,(.ptr 9 0)),(11,(oQ p0.tables)),(12,(vI (p0.tables.length:Int))),(13,(vI x13)),(28,(uF y1.cols)),(29,(vI (y1.cols.length:Int))),(30,(vI x30))],[(9,[(.osl 5039500 85 3 (kZ.map aJ)),(vB kY)])]⟩
abbrev aBg:=fun p0 x13 y1 x30 kZ kY r=>avc Tryz.prog aLw (bJ8 r) (bMn p0 x13 y1 x30 kZ kY)
def bG7:AC:=(.seq (.ops [.mv 4 1,.bin 5 .gtr 4 (kI 0)]) (.cond 5 (.ops [.mv 6 0,.call (some 7) 50 [6,(.c (.d (.s (bs [44]))))]]) .skip))
theorem bV1:aY Tryz.prog 48=some (bG7,[],8):=by kernel_rfl
def cBk (r:eB):Exit→St→Prop:=aV [] fun x b=>x=(fun (y:eB)=>(.tup [])) r∧dI ((fun (y:eB)=>[(1000000,[(.osl 6000000 85 3 (y.list.map aJ)),(vB y.full)])]) r) b
def bFk:AC:=(.ops [.mv 4 0,.mv 5 1,.call (some 6) 87 [4,(kI 5),5]])
theorem bAv:aY Tryz.prog 50=some (bFk,[],7):=by kernel_rfl
def bZ1 (r:eB):Exit→St→Prop:=aV [] fun x b=>x=(fun (y:eB)=>(.tup [])) r∧dI ((fun (y:eB)=>[(1000000,[(.osl 6000000 85 3 (y.list.map aJ)),(vB y.full)])]) r) b
def bUc:AC:=(.ops [.mv 6 0,.mv 7 0,.nck 8 7,.fa 9 0 8,.ld 10 1 false 9,.mv 11 1,.mv 12 2,.bld 13 [bO,dJ,bO] [(0,1,11),(1,1,12)],.bsl 14 85 3 [13],.app 15 85 3 32 10 14,.nck 16 6,.fa 17 0 16,.st 1 17 15])
theorem bEw:aY Tryz.prog 87=some (bUc,[],18):=by kernel_rfl
def bYh (r:eB):Exit→St→Prop:=aV [] fun x b=>x=(fun (y:eB)=>(.tup [])) r∧dI ((fun (y:eB)=>[(1000000,[(.osl 6000000 85 3 (y.list.map aJ)),(vB y.full)])]) r) b
def bTw:AC:=(.ops [.mv 4 0,.mv 5 1,.call (some 6) 87 [4,(kI 2),5]])
theorem bBs:aY Tryz.prog 49=some (bTw,[],7):=by kernel_rfl
def cBg (r:eB):Exit→St→Prop:=aV [] fun x b=>x=(fun (y:eB)=>(.tup [])) r∧dI ((fun (y:eB)=>[(1000000,[(.osl 6000000 85 3 (y.list.map aJ)),(vB y.full)])]) r) b
def bG0:AC:=(.seq (.ops [.asg 2 (.c (.d (.s (bs []))))]) (.seq (.seq (.ops [.mv 3 0,.bin 4 .lss 3 (kI 0),.mv 5 4,.g 5 false (.mv 6 0),.g 5 false (.bin 7 .gtr 6 (kI 3)),.pick 8 5 (kB true) 7]) (.cond 8 (.seq (.ops [.asg 2 (.c (.d (.s (bs []))))]) .ret) .skip)) (.seq (.ops [.bsl 9 9 1 [(.c (.d (.s (bs [65,78,89])))),(.c (.d (.s (bs [73,78,84])))),(.c (.d (.s (bs [84,69,88,84])))),(.c (.d (.s (bs [66,79,79,76]))))],.mv 10 0,.ia 11 1 9 10,.ld 12 1 false 11,.asg 2 12]) .ret)))
theorem bSg:aY Tryz.prog 51=some (bG0,[.mv 0 2],13):=by kernel_rfl
def bXn (r:List UInt8):Exit→St→Prop:=aV [.mv 0 2] fun x _=>x=(fun y=>(vS y)) r
def bP9:AC:=(.seq (.ops [.asg 2 (.c (.d (.s (bs []))))]) (.seq (.ops [.mv 3 0,.call (some 4) 46 [3,(.c (.fn 47 []))],.asg 2 4]) .ret))
theorem bHw:aY Tryz.prog 16=some (bP9,[.mv 0 2],5):=by kernel_rfl
def cA0 (r:List UInt8):Exit→St→Prop:=aV [.mv 0 2] fun x _=>x=(fun y=>(vS y)) r
def aK4:AC:=(.ops [.ld 32 3 true 7,.call (some 33) 82 [32],.call (some 34) 81 [5,33]])
def aVr:AC:=(.ops [.bin 35 .add 11 (kI 1),.mv 11 35])
def aCu:AC:=(.loop (.seq (.ops [.bin 12 .lss 11 10]) (.seq (.cond 12 .skip (.exit 0)) (.seq (.block 1 (.seq (.ops [.mv 13 11,.ia 14 3 9 11,.ld 15 3 true 14,.alc 7 [bO,dJ,bO],.asg 6 13,.st 3 7 15]) (.seq (.seq (.ops [.ld 16 3 true 7,.call (some 17) 80 [16],.not 18 17]) (.cond 18 (.seq (.ops [.asg 4 (.c (.d (.s (bs []))))]) .ret) .skip)) (.seq (.seq (.dops [[],[0],[1],[2],[2],[2],[5,2],[4,6,2],[7,2],[2],[3,8,9,2,2],[2,10]] [.mv 19 6,.bin 20 .gtr 19 (kI 0),.mv 21 20,.g 21 true (.mv 22 1),.g 21 true (.mv 23 0),.g 21 true (.mv 24 6),.g 21 true (.bin 25 .sub 24 (kI 1)),.g 21 true (.ia 26 3 23 25),.g 21 true (.ld 27 3 true 26),.g 21 true (.ld 28 3 true 7),.g 21 true (.callv (some 29) 22 [27,28]),.pick 30 21 29 (kB false)]) (.cond 30 (.ops [.call (some 31) 81 [5,(.c (.d (.s (bs [32]))))]]) .skip)) aK4)))) aVr))))
def aVh:AC:=(.seq (.seq (.ops [.call (some 36) 83 [5],.bin 37 .gtr 36 (kI 2000)]) (.cond 37 (.seq (.ops [.asg 4 (.c (.d (.s (bs []))))]) .ret) .skip)) (.seq (.ops [.call (some 38) 84 [5],.asg 4 38]) .ret))
def bPb:AC:=(.seq (.ops [.asg 4 (.c (.d (.s (bs []))))]) (.seq (.ops [.bld 8 [.np,(.nil 1)] [],.alc 5 [(.bp 5 108),(.nil 1)],.st 2 5 8]) (.seq (.seq (.ops [.mv 9 0,.len 10 9,.mv 11 (kI 0)]) (.block 0 aCu)) aVh)))
theorem bHv:aY Tryz.prog 46=some (bPb,[.mv 0 4],39):=by kernel_rfl
def aT8 (r:List UInt8):Exit→St→Prop:=aV [.mv 0 4] fun x _=>x=(fun y=>(vS y)) r
def bKs (r:List UInt8):Exit→St→Prop:=(bG (wkK (avc Tryz.prog aVh (aT8 r))) (aT8 r))
def aJk (r:List UInt8):Exit→St→Prop:=(bI 0 (bKs r))
def aXv (r:List UInt8):Exit→St→Prop:=(bG (avc Tryz.prog aCu (aJk r)) (aJk r))
def bRg (r:List UInt8):Exit→St→Prop:=(bG (wkK (avc Tryz.prog aVr (aXv r))) (aXv r))
def bRr (r:List UInt8):Exit→St→Prop:=(bI 1 (bRg r))
def bOm (p0:List aA) (x11:Int) (jD:List Int):St:=⟨[(0,(eD p0)),(1,(.fn 47 [])),(5,(.ptr 5 0)),(9,(eD p0)),(10,(vI (p0.length:Int))),(11,(vI x11))],[(5,[(.bp 5 108),(.osl 5062501 5 1 (jD.map cU8))])]⟩
abbrev aCn:=fun p0 x11 jD r=>avc Tryz.prog aCu (aJk r) (bOm p0 x11 jD)
def bWa (p0:List aA) (x11:Int) (y1:aA) (mQ:List Int):St:=⟨[(0,(eD p0)),(1,(.fn 47 [])),(5,(.ptr 5 0)),(7,(.ptr 7 0)),(9,(eD p0)),(10,(vI (p0.length:Int))),(11,(vI x11))],[(5,[(.bp 5 108),(.osl 5062501 5 1 (mQ.map cU8))]),(7,qG y1)]⟩
abbrev aDv:=fun p0 x11 y1 mQ r=>avc Tryz.prog aK4 (bRr r) (bWa p0 x11 y1 mQ)
def bGh:AC:=(.seq (.ops [.asg 4 (kI 0),.asg 5 (.c .top)]) (.seq (.ops [.mv 6 0,.call (some 7) 114 [6]]) (.seq (.ops [.mv 8 0,.mv 9 0,.nck 10 9,.fa 11 1 10,.ld 12 1 false 11,.mv 13 1,.app 14 5 1 1 12 13,.nck 15 8,.fa 16 1 15,.st 1 16 14]) (.seq (.ops [.mv 17 1,.lns 18 17,.asg 4 18,.asg 5 (.c .top)]) .ret))))
theorem bEh:aY Tryz.prog 81=some (bGh,[.mv 0 4,.mv 0 5],19):=by kernel_rfl
def bXv (r:Int×(List Int)):Exit→St→Prop:=aV [.mv 0 4,.mv 0 5] fun x b=>x=(fun (y:Int×(List Int))=>(.tup [(vI y.1),.top])) r∧dI ((fun (y:Int×(List Int))=>[(1000000,[(.bp 1000000 108),(.osl 6000001 5 1 (y.2.map cU8))])]) r) b
set_option maxHeartbeats 2000000 in
set_option maxRecDepth 100000 in
theorem bK8:∀ (b:Nat) (w:World),w.cell? ⟨b,0,none⟩=some (.pointer (some ⟨b,0,none⟩))→Calls Tryz.prog 114 #[.pointer (some ⟨b,0,none⟩)] w fun e w'=>e=.returned (.tuple #[])∧w'=w:=by
  intro b w h0
  go_enter Tryz.func114,Tryz.ntmps114
  go_wp2
  rw [Lib.run_neq_ptr_same w _ (show Tryz.prog.underlying 106=some (.pointer 108) by kernel_rfl) (show Tryz.prog.info? 108=some Tryz.t108 by kernel_rfl)]
  go_wp2
  go_end0
  exact ⟨rfl,rfl⟩
set_option maxHeartbeats 2000000 in
set_option maxRecDepth 100000 in
theorem bCf : ∀ (b : Nat) (w : World) (cs : Array Value), w.heap[b]? = some (.cells cs 108 (0, 0)) → cs.size = 2 → cs[0]? = some (.pointer none) →
    Calls Tryz.prog 114 #[.pointer (some ⟨b,0,none⟩)] w fun e w'=>e=.returned (.tuple #[])∧w'=w.setCell ⟨b,0,none⟩ (.pointer (some ⟨b,0,none⟩)):=by
  intro b w cs hh hn hc
  have h0:w.cell? ⟨b,0,none⟩=some (.pointer none):=by rw [cell_of_row w b 0 cs 108 (0,0) hh]; exact hc
  have hsh:w.shape? b=some (108,2):=by simp [World.shape?,hh,hn]
  have hfz:w.frozen? ⟨b,0,none⟩=false:=by simp [World.frozen?,hh]
  go_enter Tryz.func114,Tryz.ntmps114
  go_wp2
  rw [Lib.run_to_unsafe w ⟨b,0,none⟩ (show Tryz.prog.underlying 106=some (.pointer 108) by kernel_rfl) (show Tryz.prog.underlying 136=some (.unsafePointer) by kernel_rfl) (show Tryz.prog.info? 108=some Tryz.t108 by kernel_rfl) (by decide +kernel) hsh (Nat.zero_lt_succ 1)]
  simp only [Result.andThen]
  rw [Oper.upon_value]
  go_wp2
  rw [run_callFunc_extern Tryz.func131 kr kr kr (e:=Extern.AbiNoEscape.same) kr];rw [Lib.run_noEscape]
  simp only [Result.andThen]
  rw [Oper.upon_value]
  go_wp2
  rw [Lib.run_from_unsafe w ⟨b,0,none⟩ (show Tryz.prog.underlying 136=some (.unsafePointer) by kernel_rfl) (show Tryz.prog.underlying 106=some (.pointer 108) by kernel_rfl) (show Tryz.prog.info? 108=some Tryz.t108 by kernel_rfl) hsh kr]
  simp only [Result.andThen]
  rw [Oper.upon_value]
  go_wp2
  go_end0
  exact ⟨rfl,rfl⟩
def bBm:AC:=(.seq (.ops [.box 1 85 0,.asg 2 (kB false)]) (.seq (.seq (.ops [.fa 5 0 1,.ld 6 1 false 5]) (.block 0 (.seq (.ops [.bin 8 .eql 6 (kI 1),.asg 7 8]) (.cond 7 (.seq (.dops [[],[0],[1],[2],[3,2],[4],[5,4],[6,4,4],[4],[8,4],[7,9,4],[4,10],[11,7,0,1,2,3,4,5,6,7,8,9,10,11]] [.fa 9 1 1,.ld 10 1 false 9,.call (some 11) 93 [10],.bin 12 .neq 11 (kI 0),.mv 13 12,.g 13 true (.fa 14 1 1),.g 13 true (.ld 15 1 false 14),.g 13 true (.call (some 16) 94 [15]),.g 13 true (.fa 17 1 1),.g 13 true (.ld 18 1 false 17),.g 13 true (.bin 19 .eql 16 18),.pick 20 13 19 (kB false),.asg 2 20]) .ret) (.seq (.ops [.bin 22 .eql 6 (kI 2),.asg 21 22]) (.cond 21 (.seq (.ops [.fa 23 1 1,.ld 24 1 false 23,.call (some 25) 76 [24],.asg 2 25]) .ret) (.seq (.ops [.bin 27 .eql 6 (kI 3),.asg 26 27]) (.cond 26 (.seq (.ops [.fa 29 1 1,.ld 30 1 false 29,.call (some 31) 112 [30],.mv 28 31,.ext 32 28 0,.ext 33 28 1,.asg 3 32,.asg 4 33]) (.seq (.ops [.mv 34 4,.asg 2 34]) .ret)) (.seq (.ops [.bin 36 .eql 6 (kI 4),.asg 35 36]) (.cond 35 (.seq (.ops [.fa 37 1 1,.ld 38 1 false 37,.lns 39 38,.bin 40 .leq 39 (kI 40),.asg 2 40]) .ret) (.seq (.ops [.bin 42 .eql 6 (kI 5),.asg 41 42]) (.cond 41 (.seq (.ops [.fa 43 1 1,.ld 44 1 false 43,.call (some 45) 113 [44],.asg 2 45]) .ret) .skip)))))))))))) (.seq (.ops [.asg 2 (kB false)]) .ret)))
theorem bOn:aY Tryz.prog 80=some (bBm,[.mv 0 2],46):=by kernel_rfl
def cBh (r:Bool):Exit→St→Prop:=aV [.mv 0 2] fun x _=>x=(fun y=>(vB y)) r
def bUd:AC:=(.seq (.ops [.asg 2 (kB false)]) (.seq (.ops [.mv 3 0,.lns 4 3,.bin 5 .geq 4 (kI 1),.mv 6 5,.g 6 true (.mv 7 0),.g 6 true (.lns 8 7),.g 6 true (.bin 9 .leq 8 (kI 20)),.pick 10 6 9 (kB false),.asg 2 10]) .ret))
theorem bH4:aY Tryz.prog 76=some (bUd,[.mv 0 2],11):=by kernel_rfl
def bZu (r:Bool):Exit→St→Prop:=aV [.mv 0 2] fun x _=>x=(fun y=>(vB y)) r
def bM9:AC:=(.seq (.ops [.asg 2 (kI 0)]) (.seq (.ops [.call (some 3) 122 [],.mv 4 0,.call (some 5) 94 [4],.call (some 6) 21 [3,5],.bin 7 .add 6 (kI 1),.asg 2 7]) .ret))
theorem bOu:aY Tryz.prog 93=some (bM9,[.mv 0 2],8):=by kernel_rfl
def bZ0 (r:Int):Exit→St→Prop:=aV [.mv 0 2] fun x _=>x=(fun y=>(vI y)) r
def aLu:AC:=(.loop (.seq (.ops [.bin 9 .lss 8 7]) (.seq (.cond 9 .skip (.exit 0)) (.seq (.block 1 (.seq (.ops [.mv 10 8,.asg 5 10]) (.seq (.ops [.mv 11 1,.mv 12 0,.mv 13 5,.ia 14 1 12 13,.ld 15 1 false 14,.bin 16 .eql 11 15]) (.cond 16 (.seq (.ops [.mv 17 5,.asg 4 17]) .ret) .skip)))) (.ops [.bin 18 .add 8 (kI 1),.mv 8 18])))))
def aWz:AC:=(.seq (.ops [.asg 4 (kI (-1))]) .ret)
def bWe:AC:=(.seq (.ops [.asg 4 (kI 0)]) (.seq (.seq (.ops [.mv 6 0,.len 7 6,.mv 8 (kI 0)]) (.block 0 aLu)) aWz))
theorem bOr:aY Tryz.prog 21=some (bWe,[.mv 0 4],19):=by kernel_rfl
def aPa (r:Int):Exit→St→Prop:=aV [.mv 0 4] fun x _=>x=(fun y=>(vI y)) r
def bFt (r:Int):Exit→St→Prop:=(bG (wkK (avc Tryz.prog aWz (aPa r))) (aPa r))
def bQb (r:Int):Exit→St→Prop:=(bI 0 (bFt r))
def bWv (p0:List (List UInt8)) (p1:List UInt8) (x8:Int):St:=⟨[(0,(zU p0)),(1,(vS p1)),(7,(vI (p0.length:Int))),(8,(vI x8))],[]⟩
abbrev aF7:=fun p0 p1 x8 r=>avc Tryz.prog aLu (bQb r) (bWv p0 p1 x8)
def bD6:AC:=(.seq (.ops [.asg 0 (.c (.nil 1))]) (.seq (.ops [.call (some 1) 137 [(.c (.d (.s (bs [83,69,76,69,67,84,32,68,73,83,84,73,78,67,84,32,70,82,79,77,32,74,79,73,78,32,79,78,32,87,72,69,82,69,32,79,82,68,69,82,32,66,89,32,65,83,67,32,68,69,83,67,32,76,73,77,73,84,32,65,83,32,65,78,68,32,79,82,32,78,79,84,32,73,83,32,73,78,32,66,69,84,87,69,69,78,32,69,88,73,83,84,83,32,78,85,76,76,32,84,82,85,69,32,70,65,76,83,69,32,73,78,83,69,82,84,32,73,78,84,79,32,86,65,76,85,69,83,32,85,80,68,65,84,69,32,83,69,84,32,68,69,76,69,84,69])))),(.c (.d (.s (bs [32]))))],.asg 0 1]) .ret))
theorem bFz:aY Tryz.prog 122=some (bD6,[.mv 0 0],2):=by kernel_rfl
def cBo (r:List (List UInt8)):Exit→St→Prop:=aV [.mv 0 0] fun x _=>x=(fun y=>(zU y)) r

def aLj:AC:=(.ops [.bin 27 .add 10 (kI 1),.mv 10 27])
def aCq:AC:=(.loop (.seq (.ops [.bin 11 .lss 10 9]) (.seq (.cond 11 .skip (.exit 0)) (.seq (.block 1 (.seq (.ops [.mv 12 10,.ia 13 1 8 10,.ld 14 1 false 13,.asg 4 12,.asg 5 14]) (.seq (.ops [.mv 15 5,.bin 16 .geq 15 (.c (.d (.i .u8 97))),.mv 17 16,.g 17 true (.mv 18 5),.g 17 true (.bin 19 .leq 18 (.c (.d (.i .u8 122)))),.pick 20 17 19 (kB false)]) (.cond 20 (.ops [.mv 21 3,.mv 22 4,.mv 23 5,.bin 24 .sub 23 (.c (.d (.i .u8 97))),.bin 25 .add 24 (.c (.d (.i .u8 65))),.ia 26 1 21 22,.st 1 26 25]) .skip)))) aLj))))
def aFy:AC:=(.seq (.ops [.mv 28 3,.cbs 29 28,.asg 2 29]) .ret)
def bD5:AC:=(.seq (.ops [.asg 2 (.c (.d (.s (bs []))))]) (.seq (.ops [.mv 6 0,.csb 7 5 6,.asg 3 7]) (.seq (.seq (.ops [.mv 8 3,.len 9 8,.mv 10 (kI 0)]) (.block 0 aCq)) aFy)))
theorem bQv:aY Tryz.prog 94=some (bD5,[.mv 0 2],30):=by kernel_rfl
def aJs (r:List UInt8):Exit→St→Prop:=aV [.mv 0 2] fun x _=>x=(fun y=>(vS y)) r
def bWx (r:List UInt8):Exit→St→Prop:=(bG (wkK (avc Tryz.prog aFy (aJs r))) (aJs r))
def aNu (r:List UInt8):Exit→St→Prop:=(bI 0 (bWx r))
def bBo (r:List UInt8):Exit→St→Prop:=(bG (avc Tryz.prog aCq (aNu r)) (aNu r))
def bOq (p0:List UInt8) (x10:Int) (gM:List Int):St:=⟨[(3,(.tre 60015000)),(8,(.tre 60015000)),(9,(vI ((dW p0).length:Int))),(10,(vI x10))],[(60015000,[(.trc 1 (gM.map cU8))])]⟩
abbrev aDt:=fun p0 x10 gM r=>avc Tryz.prog aCq (aNu r) (bOq p0 x10 gM)
def bOz (p0:List UInt8) (x10:Int) (lW:List Int):St:=⟨[(3,(.tre 60050000)),(8,(.tre 60050000)),(9,(vI ((dW p0).length:Int))),(10,(vI x10))],[(60050000,[(.trc 1 (lW.map cU8))])]⟩
abbrev aDu:=fun p0 x10 lW r=>avc Tryz.prog aLj (bBo r) (bOz p0 x10 lW)
def bV5 (x3:List Int):St:=⟨[(3,(vE x3))],[]⟩
abbrev aVo:=fun x3 r=>avc Tryz.prog aFy (aJs r) (bV5 x3)
set_option maxHeartbeats 2000000 in
set_option maxRecDepth 100000 in
theorem aYl (n : Int) (h0 : -9223372036854775808 ≤ n) (h1 : n ≤ 9223372036854775807) (w : World) (hv : yE 1 2 3 w) :
    Calls Tryz.prog 129 #[.int .i64 n] w fun e w'=>e=.returned (.string ⟨(Lib.itoa n).toArray⟩)∧iM w w':=by
  go_enter Tryz.func129,Tryz.ntmps129
  go_wp2_with (go_at_call 144; refine (bEf (g15:=1) (g16:=2) sh171 n h0 h1 _ hv).mono ?_; rintro e w' ⟨rfl,hw⟩)
  go_ret
  exact ⟨rfl,hw⟩
set_option maxHeartbeats 4000000 in
set_option maxRecDepth 100000 in
theorem bGl:aO5 Tryz.prog 112 1 2 3:=by
  intro s w hs hv
  by_cases hok:∃ v,Lib.atoiAll s.data.toList=.ok v
  · obtain ⟨v,hc⟩:=hok
    have hb:=Lib.atoiAll_bounds hc
    by_cases hneg:v<0
    · have hr:gN s.data.toList=(0,false):=by unfold gN; rw [hc]; simp only; rw [if_pos hneg]
      rw [hr]
      go_enter Tryz.func112,Tryz.ntmps112
      go_wp2_with (go_at_call 128; refine (aLq sh172 s hs v hc _).mono ?_; rintro e w' ⟨rfl,hw⟩)
      go_ret2
      exact ⟨rfl,hw⟩
    · by_cases he:Lib.itoa v=s.data.toList
      · have hr:gN s.data.toList=(v,true):=by unfold gN; rw [hc]; simp only; rw [if_neg hneg,if_pos he]
        have hes:(⟨(Lib.itoa v).toArray⟩:ByteArray)=s:=by rw [he]
        rw [hr]
        go_enter Tryz.func112,Tryz.ntmps112
        go_wp2_with (go_at_call 128; refine (aLq sh172 s hs v hc _).mono ?_; rintro e w' ⟨rfl,hw⟩)
        go_wp2_with (go_at_call 129; refine (aYl v hb.1 hb.2 _ (hv.grow hw)).mono ?_; rintro e w2 ⟨rfl,hw2⟩; rw [hes])
        go_ret2
        exact ⟨rfl,hw.trans hw2⟩
      · have hr:gN s.data.toList=(0,false):=by unfold gN; rw [hc]; simp only; rw [if_neg hneg,if_neg he]
        have hne:(⟨(Lib.itoa v).toArray⟩:ByteArray)≠s:=fun e=>he (by rw [← e])
        rw [hr]
        generalize hz:(⟨(Lib.itoa v).toArray⟩:ByteArray)=z at hne
        go_enter Tryz.func112,Tryz.ntmps112
        go_wp2_with (go_at_call 128; refine (aLq sh172 s hs v hc _).mono ?_; rintro e w' ⟨rfl,hw⟩)
        go_wp2_with (go_at_call 129; refine (aYl v hb.1 hb.2 _ (hv.grow hw)).mono ?_; rintro e w2 ⟨rfl,hw2⟩; rw [hz])
        · go_ret2
          exact ⟨rfl,hw.trans hw2⟩
        · rename_i hh
          have h2:z.data.toList=s.data.toList:=by
            have:=hh.2
            rw [Lib.toList_data,Lib.toList_data] at this
            simpa using this
          exact absurd ((Lib.mk_data z).symm.trans ((congrArg (fun l:List UInt8=>(⟨l.toArray⟩:ByteArray)) h2).trans (Lib.mk_data s))) hne
  · have hno:∀ v,Lib.atoiAll s.data.toList≠.ok v:=fun v e=>hok ⟨v,e⟩
    have hr:gN s.data.toList=(0,false):=by
      unfold gN
      split
      · rename_i n hn; exact absurd hn (hno n)
      · rfl
    rw [hr]
    obtain ⟨v,hcall⟩:=bHa sh172 s hs hno w hv
    go_enter Tryz.func112,Tryz.ntmps112
    go_wp2_with (go_at_call 128; refine hcall.mono ?_)
    rintro e w' ⟨t,N,rfl,hw⟩
    go_wp2
    go_ret2
    exact ⟨rfl,hw⟩
def bE0:AC:=(.seq (.ops [.asg 2 (kB false)]) (.seq (.ops [.call (some 3) 96 [],.mv 4 0,.call (some 5) 130 [3,4],.asg 2 5]) .ret))
theorem bEu:aY Tryz.prog 113=some (bE0,[.mv 0 2],6):=by kernel_rfl
def bY4 (r:Bool):Exit→St→Prop:=aV [.mv 0 2] fun x _=>x=(fun y=>(vB y)) r
def bAo:AC:=(.seq (.ops [.asg 0 (.c (.nil 1))]) (.seq (.ops [.bsl 1 9 1 [(.c (.d (.s (bs [40])))),(.c (.d (.s (bs [41])))),(.c (.d (.s (bs [44])))),(.c (.d (.s (bs [46])))),(.c (.d (.s (bs [42])))),(.c (.d (.s (bs [43])))),(.c (.d (.s (bs [45])))),(.c (.d (.s (bs [47])))),(.c (.d (.s (bs [37])))),(.c (.d (.s (bs [61])))),(.c (.d (.s (bs [60,62])))),(.c (.d (.s (bs [60])))),(.c (.d (.s (bs [60,61])))),(.c (.d (.s (bs [62])))),(.c (.d (.s (bs [62,61])))),(.c (.d (.s (bs [124,124]))))],.asg 0 1]) .ret))
theorem aZo:aY Tryz.prog 96=some (bAo,[.mv 0 0],2):=by kernel_rfl
def cAt (r:List (List UInt8)):Exit→St→Prop:=aV [.mv 0 0] fun x b=>x=(fun (y:List (List UInt8))=>(.osl 2000000 9 1 (y.map cStr))) r∧dI ((fun (y:List (List UInt8))=>[]) r) b
def bDz:AC:=(.seq (.ops [.asg 4 (kB false)]) (.seq (.ops [.mv 5 0,.mv 6 1,.call (some 7) 21 [5,6],.bin 8 .geq 7 (kI 0),.asg 4 8]) .ret))
theorem bB5:aY Tryz.prog 130=some (bDz,[.mv 0 4],9):=by kernel_rfl
def cA8 (r:Bool):Exit→St→Prop:=aV [.mv 0 4] fun x _=>x=(fun y=>(vB y)) r
def bGx:AC:=(.seq (.ops [.box 2 85 0,.box 3 85 1,.asg 4 (kB false)]) (.seq (.seq (.ops [.ld 5 3 true 2,.call (some 6) 80 [5],.not 7 6,.mv 8 7,.g 8 false (.ld 9 3 true 3),.g 8 false (.call (some 10) 80 [9]),.g 8 false (.not 11 10),.pick 12 8 (kB true) 11]) (.cond 12 (.seq (.ops [.asg 4 (kB false)]) .ret) .skip)) (.seq (.seq (.ops [.ld 13 3 true 2,.call (some 14) 85 [13],.mv 15 14,.g 15 true (.ld 16 3 true 3),.g 15 true (.call (some 17) 85 [16]),.pick 18 15 17 (kB false),.mv 19 18,.g 19 false (.ld 20 3 true 2),.g 19 false (.call (some 21) 86 [20]),.g 19 false (.mv 22 21),.g 22 true (.ld 23 3 true 3),.g 22 true (.call (some 24) 86 [23]),.g 19 false (.pick 25 22 24 (kB false)),.pick 26 19 (kB true) 25,.mv 27 26,.g 27 false (.fa 28 0 2),.g 27 false (.ld 29 1 false 28),.g 27 false (.bin 30 .eql 29 (kI 4)),.g 27 false (.mv 31 30),.g 31 true (.fa 32 0 3),.g 31 true (.ld 33 1 false 32),.g 31 true (.bin 34 .eql 33 (kI 4)),.g 27 false (.pick 35 31 34 (kB false)),.pick 36 27 (kB true) 35]) (.cond 36 (.seq (.ops [.asg 4 (kB true)]) .ret) .skip)) (.seq (.seq (.ops [.fa 37 0 2,.ld 38 1 false 37,.bin 39 .neq 38 (kI 5),.mv 40 39,.g 40 false (.fa 41 0 3),.g 40 false (.ld 42 1 false 41),.g 40 false (.bin 43 .neq 42 (kI 5)),.pick 44 40 (kB true) 43]) (.cond 44 (.seq (.ops [.asg 4 (kB false)]) .ret) .skip)) (.seq (.seq (.ops [.fa 45 1 2,.ld 46 1 false 45]) (.block 0 (.seq (.ops [.bin 48 .eql 46 (.c (.d (.s (bs [45])))),.asg 47 48]) (.cond 47 (.seq (.ops [.fa 49 1 3,.ld 50 1 false 49,.bin 51 .eql 50 (.c (.d (.s (bs [45])))),.asg 4 51]) .ret) (.seq (.ops [.bin 53 .eql 46 (.c (.d (.s (bs [47])))),.asg 52 53]) (.cond 52 (.seq (.ops [.fa 54 1 3,.ld 55 1 false 54,.bin 56 .eql 55 (.c (.d (.s (bs [42])))),.asg 4 56]) .ret) (.seq (.ops [.bin 58 .eql 46 (.c (.d (.s (bs [60])))),.asg 57 58]) (.cond 57 (.seq (.ops [.fa 59 1 3,.ld 60 1 false 59,.ix 61 60 (kI 0),.bin 62 .eql 61 (.c (.d (.i .u8 61))),.mv 63 62,.g 63 false (.fa 64 1 3),.g 63 false (.ld 65 1 false 64),.g 63 false (.ix 66 65 (kI 0)),.g 63 false (.bin 67 .eql 66 (.c (.d (.i .u8 62)))),.pick 68 63 (kB true) 67,.asg 4 68]) .ret) (.seq (.ops [.bin 70 .eql 46 (.c (.d (.s (bs [62])))),.asg 69 70]) (.cond 69 (.seq (.ops [.fa 71 1 3,.ld 72 1 false 71,.ix 73 72 (kI 0),.bin 74 .eql 73 (.c (.d (.i .u8 61))),.asg 4 74]) .ret) .skip)))))))))) (.seq (.ops [.asg 4 (kB false)]) .ret))))))
theorem bA3:aY Tryz.prog 47=some (bGx,[.mv 0 4],75):=by kernel_rfl
def cB9 (r:Bool):Exit→St→Prop:=aV [.mv 0 4] fun x _=>x=(fun y=>(vB y)) r
def bCn:AC:=(.seq (.ops [.box 1 85 0,.asg 2 (kB false)]) (.seq (.ops [.fa 3 0 1,.ld 4 1 false 3,.bin 5 .eql 4 (kI 1),.mv 6 5,.g 6 false (.fa 7 0 1),.g 6 false (.ld 8 1 false 7),.g 6 false (.bin 9 .eql 8 (kI 3)),.pick 10 6 (kB true) 9,.mv 11 10,.g 11 false (.fa 12 0 1),.g 11 false (.ld 13 1 false 12),.g 11 false (.bin 14 .eql 13 (kI 2)),.g 11 false (.mv 15 14),.g 15 true (.fa 16 1 1),.g 15 true (.ld 17 1 false 16),.g 15 true (.call (some 18) 117 [17]),.g 11 false (.pick 19 15 18 (kB false)),.pick 20 11 (kB true) 19,.asg 2 20]) .ret))
theorem bP8:aY Tryz.prog 85=some (bCn,[.mv 0 2],21):=by kernel_rfl
def cBj (r:Bool):Exit→St→Prop:=aV [.mv 0 2] fun x _=>x=(fun y=>(vB y)) r
def aM1:AC:=(.loop (.seq (.ops [.bin 20 .lss 19 18]) (.seq (.cond 20 .skip (.exit 0)) (.seq (.block 1 (.seq (.ops [.mv 21 19,.asg 3 21]) (.seq (.ops [.mv 22 0,.mv 23 3,.ix 24 22 23,.call (some 25) 91 [24],.not 26 25]) (.cond 26 (.seq (.ops [.asg 2 (kB false)]) .ret) .skip)))) (.ops [.bin 27 .add 19 (kI 1),.mv 19 27])))))
def aSn:AC:=(.seq (.ops [.asg 2 (kB true)]) .ret)
def bE4:AC:=(.seq (.ops [.asg 2 (kB false)]) (.seq (.seq (.ops [.mv 4 0,.call (some 5) 76 [4],.not 6 5,.mv 7 6,.g 7 false (.mv 8 0),.g 7 false (.ix 9 8 (kI 0)),.g 7 false (.call (some 10) 92 [9]),.pick 11 7 (kB true) 10,.mv 12 11,.g 12 false (.mv 13 0),.g 12 false (.call (some 14) 93 [13]),.g 12 false (.bin 15 .neq 14 (kI 0)),.pick 16 12 (kB true) 15]) (.cond 16 (.seq (.ops [.asg 2 (kB false)]) .ret) .skip)) (.seq (.seq (.ops [.mv 17 0,.lns 18 17,.mv 19 (kI 0)]) (.block 0 aM1)) aSn)))
theorem bJa:aY Tryz.prog 117=some (bE4,[.mv 0 2],28):=by kernel_rfl
def aR4 (r:Bool):Exit→St→Prop:=aV [.mv 0 2] fun x _=>x=(fun y=>(vB y)) r
def bLx (r:Bool):Exit→St→Prop:=(bG (wkK (avc Tryz.prog aSn (aR4 r))) (aR4 r))
def bX4 (r:Bool):Exit→St→Prop:=(bI 0 (bLx r))
def bLe (p0:List UInt8) (x19:Int):St:=⟨[(0,(vS p0)),(18,(vI (p0.length:Int))),(19,(vI x19))],[]⟩
abbrev aD2:=fun p0 x19 r=>avc Tryz.prog aM1 (bX4 r) (bLe p0 x19)
def bSr:AC:=(.seq (.ops [.asg 2 (kB false)]) (.seq (.ops [.mv 3 0,.bin 4 .geq 3 (.c (.d (.i .u8 48))),.mv 5 4,.g 5 true (.mv 6 0),.g 5 true (.bin 7 .leq 6 (.c (.d (.i .u8 57)))),.pick 8 5 7 (kB false),.asg 2 8]) .ret))
theorem bQ0:aY Tryz.prog 92=some (bSr,[.mv 0 2],9):=by kernel_rfl
def bZa (r:Bool):Exit→St→Prop:=aV [.mv 0 2] fun x _=>x=(fun y=>(vB y)) r
def bOx:AC:=(.seq (.ops [.asg 2 (kB false)]) (.seq (.ops [.mv 3 0,.call (some 4) 121 [3],.mv 5 4,.g 5 false (.mv 6 0),.g 5 false (.call (some 7) 92 [6]),.pick 8 5 (kB true) 7,.asg 2 8]) .ret))
theorem bH0:aY Tryz.prog 91=some (bOx,[.mv 0 2],9):=by kernel_rfl
def cAv (r:Bool):Exit→St→Prop:=aV [.mv 0 2] fun x _=>x=(fun y=>(vB y)) r
def bBt:AC:=(.seq (.ops [.asg 2 (kB false)]) (.seq (.ops [.mv 3 0,.bin 4 .geq 3 (.c (.d (.i .u8 97))),.mv 5 4,.g 5 true (.mv 6 0),.g 5 true (.bin 7 .leq 6 (.c (.d (.i .u8 122)))),.pick 8 5 7 (kB false),.mv 9 8,.g 9 false (.mv 10 0),.g 9 false (.bin 11 .geq 10 (.c (.d (.i .u8 65)))),.g 9 false (.mv 12 11),.g 12 true (.mv 13 0),.g 12 true (.bin 14 .leq 13 (.c (.d (.i .u8 90)))),.g 9 false (.pick 15 12 14 (kB false)),.pick 16 9 (kB true) 15,.mv 17 16,.g 17 false (.mv 18 0),.g 17 false (.bin 19 .eql 18 (.c (.d (.i .u8 95)))),.pick 20 17 (kB true) 19,.asg 2 20]) .ret))
theorem bJb:aY Tryz.prog 121=some (bBt,[.mv 0 2],21):=by kernel_rfl
def bZ4 (r:Bool):Exit→St→Prop:=aV [.mv 0 2] fun x _=>x=(fun y=>(vB y)) r
def bNo:AC:=(.seq (.ops [.box 1 85 0,.asg 2 (kB false)]) (.seq (.ops [.fa 3 0 1,.ld 4 1 false 3,.bin 5 .eql 4 (kI 2),.mv 6 5,.g 6 true (.fa 7 1 1),.g 6 true (.ld 8 1 false 7),.g 6 true (.call (some 9) 117 [8]),.g 6 true (.not 10 9),.pick 11 6 10 (kB false),.asg 2 11]) .ret))
theorem bUx:aY Tryz.prog 86=some (bNo,[.mv 0 2],12):=by kernel_rfl
def cAk (r:Bool):Exit→St→Prop:=aV [.mv 0 2] fun x _=>x=(fun y=>(vB y)) r
def bGe:AC:=(.seq (.ops [.box 1 85 0,.asg 2 (.c (.d (.s (bs []))))]) (.seq (.seq (.ops [.ld 3 3 true 1,.call (some 4) 80 [3],.not 5 4]) (.cond 5 (.seq (.ops [.asg 2 (.c (.d (.s (bs []))))]) .ret) .skip)) (.seq (.seq (.ops [.fa 6 0 1,.ld 7 1 false 6]) (.block 0 (.seq (.ops [.bin 9 .eql 7 (kI 2),.asg 8 9]) (.cond 8 (.seq (.ops [.fa 10 1 1,.ld 11 1 false 10,.call (some 12) 115 [11],.asg 2 12]) .ret) (.seq (.ops [.bin 14 .eql 7 (kI 4),.asg 13 14]) (.cond 13 (.seq (.ops [.fa 15 1 1,.ld 16 1 false 15,.call (some 17) 116 [16],.asg 2 17]) .ret) .skip)))))) (.seq (.ops [.fa 18 1 1,.ld 19 1 false 18,.asg 2 19]) .ret))))
theorem bDj:aY Tryz.prog 82=some (bGe,[.mv 0 2],20):=by kernel_rfl
def bXl (r:List UInt8):Exit→St→Prop:=aV [.mv 0 2] fun x _=>x=(fun y=>(vS y)) r
def bIz:AC:=(.seq (.ops [.asg 2 (.c (.d (.s (bs []))))]) (.seq (.ops [.mv 3 0,.call (some 4) 132 [3,(.c (.d (.s (bs [39]))))],.asg 2 4]) .ret))
theorem bX2:aY Tryz.prog 116=some (bIz,[.mv 0 2],5):=by kernel_rfl
def bY2 (r:List UInt8):Exit→St→Prop:=aV [.mv 0 2] fun x _=>x=(fun y=>(vS y)) r
def bP6:AC:=(.seq (.ops [.asg 4 (.c (.d (.s (bs []))))]) (.seq (.ops [.mv 5 1,.mv 6 0,.mv 7 1,.mv 8 1,.mv 9 1,.bin 10 .add 8 9,.call (some 11) 145 [6,7,10],.bin 12 .add 5 11,.mv 13 1,.bin 14 .add 12 13,.asg 4 14]) .ret))
theorem bM3:aY Tryz.prog 132=some (bP6,[.mv 0 4],15):=by kernel_rfl
def bY7 (r:List UInt8):Exit→St→Prop:=aV [.mv 0 4] fun x _=>x=(fun y=>(vS y)) r

def bV3:AC:=(.seq (.ops [.asg 2 (.c (.d (.s (bs []))))]) (.seq (.block 0 (.seq (.ops [.mv 4 0,.call (some 5) 76 [4],.not 6 5,.asg 3 6]) (.cond 3 (.seq (.ops [.asg 2 (.c (.d (.s (bs []))))]) .ret) (.seq (.ops [.mv 8 0,.call (some 9) 117 [8],.asg 7 9]) (.cond 7 (.seq (.ops [.mv 10 0,.asg 2 10]) .ret) .skip))))) (.seq (.ops [.mv 11 0,.call (some 12) 132 [11,(.c (.d (.s (bs [34]))))],.asg 2 12]) .ret)))
theorem bFy:aY Tryz.prog 115=some (bV3,[.mv 0 2],13):=by kernel_rfl
def cA6 (r:List UInt8):Exit→St→Prop:=aV [.mv 0 2] fun x _=>x=(fun y=>(vS y)) r
def bH1:AC:=(.seq (.ops [.asg 2 (kI 0)]) (.seq (.ops [.mv 3 0,.nck 4 3,.fa 5 1 4,.ld 6 1 false 5,.len 7 6,.asg 2 7]) .ret))
theorem bAg:aY Tryz.prog 83=some (bH1,[.mv 0 2],8):=by kernel_rfl
def cAm (c0_1:List Int) (r:Int):Exit→St→Prop:=aV [.mv 0 2] fun x b=>x=(fun (y:Int)=>(vI y)) r∧dI ((fun (y:Int)=>[(1000000,[(.bp 1000000 108),(.osl 6000001 5 1 (c0_1.map cU8))])]) r) b
set_option maxHeartbeats 2000000 in
set_option maxRecDepth 100000 in
theorem bNu : ∀ (b g cap : Nat) (cur : Array Value) (s : List UInt8) (w : World), w.cell? ⟨b, 1, none⟩ = some (.slice (some ⟨g, 0, none⟩) s.length cap) → s ≠ [] → s.length ≤ cap → cap ≤ maxLen → cur.size = cap * 1 →
    w.heap[g]?=some (.cells cur 5 (0,0))→(∀ j x,s[j]?=some x→w.cell? ((⟨g,0,none⟩:Addr).add j)=some (.int .u8 x.toNat)) →
    Calls Tryz.prog 84 #[.pointer (some ⟨b,0,none⟩)] w fun e w'=>e=.returned (.string ⟨s.toArray⟩)∧w'=w.drew.freeze ⟨g,0,none⟩ s.length:=by
  intro b g cap cur s w c0 h0 hnc hcm hcs hg hcell
  have hl0:s.length≠0:=by simpa using h0
  have c1:w.drew.cell? ⟨b,1,none⟩=some (.slice (some ⟨g,0,none⟩) s.length cap):=c0
  have hSD:(Builtin.unsafeSliceData_ #[22] 134 #[.slice (some ⟨g,0,none⟩) s.length cap]).run Tryz.prog w.drew=.ok (.pointer (some ⟨g,0,none⟩)) w.drew :=
    Lib.run_unsafeSliceData_row _ _ _ _ _ _ (by omega)
  have hUS:(Builtin.unsafeString_ #[134,3] 9 #[.pointer (some ⟨g,0,none⟩),.int .i64 s.length]).run Tryz.prog w.drew=.ok (.string ⟨s.toArray⟩) (w.drew.freeze ⟨g,0,none⟩ s.length):=by
    refine Lib.run_unsafeString_row w.drew 134 3 9 5 (show Tryz.prog.underlying 134=some (.pointer 5) by kernel_rfl) (show Tryz.prog.cellsOf 5=1 by kernel_rfl) g cur.size (by have hg':w.drew.heap[g]?=some (.cells cur 5 (0,0)):=hg; simp [World.shape?,hg']) s h0 (by omega) (by unfold maxLen at hcm; omega) ?_
    intro j x hx
    exact hcell j x hx
  go_enter Tryz.func84,Tryz.ntmps84
  go_wp2
  go_region
  all_goals (go_wp2; go_ret; exact ⟨rfl,rfl⟩)
set_option maxHeartbeats 2000000 in
set_option maxRecDepth 100000 in
theorem bN4:∀ (b:Nat) (w:World),w.cell? ⟨b,1,none⟩=some (.slice none 0 0)→Calls Tryz.prog 84 #[.pointer (some ⟨b,0,none⟩)] w fun e w'=>e=.returned (.string ⟨#[]⟩)∧w'=w.drew:=by
  intro b w c0
  have hUS:∀ (W:World) (q:Option Addr),(Builtin.unsafeString_ #[134,3] 9 #[.pointer q,.int .i64 0]).run Tryz.prog W=.ok (.string .empty) W:=fun W q=>Lib.run_unsafeString_none W _ _ _ q
  have c1:w.drew.cell? ⟨b,1,none⟩=some (.slice none 0 0):=c0
  have hSD:(Builtin.unsafeSliceData_ #[22] 134 #[.slice none 0 0]).run Tryz.prog w.drew=.ok (.pointer none) w.drew:=rfl
  go_enter Tryz.func84,Tryz.ntmps84
  go_wp2
  go_region
  all_goals (go_wp2; go_ret; exact ⟨rfl,rfl⟩)
set_option maxHeartbeats 2000000 in
set_option maxRecDepth 100000 in
theorem bJz : ∀ (b g : Nat) (cur : Array Value) (w : World), w.cell? ⟨b, 1, none⟩ = some (.slice (some ⟨g, 0, none⟩) 0 0) → b < w.heap.size → w.heap[g]? = some (.cells cur 5 (0, 0)) →
    Calls Tryz.prog 84 #[.pointer (some ⟨b,0,none⟩)] w fun e' w'=>e'=.returned (.string ⟨#[]⟩)∧w'=w.drew.alloc (.view ⟨g,0,none⟩ 5):=by
  intro b g cur w c0 hlt hg
  have hUS:∀ (W:World) (q:Option Addr),(Builtin.unsafeString_ #[134,3] 9 #[.pointer q,.int .i64 0]).run Tryz.prog W=.ok (.string .empty) W:=fun W q=>Lib.run_unsafeString_none W _ _ _ q
  have c1:w.drew.cell? ⟨b,1,none⟩=some (.slice (some ⟨g,0,none⟩) 0 0):=c0
  have hSD:(Builtin.unsafeSliceData_ #[22] 134 #[.slice (some ⟨g,0,none⟩) 0 0]).run Tryz.prog w.drew=.ok (.pointer (some ⟨w.drew.heap.size,0,none⟩)) (w.drew.alloc (.view ⟨g,0,none⟩ 5)) :=
    Lib.run_unsafeSliceData_zero w.drew _ _ 5 (show Tryz.prog.underlying 134=some (.pointer 5) by kernel_rfl) ⟨g,0,none⟩ 0 (5,cur.size) (by have hg':w.drew.heap[g]?=some (.cells cur 5 (0,0)):=hg; simp [World.shape?,hg'])
  have c2:(w.drew.alloc (.view ⟨g,0,none⟩ 5)).cell? ⟨b,1,none⟩=some (.slice (some ⟨g,0,none⟩) 0 0) :=
    (World.cell?_of_block (a:=⟨b,1,none⟩) (RowKit.Below.heap_alloc w.drew _ b hlt)).trans c1
  have c3:(w.alloc (.view ⟨g,0,none⟩ 5)).drew.cell? ⟨b,1,none⟩=some (.slice (some ⟨g,0,none⟩) 0 0):=c2
  go_enter Tryz.func84,Tryz.ntmps84
  go_wp2
  go_region
  all_goals (go_wp2; go_ret; exact ⟨rfl,rfl⟩)
set_option maxHeartbeats 2000000 in
set_option maxRecDepth 100000 in
theorem bEb:∀ (b g cap:Nat) (w:World),cap≠0→w.cell? ⟨b,1,none⟩=some (.slice (some ⟨g,0,none⟩) 0 cap)→Calls Tryz.prog 84 #[.pointer (some ⟨b,0,none⟩)] w fun e w'=>e=.returned (.string ⟨#[]⟩)∧w'=w.drew:=by
  intro b g cap w hc0 c0
  have hUS:∀ (W:World) (q:Option Addr),(Builtin.unsafeString_ #[134,3] 9 #[.pointer q,.int .i64 0]).run Tryz.prog W=.ok (.string .empty) W:=fun W q=>Lib.run_unsafeString_none W _ _ _ q
  have c1:w.drew.cell? ⟨b,1,none⟩=some (.slice (some ⟨g,0,none⟩) 0 cap):=c0
  have hSD:(Builtin.unsafeSliceData_ #[22] 134 #[.slice (some ⟨g,0,none⟩) 0 cap]).run Tryz.prog w.drew=.ok (.pointer (some ⟨g,0,none⟩)) w.drew :=
    Lib.run_unsafeSliceData_row _ _ _ _ _ _ hc0
  clear hc0
  go_enter Tryz.func84,Tryz.ntmps84
  go_wp2
  go_region
  all_goals (go_wp2; go_ret; exact ⟨rfl,rfl⟩)
def aNa:AC:=(.loop (.seq (.ops [.bin 9 .lss 8 7]) (.seq (.cond 9 .skip (.exit 0)) (.seq (.block 1 (.seq (.ops [.mv 10 8,.ia 11 2 6 8,.ld 12 2 true 11,.alc 4 [dJ,(.nil 2)],.asg 3 10,.st 2 4 12]) (.seq (.ops [.ld 13 2 true 4,.call (some 14) 44 [13],.not 15 14,.mv 16 15,.g 16 false (.ld 17 1 true 1),.g 16 false (.fa 18 0 4),.g 16 false (.ld 19 1 false 18),.g 16 false (.call (some 20) 45 [17,19]),.g 16 false (.mv 21 3),.g 16 false (.bin 22 .neq 20 21),.pick 23 16 (kB true) 22]) (.cond 23 (.seq (.ops [.asg 2 (kB false)]) .ret) .skip)))) (.ops [.bin 24 .add 8 (kI 1),.mv 8 24])))))
def aZm:AC:=(.seq (.ops [.fa 25 0 1,.ld 26 1 false 25,.len 27 26,.bin 28 .leq 27 (kI 4),.asg 2 28]) .ret)
def bI5:AC:=(.seq (.ops [.box 1 26 0,.asg 2 (kB false)]) (.seq (.seq (.ops [.fa 5 0 1,.ld 6 1 false 5,.len 7 6,.mv 8 (kI 0)]) (.block 0 aNa)) aZm))
theorem bHb:aY Tryz.prog 15=some (bI5,[.mv 0 2],29):=by kernel_rfl
def aQh (r:Bool):Exit→St→Prop:=aV [.mv 0 2] fun x _=>x=(fun y=>(vB y)) r
def bXa (r:Bool):Exit→St→Prop:=(bG (wkK (avc Tryz.prog aZm (aQh r))) (aQh r))
def bHp (r:Bool):Exit→St→Prop:=(bI 0 (bXa r))
def bV4 (p0:aR) (x8:Int):St:=⟨[(1,(.ptr 1 0)),(6,(oQ p0.tables)),(7,(vI (p0.tables.length:Int))),(8,(vI x8))],[(1,jN p0)]⟩
abbrev aEj:=fun p0 x8 r=>avc Tryz.prog aNa (bHp r) (bV4 p0 x8)
def aMk:AC:=(.loop (.seq (.ops [.bin 9 .lss 8 7]) (.seq (.cond 9 .skip (.exit 0)) (.seq (.block 1 (.seq (.ops [.mv 10 8,.ia 11 2 6 8,.ld 12 2 true 11,.alc 4 [dJ,bO],.asg 3 10,.st 2 4 12]) (.seq (.ops [.fa 13 0 4,.ld 14 1 false 13,.call (some 15) 76 [14],.not 16 15,.mv 17 16,.g 17 false (.fa 18 1 4),.g 17 false (.ld 19 1 false 18),.g 17 false (.bin 20 .lss 19 (kI 1)),.pick 21 17 (kB true) 20,.mv 22 21,.g 22 false (.fa 23 1 4),.g 22 false (.ld 24 1 false 23),.g 22 false (.bin 25 .gtr 24 (kI 3)),.pick 26 22 (kB true) 25,.mv 27 26,.g 27 false (.ld 28 2 true 1),.g 27 false (.fa 29 0 4),.g 27 false (.ld 30 1 false 29),.g 27 false (.call (some 31) 77 [28,30]),.g 27 false (.mv 32 3),.g 27 false (.bin 33 .neq 31 32),.pick 34 27 (kB true) 33]) (.cond 34 (.seq (.ops [.asg 2 (kB false)]) .ret) .skip)))) (.ops [.bin 35 .add 8 (kI 1),.mv 8 35])))))
def aUe:AC:=(.seq (.ops [.fa 36 0 1,.ld 37 1 false 36,.call (some 38) 76 [37],.mv 39 38,.g 39 true (.fa 40 1 1),.g 39 true (.ld 41 1 false 40),.g 39 true (.len 42 41),.g 39 true (.bin 43 .geq 42 (kI 1)),.pick 44 39 43 (kB false),.mv 45 44,.g 45 true (.fa 46 1 1),.g 45 true (.ld 47 1 false 46),.g 45 true (.len 48 47),.g 45 true (.bin 49 .leq 48 (kI 4)),.pick 50 45 49 (kB false),.asg 2 50]) .ret)
def bLv:AC:=(.seq (.ops [.box 1 49 0,.asg 2 (kB false)]) (.seq (.seq (.ops [.fa 5 1 1,.ld 6 1 false 5,.len 7 6,.mv 8 (kI 0)]) (.block 0 aMk)) aUe))
theorem bEs:aY Tryz.prog 44=some (bLv,[.mv 0 2],51):=by kernel_rfl
def aTy (r:Bool):Exit→St→Prop:=aV [.mv 0 2] fun x _=>x=(fun y=>(vB y)) r
def bKk (r:Bool):Exit→St→Prop:=(bG (wkK (avc Tryz.prog aUe (aTy r))) (aTy r))
def bXc (r:Bool):Exit→St→Prop:=(bI 0 (bKk r))
def bR8 (p0:aQ) (x8:Int):St:=⟨[(1,(.ptr 1 0)),(6,(uF p0.cols)),(7,(vI (p0.cols.length:Int))),(8,(vI x8))],[(1,zA p0)]⟩
abbrev aCr:=fun p0 x8 r=>avc Tryz.prog aMk (bXc r) (bR8 p0 x8)
def bAh:AC:=(.seq (.ops [.box 2 49 0,.box 3 9 1,.asg 4 (kI 0)]) (.seq (.ops [.fa 5 1 2,.ld 6 1 false 5,.mkf 7 111 [3],.call (some 8) 110 [6,7],.asg 4 8]) .ret))
theorem bM7:aY Tryz.prog 77=some (bAh,[.mv 0 4],9):=by kernel_rfl
def cA4 (r:Int):Exit→St→Prop:=aV [.mv 0 4] fun x _=>x=(fun y=>(vI y)) r
def aJn:AC:=(.loop (.seq (.ops [.bin 9 .lss 8 7]) (.seq (.cond 9 .skip (.exit 0)) (.seq (.block 1 (.seq (.ops [.mv 10 8,.asg 5 10]) (.seq (.ops [.mv 11 1,.mv 12 0,.mv 13 5,.ia 14 2 12 13,.ld 15 2 true 14,.callv (some 16) 11 [15]]) (.cond 16 (.seq (.ops [.mv 17 5,.asg 4 17]) .ret) .skip)))) (.ops [.bin 18 .add 8 (kI 1),.mv 8 18])))))
def aXo:AC:=(.seq (.ops [.asg 4 (kI (-1))]) .ret)
def bDl:AC:=(.seq (.ops [.asg 4 (kI 0)]) (.seq (.seq (.ops [.mv 6 0,.len 7 6,.mv 8 (kI 0)]) (.block 0 aJn)) aXo))
theorem bM1:aY Tryz.prog 110=some (bDl,[.mv 0 4],19):=by kernel_rfl
def aT7 (c0_0:List UInt8) (r:Int):Exit→St→Prop:=aV [.mv 0 4] fun x b=>x=(fun (y:Int)=>(vI y)) r∧dI ((fun (y:Int)=>[(1000000,[(vS c0_0)])]) r) b
def bVn (c0_0:List UInt8) (r:Int):Exit→St→Prop:=(bG (wkK (avc Tryz.prog aXo (aT7 c0_0 r))) (aT7 c0_0 r))
def bIv (c0_0:List UInt8) (r:Int):Exit→St→Prop:=(bI 0 (bVn c0_0 r))
def bLi (p0:List aZ) (c0_0:List UInt8) (x8:Int):St:=⟨[(0,(uF p0)),(1,(.fn 111 [(.ptr 1000000 0)])),(7,(vI (p0.length:Int))),(8,(vI x8))],[(1000000,[(vS c0_0)])]⟩
abbrev aDx:=fun p0 c0_0 x8 r=>avc Tryz.prog aJn (bIv c0_0 r) (bLi p0 c0_0 x8)
def bF8:AC:=(.seq (.ops [.box 2 53 0,.asg 3 (kB false)]) (.seq (.ops [.fa 4 0 2,.ld 5 1 false 4,.ld 6 1 false 1,.bin 7 .eql 5 6,.asg 3 7]) .ret))
theorem bTg:aY Tryz.prog 111=some (bF8,[.mv 0 3],8):=by kernel_rfl
def bZh (c0_0:List UInt8) (r:Bool):Exit→St→Prop:=aV [.mv 0 3] fun x b=>x=(fun (y:Bool)=>(vB y)) r∧dI ((fun (y:Bool)=>[(1000000,[(vS c0_0)])]) r) b
def bHd:AC:=(.seq (.ops [.box 2 26 0,.box 3 9 1,.asg 4 (kI 0)]) (.seq (.ops [.fa 5 0 2,.ld 6 1 false 5,.mkf 7 79 [3],.call (some 8) 78 [6,7],.asg 4 8]) .ret))
theorem bT5:aY Tryz.prog 45=some (bHd,[.mv 0 4],9):=by kernel_rfl
def bYl (r:Int):Exit→St→Prop:=aV [.mv 0 4] fun x _=>x=(fun y=>(vI y)) r
def aL8:AC:=(.loop (.seq (.ops [.bin 9 .lss 8 7]) (.seq (.cond 9 .skip (.exit 0)) (.seq (.block 1 (.seq (.ops [.mv 10 8,.asg 5 10]) (.seq (.ops [.mv 11 1,.mv 12 0,.mv 13 5,.ia 14 2 12 13,.ld 15 2 true 14,.callv (some 16) 11 [15]]) (.cond 16 (.seq (.ops [.mv 17 5,.asg 4 17]) .ret) .skip)))) (.ops [.bin 18 .add 8 (kI 1),.mv 8 18])))))
def aUk:AC:=(.seq (.ops [.asg 4 (kI (-1))]) .ret)
def bOw:AC:=(.seq (.ops [.asg 4 (kI 0)]) (.seq (.seq (.ops [.mv 6 0,.len 7 6,.mv 8 (kI 0)]) (.block 0 aL8)) aUk))
theorem bO4:aY Tryz.prog 78=some (bOw,[.mv 0 4],19):=by kernel_rfl
def aVi (c0_0:List UInt8) (r:Int):Exit→St→Prop:=aV [.mv 0 4] fun x b=>x=(fun (y:Int)=>(vI y)) r∧dI ((fun (y:Int)=>[(1000000,[(vS c0_0)])]) r) b
def bMr (c0_0:List UInt8) (r:Int):Exit→St→Prop:=(bG (wkK (avc Tryz.prog aUk (aVi c0_0 r))) (aVi c0_0 r))
def bSo (c0_0:List UInt8) (r:Int):Exit→St→Prop:=(bI 0 (bMr c0_0 r))
def bD1 (p0:List aQ) (c0_0:List UInt8) (x8:Int):St:=⟨[(0,(oQ p0)),(1,(.fn 79 [(.ptr 1000000 0)])),(7,(vI (p0.length:Int))),(8,(vI x8))],[(1000000,[(vS c0_0)])]⟩
abbrev aCi:=fun p0 c0_0 x8 r=>avc Tryz.prog aL8 (bSo c0_0 r) (bD1 p0 c0_0 x8)
def bVu:AC:=(.seq (.ops [.box 2 49 0,.asg 3 (kB false)]) (.seq (.ops [.fa 4 0 2,.ld 5 1 false 4,.ld 6 1 false 1,.bin 7 .eql 5 6,.asg 3 7]) .ret))
theorem bTy:aY Tryz.prog 79=some (bVu,[.mv 0 3],8):=by kernel_rfl
def cBm (c0_0:List UInt8) (r:Bool):Exit→St→Prop:=aV [.mv 0 3] fun x b=>x=(fun (y:Bool)=>(vB y)) r∧dI ((fun (y:Bool)=>[(1000000,[(vS c0_0)])]) r) b
def aMa:AC:=(.loop (.seq (.seq (.ops [.mv 8 4,.mv 9 0,.len 10 9,.bin 11 .lss 8 10,.mv 12 11,.g 12 true (.mv 13 4),.g 12 true (.bin 14 .lss 13 (kI 4000)),.pick 15 12 14 (kB false)]) (.cond 15 .skip (.exit 0))) (.seq (.block 1 (.ops [.mv 18 3,.bin 19 .mul 18 (kI 131),.mv 20 0,.mv 21 4,.ia 22 1 20 21,.ld 23 1 false 22,.cvi 24 .i64 23,.bin 25 .add 19 24,.bin 26 .add 25 (kI 7),.bin 27 .and 26 (kI 1073741823),.asg 3 27])) (.ops [.mv 16 4,.bin 17 .add 16 (kI 1),.asg 4 17]))))
def aUu:AC:=(.seq (.ops [.mv 28 0,.mv 29 3,.bld 30 [(.nil 1),bO,bO] [(0,1,28),(2,1,29)],.box 31 74 30,.asg 2 31]) .ret)
def bF2:AC:=(.seq (.ops [.asg 2 (.c .np)]) (.seq (.ops [.mv 5 0,.len 6 5,.bin 7 .add (kI 28322) 6,.asg 3 7]) (.seq (.seq (.ops [.asg 4 (kI 0)]) (.block 0 aMa)) aUu)))
theorem bM5:aY Tryz.prog 14=some (bF2,[.mv 0 2],32):=by kernel_rfl
def aXf (r:aB):Exit→St→Prop:=aV [.mv 0 2] fun x b=>x=(fun (y:aB)=>(.ptr 31 0)) r∧dI ((fun (y:aB)=>[(31,bU y)]) r) b
def bRq (r:aB):Exit→St→Prop:=(bG (wkK (avc Tryz.prog aUu (aXf r))) (aXf r))
def bX9 (r:aB):Exit→St→Prop:=(bI 0 (bRq r))
def bVb (p0:List Int) (x3:Int) (x4:Int):St:=⟨[(0,(vE p0)),(3,(vI x3)),(4,(vI x4))],[]⟩
abbrev aDh:=fun p0 x3 x4 r=>avc Tryz.prog aMa (bX9 r) (bVb p0 x3 x4)
def aJf:AC:=(.dops [[],[0],[],[2],[3],[1,4,3],[0,1,2,3,4,5],[6,5,5,0,1,2,3,4,5]] [.fa 42 0 7,.ld 43 1 false 42,.mv 44 6,.call (some 45) 35 [44],.bsl 46 49 2 [45],.app 47 49 2 40 43 46,.fa 48 0 7,.st 1 48 47])
def aD0:AC:=(.loop (.seq (.seq (.ops [.mv 20 6,.nck 21 20,.fa 22 2 21,.ld 23 1 false 22,.not 24 23,.mv 25 24,.g 25 true (.mv 26 6),.g 25 true (.nck 27 26),.g 25 true (.fa 28 1 27),.g 25 true (.ld 29 1 false 28),.g 25 true (.mv 30 4),.g 25 true (.len 31 30),.g 25 true (.bin 32 .lss 29 31),.pick 33 25 32 (kB false)]) (.cond 33 .skip (.exit 0))) (.block 1 (.seq (.seq (.ops [.fa 34 0 7,.ld 35 1 false 34,.len 36 35,.bin 37 .gtr 36 (kI 0)]) (.cond 37 (.ops [.mv 38 6,.mv 39 6,.call (some 40) 34 [39,(.c (.d (.s (bs [44]))))],.call (some 41) 33 [38,40]]) .skip)) aJf))))
def aVy:AC:=(.seq (.seq (.ops [.mv 49 6,.nck 50 49,.fa 51 2 50,.ld 52 1 false 51,.mv 53 52,.g 53 false (.ld 54 1 true 7),.g 53 false (.call (some 55) 8 [54]),.g 53 false (.not 56 55),.pick 57 53 (kB true) 56,.mv 58 57,.g 58 false (.ld 59 1 true 7),.g 58 false (.call (some 60) 28 [59]),.g 58 false (.mv 61 4),.g 58 false (.call (some 62) 36 [60,61]),.g 58 false (.not 63 62),.pick 64 58 (kB true) 63]) (.cond 64 (.seq (.ops [.bld 65 [(.nil 2)] [],.st 1 2 65,.asg 3 (kB false)]) .ret) .skip)) (.seq (.ops [.ld 66 1 true 7,.st 1 2 66,.asg 3 (kB true)]) .ret))
def bL0:AC:=(.seq (.ops [.alc 2 [(.nil 2)],.asg 3 (kB false)]) (.seq (.ops [.mv 9 0,.call (some 10) 32 [9],.mv 8 10,.ext 11 8 0,.ext 12 8 1,.asg 4 11,.asg 5 12]) (.seq (.seq (.ops [.mv 13 5,.bin 14 .geq 13 (kI 0)]) (.cond 14 (.seq (.ops [.bld 15 [(.nil 2)] [],.st 1 2 15,.asg 3 (kB false)]) .ret) .skip)) (.seq (.ops [.mv 16 4,.bld 17 [(.nil 3),bO,aOf] [(0,1,16)],.box 18 64 17,.asg 6 18]) (.seq (.ops [.bld 19 [(.nil 2)] [],.alc 7 [(.nil 2)],.st 1 7 19]) (.seq (.block 0 aD0) aVy))))))
theorem bHe:aY Tryz.prog 10=some (bL0,[.ld 0 1 true 2,.mv 0 3],67):=by kernel_rfl
def aUj (r:aR×Bool):Exit→St→Prop:=aV [.ld 0 1 true 2,.mv 0 3] fun x _=>x=(fun y=>(.tup [(iY y.1),(vB y.2)])) r
def bCd (r:aR×Bool):Exit→St→Prop:=(bG (wkK (avc Tryz.prog aVy (aUj r))) (aUj r))
def aGp (r:aR×Bool):Exit→St→Prop:=(bI 0 (bCd r))
def bIs (r:aR×Bool):Exit→St→Prop:=(bG (avc Tryz.prog aD0 (aGp r)) (aGp r))
def bWr (r:aR×Bool):Exit→St→Prop:=(bI 1 (bIs r))
def bOo (x4:List aA) (dZ:List aQ) (kR:List aA) (jY:Int) (jF:Bool):St:=⟨[(2,(.ptr 2 0)),(4,(eD x4)),(6,(.ptr 18 0)),(7,(.ptr 7 0))],[(2,[(.nil 2)]),(7,[(.osl 47 49 2 (dZ.map bX))]),(18,[(.osl 4 85 3 (kR.map aJ)),(vI jY),(vB jF)])]⟩
abbrev aDo:=fun x4 dZ kR jY jF r=>avc Tryz.prog aD0 (aGp r) (bOo x4 dZ kR jY jF)
def bGq (dZ:List aQ) (jK:List aA) (mH:List aA) (mG:Int) (lK:Bool):St:=⟨[(2,(.ptr 2 0)),(4,(eD jK)),(6,(.ptr 18 0)),(7,(.ptr 7 0))],[(2,[(.nil 2)]),(7,[(.osl 47 49 2 (dZ.map bX))]),(18,[(.osl 4 85 3 (mH.map aJ)),(vI mG),(vB lK)])]⟩
abbrev aBv:=fun dZ jK mH mG lK r=>avc Tryz.prog aJf (bWr r) (bGq dZ jK mH mG lK)
def aJq:AC:=(.loop (.block 1 (.seq (.ops [.mv 13 0,.mv 14 5,.call (some 15) 66 [13,14],.asg 5 15]) (.seq (.seq (.ops [.mv 16 5,.bin 17 .lss 16 (kI 0)]) (.cond 17 (.seq (.ops [.bsl 18 85 3 [],.mv 19 5,.neg 20 19,.bin 21 .sub 20 (kI 1),.asg 2 18,.asg 3 21]) .ret) .skip)) (.seq (.seq (.ops [.mv 22 5,.mv 23 0,.lns 24 23,.bin 25 .geq 22 24]) (.cond 25 (.seq (.ops [.mv 26 4,.asg 2 26,.asg 3 (kI (-1))]) .ret) .skip)) (.seq (.ops [.mv 28 0,.mv 29 5,.call (some 30) 67 [28,29],.mv 27 30,.ext 31 27 0,.ext 32 27 1,.alc 6 [bO,dJ,bO],.st 3 6 31,.asg 7 32]) (.seq (.seq (.ops [.mv 33 7,.bin 34 .lss 33 (kI 0)]) (.cond 34 (.seq (.ops [.bsl 35 85 3 [],.mv 36 5,.asg 2 35,.asg 3 36]) .ret) .skip)) (.seq (.ops [.mv 37 4,.ld 38 3 true 6,.bsl 39 85 3 [38],.app 40 85 3 32 37 39,.asg 4 40]) (.ops [.mv 41 7,.asg 5 41])))))))))
def bDx:AC:=(.seq (.ops [.asg 2 (.c (.nil 3)),.asg 3 (kI 0)]) (.seq (.ops [.bsl 8 85 3 [],.asg 4 8]) (.seq (.seq (.ops [.mv 9 0,.lns 10 9,.bin 11 .gtr 10 (kI 2000)]) (.cond 11 (.seq (.ops [.mv 12 4,.asg 2 12,.asg 3 (kI 2000)]) .ret) .skip)) (.seq (.ops [.asg 5 (kI 0)]) (.block 0 aJq)))))
theorem bSe:aY Tryz.prog 32=some (bDx,[.mv 0 2,.mv 0 3],42):=by kernel_rfl
def bJf (r:(List aA)×Int):Exit→St→Prop:=aV [.mv 0 2,.mv 0 3] fun x b=>x=(fun (y:(List aA)×Int)=>(.tup [(.osl 2000000 85 3 (y.1.map aJ)),(vI y.2)])) r∧dI ((fun (y:(List aA)×Int)=>[]) r) b
def bQq (r:(List aA)×Int):Exit→St→Prop:=(bI 0 (bJf r))
def bBg (p0:List UInt8) (x4:List aA) (x5:Int):St:=⟨[(0,(vS p0)),(4,(.osl 4 85 3 (x4.map aJ))),(5,(vI x5))],[]⟩
abbrev aC6:=fun p0 x4 x5 r=>avc Tryz.prog aJq (bQq r) (bBg p0 x4 x5)
def aMp:AC:=(.loop (.seq (.seq (.ops [.mv 48 1,.mv 49 0,.lns 50 49,.bin 51 .lss 48 50,.mv 52 51,.g 52 true (.mv 53 0),.g 52 true (.mv 54 1),.g 52 true (.ix 55 53 54),.g 52 true (.bin 56 .neq 55 (.c (.d (.i .u8 10)))),.pick 57 52 56 (kB false)]) (.cond 57 .skip (.exit 3))) (.block 4 (.ops [.mv 58 1,.bin 59 .add 58 (kI 1),.asg 1 59]))))
def aHb:AC:=(.loop (.seq (.seq (.ops [.mv 65 6,.mv 66 0,.lns 67 66,.bin 68 .lss 65 67,.mv 69 68,.g 69 true (.mv 70 0),.g 69 true (.mv 71 6),.g 69 true (.mv 72 0),.g 69 true (.lns 73 72),.g 69 true (.mv 74 6),.g 69 true (.bin 75 .add 74 (kI 2)),.g 69 true (.call (some 76) 101 [73,75]),.g 69 true (.sls 77 70 (some 71) (some 76)),.g 69 true (.bin 78 .neq 77 (.c (.d (.s (bs [42,47]))))),.pick 79 69 78 (kB false)]) (.cond 79 .skip (.exit 5))) (.block 6 (.ops [.mv 80 6,.bin 81 .add 80 (kI 1),.asg 6 81]))))
def aQ7:AC:=(.seq (.seq (.ops [.mv 82 6,.mv 83 0,.lns 84 83,.bin 85 .geq 82 84]) (.cond 85 (.seq (.ops [.mv 86 1,.neg 87 86,.bin 88 .sub 87 (kI 1),.asg 4 88]) .ret) .skip)) (.ops [.mv 89 6,.bin 90 .add 89 (kI 2),.asg 1 90]))
def aG2:AC:=(.loop (.seq (.seq (.ops [.mv 7 1,.mv 8 0,.lns 9 8,.bin 10 .lss 7 9]) (.cond 10 .skip (.exit 0))) (.block 1 (.seq (.ops [.mv 11 0,.mv 12 1,.mv 13 0,.lns 14 13,.mv 15 1,.bin 16 .add 15 (kI 2),.call (some 17) 101 [14,16],.sls 18 11 (some 12) (some 17),.asg 5 18]) (.block 2 (.seq (.ops [.mv 21 0,.mv 22 1,.ix 23 21 22,.bin 24 .eql 23 (.c (.d (.i .u8 32))),.mv 25 24,.g 25 false (.mv 26 0),.g 25 false (.mv 27 1),.g 25 false (.ix 28 26 27),.g 25 false (.bin 29 .eql 28 (.c (.d (.i .u8 9)))),.pick 30 25 (kB true) 29,.mv 31 30,.g 31 false (.mv 32 0),.g 31 false (.mv 33 1),.g 31 false (.ix 34 32 33),.g 31 false (.bin 35 .eql 34 (.c (.d (.i .u8 10)))),.pick 36 31 (kB true) 35,.mv 37 36,.g 37 false (.mv 38 0),.g 37 false (.mv 39 1),.g 37 false (.ix 40 38 39),.g 37 false (.bin 41 .eql 40 (.c (.d (.i .u8 13)))),.pick 42 37 (kB true) 41,.asg 20 42]) (.cond 20 (.ops [.mv 43 1,.bin 44 .add 43 (kI 1),.asg 1 44]) (.seq (.ops [.mv 46 5,.bin 47 .eql 46 (.c (.d (.s (bs [45,45])))),.asg 45 47]) (.cond 45 (.block 3 aMp) (.seq (.ops [.mv 61 5,.bin 62 .eql 61 (.c (.d (.s (bs [47,42])))),.asg 60 62]) (.cond 60 (.seq (.ops [.mv 63 1,.bin 64 .add 63 (kI 2),.asg 6 64]) (.seq (.block 5 aHb) aQ7)) (.seq (.ops [.mv 19 1,.asg 4 19]) .ret))))))))))))
def aU8:AC:=(.seq (.ops [.mv 91 1,.asg 4 91]) .ret)
def bPe:AC:=(.seq (.ops [.asg 4 (kI 0)]) (.seq (.block 0 aG2) aU8))
theorem bTu:aY Tryz.prog 66=some (bPe,[.mv 0 4],92):=by kernel_rfl
def aP6 (r:Int):Exit→St→Prop:=aV [.mv 0 4] fun x _=>x=(fun y=>(vI y)) r
def bAz (r:Int):Exit→St→Prop:=(bG (wkK (avc Tryz.prog aU8 (aP6 r))) (aP6 r))
def aIw (r:Int):Exit→St→Prop:=(bI 0 (bAz r))
def bQd (r:Int):Exit→St→Prop:=(bG (avc Tryz.prog aG2 (aIw r)) (aIw r))
def bGt (r:Int):Exit→St→Prop:=(bI 1 (bQd r))
def aN5 (r:Int):Exit→St→Prop:=(bI 2 (bGt r))
def bJr (r:Int):Exit→St→Prop:=(bI 3 (aN5 r))
def bPf (r:Int):Exit→St→Prop:=(bG (wkK (avc Tryz.prog aQ7 (aN5 r))) (aN5 r))
def bUe (r:Int):Exit→St→Prop:=(bI 5 (bPf r))
def aZi (p0:List UInt8) (x1:Int):St:=⟨[(0,(vS p0)),(1,(vI x1))],[]⟩
abbrev aFw:=fun p0 x1 r=>avc Tryz.prog aG2 (aIw r) (aZi p0 x1)
def bW2 (p0:List UInt8) (iZ:Int):St:=⟨[(0,(vS p0)),(1,(vI iZ))],[]⟩
abbrev aBz:=fun p0 iZ r=>avc Tryz.prog aMp (bJr r) (bW2 p0 iZ)
def bS1 (p0:List UInt8) (x1:Int) (x6:Int):St:=⟨[(0,(vS p0)),(1,(vI x1)),(6,(vI x6))],[]⟩
abbrev aEm:=fun p0 x1 x6 r=>avc Tryz.prog aHb (bUe r) (bS1 p0 x1 x6)
def bG6:AC:=(.seq (.ops [.asg 4 (kI 0)]) (.seq (.seq (.ops [.mv 5 0,.mv 6 1,.bin 7 .lss 5 6]) (.cond 7 (.seq (.ops [.mv 8 0,.asg 4 8]) .ret) .skip)) (.seq (.ops [.mv 9 1,.asg 4 9]) .ret)))
theorem bIb:aY Tryz.prog 101=some (bG6,[.mv 0 4],10):=by kernel_rfl
def bXr (r:Int):Exit→St→Prop:=aV [.mv 0 4] fun x _=>x=(fun y=>(vI y)) r
def aCv:AC:=(.seq (.seq (.ops [.mv 96 7,.bin 97 .lss 96 (kI 0),.mv 98 97,.g 98 false (.ld 99 3 true 6),.g 98 false (.call (some 100) 108 [99]),.g 98 false (.not 101 100),.pick 102 98 (kB true) 101]) (.cond 102 (.seq (.ops [.ld 103 3 true 6,.st 3 4 103,.asg 5 (kI (-1))]) .ret) .skip)) (.seq (.ops [.ld 104 3 true 6,.mv 105 7,.st 3 4 104,.asg 5 105]) .ret))
def aMe:AC:=(.ops [.mv 28 0,.mv 29 1,.mv 30 7,.sls 31 28 (some 29) (some 30),.fa 32 1 6,.st 1 32 31])
def bS5:AC:=(.seq (.ops [.alc 4 [bO,dJ,bO],.asg 5 (kI 0)]) (.seq (.ops [.mv 8 1,.bld 9 [bO,dJ,bO] [(2,1,8)],.alc 6 [bO,dJ,bO],.st 3 6 9]) (.seq (.ops [.mv 10 1,.bin 11 .add 10 (kI 1),.asg 7 11]) (.seq (.block 0 (.seq (.ops [.mv 34 0,.mv 35 1,.ix 36 34 35,.call (some 37) 102 [36],.asg 33 37]) (.cond 33 (.seq (.ops [.mv 38 0,.mv 39 1,.call (some 40) 103 [38,39],.asg 7 40]) (.seq (.ops [.fa 41 0 6,.st 1 41 (kI 2)]) (.seq (.ops [.mv 42 0,.mv 43 1,.mv 44 7,.sls 45 42 (some 43) (some 44),.fa 46 1 6,.st 1 46 45]) (.seq (.ops [.fa 47 1 6,.ld 48 1 false 47,.call (some 49) 104 [48],.bin 50 .gtr 49 (kI 0)]) (.cond 50 (.seq (.ops [.fa 51 0 6,.st 1 51 (kI 1)]) (.ops [.fa 52 1 6,.ld 53 1 false 52,.call (some 54) 65 [53],.fa 55 1 6,.st 1 55 54])) .skip))))) (.seq (.ops [.mv 57 0,.mv 58 1,.ix 59 57 58,.call (some 60) 105 [59],.asg 56 60]) (.cond 56 (.seq (.ops [.mv 61 0,.mv 62 1,.call (some 63) 103 [61,62],.asg 7 63]) (.seq (.ops [.fa 64 0 6,.st 1 64 (kI 3)]) (.ops [.mv 65 0,.mv 66 1,.mv 67 7,.sls 68 65 (some 66) (some 67),.fa 69 1 6,.st 1 69 68]))) (.seq (.ops [.mv 71 0,.mv 72 1,.ix 73 71 72,.bin 74 .eql 73 (.c (.d (.i .u8 34))),.asg 70 74]) (.cond 70 (.seq (.ops [.fa 75 0 6,.st 1 75 (kI 2)]) (.ops [.mv 77 0,.mv 78 1,.call (some 79) 106 [77,78],.mv 76 79,.ext 80 76 0,.ext 81 76 1,.fa 82 1 6,.st 1 82 80,.asg 7 81])) (.seq (.ops [.mv 84 0,.mv 85 1,.ix 86 84 85,.bin 87 .eql 86 (.c (.d (.i .u8 39))),.asg 83 87]) (.cond 83 (.seq (.ops [.fa 88 0 6,.st 1 88 (kI 4)]) (.ops [.mv 90 0,.mv 91 1,.call (some 92) 106 [90,91],.mv 89 92,.ext 93 89 0,.ext 94 89 1,.fa 95 1 6,.st 1 95 93,.asg 7 94])) (.seq (.ops [.fa 12 0 6,.st 1 12 (kI 5)]) (.seq (.seq (.ops [.mv 13 1,.bin 14 .add 13 (kI 2),.mv 15 0,.lns 16 15,.bin 17 .leq 14 16,.mv 18 17,.g 18 true (.mv 19 0),.g 18 true (.mv 20 1),.g 18 true (.mv 21 1),.g 18 true (.bin 22 .add 21 (kI 2)),.g 18 true (.sls 23 19 (some 20) (some 22)),.g 18 true (.call (some 24) 107 [23]),.pick 25 18 24 (kB false)]) (.cond 25 (.ops [.mv 26 1,.bin 27 .add 26 (kI 2),.asg 7 27]) .skip)) aMe))))))))))) aCv))))
theorem bW8:aY Tryz.prog 67=some (bS5,[.ld 0 3 true 4,.mv 0 5],106):=by kernel_rfl
def aH6 (r:aA×Int):Exit→St→Prop:=aV [.ld 0 3 true 4,.mv 0 5] fun x _=>x=(fun y=>(.tup [(fE y.1),(vI y.2)])) r
def bK5 (r:aA×Int):Exit→St→Prop:=(bG (wkK (avc Tryz.prog aCv (aH6 r))) (aH6 r))
def bTz (r:aA×Int):Exit→St→Prop:=(bI 0 (bK5 r))
def bEr (p1:Int) (x7:Int) (bL:Int) (jI:List UInt8):St:=⟨[(4,(.ptr 4 0)),(6,(.ptr 6 0)),(7,(vI x7))],[(4,[(vI 0),(vS []),(vI 0)]),(6,qG (aA.mk bL jI p1))]⟩
abbrev aYc:=fun p1 x7 bL jI r=>avc Tryz.prog aCv (aH6 r) (bEr p1 x7 bL jI)
def bLj (p0:List UInt8) (p1:Int) (rU:Int):St:=⟨[(0,(vS p0)),(1,(vI p1)),(4,(.ptr 4 0)),(6,(.ptr 6 0)),(7,(vI rU))],[(4,[(vI 0),(vS []),(vI 0)]),(6,qG (aA.mk 5 [] p1))]⟩
abbrev aQk:=fun p0 p1 rU r=>avc Tryz.prog aMe (bTz r) (bLj p0 p1 rU)
def aJw:AC:=(.ops [.mv 11 4,.bin 12 .add 11 (kI 1),.asg 4 12])
def aEq:AC:=(.loop (.seq (.seq (.ops [.mv 7 4,.mv 8 3,.len 9 8,.bin 10 .lss 7 9]) (.cond 10 .skip (.exit 0))) (.seq (.block 1 (.seq (.ops [.mv 13 3,.mv 14 4,.ia 15 1 13 14,.ld 16 1 false 15,.bin 17 .geq 16 (.c (.d (.i .u8 97))),.mv 18 17,.g 18 true (.mv 19 3),.g 18 true (.mv 20 4),.g 18 true (.ia 21 1 19 20),.g 18 true (.ld 22 1 false 21),.g 18 true (.bin 23 .leq 22 (.c (.d (.i .u8 122)))),.pick 24 18 23 (kB false)]) (.cond 24 (.ops [.mv 25 3,.mv 26 4,.mv 27 3,.mv 28 4,.ia 29 1 27 28,.ld 30 1 false 29,.bin 31 .sub 30 (.c (.d (.i .u8 32))),.ia 32 1 25 26,.st 1 32 31]) .skip))) aJw)))
def aCl:AC:=(.seq (.ops [.mv 33 3,.cbs 34 33,.asg 2 34]) .ret)
def bB3:AC:=(.seq (.ops [.asg 2 (.c (.d (.s (bs []))))]) (.seq (.ops [.mv 5 0,.csb 6 5 5,.asg 3 6]) (.seq (.seq (.ops [.asg 4 (kI 0)]) (.block 0 aEq)) aCl)))
theorem bPn:aY Tryz.prog 65=some (bB3,[.mv 0 2],35):=by kernel_rfl
def aHt (r:List UInt8):Exit→St→Prop:=aV [.mv 0 2] fun x _=>x=(fun y=>(vS y)) r
def bOk (r:List UInt8):Exit→St→Prop:=(bG (wkK (avc Tryz.prog aCl (aHt r))) (aHt r))
def aHh (r:List UInt8):Exit→St→Prop:=(bI 0 (bOk r))
def bN6 (r:List UInt8):Exit→St→Prop:=(bG (avc Tryz.prog aEq (aHh r)) (aHh r))
def bN7 (x4:Int) (fI:List Int):St:=⟨[(3,(.tre 60013000)),(4,(vI x4))],[(60013000,[(.trc 1 (fI.map cU8))])]⟩
abbrev aD4:=fun x4 fI r=>avc Tryz.prog aEq (aHh r) (bN7 x4 fI)
def bC1 (x4:Int) (nY:List Int):St:=⟨[(3,(.tre 60052000)),(4,(vI x4))],[(60052000,[(.trc 1 (nY.map cU8))])]⟩
abbrev aGb:=fun x4 nY r=>avc Tryz.prog aJw (bN6 r) (bC1 x4 nY)
def bUa (x3:List Int):St:=⟨[(3,(vE x3))],[]⟩
abbrev aX5:=fun x3 r=>avc Tryz.prog aCl (aHt r) (bUa x3)
def aLo:AC:=(.ops [.mv 19 8,.bin 20 .add 19 (kI 1),.asg 8 20])
def aG1:AC:=(.loop (.seq (.seq (.ops [.mv 15 8,.mv 16 0,.lns 17 16,.bin 18 .lss 15 17]) (.cond 18 .skip (.exit 0))) (.seq (.block 1 (.seq (.seq (.ops [.mv 21 0,.mv 22 8,.ix 23 21 22,.mv 24 6,.bin 25 .neq 23 24]) (.cond 25 (.seq (.ops [.mv 26 7,.mv 27 0,.mv 28 8,.ix 29 27 28,.bsl 30 5 1 [29],.app 31 5 1 1 26 30,.asg 7 31]) (.exit 1)) .skip)) (.seq (.seq (.ops [.mv 32 8,.bin 33 .add 32 (kI 1),.mv 34 0,.lns 35 34,.bin 36 .geq 33 35,.mv 37 36,.g 37 false (.mv 38 0),.g 37 false (.mv 39 8),.g 37 false (.bin 40 .add 39 (kI 1)),.g 37 false (.ix 41 38 40),.g 37 false (.mv 42 6),.g 37 false (.bin 43 .neq 41 42),.pick 44 37 (kB true) 43]) (.cond 44 (.seq (.ops [.mv 45 7,.cbs 46 45,.mv 47 8,.bin 48 .add 47 (kI 1),.asg 4 46,.asg 5 48]) .ret) .skip)) (.seq (.ops [.mv 49 7,.mv 50 6,.bsl 51 5 1 [50],.app 52 5 1 1 49 51,.asg 7 52]) (.ops [.mv 53 8,.bin 54 .add 53 (kI 1),.asg 8 54]))))) aLo)))
def aP5:AC:=(.seq (.ops [.asg 4 (.c (.d (.s (bs [])))),.asg 5 (kI (-1))]) .ret)
def bJv:AC:=(.seq (.ops [.asg 4 (.c (.d (.s (bs [])))),.asg 5 (kI 0)]) (.seq (.ops [.mv 9 0,.mv 10 1,.ix 11 9 10,.asg 6 11]) (.seq (.ops [.bsl 12 5 1 [],.asg 7 12]) (.seq (.seq (.ops [.mv 13 1,.bin 14 .add 13 (kI 1),.asg 8 14]) (.block 0 aG1)) aP5))))
theorem bJm:aY Tryz.prog 106=some (bJv,[.mv 0 4,.mv 0 5],55):=by kernel_rfl
def aPt (r:(List UInt8)×Int):Exit→St→Prop:=aV [.mv 0 4,.mv 0 5] fun x _=>x=(fun y=>(.tup [(vS y.1),(vI y.2)])) r
def bBh (r:(List UInt8)×Int):Exit→St→Prop:=(bG (wkK (avc Tryz.prog aP5 (aPt r))) (aPt r))
def aKc (r:(List UInt8)×Int):Exit→St→Prop:=(bI 0 (bBh r))
def bAl (r:(List UInt8)×Int):Exit→St→Prop:=(bG (avc Tryz.prog aG1 (aKc r)) (aKc r))
def bA9 (p0:List UInt8) (y1:Int) (x7:List Int) (x8:Int):St:=⟨[(0,(vS p0)),(6,(.d (.i .u8 y1))),(7,(.osl 7 5 1 (x7.map cU8))),(8,(vI x8))],[]⟩
abbrev aCb:=fun p0 y1 x7 x8 r=>avc Tryz.prog aG1 (aKc r) (bA9 p0 y1 x7 x8)
def bUv (p0:List UInt8) (y1:Int) (oG:List Int) (nK:Int):St:=⟨[(0,(vS p0)),(6,(.d (.i .u8 y1))),(7,(.osl 7 5 1 (oG.map cU8))),(8,(vI nK))],[]⟩
abbrev aE4:=fun p0 y1 oG nK r=>avc Tryz.prog aLo (bAl r) (bUv p0 y1 oG nK)
def aIo:AC:=(.loop (.seq (.seq (.ops [.mv 5 1,.mv 6 0,.lns 7 6,.bin 8 .lss 5 7,.mv 9 8,.g 9 true (.mv 10 0),.g 9 true (.mv 11 1),.g 9 true (.ix 12 10 11),.g 9 true (.call (some 13) 102 [12]),.g 9 true (.mv 14 13),.g 14 false (.mv 15 0),.g 14 false (.mv 16 1),.g 14 false (.ix 17 15 16),.g 14 false (.call (some 18) 105 [17]),.g 9 true (.pick 19 14 (kB true) 18),.pick 20 9 19 (kB false)]) (.cond 20 .skip (.exit 0))) (.block 1 (.ops [.mv 21 1,.bin 22 .add 21 (kI 1),.asg 1 22]))))
def aYo:AC:=(.seq (.ops [.mv 23 1,.asg 4 23]) .ret)
def bJs:AC:=(.seq (.ops [.asg 4 (kI 0)]) (.seq (.block 0 aIo) aYo))
theorem bTp:aY Tryz.prog 103=some (bJs,[.mv 0 4],24):=by kernel_rfl
def aUd (r:Int):Exit→St→Prop:=aV [.mv 0 4] fun x _=>x=(fun y=>(vI y)) r
def bFa (r:Int):Exit→St→Prop:=(bG (wkK (avc Tryz.prog aYo (aUd r))) (aUd r))
def bI4 (r:Int):Exit→St→Prop:=(bI 0 (bFa r))
def bSw (p0:List UInt8) (x1:Int):St:=⟨[(0,(vS p0)),(1,(vI x1))],[]⟩
abbrev aFs:=fun p0 x1 r=>avc Tryz.prog aIo (bI4 r) (bSw p0 x1)
def bP3:AC:=(.seq (.ops [.asg 2 (kB false)]) (.seq (.ops [.mv 3 0,.bin 4 .geq 3 (.c (.d (.i .u8 48))),.mv 5 4,.g 5 true (.mv 6 0),.g 5 true (.bin 7 .leq 6 (.c (.d (.i .u8 57)))),.pick 8 5 7 (kB false),.asg 2 8]) .ret))
theorem bQa:aY Tryz.prog 105=some (bP3,[.mv 0 2],9):=by kernel_rfl
def bXu (r:Bool):Exit→St→Prop:=aV [.mv 0 2] fun x _=>x=(fun y=>(vB y)) r
def bIx:AC:=(.seq (.ops [.asg 2 (kB false)]) (.seq (.ops [.mv 3 0,.bin 4 .geq 3 (.c (.d (.i .u8 97))),.mv 5 4,.g 5 true (.mv 6 0),.g 5 true (.bin 7 .leq 6 (.c (.d (.i .u8 122)))),.pick 8 5 7 (kB false),.mv 9 8,.g 9 false (.mv 10 0),.g 9 false (.bin 11 .geq 10 (.c (.d (.i .u8 65)))),.g 9 false (.mv 12 11),.g 12 true (.mv 13 0),.g 12 true (.bin 14 .leq 13 (.c (.d (.i .u8 90)))),.g 9 false (.pick 15 12 14 (kB false)),.pick 16 9 (kB true) 15,.mv 17 16,.g 17 false (.mv 18 0),.g 17 false (.bin 19 .eql 18 (.c (.d (.i .u8 95)))),.pick 20 17 (kB true) 19,.asg 2 20]) .ret))
theorem aZx:aY Tryz.prog 102=some (bIx,[.mv 0 2],21):=by kernel_rfl
def bZj (r:Bool):Exit→St→Prop:=aV [.mv 0 2] fun x _=>x=(fun y=>(vB y)) r
def aJp:AC:=(.cond 4 (.seq (.ops [.asg 2 (kB true)]) .ret) .skip)
def aVn:AC:=(.seq (.ops [.asg 2 (kB false)]) .ret)
def bVf:AC:=(.seq (.ops [.asg 2 (kB false)]) (.seq (.seq (.ops [.mv 3 0]) (.block 0 (.seq (.seq (.ops [.bin 5 .eql 3 (.c (.d (.s (bs [40])))),.asg 4 5]) (.cond 4 .skip (.seq (.ops [.bin 6 .eql 3 (.c (.d (.s (bs [41])))),.asg 4 6]) (.cond 4 .skip (.seq (.ops [.bin 7 .eql 3 (.c (.d (.s (bs [44])))),.asg 4 7]) (.cond 4 .skip (.seq (.ops [.bin 8 .eql 3 (.c (.d (.s (bs [46])))),.asg 4 8]) (.cond 4 .skip (.seq (.ops [.bin 9 .eql 3 (.c (.d (.s (bs [42])))),.asg 4 9]) (.cond 4 .skip (.seq (.ops [.bin 10 .eql 3 (.c (.d (.s (bs [43])))),.asg 4 10]) (.cond 4 .skip (.seq (.ops [.bin 11 .eql 3 (.c (.d (.s (bs [45])))),.asg 4 11]) (.cond 4 .skip (.seq (.ops [.bin 12 .eql 3 (.c (.d (.s (bs [47])))),.asg 4 12]) (.cond 4 .skip (.seq (.ops [.bin 13 .eql 3 (.c (.d (.s (bs [37])))),.asg 4 13]) (.cond 4 .skip (.seq (.ops [.bin 14 .eql 3 (.c (.d (.s (bs [61])))),.asg 4 14]) (.cond 4 .skip (.seq (.ops [.bin 15 .eql 3 (.c (.d (.s (bs [60,62])))),.asg 4 15]) (.cond 4 .skip (.seq (.ops [.bin 16 .eql 3 (.c (.d (.s (bs [60])))),.asg 4 16]) (.cond 4 .skip (.seq (.ops [.bin 17 .eql 3 (.c (.d (.s (bs [60,61])))),.asg 4 17]) (.cond 4 .skip (.seq (.ops [.bin 18 .eql 3 (.c (.d (.s (bs [62])))),.asg 4 18]) (.cond 4 .skip (.seq (.ops [.bin 19 .eql 3 (.c (.d (.s (bs [62,61])))),.asg 4 19]) (.cond 4 .skip (.ops [.bin 20 .eql 3 (.c (.d (.s (bs [124,124])))),.asg 4 20]))))))))))))))))))))))))))))))) aJp))) aVn))
theorem bT8:aY Tryz.prog 107=some (bVf,[.mv 0 2],21):=by kernel_rfl
def aRt (r:Bool):Exit→St→Prop:=aV [.mv 0 2] fun x _=>x=(fun y=>(vB y)) r
def bPj (r:Bool):Exit→St→Prop:=(bG (wkK (avc Tryz.prog aVn (aRt r))) (aRt r))
def bV8 (r:Bool):Exit→St→Prop:=(bI 0 (bPj r))
def bMz (x4:Bool):St:=⟨[(4,(vB x4))],[]⟩
abbrev aYy:=fun x4 r=>avc Tryz.prog aJp (bV8 r) (bMz x4)
def aKh:AC:=(.loop (.seq (.seq (.ops [.mv 12 5,.mv 13 4,.len 14 13,.bin 15 .lss 12 14]) (.cond 15 .skip (.exit 0))) (.seq (.block 1 (.seq (.ops [.mv 18 4,.mv 19 5,.ia 20 1 18 19,.ld 21 1 false 20,.mv 22 3,.bin 23 .eql 21 22]) (.cond 23 (.seq (.ops [.mv 24 5,.asg 2 24]) .ret) .skip))) (.ops [.mv 16 5,.bin 17 .add 16 (kI 1),.asg 5 17]))))
def aRx:AC:=(.seq (.ops [.asg 2 (kI 0)]) .ret)
def bJx:AC:=(.seq (.ops [.asg 2 (kI 0)]) (.seq (.seq (.ops [.mv 6 0,.lns 7 6,.bin 8 .gtr 7 (kI 8)]) (.cond 8 (.seq (.ops [.asg 2 (kI 0)]) .ret) .skip)) (.seq (.ops [.mv 9 0,.call (some 10) 65 [9],.asg 3 10]) (.seq (.ops [.call (some 11) 74 [],.asg 4 11]) (.seq (.seq (.ops [.asg 5 (kI 1)]) (.block 0 aKh)) aRx)))))
theorem bLs:aY Tryz.prog 104=some (bJx,[.mv 0 2],25):=by kernel_rfl
def aQ9 (r:Int):Exit→St→Prop:=aV [.mv 0 2] fun x _=>x=(fun y=>(vI y)) r
def bX3 (r:Int):Exit→St→Prop:=(bG (wkK (avc Tryz.prog aRx (aQ9 r))) (aQ9 r))
def bI3 (r:Int):Exit→St→Prop:=(bI 0 (bX3 r))
def bPh (y1:List UInt8) (y2:List (List UInt8)) (x5:Int):St:=⟨[(3,(vS y1)),(4,(.osl 4 9 1 (y2.map cStr))),(5,(vI x5))],[]⟩
abbrev aBi:=fun y1 y2 x5 r=>avc Tryz.prog aKh (bI3 r) (bPh y1 y2 x5)
def bSl:AC:=(.seq (.ops [.asg 0 (.c (.nil 1))]) (.seq (.ops [.bsl 1 9 1 [(.c (.d (.s (bs [])))),(.c (.d (.s (bs [83,69,76,69,67,84])))),(.c (.d (.s (bs [68,73,83,84,73,78,67,84])))),(.c (.d (.s (bs [70,82,79,77])))),(.c (.d (.s (bs [74,79,73,78])))),(.c (.d (.s (bs [79,78])))),(.c (.d (.s (bs [87,72,69,82,69])))),(.c (.d (.s (bs [79,82,68,69,82])))),(.c (.d (.s (bs [66,89])))),(.c (.d (.s (bs [65,83,67])))),(.c (.d (.s (bs [68,69,83,67])))),(.c (.d (.s (bs [76,73,77,73,84])))),(.c (.d (.s (bs [65,83])))),(.c (.d (.s (bs [65,78,68])))),(.c (.d (.s (bs [79,82])))),(.c (.d (.s (bs [78,79,84])))),(.c (.d (.s (bs [73,83])))),(.c (.d (.s (bs [73,78])))),(.c (.d (.s (bs [66,69,84,87,69,69,78])))),(.c (.d (.s (bs [69,88,73,83,84,83])))),(.c (.d (.s (bs [78,85,76,76])))),(.c (.d (.s (bs [84,82,85,69])))),(.c (.d (.s (bs [70,65,76,83,69])))),(.c (.d (.s (bs [73,78,83,69,82,84])))),(.c (.d (.s (bs [73,78,84,79])))),(.c (.d (.s (bs [86,65,76,85,69,83])))),(.c (.d (.s (bs [85,80,68,65,84,69])))),(.c (.d (.s (bs [83,69,84])))),(.c (.d (.s (bs [68,69,76,69,84,69]))))],.asg 0 1]) .ret))
theorem bHq:aY Tryz.prog 74=some (bSl,[.mv 0 0],2):=by kernel_rfl
def cBe (r:List (List UInt8)):Exit→St→Prop:=aV [.mv 0 0] fun x b=>x=(fun (y:List (List UInt8))=>(.osl 2000000 9 1 (y.map cStr))) r∧dI ((fun (y:List (List UInt8))=>[]) r) b
def bWo:AC:=(.seq (.ops [.box 1 85 0,.asg 2 (kB false)]) (.seq (.seq (.ops [.fa 5 0 1,.ld 6 1 false 5]) (.block 0 (.seq (.ops [.bin 8 .eql 6 (kI 1),.asg 7 8]) (.cond 7 (.seq (.dops [[],[0],[1],[2],[3,2],[4],[5,4],[6,4,4],[4],[8,4],[7,9,4],[4,10],[11,7,0,1,2,3,4,5,6,7,8,9,10,11]] [.fa 9 1 1,.ld 10 1 false 9,.call (some 11) 104 [10],.bin 12 .gtr 11 (kI 0),.mv 13 12,.g 13 true (.fa 14 1 1),.g 13 true (.ld 15 1 false 14),.g 13 true (.call (some 16) 65 [15]),.g 13 true (.fa 17 1 1),.g 13 true (.ld 18 1 false 17),.g 13 true (.bin 19 .eql 16 18),.pick 20 13 19 (kB false),.asg 2 20]) .ret) (.seq (.ops [.bin 22 .eql 6 (kI 2),.asg 21 22]) (.cond 21 (.seq (.ops [.fa 23 1 1,.ld 24 1 false 23,.call (some 25) 24 [24],.asg 2 25]) .ret) (.seq (.ops [.bin 27 .eql 6 (kI 3),.asg 26 27]) (.cond 26 (.seq (.ops [.fa 29 1 1,.ld 30 1 false 29,.call (some 31) 127 [30],.mv 28 31,.ext 32 28 0,.ext 33 28 1,.asg 3 32,.asg 4 33]) (.seq (.ops [.mv 34 4,.asg 2 34]) .ret)) (.seq (.ops [.bin 36 .eql 6 (kI 4),.asg 35 36]) (.cond 35 (.seq (.ops [.fa 37 1 1,.ld 38 1 false 37,.lns 39 38,.bin 40 .leq 39 (kI 40),.asg 2 40]) .ret) (.seq (.ops [.bin 42 .eql 6 (kI 5),.asg 41 42]) (.cond 41 (.seq (.ops [.fa 43 1 1,.ld 44 1 false 43,.call (some 45) 107 [44],.asg 2 45]) .ret) .skip)))))))))))) (.seq (.ops [.asg 2 (kB false)]) .ret)))
theorem bVq:aY Tryz.prog 108=some (bWo,[.mv 0 2],46):=by kernel_rfl
def bYj (r:Bool):Exit→St→Prop:=aV [.mv 0 2] fun x _=>x=(fun y=>(vB y)) r
def bL9:AC:=(.seq (.ops [.asg 2 (kB false)]) (.seq (.ops [.mv 3 0,.lns 4 3,.call (some 5) 26 [4,(kI 1),(kI 20)],.asg 2 5]) .ret))
theorem bAn:aY Tryz.prog 24=some (bL9,[.mv 0 2],6):=by kernel_rfl
def bYk (r:Bool):Exit→St→Prop:=aV [.mv 0 2] fun x _=>x=(fun y=>(vB y)) r
def bPk:AC:=(.seq (.ops [.asg 6 (kB false)]) (.seq (.ops [.mv 7 0,.mv 8 1,.bin 9 .geq 7 8,.mv 10 9,.g 10 true (.mv 11 0),.g 10 true (.mv 12 2),.g 10 true (.bin 13 .leq 11 12),.pick 14 10 13 (kB false),.asg 6 14]) .ret))
theorem bVt:aY Tryz.prog 26=some (bPk,[.mv 0 6],15):=by kernel_rfl
def bYm (r:Bool):Exit→St→Prop:=aV [.mv 0 6] fun x _=>x=(fun y=>(vB y)) r
def aOl:AC:=(.loop (.seq (.seq (.ops [.mv 15 5,.mv 16 0,.lns 17 16,.bin 18 .lss 15 17]) (.cond 18 .skip (.exit 0))) (.seq (.block 1 (.seq (.seq (.ops [.mv 21 0,.mv 22 5,.ix 23 21 22,.bin 24 .lss 23 (.c (.d (.i .u8 48))),.mv 25 24,.g 25 false (.mv 26 0),.g 25 false (.mv 27 5),.g 25 false (.ix 28 26 27),.g 25 false (.bin 29 .gtr 28 (.c (.d (.i .u8 57)))),.pick 30 25 (kB true) 29]) (.cond 30 (.seq (.ops [.asg 2 (kI 0),.asg 3 (kB false)]) .ret) .skip)) (.seq (.ops [.mv 31 0,.mv 32 5,.ix 33 31 32,.cvi 34 .i64 33,.bin 35 .sub 34 (kI 48),.asg 6 35]) (.seq (.seq (.ops [.mv 36 4,.mv 37 6,.bin 38 .sub (kI 9223372036854775807) 37,.bin 39 .quo 38 (kI 10),.bin 40 .gtr 36 39]) (.cond 40 (.seq (.ops [.asg 2 (kI 0),.asg 3 (kB false)]) .ret) .skip)) (.ops [.mv 41 4,.bin 42 .mul (kI 10) 41,.mv 43 6,.bin 44 .add 42 43,.asg 4 44]))))) (.ops [.mv 19 5,.bin 20 .add 19 (kI 1),.asg 5 20]))))
def aV2:AC:=(.seq (.seq (.ops [.mv 45 4,.call (some 46) 43 [45],.mv 47 0,.bin 48 .neq 46 47]) (.cond 48 (.seq (.ops [.asg 2 (kI 0),.asg 3 (kB false)]) .ret) .skip)) (.seq (.ops [.mv 49 4,.asg 2 49,.asg 3 (kB true)]) .ret))
def bLc:AC:=(.seq (.ops [.asg 2 (kI 0),.asg 3 (kB false)]) (.seq (.seq (.ops [.mv 7 0,.lns 8 7,.bin 9 .lss 8 (kI 1),.mv 10 9,.g 10 false (.mv 11 0),.g 10 false (.lns 12 11),.g 10 false (.bin 13 .gtr 12 (kI 19)),.pick 14 10 (kB true) 13]) (.cond 14 (.seq (.ops [.asg 2 (kI 0),.asg 3 (kB false)]) .ret) .skip)) (.seq (.ops [.asg 4 (kI 0)]) (.seq (.seq (.ops [.asg 5 (kI 0)]) (.block 0 aOl)) aV2))))
theorem bP5:aY Tryz.prog 127=some (bLc,[.mv 0 2,.mv 0 3],50):=by kernel_rfl
def aQc (r:Int×Bool):Exit→St→Prop:=aV [.mv 0 2,.mv 0 3] fun x _=>x=(fun y=>(.tup [(vI y.1),(vB y.2)])) r
def bVo (r:Int×Bool):Exit→St→Prop:=(bG (wkK (avc Tryz.prog aV2 (aQc r))) (aQc r))
def bB2 (r:Int×Bool):Exit→St→Prop:=(bI 0 (bVo r))
def bVw (p0:List UInt8) (x4:Int) (x5:Int):St:=⟨[(0,(vS p0)),(4,(vI x4)),(5,(vI x5))],[]⟩
abbrev aBt:=fun p0 x4 x5 r=>avc Tryz.prog aOl (bB2 r) (bVw p0 x4 x5)
def aHk:AC:=(.seq (.ops [.mv 18 5,.bin 19 .add (kI 48) 18,.cvi 20 .u8 19,.bsl 21 5 1 [20],.cbs 22 21,.mv 23 4,.bin 24 .add 22 23,.asg 4 24]) (.ops [.mv 25 0,.bin 26 .quo 25 (kI 10),.asg 0 26]))
def aFi:AC:=(.loop (.seq (.seq (.ops [.mv 10 0,.bin 11 .neq 10 (kI 0)]) (.cond 11 .skip (.exit 0))) (.block 1 (.seq (.ops [.mv 12 0,.bin 13 .rem 12 (kI 10),.asg 5 13]) (.seq (.seq (.ops [.mv 14 5,.bin 15 .lss 14 (kI 0)]) (.cond 15 (.ops [.mv 16 5,.bin 17 .sub (kI 0) 16,.asg 5 17]) .skip)) aHk)))))
def aPq:AC:=(.seq (.seq (.ops [.mv 27 3]) (.cond 27 (.seq (.ops [.mv 28 4,.bin 29 .add (.c (.d (.s (bs [45])))) 28,.asg 2 29]) .ret) .skip)) (.seq (.ops [.mv 30 4,.asg 2 30]) .ret))
def bHn:AC:=(.seq (.ops [.asg 2 (.c (.d (.s (bs []))))]) (.seq (.seq (.ops [.mv 6 0,.bin 7 .eql 6 (kI 0)]) (.cond 7 (.seq (.ops [.asg 2 (.c (.d (.s (bs [48]))))]) .ret) .skip)) (.seq (.ops [.mv 8 0,.bin 9 .lss 8 (kI 0),.asg 3 9]) (.seq (.ops [.asg 4 (.c (.d (.s (bs []))))]) (.seq (.block 0 aFi) aPq)))))
theorem bVy:aY Tryz.prog 43=some (bHn,[.mv 0 2],31):=by kernel_rfl
def aRn (r:List UInt8):Exit→St→Prop:=aV [.mv 0 2] fun x _=>x=(fun y=>(vS y)) r
def bB8 (r:List UInt8):Exit→St→Prop:=(bG (wkK (avc Tryz.prog aPq (aRn r))) (aRn r))
def aLz (r:List UInt8):Exit→St→Prop:=(bI 0 (bB8 r))
def bHc (r:List UInt8):Exit→St→Prop:=(bG (avc Tryz.prog aFi (aLz r)) (aLz r))
def bQ2 (r:List UInt8):Exit→St→Prop:=(bI 1 (bHc r))
def bLk (p0:Int) (x0:Int) (x4:List UInt8):St:=⟨[(0,(vI x0)),(3,(vB (decide (p0<0)))),(4,(vS x4))],[]⟩
abbrev aEp:=fun p0 x0 x4 r=>avc Tryz.prog aFi (aLz r) (bLk p0 x0 x4)
def bGa (x0:Int) (p0:Int) (x4:List UInt8) (x5:Int):St:=⟨[(0,(vI x0)),(3,(vB (decide (p0<0)))),(4,(vS x4)),(5,(vI x5))],[]⟩
abbrev aF2:=fun x0 p0 x4 x5 r=>avc Tryz.prog aHk (bQ2 r) (bGa x0 p0 x4 x5)
def bMe:AC:=(.seq (.ops [.asg 4 (kB false)]) (.seq (.ops [.mv 6 0,.call (some 7) 68 [6,(kI 0)],.alc 5 [bO,dJ,bO],.st 3 5 7]) (.seq (.ops [.fa 8 0 5,.ld 9 1 false 8,.bin 10 .eql 9 (kI 5),.mv 11 10,.g 11 true (.fa 12 1 5),.g 11 true (.ld 13 1 false 12),.g 11 true (.mv 14 1),.g 11 true (.bin 15 .eql 13 14),.pick 16 11 15 (kB false),.asg 4 16]) .ret)))
theorem bG8:aY Tryz.prog 34=some (bMe,[.mv 0 4],17):=by kernel_rfl
def cAl (p0:cK) (r:Bool):Exit→St→Prop:=aV [.mv 0 4] fun x b=>x=(fun (y:Bool)=>(vB y)) r∧dI ((fun (y:Bool)=>[(1000000,[(.osl 6000000 85 3 (p0.t.map aJ)),(vI p0.at_),(vB p0.bad)])]) r) b
def bBl:AC:=(.seq (.ops [.alc 4 [bO,dJ,bO]]) (.seq (.seq (.dops [[],[0],[1],[2],[3],[4],[5,4],[6,4],[7,4],[4],[8,9,4],[4],[11,4],[12,4],[13,4],[14,4],[10,15,4],[4,16]] [.mv 5 0,.nck 6 5,.fa 7 2 6,.ld 8 1 false 7,.mv 9 8,.g 9 false (.mv 10 0),.g 9 false (.nck 11 10),.g 9 false (.fa 12 1 11),.g 9 false (.ld 13 1 false 12),.g 9 false (.mv 14 1),.g 9 false (.bin 15 .add 13 14),.g 9 false (.mv 16 0),.g 9 false (.nck 17 16),.g 9 false (.fa 18 0 17),.g 9 false (.ld 19 1 false 18),.g 9 false (.len 20 19),.g 9 false (.bin 21 .geq 15 20),.pick 22 9 (kB true) 21]) (.cond 22 (.seq (.ops [.bld 23 [bO,dJ,bO] [],.st 3 4 23]) .ret) .skip)) (.seq (.dops [[],[0],[1],[2],[],[4],[5],[6],[],[7,8],[3,9],[10],[11,0,1,2,3,4,5,6,7,8,9,10,11]] [.mv 24 0,.nck 25 24,.fa 26 0 25,.ld 27 1 false 26,.mv 28 0,.nck 29 28,.fa 30 1 29,.ld 31 1 false 30,.mv 32 1,.bin 33 .add 31 32,.ia 34 3 27 33,.ld 35 3 true 34,.st 3 4 35]) .ret)))
theorem bWu:aY Tryz.prog 68=some (bBl,[.ld 0 3 true 4],36):=by kernel_rfl
def cBn (p0:cK) (r:aA):Exit→St→Prop:=aV [.ld 0 3 true 4] fun x b=>x=(fun (y:aA)=>(fE y)) r∧dI ((fun (y:aA)=>[(1000000,[(.osl 6000000 85 3 (p0.t.map aJ)),(vI p0.at_),(vB p0.bad)])]) r) b
def aHc:AC:=(.loop (.seq (.seq (.ops [.mv 11 5,.mv 12 0,.len 13 12,.bin 14 .lss 11 13]) (.cond 14 .skip (.exit 0))) (.seq (.block 1 (.seq (.dops [[],[],[0,1],[2],[3],[],[],[5,6],[7],[8],[4,9],[10],[11],[11],[12,13,11],[14,11],[15,11],[11],[11],[17,18,11],[19,11],[20,11],[16,21,11],[11,22]] [.mv 17 0,.mv 18 5,.ia 19 3 17 18,.fa 20 0 19,.ld 21 1 false 20,.mv 22 1,.mv 23 5,.ia 24 3 22 23,.fa 25 0 24,.ld 26 1 false 25,.bin 27 .neq 21 26,.mv 28 27,.g 28 false (.mv 29 0),.g 28 false (.mv 30 5),.g 28 false (.ia 31 3 29 30),.g 28 false (.fa 32 1 31),.g 28 false (.ld 33 1 false 32),.g 28 false (.mv 34 1),.g 28 false (.mv 35 5),.g 28 false (.ia 36 3 34 35),.g 28 false (.fa 37 1 36),.g 28 false (.ld 38 1 false 37),.g 28 false (.bin 39 .neq 33 38),.pick 40 28 (kB true) 39]) (.cond 40 (.seq (.ops [.asg 4 (kB false)]) .ret) .skip))) (.ops [.mv 15 5,.bin 16 .add 15 (kI 1),.asg 5 16]))))
def aXl:AC:=(.seq (.ops [.asg 4 (kB true)]) .ret)
def bNi:AC:=(.seq (.ops [.asg 4 (kB false)]) (.seq (.seq (.ops [.mv 6 0,.len 7 6,.mv 8 1,.len 9 8,.bin 10 .neq 7 9]) (.cond 10 (.seq (.ops [.asg 4 (kB false)]) .ret) .skip)) (.seq (.seq (.ops [.asg 5 (kI 0)]) (.block 0 aHc)) aXl)))
theorem bW5:aY Tryz.prog 36=some (bNi,[.mv 0 4],41):=by kernel_rfl
def aTp (r:Bool):Exit→St→Prop:=aV [.mv 0 4] fun x _=>x=(fun y=>(vB y)) r
def bJ2 (r:Bool):Exit→St→Prop:=(bG (wkK (avc Tryz.prog aXl (aTp r))) (aTp r))
def aZq (r:Bool):Exit→St→Prop:=(bI 0 (bJ2 r))
def bBi (p0:List aA) (p1:List aA) (x5:Int):St:=⟨[(0,(eD p0)),(1,(eD p1)),(5,(vI x5))],[]⟩
abbrev aEt:=fun p0 p1 x5 r=>avc Tryz.prog aHc (aZq r) (bBi p0 p1 x5)
def bR4:AC:=(.seq (.seq (.ops [.mv 4 1,.not 5 4,.mv 6 5,.g 6 false (.mv 7 0),.g 6 false (.nck 8 7),.g 6 false (.fa 9 2 8),.g 6 false (.ld 10 1 false 9),.pick 11 6 (kB true) 10]) (.cond 11 (.seq (.ops [.mv 12 0,.nck 13 12,.fa 14 2 13,.st 1 14 (kB true)]) .ret) .skip)) (.ops [.mv 15 0,.mv 16 0,.nck 17 16,.fa 18 1 17,.ld 19 1 false 18,.bin 20 .add 19 (kI 1),.nck 21 15,.fa 22 1 21,.st 1 22 20]))
theorem aZn:aY Tryz.prog 33=some (bR4,[],23):=by kernel_rfl
def bY9 (r:cK):Exit→St→Prop:=aV [] fun x b=>x=(fun (y:cK)=>(.tup [])) r∧dI ((fun (y:cK)=>[(1000000,[(.osl 6000000 85 3 (y.t.map aJ)),(vI y.at_),(vB y.bad)])]) r) b
def aOb:AC:=(.loop (.seq (.seq (.ops [.mv 41 5,.fa 42 1 4,.ld 43 1 false 42,.len 44 43,.bin 45 .lss 41 44]) (.cond 45 .skip (.exit 2))) (.seq (.block 3 (.seq (.dops [[],[0],[],[1,2],[3],[4],[5],[6],[7,6],[8],[8],[10,8],[8],[11,12,8],[13,8],[14,8],[9,15,8,8],[8],[16,17,8],[8,18],[19,16],[20],[21,20],[20],[22,23,20],[24,20],[25,20],[26,20,20],[27,20],[20,28]] [.fa 48 1 4,.ld 49 1 false 48,.mv 50 5,.ia 51 2 49 50,.fa 52 0 51,.ld 53 1 false 52,.call (some 54) 24 [53],.not 55 54,.mv 56 55,.g 56 false (.ld 57 2 true 4),.g 56 false (.fa 58 1 4),.g 56 false (.ld 59 1 false 58),.g 56 false (.mv 60 5),.g 56 false (.ia 61 2 59 60),.g 56 false (.fa 62 0 61),.g 56 false (.ld 63 1 false 62),.g 56 false (.call (some 64) 27 [57,63]),.g 56 false (.mv 65 5),.g 56 false (.bin 66 .neq 64 65),.pick 67 56 (kB true) 66,.mv 68 67,.g 68 false (.fa 69 1 4),.g 68 false (.ld 70 1 false 69),.g 68 false (.mv 71 5),.g 68 false (.ia 72 2 70 71),.g 68 false (.fa 73 1 72),.g 68 false (.ld 74 1 false 73),.g 68 false (.call (some 75) 26 [74,(kI 1),(kI 3)]),.g 68 false (.not 76 75),.pick 77 68 (kB true) 76]) (.cond 77 (.seq (.ops [.asg 2 (kB false)]) .ret) .skip))) (.ops [.mv 46 5,.bin 47 .add 46 (kI 1),.asg 5 47]))))
def aXs:AC:=(.ops [.mv 15 3,.bin 16 .add 15 (kI 1),.asg 3 16])
def aF0:AC:=(.loop (.seq (.seq (.ops [.mv 10 3,.fa 11 0 1,.ld 12 1 false 11,.len 13 12,.bin 14 .lss 10 13]) (.cond 14 .skip (.exit 0))) (.seq (.block 1 (.seq (.ops [.fa 17 0 1,.ld 18 1 false 17,.mv 19 3,.ia 20 2 18 19,.ld 21 2 true 20,.alc 4 [dJ,(.nil 2)],.st 2 4 21]) (.seq (.seq (.ops [.fa 22 0 4,.ld 23 1 false 22,.call (some 24) 24 [23],.not 25 24,.mv 26 25,.g 26 false (.ld 27 1 true 1),.g 26 false (.fa 28 0 4),.g 26 false (.ld 29 1 false 28),.g 26 false (.call (some 30) 25 [27,29]),.g 26 false (.mv 31 3),.g 26 false (.bin 32 .neq 30 31),.pick 33 26 (kB true) 32,.mv 34 33,.g 34 false (.fa 35 1 4),.g 34 false (.ld 36 1 false 35),.g 34 false (.len 37 36),.g 34 false (.call (some 38) 26 [37,(kI 1),(kI 4)]),.g 34 false (.not 39 38),.pick 40 34 (kB true) 39]) (.cond 40 (.seq (.ops [.asg 2 (kB false)]) .ret) .skip)) (.seq (.ops [.asg 5 (kI 0)]) (.block 2 aOb))))) aXs)))
def aOo:AC:=(.seq (.ops [.asg 2 (kB true)]) .ret)
def bNc:AC:=(.seq (.ops [.box 1 26 0,.asg 2 (kB false)]) (.seq (.seq (.ops [.fa 6 0 1,.ld 7 1 false 6,.len 8 7,.bin 9 .gtr 8 (kI 4)]) (.cond 9 (.seq (.ops [.asg 2 (kB false)]) .ret) .skip)) (.seq (.seq (.ops [.asg 3 (kI 0)]) (.block 0 aF0)) aOo)))
theorem bJt:aY Tryz.prog 8=some (bNc,[.mv 0 2],78):=by kernel_rfl
def aYp (r:Bool):Exit→St→Prop:=aV [.mv 0 2] fun x _=>x=(fun y=>(vB y)) r
def bB9 (r:Bool):Exit→St→Prop:=(bG (wkK (avc Tryz.prog aOo (aYp r))) (aYp r))
def aIu (r:Bool):Exit→St→Prop:=(bI 0 (bB9 r))
def aVg (r:Bool):Exit→St→Prop:=(bG (avc Tryz.prog aF0 (aIu r)) (aIu r))
def bLa (r:Bool):Exit→St→Prop:=(bG (wkK (avc Tryz.prog aXs (aVg r))) (aVg r))
def bH7 (r:Bool):Exit→St→Prop:=(bI 1 (bLa r))
def bU8 (r:Bool):Exit→St→Prop:=(bI 2 (bH7 r))
def aOw (p0:aR) (x3:Int):St:=⟨[(1,(.ptr 1 0)),(3,(vI x3))],[(1,jN p0)]⟩
abbrev aF6:=fun p0 x3 r=>avc Tryz.prog aF0 (aIu r) (aOw p0 x3)
def bW0 (x3:Int) (p0:aR) (y1:aQ) (x5:Int):St:=⟨[(1,(.ptr 1 0)),(3,(vI x3)),(4,(.ptr 4 0)),(5,(vI x5))],[(1,jN p0),(4,zA y1)]⟩
abbrev aD5:=fun x3 p0 y1 x5 r=>avc Tryz.prog aOb (bU8 r) (bW0 x3 p0 y1 x5)
def aO9:AC:=(.loop (.seq (.seq (.ops [.mv 6 5,.fa 7 0 2,.ld 8 1 false 7,.len 9 8,.bin 10 .lss 6 9]) (.cond 10 .skip (.exit 0))) (.seq (.block 1 (.seq (.ops [.fa 13 0 2,.ld 14 1 false 13,.mv 15 5,.ia 16 2 14 15,.fa 17 0 16,.ld 18 1 false 17,.mv 19 1,.bin 20 .eql 18 19]) (.cond 20 (.seq (.ops [.mv 21 5,.asg 4 21]) .ret) .skip))) (.ops [.mv 11 5,.bin 12 .add 11 (kI 1),.asg 5 12]))))
def aXx:AC:=(.seq (.ops [.asg 4 (kI (-1))]) .ret)
def bB4:AC:=(.seq (.ops [.box 2 26 0,.asg 4 (kI 0)]) (.seq (.seq (.ops [.asg 5 (kI 0)]) (.block 0 aO9)) aXx))
theorem bQs:aY Tryz.prog 25=some (bB4,[.mv 0 4],22):=by kernel_rfl
def aUm (r:Int):Exit→St→Prop:=aV [.mv 0 4] fun x _=>x=(fun y=>(vI y)) r
def bLu (r:Int):Exit→St→Prop:=(bG (wkK (avc Tryz.prog aXx (aUm r))) (aUm r))
def bD9 (r:Int):Exit→St→Prop:=(bI 0 (bLu r))
def bF7 (p1:List UInt8) (p0:aR) (x5:Int):St:=⟨[(1,(vS p1)),(2,(.ptr 2 0)),(5,(vI x5))],[(2,jN p0)]⟩
abbrev aEe:=fun p1 p0 x5 r=>avc Tryz.prog aO9 (bD9 r) (bF7 p1 p0 x5)
def aLg:AC:=(.loop (.seq (.seq (.ops [.mv 6 5,.fa 7 1 2,.ld 8 1 false 7,.len 9 8,.bin 10 .lss 6 9]) (.cond 10 .skip (.exit 0))) (.seq (.block 1 (.seq (.ops [.fa 13 1 2,.ld 14 1 false 13,.mv 15 5,.ia 16 2 14 15,.fa 17 0 16,.ld 18 1 false 17,.mv 19 1,.bin 20 .eql 18 19]) (.cond 20 (.seq (.ops [.mv 21 5,.asg 4 21]) .ret) .skip))) (.ops [.mv 11 5,.bin 12 .add 11 (kI 1),.asg 5 12]))))
def aWx:AC:=(.seq (.ops [.asg 4 (kI (-1))]) .ret)
def bTa:AC:=(.seq (.ops [.box 2 49 0,.asg 4 (kI 0)]) (.seq (.seq (.ops [.asg 5 (kI 0)]) (.block 0 aLg)) aWx))
theorem bAa:aY Tryz.prog 27=some (bTa,[.mv 0 4],22):=by kernel_rfl
def aRc (r:Int):Exit→St→Prop:=aV [.mv 0 4] fun x _=>x=(fun y=>(vI y)) r
def bW7 (r:Int):Exit→St→Prop:=(bG (wkK (avc Tryz.prog aWx (aRc r))) (aRc r))
def bKj (r:Int):Exit→St→Prop:=(bI 0 (bW7 r))
def bEa (p1:List UInt8) (p0:aQ) (x5:Int):St:=⟨[(1,(vS p1)),(2,(.ptr 2 0)),(5,(vI x5))],[(2,zA p0)]⟩
abbrev aGg:=fun p1 p0 x5 r=>avc Tryz.prog aLg (bKj r) (bEa p1 p0 x5)
def aO6:AC:=(.dops [[],[],[1],[],[2,3],[4],[5],[],[6,7],[8],[9],[10],[],[12],[],[13,14],[15],[16],[],[17,18],[19],[20],[21,11],[22,22],[11,23],[0,24,23],[25,25,0,1,2,3,4,5,6,7,8,9,10,11,12,13,14,15,16,17,18,19,20,21,22,23,24,25]] [.mv 48 3,.fa 49 0 1,.ld 50 1 false 49,.mv 51 4,.ia 52 2 50 51,.fa 53 1 52,.ld 54 1 false 53,.mv 55 5,.ia 56 2 54 55,.fa 57 0 56,.ld 58 1 false 57,.call (some 59) 59 [58],.fa 60 0 1,.ld 61 1 false 60,.mv 62 4,.ia 63 2 61 62,.fa 64 1 63,.ld 65 1 false 64,.mv 66 5,.ia 67 2 65 66,.fa 68 1 67,.ld 69 1 false 68,.call (some 70) 60 [69],.call (some 71) 59 [70],.bsl 72 85 3 [59,71],.app 73 85 3 32 48 72,.asg 3 73])
def aXg:AC:=(.ops [.mv 40 5,.bin 41 .add 40 (kI 1),.asg 5 41])
def aF8:AC:=(.loop (.seq (.seq (.ops [.mv 31 5,.fa 32 0 1,.ld 33 1 false 32,.mv 34 4,.ia 35 2 33 34,.fa 36 1 35,.ld 37 1 false 36,.len 38 37,.bin 39 .lss 31 38]) (.cond 39 .skip (.exit 2))) (.seq (.block 3 (.seq (.seq (.ops [.mv 42 5,.bin 43 .gtr 42 (kI 0)]) (.cond 43 (.ops [.mv 44 3,.call (some 45) 58 [(.c (.d (.s (bs [44]))))],.bsl 46 85 3 [45],.app 47 85 3 32 44 46,.asg 3 47]) .skip)) aO6)) aXg)))
def aWk:AC:=(.ops [.mv 74 3,.call (some 75) 58 [(.c (.d (.s (bs [41]))))],.bsl 76 85 3 [75],.app 77 85 3 32 74 76,.asg 3 77])
def aJd:AC:=(.seq (.ops [.mv 20 3,.fa 21 0 1,.ld 22 1 false 21,.mv 23 4,.ia 24 2 22 23,.fa 25 0 24,.ld 26 1 false 25,.call (some 27) 59 [26],.call (some 28) 58 [(.c (.d (.s (bs [40]))))],.bsl 29 85 3 [27,28],.app 30 85 3 32 20 29,.asg 3 30]) (.seq (.seq (.ops [.asg 5 (kI 0)]) (.block 2 aF8)) aWk))
def aOx:AC:=(.ops [.mv 12 4,.bin 13 .add 12 (kI 1),.asg 4 13])
def aCt:AC:=(.loop (.seq (.seq (.ops [.mv 7 4,.fa 8 0 1,.ld 9 1 false 8,.len 10 9,.bin 11 .lss 7 10]) (.cond 11 .skip (.exit 0))) (.seq (.block 1 (.seq (.seq (.ops [.mv 14 4,.bin 15 .gtr 14 (kI 0)]) (.cond 15 (.ops [.mv 16 3,.call (some 17) 58 [(.c (.d (.s (bs [44]))))],.bsl 18 85 3 [17],.app 19 85 3 32 16 18,.asg 3 19]) .skip)) aJd)) aOx)))
def aWb:AC:=(.seq (.ops [.mv 78 3,.asg 2 78]) .ret)
def bAw:AC:=(.seq (.ops [.box 1 26 0,.asg 2 (.c (.nil 3))]) (.seq (.ops [.bsl 6 85 3 [],.asg 3 6]) (.seq (.seq (.ops [.asg 4 (kI 0)]) (.block 0 aCt)) aWb)))
theorem bNt:aY Tryz.prog 28=some (bAw,[.mv 0 2],79):=by kernel_rfl
def aVp (r:List aA):Exit→St→Prop:=aV [.mv 0 2] fun x _=>x=(fun y=>(eD y)) r
def bSa (r:List aA):Exit→St→Prop:=(bG (wkK (avc Tryz.prog aWb (aVp r))) (aVp r))
def aLc (r:List aA):Exit→St→Prop:=(bI 0 (bSa r))
def aS8 (r:List aA):Exit→St→Prop:=(bG (avc Tryz.prog aCt (aLc r)) (aLc r))
def bSt (r:List aA):Exit→St→Prop:=(bG (wkK (avc Tryz.prog aOx (aS8 r))) (aS8 r))
def aLi (r:List aA):Exit→St→Prop:=(bI 1 (bSt r))
def bWn (r:List aA):Exit→St→Prop:=(bG (wkK (avc Tryz.prog aWk (aLi r))) (aLi r))
def aIn (r:List aA):Exit→St→Prop:=(bI 2 (bWn r))
def aZ3 (r:List aA):Exit→St→Prop:=(bG (avc Tryz.prog aF8 (aIn r)) (aIn r))
def bNd (r:List aA):Exit→St→Prop:=(bG (wkK (avc Tryz.prog aXg (aZ3 r))) (aZ3 r))
def bVc (r:List aA):Exit→St→Prop:=(bI 3 (bNd r))
def aZw (p0:aR) (x3:List aA) (x4:Int):St:=⟨[(1,(.ptr 1 0)),(3,(.osl 3 85 3 (x3.map aJ))),(4,(vI x4))],[(1,jN p0)]⟩
abbrev aEf:=fun p0 x3 x4 r=>avc Tryz.prog aCt (aLc r) (aZw p0 x3 x4)
def aUv (x4:Int) (p0:aR) (jZ:List aA):St:=⟨[(1,(.ptr 1 0)),(3,(.osl 3 85 3 (jZ.map aJ))),(4,(vI x4))],[(1,jN p0)]⟩
abbrev aFz:=fun x4 p0 jZ r=>avc Tryz.prog aJd (aLi r) (aUv x4 p0 jZ)
def bFu (x4:Int) (p0:aR) (jW:List aA) (x5:Int):St:=⟨[(1,(.ptr 1 0)),(3,(.osl 3 85 3 (jW.map aJ))),(4,(vI x4)),(5,(vI x5))],[(1,jN p0)]⟩
abbrev aGe:=fun x4 p0 jW x5 r=>avc Tryz.prog aF8 (aIn r) (bFu x4 p0 jW x5)
def bA1 (x4:Int) (x5:Int) (p0:aR) (mM:List aA):St:=⟨[(1,(.ptr 1 0)),(3,(.osl 3 85 3 (mM.map aJ))),(4,(vI x4)),(5,(vI x5))],[(1,jN p0)]⟩
abbrev aBr:=fun x4 x5 p0 mM r=>avc Tryz.prog aO6 (bVc r) (bA1 x4 x5 p0 mM)
def bHr:AC:=(.seq (.ops [.alc 2 [bO,dJ,bO]]) (.seq (.ops [.mv 3 0,.bld 4 [bO,dJ,bO] [(0,1,(kI 5)),(1,1,3)],.st 3 2 4]) .ret))
theorem bWi:aY Tryz.prog 58=some (bHr,[.ld 0 3 true 2],5):=by kernel_rfl
def bZw (r:aA):Exit→St→Prop:=aV [.ld 0 3 true 2] fun x _=>x=(fun y=>(fE y)) r
def bMo:AC:=(.seq (.ops [.asg 2 (.c (.d (.s (bs []))))]) (.seq (.seq (.ops [.mv 3 0,.call (some 4) 26 [3,(kI 0),(kI 3)],.not 5 4]) (.cond 5 (.seq (.ops [.asg 2 (.c (.d (.s (bs []))))]) .ret) .skip)) (.seq (.ops [.bsl 6 9 1 [(.c (.d (.s (bs [65,78,89])))),(.c (.d (.s (bs [73,78,84])))),(.c (.d (.s (bs [84,69,88,84])))),(.c (.d (.s (bs [66,79,79,76]))))],.mv 7 0,.ia 8 1 6 7,.ld 9 1 false 8,.asg 2 9]) .ret)))
theorem bI1:aY Tryz.prog 60=some (bMo,[.mv 0 2],10):=by kernel_rfl
def bYq (r:List UInt8):Exit→St→Prop:=aV [.mv 0 2] fun x _=>x=(fun y=>(vS y)) r
def bK2:AC:=(.seq (.ops [.alc 2 [bO,dJ,bO]]) (.seq (.ops [.mv 3 0,.bld 4 [bO,dJ,bO] [(0,1,(kI 2)),(1,1,3)],.st 3 2 4]) .ret))
theorem bTx:aY Tryz.prog 59=some (bK2,[.ld 0 3 true 2],5):=by kernel_rfl
def cBb (r:aA):Exit→St→Prop:=aV [.ld 0 3 true 2] fun x _=>x=(fun y=>(fE y)) r
def aN4:AC:=(.loop (.seq (.seq (.ops [.mv 12 0,.nck 13 12,.fa 14 2 13,.ld 15 1 false 14,.not 16 15]) (.cond 16 .skip (.exit 0))) (.block 1 (.seq (.ops [.mv 17 0,.call (some 18) 69 [17,(kI 2)],.asg 4 18]) (.seq (.dops [[],[0],[],[],[3],[4,4],[2,5],[6],[1,7,5],[0,1,2,3,4,5,6,7,8],[9,8,8,0,1,2,3,4,5,6,7,8]] [.fa 19 1 3,.ld 20 1 false 19,.mv 21 4,.mv 22 0,.call (some 23) 69 [22,(kI 2)],.call (some 24) 70 [23],.bld 25 [dJ,bO] [(0,1,21),(1,1,24)],.bsl 26 53 2 [25],.app 27 53 2 24 20 26,.fa 28 1 3,.st 1 28 27]) (.seq (.seq (.ops [.mv 29 0,.call (some 30) 34 [29,(.c (.d (.s (bs [44]))))],.not 31 30]) (.cond 31 (.exit 0) .skip)) (.ops [.mv 32 0,.call (some 33) 33 [32,(kB true)]])))))))
def aBo:AC:=(.seq (.ops [.mv 34 0,.mv 35 0,.call (some 36) 34 [35,(.c (.d (.s (bs [41]))))],.call (some 37) 33 [34,36]]) (.seq (.ops [.ld 38 2 true 3,.st 2 2 38]) .ret))
def bGs:AC:=(.seq (.ops [.alc 2 [dJ,(.nil 2)]]) (.seq (.ops [.mv 5 0,.call (some 6) 69 [5,(kI 2)],.bld 7 [dJ,(.nil 2)] [(0,1,6)],.alc 3 [dJ,(.nil 2)],.st 2 3 7]) (.seq (.ops [.mv 8 0,.mv 9 0,.call (some 10) 34 [9,(.c (.d (.s (bs [40]))))],.call (some 11) 33 [8,10]]) (.seq (.block 0 aN4) aBo))))
theorem bP2:aY Tryz.prog 35=some (bGs,[.ld 0 2 true 2],39):=by kernel_rfl
def aIc (r:aQ×cK):Exit→St→Prop:=aV [.ld 0 2 true 2] fun x b=>x=(fun (y:aQ×cK)=>(qC y.1)) r∧dI ((fun (y:aQ×cK)=>[(1000000,[(.osl 6000000 85 3 (y.2.t.map aJ)),(vI y.2.at_),(vB y.2.bad)])]) r) b
def bAs (r:aQ×cK):Exit→St→Prop:=(bG (wkK (avc Tryz.prog aBo (aIc r))) (aIc r))
def bMy (r:aQ×cK):Exit→St→Prop:=(bI 0 (bAs r))
def bBj (y1:(List UInt8)×cK) (iB:List aZ) (bN:List aA) (bD:Int) (bM:Bool):St:=⟨[(0,(.ptr 1000000 0)),(2,(.ptr 2 0)),(3,(.ptr 3 0))],[(2,[(vS []),(.nil 2)]),(3,[(vS y1.1),(.osl 27 53 2 (iB.map eU))]),(1000000,[(.osl 6000000 85 3 (bN.map aJ)),(vI bD),(vB bM)])]⟩
abbrev aFj:=fun y1 iB bN bD bM r=>avc Tryz.prog aN4 (bMy r) (bBj y1 iB bN bD bM)
def bNh (y1:(List UInt8)×cK) (sV:List aZ) (tJ:List aA) (uD:Int) (tL:Bool):St:=⟨[(0,(.ptr 1000000 0)),(2,(.ptr 2 0)),(3,(.ptr 3 0))],[(2,[(vS []),(.nil 2)]),(3,[(vS y1.1),(.osl 27 53 2 (sV.map eU))]),(1000000,[(.osl 6000000 85 3 (tJ.map aJ)),(vI uD),(vB tL)])]⟩
abbrev aPy:=fun y1 sV tJ uD tL r=>avc Tryz.prog aBo (aIc r) (bNh y1 sV tJ uD tL)
def bT3:AC:=(.seq (.ops [.asg 4 (.c (.d (.s (bs []))))]) (.seq (.ops [.mv 6 0,.call (some 7) 68 [6,(kI 0)],.alc 5 [bO,dJ,bO],.st 3 5 7]) (.seq (.ops [.mv 8 0,.mv 9 0,.mv 10 1,.call (some 11) 109 [9,10],.call (some 12) 33 [8,11]]) (.seq (.seq (.ops [.mv 13 0,.nck 14 13,.fa 15 2 14,.ld 16 1 false 15]) (.cond 16 (.seq (.ops [.asg 4 (.c (.d (.s (bs []))))]) .ret) .skip)) (.seq (.ops [.fa 17 1 5,.ld 18 1 false 17,.asg 4 18]) .ret)))))
theorem bMt:aY Tryz.prog 69=some (bT3,[.mv 0 4],19):=by kernel_rfl
def bYx (r:(List UInt8)×cK):Exit→St→Prop:=aV [.mv 0 4] fun x b=>x=(fun (y:(List UInt8)×cK)=>(vS y.1)) r∧dI ((fun (y:(List UInt8)×cK)=>[(1000000,[(.osl 6000000 85 3 (y.2.t.map aJ)),(vI y.2.at_),(vB y.2.bad)])]) r) b
def bR5:AC:=(.seq (.ops [.asg 4 (kB false)]) (.seq (.ops [.mv 6 0,.call (some 7) 68 [6,(kI 0)],.alc 5 [bO,dJ,bO],.st 3 5 7]) (.seq (.ops [.fa 8 0 5,.ld 9 1 false 8,.mv 10 1,.bin 11 .eql 9 10,.mv 12 11,.g 12 true (.ld 13 3 true 5),.g 12 true (.call (some 14) 108 [13]),.pick 15 12 14 (kB false),.asg 4 15]) .ret)))
theorem bAi:aY Tryz.prog 109=some (bR5,[.mv 0 4],16):=by kernel_rfl
def bZ9 (p0:cK) (r:Bool):Exit→St→Prop:=aV [.mv 0 4] fun x b=>x=(fun (y:Bool)=>(vB y)) r∧dI ((fun (y:Bool)=>[(1000000,[(.osl 6000000 85 3 (p0.t.map aJ)),(vI p0.at_),(vB p0.bad)])]) r) b
def aMu:AC:=(.loop (.seq (.seq (.ops [.mv 4 3,.bin 5 .leq 4 (kI 3)]) (.cond 5 .skip (.exit 0))) (.seq (.block 1 (.seq (.ops [.mv 8 3,.call (some 9) 60 [8],.mv 10 0,.bin 11 .eql 9 10]) (.cond 11 (.seq (.ops [.mv 12 3,.asg 2 12]) .ret) .skip))) (.ops [.mv 6 3,.bin 7 .add 6 (kI 1),.asg 3 7]))))
def aWq:AC:=(.seq (.ops [.asg 2 (kI 0)]) .ret)
def bPl:AC:=(.seq (.ops [.asg 2 (kI 0)]) (.seq (.seq (.ops [.asg 3 (kI 1)]) (.block 0 aMu)) aWq))
theorem bR6:aY Tryz.prog 70=some (bPl,[.mv 0 2],13):=by kernel_rfl
def aYs (r:Int):Exit→St→Prop:=aV [.mv 0 2] fun x _=>x=(fun y=>(vI y)) r
def bMl (r:Int):Exit→St→Prop:=(bG (wkK (avc Tryz.prog aWq (aYs r))) (aYs r))
def bBd (r:Int):Exit→St→Prop:=(bI 0 (bMl r))
def bEk (p0:List UInt8) (x3:Int):St:=⟨[(0,(vS p0)),(3,(vI x3))],[]⟩
abbrev aG5:=fun p0 x3 r=>avc Tryz.prog aMu (bBd r) (bEk p0 x3)
def aGv:AC:=(.loop (.block 3 (.seq (.ops [.mv 49 7,.call (some 50) 20 [49,(kI 2)],.asg 10 50]) (.seq (.ops [.bsl 51 9 1 [(.c (.d (.s (bs [])))),(.c (.d (.s (bs [73,78,84])))),(.c (.d (.s (bs [84,69,88,84])))),(.c (.d (.s (bs [66,79,79,76]))))],.mv 52 7,.call (some 53) 20 [52,(kI 2)],.call (some 54) 21 [51,53],.asg 11 54]) (.seq (.ops [.fa 55 1 9,.ld 56 1 false 55,.mv 57 10,.mv 58 11,.bld 59 [dJ,bO] [(0,1,57),(1,1,58)],.bsl 60 53 2 [59],.app 61 53 2 24 56 60,.fa 62 1 9,.st 1 62 61]) (.seq (.ops [.mv 63 7,.call (some 64) 22 [63,(.c (.d (.s (bs [44]))))],.not 65 64]) (.cond 65 (.exit 2) .skip)))))))
def aRs:AC:=(.seq (.ops [.mv 66 7,.call (some 67) 19 [66,(.c (.d (.s (bs [41]))))]]) (.ops [.fa 68 0 6,.ld 69 1 false 68,.ld 70 2 true 9,.bsl 71 49 2 [70],.app 72 49 2 40 69 71,.fa 73 0 6,.st 1 73 72]))
def aKd:AC:=(.seq (.ops [.mv 44 7,.call (some 45) 20 [44,(kI 2)],.bld 46 [dJ,(.nil 2)] [(0,1,45)],.alc 9 [dJ,(.nil 2)],.st 2 9 46]) (.seq (.ops [.mv 47 7,.call (some 48) 19 [47,(.c (.d (.s (bs [40]))))]]) (.seq (.block 2 aGv) aRs)))
def aX1:AC:=(.ops [.mv 38 8,.bin 39 .add 38 (kI 1),.asg 8 39])
def aBp:AC:=(.loop (.seq (.seq (.ops [.mv 24 7,.nck 25 24,.fa 26 2 25,.ld 27 1 false 26,.not 28 27,.mv 29 28,.g 29 true (.mv 30 7),.g 29 true (.nck 31 30),.g 29 true (.fa 32 1 31),.g 29 true (.ld 33 1 false 32),.g 29 true (.mv 34 4),.g 29 true (.len 35 34),.g 29 true (.bin 36 .lss 33 35),.pick 37 29 36 (kB false)]) (.cond 37 .skip (.exit 0))) (.seq (.block 1 (.seq (.seq (.ops [.mv 40 8,.bin 41 .gtr 40 (kI 0)]) (.cond 41 (.ops [.mv 42 7,.call (some 43) 19 [42,(.c (.d (.s (bs [44]))))]]) .skip)) aKd)) aX1)))
def aY4:AC:=(.seq (.seq (.ops [.mv 74 7,.nck 75 74,.fa 76 2 75,.ld 77 1 false 76,.mv 78 77,.g 78 false (.ld 79 1 true 6),.g 78 false (.call (some 80) 15 [79]),.g 78 false (.not 81 80),.pick 82 78 (kB true) 81,.mv 83 82,.g 83 false (.ld 84 1 true 6),.g 83 false (.call (some 85) 17 [84]),.g 83 false (.mv 86 4),.g 83 false (.call (some 87) 23 [85,86]),.g 83 false (.not 88 87),.pick 89 83 (kB true) 88]) (.cond 89 (.seq (.ops [.bld 90 [(.nil 2)] [],.st 1 2 90,.asg 3 (kB false)]) .ret) .skip)) (.seq (.ops [.ld 91 1 true 6,.st 1 2 91,.asg 3 (kB true)]) .ret))
def bMd:AC:=(.seq (.ops [.alc 2 [(.nil 2)],.asg 3 (kB false)]) (.seq (.ops [.mv 13 0,.call (some 14) 18 [13],.mv 12 14,.ext 15 12 0,.ext 16 12 1,.asg 4 15,.asg 5 16]) (.seq (.seq (.ops [.mv 17 5,.bin 18 .geq 17 (kI 0)]) (.cond 18 (.seq (.ops [.bld 19 [(.nil 2)] [],.st 1 2 19,.asg 3 (kB false)]) .ret) .skip)) (.seq (.ops [.bld 20 [(.nil 2)] [],.alc 6 [(.nil 2)],.st 1 6 20]) (.seq (.ops [.mv 21 4,.bld 22 [(.nil 3),bO,aOf] [(0,1,21)],.box 23 44 22,.asg 7 23]) (.seq (.seq (.ops [.asg 8 (kI 0)]) (.block 0 aBp)) aY4))))))
theorem bFd:aY Tryz.prog 7=some (bMd,[.ld 0 1 true 2,.mv 0 3],92):=by kernel_rfl
def aTt (r:aR×Bool):Exit→St→Prop:=aV [.ld 0 1 true 2,.mv 0 3] fun x _=>x=(fun y=>(.tup [(iY y.1),(vB y.2)])) r
def bOf (r:aR×Bool):Exit→St→Prop:=(bG (wkK (avc Tryz.prog aY4 (aTt r))) (aTt r))
def aM5 (r:aR×Bool):Exit→St→Prop:=(bI 0 (bOf r))
def aSl (r:aR×Bool):Exit→St→Prop:=(bG (avc Tryz.prog aBp (aM5 r)) (aM5 r))
def bDc (r:aR×Bool):Exit→St→Prop:=(bG (wkK (avc Tryz.prog aX1 (aSl r))) (aSl r))
def aM3 (r:aR×Bool):Exit→St→Prop:=(bI 1 (bDc r))
def bAq (r:aR×Bool):Exit→St→Prop:=(bG (wkK (avc Tryz.prog aRs (aM3 r))) (aM3 r))
def bGr (r:aR×Bool):Exit→St→Prop:=(bI 2 (bAq r))
def bLt (x4:List aA) (x8:Int) (bL:List aQ) (kH:List aA) (jM:Int) (jA:Bool):St:=⟨[(2,(.ptr 2 0)),(4,(eD x4)),(6,(.ptr 6 0)),(7,(.ptr 23 0)),(8,(vI x8))],[(2,[(.nil 2)]),(6,[(.osl 72 49 2 (bL.map bX))]),(23,[(.osl 4 85 3 (kH.map aJ)),(vI jM),(vB jA)])]⟩
abbrev aCf:=fun x4 x8 bL kH jM jA r=>avc Tryz.prog aBp (aM5 r) (bLt x4 x8 bL kH jM jA)
def bL1 (x8:Int) (bL:List aQ) (fK:List aA) (mF:List aA) (mO:Int) (mP:Bool):St:=⟨[(2,(.ptr 2 0)),(4,(eD fK)),(6,(.ptr 6 0)),(7,(.ptr 23 0)),(8,(vI x8))],[(2,[(.nil 2)]),(6,[(.osl 72 49 2 (bL.map bX))]),(23,[(.osl 4 85 3 (mF.map aJ)),(vI mO),(vB mP)])]⟩
abbrev aF1:=fun x8 bL fK mF mO mP r=>avc Tryz.prog aKd (aM3 r) (bL1 x8 bL fK mF mO mP)
def bPm (fK:List aA) (x8:Int) (bL:List aQ) (y13:(List UInt8)×bZ) (fP:List aZ) (lM:List aA) (lZ:Int) (lQ:Bool):St:=⟨[(2,(.ptr 2 0)),(4,(eD fK)),(6,(.ptr 6 0)),(7,(.ptr 23 0)),(8,(vI x8)),(9,(.ptr 9 0))],[(2,[(.nil 2)]),(6,[(.osl 72 49 2 (bL.map bX))]),(9,[(vS y13.1),(.osl 61 53 2 (fP.map eU))]),(23,[(.osl 4 85 3 (lM.map aJ)),(vI lZ),(vB lQ)])]⟩
abbrev aEb:=fun fK x8 bL y13 fP lM lZ lQ r=>avc Tryz.prog aGv (bGr r) (bPm fK x8 bL y13 fP lM lZ lQ)
def aJ6:AC:=(.seq (.ops [.mv 17 5,.asg 4 17]) .ret)
def bR0:AC:=(.seq (.ops [.asg 4 (kB false)]) (.seq (.ops [.mv 6 0,.mv 7 1,.call (some 8) 55 [6,7],.asg 5 8]) (.seq (.seq (.ops [.mv 9 5]) (.cond 9 (.ops [.mv 10 0,.nck 11 10,.fa 12 1 11,.ld 13 1 false 12,.bin 14 .add 13 (kI 1),.nck 15 10,.fa 16 1 15,.st 1 16 14]) .skip)) aJ6)))
theorem bDe:aY Tryz.prog 22=some (bR0,[.mv 0 4],18):=by kernel_rfl
def bA5 (r:Bool×bZ):Exit→St→Prop:=aV [.mv 0 4] fun x b=>x=(fun (y:Bool×bZ)=>(vB y.1)) r∧dI ((fun (y:Bool×bZ)=>[(1000000,[(.osl 6000000 85 3 (y.2.list.map aJ)),(vI y.2.at_),(vB y.2.failed)])]) r) b
def bAt (y1:Bool) (p0:bZ) (bD:Int):St:=⟨[(5,(vB y1))],[(1000000,[(.osl 6000000 85 3 (p0.list.map aJ)),(vI bD),(vB p0.failed)])]⟩
abbrev aUo:=fun y1 p0 bD r=>avc Tryz.prog aJ6 (bA5 r) (bAt y1 p0 bD)
def bKh:AC:=(.seq (.ops [.asg 4 (kB false)]) (.seq (.ops [.mv 5 0,.mv 6 1,.call (some 7) 97 [5,(kI 0),(kI 5),6],.asg 4 7]) .ret))
theorem bQm:aY Tryz.prog 55=some (bKh,[.mv 0 4],8):=by kernel_rfl
def bZg (p0:bZ) (r:Bool):Exit→St→Prop:=aV [.mv 0 4] fun x b=>x=(fun (y:Bool)=>(vB y)) r∧dI ((fun (y:Bool)=>[(1000000,[(.osl 6000000 85 3 (p0.list.map aJ)),(vI p0.at_),(vB p0.failed)])]) r) b
def bTq:AC:=(.seq (.ops [.asg 8 (kB false)]) (.seq (.ops [.mv 10 0,.nck 11 10,.fa 12 1 11,.ld 13 1 false 12,.mv 14 1,.bin 15 .add 13 14,.asg 9 15]) (.seq (.ops [.mv 16 0,.nck 17 16,.fa 18 2 17,.ld 19 1 false 18,.not 20 19,.mv 21 20,.g 21 true (.mv 22 9),.g 21 true (.mv 23 0),.g 21 true (.nck 24 23),.g 21 true (.fa 25 0 24),.g 21 true (.ld 26 1 false 25),.g 21 true (.len 27 26),.g 21 true (.bin 28 .lss 22 27),.pick 29 21 28 (kB false),.mv 30 29,.g 30 true (.mv 31 0),.g 30 true (.nck 32 31),.g 30 true (.fa 33 0 32),.g 30 true (.ld 34 1 false 33),.g 30 true (.mv 35 9),.g 30 true (.ia 36 3 34 35),.g 30 true (.fa 37 0 36),.g 30 true (.ld 38 1 false 37),.g 30 true (.mv 39 2),.g 30 true (.bin 40 .eql 38 39),.pick 41 30 40 (kB false),.mv 42 41,.g 42 true (.mv 43 0),.g 42 true (.nck 44 43),.g 42 true (.fa 45 0 44),.g 42 true (.ld 46 1 false 45),.g 42 true (.mv 47 9),.g 42 true (.ia 48 3 46 47),.g 42 true (.fa 49 1 48),.g 42 true (.ld 50 1 false 49),.g 42 true (.mv 51 3),.g 42 true (.bin 52 .eql 50 51),.pick 53 42 52 (kB false),.asg 8 53]) .ret)))
theorem bOj:aY Tryz.prog 97=some (bTq,[.mv 0 8],54):=by kernel_rfl
def bZp (p0:bZ) (r:Bool):Exit→St→Prop:=aV [.mv 0 8] fun x b=>x=(fun (y:Bool)=>(vB y)) r∧dI ((fun (y:Bool)=>[(1000000,[(.osl 6000000 85 3 (p0.list.map aJ)),(vI p0.at_),(vB p0.failed)])]) r) b
def bBq:AC:=(.seq (.ops [.asg 4 (.c (.d (.s (bs []))))]) (.seq (.seq (.ops [.mv 5 0,.mv 6 1,.call (some 7) 54 [5,6],.not 8 7]) (.cond 8 (.seq (.ops [.mv 9 0,.nck 10 9,.fa 11 2 10,.st 1 11 (kB true)]) (.seq (.ops [.asg 4 (.c (.d (.s (bs []))))]) .ret)) .skip)) (.seq (.ops [.mv 12 0,.nck 13 12,.fa 14 1 13,.ld 15 1 false 14,.bin 16 .add 15 (kI 1),.nck 17 12,.fa 18 1 17,.st 1 18 16]) (.seq (.dops [[],[0],[1],[2],[],[4],[5],[6],[7],[3,8],[9],[10],[11,0,1,2,3,4,5,6,7,8,9,10,11]] [.mv 19 0,.nck 20 19,.fa 21 0 20,.ld 22 1 false 21,.mv 23 0,.nck 24 23,.fa 25 1 24,.ld 26 1 false 25,.bin 27 .sub 26 (kI 1),.ia 28 3 22 27,.fa 29 1 28,.ld 30 1 false 29,.asg 4 30]) .ret))))
theorem bR1:aY Tryz.prog 20=some (bBq,[.mv 0 4],31):=by kernel_rfl
def bXo (r:(List UInt8)×bZ):Exit→St→Prop:=aV [.mv 0 4] fun x b=>x=(fun (y:(List UInt8)×bZ)=>(vS y.1)) r∧dI ((fun (y:(List UInt8)×bZ)=>[(1000000,[(.osl 6000000 85 3 (y.2.list.map aJ)),(vI y.2.at_),(vB y.2.failed)])]) r) b
def bKa:AC:=(.seq (.ops [.asg 4 (kB false)]) (.seq (.dops [[],[0],[1],[2],[3],[4],[5],[6,5],[7,5],[8,5],[5],[10,5],[11,5],[12,5],[13,5],[9,14,5],[5,15],[16,5],[17],[18,17],[19,17],[20,17],[17],[22,17],[23,17],[24,17],[21,25,17],[26,17],[27,17],[17],[28,29,17],[17,30],[31,17],[32],[33,32],[34,32],[35,32],[32],[37,32],[38,32],[39,32],[36,40,32],[41,32],[42,32,32],[32,43],[44,43,0,1,2,3,4,5,6,7,8,9,10,11,12,13,14,15,16,17,18,19,20,21,22,23,24,25,26,27,28,29,30,31,32,33,34,35,36,37,38,39,40,41,42,43,44]] [.mv 5 0,.nck 6 5,.fa 7 2 6,.ld 8 1 false 7,.not 9 8,.mv 10 9,.g 10 true (.mv 11 0),.g 10 true (.nck 12 11),.g 10 true (.fa 13 1 12),.g 10 true (.ld 14 1 false 13),.g 10 true (.mv 15 0),.g 10 true (.nck 16 15),.g 10 true (.fa 17 0 16),.g 10 true (.ld 18 1 false 17),.g 10 true (.len 19 18),.g 10 true (.bin 20 .lss 14 19),.pick 21 10 20 (kB false),.mv 22 21,.g 22 true (.mv 23 0),.g 22 true (.nck 24 23),.g 22 true (.fa 25 0 24),.g 22 true (.ld 26 1 false 25),.g 22 true (.mv 27 0),.g 22 true (.nck 28 27),.g 22 true (.fa 29 1 28),.g 22 true (.ld 30 1 false 29),.g 22 true (.ia 31 3 26 30),.g 22 true (.fa 32 0 31),.g 22 true (.ld 33 1 false 32),.g 22 true (.mv 34 1),.g 22 true (.bin 35 .eql 33 34),.pick 36 22 35 (kB false),.mv 37 36,.g 37 true (.mv 38 0),.g 37 true (.nck 39 38),.g 37 true (.fa 40 0 39),.g 37 true (.ld 41 1 false 40),.g 37 true (.mv 42 0),.g 37 true (.nck 43 42),.g 37 true (.fa 44 1 43),.g 37 true (.ld 45 1 false 44),.g 37 true (.ia 46 3 41 45),.g 37 true (.ld 47 3 true 46),.g 37 true (.call (some 48) 80 [47]),.pick 49 37 48 (kB false),.asg 4 49]) .ret))
theorem bE2:aY Tryz.prog 54=some (bKa,[.mv 0 4],50):=by kernel_rfl
def bYa (p0:bZ) (r:Bool):Exit→St→Prop:=aV [.mv 0 4] fun x b=>x=(fun (y:Bool)=>(vB y)) r∧dI ((fun (y:Bool)=>[(1000000,[(.osl 6000000 85 3 (p0.list.map aJ)),(vI p0.at_),(vB p0.failed)])]) r) b
def bDu:AC:=(.seq (.ops [.mv 4 0,.mv 5 1,.call (some 6) 22 [4,5],.not 7 6]) (.cond 7 (.ops [.mv 8 0,.nck 9 8,.fa 10 2 9,.st 1 10 (kB true)]) .skip))
theorem bFg:aY Tryz.prog 19=some (bDu,[],11):=by kernel_rfl
def cA7 (r:bZ):Exit→St→Prop:=aV [] fun x b=>x=(fun (y:bZ)=>(.tup [])) r∧dI ((fun (y:bZ)=>[(1000000,[(.osl 6000000 85 3 (y.list.map aJ)),(vI y.at_),(vB y.failed)])]) r) b
def aL0:AC:=(.loop (.block 1 (.seq (.ops [.mv 16 0,.mv 17 5,.call (some 18) 52 [16,17],.mv 15 18,.ext 19 15 0,.ext 20 15 1,.asg 6 19,.asg 7 20]) (.seq (.seq (.ops [.mv 21 7,.not 22 21]) (.cond 22 (.seq (.ops [.mv 23 6,.asg 2 (.c (.nil 3)),.asg 3 23]) .ret) .skip)) (.seq (.seq (.ops [.mv 24 6,.mv 25 0,.lns 26 25,.bin 27 .eql 24 26]) (.cond 27 (.seq (.ops [.mv 28 4,.asg 2 28,.asg 3 (kI (-1))]) .ret) .skip)) (.seq (.ops [.mv 30 0,.mv 31 6,.call (some 32) 53 [30,31],.mv 29 32,.ext 33 29 0,.ext 34 29 1,.ext 35 29 2,.alc 8 [bO,dJ,bO],.st 3 8 33,.asg 9 34,.asg 10 35]) (.seq (.seq (.ops [.mv 36 10,.not 37 36]) (.cond 37 (.seq (.ops [.mv 38 6,.asg 2 (.c (.nil 3)),.asg 3 38]) .ret) .skip)) (.seq (.ops [.mv 39 4,.ld 40 3 true 8,.bsl 41 85 3 [40],.app 42 85 3 32 39 41,.asg 4 42]) (.ops [.mv 43 9,.asg 5 43])))))))))
def bL7:AC:=(.seq (.ops [.asg 2 (.c (.nil 3)),.asg 3 (kI 0)]) (.seq (.seq (.ops [.mv 11 0,.lns 12 11,.bin 13 .gtr 12 (kI 2000)]) (.cond 13 (.seq (.ops [.asg 2 (.c (.nil 3)),.asg 3 (kI 2000)]) .ret) .skip)) (.seq (.ops [.bsl 14 85 3 [],.asg 4 14]) (.seq (.ops [.asg 5 (kI 0)]) (.block 0 aL0)))))
theorem bO8:aY Tryz.prog 18=some (bL7,[.mv 0 2,.mv 0 3],44):=by kernel_rfl
def bU4 (r:(List aA)×Int):Exit→St→Prop:=aV [.mv 0 2,.mv 0 3] fun x b=>x=(fun (y:(List aA)×Int)=>(.tup [(.osl 2000000 85 3 (y.1.map aJ)),(vI y.2)])) r∧dI ((fun (y:(List aA)×Int)=>[]) r) b
def bQu (r:(List aA)×Int):Exit→St→Prop:=(bI 0 (bU4 r))
def bWc (p0:List UInt8) (x4:List aA) (x5:Int):St:=⟨[(0,(vS p0)),(4,(.osl 4 85 3 (x4.map aJ))),(5,(vI x5))],[]⟩
abbrev aEz:=fun p0 x4 x5 r=>avc Tryz.prog aL0 (bQu r) (bWc p0 x4 x5)
def aGz:AC:=(.loop (.seq (.seq (.ops [.mv 9 1,.mv 10 0,.lns 11 10,.bin 12 .lss 9 11]) (.cond 12 .skip (.exit 0))) (.block 1 (.seq (.ops [.mv 13 0,.mv 14 1,.sls 15 13 (some 14) none,.asg 6 15]) (.block 2 (.seq (.ops [.mv 18 0,.mv 19 1,.ix 20 18 19,.call (some 21) 88 [(.c (.d (.s (bs [32,9,10,13])))),20],.bin 22 .geq 21 (kI 0),.asg 17 22]) (.cond 17 (.ops [.mv 23 1,.bin 24 .add 23 (kI 1),.asg 1 24]) (.seq (.ops [.mv 26 6,.call (some 27) 89 [26,(.c (.d (.s (bs [45,45]))))],.asg 25 27]) (.cond 25 (.seq (.ops [.mv 28 6,.call (some 29) 88 [28,(.c (.d (.i .u8 10)))],.asg 7 29]) (.seq (.seq (.ops [.mv 30 7,.bin 31 .lss 30 (kI 0)]) (.cond 31 (.seq (.ops [.mv 32 0,.lns 33 32,.asg 4 33,.asg 5 (kB true)]) .ret) .skip)) (.ops [.mv 34 1,.mv 35 7,.bin 36 .add 35 (kI 1),.bin 37 .add 34 36,.asg 1 37]))) (.seq (.ops [.mv 39 6,.call (some 40) 89 [39,(.c (.d (.s (bs [47,42]))))],.asg 38 40]) (.cond 38 (.seq (.ops [.mv 41 6,.sls 42 41 (some (kI 2)) none,.call (some 43) 90 [42,(.c (.d (.s (bs [42,47]))))],.asg 8 43]) (.seq (.seq (.ops [.mv 44 8,.bin 45 .lss 44 (kI 0)]) (.cond 45 (.seq (.ops [.mv 46 1,.asg 4 46,.asg 5 (kB false)]) .ret) .skip)) (.ops [.mv 47 1,.mv 48 8,.bin 49 .add 48 (kI 4),.bin 50 .add 47 49,.asg 1 50]))) (.seq (.ops [.mv 16 1,.asg 4 16,.asg 5 (kB true)]) .ret))))))))))))
def aTu:AC:=(.seq (.ops [.mv 51 1,.asg 4 51,.asg 5 (kB true)]) .ret)
def bT0:AC:=(.seq (.ops [.asg 4 (kI 0),.asg 5 (kB false)]) (.seq (.block 0 aGz) aTu))
theorem bH9:aY Tryz.prog 52=some (bT0,[.mv 0 4,.mv 0 5],52):=by kernel_rfl
def aSs (r:Int×Bool):Exit→St→Prop:=aV [.mv 0 4,.mv 0 5] fun x _=>x=(fun y=>(.tup [(vI y.1),(vB y.2)])) r
def bSu (r:Int×Bool):Exit→St→Prop:=(bG (wkK (avc Tryz.prog aTu (aSs r))) (aSs r))
def bGp (r:Int×Bool):Exit→St→Prop:=(bI 0 (bSu r))
def bDn (p0:List UInt8) (x1:Int):St:=⟨[(0,(vS p0)),(1,(vI x1))],[]⟩
abbrev aG0:=fun p0 x1 r=>avc Tryz.prog aGz (bGp r) (bDn p0 x1)

def bGo:AC:=(.seq (.ops [.asg 4 (kB false)]) (.seq (.ops [.mv 5 0,.mv 6 1,.call (some 7) 119 [5,6],.asg 4 7]) .ret))
theorem bUs:aY Tryz.prog 89=some (bGo,[.mv 0 4],8):=by kernel_rfl
def bZ7 (r:Bool):Exit→St→Prop:=aV [.mv 0 4] fun x _=>x=(fun y=>(vB y)) r
def bWt:AC:=(.seq (.ops [.asg 4 (kB false)]) (.seq (.ops [.mv 5 0,.lns 6 5,.mv 7 1,.lns 8 7,.bin 9 .geq 6 8,.mv 10 9,.g 10 true (.mv 11 0),.g 10 true (.mv 12 1),.g 10 true (.lns 13 12),.g 10 true (.sls 14 11 none (some 13)),.g 10 true (.mv 15 1),.g 10 true (.bin 16 .eql 14 15),.pick 17 10 16 (kB false),.asg 4 17]) .ret))
theorem bE5:aY Tryz.prog 119=some (bWt,[.mv 0 4],18):=by kernel_rfl
def bXw (r:Bool):Exit→St→Prop:=aV [.mv 0 4] fun x _=>x=(fun y=>(vB y)) r

def aNe:AC:=(.loop (.seq (.seq (.ops [.mv 52 8,.mv 53 0,.lns 54 53,.bin 55 .lss 52 54,.mv 56 55,.g 56 true (.mv 57 0),.g 56 true (.mv 58 8),.g 56 true (.ix 59 57 58),.g 56 true (.call (some 60) 91 [59]),.pick 61 56 60 (kB false)]) (.cond 61 .skip (.exit 3))) (.block 4 (.ops [.mv 62 8,.bin 63 .add 62 (kI 1),.asg 8 63]))))
def aD8:AC:=(.seq (.dops [[],[],[],[2],[0,3,0],[1,4,0,1,4],[3,5,0,1,2,3,4,5]] [.ld 106 3 true 7,.mv 107 8,.ld 108 3 true 7,.call (some 109) 80 [108],.st 3 4 106,.asg 5 107,.asg 6 109]) .ret)
def aJv:AC:=(.ops [.bin 43 .add 24 (kI 1),.mv 24 43])
def aFa:AC:=(.loop (.seq (.ops [.bin 25 .lss 24 23]) (.seq (.cond 25 .skip (.exit 1)) (.seq (.block 2 (.seq (.ops [.ia 26 1 22 24,.ld 27 1 false 26,.asg 14 27]) (.seq (.ops [.mv 28 0,.mv 29 1,.sls 30 28 (some 29) none,.mv 31 14,.call (some 32) 89 [30,31],.mv 33 32,.g 33 true (.mv 34 14),.g 33 true (.lns 35 34),.g 33 true (.fa 36 1 7),.g 33 true (.ld 37 1 false 36),.g 33 true (.lns 38 37),.g 33 true (.bin 39 .gtr 35 38),.pick 40 33 39 (kB false)]) (.cond 40 (.ops [.mv 41 14,.fa 42 1 7,.st 1 42 41]) .skip)))) aJv))))
def aZ6:AC:=(.seq (.dops [[],[],[],[0,1,2],[],[4],[0,1,2,3,4,5],[6,3,5,0,1,2,3,4,5]] [.mv 64 0,.mv 65 1,.mv 66 8,.sls 67 64 (some 65) (some 66),.fa 68 0 7,.st 1 68 (kI 2),.fa 69 1 7,.st 1 69 67]) (.seq (.ops [.mv 70 9,.call (some 71) 92 [70]]) (.cond 71 (.ops [.fa 72 0 7,.st 1 72 (kI 3)]) (.seq (.ops [.fa 73 1 7,.ld 74 1 false 73,.call (some 75) 93 [74],.bin 76 .neq 75 (kI 0)]) (.cond 76 (.ops [.fa 77 1 7,.ld 78 1 false 77,.call (some 79) 94 [78],.fa 80 0 7,.st 1 80 (kI 1),.fa 81 1 7,.st 1 81 79]) .skip)))))
def aZ1:AC:=(.ops [.mv 44 8,.fa 45 1 7,.ld 46 1 false 45,.lns 47 46,.bin 48 .add 44 47,.asg 8 48])
def bL5:AC:=(.seq (.ops [.alc 4 [bO,dJ,bO],.asg 5 (kI 0),.asg 6 (kB false)]) (.seq (.ops [.mv 15 1,.bld 16 [bO,dJ,bO] [(2,1,15)],.alc 7 [bO,dJ,bO],.st 3 7 16]) (.seq (.ops [.mv 17 1,.asg 8 17]) (.seq (.seq (.ops [.mv 18 0,.mv 19 1,.ix 20 18 19,.asg 9 20]) (.block 0 (.seq (.ops [.mv 50 9,.call (some 51) 91 [50],.asg 49 51]) (.cond 49 (.seq (.block 3 aNe) aZ6) (.seq (.ops [.mv 83 9,.bin 84 .eql 83 (.c (.d (.i .u8 34))),.mv 85 84,.g 85 false (.mv 86 9),.g 85 false (.bin 87 .eql 86 (.c (.d (.i .u8 39)))),.pick 88 85 (kB true) 87,.asg 82 88]) (.cond 82 (.seq (.ops [.mv 90 0,.mv 91 1,.call (some 92) 95 [90,91],.mv 89 92,.ext 93 89 0,.ext 94 89 1,.ext 95 89 2,.asg 10 93,.asg 11 94,.asg 12 95]) (.seq (.seq (.ops [.mv 96 12,.not 97 96]) (.cond 97 (.seq (.ops [.bld 98 [bO,dJ,bO] [],.st 3 4 98,.asg 5 (kI 0),.asg 6 (kB false)]) .ret) .skip)) (.seq (.ops [.mv 99 11,.asg 8 99]) (.seq (.ops [.mv 100 10,.fa 101 0 7,.st 1 101 (kI 2),.fa 102 1 7,.st 1 102 100]) (.seq (.ops [.mv 103 9,.bin 104 .eql 103 (.c (.d (.i .u8 39)))]) (.cond 104 (.ops [.fa 105 0 7,.st 1 105 (kI 4)]) .skip)))))) (.seq (.ops [.fa 21 0 7,.st 1 21 (kI 5)]) (.seq (.seq (.ops [.call (some 22) 96 [],.len 23 22,.mv 24 (kI 0)]) (.block 1 aFa)) aZ1)))))))) aD8))))
theorem bSm:aY Tryz.prog 53=some (bL5,[.ld 0 3 true 4,.mv 0 5,.mv 0 6],110):=by kernel_rfl
def aMb (r:aA×Int×Bool):Exit→St→Prop:=aV [.ld 0 3 true 4,.mv 0 5,.mv 0 6] fun x _=>x=(fun y=>(.tup [(fE y.1),(vI y.2.1),(vB y.2.2)])) r
def bGj (r:aA×Int×Bool):Exit→St→Prop:=(bG (wkK (avc Tryz.prog aD8 (aMb r))) (aMb r))
def aEs (r:aA×Int×Bool):Exit→St→Prop:=(bI 0 (bGj r))
def bFb (r:aA×Int×Bool):Exit→St→Prop:=(bG (wkK (avc Tryz.prog aZ6 (aEs r))) (aEs r))
def bGf (r:aA×Int×Bool):Exit→St→Prop:=(bI 3 (bFb r))
def bGm (r:aA×Int×Bool):Exit→St→Prop:=(bG (wkK (avc Tryz.prog aZ1 (aEs r))) (aEs r))
def aJl (r:aA×Int×Bool):Exit→St→Prop:=(bI 1 (bGm r))
def bUu (r:aA×Int×Bool):Exit→St→Prop:=(bG (avc Tryz.prog aFa (aJl r)) (aJl r))
def aWn (p0:List UInt8) (p1:Int) (y1:Int) (x8:Int):St:=⟨[(0,(vS p0)),(1,(vI p1)),(4,(.ptr 4 0)),(7,(.ptr 7 0)),(8,(vI x8)),(9,(.d (.i .u8 y1)))],[(4,[(vI 0),(vS []),(vI 0)]),(7,qG (aA.mk 0 [] p1))]⟩
abbrev aEr:=fun p0 p1 y1 x8 r=>avc Tryz.prog aNe (bGf r) (aWn p0 p1 y1 x8)
def bLn (p1:Int) (xJ:Int) (dZ:Int) (uT:List UInt8):St:=⟨[(4,(.ptr 4 0)),(7,(.ptr 7 0)),(8,(vI xJ))],[(4,[(vI 0),(vS []),(vI 0)]),(7,qG (aA.mk dZ uT p1))]⟩
abbrev aVq:=fun p1 xJ dZ uT r=>avc Tryz.prog aD8 (aMb r) (bLn p1 xJ dZ uT)
def bUj (p0:List UInt8) (p1:Int) (y6:List (List UInt8)) (x24:Int) (jL:List UInt8):St:=⟨[(0,(vS p0)),(1,(vI p1)),(4,(.ptr 4 0)),(7,(.ptr 7 0)),(8,(vI p1)),(22,(.osl 22 9 1 (y6.map cStr))),(23,(vI (y6.length:Int))),(24,(vI x24))],[(4,[(vI 0),(vS []),(vI 0)]),(7,qG (aA.mk 5 jL p1))]⟩
abbrev aDd:=fun p0 p1 y6 x24 jL r=>avc Tryz.prog aFa (aJl r) (bUj p0 p1 y6 x24 jL)
def bX0 (p0:List UInt8) (p1:Int) (y6:List (List UInt8)) (x24:Int) (lY:List UInt8):St:=⟨[(0,(vS p0)),(1,(vI p1)),(4,(.ptr 4 0)),(7,(.ptr 7 0)),(8,(vI p1)),(22,(.osl 22 9 1 (y6.map cStr))),(23,(vI (y6.length:Int))),(24,(vI x24))],[(4,[(vI 0),(vS []),(vI 0)]),(7,qG (aA.mk 5 lY p1))]⟩
abbrev aE7:=fun p0 p1 y6 x24 lY r=>avc Tryz.prog aJv (bUu r) (bX0 p0 p1 y6 x24 lY)
def aJh:AC:=(.ops [.mv 46 8,.mv 47 0,.mv 48 9,.ix 49 47 48,.bsl 50 5 1 [49],.app 51 5 1 1 46 50,.asg 8 51])
def aW4:AC:=(.ops [.mv 20 9,.bin 21 .add 20 (kI 1),.asg 9 21])
def aDa:AC:=(.loop (.seq (.seq (.ops [.mv 16 9,.mv 17 0,.lns 18 17,.bin 19 .lss 16 18]) (.cond 19 .skip (.exit 0))) (.seq (.block 1 (.seq (.seq (.ops [.mv 22 0,.mv 23 9,.ix 24 22 23,.mv 25 7,.bin 26 .eql 24 25]) (.cond 26 (.seq (.seq (.ops [.mv 27 9,.bin 28 .add 27 (kI 1),.mv 29 0,.lns 30 29,.bin 31 .eql 28 30,.mv 32 31,.g 32 false (.mv 33 0),.g 32 false (.mv 34 9),.g 32 false (.bin 35 .add 34 (kI 1)),.g 32 false (.ix 36 33 35),.g 32 false (.mv 37 7),.g 32 false (.bin 38 .neq 36 37),.pick 39 32 (kB true) 38]) (.cond 39 (.seq (.ops [.mv 40 8,.cbs 41 40,.mv 42 9,.bin 43 .add 42 (kI 1),.asg 4 41,.asg 5 43,.asg 6 (kB true)]) .ret) .skip)) (.ops [.mv 44 9,.bin 45 .add 44 (kI 1),.asg 9 45])) .skip)) aJh)) aW4)))
def aV7:AC:=(.seq (.ops [.asg 4 (.c (.d (.s (bs [])))),.asg 5 (kI 0),.asg 6 (kB false)]) .ret)
def bA0:AC:=(.seq (.ops [.asg 4 (.c (.d (.s (bs [])))),.asg 5 (kI 0),.asg 6 (kB false)]) (.seq (.ops [.mv 10 0,.mv 11 1,.ix 12 10 11,.asg 7 12]) (.seq (.ops [.bsl 13 5 1 [],.asg 8 13]) (.seq (.seq (.ops [.mv 14 1,.bin 15 .add 14 (kI 1),.asg 9 15]) (.block 0 aDa)) aV7))))
theorem bQt:aY Tryz.prog 95=some (bA0,[.mv 0 4,.mv 0 5,.mv 0 6],52):=by kernel_rfl
def aS2 (r:(List UInt8)×Int×Bool):Exit→St→Prop:=aV [.mv 0 4,.mv 0 5,.mv 0 6] fun x _=>x=(fun y=>(.tup [(vS y.1),(vI y.2.1),(vB y.2.2)])) r
def bMs (r:(List UInt8)×Int×Bool):Exit→St→Prop:=(bG (wkK (avc Tryz.prog aV7 (aS2 r))) (aS2 r))
def aK3 (r:(List UInt8)×Int×Bool):Exit→St→Prop:=(bI 0 (bMs r))
def aQ8 (r:(List UInt8)×Int×Bool):Exit→St→Prop:=(bG (avc Tryz.prog aDa (aK3 r)) (aK3 r))
def bBe (r:(List UInt8)×Int×Bool):Exit→St→Prop:=(bG (wkK (avc Tryz.prog aW4 (aQ8 r))) (aQ8 r))
def bWd (r:(List UInt8)×Int×Bool):Exit→St→Prop:=(bI 1 (bBe r))
def bWw (p0:List UInt8) (y1:Int) (x8:List Int) (x9:Int):St:=⟨[(0,(vS p0)),(7,(.d (.i .u8 y1))),(8,(.osl 8 5 1 (x8.map cU8))),(9,(vI x9))],[]⟩
abbrev aCm:=fun p0 y1 x8 x9 r=>avc Tryz.prog aDa (aK3 r) (bWw p0 y1 x8 x9)
def bF5 (p0:List UInt8) (y1:Int) (x8:List Int) (lH:Int):St:=⟨[(0,(vS p0)),(7,(.d (.i .u8 y1))),(8,(.osl 8 5 1 (x8.map cU8))),(9,(vI lH))],[]⟩
abbrev aDw:=fun p0 y1 x8 lH r=>avc Tryz.prog aJh (bWd r) (bF5 p0 y1 x8 lH)
def bSx:AC:=(.seq (.ops [.asg 4 (kB false)]) (.seq (.ops [.mv 5 0,.mv 6 1,.call (some 7) 56 [5,6,(.c (.fn 57 []))],.asg 4 7]) .ret))
theorem bNw:aY Tryz.prog 23=some (bSx,[.mv 0 4],8):=by kernel_rfl
def bXq (r:Bool):Exit→St→Prop:=aV [.mv 0 4] fun x _=>x=(fun y=>(vB y)) r
def aK1:AC:=(.loop (.seq (.ops [.bin 18 .lss 17 16]) (.seq (.cond 18 .skip (.exit 0)) (.seq (.block 1 (.seq (.ops [.mv 19 17,.ia 20 3 15 17,.ld 21 3 true 20,.alc 8 [bO,dJ,bO],.asg 7 19,.st 3 8 21]) (.seq (.ops [.mv 22 1,.mv 23 7,.ia 24 3 22 23,.ld 25 3 true 24,.alc 9 [bO,dJ,bO],.st 3 9 25]) (.seq (.ops [.mv 26 2,.ld 27 3 true 8,.ld 28 3 true 9,.callv (some 29) 26 [27,28],.not 30 29]) (.cond 30 (.seq (.ops [.asg 6 (kB false)]) .ret) .skip))))) (.ops [.bin 31 .add 17 (kI 1),.mv 17 31])))))
def aPu:AC:=(.seq (.ops [.asg 6 (kB true)]) .ret)
def bQe:AC:=(.seq (.ops [.asg 6 (kB false)]) (.seq (.seq (.ops [.mv 10 0,.len 11 10,.mv 12 1,.len 13 12,.bin 14 .neq 11 13]) (.cond 14 (.seq (.ops [.asg 6 (kB false)]) .ret) .skip)) (.seq (.seq (.ops [.mv 15 0,.len 16 15,.mv 17 (kI 0)]) (.block 0 aK1)) aPu)))
theorem bIw:aY Tryz.prog 56=some (bQe,[.mv 0 6],32):=by kernel_rfl
def aQ4 (r:Bool):Exit→St→Prop:=aV [.mv 0 6] fun x _=>x=(fun y=>(vB y)) r
def bDr (r:Bool):Exit→St→Prop:=(bG (wkK (avc Tryz.prog aPu (aQ4 r))) (aQ4 r))
def bDd (r:Bool):Exit→St→Prop:=(bI 0 (bDr r))
def bE9 (p1:List aA) (p0:List aA) (x17:Int):St:=⟨[(1,(eD p1)),(2,(.fn 57 [])),(15,(eD p0)),(16,(vI (p0.length:Int))),(17,(vI x17))],[]⟩
abbrev aE2:=fun p1 p0 x17 r=>avc Tryz.prog aK1 (bDd r) (bE9 p1 p0 x17)
def bPi:AC:=(.seq (.ops [.box 2 85 0,.box 3 85 1,.asg 4 (kB false)]) (.seq (.ops [.fa 5 0 2,.ld 6 1 false 5,.fa 7 0 3,.ld 8 1 false 7,.bin 9 .eql 6 8,.mv 10 9,.g 10 true (.fa 11 1 2),.g 10 true (.ld 12 1 false 11),.g 10 true (.fa 13 1 3),.g 10 true (.ld 14 1 false 13),.g 10 true (.bin 15 .eql 12 14),.pick 16 10 15 (kB false),.asg 4 16]) .ret))
theorem bQp:aY Tryz.prog 57=some (bPi,[.mv 0 4],17):=by kernel_rfl
def cB8 (r:Bool):Exit→St→Prop:=aV [.mv 0 4] fun x _=>x=(fun y=>(vB y)) r
def bQn:AC:=(.seq (.ops [.box 2 26 0,.box 3 26 1,.asg 4 (kB false)]) (.seq (.ops [.fa 5 0 2,.ld 6 1 false 5,.fa 7 0 3,.ld 8 1 false 7,.call (some 9) 37 [6,8,(.c (.fn 38 []))],.asg 4 9]) .ret))
theorem bNs:aY Tryz.prog 12=some (bQn,[.mv 0 4],10):=by kernel_rfl
def bZf (r:Bool):Exit→St→Prop:=aV [.mv 0 4] fun x _=>x=(fun y=>(vB y)) r
def aKf:AC:=(.loop (.seq (.ops [.bin 18 .lss 17 16]) (.seq (.cond 18 .skip (.exit 0)) (.seq (.block 1 (.seq (.ops [.mv 19 17,.ia 20 2 15 17,.ld 21 2 true 20,.alc 8 [dJ,(.nil 2)],.asg 7 19,.st 2 8 21]) (.seq (.ops [.mv 22 1,.mv 23 7,.ia 24 2 22 23,.ld 25 2 true 24,.alc 9 [dJ,(.nil 2)],.st 2 9 25]) (.seq (.ops [.mv 26 2,.ld 27 2 true 8,.ld 28 2 true 9,.callv (some 29) 26 [27,28],.not 30 29]) (.cond 30 (.seq (.ops [.asg 6 (kB false)]) .ret) .skip))))) (.ops [.bin 31 .add 17 (kI 1),.mv 17 31])))))
def aY9:AC:=(.seq (.ops [.asg 6 (kB true)]) .ret)
def bBb:AC:=(.seq (.ops [.asg 6 (kB false)]) (.seq (.seq (.ops [.mv 10 0,.len 11 10,.mv 12 1,.len 13 12,.bin 14 .neq 11 13]) (.cond 14 (.seq (.ops [.asg 6 (kB false)]) .ret) .skip)) (.seq (.seq (.ops [.mv 15 0,.len 16 15,.mv 17 (kI 0)]) (.block 0 aKf)) aY9)))
theorem bE7:aY Tryz.prog 37=some (bBb,[.mv 0 6],32):=by kernel_rfl
def aRh (r:Bool):Exit→St→Prop:=aV [.mv 0 6] fun x _=>x=(fun y=>(vB y)) r
def bWh (r:Bool):Exit→St→Prop:=(bG (wkK (avc Tryz.prog aY9 (aRh r))) (aRh r))
def bAr (r:Bool):Exit→St→Prop:=(bI 0 (bWh r))
def bH5 (p1:List aQ) (p0:List aQ) (x17:Int):St:=⟨[(1,(oQ p1)),(2,(.fn 38 [])),(15,(oQ p0)),(16,(vI (p0.length:Int))),(17,(vI x17))],[]⟩
abbrev aG6:=fun p1 p0 x17 r=>avc Tryz.prog aKf (bAr r) (bH5 p1 p0 x17)
def bJq:AC:=(.seq (.ops [.box 2 49 0,.box 3 49 1,.asg 4 (kB false)]) (.seq (.ops [.fa 5 0 2,.ld 6 1 false 5,.fa 7 0 3,.ld 8 1 false 7,.bin 9 .eql 6 8,.mv 10 9,.g 10 true (.fa 11 1 2),.g 10 true (.ld 12 1 false 11),.g 10 true (.fa 13 1 3),.g 10 true (.ld 14 1 false 13),.g 10 true (.call (some 15) 39 [12,14]),.pick 16 10 15 (kB false),.asg 4 16]) .ret))
theorem bSz:aY Tryz.prog 38=some (bJq,[.mv 0 4],17):=by kernel_rfl
def bYf (r:Bool):Exit→St→Prop:=aV [.mv 0 4] fun x _=>x=(fun y=>(vB y)) r
def aL6:AC:=(.loop (.seq (.ops [.bin 14 .lss 13 12]) (.seq (.cond 14 .skip (.exit 0)) (.seq (.block 1 (.seq (.ops [.mv 15 13,.asg 5 15]) (.seq (.dops [[],[],[0,1],[2],[],[],[4,5],[6],[3,7]] [.mv 16 0,.mv 17 5,.ia 18 2 16 17,.ld 19 2 true 18,.mv 20 1,.mv 21 5,.ia 22 2 20 21,.ld 23 2 true 22,.eqv 24 true [1,0] 19 23]) (.cond 24 (.seq (.ops [.asg 4 (kB false)]) .ret) .skip)))) (.ops [.bin 25 .add 13 (kI 1),.mv 13 25])))))
def aXe:AC:=(.seq (.ops [.asg 4 (kB true)]) .ret)
def bS8:AC:=(.seq (.ops [.asg 4 (kB false)]) (.seq (.seq (.ops [.mv 6 0,.len 7 6,.mv 8 1,.len 9 8,.bin 10 .neq 7 9]) (.cond 10 (.seq (.ops [.asg 4 (kB false)]) .ret) .skip)) (.seq (.seq (.ops [.mv 11 0,.len 12 11,.mv 13 (kI 0)]) (.block 0 aL6)) aXe)))
theorem bAe:aY Tryz.prog 39=some (bS8,[.mv 0 4],26):=by kernel_rfl
def aOz (r:Bool):Exit→St→Prop:=aV [.mv 0 4] fun x _=>x=(fun y=>(vB y)) r
def bMv (r:Bool):Exit→St→Prop:=(bG (wkK (avc Tryz.prog aXe (aOz r))) (aOz r))
def bMw (r:Bool):Exit→St→Prop:=(bI 0 (bMv r))
def bJe (p0:List aZ) (p1:List aZ) (x13:Int):St:=⟨[(0,(uF p0)),(1,(uF p1)),(12,(vI (p0.length:Int))),(13,(vI x13))],[]⟩
abbrev aFd:=fun p0 p1 x13 r=>avc Tryz.prog aL6 (bMw r) (bJe p0 p1 x13)
def aJb:AC:=(.loop (.seq (.seq (.ops [.mv 47 8,.fa 48 1 6,.ld 49 1 false 48,.len 50 49,.bin 51 .lss 47 50]) (.cond 51 .skip (.exit 2))) (.seq (.block 3 (.seq (.dops [[],[0],[],[1,2],[3],[],[5],[],[6,7],[8],[4,9]] [.fa 54 1 6,.ld 55 1 false 54,.mv 56 8,.ia 57 2 55 56,.ld 58 2 true 57,.fa 59 1 7,.ld 60 1 false 59,.mv 61 8,.ia 62 2 60 61,.ld 63 2 true 62,.eqv 64 true [1,0] 58 63]) (.cond 64 (.seq (.ops [.asg 4 (kB false)]) .ret) .skip))) (.ops [.mv 52 8,.bin 53 .add 52 (kI 1),.asg 8 53]))))
def aWe:AC:=(.ops [.mv 21 5,.bin 22 .add 21 (kI 1),.asg 5 22])
def aDm:AC:=(.loop (.seq (.seq (.ops [.mv 16 5,.fa 17 0 2,.ld 18 1 false 17,.len 19 18,.bin 20 .lss 16 19]) (.cond 20 .skip (.exit 0))) (.seq (.block 1 (.seq (.ops [.fa 23 0 2,.ld 24 1 false 23,.mv 25 5,.ia 26 2 24 25,.ld 27 2 true 26,.alc 6 [dJ,(.nil 2)],.st 2 6 27]) (.seq (.ops [.fa 28 0 3,.ld 29 1 false 28,.mv 30 5,.ia 31 2 29 30,.ld 32 2 true 31,.alc 7 [dJ,(.nil 2)],.st 2 7 32]) (.seq (.seq (.ops [.fa 33 0 6,.ld 34 1 false 33,.fa 35 0 7,.ld 36 1 false 35,.bin 37 .neq 34 36,.mv 38 37,.g 38 false (.fa 39 1 6),.g 38 false (.ld 40 1 false 39),.g 38 false (.len 41 40),.g 38 false (.fa 42 1 7),.g 38 false (.ld 43 1 false 42),.g 38 false (.len 44 43),.g 38 false (.bin 45 .neq 41 44),.pick 46 38 (kB true) 45]) (.cond 46 (.seq (.ops [.asg 4 (kB false)]) .ret) .skip)) (.seq (.ops [.asg 8 (kI 0)]) (.block 2 aJb)))))) aWe)))
def aXr:AC:=(.seq (.ops [.asg 4 (kB true)]) .ret)
def bAx:AC:=(.seq (.ops [.box 2 26 0,.box 3 26 1,.asg 4 (kB false)]) (.seq (.seq (.ops [.fa 9 0 2,.ld 10 1 false 9,.len 11 10,.fa 12 0 3,.ld 13 1 false 12,.len 14 13,.bin 15 .neq 11 14]) (.cond 15 (.seq (.ops [.asg 4 (kB false)]) .ret) .skip)) (.seq (.seq (.ops [.asg 5 (kI 0)]) (.block 0 aDm)) aXr)))
theorem bC6:aY Tryz.prog 11=some (bAx,[.mv 0 4],65):=by kernel_rfl
def aUq (r:Bool):Exit→St→Prop:=aV [.mv 0 4] fun x _=>x=(fun y=>(vB y)) r
def bHs (r:Bool):Exit→St→Prop:=(bG (wkK (avc Tryz.prog aXr (aUq r))) (aUq r))
def aK0 (r:Bool):Exit→St→Prop:=(bI 0 (bHs r))
def aZ9 (r:Bool):Exit→St→Prop:=(bG (avc Tryz.prog aDm (aK0 r)) (aK0 r))
def bE8 (r:Bool):Exit→St→Prop:=(bG (wkK (avc Tryz.prog aWe (aZ9 r))) (aZ9 r))
def bAk (r:Bool):Exit→St→Prop:=(bI 1 (bE8 r))
def bUp (r:Bool):Exit→St→Prop:=(bI 2 (bAk r))
def bEx (p0:aR) (p1:aR) (x5:Int):St:=⟨[(2,(.ptr 2 0)),(3,(.ptr 3 0)),(5,(vI x5))],[(2,jN p0),(3,jN p1)]⟩
abbrev aFl:=fun p0 p1 x5 r=>avc Tryz.prog aDm (aK0 r) (bEx p0 p1 x5)
def bAm (x5:Int) (p0:aR) (p1:aR) (y1:aQ) (y2:aQ) (x8:Int):St:=⟨[(2,(.ptr 2 0)),(3,(.ptr 3 0)),(5,(vI x5)),(6,(.ptr 6 0)),(7,(.ptr 7 0)),(8,(vI x8))],[(2,jN p0),(3,jN p1),(6,zA y1),(7,zA y2)]⟩
abbrev aCa:=fun x5 p0 p1 y1 y2 x8 r=>avc Tryz.prog aJb (bUp r) (bAm x5 p0 p1 y1 y2 x8)
def bVp:AC:=(.seq (.ops [.asg 2 (kB false)]) (.seq (.ops [.mv 3 0,.len 4 3,.bin 5 .gtr 4 (kI 1048576),.asg 2 5]) .ret))
theorem bMx:aY Tryz.prog 4=some (bVp,[.mv 0 2],6):=by kernel_rfl
def cAc (r:Bool):Exit→St→Prop:=aV [.mv 0 2] fun x _=>x=(fun y=>(vB y)) r
def aN2:AC:=(.seq (.ops [.mv 15 3,.mv 16 4,.call (some 17) 31 [15,16],.asg 2 17]) .ret)
def bGv:AC:=(.seq (.ops [.asg 2 (.c (.d (.s (bs []))))]) (.seq (.ops [.mv 5 0,.call (some 6) 14 [5],.asg 3 6]) (.seq (.ops [.mv 7 3,.call (some 8) 13 [7],.call (some 9) 28 [8],.asg 4 9]) (.seq (.seq (.ops [.mv 10 3,.call (some 11) 29 [10,(kI 4)]]) (.cond 11 (.ops [.mv 12 3,.mv 13 4,.call (some 14) 30 [12,13],.asg 4 14]) .skip)) aN2))))
theorem bVl:aY Tryz.prog 9=some (bGv,[.mv 0 2],18):=by kernel_rfl
def bA7 (r:List UInt8):Exit→St→Prop:=aV [.mv 0 2] fun x _=>x=(fun y=>(vS y)) r
def bEj (x4:List aA) (bL:List Int) (jI:Int) (xA:Int):St:=⟨[(3,(.ptr 6 0)),(4,(eD x4))],[(6,bU (aB.mk bL jI xA))]⟩
abbrev aZe:=fun x4 bL jI xA r=>avc Tryz.prog aN2 (bA7 r) (bEj x4 bL jI xA)
def aLa:AC:=(.seq (.ops [.mv 13 0,.mv 14 5,.lns 15 14,.bin 16 .add 15 (kI 1),.call (some 17) 41 [13,16],.asg 6 17]) (.seq (.seq (.ops [.mv 18 0,.call (some 19) 41 [18,(kI 12)]]) (.block 0 (.seq (.ops [.bin 21 .eql 19 (kI 0),.asg 20 21]) (.cond 20 (.seq (.dops [[],[],[0,1],[],[],[3,4],[2,5],[],[],[7,8],[6,9],[10,5,0,1,2,3,4,5,6,7,8,9,10]] [.mv 22 5,.mv 23 6,.sls 24 22 none (some 23),.mv 25 0,.bsl 26 9 1 [(.c (.d (.s (bs [40])))),(.c (.d (.s (bs [41])))),(.c (.d (.s (bs [32])))),(.c (.d (.s (bs [39])))),(.c (.d (.s (bs [110,111,116,32])))),(.c (.d (.s (bs [45,45,10])))),(.c (.d (.s (bs [47,42,120,42,47])))),(.c (.d (.s (bs [49])))),(.c (.d (.s (bs [33])))),(.c (.d (.s (bs [44])))),(.c (.d (.s (bs [61]))))],.call (some 27) 64 [25,26],.bin 28 .add 24 27,.mv 29 5,.mv 30 6,.sls 31 29 (some 30) none,.bin 32 .add 28 31,.asg 4 32]) .ret) (.seq (.ops [.bin 34 .eql 19 (kI 1),.asg 33 34]) (.cond 33 (.seq (.ops [.mv 35 5,.mv 36 6,.sls 37 35 none (some 36),.asg 4 37]) .ret) (.seq (.ops [.bin 39 .eql 19 (kI 2),.asg 38 39]) (.cond 38 (.seq (.ops [.mv 40 5,.call (some 41) 65 [40],.asg 4 41]) .ret) .skip)))))))) (.seq (.ops [.mv 42 5,.asg 4 42]) .ret)))
def bT2:AC:=(.seq (.ops [.asg 4 (.c (.d (.s (bs []))))]) (.seq (.ops [.mv 7 1,.call (some 8) 62 [7],.asg 5 8]) (.seq (.seq (.ops [.mv 9 0,.call (some 10) 29 [9,(kI 3)]]) (.cond 10 (.ops [.mv 11 1,.call (some 12) 63 [11],.asg 5 12]) .skip)) aLa)))
theorem bGg:aY Tryz.prog 31=some (bT2,[.mv 0 4],43):=by kernel_rfl
def bCe (r:(List UInt8)×aB):Exit→St→Prop:=aV [.mv 0 4] fun x b=>x=(fun (y:(List UInt8)×aB)=>(vS y.1)) r∧dI ((fun (y:(List UInt8)×aB)=>[(1000000,bU y.2)]) r) b
def bIu (y2:Bool×aB) (x5:List UInt8):St:=⟨[(0,(.ptr 1000000 0)),(5,(vS x5))],[(1000000,bU y2.2)]⟩
abbrev aWd:=fun y2 x5 r=>avc Tryz.prog aLa (bCe r) (bIu y2 x5)
def bJ0:AC:=(.seq (.ops [.asg 2 (.c (.d (.s (bs []))))]) (.seq (.ops [.mv 3 0,.call (some 4) 100 [3,(kB true)],.asg 2 4]) .ret))
theorem bAj:aY Tryz.prog 63=some (bJ0,[.mv 0 2],5):=by kernel_rfl
def cB4 (r:List UInt8):Exit→St→Prop:=aV [.mv 0 2] fun x _=>x=(fun y=>(vS y)) r
def aJ3:AC:=(.ops [.mv 40 5,.mv 41 0,.mv 42 6,.ia 43 3 41 42,.ld 44 3 true 43,.call (some 45) 126 [44],.app 46 5 1 1 40 45,.asg 5 46])
def aT3:AC:=(.ops [.mv 12 6,.bin 13 .add 12 (kI 1),.asg 6 13])
def aE8:AC:=(.loop (.seq (.seq (.ops [.mv 8 6,.mv 9 0,.len 10 9,.bin 11 .lss 8 10]) (.cond 11 .skip (.exit 0))) (.seq (.block 1 (.seq (.seq (.ops [.mv 14 0,.mv 15 6,.ia 16 3 14 15,.ld 17 3 true 16,.call (some 18) 108 [17],.not 19 18]) (.cond 19 (.seq (.ops [.asg 4 (.c (.d (.s (bs []))))]) .ret) .skip)) (.seq (.seq (.dops [[],[0],[1],[2],[3,2,2],[4],[4],[6,4],[5,7,4],[8,4],[4],[4],[10,11,4],[12,4],[9,13,4,4],[4,14,2],[2,15]] [.mv 20 6,.bin 21 .gtr 20 (kI 0),.mv 22 21,.g 22 true (.mv 23 1),.g 22 true (.mv 24 23),.g 24 false (.mv 25 0),.g 24 false (.mv 26 6),.g 24 false (.bin 27 .sub 26 (kI 1)),.g 24 false (.ia 28 3 25 27),.g 24 false (.ld 29 3 true 28),.g 24 false (.mv 30 0),.g 24 false (.mv 31 6),.g 24 false (.ia 32 3 30 31),.g 24 false (.ld 33 3 true 32),.g 24 false (.call (some 34) 125 [29,33]),.g 22 true (.pick 35 24 (kB true) 34),.pick 36 22 35 (kB false)]) (.cond 36 (.ops [.mv 37 5,.bsl 38 5 1 [(.c (.d (.i .u8 32)))],.app 39 5 1 1 37 38,.asg 5 39]) .skip)) aJ3))) aT3)))
def aQd:AC:=(.seq (.seq (.ops [.mv 47 5,.len 48 47,.bin 49 .gtr 48 (kI 2000)]) (.cond 49 (.seq (.ops [.asg 4 (.c (.d (.s (bs []))))]) .ret) .skip)) (.seq (.ops [.mv 50 5,.cbs 51 50,.asg 4 51]) .ret))
def bK9:AC:=(.seq (.ops [.asg 4 (.c (.d (.s (bs []))))]) (.seq (.ops [.bsl 7 5 1 [],.asg 5 7]) (.seq (.seq (.ops [.asg 6 (kI 0)]) (.block 0 aE8)) aQd)))
theorem bEc:aY Tryz.prog 100=some (bK9,[.mv 0 4],52):=by kernel_rfl
def aW6 (r:List UInt8):Exit→St→Prop:=aV [.mv 0 4] fun x _=>x=(fun y=>(vS y)) r
def bUz (r:List UInt8):Exit→St→Prop:=(bG (wkK (avc Tryz.prog aQd (aW6 r))) (aW6 r))
def aJc (r:List UInt8):Exit→St→Prop:=(bI 0 (bUz r))
def aPb (r:List UInt8):Exit→St→Prop:=(bG (avc Tryz.prog aE8 (aJc r)) (aJc r))
def bFe (r:List UInt8):Exit→St→Prop:=(bG (wkK (avc Tryz.prog aT3 (aPb r))) (aPb r))
def bAp (r:List UInt8):Exit→St→Prop:=(bI 1 (bFe r))
def bTl (p0:List aA) (p1:Bool) (x5:List Int) (x6:Int):St:=⟨[(0,(eD p0)),(1,(vB p1)),(5,(.osl 5 5 1 (x5.map cU8))),(6,(vI x6))],[]⟩
abbrev aBm:=fun p0 p1 x5 x6 r=>avc Tryz.prog aE8 (aJc r) (bTl p0 p1 x5 x6)
def bCt (p0:List aA) (p1:Bool) (x6:Int) (oD:List Int):St:=⟨[(0,(eD p0)),(1,(vB p1)),(5,(.osl 5 5 1 (oD.map cU8))),(6,(vI x6))],[]⟩
abbrev aFn:=fun p0 p1 x6 oD r=>avc Tryz.prog aJ3 (bAp r) (bCt p0 p1 x6 oD)
def bRn:AC:=(.seq (.ops [.box 1 85 0,.asg 2 (.c (.d (.s (bs []))))]) (.seq (.seq (.ops [.ld 3 3 true 1,.call (some 4) 108 [3],.not 5 4]) (.cond 5 (.seq (.ops [.asg 2 (.c (.d (.s (bs []))))]) .ret) .skip)) (.seq (.seq (.ops [.fa 6 0 1,.ld 7 1 false 6]) (.block 0 (.seq (.ops [.bin 9 .eql 7 (kI 2),.asg 8 9]) (.cond 8 (.seq (.ops [.fa 10 1 1,.ld 11 1 false 10,.call (some 12) 140 [11],.asg 2 12]) .ret) (.seq (.ops [.bin 14 .eql 7 (kI 4),.asg 13 14]) (.cond 13 (.seq (.ops [.fa 15 1 1,.ld 16 1 false 15,.call (some 17) 141 [16],.asg 2 17]) .ret) .skip)))))) (.seq (.ops [.fa 18 1 1,.ld 19 1 false 18,.asg 2 19]) .ret))))
theorem bXh:aY Tryz.prog 126=some (bRn,[.mv 0 2],20):=by kernel_rfl
def bXk (r:List UInt8):Exit→St→Prop:=aV [.mv 0 2] fun x _=>x=(fun y=>(vS y)) r
def bO2:AC:=(.seq (.ops [.asg 2 (.c (.d (.s (bs []))))]) (.seq (.ops [.mv 3 0,.call (some 4) 149 [3,(.c (.d (.i .u8 39)))],.asg 2 4]) .ret))
theorem bJj:aY Tryz.prog 141=some (bO2,[.mv 0 2],5):=by kernel_rfl
def cAf (r:List UInt8):Exit→St→Prop:=aV [.mv 0 2] fun x _=>x=(fun y=>(vS y)) r
def aH0:AC:=(.ops [.mv 24 5,.mv 25 0,.mv 26 6,.ix 27 25 26,.bsl 28 5 1 [27],.app 29 5 1 1 24 28,.asg 5 29])
def aPk:AC:=(.ops [.mv 13 6,.bin 14 .add 13 (kI 1),.asg 6 14])
def aC1:AC:=(.loop (.seq (.seq (.ops [.mv 9 6,.mv 10 0,.lns 11 10,.bin 12 .lss 9 11]) (.cond 12 .skip (.exit 0))) (.seq (.block 1 (.seq (.seq (.ops [.mv 15 0,.mv 16 6,.ix 17 15 16,.mv 18 1,.bin 19 .eql 17 18]) (.cond 19 (.ops [.mv 20 5,.mv 21 1,.bsl 22 5 1 [21],.app 23 5 1 1 20 22,.asg 5 23]) .skip)) aH0)) aPk)))
def aQx:AC:=(.seq (.ops [.mv 30 5,.mv 31 1,.bsl 32 5 1 [31],.app 33 5 1 1 30 32,.cbs 34 33,.asg 4 34]) .ret)
def bRh:AC:=(.seq (.ops [.asg 4 (.c (.d (.s (bs []))))]) (.seq (.ops [.mv 7 1,.bsl 8 5 1 [7],.asg 5 8]) (.seq (.seq (.ops [.asg 6 (kI 0)]) (.block 0 aC1)) aQx)))
theorem bMm:aY Tryz.prog 149=some (bRh,[.mv 0 4],35):=by kernel_rfl
def aUx (r:List UInt8):Exit→St→Prop:=aV [.mv 0 4] fun x _=>x=(fun y=>(vS y)) r
def bA4 (r:List UInt8):Exit→St→Prop:=(bG (wkK (avc Tryz.prog aQx (aUx r))) (aUx r))
def aNg (r:List UInt8):Exit→St→Prop:=(bI 0 (bA4 r))
def aW9 (r:List UInt8):Exit→St→Prop:=(bG (avc Tryz.prog aC1 (aNg r)) (aNg r))
def bNa (r:List UInt8):Exit→St→Prop:=(bG (wkK (avc Tryz.prog aPk (aW9 r))) (aW9 r))
def bIf (r:List UInt8):Exit→St→Prop:=(bI 1 (bNa r))
def bM2 (p0:List UInt8) (p1:Int) (x5:List Int) (x6:Int):St:=⟨[(0,(vS p0)),(1,(.d (.i .u8 p1))),(5,(.osl 5 5 1 (x5.map cU8))),(6,(vI x6))],[]⟩
abbrev aGi:=fun p0 p1 x5 x6 r=>avc Tryz.prog aC1 (aNg r) (bM2 p0 p1 x5 x6)
def bCo (p0:List UInt8) (p1:Int) (x6:Int) (nS:List Int):St:=⟨[(0,(vS p0)),(1,(.d (.i .u8 p1))),(5,(.osl 5 5 1 (nS.map cU8))),(6,(vI x6))],[]⟩
abbrev aCs:=fun p0 p1 x6 nS r=>avc Tryz.prog aH0 (bIf r) (bCo p0 p1 x6 nS)
def bJi:AC:=(.seq (.ops [.asg 2 (.c (.d (.s (bs []))))]) (.seq (.seq (.ops [.mv 3 0,.call (some 4) 24 [3],.not 5 4]) (.cond 5 (.seq (.ops [.asg 2 (.c (.d (.s (bs []))))]) .ret) .skip)) (.seq (.seq (.ops [.mv 6 0,.call (some 7) 148 [6]]) (.cond 7 (.seq (.ops [.mv 8 0,.asg 2 8]) .ret) .skip)) (.seq (.ops [.mv 9 0,.call (some 10) 149 [9,(.c (.d (.i .u8 34)))],.asg 2 10]) .ret))))
theorem bF4:aY Tryz.prog 140=some (bJi,[.mv 0 2],11):=by kernel_rfl
def bYt (r:List UInt8):Exit→St→Prop:=aV [.mv 0 2] fun x _=>x=(fun y=>(vS y)) r
def aNw:AC:=(.loop (.seq (.seq (.ops [.mv 17 3,.mv 18 0,.lns 19 18,.bin 20 .lss 17 19]) (.cond 20 .skip (.exit 0))) (.seq (.block 1 (.seq (.ops [.mv 23 0,.mv 24 3,.ix 25 23 24,.call (some 26) 102 [25],.not 27 26,.mv 28 27,.g 28 true (.mv 29 0),.g 28 true (.mv 30 3),.g 28 true (.ix 31 29 30),.g 28 true (.call (some 32) 105 [31]),.g 28 true (.not 33 32),.pick 34 28 33 (kB false)]) (.cond 34 (.seq (.ops [.asg 2 (kB false)]) .ret) .skip))) (.ops [.mv 21 3,.bin 22 .add 21 (kI 1),.asg 3 22]))))
def aSk:AC:=(.seq (.ops [.asg 2 (kB true)]) .ret)
def bMb:AC:=(.seq (.ops [.asg 2 (kB false)]) (.seq (.seq (.ops [.mv 4 0,.call (some 5) 24 [4],.not 6 5,.mv 7 6,.g 7 false (.mv 8 0),.g 7 false (.ix 9 8 (kI 0)),.g 7 false (.call (some 10) 105 [9]),.pick 11 7 (kB true) 10,.mv 12 11,.g 12 false (.mv 13 0),.g 12 false (.call (some 14) 104 [13]),.g 12 false (.bin 15 .gtr 14 (kI 0)),.pick 16 12 (kB true) 15]) (.cond 16 (.seq (.ops [.asg 2 (kB false)]) .ret) .skip)) (.seq (.seq (.ops [.asg 3 (kI 0)]) (.block 0 aNw)) aSk)))
theorem bNf:aY Tryz.prog 148=some (bMb,[.mv 0 2],35):=by kernel_rfl
def aZj (r:Bool):Exit→St→Prop:=aV [.mv 0 2] fun x _=>x=(fun y=>(vB y)) r
def bRe (r:Bool):Exit→St→Prop:=(bG (wkK (avc Tryz.prog aSk (aZj r))) (aZj r))
def bA6 (r:Bool):Exit→St→Prop:=(bI 0 (bRe r))
def bAb (p0:List UInt8) (x3:Int):St:=⟨[(0,(vS p0)),(3,(vI x3))],[]⟩
abbrev aC3:=fun p0 x3 r=>avc Tryz.prog aNw (bA6 r) (bAb p0 x3)
def bOs:AC:=(.seq (.ops [.box 2 85 0,.box 3 85 1,.asg 4 (kB false)]) (.seq (.seq (.ops [.ld 5 3 true 2,.call (some 6) 108 [5],.not 7 6,.mv 8 7,.g 8 false (.ld 9 3 true 3),.g 8 false (.call (some 10) 108 [9]),.g 8 false (.not 11 10),.pick 12 8 (kB true) 11]) (.cond 12 (.seq (.ops [.asg 4 (kB false)]) .ret) .skip)) (.seq (.seq (.ops [.ld 13 3 true 2,.call (some 14) 138 [13],.mv 15 14,.g 15 true (.ld 16 3 true 3),.g 15 true (.call (some 17) 138 [16]),.pick 18 15 17 (kB false),.mv 19 18,.g 19 false (.fa 20 0 2),.g 19 false (.ld 21 1 false 20),.g 19 false (.bin 22 .eql 21 (kI 4)),.g 19 false (.mv 23 22),.g 23 true (.fa 24 0 3),.g 23 true (.ld 25 1 false 24),.g 23 true (.bin 26 .eql 25 (kI 4)),.g 19 false (.pick 27 23 26 (kB false)),.pick 28 19 (kB true) 27,.mv 29 28,.g 29 false (.ld 30 3 true 2),.g 29 false (.call (some 31) 139 [30]),.g 29 false (.mv 32 31),.g 32 true (.ld 33 3 true 3),.g 32 true (.call (some 34) 139 [33]),.g 29 false (.pick 35 32 34 (kB false)),.pick 36 29 (kB true) 35]) (.cond 36 (.seq (.ops [.asg 4 (kB true)]) .ret) .skip)) (.seq (.seq (.ops [.fa 37 0 2,.ld 38 1 false 37,.bin 39 .neq 38 (kI 5),.mv 40 39,.g 40 false (.fa 41 0 3),.g 40 false (.ld 42 1 false 41),.g 40 false (.bin 43 .neq 42 (kI 5)),.pick 44 40 (kB true) 43]) (.cond 44 (.seq (.ops [.asg 4 (kB false)]) .ret) .skip)) (.seq (.seq (.ops [.fa 45 1 2,.ld 46 1 false 45]) (.block 0 (.seq (.ops [.bin 48 .eql 46 (.c (.d (.s (bs [45])))),.asg 47 48]) (.cond 47 (.seq (.ops [.fa 49 1 3,.ld 50 1 false 49,.bin 51 .eql 50 (.c (.d (.s (bs [45])))),.asg 4 51]) .ret) (.seq (.ops [.bin 53 .eql 46 (.c (.d (.s (bs [47])))),.asg 52 53]) (.cond 52 (.seq (.ops [.fa 54 1 3,.ld 55 1 false 54,.bin 56 .eql 55 (.c (.d (.s (bs [42])))),.asg 4 56]) .ret) (.seq (.ops [.bin 58 .eql 46 (.c (.d (.s (bs [60])))),.asg 57 58]) (.cond 57 (.seq (.ops [.fa 59 1 3,.ld 60 1 false 59,.ix 61 60 (kI 0),.bin 62 .eql 61 (.c (.d (.i .u8 61))),.mv 63 62,.g 63 false (.fa 64 1 3),.g 63 false (.ld 65 1 false 64),.g 63 false (.ix 66 65 (kI 0)),.g 63 false (.bin 67 .eql 66 (.c (.d (.i .u8 62)))),.pick 68 63 (kB true) 67,.asg 4 68]) .ret) (.seq (.ops [.bin 70 .eql 46 (.c (.d (.s (bs [62])))),.asg 69 70]) (.cond 69 (.seq (.ops [.fa 71 1 3,.ld 72 1 false 71,.ix 73 72 (kI 0),.bin 74 .eql 73 (.c (.d (.i .u8 61))),.asg 4 74]) .ret) .skip)))))))))) (.seq (.ops [.asg 4 (kB false)]) .ret))))))
theorem bFv:aY Tryz.prog 125=some (bOs,[.mv 0 4],75):=by kernel_rfl
def bYn (r:Bool):Exit→St→Prop:=aV [.mv 0 4] fun x _=>x=(fun y=>(vB y)) r
def bJp:AC:=(.seq (.ops [.box 1 85 0,.asg 2 (kB false)]) (.seq (.ops [.fa 3 0 1,.ld 4 1 false 3,.bin 5 .eql 4 (kI 2),.mv 6 5,.g 6 true (.fa 7 1 1),.g 6 true (.ld 8 1 false 7),.g 6 true (.call (some 9) 148 [8]),.g 6 true (.not 10 9),.pick 11 6 10 (kB false),.asg 2 11]) .ret))
theorem bJh:aY Tryz.prog 139=some (bJp,[.mv 0 2],12):=by kernel_rfl
def bY1 (r:Bool):Exit→St→Prop:=aV [.mv 0 2] fun x _=>x=(fun y=>(vB y)) r
def bA8:AC:=(.seq (.ops [.box 1 85 0,.asg 2 (kB false)]) (.seq (.ops [.fa 3 0 1,.ld 4 1 false 3,.bin 5 .eql 4 (kI 1),.mv 6 5,.g 6 false (.fa 7 0 1),.g 6 false (.ld 8 1 false 7),.g 6 false (.bin 9 .eql 8 (kI 3)),.pick 10 6 (kB true) 9,.mv 11 10,.g 11 false (.fa 12 0 1),.g 11 false (.ld 13 1 false 12),.g 11 false (.bin 14 .eql 13 (kI 2)),.g 11 false (.mv 15 14),.g 15 true (.fa 16 1 1),.g 15 true (.ld 17 1 false 16),.g 15 true (.call (some 18) 148 [17]),.g 11 false (.pick 19 15 18 (kB false)),.pick 20 11 (kB true) 19,.asg 2 20]) .ret))
theorem bS2:aY Tryz.prog 138=some (bA8,[.mv 0 2],21):=by kernel_rfl
def bXj (r:Bool):Exit→St→Prop:=aV [.mv 0 2] fun x _=>x=(fun y=>(vB y)) r
def bL2:AC:=(.seq (.ops [.asg 4 (.c (.d (.s (bs []))))]) (.seq (.ops [.mv 5 1,.mv 6 0,.mv 7 1,.len 8 7,.call (some 9) 41 [6,8],.ia 10 1 5 9,.ld 11 1 false 10,.asg 4 11]) .ret))
theorem bKy:aY Tryz.prog 64=some (bL2,[.mv 0 4],12):=by kernel_rfl
def cAb (r:(List UInt8)×aB):Exit→St→Prop:=aV [.mv 0 4] fun x b=>x=(fun (y:(List UInt8)×aB)=>(vS y.1)) r∧dI ((fun (y:(List UInt8)×aB)=>[(1000000,bU y.2)]) r) b
def bH8:AC:=(.seq (.ops [.asg 4 (kI 0)]) (.seq (.seq (.ops [.mv 9 1,.bin 10 .leq 9 (kI 0)]) (.cond 10 (.seq (.ops [.asg 4 (kI 0)]) .ret) .skip)) (.seq (.seq (.ops [.mv 11 1,.bin 12 .leq 11 (kI 256)]) (.cond 12 (.seq (.ops [.mv 13 0,.call (some 14) 73 [13],.mv 15 1,.bin 16 .rem 14 15,.asg 4 16]) .ret) .skip)) (.seq (.ops [.mv 17 0,.call (some 18) 73 [17],.asg 5 18]) (.seq (.ops [.mv 19 0,.call (some 20) 73 [19],.asg 6 20]) (.seq (.ops [.mv 21 0,.call (some 22) 73 [21],.asg 7 22]) (.seq (.ops [.mv 23 0,.call (some 24) 73 [23],.asg 8 24]) (.seq (.ops [.mv 25 5,.bin 26 .mul 25 (kI 16777216),.mv 27 6,.bin 28 .mul 27 (kI 65536),.bin 29 .add 26 28,.mv 30 7,.bin 31 .mul 30 (kI 256),.bin 32 .add 29 31,.mv 33 8,.bin 34 .add 32 33,.mv 35 1,.bin 36 .rem 34 35,.asg 4 36]) .ret))))))))
theorem bEt:aY Tryz.prog 41=some (bH8,[.mv 0 4],37):=by kernel_rfl
def cAw (r:Int×aB):Exit→St→Prop:=aV [.mv 0 4] fun x b=>x=(fun (y:Int×aB)=>(vI y.1)) r∧dI ((fun (y:Int×aB)=>[(1000000,bU y.2)]) r) b
def aH7:AC:=(.seq (.ops [.mv 57 3,.asg 2 57]) .ret)
def bI0:AC:=(.seq (.ops [.asg 2 (kI 0)]) (.seq (.ops [.mv 4 0,.mv 5 0,.nck 6 5,.fa 7 2 6,.ld 8 1 false 7,.bin 9 .mul 8 (kI 6364136223846793005),.bin 10 .add 9 (kI 1442695040888963407),.nck 11 4,.fa 12 2 11,.st 1 12 10]) (.seq (.dops [[],[0],[1],[2],[3],[],[5],[6],[7],[8],[4,9],[10],[11,0,1,2,3,4,5,6,7,8,9,10,11]] [.mv 13 0,.nck 14 13,.fa 15 2 14,.ld 16 1 false 15,.bin 17 .shr 16 (.c (.d (.i .u64 33))),.mv 18 0,.nck 19 18,.fa 20 2 19,.ld 21 1 false 20,.bin 22 .shr 21 (.c (.d (.i .u64 45))),.bin 23 .xor 17 22,.bin 24 .and 23 (kI 255),.asg 3 24]) (.seq (.seq (.dops [[],[0],[1],[2],[],[4],[5],[6],[7],[3,8]] [.mv 25 0,.nck 26 25,.fa 27 1 26,.ld 28 1 false 27,.mv 29 0,.nck 30 29,.fa 31 0 30,.ld 32 1 false 31,.len 33 32,.bin 34 .lss 28 33]) (.cond 34 (.seq (.dops [[],[],[1],[2],[3],[],[5],[6],[7],[4,8],[9],[10],[0,11],[12],[13,0,1,2,3,4,5,6,7,8,9,10,11,12,13]] [.mv 35 3,.mv 36 0,.nck 37 36,.fa 38 0 37,.ld 39 1 false 38,.mv 40 0,.nck 41 40,.fa 42 1 41,.ld 43 1 false 42,.ia 44 1 39 43,.ld 45 1 false 44,.cvi 46 .i64 45,.bin 47 .add 35 46,.bin 48 .and 47 (kI 255),.asg 3 48]) (.ops [.mv 49 0,.mv 50 0,.nck 51 50,.fa 52 1 51,.ld 53 1 false 52,.bin 54 .add 53 (kI 1),.nck 55 49,.fa 56 1 55,.st 1 56 54])) .skip)) aH7))))
theorem bIg:aY Tryz.prog 73=some (bI0,[.mv 0 2],58):=by kernel_rfl
def bUq (r:Int×aB):Exit→St→Prop:=aV [.mv 0 2] fun x b=>x=(fun (y:Int×aB)=>(vI y.1)) r∧dI ((fun (y:Int×aB)=>[(1000000,bU y.2)]) r) b
def bMi (p0:aB) (x3:Int) (bD:Int):St:=⟨[(3,(vI x3))],[(1000000,bU (aB.mk p0.b bD (IntKind.wrap .i64 ((IntKind.wrap .i64 (p0.h * 6364136223846793005))+1442695040888963407))))]⟩
abbrev aYf:=fun p0 x3 bD r=>avc Tryz.prog aH7 (bUq r) (bMi p0 x3 bD)
def bO9:AC:=(.seq (.ops [.asg 2 (.c (.d (.s (bs []))))]) (.seq (.ops [.mv 3 0,.call (some 4) 100 [3,(kB false)],.asg 2 4]) .ret))
theorem bPo:aY Tryz.prog 62=some (bO9,[.mv 0 2],5):=by kernel_rfl
def cAo (r:List UInt8):Exit→St→Prop:=aV [.mv 0 2] fun x _=>x=(fun y=>(vS y)) r
def bQ7:AC:=(.seq (.ops [.asg 4 (kB false)]) (.seq (.ops [.mv 5 0,.mv 6 1,.call (some 7) 41 [5,6],.bin 8 .eql 7 (kI 0),.asg 4 8]) .ret))
theorem bQw:aY Tryz.prog 29=some (bQ7,[.mv 0 4],9):=by kernel_rfl
def cAd (r:Bool×aB):Exit→St→Prop:=aV [.mv 0 4] fun x b=>x=(fun (y:Bool×aB)=>(vB y.1)) r∧dI ((fun (y:Bool×aB)=>[(1000000,bU y.2)]) r) b
def aMr:AC:=(.seq (.ops [.mv 64 5,.asg 4 64]) .ret)
def bF9:AC:=(.seq (.ops [.asg 4 (.c (.nil 3))]) (.seq (.ops [.bsl 7 85 3 [],.mv 8 1,.app 9 85 3 32 7 8,.asg 5 9]) (.seq (.ops [.mv 10 0,.mv 11 5,.len 12 11,.bin 13 .add 12 (kI 1),.call (some 14) 41 [10,13],.asg 6 14]) (.seq (.seq (.ops [.mv 15 0,.call (some 16) 41 [15,(kI 7)]]) (.block 0 (.seq (.ops [.bin 18 .eql 16 (kI 0),.asg 17 18]) (.cond 17 (.seq (.ops [.mv 19 5,.mv 20 6,.slc 21 3 19 none (some 20) none,.asg 4 21]) .ret) (.seq (.ops [.bin 23 .eql 16 (kI 1),.asg 22 23]) (.cond 22 (.dops [[],[],[],[1,2],[0,3],[],[5,4],[6],[4,7,6],[],[],[9,10],[8,11,8],[12,12,0,1,2,3,4,5,6,7,8,9,10,11,12]] [.bsl 24 85 3 [],.mv 25 1,.mv 26 6,.slc 27 3 25 none (some 26) none,.app 28 85 3 32 24 27,.mv 29 0,.call (some 30) 61 [29],.bsl 31 85 3 [30],.app 32 85 3 32 28 31,.mv 33 1,.mv 34 6,.slc 35 3 33 (some 34) none none,.app 36 85 3 32 32 35,.asg 5 36]) (.seq (.ops [.bin 38 .eql 16 (kI 2),.asg 37 38]) (.cond 37 (.seq (.ops [.mv 39 6,.mv 40 5,.len 41 40,.bin 42 .lss 39 41]) (.cond 42 (.dops [[],[],[],[1,2],[0,3],[],[],[6],[5,7],[4,8,4],[9,9,0,1,2,3,4,5,6,7,8,9]] [.bsl 43 85 3 [],.mv 44 1,.mv 45 6,.slc 46 3 44 none (some 45) none,.app 47 85 3 32 43 46,.mv 48 1,.mv 49 6,.bin 50 .add 49 (kI 1),.slc 51 3 48 (some 50) none none,.app 52 85 3 32 47 51,.asg 5 52]) .skip)) (.seq (.ops [.bin 54 .eql 16 (kI 3),.asg 53 54]) (.cond 53 (.seq (.ops [.mv 55 6,.mv 56 5,.len 57 56,.bin 58 .lss 55 57]) (.cond 58 (.ops [.mv 59 5,.mv 60 6,.mv 61 0,.call (some 62) 61 [61],.ia 63 3 59 60,.st 3 63 62]) .skip)) .skip)))))))))) aMr))))
theorem bG5:aY Tryz.prog 30=some (bF9,[.mv 0 4],65):=by kernel_rfl
def bWq (r:(List aA)×aB):Exit→St→Prop:=aV [.mv 0 4] fun x b=>x=(fun (y:(List aA)×aB)=>(eD y.1)) r∧dI ((fun (y:(List aA)×aB)=>[(1000000,bU y.2)]) r) b
def bL6 (bN:List Int) (bD:Int) (bM:Int) (vH:List aA):St:=⟨[(5,(.tre 60101000))],[(1000000,bU (aB.mk bN bD bM)),(60101000,[(.trc 3 (vH.map aJ))])]⟩
abbrev aS1:=fun bN bD bM vH r=>avc Tryz.prog aMr (bWq r) (bL6 bN bD bM vH)
def aLx:AC:=(.seq (.ops [.ld 24 3 true 3,.st 3 2 24]) .ret)
def bLg:AC:=(.seq (.ops [.alc 2 [bO,dJ,bO]]) (.seq (.ops [.mv 4 0,.call (some 5) 98 [4],.alc 3 [bO,dJ,bO],.st 3 3 5]) (.seq (.seq (.ops [.mv 6 0,.call (some 7) 41 [6,(kI 10)]]) (.block 0 (.seq (.ops [.bin 9 .eql 7 (kI 0),.asg 8 9]) (.cond 8 (.ops [.mv 10 0,.call (some 11) 41 [10,(kI 7)],.fa 12 0 3,.st 1 12 11]) (.seq (.ops [.bin 14 .eql 7 (kI 1),.asg 13 14]) (.cond 13 (.ops [.mv 15 0,.bsl 16 9 1 [(.c (.d (.s (bs [])))),(.c (.d (.s (bs [115,101,108,101,99,116])))),(.c (.d (.s (bs [83,69,76,69,67,84,83])))),(.c (.d (.s (bs [48,49])))),(.c (.d (.s (bs [57,50,50,51,51,55,50,48,51,54,56,53,52,55,55,53,56,48,56])))),(.c (.d (.s (bs [61,62])))),(.c (.d (.s (bs [124])))),(.c (.d (.s (bs [97,98,99,100,101,102,103,104,105,106,107,108,109,110,111,112,113,114,115,116,117])))),(.c (.d (.s (bs [49,50,51,52,53,54,55,56,57,48,49,50,51,52,53,54,55,56,57,48,49,50,51,52,53,54,55,56,57,48,49,50,51,52,53,54,55,56,57,48,49]))))],.call (some 17) 64 [15,16],.fa 18 1 3,.st 1 18 17]) (.seq (.ops [.bin 20 .eql 7 (kI 2),.asg 19 20]) (.cond 19 (.ops [.mv 21 0,.call (some 22) 99 [21],.fa 23 2 3,.st 1 23 22]) .skip)))))))) aLx)))
theorem bRp:aY Tryz.prog 61=some (bLg,[.ld 0 3 true 2],25):=by kernel_rfl
def bVa (r:aA×aB):Exit→St→Prop:=aV [.ld 0 3 true 2] fun x b=>x=(fun (y:aA×aB)=>(fE y.1)) r∧dI ((fun (y:aA×aB)=>[(1000000,bU y.2)]) r) b
def bLr (kG:Int) (iB:List UInt8) (xL:Int) (bN:List Int) (bD:Int) (bM:Int):St:=⟨[(2,(.ptr 2 0)),(3,(.ptr 3 0))],[(2,[(vI 0),(vS []),(vI 0)]),(3,qG (aA.mk kG iB xL)),(1000000,bU (aB.mk bN bD bM))]⟩
abbrev aV0:=fun kG iB xL bN bD bM r=>avc Tryz.prog aLx (bVa r) (bLr kG iB xL bN bD bM)
def bPq:AC:=(.seq (.ops [.asg 2 (kI 0)]) (.seq (.seq (.ops [.mv 3 0,.call (some 4) 41 [3,(kI 3)]]) (.block 0 (.seq (.ops [.bin 6 .eql 4 (kI 0),.asg 5 6]) (.cond 5 (.seq (.ops [.mv 7 0,.bsl 8 3 1 [(kI 0),(kI 1),(kI (-1)),(kI 63),(kI 64),(kI (-64)),(kI (-65)),(kI 127),(kI 128),(kI 16383),(kI 16384),(kI 9223372036854775807),(kI (-9223372036854775808)),(kI 4611686018427387904)],.call (some 9) 71 [7,8],.asg 2 9]) .ret) (.seq (.ops [.bin 11 .eql 4 (kI 1),.asg 10 11]) (.cond 10 (.seq (.ops [.mv 12 0,.call (some 13) 41 [12,(kI 1000000)],.bin 14 .sub 13 (kI 500000),.asg 2 14]) .ret) .skip)))))) (.seq (.ops [.mv 15 0,.call (some 16) 41 [15,(kI 20)],.asg 2 16]) .ret)))
theorem bTk:aY Tryz.prog 99=some (bPq,[.mv 0 2],17):=by kernel_rfl
def bY8 (r:Int×aB):Exit→St→Prop:=aV [.mv 0 2] fun x b=>x=(fun (y:Int×aB)=>(vI y.1)) r∧dI ((fun (y:Int×aB)=>[(1000000,bU y.2)]) r) b
def bQj:AC:=(.seq (.ops [.asg 4 (kI 0)]) (.seq (.ops [.mv 5 1,.mv 6 0,.mv 7 1,.len 8 7,.call (some 9) 41 [6,8],.ia 10 1 5 9,.ld 11 1 false 10,.asg 4 11]) .ret))
theorem bSp:aY Tryz.prog 71=some (bQj,[.mv 0 4],12):=by kernel_rfl
def bZ3 (r:Int×aB):Exit→St→Prop:=aV [.mv 0 4] fun x b=>x=(fun (y:Int×aB)=>(vI y.1)) r∧dI ((fun (y:Int×aB)=>[(1000000,bU y.2)]) r) b
def bSd:AC:=(.seq (.ops [.alc 2 [bO,dJ,bO]]) (.seq (.seq (.ops [.mv 3 0,.call (some 4) 41 [3,(kI 6)]]) (.block 0 (.seq (.ops [.bin 6 .eql 4 (kI 0),.asg 5 6]) (.cond 5 (.seq (.ops [.call (some 7) 74 [],.mv 8 0,.call (some 9) 41 [8,(kI 28)],.bin 10 .add (kI 1) 9,.ia 11 1 7 10,.ld 12 1 false 11,.bld 13 [bO,dJ,bO] [(0,1,(kI 1)),(1,1,12)],.st 3 2 13]) .ret) (.seq (.ops [.bin 15 .eql 4 (kI 1),.asg 14 15]) (.cond 14 (.seq (.ops [.mv 16 0,.call (some 17) 72 [16],.bld 18 [bO,dJ,bO] [(0,1,(kI 2)),(1,1,17)],.st 3 2 18]) .ret) (.seq (.ops [.bin 20 .eql 4 (kI 2),.asg 19 20]) (.cond 19 (.seq (.ops [.mv 21 0,.call (some 22) 99 [21],.call (some 23) 123 [(kI 0),22],.call (some 24) 43 [23],.bld 25 [bO,dJ,bO] [(0,1,(kI 3)),(1,1,24)],.st 3 2 25]) .ret) (.seq (.ops [.bin 27 .eql 4 (kI 3),.asg 26 27]) (.cond 26 (.seq (.ops [.mv 28 0,.bsl 29 9 1 [(.c (.d (.s (bs [])))),(.c (.d (.s (bs [120])))),(.c (.d (.s (bs [105,116,39,115])))),(.c (.d (.s (bs [39,39])))),(.c (.d (.s (bs [116,119,111,32,119,111,114,100,115])))),(.c (.d (.s (bs [34])))),(.c (.d (.s (bs [45,45])))),(.c (.d (.s (bs [0,255]))))],.call (some 30) 64 [28,29],.bld 31 [bO,dJ,bO] [(0,1,(kI 4)),(1,1,30)],.st 3 2 31]) .ret) .skip)))))))))) (.seq (.ops [.mv 32 0,.call (some 33) 124 [32],.bld 34 [bO,dJ,bO] [(0,1,(kI 5)),(1,1,33)],.st 3 2 34]) .ret)))
theorem bS4:aY Tryz.prog 98=some (bSd,[.ld 0 3 true 2],35):=by kernel_rfl
def cAr (r:aA×aB):Exit→St→Prop:=aV [.ld 0 3 true 2] fun x b=>x=(fun (y:aA×aB)=>(fE y.1)) r∧dI ((fun (y:aA×aB)=>[(1000000,bU y.2)]) r) b
def bEm:AC:=(.seq (.ops [.asg 2 (.c (.d (.s (bs []))))]) (.seq (.seq (.ops [.mv 3 0,.call (some 4) 29 [3,(kI 6)]]) (.cond 4 (.seq (.ops [.mv 5 0,.bsl 6 9 1 [(.c (.d (.s (bs [97,32,98])))),(.c (.d (.s (bs [102,114,111,109])))),(.c (.d (.s (bs [83,101,108,101,99,116])))),(.c (.d (.s (bs [49,120])))),(.c (.d (.s (bs [113,34,113])))),(.c (.d (.s (bs [0])))),(.c (.d (.s (bs [34])))),(.c (.d (.s (bs [105,116,39,115])))),(.c (.d (.s (bs [120,46,121])))),(.c (.d (.s (bs [45]))))],.call (some 7) 64 [5,6],.asg 2 7]) .ret) .skip)) (.seq (.ops [.mv 8 0,.bsl 9 9 1 [(.c (.d (.s (bs [97])))),(.c (.d (.s (bs [98])))),(.c (.d (.s (bs [99])))),(.c (.d (.s (bs [116])))),(.c (.d (.s (bs [117])))),(.c (.d (.s (bs [118])))),(.c (.d (.s (bs [105,100])))),(.c (.d (.s (bs [110,97,109,101])))),(.c (.d (.s (bs [65])))),(.c (.d (.s (bs [95,120,49]))))],.call (some 10) 64 [8,9],.asg 2 10]) .ret)))
theorem bPc:aY Tryz.prog 72=some (bEm,[.mv 0 2],11):=by kernel_rfl
def bYp (r:(List UInt8)×aB):Exit→St→Prop:=aV [.mv 0 2] fun x b=>x=(fun (y:(List UInt8)×aB)=>(vS y.1)) r∧dI ((fun (y:(List UInt8)×aB)=>[(1000000,bU y.2)]) r) b
def bDv:AC:=(.seq (.ops [.asg 2 (.c (.d (.s (bs []))))]) (.seq (.ops [.mv 3 0,.bsl 4 9 1 [(.c (.d (.s (bs [40])))),(.c (.d (.s (bs [41])))),(.c (.d (.s (bs [44])))),(.c (.d (.s (bs [46])))),(.c (.d (.s (bs [42])))),(.c (.d (.s (bs [43])))),(.c (.d (.s (bs [45])))),(.c (.d (.s (bs [47])))),(.c (.d (.s (bs [37])))),(.c (.d (.s (bs [61])))),(.c (.d (.s (bs [60,62])))),(.c (.d (.s (bs [60])))),(.c (.d (.s (bs [60,61])))),(.c (.d (.s (bs [62])))),(.c (.d (.s (bs [62,61])))),(.c (.d (.s (bs [124,124]))))],.call (some 5) 64 [3,4],.asg 2 5]) .ret))
theorem bCk:aY Tryz.prog 124=some (bDv,[.mv 0 2],6):=by kernel_rfl
def bYr (r:(List UInt8)×aB):Exit→St→Prop:=aV [.mv 0 2] fun x b=>x=(fun (y:(List UInt8)×aB)=>(vS y.1)) r∧dI ((fun (y:(List UInt8)×aB)=>[(1000000,bU y.2)]) r) b
def bRv:AC:=(.seq (.ops [.asg 4 (kI 0)]) (.seq (.seq (.ops [.mv 5 0,.mv 6 1,.bin 7 .gtr 5 6]) (.cond 7 (.seq (.ops [.mv 8 0,.asg 4 8]) .ret) .skip)) (.seq (.ops [.mv 9 1,.asg 4 9]) .ret)))
theorem bBx:aY Tryz.prog 123=some (bRv,[.mv 0 4],10):=by kernel_rfl
def cB5 (r:Int):Exit→St→Prop:=aV [.mv 0 4] fun x _=>x=(fun y=>(vI y)) r
def aFf:AC:=(.seq (.ops [.ld 79 1 true 3,.st 1 2 79]) .ret)
def aOe:AC:=(.loop (.seq (.seq (.dops [[],[0],[1],[],[3],[4],[2,5]] [.fa 56 0 3,.ld 57 1 false 56,.len 58 57,.mv 59 0,.call (some 60) 41 [59,(kI 2)],.bin 61 .add (kI 4) 60,.bin 62 .lss 58 61]) (.cond 62 .skip (.exit 1))) (.block 2 (.dops [[],[0],[],[2],[3],[4],[5],[],[],[],[],[7,8,9,10],[6,11],[12],[1,13,5],[0,1,2,3,4,5,6,7,8,9,10,11,12,13,14],[15,14,14,0,1,2,3,4,5,6,7,8,9,10,11,12,13,14]] [.fa 63 0 3,.ld 64 1 false 63,.fa 65 0 3,.ld 66 1 false 65,.len 67 66,.call (some 68) 43 [67],.bin 69 .add (.c (.d (.s (bs [120])))) 68,.bld 70 [dJ,bO] [(0,1,(.c (.d (.s (bs [97]))))),(1,1,(kI 1))],.bld 71 [dJ,bO] [(0,1,(.c (.d (.s (bs [98]))))),(1,1,(kI 1))],.bld 72 [dJ,bO] [(0,1,(.c (.d (.s (bs [99]))))),(1,1,(kI 2))],.bld 73 [dJ,bO] [(0,1,(.c (.d (.s (bs [100]))))),(1,1,(kI 3))],.bsl 74 53 2 [70,71,72,73],.bld 75 [dJ,(.nil 2)] [(0,1,69),(1,1,74)],.bsl 76 49 2 [75],.app 77 49 2 40 64 76,.fa 78 0 3,.st 1 78 77]))))
def bSc:AC:=(.seq (.ops [.alc 2 [(.nil 2)]]) (.seq (.ops [.mv 4 0,.call (some 5) 40 [4],.alc 3 [(.nil 2)],.st 1 3 5]) (.seq (.seq (.ops [.mv 6 0,.call (some 7) 41 [6,(kI 16)]]) (.block 0 (.seq (.ops [.bin 9 .eql 7 (kI 0),.asg 8 9]) (.cond 8 (.dops [[],[0],[],[2],[3],[4],[5],[1,6],[0,1,2,3,4,5,6,7],[8,7,7,0,1,2,3,4,5,6,7]] [.fa 10 0 3,.ld 11 1 false 10,.fa 12 0 3,.ld 13 1 false 12,.ia 14 2 13 (kI 0),.ld 15 2 true 14,.bsl 16 49 2 [15],.app 17 49 2 40 11 16,.fa 18 0 3,.st 1 18 17]) (.seq (.ops [.bin 20 .eql 7 (kI 1),.asg 19 20]) (.cond 19 (.dops [[],[0],[],[2],[3],[4],[5],[],[7],[],[9,8],[8,10],[11],[6,12,10],[1,0,1,2,3,4,5,6,7,8,9,10,11,12,13],[14,0,1,2,3,4,5,6,7,8,9,10,11,12,13],[15,13,13,0,1,2,3,4,5,6,7,8,9,10,11,12,13]] [.fa 21 0 3,.ld 22 1 false 21,.fa 23 0 3,.ld 24 1 false 23,.ia 25 2 24 (kI 0),.fa 26 1 25,.ld 27 1 false 26,.mv 28 0,.call (some 29) 42 [28],.mv 30 0,.call (some 31) 41 [30,(kI 5)],.bld 32 [dJ,bO] [(0,1,29),(1,1,31)],.bsl 33 53 2 [32],.app 34 53 2 24 27 33,.ia 35 2 22 (kI 0),.fa 36 1 35,.st 1 36 34]) (.seq (.ops [.bin 38 .eql 7 (kI 2),.asg 37 38]) (.cond 37 (.dops [[],[0],[],[2],[1,0,1,2,3],[4,0,1,2,3],[5,3,3,0,1,2,3]] [.fa 39 0 3,.ld 40 1 false 39,.mv 41 0,.call (some 42) 42 [41],.ia 43 2 40 (kI 0),.fa 44 0 43,.st 1 44 42]) (.seq (.ops [.bin 46 .eql 7 (kI 3),.asg 45 46]) (.cond 45 (.ops [.fa 47 0 3,.ld 48 1 false 47,.ia 49 2 48 (kI 0),.fa 50 1 49,.st 1 50 (.c (.nil 2))]) (.seq (.ops [.bin 52 .eql 7 (kI 4),.asg 51 52]) (.cond 51 (.ops [.fa 53 0 3,.st 1 53 (.c (.nil 2))]) (.seq (.ops [.bin 55 .eql 7 (kI 5),.asg 54 55]) (.cond 54 (.block 1 aOe) .skip)))))))))))))) aFf)))
theorem bNm:aY Tryz.prog 13=some (bSc,[.ld 0 1 true 2],80):=by kernel_rfl
def aGn (r:aR×aB):Exit→St→Prop:=aV [.ld 0 1 true 2] fun x b=>x=(fun (y:aR×aB)=>(iY y.1)) r∧dI ((fun (y:aR×aB)=>[(1000000,bU y.2)]) r) b
def bBf (r:aR×aB):Exit→St→Prop:=(bG (wkK (avc Tryz.prog aFf (aGn r))) (aGn r))
def bQz (r:aR×aB):Exit→St→Prop:=(bI 0 (bBf r))
def bPy (r:aR×aB):Exit→St→Prop:=(bI 1 (bQz r))
def bBa (kG:List aQ) (bN:List Int) (bD:Int) (bM:Int):St:=⟨[(2,(.ptr 2 0)),(3,(.ptr 3 0))],[(2,[(.nil 2)]),(3,jN (aR.mk kG)),(1000000,bU (aB.mk bN bD bM))]⟩
abbrev aSa:=fun kG bN bD bM r=>avc Tryz.prog aFf (aGn r) (bBa kG bN bD bM)
def bIp (nT:List Int) (nU:Int) (nR:Int) (iE:List aQ):St:=⟨[(0,(.ptr 1000000 0)),(2,(.ptr 2 0)),(3,(.ptr 3 0))],[(2,[(.nil 2)]),(3,[(.tre 60092000)]),(1000000,bU (aB.mk nT nU nR)),(60092000,[(.trc 2 (iE.map bX))])]⟩
abbrev aE5:=fun nT nU nR iE r=>avc Tryz.prog aOe (bPy r) (bIp nT nU nR iE)
def aOk:AC:=(.seq (.ops [.ld 46 2 true 7,.fa 47 0 10,.ld 48 1 false 47,.call (some 49) 27 [46,48],.bin 50 .lss 49 (kI 0)]) (.cond 50 (.ops [.fa 51 1 7,.ld 52 1 false 51,.ld 53 2 true 10,.bsl 54 53 2 [53],.app 55 53 2 24 52 54,.fa 56 1 7,.st 1 56 55]) .skip))
def aDf:AC:=(.ops [.mv 32 9,.bin 33 .add 32 (kI 1),.asg 9 33])
def aEn:AC:=(.loop (.seq (.seq (.ops [.mv 29 9,.mv 30 8,.bin 31 .lss 29 30]) (.cond 31 .skip (.exit 2))) (.seq (.block 3 (.seq (.ops [.mv 34 0,.bsl 35 9 1 [(.c (.d (.s (bs [97])))),(.c (.d (.s (bs [98])))),(.c (.d (.s (bs [99])))),(.c (.d (.s (bs [105,100])))),(.c (.d (.s (bs [110,97,109,101]))))],.call (some 36) 64 [34,35],.mv 37 0,.bsl 38 3 1 [(kI 1),(kI 1),(kI 2),(kI 3)],.call (some 39) 71 [37,38],.bld 40 [dJ,bO] [(0,1,36),(1,1,39)],.alc 10 [dJ,bO],.st 2 10 40]) (.seq (.seq (.ops [.mv 41 0,.call (some 42) 29 [41,(kI 20)]]) (.cond 42 (.ops [.mv 43 0,.call (some 44) 72 [43],.fa 45 0 10,.st 1 45 44]) .skip)) aOk))) aDf)))
def aU6:AC:=(.ops [.fa 57 0 3,.ld 58 1 false 57,.ld 59 2 true 7,.bsl 60 49 2 [59],.app 61 49 2 40 58 60,.fa 62 0 3,.st 1 62 61])
def aYh:AC:=(.ops [.mv 19 6,.bin 20 .add 19 (kI 1),.asg 6 20])
def aGh:AC:=(.loop (.seq (.seq (.ops [.mv 16 6,.mv 17 5,.bin 18 .lss 16 17]) (.cond 18 .skip (.exit 0))) (.seq (.block 1 (.seq (.ops [.mv 21 4,.mv 22 6,.ia 23 1 21 22,.ld 24 1 false 23,.bld 25 [dJ,(.nil 2)] [(0,1,24)],.alc 7 [dJ,(.nil 2)],.st 2 7 25]) (.seq (.ops [.mv 26 0,.call (some 27) 41 [26,(kI 3)],.bin 28 .add (kI 1) 27,.asg 8 28]) (.seq (.seq (.ops [.asg 9 (kI 0)]) (.block 2 aEn)) aU6)))) aYh)))
def aYn:AC:=(.seq (.ops [.ld 63 1 true 3,.st 1 2 63]) .ret)
def bKi:AC:=(.seq (.ops [.alc 2 [(.nil 2)]]) (.seq (.ops [.bld 11 [(.nil 2)] [],.alc 3 [(.nil 2)],.st 1 3 11]) (.seq (.ops [.bsl 12 9 1 [(.c (.d (.s (bs [116])))),(.c (.d (.s (bs [117])))),(.c (.d (.s (bs [118]))))],.asg 4 12]) (.seq (.ops [.mv 13 0,.call (some 14) 41 [13,(kI 3)],.bin 15 .add (kI 1) 14,.asg 5 15]) (.seq (.seq (.ops [.asg 6 (kI 0)]) (.block 0 aGh)) aYn)))))
theorem bSh:aY Tryz.prog 40=some (bKi,[.ld 0 1 true 2],64):=by kernel_rfl
def aW7 (r:aR×aB):Exit→St→Prop:=aV [.ld 0 1 true 2] fun x b=>x=(fun (y:aR×aB)=>(.agv [(.tre 10000000)])) r∧dI ((fun (y:aR×aB)=>[(10000000,[(.trc 2 (y.1.tables.map bX))]),(1000000,bU y.2)]) r) b
def bM4 (r:aR×aB):Exit→St→Prop:=(bG (wkK (avc Tryz.prog aYn (aW7 r))) (aW7 r))
def aI7 (r:aR×aB):Exit→St→Prop:=(bI 0 (bM4 r))
def aZ7 (r:aR×aB):Exit→St→Prop:=(bG (avc Tryz.prog aGh (aI7 r)) (aI7 r))
def bFl (r:aR×aB):Exit→St→Prop:=(bG (wkK (avc Tryz.prog aYh (aZ7 r))) (aZ7 r))
def aU3 (r:aR×aB):Exit→St→Prop:=(bI 1 (bFl r))
def bJk (r:aR×aB):Exit→St→Prop:=(bG (wkK (avc Tryz.prog aU6 (aU3 r))) (aU3 r))
def aLk (r:aR×aB):Exit→St→Prop:=(bI 2 (bJk r))
def aHi (r:aR×aB):Exit→St→Prop:=(bG (avc Tryz.prog aEn (aLk r)) (aLk r))
def bWs (r:aR×aB):Exit→St→Prop:=(bG (wkK (avc Tryz.prog aDf (aHi r))) (aHi r))
def bMu (r:aR×aB):Exit→St→Prop:=(bI 3 (bWs r))
def bW6 (y1:Int×aB) (x6:Int) (bN:List Int) (bD:Int) (bM:Int) (fJ:List aQ):St:=⟨[(0,(.ptr 1000000 0)),(2,(.ptr 2 0)),(3,(.ptr 3 0)),(4,(.osl 4 9 1 (([[116],[117],[118]]:List (List UInt8)).map cStr))),(5,(vI (IntKind.wrap .i64 (1+y1.1)))),(6,(vI x6))],[(2,[(.nil 2)]),(3,[(.tre 60023000)]),(1000000,bU (aB.mk bN bD bM)),(60023000,[(.trc 2 (fJ.map bX))])]⟩
abbrev aDi:=fun y1 x6 bN bD bM fJ r=>avc Tryz.prog aGh (aI7 r) (bW6 y1 x6 bN bD bM fJ)
def bKo (y1:Int×aB) (x6:Int) (y3:Int×aB) (y2:List UInt8) (fJ:List aQ) (x9:Int) (gK:(List Int)×Int×Int×(List aZ)):St:=⟨[(0,(.ptr 1000000 0)),(2,(.ptr 2 0)),(3,(.ptr 3 0)),(4,(.osl 4 9 1 (([[116],[117],[118]]:List (List UInt8)).map cStr))),(5,(vI (IntKind.wrap .i64 (1+y1.1)))),(6,(vI x6)),(7,(.ptr 7 0)),(8,(vI (IntKind.wrap .i64 (1+y3.1)))),(9,(vI x9))],[(2,[(.nil 2)]),(3,[(.tre 60055000)]),(7,[(vS y2),(.tre 60055001)]),(1000000,bU (aB.mk gK.1 gK.2.1 gK.2.2.1)),(60055001,[(.trc 2 (gK.2.2.2.map eU))]),(60055000,[(.trc 2 (fJ.map bX))])]⟩
abbrev aD9:=fun y1 x6 y3 y2 fJ x9 gK r=>avc Tryz.prog aEn (aLk r) (bKo y1 x6 y3 y2 fJ x9 gK)
def bG1 (y1:Int×aB) (x6:Int) (y3:Int×aB) (x9:Int) (y2:List UInt8) (y8:Int×aB) (lF:List aZ) (gI:(List aQ)×(List UInt8)×(List Int)×Int×Int):St:=⟨[(0,(.ptr 1000000 0)),(2,(.ptr 2 0)),(3,(.ptr 3 0)),(4,(.osl 4 9 1 (([[116],[117],[118]]:List (List UInt8)).map cStr))),(5,(vI (IntKind.wrap .i64 (1+y1.1)))),(6,(vI x6)),(7,(.ptr 7 0)),(8,(vI (IntKind.wrap .i64 (1+y3.1)))),(9,(vI x9)),(10,(.ptr 10 0))],[(2,[(.nil 2)]),(3,[(.tre 60090000)]),(7,[(vS y2),(.tre 60090001)]),(10,bNb (aZ.mk gI.2.1 y8.1)),(1000000,bU (aB.mk gI.2.2.1 gI.2.2.2.1 gI.2.2.2.2)),(60090001,[(.trc 2 (lF.map eU))]),(60090000,[(.trc 2 (gI.1.map bX))])]⟩
abbrev aCd:=fun y1 x6 y3 x9 y2 y8 lF gI r=>avc Tryz.prog aOk (bMu r) (bG1 y1 x6 y3 x9 y2 y8 lF gI)
def bWz (y1:Int×aB) (x6:Int) (y3:Int×aB) (x9:Int) (y2:List UInt8) (nM:List Int) (jE:Int×Int×(List aQ)×(List aZ)):St:=⟨[(0,(.ptr 1000000 0)),(2,(.ptr 2 0)),(3,(.ptr 3 0)),(4,(.osl 4 9 1 (([[116],[117],[118]]:List (List UInt8)).map cStr))),(5,(vI (IntKind.wrap .i64 (1+y1.1)))),(6,(vI x6)),(7,(.ptr 7 0)),(8,(vI (IntKind.wrap .i64 (1+y3.1)))),(9,(vI x9))],[(2,[(.nil 2)]),(3,[(.tre 60107000)]),(7,[(vS y2),(.tre 60107001)]),(1000000,bU (aB.mk nM jE.1 jE.2.1)),(60107001,[(.trc 2 (jE.2.2.2.map eU))]),(60107000,[(.trc 2 (jE.2.2.1.map bX))])]⟩
abbrev aDc:=fun y1 x6 y3 x9 y2 nM jE r=>avc Tryz.prog aDf (aHi r) (bWz y1 x6 y3 x9 y2 nM jE)
def bR9:AC:=(.seq (.ops [.asg 2 (.c (.d (.s (bs []))))]) (.seq (.seq (.ops [.mv 3 0,.call (some 4) 41 [3,(kI 6)]]) (.block 0 (.seq (.ops [.bin 6 .eql 4 (kI 0),.asg 5 6]) (.cond 5 (.seq (.ops [.mv 7 0,.bsl 8 9 1 [(.c (.d (.s (bs [])))),(.c (.d (.s (bs [97,98,99,100,101,102,103,104,105,106,107,108,109,110,111,112,113,114,115,116])))),(.c (.d (.s (bs [97,98,99,100,101,102,103,104,105,106,107,108,109,110,111,112,113,114,115,116,117])))),(.c (.d (.s (bs [108,105,109,105,116])))),(.c (.d (.s (bs [76,73,77,73,84,83])))),(.c (.d (.s (bs [65,83,99])))),(.c (.d (.s (bs [57])))),(.c (.d (.s (bs [97,57])))),(.c (.d (.s (bs [195,169]))))],.call (some 9) 64 [7,8],.asg 2 9]) .ret) (.seq (.ops [.bin 11 .eql 4 (kI 1),.asg 10 11]) (.cond 10 (.seq (.ops [.call (some 12) 74 [],.mv 13 0,.call (some 14) 41 [13,(kI 29)],.ia 15 1 12 14,.ld 16 1 false 15,.asg 2 16]) .ret) (.seq (.ops [.bin 18 .eql 4 (kI 2),.asg 17 18]) (.cond 17 (.seq (.ops [.mv 19 0,.mv 20 0,.call (some 21) 41 [20,(kI 5)],.call (some 22) 75 [19,21],.cbs 23 22,.asg 2 23]) .ret) .skip)))))))) (.seq (.ops [.mv 24 0,.call (some 25) 72 [24],.asg 2 25]) .ret)))
theorem bEz:aY Tryz.prog 42=some (bR9,[.mv 0 2],26):=by kernel_rfl
def cBl (r:(List UInt8)×aB):Exit→St→Prop:=aV [.mv 0 2] fun x b=>x=(fun (y:(List UInt8)×aB)=>(vS y.1)) r∧dI ((fun (y:(List UInt8)×aB)=>[(1000000,bU y.2)]) r) b
def aHa:AC:=(.loop (.seq (.seq (.ops [.mv 8 6,.mv 9 1,.bin 10 .lss 8 9]) (.cond 10 .skip (.exit 0))) (.seq (.block 1 (.ops [.mv 13 5,.mv 14 0,.call (some 15) 73 [14],.cvi 16 .u8 15,.bsl 17 5 1 [16],.app 18 5 1 1 13 17,.asg 5 18])) (.ops [.mv 11 6,.bin 12 .add 11 (kI 1),.asg 6 12]))))
def aPp:AC:=(.seq (.ops [.mv 19 5,.asg 4 19]) .ret)
def bOc:AC:=(.seq (.ops [.asg 4 (.c (.nil 1))]) (.seq (.ops [.bsl 7 5 1 [],.asg 5 7]) (.seq (.seq (.ops [.asg 6 (kI 0)]) (.block 0 aHa)) aPp)))
theorem bMc:aY Tryz.prog 75=some (bOc,[.mv 0 4],20):=by kernel_rfl
def aP7 (r:(List Int)×aB):Exit→St→Prop:=aV [.mv 0 4] fun x b=>x=(fun (y:(List Int)×aB)=>(.osl 2000000 5 1 (y.1.map cU8))) r∧dI ((fun (y:(List Int)×aB)=>[(1000000,bU y.2)]) r) b
def bHu (r:(List Int)×aB):Exit→St→Prop:=(bG (wkK (avc Tryz.prog aPp (aP7 r))) (aP7 r))
def bC0 (r:(List Int)×aB):Exit→St→Prop:=(bI 0 (bHu r))
def bF1 (p1:Int) (x5:List Int) (x6:Int) (bN:List Int) (bD:Int) (bM:Int):St:=⟨[(0,(.ptr 1000000 0)),(1,(vI p1)),(5,(.osl 5 5 1 (x5.map cU8))),(6,(vI x6))],[(1000000,bU (aB.mk bN bD bM))]⟩
abbrev aFr:=fun p1 x5 x6 bN bD bM r=>avc Tryz.prog aHa (bC0 r) (bF1 p1 x5 x6 bN bD bM)
def bPr:AC:=(.seq (.ops [.alc 2 [(.nil 2)]]) (.seq (.ops [.mv 3 0,.call (some 4) 14 [3],.call (some 5) 13 [4],.st 1 2 5]) .ret))
theorem bCr:aY Tryz.prog 5=some (bPr,[.ld 0 1 true 2],6):=by kernel_rfl
def bYz (r:aR):Exit→St→Prop:=aV [.ld 0 1 true 2] fun x _=>x=(fun y=>(iY y)) r
theorem bN0 (x:aZ) (h:∀ d ∈ eU x,OkD d):okGCol x:=⟨aH3 _ (kU h 0 1),yK _ (kU h 1 1)⟩
theorem bWg (x:aQ) (h:∀ d ∈ bX x,OkD d):okGTable x:=⟨aH3 _ (kU h 0 1),D5 _ (fun y hy=>bN0 y hy) (kU h 1 1)⟩
theorem bZi (x:aR) (h:∀ d ∈ aK9 x,OkD d):okGCatalog x:=D5 _ (fun y hy=>bWg y hy) (kU h 0 1)
theorem aMs (x:aA) (h:∀ d ∈ aJ x,OkD d):okGToken x:=⟨yK _ (kU h 0 1),aH3 _ (kU h 1 1),yK _ (kU h 2 1)⟩
theorem bYc (x:eB) (h:∀ d ∈ aH9 x,OkD d):okGPrinter x:=⟨D5 _ (fun y hy=>aMs y hy) (kU h 0 1),trivial⟩
theorem cAn (x:aB) (h:∀ d ∈ aIf x,OkD d):okGL1Cur x:=⟨D5 _ (fun y hy=>aSw _ hy) (kU h 0 1),yK _ (kU h 1 1),yK _ (kU h 2 1)⟩
theorem bZo (x:cK) (h:∀ d ∈ aNm x,OkD d):okGL12In x:=⟨D5 _ (fun y hy=>aMs y hy) (kU h 0 1),yK _ (kU h 1 1),trivial⟩
theorem cAh (x:bZ) (h:∀ d ∈ aJ7 x,OkD d):okGParser x:=⟨D5 _ (fun y hy=>aMs y hy) (kU h 0 1),yK _ (kU h 1 1),trivial⟩
theorem de5 {l:List D} (h:WtC Tryz.prog 5 l):∃ x:Int,l=cU8 x:=(bCm h (k:=.u8) kr)
theorem bO3 {l:List D} (h:WtC Tryz.prog 22 l):∃ x:(List Int),l=(cSl 1 cU8) x:=(bQ8 h (e:=5) (n:=1) (c:=cU8) kr kr fun x hx=>de5 hx)
theorem bJ1 (p0:aZ) (c0_0:List UInt8):dU Tryz.prog 111 [(bCq p0),(.ptr 1000000 0)] [(1000000,[(vS c0_0)])] (fun (y:Bool)=>(vB y)) (fun (y:Bool)=>[(1000000,[(vS c0_0)])]) (aEc p0 c0_0):=by
 intro r h
 rw [aEc] at h;refine ao bTg (si (oi (sx 2 (ni (xi (si (oi (sx 5 (ni (xi (ri ?_)))))))))));injection h with h; subst h;exact rb
theorem bHg (p0) (c0_0):(∀ x8 r,wX p0 c0_0 x8=some r→aDx p0 c0_0 x8 r):=by
 refine wX.partial_correctness p0 c0_0 (fun x8 r=>aDx p0 c0_0 x8 r) ?_
 · intro cAu aLp x8 r h;delta aDx aJn;refine dX (si (oi (sx 1 (ni (xi (si ?_))))));refine cd h (fun h=>?_) fun h=>?_;refine ki (xi (si (bi (si (oi (sx 2 (ni (xi (si (oi (sx 3 (iq h fun y1 h=>(sx 1 (cgv c1_ [(.ptr 1000000 0)] h (bJ1 _ _) fun y2 h=>(ni (xi ?_))))))))))))))));refine cd h (fun h=>?_) fun h=>?_;refine si (oi (sx 2 (ni (xi (ri (br (tr (tr (br (tr ?_))))))))));injection h with h; subst h;exact rb;exact ki (bn (xi (oi (sx 2 (ni (lbs (aLp _ _ h) (wr [] eS bS)))))));refine ei (te (te (bh (xi (si (oi (sx 1 (ni (xi (ri ?_))))))))));injection h with h; subst h;exact rb
theorem aLp (p0 c0_0 x8 r) (h:wX p0 c0_0 x8=some r):aDx p0 c0_0 x8 r:=(bHg p0 c0_0) x8 r h
theorem bN2 (p0:List aZ) (c0_0:List UInt8):dU Tryz.prog 110 [(uF p0),(.fn 111 [(.ptr 1000000 0)])] [(1000000,[(vS c0_0)])] (fun (y:Int)=>(vI y)) (fun (y:Int)=>[(1000000,[(vS c0_0)])]) (aD1 p0 c0_0):=by
 intro r h
 rw [aD1] at h;exact ao bM1 (si (oi (sx 1 (ni (xi (si (si (oi (sx 1 (lq p0 (sx 1 (ni (xi (bi (lgs (aLp _ _ _ _ h) (wr [] eS bS))))))))))))))))
theorem bIm (p0:aQ) (p1:List UInt8):FOk Tryz.prog 77 [(qC p0),(vS p1)] (fun y=>(vI y)) (aB9 p0 p1):=by
 intro r h
 rw [aB9] at h;refine ao bM7 (si (oi (sx 3 (ni (xi (si (oi (sx 3 (cg ⟨[(1000000,3)],[],[],[],[],[],[],[],[]⟩ h (bN2 _ _) fun y1 h=>(sx 1 (ni (xi (ri ?_)))))))))))));injection h with h; subst h;exact rp
theorem aAa (p0:List UInt8):FOk Tryz.prog 76 [(vS p0)] (fun y=>(vB y)) (qB p0):=by
 intro r h
 rw [qB] at h;refine ao bH4 (si (oi (sx 1 (ni (xi (si (oi (sx 4 (gq 0 (gq 1 (gq 1 (pkA h fun y1 h=>(sx 1 (ni (xi (ri ?_))))))))))))))));injection h with h; subst h;exact rp
theorem bDi (p0):(∀ x8 r,xM p0 x8=some r→aCr p0 x8 r):=by
 refine xM.partial_correctness p0 (fun x8 r=>aCr p0 x8 r) ?_
 · intro bYv aNs x8 r h;delta aCr aMk;refine dX (si (oi (sx 1 (ni (xi (si ?_))))));refine cd h (fun h=>?_) fun h=>?_;refine ki (xi (si (bi (si (oi (sx 1 (iq h fun y1 h=>(sx 4 (ni (xi (si (oi (sx 2 (cs h (aAa _) fun y2 h=>(sx 2 (gq 0 (gq 1 (gq 1 (pkO h fun y3 h=>(sx 1 (gq 0 (gq 1 (gq 1 (pkO h fun y4 h=>(sx 1 (gq 0 (gq 0 (gq 1 (gc 2 h (bIm _ _) fun y5 h=>(gq 0 (gq 2 (pkO h fun y6 h=>(ni (xi ?_))))))))))))))))))))))))))))))))));refine cd h (fun h=>?_) fun h=>?_;refine si (oi (sx 1 (ni (xi (ri (br (tr (tr (br (tr ?_))))))))));injection h with h; subst h;exact rp;exact ki (bn (xi (oi (sx 2 (ni (lbs (aNs _ _ h) (wr [] eS bS)))))));refine ei (te (te (bh (xi (si (oi (sx 2 (cs h (aAa _) fun y7 h=>(sx 1 (gq 0 (gq 1 (glq 1 p0.cols (gq 1 (pkA h fun y8 h=>(sx 1 (gq 0 (gq 1 (glq 1 p0.cols (gq 1 (pkA h fun y9 h=>(sx 1 (ni (xi (ri ?_))))))))))))))))))))))));injection h with h; subst h;exact rp
theorem aNs (p0 x8 r) (h:xM p0 x8=some r):aCr p0 x8 r:=(bDi p0) x8 r h
theorem bNv (p0:aQ):FOk Tryz.prog 44 [(qC p0)] (fun y=>(vB y)) (V7 p0):=by
 intro r h
 rw [V7] at h;exact ao bEs (si (oi (sx 2 (ni (xi (si (si (oi (sx 2 (lq p0.cols (sx 1 (ni (xi (bi (lgs (aNs _ _ _ h) (wr [] eS bS))))))))))))))))
theorem bI9 (p0:aQ) (c0_0:List UInt8):dU Tryz.prog 79 [(qC p0),(.ptr 1000000 0)] [(1000000,[(vS c0_0)])] (fun (y:Bool)=>(vB y)) (fun (y:Bool)=>[(1000000,[(vS c0_0)])]) (aFq p0 c0_0):=by
 intro r h
 rw [aFq] at h;refine ao bTy (si (oi (sx 2 (ni (xi (si (oi (sx 5 (ni (xi (ri ?_)))))))))));injection h with h; subst h;exact rb
theorem bBv (p0) (c0_0):(∀ x8 r,wV p0 c0_0 x8=some r→aCi p0 c0_0 x8 r):=by
 refine wV.partial_correctness p0 c0_0 (fun x8 r=>aCi p0 c0_0 x8 r) ?_
 · intro cAq aMc x8 r h;delta aCi aL8;refine dX (si (oi (sx 1 (ni (xi (si ?_))))));refine cd h (fun h=>?_) fun h=>?_;refine ki (xi (si (bi (si (oi (sx 2 (ni (xi (si (oi (sx 3 (iq h fun y1 h=>(sx 1 (cgv c1_ [(.ptr 1000000 0)] h (bI9 _ _) fun y2 h=>(ni (xi ?_))))))))))))))));refine cd h (fun h=>?_) fun h=>?_;refine si (oi (sx 2 (ni (xi (ri (br (tr (tr (br (tr ?_))))))))));injection h with h; subst h;exact rb;exact ki (bn (xi (oi (sx 2 (ni (lbs (aMc _ _ h) (wr [] eS bS)))))));refine ei (te (te (bh (xi (si (oi (sx 1 (ni (xi (ri ?_))))))))));injection h with h; subst h;exact rb
theorem aMc (p0 c0_0 x8 r) (h:wV p0 c0_0 x8=some r):aCi p0 c0_0 x8 r:=(bBv p0 c0_0) x8 r h
theorem bSj (p0:List aQ) (c0_0:List UInt8):dU Tryz.prog 78 [(oQ p0),(.fn 79 [(.ptr 1000000 0)])] [(1000000,[(vS c0_0)])] (fun (y:Int)=>(vI y)) (fun (y:Int)=>[(1000000,[(vS c0_0)])]) (aE0 p0 c0_0):=by
 intro r h
 rw [aE0] at h;exact ao bO4 (si (oi (sx 1 (ni (xi (si (si (oi (sx 1 (lq p0 (sx 1 (ni (xi (bi (lgs (aMc _ _ _ _ h) (wr [] eS bS))))))))))))))))
theorem bFs (p0:aR) (p1:List UInt8):FOk Tryz.prog 45 [(iY p0),(vS p1)] (fun y=>(vI y)) (aB8 p0 p1):=by
 intro r h
 rw [aB8] at h;refine ao bT5 (si (oi (sx 3 (ni (xi (si (oi (sx 3 (cg ⟨[(1000000,3)],[],[],[],[],[],[],[],[]⟩ h (bSj _ _) fun y1 h=>(sx 1 (ni (xi (ri ?_)))))))))))));injection h with h; subst h;exact rp
theorem bHi (p0):(∀ x8 r,wP p0 x8=some r→aEj p0 x8 r):=by
 refine wP.partial_correctness p0 (fun x8 r=>aEj p0 x8 r) ?_
 · intro cAs aO3 x8 r h;delta aEj aNa;refine dX (si (oi (sx 1 (ni (xi (si ?_))))));refine cd h (fun h=>?_) fun h=>?_;refine ki (xi (si (bi (si (oi (sx 1 (iq h fun y1 h=>(sx 4 (ni (xi (si (oi (sx 1 (cs h (bNv _) fun y2 h=>(sx 2 (gq 0 (gq 0 (gq 1 (gc 2 h (bFs _ _) fun y3 h=>(gq 0 (gq 2 (pkO h fun y4 h=>(ni (xi ?_))))))))))))))))))))))));refine cd h (fun h=>?_) fun h=>?_;refine si (oi (sx 1 (ni (xi (ri (br (tr (tr (br (tr ?_))))))))));injection h with h; subst h;exact rp;exact ki (bn (xi (oi (sx 2 (ni (lbs (aO3 _ _ h) (wr [] eS bS)))))));refine ei (te (te (bh (xi (si (oi (sx 2 (lq p0.tables (sx 2 (ni (xi (ri ?_))))))))))));injection h with h; subst h;exact rp
theorem aO3 (p0 x8 r) (h:wP p0 x8=some r):aEj p0 x8 r:=(bHi p0) x8 r h
theorem aPn (p0:aR):FOk Tryz.prog 15 [(iY p0)] (fun y=>(vB y)) (M9 p0):=by
 intro r h
 rw [M9] at h;exact ao bHb (si (oi (sx 2 (ni (xi (si (si (oi (sx 2 (lq p0.tables (sx 1 (ni (xi (bi (lgs (aO3 _ _ _ h) (wr [] eS bS))))))))))))))))
theorem aY1 (p0:eB) (p1:Int) (p2:List UInt8):dU Tryz.prog 87 [(.ptr 1000000 0),(vI p1),(vS p2)] [(1000000,[(.osl 6000000 85 3 (p0.list.map aJ)),(vB p0.full)])] (fun (y:eB)=>(.tup [])) (fun (y:eB)=>[(1000000,[(.osl 6000000 85 3 (y.list.map aJ)),(vB y.full)])]) (R9 p0 p1 p2):=by
 intro r h
 rw [R9] at h;refine ao bEw (oi (sx 8 (eG (l:=([(aA.mk p1 p2 0)]:List aA)) (f:=aJ) (g:=aJ) kr (fun _=>rfl) kr (aq 6000000 aJ h fun y1 h=>(sx 3 (ni ?_))))));refine wB (s':=⟨[],[(1000000,[(.osl 6000000 85 3 (y1.map aJ)),(vB p0.full)])]⟩) (wr [(6000000,.old 15)] lX (bQ (c0:=[(.osl 15 85 3 (y1.map aJ)),(vB p0.full)]) kr (aP (dC (t:=15) kr kr) (aP (bF kr kr) bP)) aU)) ?_;injection h with h; subst h;exact r0b
theorem aNz (p0:eB) (p1:List UInt8):dU Tryz.prog 50 [(.ptr 1000000 0),(vS p1)] [(1000000,[(.osl 6000000 85 3 (p0.list.map aJ)),(vB p0.full)])] (fun (y:eB)=>(.tup [])) (fun (y:eB)=>[(1000000,[(.osl 6000000 85 3 (y.list.map aJ)),(vB y.full)])]) (xK p0 p1):=by
 intro r h
 rw [xK] at h;refine ao bAv (oi (sx 2 (cg ⟨[(1000000,1000000)],[(6000000,6000000)],[],[],[],[(6000000,6000000)],[],[6000000],[]⟩ h (aY1 _ _ _) fun y1 h=>(ni ?_))));refine wB (s':=⟨[],[(1000000,[(.osl 6000000 85 3 (y1.list.map aJ)),(vB y1.full)])]⟩) (wr [(6000000,.old 6000000)] lX (bQ (c0:=[(.osl 6000000 85 3 (y1.list.map aJ)),(vB y1.full)]) kr (aP (dC (t:=6000000) kr kr) (aP (bF kr kr) bP)) aU)) ?_;injection h with h; subst h;exact r0b
theorem aZk (p0:eB) (p1:Int):dU Tryz.prog 48 [(.ptr 1000000 0),(vI p1)] [(1000000,[(.osl 6000000 85 3 (p0.list.map aJ)),(vB p0.full)])] (fun (y:eB)=>(.tup [])) (fun (y:eB)=>[(1000000,[(.osl 6000000 85 3 (y.list.map aJ)),(vB y.full)])]) (M8 p0 p1):=by
 intro r h
 rw [M8] at h;refine ao bV1 (si (oi (sx 2 (ni (xi ?_)))));refine cd h (fun h=>?_) fun h=>?_;refine oi (sx 1 (cg ⟨[(1000000,1000000)],[(6000000,6000000)],[],[],[],[(6000000,6000000)],[],[6000000],[]⟩ h (aNz _ _) fun y1 h=>(ni ?_)));refine wB (s':=⟨[],[(1000000,[(.osl 6000000 85 3 (y1.list.map aJ)),(vB y1.full)])]⟩) (wr [(6000000,.old 6000000)] lX (bQ (c0:=[(.osl 6000000 85 3 (y1.list.map aJ)),(vB y1.full)]) kr (aP (dC (t:=6000000) kr kr) (aP (bF kr kr) bP)) aU)) ?_;injection h with h; subst h;exact r0b;refine ki (wB (s':=⟨[],[(1000000,[(.osl 6000000 85 3 (p0.list.map aJ)),(vB p0.full)])]⟩) (wr [(6000000,.old 6000000)] lX (bQ (c0:=[(.osl 6000000 85 3 (p0.list.map aJ)),(vB p0.full)]) kr (aP (dC (t:=6000000) kr kr) (aP (bF kr kr) bP)) aU)) ?_);injection h with h; subst h;exact r0b
theorem aI4 (p0:eB) (p1:List UInt8):dU Tryz.prog 49 [(.ptr 1000000 0),(vS p1)] [(1000000,[(.osl 6000000 85 3 (p0.list.map aJ)),(vB p0.full)])] (fun (y:eB)=>(.tup [])) (fun (y:eB)=>[(1000000,[(.osl 6000000 85 3 (y.list.map aJ)),(vB y.full)])]) (F5 p0 p1):=by
 intro r h
 rw [F5] at h;refine ao bBs (oi (sx 2 (cg ⟨[(1000000,1000000)],[(6000000,6000000)],[],[],[],[(6000000,6000000)],[],[6000000],[]⟩ h (aY1 _ _ _) fun y1 h=>(ni ?_))));refine wB (s':=⟨[],[(1000000,[(.osl 6000000 85 3 (y1.list.map aJ)),(vB y1.full)])]⟩) (wr [(6000000,.old 6000000)] lX (bQ (c0:=[(.osl 6000000 85 3 (y1.list.map aJ)),(vB y1.full)]) kr (aP (dC (t:=6000000) kr kr) (aP (bF kr kr) bP)) aU)) ?_;injection h with h; subst h;exact r0b
theorem bWj (p0:Int):FOk Tryz.prog 51 [(vI p0)] (fun y=>(vS y)) (yA p0):=by
 intro r h
 rw [yA] at h;refine ao bSg (si (oi (sx 1 (ni (xi (si (si (oi (sx 3 (gq 0 (gq 1 (pkO h fun y1 h=>(ni (xi ?_))))))))))))));refine cd h (fun h=>?_) fun h=>?_;refine si (oi (sx 1 (ni (xi (ri (tr ?_))))));injection h with h; subst h;exact rp;refine ki (xi (si (oi (eG (l:=([[65,78,89],[73,78,84],[84,69,88,84],[66,79,79,76]]:List (List UInt8))) (f:=cStr) (g:=cStr) kr (fun _=>rfl) kr (sx 1 (iq h fun y2 h=>(sx 2 (ni (xi (ri ?_))))))))));injection h with h; subst h;exact rp
theorem aQn (p0):(∀ x13 y1 x30 kZ kY r,wY p0 x13 y1 x30 kZ kY=some r→aBg p0 x13 y1 x30 kZ kY r)∧(∀ x13 jR fP r,wE p0 x13 jR fP=some r→aFx p0 x13 jR fP r):=by
 refine wY.mutual_partial_correctness p0 (fun x13 y1 x30 kZ kY r=>aBg p0 x13 y1 x30 kZ kY r) (fun x13 jR fP r=>aFx p0 x13 jR fP r) ?_ ?_
 · intro bOg bY5 aBj aMl x13 y1 x30 kZ kY r h;delta aBg aLw;refine dX (si (oi (sx 1 (ni (xi (si ?_))))));refine cd h (fun h=>?_) fun h=>?_;refine ki (xi (si (bi (si (oi (sx 1 (iq h fun y7 h=>(sx 4 (ni (xi (si (oi (sx 2 (cg ⟨[(1000000,9)],[(6000000,5039500)],[],[],[],[(6000000,5039500)],[],[5039500],[]⟩ h (aZk _ _) fun y8 h=>(ni (xi (si (oi (sx 3 (cg ⟨[(1000000,9)],[(6000000,5039500)],[],[],[],[(6000000,5039500)],[],[5039500],[]⟩ h (aI4 _ _) fun y9 h=>(ni ?_)))))))))))))))))))));refine xi (oi (sx 3 (cs h (bWj _) fun y10 h=>(cg ⟨[(1000000,9)],[(6000000,5039500)],[],[],[],[(6000000,5039500)],[],[5039500],[]⟩ h (aI4 _ _) fun y11 h=>(ni (bn (xi (oi (sx 2 (ni ?_))))))))));exact lbs (aBj _ _ _ _ _ _ h) (wr [(5039500,.old 5039500)] eS (bQ (c0:=[(.osl 5039500 85 3 (y11.list.map aJ)),(vB y11.full)]) kr (aP (dC (t:=5039500) kr kr) (aP (bF kr kr) bP)) aU));refine ei (te (te (bh (xi (oi (sx 1 (cg ⟨[(1000000,9)],[(6000000,5039500)],[],[],[],[(6000000,5039500)],[],[5039500],[]⟩ h (aNz _ _) fun y12 h=>(ni (bn (xi (oi (sx 2 (ni ?_)))))))))))));exact lbs (aMl _ _ _ _ h) (wr [(5039500,.old 5039500)] eS (bQ (c0:=[(.osl 5039500 85 3 (y12.list.map aJ)),(vB y12.full)]) kr (aP (dC (t:=5039500) kr kr) (aP (bF kr kr) bP)) aU))
 · intro bOg aBj x13 jR fP r h;delta aFx aDz;refine dX (si (oi (sx 1 (ni (xi (si ?_))))));refine cd h (fun h=>?_) fun h=>?_;refine ki (xi (si (bi (si (oi (sx 1 (iq h fun y1 h=>(sx 4 (ni (xi (si (oi (sx 2 (cg ⟨[(1000000,9)],[(6000000,5039500)],[],[],[],[(6000000,5039500)],[],[5039500],[]⟩ h (aZk _ _) fun y2 h=>(ni (xi (si (oi (sx 3 (cg ⟨[(1000000,9)],[(6000000,5039500)],[],[],[],[(6000000,5039500)],[],[5039500],[]⟩ h (aI4 _ _) fun y3 h=>(ni ?_)))))))))))))))))))));refine xi (si (oi (sx 1 (cg ⟨[(1000000,9)],[(6000000,5039500)],[],[],[],[(6000000,5039500)],[],[5039500],[]⟩ h (aNz _ _) fun y4 h=>(ni (xi (si (si (oi (sx 2 (lq y1.cols (sx 1 (ni (xi (bi ?_)))))))))))))));exact lgs (aBj _ _ _ _ _ _ h) (wr [(5039500,.old 5039500)] eS (bQ (c0:=[(.osl 5039500 85 3 (y4.list.map aJ)),(vB y4.full)]) kr (aP (dC (t:=5039500) kr kr) (aP (bF kr kr) bP)) aU));refine ei (te (te (bh (xi (si (oi (sx 5 (ni (xi (fC (s':=⟨[(2,(eD jR))],[]⟩) (wr [] (ew lX) aU) ?_))))))))));injection h with h; subst h;exact rp
theorem aBj (p0 x13 y1 x30 kZ kY r) (h:wY p0 x13 y1 x30 kZ kY=some r):aBg p0 x13 y1 x30 kZ kY r:=(aQn p0).1 x13 y1 x30 kZ kY r h
theorem aMl (p0 x13 jR fP r) (h:wE p0 x13 jR fP=some r):aFx p0 x13 jR fP r:=(aQn p0).2 x13 jR fP r h
theorem aU1 (p0:aR):FOk Tryz.prog 17 [(iY p0)] (fun y=>(eD y)) (aAb p0):=by
 intro r h
 rw [aAb] at h;refine ao bJ9 (si (oi (sx 2 (ni (xi (si (oi (nC (c:=[(.nil 3),(vB false)]) kr kr rfl (sx 2 (ni (xi (si (si (oi (sx 2 (lq p0.tables (sx 1 (ni (xi (bi ?_))))))))))))))))))));exact lgs (aMl _ _ _ _ _ h) (wr [(5039500,.new 85 3)] eS (bQ (c0:=[(.nil 3),(vB false)]) kr (aP (zK kr kr) (aP (bF kr kr) bP)) aU))
theorem bXg (c0_1:List Int):dU Tryz.prog 83 [(.ptr 1000000 0)] [(1000000,[(.bp 1000000 108),(.osl 6000001 5 1 (c0_1.map cU8))])] (fun (y:Int)=>(vI y)) (fun (y:Int)=>[(1000000,[(.bp 1000000 108),(.osl 6000001 5 1 (c0_1.map cU8))])]) (aC9 c0_1):=by
 intro r h
 rw [aC9] at h;refine ao bAg (si (oi (sx 1 (ni (xi (si (oi (sx 4 (lqf cU8 c0_1 (sx 1 (ni (xi ?_))))))))))));refine fC (s':=⟨[(2,(vI (ln c0_1)))],[(1000000,[(.bp 1000000 108),(.osl 6000001 5 1 (c0_1.map cU8))])]⟩) (wr [(6000001,.old 6000001)] eS (bQ (c0:=[(.bp 1000000 108),(.osl 6000001 5 1 (c0_1.map cU8))]) kr (aP (bF kr kr) (aP (dC (t:=6000001) kr kr) bP)) aU)) ?_;injection h with h; subst h;exact rb
theorem bKl (c0_1:List Int):dU Tryz.prog 84 [(.ptr 1000000 0)] [(1000000,[(.bp 1000000 108),(.osl 6000001 5 1 (c0_1.map cU8))])] (fun (y:(List UInt8)×(List Int))=>(vS y.1)) (fun (y:(List UInt8)×(List Int))=>[(1000000,[(.bp 1000000 108),(vE y.2)])]) (aEg c0_1):=by
 intro r h
 rw [aEg] at h
 obtain ⟨y,hy,h⟩:=Option.bind_eq_some_iff.1 h
 injection h with h
 subst h
 exact bUt 1000000 6000001 c0_1 y hy (bF3 108 bNu bN4 bJz bEb)
theorem bF0 (c0_1:List Int):dU Tryz.prog 114 [(.ptr 1000000 0)] [(1000000,[(.bp 1000000 108),(.osl 6000001 5 1 (c0_1.map cU8))])] (fun (y:Unit)=>(.tup [])) (fun (y:Unit)=>[(1000000,[(.bp 1000000 108),(.osl 6000001 5 1 (c0_1.map cU8))])]) (aFh c0_1):=by
 intro r _
 exact bFj 1000000 [.osl 6000001 5 1 (c0_1.map cU8)] bK8 bCf rfl
theorem aYu (c0_1:List Int) (p1:List UInt8):dU Tryz.prog 81 [(.ptr 1000000 0),(vS p1)] [(1000000,[(.bp 1000000 108),(.osl 6000001 5 1 (c0_1.map cU8))])] (fun (y:Int×(List Int))=>(.tup [(vI y.1),.top])) (fun (y:Int×(List Int))=>[(1000000,[(.bp 1000000 108),(.osl 6000001 5 1 (y.2.map cU8))])]) (Q3 c0_1 p1):=by
 intro r h
 rw [Q3] at h;refine ao bEh (si (oi (sx 2 (ni (xi (si (oi (sx 1 (cg ⟨[(1000000,1000000)],[(6000001,6000001)],[],[],[],[(6000001,6000001)],[],[6000001],[]⟩ h (bF0 _) fun y1 h=>(ni (xi (si (oi (sx 6 (aq 6000001 cU8 h fun y2 h=>(sx 3 (ni (xi (si (oi (sx 4 (ni (xi ?_)))))))))))))))))))))));refine fC (s':=⟨[(4,(vI (ln p1))),(5,.top)],[(1000000,[(.bp 1000000 108),(.osl 6000001 5 1 (y2.map cU8))])]⟩) (wr [(6000001,.old 14)] eS (bQ (c0:=[(.bp 1000000 108),(.osl 14 5 1 (y2.map cU8))]) kr (aP (bF kr kr) (aP (dC (t:=14) kr kr) bP)) aU)) ?_;injection h with h; subst h;exact rnb
theorem aLm (p0:Int):FOk Tryz.prog 92 [(.d (.i .u8 p0))] (fun y=>(vB y)) (kJ p0):=by
 intro r h
 rw [kJ] at h;refine ao bQ0 (si (oi (sx 1 (ni (xi (si (oi (sx 3 (gq 0 (gq 1 (pkA h fun y1 h=>(sx 1 (ni (xi (ri ?_)))))))))))))));injection h with h; subst h;exact rp
theorem bCu (p0) (p1):(∀ x8 r,fU p0 p1 x8=some r→aF7 p0 p1 x8 r):=by
 refine fU.partial_correctness p0 p1 (fun x8 r=>aF7 p0 p1 x8 r) ?_
 · intro cBa aN6 x8 r h;delta aF7 aLu;refine dX (si (oi (sx 1 (ni (xi (si ?_))))));refine cd h (fun h=>?_) fun h=>?_;refine ki (xi (si (bi (si (oi (sx 2 (ni (xi (si (oi (sx 3 (iq h fun y1 h=>(sx 2 (ni (xi ?_)))))))))))))));refine cd h (fun h=>?_) fun h=>?_;refine si (oi (sx 2 (ni (xi (ri (br (tr (tr (br (tr ?_))))))))));injection h with h; subst h;exact rp;exact ki (bn (xi (oi (sx 2 (ni (lbs (aN6 _ _ h) (wr [] eS aU)))))));refine ei (te (te (bh (xi (si (oi (sx 1 (ni (xi (ri ?_))))))))));injection h with h; subst h;exact rp
theorem aN6 (p0 p1 x8 r) (h:fU p0 p1 x8=some r):aF7 p0 p1 x8 r:=(bCu p0 p1) x8 r h
theorem aO4 (p0:List (List UInt8)) (p1:List UInt8):FOk Tryz.prog 21 [(zU p0),(vS p1)] (fun y=>(vI y)) (qX p0 p1):=by
 intro r h
 rw [qX] at h;exact ao bOr (si (oi (sx 1 (ni (xi (si (si (oi (sx 1 (lq p0 (sx 1 (ni (xi (bi (lgs (aN6 _ _ _ _ h) (wr [] eS aU))))))))))))))))
theorem bQc (x3 r) (h:aEi x3=some r):aVo x3 r:=by
 rw [aEi] at h;delta aVo aFy;refine si (oi (sx 1 (vs (fun (y:List UInt8)=>(vS y)) h (fun y hy=>wU (l:=x3) hy kr kr) fun y3 h=>(sx 1 (ni (xi (ri ?_)))))));injection h with h; subst h;exact rp
theorem aP8 (p0):(∀ x10 lW r,A8 p0 x10 lW=some r→aDu p0 x10 lW r)∧(∀ x10 gM r,zM p0 x10 gM=some r→aDt p0 x10 gM r):=by
 refine A8.mutual_partial_correctness p0 (fun x10 lW r=>aDu p0 x10 lW r) (fun x10 gM r=>aDt p0 x10 gM r) ?_ ?_
 · intro bXp aKw x10 lW r h;delta aDu aLj;exact oi (sx 2 (ni (lbs (aKw _ _ _ h) (tw [.rn [(60050000,60015000)]] (wr [] eS bS)))))
 · intro bZv aKi x10 gM r h;delta aDt aCq;refine dX (si (oi (sx 1 (ni (xi (si ?_))))));refine cd h (fun h=>?_) fun h=>?_;refine ki (xi (si (bi (si (oi (sx 1 (aDk (n:=60015000) (k:=.i64) (i:=x10) (l:=gM) (f:=cU8) (g:=cU8) [] h kr kr kr (fun _=>rfl) kr (fun _=>rfl) fun y1 hiy1 h=>?_)))))));refine ps (.d (.i .u8 y1)) (aEl (n:=60015000) (sz:=1) (i:=(x10).toNat) (off:=0) (l:=gM.map cU8) (c:=[(.d (.i .u8 y1))]) kr kr kr) (sx 2 (ni (xi (si (oi (sx 3 (gq 0 (gq 1 (pkA h fun y2 h=>(ni (xi ?_)))))))))));refine cd h (fun h=>?_) fun h=>?_;refine oi (sx 5 (aLs (n:=60015000) (k:=.i64) (i:=x10) (l:=gM.map cU8) (c:=[(.d (.i .u8 y1))]) kr kr (zR hiy1).1 kr (aFk (n:=60015000) (sz:=1) (i:=(x10).toNat) (off:=0) (l:=gM.map cU8) (c:=[(.d (.i .u8 y1))]) kr kr kr rfl (ni (bn ?_)))));exact nxs (aKi _ _ _ h) (tw [.clo 60015000,.rn [(60015000,60050000)]] (wr [] eS (bt_ (R:=(gM.set (x10).toNat (IntKind.wrap .u8 ((IntKind.wrap .u8 (y1 - 97))+65))).map cU8) (O4 (l:=gM) (k:=(x10).toNat) (x:=(IntKind.wrap .u8 ((IntKind.wrap .u8 (y1 - 97))+65))) (fun _=>rfl)) aU)));exact ki (bn (nxs (aKi _ _ _ h) (tw [.clo 60015000,.rn [(60015000,60050000)]] (wr [] eS (bt_ (R:=(gM.set (x10).toNat y1).map cU8) (O4 (l:=gM) (k:=(x10).toNat) (x:=y1) (fun _=>rfl)) aU)))));exact ei (te (te (bh (nxs (bQc _ _ h) (tw [.frz [60015000]] (wr [] eS aU))))))
theorem aKi (p0 x10 lW r) (h:A8 p0 x10 lW=some r):aDu p0 x10 lW r:=(aP8 p0).1 x10 lW r h
theorem aKw (p0 x10 gM r) (h:zM p0 x10 gM=some r):aDt p0 x10 gM r:=(aP8 p0).2 x10 gM r h
theorem aIz (p0:List UInt8):FOk Tryz.prog 94 [(vS p0)] (fun y=>(vS y)) (xP p0):=by
 intro r h
 rw [xP] at h;refine ao bQv (si (oi (sx 1 (ni (xi (si (oi (sx 1 (aX0 (b:=p0) kr kr rfl (sx 1 (ni (xi (si (si (oi (sx 1 (ps (vI ((dW p0).length:Int)) (zQ (n:=7) (l:=(dW p0).map cU8) (L:=(dW p0).length) kr kr (List.length_map ..)) (sx 1 (ni (xi (bi ?_)))))))))))))))))))));exact lgs (aKw _ _ _ _ h) (tw [.rn [(7,60015000)]] (wr [] eS bS))
theorem bVz (p0:List UInt8) (p1:List UInt8):FOk Tryz.prog 137 [(vS p0),(vS p1)] (fun y=>(zU y)) (aI0 p0 p1):=by
 intro r h
 rw [aI0] at h;exact bId (ρ:=sh146_ren) sh146 kr kr kr (.tail _ (.head _)) p0 p1 r h
theorem bBr:FOk Tryz.prog 122 [] (fun y=>(zU y)) (aDp):=by
 intro r h
 rw [aDp] at h;refine ao bFz (si (oi (sx 1 (ni (xi (si (oi (cs h (bVz _ _) fun y1 h=>(sx 1 (ni (xi (ri ?_))))))))))))
 have h:=Option.some.inj h; subst h
 exact rp
theorem aM6 (p0:List UInt8):FOk Tryz.prog 93 [(vS p0)] (fun y=>(vI y)) (nJ p0):=by
 intro r h
 rw [nJ] at h;refine ao bOu (si (oi (sx 1 (ni (xi (si (oi (cs h bBr fun y1 h=>(sx 1 (cs h (aIz _) fun y2 h=>(cs h (aO4 _ _) fun y3 h=>(sx 2 (ni (xi (ri ?_)))))))))))))))
 have h:=Option.some.inj h; subst h
 exact rp
theorem bVi (p0:Int):FOk Tryz.prog 121 [(.d (.i .u8 p0))] (fun y=>(vB y)) (U9 p0):=by
 intro r h
 rw [U9] at h;refine ao bJb (si (oi (sx 1 (ni (xi (si (oi (sx 3 (gq 0 (gq 1 (pkA h fun y1 h=>(sx 1 (gq 0 (gq 1 (gq 1 (gq 0 (gq 1 ?_)))))))))))))))));refine gv true y1 (fun (y:Bool)=>(vB y)) h (fun y hy hc=>lU hy (p:=((true&&(y1==false))&&((decide (65≤p0))==true))) (q:=true) (Eq.trans (b:=([(true&&(y1==false))]:List Bool).all id) kr (bR hc rfl)) kr kr kr (fun hb=>rP hc hb) (fun _=>rfl)) fun y2 h=>(pkO h fun y3 h=>(sx 1 (gq 0 (gq 1 (pkO h fun y4 h=>(sx 1 (ni ?_)))))));refine xi (ri ?_);injection h with h; subst h;exact rp
theorem aK5 (p0:Int):FOk Tryz.prog 91 [(.d (.i .u8 p0))] (fun y=>(vB y)) (vL p0):=by
 intro r h
 rw [vL] at h;refine ao bH0 (si (oi (sx 1 (ni (xi (si (oi (sx 1 (cs h (bVi _) fun y1 h=>(sx 1 (gq 0 (gc 1 h (aLm _) fun y2 h=>(pkO h fun y3 h=>(sx 1 (ni (xi (ri ?_)))))))))))))))));injection h with h; subst h;exact rp
theorem bPp (p0):(∀ x19 r,qJ p0 x19=some r→aD2 p0 x19 r):=by
 refine qJ.partial_correctness p0 (fun x19 r=>aD2 p0 x19 r) ?_
 · intro bZb aHs x19 r h;delta aD2 aM1;refine dX (si (oi (sx 1 (ni (xi (si ?_))))));refine cd h (fun h=>?_) fun h=>?_;refine ki (xi (si (bi (si (oi (sx 2 (ni (xi (si (oi (sx 2 (vs (fun (y:Int)=>(.d (.i .u8 y))) h (fun y hy=>eZ (b:=p0) (k:=.i64) hy kr kr kr) fun y7 h=>(cs h (aK5 _) fun y8 h=>(sx 1 (ni (xi ?_))))))))))))))));refine cd h (fun h=>?_) fun h=>?_;refine si (oi (sx 1 (ni (xi (ri (br (tr (tr (br (tr ?_))))))))));injection h with h; subst h;exact rp;exact ki (bn (xi (oi (sx 2 (ni (lbs (aHs _ _ h) (wr [] eS aU)))))));refine ei (te (te (bh (xi (si (oi (sx 1 (ni (xi (ri ?_))))))))));injection h with h; subst h;exact rp
theorem aHs (p0 x19 r) (h:qJ p0 x19=some r):aD2 p0 x19 r:=(bPp p0) x19 r h
theorem aMd (p0:List UInt8):FOk Tryz.prog 117 [(vS p0)] (fun y=>(vB y)) (vJ p0):=by
 intro r h
 rw [vJ] at h;refine ao bJa (si (oi (sx 1 (ni (xi (si (si (oi (sx 1 (cs h (aAa _) fun y1 h=>(sx 2 (gq 0 (gv true (!y1) (fun (y:Int)=>(.d (.i .u8 y))) h (fun y hy hc=>eZ (b:=p0) (k:=.i64) hy (Eq.trans (b:=([(true&&((!y1)==false))]:List Bool).all id) kr (bR hc rfl)) kr kr) fun y2 h=>(gc 1 h (aLm _) fun y3 h=>(pkO h fun y4 h=>?_)))))))))))))));refine sx 1 (gq 0 (gc 1 h (aM6 _) fun y5 h=>(gq 1 (pkO h fun y6 h=>(ni (xi ?_))))));refine cd h (fun h=>?_) fun h=>?_;refine si (oi (sx 1 (ni (xi (ri (tr ?_))))));injection h with h; subst h;exact rp;exact ki (xi (si (si (oi (sx 3 (ni (xi (bi (lgs (aHs _ _ _ h) (wr [] eS aU))))))))))
theorem bUb (p0:List UInt8) (p1:List UInt8) (p2:List UInt8):FOk Tryz.prog 145 [(vS p0),(vS p1),(vS p2)] (fun y=>(vS y)) (aC8 p0 p1 p2):=by
 intro r h
 rw [aC8] at h;exact bVv (ρ:=sh155_ren) sh155 sh155_X kr kr (.tail _ (.head _)) p0 p1 p2 r h
theorem aUz (p0:List UInt8) (p1:List UInt8):FOk Tryz.prog 132 [(vS p0),(vS p1)] (fun y=>(vS y)) (O1 p0 p1):=by
 intro r h
 rw [O1] at h;refine ao bM3 (si (oi (sx 1 (ni (xi (si (oi (sx 5 (vs (fun (y:List UInt8)=>(vS y)) h (fun y hy=>xO (a:=p1) (b:=p1) hy kr kr kr) fun y1 h=>(cs h (bUb _ _ _) fun y2 h=>(vs (fun (y:List UInt8)=>(vS y)) h (fun y hy=>xO (a:=p1) (b:=y2) hy kr kr kr) fun y3 h=>(sx 1 ?_))))))))))));refine vs (fun (y:List UInt8)=>(vS y)) h (fun y hy=>xO (a:=y3) (b:=p1) hy kr kr kr) fun y4 h=>(sx 1 (ni (xi (ri ?_))));injection h with h; subst h;exact rp
theorem bEd (p0:List UInt8):FOk Tryz.prog 115 [(vS p0)] (fun y=>(vS y)) (yI p0):=by
 intro r h
 rw [yI] at h;refine ao bFy (si (oi (sx 1 (ni (xi (si (bi (si (oi (sx 1 (cs h (aAa _) fun y1 h=>(sx 2 (ni (xi ?_))))))))))))));refine cd h (fun h=>?_) fun h=>?_;refine si (oi (sx 1 (ni (xi (ri (br (tr ?_)))))));injection h with h; subst h;exact rp;refine si (oi (sx 1 (cs h (aMd _) fun y2 h=>(sx 1 (ni (xi ?_))))));refine cd h (fun h=>?_) fun h=>?_;refine si (oi (sx 2 (ni (xi (ri (br (tr ?_)))))));injection h with h; subst h;exact rp;refine ki (bn (xi (si (oi (sx 1 (cs h (aUz _ _) fun y3 h=>(sx 1 (ni (xi (ri ?_))))))))));injection h with h; subst h;exact rp
theorem bGu (p0:List UInt8):FOk Tryz.prog 116 [(vS p0)] (fun y=>(vS y)) (aBb p0):=by
 intro r h
 rw [aBb] at h;refine ao bX2 (si (oi (sx 1 (ni (xi (si (oi (sx 1 (cs h (aUz _ _) fun y1 h=>(sx 1 (ni (xi (ri ?_)))))))))))));injection h with h; subst h;exact rp
theorem bTf (p0:List UInt8):FOk Tryz.prog 112 [(vS p0)] (fun y=>(.tup [(vI y.1),(vB y.2)])) (zF p0):=by
 intro r h
 rw [zF] at h;exact bGc bGl (.tail _ (.tail _ (.head _))) (.tail _ (.tail _ (.tail _ (.head _)))) (.head _) p0 r h
theorem bRd (p0:List (List UInt8)) (p1:List UInt8):FOk Tryz.prog 130 [(zU p0),(vS p1)] (fun y=>(vB y)) (aEo p0 p1):=by
 intro r h
 rw [aEo] at h;refine ao bB5 (si (oi (sx 1 (ni (xi (si (oi (sx 2 (cs h (aO4 _ _) fun y1 h=>(sx 2 (ni (xi (ri ?_)))))))))))));injection h with h; subst h;exact rp
theorem aX6:dU Tryz.prog 96 [] [] (fun (y:List (List UInt8))=>(.osl 2000000 9 1 (y.map cStr))) (fun (y:List (List UInt8))=>[]) (zY):=by
 intro r h
 rw [zY] at h;refine ao aZo (si (oi (sx 1 (ni (xi (si (oi (eG (l:=([[40],[41],[44],[46],[42],[43],[45],[47],[37],[61],[60,62],[60],[60,61],[62],[62,61],[124,124]]:List (List UInt8))) (f:=cStr) (g:=cStr) kr (fun _=>rfl) kr (sx 1 (ni (xi ?_)))))))))));refine fC (s':=⟨[(0,(.osl 2000000 9 1 (([[40],[41],[44],[46],[42],[43],[45],[47],[37],[61],[60,62],[60],[60,61],[62],[62,61],[124,124]]:List (List UInt8)).map cStr)))],[]⟩) (wr [(2000000,.old 0)] (eo 0 lX) aU) ?_;injection h with h; subst h;exact rb
theorem bCj (p0:List UInt8):FOk Tryz.prog 113 [(vS p0)] (fun y=>(vB y)) (aAu p0):=by
 intro r h
 rw [aAu] at h;refine ao bEu (si (oi (sx 1 (ni (xi (si (oi (cg ⟨[],[],[],[],[],[(2000000,3)],[],[3],[]⟩ h aX6 fun y1 h=>(sx 1 (cs h (bRd _ _) fun y2 h=>(sx 1 (ni (xi (ri ?_))))))))))))));injection h with h; subst h;exact rp
theorem L6 (p0:aA):FOk Tryz.prog 80 [(fE p0)] (fun y=>(vB y)) (mU p0):=by
 intro r h
 rw [mU] at h;refine ao bOn (si (oi (sx 2 (ni (xi (si (si (oi (sx 2 (ni (xi (bi (si (oi (sx 2 (ni (xi ?_)))))))))))))))));refine cd h (fun h=>?_) fun h=>?_;refine si (gD (dsx 2 (dcs h (aM6 _) fun y1 h=>(dsx 2 (dgq 0 (dgq 1 (dgc 1 h (aIz _) fun y2 h=>(dgq 0 (dgq 1 (dgq 2 (xV h fun y3 h=>(dsx 1 (gG kr kr (xi (ri (br (tr ?_)))))))))))))))));injection h with h; subst h;exact rp;refine si (oi (sx 2 (ni (xi ?_))));refine cd h (fun h=>?_) fun h=>?_;refine si (oi (sx 2 (cs h (aAa _) fun y4 h=>(sx 1 (ni (xi (ri (br (tr ?_)))))))));injection h with h; subst h;exact rp;refine si (oi (sx 2 (ni (xi ?_))));refine cd h (fun h=>?_) fun h=>?_;refine si (oi (sx 2 (cs h (bTf _) fun y5 h=>(sx 5 (ni (xi (si (oi (sx 2 (ni (xi (ri (br (tr ?_))))))))))))));injection h with h; subst h;exact rp;refine si (oi (sx 2 (ni (xi ?_))));refine cd h (fun h=>?_) fun h=>?_;refine si (oi (sx 5 (ni (xi (ri (br (tr ?_)))))));injection h with h; subst h;exact rp;refine si (oi (sx 2 (ni (xi ?_))));refine cd h (fun h=>?_) fun h=>?_;refine si (oi (sx 2 (cs h (bCj _) fun y6 h=>(sx 1 (ni (xi (ri (br (tr ?_)))))))));injection h with h; subst h;exact rp;refine ki (bn (xi (si (oi (sx 1 (ni (xi (ri ?_))))))));injection h with h; subst h;exact rp
theorem bTj (p0:aA):FOk Tryz.prog 82 [(fE p0)] (fun y=>(vS y)) (yN p0):=by
 intro r h
 rw [yN] at h;refine ao bDj (si (oi (sx 2 (ni (xi (si (si (oi (sx 1 (cs h (L6 _) fun y1 h=>(sx 1 (ni (xi ?_)))))))))))));refine cd h (fun h=>?_) fun h=>?_;refine si (oi (sx 1 (ni (xi (ri (tr ?_))))));injection h with h; subst h;exact rp;refine ki (xi (si (si (oi (sx 2 (ni (xi (bi (si (oi (sx 2 (ni (xi ?_)))))))))))));refine cd h (fun h=>?_) fun h=>?_;refine si (oi (sx 2 (cs h (bEd _) fun y2 h=>(sx 1 (ni (xi (ri (br (tr ?_)))))))));injection h with h; subst h;exact rp;refine si (oi (sx 2 (ni (xi ?_))));refine cd h (fun h=>?_) fun h=>?_;refine si (oi (sx 2 (cs h (bGu _) fun y3 h=>(sx 1 (ni (xi (ri (br (tr ?_)))))))));injection h with h; subst h;exact rp;refine ki (bn (xi (si (oi (sx 3 (ni (xi (ri ?_))))))));injection h with h; subst h;exact rp
theorem aYe (p0:aA):FOk Tryz.prog 86 [(fE p0)] (fun y=>(vB y)) (iV p0):=by
 intro r h
 rw [iV] at h;refine ao bUx (si (oi (sx 2 (ni (xi (si (oi (sx 4 (gq 0 (gq 1 (gc 1 h (aMd _) fun y1 h=>(gq 1 (pkA h fun y2 h=>(sx 1 (ni (xi (ri ?_)))))))))))))))));injection h with h; subst h;exact rp
theorem aX2 (p0:aA):FOk Tryz.prog 85 [(fE p0)] (fun y=>(vB y)) (iU p0):=by
 intro r h
 rw [iU] at h;refine ao bP8 (si (oi (sx 2 (ni (xi (si (oi (sx 4 (gq 0 (gq 1 (gq 1 (pkO h fun y1 h=>(sx 1 (gq 0 (gq 1 (gq 1 (gq 1 (gq 0 (gq 1 (gc 1 h (aMd _) fun y2 h=>?_))))))))))))))))))));refine gv true y1 (fun (y:Bool)=>(vB y)) h (fun y hy hc=>lU hy (p:=((true&&(y1==false))&&((decide (p0.kind=2))==true))) (q:=true) (Eq.trans (b:=([(true&&(y1==false))]:List Bool).all id) kr (bR hc rfl)) kr kr kr (fun hb=>rP hc hb) (fun _=>rfl)) fun y3 h=>(pkO h fun y4 h=>(sx 1 (ni (xi (ri ?_)))));injection h with h; subst h;exact rp
theorem bRu (p0:aA) (p1:aA):FOk Tryz.prog 47 [(fE p0),(fE p1)] (fun y=>(vB y)) (rZ p0 p1):=by
 intro r h
 rw [rZ] at h;refine ao bA3 (si (oi (sx 3 (ni (xi (si (si (oi (sx 1 (cs h (L6 _) fun y1 h=>(sx 2 (gq 0 (gc 1 h (L6 _) fun y2 h=>(gq 1 (pkO h fun y3 h=>(ni (xi ?_)))))))))))))))));refine cd h (fun h=>?_) fun h=>?_;refine si (oi (sx 1 (ni (xi (ri (tr ?_))))));injection h with h; subst h;exact rp;refine ki (xi (si (si (oi (sx 1 (cs h (aX2 _) fun y4 h=>(sx 1 (gq 0 (gc 1 h (aX2 _) fun y5 h=>(pkA h fun y6 h=>(sx 1 (gq 0 (gc 1 h (aYe _) fun y7 h=>(gq 1 (gq 0 (gc 1 h (aYe _) fun y8 h=>?_))))))))))))))));refine gv true y6 (fun (y:Bool)=>(vB y)) h (fun y hy hc=>lU hy (p:=((true&&(y6==false))&&(y7==true))) (q:=true) (Eq.trans (b:=([(true&&(y6==false))]:List Bool).all id) kr (bR hc rfl)) kr kr kr (fun hb=>rP hc hb) (fun _=>rfl)) fun y9 h=>(pkO h fun y10 h=>(sx 1 (gq 0 (gq 1 (gq 1 (gq 1 (gq 0 (gq 1 (gq 1 ?_)))))))));refine gv true y10 (fun (y:Bool)=>(vB y)) h (fun y hy hc=>lU hy (p:=((true&&(y10==false))&&((decide (p0.kind=4))==true))) (q:=true) (Eq.trans (b:=([(true&&(y10==false))]:List Bool).all id) kr (bR hc rfl)) kr kr kr (fun hb=>rP hc hb) (fun _=>rfl)) fun y11 h=>(pkO h fun y12 h=>(ni (xi ?_)));refine cd h (fun h=>?_) fun h=>?_;refine si (oi (sx 1 (ni (xi (ri (tr ?_))))));injection h with h; subst h;exact rp;refine ki (xi (si (si (oi (sx 4 (gq 0 (gq 1 (gq 1 (pkO h fun y13 h=>(ni (xi ?_)))))))))));refine cd h (fun h=>?_) fun h=>?_;refine si (oi (sx 1 (ni (xi (ri (tr ?_))))));injection h with h; subst h;exact rp;refine ki (xi (si (si (oi (sx 2 (ni (xi (bi (si (oi (sx 2 (ni (xi ?_)))))))))))));refine cd h (fun h=>?_) fun h=>?_;refine si (oi (sx 4 (ni (xi (ri (br (tr ?_)))))));injection h with h; subst h;exact rp;refine si (oi (sx 2 (ni (xi ?_))));refine cd h (fun h=>?_) fun h=>?_;refine si (oi (sx 4 (ni (xi (ri (br (tr ?_)))))));injection h with h; subst h;exact rp;refine si (oi (sx 2 (ni (xi ?_))));refine cd h (fun h=>?_) fun h=>?_;refine si (oi (sx 2 (vs (fun (y:Int)=>(.d (.i .u8 y))) h (fun y hy=>eZ (b:=p1.text) (k:=.i64) hy kr kr kr) fun y14 h=>(sx 2 (gq 0 (gq 1 ?_))))));refine gv true (decide (y14=61)) (fun (y:Int)=>(.d (.i .u8 y))) h (fun y hy hc=>eZ (b:=p1.text) (k:=.i64) hy (Eq.trans (b:=([(true&&((decide (y14=61))==false))]:List Bool).all id) kr (bR hc rfl)) kr kr) fun y15 h=>(gq 1 (pkO h fun y16 h=>(sx 1 (ni (xi (ri (br (tr ?_))))))));injection h with h; subst h;exact rp;refine si (oi (sx 2 (ni (xi ?_))));refine cd h (fun h=>?_) fun h=>?_;refine si (oi (sx 2 (vs (fun (y:Int)=>(.d (.i .u8 y))) h (fun y hy=>eZ (b:=p1.text) (k:=.i64) hy kr kr kr) fun y17 h=>(sx 2 (ni (xi (ri (br (tr ?_)))))))));injection h with h; subst h;exact rp;refine ki (bn (xi (si (oi (sx 1 (ni (xi (ri ?_))))))));injection h with h; subst h;exact rp
theorem aSg (p0):(∀ x11 y1 mQ r,C8 p0 x11 y1 mQ=some r→aDv p0 x11 y1 mQ r)∧(∀ x11 jD r,vV p0 x11 jD=some r→aCn p0 x11 jD r):=by
 refine C8.mutual_partial_correctness p0 (fun x11 y1 mQ r=>aDv p0 x11 y1 mQ r) (fun x11 jD r=>aCn p0 x11 jD r) ?_ ?_
 · intro cB6 aL9 x11 y1 mQ r h;delta aDv aK4;refine oi (sx 1 (cs h (bTj _) fun y10 h=>(cg ⟨[(1000000,5)],[(6000001,5062501)],[],[],[],[(6000001,5062501)],[],[5062501],[]⟩ h (aYu _ _) fun y11 h=>(ni (bn (xi (oi (sx 2 (ni ?_)))))))));exact lbs (aL9 _ _ _ h) (wr [(5062501,.old 5062501)] eS (bQ (c0:=[(.bp 5 108),(.osl 5062501 5 1 (y11.2.map cU8))]) kr (aP (bF kr kr) (aP (dC (t:=5062501) kr kr) bP)) aU))
 · intro bYo aO8 x11 jD r h;delta aCn aCu;refine dX (si (oi (sx 1 (ni (xi (si ?_))))));refine cd h (fun h=>?_) fun h=>?_;refine ki (xi (si (bi (si (oi (sx 1 (iq h fun y1 h=>(sx 4 (ni (xi (si (si (oi (sx 1 (cs h (L6 _) fun y2 h=>(sx 1 (ni (xi ?_))))))))))))))))));refine cd h (fun h=>?_) fun h=>?_;refine si (oi (sx 1 (ni (xi (ri (tr (br (tr (tr (br (tr ?_)))))))))));injection h with h; subst h;exact rp;refine ki (xi (si (si (gD (dsx 3 (dgq 0 (dgq 0 (dgq 0 (dgq 1 ?_)))))))));refine qW (p:=true) (b:=(decide (0<x11))) (m:=idx p0 (IntKind.wrap .i64 (x11 - 1))) (dflt:=default) (v':=fun y=>(.rp (aJ y))) h kr rfl rfl (fun y hy hc=>nD (l:=p0) (f:=aJ) (g:=aJ) (k:=.i64) hy (fun _=>rfl) (Eq.trans (b:=([(true&&((decide (0<x11))==true)),(true&&((decide (0<x11))==true))]:List Bool).all id) kr (bR hc (bR hc rfl))) kr kr) fun y3 h=>?_;refine dgq 1 (dgq 0 ?_);refine bLq (p:=true) (b:=(decide (0<x11))) (m:=rZ y3 y1) (dflt:=default) (args:=[(fE y3),(fE y1)]) (v':=(fun y=>(vB y))) h kr kr kr (bRu _ _) (fun hc=>by kernel_rfl) kr (fun _=>rfl) (fun hc=>(Eq.trans (b:=([(true&&((decide (0<x11))==true)),(true&&((decide (0<x11))==true)),(true&&((decide (0<x11))==true))]:List Bool).all id) kr (bR hc (bR hc (bR hc rfl))))) fun y4 h=>?_;refine xV h fun y5 h=>(gG kr kr (xi ?_));refine cd h (fun h=>?_) fun h=>?_;refine oi (cg ⟨[(1000000,5)],[(6000001,5062501)],[],[],[],[(6000001,5062501)],[],[5062501],[]⟩ h (aYu _ _) fun y6 h=>(ni ?_));exact nxs (aO8 _ _ _ _ h) (wr [(5062501,.old 5062501)] eS (bQ (c0:=[(.bp 5 108),(.osl 5062501 5 1 (y6.2.map cU8))]) kr (aP (bF kr kr) (aP (dC (t:=5062501) kr kr) bP)) bS));refine ki ?_;exact nxs (aO8 _ _ _ _ h) (wr [(5062501,.old 5062501)] eS (bQ (c0:=[(.bp 5 108),(.osl 5062501 5 1 (jD.map cU8))]) kr (aP (bF kr kr) (aP (dC (t:=5062501) kr kr) bP)) bS));refine ei (te (te (bh (xi (si (si (oi (cg ⟨[(1000000,5)],[(6000001,5062501)],[],[],[],[(6000001,5062501)],[],[5062501],[]⟩ h (bXg _) fun y8 h=>(sx 1 (ni (xi ?_)))))))))));refine cd h (fun h=>?_) fun h=>?_;refine si (oi (sx 1 (ni (xi (ri (tr ?_))))));injection h with h; subst h;exact rp;refine ki (xi (si (oi (cg ⟨[(1000000,5)],[(6000001,5062501)],[],[],[],[],[],[5062501],[]⟩ h (bKl _) fun y9 h=>(sx 1 (ni (xi (ri ?_))))))));injection h with h; subst h;exact rp
theorem aO8 (p0 x11 y1 mQ r) (h:C8 p0 x11 y1 mQ=some r):aDv p0 x11 y1 mQ r:=(aSg p0).1 x11 y1 mQ r h
theorem aL9 (p0 x11 jD r) (h:vV p0 x11 jD=some r):aCn p0 x11 jD r:=(aSg p0).2 x11 jD r h
theorem bR2 (p0:List aA):FOk Tryz.prog 46 [(eD p0),(.fn 47 [])] (fun y=>(vS y)) (aCz p0):=by
 intro r h
 rw [aCz] at h;refine ao bHv (si (oi (sx 1 (ni (xi (si (oi (nC (c:=[.np,(.nil 1)]) kr kr rfl (sx 2 (ni (xi (si (si (oi (sx 1 (lq p0 (sx 1 (ni (xi (bi ?_))))))))))))))))))));exact lgs (aL9 _ _ _ _ h) (wr [(5062501,.new 5 1)] eS (bQ (c0:=[(.bp 5 108),(.nil 1)]) kr (aP (bF kr kr) (aP (zK kr kr) bP)) aU))
theorem bD3 (p0:List aA):FOk Tryz.prog 16 [(eD p0)] (fun y=>(vS y)) (Z8 p0):=by
 intro r h
 rw [Z8] at h;refine ao bHw (si (oi (sx 1 (ni (xi (si (oi (sx 1 (cs h (bR2 _) fun y1 h=>(sx 1 (ni (xi (ri ?_)))))))))))));injection h with h; subst h;exact rp
theorem bCh (p0:aR):FOk Tryz.prog 6 [(iY p0)] (fun y=>(vS y)) (yX p0):=by
 intro r h
 rw [yX] at h;refine ao bFo (si (oi (sx 2 (ni (xi (si (si (oi (sx 1 (cs h (aPn _) fun y1 h=>(sx 1 (ni (xi ?_)))))))))))));refine cd h (fun h=>?_) fun h=>?_;refine si (oi (sx 1 (ni (xi (ri (tr ?_))))));injection h with h; subst h;exact rp;refine ki (xi (si (oi (sx 1 (cs h (aU1 _) fun y2 h=>(cs h (bD3 _) fun y3 h=>(sx 1 (ni (xi (ri ?_))))))))));injection h with h; subst h;exact rp
theorem aVd (p0) (y1):(∀ x8 lH r,uQ p0 y1 x8 lH=some r→aDw p0 y1 x8 lH r)∧(∀ x8 x9 r,nN p0 y1 x8 x9=some r→aCm p0 y1 x8 x9 r):=by
 refine uQ.mutual_partial_correctness p0 y1 (fun x8 lH r=>aDw p0 y1 x8 lH r) (fun x8 x9 r=>aCm p0 y1 x8 x9 r) ?_ ?_
 · intro cAg aL3 x8 lH r h;delta aDw aJh;refine oi (sx 3 (vs (fun (y:Int)=>(.d (.i .u8 y))) h (fun y hy=>eZ (b:=p0) (k:=.i64) hy kr kr kr) fun y7 h=>(eG (l:=([y7]:List Int)) (f:=cU8) (g:=cU8) kr (fun _=>rfl) kr (aq 8 cU8 h fun y8 h=>(sx 1 (ni (bn (xi (oi (sx 3 (ni ?_)))))))))));exact lbs (aL3 _ _ _ h) (wr [(8,.old 8)] (es (es (eo 8 eS))) aU)
 · intro bYb aOg x8 x9 r h;delta aCm aDa;refine dX (si (si (oi (sx 4 (ni (xi ?_))))));refine cd h (fun h=>?_) fun h=>?_;refine ki (xi (si (bi (si (si (oi (sx 2 (vs (fun (y:Int)=>(.d (.i .u8 y))) h (fun y hy=>eZ (b:=p0) (k:=.i64) hy kr kr kr) fun y2 h=>(sx 2 (ni (xi ?_)))))))))));refine cd h (fun h=>?_) fun h=>?_;refine si (si (oi (sx 6 (gq 0 (gq 0 (gq 1 ?_))))));refine gv true (decide ((IntKind.wrap .i64 (x9+1))=(ln p0))) (fun (y:Int)=>(.d (.i .u8 y))) h (fun y hy hc=>eZ (b:=p0) (k:=.i64) hy (Eq.trans (b:=([(true&&((decide ((IntKind.wrap .i64 (x9+1))=(ln p0)))==false)),(true&&((decide ((IntKind.wrap .i64 (x9+1))=(ln p0)))==false))]:List Bool).all id) kr (bR hc (bR hc rfl))) kr kr) fun y3 h=>?_;refine gq 0 (gq 2 (pkO h fun y4 h=>(ni (xi ?_))));refine cd h (fun h=>?_) fun h=>?_;refine si (oi (sx 1 (vs (fun (y:List UInt8)=>(vS y)) h (fun y hy=>wU (l:=x8) hy kr kr) fun y5 h=>(sx 5 (ni (xi (ri (tr (tr (br (tr (tr (br (tr ?_))))))))))))));injection h with h; subst h;exact rnp;exact ki (xi (oi (sx 3 (ni (nxs (aOg _ _ _ h) (wr [(8,.old 8)] (es (es (eo 8 eS))) aU))))));exact ki (nxs (aOg _ _ _ h) (wr [(8,.old 8)] (es (es (eo 8 eS))) aU));refine ei (te (te (bh (xi (si (oi (sx 3 (ni (xi (ri ?_))))))))));injection h with h; subst h;exact rnp
theorem aOg (p0 y1 x8 lH r) (h:uQ p0 y1 x8 lH=some r):aDw p0 y1 x8 lH r:=(aVd p0 y1).1 x8 lH r h
theorem aL3 (p0 y1 x8 x9 r) (h:nN p0 y1 x8 x9=some r):aCm p0 y1 x8 x9 r:=(aVd p0 y1).2 x8 x9 r h
theorem bBc (p0:List UInt8) (p1:Int):FOk Tryz.prog 95 [(vS p0),(vI p1)] (fun y=>(.tup [(vS y.1),(vI y.2.1),(vB y.2.2)])) (D9 p0 p1):=by
 intro r h
 rw [D9] at h;refine ao bQt (si (oi (sx 3 (ni (xi (si (oi (sx 2 (vs (fun (y:Int)=>(.d (.i .u8 y))) h (fun y hy=>eZ (b:=p0) (k:=.i64) hy kr kr kr) fun y1 h=>(sx 1 (ni (xi (si (oi (eG (l:=([]:List Int)) (f:=cU8) (g:=cU8) kr (fun _=>rfl) kr (sx 1 (ni (xi (si (si (oi (sx 3 (ni (xi (bi ?_)))))))))))))))))))))))));exact lgs (aL3 _ _ _ _ _ h) (wr [(8,.old 8)] (es (es (eo 8 eS))) aU)
theorem Q4 (p1 xJ dZ uT r) (h:iW p1 xJ dZ uT=some r):aVq p1 xJ dZ uT r:=by
 rw [iW] at h;delta aVq aD8;refine si (gD (dsx 3 (dcs h (L6 _) fun y15 h=>(dsx 3 (gG kr kr (xi (ri ?_)))))));injection h with h; subst h;exact rnp
theorem bD2 (p0) (p1) (y1):(∀ x8 r,pU p0 p1 y1 x8=some r→aEr p0 p1 y1 x8 r):=by
 refine pU.partial_correctness p0 p1 y1 (fun x8 r=>aEr p0 p1 y1 x8 r) ?_
 · intro cA1 aN1 x8 r h;delta aEr aNe;refine dX (si (si (oi (sx 5 (gq 0 (gq 0 ?_))))));refine gv true (decide (x8<(ln p0))) (fun (y:Int)=>(.d (.i .u8 y))) h (fun y hy hc=>eZ (b:=p0) (k:=.i64) hy (Eq.trans (b:=([(true&&((decide (x8<(ln p0)))==true)),(true&&((decide (x8<(ln p0)))==true))]:List Bool).all id) kr (bR hc (bR hc rfl))) kr kr) fun y8 h=>(gc 1 h (aK5 _) fun y9 h=>?_);refine pkA h fun y10 h=>(ni (xi ?_));refine cd h (fun h=>?_) fun h=>?_;exact ki (xi (bi (oi (sx 3 (ni (bn (lbs (aN1 _ _ h) (wr [] eS bS))))))));refine ei (te (te (bh (xi (si (gD ?_))))));let a0:St:=(aWn p0 p1 y1 x8).p [(66,(vI x8)),(65,(vI p1)),(64,(vS p0)),(61,(vB y10)),(60,(.ite (true&&((decide (x8<(ln p0)))==true)) (vB y9))),(59,(.ite (true&&((decide (x8<(ln p0)))==true)) (.d (.i .u8 y8)))),(58,(.ite (true&&((decide (x8<(ln p0)))==true)) (vI x8))),(57,(.ite (true&&((decide (x8<(ln p0)))==true)) (vS p0))),(56,(vB (decide (x8<(ln p0))))),(55,(vB (decide (x8<(ln p0))))),(54,(vI (ln p0))),(53,(vS p0)),(52,(vI x8))];refine aMg 3 (s':=a0) kr (nE (m:=eF p0 p1 x8) (v':=fun y=>(vS y)) h rfl rfl (fun y hy=>mV (b:=p0) (lo:=p1) (hi:=x8) hy kr kr ⟨kr,.i64,kr⟩ ⟨kr,.i64,kr⟩) fun y11 h=>(dsx 4 (gG kr kr (xi (si (oi (sx 1 (cs h (aLm _) fun y12 h=>(ni (xi ?_))))))))));refine cd h (fun h=>?_) fun h=>?_;exact oi (sx 2 (ni (bn (nxs (Q4 _ _ _ _ _ h) (wr [] eS bS)))));refine si (oi (sx 2 (cs h (aM6 _) fun y13 h=>(sx 1 (ni (xi ?_))))));refine cd h (fun h=>?_) fun h=>?_;exact oi (sx 2 (cs h (aIz _) fun y14 h=>(sx 4 (ni (bn (nxs (Q4 _ _ _ _ _ h) (wr [] eS bS)))))));exact ki (bn (nxs (Q4 _ _ _ _ _ h) (wr [] eS bS)))
theorem aN1 (p0 p1 y1 x8 r) (h:pU p0 p1 y1 x8=some r):aEr p0 p1 y1 x8 r:=(bD2 p0 p1 y1) x8 r h
theorem bBk (p0:List UInt8) (p1:List UInt8):FOk Tryz.prog 119 [(vS p0),(vS p1)] (fun y=>(vB y)) (aGc p0 p1):=by
 intro r h
 rw [aGc] at h;refine ao bE5 (si (oi (sx 1 (ni (xi (si (oi (sx 6 (gq 0 (gq 0 (gq 1 ?_)))))))))));refine gv true (decide ((ln p1)≤(ln p0))) (fun (y:List UInt8)=>(vS y)) h (fun y hy hc=>mV (b:=p0) (lo:=0) (hi:=(ln p1)) hy (Eq.trans (b:=([(true&&((decide ((ln p1)≤(ln p0)))==true))]:List Bool).all id) kr (bR hc rfl)) kr ⟨(Eq.trans (b:=([(true&&((decide ((ln p1)≤(ln p0)))==true))]:List Bool).all id) kr (bR hc rfl)),.i64,kr⟩ rfl) fun y1 h=>?_;refine gq 0 (gq 2 (pkA h fun y2 h=>(sx 1 (ni (xi (ri ?_))))));injection h with h; subst h;exact rp
theorem aHz (p0:List UInt8) (p1:List UInt8):FOk Tryz.prog 89 [(vS p0),(vS p1)] (fun y=>(vB y)) (qL p0 p1):=by
 intro r h
 rw [qL] at h;refine ao bUs (si (oi (sx 1 (ni (xi (si (oi (sx 2 (cs h (bBk _ _) fun y1 h=>(sx 1 (ni (xi (ri ?_)))))))))))));injection h with h; subst h;exact rp
theorem aWc (p0) (p1) (y6):(∀ x24 lY r,F7 p0 p1 y6 x24 lY=some r→aE7 p0 p1 y6 x24 lY r)∧(∀ x24 jL r,sQ p0 p1 y6 x24 jL=some r→aDd p0 p1 y6 x24 jL r):=by
 refine F7.mutual_partial_correctness p0 p1 y6 (fun x24 lY r=>aE7 p0 p1 y6 x24 lY r) (fun x24 jL r=>aDd p0 p1 y6 x24 jL r) ?_ ?_
 · intro bXs aNk x24 lY r h;delta aE7 aJv;refine oi (sx 2 (ni ?_));exact lbs (aNk _ _ _ h) (wr [(22,.old 22)] (es (es (es (es (es (eo 22 eS)))))) bS)
 · intro cBc aL5 x24 jL r h;delta aDd aFa;refine dX (si (oi (sx 1 (ni (xi (si ?_))))));refine cd h (fun h=>?_) fun h=>?_;refine ki (xi (si (bi (si (oi (iq h fun y16 h=>(sx 2 (ni (xi (si (oi (sx 2 (vs (fun (y:List UInt8)=>(vS y)) h (fun y hy=>mV (b:=p0) (lo:=p1) (hi:=(ln p0)) hy kr kr rfl ⟨kr,.i64,kr⟩) fun y17 h=>(sx 1 (cs h (aHz _ _) fun y18 h=>(sx 1 (gq 0 (gq 1 (gq 0 (gq 1 (gq 1 (gq 2 (pkA h fun y19 h=>(ni (xi ?_)))))))))))))))))))))))));refine cd h (fun h=>?_) fun h=>?_;refine oi (sx 3 (ni (bn ?_)));exact nxs (aL5 _ _ _ h) (wr [(22,.old 22)] (es (es (es (es (es (eo 22 eS)))))) bS);refine ki (bn ?_);exact nxs (aL5 _ _ _ h) (wr [(22,.old 22)] (es (es (es (es (es (eo 22 eS)))))) bS);exact ei (te (te (bh (xi (oi (sx 6 (ni (bn (nxs (Q4 _ _ _ _ _ h) (wr [] eS bS))))))))))
theorem aL5 (p0 p1 y6 x24 lY r) (h:F7 p0 p1 y6 x24 lY=some r):aE7 p0 p1 y6 x24 lY r:=(aWc p0 p1 y6).1 x24 lY r h
theorem aNk (p0 p1 y6 x24 jL r) (h:sQ p0 p1 y6 x24 jL=some r):aDd p0 p1 y6 x24 jL r:=(aWc p0 p1 y6).2 x24 jL r h
theorem bOa (p0:List UInt8) (p1:Int):FOk Tryz.prog 53 [(vS p0),(vI p1)] (fun y=>(.tup [(fE y.1),(vI y.2.1),(vB y.2.2)])) (oO p0 p1):=by
 intro r h
 rw [oO] at h;refine ao bSm (si (oi (sx 3 (ni (xi (si (oi (sx 4 (ni (xi (si (oi (sx 2 (ni (xi (si (si (oi (sx 2 (vs (fun (y:Int)=>(.d (.i .u8 y))) h (fun y hy=>eZ (b:=p0) (k:=.i64) hy kr kr kr) fun y1 h=>(sx 1 (ni (xi (bi (si (oi (sx 1 (cs h (aK5 _) fun y2 h=>(sx 1 (ni (xi ?_)))))))))))))))))))))))))))))));refine cd h (fun h=>?_) fun h=>?_;exact si (bi (lgs (aN1 _ _ _ _ _ h) (wr [] eS bS)));refine si (oi (sx 3 (gq 0 (gq 1 (pkO h fun y3 h=>(sx 1 (ni (xi ?_))))))));refine cd h (fun h=>?_) fun h=>?_;refine si (oi (sx 2 (cs h (bBc _ _) fun y4 h=>(sx 7 (ni (xi (si (si (oi (sx 2 (ni (xi ?_))))))))))));refine cd h (fun h=>?_) fun h=>?_;refine si (oi (sx 4 (ni (xi (ri (tr (br (tr ?_))))))));injection h with h; subst h;exact rnp;refine ki (xi (si (oi (sx 2 (ni (xi (si (oi (sx 5 (ni (xi (si (oi (sx 2 (ni (xi ?_))))))))))))))));refine cd h (fun h=>?_) fun h=>?_;exact oi (sx 2 (ni (bn (nxs (Q4 _ _ _ _ _ h) (wr [] eS bS)))));exact ki (bn (nxs (Q4 _ _ _ _ _ h) (wr [] eS bS)));refine si (oi (sx 2 (ni (xi (si (si (oi (cg ⟨[],[],[],[],[],[(2000000,22)],[],[22],[]⟩ h aX6 fun y6 h=>(lq y6 (sx 1 (ni (xi (bi ?_)))))))))))));exact lgs (aNk _ _ _ _ _ _ h) (wr [(22,.old 22)] (es (es (es (es (es (eo 22 eS)))))) bS)
theorem bQl (p0:List UInt8) (p1:List UInt8):FOk Tryz.prog 90 [(vS p0),(vS p1)] (fun y=>(vI y)) (U5 p0 p1):=by
 intro r h
 rw [U5] at h;exact bHk (ρ:=sh143_ren) sh143 kr kr (.tail _ (.head _)) p0 p1 r h
theorem aR3 (p0:List UInt8) (p1:Int):FOk Tryz.prog 88 [(vS p0),(.d (.i .u8 p1))] (fun y=>(vI y)) (uV p0 p1):=by
 intro r h
 rw [uV] at h;injection h with h
 subst h
 exact bPz (ρ:=sh137_ren) sh137 kr p0 p1
theorem bT4 (p0):(∀ x1 r,gQ p0 x1=some r→aG0 p0 x1 r):=by
 refine gQ.partial_correctness p0 (fun x1 r=>aG0 p0 x1 r) ?_
 · intro bY0 U2 x1 r h;delta aG0 aGz;refine dX (si (si (oi (sx 4 (ni (xi ?_))))));refine cd h (fun h=>?_) fun h=>?_;refine ki (xi (bi (si (oi (sx 2 (vs (fun (y:List UInt8)=>(vS y)) h (fun y hy=>mV (b:=p0) (lo:=x1) (hi:=(ln p0)) hy kr kr rfl ⟨kr,.i64,kr⟩) fun y1 h=>(sx 1 (ni (xi (bi (si (oi (sx 2 ?_)))))))))))));refine vs (fun (y:Int)=>(.d (.i .u8 y))) h (fun y hy=>eZ (b:=p0) (k:=.i64) hy kr kr kr) fun y2 h=>(cs h (aR3 _ _) fun y3 h=>(sx 2 (ni (xi ?_))));refine cd h (fun h=>?_) fun h=>?_;exact oi (sx 3 (ni (bn (bn (lbs (U2 _ _ h) (wr [] eS aU))))));refine si (oi (sx 1 (cs h (aHz _ _) fun y4 h=>(sx 1 (ni (xi ?_))))));refine cd h (fun h=>?_) fun h=>?_;refine si (oi (sx 1 (cs h (aR3 _ _) fun y5 h=>(sx 1 (ni (xi (si (si (oi (sx 2 (ni (xi ?_))))))))))));refine cd h (fun h=>?_) fun h=>?_;refine si (oi (sx 4 (ni (xi (ri (tr (br (br (tr (br (tr ?_)))))))))));injection h with h; subst h;exact rnp;exact ki (xi (oi (sx 5 (ni (bn (bn (lbs (U2 _ _ h) (wr [] eS aU))))))));refine si (oi (sx 1 (cs h (aHz _ _) fun y6 h=>(sx 1 (ni (xi ?_))))));refine cd h (fun h=>?_) fun h=>?_;refine si (oi (sx 1 (vs (fun (y:List UInt8)=>(vS y)) h (fun y hy=>mV (b:=y1) (lo:=2) (hi:=(ln y1)) hy kr kr rfl ⟨kr,.i64,kr⟩) fun y7 h=>(cs h (bQl _ _) fun y8 h=>(sx 1 (ni (xi (si (si (oi (sx 2 (ni (xi ?_)))))))))))));refine cd h (fun h=>?_) fun h=>?_;refine si (oi (sx 3 (ni (xi (ri (tr (br (br (tr (br (tr ?_)))))))))));injection h with h; subst h;exact rnp;exact ki (xi (oi (sx 5 (ni (bn (bn (lbs (U2 _ _ h) (wr [] eS aU))))))));refine si (oi (sx 3 (ni (xi (ri (br (br (tr (br (tr ?_))))))))));injection h with h; subst h;exact rnp;refine ei (te (te (bh (xi (si (oi (sx 3 (ni (xi (ri ?_))))))))));injection h with h; subst h;exact rnp
theorem U2 (p0 x1 r) (h:gQ p0 x1=some r):aG0 p0 x1 r:=(bT4 p0) x1 r h
theorem bCi (p0:List UInt8) (p1:Int):FOk Tryz.prog 52 [(vS p0),(vI p1)] (fun y=>(.tup [(vI y.1),(vB y.2)])) (tY p0 p1):=by
 intro r h
 rw [tY] at h;exact ao bH9 (si (oi (sx 2 (ni (xi (si (bi (lgs (U2 _ _ _ h) (wr [] eS aU)))))))))
theorem bTe (p0):(∀ x4 x5 r,oC p0 x4 x5=some r→aEz p0 x4 x5 r):=by
 refine oC.partial_correctness p0 (fun x4 x5 r=>aEz p0 x4 x5 r) ?_
 · intro bXm aJ5 x4 x5 r h;delta aEz aL0;refine dX (bi (si (oi (sx 2 (cs h (bCi _ _) fun y1 h=>(sx 5 (ni (xi (si (si (oi (sx 2 (ni (xi ?_))))))))))))));refine cd h (fun h=>?_) fun h=>?_;refine si (oi (sx 3 (ni (xi (fC (s':=⟨[(2,(.osl 2000000 85 3 (([]:List aA).map aJ))),(3,(vI y1.1))],[]⟩) (wr [(2000000,.new 85 3)] (en eS) aU) (tr (br (tr (br ?_)))))))));injection h with h; subst h;exact rnb;refine ki (xi (si (si (oi (sx 4 (ni (xi ?_)))))));refine cd h (fun h=>?_) fun h=>?_;refine si (oi (sx 3 (ni (xi (fC (s':=⟨[(2,(.osl 2000000 85 3 (x4.map aJ))),(3,(vI (-1)))],[]⟩) (wr [(2000000,.old 2)] (eo 2 eS) aU) (tr (br (tr (br ?_)))))))));injection h with h; subst h;exact rnb;refine ki (xi (si (oi (sx 2 (cs h (bOa _ _) fun y2 h=>(sx 8 (ni (xi (si (si (oi (sx 2 (ni (xi ?_))))))))))))));refine cd h (fun h=>?_) fun h=>?_;refine si (oi (sx 3 (ni (xi (fC (s':=⟨[(2,(.osl 2000000 85 3 (([]:List aA).map aJ))),(3,(vI y1.1))],[]⟩) (wr [(2000000,.new 85 3)] (en eS) aU) (tr (br (tr (br ?_)))))))));injection h with h; subst h;exact rnb;exact ki (xi (si (oi (sx 2 (eG (l:=([y2.1]:List aA)) (f:=aJ) (g:=aJ) kr (fun _=>rfl) kr (aq 4 aJ h fun y3 h=>(sx 1 (ni (xi (oi (sx 2 (ni (bn (lbs (aJ5 _ _ _ h) (wr [(4,.old 4)] (es (eo 4 eS)) aU)))))))))))))))
theorem aJ5 (p0 x4 x5 r) (h:oC p0 x4 x5=some r):aEz p0 x4 x5 r:=(bTe p0) x4 x5 r h
theorem bD0 (p0:List UInt8):dU Tryz.prog 18 [(vS p0)] [] (fun (y:(List aA)×Int)=>(.tup [(.osl 2000000 85 3 (y.1.map aJ)),(vI y.2)])) (fun (y:(List aA)×Int)=>[]) (vK p0):=by
 intro r h
 rw [vK] at h;refine ao bO8 (si (oi (sx 2 (ni (xi (si (si (oi (sx 3 (ni (xi ?_)))))))))));refine cd h (fun h=>?_) fun h=>?_;refine si (oi (sx 2 (ni (xi (fC (s':=⟨[(2,(.osl 2000000 85 3 (([]:List aA).map aJ))),(3,(vI 2000))],[]⟩) (wr [(2000000,.new 85 3)] (en eS) aU) (tr ?_))))));injection h with h; subst h;exact rnb;exact ki (xi (si (oi (eG (l:=([]:List aA)) (f:=aJ) (g:=aJ) kr (fun _=>rfl) kr (sx 1 (ni (xi (si (oi (sx 1 (ni (xi (bi (lgs (aJ5 _ _ _ _ h) (wr [(4,.old 4)] (es (eo 4 eS)) aU)))))))))))))))
theorem bE6 (p0:bZ) (p1:Int) (p2:Int) (p3:List UInt8):dU Tryz.prog 97 [(.ptr 1000000 0),(vI p1),(vI p2),(vS p3)] [(1000000,[(.osl 6000000 85 3 (p0.list.map aJ)),(vI p0.at_),(vB p0.failed)])] (fun (y:Bool)=>(vB y)) (fun (y:Bool)=>[(1000000,[(.osl 6000000 85 3 (p0.list.map aJ)),(vI p0.at_),(vB p0.failed)])]) (U4 p0 p1 p2 p3):=by
 intro r h
 rw [U4] at h;refine ao bOj (si (oi (sx 1 (ni (xi (si (oi (sx 7 (ni (xi (si (oi (sx 6 (gq 0 (gq 0 (gq 1 (gq 1 (gq 1 (glq 1 p0.list (gq 2 (pkA h fun y1 h=>(sx 1 (gq 0 (gq 1 (gq 1 (gq 1 (gq 0 (giq 2 h fun y2 h=>(gq 1 (gq 1 (gq 0 (gq 2 (pkA h fun y3 h=>(sx 1 (gq 0 (gq 1 (gq 1 (gq 1 (gq 0 (giq 2 h fun y4 h=>(gq 1 (gq 1 (gq 0 (gq 2 (pkA h fun y5 h=>(sx 1 (ni (xi ?_))))))))))))))))))))))))))))))))))))))))))))))));refine fC (s':=⟨[(8,(vB y5))],[(1000000,[(.osl 6000000 85 3 (p0.list.map aJ)),(vI p0.at_),(vB p0.failed)])]⟩) (wr [(6000000,.old 6000000)] eS (bQ (c0:=[(.osl 6000000 85 3 (p0.list.map aJ)),(vI p0.at_),(vB p0.failed)]) kr (aP (dC (t:=6000000) kr kr) (aP (bF kr kr) (aP (bF kr kr) bP))) aU)) ?_;injection h with h; subst h;exact rb
theorem bK7 (p0:bZ) (p1:List UInt8):dU Tryz.prog 55 [(.ptr 1000000 0),(vS p1)] [(1000000,[(.osl 6000000 85 3 (p0.list.map aJ)),(vI p0.at_),(vB p0.failed)])] (fun (y:Bool)=>(vB y)) (fun (y:Bool)=>[(1000000,[(.osl 6000000 85 3 (p0.list.map aJ)),(vI p0.at_),(vB p0.failed)])]) (V5 p0 p1):=by
 intro r h
 rw [V5] at h;refine ao bQm (si (oi (sx 1 (ni (xi (si (oi (sx 2 (cg ⟨[(1000000,1000000)],[(6000000,6000000)],[],[],[],[(6000000,6000000)],[],[6000000],[]⟩ h (bE6 _ _ _ _) fun y1 h=>(sx 1 (ni (xi ?_))))))))))));refine fC (s':=⟨[(4,(vB y1))],[(1000000,[(.osl 6000000 85 3 (p0.list.map aJ)),(vI p0.at_),(vB p0.failed)])]⟩) (wr [(6000000,.old 6000000)] eS (bQ (c0:=[(.osl 6000000 85 3 (p0.list.map aJ)),(vI p0.at_),(vB p0.failed)]) kr (aP (dC (t:=6000000) kr kr) (aP (bF kr kr) (aP (bF kr kr) bP))) aU)) ?_;injection h with h; subst h;exact rb
theorem aTf (y1 p0 bD r) (h:aAf y1 p0 bD=some r):aUo y1 p0 bD r:=by
 rw [aAf] at h;delta aUo aJ6;refine si (oi (sx 2 (ni (xi ?_))));refine fC (s':=⟨[(4,(vB y1))],[(1000000,[(.osl 6000000 85 3 (p0.list.map aJ)),(vI bD),(vB p0.failed)])]⟩) (wr [(6000000,.old 6000000)] eS (bQ (c0:=[(.osl 6000000 85 3 (p0.list.map aJ)),(vI bD),(vB p0.failed)]) kr (aP (dC (t:=6000000) kr kr) (aP (bF kr kr) (aP (bF kr kr) bP))) aU)) ?_;injection h with h; subst h;exact rb
theorem aQm (p0:bZ) (p1:List UInt8):dU Tryz.prog 22 [(.ptr 1000000 0),(vS p1)] [(1000000,[(.osl 6000000 85 3 (p0.list.map aJ)),(vI p0.at_),(vB p0.failed)])] (fun (y:Bool×bZ)=>(vB y.1)) (fun (y:Bool×bZ)=>[(1000000,[(.osl 6000000 85 3 (y.2.list.map aJ)),(vI y.2.at_),(vB y.2.failed)])]) (Q6 p0 p1):=by
 intro r h
 rw [Q6] at h;refine ao bDe (si (oi (sx 1 (ni (xi (si (oi (sx 2 (cg ⟨[(1000000,1000000)],[(6000000,6000000)],[],[],[],[(6000000,6000000)],[],[6000000],[]⟩ h (bK7 _ _) fun y1 h=>(sx 1 (ni (xi (si (si (oi (sx 1 (ni (xi ?_))))))))))))))))));refine cd h (fun h=>?_) fun h=>?_;exact oi (sx 8 (ni (nxs (aTf _ _ _ _ h) (wr [(6000000,.old 6000000)] eS (bQ (c0:=[(.osl 6000000 85 3 (p0.list.map aJ)),(vI (IntKind.wrap .i64 (p0.at_+1))),(vB p0.failed)]) kr (aP (dC (t:=6000000) kr kr) (aP (bF kr kr) (aP (bF kr kr) bP))) aU)))));exact ki (nxs (aTf _ _ _ _ h) (wr [(6000000,.old 6000000)] eS (bQ (c0:=[(.osl 6000000 85 3 (p0.list.map aJ)),(vI p0.at_),(vB p0.failed)]) kr (aP (dC (t:=6000000) kr kr) (aP (bF kr kr) (aP (bF kr kr) bP))) aU)))
theorem aH5 (p0:bZ) (p1:List UInt8):dU Tryz.prog 19 [(.ptr 1000000 0),(vS p1)] [(1000000,[(.osl 6000000 85 3 (p0.list.map aJ)),(vI p0.at_),(vB p0.failed)])] (fun (y:bZ)=>(.tup [])) (fun (y:bZ)=>[(1000000,[(.osl 6000000 85 3 (y.list.map aJ)),(vI y.at_),(vB y.failed)])]) (vC p0 p1):=by
 intro r h
 rw [vC] at h;refine ao bFg (si (oi (sx 2 (cg ⟨[(1000000,1000000)],[(6000000,6000000)],[],[],[],[(6000000,6000000)],[],[6000000],[]⟩ h (aQm _ _) fun y1 h=>(sx 1 (ni (xi ?_)))))));refine cd h (fun h=>?_) fun h=>?_;refine oi (sx 4 (ni ?_));refine wB (s':=⟨[],[(1000000,[(.osl 6000000 85 3 (y1.2.list.map aJ)),(vI y1.2.at_),(vB true)])]⟩) (wr [(6000000,.old 6000000)] lX (bQ (c0:=[(.osl 6000000 85 3 (y1.2.list.map aJ)),(vI y1.2.at_),(vB true)]) kr (aP (dC (t:=6000000) kr kr) (aP (bF kr kr) (aP (bF kr kr) bP))) aU)) ?_;injection h with h; subst h;exact r0b;refine ki ?_;refine wB (s':=⟨[],[(1000000,[(.osl 6000000 85 3 (y1.2.list.map aJ)),(vI y1.2.at_),(vB y1.2.failed)])]⟩) (wr [(6000000,.old 6000000)] lX (bQ (c0:=[(.osl 6000000 85 3 (y1.2.list.map aJ)),(vI y1.2.at_),(vB y1.2.failed)]) kr (aP (dC (t:=6000000) kr kr) (aP (bF kr kr) (aP (bF kr kr) bP))) aU)) ?_;injection h with h; subst h;exact r0b
end Go.Proofs.YtfomfmjicgdebabGreatDoor
