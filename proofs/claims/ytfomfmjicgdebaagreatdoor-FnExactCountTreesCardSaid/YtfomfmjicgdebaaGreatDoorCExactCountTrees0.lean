/- That the code computes these functions (printed by a program). -/
import Derived.Test.YtfomfmjicgdebaaGreatDoorAbP
import Derived.Test.YtfomfmjicgdebaaGreatDoorAbQ
import Derived.KernelRfl
import Derived.Test.YtfomfmjicgdebaaGreatDoorAbG2
import Derived.Test.YtfomfmjicgdebaaGreatDoorAbC3
import Derived.Test.YtfomfmjicgdebaaGreatDoorAbX4
import Derived.Test.YtfomfmjicgdebaaGreatDoorAbX1
import Derived.Test.YtfomfmjicgdebaaGreatDoorFExactCountTrees
import Derived.Test.YtfomfmjicgdebaaGreatDoorProg
namespace Go.Proofs.YtfomfmjicgdebaaGreatDoor
open Go Go.RowKit Go.Ab
attribute [local irreducible] avc aZ aop dgo bA dX eB wkK xY stz aBi bI eff bC.st
def cI (n:Int):List D:=[.i .i64 n]
def cU8 (n:Int):List D:=[.i .u8 n]
def bL2 (n:Int):List D:=[.i .u64 n]
def bJq (n:Int):List D:=[.i .i32 n]
def bL5 (n:Int):List D:=[.i .u32 n]
def cB (b:Bool):List D:=[.b b]
def cStr (s:List UInt8):List D:=[.s (bs s)]
def cSl {α:Type} (sz:Nat) (f:α→List D) (l:List α):List D:=[.sl sz (l.map f)]
def cO (x:aB):List D:=[(.i .i64 x.kind),(.s (bs x.text)),(.i .i64 x.at_)]
def iZ (x:aB):V:=.agg (cO x)
def aM1 (x:aB):List V:=(cO x).map V.d
def aHd (x:iB):List D:=[(.sl 3 (x.t.map cO)),(.i .i64 x.at_),(.b x.bad)]
def bJ1 (x:iB):V:=.agg (aHd x)
def bKc (x:iB):List V:=(aHd x).map V.d
def K8 (x:bM):List D:=[(.i .i64 x.kind),(.i .i64 x.num),(.s (bs x.text))]
def wQ (x:bM):V:=.agg (K8 x)
def aS3 (x:bM):List V:=(K8 x).map V.d
mutual
def dD:aJ→List D
  | ⟨a0,a1,a2,a3,a4,a5,a6,a7⟩=>[(.i .i64 a0)]++[(.i .i64 a1)]++[(.b a2)]++K8 a3++[(.s (bs a4))]++[(.s (bs a5))]++[.sl 10 (vP a6)]++[.sl 6 (H7 a7)]
def iM:dZ→List D
  | ⟨a0,a1,a2,a3⟩=>[(.b a0)]++[(.s (bs a1))]++dD a2++[(.s (bs a3))]
def kV:bU→List D
  | ⟨a0,a1,a2,a3,a4,a5⟩=>[(.b a0)]++[.sl 13 (N8 a1)]++[.sl 3 (Q3 a2)]++[.sl 10 (vP a3)]++[.sl 11 (O5 a4)]++[(.i .i64 a5)]
def jN:eF→List D
  | ⟨a0,a1⟩=>dD a0++[(.b a1)]
def fZ:dN→List D
  | ⟨a0,a1,a2⟩=>[(.s (bs a0))]++[(.s (bs a1))]++[.sl 10 (vP a2)]
def vP:List aJ→List (List D)
  | []=>[]
  | x::l=>dD x::vP l
def N8:List dZ→List (List D)
  | []=>[]
  | x::l=>iM x::N8 l
def H7:List bU→List (List D)
  | []=>[]
  | x::l=>kV x::H7 l
def O5:List eF→List (List D)
  | []=>[]
  | x::l=>jN x::O5 l
def Q3:List dN→List (List D)
  | []=>[]
  | x::l=>fZ x::Q3 l
end
theorem yS:∀ l:List aJ,vP l=l.map dD
  | []=>by simp only [vP,List.map_nil]
  | x::l=>by simp only [vP,List.map_cons,yS l]
theorem xQ:∀ l:List dZ,N8 l=l.map iM
  | []=>by simp only [N8,List.map_nil]
  | x::l=>by simp only [N8,List.map_cons,xQ l]
theorem yO:∀ l:List bU,H7 l=l.map kV
  | []=>by simp only [H7,List.map_nil]
  | x::l=>by simp only [H7,List.map_cons,yO l]
theorem D8:∀ l:List eF,O5 l=l.map jN
  | []=>by simp only [O5,List.map_nil]
  | x::l=>by simp only [O5,List.map_cons,D8 l]
theorem zO:∀ l:List dN,Q3 l=l.map fZ
  | []=>by simp only [Q3,List.map_nil]
  | x::l=>by simp only [Q3,List.map_cons,zO l]
def jO (x:aJ):List D:=[(.i .i64 x.kind),(.i .i64 x.op),(.b x.not_),(.i .i64 x.value.kind),(.i .i64 x.value.num),(.s (bs x.value.text)),(.s (bs x.qual)),(.s (bs x.name)),(.sl 10 (x.kids.map dD)),(.sl 6 (x.sub.map kV))]
def vV (x:dZ):List D:=[(.b x.star),(.s (bs x.qual)),(.i .i64 x.expr.kind),(.i .i64 x.expr.op),(.b x.expr.not_),(.i .i64 x.expr.value.kind),(.i .i64 x.expr.value.num),(.s (bs x.expr.value.text)),(.s (bs x.expr.qual)),(.s (bs x.expr.name)),(.sl 10 (x.expr.kids.map dD)),(.sl 6 (x.expr.sub.map kV)),(.s (bs x.as_))]
def rO (x:bU):List D:=[(.b x.distinct),(.sl 13 (x.items.map iM)),(.sl 3 (x.from_.map fZ)),(.sl 10 (x.where_.map dD)),(.sl 11 (x.order.map jN)),(.i .i64 x.limit)]
def wP (x:eF):List D:=[(.i .i64 x.expr.kind),(.i .i64 x.expr.op),(.b x.expr.not_),(.i .i64 x.expr.value.kind),(.i .i64 x.expr.value.num),(.s (bs x.expr.value.text)),(.s (bs x.expr.qual)),(.s (bs x.expr.name)),(.sl 10 (x.expr.kids.map dD)),(.sl 6 (x.expr.sub.map kV)),(.b x.desc)]
def uJ (x:dN):List D:=[(.s (bs x.table)),(.s (bs x.as_)),(.sl 10 (x.on_.map dD))]
theorem kP (x:aJ):dD x=jO x:=by
  obtain ⟨a0,a1,a2,a3,a4,a5,a6,a7⟩:=x
  simp only [dD,jO,yS,xQ,yO,D8,zO,List.cons_append,List.nil_append,K8]
theorem aGk (x:dZ):iM x=vV x:=by
  obtain ⟨a0,a1,a2,a3⟩:=x
  simp only [iM,vV,yS,xQ,yO,D8,zO,kP,jO,List.cons_append,List.nil_append]
theorem aCo (x:bU):kV x=rO x:=by
  obtain ⟨a0,a1,a2,a3,a4,a5⟩:=x
  simp only [kV,rO,yS,xQ,yO,D8,zO,List.cons_append,List.nil_append]
theorem aFc (x:eF):jN x=wP x:=by
  obtain ⟨a0,a1⟩:=x
  simp only [jN,wP,yS,xQ,yO,D8,zO,kP,jO,List.cons_append,List.nil_append]
theorem X6 (x:dN):fZ x=uJ x:=by
  obtain ⟨a0,a1,a2⟩:=x
  simp only [fZ,uJ,yS,xQ,yO,D8,zO,List.cons_append,List.nil_append]
def bX (x:aJ):V:=.agg (jO x)
def jY (x:aJ):List V:=(jO x).map V.d
def aCf (x:dZ):V:=.agg (vV x)
def aP7 (x:dZ):List V:=(vV x).map V.d
def V9 (x:bU):V:=.agg (rO x)
def bLd (x:bU):List V:=(rO x).map V.d
def aB1 (x:eF):V:=.agg (wP x)
def aSv (x:eF):List V:=(wP x).map V.d
def aQi (x:dN):V:=.agg (uJ x)
def aUn (x:dN):List V:=(uJ x).map V.d
def aF8 (x:aA):List D:=[(.sl 3 (x.list.map cO)),(.i .i64 x.at_),(.b x.failed)]
def bKu (x:aA):V:=.agg (aF8 x)
def aP (x:aA):List V:=(aF8 x).map V.d
instance:Enc aB:=⟨cO,cO,(fun _=>rfl)⟩
instance:Enc (List UInt8):=⟨cStr,cStr,(fun _=>rfl)⟩
instance:Enc bU:=⟨kV,rO,aCo⟩
instance:Enc aJ:=⟨dD,jO,kP⟩
theorem kr {p:Prop} (h:p:=by kernel_rfl):p:=h
def dF (l:List aB):V:=.d (.sl 3 (l.map cO))
def aOc (l:List Int):V:=.d (.sl 1 (l.map cU8))
def xC (l:List aJ):V:=.d (.sl 10 (l.map dD))
def iG (l:List Int):V:=.d (.sl 1 (l.map cI))
def zI (l:List (List UInt8)):V:=.d (.sl 1 (l.map cStr))
def bD:V:=(.d (.s (bs [])))
def aX:V:=(.d (.i .i64 0))
def fT:V:=(.d (.b false))
def fO:List V:=[aX,aX,fT,aX,aX,bD,bD,bD,(.nil 10),(.nil 6)]
def aFv:List V:=[fT,(.nil 13),(.nil 3),(.nil 10),(.nil 11),aX]
def aIg:List V:=[aX,aX,fT,aX,aX,bD,bD,bD,(.nil 10),(.nil 6),fT]
def aTe:AC:=(.seq (.ops [.asg 2 (kB false)]) (.seq (.ops [.asg 3 (kI 1048576)]) (.seq (.ops [.mv 7 0,.mv 8 3,.call (some 9) 4 [7,8],.asg 3 9]) (.seq (.seq (.ops [.mv 10 3,.bin 11 .lss 10 (kI 0)]) (.cond 11 (.seq (.ops [.asg 2 (kB true)]) .ret) .skip)) (.seq (.ops [.mv 12 0,.call (some 13) 6 [12],.call (some 14) 5 [13],.asg 4 14]) (.seq (.ops [.mv 15 0,.call (some 16) 6 [15],.asg 5 16]) (.seq (.ops [.mv 17 5,.call (some 18) 7 [17],.asg 6 18]) (.seq (.seq (.ops [.mv 19 6,.mv 20 4,.bin 21 .neq 19 20]) (.cond 21 (.seq (.ops [.asg 2 (kB false)]) .ret) .skip)) (.seq (.seq (.ops [.mv 22 5,.mv 23 0,.call (some 24) 6 [23],.call (some 25) 8 [22,24],.not 26 25]) (.cond 26 (.seq (.ops [.asg 2 (kB false)]) .ret) .skip)) (.seq (.ops [.asg 2 (kB true)]) .ret))))))))))
theorem bA7:bG Tryz.prog 3=some (aTe,[.mv 0 2],27):=by kernel_rfl
def bLn (r:Bool):Exit→St→Prop:=bA [.mv 0 2] fun x _=>x=(fun y=>(vB y)) r
def bBk:AC:=(.seq (.ops [.asg 2 (kI 0)]) (.seq (.seq (.ops [.mv 3 0,.len 4 3,.bin 5 .gtr 4 (kI 9)]) (.cond 5 (.seq (.ops [.asg 2 (kI 0)]) .ret) .skip)) (.seq (.ops [.mv 6 0,.call (some 7) 10 [6,(kI 1)],.asg 2 7]) .ret)))
theorem aRj:bG Tryz.prog 5=some (bBk,[.mv 0 2],8):=by kernel_rfl
def bKj (r:Int):Exit→St→Prop:=bA [.mv 0 2] fun x _=>x=(fun y=>(vI y)) r
def aHr:AC:=(.seq (.ops [.mv 28 6,.asg 4 28]) .ret)
def aDv:AC:=(.seq (.ops [.mv 49 7,.asg 4 49]) .ret)
def aE6:AC:=(.ops [.mv 83 9,.bin 84 .add 83 (kI 1),.asg 9 84])
def aCy:AC:=(.loop (.seq (.seq (.ops [.mv 80 9,.mv 81 5,.bin 82 .lss 80 81]) (.cond 82 .skip (.exit 1))) (.seq (.block 2 (.seq (.ops [.mv 85 0,.mv 86 9,.ia 87 3 85 86,.ld 88 3 true 87,.mv 89 1,.call (some 90) 20 [88,89],.bin 91 .gtr 90 (kI 0)]) (.cond 91 (.dops [[],[],[],[1,2],[],[3,4],[],[],[7],[6,8],[],[10],[9,11,5],[5,12],[0,13],[14,12,0,1,2,3,4,5,6,7,8,9,10,11,12,13,14]] [.mv 92 8,.mv 93 0,.mv 94 9,.slc 95 3 93 none (some 94) none,.mv 96 1,.call (some 97) 10 [95,96],.mv 98 0,.mv 99 9,.bin 100 .add 99 (kI 1),.slc 101 3 98 (some 100) none none,.mv 102 1,.bin 103 .add 102 (kI 1),.call (some 104) 10 [101,103],.bin 105 .mul 97 104,.bin 106 .add 92 105,.asg 8 106]) .skip))) aE6)))
def aOi:AC:=(.seq (.ops [.mv 107 8,.asg 4 107]) .ret)
def aL5:AC:=(.seq (.ops [.mv 76 0,.mv 77 1,.bin 78 .add 77 (kI 1),.call (some 79) 10 [76,78],.asg 8 79]) (.seq (.seq (.ops [.asg 9 (kI 1)]) (.block 1 aCy)) aOi))
def bGp:AC:=(.seq (.ops [.asg 4 (kI 0)]) (.seq (.ops [.mv 10 0,.len 11 10,.asg 5 11]) (.seq (.seq (.ops [.mv 12 5,.bin 13 .eql 12 (kI 0)]) (.cond 13 (.seq (.ops [.asg 4 (kI 0)]) .ret) .skip)) (.seq (.seq (.ops [.mv 14 1]) (.block 0 (.seq (.ops [.bin 16 .eql 14 (kI 3),.asg 15 16]) (.cond 15 (.seq (.ops [.mv 17 0,.call (some 18) 10 [17,(kI 4)],.asg 6 18]) (.seq (.seq (.ops [.mv 19 0,.ia 20 3 19 (kI 0),.ld 21 3 true 20,.call (some 22) 15 [21,(kI 15)]]) (.cond 22 (.ops [.mv 23 6,.mv 24 0,.slc 25 3 24 (some (kI 1)) none none,.call (some 26) 10 [25,(kI 3)],.bin 27 .add 23 26,.asg 6 27]) .skip)) aHr)) (.seq (.ops [.bin 30 .eql 14 (kI 4),.asg 29 30]) (.cond 29 (.seq (.ops [.mv 31 0,.call (some 32) 10 [31,(kI 5)],.mv 33 0,.call (some 34) 16 [33],.bin 35 .add 32 34,.asg 4 35]) .ret) (.seq (.ops [.bin 37 .eql 14 (kI 8),.asg 36 37]) (.cond 36 (.seq (.ops [.mv 38 0,.call (some 39) 10 [38,(kI 9)],.asg 7 39]) (.seq (.seq (.ops [.mv 40 0,.ia 41 3 40 (kI 0),.ld 42 3 true 41,.call (some 43) 17 [42,(.c (.d (.s (bs [45]))))]]) (.cond 43 (.ops [.mv 44 7,.mv 45 0,.slc 46 3 45 (some (kI 1)) none none,.call (some 47) 10 [46,(kI 8)],.bin 48 .add 44 47,.asg 7 48]) .skip)) aDv)) (.seq (.ops [.bin 51 .eql 14 (kI 9),.asg 50 51]) (.cond 50 (.seq (.seq (.ops [.mv 52 5,.bin 53 .gtr 52 (kI 2),.mv 54 53,.g 54 true (.mv 55 0),.g 54 true (.ia 56 3 55 (kI 0)),.g 54 true (.ld 57 3 true 56),.g 54 true (.call (some 58) 17 [57,(.c (.d (.s (bs [40]))))]),.pick 59 54 58 (kB false),.mv 60 59,.g 60 true (.mv 61 0),.g 60 true (.mv 62 5),.g 60 true (.bin 63 .sub 62 (kI 1)),.g 60 true (.ia 64 3 61 63),.g 60 true (.ld 65 3 true 64),.g 60 true (.call (some 66) 17 [65,(.c (.d (.s (bs [41]))))]),.pick 67 60 66 (kB false)]) (.cond 67 (.seq (.ops [.mv 68 0,.mv 69 5,.bin 70 .sub 69 (kI 1),.slc 71 3 68 (some (kI 1)) (some 70) none,.call (some 72) 10 [71,(kI 1)],.asg 4 72]) .ret) .skip)) (.seq (.ops [.mv 73 0,.call (some 74) 19 [73],.call (some 75) 18 [(kI 1),74],.asg 4 75]) .ret)) .skip)))))))))) aL5))))
theorem bHu:bG Tryz.prog 10=some (bGp,[.mv 0 4],108):=by kernel_rfl
def aCw (r:Int):Exit→St→Prop:=bA [.mv 0 4] fun x _=>x=(fun y=>(vI y)) r
def bFo (r:Int):Exit→St→Prop:=(dX (wkK (avc Tryz.prog aL5 (aCw r))) (aCw r))
def aJm (r:Int):Exit→St→Prop:=(eB 0 (bFo r))
def aYb (r:Int):Exit→St→Prop:=(dX (wkK (avc Tryz.prog aOi (aCw r))) (aCw r))
def aDb (r:Int):Exit→St→Prop:=(eB 1 (aYb r))
def aY6 (r:Int):Exit→St→Prop:=(dX (avc Tryz.prog aCy (aDb r)) (aDb r))
def bA0 (x6:Int):St:=⟨[(6,(vI x6))],[]⟩
abbrev aMh:=fun x6 r=>avc Tryz.prog aHr (aJm r) (bA0 x6)
def bFr (x7:Int):St:=⟨[(7,(vI x7))],[]⟩
abbrev aOx:=fun x7 r=>avc Tryz.prog aDv (aJm r) (bFr x7)
def aUv (p0:List aB) (p1:Int) (x8:Int) (x9:Int):St:=⟨[(0,(dF p0)),(1,(vI p1)),(5,(vI (p0.length:Int))),(8,(vI x8)),(9,(vI x9))],[]⟩
abbrev aA6:=fun p0 p1 x8 x9 r=>avc Tryz.prog aCy (aDb r) (aUv p0 p1 x8 x9)
def bHc (p0:List aB) (p1:Int) (x9:Int) (mQ:Int):St:=⟨[(0,(dF p0)),(1,(vI p1)),(5,(vI (p0.length:Int))),(8,(vI mQ)),(9,(vI x9))],[]⟩
abbrev aBz:=fun p0 p1 x9 mQ r=>avc Tryz.prog aE6 (aY6 r) (bHc p0 p1 x9 mQ)
def aUj:AC:=(.seq (.ops [.box 2 33 0,.asg 4 (kB false)]) (.seq (.dops [[],[0],[1],[2],[3],[4,3],[3],[6,3,3],[5,7,3],[3,8],[9,7,0,1,2,3,4,5,6,7,8,9]] [.fa 5 0 2,.ld 6 1 false 5,.bin 7 .eql 6 (kI 1),.mv 8 7,.g 8 true (.fa 9 1 2),.g 8 true (.ld 10 1 false 9),.g 8 true (.mv 11 1),.g 8 true (.call (some 12) 24 [11]),.g 8 true (.bin 13 .eql 10 12),.pick 14 8 13 (kB false),.asg 4 14]) .ret))
theorem aTn:bG Tryz.prog 15=some (aUj,[.mv 0 4],15):=by kernel_rfl
def bJj (r:Bool):Exit→St→Prop:=bA [.mv 0 4] fun x _=>x=(fun y=>(vB y)) r
def aW5:AC:=(.seq (.ops [.asg 2 (.c (.d (.s (bs []))))]) (.seq (.seq (.ops [.mv 3 0,.call (some 4) 31 [3,(kI 1),(kI 28)],.not 5 4]) (.cond 5 (.seq (.ops [.asg 2 (.c (.d (.s (bs []))))]) .ret) .skip)) (.seq (.ops [.call (some 6) 32 [],.mv 7 0,.ia 8 1 6 7,.ld 9 1 false 8,.asg 2 9]) .ret)))
theorem aT3:bG Tryz.prog 24=some (aW5,[.mv 0 2],10):=by kernel_rfl
def bK3 (r:List UInt8):Exit→St→Prop:=bA [.mv 0 2] fun x _=>x=(fun y=>(vS y)) r
def aWw:AC:=(.seq (.ops [.asg 0 (.c (.nil 1))]) (.seq (.ops [.bsl 1 9 1 [(.c (.d (.s (bs [])))),(.c (.d (.s (bs [83,69,76,69,67,84])))),(.c (.d (.s (bs [68,73,83,84,73,78,67,84])))),(.c (.d (.s (bs [70,82,79,77])))),(.c (.d (.s (bs [74,79,73,78])))),(.c (.d (.s (bs [79,78])))),(.c (.d (.s (bs [87,72,69,82,69])))),(.c (.d (.s (bs [79,82,68,69,82])))),(.c (.d (.s (bs [66,89])))),(.c (.d (.s (bs [65,83,67])))),(.c (.d (.s (bs [68,69,83,67])))),(.c (.d (.s (bs [76,73,77,73,84])))),(.c (.d (.s (bs [65,83])))),(.c (.d (.s (bs [65,78,68])))),(.c (.d (.s (bs [79,82])))),(.c (.d (.s (bs [78,79,84])))),(.c (.d (.s (bs [73,83])))),(.c (.d (.s (bs [73,78])))),(.c (.d (.s (bs [66,69,84,87,69,69,78])))),(.c (.d (.s (bs [69,88,73,83,84,83])))),(.c (.d (.s (bs [78,85,76,76])))),(.c (.d (.s (bs [84,82,85,69])))),(.c (.d (.s (bs [70,65,76,83,69])))),(.c (.d (.s (bs [73,78,83,69,82,84])))),(.c (.d (.s (bs [73,78,84,79])))),(.c (.d (.s (bs [86,65,76,85,69,83])))),(.c (.d (.s (bs [85,80,68,65,84,69])))),(.c (.d (.s (bs [83,69,84])))),(.c (.d (.s (bs [68,69,76,69,84,69]))))],.asg 0 1]) .ret))
theorem aSt:bG Tryz.prog 32=some (aWw,[.mv 0 0],2):=by kernel_rfl
def bKf (r:List (List UInt8)):Exit→St→Prop:=bA [.mv 0 0] fun x b=>x=(fun (y:List (List UInt8))=>(.osl 2000000 9 1 (y.map cStr))) r∧bF ((fun (y:List (List UInt8))=>[]) r) b
def aVk:AC:=(.seq (.ops [.asg 6 (kB false)]) (.seq (.ops [.mv 7 0,.mv 8 1,.bin 9 .geq 7 8,.mv 10 9,.g 10 true (.mv 11 0),.g 10 true (.mv 12 2),.g 10 true (.bin 13 .leq 11 12),.pick 14 10 13 (kB false),.asg 6 14]) .ret))
theorem aYq:bG Tryz.prog 31=some (aVk,[.mv 0 6],15):=by kernel_rfl
def bJ7 (r:Bool):Exit→St→Prop:=bA [.mv 0 6] fun x _=>x=(fun y=>(vB y)) r
def bFh:AC:=(.seq (.ops [.box 2 33 0,.asg 4 (kI 0)]) (.seq (.ops [.ld 6 3 true 2,.bsl 7 33 3 [6],.bld 8 [(.nil 3),aX,fT] [(0,1,7)],.box 9 59 8,.asg 5 9]) (.seq (.ops [.mv 10 5,.mv 11 1,.call (some 12) 27 [10,11],.asg 4 12]) .ret)))
theorem bAa:bG Tryz.prog 20=some (bFh,[.mv 0 4],13):=by kernel_rfl
def bK7 (r:Int):Exit→St→Prop:=bA [.mv 0 4] fun x _=>x=(fun y=>(vI y)) r
def aFl:AC:=(.ops [.mv 10 5,.bin 11 .add 10 (kI 1),.asg 5 11])
def aA3:AC:=(.loop (.seq (.seq (.ops [.mv 8 5,.bin 9 .leq 8 (kI 14)]) (.cond 9 .skip (.exit 0))) (.seq (.block 1 (.seq (.seq (.ops [.mv 12 5,.bld 13 [aX,aX,fT,aX,aX,bD,bD,bD,(.nil 10),(.nil 6)] [(0,1,(kI 4)),(1,1,12)],.call (some 14) 38 [13],.mv 15 1,.bin 16 .neq 14 15]) (.cond 16 (.exit 1) .skip)) (.seq (.ops [.mv 17 5,.call (some 18) 39 [17],.alc 6 [aX,bD,aX],.st 3 6 18]) (.seq (.ops [.mv 19 0,.call (some 20) 40 [19,(kI 0)],.alc 7 [aX,bD,aX],.st 3 7 20]) (.seq (.ops [.fa 21 0 7,.ld 22 1 false 21,.fa 23 0 6,.ld 24 1 false 23,.bin 25 .eql 22 24,.mv 26 25,.g 26 true (.fa 27 1 7),.g 26 true (.ld 28 1 false 27),.g 26 true (.fa 29 1 6),.g 26 true (.ld 30 1 false 29),.g 26 true (.bin 31 .eql 28 30),.pick 32 26 31 (kB false)]) (.cond 32 (.seq (.ops [.mv 33 5,.asg 4 33]) .ret) .skip)))))) aFl)))
def aOb:AC:=(.seq (.ops [.asg 4 (kI 0)]) .ret)
def bGr:AC:=(.seq (.ops [.asg 4 (kI 0)]) (.seq (.seq (.ops [.asg 5 (kI 1)]) (.block 0 aA3)) aOb))
theorem bB2:bG Tryz.prog 27=some (bGr,[.mv 0 4],34):=by kernel_rfl
def aL3 (p0:iB) (r:Int):Exit→St→Prop:=bA [.mv 0 4] fun x b=>x=(fun (y:Int)=>(vI y)) r∧bF ((fun (y:Int)=>[(1000000,[(.osl 6000000 33 3 (p0.t.map cO)),(vI p0.at_),(vB p0.bad)])]) r) b
def aY0 (p0:iB) (r:Int):Exit→St→Prop:=(dX (wkK (avc Tryz.prog aOb (aL3 p0 r))) (aL3 p0 r))
def aHm (p0:iB) (r:Int):Exit→St→Prop:=(eB 0 (aY0 p0 r))
def bCl (p0:iB) (r:Int):Exit→St→Prop:=(dX (avc Tryz.prog aA3 (aHm p0 r)) (aHm p0 r))
def bE1 (p1:Int) (p0:iB) (x5:Int):St:=⟨[(0,(.ptr 1000000 0)),(1,(vI p1)),(5,(vI x5))],[(1000000,[(.osl 6000000 33 3 (p0.t.map cO)),(vI p0.at_),(vB p0.bad)])]⟩
abbrev U9:=fun p1 p0 x5 r=>avc Tryz.prog aA3 (aHm p0 r) (bE1 p1 p0 x5)
def bHh (p1:Int) (x5:Int) (p0:iB):St:=⟨[(0,(.ptr 1000000 0)),(1,(vI p1)),(5,(vI x5))],[(1000000,[(.osl 6000000 33 3 (p0.t.map cO)),(vI p0.at_),(vB p0.bad)])]⟩
abbrev aC0:=fun p1 x5 p0 r=>avc Tryz.prog aFl (bCl p0 r) (bHh p1 x5 p0)
def aZ2:AC:=(.seq (.ops [.alc 4 [aX,bD,aX]]) (.seq (.seq (.dops [[],[0],[1],[2],[3],[4],[5,4],[6,4],[7,4],[4],[8,9,4],[4],[11,4],[12,4],[13,4],[14,4],[10,15,4],[4,16]] [.mv 5 0,.nck 6 5,.fa 7 2 6,.ld 8 1 false 7,.mv 9 8,.g 9 false (.mv 10 0),.g 9 false (.nck 11 10),.g 9 false (.fa 12 1 11),.g 9 false (.ld 13 1 false 12),.g 9 false (.mv 14 1),.g 9 false (.bin 15 .add 13 14),.g 9 false (.mv 16 0),.g 9 false (.nck 17 16),.g 9 false (.fa 18 0 17),.g 9 false (.ld 19 1 false 18),.g 9 false (.len 20 19),.g 9 false (.bin 21 .geq 15 20),.pick 22 9 (kB true) 21]) (.cond 22 (.seq (.ops [.bld 23 [aX,bD,aX] [],.st 3 4 23]) .ret) .skip)) (.seq (.dops [[],[0],[1],[2],[],[4],[5],[6],[],[7,8],[3,9],[10],[11,0,1,2,3,4,5,6,7,8,9,10,11]] [.mv 24 0,.nck 25 24,.fa 26 0 25,.ld 27 1 false 26,.mv 28 0,.nck 29 28,.fa 30 1 29,.ld 31 1 false 30,.mv 32 1,.bin 33 .add 31 32,.ia 34 3 27 33,.ld 35 3 true 34,.st 3 4 35]) .ret)))
theorem bBb:bG Tryz.prog 40=some (aZ2,[.ld 0 3 true 4],36):=by kernel_rfl
def bJx (p0:iB) (r:aB):Exit→St→Prop:=bA [.ld 0 3 true 4] fun x b=>x=(fun (y:aB)=>(iZ y)) r∧bF ((fun (y:aB)=>[(1000000,[(.osl 6000000 33 3 (p0.t.map cO)),(vI p0.at_),(vB p0.bad)])]) r) b
def aTt:AC:=(.seq (.ops [.alc 2 [aX,bD,aX]]) (.seq (.seq (.ops [.mv 3 0,.bin 4 .eql 3 (kI 1),.mv 5 4,.g 5 false (.mv 6 0),.g 5 false (.bin 7 .eql 6 (kI 2)),.pick 8 5 (kB true) 7,.mv 9 8,.g 9 false (.mv 10 0),.g 9 false (.bin 11 .eql 10 (kI 15)),.pick 12 9 (kB true) 11]) (.cond 12 (.seq (.ops [.mv 13 0,.call (some 14) 45 [13],.bld 15 [aX,bD,aX] [(0,1,(kI 1)),(1,1,14)],.st 3 2 15]) .ret) .skip)) (.seq (.ops [.mv 16 0,.call (some 17) 45 [16],.call (some 18) 46 [17],.st 3 2 18]) .ret)))
theorem aWa:bG Tryz.prog 39=some (aTt,[.ld 0 3 true 2],19):=by kernel_rfl
def bL6 (r:aB):Exit→St→Prop:=bA [.ld 0 3 true 2] fun x _=>x=(fun y=>(iZ y)) r
def aSh:AC:=(.seq (.ops [.asg 2 (.c (.d (.s (bs []))))]) (.seq (.seq (.ops [.mv 3 0,.call (some 4) 31 [3,(kI 1),(kI 16)],.not 5 4]) (.cond 5 (.seq (.ops [.asg 2 (.c (.d (.s (bs []))))]) .ret) .skip)) (.seq (.ops [.bsl 6 9 1 [(.c (.d (.s (bs [])))),(.c (.d (.s (bs [79,82])))),(.c (.d (.s (bs [65,78,68])))),(.c (.d (.s (bs [61])))),(.c (.d (.s (bs [60,62])))),(.c (.d (.s (bs [60])))),(.c (.d (.s (bs [60,61])))),(.c (.d (.s (bs [62])))),(.c (.d (.s (bs [62,61])))),(.c (.d (.s (bs [124,124])))),(.c (.d (.s (bs [43])))),(.c (.d (.s (bs [45])))),(.c (.d (.s (bs [42])))),(.c (.d (.s (bs [47])))),(.c (.d (.s (bs [37])))),(.c (.d (.s (bs [78,79,84])))),(.c (.d (.s (bs [45]))))],.mv 7 0,.ia 8 1 6 7,.ld 9 1 false 8,.asg 2 9]) .ret)))
theorem bGx:bG Tryz.prog 45=some (aSh,[.mv 0 2],10):=by kernel_rfl
def bJi (r:List UInt8):Exit→St→Prop:=bA [.mv 0 2] fun x _=>x=(fun y=>(vS y)) r
def aS4:AC:=(.seq (.ops [.alc 2 [aX,bD,aX]]) (.seq (.ops [.mv 3 0,.bld 4 [aX,bD,aX] [(0,1,(kI 5)),(1,1,3)],.st 3 2 4]) .ret))
theorem aXu:bG Tryz.prog 46=some (aS4,[.ld 0 3 true 2],5):=by kernel_rfl
def bLs (r:aB):Exit→St→Prop:=bA [.ld 0 3 true 2] fun x _=>x=(fun y=>(iZ y)) r
def aI4:AC:=(.cond 9 (.seq (.ops [.asg 2 (kI 4)]) .ret) (.seq (.ops [.bin 15 .eql 4 (kI 3),.asg 14 15]) (.cond 14 (.seq (.seq (.ops [.fa 16 1 1,.ld 17 1 false 16,.bin 18 .eql 17 (kI 15)]) (.cond 18 (.seq (.ops [.asg 2 (kI 3)]) .ret) .skip)) (.seq (.ops [.fa 19 1 1,.ld 20 1 false 19,.bin 21 .eql 20 (kI 16)]) (.cond 21 (.seq (.ops [.asg 2 (kI 8)]) .ret) .skip))) (.seq (.ops [.bin 23 .eql 4 (kI 4),.asg 22 23]) (.cond 22 (.seq (.ops [.fa 24 1 1,.ld 25 1 false 24,.call (some 26) 31 [25,(kI 1),(kI 14)]]) (.cond 26 (.seq (.ops [.bsl 27 3 1 [(kI 0),(kI 1),(kI 2),(kI 4),(kI 4),(kI 4),(kI 4),(kI 4),(kI 4),(kI 5),(kI 6),(kI 6),(kI 7),(kI 7),(kI 7)],.fa 28 1 1,.ld 29 1 false 28,.ia 30 1 27 29,.ld 31 1 false 30,.asg 2 31]) .ret) .skip)) .skip)))))
def aG4:AC:=(.cond 5 (.seq (.ops [.asg 2 (kI 9)]) .ret) (.seq (.seq (.ops [.bin 10 .eql 4 (kI 5),.asg 9 10]) (.cond 9 .skip (.seq (.ops [.bin 11 .eql 4 (kI 6),.asg 9 11]) (.cond 9 .skip (.seq (.ops [.bin 12 .eql 4 (kI 7),.asg 9 12]) (.cond 9 .skip (.ops [.bin 13 .eql 4 (kI 8),.asg 9 13]))))))) aI4))
def Y9:AC:=(.seq (.ops [.asg 2 (kI 0)]) .ret)
def bEu:AC:=(.seq (.ops [.box 1 40 0,.asg 2 (kI 0)]) (.seq (.seq (.ops [.fa 3 0 1,.ld 4 1 false 3]) (.block 0 (.seq (.seq (.ops [.bin 6 .eql 4 (kI 1),.asg 5 6]) (.cond 5 .skip (.seq (.ops [.bin 7 .eql 4 (kI 2),.asg 5 7]) (.cond 5 .skip (.ops [.bin 8 .eql 4 (kI 9),.asg 5 8]))))) aG4))) Y9))
theorem bIy:bG Tryz.prog 38=some (bEu,[.mv 0 2],32):=by kernel_rfl
def aDl (r:Int):Exit→St→Prop:=bA [.mv 0 2] fun x _=>x=(fun y=>(vI y)) r
def bAp (r:Int):Exit→St→Prop:=(dX (wkK (avc Tryz.prog Y9 (aDl r))) (aDl r))
def aNa (r:Int):Exit→St→Prop:=(eB 0 (bAp r))
def aZ9 (p0:aJ) (x5:Bool):St:=⟨[(1,(.ptr 1 0)),(4,(vI p0.kind)),(5,(vB x5))],[(1,jY p0)]⟩
abbrev aPt:=fun p0 x5 r=>avc Tryz.prog aG4 (aNa r) (aZ9 p0 x5)
def bFa (p0:aJ) (x9:Bool):St:=⟨[(1,(.ptr 1 0)),(4,(vI p0.kind)),(9,(vB x9))],[(1,jY p0)]⟩
abbrev aL2:=fun p0 x9 r=>avc Tryz.prog aI4 (aNa r) (bFa p0 x9)
def aXm:St:=⟨[],[]⟩
abbrev aPz:=fun r=>avc Tryz.prog Y9 (aDl r) (aXm)
def bF7:AC:=(.seq (.ops [.asg 2 (kI 0)]) (.seq (.ops [.mv 4 0,.ia 5 3 4 (kI 0),.ld 6 3 true 5,.alc 3 [aX,bD,aX],.st 3 3 6]) (.seq (.seq (.ops [.mv 7 0,.len 8 7,.bin 9 .eql 8 (kI 1),.mv 10 9,.g 10 true (.ld 11 3 true 3),.g 10 true (.call (some 12) 26 [11]),.pick 13 10 12 (kB false),.mv 14 13,.g 14 true (.fa 15 0 3),.g 14 true (.ld 16 1 false 15),.g 14 true (.bin 17 .eql 16 (kI 3)),.g 14 true (.mv 18 17),.g 18 false (.fa 19 0 3),.g 18 false (.ld 20 1 false 19),.g 18 false (.bin 21 .eql 20 (kI 4)),.g 14 true (.pick 22 18 (kB true) 21),.g 14 true (.mv 23 22),.g 23 false (.fa 24 0 3),.g 23 false (.ld 25 1 false 24),.g 23 false (.bin 26 .eql 25 (kI 2)),.g 14 true (.pick 27 23 (kB true) 26),.g 14 true (.mv 28 27),.g 28 false (.ld 29 3 true 3),.g 28 false (.call (some 30) 15 [29,(kI 20)]),.g 14 true (.pick 31 28 (kB true) 30),.g 14 true (.mv 32 31),.g 32 false (.ld 33 3 true 3),.g 32 false (.call (some 34) 15 [33,(kI 21)]),.g 14 true (.pick 35 32 (kB true) 34),.g 14 true (.mv 36 35),.g 36 false (.ld 37 3 true 3),.g 36 false (.call (some 38) 15 [37,(kI 22)]),.g 14 true (.pick 39 36 (kB true) 38),.pick 40 14 39 (kB false)]) (.cond 40 (.seq (.ops [.asg 2 (kI 1)]) .ret) .skip)) (.seq (.seq (.ops [.mv 41 0,.len 42 41,.bin 43 .eql 42 (kI 3),.mv 44 43,.g 44 true (.fa 45 0 3),.g 44 true (.ld 46 1 false 45),.g 44 true (.bin 47 .eql 46 (kI 2)),.pick 48 44 47 (kB false),.mv 49 48,.g 49 true (.ld 50 3 true 3),.g 49 true (.call (some 51) 26 [50]),.pick 52 49 51 (kB false),.mv 53 52,.g 53 true (.mv 54 0),.g 53 true (.ia 55 3 54 (kI 1)),.g 53 true (.ld 56 3 true 55),.g 53 true (.call (some 57) 17 [56,(.c (.d (.s (bs [46]))))]),.pick 58 53 57 (kB false),.mv 59 58,.g 59 true (.mv 60 0),.g 59 true (.ia 61 3 60 (kI 2)),.g 59 true (.fa 62 0 61),.g 59 true (.ld 63 1 false 62),.g 59 true (.bin 64 .eql 63 (kI 2)),.pick 65 59 64 (kB false),.mv 66 65,.g 66 true (.mv 67 0),.g 66 true (.ia 68 3 67 (kI 2)),.g 66 true (.ld 69 3 true 68),.g 66 true (.call (some 70) 26 [69]),.pick 71 66 70 (kB false)]) (.cond 71 (.seq (.ops [.asg 2 (kI 1)]) .ret) .skip)) (.seq (.ops [.asg 2 (kI 0)]) .ret)))))
theorem bGb:bG Tryz.prog 19=some (bF7,[.mv 0 2],72):=by kernel_rfl
def bK9 (r:Int):Exit→St→Prop:=bA [.mv 0 2] fun x _=>x=(fun y=>(vI y)) r
def bGv:AC:=(.seq (.ops [.box 1 33 0,.asg 2 (kB false)]) (.seq (.seq (.ops [.fa 5 0 1,.ld 6 1 false 5]) (.block 0 (.seq (.ops [.bin 8 .eql 6 (kI 1),.asg 7 8]) (.cond 7 (.seq (.dops [[],[0],[1],[2],[3,2],[4],[5,4],[6,4,4],[4],[8,4],[7,9,4],[4,10],[11,7,0,1,2,3,4,5,6,7,8,9,10,11]] [.fa 9 1 1,.ld 10 1 false 9,.call (some 11) 33 [10],.bin 12 .gtr 11 (kI 0),.mv 13 12,.g 13 true (.fa 14 1 1),.g 13 true (.ld 15 1 false 14),.g 13 true (.call (some 16) 34 [15]),.g 13 true (.fa 17 1 1),.g 13 true (.ld 18 1 false 17),.g 13 true (.bin 19 .eql 16 18),.pick 20 13 19 (kB false),.asg 2 20]) .ret) (.seq (.ops [.bin 22 .eql 6 (kI 2),.asg 21 22]) (.cond 21 (.seq (.ops [.fa 23 1 1,.ld 24 1 false 23,.call (some 25) 35 [24],.asg 2 25]) .ret) (.seq (.ops [.bin 27 .eql 6 (kI 3),.asg 26 27]) (.cond 26 (.seq (.ops [.fa 29 1 1,.ld 30 1 false 29,.call (some 31) 36 [30],.mv 28 31,.ext 32 28 0,.ext 33 28 1,.asg 3 32,.asg 4 33]) (.seq (.ops [.mv 34 4,.asg 2 34]) .ret)) (.seq (.ops [.bin 36 .eql 6 (kI 4),.asg 35 36]) (.cond 35 (.seq (.ops [.fa 37 1 1,.ld 38 1 false 37,.lns 39 38,.bin 40 .leq 39 (kI 40),.asg 2 40]) .ret) (.seq (.ops [.bin 42 .eql 6 (kI 5),.asg 41 42]) (.cond 41 (.seq (.ops [.fa 43 1 1,.ld 44 1 false 43,.call (some 45) 37 [44],.asg 2 45]) .ret) .skip)))))))))))) (.seq (.ops [.asg 2 (kB false)]) .ret)))
theorem aXx:bG Tryz.prog 26=some (bGv,[.mv 0 2],46):=by kernel_rfl
def bL4 (r:Bool):Exit→St→Prop:=bA [.mv 0 2] fun x _=>x=(fun y=>(vB y)) r
def aFw:AC:=(.loop (.seq (.seq (.ops [.mv 15 5,.mv 16 0,.lns 17 16,.bin 18 .lss 15 17]) (.cond 18 .skip (.exit 0))) (.seq (.block 1 (.seq (.seq (.ops [.mv 21 0,.mv 22 5,.ix 23 21 22,.bin 24 .lss 23 (.c (.d (.i .u8 48))),.mv 25 24,.g 25 false (.mv 26 0),.g 25 false (.mv 27 5),.g 25 false (.ix 28 26 27),.g 25 false (.bin 29 .gtr 28 (.c (.d (.i .u8 57)))),.pick 30 25 (kB true) 29]) (.cond 30 (.seq (.ops [.asg 2 (kI 0),.asg 3 (kB false)]) .ret) .skip)) (.seq (.ops [.mv 31 0,.mv 32 5,.ix 33 31 32,.cvi 34 .i64 33,.bin 35 .sub 34 (kI 48),.asg 6 35]) (.seq (.seq (.ops [.mv 36 4,.mv 37 6,.bin 38 .sub (kI 9223372036854775807) 37,.bin 39 .quo 38 (kI 10),.bin 40 .gtr 36 39]) (.cond 40 (.seq (.ops [.asg 2 (kI 0),.asg 3 (kB false)]) .ret) .skip)) (.ops [.mv 41 4,.bin 42 .mul (kI 10) 41,.mv 43 6,.bin 44 .add 42 43,.asg 4 44]))))) (.ops [.mv 19 5,.bin 20 .add 19 (kI 1),.asg 5 20]))))
def aKl:AC:=(.seq (.seq (.ops [.mv 45 4,.call (some 46) 44 [45],.mv 47 0,.bin 48 .neq 46 47]) (.cond 48 (.seq (.ops [.asg 2 (kI 0),.asg 3 (kB false)]) .ret) .skip)) (.seq (.ops [.mv 49 4,.asg 2 49,.asg 3 (kB true)]) .ret))
def aSx:AC:=(.seq (.ops [.asg 2 (kI 0),.asg 3 (kB false)]) (.seq (.seq (.ops [.mv 7 0,.lns 8 7,.bin 9 .lss 8 (kI 1),.mv 10 9,.g 10 false (.mv 11 0),.g 10 false (.lns 12 11),.g 10 false (.bin 13 .gtr 12 (kI 19)),.pick 14 10 (kB true) 13]) (.cond 14 (.seq (.ops [.asg 2 (kI 0),.asg 3 (kB false)]) .ret) .skip)) (.seq (.ops [.asg 4 (kI 0)]) (.seq (.seq (.ops [.asg 5 (kI 0)]) (.block 0 aFw)) aKl))))
theorem bHx:bG Tryz.prog 36=some (aSx,[.mv 0 2,.mv 0 3],50):=by kernel_rfl
def aMl (r:Int×Bool):Exit→St→Prop:=bA [.mv 0 2,.mv 0 3] fun x _=>x=(fun y=>(.tup [(vI y.1),(vB y.2)])) r
def aX5 (r:Int×Bool):Exit→St→Prop:=(dX (wkK (avc Tryz.prog aKl (aMl r))) (aMl r))
def bAi (r:Int×Bool):Exit→St→Prop:=(eB 0 (aX5 r))
def bBq (p0:List UInt8) (x4:Int) (x5:Int):St:=⟨[(0,(vS p0)),(4,(vI x4)),(5,(vI x5))],[]⟩
abbrev aB5:=fun p0 x4 x5 r=>avc Tryz.prog aFw (bAi r) (bBq p0 x4 x5)
def aGa:AC:=(.seq (.ops [.mv 18 5,.bin 19 .add (kI 48) 18,.cvi 20 .u8 19,.bsl 21 5 1 [20],.cbs 22 21,.mv 23 4,.bin 24 .add 22 23,.asg 4 24]) (.ops [.mv 25 0,.bin 26 .quo 25 (kI 10),.asg 0 26]))
def aCx:AC:=(.loop (.seq (.seq (.ops [.mv 10 0,.bin 11 .neq 10 (kI 0)]) (.cond 11 .skip (.exit 0))) (.block 1 (.seq (.ops [.mv 12 0,.bin 13 .rem 12 (kI 10),.asg 5 13]) (.seq (.seq (.ops [.mv 14 5,.bin 15 .lss 14 (kI 0)]) (.cond 15 (.ops [.mv 16 5,.bin 17 .sub (kI 0) 16,.asg 5 17]) .skip)) aGa)))))
def aOv:AC:=(.seq (.seq (.ops [.mv 27 3]) (.cond 27 (.seq (.ops [.mv 28 4,.bin 29 .add (.c (.d (.s (bs [45])))) 28,.asg 2 29]) .ret) .skip)) (.seq (.ops [.mv 30 4,.asg 2 30]) .ret))
def aYx:AC:=(.seq (.ops [.asg 2 (.c (.d (.s (bs []))))]) (.seq (.seq (.ops [.mv 6 0,.bin 7 .eql 6 (kI 0)]) (.cond 7 (.seq (.ops [.asg 2 (.c (.d (.s (bs [48]))))]) .ret) .skip)) (.seq (.ops [.mv 8 0,.bin 9 .lss 8 (kI 0),.asg 3 9]) (.seq (.ops [.asg 4 (.c (.d (.s (bs []))))]) (.seq (.block 0 aCx) aOv)))))
theorem aZl:bG Tryz.prog 44=some (aYx,[.mv 0 2],31):=by kernel_rfl
def aOl (r:List UInt8):Exit→St→Prop:=bA [.mv 0 2] fun x _=>x=(fun y=>(vS y)) r
def aYg (r:List UInt8):Exit→St→Prop:=(dX (wkK (avc Tryz.prog aOv (aOl r))) (aOl r))
def aDs (r:List UInt8):Exit→St→Prop:=(eB 0 (aYg r))
def aQr (r:List UInt8):Exit→St→Prop:=(dX (avc Tryz.prog aCx (aDs r)) (aDs r))
def aZm (r:List UInt8):Exit→St→Prop:=(eB 1 (aQr r))
def bC2 (p0:Int) (x0:Int) (x4:List UInt8):St:=⟨[(0,(vI x0)),(3,(vB (decide (p0<0)))),(4,(vS x4))],[]⟩
abbrev aB2:=fun p0 x0 x4 r=>avc Tryz.prog aCx (aDs r) (bC2 p0 x0 x4)
def bFx (x0:Int) (p0:Int) (x4:List UInt8) (x5:Int):St:=⟨[(0,(vI x0)),(3,(vB (decide (p0<0)))),(4,(vS x4)),(5,(vI x5))],[]⟩
abbrev aA7:=fun x0 p0 x4 x5 r=>avc Tryz.prog aGa (aZm r) (bFx x0 p0 x4 x5)
def bBh:AC:=(.seq (.ops [.asg 2 (kB false)]) (.seq (.ops [.mv 3 0,.lns 4 3,.call (some 5) 31 [4,(kI 1),(kI 20)],.asg 2 5]) .ret))
theorem bAq:bG Tryz.prog 35=some (bBh,[.mv 0 2],6):=by kernel_rfl
def bKy (r:Bool):Exit→St→Prop:=bA [.mv 0 2] fun x _=>x=(fun y=>(vB y)) r
def aEk:AC:=(.ops [.mv 11 4,.bin 12 .add 11 (kI 1),.asg 4 12])
def aAy:AC:=(.loop (.seq (.seq (.ops [.mv 7 4,.mv 8 3,.len 9 8,.bin 10 .lss 7 9]) (.cond 10 .skip (.exit 0))) (.seq (.block 1 (.seq (.ops [.mv 13 3,.mv 14 4,.ia 15 1 13 14,.ld 16 1 false 15,.bin 17 .geq 16 (.c (.d (.i .u8 97))),.mv 18 17,.g 18 true (.mv 19 3),.g 18 true (.mv 20 4),.g 18 true (.ia 21 1 19 20),.g 18 true (.ld 22 1 false 21),.g 18 true (.bin 23 .leq 22 (.c (.d (.i .u8 122)))),.pick 24 18 23 (kB false)]) (.cond 24 (.ops [.mv 25 3,.mv 26 4,.mv 27 3,.mv 28 4,.ia 29 1 27 28,.ld 30 1 false 29,.bin 31 .sub 30 (.c (.d (.i .u8 32))),.ia 32 1 25 26,.st 1 32 31]) .skip))) aEk)))
def aCi:AC:=(.seq (.ops [.mv 33 3,.cbs 34 33,.asg 2 34]) .ret)
def aXc:AC:=(.seq (.ops [.asg 2 (.c (.d (.s (bs []))))]) (.seq (.ops [.mv 5 0,.csb 6 5 5,.asg 3 6]) (.seq (.seq (.ops [.asg 4 (kI 0)]) (.block 0 aAy)) aCi)))
theorem bCb:bG Tryz.prog 34=some (aXc,[.mv 0 2],35):=by kernel_rfl
def aHj (r:List UInt8):Exit→St→Prop:=bA [.mv 0 2] fun x _=>x=(fun y=>(vS y)) r
def aRz (r:List UInt8):Exit→St→Prop:=(dX (wkK (avc Tryz.prog aCi (aHj r))) (aHj r))
def aDw (r:List UInt8):Exit→St→Prop:=(eB 0 (aRz r))
def aX1 (r:List UInt8):Exit→St→Prop:=(dX (avc Tryz.prog aAy (aDw r)) (aDw r))
def aZ1 (x4:Int) (fH:List Int):St:=⟨[(3,(.tre 60013000)),(4,(vI x4))],[(60013000,[(.trc 1 (fH.map cU8))])]⟩
abbrev aBx:=fun x4 fH r=>avc Tryz.prog aAy (aDw r) (aZ1 x4 fH)
def aWl (x4:Int) (mO:List Int):St:=⟨[(3,(.tre 60052000)),(4,(vI x4))],[(60052000,[(.trc 1 (mO.map cU8))])]⟩
abbrev aBr:=fun x4 mO r=>avc Tryz.prog aEk (aX1 r) (aWl x4 mO)
def aWk (x3:List Int):St:=⟨[(3,(aOc x3))],[]⟩
abbrev aNv:=fun x3 r=>avc Tryz.prog aCi (aHj r) (aWk x3)
def aDp:AC:=(.loop (.seq (.seq (.ops [.mv 12 5,.mv 13 4,.len 14 13,.bin 15 .lss 12 14]) (.cond 15 .skip (.exit 0))) (.seq (.block 1 (.seq (.ops [.mv 18 4,.mv 19 5,.ia 20 1 18 19,.ld 21 1 false 20,.mv 22 3,.bin 23 .eql 21 22]) (.cond 23 (.seq (.ops [.mv 24 5,.asg 2 24]) .ret) .skip))) (.ops [.mv 16 5,.bin 17 .add 16 (kI 1),.asg 5 17]))))
def aJv:AC:=(.seq (.ops [.asg 2 (kI 0)]) .ret)
def aZk:AC:=(.seq (.ops [.asg 2 (kI 0)]) (.seq (.seq (.ops [.mv 6 0,.lns 7 6,.bin 8 .gtr 7 (kI 8)]) (.cond 8 (.seq (.ops [.asg 2 (kI 0)]) .ret) .skip)) (.seq (.ops [.mv 9 0,.call (some 10) 34 [9],.asg 3 10]) (.seq (.ops [.call (some 11) 32 [],.asg 4 11]) (.seq (.seq (.ops [.asg 5 (kI 1)]) (.block 0 aDp)) aJv)))))
theorem bCs:bG Tryz.prog 33=some (aZk,[.mv 0 2],25):=by kernel_rfl
def aLv (r:Int):Exit→St→Prop:=bA [.mv 0 2] fun x _=>x=(fun y=>(vI y)) r
def aXz (r:Int):Exit→St→Prop:=(dX (wkK (avc Tryz.prog aJv (aLv r))) (aLv r))
def aQo (r:Int):Exit→St→Prop:=(eB 0 (aXz r))
def aTp (y1:List UInt8) (y2:List (List UInt8)) (x5:Int):St:=⟨[(3,(vS y1)),(4,(.osl 4 9 1 (y2.map cStr))),(5,(vI x5))],[]⟩
abbrev Z8:=fun y1 y2 x5 r=>avc Tryz.prog aDp (aQo r) (aTp y1 y2 x5)
def aEp:AC:=(.cond 4 (.seq (.ops [.asg 2 (kB true)]) .ret) .skip)
def aKy:AC:=(.seq (.ops [.asg 2 (kB false)]) .ret)
def bBs:AC:=(.seq (.ops [.asg 2 (kB false)]) (.seq (.seq (.ops [.mv 3 0]) (.block 0 (.seq (.seq (.ops [.bin 5 .eql 3 (.c (.d (.s (bs [40])))),.asg 4 5]) (.cond 4 .skip (.seq (.ops [.bin 6 .eql 3 (.c (.d (.s (bs [41])))),.asg 4 6]) (.cond 4 .skip (.seq (.ops [.bin 7 .eql 3 (.c (.d (.s (bs [44])))),.asg 4 7]) (.cond 4 .skip (.seq (.ops [.bin 8 .eql 3 (.c (.d (.s (bs [46])))),.asg 4 8]) (.cond 4 .skip (.seq (.ops [.bin 9 .eql 3 (.c (.d (.s (bs [42])))),.asg 4 9]) (.cond 4 .skip (.seq (.ops [.bin 10 .eql 3 (.c (.d (.s (bs [43])))),.asg 4 10]) (.cond 4 .skip (.seq (.ops [.bin 11 .eql 3 (.c (.d (.s (bs [45])))),.asg 4 11]) (.cond 4 .skip (.seq (.ops [.bin 12 .eql 3 (.c (.d (.s (bs [47])))),.asg 4 12]) (.cond 4 .skip (.seq (.ops [.bin 13 .eql 3 (.c (.d (.s (bs [37])))),.asg 4 13]) (.cond 4 .skip (.seq (.ops [.bin 14 .eql 3 (.c (.d (.s (bs [61])))),.asg 4 14]) (.cond 4 .skip (.seq (.ops [.bin 15 .eql 3 (.c (.d (.s (bs [60,62])))),.asg 4 15]) (.cond 4 .skip (.seq (.ops [.bin 16 .eql 3 (.c (.d (.s (bs [60])))),.asg 4 16]) (.cond 4 .skip (.seq (.ops [.bin 17 .eql 3 (.c (.d (.s (bs [60,61])))),.asg 4 17]) (.cond 4 .skip (.seq (.ops [.bin 18 .eql 3 (.c (.d (.s (bs [62])))),.asg 4 18]) (.cond 4 .skip (.seq (.ops [.bin 19 .eql 3 (.c (.d (.s (bs [62,61])))),.asg 4 19]) (.cond 4 .skip (.ops [.bin 20 .eql 3 (.c (.d (.s (bs [124,124])))),.asg 4 20]))))))))))))))))))))))))))))))) aEp))) aKy))
theorem bG0:bG Tryz.prog 37=some (bBs,[.mv 0 2],21):=by kernel_rfl
def aLr (r:Bool):Exit→St→Prop:=bA [.mv 0 2] fun x _=>x=(fun y=>(vB y)) r
def aT2 (r:Bool):Exit→St→Prop:=(dX (wkK (avc Tryz.prog aKy (aLr r))) (aLr r))
def aUs (r:Bool):Exit→St→Prop:=(eB 0 (aT2 r))
def aX4 (x4:Bool):St:=⟨[(4,(vB x4))],[]⟩
abbrev aO9:=fun x4 r=>avc Tryz.prog aEp (aUs r) (aX4 x4)
def bHr:AC:=(.seq (.ops [.box 2 33 0,.asg 4 (kB false)]) (.seq (.ops [.fa 5 0 2,.ld 6 1 false 5,.bin 7 .eql 6 (kI 5),.mv 8 7,.g 8 true (.fa 9 1 2),.g 8 true (.ld 10 1 false 9),.g 8 true (.mv 11 1),.g 8 true (.bin 12 .eql 10 11),.pick 13 8 12 (kB false),.asg 4 13]) .ret))
theorem aWr:bG Tryz.prog 17=some (bHr,[.mv 0 4],14):=by kernel_rfl
def bLo (r:Bool):Exit→St→Prop:=bA [.mv 0 4] fun x _=>x=(fun y=>(vB y)) r
def bA9:AC:=(.seq (.ops [.asg 4 (kI 0)]) (.seq (.seq (.ops [.mv 5 0,.mv 6 1,.bin 7 .lss 5 6]) (.cond 7 (.seq (.ops [.mv 8 0,.asg 4 8]) .ret) .skip)) (.seq (.ops [.mv 9 1,.asg 4 9]) .ret)))
theorem bDw:bG Tryz.prog 18=some (bA9,[.mv 0 4],10):=by kernel_rfl
def bKl (r:Int):Exit→St→Prop:=bA [.mv 0 4] fun x _=>x=(fun y=>(vI y)) r
def aB9:AC:=(.seq (.ops [.mv 121 6,.bin 122 .add 121 (kI 1),.mv 123 4,.bin 124 .sub 123 (kI 1),.bin 125 .lss 122 124,.mv 126 125,.g 126 true (.mv 127 0),.g 126 true (.mv 128 6),.g 126 true (.ia 129 3 127 128),.g 126 true (.ld 130 3 true 129),.g 126 true (.call (some 131) 15 [130,(kI 17)]),.pick 132 126 131 (kB false),.mv 133 132,.g 133 true (.mv 134 0),.g 133 true (.mv 135 6),.g 133 true (.bin 136 .add 135 (kI 1)),.g 133 true (.ia 137 3 134 136),.g 133 true (.ld 138 3 true 137),.g 133 true (.call (some 139) 17 [138,(.c (.d (.s (bs [40]))))]),.pick 140 133 139 (kB false),.mv 141 140,.g 141 true (.mv 142 0),.g 141 true (.mv 143 4),.g 141 true (.bin 144 .sub 143 (kI 1)),.g 141 true (.ia 145 3 142 144),.g 141 true (.ld 146 3 true 145),.g 141 true (.call (some 147) 17 [146,(.c (.d (.s (bs [41]))))]),.pick 148 141 147 (kB false)]) (.cond 148 (.dops [[],[],[],[1,2],[3],[],[],[6],[],[8],[5,7,9],[10,4],[4,11],[0,12],[13,11,0,1,2,3,4,5,6,7,8,9,10,11,12,13]] [.mv 149 3,.mv 150 0,.mv 151 5,.slc 152 3 150 none (some 151) none,.call (some 153) 10 [152,(kI 5)],.mv 154 0,.mv 155 6,.bin 156 .add 155 (kI 2),.mv 157 4,.bin 158 .sub 157 (kI 1),.slc 159 3 154 (some 156) (some 158) none,.call (some 160) 25 [159],.bin 161 .mul 153 160,.bin 162 .add 149 161,.asg 3 162]) .skip))
def aGm:AC:=(.ops [.mv 95 7,.bin 96 .add 95 (kI 1),.asg 7 96])
def aA9:AC:=(.loop (.seq (.seq (.ops [.mv 92 7,.mv 93 4,.bin 94 .lss 92 93]) (.cond 94 .skip (.exit 2))) (.seq (.block 3 (.seq (.ops [.mv 97 0,.mv 98 7,.ia 99 3 97 98,.ld 100 3 true 99,.call (some 101) 15 [100,(kI 13)]]) (.cond 101 (.dops [[],[],[],[1,2],[3],[],[],[6],[],[5,7,8],[9,4],[4,10],[],[],[13],[12,14],[15,10],[11,16],[0,17],[18,16,0,1,2,3,4,5,6,7,8,9,10,11,12,13,14,15,16,17,18]] [.mv 102 3,.mv 103 0,.mv 104 5,.slc 105 3 103 none (some 104) none,.call (some 106) 10 [105,(kI 5)],.mv 107 0,.mv 108 6,.bin 109 .add 108 (kI 1),.mv 110 7,.slc 111 3 107 (some 109) (some 110) none,.call (some 112) 10 [111,(kI 5)],.bin 113 .mul 106 112,.mv 114 0,.mv 115 7,.bin 116 .add 115 (kI 1),.slc 117 3 114 (some 116) none none,.call (some 118) 10 [117,(kI 5)],.bin 119 .mul 113 118,.bin 120 .add 102 119,.asg 3 120]) .skip))) aGm)))
def aHh:AC:=(.seq (.seq (.ops [.mv 80 6,.mv 81 4,.bin 82 .lss 80 81,.mv 83 82,.g 83 true (.mv 84 0),.g 83 true (.mv 85 6),.g 83 true (.ia 86 3 84 85),.g 83 true (.ld 87 3 true 86),.g 83 true (.call (some 88) 15 [87,(kI 18)]),.pick 89 83 88 (kB false)]) (.cond 89 (.seq (.ops [.mv 90 6,.bin 91 .add 90 (kI 1),.asg 7 91]) (.block 2 aA9)) .skip)) aB9)
def aI0:AC:=(.seq (.ops [.mv 72 5,.asg 6 72]) (.seq (.seq (.ops [.mv 73 0,.mv 74 5,.ia 75 3 73 74,.ld 76 3 true 75,.call (some 77) 15 [76,(kI 15)]]) (.cond 77 (.ops [.mv 78 5,.bin 79 .add 78 (kI 1),.asg 6 79]) .skip)) aHh))
def aHz:AC:=(.seq (.seq (.ops [.mv 33 0,.mv 34 5,.ia 35 3 33 34,.ld 36 3 true 35,.call (some 37) 15 [36,(kI 16)],.mv 38 37,.g 38 true (.mv 39 0),.g 38 true (.mv 40 4),.g 38 true (.bin 41 .sub 40 (kI 1)),.g 38 true (.ia 42 3 39 41),.g 38 true (.ld 43 3 true 42),.g 38 true (.call (some 44) 15 [43,(kI 20)]),.pick 45 38 44 (kB false),.mv 46 45,.g 46 true (.mv 47 5),.g 46 true (.mv 48 4),.g 46 true (.bin 49 .sub 48 (kI 2)),.g 46 true (.bin 50 .eql 47 49),.g 46 true (.mv 51 50),.g 51 false (.mv 52 5),.g 51 false (.mv 53 4),.g 51 false (.bin 54 .sub 53 (kI 3)),.g 51 false (.bin 55 .eql 52 54),.g 51 false (.mv 56 55),.g 56 true (.mv 57 0),.g 56 true (.mv 58 5),.g 56 true (.bin 59 .add 58 (kI 1)),.g 56 true (.ia 60 3 57 59),.g 56 true (.ld 61 3 true 60),.g 56 true (.call (some 62) 15 [61,(kI 15)]),.g 51 false (.pick 63 56 62 (kB false)),.g 46 true (.pick 64 51 (kB true) 63),.pick 65 46 64 (kB false)]) (.cond 65 (.ops [.mv 66 3,.mv 67 0,.mv 68 5,.slc 69 3 67 none (some 68) none,.call (some 70) 10 [69,(kI 5)],.bin 71 .add 66 70,.asg 3 71]) .skip)) aI0)
def aAj:AC:=(.ops [.mv 13 5,.bin 14 .add 13 (kI 1),.asg 5 14])
def aAn:AC:=(.loop (.seq (.seq (.ops [.mv 10 5,.mv 11 4,.bin 12 .lss 10 11]) (.cond 12 .skip (.exit 0))) (.seq (.block 1 (.seq (.seq (.ops [.mv 15 0,.mv 16 5,.ia 17 3 15 16,.ld 18 3 true 17,.call (some 19) 20 [18,(kI 4)],.bin 20 .gtr 19 (kI 0)]) (.cond 20 (.dops [[],[],[],[1,2],[3],[],[],[6],[5,7],[8,4],[4,9],[0,10],[11,9,0,1,2,3,4,5,6,7,8,9,10,11]] [.mv 21 3,.mv 22 0,.mv 23 5,.slc 24 3 22 none (some 23) none,.call (some 25) 10 [24,(kI 5)],.mv 26 0,.mv 27 5,.bin 28 .add 27 (kI 1),.slc 29 3 26 (some 28) none none,.call (some 30) 10 [29,(kI 5)],.bin 31 .mul 25 30,.bin 32 .add 21 31,.asg 3 32]) .skip)) aHz)) aAj)))
def aLi:AC:=(.seq (.ops [.mv 163 3,.asg 2 163]) .ret)
def bIw:AC:=(.seq (.ops [.asg 2 (kI 0)]) (.seq (.ops [.asg 3 (kI 0)]) (.seq (.ops [.mv 8 0,.len 9 8,.asg 4 9]) (.seq (.seq (.ops [.asg 5 (kI 1)]) (.block 0 aAn)) aLi))))
theorem bIv:bG Tryz.prog 16=some (bIw,[.mv 0 2],164):=by kernel_rfl
def aQf (r:Int):Exit→St→Prop:=bA [.mv 0 2] fun x _=>x=(fun y=>(vI y)) r
def aUx (r:Int):Exit→St→Prop:=(dX (wkK (avc Tryz.prog aLi (aQf r))) (aQf r))
def aE8 (r:Int):Exit→St→Prop:=(eB 0 (aUx r))
def aEn (r:Int):Exit→St→Prop:=(dX (avc Tryz.prog aAn (aE8 r)) (aE8 r))
def bDx (r:Int):Exit→St→Prop:=(dX (wkK (avc Tryz.prog aAj (aEn r))) (aEn r))
def yU (r:Int):Exit→St→Prop:=(eB 1 (bDx r))
def bAx (r:Int):Exit→St→Prop:=(dX (wkK (avc Tryz.prog aB9 (yU r))) (yU r))
def aE4 (r:Int):Exit→St→Prop:=(eB 2 (bAx r))
def bFf (r:Int):Exit→St→Prop:=(dX (avc Tryz.prog aA9 (aE4 r)) (aE4 r))
def aVh (p0:List aB) (x3:Int) (x5:Int):St:=⟨[(0,(dF p0)),(3,(vI x3)),(4,(vI (p0.length:Int))),(5,(vI x5))],[]⟩
abbrev aAx:=fun p0 x3 x5 r=>avc Tryz.prog aAn (aE8 r) (aVh p0 x3 x5)
def aXi (p0:List aB) (x5:Int) (lZ:Int):St:=⟨[(0,(dF p0)),(3,(vI lZ)),(4,(vI (p0.length:Int))),(5,(vI x5))],[]⟩
abbrev aCt:=fun p0 x5 lZ r=>avc Tryz.prog aHz (yU r) (aXi p0 x5 lZ)
def bC1 (p0:List aB) (x5:Int) (fV:Int):St:=⟨[(0,(dF p0)),(3,(vI fV)),(4,(vI (p0.length:Int))),(5,(vI x5))],[]⟩
abbrev aCe:=fun p0 x5 fV r=>avc Tryz.prog aI0 (yU r) (bC1 p0 x5 fV)
def aUc (p0:List aB) (fV:Int) (x5:Int) (x6:Int):St:=⟨[(0,(dF p0)),(3,(vI fV)),(4,(vI (p0.length:Int))),(5,(vI x5)),(6,(vI x6))],[]⟩
abbrev Z6:=fun p0 fV x5 x6 r=>avc Tryz.prog aHh (yU r) (aUc p0 fV x5 x6)
def aOu (p0:List aB) (x5:Int) (x6:Int) (jL:Int) (x7:Int):St:=⟨[(0,(dF p0)),(3,(vI jL)),(4,(vI (p0.length:Int))),(5,(vI x5)),(6,(vI x6)),(7,(vI x7))],[]⟩
abbrev aAc:=fun p0 x5 x6 jL x7 r=>avc Tryz.prog aA9 (aE4 r) (aOu p0 x5 x6 jL x7)
def bIr (p0:List aB) (x5:Int) (x6:Int) (mE:Int):St:=⟨[(0,(dF p0)),(3,(vI mE)),(4,(vI (p0.length:Int))),(5,(vI x5)),(6,(vI x6))],[]⟩
abbrev aAk:=fun p0 x5 x6 mE r=>avc Tryz.prog aB9 (yU r) (bIr p0 x5 x6 mE)
def bG7 (p0:List aB) (x5:Int) (x6:Int) (x7:Int) (mP:Int):St:=⟨[(0,(dF p0)),(3,(vI mP)),(4,(vI (p0.length:Int))),(5,(vI x5)),(6,(vI x6)),(7,(vI x7))],[]⟩
abbrev aCs:=fun p0 x5 x6 x7 mP r=>avc Tryz.prog aGm (bFf r) (bG7 p0 x5 x6 x7 mP)
def bFt (p0:List aB) (x5:Int) (mR:Int):St:=⟨[(0,(dF p0)),(3,(vI mR)),(4,(vI (p0.length:Int))),(5,(vI x5))],[]⟩
abbrev Z4:=fun p0 x5 mR r=>avc Tryz.prog aAj (aEn r) (bFt p0 x5 mR)
def aDh:AC:=(.ops [.mv 11 4,.bin 12 .add 11 (kI 1),.asg 4 12])
def V4:AC:=(.loop (.seq (.seq (.ops [.mv 7 4,.mv 8 0,.len 9 8,.bin 10 .lss 7 9]) (.cond 10 .skip (.exit 0))) (.seq (.block 1 (.seq (.ops [.mv 13 0,.mv 14 4,.ia 15 3 13 14,.ld 16 3 true 15,.call (some 17) 17 [16,(.c (.d (.s (bs [44]))))]]) (.cond 17 (.dops [[],[],[],[1,2],[3],[],[],[6],[5,7],[8,4],[4,9],[0,10],[11,9,0,1,2,3,4,5,6,7,8,9,10,11]] [.mv 18 3,.mv 19 0,.mv 20 4,.slc 21 3 19 none (some 20) none,.call (some 22) 25 [21],.mv 23 0,.mv 24 4,.bin 25 .add 24 (kI 1),.slc 26 3 23 (some 25) none none,.call (some 27) 10 [26,(kI 1)],.bin 28 .mul 22 27,.bin 29 .add 18 28,.asg 3 29]) .skip))) aDh)))
def aJ1:AC:=(.seq (.ops [.mv 30 3,.asg 2 30]) .ret)
def bBd:AC:=(.seq (.ops [.asg 2 (kI 0)]) (.seq (.ops [.mv 5 0,.call (some 6) 10 [5,(kI 1)],.asg 3 6]) (.seq (.seq (.ops [.asg 4 (kI 1)]) (.block 0 V4)) aJ1)))
theorem aUh:bG Tryz.prog 25=some (bBd,[.mv 0 2],31):=by kernel_rfl
def aKg (r:Int):Exit→St→Prop:=bA [.mv 0 2] fun x _=>x=(fun y=>(vI y)) r
def aSz (r:Int):Exit→St→Prop:=(dX (wkK (avc Tryz.prog aJ1 (aKg r))) (aKg r))
def aFr (r:Int):Exit→St→Prop:=(eB 0 (aSz r))
def aQv (r:Int):Exit→St→Prop:=(dX (avc Tryz.prog V4 (aFr r)) (aFr r))
def bCm (p0:List aB) (x3:Int) (x4:Int):St:=⟨[(0,(dF p0)),(3,(vI x3)),(4,(vI x4))],[]⟩
abbrev aBw:=fun p0 x3 x4 r=>avc Tryz.prog V4 (aFr r) (bCm p0 x3 x4)
def bIm (p0:List aB) (x4:Int) (mZ:Int):St:=⟨[(0,(dF p0)),(3,(vI mZ)),(4,(vI x4))],[]⟩
abbrev V6:=fun p0 x4 mZ r=>avc Tryz.prog aDh (aQv r) (bIm p0 x4 mZ)
def aFq:AC:=(.loop (.seq (.seq (.ops [.mv 11 5,.mv 12 0,.len 13 12,.bin 14 .lss 11 13]) (.cond 14 .skip (.exit 0))) (.seq (.block 1 (.seq (.dops [[],[],[0,1],[2],[],[],[4,5],[6],[3,7],[8]] [.mv 17 0,.mv 18 5,.ia 19 3 17 18,.ld 20 3 true 19,.mv 21 1,.mv 22 5,.ia 23 3 21 22,.ld 24 3 true 23,.call (some 25) 14 [20,24],.not 26 25]) (.cond 26 (.seq (.ops [.asg 4 (kB false)]) .ret) .skip))) (.ops [.mv 15 5,.bin 16 .add 15 (kI 1),.asg 5 16]))))
def aKj:AC:=(.seq (.ops [.asg 4 (kB true)]) .ret)
def aXg:AC:=(.seq (.ops [.asg 4 (kB false)]) (.seq (.seq (.ops [.mv 6 0,.len 7 6,.mv 8 1,.len 9 8,.bin 10 .neq 7 9]) (.cond 10 (.seq (.ops [.asg 4 (kB false)]) .ret) .skip)) (.seq (.seq (.ops [.asg 5 (kI 0)]) (.block 0 aFq)) aKj)))
theorem bCz:bG Tryz.prog 8=some (aXg,[.mv 0 4],27):=by kernel_rfl
def aMe (r:Bool):Exit→St→Prop:=bA [.mv 0 4] fun x _=>x=(fun y=>(vB y)) r
def bC7 (r:Bool):Exit→St→Prop:=(dX (wkK (avc Tryz.prog aKj (aMe r))) (aMe r))
def aZs (r:Bool):Exit→St→Prop:=(eB 0 (bC7 r))
def bAs (p0:List aB) (p1:List aB) (x5:Int):St:=⟨[(0,(dF p0)),(1,(dF p1)),(5,(vI x5))],[]⟩
abbrev aA4:=fun p0 p1 x5 r=>avc Tryz.prog aFq (aZs r) (bAs p0 p1 x5)
def aX8:AC:=(.seq (.ops [.box 2 33 0,.box 3 33 1,.asg 4 (kB false)]) (.seq (.seq (.ops [.fa 5 0 2,.ld 6 1 false 5,.fa 7 0 3,.ld 8 1 false 7,.bin 9 .neq 6 8]) (.cond 9 (.seq (.ops [.asg 4 (kB false)]) .ret) .skip)) (.seq (.seq (.ops [.fa 10 1 2,.ld 11 1 false 10,.fa 12 1 3,.ld 13 1 false 12,.bin 14 .neq 11 13]) (.cond 14 (.seq (.ops [.asg 4 (kB false)]) .ret) .skip)) (.seq (.seq (.ops [.fa 15 2 2,.ld 16 1 false 15,.fa 17 2 3,.ld 18 1 false 17,.bin 19 .neq 16 18]) (.cond 19 (.seq (.ops [.asg 4 (kB false)]) .ret) .skip)) (.seq (.ops [.asg 4 (kB true)]) .ret)))))
theorem aT9:bG Tryz.prog 14=some (aX8,[.mv 0 4],20):=by kernel_rfl
def bJ6 (r:Bool):Exit→St→Prop:=bA [.mv 0 4] fun x _=>x=(fun y=>(vB y)) r
def aS2:AC:=(.seq (.ops [.asg 2 (kI 0)]) (.seq (.seq (.ops [.mv 5 0,.len 6 5,.bin 7 .gtr 6 (kI 9)]) (.cond 7 (.seq (.ops [.asg 2 (kI 0)]) .ret) .skip)) (.seq (.ops [.mv 9 0,.call (some 10) 12 [9],.mv 8 10,.ext 11 8 0,.ext 12 8 1,.alc 3 fO,.st 10 3 11,.asg 4 12]) (.seq (.seq (.ops [.mv 13 4,.bin 14 .geq 13 (kI 0),.mv 15 14,.g 15 false (.ld 16 10 true 3),.g 15 false (.call (some 17) 13 [16]),.pick 18 15 (kB true) 17]) (.cond 18 (.seq (.ops [.asg 2 (kI 0)]) .ret) .skip)) (.seq (.ops [.asg 2 (kI 1)]) .ret)))))
theorem aWt:bG Tryz.prog 7=some (aS2,[.mv 0 2],19):=by kernel_rfl
def bKw (r:Int):Exit→St→Prop:=bA [.mv 0 2] fun x _=>x=(fun y=>(vI y)) r
def bEr:AC:=(.seq (.ops [.box 1 40 0,.asg 2 (kB false)]) (.seq (.ops [.fa 3 9 1,.ld 4 1 false 3,.len 5 4,.bin 6 .gtr 5 (kI 0),.mv 7 6,.g 7 false (.fa 8 8 1),.g 7 false (.ld 9 1 false 8),.g 7 false (.call (some 10) 23 [9,(.c (.fn 13 []))]),.pick 11 7 (kB true) 10,.asg 2 11]) .ret))
theorem aU6:bG Tryz.prog 13=some (bEr,[.mv 0 2],12):=by kernel_rfl
def bJc (r:Bool):Exit→St→Prop:=bA [.mv 0 2] fun x _=>x=(fun y=>(vB y)) r
def bA8:AC:=(.seq (.ops [.asg 4 (kB false)]) (.seq (.ops [.mv 5 0,.mv 6 1,.call (some 7) 30 [5,6],.bin 8 .geq 7 (kI 0),.asg 4 8]) .ret))
theorem aWs:bG Tryz.prog 23=some (bA8,[.mv 0 4],9):=by kernel_rfl
def bLv (r:Bool):Exit→St→Prop:=bA [.mv 0 4] fun x _=>x=(fun y=>(vB y)) r
def aF3:AC:=(.loop (.seq (.ops [.bin 9 .lss 8 7]) (.seq (.cond 9 .skip (.exit 0)) (.seq (.block 1 (.seq (.ops [.mv 10 8,.asg 5 10]) (.seq (.ops [.mv 11 1,.mv 12 0,.mv 13 5,.ia 14 10 12 13,.ld 15 10 true 14,.callv (some 16) 11 [15]]) (.cond 16 (.seq (.ops [.mv 17 5,.asg 4 17]) .ret) .skip)))) (.ops [.bin 18 .add 8 (kI 1),.mv 8 18])))))
def aQ4:AC:=(.seq (.ops [.asg 4 (kI (-1))]) .ret)
def bHd:AC:=(.seq (.ops [.asg 4 (kI 0)]) (.seq (.seq (.ops [.mv 6 0,.len 7 6,.mv 8 (kI 0)]) (.block 0 aF3)) aQ4))
theorem bA1:bG Tryz.prog 30=some (bHd,[.mv 0 4],19):=by kernel_rfl
def aMt (r:Int):Exit→St→Prop:=bA [.mv 0 4] fun x _=>x=(fun y=>(vI y)) r
def bGf (r:Int):Exit→St→Prop:=(dX (wkK (avc Tryz.prog aQ4 (aMt r))) (aMt r))
def bIx (r:Int):Exit→St→Prop:=(eB 0 (bGf r))
def aV3 (p0:List aJ) (x8:Int):St:=⟨[(0,(xC p0)),(1,(.fn 13 [])),(7,(vI (p0.length:Int))),(8,(vI x8))],[]⟩
abbrev V3:=fun p0 x8 r=>avc Tryz.prog aF3 (bIx r) (aV3 p0 x8)
def bF4:AC:=(.seq (.ops [.alc 2 fO,.asg 3 (kI 0)]) (.seq (.ops [.mv 7 0,.bld 8 [(.nil 3),aX,fT] [(0,1,7)],.box 9 51 8,.asg 4 9]) (.seq (.ops [.mv 10 4,.call (some 11) 21 [10],.alc 5 fO,.st 10 5 11]) (.seq (.seq (.ops [.mv 12 4,.call (some 13) 22 [12],.asg 6 13]) (.seq (.ops [.mv 14 6,.bin 15 .geq 14 (kI 0)]) (.cond 15 (.seq (.ops [.bld 16 [aX,aX,fT,aX,aX,bD,bD,bD,(.nil 10),(.nil 6)] [],.mv 17 6,.st 10 2 16,.asg 3 17]) .ret) .skip))) (.seq (.ops [.ld 18 10 true 5,.st 10 2 18,.asg 3 (kI (-1))]) .ret)))))
theorem bH2:bG Tryz.prog 12=some (bF4,[.ld 0 10 true 2,.mv 0 3],19):=by kernel_rfl
def bJt (r:aJ×Int):Exit→St→Prop:=bA [.ld 0 10 true 2,.mv 0 3] fun x _=>x=(fun y=>(.tup [(bX y.1),(vI y.2)])) r
def bAr:AC:=(.seq (.ops [.alc 2 fO]) (.seq (.ops [.mv 3 0,.mv 4 0,.mkf 5 1000029 [4],.bsl 6 3 1 [(kI 1)],.call (some 7) 28 [3,5,6],.st 10 2 7]) .ret))
theorem aRt:bG Tryz.prog 21=some (bAr,[.ld 0 10 true 2],8):=by kernel_rfl
def bL1 (r:aJ×aA):Exit→St→Prop:=bA [.ld 0 10 true 2] fun x b=>x=(fun (y:aJ×aA)=>(bX y.1)) r∧bF ((fun (y:aJ×aA)=>[(1000000,aP y.2)]) r) b
def aFm:AC:=(.loop (.block 1 (.seq (.ops [.mv 11 0,.mv 12 2,.call (some 13) 41 [11,12],.asg 8 13]) (.seq (.seq (.ops [.mv 14 8,.bin 15 .eql 14 (kI 0)]) (.cond 15 (.seq (.ops [.ld 16 10 true 7,.st 10 6 16]) .ret) .skip)) (.dops [[],[],[],[2],[0,1,3,3],[4,4,0,1,2,3,4]] [.mv 17 8,.ld 18 10 true 7,.mv 19 1,.callv (some 20) 19 [],.call (some 21) 42 [17,18,20],.st 10 7 21])))))
def bIi:AC:=(.seq (.ops [.alc 6 fO]) (.seq (.ops [.mv 9 1,.callv (some 10) 9 [],.alc 7 fO,.st 10 7 10]) (.block 0 aFm)))
theorem aVt:bG Tryz.prog 28=some (bIi,[.ld 0 10 true 6],22):=by kernel_rfl
def bD7 (r:aJ×aA):Exit→St→Prop:=bA [.ld 0 10 true 6] fun x b=>x=(fun (y:aJ×aA)=>(bX y.1)) r∧bF ((fun (y:aJ×aA)=>[(1000000,aP y.2)]) r) b
def aY4 (r:aJ×aA):Exit→St→Prop:=(eB 0 (bD7 r))
def aY5 (p2:List Int) (aY:Int) (bN:Int) (bQ:Bool) (bL:Int) (bO:Int) (aR:(List UInt8)×(List UInt8)×(List UInt8)×(List aJ)×(List bU)×(List aB)×Int×Bool):St:=⟨[(0,(.ptr 1000000 0)),(1,(.fn 1000029 [(.ptr 1000000 0)])),(2,(iG p2)),(6,(.ptr 6 0)),(7,(.ptr 7 0))],[(6,[(vI 0),(vI 0),(vB false),(vI 0),(vI 0),(vS []),(vS []),(vS []),(.nil 10),(.nil 6)]),(7,jY (aJ.mk aY bN bQ (bM.mk bL bO aR.1) aR.2.1 aR.2.2.1 aR.2.2.2.1 aR.2.2.2.2.1)),(1000000,aP (aA.mk aR.2.2.2.2.2.1 aR.2.2.2.2.2.2.1 aR.2.2.2.2.2.2.2))]⟩
abbrev aAs:=fun p2 aY bN bQ bL bO aR r=>avc Tryz.prog aFm (aY4 r) (aY5 p2 aY bN bQ bL bO aR)
def bDe:AC:=(.seq (.ops [.alc 2 fO]) (.seq (.ops [.mv 3 0,.mv 4 0,.mkf 5 1000043 [4],.bsl 6 3 1 [(kI 2)],.call (some 7) 28 [3,5,6],.st 10 2 7]) .ret))
theorem bB5:bG Tryz.prog 29=some (bDe,[.ld 0 10 true 2],8):=by kernel_rfl
def bK8 (r:aJ×aA):Exit→St→Prop:=bA [.ld 0 10 true 2] fun x b=>x=(fun (y:aJ×aA)=>(bX y.1)) r∧bF ((fun (y:aJ×aA)=>[(1000000,aP y.2)]) r) b
def aEe:AC:=(.loop (.block 1 (.seq (.ops [.mv 11 0,.mv 12 2,.call (some 13) 41 [11,12],.asg 8 13]) (.seq (.seq (.ops [.mv 14 8,.bin 15 .eql 14 (kI 0)]) (.cond 15 (.seq (.ops [.ld 16 10 true 7,.st 10 6 16]) .ret) .skip)) (.dops [[],[],[],[2],[0,1,3,3],[4,4,0,1,2,3,4]] [.mv 17 8,.ld 18 10 true 7,.mv 19 1,.callv (some 20) 19 [],.call (some 21) 42 [17,18,20],.st 10 7 21])))))
def bGq:AC:=(.seq (.ops [.alc 6 fO]) (.seq (.ops [.mv 9 1,.callv (some 10) 9 [],.alc 7 fO,.st 10 7 10]) (.block 0 aEe)))
theorem aSk:bG Tryz.prog 28=some (bGq,[.ld 0 10 true 6],22):=by kernel_rfl
def bG4 (r:aJ×aA):Exit→St→Prop:=bA [.ld 0 10 true 6] fun x b=>x=(fun (y:aJ×aA)=>(bX y.1)) r∧bF ((fun (y:aJ×aA)=>[(1000000,aP y.2)]) r) b
def aVl (r:aJ×aA):Exit→St→Prop:=(eB 0 (bG4 r))
def aUk (p2:List Int) (aY:Int) (bN:Int) (bQ:Bool) (bL:Int) (bO:Int) (aR:(List UInt8)×(List UInt8)×(List UInt8)×(List aJ)×(List bU)×(List aB)×Int×Bool):St:=⟨[(0,(.ptr 1000000 0)),(1,(.fn 1000043 [(.ptr 1000000 0)])),(2,(iG p2)),(6,(.ptr 6 0)),(7,(.ptr 7 0))],[(6,[(vI 0),(vI 0),(vB false),(vI 0),(vI 0),(vS []),(vS []),(vS []),(.nil 10),(.nil 6)]),(7,jY (aJ.mk aY bN bQ (bM.mk bL bO aR.1) aR.2.1 aR.2.2.1 aR.2.2.2.1 aR.2.2.2.2.1)),(1000000,aP (aA.mk aR.2.2.2.2.2.1 aR.2.2.2.2.2.2.1 aR.2.2.2.2.2.2.2))]⟩
abbrev aD0:=fun p2 aY bN bQ bL bO aR r=>avc Tryz.prog aEe (aVl r) (aUk p2 aY bN bQ bL bO aR)
def bEy:AC:=(.seq (.ops [.alc 2 fO]) (.seq (.seq (.ops [.mv 3 0,.call (some 4) 49 [3,(.c (.d (.s (bs [78,79,84]))))]]) (.cond 4 (.seq (.ops [.mv 5 0,.call (some 6) 43 [5],.bsl 7 40 10 [6],.bld 8 [aX,aX,fT,aX,aX,bD,bD,bD,(.nil 10),(.nil 6)] [(0,1,(kI 3)),(1,1,(kI 15)),(8,1,7)],.st 10 2 8]) .ret) .skip)) (.seq (.ops [.mv 9 0,.call (some 10) 50 [9],.st 10 2 10]) .ret)))
theorem bG5:bG Tryz.prog 43=some (bEy,[.ld 0 10 true 2],11):=by kernel_rfl
def bLh (r:aJ×aA):Exit→St→Prop:=bA [.ld 0 10 true 2] fun x b=>x=(fun (y:aJ×aA)=>(bX y.1)) r∧bF ((fun (y:aJ×aA)=>[(1000000,aP y.2)]) r) b
def aV9:AC:=(.seq (.ops [.alc 2 fO]) (.seq (.ops [.mv 8 0,.call (some 9) 52 [8],.alc 3 fO,.st 10 3 9]) (.seq (.seq (.ops [.mv 10 0,.bsl 11 3 1 [(kI 3),(kI 4),(kI 5),(kI 6),(kI 7),(kI 8)],.call (some 12) 41 [10,11],.asg 4 12]) (.seq (.ops [.mv 13 4,.bin 14 .neq 13 (kI 0)]) (.cond 14 (.seq (.dops [[],[],[],[2],[0,1,3,3],[4,4,0,1,2,3,4]] [.mv 15 4,.ld 16 10 true 3,.mv 17 0,.call (some 18) 52 [17],.call (some 19) 42 [15,16,18],.st 10 2 19]) .ret) .skip))) (.seq (.seq (.ops [.mv 20 0,.call (some 21) 49 [20,(.c (.d (.s (bs [73,83]))))]]) (.cond 21 (.seq (.ops [.mv 22 0,.call (some 23) 49 [22,(.c (.d (.s (bs [78,79,84]))))],.asg 5 23]) (.seq (.ops [.mv 24 0,.call (some 25) 53 [24,(.c (.d (.s (bs [78,85,76,76]))))]]) (.seq (.ops [.mv 26 5,.ld 27 10 true 3,.bsl 28 40 10 [27],.bld 29 [aX,aX,fT,aX,aX,bD,bD,bD,(.nil 10),(.nil 6)] [(0,1,(kI 5)),(2,1,26),(8,1,28)],.st 10 2 29]) .ret))) .skip)) (.seq (.ops [.mv 30 0,.call (some 31) 49 [30,(.c (.d (.s (bs [78,79,84]))))],.asg 6 31]) (.seq (.block 0 (.seq (.ops [.mv 33 0,.call (some 34) 49 [33,(.c (.d (.s (bs [66,69,84,87,69,69,78]))))],.asg 32 34]) (.cond 32 (.seq (.ops [.mv 35 0,.call (some 36) 52 [35],.alc 7 fO,.st 10 7 36]) (.seq (.ops [.mv 37 0,.call (some 38) 53 [37,(.c (.d (.s (bs [65,78,68]))))]]) (.seq (.dops [[],[],[],[],[3],[1,2,4],[0,5],[6,4,0,1,2,3,4,5,6]] [.mv 39 6,.ld 40 10 true 3,.ld 41 10 true 7,.mv 42 0,.call (some 43) 52 [42],.bsl 44 40 10 [40,41,43],.bld 45 [aX,aX,fT,aX,aX,bD,bD,bD,(.nil 10),(.nil 6)] [(0,1,(kI 6)),(2,1,39),(8,1,44)],.st 10 2 45]) .ret))) (.seq (.ops [.mv 47 0,.call (some 48) 49 [47,(.c (.d (.s (bs [73,78]))))],.asg 46 48]) (.cond 46 (.seq (.ops [.mv 49 0,.ld 50 10 true 3,.mv 51 6,.call (some 52) 54 [49,50,51],.st 10 2 52]) .ret) .skip))))) (.seq (.ops [.mv 53 0,.mv 54 0,.nck 55 54,.fa 56 2 55,.ld 57 1 false 56,.mv 58 57,.g 58 false (.mv 59 6),.pick 60 58 (kB true) 59,.nck 61 53,.fa 62 2 61,.st 1 62 60]) (.seq (.ops [.ld 63 10 true 3,.st 10 2 63]) .ret))))))))
theorem bA3:bG Tryz.prog 50=some (aV9,[.ld 0 10 true 2],64):=by kernel_rfl
def bKg (r:aJ×aA):Exit→St→Prop:=bA [.ld 0 10 true 2] fun x b=>x=(fun (y:aJ×aA)=>(bX y.1)) r∧bF ((fun (y:aJ×aA)=>[(1000000,aP y.2)]) r) b
def aTx:AC:=(.seq (.ops [.mv 4 0,.mv 5 1,.call (some 6) 49 [4,5],.not 7 6]) (.cond 7 (.ops [.mv 8 0,.nck 9 8,.fa 10 2 9,.st 1 10 (kB true)]) .skip))
theorem aVm:bG Tryz.prog 53=some (aTx,[],11):=by kernel_rfl
def bJ9 (r:aA):Exit→St→Prop:=bA [] fun x b=>x=(fun (y:aA)=>(.tup [])) r∧bF ((fun (y:aA)=>[(1000000,aP y)]) r) b
def aE1:AC:=(.seq (.ops [.mv 17 5,.asg 4 17]) .ret)
def aYo:AC:=(.seq (.ops [.asg 4 (kB false)]) (.seq (.ops [.mv 6 0,.mv 7 1,.call (some 8) 51 [6,7],.asg 5 8]) (.seq (.seq (.ops [.mv 9 5]) (.cond 9 (.ops [.mv 10 0,.nck 11 10,.fa 12 1 11,.ld 13 1 false 12,.bin 14 .add 13 (kI 1),.nck 15 10,.fa 16 1 15,.st 1 16 14]) .skip)) aE1)))
theorem bHb:bG Tryz.prog 49=some (aYo,[.mv 0 4],18):=by kernel_rfl
def bG2 (r:Bool×aA):Exit→St→Prop:=bA [.mv 0 4] fun x b=>x=(fun (y:Bool×aA)=>(vB y.1)) r∧bF ((fun (y:Bool×aA)=>[(1000000,aP y.2)]) r) b
def bEi (y1:Bool) (p0:aA) (bP:Int):St:=⟨[(5,(vB y1))],[(1000000,aP (aA.mk p0.list bP p0.failed))]⟩
abbrev aM3:=fun y1 p0 bP r=>avc Tryz.prog aE1 (bG2 r) (bEi y1 p0 bP)
def aYa:AC:=(.seq (.ops [.asg 4 (kB false)]) (.seq (.ops [.mv 5 0,.mv 6 1,.call (some 7) 47 [5,(kI 0),(kI 1),6],.asg 4 7]) .ret))
theorem aYu:bG Tryz.prog 51=some (aYa,[.mv 0 4],8):=by kernel_rfl
def bK4 (p0:aA) (r:Bool):Exit→St→Prop:=bA [.mv 0 4] fun x b=>x=(fun (y:Bool)=>(vB y)) r∧bF ((fun (y:Bool)=>[(1000000,aP p0)]) r) b
def bCq:AC:=(.seq (.ops [.asg 8 (kB false)]) (.seq (.ops [.mv 10 0,.nck 11 10,.fa 12 1 11,.ld 13 1 false 12,.mv 14 1,.bin 15 .add 13 14,.asg 9 15]) (.seq (.ops [.mv 16 0,.nck 17 16,.fa 18 2 17,.ld 19 1 false 18,.not 20 19,.mv 21 20,.g 21 true (.mv 22 9),.g 21 true (.mv 23 0),.g 21 true (.nck 24 23),.g 21 true (.fa 25 0 24),.g 21 true (.ld 26 1 false 25),.g 21 true (.len 27 26),.g 21 true (.bin 28 .lss 22 27),.pick 29 21 28 (kB false),.mv 30 29,.g 30 true (.mv 31 0),.g 30 true (.nck 32 31),.g 30 true (.fa 33 0 32),.g 30 true (.ld 34 1 false 33),.g 30 true (.mv 35 9),.g 30 true (.ia 36 3 34 35),.g 30 true (.fa 37 0 36),.g 30 true (.ld 38 1 false 37),.g 30 true (.mv 39 2),.g 30 true (.bin 40 .eql 38 39),.pick 41 30 40 (kB false),.mv 42 41,.g 42 true (.mv 43 0),.g 42 true (.nck 44 43),.g 42 true (.fa 45 0 44),.g 42 true (.ld 46 1 false 45),.g 42 true (.mv 47 9),.g 42 true (.ia 48 3 46 47),.g 42 true (.fa 49 1 48),.g 42 true (.ld 50 1 false 49),.g 42 true (.mv 51 3),.g 42 true (.bin 52 .eql 50 51),.pick 53 42 52 (kB false),.asg 8 53]) .ret)))
theorem bH9:bG Tryz.prog 47=some (bCq,[.mv 0 8],54):=by kernel_rfl
def bK5 (p0:aA) (r:Bool):Exit→St→Prop:=bA [.mv 0 8] fun x b=>x=(fun (y:Bool)=>(vB y)) r∧bF ((fun (y:Bool)=>[(1000000,aP p0)]) r) b
def aHn:AC:=(.seq (.ops [.mv 20 0,.mv 21 7,.mv 22 6,.call (some 23) 48 [22],.call (some 24) 47 [20,(kI 0),21,23]]) (.cond 24 (.seq (.ops [.mv 25 0,.nck 26 25,.fa 27 1 26,.ld 28 1 false 27,.bin 29 .add 28 (kI 1),.nck 30 25,.fa 31 1 30,.st 1 31 29]) (.seq (.ops [.mv 32 6,.asg 4 32]) .ret)) .skip))
def aJa:AC:=(.ops [.bin 33 .add 10 (kI 1),.mv 10 33])
def U2:AC:=(.loop (.seq (.ops [.bin 11 .lss 10 9]) (.seq (.cond 11 .skip (.exit 0)) (.seq (.block 1 (.seq (.ops [.ia 12 1 8 10,.ld 13 1 false 12,.asg 6 13]) (.seq (.ops [.asg 7 (kI 5)]) (.seq (.seq (.ops [.mv 14 6,.bin 15 .eql 14 (kI 1),.mv 16 15,.g 16 false (.mv 17 6),.g 16 false (.bin 18 .eql 17 (kI 2)),.pick 19 16 (kB true) 18]) (.cond 19 (.ops [.asg 7 (kI 1)]) .skip)) aHn)))) aJa))))
def aJ9:AC:=(.seq (.ops [.asg 4 (kI 0)]) .ret)
def aTv:AC:=(.seq (.ops [.asg 4 (kI 0)]) (.seq (.seq (.ops [.mv 8 1,.len 9 8,.mv 10 (kI 0)]) (.block 0 U2)) aJ9))
theorem aR7:bG Tryz.prog 41=some (aTv,[.mv 0 4],34):=by kernel_rfl
def aLk (r:Int×aA):Exit→St→Prop:=bA [.mv 0 4] fun x b=>x=(fun (y:Int×aA)=>(vI y.1)) r∧bF ((fun (y:Int×aA)=>[(1000000,aP y.2)]) r) b
def aYm (r:Int×aA):Exit→St→Prop:=(dX (wkK (avc Tryz.prog aJ9 (aLk r))) (aLk r))
def aEj (r:Int×aA):Exit→St→Prop:=(eB 0 (aYm r))
def aPh (r:Int×aA):Exit→St→Prop:=(dX (avc Tryz.prog U2 (aEj r)) (aEj r))
def bB6 (r:Int×aA):Exit→St→Prop:=(dX (wkK (avc Tryz.prog aJa (aPh r))) (aPh r))
def bAn (r:Int×aA):Exit→St→Prop:=(eB 1 (bB6 r))
def aU7 (p1:List Int) (p0:aA) (x10:Int):St:=⟨[(0,(.ptr 1000000 0)),(8,(iG p1)),(9,(vI (p1.length:Int))),(10,(vI x10))],[(1000000,aP p0)]⟩
abbrev aBp:=fun p1 p0 x10 r=>avc Tryz.prog U2 (aEj r) (aU7 p1 p0 x10)
def aZi (y1:Int) (p1:List Int) (x10:Int) (p0:aA) (x7:Int):St:=⟨[(0,(.ptr 1000000 0)),(6,(vI y1)),(7,(vI x7)),(8,(iG p1)),(9,(vI (p1.length:Int))),(10,(vI x10))],[(1000000,aP p0)]⟩
abbrev aAa:=fun y1 p1 x10 p0 x7 r=>avc Tryz.prog aHn (bAn r) (aZi y1 p1 x10 p0 x7)
def bCp:AC:=(.seq (.ops [.asg 2 (.c (.d (.s (bs []))))]) (.seq (.seq (.ops [.mv 3 0,.bin 4 .lss 3 (kI 1),.mv 5 4,.g 5 false (.mv 6 0),.g 5 false (.bin 7 .gtr 6 (kI 16)),.pick 8 5 (kB true) 7]) (.cond 8 (.seq (.ops [.asg 2 (.c (.d (.s (bs []))))]) .ret) .skip)) (.seq (.ops [.bsl 9 9 1 [(.c (.d (.s (bs [79,82])))),(.c (.d (.s (bs [65,78,68])))),(.c (.d (.s (bs [61])))),(.c (.d (.s (bs [60,62])))),(.c (.d (.s (bs [60])))),(.c (.d (.s (bs [60,61])))),(.c (.d (.s (bs [62])))),(.c (.d (.s (bs [62,61])))),(.c (.d (.s (bs [124,124])))),(.c (.d (.s (bs [43])))),(.c (.d (.s (bs [45])))),(.c (.d (.s (bs [42])))),(.c (.d (.s (bs [47])))),(.c (.d (.s (bs [37])))),(.c (.d (.s (bs [78,79,84])))),(.c (.d (.s (bs [45]))))],.mv 10 0,.bin 11 .sub 10 (kI 1),.ia 12 1 9 11,.ld 13 1 false 12,.asg 2 13]) .ret)))
theorem bF5:bG Tryz.prog 48=some (bCp,[.mv 0 2],14):=by kernel_rfl
def bJa (r:List UInt8):Exit→St→Prop:=bA [.mv 0 2] fun x _=>x=(fun y=>(vS y)) r
def aYs:AC:=(.seq (.ops [.alc 2 fO]) (.seq (.ops [.mv 3 0,.mv 4 0,.mkf 5 1000055 [4],.bsl 6 3 1 [(kI 9)],.call (some 7) 28 [3,5,6],.st 10 2 7]) .ret))
theorem aSd:bG Tryz.prog 52=some (aYs,[.ld 0 10 true 2],8):=by kernel_rfl
def bKk (r:aJ×aA):Exit→St→Prop:=bA [.ld 0 10 true 2] fun x b=>x=(fun (y:aJ×aA)=>(bX y.1)) r∧bF ((fun (y:aJ×aA)=>[(1000000,aP y.2)]) r) b
def aE0:AC:=(.loop (.block 1 (.seq (.ops [.mv 11 0,.mv 12 2,.call (some 13) 41 [11,12],.asg 8 13]) (.seq (.seq (.ops [.mv 14 8,.bin 15 .eql 14 (kI 0)]) (.cond 15 (.seq (.ops [.ld 16 10 true 7,.st 10 6 16]) .ret) .skip)) (.dops [[],[],[],[2],[0,1,3,3],[4,4,0,1,2,3,4]] [.mv 17 8,.ld 18 10 true 7,.mv 19 1,.callv (some 20) 19 [],.call (some 21) 42 [17,18,20],.st 10 7 21])))))
def aR1:AC:=(.seq (.ops [.alc 6 fO]) (.seq (.ops [.mv 9 1,.callv (some 10) 9 [],.alc 7 fO,.st 10 7 10]) (.block 0 aE0)))
theorem bEg:bG Tryz.prog 28=some (aR1,[.ld 0 10 true 6],22):=by kernel_rfl
def bHz (r:aJ×aA):Exit→St→Prop:=bA [.ld 0 10 true 6] fun x b=>x=(fun (y:aJ×aA)=>(bX y.1)) r∧bF ((fun (y:aJ×aA)=>[(1000000,aP y.2)]) r) b
def aT7 (r:aJ×aA):Exit→St→Prop:=(eB 0 (bHz r))
def bFn (p2:List Int) (aY:Int) (bN:Int) (bQ:Bool) (bL:Int) (bO:Int) (aR:(List UInt8)×(List UInt8)×(List UInt8)×(List aJ)×(List bU)×(List aB)×Int×Bool):St:=⟨[(0,(.ptr 1000000 0)),(1,(.fn 1000055 [(.ptr 1000000 0)])),(2,(iG p2)),(6,(.ptr 6 0)),(7,(.ptr 7 0))],[(6,[(vI 0),(vI 0),(vB false),(vI 0),(vI 0),(vS []),(vS []),(vS []),(.nil 10),(.nil 6)]),(7,jY (aJ.mk aY bN bQ (bM.mk bL bO aR.1) aR.2.1 aR.2.2.1 aR.2.2.2.1 aR.2.2.2.2.1)),(1000000,aP (aA.mk aR.2.2.2.2.2.1 aR.2.2.2.2.2.2.1 aR.2.2.2.2.2.2.2))]⟩
abbrev aCk:=fun p2 aY bN bQ bL bO aR r=>avc Tryz.prog aE0 (aT7 r) (bFn p2 aY bN bQ bL bO aR)
def aSg:AC:=(.seq (.ops [.box 4 40 1,.box 5 40 2,.alc 6 fO]) (.seq (.ops [.mv 7 0,.ld 8 10 true 4,.ld 9 10 true 5,.bsl 10 40 10 [8,9],.bld 11 [aX,aX,fT,aX,aX,bD,bD,bD,(.nil 10),(.nil 6)] [(0,1,(kI 4)),(1,1,7),(8,1,10)],.st 10 6 11]) .ret))
theorem aXl:bG Tryz.prog 42=some (aSg,[.ld 0 10 true 6],12):=by kernel_rfl
def bKp (r:aJ):Exit→St→Prop:=bA [.ld 0 10 true 6] fun x _=>x=(fun y=>(bX y)) r
def aRr:AC:=(.seq (.ops [.alc 2 fO]) (.seq (.ops [.mv 3 0,.mv 4 0,.mkf 5 1000059 [4],.bsl 6 3 1 [(kI 10),(kI 11)],.call (some 7) 28 [3,5,6],.st 10 2 7]) .ret))
theorem bCd:bG Tryz.prog 55=some (aRr,[.ld 0 10 true 2],8):=by kernel_rfl
def bKq (r:aJ×aA):Exit→St→Prop:=bA [.ld 0 10 true 2] fun x b=>x=(fun (y:aJ×aA)=>(bX y.1)) r∧bF ((fun (y:aJ×aA)=>[(1000000,aP y.2)]) r) b
def aGr:AC:=(.loop (.block 1 (.seq (.ops [.mv 11 0,.mv 12 2,.call (some 13) 41 [11,12],.asg 8 13]) (.seq (.seq (.ops [.mv 14 8,.bin 15 .eql 14 (kI 0)]) (.cond 15 (.seq (.ops [.ld 16 10 true 7,.st 10 6 16]) .ret) .skip)) (.dops [[],[],[],[2],[0,1,3,3],[4,4,0,1,2,3,4]] [.mv 17 8,.ld 18 10 true 7,.mv 19 1,.callv (some 20) 19 [],.call (some 21) 42 [17,18,20],.st 10 7 21])))))
def bF1:AC:=(.seq (.ops [.alc 6 fO]) (.seq (.ops [.mv 9 1,.callv (some 10) 9 [],.alc 7 fO,.st 10 7 10]) (.block 0 aGr)))
theorem bDs:bG Tryz.prog 28=some (bF1,[.ld 0 10 true 6],22):=by kernel_rfl
def aTa (r:aJ×aA):Exit→St→Prop:=bA [.ld 0 10 true 6] fun x b=>x=(fun (y:aJ×aA)=>(bX y.1)) r∧bF ((fun (y:aJ×aA)=>[(1000000,aP y.2)]) r) b
def aQm (r:aJ×aA):Exit→St→Prop:=(eB 0 (aTa r))
def aYf (p2:List Int) (aY:Int) (bN:Int) (bQ:Bool) (bL:Int) (bO:Int) (aR:(List UInt8)×(List UInt8)×(List UInt8)×(List aJ)×(List bU)×(List aB)×Int×Bool):St:=⟨[(0,(.ptr 1000000 0)),(1,(.fn 1000059 [(.ptr 1000000 0)])),(2,(iG p2)),(6,(.ptr 6 0)),(7,(.ptr 7 0))],[(6,[(vI 0),(vI 0),(vB false),(vI 0),(vI 0),(vS []),(vS []),(vS []),(.nil 10),(.nil 6)]),(7,jY (aJ.mk aY bN bQ (bM.mk bL bO aR.1) aR.2.1 aR.2.2.1 aR.2.2.2.1 aR.2.2.2.2.1)),(1000000,aP (aA.mk aR.2.2.2.2.2.1 aR.2.2.2.2.2.2.1 aR.2.2.2.2.2.2.2))]⟩
abbrev V8:=fun p2 aY bN bQ bL bO aR r=>avc Tryz.prog aGr (aQm r) (aYf p2 aY bN bQ bL bO aR)
def aWo:AC:=(.seq (.ops [.alc 2 fO]) (.seq (.ops [.mv 3 0,.mv 4 0,.mkf 5 1000066 [4],.bsl 6 3 1 [(kI 12),(kI 13),(kI 14)],.call (some 7) 28 [3,5,6],.st 10 2 7]) .ret))
theorem aR0:bG Tryz.prog 59=some (aWo,[.ld 0 10 true 2],8):=by kernel_rfl
def bLg (r:aJ×aA):Exit→St→Prop:=bA [.ld 0 10 true 2] fun x b=>x=(fun (y:aJ×aA)=>(bX y.1)) r∧bF ((fun (y:aJ×aA)=>[(1000000,aP y.2)]) r) b
def aEq:AC:=(.loop (.block 1 (.seq (.ops [.mv 11 0,.mv 12 2,.call (some 13) 41 [11,12],.asg 8 13]) (.seq (.seq (.ops [.mv 14 8,.bin 15 .eql 14 (kI 0)]) (.cond 15 (.seq (.ops [.ld 16 10 true 7,.st 10 6 16]) .ret) .skip)) (.dops [[],[],[],[2],[0,1,3,3],[4,4,0,1,2,3,4]] [.mv 17 8,.ld 18 10 true 7,.mv 19 1,.callv (some 20) 19 [],.call (some 21) 42 [17,18,20],.st 10 7 21])))))
def bB4:AC:=(.seq (.ops [.alc 6 fO]) (.seq (.ops [.mv 9 1,.callv (some 10) 9 [],.alc 7 fO,.st 10 7 10]) (.block 0 aEq)))
theorem bI2:bG Tryz.prog 28=some (bB4,[.ld 0 10 true 6],22):=by kernel_rfl
def bGm (r:aJ×aA):Exit→St→Prop:=bA [.ld 0 10 true 6] fun x b=>x=(fun (y:aJ×aA)=>(bX y.1)) r∧bF ((fun (y:aJ×aA)=>[(1000000,aP y.2)]) r) b
def aT5 (r:aJ×aA):Exit→St→Prop:=(eB 0 (bGm r))
def aTf (p2:List Int) (aY:Int) (bN:Int) (bQ:Bool) (bL:Int) (bO:Int) (aR:(List UInt8)×(List UInt8)×(List UInt8)×(List aJ)×(List bU)×(List aB)×Int×Bool):St:=⟨[(0,(.ptr 1000000 0)),(1,(.fn 1000066 [(.ptr 1000000 0)])),(2,(iG p2)),(6,(.ptr 6 0)),(7,(.ptr 7 0))],[(6,[(vI 0),(vI 0),(vB false),(vI 0),(vI 0),(vS []),(vS []),(vS []),(.nil 10),(.nil 6)]),(7,jY (aJ.mk aY bN bQ (bM.mk bL bO aR.1) aR.2.1 aR.2.2.1 aR.2.2.2.1 aR.2.2.2.2.1)),(1000000,aP (aA.mk aR.2.2.2.2.2.1 aR.2.2.2.2.2.2.1 aR.2.2.2.2.2.2.2))]⟩
abbrev aBa:=fun p2 aY bN bQ bL bO aR r=>avc Tryz.prog aEq (aT5 r) (aTf p2 aY bN bQ bL bO aR)
def aSl:AC:=(.seq (.ops [.alc 2 fO]) (.seq (.seq (.ops [.mv 3 0,.call (some 4) 60 [3,(.c (.d (.s (bs [45]))))]]) (.cond 4 (.seq (.ops [.mv 5 0,.call (some 6) 66 [5],.bsl 7 40 10 [6],.bld 8 [aX,aX,fT,aX,aX,bD,bD,bD,(.nil 10),(.nil 6)] [(0,1,(kI 3)),(1,1,(kI 16)),(8,1,7)],.st 10 2 8]) .ret) .skip)) (.seq (.ops [.mv 9 0,.call (some 10) 73 [9],.st 10 2 10]) .ret)))
theorem bBl:bG Tryz.prog 66=some (aSl,[.ld 0 10 true 2],11):=by kernel_rfl
def bKr (r:aJ×aA):Exit→St→Prop:=bA [.ld 0 10 true 2] fun x b=>x=(fun (y:aJ×aA)=>(bX y.1)) r∧bF ((fun (y:aJ×aA)=>[(1000000,aP y.2)]) r) b
def aUr:AC:=(.seq (.ops [.alc 2 fO]) (.seq (.block 0 (.seq (.ops [.mv 7 0,.call (some 8) 68 [7,(kI 3)],.asg 6 8]) (.cond 6 (.seq (.ops [.mv 9 0,.call (some 10) 65 [9],.call (some 11) 78 [10],.call (some 12) 77 [11],.st 10 2 12]) .ret) (.seq (.ops [.mv 14 0,.call (some 15) 68 [14,(kI 4)],.asg 13 15]) (.cond 13 (.seq (.ops [.mv 16 0,.call (some 17) 69 [16,(kI 4)],.call (some 18) 79 [17],.call (some 19) 77 [18],.st 10 2 19]) .ret) (.seq (.ops [.mv 21 0,.call (some 22) 49 [21,(.c (.d (.s (bs [78,85,76,76]))))],.asg 20 22]) (.cond 20 (.seq (.ops [.bld 23 [aX,aX,bD] [],.call (some 24) 77 [23],.st 10 2 24]) .ret) (.seq (.ops [.mv 26 0,.call (some 27) 49 [26,(.c (.d (.s (bs [84,82,85,69]))))],.asg 25 27]) (.cond 25 (.seq (.ops [.call (some 28) 80 [(kB true)],.call (some 29) 77 [28],.st 10 2 29]) .ret) (.seq (.ops [.mv 31 0,.call (some 32) 49 [31,(.c (.d (.s (bs [70,65,76,83,69]))))],.asg 30 32]) (.cond 30 (.seq (.ops [.call (some 33) 80 [(kB false)],.call (some 34) 77 [33],.st 10 2 34]) .ret) (.seq (.ops [.mv 36 0,.call (some 37) 68 [36,(kI 2)],.asg 35 37]) (.cond 35 (.seq (.ops [.mv 38 0,.call (some 39) 69 [38,(kI 2)],.asg 3 39]) (.seq (.seq (.ops [.mv 40 0,.call (some 41) 60 [40,(.c (.d (.s (bs [46]))))]]) (.cond 41 (.seq (.ops [.mv 42 3,.mv 43 0,.call (some 44) 69 [43,(kI 2)],.bld 45 [aX,aX,fT,aX,aX,bD,bD,bD,(.nil 10),(.nil 6)] [(0,1,(kI 2)),(6,1,42),(7,1,44)],.st 10 2 45]) .ret) .skip)) (.seq (.ops [.mv 46 3,.bld 47 [aX,aX,fT,aX,aX,bD,bD,bD,(.nil 10),(.nil 6)] [(0,1,(kI 2)),(7,1,46)],.st 10 2 47]) .ret))) (.seq (.ops [.mv 49 0,.call (some 50) 60 [49,(.c (.d (.s (bs [40]))))],.asg 48 50]) (.cond 48 (.seq (.ops [.mv 51 0,.call (some 52) 21 [51],.alc 4 fO,.st 10 4 52]) (.seq (.ops [.mv 53 0,.call (some 54) 56 [53,(.c (.d (.s (bs [41]))))]]) (.seq (.ops [.ld 55 10 true 4,.st 10 2 55]) .ret))) (.seq (.ops [.mv 57 0,.call (some 58) 49 [57,(.c (.d (.s (bs [69,88,73,83,84,83]))))],.asg 56 58]) (.cond 56 (.seq (.ops [.mv 59 0,.call (some 60) 56 [59,(.c (.d (.s (bs [40]))))]]) (.seq (.ops [.mv 61 0,.call (some 62) 57 [61],.alc 5 aFv,.st 6 5 62]) (.seq (.ops [.mv 63 0,.call (some 64) 56 [63,(.c (.d (.s (bs [41]))))]]) (.seq (.ops [.ld 65 6 true 5,.bsl 66 86 6 [65],.bld 67 [aX,aX,fT,aX,aX,bD,bD,bD,(.nil 10),(.nil 6)] [(0,1,(kI 9)),(9,1,66)],.st 10 2 67]) .ret)))) .skip))))))))))))))))) (.seq (.ops [.mv 68 0,.nck 69 68,.fa 70 2 69,.st 1 70 (kB true)]) (.seq (.ops [.bld 71 [aX,aX,fT,aX,aX,bD,bD,bD,(.nil 10),(.nil 6)] [],.st 10 2 71]) .ret))))
theorem bDi:bG Tryz.prog 73=some (aUr,[.ld 0 10 true 2],72):=by kernel_rfl
def bJb (r:aJ×aA):Exit→St→Prop:=bA [.ld 0 10 true 2] fun x b=>x=(fun (y:aJ×aA)=>(bX y.1)) r∧bF ((fun (y:aJ×aA)=>[(1000000,aP y.2)]) r) b
def bDz:AC:=(.seq (.ops [.box 1 36 0,.alc 2 fO]) (.seq (.ops [.ld 3 3 true 1,.bld 4 [aX,aX,fT,aX,aX,bD,bD,bD,(.nil 10),(.nil 6)] [(0,1,(kI 1)),(3,3,3)],.st 10 2 4]) .ret))
theorem aXb:bG Tryz.prog 77=some (bDz,[.ld 0 10 true 2],5):=by kernel_rfl
def bKv (r:aJ):Exit→St→Prop:=bA [.ld 0 10 true 2] fun x _=>x=(fun y=>(bX y)) r
def bGg:AC:=(.seq (.ops [.asg 4 (.c (.d (.s (bs []))))]) (.seq (.seq (.ops [.mv 5 0,.mv 6 1,.call (some 7) 68 [5,6],.not 8 7]) (.cond 8 (.seq (.ops [.mv 9 0,.nck 10 9,.fa 11 2 10,.st 1 11 (kB true)]) (.seq (.ops [.asg 4 (.c (.d (.s (bs []))))]) .ret)) .skip)) (.seq (.ops [.mv 12 0,.nck 13 12,.fa 14 1 13,.ld 15 1 false 14,.bin 16 .add 15 (kI 1),.nck 17 12,.fa 18 1 17,.st 1 18 16]) (.seq (.dops [[],[0],[1],[2],[],[4],[5],[6],[7],[3,8],[9],[10],[11,0,1,2,3,4,5,6,7,8,9,10,11]] [.mv 19 0,.nck 20 19,.fa 21 0 20,.ld 22 1 false 21,.mv 23 0,.nck 24 23,.fa 25 1 24,.ld 26 1 false 25,.bin 27 .sub 26 (kI 1),.ia 28 3 22 27,.fa 29 1 28,.ld 30 1 false 29,.asg 4 30]) .ret))))
theorem bDu:bG Tryz.prog 69=some (bGg,[.mv 0 4],31):=by kernel_rfl
def bLu (r:(List UInt8)×aA):Exit→St→Prop:=bA [.mv 0 4] fun x b=>x=(fun (y:(List UInt8)×aA)=>(vS y.1)) r∧bF ((fun (y:(List UInt8)×aA)=>[(1000000,aP y.2)]) r) b
def aXj:AC:=(.seq (.ops [.asg 4 (kB false)]) (.seq (.dops [[],[0],[1],[2],[3],[4],[5],[6,5],[7,5],[8,5],[5],[10,5],[11,5],[12,5],[13,5],[9,14,5],[5,15],[16,5],[17],[18,17],[19,17],[20,17],[17],[22,17],[23,17],[24,17],[21,25,17],[26,17],[27,17],[17],[28,29,17],[17,30],[31,17],[32],[33,32],[34,32],[35,32],[32],[37,32],[38,32],[39,32],[36,40,32],[41,32],[42,32,32],[32,43],[44,43,0,1,2,3,4,5,6,7,8,9,10,11,12,13,14,15,16,17,18,19,20,21,22,23,24,25,26,27,28,29,30,31,32,33,34,35,36,37,38,39,40,41,42,43,44]] [.mv 5 0,.nck 6 5,.fa 7 2 6,.ld 8 1 false 7,.not 9 8,.mv 10 9,.g 10 true (.mv 11 0),.g 10 true (.nck 12 11),.g 10 true (.fa 13 1 12),.g 10 true (.ld 14 1 false 13),.g 10 true (.mv 15 0),.g 10 true (.nck 16 15),.g 10 true (.fa 17 0 16),.g 10 true (.ld 18 1 false 17),.g 10 true (.len 19 18),.g 10 true (.bin 20 .lss 14 19),.pick 21 10 20 (kB false),.mv 22 21,.g 22 true (.mv 23 0),.g 22 true (.nck 24 23),.g 22 true (.fa 25 0 24),.g 22 true (.ld 26 1 false 25),.g 22 true (.mv 27 0),.g 22 true (.nck 28 27),.g 22 true (.fa 29 1 28),.g 22 true (.ld 30 1 false 29),.g 22 true (.ia 31 3 26 30),.g 22 true (.fa 32 0 31),.g 22 true (.ld 33 1 false 32),.g 22 true (.mv 34 1),.g 22 true (.bin 35 .eql 33 34),.pick 36 22 35 (kB false),.mv 37 36,.g 37 true (.mv 38 0),.g 37 true (.nck 39 38),.g 37 true (.fa 40 0 39),.g 37 true (.ld 41 1 false 40),.g 37 true (.mv 42 0),.g 37 true (.nck 43 42),.g 37 true (.fa 44 1 43),.g 37 true (.ld 45 1 false 44),.g 37 true (.ia 46 3 41 45),.g 37 true (.ld 47 3 true 46),.g 37 true (.call (some 48) 74 [47]),.pick 49 37 48 (kB false),.asg 4 49]) .ret))
theorem aWz:bG Tryz.prog 68=some (aXj,[.mv 0 4],50):=by kernel_rfl
def bJ4 (p0:aA) (r:Bool):Exit→St→Prop:=bA [.mv 0 4] fun x b=>x=(fun (y:Bool)=>(vB y)) r∧bF ((fun (y:Bool)=>[(1000000,aP p0)]) r) b
def aRp:AC:=(.seq (.ops [.box 1 33 0,.asg 2 (kB false)]) (.seq (.seq (.ops [.fa 5 0 1,.ld 6 1 false 5]) (.block 0 (.seq (.ops [.bin 8 .eql 6 (kI 1),.asg 7 8]) (.cond 7 (.seq (.dops [[],[0],[1],[2],[3,2],[4],[5,4],[6,4,4],[4],[8,4],[7,9,4],[4,10],[11,7,0,1,2,3,4,5,6,7,8,9,10,11]] [.fa 9 1 1,.ld 10 1 false 9,.call (some 11) 81 [10],.bin 12 .neq 11 (kI 0),.mv 13 12,.g 13 true (.fa 14 1 1),.g 13 true (.ld 15 1 false 14),.g 13 true (.call (some 16) 82 [15]),.g 13 true (.fa 17 1 1),.g 13 true (.ld 18 1 false 17),.g 13 true (.bin 19 .eql 16 18),.pick 20 13 19 (kB false),.asg 2 20]) .ret) (.seq (.ops [.bin 22 .eql 6 (kI 2),.asg 21 22]) (.cond 21 (.seq (.ops [.fa 23 1 1,.ld 24 1 false 23,.call (some 25) 83 [24],.asg 2 25]) .ret) (.seq (.ops [.bin 27 .eql 6 (kI 3),.asg 26 27]) (.cond 26 (.seq (.ops [.fa 29 1 1,.ld 30 1 false 29,.call (some 31) 72 [30],.mv 28 31,.ext 32 28 0,.ext 33 28 1,.asg 3 32,.asg 4 33]) (.seq (.ops [.mv 34 4,.asg 2 34]) .ret)) (.seq (.ops [.bin 36 .eql 6 (kI 4),.asg 35 36]) (.cond 35 (.seq (.ops [.fa 37 1 1,.ld 38 1 false 37,.lns 39 38,.bin 40 .leq 39 (kI 40),.asg 2 40]) .ret) (.seq (.ops [.bin 42 .eql 6 (kI 5),.asg 41 42]) (.cond 41 (.seq (.ops [.fa 43 1 1,.ld 44 1 false 43,.call (some 45) 84 [44],.asg 2 45]) .ret) .skip)))))))))))) (.seq (.ops [.asg 2 (kB false)]) .ret)))
theorem bGc:bG Tryz.prog 74=some (aRp,[.mv 0 2],46):=by kernel_rfl
def bJr (r:Bool):Exit→St→Prop:=bA [.mv 0 2] fun x _=>x=(fun y=>(vB y)) r
set_option maxHeartbeats 2000000 in
set_option maxRecDepth 100000 in
theorem aNe (n : Int) (h0 : -9223372036854775808 ≤ n) (h1 : n ≤ 9223372036854775807) (w : World) (hv : uT 0 1 2 w) :
    Calls Tryz.prog 76 #[.int .i64 n] w fun e w'=>e=.returned (.string ⟨(Lib.itoa n).toArray⟩)∧iR w w':=by
  go_enter Tryz.func76,Tryz.ntmps76
  go_wp2_with (go_at_call 87; refine (aRi (g15:=0) (g16:=1) sh171 n h0 h1 _ hv).mono ?_; rintro e w' ⟨rfl,hw⟩)
  go_ret
  exact ⟨rfl,hw⟩
set_option maxHeartbeats 4000000 in
set_option maxRecDepth 100000 in
theorem bIg:aE2 Tryz.prog 72 0 1 2:=by
  intro s w hs hv
  by_cases hok:∃ v,Lib.atoiAll s.data.toList=.ok v
  · obtain ⟨v,hc⟩:=hok
    have hb:=Lib.atoiAll_bounds hc
    by_cases hneg:v<0
    · have hr:iA s.data.toList=(0,false):=by unfold iA; rw [hc]; simp only; rw [if_pos hneg]
      rw [hr]
      go_enter Tryz.func72,Tryz.ntmps72
      go_wp2_with (go_at_call 75; refine (aHy sh172 s hs v hc _).mono ?_; rintro e w' ⟨rfl,hw⟩)
      go_ret2
      exact ⟨rfl,hw⟩
    · by_cases he:Lib.itoa v=s.data.toList
      · have hr:iA s.data.toList=(v,true):=by unfold iA; rw [hc]; simp only; rw [if_neg hneg,if_pos he]
        have hes:(⟨(Lib.itoa v).toArray⟩:ByteArray)=s:=by rw [he]
        rw [hr]
        go_enter Tryz.func72,Tryz.ntmps72
        go_wp2_with (go_at_call 75; refine (aHy sh172 s hs v hc _).mono ?_; rintro e w' ⟨rfl,hw⟩)
        go_wp2_with (go_at_call 76; refine (aNe v hb.1 hb.2 _ (hv.grow hw)).mono ?_; rintro e w2 ⟨rfl,hw2⟩; rw [hes])
        go_ret2
        exact ⟨rfl,hw.trans hw2⟩
      · have hr:iA s.data.toList=(0,false):=by unfold iA; rw [hc]; simp only; rw [if_neg hneg,if_neg he]
        have hne:(⟨(Lib.itoa v).toArray⟩:ByteArray)≠s:=fun e=>he (by rw [← e])
        rw [hr]
        generalize hz:(⟨(Lib.itoa v).toArray⟩:ByteArray)=z at hne
        go_enter Tryz.func72,Tryz.ntmps72
        go_wp2_with (go_at_call 75; refine (aHy sh172 s hs v hc _).mono ?_; rintro e w' ⟨rfl,hw⟩)
        go_wp2_with (go_at_call 76; refine (aNe v hb.1 hb.2 _ (hv.grow hw)).mono ?_; rintro e w2 ⟨rfl,hw2⟩; rw [hz])
        · go_ret2
          exact ⟨rfl,hw.trans hw2⟩
        · rename_i hh
          have h2:z.data.toList=s.data.toList:=by
            have:=hh.2
            rw [Lib.toList_data,Lib.toList_data] at this
            simpa using this
          exact absurd ((Lib.mk_data z).symm.trans ((congrArg (fun l:List UInt8=>(⟨l.toArray⟩:ByteArray)) h2).trans (Lib.mk_data s))) hne
  · have hno:∀ v,Lib.atoiAll s.data.toList≠.ok v:=fun v e=>hok ⟨v,e⟩
    have hr:iA s.data.toList=(0,false):=by
      unfold iA
      split
      · rename_i n hn; exact absurd hn (hno n)
      · rfl
    rw [hr]
    obtain ⟨v,hcall⟩:=aXv sh172 s hs hno w hv
    go_enter Tryz.func72,Tryz.ntmps72
    go_wp2_with (go_at_call 75; refine hcall.mono ?_)
    rintro e w' ⟨t,N,rfl,hw⟩
    go_wp2
    go_ret2
    exact ⟨rfl,hw⟩
def aV4:AC:=(.seq (.ops [.asg 2 (kB false)]) (.seq (.ops [.call (some 3) 91 [],.mv 4 0,.call (some 5) 90 [3,4],.asg 2 5]) .ret))
theorem aU4:bG Tryz.prog 84=some (aV4,[.mv 0 2],6):=by kernel_rfl
def bLb (r:Bool):Exit→St→Prop:=bA [.mv 0 2] fun x _=>x=(fun y=>(vB y)) r
def aRy:AC:=(.seq (.ops [.asg 0 (.c (.nil 1))]) (.seq (.ops [.bsl 1 9 1 [(.c (.d (.s (bs [40])))),(.c (.d (.s (bs [41])))),(.c (.d (.s (bs [44])))),(.c (.d (.s (bs [46])))),(.c (.d (.s (bs [42])))),(.c (.d (.s (bs [43])))),(.c (.d (.s (bs [45])))),(.c (.d (.s (bs [47])))),(.c (.d (.s (bs [37])))),(.c (.d (.s (bs [61])))),(.c (.d (.s (bs [60,62])))),(.c (.d (.s (bs [60])))),(.c (.d (.s (bs [60,61])))),(.c (.d (.s (bs [62])))),(.c (.d (.s (bs [62,61])))),(.c (.d (.s (bs [124,124]))))],.asg 0 1]) .ret))
theorem aZj:bG Tryz.prog 91=some (aRy,[.mv 0 0],2):=by kernel_rfl
def bK1 (r:List (List UInt8)):Exit→St→Prop:=bA [.mv 0 0] fun x b=>x=(fun (y:List (List UInt8))=>(.osl 2000000 9 1 (y.map cStr))) r∧bF ((fun (y:List (List UInt8))=>[]) r) b
def aVn:AC:=(.seq (.ops [.asg 4 (kB false)]) (.seq (.ops [.mv 5 0,.mv 6 1,.call (some 7) 88 [5,6],.bin 8 .geq 7 (kI 0),.asg 4 8]) .ret))
theorem aWj:bG Tryz.prog 90=some (aVn,[.mv 0 4],9):=by kernel_rfl
def bLp (r:Bool):Exit→St→Prop:=bA [.mv 0 4] fun x _=>x=(fun y=>(vB y)) r
def aEw:AC:=(.loop (.seq (.ops [.bin 9 .lss 8 7]) (.seq (.cond 9 .skip (.exit 0)) (.seq (.block 1 (.seq (.ops [.mv 10 8,.asg 5 10]) (.seq (.ops [.mv 11 1,.mv 12 0,.mv 13 5,.ia 14 1 12 13,.ld 15 1 false 14,.bin 16 .eql 11 15]) (.cond 16 (.seq (.ops [.mv 17 5,.asg 4 17]) .ret) .skip)))) (.ops [.bin 18 .add 8 (kI 1),.mv 8 18])))))
def aM0:AC:=(.seq (.ops [.asg 4 (kI (-1))]) .ret)
def bFd:AC:=(.seq (.ops [.asg 4 (kI 0)]) (.seq (.seq (.ops [.mv 6 0,.len 7 6,.mv 8 (kI 0)]) (.block 0 aEw)) aM0))
theorem aUg:bG Tryz.prog 88=some (bFd,[.mv 0 4],19):=by kernel_rfl
def aIu (r:Int):Exit→St→Prop:=bA [.mv 0 4] fun x _=>x=(fun y=>(vI y)) r
def bAg (r:Int):Exit→St→Prop:=(dX (wkK (avc Tryz.prog aM0 (aIu r))) (aIu r))
def aVr (r:Int):Exit→St→Prop:=(eB 0 (bAg r))
def bA5 (p0:List (List UInt8)) (p1:List UInt8) (x8:Int):St:=⟨[(0,(zI p0)),(1,(vS p1)),(7,(vI (p0.length:Int))),(8,(vI x8))],[]⟩
abbrev T9:=fun p0 p1 x8 r=>avc Tryz.prog aEw (aVr r) (bA5 p0 p1 x8)
def bAm:AC:=(.seq (.ops [.asg 2 (kI 0)]) (.seq (.ops [.call (some 3) 89 [],.mv 4 0,.call (some 5) 82 [4],.call (some 6) 88 [3,5],.bin 7 .add 6 (kI 1),.asg 2 7]) .ret))
theorem bEa:bG Tryz.prog 81=some (bAm,[.mv 0 2],8):=by kernel_rfl
def bLt (r:Int):Exit→St→Prop:=bA [.mv 0 2] fun x _=>x=(fun y=>(vI y)) r
def aRx:AC:=(.seq (.ops [.asg 0 (.c (.nil 1))]) (.seq (.ops [.call (some 1) 98 [(.c (.d (.s (bs [83,69,76,69,67,84,32,68,73,83,84,73,78,67,84,32,70,82,79,77,32,74,79,73,78,32,79,78,32,87,72,69,82,69,32,79,82,68,69,82,32,66,89,32,65,83,67,32,68,69,83,67,32,76,73,77,73,84,32,65,83,32,65,78,68,32,79,82,32,78,79,84,32,73,83,32,73,78,32,66,69,84,87,69,69,78,32,69,88,73,83,84,83,32,78,85,76,76,32,84,82,85,69,32,70,65,76,83,69,32,73,78,83,69,82,84,32,73,78,84,79,32,86,65,76,85,69,83,32,85,80,68,65,84,69,32,83,69,84,32,68,69,76,69,84,69])))),(.c (.d (.s (bs [32]))))],.asg 0 1]) .ret))
theorem bBv:bG Tryz.prog 89=some (aRx,[.mv 0 0],2):=by kernel_rfl
def bJy (r:List (List UInt8)):Exit→St→Prop:=bA [.mv 0 0] fun x _=>x=(fun y=>(zI y)) r

def aGc:AC:=(.ops [.bin 27 .add 10 (kI 1),.mv 10 27])
def U0:AC:=(.loop (.seq (.ops [.bin 11 .lss 10 9]) (.seq (.cond 11 .skip (.exit 0)) (.seq (.block 1 (.seq (.ops [.mv 12 10,.ia 13 1 8 10,.ld 14 1 false 13,.asg 4 12,.asg 5 14]) (.seq (.ops [.mv 15 5,.bin 16 .geq 15 (.c (.d (.i .u8 97))),.mv 17 16,.g 17 true (.mv 18 5),.g 17 true (.bin 19 .leq 18 (.c (.d (.i .u8 122)))),.pick 20 17 19 (kB false)]) (.cond 20 (.ops [.mv 21 3,.mv 22 4,.mv 23 5,.bin 24 .sub 23 (.c (.d (.i .u8 97))),.bin 25 .add 24 (.c (.d (.i .u8 65))),.ia 26 1 21 22,.st 1 26 25]) .skip)))) aGc))))
def Z9:AC:=(.seq (.ops [.mv 28 3,.cbs 29 28,.asg 2 29]) .ret)
def aXk:AC:=(.seq (.ops [.asg 2 (.c (.d (.s (bs []))))]) (.seq (.ops [.mv 6 0,.csb 7 5 6,.asg 3 7]) (.seq (.seq (.ops [.mv 8 3,.len 9 8,.mv 10 (kI 0)]) (.block 0 U0)) Z9)))
theorem aZx:bG Tryz.prog 82=some (aXk,[.mv 0 2],30):=by kernel_rfl
def aHc (r:List UInt8):Exit→St→Prop:=bA [.mv 0 2] fun x _=>x=(fun y=>(vS y)) r
def aZf (r:List UInt8):Exit→St→Prop:=(dX (wkK (avc Tryz.prog Z9 (aHc r))) (aHc r))
def aFo (r:List UInt8):Exit→St→Prop:=(eB 0 (aZf r))
def bIz (r:List UInt8):Exit→St→Prop:=(dX (avc Tryz.prog U0 (aFo r)) (aFo r))
def bH3 (p0:List UInt8) (x10:Int) (gI:List Int):St:=⟨[(3,(.tre 60015000)),(8,(.tre 60015000)),(9,(vI ((iV p0).length:Int))),(10,(vI x10))],[(60015000,[(.trc 1 (gI.map cU8))])]⟩
abbrev aCp:=fun p0 x10 gI r=>avc Tryz.prog U0 (aFo r) (bH3 p0 x10 gI)
def bHl (p0:List UInt8) (x10:Int) (lQ:List Int):St:=⟨[(3,(.tre 60050000)),(8,(.tre 60050000)),(9,(vI ((iV p0).length:Int))),(10,(vI x10))],[(60050000,[(.trc 1 (lQ.map cU8))])]⟩
abbrev aCq:=fun p0 x10 lQ r=>avc Tryz.prog aGc (bIz r) (bHl p0 x10 lQ)
def bIf (x3:List Int):St:=⟨[(3,(aOc x3))],[]⟩
abbrev aJc:=fun x3 r=>avc Tryz.prog Z9 (aHc r) (bIf x3)
def aT0:AC:=(.seq (.ops [.asg 2 (kB false)]) (.seq (.ops [.mv 3 0,.lns 4 3,.bin 5 .geq 4 (kI 1),.mv 6 5,.g 6 true (.mv 7 0),.g 6 true (.lns 8 7),.g 6 true (.bin 9 .leq 8 (kI 20)),.pick 10 6 9 (kB false),.asg 2 10]) .ret))
theorem bCf:bG Tryz.prog 83=some (aT0,[.mv 0 2],11):=by kernel_rfl
def bKt (r:Bool):Exit→St→Prop:=bA [.mv 0 2] fun x _=>x=(fun y=>(vB y)) r
def bH5:AC:=(.seq (.ops [.alc 2 [aX,aX,bD]]) (.seq (.ops [.mv 3 0,.bld 4 [aX,aX,bD] [(0,1,(kI 2)),(2,1,3)],.st 3 2 4]) .ret))
theorem aTh:bG Tryz.prog 79=some (bH5,[.ld 0 3 true 2],5):=by kernel_rfl
def bLf (r:bM):Exit→St→Prop:=bA [.ld 0 3 true 2] fun x _=>x=(fun y=>(wQ y)) r
def aRe:AC:=(.seq (.ops [.asg 2 (kI 0)]) (.seq (.ops [.mv 6 0,.call (some 7) 69 [6,(kI 3)],.call (some 8) 72 [7],.mv 5 8,.ext 9 5 0,.ext 10 5 1,.asg 3 9,.asg 4 10]) (.seq (.ops [.mv 11 3,.asg 2 11]) .ret)))
theorem bHo:bG Tryz.prog 65=some (aRe,[.mv 0 2],12):=by kernel_rfl
def bL3 (r:Int×aA):Exit→St→Prop:=bA [.mv 0 2] fun x b=>x=(fun (y:Int×aA)=>(vI y.1)) r∧bF ((fun (y:Int×aA)=>[(1000000,aP y.2)]) r) b
def aT1:AC:=(.seq (.ops [.alc 2 [aX,aX,bD]]) (.seq (.ops [.mv 3 0,.bld 4 [aX,aX,bD] [(0,1,(kI 1)),(1,1,3)],.st 3 2 4]) .ret))
theorem bEo:bG Tryz.prog 78=some (aT1,[.ld 0 3 true 2],5):=by kernel_rfl
def bJw (r:bM):Exit→St→Prop:=bA [.ld 0 3 true 2] fun x _=>x=(fun y=>(wQ y)) r
def aWc:AC:=(.seq (.ops [.mv 4 0,.mv 5 1,.call (some 6) 60 [4,5],.not 7 6]) (.cond 7 (.ops [.mv 8 0,.nck 9 8,.fa 10 2 9,.st 1 10 (kB true)]) .skip))
theorem aY7:bG Tryz.prog 56=some (aWc,[],11):=by kernel_rfl
def bLm (r:aA):Exit→St→Prop:=bA [] fun x b=>x=(fun (y:aA)=>(.tup [])) r∧bF ((fun (y:aA)=>[(1000000,aP y)]) r) b
def aG1:AC:=(.seq (.ops [.mv 17 5,.asg 4 17]) .ret)
def bFs:AC:=(.seq (.ops [.asg 4 (kB false)]) (.seq (.ops [.mv 6 0,.mv 7 1,.call (some 8) 67 [6,7],.asg 5 8]) (.seq (.seq (.ops [.mv 9 5]) (.cond 9 (.ops [.mv 10 0,.nck 11 10,.fa 12 1 11,.ld 13 1 false 12,.bin 14 .add 13 (kI 1),.nck 15 10,.fa 16 1 15,.st 1 16 14]) .skip)) aG1)))
theorem bIb:bG Tryz.prog 60=some (bFs,[.mv 0 4],18):=by kernel_rfl
def aY3 (r:Bool×aA):Exit→St→Prop:=bA [.mv 0 4] fun x b=>x=(fun (y:Bool×aA)=>(vB y.1)) r∧bF ((fun (y:Bool×aA)=>[(1000000,aP y.2)]) r) b
def bDj (y1:Bool) (p0:aA) (bP:Int):St:=⟨[(5,(vB y1))],[(1000000,aP (aA.mk p0.list bP p0.failed))]⟩
abbrev aIl:=fun y1 p0 bP r=>avc Tryz.prog aG1 (aY3 r) (bDj y1 p0 bP)
def bCr:AC:=(.seq (.ops [.asg 4 (kB false)]) (.seq (.ops [.mv 5 0,.mv 6 1,.call (some 7) 47 [5,(kI 0),(kI 5),6],.asg 4 7]) .ret))
theorem aU3:bG Tryz.prog 67=some (bCr,[.mv 0 4],8):=by kernel_rfl
def bKn (p0:aA) (r:Bool):Exit→St→Prop:=bA [.mv 0 4] fun x b=>x=(fun (y:Bool)=>(vB y)) r∧bF ((fun (y:Bool)=>[(1000000,aP p0)]) r) b
def aFy:AC:=(.seq (.ops [.ld 7 3 true 3,.st 3 2 7]) .ret)
def bIa:AC:=(.seq (.ops [.alc 2 [aX,aX,bD]]) (.seq (.ops [.bld 4 [aX,aX,bD] [(0,1,(kI 3))],.alc 3 [aX,aX,bD],.st 3 3 4]) (.seq (.seq (.ops [.mv 5 0]) (.cond 5 (.ops [.fa 6 1 3,.st 1 6 (kI 1)]) .skip)) aFy)))
theorem bCj:bG Tryz.prog 80=some (bIa,[.ld 0 3 true 2],8):=by kernel_rfl
def aUw (r:bM):Exit→St→Prop:=bA [.ld 0 3 true 2] fun x _=>x=(fun y=>(wQ y)) r
def bBx (cK:Int):St:=⟨[(2,(.ptr 2 0)),(3,(.ptr 3 0))],[(2,[(vI 0),(vI 0),(vS [])]),(3,aS3 (bM.mk 3 cK []))]⟩
abbrev aMc:=fun cK r=>avc Tryz.prog aFy (aUw r) (bBx cK)
def aDq:AC:=(.loop (.seq (.seq (.ops [.mv 13 0,.call (some 14) 60 [13,(.c (.d (.s (bs [44]))))]]) (.cond 14 .skip (.exit 0))) (.block 1 (.dops [[],[0],[],[2],[3],[1,4,3],[0,1,2,3,4,5],[6,5,5,0,1,2,3,4,5]] [.fa 15 1 3,.ld 16 1 false 15,.mv 17 0,.call (some 18) 61 [17],.bsl 19 90 13 [18],.app 20 90 13 176 16 19,.fa 21 1 3,.st 1 21 20]))))
def aEv:AC:=(.loop (.seq (.seq (.ops [.mv 38 0,.call (some 39) 60 [38,(.c (.d (.s (bs [44]))))]]) (.cond 39 .skip (.exit 2))) (.block 3 (.dops [[],[0],[],[2],[3],[1,4,3],[0,1,2,3,4,5],[6,5,5,0,1,2,3,4,5]] [.fa 40 4 3,.ld 41 1 false 40,.mv 42 0,.call (some 43) 64 [42],.bsl 44 94 11 [43],.app 45 94 11 144 41 44,.fa 46 4 3,.st 1 46 45]))))
def aDd:AC:=(.seq (.ops [.ld 52 6 true 3,.st 6 2 52]) .ret)
def aBf:AC:=(.seq (.seq (.ops [.mv 47 0,.call (some 48) 49 [47,(.c (.d (.s (bs [76,73,77,73,84]))))]]) (.cond 48 (.ops [.mv 49 0,.call (some 50) 65 [49],.fa 51 5 3,.st 1 51 50]) .skip)) aDd)
def aOy:AC:=(.seq (.ops [.mv 22 0,.call (some 23) 53 [22,(.c (.d (.s (bs [70,82,79,77]))))]]) (.seq (.ops [.mv 24 0,.call (some 25) 62 [24],.fa 26 2 3,.st 1 26 25]) (.seq (.ops [.mv 27 0,.call (some 28) 63 [27],.fa 29 3 3,.st 1 29 28]) (.seq (.seq (.ops [.mv 30 0,.call (some 31) 49 [30,(.c (.d (.s (bs [79,82,68,69,82]))))]]) (.cond 31 (.seq (.ops [.mv 32 0,.call (some 33) 53 [32,(.c (.d (.s (bs [66,89]))))]]) (.seq (.ops [.mv 34 0,.call (some 35) 64 [34],.bsl 36 94 11 [35],.fa 37 4 3,.st 1 37 36]) (.block 2 aEv))) .skip)) aBf))))
def bAf:AC:=(.seq (.ops [.alc 2 aFv]) (.seq (.ops [.mv 4 0,.call (some 5) 53 [4,(.c (.d (.s (bs [83,69,76,69,67,84]))))]]) (.seq (.ops [.mv 6 0,.call (some 7) 49 [6,(.c (.d (.s (bs [68,73,83,84,73,78,67,84]))))],.bld 8 [fT,(.nil 13),(.nil 3),(.nil 10),(.nil 11),aX] [(0,1,7),(5,1,(kI (-1)))],.alc 3 aFv,.st 6 3 8]) (.seq (.ops [.mv 9 0,.call (some 10) 61 [9],.bsl 11 90 13 [10],.fa 12 1 3,.st 1 12 11]) (.seq (.block 0 aDq) aOy)))))
theorem bEn:bG Tryz.prog 57=some (bAf,[.ld 0 6 true 2],53):=by kernel_rfl
def xV (r:bU×aA):Exit→St→Prop:=bA [.ld 0 6 true 2] fun x b=>x=(fun (y:bU×aA)=>(V9 y.1)) r∧bF ((fun (y:bU×aA)=>[(1000000,aP y.2)]) r) b
def bE0 (r:bU×aA):Exit→St→Prop:=(dX (wkK (avc Tryz.prog aOy (xV r))) (xV r))
def bE9 (r:bU×aA):Exit→St→Prop:=(eB 0 (bE0 r))
def bGl (r:bU×aA):Exit→St→Prop:=(dX (wkK (avc Tryz.prog aBf (xV r))) (xV r))
def bFj (r:bU×aA):Exit→St→Prop:=(eB 2 (bGl r))
def aNp (y2:Bool×aA) (cK:List dZ) (cZ:List aB) (bP:Int) (dC:Bool):St:=⟨[(0,(.ptr 1000000 0)),(2,(.ptr 2 0)),(3,(.ptr 3 0))],[(2,[(vB false),(.nil 13),(.nil 3),(.nil 10),(.nil 11),(vI 0)]),(3,[(vB y2.1),(.osl 11 90 13 (cK.map iM)),(.nil 3),(.nil 10),(.nil 11),(vI (-1))]),(1000000,aP (aA.mk cZ bP dC))]⟩
abbrev aAh:=fun y2 cK cZ bP dC r=>avc Tryz.prog aDq (bE9 r) (aNp y2 cK cZ bP dC)
def bD0 (y2:Bool×aA) (cK:List dZ) (y8:(List dN)×aA) (y9:(List aJ)×aA) (jR:List eF) (lC:List aB) (jV:Int×Bool):St:=⟨[(0,(.ptr 1000000 0)),(2,(.ptr 2 0)),(3,(.ptr 3 0))],[(2,[(vB false),(.nil 13),(.nil 3),(.nil 10),(.nil 11),(vI 0)]),(3,[(vB y2.1),(.osl 11 90 13 (cK.map iM)),(.osl 25 99 3 (y8.1.map fZ)),(.osl 28 40 10 (y9.1.map dD)),(.osl 36 94 11 (jR.map jN)),(vI (-1))]),(1000000,aP (aA.mk lC jV.1 jV.2))]⟩
abbrev X7:=fun y2 cK y8 y9 jR lC jV r=>avc Tryz.prog aEv (bFj r) (bD0 y2 cK y8 y9 jR lC jV)
def aSn (y2:Bool×aA) (cK:List dZ) (y8:(List dN)×aA) (y9:(List aJ)×aA) (jD:List eF) (tJ:List aB) (rV:Int) (uI:Bool):St:=⟨[(0,(.ptr 1000000 0)),(2,(.ptr 2 0)),(3,(.ptr 3 0))],[(2,[(vB false),(.nil 13),(.nil 3),(.nil 10),(.nil 11),(vI 0)]),(3,[(vB y2.1),(.osl 11 90 13 (cK.map iM)),(.osl 25 99 3 (y8.1.map fZ)),(.osl 28 40 10 (y9.1.map dD)),(.osl 36 94 11 (jD.map jN)),(vI (-1))]),(1000000,aP (aA.mk tJ rV uI))]⟩
abbrev aMn:=fun y2 cK y8 y9 jD tJ rV uI r=>avc Tryz.prog aBf (xV r) (aSn y2 cK y8 y9 jD tJ rV uI)
def aRn (y2:Bool×aA) (cK:List dZ) (y8:(List dN)×aA) (y9:(List aJ)×aA) (jD:List eF) (uF:Int) (tV:List aB) (tL:Int) (rU:Bool):St:=⟨[(2,(.ptr 2 0)),(3,(.ptr 3 0))],[(2,[(vB false),(.nil 13),(.nil 3),(.nil 10),(.nil 11),(vI 0)]),(3,[(vB y2.1),(.osl 11 90 13 (cK.map iM)),(.osl 25 99 3 (y8.1.map fZ)),(.osl 28 40 10 (y9.1.map dD)),(.osl 36 94 11 (jD.map jN)),(vI uF)]),(1000000,aP (aA.mk tV tL rU))]⟩
abbrev aJg:=fun y2 cK y8 y9 jD uF tV tL rU r=>avc Tryz.prog aDd (xV r) (aRn y2 cK y8 y9 jD uF tV tL rU)
def aE7:AC:=(.loop (.block 1 (.block 2 (.seq (.ops [.mv 10 0,.call (some 11) 60 [10,(.c (.d (.s (bs [44]))))],.asg 9 11]) (.cond 9 (.ops [.mv 12 3,.mv 13 0,.call (some 14) 71 [13],.bsl 15 99 3 [14],.app 16 99 3 56 12 15,.asg 3 16]) (.seq (.ops [.mv 18 0,.call (some 19) 49 [18,(.c (.d (.s (bs [74,79,73,78]))))],.asg 17 19]) (.cond 17 (.seq (.ops [.mv 20 0,.call (some 21) 71 [20],.alc 4 [bD,bD,(.nil 10)],.st 3 4 21]) (.seq (.ops [.mv 22 0,.call (some 23) 53 [22,(.c (.d (.s (bs [79,78]))))]]) (.seq (.ops [.mv 24 0,.call (some 25) 21 [24],.bsl 26 40 10 [25],.fa 27 2 4,.st 1 27 26]) (.ops [.mv 28 3,.ld 29 3 true 4,.bsl 30 99 3 [29],.app 31 99 3 56 28 30,.asg 3 31])))) (.seq (.ops [.mv 8 3,.asg 2 8]) .ret))))))))
def aZr:AC:=(.seq (.ops [.asg 2 (.c (.nil 3))]) (.seq (.ops [.mv 5 0,.call (some 6) 71 [5],.bsl 7 99 3 [6],.asg 3 7]) (.block 0 aE7)))
theorem bD3:bG Tryz.prog 62=some (aZr,[.mv 0 2],32):=by kernel_rfl
def bF6 (r:(List dN)×aA):Exit→St→Prop:=bA [.mv 0 2] fun x b=>x=(fun (y:(List dN)×aA)=>(.osl 2000000 99 3 (y.1.map fZ))) r∧bF ((fun (y:(List dN)×aA)=>[(1000000,aP y.2)]) r) b
def aWn (r:(List dN)×aA):Exit→St→Prop:=(eB 0 (bF6 r))
def aV0 (x3:List dN) (cZ:List aB) (bP:Int) (dC:Bool):St:=⟨[(0,(.ptr 1000000 0)),(3,(.osl 3 99 3 (x3.map fZ)))],[(1000000,aP (aA.mk cZ bP dC))]⟩
abbrev aCz:=fun x3 cZ bP dC r=>avc Tryz.prog aE7 (aWn r) (aV0 x3 cZ bP dC)
def aSf:AC:=(.seq (.ops [.alc 2 [bD,bD,(.nil 10)]]) (.seq (.ops [.mv 4 0,.call (some 5) 69 [4,(kI 2)],.asg 3 5]) (.seq (.ops [.mv 6 3,.mv 7 0,.call (some 8) 70 [7],.bld 9 [bD,bD,(.nil 10)] [(0,1,6),(1,1,8)],.st 3 2 9]) .ret)))
theorem bCg:bG Tryz.prog 71=some (aSf,[.ld 0 3 true 2],10):=by kernel_rfl
def bL7 (r:dN×aA):Exit→St→Prop:=bA [.ld 0 3 true 2] fun x b=>x=(fun (y:dN×aA)=>(aQi y.1)) r∧bF ((fun (y:dN×aA)=>[(1000000,aP y.2)]) r) b
def aWp:AC:=(.seq (.ops [.asg 2 (.c (.d (.s (bs []))))]) (.seq (.seq (.ops [.mv 3 0,.call (some 4) 49 [3,(.c (.d (.s (bs [65,83]))))]]) (.cond 4 (.seq (.ops [.mv 5 0,.call (some 6) 69 [5,(kI 2)],.asg 2 6]) .ret) .skip)) (.seq (.ops [.asg 2 (.c (.d (.s (bs []))))]) .ret)))
theorem aS0:bG Tryz.prog 70=some (aWp,[.mv 0 2],7):=by kernel_rfl
def bLw (r:(List UInt8)×aA):Exit→St→Prop:=bA [.mv 0 2] fun x b=>x=(fun (y:(List UInt8)×aA)=>(vS y.1)) r∧bF ((fun (y:(List UInt8)×aA)=>[(1000000,aP y.2)]) r) b
def bG9:AC:=(.seq (.ops [.alc 2 [fT,bD,aX,aX,fT,aX,aX,bD,bD,bD,(.nil 10),(.nil 6),bD]]) (.seq (.block 0 (.seq (.ops [.mv 6 0,.call (some 7) 60 [6,(.c (.d (.s (bs [42]))))],.asg 5 7]) (.cond 5 (.seq (.ops [.bld 8 [fT,bD,aX,aX,fT,aX,aX,bD,bD,bD,(.nil 10),(.nil 6),bD] [(0,1,(kB true))],.st 13 2 8]) .ret) (.seq (.ops [.mv 10 0,.call (some 11) 68 [10,(kI 2)],.mv 12 11,.g 12 true (.mv 13 0),.g 12 true (.call (some 14) 47 [13,(kI 1),(kI 5),(.c (.d (.s (bs [46]))))]),.pick 15 12 14 (kB false),.mv 16 15,.g 16 true (.mv 17 0),.g 16 true (.call (some 18) 47 [17,(kI 2),(kI 5),(.c (.d (.s (bs [42]))))]),.pick 19 16 18 (kB false),.asg 9 19]) (.cond 9 (.seq (.ops [.mv 20 0,.call (some 21) 69 [20,(kI 2)],.asg 3 21]) (.seq (.ops [.mv 22 0,.nck 23 22,.fa 24 1 23,.ld 25 1 false 24,.bin 26 .add 25 (kI 2),.nck 27 22,.fa 28 1 27,.st 1 28 26]) (.seq (.ops [.mv 29 3,.bld 30 [fT,bD,aX,aX,fT,aX,aX,bD,bD,bD,(.nil 10),(.nil 6),bD] [(0,1,(kB true)),(1,1,29)],.st 13 2 30]) .ret))) .skip))))) (.seq (.ops [.mv 31 0,.call (some 32) 21 [31],.alc 4 fO,.st 10 4 32]) (.seq (.dops [[],[],[1],[0,2],[3,2,0,1,2,3]] [.ld 33 10 true 4,.mv 34 0,.call (some 35) 70 [34],.bld 36 [fT,bD,aX,aX,fT,aX,aX,bD,bD,bD,(.nil 10),(.nil 6),bD] [(2,10,33),(12,1,35)],.st 13 2 36]) .ret))))
theorem aSu:bG Tryz.prog 61=some (bG9,[.ld 0 13 true 2],37):=by kernel_rfl
def bJn (r:dZ×aA):Exit→St→Prop:=bA [.ld 0 13 true 2] fun x b=>x=(fun (y:dZ×aA)=>(aCf y.1)) r∧bF ((fun (y:dZ×aA)=>[(1000000,aP y.2)]) r) b
def aYy:AC:=(.seq (.ops [.asg 2 (.c (.nil 10))]) (.seq (.seq (.ops [.mv 3 0,.call (some 4) 49 [3,(.c (.d (.s (bs [87,72,69,82,69]))))]]) (.cond 4 (.seq (.ops [.mv 5 0,.call (some 6) 21 [5],.bsl 7 40 10 [6],.asg 2 7]) .ret) .skip)) (.seq (.ops [.asg 2 (.c (.nil 10))]) .ret)))
theorem aVf:bG Tryz.prog 63=some (aYy,[.mv 0 2],8):=by kernel_rfl
def bL9 (r:(List aJ)×aA):Exit→St→Prop:=bA [.mv 0 2] fun x b=>x=(fun (y:(List aJ)×aA)=>(.osl 2000000 40 10 (y.1.map dD))) r∧bF ((fun (y:(List aJ)×aA)=>[(1000000,aP y.2)]) r) b
def aGb:AC:=(.seq (.ops [.ld 13 11 true 3,.st 11 2 13]) .ret)
def aW8:AC:=(.seq (.ops [.alc 2 aIg]) (.seq (.ops [.mv 4 0,.call (some 5) 21 [4],.bld 6 [aX,aX,fT,aX,aX,bD,bD,bD,(.nil 10),(.nil 6),fT] [(0,10,5)],.alc 3 aIg,.st 11 3 6]) (.seq (.seq (.ops [.mv 7 0,.call (some 8) 49 [7,(.c (.d (.s (bs [65,83,67]))))],.not 9 8]) (.cond 9 (.ops [.mv 10 0,.call (some 11) 49 [10,(.c (.d (.s (bs [68,69,83,67]))))],.fa 12 10 3,.st 1 12 11]) .skip)) aGb)))
theorem aY8:bG Tryz.prog 64=some (aW8,[.ld 0 11 true 2],14):=by kernel_rfl
def bAt (r:eF×aA):Exit→St→Prop:=bA [.ld 0 11 true 2] fun x b=>x=(fun (y:eF×aA)=>(aB1 y.1)) r∧bF ((fun (y:eF×aA)=>[(1000000,aP y.2)]) r) b
def aR3 (y1:aJ×aA) (rF:Bool) (cZ:List aB) (bP:Int) (dC:Bool):St:=⟨[(2,(.ptr 2 0)),(3,(.ptr 3 0))],[(2,[(vI 0),(vI 0),(vB false),(vI 0),(vI 0),(vS []),(vS []),(vS []),(.nil 10),(.nil 6),(vB false)]),(3,aSv (eF.mk y1.1 rF)),(1000000,aP (aA.mk cZ bP dC))]⟩
abbrev aKb:=fun y1 rF cZ bP dC r=>avc Tryz.prog aGb (bAt r) (aR3 y1 rF cZ bP dC)
def aDf:AC:=(.seq (.ops [.mv 27 0,.call (some 28) 56 [27,(.c (.d (.s (bs [41]))))]]) (.seq (.ops [.ld 29 10 true 7,.st 10 6 29]) .ret))
def bD8:AC:=(.seq (.ops [.box 4 40 1,.alc 6 fO]) (.seq (.ops [.mv 8 0,.call (some 9) 56 [8,(.c (.d (.s (bs [40]))))]]) (.seq (.ops [.mv 10 2,.ld 11 10 true 4,.bsl 12 40 10 [11],.bld 13 [aX,aX,fT,aX,aX,bD,bD,bD,(.nil 10),(.nil 6)] [(0,1,(kI 7)),(2,1,10),(8,1,12)],.alc 7 fO,.st 10 7 13]) (.seq (.seq (.ops [.mv 14 0,.call (some 15) 51 [14,(.c (.d (.s (bs [83,69,76,69,67,84]))))]]) (.cond 15 (.ops [.mv 16 0,.call (some 17) 57 [16],.bsl 18 86 6 [17],.fa 19 0 7,.st 1 19 (kI 8),.fa 20 9 7,.st 1 20 18]) (.dops [[],[0],[],[2],[1,3,3],[0,1,2,3,4],[5,4,4,0,1,2,3,4]] [.fa 21 8 7,.ld 22 1 false 21,.mv 23 0,.call (some 24) 58 [23],.app 25 40 10 136 22 24,.fa 26 8 7,.st 1 26 25]))) aDf))))
theorem bAv:bG Tryz.prog 54=some (bD8,[.ld 0 10 true 6],30):=by kernel_rfl
def bBu (r:aJ×aA):Exit→St→Prop:=bA [.ld 0 10 true 6] fun x b=>x=(fun (y:aJ×aA)=>(bX y.1)) r∧bF ((fun (y:aJ×aA)=>[(1000000,aP y.2)]) r) b
def aVa (p2:Bool) (aY:Int) (sI:List aJ) (tQ:List bU) (cZ:List aB) (bP:Int) (dC:Bool):St:=⟨[(0,(.ptr 1000000 0)),(6,(.ptr 6 0)),(7,(.ptr 7 0))],[(6,[(vI 0),(vI 0),(vB false),(vI 0),(vI 0),(vS []),(vS []),(vS []),(.nil 10),(.nil 6)]),(7,[(vI aY),(vI 0),(vB p2),(vI 0),(vI 0),(vS []),(vS []),(vS []),(.osl 12 40 10 (sI.map dD)),(.osl 18 86 6 (tQ.map kV))]),(1000000,aP (aA.mk cZ bP dC))]⟩
abbrev aL0:=fun p2 aY sI tQ cZ bP dC r=>avc Tryz.prog aDf (bBu r) (aVa p2 aY sI tQ cZ bP dC)
def aGi:AC:=(.loop (.seq (.seq (.ops [.mv 7 0,.call (some 8) 60 [7,(.c (.d (.s (bs [44]))))]]) (.cond 8 .skip (.exit 0))) (.block 1 (.ops [.mv 9 3,.mv 10 0,.call (some 11) 21 [10],.bsl 12 40 10 [11],.app 13 40 10 136 9 12,.asg 3 13]))))
def aK9:AC:=(.seq (.ops [.mv 14 3,.asg 2 14]) .ret)
def aVo:AC:=(.seq (.ops [.asg 2 (.c (.nil 10))]) (.seq (.ops [.mv 4 0,.call (some 5) 21 [4],.bsl 6 40 10 [5],.asg 3 6]) (.seq (.block 0 aGi) aK9)))
theorem bAh:bG Tryz.prog 58=some (aVo,[.mv 0 2],15):=by kernel_rfl
def aP4 (r:(List aJ)×aA):Exit→St→Prop:=bA [.mv 0 2] fun x b=>x=(fun (y:(List aJ)×aA)=>(.osl 2000000 40 10 (y.1.map dD))) r∧bF ((fun (y:(List aJ)×aA)=>[(1000000,aP y.2)]) r) b
def aV5 (r:(List aJ)×aA):Exit→St→Prop:=(dX (wkK (avc Tryz.prog aK9 (aP4 r))) (aP4 r))
def bAw (r:(List aJ)×aA):Exit→St→Prop:=(eB 0 (aV5 r))
def bHw (x3:List aJ) (cZ:List aB) (bP:Int) (dC:Bool):St:=⟨[(0,(.ptr 1000000 0)),(3,(.osl 3 40 10 (x3.map dD)))],[(1000000,aP (aA.mk cZ bP dC))]⟩
abbrev aBn:=fun x3 cZ bP dC r=>avc Tryz.prog aGi (bAw r) (bHw x3 cZ bP dC)
def aSy:AC:=(.seq (.ops [.asg 2 (kI 0)]) (.seq (.seq (.dops [[],[0],[1],[2],[3],[4],[5,4],[6,4],[7,4],[4],[9,4],[10,4],[11,4],[12,4],[8,13,4],[4,14]] [.mv 3 0,.nck 4 3,.fa 5 2 4,.ld 6 1 false 5,.mv 7 6,.g 7 false (.mv 8 0),.g 7 false (.nck 9 8),.g 7 false (.fa 10 1 9),.g 7 false (.ld 11 1 false 10),.g 7 false (.mv 12 0),.g 7 false (.nck 13 12),.g 7 false (.fa 14 0 13),.g 7 false (.ld 15 1 false 14),.g 7 false (.len 16 15),.g 7 false (.bin 17 .lss 11 16),.pick 18 7 (kB true) 17]) (.cond 18 (.seq (.ops [.mv 19 0,.nck 20 19,.fa 21 1 20,.ld 22 1 false 21,.asg 2 22]) .ret) .skip)) (.seq (.ops [.asg 2 (kI (-1))]) .ret)))
theorem bH0:bG Tryz.prog 22=some (aSy,[.mv 0 2],23):=by kernel_rfl
def bLa (p0:aA) (r:Int):Exit→St→Prop:=bA [.mv 0 2] fun x b=>x=(fun (y:Int)=>(vI y)) r∧bF ((fun (y:Int)=>[(1000000,aP p0)]) r) b
def aDa:AC:=(.loop (.seq (.seq (.ops [.mv 12 5,.mv 13 0,.len 14 13,.bin 15 .lss 12 14]) (.cond 15 .skip (.exit 0))) (.seq (.block 1 (.seq (.ops [.mv 18 0,.mv 19 5,.ia 20 3 18 19,.ld 21 3 true 20,.mv 22 1,.call (some 23) 9 [21,22],.asg 1 23]) (.seq (.ops [.mv 24 1,.bin 25 .lss 24 (kI 0)]) (.cond 25 (.seq (.ops [.asg 4 (kI (-1))]) .ret) .skip)))) (.ops [.mv 16 5,.bin 17 .add 16 (kI 1),.asg 5 17]))))
def aMk:AC:=(.seq (.ops [.mv 26 1,.asg 4 26]) .ret)
def bC0:AC:=(.seq (.ops [.asg 4 (kI 0)]) (.seq (.ops [.mv 6 1,.mv 7 0,.len 8 7,.bin 9 .sub 6 8,.asg 1 9]) (.seq (.seq (.ops [.mv 10 1,.bin 11 .lss 10 (kI 0)]) (.cond 11 (.seq (.ops [.asg 4 (kI (-1))]) .ret) .skip)) (.seq (.seq (.ops [.asg 5 (kI 0)]) (.block 0 aDa)) aMk))))
theorem bFm:bG Tryz.prog 4=some (bC0,[.mv 0 4],27):=by kernel_rfl
def aOq (r:Int):Exit→St→Prop:=bA [.mv 0 4] fun x _=>x=(fun y=>(vI y)) r
def aXd (r:Int):Exit→St→Prop:=(dX (wkK (avc Tryz.prog aMk (aOq r))) (aOq r))
def bG8 (r:Int):Exit→St→Prop:=(eB 0 (aXd r))
def bBm (p0:List aB) (x1:Int) (x5:Int):St:=⟨[(0,(dF p0)),(1,(vI x1)),(5,(vI x5))],[]⟩
abbrev U4:=fun p0 x1 x5 r=>avc Tryz.prog aDa (bG8 r) (bBm p0 x1 x5)
def bBj:AC:=(.seq (.ops [.box 2 31 0,.asg 4 (kI 0)]) (.seq (.ops [.mv 5 1,.fa 6 1 2,.ld 7 1 false 6,.lns 8 7,.bin 9 .sub 5 8,.asg 1 9]) (.seq (.seq (.ops [.mv 10 1,.bin 11 .lss 10 (kI 0)]) (.cond 11 (.seq (.ops [.asg 4 (kI (-1))]) .ret) .skip)) (.seq (.ops [.mv 12 1,.asg 4 12]) .ret))))
theorem aQt:bG Tryz.prog 9=some (bBj,[.mv 0 4],13):=by kernel_rfl
def bJu (r:Int):Exit→St→Prop:=bA [.mv 0 4] fun x _=>x=(fun y=>(vI y)) r
def aG8:AC:=(.loop (.seq (.seq (.ops [.mv 8 4,.mv 9 0,.len 10 9,.bin 11 .lss 8 10]) (.cond 11 .skip (.exit 0))) (.seq (.block 1 (.ops [.mv 14 3,.mv 15 4,.mv 16 0,.mv 17 4,.ia 18 3 16 17,.ld 19 3 true 18,.call (some 20) 11 [19],.ia 21 3 14 15,.st 3 21 20])) (.ops [.mv 12 4,.bin 13 .add 12 (kI 1),.asg 4 13]))))
def aJz:AC:=(.seq (.ops [.mv 22 3,.asg 2 22]) .ret)
def bIq:AC:=(.seq (.ops [.asg 2 (.c (.nil 3))]) (.seq (.ops [.mv 5 0,.len 6 5,.mks 7 33 3 32 [(.i .i64 0),(.s (bs [])),(.i .i64 0)] 6 6,.asg 3 7]) (.seq (.seq (.ops [.asg 4 (kI 0)]) (.block 0 aG8)) aJz)))
theorem aTw:bG Tryz.prog 6=some (bIq,[.mv 0 2],23):=by kernel_rfl
def aNl (r:List aB):Exit→St→Prop:=bA [.mv 0 2] fun x _=>x=(fun y=>(dF y)) r
def aYe (r:List aB):Exit→St→Prop:=(dX (wkK (avc Tryz.prog aJz (aNl r))) (aNl r))
def aRg (r:List aB):Exit→St→Prop:=(eB 0 (aYe r))
def aSo (p0:List aB) (x4:Int) (aY:List aB):St:=⟨[(0,(dF p0)),(3,(.msl 7 3 0 aY.length aY.length)),(4,(vI x4))],[(7,fD (aY.map cO))]⟩
abbrev aBc:=fun p0 x4 aY r=>avc Tryz.prog aG8 (aRg r) (aSo p0 x4 aY)
def bAj:AC:=(.seq (.ops [.box 1 31 0,.alc 2 [aX,bD,aX]]) (.seq (.ops [.alc 3 [aX,bD,aX]]) (.seq (.ops [.fa 4 0 1,.ld 5 1 false 4,.fa 6 0 3,.st 1 6 5]) (.seq (.ops [.fa 7 1 1,.ld 8 1 false 7,.fa 9 1 3,.st 1 9 8]) (.seq (.ops [.fa 10 2 1,.ld 11 1 false 10,.fa 12 2 3,.st 1 12 11]) (.seq (.ops [.ld 13 3 true 3,.st 3 2 13]) .ret))))))
theorem bFu:bG Tryz.prog 11=some (bAj,[.ld 0 3 true 2],14):=by kernel_rfl
def bJp (r:aB):Exit→St→Prop:=bA [.ld 0 3 true 2] fun x _=>x=(fun y=>(iZ y)) r
theorem aHw (x:aB) (h:∀ d ∈ cO x,OkD d):okGToken x:=⟨pQ _ (eZ h 0 1),uC _ (eZ h 1 1),pQ _ (eZ h 2 1)⟩
theorem bK2 (x:iB) (h:∀ d ∈ aHd x,OkD d):okGL12In x:=⟨aHo _ (fun y hy=>aHw y hy) (eZ h 0 1),pQ _ (eZ h 1 1),trivial⟩
theorem bC6 (x:bM) (h:∀ d ∈ K8 x,OkD d):okGValue x:=⟨pQ _ (eZ h 0 1),pQ _ (eZ h 1 1),uC _ (eZ h 2 1)⟩
mutual
theorem aH8:∀ x:aJ,(∀ d ∈ dD x,OkD d)→okGExpr x
  | ⟨a0,a1,a2,a3,a4,a5,a6,a7⟩,h0=>by
    rw [kP] at h0
    have h:∀ d ∈ jO ⟨a0,a1,a2,a3,a4,a5,a6,a7⟩,OkD d:=h0
    unfold okGExpr
    exact ⟨pQ _ (eZ h 0 1),pQ _ (eZ h 1 1),trivial,bC6 a3 (eZ h 3 3),uC _ (eZ h 6 1),uC _ (eZ h 7 1),⟨by simpa using (mG (eZ h 8 1)).1,aCv a6 (mG (eZ h 8 1)).2⟩,⟨by simpa using (mG (eZ h 9 1)).1,aPo a7 (mG (eZ h 9 1)).2⟩⟩
theorem aVq:∀ x:dZ,(∀ d ∈ iM x,OkD d)→okGItem x
  | ⟨a0,a1,a2,a3⟩,h0=>by
    rw [aGk] at h0
    have h:∀ d ∈ vV ⟨a0,a1,a2,a3⟩,OkD d:=h0
    unfold okGItem
    exact ⟨trivial,uC _ (eZ h 1 1),aH8 a2 (by rw [kP]; exact (eZ h 2 10)),uC _ (eZ h 12 1)⟩
theorem bCk:∀ x:bU,(∀ d ∈ kV x,OkD d)→okGQuery x
  | ⟨a0,a1,a2,a3,a4,a5⟩,h0=>by
    rw [aCo] at h0
    have h:∀ d ∈ rO ⟨a0,a1,a2,a3,a4,a5⟩,OkD d:=h0
    unfold okGQuery
    exact ⟨trivial,⟨by simpa using (mG (eZ h 1 1)).1,aK0 a1 (mG (eZ h 1 1)).2⟩,⟨by simpa using (mG (eZ h 2 1)).1,aK1 a2 (mG (eZ h 2 1)).2⟩,⟨by simpa using (mG (eZ h 3 1)).1,aCv a3 (mG (eZ h 3 1)).2⟩,⟨by simpa using (mG (eZ h 4 1)).1,aPc a4 (mG (eZ h 4 1)).2⟩,pQ _ (eZ h 5 1)⟩
theorem bGa:∀ x:eF,(∀ d ∈ jN x,OkD d)→okGSortKey x
  | ⟨a0,a1⟩,h0=>by
    rw [aFc] at h0
    have h:∀ d ∈ wP ⟨a0,a1⟩,OkD d:=h0
    unfold okGSortKey
    exact ⟨aH8 a0 (by rw [kP]; exact (eZ h 0 10)),trivial⟩
theorem bDf:∀ x:dN,(∀ d ∈ fZ x,OkD d)→okGSource x
  | ⟨a0,a1,a2⟩,h0=>by
    rw [X6] at h0
    have h:∀ d ∈ uJ ⟨a0,a1,a2⟩,OkD d:=h0
    unfold okGSource
    exact ⟨uC _ (eZ h 0 1),uC _ (eZ h 1 1),⟨by simpa using (mG (eZ h 2 1)).1,aCv a2 (mG (eZ h 2 1)).2⟩⟩
theorem aCv:∀ l:List aJ,(∀ x ∈ l.map dD,∀ d ∈ x,OkD d)→okLGExpr l
  | [],_=>by unfold okLGExpr; trivial
  | x::l,h=>by
    unfold okLGExpr
    exact ⟨aH8 x (h _ (by simp)),aCv l fun y hy=>h y (List.mem_cons_of_mem _ hy)⟩
theorem aK0:∀ l:List dZ,(∀ x ∈ l.map iM,∀ d ∈ x,OkD d)→okLGItem l
  | [],_=>by unfold okLGItem; trivial
  | x::l,h=>by
    unfold okLGItem
    exact ⟨aVq x (h _ (by simp)),aK0 l fun y hy=>h y (List.mem_cons_of_mem _ hy)⟩
theorem aPo:∀ l:List bU,(∀ x ∈ l.map kV,∀ d ∈ x,OkD d)→okLGQuery l
  | [],_=>by unfold okLGQuery; trivial
  | x::l,h=>by
    unfold okLGQuery
    exact ⟨bCk x (h _ (by simp)),aPo l fun y hy=>h y (List.mem_cons_of_mem _ hy)⟩
theorem aPc:∀ l:List eF,(∀ x ∈ l.map jN,∀ d ∈ x,OkD d)→okLGSortKey l
  | [],_=>by unfold okLGSortKey; trivial
  | x::l,h=>by
    unfold okLGSortKey
    exact ⟨bGa x (h _ (by simp)),aPc l fun y hy=>h y (List.mem_cons_of_mem _ hy)⟩
theorem aK1:∀ l:List dN,(∀ x ∈ l.map fZ,∀ d ∈ x,OkD d)→okLGSource l
  | [],_=>by unfold okLGSource; trivial
  | x::l,h=>by
    unfold okLGSource
    exact ⟨bDf x (h _ (by simp)),aK1 l fun y hy=>h y (List.mem_cons_of_mem _ hy)⟩
end
theorem bKo (x:aA) (h:∀ d ∈ aF8 x,OkD d):okGParser x:=⟨aHo _ (fun y hy=>aHw y hy) (eZ h 0 1),pQ _ (eZ h 1 1),trivial⟩
theorem de3 {l:List D} (h:WtC Tryz.prog 3 l):∃ x:Int,l=cI x:=(aSm h (k:=.i64) kr)
theorem de9 {l:List D} (h:WtC Tryz.prog 9 l):∃ x:(List UInt8),l=cStr x:=(bI6 h kr)
theorem bI0 {l:List D} (h:WtC Tryz.prog 31 l):∃ x:aB,l=cO x:=by
  obtain ⟨x0,e0⟩:=de3 (aHs h 0 (off:=0) (n:=1) kr)
  obtain ⟨x1,e1⟩:=de9 (aHs h 1 (off:=1) (n:=1) kr)
  obtain ⟨x2,e2⟩:=de3 (aHs h 2 (off:=2) (n:=1) kr)
  exact ⟨⟨x0,x1,x2⟩,(dr1 (m:=1) kr e0 (dr1 (m:=2) kr e1 (dr1 (m:=3) kr e2 (dr0 (bDh h (n:=3) kr)))))⟩
theorem aXn {l:List D} (h:WtC Tryz.prog 22 l):∃ x:(List aB),l=(cSl 3 cO) x:=(aVi h (e:=31) (n:=3) (c:=cO) kr kr fun x hx=>bI0 hx)
theorem aAf:(∀ p0 x8 r,qW p0 x8=some r→V3 p0 x8 r)∧(∀ p0 r,dW p0=some r→bI Tryz.prog 13 [(bX p0)] [] fun x _=>x=(fun y=>(vB y)) r)∧(∀ p0 r,aCm p0=some r→bI Tryz.prog 23 [(xC p0),(.fn 13 [])] [] fun x _=>x=(fun y=>(vB y)) r)∧(∀ p0 r,X4 p0=some r→bI Tryz.prog 30 [(xC p0),(.fn 13 [])] [] fun x _=>x=(fun y=>(vI y)) r):=by
 refine qW.mutual_partial_correctness (fun p0 x8 r=>V3 p0 x8 r) (fun p0 r=>bI Tryz.prog 13 [(bX p0)] [] fun x _=>x=(fun y=>(vB y)) r) (fun p0 r=>bI Tryz.prog 23 [(xC p0),(.fn 13 [])] [] fun x _=>x=(fun y=>(vB y)) r) (fun p0 r=>bI Tryz.prog 30 [(xC p0),(.fn 13 [])] [] fun x _=>x=(fun y=>(vI y)) r) ?_ ?_ ?_ ?_
 · intro bC8 bA2 W9 aGd p0 x8 r h;delta V3 aF3;refine gX (si (oi (sx 1 (ni (xi (si ?_))))));refine cd h (fun h=>?_) fun h=>?_;refine ki (xi (si (bi (si (oi (sx 2 (ni (xi (si (oi (sx 3 (iq h fun y1 h=>(sx 1 (aV8 (m:=bA2 y1) (caps:=[]) (args:=[(bX y1)]) (v':=(fun y=>(vB y))) h kr kr (aGd _) kr kr (fun _=>rfl) fun y2 h=>(ni (xi ?_))))))))))))))));refine cd h (fun h=>?_) fun h=>?_;refine si (oi (sx 2 (ni (xi (ri (br (tr (tr (br (tr ?_))))))))));injection h with h; subst h;exact rp;exact ki (bn (xi (oi (sx 2 (ni (lbs (W9 _ _ _ h) (wr [] eS bJ)))))));refine ei (te (te (bh (xi (si (oi (sx 1 (ni (xi (ri ?_))))))))));injection h with h; subst h;exact rp
 · intro bLc aIh p0 r h;refine ao aU6 (si (oi (sx 2 (ni (xi (si (oi (sx 2 (lq p0.sub (sx 2 (gq 0 (gq 1 (gc 1 h (aIh _) fun y1 h=>(pkO h fun y2 h=>(sx 1 (ni (xi (ri ?_))))))))))))))))));injection h with h; subst h;exact rp
 · intro bLi aIb p0 r h;refine ao aWs (si (oi (sx 1 (ni (xi (si (oi (sx 2 (cs h (aIb _) fun y1 h=>(sx 2 (ni (xi (ri ?_)))))))))))));injection h with h; subst h;exact rp
 · intro bC8 W9 p0 r h;exact ao bA1 (si (oi (sx 1 (ni (xi (si (si (oi (sx 1 (lq p0 (sx 1 (ni (xi (bi (lgs (W9 _ _ _ h) (wr [] eS bJ))))))))))))))))
theorem W9 (p0 x8 r) (h:qW p0 x8=some r):V3 p0 x8 r:=(aAf).1 p0 x8 r h
theorem aGd (p0:aJ):FOk Tryz.prog 13 [(bX p0)] (fun y=>(vB y)) (dW p0):=fun r h=>(aAf).2.1 p0 r h
theorem aIh (p0:List aJ):FOk Tryz.prog 23 [(xC p0),(.fn 13 [])] (fun y=>(vB y)) (aCm p0):=fun r h=>(aAf).2.2.1 p0 r h
theorem aIb (p0:List aJ):FOk Tryz.prog 30 [(xC p0),(.fn 13 [])] (fun y=>(vI y)) (X4 p0):=fun r h=>(aAf).2.2.2 p0 r h
theorem aZh (p0:aA):dV Tryz.prog 22 [(.ptr 1000000 0)] [(1000000,aP p0)] (fun (y:Int)=>(vI y)) (fun (y:Int)=>[(1000000,aP p0)]) (N9 p0):=by
 intro r h
 rw [N9] at h;refine ao bH0 (si (oi (sx 1 (ni (xi (si (si (gK (dsx 5 (dgq 0 (dgq 1 (dgq 1 (dgq 1 (dgq 0 (dgq 1 (dgq 1 (dgq 1 (X9 (p:=true) (b:=p0.failed) (v':=(vI (ln p0.list))) kr rfl rfl (fun hc=>J9 (sz:=3) (l:=p0.list) (f:=cO) (Eq.trans (b:=([(true&&(p0.failed==false))]:List Bool).all id) kr (jB hc rfl)) kr) (dgq 2 ?_)))))))))))))))))));refine aNt h fun y1 h=>(gN kr kr (xi ?_));refine cd h (fun h=>?_) fun h=>?_;refine si (oi (sx 5 (ni (xi (ri (tr ?_))))));injection h with h; subst h;exact rb;refine ki (xi (si (oi (sx 1 (ni (xi (ri ?_)))))));injection h with h; subst h;exact rb
theorem yH (p0:Int) (p1:aJ) (p2:aJ):FOk Tryz.prog 42 [(vI p0),(bX p1),(bX p2)] (fun y=>(bX y)) (nE p0 p1 p2):=by
 intro r h
 rw [nE] at h;refine ao aXl (si (oi (sx 3 (ni (xi (si (oi (sx 3 (gD (l:=([p1,p2]:List aJ)) (f:=dD) (g:=jO) kr kP kr (kE (c:=[(vI 4),(vI p0),(vB false),(vI 0),(vI 0),(vS []),(vS []),(vS []),(.osl 10 40 10 (([p1,p2]:List aJ).map dD)),(.nil 6)]) kr kr rfl (sx 1 (ni (xi ?_)))))))))))));refine iP (s':=⟨[(6,(.ptr 6 0))],[(6,jY (aJ.mk 4 p0 false (bM.mk 0 0 []) [] [] ([p1,p2]:List aJ) ([]:List bU)))]⟩) (wr [] eS (fM (c0:=[(vI 4),(vI p0),(vB false),(vI 0),(vI 0),(vS []),(vS []),(vS []),(.osl 10 40 10 (([p1,p2]:List aJ).map dD)),(.nil 6)]) kr (aQ (aU kr kr) (aQ (aU kr kr) (aQ (aU kr kr) (aQ (aU kr kr) (aQ (aU kr kr) (aQ (aU kr kr) (aQ (aU kr kr) (aQ (aU kr kr) (aQ (gU kr kr) (aQ (gU kr kr) fK)))))))))) bJ)) ?_;injection h with h; subst h;exact rp
theorem aL7 (cK r) (h:uH cK=some r):aMc cK r:=by
 rw [uH] at h;delta aMc aFy;refine si (oi (sx 2 (ni (xi (ri ?_)))));injection h with h; subst h;exact rp
theorem aKt (p0:Bool):FOk Tryz.prog 80 [(vB p0)] (fun y=>(wQ y)) (rQ p0):=by
 intro r h
 rw [rQ] at h;refine ao bCj (si (oi (sx 1 (ni (xi (si (oi (sx 3 (ni (xi (si (si (oi (sx 1 (ni (xi ?_))))))))))))))));refine cd h (fun h=>?_) fun h=>?_;exact oi (sx 2 (ni (nxs (aL7 _ _ h) (wr [] eS bS))));exact ki (nxs (aL7 _ _ h) (wr [] eS bS))
theorem bH1 (p0:Int):FOk Tryz.prog 78 [(vI p0)] (fun y=>(wQ y)) (P6 p0):=by
 intro r h
 rw [P6] at h;refine ao bEo (si (oi (sx 1 (ni (xi (si (oi (sx 3 (ni (xi (ri ?_)))))))))));injection h with h; subst h;exact rp
theorem L8 (p0:bM):FOk Tryz.prog 77 [(wQ p0)] (fun y=>(bX y)) (jX p0):=by
 intro r h
 rw [jX] at h;refine ao aXb (si (oi (sx 2 (ni (xi (si (oi (sx 1 (kE (c:=[(vI 1),(vI 0),(vB false),(vI p0.kind),(vI p0.num),(vS p0.text),(vS []),(vS []),(.nil 10),(.nil 6)]) kr kr rfl (sx 1 (ni (xi ?_))))))))))));refine iP (s':=⟨[(2,(.ptr 2 0))],[(2,jY (aJ.mk 1 0 false p0 [] [] ([]:List aJ) ([]:List bU)))]⟩) (wr [] eS (fM (c0:=[(vI 1),(vI 0),(vB false),(vI p0.kind),(vI p0.num),(vS p0.text),(vS []),(vS []),(.nil 10),(.nil 6)]) kr (aQ (aU kr kr) (aQ (aU kr kr) (aQ (aU kr kr) (aQ (aU kr kr) (aQ (aU kr kr) (aQ (aU kr kr) (aQ (aU kr kr) (aQ (aU kr kr) (aQ (gU kr kr) (aQ (gU kr kr) fK)))))))))) bJ)) ?_;injection h with h; subst h;exact rp
theorem bI8 (x3 r) (h:X8 x3=some r):aJc x3 r:=by
 rw [X8] at h;delta aJc Z9;refine si (oi (sx 1 (vs (fun (y:List UInt8)=>(vS y)) h (fun y hy=>aF2 (l:=x3) hy kr kr) fun y3 h=>(sx 1 (ni (xi (ri ?_)))))));injection h with h; subst h;exact rp
theorem aJe (p0):(∀ x10 lQ r,wL p0 x10 lQ=some r→aCq p0 x10 lQ r)∧(∀ x10 gI r,vW p0 x10 gI=some r→aCp p0 x10 gI r):=by
 refine wL.mutual_partial_correctness p0 (fun x10 lQ r=>aCq p0 x10 lQ r) (fun x10 gI r=>aCp p0 x10 gI r) ?_ ?_
 · intro bJo aFs x10 lQ r h;delta aCq aGc;exact oi (sx 2 (ni (lbs (aFs _ _ _ h) (tw [.rn [(60050000,60015000)]] (wr [] eS bS)))))
 · intro bJ3 aI2 x10 gI r h;delta aCp U0;refine gX (si (oi (sx 1 (ni (xi (si ?_))))));refine cd h (fun h=>?_) fun h=>?_;refine ki (xi (si (bi (si (oi (sx 1 (aOm (n:=60015000) (k:=.i64) (i:=x10) (l:=gI) (f:=cU8) (g:=cU8) [] h kr kr kr (fun _=>rfl) kr (fun _=>rfl) fun y1 hiy1 h=>?_)))))));refine ps (.d (.i .u8 y1)) (aDi (n:=60015000) (sz:=1) (i:=(x10).toNat) (off:=0) (l:=gI.map cU8) (c:=[(.d (.i .u8 y1))]) kr kr kr) (sx 2 (ni (xi (si (oi (sx 3 (gq 0 (gq 1 (pkA h fun y2 h=>(ni (xi ?_)))))))))));refine cd h (fun h=>?_) fun h=>?_;refine oi (sx 5 (aGx (n:=60015000) (k:=.i64) (i:=x10) (l:=gI.map cU8) (c:=[(.d (.i .u8 y1))]) kr kr (I9 hiy1).1 kr (aMd (n:=60015000) (sz:=1) (i:=(x10).toNat) (off:=0) (l:=gI.map cU8) (c:=[(.d (.i .u8 y1))]) kr kr kr rfl (ni (bn ?_)))));exact nxs (aI2 _ _ _ h) (tw [.clo 60015000,.rn [(60015000,60050000)]] (wr [] eS (bt_ (R:=(gI.set (x10).toNat (IntKind.wrap .u8 ((IntKind.wrap .u8 (y1 - 97))+65))).map cU8) (aC3 (l:=gI) (k:=(x10).toNat) (x:=(IntKind.wrap .u8 ((IntKind.wrap .u8 (y1 - 97))+65))) (fun _=>rfl)) bJ)));exact ki (bn (nxs (aI2 _ _ _ h) (tw [.clo 60015000,.rn [(60015000,60050000)]] (wr [] eS (bt_ (R:=(gI.set (x10).toNat y1).map cU8) (aC3 (l:=gI) (k:=(x10).toNat) (x:=y1) (fun _=>rfl)) bJ)))));exact ei (te (te (bh (nxs (bI8 _ _ h) (tw [.frz [60015000]] (wr [] eS bJ))))))
theorem aI2 (p0 x10 lQ r) (h:wL p0 x10 lQ=some r):aCq p0 x10 lQ r:=(aJe p0).1 x10 lQ r h
theorem aFs (p0 x10 gI r) (h:vW p0 x10 gI=some r):aCp p0 x10 gI r:=(aJe p0).2 x10 gI r h
theorem aIo (p0:List UInt8):FOk Tryz.prog 82 [(vS p0)] (fun y=>(vS y)) (zN p0):=by
 intro r h
 rw [zN] at h;refine ao aZx (si (oi (sx 1 (ni (xi (si (oi (sx 1 (aKs (b:=p0) kr kr rfl (sx 1 (ni (xi (si (si (oi (sx 1 (ps (vI ((iV p0).length:Int)) (aMw (n:=7) (l:=(iV p0).map cU8) (L:=(iV p0).length) kr kr (List.length_map ..)) (sx 1 (ni (xi (bi ?_)))))))))))))))))))));exact lgs (aFs _ _ _ _ h) (tw [.rn [(7,60015000)]] (wr [] eS bS))
theorem aZa (p0) (p1):(∀ x8 r,lD p0 p1 x8=some r→T9 p0 p1 x8 r):=by
 refine lD.partial_correctness p0 p1 (fun x8 r=>T9 p0 p1 x8 r) ?_
 · intro bKz aH5 x8 r h;delta T9 aEw;refine gX (si (oi (sx 1 (ni (xi (si ?_))))));refine cd h (fun h=>?_) fun h=>?_;refine ki (xi (si (bi (si (oi (sx 2 (ni (xi (si (oi (sx 3 (iq h fun y1 h=>(sx 2 (ni (xi ?_)))))))))))))));refine cd h (fun h=>?_) fun h=>?_;refine si (oi (sx 2 (ni (xi (ri (br (tr (tr (br (tr ?_))))))))));injection h with h; subst h;exact rp;exact ki (bn (xi (oi (sx 2 (ni (lbs (aH5 _ _ h) (wr [] eS bJ)))))));refine ei (te (te (bh (xi (si (oi (sx 1 (ni (xi (ri ?_))))))))));injection h with h; subst h;exact rp
theorem aH5 (p0 p1 x8 r) (h:lD p0 p1 x8=some r):T9 p0 p1 x8 r:=(aZa p0 p1) x8 r h
theorem aJd (p0:List (List UInt8)) (p1:List UInt8):FOk Tryz.prog 88 [(zI p0),(vS p1)] (fun y=>(vI y)) (wS p0 p1):=by
 intro r h
 rw [wS] at h;exact ao aUg (si (oi (sx 1 (ni (xi (si (si (oi (sx 1 (lq p0 (sx 1 (ni (xi (bi (lgs (aH5 _ _ _ _ h) (wr [] eS bJ))))))))))))))))
theorem bHa (p0:List UInt8) (p1:List UInt8):FOk Tryz.prog 98 [(vS p0),(vS p1)] (fun y=>(zI y)) (aHg p0 p1):=by
 intro r h
 rw [aHg] at h;exact aU9 (ρ:=sh146_ren) sh146 kr kr kr (.tail _ (.head _)) p0 p1 r h
theorem aRs:FOk Tryz.prog 89 [] (fun y=>(zI y)) (aC1):=by
 intro r h
 rw [aC1] at h;refine ao bBv (si (oi (sx 1 (ni (xi (si (oi (cs h (bHa _ _) fun y1 h=>(sx 1 (ni (xi (ri ?_))))))))))))
 have h:=Option.some.inj h; subst h
 exact rp
theorem aSq (p0:List UInt8):FOk Tryz.prog 81 [(vS p0)] (fun y=>(vI y)) (wF p0):=by
 intro r h
 rw [wF] at h;refine ao bEa (si (oi (sx 1 (ni (xi (si (oi (cs h aRs fun y1 h=>(sx 1 (cs h (aIo _) fun y2 h=>(cs h (aJd _ _) fun y3 h=>(sx 2 (ni (xi (ri ?_)))))))))))))))
 have h:=Option.some.inj h; subst h
 exact rp
theorem bEx (p0:List UInt8):FOk Tryz.prog 83 [(vS p0)] (fun y=>(vB y)) (G5 p0):=by
 intro r h
 rw [G5] at h;refine ao bCf (si (oi (sx 1 (ni (xi (si (oi (sx 4 (gq 0 (gq 1 (gq 1 (pkA h fun y1 h=>(sx 1 (ni (xi (ri ?_))))))))))))))));injection h with h; subst h;exact rp
theorem aMf (p0:List UInt8):FOk Tryz.prog 72 [(vS p0)] (fun y=>(.tup [(vI y.1),(vB y.2)])) (rZ p0):=by
 intro r h
 rw [rZ] at h;exact bFv bIg (.tail _ (.tail _ (.head _))) (.tail _ (.tail _ (.tail _ (.head _)))) (.head _) p0 r h
theorem aX0 (p0:List (List UInt8)) (p1:List UInt8):FOk Tryz.prog 90 [(zI p0),(vS p1)] (fun y=>(vB y)) (aCu p0 p1):=by
 intro r h
 rw [aCu] at h;refine ao aWj (si (oi (sx 1 (ni (xi (si (oi (sx 2 (cs h (aJd _ _) fun y1 h=>(sx 2 (ni (xi (ri ?_)))))))))))));injection h with h; subst h;exact rp
theorem aVx:dV Tryz.prog 91 [] [] (fun (y:List (List UInt8))=>(.osl 2000000 9 1 (y.map cStr))) (fun (y:List (List UInt8))=>[]) (Z5):=by
 intro r h
 rw [Z5] at h;refine ao aZj (si (oi (sx 1 (ni (xi (si (oi (gD (l:=([[40],[41],[44],[46],[42],[43],[45],[47],[37],[61],[60,62],[60],[60,61],[62],[62,61],[124,124]]:List (List UInt8))) (f:=cStr) (g:=cStr) kr (fun _=>rfl) kr (sx 1 (ni (xi ?_)))))))))));refine iP (s':=⟨[(0,(.osl 2000000 9 1 (([[40],[41],[44],[46],[42],[43],[45],[47],[37],[61],[60,62],[60],[60,61],[62],[62,61],[124,124]]:List (List UInt8)).map cStr)))],[]⟩) (wr [(2000000,.old 0)] (eo 0 lF) bJ) ?_;injection h with h; subst h;exact rb
theorem aSi (p0:List UInt8):FOk Tryz.prog 84 [(vS p0)] (fun y=>(vB y)) (K6 p0):=by
 intro r h
 rw [K6] at h;refine ao aU4 (si (oi (sx 1 (ni (xi (si (oi (cg ⟨[],[],[],[],[],[(2000000,3)],[],[3],[]⟩ h aVx fun y1 h=>(sx 1 (cs h (aX0 _ _) fun y2 h=>(sx 1 (ni (xi (ri ?_))))))))))))));injection h with h; subst h;exact rp
theorem bB9 (p0:aB):FOk Tryz.prog 74 [(iZ p0)] (fun y=>(vB y)) (tC p0):=by
 intro r h
 rw [tC] at h;refine ao bGc (si (oi (sx 2 (ni (xi (si (si (oi (sx 2 (ni (xi (bi (si (oi (sx 2 (ni (xi ?_)))))))))))))))));refine cd h (fun h=>?_) fun h=>?_;refine si (gK (dsx 2 (dcs h (aSq _) fun y1 h=>(dsx 2 (dgq 0 (dgq 1 (dgc 1 h (aIo _) fun y2 h=>(dgq 0 (dgq 1 (dgq 2 (zA h fun y3 h=>(dsx 1 (gN kr kr (xi (ri (br (tr ?_)))))))))))))))));injection h with h; subst h;exact rp;refine si (oi (sx 2 (ni (xi ?_))));refine cd h (fun h=>?_) fun h=>?_;refine si (oi (sx 2 (cs h (bEx _) fun y4 h=>(sx 1 (ni (xi (ri (br (tr ?_)))))))));injection h with h; subst h;exact rp;refine si (oi (sx 2 (ni (xi ?_))));refine cd h (fun h=>?_) fun h=>?_;refine si (oi (sx 2 (cs h (aMf _) fun y5 h=>(sx 5 (ni (xi (si (oi (sx 2 (ni (xi (ri (br (tr ?_))))))))))))));injection h with h; subst h;exact rp;refine si (oi (sx 2 (ni (xi ?_))));refine cd h (fun h=>?_) fun h=>?_;refine si (oi (sx 5 (ni (xi (ri (br (tr ?_)))))));injection h with h; subst h;exact rp;refine si (oi (sx 2 (ni (xi ?_))));refine cd h (fun h=>?_) fun h=>?_;refine si (oi (sx 2 (cs h (aSi _) fun y6 h=>(sx 1 (ni (xi (ri (br (tr ?_)))))))));injection h with h; subst h;exact rp;refine ki (bn (xi (si (oi (sx 1 (ni (xi (ri ?_))))))));injection h with h; subst h;exact rp
theorem R7 (p0:aA) (p1:Int):dV Tryz.prog 68 [(.ptr 1000000 0),(vI p1)] [(1000000,aP p0)] (fun (y:Bool)=>(vB y)) (fun (y:Bool)=>[(1000000,aP p0)]) (qP p0 p1):=by
 intro r h
 rw [qP] at h;refine ao aWz (si (oi (sx 1 (ni (xi (si (gK (dsx 6 (dgq 0 (dgq 1 (dgq 1 (dgq 1 (dgq 0 (dgq 1 (dgq 1 (dgq 1 (X9 (p:=true) (b:=(!p0.failed)) (v':=(vI (ln p0.list))) kr rfl rfl (fun hc=>J9 (sz:=3) (l:=p0.list) (f:=cO) (Eq.trans (b:=([(true&&((!p0.failed)==true))]:List Bool).all id) kr (jB hc rfl)) kr) (dgq 2 ?_))))))))))))))))));refine zA h fun y1 h=>(dsx 1 (dgq 0 (dgq 1 (dgq 1 (dgq 1 (dgq 0 (dgq 1 (dgq 1 (dgq 1 ?_)))))))));refine aKc (p:=true) (b:=y1) (m:=idx p0.list p0.at_) (dflt:=default) (v':=fun y=>(.rp (cO y))) h kr rfl rfl (fun y hy hc=>yF (l:=p0.list) (f:=cO) (g:=cO) (k:=.i64) hy (fun _=>rfl) (Eq.trans (b:=([(true&&(y1==true)),(true&&(y1==true))]:List Bool).all id) kr (jB hc (jB hc rfl))) kr kr) fun y2 h=>?_;refine dgq 1 (dgq 1 (dgq 0 (dgq 2 (zA h fun y3 h=>(dsx 1 (dgq 0 (dgq 1 (dgq 1 (dgq 1 (dgq 0 (dgq 1 (dgq 1 (dgq 1 ?_)))))))))))));refine aKc (p:=true) (b:=y3) (m:=idx p0.list p0.at_) (dflt:=default) (v':=fun y=>(.rp (cO y))) h kr rfl rfl (fun y hy hc=>yF (l:=p0.list) (f:=cO) (g:=cO) (k:=.i64) hy (fun _=>rfl) (Eq.trans (b:=([(true&&(y3==true)),(true&&(y3==true))]:List Bool).all id) kr (jB hc (jB hc rfl))) kr kr) fun y4 h=>?_;refine dgq 1 (dgc 1 h (bB9 _) fun y5 h=>(zA h fun y6 h=>(dsx 1 (gN kr kr (xi (ri ?_))))));injection h with h; subst h;exact rb
theorem wN (p0:aA) (p1:Int):dV Tryz.prog 69 [(.ptr 1000000 0),(vI p1)] [(1000000,aP p0)] (fun (y:(List UInt8)×aA)=>(vS y.1)) (fun (y:(List UInt8)×aA)=>[(1000000,aP y.2)]) (oC p0 p1):=by
 intro r h
 rw [oC] at h;refine ao bDu (si (oi (sx 1 (ni (xi (si (si (oi (sx 2 (cg c1_ h (R7 _ _) fun y1 h=>(sx 1 (ni (xi ?_)))))))))))));refine cd h (fun h=>?_) fun h=>?_;refine si (oi (sx 4 (ni (xi (si (oi (sx 1 (ni (xi (ri (tr ?_)))))))))));injection h with h; subst h;exact rb;refine ki (xi (si (oi (sx 8 (ni (xi (si (gK (dsx 9 (diq h fun y2 h=>(dsx 3 (gN kr kr (xi (ri ?_))))))))))))));injection h with h; subst h;exact rb
theorem aN2 (p0:aA):dV Tryz.prog 65 [(.ptr 1000000 0)] [(1000000,aP p0)] (fun (y:Int×aA)=>(vI y.1)) (fun (y:Int×aA)=>[(1000000,aP y.2)]) (E5 p0):=by
 intro r h
 rw [E5] at h;refine ao bHo (si (oi (sx 1 (ni (xi (si (oi (sx 1 (cg c1_ h (wN _ _) fun y1 h=>(cs h (aMf _) fun y2 h=>(sx 5 (ni (xi (si (oi (sx 2 (ni (xi (ri ?_)))))))))))))))))));injection h with h; subst h;exact rb
theorem I4 (p0:aA) (p1:Int) (p2:Int) (p3:List UInt8):dV Tryz.prog 47 [(.ptr 1000000 0),(vI p1),(vI p2),(vS p3)] [(1000000,aP p0)] (fun (y:Bool)=>(vB y)) (fun (y:Bool)=>[(1000000,aP p0)]) (mV p0 p1 p2 p3):=by
 intro r h
 rw [mV] at h;refine ao bH9 (si (oi (sx 1 (ni (xi (si (oi (sx 7 (ni (xi (si (oi (sx 6 (gq 0 (gq 0 (gq 1 (gq 1 (gq 1 (glq 1 p0.list (gq 2 (pkA h fun y1 h=>(sx 1 (gq 0 (gq 1 (gq 1 (gq 1 (gq 0 (giq 2 h fun y2 h=>(gq 1 (gq 1 (gq 0 (gq 2 (pkA h fun y3 h=>(sx 1 (gq 0 (gq 1 (gq 1 (gq 1 (gq 0 (giq 2 h fun y4 h=>(gq 1 (gq 1 (gq 0 (gq 2 (pkA h fun y5 h=>(sx 1 (ni (xi (ri ?_)))))))))))))))))))))))))))))))))))))))))))))))));injection h with h; subst h;exact rb
theorem aTd (p0:aA) (p1:List UInt8):dV Tryz.prog 67 [(.ptr 1000000 0),(vS p1)] [(1000000,aP p0)] (fun (y:Bool)=>(vB y)) (fun (y:Bool)=>[(1000000,aP p0)]) (O3 p0 p1):=by
 intro r h
 rw [O3] at h;refine ao aU3 (si (oi (sx 1 (ni (xi (si (oi (sx 2 (cg c1_ h (I4 _ _ _ _) fun y1 h=>(sx 1 (ni (xi (ri ?_)))))))))))));injection h with h; subst h;exact rb
theorem aNz (y1 p0 bP r) (h:L9 y1 p0 bP=some r):aIl y1 p0 bP r:=by
 rw [L9] at h;delta aIl aG1;refine si (oi (sx 2 (ni (xi (ri ?_)))));injection h with h; subst h;exact rb
theorem qQ (p0:aA) (p1:List UInt8):dV Tryz.prog 60 [(.ptr 1000000 0),(vS p1)] [(1000000,aP p0)] (fun (y:Bool×aA)=>(vB y.1)) (fun (y:Bool×aA)=>[(1000000,aP y.2)]) (mW p0 p1):=by
 intro r h
 rw [mW] at h;refine ao bIb (si (oi (sx 1 (ni (xi (si (oi (sx 2 (cg c1_ h (aTd _ _) fun y1 h=>(sx 1 (ni (xi (si (si (oi (sx 1 (ni (xi ?_))))))))))))))))));refine cd h (fun h=>?_) fun h=>?_;exact oi (sx 8 (ni (nxs (aNz _ _ _ _ h) (wr [] eS bS))));exact ki (nxs (aNz _ _ _ _ h) (wr [] eS bS))
theorem H9 (p0:aA) (p1:List UInt8):dV Tryz.prog 56 [(.ptr 1000000 0),(vS p1)] [(1000000,aP p0)] (fun (y:aA)=>(.tup [])) (fun (y:aA)=>[(1000000,aP y)]) (qI p0 p1):=by
 intro r h
 rw [qI] at h;refine ao aY7 (si (oi (sx 2 (cg c1_ h (qQ _ _) fun y1 h=>(sx 1 (ni (xi ?_)))))));refine cd h (fun h=>?_) fun h=>?_;refine oi (sx 4 (ni (aBk ?_)));injection h with h; subst h;exact r0b;refine ki (aBk ?_);injection h with h; subst h;exact r0b
theorem aLf (p0:aA) (p1:List UInt8):dV Tryz.prog 51 [(.ptr 1000000 0),(vS p1)] [(1000000,aP p0)] (fun (y:Bool)=>(vB y)) (fun (y:Bool)=>[(1000000,aP p0)]) (yB p0 p1):=by
 intro r h
 rw [yB] at h;refine ao aYu (si (oi (sx 1 (ni (xi (si (oi (sx 2 (cg c1_ h (I4 _ _ _ _) fun y1 h=>(sx 1 (ni (xi (ri ?_)))))))))))));injection h with h; subst h;exact rb
theorem aPb (y1 p0 bP r) (h:G7 y1 p0 bP=some r):aM3 y1 p0 bP r:=by
 rw [G7] at h;delta aM3 aE1;refine si (oi (sx 2 (ni (xi (ri ?_)))));injection h with h; subst h;exact rb
theorem jF (p0:aA) (p1:List UInt8):dV Tryz.prog 49 [(.ptr 1000000 0),(vS p1)] [(1000000,aP p0)] (fun (y:Bool×aA)=>(vB y.1)) (fun (y:Bool×aA)=>[(1000000,aP y.2)]) (gZ p0 p1):=by
 intro r h
 rw [gZ] at h;refine ao bHb (si (oi (sx 1 (ni (xi (si (oi (sx 2 (cg c1_ h (aLf _ _) fun y1 h=>(sx 1 (ni (xi (si (si (oi (sx 1 (ni (xi ?_))))))))))))))))));refine cd h (fun h=>?_) fun h=>?_;exact oi (sx 8 (ni (nxs (aPb _ _ _ _ h) (wr [] eS bS))));exact ki (nxs (aPb _ _ _ _ h) (wr [] eS bS))
theorem aJ6 (p0:aA):dV Tryz.prog 70 [(.ptr 1000000 0)] [(1000000,aP p0)] (fun (y:(List UInt8)×aA)=>(vS y.1)) (fun (y:(List UInt8)×aA)=>[(1000000,aP y.2)]) (zH p0):=by
 intro r h
 rw [zH] at h;refine ao aS0 (si (oi (sx 1 (ni (xi (si (si (oi (sx 1 (cg c1_ h (jF _ _) fun y1 h=>(ni (xi ?_))))))))))));refine cd h (fun h=>?_) fun h=>?_;refine si (oi (sx 1 (cg c1_ h (wN _ _) fun y2 h=>(sx 1 (ni (xi (ri (tr ?_))))))));injection h with h; subst h;exact rb;refine ki (xi (si (oi (sx 1 (ni (xi (ri ?_)))))));injection h with h; subst h;exact rb
theorem A8 (p0:aA) (p1:List UInt8):dV Tryz.prog 53 [(.ptr 1000000 0),(vS p1)] [(1000000,aP p0)] (fun (y:aA)=>(.tup [])) (fun (y:aA)=>[(1000000,aP y)]) (nQ p0 p1):=by
 intro r h
 rw [nQ] at h;refine ao aVm (si (oi (sx 2 (cg c1_ h (jF _ _) fun y1 h=>(sx 1 (ni (xi ?_)))))));refine cd h (fun h=>?_) fun h=>?_;refine oi (sx 4 (ni (aBk ?_)));injection h with h; subst h;exact r0b;refine ki (aBk ?_);injection h with h; subst h;exact r0b
theorem aMr (y1 rF cZ bP dC r) (h:O7 y1 rF cZ bP dC=some r):aKb y1 rF cZ bP dC r:=by
 rw [O7] at h;delta aKb aGb;refine si (oi (sx 2 (ni (xi (ri ?_)))));injection h with h; subst h;exact rb
theorem aLs (y2 cK y8 y9 jD uF tV tL rU r) (h:aAo y2 cK y8 y9 jD uF tV tL rU=some r):aJg y2 cK y8 y9 jD uF tV tL rU r:=by
 rw [aAo] at h;delta aJg aDd;refine si (oi (sx 2 (ni (xi (ri ?_)))));injection h with h; subst h;exact rb
theorem aKz (y2 cK y8 y9 jD tJ rV uI r) (h:xR y2 cK y8 y9 jD tJ rV uI=some r):aMn y2 cK y8 y9 jD tJ rV uI r:=by
 rw [xR] at h;delta aMn aBf;refine si (si (oi (sx 1 (cg c1_ h (jF _ _) fun y23 h=>(ni (xi ?_))))));refine cd h (fun h=>?_) fun h=>?_;refine oi (sx 1 (cg c1_ h (aN2 _) fun y24 h=>(sx 2 (ni ?_))));exact nxs (aLs _ _ _ _ _ _ _ _ _ _ h) (wr [(11,.old 11),(25,.old 25),(28,.old 28),(36,.old 36)] eS (bs_ (fM (c0:=[(vB y2.1),(.osl 11 90 13 (cK.map iM)),(.osl 25 99 3 (y8.1.map fZ)),(.osl 28 40 10 (y9.1.map dD)),(.osl 36 94 11 (jD.map jN)),(vI y24.1)]) kr (aQ (aU kr kr) (aQ (eT (t:=11) kr kr) (aQ (eT (t:=25) kr kr) (aQ (eT (t:=28) kr kr) (aQ (eT (t:=36) kr kr) (aQ (aU kr kr) fK)))))) bS)));refine ki ?_;exact nxs (aLs _ _ _ _ _ _ _ _ _ _ h) (wr [(11,.old 11),(25,.old 25),(28,.old 28),(36,.old 36)] eS (bs_ (fM (c0:=[(vB y2.1),(.osl 11 90 13 (cK.map iM)),(.osl 25 99 3 (y8.1.map fZ)),(.osl 28 40 10 (y9.1.map dD)),(.osl 36 94 11 (jD.map jN)),(vI (-1))]) kr (aQ (aU kr kr) (aQ (eT (t:=11) kr kr) (aQ (eT (t:=25) kr kr) (aQ (eT (t:=28) kr kr) (aQ (eT (t:=36) kr kr) (aQ (aU kr kr) fK)))))) bS)))
theorem aHx (p0:aA):dV Tryz.prog 71 [(.ptr 1000000 0)] [(1000000,aP p0)] (fun (y:dN×aA)=>(aQi y.1)) (fun (y:dN×aA)=>[(1000000,aP y.2)]) (wI p0):=by
 intro r h
 rw [wI] at h;refine ao bCg (si (oi (sx 1 (ni (xi (si (oi (sx 1 (cg c1_ h (wN _ _) fun y1 h=>(sx 1 (ni (xi (si (oi (sx 2 (cg c1_ h (aJ6 _) fun y2 h=>(kE (c:=[(vS y1.1),(vS y2.1),(.nil 10)]) kr kr rfl (sx 1 (ni (xi ?_))))))))))))))))))));refine iP (s':=⟨[(2,(.ptr 2 0))],[(2,aUn (dN.mk y1.1 y2.1 ([]:List aJ))),(1000000,aP y2.2)]⟩) (wr [] eS (fM (c0:=[(vS y1.1),(vS y2.1),(.nil 10)]) kr (aQ (aU kr kr) (aQ (aU kr kr) (aQ (gU kr kr) fK))) bS)) ?_;injection h with h; subst h;exact rb
theorem bCw (p0:List UInt8):FOk Tryz.prog 79 [(vS p0)] (fun y=>(wQ y)) (I8 p0):=by
 intro r h
 rw [I8] at h;refine ao aTh (si (oi (sx 1 (ni (xi (si (oi (sx 3 (ni (xi (ri ?_)))))))))));injection h with h; subst h;exact rp
theorem aYj (p0:Int):FOk Tryz.prog 48 [(vI p0)] (fun y=>(vS y)) (uY p0):=by
 intro r h
 rw [uY] at h;refine ao bF5 (si (oi (sx 1 (ni (xi (si (si (oi (sx 3 (gq 0 (gq 1 (pkO h fun y1 h=>(ni (xi ?_))))))))))))));refine cd h (fun h=>?_) fun h=>?_;refine si (oi (sx 1 (ni (xi (ri (tr ?_))))));injection h with h; subst h;exact rp;refine ki (xi (si (oi (gD (l:=([[79,82],[65,78,68],[61],[60,62],[60],[60,61],[62],[62,61],[124,124],[43],[45],[42],[47],[37],[78,79,84],[45]]:List (List UInt8))) (f:=cStr) (g:=cStr) kr (fun _=>rfl) kr (sx 2 (iq h fun y2 h=>(sx 2 (ni (xi (ri ?_))))))))));injection h with h; subst h;exact rp
theorem aQ9 (p1) (p0):(∀ y1 x10 x7 r,vJ y1 p1 x10 p0 x7=some r→aAa y1 p1 x10 p0 x7 r)∧(∀ x10 r,vN p1 p0 x10=some r→aBp p1 p0 x10 r):=by
 refine vJ.mutual_partial_correctness p1 p0 (fun y1 x10 x7 r=>aAa y1 p1 x10 p0 x7 r) (fun x10 r=>aBp p1 p0 x10 r) ?_ ?_
 · intro bLr aGv y1 x10 x7 r h;delta aAa aHn;refine si (oi (sx 3 (cs h (aYj _) fun y3 h=>(cg c1_ h (I4 _ _ _ _) fun y4 h=>(ni (xi ?_))))));refine cd h (fun h=>?_) fun h=>?_;refine si (oi (sx 8 (ni (xi (si (oi (sx 2 (ni (xi (ri (br (tr (tr (br (tr ?_)))))))))))))));injection h with h; subst h;exact rb;exact ki (bn (xi (oi (sx 2 (ni (lbs (aGv _ _ h) (wr [] eS bS)))))))
 · intro bKx aDn x10 r h;delta aBp U2;refine gX (si (oi (sx 1 (ni (xi (si ?_))))));refine cd h (fun h=>?_) fun h=>?_;refine ki (xi (si (bi (si (oi (iqf cI h fun y1 h=>(sx 2 (ni (xi (si (oi (sx 1 (ni (xi (si (si (oi (sx 3 (gq 0 (gq 1 (pkO h fun y2 h=>(ni (xi ?_)))))))))))))))))))))));refine cd h (fun h=>?_) fun h=>?_;exact oi (sx 1 (ni (nxs (aDn _ _ _ _ h) (wr [] eS bS))));exact ki (nxs (aDn _ _ _ _ h) (wr [] eS bS));refine ei (te (te (bh (xi (si (oi (sx 1 (ni (xi (ri ?_))))))))));injection h with h; subst h;exact rb
theorem aDn (y1 p1 x10 p0 x7 r) (h:vJ y1 p1 x10 p0 x7=some r):aAa y1 p1 x10 p0 x7 r:=(aQ9 p1 p0).1 y1 x10 x7 r h
theorem aGv (p1 p0 x10 r) (h:vN p1 p0 x10=some r):aBp p1 p0 x10 r:=(aQ9 p1 p0).2 x10 r h
theorem yJ (p0:aA) (p1:List Int):dV Tryz.prog 41 [(.ptr 1000000 0),(iG p1)] [(1000000,aP p0)] (fun (y:Int×aA)=>(vI y.1)) (fun (y:Int×aA)=>[(1000000,aP y.2)]) (kJ p0 p1):=by
 intro r h
 rw [kJ] at h;exact ao aR7 (si (oi (sx 1 (ni (xi (si (si (oi (sx 1 (lqf cI p1 (sx 1 (ni (xi (bi (lgs (aGv _ _ _ _ h) (wr [] eS bS))))))))))))))))
theorem aJk (p2 aY sI tQ cZ bP dC r) (h:wM p2 aY sI tQ cZ bP dC=some r):aL0 p2 aY sI tQ cZ bP dC r:=by
 rw [wM] at h;delta aL0 aDf;refine si (oi (sx 1 (cg c1_ h (H9 _ _) fun y6 h=>(ni (xi (si (oi (sx 2 (ni (xi (ri ?_)))))))))));injection h with h; subst h;exact rb
theorem fP:(∀ p2 aY bN bQ bL bO aR r,pV p2 aY bN bQ bL bO aR=some r→aAs p2 aY bN bQ bL bO aR r)∧(∀ p0 r,oW p0=some r→bI Tryz.prog 29 [(.ptr 1000000 0)] [(1000000,aP p0)] fun x b=>x=(fun (y:aJ×aA)=>(bX y.1)) r∧bF ((fun (y:aJ×aA)=>[(1000000,aP y.2)]) r) b)∧(∀ p0 p2 r,yY p0 p2=some r→bI Tryz.prog 28 [(.ptr 1000000 0),(.fn 1000043 [(.ptr 1000000 0)]),(iG p2)] [(1000000,aP p0)] fun x b=>x=(fun (y:aJ×aA)=>(bX y.1)) r∧bF ((fun (y:aJ×aA)=>[(1000000,aP y.2)]) r) b)∧(∀ p2 aY bN bQ bL bO aR r,uL p2 aY bN bQ bL bO aR=some r→aD0 p2 aY bN bQ bL bO aR r)∧(∀ p0 r,kH p0=some r→bI Tryz.prog 43 [(.ptr 1000000 0)] [(1000000,aP p0)] fun x b=>x=(fun (y:aJ×aA)=>(bX y.1)) r∧bF ((fun (y:aJ×aA)=>[(1000000,aP y.2)]) r) b)∧(∀ p0 r,jE p0=some r→bI Tryz.prog 50 [(.ptr 1000000 0)] [(1000000,aP p0)] fun x b=>x=(fun (y:aJ×aA)=>(bX y.1)) r∧bF ((fun (y:aJ×aA)=>[(1000000,aP y.2)]) r) b)∧(∀ p0 p1 p2 r,vK p0 p1 p2=some r→bI Tryz.prog 54 [(.ptr 1000000 0),(bX p1),(vB p2)] [(1000000,aP p0)] fun x b=>x=(fun (y:aJ×aA)=>(bX y.1)) r∧bF ((fun (y:aJ×aA)=>[(1000000,aP y.2)]) r) b)∧(∀ p0 r,zU p0=some r→bI Tryz.prog 58 [(.ptr 1000000 0)] [(1000000,aP p0)] fun x b=>x=(fun (y:(List aJ)×aA)=>(.osl 2000000 40 10 (y.1.map dD))) r∧bF ((fun (y:(List aJ)×aA)=>[(1000000,aP y.2)]) r) b)∧(∀ x3 cZ bP dC r,nN x3 cZ bP dC=some r→aBn x3 cZ bP dC r)∧(∀ p0 r,gG p0=some r→bI Tryz.prog 21 [(.ptr 1000000 0)] [(1000000,aP p0)] fun x b=>x=(fun (y:aJ×aA)=>(bX y.1)) r∧bF ((fun (y:aJ×aA)=>[(1000000,aP y.2)]) r) b)∧(∀ p0 p2 r,xN p0 p2=some r→bI Tryz.prog 28 [(.ptr 1000000 0),(.fn 1000029 [(.ptr 1000000 0)]),(iG p2)] [(1000000,aP p0)] fun x b=>x=(fun (y:aJ×aA)=>(bX y.1)) r∧bF ((fun (y:aJ×aA)=>[(1000000,aP y.2)]) r) b)∧(∀ p0 r,qE p0=some r→bI Tryz.prog 57 [(.ptr 1000000 0)] [(1000000,aP p0)] fun x b=>x=(fun (y:bU×aA)=>(V9 y.1)) r∧bF ((fun (y:bU×aA)=>[(1000000,aP y.2)]) r) b)∧(∀ y2 cK cZ bP dC r,qL y2 cK cZ bP dC=some r→aAh y2 cK cZ bP dC r)∧(∀ y2 cK y8 y9 jR lC jV r,qV y2 cK y8 y9 jR lC jV=some r→X7 y2 cK y8 y9 jR lC jV r)∧(∀ p0 r,wU p0=some r→bI Tryz.prog 64 [(.ptr 1000000 0)] [(1000000,aP p0)] fun x b=>x=(fun (y:eF×aA)=>(aB1 y.1)) r∧bF ((fun (y:eF×aA)=>[(1000000,aP y.2)]) r) b)∧(∀ p0 r,Q0 p0=some r→bI Tryz.prog 63 [(.ptr 1000000 0)] [(1000000,aP p0)] fun x b=>x=(fun (y:(List aJ)×aA)=>(.osl 2000000 40 10 (y.1.map dD))) r∧bF ((fun (y:(List aJ)×aA)=>[(1000000,aP y.2)]) r) b)∧(∀ p0 r,aAd p0=some r→bI Tryz.prog 62 [(.ptr 1000000 0)] [(1000000,aP p0)] fun x b=>x=(fun (y:(List dN)×aA)=>(.osl 2000000 99 3 (y.1.map fZ))) r∧bF ((fun (y:(List dN)×aA)=>[(1000000,aP y.2)]) r) b)∧(∀ x3 cZ bP dC r,oI x3 cZ bP dC=some r→aCz x3 cZ bP dC r)∧(∀ p0 r,uZ p0=some r→bI Tryz.prog 61 [(.ptr 1000000 0)] [(1000000,aP p0)] fun x b=>x=(fun (y:dZ×aA)=>(aCf y.1)) r∧bF ((fun (y:dZ×aA)=>[(1000000,aP y.2)]) r) b)∧(∀ p0 r,jQ p0=some r→bI Tryz.prog 52 [(.ptr 1000000 0)] [(1000000,aP p0)] fun x b=>x=(fun (y:aJ×aA)=>(bX y.1)) r∧bF ((fun (y:aJ×aA)=>[(1000000,aP y.2)]) r) b)∧(∀ p0 p2 r,C8 p0 p2=some r→bI Tryz.prog 28 [(.ptr 1000000 0),(.fn 1000055 [(.ptr 1000000 0)]),(iG p2)] [(1000000,aP p0)] fun x b=>x=(fun (y:aJ×aA)=>(bX y.1)) r∧bF ((fun (y:aJ×aA)=>[(1000000,aP y.2)]) r) b)∧(∀ p2 aY bN bQ bL bO aR r,sS p2 aY bN bQ bL bO aR=some r→aCk p2 aY bN bQ bL bO aR r)∧(∀ p0 r,pK p0=some r→bI Tryz.prog 55 [(.ptr 1000000 0)] [(1000000,aP p0)] fun x b=>x=(fun (y:aJ×aA)=>(bX y.1)) r∧bF ((fun (y:aJ×aA)=>[(1000000,aP y.2)]) r) b)∧(∀ p0 p2 r,yI p0 p2=some r→bI Tryz.prog 28 [(.ptr 1000000 0),(.fn 1000059 [(.ptr 1000000 0)]),(iG p2)] [(1000000,aP p0)] fun x b=>x=(fun (y:aJ×aA)=>(bX y.1)) r∧bF ((fun (y:aJ×aA)=>[(1000000,aP y.2)]) r) b)∧(∀ p2 aY bN bQ bL bO aR r,uG p2 aY bN bQ bL bO aR=some r→V8 p2 aY bN bQ bL bO aR r)∧(∀ p0 r,oU p0=some r→bI Tryz.prog 59 [(.ptr 1000000 0)] [(1000000,aP p0)] fun x b=>x=(fun (y:aJ×aA)=>(bX y.1)) r∧bF ((fun (y:aJ×aA)=>[(1000000,aP y.2)]) r) b)∧(∀ p0 p2 r,F5 p0 p2=some r→bI Tryz.prog 28 [(.ptr 1000000 0),(.fn 1000066 [(.ptr 1000000 0)]),(iG p2)] [(1000000,aP p0)] fun x b=>x=(fun (y:aJ×aA)=>(bX y.1)) r∧bF ((fun (y:aJ×aA)=>[(1000000,aP y.2)]) r) b)∧(∀ p2 aY bN bQ bL bO aR r,rJ p2 aY bN bQ bL bO aR=some r→aBa p2 aY bN bQ bL bO aR r)∧(∀ p0 r,jZ p0=some r→bI Tryz.prog 66 [(.ptr 1000000 0)] [(1000000,aP p0)] fun x b=>x=(fun (y:aJ×aA)=>(bX y.1)) r∧bF ((fun (y:aJ×aA)=>[(1000000,aP y.2)]) r) b)∧(∀ p0 r,kN p0=some r→bI Tryz.prog 73 [(.ptr 1000000 0)] [(1000000,aP p0)] fun x b=>x=(fun (y:aJ×aA)=>(bX y.1)) r∧bF ((fun (y:aJ×aA)=>[(1000000,aP y.2)]) r) b):=by
 refine pV.mutual_partial_correctness (fun p2 aY bN bQ bL bO aR r=>aAs p2 aY bN bQ bL bO aR r) (fun p0 r=>bI Tryz.prog 29 [(.ptr 1000000 0)] [(1000000,aP p0)] fun x b=>x=(fun (y:aJ×aA)=>(bX y.1)) r∧bF ((fun (y:aJ×aA)=>[(1000000,aP y.2)]) r) b) (fun p0 p2 r=>bI Tryz.prog 28 [(.ptr 1000000 0),(.fn 1000043 [(.ptr 1000000 0)]),(iG p2)] [(1000000,aP p0)] fun x b=>x=(fun (y:aJ×aA)=>(bX y.1)) r∧bF ((fun (y:aJ×aA)=>[(1000000,aP y.2)]) r) b) (fun p2 aY bN bQ bL bO aR r=>aD0 p2 aY bN bQ bL bO aR r) (fun p0 r=>bI Tryz.prog 43 [(.ptr 1000000 0)] [(1000000,aP p0)] fun x b=>x=(fun (y:aJ×aA)=>(bX y.1)) r∧bF ((fun (y:aJ×aA)=>[(1000000,aP y.2)]) r) b) (fun p0 r=>bI Tryz.prog 50 [(.ptr 1000000 0)] [(1000000,aP p0)] fun x b=>x=(fun (y:aJ×aA)=>(bX y.1)) r∧bF ((fun (y:aJ×aA)=>[(1000000,aP y.2)]) r) b) (fun p0 p1 p2 r=>bI Tryz.prog 54 [(.ptr 1000000 0),(bX p1),(vB p2)] [(1000000,aP p0)] fun x b=>x=(fun (y:aJ×aA)=>(bX y.1)) r∧bF ((fun (y:aJ×aA)=>[(1000000,aP y.2)]) r) b) (fun p0 r=>bI Tryz.prog 58 [(.ptr 1000000 0)] [(1000000,aP p0)] fun x b=>x=(fun (y:(List aJ)×aA)=>(.osl 2000000 40 10 (y.1.map dD))) r∧bF ((fun (y:(List aJ)×aA)=>[(1000000,aP y.2)]) r) b) (fun x3 cZ bP dC r=>aBn x3 cZ bP dC r) (fun p0 r=>bI Tryz.prog 21 [(.ptr 1000000 0)] [(1000000,aP p0)] fun x b=>x=(fun (y:aJ×aA)=>(bX y.1)) r∧bF ((fun (y:aJ×aA)=>[(1000000,aP y.2)]) r) b) (fun p0 p2 r=>bI Tryz.prog 28 [(.ptr 1000000 0),(.fn 1000029 [(.ptr 1000000 0)]),(iG p2)] [(1000000,aP p0)] fun x b=>x=(fun (y:aJ×aA)=>(bX y.1)) r∧bF ((fun (y:aJ×aA)=>[(1000000,aP y.2)]) r) b) (fun p0 r=>bI Tryz.prog 57 [(.ptr 1000000 0)] [(1000000,aP p0)] fun x b=>x=(fun (y:bU×aA)=>(V9 y.1)) r∧bF ((fun (y:bU×aA)=>[(1000000,aP y.2)]) r) b) (fun y2 cK cZ bP dC r=>aAh y2 cK cZ bP dC r) (fun y2 cK y8 y9 jR lC jV r=>X7 y2 cK y8 y9 jR lC jV r) (fun p0 r=>bI Tryz.prog 64 [(.ptr 1000000 0)] [(1000000,aP p0)] fun x b=>x=(fun (y:eF×aA)=>(aB1 y.1)) r∧bF ((fun (y:eF×aA)=>[(1000000,aP y.2)]) r) b) (fun p0 r=>bI Tryz.prog 63 [(.ptr 1000000 0)] [(1000000,aP p0)] fun x b=>x=(fun (y:(List aJ)×aA)=>(.osl 2000000 40 10 (y.1.map dD))) r∧bF ((fun (y:(List aJ)×aA)=>[(1000000,aP y.2)]) r) b) (fun p0 r=>bI Tryz.prog 62 [(.ptr 1000000 0)] [(1000000,aP p0)] fun x b=>x=(fun (y:(List dN)×aA)=>(.osl 2000000 99 3 (y.1.map fZ))) r∧bF ((fun (y:(List dN)×aA)=>[(1000000,aP y.2)]) r) b) (fun x3 cZ bP dC r=>aCz x3 cZ bP dC r) (fun p0 r=>bI Tryz.prog 61 [(.ptr 1000000 0)] [(1000000,aP p0)] fun x b=>x=(fun (y:dZ×aA)=>(aCf y.1)) r∧bF ((fun (y:dZ×aA)=>[(1000000,aP y.2)]) r) b) (fun p0 r=>bI Tryz.prog 52 [(.ptr 1000000 0)] [(1000000,aP p0)] fun x b=>x=(fun (y:aJ×aA)=>(bX y.1)) r∧bF ((fun (y:aJ×aA)=>[(1000000,aP y.2)]) r) b) (fun p0 p2 r=>bI Tryz.prog 28 [(.ptr 1000000 0),(.fn 1000055 [(.ptr 1000000 0)]),(iG p2)] [(1000000,aP p0)] fun x b=>x=(fun (y:aJ×aA)=>(bX y.1)) r∧bF ((fun (y:aJ×aA)=>[(1000000,aP y.2)]) r) b) (fun p2 aY bN bQ bL bO aR r=>aCk p2 aY bN bQ bL bO aR r) (fun p0 r=>bI Tryz.prog 55 [(.ptr 1000000 0)] [(1000000,aP p0)] fun x b=>x=(fun (y:aJ×aA)=>(bX y.1)) r∧bF ((fun (y:aJ×aA)=>[(1000000,aP y.2)]) r) b) (fun p0 p2 r=>bI Tryz.prog 28 [(.ptr 1000000 0),(.fn 1000059 [(.ptr 1000000 0)]),(iG p2)] [(1000000,aP p0)] fun x b=>x=(fun (y:aJ×aA)=>(bX y.1)) r∧bF ((fun (y:aJ×aA)=>[(1000000,aP y.2)]) r) b) (fun p2 aY bN bQ bL bO aR r=>V8 p2 aY bN bQ bL bO aR r) (fun p0 r=>bI Tryz.prog 59 [(.ptr 1000000 0)] [(1000000,aP p0)] fun x b=>x=(fun (y:aJ×aA)=>(bX y.1)) r∧bF ((fun (y:aJ×aA)=>[(1000000,aP y.2)]) r) b) (fun p0 p2 r=>bI Tryz.prog 28 [(.ptr 1000000 0),(.fn 1000066 [(.ptr 1000000 0)]),(iG p2)] [(1000000,aP p0)] fun x b=>x=(fun (y:aJ×aA)=>(bX y.1)) r∧bF ((fun (y:aJ×aA)=>[(1000000,aP y.2)]) r) b) (fun p2 aY bN bQ bL bO aR r=>aBa p2 aY bN bQ bL bO aR r) (fun p0 r=>bI Tryz.prog 66 [(.ptr 1000000 0)] [(1000000,aP p0)] fun x b=>x=(fun (y:aJ×aA)=>(bX y.1)) r∧bF ((fun (y:aJ×aA)=>[(1000000,aP y.2)]) r) b) (fun p0 r=>bI Tryz.prog 73 [(.ptr 1000000 0)] [(1000000,aP p0)] fun x b=>x=(fun (y:aJ×aA)=>(bX y.1)) r∧bF ((fun (y:aJ×aA)=>[(1000000,aP y.2)]) r) b) ?_ ?_ ?_ ?_ ?_ ?_ ?_ ?_ ?_ ?_ ?_ ?_ ?_ ?_ ?_ ?_ ?_ ?_ ?_ ?_ ?_ ?_ ?_ ?_ ?_ ?_ ?_ ?_ ?_ ?_
 · intro aXs aS1 aB3 Y8 p2 aY bN bQ bL bO aR r h;delta aAs aFm;refine gX (bi (si (oi (sx 2 (cg c1_ h (yJ _ _) fun y2 h=>(sx 1 (ni (xi (si (si (oi (sx 2 (ni (xi ?_))))))))))))));refine cd h (fun h=>?_) fun h=>?_;refine si (oi (sx 2 (ni (xi (ri (tr (br (tr (br ?_)))))))));injection h with h; subst h;exact rb;refine ki (xi (gK (dsx 3 (M4 c1_ [] [] [(.ptr 1000000 0)] h (Y8 _) fun y3 h=>(dcs h (yH _ _ _) fun y4 h=>(dsx 1 (gN kr kr (bn ?_))))))));exact lbs (aB3 _ _ _ _ _ _ (_,_,_,_,_,_,_,_) _ h) (wr [] eS bS)
 · intro bLe aNs p0 r h;refine ao bB5 (si (oi (sx 1 (ni (xi (si (oi (sx 3 (gD (l:=([2]:List Int)) (f:=cI) (g:=cI) kr (fun _=>rfl) kr (cg c1_ h (aNs _ _) fun y1 h=>(sx 1 (ni (xi (ri ?_))))))))))))));injection h with h; subst h;exact rb
 · intro aR9 aJb aAw yE p0 p2 r h;refine ao aSk (si (oi (sx 1 (ni (xi (si (oi (sx 1 (cgm c1_ [(.ptr 1000000 0)] h (yE _) fun y1 h=>(sx 2 (ni (xi (bi ?_)))))))))))));exact lgs (aAw _ _ _ _ _ _ (_,_,_,_,_,_,_,_) _ h) (wr [] eS bS)
 · intro aR9 aJb aAw yE p2 aY bN bQ bL bO aR r h;delta aD0 aEe;refine gX (bi (si (oi (sx 2 (cg c1_ h (yJ _ _) fun y2 h=>(sx 1 (ni (xi (si (si (oi (sx 2 (ni (xi ?_))))))))))))));refine cd h (fun h=>?_) fun h=>?_;refine si (oi (sx 2 (ni (xi (ri (tr (br (tr (br ?_)))))))));injection h with h; subst h;exact rb;refine ki (xi (gK (dsx 3 (M4 c1_ [] [] [(.ptr 1000000 0)] h (yE _) fun y3 h=>(dcs h (yH _ _ _) fun y4 h=>(dsx 1 (gN kr kr (bn ?_))))))));exact lbs (aAw _ _ _ _ _ _ (_,_,_,_,_,_,_,_) _ h) (wr [] eS bS)
 · intro aJb bJm yE aMi p0 r h;refine ao bG5 (si (oi (sx 1 (ni (xi (si (si (oi (sx 1 (cg c1_ h (jF _ _) fun y1 h=>(ni (xi ?_))))))))))));refine cd h (fun h=>?_) fun h=>?_;refine si (oi (sx 1 (cg c1_ h (yE _) fun y2 h=>(gD (l:=([y2.1]:List aJ)) (f:=dD) (g:=jO) kr kP kr (kE (c:=[(vI 3),(vI 15),(vB false),(vI 0),(vI 0),(vS []),(vS []),(vS []),(.osl 7 40 10 (([y2.1]:List aJ).map dD)),(.nil 6)]) kr kr rfl ?_)))));refine sx 1 (ni (xi ?_));refine iP (s':=⟨[(2,(.ptr 2 0))],[(2,jY (aJ.mk 3 15 false (bM.mk 0 0 []) [] [] ([y2.1]:List aJ) ([]:List bU))),(1000000,aP y2.2)]⟩) (wr [] eS (fM (c0:=[(vI 3),(vI 15),(vB false),(vI 0),(vI 0),(vS []),(vS []),(vS []),(.osl 7 40 10 (([y2.1]:List aJ).map dD)),(.nil 6)]) kr (aQ (aU kr kr) (aQ (aU kr kr) (aQ (aU kr kr) (aQ (aU kr kr) (aQ (aU kr kr) (aQ (aU kr kr) (aQ (aU kr kr) (aQ (aU kr kr) (aQ (gU kr kr) (aQ (gU kr kr) fK)))))))))) bS)) ?_;refine tr ?_;injection h with h; subst h;exact rb;refine ki (xi (si (oi (sx 1 (cg c1_ h (aMi _) fun y3 h=>(sx 1 (ni (xi (ri ?_)))))))));injection h with h; subst h;exact rb
 · intro bJk bL0 aQ3 O8 p0 r h;refine ao bA3 (si (oi (sx 1 (ni (xi (si (oi (sx 1 (cg c1_ h (O8 _) fun y1 h=>(sx 2 (ni (xi (si (si (oi (sx 1 (gD (l:=([3,4,5,6,7,8]:List Int)) (f:=cI) (g:=cI) kr (fun _=>rfl) kr (cg c1_ h (yJ _ _) fun y2 h=>?_))))))))))))))))));refine sx 1 (ni (xi (si (oi (sx 2 (ni (xi ?_)))))));refine cd h (fun h=>?_) fun h=>?_;refine si (gK (dsx 3 (dcg c1_ [] [] h (O8 _) fun y3 h=>(dcs h (yH _ _ _) fun y4 h=>(dsx 1 (gN kr kr (xi (ri (tr ?_)))))))));injection h with h; subst h;exact rb;refine ki (xi (si (si (oi (sx 1 (cg c1_ h (jF _ _) fun y5 h=>(ni (xi ?_))))))));refine cd h (fun h=>?_) fun h=>?_;refine si (oi (sx 1 (cg c1_ h (jF _ _) fun y6 h=>(sx 1 (ni (xi (si (oi (sx 1 (cg c1_ h (A8 _ _) fun y7 h=>(ni (xi (si (oi (sx 2 (gD (l:=([y1.1]:List aJ)) (f:=dD) (g:=jO) kr kP kr ?_))))))))))))))));refine kE (c:=[(vI 5),(vI 0),(vB y6.1),(vI 0),(vI 0),(vS []),(vS []),(vS []),(.osl 28 40 10 (([y1.1]:List aJ).map dD)),(.nil 6)]) kr kr rfl (sx 1 (ni (xi ?_)));refine iP (s':=⟨[(2,(.ptr 2 0))],[(2,jY (aJ.mk 5 0 y6.1 (bM.mk 0 0 []) [] [] ([y1.1]:List aJ) ([]:List bU))),(1000000,aP y7)]⟩) (wr [] eS (fM (c0:=[(vI 5),(vI 0),(vB y6.1),(vI 0),(vI 0),(vS []),(vS []),(vS []),(.osl 28 40 10 (([y1.1]:List aJ).map dD)),(.nil 6)]) kr (aQ (aU kr kr) (aQ (aU kr kr) (aQ (aU kr kr) (aQ (aU kr kr) (aQ (aU kr kr) (aQ (aU kr kr) (aQ (aU kr kr) (aQ (aU kr kr) (aQ (gU kr kr) (aQ (gU kr kr) fK)))))))))) bS)) ?_;refine tr ?_;injection h with h; subst h;exact rb;refine ki (xi (si (oi (sx 1 (cg c1_ h (jF _ _) fun y8 h=>(sx 1 (ni (xi (si (bi (si (oi (sx 1 (cg c1_ h (jF _ _) fun y9 h=>(sx 1 (ni (xi ?_)))))))))))))))));refine cd h (fun h=>?_) fun h=>?_;refine si (oi (sx 1 (cg c1_ h (O8 _) fun y10 h=>(sx 2 (ni (xi (si (oi (sx 1 (cg c1_ h (A8 _ _) fun y11 h=>(ni (xi (si (gK (dsx 4 (dcg c1_ [] [] h (O8 _) fun y12 h=>?_))))))))))))))));refine aHp (l:=([y1.1,y10.1,y12.1]:List aJ)) (f:=dD) (g:=jO) kr kP (dsx 2 (gN kr kr (xi (ri (br (tr ?_))))));injection h with h; subst h;exact rb;refine si (oi (sx 1 (cg c1_ h (jF _ _) fun y13 h=>(sx 1 (ni (xi ?_))))));refine cd h (fun h=>?_) fun h=>?_;refine si (oi (sx 3 (cg c1_ h (aQ3 _ _ _) fun y14 h=>(sx 1 (ni (xi (ri (br (tr ?_)))))))));injection h with h; subst h;exact rb;refine ki (bn (xi (si (oi (sx 6 (gq 0 (pkO h fun y15 h=>(sx 3 (ni (xi (si (oi (sx 2 (ni (xi (ri ?_))))))))))))))));injection h with h; subst h;exact rb
 · intro bKd bDc aQg aBm p0 p1 p2 r h;refine ao bAv (si (oi (sx 2 (ni (xi (si (oi (sx 1 (cg c1_ h (H9 _ _) fun y1 h=>(ni (xi (si (oi (sx 2 (gD (l:=([p1]:List aJ)) (f:=dD) (g:=jO) kr kP kr ?_)))))))))))))));refine kE (c:=[(vI 7),(vI 0),(vB p2),(vI 0),(vI 0),(vS []),(vS []),(vS []),(.osl 12 40 10 (([p1]:List aJ).map dD)),(.nil 6)]) kr kr rfl (sx 2 (ni (xi (si (si (oi (sx 1 (cg c1_ h (aLf _ _) fun y2 h=>(ni (xi ?_))))))))));refine cd h (fun h=>?_) fun h=>?_;refine oi (sx 1 (cg c1_ h (aBm _) fun y3 h=>(gD (l:=([y3.1]:List bU)) (f:=kV) (g:=rO) kr aCo kr (sx 4 (ni ?_)))));exact nxs (aJk _ _ _ _ _ _ _ _ h) (wr [(12,.old 12),(18,.old 18)] eS (bs_ (fM (c0:=[(vI 8),(vI 0),(vB p2),(vI 0),(vI 0),(vS []),(vS []),(vS []),(.osl 12 40 10 (([p1]:List aJ).map dD)),(.osl 18 86 6 (([y3.1]:List bU).map kV))]) kr (aQ (aU kr kr) (aQ (aU kr kr) (aQ (aU kr kr) (aQ (aU kr kr) (aQ (aU kr kr) (aQ (aU kr kr) (aQ (aU kr kr) (aQ (aU kr kr) (aQ (eT (t:=12) kr kr) (aQ (eT (t:=18) kr kr) fK)))))))))) bS)));refine gK (dsx 3 (dcg ⟨[(1000000,1000000)],[],[],[],[],[(2000000,24)],[],[24],[]⟩ [] [] h (aQg _) fun y4 h=>(daq 12 [12,13,22] [7] dD h fun y5 h=>(dsx 2 (gN kr kr ?_)))));exact nxs (aJk _ _ _ _ _ _ _ _ h) (wr [(12,.old 25),(18,.new 86 6)] eS (bs_ (fM (c0:=[(vI 7),(vI 0),(vB p2),(vI 0),(vI 0),(vS []),(vS []),(vS []),(.osl 25 40 10 (y5.map dD)),(.nil 6)]) kr (aQ (aU kr kr) (aQ (aU kr kr) (aQ (aU kr kr) (aQ (aU kr kr) (aQ (aU kr kr) (aQ (aU kr kr) (aQ (aU kr kr) (aQ (aU kr kr) (aQ (eT (t:=25) kr kr) (aQ (aG0 kr kr) fK)))))))))) bS)))
 · intro aUd zP aA0 lG p0 r h;exact ao bAh (si (oi (sx 1 (ni (xi (si (oi (sx 1 (cg c1_ h (lG _) fun y1 h=>(gD (l:=([y1.1]:List aJ)) (f:=dD) (g:=jO) kr kP kr (sx 1 (ni (xi (si (bi (lgs (aA0 _ _ _ _ _ h) (wr [(3,.old 3)] (es (eo 3 lF)) bS)))))))))))))))))
 · intro aUd zP aA0 lG x3 cZ bP dC r h;delta aBn aGi;refine gX (si (si (oi (sx 1 (cg c1_ h (qQ _ _) fun y2 h=>(ni (xi ?_)))))));refine cd h (fun h=>?_) fun h=>?_;exact ki (xi (bi (oi (sx 2 (cg c1_ h (lG _) fun y3 h=>(gD (l:=([y3.1]:List aJ)) (f:=dD) (g:=jO) kr kP kr (aq 3 dD h fun y4 h=>(sx 1 (ni (bn (lbs (aA0 _ _ _ _ _ h) (wr [(3,.old 3)] (es (eo 3 lF)) bS))))))))))));refine ei (te (te (bh (xi (si (oi (sx 2 (ni (xi ?_)))))))));refine iP (s':=⟨[(2,(.osl 2000000 40 10 (x3.map dD)))],[(1000000,aP y2.2)]⟩) (wr [(2000000,.old 2)] (eo 2 lF) bS) ?_;injection h with h; subst h;exact rb
 · intro bJf aNb p0 r h;refine ao aRt (si (oi (sx 1 (ni (xi (si (oi (sx 3 (gD (l:=([1]:List Int)) (f:=cI) (g:=cI) kr (fun _=>rfl) kr (cg c1_ h (aNb _ _) fun y1 h=>(sx 1 (ni (xi (ri ?_))))))))))))));injection h with h; subst h;exact rb
 · intro aXs aS1 aB3 Y8 p0 p2 r h;refine ao aVt (si (oi (sx 1 (ni (xi (si (oi (sx 1 (cgm c1_ [(.ptr 1000000 0)] h (Y8 _) fun y1 h=>(sx 2 (ni (xi (bi ?_)))))))))))));exact lgs (aB3 _ _ _ _ _ _ (_,_,_,_,_,_,_,_) _ h) (wr [] eS bS)
 · intro aQz aVs X3 aBb p0 r h;refine ao bEn (si (oi (sx 1 (ni (xi (si (oi (sx 1 (cg c1_ h (A8 _ _) fun y1 h=>(ni (xi (si (oi (sx 1 (cg c1_ h (jF _ _) fun y2 h=>?_)))))))))))))));refine kE (c:=[(vB y2.1),(.nil 13),(.nil 3),(.nil 10),(.nil 11),(vI (-1))]) kr kr rfl (sx 2 (ni (xi (si (oi (sx 1 (cg c1_ h (aBb _) fun y3 h=>(gD (l:=([y3.1]:List dZ)) (f:=iM) (g:=vV) kr aGk kr (sx 2 (ni (xi (si (bi ?_)))))))))))));exact lgs (X3 _ _ _ _ _ _ h) (wr [(11,.old 11)] eS (bs_ (fM (c0:=[(vB y2.1),(.osl 11 90 13 (([y3.1]:List dZ).map iM)),(.nil 3),(.nil 10),(.nil 11),(vI (-1))]) kr (aQ (aU kr kr) (aQ (eT (t:=11) kr kr) (aQ (aU kr kr) (aQ (aU kr kr) (aQ (aU kr kr) (aQ (aU kr kr) fK)))))) bS)))
 · intro aQz bCv bG3 bJh bKb aVs X3 aBq V7 aP5 aMv aBb y2 cK cZ bP dC r h;delta aAh aDq;refine gX (si (si (oi (sx 1 (cg c1_ h (qQ _ _) fun y4 h=>(ni (xi ?_)))))));refine cd h (fun h=>?_) fun h=>?_;refine ki (xi (bi (gK (dsx 3 (dcg c1_ [] [] h (aBb _) fun y5 h=>(aHp (l:=([y5.1]:List dZ)) (f:=iM) (g:=vV) kr aGk (daq 11 [16] [3] iM h fun y6 h=>(dsx 2 (gN kr kr (bn ?_))))))))));exact lbs (X3 _ _ _ _ _ _ h) (wr [(11,.old 20)] eS (bs_ (fM (c0:=[(vB y2.1),(.osl 20 90 13 (y6.map iM)),(.nil 3),(.nil 10),(.nil 11),(vI (-1))]) kr (aQ (aU kr kr) (aQ (eT (t:=20) kr kr) (aQ (aU kr kr) (aQ (aU kr kr) (aQ (aU kr kr) (aQ (aU kr kr) fK)))))) bS)));refine ei (te (te (bh (xi (si (oi (sx 1 (cg c1_ h (A8 _ _) fun y7 h=>(ni (xi (si (oi (sx 1 (cg ⟨[(1000000,1000000)],[],[],[],[],[(2000000,25)],[],[25],[]⟩ h (aMv _) fun y8 h=>(sx 2 (ni (xi (si (oi (sx 1 ?_))))))))))))))))))));refine cg ⟨[(1000000,1000000)],[],[],[],[],[(2000000,28)],[],[28],[]⟩ h (aP5 _) fun y9 h=>?_;let a0:St:=⟨(29,(.ptr 3 3))::(28,(.osl 28 40 10 (y9.1.map dD)))::(27,(.ptr 1000000 0))::(26,(.ptr 3 2))::(25,(.osl 25 99 3 (y8.1.map fZ)))::(24,(.ptr 1000000 0))::(23,(.tup []))::(22,(.ptr 1000000 0))::(14,(vB y4.1))::(13,(.ptr 1000000 0))::(aNp y2 cK cZ bP dC).env,[(2,[(vB false),(.nil 13),(.nil 3),(.nil 10),(.nil 11),(vI 0)]),(3,[(vB y2.1),(.osl 11 90 13 (cK.map iM)),(.osl 25 99 3 (y8.1.map fZ)),(.osl 28 40 10 (y9.1.map dD)),(.nil 11),(vI (-1))]),(1000000,aP y9.2)]⟩;refine st 2 a0 (ni (xi (si (si (oi (sx 1 (cg c1_ h (jF _ _) fun y10 h=>(ni (xi ?_)))))))));refine cd h (fun h=>?_) fun h=>?_;refine si (oi (sx 1 (cg c1_ h (A8 _ _) fun y11 h=>(ni (xi (si (oi (sx 1 (cg c1_ h (V7 _) fun y12 h=>(gD (l:=([y12.1]:List eF)) (f:=jN) (g:=wP) kr aFc kr (sx 2 (ni (xi (bi ?_))))))))))))));exact lgs (aBq _ _ _ _ _ _ (_,_) _ h) (wr [(11,.old 11),(25,.old 25),(28,.old 28),(36,.old 36)] eS (bs_ (fM (c0:=[(vB y2.1),(.osl 11 90 13 (cK.map iM)),(.osl 25 99 3 (y8.1.map fZ)),(.osl 28 40 10 (y9.1.map dD)),(.osl 36 94 11 (([y12.1]:List eF).map jN)),(vI (-1))]) kr (aQ (aU kr kr) (aQ (eT (t:=11) kr kr) (aQ (eT (t:=25) kr kr) (aQ (eT (t:=28) kr kr) (aQ (eT (t:=36) kr kr) (aQ (aU kr kr) fK)))))) bS)));refine ki ?_;exact nxs (aKz _ _ _ _ _ _ _ _ _ h) (wr [(11,.old 11),(25,.old 25),(28,.old 28),(36,.new 94 11)] eS (bs_ (fM (c0:=[(vB y2.1),(.osl 11 90 13 (cK.map iM)),(.osl 25 99 3 (y8.1.map fZ)),(.osl 28 40 10 (y9.1.map dD)),(.nil 11),(vI (-1))]) kr (aQ (aU kr kr) (aQ (eT (t:=11) kr kr) (aQ (eT (t:=25) kr kr) (aQ (eT (t:=28) kr kr) (aQ (aG0 kr kr) (aQ (aU kr kr) fK)))))) bS)))
 · intro bCv bG3 aBq V7 y2 cK y8 y9 jR lC jV r h;delta X7 aEv;refine gX (si (si (oi (sx 1 (cg c1_ h (qQ _ _) fun y20 h=>(ni (xi ?_)))))));refine cd h (fun h=>?_) fun h=>?_;refine ki (xi (bi (gK (dsx 3 (dcg c1_ [] [] h (V7 _) fun y21 h=>(aHp (l:=([y21.1]:List eF)) (f:=jN) (g:=wP) kr aFc (daq 36 [41] [3] jN h fun y22 h=>(dsx 2 (gN kr kr (bn ?_))))))))));exact lbs (aBq _ _ _ _ _ _ (_,_) _ h) (wr [(11,.old 11),(25,.old 25),(28,.old 28),(36,.old 45)] eS (bs_ (fM (c0:=[(vB y2.1),(.osl 11 90 13 (cK.map iM)),(.osl 25 99 3 (y8.1.map fZ)),(.osl 28 40 10 (y9.1.map dD)),(.osl 45 94 11 (y22.map jN)),(vI (-1))]) kr (aQ (aU kr kr) (aQ (eT (t:=11) kr kr) (aQ (eT (t:=25) kr kr) (aQ (eT (t:=28) kr kr) (aQ (eT (t:=45) kr kr) (aQ (aU kr kr) fK)))))) bS)));refine ei (te (te (bh ?_)));exact nxs (aKz _ _ _ _ _ _ _ _ _ h) (wr [(11,.old 11),(25,.old 25),(28,.old 28),(36,.old 36)] eS (bs_ (fM (c0:=[(vB y2.1),(.osl 11 90 13 (cK.map iM)),(.osl 25 99 3 (y8.1.map fZ)),(.osl 28 40 10 (y9.1.map dD)),(.osl 36 94 11 (jR.map jN)),(vI (-1))]) kr (aQ (aU kr kr) (aQ (eT (t:=11) kr kr) (aQ (eT (t:=25) kr kr) (aQ (eT (t:=28) kr kr) (aQ (eT (t:=36) kr kr) (aQ (aU kr kr) fK)))))) bS)))
 · intro zP lG p0 r h;refine ao aY8 (si (oi (sx 1 (ni (xi (si (oi (sx 1 (cg c1_ h (lG _) fun y1 h=>(sx 3 (ni (xi (si (si (oi (sx 1 (cg c1_ h (jF _ _) fun y2 h=>(sx 1 (ni (xi ?_))))))))))))))))))));refine cd h (fun h=>?_) fun h=>?_;exact oi (sx 1 (cg c1_ h (jF _ _) fun y3 h=>(sx 2 (ni (nxs (aMr _ _ _ _ _ _ h) (wr [] eS bS))))));exact ki (nxs (aMr _ _ _ _ _ _ h) (wr [] eS bS))
 · intro zP lG p0 r h;refine ao aVf (si (oi (sx 1 (ni (xi (si (si (oi (sx 1 (cg c1_ h (jF _ _) fun y1 h=>(ni (xi ?_))))))))))));refine cd h (fun h=>?_) fun h=>?_;refine si (oi (sx 1 (cg c1_ h (lG _) fun y2 h=>(gD (l:=([y2.1]:List aJ)) (f:=dD) (g:=jO) kr kP kr (sx 1 (ni (xi ?_)))))));refine iP (s':=⟨[(2,(.osl 2000000 40 10 (([y2.1]:List aJ).map dD)))],[(1000000,aP y2.2)]⟩) (wr [(2000000,.old 2)] (eo 2 lF) bS) ?_;refine tr ?_;injection h with h; subst h;exact rb;refine ki (xi (si (oi (sx 1 (ni (xi ?_))))));refine iP (s':=⟨[(2,(.osl 2000000 40 10 (([]:List aJ).map dD)))],[(1000000,aP y1.2)]⟩) (wr [(2000000,.new 40 10)] (en lF) bS) ?_;injection h with h; subst h;exact rb
 · intro aTm Q6 p0 r h;exact ao bD3 (si (oi (sx 1 (ni (xi (si (oi (sx 1 (cg c1_ h (aHx _) fun y1 h=>(gD (l:=([y1.1]:List dN)) (f:=fZ) (g:=uJ) kr X6 kr (sx 1 (ni (xi (bi (lgs (Q6 _ _ _ _ _ h) (wr [(3,.old 3)] (es (eo 3 lF)) bS))))))))))))))))
 · intro zP aTm lG Q6 x3 cZ bP dC r h;delta aCz aE7;refine gX (bi (bi (si (oi (sx 1 (cg c1_ h (qQ _ _) fun y2 h=>(sx 1 (ni (xi ?_)))))))));refine cd h (fun h=>?_) fun h=>?_;exact oi (sx 2 (cg c1_ h (aHx _) fun y3 h=>(gD (l:=([y3.1]:List dN)) (f:=fZ) (g:=uJ) kr X6 kr (aq 3 fZ h fun y4 h=>(sx 1 (ni (bn (bn (lbs (Q6 _ _ _ _ _ h) (wr [(3,.old 3)] (es (eo 3 lF)) bS))))))))));refine si (oi (sx 1 (cg c1_ h (jF _ _) fun y5 h=>(sx 1 (ni (xi ?_))))));refine cd h (fun h=>?_) fun h=>?_;refine si (oi (sx 1 (cg c1_ h (aHx _) fun y6 h=>(sx 2 (ni (xi (si (oi (sx 1 (cg c1_ h (A8 _ _) fun y7 h=>(ni (xi (si (oi (sx 1 (cg c1_ h (lG _) fun y8 h=>?_))))))))))))))));refine gD (l:=([y8.1]:List aJ)) (f:=dD) (g:=jO) kr kP kr (sx 2 (ni (xi (oi (sx 2 (gD (l:=([(dN.mk y6.1.table y6.1.as_ ([y8.1]:List aJ))]:List dN)) (f:=fZ) (g:=uJ) kr X6 kr (aq 3 fZ h fun y9 h=>(sx 1 (ni (bn (bn ?_)))))))))));exact lbs (Q6 _ _ _ _ _ h) (wr [(3,.old 3)] (es (eo 3 lF)) bS);refine si (oi (sx 2 (ni (xi ?_))));refine iP (s':=⟨[(2,(.osl 2000000 99 3 (x3.map fZ)))],[(1000000,aP y5.2)]⟩) (wr [(2000000,.old 2)] (eo 2 lF) bS) ?_;refine br (br (tr (br ?_)));injection h with h; subst h;exact rb
 · intro zP lG p0 r h;refine ao aSu (si (oi (sx 1 (ni (xi (si (bi (si (oi (sx 1 (cg c1_ h (qQ _ _) fun y1 h=>(sx 1 (ni (xi ?_))))))))))))));refine cd h (fun h=>?_) fun h=>?_;refine si (oi (kE (c:=[(vB true),(vS []),(vI 0),(vI 0),(vB false),(vI 0),(vI 0),(vS []),(vS []),(vS []),(.nil 10),(.nil 6),(vS [])]) kr kr rfl (sx 1 (ni (xi ?_)))));refine iP (s':=⟨[(2,(.ptr 2 0))],[(2,aP7 (dZ.mk true [] (aJ.mk 0 0 false (bM.mk 0 0 []) [] [] ([]:List aJ) ([]:List bU)) [])),(1000000,aP y1.2)]⟩) (wr [] eS (fM (c0:=[(vB true),(vS []),(vI 0),(vI 0),(vB false),(vI 0),(vI 0),(vS []),(vS []),(vS []),(.nil 10),(.nil 6),(vS [])]) kr (aQ (aU kr kr) (aQ (aU kr kr) (aQ (aU kr kr) (aQ (aU kr kr) (aQ (aU kr kr) (aQ (aU kr kr) (aQ (aU kr kr) (aQ (aU kr kr) (aQ (aU kr kr) (aQ (aU kr kr) (aQ (gU kr kr) (aQ (gU kr kr) (aQ (aU kr kr) fK))))))))))))) bS)) ?_;refine br (tr ?_);injection h with h; subst h;exact rb;refine si (oi (sx 1 (cg c1_ h (R7 _ _) fun y2 h=>(sx 1 (gq 0 ?_)))));refine aN4 c1_ (p:=true) (b:=y2) (m:=mV y1.2 1 5 [46]) (dflt:=(default:Bool)) h kr (I4 _ _ _ _) (fun hc=>by kernel_rfl) kr kr kr (fun y=>by kernel_rfl) kr (fun hc=>(Eq.trans (b:=([(true&&(y2==true))]:List Bool).all id) kr (jB hc rfl))) (fun _=>rfl) fun y3 h=>?_;refine pkA h fun y4 h=>(sx 1 (gq 0 ?_));refine aN4 c1_ (p:=true) (b:=y4) (m:=mV y1.2 2 5 [42]) (dflt:=(default:Bool)) h kr (I4 _ _ _ _) (fun hc=>by kernel_rfl) kr kr kr (fun y=>by kernel_rfl) kr (fun hc=>(Eq.trans (b:=([(true&&(y4==true))]:List Bool).all id) kr (jB hc rfl))) (fun _=>rfl) fun y5 h=>?_;refine pkA h fun y6 h=>(sx 1 (ni (xi ?_)));refine cd h (fun h=>?_) fun h=>?_;refine si (oi (sx 1 (cg c1_ h (wN _ _) fun y7 h=>(sx 1 (ni (xi (si (oi (sx 8 (ni (xi (si (oi (sx 1 (kE (c:=[(vB true),(vS y7.1),(vI 0),(vI 0),(vB false),(vI 0),(vI 0),(vS []),(vS []),(vS []),(.nil 10),(.nil 6),(vS [])]) kr kr rfl (sx 1 (ni (xi ?_))))))))))))))))));refine iP (s':=⟨[(2,(.ptr 2 0))],[(2,aP7 (dZ.mk true y7.1 (aJ.mk 0 0 false (bM.mk 0 0 []) [] [] ([]:List aJ) ([]:List bU)) [])),(1000000,aP (aA.mk y7.2.list (IntKind.wrap .i64 (y7.2.at_+2)) y7.2.failed))]⟩) (wr [] eS (fM (c0:=[(vB true),(vS y7.1),(vI 0),(vI 0),(vB false),(vI 0),(vI 0),(vS []),(vS []),(vS []),(.nil 10),(.nil 6),(vS [])]) kr (aQ (aU kr kr) (aQ (aU kr kr) (aQ (aU kr kr) (aQ (aU kr kr) (aQ (aU kr kr) (aQ (aU kr kr) (aQ (aU kr kr) (aQ (aU kr kr) (aQ (aU kr kr) (aQ (aU kr kr) (aQ (gU kr kr) (aQ (gU kr kr) (aQ (aU kr kr) fK))))))))))))) bS)) ?_;refine br (tr ?_);injection h with h; subst h;exact rb;refine ki (bn (xi (si (oi (sx 1 (cg c1_ h (lG _) fun y8 h=>(sx 2 (ni (xi (si (gK (dsx 2 (dcg c1_ [] [] h (aJ6 _) fun y9 h=>(dsx 2 (gN kr kr (xi (ri ?_)))))))))))))))));injection h with h; subst h;exact rb
 · intro bKh aQ8 p0 r h;refine ao aSd (si (oi (sx 1 (ni (xi (si (oi (sx 3 (gD (l:=([9]:List Int)) (f:=cI) (g:=cI) kr (fun _=>rfl) kr (cg c1_ h (aQ8 _ _) fun y1 h=>(sx 1 (ni (xi (ri ?_))))))))))))));injection h with h; subst h;exact rb
 · intro aW4 aZ6 aAi aAp p0 p2 r h;refine ao bEg (si (oi (sx 1 (ni (xi (si (oi (sx 1 (cgm c1_ [(.ptr 1000000 0)] h (aAp _) fun y1 h=>(sx 2 (ni (xi (bi ?_)))))))))))));exact lgs (aAi _ _ _ _ _ _ (_,_,_,_,_,_,_,_) _ h) (wr [] eS bS)
 · intro aW4 aZ6 aAi aAp p2 aY bN bQ bL bO aR r h;delta aCk aE0;refine gX (bi (si (oi (sx 2 (cg c1_ h (yJ _ _) fun y2 h=>(sx 1 (ni (xi (si (si (oi (sx 2 (ni (xi ?_))))))))))))));refine cd h (fun h=>?_) fun h=>?_;refine si (oi (sx 2 (ni (xi (ri (tr (br (tr (br ?_)))))))));injection h with h; subst h;exact rb;refine ki (xi (gK (dsx 3 (M4 c1_ [] [] [(.ptr 1000000 0)] h (aAp _) fun y3 h=>(dcs h (yH _ _ _) fun y4 h=>(dsx 1 (gN kr kr (bn ?_))))))));exact lbs (aAi _ _ _ _ _ _ (_,_,_,_,_,_,_,_) _ h) (wr [] eS bS)
 · intro bLk aP3 p0 r h;refine ao bCd (si (oi (sx 1 (ni (xi (si (oi (sx 3 (gD (l:=([10,11]:List Int)) (f:=cI) (g:=cI) kr (fun _=>rfl) kr (cg c1_ h (aP3 _ _) fun y1 h=>(sx 1 (ni (xi (ri ?_))))))))))))));injection h with h; subst h;exact rb
 · intro aZq aU0 aCj aCn p0 p2 r h;refine ao bDs (si (oi (sx 1 (ni (xi (si (oi (sx 1 (cgm c1_ [(.ptr 1000000 0)] h (aCn _) fun y1 h=>(sx 2 (ni (xi (bi ?_)))))))))))));exact lgs (aCj _ _ _ _ _ _ (_,_,_,_,_,_,_,_) _ h) (wr [] eS bS)
 · intro aZq aU0 aCj aCn p2 aY bN bQ bL bO aR r h;delta V8 aGr;refine gX (bi (si (oi (sx 2 (cg c1_ h (yJ _ _) fun y2 h=>(sx 1 (ni (xi (si (si (oi (sx 2 (ni (xi ?_))))))))))))));refine cd h (fun h=>?_) fun h=>?_;refine si (oi (sx 2 (ni (xi (ri (tr (br (tr (br ?_)))))))));injection h with h; subst h;exact rb;refine ki (xi (gK (dsx 3 (M4 c1_ [] [] [(.ptr 1000000 0)] h (aCn _) fun y3 h=>(dcs h (yH _ _ _) fun y4 h=>(dsx 1 (gN kr kr (bn ?_))))))));exact lbs (aCj _ _ _ _ _ _ (_,_,_,_,_,_,_,_) _ h) (wr [] eS bS)
 · intro bLl aNj p0 r h;refine ao aR0 (si (oi (sx 1 (ni (xi (si (oi (sx 3 (gD (l:=([12,13,14]:List Int)) (f:=cI) (g:=cI) kr (fun _=>rfl) kr (cg c1_ h (aNj _ _) fun y1 h=>(sx 1 (ni (xi (ri ?_))))))))))))));injection h with h; subst h;exact rb
 · intro aQp aPm U3 A9 p0 p2 r h;refine ao bI2 (si (oi (sx 1 (ni (xi (si (oi (sx 1 (cgm c1_ [(.ptr 1000000 0)] h (A9 _) fun y1 h=>(sx 2 (ni (xi (bi ?_)))))))))))));exact lgs (U3 _ _ _ _ _ _ (_,_,_,_,_,_,_,_) _ h) (wr [] eS bS)
 · intro aQp aPm U3 A9 p2 aY bN bQ bL bO aR r h;delta aBa aEq;refine gX (bi (si (oi (sx 2 (cg c1_ h (yJ _ _) fun y2 h=>(sx 1 (ni (xi (si (si (oi (sx 2 (ni (xi ?_))))))))))))));refine cd h (fun h=>?_) fun h=>?_;refine si (oi (sx 2 (ni (xi (ri (tr (br (tr (br ?_)))))))));injection h with h; subst h;exact rb;refine ki (xi (gK (dsx 3 (M4 c1_ [] [] [(.ptr 1000000 0)] h (A9 _) fun y3 h=>(dcs h (yH _ _ _) fun y4 h=>(dsx 1 (gN kr kr (bn ?_))))))));exact lbs (U3 _ _ _ _ _ _ (_,_,_,_,_,_,_,_) _ h) (wr [] eS bS)
 · intro aPm bJv A9 aOz p0 r h;refine ao bBl (si (oi (sx 1 (ni (xi (si (si (oi (sx 1 (cg c1_ h (qQ _ _) fun y1 h=>(ni (xi ?_))))))))))));refine cd h (fun h=>?_) fun h=>?_;refine si (oi (sx 1 (cg c1_ h (A9 _) fun y2 h=>(gD (l:=([y2.1]:List aJ)) (f:=dD) (g:=jO) kr kP kr (kE (c:=[(vI 3),(vI 16),(vB false),(vI 0),(vI 0),(vS []),(vS []),(vS []),(.osl 7 40 10 (([y2.1]:List aJ).map dD)),(.nil 6)]) kr kr rfl ?_)))));refine sx 1 (ni (xi ?_));refine iP (s':=⟨[(2,(.ptr 2 0))],[(2,jY (aJ.mk 3 16 false (bM.mk 0 0 []) [] [] ([y2.1]:List aJ) ([]:List bU))),(1000000,aP y2.2)]⟩) (wr [] eS (fM (c0:=[(vI 3),(vI 16),(vB false),(vI 0),(vI 0),(vS []),(vS []),(vS []),(.osl 7 40 10 (([y2.1]:List aJ).map dD)),(.nil 6)]) kr (aQ (aU kr kr) (aQ (aU kr kr) (aQ (aU kr kr) (aQ (aU kr kr) (aQ (aU kr kr) (aQ (aU kr kr) (aQ (aU kr kr) (aQ (aU kr kr) (aQ (gU kr kr) (aQ (gU kr kr) fK)))))))))) bS)) ?_;refine tr ?_;injection h with h; subst h;exact rb;refine ki (xi (si (oi (sx 1 (cg c1_ h (aOz _) fun y3 h=>(sx 1 (ni (xi (ri ?_)))))))));injection h with h; subst h;exact rb
 · intro zP bDc lG aBm p0 r h;refine ao bDi (si (oi (sx 1 (ni (xi (si (bi (si (oi (sx 1 (cg c1_ h (R7 _ _) fun y1 h=>(sx 1 (ni (xi ?_))))))))))))));refine cd h (fun h=>?_) fun h=>?_;refine si (oi (sx 1 (cg c1_ h (aN2 _) fun y2 h=>(cs h (bH1 _) fun y3 h=>(cs h (L8 _) fun y4 h=>(sx 1 (ni (xi (ri (br (tr ?_)))))))))));injection h with h; subst h;exact rb;refine si (oi (sx 1 (cg c1_ h (R7 _ _) fun y5 h=>(sx 1 (ni (xi ?_))))));refine cd h (fun h=>?_) fun h=>?_;refine si (oi (sx 1 (cg c1_ h (wN _ _) fun y6 h=>(cs h (bCw _) fun y7 h=>(cs h (L8 _) fun y8 h=>(sx 1 (ni (xi (ri (br (tr ?_)))))))))));injection h with h; subst h;exact rb;refine si (oi (sx 1 (cg c1_ h (jF _ _) fun y9 h=>(sx 1 (ni (xi ?_))))));refine cd h (fun h=>?_) fun h=>?_;refine si (oi (sx 1 (cs h (L8 _) fun y10 h=>(sx 1 (ni (xi (ri (br (tr ?_)))))))));injection h with h; subst h;exact rb;refine si (oi (sx 1 (cg c1_ h (jF _ _) fun y11 h=>(sx 1 (ni (xi ?_))))));refine cd h (fun h=>?_) fun h=>?_;refine si (oi (cs h (aKt _) fun y12 h=>(cs h (L8 _) fun y13 h=>(sx 1 (ni (xi (ri (br (tr ?_)))))))));injection h with h; subst h;exact rb;refine si (oi (sx 1 (cg c1_ h (jF _ _) fun y14 h=>(sx 1 (ni (xi ?_))))));refine cd h (fun h=>?_) fun h=>?_;refine si (oi (cs h (aKt _) fun y15 h=>(cs h (L8 _) fun y16 h=>(sx 1 (ni (xi (ri (br (tr ?_)))))))));injection h with h; subst h;exact rb;refine si (oi (sx 1 (cg c1_ h (R7 _ _) fun y17 h=>(sx 1 (ni (xi ?_))))));refine cd h (fun h=>?_) fun h=>?_;refine si (oi (sx 1 (cg c1_ h (wN _ _) fun y18 h=>(sx 1 (ni (xi (si (si (oi (sx 1 (cg c1_ h (qQ _ _) fun y19 h=>(ni (xi ?_)))))))))))));refine cd h (fun h=>?_) fun h=>?_;refine si (oi (sx 2 (cg c1_ h (wN _ _) fun y20 h=>(kE (c:=[(vI 2),(vI 0),(vB false),(vI 0),(vI 0),(vS []),(vS y18.1),(vS y20.1),(.nil 10),(.nil 6)]) kr kr rfl (sx 1 (ni (xi ?_)))))));refine iP (s':=⟨[(2,(.ptr 2 0))],[(2,jY (aJ.mk 2 0 false (bM.mk 0 0 []) y18.1 y20.1 ([]:List aJ) ([]:List bU))),(1000000,aP y20.2)]⟩) (wr [] eS (fM (c0:=[(vI 2),(vI 0),(vB false),(vI 0),(vI 0),(vS []),(vS y18.1),(vS y20.1),(.nil 10),(.nil 6)]) kr (aQ (aU kr kr) (aQ (aU kr kr) (aQ (aU kr kr) (aQ (aU kr kr) (aQ (aU kr kr) (aQ (aU kr kr) (aQ (aU kr kr) (aQ (aU kr kr) (aQ (gU kr kr) (aQ (gU kr kr) fK)))))))))) bS)) ?_;refine tr (br (tr ?_));injection h with h; subst h;exact rb;refine ki (xi (si (oi (sx 1 (kE (c:=[(vI 2),(vI 0),(vB false),(vI 0),(vI 0),(vS []),(vS []),(vS y18.1),(.nil 10),(.nil 6)]) kr kr rfl (sx 1 (ni (xi ?_))))))));refine iP (s':=⟨[(2,(.ptr 2 0))],[(2,jY (aJ.mk 2 0 false (bM.mk 0 0 []) [] y18.1 ([]:List aJ) ([]:List bU))),(1000000,aP y19.2)]⟩) (wr [] eS (fM (c0:=[(vI 2),(vI 0),(vB false),(vI 0),(vI 0),(vS []),(vS []),(vS y18.1),(.nil 10),(.nil 6)]) kr (aQ (aU kr kr) (aQ (aU kr kr) (aQ (aU kr kr) (aQ (aU kr kr) (aQ (aU kr kr) (aQ (aU kr kr) (aQ (aU kr kr) (aQ (aU kr kr) (aQ (gU kr kr) (aQ (gU kr kr) fK)))))))))) bS)) ?_;refine br (tr ?_);injection h with h; subst h;exact rb;refine si (oi (sx 1 (cg c1_ h (qQ _ _) fun y21 h=>(sx 1 (ni (xi ?_))))));refine cd h (fun h=>?_) fun h=>?_;refine si (oi (sx 1 (cg c1_ h (lG _) fun y22 h=>(sx 2 (ni (xi (si (oi (sx 1 (cg c1_ h (H9 _ _) fun y23 h=>(ni (xi (si (oi (sx 2 (ni (xi (ri (br (tr ?_))))))))))))))))))));injection h with h; subst h;exact rb;refine si (oi (sx 1 (cg c1_ h (jF _ _) fun y24 h=>(sx 1 (ni (xi ?_))))));refine cd h (fun h=>?_) fun h=>?_;refine si (oi (sx 1 (cg c1_ h (H9 _ _) fun y25 h=>(ni (xi (si (oi (sx 1 (cg c1_ h (aBm _) fun y26 h=>(sx 2 (ni (xi (si (oi (sx 1 (cg c1_ h (H9 _ _) fun y27 h=>(ni (xi (si (oi (sx 1 ?_)))))))))))))))))))));refine gD (l:=([y26.1]:List bU)) (f:=kV) (g:=rO) kr aCo kr (kE (c:=[(vI 9),(vI 0),(vB false),(vI 0),(vI 0),(vS []),(vS []),(vS []),(.nil 10),(.osl 66 86 6 (([y26.1]:List bU).map kV))]) kr kr rfl (sx 1 (ni (xi ?_))));refine iP (s':=⟨[(2,(.ptr 2 0))],[(2,jY (aJ.mk 9 0 false (bM.mk 0 0 []) [] [] ([]:List aJ) ([y26.1]:List bU))),(1000000,aP y27)]⟩) (wr [] eS (fM (c0:=[(vI 9),(vI 0),(vB false),(vI 0),(vI 0),(vS []),(vS []),(vS []),(.nil 10),(.osl 66 86 6 (([y26.1]:List bU).map kV))]) kr (aQ (aU kr kr) (aQ (aU kr kr) (aQ (aU kr kr) (aQ (aU kr kr) (aQ (aU kr kr) (aQ (aU kr kr) (aQ (aU kr kr) (aQ (aU kr kr) (aQ (gU kr kr) (aQ (gU kr kr) fK)))))))))) bS)) ?_;refine br (tr ?_);injection h with h; subst h;exact rb;refine ki (bn (xi (si (oi (sx 4 (ni (xi (si (oi (kE (c:=[(vI 0),(vI 0),(vB false),(vI 0),(vI 0),(vS []),(vS []),(vS []),(.nil 10),(.nil 6)]) kr kr rfl (sx 1 (ni (xi ?_)))))))))))));refine iP (s':=⟨[(2,(.ptr 2 0))],[(2,jY (aJ.mk 0 0 false (bM.mk 0 0 []) [] [] ([]:List aJ) ([]:List bU))),(1000000,aP (aA.mk y24.2.list y24.2.at_ true))]⟩) (wr [] eS (fM (c0:=[(vI 0),(vI 0),(vB false),(vI 0),(vI 0),(vS []),(vS []),(vS []),(.nil 10),(.nil 6)]) kr (aQ (aU kr kr) (aQ (aU kr kr) (aQ (aU kr kr) (aQ (aU kr kr) (aQ (aU kr kr) (aQ (aU kr kr) (aQ (aU kr kr) (aQ (aU kr kr) (aQ (gU kr kr) (aQ (gU kr kr) fK)))))))))) bS)) ?_;injection h with h; subst h;exact rb
theorem aB3 (p2 aY bN bQ bL bO aR r) (h:pV p2 aY bN bQ bL bO aR=some r):aAs p2 aY bN bQ bL bO aR r:=(fP).1 p2 aY bN bQ bL bO aR r h
theorem Y8 (p0:aA):dV Tryz.prog 29 [(.ptr 1000000 0)] [(1000000,aP p0)] (fun (y:aJ×aA)=>(bX y.1)) (fun (y:aJ×aA)=>[(1000000,aP y.2)]) (oW p0):=fun r h=>(fP).2.1 p0 r h
theorem aNs (p0:aA) (p2:List Int):dV Tryz.prog 28 [(.ptr 1000000 0),(.fn 1000043 [(.ptr 1000000 0)]),(iG p2)] [(1000000,aP p0)] (fun (y:aJ×aA)=>(bX y.1)) (fun (y:aJ×aA)=>[(1000000,aP y.2)]) (yY p0 p2):=fun r h=>(fP).2.2.1 p0 p2 r h
theorem aAw (p2 aY bN bQ bL bO aR r) (h:uL p2 aY bN bQ bL bO aR=some r):aD0 p2 aY bN bQ bL bO aR r:=(fP).2.2.2.1 p2 aY bN bQ bL bO aR r h
theorem yE (p0:aA):dV Tryz.prog 43 [(.ptr 1000000 0)] [(1000000,aP p0)] (fun (y:aJ×aA)=>(bX y.1)) (fun (y:aJ×aA)=>[(1000000,aP y.2)]) (kH p0):=fun r h=>(fP).2.2.2.2.1 p0 r h
theorem aMi (p0:aA):dV Tryz.prog 50 [(.ptr 1000000 0)] [(1000000,aP p0)] (fun (y:aJ×aA)=>(bX y.1)) (fun (y:aJ×aA)=>[(1000000,aP y.2)]) (jE p0):=fun r h=>(fP).2.2.2.2.2.1 p0 r h
theorem aQ3 (p0:aA) (p1:aJ) (p2:Bool):dV Tryz.prog 54 [(.ptr 1000000 0),(bX p1),(vB p2)] [(1000000,aP p0)] (fun (y:aJ×aA)=>(bX y.1)) (fun (y:aJ×aA)=>[(1000000,aP y.2)]) (vK p0 p1 p2):=fun r h=>(fP).2.2.2.2.2.2.1 p0 p1 p2 r h
theorem aQg (p0:aA):dV Tryz.prog 58 [(.ptr 1000000 0)] [(1000000,aP p0)] (fun (y:(List aJ)×aA)=>(.osl 2000000 40 10 (y.1.map dD))) (fun (y:(List aJ)×aA)=>[(1000000,aP y.2)]) (zU p0):=fun r h=>(fP).2.2.2.2.2.2.2.1 p0 r h
theorem aA0 (x3 cZ bP dC r) (h:nN x3 cZ bP dC=some r):aBn x3 cZ bP dC r:=(fP).2.2.2.2.2.2.2.2.1 x3 cZ bP dC r h
theorem lG (p0:aA):dV Tryz.prog 21 [(.ptr 1000000 0)] [(1000000,aP p0)] (fun (y:aJ×aA)=>(bX y.1)) (fun (y:aJ×aA)=>[(1000000,aP y.2)]) (gG p0):=fun r h=>(fP).2.2.2.2.2.2.2.2.2.1 p0 r h
theorem aNb (p0:aA) (p2:List Int):dV Tryz.prog 28 [(.ptr 1000000 0),(.fn 1000029 [(.ptr 1000000 0)]),(iG p2)] [(1000000,aP p0)] (fun (y:aJ×aA)=>(bX y.1)) (fun (y:aJ×aA)=>[(1000000,aP y.2)]) (xN p0 p2):=fun r h=>(fP).2.2.2.2.2.2.2.2.2.2.1 p0 p2 r h
theorem aBm (p0:aA):dV Tryz.prog 57 [(.ptr 1000000 0)] [(1000000,aP p0)] (fun (y:bU×aA)=>(V9 y.1)) (fun (y:bU×aA)=>[(1000000,aP y.2)]) (qE p0):=fun r h=>(fP).2.2.2.2.2.2.2.2.2.2.2.1 p0 r h
theorem X3 (y2 cK cZ bP dC r) (h:qL y2 cK cZ bP dC=some r):aAh y2 cK cZ bP dC r:=(fP).2.2.2.2.2.2.2.2.2.2.2.2.1 y2 cK cZ bP dC r h
theorem aBq (y2 cK y8 y9 jR lC jV r) (h:qV y2 cK y8 y9 jR lC jV=some r):X7 y2 cK y8 y9 jR lC jV r:=(fP).2.2.2.2.2.2.2.2.2.2.2.2.2.1 y2 cK y8 y9 jR lC jV r h
theorem V7 (p0:aA):dV Tryz.prog 64 [(.ptr 1000000 0)] [(1000000,aP p0)] (fun (y:eF×aA)=>(aB1 y.1)) (fun (y:eF×aA)=>[(1000000,aP y.2)]) (wU p0):=fun r h=>(fP).2.2.2.2.2.2.2.2.2.2.2.2.2.2.1 p0 r h
theorem aP5 (p0:aA):dV Tryz.prog 63 [(.ptr 1000000 0)] [(1000000,aP p0)] (fun (y:(List aJ)×aA)=>(.osl 2000000 40 10 (y.1.map dD))) (fun (y:(List aJ)×aA)=>[(1000000,aP y.2)]) (Q0 p0):=fun r h=>(fP).2.2.2.2.2.2.2.2.2.2.2.2.2.2.2.1 p0 r h
theorem aMv (p0:aA):dV Tryz.prog 62 [(.ptr 1000000 0)] [(1000000,aP p0)] (fun (y:(List dN)×aA)=>(.osl 2000000 99 3 (y.1.map fZ))) (fun (y:(List dN)×aA)=>[(1000000,aP y.2)]) (aAd p0):=fun r h=>(fP).2.2.2.2.2.2.2.2.2.2.2.2.2.2.2.2.1 p0 r h
theorem Q6 (x3 cZ bP dC r) (h:oI x3 cZ bP dC=some r):aCz x3 cZ bP dC r:=(fP).2.2.2.2.2.2.2.2.2.2.2.2.2.2.2.2.2.1 x3 cZ bP dC r h
theorem aBb (p0:aA):dV Tryz.prog 61 [(.ptr 1000000 0)] [(1000000,aP p0)] (fun (y:dZ×aA)=>(aCf y.1)) (fun (y:dZ×aA)=>[(1000000,aP y.2)]) (uZ p0):=fun r h=>(fP).2.2.2.2.2.2.2.2.2.2.2.2.2.2.2.2.2.2.1 p0 r h
theorem O8 (p0:aA):dV Tryz.prog 52 [(.ptr 1000000 0)] [(1000000,aP p0)] (fun (y:aJ×aA)=>(bX y.1)) (fun (y:aJ×aA)=>[(1000000,aP y.2)]) (jQ p0):=fun r h=>(fP).2.2.2.2.2.2.2.2.2.2.2.2.2.2.2.2.2.2.2.1 p0 r h
theorem aQ8 (p0:aA) (p2:List Int):dV Tryz.prog 28 [(.ptr 1000000 0),(.fn 1000055 [(.ptr 1000000 0)]),(iG p2)] [(1000000,aP p0)] (fun (y:aJ×aA)=>(bX y.1)) (fun (y:aJ×aA)=>[(1000000,aP y.2)]) (C8 p0 p2):=fun r h=>(fP).2.2.2.2.2.2.2.2.2.2.2.2.2.2.2.2.2.2.2.2.1 p0 p2 r h
theorem aAi (p2 aY bN bQ bL bO aR r) (h:sS p2 aY bN bQ bL bO aR=some r):aCk p2 aY bN bQ bL bO aR r:=(fP).2.2.2.2.2.2.2.2.2.2.2.2.2.2.2.2.2.2.2.2.2.1 p2 aY bN bQ bL bO aR r h
theorem aAp (p0:aA):dV Tryz.prog 55 [(.ptr 1000000 0)] [(1000000,aP p0)] (fun (y:aJ×aA)=>(bX y.1)) (fun (y:aJ×aA)=>[(1000000,aP y.2)]) (pK p0):=fun r h=>(fP).2.2.2.2.2.2.2.2.2.2.2.2.2.2.2.2.2.2.2.2.2.2.1 p0 r h
theorem aP3 (p0:aA) (p2:List Int):dV Tryz.prog 28 [(.ptr 1000000 0),(.fn 1000059 [(.ptr 1000000 0)]),(iG p2)] [(1000000,aP p0)] (fun (y:aJ×aA)=>(bX y.1)) (fun (y:aJ×aA)=>[(1000000,aP y.2)]) (yI p0 p2):=fun r h=>(fP).2.2.2.2.2.2.2.2.2.2.2.2.2.2.2.2.2.2.2.2.2.2.2.1 p0 p2 r h
theorem aCj (p2 aY bN bQ bL bO aR r) (h:uG p2 aY bN bQ bL bO aR=some r):V8 p2 aY bN bQ bL bO aR r:=(fP).2.2.2.2.2.2.2.2.2.2.2.2.2.2.2.2.2.2.2.2.2.2.2.2.1 p2 aY bN bQ bL bO aR r h
theorem aCn (p0:aA):dV Tryz.prog 59 [(.ptr 1000000 0)] [(1000000,aP p0)] (fun (y:aJ×aA)=>(bX y.1)) (fun (y:aJ×aA)=>[(1000000,aP y.2)]) (oU p0):=fun r h=>(fP).2.2.2.2.2.2.2.2.2.2.2.2.2.2.2.2.2.2.2.2.2.2.2.2.2.1 p0 r h
theorem aNj (p0:aA) (p2:List Int):dV Tryz.prog 28 [(.ptr 1000000 0),(.fn 1000066 [(.ptr 1000000 0)]),(iG p2)] [(1000000,aP p0)] (fun (y:aJ×aA)=>(bX y.1)) (fun (y:aJ×aA)=>[(1000000,aP y.2)]) (F5 p0 p2):=fun r h=>(fP).2.2.2.2.2.2.2.2.2.2.2.2.2.2.2.2.2.2.2.2.2.2.2.2.2.2.1 p0 p2 r h
theorem U3 (p2 aY bN bQ bL bO aR r) (h:rJ p2 aY bN bQ bL bO aR=some r):aBa p2 aY bN bQ bL bO aR r:=(fP).2.2.2.2.2.2.2.2.2.2.2.2.2.2.2.2.2.2.2.2.2.2.2.2.2.2.2.1 p2 aY bN bQ bL bO aR r h
theorem A9 (p0:aA):dV Tryz.prog 66 [(.ptr 1000000 0)] [(1000000,aP p0)] (fun (y:aJ×aA)=>(bX y.1)) (fun (y:aJ×aA)=>[(1000000,aP y.2)]) (jZ p0):=fun r h=>(fP).2.2.2.2.2.2.2.2.2.2.2.2.2.2.2.2.2.2.2.2.2.2.2.2.2.2.2.2.1 p0 r h
theorem aOz (p0:aA):dV Tryz.prog 73 [(.ptr 1000000 0)] [(1000000,aP p0)] (fun (y:aJ×aA)=>(bX y.1)) (fun (y:aJ×aA)=>[(1000000,aP y.2)]) (kN p0):=fun r h=>(fP).2.2.2.2.2.2.2.2.2.2.2.2.2.2.2.2.2.2.2.2.2.2.2.2.2.2.2.2.2 p0 r h
theorem bCt (p0:List aB):FOk Tryz.prog 12 [(dF p0)] (fun y=>(.tup [(bX y.1),(vI y.2)])) (X5 p0):=by
 intro r h
 rw [X5] at h;refine ao bH2 (si (oi (sx 2 (ni (xi (si (oi (sx 4 (ni (xi (si (oi (sx 1 (cg ⟨[(1000000,9)],[],[],[],[],[],[],[],[]⟩ h (lG _) fun y1 h=>(sx 2 (ni (xi (si (si (oi (sx 1 (cg ⟨[(1000000,9)],[],[],[],[],[],[],[],[]⟩ h (aZh _) fun y2 h=>(sx 1 (ni (xi (si (oi (sx 2 (ni (xi ?_))))))))))))))))))))))))))))));refine cd h (fun h=>?_) fun h=>?_;refine si (oi (kE (c:=[(vI 0),(vI 0),(vB false),(vI 0),(vI 0),(vS []),(vS []),(vS []),(.nil 10),(.nil 6)]) kr kr rfl (sx 3 (ni (xi ?_)))));refine iP (s':=⟨[(2,(.ptr 2 0)),(3,(vI y2))],[(2,jY (aJ.mk 0 0 false (bM.mk 0 0 []) [] [] ([]:List aJ) ([]:List bU)))]⟩) (wr [] eS (fM (c0:=[(vI 0),(vI 0),(vB false),(vI 0),(vI 0),(vS []),(vS []),(vS []),(.nil 10),(.nil 6)]) kr (aQ (aU kr kr) (aQ (aU kr kr) (aQ (aU kr kr) (aQ (aU kr kr) (aQ (aU kr kr) (aQ (aU kr kr) (aQ (aU kr kr) (aQ (aU kr kr) (aQ (gU kr kr) (aQ (gU kr kr) fK)))))))))) bJ)) ?_;refine tr ?_;injection h with h; subst h;exact rnp;refine ki (xi (si (oi (sx 3 (ni (xi (ri ?_)))))));injection h with h; subst h;exact rnp
theorem aQs (p0:List aB):FOk Tryz.prog 7 [(dF p0)] (fun y=>(vI y)) (I5 p0):=by
 intro r h
 rw [I5] at h;refine ao aWt (si (oi (sx 1 (ni (xi (si (si (oi (sx 1 (lq p0 (sx 1 (ni (xi ?_)))))))))))));refine cd h (fun h=>?_) fun h=>?_;refine si (oi (sx 1 (ni (xi (ri (tr ?_))))));injection h with h; subst h;exact rp;refine ki (xi (si (oi (sx 1 (cs h (bCt _) fun y1 h=>(sx 6 (ni (xi (si (si (oi (sx 3 (gq 0 (gc 1 h (aGd _) fun y2 h=>(pkO h fun y3 h=>(ni (xi ?_)))))))))))))))));refine cd h (fun h=>?_) fun h=>?_;refine si (oi (sx 1 (ni (xi (ri (tr ?_))))));injection h with h; subst h;exact rp;refine ki (xi (si (oi (sx 1 (ni (xi (ri ?_)))))));injection h with h; subst h;exact rp
theorem vF (p0:aB) (p1:List UInt8):FOk Tryz.prog 17 [(iZ p0),(vS p1)] (fun y=>(vB y)) (nC p0 p1):=by
 intro r h
 rw [nC] at h;refine ao aWr (si (oi (sx 2 (ni (xi (si (oi (sx 4 (gq 0 (gq 1 (gq 0 (gq 2 (pkA h fun y1 h=>(sx 1 (ni (xi (ri ?_)))))))))))))))));injection h with h; subst h;exact rp
theorem aBo (p0:Int) (p1:Int) (p2:Int):FOk Tryz.prog 31 [(vI p0),(vI p1),(vI p2)] (fun y=>(vB y)) (xD p0 p1 p2):=by
 intro r h
 rw [xD] at h;refine ao aYq (si (oi (sx 1 (ni (xi (si (oi (sx 4 (gq 0 (gq 0 (gq 2 (pkA h fun y1 h=>(sx 1 (ni (xi (ri ?_))))))))))))))));injection h with h; subst h;exact rp
theorem aLz:dV Tryz.prog 32 [] [] (fun (y:List (List UInt8))=>(.osl 2000000 9 1 (y.map cStr))) (fun (y:List (List UInt8))=>[]) (R9):=by
 intro r h
 rw [R9] at h;refine ao aSt (si (oi (sx 1 (ni (xi (si (oi ?_)))))));refine gD (l:=([[],[83,69,76,69,67,84],[68,73,83,84,73,78,67,84],[70,82,79,77],[74,79,73,78],[79,78],[87,72,69,82,69],[79,82,68,69,82],[66,89],[65,83,67],[68,69,83,67],[76,73,77,73,84],[65,83],[65,78,68],[79,82],[78,79,84],[73,83],[73,78],[66,69,84,87,69,69,78],[69,88,73,83,84,83],[78,85,76,76],[84,82,85,69],[70,65,76,83,69],[73,78,83,69,82,84],[73,78,84,79],[86,65,76,85,69,83],[85,80,68,65,84,69],[83,69,84],[68,69,76,69,84,69]]:List (List UInt8))) (f:=cStr) (g:=cStr) kr (fun _=>rfl) kr ?_;refine sx 1 (ni (xi ?_));refine iP (s':=⟨[(0,(.osl 2000000 9 1 (([[],[83,69,76,69,67,84],[68,73,83,84,73,78,67,84],[70,82,79,77],[74,79,73,78],[79,78],[87,72,69,82,69],[79,82,68,69,82],[66,89],[65,83,67],[68,69,83,67],[76,73,77,73,84],[65,83],[65,78,68],[79,82],[78,79,84],[73,83],[73,78],[66,69,84,87,69,69,78],[69,88,73,83,84,83],[78,85,76,76],[84,82,85,69],[70,65,76,83,69],[73,78,83,69,82,84],[73,78,84,79],[86,65,76,85,69,83],[85,80,68,65,84,69],[83,69,84],[68,69,76,69,84,69]]:List (List UInt8)).map cStr)))],[]⟩) (wr [(2000000,.old 0)] (eo 0 lF) bJ) ?_;injection h with h; subst h;exact rb
theorem aTs (p0:Int):FOk Tryz.prog 24 [(vI p0)] (fun y=>(vS y)) (aC8 p0):=by
 intro r h
 rw [aC8] at h;refine ao aT3 (si (oi (sx 1 (ni (xi (si (si (oi (sx 1 (cs h (aBo _ _ _) fun y1 h=>(sx 1 (ni (xi ?_)))))))))))));refine cd h (fun h=>?_) fun h=>?_;refine si (oi (sx 1 (ni (xi (ri (tr ?_))))));injection h with h; subst h;exact rp;refine ki (xi (si (oi (cg ⟨[],[],[],[],[],[(2000000,6)],[],[6],[]⟩ h aLz fun y2 h=>(sx 1 (iq h fun y3 h=>(sx 2 (ni (xi (ri ?_))))))))));injection h with h; subst h;exact rp
theorem nZ (p0:aB) (p1:Int):FOk Tryz.prog 15 [(iZ p0),(vI p1)] (fun y=>(vB y)) (gM p0 p1):=by
 intro r h
 rw [gM] at h;refine ao aTn (si (oi (sx 2 (ni (xi (si (gK (dsx 4 (dgq 0 (dgq 1 (dgq 0 (dgc 1 h (aTs _) fun y1 h=>(dgq 2 (zA h fun y2 h=>(dsx 1 (gN kr kr (xi (ri ?_))))))))))))))))));injection h with h; subst h;exact rp
theorem bI4 (p0:List UInt8):FOk Tryz.prog 46 [(vS p0)] (fun y=>(iZ y)) (aFp p0):=by
 intro r h
 rw [aFp] at h;refine ao aXu (si (oi (sx 1 (ni (xi (si (oi (sx 3 (ni (xi (ri ?_)))))))))));injection h with h; subst h;exact rp
theorem aL9 (p0:Int):FOk Tryz.prog 45 [(vI p0)] (fun y=>(vS y)) (aCb p0):=by
 intro r h
 rw [aCb] at h;refine ao bGx (si (oi (sx 1 (ni (xi (si (si (oi (sx 1 (cs h (aBo _ _ _) fun y1 h=>(sx 1 (ni (xi ?_)))))))))))));refine cd h (fun h=>?_) fun h=>?_;refine si (oi (sx 1 (ni (xi (ri (tr ?_))))));injection h with h; subst h;exact rp;refine ki (xi (si (oi (gD (l:=([[],[79,82],[65,78,68],[61],[60,62],[60],[60,61],[62],[62,61],[124,124],[43],[45],[42],[47],[37],[78,79,84],[45]]:List (List UInt8))) (f:=cStr) (g:=cStr) kr (fun _=>rfl) kr (sx 1 (iq h fun y2 h=>(sx 2 (ni (xi (ri ?_))))))))));injection h with h; subst h;exact rp
theorem bEj (p0:Int):FOk Tryz.prog 39 [(vI p0)] (fun y=>(iZ y)) (aA8 p0):=by
 intro r h
 rw [aA8] at h;refine ao aWa (si (oi (sx 1 (ni (xi (si (si (oi (sx 3 (gq 0 (gq 1 (pkO h fun y1 h=>(sx 1 (gq 0 (gq 1 (pkO h fun y2 h=>(ni (xi ?_))))))))))))))))));refine cd h (fun h=>?_) fun h=>?_;refine si (oi (sx 1 (cs h (aL9 _) fun y3 h=>(sx 2 (ni (xi (ri (tr ?_))))))));injection h with h; subst h;exact rp;refine ki (xi (si (oi (sx 1 (cs h (aL9 _) fun y4 h=>(cs h (bI4 _) fun y5 h=>(sx 1 (ni (xi (ri ?_))))))))));injection h with h; subst h;exact rp
theorem aRm (p0:iB) (p1:Int):dV Tryz.prog 40 [(.ptr 1000000 0),(vI p1)] [(1000000,[(.osl 6000000 33 3 (p0.t.map cO)),(vI p0.at_),(vB p0.bad)])] (fun (y:aB)=>(iZ y)) (fun (y:aB)=>[(1000000,[(.osl 6000000 33 3 (p0.t.map cO)),(vI p0.at_),(vB p0.bad)])]) (E8 p0 p1):=by
 intro r h
 rw [E8] at h;refine ao bBb (si (oi (sx 1 (ni (xi (si (si (gK (dsx 5 (dgq 0 (dgq 1 (dgq 1 (dgq 1 (dgq 0 (dgq 2 (dgq 0 (dgq 1 (dgq 1 (dgq 1 (X9 (p:=true) (b:=p0.bad) (v':=(vI (ln p0.t))) kr rfl rfl (fun hc=>J9 (sz:=3) (l:=p0.t) (f:=cO) (Eq.trans (b:=([(true&&(p0.bad==false))]:List Bool).all id) kr (jB hc rfl)) kr) (dgq 2 ?_)))))))))))))))))))));refine aNt h fun y1 h=>(gN kr kr (xi ?_));refine cd h (fun h=>?_) fun h=>?_;refine si (oi (sx 2 (ni (xi ?_))));refine iP (s':=⟨[(4,(.ptr 4 0))],[(4,aM1 (aB.mk 0 [] 0)),(1000000,[(.osl 6000000 33 3 (p0.t.map cO)),(vI p0.at_),(vB p0.bad)])]⟩) (wr [(6000000,.old 6000000)] eS (bs_ (fM (c0:=[(.osl 6000000 33 3 (p0.t.map cO)),(vI p0.at_),(vB p0.bad)]) kr (aQ (eT (t:=6000000) kr kr) (aQ (aU kr kr) (aQ (aU kr kr) fK))) bJ))) ?_;refine tr ?_;injection h with h; subst h;exact rb;refine ki (xi (si (gK (dsx 10 (diq h fun y2 h=>(dsx 2 (gN kr kr (xi ?_))))))));refine iP (s':=⟨[(4,(.ptr 4 0))],[(4,aM1 y2),(1000000,[(.osl 6000000 33 3 (p0.t.map cO)),(vI p0.at_),(vB p0.bad)])]⟩) (wr [(6000000,.old 6000000)] eS (bs_ (fM (c0:=[(.osl 6000000 33 3 (p0.t.map cO)),(vI p0.at_),(vB p0.bad)]) kr (aQ (eT (t:=6000000) kr kr) (aQ (aU kr kr) (aQ (aU kr kr) fK))) bJ))) ?_;injection h with h; subst h;exact rb
theorem aF7 (r) (h:Q7=some r):aPz r:=by
 rw [Q7] at h;delta aPz Y9;refine si (oi (sx 1 (ni (xi (ri ?_)))));injection h with h; subst h;exact rp
theorem U6 (p0 x9 r) (h:zB p0 x9=some r):aL2 p0 x9 r:=by
 rw [zB] at h;delta aL2 aI4;refine cd h (fun h=>?_) fun h=>?_;refine si (oi (sx 1 (ni (xi (ri (br (tr ?_)))))));injection h with h; subst h;exact rp;refine si (oi (sx 2 (ni (xi ?_))));refine cd h (fun h=>?_) fun h=>?_;refine si (si (oi (sx 3 (ni (xi ?_)))));refine cd h (fun h=>?_) fun h=>?_;refine si (oi (sx 1 (ni (xi (ri (tr (br (tr ?_))))))));injection h with h; subst h;exact rp;refine ki (xi (si (oi (sx 3 (ni (xi ?_))))));refine cd h (fun h=>?_) fun h=>?_;refine si (oi (sx 1 (ni (xi (ri (br (tr ?_)))))));injection h with h; subst h;exact rp;exact ki (bn (nxs (aF7 _ h) (wr [] lF bJ)));refine si (oi (sx 2 (ni (xi ?_))));refine cd h (fun h=>?_) fun h=>?_;refine si (oi (sx 2 (cs h (aBo _ _ _) fun y1 h=>(ni (xi ?_)))));refine cd h (fun h=>?_) fun h=>?_;refine si (oi (gD (l:=([0,1,2,4,4,4,4,4,4,5,6,6,7,7,7]:List Int)) (f:=cI) (g:=cI) kr (fun _=>rfl) kr (sx 2 (iqf cI h fun y2 h=>(sx 2 (ni (xi (ri (br (tr ?_))))))))));injection h with h; subst h;exact rp;exact ki (bn (nxs (aF7 _ h) (wr [] lF bJ)));exact ki (bn (nxs (aF7 _ h) (wr [] lF bJ)))
theorem aGz (p0 x5 r) (h:H8 p0 x5=some r):aPt p0 x5 r:=by
 rw [H8] at h;delta aPt aG4;refine cd h (fun h=>?_) fun h=>?_;refine si (oi (sx 1 (ni (xi (ri (br (tr ?_)))))));injection h with h; subst h;exact rp;refine si (si (oi (sx 2 (ni (xi ?_)))));refine cd h (fun h=>?_) fun h=>?_;exact ki (nxs (U6 _ _ _ h) (wr [] eS bS));refine si (oi (sx 2 (ni (xi ?_))));refine cd h (fun h=>?_) fun h=>?_;exact ki (nxs (U6 _ _ _ h) (wr [] eS bS));refine si (oi (sx 2 (ni (xi ?_))));refine cd h (fun h=>?_) fun h=>?_;exact ki (nxs (U6 _ _ _ h) (wr [] eS bS));exact oi (sx 2 (ni (nxs (U6 _ _ _ h) (wr [] eS bS))))
theorem aTc (p0:aJ):FOk Tryz.prog 38 [(bX p0)] (fun y=>(vI y)) (aB7 p0):=by
 intro r h
 rw [aB7] at h;refine ao bIy (si (oi (sx 2 (ni (xi (si (si (oi (sx 2 (ni (xi (bi (si (si (oi (sx 2 (ni (xi ?_))))))))))))))))));refine cd h (fun h=>?_) fun h=>?_;exact ki (nxs (aGz _ _ _ h) (wr [] eS bS));refine si (oi (sx 2 (ni (xi ?_))));refine cd h (fun h=>?_) fun h=>?_;exact ki (nxs (aGz _ _ _ h) (wr [] eS bS));exact oi (sx 2 (ni (nxs (aGz _ _ _ h) (wr [] eS bS))))
theorem aIn (p1) (p0):(∀ x5 r,xL p1 x5 p0=some r→aC0 p1 x5 p0 r)∧(∀ x5 r,uW p1 p0 x5=some r→U9 p1 p0 x5 r):=by
 refine xL.mutual_partial_correctness p1 p0 (fun x5 r=>aC0 p1 x5 p0 r) (U9 p1 p0) ?_ ?_
 · intro bKe aEt x5 r h;delta aC0 aFl;exact oi (sx 3 (ni (lbs (aEt _ _ h) (wr [(6000000,.old 6000000)] eS (fM (c0:=[(.osl 6000000 33 3 (p0.t.map cO)),(vI p0.at_),(vB p0.bad)]) kr (aQ (eT (t:=6000000) kr kr) (aQ (aU kr kr) (aQ (aU kr kr) fK))) bJ)))))
 · intro bJl aDe x5 r h;delta U9 aA3;refine gX (si (si (oi (sx 2 (ni (xi ?_))))));refine cd h (fun h=>?_) fun h=>?_;refine ki (xi (si (bi (si (si (oi (sx 2 (cs h (aTc _) fun y1 h=>(sx 2 (ni (xi ?_)))))))))));refine cd h (fun h=>?_) fun h=>?_;exact ei (te (bh (nxs (aDe _ _ h) (wr [(6000000,.old 6000000)] eS (fM (c0:=[(.osl 6000000 33 3 (p0.t.map cO)),(vI p0.at_),(vB p0.bad)]) kr (aQ (eT (t:=6000000) kr kr) (aQ (aU kr kr) (aQ (aU kr kr) fK))) bJ)))));refine ki (xi (si (oi (sx 1 (cs h (bEj _) fun y2 h=>(sx 2 (ni (xi (si (oi (sx 1 (cg ⟨[(1000000,1000000)],[(6000000,6000000)],[],[],[],[(6000000,6000000)],[],[6000000],[]⟩ h (aRm _ _) fun y3 h=>(sx 2 (ni (xi (si (oi (sx 6 (gq 0 (gq 1 (gq 0 (gq 1 (gq 2 (pkA h fun y4 h=>(ni (xi ?_))))))))))))))))))))))))));refine cd h (fun h=>?_) fun h=>?_;refine si (oi (sx 2 (ni (xi ?_))));refine iP (s':=⟨[(4,(vI x5))],[(1000000,[(.osl 6000000 33 3 (p0.t.map cO)),(vI p0.at_),(vB p0.bad)])]⟩) (wr [(6000000,.old 6000000)] eS (fM (c0:=[(.osl 6000000 33 3 (p0.t.map cO)),(vI p0.at_),(vB p0.bad)]) kr (aQ (eT (t:=6000000) kr kr) (aQ (aU kr kr) (aQ (aU kr kr) fK))) bJ)) ?_;refine br (tr (tr (br (tr ?_))));injection h with h; subst h;exact rb;exact ki (bn (nxs (aDe _ _ h) (wr [(6000000,.old 6000000)] eS (fM (c0:=[(.osl 6000000 33 3 (p0.t.map cO)),(vI p0.at_),(vB p0.bad)]) kr (aQ (eT (t:=6000000) kr kr) (aQ (aU kr kr) (aQ (aU kr kr) fK))) bJ))));refine ei (te (te (bh (xi (si (oi (sx 1 (ni (xi ?_)))))))));refine iP (s':=⟨[(4,(vI 0))],[(1000000,[(.osl 6000000 33 3 (p0.t.map cO)),(vI p0.at_),(vB p0.bad)])]⟩) (wr [(6000000,.old 6000000)] eS (fM (c0:=[(.osl 6000000 33 3 (p0.t.map cO)),(vI p0.at_),(vB p0.bad)]) kr (aQ (eT (t:=6000000) kr kr) (aQ (aU kr kr) (aQ (aU kr kr) fK))) bJ)) ?_;injection h with h; subst h;exact rb
theorem aDe (p1 x5 p0 r) (h:xL p1 x5 p0=some r):aC0 p1 x5 p0 r:=(aIn p1 p0).1 x5 r h
theorem aEt (p1 p0 x5 r) (h:uW p1 p0 x5=some r):U9 p1 p0 x5 r:=(aIn p1 p0).2 x5 r h
theorem aZn (p0:iB) (p1:Int):dV Tryz.prog 27 [(.ptr 1000000 0),(vI p1)] [(1000000,[(.osl 6000000 33 3 (p0.t.map cO)),(vI p0.at_),(vB p0.bad)])] (fun (y:Int)=>(vI y)) (fun (y:Int)=>[(1000000,[(.osl 6000000 33 3 (p0.t.map cO)),(vI p0.at_),(vB p0.bad)])]) (xM p0 p1):=by
 intro r h
 rw [xM] at h;refine ao bB2 (si (oi (sx 1 (ni (xi (si (si (oi (sx 1 (ni (xi (bi ?_))))))))))));exact lgs (aEt _ _ _ _ h) (wr [(6000000,.old 6000000)] eS (fM (c0:=[(.osl 6000000 33 3 (p0.t.map cO)),(vI p0.at_),(vB p0.bad)]) kr (aQ (eT (t:=6000000) kr kr) (aQ (aU kr kr) (aQ (aU kr kr) fK))) bJ))
theorem aOh (p0:aB) (p1:Int):FOk Tryz.prog 20 [(iZ p0),(vI p1)] (fun y=>(vI y)) (F4 p0 p1):=by
 intro r h
 rw [F4] at h;refine ao bAa (si (oi (sx 2 (ni (xi (si (oi (sx 1 (gD (l:=([p0]:List aB)) (f:=cO) (g:=cO) kr (fun _=>rfl) kr (kE (c:=[(.osl 7 33 3 (([p0]:List aB).map cO)),(vI 0),(vB false)]) kr kr rfl (sx 2 (ni (xi (si (oi (sx 2 ?_))))))))))))))));refine cg ⟨[(1000000,9)],[(6000000,7)],[],[],[],[(6000000,7)],[],[7],[]⟩ h (aZn _ _) fun y1 h=>(sx 1 (ni (xi (ri ?_))));injection h with h; subst h;exact rp
theorem aK3 (x6 r) (h:zY x6=some r):aMh x6 r:=by
 rw [zY] at h;delta aMh aHr;refine si (oi (sx 2 (ni (xi (ri (br (tr ?_)))))));injection h with h; subst h;exact rp
theorem aPf (x7 r) (h:xX x7=some r):aOx x7 r:=by
 rw [xX] at h;delta aOx aDv;refine si (oi (sx 2 (ni (xi (ri (br (tr ?_)))))));injection h with h; subst h;exact rp
theorem bDk (x3 r) (h:aAr x3=some r):aNv x3 r:=by
 rw [aAr] at h;delta aNv aCi;refine si (oi (sx 1 (vs (fun (y:List UInt8)=>(vS y)) h (fun y hy=>aF2 (l:=x3) hy kr kr) fun y3 h=>(sx 1 (ni (xi (ri ?_)))))));injection h with h; subst h;exact rp
theorem aJ8:(∀ x4 mO r,wE x4 mO=some r→aBr x4 mO r)∧(∀ x4 fH r,vU x4 fH=some r→aBx x4 fH r):=by
 refine wE.mutual_partial_correctness aBr aBx ?_ ?_
 · intro bKa aGu x4 mO r h;delta aBr aEk;exact oi (sx 3 (ni (lbs (aGu _ _ _ h) (tw [.rn [(60052000,60013000)]] (wr [] eS bS)))))
 · intro bJz aFg x4 fH r h;delta aBx aAy;refine gX (si (si (oi (sx 2 (ps (vI (ln fH)) (aMw (n:=60013000) (l:=fH.map cU8) (L:=fH.length) kr kr (List.length_map ..)) (sx 1 (ni (xi ?_))))))));refine cd h (fun h=>?_) fun h=>?_;refine ki (xi (si (bi (si (oi (sx 2 (aOm (n:=60013000) (k:=.i64) (i:=x4) (l:=fH) (f:=cU8) (g:=cU8) [] h kr kr kr (fun _=>rfl) kr (fun _=>rfl) fun y1 hiy1 h=>?_)))))));refine ps (.d (.i .u8 y1)) (aDi (n:=60013000) (sz:=1) (i:=(x4).toNat) (off:=0) (l:=fH.map cU8) (c:=[(.d (.i .u8 y1))]) kr kr kr) (sx 2 (gq 0 (gq 0 ?_)));refine gp true (decide (97≤y1)) (.trp 60013000 1 (x4).toNat 0) (fun hc=>bCc (n:=60013000) (k:=.i64) (i:=x4) (l:=fH.map cU8) (c:=[(.d (.i .u8 y1))]) (I9 hiy1).1 kr (Eq.trans (b:=([(true&&((decide (97≤y1))==true)),(true&&((decide (97≤y1))==true))]:List Bool).all id) kr (jB hc (jB hc rfl))) kr kr) ?_;refine gp true (decide (97≤y1)) (.d (.i .u8 y1)) (fun hc=>aSj (n:=60013000) (sz:=1) (i:=(x4).toNat) (off:=0) (l:=fH.map cU8) (c:=[(.d (.i .u8 y1))]) (Eq.trans (b:=([(true&&((decide (97≤y1))==true))]:List Bool).all id) kr (jB hc rfl)) kr kr kr) (gq 1 (pkA h fun y2 h=>(ni (xi ?_))));refine cd h (fun h=>?_) fun h=>?_;refine oi (sx 4 (aGx (n:=60013000) (k:=.i64) (i:=x4) (l:=fH.map cU8) (c:=[(.d (.i .u8 y1))]) kr kr (I9 hiy1).1 kr (ps (.d (.i .u8 y1)) (aDi (n:=60013000) (sz:=1) (i:=(x4).toNat) (off:=0) (l:=fH.map cU8) (c:=[(.d (.i .u8 y1))]) kr kr kr) (sx 1 ?_))));refine aGx (n:=60013000) (k:=.i64) (i:=x4) (l:=fH.map cU8) (c:=[(.d (.i .u8 y1))]) kr kr (I9 hiy1).1 kr (aMd (n:=60013000) (sz:=1) (i:=(x4).toNat) (off:=0) (l:=fH.map cU8) (c:=[(.d (.i .u8 y1))]) kr kr kr rfl (ni (bn ?_)));exact nxs (aFg _ _ _ h) (tw [.clo 60013000,.rn [(60013000,60052000)]] (wr [] eS (bt_ (R:=(fH.set (x4).toNat (IntKind.wrap .u8 (y1 - 32))).map cU8) (aC3 (l:=fH) (k:=(x4).toNat) (x:=(IntKind.wrap .u8 (y1 - 32))) (fun _=>rfl)) bJ)));exact ki (bn (nxs (aFg _ _ _ h) (tw [.clo 60013000,.rn [(60013000,60052000)]] (wr [] eS (bt_ (R:=(fH.set (x4).toNat y1).map cU8) (aC3 (l:=fH) (k:=(x4).toNat) (x:=y1) (fun _=>rfl)) bJ)))));exact ei (te (te (bh (nxs (bDk _ _ h) (tw [.frz [60013000]] (wr [] eS bJ))))))
theorem aFg (x4 mO r) (h:wE x4 mO=some r):aBr x4 mO r:=(aJ8).1 x4 mO r h
theorem aGu (x4 fH r) (h:vU x4 fH=some r):aBx x4 fH r:=(aJ8).2 x4 fH r h
theorem aJo (p0:List UInt8):FOk Tryz.prog 34 [(vS p0)] (fun y=>(vS y)) (yZ p0):=by
 intro r h
 rw [yZ] at h;exact ao bCb (si (oi (sx 1 (ni (xi (si (oi (sx 1 (aKs (b:=p0) kr kr rfl (sx 1 (ni (xi (si (si (oi (sx 1 (ni (xi (bi (lgs (aGu _ _ _ h) (tw [.rn [(6,60013000)]] (wr [] eS bS))))))))))))))))))))))
theorem bC3 (y1) (y2):(∀ x5 r,uK y1 y2 x5=some r→Z8 y1 y2 x5 r):=by
 refine uK.partial_correctness y1 y2 (Z8 y1 y2) ?_
 · intro bJg aH4 x5 r h;delta Z8 aDp;refine gX (si (si (oi (sx 2 (lq y2 (sx 1 (ni (xi ?_))))))));refine cd h (fun h=>?_) fun h=>?_;refine ki (xi (si (bi (si (oi (sx 2 (iq h fun y3 h=>(sx 3 (ni (xi ?_))))))))));refine cd h (fun h=>?_) fun h=>?_;refine si (oi (sx 2 (ni (xi (ri (br (tr (tr (br (tr ?_))))))))));injection h with h; subst h;exact rp;exact ki (bn (xi (oi (sx 3 (ni (lbs (aH4 _ _ h) (wr [(4,.old 4)] (es (eo 4 eS)) bJ)))))));refine ei (te (te (bh (xi (si (oi (sx 1 (ni (xi (ri ?_))))))))));injection h with h; subst h;exact rp
theorem aH4 (y1 y2 x5 r) (h:uK y1 y2 x5=some r):Z8 y1 y2 x5 r:=(bC3 y1 y2) x5 r h
theorem bF0 (p0:List UInt8):FOk Tryz.prog 33 [(vS p0)] (fun y=>(vI y)) (Q5 p0):=by
 intro r h
 rw [Q5] at h;refine ao bCs (si (oi (sx 1 (ni (xi (si (si (oi (sx 3 (ni (xi ?_)))))))))));refine cd h (fun h=>?_) fun h=>?_;refine si (oi (sx 1 (ni (xi (ri (tr ?_))))));injection h with h; subst h;exact rp;exact ki (xi (si (oi (sx 1 (cs h (aJo _) fun y1 h=>(sx 1 (ni (xi (si (oi (cg ⟨[],[],[],[],[],[(2000000,11)],[],[11],[]⟩ h aLz fun y2 h=>(sx 1 (ni (xi (si (si (oi (sx 1 (ni (xi (bi (lgs (aH4 _ _ _ _ h) (wr [(4,.old 4)] (es (eo 4 eS)) bJ)))))))))))))))))))))))
theorem bHs (p0:List UInt8):FOk Tryz.prog 35 [(vS p0)] (fun y=>(vB y)) (F3 p0):=by
 intro r h
 rw [F3] at h;refine ao bAq (si (oi (sx 1 (ni (xi (si (oi (sx 2 (cs h (aBo _ _ _) fun y1 h=>(sx 1 (ni (xi (ri ?_)))))))))))));injection h with h; subst h;exact rp
theorem aIt (p0):(∀ x0 x4 x5 r,xB x0 p0 x4 x5=some r→aA7 x0 p0 x4 x5 r)∧(∀ x0 x4 r,wH p0 x0 x4=some r→aB2 p0 x0 x4 r):=by
 refine xB.mutual_partial_correctness p0 (fun x0 x4 x5 r=>aA7 x0 p0 x4 x5 r) (aB2 p0) ?_ ?_
 · intro bJd aDc x0 x4 x5 r h;delta aA7 aGa;refine si (oi (sx 3 (gD (l:=([(IntKind.wrap .u8 (IntKind.wrap .i64 (48+x5)))]:List Int)) (f:=cU8) (g:=cU8) kr (fun _=>rfl) kr (vs (fun (y:List UInt8)=>(vS y)) h (fun y hy=>aF2 (l:=([(IntKind.wrap .u8 (IntKind.wrap .i64 (48+x5)))]:List Int)) hy kr kr) fun y2 h=>(sx 1 ?_)))));exact vs (fun (y:List UInt8)=>(vS y)) h (fun y hy=>aJ0 (a:=y2) (b:=x4) hy kr kr kr) fun y3 h=>(sx 1 (ni (xi (oi (sx 3 (ni (bn (lbs (aDc _ _ _ h) (wr [] eS bJ)))))))))
 · intro bJ8 aEh x0 x4 r h;delta aB2 aCx;refine gX (si (si (oi (sx 2 (ni (xi ?_))))));refine cd h (fun h=>?_) fun h=>?_;refine ki (xi (bi (si (oi (sx 3 (ni (xi (si (si (oi (sx 2 (ni (xi ?_)))))))))))));refine cd h (fun h=>?_) fun h=>?_;exact oi (sx 3 (ni (nxs (aEh _ _ _ _ h) (wr [] eS bJ))));exact ki (nxs (aEh _ _ _ _ h) (wr [] eS bJ));refine ei (te (te (bh (xi (si (si (oi (sx 1 (ni (xi ?_))))))))));refine cd h (fun h=>?_) fun h=>?_;refine si (oi (sx 1 (vs (fun (y:List UInt8)=>(vS y)) h (fun y hy=>aJ0 (a:=[45]) (b:=x4) hy kr kr kr) fun y1 h=>(sx 1 (ni (xi (ri (tr ?_))))))));injection h with h; subst h;exact rp;refine ki (xi (si (oi (sx 2 (ni (xi (ri ?_)))))));injection h with h; subst h;exact rp
theorem aEh (x0 p0 x4 x5 r) (h:xB x0 p0 x4 x5=some r):aA7 x0 p0 x4 x5 r:=(aIt p0).1 x0 x4 x5 r h
theorem aDc (p0 x0 x4 r) (h:wH p0 x0 x4=some r):aB2 p0 x0 x4 r:=(aIt p0).2 x0 x4 r h
theorem bBw (p0:Int):FOk Tryz.prog 44 [(vI p0)] (fun y=>(vS y)) (G9 p0):=by
 intro r h
 rw [G9] at h;refine ao aZl (si (oi (sx 1 (ni (xi (si (si (oi (sx 2 (ni (xi ?_)))))))))));refine cd h (fun h=>?_) fun h=>?_;refine si (oi (sx 1 (ni (xi (ri (tr ?_))))));injection h with h; subst h;exact rp;exact ki (xi (si (oi (sx 3 (ni (xi (si (oi (sx 1 (ni (xi (si (bi (lgs (aDc _ _ _ _ h) (wr [] eS bJ)))))))))))))))
theorem aW9 (p0):(∀ x4 x5 r,tY p0 x4 x5=some r→aB5 p0 x4 x5 r):=by
 refine tY.partial_correctness p0 (aB5 p0) ?_
 · intro bLj aFb x4 x5 r h;delta aB5 aFw;refine gX (si (si (oi (sx 4 (ni (xi ?_))))));refine cd h (fun h=>?_) fun h=>?_;refine ki (xi (si (bi (si (si (oi (sx 2 (vs (fun (y:Int)=>(.d (.i .u8 y))) h (fun y hy=>aDo (b:=p0) (k:=.i64) hy kr kr kr) fun y2 h=>(sx 2 (gq 0 (gq 0 ?_)))))))))));refine gv true (decide (y2<48)) (fun (y:Int)=>(.d (.i .u8 y))) h (fun y hy hc=>aDo (b:=p0) (k:=.i64) hy (Eq.trans (b:=([(true&&((decide (y2<48))==false)),(true&&((decide (y2<48))==false))]:List Bool).all id) kr (jB hc (jB hc rfl))) kr kr) fun y3 h=>(gq 1 (pkO h fun y4 h=>(ni (xi ?_))));refine cd h (fun h=>?_) fun h=>?_;refine si (oi (sx 2 (ni (xi (ri (tr (br (tr (tr (br (tr ?_)))))))))));injection h with h; subst h;exact rnp;refine ki (xi (si (oi (sx 2 (vs (fun (y:Int)=>(.d (.i .u8 y))) h (fun y hy=>aDo (b:=p0) (k:=.i64) hy kr kr kr) fun y5 h=>(sx 3 (ni (xi (si (si (oi (sx 5 (ni (xi ?_))))))))))))));refine cd h (fun h=>?_) fun h=>?_;refine si (oi (sx 2 (ni (xi (ri (tr (br (tr (tr (br (tr ?_)))))))))));injection h with h; subst h;exact rnp;exact ki (xi (oi (sx 5 (ni (bn (xi (oi (sx 3 (ni (lbs (aFb _ _ _ h) (wr [] eS bJ)))))))))));refine ei (te (te (bh (xi (si (si (oi (sx 1 (cs h (bBw _) fun y6 h=>(sx 2 (ni (xi ?_))))))))))));refine cd h (fun h=>?_) fun h=>?_;refine si (oi (sx 2 (ni (xi (ri (tr ?_))))));injection h with h; subst h;exact rnp;refine ki (xi (si (oi (sx 3 (ni (xi (ri ?_)))))));injection h with h; subst h;exact rnp
theorem aFb (p0 x4 x5 r) (h:tY p0 x4 x5=some r):aB5 p0 x4 x5 r:=(aW9 p0) x4 x5 r h
theorem aWf (p0:List UInt8):FOk Tryz.prog 36 [(vS p0)] (fun y=>(.tup [(vI y.1),(vB y.2)])) (D7 p0):=by
 intro r h
 rw [D7] at h;refine ao bHx (si (oi (sx 2 (ni (xi (si (si (oi (sx 4 (gq 0 (gq 1 (gq 1 (pkO h fun y1 h=>(ni (xi ?_)))))))))))))));refine cd h (fun h=>?_) fun h=>?_;refine si (oi (sx 2 (ni (xi (ri (tr ?_))))));injection h with h; subst h;exact rnp;exact ki (xi (si (oi (sx 1 (ni (xi (si (si (oi (sx 1 (ni (xi (bi (lgs (aFb _ _ _ _ h) (wr [] eS bJ)))))))))))))))
theorem kM (x4 r) (h:jH x4=some r):aO9 x4 r:=by
 rw [jH] at h;delta aO9 aEp;refine cd h (fun h=>?_) fun h=>?_;refine si (oi (sx 1 (ni (xi (ri (br (tr ?_)))))));injection h with h; subst h;exact rp;refine ki (bn (xi (si (oi (sx 1 (ni (xi (ri ?_))))))));injection h with h; subst h;exact rp
theorem aQn (p0:List UInt8):FOk Tryz.prog 37 [(vS p0)] (fun y=>(vB y)) (R8 p0):=by
 intro r h
 rw [R8] at h;refine ao bG0 (si (oi (sx 1 (ni (xi (si (si (oi (sx 1 (ni (xi (bi (si (si (oi (sx 2 (ni (xi ?_))))))))))))))))));refine cd h (fun h=>?_) fun h=>?_;exact ki (nxs (kM _ _ h) (wr [] eS bJ));refine si (oi (sx 2 (ni (xi ?_))));refine cd h (fun h=>?_) fun h=>?_;exact ki (nxs (kM _ _ h) (wr [] eS bJ));refine si (oi (sx 2 (ni (xi ?_))));refine cd h (fun h=>?_) fun h=>?_;exact ki (nxs (kM _ _ h) (wr [] eS bJ));refine si (oi (sx 2 (ni (xi ?_))));refine cd h (fun h=>?_) fun h=>?_;exact ki (nxs (kM _ _ h) (wr [] eS bJ));refine si (oi (sx 2 (ni (xi ?_))));refine cd h (fun h=>?_) fun h=>?_;exact ki (nxs (kM _ _ h) (wr [] eS bJ));refine si (oi (sx 2 (ni (xi ?_))));refine cd h (fun h=>?_) fun h=>?_;exact ki (nxs (kM _ _ h) (wr [] eS bJ));refine si (oi (sx 2 (ni (xi ?_))));refine cd h (fun h=>?_) fun h=>?_;exact ki (nxs (kM _ _ h) (wr [] eS bJ));refine si (oi (sx 2 (ni (xi ?_))));refine cd h (fun h=>?_) fun h=>?_;exact ki (nxs (kM _ _ h) (wr [] eS bJ));refine si (oi (sx 2 (ni (xi ?_))));refine cd h (fun h=>?_) fun h=>?_;exact ki (nxs (kM _ _ h) (wr [] eS bJ));refine si (oi (sx 2 (ni (xi ?_))));refine cd h (fun h=>?_) fun h=>?_;exact ki (nxs (kM _ _ h) (wr [] eS bJ));refine si (oi (sx 2 (ni (xi ?_))));refine cd h (fun h=>?_) fun h=>?_;exact ki (nxs (kM _ _ h) (wr [] eS bJ));refine si (oi (sx 2 (ni (xi ?_))));refine cd h (fun h=>?_) fun h=>?_;exact ki (nxs (kM _ _ h) (wr [] eS bJ));refine si (oi (sx 2 (ni (xi ?_))));refine cd h (fun h=>?_) fun h=>?_;exact ki (nxs (kM _ _ h) (wr [] eS bJ));refine si (oi (sx 2 (ni (xi ?_))));refine cd h (fun h=>?_) fun h=>?_;exact ki (nxs (kM _ _ h) (wr [] eS bJ));refine si (oi (sx 2 (ni (xi ?_))));refine cd h (fun h=>?_) fun h=>?_;exact ki (nxs (kM _ _ h) (wr [] eS bJ));exact oi (sx 2 (ni (nxs (kM _ _ h) (wr [] eS bJ))))
theorem aEd (p0:aB):FOk Tryz.prog 26 [(iZ p0)] (fun y=>(vB y)) (pX p0):=by
 intro r h
 rw [pX] at h;refine ao aXx (si (oi (sx 2 (ni (xi (si (si (oi (sx 2 (ni (xi (bi (si (oi (sx 2 (ni (xi ?_)))))))))))))))));refine cd h (fun h=>?_) fun h=>?_;refine si (gK (dsx 2 (dcs h (bF0 _) fun y1 h=>(dsx 2 (dgq 0 (dgq 1 (dgc 1 h (aJo _) fun y2 h=>(dgq 0 (dgq 1 (dgq 2 (zA h fun y3 h=>(dsx 1 (gN kr kr (xi (ri (br (tr ?_)))))))))))))))));injection h with h; subst h;exact rp;refine si (oi (sx 2 (ni (xi ?_))));refine cd h (fun h=>?_) fun h=>?_;refine si (oi (sx 2 (cs h (bHs _) fun y4 h=>(sx 1 (ni (xi (ri (br (tr ?_)))))))));injection h with h; subst h;exact rp;refine si (oi (sx 2 (ni (xi ?_))));refine cd h (fun h=>?_) fun h=>?_;refine si (oi (sx 2 (cs h (aWf _) fun y5 h=>(sx 5 (ni (xi (si (oi (sx 2 (ni (xi (ri (br (tr ?_))))))))))))));injection h with h; subst h;exact rp;refine si (oi (sx 2 (ni (xi ?_))));refine cd h (fun h=>?_) fun h=>?_;refine si (oi (sx 5 (ni (xi (ri (br (tr ?_)))))));injection h with h; subst h;exact rp;refine si (oi (sx 2 (ni (xi ?_))));refine cd h (fun h=>?_) fun h=>?_;refine si (oi (sx 2 (cs h (aQn _) fun y6 h=>(sx 1 (ni (xi (ri (br (tr ?_)))))))));injection h with h; subst h;exact rp;refine ki (bn (xi (si (oi (sx 1 (ni (xi (ri ?_))))))));injection h with h; subst h;exact rp
theorem bD1 (p0:List aB):FOk Tryz.prog 19 [(dF p0)] (fun y=>(vI y)) (qO p0):=by
 intro r h
 rw [qO] at h;refine ao bGb (si (oi (sx 1 (ni (xi (si (oi (sx 1 (iq h fun y1 h=>(sx 3 (ni (xi (si (si (oi (sx 1 (lq p0 (sx 2 (gq 0 (gc 1 h (aEd _) fun y2 h=>(pkA h fun y3 h=>(sx 1 (gq 0 (gq 1 (gq 1 (gq 1 (gq 0 (gq 1 (gq 1 ?_)))))))))))))))))))))))))))));refine gv true y3 (fun (y:Bool)=>(vB y)) h (fun y hy hc=>nK hy (p:=true) (q:=((true&&(y3==true))&&((decide (y1.kind=3))==false))) (Eq.trans (b:=([(true&&(y3==true))]:List Bool).all id) kr (jB hc rfl)) kr kr kr (fun _=>rfl) (fun hb=>rH hc hb)) fun y4 h=>(gq 1 (gq 0 (gq 1 (gq 1 ?_))));refine gv true y3 (fun (y:Bool)=>(vB y)) h (fun y hy hc=>nK hy (p:=true) (q:=((true&&(y3==true))&&(y4==false))) (Eq.trans (b:=([(true&&(y3==true))]:List Bool).all id) kr (jB hc rfl)) kr kr kr (fun _=>rfl) (fun hb=>rH hc hb)) fun y5 h=>(gq 1 (gq 0 (gc 1 h (nZ _ _) fun y6 h=>?_)));refine gv true y3 (fun (y:Bool)=>(vB y)) h (fun y hy hc=>nK hy (p:=true) (q:=((true&&(y3==true))&&(y5==false))) (Eq.trans (b:=([(true&&(y3==true))]:List Bool).all id) kr (jB hc rfl)) kr kr kr (fun _=>rfl) (fun hb=>rH hc hb)) fun y7 h=>(gq 1 (gq 0 (gc 1 h (nZ _ _) fun y8 h=>?_)));refine gv true y3 (fun (y:Bool)=>(vB y)) h (fun y hy hc=>nK hy (p:=true) (q:=((true&&(y3==true))&&(y7==false))) (Eq.trans (b:=([(true&&(y3==true))]:List Bool).all id) kr (jB hc rfl)) kr kr kr (fun _=>rfl) (fun hb=>rH hc hb)) fun y9 h=>(gq 1 (gq 0 (gc 1 h (nZ _ _) fun y10 h=>?_)));refine gv true y3 (fun (y:Bool)=>(vB y)) h (fun y hy hc=>nK hy (p:=true) (q:=((true&&(y3==true))&&(y9==false))) (Eq.trans (b:=([(true&&(y3==true))]:List Bool).all id) kr (jB hc rfl)) kr kr kr (fun _=>rfl) (fun hb=>rH hc hb)) fun y11 h=>(pkA h fun y12 h=>(ni (xi ?_)));refine cd h (fun h=>?_) fun h=>?_;refine si (oi (sx 1 (ni (xi (ri (tr ?_))))));injection h with h; subst h;exact rp;refine ki (xi (si (si (oi (sx 1 (lq p0 (sx 2 (gq 0 (gq 1 (gq 1 (pkA h fun y13 h=>(sx 1 (gq 0 (gc 1 h (aEd _) fun y14 h=>(pkA h fun y15 h=>(sx 1 (gq 0 (giq 1 h fun y16 h=>(gq 1 (gc 1 h (vF _ _) fun y17 h=>(pkA h fun y18 h=>(sx 1 (gq 0 (giq 1 h fun y19 h=>(gq 1 (gq 1 (gq 1 (pkA h fun y20 h=>(sx 1 (gq 0 (giq 1 h fun y21 h=>(gq 1 (gc 1 h (aEd _) fun y22 h=>(pkA h fun y23 h=>(ni (xi ?_))))))))))))))))))))))))))))))))))));refine cd h (fun h=>?_) fun h=>?_;refine si (oi (sx 1 (ni (xi (ri (tr ?_))))));injection h with h; subst h;exact rp;refine ki (xi (si (oi (sx 1 (ni (xi (ri ?_)))))));injection h with h; subst h;exact rp
theorem bIt (p0:Int) (p1:Int):FOk Tryz.prog 18 [(vI p0),(vI p1)] (fun y=>(vI y)) (J8 p0 p1):=by
 intro r h
 rw [J8] at h;refine ao bDw (si (oi (sx 1 (ni (xi (si (si (oi (sx 3 (ni (xi ?_)))))))))));refine cd h (fun h=>?_) fun h=>?_;refine si (oi (sx 2 (ni (xi (ri (tr ?_))))));injection h with h; subst h;exact rp;refine ki (xi (si (oi (sx 2 (ni (xi (ri ?_)))))));injection h with h; subst h;exact rp
end Go.Proofs.YtfomfmjicgdebaaGreatDoor
