/- That the code computes these functions (printed by a program). -/
import Derived.KernelRfl
import Derived.Test.YthgkmdkjegiaoacGreatAbG2
import Derived.Test.YthgkmdkjegiaoacGreatAbC3
import Derived.Test.YthgkmdkjegiaoacGreatAbX2
import Derived.Test.YthgkmdkjegiaoacGreatFExactSPlanOk
import Derived.Test.YthgkmdkjegiaoacGreatProg
namespace Go.Proofs.YthgkmdkjegiaoacGreat
open Go Go.RowKit Go.Ab
attribute [local irreducible] avc bI aop dgo aU bF bG wkK vQ stz aAz bA eff bH.st
def cI (n:Int):List D:=[.i .i64 n]
def cU8 (n:Int):List D:=[.i .u8 n]
def cGu (n:Int):List D:=[.i .u64 n]
def cE4 (n:Int):List D:=[.i .i32 n]
def cHf (n:Int):List D:=[.i .u32 n]
def cB (b:Bool):List D:=[.b b]
def cStr (s:List UInt8):List D:=[.s (bs s)]
def cSl {α:Type} (sz:Nat) (f:α→List D) (l:List α):List D:=[.sl sz (l.map f)]
def gD (x:bL):List D:=[(.s (bs x.name)),(.i .i64 x.type)]
def nM (x:bL):V:=.agg (gD x)
def cDj (x:bL):List V:=(gD x).map V.d
def iR (x:bD):List D:=[(.s (bs x.name)),(.sl 2 (x.cols.map gD))]
def iZ (x:bD):V:=.agg (iR x)
def Z8 (x:bD):List V:=(iR x).map V.d
def J9 (x:aJ):List D:=[(.sl 2 (x.tables.map iR))]
def dR (x:aJ):V:=.agg (J9 x)
def dJ (x:aJ):List V:=(J9 x).map V.d
def vF (x:dC):List D:=[(.i .i64 x.kind),(.i .i64 x.num),(.s (bs x.text))]
def nW (x:dC):V:=.agg (vF x)
def cI0 (x:dC):List V:=(vF x).map V.d
mutual
def aZ:aA→List D
  | ⟨a0,a1,a2,a3,a4,a5,a6,a7⟩=>[(.i .i64 a0)]++[(.i .i64 a1)]++[(.b a2)]++vF a3++[(.i .i64 a4)]++[(.i .i64 a5)]++[.sl 10 (tY a6)]++[.sl 8 (aAp a7)]
def gI:aY→List D
  | ⟨a0,a1⟩=>aZ a0++[(.b a1)]
def gY:aB→List D
  | ⟨a0,a1,a2,a3,a4,a5,a6,a7⟩=>[(.sl 1 (a0.map cI))]++[.sl 1 (aAn a1)]++[.sl 10 (tY a2)]++[.sl 11 (R3 a3)]++[.sl 10 (tY a4)]++[(.sl 1 (a5.map cStr))]++[(.b a6)]++[(.i .i64 a7)]
def tY:List aA→List (List D)
  | []=>[]
  | x::l=>aZ x::tY l
def R3:List aY→List (List D)
  | []=>[]
  | x::l=>gI x::R3 l
def aAp:List aB→List (List D)
  | []=>[]
  | x::l=>gY x::aAp l
def aAn:List (List aA)→List (List D)
  | []=>[]
  | x::l=>[.sl 10 (tY x)]::aAn l
end
theorem aAk:∀ l:List aA,tY l=l.map aZ
  | []=>by simp only [tY,List.map_nil]
  | x::l=>by simp only [tY,List.map_cons,aAk l]
theorem aCf:∀ l:List aY,R3 l=l.map gI
  | []=>by simp only [R3,List.map_nil]
  | x::l=>by simp only [R3,List.map_cons,aCf l]
theorem aEj:∀ l:List aB,aAp l=l.map gY
  | []=>by simp only [aAp,List.map_nil]
  | x::l=>by simp only [aAp,List.map_cons,aEj l]
theorem aE3:∀ l:List (List aA),aAn l=l.map (cSl 10 aZ)
  | []=>by simp only [aAn,List.map_nil]
  | x::l=>by simp only [aAn,List.map_cons,aE3 l,cSl,aAk]
def iI (x:aA):List D:=[(.i .i64 x.kind),(.i .i64 x.op),(.b x.not_),(.i .i64 x.value.kind),(.i .i64 x.value.num),(.s (bs x.value.text)),(.i .i64 x.up),(.i .i64 x.at_),(.sl 10 (x.kids.map aZ)),(.sl 8 (x.sub.map gY))]
def lK (x:aY):List D:=[(.i .i64 x.expr.kind),(.i .i64 x.expr.op),(.b x.expr.not_),(.i .i64 x.expr.value.kind),(.i .i64 x.expr.value.num),(.s (bs x.expr.value.text)),(.i .i64 x.expr.up),(.i .i64 x.expr.at_),(.sl 10 (x.expr.kids.map aZ)),(.sl 8 (x.expr.sub.map gY)),(.b x.desc)]
def rO (x:aB):List D:=[(.sl 1 (x.tables.map cI)),(.sl 1 (x.on_.map (cSl 10 aZ))),(.sl 10 (x.where_.map aZ)),(.sl 11 (x.order.map gI)),(.sl 10 (x.items.map aZ)),(.sl 1 (x.names.map cStr)),(.b x.distinct),(.i .i64 x.limit)]
theorem iV (x:aA):aZ x=iI x:=by
  obtain ⟨a0,a1,a2,a3,a4,a5,a6,a7⟩:=x
  simp only [aZ,iI,aAk,aCf,aEj,aE3,List.cons_append,List.nil_append,vF]
theorem vJ (x:aY):gI x=lK x:=by
  obtain ⟨a0,a1⟩:=x
  simp only [gI,lK,aAk,aCf,aEj,aE3,iV,iI,List.cons_append,List.nil_append]
theorem uG (x:aB):gY x=rO x:=by
  obtain ⟨a0,a1,a2,a3,a4,a5,a6,a7⟩:=x
  simp only [gY,rO,aAk,aCf,aEj,aE3,List.cons_append,List.nil_append]
def bS (x:aA):V:=.agg (iI x)
def mW (x:aA):List V:=(iI x).map V.d
def fD (x:aY):V:=.agg (lK x)
def cGw (x:aY):List V:=(lK x).map V.d
def bV (x:aB):V:=.agg (rO x)
def jG (x:aB):List V:=(rO x).map V.d
def yU (x:bM):List D:=[(.i .i64 x.kind),(.sl 1 (x.plan.tables.map cI)),(.sl 1 (x.plan.on_.map (cSl 10 aZ))),(.sl 10 (x.plan.where_.map aZ)),(.sl 11 (x.plan.order.map gI)),(.sl 10 (x.plan.items.map aZ)),(.sl 1 (x.plan.names.map cStr)),(.b x.plan.distinct),(.i .i64 x.plan.limit),(.i .i64 x.table),(.sl 1 (x.rows.map (cSl 10 aZ))),(.sl 1 (x.cols.map cI)),(.sl 10 (x.sets.map aZ)),(.sl 10 (x.where_.map aZ))]
def jF (x:bM):V:=.agg (yU x)
def K8 (x:bM):List V:=(yU x).map V.d
mutual
def jW:cO→List D
  | ⟨a0,a1,a2,a3,a4,a5,a6,a7⟩=>[(.i .i64 a0)]++[(.i .i64 a1)]++[(.b a2)]++vF a3++[(.s (bs a4))]++[(.s (bs a5))]++[.sl 10 (wS a6)]++[.sl 6 (aAd a7)]
def xY:jN→List D
  | ⟨a0,a1,a2,a3⟩=>[(.b a0)]++[(.s (bs a1))]++jW a2++[(.s (bs a3))]
def mI:eY→List D
  | ⟨a0,a1,a2,a3,a4,a5⟩=>[(.b a0)]++[.sl 13 (S9 a1)]++[.sl 3 (aAw a2)]++[.sl 10 (wS a3)]++[.sl 11 (Q6 a4)]++[(.i .i64 a5)]
def wR:jA→List D
  | ⟨a0,a1⟩=>jW a0++[(.b a1)]
def xL:jL→List D
  | ⟨a0,a1,a2⟩=>[(.s (bs a0))]++[(.s (bs a1))]++[.sl 10 (wS a2)]
def wS:List cO→List (List D)
  | []=>[]
  | x::l=>jW x::wS l
def S9:List jN→List (List D)
  | []=>[]
  | x::l=>xY x::S9 l
def aAd:List eY→List (List D)
  | []=>[]
  | x::l=>mI x::aAd l
def Q6:List jA→List (List D)
  | []=>[]
  | x::l=>wR x::Q6 l
def aAw:List jL→List (List D)
  | []=>[]
  | x::l=>xL x::aAw l
end
theorem K6:∀ l:List cO,wS l=l.map jW
  | []=>by simp only [wS,List.map_nil]
  | x::l=>by simp only [wS,List.map_cons,K6 l]
theorem F6:∀ l:List jN,S9 l=l.map xY
  | []=>by simp only [S9,List.map_nil]
  | x::l=>by simp only [S9,List.map_cons,F6 l]
theorem yT:∀ l:List eY,aAd l=l.map mI
  | []=>by simp only [aAd,List.map_nil]
  | x::l=>by simp only [aAd,List.map_cons,yT l]
theorem M5:∀ l:List jA,Q6 l=l.map wR
  | []=>by simp only [Q6,List.map_nil]
  | x::l=>by simp only [Q6,List.map_cons,M5 l]
theorem K5:∀ l:List jL,aAw l=l.map xL
  | []=>by simp only [aAw,List.map_nil]
  | x::l=>by simp only [aAw,List.map_cons,K5 l]
def uT (x:cO):List D:=[(.i .i64 x.kind),(.i .i64 x.op),(.b x.not_),(.i .i64 x.value.kind),(.i .i64 x.value.num),(.s (bs x.value.text)),(.s (bs x.qual)),(.s (bs x.name)),(.sl 10 (x.kids.map jW)),(.sl 6 (x.sub.map mI))]
def aB6 (x:jN):List D:=[(.b x.star),(.s (bs x.qual)),(.i .i64 x.expr.kind),(.i .i64 x.expr.op),(.b x.expr.not_),(.i .i64 x.expr.value.kind),(.i .i64 x.expr.value.num),(.s (bs x.expr.value.text)),(.s (bs x.expr.qual)),(.s (bs x.expr.name)),(.sl 10 (x.expr.kids.map jW)),(.sl 6 (x.expr.sub.map mI)),(.s (bs x.as_))]
def I8 (x:eY):List D:=[(.b x.distinct),(.sl 13 (x.items.map xY)),(.sl 3 (x.from_.map xL)),(.sl 10 (x.where_.map jW)),(.sl 11 (x.order.map wR)),(.i .i64 x.limit)]
def U8 (x:jA):List D:=[(.i .i64 x.expr.kind),(.i .i64 x.expr.op),(.b x.expr.not_),(.i .i64 x.expr.value.kind),(.i .i64 x.expr.value.num),(.s (bs x.expr.value.text)),(.s (bs x.expr.qual)),(.s (bs x.expr.name)),(.sl 10 (x.expr.kids.map jW)),(.sl 6 (x.expr.sub.map mI)),(.b x.desc)]
def aAs (x:jL):List D:=[(.s (bs x.table)),(.s (bs x.as_)),(.sl 10 (x.on_.map jW))]
theorem F9 (x:cO):jW x=uT x:=by
  obtain ⟨a0,a1,a2,a3,a4,a5,a6,a7⟩:=x
  simp only [jW,uT,K6,F6,yT,M5,K5,List.cons_append,List.nil_append,vF]
theorem bC6 (x:jN):xY x=aB6 x:=by
  obtain ⟨a0,a1,a2,a3⟩:=x
  simp only [xY,aB6,K6,F6,yT,M5,K5,F9,uT,List.cons_append,List.nil_append]
theorem aWn (x:eY):mI x=I8 x:=by
  obtain ⟨a0,a1,a2,a3,a4,a5⟩:=x
  simp only [mI,I8,K6,F6,yT,M5,K5,List.cons_append,List.nil_append]
theorem bXp (x:jA):wR x=U8 x:=by
  obtain ⟨a0,a1⟩:=x
  simp only [wR,U8,K6,F6,yT,M5,K5,F9,uT,List.cons_append,List.nil_append]
theorem bCs (x:jL):xL x=aAs x:=by
  obtain ⟨a0,a1,a2⟩:=x
  simp only [xL,aAs,K6,F6,yT,M5,K5,List.cons_append,List.nil_append]
def aWw (x:cO):V:=.agg (uT x)
def bIk (x:cO):List V:=(uT x).map V.d
def cGr (x:jN):V:=.agg (aB6 x)
def cGx (x:jN):List V:=(aB6 x).map V.d
def cGn (x:eY):V:=.agg (I8 x)
def cDh (x:eY):List V:=(I8 x).map V.d
def cFw (x:jA):V:=.agg (U8 x)
def cHk (x:jA):List V:=(U8 x).map V.d
def cE0 (x:jL):V:=.agg (aAs x)
def cHq (x:jL):List V:=(aAs x).map V.d
def aI2 (x:fV):List D:=[(.b x.op),(.b x.not_),(.b x.value),(.b x.name),(.i .i64 x.least),(.i .i64 x.most),(.i .i64 x.subs)]
def aPt (x:fV):V:=.agg (aI2 x)
def cH2 (x:fV):List V:=(aI2 x).map V.d
instance:Enc (List aA):=⟨(cSl 10 aZ),(cSl 10 aZ),(fun _=>rfl)⟩
instance:Enc aA:=⟨aZ,iI,iV⟩
instance:Enc bD:=⟨iR,iR,(fun _=>rfl)⟩
instance:Enc aB:=⟨gY,rO,uG⟩
instance:Enc aY:=⟨gI,lK,vJ⟩
instance:Enc bL:=⟨gD,gD,(fun _=>rfl)⟩
instance:Enc (List UInt8):=⟨cStr,cStr,(fun _=>rfl)⟩
instance:Enc cO:=⟨jW,uT,F9⟩
instance:Enc eY:=⟨mI,I8,aWn⟩
theorem kr {p:Prop} (h:p:=by kernel_rfl):p:=h
def bX (l:List Int):V:=.d (.sl 1 (l.map cI))
def bN (l:List aA):V:=.d (.sl 10 (l.map aZ))
def fI (l:List (List UInt8)):V:=.d (.sl 1 (l.map cStr))
def eG (l:List aB):V:=.d (.sl 8 (l.map gY))
def eP (l:List aY):V:=.d (.sl 11 (l.map gI))
def iA (l:List bD):V:=.d (.sl 2 (l.map iR))
def iB (l:List bL):V:=.d (.sl 2 (l.map gD))
def fU:V:=(.d (.s (bs [])))
def bQ:V:=(.d (.i .i64 0))
def cK:V:=(.d (.b false))
def pE:List V:=[bQ,bQ,cK,bQ,bQ,fU,bQ,bQ,(.nil 10),(.nil 8)]
def xG:List V:=[(.nil 1),(.nil 1),(.nil 10),(.nil 11),(.nil 10),(.nil 1),cK,bQ]
def K9:List V:=[bQ,bQ,cK,bQ,bQ,fU,bQ,bQ,(.nil 10),(.nil 8),cK]
def aOe:List V:=[bQ,(.nil 1),(.nil 1),(.nil 10),(.nil 11),(.nil 10),(.nil 1),cK,bQ,bQ,(.nil 1),(.nil 1),(.nil 10),(.nil 10)]
def aY4:List V:=[cK,cK,cK,cK,bQ,bQ,bQ]
def bVl:AC:=(.seq (.ops [.box 2 24 0,.box 3 33 1,.asg 4 (kB false)]) (.seq (.ops [.asg 5 (kI 1048576)]) (.seq (.ops [.ld 10 1 true 2,.mv 11 5,.call (some 12) 4 [10,11],.asg 5 12]) (.seq (.seq (.ops [.mv 13 5,.bin 14 .lss 13 (kI 0)]) (.cond 14 (.seq (.ops [.asg 4 (kB true)]) .ret) .skip)) (.seq (.ops [.ld 15 14 true 3,.mv 16 5,.call (some 17) 5 [15,16],.asg 5 17]) (.seq (.seq (.ops [.mv 18 5,.bin 19 .lss 18 (kI 0)]) (.cond 19 (.seq (.ops [.asg 4 (kB true)]) .ret) .skip)) (.seq (.dops [[],[0],[],[2,1],[1,3,3],[4,4,0,1,2,3,4]] [.ld 20 1 true 2,.call (some 21) 7 [20],.ld 22 14 true 3,.call (some 23) 8 [22],.call (some 24) 6 [21,23],.asg 6 24]) (.seq (.ops [.ld 25 1 true 2,.call (some 26) 7 [25],.alc 7 [(.nil 2)],.st 1 7 26]) (.seq (.ops [.ld 27 14 true 3,.call (some 28) 8 [27],.alc 8 aOe,.st 14 8 28]) (.seq (.ops [.ld 29 1 true 7,.ld 30 14 true 8,.call (some 31) 9 [29,30],.asg 9 31]) (.seq (.seq (.ops [.mv 32 9,.mv 33 6,.eqb 34 true 32 33]) (.cond 34 (.seq (.ops [.asg 4 (kB false)]) .ret) .skip)) (.seq (.seq (.dops [[],[],[1],[0,2,2],[3]] [.ld 35 1 true 7,.ld 36 1 true 2,.call (some 37) 7 [36],.call (some 38) 10 [35,37],.not 39 38]) (.cond 39 (.seq (.ops [.asg 4 (kB false)]) .ret) .skip)) (.seq (.seq (.dops [[],[],[1],[0,2,2],[3]] [.ld 40 14 true 8,.ld 41 14 true 3,.call (some 42) 8 [41],.call (some 43) 11 [40,42],.not 44 43]) (.cond 44 (.seq (.ops [.asg 4 (kB false)]) .ret) .skip)) (.seq (.ops [.asg 4 (kB true)]) .ret))))))))))))))
theorem bXt:aV Tryz.prog 3=some (bVl,[.mv 0 4],45):=by kernel_rfl
def cHb (r:Bool):Exit→St→Prop:=aU [.mv 0 4] fun x _=>x=(fun y=>(vB y)) r
def bKg:AC:=(.seq (.ops [.box 2 39 0,.box 3 47 1,.asg 4 (kB false)]) (.seq (.ops [.fa 7 10 3,.ld 8 1 false 7,.len 9 8,.fa 10 11 3,.ld 11 1 false 10,.len 12 11,.bin 13 .add 9 12,.fa 14 12 3,.ld 15 1 false 14,.len 16 15,.bin 17 .add 13 16,.fa 18 13 3,.ld 19 1 false 18,.len 20 19,.bin 21 .add 17 20,.asg 5 21]) (.seq (.seq (.ops [.fa 22 0 3,.ld 23 1 false 22,.bin 24 .eql 23 (kI 1)]) (.cond 24 (.seq (.ops [.ld 25 1 true 2,.fa 26 1 3,.ld 27 8 true 26,.call (some 28) 17 [25,27],.mv 29 28,.g 29 true (.fa 30 9 3),.g 29 true (.ld 31 1 false 30),.g 29 true (.bin 32 .eql 31 (kI 0)),.pick 33 29 32 (kB false),.mv 34 33,.g 34 true (.mv 35 5),.g 34 true (.bin 36 .eql 35 (kI 0)),.pick 37 34 36 (kB false),.asg 4 37]) .ret) .skip)) (.seq (.seq (.ops [.ld 38 1 true 2,.call (some 39) 18 [38],.not 40 39,.mv 41 40,.g 41 false (.fa 42 0 3),.g 41 false (.ld 43 1 false 42),.g 41 false (.call (some 44) 19 [43,(kI 2),(kI 4)]),.g 41 false (.not 45 44),.pick 46 41 (kB true) 45,.mv 47 46,.g 47 false (.fa 48 9 3),.g 47 false (.ld 49 1 false 48),.g 47 false (.fa 50 0 2),.g 47 false (.ld 51 1 false 50),.g 47 false (.len 52 51),.g 47 false (.bin 53 .sub 52 (kI 1)),.g 47 false (.call (some 54) 19 [49,(kI 0),53]),.g 47 false (.not 55 54),.pick 56 47 (kB true) 55,.mv 57 56,.g 57 false (.fa 58 1 3),.g 57 false (.ld 59 8 true 58),.g 57 false (.bld 60 [(.nil 1),(.nil 1),(.nil 10),(.nil 11),(.nil 10),(.nil 1),cK,bQ] []),.g 57 false (.call (some 61) 20 [59,60]),.g 57 false (.not 62 61),.pick 63 57 (kB true) 62,.mv 64 63,.g 64 false (.ld 65 14 true 3),.g 64 false (.call (some 66) 21 [65]),.g 64 false (.not 67 66),.pick 68 64 (kB true) 67]) (.cond 68 (.seq (.ops [.asg 4 (kB false)]) .ret) .skip)) (.seq (.seq (.ops [.fa 69 0 3,.ld 70 1 false 69,.bin 71 .eql 70 (kI 2)]) (.cond 71 (.seq (.ops [.ld 72 1 true 2,.ld 73 14 true 3,.call (some 74) 22 [72,73],.asg 4 74]) .ret) .skip)) (.seq (.ops [.fa 75 0 2,.ld 76 1 false 75,.fa 77 9 3,.ld 78 1 false 77,.ia 79 2 76 78,.ld 80 2 true 79,.call (some 81) 23 [80],.bsl 82 25 1 [81],.asg 6 82]) (.seq (.seq (.ops [.fa 83 10 3,.ld 84 1 false 83,.len 85 84,.bin 86 .gtr 85 (kI 0),.mv 87 86,.g 87 false (.fa 88 13 3),.g 87 false (.ld 89 1 false 88),.g 87 false (.len 90 89),.g 87 false (.bin 91 .gtr 90 (kI 1)),.pick 92 87 (kB true) 91,.mv 93 92,.g 93 false (.ld 94 1 true 2),.g 93 false (.mv 95 6),.g 93 false (.fa 96 13 3),.g 93 false (.ld 97 1 false 96),.g 93 false (.call (some 98) 24 [94,95,97]),.g 93 false (.not 99 98),.pick 100 93 (kB true) 99]) (.cond 100 (.seq (.ops [.asg 4 (kB false)]) .ret) .skip)) (.seq (.seq (.ops [.fa 101 0 3,.ld 102 1 false 101,.bin 103 .eql 102 (kI 4)]) (.cond 103 (.seq (.ops [.fa 104 11 3,.ld 105 1 false 104,.len 106 105,.fa 107 12 3,.ld 108 1 false 107,.len 109 108,.bin 110 .add 106 109,.bin 111 .eql 110 (kI 0),.asg 4 111]) .ret) .skip)) (.seq (.ops [.fa 112 11 3,.ld 113 1 false 112,.len 114 113,.bin 115 .gtr 114 (kI 0),.mv 116 115,.g 116 true (.ld 117 1 true 2),.g 116 true (.ld 118 14 true 3),.g 116 true (.mv 119 6),.g 116 true (.call (some 120) 25 [117,118,119]),.pick 121 116 120 (kB false),.asg 4 121]) .ret)))))))))
theorem bQq:aV Tryz.prog 6=some (bKg,[.mv 0 4],122):=by kernel_rfl
def cHm (r:Bool):Exit→St→Prop:=aU [.mv 0 4] fun x _=>x=(fun y=>(vB y)) r
def aLs:AC:=(.loop (.seq (.seq (.ops [.mv 31 7,.mv 32 5,.len 33 32,.bin 34 .lss 31 33]) (.cond 34 .skip (.exit 2))) (.seq (.block 3 (.seq (.dops [[],[],[1],[],[2,3],[4],[],[5,6],[7],[],[],[9,10],[11],[0,8,12],[13]] [.ld 37 1 true 2,.fa 38 10 3,.ld 39 1 false 38,.mv 40 6,.ia 41 1 39 40,.ld 42 1 false 41,.mv 43 7,.ia 44 10 42 43,.ld 45 10 true 44,.mv 46 5,.mv 47 7,.ia 48 1 46 47,.ld 49 1 false 48,.call (some 50) 64 [37,(.c (.nil 1)),45,49],.not 51 50]) (.cond 51 (.seq (.ops [.asg 4 (kB false)]) .ret) .skip))) (.ops [.mv 35 7,.bin 36 .add 35 (kI 1),.asg 7 36]))))
def aU6:AC:=(.ops [.mv 20 6,.bin 21 .add 20 (kI 1),.asg 6 21])
def aDy:AC:=(.loop (.seq (.seq (.ops [.mv 15 6,.fa 16 10 3,.ld 17 1 false 16,.len 18 17,.bin 19 .lss 15 18]) (.cond 19 .skip (.exit 0))) (.seq (.block 1 (.seq (.seq (.ops [.fa 22 10 3,.ld 23 1 false 22,.mv 24 6,.ia 25 1 23 24,.ld 26 1 false 25,.len 27 26,.mv 28 5,.len 29 28,.bin 30 .neq 27 29]) (.cond 30 (.seq (.ops [.asg 4 (kB false)]) .ret) .skip)) (.seq (.ops [.asg 7 (kI 0)]) (.block 2 aLs)))) aU6)))
def aOx:AC:=(.seq (.ops [.fa 52 10 3,.ld 53 1 false 52,.len 54 53,.call (some 55) 19 [54,(kI 1),(kI 5)],.mv 56 55,.g 56 true (.fa 57 11 3),.g 56 true (.ld 58 1 false 57),.g 56 true (.len 59 58),.g 56 true (.fa 60 12 3),.g 56 true (.ld 61 1 false 60),.g 56 true (.len 62 61),.g 56 true (.bin 63 .add 59 62),.g 56 true (.fa 64 13 3),.g 56 true (.ld 65 1 false 64),.g 56 true (.len 66 65),.g 56 true (.bin 67 .add 63 66),.g 56 true (.bin 68 .eql 67 (kI 0)),.pick 69 56 68 (kB false),.asg 4 69]) .ret)
def bVd:AC:=(.seq (.ops [.box 2 39 0,.box 3 47 1,.asg 4 (kB false)]) (.seq (.ops [.fa 8 0 2,.ld 9 1 false 8,.fa 10 9 3,.ld 11 1 false 10,.ia 12 2 9 11,.ld 13 2 true 12,.call (some 14) 23 [13],.asg 5 14]) (.seq (.seq (.ops [.asg 6 (kI 0)]) (.block 0 aDy)) aOx)))
theorem bBb:aV Tryz.prog 22=some (bVd,[.mv 0 4],70):=by kernel_rfl
def aPg (r:Bool):Exit→St→Prop:=aU [.mv 0 4] fun x _=>x=(fun y=>(vB y)) r
def bXs (r:Bool):Exit→St→Prop:=(bF (wkK (avc Tryz.prog aOx (aPg r))) (aPg r))
def aK6 (r:Bool):Exit→St→Prop:=(bG 0 (bXs r))
def aRy (r:Bool):Exit→St→Prop:=(bF (avc Tryz.prog aDy (aK6 r)) (aK6 r))
def bEy (r:Bool):Exit→St→Prop:=(bF (wkK (avc Tryz.prog aU6 (aRy r))) (aRy r))
def cC6 (r:Bool):Exit→St→Prop:=(bG 1 (bEy r))
def bVr (r:Bool):Exit→St→Prop:=(bG 2 (cC6 r))
def bLb (y2:(List Int)) (p0:aJ) (p1:bM) (x6:Int):St:=⟨[(2,(.ptr 2 0)),(3,(.ptr 3 0)),(5,(.osl 5 3 1 (y2.map cI))),(6,(vI x6))],[(2,dJ p0),(3,K8 p1)]⟩
abbrev aD8 (y2:(List Int)) (p0:aJ) (p1:bM) (x6:Int) (r:Bool):Prop:=avc Tryz.prog aDy (aK6 r) (bLb y2 p0 p1 x6)
def cBn (y2:(List Int)) (x6:Int) (p0:aJ) (p1:bM) (x7:Int):St:=⟨[(2,(.ptr 2 0)),(3,(.ptr 3 0)),(5,(.osl 5 3 1 (y2.map cI))),(6,(vI x6)),(7,(vI x7))],[(2,dJ p0),(3,K8 p1)]⟩
abbrev aDx (y2:(List Int)) (x6:Int) (p0:aJ) (p1:bM) (x7:Int) (r:Bool):Prop:=avc Tryz.prog aLs (bVr r) (cBn y2 x6 p0 p1 x7)
def bHx:AC:=(.seq (.ops [.asg 6 (kB false)]) (.seq (.ops [.mv 7 0,.mv 8 1,.bin 9 .geq 7 8,.mv 10 9,.g 10 true (.mv 11 0),.g 10 true (.mv 12 2),.g 10 true (.bin 13 .leq 11 12),.pick 14 10 13 (kB false),.asg 6 14]) .ret))
theorem bC9:aV Tryz.prog 19=some (bHx,[.mv 0 6],15):=by kernel_rfl
def cFb (r:Bool):Exit→St→Prop:=aU [.mv 0 6] fun x _=>x=(fun y=>(vB y)) r
def bTq:AC:=(.seq (.ops [.box 4 39 0,.box 6 108 2,.asg 8 (kB false)]) (.seq (.ops [.ld 14 1 true 4,.mv 15 1,.ld 16 10 true 6,.call (some 17) 65 [14,15,16],.mv 13 17,.ext 18 13 0,.ext 19 13 1,.asg 9 18,.asg 10 19]) (.seq (.ops [.mv 21 9,.mv 22 3,.call (some 23) 99 [21,22],.mv 20 23,.ext 24 20 0,.ext 25 20 1,.asg 11 24,.asg 12 25]) (.seq (.ops [.mv 26 10,.mv 27 26,.g 27 true (.mv 28 12),.pick 29 27 28 (kB false),.asg 8 29]) .ret))))
theorem bQo:aV Tryz.prog 64=some (bTq,[.mv 0 8],30):=by kernel_rfl
def cFf (r:Bool):Exit→St→Prop:=aU [.mv 0 8] fun x _=>x=(fun y=>(vB y)) r
def aO4:AC:=(.loop (.seq (.seq (.ops [.mv 18 9,.fa 19 8 5,.ld 20 1 false 19,.len 21 20,.bin 22 .lss 18 21]) (.cond 22 .skip (.exit 0))) (.seq (.block 1 (.seq (.dops [[],[],[],[2],[],[3,4],[5],[0,1,6],[7],[8],[8],[9,7,0,1,2,3,4,5,6,7,8,9],[10,11,0,1,2,3,4,5,6,7,8,9,10,11]] [.ld 26 1 true 3,.mv 27 1,.fa 28 8 5,.ld 29 1 false 28,.mv 30 9,.ia 31 10 29 30,.ld 32 10 true 31,.call (some 33) 65 [26,27,32],.mv 25 33,.ext 34 25 0,.ext 35 25 1,.asg 10 34,.asg 11 35]) (.seq (.seq (.ops [.mv 36 11,.not 37 36]) (.cond 37 (.seq (.ops [.asg 6 (kI 0),.asg 7 (kB false)]) .ret) .skip)) (.ops [.mv 38 8,.mv 39 10,.bsl 40 3 1 [39],.app 41 3 1 8 38 40,.asg 8 41])))) (.ops [.mv 23 9,.bin 24 .add 23 (kI 1),.asg 9 24]))))
def aJp:AC:=(.seq (.seq (.ops [.fa 138 0 5,.ld 139 1 false 138,.bin 140 .eql 139 (kI 5)]) (.cond 140 (.seq (.ops [.asg 6 (kI 3),.asg 7 (kB true)]) .ret) .skip)) (.seq (.ops [.mv 141 8,.call (some 142) 104 [141],.call (some 143) 103 [(kI 3),142],.ext 144 143 0,.ext 145 143 1,.asg 6 144,.asg 7 145]) .ret))
def aYg:AC:=(.seq (.seq (.ops [.fa 42 0 5,.ld 43 1 false 42]) (.block 2 (.seq (.ops [.bin 45 .eql 43 (kI 1),.asg 44 45]) (.cond 44 (.seq (.ops [.fa 46 3 5,.fa 47 0 46,.ld 48 1 false 47,.asg 6 48,.asg 7 (kB true)]) .ret) (.seq (.ops [.bin 50 .eql 43 (kI 2),.asg 49 50]) (.cond 49 (.seq (.seq (.dops [[],[0],[],[2],[3],[1,4],[5],[6,5],[7],[8,7],[7],[7],[11,7],[10,12,7],[13,7],[14,7],[15,7],[9,16,7,7],[17,7],[7,18]] [.fa 51 6 5,.ld 52 1 false 51,.mv 53 1,.len 54 53,.bin 55 .sub 54 (kI 1),.call (some 56) 19 [52,(kI 0),55],.not 57 56,.mv 58 57,.g 58 false (.fa 59 7 5),.g 58 false (.ld 60 1 false 59),.g 58 false (.mv 61 1),.g 58 false (.fa 62 6 5),.g 58 false (.ld 63 1 false 62),.g 58 false (.ia 64 1 61 63),.g 58 false (.ld 65 1 false 64),.g 58 false (.len 66 65),.g 58 false (.bin 67 .sub 66 (kI 1)),.g 58 false (.call (some 68) 19 [60,(kI 0),67]),.g 58 false (.not 69 68),.pick 70 58 (kB true) 69]) (.cond 70 (.seq (.ops [.asg 6 (kI 0),.asg 7 (kB false)]) .ret) .skip)) (.seq (.dops [[],[],[1],[0,2],[3],[],[5],[4,6],[7],[8,0,1,2,3,4,5,6,7,8],[9,0,1,2,3,4,5,6,7,8,9]] [.mv 71 1,.fa 72 6 5,.ld 73 1 false 72,.ia 74 1 71 73,.ld 75 1 false 74,.fa 76 7 5,.ld 77 1 false 76,.ia 78 1 75 77,.ld 79 1 false 78,.asg 6 79,.asg 7 (kB true)]) .ret)) (.seq (.ops [.bin 81 .eql 43 (kI 3),.asg 80 81]) (.cond 80 (.seq (.dops [[],[0],[],[2],[3],[1,4],[5],[5],[6,5,0,1,2,3,4,5,6,7],[7,8,0,1,2,3,4,5,6,7,8]] [.fa 82 1 5,.ld 83 1 false 82,.mv 84 8,.ia 85 1 84 (kI 0),.ld 86 1 false 85,.call (some 87) 101 [83,86],.ext 88 87 0,.ext 89 87 1,.asg 6 88,.asg 7 89]) .ret) (.seq (.ops [.bin 91 .eql 43 (kI 4),.asg 90 91]) (.cond 90 (.seq (.dops [[],[0],[],[2],[3],[],[5],[6],[1,4,7],[8],[8],[9,8,0,1,2,3,4,5,6,7,8,9,10],[10,11,0,1,2,3,4,5,6,7,8,9,10,11]] [.fa 92 1 5,.ld 93 1 false 92,.mv 94 8,.ia 95 1 94 (kI 0),.ld 96 1 false 95,.mv 97 8,.ia 98 1 97 (kI 1),.ld 99 1 false 98,.call (some 100) 102 [93,96,99],.ext 101 100 0,.ext 102 100 1,.asg 6 101,.asg 7 102]) .ret) .skip)))))))))) (.seq (.seq (.ops [.fa 103 9 5,.ld 104 1 false 103,.len 105 104,.bin 106 .gtr 105 (kI 0)]) (.cond 106 (.seq (.dops [[],[],[],[2],[3],[4],[0,1,5],[6],[7],[7],[8,6,0,1,2,3,4,5,6,7,8],[9,10,0,1,2,3,4,5,6,7,8,9,10]] [.ld 108 1 true 3,.mv 109 1,.fa 110 9 5,.ld 111 1 false 110,.ia 112 8 111 (kI 0),.ld 113 8 true 112,.call (some 114) 53 [108,109,113],.mv 107 114,.ext 115 107 0,.ext 116 107 1,.asg 12 115,.asg 13 116]) (.seq (.seq (.ops [.mv 117 13,.not 118 117,.mv 119 118,.g 119 false (.fa 120 0 5),.g 119 false (.ld 121 1 false 120),.g 119 false (.bin 122 .eql 121 (kI 8)),.g 119 false (.mv 123 122),.g 123 true (.mv 124 12),.g 123 true (.len 125 124),.g 123 true (.bin 126 .neq 125 (kI 1)),.g 119 false (.pick 127 123 126 (kB false)),.pick 128 119 (kB true) 127]) (.cond 128 (.seq (.ops [.asg 6 (kI 0),.asg 7 (kB false)]) .ret) .skip)) (.seq (.ops [.fa 129 0 5,.ld 130 1 false 129,.bin 131 .eql 130 (kI 8)]) (.cond 131 (.ops [.mv 132 8,.mv 133 12,.ia 134 1 133 (kI 0),.ld 135 1 false 134,.bsl 136 3 1 [135],.app 137 3 1 8 132 136,.asg 8 137]) .skip)))) .skip)) aJp))
def bQb:AC:=(.seq (.ops [.box 3 39 0,.box 5 108 2,.asg 6 (kI 0),.asg 7 (kB false)]) (.seq (.seq (.ops [.ld 14 10 true 5,.call (some 15) 100 [14],.not 16 15]) (.cond 16 (.seq (.ops [.asg 6 (kI 0),.asg 7 (kB false)]) .ret) .skip)) (.seq (.ops [.bsl 17 3 1 [],.asg 8 17]) (.seq (.seq (.ops [.asg 9 (kI 0)]) (.block 0 aO4)) aYg))))
theorem bWz:aV Tryz.prog 65=some (bQb,[.mv 0 6,.mv 0 7],146):=by kernel_rfl
def aIo (r:Int×Bool):Exit→St→Prop:=aU [.mv 0 6,.mv 0 7] fun x _=>x=(fun y=>(.tup [(vI y.1),(vB y.2)])) r
def bJx (r:Int×Bool):Exit→St→Prop:=(bF (wkK (avc Tryz.prog aYg (aIo r))) (aIo r))
def bSq (r:Int×Bool):Exit→St→Prop:=(bG 0 (bJx r))
def aSw (p1:(List (List Int))) (p0:aJ) (p2:aA) (x8:(List Int)) (x9:Int):St:=⟨[(1,(.d (.sl 1 (p1.map (cSl 1 cI))))),(3,(.ptr 3 0)),(5,(.ptr 5 0)),(8,(.osl 8 3 1 (x8.map cI))),(9,(vI x9))],[(3,dJ p0),(5,mW p2)]⟩
abbrev aBg (p1:(List (List Int))) (p0:aJ) (p2:aA) (x8:(List Int)) (x9:Int) (r:Int×Bool):Prop:=avc Tryz.prog aO4 (bSq r) (aSw p1 p0 p2 x8 x9)
def bSn (p2:aA) (uL:(List Int)):St:=⟨[(5,(.ptr 5 0)),(8,(.osl 8 3 1 (uL.map cI)))],[(5,mW p2)]⟩
abbrev aZm (p2:aA) (uL:(List Int)) (r:Int×Bool):Prop:=avc Tryz.prog aJp (aIo r) (bSn p2 uL)
def bSs:AC:=(.seq (.ops [.asg 4 (kI 0),.asg 5 (kB false)]) (.seq (.seq (.ops [.mv 6 1,.not 7 6]) (.cond 7 (.seq (.ops [.asg 4 (kI 0),.asg 5 (kB false)]) .ret) .skip)) (.seq (.ops [.mv 8 0,.asg 4 8,.asg 5 (kB true)]) .ret)))
theorem bHu:aV Tryz.prog 103=some (bSs,[.mv 0 4,.mv 0 5],9):=by kernel_rfl
def cEe (r:Int×Bool):Exit→St→Prop:=aU [.mv 0 4,.mv 0 5] fun x _=>x=(fun y=>(.tup [(vI y.1),(vB y.2)])) r
def aN8:AC:=(.loop (.seq (.seq (.ops [.mv 26 8,.fa 27 1 5,.ld 28 1 false 27,.len 29 28,.bin 30 .lss 26 29]) (.cond 30 .skip (.exit 0))) (.seq (.block 1 (.seq (.dops [[],[],[1],[],[3],[2,4],[0,5],[6],[7],[7],[8,6,0,1,2,3,4,5,6,7,8],[9,10,0,1,2,3,4,5,6,7,8,9,10]] [.ld 34 1 true 3,.fa 35 0 5,.ld 36 1 false 35,.mv 37 8,.bin 38 .add 37 (kI 1),.slc 39 1 36 none (some 38) none,.call (some 40) 97 [34,39],.mv 33 40,.ext 41 33 0,.ext 42 33 1,.asg 9 41,.asg 10 42]) (.seq (.dops [[],[],[],[1,2],[],[4],[],[5,6],[7],[0,3,8,3],[9]] [.ld 43 1 true 3,.mv 44 9,.mv 45 1,.call (some 46) 98 [44,45],.fa 47 1 5,.ld 48 1 false 47,.mv 49 8,.ia 50 1 48 49,.ld 51 1 false 50,.call (some 52) 24 [43,46,51],.not 53 52]) (.cond 53 (.seq (.ops [.bsl 54 3 1 [],.asg 6 54,.asg 7 (kB false)]) .ret) .skip)))) (.ops [.mv 31 8,.bin 32 .add 31 (kI 1),.asg 8 32]))))
def aKd:AC:=(.loop (.seq (.seq (.ops [.mv 72 14,.fa 73 3 5,.ld 74 1 false 73,.len 75 74,.bin 76 .lss 72 75]) (.cond 76 .skip (.exit 2))) (.seq (.block 3 (.seq (.dops [[],[],[],[2],[],[3,4],[5],[6],[0,1,7],[8],[9],[9],[10,8,0,1,2,3,4,5,6,7,8,9,10],[11,12,0,1,2,3,4,5,6,7,8,9,10,11,12]] [.ld 80 1 true 3,.mv 81 13,.fa 82 3 5,.ld 83 1 false 82,.mv 84 14,.ia 85 11 83 84,.fa 86 0 85,.ld 87 10 true 86,.call (some 88) 65 [80,81,87],.mv 79 88,.ext 89 79 0,.ext 90 79 1,.asg 15 89,.asg 16 90]) (.seq (.ops [.mv 91 16,.not 92 91]) (.cond 92 (.seq (.ops [.bsl 93 3 1 [],.asg 6 93,.asg 7 (kB false)]) .ret) .skip)))) (.ops [.mv 77 14,.bin 78 .add 77 (kI 1),.asg 14 78]))))
def aN0:AC:=(.loop (.seq (.seq (.ops [.mv 95 18,.fa 96 4 5,.ld 97 1 false 96,.len 98 97,.bin 99 .lss 95 98]) (.cond 99 .skip (.exit 4))) (.seq (.block 5 (.seq (.dops [[],[],[],[2],[],[3,4],[5],[0,1,6],[7],[8],[8],[9,7,0,1,2,3,4,5,6,7,8,9],[10,11,0,1,2,3,4,5,6,7,8,9,10,11]] [.ld 103 1 true 3,.mv 104 13,.fa 105 4 5,.ld 106 1 false 105,.mv 107 18,.ia 108 10 106 107,.ld 109 10 true 108,.call (some 110) 65 [103,104,109],.mv 102 110,.ext 111 102 0,.ext 112 102 1,.asg 19 111,.asg 20 112]) (.seq (.seq (.ops [.mv 113 20,.not 114 113]) (.cond 114 (.seq (.ops [.bsl 115 3 1 [],.asg 6 115,.asg 7 (kB false)]) .ret) .skip)) (.ops [.mv 116 17,.mv 117 19,.bsl 118 3 1 [117],.app 119 3 1 8 116 118,.asg 17 119])))) (.ops [.mv 100 18,.bin 101 .add 100 (kI 1),.asg 18 101]))))
def bA3:AC:=(.seq (.ops [.mv 120 17,.asg 6 120,.asg 7 (kB true)]) .ret)
def aXs:AC:=(.seq (.ops [.bsl 94 3 1 [],.asg 17 94]) (.seq (.seq (.ops [.asg 18 (kI 0)]) (.block 4 aN0)) bA3))
def aRn:AC:=(.seq (.ops [.ld 56 1 true 3,.fa 57 0 5,.ld 58 1 false 57,.call (some 59) 97 [56,58],.mv 55 59,.ext 60 55 0,.ext 61 55 1,.asg 11 60,.asg 12 61]) (.seq (.ops [.mv 62 11,.mv 63 1,.call (some 64) 98 [62,63],.asg 13 64]) (.seq (.seq (.ops [.ld 65 1 true 3,.mv 66 13,.fa 67 2 5,.ld 68 1 false 67,.call (some 69) 24 [65,66,68],.not 70 69]) (.cond 70 (.seq (.ops [.bsl 71 3 1 [],.asg 6 71,.asg 7 (kB false)]) .ret) .skip)) (.seq (.seq (.ops [.asg 14 (kI 0)]) (.block 2 aKd)) aXs))))
def bSd:AC:=(.seq (.ops [.box 3 39 0,.box 5 45 2,.asg 6 (.c (.nil 1)),.asg 7 (kB false)]) (.seq (.seq (.ops [.ld 21 1 true 3,.ld 22 8 true 5,.call (some 23) 96 [21,22],.not 24 23]) (.cond 24 (.seq (.ops [.bsl 25 3 1 [],.asg 6 25,.asg 7 (kB false)]) .ret) .skip)) (.seq (.seq (.ops [.asg 8 (kI 0)]) (.block 0 aN8)) aRn)))
theorem cCf:aV Tryz.prog 53=some (bSd,[.mv 0 6,.mv 0 7],121):=by kernel_rfl
def zF (r:(List Int)×Bool):Exit→St→Prop:=aU [.mv 0 6,.mv 0 7] fun x b=>x=(fun (y:(List Int)×Bool)=>(.tup [(.osl 2000000 3 1 (y.1.map cI)),(vB y.2)])) r∧eB ((fun (y:(List Int)×Bool)=>[]) r) b
def cBi (r:(List Int)×Bool):Exit→St→Prop:=(bF (wkK (avc Tryz.prog aRn (zF r))) (zF r))
def bY4 (r:(List Int)×Bool):Exit→St→Prop:=(bG 0 (cBi r))
def bMy (r:(List Int)×Bool):Exit→St→Prop:=(bF (wkK (avc Tryz.prog aXs (zF r))) (zF r))
def bSy (r:(List Int)×Bool):Exit→St→Prop:=(bG 2 (bMy r))
def bSb (r:(List Int)×Bool):Exit→St→Prop:=(bF (wkK (avc Tryz.prog bA3 (zF r))) (zF r))
def bN1 (r:(List Int)×Bool):Exit→St→Prop:=(bG 4 (bSb r))
def bZo (p1:(List (List Int))) (p0:aJ) (p2:aB) (x8:Int):St:=⟨[(1,(.d (.sl 1 (p1.map (cSl 1 cI))))),(3,(.ptr 3 0)),(5,(.ptr 5 0)),(8,(vI x8))],[(3,dJ p0),(5,jG p2)]⟩
abbrev aE0 (p1:(List (List Int))) (p0:aJ) (p2:aB) (x8:Int) (r:(List Int)×Bool):Prop:=avc Tryz.prog aN8 (bY4 r) (bZo p1 p0 p2 x8)
def bDz (y8:(List (List Int))) (p0:aJ) (p2:aB) (x14:Int):St:=⟨[(3,(.ptr 3 0)),(5,(.ptr 5 0)),(13,(.osl 13 25 1 (y8.map (cSl 1 cI)))),(14,(vI x14))],[(3,dJ p0),(5,jG p2)]⟩
abbrev aC8 (y8:(List (List Int))) (p0:aJ) (p2:aB) (x14:Int) (r:(List Int)×Bool):Prop:=avc Tryz.prog aKd (bSy r) (bDz y8 p0 p2 x14)
def bXa (y8:(List (List Int))) (p0:aJ) (p2:aB) (x17:(List Int)) (x18:Int):St:=⟨[(3,(.ptr 3 0)),(5,(.ptr 5 0)),(13,(.osl 13 25 1 (y8.map (cSl 1 cI)))),(17,(.osl 17 3 1 (x17.map cI))),(18,(vI x18))],[(3,dJ p0),(5,jG p2)]⟩
abbrev aBf (y8:(List (List Int))) (p0:aJ) (p2:aB) (x17:(List Int)) (x18:Int) (r:(List Int)×Bool):Prop:=avc Tryz.prog aN0 (bN1 r) (bXa y8 p0 p2 x17 x18)
def bE3:AC:=(.seq (.ops [.asg 4 (.c (.nil 1))]) (.seq (.ops [.mv 5 0,.bsl 6 25 1 [5],.mv 7 1,.app 8 25 1 24 6 7,.asg 4 8]) .ret))
theorem bPh:aV Tryz.prog 98=some (bE3,[.mv 0 4],9):=by kernel_rfl
def cE5 (r:(List (List Int))):Exit→St→Prop:=aU [.mv 0 4] fun x b=>x=(fun (y:(List (List Int)))=>(.osl 2000000 25 1 (y.map (cSl 1 cI)))) r∧eB ((fun (y:(List (List Int)))=>[]) r) b
def aMf:AC:=(.loop (.seq (.seq (.ops [.mv 9 7,.mv 10 1,.len 11 10,.bin 12 .lss 9 11]) (.cond 12 .skip (.exit 0))) (.seq (.block 1 (.seq (.seq (.dops [[],[],[0,1],[2],[],[4],[5],[6],[3,7],[8]] [.mv 15 1,.mv 16 7,.ia 17 1 15 16,.ld 18 1 false 17,.fa 19 0 2,.ld 20 1 false 19,.len 21 20,.bin 22 .sub 21 (kI 1),.call (some 23) 19 [18,(kI 0),22],.not 24 23]) (.cond 24 (.seq (.ops [.bsl 25 3 1 [],.asg 4 25,.asg 5 (kB false)]) .ret) .skip)) (.dops [[],[],[1],[],[],[3,4],[5],[2,6],[7],[8],[0,9,9],[10,10,0,1,2,3,4,5,6,7,8,9,10]] [.mv 26 6,.fa 27 0 2,.ld 28 1 false 27,.mv 29 1,.mv 30 7,.ia 31 1 29 30,.ld 32 1 false 31,.ia 33 2 28 32,.ld 34 2 true 33,.call (some 35) 23 [34],.app 36 3 1 8 26 35,.asg 6 36]))) (.ops [.mv 13 7,.bin 14 .add 13 (kI 1),.asg 7 14]))))
def aZb:AC:=(.seq (.ops [.mv 37 6,.asg 4 37,.asg 5 (kB true)]) .ret)
def bDp:AC:=(.seq (.ops [.box 2 39 0,.asg 4 (.c (.nil 1)),.asg 5 (kB false)]) (.seq (.ops [.bsl 8 3 1 [],.asg 6 8]) (.seq (.seq (.ops [.asg 7 (kI 0)]) (.block 0 aMf)) aZb)))
theorem bXf:aV Tryz.prog 97=some (bDp,[.mv 0 4,.mv 0 5],38):=by kernel_rfl
def aYo (r:(List Int)×Bool):Exit→St→Prop:=aU [.mv 0 4,.mv 0 5] fun x b=>x=(fun (y:(List Int)×Bool)=>(.tup [(.osl 2000000 3 1 (y.1.map cI)),(vB y.2)])) r∧eB ((fun (y:(List Int)×Bool)=>[]) r) b
def bG1 (r:(List Int)×Bool):Exit→St→Prop:=(bF (wkK (avc Tryz.prog aZb (aYo r))) (aYo r))
def bY0 (r:(List Int)×Bool):Exit→St→Prop:=(bG 0 (bG1 r))
def cAt (p1:(List Int)) (p0:aJ) (x6:(List Int)) (x7:Int):St:=⟨[(1,(bX p1)),(2,(.ptr 2 0)),(6,(.osl 6 3 1 (x6.map cI))),(7,(vI x7))],[(2,dJ p0)]⟩
abbrev aBo (p1:(List Int)) (p0:aJ) (x6:(List Int)) (x7:Int) (r:(List Int)×Bool):Prop:=avc Tryz.prog aMf (bY0 r) (cAt p1 p0 x6 x7)
def aHx:AC:=(.loop (.seq (.seq (.ops [.mv 6 4,.fa 7 1 1,.ld 8 1 false 7,.len 9 8,.bin 10 .lss 6 9]) (.cond 10 .skip (.exit 0))) (.seq (.block 1 (.ops [.mv 13 3,.fa 14 1 1,.ld 15 1 false 14,.mv 16 4,.ia 17 2 15 16,.fa 18 1 17,.ld 19 1 false 18,.bsl 20 3 1 [19],.app 21 3 1 8 13 20,.asg 3 21])) (.ops [.mv 11 4,.bin 12 .add 11 (kI 1),.asg 4 12]))))
def aV8:AC:=(.seq (.ops [.mv 22 3,.asg 2 22]) .ret)
def cCu:AC:=(.seq (.ops [.box 1 65 0,.asg 2 (.c (.nil 1))]) (.seq (.ops [.bsl 5 3 1 [],.asg 3 5]) (.seq (.seq (.ops [.asg 4 (kI 0)]) (.block 0 aHx)) aV8)))
theorem bLc:aV Tryz.prog 23=some (cCu,[.mv 0 2],23):=by kernel_rfl
def aSn (r:(List Int)):Exit→St→Prop:=aU [.mv 0 2] fun x b=>x=(fun (y:(List Int))=>(.osl 2000000 3 1 (y.map cI))) r∧eB ((fun (y:(List Int))=>[]) r) b
def bGd (r:(List Int)):Exit→St→Prop:=(bF (wkK (avc Tryz.prog aV8 (aSn r))) (aSn r))
def bPe (r:(List Int)):Exit→St→Prop:=(bG 0 (bGd r))
def bTp (p0:bD) (x3:(List Int)) (x4:Int):St:=⟨[(1,(.ptr 1 0)),(3,(.osl 3 3 1 (x3.map cI))),(4,(vI x4))],[(1,Z8 p0)]⟩
abbrev aD7 (p0:bD) (x3:(List Int)) (x4:Int) (r:(List Int)):Prop:=avc Tryz.prog aHx (bPe r) (bTp p0 x3 x4)
def aI1:AC:=(.loop (.seq (.seq (.ops [.mv 64 5,.fa 65 1 3,.ld 66 1 false 65,.len 67 66,.bin 68 .lss 64 67]) (.cond 68 .skip (.exit 0))) (.seq (.block 1 (.seq (.ops [.fa 71 1 3,.ld 72 1 false 71,.mv 73 5,.ia 74 1 72 73,.ld 75 1 false 74,.len 76 75,.bin 77 .gtr 76 (kI 1)]) (.cond 77 (.seq (.ops [.asg 4 (kB false)]) .ret) .skip))) (.ops [.mv 69 5,.bin 70 .add 69 (kI 1),.asg 5 70]))))
def aJx:AC:=(.loop (.seq (.seq (.ops [.mv 78 6,.fa 79 5 3,.ld 80 1 false 79,.len 81 80,.bin 82 .lss 78 81]) (.cond 82 .skip (.exit 2))) (.seq (.block 3 (.seq (.ops [.fa 85 5 3,.ld 86 1 false 85,.mv 87 6,.ia 88 1 86 87,.ld 89 1 false 88,.call (some 90) 54 [89],.not 91 90]) (.cond 91 (.seq (.ops [.asg 4 (kB false)]) .ret) .skip))) (.ops [.mv 83 6,.bin 84 .add 83 (kI 1),.asg 6 84]))))
def aWo:AC:=(.seq (.ops [.ld 93 1 true 2,.fa 94 0 3,.ld 95 1 false 94,.call (some 96) 97 [93,95],.mv 92 96,.ext 97 92 0,.ext 98 92 1,.asg 7 97,.asg 8 98]) (.seq (.ops [.mv 99 8,.asg 4 99]) .ret))
def aV7:AC:=(.seq (.seq (.ops [.asg 6 (kI 0)]) (.block 2 aJx)) aWo)
def bV9:AC:=(.seq (.ops [.box 2 39 0,.box 3 45 1,.asg 4 (kB false)]) (.seq (.seq (.ops [.fa 9 0 3,.ld 10 1 false 9,.len 11 10,.call (some 12) 19 [11,(kI 1),(kI 3)],.not 13 12,.mv 14 13,.g 14 false (.fa 15 1 3),.g 14 false (.ld 16 1 false 15),.g 14 false (.len 17 16),.g 14 false (.fa 18 0 3),.g 14 false (.ld 19 1 false 18),.g 14 false (.len 20 19),.g 14 false (.bin 21 .neq 17 20),.pick 22 14 (kB true) 21,.mv 23 22,.g 23 false (.fa 24 1 3),.g 23 false (.ld 25 1 false 24),.g 23 false (.ia 26 1 25 (kI 0)),.g 23 false (.ld 27 1 false 26),.g 23 false (.len 28 27),.g 23 false (.bin 29 .gtr 28 (kI 0)),.pick 30 23 (kB true) 29,.mv 31 30,.g 31 false (.fa 32 2 3),.g 31 false (.ld 33 1 false 32),.g 31 false (.len 34 33),.g 31 false (.bin 35 .gtr 34 (kI 1)),.pick 36 31 (kB true) 35,.mv 37 36,.g 37 false (.fa 38 3 3),.g 37 false (.ld 39 1 false 38),.g 37 false (.len 40 39),.g 37 false (.bin 41 .gtr 40 (kI 12)),.pick 42 37 (kB true) 41,.mv 43 42,.g 43 false (.fa 44 4 3),.g 43 false (.ld 45 1 false 44),.g 43 false (.len 46 45),.g 43 false (.call (some 47) 19 [46,(kI 1),(kI 12)]),.g 43 false (.not 48 47),.pick 49 43 (kB true) 48,.mv 50 49,.g 50 false (.fa 51 5 3),.g 50 false (.ld 52 1 false 51),.g 50 false (.len 53 52),.g 50 false (.fa 54 4 3),.g 50 false (.ld 55 1 false 54),.g 50 false (.len 56 55),.g 50 false (.bin 57 .neq 53 56),.pick 58 50 (kB true) 57,.mv 59 58,.g 59 false (.fa 60 7 3),.g 59 false (.ld 61 1 false 60),.g 59 false (.bin 62 .lss 61 (kI (-1))),.pick 63 59 (kB true) 62]) (.cond 63 (.seq (.ops [.asg 4 (kB false)]) .ret) .skip)) (.seq (.seq (.ops [.asg 5 (kI 0)]) (.block 0 aI1)) aV7)))
theorem bEf:aV Tryz.prog 96=some (bV9,[.mv 0 4],100):=by kernel_rfl
def aCq (r:Bool):Exit→St→Prop:=aU [.mv 0 4] fun x _=>x=(fun y=>(vB y)) r
def bUg (r:Bool):Exit→St→Prop:=(bF (wkK (avc Tryz.prog aV7 (aCq r))) (aCq r))
def bOt (r:Bool):Exit→St→Prop:=(bG 0 (bUg r))
def cBv (r:Bool):Exit→St→Prop:=(bF (wkK (avc Tryz.prog aWo (aCq r))) (aCq r))
def cA2 (r:Bool):Exit→St→Prop:=(bG 2 (cBv r))
def bS0 (p0:aJ) (p1:aB) (x5:Int):St:=⟨[(2,(.ptr 2 0)),(3,(.ptr 3 0)),(5,(vI x5))],[(2,dJ p0),(3,jG p1)]⟩
abbrev aDs (p0:aJ) (p1:aB) (x5:Int) (r:Bool):Prop:=avc Tryz.prog aI1 (bOt r) (bS0 p0 p1 x5)
def bJ8 (p0:aJ) (p1:aB) (x6:Int):St:=⟨[(2,(.ptr 2 0)),(3,(.ptr 3 0)),(6,(vI x6))],[(2,dJ p0),(3,jG p1)]⟩
abbrev aFt (p0:aJ) (p1:aB) (x6:Int) (r:Bool):Prop:=avc Tryz.prog aJx (cA2 r) (bJ8 p0 p1 x6)
def bTx:AC:=(.seq (.ops [.asg 2 (kB false)]) (.seq (.ops [.mv 3 0,.lns 4 3,.call (some 5) 19 [4,(kI 1),(kI 20)],.asg 2 5]) .ret))
theorem bYr:aV Tryz.prog 54=some (bTx,[.mv 0 2],6):=by kernel_rfl
def cDn (r:Bool):Exit→St→Prop:=aU [.mv 0 2] fun x _=>x=(fun y=>(vB y)) r
def aHv:AC:=(.loop (.seq (.seq (.ops [.mv 10 7,.mv 11 2,.len 12 11,.bin 13 .lss 10 12]) (.cond 13 .skip (.exit 0))) (.seq (.block 1 (.seq (.dops [[],[],[],[],[2,3],[4],[0,1,5],[6],[7],[7],[8,6,0,1,2,3,4,5,6,7,8],[9,10,0,1,2,3,4,5,6,7,8,9,10]] [.ld 17 1 true 3,.mv 18 1,.mv 19 2,.mv 20 7,.ia 21 10 19 20,.ld 22 10 true 21,.call (some 23) 65 [17,18,22],.mv 16 23,.ext 24 16 0,.ext 25 16 1,.asg 8 24,.asg 9 25]) (.seq (.ops [.mv 26 9,.not 27 26,.mv 28 27,.g 28 false (.mv 29 8),.g 28 false (.call (some 30) 66 [29]),.g 28 false (.not 31 30),.pick 32 28 (kB true) 31]) (.cond 32 (.seq (.ops [.asg 6 (kB false)]) .ret) .skip)))) (.ops [.mv 14 7,.bin 15 .add 14 (kI 1),.asg 7 15]))))
def aQm:AC:=(.seq (.ops [.asg 6 (kB true)]) .ret)
def bVw:AC:=(.seq (.ops [.box 3 39 0,.asg 6 (kB false)]) (.seq (.seq (.ops [.asg 7 (kI 0)]) (.block 0 aHv)) aQm))
theorem bLz:aV Tryz.prog 24=some (bVw,[.mv 0 6],33):=by kernel_rfl
def aWu (r:Bool):Exit→St→Prop:=aU [.mv 0 6] fun x _=>x=(fun y=>(vB y)) r
def cCx (r:Bool):Exit→St→Prop:=(bF (wkK (avc Tryz.prog aQm (aWu r))) (aWu r))
def bBw (r:Bool):Exit→St→Prop:=(bG 0 (cCx r))
def bR2 (p1:(List (List Int))) (p2:(List aA)) (p0:aJ) (x7:Int):St:=⟨[(1,(.d (.sl 1 (p1.map (cSl 1 cI))))),(2,(bN p2)),(3,(.ptr 3 0)),(7,(vI x7))],[(3,dJ p0)]⟩
abbrev aDl (p1:(List (List Int))) (p2:(List aA)) (p0:aJ) (x7:Int) (r:Bool):Prop:=avc Tryz.prog aHv (bBw r) (bR2 p1 p2 p0 x7)
def bXl:AC:=(.seq (.ops [.asg 2 (kB false)]) (.seq (.ops [.mv 3 0,.bin 4 .eql 3 (kI 0),.mv 5 4,.g 5 false (.mv 6 0),.g 5 false (.bin 7 .eql 6 (kI 3)),.pick 8 5 (kB true) 7,.asg 2 8]) .ret))
theorem bGo:aV Tryz.prog 66=some (bXl,[.mv 0 2],9):=by kernel_rfl
def cEj (r:Bool):Exit→St→Prop:=aU [.mv 0 2] fun x _=>x=(fun y=>(vB y)) r
def aIr:AC:=(.seq (.ops [.mv 49 10,.mv 50 1,.mv 51 10,.call (some 52) 136 [50,51],.mv 53 52,.g 53 true (.mv 54 2),.g 53 true (.mv 55 10),.g 53 true (.call (some 56) 136 [54,55]),.pick 57 53 56 (kB false),.call (some 58) 103 [49,57],.ext 59 58 0,.ext 60 58 1,.asg 6 59,.asg 7 60]) .ret)
def cBz:AC:=(.seq (.ops [.asg 6 (kI 0),.asg 7 (kB false)]) (.seq (.seq (.ops [.mv 11 0,.call (some 12) 19 [11,(kI 1),(kI 14)],.not 13 12,.mv 14 13,.g 14 false (.mv 15 1),.g 14 false (.call (some 16) 134 [15]),.g 14 false (.not 17 16),.pick 18 14 (kB true) 17,.mv 19 18,.g 19 false (.mv 20 2),.g 19 false (.call (some 21) 134 [20]),.g 19 false (.not 22 21),.pick 23 19 (kB true) 22]) (.cond 23 (.seq (.ops [.asg 6 (kI 0),.asg 7 (kB false)]) .ret) .skip)) (.seq (.seq (.ops [.mv 24 0,.bin 25 .leq 24 (kI 2)]) (.cond 25 (.seq (.ops [.mv 26 1,.call (some 27) 66 [26],.mv 28 27,.g 28 true (.mv 29 2),.g 28 true (.call (some 30) 66 [29]),.pick 31 28 30 (kB false),.call (some 32) 103 [(kI 3),31],.ext 33 32 0,.ext 34 32 1,.asg 6 33,.asg 7 34]) .ret) .skip)) (.seq (.seq (.ops [.mv 35 0,.bin 36 .leq 35 (kI 8)]) (.cond 36 (.seq (.ops [.mv 38 1,.mv 39 2,.call (some 40) 99 [38,39],.mv 37 40,.ext 41 37 0,.ext 42 37 1,.asg 8 41,.asg 9 42]) (.seq (.ops [.mv 43 9,.call (some 44) 103 [(kI 3),43],.ext 45 44 0,.ext 46 44 1,.asg 6 45,.asg 7 46]) .ret)) .skip)) (.seq (.ops [.asg 10 (kI 1)]) (.seq (.seq (.ops [.mv 47 0,.bin 48 .eql 47 (kI 9)]) (.cond 48 (.ops [.asg 10 (kI 2)]) .skip)) aIr))))))
theorem bQj:aV Tryz.prog 102=some (cBz,[.mv 0 6,.mv 0 7],61):=by kernel_rfl
def bNq (r:Int×Bool):Exit→St→Prop:=aU [.mv 0 6,.mv 0 7] fun x _=>x=(fun y=>(.tup [(vI y.1),(vB y.2)])) r
def bGh (p1:Int) (p2:Int) (x10:Int):St:=⟨[(1,(vI p1)),(2,(vI p2)),(10,(vI x10))],[]⟩
abbrev aOt (p1:Int) (p2:Int) (x10:Int) (r:Int×Bool):Prop:=avc Tryz.prog aIr (bNq r) (bGh p1 p2 x10)
def bXc:AC:=(.seq (.ops [.asg 2 (kB false)]) (.seq (.ops [.mv 3 0,.call (some 4) 19 [3,(kI 0),(kI 3)],.asg 2 4]) .ret))
theorem bWj:aV Tryz.prog 134=some (bXc,[.mv 0 2],5):=by kernel_rfl
def cH5 (r:Bool):Exit→St→Prop:=aU [.mv 0 2] fun x _=>x=(fun y=>(vB y)) r
def bWc:AC:=(.seq (.ops [.asg 4 (kB false)]) (.seq (.ops [.mv 5 0,.bin 6 .eql 5 (kI 0),.mv 7 6,.g 7 false (.mv 8 0),.g 7 false (.mv 9 1),.g 7 false (.bin 10 .eql 8 9),.pick 11 7 (kB true) 10,.asg 4 11]) .ret))
theorem bBv:aV Tryz.prog 136=some (bWc,[.mv 0 4],12):=by kernel_rfl
def cFc (r:Bool):Exit→St→Prop:=aU [.mv 0 4] fun x _=>x=(fun y=>(vB y)) r
def bCo:AC:=(.seq (.ops [.asg 4 (kI 0),.asg 5 (kB false)]) (.seq (.seq (.ops [.mv 6 0,.call (some 7) 134 [6],.not 8 7,.mv 9 8,.g 9 false (.mv 10 1),.g 9 false (.call (some 11) 134 [10]),.g 9 false (.not 12 11),.pick 13 9 (kB true) 12]) (.cond 13 (.seq (.ops [.asg 4 (kI 0),.asg 5 (kB false)]) .ret) .skip)) (.seq (.seq (.ops [.mv 14 0,.bin 15 .eql 14 (kI 0)]) (.cond 15 (.seq (.ops [.mv 16 1,.asg 4 16,.asg 5 (kB true)]) .ret) .skip)) (.seq (.seq (.ops [.mv 17 1,.bin 18 .eql 17 (kI 0),.mv 19 18,.g 19 false (.mv 20 0),.g 19 false (.mv 21 1),.g 19 false (.bin 22 .eql 20 21),.pick 23 19 (kB true) 22]) (.cond 23 (.seq (.ops [.mv 24 0,.asg 4 24,.asg 5 (kB true)]) .ret) .skip)) (.seq (.ops [.asg 4 (kI 0),.asg 5 (kB false)]) .ret)))))
theorem bK9:aV Tryz.prog 99=some (bCo,[.mv 0 4,.mv 0 5],25):=by kernel_rfl
def cFx (r:Int×Bool):Exit→St→Prop:=aU [.mv 0 4,.mv 0 5] fun x _=>x=(fun y=>(.tup [(vI y.1),(vB y.2)])) r
def bZk:AC:=(.seq (.ops [.asg 4 (kI 0),.asg 5 (kB false)]) (.seq (.seq (.ops [.mv 6 0]) (.block 0 (.seq (.ops [.bin 8 .eql 6 (kI 15),.asg 7 8]) (.cond 7 (.seq (.ops [.mv 9 1,.call (some 10) 66 [9],.call (some 11) 103 [(kI 3),10],.ext 12 11 0,.ext 13 11 1,.asg 4 12,.asg 5 13]) .ret) (.seq (.ops [.bin 15 .eql 6 (kI 16),.asg 14 15]) (.cond 14 (.seq (.ops [.mv 16 1,.call (some 17) 136 [16,(kI 1)],.call (some 18) 103 [(kI 1),17],.ext 19 18 0,.ext 20 18 1,.asg 4 19,.asg 5 20]) .ret) .skip)))))) (.seq (.ops [.asg 4 (kI 0),.asg 5 (kB false)]) .ret)))
theorem bDa:aV Tryz.prog 101=some (bZk,[.mv 0 4,.mv 0 5],21):=by kernel_rfl
def cDz (r:Int×Bool):Exit→St→Prop:=aU [.mv 0 4,.mv 0 5] fun x _=>x=(fun y=>(.tup [(vI y.1),(vB y.2)])) r
def aIh:AC:=(.seq (.ops [.ld 38 10 true 3,.call (some 39) 135 [38],.asg 2 39]) .ret)
def bEu:AC:=(.seq (.ops [.box 1 108 0,.asg 2 (kB false)]) (.seq (.seq (.ops [.fa 4 0 1,.ld 5 1 false 4,.bin 6 .neq 5 (kI 2),.mv 7 6,.g 7 true (.fa 8 6 1),.g 7 true (.ld 9 1 false 8),.g 7 true (.bin 10 .neq 9 (kI 0)),.g 7 true (.mv 11 10),.g 11 false (.fa 12 7 1),.g 11 false (.ld 13 1 false 12),.g 11 false (.bin 14 .neq 13 (kI 0)),.g 7 true (.pick 15 11 (kB true) 14),.pick 16 7 15 (kB false)]) (.cond 16 (.seq (.ops [.asg 2 (kB false)]) .ret) .skip)) (.seq (.dops [[],[0],[],[2],[],[4],[],[6],[],[8],[9],[10,10],[],[12],[13],[14,14],[1,3,5,7,11,15],[],[17,16,0,1,2,3,4,5,6,7,8,9,10,11,12,13,14,15,16,17]] [.fa 17 0 1,.ld 18 1 false 17,.fa 19 1 1,.ld 20 1 false 19,.fa 21 2 1,.ld 22 1 false 21,.fa 23 3 1,.ld 24 3 true 23,.fa 25 8 1,.ld 26 1 false 25,.len 27 26,.mks 28 160 10 136 [(.i .i64 0),(.i .i64 0),(.b false),(.i .i64 0),(.i .i64 0),(.s (bs [])),(.s (bs [])),(.s (bs [])),(.sl 10 []),(.sl 6 [])] 27 27,.fa 29 9 1,.ld 30 1 false 29,.len 31 30,.mks 32 199 6 112 [(.b false),(.sl 13 []),(.sl 3 []),(.sl 10 []),(.sl 11 []),(.i .i64 0)] 31 31,.bld 33 [bQ,bQ,cK,bQ,bQ,fU,fU,fU,(.nil 10),(.nil 6)] [(0,1,18),(1,1,20),(2,1,22),(3,3,24),(8,1,28),(9,1,32)],.alc 3 [bQ,bQ,cK,bQ,bQ,fU,fU,fU,(.nil 10),(.nil 6)],.st 10 3 33]) (.seq (.seq (.ops [.fa 34 0 1,.ld 35 1 false 34,.bin 36 .eql 35 (kI 2)]) (.cond 36 (.ops [.fa 37 7 3,.st 1 37 (.c (.d (.s (bs [97]))))]) .skip)) aIh))))
theorem bVk:aV Tryz.prog 100=some (bEu,[.mv 0 2],40):=by kernel_rfl
def bFg (r:Bool):Exit→St→Prop:=aU [.mv 0 2] fun x _=>x=(fun y=>(vB y)) r
def bK5 (p0:aA) (y3:(List cO)) (y4:(List eY)) (uA:(List UInt8)):St:=⟨[(3,(.ptr 3 0))],[(3,bIk (cO.mk p0.kind p0.op p0.not_ p0.value [] uA y3 y4))]⟩
abbrev aZ2 (p0:aA) (y3:(List cO)) (y4:(List eY)) (uA:(List UInt8)) (r:Bool):Prop:=avc Tryz.prog aIh (bFg r) (bK5 p0 y3 y4 uA)
def bN3:AC:=(.seq (.ops [.box 1 160 0,.asg 2 (kB false)]) (.seq (.ops [.fa 5 8 1,.ld 6 1 false 5,.len 7 6,.asg 3 7]) (.seq (.ops [.fa 8 9 1,.ld 9 1 false 8,.len 10 9,.asg 4 10]) (.seq (.seq (.ops [.fa 11 0 1,.ld 12 1 false 11,.bin 13 .neq 12 (kI 2),.mv 14 13,.g 14 true (.fa 15 6 1),.g 14 true (.ld 16 1 false 15),.g 14 true (.bin 17 .neq 16 (.c (.d (.s (bs []))))),.g 14 true (.mv 18 17),.g 18 false (.fa 19 7 1),.g 18 false (.ld 20 1 false 19),.g 18 false (.bin 21 .neq 20 (.c (.d (.s (bs []))))),.g 14 true (.pick 22 18 (kB true) 21),.pick 23 14 22 (kB false),.mv 24 23,.g 24 false (.fa 25 0 1),.g 24 false (.ld 26 1 false 25),.g 24 false (.bin 27 .neq 26 (kI 1)),.g 24 false (.mv 28 27),.g 28 true (.fa 29 3 1),.g 28 true (.ld 30 3 true 29),.g 28 true (.bld 31 [bQ,bQ,fU] []),.g 28 true (.eqv 32 true [0,0,1] 30 31),.g 24 false (.pick 33 28 32 (kB false)),.pick 34 24 (kB true) 33]) (.cond 34 (.seq (.ops [.asg 2 (kB false)]) .ret) .skip)) (.seq (.seq (.ops [.fa 35 0 1,.ld 36 1 false 35,.bin 37 .neq 36 (kI 3),.mv 38 37,.g 38 true (.fa 39 0 1),.g 38 true (.ld 40 1 false 39),.g 38 true (.bin 41 .neq 40 (kI 4)),.pick 42 38 41 (kB false),.mv 43 42,.g 43 true (.fa 44 1 1),.g 43 true (.ld 45 1 false 44),.g 43 true (.bin 46 .neq 45 (kI 0)),.pick 47 43 46 (kB false),.mv 48 47,.g 48 false (.fa 49 2 1),.g 48 false (.ld 50 1 false 49),.g 48 false (.mv 51 50),.g 51 true (.fa 52 0 1),.g 51 true (.ld 53 1 false 52),.g 51 true (.call (some 54) 19 [53,(kI 5),(kI 8)]),.g 51 true (.not 55 54),.g 48 false (.pick 56 51 55 (kB false)),.pick 57 48 (kB true) 56]) (.cond 57 (.seq (.ops [.asg 2 (kB false)]) .ret) .skip)) (.seq (.seq (.ops [.fa 58 0 1,.ld 59 1 false 58]) (.block 0 (.seq (.ops [.bin 61 .eql 59 (kI 1),.asg 60 61]) (.cond 60 (.seq (.ops [.fa 62 3 1,.ld 63 3 true 62,.call (some 64) 153 [63],.mv 65 64,.g 65 true (.mv 66 3),.g 65 true (.mv 67 4),.g 65 true (.bin 68 .add 66 67),.g 65 true (.bin 69 .eql 68 (kI 0)),.pick 70 65 69 (kB false),.asg 2 70]) .ret) (.seq (.ops [.bin 72 .eql 59 (kI 2),.asg 71 72]) (.cond 71 (.seq (.ops [.fa 73 7 1,.ld 74 1 false 73,.call (some 75) 54 [74],.mv 76 75,.g 76 true (.fa 77 6 1),.g 76 true (.ld 78 1 false 77),.g 76 true (.call (some 79) 154 [78]),.pick 80 76 79 (kB false),.mv 81 80,.g 81 true (.mv 82 3),.g 81 true (.mv 83 4),.g 81 true (.bin 84 .add 82 83),.g 81 true (.bin 85 .eql 84 (kI 0)),.pick 86 81 85 (kB false),.asg 2 86]) .ret) (.seq (.ops [.bin 88 .eql 59 (kI 3),.asg 87 88]) (.cond 87 (.seq (.ops [.fa 89 1 1,.ld 90 1 false 89,.bin 91 .eql 90 (kI 15),.mv 92 91,.g 92 false (.fa 93 1 1),.g 92 false (.ld 94 1 false 93),.g 92 false (.bin 95 .eql 94 (kI 16)),.pick 96 92 (kB true) 95,.mv 97 96,.g 97 true (.mv 98 3),.g 97 true (.bin 99 .eql 98 (kI 1)),.pick 100 97 99 (kB false),.mv 101 100,.g 101 true (.mv 102 4),.g 101 true (.bin 103 .eql 102 (kI 0)),.pick 104 101 103 (kB false),.asg 2 104]) .ret) (.seq (.ops [.bin 106 .eql 59 (kI 4),.asg 105 106]) (.cond 105 (.seq (.ops [.fa 107 1 1,.ld 108 1 false 107,.call (some 109) 19 [108,(kI 1),(kI 14)],.mv 110 109,.g 110 true (.mv 111 3),.g 110 true (.bin 112 .eql 111 (kI 2)),.pick 113 110 112 (kB false),.mv 114 113,.g 114 true (.mv 115 4),.g 114 true (.bin 116 .eql 115 (kI 0)),.pick 117 114 116 (kB false),.asg 2 117]) .ret) (.seq (.ops [.bin 119 .eql 59 (kI 5),.asg 118 119]) (.cond 118 (.seq (.ops [.mv 120 3,.bin 121 .eql 120 (kI 1),.mv 122 121,.g 122 true (.mv 123 4),.g 122 true (.bin 124 .eql 123 (kI 0)),.pick 125 122 124 (kB false),.asg 2 125]) .ret) (.seq (.ops [.bin 127 .eql 59 (kI 6),.asg 126 127]) (.cond 126 (.seq (.ops [.mv 128 3,.bin 129 .eql 128 (kI 3),.mv 130 129,.g 130 true (.mv 131 4),.g 130 true (.bin 132 .eql 131 (kI 0)),.pick 133 130 132 (kB false),.asg 2 133]) .ret) (.seq (.ops [.bin 135 .eql 59 (kI 7),.asg 134 135]) (.cond 134 (.seq (.ops [.mv 136 3,.call (some 137) 19 [136,(kI 2),(kI 9)],.mv 138 137,.g 138 true (.mv 139 4),.g 138 true (.bin 140 .eql 139 (kI 0)),.pick 141 138 140 (kB false),.asg 2 141]) .ret) (.seq (.ops [.bin 143 .eql 59 (kI 8),.asg 142 143]) (.cond 142 (.seq (.ops [.mv 144 3,.bin 145 .eql 144 (kI 1),.mv 146 145,.g 146 true (.mv 147 4),.g 146 true (.bin 148 .eql 147 (kI 1)),.pick 149 146 148 (kB false),.asg 2 149]) .ret) (.seq (.ops [.bin 151 .eql 59 (kI 9),.asg 150 151]) (.cond 150 (.seq (.ops [.mv 152 3,.bin 153 .eql 152 (kI 0),.mv 154 153,.g 154 true (.mv 155 4),.g 154 true (.bin 156 .eql 155 (kI 1)),.pick 157 154 156 (kB false),.asg 2 157]) .ret) .skip)))))))))))))))))))) (.seq (.ops [.asg 2 (kB false)]) .ret)))))))
theorem bJ7:aV Tryz.prog 135=some (bN3,[.mv 0 2],158):=by kernel_rfl
def cEm (r:Bool):Exit→St→Prop:=aU [.mv 0 2] fun x _=>x=(fun y=>(vB y)) r
def bW9:AC:=(.seq (.ops [.asg 2 (kB false)]) (.seq (.ops [.mv 3 0,.bin 4 .eql 3 (.c (.d (.s (bs [])))),.mv 5 4,.g 5 false (.mv 6 0),.g 5 false (.call (some 7) 54 [6]),.pick 8 5 (kB true) 7,.asg 2 8]) .ret))
theorem cAa:aV Tryz.prog 154=some (bW9,[.mv 0 2],9):=by kernel_rfl
def cI3 (r:Bool):Exit→St→Prop:=aU [.mv 0 2] fun x _=>x=(fun y=>(vB y)) r
def bCh:AC:=(.seq (.ops [.box 1 105 0,.asg 2 (kB false)]) (.seq (.ops [.ld 3 3 true 1,.call (some 4) 159 [3],.mv 5 4,.g 5 true (.fa 6 0 1),.g 5 true (.ld 7 1 false 6),.g 5 true (.bin 8 .neq 7 (kI 1)),.g 5 true (.mv 9 8),.g 9 false (.fa 10 1 1),.g 9 false (.ld 11 1 false 10),.g 9 false (.bin 12 .geq 11 (kI 0)),.g 5 true (.pick 13 9 (kB true) 12),.pick 14 5 13 (kB false),.mv 15 14,.g 15 true (.fa 16 2 1),.g 15 true (.ld 17 1 false 16),.g 15 true (.lns 18 17),.g 15 true (.bin 19 .leq 18 (kI 40)),.pick 20 15 19 (kB false),.asg 2 20]) .ret))
theorem bJ4:aV Tryz.prog 153=some (bCh,[.mv 0 2],21):=by kernel_rfl
def cHe (r:Bool):Exit→St→Prop:=aU [.mv 0 2] fun x _=>x=(fun y=>(vB y)) r
def cAm:AC:=(.seq (.ops [.box 1 105 0,.asg 2 (kB false)]) (.seq (.seq (.ops [.fa 3 0 1,.ld 4 1 false 3]) (.block 0 (.seq (.ops [.bin 6 .eql 4 (kI 0),.asg 5 6]) (.cond 5 (.seq (.ops [.fa 7 1 1,.ld 8 1 false 7,.bin 9 .eql 8 (kI 0),.mv 10 9,.g 10 true (.fa 11 2 1),.g 10 true (.ld 12 1 false 11),.g 10 true (.bin 13 .eql 12 (.c (.d (.s (bs []))))),.pick 14 10 13 (kB false),.asg 2 14]) .ret) (.seq (.ops [.bin 16 .eql 4 (kI 1),.asg 15 16]) (.cond 15 (.seq (.ops [.fa 17 2 1,.ld 18 1 false 17,.bin 19 .eql 18 (.c (.d (.s (bs [])))),.asg 2 19]) .ret) (.seq (.ops [.bin 21 .eql 4 (kI 2),.asg 20 21]) (.cond 20 (.seq (.ops [.fa 22 1 1,.ld 23 1 false 22,.bin 24 .eql 23 (kI 0),.mv 25 24,.g 25 true (.fa 26 2 1),.g 25 true (.ld 27 1 false 26),.g 25 true (.lns 28 27),.g 25 true (.bin 29 .leq 28 (kI 200)),.pick 30 25 29 (kB false),.asg 2 30]) .ret) (.seq (.ops [.bin 32 .eql 4 (kI 3),.asg 31 32]) (.cond 31 (.seq (.ops [.fa 33 1 1,.ld 34 1 false 33,.call (some 35) 19 [34,(kI 0),(kI 1)],.mv 36 35,.g 36 true (.fa 37 2 1),.g 36 true (.ld 38 1 false 37),.g 36 true (.bin 39 .eql 38 (.c (.d (.s (bs []))))),.pick 40 36 39 (kB false),.asg 2 40]) .ret) .skip)))))))))) (.seq (.ops [.asg 2 (kB false)]) .ret)))
theorem bQf:aV Tryz.prog 159=some (cAm,[.mv 0 2],41):=by kernel_rfl
def cDm (r:Bool):Exit→St→Prop:=aU [.mv 0 2] fun x _=>x=(fun y=>(vB y)) r
def aNf:AC:=(.loop (.seq (.seq (.ops [.mv 7 4,.mv 8 0,.len 9 8,.bin 10 .lss 7 9]) (.cond 10 .skip (.exit 0))) (.seq (.block 1 (.seq (.ops [.mv 14 3,.mv 15 0,.mv 16 4,.ia 17 1 15 16,.ld 18 1 false 17,.call (some 19) 99 [14,18],.mv 13 19,.ext 20 13 0,.ext 21 13 1,.asg 5 20,.asg 6 21]) (.seq (.seq (.ops [.mv 22 6,.not 23 22]) (.cond 23 (.seq (.ops [.asg 2 (kB false)]) .ret) .skip)) (.ops [.mv 24 5,.asg 3 24])))) (.ops [.mv 11 4,.bin 12 .add 11 (kI 1),.asg 4 12]))))
def aYq:AC:=(.seq (.ops [.asg 2 (kB true)]) .ret)
def bYe:AC:=(.seq (.ops [.asg 2 (kB false)]) (.seq (.ops [.asg 3 (kI 0)]) (.seq (.seq (.ops [.asg 4 (kI 0)]) (.block 0 aNf)) aYq)))
theorem bRi:aV Tryz.prog 104=some (bYe,[.mv 0 2],25):=by kernel_rfl
def aQu (r:Bool):Exit→St→Prop:=aU [.mv 0 2] fun x _=>x=(fun y=>(vB y)) r
def bWe (r:Bool):Exit→St→Prop:=(bF (wkK (avc Tryz.prog aYq (aQu r))) (aQu r))
def bE6 (r:Bool):Exit→St→Prop:=(bG 0 (bWe r))
def bGn (p0:(List Int)) (x3:Int) (x4:Int):St:=⟨[(0,(bX p0)),(3,(vI x3)),(4,(vI x4))],[]⟩
abbrev aEr (p0:(List Int)) (x3:Int) (x4:Int) (r:Bool):Prop:=avc Tryz.prog aNf (bE6 r) (bGn p0 x3 x4)
def aMo:AC:=(.loop (.seq (.seq (.ops [.mv 69 5,.fa 70 1 2,.ld 71 1 false 70,.len 72 71,.bin 73 .lss 69 72]) (.cond 73 .skip (.exit 0))) (.seq (.block 1 (.seq (.dops [[],[0],[],[1,2],[3],[],[5],[],[6,7],[8],[4,9],[10]] [.fa 76 1 2,.ld 77 1 false 76,.mv 78 5,.ia 79 1 77 78,.ld 80 1 false 79,.fa 81 1 3,.ld 82 1 false 81,.mv 83 5,.ia 84 1 82 83,.ld 85 1 false 84,.call (some 86) 58 [80,85],.not 87 86]) (.cond 87 (.seq (.ops [.asg 4 (kB false)]) .ret) .skip))) (.ops [.mv 74 5,.bin 75 .add 74 (kI 1),.asg 5 75]))))
def aMj:AC:=(.loop (.seq (.seq (.ops [.mv 88 6,.fa 89 3 2,.ld 90 1 false 89,.len 91 90,.bin 92 .lss 88 91]) (.cond 92 .skip (.exit 2))) (.seq (.block 3 (.seq (.dops [[],[0],[],[1,2],[3],[4],[],[6],[],[7,8],[9],[10],[5,11],[12],[13],[14,13],[13],[15,16,13],[17,13],[18,13],[13],[20,13],[13],[21,22,13],[23,13],[24,13],[19,25,13,13],[26,13],[13,27]] [.fa 95 3 2,.ld 96 1 false 95,.mv 97 6,.ia 98 11 96 97,.fa 99 10 98,.ld 100 1 false 99,.fa 101 3 3,.ld 102 1 false 101,.mv 103 6,.ia 104 11 102 103,.fa 105 10 104,.ld 106 1 false 105,.eqb 107 true 100 106,.mv 108 107,.g 108 false (.fa 109 3 2),.g 108 false (.ld 110 1 false 109),.g 108 false (.mv 111 6),.g 108 false (.ia 112 11 110 111),.g 108 false (.fa 113 0 112),.g 108 false (.ld 114 10 true 113),.g 108 false (.fa 115 3 3),.g 108 false (.ld 116 1 false 115),.g 108 false (.mv 117 6),.g 108 false (.ia 118 11 116 117),.g 108 false (.fa 119 0 118),.g 108 false (.ld 120 10 true 119),.g 108 false (.call (some 121) 60 [114,120]),.g 108 false (.not 122 121),.pick 123 108 (kB true) 122]) (.cond 123 (.seq (.ops [.asg 4 (kB false)]) .ret) .skip))) (.ops [.mv 93 6,.bin 94 .add 93 (kI 1),.asg 6 94]))))
def aYw:AC:=(.seq (.ops [.asg 4 (kB true)]) .ret)
def aYa:AC:=(.seq (.seq (.ops [.asg 6 (kI 0)]) (.block 2 aMj)) aYw)
def bV5:AC:=(.seq (.ops [.box 2 45 0,.box 3 45 1,.asg 4 (kB false)]) (.seq (.seq (.ops [.fa 7 6 2,.ld 8 1 false 7,.fa 9 6 3,.ld 10 1 false 9,.eqb 11 true 8 10,.mv 12 11,.g 12 false (.fa 13 7 2),.g 12 false (.ld 14 1 false 13),.g 12 false (.fa 15 7 3),.g 12 false (.ld 16 1 false 15),.g 12 false (.bin 17 .neq 14 16),.pick 18 12 (kB true) 17,.mv 19 18,.g 19 false (.fa 20 0 2),.g 19 false (.ld 21 1 false 20),.g 19 false (.fa 22 0 3),.g 19 false (.ld 23 1 false 22),.g 19 false (.call (some 24) 57 [21,23]),.g 19 false (.not 25 24),.pick 26 19 (kB true) 25,.mv 27 26,.g 27 false (.fa 28 1 2),.g 27 false (.ld 29 1 false 28),.g 27 false (.len 30 29),.g 27 false (.fa 31 1 3),.g 27 false (.ld 32 1 false 31),.g 27 false (.len 33 32),.g 27 false (.bin 34 .neq 30 33),.pick 35 27 (kB true) 34,.mv 36 35,.g 36 false (.fa 37 2 2),.g 36 false (.ld 38 1 false 37),.g 36 false (.fa 39 2 3),.g 36 false (.ld 40 1 false 39),.g 36 false (.call (some 41) 58 [38,40]),.g 36 false (.not 42 41),.pick 43 36 (kB true) 42,.mv 44 43,.g 44 false (.fa 45 3 2),.g 44 false (.ld 46 1 false 45),.g 44 false (.len 47 46),.g 44 false (.fa 48 3 3),.g 44 false (.ld 49 1 false 48),.g 44 false (.len 50 49),.g 44 false (.bin 51 .neq 47 50),.pick 52 44 (kB true) 51,.mv 53 52,.g 53 false (.fa 54 4 2),.g 53 false (.ld 55 1 false 54),.g 53 false (.fa 56 4 3),.g 53 false (.ld 57 1 false 56),.g 53 false (.call (some 58) 58 [55,57]),.g 53 false (.not 59 58),.pick 60 53 (kB true) 59,.mv 61 60,.g 61 false (.fa 62 5 2),.g 61 false (.ld 63 1 false 62),.g 61 false (.fa 64 5 3),.g 61 false (.ld 65 1 false 64),.g 61 false (.call (some 66) 59 [63,65]),.g 61 false (.not 67 66),.pick 68 61 (kB true) 67]) (.cond 68 (.seq (.ops [.asg 4 (kB false)]) .ret) .skip)) (.seq (.seq (.ops [.asg 5 (kI 0)]) (.block 0 aMo)) aYa)))
theorem bWr:aV Tryz.prog 20=some (bV5,[.mv 0 4],124):=by kernel_rfl
def aCv (r:Bool):Exit→St→Prop:=aU [.mv 0 4] fun x _=>x=(fun y=>(vB y)) r
def cCc (r:Bool):Exit→St→Prop:=(bF (wkK (avc Tryz.prog aYa (aCv r))) (aCv r))
def bPg (r:Bool):Exit→St→Prop:=(bG 0 (cCc r))
def bM4 (r:Bool):Exit→St→Prop:=(bF (wkK (avc Tryz.prog aYw (aCv r))) (aCv r))
def bYi (r:Bool):Exit→St→Prop:=(bG 2 (bM4 r))
def bSf (p0:aB) (p1:aB) (x5:Int):St:=⟨[(2,(.ptr 2 0)),(3,(.ptr 3 0)),(5,(vI x5))],[(2,jG p0),(3,jG p1)]⟩
abbrev aE6 (p0:aB) (p1:aB) (x5:Int) (r:Bool):Prop:=avc Tryz.prog aMo (bPg r) (bSf p0 p1 x5)
def bNe (p0:aB) (p1:aB) (x6:Int):St:=⟨[(2,(.ptr 2 0)),(3,(.ptr 3 0)),(6,(vI x6))],[(2,jG p0),(3,jG p1)]⟩
abbrev aDu (p0:aB) (p1:aB) (x6:Int) (r:Bool):Prop:=avc Tryz.prog aMj (bYi r) (bNe p0 p1 x6)
def aO3:AC:=(.loop (.seq (.seq (.ops [.mv 11 5,.mv 12 0,.len 13 12,.bin 14 .lss 11 13]) (.cond 14 .skip (.exit 0))) (.seq (.block 1 (.seq (.dops [[],[],[0,1],[2],[],[],[4,5],[6],[3,7]] [.mv 17 0,.mv 18 5,.ia 19 1 17 18,.ld 20 1 false 19,.mv 21 1,.mv 22 5,.ia 23 1 21 22,.ld 24 1 false 23,.bin 25 .neq 20 24]) (.cond 25 (.seq (.ops [.asg 4 (kB false)]) .ret) .skip))) (.ops [.mv 15 5,.bin 16 .add 15 (kI 1),.asg 5 16]))))
def aW5:AC:=(.seq (.ops [.asg 4 (kB true)]) .ret)
def bVc:AC:=(.seq (.ops [.asg 4 (kB false)]) (.seq (.seq (.ops [.mv 6 0,.len 7 6,.mv 8 1,.len 9 8,.bin 10 .neq 7 9]) (.cond 10 (.seq (.ops [.asg 4 (kB false)]) .ret) .skip)) (.seq (.seq (.ops [.asg 5 (kI 0)]) (.block 0 aO3)) aW5)))
theorem bE5:aV Tryz.prog 57=some (bVc,[.mv 0 4],26):=by kernel_rfl
def aUk (r:Bool):Exit→St→Prop:=aU [.mv 0 4] fun x _=>x=(fun y=>(vB y)) r
def cBr (r:Bool):Exit→St→Prop:=(bF (wkK (avc Tryz.prog aW5 (aUk r))) (aUk r))
def bGe (r:Bool):Exit→St→Prop:=(bG 0 (cBr r))
def bWs (p0:(List Int)) (p1:(List Int)) (x5:Int):St:=⟨[(0,(bX p0)),(1,(bX p1)),(5,(vI x5))],[]⟩
abbrev aDw (p0:(List Int)) (p1:(List Int)) (x5:Int) (r:Bool):Prop:=avc Tryz.prog aO3 (bGe r) (bWs p0 p1 x5)
def aN2:AC:=(.loop (.seq (.seq (.ops [.mv 11 5,.mv 12 0,.len 13 12,.bin 14 .lss 11 13]) (.cond 14 .skip (.exit 0))) (.seq (.block 1 (.seq (.dops [[],[],[0,1],[2],[],[],[4,5],[6],[3,7]] [.mv 17 0,.mv 18 5,.ia 19 1 17 18,.ld 20 1 false 19,.mv 21 1,.mv 22 5,.ia 23 1 21 22,.ld 24 1 false 23,.bin 25 .neq 20 24]) (.cond 25 (.seq (.ops [.asg 4 (kB false)]) .ret) .skip))) (.ops [.mv 15 5,.bin 16 .add 15 (kI 1),.asg 5 16]))))
def aOy:AC:=(.seq (.ops [.asg 4 (kB true)]) .ret)
def bSr:AC:=(.seq (.ops [.asg 4 (kB false)]) (.seq (.seq (.ops [.mv 6 0,.len 7 6,.mv 8 1,.len 9 8,.bin 10 .neq 7 9]) (.cond 10 (.seq (.ops [.asg 4 (kB false)]) .ret) .skip)) (.seq (.seq (.ops [.asg 5 (kI 0)]) (.block 0 aN2)) aOy)))
theorem bDm:aV Tryz.prog 59=some (bSr,[.mv 0 4],26):=by kernel_rfl
def aY0 (r:Bool):Exit→St→Prop:=aU [.mv 0 4] fun x _=>x=(fun y=>(vB y)) r
def bE9 (r:Bool):Exit→St→Prop:=(bF (wkK (avc Tryz.prog aOy (aY0 r))) (aY0 r))
def bFr (r:Bool):Exit→St→Prop:=(bG 0 (bE9 r))
def bI0 (p0:(List (List UInt8))) (p1:(List (List UInt8))) (x5:Int):St:=⟨[(0,(fI p0)),(1,(fI p1)),(5,(vI x5))],[]⟩
abbrev aH0 (p0:(List (List UInt8))) (p1:(List (List UInt8))) (x5:Int) (r:Bool):Prop:=avc Tryz.prog aN2 (bFr r) (bI0 p0 p1 x5)
def aKj:AC:=(.loop (.seq (.seq (.ops [.mv 11 5,.mv 12 0,.len 13 12,.bin 14 .lss 11 13]) (.cond 14 .skip (.exit 0))) (.seq (.block 1 (.seq (.dops [[],[],[0,1],[2],[],[],[4,5],[6],[3,7],[8]] [.mv 17 0,.mv 18 5,.ia 19 10 17 18,.ld 20 10 true 19,.mv 21 1,.mv 22 5,.ia 23 10 21 22,.ld 24 10 true 23,.call (some 25) 60 [20,24],.not 26 25]) (.cond 26 (.seq (.ops [.asg 4 (kB false)]) .ret) .skip))) (.ops [.mv 15 5,.bin 16 .add 15 (kI 1),.asg 5 16]))))
def aVn:AC:=(.seq (.ops [.asg 4 (kB true)]) .ret)
def bXq:AC:=(.seq (.ops [.asg 4 (kB false)]) (.seq (.seq (.ops [.mv 6 0,.len 7 6,.mv 8 1,.len 9 8,.bin 10 .neq 7 9]) (.cond 10 (.seq (.ops [.asg 4 (kB false)]) .ret) .skip)) (.seq (.seq (.ops [.asg 5 (kI 0)]) (.block 0 aKj)) aVn)))
theorem bTf:aV Tryz.prog 58=some (bXq,[.mv 0 4],27):=by kernel_rfl
def aTz (r:Bool):Exit→St→Prop:=aU [.mv 0 4] fun x _=>x=(fun y=>(vB y)) r
def bRn (r:Bool):Exit→St→Prop:=(bF (wkK (avc Tryz.prog aVn (aTz r))) (aTz r))
def bEh (r:Bool):Exit→St→Prop:=(bG 0 (bRn r))
def bNx (p0:(List aA)) (p1:(List aA)) (x5:Int):St:=⟨[(0,(bN p0)),(1,(bN p1)),(5,(vI x5))],[]⟩
abbrev aEw (p0:(List aA)) (p1:(List aA)) (x5:Int) (r:Bool):Prop:=avc Tryz.prog aKj (bEh r) (bNx p0 p1 x5)
def aMe:AC:=(.loop (.seq (.seq (.ops [.mv 63 5,.fa 64 9 2,.ld 65 1 false 64,.len 66 65,.bin 67 .lss 63 66]) (.cond 67 .skip (.exit 0))) (.seq (.block 1 (.seq (.dops [[],[0],[],[1,2],[3],[],[5],[],[6,7],[8],[4,9],[10]] [.fa 70 9 2,.ld 71 1 false 70,.mv 72 5,.ia 73 8 71 72,.ld 74 8 true 73,.fa 75 9 3,.ld 76 1 false 75,.mv 77 5,.ia 78 8 76 77,.ld 79 8 true 78,.call (some 80) 20 [74,79],.not 81 80]) (.cond 81 (.seq (.ops [.asg 4 (kB false)]) .ret) .skip))) (.ops [.mv 68 5,.bin 69 .add 68 (kI 1),.asg 5 69]))))
def aSx:AC:=(.seq (.ops [.asg 4 (kB true)]) .ret)
def bF9:AC:=(.seq (.ops [.box 2 108 0,.box 3 108 1,.asg 4 (kB false)]) (.seq (.seq (.ops [.fa 6 0 2,.ld 7 1 false 6,.fa 8 0 3,.ld 9 1 false 8,.bin 10 .neq 7 9,.mv 11 10,.g 11 false (.fa 12 1 2),.g 11 false (.ld 13 1 false 12),.g 11 false (.fa 14 1 3),.g 11 false (.ld 15 1 false 14),.g 11 false (.bin 16 .neq 13 15),.pick 17 11 (kB true) 16,.mv 18 17,.g 18 false (.fa 19 2 2),.g 18 false (.ld 20 1 false 19),.g 18 false (.fa 21 2 3),.g 18 false (.ld 22 1 false 21),.g 18 false (.eqb 23 true 20 22),.pick 24 18 (kB true) 23,.mv 25 24,.g 25 false (.fa 26 3 2),.g 25 false (.ld 27 3 true 26),.g 25 false (.fa 28 3 3),.g 25 false (.ld 29 3 true 28),.g 25 false (.eqv 30 true [0,0,1] 27 29),.pick 31 25 (kB true) 30,.mv 32 31,.g 32 false (.fa 33 6 2),.g 32 false (.ld 34 1 false 33),.g 32 false (.fa 35 6 3),.g 32 false (.ld 36 1 false 35),.g 32 false (.bin 37 .neq 34 36),.pick 38 32 (kB true) 37,.mv 39 38,.g 39 false (.fa 40 7 2),.g 39 false (.ld 41 1 false 40),.g 39 false (.fa 42 7 3),.g 39 false (.ld 43 1 false 42),.g 39 false (.bin 44 .neq 41 43),.pick 45 39 (kB true) 44,.mv 46 45,.g 46 false (.fa 47 9 2),.g 46 false (.ld 48 1 false 47),.g 46 false (.len 49 48),.g 46 false (.fa 50 9 3),.g 46 false (.ld 51 1 false 50),.g 46 false (.len 52 51),.g 46 false (.bin 53 .neq 49 52),.pick 54 46 (kB true) 53,.mv 55 54,.g 55 false (.fa 56 8 2),.g 55 false (.ld 57 1 false 56),.g 55 false (.fa 58 8 3),.g 55 false (.ld 59 1 false 58),.g 55 false (.call (some 60) 58 [57,59]),.g 55 false (.not 61 60),.pick 62 55 (kB true) 61]) (.cond 62 (.seq (.ops [.asg 4 (kB false)]) .ret) .skip)) (.seq (.seq (.ops [.asg 5 (kI 0)]) (.block 0 aMe)) aSx)))
theorem bHc:aV Tryz.prog 60=some (bF9,[.mv 0 4],82):=by kernel_rfl
def aPx (r:Bool):Exit→St→Prop:=aU [.mv 0 4] fun x _=>x=(fun y=>(vB y)) r
def cAh (r:Bool):Exit→St→Prop:=(bF (wkK (avc Tryz.prog aSx (aPx r))) (aPx r))
def bRd (r:Bool):Exit→St→Prop:=(bG 0 (cAh r))
def bS3 (p0:aA) (p1:aA) (x5:Int):St:=⟨[(2,(.ptr 2 0)),(3,(.ptr 3 0)),(5,(vI x5))],[(2,mW p0),(3,mW p1)]⟩
abbrev aDz (p0:aA) (p1:aA) (x5:Int) (r:Bool):Prop:=avc Tryz.prog aMe (bRd r) (bS3 p0 p1 x5)
def cD4:AC:=(.seq (.ops [.box 2 39 0,.box 3 45 1,.asg 4 (kB false)]) (.seq (.seq (.ops [.ld 7 1 true 2,.call (some 8) 18 [7],.not 9 8,.mv 10 9,.g 10 false (.ld 11 8 true 3),.g 10 false (.call (some 12) 51 [11]),.g 10 false (.bin 13 .gtr 12 (kI 24)),.pick 14 10 (kB true) 13,.mv 15 14,.g 15 false (.ld 16 8 true 3),.g 15 false (.call (some 17) 52 [16]),.g 15 false (.bin 18 .gtr 17 (kI 200)),.pick 19 15 (kB true) 18]) (.cond 19 (.seq (.ops [.asg 4 (kB false)]) .ret) .skip)) (.seq (.ops [.ld 21 1 true 2,.ld 22 8 true 3,.call (some 23) 53 [21,(.c (.nil 1)),22],.mv 20 23,.ext 24 20 0,.ext 25 20 1,.asg 5 24,.asg 6 25]) (.seq (.ops [.mv 26 6,.asg 4 26]) .ret))))
theorem bGp:aV Tryz.prog 17=some (cD4,[.mv 0 4],27):=by kernel_rfl
def cFi (r:Bool):Exit→St→Prop:=aU [.mv 0 4] fun x _=>x=(fun y=>(vB y)) r
def aN9:AC:=(.loop (.seq (.seq (.ops [.mv 8 5,.mv 9 4,.len 10 9,.bin 11 .lss 8 10]) (.cond 11 .skip (.exit 0))) (.seq (.block 1 (.ops [.mv 14 3,.mv 15 4,.mv 16 5,.ia 17 10 15 16,.ld 18 10 true 17,.call (some 19) 63 [18],.call (some 20) 95 [14,19],.asg 3 20])) (.ops [.mv 12 5,.bin 13 .add 12 (kI 1),.asg 5 13]))))
def aPo:AC:=(.seq (.ops [.mv 21 3,.asg 2 21]) .ret)
def bZq:AC:=(.seq (.ops [.box 1 45 0,.asg 2 (kI 0)]) (.seq (.ops [.asg 3 (kI 0)]) (.seq (.ops [.ld 6 8 true 1,.call (some 7) 94 [6],.asg 4 7]) (.seq (.seq (.ops [.asg 5 (kI 0)]) (.block 0 aN9)) aPo))))
theorem bZ5:aV Tryz.prog 51=some (bZq,[.mv 0 2],22):=by kernel_rfl
def aQ9 (r:Int):Exit→St→Prop:=aU [.mv 0 2] fun x _=>x=(fun y=>(vI y)) r
def bFf (r:Int):Exit→St→Prop:=(bF (wkK (avc Tryz.prog aPo (aQ9 r))) (aQ9 r))
def bUd (r:Int):Exit→St→Prop:=(bG 0 (bFf r))
def bNg (y1:(List aA)) (x3:Int) (x5:Int):St:=⟨[(3,(vI x3)),(4,(.osl 4 108 10 (y1.map aZ))),(5,(vI x5))],[]⟩
abbrev aDt (y1:(List aA)) (x3:Int) (x5:Int) (r:Int):Prop:=avc Tryz.prog aN9 (bUd r) (bNg y1 x3 x5)
def bJs:AC:=(.seq (.ops [.asg 4 (kI 0)]) (.seq (.seq (.ops [.mv 5 0,.mv 6 1,.bin 7 .gtr 5 6]) (.cond 7 (.seq (.ops [.mv 8 0,.asg 4 8]) .ret) .skip)) (.seq (.ops [.mv 9 1,.asg 4 9]) .ret)))
theorem bB6:aV Tryz.prog 95=some (bJs,[.mv 0 4],10):=by kernel_rfl
def cGj (r:Int):Exit→St→Prop:=aU [.mv 0 4] fun x _=>x=(fun y=>(vI y)) r
def aL5:AC:=(.loop (.seq (.seq (.ops [.mv 7 4,.fa 8 1 1,.ld 9 1 false 8,.len 10 9,.bin 11 .lss 7 10]) (.cond 11 .skip (.exit 0))) (.seq (.block 1 (.ops [.mv 14 3,.fa 15 1 1,.ld 16 1 false 15,.mv 17 4,.ia 18 1 16 17,.ld 19 1 false 18,.app 20 108 10 120 14 19,.asg 3 20])) (.ops [.mv 12 4,.bin 13 .add 12 (kI 1),.asg 4 13]))))
def aOh:AC:=(.loop (.seq (.seq (.ops [.mv 25 5,.fa 26 3 1,.ld 27 1 false 26,.len 28 27,.bin 29 .lss 25 28]) (.cond 29 .skip (.exit 2))) (.seq (.block 3 (.ops [.mv 32 3,.fa 33 3 1,.ld 34 1 false 33,.mv 35 5,.ia 36 11 34 35,.fa 37 0 36,.ld 38 10 true 37,.bsl 39 108 10 [38],.app 40 108 10 120 32 39,.asg 3 40])) (.ops [.mv 30 5,.bin 31 .add 30 (kI 1),.asg 5 31]))))
def aUz:AC:=(.seq (.ops [.mv 41 3,.fa 42 4 1,.ld 43 1 false 42,.app 44 108 10 120 41 43,.asg 2 44]) .ret)
def aVk:AC:=(.seq (.ops [.mv 21 3,.fa 22 2 1,.ld 23 1 false 22,.app 24 108 10 120 21 23,.asg 3 24]) (.seq (.seq (.ops [.asg 5 (kI 0)]) (.block 2 aOh)) aUz))
def bCt:AC:=(.seq (.ops [.box 1 45 0,.asg 2 (.c (.nil 10))]) (.seq (.ops [.bsl 6 108 10 [],.asg 3 6]) (.seq (.seq (.ops [.asg 4 (kI 0)]) (.block 0 aL5)) aVk)))
theorem bQg:aV Tryz.prog 94=some (bCt,[.mv 0 2],45):=by kernel_rfl
def aG4 (r:(List aA)):Exit→St→Prop:=aU [.mv 0 2] fun x b=>x=(fun (y:(List aA))=>(.osl 2000000 108 10 (y.map aZ))) r∧eB ((fun (y:(List aA))=>[]) r) b
def bXr (r:(List aA)):Exit→St→Prop:=(bF (wkK (avc Tryz.prog aVk (aG4 r))) (aG4 r))
def bOy (r:(List aA)):Exit→St→Prop:=(bG 0 (bXr r))
def bL9 (r:(List aA)):Exit→St→Prop:=(bF (wkK (avc Tryz.prog aUz (aG4 r))) (aG4 r))
def bVy (r:(List aA)):Exit→St→Prop:=(bG 2 (bL9 r))
def bId (p0:aB) (x3:(List aA)) (x4:Int):St:=⟨[(1,(.ptr 1 0)),(3,(.osl 3 108 10 (x3.map aZ))),(4,(vI x4))],[(1,jG p0)]⟩
abbrev aDp (p0:aB) (x3:(List aA)) (x4:Int) (r:(List aA)):Prop:=avc Tryz.prog aL5 (bOy r) (bId p0 x3 x4)
def bD1 (p0:aB) (dD:(List aA)) (x5:Int):St:=⟨[(1,(.ptr 1 0)),(3,(.osl 3 108 10 (dD.map aZ))),(5,(vI x5))],[(1,jG p0)]⟩
abbrev aGj (p0:aB) (dD:(List aA)) (x5:Int) (r:(List aA)):Prop:=avc Tryz.prog aOh (bVy r) (bD1 p0 dD x5)
def aM5:AC:=(.loop (.seq (.seq (.ops [.mv 6 4,.fa 7 8 1,.ld 8 1 false 7,.len 9 8,.bin 10 .lss 6 9]) (.cond 10 .skip (.exit 0))) (.seq (.block 1 (.ops [.mv 13 3,.fa 14 8 1,.ld 15 1 false 14,.mv 16 4,.ia 17 10 15 16,.ld 18 10 true 17,.call (some 19) 63 [18],.call (some 20) 95 [13,19],.asg 3 20])) (.ops [.mv 11 4,.bin 12 .add 11 (kI 1),.asg 4 12]))))
def aIk:AC:=(.loop (.seq (.seq (.ops [.mv 21 5,.fa 22 9 1,.ld 23 1 false 22,.len 24 23,.bin 25 .lss 21 24]) (.cond 25 .skip (.exit 2))) (.seq (.block 3 (.ops [.mv 28 3,.fa 29 9 1,.ld 30 1 false 29,.mv 31 5,.ia 32 8 30 31,.ld 33 8 true 32,.call (some 34) 51 [33],.call (some 35) 95 [28,34],.asg 3 35])) (.ops [.mv 26 5,.bin 27 .add 26 (kI 1),.asg 5 27]))))
def aXw:AC:=(.seq (.ops [.mv 36 3,.bin 37 .add 36 (kI 1),.asg 2 37]) .ret)
def aUf:AC:=(.seq (.seq (.ops [.asg 5 (kI 0)]) (.block 2 aIk)) aXw)
def bYl:AC:=(.seq (.ops [.box 1 108 0,.asg 2 (kI 0)]) (.seq (.ops [.asg 3 (kI 0)]) (.seq (.seq (.ops [.asg 4 (kI 0)]) (.block 0 aM5)) aUf)))
theorem bJa:aV Tryz.prog 63=some (bYl,[.mv 0 2],38):=by kernel_rfl
def aFc (r:Int):Exit→St→Prop:=aU [.mv 0 2] fun x _=>x=(fun y=>(vI y)) r
def bGu (r:Int):Exit→St→Prop:=(bF (wkK (avc Tryz.prog aUf (aFc r))) (aFc r))
def bDg (r:Int):Exit→St→Prop:=(bG 0 (bGu r))
def bC1 (r:Int):Exit→St→Prop:=(bF (wkK (avc Tryz.prog aXw (aFc r))) (aFc r))
def cAs (r:Int):Exit→St→Prop:=(bG 2 (bC1 r))
def bMo (p0:aA) (x3:Int) (x4:Int):St:=⟨[(1,(.ptr 1 0)),(3,(vI x3)),(4,(vI x4))],[(1,mW p0)]⟩
abbrev aCj (p0:aA) (x3:Int) (x4:Int) (r:Int):Prop:=avc Tryz.prog aM5 (bDg r) (bMo p0 x3 x4)
def bIj (p0:aA) (dD:Int) (x5:Int):St:=⟨[(1,(.ptr 1 0)),(3,(vI dD)),(5,(vI x5))],[(1,mW p0)]⟩
abbrev aGf (p0:aA) (dD:Int) (x5:Int) (r:Int):Prop:=avc Tryz.prog aIk (cAs r) (bIj p0 dD x5)
def aHo:AC:=(.loop (.seq (.seq (.ops [.mv 41 5,.fa 42 1 4,.ld 43 1 false 42,.len 44 43,.bin 45 .lss 41 44]) (.cond 45 .skip (.exit 2))) (.seq (.block 3 (.seq (.dops [[],[0],[],[1,2],[3],[4],[5],[6],[7,6],[8],[8],[10,8],[8],[11,12,8],[13,8],[14,8],[9,15,8,8],[8],[16,17,8],[8,18],[19,16],[20],[21,20],[20],[22,23,20],[24,20],[25,20],[26,20,20],[27,20],[20,28]] [.fa 48 1 4,.ld 49 1 false 48,.mv 50 5,.ia 51 2 49 50,.fa 52 0 51,.ld 53 1 false 52,.call (some 54) 54 [53],.not 55 54,.mv 56 55,.g 56 false (.ld 57 2 true 4),.g 56 false (.fa 58 1 4),.g 56 false (.ld 59 1 false 58),.g 56 false (.mv 60 5),.g 56 false (.ia 61 2 59 60),.g 56 false (.fa 62 0 61),.g 56 false (.ld 63 1 false 62),.g 56 false (.call (some 64) 56 [57,63]),.g 56 false (.mv 65 5),.g 56 false (.bin 66 .neq 64 65),.pick 67 56 (kB true) 66,.mv 68 67,.g 68 false (.fa 69 1 4),.g 68 false (.ld 70 1 false 69),.g 68 false (.mv 71 5),.g 68 false (.ia 72 2 70 71),.g 68 false (.fa 73 1 72),.g 68 false (.ld 74 1 false 73),.g 68 false (.call (some 75) 19 [74,(kI 1),(kI 3)]),.g 68 false (.not 76 75),.pick 77 68 (kB true) 76]) (.cond 77 (.seq (.ops [.asg 2 (kB false)]) .ret) .skip))) (.ops [.mv 46 5,.bin 47 .add 46 (kI 1),.asg 5 47]))))
def aQ0:AC:=(.ops [.mv 15 3,.bin 16 .add 15 (kI 1),.asg 3 16])
def aC4:AC:=(.loop (.seq (.seq (.ops [.mv 10 3,.fa 11 0 1,.ld 12 1 false 11,.len 13 12,.bin 14 .lss 10 13]) (.cond 14 .skip (.exit 0))) (.seq (.block 1 (.seq (.ops [.fa 17 0 1,.ld 18 1 false 17,.mv 19 3,.ia 20 2 18 19,.ld 21 2 true 20,.alc 4 [fU,(.nil 2)],.st 2 4 21]) (.seq (.seq (.ops [.fa 22 0 4,.ld 23 1 false 22,.call (some 24) 54 [23],.not 25 24,.mv 26 25,.g 26 false (.ld 27 1 true 1),.g 26 false (.fa 28 0 4),.g 26 false (.ld 29 1 false 28),.g 26 false (.call (some 30) 55 [27,29]),.g 26 false (.mv 31 3),.g 26 false (.bin 32 .neq 30 31),.pick 33 26 (kB true) 32,.mv 34 33,.g 34 false (.fa 35 1 4),.g 34 false (.ld 36 1 false 35),.g 34 false (.len 37 36),.g 34 false (.call (some 38) 19 [37,(kI 1),(kI 4)]),.g 34 false (.not 39 38),.pick 40 34 (kB true) 39]) (.cond 40 (.seq (.ops [.asg 2 (kB false)]) .ret) .skip)) (.seq (.ops [.asg 5 (kI 0)]) (.block 2 aHo))))) aQ0)))
def aV1:AC:=(.seq (.ops [.asg 2 (kB true)]) .ret)
def bVu:AC:=(.seq (.ops [.box 1 39 0,.asg 2 (kB false)]) (.seq (.seq (.ops [.fa 6 0 1,.ld 7 1 false 6,.len 8 7,.bin 9 .gtr 8 (kI 4)]) (.cond 9 (.seq (.ops [.asg 2 (kB false)]) .ret) .skip)) (.seq (.seq (.ops [.asg 3 (kI 0)]) (.block 0 aC4)) aV1)))
theorem bFe:aV Tryz.prog 18=some (bVu,[.mv 0 2],78):=by kernel_rfl
def aU3 (r:Bool):Exit→St→Prop:=aU [.mv 0 2] fun x _=>x=(fun y=>(vB y)) r
def bE8 (r:Bool):Exit→St→Prop:=(bF (wkK (avc Tryz.prog aV1 (aU3 r))) (aU3 r))
def aK0 (r:Bool):Exit→St→Prop:=(bG 0 (bE8 r))
def aSc (r:Bool):Exit→St→Prop:=(bF (avc Tryz.prog aC4 (aK0 r)) (aK0 r))
def bTv (r:Bool):Exit→St→Prop:=(bF (wkK (avc Tryz.prog aQ0 (aSc r))) (aSc r))
def bI6 (r:Bool):Exit→St→Prop:=(bG 1 (bTv r))
def bCf (r:Bool):Exit→St→Prop:=(bG 2 (bI6 r))
def aXd (p0:aJ) (x3:Int):St:=⟨[(1,(.ptr 1 0)),(3,(vI x3))],[(1,dJ p0)]⟩
abbrev aC2 (p0:aJ) (x3:Int) (r:Bool):Prop:=avc Tryz.prog aC4 (aK0 r) (aXd p0 x3)
def bCd (x3:Int) (p0:aJ) (y1:bD) (x5:Int):St:=⟨[(1,(.ptr 1 0)),(3,(vI x3)),(4,(.ptr 4 0)),(5,(vI x5))],[(1,dJ p0),(4,Z8 y1)]⟩
abbrev aCz (x3:Int) (p0:aJ) (y1:bD) (x5:Int) (r:Bool):Prop:=avc Tryz.prog aHo (bCf r) (bCd x3 p0 y1 x5)
def aN5:AC:=(.loop (.seq (.seq (.ops [.mv 6 5,.fa 7 1 2,.ld 8 1 false 7,.len 9 8,.bin 10 .lss 6 9]) (.cond 10 .skip (.exit 0))) (.seq (.block 1 (.seq (.ops [.fa 13 1 2,.ld 14 1 false 13,.mv 15 5,.ia 16 2 14 15,.fa 17 0 16,.ld 18 1 false 17,.mv 19 1,.bin 20 .eql 18 19]) (.cond 20 (.seq (.ops [.mv 21 5,.asg 4 21]) .ret) .skip))) (.ops [.mv 11 5,.bin 12 .add 11 (kI 1),.asg 5 12]))))
def aR2:AC:=(.seq (.ops [.asg 4 (kI (-1))]) .ret)
def cB4:AC:=(.seq (.ops [.box 2 65 0,.asg 4 (kI 0)]) (.seq (.seq (.ops [.asg 5 (kI 0)]) (.block 0 aN5)) aR2))
theorem bGz:aV Tryz.prog 56=some (cB4,[.mv 0 4],22):=by kernel_rfl
def aZt (r:Int):Exit→St→Prop:=aU [.mv 0 4] fun x _=>x=(fun y=>(vI y)) r
def bG3 (r:Int):Exit→St→Prop:=(bF (wkK (avc Tryz.prog aR2 (aZt r))) (aZt r))
def bZc (r:Int):Exit→St→Prop:=(bG 0 (bG3 r))
def bS5 (p1:(List UInt8)) (p0:bD) (x5:Int):St:=⟨[(1,(vS p1)),(2,(.ptr 2 0)),(5,(vI x5))],[(2,Z8 p0)]⟩
abbrev aGi (p1:(List UInt8)) (p0:bD) (x5:Int) (r:Int):Prop:=avc Tryz.prog aN5 (bZc r) (bS5 p1 p0 x5)
def aMs:AC:=(.loop (.seq (.seq (.ops [.mv 6 5,.fa 7 0 2,.ld 8 1 false 7,.len 9 8,.bin 10 .lss 6 9]) (.cond 10 .skip (.exit 0))) (.seq (.block 1 (.seq (.ops [.fa 13 0 2,.ld 14 1 false 13,.mv 15 5,.ia 16 2 14 15,.fa 17 0 16,.ld 18 1 false 17,.mv 19 1,.bin 20 .eql 18 19]) (.cond 20 (.seq (.ops [.mv 21 5,.asg 4 21]) .ret) .skip))) (.ops [.mv 11 5,.bin 12 .add 11 (kI 1),.asg 5 12]))))
def aZ0:AC:=(.seq (.ops [.asg 4 (kI (-1))]) .ret)
def bVp:AC:=(.seq (.ops [.box 2 39 0,.asg 4 (kI 0)]) (.seq (.seq (.ops [.asg 5 (kI 0)]) (.block 0 aMs)) aZ0))
theorem bL3:aV Tryz.prog 55=some (bVp,[.mv 0 4],22):=by kernel_rfl
def aZd (r:Int):Exit→St→Prop:=aU [.mv 0 4] fun x _=>x=(fun y=>(vI y)) r
def bVn (r:Int):Exit→St→Prop:=(bF (wkK (avc Tryz.prog aZ0 (aZd r))) (aZd r))
def bK3 (r:Int):Exit→St→Prop:=(bG 0 (bVn r))
def bW2 (p1:(List UInt8)) (p0:aJ) (x5:Int):St:=⟨[(1,(vS p1)),(2,(.ptr 2 0)),(5,(vI x5))],[(2,dJ p0)]⟩
abbrev aB9 (p1:(List UInt8)) (p0:aJ) (x5:Int) (r:Int):Prop:=avc Tryz.prog aMs (bK3 r) (bW2 p1 p0 x5)
def aIa:AC:=(.loop (.seq (.seq (.ops [.mv 8 5,.mv 9 4,.len 10 9,.bin 11 .lss 8 10]) (.cond 11 .skip (.exit 0))) (.seq (.block 1 (.ops [.mv 14 3,.mv 15 4,.mv 16 5,.ia 17 10 15 16,.ld 18 10 true 17,.call (some 19) 62 [18],.bin 20 .add 14 19,.asg 3 20])) (.ops [.mv 12 5,.bin 13 .add 12 (kI 1),.asg 5 13]))))
def aQn:AC:=(.seq (.ops [.mv 21 3,.asg 2 21]) .ret)
def bV4:AC:=(.seq (.ops [.box 1 45 0,.asg 2 (kI 0)]) (.seq (.ops [.asg 3 (kI 0)]) (.seq (.ops [.ld 6 8 true 1,.call (some 7) 94 [6],.asg 4 7]) (.seq (.seq (.ops [.asg 5 (kI 0)]) (.block 0 aIa)) aQn))))
theorem bIq:aV Tryz.prog 52=some (bV4,[.mv 0 2],22):=by kernel_rfl
def aOl (r:Int):Exit→St→Prop:=aU [.mv 0 2] fun x _=>x=(fun y=>(vI y)) r
def bF8 (r:Int):Exit→St→Prop:=(bF (wkK (avc Tryz.prog aQn (aOl r))) (aOl r))
def bQ8 (r:Int):Exit→St→Prop:=(bG 0 (bF8 r))
def bIe (y1:(List aA)) (x3:Int) (x5:Int):St:=⟨[(3,(vI x3)),(4,(.osl 4 108 10 (y1.map aZ))),(5,(vI x5))],[]⟩
abbrev aD9 (y1:(List aA)) (x3:Int) (x5:Int) (r:Int):Prop:=avc Tryz.prog aIa (bQ8 r) (bIe y1 x3 x5)
def aLr:AC:=(.loop (.seq (.seq (.ops [.mv 6 4,.fa 7 8 1,.ld 8 1 false 7,.len 9 8,.bin 10 .lss 6 9]) (.cond 10 .skip (.exit 0))) (.seq (.block 1 (.ops [.mv 13 3,.fa 14 8 1,.ld 15 1 false 14,.mv 16 4,.ia 17 10 15 16,.ld 18 10 true 17,.call (some 19) 62 [18],.bin 20 .add 13 19,.asg 3 20])) (.ops [.mv 11 4,.bin 12 .add 11 (kI 1),.asg 4 12]))))
def aMp:AC:=(.loop (.seq (.seq (.ops [.mv 21 5,.fa 22 9 1,.ld 23 1 false 22,.len 24 23,.bin 25 .lss 21 24]) (.cond 25 .skip (.exit 2))) (.seq (.block 3 (.ops [.mv 28 3,.fa 29 9 1,.ld 30 1 false 29,.mv 31 5,.ia 32 8 30 31,.ld 33 8 true 32,.call (some 34) 52 [33],.bin 35 .add 28 34,.asg 3 35])) (.ops [.mv 26 5,.bin 27 .add 26 (kI 1),.asg 5 27]))))
def aOz:AC:=(.seq (.ops [.mv 36 3,.asg 2 36]) .ret)
def aTk:AC:=(.seq (.seq (.ops [.asg 5 (kI 0)]) (.block 2 aMp)) aOz)
def bQw:AC:=(.seq (.ops [.box 1 108 0,.asg 2 (kI 0)]) (.seq (.ops [.asg 3 (kI 1)]) (.seq (.seq (.ops [.asg 4 (kI 0)]) (.block 0 aLr)) aTk)))
theorem bUu:aV Tryz.prog 62=some (bQw,[.mv 0 2],37):=by kernel_rfl
def aEp (r:Int):Exit→St→Prop:=aU [.mv 0 2] fun x _=>x=(fun y=>(vI y)) r
def bXd (r:Int):Exit→St→Prop:=(bF (wkK (avc Tryz.prog aTk (aEp r))) (aEp r))
def cD8 (r:Int):Exit→St→Prop:=(bG 0 (bXd r))
def bV2 (r:Int):Exit→St→Prop:=(bF (wkK (avc Tryz.prog aOz (aEp r))) (aEp r))
def bP6 (r:Int):Exit→St→Prop:=(bG 2 (bV2 r))
def bYf (p0:aA) (x3:Int) (x4:Int):St:=⟨[(1,(.ptr 1 0)),(3,(vI x3)),(4,(vI x4))],[(1,mW p0)]⟩
abbrev aEe (p0:aA) (x3:Int) (x4:Int) (r:Int):Prop:=avc Tryz.prog aLr (cD8 r) (bYf p0 x3 x4)
def bKd (p0:aA) (jE:Int) (x5:Int):St:=⟨[(1,(.ptr 1 0)),(3,(vI jE)),(5,(vI x5))],[(1,mW p0)]⟩
abbrev aDg (p0:aA) (jE:Int) (x5:Int) (r:Int):Prop:=avc Tryz.prog aMp (bP6 r) (bKd p0 jE x5)
def aL4:AC:=(.loop (.seq (.seq (.ops [.mv 8 5,.mv 9 3,.len 10 9,.bin 11 .lss 8 10]) (.cond 11 .skip (.exit 0))) (.seq (.block 1 (.seq (.ops [.mv 14 4,.mv 15 3,.mv 16 5,.ia 17 10 15 16,.ld 18 10 true 17,.call (some 19) 62 [18],.bin 20 .add 14 19,.asg 4 20]) (.seq (.ops [.mv 21 3,.mv 22 5,.ia 23 10 21 22,.ld 24 10 true 23,.call (some 25) 63 [24],.bin 26 .gtr 25 (kI 24)]) (.cond 26 (.seq (.ops [.asg 2 (kB false)]) .ret) .skip)))) (.ops [.mv 12 5,.bin 13 .add 12 (kI 1),.asg 5 13]))))
def aU4:AC:=(.seq (.ops [.mv 27 4,.bin 28 .leq 27 (kI 200),.asg 2 28]) .ret)
def cD1:AC:=(.seq (.ops [.box 1 47 0,.asg 2 (kB false)]) (.seq (.ops [.ld 6 14 true 1,.call (some 7) 61 [6],.asg 3 7]) (.seq (.ops [.asg 4 (kI 0)]) (.seq (.seq (.ops [.asg 5 (kI 0)]) (.block 0 aL4)) aU4))))
theorem bF4:aV Tryz.prog 21=some (cD1,[.mv 0 2],29):=by kernel_rfl
def aVb (r:Bool):Exit→St→Prop:=aU [.mv 0 2] fun x _=>x=(fun y=>(vB y)) r
def bPl (r:Bool):Exit→St→Prop:=(bF (wkK (avc Tryz.prog aU4 (aVb r))) (aVb r))
def bKq (r:Bool):Exit→St→Prop:=(bG 0 (bPl r))
def bY2 (y1:(List aA)) (x4:Int) (x5:Int):St:=⟨[(3,(.osl 3 108 10 (y1.map aZ))),(4,(vI x4)),(5,(vI x5))],[]⟩
abbrev aFm (y1:(List aA)) (x4:Int) (x5:Int) (r:Bool):Prop:=avc Tryz.prog aL4 (bKq r) (bY2 y1 x4 x5)
def aKq:AC:=(.loop (.seq (.seq (.ops [.mv 6 4,.fa 7 10 1,.ld 8 1 false 7,.len 9 8,.bin 10 .lss 6 9]) (.cond 10 .skip (.exit 0))) (.seq (.block 1 (.ops [.mv 13 3,.fa 14 10 1,.ld 15 1 false 14,.mv 16 4,.ia 17 1 15 16,.ld 18 1 false 17,.app 19 108 10 120 13 18,.asg 3 19])) (.ops [.mv 11 4,.bin 12 .add 11 (kI 1),.asg 4 12]))))
def aVe:AC:=(.seq (.ops [.mv 20 3,.fa 21 12 1,.ld 22 1 false 21,.app 23 108 10 120 20 22,.asg 3 23]) (.seq (.ops [.mv 24 3,.fa 25 13 1,.ld 26 1 false 25,.app 27 108 10 120 24 26,.asg 2 27]) .ret))
def bGv:AC:=(.seq (.ops [.box 1 47 0,.asg 2 (.c (.nil 10))]) (.seq (.ops [.bsl 5 108 10 [],.asg 3 5]) (.seq (.seq (.ops [.asg 4 (kI 0)]) (.block 0 aKq)) aVe)))
theorem bEe:aV Tryz.prog 61=some (bGv,[.mv 0 2],28):=by kernel_rfl
def aVd (r:(List aA)):Exit→St→Prop:=aU [.mv 0 2] fun x b=>x=(fun (y:(List aA))=>(.osl 2000000 108 10 (y.map aZ))) r∧eB ((fun (y:(List aA))=>[]) r) b
def bKl (r:(List aA)):Exit→St→Prop:=(bF (wkK (avc Tryz.prog aVe (aVd r))) (aVd r))
def bJm (r:(List aA)):Exit→St→Prop:=(bG 0 (bKl r))
def bLr (p0:bM) (x3:(List aA)) (x4:Int):St:=⟨[(1,(.ptr 1 0)),(3,(.osl 3 108 10 (x3.map aZ))),(4,(vI x4))],[(1,K8 p0)]⟩
abbrev aCc (p0:bM) (x3:(List aA)) (x4:Int) (r:(List aA)):Prop:=avc Tryz.prog aKq (bJm r) (bLr p0 x3 x4)
def aIg:AC:=(.loop (.seq (.seq (.ops [.mv 23 8,.fa 24 11 4,.ld 25 1 false 24,.len 26 25,.bin 27 .lss 23 26]) (.cond 27 .skip (.exit 0))) (.seq (.block 1 (.seq (.dops [[],[0],[],[1,2],[3],[],[5],[6],[4,7],[8],[9,8],[10],[11,10],[10],[12,13,10],[10],[15,10],[10],[16,17,10],[18,10],[14,19,10,10],[10,20],[21,20],[22],[22],[22],[25,22],[22],[26,27,22],[28,22],[22],[22],[31,22],[22],[32,33,22],[34,22],[30,35,22],[36,22],[23,24,29,37,22,22],[38,22],[22,39]] [.fa 30 11 4,.ld 31 1 false 30,.mv 32 8,.ia 33 1 31 32,.ld 34 1 false 33,.mv 35 7,.len 36 35,.bin 37 .sub 36 (kI 1),.call (some 38) 19 [34,(kI 0),37],.not 39 38,.mv 40 39,.g 40 false (.fa 41 11 4),.g 40 false (.ld 42 1 false 41),.g 40 false (.mv 43 8),.g 40 false (.slc 44 1 42 none (some 43) none),.g 40 false (.fa 45 11 4),.g 40 false (.ld 46 1 false 45),.g 40 false (.mv 47 8),.g 40 false (.ia 48 1 46 47),.g 40 false (.ld 49 1 false 48),.g 40 false (.call (some 50) 67 [44,49]),.pick 51 40 (kB true) 50,.mv 52 51,.g 52 false (.ld 53 1 true 3),.g 52 false (.mv 54 2),.g 52 false (.fa 55 12 4),.g 52 false (.ld 56 1 false 55),.g 52 false (.mv 57 8),.g 52 false (.ia 58 10 56 57),.g 52 false (.ld 59 10 true 58),.g 52 false (.mv 60 7),.g 52 false (.fa 61 11 4),.g 52 false (.ld 62 1 false 61),.g 52 false (.mv 63 8),.g 52 false (.ia 64 1 62 63),.g 52 false (.ld 65 1 false 64),.g 52 false (.ia 66 1 60 65),.g 52 false (.ld 67 1 false 66),.g 52 false (.call (some 68) 64 [53,54,59,67]),.g 52 false (.not 69 68),.pick 70 52 (kB true) 69]) (.cond 70 (.seq (.ops [.asg 6 (kB false)]) .ret) .skip))) (.ops [.mv 28 8,.bin 29 .add 28 (kI 1),.asg 8 29]))))
def aS4:AC:=(.seq (.ops [.asg 6 (kB true)]) .ret)
def bOk:AC:=(.seq (.ops [.box 3 39 0,.box 4 47 1,.asg 6 (kB false)]) (.seq (.ops [.fa 9 0 3,.ld 10 1 false 9,.fa 11 9 4,.ld 12 1 false 11,.ia 13 2 10 12,.ld 14 2 true 13,.call (some 15) 23 [14],.asg 7 15]) (.seq (.seq (.ops [.fa 16 11 4,.ld 17 1 false 16,.len 18 17,.fa 19 12 4,.ld 20 1 false 19,.len 21 20,.bin 22 .neq 18 21]) (.cond 22 (.seq (.ops [.asg 6 (kB false)]) .ret) .skip)) (.seq (.seq (.ops [.asg 8 (kI 0)]) (.block 0 aIg)) aS4))))
theorem bEv:aV Tryz.prog 25=some (bOk,[.mv 0 6],71):=by kernel_rfl
def aZn (r:Bool):Exit→St→Prop:=aU [.mv 0 6] fun x _=>x=(fun y=>(vB y)) r
def bP7 (r:Bool):Exit→St→Prop:=(bF (wkK (avc Tryz.prog aS4 (aZn r))) (aZn r))
def bPq (r:Bool):Exit→St→Prop:=(bG 0 (bP7 r))
def bI3 (p2:(List (List Int))) (y2:(List Int)) (p0:aJ) (p1:bM) (x8:Int):St:=⟨[(2,(.d (.sl 1 (p2.map (cSl 1 cI))))),(3,(.ptr 3 0)),(4,(.ptr 4 0)),(7,(.osl 7 3 1 (y2.map cI))),(8,(vI x8))],[(3,dJ p0),(4,K8 p1)]⟩
abbrev aEx (p2:(List (List Int))) (y2:(List Int)) (p0:aJ) (p1:bM) (x8:Int) (r:Bool):Prop:=avc Tryz.prog aIg (bPq r) (bI3 p2 y2 p0 p1 x8)
def aKc:AC:=(.loop (.seq (.seq (.ops [.mv 6 5,.mv 7 0,.len 8 7,.bin 9 .lss 6 8]) (.cond 9 .skip (.exit 0))) (.seq (.block 1 (.seq (.ops [.mv 12 0,.mv 13 5,.ia 14 1 12 13,.ld 15 1 false 14,.mv 16 1,.bin 17 .eql 15 16]) (.cond 17 (.seq (.ops [.asg 4 (kB true)]) .ret) .skip))) (.ops [.mv 10 5,.bin 11 .add 10 (kI 1),.asg 5 11]))))
def aZo:AC:=(.seq (.ops [.asg 4 (kB false)]) .ret)
def cB8:AC:=(.seq (.ops [.asg 4 (kB false)]) (.seq (.seq (.ops [.asg 5 (kI 0)]) (.block 0 aKc)) aZo))
theorem bZ4:aV Tryz.prog 67=some (cB8,[.mv 0 4],18):=by kernel_rfl
def aVv (r:Bool):Exit→St→Prop:=aU [.mv 0 4] fun x _=>x=(fun y=>(vB y)) r
def bSo (r:Bool):Exit→St→Prop:=(bF (wkK (avc Tryz.prog aZo (aVv r))) (aVv r))
def bLu (r:Bool):Exit→St→Prop:=(bG 0 (bSo r))
def bAv (p0:(List Int)) (p1:Int) (x5:Int):St:=⟨[(0,(bX p0)),(1,(vI p1)),(5,(vI x5))],[]⟩
abbrev aDo (p0:(List Int)) (p1:Int) (x5:Int) (r:Bool):Prop:=avc Tryz.prog aKc (bLu r) (bAv p0 p1 x5)
def bW5:AC:=(.seq (.ops [.box 1 33 0,.alc 2 aOe]) (.seq (.ops [.alc 3 aOe]) (.seq (.ops [.fa 4 0 1,.ld 5 1 false 4,.fa 6 0 3,.st 1 6 5]) (.seq (.ops [.fa 7 1 1,.ld 8 8 true 7,.call (some 9) 27 [8],.fa 10 1 3,.st 8 10 9]) (.seq (.ops [.fa 11 9 1,.ld 12 1 false 11,.fa 13 9 3,.st 1 13 12]) (.seq (.ops [.fa 14 10 1,.ld 15 1 false 14,.call (some 16) 28 [15],.fa 17 10 3,.st 1 17 16]) (.seq (.ops [.fa 18 11 1,.ld 19 1 false 18,.call (some 20) 29 [19],.fa 21 11 3,.st 1 21 20]) (.seq (.ops [.fa 22 12 1,.ld 23 1 false 22,.call (some 24) 30 [23],.fa 25 12 3,.st 1 25 24]) (.seq (.ops [.fa 26 13 1,.ld 27 1 false 26,.call (some 28) 30 [27],.fa 29 13 3,.st 1 29 28]) (.seq (.ops [.ld 30 14 true 3,.st 14 2 30]) .ret))))))))))
theorem bEx:aV Tryz.prog 8=some (bW5,[.ld 0 14 true 2],31):=by kernel_rfl
def cDy (r:bM):Exit→St→Prop:=aU [.ld 0 14 true 2] fun x _=>x=(fun y=>(jF y)) r
def aM4:AC:=(.loop (.seq (.seq (.ops [.mv 8 4,.mv 9 0,.len 10 9,.bin 11 .lss 8 10]) (.cond 11 .skip (.exit 0))) (.seq (.block 1 (.ops [.mv 14 3,.mv 15 4,.mv 16 0,.mv 17 4,.ia 18 10 16 17,.ld 19 10 true 18,.call (some 20) 71 [19],.ia 21 10 14 15,.st 10 21 20])) (.ops [.mv 12 4,.bin 13 .add 12 (kI 1),.asg 4 13]))))
def aYn:AC:=(.seq (.ops [.mv 22 3,.asg 2 22]) .ret)
def bOd:AC:=(.seq (.ops [.asg 2 (.c (.nil 10))]) (.seq (.ops [.mv 5 0,.len 6 5,.mks 7 108 10 120 [(.i .i64 0),(.i .i64 0),(.b false),(.i .i64 0),(.i .i64 0),(.s (bs [])),(.i .i64 0),(.i .i64 0),(.sl 10 []),(.sl 8 [])] 6 6,.asg 3 7]) (.seq (.seq (.ops [.asg 4 (kI 0)]) (.block 0 aM4)) aYn)))
theorem bDh:aV Tryz.prog 30=some (bOd,[.mv 0 2],23):=by kernel_rfl
def aTn (r:(List aA)):Exit→St→Prop:=aU [.mv 0 2] fun x _=>x=(fun y=>(bN y)) r
def bUn (r:(List aA)):Exit→St→Prop:=(bF (wkK (avc Tryz.prog aYn (aTn r))) (aTn r))
def bGi (r:(List aA)):Exit→St→Prop:=(bG 0 (bUn r))
def bQu (p0:(List aA)) (x4:Int) (aR:(List aA)):St:=⟨[(0,(bN p0)),(3,(.msl 7 10 0 aR.length aR.length)),(4,(vI x4))],[(7,dI (aR.map aZ))]⟩
abbrev aF1 (p0:(List aA)) (x4:Int) (aR:(List aA)) (r:(List aA)):Prop:=avc Tryz.prog aM4 (bGi r) (bQu p0 x4 aR)
def bTh:AC:=(.seq (.ops [.box 1 95 0,.alc 2 pE]) (.seq (.ops [.alc 3 pE]) (.seq (.ops [.fa 4 0 1,.ld 5 1 false 4,.fa 6 0 3,.st 1 6 5]) (.seq (.ops [.fa 7 1 1,.ld 8 1 false 7,.fa 9 1 3,.st 1 9 8]) (.seq (.ops [.fa 10 2 1,.ld 11 1 false 10,.fa 12 2 3,.st 1 12 11]) (.seq (.ops [.fa 13 3 1,.ld 14 3 true 13,.call (some 15) 107 [14],.fa 16 3 3,.st 3 16 15]) (.seq (.ops [.fa 17 6 1,.ld 18 1 false 17,.fa 19 6 3,.st 1 19 18]) (.seq (.ops [.fa 20 7 1,.ld 21 1 false 20,.fa 22 7 3,.st 1 22 21]) (.seq (.ops [.fa 23 8 1,.ld 24 1 false 23,.call (some 25) 30 [24],.fa 26 8 3,.st 1 26 25]) (.seq (.ops [.fa 27 9 1,.ld 28 1 false 27,.call (some 29) 108 [28],.fa 30 9 3,.st 1 30 29]) (.seq (.ops [.ld 31 10 true 3,.st 10 2 31]) .ret)))))))))))
theorem bNf:aV Tryz.prog 71=some (bTh,[.ld 0 10 true 2],32):=by kernel_rfl
def cF4 (r:aA):Exit→St→Prop:=aU [.ld 0 10 true 2] fun x _=>x=(fun y=>(bS y)) r
def aKf:AC:=(.loop (.seq (.seq (.ops [.mv 8 4,.mv 9 0,.len 10 9,.bin 11 .lss 8 10]) (.cond 11 .skip (.exit 0))) (.seq (.block 1 (.ops [.mv 14 3,.mv 15 4,.mv 16 0,.mv 17 4,.ia 18 8 16 17,.ld 19 8 true 18,.call (some 20) 27 [19],.ia 21 8 14 15,.st 8 21 20])) (.ops [.mv 12 4,.bin 13 .add 12 (kI 1),.asg 4 13]))))
def aQf:AC:=(.seq (.ops [.mv 22 3,.asg 2 22]) .ret)
def bE0:AC:=(.seq (.ops [.asg 2 (.c (.nil 8))]) (.seq (.ops [.mv 5 0,.len 6 5,.mks 7 45 8 160 [(.sl 1 []),(.sl 1 []),(.sl 10 []),(.sl 11 []),(.sl 10 []),(.sl 1 []),(.b false),(.i .i64 0)] 6 6,.asg 3 7]) (.seq (.seq (.ops [.asg 4 (kI 0)]) (.block 0 aKf)) aQf)))
theorem bBx:aV Tryz.prog 108=some (bE0,[.mv 0 2],23):=by kernel_rfl
def aSf (r:(List aB)):Exit→St→Prop:=aU [.mv 0 2] fun x _=>x=(fun y=>(eG y)) r
def bKs (r:(List aB)):Exit→St→Prop:=(bF (wkK (avc Tryz.prog aQf (aSf r))) (aSf r))
def bYb (r:(List aB)):Exit→St→Prop:=(bG 0 (bKs r))
def cCz (p0:(List aB)) (x4:Int) (aR:(List aB)):St:=⟨[(0,(eG p0)),(3,(.msl 7 8 0 aR.length aR.length)),(4,(vI x4))],[(7,dI (aR.map gY))]⟩
abbrev aD3 (p0:(List aB)) (x4:Int) (aR:(List aB)) (r:(List aB)):Prop:=avc Tryz.prog aKf (bYb r) (cCz p0 x4 aR)
def bJ3:AC:=(.seq (.ops [.box 1 31 0,.alc 2 xG]) (.seq (.ops [.alc 3 xG]) (.seq (.ops [.fa 4 0 1,.ld 5 1 false 4,.call (some 6) 29 [5],.fa 7 0 3,.st 1 7 6]) (.seq (.ops [.fa 8 1 1,.ld 9 1 false 8,.call (some 10) 28 [9],.fa 11 1 3,.st 1 11 10]) (.seq (.ops [.fa 12 2 1,.ld 13 1 false 12,.call (some 14) 30 [13],.fa 15 2 3,.st 1 15 14]) (.seq (.ops [.fa 16 3 1,.ld 17 1 false 16,.call (some 18) 69 [17],.fa 19 3 3,.st 1 19 18]) (.seq (.ops [.fa 20 4 1,.ld 21 1 false 20,.call (some 22) 30 [21],.fa 23 4 3,.st 1 23 22]) (.seq (.ops [.fa 24 5 1,.ld 25 1 false 24,.call (some 26) 70 [25],.fa 27 5 3,.st 1 27 26]) (.seq (.ops [.fa 28 6 1,.ld 29 1 false 28,.fa 30 6 3,.st 1 30 29]) (.seq (.ops [.fa 31 7 1,.ld 32 1 false 31,.fa 33 7 3,.st 1 33 32]) (.seq (.ops [.ld 34 8 true 3,.st 8 2 34]) .ret)))))))))))
theorem bHr:aV Tryz.prog 27=some (bJ3,[.ld 0 8 true 2],35):=by kernel_rfl
def cFe (r:aB):Exit→St→Prop:=aU [.ld 0 8 true 2] fun x _=>x=(fun y=>(bV y)) r
def aKi:AC:=(.loop (.seq (.seq (.ops [.mv 8 4,.mv 9 0,.len 10 9,.bin 11 .lss 8 10]) (.cond 11 .skip (.exit 0))) (.seq (.block 1 (.ops [.mv 14 3,.mv 15 4,.mv 16 0,.mv 17 4,.ia 18 1 16 17,.ld 19 1 false 18,.ia 20 1 14 15,.st 1 20 19])) (.ops [.mv 12 4,.bin 13 .add 12 (kI 1),.asg 4 13]))))
def aZu:AC:=(.seq (.ops [.mv 21 3,.asg 2 21]) .ret)
def cB6:AC:=(.seq (.ops [.asg 2 (.c (.nil 1))]) (.seq (.ops [.mv 5 0,.len 6 5,.mks 7 9 1 16 [(.s (bs []))] 6 6,.asg 3 7]) (.seq (.seq (.ops [.asg 4 (kI 0)]) (.block 0 aKi)) aZu)))
theorem bYj:aV Tryz.prog 70=some (cB6,[.mv 0 2],22):=by kernel_rfl
def aZv (r:(List (List UInt8))):Exit→St→Prop:=aU [.mv 0 2] fun x _=>x=(fun y=>(fI y)) r
def cCv (r:(List (List UInt8))):Exit→St→Prop:=(bF (wkK (avc Tryz.prog aZu (aZv r))) (aZv r))
def bSw (r:(List (List UInt8))):Exit→St→Prop:=(bG 0 (cCv r))
def bVe (p0:(List (List UInt8))) (x4:Int) (aR:(List (List UInt8))):St:=⟨[(0,(fI p0)),(3,(.msl 7 1 0 aR.length aR.length)),(4,(vI x4))],[(7,dI (aR.map cStr))]⟩
abbrev aGz (p0:(List (List UInt8))) (x4:Int) (aR:(List (List UInt8))) (r:(List (List UInt8))):Prop:=avc Tryz.prog aKi (bSw r) (bVe p0 x4 aR)
def aKx:AC:=(.loop (.seq (.seq (.ops [.mv 8 4,.mv 9 0,.len 10 9,.bin 11 .lss 8 10]) (.cond 11 .skip (.exit 0))) (.seq (.block 1 (.ops [.mv 14 3,.mv 15 4,.mv 16 0,.mv 17 4,.ia 18 11 16 17,.ld 19 11 true 18,.call (some 20) 106 [19],.ia 21 11 14 15,.st 11 21 20])) (.ops [.mv 12 4,.bin 13 .add 12 (kI 1),.asg 4 13]))))
def aZ6:AC:=(.seq (.ops [.mv 22 3,.asg 2 22]) .ret)
def cBc:AC:=(.seq (.ops [.asg 2 (.c (.nil 11))]) (.seq (.ops [.mv 5 0,.len 6 5,.mks 7 110 11 128 [(.i .i64 0),(.i .i64 0),(.b false),(.i .i64 0),(.i .i64 0),(.s (bs [])),(.i .i64 0),(.i .i64 0),(.sl 10 []),(.sl 8 []),(.b false)] 6 6,.asg 3 7]) (.seq (.seq (.ops [.asg 4 (kI 0)]) (.block 0 aKx)) aZ6)))
theorem bTl:aV Tryz.prog 69=some (cBc,[.mv 0 2],23):=by kernel_rfl
def aZq (r:(List aY)):Exit→St→Prop:=aU [.mv 0 2] fun x _=>x=(fun y=>(eP y)) r
def bSt (r:(List aY)):Exit→St→Prop:=(bF (wkK (avc Tryz.prog aZ6 (aZq r))) (aZq r))
def bU6 (r:(List aY)):Exit→St→Prop:=(bG 0 (bSt r))
def bDu (p0:(List aY)) (x4:Int) (aR:(List aY)):St:=⟨[(0,(eP p0)),(3,(.msl 7 11 0 aR.length aR.length)),(4,(vI x4))],[(7,dI (aR.map gI))]⟩
abbrev aFl (p0:(List aY)) (x4:Int) (aR:(List aY)) (r:(List aY)):Prop:=avc Tryz.prog aKx (bU6 r) (bDu p0 x4 aR)
def bU1:AC:=(.seq (.ops [.box 1 131 0,.alc 2 K9]) (.seq (.ops [.alc 3 K9]) (.seq (.ops [.fa 4 0 1,.ld 5 10 true 4,.call (some 6) 71 [5],.fa 7 0 3,.st 10 7 6]) (.seq (.ops [.fa 8 10 1,.ld 9 1 false 8,.fa 10 10 3,.st 1 10 9]) (.seq (.ops [.ld 11 11 true 3,.st 11 2 11]) .ret)))))
theorem cAv:aV Tryz.prog 106=some (bU1,[.ld 0 11 true 2],12):=by kernel_rfl
def cDx (r:aY):Exit→St→Prop:=aU [.ld 0 11 true 2] fun x _=>x=(fun y=>(fD y)) r
def aJl:AC:=(.loop (.seq (.seq (.ops [.mv 8 4,.mv 9 0,.len 10 9,.bin 11 .lss 8 10]) (.cond 11 .skip (.exit 0))) (.seq (.block 1 (.ops [.mv 14 3,.mv 15 4,.mv 16 0,.mv 17 4,.ia 18 1 16 17,.ld 19 1 false 18,.call (some 20) 30 [19],.ia 21 1 14 15,.st 1 21 20])) (.ops [.mv 12 4,.bin 13 .add 12 (kI 1),.asg 4 13]))))
def aXx:AC:=(.seq (.ops [.mv 22 3,.asg 2 22]) .ret)
def bUl:AC:=(.seq (.ops [.asg 2 (.c (.nil 1))]) (.seq (.ops [.mv 5 0,.len 6 5,.mks 7 42 1 24 [(.sl 10 [])] 6 6,.asg 3 7]) (.seq (.seq (.ops [.asg 4 (kI 0)]) (.block 0 aJl)) aXx)))
theorem bQh:aV Tryz.prog 28=some (bUl,[.mv 0 2],23):=by kernel_rfl
def aRr (r:(List (List aA))):Exit→St→Prop:=aU [.mv 0 2] fun x _=>x=(fun y=>(.d (.sl 1 (y.map (cSl 10 aZ))))) r
def bOo (r:(List (List aA))):Exit→St→Prop:=(bF (wkK (avc Tryz.prog aXx (aRr r))) (aRr r))
def bZp (r:(List (List aA))):Exit→St→Prop:=(bG 0 (bOo r))
def bIt (p0:(List (List aA))) (x4:Int) (aR:(List (List aA))):St:=⟨[(0,(.d (.sl 1 (p0.map (cSl 10 aZ))))),(3,(.msl 7 1 0 aR.length aR.length)),(4,(vI x4))],[(7,dI (aR.map (cSl 10 aZ)))]⟩
abbrev aFa (p0:(List (List aA))) (x4:Int) (aR:(List (List aA))) (r:(List (List aA))):Prop:=avc Tryz.prog aJl (bZp r) (bIt p0 x4 aR)
def aLb:AC:=(.loop (.seq (.seq (.ops [.mv 8 4,.mv 9 0,.len 10 9,.bin 11 .lss 8 10]) (.cond 11 .skip (.exit 0))) (.seq (.block 1 (.ops [.mv 14 3,.mv 15 4,.mv 16 0,.mv 17 4,.ia 18 1 16 17,.ld 19 1 false 18,.ia 20 1 14 15,.st 1 20 19])) (.ops [.mv 12 4,.bin 13 .add 12 (kI 1),.asg 4 13]))))
def aXt:AC:=(.seq (.ops [.mv 21 3,.asg 2 21]) .ret)
def bIy:AC:=(.seq (.ops [.asg 2 (.c (.nil 1))]) (.seq (.ops [.mv 5 0,.len 6 5,.mks 7 3 1 8 [(.i .i64 0)] 6 6,.asg 3 7]) (.seq (.seq (.ops [.asg 4 (kI 0)]) (.block 0 aLb)) aXt)))
theorem bXi:aV Tryz.prog 29=some (bIy,[.mv 0 2],22):=by kernel_rfl
def aW7 (r:(List Int)):Exit→St→Prop:=aU [.mv 0 2] fun x _=>x=(fun y=>(bX y)) r
def bPk (r:(List Int)):Exit→St→Prop:=(bF (wkK (avc Tryz.prog aXt (aW7 r))) (aW7 r))
def bRq (r:(List Int)):Exit→St→Prop:=(bG 0 (bPk r))
def bTw (p0:(List Int)) (x4:Int) (aR:(List Int)):St:=⟨[(0,(bX p0)),(3,(.msl 7 1 0 aR.length aR.length)),(4,(vI x4))],[(7,dI (aR.map cI))]⟩
abbrev aDm (p0:(List Int)) (x4:Int) (aR:(List Int)) (r:(List Int)):Prop:=avc Tryz.prog aLb (bRq r) (bTw p0 x4 aR)
def bW6:AC:=(.seq (.ops [.box 1 92 0,.alc 2 [bQ,bQ,fU]]) (.seq (.ops [.alc 3 [bQ,bQ,fU]]) (.seq (.ops [.fa 4 0 1,.ld 5 1 false 4,.fa 6 0 3,.st 1 6 5]) (.seq (.ops [.fa 7 1 1,.ld 8 1 false 7,.fa 9 1 3,.st 1 9 8]) (.seq (.ops [.fa 10 2 1,.ld 11 1 false 10,.fa 12 2 3,.st 1 12 11]) (.seq (.ops [.ld 13 3 true 3,.st 3 2 13]) .ret))))))
theorem bMw:aV Tryz.prog 107=some (bW6,[.ld 0 3 true 2],14):=by kernel_rfl
def cEq (r:dC):Exit→St→Prop:=aU [.ld 0 3 true 2] fun x _=>x=(fun y=>(nW y)) r
def bD4:AC:=(.seq (.ops [.box 2 33 0,.asg 4 (kI 0)]) (.seq (.ops [.fa 5 1 2,.ld 6 8 true 5,.mv 7 1,.call (some 8) 13 [6,7],.asg 1 8]) (.seq (.seq (.ops [.mv 9 1,.bin 10 .lss 9 (kI 0)]) (.cond 10 (.seq (.ops [.asg 4 (kI (-1))]) .ret) .skip)) (.seq (.ops [.fa 11 10 2,.ld 12 1 false 11,.mv 13 1,.call (some 14) 14 [12,13],.asg 1 14]) (.seq (.seq (.ops [.mv 15 1,.bin 16 .lss 15 (kI 0)]) (.cond 16 (.seq (.ops [.asg 4 (kI (-1))]) .ret) .skip)) (.seq (.ops [.fa 17 11 2,.ld 18 1 false 17,.mv 19 1,.call (some 20) 15 [18,19],.asg 1 20]) (.seq (.seq (.ops [.mv 21 1,.bin 22 .lss 21 (kI 0)]) (.cond 22 (.seq (.ops [.asg 4 (kI (-1))]) .ret) .skip)) (.seq (.ops [.fa 23 12 2,.ld 24 1 false 23,.mv 25 1,.call (some 26) 16 [24,25],.asg 1 26]) (.seq (.seq (.ops [.mv 27 1,.bin 28 .lss 27 (kI 0)]) (.cond 28 (.seq (.ops [.asg 4 (kI (-1))]) .ret) .skip)) (.seq (.ops [.fa 29 13 2,.ld 30 1 false 29,.mv 31 1,.call (some 32) 16 [30,31],.asg 1 32]) (.seq (.seq (.ops [.mv 33 1,.bin 34 .lss 33 (kI 0)]) (.cond 34 (.seq (.ops [.asg 4 (kI (-1))]) .ret) .skip)) (.seq (.ops [.mv 35 1,.asg 4 35]) .ret))))))))))))
theorem cCy:aV Tryz.prog 5=some (bD4,[.mv 0 4],36):=by kernel_rfl
def cFa (r:Int):Exit→St→Prop:=aU [.mv 0 4] fun x _=>x=(fun y=>(vI y)) r
def aI6:AC:=(.loop (.seq (.seq (.ops [.mv 12 5,.mv 13 0,.len 14 13,.bin 15 .lss 12 14]) (.cond 15 .skip (.exit 0))) (.seq (.block 1 (.seq (.ops [.mv 18 0,.mv 19 5,.ia 20 10 18 19,.ld 21 10 true 20,.mv 22 1,.call (some 23) 50 [21,22],.asg 1 23]) (.seq (.ops [.mv 24 1,.bin 25 .lss 24 (kI 0)]) (.cond 25 (.seq (.ops [.asg 4 (kI (-1))]) .ret) .skip)))) (.ops [.mv 16 5,.bin 17 .add 16 (kI 1),.asg 5 17]))))
def aQ8:AC:=(.seq (.ops [.mv 26 1,.asg 4 26]) .ret)
def bB3:AC:=(.seq (.ops [.asg 4 (kI 0)]) (.seq (.ops [.mv 6 1,.mv 7 0,.len 8 7,.bin 9 .sub 6 8,.asg 1 9]) (.seq (.seq (.ops [.mv 10 1,.bin 11 .lss 10 (kI 0)]) (.cond 11 (.seq (.ops [.asg 4 (kI (-1))]) .ret) .skip)) (.seq (.seq (.ops [.asg 5 (kI 0)]) (.block 0 aI6)) aQ8))))
theorem cC7:aV Tryz.prog 16=some (bB3,[.mv 0 4],27):=by kernel_rfl
def aUp (r:Int):Exit→St→Prop:=aU [.mv 0 4] fun x _=>x=(fun y=>(vI y)) r
def bQ1 (r:Int):Exit→St→Prop:=(bF (wkK (avc Tryz.prog aQ8 (aUp r))) (aUp r))
def cBw (r:Int):Exit→St→Prop:=(bG 0 (bQ1 r))
def bO1 (p0:(List aA)) (x1:Int) (x5:Int):St:=⟨[(0,(bN p0)),(1,(vI x1)),(5,(vI x5))],[]⟩
abbrev aBz (p0:(List aA)) (x1:Int) (x5:Int) (r:Int):Prop:=avc Tryz.prog aI6 (cBw r) (bO1 p0 x1 x5)
def bD6:AC:=(.seq (.ops [.box 2 95 0,.asg 4 (kI 0)]) (.seq (.ops [.fa 5 3 2,.ld 6 3 true 5,.mv 7 1,.call (some 8) 92 [6,7],.asg 1 8]) (.seq (.seq (.ops [.mv 9 1,.bin 10 .lss 9 (kI 0)]) (.cond 10 (.seq (.ops [.asg 4 (kI (-1))]) .ret) .skip)) (.seq (.ops [.fa 11 8 2,.ld 12 1 false 11,.mv 13 1,.call (some 14) 16 [12,13],.asg 1 14]) (.seq (.seq (.ops [.mv 15 1,.bin 16 .lss 15 (kI 0)]) (.cond 16 (.seq (.ops [.asg 4 (kI (-1))]) .ret) .skip)) (.seq (.ops [.fa 17 9 2,.ld 18 1 false 17,.mv 19 1,.call (some 20) 93 [18,19],.asg 1 20]) (.seq (.seq (.ops [.mv 21 1,.bin 22 .lss 21 (kI 0)]) (.cond 22 (.seq (.ops [.asg 4 (kI (-1))]) .ret) .skip)) (.seq (.ops [.mv 23 1,.asg 4 23]) .ret))))))))
theorem bQx:aV Tryz.prog 50=some (bD6,[.mv 0 4],24):=by kernel_rfl
def cF5 (r:Int):Exit→St→Prop:=aU [.mv 0 4] fun x _=>x=(fun y=>(vI y)) r
def bC7:AC:=(.seq (.ops [.box 2 92 0,.asg 4 (kI 0)]) (.seq (.ops [.mv 5 1,.fa 6 2 2,.ld 7 1 false 6,.lns 8 7,.bin 9 .sub 5 8,.asg 1 9]) (.seq (.seq (.ops [.mv 10 1,.bin 11 .lss 10 (kI 0)]) (.cond 11 (.seq (.ops [.asg 4 (kI (-1))]) .ret) .skip)) (.seq (.ops [.mv 12 1,.asg 4 12]) .ret))))
theorem bFt:aV Tryz.prog 92=some (bC7,[.mv 0 4],13):=by kernel_rfl
def cH0 (r:Int):Exit→St→Prop:=aU [.mv 0 4] fun x _=>x=(fun y=>(vI y)) r
def aHh:AC:=(.loop (.seq (.seq (.ops [.mv 12 5,.mv 13 0,.len 14 13,.bin 15 .lss 12 14]) (.cond 15 .skip (.exit 0))) (.seq (.block 1 (.seq (.ops [.mv 18 0,.mv 19 5,.ia 20 8 18 19,.ld 21 8 true 20,.mv 22 1,.call (some 23) 13 [21,22],.asg 1 23]) (.seq (.ops [.mv 24 1,.bin 25 .lss 24 (kI 0)]) (.cond 25 (.seq (.ops [.asg 4 (kI (-1))]) .ret) .skip)))) (.ops [.mv 16 5,.bin 17 .add 16 (kI 1),.asg 5 17]))))
def aSv:AC:=(.seq (.ops [.mv 26 1,.asg 4 26]) .ret)
def bAf:AC:=(.seq (.ops [.asg 4 (kI 0)]) (.seq (.ops [.mv 6 1,.mv 7 0,.len 8 7,.bin 9 .sub 6 8,.asg 1 9]) (.seq (.seq (.ops [.mv 10 1,.bin 11 .lss 10 (kI 0)]) (.cond 11 (.seq (.ops [.asg 4 (kI (-1))]) .ret) .skip)) (.seq (.seq (.ops [.asg 5 (kI 0)]) (.block 0 aHh)) aSv))))
theorem bGl:aV Tryz.prog 93=some (bAf,[.mv 0 4],27):=by kernel_rfl
def aQ1 (r:Int):Exit→St→Prop:=aU [.mv 0 4] fun x _=>x=(fun y=>(vI y)) r
def bJe (r:Int):Exit→St→Prop:=(bF (wkK (avc Tryz.prog aSv (aQ1 r))) (aQ1 r))
def bKk (r:Int):Exit→St→Prop:=(bG 0 (bJe r))
def bWv (p0:(List aB)) (x1:Int) (x5:Int):St:=⟨[(0,(eG p0)),(1,(vI x1)),(5,(vI x5))],[]⟩
abbrev aDj (p0:(List aB)) (x1:Int) (x5:Int) (r:Int):Prop:=avc Tryz.prog aHh (bKk r) (bWv p0 x1 x5)
def bSm:AC:=(.seq (.ops [.box 2 31 0,.asg 4 (kI 0)]) (.seq (.ops [.fa 5 0 2,.ld 6 1 false 5,.mv 7 1,.call (some 8) 15 [6,7],.asg 1 8]) (.seq (.seq (.ops [.mv 9 1,.bin 10 .lss 9 (kI 0)]) (.cond 10 (.seq (.ops [.asg 4 (kI (-1))]) .ret) .skip)) (.seq (.ops [.fa 11 1 2,.ld 12 1 false 11,.mv 13 1,.call (some 14) 14 [12,13],.asg 1 14]) (.seq (.seq (.ops [.mv 15 1,.bin 16 .lss 15 (kI 0)]) (.cond 16 (.seq (.ops [.asg 4 (kI (-1))]) .ret) .skip)) (.seq (.ops [.fa 17 2 2,.ld 18 1 false 17,.mv 19 1,.call (some 20) 16 [18,19],.asg 1 20]) (.seq (.seq (.ops [.mv 21 1,.bin 22 .lss 21 (kI 0)]) (.cond 22 (.seq (.ops [.asg 4 (kI (-1))]) .ret) .skip)) (.seq (.ops [.fa 23 3 2,.ld 24 1 false 23,.mv 25 1,.call (some 26) 48 [24,25],.asg 1 26]) (.seq (.seq (.ops [.mv 27 1,.bin 28 .lss 27 (kI 0)]) (.cond 28 (.seq (.ops [.asg 4 (kI (-1))]) .ret) .skip)) (.seq (.ops [.fa 29 4 2,.ld 30 1 false 29,.mv 31 1,.call (some 32) 16 [30,31],.asg 1 32]) (.seq (.seq (.ops [.mv 33 1,.bin 34 .lss 33 (kI 0)]) (.cond 34 (.seq (.ops [.asg 4 (kI (-1))]) .ret) .skip)) (.seq (.ops [.fa 35 5 2,.ld 36 1 false 35,.mv 37 1,.call (some 38) 49 [36,37],.asg 1 38]) (.seq (.seq (.ops [.mv 39 1,.bin 40 .lss 39 (kI 0)]) (.cond 40 (.seq (.ops [.asg 4 (kI (-1))]) .ret) .skip)) (.seq (.ops [.mv 41 1,.asg 4 41]) .ret))))))))))))))
theorem bTu:aV Tryz.prog 13=some (bSm,[.mv 0 4],42):=by kernel_rfl
def cFk (r:Int):Exit→St→Prop:=aU [.mv 0 4] fun x _=>x=(fun y=>(vI y)) r
def aJ7:AC:=(.loop (.seq (.seq (.ops [.mv 12 5,.mv 13 0,.len 14 13,.bin 15 .lss 12 14]) (.cond 15 .skip (.exit 0))) (.seq (.block 1 (.seq (.ops [.mv 18 0,.mv 19 5,.ia 20 11 18 19,.ld 21 11 true 20,.mv 22 1,.call (some 23) 91 [21,22],.asg 1 23]) (.seq (.ops [.mv 24 1,.bin 25 .lss 24 (kI 0)]) (.cond 25 (.seq (.ops [.asg 4 (kI (-1))]) .ret) .skip)))) (.ops [.mv 16 5,.bin 17 .add 16 (kI 1),.asg 5 17]))))
def aVt:AC:=(.seq (.ops [.mv 26 1,.asg 4 26]) .ret)
def bLo:AC:=(.seq (.ops [.asg 4 (kI 0)]) (.seq (.ops [.mv 6 1,.mv 7 0,.len 8 7,.bin 9 .sub 6 8,.asg 1 9]) (.seq (.seq (.ops [.mv 10 1,.bin 11 .lss 10 (kI 0)]) (.cond 11 (.seq (.ops [.asg 4 (kI (-1))]) .ret) .skip)) (.seq (.seq (.ops [.asg 5 (kI 0)]) (.block 0 aJ7)) aVt))))
theorem bF3:aV Tryz.prog 48=some (bLo,[.mv 0 4],27):=by kernel_rfl
def aUi (r:Int):Exit→St→Prop:=aU [.mv 0 4] fun x _=>x=(fun y=>(vI y)) r
def bKy (r:Int):Exit→St→Prop:=(bF (wkK (avc Tryz.prog aVt (aUi r))) (aUi r))
def bQ5 (r:Int):Exit→St→Prop:=(bG 0 (bKy r))
def bMq (p0:(List aY)) (x1:Int) (x5:Int):St:=⟨[(0,(eP p0)),(1,(vI x1)),(5,(vI x5))],[]⟩
abbrev aEz (p0:(List aY)) (x1:Int) (x5:Int) (r:Int):Prop:=avc Tryz.prog aJ7 (bQ5 r) (bMq p0 x1 x5)
def cBe:AC:=(.seq (.ops [.box 2 131 0,.asg 4 (kI 0)]) (.seq (.ops [.fa 5 0 2,.ld 6 10 true 5,.mv 7 1,.call (some 8) 50 [6,7],.asg 1 8]) (.seq (.seq (.ops [.mv 9 1,.bin 10 .lss 9 (kI 0)]) (.cond 10 (.seq (.ops [.asg 4 (kI (-1))]) .ret) .skip)) (.seq (.ops [.mv 11 1,.asg 4 11]) .ret))))
theorem cD9:aV Tryz.prog 91=some (cBe,[.mv 0 4],12):=by kernel_rfl
def cG1 (r:Int):Exit→St→Prop:=aU [.mv 0 4] fun x _=>x=(fun y=>(vI y)) r
def bB7:AC:=(.seq (.ops [.asg 4 (kI 0)]) (.seq (.ops [.mv 5 1,.mv 6 0,.len 7 6,.bin 8 .sub 5 7,.asg 1 8]) (.seq (.seq (.ops [.mv 9 1,.bin 10 .lss 9 (kI 0)]) (.cond 10 (.seq (.ops [.asg 4 (kI (-1))]) .ret) .skip)) (.seq (.ops [.mv 11 1,.asg 4 11]) .ret))))
theorem cD6:aV Tryz.prog 15=some (bB7,[.mv 0 4],12):=by kernel_rfl
def cF9 (r:Int):Exit→St→Prop:=aU [.mv 0 4] fun x _=>x=(fun y=>(vI y)) r
def aHg:AC:=(.loop (.seq (.seq (.ops [.mv 12 5,.mv 13 0,.len 14 13,.bin 15 .lss 12 14]) (.cond 15 .skip (.exit 0))) (.seq (.block 1 (.seq (.ops [.mv 18 0,.mv 19 5,.ia 20 1 18 19,.ld 21 1 false 20,.mv 22 1,.call (some 23) 16 [21,22],.asg 1 23]) (.seq (.ops [.mv 24 1,.bin 25 .lss 24 (kI 0)]) (.cond 25 (.seq (.ops [.asg 4 (kI (-1))]) .ret) .skip)))) (.ops [.mv 16 5,.bin 17 .add 16 (kI 1),.asg 5 17]))))
def aRt:AC:=(.seq (.ops [.mv 26 1,.asg 4 26]) .ret)
def bUz:AC:=(.seq (.ops [.asg 4 (kI 0)]) (.seq (.ops [.mv 6 1,.mv 7 0,.len 8 7,.bin 9 .sub 6 8,.asg 1 9]) (.seq (.seq (.ops [.mv 10 1,.bin 11 .lss 10 (kI 0)]) (.cond 11 (.seq (.ops [.asg 4 (kI (-1))]) .ret) .skip)) (.seq (.seq (.ops [.asg 5 (kI 0)]) (.block 0 aHg)) aRt))))
theorem bFc:aV Tryz.prog 14=some (bUz,[.mv 0 4],27):=by kernel_rfl
def aP8 (r:Int):Exit→St→Prop:=aU [.mv 0 4] fun x _=>x=(fun y=>(vI y)) r
def bWm (r:Int):Exit→St→Prop:=(bF (wkK (avc Tryz.prog aRt (aP8 r))) (aP8 r))
def bJr (r:Int):Exit→St→Prop:=(bG 0 (bWm r))
def bGj (p0:(List (List aA))) (x1:Int) (x5:Int):St:=⟨[(0,(.d (.sl 1 (p0.map (cSl 10 aZ))))),(1,(vI x1)),(5,(vI x5))],[]⟩
abbrev aDk (p0:(List (List aA))) (x1:Int) (x5:Int) (r:Int):Prop:=avc Tryz.prog aHg (bJr r) (bGj p0 x1 x5)
def aNn:AC:=(.loop (.seq (.seq (.ops [.mv 12 5,.mv 13 0,.len 14 13,.bin 15 .lss 12 14]) (.cond 15 .skip (.exit 0))) (.seq (.block 1 (.seq (.ops [.mv 18 1,.mv 19 0,.mv 20 5,.ia 21 1 19 20,.ld 22 1 false 21,.lns 23 22,.bin 24 .sub 18 23,.asg 1 24]) (.seq (.ops [.mv 25 1,.bin 26 .lss 25 (kI 0)]) (.cond 26 (.seq (.ops [.asg 4 (kI (-1))]) .ret) .skip)))) (.ops [.mv 16 5,.bin 17 .add 16 (kI 1),.asg 5 17]))))
def aT9:AC:=(.seq (.ops [.mv 27 1,.asg 4 27]) .ret)
def bJh:AC:=(.seq (.ops [.asg 4 (kI 0)]) (.seq (.ops [.mv 6 1,.mv 7 0,.len 8 7,.bin 9 .sub 6 8,.asg 1 9]) (.seq (.seq (.ops [.mv 10 1,.bin 11 .lss 10 (kI 0)]) (.cond 11 (.seq (.ops [.asg 4 (kI (-1))]) .ret) .skip)) (.seq (.seq (.ops [.asg 5 (kI 0)]) (.block 0 aNn)) aT9))))
theorem bAw:aV Tryz.prog 49=some (bJh,[.mv 0 4],28):=by kernel_rfl
def aQ2 (r:Int):Exit→St→Prop:=aU [.mv 0 4] fun x _=>x=(fun y=>(vI y)) r
def bB2 (r:Int):Exit→St→Prop:=(bF (wkK (avc Tryz.prog aT9 (aQ2 r))) (aQ2 r))
def cA9 (r:Int):Exit→St→Prop:=(bG 0 (bB2 r))
def bV0 (p0:(List (List UInt8))) (x1:Int) (x5:Int):St:=⟨[(0,(fI p0)),(1,(vI x1)),(5,(vI x5))],[]⟩
abbrev aH7 (p0:(List (List UInt8))) (x1:Int) (x5:Int) (r:Int):Prop:=avc Tryz.prog aNn (cA9 r) (bV0 p0 x1 x5)
def bL7:AC:=(.seq (.ops [.box 2 39 0,.box 3 39 1,.asg 4 (kB false)]) (.seq (.seq (.ops [.fa 5 0 2,.ld 6 1 false 5,.fa 7 0 3,.ld 8 1 false 7,.call (some 9) 42 [6,8],.not 10 9]) (.cond 10 (.seq (.ops [.asg 4 (kB false)]) .ret) .skip)) (.seq (.ops [.asg 4 (kB true)]) .ret)))
theorem bZ1:aV Tryz.prog 10=some (bL7,[.mv 0 4],11):=by kernel_rfl
def cHs (r:Bool):Exit→St→Prop:=aU [.mv 0 4] fun x _=>x=(fun y=>(vB y)) r
def aLl:AC:=(.loop (.seq (.seq (.ops [.mv 11 5,.mv 12 0,.len 13 12,.bin 14 .lss 11 13]) (.cond 14 .skip (.exit 0))) (.seq (.block 1 (.seq (.dops [[],[],[0,1],[2],[],[],[4,5],[6],[3,7],[8]] [.mv 17 0,.mv 18 5,.ia 19 2 17 18,.ld 20 2 true 19,.mv 21 1,.mv 22 5,.ia 23 2 21 22,.ld 24 2 true 23,.call (some 25) 86 [20,24],.not 26 25]) (.cond 26 (.seq (.ops [.asg 4 (kB false)]) .ret) .skip))) (.ops [.mv 15 5,.bin 16 .add 15 (kI 1),.asg 5 16]))))
def aTd:AC:=(.seq (.ops [.asg 4 (kB true)]) .ret)
def bFx:AC:=(.seq (.ops [.asg 4 (kB false)]) (.seq (.seq (.ops [.mv 6 0,.len 7 6,.mv 8 1,.len 9 8,.bin 10 .neq 7 9]) (.cond 10 (.seq (.ops [.asg 4 (kB false)]) .ret) .skip)) (.seq (.seq (.ops [.asg 5 (kI 0)]) (.block 0 aLl)) aTd)))
theorem bHs:aV Tryz.prog 42=some (bFx,[.mv 0 4],27):=by kernel_rfl
def aQd (r:Bool):Exit→St→Prop:=aU [.mv 0 4] fun x _=>x=(fun y=>(vB y)) r
def bLg (r:Bool):Exit→St→Prop:=(bF (wkK (avc Tryz.prog aTd (aQd r))) (aQd r))
def bQ6 (r:Bool):Exit→St→Prop:=(bG 0 (bLg r))
def bMg (p0:(List bD)) (p1:(List bD)) (x5:Int):St:=⟨[(0,(iA p0)),(1,(iA p1)),(5,(vI x5))],[]⟩
abbrev aBu (p0:(List bD)) (p1:(List bD)) (x5:Int) (r:Bool):Prop:=avc Tryz.prog aLl (bQ6 r) (bMg p0 p1 x5)
def bBk:AC:=(.seq (.ops [.box 2 65 0,.box 3 65 1,.asg 4 (kB false)]) (.seq (.seq (.ops [.fa 5 0 2,.ld 6 1 false 5,.fa 7 0 3,.ld 8 1 false 7,.bin 9 .neq 6 8]) (.cond 9 (.seq (.ops [.asg 4 (kB false)]) .ret) .skip)) (.seq (.seq (.ops [.fa 10 1 2,.ld 11 1 false 10,.fa 12 1 3,.ld 13 1 false 12,.call (some 14) 129 [11,13],.not 15 14]) (.cond 15 (.seq (.ops [.asg 4 (kB false)]) .ret) .skip)) (.seq (.ops [.asg 4 (kB true)]) .ret))))
theorem bIl:aV Tryz.prog 86=some (bBk,[.mv 0 4],16):=by kernel_rfl
def cHt (r:Bool):Exit→St→Prop:=aU [.mv 0 4] fun x _=>x=(fun y=>(vB y)) r
def aJ3:AC:=(.loop (.seq (.seq (.ops [.mv 11 5,.mv 12 0,.len 13 12,.bin 14 .lss 11 13]) (.cond 14 .skip (.exit 0))) (.seq (.block 1 (.seq (.dops [[],[],[0,1],[2],[],[],[4,5],[6],[3,7],[8]] [.mv 17 0,.mv 18 5,.ia 19 2 17 18,.ld 20 2 true 19,.mv 21 1,.mv 22 5,.ia 23 2 21 22,.ld 24 2 true 23,.call (some 25) 152 [20,24],.not 26 25]) (.cond 26 (.seq (.ops [.asg 4 (kB false)]) .ret) .skip))) (.ops [.mv 15 5,.bin 16 .add 15 (kI 1),.asg 5 16]))))
def aUr:AC:=(.seq (.ops [.asg 4 (kB true)]) .ret)
def bGx:AC:=(.seq (.ops [.asg 4 (kB false)]) (.seq (.seq (.ops [.mv 6 0,.len 7 6,.mv 8 1,.len 9 8,.bin 10 .neq 7 9]) (.cond 10 (.seq (.ops [.asg 4 (kB false)]) .ret) .skip)) (.seq (.seq (.ops [.asg 5 (kI 0)]) (.block 0 aJ3)) aUr)))
theorem bR4:aV Tryz.prog 129=some (bGx,[.mv 0 4],27):=by kernel_rfl
def aY7 (r:Bool):Exit→St→Prop:=aU [.mv 0 4] fun x _=>x=(fun y=>(vB y)) r
def bX7 (r:Bool):Exit→St→Prop:=(bF (wkK (avc Tryz.prog aUr (aY7 r))) (aY7 r))
def bQt (r:Bool):Exit→St→Prop:=(bG 0 (bX7 r))
def bRw (p0:(List bL)) (p1:(List bL)) (x5:Int):St:=⟨[(0,(iB p0)),(1,(iB p1)),(5,(vI x5))],[]⟩
abbrev aBj (p0:(List bL)) (p1:(List bL)) (x5:Int) (r:Bool):Prop:=avc Tryz.prog aJ3 (bQt r) (bRw p0 p1 x5)
def bS2:AC:=(.seq (.ops [.box 2 102 0,.box 3 102 1,.asg 4 (kB false)]) (.seq (.seq (.ops [.fa 5 0 2,.ld 6 1 false 5,.fa 7 0 3,.ld 8 1 false 7,.bin 9 .neq 6 8]) (.cond 9 (.seq (.ops [.asg 4 (kB false)]) .ret) .skip)) (.seq (.seq (.ops [.fa 10 1 2,.ld 11 1 false 10,.fa 12 1 3,.ld 13 1 false 12,.bin 14 .neq 11 13]) (.cond 14 (.seq (.ops [.asg 4 (kB false)]) .ret) .skip)) (.seq (.ops [.asg 4 (kB true)]) .ret))))
theorem bHa:aV Tryz.prog 152=some (bS2,[.mv 0 4],15):=by kernel_rfl
def cFt (r:Bool):Exit→St→Prop:=aU [.mv 0 4] fun x _=>x=(fun y=>(vB y)) r
def bJo:AC:=(.seq (.ops [.box 1 24 0,.alc 2 [(.nil 2)]]) (.seq (.ops [.alc 3 [(.nil 2)]]) (.seq (.ops [.fa 4 0 1,.ld 5 1 false 4,.call (some 6) 26 [5],.fa 7 0 3,.st 1 7 6]) (.seq (.ops [.ld 8 1 true 3,.st 1 2 8]) .ret))))
theorem cAe:aV Tryz.prog 7=some (bJo,[.ld 0 1 true 2],9):=by kernel_rfl
def cHy (r:aJ):Exit→St→Prop:=aU [.ld 0 1 true 2] fun x _=>x=(fun y=>(dR y)) r
def aI3:AC:=(.loop (.seq (.seq (.ops [.mv 8 4,.mv 9 0,.len 10 9,.bin 11 .lss 8 10]) (.cond 11 .skip (.exit 0))) (.seq (.block 1 (.ops [.mv 14 3,.mv 15 4,.mv 16 0,.mv 17 4,.ia 18 2 16 17,.ld 19 2 true 18,.call (some 20) 68 [19],.ia 21 2 14 15,.st 2 21 20])) (.ops [.mv 12 4,.bin 13 .add 12 (kI 1),.asg 4 13]))))
def aPr:AC:=(.seq (.ops [.mv 22 3,.asg 2 22]) .ret)
def bIg:AC:=(.seq (.ops [.asg 2 (.c (.nil 2))]) (.seq (.ops [.mv 5 0,.len 6 5,.mks 7 65 2 40 [(.s (bs [])),(.sl 2 [])] 6 6,.asg 3 7]) (.seq (.seq (.ops [.asg 4 (kI 0)]) (.block 0 aI3)) aPr)))
theorem bJq:aV Tryz.prog 26=some (bIg,[.mv 0 2],23):=by kernel_rfl
def aOm (r:(List bD)):Exit→St→Prop:=aU [.mv 0 2] fun x _=>x=(fun y=>(iA y)) r
def bM9 (r:(List bD)):Exit→St→Prop:=(bF (wkK (avc Tryz.prog aPr (aOm r))) (aOm r))
def bC4 (r:(List bD)):Exit→St→Prop:=(bG 0 (bM9 r))
def bOl (p0:(List bD)) (x4:Int) (aR:(List bD)):St:=⟨[(0,(iA p0)),(3,(.msl 7 2 0 aR.length aR.length)),(4,(vI x4))],[(7,dI (aR.map iR))]⟩
abbrev aEf (p0:(List bD)) (x4:Int) (aR:(List bD)) (r:(List bD)):Prop:=avc Tryz.prog aI3 (bC4 r) (bOl p0 x4 aR)
def bZr:AC:=(.seq (.ops [.box 1 87 0,.alc 2 [fU,(.nil 2)]]) (.seq (.ops [.alc 3 [fU,(.nil 2)]]) (.seq (.ops [.fa 4 0 1,.ld 5 1 false 4,.fa 6 0 3,.st 1 6 5]) (.seq (.ops [.fa 7 1 1,.ld 8 1 false 7,.call (some 9) 105 [8],.fa 10 1 3,.st 1 10 9]) (.seq (.ops [.ld 11 2 true 3,.st 2 2 11]) .ret)))))
theorem bZf:aV Tryz.prog 68=some (bZr,[.ld 0 2 true 2],12):=by kernel_rfl
def cDg (r:bD):Exit→St→Prop:=aU [.ld 0 2 true 2] fun x _=>x=(fun y=>(iZ y)) r
def aO1:AC:=(.loop (.seq (.seq (.ops [.mv 8 4,.mv 9 0,.len 10 9,.bin 11 .lss 8 10]) (.cond 11 .skip (.exit 0))) (.seq (.block 1 (.ops [.mv 14 3,.mv 15 4,.mv 16 0,.mv 17 4,.ia 18 2 16 17,.ld 19 2 true 18,.call (some 20) 137 [19],.ia 21 2 14 15,.st 2 21 20])) (.ops [.mv 12 4,.bin 13 .add 12 (kI 1),.asg 4 13]))))
def aSb:AC:=(.seq (.ops [.mv 22 3,.asg 2 22]) .ret)
def bUk:AC:=(.seq (.ops [.asg 2 (.c (.nil 2))]) (.seq (.ops [.mv 5 0,.len 6 5,.mks 7 102 2 24 [(.s (bs [])),(.i .i64 0)] 6 6,.asg 3 7]) (.seq (.seq (.ops [.asg 4 (kI 0)]) (.block 0 aO1)) aSb)))
theorem bBf:aV Tryz.prog 105=some (bUk,[.mv 0 2],23):=by kernel_rfl
def aTc (r:(List bL)):Exit→St→Prop:=aU [.mv 0 2] fun x _=>x=(fun y=>(iB y)) r
def bH2 (r:(List bL)):Exit→St→Prop:=(bF (wkK (avc Tryz.prog aSb (aTc r))) (aTc r))
def bIs (r:(List bL)):Exit→St→Prop:=(bG 0 (bH2 r))
def bWk (p0:(List bL)) (x4:Int) (aR:(List bL)):St:=⟨[(0,(iB p0)),(3,(.msl 7 2 0 aR.length aR.length)),(4,(vI x4))],[(7,dI (aR.map gD))]⟩
abbrev aBd (p0:(List bL)) (x4:Int) (aR:(List bL)) (r:(List bL)):Prop:=avc Tryz.prog aO1 (bIs r) (bWk p0 x4 aR)
def bDv:AC:=(.seq (.ops [.box 1 156 0,.alc 2 [fU,bQ]]) (.seq (.ops [.alc 3 [fU,bQ]]) (.seq (.ops [.fa 4 0 1,.ld 5 1 false 4,.fa 6 0 3,.st 1 6 5]) (.seq (.ops [.fa 7 1 1,.ld 8 1 false 7,.fa 9 1 3,.st 1 9 8]) (.seq (.ops [.ld 10 2 true 3,.st 2 2 10]) .ret)))))
theorem cAx:aV Tryz.prog 137=some (bDv,[.ld 0 2 true 2],11):=by kernel_rfl
def cHx (r:bL):Exit→St→Prop:=aU [.ld 0 2 true 2] fun x _=>x=(fun y=>(nM y)) r
def bZb:AC:=(.seq (.ops [.box 2 47 0,.box 3 47 1,.asg 4 (kB false)]) (.seq (.seq (.ops [.fa 5 0 2,.ld 6 1 false 5,.fa 7 0 3,.ld 8 1 false 7,.bin 9 .neq 6 8]) (.cond 9 (.seq (.ops [.asg 4 (kB false)]) .ret) .skip)) (.seq (.seq (.ops [.fa 10 1 2,.ld 11 8 true 10,.fa 12 1 3,.ld 13 8 true 12,.call (some 14) 43 [11,13],.not 15 14]) (.cond 15 (.seq (.ops [.asg 4 (kB false)]) .ret) .skip)) (.seq (.seq (.ops [.fa 16 9 2,.ld 17 1 false 16,.fa 18 9 3,.ld 19 1 false 18,.bin 20 .neq 17 19]) (.cond 20 (.seq (.ops [.asg 4 (kB false)]) .ret) .skip)) (.seq (.seq (.ops [.fa 21 10 2,.ld 22 1 false 21,.fa 23 10 3,.ld 24 1 false 23,.call (some 25) 44 [22,24],.not 26 25]) (.cond 26 (.seq (.ops [.asg 4 (kB false)]) .ret) .skip)) (.seq (.seq (.ops [.fa 27 11 2,.ld 28 1 false 27,.fa 29 11 3,.ld 30 1 false 29,.call (some 31) 45 [28,30],.not 32 31]) (.cond 32 (.seq (.ops [.asg 4 (kB false)]) .ret) .skip)) (.seq (.seq (.ops [.fa 33 12 2,.ld 34 1 false 33,.fa 35 12 3,.ld 36 1 false 35,.call (some 37) 46 [34,36],.not 38 37]) (.cond 38 (.seq (.ops [.asg 4 (kB false)]) .ret) .skip)) (.seq (.seq (.ops [.fa 39 13 2,.ld 40 1 false 39,.fa 41 13 3,.ld 42 1 false 41,.call (some 43) 46 [40,42],.not 44 43]) (.cond 44 (.seq (.ops [.asg 4 (kB false)]) .ret) .skip)) (.seq (.ops [.asg 4 (kB true)]) .ret)))))))))
theorem bPt:aV Tryz.prog 11=some (bZb,[.mv 0 4],45):=by kernel_rfl
def cGk (r:Bool):Exit→St→Prop:=aU [.mv 0 4] fun x _=>x=(fun y=>(vB y)) r
def aN6:AC:=(.loop (.seq (.seq (.ops [.mv 11 5,.mv 12 0,.len 13 12,.bin 14 .lss 11 13]) (.cond 14 .skip (.exit 0))) (.seq (.block 1 (.seq (.dops [[],[],[0,1],[2],[],[],[4,5],[6],[3,7],[8]] [.mv 17 0,.mv 18 5,.ia 19 10 17 18,.ld 20 10 true 19,.mv 21 1,.mv 22 5,.ia 23 10 21 22,.ld 24 10 true 23,.call (some 25) 89 [20,24],.not 26 25]) (.cond 26 (.seq (.ops [.asg 4 (kB false)]) .ret) .skip))) (.ops [.mv 15 5,.bin 16 .add 15 (kI 1),.asg 5 16]))))
def aQ4:AC:=(.seq (.ops [.asg 4 (kB true)]) .ret)
def bMb:AC:=(.seq (.ops [.asg 4 (kB false)]) (.seq (.seq (.ops [.mv 6 0,.len 7 6,.mv 8 1,.len 9 8,.bin 10 .neq 7 9]) (.cond 10 (.seq (.ops [.asg 4 (kB false)]) .ret) .skip)) (.seq (.seq (.ops [.asg 5 (kI 0)]) (.block 0 aN6)) aQ4)))
theorem bIh:aV Tryz.prog 46=some (bMb,[.mv 0 4],27):=by kernel_rfl
def aZ3 (r:Bool):Exit→St→Prop:=aU [.mv 0 4] fun x _=>x=(fun y=>(vB y)) r
def bLh (r:Bool):Exit→St→Prop:=(bF (wkK (avc Tryz.prog aQ4 (aZ3 r))) (aZ3 r))
def bQs (r:Bool):Exit→St→Prop:=(bG 0 (bLh r))
def bC8 (p0:(List aA)) (p1:(List aA)) (x5:Int):St:=⟨[(0,(bN p0)),(1,(bN p1)),(5,(vI x5))],[]⟩
abbrev aFq (p0:(List aA)) (p1:(List aA)) (x5:Int) (r:Bool):Prop:=avc Tryz.prog aN6 (bQs r) (bC8 p0 p1 x5)
def bAq:AC:=(.seq (.ops [.box 2 108 0,.box 3 108 1,.asg 4 (kB false)]) (.seq (.seq (.ops [.fa 5 0 2,.ld 6 1 false 5,.fa 7 0 3,.ld 8 1 false 7,.bin 9 .neq 6 8]) (.cond 9 (.seq (.ops [.asg 4 (kB false)]) .ret) .skip)) (.seq (.seq (.ops [.fa 10 1 2,.ld 11 1 false 10,.fa 12 1 3,.ld 13 1 false 12,.bin 14 .neq 11 13]) (.cond 14 (.seq (.ops [.asg 4 (kB false)]) .ret) .skip)) (.seq (.seq (.ops [.fa 15 2 2,.ld 16 1 false 15,.fa 17 2 3,.ld 18 1 false 17,.eqb 19 true 16 18]) (.cond 19 (.seq (.ops [.asg 4 (kB false)]) .ret) .skip)) (.seq (.seq (.ops [.fa 20 3 2,.ld 21 3 true 20,.fa 22 3 3,.ld 23 3 true 22,.call (some 24) 131 [21,23],.not 25 24]) (.cond 25 (.seq (.ops [.asg 4 (kB false)]) .ret) .skip)) (.seq (.seq (.ops [.fa 26 6 2,.ld 27 1 false 26,.fa 28 6 3,.ld 29 1 false 28,.bin 30 .neq 27 29]) (.cond 30 (.seq (.ops [.asg 4 (kB false)]) .ret) .skip)) (.seq (.seq (.ops [.fa 31 7 2,.ld 32 1 false 31,.fa 33 7 3,.ld 34 1 false 33,.bin 35 .neq 32 34]) (.cond 35 (.seq (.ops [.asg 4 (kB false)]) .ret) .skip)) (.seq (.seq (.ops [.fa 36 8 2,.ld 37 1 false 36,.fa 38 8 3,.ld 39 1 false 38,.call (some 40) 46 [37,39],.not 41 40]) (.cond 41 (.seq (.ops [.asg 4 (kB false)]) .ret) .skip)) (.seq (.seq (.ops [.fa 42 9 2,.ld 43 1 false 42,.fa 44 9 3,.ld 45 1 false 44,.call (some 46) 132 [43,45],.not 47 46]) (.cond 47 (.seq (.ops [.asg 4 (kB false)]) .ret) .skip)) (.seq (.ops [.asg 4 (kB true)]) .ret))))))))))
theorem bEd:aV Tryz.prog 89=some (bAq,[.mv 0 4],48):=by kernel_rfl
def cGh (r:Bool):Exit→St→Prop:=aU [.mv 0 4] fun x _=>x=(fun y=>(vB y)) r
def aJt:AC:=(.loop (.seq (.seq (.ops [.mv 11 5,.mv 12 0,.len 13 12,.bin 14 .lss 11 13]) (.cond 14 .skip (.exit 0))) (.seq (.block 1 (.seq (.dops [[],[],[0,1],[2],[],[],[4,5],[6],[3,7],[8]] [.mv 17 0,.mv 18 5,.ia 19 8 17 18,.ld 20 8 true 19,.mv 21 1,.mv 22 5,.ia 23 8 21 22,.ld 24 8 true 23,.call (some 25) 43 [20,24],.not 26 25]) (.cond 26 (.seq (.ops [.asg 4 (kB false)]) .ret) .skip))) (.ops [.mv 15 5,.bin 16 .add 15 (kI 1),.asg 5 16]))))
def aTp:AC:=(.seq (.ops [.asg 4 (kB true)]) .ret)
def bFz:AC:=(.seq (.ops [.asg 4 (kB false)]) (.seq (.seq (.ops [.mv 6 0,.len 7 6,.mv 8 1,.len 9 8,.bin 10 .neq 7 9]) (.cond 10 (.seq (.ops [.asg 4 (kB false)]) .ret) .skip)) (.seq (.seq (.ops [.asg 5 (kI 0)]) (.block 0 aJt)) aTp)))
theorem bGg:aV Tryz.prog 132=some (bFz,[.mv 0 4],27):=by kernel_rfl
def aQe (r:Bool):Exit→St→Prop:=aU [.mv 0 4] fun x _=>x=(fun y=>(vB y)) r
def bAs (r:Bool):Exit→St→Prop:=(bF (wkK (avc Tryz.prog aTp (aQe r))) (aQe r))
def bWu (r:Bool):Exit→St→Prop:=(bG 0 (bAs r))
def bT3 (p0:(List aB)) (p1:(List aB)) (x5:Int):St:=⟨[(0,(eG p0)),(1,(eG p1)),(5,(vI x5))],[]⟩
abbrev aCi (p0:(List aB)) (p1:(List aB)) (x5:Int) (r:Bool):Prop:=avc Tryz.prog aJt (bWu r) (bT3 p0 p1 x5)
def cCk:AC:=(.seq (.ops [.box 2 45 0,.box 3 45 1,.asg 4 (kB false)]) (.seq (.seq (.ops [.fa 5 0 2,.ld 6 1 false 5,.fa 7 0 3,.ld 8 1 false 7,.call (some 9) 45 [6,8],.not 10 9]) (.cond 10 (.seq (.ops [.asg 4 (kB false)]) .ret) .skip)) (.seq (.seq (.ops [.fa 11 1 2,.ld 12 1 false 11,.fa 13 1 3,.ld 14 1 false 13,.call (some 15) 44 [12,14],.not 16 15]) (.cond 16 (.seq (.ops [.asg 4 (kB false)]) .ret) .skip)) (.seq (.seq (.ops [.fa 17 2 2,.ld 18 1 false 17,.fa 19 2 3,.ld 20 1 false 19,.call (some 21) 46 [18,20],.not 22 21]) (.cond 22 (.seq (.ops [.asg 4 (kB false)]) .ret) .skip)) (.seq (.seq (.ops [.fa 23 3 2,.ld 24 1 false 23,.fa 25 3 3,.ld 26 1 false 25,.call (some 27) 87 [24,26],.not 28 27]) (.cond 28 (.seq (.ops [.asg 4 (kB false)]) .ret) .skip)) (.seq (.seq (.ops [.fa 29 4 2,.ld 30 1 false 29,.fa 31 4 3,.ld 32 1 false 31,.call (some 33) 46 [30,32],.not 34 33]) (.cond 34 (.seq (.ops [.asg 4 (kB false)]) .ret) .skip)) (.seq (.seq (.ops [.fa 35 5 2,.ld 36 1 false 35,.fa 37 5 3,.ld 38 1 false 37,.call (some 39) 88 [36,38],.not 40 39]) (.cond 40 (.seq (.ops [.asg 4 (kB false)]) .ret) .skip)) (.seq (.seq (.ops [.fa 41 6 2,.ld 42 1 false 41,.fa 43 6 3,.ld 44 1 false 43,.eqb 45 true 42 44]) (.cond 45 (.seq (.ops [.asg 4 (kB false)]) .ret) .skip)) (.seq (.seq (.ops [.fa 46 7 2,.ld 47 1 false 46,.fa 48 7 3,.ld 49 1 false 48,.bin 50 .neq 47 49]) (.cond 50 (.seq (.ops [.asg 4 (kB false)]) .ret) .skip)) (.seq (.ops [.asg 4 (kB true)]) .ret))))))))))
theorem bPj:aV Tryz.prog 43=some (cCk,[.mv 0 4],51):=by kernel_rfl
def cHn (r:Bool):Exit→St→Prop:=aU [.mv 0 4] fun x _=>x=(fun y=>(vB y)) r
def aNy:AC:=(.loop (.seq (.seq (.ops [.mv 11 5,.mv 12 0,.len 13 12,.bin 14 .lss 11 13]) (.cond 14 .skip (.exit 0))) (.seq (.block 1 (.seq (.dops [[],[],[0,1],[2],[],[],[4,5],[6],[3,7]] [.mv 17 0,.mv 18 5,.ia 19 1 17 18,.ld 20 1 false 19,.mv 21 1,.mv 22 5,.ia 23 1 21 22,.ld 24 1 false 23,.bin 25 .neq 20 24]) (.cond 25 (.seq (.ops [.asg 4 (kB false)]) .ret) .skip))) (.ops [.mv 15 5,.bin 16 .add 15 (kI 1),.asg 5 16]))))
def aV0:AC:=(.seq (.ops [.asg 4 (kB true)]) .ret)
def bDi:AC:=(.seq (.ops [.asg 4 (kB false)]) (.seq (.seq (.ops [.mv 6 0,.len 7 6,.mv 8 1,.len 9 8,.bin 10 .neq 7 9]) (.cond 10 (.seq (.ops [.asg 4 (kB false)]) .ret) .skip)) (.seq (.seq (.ops [.asg 5 (kI 0)]) (.block 0 aNy)) aV0)))
theorem bQz:aV Tryz.prog 45=some (bDi,[.mv 0 4],26):=by kernel_rfl
def aZl (r:Bool):Exit→St→Prop:=aU [.mv 0 4] fun x _=>x=(fun y=>(vB y)) r
def bYx (r:Bool):Exit→St→Prop:=(bF (wkK (avc Tryz.prog aV0 (aZl r))) (aZl r))
def bCk (r:Bool):Exit→St→Prop:=(bG 0 (bYx r))
def bG9 (p0:(List Int)) (p1:(List Int)) (x5:Int):St:=⟨[(0,(bX p0)),(1,(bX p1)),(5,(vI x5))],[]⟩
abbrev aEh (p0:(List Int)) (p1:(List Int)) (x5:Int) (r:Bool):Prop:=avc Tryz.prog aNy (bCk r) (bG9 p0 p1 x5)
def aNo:AC:=(.loop (.seq (.seq (.ops [.mv 11 5,.mv 12 0,.len 13 12,.bin 14 .lss 11 13]) (.cond 14 .skip (.exit 0))) (.seq (.block 1 (.seq (.dops [[],[],[0,1],[2],[],[],[4,5],[6],[3,7]] [.mv 17 0,.mv 18 5,.ia 19 1 17 18,.ld 20 1 false 19,.mv 21 1,.mv 22 5,.ia 23 1 21 22,.ld 24 1 false 23,.bin 25 .neq 20 24]) (.cond 25 (.seq (.ops [.asg 4 (kB false)]) .ret) .skip))) (.ops [.mv 15 5,.bin 16 .add 15 (kI 1),.asg 5 16]))))
def aV3:AC:=(.seq (.ops [.asg 4 (kB true)]) .ret)
def bMp:AC:=(.seq (.ops [.asg 4 (kB false)]) (.seq (.seq (.ops [.mv 6 0,.len 7 6,.mv 8 1,.len 9 8,.bin 10 .neq 7 9]) (.cond 10 (.seq (.ops [.asg 4 (kB false)]) .ret) .skip)) (.seq (.seq (.ops [.asg 5 (kI 0)]) (.block 0 aNo)) aV3)))
theorem bAi:aV Tryz.prog 88=some (bMp,[.mv 0 4],26):=by kernel_rfl
def aQl (r:Bool):Exit→St→Prop:=aU [.mv 0 4] fun x _=>x=(fun y=>(vB y)) r
def bAl (r:Bool):Exit→St→Prop:=(bF (wkK (avc Tryz.prog aV3 (aQl r))) (aQl r))
def bYz (r:Bool):Exit→St→Prop:=(bG 0 (bAl r))
def bDy (p0:(List (List UInt8))) (p1:(List (List UInt8))) (x5:Int):St:=⟨[(0,(fI p0)),(1,(fI p1)),(5,(vI x5))],[]⟩
abbrev aFw (p0:(List (List UInt8))) (p1:(List (List UInt8))) (x5:Int) (r:Bool):Prop:=avc Tryz.prog aNo (bYz r) (bDy p0 p1 x5)
def aN3:AC:=(.loop (.seq (.seq (.ops [.mv 11 5,.mv 12 0,.len 13 12,.bin 14 .lss 11 13]) (.cond 14 .skip (.exit 0))) (.seq (.block 1 (.seq (.dops [[],[],[0,1],[2],[],[],[4,5],[6],[3,7],[8]] [.mv 17 0,.mv 18 5,.ia 19 1 17 18,.ld 20 1 false 19,.mv 21 1,.mv 22 5,.ia 23 1 21 22,.ld 24 1 false 23,.call (some 25) 46 [20,24],.not 26 25]) (.cond 26 (.seq (.ops [.asg 4 (kB false)]) .ret) .skip))) (.ops [.mv 15 5,.bin 16 .add 15 (kI 1),.asg 5 16]))))
def aPm:AC:=(.seq (.ops [.asg 4 (kB true)]) .ret)
def bUx:AC:=(.seq (.ops [.asg 4 (kB false)]) (.seq (.seq (.ops [.mv 6 0,.len 7 6,.mv 8 1,.len 9 8,.bin 10 .neq 7 9]) (.cond 10 (.seq (.ops [.asg 4 (kB false)]) .ret) .skip)) (.seq (.seq (.ops [.asg 5 (kI 0)]) (.block 0 aN3)) aPm)))
theorem bWn:aV Tryz.prog 44=some (bUx,[.mv 0 4],27):=by kernel_rfl
def aYt (r:Bool):Exit→St→Prop:=aU [.mv 0 4] fun x _=>x=(fun y=>(vB y)) r
def bG7 (r:Bool):Exit→St→Prop:=(bF (wkK (avc Tryz.prog aPm (aYt r))) (aYt r))
def bFj (r:Bool):Exit→St→Prop:=(bG 0 (bG7 r))
def bN2 (p0:(List (List aA))) (p1:(List (List aA))) (x5:Int):St:=⟨[(0,(.d (.sl 1 (p0.map (cSl 10 aZ))))),(1,(.d (.sl 1 (p1.map (cSl 10 aZ))))),(5,(vI x5))],[]⟩
abbrev aBl (p0:(List (List aA))) (p1:(List (List aA))) (x5:Int) (r:Bool):Prop:=avc Tryz.prog aN3 (bFj r) (bN2 p0 p1 x5)
def aHq:AC:=(.loop (.seq (.seq (.ops [.mv 11 5,.mv 12 0,.len 13 12,.bin 14 .lss 11 13]) (.cond 14 .skip (.exit 0))) (.seq (.block 1 (.seq (.dops [[],[],[0,1],[2],[],[],[4,5],[6],[3,7],[8]] [.mv 17 0,.mv 18 5,.ia 19 11 17 18,.ld 20 11 true 19,.mv 21 1,.mv 22 5,.ia 23 11 21 22,.ld 24 11 true 23,.call (some 25) 130 [20,24],.not 26 25]) (.cond 26 (.seq (.ops [.asg 4 (kB false)]) .ret) .skip))) (.ops [.mv 15 5,.bin 16 .add 15 (kI 1),.asg 5 16]))))
def aRw:AC:=(.seq (.ops [.asg 4 (kB true)]) .ret)
def cAy:AC:=(.seq (.ops [.asg 4 (kB false)]) (.seq (.seq (.ops [.mv 6 0,.len 7 6,.mv 8 1,.len 9 8,.bin 10 .neq 7 9]) (.cond 10 (.seq (.ops [.asg 4 (kB false)]) .ret) .skip)) (.seq (.seq (.ops [.asg 5 (kI 0)]) (.block 0 aHq)) aRw)))
theorem bD8:aV Tryz.prog 87=some (cAy,[.mv 0 4],27):=by kernel_rfl
def aTe (r:Bool):Exit→St→Prop:=aU [.mv 0 4] fun x _=>x=(fun y=>(vB y)) r
def bMk (r:Bool):Exit→St→Prop:=(bF (wkK (avc Tryz.prog aRw (aTe r))) (aTe r))
def bJy (r:Bool):Exit→St→Prop:=(bG 0 (bMk r))
def bUe (p0:(List aY)) (p1:(List aY)) (x5:Int):St:=⟨[(0,(eP p0)),(1,(eP p1)),(5,(vI x5))],[]⟩
abbrev aBq (p0:(List aY)) (p1:(List aY)) (x5:Int) (r:Bool):Prop:=avc Tryz.prog aHq (bJy r) (bUe p0 p1 x5)
def bV8:AC:=(.seq (.ops [.box 2 110 0,.box 3 110 1,.asg 4 (kB false)]) (.seq (.seq (.ops [.fa 5 0 2,.ld 6 10 true 5,.fa 7 0 3,.ld 8 10 true 7,.call (some 9) 89 [6,8],.not 10 9]) (.cond 10 (.seq (.ops [.asg 4 (kB false)]) .ret) .skip)) (.seq (.seq (.ops [.fa 11 10 2,.ld 12 1 false 11,.fa 13 10 3,.ld 14 1 false 13,.eqb 15 true 12 14]) (.cond 15 (.seq (.ops [.asg 4 (kB false)]) .ret) .skip)) (.seq (.ops [.asg 4 (kB true)]) .ret))))
theorem bT8:aV Tryz.prog 130=some (bV8,[.mv 0 4],16):=by kernel_rfl
def cEw (r:Bool):Exit→St→Prop:=aU [.mv 0 4] fun x _=>x=(fun y=>(vB y)) r
def bHf:AC:=(.seq (.ops [.box 2 105 0,.box 3 105 1,.asg 4 (kB false)]) (.seq (.seq (.ops [.fa 5 0 2,.ld 6 1 false 5,.fa 7 0 3,.ld 8 1 false 7,.bin 9 .neq 6 8]) (.cond 9 (.seq (.ops [.asg 4 (kB false)]) .ret) .skip)) (.seq (.seq (.ops [.fa 10 1 2,.ld 11 1 false 10,.fa 12 1 3,.ld 13 1 false 12,.bin 14 .neq 11 13]) (.cond 14 (.seq (.ops [.asg 4 (kB false)]) .ret) .skip)) (.seq (.seq (.ops [.fa 15 2 2,.ld 16 1 false 15,.fa 17 2 3,.ld 18 1 false 17,.bin 19 .neq 16 18]) (.cond 19 (.seq (.ops [.asg 4 (kB false)]) .ret) .skip)) (.seq (.ops [.asg 4 (kB true)]) .ret)))))
theorem bWf:aV Tryz.prog 131=some (bHf,[.mv 0 4],20):=by kernel_rfl
def cG2 (r:Bool):Exit→St→Prop:=aU [.mv 0 4] fun x _=>x=(fun y=>(vB y)) r
def bTi:AC:=(.seq (.ops [.box 2 24 0,.asg 4 (kI 0)]) (.seq (.ops [.fa 5 0 2,.ld 6 1 false 5,.mv 7 1,.call (some 8) 12 [6,7],.asg 1 8]) (.seq (.seq (.ops [.mv 9 1,.bin 10 .lss 9 (kI 0)]) (.cond 10 (.seq (.ops [.asg 4 (kI (-1))]) .ret) .skip)) (.seq (.ops [.mv 11 1,.asg 4 11]) .ret))))
theorem bPc:aV Tryz.prog 4=some (bTi,[.mv 0 4],12):=by kernel_rfl
def cHr (r:Int):Exit→St→Prop:=aU [.mv 0 4] fun x _=>x=(fun y=>(vI y)) r
def aKh:AC:=(.loop (.seq (.seq (.ops [.mv 12 5,.mv 13 0,.len 14 13,.bin 15 .lss 12 14]) (.cond 15 .skip (.exit 0))) (.seq (.block 1 (.seq (.ops [.mv 18 0,.mv 19 5,.ia 20 2 18 19,.ld 21 2 true 20,.mv 22 1,.call (some 23) 47 [21,22],.asg 1 23]) (.seq (.ops [.mv 24 1,.bin 25 .lss 24 (kI 0)]) (.cond 25 (.seq (.ops [.asg 4 (kI (-1))]) .ret) .skip)))) (.ops [.mv 16 5,.bin 17 .add 16 (kI 1),.asg 5 17]))))
def aQv:AC:=(.seq (.ops [.mv 26 1,.asg 4 26]) .ret)
def bD7:AC:=(.seq (.ops [.asg 4 (kI 0)]) (.seq (.ops [.mv 6 1,.mv 7 0,.len 8 7,.bin 9 .sub 6 8,.asg 1 9]) (.seq (.seq (.ops [.mv 10 1,.bin 11 .lss 10 (kI 0)]) (.cond 11 (.seq (.ops [.asg 4 (kI (-1))]) .ret) .skip)) (.seq (.seq (.ops [.asg 5 (kI 0)]) (.block 0 aKh)) aQv))))
theorem bKr:aV Tryz.prog 12=some (bD7,[.mv 0 4],27):=by kernel_rfl
def aXn (r:Int):Exit→St→Prop:=aU [.mv 0 4] fun x _=>x=(fun y=>(vI y)) r
def cAg (r:Int):Exit→St→Prop:=(bF (wkK (avc Tryz.prog aQv (aXn r))) (aXn r))
def bRc (r:Int):Exit→St→Prop:=(bG 0 (cAg r))
def bZ7 (p0:(List bD)) (x1:Int) (x5:Int):St:=⟨[(0,(iA p0)),(1,(vI x1)),(5,(vI x5))],[]⟩
abbrev aB7 (p0:(List bD)) (x1:Int) (x5:Int) (r:Int):Prop:=avc Tryz.prog aKh (bRc r) (bZ7 p0 x1 x5)
def bCg:AC:=(.seq (.ops [.box 2 87 0,.asg 4 (kI 0)]) (.seq (.ops [.mv 5 1,.fa 6 0 2,.ld 7 1 false 6,.lns 8 7,.bin 9 .sub 5 8,.asg 1 9]) (.seq (.seq (.ops [.mv 10 1,.bin 11 .lss 10 (kI 0)]) (.cond 11 (.seq (.ops [.asg 4 (kI (-1))]) .ret) .skip)) (.seq (.ops [.fa 12 1 2,.ld 13 1 false 12,.mv 14 1,.call (some 15) 90 [13,14],.asg 1 15]) (.seq (.seq (.ops [.mv 16 1,.bin 17 .lss 16 (kI 0)]) (.cond 17 (.seq (.ops [.asg 4 (kI (-1))]) .ret) .skip)) (.seq (.ops [.mv 18 1,.asg 4 18]) .ret))))))
theorem bZu:aV Tryz.prog 47=some (bCg,[.mv 0 4],19):=by kernel_rfl
def cEd (r:Int):Exit→St→Prop:=aU [.mv 0 4] fun x _=>x=(fun y=>(vI y)) r
def aNi:AC:=(.loop (.seq (.seq (.ops [.mv 12 5,.mv 13 0,.len 14 13,.bin 15 .lss 12 14]) (.cond 15 .skip (.exit 0))) (.seq (.block 1 (.seq (.ops [.mv 18 0,.mv 19 5,.ia 20 2 18 19,.ld 21 2 true 20,.mv 22 1,.call (some 23) 133 [21,22],.asg 1 23]) (.seq (.ops [.mv 24 1,.bin 25 .lss 24 (kI 0)]) (.cond 25 (.seq (.ops [.asg 4 (kI (-1))]) .ret) .skip)))) (.ops [.mv 16 5,.bin 17 .add 16 (kI 1),.asg 5 17]))))
def aT0:AC:=(.seq (.ops [.mv 26 1,.asg 4 26]) .ret)
def bTn:AC:=(.seq (.ops [.asg 4 (kI 0)]) (.seq (.ops [.mv 6 1,.mv 7 0,.len 8 7,.bin 9 .sub 6 8,.asg 1 9]) (.seq (.seq (.ops [.mv 10 1,.bin 11 .lss 10 (kI 0)]) (.cond 11 (.seq (.ops [.asg 4 (kI (-1))]) .ret) .skip)) (.seq (.seq (.ops [.asg 5 (kI 0)]) (.block 0 aNi)) aT0))))
theorem cCj:aV Tryz.prog 90=some (bTn,[.mv 0 4],27):=by kernel_rfl
def aXk (r:Int):Exit→St→Prop:=aU [.mv 0 4] fun x _=>x=(fun y=>(vI y)) r
def bWa (r:Int):Exit→St→Prop:=(bF (wkK (avc Tryz.prog aT0 (aXk r))) (aXk r))
def bHb (r:Int):Exit→St→Prop:=(bG 0 (bWa r))
def bP4 (p0:(List bL)) (x1:Int) (x5:Int):St:=⟨[(0,(iB p0)),(1,(vI x1)),(5,(vI x5))],[]⟩
abbrev aG9 (p0:(List bL)) (x1:Int) (x5:Int) (r:Int):Prop:=avc Tryz.prog aNi (bHb r) (bP4 p0 x1 x5)
def cAd:AC:=(.seq (.ops [.box 2 156 0,.asg 4 (kI 0)]) (.seq (.ops [.mv 5 1,.fa 6 0 2,.ld 7 1 false 6,.lns 8 7,.bin 9 .sub 5 8,.asg 1 9]) (.seq (.seq (.ops [.mv 10 1,.bin 11 .lss 10 (kI 0)]) (.cond 11 (.seq (.ops [.asg 4 (kI (-1))]) .ret) .skip)) (.seq (.ops [.mv 12 1,.asg 4 12]) .ret))))
theorem bVv:aV Tryz.prog 133=some (cAd,[.mv 0 4],13):=by kernel_rfl
def cG9 (r:Int):Exit→St→Prop:=aU [.mv 0 4] fun x _=>x=(fun y=>(vI y)) r
def bOn:AC:=(.seq (.ops [.box 2 39 0,.box 3 47 1,.asg 4 (kB false)]) (.seq (.seq (.ops [.fa 6 0 3,.ld 7 1 false 6,.bin 8 .eql 7 (kI 1)]) (.cond 8 (.seq (.ops [.fa 9 9 3,.ld 10 1 false 9,.bin 11 .eql 10 (kI 0),.mv 12 11,.g 12 true (.fa 13 10 3),.g 12 true (.ld 14 1 false 13),.g 12 true (.len 15 14),.g 12 true (.bin 16 .eql 15 (kI 0)),.pick 17 12 16 (kB false),.mv 18 17,.g 18 true (.fa 19 11 3),.g 18 true (.ld 20 1 false 19),.g 18 true (.len 21 20),.g 18 true (.bin 22 .eql 21 (kI 0)),.pick 23 18 22 (kB false),.mv 24 23,.g 24 true (.fa 25 12 3),.g 24 true (.ld 26 1 false 25),.g 24 true (.len 27 26),.g 24 true (.bin 28 .eql 27 (kI 0)),.pick 29 24 28 (kB false),.mv 30 29,.g 30 true (.fa 31 13 3),.g 30 true (.ld 32 1 false 31),.g 30 true (.len 33 32),.g 30 true (.bin 34 .eql 33 (kI 0)),.pick 35 30 34 (kB false),.mv 36 35,.g 36 true (.ld 37 1 true 2),.g 36 true (.fa 38 1 3),.g 36 true (.ld 39 8 true 38),.g 36 true (.call (some 40) 31 [37,39]),.pick 41 36 40 (kB false),.asg 4 41]) .ret) .skip)) (.seq (.seq (.dops [[],[0],[1],[2,1],[3],[4,3],[5,3],[3,6],[7,3],[8],[9,8],[8],[11,8],[12,8],[10,13,8],[8,14],[15,8],[16],[17,16],[18,16,16],[19,16],[16,20],[21,19],[22],[23,22,22],[24,24,22],[22],[26,25,22],[27,27,22],[25,28,28,22],[29,22],[22,30]] [.ld 42 1 true 2,.call (some 43) 32 [42],.not 44 43,.mv 45 44,.g 45 false (.fa 46 9 3),.g 45 false (.ld 47 1 false 46),.g 45 false (.bin 48 .lss 47 (kI 0)),.pick 49 45 (kB true) 48,.mv 50 49,.g 50 false (.fa 51 9 3),.g 50 false (.ld 52 1 false 51),.g 50 false (.fa 53 0 2),.g 50 false (.ld 54 1 false 53),.g 50 false (.len 55 54),.g 50 false (.bin 56 .geq 52 55),.pick 57 50 (kB true) 56,.mv 58 57,.g 58 false (.fa 59 1 3),.g 58 false (.ld 60 8 true 59),.g 58 false (.call (some 61) 33 [60]),.g 58 false (.not 62 61),.pick 63 58 (kB true) 62,.mv 64 63,.g 64 false (.ld 65 14 true 3),.g 64 false (.call (some 66) 36 [65]),.g 64 false (.call (some 67) 35 [66]),.g 64 false (.ld 68 14 true 3),.g 64 false (.call (some 69) 36 [68]),.g 64 false (.call (some 70) 37 [69]),.g 64 false (.call (some 71) 34 [67,70]),.g 64 false (.not 72 71),.pick 73 64 (kB true) 72]) (.cond 73 (.seq (.ops [.asg 4 (kB false)]) .ret) .skip)) (.seq (.ops [.fa 74 0 2,.ld 75 1 false 74,.fa 76 9 3,.ld 77 1 false 76,.ia 78 2 75 77,.ld 79 2 true 78,.call (some 80) 38 [79],.asg 5 80]) (.seq (.seq (.ops [.fa 81 0 3,.ld 82 1 false 81,.bin 83 .eql 82 (kI 2)]) (.cond 83 (.seq (.ops [.fa 84 11 3,.ld 85 1 false 84,.len 86 85,.bin 87 .eql 86 (kI 0),.mv 88 87,.g 88 true (.fa 89 12 3),.g 88 true (.ld 90 1 false 89),.g 88 true (.len 91 90),.g 88 true (.bin 92 .eql 91 (kI 0)),.pick 93 88 92 (kB false),.mv 94 93,.g 94 true (.fa 95 13 3),.g 94 true (.ld 96 1 false 95),.g 94 true (.len 97 96),.g 94 true (.bin 98 .eql 97 (kI 0)),.pick 99 94 98 (kB false),.mv 100 99,.g 100 true (.ld 101 1 true 2),.g 100 true (.mv 102 5),.g 100 true (.fa 103 10 3),.g 100 true (.ld 104 1 false 103),.g 100 true (.call (some 105) 39 [101,102,104]),.pick 106 100 105 (kB false),.asg 4 106]) .ret) .skip)) (.seq (.seq (.ops [.fa 107 10 3,.ld 108 1 false 107,.len 109 108,.bin 110 .gtr 109 (kI 0),.mv 111 110,.g 111 false (.fa 112 13 3),.g 111 false (.ld 113 1 false 112),.g 111 false (.len 114 113),.g 111 false (.bin 115 .gtr 114 (kI 1)),.pick 116 111 (kB true) 115,.mv 117 116,.g 117 false (.ld 118 1 true 2),.g 117 false (.mv 119 5),.g 117 false (.bsl 120 25 1 [119]),.g 117 false (.fa 121 13 3),.g 117 false (.ld 122 1 false 121),.g 117 false (.call (some 123) 40 [118,120,122]),.g 117 false (.not 124 123),.pick 125 117 (kB true) 124]) (.cond 125 (.seq (.ops [.asg 4 (kB false)]) .ret) .skip)) (.seq (.seq (.ops [.fa 126 0 3,.ld 127 1 false 126]) (.block 0 (.seq (.ops [.bin 129 .eql 127 (kI 3),.asg 128 129]) (.cond 128 (.seq (.ops [.ld 130 1 true 2,.mv 131 5,.ld 132 14 true 3,.call (some 133) 41 [130,131,132],.asg 4 133]) .ret) (.seq (.ops [.bin 135 .eql 127 (kI 4),.asg 134 135]) (.cond 134 (.seq (.ops [.fa 136 11 3,.ld 137 1 false 136,.len 138 137,.bin 139 .eql 138 (kI 0),.mv 140 139,.g 140 true (.fa 141 12 3),.g 140 true (.ld 142 1 false 141),.g 140 true (.len 143 142),.g 140 true (.bin 144 .eql 143 (kI 0)),.pick 145 140 144 (kB false),.asg 4 145]) .ret) .skip)))))) (.seq (.ops [.asg 4 (kB false)]) .ret))))))))
theorem bO6:aV Tryz.prog 9=some (bOn,[.mv 0 4],146):=by kernel_rfl
def cEh (r:Bool):Exit→St→Prop:=aU [.mv 0 4] fun x _=>x=(fun y=>(vB y)) r
def aJ8:AC:=(.loop (.seq (.ops [.bin 25 .lss 24 23]) (.seq (.cond 25 .skip (.exit 2)) (.seq (.block 3 (.seq (.ops [.mv 26 24,.ia 27 10 22 24,.ld 28 10 true 27,.alc 10 pE,.asg 9 26,.st 10 10 28]) (.seq (.dops [[],[],[],[],[2,3],[4],[0,1,5],[6]] [.ld 29 1 true 3,.ld 30 10 true 10,.mv 31 1,.mv 32 9,.ia 33 1 31 32,.ld 34 1 false 33,.call (some 35) 80 [29,(.c (.nil 1)),30,34],.not 36 35]) (.cond 36 (.seq (.ops [.asg 6 (kB false)]) .ret) .skip)))) (.ops [.bin 37 .add 24 (kI 1),.mv 24 37])))))
def aTh:AC:=(.ops [.bin 38 .add 13 (kI 1),.mv 13 38])
def aCm:AC:=(.loop (.seq (.ops [.bin 14 .lss 13 12]) (.seq (.cond 14 .skip (.exit 0)) (.seq (.block 1 (.seq (.ops [.ia 15 1 11 13,.ld 16 1 false 15,.asg 8 16]) (.seq (.seq (.ops [.mv 17 8,.len 18 17,.mv 19 1,.len 20 19,.bin 21 .neq 18 20]) (.cond 21 (.seq (.ops [.asg 6 (kB false)]) .ret) .skip)) (.seq (.ops [.mv 22 8,.len 23 22,.mv 24 (kI 0)]) (.block 2 aJ8))))) aTh))))
def aYm:AC:=(.seq (.ops [.mv 39 2,.len 40 39,.bin 41 .geq 40 (kI 1),.mv 42 41,.g 42 true (.mv 43 2),.g 42 true (.len 44 43),.g 42 true (.bin 45 .leq 44 (kI 5)),.pick 46 42 45 (kB false),.asg 6 46]) .ret)
def bZ9:AC:=(.seq (.ops [.box 3 39 0,.asg 6 (kB false)]) (.seq (.seq (.ops [.mv 11 2,.len 12 11,.mv 13 (kI 0)]) (.block 0 aCm)) aYm))
theorem bXz:aV Tryz.prog 39=some (bZ9,[.mv 0 6],47):=by kernel_rfl
def aXo (r:Bool):Exit→St→Prop:=aU [.mv 0 6] fun x _=>x=(fun y=>(vB y)) r
def bYs (r:Bool):Exit→St→Prop:=(bF (wkK (avc Tryz.prog aYm (aXo r))) (aXo r))
def aJc (r:Bool):Exit→St→Prop:=(bG 0 (bYs r))
def aTa (r:Bool):Exit→St→Prop:=(bF (avc Tryz.prog aCm (aJc r)) (aJc r))
def bRe (r:Bool):Exit→St→Prop:=(bF (wkK (avc Tryz.prog aTh (aTa r))) (aTa r))
def bUo (r:Bool):Exit→St→Prop:=(bG 1 (bRe r))
def bCy (r:Bool):Exit→St→Prop:=(bG 2 (bUo r))
def cCe (p1:(List Int)) (p2:(List (List aA))) (p0:aJ) (x13:Int):St:=⟨[(1,(bX p1)),(2,(.d (.sl 1 (p2.map (cSl 10 aZ))))),(3,(.ptr 3 0)),(11,(.d (.sl 1 (p2.map (cSl 10 aZ))))),(12,(vI (p2.length:Int))),(13,(vI x13))],[(3,dJ p0)]⟩
abbrev aBn (p1:(List Int)) (p2:(List (List aA))) (p0:aJ) (x13:Int) (r:Bool):Prop:=avc Tryz.prog aCm (aJc r) (cCe p1 p2 p0 x13)
def bLj (p1:(List Int)) (p2:(List (List aA))) (x13:Int) (y1:(List aA)) (p0:aJ) (x24:Int):St:=⟨[(1,(bX p1)),(2,(.d (.sl 1 (p2.map (cSl 10 aZ))))),(3,(.ptr 3 0)),(11,(.d (.sl 1 (p2.map (cSl 10 aZ))))),(12,(vI (p2.length:Int))),(13,(vI x13)),(22,(bN y1)),(23,(vI (y1.length:Int))),(24,(vI x24))],[(3,dJ p0)]⟩
abbrev aGa (p1:(List Int)) (p2:(List (List aA))) (x13:Int) (y1:(List aA)) (p0:aJ) (x24:Int) (r:Bool):Prop:=avc Tryz.prog aJ8 (bCy r) (bLj p1 p2 x13 y1 p0 x24)
def bB1:AC:=(.seq (.ops [.box 4 39 0,.box 6 108 2,.asg 8 (kB false)]) (.seq (.ops [.ld 12 1 true 4,.mv 13 1,.ld 14 10 true 6,.call (some 15) 83 [12,13,14],.mv 11 15,.ext 16 11 0,.ext 17 11 1,.asg 9 16,.asg 10 17]) (.seq (.seq (.ops [.mv 18 10,.not 19 18]) (.cond 19 (.seq (.ops [.asg 8 (kB false)]) .ret) .skip)) (.seq (.ops [.mv 21 9,.mv 22 3,.call (some 23) 124 [21,22],.mv 20 23,.ext 24 20 0,.ext 25 20 1,.asg 10 25]) (.seq (.ops [.mv 26 10,.asg 8 26]) .ret)))))
theorem bOw:aV Tryz.prog 80=some (bB1,[.mv 0 8],27):=by kernel_rfl
def cGi (r:Bool):Exit→St→Prop:=aU [.mv 0 8] fun x _=>x=(fun y=>(vB y)) r
def cBk:AC:=(.seq (.ops [.asg 4 (kI 0),.asg 5 (kB false)]) (.seq (.block 0 (.seq (.ops [.mv 7 0,.call (some 8) 146 [7],.not 9 8,.mv 10 9,.g 10 false (.mv 11 1),.g 10 false (.call (some 12) 146 [11]),.g 10 false (.not 13 12),.pick 14 10 (kB true) 13,.asg 6 14]) (.cond 6 (.seq (.ops [.asg 4 (kI 0),.asg 5 (kB false)]) .ret) (.seq (.ops [.mv 16 0,.bin 17 .eql 16 (kI 0),.asg 15 17]) (.cond 15 (.seq (.ops [.mv 18 1,.asg 4 18,.asg 5 (kB true)]) .ret) (.seq (.ops [.mv 20 1,.bin 21 .eql 20 (kI 0),.mv 22 21,.g 22 false (.mv 23 0),.g 22 false (.mv 24 1),.g 22 false (.bin 25 .eql 23 24),.pick 26 22 (kB true) 25,.asg 19 26]) (.cond 19 (.seq (.ops [.mv 27 0,.asg 4 27,.asg 5 (kB true)]) .ret) .skip))))))) (.seq (.ops [.asg 4 (kI 0),.asg 5 (kB false)]) .ret)))
theorem cD2:aV Tryz.prog 124=some (cBk,[.mv 0 4,.mv 0 5],28):=by kernel_rfl
def cI2 (r:Int×Bool):Exit→St→Prop:=aU [.mv 0 4,.mv 0 5] fun x _=>x=(fun y=>(.tup [(vI y.1),(vB y.2)])) r
def bEb:AC:=(.seq (.ops [.asg 2 (kB false)]) (.seq (.ops [.mv 3 0,.bin 4 .geq 3 (kI 0),.mv 5 4,.g 5 true (.mv 6 0),.g 5 true (.bin 7 .leq 6 (kI 3)),.pick 8 5 7 (kB false),.asg 2 8]) .ret))
theorem bI2:aV Tryz.prog 146=some (bEb,[.mv 0 2],9):=by kernel_rfl
def cF2 (r:Bool):Exit→St→Prop:=aU [.mv 0 2] fun x _=>x=(fun y=>(vB y)) r
def aMy:AC:=(.loop (.seq (.ops [.bin 65 .lss 64 63]) (.seq (.cond 65 .skip (.exit 0)) (.seq (.block 1 (.seq (.ops [.ia 66 10 62 64,.ld 67 10 true 66,.alc 11 pE,.st 10 11 67]) (.seq (.ops [.ld 69 1 true 3,.mv 70 1,.ld 71 10 true 11,.call (some 72) 83 [69,70,71],.mv 68 72,.ext 73 68 0,.ext 74 68 1,.asg 12 73,.asg 13 74]) (.seq (.seq (.ops [.mv 75 13,.not 76 75]) (.cond 76 (.seq (.ops [.asg 6 (kI 0),.asg 7 (kB false)]) .ret) .skip)) (.ops [.mv 77 8,.mv 78 12,.bsl 79 3 1 [78],.app 80 3 1 8 77 79,.asg 8 80]))))) (.ops [.bin 81 .add 64 (kI 1),.mv 64 81])))))
def aJ6:AC:=(.loop (.seq (.ops [.bin 86 .lss 85 84]) (.seq (.cond 86 .skip (.exit 2)) (.seq (.block 3 (.seq (.ops [.ia 87 8 83 85,.ld 88 8 true 87,.alc 15 xG,.st 8 15 88]) (.seq (.ops [.ld 90 1 true 3,.mv 91 1,.ld 92 8 true 15,.call (some 93) 74 [90,91,92],.mv 89 93,.ext 94 89 0,.ext 95 89 1,.asg 16 94,.asg 17 95]) (.seq (.seq (.ops [.mv 96 17,.not 97 96,.mv 98 97,.g 98 false (.fa 99 0 5),.g 98 false (.ld 100 1 false 99),.g 98 false (.bin 101 .eql 100 (kI 8)),.g 98 false (.mv 102 101),.g 102 true (.mv 103 16),.g 102 true (.len 104 103),.g 102 true (.bin 105 .neq 104 (kI 1)),.g 98 false (.pick 106 102 105 (kB false)),.pick 107 98 (kB true) 106]) (.cond 107 (.seq (.ops [.asg 6 (kI 0),.asg 7 (kB false)]) .ret) .skip)) (.ops [.mv 108 16,.asg 9 108]))))) (.ops [.bin 109 .add 85 (kI 1),.mv 85 109])))))
def aRb:AC:=(.seq (.ops [.ld 110 10 true 5,.mv 111 8,.mv 112 9,.call (some 113) 127 [110,111,112],.ext 114 113 0,.ext 115 113 1,.asg 6 114,.asg 7 115]) .ret)
def aRs:AC:=(.seq (.seq (.ops [.fa 82 9 5,.ld 83 1 false 82,.len 84 83,.mv 85 (kI 0)]) (.block 2 aJ6)) aRb)
def bMx:AC:=(.seq (.ops [.box 3 39 0,.box 5 108 2,.asg 6 (kI 0),.asg 7 (kB false)]) (.seq (.seq (.ops [.ld 18 10 true 5,.call (some 19) 126 [18],.not 20 19]) (.cond 20 (.seq (.ops [.asg 6 (kI 0),.asg 7 (kB false)]) .ret) .skip)) (.seq (.seq (.ops [.fa 21 0 5,.ld 22 1 false 21,.bin 23 .eql 22 (kI 2)]) (.cond 23 (.seq (.seq (.dops [[],[0],[1],[2],[3],[4,3],[3],[6,3],[5,7,3],[3,8],[9,3],[10],[11,10],[12,10],[10,13],[14,10],[15],[16,15],[15],[15],[19,15],[18,20,15],[21,15],[22,15],[17,23,15],[15,24]] [.fa 24 6 5,.ld 25 1 false 24,.bin 26 .lss 25 (kI 0),.mv 27 26,.g 27 false (.fa 28 6 5),.g 27 false (.ld 29 1 false 28),.g 27 false (.mv 30 1),.g 27 false (.len 31 30),.g 27 false (.bin 32 .geq 29 31),.pick 33 27 (kB true) 32,.mv 34 33,.g 34 false (.fa 35 7 5),.g 34 false (.ld 36 1 false 35),.g 34 false (.bin 37 .lss 36 (kI 0)),.pick 38 34 (kB true) 37,.mv 39 38,.g 39 false (.fa 40 7 5),.g 39 false (.ld 41 1 false 40),.g 39 false (.mv 42 1),.g 39 false (.fa 43 6 5),.g 39 false (.ld 44 1 false 43),.g 39 false (.ia 45 1 42 44),.g 39 false (.ld 46 1 false 45),.g 39 false (.len 47 46),.g 39 false (.bin 48 .geq 41 47),.pick 49 39 (kB true) 48]) (.cond 49 (.seq (.ops [.asg 6 (kI 0),.asg 7 (kB false)]) .ret) .skip)) (.seq (.dops [[],[],[1],[0,2],[3],[],[5],[4,6],[7],[8,0,1,2,3,4,5,6,7,8],[9,0,1,2,3,4,5,6,7,8,9]] [.mv 50 1,.fa 51 6 5,.ld 52 1 false 51,.ia 53 1 50 52,.ld 54 1 false 53,.fa 55 7 5,.ld 56 1 false 55,.ia 57 1 54 56,.ld 58 1 false 57,.asg 6 58,.asg 7 (kB true)]) .ret)) .skip)) (.seq (.ops [.bsl 59 3 1 [],.bsl 60 3 1 [],.asg 8 59,.asg 9 60]) (.seq (.seq (.ops [.fa 61 8 5,.ld 62 1 false 61,.len 63 62,.mv 64 (kI 0)]) (.block 0 aMy)) aRs)))))
theorem bS4:aV Tryz.prog 83=some (bMx,[.mv 0 6,.mv 0 7],116):=by kernel_rfl
def aD6 (r:Int×Bool):Exit→St→Prop:=aU [.mv 0 6,.mv 0 7] fun x _=>x=(fun y=>(.tup [(vI y.1),(vB y.2)])) r
def bZ8 (r:Int×Bool):Exit→St→Prop:=(bF (wkK (avc Tryz.prog aRs (aD6 r))) (aD6 r))
def cA3 (r:Int×Bool):Exit→St→Prop:=(bG 0 (bZ8 r))
def bJk (r:Int×Bool):Exit→St→Prop:=(bF (wkK (avc Tryz.prog aRb (aD6 r))) (aD6 r))
def bTe (r:Int×Bool):Exit→St→Prop:=(bG 2 (bJk r))
def cC2 (p1:(List (List Int))) (p2:aA) (p0:aJ) (x8:(List Int)) (x64:Int):St:=⟨[(1,(.d (.sl 1 (p1.map (cSl 1 cI))))),(3,(.ptr 3 0)),(5,(.ptr 5 0)),(8,(.osl 8 3 1 (x8.map cI))),(9,(.osl 9 3 1 (([]:List Int).map cI))),(62,(bN p2.kids)),(63,(vI (p2.kids.length:Int))),(64,(vI x64))],[(3,dJ p0),(5,mW p2)]⟩
abbrev aFr (p1:(List (List Int))) (p2:aA) (p0:aJ) (x8:(List Int)) (x64:Int) (r:Int×Bool):Prop:=avc Tryz.prog aMy (cA3 r) (cC2 p1 p2 p0 x8 x64)
def bXo (p1:(List (List Int))) (x8:(List Int)) (p2:aA) (p0:aJ) (x9:(List Int)) (x85:Int):St:=⟨[(1,(.d (.sl 1 (p1.map (cSl 1 cI))))),(3,(.ptr 3 0)),(5,(.ptr 5 0)),(8,(.osl 8 3 1 (x8.map cI))),(9,(.osl 9 3 1 (x9.map cI))),(83,(eG p2.sub)),(84,(vI (p2.sub.length:Int))),(85,(vI x85))],[(3,dJ p0),(5,mW p2)]⟩
abbrev aEm (p1:(List (List Int))) (x8:(List Int)) (p2:aA) (p0:aJ) (x9:(List Int)) (x85:Int) (r:Int×Bool):Prop:=avc Tryz.prog aJ6 (bTe r) (bXo p1 x8 p2 p0 x9 x85)
def aNb:AC:=(.loop (.seq (.ops [.bin 42 .lss 41 40]) (.seq (.cond 42 .skip (.exit 0)) (.seq (.block 1 (.seq (.ops [.mv 43 41,.ia 44 1 39 41,.ld 45 1 false 44,.asg 10 43,.asg 11 45]) (.seq (.dops [[],[],[1],[],[3],[2,4],[0,5],[6],[7],[7],[8,6,0,1,2,3,4,5,6,7,8],[9,10,0,1,2,3,4,5,6,7,8,9,10]] [.ld 47 1 true 3,.fa 48 0 5,.ld 49 1 false 48,.mv 50 10,.bin 51 .add 50 (kI 1),.slc 52 1 49 none (some 51) none,.call (some 53) 110 [47,52],.mv 46 53,.ext 54 46 0,.ext 55 46 1,.asg 12 54,.asg 13 55]) (.seq (.dops [[],[],[],[1,2],[],[0,3,4,3],[5]] [.ld 56 1 true 3,.mv 57 12,.mv 58 1,.call (some 59) 112 [57,58],.mv 60 11,.call (some 61) 40 [56,59,60],.not 62 61]) (.cond 62 (.seq (.ops [.asg 6 (.c (.nil 1)),.asg 7 (kB false)]) .ret) .skip))))) (.ops [.bin 63 .add 41 (kI 1),.mv 41 63])))))
def aIm:AC:=(.loop (.seq (.ops [.bin 77 .lss 76 75]) (.seq (.cond 77 .skip (.exit 2)) (.seq (.block 3 (.seq (.ops [.ia 78 11 74 76,.ld 79 11 true 78,.alc 16 K9,.st 11 16 79]) (.seq (.ops [.ld 81 1 true 3,.mv 82 14,.fa 83 0 16,.ld 84 10 true 83,.call (some 85) 83 [81,82,84],.mv 80 85,.ext 86 80 0,.ext 87 80 1,.asg 17 86,.asg 18 87]) (.seq (.ops [.mv 88 18,.not 89 88]) (.cond 89 (.seq (.ops [.asg 6 (.c (.nil 1)),.asg 7 (kB false)]) .ret) .skip))))) (.ops [.bin 90 .add 76 (kI 1),.mv 76 90])))))
def aMq:AC:=(.loop (.seq (.ops [.bin 96 .lss 95 94]) (.seq (.cond 96 .skip (.exit 4)) (.seq (.block 5 (.seq (.ops [.ia 97 10 93 95,.ld 98 10 true 97,.alc 21 pE,.st 10 21 98]) (.seq (.ops [.ld 100 1 true 3,.mv 101 14,.ld 102 10 true 21,.call (some 103) 83 [100,101,102],.mv 99 103,.ext 104 99 0,.ext 105 99 1,.asg 22 104,.asg 23 105]) (.seq (.seq (.ops [.mv 106 23,.not 107 106]) (.cond 107 (.seq (.ops [.asg 6 (.c (.nil 1)),.asg 7 (kB false)]) .ret) .skip)) (.ops [.mv 108 19,.mv 109 22,.bsl 110 3 1 [109],.app 111 3 1 8 108 110,.asg 19 111]))))) (.ops [.bin 112 .add 95 (kI 1),.mv 95 112])))))
def aS8:AC:=(.seq (.ops [.mv 113 19,.asg 6 113,.asg 7 (kB true)]) .ret)
def aS9:AC:=(.seq (.ops [.bsl 91 3 1 [],.asg 19 91]) (.seq (.seq (.ops [.fa 92 4 5,.ld 93 1 false 92,.len 94 93,.mv 95 (kI 0)]) (.block 4 aMq)) aS8))
def aX6:AC:=(.seq (.ops [.mv 64 8,.mv 65 1,.call (some 66) 112 [64,65],.asg 14 66]) (.seq (.seq (.ops [.ld 67 1 true 3,.mv 68 14,.fa 69 2 5,.ld 70 1 false 69,.call (some 71) 40 [67,68,70],.not 72 71]) (.cond 72 (.seq (.ops [.asg 6 (.c (.nil 1)),.asg 7 (kB false)]) .ret) .skip)) (.seq (.seq (.ops [.fa 73 3 5,.ld 74 1 false 73,.len 75 74,.mv 76 (kI 0)]) (.block 2 aIm)) aS9)))
def bNh:AC:=(.seq (.ops [.box 3 39 0,.box 5 45 2,.asg 6 (.c (.nil 1)),.asg 7 (kB false)]) (.seq (.ops [.ld 25 1 true 3,.fa 26 0 5,.ld 27 1 false 26,.call (some 28) 110 [25,27],.mv 24 28,.ext 29 24 0,.ext 30 24 1,.asg 8 29,.asg 9 30]) (.seq (.seq (.ops [.mv 31 9,.not 32 31,.mv 33 32,.g 33 false (.ld 34 8 true 5),.g 33 false (.call (some 35) 111 [34]),.g 33 false (.not 36 35),.pick 37 33 (kB true) 36]) (.cond 37 (.seq (.ops [.asg 6 (.c (.nil 1)),.asg 7 (kB false)]) .ret) .skip)) (.seq (.seq (.ops [.fa 38 1 5,.ld 39 1 false 38,.len 40 39,.mv 41 (kI 0)]) (.block 0 aNb)) aX6))))
theorem bYp:aV Tryz.prog 74=some (bNh,[.mv 0 6,.mv 0 7],114):=by kernel_rfl
def zB (r:(List Int)×Bool):Exit→St→Prop:=aU [.mv 0 6,.mv 0 7] fun x b=>x=(fun (y:(List Int)×Bool)=>(.tup [(.osl 2000000 3 1 (y.1.map cI)),(vB y.2)])) r∧eB ((fun (y:(List Int)×Bool)=>[]) r) b
def bQi (r:(List Int)×Bool):Exit→St→Prop:=(bF (wkK (avc Tryz.prog aX6 (zB r))) (zB r))
def bAx (r:(List Int)×Bool):Exit→St→Prop:=(bG 0 (bQi r))
def cAu (r:(List Int)×Bool):Exit→St→Prop:=(bF (wkK (avc Tryz.prog aS9 (zB r))) (zB r))
def bH3 (r:(List Int)×Bool):Exit→St→Prop:=(bG 2 (cAu r))
def cCs (r:(List Int)×Bool):Exit→St→Prop:=(bF (wkK (avc Tryz.prog aS8 (zB r))) (zB r))
def bY1 (r:(List Int)×Bool):Exit→St→Prop:=(bG 4 (cCs r))
def bUr (p1:(List (List Int))) (y1:(List Int)×Bool) (p2:aB) (p0:aJ) (x41:Int):St:=⟨[(1,(.d (.sl 1 (p1.map (cSl 1 cI))))),(3,(.ptr 3 0)),(5,(.ptr 5 0)),(8,(.osl 8 3 1 (y1.1.map cI))),(39,(.d (.sl 1 (p2.on_.map (cSl 10 aZ))))),(40,(vI (p2.on_.length:Int))),(41,(vI x41))],[(3,dJ p0),(5,jG p2)]⟩
abbrev aFo (p1:(List (List Int))) (y1:(List Int)×Bool) (p2:aB) (p0:aJ) (x41:Int) (r:(List Int)×Bool):Prop:=avc Tryz.prog aNb (bAx r) (bUr p1 y1 p2 p0 x41)
def bP0 (y9:(List (List Int))) (p2:aB) (p0:aJ) (x76:Int):St:=⟨[(3,(.ptr 3 0)),(5,(.ptr 5 0)),(14,(.osl 14 25 1 (y9.map (cSl 1 cI)))),(74,(eP p2.order)),(75,(vI (p2.order.length:Int))),(76,(vI x76))],[(3,dJ p0),(5,jG p2)]⟩
abbrev aGp (y9:(List (List Int))) (p2:aB) (p0:aJ) (x76:Int) (r:(List Int)×Bool):Prop:=avc Tryz.prog aIm (bH3 r) (bP0 y9 p2 p0 x76)
def bSv (y9:(List (List Int))) (p2:aB) (p0:aJ) (x19:(List Int)) (x95:Int):St:=⟨[(3,(.ptr 3 0)),(14,(.osl 14 25 1 (y9.map (cSl 1 cI)))),(19,(.osl 19 3 1 (x19.map cI))),(93,(bN p2.items)),(94,(vI (p2.items.length:Int))),(95,(vI x95))],[(3,dJ p0)]⟩
abbrev aGt (y9:(List (List Int))) (p2:aB) (p0:aJ) (x19:(List Int)) (x95:Int) (r:(List Int)×Bool):Prop:=avc Tryz.prog aMq (bY1 r) (bSv y9 p2 p0 x19 x95)
def aO6:AC:=(.loop (.seq (.ops [.bin 13 .lss 12 11]) (.seq (.cond 13 .skip (.exit 0)) (.seq (.block 1 (.seq (.ops [.ia 14 1 10 12,.ld 15 1 false 14,.asg 8 15]) (.seq (.seq (.ops [.mv 16 8,.bin 17 .lss 16 (kI 0),.mv 18 17,.g 18 false (.mv 19 8),.g 18 false (.fa 20 0 2),.g 18 false (.ld 21 1 false 20),.g 18 false (.len 22 21),.g 18 false (.bin 23 .geq 19 22),.pick 24 18 (kB true) 23]) (.cond 24 (.seq (.ops [.asg 4 (.c (.nil 1)),.asg 5 (kB false)]) .ret) .skip)) (.ops [.mv 25 6,.fa 26 0 2,.ld 27 1 false 26,.mv 28 8,.ia 29 2 27 28,.ld 30 2 true 29,.call (some 31) 38 [30],.app 32 3 1 8 25 31,.asg 6 32])))) (.ops [.bin 33 .add 12 (kI 1),.mv 12 33])))))
def aWa:AC:=(.seq (.ops [.mv 34 6,.asg 4 34,.asg 5 (kB true)]) .ret)
def bNy:AC:=(.seq (.ops [.box 2 39 0,.asg 4 (.c (.nil 1)),.asg 5 (kB false)]) (.seq (.ops [.bsl 9 3 1 [],.asg 6 9]) (.seq (.seq (.ops [.mv 10 1,.len 11 10,.mv 12 (kI 0)]) (.block 0 aO6)) aWa)))
theorem bHn:aV Tryz.prog 110=some (bNy,[.mv 0 4,.mv 0 5],35):=by kernel_rfl
def aUe (r:(List Int)×Bool):Exit→St→Prop:=aU [.mv 0 4,.mv 0 5] fun x b=>x=(fun (y:(List Int)×Bool)=>(.tup [(.osl 2000000 3 1 (y.1.map cI)),(vB y.2)])) r∧eB ((fun (y:(List Int)×Bool)=>[]) r) b
def cCg (r:(List Int)×Bool):Exit→St→Prop:=(bF (wkK (avc Tryz.prog aWa (aUe r))) (aUe r))
def bKh (r:(List Int)×Bool):Exit→St→Prop:=(bG 0 (cCg r))
def bL4 (p1:(List Int)) (p0:aJ) (x6:(List Int)) (x12:Int):St:=⟨[(2,(.ptr 2 0)),(6,(.osl 6 3 1 (x6.map cI))),(10,(bX p1)),(11,(vI (p1.length:Int))),(12,(vI x12))],[(2,dJ p0)]⟩
abbrev aF0 (p1:(List Int)) (p0:aJ) (x6:(List Int)) (x12:Int) (r:(List Int)×Bool):Prop:=avc Tryz.prog aO6 (bKh r) (bL4 p1 p0 x6 x12)
def aNp:AC:=(.loop (.seq (.ops [.bin 11 .lss 10 9]) (.seq (.cond 11 .skip (.exit 0)) (.seq (.block 1 (.seq (.ops [.ia 12 2 8 10,.ld 13 2 true 12,.alc 5 [fU,bQ],.st 2 5 13]) (.ops [.mv 14 3,.fa 15 1 5,.ld 16 1 false 15,.bsl 17 3 1 [16],.app 18 3 1 8 14 17,.asg 3 18]))) (.ops [.bin 19 .add 10 (kI 1),.mv 10 19])))))
def aUs:AC:=(.seq (.ops [.mv 20 3,.asg 2 20]) .ret)
def cD0:AC:=(.seq (.ops [.box 1 65 0,.asg 2 (.c (.nil 1))]) (.seq (.ops [.bsl 6 3 1 [],.asg 3 6]) (.seq (.seq (.ops [.fa 7 1 1,.ld 8 1 false 7,.len 9 8,.mv 10 (kI 0)]) (.block 0 aNp)) aUs)))
theorem bIm:aV Tryz.prog 38=some (cD0,[.mv 0 2],21):=by kernel_rfl
def aWt (r:(List Int)):Exit→St→Prop:=aU [.mv 0 2] fun x _=>x=(fun y=>(bX y)) r
def bU5 (r:(List Int)):Exit→St→Prop:=(bF (wkK (avc Tryz.prog aUs (aWt r))) (aWt r))
def bBs (r:(List Int)):Exit→St→Prop:=(bG 0 (bU5 r))
def bV7 (p0:bD) (x3:(List Int)) (x10:Int):St:=⟨[(3,(.osl 3 3 1 (x3.map cI))),(8,(iB p0.cols)),(9,(vI (p0.cols.length:Int))),(10,(vI x10))],[]⟩
abbrev aBa (p0:bD) (x3:(List Int)) (x10:Int) (r:(List Int)):Prop:=avc Tryz.prog aNp (bBs r) (bV7 p0 x3 x10)
def bM7:AC:=(.seq (.ops [.asg 4 (.c (.nil 1))]) (.seq (.ops [.mv 5 0,.bsl 6 25 1 [5],.mv 7 1,.app 8 25 1 24 6 7,.asg 4 8]) .ret))
theorem bRa:aV Tryz.prog 112=some (bM7,[.mv 0 4],9):=by kernel_rfl
def cF7 (r:(List (List Int))):Exit→St→Prop:=aU [.mv 0 4] fun x b=>x=(fun (y:(List (List Int)))=>(.osl 2000000 25 1 (y.map (cSl 1 cI)))) r∧eB ((fun (y:(List (List Int)))=>[]) r) b
def bJb:AC:=(.seq (.ops [.box 1 45 0,.asg 2 (kB false)]) (.seq (.seq (.ops [.fa 3 0 1,.ld 4 1 false 3,.len 5 4,.bin 6 .lss 5 (kI 1),.mv 7 6,.g 7 false (.fa 8 0 1),.g 7 false (.ld 9 1 false 8),.g 7 false (.len 10 9),.g 7 false (.bin 11 .gtr 10 (kI 3)),.pick 12 7 (kB true) 11,.mv 13 12,.g 13 false (.fa 14 1 1),.g 13 false (.ld 15 1 false 14),.g 13 false (.len 16 15),.g 13 false (.fa 17 0 1),.g 13 false (.ld 18 1 false 17),.g 13 false (.len 19 18),.g 13 false (.bin 20 .neq 16 19),.pick 21 13 (kB true) 20,.mv 22 21,.g 22 false (.fa 23 1 1),.g 22 false (.ld 24 1 false 23),.g 22 false (.ia 25 1 24 (kI 0)),.g 22 false (.ld 26 1 false 25),.g 22 false (.len 27 26),.g 22 false (.bin 28 .gtr 27 (kI 0)),.pick 29 22 (kB true) 28,.mv 30 29,.g 30 false (.fa 31 2 1),.g 30 false (.ld 32 1 false 31),.g 30 false (.len 33 32),.g 30 false (.bin 34 .gtr 33 (kI 1)),.pick 35 30 (kB true) 34,.mv 36 35,.g 36 false (.fa 37 3 1),.g 36 false (.ld 38 1 false 37),.g 36 false (.len 39 38),.g 36 false (.bin 40 .gtr 39 (kI 12)),.pick 41 36 (kB true) 40]) (.cond 41 (.seq (.ops [.asg 2 (kB false)]) .ret) .skip)) (.seq (.ops [.fa 42 4 1,.ld 43 1 false 42,.len 44 43,.bin 45 .geq 44 (kI 1),.mv 46 45,.g 46 true (.fa 47 4 1),.g 46 true (.ld 48 1 false 47),.g 46 true (.len 49 48),.g 46 true (.bin 50 .leq 49 (kI 12)),.pick 51 46 50 (kB false),.mv 52 51,.g 52 true (.fa 53 5 1),.g 52 true (.ld 54 1 false 53),.g 52 true (.len 55 54),.g 52 true (.fa 56 4 1),.g 52 true (.ld 57 1 false 56),.g 52 true (.len 58 57),.g 52 true (.bin 59 .eql 55 58),.pick 60 52 59 (kB false),.mv 61 60,.g 61 true (.fa 62 7 1),.g 61 true (.ld 63 1 false 62),.g 61 true (.bin 64 .geq 63 (kI (-1))),.pick 65 61 64 (kB false),.mv 66 65,.g 66 true (.fa 67 1 1),.g 66 true (.ld 68 1 false 67),.g 66 true (.call (some 69) 138 [68,(.c (.fn 139 []))]),.g 66 true (.not 70 69),.pick 71 66 70 (kB false),.mv 72 71,.g 72 true (.fa 73 5 1),.g 72 true (.ld 74 1 false 73),.g 72 true (.call (some 75) 140 [74,(.c (.fn 141 []))]),.g 72 true (.not 76 75),.pick 77 72 76 (kB false),.asg 2 77]) .ret)))
theorem bN5:aV Tryz.prog 111=some (bJb,[.mv 0 2],78):=by kernel_rfl
def cFo (r:Bool):Exit→St→Prop:=aU [.mv 0 2] fun x _=>x=(fun y=>(vB y)) r
def bZ6:AC:=(.seq (.ops [.asg 4 (kB false)]) (.seq (.ops [.mv 5 0,.mv 6 1,.call (some 7) 156 [5,6],.bin 8 .geq 7 (kI 0),.asg 4 8]) .ret))
theorem bG8:aV Tryz.prog 140=some (bZ6,[.mv 0 4],9):=by kernel_rfl
def cEl (r:Bool):Exit→St→Prop:=aU [.mv 0 4] fun x _=>x=(fun y=>(vB y)) r
def aM0:AC:=(.loop (.seq (.ops [.bin 9 .lss 8 7]) (.seq (.cond 9 .skip (.exit 0)) (.seq (.block 1 (.seq (.ops [.mv 10 8,.asg 5 10]) (.seq (.ops [.mv 11 1,.mv 12 0,.mv 13 5,.ia 14 1 12 13,.ld 15 1 false 14,.callv (some 16) 11 [15]]) (.cond 16 (.seq (.ops [.mv 17 5,.asg 4 17]) .ret) .skip)))) (.ops [.bin 18 .add 8 (kI 1),.mv 8 18])))))
def aP4:AC:=(.seq (.ops [.asg 4 (kI (-1))]) .ret)
def bWx:AC:=(.seq (.ops [.asg 4 (kI 0)]) (.seq (.seq (.ops [.mv 6 0,.len 7 6,.mv 8 (kI 0)]) (.block 0 aM0)) aP4))
theorem bT5:aV Tryz.prog 156=some (bWx,[.mv 0 4],19):=by kernel_rfl
def aRe (r:Int):Exit→St→Prop:=aU [.mv 0 4] fun x _=>x=(fun y=>(vI y)) r
def bKx (r:Int):Exit→St→Prop:=(bF (wkK (avc Tryz.prog aP4 (aRe r))) (aRe r))
def bT4 (r:Int):Exit→St→Prop:=(bG 0 (bKx r))
def bK8 (p0:(List (List UInt8))) (x8:Int):St:=⟨[(0,(fI p0)),(1,(.fn 141 [])),(7,(vI (p0.length:Int))),(8,(vI x8))],[]⟩
abbrev aDc (p0:(List (List UInt8))) (x8:Int) (r:Int):Prop:=avc Tryz.prog aM0 (bT4 r) (bK8 p0 x8)
def bI8:AC:=(.seq (.ops [.asg 2 (kB false)]) (.seq (.ops [.mv 3 0,.call (some 4) 113 [3],.not 5 4,.asg 2 5]) .ret))
theorem bOm:aV Tryz.prog 141=some (bI8,[.mv 0 2],6):=by kernel_rfl
def cE6 (r:Bool):Exit→St→Prop:=aU [.mv 0 2] fun x _=>x=(fun y=>(vB y)) r
def bJ9:AC:=(.seq (.ops [.asg 2 (kB false)]) (.seq (.ops [.mv 3 0,.lns 4 3,.bin 5 .geq 4 (kI 1),.mv 6 5,.g 6 true (.mv 7 0),.g 6 true (.lns 8 7),.g 6 true (.bin 9 .leq 8 (kI 20)),.pick 10 6 9 (kB false),.asg 2 10]) .ret))
theorem bWy:aV Tryz.prog 113=some (bJ9,[.mv 0 2],11):=by kernel_rfl
def cFn (r:Bool):Exit→St→Prop:=aU [.mv 0 2] fun x _=>x=(fun y=>(vB y)) r
def bCv:AC:=(.seq (.ops [.asg 4 (kB false)]) (.seq (.ops [.mv 5 0,.mv 6 1,.call (some 7) 155 [5,6],.bin 8 .geq 7 (kI 0),.asg 4 8]) .ret))
theorem bG4:aV Tryz.prog 138=some (bCv,[.mv 0 4],9):=by kernel_rfl
def cEt (r:Bool):Exit→St→Prop:=aU [.mv 0 4] fun x _=>x=(fun y=>(vB y)) r
def aNu:AC:=(.loop (.seq (.ops [.bin 9 .lss 8 7]) (.seq (.cond 9 .skip (.exit 0)) (.seq (.block 1 (.seq (.ops [.mv 10 8,.asg 5 10]) (.seq (.ops [.mv 11 1,.mv 12 0,.mv 13 5,.ia 14 1 12 13,.ld 15 1 false 14,.callv (some 16) 11 [15]]) (.cond 16 (.seq (.ops [.mv 17 5,.asg 4 17]) .ret) .skip)))) (.ops [.bin 18 .add 8 (kI 1),.mv 8 18])))))
def aOn:AC:=(.seq (.ops [.asg 4 (kI (-1))]) .ret)
def bIr:AC:=(.seq (.ops [.asg 4 (kI 0)]) (.seq (.seq (.ops [.mv 6 0,.len 7 6,.mv 8 (kI 0)]) (.block 0 aNu)) aOn))
theorem bU7:aV Tryz.prog 155=some (bIr,[.mv 0 4],19):=by kernel_rfl
def aUq (r:Int):Exit→St→Prop:=aU [.mv 0 4] fun x _=>x=(fun y=>(vI y)) r
def bIf (r:Int):Exit→St→Prop:=(bF (wkK (avc Tryz.prog aOn (aUq r))) (aUq r))
def bEo (r:Int):Exit→St→Prop:=(bG 0 (bIf r))
def bIi (p0:(List (List aA))) (x8:Int):St:=⟨[(0,(.d (.sl 1 (p0.map (cSl 10 aZ))))),(1,(.fn 139 [])),(7,(vI (p0.length:Int))),(8,(vI x8))],[]⟩
abbrev aE7 (p0:(List (List aA))) (x8:Int) (r:Int):Prop:=avc Tryz.prog aNu (bEo r) (bIi p0 x8)
def bO3:AC:=(.seq (.ops [.asg 2 (kB false)]) (.seq (.ops [.mv 3 0,.len 4 3,.bin 5 .gtr 4 (kI 1),.asg 2 5]) .ret))
theorem bXg:aV Tryz.prog 139=some (bO3,[.mv 0 2],6):=by kernel_rfl
def cEr (r:Bool):Exit→St→Prop:=aU [.mv 0 2] fun x _=>x=(fun y=>(vB y)) r
def bYd:AC:=(.seq (.ops [.box 3 39 0,.box 4 66 1,.asg 6 (kB false)]) (.seq (.ops [.mv 7 2,.mkf 8 82 [3,4],.call (some 9) 81 [7,8],.not 10 9,.asg 6 10]) .ret))
theorem bXe:aV Tryz.prog 40=some (bYd,[.mv 0 6],11):=by kernel_rfl
def cG8 (r:Bool):Exit→St→Prop:=aU [.mv 0 6] fun x _=>x=(fun y=>(vB y)) r
def bVa:AC:=(.seq (.ops [.asg 4 (kB false)]) (.seq (.ops [.mv 5 0,.mv 6 1,.call (some 7) 125 [5,6],.bin 8 .geq 7 (kI 0),.asg 4 8]) .ret))
theorem bHp:aV Tryz.prog 81=some (bVa,[.mv 0 4],9):=by kernel_rfl
def cGc (c0:aJ) (c1_0:(List (List Int))) (r:Bool):Exit→St→Prop:=aU [.mv 0 4] fun x b=>x=(fun (y:Bool)=>(vB y)) r∧eB ((fun (y:Bool)=>[(1000000,dJ c0),(1000001,[(.d (.sl 1 (c1_0.map (cSl 1 cI))))])]) r) b
def aLd:AC:=(.loop (.seq (.ops [.bin 9 .lss 8 7]) (.seq (.cond 9 .skip (.exit 0)) (.seq (.block 1 (.seq (.ops [.mv 10 8,.asg 5 10]) (.seq (.ops [.mv 11 1,.mv 12 0,.mv 13 5,.ia 14 10 12 13,.ld 15 10 true 14,.callv (some 16) 11 [15]]) (.cond 16 (.seq (.ops [.mv 17 5,.asg 4 17]) .ret) .skip)))) (.ops [.bin 18 .add 8 (kI 1),.mv 8 18])))))
def aS2:AC:=(.seq (.ops [.asg 4 (kI (-1))]) .ret)
def bH4:AC:=(.seq (.ops [.asg 4 (kI 0)]) (.seq (.seq (.ops [.mv 6 0,.len 7 6,.mv 8 (kI 0)]) (.block 0 aLd)) aS2))
theorem bKc:aV Tryz.prog 125=some (bH4,[.mv 0 4],19):=by kernel_rfl
def aSm (c0:aJ) (c1_0:(List (List Int))) (r:Int):Exit→St→Prop:=aU [.mv 0 4] fun x b=>x=(fun (y:Int)=>(vI y)) r∧eB ((fun (y:Int)=>[(1000000,dJ c0),(1000001,[(.d (.sl 1 (c1_0.map (cSl 1 cI))))])]) r) b
def bHi (c0:aJ) (c1_0:(List (List Int))) (r:Int):Exit→St→Prop:=(bF (wkK (avc Tryz.prog aS2 (aSm c0 c1_0 r))) (aSm c0 c1_0 r))
def bTd (c0:aJ) (c1_0:(List (List Int))) (r:Int):Exit→St→Prop:=(bG 0 (bHi c0 c1_0 r))
def bBy (p0:(List aA)) (c0:aJ) (c1_0:(List (List Int))) (x8:Int):St:=⟨[(0,(bN p0)),(1,(.fn 82 [(.ptr 1000000 0),(.ptr 1000001 0)])),(7,(vI (p0.length:Int))),(8,(vI x8))],[(1000000,dJ c0),(1000001,[(.d (.sl 1 (c1_0.map (cSl 1 cI))))])]⟩
abbrev aD4 (p0:(List aA)) (c0:aJ) (c1_0:(List (List Int))) (x8:Int) (r:Int):Prop:=avc Tryz.prog aLd (bTd c0 c1_0 r) (bBy p0 c0 c1_0 x8)
def bVz:AC:=(.seq (.ops [.box 3 108 0,.asg 4 (kB false)]) (.seq (.ops [.ld 8 1 true 1,.ld 9 1 false 2,.ld 10 10 true 3,.call (some 11) 83 [8,9,10],.mv 7 11,.ext 12 7 0,.ext 13 7 1,.asg 5 12,.asg 6 13]) (.seq (.ops [.mv 14 6,.not 15 14,.mv 16 15,.g 16 false (.mv 17 5),.g 16 false (.call (some 18) 84 [17]),.g 16 false (.not 19 18),.pick 20 16 (kB true) 19,.asg 4 20]) .ret)))
theorem cCr:aV Tryz.prog 82=some (bVz,[.mv 0 4],21):=by kernel_rfl
def cEv (p1:aJ) (c1_0:(List (List Int))) (r:Bool):Exit→St→Prop:=aU [.mv 0 4] fun x b=>x=(fun (y:Bool)=>(vB y)) r∧eB ((fun (y:Bool)=>[(1000000,dJ p1),(1000001,[(.d (.sl 1 (c1_0.map (cSl 1 cI))))])]) r) b
def bI7:AC:=(.seq (.ops [.asg 2 (kB false)]) (.seq (.ops [.mv 3 0,.bin 4 .eql 3 (kI 0),.mv 5 4,.g 5 false (.mv 6 0),.g 5 false (.bin 7 .eql 6 (kI 3)),.pick 8 5 (kB true) 7,.asg 2 8]) .ret))
theorem bPf:aV Tryz.prog 84=some (bI7,[.mv 0 2],9):=by kernel_rfl
def cDk (r:Bool):Exit→St→Prop:=aU [.mv 0 2] fun x _=>x=(fun y=>(vB y)) r
def aJq:AC:=(.cond 40 (.seq (.ops [.asg 6 (kI 3),.asg 7 (kB true)]) .ret) .skip)
def aYc:AC:=(.seq (.seq (.ops [.mv 44 1,.call (some 45) 151 [44],.mv 46 2,.app 47 3 1 8 45 46,.call (some 48) 150 [47],.mv 43 48,.ext 49 43 0,.ext 50 43 1,.asg 8 49,.asg 9 50]) (.seq (.ops [.mv 51 9,.not 52 51]) (.cond 52 (.seq (.ops [.asg 6 (kI 0),.asg 7 (kB false)]) .ret) .skip))) (.seq (.ops [.asg 6 (kI 3),.asg 7 (kB true)]) .ret))
def bN4:AC:=(.seq (.ops [.box 3 108 0,.asg 6 (kI 0),.asg 7 (kB false)]) (.seq (.seq (.ops [.fa 10 0 3,.ld 11 1 false 10]) (.block 0 (.seq (.ops [.bin 13 .eql 11 (kI 1),.asg 12 13]) (.cond 12 (.seq (.ops [.fa 14 3 3,.fa 15 0 14,.ld 16 1 false 15,.asg 6 16,.asg 7 (kB true)]) .ret) (.seq (.ops [.bin 18 .eql 11 (kI 3),.asg 17 18]) (.cond 17 (.seq (.dops [[],[0],[],[2],[3],[1,4],[5],[5],[6,5,0,1,2,3,4,5,6,7],[7,8,0,1,2,3,4,5,6,7,8]] [.fa 19 1 3,.ld 20 1 false 19,.mv 21 1,.ia 22 1 21 (kI 0),.ld 23 1 false 22,.call (some 24) 148 [20,23],.ext 25 24 0,.ext 26 24 1,.asg 6 25,.asg 7 26]) .ret) (.seq (.ops [.bin 28 .eql 11 (kI 4),.asg 27 28]) (.cond 27 (.seq (.dops [[],[0],[],[2],[3],[],[5],[6],[1,4,7],[8],[8],[9,8,0,1,2,3,4,5,6,7,8,9,10],[10,11,0,1,2,3,4,5,6,7,8,9,10,11]] [.fa 29 1 3,.ld 30 1 false 29,.mv 31 1,.ia 32 1 31 (kI 0),.ld 33 1 false 32,.mv 34 1,.ia 35 1 34 (kI 1),.ld 36 1 false 35,.call (some 37) 149 [30,33,36],.ext 38 37 0,.ext 39 37 1,.asg 6 38,.asg 7 39]) .ret) (.seq (.seq (.ops [.bin 41 .eql 11 (kI 5),.asg 40 41]) (.cond 40 .skip (.ops [.bin 42 .eql 11 (kI 9),.asg 40 42]))) aJq))))))))) aYc))
theorem bPz:aV Tryz.prog 127=some (bN4,[.mv 0 6,.mv 0 7],53):=by kernel_rfl
def aYi (r:Int×Bool):Exit→St→Prop:=aU [.mv 0 6,.mv 0 7] fun x _=>x=(fun y=>(.tup [(vI y.1),(vB y.2)])) r
def bNw (r:Int×Bool):Exit→St→Prop:=(bF (wkK (avc Tryz.prog aYc (aYi r))) (aYi r))
def bIp (r:Int×Bool):Exit→St→Prop:=(bG 0 (bNw r))
def bLt (p1:(List Int)) (p2:(List Int)) (x40:Bool):St:=⟨[(1,(bX p1)),(2,(bX p2)),(40,(vB x40))],[]⟩
abbrev aWs (p1:(List Int)) (p2:(List Int)) (x40:Bool) (r:Int×Bool):Prop:=avc Tryz.prog aJq (bIp r) (bLt p1 p2 x40)
def aLj:AC:=(.seq (.seq (.ops [.mv 44 9,.not 45 44]) (.cond 45 (.seq (.ops [.asg 6 (kI 0),.asg 7 (kB false)]) .ret) .skip)) (.seq (.ops [.mv 46 8,.asg 6 46,.asg 7 (kB true)]) .ret))
def bL2:AC:=(.seq (.ops [.asg 6 (kI 0),.asg 7 (kB false)]) (.seq (.ops [.asg 8 (kI 0),.asg 9 (kB false)]) (.seq (.block 0 (.seq (.ops [.mv 14 0,.bin 15 .lss 14 (kI 1),.mv 16 15,.g 16 false (.mv 17 0),.g 16 false (.bin 18 .gtr 17 (kI 14)),.pick 19 16 (kB true) 18,.asg 13 19]) (.cond 13 .skip (.seq (.ops [.mv 21 0,.bin 22 .leq 21 (kI 2),.asg 20 22]) (.cond 20 (.ops [.mv 23 1,.call (some 24) 84 [23],.mv 25 24,.g 25 true (.mv 26 2),.g 25 true (.call (some 27) 84 [26]),.pick 28 25 27 (kB false),.asg 8 (kI 3),.asg 9 28]) (.seq (.ops [.mv 30 0,.bin 31 .leq 30 (kI 8),.asg 29 31]) (.cond 29 (.seq (.ops [.mv 33 1,.mv 34 2,.call (some 35) 124 [33,34],.mv 32 35,.ext 36 32 0,.ext 37 32 1,.asg 9 37]) (.ops [.asg 8 (kI 3)])) (.seq (.ops [.mv 39 0,.bin 40 .eql 39 (kI 9),.asg 38 40]) (.cond 38 (.ops [.mv 41 1,.mv 42 2,.call (some 43) 158 [(kI 2),41,42],.asg 8 (kI 2),.asg 9 43]) (.ops [.mv 10 1,.mv 11 2,.call (some 12) 158 [(kI 1),10,11],.asg 8 (kI 1),.asg 9 12])))))))))) aLj)))
theorem bH9:aV Tryz.prog 149=some (bL2,[.mv 0 6,.mv 0 7],47):=by kernel_rfl
def bD5 (r:Int×Bool):Exit→St→Prop:=aU [.mv 0 6,.mv 0 7] fun x _=>x=(fun y=>(.tup [(vI y.1),(vB y.2)])) r
def bYn (x8:Int) (x9:Bool):St:=⟨[(8,(vI x8)),(9,(vB x9))],[]⟩
abbrev aRk (x8:Int) (x9:Bool) (r:Int×Bool):Prop:=avc Tryz.prog aLj (bD5 r) (bYn x8 x9)
def bZm:AC:=(.seq (.ops [.asg 6 (kB false)]) (.seq (.ops [.mv 7 1,.mv 8 0,.bin 9 .eql 7 8,.mv 10 9,.g 10 false (.mv 11 1),.g 10 false (.bin 12 .eql 11 (kI 0)),.pick 13 10 (kB true) 12,.mv 14 13,.g 14 true (.mv 15 2),.g 14 true (.mv 16 0),.g 14 true (.bin 17 .eql 15 16),.g 14 true (.mv 18 17),.g 18 false (.mv 19 2),.g 18 false (.bin 20 .eql 19 (kI 0)),.g 14 true (.pick 21 18 (kB true) 20),.pick 22 14 21 (kB false),.asg 6 22]) .ret))
theorem bVf:aV Tryz.prog 158=some (bZm,[.mv 0 6],23):=by kernel_rfl
def cEf (r:Bool):Exit→St→Prop:=aU [.mv 0 6] fun x _=>x=(fun y=>(vB y)) r
def bJ0:AC:=(.seq (.ops [.asg 2 (.c (.nil 1))]) (.seq (.seq (.ops [.mv 3 0,.eqn 4 false 3]) (.cond 4 (.seq (.ops [.asg 2 (.c (.nil 1))]) .ret) .skip)) (.seq (.ops [.bsl 5 3 1 [],.mv 6 0,.app 7 3 1 8 5 6,.asg 2 7]) .ret)))
theorem cAj:aV Tryz.prog 151=some (bJ0,[.mv 0 2],8):=by kernel_rfl
def cFz (r:(List Int)):Exit→St→Prop:=aU [.mv 0 2] fun x b=>x=(fun (y:(List Int))=>(.osl 2000000 3 1 (y.map cI))) r∧eB ((fun (y:(List Int))=>[]) r) b
def bJw:AC:=(.seq (.ops [.asg 4 (kI 0),.asg 5 (kB false)]) (.seq (.block 0 (.seq (.ops [.mv 7 0,.bin 8 .eql 7 (kI 15),.mv 9 8,.g 9 true (.mv 10 1),.g 9 true (.call (some 11) 84 [10]),.pick 12 9 11 (kB false),.asg 6 12]) (.cond 6 (.seq (.ops [.asg 4 (kI 3),.asg 5 (kB true)]) .ret) (.seq (.ops [.mv 14 0,.bin 15 .eql 14 (kI 16),.mv 16 15,.g 16 true (.mv 17 1),.g 16 true (.mv 18 1),.g 16 true (.call (some 19) 158 [(kI 1),17,18]),.pick 20 16 19 (kB false),.asg 13 20]) (.cond 13 (.seq (.ops [.asg 4 (kI 1),.asg 5 (kB true)]) .ret) .skip))))) (.seq (.ops [.asg 4 (kI 0),.asg 5 (kB false)]) .ret)))
theorem bKe:aV Tryz.prog 148=some (bJw,[.mv 0 4,.mv 0 5],21):=by kernel_rfl
def cGb (r:Int×Bool):Exit→St→Prop:=aU [.mv 0 4,.mv 0 5] fun x _=>x=(fun y=>(.tup [(vI y.1),(vB y.2)])) r
def aMt:AC:=(.loop (.seq (.ops [.bin 12 .lss 11 10]) (.seq (.cond 12 .skip (.exit 0)) (.seq (.block 1 (.seq (.ops [.ia 13 1 9 11,.ld 14 1 false 13,.asg 6 14]) (.seq (.ops [.mv 16 4,.mv 17 6,.call (some 18) 124 [16,17],.mv 15 18,.ext 19 15 0,.ext 20 15 1,.asg 7 19,.asg 8 20]) (.seq (.seq (.ops [.mv 21 8,.not 22 21]) (.cond 22 (.seq (.ops [.asg 2 (kI 0),.asg 3 (kB false)]) .ret) .skip)) (.ops [.mv 23 7,.asg 4 23]))))) (.ops [.bin 24 .add 11 (kI 1),.mv 11 24])))))
def aWm:AC:=(.seq (.ops [.mv 25 4,.asg 2 25,.asg 3 (kB true)]) .ret)
def cCw:AC:=(.seq (.ops [.asg 2 (kI 0),.asg 3 (kB false)]) (.seq (.ops [.asg 4 (kI 0)]) (.seq (.seq (.ops [.mv 9 0,.len 10 9,.mv 11 (kI 0)]) (.block 0 aMt)) aWm)))
theorem bK7:aV Tryz.prog 150=some (cCw,[.mv 0 2,.mv 0 3],26):=by kernel_rfl
def aP3 (r:Int×Bool):Exit→St→Prop:=aU [.mv 0 2,.mv 0 3] fun x _=>x=(fun y=>(.tup [(vI y.1),(vB y.2)])) r
def bKt (r:Int×Bool):Exit→St→Prop:=(bF (wkK (avc Tryz.prog aWm (aP3 r))) (aP3 r))
def bSj (r:Int×Bool):Exit→St→Prop:=(bG 0 (bKt r))
def bDl (p0:(List Int)) (x4:Int) (x11:Int):St:=⟨[(4,(vI x4)),(9,(bX p0)),(10,(vI (p0.length:Int))),(11,(vI x11))],[]⟩
abbrev aEl (p0:(List Int)) (x4:Int) (x11:Int) (r:Int×Bool):Prop:=avc Tryz.prog aMt (bSj r) (bDl p0 x4 x11)
def cA5:AC:=(.seq (.ops [.box 1 108 0,.asg 2 (kB false)]) (.seq (.ops [.fa 6 0 1,.ld 7 1 false 6,.fa 8 1 1,.ld 9 1 false 8,.fa 10 3 1,.ld 11 3 true 10,.bld 12 [bQ,bQ,cK,bQ,bQ,fU,fU,fU,(.nil 10),(.nil 6)] [(0,1,7),(1,1,9),(3,3,11),(7,1,(.c (.d (.s (bs [120])))))],.call (some 13) 147 [12],.mv 5 13,.ext 14 5 0,.ext 15 5 1,.alc 3 aY4,.st 7 3 14,.asg 4 15]) (.seq (.ops [.mv 16 4,.mv 17 16,.g 17 true (.fa 18 0 3),.g 17 true (.ld 19 1 false 18),.g 17 true (.mv 20 19),.g 20 false (.fa 21 1 1),.g 20 false (.ld 22 1 false 21),.g 20 false (.bin 23 .eql 22 (kI 0)),.g 17 true (.pick 24 20 (kB true) 23),.pick 25 17 24 (kB false),.mv 26 25,.g 26 true (.fa 27 1 3),.g 26 true (.ld 28 1 false 27),.g 26 true (.mv 29 28),.g 29 false (.fa 30 2 1),.g 29 false (.ld 31 1 false 30),.g 29 false (.not 32 31),.g 26 true (.pick 33 29 (kB true) 32),.pick 34 26 33 (kB false),.mv 35 34,.g 35 true (.fa 36 2 3),.g 35 true (.ld 37 1 false 36),.g 35 true (.mv 38 37),.g 38 false (.fa 39 3 1),.g 38 false (.ld 40 3 true 39),.g 38 false (.bld 41 [bQ,bQ,fU] []),.g 38 false (.eqv 42 false [0,0,1] 40 41),.g 35 true (.pick 43 38 (kB true) 42),.pick 44 35 43 (kB false),.mv 45 44,.g 45 true (.fa 46 3 3),.g 45 true (.ld 47 1 false 46),.g 45 true (.mv 48 47),.g 48 false (.fa 49 6 1),.g 48 false (.ld 50 1 false 49),.g 48 false (.bin 51 .eql 50 (kI 0)),.g 48 false (.mv 52 51),.g 52 true (.fa 53 7 1),.g 52 true (.ld 54 1 false 53),.g 52 true (.bin 55 .eql 54 (kI 0)),.g 48 false (.pick 56 52 55 (kB false)),.g 45 true (.pick 57 48 (kB true) 56),.pick 58 45 57 (kB false),.mv 59 58,.g 59 true (.fa 60 8 1),.g 59 true (.ld 61 1 false 60),.g 59 true (.len 62 61),.g 59 true (.fa 63 4 3),.g 59 true (.ld 64 1 false 63),.g 59 true (.bin 65 .geq 62 64),.pick 66 59 65 (kB false),.mv 67 66,.g 67 true (.fa 68 8 1),.g 67 true (.ld 69 1 false 68),.g 67 true (.len 70 69),.g 67 true (.fa 71 5 3),.g 67 true (.ld 72 1 false 71),.g 67 true (.bin 73 .leq 70 72),.pick 74 67 73 (kB false),.mv 75 74,.g 75 true (.fa 76 9 1),.g 75 true (.ld 77 1 false 76),.g 75 true (.len 78 77),.g 75 true (.fa 79 6 3),.g 75 true (.ld 80 1 false 79),.g 75 true (.bin 81 .eql 78 80),.pick 82 75 81 (kB false),.asg 2 82]) .ret)))
theorem cAl:aV Tryz.prog 126=some (cA5,[.mv 0 2],83):=by kernel_rfl
def cDc (r:Bool):Exit→St→Prop:=aU [.mv 0 2] fun x _=>x=(fun y=>(vB y)) r
def cBb:AC:=(.seq (.ops [.box 1 160 0,.alc 2 aY4,.asg 3 (kB false)]) (.seq (.seq (.ops [.fa 4 0 1,.ld 5 1 false 4]) (.block 0 (.seq (.ops [.bin 7 .eql 5 (kI 1),.asg 6 7]) (.cond 6 (.seq (.ops [.bld 8 [cK,cK,cK,cK,bQ,bQ,bQ] [(2,1,(kB true))],.fa 9 3 1,.ld 10 3 true 9,.call (some 11) 157 [10],.st 7 2 8,.asg 3 11]) .ret) (.seq (.ops [.bin 13 .eql 5 (kI 2),.asg 12 13]) (.cond 12 (.seq (.ops [.bld 14 [cK,cK,cK,cK,bQ,bQ,bQ] [(3,1,(kB true))],.fa 15 7 1,.ld 16 1 false 15,.call (some 17) 113 [16],.mv 18 17,.g 18 true (.fa 19 6 1),.g 18 true (.ld 20 1 false 19),.g 18 true (.bin 21 .eql 20 (.c (.d (.s (bs []))))),.g 18 true (.mv 22 21),.g 22 false (.fa 23 6 1),.g 22 false (.ld 24 1 false 23),.g 22 false (.call (some 25) 113 [24]),.g 18 true (.pick 26 22 (kB true) 25),.pick 27 18 26 (kB false),.st 7 2 14,.asg 3 27]) .ret) (.seq (.ops [.bin 29 .eql 5 (kI 3),.asg 28 29]) (.cond 28 (.seq (.dops [[],[],[1],[2],[3],[4],[5,4],[6,4],[4,7],[0,4,0],[8,9,0,1,2,3,4,5,6,7,8,9]] [.bld 30 [cK,cK,cK,cK,bQ,bQ,bQ] [(0,1,(kB true)),(4,1,(kI 1)),(5,1,(kI 1))],.fa 31 1 1,.ld 32 1 false 31,.bin 33 .eql 32 (kI 15),.mv 34 33,.g 34 false (.fa 35 1 1),.g 34 false (.ld 36 1 false 35),.g 34 false (.bin 37 .eql 36 (kI 16)),.pick 38 34 (kB true) 37,.st 7 2 30,.asg 3 38]) .ret) (.seq (.ops [.bin 40 .eql 5 (kI 4),.asg 39 40]) (.cond 39 (.seq (.dops [[],[],[1],[2],[3],[4],[5,4],[6,4],[4,7],[0,4,0],[8,9,0,1,2,3,4,5,6,7,8,9]] [.bld 41 [cK,cK,cK,cK,bQ,bQ,bQ] [(0,1,(kB true)),(4,1,(kI 2)),(5,1,(kI 2))],.fa 42 1 1,.ld 43 1 false 42,.bin 44 .geq 43 (kI 1),.mv 45 44,.g 45 true (.fa 46 1 1),.g 45 true (.ld 47 1 false 46),.g 45 true (.bin 48 .leq 47 (kI 14)),.pick 49 45 48 (kB false),.st 7 2 41,.asg 3 49]) .ret) (.seq (.ops [.bin 51 .eql 5 (kI 5),.asg 50 51]) (.cond 50 (.seq (.ops [.bld 52 [cK,cK,cK,cK,bQ,bQ,bQ] [(1,1,(kB true)),(4,1,(kI 1)),(5,1,(kI 1))],.st 7 2 52,.asg 3 (kB true)]) .ret) (.seq (.ops [.bin 54 .eql 5 (kI 6),.asg 53 54]) (.cond 53 (.seq (.ops [.bld 55 [cK,cK,cK,cK,bQ,bQ,bQ] [(1,1,(kB true)),(4,1,(kI 3)),(5,1,(kI 3))],.st 7 2 55,.asg 3 (kB true)]) .ret) (.seq (.ops [.bin 57 .eql 5 (kI 7),.asg 56 57]) (.cond 56 (.seq (.ops [.bld 58 [cK,cK,cK,cK,bQ,bQ,bQ] [(1,1,(kB true)),(4,1,(kI 2)),(5,1,(kI 9))],.st 7 2 58,.asg 3 (kB true)]) .ret) (.seq (.ops [.bin 60 .eql 5 (kI 8),.asg 59 60]) (.cond 59 (.seq (.ops [.bld 61 [cK,cK,cK,cK,bQ,bQ,bQ] [(1,1,(kB true)),(4,1,(kI 1)),(5,1,(kI 1)),(6,1,(kI 1))],.st 7 2 61,.asg 3 (kB true)]) .ret) (.seq (.ops [.bin 63 .eql 5 (kI 9),.asg 62 63]) (.cond 62 (.seq (.ops [.bld 64 [cK,cK,cK,cK,bQ,bQ,bQ] [(6,1,(kI 1))],.st 7 2 64,.asg 3 (kB true)]) .ret) .skip)))))))))))))))))))) (.seq (.ops [.bld 65 [cK,cK,cK,cK,bQ,bQ,bQ] [],.st 7 2 65,.asg 3 (kB false)]) .ret)))
theorem bLy:aV Tryz.prog 147=some (cBb,[.ld 0 7 true 2,.mv 0 3],66):=by kernel_rfl
def cH6 (r:fV×Bool):Exit→St→Prop:=aU [.ld 0 7 true 2,.mv 0 3] fun x _=>x=(fun y=>(.tup [(aPt y.1),(vB y.2)])) r
def bZv:AC:=(.seq (.ops [.box 1 105 0,.asg 2 (kB false)]) (.seq (.ops [.ld 3 3 true 1,.call (some 4) 160 [3],.mv 5 4,.g 5 true (.fa 6 0 1),.g 5 true (.ld 7 1 false 6),.g 5 true (.bin 8 .neq 7 (kI 1)),.g 5 true (.mv 9 8),.g 9 false (.fa 10 1 1),.g 9 false (.ld 11 1 false 10),.g 9 false (.bin 12 .geq 11 (kI 0)),.g 5 true (.pick 13 9 (kB true) 12),.pick 14 5 13 (kB false),.mv 15 14,.g 15 true (.fa 16 2 1),.g 15 true (.ld 17 1 false 16),.g 15 true (.lns 18 17),.g 15 true (.bin 19 .leq 18 (kI 40)),.pick 20 15 19 (kB false),.asg 2 20]) .ret))
theorem cC3:aV Tryz.prog 157=some (bZv,[.mv 0 2],21):=by kernel_rfl
def cGe (r:Bool):Exit→St→Prop:=aU [.mv 0 2] fun x _=>x=(fun y=>(vB y)) r
def bS1:AC:=(.seq (.ops [.box 1 105 0,.asg 2 (kB false)]) (.seq (.seq (.ops [.fa 3 0 1,.ld 4 1 false 3]) (.block 0 (.seq (.ops [.bin 6 .eql 4 (kI 0),.asg 5 6]) (.cond 5 (.seq (.ops [.fa 7 1 1,.ld 8 1 false 7,.bin 9 .eql 8 (kI 0),.mv 10 9,.g 10 true (.fa 11 2 1),.g 10 true (.ld 12 1 false 11),.g 10 true (.bin 13 .eql 12 (.c (.d (.s (bs []))))),.pick 14 10 13 (kB false),.asg 2 14]) .ret) (.seq (.ops [.bin 16 .eql 4 (kI 1),.asg 15 16]) (.cond 15 (.seq (.ops [.fa 17 2 1,.ld 18 1 false 17,.bin 19 .eql 18 (.c (.d (.s (bs [])))),.asg 2 19]) .ret) (.seq (.ops [.bin 21 .eql 4 (kI 2),.asg 20 21]) (.cond 20 (.seq (.ops [.fa 22 1 1,.ld 23 1 false 22,.bin 24 .eql 23 (kI 0),.mv 25 24,.g 25 true (.fa 26 2 1),.g 25 true (.ld 27 1 false 26),.g 25 true (.lns 28 27),.g 25 true (.bin 29 .leq 28 (kI 200)),.pick 30 25 29 (kB false),.asg 2 30]) .ret) (.seq (.ops [.bin 32 .eql 4 (kI 3),.asg 31 32]) (.cond 31 (.seq (.ops [.fa 33 1 1,.ld 34 1 false 33,.bin 35 .eql 34 (kI 0),.mv 36 35,.g 36 false (.fa 37 1 1),.g 36 false (.ld 38 1 false 37),.g 36 false (.bin 39 .eql 38 (kI 1)),.pick 40 36 (kB true) 39,.mv 41 40,.g 41 true (.fa 42 2 1),.g 41 true (.ld 43 1 false 42),.g 41 true (.bin 44 .eql 43 (.c (.d (.s (bs []))))),.pick 45 41 44 (kB false),.asg 2 45]) .ret) .skip)))))))))) (.seq (.ops [.asg 2 (kB false)]) .ret)))
theorem bQd:aV Tryz.prog 160=some (bS1,[.mv 0 2],46):=by kernel_rfl
def cEa (r:Bool):Exit→St→Prop:=aU [.mv 0 2] fun x _=>x=(fun y=>(vB y)) r
def aM3:AC:=(.loop (.seq (.ops [.bin 9 .lss 8 7]) (.seq (.cond 9 .skip (.exit 0)) (.seq (.block 1 (.seq (.ops [.mv 10 8,.ia 11 2 6 8,.ld 12 2 true 11,.alc 4 [fU,(.nil 2)],.asg 3 10,.st 2 4 12]) (.seq (.ops [.ld 13 2 true 4,.call (some 14) 75 [13],.not 15 14,.mv 16 15,.g 16 false (.ld 17 1 true 1),.g 16 false (.fa 18 0 4),.g 16 false (.ld 19 1 false 18),.g 16 false (.call (some 20) 76 [17,19]),.g 16 false (.mv 21 3),.g 16 false (.bin 22 .neq 20 21),.pick 23 16 (kB true) 22]) (.cond 23 (.seq (.ops [.asg 2 (kB false)]) .ret) .skip)))) (.ops [.bin 24 .add 8 (kI 1),.mv 8 24])))))
def bA0:AC:=(.seq (.ops [.fa 25 0 1,.ld 26 1 false 25,.len 27 26,.bin 28 .leq 27 (kI 4),.asg 2 28]) .ret)
def bRx:AC:=(.seq (.ops [.box 1 39 0,.asg 2 (kB false)]) (.seq (.seq (.ops [.fa 5 0 1,.ld 6 1 false 5,.len 7 6,.mv 8 (kI 0)]) (.block 0 aM3)) bA0))
theorem bCp:aV Tryz.prog 32=some (bRx,[.mv 0 2],29):=by kernel_rfl
def bA4 (r:Bool):Exit→St→Prop:=aU [.mv 0 2] fun x _=>x=(fun y=>(vB y)) r
def cC9 (r:Bool):Exit→St→Prop:=(bF (wkK (avc Tryz.prog bA0 (bA4 r))) (bA4 r))
def bRp (r:Bool):Exit→St→Prop:=(bG 0 (cC9 r))
def bEw (p0:aJ) (x8:Int):St:=⟨[(1,(.ptr 1 0)),(6,(iA p0.tables)),(7,(vI (p0.tables.length:Int))),(8,(vI x8))],[(1,dJ p0)]⟩
abbrev aEc (p0:aJ) (x8:Int) (r:Bool):Prop:=avc Tryz.prog aM3 (bRp r) (bEw p0 x8)
def bNd:AC:=(.seq (.ops [.box 2 39 0,.box 3 9 1,.asg 4 (kI 0)]) (.seq (.ops [.fa 5 0 2,.ld 6 1 false 5,.mkf 7 116 [3],.call (some 8) 115 [6,7],.asg 4 8]) .ret))
theorem bSp:aV Tryz.prog 76=some (bNd,[.mv 0 4],9):=by kernel_rfl
def cEb (r:Int):Exit→St→Prop:=aU [.mv 0 4] fun x _=>x=(fun y=>(vI y)) r
def aKb:AC:=(.loop (.seq (.ops [.bin 9 .lss 8 7]) (.seq (.cond 9 .skip (.exit 0)) (.seq (.block 1 (.seq (.ops [.mv 10 8,.asg 5 10]) (.seq (.ops [.mv 11 1,.mv 12 0,.mv 13 5,.ia 14 2 12 13,.ld 15 2 true 14,.callv (some 16) 11 [15]]) (.cond 16 (.seq (.ops [.mv 17 5,.asg 4 17]) .ret) .skip)))) (.ops [.bin 18 .add 8 (kI 1),.mv 8 18])))))
def aQj:AC:=(.seq (.ops [.asg 4 (kI (-1))]) .ret)
def bXv:AC:=(.seq (.ops [.asg 4 (kI 0)]) (.seq (.seq (.ops [.mv 6 0,.len 7 6,.mv 8 (kI 0)]) (.block 0 aKb)) aQj))
theorem cBm:aV Tryz.prog 115=some (bXv,[.mv 0 4],19):=by kernel_rfl
def aPf (c0_0:(List UInt8)) (r:Int):Exit→St→Prop:=aU [.mv 0 4] fun x b=>x=(fun (y:Int)=>(vI y)) r∧eB ((fun (y:Int)=>[(1000000,[(vS c0_0)])]) r) b
def bB5 (c0_0:(List UInt8)) (r:Int):Exit→St→Prop:=(bF (wkK (avc Tryz.prog aQj (aPf c0_0 r))) (aPf c0_0 r))
def bB9 (c0_0:(List UInt8)) (r:Int):Exit→St→Prop:=(bG 0 (bB5 c0_0 r))
def cCp (p0:(List bD)) (c0_0:(List UInt8)) (x8:Int):St:=⟨[(0,(iA p0)),(1,(.fn 116 [(.ptr 1000000 0)])),(7,(vI (p0.length:Int))),(8,(vI x8))],[(1000000,[(vS c0_0)])]⟩
abbrev aC6 (p0:(List bD)) (c0_0:(List UInt8)) (x8:Int) (r:Int):Prop:=avc Tryz.prog aKb (bB9 c0_0 r) (cCp p0 c0_0 x8)
def bGy:AC:=(.seq (.ops [.box 2 65 0,.asg 3 (kB false)]) (.seq (.ops [.fa 4 0 2,.ld 5 1 false 4,.ld 6 1 false 1,.bin 7 .eql 5 6,.asg 3 7]) .ret))
theorem bI5:aV Tryz.prog 116=some (bGy,[.mv 0 3],8):=by kernel_rfl
def cFm (c0_0:(List UInt8)) (r:Bool):Exit→St→Prop:=aU [.mv 0 3] fun x b=>x=(fun (y:Bool)=>(vB y)) r∧eB ((fun (y:Bool)=>[(1000000,[(vS c0_0)])]) r) b
def aIv:AC:=(.loop (.seq (.ops [.bin 9 .lss 8 7]) (.seq (.cond 9 .skip (.exit 0)) (.seq (.block 1 (.seq (.ops [.mv 10 8,.ia 11 2 6 8,.ld 12 2 true 11,.alc 4 [fU,bQ],.asg 3 10,.st 2 4 12]) (.seq (.ops [.fa 13 0 4,.ld 14 1 false 13,.call (some 15) 113 [14],.not 16 15,.mv 17 16,.g 17 false (.fa 18 1 4),.g 17 false (.ld 19 1 false 18),.g 17 false (.bin 20 .lss 19 (kI 1)),.pick 21 17 (kB true) 20,.mv 22 21,.g 22 false (.fa 23 1 4),.g 22 false (.ld 24 1 false 23),.g 22 false (.bin 25 .gtr 24 (kI 3)),.pick 26 22 (kB true) 25,.mv 27 26,.g 27 false (.ld 28 2 true 1),.g 27 false (.fa 29 0 4),.g 27 false (.ld 30 1 false 29),.g 27 false (.call (some 31) 114 [28,30]),.g 27 false (.mv 32 3),.g 27 false (.bin 33 .neq 31 32),.pick 34 27 (kB true) 33]) (.cond 34 (.seq (.ops [.asg 2 (kB false)]) .ret) .skip)))) (.ops [.bin 35 .add 8 (kI 1),.mv 8 35])))))
def aSa:AC:=(.seq (.ops [.fa 36 0 1,.ld 37 1 false 36,.call (some 38) 113 [37],.mv 39 38,.g 39 true (.fa 40 1 1),.g 39 true (.ld 41 1 false 40),.g 39 true (.len 42 41),.g 39 true (.bin 43 .geq 42 (kI 1)),.pick 44 39 43 (kB false),.mv 45 44,.g 45 true (.fa 46 1 1),.g 45 true (.ld 47 1 false 46),.g 45 true (.len 48 47),.g 45 true (.bin 49 .leq 48 (kI 4)),.pick 50 45 49 (kB false),.asg 2 50]) .ret)
def bOu:AC:=(.seq (.ops [.box 1 65 0,.asg 2 (kB false)]) (.seq (.seq (.ops [.fa 5 1 1,.ld 6 1 false 5,.len 7 6,.mv 8 (kI 0)]) (.block 0 aIv)) aSa))
theorem bQp:aV Tryz.prog 75=some (bOu,[.mv 0 2],51):=by kernel_rfl
def aXr (r:Bool):Exit→St→Prop:=aU [.mv 0 2] fun x _=>x=(fun y=>(vB y)) r
def bL5 (r:Bool):Exit→St→Prop:=(bF (wkK (avc Tryz.prog aSa (aXr r))) (aXr r))
def cAk (r:Bool):Exit→St→Prop:=(bG 0 (bL5 r))
def bY3 (p0:bD) (x8:Int):St:=⟨[(1,(.ptr 1 0)),(6,(iB p0.cols)),(7,(vI (p0.cols.length:Int))),(8,(vI x8))],[(1,Z8 p0)]⟩
abbrev aG8 (p0:bD) (x8:Int) (r:Bool):Prop:=avc Tryz.prog aIv (cAk r) (bY3 p0 x8)
def bWb:AC:=(.seq (.ops [.box 2 65 0,.box 3 9 1,.asg 4 (kI 0)]) (.seq (.ops [.fa 5 1 2,.ld 6 1 false 5,.mkf 7 143 [3],.call (some 8) 142 [6,7],.asg 4 8]) .ret))
theorem bBt:aV Tryz.prog 114=some (bWb,[.mv 0 4],9):=by kernel_rfl
def cG6 (r:Int):Exit→St→Prop:=aU [.mv 0 4] fun x _=>x=(fun y=>(vI y)) r
def aMz:AC:=(.loop (.seq (.ops [.bin 9 .lss 8 7]) (.seq (.cond 9 .skip (.exit 0)) (.seq (.block 1 (.seq (.ops [.mv 10 8,.asg 5 10]) (.seq (.ops [.mv 11 1,.mv 12 0,.mv 13 5,.ia 14 2 12 13,.ld 15 2 true 14,.callv (some 16) 11 [15]]) (.cond 16 (.seq (.ops [.mv 17 5,.asg 4 17]) .ret) .skip)))) (.ops [.bin 18 .add 8 (kI 1),.mv 8 18])))))
def aWe:AC:=(.seq (.ops [.asg 4 (kI (-1))]) .ret)
def bVi:AC:=(.seq (.ops [.asg 4 (kI 0)]) (.seq (.seq (.ops [.mv 6 0,.len 7 6,.mv 8 (kI 0)]) (.block 0 aMz)) aWe))
theorem bKv:aV Tryz.prog 142=some (bVi,[.mv 0 4],19):=by kernel_rfl
def aZp (c0_0:(List UInt8)) (r:Int):Exit→St→Prop:=aU [.mv 0 4] fun x b=>x=(fun (y:Int)=>(vI y)) r∧eB ((fun (y:Int)=>[(1000000,[(vS c0_0)])]) r) b
def bRj (c0_0:(List UInt8)) (r:Int):Exit→St→Prop:=(bF (wkK (avc Tryz.prog aWe (aZp c0_0 r))) (aZp c0_0 r))
def bLl (c0_0:(List UInt8)) (r:Int):Exit→St→Prop:=(bG 0 (bRj c0_0 r))
def bEk (p0:(List bL)) (c0_0:(List UInt8)) (x8:Int):St:=⟨[(0,(iB p0)),(1,(.fn 143 [(.ptr 1000000 0)])),(7,(vI (p0.length:Int))),(8,(vI x8))],[(1000000,[(vS c0_0)])]⟩
abbrev aBp (p0:(List bL)) (c0_0:(List UInt8)) (x8:Int) (r:Int):Prop:=avc Tryz.prog aMz (bLl c0_0 r) (bEk p0 c0_0 x8)
def bLx:AC:=(.seq (.ops [.box 2 102 0,.asg 3 (kB false)]) (.seq (.ops [.fa 4 0 2,.ld 5 1 false 4,.ld 6 1 false 1,.bin 7 .eql 5 6,.asg 3 7]) .ret))
theorem bOh:aV Tryz.prog 143=some (bLx,[.mv 0 3],8):=by kernel_rfl
def cHd (c0_0:(List UInt8)) (r:Bool):Exit→St→Prop:=aU [.mv 0 3] fun x b=>x=(fun (y:Bool)=>(vB y)) r∧eB ((fun (y:Bool)=>[(1000000,[(vS c0_0)])]) r) b
def aHm:AC:=(.loop (.seq (.ops [.bin 32 .lss 31 30]) (.seq (.cond 32 .skip (.exit 0)) (.seq (.block 1 (.seq (.ops [.mv 33 31,.ia 34 1 29 31,.ld 35 1 false 34,.asg 7 33,.asg 8 35]) (.seq (.dops [[],[0],[1],[2],[2],[4,2],[3,5,2],[2,6],[7,2],[8],[9,8],[8],[10,11,8],[8],[12,13,8,8],[8,14],[15,14],[16],[16],[18,16],[16],[20,16],[16],[21,22,16],[23,16],[16],[16],[25,26,16],[27,16],[17,19,24,28,16,16],[29,16],[16,30]] [.mv 36 8,.bin 37 .lss 36 (kI 0),.mv 38 37,.g 38 false (.mv 39 8),.g 38 false (.mv 40 1),.g 38 false (.len 41 40),.g 38 false (.bin 42 .geq 39 41),.pick 43 38 (kB true) 42,.mv 44 43,.g 44 false (.fa 45 11 5),.g 44 false (.ld 46 1 false 45),.g 44 false (.mv 47 7),.g 44 false (.slc 48 1 46 none (some 47) none),.g 44 false (.mv 49 8),.g 44 false (.call (some 50) 85 [48,49]),.pick 51 44 (kB true) 50,.mv 52 51,.g 52 false (.ld 53 1 true 3),.g 52 false (.mv 54 1),.g 52 false (.bsl 55 25 1 [54]),.g 52 false (.fa 56 12 5),.g 52 false (.ld 57 1 false 56),.g 52 false (.mv 58 7),.g 52 false (.ia 59 10 57 58),.g 52 false (.ld 60 10 true 59),.g 52 false (.mv 61 1),.g 52 false (.mv 62 8),.g 52 false (.ia 63 1 61 62),.g 52 false (.ld 64 1 false 63),.g 52 false (.call (some 65) 80 [53,55,60,64]),.g 52 false (.not 66 65),.pick 67 52 (kB true) 66]) (.cond 67 (.seq (.ops [.asg 6 (kB false)]) .ret) .skip)))) (.ops [.bin 68 .add 31 (kI 1),.mv 31 68])))))
def aYe:AC:=(.seq (.ops [.asg 6 (kB true)]) .ret)
def bFd:AC:=(.seq (.ops [.box 3 39 0,.box 5 47 2,.asg 6 (kB false)]) (.seq (.seq (.ops [.fa 9 11 5,.ld 10 1 false 9,.len 11 10,.bin 12 .lss 11 (kI 1),.mv 13 12,.g 13 false (.fa 14 11 5),.g 13 false (.ld 15 1 false 14),.g 13 false (.len 16 15),.g 13 false (.bin 17 .gtr 16 (kI 12)),.pick 18 13 (kB true) 17,.mv 19 18,.g 19 false (.fa 20 12 5),.g 19 false (.ld 21 1 false 20),.g 19 false (.len 22 21),.g 19 false (.fa 23 11 5),.g 19 false (.ld 24 1 false 23),.g 19 false (.len 25 24),.g 19 false (.bin 26 .neq 22 25),.pick 27 19 (kB true) 26]) (.cond 27 (.seq (.ops [.asg 6 (kB false)]) .ret) .skip)) (.seq (.seq (.ops [.fa 28 11 5,.ld 29 1 false 28,.len 30 29,.mv 31 (kI 0)]) (.block 0 aHm)) aYe)))
theorem bE7:aV Tryz.prog 41=some (bFd,[.mv 0 6],69):=by kernel_rfl
def aT7 (r:Bool):Exit→St→Prop:=aU [.mv 0 6] fun x _=>x=(fun y=>(vB y)) r
def bWh (r:Bool):Exit→St→Prop:=(bF (wkK (avc Tryz.prog aYe (aT7 r))) (aT7 r))
def bCj (r:Bool):Exit→St→Prop:=(bG 0 (bWh r))
def bG6 (p1:(List Int)) (p2:bM) (p0:aJ) (x31:Int):St:=⟨[(1,(bX p1)),(3,(.ptr 3 0)),(5,(.ptr 5 0)),(29,(bX p2.cols)),(30,(vI (p2.cols.length:Int))),(31,(vI x31))],[(3,dJ p0),(5,K8 p2)]⟩
abbrev aBc (p1:(List Int)) (p2:bM) (p0:aJ) (x31:Int) (r:Bool):Prop:=avc Tryz.prog aHm (bCj r) (bG6 p1 p2 p0 x31)
def bUf:AC:=(.seq (.ops [.asg 4 (kB false)]) (.seq (.ops [.mv 5 0,.mv 6 1,.call (some 7) 128 [5,6],.bin 8 .geq 7 (kI 0),.asg 4 8]) .ret))
theorem bIx:aV Tryz.prog 85=some (bUf,[.mv 0 4],9):=by kernel_rfl
def cDq (r:Bool):Exit→St→Prop:=aU [.mv 0 4] fun x _=>x=(fun y=>(vB y)) r
def aMu:AC:=(.loop (.seq (.ops [.bin 9 .lss 8 7]) (.seq (.cond 9 .skip (.exit 0)) (.seq (.block 1 (.seq (.ops [.mv 10 8,.asg 5 10]) (.seq (.ops [.mv 11 1,.mv 12 0,.mv 13 5,.ia 14 1 12 13,.ld 15 1 false 14,.bin 16 .eql 11 15]) (.cond 16 (.seq (.ops [.mv 17 5,.asg 4 17]) .ret) .skip)))) (.ops [.bin 18 .add 8 (kI 1),.mv 8 18])))))
def aRm:AC:=(.seq (.ops [.asg 4 (kI (-1))]) .ret)
def bWd:AC:=(.seq (.ops [.asg 4 (kI 0)]) (.seq (.seq (.ops [.mv 6 0,.len 7 6,.mv 8 (kI 0)]) (.block 0 aMu)) aRm))
theorem bFa:aV Tryz.prog 128=some (bWd,[.mv 0 4],19):=by kernel_rfl
def aPp (r:Int):Exit→St→Prop:=aU [.mv 0 4] fun x _=>x=(fun y=>(vI y)) r
def bVm (r:Int):Exit→St→Prop:=(bF (wkK (avc Tryz.prog aRm (aPp r))) (aPp r))
def bLq (r:Int):Exit→St→Prop:=(bG 0 (bVm r))
def cC8 (p0:(List Int)) (p1:Int) (x8:Int):St:=⟨[(0,(bX p0)),(1,(vI p1)),(7,(vI (p0.length:Int))),(8,(vI x8))],[]⟩
abbrev aH9 (p0:(List Int)) (p1:Int) (x8:Int) (r:Int):Prop:=avc Tryz.prog aMu (bLq r) (cC8 p0 p1 x8)
def bPw:AC:=(.seq (.ops [.box 2 39 0,.box 3 45 1,.asg 4 (kB false)]) (.seq (.seq (.dops [[],[0],[1],[2,1],[3],[4,3,3],[3],[6,5,3],[5,7,7,3],[8,3],[3,9]] [.ld 7 1 true 2,.call (some 8) 32 [7],.not 9 8,.mv 10 9,.g 10 false (.ld 11 8 true 3),.g 10 false (.call (some 12) 72 [11]),.g 10 false (.ld 13 8 true 3),.g 10 false (.call (some 14) 73 [13]),.g 10 false (.call (some 15) 34 [12,14]),.g 10 false (.not 16 15),.pick 17 10 (kB true) 16]) (.cond 17 (.seq (.ops [.asg 4 (kB false)]) .ret) .skip)) (.seq (.ops [.ld 19 1 true 2,.ld 20 8 true 3,.call (some 21) 74 [19,(.c (.nil 1)),20],.mv 18 21,.ext 22 18 0,.ext 23 18 1,.asg 5 22,.asg 6 23]) (.seq (.ops [.mv 24 6,.asg 4 24]) .ret))))
theorem bTm:aV Tryz.prog 31=some (bPw,[.mv 0 4],25):=by kernel_rfl
def cG7 (r:Bool):Exit→St→Prop:=aU [.mv 0 4] fun x _=>x=(fun y=>(vB y)) r
def cAf:AC:=(.seq (.ops [.box 1 45 0,.asg 2 (kI 0)]) (.seq (.ops [.ld 3 8 true 1,.call (some 4) 109 [3],.call (some 5) 35 [4],.asg 2 5]) .ret))
theorem bAy:aV Tryz.prog 72=some (cAf,[.mv 0 2],6):=by kernel_rfl
def cE7 (r:Int):Exit→St→Prop:=aU [.mv 0 2] fun x _=>x=(fun y=>(vI y)) r
def aLq:AC:=(.loop (.seq (.ops [.bin 9 .lss 8 7]) (.seq (.cond 9 .skip (.exit 0)) (.seq (.block 1 (.seq (.ops [.ia 10 10 6 8,.ld 11 10 true 10,.alc 5 pE,.st 10 5 11]) (.ops [.mv 12 3,.ld 13 10 true 5,.call (some 14) 78 [13],.max 15 12 14,.asg 3 15]))) (.ops [.bin 16 .add 8 (kI 1),.mv 8 16])))))
def aXp:AC:=(.seq (.ops [.mv 17 3,.asg 2 17]) .ret)
def bUm:AC:=(.seq (.ops [.asg 2 (kI 0)]) (.seq (.ops [.asg 3 (kI 0)]) (.seq (.seq (.ops [.mv 6 0,.len 7 6,.mv 8 (kI 0)]) (.block 0 aLq)) aXp)))
theorem bNt:aV Tryz.prog 35=some (bUm,[.mv 0 2],18):=by kernel_rfl
def aYu (r:Int):Exit→St→Prop:=aU [.mv 0 2] fun x _=>x=(fun y=>(vI y)) r
def bYu (r:Int):Exit→St→Prop:=(bF (wkK (avc Tryz.prog aXp (aYu r))) (aYu r))
def bO4 (r:Int):Exit→St→Prop:=(bG 0 (bYu r))
def bPa (p0:(List aA)) (x3:Int) (x8:Int):St:=⟨[(3,(vI x3)),(6,(bN p0)),(7,(vI (p0.length:Int))),(8,(vI x8))],[]⟩
abbrev aH3 (p0:(List aA)) (x3:Int) (x8:Int) (r:Int):Prop:=avc Tryz.prog aLq (bO4 r) (bPa p0 x3 x8)
def aIp:AC:=(.loop (.seq (.ops [.bin 13 .lss 12 11]) (.seq (.cond 13 .skip (.exit 0)) (.seq (.block 1 (.seq (.ops [.ia 14 8 10 12,.ld 15 8 true 14,.alc 5 xG,.st 8 5 15]) (.ops [.mv 16 3,.ld 17 8 true 5,.call (some 18) 72 [17],.max 19 16 18,.asg 3 19]))) (.ops [.bin 20 .add 12 (kI 1),.mv 12 20])))))
def aPh:AC:=(.seq (.ops [.mv 21 3,.bin 22 .add (kI 1) 21,.asg 2 22]) .ret)
def bKm:AC:=(.seq (.ops [.box 1 108 0,.asg 2 (kI 0)]) (.seq (.ops [.fa 6 8 1,.ld 7 1 false 6,.call (some 8) 35 [7],.asg 3 8]) (.seq (.seq (.ops [.fa 9 9 1,.ld 10 1 false 9,.len 11 10,.mv 12 (kI 0)]) (.block 0 aIp)) aPh)))
theorem bU2:aV Tryz.prog 78=some (bKm,[.mv 0 2],23):=by kernel_rfl
def aUw (r:Int):Exit→St→Prop:=aU [.mv 0 2] fun x _=>x=(fun y=>(vI y)) r
def bSa (r:Int):Exit→St→Prop:=(bF (wkK (avc Tryz.prog aPh (aUw r))) (aUw r))
def bMj (r:Int):Exit→St→Prop:=(bG 0 (bSa r))
def bCx (p0:aA) (x3:Int) (x12:Int):St:=⟨[(3,(vI x3)),(10,(eG p0.sub)),(11,(vI (p0.sub.length:Int))),(12,(vI x12))],[]⟩
abbrev aFn (p0:aA) (x3:Int) (x12:Int) (r:Int):Prop:=avc Tryz.prog aIp (bMj r) (bCx p0 x3 x12)
def aOc:AC:=(.loop (.seq (.ops [.bin 13 .lss 12 11]) (.seq (.cond 13 .skip (.exit 0)) (.seq (.block 1 (.seq (.ops [.ia 14 1 10 12,.ld 15 1 false 14,.asg 5 15]) (.ops [.mv 16 3,.mv 17 5,.app 18 108 10 120 16 17,.asg 3 18]))) (.ops [.bin 19 .add 12 (kI 1),.mv 12 19])))))
def aLo:AC:=(.loop (.seq (.ops [.bin 28 .lss 27 26]) (.seq (.cond 28 .skip (.exit 2)) (.seq (.block 3 (.seq (.ops [.ia 29 11 25 27,.ld 30 11 true 29,.alc 7 K9,.st 11 7 30]) (.ops [.mv 31 3,.fa 32 0 7,.ld 33 10 true 32,.bsl 34 108 10 [33],.app 35 108 10 120 31 34,.asg 3 35]))) (.ops [.bin 36 .add 27 (kI 1),.mv 27 36])))))
def aZf:AC:=(.seq (.ops [.mv 37 3,.fa 38 4 1,.ld 39 1 false 38,.app 40 108 10 120 37 39,.asg 2 40]) .ret)
def aVa:AC:=(.seq (.ops [.mv 20 3,.fa 21 2 1,.ld 22 1 false 21,.app 23 108 10 120 20 22,.asg 3 23]) (.seq (.seq (.ops [.fa 24 3 1,.ld 25 1 false 24,.len 26 25,.mv 27 (kI 0)]) (.block 2 aLo)) aZf))
def bNm:AC:=(.seq (.ops [.box 1 45 0,.asg 2 (.c (.nil 10))]) (.seq (.ops [.bsl 8 108 10 [],.asg 3 8]) (.seq (.seq (.ops [.fa 9 1 1,.ld 10 1 false 9,.len 11 10,.mv 12 (kI 0)]) (.block 0 aOc)) aVa)))
theorem bGm:aV Tryz.prog 109=some (bNm,[.mv 0 2],41):=by kernel_rfl
def aF5 (r:(List aA)):Exit→St→Prop:=aU [.mv 0 2] fun x b=>x=(fun (y:(List aA))=>(.osl 2000000 108 10 (y.map aZ))) r∧eB ((fun (y:(List aA))=>[]) r) b
def bZ3 (r:(List aA)):Exit→St→Prop:=(bF (wkK (avc Tryz.prog aVa (aF5 r))) (aF5 r))
def bO2 (r:(List aA)):Exit→St→Prop:=(bG 0 (bZ3 r))
def bBc (r:(List aA)):Exit→St→Prop:=(bF (wkK (avc Tryz.prog aZf (aF5 r))) (aF5 r))
def bO5 (r:(List aA)):Exit→St→Prop:=(bG 2 (bBc r))
def bXk (p0:aB) (x3:(List aA)) (x12:Int):St:=⟨[(1,(.ptr 1 0)),(3,(.osl 3 108 10 (x3.map aZ))),(10,(.d (.sl 1 (p0.on_.map (cSl 10 aZ))))),(11,(vI (p0.on_.length:Int))),(12,(vI x12))],[(1,jG p0)]⟩
abbrev aH6 (p0:aB) (x3:(List aA)) (x12:Int) (r:(List aA)):Prop:=avc Tryz.prog aOc (bO2 r) (bXk p0 x3 x12)
def bXm (p0:aB) (dD:(List aA)) (x27:Int):St:=⟨[(1,(.ptr 1 0)),(3,(.osl 3 108 10 (dD.map aZ))),(25,(eP p0.order)),(26,(vI (p0.order.length:Int))),(27,(vI x27))],[(1,jG p0)]⟩
abbrev aCu (p0:aB) (dD:(List aA)) (x27:Int) (r:(List aA)):Prop:=avc Tryz.prog aLo (bO5 r) (bXm p0 dD x27)
def bPu:AC:=(.seq (.ops [.box 1 45 0,.asg 2 (kI 0)]) (.seq (.ops [.ld 3 8 true 1,.call (some 4) 109 [3],.call (some 5) 37 [4],.asg 2 5]) .ret))
theorem bIa:aV Tryz.prog 73=some (bPu,[.mv 0 2],6):=by kernel_rfl
def cHl (r:Int):Exit→St→Prop:=aU [.mv 0 2] fun x _=>x=(fun y=>(vI y)) r
def aL1:AC:=(.loop (.seq (.ops [.bin 9 .lss 8 7]) (.seq (.cond 9 .skip (.exit 0)) (.seq (.block 1 (.seq (.ops [.ia 10 10 6 8,.ld 11 10 true 10,.alc 5 pE,.st 10 5 11]) (.ops [.mv 12 3,.ld 13 10 true 5,.call (some 14) 79 [13],.bin 15 .add 12 14,.asg 3 15]))) (.ops [.bin 16 .add 8 (kI 1),.mv 8 16])))))
def aQz:AC:=(.seq (.ops [.mv 17 3,.asg 2 17]) .ret)
def bQ4:AC:=(.seq (.ops [.asg 2 (kI 0)]) (.seq (.ops [.asg 3 (kI 0)]) (.seq (.seq (.ops [.mv 6 0,.len 7 6,.mv 8 (kI 0)]) (.block 0 aL1)) aQz)))
theorem bFi:aV Tryz.prog 37=some (bQ4,[.mv 0 2],18):=by kernel_rfl
def aUd (r:Int):Exit→St→Prop:=aU [.mv 0 2] fun x _=>x=(fun y=>(vI y)) r
def bCz (r:Int):Exit→St→Prop:=(bF (wkK (avc Tryz.prog aQz (aUd r))) (aUd r))
def bWw (r:Int):Exit→St→Prop:=(bG 0 (bCz r))
def bX1 (p0:(List aA)) (x3:Int) (x8:Int):St:=⟨[(3,(vI x3)),(6,(bN p0)),(7,(vI (p0.length:Int))),(8,(vI x8))],[]⟩
abbrev aBr (p0:(List aA)) (x3:Int) (x8:Int) (r:Int):Prop:=avc Tryz.prog aL1 (bWw r) (bX1 p0 x3 x8)
def aJu:AC:=(.loop (.seq (.ops [.bin 14 .lss 13 12]) (.seq (.cond 14 .skip (.exit 0)) (.seq (.block 1 (.seq (.ops [.ia 15 8 11 13,.ld 16 8 true 15,.alc 5 xG,.st 8 5 16]) (.ops [.mv 17 3,.ld 18 8 true 5,.call (some 19) 73 [18],.bin 20 .add 17 19,.asg 3 20]))) (.ops [.bin 21 .add 13 (kI 1),.mv 13 21])))))
def aXf:AC:=(.seq (.ops [.mv 22 3,.asg 2 22]) .ret)
def bLw:AC:=(.seq (.ops [.box 1 108 0,.asg 2 (kI 0)]) (.seq (.ops [.fa 6 8 1,.ld 7 1 false 6,.call (some 8) 37 [7],.bin 9 .add (kI 1) 8,.asg 3 9]) (.seq (.seq (.ops [.fa 10 9 1,.ld 11 1 false 10,.len 12 11,.mv 13 (kI 0)]) (.block 0 aJu)) aXf)))
theorem bPn:aV Tryz.prog 79=some (bLw,[.mv 0 2],23):=by kernel_rfl
def aX5 (r:Int):Exit→St→Prop:=aU [.mv 0 2] fun x _=>x=(fun y=>(vI y)) r
def cCa (r:Int):Exit→St→Prop:=(bF (wkK (avc Tryz.prog aXf (aX5 r))) (aX5 r))
def cC4 (r:Int):Exit→St→Prop:=(bG 0 (cCa r))
def bKz (p0:aA) (x3:Int) (x13:Int):St:=⟨[(3,(vI x3)),(11,(eG p0.sub)),(12,(vI (p0.sub.length:Int))),(13,(vI x13))],[]⟩
abbrev aEo (p0:aA) (x3:Int) (x13:Int) (r:Int):Prop:=avc Tryz.prog aJu (cC4 r) (bKz p0 x3 x13)
def bR8:AC:=(.seq (.ops [.asg 4 (kB false)]) (.seq (.ops [.mv 5 0,.bin 6 .leq 5 (kI 24),.mv 7 6,.g 7 true (.mv 8 1),.g 7 true (.bin 9 .leq 8 (kI 200)),.pick 10 7 9 (kB false),.asg 4 10]) .ret))
theorem bOe:aV Tryz.prog 34=some (bR8,[.mv 0 4],11):=by kernel_rfl
def cDd (r:Bool):Exit→St→Prop:=aU [.mv 0 4] fun x _=>x=(fun y=>(vB y)) r
def aMn:AC:=(.loop (.seq (.ops [.bin 11 .lss 10 9]) (.seq (.cond 11 .skip (.exit 0)) (.seq (.block 1 (.seq (.ops [.ia 12 1 8 10,.ld 13 1 false 12,.asg 5 13]) (.ops [.mv 14 3,.mv 15 5,.app 16 108 10 120 14 15,.asg 3 16]))) (.ops [.bin 17 .add 10 (kI 1),.mv 10 17])))))
def aUv:AC:=(.seq (.ops [.mv 18 3,.fa 19 12 1,.ld 20 1 false 19,.app 21 108 10 120 18 20,.asg 3 21]) (.seq (.ops [.mv 22 3,.fa 23 13 1,.ld 24 1 false 23,.app 25 108 10 120 22 24,.asg 2 25]) .ret))
def bUj:AC:=(.seq (.ops [.box 1 47 0,.asg 2 (.c (.nil 10))]) (.seq (.ops [.bsl 6 108 10 [],.asg 3 6]) (.seq (.seq (.ops [.fa 7 10 1,.ld 8 1 false 7,.len 9 8,.mv 10 (kI 0)]) (.block 0 aMn)) aUv)))
theorem bNc:aV Tryz.prog 36=some (bUj,[.mv 0 2],26):=by kernel_rfl
def aSd (r:(List aA)):Exit→St→Prop:=aU [.mv 0 2] fun x _=>x=(fun y=>(bN y)) r
def bJv (r:(List aA)):Exit→St→Prop:=(bF (wkK (avc Tryz.prog aUv (aSd r))) (aSd r))
def bAz (r:(List aA)):Exit→St→Prop:=(bG 0 (bJv r))
def bHh (p0:bM) (x3:(List aA)) (x10:Int):St:=⟨[(1,(.ptr 1 0)),(3,(.osl 3 108 10 (x3.map aZ))),(8,(.d (.sl 1 (p0.rows.map (cSl 10 aZ))))),(9,(vI (p0.rows.length:Int))),(10,(vI x10))],[(1,K8 p0)]⟩
abbrev aG3 (p0:bM) (x3:(List aA)) (x10:Int) (r:(List aA)):Prop:=avc Tryz.prog aMn (bAz r) (bHh p0 x3 x10)
def bGw:AC:=(.seq (.ops [.box 1 45 0,.asg 2 (kB false)]) (.seq (.ops [.ld 3 8 true 1,.bld 4 [(.nil 1),(.nil 1),(.nil 10),(.nil 11),(.nil 10),(.nil 1),cK,bQ] [],.call (some 5) 77 [3,4],.asg 2 5]) .ret))
theorem bRu:aV Tryz.prog 33=some (bGw,[.mv 0 2],6):=by kernel_rfl
def cEc (r:Bool):Exit→St→Prop:=aU [.mv 0 2] fun x _=>x=(fun y=>(vB y)) r
def bO7:AC:=(.seq (.ops [.box 2 45 0,.box 3 45 1,.asg 4 (kB false)]) (.seq (.ops [.asg 5 (.c (.fn 117 []))]) (.seq (.ops [.fa 6 0 2,.ld 7 1 false 6,.fa 8 0 3,.ld 9 1 false 8,.call (some 10) 119 [7,9],.mv 11 10,.g 11 true (.fa 12 1 2),.g 11 true (.ld 13 1 false 12),.g 11 true (.fa 14 1 3),.g 11 true (.ld 15 1 false 14),.g 11 true (.call (some 16) 120 [13,15,(.c (.fn 121 []))]),.pick 17 11 16 (kB false),.mv 18 17,.g 18 true (.fa 19 2 2),.g 18 true (.ld 20 1 false 19),.g 18 true (.fa 21 2 3),.g 18 true (.ld 22 1 false 21),.g 18 true (.call (some 23) 121 [20,22]),.pick 24 18 23 (kB false),.mv 25 24,.g 25 true (.fa 26 3 2),.g 25 true (.ld 27 1 false 26),.g 25 true (.fa 28 3 3),.g 25 true (.ld 29 1 false 28),.g 25 true (.mv 30 5),.g 25 true (.call (some 31) 122 [27,29,30]),.pick 32 25 31 (kB false),.mv 33 32,.g 33 true (.fa 34 4 2),.g 33 true (.ld 35 1 false 34),.g 33 true (.fa 36 4 3),.g 33 true (.ld 37 1 false 36),.g 33 true (.call (some 38) 121 [35,37]),.pick 39 33 38 (kB false),.mv 40 39,.g 40 true (.fa 41 5 2),.g 40 true (.ld 42 1 false 41),.g 40 true (.fa 43 5 3),.g 40 true (.ld 44 1 false 43),.g 40 true (.call (some 45) 123 [42,44]),.pick 46 40 45 (kB false),.mv 47 46,.g 47 true (.fa 48 6 2),.g 47 true (.ld 49 1 false 48),.g 47 true (.fa 50 6 3),.g 47 true (.ld 51 1 false 50),.g 47 true (.eqb 52 false 49 51),.pick 53 47 52 (kB false),.mv 54 53,.g 54 true (.fa 55 7 2),.g 54 true (.ld 56 1 false 55),.g 54 true (.fa 57 7 3),.g 54 true (.ld 58 1 false 57),.g 54 true (.bin 59 .eql 56 58),.pick 60 54 59 (kB false),.asg 4 60]) .ret)))
theorem bQ9:aV Tryz.prog 77=some (bO7,[.mv 0 4],61):=by kernel_rfl
def cDr (r:Bool):Exit→St→Prop:=aU [.mv 0 4] fun x _=>x=(fun y=>(vB y)) r
def aIb:AC:=(.loop (.seq (.ops [.bin 18 .lss 17 16]) (.seq (.cond 18 .skip (.exit 0)) (.seq (.block 1 (.seq (.ops [.mv 19 17,.ia 20 1 15 17,.ld 21 1 false 20,.asg 7 19,.asg 8 21]) (.seq (.ops [.mv 22 1,.mv 23 7,.ia 24 1 22 23,.ld 25 1 false 24,.asg 9 25]) (.seq (.ops [.mv 26 2,.mv 27 8,.mv 28 9,.callv (some 29) 26 [27,28],.not 30 29]) (.cond 30 (.seq (.ops [.asg 6 (kB false)]) .ret) .skip))))) (.ops [.bin 31 .add 17 (kI 1),.mv 17 31])))))
def aSo:AC:=(.seq (.ops [.asg 6 (kB true)]) .ret)
def bQr:AC:=(.seq (.ops [.asg 6 (kB false)]) (.seq (.seq (.ops [.mv 10 0,.len 11 10,.mv 12 1,.len 13 12,.bin 14 .neq 11 13]) (.cond 14 (.seq (.ops [.asg 6 (kB false)]) .ret) .skip)) (.seq (.seq (.ops [.mv 15 0,.len 16 15,.mv 17 (kI 0)]) (.block 0 aIb)) aSo)))
theorem bJ2:aV Tryz.prog 120=some (bQr,[.mv 0 6],32):=by kernel_rfl
def aR9 (r:Bool):Exit→St→Prop:=aU [.mv 0 6] fun x _=>x=(fun y=>(vB y)) r
def bOb (r:Bool):Exit→St→Prop:=(bF (wkK (avc Tryz.prog aSo (aR9 r))) (aR9 r))
def bVg (r:Bool):Exit→St→Prop:=(bG 0 (bOb r))
def bTy (p1:(List (List aA))) (p0:(List (List aA))) (x17:Int):St:=⟨[(1,(.d (.sl 1 (p1.map (cSl 10 aZ))))),(2,(.fn 121 [])),(15,(.d (.sl 1 (p0.map (cSl 10 aZ))))),(16,(vI (p0.length:Int))),(17,(vI x17))],[]⟩
abbrev aFp (p1:(List (List aA))) (p0:(List (List aA))) (x17:Int) (r:Bool):Prop:=avc Tryz.prog aIb (bVg r) (bTy p1 p0 x17)
def bTo:AC:=(.seq (.ops [.asg 4 (kB false)]) (.seq (.ops [.mv 5 0,.mv 6 1,.call (some 7) 145 [5,6,(.c (.fn 118 []))],.asg 4 7]) .ret))
theorem bS6:aV Tryz.prog 121=some (bTo,[.mv 0 4],8):=by kernel_rfl
def cEz (r:Bool):Exit→St→Prop:=aU [.mv 0 4] fun x _=>x=(fun y=>(vB y)) r
def aKw:AC:=(.loop (.seq (.ops [.bin 18 .lss 17 16]) (.seq (.cond 18 .skip (.exit 0)) (.seq (.block 1 (.seq (.ops [.mv 19 17,.ia 20 10 15 17,.ld 21 10 true 20,.alc 8 pE,.asg 7 19,.st 10 8 21]) (.seq (.ops [.mv 22 1,.mv 23 7,.ia 24 10 22 23,.ld 25 10 true 24,.alc 9 pE,.st 10 9 25]) (.seq (.ops [.mv 26 2,.ld 27 10 true 8,.ld 28 10 true 9,.callv (some 29) 26 [27,28],.not 30 29]) (.cond 30 (.seq (.ops [.asg 6 (kB false)]) .ret) .skip))))) (.ops [.bin 31 .add 17 (kI 1),.mv 17 31])))))
def aPv:AC:=(.seq (.ops [.asg 6 (kB true)]) .ret)
def bJp:AC:=(.seq (.ops [.asg 6 (kB false)]) (.seq (.seq (.ops [.mv 10 0,.len 11 10,.mv 12 1,.len 13 12,.bin 14 .neq 11 13]) (.cond 14 (.seq (.ops [.asg 6 (kB false)]) .ret) .skip)) (.seq (.seq (.ops [.mv 15 0,.len 16 15,.mv 17 (kI 0)]) (.block 0 aKw)) aPv)))
theorem bU4:aV Tryz.prog 145=some (bJp,[.mv 0 6],32):=by kernel_rfl
def aZc (r:Bool):Exit→St→Prop:=aU [.mv 0 6] fun x _=>x=(fun y=>(vB y)) r
def bOc (r:Bool):Exit→St→Prop:=(bF (wkK (avc Tryz.prog aPv (aZc r))) (aZc r))
def bPb (r:Bool):Exit→St→Prop:=(bG 0 (bOc r))
def bPy (p1:(List aA)) (p0:(List aA)) (x17:Int):St:=⟨[(1,(bN p1)),(2,(.fn 118 [])),(15,(bN p0)),(16,(vI (p0.length:Int))),(17,(vI x17))],[]⟩
abbrev aGk (p1:(List aA)) (p0:(List aA)) (x17:Int) (r:Bool):Prop:=avc Tryz.prog aKw (bPb r) (bPy p1 p0 x17)
def cCl:AC:=(.seq (.ops [.box 2 108 0,.box 3 108 1,.asg 4 (kB false)]) (.seq (.ops [.fa 5 0 2,.ld 6 1 false 5,.fa 7 0 3,.ld 8 1 false 7,.bin 9 .eql 6 8,.mv 10 9,.g 10 true (.fa 11 1 2),.g 10 true (.ld 12 1 false 11),.g 10 true (.fa 13 1 3),.g 10 true (.ld 14 1 false 13),.g 10 true (.bin 15 .eql 12 14),.pick 16 10 15 (kB false),.mv 17 16,.g 17 true (.fa 18 2 2),.g 17 true (.ld 19 1 false 18),.g 17 true (.fa 20 2 3),.g 17 true (.ld 21 1 false 20),.g 17 true (.eqb 22 false 19 21),.pick 23 17 22 (kB false),.mv 24 23,.g 24 true (.fa 25 3 2),.g 24 true (.ld 26 3 true 25),.g 24 true (.fa 27 3 3),.g 24 true (.ld 28 3 true 27),.g 24 true (.eqv 29 false [0,0,1] 26 28),.pick 30 24 29 (kB false),.mv 31 30,.g 31 true (.fa 32 6 2),.g 31 true (.ld 33 1 false 32),.g 31 true (.fa 34 6 3),.g 31 true (.ld 35 1 false 34),.g 31 true (.bin 36 .eql 33 35),.pick 37 31 36 (kB false),.mv 38 37,.g 38 true (.fa 39 7 2),.g 38 true (.ld 40 1 false 39),.g 38 true (.fa 41 7 3),.g 38 true (.ld 42 1 false 41),.g 38 true (.bin 43 .eql 40 42),.pick 44 38 43 (kB false),.mv 45 44,.g 45 true (.fa 46 8 2),.g 45 true (.ld 47 1 false 46),.g 45 true (.fa 48 8 3),.g 45 true (.ld 49 1 false 48),.g 45 true (.call (some 50) 121 [47,49]),.pick 51 45 50 (kB false),.mv 52 51,.g 52 true (.fa 53 9 2),.g 52 true (.ld 54 1 false 53),.g 52 true (.fa 55 9 3),.g 52 true (.ld 56 1 false 55),.g 52 true (.call (some 57) 144 [54,56,(.c (.fn 77 []))]),.pick 58 52 57 (kB false),.asg 4 58]) .ret))
theorem cBs:aV Tryz.prog 118=some (cCl,[.mv 0 4],59):=by kernel_rfl
def cGv (r:Bool):Exit→St→Prop:=aU [.mv 0 4] fun x _=>x=(fun y=>(vB y)) r
def aLv:AC:=(.loop (.seq (.ops [.bin 18 .lss 17 16]) (.seq (.cond 18 .skip (.exit 0)) (.seq (.block 1 (.seq (.ops [.mv 19 17,.ia 20 8 15 17,.ld 21 8 true 20,.alc 8 xG,.asg 7 19,.st 8 8 21]) (.seq (.ops [.mv 22 1,.mv 23 7,.ia 24 8 22 23,.ld 25 8 true 24,.alc 9 xG,.st 8 9 25]) (.seq (.ops [.mv 26 2,.ld 27 8 true 8,.ld 28 8 true 9,.callv (some 29) 26 [27,28],.not 30 29]) (.cond 30 (.seq (.ops [.asg 6 (kB false)]) .ret) .skip))))) (.ops [.bin 31 .add 17 (kI 1),.mv 17 31])))))
def aV2:AC:=(.seq (.ops [.asg 6 (kB true)]) .ret)
def bYm:AC:=(.seq (.ops [.asg 6 (kB false)]) (.seq (.seq (.ops [.mv 10 0,.len 11 10,.mv 12 1,.len 13 12,.bin 14 .neq 11 13]) (.cond 14 (.seq (.ops [.asg 6 (kB false)]) .ret) .skip)) (.seq (.seq (.ops [.mv 15 0,.len 16 15,.mv 17 (kI 0)]) (.block 0 aLv)) aV2)))
theorem bZz:aV Tryz.prog 144=some (bYm,[.mv 0 6],32):=by kernel_rfl
def aXv (r:Bool):Exit→St→Prop:=aU [.mv 0 6] fun x _=>x=(fun y=>(vB y)) r
def bQn (r:Bool):Exit→St→Prop:=(bF (wkK (avc Tryz.prog aV2 (aXv r))) (aXv r))
def bBu (r:Bool):Exit→St→Prop:=(bG 0 (bQn r))
def bVj (p1:(List aB)) (p0:(List aB)) (x17:Int):St:=⟨[(1,(eG p1)),(2,(.fn 77 [])),(15,(eG p0)),(16,(vI (p0.length:Int))),(17,(vI x17))],[]⟩
abbrev aDq (p1:(List aB)) (p0:(List aB)) (x17:Int) (r:Bool):Prop:=avc Tryz.prog aLv (bBu r) (bVj p1 p0 x17)
def aNl:AC:=(.loop (.seq (.ops [.bin 14 .lss 13 12]) (.seq (.cond 14 .skip (.exit 0)) (.seq (.block 1 (.seq (.ops [.mv 15 13,.asg 5 15]) (.seq (.dops [[],[],[0,1],[2],[],[],[4,5],[6],[3,7]] [.mv 16 0,.mv 17 5,.ia 18 1 16 17,.ld 19 1 false 18,.mv 20 1,.mv 21 5,.ia 22 1 20 21,.ld 23 1 false 22,.bin 24 .neq 19 23]) (.cond 24 (.seq (.ops [.asg 4 (kB false)]) .ret) .skip)))) (.ops [.bin 25 .add 13 (kI 1),.mv 13 25])))))
def aUc:AC:=(.seq (.ops [.asg 4 (kB true)]) .ret)
def bCa:AC:=(.seq (.ops [.asg 4 (kB false)]) (.seq (.seq (.ops [.mv 6 0,.len 7 6,.mv 8 1,.len 9 8,.bin 10 .neq 7 9]) (.cond 10 (.seq (.ops [.asg 4 (kB false)]) .ret) .skip)) (.seq (.seq (.ops [.mv 11 0,.len 12 11,.mv 13 (kI 0)]) (.block 0 aNl)) aUc)))
theorem bAm:aV Tryz.prog 119=some (bCa,[.mv 0 4],26):=by kernel_rfl
def aSp (r:Bool):Exit→St→Prop:=aU [.mv 0 4] fun x _=>x=(fun y=>(vB y)) r
def bF7 (r:Bool):Exit→St→Prop:=(bF (wkK (avc Tryz.prog aUc (aSp r))) (aSp r))
def bLm (r:Bool):Exit→St→Prop:=(bG 0 (bF7 r))
def bJi (p0:(List Int)) (p1:(List Int)) (x13:Int):St:=⟨[(0,(bX p0)),(1,(bX p1)),(12,(vI (p0.length:Int))),(13,(vI x13))],[]⟩
abbrev aBy (p0:(List Int)) (p1:(List Int)) (x13:Int) (r:Bool):Prop:=avc Tryz.prog aNl (bLm r) (bJi p0 p1 x13)
def aO2:AC:=(.loop (.seq (.ops [.bin 14 .lss 13 12]) (.seq (.cond 14 .skip (.exit 0)) (.seq (.block 1 (.seq (.ops [.mv 15 13,.asg 5 15]) (.seq (.dops [[],[],[0,1],[2],[],[],[4,5],[6],[3,7]] [.mv 16 0,.mv 17 5,.ia 18 1 16 17,.ld 19 1 false 18,.mv 20 1,.mv 21 5,.ia 22 1 20 21,.ld 23 1 false 22,.bin 24 .neq 19 23]) (.cond 24 (.seq (.ops [.asg 4 (kB false)]) .ret) .skip)))) (.ops [.bin 25 .add 13 (kI 1),.mv 13 25])))))
def aVr:AC:=(.seq (.ops [.asg 4 (kB true)]) .ret)
def bMf:AC:=(.seq (.ops [.asg 4 (kB false)]) (.seq (.seq (.ops [.mv 6 0,.len 7 6,.mv 8 1,.len 9 8,.bin 10 .neq 7 9]) (.cond 10 (.seq (.ops [.asg 4 (kB false)]) .ret) .skip)) (.seq (.seq (.ops [.mv 11 0,.len 12 11,.mv 13 (kI 0)]) (.block 0 aO2)) aVr)))
theorem cCb:aV Tryz.prog 123=some (bMf,[.mv 0 4],26):=by kernel_rfl
def aVu (r:Bool):Exit→St→Prop:=aU [.mv 0 4] fun x _=>x=(fun y=>(vB y)) r
def bHl (r:Bool):Exit→St→Prop:=(bF (wkK (avc Tryz.prog aVr (aVu r))) (aVu r))
def cCn (r:Bool):Exit→St→Prop:=(bG 0 (bHl r))
def bEl (p0:(List (List UInt8))) (p1:(List (List UInt8))) (x13:Int):St:=⟨[(0,(fI p0)),(1,(fI p1)),(12,(vI (p0.length:Int))),(13,(vI x13))],[]⟩
abbrev aG2 (p0:(List (List UInt8))) (p1:(List (List UInt8))) (x13:Int) (r:Bool):Prop:=avc Tryz.prog aO2 (cCn r) (bEl p0 p1 x13)
def aM9:AC:=(.loop (.seq (.ops [.bin 18 .lss 17 16]) (.seq (.cond 18 .skip (.exit 0)) (.seq (.block 1 (.seq (.ops [.mv 19 17,.ia 20 11 15 17,.ld 21 11 true 20,.alc 8 K9,.asg 7 19,.st 11 8 21]) (.seq (.ops [.mv 22 1,.mv 23 7,.ia 24 11 22 23,.ld 25 11 true 24,.alc 9 K9,.st 11 9 25]) (.seq (.ops [.mv 26 2,.ld 27 11 true 8,.ld 28 11 true 9,.callv (some 29) 26 [27,28],.not 30 29]) (.cond 30 (.seq (.ops [.asg 6 (kB false)]) .ret) .skip))))) (.ops [.bin 31 .add 17 (kI 1),.mv 17 31])))))
def aQr:AC:=(.seq (.ops [.asg 6 (kB true)]) .ret)
def bB8:AC:=(.seq (.ops [.asg 6 (kB false)]) (.seq (.seq (.ops [.mv 10 0,.len 11 10,.mv 12 1,.len 13 12,.bin 14 .neq 11 13]) (.cond 14 (.seq (.ops [.asg 6 (kB false)]) .ret) .skip)) (.seq (.seq (.ops [.mv 15 0,.len 16 15,.mv 17 (kI 0)]) (.block 0 aM9)) aQr)))
theorem bOx:aV Tryz.prog 122=some (bB8,[.mv 0 6],32):=by kernel_rfl
def aZy (r:Bool):Exit→St→Prop:=aU [.mv 0 6] fun x _=>x=(fun y=>(vB y)) r
def bHj (r:Bool):Exit→St→Prop:=(bF (wkK (avc Tryz.prog aQr (aZy r))) (aZy r))
def cD7 (r:Bool):Exit→St→Prop:=(bG 0 (bHj r))
def bJu (p1:(List aY)) (p0:(List aY)) (x17:Int):St:=⟨[(1,(eP p1)),(2,(.fn 117 [])),(15,(eP p0)),(16,(vI (p0.length:Int))),(17,(vI x17))],[]⟩
abbrev aCh (p1:(List aY)) (p0:(List aY)) (x17:Int) (r:Bool):Prop:=avc Tryz.prog aM9 (cD7 r) (bJu p1 p0 x17)
def bRo:AC:=(.seq (.ops [.box 2 110 0,.box 3 110 1,.asg 4 (kB false)]) (.seq (.ops [.fa 5 10 2,.ld 6 1 false 5,.fa 7 10 3,.ld 8 1 false 7,.eqb 9 false 6 8,.mv 10 9,.g 10 true (.fa 11 0 2),.g 10 true (.ld 12 10 true 11),.g 10 true (.fa 13 0 3),.g 10 true (.ld 14 10 true 13),.g 10 true (.call (some 15) 118 [12,14]),.pick 16 10 15 (kB false),.asg 4 16]) .ret))
theorem bTa:aV Tryz.prog 117=some (bRo,[.mv 0 4],17):=by kernel_rfl
def cDt (r:Bool):Exit→St→Prop:=aU [.mv 0 4] fun x _=>x=(fun y=>(vB y)) r
theorem bJz (x:bL) (h:∀ d ∈ gD x,OkD d):okGCol x:=⟨nY _ (bR h 0 1),iQ _ (bR h 1 1)⟩
theorem bF1 (x:bD) (h:∀ d ∈ iR x,OkD d):okGTable x:=⟨nY _ (bR h 0 1),oZ _ (fun y hy=>bJz y hy) (bR h 1 1)⟩
theorem bUc (x:aJ) (h:∀ d ∈ J9 x,OkD d):okGCatalog x:=oZ _ (fun y hy=>bF1 y hy) (bR h 0 1)
theorem aTu (x:dC) (h:∀ d ∈ vF x,OkD d):okGValue x:=⟨iQ _ (bR h 0 1),iQ _ (bR h 1 1),nY _ (bR h 2 1)⟩
mutual
theorem X0:∀ x:aA,(∀ d ∈ aZ x,OkD d)→okGPExpr x
  | ⟨a0,a1,a2,a3,a4,a5,a6,a7⟩,h0=>by
    rw [iV] at h0
    have h:∀ d ∈ iI ⟨a0,a1,a2,a3,a4,a5,a6,a7⟩,OkD d:=h0
    unfold okGPExpr
    exact ⟨iQ _ (bR h 0 1),iQ _ (bR h 1 1),trivial,aTu a3 (bR h 3 3),iQ _ (bR h 6 1),iQ _ (bR h 7 1),⟨by simpa using (fB (bR h 8 1)).1,aAl a6 (fB (bR h 8 1)).2⟩,⟨by simpa using (fB (bR h 9 1)).1,aWi a7 (fB (bR h 9 1)).2⟩⟩
theorem bFm:∀ x:aY,(∀ d ∈ gI x,OkD d)→okGPSort x
  | ⟨a0,a1⟩,h0=>by
    rw [vJ] at h0
    have h:∀ d ∈ lK ⟨a0,a1⟩,OkD d:=h0
    unfold okGPSort
    exact ⟨X0 a0 (by rw [iV]; exact (bR h 0 10)),trivial⟩
theorem aYf:∀ x:aB,(∀ d ∈ gY x,OkD d)→okGPlan x
  | ⟨a0,a1,a2,a3,a4,a5,a6,a7⟩,h0=>by
    rw [uG] at h0
    have h:∀ d ∈ rO ⟨a0,a1,a2,a3,a4,a5,a6,a7⟩,OkD d:=h0
    unfold okGPlan
    exact ⟨oZ _ (fun y hy=>iQ _ hy) (bR h 0 1),⟨by simpa using (fB (bR h 1 1)).1,aWf a1 (fB (bR h 1 1)).2⟩,⟨by simpa using (fB (bR h 2 1)).1,aAl a2 (fB (bR h 2 1)).2⟩,⟨by simpa using (fB (bR h 3 1)).1,bA9 a3 (fB (bR h 3 1)).2⟩,⟨by simpa using (fB (bR h 4 1)).1,aAl a4 (fB (bR h 4 1)).2⟩,oZ _ (fun y hy=>nY _ hy) (bR h 5 1),trivial,iQ _ (bR h 7 1)⟩
theorem aAl:∀ l:List aA,(∀ x ∈ l.map aZ,∀ d ∈ x,OkD d)→okLGPExpr l
  | [],_=>by unfold okLGPExpr; trivial
  | x::l,h=>by
    unfold okLGPExpr
    exact ⟨X0 x (h _ (by simp)),aAl l fun y hy=>h y (List.mem_cons_of_mem _ hy)⟩
theorem bA9:∀ l:List aY,(∀ x ∈ l.map gI,∀ d ∈ x,OkD d)→okLGPSort l
  | [],_=>by unfold okLGPSort; trivial
  | x::l,h=>by
    unfold okLGPSort
    exact ⟨bFm x (h _ (by simp)),bA9 l fun y hy=>h y (List.mem_cons_of_mem _ hy)⟩
theorem aWi:∀ l:List aB,(∀ x ∈ l.map gY,∀ d ∈ x,OkD d)→okLGPlan l
  | [],_=>by unfold okLGPlan; trivial
  | x::l,h=>by
    unfold okLGPlan
    exact ⟨aYf x (h _ (by simp)),aWi l fun y hy=>h y (List.mem_cons_of_mem _ hy)⟩
theorem aWf:∀ l:List (List aA),(∀ x ∈ l.map (cSl 10 aZ),∀ d ∈ x,OkD d)→okLLGPExpr l
  | [],_=>by unfold okLLGPExpr; trivial
  | x::l,h=>by
    unfold okLLGPExpr
    have h1:∀ d ∈ cSl 10 aZ x,OkD d:=h _ (by simp)
    exact ⟨⟨by simpa using (fB h1).1,aAl x (fB h1).2⟩,aWf l fun y hy=>h y (List.mem_cons_of_mem _ hy)⟩
end
theorem bRr (x:bM) (h:∀ d ∈ yU x,OkD d):okGSPlan x:=⟨iQ _ (bR h 0 1),aYf x.plan (by rw [uG]; exact bR h 1 8),iQ _ (bR h 9 1),oZ _ (fun y hy=>oZ _ (fun y hy=>X0 y hy) hy) (bR h 10 1),oZ _ (fun y hy=>iQ _ hy) (bR h 11 1),oZ _ (fun y hy=>X0 y hy) (bR h 12 1),oZ _ (fun y hy=>X0 y hy) (bR h 13 1)⟩
mutual
theorem aL2:∀ x:cO,(∀ d ∈ jW x,OkD d)→okGExpr x
  | ⟨a0,a1,a2,a3,a4,a5,a6,a7⟩,h0=>by
    rw [F9] at h0
    have h:∀ d ∈ uT ⟨a0,a1,a2,a3,a4,a5,a6,a7⟩,OkD d:=h0
    unfold okGExpr
    exact ⟨iQ _ (bR h 0 1),iQ _ (bR h 1 1),trivial,aTu a3 (bR h 3 3),nY _ (bR h 6 1),nY _ (bR h 7 1),⟨by simpa using (fB (bR h 8 1)).1,aD0 a6 (fB (bR h 8 1)).2⟩,⟨by simpa using (fB (bR h 9 1)).1,aZg a7 (fB (bR h 9 1)).2⟩⟩
theorem bFy:∀ x:jN,(∀ d ∈ xY x,OkD d)→okGItem x
  | ⟨a0,a1,a2,a3⟩,h0=>by
    rw [bC6] at h0
    have h:∀ d ∈ aB6 ⟨a0,a1,a2,a3⟩,OkD d:=h0
    unfold okGItem
    exact ⟨trivial,nY _ (bR h 1 1),aL2 a2 (by rw [F9]; exact (bR h 2 10)),nY _ (bR h 12 1)⟩
theorem bGf:∀ x:eY,(∀ d ∈ mI x,OkD d)→okGQuery x
  | ⟨a0,a1,a2,a3,a4,a5⟩,h0=>by
    rw [aWn] at h0
    have h:∀ d ∈ I8 ⟨a0,a1,a2,a3,a4,a5⟩,OkD d:=h0
    unfold okGQuery
    exact ⟨trivial,⟨by simpa using (fB (bR h 1 1)).1,aXa a1 (fB (bR h 1 1)).2⟩,⟨by simpa using (fB (bR h 2 1)).1,aYl a2 (fB (bR h 2 1)).2⟩,⟨by simpa using (fB (bR h 3 1)).1,aD0 a3 (fB (bR h 3 1)).2⟩,⟨by simpa using (fB (bR h 4 1)).1,aWh a4 (fB (bR h 4 1)).2⟩,iQ _ (bR h 5 1)⟩
theorem bE4:∀ x:jA,(∀ d ∈ wR x,OkD d)→okGSortKey x
  | ⟨a0,a1⟩,h0=>by
    rw [bXp] at h0
    have h:∀ d ∈ U8 ⟨a0,a1⟩,OkD d:=h0
    unfold okGSortKey
    exact ⟨aL2 a0 (by rw [F9]; exact (bR h 0 10)),trivial⟩
theorem bIw:∀ x:jL,(∀ d ∈ xL x,OkD d)→okGSource x
  | ⟨a0,a1,a2⟩,h0=>by
    rw [bCs] at h0
    have h:∀ d ∈ aAs ⟨a0,a1,a2⟩,OkD d:=h0
    unfold okGSource
    exact ⟨nY _ (bR h 0 1),nY _ (bR h 1 1),⟨by simpa using (fB (bR h 2 1)).1,aD0 a2 (fB (bR h 2 1)).2⟩⟩
theorem aD0:∀ l:List cO,(∀ x ∈ l.map jW,∀ d ∈ x,OkD d)→okLGExpr l
  | [],_=>by unfold okLGExpr; trivial
  | x::l,h=>by
    unfold okLGExpr
    exact ⟨aL2 x (h _ (by simp)),aD0 l fun y hy=>h y (List.mem_cons_of_mem _ hy)⟩
theorem aXa:∀ l:List jN,(∀ x ∈ l.map xY,∀ d ∈ x,OkD d)→okLGItem l
  | [],_=>by unfold okLGItem; trivial
  | x::l,h=>by
    unfold okLGItem
    exact ⟨bFy x (h _ (by simp)),aXa l fun y hy=>h y (List.mem_cons_of_mem _ hy)⟩
theorem aZg:∀ l:List eY,(∀ x ∈ l.map mI,∀ d ∈ x,OkD d)→okLGQuery l
  | [],_=>by unfold okLGQuery; trivial
  | x::l,h=>by
    unfold okLGQuery
    exact ⟨bGf x (h _ (by simp)),aZg l fun y hy=>h y (List.mem_cons_of_mem _ hy)⟩
theorem aWh:∀ l:List jA,(∀ x ∈ l.map wR,∀ d ∈ x,OkD d)→okLGSortKey l
  | [],_=>by unfold okLGSortKey; trivial
  | x::l,h=>by
    unfold okLGSortKey
    exact ⟨bE4 x (h _ (by simp)),aWh l fun y hy=>h y (List.mem_cons_of_mem _ hy)⟩
theorem aYl:∀ l:List jL,(∀ x ∈ l.map xL,∀ d ∈ x,OkD d)→okLGSource l
  | [],_=>by unfold okLGSource; trivial
  | x::l,h=>by
    unfold okLGSource
    exact ⟨bIw x (h _ (by simp)),aYl l fun y hy=>h y (List.mem_cons_of_mem _ hy)⟩
end
theorem cE9 (x:fV) (h:∀ d ∈ aI2 x,OkD d):okGForm x:=⟨trivial,trivial,trivial,trivial,iQ _ (bR h 4 1),iQ _ (bR h 5 1),iQ _ (bR h 6 1)⟩
theorem de9 {l:List D} (h:WtC Tryz.prog 9 l):∃ x:(List UInt8),l=cStr x:=(cA8 h kr)
theorem de3 {l:List D} (h:WtC Tryz.prog 3 l):∃ x:Int,l=cI x:=(bRs h (k:=.i64) kr)
theorem bCi {l:List D} (h:WtC Tryz.prog 156 l):∃ x:bL,l=gD x:=by
  obtain ⟨x0,e0⟩:=de9 (eQ h 0 (off:=0) (n:=1) kr)
  obtain ⟨x1,e1⟩:=de3 (eQ h 1 (off:=1) (n:=1) kr)
  exact ⟨⟨x0,x1⟩,(dr1 (m:=1) kr e0 (dr1 (m:=2) kr e1 (dr0 (uI h (n:=2) kr))))⟩
theorem bE1 {l:List D} (h:WtC Tryz.prog 85 l):∃ x:(List bL),l=(cSl 2 gD) x:=(aC3 h (e:=156) (n:=2) (c:=gD) kr kr fun x hx=>bCi hx)
theorem bK1 {l:List D} (h:WtC Tryz.prog 87 l):∃ x:bD,l=iR x:=by
  obtain ⟨x0,e0⟩:=de9 (eQ h 0 (off:=0) (n:=1) kr)
  obtain ⟨x1,e1⟩:=bE1 (eQ h 1 (off:=1) (n:=1) kr)
  exact ⟨⟨x0,x1⟩,(dr1 (m:=1) kr e0 (dr1 (m:=2) kr e1 (dr0 (uI h (n:=2) kr))))⟩
theorem bN9 {l:List D} (h:WtC Tryz.prog 22 l):∃ x:(List bD),l=(cSl 2 iR) x:=(aC3 h (e:=87) (n:=2) (c:=iR) kr kr fun x hx=>bK1 hx)
theorem bU9 {l:List D} (h:WtC Tryz.prog 24 l):∃ x:aJ,l=J9 x:=by
  obtain ⟨x0,e0⟩:=bN9 (eQ h 0 (off:=0) (n:=1) kr)
  exact ⟨⟨x0⟩,(dr1 (m:=1) kr e0 (dr0 (uI h (n:=1) kr)))⟩
theorem aW9 {l:List D} (h:WtC Tryz.prog 25 l):∃ x:(List Int),l=(cSl 1 cI) x:=(aC3 h (e:=3) (n:=1) (c:=cI) kr kr fun x hx=>de3 hx)
theorem de4 {l:List D} (h:WtC Tryz.prog 4 l):∃ x:Bool,l=cB x:=(cAc h kr)
theorem bIb {l:List D} (h:WtC Tryz.prog 92 l):∃ x:dC,l=vF x:=by
  obtain ⟨x0,e0⟩:=de3 (eQ h 0 (off:=0) (n:=1) kr)
  obtain ⟨x1,e1⟩:=de3 (eQ h 1 (off:=1) (n:=1) kr)
  obtain ⟨x2,e2⟩:=de9 (eQ h 2 (off:=2) (n:=1) kr)
  exact ⟨⟨x0,x1,x2⟩,(dr1 (m:=1) kr e0 (dr1 (m:=2) kr e1 (dr1 (m:=3) kr e2 (dr0 (uI h (n:=3) kr)))))⟩
theorem bYh {l:List D} (h:WtC Tryz.prog 29 l):∃ x:(List (List UInt8)),l=(cSl 1 cStr) x:=(aC3 h (e:=9) (n:=1) (c:=cStr) kr kr fun x hx=>de9 hx)
def yZ (n:Nat):Prop:=∀ m:List D,SizeOf.sizeOf m≤n→(WtC Tryz.prog 26 m→∃ x:(List (List aA)),m=(cSl 1 (cSl 10 aZ)) x)∧(WtC Tryz.prog 27 m→∃ x:(List aA),m=(cSl 10 aZ) x)∧(WtC Tryz.prog 28 m→∃ x:(List aY),m=(cSl 11 gI) x)∧(WtC Tryz.prog 93 m→∃ x:(List aB),m=(cSl 8 gY) x)
theorem aF4 {n m:Nat} (h:yZ n) (hm:m≤n):yZ m:=fun l hl=>h l (Nat.le_trans hl hm)
theorem aKz {l:List D} (H:yZ (SizeOf.sizeOf l)) (h:WtC Tryz.prog 95 l):∃ x:aA,l=aZ x:=by
  obtain ⟨x0,e0⟩:=de3 (eQ h 0 (off:=0) (n:=1) (tf:=3) kr)
  obtain ⟨x1,e1⟩:=de3 (eQ h 1 (off:=1) (n:=1) (tf:=3) kr)
  obtain ⟨x2,e2⟩:=de4 (eQ h 2 (off:=2) (n:=1) (tf:=4) kr)
  obtain ⟨x3,e3⟩:=bIb (eQ h 3 (off:=3) (n:=3) (tf:=92) kr)
  obtain ⟨x4,e4⟩:=de3 (eQ h 4 (off:=6) (n:=1) (tf:=3) kr)
  obtain ⟨x5,e5⟩:=de3 (eQ h 5 (off:=7) (n:=1) (tf:=3) kr)
  obtain ⟨x6,e6⟩:=(H _ (xO l 8 1)).2.1 (eQ h 6 (off:=8) (n:=1) (tf:=27) kr)
  obtain ⟨x7,e7⟩:=(H _ (xO l 9 1)).2.2.2 (eQ h 7 (off:=9) (n:=1) (tf:=93) kr)
  exact ⟨⟨x0,x1,x2,x3,x4,x5,x6,x7⟩,(show l=iI ⟨x0,x1,x2,x3,x4,x5,x6,x7⟩ from (dr1 (m:=1) kr e0 (dr1 (m:=2) kr e1 (dr1 (m:=3) kr e2 (dr1 (m:=6) kr e3 (dr1 (m:=7) kr e4 (dr1 (m:=8) kr e5 (dr1 (m:=9) kr e6 (dr1 (m:=10) kr e7 (dr0 (uI h (n:=10) kr))))))))))).trans (iV _).symm⟩
theorem aVg {l:List D} (H:yZ (SizeOf.sizeOf l)) (h:WtC Tryz.prog 131 l):∃ x:aY,l=gI x:=by
  obtain ⟨x0,e0⟩:=aKz (aF4 H (xO l 0 10)) (eQ h 0 (off:=0) (n:=10) (tf:=95) kr)
  rw [iV] at e0
  obtain ⟨x1,e1⟩:=de4 (eQ h 1 (off:=10) (n:=1) (tf:=4) kr)
  exact ⟨⟨x0,x1⟩,(show l=lK ⟨x0,x1⟩ from (dr1 (m:=10) kr e0 (dr1 (m:=11) kr e1 (dr0 (uI h (n:=11) kr))))).trans (vJ _).symm⟩
theorem aOw {l:List D} (H:yZ (SizeOf.sizeOf l)) (h:WtC Tryz.prog 31 l):∃ x:aB,l=gY x:=by
  obtain ⟨x0,e0⟩:=aW9 (eQ h 0 (off:=0) (n:=1) (tf:=25) kr)
  obtain ⟨x1,e1⟩:=(H _ (xO l 1 1)).1 (eQ h 1 (off:=1) (n:=1) (tf:=26) kr)
  obtain ⟨x2,e2⟩:=(H _ (xO l 2 1)).2.1 (eQ h 2 (off:=2) (n:=1) (tf:=27) kr)
  obtain ⟨x3,e3⟩:=(H _ (xO l 3 1)).2.2.1 (eQ h 3 (off:=3) (n:=1) (tf:=28) kr)
  obtain ⟨x4,e4⟩:=(H _ (xO l 4 1)).2.1 (eQ h 4 (off:=4) (n:=1) (tf:=27) kr)
  obtain ⟨x5,e5⟩:=bYh (eQ h 5 (off:=5) (n:=1) (tf:=29) kr)
  obtain ⟨x6,e6⟩:=de4 (eQ h 6 (off:=6) (n:=1) (tf:=4) kr)
  obtain ⟨x7,e7⟩:=de3 (eQ h 7 (off:=7) (n:=1) (tf:=3) kr)
  exact ⟨⟨x0,x1,x2,x3,x4,x5,x6,x7⟩,(show l=rO ⟨x0,x1,x2,x3,x4,x5,x6,x7⟩ from (dr1 (m:=1) kr e0 (dr1 (m:=2) kr e1 (dr1 (m:=3) kr e2 (dr1 (m:=4) kr e3 (dr1 (m:=5) kr e4 (dr1 (m:=6) kr e5 (dr1 (m:=7) kr e6 (dr1 (m:=8) kr e7 (dr0 (uI h (n:=8) kr))))))))))).trans (uG _).symm⟩
theorem xI:∀ n,yZ n:=by
  intro n
  induction n with
  | zero =>
    intro m hm
    have:m=[]:=by cases m with | nil=>rfl | cons x l=>simp at hm
    subst this
    exact ⟨fun h=>by obtain ⟨ls,hl,_⟩:=oJ h (e:=27) (n:=1) kr kr; simp at hl,fun h=>by obtain ⟨ls,hl,_⟩:=oJ h (e:=95) (n:=10) kr kr; simp at hl,fun h=>by obtain ⟨ls,hl,_⟩:=oJ h (e:=131) (n:=11) kr kr; simp at hl,fun h=>by obtain ⟨ls,hl,_⟩:=oJ h (e:=31) (n:=8) kr kr; simp at hl⟩
  | succ n ih =>
    intro m hm
    refine ⟨?_,?_,?_,?_⟩
    · intro h
      obtain ⟨ls,rfl,hx⟩:=oJ h (e:=27) (n:=1) kr kr
      have H:∀ x ∈ ls,∃ y:(List aA),x=(cSl 10 aZ) y:=fun x hm2=>(ih x (by have:=aCn (sz:=1) hm2; omega)).2.1 (hx x hm2)
      obtain ⟨ys,rfl⟩:=L8 H
      exact ⟨ys,rfl⟩
    · intro h
      obtain ⟨ls,rfl,hx⟩:=oJ h (e:=95) (n:=10) kr kr
      have H:∀ x ∈ ls,∃ y:aA,x=aZ y:=fun x hm2=>aKz (aF4 ih (by have:=aCn (sz:=10) hm2; omega)) (hx x hm2)
      obtain ⟨ys,rfl⟩:=L8 H
      exact ⟨ys,rfl⟩
    · intro h
      obtain ⟨ls,rfl,hx⟩:=oJ h (e:=131) (n:=11) kr kr
      have H:∀ x ∈ ls,∃ y:aY,x=gI y:=fun x hm2=>aVg (aF4 ih (by have:=aCn (sz:=11) hm2; omega)) (hx x hm2)
      obtain ⟨ys,rfl⟩:=L8 H
      exact ⟨ys,rfl⟩
    · intro h
      obtain ⟨ls,rfl,hx⟩:=oJ h (e:=31) (n:=8) kr kr
      have H:∀ x ∈ ls,∃ y:aB,x=gY y:=fun x hm2=>aOw (aF4 ih (by have:=aCn (sz:=8) hm2; omega)) (hx x hm2)
      obtain ⟨ys,rfl⟩:=L8 H
      exact ⟨ys,rfl⟩
theorem bW8 {l:List D} (h:WtC Tryz.prog 26 l):∃ x:(List (List aA)),l=(cSl 1 (cSl 10 aZ)) x:=(xI _ l (Nat.le_refl _)).1 h
theorem aR4 {l:List D} (h:WtC Tryz.prog 27 l):∃ x:(List aA),l=(cSl 10 aZ) x:=(xI _ l (Nat.le_refl _)).2.1 h
theorem cHj {l:List D} (h:WtC Tryz.prog 28 l):∃ x:(List aY),l=(cSl 11 gI) x:=(xI _ l (Nat.le_refl _)).2.2.1 h
theorem cFy {l:List D} (h:WtC Tryz.prog 93 l):∃ x:(List aB),l=(cSl 8 gY) x:=(xI _ l (Nat.le_refl _)).2.2.2 h
theorem cF8 {l:List D} (h:WtC Tryz.prog 95 l):∃ x:aA,l=aZ x:=aKz (xI _) h
theorem cHw {l:List D} (h:WtC Tryz.prog 131 l):∃ x:aY,l=gI x:=aVg (xI _) h
theorem bBi {l:List D} (h:WtC Tryz.prog 31 l):∃ x:aB,l=gY x:=aOw (xI _) h
end Go.Proofs.YthgkmdkjegiaoacGreat
