/- That the code computes these functions (printed by a program). -/
import Derived.KernelRfl
import Derived.Test.YthgkmdkjegiaoadGreatAbG2
import Derived.Test.YthgkmdkjegiaoadGreatAbC3
import Derived.Test.YthgkmdkjegiaoadGreatAbX2
import Derived.Test.YthgkmdkjegiaoadGreatFExactChanges
import Derived.Test.YthgkmdkjegiaoadGreatProg
namespace Go.Proofs.YthgkmdkjegiaoadGreat
open Go Go.RowKit Go.Ab
attribute [local irreducible] avc bI aop dgo aU bF bG wkK wG stz O7 bA eff bH.st
def cI (n:Int):List D:=[.i .i64 n]
def cU8 (n:Int):List D:=[.i .u8 n]
def cI8 (n:Int):List D:=[.i .u64 n]
def cEb (n:Int):List D:=[.i .i32 n]
def cEo (n:Int):List D:=[.i .u32 n]
def cB (b:Bool):List D:=[.b b]
def cStr (s:List UInt8):List D:=[.s (bs s)]
def cSl {α:Type} (sz:Nat) (f:α→List D) (l:List α):List D:=[.sl sz (l.map f)]
def gL (x:bL):List D:=[(.s (bs x.name)),(.i .i64 x.type)]
def nW (x:bL):V:=.agg (gL x)
def cIb (x:bL):List V:=(gL x).map V.d
def iQ (x:bD):List D:=[(.s (bs x.name)),(.sl 2 (x.cols.map gL))]
def jO (x:bD):V:=.agg (iQ x)
def Q5 (x:bD):List V:=(iQ x).map V.d
def K6 (x:aJ):List D:=[(.sl 2 (x.tables.map iQ))]
def dL (x:aJ):V:=.agg (K6 x)
def dJ (x:aJ):List V:=(K6 x).map V.d
def uR (x:dF):List D:=[(.i .i64 x.kind),(.i .i64 x.num),(.s (bs x.text))]
def nV (x:dF):V:=.agg (uR x)
def cIa (x:dF):List V:=(uR x).map V.d
mutual
def aZ:aA→List D
  | ⟨a0,a1,a2,a3,a4,a5,a6,a7⟩=>[(.i .i64 a0)]++[(.i .i64 a1)]++[(.b a2)]++uR a3++[(.i .i64 a4)]++[(.i .i64 a5)]++[.sl 10 (uW a6)]++[.sl 8 (U1 a7)]
def gG:aY→List D
  | ⟨a0,a1⟩=>aZ a0++[(.b a1)]
def gU:aB→List D
  | ⟨a0,a1,a2,a3,a4,a5,a6,a7⟩=>[(.sl 1 (a0.map cI))]++[.sl 1 (aAr a1)]++[.sl 10 (uW a2)]++[.sl 11 (aAg a3)]++[.sl 10 (uW a4)]++[(.sl 1 (a5.map cStr))]++[(.b a6)]++[(.i .i64 a7)]
def uW:List aA→List (List D)
  | []=>[]
  | x::l=>aZ x::uW l
def aAg:List aY→List (List D)
  | []=>[]
  | x::l=>gG x::aAg l
def U1:List aB→List (List D)
  | []=>[]
  | x::l=>gU x::U1 l
def aAr:List (List aA)→List (List D)
  | []=>[]
  | x::l=>[.sl 10 (uW x)]::aAr l
end
theorem P5:∀ l:List aA,uW l=l.map aZ
  | []=>by simp only [uW,List.map_nil]
  | x::l=>by simp only [uW,List.map_cons,P5 l]
theorem aEn:∀ l:List aY,aAg l=l.map gG
  | []=>by simp only [aAg,List.map_nil]
  | x::l=>by simp only [aAg,List.map_cons,aEn l]
theorem aCj:∀ l:List aB,U1 l=l.map gU
  | []=>by simp only [U1,List.map_nil]
  | x::l=>by simp only [U1,List.map_cons,aCj l]
theorem aEu:∀ l:List (List aA),aAr l=l.map (cSl 10 aZ)
  | []=>by simp only [aAr,List.map_nil]
  | x::l=>by simp only [aAr,List.map_cons,aEu l,cSl,P5]
def iC (x:aA):List D:=[(.i .i64 x.kind),(.i .i64 x.op),(.b x.not_),(.i .i64 x.value.kind),(.i .i64 x.value.num),(.s (bs x.value.text)),(.i .i64 x.up),(.i .i64 x.at_),(.sl 10 (x.kids.map aZ)),(.sl 8 (x.sub.map gU))]
def lQ (x:aY):List D:=[(.i .i64 x.expr.kind),(.i .i64 x.expr.op),(.b x.expr.not_),(.i .i64 x.expr.value.kind),(.i .i64 x.expr.value.num),(.s (bs x.expr.value.text)),(.i .i64 x.expr.up),(.i .i64 x.expr.at_),(.sl 10 (x.expr.kids.map aZ)),(.sl 8 (x.expr.sub.map gU)),(.b x.desc)]
def uO (x:aB):List D:=[(.sl 1 (x.tables.map cI)),(.sl 1 (x.on_.map (cSl 10 aZ))),(.sl 10 (x.where_.map aZ)),(.sl 11 (x.order.map gG)),(.sl 10 (x.items.map aZ)),(.sl 1 (x.names.map cStr)),(.b x.distinct),(.i .i64 x.limit)]
theorem iW (x:aA):aZ x=iC x:=by
  obtain ⟨a0,a1,a2,a3,a4,a5,a6,a7⟩:=x
  simp only [aZ,iC,P5,aEn,aCj,aEu,List.cons_append,List.nil_append,uR]
theorem sS (x:aY):gG x=lQ x:=by
  obtain ⟨a0,a1⟩:=x
  simp only [gG,lQ,P5,aEn,aCj,aEu,iW,iC,List.cons_append,List.nil_append]
theorem uE (x:aB):gU x=uO x:=by
  obtain ⟨a0,a1,a2,a3,a4,a5,a6,a7⟩:=x
  simp only [gU,uO,P5,aEn,aCj,aEu,List.cons_append,List.nil_append]
def bS (x:aA):V:=.agg (iC x)
def mI (x:aA):List V:=(iC x).map V.d
def fC (x:aY):V:=.agg (lQ x)
def cDv (x:aY):List V:=(lQ x).map V.d
def bV (x:aB):V:=.agg (uO x)
def jF (x:aB):List V:=(uO x).map V.d
def C8 (x:bM):List D:=[(.i .i64 x.kind),(.sl 1 (x.plan.tables.map cI)),(.sl 1 (x.plan.on_.map (cSl 10 aZ))),(.sl 10 (x.plan.where_.map aZ)),(.sl 11 (x.plan.order.map gG)),(.sl 10 (x.plan.items.map aZ)),(.sl 1 (x.plan.names.map cStr)),(.b x.plan.distinct),(.i .i64 x.plan.limit),(.i .i64 x.table),(.sl 1 (x.rows.map (cSl 10 aZ))),(.sl 1 (x.cols.map cI)),(.sl 10 (x.sets.map aZ)),(.sl 10 (x.where_.map aZ))]
def iL (x:bM):V:=.agg (C8 x)
def K7 (x:bM):List V:=(C8 x).map V.d
mutual
def jQ:cO→List D
  | ⟨a0,a1,a2,a3,a4,a5,a6,a7⟩=>[(.i .i64 a0)]++[(.i .i64 a1)]++[(.b a2)]++uR a3++[(.s (bs a4))]++[(.s (bs a5))]++[.sl 10 (vU a6)]++[.sl 6 (aB4 a7)]
def wB:jG→List D
  | ⟨a0,a1,a2,a3⟩=>[(.b a0)]++[(.s (bs a1))]++jQ a2++[(.s (bs a3))]
def mJ:eY→List D
  | ⟨a0,a1,a2,a3,a4,a5⟩=>[(.b a0)]++[.sl 13 (aB6 a1)]++[.sl 3 (U6 a2)]++[.sl 10 (vU a3)]++[.sl 11 (Q4 a4)]++[(.i .i64 a5)]
def wP:jC→List D
  | ⟨a0,a1⟩=>jQ a0++[(.b a1)]
def wM:jM→List D
  | ⟨a0,a1,a2⟩=>[(.s (bs a0))]++[(.s (bs a1))]++[.sl 10 (vU a2)]
def vU:List cO→List (List D)
  | []=>[]
  | x::l=>jQ x::vU l
def aB6:List jG→List (List D)
  | []=>[]
  | x::l=>wB x::aB6 l
def aB4:List eY→List (List D)
  | []=>[]
  | x::l=>mJ x::aB4 l
def Q4:List jC→List (List D)
  | []=>[]
  | x::l=>wP x::Q4 l
def U6:List jM→List (List D)
  | []=>[]
  | x::l=>wM x::U6 l
end
theorem yL:∀ l:List cO,vU l=l.map jQ
  | []=>by simp only [vU,List.map_nil]
  | x::l=>by simp only [vU,List.map_cons,yL l]
theorem A8:∀ l:List jG,aB6 l=l.map wB
  | []=>by simp only [aB6,List.map_nil]
  | x::l=>by simp only [aB6,List.map_cons,A8 l]
theorem K8:∀ l:List eY,aB4 l=l.map mJ
  | []=>by simp only [aB4,List.map_nil]
  | x::l=>by simp only [aB4,List.map_cons,K8 l]
theorem J3:∀ l:List jC,Q4 l=l.map wP
  | []=>by simp only [Q4,List.map_nil]
  | x::l=>by simp only [Q4,List.map_cons,J3 l]
theorem yZ:∀ l:List jM,U6 l=l.map wM
  | []=>by simp only [U6,List.map_nil]
  | x::l=>by simp only [U6,List.map_cons,yZ l]
def rF (x:cO):List D:=[(.i .i64 x.kind),(.i .i64 x.op),(.b x.not_),(.i .i64 x.value.kind),(.i .i64 x.value.num),(.s (bs x.value.text)),(.s (bs x.qual)),(.s (bs x.name)),(.sl 10 (x.kids.map jQ)),(.sl 6 (x.sub.map mJ))]
def Y6 (x:jG):List D:=[(.b x.star),(.s (bs x.qual)),(.i .i64 x.expr.kind),(.i .i64 x.expr.op),(.b x.expr.not_),(.i .i64 x.expr.value.kind),(.i .i64 x.expr.value.num),(.s (bs x.expr.value.text)),(.s (bs x.expr.qual)),(.s (bs x.expr.name)),(.sl 10 (x.expr.kids.map jQ)),(.sl 6 (x.expr.sub.map mJ)),(.s (bs x.as_))]
def yR (x:eY):List D:=[(.b x.distinct),(.sl 13 (x.items.map wB)),(.sl 3 (x.from_.map wM)),(.sl 10 (x.where_.map jQ)),(.sl 11 (x.order.map wP)),(.i .i64 x.limit)]
def aAs (x:jC):List D:=[(.i .i64 x.expr.kind),(.i .i64 x.expr.op),(.b x.expr.not_),(.i .i64 x.expr.value.kind),(.i .i64 x.expr.value.num),(.s (bs x.expr.value.text)),(.s (bs x.expr.qual)),(.s (bs x.expr.name)),(.sl 10 (x.expr.kids.map jQ)),(.sl 6 (x.expr.sub.map mJ)),(.b x.desc)]
def aA2 (x:jM):List D:=[(.s (bs x.table)),(.s (bs x.as_)),(.sl 10 (x.on_.map jQ))]
theorem G7 (x:cO):jQ x=rF x:=by
  obtain ⟨a0,a1,a2,a3,a4,a5,a6,a7⟩:=x
  simp only [jQ,rF,yL,A8,K8,J3,yZ,List.cons_append,List.nil_append,uR]
theorem bKm (x:jG):wB x=Y6 x:=by
  obtain ⟨a0,a1,a2,a3⟩:=x
  simp only [wB,Y6,yL,A8,K8,J3,yZ,G7,rF,List.cons_append,List.nil_append]
theorem aVj (x:eY):mJ x=yR x:=by
  obtain ⟨a0,a1,a2,a3,a4,a5⟩:=x
  simp only [mJ,yR,yL,A8,K8,J3,yZ,List.cons_append,List.nil_append]
theorem bL1 (x:jC):wP x=aAs x:=by
  obtain ⟨a0,a1⟩:=x
  simp only [wP,aAs,yL,A8,K8,J3,yZ,G7,rF,List.cons_append,List.nil_append]
theorem bU5 (x:jM):wM x=aA2 x:=by
  obtain ⟨a0,a1,a2⟩:=x
  simp only [wM,aA2,yL,A8,K8,J3,yZ,List.cons_append,List.nil_append]
def aZc (x:cO):V:=.agg (rF x)
def bDl (x:cO):List V:=(rF x).map V.d
def cIi (x:jG):V:=.agg (Y6 x)
def cI9 (x:jG):List V:=(Y6 x).map V.d
def cG6 (x:eY):V:=.agg (yR x)
def cEs (x:eY):List V:=(yR x).map V.d
def cGq (x:jC):V:=.agg (aAs x)
def cDx (x:jC):List V:=(aAs x).map V.d
def cHv (x:jM):V:=.agg (aA2 x)
def cE5 (x:jM):List V:=(aA2 x).map V.d
def aMp (x:fV):List D:=[(.b x.op),(.b x.not_),(.b x.value),(.b x.name),(.i .i64 x.least),(.i .i64 x.most),(.i .i64 x.subs)]
def aZt (x:fV):V:=.agg (aMp x)
def cG1 (x:fV):List V:=(aMp x).map V.d
instance:Enc (List UInt8):=⟨cStr,cStr,(fun _=>rfl)⟩
instance:Enc aA:=⟨aZ,iC,iW⟩
instance:Enc aB:=⟨gU,uO,uE⟩
instance:Enc aY:=⟨gG,lQ,sS⟩
instance:Enc (List aA):=⟨(cSl 10 aZ),(cSl 10 aZ),(fun _=>rfl)⟩
instance:Enc bD:=⟨iQ,iQ,(fun _=>rfl)⟩
instance:Enc bL:=⟨gL,gL,(fun _=>rfl)⟩
instance:Enc cO:=⟨jQ,rF,G7⟩
instance:Enc eY:=⟨mJ,yR,aVj⟩
theorem kr {p:Prop} (h:p:=by kernel_rfl):p:=h
def fK (l:List (List UInt8)):V:=.d (.sl 1 (l.map cStr))
def bX (l:List Int):V:=.d (.sl 1 (l.map cI))
def bN (l:List aA):V:=.d (.sl 10 (l.map aZ))
def eH (l:List aB):V:=.d (.sl 8 (l.map gU))
def eP (l:List aY):V:=.d (.sl 11 (l.map gG))
def iI (l:List bD):V:=.d (.sl 2 (l.map iQ))
def iA (l:List bL):V:=.d (.sl 2 (l.map gL))
def fQ:V:=(.d (.s (bs [])))
def bQ:V:=(.d (.i .i64 0))
def cK:V:=(.d (.b false))
def qP:List V:=[bQ,bQ,cK,bQ,bQ,fQ,bQ,bQ,(.nil 10),(.nil 8)]
def yA:List V:=[(.nil 1),(.nil 1),(.nil 10),(.nil 11),(.nil 10),(.nil 1),cK,bQ]
def J5:List V:=[bQ,bQ,cK,bQ,bQ,fQ,bQ,bQ,(.nil 10),(.nil 8),cK]
def aNj:List V:=[bQ,(.nil 1),(.nil 1),(.nil 10),(.nil 11),(.nil 10),(.nil 1),cK,bQ,bQ,(.nil 1),(.nil 1),(.nil 10),(.nil 10)]
def aXr:List V:=[cK,cK,cK,cK,bQ,bQ,bQ]
def bU1:AC:=(.seq (.ops [.box 2 24 0,.box 3 33 1,.asg 4 (kB false)]) (.seq (.ops [.asg 5 (kI 1048576)]) (.seq (.ops [.ld 10 1 true 2,.mv 11 5,.call (some 12) 4 [10,11],.asg 5 12]) (.seq (.seq (.ops [.mv 13 5,.bin 14 .lss 13 (kI 0)]) (.cond 14 (.seq (.ops [.asg 4 (kB true)]) .ret) .skip)) (.seq (.ops [.ld 15 14 true 3,.mv 16 5,.call (some 17) 5 [15,16],.asg 5 17]) (.seq (.seq (.ops [.mv 18 5,.bin 19 .lss 18 (kI 0)]) (.cond 19 (.seq (.ops [.asg 4 (kB true)]) .ret) .skip)) (.seq (.dops [[],[0],[],[2,1],[1,3,3],[4,4,0,1,2,3,4]] [.ld 20 1 true 2,.call (some 21) 7 [20],.ld 22 14 true 3,.call (some 23) 8 [22],.call (some 24) 6 [21,23],.asg 6 24]) (.seq (.ops [.ld 25 1 true 2,.call (some 26) 7 [25],.alc 7 [(.nil 2)],.st 1 7 26]) (.seq (.ops [.ld 27 14 true 3,.call (some 28) 8 [27],.alc 8 aNj,.st 14 8 28]) (.seq (.ops [.ld 29 1 true 7,.ld 30 14 true 8,.call (some 31) 9 [29,30],.asg 9 31]) (.seq (.seq (.ops [.mv 32 9,.mv 33 6,.bin 34 .neq 32 33]) (.cond 34 (.seq (.ops [.asg 4 (kB false)]) .ret) .skip)) (.seq (.seq (.dops [[],[],[1],[0,2,2],[3]] [.ld 35 1 true 7,.ld 36 1 true 2,.call (some 37) 7 [36],.call (some 38) 10 [35,37],.not 39 38]) (.cond 39 (.seq (.ops [.asg 4 (kB false)]) .ret) .skip)) (.seq (.seq (.dops [[],[],[1],[0,2,2],[3]] [.ld 40 14 true 8,.ld 41 14 true 3,.call (some 42) 8 [41],.call (some 43) 11 [40,42],.not 44 43]) (.cond 44 (.seq (.ops [.asg 4 (kB false)]) .ret) .skip)) (.seq (.ops [.asg 4 (kB true)]) .ret))))))))))))))
theorem bVr:aV Tryz.prog 3=some (bU1,[.mv 0 4],45):=by kernel_rfl
def cG4 (r:Bool):Exit→St→Prop:=aU [.mv 0 4] fun x _=>x=(fun y=>(vB y)) r
def bEh:AC:=(.seq (.ops [.box 1 33 0,.alc 2 aNj]) (.seq (.ops [.alc 3 aNj]) (.seq (.ops [.fa 4 0 1,.ld 5 1 false 4,.fa 6 0 3,.st 1 6 5]) (.seq (.ops [.fa 7 1 1,.ld 8 8 true 7,.call (some 9) 19 [8],.fa 10 1 3,.st 8 10 9]) (.seq (.ops [.fa 11 9 1,.ld 12 1 false 11,.fa 13 9 3,.st 1 13 12]) (.seq (.ops [.fa 14 10 1,.ld 15 1 false 14,.call (some 16) 20 [15],.fa 17 10 3,.st 1 17 16]) (.seq (.ops [.fa 18 11 1,.ld 19 1 false 18,.call (some 20) 21 [19],.fa 21 11 3,.st 1 21 20]) (.seq (.ops [.fa 22 12 1,.ld 23 1 false 22,.call (some 24) 22 [23],.fa 25 12 3,.st 1 25 24]) (.seq (.ops [.fa 26 13 1,.ld 27 1 false 26,.call (some 28) 22 [27],.fa 29 13 3,.st 1 29 28]) (.seq (.ops [.ld 30 14 true 3,.st 14 2 30]) .ret))))))))))
theorem bHz:aV Tryz.prog 8=some (bEh,[.ld 0 14 true 2],31):=by kernel_rfl
def cHf (r:bM):Exit→St→Prop:=aU [.ld 0 14 true 2] fun x _=>x=(fun y=>(iL y)) r
def bGq:AC:=(.seq (.ops [.box 1 31 0,.alc 2 yA]) (.seq (.ops [.alc 3 yA]) (.seq (.ops [.fa 4 0 1,.ld 5 1 false 4,.call (some 6) 21 [5],.fa 7 0 3,.st 1 7 6]) (.seq (.ops [.fa 8 1 1,.ld 9 1 false 8,.call (some 10) 20 [9],.fa 11 1 3,.st 1 11 10]) (.seq (.ops [.fa 12 2 1,.ld 13 1 false 12,.call (some 14) 22 [13],.fa 15 2 3,.st 1 15 14]) (.seq (.ops [.fa 16 3 1,.ld 17 1 false 16,.call (some 18) 43 [17],.fa 19 3 3,.st 1 19 18]) (.seq (.ops [.fa 20 4 1,.ld 21 1 false 20,.call (some 22) 22 [21],.fa 23 4 3,.st 1 23 22]) (.seq (.ops [.fa 24 5 1,.ld 25 1 false 24,.call (some 26) 44 [25],.fa 27 5 3,.st 1 27 26]) (.seq (.ops [.fa 28 6 1,.ld 29 1 false 28,.fa 30 6 3,.st 1 30 29]) (.seq (.ops [.fa 31 7 1,.ld 32 1 false 31,.fa 33 7 3,.st 1 33 32]) (.seq (.ops [.ld 34 8 true 3,.st 8 2 34]) .ret)))))))))))
theorem bRf:aV Tryz.prog 19=some (bGq,[.ld 0 8 true 2],35):=by kernel_rfl
def cG5 (r:aB):Exit→St→Prop:=aU [.ld 0 8 true 2] fun x _=>x=(fun y=>(bV y)) r
def aMz:AC:=(.loop (.seq (.seq (.ops [.mv 8 4,.mv 9 0,.len 10 9,.bin 11 .lss 8 10]) (.cond 11 .skip (.exit 0))) (.seq (.block 1 (.ops [.mv 14 3,.mv 15 4,.mv 16 0,.mv 17 4,.ia 18 1 16 17,.ld 19 1 false 18,.ia 20 1 14 15,.st 1 20 19])) (.ops [.mv 12 4,.bin 13 .add 12 (kI 1),.asg 4 13]))))
def aX6:AC:=(.seq (.ops [.mv 21 3,.asg 2 21]) .ret)
def bSx:AC:=(.seq (.ops [.asg 2 (.c (.nil 1))]) (.seq (.ops [.mv 5 0,.len 6 5,.mks 7 9 1 16 [(.s (bs []))] 6 6,.asg 3 7]) (.seq (.seq (.ops [.asg 4 (kI 0)]) (.block 0 aMz)) aX6)))
theorem cCh:aV Tryz.prog 44=some (bSx,[.mv 0 2],22):=by kernel_rfl
def aYd (r:(List (List UInt8))):Exit→St→Prop:=aU [.mv 0 2] fun x _=>x=(fun y=>(fK y)) r
def bEg (r:(List (List UInt8))):Exit→St→Prop:=(bF (wkK (avc Tryz.prog aX6 (aYd r))) (aYd r))
def bTh (r:(List (List UInt8))):Exit→St→Prop:=(bG 0 (bEg r))
def cBs (p0:(List (List UInt8))) (x4:Int) (aR:(List (List UInt8))):St:=⟨[(0,(fK p0)),(3,(.msl 7 1 0 aR.length aR.length)),(4,(vI x4))],[(7,dI (aR.map cStr))]⟩
abbrev aH0 (p0:(List (List UInt8))) (x4:Int) (aR:(List (List UInt8))) (r:(List (List UInt8))):Prop:=avc Tryz.prog aMz (bTh r) (cBs p0 x4 aR)
def aN3:AC:=(.loop (.seq (.seq (.ops [.mv 8 4,.mv 9 0,.len 10 9,.bin 11 .lss 8 10]) (.cond 11 .skip (.exit 0))) (.seq (.block 1 (.ops [.mv 14 3,.mv 15 4,.mv 16 0,.mv 17 4,.ia 18 1 16 17,.ld 19 1 false 18,.ia 20 1 14 15,.st 1 20 19])) (.ops [.mv 12 4,.bin 13 .add 12 (kI 1),.asg 4 13]))))
def aS4:AC:=(.seq (.ops [.mv 21 3,.asg 2 21]) .ret)
def bQw:AC:=(.seq (.ops [.asg 2 (.c (.nil 1))]) (.seq (.ops [.mv 5 0,.len 6 5,.mks 7 3 1 8 [(.i .i64 0)] 6 6,.asg 3 7]) (.seq (.seq (.ops [.asg 4 (kI 0)]) (.block 0 aN3)) aS4)))
theorem bM4:aV Tryz.prog 21=some (bQw,[.mv 0 2],22):=by kernel_rfl
def aR3 (r:(List Int)):Exit→St→Prop:=aU [.mv 0 2] fun x _=>x=(fun y=>(bX y)) r
def bX2 (r:(List Int)):Exit→St→Prop:=(bF (wkK (avc Tryz.prog aS4 (aR3 r))) (aR3 r))
def cCm (r:(List Int)):Exit→St→Prop:=(bG 0 (bX2 r))
def bEx (p0:(List Int)) (x4:Int) (aR:(List Int)):St:=⟨[(0,(bX p0)),(3,(.msl 7 1 0 aR.length aR.length)),(4,(vI x4))],[(7,dI (aR.map cI))]⟩
abbrev aGo (p0:(List Int)) (x4:Int) (aR:(List Int)) (r:(List Int)):Prop:=avc Tryz.prog aN3 (cCm r) (bEx p0 x4 aR)
def aN0:AC:=(.loop (.seq (.seq (.ops [.mv 8 4,.mv 9 0,.len 10 9,.bin 11 .lss 8 10]) (.cond 11 .skip (.exit 0))) (.seq (.block 1 (.ops [.mv 14 3,.mv 15 4,.mv 16 0,.mv 17 4,.ia 18 10 16 17,.ld 19 10 true 18,.call (some 20) 45 [19],.ia 21 10 14 15,.st 10 21 20])) (.ops [.mv 12 4,.bin 13 .add 12 (kI 1),.asg 4 13]))))
def aTd:AC:=(.seq (.ops [.mv 22 3,.asg 2 22]) .ret)
def cD4:AC:=(.seq (.ops [.asg 2 (.c (.nil 10))]) (.seq (.ops [.mv 5 0,.len 6 5,.mks 7 97 10 120 [(.i .i64 0),(.i .i64 0),(.b false),(.i .i64 0),(.i .i64 0),(.s (bs [])),(.i .i64 0),(.i .i64 0),(.sl 10 []),(.sl 8 [])] 6 6,.asg 3 7]) (.seq (.seq (.ops [.asg 4 (kI 0)]) (.block 0 aN0)) aTd)))
theorem bHd:aV Tryz.prog 22=some (cD4,[.mv 0 2],23):=by kernel_rfl
def aXv (r:(List aA)):Exit→St→Prop:=aU [.mv 0 2] fun x _=>x=(fun y=>(bN y)) r
def bC9 (r:(List aA)):Exit→St→Prop:=(bF (wkK (avc Tryz.prog aTd (aXv r))) (aXv r))
def bC4 (r:(List aA)):Exit→St→Prop:=(bG 0 (bC9 r))
def cCi (p0:(List aA)) (x4:Int) (aR:(List aA)):St:=⟨[(0,(bN p0)),(3,(.msl 7 10 0 aR.length aR.length)),(4,(vI x4))],[(7,dI (aR.map aZ))]⟩
abbrev aFw (p0:(List aA)) (x4:Int) (aR:(List aA)) (r:(List aA)):Prop:=avc Tryz.prog aN0 (bC4 r) (cCi p0 x4 aR)
def bUm:AC:=(.seq (.ops [.box 1 79 0,.alc 2 qP]) (.seq (.ops [.alc 3 qP]) (.seq (.ops [.fa 4 0 1,.ld 5 1 false 4,.fa 6 0 3,.st 1 6 5]) (.seq (.ops [.fa 7 1 1,.ld 8 1 false 7,.fa 9 1 3,.st 1 9 8]) (.seq (.ops [.fa 10 2 1,.ld 11 1 false 10,.fa 12 2 3,.st 1 12 11]) (.seq (.ops [.fa 13 3 1,.ld 14 3 true 13,.call (some 15) 84 [14],.fa 16 3 3,.st 3 16 15]) (.seq (.ops [.fa 17 6 1,.ld 18 1 false 17,.fa 19 6 3,.st 1 19 18]) (.seq (.ops [.fa 20 7 1,.ld 21 1 false 20,.fa 22 7 3,.st 1 22 21]) (.seq (.ops [.fa 23 8 1,.ld 24 1 false 23,.call (some 25) 22 [24],.fa 26 8 3,.st 1 26 25]) (.seq (.ops [.fa 27 9 1,.ld 28 1 false 27,.call (some 29) 85 [28],.fa 30 9 3,.st 1 30 29]) (.seq (.ops [.ld 31 10 true 3,.st 10 2 31]) .ret)))))))))))
theorem bZv:aV Tryz.prog 45=some (bUm,[.ld 0 10 true 2],32):=by kernel_rfl
def cF7 (r:aA):Exit→St→Prop:=aU [.ld 0 10 true 2] fun x _=>x=(fun y=>(bS y)) r
def bMr:AC:=(.seq (.ops [.box 1 76 0,.alc 2 [bQ,bQ,fQ]]) (.seq (.ops [.alc 3 [bQ,bQ,fQ]]) (.seq (.ops [.fa 4 0 1,.ld 5 1 false 4,.fa 6 0 3,.st 1 6 5]) (.seq (.ops [.fa 7 1 1,.ld 8 1 false 7,.fa 9 1 3,.st 1 9 8]) (.seq (.ops [.fa 10 2 1,.ld 11 1 false 10,.fa 12 2 3,.st 1 12 11]) (.seq (.ops [.ld 13 3 true 3,.st 3 2 13]) .ret))))))
theorem bPa:aV Tryz.prog 84=some (bMr,[.ld 0 3 true 2],14):=by kernel_rfl
def cH9 (r:dF):Exit→St→Prop:=aU [.ld 0 3 true 2] fun x _=>x=(fun y=>(nV y)) r
def aO2:AC:=(.loop (.seq (.seq (.ops [.mv 8 4,.mv 9 0,.len 10 9,.bin 11 .lss 8 10]) (.cond 11 .skip (.exit 0))) (.seq (.block 1 (.ops [.mv 14 3,.mv 15 4,.mv 16 0,.mv 17 4,.ia 18 8 16 17,.ld 19 8 true 18,.call (some 20) 19 [19],.ia 21 8 14 15,.st 8 21 20])) (.ops [.mv 12 4,.bin 13 .add 12 (kI 1),.asg 4 13]))))
def aQq:AC:=(.seq (.ops [.mv 22 3,.asg 2 22]) .ret)
def bU9:AC:=(.seq (.ops [.asg 2 (.c (.nil 8))]) (.seq (.ops [.mv 5 0,.len 6 5,.mks 7 45 8 160 [(.sl 1 []),(.sl 1 []),(.sl 10 []),(.sl 11 []),(.sl 10 []),(.sl 1 []),(.b false),(.i .i64 0)] 6 6,.asg 3 7]) (.seq (.seq (.ops [.asg 4 (kI 0)]) (.block 0 aO2)) aQq)))
theorem bYm:aV Tryz.prog 85=some (bU9,[.mv 0 2],23):=by kernel_rfl
def aTf (r:(List aB)):Exit→St→Prop:=aU [.mv 0 2] fun x _=>x=(fun y=>(eH y)) r
def bUp (r:(List aB)):Exit→St→Prop:=(bF (wkK (avc Tryz.prog aQq (aTf r))) (aTf r))
def cC6 (r:(List aB)):Exit→St→Prop:=(bG 0 (bUp r))
def bH6 (p0:(List aB)) (x4:Int) (aR:(List aB)):St:=⟨[(0,(eH p0)),(3,(.msl 7 8 0 aR.length aR.length)),(4,(vI x4))],[(7,dI (aR.map gU))]⟩
abbrev aEf (p0:(List aB)) (x4:Int) (aR:(List aB)) (r:(List aB)):Prop:=avc Tryz.prog aO2 (cC6 r) (bH6 p0 x4 aR)
def aHz:AC:=(.loop (.seq (.seq (.ops [.mv 8 4,.mv 9 0,.len 10 9,.bin 11 .lss 8 10]) (.cond 11 .skip (.exit 0))) (.seq (.block 1 (.ops [.mv 14 3,.mv 15 4,.mv 16 0,.mv 17 4,.ia 18 11 16 17,.ld 19 11 true 18,.call (some 20) 83 [19],.ia 21 11 14 15,.st 11 21 20])) (.ops [.mv 12 4,.bin 13 .add 12 (kI 1),.asg 4 13]))))
def aPn:AC:=(.seq (.ops [.mv 22 3,.asg 2 22]) .ret)
def bNu:AC:=(.seq (.ops [.asg 2 (.c (.nil 11))]) (.seq (.ops [.mv 5 0,.len 6 5,.mks 7 124 11 128 [(.i .i64 0),(.i .i64 0),(.b false),(.i .i64 0),(.i .i64 0),(.s (bs [])),(.i .i64 0),(.i .i64 0),(.sl 10 []),(.sl 8 []),(.b false)] 6 6,.asg 3 7]) (.seq (.seq (.ops [.asg 4 (kI 0)]) (.block 0 aHz)) aPn)))
theorem bQ0:aV Tryz.prog 43=some (bNu,[.mv 0 2],23):=by kernel_rfl
def aV7 (r:(List aY)):Exit→St→Prop:=aU [.mv 0 2] fun x _=>x=(fun y=>(eP y)) r
def bH2 (r:(List aY)):Exit→St→Prop:=(bF (wkK (avc Tryz.prog aPn (aV7 r))) (aV7 r))
def bQe (r:(List aY)):Exit→St→Prop:=(bG 0 (bH2 r))
def bQc (p0:(List aY)) (x4:Int) (aR:(List aY)):St:=⟨[(0,(eP p0)),(3,(.msl 7 11 0 aR.length aR.length)),(4,(vI x4))],[(7,dI (aR.map gG))]⟩
abbrev aFe (p0:(List aY)) (x4:Int) (aR:(List aY)) (r:(List aY)):Prop:=avc Tryz.prog aHz (bQe r) (bQc p0 x4 aR)
def cD5:AC:=(.seq (.ops [.box 1 112 0,.alc 2 J5]) (.seq (.ops [.alc 3 J5]) (.seq (.ops [.fa 4 0 1,.ld 5 10 true 4,.call (some 6) 45 [5],.fa 7 0 3,.st 10 7 6]) (.seq (.ops [.fa 8 10 1,.ld 9 1 false 8,.fa 10 10 3,.st 1 10 9]) (.seq (.ops [.ld 11 11 true 3,.st 11 2 11]) .ret)))))
theorem bXm:aV Tryz.prog 83=some (cD5,[.ld 0 11 true 2],12):=by kernel_rfl
def cEd (r:aY):Exit→St→Prop:=aU [.ld 0 11 true 2] fun x _=>x=(fun y=>(fC y)) r
def aO3:AC:=(.loop (.seq (.seq (.ops [.mv 8 4,.mv 9 0,.len 10 9,.bin 11 .lss 8 10]) (.cond 11 .skip (.exit 0))) (.seq (.block 1 (.ops [.mv 14 3,.mv 15 4,.mv 16 0,.mv 17 4,.ia 18 1 16 17,.ld 19 1 false 18,.call (some 20) 22 [19],.ia 21 1 14 15,.st 1 21 20])) (.ops [.mv 12 4,.bin 13 .add 12 (kI 1),.asg 4 13]))))
def aSn:AC:=(.seq (.ops [.mv 22 3,.asg 2 22]) .ret)
def bWw:AC:=(.seq (.ops [.asg 2 (.c (.nil 1))]) (.seq (.ops [.mv 5 0,.len 6 5,.mks 7 42 1 24 [(.sl 10 [])] 6 6,.asg 3 7]) (.seq (.seq (.ops [.asg 4 (kI 0)]) (.block 0 aO3)) aSn)))
theorem bFh:aV Tryz.prog 20=some (bWw,[.mv 0 2],23):=by kernel_rfl
def aWs (r:(List (List aA))):Exit→St→Prop:=aU [.mv 0 2] fun x _=>x=(fun y=>(.d (.sl 1 (y.map (cSl 10 aZ))))) r
def bNx (r:(List (List aA))):Exit→St→Prop:=(bF (wkK (avc Tryz.prog aSn (aWs r))) (aWs r))
def bXc (r:(List (List aA))):Exit→St→Prop:=(bG 0 (bNx r))
def bJo (p0:(List (List aA))) (x4:Int) (aR:(List (List aA))):St:=⟨[(0,(.d (.sl 1 (p0.map (cSl 10 aZ))))),(3,(.msl 7 1 0 aR.length aR.length)),(4,(vI x4))],[(7,dI (aR.map (cSl 10 aZ)))]⟩
abbrev aBh (p0:(List (List aA))) (x4:Int) (aR:(List (List aA))) (r:(List (List aA))):Prop:=avc Tryz.prog aO3 (bXc r) (bJo p0 x4 aR)
def bAx:AC:=(.seq (.ops [.box 1 24 0,.alc 2 [(.nil 2)]]) (.seq (.ops [.alc 3 [(.nil 2)]]) (.seq (.ops [.fa 4 0 1,.ld 5 1 false 4,.call (some 6) 18 [5],.fa 7 0 3,.st 1 7 6]) (.seq (.ops [.ld 8 1 true 3,.st 1 2 8]) .ret))))
theorem bNb:aV Tryz.prog 7=some (bAx,[.ld 0 1 true 2],9):=by kernel_rfl
def cDt (r:aJ):Exit→St→Prop:=aU [.ld 0 1 true 2] fun x _=>x=(fun y=>(dL y)) r
def aNd:AC:=(.loop (.seq (.seq (.ops [.mv 8 4,.mv 9 0,.len 10 9,.bin 11 .lss 8 10]) (.cond 11 .skip (.exit 0))) (.seq (.block 1 (.ops [.mv 14 3,.mv 15 4,.mv 16 0,.mv 17 4,.ia 18 2 16 17,.ld 19 2 true 18,.call (some 20) 42 [19],.ia 21 2 14 15,.st 2 21 20])) (.ops [.mv 12 4,.bin 13 .add 12 (kI 1),.asg 4 13]))))
def aPc:AC:=(.seq (.ops [.mv 22 3,.asg 2 22]) .ret)
def bDn:AC:=(.seq (.ops [.asg 2 (.c (.nil 2))]) (.seq (.ops [.mv 5 0,.len 6 5,.mks 7 87 2 40 [(.s (bs [])),(.sl 2 [])] 6 6,.asg 3 7]) (.seq (.seq (.ops [.asg 4 (kI 0)]) (.block 0 aNd)) aPc)))
theorem bJt:aV Tryz.prog 18=some (bDn,[.mv 0 2],23):=by kernel_rfl
def aVy (r:(List bD)):Exit→St→Prop:=aU [.mv 0 2] fun x _=>x=(fun y=>(iI y)) r
def bRr (r:(List bD)):Exit→St→Prop:=(bF (wkK (avc Tryz.prog aPc (aVy r))) (aVy r))
def bMy (r:(List bD)):Exit→St→Prop:=(bG 0 (bRr r))
def bSs (p0:(List bD)) (x4:Int) (aR:(List bD)):St:=⟨[(0,(iI p0)),(3,(.msl 7 2 0 aR.length aR.length)),(4,(vI x4))],[(7,dI (aR.map iQ))]⟩
abbrev aFf (p0:(List bD)) (x4:Int) (aR:(List bD)) (r:(List bD)):Prop:=avc Tryz.prog aNd (bMy r) (bSs p0 x4 aR)
def bDg:AC:=(.seq (.ops [.box 1 71 0,.alc 2 [fQ,(.nil 2)]]) (.seq (.ops [.alc 3 [fQ,(.nil 2)]]) (.seq (.ops [.fa 4 0 1,.ld 5 1 false 4,.fa 6 0 3,.st 1 6 5]) (.seq (.ops [.fa 7 1 1,.ld 8 1 false 7,.call (some 9) 82 [8],.fa 10 1 3,.st 1 10 9]) (.seq (.ops [.ld 11 2 true 3,.st 2 2 11]) .ret)))))
theorem bXa:aV Tryz.prog 42=some (bDg,[.ld 0 2 true 2],12):=by kernel_rfl
def cDp (r:bD):Exit→St→Prop:=aU [.ld 0 2 true 2] fun x _=>x=(fun y=>(jO y)) r
def aJ9:AC:=(.loop (.seq (.seq (.ops [.mv 8 4,.mv 9 0,.len 10 9,.bin 11 .lss 8 10]) (.cond 11 .skip (.exit 0))) (.seq (.block 1 (.ops [.mv 14 3,.mv 15 4,.mv 16 0,.mv 17 4,.ia 18 2 16 17,.ld 19 2 true 18,.call (some 20) 116 [19],.ia 21 2 14 15,.st 2 21 20])) (.ops [.mv 12 4,.bin 13 .add 12 (kI 1),.asg 4 13]))))
def aX9:AC:=(.seq (.ops [.mv 22 3,.asg 2 22]) .ret)
def bBh:AC:=(.seq (.ops [.asg 2 (.c (.nil 2))]) (.seq (.ops [.mv 5 0,.len 6 5,.mks 7 121 2 24 [(.s (bs [])),(.i .i64 0)] 6 6,.asg 3 7]) (.seq (.seq (.ops [.asg 4 (kI 0)]) (.block 0 aJ9)) aX9)))
theorem bBd:aV Tryz.prog 82=some (bBh,[.mv 0 2],23):=by kernel_rfl
def aUu (r:(List bL)):Exit→St→Prop:=aU [.mv 0 2] fun x _=>x=(fun y=>(iA y)) r
def bF6 (r:(List bL)):Exit→St→Prop:=(bF (wkK (avc Tryz.prog aX9 (aUu r))) (aUu r))
def bXt (r:(List bL)):Exit→St→Prop:=(bG 0 (bF6 r))
def bKb (p0:(List bL)) (x4:Int) (aR:(List bL)):St:=⟨[(0,(iA p0)),(3,(.msl 7 2 0 aR.length aR.length)),(4,(vI x4))],[(7,dI (aR.map gL))]⟩
abbrev aBa (p0:(List bL)) (x4:Int) (aR:(List bL)) (r:(List bL)):Prop:=avc Tryz.prog aJ9 (bXt r) (bKb p0 x4 aR)
def bI6:AC:=(.seq (.ops [.box 1 144 0,.alc 2 [fQ,bQ]]) (.seq (.ops [.alc 3 [fQ,bQ]]) (.seq (.ops [.fa 4 0 1,.ld 5 1 false 4,.fa 6 0 3,.st 1 6 5]) (.seq (.ops [.fa 7 1 1,.ld 8 1 false 7,.fa 9 1 3,.st 1 9 8]) (.seq (.ops [.ld 10 2 true 3,.st 2 2 10]) .ret)))))
theorem bCi:aV Tryz.prog 116=some (bI6,[.ld 0 2 true 2],11):=by kernel_rfl
def cHj (r:bL):Exit→St→Prop:=aU [.ld 0 2 true 2] fun x _=>x=(fun y=>(nW y)) r
def bEc:AC:=(.seq (.ops [.box 2 47 0,.box 3 47 1,.asg 4 (kB false)]) (.seq (.seq (.ops [.fa 5 0 2,.ld 6 1 false 5,.fa 7 0 3,.ld 8 1 false 7,.bin 9 .neq 6 8]) (.cond 9 (.seq (.ops [.asg 4 (kB false)]) .ret) .skip)) (.seq (.seq (.ops [.fa 10 1 2,.ld 11 8 true 10,.fa 12 1 3,.ld 13 8 true 12,.call (some 14) 25 [11,13],.not 15 14]) (.cond 15 (.seq (.ops [.asg 4 (kB false)]) .ret) .skip)) (.seq (.seq (.ops [.fa 16 9 2,.ld 17 1 false 16,.fa 18 9 3,.ld 19 1 false 18,.bin 20 .neq 17 19]) (.cond 20 (.seq (.ops [.asg 4 (kB false)]) .ret) .skip)) (.seq (.seq (.ops [.fa 21 10 2,.ld 22 1 false 21,.fa 23 10 3,.ld 24 1 false 23,.call (some 25) 26 [22,24],.not 26 25]) (.cond 26 (.seq (.ops [.asg 4 (kB false)]) .ret) .skip)) (.seq (.seq (.ops [.fa 27 11 2,.ld 28 1 false 27,.fa 29 11 3,.ld 30 1 false 29,.call (some 31) 27 [28,30],.not 32 31]) (.cond 32 (.seq (.ops [.asg 4 (kB false)]) .ret) .skip)) (.seq (.seq (.ops [.fa 33 12 2,.ld 34 1 false 33,.fa 35 12 3,.ld 36 1 false 35,.call (some 37) 28 [34,36],.not 38 37]) (.cond 38 (.seq (.ops [.asg 4 (kB false)]) .ret) .skip)) (.seq (.seq (.ops [.fa 39 13 2,.ld 40 1 false 39,.fa 41 13 3,.ld 42 1 false 41,.call (some 43) 28 [40,42],.not 44 43]) (.cond 44 (.seq (.ops [.asg 4 (kB false)]) .ret) .skip)) (.seq (.ops [.asg 4 (kB true)]) .ret)))))))))
theorem bZy:aV Tryz.prog 11=some (bEc,[.mv 0 4],45):=by kernel_rfl
def cG2 (r:Bool):Exit→St→Prop:=aU [.mv 0 4] fun x _=>x=(fun y=>(vB y)) r
def aNh:AC:=(.loop (.seq (.seq (.ops [.mv 11 5,.mv 12 0,.len 13 12,.bin 14 .lss 11 13]) (.cond 14 .skip (.exit 0))) (.seq (.block 1 (.seq (.dops [[],[],[0,1],[2],[],[],[4,5],[6],[3,7]] [.mv 17 0,.mv 18 5,.ia 19 1 17 18,.ld 20 1 false 19,.mv 21 1,.mv 22 5,.ia 23 1 21 22,.ld 24 1 false 23,.bin 25 .neq 20 24]) (.cond 25 (.seq (.ops [.asg 4 (kB false)]) .ret) .skip))) (.ops [.mv 15 5,.bin 16 .add 15 (kI 1),.asg 5 16]))))
def aWp:AC:=(.seq (.ops [.asg 4 (kB true)]) .ret)
def bEl:AC:=(.seq (.ops [.asg 4 (kB false)]) (.seq (.seq (.ops [.mv 6 0,.len 7 6,.mv 8 1,.len 9 8,.bin 10 .neq 7 9]) (.cond 10 (.seq (.ops [.asg 4 (kB false)]) .ret) .skip)) (.seq (.seq (.ops [.asg 5 (kI 0)]) (.block 0 aNh)) aWp)))
theorem bLx:aV Tryz.prog 27=some (bEl,[.mv 0 4],26):=by kernel_rfl
def aRf (r:Bool):Exit→St→Prop:=aU [.mv 0 4] fun x _=>x=(fun y=>(vB y)) r
def bW1 (r:Bool):Exit→St→Prop:=(bF (wkK (avc Tryz.prog aWp (aRf r))) (aRf r))
def bC3 (r:Bool):Exit→St→Prop:=(bG 0 (bW1 r))
def bV8 (p0:(List Int)) (p1:(List Int)) (x5:Int):St:=⟨[(0,(bX p0)),(1,(bX p1)),(5,(vI x5))],[]⟩
abbrev aG0 (p0:(List Int)) (p1:(List Int)) (x5:Int) (r:Bool):Prop:=avc Tryz.prog aNh (bC3 r) (bV8 p0 p1 x5)
def aNe:AC:=(.loop (.seq (.seq (.ops [.mv 11 5,.mv 12 0,.len 13 12,.bin 14 .lss 11 13]) (.cond 14 .skip (.exit 0))) (.seq (.block 1 (.seq (.dops [[],[],[0,1],[2],[],[],[4,5],[6],[3,7],[8]] [.mv 17 0,.mv 18 5,.ia 19 1 17 18,.ld 20 1 false 19,.mv 21 1,.mv 22 5,.ia 23 1 21 22,.ld 24 1 false 23,.call (some 25) 28 [20,24],.not 26 25]) (.cond 26 (.seq (.ops [.asg 4 (kB false)]) .ret) .skip))) (.ops [.mv 15 5,.bin 16 .add 15 (kI 1),.asg 5 16]))))
def bA2:AC:=(.seq (.ops [.asg 4 (kB true)]) .ret)
def bB6:AC:=(.seq (.ops [.asg 4 (kB false)]) (.seq (.seq (.ops [.mv 6 0,.len 7 6,.mv 8 1,.len 9 8,.bin 10 .neq 7 9]) (.cond 10 (.seq (.ops [.asg 4 (kB false)]) .ret) .skip)) (.seq (.seq (.ops [.asg 5 (kI 0)]) (.block 0 aNe)) bA2)))
theorem bXi:aV Tryz.prog 26=some (bB6,[.mv 0 4],27):=by kernel_rfl
def bA4 (r:Bool):Exit→St→Prop:=aU [.mv 0 4] fun x _=>x=(fun y=>(vB y)) r
def cAy (r:Bool):Exit→St→Prop:=(bF (wkK (avc Tryz.prog bA2 (bA4 r))) (bA4 r))
def bOz (r:Bool):Exit→St→Prop:=(bG 0 (cAy r))
def cCy (p0:(List (List aA))) (p1:(List (List aA))) (x5:Int):St:=⟨[(0,(.d (.sl 1 (p0.map (cSl 10 aZ))))),(1,(.d (.sl 1 (p1.map (cSl 10 aZ))))),(5,(vI x5))],[]⟩
abbrev aBq (p0:(List (List aA))) (p1:(List (List aA))) (x5:Int) (r:Bool):Prop:=avc Tryz.prog aNe (bOz r) (cCy p0 p1 x5)
def aHy:AC:=(.loop (.seq (.seq (.ops [.mv 11 5,.mv 12 0,.len 13 12,.bin 14 .lss 11 13]) (.cond 14 .skip (.exit 0))) (.seq (.block 1 (.seq (.dops [[],[],[0,1],[2],[],[],[4,5],[6],[3,7],[8]] [.mv 17 0,.mv 18 5,.ia 19 10 17 18,.ld 20 10 true 19,.mv 21 1,.mv 22 5,.ia 23 10 21 22,.ld 24 10 true 23,.call (some 25) 60 [20,24],.not 26 25]) (.cond 26 (.seq (.ops [.asg 4 (kB false)]) .ret) .skip))) (.ops [.mv 15 5,.bin 16 .add 15 (kI 1),.asg 5 16]))))
def aR9:AC:=(.seq (.ops [.asg 4 (kB true)]) .ret)
def bZe:AC:=(.seq (.ops [.asg 4 (kB false)]) (.seq (.seq (.ops [.mv 6 0,.len 7 6,.mv 8 1,.len 9 8,.bin 10 .neq 7 9]) (.cond 10 (.seq (.ops [.asg 4 (kB false)]) .ret) .skip)) (.seq (.seq (.ops [.asg 5 (kI 0)]) (.block 0 aHy)) aR9)))
theorem cAf:aV Tryz.prog 28=some (bZe,[.mv 0 4],27):=by kernel_rfl
def aRc (r:Bool):Exit→St→Prop:=aU [.mv 0 4] fun x _=>x=(fun y=>(vB y)) r
def cDb (r:Bool):Exit→St→Prop:=(bF (wkK (avc Tryz.prog aR9 (aRc r))) (aRc r))
def bPp (r:Bool):Exit→St→Prop:=(bG 0 (cDb r))
def bR3 (p0:(List aA)) (p1:(List aA)) (x5:Int):St:=⟨[(0,(bN p0)),(1,(bN p1)),(5,(vI x5))],[]⟩
abbrev aG5 (p0:(List aA)) (p1:(List aA)) (x5:Int) (r:Bool):Prop:=avc Tryz.prog aHy (bPp r) (bR3 p0 p1 x5)
def bC5:AC:=(.seq (.ops [.box 2 97 0,.box 3 97 1,.asg 4 (kB false)]) (.seq (.seq (.ops [.fa 5 0 2,.ld 6 1 false 5,.fa 7 0 3,.ld 8 1 false 7,.bin 9 .neq 6 8]) (.cond 9 (.seq (.ops [.asg 4 (kB false)]) .ret) .skip)) (.seq (.seq (.ops [.fa 10 1 2,.ld 11 1 false 10,.fa 12 1 3,.ld 13 1 false 12,.bin 14 .neq 11 13]) (.cond 14 (.seq (.ops [.asg 4 (kB false)]) .ret) .skip)) (.seq (.seq (.ops [.fa 15 2 2,.ld 16 1 false 15,.fa 17 2 3,.ld 18 1 false 17,.eqb 19 true 16 18]) (.cond 19 (.seq (.ops [.asg 4 (kB false)]) .ret) .skip)) (.seq (.seq (.ops [.fa 20 3 2,.ld 21 3 true 20,.fa 22 3 3,.ld 23 3 true 22,.call (some 24) 102 [21,23],.not 25 24]) (.cond 25 (.seq (.ops [.asg 4 (kB false)]) .ret) .skip)) (.seq (.seq (.ops [.fa 26 6 2,.ld 27 1 false 26,.fa 28 6 3,.ld 29 1 false 28,.bin 30 .neq 27 29]) (.cond 30 (.seq (.ops [.asg 4 (kB false)]) .ret) .skip)) (.seq (.seq (.ops [.fa 31 7 2,.ld 32 1 false 31,.fa 33 7 3,.ld 34 1 false 33,.bin 35 .neq 32 34]) (.cond 35 (.seq (.ops [.asg 4 (kB false)]) .ret) .skip)) (.seq (.seq (.ops [.fa 36 8 2,.ld 37 1 false 36,.fa 38 8 3,.ld 39 1 false 38,.call (some 40) 28 [37,39],.not 41 40]) (.cond 41 (.seq (.ops [.asg 4 (kB false)]) .ret) .skip)) (.seq (.seq (.ops [.fa 42 9 2,.ld 43 1 false 42,.fa 44 9 3,.ld 45 1 false 44,.call (some 46) 103 [43,45],.not 47 46]) (.cond 47 (.seq (.ops [.asg 4 (kB false)]) .ret) .skip)) (.seq (.ops [.asg 4 (kB true)]) .ret))))))))))
theorem bRj:aV Tryz.prog 60=some (bC5,[.mv 0 4],48):=by kernel_rfl
def cEy (r:Bool):Exit→St→Prop:=aU [.mv 0 4] fun x _=>x=(fun y=>(vB y)) r
def aNf:AC:=(.loop (.seq (.seq (.ops [.mv 11 5,.mv 12 0,.len 13 12,.bin 14 .lss 11 13]) (.cond 14 .skip (.exit 0))) (.seq (.block 1 (.seq (.dops [[],[],[0,1],[2],[],[],[4,5],[6],[3,7],[8]] [.mv 17 0,.mv 18 5,.ia 19 8 17 18,.ld 20 8 true 19,.mv 21 1,.mv 22 5,.ia 23 8 21 22,.ld 24 8 true 23,.call (some 25) 25 [20,24],.not 26 25]) (.cond 26 (.seq (.ops [.asg 4 (kB false)]) .ret) .skip))) (.ops [.mv 15 5,.bin 16 .add 15 (kI 1),.asg 5 16]))))
def aVr:AC:=(.seq (.ops [.asg 4 (kB true)]) .ret)
def bVo:AC:=(.seq (.ops [.asg 4 (kB false)]) (.seq (.seq (.ops [.mv 6 0,.len 7 6,.mv 8 1,.len 9 8,.bin 10 .neq 7 9]) (.cond 10 (.seq (.ops [.asg 4 (kB false)]) .ret) .skip)) (.seq (.seq (.ops [.asg 5 (kI 0)]) (.block 0 aNf)) aVr)))
theorem bOg:aV Tryz.prog 103=some (bVo,[.mv 0 4],27):=by kernel_rfl
def aSx (r:Bool):Exit→St→Prop:=aU [.mv 0 4] fun x _=>x=(fun y=>(vB y)) r
def bN1 (r:Bool):Exit→St→Prop:=(bF (wkK (avc Tryz.prog aVr (aSx r))) (aSx r))
def bVw (r:Bool):Exit→St→Prop:=(bG 0 (bN1 r))
def cAs (p0:(List aB)) (p1:(List aB)) (x5:Int):St:=⟨[(0,(eH p0)),(1,(eH p1)),(5,(vI x5))],[]⟩
abbrev aBz (p0:(List aB)) (p1:(List aB)) (x5:Int) (r:Bool):Prop:=avc Tryz.prog aNf (bVw r) (cAs p0 p1 x5)
def bYk:AC:=(.seq (.ops [.box 2 45 0,.box 3 45 1,.asg 4 (kB false)]) (.seq (.seq (.ops [.fa 5 0 2,.ld 6 1 false 5,.fa 7 0 3,.ld 8 1 false 7,.call (some 9) 27 [6,8],.not 10 9]) (.cond 10 (.seq (.ops [.asg 4 (kB false)]) .ret) .skip)) (.seq (.seq (.ops [.fa 11 1 2,.ld 12 1 false 11,.fa 13 1 3,.ld 14 1 false 13,.call (some 15) 26 [12,14],.not 16 15]) (.cond 16 (.seq (.ops [.asg 4 (kB false)]) .ret) .skip)) (.seq (.seq (.ops [.fa 17 2 2,.ld 18 1 false 17,.fa 19 2 3,.ld 20 1 false 19,.call (some 21) 28 [18,20],.not 22 21]) (.cond 22 (.seq (.ops [.asg 4 (kB false)]) .ret) .skip)) (.seq (.seq (.ops [.fa 23 3 2,.ld 24 1 false 23,.fa 25 3 3,.ld 26 1 false 25,.call (some 27) 58 [24,26],.not 28 27]) (.cond 28 (.seq (.ops [.asg 4 (kB false)]) .ret) .skip)) (.seq (.seq (.ops [.fa 29 4 2,.ld 30 1 false 29,.fa 31 4 3,.ld 32 1 false 31,.call (some 33) 28 [30,32],.not 34 33]) (.cond 34 (.seq (.ops [.asg 4 (kB false)]) .ret) .skip)) (.seq (.seq (.ops [.fa 35 5 2,.ld 36 1 false 35,.fa 37 5 3,.ld 38 1 false 37,.call (some 39) 59 [36,38],.not 40 39]) (.cond 40 (.seq (.ops [.asg 4 (kB false)]) .ret) .skip)) (.seq (.seq (.ops [.fa 41 6 2,.ld 42 1 false 41,.fa 43 6 3,.ld 44 1 false 43,.eqb 45 true 42 44]) (.cond 45 (.seq (.ops [.asg 4 (kB false)]) .ret) .skip)) (.seq (.seq (.ops [.fa 46 7 2,.ld 47 1 false 46,.fa 48 7 3,.ld 49 1 false 48,.bin 50 .neq 47 49]) (.cond 50 (.seq (.ops [.asg 4 (kB false)]) .ret) .skip)) (.seq (.ops [.asg 4 (kB true)]) .ret))))))))))
theorem bBp:aV Tryz.prog 25=some (bYk,[.mv 0 4],51):=by kernel_rfl
def cH1 (r:Bool):Exit→St→Prop:=aU [.mv 0 4] fun x _=>x=(fun y=>(vB y)) r
def aJe:AC:=(.loop (.seq (.seq (.ops [.mv 11 5,.mv 12 0,.len 13 12,.bin 14 .lss 11 13]) (.cond 14 .skip (.exit 0))) (.seq (.block 1 (.seq (.dops [[],[],[0,1],[2],[],[],[4,5],[6],[3,7]] [.mv 17 0,.mv 18 5,.ia 19 1 17 18,.ld 20 1 false 19,.mv 21 1,.mv 22 5,.ia 23 1 21 22,.ld 24 1 false 23,.bin 25 .neq 20 24]) (.cond 25 (.seq (.ops [.asg 4 (kB false)]) .ret) .skip))) (.ops [.mv 15 5,.bin 16 .add 15 (kI 1),.asg 5 16]))))
def aYj:AC:=(.seq (.ops [.asg 4 (kB true)]) .ret)
def bVe:AC:=(.seq (.ops [.asg 4 (kB false)]) (.seq (.seq (.ops [.mv 6 0,.len 7 6,.mv 8 1,.len 9 8,.bin 10 .neq 7 9]) (.cond 10 (.seq (.ops [.asg 4 (kB false)]) .ret) .skip)) (.seq (.seq (.ops [.asg 5 (kI 0)]) (.block 0 aJe)) aYj)))
theorem bK2:aV Tryz.prog 59=some (bVe,[.mv 0 4],26):=by kernel_rfl
def aZz (r:Bool):Exit→St→Prop:=aU [.mv 0 4] fun x _=>x=(fun y=>(vB y)) r
def bVv (r:Bool):Exit→St→Prop:=(bF (wkK (avc Tryz.prog aYj (aZz r))) (aZz r))
def bMd (r:Bool):Exit→St→Prop:=(bG 0 (bVv r))
def bD0 (p0:(List (List UInt8))) (p1:(List (List UInt8))) (x5:Int):St:=⟨[(0,(fK p0)),(1,(fK p1)),(5,(vI x5))],[]⟩
abbrev aGq (p0:(List (List UInt8))) (p1:(List (List UInt8))) (x5:Int) (r:Bool):Prop:=avc Tryz.prog aJe (bMd r) (bD0 p0 p1 x5)
def aJr:AC:=(.loop (.seq (.seq (.ops [.mv 11 5,.mv 12 0,.len 13 12,.bin 14 .lss 11 13]) (.cond 14 .skip (.exit 0))) (.seq (.block 1 (.seq (.dops [[],[],[0,1],[2],[],[],[4,5],[6],[3,7],[8]] [.mv 17 0,.mv 18 5,.ia 19 11 17 18,.ld 20 11 true 19,.mv 21 1,.mv 22 5,.ia 23 11 21 22,.ld 24 11 true 23,.call (some 25) 101 [20,24],.not 26 25]) (.cond 26 (.seq (.ops [.asg 4 (kB false)]) .ret) .skip))) (.ops [.mv 15 5,.bin 16 .add 15 (kI 1),.asg 5 16]))))
def aSb:AC:=(.seq (.ops [.asg 4 (kB true)]) .ret)
def bZr:AC:=(.seq (.ops [.asg 4 (kB false)]) (.seq (.seq (.ops [.mv 6 0,.len 7 6,.mv 8 1,.len 9 8,.bin 10 .neq 7 9]) (.cond 10 (.seq (.ops [.asg 4 (kB false)]) .ret) .skip)) (.seq (.seq (.ops [.asg 5 (kI 0)]) (.block 0 aJr)) aSb)))
theorem bSd:aV Tryz.prog 58=some (bZr,[.mv 0 4],27):=by kernel_rfl
def aPd (r:Bool):Exit→St→Prop:=aU [.mv 0 4] fun x _=>x=(fun y=>(vB y)) r
def bSp (r:Bool):Exit→St→Prop:=(bF (wkK (avc Tryz.prog aSb (aPd r))) (aPd r))
def bV0 (r:Bool):Exit→St→Prop:=(bG 0 (bSp r))
def bFo (p0:(List aY)) (p1:(List aY)) (x5:Int):St:=⟨[(0,(eP p0)),(1,(eP p1)),(5,(vI x5))],[]⟩
abbrev aBp (p0:(List aY)) (p1:(List aY)) (x5:Int) (r:Bool):Prop:=avc Tryz.prog aJr (bV0 r) (bFo p0 p1 x5)
def bNd:AC:=(.seq (.ops [.box 2 124 0,.box 3 124 1,.asg 4 (kB false)]) (.seq (.seq (.ops [.fa 5 0 2,.ld 6 10 true 5,.fa 7 0 3,.ld 8 10 true 7,.call (some 9) 60 [6,8],.not 10 9]) (.cond 10 (.seq (.ops [.asg 4 (kB false)]) .ret) .skip)) (.seq (.seq (.ops [.fa 11 10 2,.ld 12 1 false 11,.fa 13 10 3,.ld 14 1 false 13,.eqb 15 true 12 14]) (.cond 15 (.seq (.ops [.asg 4 (kB false)]) .ret) .skip)) (.seq (.ops [.asg 4 (kB true)]) .ret))))
theorem bYj:aV Tryz.prog 101=some (bNd,[.mv 0 4],16):=by kernel_rfl
def cDm (r:Bool):Exit→St→Prop:=aU [.mv 0 4] fun x _=>x=(fun y=>(vB y)) r
def bD5:AC:=(.seq (.ops [.box 2 94 0,.box 3 94 1,.asg 4 (kB false)]) (.seq (.seq (.ops [.fa 5 0 2,.ld 6 1 false 5,.fa 7 0 3,.ld 8 1 false 7,.bin 9 .neq 6 8]) (.cond 9 (.seq (.ops [.asg 4 (kB false)]) .ret) .skip)) (.seq (.seq (.ops [.fa 10 1 2,.ld 11 1 false 10,.fa 12 1 3,.ld 13 1 false 12,.bin 14 .neq 11 13]) (.cond 14 (.seq (.ops [.asg 4 (kB false)]) .ret) .skip)) (.seq (.seq (.ops [.fa 15 2 2,.ld 16 1 false 15,.fa 17 2 3,.ld 18 1 false 17,.bin 19 .neq 16 18]) (.cond 19 (.seq (.ops [.asg 4 (kB false)]) .ret) .skip)) (.seq (.ops [.asg 4 (kB true)]) .ret)))))
theorem bZk:aV Tryz.prog 102=some (bD5,[.mv 0 4],20):=by kernel_rfl
def cEk (r:Bool):Exit→St→Prop:=aU [.mv 0 4] fun x _=>x=(fun y=>(vB y)) r
def bWy:AC:=(.seq (.ops [.box 2 24 0,.asg 4 (kI 0)]) (.seq (.ops [.fa 5 0 2,.ld 6 1 false 5,.mv 7 1,.call (some 8) 12 [6,7],.asg 1 8]) (.seq (.seq (.ops [.mv 9 1,.bin 10 .lss 9 (kI 0)]) (.cond 10 (.seq (.ops [.asg 4 (kI (-1))]) .ret) .skip)) (.seq (.ops [.mv 11 1,.asg 4 11]) .ret))))
theorem bAp:aV Tryz.prog 4=some (bWy,[.mv 0 4],12):=by kernel_rfl
def cE4 (r:Int):Exit→St→Prop:=aU [.mv 0 4] fun x _=>x=(fun y=>(vI y)) r
def aJ7:AC:=(.loop (.seq (.seq (.ops [.mv 12 5,.mv 13 0,.len 14 13,.bin 15 .lss 12 14]) (.cond 15 .skip (.exit 0))) (.seq (.block 1 (.seq (.ops [.mv 18 0,.mv 19 5,.ia 20 2 18 19,.ld 21 2 true 20,.mv 22 1,.call (some 23) 29 [21,22],.asg 1 23]) (.seq (.ops [.mv 24 1,.bin 25 .lss 24 (kI 0)]) (.cond 25 (.seq (.ops [.asg 4 (kI (-1))]) .ret) .skip)))) (.ops [.mv 16 5,.bin 17 .add 16 (kI 1),.asg 5 17]))))
def aOn:AC:=(.seq (.ops [.mv 26 1,.asg 4 26]) .ret)
def bJr:AC:=(.seq (.ops [.asg 4 (kI 0)]) (.seq (.ops [.mv 6 1,.mv 7 0,.len 8 7,.bin 9 .sub 6 8,.asg 1 9]) (.seq (.seq (.ops [.mv 10 1,.bin 11 .lss 10 (kI 0)]) (.cond 11 (.seq (.ops [.asg 4 (kI (-1))]) .ret) .skip)) (.seq (.seq (.ops [.asg 5 (kI 0)]) (.block 0 aJ7)) aOn))))
theorem bW6:aV Tryz.prog 12=some (bJr,[.mv 0 4],27):=by kernel_rfl
def aTt (r:Int):Exit→St→Prop:=aU [.mv 0 4] fun x _=>x=(fun y=>(vI y)) r
def bQo (r:Int):Exit→St→Prop:=(bF (wkK (avc Tryz.prog aOn (aTt r))) (aTt r))
def bLb (r:Int):Exit→St→Prop:=(bG 0 (bQo r))
def bVl (p0:(List bD)) (x1:Int) (x5:Int):St:=⟨[(0,(iI p0)),(1,(vI x1)),(5,(vI x5))],[]⟩
abbrev aE8 (p0:(List bD)) (x1:Int) (x5:Int) (r:Int):Prop:=avc Tryz.prog aJ7 (bLb r) (bVl p0 x1 x5)
def bQl:AC:=(.seq (.ops [.box 2 71 0,.asg 4 (kI 0)]) (.seq (.ops [.mv 5 1,.fa 6 0 2,.ld 7 1 false 6,.lns 8 7,.bin 9 .sub 5 8,.asg 1 9]) (.seq (.seq (.ops [.mv 10 1,.bin 11 .lss 10 (kI 0)]) (.cond 11 (.seq (.ops [.asg 4 (kI (-1))]) .ret) .skip)) (.seq (.ops [.fa 12 1 2,.ld 13 1 false 12,.mv 14 1,.call (some 15) 61 [13,14],.asg 1 15]) (.seq (.seq (.ops [.mv 16 1,.bin 17 .lss 16 (kI 0)]) (.cond 17 (.seq (.ops [.asg 4 (kI (-1))]) .ret) .skip)) (.seq (.ops [.mv 18 1,.asg 4 18]) .ret))))))
theorem bM6:aV Tryz.prog 29=some (bQl,[.mv 0 4],19):=by kernel_rfl
def cGz (r:Int):Exit→St→Prop:=aU [.mv 0 4] fun x _=>x=(fun y=>(vI y)) r
def aO7:AC:=(.loop (.seq (.seq (.ops [.mv 12 5,.mv 13 0,.len 14 13,.bin 15 .lss 12 14]) (.cond 15 .skip (.exit 0))) (.seq (.block 1 (.seq (.ops [.mv 18 0,.mv 19 5,.ia 20 2 18 19,.ld 21 2 true 20,.mv 22 1,.call (some 23) 104 [21,22],.asg 1 23]) (.seq (.ops [.mv 24 1,.bin 25 .lss 24 (kI 0)]) (.cond 25 (.seq (.ops [.asg 4 (kI (-1))]) .ret) .skip)))) (.ops [.mv 16 5,.bin 17 .add 16 (kI 1),.asg 5 17]))))
def aX2:AC:=(.seq (.ops [.mv 26 1,.asg 4 26]) .ret)
def bBg:AC:=(.seq (.ops [.asg 4 (kI 0)]) (.seq (.ops [.mv 6 1,.mv 7 0,.len 8 7,.bin 9 .sub 6 8,.asg 1 9]) (.seq (.seq (.ops [.mv 10 1,.bin 11 .lss 10 (kI 0)]) (.cond 11 (.seq (.ops [.asg 4 (kI (-1))]) .ret) .skip)) (.seq (.seq (.ops [.asg 5 (kI 0)]) (.block 0 aO7)) aX2))))
theorem bBx:aV Tryz.prog 61=some (bBg,[.mv 0 4],27):=by kernel_rfl
def aVm (r:Int):Exit→St→Prop:=aU [.mv 0 4] fun x _=>x=(fun y=>(vI y)) r
def bX8 (r:Int):Exit→St→Prop:=(bF (wkK (avc Tryz.prog aX2 (aVm r))) (aVm r))
def bJ8 (r:Int):Exit→St→Prop:=(bG 0 (bX8 r))
def bXj (p0:(List bL)) (x1:Int) (x5:Int):St:=⟨[(0,(iA p0)),(1,(vI x1)),(5,(vI x5))],[]⟩
abbrev aBt (p0:(List bL)) (x1:Int) (x5:Int) (r:Int):Prop:=avc Tryz.prog aO7 (bJ8 r) (bXj p0 x1 x5)
def bMw:AC:=(.seq (.ops [.box 2 144 0,.asg 4 (kI 0)]) (.seq (.ops [.mv 5 1,.fa 6 0 2,.ld 7 1 false 6,.lns 8 7,.bin 9 .sub 5 8,.asg 1 9]) (.seq (.seq (.ops [.mv 10 1,.bin 11 .lss 10 (kI 0)]) (.cond 11 (.seq (.ops [.asg 4 (kI (-1))]) .ret) .skip)) (.seq (.ops [.mv 12 1,.asg 4 12]) .ret))))
theorem bOm:aV Tryz.prog 104=some (bMw,[.mv 0 4],13):=by kernel_rfl
def cGn (r:Int):Exit→St→Prop:=aU [.mv 0 4] fun x _=>x=(fun y=>(vI y)) r
def bQr:AC:=(.seq (.ops [.box 2 39 0,.box 3 47 1,.asg 4 (kI 0)]) (.seq (.seq (.ops [.fa 5 0 3,.ld 6 1 false 5,.bin 7 .eql 6 (kI 1),.mv 8 7,.g 8 false (.ld 9 1 true 2),.g 8 false (.ld 10 14 true 3),.g 8 false (.call (some 11) 23 [9,10]),.g 8 false (.not 12 11),.pick 13 8 (kB true) 12]) (.cond 13 (.seq (.ops [.asg 4 (kI (-1))]) .ret) .skip)) (.seq (.ops [.fa 14 9 3,.ld 15 1 false 14,.asg 4 15]) .ret)))
theorem bWi:aV Tryz.prog 9=some (bQr,[.mv 0 4],16):=by kernel_rfl
def cIc (r:Int):Exit→St→Prop:=aU [.mv 0 4] fun x _=>x=(fun y=>(vI y)) r
def bDy:AC:=(.seq (.ops [.box 2 39 0,.box 3 47 1,.asg 4 (kB false)]) (.seq (.seq (.ops [.fa 6 0 3,.ld 7 1 false 6,.bin 8 .eql 7 (kI 1)]) (.cond 8 (.seq (.ops [.fa 9 9 3,.ld 10 1 false 9,.bin 11 .eql 10 (kI 0),.mv 12 11,.g 12 true (.fa 13 10 3),.g 12 true (.ld 14 1 false 13),.g 12 true (.len 15 14),.g 12 true (.bin 16 .eql 15 (kI 0)),.pick 17 12 16 (kB false),.mv 18 17,.g 18 true (.fa 19 11 3),.g 18 true (.ld 20 1 false 19),.g 18 true (.len 21 20),.g 18 true (.bin 22 .eql 21 (kI 0)),.pick 23 18 22 (kB false),.mv 24 23,.g 24 true (.fa 25 12 3),.g 24 true (.ld 26 1 false 25),.g 24 true (.len 27 26),.g 24 true (.bin 28 .eql 27 (kI 0)),.pick 29 24 28 (kB false),.mv 30 29,.g 30 true (.fa 31 13 3),.g 30 true (.ld 32 1 false 31),.g 30 true (.len 33 32),.g 30 true (.bin 34 .eql 33 (kI 0)),.pick 35 30 34 (kB false),.mv 36 35,.g 36 true (.ld 37 1 true 2),.g 36 true (.fa 38 1 3),.g 36 true (.ld 39 8 true 38),.g 36 true (.call (some 40) 46 [37,39]),.pick 41 36 40 (kB false),.asg 4 41]) .ret) .skip)) (.seq (.seq (.dops [[],[0],[1],[2,1],[3],[4,3],[5,3],[3,6],[7,3],[8],[9,8],[8],[11,8],[12,8],[10,13,8],[8,14],[15,8],[16],[17,16],[18,16,16],[19,16],[16,20],[21,19],[22],[23,22,22],[24,24,22],[22],[26,25,22],[27,27,22],[25,28,28,22],[29,22],[22,30]] [.ld 42 1 true 2,.call (some 43) 47 [42],.not 44 43,.mv 45 44,.g 45 false (.fa 46 9 3),.g 45 false (.ld 47 1 false 46),.g 45 false (.bin 48 .lss 47 (kI 0)),.pick 49 45 (kB true) 48,.mv 50 49,.g 50 false (.fa 51 9 3),.g 50 false (.ld 52 1 false 51),.g 50 false (.fa 53 0 2),.g 50 false (.ld 54 1 false 53),.g 50 false (.len 55 54),.g 50 false (.bin 56 .geq 52 55),.pick 57 50 (kB true) 56,.mv 58 57,.g 58 false (.fa 59 1 3),.g 58 false (.ld 60 8 true 59),.g 58 false (.call (some 61) 48 [60]),.g 58 false (.not 62 61),.pick 63 58 (kB true) 62,.mv 64 63,.g 64 false (.ld 65 14 true 3),.g 64 false (.call (some 66) 51 [65]),.g 64 false (.call (some 67) 50 [66]),.g 64 false (.ld 68 14 true 3),.g 64 false (.call (some 69) 51 [68]),.g 64 false (.call (some 70) 52 [69]),.g 64 false (.call (some 71) 49 [67,70]),.g 64 false (.not 72 71),.pick 73 64 (kB true) 72]) (.cond 73 (.seq (.ops [.asg 4 (kB false)]) .ret) .skip)) (.seq (.ops [.fa 74 0 2,.ld 75 1 false 74,.fa 76 9 3,.ld 77 1 false 76,.ia 78 2 75 77,.ld 79 2 true 78,.call (some 80) 53 [79],.asg 5 80]) (.seq (.seq (.ops [.fa 81 0 3,.ld 82 1 false 81,.bin 83 .eql 82 (kI 2)]) (.cond 83 (.seq (.ops [.fa 84 11 3,.ld 85 1 false 84,.len 86 85,.bin 87 .eql 86 (kI 0),.mv 88 87,.g 88 true (.fa 89 12 3),.g 88 true (.ld 90 1 false 89),.g 88 true (.len 91 90),.g 88 true (.bin 92 .eql 91 (kI 0)),.pick 93 88 92 (kB false),.mv 94 93,.g 94 true (.fa 95 13 3),.g 94 true (.ld 96 1 false 95),.g 94 true (.len 97 96),.g 94 true (.bin 98 .eql 97 (kI 0)),.pick 99 94 98 (kB false),.mv 100 99,.g 100 true (.ld 101 1 true 2),.g 100 true (.mv 102 5),.g 100 true (.fa 103 10 3),.g 100 true (.ld 104 1 false 103),.g 100 true (.call (some 105) 54 [101,102,104]),.pick 106 100 105 (kB false),.asg 4 106]) .ret) .skip)) (.seq (.seq (.ops [.fa 107 10 3,.ld 108 1 false 107,.len 109 108,.bin 110 .gtr 109 (kI 0),.mv 111 110,.g 111 false (.fa 112 13 3),.g 111 false (.ld 113 1 false 112),.g 111 false (.len 114 113),.g 111 false (.bin 115 .gtr 114 (kI 1)),.pick 116 111 (kB true) 115,.mv 117 116,.g 117 false (.ld 118 1 true 2),.g 117 false (.mv 119 5),.g 117 false (.bsl 120 25 1 [119]),.g 117 false (.fa 121 13 3),.g 117 false (.ld 122 1 false 121),.g 117 false (.call (some 123) 55 [118,120,122]),.g 117 false (.not 124 123),.pick 125 117 (kB true) 124]) (.cond 125 (.seq (.ops [.asg 4 (kB false)]) .ret) .skip)) (.seq (.seq (.ops [.fa 126 0 3,.ld 127 1 false 126]) (.block 0 (.seq (.ops [.bin 129 .eql 127 (kI 3),.asg 128 129]) (.cond 128 (.seq (.ops [.ld 130 1 true 2,.mv 131 5,.ld 132 14 true 3,.call (some 133) 56 [130,131,132],.asg 4 133]) .ret) (.seq (.ops [.bin 135 .eql 127 (kI 4),.asg 134 135]) (.cond 134 (.seq (.ops [.fa 136 11 3,.ld 137 1 false 136,.len 138 137,.bin 139 .eql 138 (kI 0),.mv 140 139,.g 140 true (.fa 141 12 3),.g 140 true (.ld 142 1 false 141),.g 140 true (.len 143 142),.g 140 true (.bin 144 .eql 143 (kI 0)),.pick 145 140 144 (kB false),.asg 4 145]) .ret) .skip)))))) (.seq (.ops [.asg 4 (kB false)]) .ret))))))))
theorem bZw:aV Tryz.prog 23=some (bDy,[.mv 0 4],146):=by kernel_rfl
def cE3 (r:Bool):Exit→St→Prop:=aU [.mv 0 4] fun x _=>x=(fun y=>(vB y)) r
def cBk:AC:=(.seq (.ops [.box 2 39 0,.box 3 45 1,.asg 4 (kB false)]) (.seq (.seq (.dops [[],[0],[1],[2,1],[3],[4,3,3],[3],[6,5,3],[5,7,7,3],[8,3],[3,9]] [.ld 7 1 true 2,.call (some 8) 47 [7],.not 9 8,.mv 10 9,.g 10 false (.ld 11 8 true 3),.g 10 false (.call (some 12) 86 [11]),.g 10 false (.ld 13 8 true 3),.g 10 false (.call (some 14) 87 [13]),.g 10 false (.call (some 15) 49 [12,14]),.g 10 false (.not 16 15),.pick 17 10 (kB true) 16]) (.cond 17 (.seq (.ops [.asg 4 (kB false)]) .ret) .skip)) (.seq (.ops [.ld 19 1 true 2,.ld 20 8 true 3,.call (some 21) 88 [19,(.c (.nil 1)),20],.mv 18 21,.ext 22 18 0,.ext 23 18 1,.asg 5 22,.asg 6 23]) (.seq (.ops [.mv 24 6,.asg 4 24]) .ret))))
theorem bTs:aV Tryz.prog 46=some (cBk,[.mv 0 4],25):=by kernel_rfl
def cE6 (r:Bool):Exit→St→Prop:=aU [.mv 0 4] fun x _=>x=(fun y=>(vB y)) r
def bJf:AC:=(.seq (.ops [.box 1 45 0,.asg 2 (kI 0)]) (.seq (.ops [.ld 3 8 true 1,.call (some 4) 117 [3],.call (some 5) 50 [4],.asg 2 5]) .ret))
theorem bZs:aV Tryz.prog 86=some (bJf,[.mv 0 2],6):=by kernel_rfl
def cHk (r:Int):Exit→St→Prop:=aU [.mv 0 2] fun x _=>x=(fun y=>(vI y)) r
def aMu:AC:=(.loop (.seq (.ops [.bin 9 .lss 8 7]) (.seq (.cond 9 .skip (.exit 0)) (.seq (.block 1 (.seq (.ops [.ia 10 10 6 8,.ld 11 10 true 10,.alc 5 qP,.st 10 5 11]) (.ops [.mv 12 3,.ld 13 10 true 5,.call (some 14) 92 [13],.max 15 12 14,.asg 3 15]))) (.ops [.bin 16 .add 8 (kI 1),.mv 8 16])))))
def aV0:AC:=(.seq (.ops [.mv 17 3,.asg 2 17]) .ret)
def bFp:AC:=(.seq (.ops [.asg 2 (kI 0)]) (.seq (.ops [.asg 3 (kI 0)]) (.seq (.seq (.ops [.mv 6 0,.len 7 6,.mv 8 (kI 0)]) (.block 0 aMu)) aV0)))
theorem bOb:aV Tryz.prog 50=some (bFp,[.mv 0 2],18):=by kernel_rfl
def aYw (r:Int):Exit→St→Prop:=aU [.mv 0 2] fun x _=>x=(fun y=>(vI y)) r
def bTw (r:Int):Exit→St→Prop:=(bF (wkK (avc Tryz.prog aV0 (aYw r))) (aYw r))
def bKk (r:Int):Exit→St→Prop:=(bG 0 (bTw r))
def bBf (p0:(List aA)) (x3:Int) (x8:Int):St:=⟨[(3,(vI x3)),(6,(bN p0)),(7,(vI (p0.length:Int))),(8,(vI x8))],[]⟩
abbrev aEo (p0:(List aA)) (x3:Int) (x8:Int) (r:Int):Prop:=avc Tryz.prog aMu (bKk r) (bBf p0 x3 x8)
def aJ3:AC:=(.loop (.seq (.ops [.bin 13 .lss 12 11]) (.seq (.cond 13 .skip (.exit 0)) (.seq (.block 1 (.seq (.ops [.ia 14 8 10 12,.ld 15 8 true 14,.alc 5 yA,.st 8 5 15]) (.ops [.mv 16 3,.ld 17 8 true 5,.call (some 18) 86 [17],.max 19 16 18,.asg 3 19]))) (.ops [.bin 20 .add 12 (kI 1),.mv 12 20])))))
def aQn:AC:=(.seq (.ops [.mv 21 3,.bin 22 .add (kI 1) 21,.asg 2 22]) .ret)
def cDi:AC:=(.seq (.ops [.box 1 97 0,.asg 2 (kI 0)]) (.seq (.ops [.fa 6 8 1,.ld 7 1 false 6,.call (some 8) 50 [7],.asg 3 8]) (.seq (.seq (.ops [.fa 9 9 1,.ld 10 1 false 9,.len 11 10,.mv 12 (kI 0)]) (.block 0 aJ3)) aQn)))
theorem bM9:aV Tryz.prog 92=some (cDi,[.mv 0 2],23):=by kernel_rfl
def aOr (r:Int):Exit→St→Prop:=aU [.mv 0 2] fun x _=>x=(fun y=>(vI y)) r
def bO7 (r:Int):Exit→St→Prop:=(bF (wkK (avc Tryz.prog aQn (aOr r))) (aOr r))
def cAx (r:Int):Exit→St→Prop:=(bG 0 (bO7 r))
def bEr (p0:aA) (x3:Int) (x12:Int):St:=⟨[(3,(vI x3)),(10,(eH p0.sub)),(11,(vI (p0.sub.length:Int))),(12,(vI x12))],[]⟩
abbrev aD9 (p0:aA) (x3:Int) (x12:Int) (r:Int):Prop:=avc Tryz.prog aJ3 (cAx r) (bEr p0 x3 x12)
def aM8:AC:=(.loop (.seq (.ops [.bin 13 .lss 12 11]) (.seq (.cond 13 .skip (.exit 0)) (.seq (.block 1 (.seq (.ops [.ia 14 1 10 12,.ld 15 1 false 14,.asg 5 15]) (.ops [.mv 16 3,.mv 17 5,.app 18 97 10 120 16 17,.asg 3 18]))) (.ops [.bin 19 .add 12 (kI 1),.mv 12 19])))))
def aJi:AC:=(.loop (.seq (.ops [.bin 28 .lss 27 26]) (.seq (.cond 28 .skip (.exit 2)) (.seq (.block 3 (.seq (.ops [.ia 29 11 25 27,.ld 30 11 true 29,.alc 7 J5,.st 11 7 30]) (.ops [.mv 31 3,.fa 32 0 7,.ld 33 10 true 32,.bsl 34 97 10 [33],.app 35 97 10 120 31 34,.asg 3 35]))) (.ops [.bin 36 .add 27 (kI 1),.mv 27 36])))))
def aRx:AC:=(.seq (.ops [.mv 37 3,.fa 38 4 1,.ld 39 1 false 38,.app 40 97 10 120 37 39,.asg 2 40]) .ret)
def aZd:AC:=(.seq (.ops [.mv 20 3,.fa 21 2 1,.ld 22 1 false 21,.app 23 97 10 120 20 22,.asg 3 23]) (.seq (.seq (.ops [.fa 24 3 1,.ld 25 1 false 24,.len 26 25,.mv 27 (kI 0)]) (.block 2 aJi)) aRx))
def bG0:AC:=(.seq (.ops [.box 1 45 0,.asg 2 (.c (.nil 10))]) (.seq (.ops [.bsl 8 97 10 [],.asg 3 8]) (.seq (.seq (.ops [.fa 9 1 1,.ld 10 1 false 9,.len 11 10,.mv 12 (kI 0)]) (.block 0 aM8)) aZd)))
theorem bWd:aV Tryz.prog 117=some (bG0,[.mv 0 2],41):=by kernel_rfl
def aGd (r:(List aA)):Exit→St→Prop:=aU [.mv 0 2] fun x b=>x=(fun (y:(List aA))=>(.osl 2000000 97 10 (y.map aZ))) r∧eD ((fun (y:(List aA))=>[]) r) b
def bOv (r:(List aA)):Exit→St→Prop:=(bF (wkK (avc Tryz.prog aZd (aGd r))) (aGd r))
def bCp (r:(List aA)):Exit→St→Prop:=(bG 0 (bOv r))
def bI1 (r:(List aA)):Exit→St→Prop:=(bF (wkK (avc Tryz.prog aRx (aGd r))) (aGd r))
def bFm (r:(List aA)):Exit→St→Prop:=(bG 2 (bI1 r))
def bHt (p0:aB) (x3:(List aA)) (x12:Int):St:=⟨[(1,(.ptr 1 0)),(3,(.osl 3 97 10 (x3.map aZ))),(10,(.d (.sl 1 (p0.on_.map (cSl 10 aZ))))),(11,(vI (p0.on_.length:Int))),(12,(vI x12))],[(1,jF p0)]⟩
abbrev aH2 (p0:aB) (x3:(List aA)) (x12:Int) (r:(List aA)):Prop:=avc Tryz.prog aM8 (bCp r) (bHt p0 x3 x12)
def cA9 (p0:aB) (dC:(List aA)) (x27:Int):St:=⟨[(1,(.ptr 1 0)),(3,(.osl 3 97 10 (dC.map aZ))),(25,(eP p0.order)),(26,(vI (p0.order.length:Int))),(27,(vI x27))],[(1,jF p0)]⟩
abbrev aEj (p0:aB) (dC:(List aA)) (x27:Int) (r:(List aA)):Prop:=avc Tryz.prog aJi (bFm r) (cA9 p0 dC x27)
def bWh:AC:=(.seq (.ops [.asg 4 (kB false)]) (.seq (.ops [.mv 5 0,.bin 6 .leq 5 (kI 24),.mv 7 6,.g 7 true (.mv 8 1),.g 7 true (.bin 9 .leq 8 (kI 200)),.pick 10 7 9 (kB false),.asg 4 10]) .ret))
theorem bG5:aV Tryz.prog 49=some (bWh,[.mv 0 4],11):=by kernel_rfl
def cEj (r:Bool):Exit→St→Prop:=aU [.mv 0 4] fun x _=>x=(fun y=>(vB y)) r
def aJt:AC:=(.loop (.seq (.ops [.bin 42 .lss 41 40]) (.seq (.cond 42 .skip (.exit 0)) (.seq (.block 1 (.seq (.ops [.mv 43 41,.ia 44 1 39 41,.ld 45 1 false 44,.asg 10 43,.asg 11 45]) (.seq (.dops [[],[],[1],[],[3],[2,4],[0,5],[6],[7],[7],[8,6,0,1,2,3,4,5,6,7,8],[9,10,0,1,2,3,4,5,6,7,8,9,10]] [.ld 47 1 true 3,.fa 48 0 5,.ld 49 1 false 48,.mv 50 10,.bin 51 .add 50 (kI 1),.slc 52 1 49 none (some 51) none,.call (some 53) 118 [47,52],.mv 46 53,.ext 54 46 0,.ext 55 46 1,.asg 12 54,.asg 13 55]) (.seq (.dops [[],[],[],[1,2],[],[0,3,4,3],[5]] [.ld 56 1 true 3,.mv 57 12,.mv 58 1,.call (some 59) 120 [57,58],.mv 60 11,.call (some 61) 55 [56,59,60],.not 62 61]) (.cond 62 (.seq (.ops [.asg 6 (.c (.nil 1)),.asg 7 (kB false)]) .ret) .skip))))) (.ops [.bin 63 .add 41 (kI 1),.mv 41 63])))))
def aJc:AC:=(.loop (.seq (.ops [.bin 77 .lss 76 75]) (.seq (.cond 77 .skip (.exit 2)) (.seq (.block 3 (.seq (.ops [.ia 78 11 74 76,.ld 79 11 true 78,.alc 16 J5,.st 11 16 79]) (.seq (.ops [.ld 81 1 true 3,.mv 82 14,.fa 83 0 16,.ld 84 10 true 83,.call (some 85) 97 [81,82,84],.mv 80 85,.ext 86 80 0,.ext 87 80 1,.asg 17 86,.asg 18 87]) (.seq (.ops [.mv 88 18,.not 89 88]) (.cond 89 (.seq (.ops [.asg 6 (.c (.nil 1)),.asg 7 (kB false)]) .ret) .skip))))) (.ops [.bin 90 .add 76 (kI 1),.mv 76 90])))))
def aLp:AC:=(.loop (.seq (.ops [.bin 96 .lss 95 94]) (.seq (.cond 96 .skip (.exit 4)) (.seq (.block 5 (.seq (.ops [.ia 97 10 93 95,.ld 98 10 true 97,.alc 21 qP,.st 10 21 98]) (.seq (.ops [.ld 100 1 true 3,.mv 101 14,.ld 102 10 true 21,.call (some 103) 97 [100,101,102],.mv 99 103,.ext 104 99 0,.ext 105 99 1,.asg 22 104,.asg 23 105]) (.seq (.seq (.ops [.mv 106 23,.not 107 106]) (.cond 107 (.seq (.ops [.asg 6 (.c (.nil 1)),.asg 7 (kB false)]) .ret) .skip)) (.ops [.mv 108 19,.mv 109 22,.bsl 110 3 1 [109],.app 111 3 1 8 108 110,.asg 19 111]))))) (.ops [.bin 112 .add 95 (kI 1),.mv 95 112])))))
def aWi:AC:=(.seq (.ops [.mv 113 19,.asg 6 113,.asg 7 (kB true)]) .ret)
def aVn:AC:=(.seq (.ops [.bsl 91 3 1 [],.asg 19 91]) (.seq (.seq (.ops [.fa 92 4 5,.ld 93 1 false 92,.len 94 93,.mv 95 (kI 0)]) (.block 4 aLp)) aWi))
def aVa:AC:=(.seq (.ops [.mv 64 8,.mv 65 1,.call (some 66) 120 [64,65],.asg 14 66]) (.seq (.seq (.ops [.ld 67 1 true 3,.mv 68 14,.fa 69 2 5,.ld 70 1 false 69,.call (some 71) 55 [67,68,70],.not 72 71]) (.cond 72 (.seq (.ops [.asg 6 (.c (.nil 1)),.asg 7 (kB false)]) .ret) .skip)) (.seq (.seq (.ops [.fa 73 3 5,.ld 74 1 false 73,.len 75 74,.mv 76 (kI 0)]) (.block 2 aJc)) aVn)))
def bMl:AC:=(.seq (.ops [.box 3 39 0,.box 5 45 2,.asg 6 (.c (.nil 1)),.asg 7 (kB false)]) (.seq (.ops [.ld 25 1 true 3,.fa 26 0 5,.ld 27 1 false 26,.call (some 28) 118 [25,27],.mv 24 28,.ext 29 24 0,.ext 30 24 1,.asg 8 29,.asg 9 30]) (.seq (.seq (.ops [.mv 31 9,.not 32 31,.mv 33 32,.g 33 false (.ld 34 8 true 5),.g 33 false (.call (some 35) 119 [34]),.g 33 false (.not 36 35),.pick 37 33 (kB true) 36]) (.cond 37 (.seq (.ops [.asg 6 (.c (.nil 1)),.asg 7 (kB false)]) .ret) .skip)) (.seq (.seq (.ops [.fa 38 1 5,.ld 39 1 false 38,.len 40 39,.mv 41 (kI 0)]) (.block 0 aJt)) aVa))))
theorem bRs:aV Tryz.prog 88=some (bMl,[.mv 0 6,.mv 0 7],114):=by kernel_rfl
def D8 (r:(List Int)×Bool):Exit→St→Prop:=aU [.mv 0 6,.mv 0 7] fun x b=>x=(fun (y:(List Int)×Bool)=>(.tup [(.osl 2000000 3 1 (y.1.map cI)),(vB y.2)])) r∧eD ((fun (y:(List Int)×Bool)=>[]) r) b
def bE7 (r:(List Int)×Bool):Exit→St→Prop:=(bF (wkK (avc Tryz.prog aVa (D8 r))) (D8 r))
def bFs (r:(List Int)×Bool):Exit→St→Prop:=(bG 0 (bE7 r))
def bAl (r:(List Int)×Bool):Exit→St→Prop:=(bF (wkK (avc Tryz.prog aVn (D8 r))) (D8 r))
def bSk (r:(List Int)×Bool):Exit→St→Prop:=(bG 2 (bAl r))
def bYa (r:(List Int)×Bool):Exit→St→Prop:=(bF (wkK (avc Tryz.prog aWi (D8 r))) (D8 r))
def bUj (r:(List Int)×Bool):Exit→St→Prop:=(bG 4 (bYa r))
def bLa (p1:(List (List Int))) (y1:(List Int)×Bool) (p2:aB) (p0:aJ) (x41:Int):St:=⟨[(1,(.d (.sl 1 (p1.map (cSl 1 cI))))),(3,(.ptr 3 0)),(5,(.ptr 5 0)),(8,(.osl 8 3 1 (y1.1.map cI))),(39,(.d (.sl 1 (p2.on_.map (cSl 10 aZ))))),(40,(vI (p2.on_.length:Int))),(41,(vI x41))],[(3,dJ p0),(5,jF p2)]⟩
abbrev aCu (p1:(List (List Int))) (y1:(List Int)×Bool) (p2:aB) (p0:aJ) (x41:Int) (r:(List Int)×Bool):Prop:=avc Tryz.prog aJt (bFs r) (bLa p1 y1 p2 p0 x41)
def bIo (y9:(List (List Int))) (p2:aB) (p0:aJ) (x76:Int):St:=⟨[(3,(.ptr 3 0)),(5,(.ptr 5 0)),(14,(.osl 14 25 1 (y9.map (cSl 1 cI)))),(74,(eP p2.order)),(75,(vI (p2.order.length:Int))),(76,(vI x76))],[(3,dJ p0),(5,jF p2)]⟩
abbrev aD6 (y9:(List (List Int))) (p2:aB) (p0:aJ) (x76:Int) (r:(List Int)×Bool):Prop:=avc Tryz.prog aJc (bSk r) (bIo y9 p2 p0 x76)
def bCb (y9:(List (List Int))) (p2:aB) (p0:aJ) (x19:(List Int)) (x95:Int):St:=⟨[(3,(.ptr 3 0)),(14,(.osl 14 25 1 (y9.map (cSl 1 cI)))),(19,(.osl 19 3 1 (x19.map cI))),(93,(bN p2.items)),(94,(vI (p2.items.length:Int))),(95,(vI x95))],[(3,dJ p0)]⟩
abbrev aDn (y9:(List (List Int))) (p2:aB) (p0:aJ) (x19:(List Int)) (x95:Int) (r:(List Int)×Bool):Prop:=avc Tryz.prog aLp (bUj r) (bCb y9 p2 p0 x19 x95)
def bRd:AC:=(.seq (.ops [.box 1 45 0,.asg 2 (kB false)]) (.seq (.seq (.ops [.fa 3 0 1,.ld 4 1 false 3,.len 5 4,.bin 6 .lss 5 (kI 1),.mv 7 6,.g 7 false (.fa 8 0 1),.g 7 false (.ld 9 1 false 8),.g 7 false (.len 10 9),.g 7 false (.bin 11 .gtr 10 (kI 3)),.pick 12 7 (kB true) 11,.mv 13 12,.g 13 false (.fa 14 1 1),.g 13 false (.ld 15 1 false 14),.g 13 false (.len 16 15),.g 13 false (.fa 17 0 1),.g 13 false (.ld 18 1 false 17),.g 13 false (.len 19 18),.g 13 false (.bin 20 .neq 16 19),.pick 21 13 (kB true) 20,.mv 22 21,.g 22 false (.fa 23 1 1),.g 22 false (.ld 24 1 false 23),.g 22 false (.ia 25 1 24 (kI 0)),.g 22 false (.ld 26 1 false 25),.g 22 false (.len 27 26),.g 22 false (.bin 28 .gtr 27 (kI 0)),.pick 29 22 (kB true) 28,.mv 30 29,.g 30 false (.fa 31 2 1),.g 30 false (.ld 32 1 false 31),.g 30 false (.len 33 32),.g 30 false (.bin 34 .gtr 33 (kI 1)),.pick 35 30 (kB true) 34,.mv 36 35,.g 36 false (.fa 37 3 1),.g 36 false (.ld 38 1 false 37),.g 36 false (.len 39 38),.g 36 false (.bin 40 .gtr 39 (kI 12)),.pick 41 36 (kB true) 40]) (.cond 41 (.seq (.ops [.asg 2 (kB false)]) .ret) .skip)) (.seq (.ops [.fa 42 4 1,.ld 43 1 false 42,.len 44 43,.bin 45 .geq 44 (kI 1),.mv 46 45,.g 46 true (.fa 47 4 1),.g 46 true (.ld 48 1 false 47),.g 46 true (.len 49 48),.g 46 true (.bin 50 .leq 49 (kI 12)),.pick 51 46 50 (kB false),.mv 52 51,.g 52 true (.fa 53 5 1),.g 52 true (.ld 54 1 false 53),.g 52 true (.len 55 54),.g 52 true (.fa 56 4 1),.g 52 true (.ld 57 1 false 56),.g 52 true (.len 58 57),.g 52 true (.bin 59 .eql 55 58),.pick 60 52 59 (kB false),.mv 61 60,.g 61 true (.fa 62 7 1),.g 61 true (.ld 63 1 false 62),.g 61 true (.bin 64 .geq 63 (kI (-1))),.pick 65 61 64 (kB false),.mv 66 65,.g 66 true (.fa 67 1 1),.g 66 true (.ld 68 1 false 67),.g 66 true (.call (some 69) 141 [68,(.c (.fn 142 []))]),.g 66 true (.not 70 69),.pick 71 66 70 (kB false),.mv 72 71,.g 72 true (.fa 73 5 1),.g 72 true (.ld 74 1 false 73),.g 72 true (.call (some 75) 143 [74,(.c (.fn 144 []))]),.g 72 true (.not 76 75),.pick 77 72 76 (kB false),.asg 2 77]) .ret)))
theorem bYg:aV Tryz.prog 119=some (bRd,[.mv 0 2],78):=by kernel_rfl
def cFq (r:Bool):Exit→St→Prop:=aU [.mv 0 2] fun x _=>x=(fun y=>(vB y)) r
def bFq:AC:=(.seq (.ops [.asg 4 (kB false)]) (.seq (.ops [.mv 5 0,.mv 6 1,.call (some 7) 158 [5,6],.bin 8 .geq 7 (kI 0),.asg 4 8]) .ret))
theorem cAe:aV Tryz.prog 143=some (bFq,[.mv 0 4],9):=by kernel_rfl
def cHs (r:Bool):Exit→St→Prop:=aU [.mv 0 4] fun x _=>x=(fun y=>(vB y)) r
def aHi:AC:=(.loop (.seq (.ops [.bin 9 .lss 8 7]) (.seq (.cond 9 .skip (.exit 0)) (.seq (.block 1 (.seq (.ops [.mv 10 8,.asg 5 10]) (.seq (.ops [.mv 11 1,.mv 12 0,.mv 13 5,.ia 14 1 12 13,.ld 15 1 false 14,.callv (some 16) 11 [15]]) (.cond 16 (.seq (.ops [.mv 17 5,.asg 4 17]) .ret) .skip)))) (.ops [.bin 18 .add 8 (kI 1),.mv 8 18])))))
def aUe:AC:=(.seq (.ops [.asg 4 (kI (-1))]) .ret)
def bYu:AC:=(.seq (.ops [.asg 4 (kI 0)]) (.seq (.seq (.ops [.mv 6 0,.len 7 6,.mv 8 (kI 0)]) (.block 0 aHi)) aUe))
theorem bE3:aV Tryz.prog 158=some (bYu,[.mv 0 4],19):=by kernel_rfl
def aWw (r:Int):Exit→St→Prop:=aU [.mv 0 4] fun x _=>x=(fun y=>(vI y)) r
def bO3 (r:Int):Exit→St→Prop:=(bF (wkK (avc Tryz.prog aUe (aWw r))) (aWw r))
def cAv (r:Int):Exit→St→Prop:=(bG 0 (bO3 r))
def bG7 (p0:(List (List UInt8))) (x8:Int):St:=⟨[(0,(fK p0)),(1,(.fn 144 [])),(7,(vI (p0.length:Int))),(8,(vI x8))],[]⟩
abbrev aC9 (p0:(List (List UInt8))) (x8:Int) (r:Int):Prop:=avc Tryz.prog aHi (cAv r) (bG7 p0 x8)
def bRc:AC:=(.seq (.ops [.asg 2 (kB false)]) (.seq (.ops [.mv 3 0,.call (some 4) 121 [3],.not 5 4,.asg 2 5]) .ret))
theorem bX1:aV Tryz.prog 144=some (bRc,[.mv 0 2],6):=by kernel_rfl
def cE8 (r:Bool):Exit→St→Prop:=aU [.mv 0 2] fun x _=>x=(fun y=>(vB y)) r
def bB9:AC:=(.seq (.ops [.asg 2 (kB false)]) (.seq (.ops [.mv 3 0,.lns 4 3,.bin 5 .geq 4 (kI 1),.mv 6 5,.g 6 true (.mv 7 0),.g 6 true (.lns 8 7),.g 6 true (.bin 9 .leq 8 (kI 20)),.pick 10 6 9 (kB false),.asg 2 10]) .ret))
theorem bB7:aV Tryz.prog 121=some (bB9,[.mv 0 2],11):=by kernel_rfl
def cF1 (r:Bool):Exit→St→Prop:=aU [.mv 0 2] fun x _=>x=(fun y=>(vB y)) r
def cC2:AC:=(.seq (.ops [.asg 4 (kB false)]) (.seq (.ops [.mv 5 0,.mv 6 1,.call (some 7) 157 [5,6],.bin 8 .geq 7 (kI 0),.asg 4 8]) .ret))
theorem cBt:aV Tryz.prog 141=some (cC2,[.mv 0 4],9):=by kernel_rfl
def cFy (r:Bool):Exit→St→Prop:=aU [.mv 0 4] fun x _=>x=(fun y=>(vB y)) r
def aMv:AC:=(.loop (.seq (.ops [.bin 9 .lss 8 7]) (.seq (.cond 9 .skip (.exit 0)) (.seq (.block 1 (.seq (.ops [.mv 10 8,.asg 5 10]) (.seq (.ops [.mv 11 1,.mv 12 0,.mv 13 5,.ia 14 1 12 13,.ld 15 1 false 14,.callv (some 16) 11 [15]]) (.cond 16 (.seq (.ops [.mv 17 5,.asg 4 17]) .ret) .skip)))) (.ops [.bin 18 .add 8 (kI 1),.mv 8 18])))))
def aQj:AC:=(.seq (.ops [.asg 4 (kI (-1))]) .ret)
def bIy:AC:=(.seq (.ops [.asg 4 (kI 0)]) (.seq (.seq (.ops [.mv 6 0,.len 7 6,.mv 8 (kI 0)]) (.block 0 aMv)) aQj))
theorem bYv:aV Tryz.prog 157=some (bIy,[.mv 0 4],19):=by kernel_rfl
def aQ9 (r:Int):Exit→St→Prop:=aU [.mv 0 4] fun x _=>x=(fun y=>(vI y)) r
def bNo (r:Int):Exit→St→Prop:=(bF (wkK (avc Tryz.prog aQj (aQ9 r))) (aQ9 r))
def bHx (r:Int):Exit→St→Prop:=(bG 0 (bNo r))
def bP6 (p0:(List (List aA))) (x8:Int):St:=⟨[(0,(.d (.sl 1 (p0.map (cSl 10 aZ))))),(1,(.fn 142 [])),(7,(vI (p0.length:Int))),(8,(vI x8))],[]⟩
abbrev aHa (p0:(List (List aA))) (x8:Int) (r:Int):Prop:=avc Tryz.prog aMv (bHx r) (bP6 p0 x8)
def bGg:AC:=(.seq (.ops [.asg 2 (kB false)]) (.seq (.ops [.mv 3 0,.len 4 3,.bin 5 .gtr 4 (kI 1),.asg 2 5]) .ret))
theorem bTp:aV Tryz.prog 142=some (bGg,[.mv 0 2],6):=by kernel_rfl
def cH4 (r:Bool):Exit→St→Prop:=aU [.mv 0 2] fun x _=>x=(fun y=>(vB y)) r
def aI0:AC:=(.loop (.seq (.ops [.bin 65 .lss 64 63]) (.seq (.cond 65 .skip (.exit 0)) (.seq (.block 1 (.seq (.ops [.ia 66 10 62 64,.ld 67 10 true 66,.alc 11 qP,.st 10 11 67]) (.seq (.ops [.ld 69 1 true 3,.mv 70 1,.ld 71 10 true 11,.call (some 72) 97 [69,70,71],.mv 68 72,.ext 73 68 0,.ext 74 68 1,.asg 12 73,.asg 13 74]) (.seq (.seq (.ops [.mv 75 13,.not 76 75]) (.cond 76 (.seq (.ops [.asg 6 (kI 0),.asg 7 (kB false)]) .ret) .skip)) (.ops [.mv 77 8,.mv 78 12,.bsl 79 3 1 [78],.app 80 3 1 8 77 79,.asg 8 80]))))) (.ops [.bin 81 .add 64 (kI 1),.mv 64 81])))))
def aLo:AC:=(.loop (.seq (.ops [.bin 86 .lss 85 84]) (.seq (.cond 86 .skip (.exit 2)) (.seq (.block 3 (.seq (.ops [.ia 87 8 83 85,.ld 88 8 true 87,.alc 15 yA,.st 8 15 88]) (.seq (.ops [.ld 90 1 true 3,.mv 91 1,.ld 92 8 true 15,.call (some 93) 88 [90,91,92],.mv 89 93,.ext 94 89 0,.ext 95 89 1,.asg 16 94,.asg 17 95]) (.seq (.seq (.ops [.mv 96 17,.not 97 96,.mv 98 97,.g 98 false (.fa 99 0 5),.g 98 false (.ld 100 1 false 99),.g 98 false (.bin 101 .eql 100 (kI 8)),.g 98 false (.mv 102 101),.g 102 true (.mv 103 16),.g 102 true (.len 104 103),.g 102 true (.bin 105 .neq 104 (kI 1)),.g 98 false (.pick 106 102 105 (kB false)),.pick 107 98 (kB true) 106]) (.cond 107 (.seq (.ops [.asg 6 (kI 0),.asg 7 (kB false)]) .ret) .skip)) (.ops [.mv 108 16,.asg 9 108]))))) (.ops [.bin 109 .add 85 (kI 1),.mv 85 109])))))
def aWq:AC:=(.seq (.ops [.ld 110 10 true 5,.mv 111 8,.mv 112 9,.call (some 113) 135 [110,111,112],.ext 114 113 0,.ext 115 113 1,.asg 6 114,.asg 7 115]) .ret)
def aV5:AC:=(.seq (.seq (.ops [.fa 82 9 5,.ld 83 1 false 82,.len 84 83,.mv 85 (kI 0)]) (.block 2 aLo)) aWq)
def bL0:AC:=(.seq (.ops [.box 3 39 0,.box 5 97 2,.asg 6 (kI 0),.asg 7 (kB false)]) (.seq (.seq (.ops [.ld 18 10 true 5,.call (some 19) 134 [18],.not 20 19]) (.cond 20 (.seq (.ops [.asg 6 (kI 0),.asg 7 (kB false)]) .ret) .skip)) (.seq (.seq (.ops [.fa 21 0 5,.ld 22 1 false 21,.bin 23 .eql 22 (kI 2)]) (.cond 23 (.seq (.seq (.dops [[],[0],[1],[2],[3],[4,3],[3],[6,3],[5,7,3],[3,8],[9,3],[10],[11,10],[12,10],[10,13],[14,10],[15],[16,15],[15],[15],[19,15],[18,20,15],[21,15],[22,15],[17,23,15],[15,24]] [.fa 24 6 5,.ld 25 1 false 24,.bin 26 .lss 25 (kI 0),.mv 27 26,.g 27 false (.fa 28 6 5),.g 27 false (.ld 29 1 false 28),.g 27 false (.mv 30 1),.g 27 false (.len 31 30),.g 27 false (.bin 32 .geq 29 31),.pick 33 27 (kB true) 32,.mv 34 33,.g 34 false (.fa 35 7 5),.g 34 false (.ld 36 1 false 35),.g 34 false (.bin 37 .lss 36 (kI 0)),.pick 38 34 (kB true) 37,.mv 39 38,.g 39 false (.fa 40 7 5),.g 39 false (.ld 41 1 false 40),.g 39 false (.mv 42 1),.g 39 false (.fa 43 6 5),.g 39 false (.ld 44 1 false 43),.g 39 false (.ia 45 1 42 44),.g 39 false (.ld 46 1 false 45),.g 39 false (.len 47 46),.g 39 false (.bin 48 .geq 41 47),.pick 49 39 (kB true) 48]) (.cond 49 (.seq (.ops [.asg 6 (kI 0),.asg 7 (kB false)]) .ret) .skip)) (.seq (.dops [[],[],[1],[0,2],[3],[],[5],[4,6],[7],[8,0,1,2,3,4,5,6,7,8],[9,0,1,2,3,4,5,6,7,8,9]] [.mv 50 1,.fa 51 6 5,.ld 52 1 false 51,.ia 53 1 50 52,.ld 54 1 false 53,.fa 55 7 5,.ld 56 1 false 55,.ia 57 1 54 56,.ld 58 1 false 57,.asg 6 58,.asg 7 (kB true)]) .ret)) .skip)) (.seq (.ops [.bsl 59 3 1 [],.bsl 60 3 1 [],.asg 8 59,.asg 9 60]) (.seq (.seq (.ops [.fa 61 8 5,.ld 62 1 false 61,.len 63 62,.mv 64 (kI 0)]) (.block 0 aI0)) aV5)))))
theorem bAm:aV Tryz.prog 97=some (bL0,[.mv 0 6,.mv 0 7],116):=by kernel_rfl
def aGl (r:Int×Bool):Exit→St→Prop:=aU [.mv 0 6,.mv 0 7] fun x _=>x=(fun y=>(.tup [(vI y.1),(vB y.2)])) r
def cBn (r:Int×Bool):Exit→St→Prop:=(bF (wkK (avc Tryz.prog aV5 (aGl r))) (aGl r))
def bKw (r:Int×Bool):Exit→St→Prop:=(bG 0 (cBn r))
def bP2 (r:Int×Bool):Exit→St→Prop:=(bF (wkK (avc Tryz.prog aWq (aGl r))) (aGl r))
def bUz (r:Int×Bool):Exit→St→Prop:=(bG 2 (bP2 r))
def bCr (p1:(List (List Int))) (p2:aA) (p0:aJ) (x8:(List Int)) (x64:Int):St:=⟨[(1,(.d (.sl 1 (p1.map (cSl 1 cI))))),(3,(.ptr 3 0)),(5,(.ptr 5 0)),(8,(.osl 8 3 1 (x8.map cI))),(9,(.osl 9 3 1 (([]:List Int).map cI))),(62,(bN p2.kids)),(63,(vI (p2.kids.length:Int))),(64,(vI x64))],[(3,dJ p0),(5,mI p2)]⟩
abbrev aCl (p1:(List (List Int))) (p2:aA) (p0:aJ) (x8:(List Int)) (x64:Int) (r:Int×Bool):Prop:=avc Tryz.prog aI0 (bKw r) (bCr p1 p2 p0 x8 x64)
def bWp (p1:(List (List Int))) (x8:(List Int)) (p2:aA) (p0:aJ) (x9:(List Int)) (x85:Int):St:=⟨[(1,(.d (.sl 1 (p1.map (cSl 1 cI))))),(3,(.ptr 3 0)),(5,(.ptr 5 0)),(8,(.osl 8 3 1 (x8.map cI))),(9,(.osl 9 3 1 (x9.map cI))),(83,(eH p2.sub)),(84,(vI (p2.sub.length:Int))),(85,(vI x85))],[(3,dJ p0),(5,mI p2)]⟩
abbrev aC1 (p1:(List (List Int))) (x8:(List Int)) (p2:aA) (p0:aJ) (x9:(List Int)) (x85:Int) (r:Int×Bool):Prop:=avc Tryz.prog aLo (bUz r) (bWp p1 x8 p2 p0 x9 x85)
def bHr:AC:=(.seq (.ops [.box 1 97 0,.asg 2 (kB false)]) (.seq (.ops [.fa 6 0 1,.ld 7 1 false 6,.fa 8 1 1,.ld 9 1 false 8,.fa 10 3 1,.ld 11 3 true 10,.bld 12 [bQ,bQ,cK,bQ,bQ,fQ,fQ,fQ,(.nil 10),(.nil 6)] [(0,1,7),(1,1,9),(3,3,11),(7,1,(.c (.d (.s (bs [120])))))],.call (some 13) 150 [12],.mv 5 13,.ext 14 5 0,.ext 15 5 1,.alc 3 aXr,.st 7 3 14,.asg 4 15]) (.seq (.ops [.mv 16 4,.mv 17 16,.g 17 true (.fa 18 0 3),.g 17 true (.ld 19 1 false 18),.g 17 true (.mv 20 19),.g 20 false (.fa 21 1 1),.g 20 false (.ld 22 1 false 21),.g 20 false (.bin 23 .eql 22 (kI 0)),.g 17 true (.pick 24 20 (kB true) 23),.pick 25 17 24 (kB false),.mv 26 25,.g 26 true (.fa 27 1 3),.g 26 true (.ld 28 1 false 27),.g 26 true (.mv 29 28),.g 29 false (.fa 30 2 1),.g 29 false (.ld 31 1 false 30),.g 29 false (.not 32 31),.g 26 true (.pick 33 29 (kB true) 32),.pick 34 26 33 (kB false),.mv 35 34,.g 35 true (.fa 36 2 3),.g 35 true (.ld 37 1 false 36),.g 35 true (.mv 38 37),.g 38 false (.fa 39 3 1),.g 38 false (.ld 40 3 true 39),.g 38 false (.bld 41 [bQ,bQ,fQ] []),.g 38 false (.eqv 42 false [0,0,1] 40 41),.g 35 true (.pick 43 38 (kB true) 42),.pick 44 35 43 (kB false),.mv 45 44,.g 45 true (.fa 46 3 3),.g 45 true (.ld 47 1 false 46),.g 45 true (.mv 48 47),.g 48 false (.fa 49 6 1),.g 48 false (.ld 50 1 false 49),.g 48 false (.bin 51 .eql 50 (kI 0)),.g 48 false (.mv 52 51),.g 52 true (.fa 53 7 1),.g 52 true (.ld 54 1 false 53),.g 52 true (.bin 55 .eql 54 (kI 0)),.g 48 false (.pick 56 52 55 (kB false)),.g 45 true (.pick 57 48 (kB true) 56),.pick 58 45 57 (kB false),.mv 59 58,.g 59 true (.fa 60 8 1),.g 59 true (.ld 61 1 false 60),.g 59 true (.len 62 61),.g 59 true (.fa 63 4 3),.g 59 true (.ld 64 1 false 63),.g 59 true (.bin 65 .geq 62 64),.pick 66 59 65 (kB false),.mv 67 66,.g 67 true (.fa 68 8 1),.g 67 true (.ld 69 1 false 68),.g 67 true (.len 70 69),.g 67 true (.fa 71 5 3),.g 67 true (.ld 72 1 false 71),.g 67 true (.bin 73 .leq 70 72),.pick 74 67 73 (kB false),.mv 75 74,.g 75 true (.fa 76 9 1),.g 75 true (.ld 77 1 false 76),.g 75 true (.len 78 77),.g 75 true (.fa 79 6 3),.g 75 true (.ld 80 1 false 79),.g 75 true (.bin 81 .eql 78 80),.pick 82 75 81 (kB false),.asg 2 82]) .ret)))
theorem bTg:aV Tryz.prog 134=some (bHr,[.mv 0 2],83):=by kernel_rfl
def cFk (r:Bool):Exit→St→Prop:=aU [.mv 0 2] fun x _=>x=(fun y=>(vB y)) r
def bBc:AC:=(.seq (.ops [.box 1 163 0,.alc 2 aXr,.asg 3 (kB false)]) (.seq (.seq (.ops [.fa 4 0 1,.ld 5 1 false 4]) (.block 0 (.seq (.ops [.bin 7 .eql 5 (kI 1),.asg 6 7]) (.cond 6 (.seq (.ops [.bld 8 [cK,cK,cK,cK,bQ,bQ,bQ] [(2,1,(kB true))],.fa 9 3 1,.ld 10 3 true 9,.call (some 11) 159 [10],.st 7 2 8,.asg 3 11]) .ret) (.seq (.ops [.bin 13 .eql 5 (kI 2),.asg 12 13]) (.cond 12 (.seq (.ops [.bld 14 [cK,cK,cK,cK,bQ,bQ,bQ] [(3,1,(kB true))],.fa 15 7 1,.ld 16 1 false 15,.call (some 17) 121 [16],.mv 18 17,.g 18 true (.fa 19 6 1),.g 18 true (.ld 20 1 false 19),.g 18 true (.bin 21 .eql 20 (.c (.d (.s (bs []))))),.g 18 true (.mv 22 21),.g 22 false (.fa 23 6 1),.g 22 false (.ld 24 1 false 23),.g 22 false (.call (some 25) 121 [24]),.g 18 true (.pick 26 22 (kB true) 25),.pick 27 18 26 (kB false),.st 7 2 14,.asg 3 27]) .ret) (.seq (.ops [.bin 29 .eql 5 (kI 3),.asg 28 29]) (.cond 28 (.seq (.dops [[],[],[1],[2],[3],[4],[5,4],[6,4],[4,7],[0,4,0],[8,9,0,1,2,3,4,5,6,7,8,9]] [.bld 30 [cK,cK,cK,cK,bQ,bQ,bQ] [(0,1,(kB true)),(4,1,(kI 1)),(5,1,(kI 1))],.fa 31 1 1,.ld 32 1 false 31,.bin 33 .eql 32 (kI 15),.mv 34 33,.g 34 false (.fa 35 1 1),.g 34 false (.ld 36 1 false 35),.g 34 false (.bin 37 .eql 36 (kI 16)),.pick 38 34 (kB true) 37,.st 7 2 30,.asg 3 38]) .ret) (.seq (.ops [.bin 40 .eql 5 (kI 4),.asg 39 40]) (.cond 39 (.seq (.dops [[],[],[1],[2],[3],[4],[5,4],[6,4],[4,7],[0,4,0],[8,9,0,1,2,3,4,5,6,7,8,9]] [.bld 41 [cK,cK,cK,cK,bQ,bQ,bQ] [(0,1,(kB true)),(4,1,(kI 2)),(5,1,(kI 2))],.fa 42 1 1,.ld 43 1 false 42,.bin 44 .geq 43 (kI 1),.mv 45 44,.g 45 true (.fa 46 1 1),.g 45 true (.ld 47 1 false 46),.g 45 true (.bin 48 .leq 47 (kI 14)),.pick 49 45 48 (kB false),.st 7 2 41,.asg 3 49]) .ret) (.seq (.ops [.bin 51 .eql 5 (kI 5),.asg 50 51]) (.cond 50 (.seq (.ops [.bld 52 [cK,cK,cK,cK,bQ,bQ,bQ] [(1,1,(kB true)),(4,1,(kI 1)),(5,1,(kI 1))],.st 7 2 52,.asg 3 (kB true)]) .ret) (.seq (.ops [.bin 54 .eql 5 (kI 6),.asg 53 54]) (.cond 53 (.seq (.ops [.bld 55 [cK,cK,cK,cK,bQ,bQ,bQ] [(1,1,(kB true)),(4,1,(kI 3)),(5,1,(kI 3))],.st 7 2 55,.asg 3 (kB true)]) .ret) (.seq (.ops [.bin 57 .eql 5 (kI 7),.asg 56 57]) (.cond 56 (.seq (.ops [.bld 58 [cK,cK,cK,cK,bQ,bQ,bQ] [(1,1,(kB true)),(4,1,(kI 2)),(5,1,(kI 9))],.st 7 2 58,.asg 3 (kB true)]) .ret) (.seq (.ops [.bin 60 .eql 5 (kI 8),.asg 59 60]) (.cond 59 (.seq (.ops [.bld 61 [cK,cK,cK,cK,bQ,bQ,bQ] [(1,1,(kB true)),(4,1,(kI 1)),(5,1,(kI 1)),(6,1,(kI 1))],.st 7 2 61,.asg 3 (kB true)]) .ret) (.seq (.ops [.bin 63 .eql 5 (kI 9),.asg 62 63]) (.cond 62 (.seq (.ops [.bld 64 [cK,cK,cK,cK,bQ,bQ,bQ] [(6,1,(kI 1))],.st 7 2 64,.asg 3 (kB true)]) .ret) .skip)))))))))))))))))))) (.seq (.ops [.bld 65 [cK,cK,cK,cK,bQ,bQ,bQ] [],.st 7 2 65,.asg 3 (kB false)]) .ret)))
theorem bWu:aV Tryz.prog 150=some (bBc,[.ld 0 7 true 2,.mv 0 3],66):=by kernel_rfl
def cDq (r:fV×Bool):Exit→St→Prop:=aU [.ld 0 7 true 2,.mv 0 3] fun x _=>x=(fun y=>(.tup [(aZt y.1),(vB y.2)])) r
def bY6:AC:=(.seq (.ops [.box 1 94 0,.asg 2 (kB false)]) (.seq (.ops [.ld 3 3 true 1,.call (some 4) 162 [3],.mv 5 4,.g 5 true (.fa 6 0 1),.g 5 true (.ld 7 1 false 6),.g 5 true (.bin 8 .neq 7 (kI 1)),.g 5 true (.mv 9 8),.g 9 false (.fa 10 1 1),.g 9 false (.ld 11 1 false 10),.g 9 false (.bin 12 .geq 11 (kI 0)),.g 5 true (.pick 13 9 (kB true) 12),.pick 14 5 13 (kB false),.mv 15 14,.g 15 true (.fa 16 2 1),.g 15 true (.ld 17 1 false 16),.g 15 true (.lns 18 17),.g 15 true (.bin 19 .leq 18 (kI 40)),.pick 20 15 19 (kB false),.asg 2 20]) .ret))
theorem bNc:aV Tryz.prog 159=some (bY6,[.mv 0 2],21):=by kernel_rfl
def cDn (r:Bool):Exit→St→Prop:=aU [.mv 0 2] fun x _=>x=(fun y=>(vB y)) r
def bWt:AC:=(.seq (.ops [.box 1 94 0,.asg 2 (kB false)]) (.seq (.seq (.ops [.fa 3 0 1,.ld 4 1 false 3]) (.block 0 (.seq (.ops [.bin 6 .eql 4 (kI 0),.asg 5 6]) (.cond 5 (.seq (.ops [.fa 7 1 1,.ld 8 1 false 7,.bin 9 .eql 8 (kI 0),.mv 10 9,.g 10 true (.fa 11 2 1),.g 10 true (.ld 12 1 false 11),.g 10 true (.bin 13 .eql 12 (.c (.d (.s (bs []))))),.pick 14 10 13 (kB false),.asg 2 14]) .ret) (.seq (.ops [.bin 16 .eql 4 (kI 1),.asg 15 16]) (.cond 15 (.seq (.ops [.fa 17 2 1,.ld 18 1 false 17,.bin 19 .eql 18 (.c (.d (.s (bs [])))),.asg 2 19]) .ret) (.seq (.ops [.bin 21 .eql 4 (kI 2),.asg 20 21]) (.cond 20 (.seq (.ops [.fa 22 1 1,.ld 23 1 false 22,.bin 24 .eql 23 (kI 0),.mv 25 24,.g 25 true (.fa 26 2 1),.g 25 true (.ld 27 1 false 26),.g 25 true (.lns 28 27),.g 25 true (.bin 29 .leq 28 (kI 200)),.pick 30 25 29 (kB false),.asg 2 30]) .ret) (.seq (.ops [.bin 32 .eql 4 (kI 3),.asg 31 32]) (.cond 31 (.seq (.ops [.fa 33 1 1,.ld 34 1 false 33,.bin 35 .eql 34 (kI 0),.mv 36 35,.g 36 false (.fa 37 1 1),.g 36 false (.ld 38 1 false 37),.g 36 false (.bin 39 .eql 38 (kI 1)),.pick 40 36 (kB true) 39,.mv 41 40,.g 41 true (.fa 42 2 1),.g 41 true (.ld 43 1 false 42),.g 41 true (.bin 44 .eql 43 (.c (.d (.s (bs []))))),.pick 45 41 44 (kB false),.asg 2 45]) .ret) .skip)))))))))) (.seq (.ops [.asg 2 (kB false)]) .ret)))
theorem bG6:aV Tryz.prog 162=some (bWt,[.mv 0 2],46):=by kernel_rfl
def cGi (r:Bool):Exit→St→Prop:=aU [.mv 0 2] fun x _=>x=(fun y=>(vB y)) r
def aHf:AC:=(.cond 40 (.seq (.ops [.asg 6 (kI 3),.asg 7 (kB true)]) .ret) .skip)
def aZ8:AC:=(.seq (.seq (.ops [.mv 44 1,.call (some 45) 154 [44],.mv 46 2,.app 47 3 1 8 45 46,.call (some 48) 153 [47],.mv 43 48,.ext 49 43 0,.ext 50 43 1,.asg 8 49,.asg 9 50]) (.seq (.ops [.mv 51 9,.not 52 51]) (.cond 52 (.seq (.ops [.asg 6 (kI 0),.asg 7 (kB false)]) .ret) .skip))) (.seq (.ops [.asg 6 (kI 3),.asg 7 (kB true)]) .ret))
def cCo:AC:=(.seq (.ops [.box 3 97 0,.asg 6 (kI 0),.asg 7 (kB false)]) (.seq (.seq (.ops [.fa 10 0 3,.ld 11 1 false 10]) (.block 0 (.seq (.ops [.bin 13 .eql 11 (kI 1),.asg 12 13]) (.cond 12 (.seq (.ops [.fa 14 3 3,.fa 15 0 14,.ld 16 1 false 15,.asg 6 16,.asg 7 (kB true)]) .ret) (.seq (.ops [.bin 18 .eql 11 (kI 3),.asg 17 18]) (.cond 17 (.seq (.dops [[],[0],[],[2],[3],[1,4],[5],[5],[6,5,0,1,2,3,4,5,6,7],[7,8,0,1,2,3,4,5,6,7,8]] [.fa 19 1 3,.ld 20 1 false 19,.mv 21 1,.ia 22 1 21 (kI 0),.ld 23 1 false 22,.call (some 24) 151 [20,23],.ext 25 24 0,.ext 26 24 1,.asg 6 25,.asg 7 26]) .ret) (.seq (.ops [.bin 28 .eql 11 (kI 4),.asg 27 28]) (.cond 27 (.seq (.dops [[],[0],[],[2],[3],[],[5],[6],[1,4,7],[8],[8],[9,8,0,1,2,3,4,5,6,7,8,9,10],[10,11,0,1,2,3,4,5,6,7,8,9,10,11]] [.fa 29 1 3,.ld 30 1 false 29,.mv 31 1,.ia 32 1 31 (kI 0),.ld 33 1 false 32,.mv 34 1,.ia 35 1 34 (kI 1),.ld 36 1 false 35,.call (some 37) 152 [30,33,36],.ext 38 37 0,.ext 39 37 1,.asg 6 38,.asg 7 39]) .ret) (.seq (.seq (.ops [.bin 41 .eql 11 (kI 5),.asg 40 41]) (.cond 40 .skip (.ops [.bin 42 .eql 11 (kI 9),.asg 40 42]))) aHf))))))))) aZ8))
theorem bO6:aV Tryz.prog 135=some (cCo,[.mv 0 6,.mv 0 7],53):=by kernel_rfl
def aTm (r:Int×Bool):Exit→St→Prop:=aU [.mv 0 6,.mv 0 7] fun x _=>x=(fun y=>(.tup [(vI y.1),(vB y.2)])) r
def bLq (r:Int×Bool):Exit→St→Prop:=(bF (wkK (avc Tryz.prog aZ8 (aTm r))) (aTm r))
def bLr (r:Int×Bool):Exit→St→Prop:=(bG 0 (bLq r))
def bGw (p1:(List Int)) (p2:(List Int)) (x40:Bool):St:=⟨[(1,(bX p1)),(2,(bX p2)),(40,(vB x40))],[]⟩
abbrev aWn (p1:(List Int)) (p2:(List Int)) (x40:Bool) (r:Int×Bool):Prop:=avc Tryz.prog aHf (bLr r) (bGw p1 p2 x40)
def aIr:AC:=(.seq (.seq (.ops [.mv 44 9,.not 45 44]) (.cond 45 (.seq (.ops [.asg 6 (kI 0),.asg 7 (kB false)]) .ret) .skip)) (.seq (.ops [.mv 46 8,.asg 6 46,.asg 7 (kB true)]) .ret))
def bVs:AC:=(.seq (.ops [.asg 6 (kI 0),.asg 7 (kB false)]) (.seq (.ops [.asg 8 (kI 0),.asg 9 (kB false)]) (.seq (.block 0 (.seq (.ops [.mv 14 0,.bin 15 .lss 14 (kI 1),.mv 16 15,.g 16 false (.mv 17 0),.g 16 false (.bin 18 .gtr 17 (kI 14)),.pick 19 16 (kB true) 18,.asg 13 19]) (.cond 13 .skip (.seq (.ops [.mv 21 0,.bin 22 .leq 21 (kI 2),.asg 20 22]) (.cond 20 (.ops [.mv 23 1,.call (some 24) 98 [23],.mv 25 24,.g 25 true (.mv 26 2),.g 25 true (.call (some 27) 98 [26]),.pick 28 25 27 (kB false),.asg 8 (kI 3),.asg 9 28]) (.seq (.ops [.mv 30 0,.bin 31 .leq 30 (kI 8),.asg 29 31]) (.cond 29 (.seq (.ops [.mv 33 1,.mv 34 2,.call (some 35) 132 [33,34],.mv 32 35,.ext 36 32 0,.ext 37 32 1,.asg 9 37]) (.ops [.asg 8 (kI 3)])) (.seq (.ops [.mv 39 0,.bin 40 .eql 39 (kI 9),.asg 38 40]) (.cond 38 (.ops [.mv 41 1,.mv 42 2,.call (some 43) 160 [(kI 2),41,42],.asg 8 (kI 2),.asg 9 43]) (.ops [.mv 10 1,.mv 11 2,.call (some 12) 160 [(kI 1),10,11],.asg 8 (kI 1),.asg 9 12])))))))))) aIr)))
theorem bIp:aV Tryz.prog 152=some (bVs,[.mv 0 6,.mv 0 7],47):=by kernel_rfl
def cCl (r:Int×Bool):Exit→St→Prop:=aU [.mv 0 6,.mv 0 7] fun x _=>x=(fun y=>(.tup [(vI y.1),(vB y.2)])) r
def bJ7 (x8:Int) (x9:Bool):St:=⟨[(8,(vI x8)),(9,(vB x9))],[]⟩
abbrev aQr (x8:Int) (x9:Bool) (r:Int×Bool):Prop:=avc Tryz.prog aIr (cCl r) (bJ7 x8 x9)
def bZp:AC:=(.seq (.ops [.asg 6 (kB false)]) (.seq (.ops [.mv 7 1,.mv 8 0,.bin 9 .eql 7 8,.mv 10 9,.g 10 false (.mv 11 1),.g 10 false (.bin 12 .eql 11 (kI 0)),.pick 13 10 (kB true) 12,.mv 14 13,.g 14 true (.mv 15 2),.g 14 true (.mv 16 0),.g 14 true (.bin 17 .eql 15 16),.g 14 true (.mv 18 17),.g 18 false (.mv 19 2),.g 18 false (.bin 20 .eql 19 (kI 0)),.g 14 true (.pick 21 18 (kB true) 20),.pick 22 14 21 (kB false),.asg 6 22]) .ret))
theorem bD8:aV Tryz.prog 160=some (bZp,[.mv 0 6],23):=by kernel_rfl
def cEp (r:Bool):Exit→St→Prop:=aU [.mv 0 6] fun x _=>x=(fun y=>(vB y)) r
def bM8:AC:=(.seq (.ops [.asg 4 (kI 0),.asg 5 (kB false)]) (.seq (.block 0 (.seq (.ops [.mv 7 0,.call (some 8) 149 [7],.not 9 8,.mv 10 9,.g 10 false (.mv 11 1),.g 10 false (.call (some 12) 149 [11]),.g 10 false (.not 13 12),.pick 14 10 (kB true) 13,.asg 6 14]) (.cond 6 (.seq (.ops [.asg 4 (kI 0),.asg 5 (kB false)]) .ret) (.seq (.ops [.mv 16 0,.bin 17 .eql 16 (kI 0),.asg 15 17]) (.cond 15 (.seq (.ops [.mv 18 1,.asg 4 18,.asg 5 (kB true)]) .ret) (.seq (.ops [.mv 20 1,.bin 21 .eql 20 (kI 0),.mv 22 21,.g 22 false (.mv 23 0),.g 22 false (.mv 24 1),.g 22 false (.bin 25 .eql 23 24),.pick 26 22 (kB true) 25,.asg 19 26]) (.cond 19 (.seq (.ops [.mv 27 0,.asg 4 27,.asg 5 (kB true)]) .ret) .skip))))))) (.seq (.ops [.asg 4 (kI 0),.asg 5 (kB false)]) .ret)))
theorem bQi:aV Tryz.prog 132=some (bM8,[.mv 0 4,.mv 0 5],28):=by kernel_rfl
def cH8 (r:Int×Bool):Exit→St→Prop:=aU [.mv 0 4,.mv 0 5] fun x _=>x=(fun y=>(.tup [(vI y.1),(vB y.2)])) r
def cB8:AC:=(.seq (.ops [.asg 2 (kB false)]) (.seq (.ops [.mv 3 0,.bin 4 .geq 3 (kI 0),.mv 5 4,.g 5 true (.mv 6 0),.g 5 true (.bin 7 .leq 6 (kI 3)),.pick 8 5 7 (kB false),.asg 2 8]) .ret))
theorem bU8:aV Tryz.prog 149=some (cB8,[.mv 0 2],9):=by kernel_rfl
def cHl (r:Bool):Exit→St→Prop:=aU [.mv 0 2] fun x _=>x=(fun y=>(vB y)) r
def bGi:AC:=(.seq (.ops [.asg 2 (kB false)]) (.seq (.ops [.mv 3 0,.bin 4 .eql 3 (kI 0),.mv 5 4,.g 5 false (.mv 6 0),.g 5 false (.bin 7 .eql 6 (kI 3)),.pick 8 5 (kB true) 7,.asg 2 8]) .ret))
theorem bCq:aV Tryz.prog 98=some (bGi,[.mv 0 2],9):=by kernel_rfl
def cF9 (r:Bool):Exit→St→Prop:=aU [.mv 0 2] fun x _=>x=(fun y=>(vB y)) r
def bAg:AC:=(.seq (.ops [.asg 2 (.c (.nil 1))]) (.seq (.seq (.ops [.mv 3 0,.eqn 4 false 3]) (.cond 4 (.seq (.ops [.asg 2 (.c (.nil 1))]) .ret) .skip)) (.seq (.ops [.bsl 5 3 1 [],.mv 6 0,.app 7 3 1 8 5 6,.asg 2 7]) .ret)))
theorem bK3:aV Tryz.prog 154=some (bAg,[.mv 0 2],8):=by kernel_rfl
def cEr (r:(List Int)):Exit→St→Prop:=aU [.mv 0 2] fun x b=>x=(fun (y:(List Int))=>(.osl 2000000 3 1 (y.map cI))) r∧eD ((fun (y:(List Int))=>[]) r) b
def bAt:AC:=(.seq (.ops [.asg 4 (kI 0),.asg 5 (kB false)]) (.seq (.block 0 (.seq (.ops [.mv 7 0,.bin 8 .eql 7 (kI 15),.mv 9 8,.g 9 true (.mv 10 1),.g 9 true (.call (some 11) 98 [10]),.pick 12 9 11 (kB false),.asg 6 12]) (.cond 6 (.seq (.ops [.asg 4 (kI 3),.asg 5 (kB true)]) .ret) (.seq (.ops [.mv 14 0,.bin 15 .eql 14 (kI 16),.mv 16 15,.g 16 true (.mv 17 1),.g 16 true (.mv 18 1),.g 16 true (.call (some 19) 160 [(kI 1),17,18]),.pick 20 16 19 (kB false),.asg 13 20]) (.cond 13 (.seq (.ops [.asg 4 (kI 1),.asg 5 (kB true)]) .ret) .skip))))) (.seq (.ops [.asg 4 (kI 0),.asg 5 (kB false)]) .ret)))
theorem bKr:aV Tryz.prog 151=some (bAt,[.mv 0 4,.mv 0 5],21):=by kernel_rfl
def cFx (r:Int×Bool):Exit→St→Prop:=aU [.mv 0 4,.mv 0 5] fun x _=>x=(fun y=>(.tup [(vI y.1),(vB y.2)])) r
def aLi:AC:=(.loop (.seq (.ops [.bin 12 .lss 11 10]) (.seq (.cond 12 .skip (.exit 0)) (.seq (.block 1 (.seq (.ops [.ia 13 1 9 11,.ld 14 1 false 13,.asg 6 14]) (.seq (.ops [.mv 16 4,.mv 17 6,.call (some 18) 132 [16,17],.mv 15 18,.ext 19 15 0,.ext 20 15 1,.asg 7 19,.asg 8 20]) (.seq (.seq (.ops [.mv 21 8,.not 22 21]) (.cond 22 (.seq (.ops [.asg 2 (kI 0),.asg 3 (kB false)]) .ret) .skip)) (.ops [.mv 23 7,.asg 4 23]))))) (.ops [.bin 24 .add 11 (kI 1),.mv 11 24])))))
def aWe:AC:=(.seq (.ops [.mv 25 4,.asg 2 25,.asg 3 (kB true)]) .ret)
def bJ9:AC:=(.seq (.ops [.asg 2 (kI 0),.asg 3 (kB false)]) (.seq (.ops [.asg 4 (kI 0)]) (.seq (.seq (.ops [.mv 9 0,.len 10 9,.mv 11 (kI 0)]) (.block 0 aLi)) aWe)))
theorem cCd:aV Tryz.prog 153=some (bJ9,[.mv 0 2,.mv 0 3],26):=by kernel_rfl
def aYb (r:Int×Bool):Exit→St→Prop:=aU [.mv 0 2,.mv 0 3] fun x _=>x=(fun y=>(.tup [(vI y.1),(vB y.2)])) r
def bG8 (r:Int×Bool):Exit→St→Prop:=(bF (wkK (avc Tryz.prog aWe (aYb r))) (aYb r))
def bUn (r:Int×Bool):Exit→St→Prop:=(bG 0 (bG8 r))
def bL6 (p0:(List Int)) (x4:Int) (x11:Int):St:=⟨[(4,(vI x4)),(9,(bX p0)),(10,(vI (p0.length:Int))),(11,(vI x11))],[]⟩
abbrev aCe (p0:(List Int)) (x4:Int) (x11:Int) (r:Int×Bool):Prop:=avc Tryz.prog aLi (bUn r) (bL6 p0 x4 x11)
def aM4:AC:=(.loop (.seq (.ops [.bin 13 .lss 12 11]) (.seq (.cond 13 .skip (.exit 0)) (.seq (.block 1 (.seq (.ops [.ia 14 1 10 12,.ld 15 1 false 14,.asg 8 15]) (.seq (.seq (.ops [.mv 16 8,.bin 17 .lss 16 (kI 0),.mv 18 17,.g 18 false (.mv 19 8),.g 18 false (.fa 20 0 2),.g 18 false (.ld 21 1 false 20),.g 18 false (.len 22 21),.g 18 false (.bin 23 .geq 19 22),.pick 24 18 (kB true) 23]) (.cond 24 (.seq (.ops [.asg 4 (.c (.nil 1)),.asg 5 (kB false)]) .ret) .skip)) (.ops [.mv 25 6,.fa 26 0 2,.ld 27 1 false 26,.mv 28 8,.ia 29 2 27 28,.ld 30 2 true 29,.call (some 31) 53 [30],.app 32 3 1 8 25 31,.asg 6 32])))) (.ops [.bin 33 .add 12 (kI 1),.mv 12 33])))))
def aUd:AC:=(.seq (.ops [.mv 34 6,.asg 4 34,.asg 5 (kB true)]) .ret)
def bS3:AC:=(.seq (.ops [.box 2 39 0,.asg 4 (.c (.nil 1)),.asg 5 (kB false)]) (.seq (.ops [.bsl 9 3 1 [],.asg 6 9]) (.seq (.seq (.ops [.mv 10 1,.len 11 10,.mv 12 (kI 0)]) (.block 0 aM4)) aUd)))
theorem bY7:aV Tryz.prog 118=some (bS3,[.mv 0 4,.mv 0 5],35):=by kernel_rfl
def aXd (r:(List Int)×Bool):Exit→St→Prop:=aU [.mv 0 4,.mv 0 5] fun x b=>x=(fun (y:(List Int)×Bool)=>(.tup [(.osl 2000000 3 1 (y.1.map cI)),(vB y.2)])) r∧eD ((fun (y:(List Int)×Bool)=>[]) r) b
def bFc (r:(List Int)×Bool):Exit→St→Prop:=(bF (wkK (avc Tryz.prog aUd (aXd r))) (aXd r))
def bR8 (r:(List Int)×Bool):Exit→St→Prop:=(bG 0 (bFc r))
def bEz (p1:(List Int)) (p0:aJ) (x6:(List Int)) (x12:Int):St:=⟨[(2,(.ptr 2 0)),(6,(.osl 6 3 1 (x6.map cI))),(10,(bX p1)),(11,(vI (p1.length:Int))),(12,(vI x12))],[(2,dJ p0)]⟩
abbrev aDv (p1:(List Int)) (p0:aJ) (x6:(List Int)) (x12:Int) (r:(List Int)×Bool):Prop:=avc Tryz.prog aM4 (bR8 r) (bEz p1 p0 x6 x12)
def aOb:AC:=(.loop (.seq (.ops [.bin 11 .lss 10 9]) (.seq (.cond 11 .skip (.exit 0)) (.seq (.block 1 (.seq (.ops [.ia 12 2 8 10,.ld 13 2 true 12,.alc 5 [fQ,bQ],.st 2 5 13]) (.ops [.mv 14 3,.fa 15 1 5,.ld 16 1 false 15,.bsl 17 3 1 [16],.app 18 3 1 8 14 17,.asg 3 18]))) (.ops [.bin 19 .add 10 (kI 1),.mv 10 19])))))
def aQb:AC:=(.seq (.ops [.mv 20 3,.asg 2 20]) .ret)
def bUs:AC:=(.seq (.ops [.box 1 87 0,.asg 2 (.c (.nil 1))]) (.seq (.ops [.bsl 6 3 1 [],.asg 3 6]) (.seq (.seq (.ops [.fa 7 1 1,.ld 8 1 false 7,.len 9 8,.mv 10 (kI 0)]) (.block 0 aOb)) aQb)))
theorem bLf:aV Tryz.prog 53=some (bUs,[.mv 0 2],21):=by kernel_rfl
def aXx (r:(List Int)):Exit→St→Prop:=aU [.mv 0 2] fun x _=>x=(fun y=>(bX y)) r
def bI2 (r:(List Int)):Exit→St→Prop:=(bF (wkK (avc Tryz.prog aQb (aXx r))) (aXx r))
def cCc (r:(List Int)):Exit→St→Prop:=(bG 0 (bI2 r))
def bJa (p0:bD) (x3:(List Int)) (x10:Int):St:=⟨[(3,(.osl 3 3 1 (x3.map cI))),(8,(iA p0.cols)),(9,(vI (p0.cols.length:Int))),(10,(vI x10))],[]⟩
abbrev aBj (p0:bD) (x3:(List Int)) (x10:Int) (r:(List Int)):Prop:=avc Tryz.prog aOb (cCc r) (bJa p0 x3 x10)
def bRk:AC:=(.seq (.ops [.asg 4 (.c (.nil 1))]) (.seq (.ops [.mv 5 0,.bsl 6 25 1 [5],.mv 7 1,.app 8 25 1 24 6 7,.asg 4 8]) .ret))
theorem bLs:aV Tryz.prog 120=some (bRk,[.mv 0 4],9):=by kernel_rfl
def cGa (r:(List (List Int))):Exit→St→Prop:=aU [.mv 0 4] fun x b=>x=(fun (y:(List (List Int)))=>(.osl 2000000 25 1 (y.map (cSl 1 cI)))) r∧eD ((fun (y:(List (List Int)))=>[]) r) b
def bMv:AC:=(.seq (.ops [.box 3 39 0,.box 4 88 1,.asg 6 (kB false)]) (.seq (.ops [.mv 7 2,.mkf 8 96 [3,4],.call (some 9) 95 [7,8],.not 10 9,.asg 6 10]) .ret))
theorem bRn:aV Tryz.prog 55=some (bMv,[.mv 0 6],11):=by kernel_rfl
def cFp (r:Bool):Exit→St→Prop:=aU [.mv 0 6] fun x _=>x=(fun y=>(vB y)) r
def bJk:AC:=(.seq (.ops [.asg 4 (kB false)]) (.seq (.ops [.mv 5 0,.mv 6 1,.call (some 7) 133 [5,6],.bin 8 .geq 7 (kI 0),.asg 4 8]) .ret))
theorem bBz:aV Tryz.prog 95=some (bJk,[.mv 0 4],9):=by kernel_rfl
def cG8 (c0:aJ) (c1_0:(List (List Int))) (r:Bool):Exit→St→Prop:=aU [.mv 0 4] fun x b=>x=(fun (y:Bool)=>(vB y)) r∧eD ((fun (y:Bool)=>[(1000000,dJ c0),(1000001,[(.d (.sl 1 (c1_0.map (cSl 1 cI))))])]) r) b
def aHr:AC:=(.loop (.seq (.ops [.bin 9 .lss 8 7]) (.seq (.cond 9 .skip (.exit 0)) (.seq (.block 1 (.seq (.ops [.mv 10 8,.asg 5 10]) (.seq (.ops [.mv 11 1,.mv 12 0,.mv 13 5,.ia 14 10 12 13,.ld 15 10 true 14,.callv (some 16) 11 [15]]) (.cond 16 (.seq (.ops [.mv 17 5,.asg 4 17]) .ret) .skip)))) (.ops [.bin 18 .add 8 (kI 1),.mv 8 18])))))
def aVs:AC:=(.seq (.ops [.asg 4 (kI (-1))]) .ret)
def bZ0:AC:=(.seq (.ops [.asg 4 (kI 0)]) (.seq (.seq (.ops [.mv 6 0,.len 7 6,.mv 8 (kI 0)]) (.block 0 aHr)) aVs))
theorem bIu:aV Tryz.prog 133=some (bZ0,[.mv 0 4],19):=by kernel_rfl
def aTn (c0:aJ) (c1_0:(List (List Int))) (r:Int):Exit→St→Prop:=aU [.mv 0 4] fun x b=>x=(fun (y:Int)=>(vI y)) r∧eD ((fun (y:Int)=>[(1000000,dJ c0),(1000001,[(.d (.sl 1 (c1_0.map (cSl 1 cI))))])]) r) b
def bT6 (c0:aJ) (c1_0:(List (List Int))) (r:Int):Exit→St→Prop:=(bF (wkK (avc Tryz.prog aVs (aTn c0 c1_0 r))) (aTn c0 c1_0 r))
def bFx (c0:aJ) (c1_0:(List (List Int))) (r:Int):Exit→St→Prop:=(bG 0 (bT6 c0 c1_0 r))
def bIf (p0:(List aA)) (c0:aJ) (c1_0:(List (List Int))) (x8:Int):St:=⟨[(0,(bN p0)),(1,(.fn 96 [(.ptr 1000000 0),(.ptr 1000001 0)])),(7,(vI (p0.length:Int))),(8,(vI x8))],[(1000000,dJ c0),(1000001,[(.d (.sl 1 (c1_0.map (cSl 1 cI))))])]⟩
abbrev aE0 (p0:(List aA)) (c0:aJ) (c1_0:(List (List Int))) (x8:Int) (r:Int):Prop:=avc Tryz.prog aHr (bFx c0 c1_0 r) (bIf p0 c0 c1_0 x8)
def bZ3:AC:=(.seq (.ops [.box 3 97 0,.asg 4 (kB false)]) (.seq (.ops [.ld 8 1 true 1,.ld 9 1 false 2,.ld 10 10 true 3,.call (some 11) 97 [8,9,10],.mv 7 11,.ext 12 7 0,.ext 13 7 1,.asg 5 12,.asg 6 13]) (.seq (.ops [.mv 14 6,.not 15 14,.mv 16 15,.g 16 false (.mv 17 5),.g 16 false (.call (some 18) 98 [17]),.g 16 false (.not 19 18),.pick 20 16 (kB true) 19,.asg 4 20]) .ret)))
theorem cAm:aV Tryz.prog 96=some (bZ3,[.mv 0 4],21):=by kernel_rfl
def cHq (p1:aJ) (c1_0:(List (List Int))) (r:Bool):Exit→St→Prop:=aU [.mv 0 4] fun x b=>x=(fun (y:Bool)=>(vB y)) r∧eD ((fun (y:Bool)=>[(1000000,dJ p1),(1000001,[(.d (.sl 1 (c1_0.map (cSl 1 cI))))])]) r) b
def bEf:AC:=(.seq (.ops [.box 1 45 0,.asg 2 (kI 0)]) (.seq (.ops [.ld 3 8 true 1,.call (some 4) 117 [3],.call (some 5) 52 [4],.asg 2 5]) .ret))
theorem bZg:aV Tryz.prog 87=some (bEf,[.mv 0 2],6):=by kernel_rfl
def cH7 (r:Int):Exit→St→Prop:=aU [.mv 0 2] fun x _=>x=(fun y=>(vI y)) r
def aJ5:AC:=(.loop (.seq (.ops [.bin 9 .lss 8 7]) (.seq (.cond 9 .skip (.exit 0)) (.seq (.block 1 (.seq (.ops [.ia 10 10 6 8,.ld 11 10 true 10,.alc 5 qP,.st 10 5 11]) (.ops [.mv 12 3,.ld 13 10 true 5,.call (some 14) 93 [13],.bin 15 .add 12 14,.asg 3 15]))) (.ops [.bin 16 .add 8 (kI 1),.mv 8 16])))))
def aUo:AC:=(.seq (.ops [.mv 17 3,.asg 2 17]) .ret)
def bU2:AC:=(.seq (.ops [.asg 2 (kI 0)]) (.seq (.ops [.asg 3 (kI 0)]) (.seq (.seq (.ops [.mv 6 0,.len 7 6,.mv 8 (kI 0)]) (.block 0 aJ5)) aUo)))
theorem bI9:aV Tryz.prog 52=some (bU2,[.mv 0 2],18):=by kernel_rfl
def aTq (r:Int):Exit→St→Prop:=aU [.mv 0 2] fun x _=>x=(fun y=>(vI y)) r
def bAn (r:Int):Exit→St→Prop:=(bF (wkK (avc Tryz.prog aUo (aTq r))) (aTq r))
def bQj (r:Int):Exit→St→Prop:=(bG 0 (bAn r))
def bY2 (p0:(List aA)) (x3:Int) (x8:Int):St:=⟨[(3,(vI x3)),(6,(bN p0)),(7,(vI (p0.length:Int))),(8,(vI x8))],[]⟩
abbrev aD2 (p0:(List aA)) (x3:Int) (x8:Int) (r:Int):Prop:=avc Tryz.prog aJ5 (bQj r) (bY2 p0 x3 x8)
def aHo:AC:=(.loop (.seq (.ops [.bin 14 .lss 13 12]) (.seq (.cond 14 .skip (.exit 0)) (.seq (.block 1 (.seq (.ops [.ia 15 8 11 13,.ld 16 8 true 15,.alc 5 yA,.st 8 5 16]) (.ops [.mv 17 3,.ld 18 8 true 5,.call (some 19) 87 [18],.bin 20 .add 17 19,.asg 3 20]))) (.ops [.bin 21 .add 13 (kI 1),.mv 13 21])))))
def aWo:AC:=(.seq (.ops [.mv 22 3,.asg 2 22]) .ret)
def bAv:AC:=(.seq (.ops [.box 1 97 0,.asg 2 (kI 0)]) (.seq (.ops [.fa 6 8 1,.ld 7 1 false 6,.call (some 8) 52 [7],.bin 9 .add (kI 1) 8,.asg 3 9]) (.seq (.seq (.ops [.fa 10 9 1,.ld 11 1 false 10,.len 12 11,.mv 13 (kI 0)]) (.block 0 aHo)) aWo)))
theorem bGb:aV Tryz.prog 93=some (bAv,[.mv 0 2],23):=by kernel_rfl
def aRr (r:Int):Exit→St→Prop:=aU [.mv 0 2] fun x _=>x=(fun y=>(vI y)) r
def bQ3 (r:Int):Exit→St→Prop:=(bF (wkK (avc Tryz.prog aWo (aRr r))) (aRr r))
def bE0 (r:Int):Exit→St→Prop:=(bG 0 (bQ3 r))
def bSc (p0:aA) (x3:Int) (x13:Int):St:=⟨[(3,(vI x3)),(11,(eH p0.sub)),(12,(vI (p0.sub.length:Int))),(13,(vI x13))],[]⟩
abbrev aEc (p0:aA) (x3:Int) (x13:Int) (r:Int):Prop:=avc Tryz.prog aHo (bE0 r) (bSc p0 x3 x13)
def aLc:AC:=(.loop (.seq (.ops [.bin 9 .lss 8 7]) (.seq (.cond 9 .skip (.exit 0)) (.seq (.block 1 (.seq (.ops [.mv 10 8,.ia 11 2 6 8,.ld 12 2 true 11,.alc 4 [fQ,(.nil 2)],.asg 3 10,.st 2 4 12]) (.seq (.ops [.ld 13 2 true 4,.call (some 14) 89 [13],.not 15 14,.mv 16 15,.g 16 false (.ld 17 1 true 1),.g 16 false (.fa 18 0 4),.g 16 false (.ld 19 1 false 18),.g 16 false (.call (some 20) 90 [17,19]),.g 16 false (.mv 21 3),.g 16 false (.bin 22 .neq 20 21),.pick 23 16 (kB true) 22]) (.cond 23 (.seq (.ops [.asg 2 (kB false)]) .ret) .skip)))) (.ops [.bin 24 .add 8 (kI 1),.mv 8 24])))))
def bAa:AC:=(.seq (.ops [.fa 25 0 1,.ld 26 1 false 25,.len 27 26,.bin 28 .leq 27 (kI 4),.asg 2 28]) .ret)
def bRg:AC:=(.seq (.ops [.box 1 39 0,.asg 2 (kB false)]) (.seq (.seq (.ops [.fa 5 0 1,.ld 6 1 false 5,.len 7 6,.mv 8 (kI 0)]) (.block 0 aLc)) bAa))
theorem bLj:aV Tryz.prog 47=some (bRg,[.mv 0 2],29):=by kernel_rfl
def aV3 (r:Bool):Exit→St→Prop:=aU [.mv 0 2] fun x _=>x=(fun y=>(vB y)) r
def cC0 (r:Bool):Exit→St→Prop:=(bF (wkK (avc Tryz.prog bAa (aV3 r))) (aV3 r))
def bRx (r:Bool):Exit→St→Prop:=(bG 0 (cC0 r))
def bCm (p0:aJ) (x8:Int):St:=⟨[(1,(.ptr 1 0)),(6,(iI p0.tables)),(7,(vI (p0.tables.length:Int))),(8,(vI x8))],[(1,dJ p0)]⟩
abbrev aDe (p0:aJ) (x8:Int) (r:Bool):Prop:=avc Tryz.prog aLc (bRx r) (bCm p0 x8)
def aNs:AC:=(.loop (.seq (.ops [.bin 9 .lss 8 7]) (.seq (.cond 9 .skip (.exit 0)) (.seq (.block 1 (.seq (.ops [.mv 10 8,.ia 11 2 6 8,.ld 12 2 true 11,.alc 4 [fQ,bQ],.asg 3 10,.st 2 4 12]) (.seq (.ops [.fa 13 0 4,.ld 14 1 false 13,.call (some 15) 121 [14],.not 16 15,.mv 17 16,.g 17 false (.fa 18 1 4),.g 17 false (.ld 19 1 false 18),.g 17 false (.bin 20 .lss 19 (kI 1)),.pick 21 17 (kB true) 20,.mv 22 21,.g 22 false (.fa 23 1 4),.g 22 false (.ld 24 1 false 23),.g 22 false (.bin 25 .gtr 24 (kI 3)),.pick 26 22 (kB true) 25,.mv 27 26,.g 27 false (.ld 28 2 true 1),.g 27 false (.fa 29 0 4),.g 27 false (.ld 30 1 false 29),.g 27 false (.call (some 31) 122 [28,30]),.g 27 false (.mv 32 3),.g 27 false (.bin 33 .neq 31 32),.pick 34 27 (kB true) 33]) (.cond 34 (.seq (.ops [.asg 2 (kB false)]) .ret) .skip)))) (.ops [.bin 35 .add 8 (kI 1),.mv 8 35])))))
def aOy:AC:=(.seq (.ops [.fa 36 0 1,.ld 37 1 false 36,.call (some 38) 121 [37],.mv 39 38,.g 39 true (.fa 40 1 1),.g 39 true (.ld 41 1 false 40),.g 39 true (.len 42 41),.g 39 true (.bin 43 .geq 42 (kI 1)),.pick 44 39 43 (kB false),.mv 45 44,.g 45 true (.fa 46 1 1),.g 45 true (.ld 47 1 false 46),.g 45 true (.len 48 47),.g 45 true (.bin 49 .leq 48 (kI 4)),.pick 50 45 49 (kB false),.asg 2 50]) .ret)
def bF5:AC:=(.seq (.ops [.box 1 87 0,.asg 2 (kB false)]) (.seq (.seq (.ops [.fa 5 1 1,.ld 6 1 false 5,.len 7 6,.mv 8 (kI 0)]) (.block 0 aNs)) aOy))
theorem bZ4:aV Tryz.prog 89=some (bF5,[.mv 0 2],51):=by kernel_rfl
def aUb (r:Bool):Exit→St→Prop:=aU [.mv 0 2] fun x _=>x=(fun y=>(vB y)) r
def bHm (r:Bool):Exit→St→Prop:=(bF (wkK (avc Tryz.prog aOy (aUb r))) (aUb r))
def bPn (r:Bool):Exit→St→Prop:=(bG 0 (bHm r))
def bPf (p0:bD) (x8:Int):St:=⟨[(1,(.ptr 1 0)),(6,(iA p0.cols)),(7,(vI (p0.cols.length:Int))),(8,(vI x8))],[(1,Q5 p0)]⟩
abbrev aGi (p0:bD) (x8:Int) (r:Bool):Prop:=avc Tryz.prog aNs (bPn r) (bPf p0 x8)
def bOq:AC:=(.seq (.ops [.box 2 87 0,.box 3 9 1,.asg 4 (kI 0)]) (.seq (.ops [.fa 5 1 2,.ld 6 1 false 5,.mkf 7 146 [3],.call (some 8) 145 [6,7],.asg 4 8]) .ret))
theorem bSf:aV Tryz.prog 122=some (bOq,[.mv 0 4],9):=by kernel_rfl
def cH6 (r:Int):Exit→St→Prop:=aU [.mv 0 4] fun x _=>x=(fun y=>(vI y)) r
def aLm:AC:=(.loop (.seq (.ops [.bin 9 .lss 8 7]) (.seq (.cond 9 .skip (.exit 0)) (.seq (.block 1 (.seq (.ops [.mv 10 8,.asg 5 10]) (.seq (.ops [.mv 11 1,.mv 12 0,.mv 13 5,.ia 14 2 12 13,.ld 15 2 true 14,.callv (some 16) 11 [15]]) (.cond 16 (.seq (.ops [.mv 17 5,.asg 4 17]) .ret) .skip)))) (.ops [.bin 18 .add 8 (kI 1),.mv 8 18])))))
def aX4:AC:=(.seq (.ops [.asg 4 (kI (-1))]) .ret)
def bW7:AC:=(.seq (.ops [.asg 4 (kI 0)]) (.seq (.seq (.ops [.mv 6 0,.len 7 6,.mv 8 (kI 0)]) (.block 0 aLm)) aX4))
theorem bCv:aV Tryz.prog 145=some (bW7,[.mv 0 4],19):=by kernel_rfl
def aZa (c0_0:(List UInt8)) (r:Int):Exit→St→Prop:=aU [.mv 0 4] fun x b=>x=(fun (y:Int)=>(vI y)) r∧eD ((fun (y:Int)=>[(1000000,[(vS c0_0)])]) r) b
def bM2 (c0_0:(List UInt8)) (r:Int):Exit→St→Prop:=(bF (wkK (avc Tryz.prog aX4 (aZa c0_0 r))) (aZa c0_0 r))
def bLl (c0_0:(List UInt8)) (r:Int):Exit→St→Prop:=(bG 0 (bM2 c0_0 r))
def bU0 (p0:(List bL)) (c0_0:(List UInt8)) (x8:Int):St:=⟨[(0,(iA p0)),(1,(.fn 146 [(.ptr 1000000 0)])),(7,(vI (p0.length:Int))),(8,(vI x8))],[(1000000,[(vS c0_0)])]⟩
abbrev aFb (p0:(List bL)) (c0_0:(List UInt8)) (x8:Int) (r:Int):Prop:=avc Tryz.prog aLm (bLl c0_0 r) (bU0 p0 c0_0 x8)
def bGu:AC:=(.seq (.ops [.box 2 121 0,.asg 3 (kB false)]) (.seq (.ops [.fa 4 0 2,.ld 5 1 false 4,.ld 6 1 false 1,.bin 7 .eql 5 6,.asg 3 7]) .ret))
theorem bC0:aV Tryz.prog 146=some (bGu,[.mv 0 3],8):=by kernel_rfl
def cHe (c0_0:(List UInt8)) (r:Bool):Exit→St→Prop:=aU [.mv 0 3] fun x b=>x=(fun (y:Bool)=>(vB y)) r∧eD ((fun (y:Bool)=>[(1000000,[(vS c0_0)])]) r) b
def cAt:AC:=(.seq (.ops [.box 2 39 0,.box 3 9 1,.asg 4 (kI 0)]) (.seq (.ops [.fa 5 0 2,.ld 6 1 false 5,.mkf 7 124 [3],.call (some 8) 123 [6,7],.asg 4 8]) .ret))
theorem bJb:aV Tryz.prog 90=some (cAt,[.mv 0 4],9):=by kernel_rfl
def cHi (r:Int):Exit→St→Prop:=aU [.mv 0 4] fun x _=>x=(fun y=>(vI y)) r
def aLr:AC:=(.loop (.seq (.ops [.bin 9 .lss 8 7]) (.seq (.cond 9 .skip (.exit 0)) (.seq (.block 1 (.seq (.ops [.mv 10 8,.asg 5 10]) (.seq (.ops [.mv 11 1,.mv 12 0,.mv 13 5,.ia 14 2 12 13,.ld 15 2 true 14,.callv (some 16) 11 [15]]) (.cond 16 (.seq (.ops [.mv 17 5,.asg 4 17]) .ret) .skip)))) (.ops [.bin 18 .add 8 (kI 1),.mv 8 18])))))
def aRy:AC:=(.seq (.ops [.asg 4 (kI (-1))]) .ret)
def bLg:AC:=(.seq (.ops [.asg 4 (kI 0)]) (.seq (.seq (.ops [.mv 6 0,.len 7 6,.mv 8 (kI 0)]) (.block 0 aLr)) aRy))
theorem bS5:aV Tryz.prog 123=some (bLg,[.mv 0 4],19):=by kernel_rfl
def aVi (c0_0:(List UInt8)) (r:Int):Exit→St→Prop:=aU [.mv 0 4] fun x b=>x=(fun (y:Int)=>(vI y)) r∧eD ((fun (y:Int)=>[(1000000,[(vS c0_0)])]) r) b
def bIc (c0_0:(List UInt8)) (r:Int):Exit→St→Prop:=(bF (wkK (avc Tryz.prog aRy (aVi c0_0 r))) (aVi c0_0 r))
def bBv (c0_0:(List UInt8)) (r:Int):Exit→St→Prop:=(bG 0 (bIc c0_0 r))
def bWr (p0:(List bD)) (c0_0:(List UInt8)) (x8:Int):St:=⟨[(0,(iI p0)),(1,(.fn 124 [(.ptr 1000000 0)])),(7,(vI (p0.length:Int))),(8,(vI x8))],[(1000000,[(vS c0_0)])]⟩
abbrev aCy (p0:(List bD)) (c0_0:(List UInt8)) (x8:Int) (r:Int):Prop:=avc Tryz.prog aLr (bBv c0_0 r) (bWr p0 c0_0 x8)
def bP8:AC:=(.seq (.ops [.box 2 87 0,.asg 3 (kB false)]) (.seq (.ops [.fa 4 0 2,.ld 5 1 false 4,.ld 6 1 false 1,.bin 7 .eql 5 6,.asg 3 7]) .ret))
theorem bPy:aV Tryz.prog 124=some (bP8,[.mv 0 3],8):=by kernel_rfl
def cEm (c0_0:(List UInt8)) (r:Bool):Exit→St→Prop:=aU [.mv 0 3] fun x b=>x=(fun (y:Bool)=>(vB y)) r∧eD ((fun (y:Bool)=>[(1000000,[(vS c0_0)])]) r) b
def aJl:AC:=(.loop (.seq (.ops [.bin 32 .lss 31 30]) (.seq (.cond 32 .skip (.exit 0)) (.seq (.block 1 (.seq (.ops [.mv 33 31,.ia 34 1 29 31,.ld 35 1 false 34,.asg 7 33,.asg 8 35]) (.seq (.dops [[],[0],[1],[2],[2],[4,2],[3,5,2],[2,6],[7,2],[8],[9,8],[8],[10,11,8],[8],[12,13,8,8],[8,14],[15,14],[16],[16],[18,16],[16],[20,16],[16],[21,22,16],[23,16],[16],[16],[25,26,16],[27,16],[17,19,24,28,16,16],[29,16],[16,30]] [.mv 36 8,.bin 37 .lss 36 (kI 0),.mv 38 37,.g 38 false (.mv 39 8),.g 38 false (.mv 40 1),.g 38 false (.len 41 40),.g 38 false (.bin 42 .geq 39 41),.pick 43 38 (kB true) 42,.mv 44 43,.g 44 false (.fa 45 11 5),.g 44 false (.ld 46 1 false 45),.g 44 false (.mv 47 7),.g 44 false (.slc 48 1 46 none (some 47) none),.g 44 false (.mv 49 8),.g 44 false (.call (some 50) 99 [48,49]),.pick 51 44 (kB true) 50,.mv 52 51,.g 52 false (.ld 53 1 true 3),.g 52 false (.mv 54 1),.g 52 false (.bsl 55 25 1 [54]),.g 52 false (.fa 56 12 5),.g 52 false (.ld 57 1 false 56),.g 52 false (.mv 58 7),.g 52 false (.ia 59 10 57 58),.g 52 false (.ld 60 10 true 59),.g 52 false (.mv 61 1),.g 52 false (.mv 62 8),.g 52 false (.ia 63 1 61 62),.g 52 false (.ld 64 1 false 63),.g 52 false (.call (some 65) 94 [53,55,60,64]),.g 52 false (.not 66 65),.pick 67 52 (kB true) 66]) (.cond 67 (.seq (.ops [.asg 6 (kB false)]) .ret) .skip)))) (.ops [.bin 68 .add 31 (kI 1),.mv 31 68])))))
def aVe:AC:=(.seq (.ops [.asg 6 (kB true)]) .ret)
def bAh:AC:=(.seq (.ops [.box 3 39 0,.box 5 47 2,.asg 6 (kB false)]) (.seq (.seq (.ops [.fa 9 11 5,.ld 10 1 false 9,.len 11 10,.bin 12 .lss 11 (kI 1),.mv 13 12,.g 13 false (.fa 14 11 5),.g 13 false (.ld 15 1 false 14),.g 13 false (.len 16 15),.g 13 false (.bin 17 .gtr 16 (kI 12)),.pick 18 13 (kB true) 17,.mv 19 18,.g 19 false (.fa 20 12 5),.g 19 false (.ld 21 1 false 20),.g 19 false (.len 22 21),.g 19 false (.fa 23 11 5),.g 19 false (.ld 24 1 false 23),.g 19 false (.len 25 24),.g 19 false (.bin 26 .neq 22 25),.pick 27 19 (kB true) 26]) (.cond 27 (.seq (.ops [.asg 6 (kB false)]) .ret) .skip)) (.seq (.seq (.ops [.fa 28 11 5,.ld 29 1 false 28,.len 30 29,.mv 31 (kI 0)]) (.block 0 aJl)) aVe)))
theorem bCx:aV Tryz.prog 56=some (bAh,[.mv 0 6],69):=by kernel_rfl
def aRm (r:Bool):Exit→St→Prop:=aU [.mv 0 6] fun x _=>x=(fun y=>(vB y)) r
def bGz (r:Bool):Exit→St→Prop:=(bF (wkK (avc Tryz.prog aVe (aRm r))) (aRm r))
def bNm (r:Bool):Exit→St→Prop:=(bG 0 (bGz r))
def bR2 (p1:(List Int)) (p2:bM) (p0:aJ) (x31:Int):St:=⟨[(1,(bX p1)),(3,(.ptr 3 0)),(5,(.ptr 5 0)),(29,(bX p2.cols)),(30,(vI (p2.cols.length:Int))),(31,(vI x31))],[(3,dJ p0),(5,K7 p2)]⟩
abbrev aGv (p1:(List Int)) (p2:bM) (p0:aJ) (x31:Int) (r:Bool):Prop:=avc Tryz.prog aJl (bNm r) (bR2 p1 p2 p0 x31)
def bZ1:AC:=(.seq (.ops [.box 4 39 0,.box 6 97 2,.asg 8 (kB false)]) (.seq (.ops [.ld 12 1 true 4,.mv 13 1,.ld 14 10 true 6,.call (some 15) 97 [12,13,14],.mv 11 15,.ext 16 11 0,.ext 17 11 1,.asg 9 16,.asg 10 17]) (.seq (.seq (.ops [.mv 18 10,.not 19 18]) (.cond 19 (.seq (.ops [.asg 8 (kB false)]) .ret) .skip)) (.seq (.ops [.mv 21 9,.mv 22 3,.call (some 23) 132 [21,22],.mv 20 23,.ext 24 20 0,.ext 25 20 1,.asg 10 25]) (.seq (.ops [.mv 26 10,.asg 8 26]) .ret)))))
theorem bYz:aV Tryz.prog 94=some (bZ1,[.mv 0 8],27):=by kernel_rfl
def cId (r:Bool):Exit→St→Prop:=aU [.mv 0 8] fun x _=>x=(fun y=>(vB y)) r
def bSe:AC:=(.seq (.ops [.asg 4 (kB false)]) (.seq (.ops [.mv 5 0,.mv 6 1,.call (some 7) 136 [5,6],.bin 8 .geq 7 (kI 0),.asg 4 8]) .ret))
theorem bCh:aV Tryz.prog 99=some (bSe,[.mv 0 4],9):=by kernel_rfl
def cHb (r:Bool):Exit→St→Prop:=aU [.mv 0 4] fun x _=>x=(fun y=>(vB y)) r
def aKs:AC:=(.loop (.seq (.ops [.bin 9 .lss 8 7]) (.seq (.cond 9 .skip (.exit 0)) (.seq (.block 1 (.seq (.ops [.mv 10 8,.asg 5 10]) (.seq (.ops [.mv 11 1,.mv 12 0,.mv 13 5,.ia 14 1 12 13,.ld 15 1 false 14,.bin 16 .eql 11 15]) (.cond 16 (.seq (.ops [.mv 17 5,.asg 4 17]) .ret) .skip)))) (.ops [.bin 18 .add 8 (kI 1),.mv 8 18])))))
def bAc:AC:=(.seq (.ops [.asg 4 (kI (-1))]) .ret)
def bUw:AC:=(.seq (.ops [.asg 4 (kI 0)]) (.seq (.seq (.ops [.mv 6 0,.len 7 6,.mv 8 (kI 0)]) (.block 0 aKs)) bAc))
theorem bZ7:aV Tryz.prog 136=some (bUw,[.mv 0 4],19):=by kernel_rfl
def aWl (r:Int):Exit→St→Prop:=aU [.mv 0 4] fun x _=>x=(fun y=>(vI y)) r
def bTo (r:Int):Exit→St→Prop:=(bF (wkK (avc Tryz.prog bAc (aWl r))) (aWl r))
def bXu (r:Int):Exit→St→Prop:=(bG 0 (bTo r))
def bUx (p0:(List Int)) (p1:Int) (x8:Int):St:=⟨[(0,(bX p0)),(1,(vI p1)),(7,(vI (p0.length:Int))),(8,(vI x8))],[]⟩
abbrev aD7 (p0:(List Int)) (p1:Int) (x8:Int) (r:Int):Prop:=avc Tryz.prog aKs (bXu r) (bUx p0 p1 x8)
def aLq:AC:=(.loop (.seq (.ops [.bin 25 .lss 24 23]) (.seq (.cond 25 .skip (.exit 2)) (.seq (.block 3 (.seq (.ops [.mv 26 24,.ia 27 10 22 24,.ld 28 10 true 27,.alc 10 qP,.asg 9 26,.st 10 10 28]) (.seq (.dops [[],[],[],[],[2,3],[4],[0,1,5],[6]] [.ld 29 1 true 3,.ld 30 10 true 10,.mv 31 1,.mv 32 9,.ia 33 1 31 32,.ld 34 1 false 33,.call (some 35) 94 [29,(.c (.nil 1)),30,34],.not 36 35]) (.cond 36 (.seq (.ops [.asg 6 (kB false)]) .ret) .skip)))) (.ops [.bin 37 .add 24 (kI 1),.mv 24 37])))))
def aUp:AC:=(.ops [.bin 38 .add 13 (kI 1),.mv 13 38])
def aFt:AC:=(.loop (.seq (.ops [.bin 14 .lss 13 12]) (.seq (.cond 14 .skip (.exit 0)) (.seq (.block 1 (.seq (.ops [.ia 15 1 11 13,.ld 16 1 false 15,.asg 8 16]) (.seq (.seq (.ops [.mv 17 8,.len 18 17,.mv 19 1,.len 20 19,.bin 21 .neq 18 20]) (.cond 21 (.seq (.ops [.asg 6 (kB false)]) .ret) .skip)) (.seq (.ops [.mv 22 8,.len 23 22,.mv 24 (kI 0)]) (.block 2 aLq))))) aUp))))
def aZ1:AC:=(.seq (.ops [.mv 39 2,.len 40 39,.bin 41 .geq 40 (kI 1),.mv 42 41,.g 42 true (.mv 43 2),.g 42 true (.len 44 43),.g 42 true (.bin 45 .leq 44 (kI 5)),.pick 46 42 45 (kB false),.asg 6 46]) .ret)
def bUf:AC:=(.seq (.ops [.box 3 39 0,.asg 6 (kB false)]) (.seq (.seq (.ops [.mv 11 2,.len 12 11,.mv 13 (kI 0)]) (.block 0 aFt)) aZ1))
theorem bZz:aV Tryz.prog 54=some (bUf,[.mv 0 6],47):=by kernel_rfl
def aVq (r:Bool):Exit→St→Prop:=aU [.mv 0 6] fun x _=>x=(fun y=>(vB y)) r
def bR1 (r:Bool):Exit→St→Prop:=(bF (wkK (avc Tryz.prog aZ1 (aVq r))) (aVq r))
def aHt (r:Bool):Exit→St→Prop:=(bG 0 (bR1 r))
def aPr (r:Bool):Exit→St→Prop:=(bF (avc Tryz.prog aFt (aHt r)) (aHt r))
def bD9 (r:Bool):Exit→St→Prop:=(bF (wkK (avc Tryz.prog aUp (aPr r))) (aPr r))
def bIh (r:Bool):Exit→St→Prop:=(bG 1 (bD9 r))
def bKa (r:Bool):Exit→St→Prop:=(bG 2 (bIh r))
def bX3 (p1:(List Int)) (p2:(List (List aA))) (p0:aJ) (x13:Int):St:=⟨[(1,(bX p1)),(2,(.d (.sl 1 (p2.map (cSl 10 aZ))))),(3,(.ptr 3 0)),(11,(.d (.sl 1 (p2.map (cSl 10 aZ))))),(12,(vI (p2.length:Int))),(13,(vI x13))],[(3,dJ p0)]⟩
abbrev aE3 (p1:(List Int)) (p2:(List (List aA))) (p0:aJ) (x13:Int) (r:Bool):Prop:=avc Tryz.prog aFt (aHt r) (bX3 p1 p2 p0 x13)
def bEw (p1:(List Int)) (p2:(List (List aA))) (x13:Int) (y1:(List aA)) (p0:aJ) (x24:Int):St:=⟨[(1,(bX p1)),(2,(.d (.sl 1 (p2.map (cSl 10 aZ))))),(3,(.ptr 3 0)),(11,(.d (.sl 1 (p2.map (cSl 10 aZ))))),(12,(vI (p2.length:Int))),(13,(vI x13)),(22,(bN y1)),(23,(vI (y1.length:Int))),(24,(vI x24))],[(3,dJ p0)]⟩
abbrev aEg (p1:(List Int)) (p2:(List (List aA))) (x13:Int) (y1:(List aA)) (p0:aJ) (x24:Int) (r:Bool):Prop:=avc Tryz.prog aLq (bKa r) (bEw p1 p2 x13 y1 p0 x24)
def aI8:AC:=(.loop (.seq (.ops [.bin 11 .lss 10 9]) (.seq (.cond 11 .skip (.exit 0)) (.seq (.block 1 (.seq (.ops [.ia 12 1 8 10,.ld 13 1 false 12,.asg 5 13]) (.ops [.mv 14 3,.mv 15 5,.app 16 97 10 120 14 15,.asg 3 16]))) (.ops [.bin 17 .add 10 (kI 1),.mv 10 17])))))
def aVb:AC:=(.seq (.ops [.mv 18 3,.fa 19 12 1,.ld 20 1 false 19,.app 21 97 10 120 18 20,.asg 3 21]) (.seq (.ops [.mv 22 3,.fa 23 13 1,.ld 24 1 false 23,.app 25 97 10 120 22 24,.asg 2 25]) .ret))
def bXw:AC:=(.seq (.ops [.box 1 47 0,.asg 2 (.c (.nil 10))]) (.seq (.ops [.bsl 6 97 10 [],.asg 3 6]) (.seq (.seq (.ops [.fa 7 10 1,.ld 8 1 false 7,.len 9 8,.mv 10 (kI 0)]) (.block 0 aI8)) aVb)))
theorem bUa:aV Tryz.prog 51=some (bXw,[.mv 0 2],26):=by kernel_rfl
def aZb (r:(List aA)):Exit→St→Prop:=aU [.mv 0 2] fun x _=>x=(fun y=>(bN y)) r
def bHu (r:(List aA)):Exit→St→Prop:=(bF (wkK (avc Tryz.prog aVb (aZb r))) (aZb r))
def bOi (r:(List aA)):Exit→St→Prop:=(bG 0 (bHu r))
def bOc (p0:bM) (x3:(List aA)) (x10:Int):St:=⟨[(1,(.ptr 1 0)),(3,(.osl 3 97 10 (x3.map aZ))),(8,(.d (.sl 1 (p0.rows.map (cSl 10 aZ))))),(9,(vI (p0.rows.length:Int))),(10,(vI x10))],[(1,K7 p0)]⟩
abbrev aE5 (p0:bM) (x3:(List aA)) (x10:Int) (r:(List aA)):Prop:=avc Tryz.prog aI8 (bOi r) (bOc p0 x3 x10)
def bBi:AC:=(.seq (.ops [.box 1 45 0,.asg 2 (kB false)]) (.seq (.ops [.ld 3 8 true 1,.bld 4 [(.nil 1),(.nil 1),(.nil 10),(.nil 11),(.nil 10),(.nil 1),cK,bQ] [],.call (some 5) 91 [3,4],.asg 2 5]) .ret))
theorem bV6:aV Tryz.prog 48=some (bBi,[.mv 0 2],6):=by kernel_rfl
def cF8 (r:Bool):Exit→St→Prop:=aU [.mv 0 2] fun x _=>x=(fun y=>(vB y)) r
def bKf:AC:=(.seq (.ops [.box 2 45 0,.box 3 45 1,.asg 4 (kB false)]) (.seq (.ops [.asg 5 (.c (.fn 125 []))]) (.seq (.ops [.fa 6 0 2,.ld 7 1 false 6,.fa 8 0 3,.ld 9 1 false 8,.call (some 10) 127 [7,9],.mv 11 10,.g 11 true (.fa 12 1 2),.g 11 true (.ld 13 1 false 12),.g 11 true (.fa 14 1 3),.g 11 true (.ld 15 1 false 14),.g 11 true (.call (some 16) 128 [13,15,(.c (.fn 129 []))]),.pick 17 11 16 (kB false),.mv 18 17,.g 18 true (.fa 19 2 2),.g 18 true (.ld 20 1 false 19),.g 18 true (.fa 21 2 3),.g 18 true (.ld 22 1 false 21),.g 18 true (.call (some 23) 129 [20,22]),.pick 24 18 23 (kB false),.mv 25 24,.g 25 true (.fa 26 3 2),.g 25 true (.ld 27 1 false 26),.g 25 true (.fa 28 3 3),.g 25 true (.ld 29 1 false 28),.g 25 true (.mv 30 5),.g 25 true (.call (some 31) 130 [27,29,30]),.pick 32 25 31 (kB false),.mv 33 32,.g 33 true (.fa 34 4 2),.g 33 true (.ld 35 1 false 34),.g 33 true (.fa 36 4 3),.g 33 true (.ld 37 1 false 36),.g 33 true (.call (some 38) 129 [35,37]),.pick 39 33 38 (kB false),.mv 40 39,.g 40 true (.fa 41 5 2),.g 40 true (.ld 42 1 false 41),.g 40 true (.fa 43 5 3),.g 40 true (.ld 44 1 false 43),.g 40 true (.call (some 45) 131 [42,44]),.pick 46 40 45 (kB false),.mv 47 46,.g 47 true (.fa 48 6 2),.g 47 true (.ld 49 1 false 48),.g 47 true (.fa 50 6 3),.g 47 true (.ld 51 1 false 50),.g 47 true (.eqb 52 false 49 51),.pick 53 47 52 (kB false),.mv 54 53,.g 54 true (.fa 55 7 2),.g 54 true (.ld 56 1 false 55),.g 54 true (.fa 57 7 3),.g 54 true (.ld 58 1 false 57),.g 54 true (.bin 59 .eql 56 58),.pick 60 54 59 (kB false),.asg 4 60]) .ret)))
theorem bMn:aV Tryz.prog 91=some (bKf,[.mv 0 4],61):=by kernel_rfl
def cEw (r:Bool):Exit→St→Prop:=aU [.mv 0 4] fun x _=>x=(fun y=>(vB y)) r
def aIy:AC:=(.loop (.seq (.ops [.bin 18 .lss 17 16]) (.seq (.cond 18 .skip (.exit 0)) (.seq (.block 1 (.seq (.ops [.mv 19 17,.ia 20 11 15 17,.ld 21 11 true 20,.alc 8 J5,.asg 7 19,.st 11 8 21]) (.seq (.ops [.mv 22 1,.mv 23 7,.ia 24 11 22 23,.ld 25 11 true 24,.alc 9 J5,.st 11 9 25]) (.seq (.ops [.mv 26 2,.ld 27 11 true 8,.ld 28 11 true 9,.callv (some 29) 26 [27,28],.not 30 29]) (.cond 30 (.seq (.ops [.asg 6 (kB false)]) .ret) .skip))))) (.ops [.bin 31 .add 17 (kI 1),.mv 17 31])))))
def aQo:AC:=(.seq (.ops [.asg 6 (kB true)]) .ret)
def bL2:AC:=(.seq (.ops [.asg 6 (kB false)]) (.seq (.seq (.ops [.mv 10 0,.len 11 10,.mv 12 1,.len 13 12,.bin 14 .neq 11 13]) (.cond 14 (.seq (.ops [.asg 6 (kB false)]) .ret) .skip)) (.seq (.seq (.ops [.mv 15 0,.len 16 15,.mv 17 (kI 0)]) (.block 0 aIy)) aQo)))
theorem bQp:aV Tryz.prog 130=some (bL2,[.mv 0 6],32):=by kernel_rfl
def aWf (r:Bool):Exit→St→Prop:=aU [.mv 0 6] fun x _=>x=(fun y=>(vB y)) r
def bNz (r:Bool):Exit→St→Prop:=(bF (wkK (avc Tryz.prog aQo (aWf r))) (aWf r))
def bTm (r:Bool):Exit→St→Prop:=(bG 0 (bNz r))
def cCt (p1:(List aY)) (p0:(List aY)) (x17:Int):St:=⟨[(1,(eP p1)),(2,(.fn 125 [])),(15,(eP p0)),(16,(vI (p0.length:Int))),(17,(vI x17))],[]⟩
abbrev aDf (p1:(List aY)) (p0:(List aY)) (x17:Int) (r:Bool):Prop:=avc Tryz.prog aIy (bTm r) (cCt p1 p0 x17)
def bRq:AC:=(.seq (.ops [.box 2 124 0,.box 3 124 1,.asg 4 (kB false)]) (.seq (.ops [.fa 5 10 2,.ld 6 1 false 5,.fa 7 10 3,.ld 8 1 false 7,.eqb 9 false 6 8,.mv 10 9,.g 10 true (.fa 11 0 2),.g 10 true (.ld 12 10 true 11),.g 10 true (.fa 13 0 3),.g 10 true (.ld 14 10 true 13),.g 10 true (.call (some 15) 126 [12,14]),.pick 16 10 15 (kB false),.asg 4 16]) .ret))
theorem cBc:aV Tryz.prog 125=some (bRq,[.mv 0 4],17):=by kernel_rfl
def cGm (r:Bool):Exit→St→Prop:=aU [.mv 0 4] fun x _=>x=(fun y=>(vB y)) r
def bB8:AC:=(.seq (.ops [.box 2 97 0,.box 3 97 1,.asg 4 (kB false)]) (.seq (.ops [.fa 5 0 2,.ld 6 1 false 5,.fa 7 0 3,.ld 8 1 false 7,.bin 9 .eql 6 8,.mv 10 9,.g 10 true (.fa 11 1 2),.g 10 true (.ld 12 1 false 11),.g 10 true (.fa 13 1 3),.g 10 true (.ld 14 1 false 13),.g 10 true (.bin 15 .eql 12 14),.pick 16 10 15 (kB false),.mv 17 16,.g 17 true (.fa 18 2 2),.g 17 true (.ld 19 1 false 18),.g 17 true (.fa 20 2 3),.g 17 true (.ld 21 1 false 20),.g 17 true (.eqb 22 false 19 21),.pick 23 17 22 (kB false),.mv 24 23,.g 24 true (.fa 25 3 2),.g 24 true (.ld 26 3 true 25),.g 24 true (.fa 27 3 3),.g 24 true (.ld 28 3 true 27),.g 24 true (.eqv 29 false [0,0,1] 26 28),.pick 30 24 29 (kB false),.mv 31 30,.g 31 true (.fa 32 6 2),.g 31 true (.ld 33 1 false 32),.g 31 true (.fa 34 6 3),.g 31 true (.ld 35 1 false 34),.g 31 true (.bin 36 .eql 33 35),.pick 37 31 36 (kB false),.mv 38 37,.g 38 true (.fa 39 7 2),.g 38 true (.ld 40 1 false 39),.g 38 true (.fa 41 7 3),.g 38 true (.ld 42 1 false 41),.g 38 true (.bin 43 .eql 40 42),.pick 44 38 43 (kB false),.mv 45 44,.g 45 true (.fa 46 8 2),.g 45 true (.ld 47 1 false 46),.g 45 true (.fa 48 8 3),.g 45 true (.ld 49 1 false 48),.g 45 true (.call (some 50) 129 [47,49]),.pick 51 45 50 (kB false),.mv 52 51,.g 52 true (.fa 53 9 2),.g 52 true (.ld 54 1 false 53),.g 52 true (.fa 55 9 3),.g 52 true (.ld 56 1 false 55),.g 52 true (.call (some 57) 147 [54,56,(.c (.fn 91 []))]),.pick 58 52 57 (kB false),.asg 4 58]) .ret))
theorem cC8:aV Tryz.prog 126=some (bB8,[.mv 0 4],59):=by kernel_rfl
def cF3 (r:Bool):Exit→St→Prop:=aU [.mv 0 4] fun x _=>x=(fun y=>(vB y)) r
def bVp:AC:=(.seq (.ops [.asg 4 (kB false)]) (.seq (.ops [.mv 5 0,.mv 6 1,.call (some 7) 148 [5,6,(.c (.fn 126 []))],.asg 4 7]) .ret))
theorem bMx:aV Tryz.prog 129=some (bVp,[.mv 0 4],8):=by kernel_rfl
def cFt (r:Bool):Exit→St→Prop:=aU [.mv 0 4] fun x _=>x=(fun y=>(vB y)) r
def aJu:AC:=(.loop (.seq (.ops [.bin 18 .lss 17 16]) (.seq (.cond 18 .skip (.exit 0)) (.seq (.block 1 (.seq (.ops [.mv 19 17,.ia 20 10 15 17,.ld 21 10 true 20,.alc 8 qP,.asg 7 19,.st 10 8 21]) (.seq (.ops [.mv 22 1,.mv 23 7,.ia 24 10 22 23,.ld 25 10 true 24,.alc 9 qP,.st 10 9 25]) (.seq (.ops [.mv 26 2,.ld 27 10 true 8,.ld 28 10 true 9,.callv (some 29) 26 [27,28],.not 30 29]) (.cond 30 (.seq (.ops [.asg 6 (kB false)]) .ret) .skip))))) (.ops [.bin 31 .add 17 (kI 1),.mv 17 31])))))
def aYe:AC:=(.seq (.ops [.asg 6 (kB true)]) .ret)
def bHf:AC:=(.seq (.ops [.asg 6 (kB false)]) (.seq (.seq (.ops [.mv 10 0,.len 11 10,.mv 12 1,.len 13 12,.bin 14 .neq 11 13]) (.cond 14 (.seq (.ops [.asg 6 (kB false)]) .ret) .skip)) (.seq (.seq (.ops [.mv 15 0,.len 16 15,.mv 17 (kI 0)]) (.block 0 aJu)) aYe)))
theorem bZf:aV Tryz.prog 148=some (bHf,[.mv 0 6],32):=by kernel_rfl
def aSl (r:Bool):Exit→St→Prop:=aU [.mv 0 6] fun x _=>x=(fun y=>(vB y)) r
def cBm (r:Bool):Exit→St→Prop:=(bF (wkK (avc Tryz.prog aYe (aSl r))) (aSl r))
def bQk (r:Bool):Exit→St→Prop:=(bG 0 (cBm r))
def bD4 (p1:(List aA)) (p0:(List aA)) (x17:Int):St:=⟨[(1,(bN p1)),(2,(.fn 126 [])),(15,(bN p0)),(16,(vI (p0.length:Int))),(17,(vI x17))],[]⟩
abbrev aEp (p1:(List aA)) (p0:(List aA)) (x17:Int) (r:Bool):Prop:=avc Tryz.prog aJu (bQk r) (bD4 p1 p0 x17)
def aHu:AC:=(.loop (.seq (.ops [.bin 18 .lss 17 16]) (.seq (.cond 18 .skip (.exit 0)) (.seq (.block 1 (.seq (.ops [.mv 19 17,.ia 20 8 15 17,.ld 21 8 true 20,.alc 8 yA,.asg 7 19,.st 8 8 21]) (.seq (.ops [.mv 22 1,.mv 23 7,.ia 24 8 22 23,.ld 25 8 true 24,.alc 9 yA,.st 8 9 25]) (.seq (.ops [.mv 26 2,.ld 27 8 true 8,.ld 28 8 true 9,.callv (some 29) 26 [27,28],.not 30 29]) (.cond 30 (.seq (.ops [.asg 6 (kB false)]) .ret) .skip))))) (.ops [.bin 31 .add 17 (kI 1),.mv 17 31])))))
def aSj:AC:=(.seq (.ops [.asg 6 (kB true)]) .ret)
def bAs:AC:=(.seq (.ops [.asg 6 (kB false)]) (.seq (.seq (.ops [.mv 10 0,.len 11 10,.mv 12 1,.len 13 12,.bin 14 .neq 11 13]) (.cond 14 (.seq (.ops [.asg 6 (kB false)]) .ret) .skip)) (.seq (.seq (.ops [.mv 15 0,.len 16 15,.mv 17 (kI 0)]) (.block 0 aHu)) aSj)))
theorem bIm:aV Tryz.prog 147=some (bAs,[.mv 0 6],32):=by kernel_rfl
def aPg (r:Bool):Exit→St→Prop:=aU [.mv 0 6] fun x _=>x=(fun y=>(vB y)) r
def bJz (r:Bool):Exit→St→Prop:=(bF (wkK (avc Tryz.prog aSj (aPg r))) (aPg r))
def bX7 (r:Bool):Exit→St→Prop:=(bG 0 (bJz r))
def bGl (p1:(List aB)) (p0:(List aB)) (x17:Int):St:=⟨[(1,(eH p1)),(2,(.fn 91 [])),(15,(eH p0)),(16,(vI (p0.length:Int))),(17,(vI x17))],[]⟩
abbrev aCr (p1:(List aB)) (p0:(List aB)) (x17:Int) (r:Bool):Prop:=avc Tryz.prog aHu (bX7 r) (bGl p1 p0 x17)
def aNx:AC:=(.loop (.seq (.ops [.bin 14 .lss 13 12]) (.seq (.cond 14 .skip (.exit 0)) (.seq (.block 1 (.seq (.ops [.mv 15 13,.asg 5 15]) (.seq (.dops [[],[],[0,1],[2],[],[],[4,5],[6],[3,7]] [.mv 16 0,.mv 17 5,.ia 18 1 16 17,.ld 19 1 false 18,.mv 20 1,.mv 21 5,.ia 22 1 20 21,.ld 23 1 false 22,.bin 24 .neq 19 23]) (.cond 24 (.seq (.ops [.asg 4 (kB false)]) .ret) .skip)))) (.ops [.bin 25 .add 13 (kI 1),.mv 13 25])))))
def aU1:AC:=(.seq (.ops [.asg 4 (kB true)]) .ret)
def bJg:AC:=(.seq (.ops [.asg 4 (kB false)]) (.seq (.seq (.ops [.mv 6 0,.len 7 6,.mv 8 1,.len 9 8,.bin 10 .neq 7 9]) (.cond 10 (.seq (.ops [.asg 4 (kB false)]) .ret) .skip)) (.seq (.seq (.ops [.mv 11 0,.len 12 11,.mv 13 (kI 0)]) (.block 0 aNx)) aU1)))
theorem cDk:aV Tryz.prog 127=some (bJg,[.mv 0 4],26):=by kernel_rfl
def aXq (r:Bool):Exit→St→Prop:=aU [.mv 0 4] fun x _=>x=(fun y=>(vB y)) r
def bTx (r:Bool):Exit→St→Prop:=(bF (wkK (avc Tryz.prog aU1 (aXq r))) (aXq r))
def bK9 (r:Bool):Exit→St→Prop:=(bG 0 (bTx r))
def bSu (p0:(List Int)) (p1:(List Int)) (x13:Int):St:=⟨[(0,(bX p0)),(1,(bX p1)),(12,(vI (p0.length:Int))),(13,(vI x13))],[]⟩
abbrev aGc (p0:(List Int)) (p1:(List Int)) (x13:Int) (r:Bool):Prop:=avc Tryz.prog aNx (bK9 r) (bSu p0 p1 x13)
def aNu:AC:=(.loop (.seq (.ops [.bin 18 .lss 17 16]) (.seq (.cond 18 .skip (.exit 0)) (.seq (.block 1 (.seq (.ops [.mv 19 17,.ia 20 1 15 17,.ld 21 1 false 20,.asg 7 19,.asg 8 21]) (.seq (.ops [.mv 22 1,.mv 23 7,.ia 24 1 22 23,.ld 25 1 false 24,.asg 9 25]) (.seq (.ops [.mv 26 2,.mv 27 8,.mv 28 9,.callv (some 29) 26 [27,28],.not 30 29]) (.cond 30 (.seq (.ops [.asg 6 (kB false)]) .ret) .skip))))) (.ops [.bin 31 .add 17 (kI 1),.mv 17 31])))))
def aYa:AC:=(.seq (.ops [.asg 6 (kB true)]) .ret)
def bTa:AC:=(.seq (.ops [.asg 6 (kB false)]) (.seq (.seq (.ops [.mv 10 0,.len 11 10,.mv 12 1,.len 13 12,.bin 14 .neq 11 13]) (.cond 14 (.seq (.ops [.asg 6 (kB false)]) .ret) .skip)) (.seq (.seq (.ops [.mv 15 0,.len 16 15,.mv 17 (kI 0)]) (.block 0 aNu)) aYa)))
theorem bZn:aV Tryz.prog 128=some (bTa,[.mv 0 6],32):=by kernel_rfl
def aYv (r:Bool):Exit→St→Prop:=aU [.mv 0 6] fun x _=>x=(fun y=>(vB y)) r
def bHe (r:Bool):Exit→St→Prop:=(bF (wkK (avc Tryz.prog aYa (aYv r))) (aYv r))
def bWk (r:Bool):Exit→St→Prop:=(bG 0 (bHe r))
def bJ6 (p1:(List (List aA))) (p0:(List (List aA))) (x17:Int):St:=⟨[(1,(.d (.sl 1 (p1.map (cSl 10 aZ))))),(2,(.fn 129 [])),(15,(.d (.sl 1 (p0.map (cSl 10 aZ))))),(16,(vI (p0.length:Int))),(17,(vI x17))],[]⟩
abbrev aFm (p1:(List (List aA))) (p0:(List (List aA))) (x17:Int) (r:Bool):Prop:=avc Tryz.prog aNu (bWk r) (bJ6 p1 p0 x17)
def aIe:AC:=(.loop (.seq (.ops [.bin 14 .lss 13 12]) (.seq (.cond 14 .skip (.exit 0)) (.seq (.block 1 (.seq (.ops [.mv 15 13,.asg 5 15]) (.seq (.dops [[],[],[0,1],[2],[],[],[4,5],[6],[3,7]] [.mv 16 0,.mv 17 5,.ia 18 1 16 17,.ld 19 1 false 18,.mv 20 1,.mv 21 5,.ia 22 1 20 21,.ld 23 1 false 22,.bin 24 .neq 19 23]) (.cond 24 (.seq (.ops [.asg 4 (kB false)]) .ret) .skip)))) (.ops [.bin 25 .add 13 (kI 1),.mv 13 25])))))
def aTi:AC:=(.seq (.ops [.asg 4 (kB true)]) .ret)
def bT7:AC:=(.seq (.ops [.asg 4 (kB false)]) (.seq (.seq (.ops [.mv 6 0,.len 7 6,.mv 8 1,.len 9 8,.bin 10 .neq 7 9]) (.cond 10 (.seq (.ops [.asg 4 (kB false)]) .ret) .skip)) (.seq (.seq (.ops [.mv 11 0,.len 12 11,.mv 13 (kI 0)]) (.block 0 aIe)) aTi)))
theorem cA4:aV Tryz.prog 131=some (bT7,[.mv 0 4],26):=by kernel_rfl
def aOv (r:Bool):Exit→St→Prop:=aU [.mv 0 4] fun x _=>x=(fun y=>(vB y)) r
def bJu (r:Bool):Exit→St→Prop:=(bF (wkK (avc Tryz.prog aTi (aOv r))) (aOv r))
def bF7 (r:Bool):Exit→St→Prop:=(bG 0 (bJu r))
def bIv (p0:(List (List UInt8))) (p1:(List (List UInt8))) (x13:Int):St:=⟨[(0,(fK p0)),(1,(fK p1)),(12,(vI (p0.length:Int))),(13,(vI x13))],[]⟩
abbrev aBx (p0:(List (List UInt8))) (p1:(List (List UInt8))) (x13:Int) (r:Bool):Prop:=avc Tryz.prog aIe (bF7 r) (bIv p0 p1 x13)
def bE2:AC:=(.seq (.ops [.box 2 39 0,.box 3 47 1,.asg 4 (kI 0)]) (.seq (.seq (.ops [.ld 5 1 true 2,.ld 6 14 true 3,.call (some 7) 17 [5,6],.not 8 7,.mv 9 8,.g 9 false (.fa 10 0 3),.g 9 false (.ld 11 1 false 10),.g 9 false (.bin 12 .eql 11 (kI 1)),.pick 13 9 (kB true) 12]) (.cond 13 (.seq (.ops [.asg 4 (kI (-1))]) .ret) .skip)) (.seq (.ops [.fa 14 9 3,.ld 15 1 false 14,.asg 4 15]) .ret)))
theorem cCa:aV Tryz.prog 6=some (bE2,[.mv 0 4],16):=by kernel_rfl
def cGd (r:Int):Exit→St→Prop:=aU [.mv 0 4] fun x _=>x=(fun y=>(vI y)) r
def bK4:AC:=(.seq (.ops [.box 2 39 0,.box 3 47 1,.asg 4 (kB false)]) (.seq (.ops [.fa 7 10 3,.ld 8 1 false 7,.len 9 8,.fa 10 11 3,.ld 11 1 false 10,.len 12 11,.bin 13 .add 9 12,.fa 14 12 3,.ld 15 1 false 14,.len 16 15,.bin 17 .add 13 16,.fa 18 13 3,.ld 19 1 false 18,.len 20 19,.bin 21 .add 17 20,.asg 5 21]) (.seq (.seq (.ops [.fa 22 0 3,.ld 23 1 false 22,.bin 24 .eql 23 (kI 1)]) (.cond 24 (.seq (.ops [.ld 25 1 true 2,.fa 26 1 3,.ld 27 8 true 26,.call (some 28) 33 [25,27],.mv 29 28,.g 29 true (.fa 30 9 3),.g 29 true (.ld 31 1 false 30),.g 29 true (.bin 32 .eql 31 (kI 0)),.pick 33 29 32 (kB false),.mv 34 33,.g 34 true (.mv 35 5),.g 34 true (.bin 36 .eql 35 (kI 0)),.pick 37 34 36 (kB false),.asg 4 37]) .ret) .skip)) (.seq (.seq (.ops [.ld 38 1 true 2,.call (some 39) 34 [38],.not 40 39,.mv 41 40,.g 41 false (.fa 42 0 3),.g 41 false (.ld 43 1 false 42),.g 41 false (.call (some 44) 35 [43,(kI 2),(kI 4)]),.g 41 false (.not 45 44),.pick 46 41 (kB true) 45,.mv 47 46,.g 47 false (.fa 48 9 3),.g 47 false (.ld 49 1 false 48),.g 47 false (.fa 50 0 2),.g 47 false (.ld 51 1 false 50),.g 47 false (.len 52 51),.g 47 false (.bin 53 .sub 52 (kI 1)),.g 47 false (.call (some 54) 35 [49,(kI 0),53]),.g 47 false (.not 55 54),.pick 56 47 (kB true) 55,.mv 57 56,.g 57 false (.fa 58 1 3),.g 57 false (.ld 59 8 true 58),.g 57 false (.bld 60 [(.nil 1),(.nil 1),(.nil 10),(.nil 11),(.nil 10),(.nil 1),cK,bQ] []),.g 57 false (.call (some 61) 36 [59,60]),.g 57 false (.not 62 61),.pick 63 57 (kB true) 62,.mv 64 63,.g 64 false (.ld 65 14 true 3),.g 64 false (.call (some 66) 37 [65]),.g 64 false (.not 67 66),.pick 68 64 (kB true) 67]) (.cond 68 (.seq (.ops [.asg 4 (kB false)]) .ret) .skip)) (.seq (.seq (.ops [.fa 69 0 3,.ld 70 1 false 69,.bin 71 .eql 70 (kI 2)]) (.cond 71 (.seq (.ops [.ld 72 1 true 2,.ld 73 14 true 3,.call (some 74) 38 [72,73],.asg 4 74]) .ret) .skip)) (.seq (.ops [.fa 75 0 2,.ld 76 1 false 75,.fa 77 9 3,.ld 78 1 false 77,.ia 79 2 76 78,.ld 80 2 true 79,.call (some 81) 39 [80],.bsl 82 25 1 [81],.asg 6 82]) (.seq (.seq (.ops [.fa 83 10 3,.ld 84 1 false 83,.len 85 84,.bin 86 .gtr 85 (kI 0),.mv 87 86,.g 87 false (.fa 88 13 3),.g 87 false (.ld 89 1 false 88),.g 87 false (.len 90 89),.g 87 false (.bin 91 .gtr 90 (kI 1)),.pick 92 87 (kB true) 91,.mv 93 92,.g 93 false (.ld 94 1 true 2),.g 93 false (.mv 95 6),.g 93 false (.fa 96 13 3),.g 93 false (.ld 97 1 false 96),.g 93 false (.call (some 98) 40 [94,95,97]),.g 93 false (.not 99 98),.pick 100 93 (kB true) 99]) (.cond 100 (.seq (.ops [.asg 4 (kB false)]) .ret) .skip)) (.seq (.seq (.ops [.fa 101 0 3,.ld 102 1 false 101,.bin 103 .eql 102 (kI 4)]) (.cond 103 (.seq (.ops [.fa 104 11 3,.ld 105 1 false 104,.len 106 105,.fa 107 12 3,.ld 108 1 false 107,.len 109 108,.bin 110 .add 106 109,.bin 111 .eql 110 (kI 0),.asg 4 111]) .ret) .skip)) (.seq (.ops [.fa 112 11 3,.ld 113 1 false 112,.len 114 113,.bin 115 .gtr 114 (kI 0),.mv 116 115,.g 116 true (.ld 117 1 true 2),.g 116 true (.ld 118 14 true 3),.g 116 true (.mv 119 6),.g 116 true (.call (some 120) 41 [117,118,119]),.pick 121 116 120 (kB false),.asg 4 121]) .ret)))))))))
theorem bZ2:aV Tryz.prog 17=some (bK4,[.mv 0 4],122):=by kernel_rfl
def cG9 (r:Bool):Exit→St→Prop:=aU [.mv 0 4] fun x _=>x=(fun y=>(vB y)) r
def bT4:AC:=(.seq (.ops [.asg 6 (kB false)]) (.seq (.ops [.mv 7 0,.mv 8 1,.bin 9 .geq 7 8,.mv 10 9,.g 10 true (.mv 11 0),.g 10 true (.mv 12 2),.g 10 true (.bin 13 .leq 11 12),.pick 14 10 13 (kB false),.asg 6 14]) .ret))
theorem bZm:aV Tryz.prog 35=some (bT4,[.mv 0 6],15):=by kernel_rfl
def cHr (r:Bool):Exit→St→Prop:=aU [.mv 0 6] fun x _=>x=(fun y=>(vB y)) r
def aIu:AC:=(.loop (.seq (.seq (.ops [.mv 10 7,.mv 11 2,.len 12 11,.bin 13 .lss 10 12]) (.cond 13 .skip (.exit 0))) (.seq (.block 1 (.seq (.dops [[],[],[],[],[2,3],[4],[0,1,5],[6],[7],[7],[8,6,0,1,2,3,4,5,6,7,8],[9,10,0,1,2,3,4,5,6,7,8,9,10]] [.ld 17 1 true 3,.mv 18 1,.mv 19 2,.mv 20 7,.ia 21 10 19 20,.ld 22 10 true 21,.call (some 23) 79 [17,18,22],.mv 16 23,.ext 24 16 0,.ext 25 16 1,.asg 8 24,.asg 9 25]) (.seq (.ops [.mv 26 9,.not 27 26,.mv 28 27,.g 28 false (.mv 29 8),.g 28 false (.call (some 30) 80 [29]),.g 28 false (.not 31 30),.pick 32 28 (kB true) 31]) (.cond 32 (.seq (.ops [.asg 6 (kB false)]) .ret) .skip)))) (.ops [.mv 14 7,.bin 15 .add 14 (kI 1),.asg 7 15]))))
def aXp:AC:=(.seq (.ops [.asg 6 (kB true)]) .ret)
def cA7:AC:=(.seq (.ops [.box 3 39 0,.asg 6 (kB false)]) (.seq (.seq (.ops [.asg 7 (kI 0)]) (.block 0 aIu)) aXp))
theorem bVq:aV Tryz.prog 40=some (cA7,[.mv 0 6],33):=by kernel_rfl
def aTl (r:Bool):Exit→St→Prop:=aU [.mv 0 6] fun x _=>x=(fun y=>(vB y)) r
def bRh (r:Bool):Exit→St→Prop:=(bF (wkK (avc Tryz.prog aXp (aTl r))) (aTl r))
def bLe (r:Bool):Exit→St→Prop:=(bG 0 (bRh r))
def bUr (p1:(List (List Int))) (p2:(List aA)) (p0:aJ) (x7:Int):St:=⟨[(1,(.d (.sl 1 (p1.map (cSl 1 cI))))),(2,(bN p2)),(3,(.ptr 3 0)),(7,(vI x7))],[(3,dJ p0)]⟩
abbrev aHb (p1:(List (List Int))) (p2:(List aA)) (p0:aJ) (x7:Int) (r:Bool):Prop:=avc Tryz.prog aIu (bLe r) (bUr p1 p2 p0 x7)
def bHs:AC:=(.seq (.ops [.asg 2 (kB false)]) (.seq (.ops [.mv 3 0,.bin 4 .eql 3 (kI 0),.mv 5 4,.g 5 false (.mv 6 0),.g 5 false (.bin 7 .eql 6 (kI 3)),.pick 8 5 (kB true) 7,.asg 2 8]) .ret))
theorem bPo:aV Tryz.prog 80=some (bHs,[.mv 0 2],9):=by kernel_rfl
def cI2 (r:Bool):Exit→St→Prop:=aU [.mv 0 2] fun x _=>x=(fun y=>(vB y)) r
def aOm:AC:=(.loop (.seq (.seq (.ops [.mv 18 9,.fa 19 8 5,.ld 20 1 false 19,.len 21 20,.bin 22 .lss 18 21]) (.cond 22 .skip (.exit 0))) (.seq (.block 1 (.seq (.dops [[],[],[],[2],[],[3,4],[5],[0,1,6],[7],[8],[8],[9,7,0,1,2,3,4,5,6,7,8,9],[10,11,0,1,2,3,4,5,6,7,8,9,10,11]] [.ld 26 1 true 3,.mv 27 1,.fa 28 8 5,.ld 29 1 false 28,.mv 30 9,.ia 31 10 29 30,.ld 32 10 true 31,.call (some 33) 79 [26,27,32],.mv 25 33,.ext 34 25 0,.ext 35 25 1,.asg 10 34,.asg 11 35]) (.seq (.seq (.ops [.mv 36 11,.not 37 36]) (.cond 37 (.seq (.ops [.asg 6 (kI 0),.asg 7 (kB false)]) .ret) .skip)) (.ops [.mv 38 8,.mv 39 10,.bsl 40 3 1 [39],.app 41 3 1 8 38 40,.asg 8 41])))) (.ops [.mv 23 9,.bin 24 .add 23 (kI 1),.asg 9 24]))))
def aN6:AC:=(.seq (.seq (.ops [.fa 138 0 5,.ld 139 1 false 138,.bin 140 .eql 139 (kI 5)]) (.cond 140 (.seq (.ops [.asg 6 (kI 3),.asg 7 (kB true)]) .ret) .skip)) (.seq (.ops [.mv 141 8,.call (some 142) 115 [141],.call (some 143) 114 [(kI 3),142],.ext 144 143 0,.ext 145 143 1,.asg 6 144,.asg 7 145]) .ret))
def aYg:AC:=(.seq (.seq (.ops [.fa 42 0 5,.ld 43 1 false 42]) (.block 2 (.seq (.ops [.bin 45 .eql 43 (kI 1),.asg 44 45]) (.cond 44 (.seq (.ops [.fa 46 3 5,.fa 47 0 46,.ld 48 1 false 47,.asg 6 48,.asg 7 (kB true)]) .ret) (.seq (.ops [.bin 50 .eql 43 (kI 2),.asg 49 50]) (.cond 49 (.seq (.seq (.dops [[],[0],[],[2],[3],[1,4],[5],[6,5],[7],[8,7],[7],[7],[11,7],[10,12,7],[13,7],[14,7],[15,7],[9,16,7,7],[17,7],[7,18]] [.fa 51 6 5,.ld 52 1 false 51,.mv 53 1,.len 54 53,.bin 55 .sub 54 (kI 1),.call (some 56) 35 [52,(kI 0),55],.not 57 56,.mv 58 57,.g 58 false (.fa 59 7 5),.g 58 false (.ld 60 1 false 59),.g 58 false (.mv 61 1),.g 58 false (.fa 62 6 5),.g 58 false (.ld 63 1 false 62),.g 58 false (.ia 64 1 61 63),.g 58 false (.ld 65 1 false 64),.g 58 false (.len 66 65),.g 58 false (.bin 67 .sub 66 (kI 1)),.g 58 false (.call (some 68) 35 [60,(kI 0),67]),.g 58 false (.not 69 68),.pick 70 58 (kB true) 69]) (.cond 70 (.seq (.ops [.asg 6 (kI 0),.asg 7 (kB false)]) .ret) .skip)) (.seq (.dops [[],[],[1],[0,2],[3],[],[5],[4,6],[7],[8,0,1,2,3,4,5,6,7,8],[9,0,1,2,3,4,5,6,7,8,9]] [.mv 71 1,.fa 72 6 5,.ld 73 1 false 72,.ia 74 1 71 73,.ld 75 1 false 74,.fa 76 7 5,.ld 77 1 false 76,.ia 78 1 75 77,.ld 79 1 false 78,.asg 6 79,.asg 7 (kB true)]) .ret)) (.seq (.ops [.bin 81 .eql 43 (kI 3),.asg 80 81]) (.cond 80 (.seq (.dops [[],[0],[],[2],[3],[1,4],[5],[5],[6,5,0,1,2,3,4,5,6,7],[7,8,0,1,2,3,4,5,6,7,8]] [.fa 82 1 5,.ld 83 1 false 82,.mv 84 8,.ia 85 1 84 (kI 0),.ld 86 1 false 85,.call (some 87) 112 [83,86],.ext 88 87 0,.ext 89 87 1,.asg 6 88,.asg 7 89]) .ret) (.seq (.ops [.bin 91 .eql 43 (kI 4),.asg 90 91]) (.cond 90 (.seq (.dops [[],[0],[],[2],[3],[],[5],[6],[1,4,7],[8],[8],[9,8,0,1,2,3,4,5,6,7,8,9,10],[10,11,0,1,2,3,4,5,6,7,8,9,10,11]] [.fa 92 1 5,.ld 93 1 false 92,.mv 94 8,.ia 95 1 94 (kI 0),.ld 96 1 false 95,.mv 97 8,.ia 98 1 97 (kI 1),.ld 99 1 false 98,.call (some 100) 113 [93,96,99],.ext 101 100 0,.ext 102 100 1,.asg 6 101,.asg 7 102]) .ret) .skip)))))))))) (.seq (.seq (.ops [.fa 103 9 5,.ld 104 1 false 103,.len 105 104,.bin 106 .gtr 105 (kI 0)]) (.cond 106 (.seq (.dops [[],[],[],[2],[3],[4],[0,1,5],[6],[7],[7],[8,6,0,1,2,3,4,5,6,7,8],[9,10,0,1,2,3,4,5,6,7,8,9,10]] [.ld 108 1 true 3,.mv 109 1,.fa 110 9 5,.ld 111 1 false 110,.ia 112 8 111 (kI 0),.ld 113 8 true 112,.call (some 114) 67 [108,109,113],.mv 107 114,.ext 115 107 0,.ext 116 107 1,.asg 12 115,.asg 13 116]) (.seq (.seq (.ops [.mv 117 13,.not 118 117,.mv 119 118,.g 119 false (.fa 120 0 5),.g 119 false (.ld 121 1 false 120),.g 119 false (.bin 122 .eql 121 (kI 8)),.g 119 false (.mv 123 122),.g 123 true (.mv 124 12),.g 123 true (.len 125 124),.g 123 true (.bin 126 .neq 125 (kI 1)),.g 119 false (.pick 127 123 126 (kB false)),.pick 128 119 (kB true) 127]) (.cond 128 (.seq (.ops [.asg 6 (kI 0),.asg 7 (kB false)]) .ret) .skip)) (.seq (.ops [.fa 129 0 5,.ld 130 1 false 129,.bin 131 .eql 130 (kI 8)]) (.cond 131 (.ops [.mv 132 8,.mv 133 12,.ia 134 1 133 (kI 0),.ld 135 1 false 134,.bsl 136 3 1 [135],.app 137 3 1 8 132 136,.asg 8 137]) .skip)))) .skip)) aN6))
def bNs:AC:=(.seq (.ops [.box 3 39 0,.box 5 97 2,.asg 6 (kI 0),.asg 7 (kB false)]) (.seq (.seq (.ops [.ld 14 10 true 5,.call (some 15) 111 [14],.not 16 15]) (.cond 16 (.seq (.ops [.asg 6 (kI 0),.asg 7 (kB false)]) .ret) .skip)) (.seq (.ops [.bsl 17 3 1 [],.asg 8 17]) (.seq (.seq (.ops [.asg 9 (kI 0)]) (.block 0 aOm)) aYg))))
theorem bM0:aV Tryz.prog 79=some (bNs,[.mv 0 6,.mv 0 7],146):=by kernel_rfl
def aMh (r:Int×Bool):Exit→St→Prop:=aU [.mv 0 6,.mv 0 7] fun x _=>x=(fun y=>(.tup [(vI y.1),(vB y.2)])) r
def bYo (r:Int×Bool):Exit→St→Prop:=(bF (wkK (avc Tryz.prog aYg (aMh r))) (aMh r))
def bN5 (r:Int×Bool):Exit→St→Prop:=(bG 0 (bYo r))
def aR7 (p1:(List (List Int))) (p0:aJ) (p2:aA) (x8:(List Int)) (x9:Int):St:=⟨[(1,(.d (.sl 1 (p1.map (cSl 1 cI))))),(3,(.ptr 3 0)),(5,(.ptr 5 0)),(8,(.osl 8 3 1 (x8.map cI))),(9,(vI x9))],[(3,dJ p0),(5,mI p2)]⟩
abbrev aEt (p1:(List (List Int))) (p0:aJ) (p2:aA) (x8:(List Int)) (x9:Int) (r:Int×Bool):Prop:=avc Tryz.prog aOm (bN5 r) (aR7 p1 p0 p2 x8 x9)
def bPb (p2:aA) (tN:(List Int)):St:=⟨[(5,(.ptr 5 0)),(8,(.osl 8 3 1 (tN.map cI)))],[(5,mI p2)]⟩
abbrev aRp (p2:aA) (tN:(List Int)) (r:Int×Bool):Prop:=avc Tryz.prog aN6 (aMh r) (bPb p2 tN)
def bEd:AC:=(.seq (.ops [.asg 4 (kI 0),.asg 5 (kB false)]) (.seq (.seq (.ops [.mv 6 1,.not 7 6]) (.cond 7 (.seq (.ops [.asg 4 (kI 0),.asg 5 (kB false)]) .ret) .skip)) (.seq (.ops [.mv 8 0,.asg 4 8,.asg 5 (kB true)]) .ret)))
theorem bVb:aV Tryz.prog 114=some (bEd,[.mv 0 4,.mv 0 5],9):=by kernel_rfl
def cFr (r:Int×Bool):Exit→St→Prop:=aU [.mv 0 4,.mv 0 5] fun x _=>x=(fun y=>(.tup [(vI y.1),(vB y.2)])) r
def aKq:AC:=(.loop (.seq (.seq (.ops [.mv 26 8,.fa 27 1 5,.ld 28 1 false 27,.len 29 28,.bin 30 .lss 26 29]) (.cond 30 .skip (.exit 0))) (.seq (.block 1 (.seq (.dops [[],[],[1],[],[3],[2,4],[0,5],[6],[7],[7],[8,6,0,1,2,3,4,5,6,7,8],[9,10,0,1,2,3,4,5,6,7,8,9,10]] [.ld 34 1 true 3,.fa 35 0 5,.ld 36 1 false 35,.mv 37 8,.bin 38 .add 37 (kI 1),.slc 39 1 36 none (some 38) none,.call (some 40) 108 [34,39],.mv 33 40,.ext 41 33 0,.ext 42 33 1,.asg 9 41,.asg 10 42]) (.seq (.dops [[],[],[],[1,2],[],[4],[],[5,6],[7],[0,3,8,3],[9]] [.ld 43 1 true 3,.mv 44 9,.mv 45 1,.call (some 46) 109 [44,45],.fa 47 1 5,.ld 48 1 false 47,.mv 49 8,.ia 50 1 48 49,.ld 51 1 false 50,.call (some 52) 40 [43,46,51],.not 53 52]) (.cond 53 (.seq (.ops [.bsl 54 3 1 [],.asg 6 54,.asg 7 (kB false)]) .ret) .skip)))) (.ops [.mv 31 8,.bin 32 .add 31 (kI 1),.asg 8 32]))))
def aOi:AC:=(.loop (.seq (.seq (.ops [.mv 72 14,.fa 73 3 5,.ld 74 1 false 73,.len 75 74,.bin 76 .lss 72 75]) (.cond 76 .skip (.exit 2))) (.seq (.block 3 (.seq (.dops [[],[],[],[2],[],[3,4],[5],[6],[0,1,7],[8],[9],[9],[10,8,0,1,2,3,4,5,6,7,8,9,10],[11,12,0,1,2,3,4,5,6,7,8,9,10,11,12]] [.ld 80 1 true 3,.mv 81 13,.fa 82 3 5,.ld 83 1 false 82,.mv 84 14,.ia 85 11 83 84,.fa 86 0 85,.ld 87 10 true 86,.call (some 88) 79 [80,81,87],.mv 79 88,.ext 89 79 0,.ext 90 79 1,.asg 15 89,.asg 16 90]) (.seq (.ops [.mv 91 16,.not 92 91]) (.cond 92 (.seq (.ops [.bsl 93 3 1 [],.asg 6 93,.asg 7 (kB false)]) .ret) .skip)))) (.ops [.mv 77 14,.bin 78 .add 77 (kI 1),.asg 14 78]))))
def aO4:AC:=(.loop (.seq (.seq (.ops [.mv 95 18,.fa 96 4 5,.ld 97 1 false 96,.len 98 97,.bin 99 .lss 95 98]) (.cond 99 .skip (.exit 4))) (.seq (.block 5 (.seq (.dops [[],[],[],[2],[],[3,4],[5],[0,1,6],[7],[8],[8],[9,7,0,1,2,3,4,5,6,7,8,9],[10,11,0,1,2,3,4,5,6,7,8,9,10,11]] [.ld 103 1 true 3,.mv 104 13,.fa 105 4 5,.ld 106 1 false 105,.mv 107 18,.ia 108 10 106 107,.ld 109 10 true 108,.call (some 110) 79 [103,104,109],.mv 102 110,.ext 111 102 0,.ext 112 102 1,.asg 19 111,.asg 20 112]) (.seq (.seq (.ops [.mv 113 20,.not 114 113]) (.cond 114 (.seq (.ops [.bsl 115 3 1 [],.asg 6 115,.asg 7 (kB false)]) .ret) .skip)) (.ops [.mv 116 17,.mv 117 19,.bsl 118 3 1 [117],.app 119 3 1 8 116 118,.asg 17 119])))) (.ops [.mv 100 18,.bin 101 .add 100 (kI 1),.asg 18 101]))))
def aQx:AC:=(.seq (.ops [.mv 120 17,.asg 6 120,.asg 7 (kB true)]) .ret)
def aXf:AC:=(.seq (.ops [.bsl 94 3 1 [],.asg 17 94]) (.seq (.seq (.ops [.asg 18 (kI 0)]) (.block 4 aO4)) aQx))
def aWt:AC:=(.seq (.ops [.ld 56 1 true 3,.fa 57 0 5,.ld 58 1 false 57,.call (some 59) 108 [56,58],.mv 55 59,.ext 60 55 0,.ext 61 55 1,.asg 11 60,.asg 12 61]) (.seq (.ops [.mv 62 11,.mv 63 1,.call (some 64) 109 [62,63],.asg 13 64]) (.seq (.seq (.ops [.ld 65 1 true 3,.mv 66 13,.fa 67 2 5,.ld 68 1 false 67,.call (some 69) 40 [65,66,68],.not 70 69]) (.cond 70 (.seq (.ops [.bsl 71 3 1 [],.asg 6 71,.asg 7 (kB false)]) .ret) .skip)) (.seq (.seq (.ops [.asg 14 (kI 0)]) (.block 2 aOi)) aXf))))
def bZq:AC:=(.seq (.ops [.box 3 39 0,.box 5 45 2,.asg 6 (.c (.nil 1)),.asg 7 (kB false)]) (.seq (.seq (.ops [.ld 21 1 true 3,.ld 22 8 true 5,.call (some 23) 107 [21,22],.not 24 23]) (.cond 24 (.seq (.ops [.bsl 25 3 1 [],.asg 6 25,.asg 7 (kB false)]) .ret) .skip)) (.seq (.seq (.ops [.asg 8 (kI 0)]) (.block 0 aKq)) aWt)))
theorem bPc:aV Tryz.prog 67=some (bZq,[.mv 0 6,.mv 0 7],121):=by kernel_rfl
def zT (r:(List Int)×Bool):Exit→St→Prop:=aU [.mv 0 6,.mv 0 7] fun x b=>x=(fun (y:(List Int)×Bool)=>(.tup [(.osl 2000000 3 1 (y.1.map cI)),(vB y.2)])) r∧eD ((fun (y:(List Int)×Bool)=>[]) r) b
def bFy (r:(List Int)×Bool):Exit→St→Prop:=(bF (wkK (avc Tryz.prog aWt (zT r))) (zT r))
def bIr (r:(List Int)×Bool):Exit→St→Prop:=(bG 0 (bFy r))
def bLy (r:(List Int)×Bool):Exit→St→Prop:=(bF (wkK (avc Tryz.prog aXf (zT r))) (zT r))
def bIi (r:(List Int)×Bool):Exit→St→Prop:=(bG 2 (bLy r))
def bUl (r:(List Int)×Bool):Exit→St→Prop:=(bF (wkK (avc Tryz.prog aQx (zT r))) (zT r))
def bLh (r:(List Int)×Bool):Exit→St→Prop:=(bG 4 (bUl r))
def bM5 (p1:(List (List Int))) (p0:aJ) (p2:aB) (x8:Int):St:=⟨[(1,(.d (.sl 1 (p1.map (cSl 1 cI))))),(3,(.ptr 3 0)),(5,(.ptr 5 0)),(8,(vI x8))],[(3,dJ p0),(5,jF p2)]⟩
abbrev aDl (p1:(List (List Int))) (p0:aJ) (p2:aB) (x8:Int) (r:(List Int)×Bool):Prop:=avc Tryz.prog aKq (bIr r) (bM5 p1 p0 p2 x8)
def bPu (y8:(List (List Int))) (p0:aJ) (p2:aB) (x14:Int):St:=⟨[(3,(.ptr 3 0)),(5,(.ptr 5 0)),(13,(.osl 13 25 1 (y8.map (cSl 1 cI)))),(14,(vI x14))],[(3,dJ p0),(5,jF p2)]⟩
abbrev aDy (y8:(List (List Int))) (p0:aJ) (p2:aB) (x14:Int) (r:(List Int)×Bool):Prop:=avc Tryz.prog aOi (bIi r) (bPu y8 p0 p2 x14)
def bHk (y8:(List (List Int))) (p0:aJ) (p2:aB) (x17:(List Int)) (x18:Int):St:=⟨[(3,(.ptr 3 0)),(5,(.ptr 5 0)),(13,(.osl 13 25 1 (y8.map (cSl 1 cI)))),(17,(.osl 17 3 1 (x17.map cI))),(18,(vI x18))],[(3,dJ p0),(5,jF p2)]⟩
abbrev aGu (y8:(List (List Int))) (p0:aJ) (p2:aB) (x17:(List Int)) (x18:Int) (r:(List Int)×Bool):Prop:=avc Tryz.prog aO4 (bLh r) (bHk y8 p0 p2 x17 x18)
def aI2:AC:=(.loop (.seq (.seq (.ops [.mv 64 5,.fa 65 1 3,.ld 66 1 false 65,.len 67 66,.bin 68 .lss 64 67]) (.cond 68 .skip (.exit 0))) (.seq (.block 1 (.seq (.ops [.fa 71 1 3,.ld 72 1 false 71,.mv 73 5,.ia 74 1 72 73,.ld 75 1 false 74,.len 76 75,.bin 77 .gtr 76 (kI 1)]) (.cond 77 (.seq (.ops [.asg 4 (kB false)]) .ret) .skip))) (.ops [.mv 69 5,.bin 70 .add 69 (kI 1),.asg 5 70]))))
def aJ4:AC:=(.loop (.seq (.seq (.ops [.mv 78 6,.fa 79 5 3,.ld 80 1 false 79,.len 81 80,.bin 82 .lss 78 81]) (.cond 82 .skip (.exit 2))) (.seq (.block 3 (.seq (.ops [.fa 85 5 3,.ld 86 1 false 85,.mv 87 6,.ia 88 1 86 87,.ld 89 1 false 88,.call (some 90) 68 [89],.not 91 90]) (.cond 91 (.seq (.ops [.asg 4 (kB false)]) .ret) .skip))) (.ops [.mv 83 6,.bin 84 .add 83 (kI 1),.asg 6 84]))))
def aSs:AC:=(.seq (.ops [.ld 93 1 true 2,.fa 94 0 3,.ld 95 1 false 94,.call (some 96) 108 [93,95],.mv 92 96,.ext 97 92 0,.ext 98 92 1,.asg 7 97,.asg 8 98]) (.seq (.ops [.mv 99 8,.asg 4 99]) .ret))
def aXh:AC:=(.seq (.seq (.ops [.asg 6 (kI 0)]) (.block 2 aJ4)) aSs)
def bKg:AC:=(.seq (.ops [.box 2 39 0,.box 3 45 1,.asg 4 (kB false)]) (.seq (.seq (.ops [.fa 9 0 3,.ld 10 1 false 9,.len 11 10,.call (some 12) 35 [11,(kI 1),(kI 3)],.not 13 12,.mv 14 13,.g 14 false (.fa 15 1 3),.g 14 false (.ld 16 1 false 15),.g 14 false (.len 17 16),.g 14 false (.fa 18 0 3),.g 14 false (.ld 19 1 false 18),.g 14 false (.len 20 19),.g 14 false (.bin 21 .neq 17 20),.pick 22 14 (kB true) 21,.mv 23 22,.g 23 false (.fa 24 1 3),.g 23 false (.ld 25 1 false 24),.g 23 false (.ia 26 1 25 (kI 0)),.g 23 false (.ld 27 1 false 26),.g 23 false (.len 28 27),.g 23 false (.bin 29 .gtr 28 (kI 0)),.pick 30 23 (kB true) 29,.mv 31 30,.g 31 false (.fa 32 2 3),.g 31 false (.ld 33 1 false 32),.g 31 false (.len 34 33),.g 31 false (.bin 35 .gtr 34 (kI 1)),.pick 36 31 (kB true) 35,.mv 37 36,.g 37 false (.fa 38 3 3),.g 37 false (.ld 39 1 false 38),.g 37 false (.len 40 39),.g 37 false (.bin 41 .gtr 40 (kI 12)),.pick 42 37 (kB true) 41,.mv 43 42,.g 43 false (.fa 44 4 3),.g 43 false (.ld 45 1 false 44),.g 43 false (.len 46 45),.g 43 false (.call (some 47) 35 [46,(kI 1),(kI 12)]),.g 43 false (.not 48 47),.pick 49 43 (kB true) 48,.mv 50 49,.g 50 false (.fa 51 5 3),.g 50 false (.ld 52 1 false 51),.g 50 false (.len 53 52),.g 50 false (.fa 54 4 3),.g 50 false (.ld 55 1 false 54),.g 50 false (.len 56 55),.g 50 false (.bin 57 .neq 53 56),.pick 58 50 (kB true) 57,.mv 59 58,.g 59 false (.fa 60 7 3),.g 59 false (.ld 61 1 false 60),.g 59 false (.bin 62 .lss 61 (kI (-1))),.pick 63 59 (kB true) 62]) (.cond 63 (.seq (.ops [.asg 4 (kB false)]) .ret) .skip)) (.seq (.seq (.ops [.asg 5 (kI 0)]) (.block 0 aI2)) aXh)))
theorem cAk:aV Tryz.prog 107=some (bKg,[.mv 0 4],100):=by kernel_rfl
def aD4 (r:Bool):Exit→St→Prop:=aU [.mv 0 4] fun x _=>x=(fun y=>(vB y)) r
def bFk (r:Bool):Exit→St→Prop:=(bF (wkK (avc Tryz.prog aXh (aD4 r))) (aD4 r))
def bN4 (r:Bool):Exit→St→Prop:=(bG 0 (bFk r))
def bW3 (r:Bool):Exit→St→Prop:=(bF (wkK (avc Tryz.prog aSs (aD4 r))) (aD4 r))
def bKt (r:Bool):Exit→St→Prop:=(bG 2 (bW3 r))
def bSz (p0:aJ) (p1:aB) (x5:Int):St:=⟨[(2,(.ptr 2 0)),(3,(.ptr 3 0)),(5,(vI x5))],[(2,dJ p0),(3,jF p1)]⟩
abbrev aE1 (p0:aJ) (p1:aB) (x5:Int) (r:Bool):Prop:=avc Tryz.prog aI2 (bN4 r) (bSz p0 p1 x5)
def bNe (p0:aJ) (p1:aB) (x6:Int):St:=⟨[(2,(.ptr 2 0)),(3,(.ptr 3 0)),(6,(vI x6))],[(2,dJ p0),(3,jF p1)]⟩
abbrev aFy (p0:aJ) (p1:aB) (x6:Int) (r:Bool):Prop:=avc Tryz.prog aJ4 (bKt r) (bNe p0 p1 x6)
def bWf:AC:=(.seq (.ops [.asg 2 (kB false)]) (.seq (.ops [.mv 3 0,.lns 4 3,.call (some 5) 35 [4,(kI 1),(kI 20)],.asg 2 5]) .ret))
theorem bJw:aV Tryz.prog 68=some (bWf,[.mv 0 2],6):=by kernel_rfl
def cH3 (r:Bool):Exit→St→Prop:=aU [.mv 0 2] fun x _=>x=(fun y=>(vB y)) r
def aLj:AC:=(.loop (.seq (.seq (.ops [.mv 9 7,.mv 10 1,.len 11 10,.bin 12 .lss 9 11]) (.cond 12 .skip (.exit 0))) (.seq (.block 1 (.seq (.seq (.dops [[],[],[0,1],[2],[],[4],[5],[6],[3,7],[8]] [.mv 15 1,.mv 16 7,.ia 17 1 15 16,.ld 18 1 false 17,.fa 19 0 2,.ld 20 1 false 19,.len 21 20,.bin 22 .sub 21 (kI 1),.call (some 23) 35 [18,(kI 0),22],.not 24 23]) (.cond 24 (.seq (.ops [.bsl 25 3 1 [],.asg 4 25,.asg 5 (kB false)]) .ret) .skip)) (.dops [[],[],[1],[],[],[3,4],[5],[2,6],[7],[8],[0,9,9],[10,10,0,1,2,3,4,5,6,7,8,9,10]] [.mv 26 6,.fa 27 0 2,.ld 28 1 false 27,.mv 29 1,.mv 30 7,.ia 31 1 29 30,.ld 32 1 false 31,.ia 33 2 28 32,.ld 34 2 true 33,.call (some 35) 39 [34],.app 36 3 1 8 26 35,.asg 6 36]))) (.ops [.mv 13 7,.bin 14 .add 13 (kI 1),.asg 7 14]))))
def aS7:AC:=(.seq (.ops [.mv 37 6,.asg 4 37,.asg 5 (kB true)]) .ret)
def bYc:AC:=(.seq (.ops [.box 2 39 0,.asg 4 (.c (.nil 1)),.asg 5 (kB false)]) (.seq (.ops [.bsl 8 3 1 [],.asg 6 8]) (.seq (.seq (.ops [.asg 7 (kI 0)]) (.block 0 aLj)) aS7)))
theorem bJj:aV Tryz.prog 108=some (bYc,[.mv 0 4,.mv 0 5],38):=by kernel_rfl
def aT2 (r:(List Int)×Bool):Exit→St→Prop:=aU [.mv 0 4,.mv 0 5] fun x b=>x=(fun (y:(List Int)×Bool)=>(.tup [(.osl 2000000 3 1 (y.1.map cI)),(vB y.2)])) r∧eD ((fun (y:(List Int)×Bool)=>[]) r) b
def bH1 (r:(List Int)×Bool):Exit→St→Prop:=(bF (wkK (avc Tryz.prog aS7 (aT2 r))) (aT2 r))
def bMu (r:(List Int)×Bool):Exit→St→Prop:=(bG 0 (bH1 r))
def bNi (p1:(List Int)) (p0:aJ) (x6:(List Int)) (x7:Int):St:=⟨[(1,(bX p1)),(2,(.ptr 2 0)),(6,(.osl 6 3 1 (x6.map cI))),(7,(vI x7))],[(2,dJ p0)]⟩
abbrev aH6 (p1:(List Int)) (p0:aJ) (x6:(List Int)) (x7:Int) (r:(List Int)×Bool):Prop:=avc Tryz.prog aLj (bMu r) (bNi p1 p0 x6 x7)
def aJq:AC:=(.loop (.seq (.seq (.ops [.mv 6 4,.fa 7 1 1,.ld 8 1 false 7,.len 9 8,.bin 10 .lss 6 9]) (.cond 10 .skip (.exit 0))) (.seq (.block 1 (.ops [.mv 13 3,.fa 14 1 1,.ld 15 1 false 14,.mv 16 4,.ia 17 2 15 16,.fa 18 1 17,.ld 19 1 false 18,.bsl 20 3 1 [19],.app 21 3 1 8 13 20,.asg 3 21])) (.ops [.mv 11 4,.bin 12 .add 11 (kI 1),.asg 4 12]))))
def aV8:AC:=(.seq (.ops [.mv 22 3,.asg 2 22]) .ret)
def bZ5:AC:=(.seq (.ops [.box 1 87 0,.asg 2 (.c (.nil 1))]) (.seq (.ops [.bsl 5 3 1 [],.asg 3 5]) (.seq (.seq (.ops [.asg 4 (kI 0)]) (.block 0 aJq)) aV8)))
theorem bKl:aV Tryz.prog 39=some (bZ5,[.mv 0 2],23):=by kernel_rfl
def aQw (r:(List Int)):Exit→St→Prop:=aU [.mv 0 2] fun x b=>x=(fun (y:(List Int))=>(.osl 2000000 3 1 (y.map cI))) r∧eD ((fun (y:(List Int))=>[]) r) b
def bFg (r:(List Int)):Exit→St→Prop:=(bF (wkK (avc Tryz.prog aV8 (aQw r))) (aQw r))
def bFe (r:(List Int)):Exit→St→Prop:=(bG 0 (bFg r))
def bLc (p0:bD) (x3:(List Int)) (x4:Int):St:=⟨[(1,(.ptr 1 0)),(3,(.osl 3 3 1 (x3.map cI))),(4,(vI x4))],[(1,Q5 p0)]⟩
abbrev aBo (p0:bD) (x3:(List Int)) (x4:Int) (r:(List Int)):Prop:=avc Tryz.prog aJq (bFe r) (bLc p0 x3 x4)
def bZa:AC:=(.seq (.ops [.asg 4 (.c (.nil 1))]) (.seq (.ops [.mv 5 0,.bsl 6 25 1 [5],.mv 7 1,.app 8 25 1 24 6 7,.asg 4 8]) .ret))
theorem bRb:aV Tryz.prog 109=some (bZa,[.mv 0 4],9):=by kernel_rfl
def cEx (r:(List (List Int))):Exit→St→Prop:=aU [.mv 0 4] fun x b=>x=(fun (y:(List (List Int)))=>(.osl 2000000 25 1 (y.map (cSl 1 cI)))) r∧eD ((fun (y:(List (List Int)))=>[]) r) b
def bEa:AC:=(.seq (.ops [.asg 4 (kI 0),.asg 5 (kB false)]) (.seq (.seq (.ops [.mv 6 0]) (.block 0 (.seq (.ops [.bin 8 .eql 6 (kI 15),.asg 7 8]) (.cond 7 (.seq (.ops [.mv 9 1,.call (some 10) 80 [9],.call (some 11) 114 [(kI 3),10],.ext 12 11 0,.ext 13 11 1,.asg 4 12,.asg 5 13]) .ret) (.seq (.ops [.bin 15 .eql 6 (kI 16),.asg 14 15]) (.cond 14 (.seq (.ops [.mv 16 1,.call (some 17) 140 [16,(kI 1)],.call (some 18) 114 [(kI 1),17],.ext 19 18 0,.ext 20 18 1,.asg 4 19,.asg 5 20]) .ret) .skip)))))) (.seq (.ops [.asg 4 (kI 0),.asg 5 (kB false)]) .ret)))
theorem cBh:aV Tryz.prog 112=some (bEa,[.mv 0 4,.mv 0 5],21):=by kernel_rfl
def cHu (r:Int×Bool):Exit→St→Prop:=aU [.mv 0 4,.mv 0 5] fun x _=>x=(fun y=>(.tup [(vI y.1),(vB y.2)])) r
def bLi:AC:=(.seq (.ops [.asg 4 (kB false)]) (.seq (.ops [.mv 5 0,.bin 6 .eql 5 (kI 0),.mv 7 6,.g 7 false (.mv 8 0),.g 7 false (.mv 9 1),.g 7 false (.bin 10 .eql 8 9),.pick 11 7 (kB true) 10,.asg 4 11]) .ret))
theorem bBw:aV Tryz.prog 140=some (bLi,[.mv 0 4],12):=by kernel_rfl
def cFo (r:Bool):Exit→St→Prop:=aU [.mv 0 4] fun x _=>x=(fun y=>(vB y)) r
def aHj:AC:=(.seq (.ops [.ld 38 10 true 3,.call (some 39) 139 [38],.asg 2 39]) .ret)
def bB1:AC:=(.seq (.ops [.box 1 97 0,.asg 2 (kB false)]) (.seq (.seq (.ops [.fa 4 0 1,.ld 5 1 false 4,.bin 6 .neq 5 (kI 2),.mv 7 6,.g 7 true (.fa 8 6 1),.g 7 true (.ld 9 1 false 8),.g 7 true (.bin 10 .neq 9 (kI 0)),.g 7 true (.mv 11 10),.g 11 false (.fa 12 7 1),.g 11 false (.ld 13 1 false 12),.g 11 false (.bin 14 .neq 13 (kI 0)),.g 7 true (.pick 15 11 (kB true) 14),.pick 16 7 15 (kB false)]) (.cond 16 (.seq (.ops [.asg 2 (kB false)]) .ret) .skip)) (.seq (.dops [[],[0],[],[2],[],[4],[],[6],[],[8],[9],[10,10],[],[12],[13],[14,14],[1,3,5,7,11,15],[],[17,16,0,1,2,3,4,5,6,7,8,9,10,11,12,13,14,15,16,17]] [.fa 17 0 1,.ld 18 1 false 17,.fa 19 1 1,.ld 20 1 false 19,.fa 21 2 1,.ld 22 1 false 21,.fa 23 3 1,.ld 24 3 true 23,.fa 25 8 1,.ld 26 1 false 25,.len 27 26,.mks 28 163 10 136 [(.i .i64 0),(.i .i64 0),(.b false),(.i .i64 0),(.i .i64 0),(.s (bs [])),(.s (bs [])),(.s (bs [])),(.sl 10 []),(.sl 6 [])] 27 27,.fa 29 9 1,.ld 30 1 false 29,.len 31 30,.mks 32 200 6 112 [(.b false),(.sl 13 []),(.sl 3 []),(.sl 10 []),(.sl 11 []),(.i .i64 0)] 31 31,.bld 33 [bQ,bQ,cK,bQ,bQ,fQ,fQ,fQ,(.nil 10),(.nil 6)] [(0,1,18),(1,1,20),(2,1,22),(3,3,24),(8,1,28),(9,1,32)],.alc 3 [bQ,bQ,cK,bQ,bQ,fQ,fQ,fQ,(.nil 10),(.nil 6)],.st 10 3 33]) (.seq (.seq (.ops [.fa 34 0 1,.ld 35 1 false 34,.bin 36 .eql 35 (kI 2)]) (.cond 36 (.ops [.fa 37 7 3,.st 1 37 (.c (.d (.s (bs [97]))))]) .skip)) aHj))))
theorem bLk:aV Tryz.prog 111=some (bB1,[.mv 0 2],40):=by kernel_rfl
def bL4 (r:Bool):Exit→St→Prop:=aU [.mv 0 2] fun x _=>x=(fun y=>(vB y)) r
def bIa (p0:aA) (y3:(List cO)) (y4:(List eY)) (tH:(List UInt8)):St:=⟨[(3,(.ptr 3 0))],[(3,bDl (cO.mk p0.kind p0.op p0.not_ p0.value [] tH y3 y4))]⟩
abbrev aWz (p0:aA) (y3:(List cO)) (y4:(List eY)) (tH:(List UInt8)) (r:Bool):Prop:=avc Tryz.prog aHj (bL4 r) (bIa p0 y3 y4 tH)
def bOw:AC:=(.seq (.ops [.box 1 163 0,.asg 2 (kB false)]) (.seq (.ops [.fa 5 8 1,.ld 6 1 false 5,.len 7 6,.asg 3 7]) (.seq (.ops [.fa 8 9 1,.ld 9 1 false 8,.len 10 9,.asg 4 10]) (.seq (.seq (.ops [.fa 11 0 1,.ld 12 1 false 11,.bin 13 .neq 12 (kI 2),.mv 14 13,.g 14 true (.fa 15 6 1),.g 14 true (.ld 16 1 false 15),.g 14 true (.bin 17 .neq 16 (.c (.d (.s (bs []))))),.g 14 true (.mv 18 17),.g 18 false (.fa 19 7 1),.g 18 false (.ld 20 1 false 19),.g 18 false (.bin 21 .neq 20 (.c (.d (.s (bs []))))),.g 14 true (.pick 22 18 (kB true) 21),.pick 23 14 22 (kB false),.mv 24 23,.g 24 false (.fa 25 0 1),.g 24 false (.ld 26 1 false 25),.g 24 false (.bin 27 .neq 26 (kI 1)),.g 24 false (.mv 28 27),.g 28 true (.fa 29 3 1),.g 28 true (.ld 30 3 true 29),.g 28 true (.bld 31 [bQ,bQ,fQ] []),.g 28 true (.eqv 32 true [0,0,1] 30 31),.g 24 false (.pick 33 28 32 (kB false)),.pick 34 24 (kB true) 33]) (.cond 34 (.seq (.ops [.asg 2 (kB false)]) .ret) .skip)) (.seq (.seq (.ops [.fa 35 0 1,.ld 36 1 false 35,.bin 37 .neq 36 (kI 3),.mv 38 37,.g 38 true (.fa 39 0 1),.g 38 true (.ld 40 1 false 39),.g 38 true (.bin 41 .neq 40 (kI 4)),.pick 42 38 41 (kB false),.mv 43 42,.g 43 true (.fa 44 1 1),.g 43 true (.ld 45 1 false 44),.g 43 true (.bin 46 .neq 45 (kI 0)),.pick 47 43 46 (kB false),.mv 48 47,.g 48 false (.fa 49 2 1),.g 48 false (.ld 50 1 false 49),.g 48 false (.mv 51 50),.g 51 true (.fa 52 0 1),.g 51 true (.ld 53 1 false 52),.g 51 true (.call (some 54) 35 [53,(kI 5),(kI 8)]),.g 51 true (.not 55 54),.g 48 false (.pick 56 51 55 (kB false)),.pick 57 48 (kB true) 56]) (.cond 57 (.seq (.ops [.asg 2 (kB false)]) .ret) .skip)) (.seq (.seq (.ops [.fa 58 0 1,.ld 59 1 false 58]) (.block 0 (.seq (.ops [.bin 61 .eql 59 (kI 1),.asg 60 61]) (.cond 60 (.seq (.ops [.fa 62 3 1,.ld 63 3 true 62,.call (some 64) 155 [63],.mv 65 64,.g 65 true (.mv 66 3),.g 65 true (.mv 67 4),.g 65 true (.bin 68 .add 66 67),.g 65 true (.bin 69 .eql 68 (kI 0)),.pick 70 65 69 (kB false),.asg 2 70]) .ret) (.seq (.ops [.bin 72 .eql 59 (kI 2),.asg 71 72]) (.cond 71 (.seq (.ops [.fa 73 7 1,.ld 74 1 false 73,.call (some 75) 68 [74],.mv 76 75,.g 76 true (.fa 77 6 1),.g 76 true (.ld 78 1 false 77),.g 76 true (.call (some 79) 156 [78]),.pick 80 76 79 (kB false),.mv 81 80,.g 81 true (.mv 82 3),.g 81 true (.mv 83 4),.g 81 true (.bin 84 .add 82 83),.g 81 true (.bin 85 .eql 84 (kI 0)),.pick 86 81 85 (kB false),.asg 2 86]) .ret) (.seq (.ops [.bin 88 .eql 59 (kI 3),.asg 87 88]) (.cond 87 (.seq (.ops [.fa 89 1 1,.ld 90 1 false 89,.bin 91 .eql 90 (kI 15),.mv 92 91,.g 92 false (.fa 93 1 1),.g 92 false (.ld 94 1 false 93),.g 92 false (.bin 95 .eql 94 (kI 16)),.pick 96 92 (kB true) 95,.mv 97 96,.g 97 true (.mv 98 3),.g 97 true (.bin 99 .eql 98 (kI 1)),.pick 100 97 99 (kB false),.mv 101 100,.g 101 true (.mv 102 4),.g 101 true (.bin 103 .eql 102 (kI 0)),.pick 104 101 103 (kB false),.asg 2 104]) .ret) (.seq (.ops [.bin 106 .eql 59 (kI 4),.asg 105 106]) (.cond 105 (.seq (.ops [.fa 107 1 1,.ld 108 1 false 107,.call (some 109) 35 [108,(kI 1),(kI 14)],.mv 110 109,.g 110 true (.mv 111 3),.g 110 true (.bin 112 .eql 111 (kI 2)),.pick 113 110 112 (kB false),.mv 114 113,.g 114 true (.mv 115 4),.g 114 true (.bin 116 .eql 115 (kI 0)),.pick 117 114 116 (kB false),.asg 2 117]) .ret) (.seq (.ops [.bin 119 .eql 59 (kI 5),.asg 118 119]) (.cond 118 (.seq (.ops [.mv 120 3,.bin 121 .eql 120 (kI 1),.mv 122 121,.g 122 true (.mv 123 4),.g 122 true (.bin 124 .eql 123 (kI 0)),.pick 125 122 124 (kB false),.asg 2 125]) .ret) (.seq (.ops [.bin 127 .eql 59 (kI 6),.asg 126 127]) (.cond 126 (.seq (.ops [.mv 128 3,.bin 129 .eql 128 (kI 3),.mv 130 129,.g 130 true (.mv 131 4),.g 130 true (.bin 132 .eql 131 (kI 0)),.pick 133 130 132 (kB false),.asg 2 133]) .ret) (.seq (.ops [.bin 135 .eql 59 (kI 7),.asg 134 135]) (.cond 134 (.seq (.ops [.mv 136 3,.call (some 137) 35 [136,(kI 2),(kI 9)],.mv 138 137,.g 138 true (.mv 139 4),.g 138 true (.bin 140 .eql 139 (kI 0)),.pick 141 138 140 (kB false),.asg 2 141]) .ret) (.seq (.ops [.bin 143 .eql 59 (kI 8),.asg 142 143]) (.cond 142 (.seq (.ops [.mv 144 3,.bin 145 .eql 144 (kI 1),.mv 146 145,.g 146 true (.mv 147 4),.g 146 true (.bin 148 .eql 147 (kI 1)),.pick 149 146 148 (kB false),.asg 2 149]) .ret) (.seq (.ops [.bin 151 .eql 59 (kI 9),.asg 150 151]) (.cond 150 (.seq (.ops [.mv 152 3,.bin 153 .eql 152 (kI 0),.mv 154 153,.g 154 true (.mv 155 4),.g 154 true (.bin 156 .eql 155 (kI 1)),.pick 157 154 156 (kB false),.asg 2 157]) .ret) .skip)))))))))))))))))))) (.seq (.ops [.asg 2 (kB false)]) .ret)))))))
theorem cCn:aV Tryz.prog 139=some (bOw,[.mv 0 2],158):=by kernel_rfl
def cFs (r:Bool):Exit→St→Prop:=aU [.mv 0 2] fun x _=>x=(fun y=>(vB y)) r
def cCv:AC:=(.seq (.ops [.asg 2 (kB false)]) (.seq (.ops [.mv 3 0,.bin 4 .eql 3 (.c (.d (.s (bs [])))),.mv 5 4,.g 5 false (.mv 6 0),.g 5 false (.call (some 7) 68 [6]),.pick 8 5 (kB true) 7,.asg 2 8]) .ret))
theorem bN3:aV Tryz.prog 156=some (cCv,[.mv 0 2],9):=by kernel_rfl
def cGg (r:Bool):Exit→St→Prop:=aU [.mv 0 2] fun x _=>x=(fun y=>(vB y)) r
def bE4:AC:=(.seq (.ops [.box 1 94 0,.asg 2 (kB false)]) (.seq (.ops [.ld 3 3 true 1,.call (some 4) 161 [3],.mv 5 4,.g 5 true (.fa 6 0 1),.g 5 true (.ld 7 1 false 6),.g 5 true (.bin 8 .neq 7 (kI 1)),.g 5 true (.mv 9 8),.g 9 false (.fa 10 1 1),.g 9 false (.ld 11 1 false 10),.g 9 false (.bin 12 .geq 11 (kI 0)),.g 5 true (.pick 13 9 (kB true) 12),.pick 14 5 13 (kB false),.mv 15 14,.g 15 true (.fa 16 2 1),.g 15 true (.ld 17 1 false 16),.g 15 true (.lns 18 17),.g 15 true (.bin 19 .leq 18 (kI 40)),.pick 20 15 19 (kB false),.asg 2 20]) .ret))
theorem bXo:aV Tryz.prog 155=some (bE4,[.mv 0 2],21):=by kernel_rfl
def cI5 (r:Bool):Exit→St→Prop:=aU [.mv 0 2] fun x _=>x=(fun y=>(vB y)) r
def bEu:AC:=(.seq (.ops [.box 1 94 0,.asg 2 (kB false)]) (.seq (.seq (.ops [.fa 3 0 1,.ld 4 1 false 3]) (.block 0 (.seq (.ops [.bin 6 .eql 4 (kI 0),.asg 5 6]) (.cond 5 (.seq (.ops [.fa 7 1 1,.ld 8 1 false 7,.bin 9 .eql 8 (kI 0),.mv 10 9,.g 10 true (.fa 11 2 1),.g 10 true (.ld 12 1 false 11),.g 10 true (.bin 13 .eql 12 (.c (.d (.s (bs []))))),.pick 14 10 13 (kB false),.asg 2 14]) .ret) (.seq (.ops [.bin 16 .eql 4 (kI 1),.asg 15 16]) (.cond 15 (.seq (.ops [.fa 17 2 1,.ld 18 1 false 17,.bin 19 .eql 18 (.c (.d (.s (bs [])))),.asg 2 19]) .ret) (.seq (.ops [.bin 21 .eql 4 (kI 2),.asg 20 21]) (.cond 20 (.seq (.ops [.fa 22 1 1,.ld 23 1 false 22,.bin 24 .eql 23 (kI 0),.mv 25 24,.g 25 true (.fa 26 2 1),.g 25 true (.ld 27 1 false 26),.g 25 true (.lns 28 27),.g 25 true (.bin 29 .leq 28 (kI 200)),.pick 30 25 29 (kB false),.asg 2 30]) .ret) (.seq (.ops [.bin 32 .eql 4 (kI 3),.asg 31 32]) (.cond 31 (.seq (.ops [.fa 33 1 1,.ld 34 1 false 33,.call (some 35) 35 [34,(kI 0),(kI 1)],.mv 36 35,.g 36 true (.fa 37 2 1),.g 36 true (.ld 38 1 false 37),.g 36 true (.bin 39 .eql 38 (.c (.d (.s (bs []))))),.pick 40 36 39 (kB false),.asg 2 40]) .ret) .skip)))))))))) (.seq (.ops [.asg 2 (kB false)]) .ret)))
theorem bPh:aV Tryz.prog 161=some (bEu,[.mv 0 2],41):=by kernel_rfl
def cFi (r:Bool):Exit→St→Prop:=aU [.mv 0 2] fun x _=>x=(fun y=>(vB y)) r
def aJo:AC:=(.loop (.seq (.seq (.ops [.mv 7 4,.mv 8 0,.len 9 8,.bin 10 .lss 7 9]) (.cond 10 .skip (.exit 0))) (.seq (.block 1 (.seq (.ops [.mv 14 3,.mv 15 0,.mv 16 4,.ia 17 1 15 16,.ld 18 1 false 17,.call (some 19) 110 [14,18],.mv 13 19,.ext 20 13 0,.ext 21 13 1,.asg 5 20,.asg 6 21]) (.seq (.seq (.ops [.mv 22 6,.not 23 22]) (.cond 23 (.seq (.ops [.asg 2 (kB false)]) .ret) .skip)) (.ops [.mv 24 5,.asg 3 24])))) (.ops [.mv 11 4,.bin 12 .add 11 (kI 1),.asg 4 12]))))
def aSz:AC:=(.seq (.ops [.asg 2 (kB true)]) .ret)
def bXx:AC:=(.seq (.ops [.asg 2 (kB false)]) (.seq (.ops [.asg 3 (kI 0)]) (.seq (.seq (.ops [.asg 4 (kI 0)]) (.block 0 aJo)) aSz)))
theorem bS7:aV Tryz.prog 115=some (bXx,[.mv 0 2],25):=by kernel_rfl
def aWx (r:Bool):Exit→St→Prop:=aU [.mv 0 2] fun x _=>x=(fun y=>(vB y)) r
def bV5 (r:Bool):Exit→St→Prop:=(bF (wkK (avc Tryz.prog aSz (aWx r))) (aWx r))
def bD2 (r:Bool):Exit→St→Prop:=(bG 0 (bV5 r))
def bLt (p0:(List Int)) (x3:Int) (x4:Int):St:=⟨[(0,(bX p0)),(3,(vI x3)),(4,(vI x4))],[]⟩
abbrev aGt (p0:(List Int)) (x3:Int) (x4:Int) (r:Bool):Prop:=avc Tryz.prog aJo (bD2 r) (bLt p0 x3 x4)
def bU6:AC:=(.seq (.ops [.asg 4 (kI 0),.asg 5 (kB false)]) (.seq (.seq (.ops [.mv 6 0,.call (some 7) 138 [6],.not 8 7,.mv 9 8,.g 9 false (.mv 10 1),.g 9 false (.call (some 11) 138 [10]),.g 9 false (.not 12 11),.pick 13 9 (kB true) 12]) (.cond 13 (.seq (.ops [.asg 4 (kI 0),.asg 5 (kB false)]) .ret) .skip)) (.seq (.seq (.ops [.mv 14 0,.bin 15 .eql 14 (kI 0)]) (.cond 15 (.seq (.ops [.mv 16 1,.asg 4 16,.asg 5 (kB true)]) .ret) .skip)) (.seq (.seq (.ops [.mv 17 1,.bin 18 .eql 17 (kI 0),.mv 19 18,.g 19 false (.mv 20 0),.g 19 false (.mv 21 1),.g 19 false (.bin 22 .eql 20 21),.pick 23 19 (kB true) 22]) (.cond 23 (.seq (.ops [.mv 24 0,.asg 4 24,.asg 5 (kB true)]) .ret) .skip)) (.seq (.ops [.asg 4 (kI 0),.asg 5 (kB false)]) .ret)))))
theorem bEt:aV Tryz.prog 110=some (bU6,[.mv 0 4,.mv 0 5],25):=by kernel_rfl
def cIg (r:Int×Bool):Exit→St→Prop:=aU [.mv 0 4,.mv 0 5] fun x _=>x=(fun y=>(.tup [(vI y.1),(vB y.2)])) r
def cCp:AC:=(.seq (.ops [.asg 2 (kB false)]) (.seq (.ops [.mv 3 0,.call (some 4) 35 [3,(kI 0),(kI 3)],.asg 2 4]) .ret))
theorem bFv:aV Tryz.prog 138=some (cCp,[.mv 0 2],5):=by kernel_rfl
def cIe (r:Bool):Exit→St→Prop:=aU [.mv 0 2] fun x _=>x=(fun y=>(vB y)) r
def aO5:AC:=(.seq (.ops [.mv 49 10,.mv 50 1,.mv 51 10,.call (some 52) 140 [50,51],.mv 53 52,.g 53 true (.mv 54 2),.g 53 true (.mv 55 10),.g 53 true (.call (some 56) 140 [54,55]),.pick 57 53 56 (kB false),.call (some 58) 114 [49,57],.ext 59 58 0,.ext 60 58 1,.asg 6 59,.asg 7 60]) .ret)
def bJ5:AC:=(.seq (.ops [.asg 6 (kI 0),.asg 7 (kB false)]) (.seq (.seq (.ops [.mv 11 0,.call (some 12) 35 [11,(kI 1),(kI 14)],.not 13 12,.mv 14 13,.g 14 false (.mv 15 1),.g 14 false (.call (some 16) 138 [15]),.g 14 false (.not 17 16),.pick 18 14 (kB true) 17,.mv 19 18,.g 19 false (.mv 20 2),.g 19 false (.call (some 21) 138 [20]),.g 19 false (.not 22 21),.pick 23 19 (kB true) 22]) (.cond 23 (.seq (.ops [.asg 6 (kI 0),.asg 7 (kB false)]) .ret) .skip)) (.seq (.seq (.ops [.mv 24 0,.bin 25 .leq 24 (kI 2)]) (.cond 25 (.seq (.ops [.mv 26 1,.call (some 27) 80 [26],.mv 28 27,.g 28 true (.mv 29 2),.g 28 true (.call (some 30) 80 [29]),.pick 31 28 30 (kB false),.call (some 32) 114 [(kI 3),31],.ext 33 32 0,.ext 34 32 1,.asg 6 33,.asg 7 34]) .ret) .skip)) (.seq (.seq (.ops [.mv 35 0,.bin 36 .leq 35 (kI 8)]) (.cond 36 (.seq (.ops [.mv 38 1,.mv 39 2,.call (some 40) 110 [38,39],.mv 37 40,.ext 41 37 0,.ext 42 37 1,.asg 8 41,.asg 9 42]) (.seq (.ops [.mv 43 9,.call (some 44) 114 [(kI 3),43],.ext 45 44 0,.ext 46 44 1,.asg 6 45,.asg 7 46]) .ret)) .skip)) (.seq (.ops [.asg 10 (kI 1)]) (.seq (.seq (.ops [.mv 47 0,.bin 48 .eql 47 (kI 9)]) (.cond 48 (.ops [.asg 10 (kI 2)]) .skip)) aO5))))))
theorem bDk:aV Tryz.prog 113=some (bJ5,[.mv 0 6,.mv 0 7],61):=by kernel_rfl
def bTu (r:Int×Bool):Exit→St→Prop:=aU [.mv 0 6,.mv 0 7] fun x _=>x=(fun y=>(.tup [(vI y.1),(vB y.2)])) r
def bGt (p1:Int) (p2:Int) (x10:Int):St:=⟨[(1,(vI p1)),(2,(vI p2)),(10,(vI x10))],[]⟩
abbrev aTu (p1:Int) (p2:Int) (x10:Int) (r:Int×Bool):Prop:=avc Tryz.prog aO5 (bTu r) (bGt p1 p2 x10)
def aI6:AC:=(.loop (.seq (.seq (.ops [.mv 41 5,.fa 42 1 4,.ld 43 1 false 42,.len 44 43,.bin 45 .lss 41 44]) (.cond 45 .skip (.exit 2))) (.seq (.block 3 (.seq (.dops [[],[0],[],[1,2],[3],[4],[5],[6],[7,6],[8],[8],[10,8],[8],[11,12,8],[13,8],[14,8],[9,15,8,8],[8],[16,17,8],[8,18],[19,16],[20],[21,20],[20],[22,23,20],[24,20],[25,20],[26,20,20],[27,20],[20,28]] [.fa 48 1 4,.ld 49 1 false 48,.mv 50 5,.ia 51 2 49 50,.fa 52 0 51,.ld 53 1 false 52,.call (some 54) 68 [53],.not 55 54,.mv 56 55,.g 56 false (.ld 57 2 true 4),.g 56 false (.fa 58 1 4),.g 56 false (.ld 59 1 false 58),.g 56 false (.mv 60 5),.g 56 false (.ia 61 2 59 60),.g 56 false (.fa 62 0 61),.g 56 false (.ld 63 1 false 62),.g 56 false (.call (some 64) 70 [57,63]),.g 56 false (.mv 65 5),.g 56 false (.bin 66 .neq 64 65),.pick 67 56 (kB true) 66,.mv 68 67,.g 68 false (.fa 69 1 4),.g 68 false (.ld 70 1 false 69),.g 68 false (.mv 71 5),.g 68 false (.ia 72 2 70 71),.g 68 false (.fa 73 1 72),.g 68 false (.ld 74 1 false 73),.g 68 false (.call (some 75) 35 [74,(kI 1),(kI 3)]),.g 68 false (.not 76 75),.pick 77 68 (kB true) 76]) (.cond 77 (.seq (.ops [.asg 2 (kB false)]) .ret) .skip))) (.ops [.mv 46 5,.bin 47 .add 46 (kI 1),.asg 5 47]))))
def aVv:AC:=(.ops [.mv 15 3,.bin 16 .add 15 (kI 1),.asg 3 16])
def aFu:AC:=(.loop (.seq (.seq (.ops [.mv 10 3,.fa 11 0 1,.ld 12 1 false 11,.len 13 12,.bin 14 .lss 10 13]) (.cond 14 .skip (.exit 0))) (.seq (.block 1 (.seq (.ops [.fa 17 0 1,.ld 18 1 false 17,.mv 19 3,.ia 20 2 18 19,.ld 21 2 true 20,.alc 4 [fQ,(.nil 2)],.st 2 4 21]) (.seq (.seq (.ops [.fa 22 0 4,.ld 23 1 false 22,.call (some 24) 68 [23],.not 25 24,.mv 26 25,.g 26 false (.ld 27 1 true 1),.g 26 false (.fa 28 0 4),.g 26 false (.ld 29 1 false 28),.g 26 false (.call (some 30) 69 [27,29]),.g 26 false (.mv 31 3),.g 26 false (.bin 32 .neq 30 31),.pick 33 26 (kB true) 32,.mv 34 33,.g 34 false (.fa 35 1 4),.g 34 false (.ld 36 1 false 35),.g 34 false (.len 37 36),.g 34 false (.call (some 38) 35 [37,(kI 1),(kI 4)]),.g 34 false (.not 39 38),.pick 40 34 (kB true) 39]) (.cond 40 (.seq (.ops [.asg 2 (kB false)]) .ret) .skip)) (.seq (.ops [.asg 5 (kI 0)]) (.block 2 aI6))))) aVv)))
def aSu:AC:=(.seq (.ops [.asg 2 (kB true)]) .ret)
def cCb:AC:=(.seq (.ops [.box 1 39 0,.asg 2 (kB false)]) (.seq (.seq (.ops [.fa 6 0 1,.ld 7 1 false 6,.len 8 7,.bin 9 .gtr 8 (kI 4)]) (.cond 9 (.seq (.ops [.asg 2 (kB false)]) .ret) .skip)) (.seq (.seq (.ops [.asg 3 (kI 0)]) (.block 0 aFu)) aSu)))
theorem cBo:aV Tryz.prog 34=some (cCb,[.mv 0 2],78):=by kernel_rfl
def aPj (r:Bool):Exit→St→Prop:=aU [.mv 0 2] fun x _=>x=(fun y=>(vB y)) r
def bQ4 (r:Bool):Exit→St→Prop:=(bF (wkK (avc Tryz.prog aSu (aPj r))) (aPj r))
def aN2 (r:Bool):Exit→St→Prop:=(bG 0 (bQ4 r))
def aRu (r:Bool):Exit→St→Prop:=(bF (avc Tryz.prog aFu (aN2 r)) (aN2 r))
def bAw (r:Bool):Exit→St→Prop:=(bF (wkK (avc Tryz.prog aVv (aRu r))) (aRu r))
def bVi (r:Bool):Exit→St→Prop:=(bG 1 (bAw r))
def bB2 (r:Bool):Exit→St→Prop:=(bG 2 (bVi r))
def aXu (p0:aJ) (x3:Int):St:=⟨[(1,(.ptr 1 0)),(3,(vI x3))],[(1,dJ p0)]⟩
abbrev aDq (p0:aJ) (x3:Int) (r:Bool):Prop:=avc Tryz.prog aFu (aN2 r) (aXu p0 x3)
def bRm (x3:Int) (p0:aJ) (y1:bD) (x5:Int):St:=⟨[(1,(.ptr 1 0)),(3,(vI x3)),(4,(.ptr 4 0)),(5,(vI x5))],[(1,dJ p0),(4,Q5 y1)]⟩
abbrev aFl (x3:Int) (p0:aJ) (y1:bD) (x5:Int) (r:Bool):Prop:=avc Tryz.prog aI6 (bB2 r) (bRm x3 p0 y1 x5)
def aIt:AC:=(.loop (.seq (.seq (.ops [.mv 6 5,.fa 7 0 2,.ld 8 1 false 7,.len 9 8,.bin 10 .lss 6 9]) (.cond 10 .skip (.exit 0))) (.seq (.block 1 (.seq (.ops [.fa 13 0 2,.ld 14 1 false 13,.mv 15 5,.ia 16 2 14 15,.fa 17 0 16,.ld 18 1 false 17,.mv 19 1,.bin 20 .eql 18 19]) (.cond 20 (.seq (.ops [.mv 21 5,.asg 4 21]) .ret) .skip))) (.ops [.mv 11 5,.bin 12 .add 11 (kI 1),.asg 5 12]))))
def aSm:AC:=(.seq (.ops [.asg 4 (kI (-1))]) .ret)
def bUh:AC:=(.seq (.ops [.box 2 39 0,.asg 4 (kI 0)]) (.seq (.seq (.ops [.asg 5 (kI 0)]) (.block 0 aIt)) aSm))
theorem bGo:aV Tryz.prog 69=some (bUh,[.mv 0 4],22):=by kernel_rfl
def aZg (r:Int):Exit→St→Prop:=aU [.mv 0 4] fun x _=>x=(fun y=>(vI y)) r
def bTk (r:Int):Exit→St→Prop:=(bF (wkK (avc Tryz.prog aSm (aZg r))) (aZg r))
def bIe (r:Int):Exit→St→Prop:=(bG 0 (bTk r))
def bT2 (p1:(List UInt8)) (p0:aJ) (x5:Int):St:=⟨[(1,(vS p1)),(2,(.ptr 2 0)),(5,(vI x5))],[(2,dJ p0)]⟩
abbrev aCp (p1:(List UInt8)) (p0:aJ) (x5:Int) (r:Int):Prop:=avc Tryz.prog aIt (bIe r) (bT2 p1 p0 x5)
def aHn:AC:=(.loop (.seq (.seq (.ops [.mv 6 5,.fa 7 1 2,.ld 8 1 false 7,.len 9 8,.bin 10 .lss 6 9]) (.cond 10 .skip (.exit 0))) (.seq (.block 1 (.seq (.ops [.fa 13 1 2,.ld 14 1 false 13,.mv 15 5,.ia 16 2 14 15,.fa 17 0 16,.ld 18 1 false 17,.mv 19 1,.bin 20 .eql 18 19]) (.cond 20 (.seq (.ops [.mv 21 5,.asg 4 21]) .ret) .skip))) (.ops [.mv 11 5,.bin 12 .add 11 (kI 1),.asg 5 12]))))
def aPp:AC:=(.seq (.ops [.asg 4 (kI (-1))]) .ret)
def bSy:AC:=(.seq (.ops [.box 2 87 0,.asg 4 (kI 0)]) (.seq (.seq (.ops [.asg 5 (kI 0)]) (.block 0 aHn)) aPp))
theorem cDf:aV Tryz.prog 70=some (bSy,[.mv 0 4],22):=by kernel_rfl
def aQl (r:Int):Exit→St→Prop:=aU [.mv 0 4] fun x _=>x=(fun y=>(vI y)) r
def bUv (r:Int):Exit→St→Prop:=(bF (wkK (avc Tryz.prog aPp (aQl r))) (aQl r))
def bS8 (r:Int):Exit→St→Prop:=(bG 0 (bUv r))
def bKc (p1:(List UInt8)) (p0:bD) (x5:Int):St:=⟨[(1,(vS p1)),(2,(.ptr 2 0)),(5,(vI x5))],[(2,Q5 p0)]⟩
abbrev aGp (p1:(List UInt8)) (p0:bD) (x5:Int) (r:Int):Prop:=avc Tryz.prog aHn (bS8 r) (bKc p1 p0 x5)
def bY3:AC:=(.seq (.ops [.box 2 39 0,.box 3 45 1,.asg 4 (kB false)]) (.seq (.seq (.ops [.ld 7 1 true 2,.call (some 8) 34 [7],.not 9 8,.mv 10 9,.g 10 false (.ld 11 8 true 3),.g 10 false (.call (some 12) 65 [11]),.g 10 false (.bin 13 .gtr 12 (kI 24)),.pick 14 10 (kB true) 13,.mv 15 14,.g 15 false (.ld 16 8 true 3),.g 15 false (.call (some 17) 66 [16]),.g 15 false (.bin 18 .gtr 17 (kI 200)),.pick 19 15 (kB true) 18]) (.cond 19 (.seq (.ops [.asg 4 (kB false)]) .ret) .skip)) (.seq (.ops [.ld 21 1 true 2,.ld 22 8 true 3,.call (some 23) 67 [21,(.c (.nil 1)),22],.mv 20 23,.ext 24 20 0,.ext 25 20 1,.asg 5 24,.asg 6 25]) (.seq (.ops [.mv 26 6,.asg 4 26]) .ret))))
theorem bS2:aV Tryz.prog 33=some (bY3,[.mv 0 4],27):=by kernel_rfl
def cFe (r:Bool):Exit→St→Prop:=aU [.mv 0 4] fun x _=>x=(fun y=>(vB y)) r
def aNn:AC:=(.loop (.seq (.seq (.ops [.mv 8 5,.mv 9 4,.len 10 9,.bin 11 .lss 8 10]) (.cond 11 .skip (.exit 0))) (.seq (.block 1 (.ops [.mv 14 3,.mv 15 4,.mv 16 5,.ia 17 10 15 16,.ld 18 10 true 17,.call (some 19) 77 [18],.call (some 20) 106 [14,19],.asg 3 20])) (.ops [.mv 12 5,.bin 13 .add 12 (kI 1),.asg 5 13]))))
def aVz:AC:=(.seq (.ops [.mv 21 3,.asg 2 21]) .ret)
def bVc:AC:=(.seq (.ops [.box 1 45 0,.asg 2 (kI 0)]) (.seq (.ops [.asg 3 (kI 0)]) (.seq (.ops [.ld 6 8 true 1,.call (some 7) 105 [6],.asg 4 7]) (.seq (.seq (.ops [.asg 5 (kI 0)]) (.block 0 aNn)) aVz))))
theorem bY4:aV Tryz.prog 65=some (bVc,[.mv 0 2],22):=by kernel_rfl
def aZs (r:Int):Exit→St→Prop:=aU [.mv 0 2] fun x _=>x=(fun y=>(vI y)) r
def bC2 (r:Int):Exit→St→Prop:=(bF (wkK (avc Tryz.prog aVz (aZs r))) (aZs r))
def bCn (r:Int):Exit→St→Prop:=(bG 0 (bC2 r))
def bUi (y1:(List aA)) (x3:Int) (x5:Int):St:=⟨[(3,(vI x3)),(4,(.osl 4 97 10 (y1.map aZ))),(5,(vI x5))],[]⟩
abbrev aG1 (y1:(List aA)) (x3:Int) (x5:Int) (r:Int):Prop:=avc Tryz.prog aNn (bCn r) (bUi y1 x3 x5)
def aMo:AC:=(.loop (.seq (.seq (.ops [.mv 7 4,.fa 8 1 1,.ld 9 1 false 8,.len 10 9,.bin 11 .lss 7 10]) (.cond 11 .skip (.exit 0))) (.seq (.block 1 (.ops [.mv 14 3,.fa 15 1 1,.ld 16 1 false 15,.mv 17 4,.ia 18 1 16 17,.ld 19 1 false 18,.app 20 97 10 120 14 19,.asg 3 20])) (.ops [.mv 12 4,.bin 13 .add 12 (kI 1),.asg 4 13]))))
def aM5:AC:=(.loop (.seq (.seq (.ops [.mv 25 5,.fa 26 3 1,.ld 27 1 false 26,.len 28 27,.bin 29 .lss 25 28]) (.cond 29 .skip (.exit 2))) (.seq (.block 3 (.ops [.mv 32 3,.fa 33 3 1,.ld 34 1 false 33,.mv 35 5,.ia 36 11 34 35,.fa 37 0 36,.ld 38 10 true 37,.bsl 39 97 10 [38],.app 40 97 10 120 32 39,.asg 3 40])) (.ops [.mv 30 5,.bin 31 .add 30 (kI 1),.asg 5 31]))))
def aX8:AC:=(.seq (.ops [.mv 41 3,.fa 42 4 1,.ld 43 1 false 42,.app 44 97 10 120 41 43,.asg 2 44]) .ret)
def aT8:AC:=(.seq (.ops [.mv 21 3,.fa 22 2 1,.ld 23 1 false 22,.app 24 97 10 120 21 23,.asg 3 24]) (.seq (.seq (.ops [.asg 5 (kI 0)]) (.block 2 aM5)) aX8))
def bEi:AC:=(.seq (.ops [.box 1 45 0,.asg 2 (.c (.nil 10))]) (.seq (.ops [.bsl 6 97 10 [],.asg 3 6]) (.seq (.seq (.ops [.asg 4 (kI 0)]) (.block 0 aMo)) aT8)))
theorem bOs:aV Tryz.prog 105=some (bEi,[.mv 0 2],45):=by kernel_rfl
def aH5 (r:(List aA)):Exit→St→Prop:=aU [.mv 0 2] fun x b=>x=(fun (y:(List aA))=>(.osl 2000000 97 10 (y.map aZ))) r∧eD ((fun (y:(List aA))=>[]) r) b
def bTl (r:(List aA)):Exit→St→Prop:=(bF (wkK (avc Tryz.prog aT8 (aH5 r))) (aH5 r))
def cC4 (r:(List aA)):Exit→St→Prop:=(bG 0 (bTl r))
def cAo (r:(List aA)):Exit→St→Prop:=(bF (wkK (avc Tryz.prog aX8 (aH5 r))) (aH5 r))
def bBk (r:(List aA)):Exit→St→Prop:=(bG 2 (cAo r))
def bF0 (p0:aB) (x3:(List aA)) (x4:Int):St:=⟨[(1,(.ptr 1 0)),(3,(.osl 3 97 10 (x3.map aZ))),(4,(vI x4))],[(1,jF p0)]⟩
abbrev aBf (p0:aB) (x3:(List aA)) (x4:Int) (r:(List aA)):Prop:=avc Tryz.prog aMo (cC4 r) (bF0 p0 x3 x4)
def bAq (p0:aB) (dC:(List aA)) (x5:Int):St:=⟨[(1,(.ptr 1 0)),(3,(.osl 3 97 10 (dC.map aZ))),(5,(vI x5))],[(1,jF p0)]⟩
abbrev aF4 (p0:aB) (dC:(List aA)) (x5:Int) (r:(List aA)):Prop:=avc Tryz.prog aM5 (bBk r) (bAq p0 dC x5)
def aKi:AC:=(.loop (.seq (.seq (.ops [.mv 6 4,.fa 7 8 1,.ld 8 1 false 7,.len 9 8,.bin 10 .lss 6 9]) (.cond 10 .skip (.exit 0))) (.seq (.block 1 (.ops [.mv 13 3,.fa 14 8 1,.ld 15 1 false 14,.mv 16 4,.ia 17 10 15 16,.ld 18 10 true 17,.call (some 19) 77 [18],.call (some 20) 106 [13,19],.asg 3 20])) (.ops [.mv 11 4,.bin 12 .add 11 (kI 1),.asg 4 12]))))
def aIl:AC:=(.loop (.seq (.seq (.ops [.mv 21 5,.fa 22 9 1,.ld 23 1 false 22,.len 24 23,.bin 25 .lss 21 24]) (.cond 25 .skip (.exit 2))) (.seq (.block 3 (.ops [.mv 28 3,.fa 29 9 1,.ld 30 1 false 29,.mv 31 5,.ia 32 8 30 31,.ld 33 8 true 32,.call (some 34) 65 [33],.call (some 35) 106 [28,34],.asg 3 35])) (.ops [.mv 26 5,.bin 27 .add 26 (kI 1),.asg 5 27]))))
def aTz:AC:=(.seq (.ops [.mv 36 3,.bin 37 .add 36 (kI 1),.asg 2 37]) .ret)
def bAe:AC:=(.seq (.seq (.ops [.asg 5 (kI 0)]) (.block 2 aIl)) aTz)
def bQh:AC:=(.seq (.ops [.box 1 97 0,.asg 2 (kI 0)]) (.seq (.ops [.asg 3 (kI 0)]) (.seq (.seq (.ops [.asg 4 (kI 0)]) (.block 0 aKi)) bAe)))
theorem bBq:aV Tryz.prog 77=some (bQh,[.mv 0 2],38):=by kernel_rfl
def aEk (r:Int):Exit→St→Prop:=aU [.mv 0 2] fun x _=>x=(fun y=>(vI y)) r
def cBq (r:Int):Exit→St→Prop:=(bF (wkK (avc Tryz.prog bAe (aEk r))) (aEk r))
def bGc (r:Int):Exit→St→Prop:=(bG 0 (cBq r))
def bHv (r:Int):Exit→St→Prop:=(bF (wkK (avc Tryz.prog aTz (aEk r))) (aEk r))
def bYr (r:Int):Exit→St→Prop:=(bG 2 (bHv r))
def bAf (p0:aA) (x3:Int) (x4:Int):St:=⟨[(1,(.ptr 1 0)),(3,(vI x3)),(4,(vI x4))],[(1,mI p0)]⟩
abbrev aDk (p0:aA) (x3:Int) (x4:Int) (r:Int):Prop:=avc Tryz.prog aKi (bGc r) (bAf p0 x3 x4)
def bB4 (p0:aA) (dC:Int) (x5:Int):St:=⟨[(1,(.ptr 1 0)),(3,(vI dC)),(5,(vI x5))],[(1,mI p0)]⟩
abbrev aH9 (p0:aA) (dC:Int) (x5:Int) (r:Int):Prop:=avc Tryz.prog aIl (bYr r) (bB4 p0 dC x5)
def bW9:AC:=(.seq (.ops [.asg 4 (kI 0)]) (.seq (.seq (.ops [.mv 5 0,.mv 6 1,.bin 7 .gtr 5 6]) (.cond 7 (.seq (.ops [.mv 8 0,.asg 4 8]) .ret) .skip)) (.seq (.ops [.mv 9 1,.asg 4 9]) .ret)))
theorem bMs:aV Tryz.prog 106=some (bW9,[.mv 0 4],10):=by kernel_rfl
def cHw (r:Int):Exit→St→Prop:=aU [.mv 0 4] fun x _=>x=(fun y=>(vI y)) r
def aJp:AC:=(.loop (.seq (.seq (.ops [.mv 8 5,.mv 9 4,.len 10 9,.bin 11 .lss 8 10]) (.cond 11 .skip (.exit 0))) (.seq (.block 1 (.ops [.mv 14 3,.mv 15 4,.mv 16 5,.ia 17 10 15 16,.ld 18 10 true 17,.call (some 19) 76 [18],.bin 20 .add 14 19,.asg 3 20])) (.ops [.mv 12 5,.bin 13 .add 12 (kI 1),.asg 5 13]))))
def aZq:AC:=(.seq (.ops [.mv 21 3,.asg 2 21]) .ret)
def bX6:AC:=(.seq (.ops [.box 1 45 0,.asg 2 (kI 0)]) (.seq (.ops [.asg 3 (kI 0)]) (.seq (.ops [.ld 6 8 true 1,.call (some 7) 105 [6],.asg 4 7]) (.seq (.seq (.ops [.asg 5 (kI 0)]) (.block 0 aJp)) aZq))))
theorem bY1:aV Tryz.prog 66=some (bX6,[.mv 0 2],22):=by kernel_rfl
def aVt (r:Int):Exit→St→Prop:=aU [.mv 0 2] fun x _=>x=(fun y=>(vI y)) r
def cDd (r:Int):Exit→St→Prop:=(bF (wkK (avc Tryz.prog aZq (aVt r))) (aVt r))
def bHp (r:Int):Exit→St→Prop:=(bG 0 (cDd r))
def bSv (y1:(List aA)) (x3:Int) (x5:Int):St:=⟨[(3,(vI x3)),(4,(.osl 4 97 10 (y1.map aZ))),(5,(vI x5))],[]⟩
abbrev aCn (y1:(List aA)) (x3:Int) (x5:Int) (r:Int):Prop:=avc Tryz.prog aJp (bHp r) (bSv y1 x3 x5)
def aOh:AC:=(.loop (.seq (.seq (.ops [.mv 6 4,.fa 7 8 1,.ld 8 1 false 7,.len 9 8,.bin 10 .lss 6 9]) (.cond 10 .skip (.exit 0))) (.seq (.block 1 (.ops [.mv 13 3,.fa 14 8 1,.ld 15 1 false 14,.mv 16 4,.ia 17 10 15 16,.ld 18 10 true 17,.call (some 19) 76 [18],.bin 20 .add 13 19,.asg 3 20])) (.ops [.mv 11 4,.bin 12 .add 11 (kI 1),.asg 4 12]))))
def aK3:AC:=(.loop (.seq (.seq (.ops [.mv 21 5,.fa 22 9 1,.ld 23 1 false 22,.len 24 23,.bin 25 .lss 21 24]) (.cond 25 .skip (.exit 2))) (.seq (.block 3 (.ops [.mv 28 3,.fa 29 9 1,.ld 30 1 false 29,.mv 31 5,.ia 32 8 30 31,.ld 33 8 true 32,.call (some 34) 66 [33],.bin 35 .add 28 34,.asg 3 35])) (.ops [.mv 26 5,.bin 27 .add 26 (kI 1),.asg 5 27]))))
def aT6:AC:=(.seq (.ops [.mv 36 3,.asg 2 36]) .ret)
def bA6:AC:=(.seq (.seq (.ops [.asg 5 (kI 0)]) (.block 2 aK3)) aT6)
def bKo:AC:=(.seq (.ops [.box 1 97 0,.asg 2 (kI 0)]) (.seq (.ops [.asg 3 (kI 1)]) (.seq (.seq (.ops [.asg 4 (kI 0)]) (.block 0 aOh)) bA6)))
theorem bXy:aV Tryz.prog 76=some (bKo,[.mv 0 2],37):=by kernel_rfl
def aE4 (r:Int):Exit→St→Prop:=aU [.mv 0 2] fun x _=>x=(fun y=>(vI y)) r
def bK1 (r:Int):Exit→St→Prop:=(bF (wkK (avc Tryz.prog bA6 (aE4 r))) (aE4 r))
def cA6 (r:Int):Exit→St→Prop:=(bG 0 (bK1 r))
def bV4 (r:Int):Exit→St→Prop:=(bF (wkK (avc Tryz.prog aT6 (aE4 r))) (aE4 r))
def bXq (r:Int):Exit→St→Prop:=(bG 2 (bV4 r))
def bWz (p0:aA) (x3:Int) (x4:Int):St:=⟨[(1,(.ptr 1 0)),(3,(vI x3)),(4,(vI x4))],[(1,mI p0)]⟩
abbrev aH8 (p0:aA) (x3:Int) (x4:Int) (r:Int):Prop:=avc Tryz.prog aOh (cA6 r) (bWz p0 x3 x4)
def bW4 (p0:aA) (jI:Int) (x5:Int):St:=⟨[(1,(.ptr 1 0)),(3,(vI jI)),(5,(vI x5))],[(1,mI p0)]⟩
abbrev aGm (p0:aA) (jI:Int) (x5:Int) (r:Int):Prop:=avc Tryz.prog aK3 (bXq r) (bW4 p0 jI x5)
def aMr:AC:=(.loop (.seq (.seq (.ops [.mv 31 7,.mv 32 5,.len 33 32,.bin 34 .lss 31 33]) (.cond 34 .skip (.exit 2))) (.seq (.block 3 (.seq (.dops [[],[],[1],[],[2,3],[4],[],[5,6],[7],[],[],[9,10],[11],[0,8,12],[13]] [.ld 37 1 true 2,.fa 38 10 3,.ld 39 1 false 38,.mv 40 6,.ia 41 1 39 40,.ld 42 1 false 41,.mv 43 7,.ia 44 10 42 43,.ld 45 10 true 44,.mv 46 5,.mv 47 7,.ia 48 1 46 47,.ld 49 1 false 48,.call (some 50) 78 [37,(.c (.nil 1)),45,49],.not 51 50]) (.cond 51 (.seq (.ops [.asg 4 (kB false)]) .ret) .skip))) (.ops [.mv 35 7,.bin 36 .add 35 (kI 1),.asg 7 36]))))
def aOo:AC:=(.ops [.mv 20 6,.bin 21 .add 20 (kI 1),.asg 6 21])
def aFq:AC:=(.loop (.seq (.seq (.ops [.mv 15 6,.fa 16 10 3,.ld 17 1 false 16,.len 18 17,.bin 19 .lss 15 18]) (.cond 19 .skip (.exit 0))) (.seq (.block 1 (.seq (.seq (.ops [.fa 22 10 3,.ld 23 1 false 22,.mv 24 6,.ia 25 1 23 24,.ld 26 1 false 25,.len 27 26,.mv 28 5,.len 29 28,.bin 30 .neq 27 29]) (.cond 30 (.seq (.ops [.asg 4 (kB false)]) .ret) .skip)) (.seq (.ops [.asg 7 (kI 0)]) (.block 2 aMr)))) aOo)))
def aSp:AC:=(.seq (.ops [.fa 52 10 3,.ld 53 1 false 52,.len 54 53,.call (some 55) 35 [54,(kI 1),(kI 5)],.mv 56 55,.g 56 true (.fa 57 11 3),.g 56 true (.ld 58 1 false 57),.g 56 true (.len 59 58),.g 56 true (.fa 60 12 3),.g 56 true (.ld 61 1 false 60),.g 56 true (.len 62 61),.g 56 true (.bin 63 .add 59 62),.g 56 true (.fa 64 13 3),.g 56 true (.ld 65 1 false 64),.g 56 true (.len 66 65),.g 56 true (.bin 67 .add 63 66),.g 56 true (.bin 68 .eql 67 (kI 0)),.pick 69 56 68 (kB false),.asg 4 69]) .ret)
def bId:AC:=(.seq (.ops [.box 2 39 0,.box 3 47 1,.asg 4 (kB false)]) (.seq (.ops [.fa 8 0 2,.ld 9 1 false 8,.fa 10 9 3,.ld 11 1 false 10,.ia 12 2 9 11,.ld 13 2 true 12,.call (some 14) 39 [13],.asg 5 14]) (.seq (.seq (.ops [.asg 6 (kI 0)]) (.block 0 aFq)) aSp)))
theorem bMe:aV Tryz.prog 38=some (bId,[.mv 0 4],70):=by kernel_rfl
def aQ2 (r:Bool):Exit→St→Prop:=aU [.mv 0 4] fun x _=>x=(fun y=>(vB y)) r
def bWn (r:Bool):Exit→St→Prop:=(bF (wkK (avc Tryz.prog aSp (aQ2 r))) (aQ2 r))
def aLy (r:Bool):Exit→St→Prop:=(bG 0 (bWn r))
def aXz (r:Bool):Exit→St→Prop:=(bF (avc Tryz.prog aFq (aLy r)) (aLy r))
def bP0 (r:Bool):Exit→St→Prop:=(bF (wkK (avc Tryz.prog aOo (aXz r))) (aXz r))
def bZc (r:Bool):Exit→St→Prop:=(bG 1 (bP0 r))
def bS6 (r:Bool):Exit→St→Prop:=(bG 2 (bZc r))
def bZl (y2:(List Int)) (p0:aJ) (p1:bM) (x6:Int):St:=⟨[(2,(.ptr 2 0)),(3,(.ptr 3 0)),(5,(.osl 5 3 1 (y2.map cI))),(6,(vI x6))],[(2,dJ p0),(3,K7 p1)]⟩
abbrev aC2 (y2:(List Int)) (p0:aJ) (p1:bM) (x6:Int) (r:Bool):Prop:=avc Tryz.prog aFq (aLy r) (bZl y2 p0 p1 x6)
def bFt (y2:(List Int)) (x6:Int) (p0:aJ) (p1:bM) (x7:Int):St:=⟨[(2,(.ptr 2 0)),(3,(.ptr 3 0)),(5,(.osl 5 3 1 (y2.map cI))),(6,(vI x6)),(7,(vI x7))],[(2,dJ p0),(3,K7 p1)]⟩
abbrev aFa (y2:(List Int)) (x6:Int) (p0:aJ) (p1:bM) (x7:Int) (r:Bool):Prop:=avc Tryz.prog aMr (bS6 r) (bFt y2 x6 p0 p1 x7)
def bRl:AC:=(.seq (.ops [.box 4 39 0,.box 6 97 2,.asg 8 (kB false)]) (.seq (.ops [.ld 14 1 true 4,.mv 15 1,.ld 16 10 true 6,.call (some 17) 79 [14,15,16],.mv 13 17,.ext 18 13 0,.ext 19 13 1,.asg 9 18,.asg 10 19]) (.seq (.ops [.mv 21 9,.mv 22 3,.call (some 23) 110 [21,22],.mv 20 23,.ext 24 20 0,.ext 25 20 1,.asg 11 24,.asg 12 25]) (.seq (.ops [.mv 26 10,.mv 27 26,.g 27 true (.mv 28 12),.pick 29 27 28 (kB false),.asg 8 29]) .ret))))
theorem bWl:aV Tryz.prog 78=some (bRl,[.mv 0 8],30):=by kernel_rfl
def cEh (r:Bool):Exit→St→Prop:=aU [.mv 0 8] fun x _=>x=(fun y=>(vB y)) r
def aOl:AC:=(.loop (.seq (.seq (.ops [.mv 8 5,.mv 9 3,.len 10 9,.bin 11 .lss 8 10]) (.cond 11 .skip (.exit 0))) (.seq (.block 1 (.seq (.ops [.mv 14 4,.mv 15 3,.mv 16 5,.ia 17 10 15 16,.ld 18 10 true 17,.call (some 19) 76 [18],.bin 20 .add 14 19,.asg 4 20]) (.seq (.ops [.mv 21 3,.mv 22 5,.ia 23 10 21 22,.ld 24 10 true 23,.call (some 25) 77 [24],.bin 26 .gtr 25 (kI 24)]) (.cond 26 (.seq (.ops [.asg 2 (kB false)]) .ret) .skip)))) (.ops [.mv 12 5,.bin 13 .add 12 (kI 1),.asg 5 13]))))
def aP3:AC:=(.seq (.ops [.mv 27 4,.bin 28 .leq 27 (kI 200),.asg 2 28]) .ret)
def bCt:AC:=(.seq (.ops [.box 1 47 0,.asg 2 (kB false)]) (.seq (.ops [.ld 6 14 true 1,.call (some 7) 75 [6],.asg 3 7]) (.seq (.ops [.asg 4 (kI 0)]) (.seq (.seq (.ops [.asg 5 (kI 0)]) (.block 0 aOl)) aP3))))
theorem bIg:aV Tryz.prog 37=some (bCt,[.mv 0 2],29):=by kernel_rfl
def aV6 (r:Bool):Exit→St→Prop:=aU [.mv 0 2] fun x _=>x=(fun y=>(vB y)) r
def bXv (r:Bool):Exit→St→Prop:=(bF (wkK (avc Tryz.prog aP3 (aV6 r))) (aV6 r))
def bKj (r:Bool):Exit→St→Prop:=(bG 0 (bXv r))
def cD2 (y1:(List aA)) (x4:Int) (x5:Int):St:=⟨[(3,(.osl 3 97 10 (y1.map aZ))),(4,(vI x4)),(5,(vI x5))],[]⟩
abbrev aCm (y1:(List aA)) (x4:Int) (x5:Int) (r:Bool):Prop:=avc Tryz.prog aOl (bKj r) (cD2 y1 x4 x5)
def aJn:AC:=(.loop (.seq (.seq (.ops [.mv 6 4,.fa 7 10 1,.ld 8 1 false 7,.len 9 8,.bin 10 .lss 6 9]) (.cond 10 .skip (.exit 0))) (.seq (.block 1 (.ops [.mv 13 3,.fa 14 10 1,.ld 15 1 false 14,.mv 16 4,.ia 17 1 15 16,.ld 18 1 false 17,.app 19 97 10 120 13 18,.asg 3 19])) (.ops [.mv 11 4,.bin 12 .add 11 (kI 1),.asg 4 12]))))
def aX7:AC:=(.seq (.ops [.mv 20 3,.fa 21 12 1,.ld 22 1 false 21,.app 23 97 10 120 20 22,.asg 3 23]) (.seq (.ops [.mv 24 3,.fa 25 13 1,.ld 26 1 false 25,.app 27 97 10 120 24 26,.asg 2 27]) .ret))
def cAh:AC:=(.seq (.ops [.box 1 47 0,.asg 2 (.c (.nil 10))]) (.seq (.ops [.bsl 5 97 10 [],.asg 3 5]) (.seq (.seq (.ops [.asg 4 (kI 0)]) (.block 0 aJn)) aX7)))
theorem bGp:aV Tryz.prog 75=some (cAh,[.mv 0 2],28):=by kernel_rfl
def aTj (r:(List aA)):Exit→St→Prop:=aU [.mv 0 2] fun x b=>x=(fun (y:(List aA))=>(.osl 2000000 97 10 (y.map aZ))) r∧eD ((fun (y:(List aA))=>[]) r) b
def bGy (r:(List aA)):Exit→St→Prop:=(bF (wkK (avc Tryz.prog aX7 (aTj r))) (aTj r))
def cBd (r:(List aA)):Exit→St→Prop:=(bG 0 (bGy r))
def cAj (p0:bM) (x3:(List aA)) (x4:Int):St:=⟨[(1,(.ptr 1 0)),(3,(.osl 3 97 10 (x3.map aZ))),(4,(vI x4))],[(1,K7 p0)]⟩
abbrev aGf (p0:bM) (x3:(List aA)) (x4:Int) (r:(List aA)):Prop:=avc Tryz.prog aJn (cBd r) (cAj p0 x3 x4)
def aMc:AC:=(.loop (.seq (.seq (.ops [.mv 69 5,.fa 70 1 2,.ld 71 1 false 70,.len 72 71,.bin 73 .lss 69 72]) (.cond 73 .skip (.exit 0))) (.seq (.block 1 (.seq (.dops [[],[0],[],[1,2],[3],[],[5],[],[6,7],[8],[4,9],[10]] [.fa 76 1 2,.ld 77 1 false 76,.mv 78 5,.ia 79 1 77 78,.ld 80 1 false 79,.fa 81 1 3,.ld 82 1 false 81,.mv 83 5,.ia 84 1 82 83,.ld 85 1 false 84,.call (some 86) 72 [80,85],.not 87 86]) (.cond 87 (.seq (.ops [.asg 4 (kB false)]) .ret) .skip))) (.ops [.mv 74 5,.bin 75 .add 74 (kI 1),.asg 5 75]))))
def aLb:AC:=(.loop (.seq (.seq (.ops [.mv 88 6,.fa 89 3 2,.ld 90 1 false 89,.len 91 90,.bin 92 .lss 88 91]) (.cond 92 .skip (.exit 2))) (.seq (.block 3 (.seq (.dops [[],[0],[],[1,2],[3],[4],[],[6],[],[7,8],[9],[10],[5,11],[12],[13],[14,13],[13],[15,16,13],[17,13],[18,13],[13],[20,13],[13],[21,22,13],[23,13],[24,13],[19,25,13,13],[26,13],[13,27]] [.fa 95 3 2,.ld 96 1 false 95,.mv 97 6,.ia 98 11 96 97,.fa 99 10 98,.ld 100 1 false 99,.fa 101 3 3,.ld 102 1 false 101,.mv 103 6,.ia 104 11 102 103,.fa 105 10 104,.ld 106 1 false 105,.eqb 107 true 100 106,.mv 108 107,.g 108 false (.fa 109 3 2),.g 108 false (.ld 110 1 false 109),.g 108 false (.mv 111 6),.g 108 false (.ia 112 11 110 111),.g 108 false (.fa 113 0 112),.g 108 false (.ld 114 10 true 113),.g 108 false (.fa 115 3 3),.g 108 false (.ld 116 1 false 115),.g 108 false (.mv 117 6),.g 108 false (.ia 118 11 116 117),.g 108 false (.fa 119 0 118),.g 108 false (.ld 120 10 true 119),.g 108 false (.call (some 121) 74 [114,120]),.g 108 false (.not 122 121),.pick 123 108 (kB true) 122]) (.cond 123 (.seq (.ops [.asg 4 (kB false)]) .ret) .skip))) (.ops [.mv 93 6,.bin 94 .add 93 (kI 1),.asg 6 94]))))
def aXk:AC:=(.seq (.ops [.asg 4 (kB true)]) .ret)
def aZh:AC:=(.seq (.seq (.ops [.asg 6 (kI 0)]) (.block 2 aLb)) aXk)
def bSh:AC:=(.seq (.ops [.box 2 45 0,.box 3 45 1,.asg 4 (kB false)]) (.seq (.seq (.ops [.fa 7 6 2,.ld 8 1 false 7,.fa 9 6 3,.ld 10 1 false 9,.eqb 11 true 8 10,.mv 12 11,.g 12 false (.fa 13 7 2),.g 12 false (.ld 14 1 false 13),.g 12 false (.fa 15 7 3),.g 12 false (.ld 16 1 false 15),.g 12 false (.bin 17 .neq 14 16),.pick 18 12 (kB true) 17,.mv 19 18,.g 19 false (.fa 20 0 2),.g 19 false (.ld 21 1 false 20),.g 19 false (.fa 22 0 3),.g 19 false (.ld 23 1 false 22),.g 19 false (.call (some 24) 71 [21,23]),.g 19 false (.not 25 24),.pick 26 19 (kB true) 25,.mv 27 26,.g 27 false (.fa 28 1 2),.g 27 false (.ld 29 1 false 28),.g 27 false (.len 30 29),.g 27 false (.fa 31 1 3),.g 27 false (.ld 32 1 false 31),.g 27 false (.len 33 32),.g 27 false (.bin 34 .neq 30 33),.pick 35 27 (kB true) 34,.mv 36 35,.g 36 false (.fa 37 2 2),.g 36 false (.ld 38 1 false 37),.g 36 false (.fa 39 2 3),.g 36 false (.ld 40 1 false 39),.g 36 false (.call (some 41) 72 [38,40]),.g 36 false (.not 42 41),.pick 43 36 (kB true) 42,.mv 44 43,.g 44 false (.fa 45 3 2),.g 44 false (.ld 46 1 false 45),.g 44 false (.len 47 46),.g 44 false (.fa 48 3 3),.g 44 false (.ld 49 1 false 48),.g 44 false (.len 50 49),.g 44 false (.bin 51 .neq 47 50),.pick 52 44 (kB true) 51,.mv 53 52,.g 53 false (.fa 54 4 2),.g 53 false (.ld 55 1 false 54),.g 53 false (.fa 56 4 3),.g 53 false (.ld 57 1 false 56),.g 53 false (.call (some 58) 72 [55,57]),.g 53 false (.not 59 58),.pick 60 53 (kB true) 59,.mv 61 60,.g 61 false (.fa 62 5 2),.g 61 false (.ld 63 1 false 62),.g 61 false (.fa 64 5 3),.g 61 false (.ld 65 1 false 64),.g 61 false (.call (some 66) 73 [63,65]),.g 61 false (.not 67 66),.pick 68 61 (kB true) 67]) (.cond 68 (.seq (.ops [.asg 4 (kB false)]) .ret) .skip)) (.seq (.seq (.ops [.asg 5 (kI 0)]) (.block 0 aMc)) aZh)))
theorem bI3:aV Tryz.prog 36=some (bSh,[.mv 0 4],124):=by kernel_rfl
def aGx (r:Bool):Exit→St→Prop:=aU [.mv 0 4] fun x _=>x=(fun y=>(vB y)) r
def bUb (r:Bool):Exit→St→Prop:=(bF (wkK (avc Tryz.prog aZh (aGx r))) (aGx r))
def bE5 (r:Bool):Exit→St→Prop:=(bG 0 (bUb r))
def bXl (r:Bool):Exit→St→Prop:=(bF (wkK (avc Tryz.prog aXk (aGx r))) (aGx r))
def bIz (r:Bool):Exit→St→Prop:=(bG 2 (bXl r))
def bL3 (p0:aB) (p1:aB) (x5:Int):St:=⟨[(2,(.ptr 2 0)),(3,(.ptr 3 0)),(5,(vI x5))],[(2,jF p0),(3,jF p1)]⟩
abbrev aGj (p0:aB) (p1:aB) (x5:Int) (r:Bool):Prop:=avc Tryz.prog aMc (bE5 r) (bL3 p0 p1 x5)
def bMo (p0:aB) (p1:aB) (x6:Int):St:=⟨[(2,(.ptr 2 0)),(3,(.ptr 3 0)),(6,(vI x6))],[(2,jF p0),(3,jF p1)]⟩
abbrev aEs (p0:aB) (p1:aB) (x6:Int) (r:Bool):Prop:=avc Tryz.prog aLb (bIz r) (bMo p0 p1 x6)
def aHq:AC:=(.loop (.seq (.seq (.ops [.mv 11 5,.mv 12 0,.len 13 12,.bin 14 .lss 11 13]) (.cond 14 .skip (.exit 0))) (.seq (.block 1 (.seq (.dops [[],[],[0,1],[2],[],[],[4,5],[6],[3,7]] [.mv 17 0,.mv 18 5,.ia 19 1 17 18,.ld 20 1 false 19,.mv 21 1,.mv 22 5,.ia 23 1 21 22,.ld 24 1 false 23,.bin 25 .neq 20 24]) (.cond 25 (.seq (.ops [.asg 4 (kB false)]) .ret) .skip))) (.ops [.mv 15 5,.bin 16 .add 15 (kI 1),.asg 5 16]))))
def aPk:AC:=(.seq (.ops [.asg 4 (kB true)]) .ret)
def bQg:AC:=(.seq (.ops [.asg 4 (kB false)]) (.seq (.seq (.ops [.mv 6 0,.len 7 6,.mv 8 1,.len 9 8,.bin 10 .neq 7 9]) (.cond 10 (.seq (.ops [.asg 4 (kB false)]) .ret) .skip)) (.seq (.seq (.ops [.asg 5 (kI 0)]) (.block 0 aHq)) aPk)))
theorem bPr:aV Tryz.prog 73=some (bQg,[.mv 0 4],26):=by kernel_rfl
def aWm (r:Bool):Exit→St→Prop:=aU [.mv 0 4] fun x _=>x=(fun y=>(vB y)) r
def bAz (r:Bool):Exit→St→Prop:=(bF (wkK (avc Tryz.prog aPk (aWm r))) (aWm r))
def bE6 (r:Bool):Exit→St→Prop:=(bG 0 (bAz r))
def bDw (p0:(List (List UInt8))) (p1:(List (List UInt8))) (x5:Int):St:=⟨[(0,(fK p0)),(1,(fK p1)),(5,(vI x5))],[]⟩
abbrev aBn (p0:(List (List UInt8))) (p1:(List (List UInt8))) (x5:Int) (r:Bool):Prop:=avc Tryz.prog aHq (bE6 r) (bDw p0 p1 x5)
def aIk:AC:=(.loop (.seq (.seq (.ops [.mv 11 5,.mv 12 0,.len 13 12,.bin 14 .lss 11 13]) (.cond 14 .skip (.exit 0))) (.seq (.block 1 (.seq (.dops [[],[],[0,1],[2],[],[],[4,5],[6],[3,7],[8]] [.mv 17 0,.mv 18 5,.ia 19 10 17 18,.ld 20 10 true 19,.mv 21 1,.mv 22 5,.ia 23 10 21 22,.ld 24 10 true 23,.call (some 25) 74 [20,24],.not 26 25]) (.cond 26 (.seq (.ops [.asg 4 (kB false)]) .ret) .skip))) (.ops [.mv 15 5,.bin 16 .add 15 (kI 1),.asg 5 16]))))
def aRb:AC:=(.seq (.ops [.asg 4 (kB true)]) .ret)
def bIw:AC:=(.seq (.ops [.asg 4 (kB false)]) (.seq (.seq (.ops [.mv 6 0,.len 7 6,.mv 8 1,.len 9 8,.bin 10 .neq 7 9]) (.cond 10 (.seq (.ops [.asg 4 (kB false)]) .ret) .skip)) (.seq (.seq (.ops [.asg 5 (kI 0)]) (.block 0 aIk)) aRb)))
theorem cBi:aV Tryz.prog 72=some (bIw,[.mv 0 4],27):=by kernel_rfl
def aW5 (r:Bool):Exit→St→Prop:=aU [.mv 0 4] fun x _=>x=(fun y=>(vB y)) r
def bTi (r:Bool):Exit→St→Prop:=(bF (wkK (avc Tryz.prog aRb (aW5 r))) (aW5 r))
def bUc (r:Bool):Exit→St→Prop:=(bG 0 (bTi r))
def bCe (p0:(List aA)) (p1:(List aA)) (x5:Int):St:=⟨[(0,(bN p0)),(1,(bN p1)),(5,(vI x5))],[]⟩
abbrev aF2 (p0:(List aA)) (p1:(List aA)) (x5:Int) (r:Bool):Prop:=avc Tryz.prog aIk (bUc r) (bCe p0 p1 x5)
def aNl:AC:=(.loop (.seq (.seq (.ops [.mv 63 5,.fa 64 9 2,.ld 65 1 false 64,.len 66 65,.bin 67 .lss 63 66]) (.cond 67 .skip (.exit 0))) (.seq (.block 1 (.seq (.dops [[],[0],[],[1,2],[3],[],[5],[],[6,7],[8],[4,9],[10]] [.fa 70 9 2,.ld 71 1 false 70,.mv 72 5,.ia 73 8 71 72,.ld 74 8 true 73,.fa 75 9 3,.ld 76 1 false 75,.mv 77 5,.ia 78 8 76 77,.ld 79 8 true 78,.call (some 80) 36 [74,79],.not 81 80]) (.cond 81 (.seq (.ops [.asg 4 (kB false)]) .ret) .skip))) (.ops [.mv 68 5,.bin 69 .add 68 (kI 1),.asg 5 69]))))
def aXl:AC:=(.seq (.ops [.asg 4 (kB true)]) .ret)
def bHy:AC:=(.seq (.ops [.box 2 97 0,.box 3 97 1,.asg 4 (kB false)]) (.seq (.seq (.ops [.fa 6 0 2,.ld 7 1 false 6,.fa 8 0 3,.ld 9 1 false 8,.bin 10 .neq 7 9,.mv 11 10,.g 11 false (.fa 12 1 2),.g 11 false (.ld 13 1 false 12),.g 11 false (.fa 14 1 3),.g 11 false (.ld 15 1 false 14),.g 11 false (.bin 16 .neq 13 15),.pick 17 11 (kB true) 16,.mv 18 17,.g 18 false (.fa 19 2 2),.g 18 false (.ld 20 1 false 19),.g 18 false (.fa 21 2 3),.g 18 false (.ld 22 1 false 21),.g 18 false (.eqb 23 true 20 22),.pick 24 18 (kB true) 23,.mv 25 24,.g 25 false (.fa 26 3 2),.g 25 false (.ld 27 3 true 26),.g 25 false (.fa 28 3 3),.g 25 false (.ld 29 3 true 28),.g 25 false (.eqv 30 true [0,0,1] 27 29),.pick 31 25 (kB true) 30,.mv 32 31,.g 32 false (.fa 33 6 2),.g 32 false (.ld 34 1 false 33),.g 32 false (.fa 35 6 3),.g 32 false (.ld 36 1 false 35),.g 32 false (.bin 37 .neq 34 36),.pick 38 32 (kB true) 37,.mv 39 38,.g 39 false (.fa 40 7 2),.g 39 false (.ld 41 1 false 40),.g 39 false (.fa 42 7 3),.g 39 false (.ld 43 1 false 42),.g 39 false (.bin 44 .neq 41 43),.pick 45 39 (kB true) 44,.mv 46 45,.g 46 false (.fa 47 9 2),.g 46 false (.ld 48 1 false 47),.g 46 false (.len 49 48),.g 46 false (.fa 50 9 3),.g 46 false (.ld 51 1 false 50),.g 46 false (.len 52 51),.g 46 false (.bin 53 .neq 49 52),.pick 54 46 (kB true) 53,.mv 55 54,.g 55 false (.fa 56 8 2),.g 55 false (.ld 57 1 false 56),.g 55 false (.fa 58 8 3),.g 55 false (.ld 59 1 false 58),.g 55 false (.call (some 60) 72 [57,59]),.g 55 false (.not 61 60),.pick 62 55 (kB true) 61]) (.cond 62 (.seq (.ops [.asg 4 (kB false)]) .ret) .skip)) (.seq (.seq (.ops [.asg 5 (kI 0)]) (.block 0 aNl)) aXl)))
theorem bVt:aV Tryz.prog 74=some (bHy,[.mv 0 4],82):=by kernel_rfl
def aT9 (r:Bool):Exit→St→Prop:=aU [.mv 0 4] fun x _=>x=(fun y=>(vB y)) r
def bMc (r:Bool):Exit→St→Prop:=(bF (wkK (avc Tryz.prog aXl (aT9 r))) (aT9 r))
def bYn (r:Bool):Exit→St→Prop:=(bG 0 (bMc r))
def bM1 (p0:aA) (p1:aA) (x5:Int):St:=⟨[(2,(.ptr 2 0)),(3,(.ptr 3 0)),(5,(vI x5))],[(2,mI p0),(3,mI p1)]⟩
abbrev aEw (p0:aA) (p1:aA) (x5:Int) (r:Bool):Prop:=avc Tryz.prog aNl (bYn r) (bM1 p0 p1 x5)
def aLx:AC:=(.loop (.seq (.seq (.ops [.mv 11 5,.mv 12 0,.len 13 12,.bin 14 .lss 11 13]) (.cond 14 .skip (.exit 0))) (.seq (.block 1 (.seq (.dops [[],[],[0,1],[2],[],[],[4,5],[6],[3,7]] [.mv 17 0,.mv 18 5,.ia 19 1 17 18,.ld 20 1 false 19,.mv 21 1,.mv 22 5,.ia 23 1 21 22,.ld 24 1 false 23,.bin 25 .neq 20 24]) (.cond 25 (.seq (.ops [.asg 4 (kB false)]) .ret) .skip))) (.ops [.mv 15 5,.bin 16 .add 15 (kI 1),.asg 5 16]))))
def aTe:AC:=(.seq (.ops [.asg 4 (kB true)]) .ret)
def bCz:AC:=(.seq (.ops [.asg 4 (kB false)]) (.seq (.seq (.ops [.mv 6 0,.len 7 6,.mv 8 1,.len 9 8,.bin 10 .neq 7 9]) (.cond 10 (.seq (.ops [.asg 4 (kB false)]) .ret) .skip)) (.seq (.seq (.ops [.asg 5 (kI 0)]) (.block 0 aLx)) aTe)))
theorem bTz:aV Tryz.prog 71=some (bCz,[.mv 0 4],26):=by kernel_rfl
def aPe (r:Bool):Exit→St→Prop:=aU [.mv 0 4] fun x _=>x=(fun y=>(vB y)) r
def bCc (r:Bool):Exit→St→Prop:=(bF (wkK (avc Tryz.prog aTe (aPe r))) (aPe r))
def bNg (r:Bool):Exit→St→Prop:=(bG 0 (bCc r))
def bO5 (p0:(List Int)) (p1:(List Int)) (x5:Int):St:=⟨[(0,(bX p0)),(1,(bX p1)),(5,(vI x5))],[]⟩
abbrev aDr (p0:(List Int)) (p1:(List Int)) (x5:Int) (r:Bool):Prop:=avc Tryz.prog aLx (bNg r) (bO5 p0 p1 x5)
def aHc:AC:=(.loop (.seq (.seq (.ops [.mv 23 8,.fa 24 11 4,.ld 25 1 false 24,.len 26 25,.bin 27 .lss 23 26]) (.cond 27 .skip (.exit 0))) (.seq (.block 1 (.seq (.dops [[],[0],[],[1,2],[3],[],[5],[6],[4,7],[8],[9,8],[10],[11,10],[10],[12,13,10],[10],[15,10],[10],[16,17,10],[18,10],[14,19,10,10],[10,20],[21,20],[22],[22],[22],[25,22],[22],[26,27,22],[28,22],[22],[22],[31,22],[22],[32,33,22],[34,22],[30,35,22],[36,22],[23,24,29,37,22,22],[38,22],[22,39]] [.fa 30 11 4,.ld 31 1 false 30,.mv 32 8,.ia 33 1 31 32,.ld 34 1 false 33,.mv 35 7,.len 36 35,.bin 37 .sub 36 (kI 1),.call (some 38) 35 [34,(kI 0),37],.not 39 38,.mv 40 39,.g 40 false (.fa 41 11 4),.g 40 false (.ld 42 1 false 41),.g 40 false (.mv 43 8),.g 40 false (.slc 44 1 42 none (some 43) none),.g 40 false (.fa 45 11 4),.g 40 false (.ld 46 1 false 45),.g 40 false (.mv 47 8),.g 40 false (.ia 48 1 46 47),.g 40 false (.ld 49 1 false 48),.g 40 false (.call (some 50) 81 [44,49]),.pick 51 40 (kB true) 50,.mv 52 51,.g 52 false (.ld 53 1 true 3),.g 52 false (.mv 54 2),.g 52 false (.fa 55 12 4),.g 52 false (.ld 56 1 false 55),.g 52 false (.mv 57 8),.g 52 false (.ia 58 10 56 57),.g 52 false (.ld 59 10 true 58),.g 52 false (.mv 60 7),.g 52 false (.fa 61 11 4),.g 52 false (.ld 62 1 false 61),.g 52 false (.mv 63 8),.g 52 false (.ia 64 1 62 63),.g 52 false (.ld 65 1 false 64),.g 52 false (.ia 66 1 60 65),.g 52 false (.ld 67 1 false 66),.g 52 false (.call (some 68) 78 [53,54,59,67]),.g 52 false (.not 69 68),.pick 70 52 (kB true) 69]) (.cond 70 (.seq (.ops [.asg 6 (kB false)]) .ret) .skip))) (.ops [.mv 28 8,.bin 29 .add 28 (kI 1),.asg 8 29]))))
def aZ5:AC:=(.seq (.ops [.asg 6 (kB true)]) .ret)
def bD6:AC:=(.seq (.ops [.box 3 39 0,.box 4 47 1,.asg 6 (kB false)]) (.seq (.ops [.fa 9 0 3,.ld 10 1 false 9,.fa 11 9 4,.ld 12 1 false 11,.ia 13 2 10 12,.ld 14 2 true 13,.call (some 15) 39 [14],.asg 7 15]) (.seq (.seq (.ops [.fa 16 11 4,.ld 17 1 false 16,.len 18 17,.fa 19 12 4,.ld 20 1 false 19,.len 21 20,.bin 22 .neq 18 21]) (.cond 22 (.seq (.ops [.asg 6 (kB false)]) .ret) .skip)) (.seq (.seq (.ops [.asg 8 (kI 0)]) (.block 0 aHc)) aZ5))))
theorem bTd:aV Tryz.prog 41=some (bD6,[.mv 0 6],71):=by kernel_rfl
def aP2 (r:Bool):Exit→St→Prop:=aU [.mv 0 6] fun x _=>x=(fun y=>(vB y)) r
def bRy (r:Bool):Exit→St→Prop:=(bF (wkK (avc Tryz.prog aZ5 (aP2 r))) (aP2 r))
def bBo (r:Bool):Exit→St→Prop:=(bG 0 (bRy r))
def bUd (p2:(List (List Int))) (y2:(List Int)) (p0:aJ) (p1:bM) (x8:Int):St:=⟨[(2,(.d (.sl 1 (p2.map (cSl 1 cI))))),(3,(.ptr 3 0)),(4,(.ptr 4 0)),(7,(.osl 7 3 1 (y2.map cI))),(8,(vI x8))],[(3,dJ p0),(4,K7 p1)]⟩
abbrev aGy (p2:(List (List Int))) (y2:(List Int)) (p0:aJ) (p1:bM) (x8:Int) (r:Bool):Prop:=avc Tryz.prog aHc (bBo r) (bUd p2 y2 p0 p1 x8)
def aLl:AC:=(.loop (.seq (.seq (.ops [.mv 6 5,.mv 7 0,.len 8 7,.bin 9 .lss 6 8]) (.cond 9 .skip (.exit 0))) (.seq (.block 1 (.seq (.ops [.mv 12 0,.mv 13 5,.ia 14 1 12 13,.ld 15 1 false 14,.mv 16 1,.bin 17 .eql 15 16]) (.cond 17 (.seq (.ops [.asg 4 (kB true)]) .ret) .skip))) (.ops [.mv 10 5,.bin 11 .add 10 (kI 1),.asg 5 11]))))
def aPa:AC:=(.seq (.ops [.asg 4 (kB false)]) .ret)
def bCg:AC:=(.seq (.ops [.asg 4 (kB false)]) (.seq (.seq (.ops [.asg 5 (kI 0)]) (.block 0 aLl)) aPa))
theorem bO9:aV Tryz.prog 81=some (bCg,[.mv 0 4],18):=by kernel_rfl
def aSy (r:Bool):Exit→St→Prop:=aU [.mv 0 4] fun x _=>x=(fun y=>(vB y)) r
def bGk (r:Bool):Exit→St→Prop:=(bF (wkK (avc Tryz.prog aPa (aSy r))) (aSy r))
def bB0 (r:Bool):Exit→St→Prop:=(bG 0 (bGk r))
def bF2 (p0:(List Int)) (p1:Int) (x5:Int):St:=⟨[(0,(bX p0)),(1,(vI p1)),(5,(vI x5))],[]⟩
abbrev aDg (p0:(List Int)) (p1:Int) (x5:Int) (r:Bool):Prop:=avc Tryz.prog aLl (bB0 r) (bF2 p0 p1 x5)
def bSn:AC:=(.seq (.ops [.box 2 33 0,.asg 4 (kI 0)]) (.seq (.ops [.fa 5 1 2,.ld 6 8 true 5,.mv 7 1,.call (some 8) 13 [6,7],.asg 1 8]) (.seq (.seq (.ops [.mv 9 1,.bin 10 .lss 9 (kI 0)]) (.cond 10 (.seq (.ops [.asg 4 (kI (-1))]) .ret) .skip)) (.seq (.ops [.fa 11 10 2,.ld 12 1 false 11,.mv 13 1,.call (some 14) 14 [12,13],.asg 1 14]) (.seq (.seq (.ops [.mv 15 1,.bin 16 .lss 15 (kI 0)]) (.cond 16 (.seq (.ops [.asg 4 (kI (-1))]) .ret) .skip)) (.seq (.ops [.fa 17 11 2,.ld 18 1 false 17,.mv 19 1,.call (some 20) 15 [18,19],.asg 1 20]) (.seq (.seq (.ops [.mv 21 1,.bin 22 .lss 21 (kI 0)]) (.cond 22 (.seq (.ops [.asg 4 (kI (-1))]) .ret) .skip)) (.seq (.ops [.fa 23 12 2,.ld 24 1 false 23,.mv 25 1,.call (some 26) 16 [24,25],.asg 1 26]) (.seq (.seq (.ops [.mv 27 1,.bin 28 .lss 27 (kI 0)]) (.cond 28 (.seq (.ops [.asg 4 (kI (-1))]) .ret) .skip)) (.seq (.ops [.fa 29 13 2,.ld 30 1 false 29,.mv 31 1,.call (some 32) 16 [30,31],.asg 1 32]) (.seq (.seq (.ops [.mv 33 1,.bin 34 .lss 33 (kI 0)]) (.cond 34 (.seq (.ops [.asg 4 (kI (-1))]) .ret) .skip)) (.seq (.ops [.mv 35 1,.asg 4 35]) .ret))))))))))))
theorem bQs:aV Tryz.prog 5=some (bSn,[.mv 0 4],36):=by kernel_rfl
def cE2 (r:Int):Exit→St→Prop:=aU [.mv 0 4] fun x _=>x=(fun y=>(vI y)) r
def aNb:AC:=(.loop (.seq (.seq (.ops [.mv 12 5,.mv 13 0,.len 14 13,.bin 15 .lss 12 14]) (.cond 15 .skip (.exit 0))) (.seq (.block 1 (.seq (.ops [.mv 18 0,.mv 19 5,.ia 20 10 18 19,.ld 21 10 true 20,.mv 22 1,.call (some 23) 32 [21,22],.asg 1 23]) (.seq (.ops [.mv 24 1,.bin 25 .lss 24 (kI 0)]) (.cond 25 (.seq (.ops [.asg 4 (kI (-1))]) .ret) .skip)))) (.ops [.mv 16 5,.bin 17 .add 16 (kI 1),.asg 5 17]))))
def aU8:AC:=(.seq (.ops [.mv 26 1,.asg 4 26]) .ret)
def bVj:AC:=(.seq (.ops [.asg 4 (kI 0)]) (.seq (.ops [.mv 6 1,.mv 7 0,.len 8 7,.bin 9 .sub 6 8,.asg 1 9]) (.seq (.seq (.ops [.mv 10 1,.bin 11 .lss 10 (kI 0)]) (.cond 11 (.seq (.ops [.asg 4 (kI (-1))]) .ret) .skip)) (.seq (.seq (.ops [.asg 5 (kI 0)]) (.block 0 aNb)) aU8))))
theorem bW2:aV Tryz.prog 16=some (bVj,[.mv 0 4],27):=by kernel_rfl
def aSv (r:Int):Exit→St→Prop:=aU [.mv 0 4] fun x _=>x=(fun y=>(vI y)) r
def bRa (r:Int):Exit→St→Prop:=(bF (wkK (avc Tryz.prog aU8 (aSv r))) (aSv r))
def bNy (r:Int):Exit→St→Prop:=(bG 0 (bRa r))
def bMp (p0:(List aA)) (x1:Int) (x5:Int):St:=⟨[(0,(bN p0)),(1,(vI x1)),(5,(vI x5))],[]⟩
abbrev aDh (p0:(List aA)) (x1:Int) (x5:Int) (r:Int):Prop:=avc Tryz.prog aNb (bNy r) (bMp p0 x1 x5)
def bR6:AC:=(.seq (.ops [.box 2 79 0,.asg 4 (kI 0)]) (.seq (.ops [.fa 5 3 2,.ld 6 3 true 5,.mv 7 1,.call (some 8) 63 [6,7],.asg 1 8]) (.seq (.seq (.ops [.mv 9 1,.bin 10 .lss 9 (kI 0)]) (.cond 10 (.seq (.ops [.asg 4 (kI (-1))]) .ret) .skip)) (.seq (.ops [.fa 11 8 2,.ld 12 1 false 11,.mv 13 1,.call (some 14) 16 [12,13],.asg 1 14]) (.seq (.seq (.ops [.mv 15 1,.bin 16 .lss 15 (kI 0)]) (.cond 16 (.seq (.ops [.asg 4 (kI (-1))]) .ret) .skip)) (.seq (.ops [.fa 17 9 2,.ld 18 1 false 17,.mv 19 1,.call (some 20) 64 [18,19],.asg 1 20]) (.seq (.seq (.ops [.mv 21 1,.bin 22 .lss 21 (kI 0)]) (.cond 22 (.seq (.ops [.asg 4 (kI (-1))]) .ret) .skip)) (.seq (.ops [.mv 23 1,.asg 4 23]) .ret))))))))
theorem bQd:aV Tryz.prog 32=some (bR6,[.mv 0 4],24):=by kernel_rfl
def cFj (r:Int):Exit→St→Prop:=aU [.mv 0 4] fun x _=>x=(fun y=>(vI y)) r
def aHk:AC:=(.loop (.seq (.seq (.ops [.mv 12 5,.mv 13 0,.len 14 13,.bin 15 .lss 12 14]) (.cond 15 .skip (.exit 0))) (.seq (.block 1 (.seq (.ops [.mv 18 0,.mv 19 5,.ia 20 8 18 19,.ld 21 8 true 20,.mv 22 1,.call (some 23) 13 [21,22],.asg 1 23]) (.seq (.ops [.mv 24 1,.bin 25 .lss 24 (kI 0)]) (.cond 25 (.seq (.ops [.asg 4 (kI (-1))]) .ret) .skip)))) (.ops [.mv 16 5,.bin 17 .add 16 (kI 1),.asg 5 17]))))
def aZ7:AC:=(.seq (.ops [.mv 26 1,.asg 4 26]) .ret)
def bK5:AC:=(.seq (.ops [.asg 4 (kI 0)]) (.seq (.ops [.mv 6 1,.mv 7 0,.len 8 7,.bin 9 .sub 6 8,.asg 1 9]) (.seq (.seq (.ops [.mv 10 1,.bin 11 .lss 10 (kI 0)]) (.cond 11 (.seq (.ops [.asg 4 (kI (-1))]) .ret) .skip)) (.seq (.seq (.ops [.asg 5 (kI 0)]) (.block 0 aHk)) aZ7))))
theorem bV9:aV Tryz.prog 64=some (bK5,[.mv 0 4],27):=by kernel_rfl
def aU3 (r:Int):Exit→St→Prop:=aU [.mv 0 4] fun x _=>x=(fun y=>(vI y)) r
def bW8 (r:Int):Exit→St→Prop:=(bF (wkK (avc Tryz.prog aZ7 (aU3 r))) (aU3 r))
def bQ5 (r:Int):Exit→St→Prop:=(bG 0 (bW8 r))
def bR9 (p0:(List aB)) (x1:Int) (x5:Int):St:=⟨[(0,(eH p0)),(1,(vI x1)),(5,(vI x5))],[]⟩
abbrev aDa (p0:(List aB)) (x1:Int) (x5:Int) (r:Int):Prop:=avc Tryz.prog aHk (bQ5 r) (bR9 p0 x1 x5)
def bDa:AC:=(.seq (.ops [.box 2 31 0,.asg 4 (kI 0)]) (.seq (.ops [.fa 5 0 2,.ld 6 1 false 5,.mv 7 1,.call (some 8) 15 [6,7],.asg 1 8]) (.seq (.seq (.ops [.mv 9 1,.bin 10 .lss 9 (kI 0)]) (.cond 10 (.seq (.ops [.asg 4 (kI (-1))]) .ret) .skip)) (.seq (.ops [.fa 11 1 2,.ld 12 1 false 11,.mv 13 1,.call (some 14) 14 [12,13],.asg 1 14]) (.seq (.seq (.ops [.mv 15 1,.bin 16 .lss 15 (kI 0)]) (.cond 16 (.seq (.ops [.asg 4 (kI (-1))]) .ret) .skip)) (.seq (.ops [.fa 17 2 2,.ld 18 1 false 17,.mv 19 1,.call (some 20) 16 [18,19],.asg 1 20]) (.seq (.seq (.ops [.mv 21 1,.bin 22 .lss 21 (kI 0)]) (.cond 22 (.seq (.ops [.asg 4 (kI (-1))]) .ret) .skip)) (.seq (.ops [.fa 23 3 2,.ld 24 1 false 23,.mv 25 1,.call (some 26) 30 [24,25],.asg 1 26]) (.seq (.seq (.ops [.mv 27 1,.bin 28 .lss 27 (kI 0)]) (.cond 28 (.seq (.ops [.asg 4 (kI (-1))]) .ret) .skip)) (.seq (.ops [.fa 29 4 2,.ld 30 1 false 29,.mv 31 1,.call (some 32) 16 [30,31],.asg 1 32]) (.seq (.seq (.ops [.mv 33 1,.bin 34 .lss 33 (kI 0)]) (.cond 34 (.seq (.ops [.asg 4 (kI (-1))]) .ret) .skip)) (.seq (.ops [.fa 35 5 2,.ld 36 1 false 35,.mv 37 1,.call (some 38) 31 [36,37],.asg 1 38]) (.seq (.seq (.ops [.mv 39 1,.bin 40 .lss 39 (kI 0)]) (.cond 40 (.seq (.ops [.asg 4 (kI (-1))]) .ret) .skip)) (.seq (.ops [.mv 41 1,.asg 4 41]) .ret))))))))))))))
theorem bDd:aV Tryz.prog 13=some (bDa,[.mv 0 4],42):=by kernel_rfl
def cHa (r:Int):Exit→St→Prop:=aU [.mv 0 4] fun x _=>x=(fun y=>(vI y)) r
def aL2:AC:=(.loop (.seq (.seq (.ops [.mv 12 5,.mv 13 0,.len 14 13,.bin 15 .lss 12 14]) (.cond 15 .skip (.exit 0))) (.seq (.block 1 (.seq (.ops [.mv 18 0,.mv 19 5,.ia 20 11 18 19,.ld 21 11 true 20,.mv 22 1,.call (some 23) 62 [21,22],.asg 1 23]) (.seq (.ops [.mv 24 1,.bin 25 .lss 24 (kI 0)]) (.cond 25 (.seq (.ops [.asg 4 (kI (-1))]) .ret) .skip)))) (.ops [.mv 16 5,.bin 17 .add 16 (kI 1),.asg 5 17]))))
def aVc:AC:=(.seq (.ops [.mv 26 1,.asg 4 26]) .ret)
def bLv:AC:=(.seq (.ops [.asg 4 (kI 0)]) (.seq (.ops [.mv 6 1,.mv 7 0,.len 8 7,.bin 9 .sub 6 8,.asg 1 9]) (.seq (.seq (.ops [.mv 10 1,.bin 11 .lss 10 (kI 0)]) (.cond 11 (.seq (.ops [.asg 4 (kI (-1))]) .ret) .skip)) (.seq (.seq (.ops [.asg 5 (kI 0)]) (.block 0 aL2)) aVc))))
theorem bPs:aV Tryz.prog 30=some (bLv,[.mv 0 4],27):=by kernel_rfl
def aQy (r:Int):Exit→St→Prop:=aU [.mv 0 4] fun x _=>x=(fun y=>(vI y)) r
def bC7 (r:Int):Exit→St→Prop:=(bF (wkK (avc Tryz.prog aVc (aQy r))) (aQy r))
def cDe (r:Int):Exit→St→Prop:=(bG 0 (bC7 r))
def cD8 (p0:(List aY)) (x1:Int) (x5:Int):St:=⟨[(0,(eP p0)),(1,(vI x1)),(5,(vI x5))],[]⟩
abbrev aBc (p0:(List aY)) (x1:Int) (x5:Int) (r:Int):Prop:=avc Tryz.prog aL2 (cDe r) (cD8 p0 x1 x5)
def bGr:AC:=(.seq (.ops [.box 2 112 0,.asg 4 (kI 0)]) (.seq (.ops [.fa 5 0 2,.ld 6 10 true 5,.mv 7 1,.call (some 8) 32 [6,7],.asg 1 8]) (.seq (.seq (.ops [.mv 9 1,.bin 10 .lss 9 (kI 0)]) (.cond 10 (.seq (.ops [.asg 4 (kI (-1))]) .ret) .skip)) (.seq (.ops [.mv 11 1,.asg 4 11]) .ret))))
theorem bOn:aV Tryz.prog 62=some (bGr,[.mv 0 4],12):=by kernel_rfl
def cFw (r:Int):Exit→St→Prop:=aU [.mv 0 4] fun x _=>x=(fun y=>(vI y)) r
def bU3:AC:=(.seq (.ops [.asg 4 (kI 0)]) (.seq (.ops [.mv 5 1,.mv 6 0,.len 7 6,.bin 8 .sub 5 7,.asg 1 8]) (.seq (.seq (.ops [.mv 9 1,.bin 10 .lss 9 (kI 0)]) (.cond 10 (.seq (.ops [.asg 4 (kI (-1))]) .ret) .skip)) (.seq (.ops [.mv 11 1,.asg 4 11]) .ret))))
theorem bMg:aV Tryz.prog 15=some (bU3,[.mv 0 4],12):=by kernel_rfl
def cH2 (r:Int):Exit→St→Prop:=aU [.mv 0 4] fun x _=>x=(fun y=>(vI y)) r
def aMm:AC:=(.loop (.seq (.seq (.ops [.mv 12 5,.mv 13 0,.len 14 13,.bin 15 .lss 12 14]) (.cond 15 .skip (.exit 0))) (.seq (.block 1 (.seq (.ops [.mv 18 1,.mv 19 0,.mv 20 5,.ia 21 1 19 20,.ld 22 1 false 21,.lns 23 22,.bin 24 .sub 18 23,.asg 1 24]) (.seq (.ops [.mv 25 1,.bin 26 .lss 25 (kI 0)]) (.cond 26 (.seq (.ops [.asg 4 (kI (-1))]) .ret) .skip)))) (.ops [.mv 16 5,.bin 17 .add 16 (kI 1),.asg 5 17]))))
def aV9:AC:=(.seq (.ops [.mv 27 1,.asg 4 27]) .ret)
def cBp:AC:=(.seq (.ops [.asg 4 (kI 0)]) (.seq (.ops [.mv 6 1,.mv 7 0,.len 8 7,.bin 9 .sub 6 8,.asg 1 9]) (.seq (.seq (.ops [.mv 10 1,.bin 11 .lss 10 (kI 0)]) (.cond 11 (.seq (.ops [.asg 4 (kI (-1))]) .ret) .skip)) (.seq (.seq (.ops [.asg 5 (kI 0)]) (.block 0 aMm)) aV9))))
theorem bJq:aV Tryz.prog 31=some (cBp,[.mv 0 4],28):=by kernel_rfl
def aQs (r:Int):Exit→St→Prop:=aU [.mv 0 4] fun x _=>x=(fun y=>(vI y)) r
def bDo (r:Int):Exit→St→Prop:=(bF (wkK (avc Tryz.prog aV9 (aQs r))) (aQs r))
def bLz (r:Int):Exit→St→Prop:=(bG 0 (bDo r))
def bYs (p0:(List (List UInt8))) (x1:Int) (x5:Int):St:=⟨[(0,(fK p0)),(1,(vI x1)),(5,(vI x5))],[]⟩
abbrev aFs (p0:(List (List UInt8))) (x1:Int) (x5:Int) (r:Int):Prop:=avc Tryz.prog aMm (bLz r) (bYs p0 x1 x5)
def aKd:AC:=(.loop (.seq (.seq (.ops [.mv 12 5,.mv 13 0,.len 14 13,.bin 15 .lss 12 14]) (.cond 15 .skip (.exit 0))) (.seq (.block 1 (.seq (.ops [.mv 18 0,.mv 19 5,.ia 20 1 18 19,.ld 21 1 false 20,.mv 22 1,.call (some 23) 16 [21,22],.asg 1 23]) (.seq (.ops [.mv 24 1,.bin 25 .lss 24 (kI 0)]) (.cond 25 (.seq (.ops [.asg 4 (kI (-1))]) .ret) .skip)))) (.ops [.mv 16 5,.bin 17 .add 16 (kI 1),.asg 5 17]))))
def aZl:AC:=(.seq (.ops [.mv 26 1,.asg 4 26]) .ret)
def bGd:AC:=(.seq (.ops [.asg 4 (kI 0)]) (.seq (.ops [.mv 6 1,.mv 7 0,.len 8 7,.bin 9 .sub 6 8,.asg 1 9]) (.seq (.seq (.ops [.mv 10 1,.bin 11 .lss 10 (kI 0)]) (.cond 11 (.seq (.ops [.asg 4 (kI (-1))]) .ret) .skip)) (.seq (.seq (.ops [.asg 5 (kI 0)]) (.block 0 aKd)) aZl))))
theorem bDb:aV Tryz.prog 14=some (bGd,[.mv 0 4],27):=by kernel_rfl
def aQz (r:Int):Exit→St→Prop:=aU [.mv 0 4] fun x _=>x=(fun y=>(vI y)) r
def cAb (r:Int):Exit→St→Prop:=(bF (wkK (avc Tryz.prog aZl (aQz r))) (aQz r))
def bZh (r:Int):Exit→St→Prop:=(bG 0 (cAb r))
def bE9 (p0:(List (List aA))) (x1:Int) (x5:Int):St:=⟨[(0,(.d (.sl 1 (p0.map (cSl 10 aZ))))),(1,(vI x1)),(5,(vI x5))],[]⟩
abbrev aBs (p0:(List (List aA))) (x1:Int) (x5:Int) (r:Int):Prop:=avc Tryz.prog aKd (bZh r) (bE9 p0 x1 x5)
def bQy:AC:=(.seq (.ops [.box 2 76 0,.asg 4 (kI 0)]) (.seq (.ops [.mv 5 1,.fa 6 2 2,.ld 7 1 false 6,.lns 8 7,.bin 9 .sub 5 8,.asg 1 9]) (.seq (.seq (.ops [.mv 10 1,.bin 11 .lss 10 (kI 0)]) (.cond 11 (.seq (.ops [.asg 4 (kI (-1))]) .ret) .skip)) (.seq (.ops [.mv 12 1,.asg 4 12]) .ret))))
theorem bQv:aV Tryz.prog 63=some (bQy,[.mv 0 4],13):=by kernel_rfl
def cDy (r:Int):Exit→St→Prop:=aU [.mv 0 4] fun x _=>x=(fun y=>(vI y)) r
def bIt:AC:=(.seq (.ops [.box 2 39 0,.box 3 39 1,.asg 4 (kB false)]) (.seq (.seq (.ops [.fa 5 0 2,.ld 6 1 false 5,.fa 7 0 3,.ld 8 1 false 7,.call (some 9) 24 [6,8],.not 10 9]) (.cond 10 (.seq (.ops [.asg 4 (kB false)]) .ret) .skip)) (.seq (.ops [.asg 4 (kB true)]) .ret)))
theorem bL5:aV Tryz.prog 10=some (bIt,[.mv 0 4],11):=by kernel_rfl
def cEl (r:Bool):Exit→St→Prop:=aU [.mv 0 4] fun x _=>x=(fun y=>(vB y)) r
def aOg:AC:=(.loop (.seq (.seq (.ops [.mv 11 5,.mv 12 0,.len 13 12,.bin 14 .lss 11 13]) (.cond 14 .skip (.exit 0))) (.seq (.block 1 (.seq (.dops [[],[],[0,1],[2],[],[],[4,5],[6],[3,7],[8]] [.mv 17 0,.mv 18 5,.ia 19 2 17 18,.ld 20 2 true 19,.mv 21 1,.mv 22 5,.ia 23 2 21 22,.ld 24 2 true 23,.call (some 25) 57 [20,24],.not 26 25]) (.cond 26 (.seq (.ops [.asg 4 (kB false)]) .ret) .skip))) (.ops [.mv 15 5,.bin 16 .add 15 (kI 1),.asg 5 16]))))
def aZx:AC:=(.seq (.ops [.asg 4 (kB true)]) .ret)
def bQ1:AC:=(.seq (.ops [.asg 4 (kB false)]) (.seq (.seq (.ops [.mv 6 0,.len 7 6,.mv 8 1,.len 9 8,.bin 10 .neq 7 9]) (.cond 10 (.seq (.ops [.asg 4 (kB false)]) .ret) .skip)) (.seq (.seq (.ops [.asg 5 (kI 0)]) (.block 0 aOg)) aZx)))
theorem bXe:aV Tryz.prog 24=some (bQ1,[.mv 0 4],27):=by kernel_rfl
def aQc (r:Bool):Exit→St→Prop:=aU [.mv 0 4] fun x _=>x=(fun y=>(vB y)) r
def bRt (r:Bool):Exit→St→Prop:=(bF (wkK (avc Tryz.prog aZx (aQc r))) (aQc r))
def bGh (r:Bool):Exit→St→Prop:=(bG 0 (bRt r))
def bFb (p0:(List bD)) (p1:(List bD)) (x5:Int):St:=⟨[(0,(iI p0)),(1,(iI p1)),(5,(vI x5))],[]⟩
abbrev aDd (p0:(List bD)) (p1:(List bD)) (x5:Int) (r:Bool):Prop:=avc Tryz.prog aOg (bGh r) (bFb p0 p1 x5)
def cAz:AC:=(.seq (.ops [.box 2 87 0,.box 3 87 1,.asg 4 (kB false)]) (.seq (.seq (.ops [.fa 5 0 2,.ld 6 1 false 5,.fa 7 0 3,.ld 8 1 false 7,.bin 9 .neq 6 8]) (.cond 9 (.seq (.ops [.asg 4 (kB false)]) .ret) .skip)) (.seq (.seq (.ops [.fa 10 1 2,.ld 11 1 false 10,.fa 12 1 3,.ld 13 1 false 12,.call (some 14) 100 [11,13],.not 15 14]) (.cond 15 (.seq (.ops [.asg 4 (kB false)]) .ret) .skip)) (.seq (.ops [.asg 4 (kB true)]) .ret))))
theorem bLu:aV Tryz.prog 57=some (cAz,[.mv 0 4],16):=by kernel_rfl
def cEz (r:Bool):Exit→St→Prop:=aU [.mv 0 4] fun x _=>x=(fun y=>(vB y)) r
def aMg:AC:=(.loop (.seq (.seq (.ops [.mv 11 5,.mv 12 0,.len 13 12,.bin 14 .lss 11 13]) (.cond 14 .skip (.exit 0))) (.seq (.block 1 (.seq (.dops [[],[],[0,1],[2],[],[],[4,5],[6],[3,7],[8]] [.mv 17 0,.mv 18 5,.ia 19 2 17 18,.ld 20 2 true 19,.mv 21 1,.mv 22 5,.ia 23 2 21 22,.ld 24 2 true 23,.call (some 25) 137 [20,24],.not 26 25]) (.cond 26 (.seq (.ops [.asg 4 (kB false)]) .ret) .skip))) (.ops [.mv 15 5,.bin 16 .add 15 (kI 1),.asg 5 16]))))
def aZ4:AC:=(.seq (.ops [.asg 4 (kB true)]) .ret)
def bT8:AC:=(.seq (.ops [.asg 4 (kB false)]) (.seq (.seq (.ops [.mv 6 0,.len 7 6,.mv 8 1,.len 9 8,.bin 10 .neq 7 9]) (.cond 10 (.seq (.ops [.asg 4 (kB false)]) .ret) .skip)) (.seq (.seq (.ops [.asg 5 (kI 0)]) (.block 0 aMg)) aZ4)))
theorem bZt:aV Tryz.prog 100=some (bT8,[.mv 0 4],27):=by kernel_rfl
def aRi (r:Bool):Exit→St→Prop:=aU [.mv 0 4] fun x _=>x=(fun y=>(vB y)) r
def bJ2 (r:Bool):Exit→St→Prop:=(bF (wkK (avc Tryz.prog aZ4 (aRi r))) (aRi r))
def bBy (r:Bool):Exit→St→Prop:=(bG 0 (bJ2 r))
def bBm (p0:(List bL)) (p1:(List bL)) (x5:Int):St:=⟨[(0,(iA p0)),(1,(iA p1)),(5,(vI x5))],[]⟩
abbrev aB9 (p0:(List bL)) (p1:(List bL)) (x5:Int) (r:Bool):Prop:=avc Tryz.prog aMg (bBy r) (bBm p0 p1 x5)
def cCz:AC:=(.seq (.ops [.box 2 121 0,.box 3 121 1,.asg 4 (kB false)]) (.seq (.seq (.ops [.fa 5 0 2,.ld 6 1 false 5,.fa 7 0 3,.ld 8 1 false 7,.bin 9 .neq 6 8]) (.cond 9 (.seq (.ops [.asg 4 (kB false)]) .ret) .skip)) (.seq (.seq (.ops [.fa 10 1 2,.ld 11 1 false 10,.fa 12 1 3,.ld 13 1 false 12,.bin 14 .neq 11 13]) (.cond 14 (.seq (.ops [.asg 4 (kB false)]) .ret) .skip)) (.seq (.ops [.asg 4 (kB true)]) .ret))))
theorem bW5:aV Tryz.prog 137=some (cCz,[.mv 0 4],15):=by kernel_rfl
def cHc (r:Bool):Exit→St→Prop:=aU [.mv 0 4] fun x _=>x=(fun y=>(vB y)) r
theorem bX4 (x:bL) (h:∀ d ∈ gL x,OkD d):okGCol x:=⟨nH _ (bR h 0 1),iJ _ (bR h 1 1)⟩
theorem bH3 (x:bD) (h:∀ d ∈ iQ x,OkD d):okGTable x:=⟨nH _ (bR h 0 1),oQ _ (fun y hy=>bX4 y hy) (bR h 1 1)⟩
theorem bJy (x:aJ) (h:∀ d ∈ K6 x,OkD d):okGCatalog x:=oQ _ (fun y hy=>bH3 y hy) (bR h 0 1)
theorem aP5 (x:dF) (h:∀ d ∈ uR x,OkD d):okGValue x:=⟨iJ _ (bR h 0 1),iJ _ (bR h 1 1),nH _ (bR h 2 1)⟩
mutual
theorem aA6:∀ x:aA,(∀ d ∈ aZ x,OkD d)→okGPExpr x
  | ⟨a0,a1,a2,a3,a4,a5,a6,a7⟩,h0=>by
    rw [iW] at h0
    have h:∀ d ∈ iC ⟨a0,a1,a2,a3,a4,a5,a6,a7⟩,OkD d:=h0
    unfold okGPExpr
    exact ⟨iJ _ (bR h 0 1),iJ _ (bR h 1 1),trivial,aP5 a3 (bR h 3 3),iJ _ (bR h 6 1),iJ _ (bR h 7 1),⟨by simpa using (fB (bR h 8 1)).1,aA7 a6 (fB (bR h 8 1)).2⟩,⟨by simpa using (fB (bR h 9 1)).1,aUl a7 (fB (bR h 9 1)).2⟩⟩
theorem cCk:∀ x:aY,(∀ d ∈ gG x,OkD d)→okGPSort x
  | ⟨a0,a1⟩,h0=>by
    rw [sS] at h0
    have h:∀ d ∈ lQ ⟨a0,a1⟩,OkD d:=h0
    unfold okGPSort
    exact ⟨aA6 a0 (by rw [iW]; exact (bR h 0 10)),trivial⟩
theorem aZk:∀ x:aB,(∀ d ∈ gU x,OkD d)→okGPlan x
  | ⟨a0,a1,a2,a3,a4,a5,a6,a7⟩,h0=>by
    rw [uE] at h0
    have h:∀ d ∈ uO ⟨a0,a1,a2,a3,a4,a5,a6,a7⟩,OkD d:=h0
    unfold okGPlan
    exact ⟨oQ _ (fun y hy=>iJ _ hy) (bR h 0 1),⟨by simpa using (fB (bR h 1 1)).1,aP0 a1 (fB (bR h 1 1)).2⟩,⟨by simpa using (fB (bR h 2 1)).1,aA7 a2 (fB (bR h 2 1)).2⟩,⟨by simpa using (fB (bR h 3 1)).1,aYs a3 (fB (bR h 3 1)).2⟩,⟨by simpa using (fB (bR h 4 1)).1,aA7 a4 (fB (bR h 4 1)).2⟩,oQ _ (fun y hy=>nH _ hy) (bR h 5 1),trivial,iJ _ (bR h 7 1)⟩
theorem aA7:∀ l:List aA,(∀ x ∈ l.map aZ,∀ d ∈ x,OkD d)→okLGPExpr l
  | [],_=>by unfold okLGPExpr; trivial
  | x::l,h=>by
    unfold okLGPExpr
    exact ⟨aA6 x (h _ (by simp)),aA7 l fun y hy=>h y (List.mem_cons_of_mem _ hy)⟩
theorem aYs:∀ l:List aY,(∀ x ∈ l.map gG,∀ d ∈ x,OkD d)→okLGPSort l
  | [],_=>by unfold okLGPSort; trivial
  | x::l,h=>by
    unfold okLGPSort
    exact ⟨cCk x (h _ (by simp)),aYs l fun y hy=>h y (List.mem_cons_of_mem _ hy)⟩
theorem aUl:∀ l:List aB,(∀ x ∈ l.map gU,∀ d ∈ x,OkD d)→okLGPlan l
  | [],_=>by unfold okLGPlan; trivial
  | x::l,h=>by
    unfold okLGPlan
    exact ⟨aZk x (h _ (by simp)),aUl l fun y hy=>h y (List.mem_cons_of_mem _ hy)⟩
theorem aP0:∀ l:List (List aA),(∀ x ∈ l.map (cSl 10 aZ),∀ d ∈ x,OkD d)→okLLGPExpr l
  | [],_=>by unfold okLLGPExpr; trivial
  | x::l,h=>by
    unfold okLLGPExpr
    have h1:∀ d ∈ cSl 10 aZ x,OkD d:=h _ (by simp)
    exact ⟨⟨by simpa using (fB h1).1,aA7 x (fB h1).2⟩,aP0 l fun y hy=>h y (List.mem_cons_of_mem _ hy)⟩
end
theorem bMq (x:bM) (h:∀ d ∈ C8 x,OkD d):okGSPlan x:=⟨iJ _ (bR h 0 1),aZk x.plan (by rw [uE]; exact bR h 1 8),iJ _ (bR h 9 1),oQ _ (fun y hy=>oQ _ (fun y hy=>aA6 y hy) hy) (bR h 10 1),oQ _ (fun y hy=>iJ _ hy) (bR h 11 1),oQ _ (fun y hy=>aA6 y hy) (bR h 12 1),oQ _ (fun y hy=>aA6 y hy) (bR h 13 1)⟩
mutual
theorem aJ1:∀ x:cO,(∀ d ∈ jQ x,OkD d)→okGExpr x
  | ⟨a0,a1,a2,a3,a4,a5,a6,a7⟩,h0=>by
    rw [G7] at h0
    have h:∀ d ∈ rF ⟨a0,a1,a2,a3,a4,a5,a6,a7⟩,OkD d:=h0
    unfold okGExpr
    exact ⟨iJ _ (bR h 0 1),iJ _ (bR h 1 1),trivial,aP5 a3 (bR h 3 3),nH _ (bR h 6 1),nH _ (bR h 7 1),⟨by simpa using (fB (bR h 8 1)).1,aCq a6 (fB (bR h 8 1)).2⟩,⟨by simpa using (fB (bR h 9 1)).1,aPo a7 (fB (bR h 9 1)).2⟩⟩
theorem bUq:∀ x:jG,(∀ d ∈ wB x,OkD d)→okGItem x
  | ⟨a0,a1,a2,a3⟩,h0=>by
    rw [bKm] at h0
    have h:∀ d ∈ Y6 ⟨a0,a1,a2,a3⟩,OkD d:=h0
    unfold okGItem
    exact ⟨trivial,nH _ (bR h 1 1),aJ1 a2 (by rw [G7]; exact (bR h 2 10)),nH _ (bR h 12 1)⟩
theorem bXk:∀ x:eY,(∀ d ∈ mJ x,OkD d)→okGQuery x
  | ⟨a0,a1,a2,a3,a4,a5⟩,h0=>by
    rw [aVj] at h0
    have h:∀ d ∈ yR ⟨a0,a1,a2,a3,a4,a5⟩,OkD d:=h0
    unfold okGQuery
    exact ⟨trivial,⟨by simpa using (fB (bR h 1 1)).1,aPl a1 (fB (bR h 1 1)).2⟩,⟨by simpa using (fB (bR h 2 1)).1,aQh a2 (fB (bR h 2 1)).2⟩,⟨by simpa using (fB (bR h 3 1)).1,aCq a3 (fB (bR h 3 1)).2⟩,⟨by simpa using (fB (bR h 4 1)).1,aU2 a4 (fB (bR h 4 1)).2⟩,iJ _ (bR h 5 1)⟩
theorem bWv:∀ x:jC,(∀ d ∈ wP x,OkD d)→okGSortKey x
  | ⟨a0,a1⟩,h0=>by
    rw [bL1] at h0
    have h:∀ d ∈ aAs ⟨a0,a1⟩,OkD d:=h0
    unfold okGSortKey
    exact ⟨aJ1 a0 (by rw [G7]; exact (bR h 0 10)),trivial⟩
theorem bTn:∀ x:jM,(∀ d ∈ wM x,OkD d)→okGSource x
  | ⟨a0,a1,a2⟩,h0=>by
    rw [bU5] at h0
    have h:∀ d ∈ aA2 ⟨a0,a1,a2⟩,OkD d:=h0
    unfold okGSource
    exact ⟨nH _ (bR h 0 1),nH _ (bR h 1 1),⟨by simpa using (fB (bR h 2 1)).1,aCq a2 (fB (bR h 2 1)).2⟩⟩
theorem aCq:∀ l:List cO,(∀ x ∈ l.map jQ,∀ d ∈ x,OkD d)→okLGExpr l
  | [],_=>by unfold okLGExpr; trivial
  | x::l,h=>by
    unfold okLGExpr
    exact ⟨aJ1 x (h _ (by simp)),aCq l fun y hy=>h y (List.mem_cons_of_mem _ hy)⟩
theorem aPl:∀ l:List jG,(∀ x ∈ l.map wB,∀ d ∈ x,OkD d)→okLGItem l
  | [],_=>by unfold okLGItem; trivial
  | x::l,h=>by
    unfold okLGItem
    exact ⟨bUq x (h _ (by simp)),aPl l fun y hy=>h y (List.mem_cons_of_mem _ hy)⟩
theorem aPo:∀ l:List eY,(∀ x ∈ l.map mJ,∀ d ∈ x,OkD d)→okLGQuery l
  | [],_=>by unfold okLGQuery; trivial
  | x::l,h=>by
    unfold okLGQuery
    exact ⟨bXk x (h _ (by simp)),aPo l fun y hy=>h y (List.mem_cons_of_mem _ hy)⟩
theorem aU2:∀ l:List jC,(∀ x ∈ l.map wP,∀ d ∈ x,OkD d)→okLGSortKey l
  | [],_=>by unfold okLGSortKey; trivial
  | x::l,h=>by
    unfold okLGSortKey
    exact ⟨bWv x (h _ (by simp)),aU2 l fun y hy=>h y (List.mem_cons_of_mem _ hy)⟩
theorem aQh:∀ l:List jM,(∀ x ∈ l.map wM,∀ d ∈ x,OkD d)→okLGSource l
  | [],_=>by unfold okLGSource; trivial
  | x::l,h=>by
    unfold okLGSource
    exact ⟨bTn x (h _ (by simp)),aQh l fun y hy=>h y (List.mem_cons_of_mem _ hy)⟩
end
theorem cEa (x:fV) (h:∀ d ∈ aMp x,OkD d):okGForm x:=⟨trivial,trivial,trivial,trivial,iJ _ (bR h 4 1),iJ _ (bR h 5 1),iJ _ (bR h 6 1)⟩
theorem de9 {l:List D} (h:WtC Tryz.prog 9 l):∃ x:(List UInt8),l=cStr x:=(bVm h kr)
theorem de3 {l:List D} (h:WtC Tryz.prog 3 l):∃ x:Int,l=cI x:=(bE1 h (k:=.i64) kr)
theorem cB7 {l:List D} (h:WtC Tryz.prog 144 l):∃ x:bL,l=gL x:=by
  obtain ⟨x0,e0⟩:=de9 (eQ h 0 (off:=0) (n:=1) kr)
  obtain ⟨x1,e1⟩:=de3 (eQ h 1 (off:=1) (n:=1) kr)
  exact ⟨⟨x0,x1⟩,(dr1 (m:=1) kr e0 (dr1 (m:=2) kr e1 (dr0 (vC h (n:=2) kr))))⟩
theorem bVk {l:List D} (h:WtC Tryz.prog 69 l):∃ x:(List bL),l=(cSl 2 gL) x:=(aGn h (e:=144) (n:=2) (c:=gL) kr kr fun x hx=>cB7 hx)
theorem bEb {l:List D} (h:WtC Tryz.prog 71 l):∃ x:bD,l=iQ x:=by
  obtain ⟨x0,e0⟩:=de9 (eQ h 0 (off:=0) (n:=1) kr)
  obtain ⟨x1,e1⟩:=bVk (eQ h 1 (off:=1) (n:=1) kr)
  exact ⟨⟨x0,x1⟩,(dr1 (m:=1) kr e0 (dr1 (m:=2) kr e1 (dr0 (vC h (n:=2) kr))))⟩
theorem bDh {l:List D} (h:WtC Tryz.prog 22 l):∃ x:(List bD),l=(cSl 2 iQ) x:=(aGn h (e:=71) (n:=2) (c:=iQ) kr kr fun x hx=>bEb hx)
theorem cCr {l:List D} (h:WtC Tryz.prog 24 l):∃ x:aJ,l=K6 x:=by
  obtain ⟨x0,e0⟩:=bDh (eQ h 0 (off:=0) (n:=1) kr)
  exact ⟨⟨x0⟩,(dr1 (m:=1) kr e0 (dr0 (vC h (n:=1) kr)))⟩
theorem aTy {l:List D} (h:WtC Tryz.prog 25 l):∃ x:(List Int),l=(cSl 1 cI) x:=(aGn h (e:=3) (n:=1) (c:=cI) kr kr fun x hx=>de3 hx)
theorem de4 {l:List D} (h:WtC Tryz.prog 4 l):∃ x:Bool,l=cB x:=(bO8 h kr)
theorem bCk {l:List D} (h:WtC Tryz.prog 76 l):∃ x:dF,l=uR x:=by
  obtain ⟨x0,e0⟩:=de3 (eQ h 0 (off:=0) (n:=1) kr)
  obtain ⟨x1,e1⟩:=de3 (eQ h 1 (off:=1) (n:=1) kr)
  obtain ⟨x2,e2⟩:=de9 (eQ h 2 (off:=2) (n:=1) kr)
  exact ⟨⟨x0,x1,x2⟩,(dr1 (m:=1) kr e0 (dr1 (m:=2) kr e1 (dr1 (m:=3) kr e2 (dr0 (vC h (n:=3) kr)))))⟩
theorem bBl {l:List D} (h:WtC Tryz.prog 29 l):∃ x:(List (List UInt8)),l=(cSl 1 cStr) x:=(aGn h (e:=9) (n:=1) (c:=cStr) kr kr fun x hx=>de9 hx)
end Go.Proofs.YthgkmdkjegiaoadGreat
