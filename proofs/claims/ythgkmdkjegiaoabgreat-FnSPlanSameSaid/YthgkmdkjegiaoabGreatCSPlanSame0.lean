/- That the code computes these functions (printed by a program). -/
import Derived.KernelRfl
import Derived.Test.YthgkmdkjegiaoabGreatAbG2
import Derived.Test.YthgkmdkjegiaoabGreatAbC3
import Derived.Test.YthgkmdkjegiaoabGreatAbX3
import Derived.Test.YthgkmdkjegiaoabGreatAbX2
import Derived.Test.YthgkmdkjegiaoabGreatFSPlanSame
import Derived.Test.YthgkmdkjegiaoabGreatProg
namespace Go.Proofs.YthgkmdkjegiaoabGreat
open Go Go.RowKit Go.Ab
attribute [local irreducible] avc bM aop dgo aV bD bG wkK O4 stz aE5 bJ eff bN.st
def cI (n:Int):List D:=[.i .i64 n]
def cU8 (n:Int):List D:=[.i .u8 n]
def cOu (n:Int):List D:=[.i .u64 n]
def cOy (n:Int):List D:=[.i .i32 n]
def cM5 (n:Int):List D:=[.i .u32 n]
def cB (b:Bool):List D:=[.b b]
def cStr (s:List UInt8):List D:=[.s (bs s)]
def cSl {α:Type} (sz:Nat) (f:α→List D) (l:List α):List D:=[.sl sz (l.map f)]
def Y4 (x:bH):List D:=[(.i .i64 x.kind),(.i .i64 x.num),(.s (bs x.text))]
def lM (x:bH):V:=.agg (Y4 x)
def aX0 (x:bH):List V:=(Y4 x).map V.d
mutual
def aJ:aA→List D
  | ⟨a0,a1,a2,a3,a4,a5,a6,a7⟩=>[(.i .i64 a0)]++[(.i .i64 a1)]++[(.b a2)]++Y4 a3++[(.i .i64 a4)]++[(.i .i64 a5)]++[.sl 10 (C8 a6)]++[.sl 8 (aDr a7)]
def dZ:bO→List D
  | ⟨a0,a1⟩=>aJ a0++[(.b a1)]
def dV:aL→List D
  | ⟨a0,a1,a2,a3,a4,a5,a6,a7⟩=>[(.sl 1 (a0.map cI))]++[.sl 1 (aD0 a1)]++[.sl 10 (C8 a2)]++[.sl 11 (aFi a3)]++[.sl 10 (C8 a4)]++[(.sl 1 (a5.map cStr))]++[(.b a6)]++[(.i .i64 a7)]
def C8:List aA→List (List D)
  | []=>[]
  | x::l=>aJ x::C8 l
def aFi:List bO→List (List D)
  | []=>[]
  | x::l=>dZ x::aFi l
def aDr:List aL→List (List D)
  | []=>[]
  | x::l=>dV x::aDr l
def aD0:List (List aA)→List (List D)
  | []=>[]
  | x::l=>[.sl 10 (C8 x)]::aD0 l
end
theorem aEi:∀ l:List aA,C8 l=l.map aJ
  | []=>by simp only [C8,List.map_nil]
  | x::l=>by simp only [C8,List.map_cons,aEi l]
theorem aKb:∀ l:List bO,aFi l=l.map dZ
  | []=>by simp only [aFi,List.map_nil]
  | x::l=>by simp only [aFi,List.map_cons,aKb l]
theorem aLk:∀ l:List aL,aDr l=l.map dV
  | []=>by simp only [aDr,List.map_nil]
  | x::l=>by simp only [aDr,List.map_cons,aLk l]
theorem aIi:∀ l:List (List aA),aD0 l=l.map (cSl 10 aJ)
  | []=>by simp only [aD0,List.map_nil]
  | x::l=>by simp only [aD0,List.map_cons,aIi l,cSl,aEi]
def fK (x:aA):List D:=[(.i .i64 x.kind),(.i .i64 x.op),(.b x.not_),(.i .i64 x.value.kind),(.i .i64 x.value.num),(.s (bs x.value.text)),(.i .i64 x.up),(.i .i64 x.at_),(.sl 10 (x.kids.map aJ)),(.sl 8 (x.sub.map dV))]
def pI (x:bO):List D:=[(.i .i64 x.expr.kind),(.i .i64 x.expr.op),(.b x.expr.not_),(.i .i64 x.expr.value.kind),(.i .i64 x.expr.value.num),(.s (bs x.expr.value.text)),(.i .i64 x.expr.up),(.i .i64 x.expr.at_),(.sl 10 (x.expr.kids.map aJ)),(.sl 8 (x.expr.sub.map dV)),(.b x.desc)]
def rQ (x:aL):List D:=[(.sl 1 (x.tables.map cI)),(.sl 1 (x.on_.map (cSl 10 aJ))),(.sl 10 (x.where_.map aJ)),(.sl 11 (x.order.map dZ)),(.sl 10 (x.items.map aJ)),(.sl 1 (x.names.map cStr)),(.b x.distinct),(.i .i64 x.limit)]
theorem gY (x:aA):aJ x=fK x:=by
  obtain ⟨a0,a1,a2,a3,a4,a5,a6,a7⟩:=x
  simp only [aJ,fK,aEi,aKb,aLk,aIi,List.cons_append,List.nil_append,Y4]
theorem R4 (x:bO):dZ x=pI x:=by
  obtain ⟨a0,a1⟩:=x
  simp only [dZ,pI,aEi,aKb,aLk,aIi,gY,fK,List.cons_append,List.nil_append]
theorem yH (x:aL):dV x=rQ x:=by
  obtain ⟨a0,a1,a2,a3,a4,a5,a6,a7⟩:=x
  simp only [dV,rQ,aEi,aKb,aLk,aIi,List.cons_append,List.nil_append]
def eZ (x:aA):V:=.agg (fK x)
def qR (x:aA):List V:=(fK x).map V.d
def zY (x:bO):V:=.agg (pI x)
def cQm (x:bO):List V:=(pI x).map V.d
def fB (x:aL):V:=.agg (rQ x)
def kL (x:aL):List V:=(rQ x).map V.d
def aO2 (x:bC):List D:=[(.i .i64 x.kind),(.sl 1 (x.plan.tables.map cI)),(.sl 1 (x.plan.on_.map (cSl 10 aJ))),(.sl 10 (x.plan.where_.map aJ)),(.sl 11 (x.plan.order.map dZ)),(.sl 10 (x.plan.items.map aJ)),(.sl 1 (x.plan.names.map cStr)),(.b x.plan.distinct),(.i .i64 x.plan.limit),(.i .i64 x.table),(.sl 1 (x.rows.map (cSl 10 aJ))),(.sl 1 (x.cols.map cI)),(.sl 10 (x.sets.map aJ)),(.sl 10 (x.where_.map aJ))]
def kT (x:bC):V:=.agg (aO2 x)
def qQ (x:bC):List V:=(aO2 x).map V.d
def fV (x:bV):List D:=[(.s (bs x.name)),(.i .i64 x.type)]
def cJa (x:bV):V:=.agg (fV x)
def bEw (x:bV):List V:=(fV x).map V.d
def dR (x:bI):List D:=[(.s (bs x.name)),(.sl 2 (x.cols.map fV))]
def V5 (x:bI):V:=.agg (dR x)
def aFd (x:bI):List V:=(dR x).map V.d
def aPr (x:aP):List D:=[(.sl 2 (x.tables.map dR))]
def dJ (x:aP):V:=.agg (aPr x)
def dD (x:aP):List V:=(aPr x).map V.d
def aQm (x:aB):List D:=[(.sl 1 (x.b.map cU8)),(.i .i64 x.i),(.i .i64 x.h)]
def cO5 (x:aB):V:=.agg (aQm x)
def aU (x:aB):List V:=(aQm x).map V.d
mutual
def nI:eO→List D
  | ⟨a0,a1,a2,a3,a4,a5,a6,a7⟩=>[(.i .i64 a0)]++[(.i .i64 a1)]++[(.b a2)]++Y4 a3++[(.s (bs a4))]++[(.s (bs a5))]++[.sl 10 (V9 a6)]++[.sl 6 (aCv a7)]
def U7:nD→List D
  | ⟨a0,a1,a2,a3⟩=>[(.b a0)]++[(.s (bs a1))]++nI a2++[(.s (bs a3))]
def rJ:iJ→List D
  | ⟨a0,a1,a2,a3,a4,a5⟩=>[(.b a0)]++[.sl 13 (aF0 a1)]++[.sl 3 (aDn a2)]++[.sl 10 (V9 a3)]++[.sl 11 (aEv a4)]++[(.i .i64 a5)]
def Q6:mV→List D
  | ⟨a0,a1⟩=>nI a0++[(.b a1)]
def P5:mK→List D
  | ⟨a0,a1,a2⟩=>[(.s (bs a0))]++[(.s (bs a1))]++[.sl 10 (V9 a2)]
def V9:List eO→List (List D)
  | []=>[]
  | x::l=>nI x::V9 l
def aF0:List nD→List (List D)
  | []=>[]
  | x::l=>U7 x::aF0 l
def aCv:List iJ→List (List D)
  | []=>[]
  | x::l=>rJ x::aCv l
def aEv:List mV→List (List D)
  | []=>[]
  | x::l=>Q6 x::aEv l
def aDn:List mK→List (List D)
  | []=>[]
  | x::l=>P5 x::aDn l
end
theorem aAx:∀ l:List eO,V9 l=l.map nI
  | []=>by simp only [V9,List.map_nil]
  | x::l=>by simp only [V9,List.map_cons,aAx l]
theorem aCi:∀ l:List nD,aF0 l=l.map U7
  | []=>by simp only [aF0,List.map_nil]
  | x::l=>by simp only [aF0,List.map_cons,aCi l]
theorem aB8:∀ l:List iJ,aCv l=l.map rJ
  | []=>by simp only [aCv,List.map_nil]
  | x::l=>by simp only [aCv,List.map_cons,aB8 l]
theorem aAk:∀ l:List mV,aEv l=l.map Q6
  | []=>by simp only [aEv,List.map_nil]
  | x::l=>by simp only [aEv,List.map_cons,aAk l]
theorem aBb:∀ l:List mK,aDn l=l.map P5
  | []=>by simp only [aDn,List.map_nil]
  | x::l=>by simp only [aDn,List.map_cons,aBb l]
def J6 (x:eO):List D:=[(.i .i64 x.kind),(.i .i64 x.op),(.b x.not_),(.i .i64 x.value.kind),(.i .i64 x.value.num),(.s (bs x.value.text)),(.s (bs x.qual)),(.s (bs x.name)),(.sl 10 (x.kids.map nI)),(.sl 6 (x.sub.map rJ))]
def aFq (x:nD):List D:=[(.b x.star),(.s (bs x.qual)),(.i .i64 x.expr.kind),(.i .i64 x.expr.op),(.b x.expr.not_),(.i .i64 x.expr.value.kind),(.i .i64 x.expr.value.num),(.s (bs x.expr.value.text)),(.s (bs x.expr.qual)),(.s (bs x.expr.name)),(.sl 10 (x.expr.kids.map nI)),(.sl 6 (x.expr.sub.map rJ)),(.s (bs x.as_))]
def aC0 (x:iJ):List D:=[(.b x.distinct),(.sl 13 (x.items.map U7)),(.sl 3 (x.from_.map P5)),(.sl 10 (x.where_.map nI)),(.sl 11 (x.order.map Q6)),(.i .i64 x.limit)]
def aFm (x:mV):List D:=[(.i .i64 x.expr.kind),(.i .i64 x.expr.op),(.b x.expr.not_),(.i .i64 x.expr.value.kind),(.i .i64 x.expr.value.num),(.s (bs x.expr.value.text)),(.s (bs x.expr.qual)),(.s (bs x.expr.name)),(.sl 10 (x.expr.kids.map nI)),(.sl 6 (x.expr.sub.map rJ)),(.b x.desc)]
def aCn (x:mK):List D:=[(.s (bs x.table)),(.s (bs x.as_)),(.sl 10 (x.on_.map nI))]
theorem aB7 (x:eO):nI x=J6 x:=by
  obtain ⟨a0,a1,a2,a3,a4,a5,a6,a7⟩:=x
  simp only [nI,J6,aAx,aCi,aB8,aAk,aBb,List.cons_append,List.nil_append,Y4]
theorem bWb (x:nD):U7 x=aFq x:=by
  obtain ⟨a0,a1,a2,a3⟩:=x
  simp only [U7,aFq,aAx,aCi,aB8,aAk,aBb,aB7,J6,List.cons_append,List.nil_append]
theorem aZm (x:iJ):rJ x=aC0 x:=by
  obtain ⟨a0,a1,a2,a3,a4,a5⟩:=x
  simp only [rJ,aC0,aAx,aCi,aB8,aAk,aBb,List.cons_append,List.nil_append]
theorem cDr (x:mV):Q6 x=aFm x:=by
  obtain ⟨a0,a1⟩:=x
  simp only [Q6,aFm,aAx,aCi,aB8,aAk,aBb,aB7,J6,List.cons_append,List.nil_append]
theorem cCz (x:mK):P5 x=aCn x:=by
  obtain ⟨a0,a1,a2⟩:=x
  simp only [P5,aCn,aAx,aCi,aB8,aAk,aBb,List.cons_append,List.nil_append]
def bGg (x:eO):V:=.agg (J6 x)
def bJk (x:eO):List V:=(J6 x).map V.d
def cNv (x:nD):V:=.agg (aFq x)
def cMk (x:nD):List V:=(aFq x).map V.d
def cP8 (x:iJ):V:=.agg (aC0 x)
def cQl (x:iJ):List V:=(aC0 x).map V.d
def cM8 (x:mV):V:=.agg (aFm x)
def cMx (x:mV):List V:=(aFm x).map V.d
def cO7 (x:mK):V:=.agg (aCn x)
def cOk (x:mK):List V:=(aCn x).map V.d
def aOl (x:jO):List D:=[(.b x.op),(.b x.not_),(.b x.value),(.b x.name),(.i .i64 x.least),(.i .i64 x.most),(.i .i64 x.subs)]
def aXw (x:jO):V:=.agg (aOl x)
def cMb (x:jO):List V:=(aOl x).map V.d
instance:Enc (List aA):=⟨(cSl 10 aJ),(cSl 10 aJ),(fun _=>rfl)⟩
instance:Enc aA:=⟨aJ,fK,gY⟩
instance:Enc bI:=⟨dR,dR,(fun _=>rfl)⟩
instance:Enc bO:=⟨dZ,pI,R4⟩
instance:Enc aL:=⟨dV,rQ,yH⟩
instance:Enc eO:=⟨nI,J6,aB7⟩
instance:Enc iJ:=⟨rJ,aC0,aZm⟩
instance:Enc bV:=⟨fV,fV,(fun _=>rfl)⟩
instance:Enc (List UInt8):=⟨cStr,cStr,(fun _=>rfl)⟩
theorem kr {p:Prop} (h:p:=by kernel_rfl):p:=h
def qX (l:List Int):V:=.d (.sl 1 (l.map cU8))
def eP (l:List Int):V:=.d (.sl 1 (l.map cI))
def dX (l:List aA):V:=.d (.sl 10 (l.map aJ))
def qP (l:List (List UInt8)):V:=.d (.sl 1 (l.map cStr))
def rZ (l:List aL):V:=.d (.sl 8 (l.map dV))
def tN (l:List bO):V:=.d (.sl 11 (l.map dZ))
def aDx (l:List bV):V:=.d (.sl 2 (l.map fV))
def aEm (l:List bI):V:=.d (.sl 2 (l.map dR))
def dC:V:=(.d (.s (bs [])))
def aQ:V:=(.d (.i .i64 0))
def bU:V:=(.d (.b false))
def oJ:List V:=[aQ,(.nil 1),(.nil 1),(.nil 10),(.nil 11),(.nil 10),(.nil 1),bU,aQ,aQ,(.nil 1),(.nil 1),(.nil 10),(.nil 10)]
def oO:List V:=[aQ,aQ,bU,aQ,aQ,dC,aQ,aQ,(.nil 10),(.nil 8)]
def pV:List V:=[(.nil 1),(.nil 1),(.nil 10),(.nil 11),(.nil 10),(.nil 1),bU,aQ]
def aGk:List V:=[aQ,aQ,bU,aQ,aQ,dC,aQ,aQ,(.nil 10),(.nil 8),bU]
def bFf:List V:=[bU,bU,bU,bU,aQ,aQ,aQ]
def cKp:AC:=(.seq (.ops [.asg 2 (kB false)]) (.seq (.seq (.ops [.mv 8 0,.call (some 9) 4 [8]]) (.cond 9 (.seq (.ops [.asg 2 (kB true)]) .ret) .skip)) (.seq (.ops [.mv 11 0,.call (some 12) 5 [11],.mv 10 12,.ext 13 10 0,.ext 14 10 1,.alc 3 oJ,.alc 4 oJ,.st 14 3 13,.st 14 4 14]) (.seq (.ops [.mv 16 0,.call (some 17) 6 [16],.mv 15 17,.ext 18 15 0,.ext 19 15 1,.alc 5 [(.nil 2)],.alc 6 oJ,.st 1 5 18,.st 14 6 19]) (.seq (.seq (.dops [[],[],[0,1],[],[],[3,4,2],[2,5],[6,5],[7],[7],[8,9,7,7],[10,7],[7,11]] [.ld 20 1 true 5,.ld 21 14 true 6,.call (some 22) 7 [20,21],.ld 23 1 true 5,.ld 24 14 true 6,.call (some 25) 8 [23,24],.eqb 26 true 22 25,.mv 27 26,.g 27 false (.ld 28 14 true 6),.g 27 false (.ld 29 14 true 6),.g 27 false (.call (some 30) 9 [28,29]),.g 27 false (.not 31 30),.pick 32 27 (kB true) 31]) (.cond 32 (.seq (.ops [.asg 2 (kB false)]) .ret) .skip)) (.seq (.ops [.ld 33 14 true 3,.ld 34 14 true 4,.call (some 35) 9 [33,34],.asg 7 35]) (.seq (.dops [[],[],[],[1,2],[0,3],[4,3],[5],[5],[5],[7,8,5,5],[6,9,5],[5,10],[11,9],[12],[13,12],[14,12,12],[15],[15],[16,17,15,15],[15],[15],[19,20,18,15],[18,21,15],[15,22,12],[12,23],[24,21,0,1,2,3,4,5,6,7,8,9,10,11,12,13,14,15,16,17,18,19,20,21,22,23,24]] [.mv 36 7,.ld 37 14 true 4,.ld 38 14 true 3,.call (some 39) 9 [37,38],.eqb 40 false 36 39,.mv 41 40,.g 41 true (.mv 42 7),.g 41 true (.ld 43 14 true 3),.g 41 true (.ld 44 14 true 4),.g 41 true (.call (some 45) 10 [43,44]),.g 41 true (.eqb 46 false 42 45),.pick 47 41 46 (kB false),.mv 48 47,.g 48 true (.mv 49 7),.g 48 true (.not 50 49),.g 48 true (.mv 51 50),.g 51 false (.ld 52 1 true 5),.g 51 false (.ld 53 14 true 3),.g 51 false (.call (some 54) 8 [52,53]),.g 51 false (.ld 55 1 true 5),.g 51 false (.ld 56 14 true 4),.g 51 false (.call (some 57) 8 [55,56]),.g 51 false (.eqb 58 false 54 57),.g 48 true (.pick 59 51 (kB true) 58),.pick 60 48 59 (kB false),.asg 2 60]) .ret)))))))
theorem cLg:aY Tryz.prog 3=some (cKp,[.mv 0 2],61):=by kernel_rfl
def cQ1 (r:Bool):Exit→St→Prop:=aV [.mv 0 2] fun x _=>x=(fun y=>(vB y)) r
def bWc:AC:=(.seq (.ops [.alc 2 [(.nil 2)],.alc 3 oJ]) (.seq (.ops [.mv 4 0,.call (some 5) 11 [4],.ext 6 5 0,.ext 7 5 1,.st 1 2 6,.st 14 3 7]) .ret))
theorem bJl:aY Tryz.prog 6=some (bWc,[.ld 0 1 true 2,.ld 0 14 true 3],8):=by kernel_rfl
def cPt (r:aP×bC):Exit→St→Prop:=aV [.ld 0 1 true 2,.ld 0 14 true 3] fun x _=>x=(fun y=>(.tup [(dJ y.1),(kT y.2)])) r
def aQ9:AC:=(.loop (.seq (.seq (.ops [.mv 8 4,.mv 9 0,.len 10 9,.bin 11 .lss 8 10,.mv 12 11,.g 12 true (.mv 13 4),.g 12 true (.bin 14 .lss 13 (kI 4000)),.pick 15 12 14 (kB false)]) (.cond 15 .skip (.exit 0))) (.seq (.block 1 (.ops [.mv 18 3,.bin 19 .mul 18 (kI 131),.mv 20 0,.mv 21 4,.ia 22 1 20 21,.ld 23 1 false 22,.cvi 24 .i64 23,.bin 25 .add 19 24,.bin 26 .add 25 (kI 7),.bin 27 .and 26 (kI 1073741823),.asg 3 27])) (.ops [.mv 16 4,.bin 17 .add 16 (kI 1),.asg 4 17]))))
def bB3:AC:=(.seq (.ops [.mv 28 0,.mv 29 3,.bld 30 [(.nil 1),aQ,aQ] [(0,1,28),(2,1,29)],.box 31 78 30,.asg 2 31]) .ret)
def cHu:AC:=(.seq (.ops [.asg 2 (.c .np)]) (.seq (.ops [.mv 5 0,.len 6 5,.bin 7 .add (kI 28322) 6,.asg 3 7]) (.seq (.seq (.ops [.asg 4 (kI 0)]) (.block 0 aQ9)) bB3)))
theorem cGf:aY Tryz.prog 12=some (cHu,[.mv 0 2],32):=by kernel_rfl
def bE9 (r:aB):Exit→St→Prop:=aV [.mv 0 2] fun x b=>x=(fun (y:aB)=>(.ptr 31 0)) r∧bR ((fun (y:aB)=>[(31,aU y)]) r) b
def cEa (r:aB):Exit→St→Prop:=(bD (wkK (avc Tryz.prog bB3 (bE9 r))) (bE9 r))
def cHo (r:aB):Exit→St→Prop:=(bG 0 (cEa r))
def bV8 (p0:List Int) (x3:Int) (x4:Int):St:=⟨[(0,(qX p0)),(3,(vI x3)),(4,(vI x4))],[]⟩
abbrev aJv:=fun p0 x3 x4 r=>avc Tryz.prog aQ9 (cHo r) (bV8 p0 x3 x4)
def bWx:AC:=(.seq (.ops [.box 2 37 0,.box 3 32 1,.asg 4 (kB false)]) (.seq (.ops [.fa 7 10 3,.ld 8 1 false 7,.len 9 8,.fa 10 11 3,.ld 11 1 false 10,.len 12 11,.bin 13 .add 9 12,.fa 14 12 3,.ld 15 1 false 14,.len 16 15,.bin 17 .add 13 16,.fa 18 13 3,.ld 19 1 false 18,.len 20 19,.bin 21 .add 17 20,.asg 5 21]) (.seq (.seq (.ops [.fa 22 0 3,.ld 23 1 false 22,.bin 24 .eql 23 (kI 1)]) (.cond 24 (.seq (.ops [.ld 25 1 true 2,.fa 26 1 3,.ld 27 8 true 26,.call (some 28) 27 [25,27],.mv 29 28,.g 29 true (.fa 30 9 3),.g 29 true (.ld 31 1 false 30),.g 29 true (.bin 32 .eql 31 (kI 0)),.pick 33 29 32 (kB false),.mv 34 33,.g 34 true (.mv 35 5),.g 34 true (.bin 36 .eql 35 (kI 0)),.pick 37 34 36 (kB false),.asg 4 37]) .ret) .skip)) (.seq (.seq (.ops [.ld 38 1 true 2,.call (some 39) 28 [38],.not 40 39,.mv 41 40,.g 41 false (.fa 42 0 3),.g 41 false (.ld 43 1 false 42),.g 41 false (.call (some 44) 29 [43,(kI 2),(kI 4)]),.g 41 false (.not 45 44),.pick 46 41 (kB true) 45,.mv 47 46,.g 47 false (.fa 48 9 3),.g 47 false (.ld 49 1 false 48),.g 47 false (.fa 50 0 2),.g 47 false (.ld 51 1 false 50),.g 47 false (.len 52 51),.g 47 false (.bin 53 .sub 52 (kI 1)),.g 47 false (.call (some 54) 29 [49,(kI 0),53]),.g 47 false (.not 55 54),.pick 56 47 (kB true) 55,.mv 57 56,.g 57 false (.fa 58 1 3),.g 57 false (.ld 59 8 true 58),.g 57 false (.bld 60 [(.nil 1),(.nil 1),(.nil 10),(.nil 11),(.nil 10),(.nil 1),bU,aQ] []),.g 57 false (.call (some 61) 30 [59,60]),.g 57 false (.not 62 61),.pick 63 57 (kB true) 62,.mv 64 63,.g 64 false (.ld 65 14 true 3),.g 64 false (.call (some 66) 31 [65]),.g 64 false (.not 67 66),.pick 68 64 (kB true) 67]) (.cond 68 (.seq (.ops [.asg 4 (kB false)]) .ret) .skip)) (.seq (.seq (.ops [.fa 69 0 3,.ld 70 1 false 69,.bin 71 .eql 70 (kI 2)]) (.cond 71 (.seq (.ops [.ld 72 1 true 2,.ld 73 14 true 3,.call (some 74) 32 [72,73],.asg 4 74]) .ret) .skip)) (.seq (.ops [.fa 75 0 2,.ld 76 1 false 75,.fa 77 9 3,.ld 78 1 false 77,.ia 79 2 76 78,.ld 80 2 true 79,.call (some 81) 33 [80],.bsl 82 24 1 [81],.asg 6 82]) (.seq (.seq (.ops [.fa 83 10 3,.ld 84 1 false 83,.len 85 84,.bin 86 .gtr 85 (kI 0),.mv 87 86,.g 87 false (.fa 88 13 3),.g 87 false (.ld 89 1 false 88),.g 87 false (.len 90 89),.g 87 false (.bin 91 .gtr 90 (kI 1)),.pick 92 87 (kB true) 91,.mv 93 92,.g 93 false (.ld 94 1 true 2),.g 93 false (.mv 95 6),.g 93 false (.fa 96 13 3),.g 93 false (.ld 97 1 false 96),.g 93 false (.call (some 98) 34 [94,95,97]),.g 93 false (.not 99 98),.pick 100 93 (kB true) 99]) (.cond 100 (.seq (.ops [.asg 4 (kB false)]) .ret) .skip)) (.seq (.seq (.ops [.fa 101 0 3,.ld 102 1 false 101,.bin 103 .eql 102 (kI 4)]) (.cond 103 (.seq (.ops [.fa 104 11 3,.ld 105 1 false 104,.len 106 105,.fa 107 12 3,.ld 108 1 false 107,.len 109 108,.bin 110 .add 106 109,.bin 111 .eql 110 (kI 0),.asg 4 111]) .ret) .skip)) (.seq (.ops [.fa 112 11 3,.ld 113 1 false 112,.len 114 113,.bin 115 .gtr 114 (kI 0),.mv 116 115,.g 116 true (.ld 117 1 true 2),.g 116 true (.ld 118 14 true 3),.g 116 true (.mv 119 6),.g 116 true (.call (some 120) 35 [117,118,119]),.pick 121 116 120 (kB false),.asg 4 121]) .ret)))))))))
theorem bLi:aY Tryz.prog 8=some (bWx,[.mv 0 4],122):=by kernel_rfl
def cOg (r:Bool):Exit→St→Prop:=aV [.mv 0 4] fun x _=>x=(fun y=>(vB y)) r
def bUh:AC:=(.seq (.ops [.box 2 37 0,.box 3 30 1,.asg 4 (kB false)]) (.seq (.seq (.ops [.ld 7 1 true 2,.call (some 8) 28 [7],.not 9 8,.mv 10 9,.g 10 false (.ld 11 8 true 3),.g 10 false (.call (some 12) 65 [11]),.g 10 false (.bin 13 .gtr 12 (kI 24)),.pick 14 10 (kB true) 13,.mv 15 14,.g 15 false (.ld 16 8 true 3),.g 15 false (.call (some 17) 66 [16]),.g 15 false (.bin 18 .gtr 17 (kI 200)),.pick 19 15 (kB true) 18]) (.cond 19 (.seq (.ops [.asg 4 (kB false)]) .ret) .skip)) (.seq (.ops [.ld 21 1 true 2,.ld 22 8 true 3,.call (some 23) 67 [21,(.c (.nil 1)),22],.mv 20 23,.ext 24 20 0,.ext 25 20 1,.asg 5 24,.asg 6 25]) (.seq (.ops [.mv 26 6,.asg 4 26]) .ret))))
theorem bK8:aY Tryz.prog 27=some (bUh,[.mv 0 4],27):=by kernel_rfl
def cP9 (r:Bool):Exit→St→Prop:=aV [.mv 0 4] fun x _=>x=(fun y=>(vB y)) r
def aSd:AC:=(.loop (.seq (.seq (.ops [.mv 8 5,.mv 9 4,.len 10 9,.bin 11 .lss 8 10]) (.cond 11 .skip (.exit 0))) (.seq (.block 1 (.ops [.mv 14 3,.mv 15 4,.mv 16 5,.ia 17 10 15 16,.ld 18 10 true 17,.call (some 19) 75 [18],.call (some 20) 112 [14,19],.asg 3 20])) (.ops [.mv 12 5,.bin 13 .add 12 (kI 1),.asg 5 13]))))
def aYe:AC:=(.seq (.ops [.mv 21 3,.asg 2 21]) .ret)
def bZo:AC:=(.seq (.ops [.box 1 30 0,.asg 2 (kI 0)]) (.seq (.ops [.asg 3 (kI 0)]) (.seq (.ops [.ld 6 8 true 1,.call (some 7) 111 [6],.asg 4 7]) (.seq (.seq (.ops [.asg 5 (kI 0)]) (.block 0 aSd)) aYe))))
theorem bVn:aY Tryz.prog 65=some (bZo,[.mv 0 2],22):=by kernel_rfl
def bBu (r:Int):Exit→St→Prop:=aV [.mv 0 2] fun x _=>x=(fun y=>(vI y)) r
def cEm (r:Int):Exit→St→Prop:=(bD (wkK (avc Tryz.prog aYe (bBu r))) (bBu r))
def bRt (r:Int):Exit→St→Prop:=(bG 0 (cEm r))
def cGc (y1:List aA) (x3:Int) (x5:Int):St:=⟨[(3,(vI x3)),(4,(.osl 4 74 10 (y1.map aJ))),(5,(vI x5))],[]⟩
abbrev aIf:=fun y1 x3 x5 r=>avc Tryz.prog aSd (bRt r) (cGc y1 x3 x5)
def aQf:AC:=(.loop (.seq (.seq (.ops [.mv 7 4,.fa 8 1 1,.ld 9 1 false 8,.len 10 9,.bin 11 .lss 7 10]) (.cond 11 .skip (.exit 0))) (.seq (.block 1 (.ops [.mv 14 3,.fa 15 1 1,.ld 16 1 false 15,.mv 17 4,.ia 18 1 16 17,.ld 19 1 false 18,.app 20 74 10 120 14 19,.asg 3 20])) (.ops [.mv 12 4,.bin 13 .add 12 (kI 1),.asg 4 13]))))
def aRi:AC:=(.loop (.seq (.seq (.ops [.mv 25 5,.fa 26 3 1,.ld 27 1 false 26,.len 28 27,.bin 29 .lss 25 28]) (.cond 29 .skip (.exit 2))) (.seq (.block 3 (.ops [.mv 32 3,.fa 33 3 1,.ld 34 1 false 33,.mv 35 5,.ia 36 11 34 35,.fa 37 0 36,.ld 38 10 true 37,.bsl 39 74 10 [38],.app 40 74 10 120 32 39,.asg 3 40])) (.ops [.mv 30 5,.bin 31 .add 30 (kI 1),.asg 5 31]))))
def bI4:AC:=(.seq (.ops [.mv 41 3,.fa 42 4 1,.ld 43 1 false 42,.app 44 74 10 120 41 43,.asg 2 44]) .ret)
def aZ8:AC:=(.seq (.ops [.mv 21 3,.fa 22 2 1,.ld 23 1 false 22,.app 24 74 10 120 21 23,.asg 3 24]) (.seq (.seq (.ops [.asg 5 (kI 0)]) (.block 2 aRi)) bI4))
def bXy:AC:=(.seq (.ops [.box 1 30 0,.asg 2 (.c (.nil 10))]) (.seq (.ops [.bsl 6 74 10 [],.asg 3 6]) (.seq (.seq (.ops [.asg 4 (kI 0)]) (.block 0 aQf)) aZ8)))
theorem bZb:aY Tryz.prog 111=some (bXy,[.mv 0 2],45):=by kernel_rfl
def aHa (r:List aA):Exit→St→Prop:=aV [.mv 0 2] fun x b=>x=(fun (y:List aA)=>(.osl 2000000 74 10 (y.map aJ))) r∧bR ((fun (y:List aA)=>[]) r) b
def cK1 (r:List aA):Exit→St→Prop:=(bD (wkK (avc Tryz.prog aZ8 (aHa r))) (aHa r))
def cGo (r:List aA):Exit→St→Prop:=(bG 0 (cK1 r))
def bSl (r:List aA):Exit→St→Prop:=(bD (wkK (avc Tryz.prog bI4 (aHa r))) (aHa r))
def cKd (r:List aA):Exit→St→Prop:=(bG 2 (bSl r))
def bW8 (p0:aL) (x3:List aA) (x4:Int):St:=⟨[(1,(.ptr 1 0)),(3,(.osl 3 74 10 (x3.map aJ))),(4,(vI x4))],[(1,kL p0)]⟩
abbrev aI4:=fun p0 x3 x4 r=>avc Tryz.prog aQf (cGo r) (bW8 p0 x3 x4)
def bJd (p0:aL) (eY:List aA) (x5:Int):St:=⟨[(1,(.ptr 1 0)),(3,(.osl 3 74 10 (eY.map aJ))),(5,(vI x5))],[(1,kL p0)]⟩
abbrev aN3:=fun p0 eY x5 r=>avc Tryz.prog aRi (cKd r) (bJd p0 eY x5)
def aWo:AC:=(.loop (.seq (.seq (.ops [.mv 6 4,.fa 7 8 1,.ld 8 1 false 7,.len 9 8,.bin 10 .lss 6 9]) (.cond 10 .skip (.exit 0))) (.seq (.block 1 (.ops [.mv 13 3,.fa 14 8 1,.ld 15 1 false 14,.mv 16 4,.ia 17 10 15 16,.ld 18 10 true 17,.call (some 19) 75 [18],.call (some 20) 112 [13,19],.asg 3 20])) (.ops [.mv 11 4,.bin 12 .add 11 (kI 1),.asg 4 12]))))
def aUe:AC:=(.loop (.seq (.seq (.ops [.mv 21 5,.fa 22 9 1,.ld 23 1 false 22,.len 24 23,.bin 25 .lss 21 24]) (.cond 25 .skip (.exit 2))) (.seq (.block 3 (.ops [.mv 28 3,.fa 29 9 1,.ld 30 1 false 29,.mv 31 5,.ia 32 8 30 31,.ld 33 8 true 32,.call (some 34) 65 [33],.call (some 35) 112 [28,34],.asg 3 35])) (.ops [.mv 26 5,.bin 27 .add 26 (kI 1),.asg 5 27]))))
def aWr:AC:=(.seq (.ops [.mv 36 3,.bin 37 .add 36 (kI 1),.asg 2 37]) .ret)
def bGx:AC:=(.seq (.seq (.ops [.asg 5 (kI 0)]) (.block 2 aUe)) aWr)
def bUp:AC:=(.seq (.ops [.box 1 74 0,.asg 2 (kI 0)]) (.seq (.ops [.asg 3 (kI 0)]) (.seq (.seq (.ops [.asg 4 (kI 0)]) (.block 0 aWo)) bGx)))
theorem bZi:aY Tryz.prog 75=some (bUp,[.mv 0 2],38):=by kernel_rfl
def aJr (r:Int):Exit→St→Prop:=aV [.mv 0 2] fun x _=>x=(fun y=>(vI y)) r
def bSw (r:Int):Exit→St→Prop:=(bD (wkK (avc Tryz.prog bGx (aJr r))) (aJr r))
def bZ5 (r:Int):Exit→St→Prop:=(bG 0 (bSw r))
def bLm (r:Int):Exit→St→Prop:=(bD (wkK (avc Tryz.prog aWr (aJr r))) (aJr r))
def cFs (r:Int):Exit→St→Prop:=(bG 2 (bLm r))
def bV5 (p0:aA) (x3:Int) (x4:Int):St:=⟨[(1,(.ptr 1 0)),(3,(vI x3)),(4,(vI x4))],[(1,qR p0)]⟩
abbrev aKs:=fun p0 x3 x4 r=>avc Tryz.prog aWo (bZ5 r) (bV5 p0 x3 x4)
def bQq (p0:aA) (eY:Int) (x5:Int):St:=⟨[(1,(.ptr 1 0)),(3,(vI eY)),(5,(vI x5))],[(1,qR p0)]⟩
abbrev aHg:=fun p0 eY x5 r=>avc Tryz.prog aUe (cFs r) (bQq p0 eY x5)
def bUy:AC:=(.seq (.ops [.asg 4 (kI 0)]) (.seq (.seq (.ops [.mv 5 0,.mv 6 1,.bin 7 .gtr 5 6]) (.cond 7 (.seq (.ops [.mv 8 0,.asg 4 8]) .ret) .skip)) (.seq (.ops [.mv 9 1,.asg 4 9]) .ret)))
theorem cG6:aY Tryz.prog 112=some (bUy,[.mv 0 4],10):=by kernel_rfl
def cN0 (r:Int):Exit→St→Prop:=aV [.mv 0 4] fun x _=>x=(fun y=>(vI y)) r
def aOv:AC:=(.loop (.seq (.seq (.ops [.mv 26 8,.fa 27 1 5,.ld 28 1 false 27,.len 29 28,.bin 30 .lss 26 29]) (.cond 30 .skip (.exit 0))) (.seq (.block 1 (.seq (.dops [[],[],[1],[],[3],[2,4],[0,5],[6],[7],[7],[8,6,0,1,2,3,4,5,6,7,8],[9,10,0,1,2,3,4,5,6,7,8,9,10]] [.ld 34 1 true 3,.fa 35 0 5,.ld 36 1 false 35,.mv 37 8,.bin 38 .add 37 (kI 1),.slc 39 1 36 none (some 38) none,.call (some 40) 114 [34,39],.mv 33 40,.ext 41 33 0,.ext 42 33 1,.asg 9 41,.asg 10 42]) (.seq (.dops [[],[],[],[1,2],[],[4],[],[5,6],[7],[0,3,8,3],[9]] [.ld 43 1 true 3,.mv 44 9,.mv 45 1,.call (some 46) 115 [44,45],.fa 47 1 5,.ld 48 1 false 47,.mv 49 8,.ia 50 1 48 49,.ld 51 1 false 50,.call (some 52) 34 [43,46,51],.not 53 52]) (.cond 53 (.seq (.ops [.bsl 54 3 1 [],.asg 6 54,.asg 7 (kB false)]) .ret) .skip)))) (.ops [.mv 31 8,.bin 32 .add 31 (kI 1),.asg 8 32]))))
def aRt:AC:=(.loop (.seq (.seq (.ops [.mv 72 14,.fa 73 3 5,.ld 74 1 false 73,.len 75 74,.bin 76 .lss 72 75]) (.cond 76 .skip (.exit 2))) (.seq (.block 3 (.seq (.dops [[],[],[],[2],[],[3,4],[5],[6],[0,1,7],[8],[9],[9],[10,8,0,1,2,3,4,5,6,7,8,9,10],[11,12,0,1,2,3,4,5,6,7,8,9,10,11,12]] [.ld 80 1 true 3,.mv 81 13,.fa 82 3 5,.ld 83 1 false 82,.mv 84 14,.ia 85 11 83 84,.fa 86 0 85,.ld 87 10 true 86,.call (some 88) 77 [80,81,87],.mv 79 88,.ext 89 79 0,.ext 90 79 1,.asg 15 89,.asg 16 90]) (.seq (.ops [.mv 91 16,.not 92 91]) (.cond 92 (.seq (.ops [.bsl 93 3 1 [],.asg 6 93,.asg 7 (kB false)]) .ret) .skip)))) (.ops [.mv 77 14,.bin 78 .add 77 (kI 1),.asg 14 78]))))
def aWd:AC:=(.loop (.seq (.seq (.ops [.mv 95 18,.fa 96 4 5,.ld 97 1 false 96,.len 98 97,.bin 99 .lss 95 98]) (.cond 99 .skip (.exit 4))) (.seq (.block 5 (.seq (.dops [[],[],[],[2],[],[3,4],[5],[0,1,6],[7],[8],[8],[9,7,0,1,2,3,4,5,6,7,8,9],[10,11,0,1,2,3,4,5,6,7,8,9,10,11]] [.ld 103 1 true 3,.mv 104 13,.fa 105 4 5,.ld 106 1 false 105,.mv 107 18,.ia 108 10 106 107,.ld 109 10 true 108,.call (some 110) 77 [103,104,109],.mv 102 110,.ext 111 102 0,.ext 112 102 1,.asg 19 111,.asg 20 112]) (.seq (.seq (.ops [.mv 113 20,.not 114 113]) (.cond 114 (.seq (.ops [.bsl 115 3 1 [],.asg 6 115,.asg 7 (kB false)]) .ret) .skip)) (.ops [.mv 116 17,.mv 117 19,.bsl 118 3 1 [117],.app 119 3 1 8 116 118,.asg 17 119])))) (.ops [.mv 100 18,.bin 101 .add 100 (kI 1),.asg 18 101]))))
def bGe:AC:=(.seq (.ops [.mv 120 17,.asg 6 120,.asg 7 (kB true)]) .ret)
def bD4:AC:=(.seq (.ops [.bsl 94 3 1 [],.asg 17 94]) (.seq (.seq (.ops [.asg 18 (kI 0)]) (.block 4 aWd)) bGe))
def bBm:AC:=(.seq (.ops [.ld 56 1 true 3,.fa 57 0 5,.ld 58 1 false 57,.call (some 59) 114 [56,58],.mv 55 59,.ext 60 55 0,.ext 61 55 1,.asg 11 60,.asg 12 61]) (.seq (.ops [.mv 62 11,.mv 63 1,.call (some 64) 115 [62,63],.asg 13 64]) (.seq (.seq (.ops [.ld 65 1 true 3,.mv 66 13,.fa 67 2 5,.ld 68 1 false 67,.call (some 69) 34 [65,66,68],.not 70 69]) (.cond 70 (.seq (.ops [.bsl 71 3 1 [],.asg 6 71,.asg 7 (kB false)]) .ret) .skip)) (.seq (.seq (.ops [.asg 14 (kI 0)]) (.block 2 aRt)) bD4))))
def bL2:AC:=(.seq (.ops [.box 3 37 0,.box 5 30 2,.asg 6 (.c (.nil 1)),.asg 7 (kB false)]) (.seq (.seq (.ops [.ld 21 1 true 3,.ld 22 8 true 5,.call (some 23) 113 [21,22],.not 24 23]) (.cond 24 (.seq (.ops [.bsl 25 3 1 [],.asg 6 25,.asg 7 (kB false)]) .ret) .skip)) (.seq (.seq (.ops [.asg 8 (kI 0)]) (.block 0 aOv)) bBm)))
theorem cBn:aY Tryz.prog 67=some (bL2,[.mv 0 6,.mv 0 7],121):=by kernel_rfl
def aA2 (r:(List Int)×Bool):Exit→St→Prop:=aV [.mv 0 6,.mv 0 7] fun x b=>x=(fun (y:(List Int)×Bool)=>(.tup [(.osl 2000000 3 1 (y.1.map cI)),(vB y.2)])) r∧bR ((fun (y:(List Int)×Bool)=>[]) r) b
def cGd (r:(List Int)×Bool):Exit→St→Prop:=(bD (wkK (avc Tryz.prog bBm (aA2 r))) (aA2 r))
def cAu (r:(List Int)×Bool):Exit→St→Prop:=(bG 0 (cGd r))
def cEn (r:(List Int)×Bool):Exit→St→Prop:=(bD (wkK (avc Tryz.prog bD4 (aA2 r))) (aA2 r))
def bRy (r:(List Int)×Bool):Exit→St→Prop:=(bG 2 (cEn r))
def cDc (r:(List Int)×Bool):Exit→St→Prop:=(bD (wkK (avc Tryz.prog bGe (aA2 r))) (aA2 r))
def bN9 (r:(List Int)×Bool):Exit→St→Prop:=(bG 4 (cDc r))
def bYy (p1:List (List Int)) (p0:aP) (p2:aL) (x8:Int):St:=⟨[(1,(.d (.sl 1 (p1.map (cSl 1 cI))))),(3,(.ptr 3 0)),(5,(.ptr 5 0)),(8,(vI x8))],[(3,dD p0),(5,kL p2)]⟩
abbrev aGe:=fun p1 p0 p2 x8 r=>avc Tryz.prog aOv (cAu r) (bYy p1 p0 p2 x8)
def bP8 (y8:List (List Int)) (p0:aP) (p2:aL) (x14:Int):St:=⟨[(3,(.ptr 3 0)),(5,(.ptr 5 0)),(13,(.osl 13 24 1 (y8.map (cSl 1 cI)))),(14,(vI x14))],[(3,dD p0),(5,kL p2)]⟩
abbrev aJp:=fun y8 p0 p2 x14 r=>avc Tryz.prog aRt (bRy r) (bP8 y8 p0 p2 x14)
def cL8 (y8:List (List Int)) (p0:aP) (p2:aL) (x17:List Int) (x18:Int):St:=⟨[(3,(.ptr 3 0)),(5,(.ptr 5 0)),(13,(.osl 13 24 1 (y8.map (cSl 1 cI)))),(17,(.osl 17 3 1 (x17.map cI))),(18,(vI x18))],[(3,dD p0),(5,kL p2)]⟩
abbrev aMj:=fun y8 p0 p2 x17 x18 r=>avc Tryz.prog aWd (bN9 r) (cL8 y8 p0 p2 x17 x18)
def aSu:AC:=(.loop (.seq (.seq (.ops [.mv 18 9,.fa 19 8 5,.ld 20 1 false 19,.len 21 20,.bin 22 .lss 18 21]) (.cond 22 .skip (.exit 0))) (.seq (.block 1 (.seq (.dops [[],[],[],[2],[],[3,4],[5],[0,1,6],[7],[8],[8],[9,7,0,1,2,3,4,5,6,7,8,9],[10,11,0,1,2,3,4,5,6,7,8,9,10,11]] [.ld 26 1 true 3,.mv 27 1,.fa 28 8 5,.ld 29 1 false 28,.mv 30 9,.ia 31 10 29 30,.ld 32 10 true 31,.call (some 33) 77 [26,27,32],.mv 25 33,.ext 34 25 0,.ext 35 25 1,.asg 10 34,.asg 11 35]) (.seq (.seq (.ops [.mv 36 11,.not 37 36]) (.cond 37 (.seq (.ops [.asg 6 (kI 0),.asg 7 (kB false)]) .ret) .skip)) (.ops [.mv 38 8,.mv 39 10,.bsl 40 3 1 [39],.app 41 3 1 8 38 40,.asg 8 41])))) (.ops [.mv 23 9,.bin 24 .add 23 (kI 1),.asg 9 24]))))
def aWi:AC:=(.seq (.seq (.ops [.fa 138 0 5,.ld 139 1 false 138,.bin 140 .eql 139 (kI 5)]) (.cond 140 (.seq (.ops [.asg 6 (kI 3),.asg 7 (kB true)]) .ret) .skip)) (.seq (.ops [.mv 141 8,.call (some 142) 121 [141],.call (some 143) 120 [(kI 3),142],.ext 144 143 0,.ext 145 143 1,.asg 6 144,.asg 7 145]) .ret))
def aZ3:AC:=(.seq (.seq (.ops [.fa 42 0 5,.ld 43 1 false 42]) (.block 2 (.seq (.ops [.bin 45 .eql 43 (kI 1),.asg 44 45]) (.cond 44 (.seq (.ops [.fa 46 3 5,.fa 47 0 46,.ld 48 1 false 47,.asg 6 48,.asg 7 (kB true)]) .ret) (.seq (.ops [.bin 50 .eql 43 (kI 2),.asg 49 50]) (.cond 49 (.seq (.seq (.dops [[],[0],[],[2],[3],[1,4],[5],[6,5],[7],[8,7],[7],[7],[11,7],[10,12,7],[13,7],[14,7],[15,7],[9,16,7,7],[17,7],[7,18]] [.fa 51 6 5,.ld 52 1 false 51,.mv 53 1,.len 54 53,.bin 55 .sub 54 (kI 1),.call (some 56) 29 [52,(kI 0),55],.not 57 56,.mv 58 57,.g 58 false (.fa 59 7 5),.g 58 false (.ld 60 1 false 59),.g 58 false (.mv 61 1),.g 58 false (.fa 62 6 5),.g 58 false (.ld 63 1 false 62),.g 58 false (.ia 64 1 61 63),.g 58 false (.ld 65 1 false 64),.g 58 false (.len 66 65),.g 58 false (.bin 67 .sub 66 (kI 1)),.g 58 false (.call (some 68) 29 [60,(kI 0),67]),.g 58 false (.not 69 68),.pick 70 58 (kB true) 69]) (.cond 70 (.seq (.ops [.asg 6 (kI 0),.asg 7 (kB false)]) .ret) .skip)) (.seq (.dops [[],[],[1],[0,2],[3],[],[5],[4,6],[7],[8,0,1,2,3,4,5,6,7,8],[9,0,1,2,3,4,5,6,7,8,9]] [.mv 71 1,.fa 72 6 5,.ld 73 1 false 72,.ia 74 1 71 73,.ld 75 1 false 74,.fa 76 7 5,.ld 77 1 false 76,.ia 78 1 75 77,.ld 79 1 false 78,.asg 6 79,.asg 7 (kB true)]) .ret)) (.seq (.ops [.bin 81 .eql 43 (kI 3),.asg 80 81]) (.cond 80 (.seq (.dops [[],[0],[],[2],[3],[1,4],[5],[5],[6,5,0,1,2,3,4,5,6,7],[7,8,0,1,2,3,4,5,6,7,8]] [.fa 82 1 5,.ld 83 1 false 82,.mv 84 8,.ia 85 1 84 (kI 0),.ld 86 1 false 85,.call (some 87) 118 [83,86],.ext 88 87 0,.ext 89 87 1,.asg 6 88,.asg 7 89]) .ret) (.seq (.ops [.bin 91 .eql 43 (kI 4),.asg 90 91]) (.cond 90 (.seq (.dops [[],[0],[],[2],[3],[],[5],[6],[1,4,7],[8],[8],[9,8,0,1,2,3,4,5,6,7,8,9,10],[10,11,0,1,2,3,4,5,6,7,8,9,10,11]] [.fa 92 1 5,.ld 93 1 false 92,.mv 94 8,.ia 95 1 94 (kI 0),.ld 96 1 false 95,.mv 97 8,.ia 98 1 97 (kI 1),.ld 99 1 false 98,.call (some 100) 119 [93,96,99],.ext 101 100 0,.ext 102 100 1,.asg 6 101,.asg 7 102]) .ret) .skip)))))))))) (.seq (.seq (.ops [.fa 103 9 5,.ld 104 1 false 103,.len 105 104,.bin 106 .gtr 105 (kI 0)]) (.cond 106 (.seq (.dops [[],[],[],[2],[3],[4],[0,1,5],[6],[7],[7],[8,6,0,1,2,3,4,5,6,7,8],[9,10,0,1,2,3,4,5,6,7,8,9,10]] [.ld 108 1 true 3,.mv 109 1,.fa 110 9 5,.ld 111 1 false 110,.ia 112 8 111 (kI 0),.ld 113 8 true 112,.call (some 114) 67 [108,109,113],.mv 107 114,.ext 115 107 0,.ext 116 107 1,.asg 12 115,.asg 13 116]) (.seq (.seq (.ops [.mv 117 13,.not 118 117,.mv 119 118,.g 119 false (.fa 120 0 5),.g 119 false (.ld 121 1 false 120),.g 119 false (.bin 122 .eql 121 (kI 8)),.g 119 false (.mv 123 122),.g 123 true (.mv 124 12),.g 123 true (.len 125 124),.g 123 true (.bin 126 .neq 125 (kI 1)),.g 119 false (.pick 127 123 126 (kB false)),.pick 128 119 (kB true) 127]) (.cond 128 (.seq (.ops [.asg 6 (kI 0),.asg 7 (kB false)]) .ret) .skip)) (.seq (.ops [.fa 129 0 5,.ld 130 1 false 129,.bin 131 .eql 130 (kI 8)]) (.cond 131 (.ops [.mv 132 8,.mv 133 12,.ia 134 1 133 (kI 0),.ld 135 1 false 134,.bsl 136 3 1 [135],.app 137 3 1 8 132 136,.asg 8 137]) .skip)))) .skip)) aWi))
def bMl:AC:=(.seq (.ops [.box 3 37 0,.box 5 74 2,.asg 6 (kI 0),.asg 7 (kB false)]) (.seq (.seq (.ops [.ld 14 10 true 5,.call (some 15) 117 [14],.not 16 15]) (.cond 16 (.seq (.ops [.asg 6 (kI 0),.asg 7 (kB false)]) .ret) .skip)) (.seq (.ops [.bsl 17 3 1 [],.asg 8 17]) (.seq (.seq (.ops [.asg 9 (kI 0)]) (.block 0 aSu)) aZ3))))
theorem cGw:aY Tryz.prog 77=some (bMl,[.mv 0 6,.mv 0 7],146):=by kernel_rfl
def aPg (r:Int×Bool):Exit→St→Prop:=aV [.mv 0 6,.mv 0 7] fun x _=>x=(fun y=>(.tup [(vI y.1),(vB y.2)])) r
def bOh (r:Int×Bool):Exit→St→Prop:=(bD (wkK (avc Tryz.prog aZ3 (aPg r))) (aPg r))
def bZh (r:Int×Bool):Exit→St→Prop:=(bG 0 (bOh r))
def bAw (p1:List (List Int)) (p0:aP) (p2:aA) (x8:List Int) (x9:Int):St:=⟨[(1,(.d (.sl 1 (p1.map (cSl 1 cI))))),(3,(.ptr 3 0)),(5,(.ptr 5 0)),(8,(.osl 8 3 1 (x8.map cI))),(9,(vI x9))],[(3,dD p0),(5,qR p2)]⟩
abbrev aJ2:=fun p1 p0 p2 x8 x9 r=>avc Tryz.prog aSu (bZh r) (bAw p1 p0 p2 x8 x9)
def bT1 (p2:aA) (zF:List Int):St:=⟨[(5,(.ptr 5 0)),(8,(.osl 8 3 1 (zF.map cI)))],[(5,qR p2)]⟩
abbrev bE7:=fun p2 zF r=>avc Tryz.prog aWi (aPg r) (bT1 p2 zF)
def aTw:AC:=(.seq (.ops [.mv 49 10,.mv 50 1,.mv 51 10,.call (some 52) 143 [50,51],.mv 53 52,.g 53 true (.mv 54 2),.g 53 true (.mv 55 10),.g 53 true (.call (some 56) 143 [54,55]),.pick 57 53 56 (kB false),.call (some 58) 120 [49,57],.ext 59 58 0,.ext 60 58 1,.asg 6 59,.asg 7 60]) .ret)
def bNl:AC:=(.seq (.ops [.asg 6 (kI 0),.asg 7 (kB false)]) (.seq (.seq (.ops [.mv 11 0,.call (some 12) 29 [11,(kI 1),(kI 14)],.not 13 12,.mv 14 13,.g 14 false (.mv 15 1),.g 14 false (.call (some 16) 141 [15]),.g 14 false (.not 17 16),.pick 18 14 (kB true) 17,.mv 19 18,.g 19 false (.mv 20 2),.g 19 false (.call (some 21) 141 [20]),.g 19 false (.not 22 21),.pick 23 19 (kB true) 22]) (.cond 23 (.seq (.ops [.asg 6 (kI 0),.asg 7 (kB false)]) .ret) .skip)) (.seq (.seq (.ops [.mv 24 0,.bin 25 .leq 24 (kI 2)]) (.cond 25 (.seq (.ops [.mv 26 1,.call (some 27) 78 [26],.mv 28 27,.g 28 true (.mv 29 2),.g 28 true (.call (some 30) 78 [29]),.pick 31 28 30 (kB false),.call (some 32) 120 [(kI 3),31],.ext 33 32 0,.ext 34 32 1,.asg 6 33,.asg 7 34]) .ret) .skip)) (.seq (.seq (.ops [.mv 35 0,.bin 36 .leq 35 (kI 8)]) (.cond 36 (.seq (.ops [.mv 38 1,.mv 39 2,.call (some 40) 116 [38,39],.mv 37 40,.ext 41 37 0,.ext 42 37 1,.asg 8 41,.asg 9 42]) (.seq (.ops [.mv 43 9,.call (some 44) 120 [(kI 3),43],.ext 45 44 0,.ext 46 44 1,.asg 6 45,.asg 7 46]) .ret)) .skip)) (.seq (.ops [.asg 10 (kI 1)]) (.seq (.seq (.ops [.mv 47 0,.bin 48 .eql 47 (kI 9)]) (.cond 48 (.ops [.asg 10 (kI 2)]) .skip)) aTw))))))
theorem bJ4:aY Tryz.prog 119=some (bNl,[.mv 0 6,.mv 0 7],61):=by kernel_rfl
def bN4 (r:Int×Bool):Exit→St→Prop:=aV [.mv 0 6,.mv 0 7] fun x _=>x=(fun y=>(.tup [(vI y.1),(vB y.2)])) r
def cHt (p1:Int) (p2:Int) (x10:Int):St:=⟨[(1,(vI p1)),(2,(vI p2)),(10,(vI x10))],[]⟩
abbrev bIb:=fun p1 p2 x10 r=>avc Tryz.prog aTw (bN4 r) (cHt p1 p2 x10)
def cGp:AC:=(.seq (.ops [.asg 4 (kB false)]) (.seq (.ops [.mv 5 0,.bin 6 .eql 5 (kI 0),.mv 7 6,.g 7 false (.mv 8 0),.g 7 false (.mv 9 1),.g 7 false (.bin 10 .eql 8 9),.pick 11 7 (kB true) 10,.asg 4 11]) .ret))
theorem cAe:aY Tryz.prog 143=some (cGp,[.mv 0 4],12):=by kernel_rfl
def cPp (r:Bool):Exit→St→Prop:=aV [.mv 0 4] fun x _=>x=(fun y=>(vB y)) r
def bKf:AC:=(.seq (.ops [.asg 2 (kB false)]) (.seq (.ops [.mv 3 0,.call (some 4) 29 [3,(kI 0),(kI 3)],.asg 2 4]) .ret))
theorem bJt:aY Tryz.prog 141=some (bKf,[.mv 0 2],5):=by kernel_rfl
def cN2 (r:Bool):Exit→St→Prop:=aV [.mv 0 2] fun x _=>x=(fun y=>(vB y)) r
def bYl:AC:=(.seq (.ops [.asg 6 (kB false)]) (.seq (.ops [.mv 7 0,.mv 8 1,.bin 9 .geq 7 8,.mv 10 9,.g 10 true (.mv 11 0),.g 10 true (.mv 12 2),.g 10 true (.bin 13 .leq 11 12),.pick 14 10 13 (kB false),.asg 6 14]) .ret))
theorem cEb:aY Tryz.prog 29=some (bYl,[.mv 0 6],15):=by kernel_rfl
def cPg (r:Bool):Exit→St→Prop:=aV [.mv 0 6] fun x _=>x=(fun y=>(vB y)) r
def bVl:AC:=(.seq (.ops [.asg 2 (kB false)]) (.seq (.ops [.mv 3 0,.bin 4 .eql 3 (kI 0),.mv 5 4,.g 5 false (.mv 6 0),.g 5 false (.bin 7 .eql 6 (kI 3)),.pick 8 5 (kB true) 7,.asg 2 8]) .ret))
theorem bZf:aY Tryz.prog 78=some (bVl,[.mv 0 2],9):=by kernel_rfl
def cOx (r:Bool):Exit→St→Prop:=aV [.mv 0 2] fun x _=>x=(fun y=>(vB y)) r
def bYj:AC:=(.seq (.ops [.asg 4 (kI 0),.asg 5 (kB false)]) (.seq (.seq (.ops [.mv 6 0,.call (some 7) 141 [6],.not 8 7,.mv 9 8,.g 9 false (.mv 10 1),.g 9 false (.call (some 11) 141 [10]),.g 9 false (.not 12 11),.pick 13 9 (kB true) 12]) (.cond 13 (.seq (.ops [.asg 4 (kI 0),.asg 5 (kB false)]) .ret) .skip)) (.seq (.seq (.ops [.mv 14 0,.bin 15 .eql 14 (kI 0)]) (.cond 15 (.seq (.ops [.mv 16 1,.asg 4 16,.asg 5 (kB true)]) .ret) .skip)) (.seq (.seq (.ops [.mv 17 1,.bin 18 .eql 17 (kI 0),.mv 19 18,.g 19 false (.mv 20 0),.g 19 false (.mv 21 1),.g 19 false (.bin 22 .eql 20 21),.pick 23 19 (kB true) 22]) (.cond 23 (.seq (.ops [.mv 24 0,.asg 4 24,.asg 5 (kB true)]) .ret) .skip)) (.seq (.ops [.asg 4 (kI 0),.asg 5 (kB false)]) .ret)))))
theorem bWd:aY Tryz.prog 116=some (bYj,[.mv 0 4,.mv 0 5],25):=by kernel_rfl
def cQ0 (r:Int×Bool):Exit→St→Prop:=aV [.mv 0 4,.mv 0 5] fun x _=>x=(fun y=>(.tup [(vI y.1),(vB y.2)])) r
def bL5:AC:=(.seq (.ops [.asg 4 (kI 0),.asg 5 (kB false)]) (.seq (.seq (.ops [.mv 6 1,.not 7 6]) (.cond 7 (.seq (.ops [.asg 4 (kI 0),.asg 5 (kB false)]) .ret) .skip)) (.seq (.ops [.mv 8 0,.asg 4 8,.asg 5 (kB true)]) .ret)))
theorem cDb:aY Tryz.prog 120=some (bL5,[.mv 0 4,.mv 0 5],9):=by kernel_rfl
def cMs (r:Int×Bool):Exit→St→Prop:=aV [.mv 0 4,.mv 0 5] fun x _=>x=(fun y=>(.tup [(vI y.1),(vB y.2)])) r
def bXu:AC:=(.seq (.ops [.asg 4 (kI 0),.asg 5 (kB false)]) (.seq (.seq (.ops [.mv 6 0]) (.block 0 (.seq (.ops [.bin 8 .eql 6 (kI 15),.asg 7 8]) (.cond 7 (.seq (.ops [.mv 9 1,.call (some 10) 78 [9],.call (some 11) 120 [(kI 3),10],.ext 12 11 0,.ext 13 11 1,.asg 4 12,.asg 5 13]) .ret) (.seq (.ops [.bin 15 .eql 6 (kI 16),.asg 14 15]) (.cond 14 (.seq (.ops [.mv 16 1,.call (some 17) 143 [16,(kI 1)],.call (some 18) 120 [(kI 1),17],.ext 19 18 0,.ext 20 18 1,.asg 4 19,.asg 5 20]) .ret) .skip)))))) (.seq (.ops [.asg 4 (kI 0),.asg 5 (kB false)]) .ret)))
theorem cDg:aY Tryz.prog 118=some (bXu,[.mv 0 4,.mv 0 5],21):=by kernel_rfl
def cP5 (r:Int×Bool):Exit→St→Prop:=aV [.mv 0 4,.mv 0 5] fun x _=>x=(fun y=>(.tup [(vI y.1),(vB y.2)])) r
def aPi:AC:=(.seq (.ops [.ld 38 10 true 3,.call (some 39) 142 [38],.asg 2 39]) .ret)
def cI0:AC:=(.seq (.ops [.box 1 74 0,.asg 2 (kB false)]) (.seq (.seq (.ops [.fa 4 0 1,.ld 5 1 false 4,.bin 6 .neq 5 (kI 2),.mv 7 6,.g 7 true (.fa 8 6 1),.g 7 true (.ld 9 1 false 8),.g 7 true (.bin 10 .neq 9 (kI 0)),.g 7 true (.mv 11 10),.g 11 false (.fa 12 7 1),.g 11 false (.ld 13 1 false 12),.g 11 false (.bin 14 .neq 13 (kI 0)),.g 7 true (.pick 15 11 (kB true) 14),.pick 16 7 15 (kB false)]) (.cond 16 (.seq (.ops [.asg 2 (kB false)]) .ret) .skip)) (.seq (.dops [[],[0],[],[2],[],[4],[],[6],[],[8],[9],[10,10],[],[12],[13],[14,14],[1,3,5,7,11,15],[],[17,16,0,1,2,3,4,5,6,7,8,9,10,11,12,13,14,15,16,17]] [.fa 17 0 1,.ld 18 1 false 17,.fa 19 1 1,.ld 20 1 false 19,.fa 21 2 1,.ld 22 1 false 21,.fa 23 3 1,.ld 24 3 true 23,.fa 25 8 1,.ld 26 1 false 25,.len 27 26,.mks 28 151 10 136 [(.i .i64 0),(.i .i64 0),(.b false),(.i .i64 0),(.i .i64 0),(.s (bs [])),(.s (bs [])),(.s (bs [])),(.sl 10 []),(.sl 6 [])] 27 27,.fa 29 9 1,.ld 30 1 false 29,.len 31 30,.mks 32 181 6 112 [(.b false),(.sl 13 []),(.sl 3 []),(.sl 10 []),(.sl 11 []),(.i .i64 0)] 31 31,.bld 33 [aQ,aQ,bU,aQ,aQ,dC,dC,dC,(.nil 10),(.nil 6)] [(0,1,18),(1,1,20),(2,1,22),(3,3,24),(8,1,28),(9,1,32)],.alc 3 [aQ,aQ,bU,aQ,aQ,dC,dC,dC,(.nil 10),(.nil 6)],.st 10 3 33]) (.seq (.seq (.ops [.fa 34 0 1,.ld 35 1 false 34,.bin 36 .eql 35 (kI 2)]) (.cond 36 (.ops [.fa 37 7 3,.st 1 37 (.c (.d (.s (bs [97]))))]) .skip)) aPi))))
theorem cI6:aY Tryz.prog 117=some (cI0,[.mv 0 2],40):=by kernel_rfl
def cL6 (r:Bool):Exit→St→Prop:=aV [.mv 0 2] fun x _=>x=(fun y=>(vB y)) r
def bOe (p0:aA) (y3:List eO) (y4:List iJ) (F9:List UInt8):St:=⟨[(3,(.ptr 3 0))],[(3,bJk (eO.mk p0.kind p0.op p0.not_ p0.value [] F9 y3 y4))]⟩
abbrev aWz:=fun p0 y3 y4 F9 r=>avc Tryz.prog aPi (cL6 r) (bOe p0 y3 y4 F9)
def bM2:AC:=(.seq (.ops [.box 1 151 0,.asg 2 (kB false)]) (.seq (.ops [.fa 5 8 1,.ld 6 1 false 5,.len 7 6,.asg 3 7]) (.seq (.ops [.fa 8 9 1,.ld 9 1 false 8,.len 10 9,.asg 4 10]) (.seq (.seq (.ops [.fa 11 0 1,.ld 12 1 false 11,.bin 13 .neq 12 (kI 2),.mv 14 13,.g 14 true (.fa 15 6 1),.g 14 true (.ld 16 1 false 15),.g 14 true (.bin 17 .neq 16 (.c (.d (.s (bs []))))),.g 14 true (.mv 18 17),.g 18 false (.fa 19 7 1),.g 18 false (.ld 20 1 false 19),.g 18 false (.bin 21 .neq 20 (.c (.d (.s (bs []))))),.g 14 true (.pick 22 18 (kB true) 21),.pick 23 14 22 (kB false),.mv 24 23,.g 24 false (.fa 25 0 1),.g 24 false (.ld 26 1 false 25),.g 24 false (.bin 27 .neq 26 (kI 1)),.g 24 false (.mv 28 27),.g 28 true (.fa 29 3 1),.g 28 true (.ld 30 3 true 29),.g 28 true (.bld 31 [aQ,aQ,dC] []),.g 28 true (.eqv 32 true [0,0,1] 30 31),.g 24 false (.pick 33 28 32 (kB false)),.pick 34 24 (kB true) 33]) (.cond 34 (.seq (.ops [.asg 2 (kB false)]) .ret) .skip)) (.seq (.seq (.ops [.fa 35 0 1,.ld 36 1 false 35,.bin 37 .neq 36 (kI 3),.mv 38 37,.g 38 true (.fa 39 0 1),.g 38 true (.ld 40 1 false 39),.g 38 true (.bin 41 .neq 40 (kI 4)),.pick 42 38 41 (kB false),.mv 43 42,.g 43 true (.fa 44 1 1),.g 43 true (.ld 45 1 false 44),.g 43 true (.bin 46 .neq 45 (kI 0)),.pick 47 43 46 (kB false),.mv 48 47,.g 48 false (.fa 49 2 1),.g 48 false (.ld 50 1 false 49),.g 48 false (.mv 51 50),.g 51 true (.fa 52 0 1),.g 51 true (.ld 53 1 false 52),.g 51 true (.call (some 54) 29 [53,(kI 5),(kI 8)]),.g 51 true (.not 55 54),.g 48 false (.pick 56 51 55 (kB false)),.pick 57 48 (kB true) 56]) (.cond 57 (.seq (.ops [.asg 2 (kB false)]) .ret) .skip)) (.seq (.seq (.ops [.fa 58 0 1,.ld 59 1 false 58]) (.block 0 (.seq (.ops [.bin 61 .eql 59 (kI 1),.asg 60 61]) (.cond 60 (.seq (.ops [.fa 62 3 1,.ld 63 3 true 62,.call (some 64) 151 [63],.mv 65 64,.g 65 true (.mv 66 3),.g 65 true (.mv 67 4),.g 65 true (.bin 68 .add 66 67),.g 65 true (.bin 69 .eql 68 (kI 0)),.pick 70 65 69 (kB false),.asg 2 70]) .ret) (.seq (.ops [.bin 72 .eql 59 (kI 2),.asg 71 72]) (.cond 71 (.seq (.ops [.fa 73 7 1,.ld 74 1 false 73,.call (some 75) 68 [74],.mv 76 75,.g 76 true (.fa 77 6 1),.g 76 true (.ld 78 1 false 77),.g 76 true (.call (some 79) 152 [78]),.pick 80 76 79 (kB false),.mv 81 80,.g 81 true (.mv 82 3),.g 81 true (.mv 83 4),.g 81 true (.bin 84 .add 82 83),.g 81 true (.bin 85 .eql 84 (kI 0)),.pick 86 81 85 (kB false),.asg 2 86]) .ret) (.seq (.ops [.bin 88 .eql 59 (kI 3),.asg 87 88]) (.cond 87 (.seq (.ops [.fa 89 1 1,.ld 90 1 false 89,.bin 91 .eql 90 (kI 15),.mv 92 91,.g 92 false (.fa 93 1 1),.g 92 false (.ld 94 1 false 93),.g 92 false (.bin 95 .eql 94 (kI 16)),.pick 96 92 (kB true) 95,.mv 97 96,.g 97 true (.mv 98 3),.g 97 true (.bin 99 .eql 98 (kI 1)),.pick 100 97 99 (kB false),.mv 101 100,.g 101 true (.mv 102 4),.g 101 true (.bin 103 .eql 102 (kI 0)),.pick 104 101 103 (kB false),.asg 2 104]) .ret) (.seq (.ops [.bin 106 .eql 59 (kI 4),.asg 105 106]) (.cond 105 (.seq (.ops [.fa 107 1 1,.ld 108 1 false 107,.call (some 109) 29 [108,(kI 1),(kI 14)],.mv 110 109,.g 110 true (.mv 111 3),.g 110 true (.bin 112 .eql 111 (kI 2)),.pick 113 110 112 (kB false),.mv 114 113,.g 114 true (.mv 115 4),.g 114 true (.bin 116 .eql 115 (kI 0)),.pick 117 114 116 (kB false),.asg 2 117]) .ret) (.seq (.ops [.bin 119 .eql 59 (kI 5),.asg 118 119]) (.cond 118 (.seq (.ops [.mv 120 3,.bin 121 .eql 120 (kI 1),.mv 122 121,.g 122 true (.mv 123 4),.g 122 true (.bin 124 .eql 123 (kI 0)),.pick 125 122 124 (kB false),.asg 2 125]) .ret) (.seq (.ops [.bin 127 .eql 59 (kI 6),.asg 126 127]) (.cond 126 (.seq (.ops [.mv 128 3,.bin 129 .eql 128 (kI 3),.mv 130 129,.g 130 true (.mv 131 4),.g 130 true (.bin 132 .eql 131 (kI 0)),.pick 133 130 132 (kB false),.asg 2 133]) .ret) (.seq (.ops [.bin 135 .eql 59 (kI 7),.asg 134 135]) (.cond 134 (.seq (.ops [.mv 136 3,.call (some 137) 29 [136,(kI 2),(kI 9)],.mv 138 137,.g 138 true (.mv 139 4),.g 138 true (.bin 140 .eql 139 (kI 0)),.pick 141 138 140 (kB false),.asg 2 141]) .ret) (.seq (.ops [.bin 143 .eql 59 (kI 8),.asg 142 143]) (.cond 142 (.seq (.ops [.mv 144 3,.bin 145 .eql 144 (kI 1),.mv 146 145,.g 146 true (.mv 147 4),.g 146 true (.bin 148 .eql 147 (kI 1)),.pick 149 146 148 (kB false),.asg 2 149]) .ret) (.seq (.ops [.bin 151 .eql 59 (kI 9),.asg 150 151]) (.cond 150 (.seq (.ops [.mv 152 3,.bin 153 .eql 152 (kI 0),.mv 154 153,.g 154 true (.mv 155 4),.g 154 true (.bin 156 .eql 155 (kI 1)),.pick 157 154 156 (kB false),.asg 2 157]) .ret) .skip)))))))))))))))))))) (.seq (.ops [.asg 2 (kB false)]) .ret)))))))
theorem bKx:aY Tryz.prog 142=some (bM2,[.mv 0 2],158):=by kernel_rfl
def cOv (r:Bool):Exit→St→Prop:=aV [.mv 0 2] fun x _=>x=(fun y=>(vB y)) r
def bNa:AC:=(.seq (.ops [.asg 2 (kB false)]) (.seq (.ops [.mv 3 0,.lns 4 3,.call (some 5) 29 [4,(kI 1),(kI 20)],.asg 2 5]) .ret))
theorem cIz:aY Tryz.prog 68=some (bNa,[.mv 0 2],6):=by kernel_rfl
def cPk (r:Bool):Exit→St→Prop:=aV [.mv 0 2] fun x _=>x=(fun y=>(vB y)) r
def bX0:AC:=(.seq (.ops [.asg 2 (kB false)]) (.seq (.ops [.mv 3 0,.bin 4 .eql 3 (.c (.d (.s (bs [])))),.mv 5 4,.g 5 false (.mv 6 0),.g 5 false (.call (some 7) 68 [6]),.pick 8 5 (kB true) 7,.asg 2 8]) .ret))
theorem cDf:aY Tryz.prog 152=some (bX0,[.mv 0 2],9):=by kernel_rfl
def cQa (r:Bool):Exit→St→Prop:=aV [.mv 0 2] fun x _=>x=(fun y=>(vB y)) r
def bUe:AC:=(.seq (.ops [.box 1 71 0,.asg 2 (kB false)]) (.seq (.ops [.ld 3 3 true 1,.call (some 4) 154 [3],.mv 5 4,.g 5 true (.fa 6 0 1),.g 5 true (.ld 7 1 false 6),.g 5 true (.bin 8 .neq 7 (kI 1)),.g 5 true (.mv 9 8),.g 9 false (.fa 10 1 1),.g 9 false (.ld 11 1 false 10),.g 9 false (.bin 12 .geq 11 (kI 0)),.g 5 true (.pick 13 9 (kB true) 12),.pick 14 5 13 (kB false),.mv 15 14,.g 15 true (.fa 16 2 1),.g 15 true (.ld 17 1 false 16),.g 15 true (.lns 18 17),.g 15 true (.bin 19 .leq 18 (kI 40)),.pick 20 15 19 (kB false),.asg 2 20]) .ret))
theorem bTx:aY Tryz.prog 151=some (bUe,[.mv 0 2],21):=by kernel_rfl
def cQi (r:Bool):Exit→St→Prop:=aV [.mv 0 2] fun x _=>x=(fun y=>(vB y)) r
def bVv:AC:=(.seq (.ops [.box 1 71 0,.asg 2 (kB false)]) (.seq (.seq (.ops [.fa 3 0 1,.ld 4 1 false 3]) (.block 0 (.seq (.ops [.bin 6 .eql 4 (kI 0),.asg 5 6]) (.cond 5 (.seq (.ops [.fa 7 1 1,.ld 8 1 false 7,.bin 9 .eql 8 (kI 0),.mv 10 9,.g 10 true (.fa 11 2 1),.g 10 true (.ld 12 1 false 11),.g 10 true (.bin 13 .eql 12 (.c (.d (.s (bs []))))),.pick 14 10 13 (kB false),.asg 2 14]) .ret) (.seq (.ops [.bin 16 .eql 4 (kI 1),.asg 15 16]) (.cond 15 (.seq (.ops [.fa 17 2 1,.ld 18 1 false 17,.bin 19 .eql 18 (.c (.d (.s (bs [])))),.asg 2 19]) .ret) (.seq (.ops [.bin 21 .eql 4 (kI 2),.asg 20 21]) (.cond 20 (.seq (.ops [.fa 22 1 1,.ld 23 1 false 22,.bin 24 .eql 23 (kI 0),.mv 25 24,.g 25 true (.fa 26 2 1),.g 25 true (.ld 27 1 false 26),.g 25 true (.lns 28 27),.g 25 true (.bin 29 .leq 28 (kI 200)),.pick 30 25 29 (kB false),.asg 2 30]) .ret) (.seq (.ops [.bin 32 .eql 4 (kI 3),.asg 31 32]) (.cond 31 (.seq (.ops [.fa 33 1 1,.ld 34 1 false 33,.call (some 35) 29 [34,(kI 0),(kI 1)],.mv 36 35,.g 36 true (.fa 37 2 1),.g 36 true (.ld 38 1 false 37),.g 36 true (.bin 39 .eql 38 (.c (.d (.s (bs []))))),.pick 40 36 39 (kB false),.asg 2 40]) .ret) .skip)))))))))) (.seq (.ops [.asg 2 (kB false)]) .ret)))
theorem cF5:aY Tryz.prog 154=some (bVv,[.mv 0 2],41):=by kernel_rfl
def cPb (r:Bool):Exit→St→Prop:=aV [.mv 0 2] fun x _=>x=(fun y=>(vB y)) r
def aVe:AC:=(.loop (.seq (.seq (.ops [.mv 7 4,.mv 8 0,.len 9 8,.bin 10 .lss 7 9]) (.cond 10 .skip (.exit 0))) (.seq (.block 1 (.seq (.ops [.mv 14 3,.mv 15 0,.mv 16 4,.ia 17 1 15 16,.ld 18 1 false 17,.call (some 19) 116 [14,18],.mv 13 19,.ext 20 13 0,.ext 21 13 1,.asg 5 20,.asg 6 21]) (.seq (.seq (.ops [.mv 22 6,.not 23 22]) (.cond 23 (.seq (.ops [.asg 2 (kB false)]) .ret) .skip)) (.ops [.mv 24 5,.asg 3 24])))) (.ops [.mv 11 4,.bin 12 .add 11 (kI 1),.asg 4 12]))))
def bDl:AC:=(.seq (.ops [.asg 2 (kB true)]) .ret)
def cLx:AC:=(.seq (.ops [.asg 2 (kB false)]) (.seq (.ops [.asg 3 (kI 0)]) (.seq (.seq (.ops [.asg 4 (kI 0)]) (.block 0 aVe)) bDl)))
theorem bZ9:aY Tryz.prog 121=some (cLx,[.mv 0 2],25):=by kernel_rfl
def bId (r:Bool):Exit→St→Prop:=aV [.mv 0 2] fun x _=>x=(fun y=>(vB y)) r
def bW4 (r:Bool):Exit→St→Prop:=(bD (wkK (avc Tryz.prog bDl (bId r))) (bId r))
def bSq (r:Bool):Exit→St→Prop:=(bG 0 (bW4 r))
def bRp (p0:List Int) (x3:Int) (x4:Int):St:=⟨[(0,(eP p0)),(3,(vI x3)),(4,(vI x4))],[]⟩
abbrev aJb:=fun p0 x3 x4 r=>avc Tryz.prog aVe (bSq r) (bRp p0 x3 x4)
def aV7:AC:=(.loop (.seq (.seq (.ops [.mv 9 7,.mv 10 1,.len 11 10,.bin 12 .lss 9 11]) (.cond 12 .skip (.exit 0))) (.seq (.block 1 (.seq (.seq (.dops [[],[],[0,1],[2],[],[4],[5],[6],[3,7],[8]] [.mv 15 1,.mv 16 7,.ia 17 1 15 16,.ld 18 1 false 17,.fa 19 0 2,.ld 20 1 false 19,.len 21 20,.bin 22 .sub 21 (kI 1),.call (some 23) 29 [18,(kI 0),22],.not 24 23]) (.cond 24 (.seq (.ops [.bsl 25 3 1 [],.asg 4 25,.asg 5 (kB false)]) .ret) .skip)) (.dops [[],[],[1],[],[],[3,4],[5],[2,6],[7],[8],[0,9,9],[10,10,0,1,2,3,4,5,6,7,8,9,10]] [.mv 26 6,.fa 27 0 2,.ld 28 1 false 27,.mv 29 1,.mv 30 7,.ia 31 1 29 30,.ld 32 1 false 31,.ia 33 2 28 32,.ld 34 2 true 33,.call (some 35) 33 [34],.app 36 3 1 8 26 35,.asg 6 36]))) (.ops [.mv 13 7,.bin 14 .add 13 (kI 1),.asg 7 14]))))
def aZp:AC:=(.seq (.ops [.mv 37 6,.asg 4 37,.asg 5 (kB true)]) .ret)
def cJw:AC:=(.seq (.ops [.box 2 37 0,.asg 4 (.c (.nil 1)),.asg 5 (kB false)]) (.seq (.ops [.bsl 8 3 1 [],.asg 6 8]) (.seq (.seq (.ops [.asg 7 (kI 0)]) (.block 0 aV7)) aZp)))
theorem cJx:aY Tryz.prog 114=some (cJw,[.mv 0 4,.mv 0 5],38):=by kernel_rfl
def aZ1 (r:(List Int)×Bool):Exit→St→Prop:=aV [.mv 0 4,.mv 0 5] fun x b=>x=(fun (y:(List Int)×Bool)=>(.tup [(.osl 2000000 3 1 (y.1.map cI)),(vB y.2)])) r∧bR ((fun (y:(List Int)×Bool)=>[]) r) b
def cHl (r:(List Int)×Bool):Exit→St→Prop:=(bD (wkK (avc Tryz.prog aZp (aZ1 r))) (aZ1 r))
def cC6 (r:(List Int)×Bool):Exit→St→Prop:=(bG 0 (cHl r))
def bUf (p1:List Int) (p0:aP) (x6:List Int) (x7:Int):St:=⟨[(1,(eP p1)),(2,(.ptr 2 0)),(6,(.osl 6 3 1 (x6.map cI))),(7,(vI x7))],[(2,dD p0)]⟩
abbrev aI0:=fun p1 p0 x6 x7 r=>avc Tryz.prog aV7 (cC6 r) (bUf p1 p0 x6 x7)
def aV0:AC:=(.loop (.seq (.seq (.ops [.mv 6 4,.fa 7 1 1,.ld 8 1 false 7,.len 9 8,.bin 10 .lss 6 9]) (.cond 10 .skip (.exit 0))) (.seq (.block 1 (.ops [.mv 13 3,.fa 14 1 1,.ld 15 1 false 14,.mv 16 4,.ia 17 2 15 16,.fa 18 1 17,.ld 19 1 false 18,.bsl 20 3 1 [19],.app 21 3 1 8 13 20,.asg 3 21])) (.ops [.mv 11 4,.bin 12 .add 11 (kI 1),.asg 4 12]))))
def bCb:AC:=(.seq (.ops [.mv 22 3,.asg 2 22]) .ret)
def bQf:AC:=(.seq (.ops [.box 1 56 0,.asg 2 (.c (.nil 1))]) (.seq (.ops [.bsl 5 3 1 [],.asg 3 5]) (.seq (.seq (.ops [.asg 4 (kI 0)]) (.block 0 aV0)) bCb)))
theorem bOy:aY Tryz.prog 33=some (bQf,[.mv 0 2],23):=by kernel_rfl
def bEk (r:List Int):Exit→St→Prop:=aV [.mv 0 2] fun x b=>x=(fun (y:List Int)=>(.osl 2000000 3 1 (y.map cI))) r∧bR ((fun (y:List Int)=>[]) r) b
def cKf (r:List Int):Exit→St→Prop:=(bD (wkK (avc Tryz.prog bCb (bEk r))) (bEk r))
def cFl (r:List Int):Exit→St→Prop:=(bG 0 (cKf r))
def bX4 (p0:bI) (x3:List Int) (x4:Int):St:=⟨[(1,(.ptr 1 0)),(3,(.osl 3 3 1 (x3.map cI))),(4,(vI x4))],[(1,aFd p0)]⟩
abbrev aJ6:=fun p0 x3 x4 r=>avc Tryz.prog aV0 (cFl r) (bX4 p0 x3 x4)
def aR1:AC:=(.loop (.seq (.seq (.ops [.mv 10 7,.mv 11 2,.len 12 11,.bin 13 .lss 10 12]) (.cond 13 .skip (.exit 0))) (.seq (.block 1 (.seq (.dops [[],[],[],[],[2,3],[4],[0,1,5],[6],[7],[7],[8,6,0,1,2,3,4,5,6,7,8],[9,10,0,1,2,3,4,5,6,7,8,9,10]] [.ld 17 1 true 3,.mv 18 1,.mv 19 2,.mv 20 7,.ia 21 10 19 20,.ld 22 10 true 21,.call (some 23) 77 [17,18,22],.mv 16 23,.ext 24 16 0,.ext 25 16 1,.asg 8 24,.asg 9 25]) (.seq (.ops [.mv 26 9,.not 27 26,.mv 28 27,.g 28 false (.mv 29 8),.g 28 false (.call (some 30) 78 [29]),.g 28 false (.not 31 30),.pick 32 28 (kB true) 31]) (.cond 32 (.seq (.ops [.asg 6 (kB false)]) .ret) .skip)))) (.ops [.mv 14 7,.bin 15 .add 14 (kI 1),.asg 7 15]))))
def aZt:AC:=(.seq (.ops [.asg 6 (kB true)]) .ret)
def cK8:AC:=(.seq (.ops [.box 3 37 0,.asg 6 (kB false)]) (.seq (.seq (.ops [.asg 7 (kI 0)]) (.block 0 aR1)) aZt))
theorem bOa:aY Tryz.prog 34=some (cK8,[.mv 0 6],33):=by kernel_rfl
def bHh (r:Bool):Exit→St→Prop:=aV [.mv 0 6] fun x _=>x=(fun y=>(vB y)) r
def cFq (r:Bool):Exit→St→Prop:=(bD (wkK (avc Tryz.prog aZt (bHh r))) (bHh r))
def bVx (r:Bool):Exit→St→Prop:=(bG 0 (cFq r))
def cIe (p1:List (List Int)) (p2:List aA) (p0:aP) (x7:Int):St:=⟨[(1,(.d (.sl 1 (p1.map (cSl 1 cI))))),(2,(dX p2)),(3,(.ptr 3 0)),(7,(vI x7))],[(3,dD p0)]⟩
abbrev aJf:=fun p1 p2 p0 x7 r=>avc Tryz.prog aR1 (bVx r) (cIe p1 p2 p0 x7)
def cIx:AC:=(.seq (.ops [.asg 4 (.c (.nil 1))]) (.seq (.ops [.mv 5 0,.bsl 6 24 1 [5],.mv 7 1,.app 8 24 1 24 6 7,.asg 4 8]) .ret))
theorem bOf:aY Tryz.prog 115=some (cIx,[.mv 0 4],9):=by kernel_rfl
def cMp (r:List (List Int)):Exit→St→Prop:=aV [.mv 0 4] fun x b=>x=(fun (y:List (List Int))=>(.osl 2000000 24 1 (y.map (cSl 1 cI)))) r∧bR ((fun (y:List (List Int))=>[]) r) b
def aU1:AC:=(.loop (.seq (.seq (.ops [.mv 64 5,.fa 65 1 3,.ld 66 1 false 65,.len 67 66,.bin 68 .lss 64 67]) (.cond 68 .skip (.exit 0))) (.seq (.block 1 (.seq (.ops [.fa 71 1 3,.ld 72 1 false 71,.mv 73 5,.ia 74 1 72 73,.ld 75 1 false 74,.len 76 75,.bin 77 .gtr 76 (kI 1)]) (.cond 77 (.seq (.ops [.asg 4 (kB false)]) .ret) .skip))) (.ops [.mv 69 5,.bin 70 .add 69 (kI 1),.asg 5 70]))))
def aPh:AC:=(.loop (.seq (.seq (.ops [.mv 78 6,.fa 79 5 3,.ld 80 1 false 79,.len 81 80,.bin 82 .lss 78 81]) (.cond 82 .skip (.exit 2))) (.seq (.block 3 (.seq (.ops [.fa 85 5 3,.ld 86 1 false 85,.mv 87 6,.ia 88 1 86 87,.ld 89 1 false 88,.call (some 90) 68 [89],.not 91 90]) (.cond 91 (.seq (.ops [.asg 4 (kB false)]) .ret) .skip))) (.ops [.mv 83 6,.bin 84 .add 83 (kI 1),.asg 6 84]))))
def bFg:AC:=(.seq (.ops [.ld 93 1 true 2,.fa 94 0 3,.ld 95 1 false 94,.call (some 96) 114 [93,95],.mv 92 96,.ext 97 92 0,.ext 98 92 1,.asg 7 97,.asg 8 98]) (.seq (.ops [.mv 99 8,.asg 4 99]) .ret))
def aZh:AC:=(.seq (.seq (.ops [.asg 6 (kI 0)]) (.block 2 aPh)) bFg)
def cHz:AC:=(.seq (.ops [.box 2 37 0,.box 3 30 1,.asg 4 (kB false)]) (.seq (.seq (.ops [.fa 9 0 3,.ld 10 1 false 9,.len 11 10,.call (some 12) 29 [11,(kI 1),(kI 3)],.not 13 12,.mv 14 13,.g 14 false (.fa 15 1 3),.g 14 false (.ld 16 1 false 15),.g 14 false (.len 17 16),.g 14 false (.fa 18 0 3),.g 14 false (.ld 19 1 false 18),.g 14 false (.len 20 19),.g 14 false (.bin 21 .neq 17 20),.pick 22 14 (kB true) 21,.mv 23 22,.g 23 false (.fa 24 1 3),.g 23 false (.ld 25 1 false 24),.g 23 false (.ia 26 1 25 (kI 0)),.g 23 false (.ld 27 1 false 26),.g 23 false (.len 28 27),.g 23 false (.bin 29 .gtr 28 (kI 0)),.pick 30 23 (kB true) 29,.mv 31 30,.g 31 false (.fa 32 2 3),.g 31 false (.ld 33 1 false 32),.g 31 false (.len 34 33),.g 31 false (.bin 35 .gtr 34 (kI 1)),.pick 36 31 (kB true) 35,.mv 37 36,.g 37 false (.fa 38 3 3),.g 37 false (.ld 39 1 false 38),.g 37 false (.len 40 39),.g 37 false (.bin 41 .gtr 40 (kI 12)),.pick 42 37 (kB true) 41,.mv 43 42,.g 43 false (.fa 44 4 3),.g 43 false (.ld 45 1 false 44),.g 43 false (.len 46 45),.g 43 false (.call (some 47) 29 [46,(kI 1),(kI 12)]),.g 43 false (.not 48 47),.pick 49 43 (kB true) 48,.mv 50 49,.g 50 false (.fa 51 5 3),.g 50 false (.ld 52 1 false 51),.g 50 false (.len 53 52),.g 50 false (.fa 54 4 3),.g 50 false (.ld 55 1 false 54),.g 50 false (.len 56 55),.g 50 false (.bin 57 .neq 53 56),.pick 58 50 (kB true) 57,.mv 59 58,.g 59 false (.fa 60 7 3),.g 59 false (.ld 61 1 false 60),.g 59 false (.bin 62 .lss 61 (kI (-1))),.pick 63 59 (kB true) 62]) (.cond 63 (.seq (.ops [.asg 4 (kB false)]) .ret) .skip)) (.seq (.seq (.ops [.asg 5 (kI 0)]) (.block 0 aU1)) aZh)))
theorem bKg:aY Tryz.prog 113=some (cHz,[.mv 0 4],100):=by kernel_rfl
def aIp (r:Bool):Exit→St→Prop:=aV [.mv 0 4] fun x _=>x=(fun y=>(vB y)) r
def bLe (r:Bool):Exit→St→Prop:=(bD (wkK (avc Tryz.prog aZh (aIp r))) (aIp r))
def bUn (r:Bool):Exit→St→Prop:=(bG 0 (bLe r))
def bLu (r:Bool):Exit→St→Prop:=(bD (wkK (avc Tryz.prog bFg (aIp r))) (aIp r))
def bTm (r:Bool):Exit→St→Prop:=(bG 2 (bLu r))
def cA9 (p0:aP) (p1:aL) (x5:Int):St:=⟨[(2,(.ptr 2 0)),(3,(.ptr 3 0)),(5,(vI x5))],[(2,dD p0),(3,kL p1)]⟩
abbrev aHy:=fun p0 p1 x5 r=>avc Tryz.prog aU1 (bUn r) (cA9 p0 p1 x5)
def bXj (p0:aP) (p1:aL) (x6:Int):St:=⟨[(2,(.ptr 2 0)),(3,(.ptr 3 0)),(6,(vI x6))],[(2,dD p0),(3,kL p1)]⟩
abbrev aJa:=fun p0 p1 x6 r=>avc Tryz.prog aPh (bTm r) (bXj p0 p1 x6)
def aSb:AC:=(.loop (.seq (.seq (.ops [.mv 8 5,.mv 9 4,.len 10 9,.bin 11 .lss 8 10]) (.cond 11 .skip (.exit 0))) (.seq (.block 1 (.ops [.mv 14 3,.mv 15 4,.mv 16 5,.ia 17 10 15 16,.ld 18 10 true 17,.call (some 19) 74 [18],.bin 20 .add 14 19,.asg 3 20])) (.ops [.mv 12 5,.bin 13 .add 12 (kI 1),.asg 5 13]))))
def bBj:AC:=(.seq (.ops [.mv 21 3,.asg 2 21]) .ret)
def cI7:AC:=(.seq (.ops [.box 1 30 0,.asg 2 (kI 0)]) (.seq (.ops [.asg 3 (kI 0)]) (.seq (.ops [.ld 6 8 true 1,.call (some 7) 111 [6],.asg 4 7]) (.seq (.seq (.ops [.asg 5 (kI 0)]) (.block 0 aSb)) bBj))))
theorem bQ7:aY Tryz.prog 66=some (cI7,[.mv 0 2],22):=by kernel_rfl
def bDs (r:Int):Exit→St→Prop:=aV [.mv 0 2] fun x _=>x=(fun y=>(vI y)) r
def cJ3 (r:Int):Exit→St→Prop:=(bD (wkK (avc Tryz.prog bBj (bDs r))) (bDs r))
def cJf (r:Int):Exit→St→Prop:=(bG 0 (cJ3 r))
def bJ2 (y1:List aA) (x3:Int) (x5:Int):St:=⟨[(3,(vI x3)),(4,(.osl 4 74 10 (y1.map aJ))),(5,(vI x5))],[]⟩
abbrev aNf:=fun y1 x3 x5 r=>avc Tryz.prog aSb (cJf r) (bJ2 y1 x3 x5)
def aWn:AC:=(.loop (.seq (.seq (.ops [.mv 6 4,.fa 7 8 1,.ld 8 1 false 7,.len 9 8,.bin 10 .lss 6 9]) (.cond 10 .skip (.exit 0))) (.seq (.block 1 (.ops [.mv 13 3,.fa 14 8 1,.ld 15 1 false 14,.mv 16 4,.ia 17 10 15 16,.ld 18 10 true 17,.call (some 19) 74 [18],.bin 20 .add 13 19,.asg 3 20])) (.ops [.mv 11 4,.bin 12 .add 11 (kI 1),.asg 4 12]))))
def aUm:AC:=(.loop (.seq (.seq (.ops [.mv 21 5,.fa 22 9 1,.ld 23 1 false 22,.len 24 23,.bin 25 .lss 21 24]) (.cond 25 .skip (.exit 2))) (.seq (.block 3 (.ops [.mv 28 3,.fa 29 9 1,.ld 30 1 false 29,.mv 31 5,.ia 32 8 30 31,.ld 33 8 true 32,.call (some 34) 66 [33],.bin 35 .add 28 34,.asg 3 35])) (.ops [.mv 26 5,.bin 27 .add 26 (kI 1),.asg 5 27]))))
def bC6:AC:=(.seq (.ops [.mv 36 3,.asg 2 36]) .ret)
def bIe:AC:=(.seq (.seq (.ops [.asg 5 (kI 0)]) (.block 2 aUm)) bC6)
def bMs:AC:=(.seq (.ops [.box 1 74 0,.asg 2 (kI 0)]) (.seq (.ops [.asg 3 (kI 1)]) (.seq (.seq (.ops [.asg 4 (kI 0)]) (.block 0 aWn)) bIe)))
theorem cCn:aY Tryz.prog 74=some (bMs,[.mv 0 2],37):=by kernel_rfl
def aHd (r:Int):Exit→St→Prop:=aV [.mv 0 2] fun x _=>x=(fun y=>(vI y)) r
def bNv (r:Int):Exit→St→Prop:=(bD (wkK (avc Tryz.prog bIe (aHd r))) (aHd r))
def cD6 (r:Int):Exit→St→Prop:=(bG 0 (bNv r))
def bWu (r:Int):Exit→St→Prop:=(bD (wkK (avc Tryz.prog bC6 (aHd r))) (aHd r))
def bLr (r:Int):Exit→St→Prop:=(bG 2 (bWu r))
def bZu (p0:aA) (x3:Int) (x4:Int):St:=⟨[(1,(.ptr 1 0)),(3,(vI x3)),(4,(vI x4))],[(1,qR p0)]⟩
abbrev aIn:=fun p0 x3 x4 r=>avc Tryz.prog aWn (cD6 r) (bZu p0 x3 x4)
def bRg (p0:aA) (oC:Int) (x5:Int):St:=⟨[(1,(.ptr 1 0)),(3,(vI oC)),(5,(vI x5))],[(1,qR p0)]⟩
abbrev aGs:=fun p0 oC x5 r=>avc Tryz.prog aUm (bLr r) (bRg p0 oC x5)
def aWl:AC:=(.loop (.seq (.seq (.ops [.mv 41 5,.fa 42 1 4,.ld 43 1 false 42,.len 44 43,.bin 45 .lss 41 44]) (.cond 45 .skip (.exit 2))) (.seq (.block 3 (.seq (.dops [[],[0],[],[1,2],[3],[4],[5],[6],[7,6],[8],[8],[10,8],[8],[11,12,8],[13,8],[14,8],[9,15,8,8],[8],[16,17,8],[8,18],[19,16],[20],[21,20],[20],[22,23,20],[24,20],[25,20],[26,20,20],[27,20],[20,28]] [.fa 48 1 4,.ld 49 1 false 48,.mv 50 5,.ia 51 2 49 50,.fa 52 0 51,.ld 53 1 false 52,.call (some 54) 68 [53],.not 55 54,.mv 56 55,.g 56 false (.ld 57 2 true 4),.g 56 false (.fa 58 1 4),.g 56 false (.ld 59 1 false 58),.g 56 false (.mv 60 5),.g 56 false (.ia 61 2 59 60),.g 56 false (.fa 62 0 61),.g 56 false (.ld 63 1 false 62),.g 56 false (.call (some 64) 70 [57,63]),.g 56 false (.mv 65 5),.g 56 false (.bin 66 .neq 64 65),.pick 67 56 (kB true) 66,.mv 68 67,.g 68 false (.fa 69 1 4),.g 68 false (.ld 70 1 false 69),.g 68 false (.mv 71 5),.g 68 false (.ia 72 2 70 71),.g 68 false (.fa 73 1 72),.g 68 false (.ld 74 1 false 73),.g 68 false (.call (some 75) 29 [74,(kI 1),(kI 3)]),.g 68 false (.not 76 75),.pick 77 68 (kB true) 76]) (.cond 77 (.seq (.ops [.asg 2 (kB false)]) .ret) .skip))) (.ops [.mv 46 5,.bin 47 .add 46 (kI 1),.asg 5 47]))))
def bHa:AC:=(.ops [.mv 15 3,.bin 16 .add 15 (kI 1),.asg 3 16])
def aNh:AC:=(.loop (.seq (.seq (.ops [.mv 10 3,.fa 11 0 1,.ld 12 1 false 11,.len 13 12,.bin 14 .lss 10 13]) (.cond 14 .skip (.exit 0))) (.seq (.block 1 (.seq (.ops [.fa 17 0 1,.ld 18 1 false 17,.mv 19 3,.ia 20 2 18 19,.ld 21 2 true 20,.alc 4 [dC,(.nil 2)],.st 2 4 21]) (.seq (.seq (.ops [.fa 22 0 4,.ld 23 1 false 22,.call (some 24) 68 [23],.not 25 24,.mv 26 25,.g 26 false (.ld 27 1 true 1),.g 26 false (.fa 28 0 4),.g 26 false (.ld 29 1 false 28),.g 26 false (.call (some 30) 69 [27,29]),.g 26 false (.mv 31 3),.g 26 false (.bin 32 .neq 30 31),.pick 33 26 (kB true) 32,.mv 34 33,.g 34 false (.fa 35 1 4),.g 34 false (.ld 36 1 false 35),.g 34 false (.len 37 36),.g 34 false (.call (some 38) 29 [37,(kI 1),(kI 4)]),.g 34 false (.not 39 38),.pick 40 34 (kB true) 39]) (.cond 40 (.seq (.ops [.asg 2 (kB false)]) .ret) .skip)) (.seq (.ops [.asg 5 (kI 0)]) (.block 2 aWl))))) bHa)))
def bI1:AC:=(.seq (.ops [.asg 2 (kB true)]) .ret)
def bXc:AC:=(.seq (.ops [.box 1 37 0,.asg 2 (kB false)]) (.seq (.seq (.ops [.fa 6 0 1,.ld 7 1 false 6,.len 8 7,.bin 9 .gtr 8 (kI 4)]) (.cond 9 (.seq (.ops [.asg 2 (kB false)]) .ret) .skip)) (.seq (.seq (.ops [.asg 3 (kI 0)]) (.block 0 aNh)) bI1)))
theorem cFg:aY Tryz.prog 28=some (bXc,[.mv 0 2],78):=by kernel_rfl
def bC0 (r:Bool):Exit→St→Prop:=aV [.mv 0 2] fun x _=>x=(fun y=>(vB y)) r
def cEl (r:Bool):Exit→St→Prop:=(bD (wkK (avc Tryz.prog bI1 (bC0 r))) (bC0 r))
def aOb (r:Bool):Exit→St→Prop:=(bG 0 (cEl r))
def aXl (r:Bool):Exit→St→Prop:=(bD (avc Tryz.prog aNh (aOb r)) (aOb r))
def cDs (r:Bool):Exit→St→Prop:=(bD (wkK (avc Tryz.prog bHa (aXl r))) (aXl r))
def bOl (r:Bool):Exit→St→Prop:=(bG 1 (cDs r))
def bYq (r:Bool):Exit→St→Prop:=(bG 2 (bOl r))
def bEp (p0:aP) (x3:Int):St:=⟨[(1,(.ptr 1 0)),(3,(vI x3))],[(1,dD p0)]⟩
abbrev aK2:=fun p0 x3 r=>avc Tryz.prog aNh (aOb r) (bEp p0 x3)
def cFr (x3:Int) (p0:aP) (y1:bI) (x5:Int):St:=⟨[(1,(.ptr 1 0)),(3,(vI x3)),(4,(.ptr 4 0)),(5,(vI x5))],[(1,dD p0),(4,aFd y1)]⟩
abbrev aLf:=fun x3 p0 y1 x5 r=>avc Tryz.prog aWl (bYq r) (cFr x3 p0 y1 x5)
def aUc:AC:=(.loop (.seq (.seq (.ops [.mv 6 5,.fa 7 1 2,.ld 8 1 false 7,.len 9 8,.bin 10 .lss 6 9]) (.cond 10 .skip (.exit 0))) (.seq (.block 1 (.seq (.ops [.fa 13 1 2,.ld 14 1 false 13,.mv 15 5,.ia 16 2 14 15,.fa 17 0 16,.ld 18 1 false 17,.mv 19 1,.bin 20 .eql 18 19]) (.cond 20 (.seq (.ops [.mv 21 5,.asg 4 21]) .ret) .skip))) (.ops [.mv 11 5,.bin 12 .add 11 (kI 1),.asg 5 12]))))
def bE4:AC:=(.seq (.ops [.asg 4 (kI (-1))]) .ret)
def bT8:AC:=(.seq (.ops [.box 2 56 0,.asg 4 (kI 0)]) (.seq (.seq (.ops [.asg 5 (kI 0)]) (.block 0 aUc)) bE4))
theorem bS1:aY Tryz.prog 70=some (bT8,[.mv 0 4],22):=by kernel_rfl
def aYr (r:Int):Exit→St→Prop:=aV [.mv 0 4] fun x _=>x=(fun y=>(vI y)) r
def cI4 (r:Int):Exit→St→Prop:=(bD (wkK (avc Tryz.prog bE4 (aYr r))) (aYr r))
def bZx (r:Int):Exit→St→Prop:=(bG 0 (cI4 r))
def bVc (p1:List UInt8) (p0:bI) (x5:Int):St:=⟨[(1,(vS p1)),(2,(.ptr 2 0)),(5,(vI x5))],[(2,aFd p0)]⟩
abbrev aHm:=fun p1 p0 x5 r=>avc Tryz.prog aUc (bZx r) (bVc p1 p0 x5)
def aTh:AC:=(.loop (.seq (.seq (.ops [.mv 6 5,.fa 7 0 2,.ld 8 1 false 7,.len 9 8,.bin 10 .lss 6 9]) (.cond 10 .skip (.exit 0))) (.seq (.block 1 (.seq (.ops [.fa 13 0 2,.ld 14 1 false 13,.mv 15 5,.ia 16 2 14 15,.fa 17 0 16,.ld 18 1 false 17,.mv 19 1,.bin 20 .eql 18 19]) (.cond 20 (.seq (.ops [.mv 21 5,.asg 4 21]) .ret) .skip))) (.ops [.mv 11 5,.bin 12 .add 11 (kI 1),.asg 5 12]))))
def bB1:AC:=(.seq (.ops [.asg 4 (kI (-1))]) .ret)
def bSx:AC:=(.seq (.ops [.box 2 37 0,.asg 4 (kI 0)]) (.seq (.seq (.ops [.asg 5 (kI 0)]) (.block 0 aTh)) bB1))
theorem bQ8:aY Tryz.prog 69=some (bSx,[.mv 0 4],22):=by kernel_rfl
def bF2 (r:Int):Exit→St→Prop:=aV [.mv 0 4] fun x _=>x=(fun y=>(vI y)) r
def bRl (r:Int):Exit→St→Prop:=(bD (wkK (avc Tryz.prog bB1 (bF2 r))) (bF2 r))
def cB8 (r:Int):Exit→St→Prop:=(bG 0 (bRl r))
def bTp (p1:List UInt8) (p0:aP) (x5:Int):St:=⟨[(1,(vS p1)),(2,(.ptr 2 0)),(5,(vI x5))],[(2,dD p0)]⟩
abbrev aFz:=fun p1 p0 x5 r=>avc Tryz.prog aTh (cB8 r) (bTp p1 p0 x5)
def aS8:AC:=(.loop (.seq (.seq (.ops [.mv 31 7,.mv 32 5,.len 33 32,.bin 34 .lss 31 33]) (.cond 34 .skip (.exit 2))) (.seq (.block 3 (.seq (.dops [[],[],[1],[],[2,3],[4],[],[5,6],[7],[],[],[9,10],[11],[0,8,12],[13]] [.ld 37 1 true 2,.fa 38 10 3,.ld 39 1 false 38,.mv 40 6,.ia 41 1 39 40,.ld 42 1 false 41,.mv 43 7,.ia 44 10 42 43,.ld 45 10 true 44,.mv 46 5,.mv 47 7,.ia 48 1 46 47,.ld 49 1 false 48,.call (some 50) 76 [37,(.c (.nil 1)),45,49],.not 51 50]) (.cond 51 (.seq (.ops [.asg 4 (kB false)]) .ret) .skip))) (.ops [.mv 35 7,.bin 36 .add 35 (kI 1),.asg 7 36]))))
def bI9:AC:=(.ops [.mv 20 6,.bin 21 .add 20 (kI 1),.asg 6 21])
def aIc:AC:=(.loop (.seq (.seq (.ops [.mv 15 6,.fa 16 10 3,.ld 17 1 false 16,.len 18 17,.bin 19 .lss 15 18]) (.cond 19 .skip (.exit 0))) (.seq (.block 1 (.seq (.seq (.ops [.fa 22 10 3,.ld 23 1 false 22,.mv 24 6,.ia 25 1 23 24,.ld 26 1 false 25,.len 27 26,.mv 28 5,.len 29 28,.bin 30 .neq 27 29]) (.cond 30 (.seq (.ops [.asg 4 (kB false)]) .ret) .skip)) (.seq (.ops [.asg 7 (kI 0)]) (.block 2 aS8)))) bI9)))
def bEy:AC:=(.seq (.ops [.fa 52 10 3,.ld 53 1 false 52,.len 54 53,.call (some 55) 29 [54,(kI 1),(kI 5)],.mv 56 55,.g 56 true (.fa 57 11 3),.g 56 true (.ld 58 1 false 57),.g 56 true (.len 59 58),.g 56 true (.fa 60 12 3),.g 56 true (.ld 61 1 false 60),.g 56 true (.len 62 61),.g 56 true (.bin 63 .add 59 62),.g 56 true (.fa 64 13 3),.g 56 true (.ld 65 1 false 64),.g 56 true (.len 66 65),.g 56 true (.bin 67 .add 63 66),.g 56 true (.bin 68 .eql 67 (kI 0)),.pick 69 56 68 (kB false),.asg 4 69]) .ret)
def cDj:AC:=(.seq (.ops [.box 2 37 0,.box 3 32 1,.asg 4 (kB false)]) (.seq (.ops [.fa 8 0 2,.ld 9 1 false 8,.fa 10 9 3,.ld 11 1 false 10,.ia 12 2 9 11,.ld 13 2 true 12,.call (some 14) 33 [13],.asg 5 14]) (.seq (.seq (.ops [.asg 6 (kI 0)]) (.block 0 aIc)) bEy)))
theorem bQ5:aY Tryz.prog 32=some (cDj,[.mv 0 4],70):=by kernel_rfl
def bB8 (r:Bool):Exit→St→Prop:=aV [.mv 0 4] fun x _=>x=(fun y=>(vB y)) r
def bZ1 (r:Bool):Exit→St→Prop:=(bD (wkK (avc Tryz.prog bEy (bB8 r))) (bB8 r))
def aT1 (r:Bool):Exit→St→Prop:=(bG 0 (bZ1 r))
def bHw (r:Bool):Exit→St→Prop:=(bD (avc Tryz.prog aIc (aT1 r)) (aT1 r))
def bV0 (r:Bool):Exit→St→Prop:=(bD (wkK (avc Tryz.prog bI9 (bHw r))) (bHw r))
def bLn (r:Bool):Exit→St→Prop:=(bG 1 (bV0 r))
def bRj (r:Bool):Exit→St→Prop:=(bG 2 (bLn r))
def cBe (y2:List Int) (p0:aP) (p1:bC) (x6:Int):St:=⟨[(2,(.ptr 2 0)),(3,(.ptr 3 0)),(5,(.osl 5 3 1 (y2.map cI))),(6,(vI x6))],[(2,dD p0),(3,qQ p1)]⟩
abbrev aN8:=fun y2 p0 p1 x6 r=>avc Tryz.prog aIc (aT1 r) (cBe y2 p0 p1 x6)
def bR2 (y2:List Int) (x6:Int) (p0:aP) (p1:bC) (x7:Int):St:=⟨[(2,(.ptr 2 0)),(3,(.ptr 3 0)),(5,(.osl 5 3 1 (y2.map cI))),(6,(vI x6)),(7,(vI x7))],[(2,dD p0),(3,qQ p1)]⟩
abbrev aGm:=fun y2 x6 p0 p1 x7 r=>avc Tryz.prog aS8 (bRj r) (bR2 y2 x6 p0 p1 x7)
def bZz:AC:=(.seq (.ops [.box 4 37 0,.box 6 74 2,.asg 8 (kB false)]) (.seq (.ops [.ld 14 1 true 4,.mv 15 1,.ld 16 10 true 6,.call (some 17) 77 [14,15,16],.mv 13 17,.ext 18 13 0,.ext 19 13 1,.asg 9 18,.asg 10 19]) (.seq (.ops [.mv 21 9,.mv 22 3,.call (some 23) 116 [21,22],.mv 20 23,.ext 24 20 0,.ext 25 20 1,.asg 11 24,.asg 12 25]) (.seq (.ops [.mv 26 10,.mv 27 26,.g 27 true (.mv 28 12),.pick 29 27 28 (kB false),.asg 8 29]) .ret))))
theorem bXm:aY Tryz.prog 76=some (bZz,[.mv 0 8],30):=by kernel_rfl
def cQ2 (r:Bool):Exit→St→Prop:=aV [.mv 0 8] fun x _=>x=(fun y=>(vB y)) r
def aTv:AC:=(.loop (.seq (.seq (.ops [.mv 8 5,.mv 9 3,.len 10 9,.bin 11 .lss 8 10]) (.cond 11 .skip (.exit 0))) (.seq (.block 1 (.seq (.ops [.mv 14 4,.mv 15 3,.mv 16 5,.ia 17 10 15 16,.ld 18 10 true 17,.call (some 19) 74 [18],.bin 20 .add 14 19,.asg 4 20]) (.seq (.ops [.mv 21 3,.mv 22 5,.ia 23 10 21 22,.ld 24 10 true 23,.call (some 25) 75 [24],.bin 26 .gtr 25 (kI 24)]) (.cond 26 (.seq (.ops [.asg 2 (kB false)]) .ret) .skip)))) (.ops [.mv 12 5,.bin 13 .add 12 (kI 1),.asg 5 13]))))
def bA6:AC:=(.seq (.ops [.mv 27 4,.bin 28 .leq 27 (kI 200),.asg 2 28]) .ret)
def bO2:AC:=(.seq (.ops [.box 1 32 0,.asg 2 (kB false)]) (.seq (.ops [.ld 6 14 true 1,.call (some 7) 73 [6],.asg 3 7]) (.seq (.ops [.asg 4 (kI 0)]) (.seq (.seq (.ops [.asg 5 (kI 0)]) (.block 0 aTv)) bA6))))
theorem bMw:aY Tryz.prog 31=some (bO2,[.mv 0 2],29):=by kernel_rfl
def bAh (r:Bool):Exit→St→Prop:=aV [.mv 0 2] fun x _=>x=(fun y=>(vB y)) r
def bNw (r:Bool):Exit→St→Prop:=(bD (wkK (avc Tryz.prog bA6 (bAh r))) (bAh r))
def bYc (r:Bool):Exit→St→Prop:=(bG 0 (bNw r))
def bPu (y1:List aA) (x4:Int) (x5:Int):St:=⟨[(3,(.osl 3 74 10 (y1.map aJ))),(4,(vI x4)),(5,(vI x5))],[]⟩
abbrev aFx:=fun y1 x4 x5 r=>avc Tryz.prog aTv (bYc r) (bPu y1 x4 x5)
def aS9:AC:=(.loop (.seq (.seq (.ops [.mv 6 4,.fa 7 10 1,.ld 8 1 false 7,.len 9 8,.bin 10 .lss 6 9]) (.cond 10 .skip (.exit 0))) (.seq (.block 1 (.ops [.mv 13 3,.fa 14 10 1,.ld 15 1 false 14,.mv 16 4,.ia 17 1 15 16,.ld 18 1 false 17,.app 19 74 10 120 13 18,.asg 3 19])) (.ops [.mv 11 4,.bin 12 .add 11 (kI 1),.asg 4 12]))))
def bFu:AC:=(.seq (.ops [.mv 20 3,.fa 21 12 1,.ld 22 1 false 21,.app 23 74 10 120 20 22,.asg 3 23]) (.seq (.ops [.mv 24 3,.fa 25 13 1,.ld 26 1 false 25,.app 27 74 10 120 24 26,.asg 2 27]) .ret))
def cAi:AC:=(.seq (.ops [.box 1 32 0,.asg 2 (.c (.nil 10))]) (.seq (.ops [.bsl 5 74 10 [],.asg 3 5]) (.seq (.seq (.ops [.asg 4 (kI 0)]) (.block 0 aS9)) bFu)))
theorem bP4:aY Tryz.prog 73=some (cAi,[.mv 0 2],28):=by kernel_rfl
def aZj (r:List aA):Exit→St→Prop:=aV [.mv 0 2] fun x b=>x=(fun (y:List aA)=>(.osl 2000000 74 10 (y.map aJ))) r∧bR ((fun (y:List aA)=>[]) r) b
def bJ7 (r:List aA):Exit→St→Prop:=(bD (wkK (avc Tryz.prog bFu (aZj r))) (aZj r))
def bTu (r:List aA):Exit→St→Prop:=(bG 0 (bJ7 r))
def bTh (p0:bC) (x3:List aA) (x4:Int):St:=⟨[(1,(.ptr 1 0)),(3,(.osl 3 74 10 (x3.map aJ))),(4,(vI x4))],[(1,qQ p0)]⟩
abbrev aIw:=fun p0 x3 x4 r=>avc Tryz.prog aS9 (bTu r) (bTh p0 x3 x4)
def aPk:AC:=(.loop (.seq (.seq (.ops [.mv 69 5,.fa 70 1 2,.ld 71 1 false 70,.len 72 71,.bin 73 .lss 69 72]) (.cond 73 .skip (.exit 0))) (.seq (.block 1 (.seq (.dops [[],[0],[],[1,2],[3],[],[5],[],[6,7],[8],[4,9],[10]] [.fa 76 1 2,.ld 77 1 false 76,.mv 78 5,.ia 79 1 77 78,.ld 80 1 false 79,.fa 81 1 3,.ld 82 1 false 81,.mv 83 5,.ia 84 1 82 83,.ld 85 1 false 84,.call (some 86) 41 [80,85],.not 87 86]) (.cond 87 (.seq (.ops [.asg 4 (kB false)]) .ret) .skip))) (.ops [.mv 74 5,.bin 75 .add 74 (kI 1),.asg 5 75]))))
def aTu:AC:=(.loop (.seq (.seq (.ops [.mv 88 6,.fa 89 3 2,.ld 90 1 false 89,.len 91 90,.bin 92 .lss 88 91]) (.cond 92 .skip (.exit 2))) (.seq (.block 3 (.seq (.dops [[],[0],[],[1,2],[3],[4],[],[6],[],[7,8],[9],[10],[5,11],[12],[13],[14,13],[13],[15,16,13],[17,13],[18,13],[13],[20,13],[13],[21,22,13],[23,13],[24,13],[19,25,13,13],[26,13],[13,27]] [.fa 95 3 2,.ld 96 1 false 95,.mv 97 6,.ia 98 11 96 97,.fa 99 10 98,.ld 100 1 false 99,.fa 101 3 3,.ld 102 1 false 101,.mv 103 6,.ia 104 11 102 103,.fa 105 10 104,.ld 106 1 false 105,.eqb 107 true 100 106,.mv 108 107,.g 108 false (.fa 109 3 2),.g 108 false (.ld 110 1 false 109),.g 108 false (.mv 111 6),.g 108 false (.ia 112 11 110 111),.g 108 false (.fa 113 0 112),.g 108 false (.ld 114 10 true 113),.g 108 false (.fa 115 3 3),.g 108 false (.ld 116 1 false 115),.g 108 false (.mv 117 6),.g 108 false (.ia 118 11 116 117),.g 108 false (.fa 119 0 118),.g 108 false (.ld 120 10 true 119),.g 108 false (.call (some 121) 72 [114,120]),.g 108 false (.not 122 121),.pick 123 108 (kB true) 122]) (.cond 123 (.seq (.ops [.asg 4 (kB false)]) .ret) .skip))) (.ops [.mv 93 6,.bin 94 .add 93 (kI 1),.asg 6 94]))))
def aX9:AC:=(.seq (.ops [.asg 4 (kB true)]) .ret)
def bB5:AC:=(.seq (.seq (.ops [.asg 6 (kI 0)]) (.block 2 aTu)) aX9)
def cG0:AC:=(.seq (.ops [.box 2 30 0,.box 3 30 1,.asg 4 (kB false)]) (.seq (.seq (.ops [.fa 7 6 2,.ld 8 1 false 7,.fa 9 6 3,.ld 10 1 false 9,.eqb 11 true 8 10,.mv 12 11,.g 12 false (.fa 13 7 2),.g 12 false (.ld 14 1 false 13),.g 12 false (.fa 15 7 3),.g 12 false (.ld 16 1 false 15),.g 12 false (.bin 17 .neq 14 16),.pick 18 12 (kB true) 17,.mv 19 18,.g 19 false (.fa 20 0 2),.g 19 false (.ld 21 1 false 20),.g 19 false (.fa 22 0 3),.g 19 false (.ld 23 1 false 22),.g 19 false (.call (some 24) 40 [21,23]),.g 19 false (.not 25 24),.pick 26 19 (kB true) 25,.mv 27 26,.g 27 false (.fa 28 1 2),.g 27 false (.ld 29 1 false 28),.g 27 false (.len 30 29),.g 27 false (.fa 31 1 3),.g 27 false (.ld 32 1 false 31),.g 27 false (.len 33 32),.g 27 false (.bin 34 .neq 30 33),.pick 35 27 (kB true) 34,.mv 36 35,.g 36 false (.fa 37 2 2),.g 36 false (.ld 38 1 false 37),.g 36 false (.fa 39 2 3),.g 36 false (.ld 40 1 false 39),.g 36 false (.call (some 41) 41 [38,40]),.g 36 false (.not 42 41),.pick 43 36 (kB true) 42,.mv 44 43,.g 44 false (.fa 45 3 2),.g 44 false (.ld 46 1 false 45),.g 44 false (.len 47 46),.g 44 false (.fa 48 3 3),.g 44 false (.ld 49 1 false 48),.g 44 false (.len 50 49),.g 44 false (.bin 51 .neq 47 50),.pick 52 44 (kB true) 51,.mv 53 52,.g 53 false (.fa 54 4 2),.g 53 false (.ld 55 1 false 54),.g 53 false (.fa 56 4 3),.g 53 false (.ld 57 1 false 56),.g 53 false (.call (some 58) 41 [55,57]),.g 53 false (.not 59 58),.pick 60 53 (kB true) 59,.mv 61 60,.g 61 false (.fa 62 5 2),.g 61 false (.ld 63 1 false 62),.g 61 false (.fa 64 5 3),.g 61 false (.ld 65 1 false 64),.g 61 false (.call (some 66) 71 [63,65]),.g 61 false (.not 67 66),.pick 68 61 (kB true) 67]) (.cond 68 (.seq (.ops [.asg 4 (kB false)]) .ret) .skip)) (.seq (.seq (.ops [.asg 5 (kI 0)]) (.block 0 aPk)) bB5)))
theorem cCp:aY Tryz.prog 30=some (cG0,[.mv 0 4],124):=by kernel_rfl
def aH3 (r:Bool):Exit→St→Prop:=aV [.mv 0 4] fun x _=>x=(fun y=>(vB y)) r
def cBf (r:Bool):Exit→St→Prop:=(bD (wkK (avc Tryz.prog bB5 (aH3 r))) (aH3 r))
def cKy (r:Bool):Exit→St→Prop:=(bG 0 (cBf r))
def bPo (r:Bool):Exit→St→Prop:=(bD (wkK (avc Tryz.prog aX9 (aH3 r))) (aH3 r))
def bJm (r:Bool):Exit→St→Prop:=(bG 2 (bPo r))
def bK0 (p0:aL) (p1:aL) (x5:Int):St:=⟨[(2,(.ptr 2 0)),(3,(.ptr 3 0)),(5,(vI x5))],[(2,kL p0),(3,kL p1)]⟩
abbrev aLs:=fun p0 p1 x5 r=>avc Tryz.prog aPk (cKy r) (bK0 p0 p1 x5)
def bJz (p0:aL) (p1:aL) (x6:Int):St:=⟨[(2,(.ptr 2 0)),(3,(.ptr 3 0)),(6,(vI x6))],[(2,kL p0),(3,kL p1)]⟩
abbrev aN0:=fun p0 p1 x6 r=>avc Tryz.prog aTu (bJm r) (bJz p0 p1 x6)
def aT6:AC:=(.loop (.seq (.seq (.ops [.mv 11 5,.mv 12 0,.len 13 12,.bin 14 .lss 11 13]) (.cond 14 .skip (.exit 0))) (.seq (.block 1 (.seq (.dops [[],[],[0,1],[2],[],[],[4,5],[6],[3,7]] [.mv 17 0,.mv 18 5,.ia 19 1 17 18,.ld 20 1 false 19,.mv 21 1,.mv 22 5,.ia 23 1 21 22,.ld 24 1 false 23,.bin 25 .neq 20 24]) (.cond 25 (.seq (.ops [.asg 4 (kB false)]) .ret) .skip))) (.ops [.mv 15 5,.bin 16 .add 15 (kI 1),.asg 5 16]))))
def bHp:AC:=(.seq (.ops [.asg 4 (kB true)]) .ret)
def bUa:AC:=(.seq (.ops [.asg 4 (kB false)]) (.seq (.seq (.ops [.mv 6 0,.len 7 6,.mv 8 1,.len 9 8,.bin 10 .neq 7 9]) (.cond 10 (.seq (.ops [.asg 4 (kB false)]) .ret) .skip)) (.seq (.seq (.ops [.asg 5 (kI 0)]) (.block 0 aT6)) bHp)))
theorem cLb:aY Tryz.prog 40=some (bUa,[.mv 0 4],26):=by kernel_rfl
def bDf (r:Bool):Exit→St→Prop:=aV [.mv 0 4] fun x _=>x=(fun y=>(vB y)) r
def bM5 (r:Bool):Exit→St→Prop:=(bD (wkK (avc Tryz.prog bHp (bDf r))) (bDf r))
def bM3 (r:Bool):Exit→St→Prop:=(bG 0 (bM5 r))
def bZ6 (p0:List Int) (p1:List Int) (x5:Int):St:=⟨[(0,(eP p0)),(1,(eP p1)),(5,(vI x5))],[]⟩
abbrev aHo:=fun p0 p1 x5 r=>avc Tryz.prog aT6 (bM3 r) (bZ6 p0 p1 x5)
def aUy:AC:=(.loop (.seq (.seq (.ops [.mv 63 5,.fa 64 9 2,.ld 65 1 false 64,.len 66 65,.bin 67 .lss 63 66]) (.cond 67 .skip (.exit 0))) (.seq (.block 1 (.seq (.dops [[],[0],[],[1,2],[3],[],[5],[],[6,7],[8],[4,9],[10]] [.fa 70 9 2,.ld 71 1 false 70,.mv 72 5,.ia 73 8 71 72,.ld 74 8 true 73,.fa 75 9 3,.ld 76 1 false 75,.mv 77 5,.ia 78 8 76 77,.ld 79 8 true 78,.call (some 80) 30 [74,79],.not 81 80]) (.cond 81 (.seq (.ops [.asg 4 (kB false)]) .ret) .skip))) (.ops [.mv 68 5,.bin 69 .add 68 (kI 1),.asg 5 69]))))
def bCm:AC:=(.seq (.ops [.asg 4 (kB true)]) .ret)
def cHe:AC:=(.seq (.ops [.box 2 74 0,.box 3 74 1,.asg 4 (kB false)]) (.seq (.seq (.ops [.fa 6 0 2,.ld 7 1 false 6,.fa 8 0 3,.ld 9 1 false 8,.bin 10 .neq 7 9,.mv 11 10,.g 11 false (.fa 12 1 2),.g 11 false (.ld 13 1 false 12),.g 11 false (.fa 14 1 3),.g 11 false (.ld 15 1 false 14),.g 11 false (.bin 16 .neq 13 15),.pick 17 11 (kB true) 16,.mv 18 17,.g 18 false (.fa 19 2 2),.g 18 false (.ld 20 1 false 19),.g 18 false (.fa 21 2 3),.g 18 false (.ld 22 1 false 21),.g 18 false (.eqb 23 true 20 22),.pick 24 18 (kB true) 23,.mv 25 24,.g 25 false (.fa 26 3 2),.g 25 false (.ld 27 3 true 26),.g 25 false (.fa 28 3 3),.g 25 false (.ld 29 3 true 28),.g 25 false (.eqv 30 true [0,0,1] 27 29),.pick 31 25 (kB true) 30,.mv 32 31,.g 32 false (.fa 33 6 2),.g 32 false (.ld 34 1 false 33),.g 32 false (.fa 35 6 3),.g 32 false (.ld 36 1 false 35),.g 32 false (.bin 37 .neq 34 36),.pick 38 32 (kB true) 37,.mv 39 38,.g 39 false (.fa 40 7 2),.g 39 false (.ld 41 1 false 40),.g 39 false (.fa 42 7 3),.g 39 false (.ld 43 1 false 42),.g 39 false (.bin 44 .neq 41 43),.pick 45 39 (kB true) 44,.mv 46 45,.g 46 false (.fa 47 9 2),.g 46 false (.ld 48 1 false 47),.g 46 false (.len 49 48),.g 46 false (.fa 50 9 3),.g 46 false (.ld 51 1 false 50),.g 46 false (.len 52 51),.g 46 false (.bin 53 .neq 49 52),.pick 54 46 (kB true) 53,.mv 55 54,.g 55 false (.fa 56 8 2),.g 55 false (.ld 57 1 false 56),.g 55 false (.fa 58 8 3),.g 55 false (.ld 59 1 false 58),.g 55 false (.call (some 60) 41 [57,59]),.g 55 false (.not 61 60),.pick 62 55 (kB true) 61]) (.cond 62 (.seq (.ops [.asg 4 (kB false)]) .ret) .skip)) (.seq (.seq (.ops [.asg 5 (kI 0)]) (.block 0 aUy)) bCm)))
theorem bX3:aY Tryz.prog 72=some (cHe,[.mv 0 4],82):=by kernel_rfl
def bAo (r:Bool):Exit→St→Prop:=aV [.mv 0 4] fun x _=>x=(fun y=>(vB y)) r
def cLu (r:Bool):Exit→St→Prop:=(bD (wkK (avc Tryz.prog bCm (bAo r))) (bAo r))
def cM1 (r:Bool):Exit→St→Prop:=(bG 0 (cLu r))
def bRe (p0:aA) (p1:aA) (x5:Int):St:=⟨[(2,(.ptr 2 0)),(3,(.ptr 3 0)),(5,(vI x5))],[(2,qR p0),(3,qR p1)]⟩
abbrev aGd:=fun p0 p1 x5 r=>avc Tryz.prog aUy (cM1 r) (bRe p0 p1 x5)
def aQi:AC:=(.loop (.seq (.seq (.ops [.mv 11 5,.mv 12 0,.len 13 12,.bin 14 .lss 11 13]) (.cond 14 .skip (.exit 0))) (.seq (.block 1 (.seq (.dops [[],[],[0,1],[2],[],[],[4,5],[6],[3,7],[8]] [.mv 17 0,.mv 18 5,.ia 19 10 17 18,.ld 20 10 true 19,.mv 21 1,.mv 22 5,.ia 23 10 21 22,.ld 24 10 true 23,.call (some 25) 72 [20,24],.not 26 25]) (.cond 26 (.seq (.ops [.asg 4 (kB false)]) .ret) .skip))) (.ops [.mv 15 5,.bin 16 .add 15 (kI 1),.asg 5 16]))))
def aZd:AC:=(.seq (.ops [.asg 4 (kB true)]) .ret)
def cBl:AC:=(.seq (.ops [.asg 4 (kB false)]) (.seq (.seq (.ops [.mv 6 0,.len 7 6,.mv 8 1,.len 9 8,.bin 10 .neq 7 9]) (.cond 10 (.seq (.ops [.asg 4 (kB false)]) .ret) .skip)) (.seq (.seq (.ops [.asg 5 (kI 0)]) (.block 0 aQi)) aZd)))
theorem bL3:aY Tryz.prog 41=some (cBl,[.mv 0 4],27):=by kernel_rfl
def aZf (r:Bool):Exit→St→Prop:=aV [.mv 0 4] fun x _=>x=(fun y=>(vB y)) r
def cE0 (r:Bool):Exit→St→Prop:=(bD (wkK (avc Tryz.prog aZd (aZf r))) (aZf r))
def cBh (r:Bool):Exit→St→Prop:=(bG 0 (cE0 r))
def bOb (p0:List aA) (p1:List aA) (x5:Int):St:=⟨[(0,(dX p0)),(1,(dX p1)),(5,(vI x5))],[]⟩
abbrev aJ9:=fun p0 p1 x5 r=>avc Tryz.prog aQi (cBh r) (bOb p0 p1 x5)
def aUq:AC:=(.loop (.seq (.seq (.ops [.mv 11 5,.mv 12 0,.len 13 12,.bin 14 .lss 11 13]) (.cond 14 .skip (.exit 0))) (.seq (.block 1 (.seq (.dops [[],[],[0,1],[2],[],[],[4,5],[6],[3,7]] [.mv 17 0,.mv 18 5,.ia 19 1 17 18,.ld 20 1 false 19,.mv 21 1,.mv 22 5,.ia 23 1 21 22,.ld 24 1 false 23,.bin 25 .neq 20 24]) (.cond 25 (.seq (.ops [.asg 4 (kB false)]) .ret) .skip))) (.ops [.mv 15 5,.bin 16 .add 15 (kI 1),.asg 5 16]))))
def bDm:AC:=(.seq (.ops [.asg 4 (kB true)]) .ret)
def cCx:AC:=(.seq (.ops [.asg 4 (kB false)]) (.seq (.seq (.ops [.mv 6 0,.len 7 6,.mv 8 1,.len 9 8,.bin 10 .neq 7 9]) (.cond 10 (.seq (.ops [.asg 4 (kB false)]) .ret) .skip)) (.seq (.seq (.ops [.asg 5 (kI 0)]) (.block 0 aUq)) bDm)))
theorem bKl:aY Tryz.prog 71=some (cCx,[.mv 0 4],26):=by kernel_rfl
def aYa (r:Bool):Exit→St→Prop:=aV [.mv 0 4] fun x _=>x=(fun y=>(vB y)) r
def cKt (r:Bool):Exit→St→Prop:=(bD (wkK (avc Tryz.prog bDm (aYa r))) (aYa r))
def bVe (r:Bool):Exit→St→Prop:=(bG 0 (cKt r))
def cKu (p0:List (List UInt8)) (p1:List (List UInt8)) (x5:Int):St:=⟨[(0,(qP p0)),(1,(qP p1)),(5,(vI x5))],[]⟩
abbrev aI5:=fun p0 p1 x5 r=>avc Tryz.prog aUq (bVe r) (cKu p0 p1 x5)
def aU4:AC:=(.loop (.seq (.seq (.ops [.mv 23 8,.fa 24 11 4,.ld 25 1 false 24,.len 26 25,.bin 27 .lss 23 26]) (.cond 27 .skip (.exit 0))) (.seq (.block 1 (.seq (.dops [[],[0],[],[1,2],[3],[],[5],[6],[4,7],[8],[9,8],[10],[11,10],[10],[12,13,10],[10],[15,10],[10],[16,17,10],[18,10],[14,19,10,10],[10,20],[21,20],[22],[22],[22],[25,22],[22],[26,27,22],[28,22],[22],[22],[31,22],[22],[32,33,22],[34,22],[30,35,22],[36,22],[23,24,29,37,22,22],[38,22],[22,39]] [.fa 30 11 4,.ld 31 1 false 30,.mv 32 8,.ia 33 1 31 32,.ld 34 1 false 33,.mv 35 7,.len 36 35,.bin 37 .sub 36 (kI 1),.call (some 38) 29 [34,(kI 0),37],.not 39 38,.mv 40 39,.g 40 false (.fa 41 11 4),.g 40 false (.ld 42 1 false 41),.g 40 false (.mv 43 8),.g 40 false (.slc 44 1 42 none (some 43) none),.g 40 false (.fa 45 11 4),.g 40 false (.ld 46 1 false 45),.g 40 false (.mv 47 8),.g 40 false (.ia 48 1 46 47),.g 40 false (.ld 49 1 false 48),.g 40 false (.call (some 50) 79 [44,49]),.pick 51 40 (kB true) 50,.mv 52 51,.g 52 false (.ld 53 1 true 3),.g 52 false (.mv 54 2),.g 52 false (.fa 55 12 4),.g 52 false (.ld 56 1 false 55),.g 52 false (.mv 57 8),.g 52 false (.ia 58 10 56 57),.g 52 false (.ld 59 10 true 58),.g 52 false (.mv 60 7),.g 52 false (.fa 61 11 4),.g 52 false (.ld 62 1 false 61),.g 52 false (.mv 63 8),.g 52 false (.ia 64 1 62 63),.g 52 false (.ld 65 1 false 64),.g 52 false (.ia 66 1 60 65),.g 52 false (.ld 67 1 false 66),.g 52 false (.call (some 68) 76 [53,54,59,67]),.g 52 false (.not 69 68),.pick 70 52 (kB true) 69]) (.cond 70 (.seq (.ops [.asg 6 (kB false)]) .ret) .skip))) (.ops [.mv 28 8,.bin 29 .add 28 (kI 1),.asg 8 29]))))
def aXt:AC:=(.seq (.ops [.asg 6 (kB true)]) .ret)
def bT3:AC:=(.seq (.ops [.box 3 37 0,.box 4 32 1,.asg 6 (kB false)]) (.seq (.ops [.fa 9 0 3,.ld 10 1 false 9,.fa 11 9 4,.ld 12 1 false 11,.ia 13 2 10 12,.ld 14 2 true 13,.call (some 15) 33 [14],.asg 7 15]) (.seq (.seq (.ops [.fa 16 11 4,.ld 17 1 false 16,.len 18 17,.fa 19 12 4,.ld 20 1 false 19,.len 21 20,.bin 22 .neq 18 21]) (.cond 22 (.seq (.ops [.asg 6 (kB false)]) .ret) .skip)) (.seq (.seq (.ops [.asg 8 (kI 0)]) (.block 0 aU4)) aXt))))
theorem bLx:aY Tryz.prog 35=some (bT3,[.mv 0 6],71):=by kernel_rfl
def bIk (r:Bool):Exit→St→Prop:=aV [.mv 0 6] fun x _=>x=(fun y=>(vB y)) r
def cB5 (r:Bool):Exit→St→Prop:=(bD (wkK (avc Tryz.prog aXt (bIk r))) (bIk r))
def bWs (r:Bool):Exit→St→Prop:=(bG 0 (cB5 r))
def cLi (p2:List (List Int)) (y2:List Int) (p0:aP) (p1:bC) (x8:Int):St:=⟨[(2,(.d (.sl 1 (p2.map (cSl 1 cI))))),(3,(.ptr 3 0)),(4,(.ptr 4 0)),(7,(.osl 7 3 1 (y2.map cI))),(8,(vI x8))],[(3,dD p0),(4,qQ p1)]⟩
abbrev aG8:=fun p2 y2 p0 p1 x8 r=>avc Tryz.prog aU4 (bWs r) (cLi p2 y2 p0 p1 x8)
def aWh:AC:=(.loop (.seq (.seq (.ops [.mv 6 5,.mv 7 0,.len 8 7,.bin 9 .lss 6 8]) (.cond 9 .skip (.exit 0))) (.seq (.block 1 (.seq (.ops [.mv 12 0,.mv 13 5,.ia 14 1 12 13,.ld 15 1 false 14,.mv 16 1,.bin 17 .eql 15 16]) (.cond 17 (.seq (.ops [.asg 4 (kB true)]) .ret) .skip))) (.ops [.mv 10 5,.bin 11 .add 10 (kI 1),.asg 5 11]))))
def bCk:AC:=(.seq (.ops [.asg 4 (kB false)]) .ret)
def bJx:AC:=(.seq (.ops [.asg 4 (kB false)]) (.seq (.seq (.ops [.asg 5 (kI 0)]) (.block 0 aWh)) bCk))
theorem bUb:aY Tryz.prog 79=some (bJx,[.mv 0 4],18):=by kernel_rfl
def bBp (r:Bool):Exit→St→Prop:=aV [.mv 0 4] fun x _=>x=(fun y=>(vB y)) r
def bMd (r:Bool):Exit→St→Prop:=(bD (wkK (avc Tryz.prog bCk (bBp r))) (bBp r))
def bM6 (r:Bool):Exit→St→Prop:=(bG 0 (bMd r))
def cE5 (p0:List Int) (p1:Int) (x5:Int):St:=⟨[(0,(eP p0)),(1,(vI p1)),(5,(vI x5))],[]⟩
abbrev aLv:=fun p0 p1 x5 r=>avc Tryz.prog aWh (bM6 r) (cE5 p0 p1 x5)
def aR7:AC:=(.seq (.dops [[],[],[0,0],[1,2,0,1,2]] [.ld 40 14 true 5,.ld 41 14 true 7,.st 14 2 40,.st 14 3 41]) .ret)
def bPg:AC:=(.seq (.ops [.alc 2 oJ,.alc 3 oJ]) (.seq (.ops [.mv 9 0,.call (some 10) 11 [9],.mv 8 10,.ext 11 8 0,.ext 12 8 1,.alc 4 [(.nil 2)],.alc 5 oJ,.st 1 4 11,.st 14 5 12]) (.seq (.ops [.mv 13 0,.call (some 14) 12 [13],.asg 6 14]) (.seq (.ops [.ld 15 14 true 5,.call (some 16) 13 [15],.alc 7 oJ,.st 14 7 16]) (.seq (.seq (.ops [.mv 17 6,.call (some 18) 14 [17,(kI 5)]]) (.block 0 (.seq (.ops [.bin 20 .eql 18 (kI 0),.asg 19 20]) (.cond 19 (.ops [.mv 22 6,.call (some 23) 15 [22,(kI 1)],.mv 21 23,.ext 24 21 0,.ext 25 21 1,.st 14 7 25]) (.seq (.ops [.bin 27 .eql 18 (kI 1),.asg 26 27]) (.cond 26 (.ops [.fa 28 9 7,.ld 29 1 false 28,.bin 30 .add 29 (kI 1),.fa 31 9 7,.st 1 31 30]) (.seq (.ops [.bin 33 .eql 18 (kI 2),.asg 32 33]) (.cond 32 (.ops [.fa 34 10 7,.ld 35 1 false 34,.bsl 36 74 10 [],.bsl 37 26 1 [36],.app 38 26 1 24 35 37,.fa 39 10 7,.st 1 39 38]) .skip)))))))) aR7)))))
theorem cH6:aY Tryz.prog 5=some (bPg,[.ld 0 14 true 2,.ld 0 14 true 3],42):=by kernel_rfl
def bMg (r:bC×bC):Exit→St→Prop:=aV [.ld 0 14 true 2,.ld 0 14 true 3] fun x _=>x=(fun y=>(.tup [(kT y.1),(kT y.2)])) r
def bPw (y1:aP×bC) (uX:Int) (wQ:Bool) (xR:Int) (xH:Int) (xL:List Int) (uY:List (List aA)) (yG:List aA) (wS:List bO) (wJ:List aA) (yF:List (List UInt8)) (vW:List (List aA)) (xK:List Int) (vK:List aA) (vT:List aA):St:=⟨[(2,(.ptr 2 0)),(3,(.ptr 3 0)),(5,(.ptr 5 0)),(7,(.ptr 7 0))],[(2,[(vI 0),(.nil 1),(.nil 1),(.nil 10),(.nil 11),(.nil 10),(.nil 1),(vB false),(vI 0),(vI 0),(.nil 1),(.nil 1),(.nil 10),(.nil 10)]),(3,[(vI 0),(.nil 1),(.nil 1),(.nil 10),(.nil 11),(.nil 10),(.nil 1),(vB false),(vI 0),(vI 0),(.nil 1),(.nil 1),(.nil 10),(.nil 10)]),(5,[(vI y1.2.kind),(.tre 60069000),(.tre 60069001),(.tre 60069002),(.tre 60069003),(.tre 60069004),(.tre 60069005),(vB y1.2.plan.distinct),(vI y1.2.plan.limit),(vI y1.2.table),(.tre 60069006),(.tre 60069007),(.tre 60069008),(.tre 60069009)]),(7,[(vI uX),(.tre 60069010),(.tre 60069011),(.tre 60069012),(.tre 60069013),(.tre 60069014),(.tre 60069015),(vB wQ),(vI xR),(vI xH),(.tre 60069016),(.tre 60069017),(.tre 60069018),(.tre 60069019)]),(60069010,[(.trc 1 (xL.map cI))]),(60069011,[(.trc 1 (uY.map (cSl 10 aJ)))]),(60069012,[(.trc 10 (yG.map aJ))]),(60069013,[(.trc 11 (wS.map dZ))]),(60069014,[(.trc 10 (wJ.map aJ))]),(60069015,[(.trc 1 (yF.map cStr))]),(60069016,[(.trc 1 (vW.map (cSl 10 aJ)))]),(60069017,[(.trc 1 (xK.map cI))]),(60069018,[(.trc 10 (vK.map aJ))]),(60069019,[(.trc 10 (vT.map aJ))]),(60069000,[(.trc 1 (y1.2.plan.tables.map cI))]),(60069001,[(.trc 1 (y1.2.plan.on_.map (cSl 10 aJ)))]),(60069002,[(.trc 10 (y1.2.plan.where_.map aJ))]),(60069003,[(.trc 11 (y1.2.plan.order.map dZ))]),(60069004,[(.trc 10 (y1.2.plan.items.map aJ))]),(60069005,[(.trc 1 (y1.2.plan.names.map cStr))]),(60069006,[(.trc 1 (y1.2.rows.map (cSl 10 aJ)))]),(60069007,[(.trc 1 (y1.2.cols.map cI))]),(60069008,[(.trc 10 (y1.2.sets.map aJ))]),(60069009,[(.trc 10 (y1.2.where_.map aJ))])]⟩
abbrev bFr:=fun y1 uX wQ xR xH xL uY yG wS wJ yF vW xK vK vT r=>avc Tryz.prog aR7 (bMg r) (bPw y1 uX wQ xR xH xL uY yG wS wJ yF vW xK vK vT)
def aRd:AC:=(.loop (.seq (.seq (.ops [.mv 23 4,.fa 24 10 1,.ld 25 1 false 24,.len 26 25,.bin 27 .lss 23 26]) (.cond 27 .skip (.exit 0))) (.seq (.block 1 (.dops [[],[0],[],[2],[],[3,4],[5],[6],[7],[1,8,7],[0,1,2,3,4,5,6,7,8,9],[10,9,9,0,1,2,3,4,5,6,7,8,9]] [.fa 30 10 3,.ld 31 1 false 30,.fa 32 10 1,.ld 33 1 false 32,.mv 34 4,.ia 35 1 33 34,.ld 36 1 false 35,.call (some 37) 47 [36],.bsl 38 26 1 [37],.app 39 26 1 24 31 38,.fa 40 10 3,.st 1 40 39])) (.ops [.mv 28 4,.bin 29 .add 28 (kI 1),.asg 4 29]))))
def bBv:AC:=(.seq (.ops [.ld 41 14 true 3,.st 14 2 41]) .ret)
def bTz:AC:=(.seq (.ops [.box 1 32 0,.alc 2 oJ]) (.seq (.dops [[],[0],[],[2],[3],[],[5],[],[],[8],[7,9,4],[],[11],[12,10],[],[14],[15,13],[1,4,6,10,13,16],[],[18,17,16,0,1,2,3,4,5,6,7,8,9,10,11,12,13,14,15,16,17,18]] [.fa 5 0 1,.ld 6 1 false 5,.fa 7 1 1,.ld 8 8 true 7,.call (some 9) 46 [8],.fa 10 9 1,.ld 11 1 false 10,.bsl 12 3 1 [],.fa 13 11 1,.ld 14 1 false 13,.app 15 3 1 8 12 14,.fa 16 12 1,.ld 17 1 false 16,.call (some 18) 47 [17],.fa 19 13 1,.ld 20 1 false 19,.call (some 21) 47 [20],.bld 22 [aQ,(.nil 1),(.nil 1),(.nil 10),(.nil 11),(.nil 10),(.nil 1),bU,aQ,aQ,(.nil 1),(.nil 1),(.nil 10),(.nil 10)] [(0,1,6),(1,8,9),(9,1,11),(11,1,15),(12,1,18),(13,1,21)],.alc 3 oJ,.st 14 3 22]) (.seq (.seq (.ops [.asg 4 (kI 0)]) (.block 0 aRd)) bBv)))
theorem cIf:aY Tryz.prog 13=some (bTz,[.ld 0 14 true 2],42):=by kernel_rfl
def aZb (r:bC):Exit→St→Prop:=aV [.ld 0 14 true 2] fun x b=>x=(fun (y:bC)=>(.agv [(vI y.kind),(.tre 10000001),(.tre 10000002),(.tre 10000003),(.tre 10000004),(.tre 10000005),(.tre 10000006),(vB y.plan.distinct),(vI y.plan.limit),(vI y.table),(.tre 10000010),(.tre 10000011),(.tre 10000012),(.tre 10000013)])) r∧bR ((fun (y:bC)=>[(10000001,[(.trc 1 (y.plan.tables.map cI))]),(10000002,[(.trc 1 (y.plan.on_.map (cSl 10 aJ)))]),(10000003,[(.trc 10 (y.plan.where_.map aJ))]),(10000004,[(.trc 11 (y.plan.order.map dZ))]),(10000005,[(.trc 10 (y.plan.items.map aJ))]),(10000006,[(.trc 1 (y.plan.names.map cStr))]),(10000010,[(.trc 1 (y.rows.map (cSl 10 aJ)))]),(10000011,[(.trc 1 (y.cols.map cI))]),(10000012,[(.trc 10 (y.sets.map aJ))]),(10000013,[(.trc 10 (y.where_.map aJ))])]) r) b
def bRd (r:bC):Exit→St→Prop:=(bD (wkK (avc Tryz.prog bBv (aZb r))) (aZb r))
def bXt (r:bC):Exit→St→Prop:=(bG 0 (bRd r))
def cC3 (p0:bC) (y1:aL) (y4:List aA) (y3:List aA) (y2:List Int) (x4:Int) (mX:List (List aA)):St:=⟨[(1,(.ptr 1 0)),(2,(.ptr 2 0)),(3,(.ptr 3 0)),(4,(vI x4))],[(1,qQ p0),(2,[(vI 0),(.nil 1),(.nil 1),(.nil 10),(.nil 11),(.nil 10),(.nil 1),(vB false),(vI 0),(vI 0),(.nil 1),(.nil 1),(.nil 10),(.nil 10)]),(3,[(vI p0.kind),(.tre 60031000),(.tre 60031001),(.tre 60031002),(.tre 60031003),(.tre 60031004),(.tre 60031005),(vB y1.distinct),(vI y1.limit),(vI p0.table),(.tre 60031006),(.tre 60031007),(.tre 60031008),(.tre 60031009)]),(60031006,[(.trc 1 (mX.map (cSl 10 aJ)))]),(60031009,[(.trc 10 (y4.map aJ))]),(60031008,[(.trc 10 (y3.map aJ))]),(60031007,[(.trc 1 (y2.map cI))]),(60031000,[(.trc 1 (y1.tables.map cI))]),(60031001,[(.trc 1 (y1.on_.map (cSl 10 aJ)))]),(60031002,[(.trc 10 (y1.where_.map aJ))]),(60031003,[(.trc 11 (y1.order.map dZ))]),(60031004,[(.trc 10 (y1.items.map aJ))]),(60031005,[(.trc 1 (y1.names.map cStr))])]⟩
abbrev aMr:=fun p0 y1 y4 y3 y2 x4 mX r=>avc Tryz.prog aRd (bXt r) (cC3 p0 y1 y4 y3 y2 x4 mX)
def aSa:AC:=(.loop (.seq (.seq (.ops [.mv 6 4,.mv 7 0,.len 8 7,.bin 9 .lss 6 8]) (.cond 9 .skip (.exit 0))) (.seq (.block 1 (.ops [.mv 12 3,.mv 13 0,.mv 14 4,.ia 15 10 13 14,.ld 16 10 true 15,.call (some 17) 92 [16],.bsl 18 74 10 [17],.app 19 74 10 120 12 18,.asg 3 19])) (.ops [.mv 10 4,.bin 11 .add 10 (kI 1),.asg 4 11]))))
def bG4:AC:=(.seq (.ops [.mv 20 3,.asg 2 20]) .ret)
def cCu:AC:=(.seq (.ops [.asg 2 (.c (.nil 10))]) (.seq (.ops [.bsl 5 74 10 [],.asg 3 5]) (.seq (.seq (.ops [.asg 4 (kI 0)]) (.block 0 aSa)) bG4)))
theorem bTy:aY Tryz.prog 47=some (cCu,[.mv 0 2],21):=by kernel_rfl
def bFt (r:List aA):Exit→St→Prop:=aV [.mv 0 2] fun x b=>x=(fun (y:List aA)=>(.tre 10000000)) r∧bR ((fun (y:List aA)=>[(10000000,[(.trc 10 (y.map aJ))])]) r) b
def bZ7 (r:List aA):Exit→St→Prop:=(bD (wkK (avc Tryz.prog bG4 (bFt r))) (bFt r))
def bZ4 (r:List aA):Exit→St→Prop:=(bG 0 (bZ7 r))
def bKc (p0:List aA) (x4:Int) (gQ:List aA):St:=⟨[(0,(dX p0)),(3,(.tre 60012000)),(4,(vI x4))],[(60012000,[(.trc 10 (gQ.map aJ))])]⟩
abbrev aIe:=fun p0 x4 gQ r=>avc Tryz.prog aSa (bZ4 r) (bKc p0 x4 gQ)
def aT4:AC:=(.loop (.seq (.seq (.ops [.mv 11 4,.fa 12 9 1,.ld 13 1 false 12,.len 14 13,.bin 15 .lss 11 14]) (.cond 15 .skip (.exit 0))) (.seq (.block 1 (.dops [[],[0],[],[2],[],[3,4],[5],[6],[7],[1,8,7],[0,1,2,3,4,5,6,7,8,9],[10,9,9,0,1,2,3,4,5,6,7,8,9]] [.fa 18 9 3,.ld 19 1 false 18,.fa 20 9 1,.ld 21 1 false 20,.mv 22 4,.ia 23 8 21 22,.ld 24 8 true 23,.call (some 25) 46 [24],.bsl 26 30 8 [25],.app 27 30 8 160 19 26,.fa 28 9 3,.st 1 28 27])) (.ops [.mv 16 4,.bin 17 .add 16 (kI 1),.asg 4 17]))))
def bBl:AC:=(.seq (.ops [.ld 29 10 true 3,.st 10 2 29]) .ret)
def bN0:AC:=(.seq (.ops [.box 1 74 0,.alc 2 oO]) (.seq (.ops [.ld 5 10 true 1,.alc 3 oO,.st 10 3 5]) (.seq (.ops [.fa 6 8 1,.ld 7 1 false 6,.call (some 8) 47 [7],.fa 9 8 3,.st 1 9 8]) (.seq (.ops [.fa 10 9 3,.st 1 10 (.c (.nil 8))]) (.seq (.seq (.ops [.asg 4 (kI 0)]) (.block 0 aT4)) bBl)))))
theorem bQj:aY Tryz.prog 92=some (bN0,[.ld 0 10 true 2],30):=by kernel_rfl
def aYy (r:aA):Exit→St→Prop:=aV [.ld 0 10 true 2] fun x b=>x=(fun (y:aA)=>(.agv [(vI y.kind),(vI y.op),(vB y.not_),(vI y.value.kind),(vI y.value.num),(vS y.value.text),(vI y.up),(vI y.at_),(.tre 10000008),(.tre 10000009)])) r∧bR ((fun (y:aA)=>[(10000008,[(.trc 10 (y.kids.map aJ))]),(10000009,[(.trc 8 (y.sub.map dV))])]) r) b
def bWv (r:aA):Exit→St→Prop:=(bD (wkK (avc Tryz.prog bBl (aYy r))) (aYy r))
def cEw (r:aA):Exit→St→Prop:=(bG 0 (bWv r))
def bVm (p0:aA) (y1:List aA) (x4:Int) (nE:List aL):St:=⟨[(1,(.ptr 1 0)),(2,(.ptr 2 0)),(3,(.ptr 3 0)),(4,(vI x4))],[(1,qR p0),(2,[(vI 0),(vI 0),(vB false),(vI 0),(vI 0),(vS []),(vI 0),(vI 0),(.nil 10),(.nil 8)]),(3,[(vI p0.kind),(vI p0.op),(vB p0.not_),(vI p0.value.kind),(vI p0.value.num),(vS p0.value.text),(vI p0.up),(vI p0.at_),(.tre 60025000),(.tre 60025001)]),(60025001,[(.trc 8 (nE.map dV))]),(60025000,[(.trc 10 (y1.map aJ))])]⟩
abbrev aKr:=fun p0 y1 x4 nE r=>avc Tryz.prog aT4 (cEw r) (bVm p0 y1 x4 nE)
def aRs:AC:=(.loop (.seq (.seq (.ops [.mv 25 4,.fa 26 1 1,.ld 27 1 false 26,.len 28 27,.bin 29 .lss 25 28]) (.cond 29 .skip (.exit 0))) (.seq (.block 1 (.dops [[],[0],[],[2],[],[3,4],[5],[6],[7],[1,8,7],[0,1,2,3,4,5,6,7,8,9],[10,9,9,0,1,2,3,4,5,6,7,8,9]] [.fa 32 1 3,.ld 33 1 false 32,.fa 34 1 1,.ld 35 1 false 34,.mv 36 4,.ia 37 1 35 36,.ld 38 1 false 37,.call (some 39) 47 [38],.bsl 40 26 1 [39],.app 41 26 1 24 33 40,.fa 42 1 3,.st 1 42 41])) (.ops [.mv 30 4,.bin 31 .add 30 (kI 1),.asg 4 31]))))
def aVd:AC:=(.loop (.seq (.seq (.ops [.mv 43 5,.fa 44 3 1,.ld 45 1 false 44,.len 46 45,.bin 47 .lss 43 46]) (.cond 47 .skip (.exit 2))) (.seq (.block 3 (.dops [[],[0],[],[2],[],[3,4],[5],[6],[7],[],[9],[],[10,11],[12],[13],[8,14],[15],[1,16,8],[0,1,2,3,4,5,6,7,8,9,10,11,12,13,14,15,16,17],[18,17,17,0,1,2,3,4,5,6,7,8,9,10,11,12,13,14,15,16,17]] [.fa 50 3 3,.ld 51 1 false 50,.fa 52 3 1,.ld 53 1 false 52,.mv 54 5,.ia 55 11 53 54,.fa 56 0 55,.ld 57 10 true 56,.call (some 58) 92 [57],.fa 59 3 1,.ld 60 1 false 59,.mv 61 5,.ia 62 11 60 61,.fa 63 10 62,.ld 64 1 false 63,.bld 65 [aQ,aQ,bU,aQ,aQ,dC,aQ,aQ,(.nil 10),(.nil 8),bU] [(0,10,58),(10,1,64)],.bsl 66 104 11 [65],.app 67 104 11 128 51 66,.fa 68 3 3,.st 1 68 67])) (.ops [.mv 48 5,.bin 49 .add 48 (kI 1),.asg 5 49]))))
def bGj:AC:=(.seq (.ops [.ld 69 8 true 3,.st 8 2 69]) .ret)
def aZa:AC:=(.seq (.seq (.ops [.asg 5 (kI 0)]) (.block 2 aVd)) bGj)
def bKo:AC:=(.seq (.ops [.box 1 30 0,.alc 2 pV]) (.seq (.dops [[],[],[1],[0,2],[],[4],[5,3],[],[7],[8,6],[],[],[11],[10,12,9],[],[14],[],[16],[3,6,9,13,15,17],[],[19,18,13,0,1,2,3,4,5,6,7,8,9,10,11,12,13,14,15,16,17,18,19]] [.bsl 6 3 1 [],.fa 7 0 1,.ld 8 1 false 7,.app 9 3 1 8 6 8,.fa 10 2 1,.ld 11 1 false 10,.call (some 12) 47 [11],.fa 13 4 1,.ld 14 1 false 13,.call (some 15) 47 [14],.bsl 16 9 1 [],.fa 17 5 1,.ld 18 1 false 17,.app 19 9 1 16 16 18,.fa 20 6 1,.ld 21 1 false 20,.fa 22 7 1,.ld 23 1 false 22,.bld 24 [(.nil 1),(.nil 1),(.nil 10),(.nil 11),(.nil 10),(.nil 1),bU,aQ] [(0,1,9),(2,1,12),(4,1,15),(5,1,19),(6,1,21),(7,1,23)],.alc 3 pV,.st 8 3 24]) (.seq (.seq (.ops [.asg 4 (kI 0)]) (.block 0 aRs)) aZa)))
theorem bQl:aY Tryz.prog 46=some (bKo,[.ld 0 8 true 2],70):=by kernel_rfl
def aN7 (r:aL):Exit→St→Prop:=aV [.ld 0 8 true 2] fun x b=>x=(fun (y:aL)=>(.agv [(.tre 10000000),(.tre 10000001),(.tre 10000002),(.tre 10000003),(.tre 10000004),(.tre 10000005),(vB y.distinct),(vI y.limit)])) r∧bR ((fun (y:aL)=>[(10000000,[(.trc 1 (y.tables.map cI))]),(10000001,[(.trc 1 (y.on_.map (cSl 10 aJ)))]),(10000002,[(.trc 10 (y.where_.map aJ))]),(10000003,[(.trc 11 (y.order.map dZ))]),(10000004,[(.trc 10 (y.items.map aJ))]),(10000005,[(.trc 1 (y.names.map cStr))])]) r) b
def bPs (r:aL):Exit→St→Prop:=(bD (wkK (avc Tryz.prog aZa (aN7 r))) (aN7 r))
def bOk (r:aL):Exit→St→Prop:=(bG 0 (bPs r))
def cIb (r:aL):Exit→St→Prop:=(bD (wkK (avc Tryz.prog bGj (aN7 r))) (aN7 r))
def bX1 (r:aL):Exit→St→Prop:=(bG 2 (cIb r))
def bK5 (p0:aL) (y4:List (List UInt8)) (y3:List aA) (y2:List aA) (y1:List Int) (x4:Int) (iC:List (List aA)):St:=⟨[(1,(.ptr 1 0)),(2,(.ptr 2 0)),(3,(.ptr 3 0)),(4,(vI x4))],[(1,kL p0),(2,[(.nil 1),(.nil 1),(.nil 10),(.nil 11),(.nil 10),(.nil 1),(vB false),(vI 0)]),(3,[(.tre 60032000),(.tre 60032001),(.tre 60032002),(.nil 11),(.tre 60032003),(.tre 60032004),(vB p0.distinct),(vI p0.limit)]),(60032001,[(.trc 1 (iC.map (cSl 10 aJ)))]),(60032004,[(.trc 1 (y4.map cStr))]),(60032003,[(.trc 10 (y3.map aJ))]),(60032002,[(.trc 10 (y2.map aJ))]),(60032000,[(.trc 1 (y1.map cI))])]⟩
abbrev aGa:=fun p0 y4 y3 y2 y1 x4 iC r=>avc Tryz.prog aRs (bOk r) (bK5 p0 y4 y3 y2 y1 x4 iC)
def cGz (p0:aL) (iC:List (List aA)) (y4:List (List UInt8)) (y3:List aA) (y2:List aA) (y1:List Int) (kx5:Int×(List bO)):St:=⟨[(1,(.ptr 1 0)),(2,(.ptr 2 0)),(3,(.ptr 3 0)),(5,(vI kx5.1))],[(1,kL p0),(2,[(.nil 1),(.nil 1),(.nil 10),(.nil 11),(.nil 10),(.nil 1),(vB false),(vI 0)]),(3,[(.tre 60068000),(.tre 60068001),(.tre 60068002),(.tre 60068003),(.tre 60068004),(.tre 60068005),(vB p0.distinct),(vI p0.limit)]),(60068003,[(.trc 11 (kx5.2.map dZ))]),(60068001,[(.trc 1 (iC.map (cSl 10 aJ)))]),(60068005,[(.trc 1 (y4.map cStr))]),(60068004,[(.trc 10 (y3.map aJ))]),(60068002,[(.trc 10 (y2.map aJ))]),(60068000,[(.trc 1 (y1.map cI))])]⟩
abbrev aGu:=fun p0 iC y4 y3 y2 y1 kx5 r=>avc Tryz.prog aVd (bX1 r) (cGz p0 iC y4 y3 y2 y1 kx5)
def bKa:AC:=(.seq (.ops [.asg 4 (kI 0)]) (.seq (.seq (.ops [.mv 9 1,.bin 10 .leq 9 (kI 0)]) (.cond 10 (.seq (.ops [.asg 4 (kI 0)]) .ret) .skip)) (.seq (.seq (.ops [.mv 11 1,.bin 12 .leq 11 (kI 256)]) (.cond 12 (.seq (.ops [.mv 13 0,.call (some 14) 48 [13],.mv 15 1,.bin 16 .rem 14 15,.asg 4 16]) .ret) .skip)) (.seq (.ops [.mv 17 0,.call (some 18) 48 [17],.asg 5 18]) (.seq (.ops [.mv 19 0,.call (some 20) 48 [19],.asg 6 20]) (.seq (.ops [.mv 21 0,.call (some 22) 48 [21],.asg 7 22]) (.seq (.ops [.mv 23 0,.call (some 24) 48 [23],.asg 8 24]) (.seq (.ops [.mv 25 5,.bin 26 .mul 25 (kI 16777216),.mv 27 6,.bin 28 .mul 27 (kI 65536),.bin 29 .add 26 28,.mv 30 7,.bin 31 .mul 30 (kI 256),.bin 32 .add 29 31,.mv 33 8,.bin 34 .add 32 33,.mv 35 1,.bin 36 .rem 34 35,.asg 4 36]) .ret))))))))
theorem bYz:aY Tryz.prog 14=some (bKa,[.mv 0 4],37):=by kernel_rfl
def cO0 (r:Int×aB):Exit→St→Prop:=aV [.mv 0 4] fun x b=>x=(fun (y:Int×aB)=>(vI y.1)) r∧bR ((fun (y:Int×aB)=>[(1000000,aU y.2)]) r) b
def aP9:AC:=(.seq (.ops [.mv 57 3,.asg 2 57]) .ret)
def cLk:AC:=(.seq (.ops [.asg 2 (kI 0)]) (.seq (.ops [.mv 4 0,.mv 5 0,.nck 6 5,.fa 7 2 6,.ld 8 1 false 7,.bin 9 .mul 8 (kI 6364136223846793005),.bin 10 .add 9 (kI 1442695040888963407),.nck 11 4,.fa 12 2 11,.st 1 12 10]) (.seq (.dops [[],[0],[1],[2],[3],[],[5],[6],[7],[8],[4,9],[10],[11,0,1,2,3,4,5,6,7,8,9,10,11]] [.mv 13 0,.nck 14 13,.fa 15 2 14,.ld 16 1 false 15,.bin 17 .shr 16 (.c (.d (.i .u64 33))),.mv 18 0,.nck 19 18,.fa 20 2 19,.ld 21 1 false 20,.bin 22 .shr 21 (.c (.d (.i .u64 45))),.bin 23 .xor 17 22,.bin 24 .and 23 (kI 255),.asg 3 24]) (.seq (.seq (.dops [[],[0],[1],[2],[],[4],[5],[6],[7],[3,8]] [.mv 25 0,.nck 26 25,.fa 27 1 26,.ld 28 1 false 27,.mv 29 0,.nck 30 29,.fa 31 0 30,.ld 32 1 false 31,.len 33 32,.bin 34 .lss 28 33]) (.cond 34 (.seq (.dops [[],[],[1],[2],[3],[],[5],[6],[7],[4,8],[9],[10],[0,11],[12],[13,0,1,2,3,4,5,6,7,8,9,10,11,12,13]] [.mv 35 3,.mv 36 0,.nck 37 36,.fa 38 0 37,.ld 39 1 false 38,.mv 40 0,.nck 41 40,.fa 42 1 41,.ld 43 1 false 42,.ia 44 1 39 43,.ld 45 1 false 44,.cvi 46 .i64 45,.bin 47 .add 35 46,.bin 48 .and 47 (kI 255),.asg 3 48]) (.ops [.mv 49 0,.mv 50 0,.nck 51 50,.fa 52 1 51,.ld 53 1 false 52,.bin 54 .add 53 (kI 1),.nck 55 49,.fa 56 1 55,.st 1 56 54])) .skip)) aP9))))
theorem bTb:aY Tryz.prog 48=some (cLk,[.mv 0 2],58):=by kernel_rfl
def cJ6 (r:Int×aB):Exit→St→Prop:=aV [.mv 0 2] fun x b=>x=(fun (y:Int×aB)=>(vI y.1)) r∧bR ((fun (y:Int×aB)=>[(1000000,aU y.2)]) r) b
def bMf (p0:aB) (x3:Int) (bA:Int):St:=⟨[(3,(vI x3))],[(1000000,aU (aB.mk p0.b bA (IntKind.wrap .i64 ((IntKind.wrap .i64 (p0.h * 6364136223846793005))+1442695040888963407))))]⟩
abbrev bF5:=fun p0 x3 bA r=>avc Tryz.prog aP9 (cJ6 r) (bMf p0 x3 bA)
def aPf:AC:=(.seq (.dops [[],[],[],[],[],[1,2,3,4],[0,5,0],[5,6,0,1,2,3,4,5,6]] [.ld 22 1 true 6,.mv 23 0,.ld 24 1 true 6,.mv 25 7,.mv 26 1,.call (some 27) 93 [23,24,(.c (.nil 1)),25,26],.st 1 4 22,.st 8 5 27]) .ret)
def bU2:AC:=(.seq (.ops [.alc 4 [(.nil 2)],.alc 5 pV]) (.seq (.ops [.mv 8 0,.call (some 9) 89 [8],.alc 6 [(.nil 2)],.st 1 6 9]) (.seq (.ops [.mv 10 0,.call (some 11) 14 [10,(kI 3)],.bin 12 .add (kI 1) 11,.bsl 13 3 1 [12],.asg 7 13]) (.seq (.seq (.ops [.mv 14 0,.call (some 15) 51 [14,(kI 2)]]) (.cond 15 (.ops [.mv 16 7,.mv 17 0,.call (some 18) 14 [17,(kI 3)],.bin 19 .add (kI 1) 18,.bsl 20 3 1 [19],.app 21 3 1 8 16 20,.asg 7 21]) .skip)) aPf))))
theorem bLh:aY Tryz.prog 49=some (bU2,[.ld 0 1 true 4,.ld 0 8 true 5],28):=by kernel_rfl
def cAl (r:aP×aL×aB):Exit→St→Prop:=aV [.ld 0 1 true 4,.ld 0 8 true 5] fun x b=>x=(fun (y:aP×aL×aB)=>(.tup [(dJ y.1),(.agv [(.tre 10001000),(.tre 10001001),(.tre 10001002),(.tre 10001003),(.tre 10001004),(.tre 10001005),(vB y.2.1.distinct),(vI y.2.1.limit)])])) r∧bR ((fun (y:aP×aL×aB)=>[(10001000,[(.trc 1 (y.2.1.tables.map cI))]),(10001001,[(.trc 1 (y.2.1.on_.map (cSl 10 aJ)))]),(10001002,[(.trc 10 (y.2.1.where_.map aJ))]),(10001003,[(.trc 11 (y.2.1.order.map dZ))]),(10001004,[(.trc 10 (y.2.1.items.map aJ))]),(10001005,[(.trc 1 (y.2.1.names.map cStr))]),(1000000,aU y.2.2)]) r) b
def bJv (p1:Int) (y1:aP×aB) (x7:List Int) (bF:List Int) (bA:Int) (bL:Int):St:=⟨[(0,(.ptr 1000000 0)),(1,(vI p1)),(4,(.ptr 4 0)),(5,(.ptr 5 0)),(6,(.ptr 6 0)),(7,(.osl 7 3 1 (x7.map cI)))],[(4,[(.nil 2)]),(5,[(.nil 1),(.nil 1),(.nil 10),(.nil 11),(.nil 10),(.nil 1),(vB false),(vI 0)]),(6,dD y1.1),(1000000,aU (aB.mk bF bA bL))]⟩
abbrev aY2:=fun p1 y1 x7 bF bA bL r=>avc Tryz.prog aPf (cAl r) (bJv p1 y1 x7 bF bA bL)
def aRn:AC:=(.seq (.ops [.ld 46 2 true 7,.fa 47 0 10,.ld 48 1 false 47,.call (some 49) 70 [46,48],.bin 50 .lss 49 (kI 0)]) (.cond 50 (.ops [.fa 51 1 7,.ld 52 1 false 51,.ld 53 2 true 10,.bsl 54 92 2 [53],.app 55 92 2 24 52 54,.fa 56 1 7,.st 1 56 55]) .skip))
def aLc:AC:=(.ops [.mv 32 9,.bin 33 .add 32 (kI 1),.asg 9 33])
def aH8:AC:=(.loop (.seq (.seq (.ops [.mv 29 9,.mv 30 8,.bin 31 .lss 29 30]) (.cond 31 .skip (.exit 2))) (.seq (.block 3 (.seq (.ops [.mv 34 0,.bsl 35 9 1 [(.c (.d (.s (bs [97])))),(.c (.d (.s (bs [98])))),(.c (.d (.s (bs [99])))),(.c (.d (.s (bs [105,100])))),(.c (.d (.s (bs [110,97,109,101]))))],.call (some 36) 125 [34,35],.mv 37 0,.bsl 38 3 1 [(kI 1),(kI 1),(kI 2),(kI 3)],.call (some 39) 85 [37,38],.bld 40 [dC,aQ] [(0,1,36),(1,1,39)],.alc 10 [dC,aQ],.st 2 10 40]) (.seq (.seq (.ops [.mv 41 0,.call (some 42) 51 [41,(kI 20)]]) (.cond 42 (.ops [.mv 43 0,.call (some 44) 124 [43],.fa 45 0 10,.st 1 45 44]) .skip)) aRn))) aLc)))
def bBh:AC:=(.ops [.fa 57 0 3,.ld 58 1 false 57,.ld 59 2 true 7,.bsl 60 56 2 [59],.app 61 56 2 40 58 60,.fa 62 0 3,.st 1 62 61])
def bFi:AC:=(.ops [.mv 19 6,.bin 20 .add 19 (kI 1),.asg 6 20])
def aN4:AC:=(.loop (.seq (.seq (.ops [.mv 16 6,.mv 17 5,.bin 18 .lss 16 17]) (.cond 18 .skip (.exit 0))) (.seq (.block 1 (.seq (.ops [.mv 21 4,.mv 22 6,.ia 23 1 21 22,.ld 24 1 false 23,.bld 25 [dC,(.nil 2)] [(0,1,24)],.alc 7 [dC,(.nil 2)],.st 2 7 25]) (.seq (.ops [.mv 26 0,.call (some 27) 14 [26,(kI 3)],.bin 28 .add (kI 1) 27,.asg 8 28]) (.seq (.seq (.ops [.asg 9 (kI 0)]) (.block 2 aH8)) bBh)))) bFi)))
def bHx:AC:=(.seq (.ops [.ld 63 1 true 3,.st 1 2 63]) .ret)
def bPx:AC:=(.seq (.ops [.alc 2 [(.nil 2)]]) (.seq (.ops [.bld 11 [(.nil 2)] [],.alc 3 [(.nil 2)],.st 1 3 11]) (.seq (.ops [.bsl 12 9 1 [(.c (.d (.s (bs [116])))),(.c (.d (.s (bs [117])))),(.c (.d (.s (bs [118]))))],.asg 4 12]) (.seq (.ops [.mv 13 0,.call (some 14) 14 [13,(kI 3)],.bin 15 .add (kI 1) 14,.asg 5 15]) (.seq (.seq (.ops [.asg 6 (kI 0)]) (.block 0 aN4)) bHx)))))
theorem bJc:aY Tryz.prog 89=some (bPx,[.ld 0 1 true 2],64):=by kernel_rfl
def bA4 (r:aP×aB):Exit→St→Prop:=aV [.ld 0 1 true 2] fun x b=>x=(fun (y:aP×aB)=>(dJ y.1)) r∧bR ((fun (y:aP×aB)=>[(1000000,aU y.2)]) r) b
def cBo (r:aP×aB):Exit→St→Prop:=(bD (wkK (avc Tryz.prog bHx (bA4 r))) (bA4 r))
def aWe (r:aP×aB):Exit→St→Prop:=(bG 0 (cBo r))
def bDg (r:aP×aB):Exit→St→Prop:=(bD (avc Tryz.prog aN4 (aWe r)) (aWe r))
def bKn (r:aP×aB):Exit→St→Prop:=(bD (wkK (avc Tryz.prog bFi (bDg r))) (bDg r))
def bH3 (r:aP×aB):Exit→St→Prop:=(bG 1 (bKn r))
def bVz (r:aP×aB):Exit→St→Prop:=(bD (wkK (avc Tryz.prog bBh (bH3 r))) (bH3 r))
def aRa (r:aP×aB):Exit→St→Prop:=(bG 2 (bVz r))
def aPa (r:aP×aB):Exit→St→Prop:=(bD (avc Tryz.prog aH8 (aRa r)) (aRa r))
def bT4 (r:aP×aB):Exit→St→Prop:=(bD (wkK (avc Tryz.prog aLc (aPa r))) (aPa r))
def cBx (r:aP×aB):Exit→St→Prop:=(bG 3 (bT4 r))
def cKr (y1:Int×aB) (x6:Int) (cZ:List bI) (bF:List Int) (bA:Int) (bL:Int):St:=⟨[(0,(.ptr 1000000 0)),(2,(.ptr 2 0)),(3,(.ptr 3 0)),(4,(.osl 4 9 1 (([[116],[117],[118]]:List (List UInt8)).map cStr))),(5,(vI (IntKind.wrap .i64 (1+y1.1)))),(6,(vI x6))],[(2,[(.nil 2)]),(3,[(.osl 61 56 2 (cZ.map dR))]),(1000000,aU (aB.mk bF bA bL))]⟩
abbrev aK9:=fun y1 x6 cZ bF bA bL r=>avc Tryz.prog aN4 (aWe r) (cKr y1 x6 cZ bF bA bL)
def bWy (y1:Int×aB) (x6:Int) (y3:Int×aB) (cZ:List bI) (y2:List UInt8) (x9:Int) (iV:(List bV)×(List Int)×Int×Int):St:=⟨[(0,(.ptr 1000000 0)),(2,(.ptr 2 0)),(3,(.ptr 3 0)),(4,(.osl 4 9 1 (([[116],[117],[118]]:List (List UInt8)).map cStr))),(5,(vI (IntKind.wrap .i64 (1+y1.1)))),(6,(vI x6)),(7,(.ptr 7 0)),(8,(vI (IntKind.wrap .i64 (1+y3.1)))),(9,(vI x9))],[(2,[(.nil 2)]),(3,[(.osl 61 56 2 (cZ.map dR))]),(7,[(vS y2),(.osl 55 92 2 (iV.1.map fV))]),(1000000,aU (aB.mk iV.2.1 iV.2.2.1 iV.2.2.2))]⟩
abbrev aHw:=fun y1 x6 y3 cZ y2 x9 iV r=>avc Tryz.prog aH8 (aRa r) (bWy y1 x6 y3 cZ y2 x9 iV)
def bMu (y1:Int×aB) (x6:Int) (y3:Int×aB) (x9:Int) (cZ:List bI) (y2:List UInt8) (nC:List bV) (ky8:(Int×aB)×(List UInt8)×(List Int)×Int×Int):St:=⟨[(0,(.ptr 1000000 0)),(2,(.ptr 2 0)),(3,(.ptr 3 0)),(4,(.osl 4 9 1 (([[116],[117],[118]]:List (List UInt8)).map cStr))),(5,(vI (IntKind.wrap .i64 (1+y1.1)))),(6,(vI x6)),(7,(.ptr 7 0)),(8,(vI (IntKind.wrap .i64 (1+y3.1)))),(9,(vI x9)),(10,(.ptr 10 0))],[(2,[(.nil 2)]),(3,[(.osl 61 56 2 (cZ.map dR))]),(7,[(vS y2),(.osl 55 92 2 (nC.map fV))]),(10,bEw (bV.mk ky8.2.1 ky8.1.1)),(1000000,aU (aB.mk ky8.2.2.1 ky8.2.2.2.1 ky8.2.2.2.2))]⟩
abbrev aLl:=fun y1 x6 y3 x9 cZ y2 nC ky8 r=>avc Tryz.prog aRn (cBx r) (bMu y1 x6 y3 x9 cZ y2 nC ky8)
def bX8 (y1:Int×aB) (x6:Int) (y3:Int×aB) (x9:Int) (cZ:List bI) (y2:List UInt8) (jY:(List Int)×Int×Int×(List bV)):St:=⟨[(0,(.ptr 1000000 0)),(2,(.ptr 2 0)),(3,(.ptr 3 0)),(4,(.osl 4 9 1 (([[116],[117],[118]]:List (List UInt8)).map cStr))),(5,(vI (IntKind.wrap .i64 (1+y1.1)))),(6,(vI x6)),(7,(.ptr 7 0)),(8,(vI (IntKind.wrap .i64 (1+y3.1)))),(9,(vI x9))],[(2,[(.nil 2)]),(3,[(.osl 61 56 2 (cZ.map dR))]),(7,[(vS y2),(.osl 55 92 2 (jY.2.2.2.map fV))]),(1000000,aU (aB.mk jY.1 jY.2.1 jY.2.2.1))]⟩
abbrev aJ0:=fun y1 x6 y3 x9 cZ y2 jY r=>avc Tryz.prog aLc (aPa r) (bX8 y1 x6 y3 x9 cZ y2 jY)
def cIm:AC:=(.seq (.ops [.asg 4 (kB false)]) (.seq (.ops [.mv 5 0,.mv 6 1,.call (some 7) 14 [5,6],.bin 8 .eql 7 (kI 0),.asg 4 8]) .ret))
theorem bZm:aY Tryz.prog 51=some (cIm,[.mv 0 4],9):=by kernel_rfl
def cMg (r:Bool×aB):Exit→St→Prop:=aV [.mv 0 4] fun x b=>x=(fun (y:Bool×aB)=>(vB y.1)) r∧bR ((fun (y:Bool×aB)=>[(1000000,aU y.2)]) r) b
def cCe:AC:=(.seq (.ops [.asg 2 (.c (.d (.s (bs []))))]) (.seq (.seq (.ops [.mv 3 0,.call (some 4) 51 [3,(kI 6)]]) (.cond 4 (.seq (.ops [.mv 5 0,.bsl 6 9 1 [(.c (.d (.s (bs [97,32,98])))),(.c (.d (.s (bs [102,114,111,109])))),(.c (.d (.s (bs [83,101,108,101,99,116])))),(.c (.d (.s (bs [49,120])))),(.c (.d (.s (bs [113,34,113])))),(.c (.d (.s (bs [0])))),(.c (.d (.s (bs [34])))),(.c (.d (.s (bs [105,116,39,115])))),(.c (.d (.s (bs [120,46,121])))),(.c (.d (.s (bs [45]))))],.call (some 7) 125 [5,6],.asg 2 7]) .ret) .skip)) (.seq (.ops [.mv 8 0,.bsl 9 9 1 [(.c (.d (.s (bs [97])))),(.c (.d (.s (bs [98])))),(.c (.d (.s (bs [99])))),(.c (.d (.s (bs [116])))),(.c (.d (.s (bs [117])))),(.c (.d (.s (bs [118])))),(.c (.d (.s (bs [105,100])))),(.c (.d (.s (bs [110,97,109,101])))),(.c (.d (.s (bs [65])))),(.c (.d (.s (bs [95,120,49]))))],.call (some 10) 125 [8,9],.asg 2 10]) .ret)))
theorem bNp:aY Tryz.prog 124=some (cCe,[.mv 0 2],11):=by kernel_rfl
def cQo (r:(List UInt8)×aB):Exit→St→Prop:=aV [.mv 0 2] fun x b=>x=(fun (y:(List UInt8)×aB)=>(vS y.1)) r∧bR ((fun (y:(List UInt8)×aB)=>[(1000000,aU y.2)]) r) b
def cGs:AC:=(.seq (.ops [.asg 4 (.c (.d (.s (bs []))))]) (.seq (.ops [.mv 5 1,.mv 6 0,.mv 7 1,.len 8 7,.call (some 9) 14 [6,8],.ia 10 1 5 9,.ld 11 1 false 10,.asg 4 11]) .ret))
theorem bWw:aY Tryz.prog 125=some (cGs,[.mv 0 4],12):=by kernel_rfl
def cP7 (r:(List UInt8)×aB):Exit→St→Prop:=aV [.mv 0 4] fun x b=>x=(fun (y:(List UInt8)×aB)=>(vS y.1)) r∧bR ((fun (y:(List UInt8)×aB)=>[(1000000,aU y.2)]) r) b
def cH9:AC:=(.seq (.ops [.asg 4 (kI 0)]) (.seq (.ops [.mv 5 1,.mv 6 0,.mv 7 1,.len 8 7,.call (some 9) 14 [6,8],.ia 10 1 5 9,.ld 11 1 false 10,.asg 4 11]) .ret))
theorem bZ3:aY Tryz.prog 85=some (cH9,[.mv 0 4],12):=by kernel_rfl
def cOt (r:Int×aB):Exit→St→Prop:=aV [.mv 0 4] fun x b=>x=(fun (y:Int×aB)=>(vI y.1)) r∧bR ((fun (y:Int×aB)=>[(1000000,aU y.2)]) r) b
def aSj:AC:=(.ops [.fa 66 1 11,.ld 67 1 false 66,.mv 68 16,.bsl 69 26 1 [68],.app 70 26 1 24 67 69,.fa 71 1 11,.st 1 71 70])
def aZ0:AC:=(.ops [.mv 30 13,.bin 31 .add 30 (kI 1),.asg 13 31])
def aKl:AC:=(.loop (.seq (.seq (.ops [.mv 27 13,.mv 28 12,.bin 29 .lss 27 28]) (.cond 29 .skip (.exit 0))) (.seq (.block 1 (.seq (.dops [[],[0],[],[],[3],[4],[2,5],[6],[1,7,6],[0,1,2,3,4,5,6,7,8],[9,8,8,0,1,2,3,4,5,6,7,8]] [.fa 32 0 11,.ld 33 1 false 32,.mv 34 0,.fa 35 0 6,.ld 36 1 false 35,.len 37 36,.call (some 38) 14 [34,37],.bsl 39 3 1 [38],.app 40 3 1 8 33 39,.fa 41 0 11,.st 1 41 40]) (.seq (.ops [.ld 43 1 true 6,.fa 44 0 11,.ld 45 1 false 44,.call (some 46) 114 [43,45],.mv 42 46,.ext 47 42 0,.ext 48 42 1,.asg 14 47,.asg 15 48]) (.seq (.ops [.bsl 49 74 10 [],.asg 16 49]) (.seq (.seq (.ops [.mv 50 13,.bin 51 .gtr 50 (kI 0),.mv 52 51,.g 52 true (.mv 53 0),.g 52 true (.call (some 54) 51 [53,(kI 2)]),.pick 55 52 54 (kB false)]) (.cond 55 (.dops [[],[],[],[],[],[3,4],[],[1,2,5,6,5],[7],[0,8,7],[9,9,0,1,2,3,4,5,6,7,8,9]] [.mv 56 16,.mv 57 0,.ld 58 1 true 6,.mv 59 14,.mv 60 2,.call (some 61) 115 [59,60],.mv 62 4,.call (some 63) 50 [57,58,61,(kI 3),62],.bsl 64 74 10 [63],.app 65 74 10 120 56 64,.asg 16 65]) .skip)) aSj))))) aZ0)))
def aT2:AC:=(.loop (.seq (.seq (.ops [.mv 82 20,.mv 83 3,.len 84 83,.bin 85 .lss 82 84]) (.cond 85 .skip (.exit 2))) (.seq (.block 3 (.seq (.dops [[],[0],[],[],[],[],[],[5,6],[7],[],[2,3,4,8,9],[10],[1,11,10],[0,1,2,3,4,5,6,7,8,9,10,11,12],[13,12,12,0,1,2,3,4,5,6,7,8,9,10,11,12]] [.fa 88 4 11,.ld 89 1 false 88,.mv 90 0,.ld 91 1 true 6,.mv 92 19,.mv 93 3,.mv 94 20,.ia 95 1 93 94,.ld 96 1 false 95,.mv 97 4,.call (some 98) 50 [90,91,92,96,97],.bsl 99 74 10 [98],.app 100 74 10 120 89 99,.fa 101 4 11,.st 1 101 100]) (.dops [[],[0],[],[],[2,3],[4],[1,5,4],[0,1,2,3,4,5,6],[7,6,6,0,1,2,3,4,5,6]] [.fa 102 5 11,.ld 103 1 false 102,.mv 104 0,.bsl 105 9 1 [(.c (.d (.s (bs [97])))),(.c (.d (.s (bs [98])))),(.c (.d (.s (bs [99])))),(.c (.d (.s (bs [120])))),(.c (.d (.s (bs [121,32,122])))),(.c (.d (.s (bs [99,49]))))],.call (some 106) 125 [104,105],.bsl 107 9 1 [106],.app 108 9 1 16 103 107,.fa 109 5 11,.st 1 109 108]))) (.ops [.mv 86 20,.bin 87 .add 86 (kI 1),.asg 20 87]))))
def aVf:AC:=(.seq (.ops [.ld 142 8 true 11,.st 8 10 142]) .ret)
def aQt:AC:=(.seq (.seq (.ops [.mv 137 0,.call (some 138) 51 [137,(kI 4)]]) (.cond 138 (.ops [.mv 139 0,.call (some 140) 14 [139,(kI 4)],.fa 141 7 11,.st 1 141 140]) .skip)) aVf)
def aRc:AC:=(.seq (.seq (.ops [.mv 119 0,.call (some 120) 51 [119,(kI 3)]]) (.cond 120 (.dops [[],[0],[],[],[],[],[5],[6],[],[2,3,4,7,8,6],[],[10,9],[9,11],[12],[1,13,11],[0,1,2,3,4,5,6,7,8,9,10,11,12,13,14],[15,14,14,0,1,2,3,4,5,6,7,8,9,10,11,12,13,14]] [.fa 121 3 11,.ld 122 1 false 121,.mv 123 0,.ld 124 1 true 6,.mv 125 19,.mv 126 0,.call (some 127) 14 [126,(kI 3)],.bin 128 .add (kI 1) 127,.mv 129 4,.call (some 130) 50 [123,124,125,128,129],.mv 131 0,.call (some 132) 51 [131,(kI 2)],.bld 133 [aQ,aQ,bU,aQ,aQ,dC,aQ,aQ,(.nil 10),(.nil 8),bU] [(0,10,130),(10,1,132)],.bsl 134 104 11 [133],.app 135 104 11 128 122 134,.fa 136 3 11,.st 1 136 135]) .skip)) aQt)
def aYj:AC:=(.seq (.seq (.ops [.mv 110 0,.call (some 111) 51 [110,(kI 2)]]) (.cond 111 (.ops [.mv 112 0,.ld 113 1 true 6,.mv 114 19,.mv 115 4,.call (some 116) 50 [112,113,114,(kI 3),115],.bsl 117 74 10 [116],.fa 118 2 11,.st 1 118 117]) .skip)) aRc)
def bGw:AC:=(.seq (.ops [.ld 73 1 true 6,.fa 74 0 11,.ld 75 1 false 74,.call (some 76) 114 [73,75],.mv 72 76,.ext 77 72 0,.ext 78 72 1,.asg 17 77,.asg 18 78]) (.seq (.ops [.mv 79 17,.mv 80 2,.call (some 81) 115 [79,80],.asg 19 81]) (.seq (.seq (.ops [.asg 20 (kI 0)]) (.block 2 aT2)) aYj)))
def bX2:AC:=(.seq (.ops [.box 6 37 1,.alc 10 pV]) (.seq (.ops [.mv 21 0,.call (some 22) 51 [21,(kI 4)],.bld 23 [(.nil 1),(.nil 1),(.nil 10),(.nil 11),(.nil 10),(.nil 1),bU,aQ] [(7,1,(kI (-1))),(6,1,22)],.alc 11 pV,.st 8 11 23]) (.seq (.ops [.mv 24 0,.call (some 25) 14 [24,(kI 2)],.bin 26 .add (kI 1) 25,.asg 12 26]) (.seq (.seq (.ops [.asg 13 (kI 0)]) (.block 0 aKl)) bGw))))
theorem bNe:aY Tryz.prog 93=some (bX2,[.ld 0 8 true 10],143):=by kernel_rfl
def M4 (r:aL×aB):Exit→St→Prop:=aV [.ld 0 8 true 10] fun x b=>x=(fun (y:aL×aB)=>(.agv [(.tre 10000000),(.tre 10000001),(.tre 10000002),(.tre 10000003),(.tre 10000004),(.tre 10000005),(vB y.1.distinct),(vI y.1.limit)])) r∧bR ((fun (y:aL×aB)=>[(10000000,[(.trc 1 (y.1.tables.map cI))]),(10000001,[(.trc 1 (y.1.on_.map (cSl 10 aJ)))]),(10000002,[(.trc 10 (y.1.where_.map aJ))]),(10000003,[(.trc 11 (y.1.order.map dZ))]),(10000004,[(.trc 10 (y.1.items.map aJ))]),(10000005,[(.trc 1 (y.1.names.map cStr))]),(1000000,aU y.2)]) r) b
def bOw (r:aL×aB):Exit→St→Prop:=(bD (wkK (avc Tryz.prog bGw (M4 r))) (M4 r))
def aNl (r:aL×aB):Exit→St→Prop:=(bG 0 (bOw r))
def bAi (r:aL×aB):Exit→St→Prop:=(bD (avc Tryz.prog aKl (aNl r)) (aNl r))
def cKh (r:aL×aB):Exit→St→Prop:=(bD (wkK (avc Tryz.prog aZ0 (bAi r))) (bAi r))
def bW3 (r:aL×aB):Exit→St→Prop:=(bG 1 (cKh r))
def cCv (r:aL×aB):Exit→St→Prop:=(bD (wkK (avc Tryz.prog aYj (M4 r))) (M4 r))
def bO4 (r:aL×aB):Exit→St→Prop:=(bG 2 (cCv r))
def bQd (p2:List (List Int)) (p3:List Int) (p4:Int) (y2:Int×aB) (p1:aP) (y1:Bool×aB) (kx13:Int×(List Int)×Int×Int×(((List (List aA))×(List Int)))):St:=⟨[(0,(.ptr 1000000 0)),(2,(.d (.sl 1 (p2.map (cSl 1 cI))))),(3,(eP p3)),(4,(vI p4)),(6,(.ptr 6 0)),(10,(.ptr 10 0)),(11,(.ptr 11 0)),(12,(vI (IntKind.wrap .i64 (1+y2.1)))),(13,(vI kx13.1))],[(6,dD p1),(10,[(.nil 1),(.nil 1),(.nil 10),(.nil 11),(.nil 10),(.nil 1),(vB false),(vI 0)]),(11,[(.tre 60022000),(.tre 60022001),(.nil 10),(.nil 11),(.nil 10),(.nil 1),(vB y1.1),(vI (-1))]),(1000000,aU (aB.mk kx13.2.1 kx13.2.2.1 kx13.2.2.2.1)),(60022001,[(.trc 1 (kx13.2.2.2.2.1.map (cSl 10 aJ)))]),(60022000,[(.trc 1 (kx13.2.2.2.2.2.map cI))])]⟩
abbrev aHl:=fun p2 p3 p4 y2 p1 y1 kx13 r=>avc Tryz.prog aKl (aNl r) (bQd p2 p3 p4 y2 p1 y1 kx13)
def cLq (p2:List (List Int)) (p3:List Int) (p4:Int) (y2:Int×aB) (x13:Int) (p1:aP) (y1:Bool×aB) (ky4:(List Int)×(((List (List aA))×(List Int)×Int×Int×(List aA)))):St:=⟨[(0,(.ptr 1000000 0)),(2,(.d (.sl 1 (p2.map (cSl 1 cI))))),(3,(eP p3)),(4,(vI p4)),(6,(.ptr 6 0)),(10,(.ptr 10 0)),(11,(.ptr 11 0)),(12,(vI (IntKind.wrap .i64 (1+y2.1)))),(13,(vI x13)),(16,(.tre 60085000))],[(6,dD p1),(10,[(.nil 1),(.nil 1),(.nil 10),(.nil 11),(.nil 10),(.nil 1),(vB false),(vI 0)]),(11,[(.tre 60085001),(.tre 60085002),(.nil 10),(.nil 11),(.nil 10),(.nil 1),(vB y1.1),(vI (-1))]),(1000000,aU (aB.mk ky4.2.2.1 ky4.2.2.2.1 ky4.2.2.2.2.1)),(60085000,[(.trc 10 (ky4.2.2.2.2.2.map aJ))]),(60085001,[(.trc 1 (ky4.1.map cI))]),(60085002,[(.trc 1 (ky4.2.1.map (cSl 10 aJ)))])]⟩
abbrev aLa:=fun p2 p3 p4 y2 x13 p1 y1 ky4 r=>avc Tryz.prog aSj (bW3 r) (cLq p2 p3 p4 y2 x13 p1 y1 ky4)
def cE9 (p3:List Int) (p4:Int) (y15:List (List Int)) (p1:aP) (y1:Bool×aB) (fP:List (List aA)) (fQ:List Int) (kx20:Int×(List Int)×Int×Int×(((List (List UInt8))×(List aA)))):St:=⟨[(0,(.ptr 1000000 0)),(3,(eP p3)),(4,(vI p4)),(6,(.ptr 6 0)),(10,(.ptr 10 0)),(11,(.ptr 11 0)),(19,(.osl 19 24 1 (y15.map (cSl 1 cI)))),(20,(vI kx20.1))],[(6,dD p1),(10,[(.nil 1),(.nil 1),(.nil 10),(.nil 11),(.nil 10),(.nil 1),(vB false),(vI 0)]),(11,[(.tre 60119000),(.tre 60119001),(.nil 10),(.nil 11),(.tre 60119002),(.tre 60119003),(vB y1.1),(vI (-1))]),(1000000,aU (aB.mk kx20.2.1 kx20.2.2.1 kx20.2.2.2.1)),(60119003,[(.trc 1 (kx20.2.2.2.2.1.map cStr))]),(60119002,[(.trc 10 (kx20.2.2.2.2.2.map aJ))]),(60119001,[(.trc 1 (fP.map (cSl 10 aJ)))]),(60119000,[(.trc 1 (fQ.map cI))])]⟩
abbrev aHt:=fun p3 p4 y15 p1 y1 fP fQ kx20 r=>avc Tryz.prog aT2 (bO4 r) (cE9 p3 p4 y15 p1 y1 fP fQ kx20)
def bW2 (p4:Int) (y15:List (List Int)) (p1:aP) (y1:Bool×aB) (fT:List (List UInt8)) (fU:List aA) (iL:(List (List aA))×(List Int)×(List Int)×Int×Int×(List aA)):St:=⟨[(0,(.ptr 1000000 0)),(4,(vI p4)),(6,(.ptr 6 0)),(10,(.ptr 10 0)),(11,(.ptr 11 0)),(19,(.osl 19 24 1 (y15.map (cSl 1 cI))))],[(6,dD p1),(10,[(.nil 1),(.nil 1),(.nil 10),(.nil 11),(.nil 10),(.nil 1),(vB false),(vI 0)]),(11,[(.tre 60179000),(.tre 60179001),(.tre 60179002),(.nil 11),(.tre 60179003),(.tre 60179004),(vB y1.1),(vI (-1))]),(1000000,aU (aB.mk iL.2.2.1 iL.2.2.2.1 iL.2.2.2.2.1)),(60179002,[(.trc 10 (iL.2.2.2.2.2.map aJ))]),(60179004,[(.trc 1 (fT.map cStr))]),(60179003,[(.trc 10 (fU.map aJ))]),(60179001,[(.trc 1 (iL.1.map (cSl 10 aJ)))]),(60179000,[(.trc 1 (iL.2.1.map cI))])]⟩
abbrev aLt:=fun p4 y15 p1 y1 fT fU iL r=>avc Tryz.prog aRc (M4 r) (bW2 p4 y15 p1 y1 fT fU iL)
def bJg (y1:Bool×aB) (kR:List aA) (fT:List (List UInt8)) (fU:List aA) (fP:List (List aA)) (fQ:List Int) (lG:List Int) (lQ:Int) (lU:Int) (kU:List bO):St:=⟨[(0,(.ptr 1000000 0)),(10,(.ptr 10 0)),(11,(.ptr 11 0))],[(10,[(.nil 1),(.nil 1),(.nil 10),(.nil 11),(.nil 10),(.nil 1),(vB false),(vI 0)]),(11,[(.tre 60204000),(.tre 60204001),(.tre 60204002),(.tre 60204003),(.tre 60204004),(.tre 60204005),(vB y1.1),(vI (-1))]),(1000000,aU (aB.mk lG lQ lU)),(60204003,[(.trc 11 (kU.map dZ))]),(60204002,[(.trc 10 (kR.map aJ))]),(60204005,[(.trc 1 (fT.map cStr))]),(60204004,[(.trc 10 (fU.map aJ))]),(60204001,[(.trc 1 (fP.map (cSl 10 aJ)))]),(60204000,[(.trc 1 (fQ.map cI))])]⟩
abbrev bDx:=fun y1 kR fT fU fP fQ lG lQ lU kU r=>avc Tryz.prog aQt (M4 r) (bJg y1 kR fT fU fP fQ lG lQ lU kU)
def cC2 (y1:Bool×aB) (kU:List bO) (kR:List aA) (fT:List (List UInt8)) (fU:List aA) (fP:List (List aA)) (fQ:List Int) (xC:Int) (vC:List Int) (xZ:Int) (wC:Int):St:=⟨[(10,(.ptr 10 0)),(11,(.ptr 11 0))],[(10,[(.nil 1),(.nil 1),(.nil 10),(.nil 11),(.nil 10),(.nil 1),(vB false),(vI 0)]),(11,[(.tre 60216000),(.tre 60216001),(.tre 60216002),(.tre 60216003),(.tre 60216004),(.tre 60216005),(vB y1.1),(vI xC)]),(1000000,aU (aB.mk vC xZ wC)),(60216003,[(.trc 11 (kU.map dZ))]),(60216002,[(.trc 10 (kR.map aJ))]),(60216005,[(.trc 1 (fT.map cStr))]),(60216004,[(.trc 10 (fU.map aJ))]),(60216001,[(.trc 1 (fP.map (cSl 10 aJ)))]),(60216000,[(.trc 1 (fQ.map cI))])]⟩
abbrev bDt:=fun y1 kU kR fT fU fP fQ xC vC xZ wC r=>avc Tryz.prog aVf (M4 r) (cC2 y1 kU kR fT fU fP fQ xC vC xZ wC)
def bYk:AC:=(.seq (.ops [.box 6 37 1,.alc 10 oO]) (.seq (.seq (.ops [.mv 11 4,.bin 12 .leq 11 (kI 0),.mv 13 12,.g 13 false (.mv 14 0),.g 13 false (.call (some 15) 51 [14,(kI 4)]),.pick 16 13 (kB true) 15]) (.cond 16 (.seq (.seq (.ops [.mv 17 0,.call (some 18) 51 [17,(kI 3)]]) (.cond 18 (.seq (.ops [.mv 19 0,.mv 20 3,.call (some 21) 94 [19,20],.bld 22 [aQ,aQ,bU,aQ,aQ,dC,aQ,aQ,(.nil 10),(.nil 8)] [(0,1,(kI 1)),(3,3,21)],.st 10 10 22]) .ret) .skip)) (.seq (.ops [.mv 23 0,.mv 24 2,.mv 25 3,.call (some 26) 95 [23,24,25],.st 10 10 26]) .ret)) .skip)) (.seq (.seq (.ops [.mv 27 3]) (.block 0 (.seq (.ops [.bin 29 .eql 27 (kI 1),.asg 28 29]) (.cond 28 (.seq (.seq (.ops [.mv 30 0,.call (some 31) 51 [30,(kI 5)]]) (.cond 31 (.seq (.ops [.mv 32 0,.ld 33 1 true 6,.mv 34 2,.mv 35 3,.mv 36 4,.call (some 37) 96 [32,33,34,35,36,(kI 1)],.bld 38 [aQ,aQ,bU,aQ,aQ,dC,aQ,aQ,(.nil 10),(.nil 8)] [(0,1,(kI 3)),(1,1,(kI 16)),(8,1,37)],.st 10 10 38]) .ret) .skip)) (.seq (.dops [[],[0],[1],[],[],[],[],[],[3,4,5,6,7,1],[2,8],[9,8,0,1,2,3,4,5,6,7,8,9]] [.mv 39 0,.call (some 40) 14 [39,(kI 5)],.bin 41 .add (kI 10) 40,.mv 42 0,.ld 43 1 true 6,.mv 44 2,.mv 45 3,.mv 46 4,.call (some 47) 96 [42,43,44,45,46,(kI 2)],.bld 48 [aQ,aQ,bU,aQ,aQ,dC,aQ,aQ,(.nil 10),(.nil 8)] [(0,1,(kI 4)),(1,1,41),(8,1,47)],.st 10 10 48]) .ret)) (.seq (.ops [.bin 50 .eql 27 (kI 2),.asg 49 50]) (.cond 49 (.seq (.ops [.mv 51 0,.ld 52 1 true 6,.mv 53 2,.mv 54 3,.mv 55 4,.call (some 56) 96 [51,52,53,54,55,(kI 2)],.bld 57 [aQ,aQ,bU,aQ,aQ,dC,aQ,aQ,(.nil 10),(.nil 8)] [(0,1,(kI 4)),(1,1,(kI 9)),(8,1,56)],.st 10 10 57]) .ret) .skip)))))) (.seq (.ops [.mv 58 0,.ld 59 1 true 6,.mv 60 2,.mv 61 4,.call (some 62) 97 [58,59,60,61],.st 10 10 62]) .ret))))
theorem bPa:aY Tryz.prog 50=some (bYk,[.ld 0 10 true 10],63):=by kernel_rfl
def cQh (r:aA×aB):Exit→St→Prop:=aV [.ld 0 10 true 10] fun x b=>x=(fun (y:aA×aB)=>(.agv [(vI y.1.kind),(vI y.1.op),(vB y.1.not_),(vI y.1.value.kind),(vI y.1.value.num),(vS y.1.value.text),(vI y.1.up),(vI y.1.at_),(.tre 10000008),(.tre 10000009)])) r∧bR ((fun (y:aA×aB)=>[(10000008,[(.trc 10 (y.1.kids.map aJ))]),(10000009,[(.trc 8 (y.1.sub.map dV))]),(1000000,aU y.2)]) r) b
def aT9:AC:=(.ops [.mv 28 10,.bin 29 .add 28 (kI 1),.asg 10 29])
def aKo:AC:=(.loop (.seq (.seq (.ops [.mv 21 10,.mv 22 1,.mv 23 9,.ia 24 1 22 23,.ld 25 1 false 24,.len 26 25,.bin 27 .lss 21 26]) (.cond 27 .skip (.exit 2))) (.seq (.block 3 (.seq (.ops [.mv 30 1,.mv 31 9,.ia 32 1 30 31,.ld 33 1 false 32,.mv 34 10,.ia 35 1 33 34,.ld 36 1 false 35,.mv 37 2,.bin 38 .eql 36 37]) (.cond 38 (.seq (.ops [.mv 39 7,.bin 40 .add 39 (kI 1),.asg 7 40]) (.seq (.ops [.mv 41 0,.mv 42 7,.call (some 43) 51 [41,42]]) (.cond 43 (.ops [.mv 44 9,.mv 45 10,.bld 46 [aQ,aQ,bU,aQ,aQ,dC,aQ,aQ,(.nil 10),(.nil 8)] [(0,1,(kI 2)),(6,1,44),(7,1,45)],.st 10 8 46]) .skip))) .skip))) aT9)))
def bDi:AC:=(.ops [.mv 19 9,.bin 20 .add 19 (kI 1),.asg 9 20])
def aGp:AC:=(.loop (.seq (.seq (.ops [.mv 15 9,.mv 16 1,.len 17 16,.bin 18 .lss 15 17]) (.cond 18 .skip (.exit 0))) (.seq (.block 1 (.seq (.ops [.asg 10 (kI 0)]) (.block 2 aKo))) bDi)))
def bCv:AC:=(.seq (.ops [.ld 47 10 true 8,.st 10 6 47]) .ret)
def cH4:AC:=(.seq (.ops [.alc 6 oO]) (.seq (.ops [.asg 7 (kI 0)]) (.seq (.ops [.mv 11 0,.mv 12 2,.call (some 13) 94 [11,12],.bld 14 [aQ,aQ,bU,aQ,aQ,dC,aQ,aQ,(.nil 10),(.nil 8)] [(0,1,(kI 1)),(3,3,13)],.alc 8 oO,.st 10 8 14]) (.seq (.seq (.ops [.asg 9 (kI 0)]) (.block 0 aGp)) bCv))))
theorem cKi:aY Tryz.prog 95=some (cH4,[.ld 0 10 true 6],48):=by kernel_rfl
def aWp (r:aA×aB):Exit→St→Prop:=aV [.ld 0 10 true 6] fun x b=>x=(fun (y:aA×aB)=>(.agv [(vI y.1.kind),(vI y.1.op),(vB y.1.not_),(vI y.1.value.kind),(vI y.1.value.num),(vS y.1.value.text),(vI y.1.up),(vI y.1.at_),(.tre 10000008),(.tre 10000009)])) r∧bR ((fun (y:aA×aB)=>[(10000008,[(.trc 10 (y.1.kids.map aJ))]),(10000009,[(.trc 8 (y.1.sub.map dV))]),(1000000,aU y.2)]) r) b
def cBm (r:aA×aB):Exit→St→Prop:=(bD (wkK (avc Tryz.prog bCv (aWp r))) (aWp r))
def aPz (r:aA×aB):Exit→St→Prop:=(bG 0 (cBm r))
def bAt (r:aA×aB):Exit→St→Prop:=(bD (avc Tryz.prog aGp (aPz r)) (aPz r))
def cDm (r:aA×aB):Exit→St→Prop:=(bD (wkK (avc Tryz.prog bDi (bAt r))) (bAt r))
def bL4 (r:aA×aB):Exit→St→Prop:=(bG 1 (cDm r))
def aTz (r:aA×aB):Exit→St→Prop:=(bG 2 (bL4 r))
def bSg (r:aA×aB):Exit→St→Prop:=(bD (avc Tryz.prog aKo (aTz r)) (aTz r))
def bTa (p1:List (List Int)) (p2:Int) (x7:Int) (x9:Int) (nT:Int) (nR:Int) (nN:Int) (gK:(List UInt8)×Int×Int×(List Int)×Int×Int):St:=⟨[(0,(.ptr 1000000 0)),(1,(.d (.sl 1 (p1.map (cSl 1 cI))))),(2,(vI p2)),(6,(.ptr 6 0)),(7,(vI x7)),(8,(.ptr 8 0)),(9,(vI x9))],[(6,[(vI 0),(vI 0),(vB false),(vI 0),(vI 0),(vS []),(vI 0),(vI 0),(.nil 10),(.nil 8)]),(8,[(vI nT),(vI 0),(vB false),(vI nR),(vI nN),(vS gK.1),(vI gK.2.1),(vI gK.2.2.1),(.nil 10),(.nil 8)]),(1000000,aU (aB.mk gK.2.2.2.1 gK.2.2.2.2.1 gK.2.2.2.2.2))]⟩
abbrev aKk:=fun p1 p2 x7 x9 nT nR nN gK r=>avc Tryz.prog aGp (aPz r) (bTa p1 p2 x7 x9 nT nR nN gK)
def bMp (p1:List (List Int)) (p2:Int) (x9:Int) (mF:Int) (x10:Int) (nM:Int) (nL:Int) (nJ:Int) (gH:(List UInt8)×Int×Int×(List Int)×Int×Int):St:=⟨[(0,(.ptr 1000000 0)),(1,(.d (.sl 1 (p1.map (cSl 1 cI))))),(2,(vI p2)),(6,(.ptr 6 0)),(7,(vI mF)),(8,(.ptr 8 0)),(9,(vI x9)),(10,(vI x10))],[(6,[(vI 0),(vI 0),(vB false),(vI 0),(vI 0),(vS []),(vI 0),(vI 0),(.nil 10),(.nil 8)]),(8,[(vI nM),(vI 0),(vB false),(vI nL),(vI nJ),(vS gH.1),(vI gH.2.1),(vI gH.2.2.1),(.nil 10),(.nil 8)]),(1000000,aU (aB.mk gH.2.2.2.1 gH.2.2.2.2.1 gH.2.2.2.2.2))]⟩
abbrev aMs:=fun p1 p2 x9 mF x10 nM nL nJ gH r=>avc Tryz.prog aKo (aTz r) (bMp p1 p2 x9 mF x10 nM nL nJ gH)
def cD1 (p1:List (List Int)) (p2:Int) (x9:Int) (x10:Int) (pW:Int) (pG:Int) (pQ:Int) (qF:Int) (jM:(List UInt8)×Int×Int×(List Int)×Int×Int):St:=⟨[(0,(.ptr 1000000 0)),(1,(.d (.sl 1 (p1.map (cSl 1 cI))))),(2,(vI p2)),(6,(.ptr 6 0)),(7,(vI pW)),(8,(.ptr 8 0)),(9,(vI x9)),(10,(vI x10))],[(6,[(vI 0),(vI 0),(vB false),(vI 0),(vI 0),(vS []),(vI 0),(vI 0),(.nil 10),(.nil 8)]),(8,[(vI pG),(vI 0),(vB false),(vI pQ),(vI qF),(vS jM.1),(vI jM.2.1),(vI jM.2.2.1),(.nil 10),(.nil 8)]),(1000000,aU (aB.mk jM.2.2.2.1 jM.2.2.2.2.1 jM.2.2.2.2.2))]⟩
abbrev aJ3:=fun p1 p2 x9 x10 pW pG pQ qF jM r=>avc Tryz.prog aT9 (bSg r) (cD1 p1 p2 x9 x10 pW pG pQ qF jM)
def aVi:AC:=(.seq (.ops [.ld 16 3 true 5,.st 3 4 16]) .ret)
def bOq:AC:=(.seq (.ops [.alc 4 [aQ,aQ,dC]]) (.seq (.ops [.mv 6 0,.mv 7 1,.call (some 8) 128 [6,7],.alc 5 [aQ,aQ,dC],.st 3 5 8]) (.seq (.seq (.ops [.fa 9 0 5,.ld 10 1 false 9,.bin 11 .eql 10 (kI 1)]) (.cond 11 (.ops [.mv 12 0,.bsl 13 3 1 [(kI 0),(kI 1),(kI 2),(kI 3),(kI 5),(kI 1),(kI 2),(kI 9223372036854775807)],.call (some 14) 85 [12,13],.fa 15 1 5,.st 1 15 14]) .skip)) aVi)))
theorem cDy:aY Tryz.prog 94=some (bOq,[.ld 0 3 true 4],17):=by kernel_rfl
def bXg (r:bH×aB):Exit→St→Prop:=aV [.ld 0 3 true 4] fun x b=>x=(fun (y:bH×aB)=>(lM y.1)) r∧bR ((fun (y:bH×aB)=>[(1000000,aU y.2)]) r) b
def bP5 (y1:bH×aB) (yT:Int) (bF:List Int) (bA:Int) (bL:Int):St:=⟨[(4,(.ptr 4 0)),(5,(.ptr 5 0))],[(4,[(vI 0),(vI 0),(vS [])]),(5,aX0 (bH.mk y1.1.kind yT y1.1.text)),(1000000,aU (aB.mk bF bA bL))]⟩
abbrev bGd:=fun y1 yT bF bA bL r=>avc Tryz.prog aVi (bXg r) (bP5 y1 yT bF bA bL)
def bNt:AC:=(.seq (.ops [.alc 4 [aQ,aQ,dC]]) (.seq (.seq (.ops [.mv 5 0,.call (some 6) 51 [5,(kI 6)]]) (.cond 6 (.seq (.ops [.bld 7 [aQ,aQ,dC] [],.st 3 4 7]) .ret) .skip)) (.seq (.seq (.ops [.mv 8 1]) (.block 0 (.seq (.ops [.bin 10 .eql 8 (kI 2),.asg 9 10]) (.cond 9 (.seq (.ops [.mv 11 0,.bsl 12 9 1 [(.c (.d (.s (bs [])))),(.c (.d (.s (bs [97])))),(.c (.d (.s (bs [98])))),(.c (.d (.s (bs [97,98]))))],.call (some 13) 125 [11,12],.call (some 14) 144 [13],.st 3 4 14]) .ret) (.seq (.ops [.bin 16 .eql 8 (kI 3),.asg 15 16]) (.cond 15 (.seq (.ops [.mv 17 0,.call (some 18) 51 [17,(kI 2)],.call (some 19) 145 [18],.st 3 4 19]) .ret) .skip)))))) (.seq (.ops [.mv 20 0,.call (some 21) 43 [20],.call (some 22) 146 [21],.st 3 4 22]) .ret))))
theorem cKm:aY Tryz.prog 128=some (bNt,[.ld 0 3 true 4],23):=by kernel_rfl
def cOh (r:bH×aB):Exit→St→Prop:=aV [.ld 0 3 true 4] fun x b=>x=(fun (y:bH×aB)=>(lM y.1)) r∧bR ((fun (y:bH×aB)=>[(1000000,aU y.2)]) r) b
def bSb:AC:=(.seq (.ops [.asg 2 (kI 0)]) (.seq (.seq (.ops [.mv 3 0,.call (some 4) 14 [3,(kI 3)]]) (.block 0 (.seq (.ops [.bin 6 .eql 4 (kI 0),.asg 5 6]) (.cond 5 (.seq (.ops [.mv 7 0,.bsl 8 3 1 [(kI 0),(kI 1),(kI (-1)),(kI 63),(kI 64),(kI (-64)),(kI (-65)),(kI 127),(kI 128),(kI 16383),(kI 16384),(kI 9223372036854775807),(kI (-9223372036854775808)),(kI 4611686018427387904)],.call (some 9) 85 [7,8],.asg 2 9]) .ret) (.seq (.ops [.bin 11 .eql 4 (kI 1),.asg 10 11]) (.cond 10 (.seq (.ops [.mv 12 0,.call (some 13) 14 [12,(kI 1000000)],.bin 14 .sub 13 (kI 500000),.asg 2 14]) .ret) .skip)))))) (.seq (.ops [.mv 15 0,.call (some 16) 14 [15,(kI 20)],.asg 2 16]) .ret)))
theorem cB7:aY Tryz.prog 43=some (bSb,[.mv 0 2],17):=by kernel_rfl
def cQt (r:Int×aB):Exit→St→Prop:=aV [.mv 0 2] fun x b=>x=(fun (y:Int×aB)=>(vI y.1)) r∧bR ((fun (y:Int×aB)=>[(1000000,aU y.2)]) r) b
def cLy:AC:=(.seq (.ops [.alc 2 [aQ,aQ,dC]]) (.seq (.seq (.ops [.mv 3 0]) (.cond 3 (.seq (.ops [.bld 4 [aQ,aQ,dC] [(0,1,(kI 3)),(1,1,(kI 1))],.st 3 2 4]) .ret) .skip)) (.seq (.ops [.bld 5 [aQ,aQ,dC] [(0,1,(kI 3))],.st 3 2 5]) .ret)))
theorem cKg:aY Tryz.prog 145=some (cLy,[.ld 0 3 true 2],6):=by kernel_rfl
def cMr (r:bH):Exit→St→Prop:=aV [.ld 0 3 true 2] fun x _=>x=(fun y=>(lM y)) r
def bSh:AC:=(.seq (.ops [.alc 2 [aQ,aQ,dC]]) (.seq (.ops [.mv 3 0,.bld 4 [aQ,aQ,dC] [(0,1,(kI 2)),(2,1,3)],.st 3 2 4]) .ret))
theorem bMk:aY Tryz.prog 144=some (bSh,[.ld 0 3 true 2],5):=by kernel_rfl
def cNu (r:bH):Exit→St→Prop:=aV [.ld 0 3 true 2] fun x _=>x=(fun y=>(lM y)) r
def cE2:AC:=(.seq (.ops [.alc 2 [aQ,aQ,dC]]) (.seq (.ops [.mv 3 0,.bld 4 [aQ,aQ,dC] [(0,1,(kI 1)),(1,1,3)],.st 3 2 4]) .ret))
theorem bXq:aY Tryz.prog 146=some (cE2,[.ld 0 3 true 2],5):=by kernel_rfl
def cOd (r:bH):Exit→St→Prop:=aV [.ld 0 3 true 2] fun x _=>x=(fun y=>(lM y)) r
def aS6:AC:=(.loop (.seq (.seq (.ops [.mv 16 14,.mv 17 5,.bin 18 .lss 16 17]) (.cond 18 .skip (.exit 0))) (.seq (.block 1 (.ops [.mv 21 13,.mv 22 0,.ld 23 1 true 7,.mv 24 2,.mv 25 3,.mv 26 4,.bin 27 .sub 26 (kI 1),.call (some 28) 50 [22,23,24,25,27],.bsl 29 74 10 [28],.app 30 74 10 120 21 29,.asg 13 30])) (.ops [.mv 19 14,.bin 20 .add 19 (kI 1),.asg 14 20]))))
def aYp:AC:=(.seq (.ops [.mv 31 13,.asg 12 31]) .ret)
def cHv:AC:=(.seq (.ops [.box 7 37 1,.asg 12 (.c (.nil 10))]) (.seq (.ops [.bsl 15 74 10 [],.asg 13 15]) (.seq (.seq (.ops [.asg 14 (kI 0)]) (.block 0 aS6)) aYp)))
theorem cIl:aY Tryz.prog 96=some (cHv,[.mv 0 12],32):=by kernel_rfl
def bC3 (r:(List aA)×aB):Exit→St→Prop:=aV [.mv 0 12] fun x b=>x=(fun (y:(List aA)×aB)=>(.tre 10000000)) r∧bR ((fun (y:(List aA)×aB)=>[(10000000,[(.trc 10 (y.1.map aJ))]),(1000000,aU y.2)]) r) b
def bWf (r:(List aA)×aB):Exit→St→Prop:=(bD (wkK (avc Tryz.prog aYp (bC3 r))) (bC3 r))
def bMm (r:(List aA)×aB):Exit→St→Prop:=(bG 0 (bWf r))
def bRh (p2:List (List Int)) (p3:Int) (p4:Int) (p5:Int) (p1:aP) (x14:Int) (iE:(List Int)×Int×Int×(List aA)):St:=⟨[(0,(.ptr 1000000 0)),(2,(.d (.sl 1 (p2.map (cSl 1 cI))))),(3,(vI p3)),(4,(vI p4)),(5,(vI p5)),(7,(.ptr 7 0)),(13,(.tre 60013000)),(14,(vI x14))],[(7,dD p1),(1000000,aU (aB.mk iE.1 iE.2.1 iE.2.2.1)),(60013000,[(.trc 10 (iE.2.2.2.map aJ))])]⟩
abbrev aH9:=fun p2 p3 p4 p5 p1 x14 iE r=>avc Tryz.prog aS6 (bMm r) (bRh p2 p3 p4 p5 p1 x14 iE)
def aUa:AC:=(.cond 18 (.seq (.dops [[],[0],[1],[],[],[],[],[3,4,5,6,1],[2,7],[8,7,0,1,2,3,4,5,6,7,8]] [.mv 21 0,.call (some 22) 14 [21,(kI 2)],.bin 23 .add (kI 1) 22,.mv 24 0,.ld 25 1 true 5,.mv 26 2,.mv 27 3,.call (some 28) 96 [24,25,26,(kI 3),27,(kI 2)],.bld 29 [aQ,aQ,bU,aQ,aQ,dC,aQ,aQ,(.nil 10),(.nil 8)] [(0,1,(kI 4)),(1,1,23),(8,1,28)],.st 10 8 29]) .ret) (.seq (.ops [.bin 31 .eql 17 (kI 2),.asg 30 31]) (.cond 30 (.seq (.ops [.mv 32 0,.ld 33 1 true 5,.mv 34 2,.mv 35 3,.call (some 36) 96 [32,33,34,(kI 3),35,(kI 1)],.bld 37 [aQ,aQ,bU,aQ,aQ,dC,aQ,aQ,(.nil 10),(.nil 8)] [(0,1,(kI 3)),(1,1,(kI 15)),(8,1,36)],.st 10 8 37]) .ret) (.seq (.ops [.bin 39 .eql 17 (kI 3),.asg 38 39]) (.cond 38 (.seq (.ops [.mv 40 10,.mv 41 0,.ld 42 1 true 5,.mv 43 2,.mv 44 9,.mv 45 3,.call (some 46) 96 [41,42,43,44,45,(kI 1)],.bld 47 [aQ,aQ,bU,aQ,aQ,dC,aQ,aQ,(.nil 10),(.nil 8)] [(0,1,(kI 5)),(2,1,40),(8,1,46)],.st 10 8 47]) .ret) (.seq (.ops [.bin 49 .eql 17 (kI 4),.asg 48 49]) (.cond 48 (.seq (.ops [.mv 50 10,.mv 51 0,.ld 52 1 true 5,.mv 53 2,.mv 54 9,.mv 55 3,.call (some 56) 96 [51,52,53,54,55,(kI 3)],.bld 57 [aQ,aQ,bU,aQ,aQ,dC,aQ,aQ,(.nil 10),(.nil 8)] [(0,1,(kI 6)),(2,1,50),(8,1,56)],.st 10 8 57]) .ret) (.seq (.ops [.bin 59 .eql 17 (kI 5),.asg 58 59]) (.cond 58 (.seq (.dops [[],[],[],[],[],[],[],[6],[7],[1,2,3,4,5,8,7],[0,9],[10,9,0,1,2,3,4,5,6,7,8,9,10]] [.mv 60 10,.mv 61 0,.ld 62 1 true 5,.mv 63 2,.mv 64 9,.mv 65 3,.mv 66 0,.call (some 67) 14 [66,(kI 3)],.bin 68 .add (kI 2) 67,.call (some 69) 96 [61,62,63,64,65,68],.bld 70 [aQ,aQ,bU,aQ,aQ,dC,aQ,aQ,(.nil 10),(.nil 8)] [(0,1,(kI 7)),(2,1,60),(8,1,69)],.st 10 8 70]) .ret) (.seq (.ops [.bin 72 .eql 17 (kI 6),.asg 71 72]) (.cond 71 (.seq (.ops [.mv 73 3,.bin 74 .gtr 73 (kI 1)]) (.cond 74 (.seq (.dops [[],[],[],[],[],[],[1,2,3,4,5],[],[],[],[],[10],[],[12],[7,8,9,11,13,6],[14],[0,6,15],[16,14,0,1,2,3,4,5,6,7,8,9,10,11,12,13,14,15,16]] [.mv 75 10,.mv 76 0,.ld 77 1 true 5,.mv 78 2,.mv 79 9,.mv 80 3,.call (some 81) 96 [76,77,78,79,80,(kI 1)],.mv 82 0,.ld 83 1 true 5,.mv 84 2,.mv 85 9,.bsl 86 3 1 [85],.mv 87 3,.bin 88 .sub 87 (kI 2),.call (some 89) 93 [82,83,84,86,88],.bsl 90 30 8 [89],.bld 91 [aQ,aQ,bU,aQ,aQ,dC,aQ,aQ,(.nil 10),(.nil 8)] [(0,1,(kI 8)),(2,1,75),(8,1,81),(9,1,90)],.st 10 8 91]) .ret) .skip)) (.seq (.ops [.bin 93 .eql 17 (kI 7),.asg 92 93]) (.cond 92 (.seq (.ops [.mv 94 3,.bin 95 .gtr 94 (kI 1)]) (.cond 95 (.seq (.ops [.mv 96 0,.ld 97 1 true 5,.mv 98 2,.mv 99 9,.bsl 100 3 1 [99],.mv 101 3,.bin 102 .sub 101 (kI 2),.call (some 103) 93 [96,97,98,100,102],.bsl 104 30 8 [103],.bld 105 [aQ,aQ,bU,aQ,aQ,dC,aQ,aQ,(.nil 10),(.nil 8)] [(0,1,(kI 9)),(9,1,104)],.st 10 8 105]) .ret) .skip)) .skip)))))))))))))
def aLu:AC:=(.seq (.dops [[],[0],[1],[],[],[],[],[],[3,4,5,6,7,1],[2,8],[9,8,0,1,2,3,4,5,6,7,8,9]] [.mv 106 0,.call (some 107) 14 [106,(kI 6)],.bin 108 .add (kI 3) 107,.mv 109 0,.ld 110 1 true 5,.mv 111 2,.mv 112 9,.mv 113 3,.call (some 114) 96 [109,110,111,112,113,(kI 2)],.bld 115 [aQ,aQ,bU,aQ,aQ,dC,aQ,aQ,(.nil 10),(.nil 8)] [(0,1,(kI 4)),(1,1,108),(8,1,114)],.st 10 8 115]) .ret)
def bKh:AC:=(.seq (.ops [.box 5 37 1,.alc 8 oO]) (.seq (.ops [.mv 11 0,.call (some 12) 14 [11,(kI 3)],.bin 13 .add (kI 1) 12,.asg 9 13]) (.seq (.ops [.mv 14 0,.call (some 15) 51 [14,(kI 3)],.asg 10 15]) (.seq (.seq (.ops [.mv 16 0,.call (some 17) 14 [16,(kI 10)]]) (.block 0 (.seq (.seq (.ops [.bin 19 .eql 17 (kI 0),.asg 18 19]) (.cond 18 .skip (.ops [.bin 20 .eql 17 (kI 1),.asg 18 20]))) aUa))) aLu))))
theorem bK3:aY Tryz.prog 97=some (bKh,[.ld 0 10 true 8],116):=by kernel_rfl
def aPc (r:aA×aB):Exit→St→Prop:=aV [.ld 0 10 true 8] fun x b=>x=(fun (y:aA×aB)=>(.agv [(vI y.1.kind),(vI y.1.op),(vB y.1.not_),(vI y.1.value.kind),(vI y.1.value.num),(vS y.1.value.text),(vI y.1.up),(vI y.1.at_),(.tre 10000008),(.tre 10000009)])) r∧bR ((fun (y:aA×aB)=>[(10000008,[(.trc 10 (y.1.kids.map aJ))]),(10000009,[(.trc 8 (y.1.sub.map dV))]),(1000000,aU y.2)]) r) b
def bVk (r:aA×aB):Exit→St→Prop:=(bD (wkK (avc Tryz.prog aLu (aPc r))) (aPc r))
def bXk (r:aA×aB):Exit→St→Prop:=(bG 0 (bVk r))
def bIv (p2:List (List Int)) (p3:Int) (y1:Int×aB) (y2:Bool×aB) (y3:Int×aB) (p1:aP) (x18:Bool):St:=⟨[(0,(.ptr 1000000 0)),(2,(.d (.sl 1 (p2.map (cSl 1 cI))))),(3,(vI p3)),(5,(.ptr 5 0)),(8,(.ptr 8 0)),(9,(vI (IntKind.wrap .i64 (1+y1.1)))),(10,(vB y2.1)),(17,(vI y3.1)),(18,(vB x18))],[(5,dD p1),(8,[(vI 0),(vI 0),(vB false),(vI 0),(vI 0),(vS []),(vI 0),(vI 0),(.nil 10),(.nil 8)]),(1000000,aU y3.2)]⟩
abbrev aGh:=fun p2 p3 y1 y2 y3 p1 x18 r=>avc Tryz.prog aUa (bXk r) (bIv p2 p3 y1 y2 y3 p1 x18)
def bXl (p2:List (List Int)) (p3:Int) (y1:Int×aB) (p1:aP) (y3:Int×aB):St:=⟨[(0,(.ptr 1000000 0)),(2,(.d (.sl 1 (p2.map (cSl 1 cI))))),(3,(vI p3)),(5,(.ptr 5 0)),(8,(.ptr 8 0)),(9,(vI (IntKind.wrap .i64 (1+y1.1))))],[(5,dD p1),(8,[(vI 0),(vI 0),(vB false),(vI 0),(vI 0),(vS []),(vI 0),(vI 0),(.nil 10),(.nil 8)]),(1000000,aU y3.2)]⟩
abbrev aM6:=fun p2 p3 y1 p1 y3 r=>avc Tryz.prog aLu (aPc r) (bXl p2 p3 y1 p1 y3)
def aQj:AC:=(.loop (.seq (.seq (.ops [.mv 59 5,.fa 60 10 2,.ld 61 1 false 60,.len 62 61,.bin 63 .lss 59 62]) (.cond 63 .skip (.exit 0))) (.seq (.block 1 (.seq (.dops [[],[0],[],[1,2],[3],[],[5],[],[6,7],[8],[4,9],[10]] [.fa 66 10 2,.ld 67 1 false 66,.mv 68 5,.ia 69 1 67 68,.ld 70 1 false 69,.fa 71 10 3,.ld 72 1 false 71,.mv 73 5,.ia 74 1 72 73,.ld 75 1 false 74,.call (some 76) 41 [70,75],.not 77 76]) (.cond 77 (.seq (.ops [.asg 4 (kB false)]) .ret) .skip))) (.ops [.mv 64 5,.bin 65 .add 64 (kI 1),.asg 5 65]))))
def aX7:AC:=(.seq (.ops [.asg 4 (kB true)]) .ret)
def bLv:AC:=(.seq (.ops [.box 2 32 0,.box 3 32 1,.asg 4 (kB false)]) (.seq (.seq (.ops [.fa 6 0 2,.ld 7 1 false 6,.fa 8 0 3,.ld 9 1 false 8,.bin 10 .neq 7 9,.mv 11 10,.g 11 false (.fa 12 9 2),.g 11 false (.ld 13 1 false 12),.g 11 false (.fa 14 9 3),.g 11 false (.ld 15 1 false 14),.g 11 false (.bin 16 .neq 13 15),.pick 17 11 (kB true) 16,.mv 18 17,.g 18 false (.fa 19 1 2),.g 18 false (.ld 20 8 true 19),.g 18 false (.fa 21 1 3),.g 18 false (.ld 22 8 true 21),.g 18 false (.call (some 23) 30 [20,22]),.g 18 false (.not 24 23),.pick 25 18 (kB true) 24,.mv 26 25,.g 26 false (.fa 27 10 2),.g 26 false (.ld 28 1 false 27),.g 26 false (.len 29 28),.g 26 false (.fa 30 10 3),.g 26 false (.ld 31 1 false 30),.g 26 false (.len 32 31),.g 26 false (.bin 33 .neq 29 32),.pick 34 26 (kB true) 33,.mv 35 34,.g 35 false (.fa 36 11 2),.g 35 false (.ld 37 1 false 36),.g 35 false (.fa 38 11 3),.g 35 false (.ld 39 1 false 38),.g 35 false (.call (some 40) 40 [37,39]),.g 35 false (.not 41 40),.pick 42 35 (kB true) 41,.mv 43 42,.g 43 false (.fa 44 12 2),.g 43 false (.ld 45 1 false 44),.g 43 false (.fa 46 12 3),.g 43 false (.ld 47 1 false 46),.g 43 false (.call (some 48) 41 [45,47]),.g 43 false (.not 49 48),.pick 50 43 (kB true) 49,.mv 51 50,.g 51 false (.fa 52 13 2),.g 51 false (.ld 53 1 false 52),.g 51 false (.fa 54 13 3),.g 51 false (.ld 55 1 false 54),.g 51 false (.call (some 56) 41 [53,55]),.g 51 false (.not 57 56),.pick 58 51 (kB true) 57]) (.cond 58 (.seq (.ops [.asg 4 (kB false)]) .ret) .skip)) (.seq (.seq (.ops [.asg 5 (kI 0)]) (.block 0 aQj)) aX7)))
theorem cHh:aY Tryz.prog 10=some (bLv,[.mv 0 4],78):=by kernel_rfl
def aXa (r:Bool):Exit→St→Prop:=aV [.mv 0 4] fun x _=>x=(fun y=>(vB y)) r
def cDw (r:Bool):Exit→St→Prop:=(bD (wkK (avc Tryz.prog aX7 (aXa r))) (aXa r))
def cBy (r:Bool):Exit→St→Prop:=(bG 0 (cDw r))
def bUk (p0:bC) (p1:bC) (x5:Int):St:=⟨[(2,(.ptr 2 0)),(3,(.ptr 3 0)),(5,(vI x5))],[(2,qQ p0),(3,qQ p1)]⟩
abbrev aMt:=fun p0 p1 x5 r=>avc Tryz.prog aQj (cBy r) (bUk p0 p1 x5)
def bM8:AC:=(.seq (.ops [.box 2 37 0,.box 3 32 1,.asg 4 (kB false)]) (.seq (.seq (.ops [.fa 6 0 3,.ld 7 1 false 6,.bin 8 .eql 7 (kI 1)]) (.cond 8 (.seq (.ops [.fa 9 9 3,.ld 10 1 false 9,.bin 11 .eql 10 (kI 0),.mv 12 11,.g 12 true (.fa 13 10 3),.g 12 true (.ld 14 1 false 13),.g 12 true (.len 15 14),.g 12 true (.bin 16 .eql 15 (kI 0)),.pick 17 12 16 (kB false),.mv 18 17,.g 18 true (.fa 19 11 3),.g 18 true (.ld 20 1 false 19),.g 18 true (.len 21 20),.g 18 true (.bin 22 .eql 21 (kI 0)),.pick 23 18 22 (kB false),.mv 24 23,.g 24 true (.fa 25 12 3),.g 24 true (.ld 26 1 false 25),.g 24 true (.len 27 26),.g 24 true (.bin 28 .eql 27 (kI 0)),.pick 29 24 28 (kB false),.mv 30 29,.g 30 true (.fa 31 13 3),.g 30 true (.ld 32 1 false 31),.g 30 true (.len 33 32),.g 30 true (.bin 34 .eql 33 (kI 0)),.pick 35 30 34 (kB false),.mv 36 35,.g 36 true (.ld 37 1 true 2),.g 36 true (.fa 38 1 3),.g 36 true (.ld 39 8 true 38),.g 36 true (.call (some 40) 16 [37,39]),.pick 41 36 40 (kB false),.asg 4 41]) .ret) .skip)) (.seq (.seq (.dops [[],[0],[1],[2,1],[3],[4,3],[5,3],[3,6],[7,3],[8],[9,8],[8],[11,8],[12,8],[10,13,8],[8,14],[15,8],[16],[17,16],[18,16,16],[19,16],[16,20],[21,19],[22],[23,22,22],[24,24,22],[22],[26,25,22],[27,27,22],[25,28,28,22],[29,22],[22,30]] [.ld 42 1 true 2,.call (some 43) 17 [42],.not 44 43,.mv 45 44,.g 45 false (.fa 46 9 3),.g 45 false (.ld 47 1 false 46),.g 45 false (.bin 48 .lss 47 (kI 0)),.pick 49 45 (kB true) 48,.mv 50 49,.g 50 false (.fa 51 9 3),.g 50 false (.ld 52 1 false 51),.g 50 false (.fa 53 0 2),.g 50 false (.ld 54 1 false 53),.g 50 false (.len 55 54),.g 50 false (.bin 56 .geq 52 55),.pick 57 50 (kB true) 56,.mv 58 57,.g 58 false (.fa 59 1 3),.g 58 false (.ld 60 8 true 59),.g 58 false (.call (some 61) 18 [60]),.g 58 false (.not 62 61),.pick 63 58 (kB true) 62,.mv 64 63,.g 64 false (.ld 65 14 true 3),.g 64 false (.call (some 66) 21 [65]),.g 64 false (.call (some 67) 20 [66]),.g 64 false (.ld 68 14 true 3),.g 64 false (.call (some 69) 21 [68]),.g 64 false (.call (some 70) 22 [69]),.g 64 false (.call (some 71) 19 [67,70]),.g 64 false (.not 72 71),.pick 73 64 (kB true) 72]) (.cond 73 (.seq (.ops [.asg 4 (kB false)]) .ret) .skip)) (.seq (.ops [.fa 74 0 2,.ld 75 1 false 74,.fa 76 9 3,.ld 77 1 false 76,.ia 78 2 75 77,.ld 79 2 true 78,.call (some 80) 23 [79],.asg 5 80]) (.seq (.seq (.ops [.fa 81 0 3,.ld 82 1 false 81,.bin 83 .eql 82 (kI 2)]) (.cond 83 (.seq (.ops [.fa 84 11 3,.ld 85 1 false 84,.len 86 85,.bin 87 .eql 86 (kI 0),.mv 88 87,.g 88 true (.fa 89 12 3),.g 88 true (.ld 90 1 false 89),.g 88 true (.len 91 90),.g 88 true (.bin 92 .eql 91 (kI 0)),.pick 93 88 92 (kB false),.mv 94 93,.g 94 true (.fa 95 13 3),.g 94 true (.ld 96 1 false 95),.g 94 true (.len 97 96),.g 94 true (.bin 98 .eql 97 (kI 0)),.pick 99 94 98 (kB false),.mv 100 99,.g 100 true (.ld 101 1 true 2),.g 100 true (.mv 102 5),.g 100 true (.fa 103 10 3),.g 100 true (.ld 104 1 false 103),.g 100 true (.call (some 105) 24 [101,102,104]),.pick 106 100 105 (kB false),.asg 4 106]) .ret) .skip)) (.seq (.seq (.ops [.fa 107 10 3,.ld 108 1 false 107,.len 109 108,.bin 110 .gtr 109 (kI 0),.mv 111 110,.g 111 false (.fa 112 13 3),.g 111 false (.ld 113 1 false 112),.g 111 false (.len 114 113),.g 111 false (.bin 115 .gtr 114 (kI 1)),.pick 116 111 (kB true) 115,.mv 117 116,.g 117 false (.ld 118 1 true 2),.g 117 false (.mv 119 5),.g 117 false (.bsl 120 24 1 [119]),.g 117 false (.fa 121 13 3),.g 117 false (.ld 122 1 false 121),.g 117 false (.call (some 123) 25 [118,120,122]),.g 117 false (.not 124 123),.pick 125 117 (kB true) 124]) (.cond 125 (.seq (.ops [.asg 4 (kB false)]) .ret) .skip)) (.seq (.seq (.ops [.fa 126 0 3,.ld 127 1 false 126]) (.block 0 (.seq (.ops [.bin 129 .eql 127 (kI 3),.asg 128 129]) (.cond 128 (.seq (.ops [.ld 130 1 true 2,.mv 131 5,.ld 132 14 true 3,.call (some 133) 26 [130,131,132],.asg 4 133]) .ret) (.seq (.ops [.bin 135 .eql 127 (kI 4),.asg 134 135]) (.cond 134 (.seq (.ops [.fa 136 11 3,.ld 137 1 false 136,.len 138 137,.bin 139 .eql 138 (kI 0),.mv 140 139,.g 140 true (.fa 141 12 3),.g 140 true (.ld 142 1 false 141),.g 140 true (.len 143 142),.g 140 true (.bin 144 .eql 143 (kI 0)),.pick 145 140 144 (kB false),.asg 4 145]) .ret) .skip)))))) (.seq (.ops [.asg 4 (kB false)]) .ret))))))))
theorem bLg:aY Tryz.prog 7=some (bM8,[.mv 0 4],146):=by kernel_rfl
def cOf (r:Bool):Exit→St→Prop:=aV [.mv 0 4] fun x _=>x=(fun y=>(vB y)) r
def aNn:AC:=(.loop (.seq (.ops [.bin 32 .lss 31 30]) (.seq (.cond 32 .skip (.exit 0)) (.seq (.block 1 (.seq (.ops [.mv 33 31,.ia 34 1 29 31,.ld 35 1 false 34,.asg 7 33,.asg 8 35]) (.seq (.dops [[],[0],[1],[2],[2],[4,2],[3,5,2],[2,6],[7,2],[8],[9,8],[8],[10,11,8],[8],[12,13,8,8],[8,14],[15,14],[16],[16],[18,16],[16],[20,16],[16],[21,22,16],[23,16],[16],[16],[25,26,16],[27,16],[17,19,24,28,16,16],[29,16],[16,30]] [.mv 36 8,.bin 37 .lss 36 (kI 0),.mv 38 37,.g 38 false (.mv 39 8),.g 38 false (.mv 40 1),.g 38 false (.len 41 40),.g 38 false (.bin 42 .geq 39 41),.pick 43 38 (kB true) 42,.mv 44 43,.g 44 false (.fa 45 11 5),.g 44 false (.ld 46 1 false 45),.g 44 false (.mv 47 7),.g 44 false (.slc 48 1 46 none (some 47) none),.g 44 false (.mv 49 8),.g 44 false (.call (some 50) 64 [48,49]),.pick 51 44 (kB true) 50,.mv 52 51,.g 52 false (.ld 53 1 true 3),.g 52 false (.mv 54 1),.g 52 false (.bsl 55 24 1 [54]),.g 52 false (.fa 56 12 5),.g 52 false (.ld 57 1 false 56),.g 52 false (.mv 58 7),.g 52 false (.ia 59 10 57 58),.g 52 false (.ld 60 10 true 59),.g 52 false (.mv 61 1),.g 52 false (.mv 62 8),.g 52 false (.ia 63 1 61 62),.g 52 false (.ld 64 1 false 63),.g 52 false (.call (some 65) 59 [53,55,60,64]),.g 52 false (.not 66 65),.pick 67 52 (kB true) 66]) (.cond 67 (.seq (.ops [.asg 6 (kB false)]) .ret) .skip)))) (.ops [.bin 68 .add 31 (kI 1),.mv 31 68])))))
def bEl:AC:=(.seq (.ops [.asg 6 (kB true)]) .ret)
def bNr:AC:=(.seq (.ops [.box 3 37 0,.box 5 32 2,.asg 6 (kB false)]) (.seq (.seq (.ops [.fa 9 11 5,.ld 10 1 false 9,.len 11 10,.bin 12 .lss 11 (kI 1),.mv 13 12,.g 13 false (.fa 14 11 5),.g 13 false (.ld 15 1 false 14),.g 13 false (.len 16 15),.g 13 false (.bin 17 .gtr 16 (kI 12)),.pick 18 13 (kB true) 17,.mv 19 18,.g 19 false (.fa 20 12 5),.g 19 false (.ld 21 1 false 20),.g 19 false (.len 22 21),.g 19 false (.fa 23 11 5),.g 19 false (.ld 24 1 false 23),.g 19 false (.len 25 24),.g 19 false (.bin 26 .neq 22 25),.pick 27 19 (kB true) 26]) (.cond 27 (.seq (.ops [.asg 6 (kB false)]) .ret) .skip)) (.seq (.seq (.ops [.fa 28 11 5,.ld 29 1 false 28,.len 30 29,.mv 31 (kI 0)]) (.block 0 aNn)) bEl)))
theorem bV1:aY Tryz.prog 26=some (bNr,[.mv 0 6],69):=by kernel_rfl
def bHl (r:Bool):Exit→St→Prop:=aV [.mv 0 6] fun x _=>x=(fun y=>(vB y)) r
def bXx (r:Bool):Exit→St→Prop:=(bD (wkK (avc Tryz.prog bEl (bHl r))) (bHl r))
def cF3 (r:Bool):Exit→St→Prop:=(bG 0 (bXx r))
def bUu (p1:List Int) (p2:bC) (p0:aP) (x31:Int):St:=⟨[(1,(eP p1)),(3,(.ptr 3 0)),(5,(.ptr 5 0)),(29,(eP p2.cols)),(30,(vI (p2.cols.length:Int))),(31,(vI x31))],[(3,dD p0),(5,qQ p2)]⟩
abbrev aH5:=fun p1 p2 p0 x31 r=>avc Tryz.prog aNn (cF3 r) (bUu p1 p2 p0 x31)
def bO0:AC:=(.seq (.ops [.box 4 37 0,.box 6 74 2,.asg 8 (kB false)]) (.seq (.ops [.ld 12 1 true 4,.mv 13 1,.ld 14 10 true 6,.call (some 15) 62 [12,13,14],.mv 11 15,.ext 16 11 0,.ext 17 11 1,.asg 9 16,.asg 10 17]) (.seq (.seq (.ops [.mv 18 10,.not 19 18]) (.cond 19 (.seq (.ops [.asg 8 (kB false)]) .ret) .skip)) (.seq (.ops [.mv 21 9,.mv 22 3,.call (some 23) 106 [21,22],.mv 20 23,.ext 24 20 0,.ext 25 20 1,.asg 10 25]) (.seq (.ops [.mv 26 10,.asg 8 26]) .ret)))))
theorem cA5:aY Tryz.prog 59=some (bO0,[.mv 0 8],27):=by kernel_rfl
def cP4 (r:Bool):Exit→St→Prop:=aV [.mv 0 8] fun x _=>x=(fun y=>(vB y)) r
def cLt:AC:=(.seq (.ops [.asg 4 (kI 0),.asg 5 (kB false)]) (.seq (.block 0 (.seq (.ops [.mv 7 0,.call (some 8) 135 [7],.not 9 8,.mv 10 9,.g 10 false (.mv 11 1),.g 10 false (.call (some 12) 135 [11]),.g 10 false (.not 13 12),.pick 14 10 (kB true) 13,.asg 6 14]) (.cond 6 (.seq (.ops [.asg 4 (kI 0),.asg 5 (kB false)]) .ret) (.seq (.ops [.mv 16 0,.bin 17 .eql 16 (kI 0),.asg 15 17]) (.cond 15 (.seq (.ops [.mv 18 1,.asg 4 18,.asg 5 (kB true)]) .ret) (.seq (.ops [.mv 20 1,.bin 21 .eql 20 (kI 0),.mv 22 21,.g 22 false (.mv 23 0),.g 22 false (.mv 24 1),.g 22 false (.bin 25 .eql 23 24),.pick 26 22 (kB true) 25,.asg 19 26]) (.cond 19 (.seq (.ops [.mv 27 0,.asg 4 27,.asg 5 (kB true)]) .ret) .skip))))))) (.seq (.ops [.asg 4 (kI 0),.asg 5 (kB false)]) .ret)))
theorem bVy:aY Tryz.prog 106=some (cLt,[.mv 0 4,.mv 0 5],28):=by kernel_rfl
def cM6 (r:Int×Bool):Exit→St→Prop:=aV [.mv 0 4,.mv 0 5] fun x _=>x=(fun y=>(.tup [(vI y.1),(vB y.2)])) r
def bUs:AC:=(.seq (.ops [.asg 2 (kB false)]) (.seq (.ops [.mv 3 0,.bin 4 .geq 3 (kI 0),.mv 5 4,.g 5 true (.mv 6 0),.g 5 true (.bin 7 .leq 6 (kI 3)),.pick 8 5 7 (kB false),.asg 2 8]) .ret))
theorem cH5:aY Tryz.prog 135=some (bUs,[.mv 0 2],9):=by kernel_rfl
def cNr (r:Bool):Exit→St→Prop:=aV [.mv 0 2] fun x _=>x=(fun y=>(vB y)) r
def aVu:AC:=(.loop (.seq (.ops [.bin 65 .lss 64 63]) (.seq (.cond 65 .skip (.exit 0)) (.seq (.block 1 (.seq (.ops [.ia 66 10 62 64,.ld 67 10 true 66,.alc 11 oO,.st 10 11 67]) (.seq (.ops [.ld 69 1 true 3,.mv 70 1,.ld 71 10 true 11,.call (some 72) 62 [69,70,71],.mv 68 72,.ext 73 68 0,.ext 74 68 1,.asg 12 73,.asg 13 74]) (.seq (.seq (.ops [.mv 75 13,.not 76 75]) (.cond 76 (.seq (.ops [.asg 6 (kI 0),.asg 7 (kB false)]) .ret) .skip)) (.ops [.mv 77 8,.mv 78 12,.bsl 79 3 1 [78],.app 80 3 1 8 77 79,.asg 8 80]))))) (.ops [.bin 81 .add 64 (kI 1),.mv 64 81])))))
def aWj:AC:=(.loop (.seq (.ops [.bin 86 .lss 85 84]) (.seq (.cond 86 .skip (.exit 2)) (.seq (.block 3 (.seq (.ops [.ia 87 8 83 85,.ld 88 8 true 87,.alc 15 pV,.st 8 15 88]) (.seq (.ops [.ld 90 1 true 3,.mv 91 1,.ld 92 8 true 15,.call (some 93) 54 [90,91,92],.mv 89 93,.ext 94 89 0,.ext 95 89 1,.asg 16 94,.asg 17 95]) (.seq (.seq (.ops [.mv 96 17,.not 97 96,.mv 98 97,.g 98 false (.fa 99 0 5),.g 98 false (.ld 100 1 false 99),.g 98 false (.bin 101 .eql 100 (kI 8)),.g 98 false (.mv 102 101),.g 102 true (.mv 103 16),.g 102 true (.len 104 103),.g 102 true (.bin 105 .neq 104 (kI 1)),.g 98 false (.pick 106 102 105 (kB false)),.pick 107 98 (kB true) 106]) (.cond 107 (.seq (.ops [.asg 6 (kI 0),.asg 7 (kB false)]) .ret) .skip)) (.ops [.mv 108 16,.asg 9 108]))))) (.ops [.bin 109 .add 85 (kI 1),.mv 85 109])))))
def aX3:AC:=(.seq (.ops [.ld 110 10 true 5,.mv 111 8,.mv 112 9,.call (some 113) 109 [110,111,112],.ext 114 113 0,.ext 115 113 1,.asg 6 114,.asg 7 115]) .ret)
def bCu:AC:=(.seq (.seq (.ops [.fa 82 9 5,.ld 83 1 false 82,.len 84 83,.mv 85 (kI 0)]) (.block 2 aWj)) aX3)
def bKv:AC:=(.seq (.ops [.box 3 37 0,.box 5 74 2,.asg 6 (kI 0),.asg 7 (kB false)]) (.seq (.seq (.ops [.ld 18 10 true 5,.call (some 19) 108 [18],.not 20 19]) (.cond 20 (.seq (.ops [.asg 6 (kI 0),.asg 7 (kB false)]) .ret) .skip)) (.seq (.seq (.ops [.fa 21 0 5,.ld 22 1 false 21,.bin 23 .eql 22 (kI 2)]) (.cond 23 (.seq (.seq (.dops [[],[0],[1],[2],[3],[4,3],[3],[6,3],[5,7,3],[3,8],[9,3],[10],[11,10],[12,10],[10,13],[14,10],[15],[16,15],[15],[15],[19,15],[18,20,15],[21,15],[22,15],[17,23,15],[15,24]] [.fa 24 6 5,.ld 25 1 false 24,.bin 26 .lss 25 (kI 0),.mv 27 26,.g 27 false (.fa 28 6 5),.g 27 false (.ld 29 1 false 28),.g 27 false (.mv 30 1),.g 27 false (.len 31 30),.g 27 false (.bin 32 .geq 29 31),.pick 33 27 (kB true) 32,.mv 34 33,.g 34 false (.fa 35 7 5),.g 34 false (.ld 36 1 false 35),.g 34 false (.bin 37 .lss 36 (kI 0)),.pick 38 34 (kB true) 37,.mv 39 38,.g 39 false (.fa 40 7 5),.g 39 false (.ld 41 1 false 40),.g 39 false (.mv 42 1),.g 39 false (.fa 43 6 5),.g 39 false (.ld 44 1 false 43),.g 39 false (.ia 45 1 42 44),.g 39 false (.ld 46 1 false 45),.g 39 false (.len 47 46),.g 39 false (.bin 48 .geq 41 47),.pick 49 39 (kB true) 48]) (.cond 49 (.seq (.ops [.asg 6 (kI 0),.asg 7 (kB false)]) .ret) .skip)) (.seq (.dops [[],[],[1],[0,2],[3],[],[5],[4,6],[7],[8,0,1,2,3,4,5,6,7,8],[9,0,1,2,3,4,5,6,7,8,9]] [.mv 50 1,.fa 51 6 5,.ld 52 1 false 51,.ia 53 1 50 52,.ld 54 1 false 53,.fa 55 7 5,.ld 56 1 false 55,.ia 57 1 54 56,.ld 58 1 false 57,.asg 6 58,.asg 7 (kB true)]) .ret)) .skip)) (.seq (.ops [.bsl 59 3 1 [],.bsl 60 3 1 [],.asg 8 59,.asg 9 60]) (.seq (.seq (.ops [.fa 61 8 5,.ld 62 1 false 61,.len 63 62,.mv 64 (kI 0)]) (.block 0 aVu)) bCu)))))
theorem bSs:aY Tryz.prog 62=some (bKv,[.mv 0 6,.mv 0 7],116):=by kernel_rfl
def aG2 (r:Int×Bool):Exit→St→Prop:=aV [.mv 0 6,.mv 0 7] fun x _=>x=(fun y=>(.tup [(vI y.1),(vB y.2)])) r
def bZ2 (r:Int×Bool):Exit→St→Prop:=(bD (wkK (avc Tryz.prog bCu (aG2 r))) (aG2 r))
def bVi (r:Int×Bool):Exit→St→Prop:=(bG 0 (bZ2 r))
def cFo (r:Int×Bool):Exit→St→Prop:=(bD (wkK (avc Tryz.prog aX3 (aG2 r))) (aG2 r))
def bOt (r:Int×Bool):Exit→St→Prop:=(bG 2 (cFo r))
def bRw (p1:List (List Int)) (p2:aA) (p0:aP) (x8:List Int) (x64:Int):St:=⟨[(1,(.d (.sl 1 (p1.map (cSl 1 cI))))),(3,(.ptr 3 0)),(5,(.ptr 5 0)),(8,(.osl 8 3 1 (x8.map cI))),(9,(.osl 9 3 1 (([]:List Int).map cI))),(62,(dX p2.kids)),(63,(vI (p2.kids.length:Int))),(64,(vI x64))],[(3,dD p0),(5,qR p2)]⟩
abbrev aHe:=fun p1 p2 p0 x8 x64 r=>avc Tryz.prog aVu (bVi r) (bRw p1 p2 p0 x8 x64)
def bQx (p1:List (List Int)) (x8:List Int) (p2:aA) (p0:aP) (x9:List Int) (x85:Int):St:=⟨[(1,(.d (.sl 1 (p1.map (cSl 1 cI))))),(3,(.ptr 3 0)),(5,(.ptr 5 0)),(8,(.osl 8 3 1 (x8.map cI))),(9,(.osl 9 3 1 (x9.map cI))),(83,(rZ p2.sub)),(84,(vI (p2.sub.length:Int))),(85,(vI x85))],[(3,dD p0),(5,qR p2)]⟩
abbrev aL6:=fun p1 x8 p2 p0 x9 x85 r=>avc Tryz.prog aWj (bOt r) (bQx p1 x8 p2 p0 x9 x85)
def bLq:AC:=(.seq (.ops [.box 1 74 0,.asg 2 (kB false)]) (.seq (.ops [.fa 6 0 1,.ld 7 1 false 6,.fa 8 1 1,.ld 9 1 false 8,.fa 10 3 1,.ld 11 3 true 10,.bld 12 [aQ,aQ,bU,aQ,aQ,dC,dC,dC,(.nil 10),(.nil 6)] [(0,1,7),(1,1,9),(3,3,11),(7,1,(.c (.d (.s (bs [120])))))],.call (some 13) 136 [12],.mv 5 13,.ext 14 5 0,.ext 15 5 1,.alc 3 bFf,.st 7 3 14,.asg 4 15]) (.seq (.ops [.mv 16 4,.mv 17 16,.g 17 true (.fa 18 0 3),.g 17 true (.ld 19 1 false 18),.g 17 true (.mv 20 19),.g 20 false (.fa 21 1 1),.g 20 false (.ld 22 1 false 21),.g 20 false (.bin 23 .eql 22 (kI 0)),.g 17 true (.pick 24 20 (kB true) 23),.pick 25 17 24 (kB false),.mv 26 25,.g 26 true (.fa 27 1 3),.g 26 true (.ld 28 1 false 27),.g 26 true (.mv 29 28),.g 29 false (.fa 30 2 1),.g 29 false (.ld 31 1 false 30),.g 29 false (.not 32 31),.g 26 true (.pick 33 29 (kB true) 32),.pick 34 26 33 (kB false),.mv 35 34,.g 35 true (.fa 36 2 3),.g 35 true (.ld 37 1 false 36),.g 35 true (.mv 38 37),.g 38 false (.fa 39 3 1),.g 38 false (.ld 40 3 true 39),.g 38 false (.bld 41 [aQ,aQ,dC] []),.g 38 false (.eqv 42 false [0,0,1] 40 41),.g 35 true (.pick 43 38 (kB true) 42),.pick 44 35 43 (kB false),.mv 45 44,.g 45 true (.fa 46 3 3),.g 45 true (.ld 47 1 false 46),.g 45 true (.mv 48 47),.g 48 false (.fa 49 6 1),.g 48 false (.ld 50 1 false 49),.g 48 false (.bin 51 .eql 50 (kI 0)),.g 48 false (.mv 52 51),.g 52 true (.fa 53 7 1),.g 52 true (.ld 54 1 false 53),.g 52 true (.bin 55 .eql 54 (kI 0)),.g 48 false (.pick 56 52 55 (kB false)),.g 45 true (.pick 57 48 (kB true) 56),.pick 58 45 57 (kB false),.mv 59 58,.g 59 true (.fa 60 8 1),.g 59 true (.ld 61 1 false 60),.g 59 true (.len 62 61),.g 59 true (.fa 63 4 3),.g 59 true (.ld 64 1 false 63),.g 59 true (.bin 65 .geq 62 64),.pick 66 59 65 (kB false),.mv 67 66,.g 67 true (.fa 68 8 1),.g 67 true (.ld 69 1 false 68),.g 67 true (.len 70 69),.g 67 true (.fa 71 5 3),.g 67 true (.ld 72 1 false 71),.g 67 true (.bin 73 .leq 70 72),.pick 74 67 73 (kB false),.mv 75 74,.g 75 true (.fa 76 9 1),.g 75 true (.ld 77 1 false 76),.g 75 true (.len 78 77),.g 75 true (.fa 79 6 3),.g 75 true (.ld 80 1 false 79),.g 75 true (.bin 81 .eql 78 80),.pick 82 75 81 (kB false),.asg 2 82]) .ret)))
theorem bLa:aY Tryz.prog 108=some (bLq,[.mv 0 2],83):=by kernel_rfl
def cPa (r:Bool):Exit→St→Prop:=aV [.mv 0 2] fun x _=>x=(fun y=>(vB y)) r
def cHg:AC:=(.seq (.ops [.box 1 151 0,.alc 2 bFf,.asg 3 (kB false)]) (.seq (.seq (.ops [.fa 4 0 1,.ld 5 1 false 4]) (.block 0 (.seq (.ops [.bin 7 .eql 5 (kI 1),.asg 6 7]) (.cond 6 (.seq (.ops [.bld 8 [bU,bU,bU,bU,aQ,aQ,aQ] [(2,1,(kB true))],.fa 9 3 1,.ld 10 3 true 9,.call (some 11) 149 [10],.st 7 2 8,.asg 3 11]) .ret) (.seq (.ops [.bin 13 .eql 5 (kI 2),.asg 12 13]) (.cond 12 (.seq (.ops [.bld 14 [bU,bU,bU,bU,aQ,aQ,aQ] [(3,1,(kB true))],.fa 15 7 1,.ld 16 1 false 15,.call (some 17) 102 [16],.mv 18 17,.g 18 true (.fa 19 6 1),.g 18 true (.ld 20 1 false 19),.g 18 true (.bin 21 .eql 20 (.c (.d (.s (bs []))))),.g 18 true (.mv 22 21),.g 22 false (.fa 23 6 1),.g 22 false (.ld 24 1 false 23),.g 22 false (.call (some 25) 102 [24]),.g 18 true (.pick 26 22 (kB true) 25),.pick 27 18 26 (kB false),.st 7 2 14,.asg 3 27]) .ret) (.seq (.ops [.bin 29 .eql 5 (kI 3),.asg 28 29]) (.cond 28 (.seq (.dops [[],[],[1],[2],[3],[4],[5,4],[6,4],[4,7],[0,4,0],[8,9,0,1,2,3,4,5,6,7,8,9]] [.bld 30 [bU,bU,bU,bU,aQ,aQ,aQ] [(0,1,(kB true)),(4,1,(kI 1)),(5,1,(kI 1))],.fa 31 1 1,.ld 32 1 false 31,.bin 33 .eql 32 (kI 15),.mv 34 33,.g 34 false (.fa 35 1 1),.g 34 false (.ld 36 1 false 35),.g 34 false (.bin 37 .eql 36 (kI 16)),.pick 38 34 (kB true) 37,.st 7 2 30,.asg 3 38]) .ret) (.seq (.ops [.bin 40 .eql 5 (kI 4),.asg 39 40]) (.cond 39 (.seq (.dops [[],[],[1],[2],[3],[4],[5,4],[6,4],[4,7],[0,4,0],[8,9,0,1,2,3,4,5,6,7,8,9]] [.bld 41 [bU,bU,bU,bU,aQ,aQ,aQ] [(0,1,(kB true)),(4,1,(kI 2)),(5,1,(kI 2))],.fa 42 1 1,.ld 43 1 false 42,.bin 44 .geq 43 (kI 1),.mv 45 44,.g 45 true (.fa 46 1 1),.g 45 true (.ld 47 1 false 46),.g 45 true (.bin 48 .leq 47 (kI 14)),.pick 49 45 48 (kB false),.st 7 2 41,.asg 3 49]) .ret) (.seq (.ops [.bin 51 .eql 5 (kI 5),.asg 50 51]) (.cond 50 (.seq (.ops [.bld 52 [bU,bU,bU,bU,aQ,aQ,aQ] [(1,1,(kB true)),(4,1,(kI 1)),(5,1,(kI 1))],.st 7 2 52,.asg 3 (kB true)]) .ret) (.seq (.ops [.bin 54 .eql 5 (kI 6),.asg 53 54]) (.cond 53 (.seq (.ops [.bld 55 [bU,bU,bU,bU,aQ,aQ,aQ] [(1,1,(kB true)),(4,1,(kI 3)),(5,1,(kI 3))],.st 7 2 55,.asg 3 (kB true)]) .ret) (.seq (.ops [.bin 57 .eql 5 (kI 7),.asg 56 57]) (.cond 56 (.seq (.ops [.bld 58 [bU,bU,bU,bU,aQ,aQ,aQ] [(1,1,(kB true)),(4,1,(kI 2)),(5,1,(kI 9))],.st 7 2 58,.asg 3 (kB true)]) .ret) (.seq (.ops [.bin 60 .eql 5 (kI 8),.asg 59 60]) (.cond 59 (.seq (.ops [.bld 61 [bU,bU,bU,bU,aQ,aQ,aQ] [(1,1,(kB true)),(4,1,(kI 1)),(5,1,(kI 1)),(6,1,(kI 1))],.st 7 2 61,.asg 3 (kB true)]) .ret) (.seq (.ops [.bin 63 .eql 5 (kI 9),.asg 62 63]) (.cond 62 (.seq (.ops [.bld 64 [bU,bU,bU,bU,aQ,aQ,aQ] [(6,1,(kI 1))],.st 7 2 64,.asg 3 (kB true)]) .ret) .skip)))))))))))))))))))) (.seq (.ops [.bld 65 [bU,bU,bU,bU,aQ,aQ,aQ] [],.st 7 2 65,.asg 3 (kB false)]) .ret)))
theorem cAj:aY Tryz.prog 136=some (cHg,[.ld 0 7 true 2,.mv 0 3],66):=by kernel_rfl
def cOr (r:jO×Bool):Exit→St→Prop:=aV [.ld 0 7 true 2,.mv 0 3] fun x _=>x=(fun y=>(.tup [(aXw y.1),(vB y.2)])) r
def cIk:AC:=(.seq (.ops [.box 1 71 0,.asg 2 (kB false)]) (.seq (.ops [.ld 3 3 true 1,.call (some 4) 153 [3],.mv 5 4,.g 5 true (.fa 6 0 1),.g 5 true (.ld 7 1 false 6),.g 5 true (.bin 8 .neq 7 (kI 1)),.g 5 true (.mv 9 8),.g 9 false (.fa 10 1 1),.g 9 false (.ld 11 1 false 10),.g 9 false (.bin 12 .geq 11 (kI 0)),.g 5 true (.pick 13 9 (kB true) 12),.pick 14 5 13 (kB false),.mv 15 14,.g 15 true (.fa 16 2 1),.g 15 true (.ld 17 1 false 16),.g 15 true (.lns 18 17),.g 15 true (.bin 19 .leq 18 (kI 40)),.pick 20 15 19 (kB false),.asg 2 20]) .ret))
theorem bPi:aY Tryz.prog 149=some (cIk,[.mv 0 2],21):=by kernel_rfl
def cNx (r:Bool):Exit→St→Prop:=aV [.mv 0 2] fun x _=>x=(fun y=>(vB y)) r
def bPk:AC:=(.seq (.ops [.box 1 71 0,.asg 2 (kB false)]) (.seq (.seq (.ops [.fa 3 0 1,.ld 4 1 false 3]) (.block 0 (.seq (.ops [.bin 6 .eql 4 (kI 0),.asg 5 6]) (.cond 5 (.seq (.ops [.fa 7 1 1,.ld 8 1 false 7,.bin 9 .eql 8 (kI 0),.mv 10 9,.g 10 true (.fa 11 2 1),.g 10 true (.ld 12 1 false 11),.g 10 true (.bin 13 .eql 12 (.c (.d (.s (bs []))))),.pick 14 10 13 (kB false),.asg 2 14]) .ret) (.seq (.ops [.bin 16 .eql 4 (kI 1),.asg 15 16]) (.cond 15 (.seq (.ops [.fa 17 2 1,.ld 18 1 false 17,.bin 19 .eql 18 (.c (.d (.s (bs [])))),.asg 2 19]) .ret) (.seq (.ops [.bin 21 .eql 4 (kI 2),.asg 20 21]) (.cond 20 (.seq (.ops [.fa 22 1 1,.ld 23 1 false 22,.bin 24 .eql 23 (kI 0),.mv 25 24,.g 25 true (.fa 26 2 1),.g 25 true (.ld 27 1 false 26),.g 25 true (.lns 28 27),.g 25 true (.bin 29 .leq 28 (kI 200)),.pick 30 25 29 (kB false),.asg 2 30]) .ret) (.seq (.ops [.bin 32 .eql 4 (kI 3),.asg 31 32]) (.cond 31 (.seq (.ops [.fa 33 1 1,.ld 34 1 false 33,.bin 35 .eql 34 (kI 0),.mv 36 35,.g 36 false (.fa 37 1 1),.g 36 false (.ld 38 1 false 37),.g 36 false (.bin 39 .eql 38 (kI 1)),.pick 40 36 (kB true) 39,.mv 41 40,.g 41 true (.fa 42 2 1),.g 41 true (.ld 43 1 false 42),.g 41 true (.bin 44 .eql 43 (.c (.d (.s (bs []))))),.pick 45 41 44 (kB false),.asg 2 45]) .ret) .skip)))))))))) (.seq (.ops [.asg 2 (kB false)]) .ret)))
theorem bSk:aY Tryz.prog 153=some (bPk,[.mv 0 2],46):=by kernel_rfl
def cN5 (r:Bool):Exit→St→Prop:=aV [.mv 0 2] fun x _=>x=(fun y=>(vB y)) r
def cJn:AC:=(.seq (.ops [.asg 2 (kB false)]) (.seq (.ops [.mv 3 0,.lns 4 3,.bin 5 .geq 4 (kI 1),.mv 6 5,.g 6 true (.mv 7 0),.g 6 true (.lns 8 7),.g 6 true (.bin 9 .leq 8 (kI 20)),.pick 10 6 9 (kB false),.asg 2 10]) .ret))
theorem bSy:aY Tryz.prog 102=some (cJn,[.mv 0 2],11):=by kernel_rfl
def cQ5 (r:Bool):Exit→St→Prop:=aV [.mv 0 2] fun x _=>x=(fun y=>(vB y)) r
def aUb:AC:=(.cond 40 (.seq (.ops [.asg 6 (kI 3),.asg 7 (kB true)]) .ret) .skip)
def aXs:AC:=(.seq (.seq (.ops [.mv 44 1,.call (some 45) 140 [44],.mv 46 2,.app 47 3 1 8 45 46,.call (some 48) 139 [47],.mv 43 48,.ext 49 43 0,.ext 50 43 1,.asg 8 49,.asg 9 50]) (.seq (.ops [.mv 51 9,.not 52 51]) (.cond 52 (.seq (.ops [.asg 6 (kI 0),.asg 7 (kB false)]) .ret) .skip))) (.seq (.ops [.asg 6 (kI 3),.asg 7 (kB true)]) .ret))
def cHy:AC:=(.seq (.ops [.box 3 74 0,.asg 6 (kI 0),.asg 7 (kB false)]) (.seq (.seq (.ops [.fa 10 0 3,.ld 11 1 false 10]) (.block 0 (.seq (.ops [.bin 13 .eql 11 (kI 1),.asg 12 13]) (.cond 12 (.seq (.ops [.fa 14 3 3,.fa 15 0 14,.ld 16 1 false 15,.asg 6 16,.asg 7 (kB true)]) .ret) (.seq (.ops [.bin 18 .eql 11 (kI 3),.asg 17 18]) (.cond 17 (.seq (.dops [[],[0],[],[2],[3],[1,4],[5],[5],[6,5,0,1,2,3,4,5,6,7],[7,8,0,1,2,3,4,5,6,7,8]] [.fa 19 1 3,.ld 20 1 false 19,.mv 21 1,.ia 22 1 21 (kI 0),.ld 23 1 false 22,.call (some 24) 137 [20,23],.ext 25 24 0,.ext 26 24 1,.asg 6 25,.asg 7 26]) .ret) (.seq (.ops [.bin 28 .eql 11 (kI 4),.asg 27 28]) (.cond 27 (.seq (.dops [[],[0],[],[2],[3],[],[5],[6],[1,4,7],[8],[8],[9,8,0,1,2,3,4,5,6,7,8,9,10],[10,11,0,1,2,3,4,5,6,7,8,9,10,11]] [.fa 29 1 3,.ld 30 1 false 29,.mv 31 1,.ia 32 1 31 (kI 0),.ld 33 1 false 32,.mv 34 1,.ia 35 1 34 (kI 1),.ld 36 1 false 35,.call (some 37) 138 [30,33,36],.ext 38 37 0,.ext 39 37 1,.asg 6 38,.asg 7 39]) .ret) (.seq (.seq (.ops [.bin 41 .eql 11 (kI 5),.asg 40 41]) (.cond 40 .skip (.ops [.bin 42 .eql 11 (kI 9),.asg 40 42]))) aUb))))))))) aXs))
theorem cHb:aY Tryz.prog 109=some (cHy,[.mv 0 6,.mv 0 7],53):=by kernel_rfl
def bBn (r:Int×Bool):Exit→St→Prop:=aV [.mv 0 6,.mv 0 7] fun x _=>x=(fun y=>(.tup [(vI y.1),(vB y.2)])) r
def cK4 (r:Int×Bool):Exit→St→Prop:=(bD (wkK (avc Tryz.prog aXs (bBn r))) (bBn r))
def cCk (r:Int×Bool):Exit→St→Prop:=(bG 0 (cK4 r))
def cEc (p1:List Int) (p2:List Int) (x40:Bool):St:=⟨[(1,(eP p1)),(2,(eP p2)),(40,(vB x40))],[]⟩
abbrev bE2:=fun p1 p2 x40 r=>avc Tryz.prog aUb (cCk r) (cEc p1 p2 x40)
def aS5:AC:=(.seq (.seq (.ops [.mv 44 9,.not 45 44]) (.cond 45 (.seq (.ops [.asg 6 (kI 0),.asg 7 (kB false)]) .ret) .skip)) (.seq (.ops [.mv 46 8,.asg 6 46,.asg 7 (kB true)]) .ret))
def cEr:AC:=(.seq (.ops [.asg 6 (kI 0),.asg 7 (kB false)]) (.seq (.ops [.asg 8 (kI 0),.asg 9 (kB false)]) (.seq (.block 0 (.seq (.ops [.mv 14 0,.bin 15 .lss 14 (kI 1),.mv 16 15,.g 16 false (.mv 17 0),.g 16 false (.bin 18 .gtr 17 (kI 14)),.pick 19 16 (kB true) 18,.asg 13 19]) (.cond 13 .skip (.seq (.ops [.mv 21 0,.bin 22 .leq 21 (kI 2),.asg 20 22]) (.cond 20 (.ops [.mv 23 1,.call (some 24) 63 [23],.mv 25 24,.g 25 true (.mv 26 2),.g 25 true (.call (some 27) 63 [26]),.pick 28 25 27 (kB false),.asg 8 (kI 3),.asg 9 28]) (.seq (.ops [.mv 30 0,.bin 31 .leq 30 (kI 8),.asg 29 31]) (.cond 29 (.seq (.ops [.mv 33 1,.mv 34 2,.call (some 35) 106 [33,34],.mv 32 35,.ext 36 32 0,.ext 37 32 1,.asg 9 37]) (.ops [.asg 8 (kI 3)])) (.seq (.ops [.mv 39 0,.bin 40 .eql 39 (kI 9),.asg 38 40]) (.cond 38 (.ops [.mv 41 1,.mv 42 2,.call (some 43) 150 [(kI 2),41,42],.asg 8 (kI 2),.asg 9 43]) (.ops [.mv 10 1,.mv 11 2,.call (some 12) 150 [(kI 1),10,11],.asg 8 (kI 1),.asg 9 12])))))))))) aS5)))
theorem bOs:aY Tryz.prog 138=some (cEr,[.mv 0 6,.mv 0 7],47):=by kernel_rfl
def bN6 (r:Int×Bool):Exit→St→Prop:=aV [.mv 0 6,.mv 0 7] fun x _=>x=(fun y=>(.tup [(vI y.1),(vB y.2)])) r
def bMj (x8:Int) (x9:Bool):St:=⟨[(8,(vI x8)),(9,(vB x9))],[]⟩
abbrev aYz:=fun x8 x9 r=>avc Tryz.prog aS5 (bN6 r) (bMj x8 x9)
def bY9:AC:=(.seq (.ops [.asg 6 (kB false)]) (.seq (.ops [.mv 7 1,.mv 8 0,.bin 9 .eql 7 8,.mv 10 9,.g 10 false (.mv 11 1),.g 10 false (.bin 12 .eql 11 (kI 0)),.pick 13 10 (kB true) 12,.mv 14 13,.g 14 true (.mv 15 2),.g 14 true (.mv 16 0),.g 14 true (.bin 17 .eql 15 16),.g 14 true (.mv 18 17),.g 18 false (.mv 19 2),.g 18 false (.bin 20 .eql 19 (kI 0)),.g 14 true (.pick 21 18 (kB true) 20),.pick 22 14 21 (kB false),.asg 6 22]) .ret))
theorem bZs:aY Tryz.prog 150=some (bY9,[.mv 0 6],23):=by kernel_rfl
def cNl (r:Bool):Exit→St→Prop:=aV [.mv 0 6] fun x _=>x=(fun y=>(vB y)) r
def bY4:AC:=(.seq (.ops [.asg 2 (kB false)]) (.seq (.ops [.mv 3 0,.bin 4 .eql 3 (kI 0),.mv 5 4,.g 5 false (.mv 6 0),.g 5 false (.bin 7 .eql 6 (kI 3)),.pick 8 5 (kB true) 7,.asg 2 8]) .ret))
theorem bRq:aY Tryz.prog 63=some (bY4,[.mv 0 2],9):=by kernel_rfl
def cQ7 (r:Bool):Exit→St→Prop:=aV [.mv 0 2] fun x _=>x=(fun y=>(vB y)) r
def bPm:AC:=(.seq (.ops [.asg 2 (.c (.nil 1))]) (.seq (.seq (.ops [.mv 3 0,.eqn 4 false 3]) (.cond 4 (.seq (.ops [.asg 2 (.c (.nil 1))]) .ret) .skip)) (.seq (.ops [.bsl 5 3 1 [],.mv 6 0,.app 7 3 1 8 5 6,.asg 2 7]) .ret)))
theorem cJ0:aY Tryz.prog 140=some (bPm,[.mv 0 2],8):=by kernel_rfl
def cPn (r:List Int):Exit→St→Prop:=aV [.mv 0 2] fun x b=>x=(fun (y:List Int)=>(.osl 2000000 3 1 (y.map cI))) r∧bR ((fun (y:List Int)=>[]) r) b
def cAa:AC:=(.seq (.ops [.asg 4 (kI 0),.asg 5 (kB false)]) (.seq (.block 0 (.seq (.ops [.mv 7 0,.bin 8 .eql 7 (kI 15),.mv 9 8,.g 9 true (.mv 10 1),.g 9 true (.call (some 11) 63 [10]),.pick 12 9 11 (kB false),.asg 6 12]) (.cond 6 (.seq (.ops [.asg 4 (kI 3),.asg 5 (kB true)]) .ret) (.seq (.ops [.mv 14 0,.bin 15 .eql 14 (kI 16),.mv 16 15,.g 16 true (.mv 17 1),.g 16 true (.mv 18 1),.g 16 true (.call (some 19) 150 [(kI 1),17,18]),.pick 20 16 19 (kB false),.asg 13 20]) (.cond 13 (.seq (.ops [.asg 4 (kI 1),.asg 5 (kB true)]) .ret) .skip))))) (.seq (.ops [.asg 4 (kI 0),.asg 5 (kB false)]) .ret)))
theorem bOd:aY Tryz.prog 137=some (cAa,[.mv 0 4,.mv 0 5],21):=by kernel_rfl
def cQj (r:Int×Bool):Exit→St→Prop:=aV [.mv 0 4,.mv 0 5] fun x _=>x=(fun y=>(.tup [(vI y.1),(vB y.2)])) r
def aQa:AC:=(.loop (.seq (.ops [.bin 12 .lss 11 10]) (.seq (.cond 12 .skip (.exit 0)) (.seq (.block 1 (.seq (.ops [.ia 13 1 9 11,.ld 14 1 false 13,.asg 6 14]) (.seq (.ops [.mv 16 4,.mv 17 6,.call (some 18) 106 [16,17],.mv 15 18,.ext 19 15 0,.ext 20 15 1,.asg 7 19,.asg 8 20]) (.seq (.seq (.ops [.mv 21 8,.not 22 21]) (.cond 22 (.seq (.ops [.asg 2 (kI 0),.asg 3 (kB false)]) .ret) .skip)) (.ops [.mv 23 7,.asg 4 23]))))) (.ops [.bin 24 .add 11 (kI 1),.mv 11 24])))))
def aXg:AC:=(.seq (.ops [.mv 25 4,.asg 2 25,.asg 3 (kB true)]) .ret)
def bMx:AC:=(.seq (.ops [.asg 2 (kI 0),.asg 3 (kB false)]) (.seq (.ops [.asg 4 (kI 0)]) (.seq (.seq (.ops [.mv 9 0,.len 10 9,.mv 11 (kI 0)]) (.block 0 aQa)) aXg)))
theorem cJo:aY Tryz.prog 139=some (bMx,[.mv 0 2,.mv 0 3],26):=by kernel_rfl
def bAf (r:Int×Bool):Exit→St→Prop:=aV [.mv 0 2,.mv 0 3] fun x _=>x=(fun y=>(.tup [(vI y.1),(vB y.2)])) r
def cBq (r:Int×Bool):Exit→St→Prop:=(bD (wkK (avc Tryz.prog aXg (bAf r))) (bAf r))
def cLv (r:Int×Bool):Exit→St→Prop:=(bG 0 (cBq r))
def bVf (p0:List Int) (x4:Int) (x11:Int):St:=⟨[(4,(vI x4)),(9,(eP p0)),(10,(vI (p0.length:Int))),(11,(vI x11))],[]⟩
abbrev aIq:=fun p0 x4 x11 r=>avc Tryz.prog aQa (cLv r) (bVf p0 x4 x11)
def aV3:AC:=(.loop (.seq (.ops [.bin 42 .lss 41 40]) (.seq (.cond 42 .skip (.exit 0)) (.seq (.block 1 (.seq (.ops [.mv 43 41,.ia 44 1 39 41,.ld 45 1 false 44,.asg 10 43,.asg 11 45]) (.seq (.dops [[],[],[1],[],[3],[2,4],[0,5],[6],[7],[7],[8,6,0,1,2,3,4,5,6,7,8],[9,10,0,1,2,3,4,5,6,7,8,9,10]] [.ld 47 1 true 3,.fa 48 0 5,.ld 49 1 false 48,.mv 50 10,.bin 51 .add 50 (kI 1),.slc 52 1 49 none (some 51) none,.call (some 53) 99 [47,52],.mv 46 53,.ext 54 46 0,.ext 55 46 1,.asg 12 54,.asg 13 55]) (.seq (.dops [[],[],[],[1,2],[],[0,3,4,3],[5]] [.ld 56 1 true 3,.mv 57 12,.mv 58 1,.call (some 59) 101 [57,58],.mv 60 11,.call (some 61) 25 [56,59,60],.not 62 61]) (.cond 62 (.seq (.ops [.asg 6 (.c (.nil 1)),.asg 7 (kB false)]) .ret) .skip))))) (.ops [.bin 63 .add 41 (kI 1),.mv 41 63])))))
def aU0:AC:=(.loop (.seq (.ops [.bin 77 .lss 76 75]) (.seq (.cond 77 .skip (.exit 2)) (.seq (.block 3 (.seq (.ops [.ia 78 11 74 76,.ld 79 11 true 78,.alc 16 aGk,.st 11 16 79]) (.seq (.ops [.ld 81 1 true 3,.mv 82 14,.fa 83 0 16,.ld 84 10 true 83,.call (some 85) 62 [81,82,84],.mv 80 85,.ext 86 80 0,.ext 87 80 1,.asg 17 86,.asg 18 87]) (.seq (.ops [.mv 88 18,.not 89 88]) (.cond 89 (.seq (.ops [.asg 6 (.c (.nil 1)),.asg 7 (kB false)]) .ret) .skip))))) (.ops [.bin 90 .add 76 (kI 1),.mv 76 90])))))
def aT8:AC:=(.loop (.seq (.ops [.bin 96 .lss 95 94]) (.seq (.cond 96 .skip (.exit 4)) (.seq (.block 5 (.seq (.ops [.ia 97 10 93 95,.ld 98 10 true 97,.alc 21 oO,.st 10 21 98]) (.seq (.ops [.ld 100 1 true 3,.mv 101 14,.ld 102 10 true 21,.call (some 103) 62 [100,101,102],.mv 99 103,.ext 104 99 0,.ext 105 99 1,.asg 22 104,.asg 23 105]) (.seq (.seq (.ops [.mv 106 23,.not 107 106]) (.cond 107 (.seq (.ops [.asg 6 (.c (.nil 1)),.asg 7 (kB false)]) .ret) .skip)) (.ops [.mv 108 19,.mv 109 22,.bsl 110 3 1 [109],.app 111 3 1 8 108 110,.asg 19 111]))))) (.ops [.bin 112 .add 95 (kI 1),.mv 95 112])))))
def aYq:AC:=(.seq (.ops [.mv 113 19,.asg 6 113,.asg 7 (kB true)]) .ret)
def bEu:AC:=(.seq (.ops [.bsl 91 3 1 [],.asg 19 91]) (.seq (.seq (.ops [.fa 92 4 5,.ld 93 1 false 92,.len 94 93,.mv 95 (kI 0)]) (.block 4 aT8)) aYq))
def bBo:AC:=(.seq (.ops [.mv 64 8,.mv 65 1,.call (some 66) 101 [64,65],.asg 14 66]) (.seq (.seq (.ops [.ld 67 1 true 3,.mv 68 14,.fa 69 2 5,.ld 70 1 false 69,.call (some 71) 25 [67,68,70],.not 72 71]) (.cond 72 (.seq (.ops [.asg 6 (.c (.nil 1)),.asg 7 (kB false)]) .ret) .skip)) (.seq (.seq (.ops [.fa 73 3 5,.ld 74 1 false 73,.len 75 74,.mv 76 (kI 0)]) (.block 2 aU0)) bEu)))
def cGn:AC:=(.seq (.ops [.box 3 37 0,.box 5 30 2,.asg 6 (.c (.nil 1)),.asg 7 (kB false)]) (.seq (.ops [.ld 25 1 true 3,.fa 26 0 5,.ld 27 1 false 26,.call (some 28) 99 [25,27],.mv 24 28,.ext 29 24 0,.ext 30 24 1,.asg 8 29,.asg 9 30]) (.seq (.seq (.ops [.mv 31 9,.not 32 31,.mv 33 32,.g 33 false (.ld 34 8 true 5),.g 33 false (.call (some 35) 100 [34]),.g 33 false (.not 36 35),.pick 37 33 (kB true) 36]) (.cond 37 (.seq (.ops [.asg 6 (.c (.nil 1)),.asg 7 (kB false)]) .ret) .skip)) (.seq (.seq (.ops [.fa 38 1 5,.ld 39 1 false 38,.len 40 39,.mv 41 (kI 0)]) (.block 0 aV3)) bBo))))
theorem cE1:aY Tryz.prog 54=some (cGn,[.mv 0 6,.mv 0 7],114):=by kernel_rfl
def aAw (r:(List Int)×Bool):Exit→St→Prop:=aV [.mv 0 6,.mv 0 7] fun x b=>x=(fun (y:(List Int)×Bool)=>(.tup [(.osl 2000000 3 1 (y.1.map cI)),(vB y.2)])) r∧bR ((fun (y:(List Int)×Bool)=>[]) r) b
def cD7 (r:(List Int)×Bool):Exit→St→Prop:=(bD (wkK (avc Tryz.prog bBo (aAw r))) (aAw r))
def bRn (r:(List Int)×Bool):Exit→St→Prop:=(bG 0 (cD7 r))
def cA1 (r:(List Int)×Bool):Exit→St→Prop:=(bD (wkK (avc Tryz.prog bEu (aAw r))) (aAw r))
def bJe (r:(List Int)×Bool):Exit→St→Prop:=(bG 2 (cA1 r))
def cEt (r:(List Int)×Bool):Exit→St→Prop:=(bD (wkK (avc Tryz.prog aYq (aAw r))) (aAw r))
def bLw (r:(List Int)×Bool):Exit→St→Prop:=(bG 4 (cEt r))
def cGh (p1:List (List Int)) (y1:(List Int)×Bool) (p2:aL) (p0:aP) (x41:Int):St:=⟨[(1,(.d (.sl 1 (p1.map (cSl 1 cI))))),(3,(.ptr 3 0)),(5,(.ptr 5 0)),(8,(.osl 8 3 1 (y1.1.map cI))),(39,(.d (.sl 1 (p2.on_.map (cSl 10 aJ))))),(40,(vI (p2.on_.length:Int))),(41,(vI x41))],[(3,dD p0),(5,kL p2)]⟩
abbrev aI7:=fun p1 y1 p2 p0 x41 r=>avc Tryz.prog aV3 (bRn r) (cGh p1 y1 p2 p0 x41)
def cGa (y9:List (List Int)) (p2:aL) (p0:aP) (x76:Int):St:=⟨[(3,(.ptr 3 0)),(5,(.ptr 5 0)),(14,(.osl 14 24 1 (y9.map (cSl 1 cI)))),(74,(tN p2.order)),(75,(vI (p2.order.length:Int))),(76,(vI x76))],[(3,dD p0),(5,kL p2)]⟩
abbrev aH0:=fun y9 p2 p0 x76 r=>avc Tryz.prog aU0 (bJe r) (cGa y9 p2 p0 x76)
def bW9 (y9:List (List Int)) (p2:aL) (p0:aP) (x19:List Int) (x95:Int):St:=⟨[(3,(.ptr 3 0)),(14,(.osl 14 24 1 (y9.map (cSl 1 cI)))),(19,(.osl 19 3 1 (x19.map cI))),(93,(dX p2.items)),(94,(vI (p2.items.length:Int))),(95,(vI x95))],[(3,dD p0)]⟩
abbrev aHn:=fun y9 p2 p0 x19 x95 r=>avc Tryz.prog aT8 (bLw r) (bW9 y9 p2 p0 x19 x95)
def bZe:AC:=(.seq (.ops [.asg 4 (.c (.nil 1))]) (.seq (.ops [.mv 5 0,.bsl 6 24 1 [5],.mv 7 1,.app 8 24 1 24 6 7,.asg 4 8]) .ret))
theorem bKu:aY Tryz.prog 101=some (bZe,[.mv 0 4],9):=by kernel_rfl
def cNg (r:List (List Int)):Exit→St→Prop:=aV [.mv 0 4] fun x b=>x=(fun (y:List (List Int))=>(.osl 2000000 24 1 (y.map (cSl 1 cI)))) r∧bR ((fun (y:List (List Int))=>[]) r) b
def bVw:AC:=(.seq (.ops [.box 1 30 0,.asg 2 (kB false)]) (.seq (.seq (.ops [.fa 3 0 1,.ld 4 1 false 3,.len 5 4,.bin 6 .lss 5 (kI 1),.mv 7 6,.g 7 false (.fa 8 0 1),.g 7 false (.ld 9 1 false 8),.g 7 false (.len 10 9),.g 7 false (.bin 11 .gtr 10 (kI 3)),.pick 12 7 (kB true) 11,.mv 13 12,.g 13 false (.fa 14 1 1),.g 13 false (.ld 15 1 false 14),.g 13 false (.len 16 15),.g 13 false (.fa 17 0 1),.g 13 false (.ld 18 1 false 17),.g 13 false (.len 19 18),.g 13 false (.bin 20 .neq 16 19),.pick 21 13 (kB true) 20,.mv 22 21,.g 22 false (.fa 23 1 1),.g 22 false (.ld 24 1 false 23),.g 22 false (.ia 25 1 24 (kI 0)),.g 22 false (.ld 26 1 false 25),.g 22 false (.len 27 26),.g 22 false (.bin 28 .gtr 27 (kI 0)),.pick 29 22 (kB true) 28,.mv 30 29,.g 30 false (.fa 31 2 1),.g 30 false (.ld 32 1 false 31),.g 30 false (.len 33 32),.g 30 false (.bin 34 .gtr 33 (kI 1)),.pick 35 30 (kB true) 34,.mv 36 35,.g 36 false (.fa 37 3 1),.g 36 false (.ld 38 1 false 37),.g 36 false (.len 39 38),.g 36 false (.bin 40 .gtr 39 (kI 12)),.pick 41 36 (kB true) 40]) (.cond 41 (.seq (.ops [.asg 2 (kB false)]) .ret) .skip)) (.seq (.ops [.fa 42 4 1,.ld 43 1 false 42,.len 44 43,.bin 45 .geq 44 (kI 1),.mv 46 45,.g 46 true (.fa 47 4 1),.g 46 true (.ld 48 1 false 47),.g 46 true (.len 49 48),.g 46 true (.bin 50 .leq 49 (kI 12)),.pick 51 46 50 (kB false),.mv 52 51,.g 52 true (.fa 53 5 1),.g 52 true (.ld 54 1 false 53),.g 52 true (.len 55 54),.g 52 true (.fa 56 4 1),.g 52 true (.ld 57 1 false 56),.g 52 true (.len 58 57),.g 52 true (.bin 59 .eql 55 58),.pick 60 52 59 (kB false),.mv 61 60,.g 61 true (.fa 62 7 1),.g 61 true (.ld 63 1 false 62),.g 61 true (.bin 64 .geq 63 (kI (-1))),.pick 65 61 64 (kB false),.mv 66 65,.g 66 true (.fa 67 1 1),.g 66 true (.ld 68 1 false 67),.g 66 true (.call (some 69) 129 [68,(.c (.fn 130 []))]),.g 66 true (.not 70 69),.pick 71 66 70 (kB false),.mv 72 71,.g 72 true (.fa 73 5 1),.g 72 true (.ld 74 1 false 73),.g 72 true (.call (some 75) 131 [74,(.c (.fn 132 []))]),.g 72 true (.not 76 75),.pick 77 72 76 (kB false),.asg 2 77]) .ret)))
theorem bPy:aY Tryz.prog 100=some (bVw,[.mv 0 2],78):=by kernel_rfl
def cO3 (r:Bool):Exit→St→Prop:=aV [.mv 0 2] fun x _=>x=(fun y=>(vB y)) r
def bQ9:AC:=(.seq (.ops [.asg 4 (kB false)]) (.seq (.ops [.mv 5 0,.mv 6 1,.call (some 7) 147 [5,6],.bin 8 .geq 7 (kI 0),.asg 4 8]) .ret))
theorem bQh:aY Tryz.prog 129=some (bQ9,[.mv 0 4],9):=by kernel_rfl
def cMd (r:Bool):Exit→St→Prop:=aV [.mv 0 4] fun x _=>x=(fun y=>(vB y)) r
def aU2:AC:=(.loop (.seq (.ops [.bin 9 .lss 8 7]) (.seq (.cond 9 .skip (.exit 0)) (.seq (.block 1 (.seq (.ops [.mv 10 8,.asg 5 10]) (.seq (.ops [.mv 11 1,.mv 12 0,.mv 13 5,.ia 14 1 12 13,.ld 15 1 false 14,.callv (some 16) 11 [15]]) (.cond 16 (.seq (.ops [.mv 17 5,.asg 4 17]) .ret) .skip)))) (.ops [.bin 18 .add 8 (kI 1),.mv 8 18])))))
def aY9:AC:=(.seq (.ops [.asg 4 (kI (-1))]) .ret)
def bOv:AC:=(.seq (.ops [.asg 4 (kI 0)]) (.seq (.seq (.ops [.mv 6 0,.len 7 6,.mv 8 (kI 0)]) (.block 0 aU2)) aY9))
theorem cCf:aY Tryz.prog 147=some (bOv,[.mv 0 4],19):=by kernel_rfl
def bB2 (r:Int):Exit→St→Prop:=aV [.mv 0 4] fun x _=>x=(fun y=>(vI y)) r
def bTo (r:Int):Exit→St→Prop:=(bD (wkK (avc Tryz.prog aY9 (bB2 r))) (bB2 r))
def cD8 (r:Int):Exit→St→Prop:=(bG 0 (bTo r))
def bJo (p0:List (List aA)) (x8:Int):St:=⟨[(0,(.d (.sl 1 (p0.map (cSl 10 aJ))))),(1,(.fn 130 [])),(7,(vI (p0.length:Int))),(8,(vI x8))],[]⟩
abbrev aLq:=fun p0 x8 r=>avc Tryz.prog aU2 (cD8 r) (bJo p0 x8)
def bR4:AC:=(.seq (.ops [.asg 2 (kB false)]) (.seq (.ops [.mv 3 0,.len 4 3,.bin 5 .gtr 4 (kI 1),.asg 2 5]) .ret))
theorem bJf:aY Tryz.prog 130=some (bR4,[.mv 0 2],6):=by kernel_rfl
def cQ8 (r:Bool):Exit→St→Prop:=aV [.mv 0 2] fun x _=>x=(fun y=>(vB y)) r
def bSd:AC:=(.seq (.ops [.asg 4 (kB false)]) (.seq (.ops [.mv 5 0,.mv 6 1,.call (some 7) 148 [5,6],.bin 8 .geq 7 (kI 0),.asg 4 8]) .ret))
theorem bXa:aY Tryz.prog 131=some (bSd,[.mv 0 4],9):=by kernel_rfl
def cMl (r:Bool):Exit→St→Prop:=aV [.mv 0 4] fun x _=>x=(fun y=>(vB y)) r
def aSm:AC:=(.loop (.seq (.ops [.bin 9 .lss 8 7]) (.seq (.cond 9 .skip (.exit 0)) (.seq (.block 1 (.seq (.ops [.mv 10 8,.asg 5 10]) (.seq (.ops [.mv 11 1,.mv 12 0,.mv 13 5,.ia 14 1 12 13,.ld 15 1 false 14,.callv (some 16) 11 [15]]) (.cond 16 (.seq (.ops [.mv 17 5,.asg 4 17]) .ret) .skip)))) (.ops [.bin 18 .add 8 (kI 1),.mv 8 18])))))
def aZi:AC:=(.seq (.ops [.asg 4 (kI (-1))]) .ret)
def bXz:AC:=(.seq (.ops [.asg 4 (kI 0)]) (.seq (.seq (.ops [.mv 6 0,.len 7 6,.mv 8 (kI 0)]) (.block 0 aSm)) aZi))
theorem cJv:aY Tryz.prog 148=some (bXz,[.mv 0 4],19):=by kernel_rfl
def bEn (r:Int):Exit→St→Prop:=aV [.mv 0 4] fun x _=>x=(fun y=>(vI y)) r
def cGb (r:Int):Exit→St→Prop:=(bD (wkK (avc Tryz.prog aZi (bEn r))) (bEn r))
def cJe (r:Int):Exit→St→Prop:=(bG 0 (cGb r))
def cIw (p0:List (List UInt8)) (x8:Int):St:=⟨[(0,(qP p0)),(1,(.fn 132 [])),(7,(vI (p0.length:Int))),(8,(vI x8))],[]⟩
abbrev aLm:=fun p0 x8 r=>avc Tryz.prog aSm (cJe r) (cIw p0 x8)
def bYu:AC:=(.seq (.ops [.asg 2 (kB false)]) (.seq (.ops [.mv 3 0,.call (some 4) 102 [3],.not 5 4,.asg 2 5]) .ret))
theorem bXd:aY Tryz.prog 132=some (bYu,[.mv 0 2],6):=by kernel_rfl
def cPv (r:Bool):Exit→St→Prop:=aV [.mv 0 2] fun x _=>x=(fun y=>(vB y)) r
def aWa:AC:=(.loop (.seq (.ops [.bin 13 .lss 12 11]) (.seq (.cond 13 .skip (.exit 0)) (.seq (.block 1 (.seq (.ops [.ia 14 1 10 12,.ld 15 1 false 14,.asg 8 15]) (.seq (.seq (.ops [.mv 16 8,.bin 17 .lss 16 (kI 0),.mv 18 17,.g 18 false (.mv 19 8),.g 18 false (.fa 20 0 2),.g 18 false (.ld 21 1 false 20),.g 18 false (.len 22 21),.g 18 false (.bin 23 .geq 19 22),.pick 24 18 (kB true) 23]) (.cond 24 (.seq (.ops [.asg 4 (.c (.nil 1)),.asg 5 (kB false)]) .ret) .skip)) (.ops [.mv 25 6,.fa 26 0 2,.ld 27 1 false 26,.mv 28 8,.ia 29 2 27 28,.ld 30 2 true 29,.call (some 31) 23 [30],.app 32 3 1 8 25 31,.asg 6 32])))) (.ops [.bin 33 .add 12 (kI 1),.mv 12 33])))))
def aYu:AC:=(.seq (.ops [.mv 34 6,.asg 4 34,.asg 5 (kB true)]) .ret)
def bOu:AC:=(.seq (.ops [.box 2 37 0,.asg 4 (.c (.nil 1)),.asg 5 (kB false)]) (.seq (.ops [.bsl 9 3 1 [],.asg 6 9]) (.seq (.seq (.ops [.mv 10 1,.len 11 10,.mv 12 (kI 0)]) (.block 0 aWa)) aYu)))
theorem bQa:aY Tryz.prog 99=some (bOu,[.mv 0 4,.mv 0 5],35):=by kernel_rfl
def bFy (r:(List Int)×Bool):Exit→St→Prop:=aV [.mv 0 4,.mv 0 5] fun x b=>x=(fun (y:(List Int)×Bool)=>(.tup [(.osl 2000000 3 1 (y.1.map cI)),(vB y.2)])) r∧bR ((fun (y:(List Int)×Bool)=>[]) r) b
def bWk (r:(List Int)×Bool):Exit→St→Prop:=(bD (wkK (avc Tryz.prog aYu (bFy r))) (bFy r))
def bPz (r:(List Int)×Bool):Exit→St→Prop:=(bG 0 (bWk r))
def cLn (p1:List Int) (p0:aP) (x6:List Int) (x12:Int):St:=⟨[(2,(.ptr 2 0)),(6,(.osl 6 3 1 (x6.map cI))),(10,(eP p1)),(11,(vI (p1.length:Int))),(12,(vI x12))],[(2,dD p0)]⟩
abbrev aMi:=fun p1 p0 x6 x12 r=>avc Tryz.prog aWa (bPz r) (cLn p1 p0 x6 x12)
def aW7:AC:=(.loop (.seq (.ops [.bin 11 .lss 10 9]) (.seq (.cond 11 .skip (.exit 0)) (.seq (.block 1 (.seq (.ops [.ia 12 2 8 10,.ld 13 2 true 12,.alc 5 [dC,aQ],.st 2 5 13]) (.ops [.mv 14 3,.fa 15 1 5,.ld 16 1 false 15,.bsl 17 3 1 [16],.app 18 3 1 8 14 17,.asg 3 18]))) (.ops [.bin 19 .add 10 (kI 1),.mv 10 19])))))
def bI8:AC:=(.seq (.ops [.mv 20 3,.asg 2 20]) .ret)
def cIy:AC:=(.seq (.ops [.box 1 56 0,.asg 2 (.c (.nil 1))]) (.seq (.ops [.bsl 6 3 1 [],.asg 3 6]) (.seq (.seq (.ops [.fa 7 1 1,.ld 8 1 false 7,.len 9 8,.mv 10 (kI 0)]) (.block 0 aW7)) bI8)))
theorem cEe:aY Tryz.prog 23=some (cIy,[.mv 0 2],21):=by kernel_rfl
def bIn (r:List Int):Exit→St→Prop:=aV [.mv 0 2] fun x _=>x=(fun y=>(eP y)) r
def bXv (r:List Int):Exit→St→Prop:=(bD (wkK (avc Tryz.prog bI8 (bIn r))) (bIn r))
def cEo (r:List Int):Exit→St→Prop:=(bG 0 (bXv r))
def bO7 (p0:bI) (x3:List Int) (x10:Int):St:=⟨[(3,(.osl 3 3 1 (x3.map cI))),(8,(aDx p0.cols)),(9,(vI (p0.cols.length:Int))),(10,(vI x10))],[]⟩
abbrev aL0:=fun p0 x3 x10 r=>avc Tryz.prog aW7 (cEo r) (bO7 p0 x3 x10)
def bU4:AC:=(.seq (.ops [.box 3 37 0,.box 4 59 1,.asg 6 (kB false)]) (.seq (.ops [.mv 7 2,.mkf 8 61 [3,4],.call (some 9) 60 [7,8],.not 10 9,.asg 6 10]) .ret))
theorem bQi:aY Tryz.prog 25=some (bU4,[.mv 0 6],11):=by kernel_rfl
def cNc (r:Bool):Exit→St→Prop:=aV [.mv 0 6] fun x _=>x=(fun y=>(vB y)) r
def bKp:AC:=(.seq (.ops [.asg 4 (kB false)]) (.seq (.ops [.mv 5 0,.mv 6 1,.call (some 7) 107 [5,6],.bin 8 .geq 7 (kI 0),.asg 4 8]) .ret))
theorem bTg:aY Tryz.prog 60=some (bKp,[.mv 0 4],9):=by kernel_rfl
def cM7 (c0:aP) (c1_0:List (List Int)) (r:Bool):Exit→St→Prop:=aV [.mv 0 4] fun x b=>x=(fun (y:Bool)=>(vB y)) r∧bR ((fun (y:Bool)=>[(1000000,dD c0),(1000001,[(.d (.sl 1 (c1_0.map (cSl 1 cI))))])]) r) b
def aNo:AC:=(.loop (.seq (.ops [.bin 9 .lss 8 7]) (.seq (.cond 9 .skip (.exit 0)) (.seq (.block 1 (.seq (.ops [.mv 10 8,.asg 5 10]) (.seq (.ops [.mv 11 1,.mv 12 0,.mv 13 5,.ia 14 10 12 13,.ld 15 10 true 14,.callv (some 16) 11 [15]]) (.cond 16 (.seq (.ops [.mv 17 5,.asg 4 17]) .ret) .skip)))) (.ops [.bin 18 .add 8 (kI 1),.mv 8 18])))))
def bIw:AC:=(.seq (.ops [.asg 4 (kI (-1))]) .ret)
def bNu:AC:=(.seq (.ops [.asg 4 (kI 0)]) (.seq (.seq (.ops [.mv 6 0,.len 7 6,.mv 8 (kI 0)]) (.block 0 aNo)) bIw))
theorem cBz:aY Tryz.prog 107=some (bNu,[.mv 0 4],19):=by kernel_rfl
def bFn (c0:aP) (c1_0:List (List Int)) (r:Int):Exit→St→Prop:=aV [.mv 0 4] fun x b=>x=(fun (y:Int)=>(vI y)) r∧bR ((fun (y:Int)=>[(1000000,dD c0),(1000001,[(.d (.sl 1 (c1_0.map (cSl 1 cI))))])]) r) b
def cD4 (c0:aP) (c1_0:List (List Int)) (r:Int):Exit→St→Prop:=(bD (wkK (avc Tryz.prog bIw (bFn c0 c1_0 r))) (bFn c0 c1_0 r))
def bTr (c0:aP) (c1_0:List (List Int)) (r:Int):Exit→St→Prop:=(bG 0 (cD4 c0 c1_0 r))
def bS7 (p0:List aA) (c0:aP) (c1_0:List (List Int)) (x8:Int):St:=⟨[(0,(dX p0)),(1,(.fn 61 [(.ptr 1000000 0),(.ptr 1000001 0)])),(7,(vI (p0.length:Int))),(8,(vI x8))],[(1000000,dD c0),(1000001,[(.d (.sl 1 (c1_0.map (cSl 1 cI))))])]⟩
abbrev aGn:=fun p0 c0 c1_0 x8 r=>avc Tryz.prog aNo (bTr c0 c1_0 r) (bS7 p0 c0 c1_0 x8)
def cJ9:AC:=(.seq (.ops [.box 3 74 0,.asg 4 (kB false)]) (.seq (.ops [.ld 8 1 true 1,.ld 9 1 false 2,.ld 10 10 true 3,.call (some 11) 62 [8,9,10],.mv 7 11,.ext 12 7 0,.ext 13 7 1,.asg 5 12,.asg 6 13]) (.seq (.ops [.mv 14 6,.not 15 14,.mv 16 15,.g 16 false (.mv 17 5),.g 16 false (.call (some 18) 63 [17]),.g 16 false (.not 19 18),.pick 20 16 (kB true) 19,.asg 4 20]) .ret)))
theorem cD5:aY Tryz.prog 61=some (cJ9,[.mv 0 4],21):=by kernel_rfl
def cO1 (p1:aP) (c1_0:List (List Int)) (r:Bool):Exit→St→Prop:=aV [.mv 0 4] fun x b=>x=(fun (y:Bool)=>(vB y)) r∧bR ((fun (y:Bool)=>[(1000000,dD p1),(1000001,[(.d (.sl 1 (c1_0.map (cSl 1 cI))))])]) r) b
def cCr:AC:=(.seq (.ops [.asg 4 (kB false)]) (.seq (.ops [.mv 5 0,.mv 6 1,.call (some 7) 110 [5,6],.bin 8 .geq 7 (kI 0),.asg 4 8]) .ret))
theorem cI1:aY Tryz.prog 64=some (cCr,[.mv 0 4],9):=by kernel_rfl
def cNj (r:Bool):Exit→St→Prop:=aV [.mv 0 4] fun x _=>x=(fun y=>(vB y)) r
def aQ5:AC:=(.loop (.seq (.ops [.bin 9 .lss 8 7]) (.seq (.cond 9 .skip (.exit 0)) (.seq (.block 1 (.seq (.ops [.mv 10 8,.asg 5 10]) (.seq (.ops [.mv 11 1,.mv 12 0,.mv 13 5,.ia 14 1 12 13,.ld 15 1 false 14,.bin 16 .eql 11 15]) (.cond 16 (.seq (.ops [.mv 17 5,.asg 4 17]) .ret) .skip)))) (.ops [.bin 18 .add 8 (kI 1),.mv 8 18])))))
def bEs:AC:=(.seq (.ops [.asg 4 (kI (-1))]) .ret)
def cJ2:AC:=(.seq (.ops [.asg 4 (kI 0)]) (.seq (.seq (.ops [.mv 6 0,.len 7 6,.mv 8 (kI 0)]) (.block 0 aQ5)) bEs))
theorem cD9:aY Tryz.prog 110=some (cJ2,[.mv 0 4],19):=by kernel_rfl
def bCh (r:Int):Exit→St→Prop:=aV [.mv 0 4] fun x _=>x=(fun y=>(vI y)) r
def cA3 (r:Int):Exit→St→Prop:=(bD (wkK (avc Tryz.prog bEs (bCh r))) (bCh r))
def bWq (r:Int):Exit→St→Prop:=(bG 0 (cA3 r))
def bQ4 (p0:List Int) (p1:Int) (x8:Int):St:=⟨[(0,(eP p0)),(1,(vI p1)),(7,(vI (p0.length:Int))),(8,(vI x8))],[]⟩
abbrev aIu:=fun p0 p1 x8 r=>avc Tryz.prog aQ5 (bWq r) (bQ4 p0 p1 x8)
def aV5:AC:=(.loop (.seq (.ops [.bin 9 .lss 8 7]) (.seq (.cond 9 .skip (.exit 0)) (.seq (.block 1 (.seq (.ops [.ia 10 10 6 8,.ld 11 10 true 10,.alc 5 oO,.st 10 5 11]) (.ops [.mv 12 3,.ld 13 10 true 5,.call (some 14) 58 [13],.bin 15 .add 12 14,.asg 3 15]))) (.ops [.bin 16 .add 8 (kI 1),.mv 8 16])))))
def bGf:AC:=(.seq (.ops [.mv 17 3,.asg 2 17]) .ret)
def bL0:AC:=(.seq (.ops [.asg 2 (kI 0)]) (.seq (.ops [.asg 3 (kI 0)]) (.seq (.seq (.ops [.mv 6 0,.len 7 6,.mv 8 (kI 0)]) (.block 0 aV5)) bGf)))
theorem bM7:aY Tryz.prog 22=some (bL0,[.mv 0 2],18):=by kernel_rfl
def bAe (r:Int):Exit→St→Prop:=aV [.mv 0 2] fun x _=>x=(fun y=>(vI y)) r
def bQz (r:Int):Exit→St→Prop:=(bD (wkK (avc Tryz.prog bGf (bAe r))) (bAe r))
def cCi (r:Int):Exit→St→Prop:=(bG 0 (bQz r))
def cKv (p0:List aA) (x3:Int) (x8:Int):St:=⟨[(3,(vI x3)),(6,(dX p0)),(7,(vI (p0.length:Int))),(8,(vI x8))],[]⟩
abbrev aHs:=fun p0 x3 x8 r=>avc Tryz.prog aV5 (cCi r) (cKv p0 x3 x8)
def aTe:AC:=(.loop (.seq (.ops [.bin 14 .lss 13 12]) (.seq (.cond 14 .skip (.exit 0)) (.seq (.block 1 (.seq (.ops [.ia 15 8 11 13,.ld 16 8 true 15,.alc 5 pV,.st 8 5 16]) (.ops [.mv 17 3,.ld 18 8 true 5,.call (some 19) 53 [18],.bin 20 .add 17 19,.asg 3 20]))) (.ops [.bin 21 .add 13 (kI 1),.mv 13 21])))))
def aZ5:AC:=(.seq (.ops [.mv 22 3,.asg 2 22]) .ret)
def cF4:AC:=(.seq (.ops [.box 1 74 0,.asg 2 (kI 0)]) (.seq (.ops [.fa 6 8 1,.ld 7 1 false 6,.call (some 8) 22 [7],.bin 9 .add (kI 1) 8,.asg 3 9]) (.seq (.seq (.ops [.fa 10 9 1,.ld 11 1 false 10,.len 12 11,.mv 13 (kI 0)]) (.block 0 aTe)) aZ5)))
theorem bPd:aY Tryz.prog 58=some (cF4,[.mv 0 2],23):=by kernel_rfl
def bDw (r:Int):Exit→St→Prop:=aV [.mv 0 2] fun x _=>x=(fun y=>(vI y)) r
def bXf (r:Int):Exit→St→Prop:=(bD (wkK (avc Tryz.prog aZ5 (bDw r))) (bDw r))
def bMo (r:Int):Exit→St→Prop:=(bG 0 (bXf r))
def cEi (p0:aA) (x3:Int) (x13:Int):St:=⟨[(3,(vI x3)),(11,(rZ p0.sub)),(12,(vI (p0.sub.length:Int))),(13,(vI x13))],[]⟩
abbrev aLr:=fun p0 x3 x13 r=>avc Tryz.prog aTe (bMo r) (cEi p0 x3 x13)
def bPf:AC:=(.seq (.ops [.box 1 30 0,.asg 2 (kI 0)]) (.seq (.ops [.ld 3 8 true 1,.call (some 4) 98 [3],.call (some 5) 22 [4],.asg 2 5]) .ret))
theorem bYp:aY Tryz.prog 53=some (bPf,[.mv 0 2],6):=by kernel_rfl
def cNa (r:Int):Exit→St→Prop:=aV [.mv 0 2] fun x _=>x=(fun y=>(vI y)) r
def aTc:AC:=(.loop (.seq (.ops [.bin 13 .lss 12 11]) (.seq (.cond 13 .skip (.exit 0)) (.seq (.block 1 (.seq (.ops [.ia 14 1 10 12,.ld 15 1 false 14,.asg 5 15]) (.ops [.mv 16 3,.mv 17 5,.app 18 74 10 120 16 17,.asg 3 18]))) (.ops [.bin 19 .add 12 (kI 1),.mv 12 19])))))
def aPy:AC:=(.loop (.seq (.ops [.bin 28 .lss 27 26]) (.seq (.cond 28 .skip (.exit 2)) (.seq (.block 3 (.seq (.ops [.ia 29 11 25 27,.ld 30 11 true 29,.alc 7 aGk,.st 11 7 30]) (.ops [.mv 31 3,.fa 32 0 7,.ld 33 10 true 32,.bsl 34 74 10 [33],.app 35 74 10 120 31 34,.asg 3 35]))) (.ops [.bin 36 .add 27 (kI 1),.mv 27 36])))))
def bEv:AC:=(.seq (.ops [.mv 37 3,.fa 38 4 1,.ld 39 1 false 38,.app 40 74 10 120 37 39,.asg 2 40]) .ret)
def aYo:AC:=(.seq (.ops [.mv 20 3,.fa 21 2 1,.ld 22 1 false 21,.app 23 74 10 120 20 22,.asg 3 23]) (.seq (.seq (.ops [.fa 24 3 1,.ld 25 1 false 24,.len 26 25,.mv 27 (kI 0)]) (.block 2 aPy)) bEv))
def cE3:AC:=(.seq (.ops [.box 1 30 0,.asg 2 (.c (.nil 10))]) (.seq (.ops [.bsl 8 74 10 [],.asg 3 8]) (.seq (.seq (.ops [.fa 9 1 1,.ld 10 1 false 9,.len 11 10,.mv 12 (kI 0)]) (.block 0 aTc)) aYo)))
theorem bZq:aY Tryz.prog 98=some (cE3,[.mv 0 2],41):=by kernel_rfl
def aIo (r:List aA):Exit→St→Prop:=aV [.mv 0 2] fun x b=>x=(fun (y:List aA)=>(.osl 2000000 74 10 (y.map aJ))) r∧bR ((fun (y:List aA)=>[]) r) b
def cAv (r:List aA):Exit→St→Prop:=(bD (wkK (avc Tryz.prog aYo (aIo r))) (aIo r))
def cCs (r:List aA):Exit→St→Prop:=(bG 0 (cAv r))
def cI5 (r:List aA):Exit→St→Prop:=(bD (wkK (avc Tryz.prog bEv (aIo r))) (aIo r))
def cKb (r:List aA):Exit→St→Prop:=(bG 2 (cI5 r))
def bZg (p0:aL) (x3:List aA) (x12:Int):St:=⟨[(1,(.ptr 1 0)),(3,(.osl 3 74 10 (x3.map aJ))),(10,(.d (.sl 1 (p0.on_.map (cSl 10 aJ))))),(11,(vI (p0.on_.length:Int))),(12,(vI x12))],[(1,kL p0)]⟩
abbrev aH1:=fun p0 x3 x12 r=>avc Tryz.prog aTc (cCs r) (bZg p0 x3 x12)
def cIv (p0:aL) (eY:List aA) (x27:Int):St:=⟨[(1,(.ptr 1 0)),(3,(.osl 3 74 10 (eY.map aJ))),(25,(tN p0.order)),(26,(vI (p0.order.length:Int))),(27,(vI x27))],[(1,kL p0)]⟩
abbrev aFw:=fun p0 eY x27 r=>avc Tryz.prog aPy (cKb r) (cIv p0 eY x27)
def cBk:AC:=(.seq (.ops [.asg 4 (kB false)]) (.seq (.ops [.mv 5 0,.bin 6 .leq 5 (kI 24),.mv 7 6,.g 7 true (.mv 8 1),.g 7 true (.bin 9 .leq 8 (kI 200)),.pick 10 7 9 (kB false),.asg 4 10]) .ret))
theorem bUr:aY Tryz.prog 19=some (cBk,[.mv 0 4],11):=by kernel_rfl
def cMj (r:Bool):Exit→St→Prop:=aV [.mv 0 4] fun x _=>x=(fun y=>(vB y)) r
def aQr:AC:=(.loop (.seq (.ops [.bin 25 .lss 24 23]) (.seq (.cond 25 .skip (.exit 2)) (.seq (.block 3 (.seq (.ops [.mv 26 24,.ia 27 10 22 24,.ld 28 10 true 27,.alc 10 oO,.asg 9 26,.st 10 10 28]) (.seq (.dops [[],[],[],[],[2,3],[4],[0,1,5],[6]] [.ld 29 1 true 3,.ld 30 10 true 10,.mv 31 1,.mv 32 9,.ia 33 1 31 32,.ld 34 1 false 33,.call (some 35) 59 [29,(.c (.nil 1)),30,34],.not 36 35]) (.cond 36 (.seq (.ops [.asg 6 (kB false)]) .ret) .skip)))) (.ops [.bin 37 .add 24 (kI 1),.mv 24 37])))))
def aX6:AC:=(.ops [.bin 38 .add 13 (kI 1),.mv 13 38])
def aHp:AC:=(.loop (.seq (.ops [.bin 14 .lss 13 12]) (.seq (.cond 14 .skip (.exit 0)) (.seq (.block 1 (.seq (.ops [.ia 15 1 11 13,.ld 16 1 false 15,.asg 8 16]) (.seq (.seq (.ops [.mv 17 8,.len 18 17,.mv 19 1,.len 20 19,.bin 21 .neq 18 20]) (.cond 21 (.seq (.ops [.asg 6 (kB false)]) .ret) .skip)) (.seq (.ops [.mv 22 8,.len 23 22,.mv 24 (kI 0)]) (.block 2 aQr))))) aX6))))
def aYi:AC:=(.seq (.ops [.mv 39 2,.len 40 39,.bin 41 .geq 40 (kI 1),.mv 42 41,.g 42 true (.mv 43 2),.g 42 true (.len 44 43),.g 42 true (.bin 45 .leq 44 (kI 5)),.pick 46 42 45 (kB false),.asg 6 46]) .ret)
def bY6:AC:=(.seq (.ops [.box 3 37 0,.asg 6 (kB false)]) (.seq (.seq (.ops [.mv 11 2,.len 12 11,.mv 13 (kI 0)]) (.block 0 aHp)) aYi))
theorem bWl:aY Tryz.prog 24=some (bY6,[.mv 0 6],47):=by kernel_rfl
def bIy (r:Bool):Exit→St→Prop:=aV [.mv 0 6] fun x _=>x=(fun y=>(vB y)) r
def cB4 (r:Bool):Exit→St→Prop:=(bD (wkK (avc Tryz.prog aYi (bIy r))) (bIy r))
def aSy (r:Bool):Exit→St→Prop:=(bG 0 (cB4 r))
def aWu (r:Bool):Exit→St→Prop:=(bD (avc Tryz.prog aHp (aSy r)) (aSy r))
def bPe (r:Bool):Exit→St→Prop:=(bD (wkK (avc Tryz.prog aX6 (aWu r))) (aWu r))
def bVr (r:Bool):Exit→St→Prop:=(bG 1 (bPe r))
def bNf (r:Bool):Exit→St→Prop:=(bG 2 (bVr r))
def bJr (p1:List Int) (p2:List (List aA)) (p0:aP) (x13:Int):St:=⟨[(1,(eP p1)),(2,(.d (.sl 1 (p2.map (cSl 10 aJ))))),(3,(.ptr 3 0)),(11,(.d (.sl 1 (p2.map (cSl 10 aJ))))),(12,(vI (p2.length:Int))),(13,(vI x13))],[(3,dD p0)]⟩
abbrev aJ8:=fun p1 p2 p0 x13 r=>avc Tryz.prog aHp (aSy r) (bJr p1 p2 p0 x13)
def bSz (p1:List Int) (p2:List (List aA)) (x13:Int) (y1:List aA) (p0:aP) (x24:Int):St:=⟨[(1,(eP p1)),(2,(.d (.sl 1 (p2.map (cSl 10 aJ))))),(3,(.ptr 3 0)),(11,(.d (.sl 1 (p2.map (cSl 10 aJ))))),(12,(vI (p2.length:Int))),(13,(vI x13)),(22,(dX y1)),(23,(vI (y1.length:Int))),(24,(vI x24))],[(3,dD p0)]⟩
abbrev aLo:=fun p1 p2 x13 y1 p0 x24 r=>avc Tryz.prog aQr (bNf r) (bSz p1 p2 x13 y1 p0 x24)
def bUv:AC:=(.seq (.ops [.box 1 30 0,.asg 2 (kB false)]) (.seq (.ops [.ld 3 8 true 1,.bld 4 [(.nil 1),(.nil 1),(.nil 10),(.nil 11),(.nil 10),(.nil 1),bU,aQ] [],.call (some 5) 36 [3,4],.asg 2 5]) .ret))
theorem bZw:aY Tryz.prog 18=some (bUv,[.mv 0 2],6):=by kernel_rfl
def cOb (r:Bool):Exit→St→Prop:=aV [.mv 0 2] fun x _=>x=(fun y=>(vB y)) r
def bWe:AC:=(.seq (.ops [.box 2 30 0,.box 3 30 1,.asg 4 (kB false)]) (.seq (.ops [.asg 5 (.c (.fn 80 []))]) (.seq (.ops [.fa 6 0 2,.ld 7 1 false 6,.fa 8 0 3,.ld 9 1 false 8,.call (some 10) 39 [7,9],.mv 11 10,.g 11 true (.fa 12 1 2),.g 11 true (.ld 13 1 false 12),.g 11 true (.fa 14 1 3),.g 11 true (.ld 15 1 false 14),.g 11 true (.call (some 16) 37 [13,15,(.c (.fn 38 []))]),.pick 17 11 16 (kB false),.mv 18 17,.g 18 true (.fa 19 2 2),.g 18 true (.ld 20 1 false 19),.g 18 true (.fa 21 2 3),.g 18 true (.ld 22 1 false 21),.g 18 true (.call (some 23) 38 [20,22]),.pick 24 18 23 (kB false),.mv 25 24,.g 25 true (.fa 26 3 2),.g 25 true (.ld 27 1 false 26),.g 25 true (.fa 28 3 3),.g 25 true (.ld 29 1 false 28),.g 25 true (.mv 30 5),.g 25 true (.call (some 31) 82 [27,29,30]),.pick 32 25 31 (kB false),.mv 33 32,.g 33 true (.fa 34 4 2),.g 33 true (.ld 35 1 false 34),.g 33 true (.fa 36 4 3),.g 33 true (.ld 37 1 false 36),.g 33 true (.call (some 38) 38 [35,37]),.pick 39 33 38 (kB false),.mv 40 39,.g 40 true (.fa 41 5 2),.g 40 true (.ld 42 1 false 41),.g 40 true (.fa 43 5 3),.g 40 true (.ld 44 1 false 43),.g 40 true (.call (some 45) 83 [42,44]),.pick 46 40 45 (kB false),.mv 47 46,.g 47 true (.fa 48 6 2),.g 47 true (.ld 49 1 false 48),.g 47 true (.fa 50 6 3),.g 47 true (.ld 51 1 false 50),.g 47 true (.eqb 52 false 49 51),.pick 53 47 52 (kB false),.mv 54 53,.g 54 true (.fa 55 7 2),.g 54 true (.ld 56 1 false 55),.g 54 true (.fa 57 7 3),.g 54 true (.ld 58 1 false 57),.g 54 true (.bin 59 .eql 56 58),.pick 60 54 59 (kB false),.asg 4 60]) .ret)))
theorem bQ6:aY Tryz.prog 36=some (bWe,[.mv 0 4],61):=by kernel_rfl
def cPf (r:Bool):Exit→St→Prop:=aV [.mv 0 4] fun x _=>x=(fun y=>(vB y)) r
def aUt:AC:=(.loop (.seq (.ops [.bin 14 .lss 13 12]) (.seq (.cond 14 .skip (.exit 0)) (.seq (.block 1 (.seq (.ops [.mv 15 13,.asg 5 15]) (.seq (.dops [[],[],[0,1],[2],[],[],[4,5],[6],[3,7]] [.mv 16 0,.mv 17 5,.ia 18 1 16 17,.ld 19 1 false 18,.mv 20 1,.mv 21 5,.ia 22 1 20 21,.ld 23 1 false 22,.bin 24 .neq 19 23]) (.cond 24 (.seq (.ops [.asg 4 (kB false)]) .ret) .skip)))) (.ops [.bin 25 .add 13 (kI 1),.mv 13 25])))))
def bC8:AC:=(.seq (.ops [.asg 4 (kB true)]) .ret)
def bT6:AC:=(.seq (.ops [.asg 4 (kB false)]) (.seq (.seq (.ops [.mv 6 0,.len 7 6,.mv 8 1,.len 9 8,.bin 10 .neq 7 9]) (.cond 10 (.seq (.ops [.asg 4 (kB false)]) .ret) .skip)) (.seq (.seq (.ops [.mv 11 0,.len 12 11,.mv 13 (kI 0)]) (.block 0 aUt)) bC8)))
theorem bOj:aY Tryz.prog 39=some (bT6,[.mv 0 4],26):=by kernel_rfl
def aY3 (r:Bool):Exit→St→Prop:=aV [.mv 0 4] fun x _=>x=(fun y=>(vB y)) r
def cL5 (r:Bool):Exit→St→Prop:=(bD (wkK (avc Tryz.prog bC8 (aY3 r))) (aY3 r))
def cAq (r:Bool):Exit→St→Prop:=(bG 0 (cL5 r))
def cDt (p0:List Int) (p1:List Int) (x13:Int):St:=⟨[(0,(eP p0)),(1,(eP p1)),(12,(vI (p0.length:Int))),(13,(vI x13))],[]⟩
abbrev aJ7:=fun p0 p1 x13 r=>avc Tryz.prog aUt (cAq r) (cDt p0 p1 x13)
def aNr:AC:=(.loop (.seq (.ops [.bin 18 .lss 17 16]) (.seq (.cond 18 .skip (.exit 0)) (.seq (.block 1 (.seq (.ops [.mv 19 17,.ia 20 11 15 17,.ld 21 11 true 20,.alc 8 aGk,.asg 7 19,.st 11 8 21]) (.seq (.ops [.mv 22 1,.mv 23 7,.ia 24 11 22 23,.ld 25 11 true 24,.alc 9 aGk,.st 11 9 25]) (.seq (.ops [.mv 26 2,.ld 27 11 true 8,.ld 28 11 true 9,.callv (some 29) 26 [27,28],.not 30 29]) (.cond 30 (.seq (.ops [.asg 6 (kB false)]) .ret) .skip))))) (.ops [.bin 31 .add 17 (kI 1),.mv 17 31])))))
def bIj:AC:=(.seq (.ops [.asg 6 (kB true)]) .ret)
def cJg:AC:=(.seq (.ops [.asg 6 (kB false)]) (.seq (.seq (.ops [.mv 10 0,.len 11 10,.mv 12 1,.len 13 12,.bin 14 .neq 11 13]) (.cond 14 (.seq (.ops [.asg 6 (kB false)]) .ret) .skip)) (.seq (.seq (.ops [.mv 15 0,.len 16 15,.mv 17 (kI 0)]) (.block 0 aNr)) bIj)))
theorem bMq:aY Tryz.prog 82=some (cJg,[.mv 0 6],32):=by kernel_rfl
def aXc (r:Bool):Exit→St→Prop:=aV [.mv 0 6] fun x _=>x=(fun y=>(vB y)) r
def cI3 (r:Bool):Exit→St→Prop:=(bD (wkK (avc Tryz.prog bIj (aXc r))) (aXc r))
def bYn (r:Bool):Exit→St→Prop:=(bG 0 (cI3 r))
def bPt (p1:List bO) (p0:List bO) (x17:Int):St:=⟨[(1,(tN p1)),(2,(.fn 80 [])),(15,(tN p0)),(16,(vI (p0.length:Int))),(17,(vI x17))],[]⟩
abbrev aH2:=fun p1 p0 x17 r=>avc Tryz.prog aNr (bYn r) (bPt p1 p0 x17)
def cDz:AC:=(.seq (.ops [.box 2 104 0,.box 3 104 1,.asg 4 (kB false)]) (.seq (.ops [.fa 5 10 2,.ld 6 1 false 5,.fa 7 10 3,.ld 8 1 false 7,.eqb 9 false 6 8,.mv 10 9,.g 10 true (.fa 11 0 2),.g 10 true (.ld 12 10 true 11),.g 10 true (.fa 13 0 3),.g 10 true (.ld 14 10 true 13),.g 10 true (.call (some 15) 81 [12,14]),.pick 16 10 15 (kB false),.asg 4 16]) .ret))
theorem cJq:aY Tryz.prog 80=some (cDz,[.mv 0 4],17):=by kernel_rfl
def cOi (r:Bool):Exit→St→Prop:=aV [.mv 0 4] fun x _=>x=(fun y=>(vB y)) r
def cGg:AC:=(.seq (.ops [.box 2 74 0,.box 3 74 1,.asg 4 (kB false)]) (.seq (.ops [.fa 5 0 2,.ld 6 1 false 5,.fa 7 0 3,.ld 8 1 false 7,.bin 9 .eql 6 8,.mv 10 9,.g 10 true (.fa 11 1 2),.g 10 true (.ld 12 1 false 11),.g 10 true (.fa 13 1 3),.g 10 true (.ld 14 1 false 13),.g 10 true (.bin 15 .eql 12 14),.pick 16 10 15 (kB false),.mv 17 16,.g 17 true (.fa 18 2 2),.g 17 true (.ld 19 1 false 18),.g 17 true (.fa 20 2 3),.g 17 true (.ld 21 1 false 20),.g 17 true (.eqb 22 false 19 21),.pick 23 17 22 (kB false),.mv 24 23,.g 24 true (.fa 25 3 2),.g 24 true (.ld 26 3 true 25),.g 24 true (.fa 27 3 3),.g 24 true (.ld 28 3 true 27),.g 24 true (.eqv 29 false [0,0,1] 26 28),.pick 30 24 29 (kB false),.mv 31 30,.g 31 true (.fa 32 6 2),.g 31 true (.ld 33 1 false 32),.g 31 true (.fa 34 6 3),.g 31 true (.ld 35 1 false 34),.g 31 true (.bin 36 .eql 33 35),.pick 37 31 36 (kB false),.mv 38 37,.g 38 true (.fa 39 7 2),.g 38 true (.ld 40 1 false 39),.g 38 true (.fa 41 7 3),.g 38 true (.ld 42 1 false 41),.g 38 true (.bin 43 .eql 40 42),.pick 44 38 43 (kB false),.mv 45 44,.g 45 true (.fa 46 8 2),.g 45 true (.ld 47 1 false 46),.g 45 true (.fa 48 8 3),.g 45 true (.ld 49 1 false 48),.g 45 true (.call (some 50) 38 [47,49]),.pick 51 45 50 (kB false),.mv 52 51,.g 52 true (.fa 53 9 2),.g 52 true (.ld 54 1 false 53),.g 52 true (.fa 55 9 3),.g 52 true (.ld 56 1 false 55),.g 52 true (.call (some 57) 122 [54,56,(.c (.fn 36 []))]),.pick 58 52 57 (kB false),.asg 4 58]) .ret))
theorem cFh:aY Tryz.prog 81=some (cGg,[.mv 0 4],59):=by kernel_rfl
def cQq (r:Bool):Exit→St→Prop:=aV [.mv 0 4] fun x _=>x=(fun y=>(vB y)) r
def cAo:AC:=(.seq (.ops [.asg 4 (kB false)]) (.seq (.ops [.mv 5 0,.mv 6 1,.call (some 7) 84 [5,6,(.c (.fn 81 []))],.asg 4 7]) .ret))
theorem bL6:aY Tryz.prog 38=some (cAo,[.mv 0 4],8):=by kernel_rfl
def cOe (r:Bool):Exit→St→Prop:=aV [.mv 0 4] fun x _=>x=(fun y=>(vB y)) r
def aW9:AC:=(.loop (.seq (.ops [.bin 18 .lss 17 16]) (.seq (.cond 18 .skip (.exit 0)) (.seq (.block 1 (.seq (.ops [.mv 19 17,.ia 20 10 15 17,.ld 21 10 true 20,.alc 8 oO,.asg 7 19,.st 10 8 21]) (.seq (.ops [.mv 22 1,.mv 23 7,.ia 24 10 22 23,.ld 25 10 true 24,.alc 9 oO,.st 10 9 25]) (.seq (.ops [.mv 26 2,.ld 27 10 true 8,.ld 28 10 true 9,.callv (some 29) 26 [27,28],.not 30 29]) (.cond 30 (.seq (.ops [.asg 6 (kB false)]) .ret) .skip))))) (.ops [.bin 31 .add 17 (kI 1),.mv 17 31])))))
def bCj:AC:=(.seq (.ops [.asg 6 (kB true)]) .ret)
def bW6:AC:=(.seq (.ops [.asg 6 (kB false)]) (.seq (.seq (.ops [.mv 10 0,.len 11 10,.mv 12 1,.len 13 12,.bin 14 .neq 11 13]) (.cond 14 (.seq (.ops [.asg 6 (kB false)]) .ret) .skip)) (.seq (.seq (.ops [.mv 15 0,.len 16 15,.mv 17 (kI 0)]) (.block 0 aW9)) bCj)))
theorem bMy:aY Tryz.prog 84=some (bW6,[.mv 0 6],32):=by kernel_rfl
def bHb (r:Bool):Exit→St→Prop:=aV [.mv 0 6] fun x _=>x=(fun y=>(vB y)) r
def cGl (r:Bool):Exit→St→Prop:=(bD (wkK (avc Tryz.prog bCj (bHb r))) (bHb r))
def bOn (r:Bool):Exit→St→Prop:=(bG 0 (cGl r))
def bJs (p1:List aA) (p0:List aA) (x17:Int):St:=⟨[(1,(dX p1)),(2,(.fn 81 [])),(15,(dX p0)),(16,(vI (p0.length:Int))),(17,(vI x17))],[]⟩
abbrev aMd:=fun p1 p0 x17 r=>avc Tryz.prog aW9 (bOn r) (bJs p1 p0 x17)
def aVb:AC:=(.loop (.seq (.ops [.bin 18 .lss 17 16]) (.seq (.cond 18 .skip (.exit 0)) (.seq (.block 1 (.seq (.ops [.mv 19 17,.ia 20 8 15 17,.ld 21 8 true 20,.alc 8 pV,.asg 7 19,.st 8 8 21]) (.seq (.ops [.mv 22 1,.mv 23 7,.ia 24 8 22 23,.ld 25 8 true 24,.alc 9 pV,.st 8 9 25]) (.seq (.ops [.mv 26 2,.ld 27 8 true 8,.ld 28 8 true 9,.callv (some 29) 26 [27,28],.not 30 29]) (.cond 30 (.seq (.ops [.asg 6 (kB false)]) .ret) .skip))))) (.ops [.bin 31 .add 17 (kI 1),.mv 17 31])))))
def aYg:AC:=(.seq (.ops [.asg 6 (kB true)]) .ret)
def bJp:AC:=(.seq (.ops [.asg 6 (kB false)]) (.seq (.seq (.ops [.mv 10 0,.len 11 10,.mv 12 1,.len 13 12,.bin 14 .neq 11 13]) (.cond 14 (.seq (.ops [.asg 6 (kB false)]) .ret) .skip)) (.seq (.seq (.ops [.mv 15 0,.len 16 15,.mv 17 (kI 0)]) (.block 0 aVb)) aYg)))
theorem cF1:aY Tryz.prog 122=some (bJp,[.mv 0 6],32):=by kernel_rfl
def aWt (r:Bool):Exit→St→Prop:=aV [.mv 0 6] fun x _=>x=(fun y=>(vB y)) r
def cGv (r:Bool):Exit→St→Prop:=(bD (wkK (avc Tryz.prog aYg (aWt r))) (aWt r))
def bNi (r:Bool):Exit→St→Prop:=(bG 0 (cGv r))
def cFa (p1:List aL) (p0:List aL) (x17:Int):St:=⟨[(1,(rZ p1)),(2,(.fn 36 [])),(15,(rZ p0)),(16,(vI (p0.length:Int))),(17,(vI x17))],[]⟩
abbrev aMz:=fun p1 p0 x17 r=>avc Tryz.prog aVb (bNi r) (cFa p1 p0 x17)
def aRe:AC:=(.loop (.seq (.ops [.bin 14 .lss 13 12]) (.seq (.cond 14 .skip (.exit 0)) (.seq (.block 1 (.seq (.ops [.mv 15 13,.asg 5 15]) (.seq (.dops [[],[],[0,1],[2],[],[],[4,5],[6],[3,7]] [.mv 16 0,.mv 17 5,.ia 18 1 16 17,.ld 19 1 false 18,.mv 20 1,.mv 21 5,.ia 22 1 20 21,.ld 23 1 false 22,.bin 24 .neq 19 23]) (.cond 24 (.seq (.ops [.asg 4 (kB false)]) .ret) .skip)))) (.ops [.bin 25 .add 13 (kI 1),.mv 13 25])))))
def bBi:AC:=(.seq (.ops [.asg 4 (kB true)]) .ret)
def cIa:AC:=(.seq (.ops [.asg 4 (kB false)]) (.seq (.seq (.ops [.mv 6 0,.len 7 6,.mv 8 1,.len 9 8,.bin 10 .neq 7 9]) (.cond 10 (.seq (.ops [.asg 4 (kB false)]) .ret) .skip)) (.seq (.seq (.ops [.mv 11 0,.len 12 11,.mv 13 (kI 0)]) (.block 0 aRe)) bBi)))
theorem bPh:aY Tryz.prog 83=some (cIa,[.mv 0 4],26):=by kernel_rfl
def bHv (r:Bool):Exit→St→Prop:=aV [.mv 0 4] fun x _=>x=(fun y=>(vB y)) r
def bQ1 (r:Bool):Exit→St→Prop:=(bD (wkK (avc Tryz.prog bBi (bHv r))) (bHv r))
def bUz (r:Bool):Exit→St→Prop:=(bG 0 (bQ1 r))
def bTn (p0:List (List UInt8)) (p1:List (List UInt8)) (x13:Int):St:=⟨[(0,(qP p0)),(1,(qP p1)),(12,(vI (p0.length:Int))),(13,(vI x13))],[]⟩
abbrev aGl:=fun p0 p1 x13 r=>avc Tryz.prog aRe (bUz r) (bTn p0 p1 x13)
def aQ7:AC:=(.loop (.seq (.ops [.bin 18 .lss 17 16]) (.seq (.cond 18 .skip (.exit 0)) (.seq (.block 1 (.seq (.ops [.mv 19 17,.ia 20 1 15 17,.ld 21 1 false 20,.asg 7 19,.asg 8 21]) (.seq (.ops [.mv 22 1,.mv 23 7,.ia 24 1 22 23,.ld 25 1 false 24,.asg 9 25]) (.seq (.ops [.mv 26 2,.mv 27 8,.mv 28 9,.callv (some 29) 26 [27,28],.not 30 29]) (.cond 30 (.seq (.ops [.asg 6 (kB false)]) .ret) .skip))))) (.ops [.bin 31 .add 17 (kI 1),.mv 17 31])))))
def bGt:AC:=(.seq (.ops [.asg 6 (kB true)]) .ret)
def bV2:AC:=(.seq (.ops [.asg 6 (kB false)]) (.seq (.seq (.ops [.mv 10 0,.len 11 10,.mv 12 1,.len 13 12,.bin 14 .neq 11 13]) (.cond 14 (.seq (.ops [.asg 6 (kB false)]) .ret) .skip)) (.seq (.seq (.ops [.mv 15 0,.len 16 15,.mv 17 (kI 0)]) (.block 0 aQ7)) bGt)))
theorem cJs:aY Tryz.prog 37=some (bV2,[.mv 0 6],32):=by kernel_rfl
def bG9 (r:Bool):Exit→St→Prop:=aV [.mv 0 6] fun x _=>x=(fun y=>(vB y)) r
def bS6 (r:Bool):Exit→St→Prop:=(bD (wkK (avc Tryz.prog bGt (bG9 r))) (bG9 r))
def bLt (r:Bool):Exit→St→Prop:=(bG 0 (bS6 r))
def bVb (p1:List (List aA)) (p0:List (List aA)) (x17:Int):St:=⟨[(1,(.d (.sl 1 (p1.map (cSl 10 aJ))))),(2,(.fn 38 [])),(15,(.d (.sl 1 (p0.map (cSl 10 aJ))))),(16,(vI (p0.length:Int))),(17,(vI x17))],[]⟩
abbrev aLz:=fun p1 p0 x17 r=>avc Tryz.prog aQ7 (bLt r) (bVb p1 p0 x17)
def aS7:AC:=(.loop (.seq (.ops [.bin 9 .lss 8 7]) (.seq (.cond 9 .skip (.exit 0)) (.seq (.block 1 (.seq (.ops [.ia 10 10 6 8,.ld 11 10 true 10,.alc 5 oO,.st 10 5 11]) (.ops [.mv 12 3,.ld 13 10 true 5,.call (some 14) 57 [13],.max 15 12 14,.asg 3 15]))) (.ops [.bin 16 .add 8 (kI 1),.mv 8 16])))))
def aXi:AC:=(.seq (.ops [.mv 17 3,.asg 2 17]) .ret)
def cH1:AC:=(.seq (.ops [.asg 2 (kI 0)]) (.seq (.ops [.asg 3 (kI 0)]) (.seq (.seq (.ops [.mv 6 0,.len 7 6,.mv 8 (kI 0)]) (.block 0 aS7)) aXi)))
theorem cJm:aY Tryz.prog 20=some (cH1,[.mv 0 2],18):=by kernel_rfl
def bC5 (r:Int):Exit→St→Prop:=aV [.mv 0 2] fun x _=>x=(fun y=>(vI y)) r
def bTj (r:Int):Exit→St→Prop:=(bD (wkK (avc Tryz.prog aXi (bC5 r))) (bC5 r))
def cIi (r:Int):Exit→St→Prop:=(bG 0 (bTj r))
def cLj (p0:List aA) (x3:Int) (x8:Int):St:=⟨[(3,(vI x3)),(6,(dX p0)),(7,(vI (p0.length:Int))),(8,(vI x8))],[]⟩
abbrev aLi:=fun p0 x3 x8 r=>avc Tryz.prog aS7 (cIi r) (cLj p0 x3 x8)
def aQk:AC:=(.loop (.seq (.ops [.bin 13 .lss 12 11]) (.seq (.cond 13 .skip (.exit 0)) (.seq (.block 1 (.seq (.ops [.ia 14 8 10 12,.ld 15 8 true 14,.alc 5 pV,.st 8 5 15]) (.ops [.mv 16 3,.ld 17 8 true 5,.call (some 18) 52 [17],.max 19 16 18,.asg 3 19]))) (.ops [.bin 20 .add 12 (kI 1),.mv 12 20])))))
def bBx:AC:=(.seq (.ops [.mv 21 3,.bin 22 .add (kI 1) 21,.asg 2 22]) .ret)
def bX6:AC:=(.seq (.ops [.box 1 74 0,.asg 2 (kI 0)]) (.seq (.ops [.fa 6 8 1,.ld 7 1 false 6,.call (some 8) 20 [7],.asg 3 8]) (.seq (.seq (.ops [.fa 9 9 1,.ld 10 1 false 9,.len 11 10,.mv 12 (kI 0)]) (.block 0 aQk)) bBx)))
theorem cG7:aY Tryz.prog 57=some (bX6,[.mv 0 2],23):=by kernel_rfl
def bF1 (r:Int):Exit→St→Prop:=aV [.mv 0 2] fun x _=>x=(fun y=>(vI y)) r
def cIc (r:Int):Exit→St→Prop:=(bD (wkK (avc Tryz.prog bBx (bF1 r))) (bF1 r))
def cBb (r:Int):Exit→St→Prop:=(bG 0 (cIc r))
def bX9 (p0:aA) (x3:Int) (x12:Int):St:=⟨[(3,(vI x3)),(10,(rZ p0.sub)),(11,(vI (p0.sub.length:Int))),(12,(vI x12))],[]⟩
abbrev aNe:=fun p0 x3 x12 r=>avc Tryz.prog aQk (cBb r) (bX9 p0 x3 x12)
def bS5:AC:=(.seq (.ops [.box 1 30 0,.asg 2 (kI 0)]) (.seq (.ops [.ld 3 8 true 1,.call (some 4) 98 [3],.call (some 5) 20 [4],.asg 2 5]) .ret))
theorem cF8:aY Tryz.prog 52=some (bS5,[.mv 0 2],6):=by kernel_rfl
def cPs (r:Int):Exit→St→Prop:=aV [.mv 0 2] fun x _=>x=(fun y=>(vI y)) r
def aSp:AC:=(.loop (.seq (.ops [.bin 9 .lss 8 7]) (.seq (.cond 9 .skip (.exit 0)) (.seq (.block 1 (.seq (.ops [.mv 10 8,.ia 11 2 6 8,.ld 12 2 true 11,.alc 4 [dC,(.nil 2)],.asg 3 10,.st 2 4 12]) (.seq (.ops [.ld 13 2 true 4,.call (some 14) 55 [13],.not 15 14,.mv 16 15,.g 16 false (.ld 17 1 true 1),.g 16 false (.fa 18 0 4),.g 16 false (.ld 19 1 false 18),.g 16 false (.call (some 20) 56 [17,19]),.g 16 false (.mv 21 3),.g 16 false (.bin 22 .neq 20 21),.pick 23 16 (kB true) 22]) (.cond 23 (.seq (.ops [.asg 2 (kB false)]) .ret) .skip)))) (.ops [.bin 24 .add 8 (kI 1),.mv 8 24])))))
def bIz:AC:=(.seq (.ops [.fa 25 0 1,.ld 26 1 false 25,.len 27 26,.bin 28 .leq 27 (kI 4),.asg 2 28]) .ret)
def cDe:AC:=(.seq (.ops [.box 1 37 0,.asg 2 (kB false)]) (.seq (.seq (.ops [.fa 5 0 1,.ld 6 1 false 5,.len 7 6,.mv 8 (kI 0)]) (.block 0 aSp)) bIz))
theorem bYm:aY Tryz.prog 17=some (cDe,[.mv 0 2],29):=by kernel_rfl
def bGa (r:Bool):Exit→St→Prop:=aV [.mv 0 2] fun x _=>x=(fun y=>(vB y)) r
def bL1 (r:Bool):Exit→St→Prop:=(bD (wkK (avc Tryz.prog bIz (bGa r))) (bGa r))
def cGr (r:Bool):Exit→St→Prop:=(bG 0 (bL1 r))
def cHx (p0:aP) (x8:Int):St:=⟨[(1,(.ptr 1 0)),(6,(aEm p0.tables)),(7,(vI (p0.tables.length:Int))),(8,(vI x8))],[(1,dD p0)]⟩
abbrev aLy:=fun p0 x8 r=>avc Tryz.prog aSp (cGr r) (cHx p0 x8)
def cDv:AC:=(.seq (.ops [.box 2 37 0,.box 3 9 1,.asg 4 (kI 0)]) (.seq (.ops [.fa 5 0 2,.ld 6 1 false 5,.mkf 7 105 [3],.call (some 8) 104 [6,7],.asg 4 8]) .ret))
theorem bWm:aY Tryz.prog 56=some (cDv,[.mv 0 4],9):=by kernel_rfl
def cNp (r:Int):Exit→St→Prop:=aV [.mv 0 4] fun x _=>x=(fun y=>(vI y)) r
def aTi:AC:=(.loop (.seq (.ops [.bin 9 .lss 8 7]) (.seq (.cond 9 .skip (.exit 0)) (.seq (.block 1 (.seq (.ops [.mv 10 8,.asg 5 10]) (.seq (.ops [.mv 11 1,.mv 12 0,.mv 13 5,.ia 14 2 12 13,.ld 15 2 true 14,.callv (some 16) 11 [15]]) (.cond 16 (.seq (.ops [.mv 17 5,.asg 4 17]) .ret) .skip)))) (.ops [.bin 18 .add 8 (kI 1),.mv 8 18])))))
def bHi:AC:=(.seq (.ops [.asg 4 (kI (-1))]) .ret)
def bVp:AC:=(.seq (.ops [.asg 4 (kI 0)]) (.seq (.seq (.ops [.mv 6 0,.len 7 6,.mv 8 (kI 0)]) (.block 0 aTi)) bHi))
theorem cCh:aY Tryz.prog 104=some (bVp,[.mv 0 4],19):=by kernel_rfl
def aXu (c0_0:List UInt8) (r:Int):Exit→St→Prop:=aV [.mv 0 4] fun x b=>x=(fun (y:Int)=>(vI y)) r∧bR ((fun (y:Int)=>[(1000000,[(vS c0_0)])]) r) b
def bUc (c0_0:List UInt8) (r:Int):Exit→St→Prop:=(bD (wkK (avc Tryz.prog bHi (aXu c0_0 r))) (aXu c0_0 r))
def cI9 (c0_0:List UInt8) (r:Int):Exit→St→Prop:=(bG 0 (bUc c0_0 r))
def bOp (p0:List bI) (c0_0:List UInt8) (x8:Int):St:=⟨[(0,(aEm p0)),(1,(.fn 105 [(.ptr 1000000 0)])),(7,(vI (p0.length:Int))),(8,(vI x8))],[(1000000,[(vS c0_0)])]⟩
abbrev aN1:=fun p0 c0_0 x8 r=>avc Tryz.prog aTi (cI9 c0_0 r) (bOp p0 c0_0 x8)
def cEp:AC:=(.seq (.ops [.box 2 56 0,.asg 3 (kB false)]) (.seq (.ops [.fa 4 0 2,.ld 5 1 false 4,.ld 6 1 false 1,.bin 7 .eql 5 6,.asg 3 7]) .ret))
theorem cKx:aY Tryz.prog 105=some (cEp,[.mv 0 3],8):=by kernel_rfl
def cPo (c0_0:List UInt8) (r:Bool):Exit→St→Prop:=aV [.mv 0 3] fun x b=>x=(fun (y:Bool)=>(vB y)) r∧bR ((fun (y:Bool)=>[(1000000,[(vS c0_0)])]) r) b
def aRy:AC:=(.loop (.seq (.ops [.bin 9 .lss 8 7]) (.seq (.cond 9 .skip (.exit 0)) (.seq (.block 1 (.seq (.ops [.mv 10 8,.ia 11 2 6 8,.ld 12 2 true 11,.alc 4 [dC,aQ],.asg 3 10,.st 2 4 12]) (.seq (.ops [.fa 13 0 4,.ld 14 1 false 13,.call (some 15) 102 [14],.not 16 15,.mv 17 16,.g 17 false (.fa 18 1 4),.g 17 false (.ld 19 1 false 18),.g 17 false (.bin 20 .lss 19 (kI 1)),.pick 21 17 (kB true) 20,.mv 22 21,.g 22 false (.fa 23 1 4),.g 22 false (.ld 24 1 false 23),.g 22 false (.bin 25 .gtr 24 (kI 3)),.pick 26 22 (kB true) 25,.mv 27 26,.g 27 false (.ld 28 2 true 1),.g 27 false (.fa 29 0 4),.g 27 false (.ld 30 1 false 29),.g 27 false (.call (some 31) 103 [28,30]),.g 27 false (.mv 32 3),.g 27 false (.bin 33 .neq 31 32),.pick 34 27 (kB true) 33]) (.cond 34 (.seq (.ops [.asg 2 (kB false)]) .ret) .skip)))) (.ops [.bin 35 .add 8 (kI 1),.mv 8 35])))))
def bGp:AC:=(.seq (.ops [.fa 36 0 1,.ld 37 1 false 36,.call (some 38) 102 [37],.mv 39 38,.g 39 true (.fa 40 1 1),.g 39 true (.ld 41 1 false 40),.g 39 true (.len 42 41),.g 39 true (.bin 43 .geq 42 (kI 1)),.pick 44 39 43 (kB false),.mv 45 44,.g 45 true (.fa 46 1 1),.g 45 true (.ld 47 1 false 46),.g 45 true (.len 48 47),.g 45 true (.bin 49 .leq 48 (kI 4)),.pick 50 45 49 (kB false),.asg 2 50]) .ret)
def cA0:AC:=(.seq (.ops [.box 1 56 0,.asg 2 (kB false)]) (.seq (.seq (.ops [.fa 5 1 1,.ld 6 1 false 5,.len 7 6,.mv 8 (kI 0)]) (.block 0 aRy)) bGp))
theorem cLc:aY Tryz.prog 55=some (cA0,[.mv 0 2],51):=by kernel_rfl
def bFk (r:Bool):Exit→St→Prop:=aV [.mv 0 2] fun x _=>x=(fun y=>(vB y)) r
def bV4 (r:Bool):Exit→St→Prop:=(bD (wkK (avc Tryz.prog bGp (bFk r))) (bFk r))
def bN1 (r:Bool):Exit→St→Prop:=(bG 0 (bV4 r))
def cIq (p0:bI) (x8:Int):St:=⟨[(1,(.ptr 1 0)),(6,(aDx p0.cols)),(7,(vI (p0.cols.length:Int))),(8,(vI x8))],[(1,aFd p0)]⟩
abbrev aGc:=fun p0 x8 r=>avc Tryz.prog aRy (bN1 r) (cIq p0 x8)
def bP1:AC:=(.seq (.ops [.box 2 56 0,.box 3 9 1,.asg 4 (kI 0)]) (.seq (.ops [.fa 5 1 2,.ld 6 1 false 5,.mkf 7 134 [3],.call (some 8) 133 [6,7],.asg 4 8]) .ret))
theorem cDa:aY Tryz.prog 103=some (bP1,[.mv 0 4],9):=by kernel_rfl
def cOl (r:Int):Exit→St→Prop:=aV [.mv 0 4] fun x _=>x=(fun y=>(vI y)) r
def aSq:AC:=(.loop (.seq (.ops [.bin 9 .lss 8 7]) (.seq (.cond 9 .skip (.exit 0)) (.seq (.block 1 (.seq (.ops [.mv 10 8,.asg 5 10]) (.seq (.ops [.mv 11 1,.mv 12 0,.mv 13 5,.ia 14 2 12 13,.ld 15 2 true 14,.callv (some 16) 11 [15]]) (.cond 16 (.seq (.ops [.mv 17 5,.asg 4 17]) .ret) .skip)))) (.ops [.bin 18 .add 8 (kI 1),.mv 8 18])))))
def bDo:AC:=(.seq (.ops [.asg 4 (kI (-1))]) .ret)
def bPv:AC:=(.seq (.ops [.asg 4 (kI 0)]) (.seq (.seq (.ops [.mv 6 0,.len 7 6,.mv 8 (kI 0)]) (.block 0 aSq)) bDo))
theorem bWp:aY Tryz.prog 133=some (bPv,[.mv 0 4],19):=by kernel_rfl
def aYd (c0_0:List UInt8) (r:Int):Exit→St→Prop:=aV [.mv 0 4] fun x b=>x=(fun (y:Int)=>(vI y)) r∧bR ((fun (y:Int)=>[(1000000,[(vS c0_0)])]) r) b
def cFn (c0_0:List UInt8) (r:Int):Exit→St→Prop:=(bD (wkK (avc Tryz.prog bDo (aYd c0_0 r))) (aYd c0_0 r))
def cJh (c0_0:List UInt8) (r:Int):Exit→St→Prop:=(bG 0 (cFn c0_0 r))
def cG8 (p0:List bV) (c0_0:List UInt8) (x8:Int):St:=⟨[(0,(aDx p0)),(1,(.fn 134 [(.ptr 1000000 0)])),(7,(vI (p0.length:Int))),(8,(vI x8))],[(1000000,[(vS c0_0)])]⟩
abbrev aGr:=fun p0 c0_0 x8 r=>avc Tryz.prog aSq (cJh c0_0 r) (cG8 p0 c0_0 x8)
def cK5:AC:=(.seq (.ops [.box 2 92 0,.asg 3 (kB false)]) (.seq (.ops [.fa 4 0 2,.ld 5 1 false 4,.ld 6 1 false 1,.bin 7 .eql 5 6,.asg 3 7]) .ret))
theorem bUg:aY Tryz.prog 134=some (cK5,[.mv 0 3],8):=by kernel_rfl
def cP6 (c0_0:List UInt8) (r:Bool):Exit→St→Prop:=aV [.mv 0 3] fun x b=>x=(fun (y:Bool)=>(vB y)) r∧bR ((fun (y:Bool)=>[(1000000,[(vS c0_0)])]) r) b
def bQt:AC:=(.seq (.ops [.box 2 37 0,.box 3 30 1,.asg 4 (kB false)]) (.seq (.seq (.dops [[],[0],[1],[2,1],[3],[4,3,3],[3],[6,5,3],[5,7,7,3],[8,3],[3,9]] [.ld 7 1 true 2,.call (some 8) 17 [7],.not 9 8,.mv 10 9,.g 10 false (.ld 11 8 true 3),.g 10 false (.call (some 12) 52 [11]),.g 10 false (.ld 13 8 true 3),.g 10 false (.call (some 14) 53 [13]),.g 10 false (.call (some 15) 19 [12,14]),.g 10 false (.not 16 15),.pick 17 10 (kB true) 16]) (.cond 17 (.seq (.ops [.asg 4 (kB false)]) .ret) .skip)) (.seq (.ops [.ld 19 1 true 2,.ld 20 8 true 3,.call (some 21) 54 [19,(.c (.nil 1)),20],.mv 18 21,.ext 22 18 0,.ext 23 18 1,.asg 5 22,.asg 6 23]) (.seq (.ops [.mv 24 6,.asg 4 24]) .ret))))
theorem cEf:aY Tryz.prog 16=some (bQt,[.mv 0 4],25):=by kernel_rfl
def cPw (r:Bool):Exit→St→Prop:=aV [.mv 0 4] fun x _=>x=(fun y=>(vB y)) r
def aOy:AC:=(.loop (.seq (.ops [.bin 11 .lss 10 9]) (.seq (.cond 11 .skip (.exit 0)) (.seq (.block 1 (.seq (.ops [.ia 12 1 8 10,.ld 13 1 false 12,.asg 5 13]) (.ops [.mv 14 3,.mv 15 5,.app 16 74 10 120 14 15,.asg 3 16]))) (.ops [.bin 17 .add 10 (kI 1),.mv 10 17])))))
def bG0:AC:=(.seq (.ops [.mv 18 3,.fa 19 12 1,.ld 20 1 false 19,.app 21 74 10 120 18 20,.asg 3 21]) (.seq (.ops [.mv 22 3,.fa 23 13 1,.ld 24 1 false 23,.app 25 74 10 120 22 24,.asg 2 25]) .ret))
def cL7:AC:=(.seq (.ops [.box 1 32 0,.asg 2 (.c (.nil 10))]) (.seq (.ops [.bsl 6 74 10 [],.asg 3 6]) (.seq (.seq (.ops [.fa 7 10 1,.ld 8 1 false 7,.len 9 8,.mv 10 (kI 0)]) (.block 0 aOy)) bG0)))
theorem bYr:aY Tryz.prog 21=some (cL7,[.mv 0 2],26):=by kernel_rfl
def bFz (r:List aA):Exit→St→Prop:=aV [.mv 0 2] fun x _=>x=(fun y=>(dX y)) r
def bNh (r:List aA):Exit→St→Prop:=(bD (wkK (avc Tryz.prog bG0 (bFz r))) (bFz r))
def cAs (r:List aA):Exit→St→Prop:=(bG 0 (bNh r))
def bMz (p0:bC) (x3:List aA) (x10:Int):St:=⟨[(1,(.ptr 1 0)),(3,(.osl 3 74 10 (x3.map aJ))),(8,(.d (.sl 1 (p0.rows.map (cSl 10 aJ))))),(9,(vI (p0.rows.length:Int))),(10,(vI x10))],[(1,qQ p0)]⟩
abbrev aG9:=fun p0 x3 x10 r=>avc Tryz.prog aOy (cAs r) (bMz p0 x3 x10)
end Go.Proofs.YthgkmdkjegiaoabGreat
