/- What the functions compute,in plain Lean. -/
import Derived.Test.YtpedjchcopnlmaaGreatFEvalOut
namespace Go.Ab
open Go
open _root_.Option renaming bind_some→QA,bind_eq_bind→QB,some.injEq→QI
open Go.IntKind renaming wrap→QC,bits→WF,wrap_i64→XK
open _root_.Bool renaming false_eq_true→QD,not_true→QF,and_assoc→QH,and_eq_true→QJ,true_and→QK,not_false→QM,and_true→QN,false_or→QO,or_false→QP,false_and→QQ,and_false→QR,true_or→QS,or_true→QT,eq_iff_iff→QW,and_self→WG,not_eq_true'→WK
open _root_.List renaming getElem_mem→QE,drop_eq_getElem_cons→QG,length_append→QL,length_pos_of_mem→QU,length_cons→QX,mem_append→QY,mem_cons_of_mem→QZ,replicate→WA,length→WB,flatMap_cons→WC,length_nil→WD,nil_append→WE,append_assoc→WH,map_cons→WI,zipWith→WJ,all_cons→WL,length_take→WM,length_map→WN,getElem?_eq_getElem→WO,length_singleton→WP,nil_sublist→WQ,drop_zero→WR,mem_cons→WW,append_nil→WX,sum_cons→WY,mem_flatMap→WZ,getElem_map→XA,drop_length→XB
open _root_.Nat renaming le_trans→QV,lt_irrefl→WT,mul_le_mul_right→WU,succ_mul→WV,mul_le_mul→XG,pow_succ→XH,pow_le_pow_right→XI,le_refl→XJ
open _root_.Int renaming tdiv_one→WS,mul_comm→XC,natAbs_tmod→XD,tdiv_neg→XF
def bG1 (p0:iP) (c0_0:List UInt8):Option Bool :=
  some (decide (p0.name=c0_0))
def aJ0 (p0:List iP) (c0_0:List UInt8) (x8:Int):Option Int :=
  if (decide (x8<(p0.length:Int)))=true then ((idx p0 x8)>>=fun (y1:iP)=>(bG1 y1 c0_0)>>=fun (y2:Bool)=>if y2=true then (some x8) else (aJ0 p0 c0_0 (QC .i64 (x8+1)))) else (some (-1))
  partial_fixpoint
def bDy (p0:List iP) (c0_0:List UInt8):Option Int :=
  aJ0 p0 c0_0 0
def bCv (p0:gG) (p1:List UInt8):Option Int :=
  (bDy p0.cols p1)>>=fun (y1:Int)=>some y1
def aKj (p0:gG) (x3:List Int) (x10:Int):Option (List Int) :=
  if (decide (x10<(p0.cols.length:Int)))=true then ((idx p0.cols x10)>>=fun (y1:iP)=>(appG 8 x3 ([y1.type]:List Int))>>=fun (y2:List Int)=>aKj p0 y2 (QC .i64 (x10+1))) else (some x3)
  partial_fixpoint
def aTy (p0:gG):Option (List Int) :=
  aKj p0 ([]:List Int) 0
def aEd (p0:aQ) (qN:List aB) (x27:Int):Option (List aB) :=
  if (decide (x27<(p0.order.length:Int)))=true then ((idx p0.order x27)>>=fun (y5:bF)=>(appG 120 qN ([y5.expr]:List aB))>>=fun (y6:List aB)=>aEd p0 y6 (QC .i64 (x27+1))) else ((appG 120 qN p0.items)>>=fun (y7:List aB)=>some y7)
  partial_fixpoint
def aMi (p0:aQ) (x3:List aB) (x12:Int):Option (List aB) :=
  if (decide (x12<(p0.on_.length:Int)))=true then ((idx p0.on_ x12)>>=fun (y1:List aB)=>(appG 120 x3 y1)>>=fun (y2:List aB)=>aMi p0 y2 (QC .i64 (x12+1))) else ((appG 120 x3 p0.where_)>>=fun (y3:List aB)=>aEd p0 y3 0)
  partial_fixpoint
def bEb (p0:aQ):Option (List aB) :=
  aMi p0 ([]:List aB) 0
def bBd (p0:List aB):Option Bool :=
  some (decide (1<(p0.length:Int)))
def aIc (p0:List (List aB)) (x8:Int):Option Int :=
  if (decide (x8<(p0.length:Int)))=true then ((idx p0 x8)>>=fun (y1:List aB)=>(bBd y1)>>=fun (y2:Bool)=>if y2=true then (some x8) else (aIc p0 (QC .i64 (x8+1)))) else (some (-1))
  partial_fixpoint
def bAv (p0:List (List aB)):Option Int :=
  aIc p0 0
def aUc (p0:List (List aB)):Option Bool :=
  (bAv p0)>>=fun (y1:Int)=>some (decide (0≤y1))
def bHh (p0:List UInt8):Option Bool :=
  (xQ p0)>>=fun (y1:Bool)=>some (!y1)
def aKf (p0:List (List UInt8)) (x8:Int):Option Int :=
  if (decide (x8<(p0.length:Int)))=true then ((idx p0 x8)>>=fun (y1:List UInt8)=>(bHh y1)>>=fun (y2:Bool)=>if y2=true then (some x8) else (aKf p0 (QC .i64 (x8+1)))) else (some (-1))
  partial_fixpoint
def bCc (p0:List (List UInt8)):Option Int :=
  aKf p0 0
def aWc (p0:List (List UInt8)):Option Bool :=
  (bCc p0)>>=fun (y1:Int)=>some (decide (0≤y1))
def aTw (p0:aQ):Option Bool :=
  (some (if (decide ((p0.tables.length:Int)<1))=true then true else (decide (3<(p0.tables.length:Int)))))>>=fun (y1:Bool)=>(some (if y1=true then true else (!decide ((p0.on_.length:Int)=(p0.tables.length:Int)))))>>=fun (y2:Bool)=>(if (true&&(y2==false))=true then idx p0.on_ 0 else some default)>>=fun (y3:List aB)=>(some (if y2=true then true else (decide (0<(y3.length:Int)))))>>=fun (y4:Bool)=>(some (if y4=true then true else (decide (1<(p0.where_.length:Int)))))>>=fun (y5:Bool)=>(some (if y5=true then true else (decide (12<(p0.order.length:Int)))))>>=fun (y6:Bool)=>if y6=true then (some false) else ((some (if (decide (1≤(p0.items.length:Int)))=true then (decide ((p0.items.length:Int)≤12)) else false))>>=fun (y7:Bool)=>(some (if y7=true then (decide ((p0.names.length:Int)=(p0.items.length:Int))) else false))>>=fun (y8:Bool)=>(some (if y8=true then (decide ((-1)≤p0.limit)) else false))>>=fun (y9:Bool)=>(if (true&&(y9==true))=true then aUc p0.on_ else some default)>>=fun (y10:Bool)=>(some (if y9=true then (!y10) else false))>>=fun (y11:Bool)=>(if (true&&(y11==true))=true then aWc p0.names else some default)>>=fun (y12:Bool)=>(some (if y11=true then (!y12) else false))>>=fun (y13:Bool)=>some y13)
def aC3 (p0:Int):Option Bool :=
  (some (if (decide (p0=0))=true then true else (decide (p0=3))))>>=fun (y1:Bool)=>some y1
def aPc (p0:aB):Option Bool :=
  (L6 (eT.mk p0.kind p0.op false p0.value [] [120] ([]:List eT) ([]:List jV)))>>=fun (y1:kW×Bool)=>(if (true&&(y1.2==true))=true then some (if y1.1.op=true then true else (decide (p0.op=0))) else some default)>>=fun (y2:Bool)=>(some (if y1.2=true then y2 else false))>>=fun (y3:Bool)=>(if (true&&(y3==true))=true then some (if y1.1.not_=true then true else (!p0.not_)) else some default)>>=fun (y4:Bool)=>(some (if y3=true then y4 else false))>>=fun (y5:Bool)=>(if (true&&(y5==true))=true then some (if y1.1.value=true then true else ((decide (p0.value.kind=0))&&((decide (p0.value.num=0))&&((decide (p0.value.text=[]))&&true)))) else some default)>>=fun (y6:Bool)=>(some (if y5=true then y6 else false))>>=fun (y7:Bool)=>(if ((true&&(y7==true))&&(y1.1.name==false))=true then some (if (decide (p0.up=0))=true then (decide (p0.at_=0)) else false) else some default)>>=fun (y8:Bool)=>(if (true&&(y7==true))=true then some (if y1.1.name=true then true else y8) else some default)>>=fun (y9:Bool)=>(some (if y7=true then y9 else false))>>=fun (y10:Bool)=>(some (if y10=true then (decide (y1.1.least≤(p0.kids.length:Int))) else false))>>=fun (y11:Bool)=>(some (if y11=true then (decide ((p0.kids.length:Int)≤y1.1.most)) else false))>>=fun (y12:Bool)=>(some (if y12=true then (decide ((p0.sub.length:Int)=y1.1.subs)) else false))>>=fun (y13:Bool)=>some y13
def aJ1 (p0:Int) (p1:Int) (p2:Int):Option Bool :=
  (some (if (decide (p1=p0))=true then true else (decide (p1=0))))>>=fun (y1:Bool)=>(if (true&&(y1==true))=true then some (if (decide (p2=p0))=true then true else (decide (p2=0))) else some default)>>=fun (y2:Bool)=>(some (if y1=true then y2 else false))>>=fun (y3:Bool)=>some y3
def aEh (x8:Int) (x9:Bool):Option (Int×Bool) :=
  if (!x9)=true then (some (0,false)) else (some (x8,true))
def aX6 (p0:Int):Option Bool :=
  (some (if (decide (0≤p0))=true then (decide (p0≤3)) else false))>>=fun (y1:Bool)=>some y1
def aPl (p0:Int) (p1:Int):Option (Int×Bool) :=
  (aX6 p0)>>=fun (y1:Bool)=>(if (true&&((!y1)==false))=true then aX6 p1 else some default)>>=fun (y2:Bool)=>(some (if (!y1)=true then true else (!y2)))>>=fun (y3:Bool)=>if y3=true then (some (0,false)) else (if (decide (p0=0))=true then (some (p1,true)) else ((some (if (decide (p1=0))=true then true else (decide (p0=p1))))>>=fun (y4:Bool)=>if y4=true then (some (p0,true)) else (some (0,false))))
def aZ3 (p0:Int) (p1:Int) (p2:Int):Option (Int×Bool) :=
  (some (if (decide (p0<1))=true then true else (decide (14<p0))))>>=fun (y1:Bool)=>if y1=true then (aEh 0 false) else (if (decide (p0≤2))=true then ((aC3 p1)>>=fun (y2:Bool)=>(if (true&&(y2==true))=true then aC3 p2 else some default)>>=fun (y3:Bool)=>(some (if y2=true then y3 else false))>>=fun (y4:Bool)=>aEh 3 y4) else (if (decide (p0≤8))=true then ((aPl p1 p2)>>=fun (y5:Int×Bool)=>aEh 3 y5.2) else (if (decide (p0=9))=true then ((aJ1 2 p1 p2)>>=fun (y6:Bool)=>aEh 2 y6) else ((aJ1 1 p1 p2)>>=fun (y7:Bool)=>aEh 1 y7))))
def aYk (p0:List Int):Option (List Int) :=
  if (decide ((p0.length:Int)=0))=true then (some ([]:List Int)) else ((appG 8 ([]:List Int) p0)>>=fun (y1:List Int)=>some y1)
def aJm (p0:List Int) (x4:Int) (x11:Int):Option (Int×Bool) :=
  if (decide (x11<(p0.length:Int)))=true then ((idx p0 x11)>>=fun (y1:Int)=>(aPl x4 y1)>>=fun (y2:Int×Bool)=>if (!y2.2)=true then (some (0,false)) else (aJm p0 y2.1 (QC .i64 (x11+1)))) else (some (x4,true))
  partial_fixpoint
def aQa (p0:List Int):Option (Int×Bool) :=
  aJm p0 0 0
def aF1 (p1:List Int) (p2:List Int) (x40:Bool):Option (Int×Bool) :=
  if x40=true then (some (3,true)) else ((aYk p1)>>=fun (y6:List Int)=>(appG 8 y6 p2)>>=fun (y7:List Int)=>(aQa y7)>>=fun (y8:Int×Bool)=>if (!y8.2)=true then (some (0,false)) else (some (3,true)))
def aVw (p0:Int) (p1:Int):Option (Int×Bool) :=
  (if (true&&((decide (p0=15))==true))=true then aC3 p1 else some default)>>=fun (y1:Bool)=>(some (if (decide (p0=15))=true then y1 else false))>>=fun (y2:Bool)=>if y2=true then (some (3,true)) else ((if (true&&((decide (p0=16))==true))=true then aJ1 1 p1 p1 else some default)>>=fun (y3:Bool)=>(some (if (decide (p0=16))=true then y3 else false))>>=fun (y4:Bool)=>if y4=true then (some (1,true)) else (some (0,false)))
def yF (p0:aB) (p1:List Int) (p2:List Int):Option (Int×Bool) :=
  if (decide (p0.kind=1))=true then (some (p0.value.kind,true)) else (if (decide (p0.kind=3))=true then ((idx p1 0)>>=fun (y1:Int)=>(aVw p0.op y1)>>=fun (y2:Int×Bool)=>some (y2.1,y2.2)) else (if (decide (p0.kind=4))=true then ((idx p1 0)>>=fun (y3:Int)=>(idx p1 1)>>=fun (y4:Int)=>(aZ3 p0.op y3 y4)>>=fun (y5:Int×Bool)=>some (y5.1,y5.2)) else (if (decide (p0.kind=5))=true then (aF1 p1 p2 (decide (p0.kind=5))) else (aF1 p1 p2 (decide (p0.kind=9))))))
def aPd (p0:List Int) (p1:List (List Int)):Option (List (List Int)) :=
  (appG 24 ([p0]:List (List Int)) p1)>>=fun (y1:List (List Int))=>some y1
def aIh (p1:List Int) (p0:aR) (x6:List Int) (x12:Int):Option ((List Int)×Bool) :=
  if (decide (x12<(p1.length:Int)))=true then ((idx p1 x12)>>=fun (y1:Int)=>(some (if (decide (y1<0))=true then true else (decide ((p0.tables.length:Int)≤y1))))>>=fun (y2:Bool)=>if y2=true then (some (([]:List Int),false)) else ((idx p0.tables y1)>>=fun (y3:gG)=>(aTy y3)>>=fun (y4:List Int)=>(appG 8 x6 y4)>>=fun (y5:List Int)=>aIh p1 p0 y5 (QC .i64 (x12+1)))) else (some (x6,true))
  partial_fixpoint
def aLk (p0:aR) (p1:List Int):Option ((List Int)×Bool) :=
  aIh p1 p0 ([]:List Int) 0
mutual
def K8 (y9:List (List Int)) (p2:aQ) (p0:aR) (x19:List Int) (x95:Int):Option ((List Int)×Bool) :=
  if (decide (x95<(p2.items.length:Int)))=true then ((idx p2.items x95)>>=fun (y13:aB)=>(uK p0 y9 y13)>>=fun (y14:Int×Bool)=>if (!y14.2)=true then (some (([]:List Int),false)) else ((appG 8 x19 ([y14.1]:List Int))>>=fun (y15:List Int)=>K8 y9 p2 p0 y15 (QC .i64 (x95+1)))) else (some (x19,true))
  partial_fixpoint
def L8 (y9:List (List Int)) (p2:aQ) (p0:aR) (x76:Int):Option ((List Int)×Bool) :=
  if (decide (x76<(p2.order.length:Int)))=true then ((idx p2.order x76)>>=fun (y11:bF)=>(uK p0 y9 y11.expr)>>=fun (y12:Int×Bool)=>if (!y12.2)=true then (some (([]:List Int),false)) else (L8 y9 p2 p0 (QC .i64 (x76+1)))) else (K8 y9 p2 p0 ([]:List Int) 0)
  partial_fixpoint
def uW (p1:List (List Int)) (x8:List Int) (p2:aB) (p0:aR) (x9:List Int) (x85:Int):Option (Int×Bool) :=
  if (decide (x85<(p2.sub.length:Int)))=true then ((idx p2.sub x85)>>=fun (y11:aQ)=>(aGp p0 p1 y11)>>=fun (y12:(List Int)×Bool)=>(if (true&&((!y12.2)==false))=true then some (if (decide (p2.kind=8))=true then (!decide ((y12.1.length:Int)=1)) else false) else some default)>>=fun (y13:Bool)=>(some (if (!y12.2)=true then true else y13))>>=fun (y14:Bool)=>if y14=true then (some (0,false)) else (uW p1 x8 p2 p0 y12.1 (QC .i64 (x85+1)))) else ((yF p2 x8 x9)>>=fun (y15:Int×Bool)=>some (y15.1,y15.2))
  partial_fixpoint
def vW (p1:List (List Int)) (p2:aB) (p0:aR) (x8:List Int) (x64:Int):Option (Int×Bool) :=
  if (decide (x64<(p2.kids.length:Int)))=true then ((idx p2.kids x64)>>=fun (y8:aB)=>(uK p0 p1 y8)>>=fun (y9:Int×Bool)=>if (!y9.2)=true then (some (0,false)) else ((appG 8 x8 ([y9.1]:List Int))>>=fun (y10:List Int)=>vW p1 p2 p0 y10 (QC .i64 (x64+1)))) else (uW p1 x8 p2 p0 ([]:List Int) 0)
  partial_fixpoint
def uK (p0:aR) (p1:List (List Int)) (p2:aB):Option (Int×Bool) :=
  (aPc p2)>>=fun (y1:Bool)=>if (!y1)=true then (some (0,false)) else (if (decide (p2.kind=2))=true then ((some (if (decide (p2.up<0))=true then true else (decide ((p1.length:Int)≤p2.up))))>>=fun (y2:Bool)=>(some (if y2=true then true else (decide (p2.at_<0))))>>=fun (y3:Bool)=>(if (true&&(y3==false))=true then idx p1 p2.up else some default)>>=fun (y4:List Int)=>(some (if y3=true then true else (decide ((y4.length:Int)≤p2.at_))))>>=fun (y5:Bool)=>if y5=true then (some (0,false)) else ((idx p1 p2.up)>>=fun (y6:List Int)=>(idx y6 p2.at_)>>=fun (y7:Int)=>some (y7,true))) else (vW p1 p2 p0 ([]:List Int) 0))
  partial_fixpoint
def aTg (p0:aB) (p1:aR) (c1_0:List (List Int)):Option Bool :=
  (uK p1 c1_0 p0)>>=fun (y1:Int×Bool)=>(if (true&&((!y1.2)==false))=true then aC3 y1.1 else some default)>>=fun (y2:Bool)=>(some (if (!y1.2)=true then true else (!y2)))>>=fun (y3:Bool)=>some y3
  partial_fixpoint
def V7 (p0:List aB) (c0:aR) (c1_0:List (List Int)) (x8:Int):Option Int :=
  if (decide (x8<(p0.length:Int)))=true then ((idx p0 x8)>>=fun (y1:aB)=>(aTg y1 c0 c1_0)>>=fun (y2:Bool)=>if y2=true then (some x8) else (V7 p0 c0 c1_0 (QC .i64 (x8+1)))) else (some (-1))
  partial_fixpoint
def aYq (p0:List aB) (c0:aR) (c1_0:List (List Int)):Option Int :=
  V7 p0 c0 c1_0 0
  partial_fixpoint
def aVz (p0:List aB) (c0:aR) (c1_0:List (List Int)):Option Bool :=
  (aYq p0 c0 c1_0)>>=fun (y1:Int)=>some (decide (0≤y1))
  partial_fixpoint
def X9 (p0:aR) (p1:List (List Int)) (p2:List aB):Option Bool :=
  (aVz p2 p0 p1)>>=fun (y1:Bool)=>some (!y1)
  partial_fixpoint
def aBa (p1:List (List Int)) (y1:(List Int)×Bool) (p2:aQ) (p0:aR) (x41:Int):Option ((List Int)×Bool) :=
  if (decide (x41<(p2.on_.length:Int)))=true then ((idx p2.on_ x41)>>=fun (y4:List aB)=>(jA p2.tables 0 (QC .i64 (x41+1)))>>=fun (y5:List Int)=>(aLk p0 y5)>>=fun (y6:(List Int)×Bool)=>(aPd y6.1 p1)>>=fun (y7:List (List Int))=>(X9 p0 y7 y4)>>=fun (y8:Bool)=>if (!y8)=true then (some (([]:List Int),false)) else (aBa p1 y1 p2 p0 (QC .i64 (x41+1)))) else ((aPd y1.1 p1)>>=fun (y9:List (List Int))=>(X9 p0 y9 p2.where_)>>=fun (y10:Bool)=>if (!y10)=true then (some (([]:List Int),false)) else (L8 y9 p2 p0 0))
  partial_fixpoint
def aGp (p0:aR) (p1:List (List Int)) (p2:aQ):Option ((List Int)×Bool) :=
  (aLk p0 p2.tables)>>=fun (y1:(List Int)×Bool)=>(if (true&&((!y1.2)==false))=true then aTw p2 else some default)>>=fun (y2:Bool)=>(some (if (!y1.2)=true then true else (!y2)))>>=fun (y3:Bool)=>if y3=true then (some (([]:List Int),false)) else (aBa p1 y1 p2 p0 0)
  partial_fixpoint
end
theorem dD {n:Int} (h1 : -9223372036854775808≤n) (h2:n≤9223372036854775807):QC .i64 n=n:=by rw [XK]; omega
theorem dR {i n:Nat} (h:i<n) (hn:n≤4611686018427387904):QC .i64 ((i:Int)+1)=((i+1:Nat):Int):=by rw [dD] <;> omega
theorem dN (i n:Nat):decide ((i:Int)<(n:Int))=decide (i<n):=by simp
theorem bE6 {α:Type} (l:List α) (i:Nat):idx l (i:Int)=l[i]?:=by simp [idx]
theorem bP {α:Type} {l:List α} {i:Nat} (h:i<l.length):idx l (i:Int)=some l[i]:=by rw [bE6]; simp [h]
theorem dZ {M:Nat→Prop} {n:Nat} (h0:M n) (h:∀ i,i<n→M (i+1)→M i):∀ i,i≤n→M i:=by
  have:∀ k i,i+k=n→M i:=by
    intro k
    induction k with
    | zero => intro i hi; have : i = n := by omega
              subst this; exact h0
    | succ k ih=>intro i hi; exact h i (by omega) (ih (i+1) (by omega))
  exact fun i hi=>this (n - i) i (by omega)
theorem bGr {α:Type} {by':Nat} {n:Nat} {z:α} (h:(n:Int) * by'≤140737488355328):mkG by' (n:Int) z=some (WA n z):=by
  unfold mkG; rw [if_pos ⟨by omega,h⟩]; simp
def zL {α:Type} (z:α→Nat) (l:List α):Nat:=l.length+(l.map z).sum
def z0 {α:Type} (_:α):Nat:=0
theorem aJo {α:Type} (z:α→Nat) (x:α) (l:List α):((x::l).map z).sum=z x+(l.map z).sum:=by simp
theorem aHu {α:Type} {z:α→Nat}:∀ {p:List α} {y:α},y∈p→z y≤(p.map z).sum
  | x::p,y,h=>by
    rw [aJo]
    rcases WW.1 h with rfl | h
    · omega
    · have:=aHu (z:=z) h; omega
def zTb (l:List Int):Nat:=1000000000 * (l.length - 2)
instance (n:Int):Decidable (okI n):=inferInstanceAs (Decidable (_∧_))
def zN (n:Int):Nat:=if okI n then 0 else 1000000000
theorem zN0 {n:Int} (h:okI n):zN n=0:=if_pos h
def uY:aA→Nat
  | ⟨_,a1,a2⟩=>a2.length+zN a1
mutual
def tZ:bF→Nat
  | ⟨a0,a1⟩=>bA a0
def eU:aQ→Nat
  | ⟨a0,a1,a2,a3,a4,a5,a6,a7⟩=>zTb a0+(zL z0) a0+(a1.length+aH5 a1)+(a2.length+C9 a2)+(a3.length+aFk a3)+(a4.length+C9 a4)+(zL WB) a5
def bA:aB→Nat
  | ⟨a0,a1,a2,a3,a4,a5,a6,a7⟩=>uY a3+(a6.length+C9 a6)+(a7.length+aJy a7)
def aJy:List aQ→Nat
  | []=>0
  | x::l=>eU x+aJy l
def C9:List aB→Nat
  | []=>0
  | x::l=>bA x+C9 l
def aFk:List bF→Nat
  | []=>0
  | x::l=>tZ x+aFk l
def aH5:List (List aB)→Nat
  | []=>0
  | x::l=>(x.length+C9 x)+aH5 l
end
theorem aXl:∀ l:List aQ,aJy l=(l.map eU).sum
  | []=>by simp [aJy]
  | x::l=>by rw [aJo,← aXl l]; simp only [aJy]
theorem Z9:∀ l:List aB,C9 l=(l.map bA).sum
  | []=>by simp [C9]
  | x::l=>by rw [aJo,← Z9 l]; simp only [C9]
theorem aJ2:∀ l:List bF,aFk l=(l.map tZ).sum
  | []=>by simp [aFk]
  | x::l=>by rw [aJo,← aJ2 l]; simp only [aFk]
theorem aK6:∀ l:List (List aB),aH5 l=(l.map (zL bA)).sum
  | []=>by simp [aH5]
  | x::l=>by rw [aJo,← aK6 l]; simp only [aH5,zL,Z9]
theorem jX {α:Type} {b:Nat} {l m:List α} (h:(l.length+m.length) * b≤140737488355328):appG b l m=some (l++m):=by unfold appG; rw [if_pos h]
theorem gather {α β γ:Type} {p:List α} {f:α→List β} {G:α→List β→Option (List β)} {L:List β→Int→Option γ} {K:List β→Option γ} {c:Nat} (hp:p.length≤4194304)
    (hG:∀ y∈p,∀ acc:List β,acc.length+(f y).length≤c→G y acc=some (acc++f y))
    (hL:∀ (i:Nat) acc,L acc (i:Int)=if (decide ((i:Int)<(p.length:Int)))=true then ((idx p (i:Int))>>=fun y=>(G y acc)>>=fun z=>L z (QC .i64 ((i:Int)+1))) else K acc) :
    ∀ acc:List β,acc.length+(p.flatMap f).length≤c→L acc 0=K (acc++p.flatMap f):=by
  have key:∀ i,i≤p.length→∀ acc:List β,acc.length+((p.drop i).flatMap f).length≤c→L acc (i:Nat)=K (acc++(p.drop i).flatMap f):=by
    refine dZ ?_ ?_
    · intro acc _
      rw [hL]; simp
    · intro i hi ih acc ha
      rw [QG hi,WC,QL] at ha
      rw [hL,bP hi,dR hi (by omega)]
      simp only [dN,hi,decide_true,if_true,QB,QA,hG _ (QE hi) acc (by omega)]
      rw [ih _ (by rw [QL]; omega),QG hi,WC,WH]
  intro acc ha
  simpa using key 0 (by omega) acc (by simpa using ha)
theorem vE {α:Type} {z:α→Nat} {l:List α} {x:α} (h:x∈l):z x+l.length≤zL z l:=by
  have:=aHu (z:=z) h
  unfold zL; omega
theorem V9 (x:aB):bA x=uY x.value+zL bA x.kids+zL eU x.sub:=by
  obtain ⟨a0,a1,a2,⟨b0,b1,b2⟩,a4,a5,a6,a7⟩:=x
  simp only [bA,uY,Z9,aXl,zL]
theorem yD (q:aQ):eU q=zTb q.tables+zL z0 q.tables+zL (zL bA) q.on_+zL bA q.where_+(q.order.length+(q.order.map fun k=>bA k.expr).sum)+zL bA q.items+zL WB q.names:=by
  obtain ⟨a0,a1,a2,a3,a4,a5,a6,a7⟩:=q
  simp only [eU,Z9,aJ2,aK6,zL]
  have:(a3.map tZ)=a3.map fun k=>bA k.expr:=List.map_congr_left fun k _=>by obtain ⟨k0,k1⟩:=k; simp only [tZ]
  rw [this]
theorem nE {α:Type} {z:α→Nat} (l:List α):l.length≤zL z l:=by unfold zL; omega
theorem yG {x k:aB} (h:k∈x.kids):bA k+x.kids.length≤bA x:=by have:=V9 x; have:=vE (z:=bA) h; omega
theorem wG {x:aB} {p:aQ} (h:p∈x.sub):eU p+x.sub.length≤bA x:=by have:=V9 x; have:=vE (z:=eU) h; omega
theorem aRm (x:aB):x.kids.length+x.sub.length≤bA x:=by have:=V9 x; have:=nE (z:=bA) x.kids; have:=nE (z:=eU) x.sub; omega
theorem onZ {q:aQ} {l:List aB} {e:aB} (h:l∈q.on_) (he:e∈l):bA e+l.length+q.on_.length≤eU q:=by have:=yD q; have:=vE (z:=zL bA) h; have:=vE (z:=bA) he; omega
theorem aVo {q:aQ} {e:aB} (h:e∈q.where_):bA e+q.where_.length≤eU q:=by have:=yD q; have:=vE (z:=bA) h; omega
theorem aS7 {q:aQ} {e:aB} (h:e∈q.items):bA e+q.items.length≤eU q:=by have:=yD q; have:=vE (z:=bA) h; omega
theorem aW9 {q:aQ} {k:bF} (h:k∈q.order):bA k.expr+q.order.length≤eU q:=by have:=yD q; have:=aHu (z:=fun k:bF=>bA k.expr) h; omega
theorem aCn (q:aQ):q.tables.length+q.on_.length+q.where_.length+q.order.length+q.items.length+q.names.length≤eU q:=by
  have:=yD q; have:=nE (z:=z0) q.tables; have:=nE (z:=zL bA) q.on_; have:=nE (z:=bA) q.where_; have:=nE (z:=bA) q.items; have:=nE (z:=WB) q.names; omega
theorem aN7 (s:List UInt8):∃ b,wV s=some b∧xQ s=some b:=by
  unfold xQ wV iB
  exact ⟨_,rfl,rfl⟩
theorem bJz (s:List UInt8):∃ b,N8 s=some b:=by
  obtain ⟨b,h1,h2⟩:=aN7 s
  unfold N8
  by_cases h:s=[]
  · exact ⟨true,by simp [h]⟩
  · exact ⟨b,by simp [h,h1]⟩
theorem bI1 (x:aA):wF x=nW x∧∃ b,nW x=some b:=by
  unfold wF nW iB
  simp only [QB,QA]
  by_cases h0:x.kind=0
  · simp [h0]
  by_cases h1:x.kind=1
  · simp [h1]
  by_cases h2:x.kind=2
  · simp [h2]
  by_cases h3:x.kind=3
  · by_cases n0:x.num=0
    · simp [h3,n0]
    by_cases n1:x.num=1
    · simp [h3,n1]
    have e:(if decide (0≤x.num)=true then decide (x.num≤1) else false)=false:=by
      by_cases p:0≤x.num
      · simp [p]; omega
      · simp [p]
    rw [e]
    simp [h3,n0,n1]
  · simp [h0,h1,h2,h3]
theorem bGv (x:aA):∃ b,Y6 x=some b∧aE9 x=some b:=by
  obtain ⟨h1,b,h2⟩:=bI1 x
  unfold Y6 aE9
  rw [h1,h2]
  cases b <;> simp
theorem orB (b c:Bool):(if b=true then true else c)=(b||c):=by cases b <;> rfl
theorem wC (b c:Bool):(if b=true then c else false)=(b&&c):=by cases b <;> rfl
theorem bQu (b c:Bool):(if b=true then (!c) else false)=(b&&!c):=by cases b <;> rfl
def zvE (x:eT):Bool:=((decide (x.value.kind=0))&&((decide (x.value.num=0))&&((decide (x.value.text=[]))&&true)))
theorem bIu (x:eT):aCf x=(if ((!decide (x.kind=2)&&(!decide (x.qual=[])||!decide (x.name=[])))||(!decide (x.kind=1)&&!zvE x))=true then some false else
    if ((!decide (x.kind=3)&&!decide (x.kind=4))&&!decide (x.op=0)||(x.not_&&!(decide (5≤x.kind)&&decide (x.kind≤8))))=true then some false else
    (if (decide (x.kind=1))=true then ((Y6 x.value)>>=fun (y10:Bool)=>some (y10&&decide ((QC .i64 ((x.kids.length:Int)+(x.sub.length:Int)))=0)))
     else if (decide (x.kind=2))=true then ((wV x.name)>>=fun (y12:Bool)=>(if y12=true then N8 x.qual else some false)>>=fun (y14:Bool)=>some (y14&&decide ((QC .i64 ((x.kids.length:Int)+(x.sub.length:Int)))=0)))
     else some (if x.kind=3 then (decide (x.op=15)||decide (x.op=16))&&decide ((x.kids.length:Int)=1)&&decide ((x.sub.length:Int)=0)
      else if x.kind=4 then (decide (1≤x.op)&&decide (x.op≤14))&&decide ((x.kids.length:Int)=2)&&decide ((x.sub.length:Int)=0)
      else if x.kind=5 then decide ((x.kids.length:Int)=1)&&decide ((x.sub.length:Int)=0)
      else if x.kind=6 then decide ((x.kids.length:Int)=3)&&decide ((x.sub.length:Int)=0)
      else if x.kind=7 then (decide (2≤(x.kids.length:Int))&&decide ((x.kids.length:Int)≤9))&&decide ((x.sub.length:Int)=0)
      else if x.kind=8 then decide ((x.kids.length:Int)=1)&&decide ((x.sub.length:Int)=1)
      else if x.kind=9 then decide ((x.kids.length:Int)=0)&&decide ((x.sub.length:Int)=1)
      else false))):=by
  unfold aCf iB
  simp only [QB]
  simp only [QA]
  simp only [wC,orB]
  obtain ⟨k,o,no,v,q,nm,ks,sb⟩:=x
  obtain ⟨bl,l1,l2⟩:=bGv v
  obtain ⟨bn,n1,n2⟩:=aN7 nm
  obtain ⟨bq,q1⟩:=bJz q
  have hz:zvE ⟨k,o,no,v,q,nm,ks,sb⟩=((decide (v.kind=0))&&((decide (v.num=0))&&((decide (v.text=[]))&&true))):=rfl
  simp only [l1,n1,q1,hz,QA]
  generalize ((decide (v.kind=0))&&((decide (v.num=0))&&((decide (v.text=[]))&&true)))=zv
  generalize decide (q=[])=q0
  generalize decide (nm=[])=n0
  by_cases k1:k=1
  · subst k1; cases q0 <;> cases n0 <;> cases no <;> by_cases o0:o=0 <;> cases bl <;> simp [o0]
  by_cases k2:k=2
  · subst k2; cases zv <;> cases no <;> by_cases o0:o=0 <;> cases bn <;> simp [o0]
  by_cases k3:k=3
  · subst k3; cases q0 <;> cases n0 <;> cases zv <;> cases no <;> simp
  by_cases k4:k=4
  · subst k4; cases q0 <;> cases n0 <;> cases zv <;> cases no <;> simp
  have kk:¬ (k=3∨k=4):=by omega
  by_cases k5:k=5
  · subst k5; cases q0 <;> cases n0 <;> cases zv <;> cases no <;> by_cases o0:o=0 <;> simp [o0]
  by_cases k6:k=6
  · subst k6; cases q0 <;> cases n0 <;> cases zv <;> cases no <;> by_cases o0:o=0 <;> simp [o0]
  by_cases k7:k=7
  · subst k7; cases q0 <;> cases n0 <;> cases zv <;> cases no <;> by_cases o0:o=0 <;> simp [o0]
  by_cases k8:k=8
  · subst k8; cases q0 <;> cases n0 <;> cases zv <;> cases no <;> by_cases o0:o=0 <;> simp [o0]
  by_cases k9:k=9
  · subst k9; cases q0 <;> cases n0 <;> cases zv <;> cases no <;> by_cases o0:o=0 <;> simp [o0]
  have kr:(decide (5≤k)&&decide (k≤8))=false:=by
    by_cases h:5≤k
    · have:¬ k≤8:=by omega
      simp [this]
    · simp [h]
  cases q0 <;> cases n0 <;> cases zv <;> cases no <;> by_cases o0:o=0 <;> simp [o0,k1,k2,k3,k4,k5,k6,k7,k8,k9]
theorem bTy (x:eT) (bl bc:Bool) (h1:aE9 x.value=some bl) (h2:(wV x.name>>=fun (y12:Bool)=>(if y12=true then N8 x.qual else some false))=some bc):L6 x=some (
    if x.kind=1 then (⟨false,false,true,false,0,0,0⟩,bl)
    else if x.kind=2 then (⟨false,false,false,true,0,0,0⟩,bc)
    else if x.kind=3 then (⟨true,false,false,false,1,1,0⟩,decide (x.op=15)||decide (x.op=16))
    else if x.kind=4 then (⟨true,false,false,false,2,2,0⟩,decide (1≤x.op)&&decide (x.op≤14))
    else if x.kind=5 then (⟨false,true,false,false,1,1,0⟩,true)
    else if x.kind=6 then (⟨false,true,false,false,3,3,0⟩,true)
    else if x.kind=7 then (⟨false,true,false,false,2,9,0⟩,true)
    else if x.kind=8 then (⟨false,true,false,false,1,1,1⟩,true)
    else if x.kind=9 then (⟨false,false,false,false,0,0,1⟩,true)
    else (⟨false,false,false,false,0,0,0⟩,false)):=by
  obtain ⟨k,o,no,v,q,nm,ks,sb⟩:=x
  obtain ⟨bn,n1,n2⟩:=aN7 nm
  obtain ⟨bo,o1,o2⟩:=aN7 q
  unfold L6
  dsimp only at h1 h2 ⊢
  have h3:((if ((true&&(bn==true))&&((decide (q=[]))==false))=true then xQ q else some default).bind fun (y3:Bool)=>(if (true&&(bn==true))=true then some (if (decide (q=[]))=true then true else y3) else some default).bind fun (y4:Bool)=>(some (if bn=true then y4 else false)).bind fun y5=>some ((kW.mk false false false true 0 0 0),y5))=some ((kW.mk false false false true 0 0 0),bc):=by
    unfold N8 at h2
    rw [n1,o1] at h2
    rw [o2]
    cases bn
    · simp at h2; simp [h2]
    · by_cases q0:q=[]
      · simp [q0] at h2; simp [q0,h2]
      · simp [q0] at h2; simp [q0,h2]
  simp only [h1,n2,QB,QA]
  by_cases k1:k=1
  · simp [k1]
  by_cases k2:k=2
  · subst k2; simp only [QA] at h3; simpa using h3
  by_cases k3:k=3
  · simp [k3]
  by_cases k4:k=4
  · simp [k4]
  by_cases k5:k=5
  · simp [k5]
  by_cases k6:k=6
  · simp [k6]
  by_cases k7:k=7
  · simp [k7]
  by_cases k8:k=8
  · simp [k8]
  by_cases k9:k=9
  · simp [k9]
  simp [k1,k2,k3,k4,k5,k6,k7,k8,k9]
theorem bFm:aPl=aA6:=by
  funext p q
  unfold aPl aA6 aX6 P5 iB
  rfl
def okT (p:Int):Prop:=0≤p∧p≤3
theorem aPj {p:Int} (h:okT p):P5 p=some true:=by
  unfold P5 iB
  have h1:=h.1
  have h2:=h.2
  simp [h1,h2]
theorem bDo {p q:Int} (hp:okT p) (hq:okT q):∃ r,aA6 p q=some r∧okT r.1:=by
  unfold aA6
  rw [aPj hp,aPj hq]
  simp only [QF,beq_self_eq_true,WG,if_true,QD,if_false,QB,QA]
  have h0:okT 0:=⟨by omega,by omega⟩
  by_cases p0:p=0
  · exact ⟨(q,true),by simp [p0],hq⟩
  · by_cases q0:q=0∨p=q
    · refine ⟨(p,true),?_,hp⟩
      rcases q0 with h | h <;> simp [p0,h]
    · have a1:¬ q=0:=fun h=>q0 (.inl h)
      have a2:¬ p=q:=fun h=>q0 (.inr h)
      exact ⟨(0,false),by simp [p0,a1,a2],h0⟩
theorem aOn:aC3=aBf:=rfl
theorem aKm (p:Int):∃ b,aBf p=some b:=⟨_,rfl⟩
theorem bCh (p q:Int):aD2 p q=some (decide (p=0)||decide (p=q)):=by
  unfold aD2
  by_cases h:p=0 <;> simp [h]
theorem bE5 (a p q:Int):aJ1 a p q=some ((decide (p=0)||decide (p=a))&&(decide (q=0)||decide (q=a))):=by
  unfold aJ1
  by_cases h1:p=a <;> by_cases h2:p=0 <;> by_cases h3:q=a <;> by_cases h4:q=0 <;> simp [h1,h2,h3,h4]
theorem bOn (o p q:Int) (hp:okT p) (hq:okT q):∃ r,aZ3 o p q=some r∧aIl o p q=some r∧okT r.1:=by
  have h0:okT 0:=⟨by omega,by omega⟩
  have h3:okT 3:=⟨by omega,by omega⟩
  have h2:okT 2:=⟨by omega,by omega⟩
  have h1:okT 1:=⟨by omega,by omega⟩
  obtain ⟨m,m1,m2⟩:=bDo hp hq
  obtain ⟨t1,e1⟩:=aKm p
  obtain ⟨t2,e2⟩:=aKm q
  unfold aZ3 aIl aEh aIw uX iB
  simp only [bFm,aOn,m1,e1,e2,aPj hp,aPj hq,bCh,bE5,QB,QA]
  by_cases a:1≤o
  · by_cases b:o≤14
    · have c1:¬ o<1:=by omega
      have c2:¬ 14<o:=by omega
      by_cases d:o≤2
      · cases t1 <;> cases t2
        · exact ⟨(0,false),by simp [c1,c2,d],by simp [a,b,d],h0⟩
        · exact ⟨(0,false),by simp [c1,c2,d],by simp [a,b,d],h0⟩
        · exact ⟨(0,false),by simp [c1,c2,d],by simp [a,b,d],h0⟩
        · exact ⟨(3,true),by simp [c1,c2,d],by simp [a,b,d],h3⟩
      by_cases d2:o≤8
      · cases hm:m.2
        · exact ⟨(0,false),by simp [c1,c2,d,d2,hm],by simp [a,b,d,d2,hm],h0⟩
        · exact ⟨(3,true),by simp [c1,c2,d,d2,hm],by simp [a,b,d,d2,hm],h3⟩
      by_cases d3:o=9
      · subst d3
        generalize (decide (p=0)||decide (p=2))=b1
        generalize (decide (q=0)||decide (q=2))=b2
        cases b1 <;> cases b2
        · exact ⟨(0,false),by simp,by simp,h0⟩
        · exact ⟨(0,false),by simp,by simp,h0⟩
        · exact ⟨(0,false),by simp,by simp,h0⟩
        · exact ⟨(2,true),by simp,by simp,h2⟩
      · generalize (decide (p=0)||decide (p=1))=b1
        generalize (decide (q=0)||decide (q=1))=b2
        cases b1 <;> cases b2
        · exact ⟨(0,false),by simp [c1,c2,d,d2,d3],by simp [a,b,d,d2,d3],h0⟩
        · exact ⟨(0,false),by simp [c1,c2,d,d2,d3],by simp [a,b,d,d2,d3],h0⟩
        · exact ⟨(0,false),by simp [c1,c2,d,d2,d3],by simp [a,b,d,d2,d3],h0⟩
        · exact ⟨(1,true),by simp [c1,c2,d,d2,d3],by simp [a,b,d,d2,d3],h1⟩
    · have c2:14<o:=by omega
      exact ⟨(0,false),by simp [c2],by simp [b],h0⟩
  · have c1:o<1:=by omega
    exact ⟨(0,false),by simp [c1],by simp [a],h0⟩
theorem cC7 (o p:Int):∃ r,aVw o p=some r∧aI1 o p=some r∧okT r.1:=by
  have h0:okT 0:=⟨by omega,by omega⟩
  have h3:okT 3:=⟨by omega,by omega⟩
  have h1:okT 1:=⟨by omega,by omega⟩
  obtain ⟨t1,e1⟩:=aKm p
  unfold aVw aI1 uX
  simp only [aOn,e1,bCh,bE5,QB,QA]
  by_cases a:o=15
  · subst a
    cases t1
    · exact ⟨(0,false),by simp,by simp,h0⟩
    · exact ⟨(3,true),by simp,by simp,h3⟩
  by_cases b:o=16
  · subst b
    generalize (decide (p=0)||decide (p=1))=b1
    cases b1
    · exact ⟨(0,false),by simp,by simp,h0⟩
    · exact ⟨(1,true),by simp,by simp,h1⟩
  · exact ⟨(0,false),by simp [a,b],by simp [a,b],h0⟩
theorem bZl (l:List Int) (hl:l.length≤1048576) (h:∀ p∈l,okT p):∃ r,aQa l=some r∧T9 l=some r.2:=by
  have key:∀ i,i≤l.length→∀ x,okT x→∃ r,aJm l x (i:Nat)=some r∧O3 l x (i:Nat)=some r.2:=by
    refine dZ ?_ ?_
    · intro x hx
      rw [aJm,O3]
      exact ⟨(x,true),by simp,by simp⟩
    · intro i hi ih x hx
      rw [aJm,O3]
      obtain ⟨m,m1,m2⟩:=bDo hx (h _ (QE hi))
      simp only [dN,hi,decide_true,if_true,bP hi,dR hi (by omega),bFm,m1,QB,QA]
      cases hm:m.2
      · exact ⟨(0,false),by simp,by simp⟩
      · simpa using ih m.1 m2
  unfold aQa T9
  exact key 0 (by omega) 0 ⟨by omega,by omega⟩
theorem bQp {v:aA} (h:Y6 v=some true):okT v.kind:=by
  unfold Y6 at h
  have hv:nW v=some true:=by
    obtain ⟨_,b,e2⟩:=bI1 v
    rw [e2] at h ⊢
    cases b with
    | true=>rfl
    | false=>simp at h
  unfold nW at hv
  unfold okT
  by_cases k0:v.kind=0
  · omega
  by_cases k1:v.kind=1
  · omega
  by_cases k2:v.kind=2
  · omega
  by_cases k3:v.kind=3
  · omega
  simp [k0,k1,k2,k3] at hv
def aNx (p:aB):Prop:=(p.kind=1∧p.kids.length=0∧p.sub.length=0∧okT p.value.kind)∨(p.kind=2∧p.kids.length=0∧p.sub.length=0)∨(p.kind=3∧p.kids.length=1∧p.sub.length=0)∨(p.kind=4∧p.kids.length=2∧p.sub.length=0) ∨
  (p.kind=5∧p.kids.length=1∧p.sub.length=0)∨(p.kind=6∧p.kids.length=3∧p.sub.length=0)∨(p.kind=7∧(2≤p.kids.length∧p.kids.length≤9)∧p.sub.length=0)∨(p.kind=8∧p.kids.length=1∧p.sub.length=1)∨(p.kind=9∧p.kids.length=0∧p.sub.length=1)
theorem bG9 {β:Type} {b:Bool} {m:Option Bool} {K:Bool→Option β}:((if (true&&(b==true))=true then m else some (default:Bool)).bind fun y=>(some (if b=true then y else false)).bind K)=((if b=true then m else some false).bind K):=by cases b <;> cases m <;> rfl
theorem aZy (b c:Bool):(if b=true then some c else some false)=some (b&&c):=by cases b <;> rfl
theorem bQt {β:Type} {b n u:Bool} {K:Bool→Option β}:((if ((true&&(b==true))&&(n==false))=true then some u else some (default:Bool)).bind fun y8=>(if (true&&(b==true))=true then some (if n=true then true else y8) else some (default:Bool)).bind fun y9=>(some (if b=true then y9 else false)).bind K)=K (b&&(n||u)):=by cases b <;> cases n <;> rfl
theorem or3 {β:Type} {b n u:Bool} {K:Bool→Option β}:((if ((true&&(b==true))&&(n==false))=true then some u else some (default:Bool)).bind fun y8=>K (b&&(n||y8)))=K (b&&(n||u)):=by cases b <;> cases n <;> rfl
theorem cA1 (p:aB) (f:kW) (ok:Bool) (h:L6 (eT.mk p.kind p.op false p.value [] [120] [] [])=some (f,ok)):aPc p=some (ok&&(f.op||decide (p.op=0))&&(f.not_||!p.not_)&&(f.value||((decide (p.value.kind=0))&&((decide (p.value.num=0))&&((decide (p.value.text=[]))&&true))))&&(f.name||(decide (p.up=0)&&decide (p.at_=0)))&&decide (f.least≤(p.kids.length:Int))&&decide ((p.kids.length:Int)≤f.most)&&decide ((p.sub.length:Int)=f.subs)):=by
  rw [aPc,h]
  simp only [QB]
  rw [show ∀ K:kW×Bool→Option Bool,(some (f,ok)).bind K=K (f,ok) from fun _=>rfl]
  simp only [bG9,bQt]
  simp only [aZy,QA,wC,orB]
  exact or3 (K:=fun z=>some (z&&decide (f.least≤(p.kids.length:Int))&&decide ((p.kids.length:Int)≤f.most)&&decide ((p.sub.length:Int)=f.subs)))
theorem aM1 (p:aB) (hk:p.kids.length≤1048576) (hs:p.sub.length≤1048576):∃ b,R5 p=some b∧aPc p=some b∧(b=true→aNx p):=by
  obtain ⟨bl,l1,l2⟩:=bGv p.value
  have hlk:bl=true→okT p.value.kind:=fun h=>bQp (by rw [l1,h])
  have e1:mkG 136 (p.kids.length:Int) (eT.mk 0 0 false (aA.mk 0 0 []) [] [] [] [])=some (WA p.kids.length (eT.mk 0 0 false (aA.mk 0 0 []) [] [] [] [])):=bGr (by omega)
  have e2:mkG 112 (p.sub.length:Int) (jV.mk false [] [] [] [] 0)=some (WA p.sub.length (jV.mk false [] [] [] [] 0)):=bGr (by omega)
  have hw:QC .i64 ((p.kids.length:Int)+(p.sub.length:Int))=(p.kids.length:Int)+(p.sub.length:Int):=dD (by omega) (by omega)
  have hF:=bTy (eT.mk p.kind p.op false p.value [] [120] [] []) bl true l2 rfl
  obtain ⟨⟨f,ok⟩,hfo⟩:∃ r,L6 (eT.mk p.kind p.op false p.value [] [120] [] [])=some r:=⟨_,hF⟩
  rw [cA1 p f ok hfo]
  rw [hfo] at hF
  have n97:wV [97]=some true:=rfl
  have m0:N8 []=some true:=rfl
  have hS:R5 p=if (!decide (p.kind=2)&&(!decide (p.up=0)||!decide (p.at_=0)))=true then some false else (if decide (p.kind=2)=true then aCf (eT.mk p.kind p.op p.not_ p.value [] [97] (WA p.kids.length (eT.mk 0 0 false (aA.mk 0 0 []) [] [] [] [])) (WA p.sub.length (jV.mk false [] [] [] [] 0))) else aCf (eT.mk p.kind p.op p.not_ p.value [] [] (WA p.kids.length (eT.mk 0 0 false (aA.mk 0 0 []) [] [] [] [])) (WA p.sub.length (jV.mk false [] [] [] [] 0)))):=by
    unfold R5 aKs
    simp only [QB]
    simp only [bG9]
    simp only [e1,e2,aZy,QA,Option.bind_fun_some,wC,orB]
  rw [hS]
  unfold aNx
  simp only [bIu,zvE,List.length_replicate,hw,l1,n97,m0]
  obtain ⟨k,o,no,v,up,at_,ks,sb⟩:=p
  dsimp only at hk hs hF hlk ⊢
  generalize ((decide (v.kind=0))&&((decide (v.num=0))&&((decide (v.text=[]))&&true)))=zv
  have fin:∀ (a b:Bool) (P:Prop),a=b→(b=true→P)→∃ c,(some a:Option Bool)=some c∧(some b:Option Bool)=some c∧(c=true→P):=by
    rintro a b P rfl h; exact ⟨a,rfl,rfl,h⟩
  have hif:∀ (a b:Bool) (X:Bool),(if a=true then some false else if b=true then some false else some X)=some (!a&&(!b&&X)):=by intro a b X; cases a <;> cases b <;> rfl
  have hif1:∀ (a:Bool) (X:Bool),(if a=true then some false else some X)=some (!a&&X):=by intro a X; cases a <;> rfl
  clear hS hfo e1 e2 hw l1 l2 n97 m0
  have eN:∀ n:Int,(decide (n≤(ks.length:Int))&&decide ((ks.length:Int)≤n))=decide ((ks.length:Int)=n):=fun n=>by rw [QW]; simp only [QJ,decide_eq_true_eq]; omega
  have e0:decide ((ks.length:Int)+(sb.length:Int)=0)=(decide ((ks.length:Int)=0)&&decide ((sb.length:Int)=0)):=by rw [QW]; simp only [QJ,decide_eq_true_eq]; omega
  by_cases k1:k=1
  · subst k1
    simp only [Int.reduceEq,if_true,if_false,QI,Prod.mk.injEq] at hF
    obtain ⟨rfl,rfl⟩:=hF
    simp only [Int.reduceEq,Int.reduceLE,if_true,if_false,decide_true,decide_false,QF,QM,QK,QQ,QN,QR,QO,QP,QS,QT,QD,QB,QA,hif,hif1]
    refine fin _ _ _ ?_ fun h=>?_
    · simp only [e0,QH]
      try simp only [← QH (decide (_≤(ks.length:Int))),eN]
      generalize decide ((ks.length:Int)=0)=c0
      generalize decide ((sb.length:Int)=0)=d0
      generalize decide (up=0)=u0
      generalize decide (at_=0)=a0
      generalize decide (o=0)=o0
      cases ok <;> cases no <;> cases u0 <;> cases a0 <;> cases o0 <;> cases c0 <;> cases d0 <;> rfl
    · simp only [QJ,decide_eq_true_eq] at h
      exact .inl ⟨trivial,by omega,by omega,hlk h.1.1.1.1.1.1⟩
  by_cases k2:k=2
  · subst k2
    simp only [Int.reduceEq,if_true,if_false,QI,Prod.mk.injEq] at hF
    obtain ⟨rfl,rfl⟩:=hF
    simp only [Int.reduceEq,Int.reduceLE,if_true,if_false,decide_true,decide_false,QF,QM,QK,QQ,QN,QR,QO,QP,QS,QT,QD,QB,QA,hif,hif1]
    refine fin _ _ _ ?_ fun h=>?_
    · simp only [e0,QH]
      try simp only [← QH (decide (_≤(ks.length:Int))),eN]
      generalize decide ((ks.length:Int)=0)=c0
      generalize decide ((sb.length:Int)=0)=d0
      generalize decide (o=0)=o0
      cases no <;> cases zv <;> cases o0 <;> cases c0 <;> cases d0 <;> rfl
    · simp only [QJ,decide_eq_true_eq] at h
      simp only [Int.reduceEq,false_and,false_or,true_and,or_false]
      omega
  by_cases k3:k=3
  · subst k3
    simp only [Int.reduceEq,if_true,if_false,QI,Prod.mk.injEq] at hF
    obtain ⟨rfl,rfl⟩:=hF
    simp only [Int.reduceEq,Int.reduceLE,if_true,if_false,decide_true,decide_false,QF,QM,QK,QQ,QN,QR,QO,QP,QS,QT,QD,QB,QA,hif,hif1]
    refine fin _ _ _ ?_ fun h=>?_
    · simp only [e0,QH]
      try simp only [← QH (decide (_≤(ks.length:Int))),eN]
      generalize decide ((ks.length:Int)=1)=c1
      generalize decide ((sb.length:Int)=0)=d0
      generalize decide (up=0)=u0
      generalize decide (at_=0)=a0
      generalize decide (o=15)=o5
      generalize decide (o=16)=o6
      cases no <;> cases zv <;> cases u0 <;> cases a0 <;> cases o5 <;> cases o6 <;> cases c1 <;> cases d0 <;> rfl
    · simp only [QJ,decide_eq_true_eq] at h
      simp only [Int.reduceEq,false_and,false_or,true_and,or_false]
      omega
  by_cases k4:k=4
  · subst k4
    simp only [Int.reduceEq,if_true,if_false,QI,Prod.mk.injEq] at hF
    obtain ⟨rfl,rfl⟩:=hF
    simp only [Int.reduceEq,Int.reduceLE,if_true,if_false,decide_true,decide_false,QF,QM,QK,QQ,QN,QR,QO,QP,QS,QT,QD,QB,QA,hif,hif1]
    refine fin _ _ _ ?_ fun h=>?_
    · simp only [e0,QH]
      try simp only [← QH (decide (_≤(ks.length:Int))),eN]
      generalize decide ((ks.length:Int)=2)=c2
      generalize decide ((sb.length:Int)=0)=d0
      generalize decide (up=0)=u0
      generalize decide (at_=0)=a0
      generalize decide (1≤o)=o7
      generalize decide (o≤14)=o8
      cases no <;> cases zv <;> cases u0 <;> cases a0 <;> cases o7 <;> cases o8 <;> cases c2 <;> cases d0 <;> rfl
    · simp only [QJ,decide_eq_true_eq] at h
      simp only [Int.reduceEq,false_and,false_or,true_and,or_false]
      omega
  by_cases k5:k=5
  · subst k5
    simp only [Int.reduceEq,if_true,if_false,QI,Prod.mk.injEq] at hF
    obtain ⟨rfl,rfl⟩:=hF
    simp only [Int.reduceEq,Int.reduceLE,if_true,if_false,decide_true,decide_false,QF,QM,QK,QQ,QN,QR,QO,QP,QS,QT,QD,QB,QA,hif,hif1]
    refine fin _ _ _ ?_ fun h=>?_
    · simp only [e0,QH]
      try simp only [← QH (decide (_≤(ks.length:Int))),eN]
      generalize decide ((ks.length:Int)=1)=c1
      generalize decide ((sb.length:Int)=0)=d0
      generalize decide (up=0)=u0
      generalize decide (at_=0)=a0
      generalize decide (o=0)=o0
      cases zv <;> cases u0 <;> cases a0 <;> cases o0 <;> cases c1 <;> cases d0 <;> rfl
    · simp only [QJ,decide_eq_true_eq] at h
      simp only [Int.reduceEq,false_and,false_or,true_and,or_false]
      omega
  by_cases k6:k=6
  · subst k6
    simp only [Int.reduceEq,if_true,if_false,QI,Prod.mk.injEq] at hF
    obtain ⟨rfl,rfl⟩:=hF
    simp only [Int.reduceEq,Int.reduceLE,if_true,if_false,decide_true,decide_false,QF,QM,QK,QQ,QN,QR,QO,QP,QS,QT,QD,QB,QA,hif,hif1]
    refine fin _ _ _ ?_ fun h=>?_
    · simp only [e0,QH]
      try simp only [← QH (decide (_≤(ks.length:Int))),eN]
      generalize decide ((ks.length:Int)=3)=c3
      generalize decide ((sb.length:Int)=0)=d0
      generalize decide (up=0)=u0
      generalize decide (at_=0)=a0
      generalize decide (o=0)=o0
      cases zv <;> cases u0 <;> cases a0 <;> cases o0 <;> cases c3 <;> cases d0 <;> rfl
    · simp only [QJ,decide_eq_true_eq] at h
      simp only [Int.reduceEq,false_and,false_or,true_and,or_false]
      omega
  by_cases k7:k=7
  · subst k7
    simp only [Int.reduceEq,if_true,if_false,QI,Prod.mk.injEq] at hF
    obtain ⟨rfl,rfl⟩:=hF
    simp only [Int.reduceEq,Int.reduceLE,if_true,if_false,decide_true,decide_false,QF,QM,QK,QQ,QN,QR,QO,QP,QS,QT,QD,QB,QA,hif,hif1]
    refine fin _ _ _ ?_ fun h=>?_
    · simp only [e0,QH]
      try simp only [← QH (decide (_≤(ks.length:Int))),eN]
      generalize decide (2≤(ks.length:Int))=c4
      generalize decide ((ks.length:Int)≤9)=c5
      generalize decide ((sb.length:Int)=0)=d0
      generalize decide (up=0)=u0
      generalize decide (at_=0)=a0
      generalize decide (o=0)=o0
      cases zv <;> cases u0 <;> cases a0 <;> cases o0 <;> cases c4 <;> cases c5 <;> cases d0 <;> rfl
    · simp only [QJ,decide_eq_true_eq] at h
      simp only [Int.reduceEq,false_and,false_or,true_and,or_false]
      omega
  by_cases k8:k=8
  · subst k8
    simp only [Int.reduceEq,if_true,if_false,QI,Prod.mk.injEq] at hF
    obtain ⟨rfl,rfl⟩:=hF
    simp only [Int.reduceEq,Int.reduceLE,if_true,if_false,decide_true,decide_false,QF,QM,QK,QQ,QN,QR,QO,QP,QS,QT,QD,QB,QA,hif,hif1]
    refine fin _ _ _ ?_ fun h=>?_
    · simp only [e0,QH]
      try simp only [← QH (decide (_≤(ks.length:Int))),eN]
      generalize decide ((ks.length:Int)=1)=c1
      generalize decide ((sb.length:Int)=1)=d1
      generalize decide (up=0)=u0
      generalize decide (at_=0)=a0
      generalize decide (o=0)=o0
      cases zv <;> cases u0 <;> cases a0 <;> cases o0 <;> cases c1 <;> cases d1 <;> rfl
    · simp only [QJ,decide_eq_true_eq] at h
      simp only [Int.reduceEq,false_and,false_or,true_and,or_false]
      omega
  by_cases k9:k=9
  · subst k9
    simp only [Int.reduceEq,if_true,if_false,QI,Prod.mk.injEq] at hF
    obtain ⟨rfl,rfl⟩:=hF
    simp only [Int.reduceEq,Int.reduceLE,if_true,if_false,decide_true,decide_false,QF,QM,QK,QQ,QN,QR,QO,QP,QS,QT,QD,QB,QA,hif,hif1]
    refine fin _ _ _ ?_ fun h=>?_
    · simp only [e0,QH]
      try simp only [← QH (decide (_≤(ks.length:Int))),eN]
      generalize decide ((ks.length:Int)=0)=c0
      generalize decide ((sb.length:Int)=1)=d1
      generalize decide (up=0)=u0
      generalize decide (at_=0)=a0
      generalize decide (o=0)=o0
      cases no <;> cases zv <;> cases u0 <;> cases a0 <;> cases o0 <;> cases c0 <;> cases d1 <;> rfl
    · simp only [QJ,decide_eq_true_eq] at h
      simp only [Int.reduceEq,false_and,false_or,true_and,or_false]
      omega
  simp only [k1,k2,k3,k4,k5,k6,k7,k8,k9,if_false,QI,Prod.mk.injEq] at hF
  obtain ⟨rfl,rfl⟩:=hF
  simp only [k1,k2,k3,k4,k5,k6,k7,k8,k9,Int.reduceEq,Int.reduceLE,if_true,if_false,decide_true,decide_false,QF,QM,QK,QQ,QN,QR,QO,QP,QS,QT,QD,QB,QA,hif,hif1]
  refine ⟨false,?_,rfl,by simp⟩
  repeat' split
  all_goals first | rfl | simp
theorem bKo {γ:Type} {n:Nat} {L M:Int→Option γ} (hstep:∀ i,i<n→L ((i+1:Nat):Int)=M ((i+1:Nat):Int)→(∃ r,L ((i+1:Nat):Int)=some r)→L (i:Nat)=M (i:Nat)∧∃ r,L (i:Nat)=some r)
    (hend:L (n:Nat)=M (n:Nat)∧∃ r,L (n:Nat)=some r):L 0=M 0∧∃ r,L 0=some r:=by
  have key:∀ i,i≤n→L (i:Nat)=M (i:Nat)∧∃ r,L (i:Nat)=some r :=
    dZ hend fun i hi ih=>hstep i hi ih.1 ih.2
  exact key 0 (by omega)
theorem bZy (t:gG) (s:List UInt8) (hl:t.cols.length≤1048576):bCv t s=aB8 t s∧∃ r,aB8 t s=some r:=by
  have:=bKo (n:=t.cols.length) (L:=fun i=>aJ0 t.cols s i) (M:=fun i=>M7 s t i) ?_ ?_
  · unfold bCv bDy aB8
    obtain ⟨h1,r,h2⟩:=this
    try simp only at h1 h2
    rw [← h1,h2]
    exact ⟨rfl,r,rfl⟩
  · intro i hi h1 h2
    try dsimp only at h1 h2 ⊢
    rw [aJ0,M7]
    simp only [dN,bP hi,dR hi (by omega),hi,decide_true,if_true,bG1,QB,QA]
    by_cases hc:t.cols[i].name=s
    · simp [hc]
    · simp only [hc,decide_false,QD,if_false]
      exact ⟨h1,h2⟩
  · try dsimp only
    rw [aJ0,M7]
    simp
def uV (t:gG):List Int:=t.cols.map iP.type
theorem bWv (t:gG) (hl:t.cols.length≤1048576):aTy t=some (uV t)∧aJ4 t=some (uV t):=by
  have key:∀ i,i≤t.cols.length→∀ l:List Int,l.length≤i→aKj t l (i:Nat)=some (l++(t.cols.drop i).map iP.type)∧aAj t l (i:Nat)=some (l++(t.cols.drop i).map iP.type):=by
    refine dZ ?_ ?_
    · intro l _
      rw [aKj,aAj]; simp
    · intro i hi ih l hl2
      rw [aKj,aAj]
      have ea:appG 8 l [t.cols[i].type]=some (l++[t.cols[i].type]):=by unfold appG; rw [if_pos (by simp; omega)]
      simp only [dN,bP hi,dR hi (by omega),hi,decide_true,if_true,ea,QB,QA]
      have:=ih (l++[t.cols[i].type]) (by simp; omega)
      rw [QG hi,WI]
      simpa using this
  unfold aTy aJ4 uV
  have:=key 0 (by omega) [] (by simp)
  simpa using this
def gI (c:aR):List Int→List Int→List Int×Bool
  | acc,[]=>(acc,true)
  | acc,i::l=>if 0≤i∧i<(c.tables.length:Int) then gI c (acc++uV (c.tables[i.toNat]?.getD default)) l else ([],false)
def nN (c:aR):Prop:=c.tables.length≤4∧∀ t∈c.tables,t.cols.length≤4∧∀ x∈uV t,okT x
theorem aCe (c:aR) (hc:nN c) (l:List Int) (hl:l.length≤1048576):aLk c l=some (gI c [] l)∧zU c l=some (gI c [] l):=by
  have key:∀ i,i≤l.length→∀ acc:List Int,acc.length≤4 * i→aIh l c acc (i:Nat)=some (gI c acc (l.drop i))∧aA8 l c acc (i:Nat)=some (gI c acc (l.drop i)):=by
    refine dZ ?_ ?_
    · intro acc _
      rw [aIh,aA8]; simp [gI]
    · intro i hi ih acc ha
      rw [aIh,aA8,QG hi,gI]
      have hw:QC .i64 ((c.tables.length:Int) - 1)=(c.tables.length:Int) - 1:=by have:=hc.1; exact dD (by omega) (by omega)
      unfold iB
      simp only [dN,bP hi,dR hi (by omega),hi,decide_true,if_true,hw,QB,QA]
      by_cases h0:0≤l[i]
      · by_cases h1:l[i]<(c.tables.length:Int)
        · have n0:¬ l[i]<0:=by omega
          have n1:¬ (c.tables.length:Int)≤l[i]:=by omega
          have n2:l[i]≤(c.tables.length:Int) - 1:=by omega
          have hj:l[i].toNat<c.tables.length:=by omega
          have hx:idx c.tables l[i]=some c.tables[l[i].toNat]:=by
            have:=bP hj
            rwa [show ((l[i].toNat:Nat):Int)=l[i] by omega] at this
          obtain ⟨t1,t2⟩:=hc.2 _ (QE hj)
          obtain ⟨e1,e2⟩:=bWv c.tables[l[i].toNat] (by omega)
          have tl:(uV c.tables[l[i].toNat]).length≤4:=by unfold uV; simpa using t1
          have ea:appG 8 acc (uV c.tables[l[i].toNat])=some (acc++uV c.tables[l[i].toNat]):=by unfold appG; rw [if_pos (by omega)]
          have hg:c.tables[l[i].toNat]?.getD default=c.tables[l[i].toNat]:=by simp [hj]
          have hp:0≤l[i]∧l[i]<(c.tables.length:Int):=⟨h0,h1⟩
          rw [if_pos hp,hg]
          simp only [h0,n0,n1,n2,hx,e1,e2,ea,decide_true,decide_false,if_true,if_false,QD,QF,QA]
          exact ih _ (by rw [QL]; omega)
        · have n1:(c.tables.length:Int)≤l[i]:=by omega
          have n2:¬ l[i]≤(c.tables.length:Int) - 1:=by omega
          have hn:¬ (0≤l[i]∧l[i]<(c.tables.length:Int)):=by omega
          rw [if_neg hn]
          simp [h0,n1,n2]
      · have n0:l[i]<0:=by omega
        have hn:¬ (0≤l[i]∧l[i]<(c.tables.length:Int)):=by omega
        rw [if_neg hn]
        simp [h0,n0]
  unfold aLk zU
  have:=key 0 (by omega) [] (by simp)
  simpa using this
theorem aO1 (c:aR) (hc:nN c):∀ (l acc:List Int),(∀ x∈acc,okT x)→(∀ x∈(gI c acc l).1,okT x)∧(gI c acc l).1.length≤acc.length+4 * l.length
  | [],acc,h=>⟨h,by simp [gI]⟩
  | i::l,acc,h=>by
    rw [gI]
    split
    · rename_i hi
      have hj:i.toNat<c.tables.length:=by omega
      have hg:c.tables[i.toNat]?.getD default=c.tables[i.toNat]:=by simp [hj]
      rw [hg]
      obtain ⟨t1,t2⟩:=hc.2 _ (QE hj)
      have tl:(uV c.tables[i.toNat]).length≤4:=by unfold uV; simpa using t1
      obtain ⟨a1,a2⟩:=aO1 c hc l (acc++uV c.tables[i.toNat]) (fun x hx=>by
        rcases QY.1 hx with hx | hx
        · exact h x hx
        · exact t2 x hx)
      exact ⟨a1,by rw [QL] at a2; simp only [QX]; omega⟩
    · exact ⟨by simp,by simp⟩
theorem bFf (c:aR):∀ (l acc:List Int),(gI c acc l).2=true↔∀ i∈l,0≤i∧i<(c.tables.length:Int)
  | [],acc=>by simp [gI]
  | i::l,acc=>by
    rw [gI]
    split
    · rename_i hi
      rw [bFf c l]
      simp [hi]
    · rename_i hi
      simp only [QD,false_iff]
      intro h
      exact hi (h i (by simp))
def O5 (p:aQ):Bool:=(decide (1≤p.tables.length)&&decide (p.tables.length≤3))&&decide (p.on_.length=p.tables.length)&&decide ((p.on_[0]?.getD []).length=0)&&decide (p.where_.length≤1)&&decide (p.order.length≤12)&&(decide (1≤p.items.length)&&decide (p.items.length≤12))&&decide (p.names.length=p.items.length)&&decide (-1≤p.limit)
def onB (p:aQ):Bool:=p.on_.all fun l=>decide (l.length≤1)
def nmB (s:List UInt8):Bool:=decide (1≤s.length)&&decide (s.length≤20)
theorem bT7 (s:List UInt8):xQ s=some (nmB s):=by
  unfold xQ nmB
  by_cases h:1≤s.length <;> by_cases h2:s.length≤20 <;> simp [h,h2] <;> omega
theorem bNo (s:List UInt8):wV s=some (nmB s):=by
  unfold wV iB nmB
  by_cases h:1≤s.length <;> by_cases h2:s.length≤20 <;> simp [h,h2] <;> omega
theorem onI (l:List (List aB)) (hl:l.length≤1048576):aUc l=some (!l.all fun l=>decide (l.length≤1)):=by
  have key:∀ i,i≤l.length→∃ k:Int,aIc l (i:Nat)=some k∧decide (0≤k)=!(l.drop i).all fun l=>decide (l.length≤1):=by
    refine dZ ?_ ?_
    · rw [aIc]
      exact ⟨-1,by simp,by simp⟩
    · intro i hi ih
      rw [aIc,QG hi]
      simp only [dN,bP hi,dR hi (by omega),hi,decide_true,if_true,bBd,QB,QA,WL]
      by_cases h:l[i].length≤1
      · have h1:¬ (1:Int)<(l[i].length:Int):=by omega
        simpa [h,h1] using ih
      · have h1:(1:Int)<(l[i].length:Int):=by omega
        exact ⟨(i:Int),by simp [h1],by simp [h]⟩
  obtain ⟨k,h1,h2⟩:=key 0 (by omega)
  rw [show ((0:Nat):Int)=0 from rfl] at h1
  rw [aUc,bAv,h1]
  simpa using h2
theorem nmI (l:List (List UInt8)) (hl:l.length≤1048576):aWc l=some (!l.all nmB):=by
  have key:∀ i,i≤l.length→∃ k:Int,aKf l (i:Nat)=some k∧decide (0≤k)=!(l.drop i).all nmB:=by
    refine dZ ?_ ?_
    · rw [aKf]
      exact ⟨-1,by simp,by simp⟩
    · intro i hi ih
      rw [aKf,QG hi]
      simp only [dN,bP hi,dR hi (by omega),hi,decide_true,if_true,bHh,bT7,QB,QA,WL]
      cases h:nmB l[i] with
      | true=>simpa using ih
      | false=>exact ⟨(i:Int),by simp,by simp⟩
  obtain ⟨k,h1,h2⟩:=key 0 (by omega)
  rw [show ((0:Nat):Int)=0 from rfl] at h1
  rw [aWc,bCc,h1]
  simpa using h2
theorem bQi (c:aR) (hc:nN c) (p:aQ) (hn:p.names.length≤1048576) (ht:p.tables.length≤1048576):M0 c p 0=some (p.names.all nmB&&(gI c [] p.tables).2):=by
  have key:∀ i,i≤p.names.length→M0 c p (i:Nat)=some ((p.names.drop i).all nmB&&(gI c [] p.tables).2):=by
    refine dZ ?_ ?_
    · rw [M0]; simp [(aCe c hc p.tables ht).2]
    · intro i hi ih
      rw [M0,QG hi,WL]
      simp only [dN,bP hi,dR hi (by omega),hi,decide_true,if_true,bNo,ih,QB,QA]
      cases nmB p.names[i] <;> simp
  simpa using key 0 (by omega)
theorem bVo (c:aR) (hc:nN c) (p:aQ) (ho:p.on_.length≤1048576) (hn:p.names.length≤1048576) (ht:p.tables.length≤1048576):zX c p 0=some (onB p&&(p.names.all nmB&&(gI c [] p.tables).2)):=by
  have key:∀ i,i≤p.on_.length→zX c p (i:Nat)=some (((p.on_.drop i).all fun l=>decide (l.length≤1))&&(p.names.all nmB&&(gI c [] p.tables).2)):=by
    refine dZ ?_ ?_
    · rw [zX]; simp [bQi c hc p hn ht]
    · intro i hi ih
      rw [zX,QG hi,WL]
      simp only [dN,bP hi,dR hi (by omega),hi,decide_true,if_true,ih,QB,QA]
      by_cases h:p.on_[i].length≤1
      · have h1:¬ (1:Int)<(p.on_[i].length:Int):=by omega
        simp [h,h1]
      · have h1:(1:Int)<(p.on_[i].length:Int):=by omega
        simp [h,h1]
  unfold onB
  simpa using key 0 (by omega)
theorem bIe (c:aR) (hc:nN c) (p:aQ) (ho:p.on_.length≤1048576) (hn:p.names.length≤1048576) (ht:p.tables.length≤1048576) :
    aHg c p=some (O5 p&&(onB p&&(p.names.all nmB&&(gI c [] p.tables).2)))∧aTw p=some (O5 p&&(onB p&&p.names.all nmB)):=by
  unfold aHg aTw iB O5
  simp only [bVo c hc p ho hn ht,onI p.on_ ho,nmI p.names hn,QB,QA]
  have hon:(!p.on_.all fun l=>decide (l.length≤1))=!onB p:=rfl
  rw [hon]
  generalize onB p=b1
  generalize p.names.all nmB=b2
  generalize (gI c [] p.tables).2=b3
  by_cases t1:1≤p.tables.length
  case neg =>
    have c1:¬ (1:Int)≤(p.tables.length:Int):=by omega
    have c2:(p.tables.length:Int)<1:=by omega
    simp only [t1,c1,c2,decide_true,decide_false,if_true,if_false,QF,QM,QD,QQ,QA,beq_self_eq_true]
    simp
  by_cases t2:p.tables.length≤3
  case neg =>
    have c1:¬ (p.tables.length:Int)≤3:=by omega
    have c2:(3:Int)<(p.tables.length:Int):=by omega
    simp [t2,c1,c2]
  by_cases t3:p.on_.length=p.tables.length
  case neg =>
    have c1:¬ (p.on_.length:Int)=(p.tables.length:Int):=by omega
    simp [t3,c1]
  have a1:(1:Int)≤(p.tables.length:Int):=by omega
  have a2:(p.tables.length:Int)≤3:=by omega
  have a3:¬ (p.tables.length:Int)<1:=by omega
  have a4:¬ (3:Int)<(p.tables.length:Int):=by omega
  have a5:(p.on_.length:Int)=(p.tables.length:Int):=by omega
  have h0:0<p.on_.length:=by omega
  have hi:idx p.on_ 0=some p.on_[0]:=bP h0
  have hg:p.on_[0]?.getD []=p.on_[0]:=by simp [h0]
  rw [hg,hi]
  generalize p.on_[0]=l0
  have e0:decide ((0:Int)<(l0.length:Int))=!decide (l0.length=0):=by rw [QW]; simp only [WK,decide_eq_true_eq,decide_eq_false_iff_not]; omega
  have e1:decide ((1:Int)<(p.where_.length:Int))=!decide (p.where_.length≤1):=by rw [QW]; simp only [WK,decide_eq_true_eq,decide_eq_false_iff_not]; omega
  have e2:decide ((12:Int)<(p.order.length:Int))=!decide (p.order.length≤12):=by rw [QW]; simp only [WK,decide_eq_true_eq,decide_eq_false_iff_not]; omega
  have e3:decide ((1:Int)≤(p.items.length:Int))=decide (1≤p.items.length):=by rw [QW]; simp only [decide_eq_true_eq]; omega
  have e4:decide ((p.items.length:Int)≤12)=decide (p.items.length≤12):=by rw [QW]; simp only [decide_eq_true_eq]; omega
  have e5:decide ((p.names.length:Int)=(p.items.length:Int))=decide (p.names.length=p.items.length):=by rw [QW]; simp only [decide_eq_true_eq]; omega
  have e6:decide (p.limit < -1)=!decide (-1≤p.limit):=by rw [QW]; simp only [WK,decide_eq_true_eq,decide_eq_false_iff_not]; omega
  simp only [a1,a2,a3,a4,a5,t1,t2,t3,e0,e1,e2,e3,e4,e5,e6,decide_true,decide_false,if_true,if_false,QF,QM,QD,beq_self_eq_true,WG,QK,QA]
  generalize decide (l0.length=0)=x0
  generalize decide (p.where_.length≤1)=x1
  generalize decide (p.order.length≤12)=x2
  generalize decide (1≤p.items.length)=x3
  generalize decide (p.items.length≤12)=x4
  generalize decide (p.names.length=p.items.length)=x5
  generalize decide (-1≤p.limit)=x6
  cases x0 <;> cases x1 <;> cases x2 <;> cases x3 <;> cases x4 <;> cases x5 <;> cases x6 <;> cases b1 <;> cases b2 <;> exact ⟨rfl,rfl⟩
def TyE (c:aR) (env:List (List Int)) (e:aB):Prop:=∃ r:Int×Bool,uK c env e=some r∧M3 c env e=some r∧okT r.1
def PlE (c:aR) (env:List (List Int)) (p:aQ):Prop:=∃ r:List Int×Bool,aGp c env p=some r∧aL9 c env p=some r∧∀ x∈r.1,okT x
def nH (env:List (List Int)):Prop:=∀ row∈env,row.length≤4194304∧∀ x∈row,okT x
theorem okT0:okT 0:=⟨by omega,by omega⟩
theorem okT3:okT 3:=⟨by omega,by omega⟩
theorem bE2 (c:aR) (env:List (List Int)) (l:List aB) (hl:l.length≤1048576) (H:∀ e∈l,TyE c env e):∃ b,X9 c env l=some b∧aH9 c env l=some b:=by
  have key:∀ i,i≤l.length→∃ (k:Int) (b:Bool),V7 l c env (i:Nat)=some k∧aDy env l c (i:Nat)=some b∧decide (0≤k)=!b:=by
    refine dZ ?_ ?_
    · rw [V7,aDy]
      exact ⟨-1,true,by simp,by simp,by simp⟩
    · intro i hi ih
      rw [V7,aDy]
      obtain ⟨r,h1,h2,h3⟩:=H _ (QE hi)
      obtain ⟨t,e1⟩:=aKm r.1
      simp only [dN,hi,decide_true,if_true,bP hi,dR hi (by omega),aTg,h1,h2,aOn,e1,QB,QA]
      cases hr:r.2
      · exact ⟨(i:Int),false,by simp,by simp,by simp⟩
      · cases t
        · exact ⟨(i:Int),false,by simp,by simp,by simp⟩
        · simpa using ih
  obtain ⟨k,b,h1,h2,h3⟩:=key 0 (by omega)
  rw [show ((0:Nat):Int)=0 from rfl] at h1 h2
  rw [X9,aVz,aYq,h1,aH9,h2]
  exact ⟨b,by simp [h3],rfl⟩
theorem aGi (row:List Int) (env:List (List Int)) (h:env.length≤4194304):aPd row env=some (row::env)∧aA9 row env=some (row::env):=by
  have e:appG 24 ([row]:List (List Int)) env=some (row::env):=by unfold appG; rw [if_pos (by simp; omega)]; rfl
  unfold aPd aA9
  rw [e]; exact ⟨rfl,rfl⟩
theorem bVb (c:aR) (env:List (List Int)) (e:aB) (hk:e.kids.length≤1048576) (H:∀ k∈e.kids,TyE c env k) :
    (vW env e c [] 0=some (0,false)∧tJ env c e [] 0=some (0,false))∨∃ acc:List Int,acc.length=e.kids.length∧(∀ x∈acc,okT x)∧vW env e c [] 0=uW env acc e c [] 0∧tJ env c e [] 0=tJ env c e acc (e.kids.length:Int):=by
  have key:∀ i,i≤e.kids.length→∀ acc:List Int,acc.length=i→(∀ x∈acc,okT x)→(vW env e c acc (i:Nat)=some (0,false)∧tJ env c e acc (i:Nat)=some (0,false))∨∃ a:List Int,a.length=e.kids.length∧(∀ x∈a,okT x)∧vW env e c acc (i:Nat)=uW env a e c [] 0∧tJ env c e acc (i:Nat)=tJ env c e a (e.kids.length:Int):=by
    refine dZ ?_ ?_
    · intro acc ha hx
      right
      refine ⟨acc,ha,hx,?_,rfl⟩
      rw [vW]
      simp
    · intro i hi ih acc ha hx
      obtain ⟨r,h1,h2,h3⟩:=H _ (QE hi)
      have ea:appG 8 acc [r.1]=some (acc++[r.1]):=by unfold appG; rw [if_pos (by simp; omega)]
      have f1:vW env e c acc (i:Nat)=if (!r.2)=true then some (0,false) else vW env e c (acc++[r.1]) ((i+1:Nat):Int):=by
        rw [vW]
        simp only [dN,hi,decide_true,if_true,bP hi,dR hi (by omega),h1,ea,QB,QA]
      have f2:tJ env c e acc (i:Nat)=if (!r.2)=true then some (0,false) else tJ env c e (acc++[r.1]) ((i+1:Nat):Int):=by
        rw [tJ]
        simp only [dN,hi,decide_true,if_true,bP hi,dR hi (by omega),h2,ea,QB,QA]
      rw [f1,f2]
      cases hr:r.2
      · left; exact ⟨by simp,by simp⟩
      · have:=ih (acc++[r.1]) (by simp [ha]) (by intro x hx2; rcases QY.1 hx2 with h | h; exact hx x h; simp at h; rw [h]; exact h3)
        simpa using this
  simpa using key 0 (by omega) [] rfl (by simp)
theorem aQ2 {α:Type} {l:List α} (h:0<l.length):idx l 0=some l[0]:=bP h
theorem bDz {α:Type} {l:List α} (h:1<l.length):idx l 1=some l[1]:=bP h
theorem bWi (l:List Int) (h:l.length≤4194304):aYk l=some l:=by
  unfold aYk
  by_cases h0:l=[]
  · simp [h0]
  · have e:appG 8 ([]:List Int) l=some l:=by unfold appG; rw [if_pos (by simp; omega)]; simp
    have h1:¬ (l.length:Int)=0:=by
      have:=List.length_pos_iff.2 h0
      omega
    simp [h1,e]
theorem aZa (a b:List Int) (ha:a.length≤1000000) (hb:b.length≤1000) (oa:∀ x∈a,okT x) (ob:∀ x∈b,okT x):∃ m:Bool,T9 (a++b)=some m∧aF1 a b false=some (if m=true then 3 else 0,m):=by
  obtain ⟨r,h1,h2⟩:=bZl (a++b) (by simp; omega) (by intro x hx; rcases QY.1 hx with h | h; exact oa x h; exact ob x h)
  refine ⟨r.2,h2,?_⟩
  have e:appG 8 a b=some (a++b):=by unfold appG; rw [if_pos (by omega)]
  unfold aF1
  rw [bWi a (by omega)]
  simp only [e,h1,QD,if_false,QB,QA]
  cases r.2 <;> simp
theorem cC9 (c:aR) (env:List (List Int)) (hv:nH env) (hl:env.length≤4194304) (e:aB) (hk:e.kids.length≤1048576) (hs:e.sub.length≤1048576) (H:∀ k∈e.kids,TyE c env k) (HP:∀ p∈e.sub,PlE c env p):TyE c env e:=by
  unfold TyE
  obtain ⟨b,s1,i1,hf⟩:=aM1 e hk hs
  rw [uK,M3,s1,i1]
  simp only [QB,QA]
  cases b with
  | false=>exact ⟨(0,false),by simp,by simp,okT0⟩
  | true =>
  simp only [QF,QD,if_false]
  have hF:=hf rfl
  by_cases k2:e.kind=2
  · have hk0:e.kids.length=0:=by
      rcases hF with h | h | h | h | h | h | h | h | h <;> first | exact h.2.1 | (exact absurd h.1 (by omega))
    rw [if_pos (by simpa using k2),tJ]
    have n1:¬ e.kind=1:=by omega
    have hw:QC .i64 ((env.length:Int) - 1)=(env.length:Int) - 1:=dD (by omega) (by omega)
    unfold iB
    simp only [hk0,k2,n1,hw,decide_true,decide_false,if_true,if_false,QD,QB,QA,Int.reduceEq]
    by_cases u0:0≤e.up
    case neg => exact ⟨(0, false), by have : e.up < 0 := by omega
                                      simp [this],by simp [u0],okT0⟩
    by_cases u1:e.up<(env.length:Int)
    case neg => exact ⟨(0, false), by have : (env.length : Int) ≤ e.up := by omega
                                      simp [this], by have : ¬ e.up ≤ (env.length : Int) - 1 := by omega
                                                      simp [u0,this],okT0⟩
    have hj:e.up.toNat<env.length:=by omega
    have hx:idx env e.up=some env[e.up.toNat]:=by
      have:=bP hj
      rwa [show ((e.up.toNat:Nat):Int)=e.up by omega] at this
    obtain ⟨r1,r2⟩:=hv _ (QE hj)
    have a1:¬ e.up<0:=by omega
    have a2:¬ (env.length:Int)≤e.up:=by omega
    have a3:e.up≤(env.length:Int) - 1:=by omega
    have hw2:QC .i64 ((env[e.up.toNat].length:Int) - 1)=(env[e.up.toNat].length:Int) - 1:=dD (by omega) (by omega)
    simp only [u0,a1,a2,a3,hx,hw2,decide_true,decide_false,if_true,if_false,QF,QD,beq_self_eq_true,WG,QA,QK]
    by_cases t0:0≤e.at_
    case neg => exact ⟨(0, false), by have : e.at_ < 0 := by omega
                                      simp [this],by simp [t0],okT0⟩
    by_cases t1:e.at_<(env[e.up.toNat].length:Int)
    case neg => exact ⟨(0, false), by have h1 : (env[e.up.toNat].length : Int) ≤ e.at_ := by omega
                                      have h2:¬ e.at_<0:=by omega
                                      simp [h1, h2], by have : ¬ e.at_ ≤ (env[e.up.toNat].length : Int) - 1 := by omega
                                                        simp [t0,this],okT0⟩
    have hj2:e.at_.toNat<env[e.up.toNat].length:=by omega
    have hx2:idx env[e.up.toNat] e.at_=some env[e.up.toNat][e.at_.toNat]:=by
      have:=bP hj2
      rwa [show ((e.at_.toNat:Nat):Int)=e.at_ by omega] at this
    have b1:¬ e.at_<0:=by omega
    have b2:¬ (env[e.up.toNat].length:Int)≤e.at_:=by omega
    have b3:e.at_≤(env[e.up.toNat].length:Int) - 1:=by omega
    exact ⟨(env[e.up.toNat][e.at_.toNat],true),by simp [b1,b2,hx2],by simp [t0,b3,hx2],r2 _ (QE hj2)⟩
  rw [if_neg (by simpa using k2)]
  rcases bVb c env e hk H with ⟨h1,h2⟩ | ⟨acc,ha,hx,h1,h2⟩
  · exact ⟨(0,false),h1,h2,okT0⟩
  rw [h1,h2,tJ,uW]
  have nk:decide ((e.kids.length:Int)<(e.kids.length:Int))=false:=by simp
  simp only [nk,k2,decide_false,QD,if_false]
  rcases hF with ⟨k,f1,f2,f3⟩ | ⟨k,f1⟩ | ⟨k,f1,f2⟩ | ⟨k,f1,f2⟩ | ⟨k,f1,f2⟩ | ⟨k,f1,f2⟩ | ⟨k,⟨f1,f3⟩,f2⟩ | ⟨k,f1,f2⟩ | ⟨k,f1,f2⟩
  · refine ⟨(e.value.kind,true),?_,?_,f3⟩
    · unfold yF; simp [f2,k]
    · simp [k]
  · exact absurd k k2
  · obtain ⟨r,r1,r2,r3⟩:=cC7 e.op (acc[0]'(by omega))
    refine ⟨r,?_,?_,r3⟩
    · unfold yF; simp [f2,k,aQ2 (show 0<acc.length by omega),r1]
    · simp [k,aQ2 (show 0<acc.length by omega),r2]
  · obtain ⟨r,r1,r2,r3⟩:=bOn e.op (acc[0]'(by omega)) (acc[1]'(by omega)) (hx _ (QE _)) (hx _ (QE _))
    refine ⟨r,?_,?_,r3⟩
    · unfold yF; simp [f2,k,aQ2 (show 0<acc.length by omega),bDz (show 1<acc.length by omega),r1]
    · simp [k,aQ2 (show 0<acc.length by omega),bDz (show 1<acc.length by omega),r2]
  · refine ⟨(3,true),?_,?_,okT3⟩
    · unfold yF aF1; simp [f2,k]
    · unfold zA; simp [f2,k]
  · obtain ⟨m,m1,m2⟩:=aZa acc [] (by omega) (by simp) hx (by simp)
    refine ⟨(if m=true then 3 else 0,m),?_,?_,by cases m; exact okT0; exact okT3⟩
    · unfold yF; simp [f2,k,m2]
    · rw [WX] at m1
      unfold zA uX; cases m <;> simp [f2,k,m1]
  · obtain ⟨m,m1,m2⟩:=aZa acc [] (by omega) (by simp) hx (by simp)
    refine ⟨(if m=true then 3 else 0,m),?_,?_,by cases m; exact okT0; exact okT3⟩
    · unfold yF; simp [f2,k,m2]
    · rw [WX] at m1
      unfold zA uX; cases m <;> simp [f2,k,m1]
  · obtain ⟨p,hp⟩:∃ p,e.sub=[p]:=by
      match hh:e.sub,f2 with
      | [p],_=>exact ⟨p,rfl⟩
    obtain ⟨r,r1,r2,r3⟩:=HP p (by rw [hp]; simp)
    have ip:idx e.sub 0=some p:=by rw [hp]; rfl
    rw [ip]
    simp only [f2,k,r1,r2,QB,QA]
    obtain ⟨out,ok⟩:=r
    cases ok with
    | false=>exact ⟨(0,false),by simp,by simp,okT0⟩
    | true =>
    by_cases ho:out.length=1
    case neg =>
      have h3:¬ (out.length:Int)=1:=by omega
      exact ⟨(0,false),by simp [h3],by simp [h3],okT0⟩
    obtain ⟨t,ht⟩:∃ t,out=[t]:=by
      match out,ho with
      | [t],_=>exact ⟨t,rfl⟩
    subst ht
    have iw:QC .i64 (0+1)=1:=rfl
    have i0:idx [t] 0=some t:=rfl
    have ea:appG 8 acc [t]=some (acc++[t]):=by unfold appG; rw [if_pos (by simp; omega)]
    obtain ⟨m,m1,m2⟩:=aZa acc [t] (by omega) (by simp) hx (by intro x hx2; exact r3 x hx2)
    have h8:¬ e.kind=1:=by omega
    refine ⟨(if m=true then 3 else 0,m),?_,?_,by cases m; exact okT0; exact okT3⟩
    · rw [iw,uW]
      unfold yF
      simp [f2,k,m2]
    · unfold zA uX; cases m <;> simp [k,i0,ea,m1]
  · obtain ⟨p,hp⟩:∃ p,e.sub=[p]:=by
      match hh:e.sub,f2 with
      | [p],_=>exact ⟨p,rfl⟩
    obtain ⟨r,r1,r2,r3⟩:=HP p (by rw [hp]; simp)
    have ip:idx e.sub 0=some p:=by rw [hp]; rfl
    rw [ip]
    simp only [f2,k,r1,r2,QB,QA]
    obtain ⟨out,ok⟩:=r
    cases ok with
    | false=>exact ⟨(0,false),by simp,by simp,okT0⟩
    | true =>
    have iw:QC .i64 (0+1)=1:=rfl
    have ha0:acc=[]:=List.eq_nil_of_length_eq_zero (by omega)
    subst ha0
    have hm:T9 []=some true:=by unfold T9; rw [O3]; simp
    refine ⟨(3,true),?_,?_,okT3⟩
    · simp only [iw]
      rw [uW]
      unfold yF aF1
      simp [f2,k]
    · unfold zA uX; simp [k,hm]
theorem aFl {α:Type} {l:List α} {n:Nat} (h:n≤l.length):jA l 0 (n:Int)=some (l.take n):=by
  unfold jA
  rw [if_pos (by omega)]
  simp
theorem bQl (c:aR) (env:List (List Int)) (p:aQ) (hn:p.items.length≤1048576) (H:∀ e∈p.items,TyE c env e):∃ r:List Int×Bool,K8 env p c [] 0=some r∧J6 env c p [] 0=some r∧∀ x∈r.1,okT x:=by
  have key:∀ i,i≤p.items.length→∀ acc:List Int,acc.length=i→(∀ x∈acc,okT x)→∃ r:List Int×Bool,K8 env p c acc (i:Nat)=some r∧J6 env c p acc (i:Nat)=some r∧∀ x∈r.1,okT x:=by
    refine dZ ?_ ?_
    · intro acc _ hx
      rw [K8,J6]
      exact ⟨(acc,true),by simp,by simp,hx⟩
    · intro i hi ih acc ha hx
      obtain ⟨r,h1,h2,h3⟩:=H _ (QE hi)
      have ea:appG 8 acc [r.1]=some (acc++[r.1]):=by unfold appG; rw [if_pos (by simp; omega)]
      rw [K8,J6]
      simp only [dN,hi,decide_true,if_true,bP hi,dR hi (by omega),h1,h2,ea,QB,QA]
      cases hr:r.2
      · exact ⟨([],false),by simp,by simp,by simp⟩
      · have:=ih (acc++[r.1]) (by simp [ha]) (by intro x hx2; rcases QY.1 hx2 with h | h; exact hx x h; simp at h; rw [h]; exact h3)
        simpa using this
  simpa using key 0 (by omega) [] rfl (by simp)
theorem cB7 (c:aR) (env:List (List Int)) (p:aQ) (hn:p.items.length≤1048576) (ho:p.order.length≤1048576) (H:∀ e∈p.items,TyE c env e) (HO:∀ k∈p.order,TyE c env k.expr):∃ r:List Int×Bool,L8 env p c 0=some r∧aAl env c p 0=some r∧∀ x∈r.1,okT x:=by
  have key:∀ i,i≤p.order.length→∃ r:List Int×Bool,L8 env p c (i:Nat)=some r∧aAl env c p (i:Nat)=some r∧∀ x∈r.1,okT x:=by
    refine dZ ?_ ?_
    · rw [L8,aAl]
      simpa using bQl c env p hn H
    · intro i hi ih
      obtain ⟨r,h1,h2,h3⟩:=HO _ (QE hi)
      rw [L8,aAl]
      simp only [dN,hi,decide_true,if_true,bP hi,dR hi (by omega),h1,h2,QB,QA]
      cases hr:r.2
      · exact ⟨([],false),by simp,by simp,by simp⟩
      · simpa using ih
  simpa using key 0 (by omega)
theorem aVh {row:List Int} {env:List (List Int)} (hr:row.length≤4194304) (hx:∀ x∈row,okT x) (hv:nH env):nH (row::env):=by
  intro r h
  rcases WW.1 h with rfl | h
  · exact ⟨hr,hx⟩
  · exact hv r h
theorem bTf (c:aR) (hc:nN c) (env:List (List Int)) (hv:nH env) (hl:env.length<4194304) (p:aQ) (ho:p.on_.length≤1048576) (hn:p.names.length≤1048576) (ht:p.tables.length≤1048576)
    (H:∀ env',nH env'→env'.length=env.length+1→(∀ l∈p.on_,∀ e∈l,TyE c env' e)∧(∀ e∈p.where_,TyE c env' e)∧(∀ k∈p.order,TyE c env' k.expr)∧(∀ e∈p.items,TyE c env' e)):PlE c env p:=by
  unfold PlE
  obtain ⟨f1,f2⟩:=bIe c hc p ho hn ht
  obtain ⟨r1,r2⟩:=aCe c hc p.tables ht
  rw [aGp,aL9,f1,f2,r1]
  simp only [QB,QA]
  cases hr:(gI c [] p.tables).2 with
  | false=>exact ⟨([],false),by simp,by simp,by simp⟩
  | true =>
  cases hP:O5 p with
  | false=>exact ⟨([],false),by simp,by simp,by simp⟩
  | true =>
  cases hO:onB p with
  | false=>exact ⟨([],false),by simp,by simp,by simp⟩
  | true =>
  cases hN:p.names.all nmB with
  | false=>exact ⟨([],false),by simp,by simp,by simp⟩
  | true =>
  simp only [QF,QK,WG,beq_self_eq_true,if_true,QD,if_false,QA]
  have hB:p.tables.length≤3∧p.on_.length=p.tables.length∧p.where_.length≤1∧p.order.length≤12∧p.items.length≤12:=by
    unfold O5 at hP
    simp only [QJ,decide_eq_true_eq] at hP
    omega
  obtain ⟨b1,b2,b3,b4,b5⟩:=hB
  have hO1:∀ l∈p.on_,l.length≤1:=by
    unfold onB at hO
    simpa using hO
  obtain ⟨q1,q2⟩:=aO1 c hc p.tables [] (by simp)
  simp only [WD] at q2
  obtain ⟨w1,w2⟩:=aGi (gI c [] p.tables).1 env (by omega)
  obtain ⟨-,m2,m3,m4⟩:=H ((gI c [] p.tables).1::env) (aVh (by omega) q1 hv) (by simp)
  have key:∀ i,i≤p.on_.length→∃ r:List Int×Bool,aBa env (gI c [] p.tables) p c (i:Nat)=some r∧aCz env c p (i:Nat)=some r∧∀ x∈r.1,okT x:=by
    refine dZ ?_ ?_
    · obtain ⟨t,t1,t2⟩:=bE2 c ((gI c [] p.tables).1::env) p.where_ (by omega) m2
      rw [aBa,aCz]
      simp only [dN,WT,decide_false,QD,if_false,r2,w1,w2,t1,t2,QB,QA]
      cases t
      · exact ⟨([],false),by simp,by simp,by simp⟩
      · simpa using cB7 c _ p (by omega) (by omega) m4 m3
    · intro i hi ih
      obtain ⟨a1,a2⟩:=aO1 c hc (p.tables.take (i+1)) [] (by simp)
      simp only [WD] at a2
      obtain ⟨a3,a4⟩:=aCe c hc (p.tables.take (i+1)) (by rw [WM]; omega)
      have a5:(p.tables.take (i+1)).length≤3:=by rw [WM]; omega
      obtain ⟨a6,a7⟩:=aGi (gI c [] (p.tables.take (i+1))).1 env (by omega)
      obtain ⟨a8,-⟩:=H ((gI c [] (p.tables.take (i+1))).1::env) (aVh (by omega) a1 hv) (by simp)
      obtain ⟨t,t1,t2⟩:=bE2 c _ p.on_[i] (by have:=hO1 _ (QE hi); omega) (a8 _ (QE hi))
      have hs:jA p.tables 0 ((i+1:Nat):Int)=some (p.tables.take (i+1)):=aFl (by omega)
      rw [aBa,aCz]
      simp only [dN,hi,decide_true,if_true,bP hi,dR hi (by omega),hs,a3,a4,a6,a7,t1,t2,QB,QA]
      cases t
      · exact ⟨([],false),by simp,by simp,by simp⟩
      · simpa using ih
  simpa using key 0 (by omega)
theorem bAa (c:aR) (hc:nN c):∀ n:Nat,(∀ (e:aB) (env:List (List Int)),bA e<n→n≤1048577→nH env→env.length+n≤4000000→TyE c env e)∧(∀ (p:aQ) (env:List (List Int)),eU p<n→n≤1048577→nH env→env.length+n≤4000000→PlE c env p)
  | 0=>⟨fun _ _ h=>absurd h (by omega),fun _ _ h=>absurd h (by omega)⟩
  | n+1=>by
    obtain ⟨i1,i2⟩:=bAa c hc n
    refine ⟨fun e env he hn hv hl=>?_,fun p env hp hn hv hl=>?_⟩
    · have:=aRm e
      exact cC9 c env hv (by omega) e (by omega) (by omega) (fun k hk=>i1 k env (by have:=yG hk; have:=QU hk; omega) (by omega) hv (by omega)) fun p hp=>i2 p env (by have:=wG hp; have:=QU hp; omega) (by omega) hv (by omega)
    · have:=aCn p
      refine bTf c hc env hv (by omega) p (by omega) (by omega) (by omega) fun env' hv' hl'=>⟨fun l hm e he=>i1 e env' ?_ (by omega) hv' (by omega),fun e he=>i1 e env' ?_ (by omega) hv' (by omega),fun k hk=>i1 k.expr env' ?_ (by omega) hv' (by omega),fun e he=>i1 e env' ?_ (by omega) hv' (by omega)⟩
      · have:=onZ hm he; have:=QU he; omega
      · have:=aVo he; have:=QU he; omega
      · have:=aW9 hk; have:=QU hk; omega
      · have:=aS7 he; have:=QU he; omega
theorem bPt (c:aR) (hc:nN c) (e:aB) (env:List (List Int)) (hz:bA e≤1048576) (hv:nH env) (hl:env.length≤1000):TyE c env e:=(bAa c hc (bA e+1)).1 e env (by omega) (by omega) hv (by omega)
def mx {α:Type} (d:α→Int) (l:List α) (x:Int):Int:=l.foldl (fun b y=>if d y>b then d y else b) x
def fT (p:aQ):List aB:=p.on_.flatMap (fun l=>l)++p.where_++p.order.flatMap (fun k=>[k.expr])++p.items
theorem bBn {α β:Type} {f:α→List β} {z:α→Nat}:∀ l:List α,(∀ y∈l,(f y).length≤z y+1)→(l.flatMap f).length≤zL z l
  | [],_=>by simp [zL]
  | y::l,h=>by
    have h1:=h y (by simp); have h2:=bBn l fun w hw=>h w (by simp [hw])
    unfold zL at *
    simp only [WC,QL,WI,WY,QX] at *; omega
theorem bSv (l:List bF):(l.flatMap fun k=>[k.expr])=l.map fun k=>k.expr:=by
  induction l with
  | nil=>rfl
  | cons x l ih=>rw [WC,ih]; rfl
theorem bU5 (p:aQ):(fT p).length≤eU p:=by
  have h1:=yD p
  have h2:=bBn (f:=fun l:List aB=>l) (z:=zL bA) p.on_ fun y _=>by have:=nE (z:=bA) y; omega
  have h3:=nE (z:=bA) p.where_
  have h4:=nE (z:=bA) p.items
  unfold fT
  simp only [QL,bSv,WN]
  omega
theorem aGf {p:aQ} {e:aB} (h:e∈fT p):bA e<eU p:=by
  unfold fT at h
  simp only [QY,WZ,List.mem_singleton] at h
  rcases h with ((⟨l,h1,h2⟩ | h) | ⟨k,h1,rfl⟩) | h
  · have:=onZ h1 h2; have:=QU h2; omega
  · have:=aVo h; have:=QU h; omega
  · have:=aW9 h1; have:=QU h1; omega
  · have:=aS7 h; have:=QU h; omega
theorem R3 {l m:List aB} (h:l.length+m.length≤4194304):appG 120 l m=some (l++m):=jX (by omega)
theorem parts_eq (p:aQ) (hz:eU p≤1048576):bEb p=some (fT p)∧aKb p=some (fT p):=by
  have hl:=aCn p
  have hp:=bU5 p
  unfold fT at hp
  simp only [QL] at hp
  have o1:∀ acc:List aB,acc.length+(p.order.flatMap fun k=>[k.expr]).length+p.items.length≤4194304→aEd p acc 0=some (acc++(p.order.flatMap fun k=>[k.expr])++p.items):=by
    intro acc ha
    rw [gather (p:=p.order) (f:=fun k=>[k.expr]) (c:=4194304) (G:=fun y acc=>appG 120 acc ([y.expr]:List aB)) (L:=fun acc i=>aEd p acc i) (K:=fun x=>(appG 120 x p.items)>>=fun (y7:List aB)=>some y7) (by omega) (fun y _ acc h=>R3 h) (fun i acc=>by rw [aEd]) acc (by omega)]
    rw [R3 (by rw [QL]; omega)]; rfl
  have o2:∀ acc:List aB,acc.length+(p.order.flatMap fun k=>[k.expr]).length+p.items.length≤4194304→H5 p acc 0=some (acc++(p.order.flatMap fun k=>[k.expr])++p.items):=by
    intro acc ha
    rw [gather (p:=p.order) (f:=fun k=>[k.expr]) (c:=4194304) (G:=fun y acc=>appG 120 acc ([y.expr]:List aB)) (L:=fun acc i=>H5 p acc i) (K:=fun x=>(appG 120 x p.items)>>=fun (y7:List aB)=>some y7) (by omega) (fun y _ acc h=>R3 h) (fun i acc=>by rw [H5]) acc (by omega)]
    rw [R3 (by rw [QL]; omega)]; rfl
  constructor
  · rw [bEb,gather (p:=p.on_) (f:=fun l=>l) (c:=4194304) (G:=fun y acc=>appG 120 acc y) (L:=fun acc i=>aMi p acc i) (K:=fun x=>(appG 120 x p.where_)>>=fun (y3:List aB)=>aEd p y3 0) (by omega) (fun y _ acc h=>R3 h) (fun i acc=>by rw [aMi]) [] (by simp only [WD]; omega)]
    rw [R3 (by simp only [WE]; omega)]
    simp only [QB,QA,WE]
    rw [o1 _ (by simp only [QL]; omega)]; rfl
  · rw [aKb,gather (p:=p.on_) (f:=fun l=>l) (c:=4194304) (G:=fun y acc=>appG 120 acc y) (L:=fun acc i=>aDw p acc i) (K:=fun x=>(appG 120 x p.where_)>>=fun (y3:List aB)=>H5 p y3 0) (by omega) (fun y _ acc h=>R3 h) (fun i acc=>by rw [aDw]) [] (by simp only [WD]; omega)]
    rw [R3 (by simp only [WE]; omega)]
    simp only [QB,QA,WE]
    rw [o2 _ (by simp only [QL]; omega)]; rfl
theorem aPg (a:Int):0≤QC .i64 ((BitVec.ofInt (WF .i64) a &&& BitVec.ofInt (WF .i64) 255).toNat:Int)∧QC .i64 ((BitVec.ofInt (WF .i64) a &&& BitVec.ofInt (WF .i64) 255).toNat:Int)≤255:=by
  have h:(BitVec.ofInt (WF .i64) a &&& BitVec.ofInt (WF .i64) 255).toNat≤255:=by
    rw [BitVec.toNat_and]
    exact QV Nat.and_le_right (by decide)
  rw [dD (by omega) (by omega)]
  omega
def okCur (c:aJ):Prop:=0≤c.i∧c.i≤(c.b.length:Int)∧c.b.length≤1048576
theorem aHb (c:aJ) (h:okCur c):∃ x c',J7 c=some (x,c')∧0≤x∧x≤255∧okCur c':=by
  obtain ⟨h1,h2,h3⟩:=h
  unfold J7 aI3
  by_cases hi:c.i<(c.b.length:Int)
  · have e:∃ v,idx c.b c.i=some v:=by
      unfold idx
      rw [if_pos h1]
      exact ⟨_,WO (by omega)⟩
    obtain ⟨v,hv⟩:=e
    rw [if_pos (by simpa using hi),hv]
    simp only [QB,QA]
    refine ⟨_,_,rfl,(aPg _).1,(aPg _).2,?_⟩
    refine ⟨?_,?_,h3⟩
    · show 0≤QC .i64 (c.i+1); rw [dD (by omega) (by omega)]; omega
    · show QC .i64 (c.i+1)≤(c.b.length:Int); rw [dD (by omega) (by omega)]; omega
  · rw [if_neg (by simpa using hi)]
    exact ⟨_,_,rfl,(aPg _).1,(aPg _).2,h1,h2,h3⟩
theorem bBa {a b:Int} (h0:0≤a) (hb:0<b):∃ r,zB a b=some r∧0≤r∧r<b:=by
  unfold zB
  rw [if_neg (by omega)]
  exact ⟨_,rfl,Int.tmod_nonneg _ h0,Int.tmod_lt_of_pos _ hb⟩
theorem aBn (c:aJ) (n:Int) (h:okCur c):∃ x c',fJ c n=some (x,c')∧0≤x∧(0<n→x<n)∧okCur c':=by
  unfold fJ
  by_cases h0:n≤0
  · rw [if_pos (by simpa using h0)]; exact ⟨0,c,rfl,by omega,by omega,h⟩
  rw [if_neg (by simpa using h0)]
  by_cases h1:n≤256
  · rw [if_pos (by simpa using h1)]
    obtain ⟨x,c1,e1,a1,b1,o1⟩:=aHb c h
    obtain ⟨r,er,r0,r1⟩:=bBa a1 (b:=n) (by omega)
    simp only [e1,QB,QA,er]
    exact ⟨r,c1,rfl,r0,fun _=>r1,o1⟩
  · rw [if_neg (by simpa using h1)]
    obtain ⟨x1,c1,e1,a1,b1,o1⟩:=aHb c h
    obtain ⟨x2,c2,e2,a2,b2,o2⟩:=aHb c1 o1
    obtain ⟨x3,c3,e3,a3,b3,o3⟩:=aHb c2 o2
    obtain ⟨x4,c4,e4,a4,b4,o4⟩:=aHb c3 o3
    simp only [e1,e2,e3,e4,QB,QA]
    rw [dD (n:=x1 * 16777216) (by omega) (by omega),dD (n:=x2 * 65536) (by omega) (by omega),dD (n:=x3 * 256) (by omega) (by omega),dD (n:=x1 * 16777216+x2 * 65536) (by omega) (by omega),dD (n:=x1 * 16777216+x2 * 65536+x3 * 256) (by omega) (by omega),dD (n:=x1 * 16777216+x2 * 65536+x3 * 256+x4) (by omega) (by omega)]
    obtain ⟨r,er,r0,r1⟩:=bBa (a:=x1 * 16777216+x2 * 65536+x3 * 256+x4) (by omega) (b:=n) (by omega)
    rw [er]
    exact ⟨r,c4,rfl,r0,fun _=>r1,o4⟩
theorem bKc (c:aJ) (n:Int) (h:okCur c):∃ x c',fI c n=some (x,c')∧okCur c':=by
  obtain ⟨x,c1,e1,_,_,o1⟩:=aBn c n h
  unfold fI
  simp only [e1,QB,QA]
  exact ⟨_,_,rfl,o1⟩
theorem aTz {α:Type} {l:List α} {x:Int} (h0:0≤x) (h1:x<(l.length:Int)):∃ v,v∈l∧idx l x=some v:=by
  unfold idx
  rw [if_pos h0]
  exact ⟨_,QE (by omega),WO (by omega)⟩
theorem bFr (c:aJ) (l:List (List UInt8)) (hl:0<l.length) (h:okCur c):∃ x c',vM c l=some (x,c')∧x∈l∧okCur c':=by
  obtain ⟨x,c1,e1,h0,h1,o1⟩:=aBn c l.length h
  obtain ⟨v,hv,ev⟩:=aTz h0 (h1 (by omega))
  unfold vM
  simp only [e1,ev,QB,QA]
  exact ⟨_,_,rfl,hv,o1⟩
theorem aUk (c:aJ) (l:List Int) (hl:0<l.length) (h:okCur c):∃ x c',X4 c l=some (x,c')∧x∈l∧okCur c':=by
  obtain ⟨x,c1,e1,h0,h1,o1⟩:=aBn c l.length h
  obtain ⟨v,hv,ev⟩:=aTz h0 (h1 (by omega))
  unfold X4
  simp only [e1,ev,QB,QA]
  exact ⟨_,_,rfl,hv,o1⟩
theorem bNz (p:List Int) (hp:p.length≤1048576):∃ c,aK4 p=some c∧okCur c:=by
  unfold aK4
  have key:∀ i,i≤p.length→∀ h,∃ c,Y2 p h (i:Nat)=some c∧okCur c:=by
    refine dZ ?_ ?_
    · intro h
      rw [Y2]
      refine ⟨⟨p,0,h⟩,by simp,?_⟩
      exact ⟨by show (0:Int)≤0; omega,by show (0:Int)≤(p.length:Int); omega,hp⟩
    · intro i hi ih h
      rw [Y2]
      by_cases h4:(i:Int)<4000
      · simp only [dN,hi,h4,decide_true,if_true,bP hi,dR hi (by omega),QB,QA]
        exact ih _
      · simp only [dN,hi,h4,decide_true,decide_false,if_true,QD,if_false]
        exact ⟨⟨p,0,h⟩,rfl,by show (0:Int)≤0; omega,by show (0:Int)≤(p.length:Int); omega,hp⟩
  exact key 0 (by omega) _
def Yes {α:Type} (m:Option α) (Q:α→Prop):Prop:=∃ r,m=some r∧Q r
theorem Yes.bind {α β:Type} {m:Option α} {k:α→Option β} {Q:α→Prop} {R:β→Prop} (h:Yes m Q) (hk:∀ x,Q x→Yes (k x) R):Yes (m>>=k) R:=by
  obtain ⟨x,e,hx⟩:=h
  obtain ⟨r,e2,hr⟩:=hk x hx
  exact ⟨r,by rw [e]; exact e2,hr⟩
theorem Yes.some {α:Type} {x:α} {Q:α→Prop} (h:Q x):Yes (some x) Q:=⟨x,rfl,h⟩
theorem Yes.mono {α:Type} {m:Option α} {Q R:α→Prop} (h:Yes m Q) (hk:∀ x,Q x→R x):Yes m R:=by
  obtain ⟨x,e,hx⟩:=h; exact ⟨x,e,hk x hx⟩
theorem Yes.ite {α:Type} {c:Prop} [Decidable c] {m m':Option α} {Q:α→Prop} (h:c→Yes m Q) (h':¬ c→Yes m' Q):Yes (if c then m else m') Q:=by
  split
  · exact h (by assumption)
  · exact h' (by assumption)
theorem iQ (c:aJ) (n:Int) (h:okCur c):Yes (fJ c n) fun r=>0≤r.1∧(0<n→r.1<n)∧okCur r.2:=by
  obtain ⟨x,c',e,h1,h2,h3⟩:=aBn c n h; exact ⟨_,e,h1,h2,h3⟩
theorem jH (c:aJ) (n:Int) (h:okCur c):Yes (fI c n) fun r=>okCur r.2:=by
  obtain ⟨x,c',e,h1⟩:=bKc c n h; exact ⟨_,e,h1⟩
theorem P7 (p:Bool) (b:Bool) (c:aJ) (n:Int) (h:okCur c):Yes (if (true&&(p==b))=true then fI c n else some ((default:Bool),c)) fun r=>okCur r.2:=Yes.ite (fun _=>jH c n h) fun _=>Yes.some h
theorem bLz (c:aJ) (l:List (List UInt8)) (hl:0<l.length) (h:okCur c):Yes (vM c l) fun r=>okCur r.2:=by
  obtain ⟨x,c',e,_,h1⟩:=bFr c l hl h; exact ⟨_,e,h1⟩
theorem lK {α:Type} {b:Nat} {l m:List α} (h:(l.length+m.length) * b≤140737488355328):Yes (appG b l m) fun r=>r=l++m:=⟨_,jX h,rfl⟩
theorem aBp (c:aJ) (l:List (List UInt8)) (hl:0<l.length) (h:okCur c):Yes (vM c l) fun r=>r.1∈l∧okCur r.2:=by
  obtain ⟨x,c',e,h0,h1⟩:=bFr c l hl h; exact ⟨_,e,h0,h1⟩
theorem bAt (c:aJ) (h:okCur c):Yes (aHa c) fun r=>r.1.length≤8∧okCur r.2:=by
  unfold aHa
  refine Yes.bind (jH _ _ h) fun r k=>Yes.ite (fun _=>?_) fun _=>?_
  · refine Yes.bind (aBp _ _ (by decide) k) fun r ⟨hm,k⟩=>Yes.some ⟨?_,k⟩
    have:∀ v∈([[97,32,98],[102,114,111,109],[83,101,108,101,99,116],[49,120],[113,34,113],[0],[34],[105,116,39,115],[120,46,121],[45]]:List (List UInt8)),v.length≤8:=by decide
    exact this _ hm
  · refine Yes.bind (aBp _ _ (by decide) k) fun r ⟨hm,k⟩=>Yes.some ⟨?_,k⟩
    have:∀ v∈([[97],[98],[99],[116],[117],[118],[105,100],[110,97,109,101],[65],[95,120,49]]:List (List UInt8)),v.length≤8:=by decide
    exact this _ hm
theorem E9 (c:aJ) (h:okCur c):Yes (xB c) fun r=>okI r.1∧okCur r.2:=by
  obtain ⟨x,c1,e1,_,_,o1⟩:=aBn c 3 h
  obtain ⟨y,c2,e2,hy,o2⟩:=aUk c1 [0,1,(-1),63,64,(-64),(-65),127,128,16383,16384,9223372036854775807,(-9223372036854775808),4611686018427387904] (by decide) o1
  obtain ⟨z,c3,e3,z0,z1,o3⟩:=aBn c1 1000000 o1
  obtain ⟨w,c4,e4,w0,w1,o4⟩:=aBn c1 20 o1
  have hyI:okI y:=by
    have:∀ v∈([0,1,(-1),63,64,(-64),(-65),127,128,16383,16384,9223372036854775807,(-9223372036854775808),4611686018427387904]:List Int),-9223372036854775808≤v∧v≤9223372036854775807:=by decide
    exact this y hy
  have hz:=z1 (by decide)
  have hw:=w1 (by decide)
  unfold xB
  simp only [e1,e2,e3,e4,QB,QA]
  split
  · exact ⟨_,rfl,hyI,o2⟩
  split
  · refine ⟨_,rfl,?_,o3⟩
    unfold okI; dsimp only; rw [dD (by omega) (by omega)]; omega
  · refine ⟨_,rfl,?_,o4⟩
    unfold okI; dsimp only; omega
def okV (B:Nat) (r:aA×aJ):Prop:=okGValue r.1∧r.1.text.length≤B∧okCur r.2
theorem okV_mk {B:Nat} {k n:Int} {t:List UInt8} {c:aJ} (h1:okI k) (h2:okI n) (h3:t.length≤B) (hB:B≤1000) (h:okCur c):okV B (⟨k,n,t⟩,c):=⟨⟨h1,h2,by unfold okS; dsimp only; omega⟩,h3,h⟩
theorem okI_small {n:Int} (h0 : -1000≤n) (h1:n≤1000):okI n:=by unfold okI; omega
theorem bI3 (c:aJ) (h:okCur c):Yes (aFm c) (okV 4):=by
  unfold aFm
  refine Yes.bind (iQ _ _ h) fun r ⟨_,_,k⟩=>Yes.ite (fun _=>?_) fun _=>Yes.ite (fun _=>?_) fun _=>Yes.ite (fun _=>?_) fun _=>Yes.ite (fun _=>?_) fun _=>?_
  · exact Yes.some (okV_mk (okI_small (by omega) (by omega)) (okI_small (by omega) (by omega)) (by simp) (by omega) k)
  · refine Yes.bind (aBp _ _ (by decide) k) fun r ⟨hm,k⟩=>?_
    have:∀ v∈([[],[97],[98],[105,116,39,115],[97,98],[255]]:List (List UInt8)),v.length≤4:=by decide
    exact Yes.bind (Q:=fun v=>v=⟨2,0,r.1⟩) ⟨_,rfl,rfl⟩ fun v hv=>Yes.some (by subst hv; exact okV_mk (okI_small (by omega) (by omega)) (okI_small (by omega) (by omega)) (this _ hm) (by omega) k)
  · refine Yes.bind (jH _ _ k) fun r k=>?_
    have:Yes (rP r.1) fun v=>okI v.kind∧okI v.num∧v.text=[]:=by
      cases r.1
      · exact ⟨_,rfl,okI_small (by decide) (by decide),okI_small (by decide) (by decide),rfl⟩
      · exact ⟨_,rfl,okI_small (by decide) (by decide),okI_small (by decide) (by decide),rfl⟩
    refine Yes.bind this fun v ⟨h1,h2,h3⟩=>Yes.some ?_
    obtain ⟨a,b,t⟩:=v
    dsimp only at h1 h2 h3
    subst h3
    exact okV_mk h1 h2 (by simp) (by omega) k
  · refine Yes.bind (E9 _ k) fun r ⟨h1,k⟩=>?_
    exact Yes.bind (Q:=fun v=>v=⟨1,r.1,[]⟩) ⟨_,rfl,rfl⟩ fun v hv=>Yes.some (by subst hv; exact okV_mk (okI_small (by omega) (by omega)) h1 (by simp) (by omega) k)
  · refine Yes.bind (iQ _ _ k) fun r ⟨h0,h1,k⟩=>?_
    have:=h1 (by decide)
    exact Yes.bind (Q:=fun v=>v=⟨1,QC .i64 (r.1 - 2),[]⟩) ⟨_,rfl,rfl⟩ fun v hv=>Yes.some (by subst hv; exact okV_mk (okI_small (by omega) (by omega)) (by rw [dD (by omega) (by omega)]; exact okI_small (by omega) (by omega)) (by simp) (by omega) k)
theorem okLX_of {l:List aB} (h:∀ y∈l,okGPExpr y):okLGPExpr l:=by
  induction l with
  | nil=>unfold okLGPExpr; trivial
  | cons x l ih=>unfold okLGPExpr; exact ⟨h x (by simp),ih fun y hy=>h y (QZ _ hy)⟩
theorem okLP_of {l:List aQ} (h:∀ y∈l,okGPlan y):okLGPlan l:=by
  induction l with
  | nil=>unfold okLGPlan; trivial
  | cons x l ih=>unfold okLGPlan; exact ⟨h x (by simp),ih fun y hy=>h y (QZ _ hy)⟩
theorem okLK_of {l:List bF} (h:∀ y∈l,okGPExpr y.expr):okLGPSort l:=by
  induction l with
  | nil=>unfold okLGPSort; trivial
  | cons x l ih =>
    unfold okLGPSort
    refine ⟨?_,ih fun y hy=>h y (QZ _ hy)⟩
    have:=h x (by simp)
    obtain ⟨a,b⟩:=x
    unfold okGPSort; exact ⟨this,trivial⟩
theorem okLLX_of {l:List (List aB)} (h:∀ y∈l,y.length≤1048576∧∀ x∈y,okGPExpr x):okLLGPExpr l:=by
  induction l with
  | nil=>unfold okLLGPExpr; trivial
  | cons x l ih =>
    unfold okLLGPExpr
    have:=h x (by simp)
    exact ⟨⟨by omega,okLX_of this.2⟩,ih fun y hy=>h y (QZ _ hy)⟩
theorem mkE {a b:Int} {q:Bool} {v:aA} {u t:Int} {ks:List aB} {ss:List aQ} (h1:okI a) (h2:okI b) (h3:okGValue v) (h4:okI u) (h5:okI t) (k1:ks.length≤1048576) (k2:∀ y∈ks,okGPExpr y) (s1:ss.length≤1048576) (s2:∀ y∈ss,okGPlan y):okGPExpr (aB.mk a b q v u t ks ss):=by
  unfold okGPExpr
  exact ⟨h1,h2,trivial,h3,h4,h5,⟨by omega,okLX_of k2⟩,by omega,okLP_of s2⟩
theorem yL (a b:Int) (q:Bool) (v:aA) (u t:Int) (ks:List aB) (ss:List aQ):bA (aB.mk a b q v u t ks ss)=uY v+zL bA ks+zL eU ss:=by
  obtain ⟨v0,v1,v2⟩:=v
  simp only [bA,uY,Z9,aXl,zL]
theorem pU {α:Type} {z:α→Nat} {B n:Nat}:∀ {l:List α},l.length≤n→(∀ y∈l,z y≤B)→zL z l≤n * (1+B):=by
  have key:∀ l:List α,(∀ y∈l,z y≤B)→zL z l≤l.length * (1+B):=fun l=>by
    induction l with
    | nil=>simp [zL]
    | cons x l ih =>
      intro h
      have h1:=ih fun y hy=>h y (QZ _ hy)
      have h2:=h x (by simp)
      simp only [zL,QX,WI,WY,Nat.add_mul,Nat.one_mul] at h1 ⊢
      omega
  intro l hl h
  exact QV (key l h) (WU _ hl)
def FE (B:Nat) (x:aB):Prop:=okGPExpr x∧bA x≤B
def okE (B:Nat) (r:aB×aJ):Prop:=FE B r.1∧okCur r.2
def okKs (B:Nat) (r:List aB×aJ):Prop:=(r.1.length≤3∧∀ y∈r.1,FE B y)∧okCur r.2
def okP (B:Nat) (r:aQ×aJ):Prop:=(okGPlan r.1∧eU r.1≤40+8 * B∧0<r.1.items.length)∧okCur r.2
def pT (n:Int) (t:List Int):Prop:=(t.length:Int)≤n∧∀ x∈t,okI x
def pO (n:Int) (B:Nat) (o:List (List aB)):Prop:=(o.length:Int)≤n∧∀ l∈o,l.length≤1∧∀ y∈l,FE B y
def pL (n:Int) (B:Nat) (l:List aB):Prop:=(l.length:Int)≤n∧∀ y∈l,FE B y
def pN (n:Int) (l:List (List UInt8)):Prop:=(l.length:Int)≤n∧∀ s∈l,s.length≤8
def pK (B:Nat) (l:List bF):Prop:=l.length≤1∧∀ k∈l,FE B k.expr
theorem mem1 {α:Type} {x:α} {p:α→Prop} (hx:p x):∀ y∈[x],p y:=fun y hy=>by
  have:y=x:=by simpa using hy
  rw [this]; exact hx
theorem oL {α:Type} {l:List α} {x:α} {p:α→Prop} (h:∀ y∈l,p y) (hx:p x):∀ y∈l++[x],p y:=fun y hy=>by
  rcases QY.1 hy with hy | hy
  · exact h y hy
  · have:y=x:=by simpa using hy
    rw [this]; exact hx
theorem mkP {B:Nat} {t:List Int} {o:List (List aB)} {w i:List aB} {r:List bF} {n:List (List UInt8)} {d:Bool} {l:Int} (ht:pT 2 t) (ho:pO 2 B o) (hw:pL 3 B w) (hr:pK B r) (hi:pL 2 B i) (hn:pN 2 n) (hl:okI l) (hi0:0<i.length) :
    okGPlan (aQ.mk t o w r i n d l)∧eU (aQ.mk t o w r i n d l)≤40+8 * B∧0<(aQ.mk t o w r i n d l).items.length:=by
  obtain ⟨t1,t2⟩:=ht
  obtain ⟨o1,o2⟩:=ho
  obtain ⟨w1,w2⟩:=hw
  obtain ⟨r1,r2⟩:=hr
  obtain ⟨i1,i2⟩:=hi
  obtain ⟨n1,n2⟩:=hn
  refine ⟨?_,?_,hi0⟩
  · unfold okGPlan
    exact ⟨⟨by omega,t2⟩,⟨by omega,okLLX_of fun y hy=>⟨by have:=(o2 y hy).1; omega,fun x hx=>((o2 y hy).2 x hx).1⟩⟩,⟨by omega,okLX_of fun y hy=>(w2 y hy).1⟩,⟨by omega,okLK_of fun y hy=>(r2 y hy).1⟩,⟨by omega,okLX_of fun y hy=>(i2 y hy).1⟩,⟨by omega,fun s hs=>by have:=n2 s hs; unfold okS; omega⟩,trivial,hl⟩
  · have e1:eU (aQ.mk t o w r i n d l)=zTb t+zL z0 t+zL (zL bA) o+zL bA w+zL tZ r+zL bA i+zL WB n:=by simp only [eU,Z9,aJ2,aK6,zL]
    have a1:=pU (z:=z0) (B:=0) (n:=2) (l:=t) (by omega) (fun _ _=>by simp [z0])
    have a2:=pU (z:=zL bA) (B:=1 * (1+B)) (n:=2) (l:=o) (by omega) (fun y hy=>pU (o2 y hy).1 fun x hx=>((o2 y hy).2 x hx).2)
    have a3:=pU (z:=bA) (B:=B) (n:=3) (l:=w) (by omega) (fun y hy=>(w2 y hy).2)
    have a4:=pU (z:=tZ) (B:=B) (n:=1) (l:=r) (by omega) (fun y hy=>by have:=(r2 y hy).2; obtain ⟨p,q⟩:=y; simpa only [tZ] using this)
    have a5:=pU (z:=bA) (B:=B) (n:=2) (l:=i) (by omega) (fun y hy=>(i2 y hy).2)
    have a6:=pU (z:=WB) (B:=8) (n:=2) (l:=n) (by omega) n2
    have a0:zTb t=0:=by unfold zTb; omega
    rw [e1]; omega
def Zb:Nat→Nat
  | 0=>10
  | n+1=>60+11 * Zb n
theorem aRy:okGValue ⟨0,0,[]⟩:=⟨okI_small (by decide) (by decide),okI_small (by decide) (by decide),by unfold okS; simp⟩
theorem bD3 (n:Int) (h0 : -1000≤n) (h1:n≤1000):okI (QC .i64 n):=by rw [dD (by omega) (by omega)]; exact okI_small h0 h1
theorem bNj (n:Nat):10≤Zb n:=by cases n <;> simp only [Zb] <;> omega
def FZ (B:Nat) (r:aB×aJ):Prop:=bA r.1≤B∧okCur r.2
def KZ (B m:Nat) (r:List aB×aJ):Prop:=(r.1.length≤m∧∀ y∈r.1,bA y≤B)∧okCur r.2
def PZ (B:Nat) (r:aQ×aJ):Prop:=eU r.1≤40+8 * B∧okCur r.2
theorem zV {v:aA} {B:Nat} (h:v.text.length≤B) (hn:okI v.num):uY v≤B:=by
  obtain ⟨a,b,c⟩:=v
  show c.length+zN b≤B
  rw [zN0 hn]; exact h
theorem bSn {v:aA} (h:uY v≤1048576):okI v.num:=by
  obtain ⟨a,b,c⟩:=v
  change c.length+zN b≤_ at h
  unfold zN at h
  split at h
  · assumption
  · omega
theorem bI9 (c:aJ) (ty:Int) (h:okCur c):Yes (Q7 c ty) fun r=>(r.1.text.length≤4∧okI r.1.num)∧okCur r.2:=by
  have o0:okI 0:=by decide
  have o1:okI 1:=by decide
  unfold Q7
  refine Yes.bind (jH _ _ h) fun r k=>Yes.ite (fun _=>Yes.some ⟨⟨by simp,o0⟩,k⟩) fun _=>Yes.ite (fun _=>?_) fun _=>Yes.ite (fun _=>?_) fun _=>?_
  · refine Yes.bind (aBp _ _ (by decide) k) fun r ⟨hm,k⟩=>?_
    have:∀ v∈([[],[97],[98],[97,98]]:List (List UInt8)),v.length≤4:=by decide
    exact Yes.bind (Q:=fun v=>v.text.length≤4∧okI v.num) ⟨_,rfl,this _ hm,o0⟩ fun v hv=>Yes.some ⟨hv,k⟩
  · refine Yes.bind (jH _ _ k) fun r k=>Yes.bind (Q:=fun v:aA=>v.text.length≤4∧okI v.num) ?_ fun v hv=>Yes.some ⟨hv,k⟩
    unfold rP
    exact Yes.ite (fun _=>Yes.some ⟨by simp,o1⟩) fun _=>Yes.some ⟨by simp,o0⟩
  · exact Yes.bind (E9 _ k) fun r ⟨hi,k⟩=>Yes.bind (Q:=fun v:aA=>v.text.length≤4∧okI v.num) ⟨_,rfl,by simp,hi⟩ fun v hv=>Yes.some ⟨hv,k⟩
theorem bP1 (c:aJ) (l:List Int) (hl:0<l.length) (h:okCur c):Yes (X4 c l) fun r=>r.1∈l∧okCur r.2:=by
  obtain ⟨x,c',e,hm,k⟩:=aUk c l hl h
  exact ⟨_,e,hm,k⟩
theorem bIa (c:aJ) (ty:Int) (h:okCur c):Yes (aDp c ty) fun r=>(r.1.text.length≤4∧okI r.1.num)∧okCur r.2:=by
  unfold aDp aKu
  refine Yes.bind (bI9 c ty h) fun r ⟨h1,k⟩=>Yes.ite (fun _=>Yes.bind (bP1 _ _ (by decide) k) fun q ⟨hm,k⟩=>Yes.some ⟨⟨h1.1,?_⟩,k⟩) fun _=>Yes.some ⟨h1,k⟩
  have:∀ v∈([0,1,2,3,5,1,2,9223372036854775807]:List Int),okI v:=by decide
  exact this _ hm
theorem bNu (c:aJ) (env:List (List Int)) (hv:nH env) (hl:env.length≤4194304) (ty:Int) (h:okCur c):Yes (aEv c env ty) (FZ 10):=by
  have key:∀ i,i≤env.length→∀ x b0 b3 b4 (t:List UInt8) u a b j g,(t.length≤4∧okI b4)→okCur ⟨b,j,g⟩→Yes (aBh env ty x (i:Nat) b0 b3 b4 (t,u,a,b,j,g)) (FZ 10):=by
    refine dZ ?_ ?_
    · intro x b0 b3 b4 t u a b j g ht k
      rw [aBh,if_neg (by simp)]
      refine Yes.some ⟨?_,k⟩
      have:=zV (v:=⟨b3,b4,t⟩) ht.1 ht.2
      rw [yL]; simp [zL]; omega
    · intro i hi ih x b0 b3 b4 t u a b j g ht k
      rw [aBh,if_pos (by simpa using hi)]
      have hr:=(hv _ (QE hi)).1
      have inner:∀ m,m≤env[i].length→∀ x b0 b3 b4 (t:List UInt8) u a b j g,(t.length≤4∧okI b4)→okCur ⟨b,j,g⟩→Yes (aBu env ty (i:Nat) x (m:Nat) b0 b3 b4 (t,u,a,b,j,g)) (FZ 10):=by
        refine dZ ?_ ?_
        · intro x b0 b3 b4 t u a b j g ht k
          rw [aBu]
          simp only [bP hi,dN,WT,decide_false,QD,if_false,dR hi (by omega),QB,QA]
          exact ih _ _ _ _ _ _ _ _ _ _ ht k
        · intro m hm im x b0 b3 b4 t u a b j g ht k
          have J2:∀ x b0 b3 b4 (t:List UInt8) u a b j g,(t.length≤4∧okI b4)→okCur ⟨b,j,g⟩→Yes (aAz env ty (i:Nat) (m:Nat) x b0 b3 b4 (t,u,a,b,j,g)) (FZ 10):=by
            intro x b0 b3 b4 t u a b j g ht k
            rw [aAz,dR hm (by omega)]
            exact im _ _ _ _ _ _ _ _ _ _ ht k
          rw [aBu]
          simp only [bP hi,dN,hm,decide_true,if_true,bP hm,QB,QA]
          refine Yes.ite (fun _=>?_) fun _=>J2 _ _ _ _ _ _ _ _ _ _ ht k
          exact Yes.bind (jH _ _ k) fun r k=>Yes.ite (fun _=>J2 _ _ _ _ _ _ _ _ _ _ ⟨by simp,by decide⟩ k) fun _=>J2 _ _ _ _ _ _ _ _ _ _ ht k
      simpa using inner 0 (by omega) x b0 b3 b4 t u a b j g ht k
  unfold aEv
  refine Yes.bind (bIa c ty h) fun r ⟨h1,k⟩=>?_
  simpa using key 0 (by omega) _ _ _ _ _ _ _ _ _ _ h1 k
theorem bOv (B:Nat) (cat:aR) (env:List (List Int)) (ty d:Int) (m:Int) (hm:m≤4) (H:∀ c,okCur c→Yes (uG c cat env ty (QC .i64 (d - 1))) (FZ B)) (c:aJ) (h:okCur c):Yes (pM c cat env ty d m) (KZ B 4):=by
  have key:∀ (k:Nat) (i:Int) b j h (l:List aB),m≤k+i→0≤i→i≤4→(l.length:Int)≤i→(∀ y∈l,bA y≤B)→okCur ⟨b,j,h⟩→Yes (K6 env ty d m cat i (b,j,h,l)) (KZ B 4):=by
    intro k
    induction k with
    | zero =>
      intro i b j h l h1 h2 h3 h4 h5 h6
      rw [K6,if_neg (by simp; omega)]
      exact Yes.some ⟨⟨by show l.length≤4; omega,h5⟩,h6⟩
    | succ k ih =>
      intro i b j h l h1 h2 h3 h4 h5 h6
      rw [K6]
      refine Yes.ite (fun hi=>?_) fun _=>Yes.some ⟨⟨by show l.length≤4; omega,h5⟩,h6⟩
      have hi':i<m:=by simpa using hi
      refine Yes.bind (H _ h6) fun r ⟨hz,hr⟩=>Yes.bind (lK (by simp; omega)) fun y hy=>?_
      subst hy
      rw [dD (by omega) (by omega)]
      exact ih _ _ _ _ _ (by omega) (by omega) (by omega) (by simp; omega) (oL h5 hz) hr
  rw [pM]
  exact key m.toNat 0 c.b c.i c.h [] (by omega) (by omega) (by omega) (by simp) (by simp) h
def qO (n:Int) (B:Nat) (o:List (List aB)):Prop:=(o.length:Int)≤n∧∀ l∈o,l.length≤1∧∀ y∈l,bA y≤B
def qL (n:Int) (B:Nat) (l:List aB):Prop:=(l.length:Int)≤n∧∀ y∈l,bA y≤B
def qK (B:Nat) (l:List bF):Prop:=l.length≤1∧∀ k∈l,bA k.expr≤B
theorem bA3 {B:Nat} {t:List Int} {o:List (List aB)} {w i:List aB} {r:List bF} {n:List (List UInt8)} {d:Bool} {l:Int} (ht:t.length≤2) (ho:qO 2 B o) (hw:qL 1 B w) (hr:qK B r) (hi:qL 2 B i) (hn:pN 2 n):eU (aQ.mk t o w r i n d l)≤40+8 * B:=by
  obtain ⟨o1,o2⟩:=ho
  obtain ⟨w1,w2⟩:=hw
  obtain ⟨r1,r2⟩:=hr
  obtain ⟨i1,i2⟩:=hi
  obtain ⟨n1,n2⟩:=hn
  have e1:eU (aQ.mk t o w r i n d l)=zTb t+zL z0 t+zL (zL bA) o+zL bA w+zL tZ r+zL bA i+zL WB n:=by simp only [eU,Z9,aJ2,aK6,zL]
  have a1:=pU (z:=z0) (B:=0) (n:=2) (l:=t) (by omega) (fun _ _=>by simp [z0])
  have a2:=pU (z:=zL bA) (B:=1 * (1+B)) (n:=2) (l:=o) (by omega) (fun y hy=>pU (o2 y hy).1 fun x hx=>(o2 y hy).2 x hx)
  have a3:=pU (z:=bA) (B:=B) (n:=1) (l:=w) (by omega) (fun y hy=>w2 y hy)
  have a4:=pU (z:=tZ) (B:=B) (n:=1) (l:=r) (by omega) (fun y hy=>by have:=r2 y hy; obtain ⟨p,q⟩:=y; simpa only [tZ] using this)
  have a5:=pU (z:=bA) (B:=B) (n:=2) (l:=i) (by omega) (fun y hy=>i2 y hy)
  have a6:=pU (z:=WB) (B:=8) (n:=2) (l:=n) (by omega) n2
  have a0:zTb t=0:=by unfold zTb; omega
  rw [e1]; omega
theorem bEy {cat:aR} (hc:nN cat) {env:List (List Int)} (hv:nH env) {l:List Int} (hl:l.length≤1000):nH ((gI cat [] l).1::env):=by
  obtain ⟨a,b⟩:=aO1 cat hc l [] (by simp)
  exact aVh (by simp only [WD] at b; omega) a hv
theorem bLp {B:Nat} {d:Int} {cat:aR} (hc:nN cat) (env:List (List Int)) (hv:nH env) (hl:env.length≤1000) (types:List Int) (hty:types.length≤2)
    (H:∀ c ty env',nH env'→env'.length=env.length+1→okCur c→Yes (uG c cat env' ty d) (FZ B)) (c:aJ) (h:okCur c):Yes (aDj c cat env types d) (PZ B):=by
  have J4:∀ y1 (w:List aB) n i o t b j g r,qL 1 B w→pN 2 n→qL 2 B i→qO 2 B o→t.length≤2→qK B r→okCur ⟨b,j,g⟩→Yes (aGb y1 w n i o t b j g r) (PZ B):=fun y1 w n i o t b j g r hw hn hi ho ht hr k=>by
    unfold aGb aJv
    refine Yes.bind (jH _ _ k) fun q k=>Yes.ite (fun _=>?_) fun _=>?_
    · exact Yes.bind (iQ _ _ k) fun q ⟨_,_,k⟩=>Yes.some ⟨bA3 ht ho hw hr hi hn,k⟩
    · exact Yes.some ⟨bA3 ht ho hw hr hi hn,k⟩
  have J3:∀ env' y1 n i o t b j g (w:List aB),nH env'→env'.length=env.length+1→qL 1 B w→pN 2 n→qL 2 B i→qO 2 B o→t.length≤2→okCur ⟨b,j,g⟩→Yes (aC0 d env' cat y1 n i (o,t,b,j,g,w)) (PZ B):=fun env' y1 n i o t b j g w he hel hw hn hi ho ht k=>by
    rw [aC0]
    refine Yes.bind (jH _ _ k) fun q k=>Yes.ite (fun _=>?_) fun _=>?_
    · refine Yes.bind (iQ _ _ k) fun q ⟨_,_,k⟩=>Yes.bind (H _ _ _ he hel k) fun q ⟨hq,k⟩=>Yes.bind (jH _ _ k) fun q2 k=>Yes.bind (lK (by simp)) fun z hz=>?_
      subst hz
      exact J4 _ _ _ _ _ _ _ _ _ _ hw hn hi ho ht ⟨by simp,mem1 (p:=fun (k:bF)=>bA k.expr≤B) hq⟩ k
    · exact J4 _ _ _ _ _ _ _ _ _ _ hw hn hi ho ht ⟨by simp,by simp⟩ k
  have L2:∀ env' y1 o t,nH env'→env'.length=env.length+1→qO 2 B o→t.length≤2→∀ x,x≤types.length→∀ b j g n i,pN x n→qL x B i→okCur ⟨b,j,g⟩→Yes (aBz types d env' cat y1 o t ((x:Nat),b,j,g,n,i)) (PZ B):=by
    intro env' y1 o t he hel ho ht
    refine dZ ?_ ?_
    · intro b j g n i hn hi k
      rw [aBz,if_neg (by simp)]
      have hn2:pN 2 n:=⟨by have:=hn.1; omega,hn.2⟩
      have hi2:qL 2 B i:=⟨by have:=hi.1; omega,hi.2⟩
      refine Yes.bind (jH _ _ k) fun q k=>Yes.ite (fun _=>?_) fun _=>?_
      · exact Yes.bind (H _ _ _ he hel k) fun q ⟨hq,k⟩=>J3 _ _ _ _ _ _ _ _ _ _ he hel ⟨by simp,mem1 hq⟩ hn2 hi2 ho ht k
      · exact J3 _ _ _ _ _ _ _ _ _ _ he hel ⟨by simp,by simp⟩ hn2 hi2 ho ht k
    · intro x hx ih b j g n i hn hi k
      rw [aBz,if_pos (by simpa using hx)]
      have l1:=hn.1
      have l2:=hi.1
      simp only [bP hx,dR hx (by omega),QB,QA]
      refine Yes.bind (H _ _ _ he hel k) fun q ⟨hq,k⟩=>Yes.bind (lK (by simp; omega)) fun z hz=>Yes.bind (aBp _ _ (by decide) k) fun s ⟨hs,k⟩=>Yes.bind (lK (by simp; omega)) fun z2 hz2=>?_
      subst hz hz2
      have hs8:s.1.length≤8:=by
        have:∀ v∈([[97],[98],[99],[120],[121,32,122],[99,49]]:List (List UInt8)),v.length≤8:=by decide
        exact this _ hs
      exact ih _ _ _ _ _ ⟨by simp; omega,oL hn.2 hs8⟩ ⟨by simp; omega,oL hi.2 hq⟩ k
  have L0:∀ (y2:Int×aJ) y1,0≤y2.1→y2.1<2→∀ (m:Nat) (x:Int) b j g o (t:List Int),2≤m+x→0≤x→x≤2→qO x B o→(t.length:Int)≤x→okCur ⟨b,j,g⟩→Yes (U3 env types d y2 cat y1 (x,b,j,g,o,t)) (PZ B):=by
    intro y2 y1 y0 yl m
    have e0:QC .i64 (1+y2.1)=1+y2.1:=dD (by omega) (by omega)
    have fin:∀ (x:Int) b j g o (t:List Int),¬ x<1+y2.1→x≤2→qO x B o→(t.length:Int)≤x→okCur ⟨b,j,g⟩→Yes (U3 env types d y2 cat y1 (x,b,j,g,o,t)) (PZ B):=by
      intro x b j g o t hx h2 ho ht k
      rw [U3]
      dsimp only
      rw [e0,if_neg (by simpa using hx),(aCe cat hc t (by omega)).2]
      simp only [QB,QA]
      rw [(aGi _ env (by omega)).2]
      simp only [QA]
      exact L2 _ y1 o t (bEy hc hv (by omega)) (by simp) ⟨by have:=ho.1; omega,ho.2⟩ (by omega) 0 (by omega) _ _ _ _ _ ⟨by simp,by simp⟩ ⟨by simp,by simp⟩ k
    induction m with
    | zero=>intro x b j g o t h1 h2 h3 ho ht k; exact fin x b j g o t (by omega) h3 ho ht k
    | succ m ih =>
      intro x b j g o t h1 h2 h3 ho ht k
      by_cases hx:x<1+y2.1
      · rw [U3]
        dsimp only
        rw [e0,if_pos (by simpa using hx)]
        have l1:=ho.1
        have J1:∀ (q:Int) (w:List aB) b j g,w.length≤1→(∀ y∈w,bA y≤B)→okCur ⟨b,j,g⟩→Yes (aFe env types d y2 x cat y1 (t++[q],o,b,j,g,w)) (PZ B):=fun q w b j g hw1 hw2 k=>by
          rw [aFe]
          refine Yes.bind (lK (by simp; omega)) fun z hz=>?_
          subst hz
          rw [dD (by omega) (by omega)]
          exact ih _ _ _ _ _ _ (by omega) (by omega) (by omega) ⟨by simp; omega,oL ho.2 ⟨hw1,hw2⟩⟩ (by simp; omega) k
        refine Yes.bind (iQ _ _ k) fun q ⟨q0,q1,k⟩=>Yes.bind (lK (by simp; omega)) fun z hz=>?_
        subst hz
        rw [(aCe cat hc (t++[q.1]) (by simp; omega)).2]
        simp only [QB,QA]
        refine Yes.bind (P7 _ _ _ _ k) fun q2 k=>?_
        refine Yes.ite (fun _=>?_) fun _=>?_
        · rw [(aGi _ env (by omega)).2]
          simp only [QA]
          refine Yes.bind (H _ _ _ (bEy hc hv (by simp; omega)) (by simp) k) fun e ⟨he,k⟩=>Yes.bind (lK (by simp)) fun z hz=>?_
          subst hz
          exact J1 _ _ _ _ _ (by simp) (mem1 he) k
        · exact J1 _ _ _ _ _ (by simp) (by simp) k
      · exact fin x b j g o t hx h3 ho ht k
  rw [aDj]
  refine Yes.bind (jH _ _ h) fun y1 k=>Yes.bind (iQ _ _ k) fun y2 ⟨q0,q1,k⟩=>?_
  exact L0 y2 y1 q0 (q1 (by decide)) 2 0 _ _ _ _ _ (by omega) (by omega) (by omega) ⟨by simp,by simp⟩ (by simp) k
theorem bVd (B:Nat) (cat:aR) (env:List (List Int)) (ty d:Int) (H:∀ c,okCur c→Yes (uG c cat env ty (QC .i64 (d - 1))) (FZ B)) (c:aJ) (h:okCur c):Yes (pM c cat env ty d 1) (KZ B 1):=by
  rw [pM,K6,if_pos (by simp)]
  refine Yes.bind (H _ h) fun r ⟨hz,hr⟩=>Yes.bind (lK (by simp)) fun y hy=>?_
  subst hy
  rw [K6,if_neg (by decide)]
  exact Yes.some ⟨⟨by simp,by simpa using hz⟩,hr⟩
theorem bDm (c:aJ) (env:List (List Int)) (hv:nH env) (hl:env.length≤4194304) (ty:Int) (h:okCur c) (B:Nat) (hB:10≤B):Yes ((fI c 3)>>=fun (y3:Bool×aJ)=>if y3.1=true then ((aDp y3.2 ty)>>=fun (y4:aA×aJ)=>some ((aB.mk 1 0 false y4.1 0 0 ([]:List aB) ([]:List aQ)),y4.2)) else ((aEv y3.2 env ty)>>=fun (y5:aB×aJ)=>some (y5.1,y5.2))) (FZ B):=by
  refine Yes.bind (jH _ _ h) fun r k=>Yes.ite (fun _=>?_) fun _=>?_
  · refine Yes.bind (bIa _ _ k) fun r ⟨h1,k⟩=>Yes.some ⟨?_,k⟩
    dsimp only
    have:=zV h1.1 h1.2
    rw [yL]; simp [zL]; omega
  · exact Yes.bind (bNu _ env hv hl ty k) fun r ⟨h1,k⟩=>Yes.some ⟨by show bA r.1≤B; omega,k⟩
def CR (c:aR):Prop:=(1≤c.tables.length∧c.tables.length≤3)∧∀ t∈c.tables,(1≤t.cols.length∧t.cols.length≤3)∧∀ x∈uV t,okT x
theorem CR.cat {c:aR} (h:CR c):nN c:=⟨by have:=h.1; omega,fun t ht=>⟨by have:=(h.2 t ht).1; omega,(h.2 t ht).2⟩⟩
def okCR (r:aR×aJ):Prop:=CR r.1∧okCur r.2
theorem bWh (n s:List UInt8):aB8 ⟨n,[]⟩ s=some (-1):=by unfold aB8; rw [M7]; simp
theorem bFx {i:Nat} (h:i≤1000):QC .i64 ((i:Int)+1)=((i+1:Nat):Int):=by rw [dD (by omega) (by omega)]; omega
theorem bP4 (y1:Int×aJ) (h0:0≤y1.1) (h3:y1.1<3):∀ (k i:Nat) b j h (T:List gG),3≤k+i→i≤3→T.length=i→(∀ t∈T,(1≤t.cols.length∧t.cols.length≤3)∧∀ x∈uV t,okT x)→okCur ⟨b,j,h⟩→Yes (X6 y1 i T b j h) okCR:=by
  intro k
  induction k with
  | zero =>
    intro i b j h T h1 h2 hT hC hc
    rw [X6,if_neg (by rw [decide_eq_true_eq,dD (by omega) (by omega)]; omega)]
    exact Yes.some ⟨⟨⟨by dsimp only; omega,by dsimp only; omega⟩,hC⟩,hc⟩
  | succ k ih =>
    intro i b j h T h1 h2 hT hC hc
    rw [X6]
    by_cases hi:(i:Int)<QC .i64 (1+y1.1)
    case neg =>
      rw [if_neg (by rw [decide_eq_true_eq]; exact hi)]
      rw [dD (by omega) (by omega)] at hi
      exact Yes.some ⟨⟨⟨by dsimp only; omega,by dsimp only; omega⟩,hC⟩,hc⟩
    rw [if_pos (decide_eq_true hi)]
    rw [dD (by omega) (by omega)] at hi
    have hi3:i<([[116],[117],[118]]:List (List UInt8)).length:=by show i<3; omega
    rw [bP hi3]
    simp only [QB,QA]
    refine Yes.bind (iQ _ _ hc) fun y3 ⟨k0,k1,hc3⟩=>?_
    have k1:=k1 (by omega)
    generalize ([[116],[117],[118]]:List (List UInt8))[i]=y2
    have fin:∀ b j h (C:List iP),(1≤C.length∧C.length≤3)→(∀ x∈C.map iP.type,okT x)→okCur ⟨b,j,h⟩→Yes (appG 40 T ([(gG.mk y2 C)]:List gG)>>=fun y14=>X6 y1 (QC .i64 ((i:Int)+1)) y14 b j h) okCR:=by
      intro b j h C hl ht hc
      refine Yes.bind (lK (by simp; omega)) fun y e=>?_
      subst e
      rw [bFx (by omega)]
      exact ih (i+1) _ _ _ _ (by omega) (by omega) (by simp; omega) (oL hC ⟨hl,ht⟩) hc
    have inner:∀ (m x:Nat) b j h (C:List iP),3≤m+x→x≤3→C.length≤x→(1≤x→1≤C.length)→(∀ x∈C.map iP.type,okT x)→okCur ⟨b,j,h⟩→Yes (aDo y1 i y3 T y2 x (C,b,j,h)) okCR:=by
      intro m
      induction m with
      | zero =>
        intro x b j h C m1 m2 hl hl1 ht hc
        rw [aDo,if_neg (by rw [decide_eq_true_eq,dD (by omega) (by omega)]; omega)]
        exact fin b j h C ⟨hl1 (by omega),by omega⟩ ht hc
      | succ m ihm =>
        intro x b j h C m1 m2 hl hl1 ht hc
        rw [aDo]
        by_cases hx:(x:Int)<QC .i64 (1+y3.1)
        case neg =>
          rw [if_neg (by rw [decide_eq_true_eq]; exact hx)]
          rw [dD (by omega) (by omega)] at hx
          exact fin b j h C ⟨hl1 (by omega),by omega⟩ ht hc
        rw [if_pos (decide_eq_true hx)]
        rw [dD (by omega) (by omega)] at hx
        have J3:∀ b j h (C:List iP),C.length≤x+1→1≤C.length→(∀ x∈C.map iP.type,okT x)→okCur ⟨b,j,h⟩→Yes (aBk y1 i y3 x T y2 (b,j,h,C)) okCR:=by
          intro b j h C hl hl1 ht hc
          rw [aBk,bFx (by omega)]
          exact ihm (x+1) _ _ _ _ (by omega) (by omega) hl (fun _=>hl1) ht hc
        have J2:∀ (y8:Int×aJ) (nm:List UInt8) b j h,okT y8.1→okCur ⟨b,j,h⟩→Yes (aFj y1 i y3 x T y2 C (y8,nm,b,j,h)) okCR:=by
          intro y8 nm b j h h8 hc
          rw [aFj]
          obtain ⟨_,r,hr⟩:=bZy ⟨y2,C⟩ nm (by dsimp only; omega)
          rw [hr]
          simp only [QB,QA]
          refine Yes.ite (fun _=>?_) fun hn=>?_
          · refine Yes.bind (lK (by simp; omega)) fun y e=>?_
            subst e
            refine J3 _ _ _ _ (by simp; omega) (by simp) ?_ hc
            rw [List.map_append]
            exact oL ht h8
          · refine J3 _ _ _ _ (by omega) ?_ ht hc
            cases C with
            | cons _ _=>simp
            | nil =>
              rw [bWh] at hr
              simp only [QI] at hr
              subst hr
              simp at hn
        refine Yes.bind (bLz _ _ (by decide) hc) fun y7 hc=>?_
        obtain ⟨v,c',e,hv,hc⟩:=aUk y7.2 [1,1,2,3] (by decide) hc
        have h8:okT v:=by
          have:∀ v∈([1,1,2,3]:List Int),0≤v∧v≤3:=by decide
          exact this v hv
        rw [e]
        simp only [QB,QA]
        refine Yes.bind (jH _ _ hc) fun y9 hc=>?_
        refine Yes.ite (fun _=>?_) fun _=>J2 _ _ _ _ _ h8 hc
        exact Yes.bind (bAt _ hc) fun y10 ⟨_,hc⟩=>J2 _ _ _ _ _ h8 hc
    exact inner 3 0 _ _ _ _ (by omega) (by omega) (by simp) (by omega) (by simp) hc3
theorem bQe (c:aJ) (h:okCur c):Yes (aIo c) okCR:=by
  unfold aIo
  refine Yes.bind (iQ _ _ h) fun y1 ⟨k0,k1,hc⟩=>?_
  exact bP4 y1 k0 (k1 (by omega)) 3 0 _ _ _ _ (by omega) (by omega) rfl (by simp) hc
theorem aC6 (b:Bool):tV b=rP b:=by
  cases b <;> rfl
theorem yE (b:Bool):rP b=some ⟨3,if b then 1 else 0,[]⟩:=by
  cases b <;> rfl
theorem aO7 (x:aA):wF x=nW x:=by
  unfold wF nW iB
  simp only [QB,QA]
  split
  · rfl
  split
  · rfl
  split
  · rfl
  split
  · congr 1
    have:(if (decide (x.num=0))=true then true else (decide (x.num=1)))=(if (decide (0≤x.num))=true then (decide (x.num≤1)) else false):=by
      simp only [decide_eq_true_eq,Bool.if_true_left,Bool.if_false_right,Bool.decide_eq_true]
      by_cases h0:x.num=0
      · simp [h0]
      · by_cases h1:x.num=1
        · simp [h1]
        · simp [h0,h1]; omega
    rw [this]
  · rfl
theorem bL9 (a b c:Int):aL1 [a,b,c]=some (if a≠0 then a else if b≠0 then b else c):=by
  have w1:QC .i64 (0+1)=1:=by decide
  have w2:QC .i64 (1+1)=2:=by decide
  have w3:QC .i64 (2+1)=3:=by decide
  unfold aL1
  rw [I9]
  rw [w1,I9]
  rw [w2,I9]
  rw [w3,I9]
  simp only [idx]
  by_cases ha:a=0 <;> by_cases hb:b=0 <;> by_cases hc:c=0 <;> simp [ha,hb,hc]
theorem bTv (a b:Int):aEc a b=some (if a<b then -1 else if b<a then 1 else 0):=by
  unfold aEc aK2
  simp only [QB,QA,decide_true,QF,QD,if_false,decide_eq_true_eq]
  split
  · rfl
  · split <;> rfl
theorem bJc (a b:List UInt8):aI0 a b=some (if Op.bytesLess a b=true then -1 else if (!(Op.bytesLess a b||decide (a=b)))=true then 1 else 0):=by
  unfold aI0 aLe
  simp only [QB,QA,decide_true,QF,QD,if_false]
  split
  · rfl
  · split <;> rfl
theorem aZe (x y:aA):aFt x y=xD x y:=by
  unfold aFt xD
  simp only [QB,bTv,bJc,bL9,QA,decide_eq_true_eq]
  by_cases h1:x.kind<y.kind
  · simp [h1]
  by_cases h2:y.kind<x.kind
  · simp [h1,h2]
  by_cases h3:x.num<y.num
  · simp [h1,h2,h3]
  by_cases h4:y.num<x.num
  · simp [h1,h2,h3,h4]
  simp only [h1,h2,h3,h4,if_false,ne_eq,not_true_eq_false]
  split
  · rfl
  · split <;> rfl
theorem bRp (k:Int) (hk:k≤8) (x:aA):Y5 k x=some true:=by
  unfold Y5
  simp [hk]
theorem aFa (x:aA):wN x=some (decide (x.kind=0)):=rfl
theorem aTk (x:aA) (k:Int):xC x k=some (decide (x.kind=k)||decide (x.kind=0)):=by
  unfold xC
  simp only [aFa]
  by_cases h:x.kind=k <;> simp [h]
theorem aZp (x:aA):∃ b,nW x=some b:=by
  rw [← aO7]
  unfold wF
  repeat (split; exact ⟨_,rfl⟩)
  exact ⟨_,rfl⟩
theorem bHo (x y:aA):∃ b,xD x y=some b:=by
  unfold xD
  repeat (split; exact ⟨_,rfl⟩)
  exact ⟨_,rfl⟩
def gvE (x u:aA):Bool:=(decide (x.kind=u.kind))&&((decide (x.num=u.num))&&((decide (x.text=u.text))&&true))
theorem bCi (x u:aA):((decide (x.kind=u.kind))&&((decide (x.num=u.num))&&((decide (x.text=u.text))&&true)))=gvE x u:=by rw [gvE]
def K9 (k:Int) (x y:aA):aA×Int :=
  if (x.kind=3∨x.kind=0)∧(y.kind=3∨y.kind=0) then
    if gvE x ⟨3,if decide (k=1) then 1 else 0,[]⟩||gvE y ⟨3,if decide (k=1) then 1 else 0,[]⟩ then (⟨3,if decide (k=1) then 1 else 0,[]⟩,0) else if x.kind=0∨y.kind=0 then (⟨0,0,[]⟩,0) else (⟨3,if decide (k=2) then 1 else 0,[]⟩,0)
  else (⟨0,0,[]⟩,1)
theorem bFk (k:Int) (x y:aA):aHe k x y=some (K9 k x y):=by
  unfold aHe K9
  simp only [aTk,aFa,yE,QB,QA,bCi]
  have n1:∀ u,gvE x u=false∨gvE x u=true:=fun u=>by cases gvE x u <;> simp
  have n2:∀ u,gvE y u=false∨gvE y u=true:=fun u=>by cases gvE y u <;> simp
  rcases n1 ⟨3,if decide (k=1)=true then 1 else 0,[]⟩ with e1 | e1 <;> rcases n2 ⟨3,if decide (k=1)=true then 1 else 0,[]⟩ with e2 | e2 <;> rw [e1,e2] <;> clear n1 n2 e1 e2
  all_goals
    by_cases a:x.kind=3 <;> by_cases b:x.kind=0 <;> by_cases c:y.kind=3 <;> by_cases d:y.kind=0 <;> simp_all
theorem bDd (k:Int) (x y:aA):aJs k x y=some (K9 k x y):=by
  have w1:QC .i64 (0+1)=1:=by decide
  have w2:QC .i64 (1+1)=2:=by decide
  unfold aJs K9
  rw [aBg,w1,aBg,w2,aBg]
  simp only [aC6,yE,QB,QA,bCi,idx]
  have n1:∀ u,gvE x u=false∨gvE x u=true:=fun u=>by cases gvE x u <;> simp
  have n2:∀ u,gvE y u=false∨gvE y u=true:=fun u=>by cases gvE y u <;> simp
  rcases n1 ⟨3,if decide (k=1)=true then 1 else 0,[]⟩ with e1 | e1 <;> rcases n2 ⟨3,if decide (k=1)=true then 1 else 0,[]⟩ with e2 | e2 <;> rw [e1,e2] <;> clear n1 n2 e1 e2
  all_goals
    by_cases a:x.kind=3 <;> by_cases b:x.kind=0 <;> by_cases c:y.kind=3 <;> by_cases d:y.kind=0 <;> simp_all
def aKz (k o:Int):Bool:=if k=3 then decide (o=0) else if k=6 then decide (o≤0) else decide (0≤o)
theorem bL8 (k:Int) (hk:k=3∨k=6∨k=8) (x y:aA) (o:Int) (ho:xD x y=some o):aD8 k x y=some ⟨3,if aKz k o then 1 else 0,[]⟩:=by
  unfold aD8
  rw [aZe,ho]
  rcases hk with rfl | rfl | rfl <;> simp [aC6,yE,aKz]
theorem bYq (k:Int) (hk:k=3∨k=6∨k=8) (o:Int):aBl k o=some (aKz k o):=by
  unfold aBl
  rcases hk with rfl | rfl | rfl <;> simp [aKz]
def tri (v:aA):Prop:=v=⟨0,0,[]⟩∨v=⟨3,0,[]⟩∨v=⟨3,1,[]⟩
theorem aKt (b:Bool):tri ⟨3,if b then 1 else 0,[]⟩:=by cases b <;> simp [tri]
theorem bXo (k:Int) (hk:k=3∨k=6∨k=8) (x y:aA):∃ r,sI k x y=some r∧uR k x y=some r∧(r.2=0→tri r.1):=by
  obtain ⟨a,ha⟩:=aZp x
  obtain ⟨b,hb⟩:=aZp y
  obtain ⟨o,ho⟩:=bHo x y
  have hk8:k≤8:=by omega
  have h1:¬ k<1:=by omega
  have h14:¬ 14<k:=by omega
  have h2:¬ k≤2:=by omega
  have h9:k≠9:=by omega
  have h10:k≠10:=by omega
  have h11:k≠11:=by omega
  have h12:k≠12:=by omega
  have h13:k≠13:=by omega
  have h14':k≠14:=by omega
  have h10':¬ 10≤k:=by omega
  have g1:1≤k:=by omega
  have g14:k≤14:=by omega
  unfold sI uR aF8 iB aG9
  simp only [aO7,ha,hb,ho,aFa,bRp k hk8,bL8 k hk x y o ho,bYq k hk,yE,QB,QA,h1,h14,h2,h9,h10,h11,h12,h13,h14',h10',g1,g14,hk8]
  have hb:=aKt (aKz k o)
  have ht:tri ⟨0,0,[]⟩:=.inl rfl
  by_cases e:x.kind=y.kind <;> by_cases c:x.kind=0 <;> by_cases d:y.kind=0 <;> cases a <;> cases b <;> simp_all
theorem bDp {x:aA} (h:tri x):nW x=some true:=by rcases h with rfl | rfl | rfl <;> decide
theorem bXv (x y:aA) (hx:tri x) (hy:tri y):∃ r,sI 1 x y=some r∧uR 1 x y=some r∧r.2=0∧tri r.1:=by
  unfold sI uR iB
  simp only [aO7,bDp hx,bDp hy,bFk,bDd,QB,QA]
  refine ⟨K9 1 x y,by simp,by simp,?_⟩
  rcases hx with rfl | rfl | rfl <;> rcases hy with rfl | rfl | rfl <;> simp [K9,gvE,tri]
abbrev i0:Int := -9223372036854775808
abbrev i1:Int:=9223372036854775807
def v0:aA:=⟨0,0,[]⟩
def vBl (b:Bool):aA:=⟨3,if b then 1 else 0,[]⟩
theorem bH3 (m:Int):∃ k:Int,QC .i64 m=m - k * 18446744073709551616∧i0≤QC .i64 m∧QC .i64 m≤i1:=by
  rw [XK]
  exact ⟨(m+9223372036854775808) / 18446744073709551616,by omega,by simp only [i0]; omega,by simp only [i1]; omega⟩
theorem bHk {a b:Int} (hb:2≤b∨b ≤ -2) (ha:okI a) : -4611686018427387904≤a.tdiv b∧a.tdiv b≤4611686018427387904:=by
  have h:(a.tdiv b).natAbs=a.natAbs / b.natAbs:=Int.natAbs_tdiv a b
  have h2:a.natAbs / b.natAbs≤a.natAbs / 2:=Nat.div_le_div_left (by omega) (by omega)
  have h3:=ha.1
  have h4:=ha.2
  omega
theorem bAc {a b:Int} (ha:okI a) (hb:okI b) (h0:b≠0):(QC .i64 ((QC .i64 (a * b)).tdiv b)=a∧¬ (b = -1∧a=i0))↔okI (a * b):=by
  have a1:=ha.1
  have a2:=ha.2
  have b1:=hb.1
  have b2:=hb.2
  constructor
  · rintro ⟨h,hn⟩
    obtain ⟨k,hk,k1,k2⟩:=bH3 (a * b)
    by_cases h2:2≤b∨b ≤ -2
    · have hs:=bHk h2 (a:=QC .i64 (a * b)) ⟨k1,k2⟩
      rw [dD (by omega) (by omega)] at h
      have e:=Int.mul_tdiv_add_tmod (QC .i64 (a * b)) b
      rw [h,XC b a] at e
      have l1:=XD (QC .i64 (a * b)) b
      have l2:(QC .i64 (a * b)).natAbs % b.natAbs<b.natAbs:=Nat.mod_lt _ (by omega)
      have:k=0:=by omega
      subst this
      have e3:a * b=QC .i64 (a * b):=by omega
      rw [e3]; exact ⟨k1,k2⟩
    · have:b=1∨b = -1:=by omega
      rcases this with rfl | rfl
      · rw [Int.mul_one]; exact ha
      · have:a≠i0:=fun e=>hn ⟨rfl,e⟩
        simp only [i0] at this
        constructor <;> omega
  · intro hm
    rw [dD hm.1 hm.2,Int.mul_tdiv_cancel _ h0,dD ha.1 ha.2]
    refine ⟨rfl,?_⟩
    rintro ⟨rfl,rfl⟩
    have:=hm.2
    simp only [i0] at this
    omega
theorem okI_w {m:Int}:okI (QC .i64 m):=by obtain ⟨_,_,h⟩:=bH3 m; exact h
def qZ (n:Int):Int×Bool:=if okI n then (n,true) else (0,false)
theorem addN {a b:Int} (ha:okI a) (hb:okI b):aH8 a b=some (qZ (a+b)):=by
  have a1:=ha.1
  have a2:=ha.2
  have b1:=hb.1
  have b2:=hb.2
  unfold aH8 qZ
  simp only [QB,QA,orB,wC,decide_eq_true_eq]
  by_cases h0:0<b
  · have e:¬ b<0:=by omega
    rw [dD (n:=9223372036854775807 - b) (by omega) (by omega)]
    by_cases h1:9223372036854775807 - b<a
    · rw [if_neg (fun h:okI _=>by have:=h.2; omega)]; simp [h0,h1]
    · rw [if_pos (show okI (a+b) from ⟨by omega,by omega⟩),dD (n:=a+b) (by omega) (by omega)]; simp [h0,h1,e]
  · by_cases h2:b<0
    · rw [dD (n := -9223372036854775808 - b) (by omega) (by omega)]
      by_cases h1:a < -9223372036854775808 - b
      · rw [if_neg (fun h:okI _=>by have:=h.1; omega)]; simp [h0,h1,h2]
      · rw [if_pos (show okI (a+b) from ⟨by omega,by omega⟩),dD (n:=a+b) (by omega) (by omega)]; simp [h0,h1,h2]
    · rw [if_pos (show okI (a+b) from ⟨by omega,by omega⟩),dD (n:=a+b) (by omega) (by omega)]; simp [h0,h2]
theorem aOu {a b:Int} (ha:okI a) (hb:okI b):aGc a b=some (qZ (a - b)):=by
  have a1:=ha.1
  have a2:=ha.2
  have b1:=hb.1
  have b2:=hb.2
  unfold aGc qZ
  simp only [QB,QA,orB,wC,decide_eq_true_eq]
  by_cases h0:b<0
  · have e:¬ 0<b:=by omega
    rw [dD (n:=9223372036854775807+b) (by omega) (by omega)]
    by_cases h1:9223372036854775807+b<a
    · rw [if_neg (fun h:okI _=>by have:=h.2; omega)]; simp [h0,h1]
    · rw [if_pos (show okI (a - b) from ⟨by omega,by omega⟩),dD (n:=a - b) (by omega) (by omega)]; simp [h0,h1,e]
  · by_cases h2:0<b
    · rw [dD (n := -9223372036854775808+b) (by omega) (by omega)]
      by_cases h1:a < -9223372036854775808+b
      · rw [if_neg (fun h:okI _=>by have:=h.1; omega)]; simp [h0,h1,h2]
      · rw [if_pos (show okI (a - b) from ⟨by omega,by omega⟩),dD (n:=a - b) (by omega) (by omega)]; simp [h0,h1,h2]
    · rw [if_pos (show okI (a - b) from ⟨by omega,by omega⟩),dD (n:=a - b) (by omega) (by omega)]; simp [h0,h2]
theorem bWe (a b:Int):aM2 a b=aH8 a b:=rfl
theorem aQt (a b:Int):aEl a b=aGc a b:=rfl
theorem bJn {a b:Int} (ha:okI a) (hb:okI b):aHn a b=some (qZ (a * b)):=by
  unfold aHn qZ zC
  by_cases h0:a=0
  · subst h0
    have o:okI 0:=⟨by decide,by decide⟩
    simp [o]; decide
  · have k:=bAc hb ha h0
    rw [XC b a] at k
    have g:QC .i64 ((QC .i64 (a * b)).tdiv a)=b∨¬ QC .i64 ((QC .i64 (a * b)).tdiv a)=b:=Classical.em _
    have w:okI (a * b)→QC .i64 (a * b)=a * b:=fun h=>dD h.1 h.2
    generalize QC .i64 ((QC .i64 (a * b)).tdiv a)=q at k g
    by_cases m1:a = -1 <;> by_cases m2:b = -9223372036854775808 <;> rcases g with g | g <;> by_cases o:okI (a * b) <;> simp_all [i0]
theorem bW7 {a b:Int} (ha:okI a) (hb:okI b):aI2 a b=some (qZ (a * b)):=by
  unfold aI2 qZ zC
  by_cases h0:a=0
  · subst h0
    have o:okI 0:=⟨by decide,by decide⟩
    simp [o]
  by_cases h1:b=0
  · subst h1
    have o:okI 0:=⟨by decide,by decide⟩
    simp [o]
  have k:=bAc ha hb h1
  have g:QC .i64 ((QC .i64 (a * b)).tdiv b)=a∨¬ QC .i64 ((QC .i64 (a * b)).tdiv b)=a:=Classical.em _
  have w:okI (a * b)→QC .i64 (a * b)=a * b:=fun h=>dD h.1 h.2
  have z:a = -1→b = -9223372036854775808→¬ okI (a * b):=by rintro rfl rfl h; have:=h.2; omega
  generalize QC .i64 ((QC .i64 (a * b)).tdiv b)=q at k g
  by_cases m1:a = -1 <;> by_cases m2:b = -9223372036854775808 <;> by_cases m3:b = -1 <;> by_cases m4:a = -9223372036854775808 <;> rcases g with g | g <;> by_cases o:okI (a * b) <;> simp_all [i0]
def H6 (r:Int×Bool):aA×Int:=if r.2=true then (⟨1,r.1,[]⟩,0) else (⟨0,0,[]⟩,2)
def arP (op a b:Int):aA×Int :=
  if op=10 then H6 (qZ (a+b)) else if op=11 then H6 (qZ (a - b)) else if op=12 then H6 (qZ (a * b)) else
    if b=0 then (⟨0,0,[]⟩,3) else if op=14 then (⟨1,a.tmod b,[]⟩,0) else if a = -9223372036854775808∧b = -1 then (⟨0,0,[]⟩,2) else (⟨1,a.tdiv b,[]⟩,0)
theorem aZu {a b:Int} (ha:okI a) (hb:b≠0) (h:¬ (a = -9223372036854775808∧b = -1)):okI (a.tdiv b):=by
  have a1:=ha.1
  have a2:=ha.2
  by_cases h2:2≤b∨b ≤ -2
  · have:=bHk h2 ha
    exact ⟨by omega,by omega⟩
  · have:b=1∨b = -1:=by omega
    rcases this with rfl | rfl
    · rw [WS]; exact ha
    · rw [XF,WS]
      have:a ≠ -9223372036854775808:=fun e=>h ⟨e,rfl⟩
      exact ⟨by omega,by omega⟩
theorem arI {op a b:Int} (ha:okI a) (hb:okI b):aH3 op a b=some (arP op a b):=by
  unfold aH3 arP aGd
  simp only [addN ha hb,aOu ha hb,bJn ha hb,QB,QA,decide_eq_true_eq]
  have n:∀ r:Int×Bool,(if (!r.2)=true then some ((⟨0,0,[]⟩:aA),(2:Int)) else (xG r.1).bind fun y5=>some (y5,0))=some (H6 r):=by
    rintro ⟨r,b⟩
    cases b <;> simp [H6,xG]
  by_cases h1:op=10
  · rw [if_pos h1,if_pos h1,n]
  by_cases h2:op=11
  · rw [if_neg h1,if_pos h2,if_neg h1,if_pos h2,n]
  by_cases h3:op=12
  · rw [if_neg h1,if_neg h2,if_pos h3,if_neg h1,if_neg h2,if_pos h3,n]
  rw [if_neg h1,if_neg h2,if_neg h3,if_neg h1,if_neg h2,if_neg h3]
  unfold aNq zC zB xG
  by_cases b0:b=0
  · simp [b0]
  by_cases h4:op=14
  · simp [b0,h4]
  by_cases h5:a = -9223372036854775808∧b = -1
  · obtain ⟨rfl,rfl⟩:=h5
    simp [h4]
  · have w:=aZu ha b0 h5
    rw [dD w.1 w.2]
    by_cases h6:a = -9223372036854775808
    · have:b ≠ -1:=fun e=>h5 ⟨h6,e⟩
      simp [b0,h4,h6,this]
    · simp [b0,h4,h6]
theorem bAh {op a b:Int} (ho:op=13∨op=14) (ha:okI a) (hb:okI b):aIf op a b=some (arP op a b):=by
  have h1:¬ op=10:=by omega
  have h2:¬ op=11:=by omega
  have h3:¬ op=12:=by omega
  unfold arP aIf
  rw [if_neg h1,if_neg h2,if_neg h3]
  unfold zC zB
  rw [aQt,aOu ⟨by decide,by decide⟩ ha]
  unfold Q5 xV
  by_cases b0:b=0
  · simp [b0]
  by_cases b1:b = -1
  · subst b1
    by_cases h4:op=14
    · have:a.tmod (-1)=0:=by rw [Int.tmod_neg,Int.tmod_one]
      simp [h4,this]
    · have e:a.tdiv (-1)=0 - a:=by rw [XF,WS]; omega
      rw [e]
      have h13:op=13:=by omega
      have a1:=ha.1
      have a2:=ha.2
      by_cases h5:a = -9223372036854775808
      · subst h5
        have t2:qZ (0 - -9223372036854775808)=(0,false):=by decide
        simp only [t2]
        simp [h4]
      · have:okI (0 - a):=⟨by omega,by omega⟩
        have t2:qZ (0 - a)=(0 - a,true):=if_pos this
        simp only [t2]
        simp [h4,h5]
  · have h5:¬ (a = -9223372036854775808∧b = -1):=fun h=>b1 h.2
    have w:=aZu ha b0 h5
    rw [dD w.1 w.2]
    rcases ho with rfl | rfl <;> simp [b0,b1]
def tY (x:aA):Bool:=(nW x).getD false
theorem aL5 (x:aA):nW x=some (tY x):=by
  obtain ⟨b,hb⟩:=aZp x
  unfold tY; rw [hb]; rfl
theorem bIg (x:aA):wF x=some (tY x):=by rw [aO7,aL5]
theorem aOb {x:aA} (h:tY x=true):x.text.length≤200:=by
  have h2:=aL5 x
  rw [h] at h2
  unfold nW at h2
  simp only [QB,QA,wC] at h2
  split at h2
  · simp only [QI,QJ,decide_eq_true_eq] at h2; rw [h2.2]; simp
  · split at h2
    · simp only [QI,decide_eq_true_eq] at h2; rw [h2]; simp
    · split at h2
      · simp only [QI,QJ,decide_eq_true_eq] at h2; omega
      · split at h2
        · obtain ⟨y,_,hy⟩:=Option.bind_eq_some_iff.1 h2
          simp only [QI,QJ,decide_eq_true_eq] at hy
          rw [hy.2]; simp
        · simp at h2
def vZ (x y:aA):Int:=(xD x y).getD 0
theorem aI4 (x y:aA):xD x y=some (vZ x y):=by
  obtain ⟨b,hb⟩:=bHo x y
  unfold vZ; rw [hb]; rfl
def aKr (k o:Int):Bool:=if k=3 then decide (o=0) else if k=4 then !decide (o=0) else if k=5 then decide (o<0) else if k=6 then decide (o≤0) else if k=7 then decide (0<o) else decide (0≤o)
theorem bV8 (k:Int) (x y:aA):aD8 k x y=some (vBl (aKr k (vZ x y))):=by
  unfold aD8 aKr vBl
  rw [aZe,aI4]
  simp only [aC6,yE,QB,QA,decide_eq_true_eq]
  by_cases h3:k=3
  · simp [h3]
  by_cases h4:k=4
  · simp [h4]
  by_cases h5:k=5
  · simp [h5]
  by_cases h6:k=6
  · simp [h6]
  by_cases h7:k=7
  · simp [h7]
  simp [h3,h4,h5,h6,h7]
theorem bL6 (k o:Int):aBl k o=some (aKr k o):=by
  unfold aBl aKr
  simp only [decide_eq_true_eq]
  by_cases h3:k=3
  · simp [h3]
  by_cases h4:k=4
  · simp [h4]
  by_cases h5:k=5
  · simp [h5]
  by_cases h6:k=6
  · simp [h6]
  by_cases h7:k=7
  · simp [h7]
  simp [h3,h4,h5,h6,h7]
def yH (op:Int) (x:aA):Bool:=decide (x.kind=0)||decide (op≤8)||(if op=9 then decide (x.kind=2) else decide (x.kind=1))
theorem bLf (op:Int) (x:aA):Y5 op x=some (yH op x):=by
  unfold Y5 yH
  simp only [orB,QB,QA,decide_eq_true_eq]
  by_cases h1:x.kind=0
  · simp [h1]
  by_cases h2:op≤8
  · simp [h2]
  by_cases h3:op=9 <;> simp [h1,h2,h3]
def jS (op:Int) (x y:aA):aA×Int :=
  if (decide (op<1)||decide (14<op)||!tY x||!tY y)=true then (⟨0,0,[]⟩,1)
  else if op≤2 then K9 op x y
  else if (yH op x&&yH op y&&(decide (8<op)||decide (x.kind=0)||decide (y.kind=0)||decide (x.kind=y.kind)))=false then (⟨0,0,[]⟩,1)
  else if (decide (x.kind=0)||decide (y.kind=0))=true then (⟨0,0,[]⟩,0)
  else if op≤8 then (vBl (aKr op (vZ x y)),0)
  else if op=9 then (if 200<x.text.length+y.text.length then (⟨0,0,[]⟩,2) else (⟨2,0,x.text++y.text⟩,0))
  else arP op x.num y.num
theorem aNa {a b:List UInt8} (h:a.length+b.length≤1000):Z5 a b=some (a++b):=by
  unfold Z5; rw [if_pos (by simp only [maxLen]; omega)]
theorem aFf {op:Int} {x y:aA} (hx:okI x.num) (hy:okI y.num):uR op x y=some (jS op x y):=by
  unfold uR jS
  simp only [bIg,bLf,orB,QB,QA,decide_eq_true_eq]
  by_cases h1:op<1
  · simp [h1]
  by_cases h2:14<op
  · simp [h2]
  rcases hvx:tY x with _ | _
  · simp [h1,h2]
  rcases hvy:tY y with _ | _
  · simp [h1,h2]
  by_cases h3:op≤2
  · simp [h1,h2,h3,bDd]
  have tx:=aOb hvx
  have ty:=aOb hvy
  simp only [h1,h2,h3,decide_false,QO,QF,QP,QK,beq_self_eq_true,if_true,if_false,QA,QD,bV8,arI hx hy]
  rcases yH op x with _ | _
  · simp
  rcases yH op y with _ | _
  · simp
  by_cases h4:op≤8
  · have h4':¬ 8<op:=by omega
    by_cases k1:x.kind=0
    · simp [h4,h4',k1]
    by_cases k2:y.kind=0
    · simp [h4,h4',k1,k2]
    by_cases k3:x.kind=y.kind <;> simp [h4,h4',k1,k2,k3]
  · have h4':8<op:=by omega
    by_cases k1:x.kind=0
    · simp [h4,h4',k1]
    by_cases k2:y.kind=0
    · simp [h4,h4',k1,k2]
    by_cases h9:op=9
    · subst h9
      rw [dD (n:=(x.text.length:Int)+y.text.length) (by omega) (by omega),aNa (by omega)]
      by_cases hl:200<x.text.length+y.text.length
      · have:(200:Int)<(x.text.length:Int)+(y.text.length:Int):=by omega
        simp [k1,k2,hl,this]
      · have:¬ (200:Int)<(x.text.length:Int)+(y.text.length:Int):=by omega
        simp [k1,k2,hl,this,aMp]
    · simp [h4,h4',k1,k2,h9]
theorem aFp (a b c:Int):iB a b c=some (decide (b≤a)&&decide (a≤c)):=by
  unfold iB
  by_cases h:b≤a <;> simp [h]
theorem bSi (op:Int) (x y:aA) (h:2<op) (h14:op≤14):aG9 op x y=some (yH op x&&yH op y&&(decide (8<op)||decide (x.kind=0)||decide (y.kind=0)||decide (x.kind=y.kind))):=by
  unfold aG9 yH
  simp only [aTk,aFa,QB,QA,orB,wC,decide_eq_true_eq]
  by_cases h9:op=9
  · subst h9
    rcases decide (x.kind=2) with _ | _ <;> rcases decide (x.kind=0) with _ | _ <;> rcases decide (y.kind=2) with _ | _ <;> rcases decide (y.kind=0) with _ | _ <;> rfl
  by_cases h10:10≤op
  · have e1:¬ op≤8:=by omega
    have e2:8<op:=by omega
    simp only [h9,h10,e1,e2,if_true,if_false,decide_true,decide_false]
    rcases decide (x.kind=1) with _ | _ <;> rcases decide (x.kind=0) with _ | _ <;> rcases decide (y.kind=1) with _ | _ <;> rcases decide (y.kind=0) with _ | _ <;> rfl
  · have e1:op≤8:=by omega
    have e2:¬ 8<op:=by omega
    simp only [h9,h10,e1,e2,if_false,decide_true,decide_false]
    generalize x.kind=a
    generalize y.kind=b
    by_cases k:a=b
    · by_cases k1:a=0 <;> by_cases k2:b=0 <;> simp [k,k2]
    · by_cases k1:a=0
      · have:¬ (0:Int)=b:=fun e=>k (k1.trans e)
        simp [k1,this]
      · by_cases k2:b=0 <;> simp [k,k1,k2]
theorem bHm (r:Int×Bool):Q5 r.1 r.2=some (H6 r):=by
  obtain ⟨a,b⟩:=r
  cases b <;> rfl
theorem aE2 {op:Int} {x y:aA} (hx:okI x.num) (hy:okI y.num):sI op x y=some (jS op x y):=by
  unfold sI jS
  simp only [aL5,aFp,orB,QB,QA,decide_eq_true_eq]
  by_cases h1:op<1
  · have:¬ 1≤op:=by omega
    simp [h1,this]
  have h1':1≤op:=by omega
  by_cases h2:14<op
  · have:¬ op≤14:=by omega
    simp [h2,this]
  have h2':op≤14:=by omega
  rcases hvx:tY x with _ | _
  · simp [h1,h2,h1',h2']
  rcases hvy:tY y with _ | _
  · simp [h1,h2,h1',h2']
  by_cases h3:op≤2
  · simp [h1,h2,h3,h1',h2',bFk]
  have tx:=aOb hvx
  have ty:=aOb hvy
  rw [bSi op x y (by omega) h2']
  simp only [h1,h2,h3,h1',h2',decide_true,decide_false,QO,QF,QP,QN,QK,beq_self_eq_true,if_true,if_false,QA,QD,bWe,aQt,addN hx hy,aOu hx hy,bW7 hx hy,bHm,aFa]
  generalize (yH op x&&yH op y&&(decide (8<op)||decide (x.kind=0)||decide (y.kind=0)||decide (x.kind=y.kind)))=t
  rcases t with _ | _
  · simp
  by_cases k1:x.kind=0
  · simp [k1]
  by_cases k2:y.kind=0
  · simp [k1,k2]
  simp only [k1,k2,decide_false,QF,QD,if_false,beq_self_eq_true,QN,if_true,QA,Bool.or_self]
  by_cases h9:op=9
  · subst h9
    rw [dD (n:=(x.text.length:Int)+y.text.length) (by omega) (by omega),aNa (by omega)]
    by_cases hl:200<x.text.length+y.text.length
    · have:(200:Int)<(x.text.length:Int)+(y.text.length:Int):=by omega
      simp [hl,this]
    · have:¬ (200:Int)<(x.text.length:Int)+(y.text.length:Int):=by omega
      simp [hl,this,aGv]
  by_cases h10:op=10
  · subst h10; simp [arP]
  by_cases h11:op=11
  · subst h11; simp [arP]
  by_cases h12:op=12
  · subst h12; simp [arP]
  unfold aF8
  by_cases h13:op=13
  · subst h13
    simp [bAh (.inl rfl) hx hy]
  by_cases h14:op=14
  · subst h14
    simp [bAh (.inr rfl) hx hy]
  have h8:op≤8:=by omega
  simp [h9,h10,h11,h12,h13,h14,h8,aI4,bL6,yE,vBl]
theorem aNi {r:Int×Bool} (h:okI r.1):okI (H6 r).1.num:=by
  unfold H6; split
  · exact h
  · exact ⟨by decide,by decide⟩
theorem aO3 (n:Int):okI (qZ n).1:=by
  unfold qZ; split
  · assumption
  · exact ⟨by decide,by decide⟩
theorem ok0:okI 0:=⟨by decide,by decide⟩
theorem ok1:okI 1:=⟨by decide,by decide⟩
theorem aO5 (b:Bool):okI (vBl b).num:=by cases b <;> first | exact ok0 | exact ok1
theorem bXl {op a b:Int} (ha:okI a) (hb:okI b):okI (arP op a b).1.num:=by
  unfold arP
  split
  · exact aNi (aO3 _)
  split
  · exact aNi (aO3 _)
  split
  · exact aNi (aO3 _)
  split
  · exact ok0
  rename_i h0
  split
  · have h:(a.tmod b).natAbs=a.natAbs % b.natAbs:=XD a b
    have h2:a.natAbs % b.natAbs<b.natAbs:=Nat.mod_lt _ (by omega)
    have b1:=hb.1
    have b2:=hb.2
    exact ⟨by show -9223372036854775808≤a.tmod b; omega,by show a.tmod b≤9223372036854775807; omega⟩
  split
  · exact ok0
  · exact aZu ha h0 ‹_›
theorem bUp (op:Int) (x y:aA):okI (K9 op x y).1.num:=by
  unfold K9
  repeat' split
  all_goals first | exact ok0 | exact ok1
theorem F8 {op:Int} {x y:aA} (hx:okI x.num) (hy:okI y.num):okI (jS op x y).1.num:=by
  unfold jS
  split
  · exact ok0
  split
  · exact bUp _ _ _
  split
  · exact ok0
  split
  · exact ok0
  split
  · exact aO5 _
  split
  · split <;> exact ok0
  · exact bXl hx hy
def unP (op:Int) (x:aA):aA×Int :=
  if (!tY x||(!decide (op=15)&&!decide (op=16)))=true then (⟨0,0,[]⟩,1)
  else if x.kind=0 then (⟨0,0,[]⟩,0)
  else if op=15∧x.kind=3 then (vBl (decide (x.num=0)),0)
  else if op=16∧x.kind=1 then H6 (qZ (0 - x.num)) else (⟨0,0,[]⟩,1)
theorem unI {op:Int} {x:aA} (hx:okI x.num):aDm op x=some (unP op x):=by
  unfold aDm unP
  simp only [bIg,orB,wC,bQu,QB,QA,arI ok0 hx]
  rcases tY x with _ | _
  · simp
  by_cases k:x.kind=0
  · by_cases h5:op=15
    · simp [h5,k]
    · by_cases h6:op=16 <;> simp [h5,h6,k]
  by_cases h5:op=15
  · subst h5
    by_cases k3:x.kind=3 <;> simp [k,k3,aC6,yE,vBl]
  by_cases h6:op=16
  · subst h6
    by_cases k1:x.kind=1 <;> simp [k,k1,arP]
  · simp [h5,h6]
theorem bYb {x:aA} (h:tY x=true) (k:x.kind=0):x=⟨0,0,[]⟩:=by
  have h2:=aL5 x
  rw [h] at h2
  unfold nW at h2
  simp only [QB,QA,wC,k,decide_true,if_true,QI,QJ,decide_eq_true_eq] at h2
  obtain ⟨a,b,c⟩:=x
  simp_all
theorem unS {op:Int} {x:aA} (hx:okI x.num):aGa op x=some (unP op x):=by
  unfold aGa unP
  simp only [aL5,aTk,aFa,aQt,aOu ok0 hx,bHm,QB,QA]
  rcases hv:tY x with _ | _
  · simp
  by_cases k:x.kind=0
  · have:=bYb hv k
    subst this
    by_cases h5:op=15
    · simp [h5]
    · by_cases h6:op=16 <;> simp [h5,h6]
  by_cases h5:op=15
  · subst h5
    by_cases k3:x.kind=3 <;> simp [k,k3,yE,vBl]
  by_cases h6:op=16
  · subst h6
    by_cases k1:x.kind=1 <;> simp [k,k1]
  · simp [h5,h6]
theorem bCs {op:Int} {x:aA} (_:okI x.num):okI (unP op x).1.num:=by
  unfold unP
  split
  · exact ok0
  split
  · exact ok0
  split
  · exact aO5 _
  split
  · exact aNi (aO3 _)
  · exact ok0
def F5 (x a b:aA):aA×Int:=if (jS 8 x a).2≠0 then (⟨0,0,[]⟩,(jS 8 x a).2) else if (jS 6 x b).2≠0 then (⟨0,0,[]⟩,(jS 6 x b).2) else jS 2 (jS 8 x a).1 (jS 6 x b).1
theorem bTm {x a b:aA} (hx:okI x.num) (ha:okI a.num) (hb:okI b.num):aKl x a b=some (F5 x a b):=by
  unfold aKl F5
  simp only [aFf hx ha,aFf hx hb,aFf (F8 (op:=8) hx ha) (F8 (op:=6) hx hb),QB,QA]
  by_cases h1:(jS 8 x a).2=0
  · by_cases h2:(jS 6 x b).2=0 <;> simp [h1,h2]
  · simp [h1]
theorem bJh {x a b:aA} (hx:okI x.num) (ha:okI a.num) (hb:okI b.num):aIr x a b=some (F5 x a b):=by
  unfold aIr F5
  simp only [aE2 hx ha,aE2 hx hb,aE2 (F8 (op:=8) hx ha) (F8 (op:=6) hx hb),QB,QA]
  by_cases h1:(jS 8 x a).2=0
  · by_cases h2:(jS 6 x b).2=0 <;> simp [h1,h2]
  · simp [h1]
theorem aTf {x a b:aA} (hx:okI x.num) (ha:okI a.num) (hb:okI b.num):okI (F5 x a b).1.num:=by
  unfold F5
  split
  · exact ok0
  split
  · exact ok0
  · exact F8 (F8 hx ha) (F8 hx hb)
def tF (x:aA):List aA→aA→aA×Int
  | [],o=>(o,0)
  | y::l,o=>if (jS 3 x y).2≠0 then (⟨0,0,[]⟩,(jS 3 x y).2) else tF x l (jS 1 o (jS 3 x y).1).1
theorem bH5 {op:Int} {x y:aA} (hx:okI x.num) (hy:okI y.num) {r:aA×Int} (h:sI op x y=some r):jS op x y=r:=by
  rw [aE2 hx hy] at h; exact Option.some.inj h
theorem aIv {x:aA} (h:tri x):okI x.num:=by rcases h with rfl | rfl | rfl <;> first | exact ok0 | exact ok1
theorem eqP {x y:aA} (hx:okI x.num) (hy:okI y.num) (h:(jS 3 x y).2=0):tri (jS 3 x y).1:=by
  obtain ⟨r,h1,_,h3⟩:=bXo 3 (by simp) x y
  have:=bH5 hx hy h1
  subst this
  exact h3 h
theorem orP {x y:aA} (hx:tri x) (hy:tri y):(jS 1 x y).2=0∧tri (jS 1 x y).1:=by
  obtain ⟨r,h1,_,h3⟩:=bXv x y hx hy
  have:=bH5 (aIv hx) (aIv hy) h1
  subst this
  exact h3
theorem bKr (x:aA) (p:List aA) (hl:p.length≤1048576) (hx:okI x.num) (hp:∀ y∈p,okI y.num):∀ i,i≤p.length→∀ a b c,tri ⟨a,b,c⟩ →
    Z0 p x (i:Nat) a b c=some (tF x (p.drop i) ⟨a,b,c⟩)∧R6 p x (i:Nat) a b c=some (tF x (p.drop i) ⟨a,b,c⟩):=by
  refine dZ ?_ ?_
  · intro a b c _
    rw [R6,Z0]
    simp [tF]
  · intro i hi ih a b c ht
    rw [R6,Z0,QG hi]
    have hy:=hp _ (QE hi)
    have hc:=F8 (op:=3) hx hy
    simp only [dN,bP hi,dR hi (by omega),hi,decide_true,if_true,QB,QA,aFf hx hy,aE2 hx hy,tF]
    by_cases hz:(jS 3 x p[i]).2=0
    · have h3:=orP ht (eqP hx hy hz)
      simp only [hz,decide_true,QF,QD,if_false,QA,aFf (aIv ht) hc,aE2 (aIv ht) hc,h3.1,ne_eq,not_true_eq_false]
      exact ih _ _ _ h3.2
    · simp [hz]
theorem aQf {x:aA} {p:List aA} (hl:p.length≤1048576) (hx:okI x.num) (hp:∀ y∈p,okI y.num):aEi x p=some (tF x p (vBl false))∧aFg x p=some (tF x p (vBl false)):=by
  have:=bKr x p hl hx hp 0 (by omega) 3 0 [] (by simp [tri])
  unfold aEi aFg
  rw [aC6,yE]
  simpa [vBl] using this
theorem aJa {x:aA} (hx:okI x.num):∀ {p:List aA} {o:aA},(∀ y∈p,okI y.num)→tri o→okI (tF x p o).1.num
  | [],o,_,ho=>aIv ho
  | y::p,o,hp,ho=>by
    rw [tF]
    by_cases hz:(jS 3 x y).2=0
    · rw [if_neg (by simp [hz])]
      exact aJa hx (fun y hy=>hp y (QZ _ hy)) (orP ho (eqP hx (hp y (by simp)) hz)).2
    · rw [if_pos hz]; exact ok0
def bH {α β:Type} (g:α→β×Int):List α→List β×Int
  | []=>([],0)
  | x::l=>if (g x).2≠0 then ([],(g x).2) else if (bH g l).2≠0 then ([],(bH g l).2) else ((g x).1::(bH g l).1,0)
theorem aDh {α β γ:Type} {p:List α} {b:Nat} {g:α→β×Int} {F:α→Option (β×Int)} {L:List β→Int→Option γ} {K:List β→Option γ} {E:Int→γ} (hp:p.length≤1048576) (hb:b≤64) (hF:∀ x∈p,F x=some (g x))
    (hL:∀ (i:Nat) acc,L acc (i:Int)=if (decide ((i:Int)<(p.length:Int)))=true then ((idx p (i:Int))>>=fun x=>(F x)>>=fun y=>if (!decide (y.2=0))=true then some (E y.2) else (appG b acc [y.1])>>=fun z=>L z (QC .i64 ((i:Int)+1))) else K acc) :
    ∀ acc,acc.length≤1048576→L acc 0=if (bH g p).2≠0 then some (E (bH g p).2) else K (acc++(bH g p).1):=by
  have key:∀ i,i≤p.length→∀ acc,acc.length≤1048576+i→L acc (i:Nat)=if (bH g (p.drop i)).2≠0 then some (E (bH g (p.drop i)).2) else K (acc++(bH g (p.drop i)).1):=by
    refine dZ ?_ ?_
    · intro acc _
      rw [hL]; simp [bH]
    · intro i hi ih acc ha
      rw [hL,bP hi,dR hi (by omega),QG hi]
      simp only [dN,hi,decide_true,if_true,QB,QA,hF _ (QE hi),bH]
      by_cases h0:(g p[i]).2=0
      · have e:appG b acc [(g p[i]).1]=some (acc++[(g p[i]).1]):=jX (QV (Nat.mul_le_mul_left _ hb) (by simp only [WP]; omega))
        simp only [h0,decide_true,QF,QD,if_false,ne_eq,not_true_eq_false,e,QA]
        rw [ih _ (by simp; omega)]
        by_cases h1:(bH g (p.drop (i+1))).2=0
        · simp [h1]
        · simp [h1]
      · simp [h0]
  intro acc ha
  simpa using key 0 (by omega) acc (by omega)
def tru (v:aA):Bool:=decide (v.kind=3)&&decide (v.num=1)
theorem bWa (v:aA):aJ6 v=some (tru v):=by unfold aJ6 tru; simp only [wC,QB,QA]
theorem bMp (v:aA):aIm v=some (tru v):=by unfold aIm tru; simp only [wC,QB,QA]
abbrev Row1:=List aA
abbrev Rows:=List (List aA)
abbrev Gf:=Row1→aA×Int
def jF (g:Gf):Rows→Rows×Int
  | []=>([],0)
  | x::l=>if (g x).2≠0 then ([],(g x).2) else if (jF g l).2≠0 then ([],(jF g l).2) else (if tru (g x).1=true then x::(jF g l).1 else (jF g l).1,0)
def whE:List Gf→Rows→Rows×Int
  | [],r=>(r,0)
  | g::l,r=>if (jF g r).2≠0 then ([],(jF g r).2) else whE l (jF g r).1
def nM (r t:Rows):Rows:=r.flatMap fun a=>t.map fun b=>a++b
def joE:List (Rows×List Gf)→Rows→Rows×Int
  | [],r=>(r,0)
  | s::l,r=>if (whE s.2 (nM r s.1)).2≠0 then ([],(whE s.2 (nM r s.1)).2) else joE l (whE s.2 (nM r s.1)).1
theorem aCo (g:Gf):∀ r:Rows,(jF g r).1.Sublist r
  | []=>by simp [jF]
  | x::l=>by
    rw [jF]
    split
    · exact WQ _
    split
    · exact WQ _
    dsimp only
    split
    · exact (aCo g l).cons_cons x
    · exact (aCo g l).cons x
theorem yK:∀ (gs:List Gf) (r:Rows),(whE gs r).1.Sublist r
  | [],r=>List.Sublist.refl _
  | g::gs,r=>by
    rw [whE]
    split
    · exact WQ _
    · exact (yK gs _).trans (aCo g r)
def uJ:List Bool→Row1→Row1→Bool
  | d::ds,x::a,y::b=>if (if d=true then -(vZ x y) else vZ x y)≠0 then decide ((if d=true then -(vZ x y) else vZ x y)<0) else uJ ds a b
  | _,_,_=>false
def mG {α:Type} [Inhabited α] (lt:α→α→Bool) (x:α) (l:List α):Nat→Nat
  | 0=>0
  | n+1=>if lt x (l[n]!)=true then mG lt x l n else n+1
theorem bHd {α:Type} [Inhabited α] (lt:α→α→Bool) (x:α) (l:List α):∀ n,mG lt x l n≤n
  | 0=>by simp [mG]
  | n+1=>by
    rw [mG]; split
    · have:=bHd lt x l n; omega
    · omega
def C8 {α:Type} [Inhabited α] (lt:α→α→Bool) (x:α) (l:List α):List α:=l.take (mG lt x l l.length)++x::l.drop (mG lt x l l.length)
def nG {α:Type} [Inhabited α] (lt:α→α→Bool):List α→List α→List α
  | s,[]=>s
  | s,x::l=>nG lt (C8 lt x s) l
theorem bAz {α:Type} [Inhabited α] (lt:α→α→Bool) (x:α) (l:List α):(C8 lt x l).length=l.length+1:=by
  unfold C8
  have:=bHd lt x l l.length
  simp only [QL,QX,WM,List.length_drop]
  omega
theorem aUy {α:Type} [Inhabited α] (lt:α→α→Bool) (x:α) (l:List α):(C8 lt x l).Perm (x::l):=by
  unfold C8
  refine List.perm_middle.trans (List.Perm.cons x ?_)
  rw [List.take_append_drop]
theorem aGz {α:Type} [Inhabited α] (lt:α→α→Bool):∀ (l s:List α),(nG lt s l).Perm (s++l)
  | [],s=>by simp [nG]
  | x::l,s=>by
    rw [nG]
    refine (aGz lt l _).trans ?_
    refine ((aUy lt x s).append_right l).trans ?_
    exact List.perm_middle.symm
theorem bE9 {α:Type} [Inhabited α] (lt:α→α→Bool) (h:∀ a b,lt a b=false):∀ (l s:List α),nG lt s l=s++l
  | [],s=>by simp [nG]
  | x::l,s=>by
    have e:mG lt x s s.length=s.length:=by
      cases s.length with
      | zero=>rfl
      | succ n=>rw [mG,h]; simp
    rw [nG,bE9 lt h l]
    unfold C8
    rw [e]; simp
def kLt (ds:List Bool) (a b:aX):Bool:=uJ ds a.keys b.keys
def kT (ks:List (Gf×Bool)) (r:Rows):Rows×Int :=
  if (bH (fun row=>bH (fun k:Gf×Bool=>k.1 row) ks) r).2≠0 then ([],(bH (fun row=>bH (fun k:Gf×Bool=>k.1 row) ks) r).2)
  else ((nG (kLt (ks.map (·.2))) [] (WJ aX.mk r (bH (fun row=>bH (fun k:Gf×Bool=>k.1 row) ks) r).1)).map (·.row),0)
def aLx (x y:aA):Bool:=decide (x.kind=y.kind)&&(decide (x.num=y.num)&&(decide (x.text=y.text)&&true))
theorem aTt (x y:aA):aLx x y=true↔x=y:=by
  obtain ⟨a,b,c⟩:=x
  obtain ⟨d,e,f⟩:=y
  simp [aLx]
instance:DecidableEq aA:=fun a b=>decidable_of_iff _ (aTt a b)
def nA:Rows→Rows→Rows
  | o,[]=>o
  | o,x::l=>if x∈o then nA o l else nA (o++[x]) l
def aG1 (n:Int) (r:Rows):Rows:=if 0≤n∧n<(r.length:Int) then r.take n.toNat else r
def P6 (dis:Bool) (lim:Int) (r:Rows):Rows:=aG1 lim (if dis=true then nA [] r else r)
def oO (is:List Gf) (r:Rows):Rows×Int:=bH (fun row=>bH (fun g:Gf=>g row) is) r
structure Qry where
  st:List (Rows×List Gf)
  wh:List Gf
  ks:List (Gf×Bool)
  is:List Gf
  dis:Bool
  lim:Int
def aFs (q:Qry):Rows×Int :=
  if (joE q.st [[]]).2≠0 then ([],(joE q.st [[]]).2) else if (whE q.wh (joE q.st [[]]).1).2≠0 then ([],(whE q.wh (joE q.st [[]]).1).2) else
  if (kT q.ks (whE q.wh (joE q.st [[]]).1).1).2≠0 then ([],(kT q.ks (whE q.wh (joE q.st [[]]).1).1).2) else
  if (oO q.is (kT q.ks (whE q.wh (joE q.st [[]]).1).1).1).2≠0 then ([],(oO q.is (kT q.ks (whE q.wh (joE q.st [[]]).1).1).1).2) else
  (P6 q.dis q.lim (oO q.is (kT q.ks (whE q.wh (joE q.st [[]]).1).1).1).1,0)
theorem bDj (g:Gf) (r:Rows):(jF g r).1.length≤r.length:=(aCo g r).length_le
theorem aGe (gs:List Gf) (r:Rows):(whE gs r).1.length≤r.length:=(yK gs r).length_le
theorem uF {l m:Rows} (h:l.length+m.length≤4194304):appG 24 l m=some (l++m):=jX (by omega)
theorem bWu {cl:bZ} {p1:List bZ} {x15:Int} {g:Gf} {x0:Rows} (hl:x0.length≤1048576) (H:∀ r∈x0,oZ r cl.c0 cl.c1 cl.c2 cl.c3=some (g r)) :
    ∀ i,i≤x0.length→∀ acc:Rows,acc.length≤i→aAe cl p1 x15 x0 acc (i:Nat)=if (jF g (x0.drop i)).2≠0 then some ([],(jF g (x0.drop i)).2) else Y3 p1 (acc++(jF g (x0.drop i)).1) (QC .i64 (x15+1)):=by
  refine dZ ?_ ?_
  · intro acc _
    rw [aAe]; simp [jF]
  · intro i hi ih acc ha
    rw [aAe,bP hi,QG hi]
    simp only [dN,hi,decide_true,if_true,QB,QA,H _ (QE hi),bWa,jF]
    by_cases h0:(g x0[i]).2=0
    · simp only [h0,decide_true,QF,QD,if_false,ne_eq,not_true_eq_false]
      by_cases ht:tru (g x0[i]).1=true
      · rw [if_pos ht,uF (by simp; omega)]
        simp only [QA]
        rw [aEu,dR hi (by omega),ih _ (by simp; omega)]
        by_cases h1:(jF g (x0.drop (i+1))).2=0 <;> simp [h1,ht]
      · rw [if_neg ht,aEu,dR hi (by omega),ih _ (by omega)]
        by_cases h1:(jF g (x0.drop (i+1))).2=0 <;> simp [h1,ht]
    · simp [h0]
theorem bRf {P:Row1→Prop} {c:aR} {d:GDb} {env:Rows} {ev:aB→Gf} {l:List aB} (hl:l.length≤1048576) (H:∀ e∈l,∀ r,P r→oZ r c d env e=some (ev e r)) :
    ∀ i,i≤l.length→∀ rows:Rows,rows.length≤1048576→(∀ r∈rows,P r)→Y3 (l.map (bZ.mk c d env)) rows (i:Nat)=some (whE ((l.drop i).map ev) rows):=by
  refine dZ ?_ ?_
  · intro rows _ _
    rw [Y3]; simp [whE]
  · intro i hi ih rows hr hP
    have hi':i<(l.map (bZ.mk c d env)).length:=by simpa using hi
    rw [Y3,bP hi',QG hi]
    simp only [dN,hi',decide_true,if_true,QB,QA,XA,WI,whE]
    have k:=bWu (cl:=bZ.mk c d env l[i]) (p1:=l.map (bZ.mk c d env)) (x15:=(i:Int)) (g:=ev l[i]) hr (fun r hr=>H _ (QE hi) r (hP r hr)) 0 (by omega) [] (by simp)
    simp only [Int.ofNat_zero,WR,WE] at k
    replace k:aAe (bZ.mk c d env l[i]) (l.map (bZ.mk c d env)) (i:Int) rows [] 0=_:=k
    rw [k,dR hi (by omega)]
    by_cases h1:(jF (ev l[i]) rows).2=0
    · simp only [h1,ne_eq,not_true_eq_false,if_false]
      exact ih _ (QV (bDj _ _) hr) fun r hr=>hP r ((aCo _ _).subset hr)
    · simp [h1]
theorem bA6 {P:Row1→Prop} {c:aR} {d:GDb} {env:Rows} {ev:aB→Gf} {l:List aB} (hl:l.length≤1048576) (H:∀ e∈l,∀ r,P r→oZ r c d env e=some (ev e r)) (rows:Rows) (hr:rows.length≤1048576) (hP:∀ r∈rows,P r) :
    aD9 rows (l.map (bZ.mk c d env))=some (whE (l.map ev) rows):=by
  rw [aD9]
  simpa using bRf hl H 0 (by omega) rows hr hP
theorem bYn (a b:Row1) (ha:a.length≤1048576) (hb:b.length≤1048576):aKk [a,b]=some (a++b):=by
  have w1:QC .i64 (0+1)=1:=by decide
  have w2:QC .i64 (1+1)=2:=by decide
  have g:aLp [] ((a.length:Int)+b.length)=some []:=by
    unfold aLp aJg
    rw [if_pos ⟨rfl,by omega,by omega,by omega⟩]
  have e1:appG 32 [] a=some a:=by rw [jX (by simp; omega)]; rfl
  have e2:appG 32 a b=some (a++b):=jX (by omega)
  have l1:QC .i64 (a.length:Int)=a.length:=dD (by omega) (by omega)
  have l2:QC .i64 ((a.length:Int)+b.length)=(a.length:Int)+b.length:=dD (by omega) (by omega)
  have n1:¬ ((a.length:Int)<0):=by omega
  have n2:¬ ((a.length:Int)+b.length<0):=by omega
  have J:∀ p x (y:Row1) k,aGk p x y k=zJ p (QC .i64 (x+(y.length:Int))) (QC .i64 (k+1)):=fun p x y k=>by rw [aGk]
  have k2:xU [a,b] (a++b) 2=some (a++b):=by rw [xU]; simp
  have k1:xU [a,b] a 1=some (a++b):=by
    rw [xU,w2]
    simp [idx,e2,k2]
  have k0:xU [a,b] [] 0=some (a++b):=by
    rw [xU,w1]
    simp [idx,e1,k1]
  have m2:zJ [a,b] ((a.length:Int)+b.length) 2=some (a++b):=by
    rw [zJ,g]
    simp [k0]
  have m1:zJ [a,b] (a.length:Int) 1=some (a++b):=by
    rw [zJ]
    simp only [J,l2,w2]
    simp only [QX,WD,idx]
    simp only [QB,List.getElem?_cons_succ,show Int.toNat 1=1 from rfl,List.getElem?_cons_zero,l2]
    rw [if_pos (by simp)]
    simp [l2,w2,m2]
    omega
  unfold aKk
  rw [zJ]
  simp [idx,J,l1,show QC .i64 1=1 by decide,m1]
def eO (n:Nat) (r:Row1):Prop:=r.length≤n * 1000∧∀ v∈r,okI v.num
theorem bV2 {n:Nat} {a b:Row1} (ha:eO n a) (hb:eO 1 b):eO (n+1) (a++b):=by
  obtain ⟨a1,a2⟩:=ha
  obtain ⟨b1,b2⟩:=hb
  refine ⟨by simp; omega,fun v hv=>?_⟩
  rcases QY.1 hv with hv | hv
  · exact a2 v hv
  · exact b2 v hv
theorem F3 {n m:Nat} (h:n≤m) {r:Row1} (hr:eO n r):eO m r:=⟨QV hr.1 (WU _ h),hr.2⟩
theorem aLb (r t:Rows):(nM r t).length=r.length * t.length:=by
  unfold nM
  induction r with
  | nil=>simp
  | cons a r ih=>rw [WC,QL,ih,WN,QX,WV]; omega
theorem aO4 {n:Nat} {r t:Rows} (hr:∀ x∈r,eO n x) (ht:∀ x∈t,eO 1 x):∀ x∈nM r t,eO (n+1) x:=by
  intro x hx
  unfold nM at hx
  obtain ⟨a,ha,hx⟩:=WZ.1 hx
  obtain ⟨b,hb,rfl⟩:=List.mem_map.1 hx
  exact bV2 (hr a ha) (ht b hb)
theorem bNh {x19:Int} {p0:eX} {x4:Rows} {x27:Int} {t:Rows} {a:Row1} (ht:t.length≤1048576) (ha:a.length≤1048576) (hB:∀ x∈t,x.length≤1048576) :
    ∀ j,j≤t.length→∀ acc:Rows,acc.length+t.length≤2097152+j→aDx x19 t a p0 x4 x27 (acc,(j:Nat))=V6 x19 t p0 x4 (acc++(t.drop j).map fun b=>a++b) (QC .i64 (x27+1)):=by
  refine dZ ?_ ?_
  · intro acc _
    rw [aDx]; simp
  · intro j hj ih acc hacc
    rw [aDx]
    simp only [dN,hj,decide_true,if_true,bP hj,QB,QA,bYn a _ ha (hB _ (QE hj))]
    rw [uF (by simp; omega)]
    simp only [QA]
    rw [dR hj (by omega),ih _ (by simp; omega),QG hj]
    simp only [WI,WH,List.singleton_append]
theorem bVa {x19:Int} {p0:eX} {x4 t:Rows} (hx:x4.length * t.length≤1048576) (hx4:x4.length≤1048576) (ht:t.length≤1048576) (h4:∀ x∈x4,x.length≤1048576) (hB:∀ x∈t,x.length≤1048576) :
    ∀ i,i≤x4.length→∀ acc:Rows,acc.length=i * t.length→V6 x19 t p0 x4 acc (i:Nat)=(idx p0.on_ x19)>>=fun (y5:List bZ)=>(aD9 (acc++nM (x4.drop i) t) y5)>>=fun (y6:(List (List aA))×Int)=>if (!decide (y6.2=0))=true then (some (([]:List (List aA)),y6.2)) else (X0 p0 y6.1 (QC .i64 (x19+1))):=by
  refine dZ ?_ ?_
  · intro acc _
    rw [V6]; simp [nM]
  · intro i hi ih acc ha
    rw [V6]
    simp only [dN,hi,decide_true,if_true,bP hi,QB,QA]
    have hm:(i+1) * t.length≤x4.length * t.length:=WU _ hi
    rw [WV] at hm
    have:=bNh (x19:=x19) (p0:=p0) (x4:=x4) (x27:=(i:Int)) ht (h4 _ (QE hi)) hB 0 (by omega) acc (by omega)
    rw [show ((0:Nat):Int)=0 from rfl] at this
    rw [this,dR hi (by omega),ih _ (by simp [ha,WV]),QG hi]
    simp only [nM,WC,WH,WR]
    rfl
theorem aNc (R:Nat):∀ (st:List (Rows×List Gf)) (r:Rows) (n:Nat),(∀ s∈st,s.1.length≤R)→r.length≤n→(joE st r).1.length≤n * R ^ st.length
  | [],r,n,_,h=>by simpa [joE] using h
  | s::st,r,n,hs,h=>by
    rw [joE]
    split
    · simp
    · have h1:(whE s.2 (nM r s.1)).1.length≤n * R:=by
        refine QV (aGe _ _) ?_
        rw [aLb]
        exact XG h (hs s (by simp))
      have:=aNc R st _ _ (fun s hs'=>hs s (QZ _ hs')) h1
      rw [QX,XH,Nat.mul_comm (R ^ st.length),← Nat.mul_assoc]
      exact this
theorem aL0:∀ (st:List (Rows×List Gf)) (r:Rows) (n:Nat),(∀ s∈st,∀ x∈s.1,eO 1 x)→(∀ x∈r,eO n x)→∀ x∈(joE st r).1,eO (n+st.length) x
  | [],r,n,_,h=>by simpa [joE] using h
  | s::st,r,n,hs,h=>by
    rw [joE]
    split
    · simp
    · have:=aL0 st _ (n+1) (fun s hs'=>hs s (QZ _ hs')) (fun x hx=>aO4 h (hs s (by simp)) x ((yK s.2 _).subset hx))
      rw [QX,show n+(st.length+1)=n+1+st.length by omega]
      exact this
structure cCf (N:Nat) (c:aR) (d:GDb) (env:Rows) (ev:aB→Gf) (p:aQ):Prop where
  on:p.on_.length=p.tables.length
  t3:p.tables.length≤3
  on1:∀ l∈p.on_,l.length≤1048576
  wh:p.where_.length≤1048576
  ord:p.order.length≤1048576
  it:p.items.length≤1048576
  tb:∀ i∈p.tables,0≤i∧i<(d.tables.length:Int)
  N1:N≤1048576
  R:∃ R:Nat,1≤R∧R ^ p.tables.length≤N∧(∀ t∈d.tables,t.rows.length≤R)
  db:∀ t∈d.tables,∀ x∈t.rows,eO 1 x
def rowsOf (d:GDb) (i:Int):Rows:=(d.tables[i.toNat]?.getD ⟨[]⟩).rows
def R9 (d:GDb) (ev:aB→Gf) (p:aQ):List (Rows×List Gf):=WJ (fun i l=>(rowsOf d i,l.map ev)) p.tables p.on_
def iJ (d:GDb) (ev:aB→Gf) (p:aQ):Qry:=⟨R9 d ev p,p.where_.map ev,p.order.map fun k=>(ev k.expr,k.desc),p.items.map ev,p.distinct,p.limit⟩
theorem aN6 (c:aR) (d:GDb) (env:Rows) (l:List aB) (h:l.length≤1048576):aAg l c d env=some (l.map (bZ.mk c d env)):=by
  unfold aAg
  have e:(l.flatMap fun y=>[bZ.mk c d env y])=l.map (bZ.mk c d env):=by
    clear h
    induction l with
    | nil=>rfl
    | cons y l ih=>rw [WC,ih]; rfl
  have:=gather (p:=l) (f:=fun y=>[bZ.mk c d env y]) (G:=fun y acc=>appG 8 acc ([(bZ.mk c d env y)]:List bZ)) (L:=fun acc i=>aC7 c d env l acc i) (K:=some) (c:=1048576) (by omega)
    (fun y hy acc ha=>by
      simp only [WP] at ha
      exact jX (by simp only [WP]; omega))
    (fun i acc=>by rw [aC7])
    [] (by rw [e,WN]; simp only [WD]; omega)
  rw [this,e]
  rfl
theorem bTp {c:aR} {d:GDb} {env:Rows} {ev:aB→Gf} {x:eX} {l:List (List aB)} {w:List aB} {R N:Nat} (hN:N≤1048576) (R1:1≤R)
    (ho:x.on_=l.map fun l=>l.map (bZ.mk c d env)) (hw:x.where_=w.map (bZ.mk c d env)) (hlt:l.length=x.tables.length) (hl:∀ y∈l,y.length≤1048576) (hwl:w.length≤1048576) (t3:x.tables.length≤3)
    (hR:∀ t∈x.tables,t.length≤R) (hRN:R ^ x.tables.length≤N) (hB:∀ t∈x.tables,∀ r∈t,eO 1 r)
    (H:∀ e,(e∈w∨∃ y∈l,e∈y)→∀ r,eO 3 r→oZ r c d env e=some (ev e r)) :
    ∀ i,i≤x.tables.length→∀ rows:Rows,rows.length≤R ^ i→(∀ r∈rows,eO i r)→X0 x rows (i:Nat) =
      some (if (joE (WJ (fun t l=>(t,l.map ev)) (x.tables.drop i) (l.drop i)) rows).2≠0 then ([],(joE (WJ (fun t l=>(t,l.map ev)) (x.tables.drop i) (l.drop i)) rows).2) else whE (w.map ev) (joE (WJ (fun t l=>(t,l.map ev)) (x.tables.drop i) (l.drop i)) rows).1):=by
  have pw:∀ i,i≤x.tables.length→R ^ i≤N:=fun i hi=>QV (XI R1 hi) hRN
  refine dZ ?_ ?_
  · intro rows hr hP
    rw [X0]
    have:=pw _ (XJ _)
    simp only [dN,WT,decide_false,QD,if_false,hw,XB,List.zipWith_nil_left,joE,ne_eq,not_true_eq_false,QB]
    rw [bA6 hwl (fun e he=>H e (.inl he)) rows (by omega) (fun r hr=>F3 t3 (hP r hr))]
    rfl
  · intro i hi ih rows hr hP
    have hil:i<l.length:=by omega
    have hio:i<x.on_.length:=by rw [ho]; simpa using hil
    have pi:=pw i (by omega)
    have ps:=pw (i+1) (by omega)
    have ht:=hR _ (QE hi)
    have hcl:(nM rows x.tables[i]).length≤R ^ (i+1):=by rw [aLb,XH]; exact XG hr ht
    have hRN1:R≤1048576:=QV (QV (by have:=XI R1 (show 1≤i+1 by omega); simpa using this) ps) hN
    rw [X0,bP hi]
    simp only [dN,hi,decide_true,if_true,QB,QA]
    have j1:=bVa (x19:=(i:Int)) (p0:=x) (x4:=rows) (t:=x.tables[i]) (by rw [← aLb]; omega) (by omega) (by omega) (fun y hy=>by have:=(hP y hy).1; omega) (fun y hy=>by have:=(hB _ (QE hi) y hy).1; omega) 0 (by omega) [] (by simp)
    rw [show ((0:Nat):Int)=0 from rfl] at j1
    rw [j1,bP hio]
    have e1:x.on_[i]=l[i].map (bZ.mk c d env):=by simp [ho]
    simp only [QB,QA,WR,WE,e1]
    have hcB:∀ r∈nM rows x.tables[i],eO (i+1) r:=aO4 hP (hB _ (QE hi))
    rw [bA6 (hl _ (QE hil)) (fun e he=>H e (.inr ⟨_,QE hil,he⟩)) _ (by omega) (fun r hr=>F3 (by omega) (hcB r hr))]
    simp only [QA]
    rw [QG hi,QG hil,List.zipWith_cons_cons,joE]
    by_cases h0:(whE (l[i].map ev) (nM rows x.tables[i])).2=0
    · simp only [h0,decide_true,QF,QD,if_false,ne_eq,not_true_eq_false]
      rw [dR hi (by omega)]
      exact ih _ (QV (aGe _ _) hcl) fun r hr=>hcB r ((yK _ _).subset hr)
    · simp [h0]
theorem bBi (x y:aA) : -1≤vZ x y∧vZ x y≤1:=by
  have h:=aI4 x y
  unfold xD at h
  generalize vZ x y=n at h
  repeat' split at h
  all_goals (simp only [QI] at h; omega)
def aD5 (N:Nat):Prop:=∀ (x:eX) (l:List aX),l.length≤N→x.order.length≤1048576→(∀ k∈l,k.keys.length=x.order.length)→aHl l (fH.mk x)=some (nG (kLt (x.order.map (·.desc))) [] l)
theorem cAc {x:eX} {a b:aX} (ho:x.order.length≤1048576) (ha:a.keys.length=x.order.length) (hb:b.keys.length=x.order.length) :
    ∀ i,i≤x.order.length→∃ n,aCx x a b (i:Nat)=some n∧decide (n<0)=uJ ((x.order.map (·.desc)).drop i) (a.keys.drop i) (b.keys.drop i):=by
  refine dZ ?_ ?_
  · refine ⟨0,?_,?_⟩
    · rw [aCx]; simp
    · rw [List.drop_of_length_le (by simp)]; simp [uJ]
  · intro i hi ih
    obtain ⟨n,h1,h2⟩:=ih
    have ia:i<a.keys.length:=by omega
    have ib:i<b.keys.length:=by omega
    have id:i<(x.order.map (·.desc)).length:=by simpa using hi
    rw [aCx]
    simp only [dN,hi,decide_true,if_true,bP hi,bP ia,bP ib,QB,QA,aZe,aI4]
    rw [QG ia,QG ib,QG id,uJ]
    have hr:=bBi a.keys[i] b.keys[i]
    generalize vZ a.keys[i] b.keys[i]=o at hr ⊢
    rw [dD (n:=0 - o) (by omega) (by omega)]
    have J:∀ m:Int,∃ n,aDa x (i:Int) a b m=some n∧decide (n<0)=if m≠0 then decide (m<0) else uJ ((x.order.map (·.desc)).drop (i+1)) (a.keys.drop (i+1)) (b.keys.drop (i+1)):=by
      intro m
      rw [aDa]
      by_cases hm:m=0
      · refine ⟨n,?_,?_⟩
        · rw [if_neg (by simp [hm]),dR hi (by omega)]; exact h1
        · rw [if_neg (by simp [hm])]; exact h2
      · exact ⟨m,by rw [if_pos (by simp [hm])],by rw [if_pos hm]⟩
    simp only [XA]
    by_cases hd:x.order[i].desc=true
    · rw [if_pos hd]
      simp only [hd,if_true]
      have:=J (0 - o)
      rwa [Int.zero_sub] at this ⊢
    · rw [if_neg hd]
      simp only [hd,QD,if_false]
      exact J o
theorem bK0 {x:eX} {a b:aX} (ho:x.order.length≤1048576) (ha:a.keys.length=x.order.length) (hb:b.keys.length=x.order.length) :
    ∃ n,wP a b x=some n∧decide (n<0)=kLt (x.order.map (·.desc)) a b:=by
  have:=cAc ho ha hb 0 (by omega)
  unfold wP kLt
  simpa using this
theorem bAn {α:Type} (A:List α) (x:α) (Z:List α):idx (A++x::Z) (A.length:Int)=some x:=by rw [bE6]; simp
theorem bF9 {α:Type} (A:List α) (x y:α) (Z:List α):qR (A++x::Z) (A.length:Int) y=some (A++y::Z):=by
  unfold qR; rw [if_pos ⟨by omega,by simp⟩]; simp
def KL (m:Nat) (l:List aX):Prop:=∀ k∈l,k.keys.length=m
theorem bHr {x:eX} (ho:x.order.length≤1048576) (n x8:Int) (v:aX) (hv:v.keys.length=x.order.length) (l C:List aX) (hl:KL x.order.length l) (hl2:l.length≤1048576):∀ k,k≤l.length →
    Z6 0 n (fH.mk x) x8 (k:Int) (l.take k++v::(l.drop k++C)) =
    I5 0 n (fH.mk x) (QC .i64 (x8+1)) (l.take (mG (kLt (x.order.map (·.desc))) v l k)++v::(l.drop (mG (kLt (x.order.map (·.desc))) v l k)++C))
  | 0,_=>by
    rw [Z6]
    simp [mG]
  | k+1,hk=>by
    have hk':k<l.length:=by omega
    have et:l.take (k+1)=l.take k++[l[k]]:=by rw [List.take_add_one,WO hk']; rfl
    have lk:(l.take k).length=k:=by simp; omega
    have e0:((k+1:Nat):Int)=((l.take k++[l[k]]).length:Int):=by simp; omega
    have e1:(k:Int)=((l.take k).length:Int):=by rw [lk]
    have ew:QC .i64 (((k+1:Nat):Int) - 1)=(k:Int):=by rw [dD] <;> omega
    have i1:∀ Z,idx ((l.take k++[l[k]])++v::Z) ((k+1:Nat):Int)=some v:=fun Z=>by rw [e0]; exact bAn _ _ _
    have i2:∀ Z,idx ((l.take k++[l[k]])++Z) (k:Int)=some l[k]:=by
      intro Z
      have:=bAn (l.take k) l[k] Z
      rw [lk] at this
      rw [WH]
      exact this
    have s1:∀ Z,qR ((l.take k++[l[k]])++v::Z) ((k+1:Nat):Int) l[k]=some ((l.take k++[l[k]])++l[k]::Z):=fun Z=>by rw [e0]; exact bF9 _ _ _ _
    have s3:∀ Z,qR ((l.take k++[l[k]])++Z) (k:Int) v=some (l.take k++v::Z):=by
      intro Z
      have:=bF9 (l.take k) l[k] v Z
      rw [lk] at this
      rw [WH]
      exact this
    obtain ⟨m,hm1,hm2⟩:=bK0 ho hv (hl l[k] (QE hk'))
    rw [Z6,et]
    have hp:decide ((0:Int)<((k+1:Nat):Int))=true:=by rw [decide_eq_true_eq]; omega
    have eb:=getElem!_pos l k hk'
    simp only [hp,beq_self_eq_true,WG,if_true,ew,i1,i2,QB,QA,hm1,hm2]
    rw [mG,eb]
    by_cases hr:kLt (x.order.map (·.desc)) v l[k]=true
    · rw [if_pos hr,if_pos hr,s1]
      simp only [QA,i2,s3]
      rw [← bHr ho n x8 v hv l C hl hl2 k (by omega),QG hk']
      rfl
    · rw [if_neg hr,if_neg hr,et]
theorem bDh {x:eX} (ho:x.order.length≤1048576) (n:Nat):∀ (Z S:List aX),S.length+Z.length=n→n≤1048576→KL x.order.length (S++Z) →
    I5 0 (n:Int) (fH.mk x) (S.length:Int) (S++Z)=some (nG (kLt (x.order.map (·.desc))) S Z)
  | [],S,hn,_,_=>by
    rw [I5]
    simp at hn
    simp [hn,nG]
  | v::Z,S,hn,h2,hm=>by
    simp only [QX] at hn
    rw [I5]
    have hlt:S.length<n:=by omega
    simp only [dN,hlt,decide_true,if_true]
    have r:=bHr ho (n:Int) (S.length:Int) v (hm v (by simp)) S Z (fun k hk=>hm k (by simp [hk])) (by omega) S.length (XJ _)
    rw [List.take_length,XB,WE] at r
    rw [r,dR hlt (by omega),nG]
    have e:S.take (mG (kLt (x.order.map (·.desc))) v S S.length)++v::(S.drop (mG (kLt (x.order.map (·.desc))) v S S.length)++Z)=C8 (kLt (x.order.map (·.desc))) v S++Z:=by simp [C8]
    have l1:=bAz (kLt (x.order.map (·.desc))) v S
    rw [e,← l1]
    refine bDh ho n Z _ (by omega) h2 fun k hk=>?_
    rcases QY.1 hk with hk | hk
    · have:=(aUy (kLt (x.order.map (·.desc))) v S).subset hk
      exact hm k (by simp at this ⊢; rcases this with h | h <;> simp [h])
    · exact hm k (by simp [hk])
theorem bAd:aD5 19:=by
  intro x l hl ho hk
  have hI:aGu l 0 (l.length:Int) (fH.mk x)=some (nG (kLt (x.order.map (·.desc))) [] l):=by
    unfold aGu
    have e:QC .i64 (0+1)=1:=by decide
    rw [e]
    cases l with
    | nil=>rw [I5]; simp [nG]
    | cons y l=>exact bDh ho (l.length+1) l [y] (by simp; omega) (by simp at hl; omega) hk
  unfold aHl aOz
  rw [aH1]
  have c1:decide ((20:Int)≤(l.length:Int))=false:=by rw [decide_eq_false_iff_not]; omega
  have c2:decide ((20:Int)<(l.length:Int))=false:=by rw [decide_eq_false_iff_not]; omega
  simp only [c1,QD,if_false,hI,QB,QA]
  rw [aIj]
  simp only [c2,QD,if_false,QA]
end Go.Ab
