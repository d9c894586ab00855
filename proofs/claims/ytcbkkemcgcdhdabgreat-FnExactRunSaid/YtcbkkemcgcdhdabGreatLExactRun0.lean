/- What the functions compute,in plain Lean. -/
import Derived.Test.YtcbkkemcgcdhdabGreatFExactRun
namespace Go.Ab
open Go
open _root_.Option renaming bind_some→QA,bind_eq_bind→QB,some.injEq→QH,bind_assoc→WU
open Go.IntKind renaming wrap→QC,wrap_i64→YA
open _root_.Bool renaming false_eq_true→QD,not_true→QG,and_eq_true→QJ,and_assoc→QK,true_and→QP,eq_iff_iff→QS,not_false→QT,or_false→QU,and_true→QX,false_or→QY,false_and→WA,and_false→WB,true_or→WC,or_true→WD,and_self→WO,not_eq_true'→WP,or_self→XM
open _root_.List renaming getElem_mem→QE,drop_eq_getElem_cons→QF,length_append→QI,mem_cons→QL,length_singleton→QM,map_cons→QN,nil_append→QO,zipWith→QQ,mem_append→QV,drop_zero→QW,length_pos_of_mem→QZ,length→WE,append_assoc→WF,getElem?_eq_getElem→WG,flatMap_cons→WH,length_cons→WI,length_nil→WJ,replicate→WK,mem_map→WL,singleton_append→WM,sum_cons→WQ,mem_cons_of_mem→WR,drop_length→WS,zipWith_cons_cons→WT,append_nil→WV,length_map→WW,mem_flatMap→WX,all_cons→WZ,length_take→XB,map_map→XC,nil_sublist→XD,getElem_map→XF,map_nil→XG,take_length→XN,take_add_one→XO,eq_nil_of_length_eq_zero→XP,getElem_of_mem→XQ,map_append→XR,sum_append→XS,zipWith_nil_left→XT,drop_of_length_le→XU,all_eq_true→XV
open _root_.Nat renaming le_trans→QR,lt_irrefl→WN,succ_mul→WY,pow_le_pow_right→XA,le_refl→XI,mul_le_mul_right→XJ,mul_le_mul→XK,pow_succ→XL
open _root_.Int renaming tdiv_one→XH,mul_comm→XW,natAbs_tmod→XX,tdiv_neg→XY,zero_sub→XZ
variable {a b op x19 x11:Int} {n by':Nat} {y:aA} {e:aJ} {q:aQ} {L:Int→Int→Option Int} {u:Bool} {p0:eT} {w:List aJ}
theorem cZ {n:Int} (h1 : -9223372036854775808≤n) (h2:n≤9223372036854775807):QC .i64 n=n:=by rw [YA]; omega
theorem dL {i:Nat} (h:i<n) (hn:n≤4611686018427387904):QC .i64 ((i:Int)+1)=((i+1:Nat):Int):=by rw [cZ] <;> omega
theorem bU (i n:Nat):decide ((i:Int)<(n:Int))=decide (i<n):=by simp
theorem oZ {α:Type} (l:List α) (i:Nat):idx l (i:Int)=l[i]?:=by simp [idx]
theorem bR {α:Type} {l:List α} {i:Nat} (h:i<l.length):idx l (i:Int)=some l[i]:=by rw [oZ]; simp [h]
theorem eO {M:Nat→Prop} (h0:M n) (h:∀ i,i<n→M (i+1)→M i):∀ i,i≤n→M i:=by
  have:∀ k i,i+k=n→M i:=by
    intro k
    induction k with
    | zero => intro i hi; have : i = n := by omega
              subst this; exact h0
    | succ k ih=>intro i hi; exact h i (by omega) (ih (i+1) (by omega))
  exact fun i hi=>this (n - i) i (by omega)
theorem cPb {α:Type} {p:List α} {F:Int→List α→Option (List α)} (hn:p.length≤4611686018427387904)
  (hF:∀ (i:Nat) b,b.length=p.length→F i b=if i<p.length then (idx p i>>=fun v=>iC b i v>>=fun c=>F (QC .i64 ((i:Int)+1)) c) else some b) :
  ∀ b,b.length=p.length→F 0 b=some p:=by
 have key:∀ i,i≤p.length→∀ b,b.length=p.length→b.take i=p.take i→F (i:Nat) b=some p:=by
  refine eO ?_ ?_
  ·intro b hb ht;rw [hF _ _ hb,if_neg (by omega)];rw [← hb,XN] at ht;rw [ht,hb,XN]
  ·intro i hi ih b hb ht;rw [hF _ _ hb,if_pos hi,bR hi];have hs:iC b i p[i]=some (b.set i p[i]):=by
    unfold iC; rw [if_pos ⟨by omega,by simp; omega⟩]; simp
   simp only [QB,QA,hs,dL hi hn];refine ih _ (by simp [hb]) ?_;rw [XO,XO];have e1:(b.set i p[i]).take i=b.take i:=by rw [List.take_set_of_le (XI _)]
   rw [e1,ht];simp [hb,hi]
 intro b hb;exact key 0 (by omega) b hb (by simp)
theorem aUx {α:Type} {z:α} (h:(n:Int) * by'≤140737488355328):mkG by' (n:Int) z=some (WK n z):=by
 unfold mkG; rw [if_pos ⟨by omega,h⟩]; simp
def zL {α:Type} (z:α→Nat) (l:List α):Nat:=l.length+(l.map z).sum
def z0 {α:Type} (_:α):Nat:=0
def gD {α:Type} (F:α→Int→Option Int) (z:α→Nat) (x:α):Prop:=∀ n:Int,0≤n→n≤1048576→F x n=some (if (z x:Int)≤n then n - (z x:Int) else -1)
theorem wI {α:Type} (z:α→Nat) (x:α) (l:List α):((x::l).map z).sum=z x+(l.map z).sum:=by simp
theorem bXh {α:Type} {p:List α} {F:α→Int→Option Int} {z:α→Nat} (hp:p.length≤1048576)
  (hL:∀ (i:Nat) (x:Int),L x (i:Int)=if (decide ((i:Int)<(p.length:Int)))=true then ((idx p (i:Int))>>=fun y=>(F y x)>>=fun r=>if (decide (r<0))=true then (some (-1)) else L r (QC .i64 ((i:Int)+1))) else some x)
  (H:∀ y∈p,gD F z y):∀ n:Int,0≤n→n≤1048576→L n 0=some (if ((p.map z).sum:Int)≤n then n - ((p.map z).sum:Int) else -1):=by
 have key:∀ i,i≤p.length→∀ n:Int,0≤n→n≤1048576→L n (i:Nat)=some (if (((p.drop i).map z).sum:Int)≤n then n - (((p.drop i).map z).sum:Int) else -1):=by
  refine eO ?_ ?_
  ·intro n h0 h1;rw [hL]; simp [h0]
  ·intro i hi ih n h0 h1;rw [hL,bR hi,dL hi (by omega)];rw [QF hi,wI];simp only [QB,QA,bU,hi,decide_true,if_true,H _ (QE hi) n h0 h1];by_cases hz:(z p[i]:Int)≤n
   ·rw [if_pos hz,if_neg (by simp; omega),ih _ (by omega) (by omega)];congr 1;by_cases hr:(((p.drop (i+1)).map z).sum:Int)≤n - z p[i]
    ·rw [if_pos hr,if_pos (by omega)]; omega
    ·rw [if_neg hr,if_neg (by omega)]
   ·rw [if_neg hz,if_pos (by decide),if_neg (by omega)]
 intro n h0 h1;have:=key 0 (by omega) n h0 h1;simpa using this
theorem sQ {α:Type} {p:List α} {F:α→Int→Option Int} {z:α→Nat} {S:List α→Int→Option Int} (hp:p.length≤9223372036854775807)
  (hS:∀ n,S p n=if (decide ((QC .i64 (n - (p.length:Int)))<0))=true then (some (-1)) else L (QC .i64 (n - (p.length:Int))) 0)
  (hL:∀ (i:Nat) (x:Int),L x (i:Int)=if (decide ((i:Int)<(p.length:Int)))=true then ((idx p (i:Int))>>=fun y=>(F y x)>>=fun r=>if (decide (r<0))=true then (some (-1)) else L r (QC .i64 ((i:Int)+1))) else some x)
  (H:∀ y∈p,gD F z y):gD S (zL z) p:=by
 intro n h0 h1;have hz:((zL z p:Nat):Int)=(p.length:Int)+((p.map z).sum:Int):=by unfold zL; omega
 rw [hS,cZ (by omega) (by omega),hz];by_cases hl:n - (p.length:Int)<0
 ·rw [if_pos (by simpa using hl),if_neg (by omega)]
 ·rw [if_neg (by simpa using hl),bXh (by omega) hL H _ (by omega) (by omega)];congr 1;by_cases hr:((p.map z).sum:Int)≤n - p.length
  ·rw [if_pos hr,if_pos (by omega)]; omega
  ·rw [if_neg hr,if_neg (by omega)]
theorem cO1 {α:Type} {p:List α} {S:List α→Int→Option Int} (hp:p.length≤9223372036854775807)
  (hS:∀ n,S p n=if (decide ((QC .i64 (n - (p.length:Int)))<0))=true then (some (-1)) else (some (QC .i64 (n - (p.length:Int))))):gD S (zL z0) p:=by
 intro n h0 h1;have hs:(p.map z0).sum=0:=by
  clear hS hp
  induction p with
  | nil=>rfl
  | cons x p ih=>rw [wI,ih]; rfl
 have hz:((zL z0 p:Nat):Int)=(p.length:Int):=by unfold zL; omega
 rw [hS,cZ (by omega) (by omega),hz];by_cases hl:n - (p.length:Int)<0
 ·rw [if_pos (by simpa using hl),if_neg (by omega)]
 ·rw [if_neg (by simpa using hl),if_pos (by omega)]
def aMl (y:List UInt8) (n:Int):Option Int:=if (decide ((QC .i64 (n - (y.length:Int)))<0))=true then (some (-1)) else (some (QC .i64 (n - (y.length:Int))))
theorem cGa (y:List UInt8) (hy:y.length≤9223372036854775807):gD aMl WE y:=by
 intro n h0 h1;unfold aMl;rw [cZ (by omega) (by omega)];by_cases hl:n - (y.length:Int)<0
 ·rw [if_pos (by simpa using hl),if_neg (by omega)]
 ·rw [if_neg (by simpa using hl),if_pos (by omega)]
theorem bPl (y:List UInt8) (x:Int) (K:Int→Option Int):(if (decide ((QC .i64 (x - (y.length:Int)))<0))=true then (some (-1)) else K (QC .i64 (x - (y.length:Int))))=((aMl y x)>>=fun r=>if (decide (r<0))=true then (some (-1)) else K r):=by
 unfold aMl;by_cases h:(QC .i64 (x - (y.length:Int)))<0
 ·rw [if_pos (by simpa using h),if_pos (by simpa using h)]; rfl
 ·rw [if_neg (by simpa using h),if_neg (by simpa using h)];simp only [QB,QA];rw [if_neg (by simpa using h)]
theorem qL {α:Type} {p:List α} {W:α→Option α} {d:α} {L:Int→List α→Option (List α)} {S:Option (List α)} (hp:p.length≤1048576) (hby:by'≤134217728)
  (hS:S=(mkG by' (p.length:Int) d>>=fun y=>L 0 y))
  (hL:∀ (i:Nat) b,L (i:Int) b=if (decide ((i:Int)<(p.length:Int)))=true then ((idx p (i:Int))>>=fun y2=>(W y2)>>=fun y3=>(idx b (i:Int))>>=fun _=>(iC b (i:Int) y3)>>=fun y5=>L (QC .i64 ((i:Int)+1)) y5) else some b)
  (H:∀ y∈p,W y=some y):S=some p:=by
 have hm:(p.length:Int) * by'≤140737488355328:=by
  have:(p.length:Int) * by'≤1048576 * 134217728:=Int.mul_le_mul (by omega) (by omega) (by omega) (by omega)
  omega
 rw [hS,aUx hm];simp only [QB,QA];refine cPb (F:=L) (by omega) (fun i b hb=>?_) _ (by simp);rw [hL];simp only [bU,decide_eq_true_eq,QB];split
 ·rename_i hi;have e:idx b (i:Int)=some b[i]:=bR (by omega);rw [bR hi];simp only [QA,H _ (QE hi),e]
 ·rfl
theorem pW {α:Type} {p:List α} {E:α→α→Option Bool} {L:Int→Option Bool} {S:List α→List α→Option Bool} (hp:p.length≤1048576)
  (hS:S p p=if (!decide ((p.length:Int)=(p.length:Int)))=true then (some false) else L 0)
  (hL:∀ i:Nat,L (i:Int)=if (decide ((i:Int)<(p.length:Int)))=true then ((idx p (i:Int))>>=fun y1=>(idx p (i:Int))>>=fun y2=>(E y1 y2)>>=fun y3=>if (!y3)=true then (some false) else L (QC .i64 ((i:Int)+1))) else some true)
  (H:∀ y∈p,E y y=some true):S p p=some true:=by
 have key:∀ i,i≤p.length→L (i:Nat)=some true:=by
  refine eO ?_ ?_
  ·rw [hL]; simp
  ·intro i hi ih;rw [hL];simp only [bU,bR hi,dL hi (by omega),H _ (QE hi),QB,QA,ih];simp
 rw [hS];have:=key 0 (by omega);simpa using this
theorem mH {α:Type} {z:α→Nat}:∀ {p:List α} {y:α},y∈p→z y≤(p.map z).sum
 | x::p,y,h=>by
  rw [wI];rcases QL.1 h with rfl | h
  ·omega
  ·have:=mH (z:=z) h; omega
def jF:bP→Nat
 | ⟨a0,a1⟩=>a0.length
theorem bUy:∀ x:bP,okGCol x→gD aG7 jF x
 | ⟨a0,a1⟩,h=>by
  simp only [okGCol] at h;obtain ⟨o0,o1⟩:=h;intro n h0 h1;have b0:a0.length≤9223372036854775807:=o0;have hz:((jF ⟨a0,a1⟩:Nat):Int)=(a0.length:Int):=by simp only [jF] <;> omega
  rw [hz,aG7];dsimp only;rw [cZ (n:=n - (a0.length:Int)) (by omega) (by omega)];by_cases r0:n - (a0.length:Int)<0
  ·rw [if_pos (by simpa using r0),if_neg (by omega)]
  rw [if_neg (by simpa using r0)]
  first | done | (rw [if_pos (by omega)]; done) | (rw [if_pos (by omega)]; congr 1 <;> omega) | (congr 1 <;> omega)
theorem bVi:∀ x:bP,jF x≤1048576→xP x=some x
 | ⟨a0,a1⟩,hz=>by
  simp only [jF] at hz;rw [xP]
theorem bXq:∀ x:bP,jF x≤1048576→aEh x x=some true
 | ⟨a0,a1⟩,hz=>by
  simp only [jF] at hz;rw [aEh];simp
theorem bTx (p:List bP) (h:(okL okGCol) p):gD aEf (zL jF) p:=sQ (F:=aG7) h.1 (fun n=>by rw [aEf]) (fun i x=>by rw [aDw]) (fun y hy=>bUy y (h.2 y hy))
theorem bS8 (p:List bP) (hz:(zL jF) p≤1048576):aFq p=some p:=qL (by':=24) (W:=xP) (by unfold zL at hz; omega) (by omega) (by rw [aFq]) (fun i b=>by rw [aGg]) (fun y hy=>bVi y (by have h1:=mH (z:=jF) hy; have h2:zL jF p=p.length+(p.map jF).sum:=rfl; omega))
theorem bWt (p:List bP) (hz:(zL jF) p≤1048576):aHw p p=some true:=pW (E:=aEh) (by unfold zL at hz; omega) (by rw [aHw]) (fun i=>by rw [aHi]) (fun y hy=>bXq y (by have h1:=mH (z:=jF) hy; have h2:zL jF p=p.length+(p.map jF).sum:=rfl; omega))
def gM:bH→Nat
 | ⟨a0,a1⟩=>a0.length+(zL jF) a1
theorem cFu:∀ x:bH,okGTable x→gD aF2 gM x
 | ⟨a0,a1⟩,h=>by
  simp only [okGTable] at h;obtain ⟨o0,o1⟩:=h;intro n h0 h1;have b0:a0.length≤9223372036854775807:=o0;have e1:gD aEf (zL jF) a1:=bTx a1 o1;have hz:((gM ⟨a0,a1⟩:Nat):Int)=(a0.length:Int)+(((zL jF) a1:Nat):Int):=by simp only [gM] <;> omega
  rw [hz,aF2];dsimp only;rw [cZ (n:=n - (a0.length:Int)) (by omega) (by omega)];by_cases r0:n - (a0.length:Int)<0
  ·rw [if_pos (by simpa using r0),if_neg (by omega)]
  rw [if_neg (by simpa using r0)];rw [e1 (n - (a0.length:Int)) (by omega) (by omega)];simp only [QB,QA];rcases (Decidable.em ((((zL jF) a1:Nat):Int)≤(n - (a0.length:Int)))).symm with r1 | r1
  ·rw [if_neg r1,if_pos (by decide)]; first | done | rw [if_neg (by omega)]
  rw [if_pos r1,if_neg (by simp; omega)]
  first | done | (rw [if_pos (by omega)]; done) | (rw [if_pos (by omega)]; congr 1 <;> omega) | (congr 1 <;> omega)
theorem cEw:∀ x:bH,gM x≤1048576→aF9 x=some x
 | ⟨a0,a1⟩,hz=>by
  simp only [gM] at hz;have e1:aFq a1=some a1:=bS8 a1 (by omega);rw [aF9];simp only [e1,QB,QA]
theorem cLj:∀ x:bH,gM x≤1048576→aEy x x=some true
 | ⟨a0,a1⟩,hz=>by
  simp only [gM] at hz;have e1:aHw a1 a1=some true:=bWt a1 (by omega);rw [aEy];simp [e1]
theorem cJr (p:List bH) (h:(okL okGTable) p):gD aHz (zL gM) p:=sQ (F:=aF2) h.1 (fun n=>by rw [aHz]) (fun i x=>by rw [aEi]) (fun y hy=>cFu y (h.2 y hy))
theorem cCx (p:List bH) (hz:(zL gM) p≤1048576):aFf p=some p:=qL (by':=40) (W:=aF9) (by unfold zL at hz; omega) (by omega) (by rw [aFf]) (fun i b=>by rw [aHk]) (fun y hy=>cEw y (by have h1:=mH (z:=gM) hy; have h2:zL gM p=p.length+(p.map gM).sum:=rfl; omega))
theorem cIs (p:List bH) (hz:(zL gM) p≤1048576):aEg p p=some true:=pW (E:=aEy) (by unfold zL at hz; omega) (by rw [aEg]) (fun i=>by rw [aG0]) (fun y hy=>cLj y (by have h1:=mH (z:=gM) hy; have h2:zL gM p=p.length+(p.map gM).sum:=rfl; omega))
def pU:aX→Nat
 | ⟨a0⟩=>(zL gM) a0
theorem cPo:∀ x:aX,okGCatalog x→gD aN2 pU x
 | ⟨a0⟩,h=>by
  simp only [okGCatalog] at h;have o0:=h;intro n h0 h1;have e0:gD aHz (zL gM) a0:=cJr a0 o0;have hz:((pU ⟨a0⟩:Nat):Int)=(((zL gM) a0:Nat):Int):=by simp only [pU] <;> omega
  rw [hz,aN2];dsimp only;rw [e0 n (by omega) (by omega)];simp only [QB,QA];rcases (Decidable.em ((((zL gM) a0:Nat):Int)≤n)).symm with r0 | r0
  ·rw [if_neg r0,if_pos (by decide)]; first | done | rw [if_neg (by omega)]
  rw [if_pos r0,if_neg (by simp; omega)]
  first | done | (rw [if_pos (by omega)]; done) | (rw [if_pos (by omega)]; congr 1 <;> omega) | (congr 1 <;> omega)
theorem cIt:∀ x:aX,pU x≤1048576→aF7 x=some x
 | ⟨a0⟩,hz=>by
  simp only [pU] at hz;have e0:aFf a0=some a0:=cCx a0 (by omega);rw [aF7];simp only [e0,QB,QA]
theorem cHm:∀ x:aX,pU x≤1048576→aIj x x=some true
 | ⟨a0⟩,hz=>by
  simp only [pU] at hz;have e0:aEg a0 a0=some true:=cIs a0 (by omega);rw [aIj];simp [e0]
def eX:aA→Nat
 | ⟨a0,a1,a2⟩=>a2.length
theorem bG0:∀ x:aA,okGValue x→gD K3 eX x
 | ⟨a0,a1,a2⟩,h=>by
  simp only [okGValue] at h;obtain ⟨o0,o1,o2⟩:=h;intro n h0 h1;have b2:a2.length≤9223372036854775807:=o2;have hz:((eX ⟨a0,a1,a2⟩:Nat):Int)=(a2.length:Int):=by simp only [eX] <;> omega
  rw [hz,K3];dsimp only;rw [cZ (n:=n - (a2.length:Int)) (by omega) (by omega)];by_cases r2:n - (a2.length:Int)<0
  ·rw [if_pos (by simpa using r2),if_neg (by omega)]
  rw [if_neg (by simpa using r2)]
  first | done | (rw [if_pos (by omega)]; done) | (rw [if_pos (by omega)]; congr 1 <;> omega) | (congr 1 <;> omega)
theorem bHj:∀ x:aA,eX x≤1048576→qY x=some x
 | ⟨a0,a1,a2⟩,hz=>by
  simp only [eX] at hz;rw [qY]
theorem bOm:∀ x:aA,eX x≤1048576→wF x x=some true
 | ⟨a0,a1,a2⟩,hz=>by
  simp only [eX] at hz;rw [wF];simp
theorem cE1 (p:List aA) (h:(okL okGValue) p):gD aHx (zL eX) p:=sQ (F:=K3) h.1 (fun n=>by rw [aHx]) (fun i x=>by rw [aHc]) (fun y hy=>bG0 y (h.2 y hy))
theorem cDv (p:List aA) (hz:(zL eX) p≤1048576):aFh p=some p:=qL (by':=32) (W:=qY) (by unfold zL at hz; omega) (by omega) (by rw [aFh]) (fun i b=>by rw [aE8]) (fun y hy=>bHj y (by have h1:=mH (z:=eX) hy; have h2:zL eX p=p.length+(p.map eX).sum:=rfl; omega))
theorem cLp (p:List aA) (hz:(zL eX) p≤1048576):Y8 p p=some true:=pW (E:=wF) (by unfold zL at hz; omega) (by rw [Y8]) (fun i=>by rw [aC0]) (fun y hy=>bOm y (by have h1:=mH (z:=eX) hy; have h2:zL eX p=p.length+(p.map eX).sum:=rfl; omega))
theorem cCj (p:List (List aA)) (h:(okL (okL okGValue)) p):gD aEv (zL (zL eX)) p:=sQ (F:=aHx) h.1 (fun n=>by rw [aEv]) (fun i x=>by rw [aDt]) (fun y hy=>cE1 y (h.2 y hy))
theorem bSx (p:List (List aA)) (hz:(zL (zL eX)) p≤1048576):aHs p=some p:=qL (by':=24) (W:=aFh) (by unfold zL at hz; omega) (by omega) (by rw [aHs]) (fun i b=>by rw [aFy]) (fun y hy=>cDv y (by have h1:=mH (z:=(zL eX)) hy; have h2:zL (zL eX) p=p.length+(p.map (zL eX)).sum:=rfl; omega))
theorem bYj (p:List (List aA)) (hz:(zL (zL eX)) p≤1048576):vC p p=some true:=pW (E:=Y8) (by unfold zL at hz; omega) (by rw [vC]) (fun i=>by rw [aDi]) (fun y hy=>cLp y (by have h1:=mH (z:=(zL eX)) hy; have h2:zL (zL eX) p=p.length+(p.map (zL eX)).sum:=rfl; omega))
def gX:bN→Nat
 | ⟨a0⟩=>(zL (zL eX)) a0
theorem cNz:∀ x:bN,okGData x→gD aFz gX x
 | ⟨a0⟩,h=>by
  simp only [okGData] at h;have o0:=h;intro n h0 h1;have e0:gD aEv (zL (zL eX)) a0:=cCj a0 o0;have hz:((gX ⟨a0⟩:Nat):Int)=(((zL (zL eX)) a0:Nat):Int):=by simp only [gX] <;> omega
  rw [hz,aFz];dsimp only;rw [e0 n (by omega) (by omega)];simp only [QB,QA];rcases (Decidable.em ((((zL (zL eX)) a0:Nat):Int)≤n)).symm with r0 | r0
  ·rw [if_neg r0,if_pos (by decide)]; first | done | rw [if_neg (by omega)]
  rw [if_pos r0,if_neg (by simp; omega)]
  first | done | (rw [if_pos (by omega)]; done) | (rw [if_pos (by omega)]; congr 1 <;> omega) | (congr 1 <;> omega)
theorem cOn:∀ x:bN,gX x≤1048576→aDr x=some x
 | ⟨a0⟩,hz=>by
  simp only [gX] at hz;have e0:aHs a0=some a0:=bSx a0 (by omega);rw [aDr];simp only [e0,QB,QA]
theorem cCz:∀ x:bN,gX x≤1048576→aGe x x=some true
 | ⟨a0⟩,hz=>by
  simp only [gX] at hz;have e0:vC a0 a0=some true:=bYj a0 (by omega);rw [aGe];simp [e0]
theorem bVy (p:List bN) (h:(okL okGData) p):gD aEl (zL gX) p:=sQ (F:=aFz) h.1 (fun n=>by rw [aEl]) (fun i x=>by rw [aG2]) (fun y hy=>cNz y (h.2 y hy))
theorem cDu (p:List bN) (hz:(zL gX) p≤1048576):aFv p=some p:=qL (by':=24) (W:=aDr) (by unfold zL at hz; omega) (by omega) (by rw [aFv]) (fun i b=>by rw [aGl]) (fun y hy=>cOn y (by have h1:=mH (z:=gX) hy; have h2:zL gX p=p.length+(p.map gX).sum:=rfl; omega))
theorem cP3 (p:List bN) (hz:(zL gX) p≤1048576):aEm p p=some true:=pW (E:=aGe) (by unfold zL at hz; omega) (by rw [aEm]) (fun i=>by rw [aFo]) (fun y hy=>cCz y (by have h1:=mH (z:=gX) hy; have h2:zL gX p=p.length+(p.map gX).sum:=rfl; omega))
def rO:GDb→Nat
 | ⟨a0⟩=>(zL gX) a0
theorem cM0:∀ x:GDb,okGDb x→gD aKq rO x
 | ⟨a0⟩,h=>by
  simp only [okGDb] at h;have o0:=h;intro n h0 h1;have e0:gD aEl (zL gX) a0:=bVy a0 o0;have hz:((rO ⟨a0⟩:Nat):Int)=(((zL gX) a0:Nat):Int):=by simp only [rO] <;> omega
  rw [hz,aKq];dsimp only;rw [e0 n (by omega) (by omega)];simp only [QB,QA];rcases (Decidable.em ((((zL gX) a0:Nat):Int)≤n)).symm with r0 | r0
  ·rw [if_neg r0,if_pos (by decide)]; first | done | rw [if_neg (by omega)]
  rw [if_pos r0,if_neg (by simp; omega)]
  first | done | (rw [if_pos (by omega)]; done) | (rw [if_pos (by omega)]; congr 1 <;> omega) | (congr 1 <;> omega)
theorem cN5:∀ x:GDb,rO x≤1048576→aGt x=some x
 | ⟨a0⟩,hz=>by
  simp only [rO] at hz;have e0:aFv a0=some a0:=cDu a0 (by omega);rw [aGt];simp only [e0,QB,QA]
theorem bUv:∀ x:GDb,rO x≤1048576→aIo x x=some true
 | ⟨a0⟩,hz=>by
  simp only [rO] at hz;have e0:aEm a0 a0=some true:=cP3 a0 (by omega);rw [aIo];simp [e0]
theorem cHe (p:List Int) (h:(okL okI) p):gD aH7 (zL z0) p:=cO1 h.1 (fun n=>by rw [aH7])
theorem cEp (p:List Int) (hz:(zL z0) p≤1048576):aDu p=some p:=qL (by':=8) (W:=some) (by unfold zL at hz; omega) (by omega) (by rw [aDu]) (fun i b=>by rw [aGm]; rfl) (fun y hy=>rfl)
theorem bSb (p:List Int) (hz:(zL z0) p≤1048576):aGi p p=some true:=pW (E:=fun a b=>some (decide (a=b))) (by unfold zL at hz; omega) (by rw [aGi]) (fun i=>by rw [aE6]; rfl) (fun y hy=>by simp)
theorem cJ2 (p:List (List UInt8)) (h:(okL okS) p):gD aI4 (zL WE) p:=sQ (F:=aMl) h.1 (fun n=>by rw [aI4]) (fun i x=>by rw [aBq]; simp only [fun y=>bPl y x (fun r=>aBq p r (QC .i64 ((i:Int)+1)))]) (fun y hy=>cGa y (h.2 y hy))
theorem bPu (p:List (List UInt8)) (hz:(zL WE) p≤1048576):aEq p=some p:=qL (by':=16) (W:=some) (by unfold zL at hz; omega) (by omega) (by rw [aEq]) (fun i b=>by rw [aI5]; rfl) (fun y hy=>rfl)
theorem cOj (p:List (List UInt8)) (hz:(zL WE) p≤1048576):aDp p p=some true:=pW (E:=fun a b=>some (decide (a=b))) (by unfold zL at hz; omega) (by rw [aDp]) (fun i=>by rw [aFc]; rfl) (fun y hy=>by simp)
mutual
def iB:bD→Nat
 | ⟨a0,a1⟩=>bI a0
def dW:aQ→Nat
 | ⟨a0,a1,a2,a3,a4,a5,a6,a7⟩=>(zL z0) a0+(a1.length+uR a1)+(a2.length+oD a2)+(a3.length+uL a3)+(a4.length+oD a4)+(zL WE) a5
def bI:aJ→Nat
 | ⟨a0,a1,a2,a3,a4,a5,a6,a7⟩=>eX a3+(a6.length+oD a6)+(a7.length+vF a7)
def vF:List aQ→Nat
 | []=>0
 | x::l=>dW x+vF l
def oD:List aJ→Nat
 | []=>0
 | x::l=>bI x+oD l
def uL:List bD→Nat
 | []=>0
 | x::l=>iB x+uL l
def uR:List (List aJ)→Nat
 | []=>0
 | x::l=>(x.length+oD x)+uR l
end
theorem aSg:∀ l:List aQ,vF l=(l.map dW).sum
 | []=>by simp [vF]
 | x::l=>by rw [wI,← aSg l]; simp only [vF]
theorem I7:∀ l:List aJ,oD l=(l.map bI).sum
 | []=>by simp [oD]
 | x::l=>by rw [wI,← I7 l]; simp only [oD]
theorem aSc:∀ l:List bD,uL l=(l.map iB).sum
 | []=>by simp [uL]
 | x::l=>by rw [wI,← aSc l]; simp only [uL]
theorem aN8:∀ l:List (List aJ),uR l=(l.map (zL bI)).sum
 | []=>by simp [uR]
 | x::l=>by rw [wI,← aN8 l]; simp only [uR,zL,I7]
mutual
theorem cK7:∀ x:bD,okGPSort x→gD K6 iB x
 | ⟨a0,a1⟩,h=>by
  simp only [okGPSort] at h;obtain ⟨o0,o1⟩:=h;intro n h0 h1;have e0:gD vL bI a0:=bMq a0 o0;have hz:((iB ⟨a0,a1⟩:Nat):Int)=((bI a0:Nat):Int):=by simp only [iB] <;> omega
  rw [hz,K6];dsimp only;rw [e0 n (by omega) (by omega)];simp only [QB,QA];rcases (Decidable.em (((bI a0:Nat):Int)≤n)).symm with r0 | r0
  ·rw [if_neg r0,if_pos (by decide)]; first | done | rw [if_neg (by omega)]
  rw [if_pos r0,if_neg (by simp; omega)]
  first | done | (rw [if_pos (by omega)]; done) | (rw [if_pos (by omega)]; congr 1 <;> omega) | (congr 1 <;> omega)
theorem bNp:∀ x:aQ,okGPlan x→gD Y7 dW x
 | ⟨a0,a1,a2,a3,a4,a5,a6,a7⟩,h=>by
  simp only [okGPlan] at h;obtain ⟨o0,o1,o2,o3,o4,o5,o6,o7⟩:=h;intro n h0 h1;have e0:gD aH7 (zL z0) a0:=cHe a0 o0;have q1:(zL (zL bI)) a1=a1.length+uR a1:=by rw [aN8,zL]
  have e1:gD aLs (zL (zL bI)) a1:=sQ (F:=qC) o1.1 (fun n=>by rw [aLs]) (fun i x=>by rw [aKr]) (bLc a1 o1.2);have q2:(zL bI) a2=a2.length+oD a2:=by unfold zL; rw [I7]
  have e2:gD qC (zL bI) a2:=sQ (F:=vL) o2.1 (fun n=>by rw [qC]) (fun i x=>by rw [Y0]) (aMd a2 o2.2);have q3:(zL iB) a3=a3.length+uL a3:=by unfold zL; rw [aSc]
  have e3:gD aLi (zL iB) a3:=sQ (F:=K6) o3.1 (fun n=>by rw [aLi]) (fun i x=>by rw [aIv]) (bIy a3 o3.2);have q4:(zL bI) a4=a4.length+oD a4:=by unfold zL; rw [I7]
  have e4:gD qC (zL bI) a4:=sQ (F:=vL) o4.1 (fun n=>by rw [qC]) (fun i x=>by rw [Y0]) (aMd a4 o4.2);have e5:gD aI4 (zL WE) a5:=cJ2 a5 o5;have hz:((dW ⟨a0,a1,a2,a3,a4,a5,a6,a7⟩:Nat):Int)=(((zL z0) a0:Nat):Int)+(((zL (zL bI)) a1:Nat):Int)+(((zL bI) a2:Nat):Int)+(((zL iB) a3:Nat):Int)+(((zL bI) a4:Nat):Int)+(((zL WE) a5:Nat):Int):=by simp only [dW] <;> omega
  rw [hz,Y7];dsimp only;rw [e0 n (by omega) (by omega)];simp only [QB,QA];rcases (Decidable.em ((((zL z0) a0:Nat):Int)≤n)).symm with r0 | r0
  ·rw [if_neg r0,if_pos (by decide)]; first | done | rw [if_neg (by omega)]
  rw [if_pos r0,if_neg (by simp; omega)];rw [e1 (n - (((zL z0) a0:Nat):Int)) (by omega) (by omega)];simp only [QB,QA];rcases (Decidable.em ((((zL (zL bI)) a1:Nat):Int)≤(n - (((zL z0) a0:Nat):Int)))).symm with r1 | r1
  ·rw [if_neg r1,if_pos (by decide)]; first | done | rw [if_neg (by omega)]
  rw [if_pos r1,if_neg (by simp; omega)];rw [e2 ((n - (((zL z0) a0:Nat):Int)) - (((zL (zL bI)) a1:Nat):Int)) (by omega) (by omega)];simp only [QB,QA];rcases (Decidable.em ((((zL bI) a2:Nat):Int)≤((n - (((zL z0) a0:Nat):Int)) - (((zL (zL bI)) a1:Nat):Int)))).symm with r2 | r2
  ·rw [if_neg r2,if_pos (by decide)]; first | done | rw [if_neg (by omega)]
  rw [if_pos r2,if_neg (by simp; omega)];rw [e3 (((n - (((zL z0) a0:Nat):Int)) - (((zL (zL bI)) a1:Nat):Int)) - (((zL bI) a2:Nat):Int)) (by omega) (by omega)];simp only [QB,QA];rcases (Decidable.em ((((zL iB) a3:Nat):Int)≤(((n - (((zL z0) a0:Nat):Int)) - (((zL (zL bI)) a1:Nat):Int)) - (((zL bI) a2:Nat):Int)))).symm with r3 | r3
  ·rw [if_neg r3,if_pos (by decide)]; first | done | rw [if_neg (by omega)]
  rw [if_pos r3,if_neg (by simp; omega)];rw [e4 ((((n - (((zL z0) a0:Nat):Int)) - (((zL (zL bI)) a1:Nat):Int)) - (((zL bI) a2:Nat):Int)) - (((zL iB) a3:Nat):Int)) (by omega) (by omega)];simp only [QB,QA];rcases (Decidable.em ((((zL bI) a4:Nat):Int)≤((((n - (((zL z0) a0:Nat):Int)) - (((zL (zL bI)) a1:Nat):Int)) - (((zL bI) a2:Nat):Int)) - (((zL iB) a3:Nat):Int)))).symm with r4 | r4
  ·rw [if_neg r4,if_pos (by decide)]; first | done | rw [if_neg (by omega)]
  rw [if_pos r4,if_neg (by simp; omega)];rw [e5 (((((n - (((zL z0) a0:Nat):Int)) - (((zL (zL bI)) a1:Nat):Int)) - (((zL bI) a2:Nat):Int)) - (((zL iB) a3:Nat):Int)) - (((zL bI) a4:Nat):Int)) (by omega) (by omega)];simp only [QB,QA];rcases (Decidable.em ((((zL WE) a5:Nat):Int)≤(((((n - (((zL z0) a0:Nat):Int)) - (((zL (zL bI)) a1:Nat):Int)) - (((zL bI) a2:Nat):Int)) - (((zL iB) a3:Nat):Int)) - (((zL bI) a4:Nat):Int)))).symm with r5 | r5
  ·rw [if_neg r5,if_pos (by decide)]; first | done | rw [if_neg (by omega)]
  rw [if_pos r5,if_neg (by simp; omega)]
  first | done | (rw [if_pos (by omega)]; done) | (rw [if_pos (by omega)]; congr 1 <;> omega) | (congr 1 <;> omega)
theorem bMq:∀ x:aJ,okGPExpr x→gD vL bI x
 | ⟨a0,a1,a2,a3,a4,a5,a6,a7⟩,h=>by
  simp only [okGPExpr] at h;obtain ⟨o0,o1,o2,o3,o4,o5,o6,o7⟩:=h;intro n h0 h1;have e3:gD K3 eX a3:=bG0 a3 o3;have q6:(zL bI) a6=a6.length+oD a6:=by unfold zL; rw [I7]
  have e6:gD qC (zL bI) a6:=sQ (F:=vL) o6.1 (fun n=>by rw [qC]) (fun i x=>by rw [Y0]) (aMd a6 o6.2);have q7:(zL dW) a7=a7.length+vF a7:=by unfold zL; rw [aSg]
  have e7:gD aM1 (zL dW) a7:=sQ (F:=Y7) o7.1 (fun n=>by rw [aM1]) (fun i x=>by rw [aIr]) (bH7 a7 o7.2);have hz:((bI ⟨a0,a1,a2,a3,a4,a5,a6,a7⟩:Nat):Int)=((eX a3:Nat):Int)+(((zL bI) a6:Nat):Int)+(((zL dW) a7:Nat):Int):=by simp only [bI] <;> omega
  rw [hz,vL];dsimp only;rw [e3 n (by omega) (by omega)];simp only [QB,QA];rcases (Decidable.em (((eX a3:Nat):Int)≤n)).symm with r3 | r3
  ·rw [if_neg r3,if_pos (by decide)]; first | done | rw [if_neg (by omega)]
  rw [if_pos r3,if_neg (by simp; omega)];rw [e6 (n - ((eX a3:Nat):Int)) (by omega) (by omega)];simp only [QB,QA];rcases (Decidable.em ((((zL bI) a6:Nat):Int)≤(n - ((eX a3:Nat):Int)))).symm with r6 | r6
  ·rw [if_neg r6,if_pos (by decide)]; first | done | rw [if_neg (by omega)]
  rw [if_pos r6,if_neg (by simp; omega)];rw [e7 ((n - ((eX a3:Nat):Int)) - (((zL bI) a6:Nat):Int)) (by omega) (by omega)];simp only [QB,QA];rcases (Decidable.em ((((zL dW) a7:Nat):Int)≤((n - ((eX a3:Nat):Int)) - (((zL bI) a6:Nat):Int)))).symm with r7 | r7
  ·rw [if_neg r7,if_pos (by decide)]; first | done | rw [if_neg (by omega)]
  rw [if_pos r7,if_neg (by simp; omega)]
  first | done | (rw [if_pos (by omega)]; done) | (rw [if_pos (by omega)]; congr 1 <;> omega) | (congr 1 <;> omega)
theorem bH7:∀ l:List aQ,okLGPlan l→∀ y∈l,gD Y7 dW y
 | [],_=>fun y hy=>by simp at hy
 | x::l,h=>by
  simp only [okLGPlan] at h;intro y hy;rcases QL.1 hy with r | hy
  ·rw [r]; exact bNp x h.1
  ·exact bH7 l h.2 y hy
theorem aMd:∀ l:List aJ,okLGPExpr l→∀ y∈l,gD vL bI y
 | [],_=>fun y hy=>by simp at hy
 | x::l,h=>by
  simp only [okLGPExpr] at h;intro y hy;rcases QL.1 hy with r | hy
  ·rw [r]; exact bMq x h.1
  ·exact aMd l h.2 y hy
theorem bIy:∀ l:List bD,okLGPSort l→∀ y∈l,gD K6 iB y
 | [],_=>fun y hy=>by simp at hy
 | x::l,h=>by
  simp only [okLGPSort] at h;intro y hy;rcases QL.1 hy with r | hy
  ·rw [r]; exact cK7 x h.1
  ·exact bIy l h.2 y hy
theorem bLc:∀ l:List (List aJ),okLLGPExpr l→∀ y∈l,gD qC (zL bI) y
 | [],_=>fun y hy=>by simp at hy
 | x::l,h=>by
  simp only [okLLGPExpr] at h;intro y hy;rcases QL.1 hy with r | hy
  ·rw [r]; exact sQ (F:=vL) h.1.1 (fun n=>by rw [qC]) (fun i x=>by rw [Y0]) (aMd x h.1.2)
  ·exact bLc l h.2 y hy
end
mutual
theorem cO8:∀ x:bD,iB x≤1048576→M8 x=some x
 | ⟨a0,a1⟩,hz=>by
  simp only [iB] at hz;have e0:uM a0=some a0:=bHr a0 (by omega);rw [M8];simp only [e0,QB,QA]
theorem bFs:∀ x:aQ,dW x≤1048576→A8 x=some x
 | ⟨a0,a1,a2,a3,a4,a5,a6,a7⟩,hz=>by
  simp only [dW] at hz;have e0:aDu a0=some a0:=cEp a0 (by omega);have e1:aJ7 a1=some a1:=qL (by':=24) (W:=qA) (by omega) (by omega) (by rw [aJ7]) (fun i b=>by rw [aIc]) (bIn a1 (by omega));have e2:qA a2=some a2:=qL (by':=120) (W:=uM) (by omega) (by omega) (by rw [qA]) (fun i b=>by rw [aAf]) (aKw a2 (by omega));have e3:aK7 a3=some a3:=qL (by':=128) (W:=M8) (by omega) (by omega) (by rw [aK7]) (fun i b=>by rw [aMv]) (bHe a3 (by omega));have e4:qA a4=some a4:=qL (by':=120) (W:=uM) (by omega) (by omega) (by rw [qA]) (fun i b=>by rw [aAf]) (aKw a4 (by omega));have e5:aEq a5=some a5:=bPu a5 (by omega);rw [A8];simp only [e0,e1,e2,e3,e4,e5,QB,QA]
theorem bHr:∀ x:aJ,bI x≤1048576→uM x=some x
 | ⟨a0,a1,a2,a3,a4,a5,a6,a7⟩,hz=>by
  simp only [bI] at hz;have e3:qY a3=some a3:=bHj a3 (by omega);have e6:qA a6=some a6:=qL (by':=120) (W:=uM) (by omega) (by omega) (by rw [qA]) (fun i b=>by rw [aAf]) (aKw a6 (by omega));have e7:aM4 a7=some a7:=qL (by':=160) (W:=A8) (by omega) (by omega) (by rw [aM4]) (fun i b=>by rw [aKy]) (bNm a7 (by omega));rw [uM];simp only [e3,e6,e7,QB,QA]
theorem bNm:∀ l:List aQ,vF l≤1048576→∀ y∈l,A8 y=some y
 | [],_=>fun y hy=>by simp at hy
 | x::l,hz=>by
  simp only [vF] at hz;intro y hy;rcases QL.1 hy with r | hy
  ·rw [r]; exact bFs x (by omega)
  ·exact bNm l (by omega) y hy
theorem aKw:∀ l:List aJ,oD l≤1048576→∀ y∈l,uM y=some y
 | [],_=>fun y hy=>by simp at hy
 | x::l,hz=>by
  simp only [oD] at hz;intro y hy;rcases QL.1 hy with r | hy
  ·rw [r]; exact bHr x (by omega)
  ·exact aKw l (by omega) y hy
theorem bHe:∀ l:List bD,uL l≤1048576→∀ y∈l,M8 y=some y
 | [],_=>fun y hy=>by simp at hy
 | x::l,hz=>by
  simp only [uL] at hz;intro y hy;rcases QL.1 hy with r | hy
  ·rw [r]; exact cO8 x (by omega)
  ·exact bHe l (by omega) y hy
theorem bIn:∀ l:List (List aJ),uR l≤1048576→∀ y∈l,qA y=some y
 | [],_=>fun y hy=>by simp at hy
 | x::l,hz=>by
  simp only [uR] at hz;intro y hy;rcases QL.1 hy with r | hy
  ·rw [r]; exact qL (by':=120) (W:=uM) (by omega) (by omega) (by rw [qA]) (fun i b=>by rw [aAf]) (aKw x (by omega))
  ·exact bIn l (by omega) y hy
end
mutual
theorem bYi:∀ x:bD,iB x≤1048576→X6 x x=some true
 | ⟨a0,a1⟩,hz=>by
  simp only [iB] at hz;have e0:vJ a0 a0=some true:=bO9 a0 (by omega);rw [X6];simp [e0]
theorem bHw:∀ x:aQ,dW x≤1048576→M5 x x=some true
 | ⟨a0,a1,a2,a3,a4,a5,a6,a7⟩,hz=>by
  simp only [dW] at hz;have e0:aGi a0 a0=some true:=bSb a0 (by omega);have e1:aJo a1 a1=some true:=pW (E:=qE) (by omega) (by rw [aJo]) (fun i=>by rw [aJ3]) (bGp a1 (by omega));have e2:qE a2 a2=some true:=pW (E:=vJ) (by omega) (by rw [qE]) (fun i=>by rw [V7]) (aL9 a2 (by omega));have e3:aN0 a3 a3=some true:=pW (E:=X6) (by omega) (by rw [aN0]) (fun i=>by rw [aJc]) (bMa a3 (by omega));have e4:qE a4 a4=some true:=pW (E:=vJ) (by omega) (by rw [qE]) (fun i=>by rw [V7]) (aL9 a4 (by omega));have e5:aDp a5 a5=some true:=cOj a5 (by omega);rw [M5];simp [e0,e1,e2,e3,e4,e5]
theorem bO9:∀ x:aJ,bI x≤1048576→vJ x x=some true
 | ⟨a0,a1,a2,a3,a4,a5,a6,a7⟩,hz=>by
  simp only [bI] at hz;have e3:wF a3 a3=some true:=bOm a3 (by omega);have e6:qE a6 a6=some true:=pW (E:=vJ) (by omega) (by rw [qE]) (fun i=>by rw [V7]) (aL9 a6 (by omega));have e7:aLm a7 a7=some true:=pW (E:=M5) (by omega) (by rw [aLm]) (fun i=>by rw [aKb]) (bJ0 a7 (by omega));rw [vJ];simp [e3,e6,e7]
theorem bJ0:∀ l:List aQ,vF l≤1048576→∀ y∈l,M5 y y=some true
 | [],_=>fun y hy=>by simp at hy
 | x::l,hz=>by
  simp only [vF] at hz;intro y hy;rcases QL.1 hy with r | hy
  ·rw [r]; exact bHw x (by omega)
  ·exact bJ0 l (by omega) y hy
theorem aL9:∀ l:List aJ,oD l≤1048576→∀ y∈l,vJ y y=some true
 | [],_=>fun y hy=>by simp at hy
 | x::l,hz=>by
  simp only [oD] at hz;intro y hy;rcases QL.1 hy with r | hy
  ·rw [r]; exact bO9 x (by omega)
  ·exact aL9 l (by omega) y hy
theorem bMa:∀ l:List bD,uL l≤1048576→∀ y∈l,X6 y y=some true
 | [],_=>fun y hy=>by simp at hy
 | x::l,hz=>by
  simp only [uL] at hz;intro y hy;rcases QL.1 hy with r | hy
  ·rw [r]; exact bYi x (by omega)
  ·exact bMa l (by omega) y hy
theorem bGp:∀ l:List (List aJ),uR l≤1048576→∀ y∈l,qE y y=some true
 | [],_=>fun y hy=>by simp at hy
 | x::l,hz=>by
  simp only [uR] at hz;intro y hy;rcases QL.1 hy with r | hy
  ·rw [r]; exact pW (E:=vJ) (by omega) (by rw [qE]) (fun i=>by rw [V7]) (aL9 x (by omega))
  ·exact bGp l (by omega) y hy
end
instance (n:Int):Decidable (okI n):=inferInstanceAs (Decidable (_∧_))
theorem nT {α:Type} {b:Nat} {l m:List α} (h:(l.length+m.length) * b≤140737488355328):appG b l m=some (l++m):=by unfold appG; rw [if_pos h]
theorem gather {α β γ:Type} {p:List α} {f:α→List β} {G:α→List β→Option (List β)} {L:List β→Int→Option γ} {K:List β→Option γ} {c:Nat} (hp:p.length≤4194304)
  (hG:∀ y∈p,∀ acc:List β,acc.length+(f y).length≤c→G y acc=some (acc++f y))
  (hL:∀ (i:Nat) acc,L acc (i:Int)=if (decide ((i:Int)<(p.length:Int)))=true then ((idx p (i:Int))>>=fun y=>(G y acc)>>=fun z=>L z (QC .i64 ((i:Int)+1))) else K acc) :
  ∀ acc:List β,acc.length+(p.flatMap f).length≤c→L acc 0=K (acc++p.flatMap f):=by
 have key:∀ i,i≤p.length→∀ acc:List β,acc.length+((p.drop i).flatMap f).length≤c→L acc (i:Nat)=K (acc++(p.drop i).flatMap f):=by
  refine eO ?_ ?_
  ·intro acc _;rw [hL]; simp
  ·intro i hi ih acc ha;rw [QF hi,WH,QI] at ha;rw [hL,bR hi,dL hi (by omega)];simp only [bU,hi,decide_true,if_true,QB,QA,hG _ (QE hi) acc (by omega)];rw [ih _ (by rw [QI]; omega),QF hi,WH,WF]
 intro acc ha;simpa using key 0 (by omega) acc (by simpa using ha)
theorem folded {α β γ:Type} {p:List α} {g:α→β→Option β} {h:α→β→β} {L:β→Int→Option γ} {K:β→Option γ} (hp:p.length≤1048576)
  (hg:∀ y∈p,∀ b,g y b=some (h y b))
  (hL:∀ (i:Nat) b,L b (i:Int)=if (decide ((i:Int)<(p.length:Int)))=true then ((idx p (i:Int))>>=fun y=>(g y b)>>=fun z=>L z (QC .i64 ((i:Int)+1))) else K b) :
  ∀ b,L b 0=K (p.foldl (fun b y=>h y b) b):=by
 have key:∀ i,i≤p.length→∀ b,L b (i:Nat)=K ((p.drop i).foldl (fun b y=>h y b) b):=by
  refine eO ?_ ?_
  ·intro b; rw [hL]; simp
  ·intro i hi ih b;rw [hL,bR hi,dL hi (by omega)];simp only [bU,hi,decide_true,if_true,QB,QA,hg _ (QE hi)];rw [ih,QF hi,List.foldl_cons]
 intro b;simpa using key 0 (by omega) b
theorem sS {α:Type} {z:α→Nat} {l:List α} {x:α} (h:x∈l):z x+l.length≤zL z l:=by
 have:=mH (z:=z) h;unfold zL; omega
theorem aDm (x:aJ):bI x=eX x.value+zL bI x.kids+zL dW x.sub:=by
 obtain ⟨a0,a1,a2,⟨b0,b1,b2⟩,a4,a5,a6,a7⟩:=x;simp only [bI,eX,I7,aSg,zL]
theorem K7 (q:aQ):dW q=zL z0 q.tables+zL (zL bI) q.on_+zL bI q.where_+(q.order.length+(q.order.map fun k=>bI k.expr).sum)+zL bI q.items+zL WE q.names:=by
 obtain ⟨a0,a1,a2,a3,a4,a5,a6,a7⟩:=q;simp only [dW,I7,aSc,aN8,zL];have:(a3.map iB)=a3.map fun k=>bI k.expr:=List.map_congr_left fun k _=>by obtain ⟨k0,k1⟩:=k; simp only [iB]
 rw [this]
theorem kJ {α:Type} {z:α→Nat} (l:List α):l.length≤zL z l:=by unfold zL; omega
theorem aJm {x k:aJ} (h:k∈x.kids):bI k+x.kids.length≤bI x:=by have:=aDm x; have:=sS (z:=bI) h; omega
theorem aIk {x:aJ} {p:aQ} (h:p∈x.sub):dW p+x.sub.length≤bI x:=by have:=aDm x; have:=sS (z:=dW) h; omega
theorem bFi (x:aJ):x.kids.length+x.sub.length≤bI x:=by have:=aDm x; have:=kJ (z:=bI) x.kids; have:=kJ (z:=dW) x.sub; omega
theorem onZ {l:List aJ} (h:l∈q.on_) (he:e∈l):bI e+l.length+q.on_.length≤dW q:=by have:=K7 q; have:=sS (z:=zL bI) h; have:=sS (z:=bI) he; omega
theorem bMd (h:e∈q.where_):bI e+q.where_.length≤dW q:=by have:=K7 q; have:=sS (z:=bI) h; omega
theorem bIp (h:e∈q.items):bI e+q.items.length≤dW q:=by have:=K7 q; have:=sS (z:=bI) h; omega
theorem bGo {k:bD} (h:k∈q.order):bI k.expr+q.order.length≤dW q:=by have:=K7 q; have:=mH (z:=fun k:bD=>bI k.expr) h; omega
theorem aM8 (q:aQ):q.tables.length+q.on_.length+q.where_.length+q.order.length+q.items.length+q.names.length≤dW q:=by
 have:=K7 q; have:=kJ (z:=z0) q.tables; have:=kJ (z:=zL bI) q.on_; have:=kJ (z:=bI) q.where_; have:=kJ (z:=bI) q.items; have:=kJ (z:=WE) q.names; omega
theorem aPf (s:List UInt8):∃ b,oH s=some b∧pX s=some b:=by
 unfold pX oH fT;exact ⟨_,rfl,rfl⟩
theorem cHi (s:List UInt8):∃ b,G9 s=some b:=by
 obtain ⟨b,h1,h2⟩:=aPf s;unfold G9;by_cases h:s=[]
 ·exact ⟨true,by simp [h]⟩
 ·exact ⟨b,by simp [h,h1]⟩
theorem bGl (x:aA):qB x=kT x∧∃ b,kT x=some b:=by
 unfold qB kT fT;simp only [QB,QA];by_cases h0:x.kind=0
 ·simp [h0]
 by_cases h1:x.kind=1
 ·simp [h1]
 by_cases h2:x.kind=2
 ·simp [h2]
 by_cases h3:x.kind=3
 ·by_cases n0:x.num=0
  ·simp [h3,n0]
  by_cases n1:x.num=1
  ·simp [h3,n1]
  have e:(if decide (0≤x.num)=true then decide (x.num≤1) else false)=false:=by
   by_cases p:0≤x.num
   ·simp [p]; omega
   ·simp [p]
  rw [e];simp [h3,n0,n1]
 ·simp [h0,h1,h2,h3]
theorem bM7 (x:aA):∃ b,Z4 x=some b∧aCa x=some b:=by
 obtain ⟨h1,b,h2⟩:=bGl x;unfold Z4 aCa;rw [h1,h2];cases b <;> simp
theorem orB (b c:Bool):(if b=true then true else c)=(b||c):=by cases b <;> rfl
theorem rA (b c:Bool):(if b=true then c else false)=(b&&c):=by cases b <;> rfl
theorem cOl (b c:Bool):(if b=true then (!c) else false)=(b&&!c):=by cases b <;> rfl
def zvE (x:eZ):Bool:=((decide (x.value.kind=0))&&((decide (x.value.num=0))&&((decide (x.value.text=[]))&&true)))
theorem cDf (x:eZ):aD7 x=(if ((!decide (x.kind=2)&&(!decide (x.qual=[])||!decide (x.name=[])))||(!decide (x.kind=1)&&!zvE x))=true then some false else
    if ((!decide (x.kind=3)&&!decide (x.kind=4))&&!decide (x.op=0)||(x.not_&&!(decide (5≤x.kind)&&decide (x.kind≤8))))=true then some false else
    (if (decide (x.kind=1))=true then ((Z4 x.value)>>=fun (y10:Bool)=>some (y10&&decide ((QC .i64 ((x.kids.length:Int)+(x.sub.length:Int)))=0)))
     else if (decide (x.kind=2))=true then ((oH x.name)>>=fun (y12:Bool)=>(if y12=true then G9 x.qual else some false)>>=fun (y14:Bool)=>some (y14&&decide ((QC .i64 ((x.kids.length:Int)+(x.sub.length:Int)))=0)))
     else some (if x.kind=3 then (decide (x.op=15)||decide (x.op=16))&&decide ((x.kids.length:Int)=1)&&decide ((x.sub.length:Int)=0)
      else if x.kind=4 then (decide (1≤x.op)&&decide (x.op≤14))&&decide ((x.kids.length:Int)=2)&&decide ((x.sub.length:Int)=0)
      else if x.kind=5 then decide ((x.kids.length:Int)=1)&&decide ((x.sub.length:Int)=0)
      else if x.kind=6 then decide ((x.kids.length:Int)=3)&&decide ((x.sub.length:Int)=0)
      else if x.kind=7 then (decide (2≤(x.kids.length:Int))&&decide ((x.kids.length:Int)≤9))&&decide ((x.sub.length:Int)=0)
      else if x.kind=8 then decide ((x.kids.length:Int)=1)&&decide ((x.sub.length:Int)=1)
      else if x.kind=9 then decide ((x.kids.length:Int)=0)&&decide ((x.sub.length:Int)=1)
      else false))):=by
  unfold aD7 fT
  simp only [QB]
  simp only [QA]
  simp only [rA,orB]
  obtain ⟨k,o,no,v,q,nm,ks,sb⟩:=x
  obtain ⟨bl,l1,l2⟩:=bM7 v
  obtain ⟨bn,n1,n2⟩:=aPf nm
  obtain ⟨bq,q1⟩:=cHi q
  have hz:zvE ⟨k,o,no,v,q,nm,ks,sb⟩=((decide (v.kind=0))&&((decide (v.num=0))&&((decide (v.text=[]))&&true))):=rfl
  simp only [l1,n1,q1,hz,QA]
  generalize ((decide (v.kind=0))&&((decide (v.num=0))&&((decide (v.text=[]))&&true)))=zv
  generalize decide (q=[])=q0
  generalize decide (nm=[])=n0
  by_cases k1:k=1
  · subst k1; cases q0 <;> cases n0 <;> cases no <;> by_cases o0:o=0 <;> cases bl <;> simp [o0]
  by_cases k2:k=2
  · subst k2; cases zv <;> cases no <;> by_cases o0:o=0 <;> cases bn <;> simp [o0]
  by_cases k3:k=3
  · subst k3; cases q0 <;> cases n0 <;> cases zv <;> cases no <;> simp
  by_cases k4:k=4
  · subst k4; cases q0 <;> cases n0 <;> cases zv <;> cases no <;> simp
  have kk:¬ (k=3∨k=4):=by omega
  by_cases k5:k=5
  · subst k5; cases q0 <;> cases n0 <;> cases zv <;> cases no <;> by_cases o0:o=0 <;> simp [o0]
  by_cases k6:k=6
  · subst k6; cases q0 <;> cases n0 <;> cases zv <;> cases no <;> by_cases o0:o=0 <;> simp [o0]
  by_cases k7:k=7
  · subst k7; cases q0 <;> cases n0 <;> cases zv <;> cases no <;> by_cases o0:o=0 <;> simp [o0]
  by_cases k8:k=8
  · subst k8; cases q0 <;> cases n0 <;> cases zv <;> cases no <;> by_cases o0:o=0 <;> simp [o0]
  by_cases k9:k=9
  · subst k9; cases q0 <;> cases n0 <;> cases zv <;> cases no <;> by_cases o0:o=0 <;> simp [o0]
  have kr:(decide (5≤k)&&decide (k≤8))=false:=by
    by_cases h:5≤k
    · have:¬ k≤8:=by omega
      simp [this]
    · simp [h]
  cases q0 <;> cases n0 <;> cases zv <;> cases no <;> by_cases o0:o=0 <;> simp [o0,k1,k2,k3,k4,k5,k6,k7,k8,k9]
theorem cL5 (x:eZ) (bl bc:Bool) (h1:aCa x.value=some bl) (h2:(oH x.name>>=fun (y12:Bool)=>(if y12=true then G9 x.qual else some false))=some bc):E5 x=some (
  if x.kind=1 then (⟨false,false,true,false,0,0,0⟩,bl)
  else if x.kind=2 then (⟨false,false,false,true,0,0,0⟩,bc)
  else if x.kind=3 then (⟨true,false,false,false,1,1,0⟩,decide (x.op=15)||decide (x.op=16))
  else if x.kind=4 then (⟨true,false,false,false,2,2,0⟩,decide (1≤x.op)&&decide (x.op≤14))
  else if x.kind=5 then (⟨false,true,false,false,1,1,0⟩,true)
  else if x.kind=6 then (⟨false,true,false,false,3,3,0⟩,true)
  else if x.kind=7 then (⟨false,true,false,false,2,9,0⟩,true)
  else if x.kind=8 then (⟨false,true,false,false,1,1,1⟩,true)
  else if x.kind=9 then (⟨false,false,false,false,0,0,1⟩,true)
  else (⟨false,false,false,false,0,0,0⟩,false)):=by
 obtain ⟨k,o,no,v,q,nm,ks,sb⟩:=x;obtain ⟨bn,n1,n2⟩:=aPf nm;obtain ⟨bo,o1,o2⟩:=aPf q;unfold E5;dsimp only at h1 h2 ⊢;have h3:((if ((true&&(bn==true))&&((decide (q=[]))==false))=true then pX q else some default).bind fun (y3:Bool)=>(if (true&&(bn==true))=true then some (if (decide (q=[]))=true then true else y3) else some default).bind fun (y4:Bool)=>(some (if bn=true then y4 else false)).bind fun y5=>some ((jV.mk false false false true 0 0 0),y5))=some ((jV.mk false false false true 0 0 0),bc):=by
  unfold G9 at h2;rw [n1,o1] at h2;rw [o2];cases bn
  ·simp at h2; simp [h2]
  ·by_cases q0:q=[]
   ·simp [q0] at h2; simp [q0,h2]
   ·simp [q0] at h2; simp [q0,h2]
 simp only [h1,n2,QB,QA];by_cases k1:k=1
 ·simp [k1]
 by_cases k2:k=2
 ·subst k2; simp only [QA] at h3; simpa using h3
 by_cases k3:k=3
 ·simp [k3]
 by_cases k4:k=4
 ·simp [k4]
 by_cases k5:k=5
 ·simp [k5]
 by_cases k6:k=6
 ·simp [k6]
 by_cases k7:k=7
 ·simp [k7]
 by_cases k8:k=8
 ·simp [k8]
 by_cases k9:k=9
 ·simp [k9]
 simp [k1,k2,k3,k4,k5,k6,k7,k8,k9]
theorem bMe:aGp=L9:=by
 funext p q;unfold aGp L9 aL3 zJ fT;rfl
def okT (p:Int):Prop:=0≤p∧p≤3
theorem aPq {p:Int} (h:okT p):zJ p=some true:=by
 unfold zJ fT;have h1:=h.1;have h2:=h.2;simp [h1,h2]
theorem bNq {p q:Int} (hp:okT p) (hq:okT q):∃ r,L9 p q=some r∧okT r.1:=by
 unfold L9;rw [aPq hp,aPq hq];simp only [QG,beq_self_eq_true,WO,if_true,QD,if_false,QB,QA];have h0:okT 0:=⟨by omega,by omega⟩
 by_cases p0:p=0
 ·exact ⟨(q,true),by simp [p0],hq⟩
 ·by_cases q0:q=0∨p=q
  ·refine ⟨(p,true),?_,hp⟩;rcases q0 with h | h <;> simp [p0,h]
  ·have a1:¬ q=0:=fun h=>q0 (.inl h);have a2:¬ p=q:=fun h=>q0 (.inr h);exact ⟨(0,false),by simp [p0,a1,a2],h0⟩
theorem aRp:H6=X3:=rfl
theorem aM5 (p:Int):∃ b,X3 p=some b:=⟨_,rfl⟩
theorem bIh (p q:Int):aDd p q=some (decide (p=0)||decide (p=q)):=by
 unfold aDd;by_cases h:p=0 <;> simp [h]
theorem bHq (a p q:Int):aC9 a p q=some ((decide (p=0)||decide (p=a))&&(decide (q=0)||decide (q=a))):=by
 unfold aC9;by_cases h1:p=a <;> by_cases h2:p=0 <;> by_cases h3:q=a <;> by_cases h4:q=0 <;> simp [h1,h2,h3,h4]
theorem cJo (o p q:Int) (hp:okT p) (hq:okT q):∃ r,aJ6 o p q=some r∧aJ0 o p q=some r∧okT r.1:=by
 have h0:okT 0:=⟨by omega,by omega⟩
 have h3:okT 3:=⟨by omega,by omega⟩
 have h2:okT 2:=⟨by omega,by omega⟩
 have h1:okT 1:=⟨by omega,by omega⟩
 obtain ⟨m,m1,m2⟩:=bNq hp hq;obtain ⟨t1,e1⟩:=aM5 p;obtain ⟨t2,e2⟩:=aM5 q;unfold aJ6 aJ0 aAg aKa rD fT;simp only [bMe,aRp,m1,e1,e2,aPq hp,aPq hq,bIh,bHq,QB,QA];by_cases a:1≤o
 ·by_cases b:o≤14
  ·have c1:¬ o<1:=by omega
   have c2:¬ 14<o:=by omega
   by_cases d:o≤2
   ·cases t1 <;> cases t2
    ·exact ⟨(0,false),by simp [c1,c2,d],by simp [a,b,d],h0⟩
    ·exact ⟨(0,false),by simp [c1,c2,d],by simp [a,b,d],h0⟩
    ·exact ⟨(0,false),by simp [c1,c2,d],by simp [a,b,d],h0⟩
    ·exact ⟨(3,true),by simp [c1,c2,d],by simp [a,b,d],h3⟩
   by_cases d2:o≤8
   ·cases hm:m.2
    ·exact ⟨(0,false),by simp [c1,c2,d,d2,hm],by simp [a,b,d,d2,hm],h0⟩
    ·exact ⟨(3,true),by simp [c1,c2,d,d2,hm],by simp [a,b,d,d2,hm],h3⟩
   by_cases d3:o=9
   ·subst d3;generalize (decide (p=0)||decide (p=2))=b1;generalize (decide (q=0)||decide (q=2))=b2;cases b1 <;> cases b2
    ·exact ⟨(0,false),by simp,by simp,h0⟩
    ·exact ⟨(0,false),by simp,by simp,h0⟩
    ·exact ⟨(0,false),by simp,by simp,h0⟩
    ·exact ⟨(2,true),by simp,by simp,h2⟩
   ·generalize (decide (p=0)||decide (p=1))=b1;generalize (decide (q=0)||decide (q=1))=b2;cases b1 <;> cases b2
    ·exact ⟨(0,false),by simp [c1,c2,d,d2,d3],by simp [a,b,d,d2,d3],h0⟩
    ·exact ⟨(0,false),by simp [c1,c2,d,d2,d3],by simp [a,b,d,d2,d3],h0⟩
    ·exact ⟨(0,false),by simp [c1,c2,d,d2,d3],by simp [a,b,d,d2,d3],h0⟩
    ·exact ⟨(1,true),by simp [c1,c2,d,d2,d3],by simp [a,b,d,d2,d3],h1⟩
  ·have c2:14<o:=by omega
   exact ⟨(0,false),by simp [c2],by simp [b],h0⟩
 ·have c1:o<1:=by omega
  exact ⟨(0,false),by simp [c1],by simp [a],h0⟩
theorem cOo (o p:Int):∃ r,aLw o p=some r∧aMz o p=some r∧okT r.1:=by
 have h0:okT 0:=⟨by omega,by omega⟩
 have h3:okT 3:=⟨by omega,by omega⟩
 have h1:okT 1:=⟨by omega,by omega⟩
 obtain ⟨t1,e1⟩:=aM5 p;unfold aLw aMz rD;simp only [aRp,e1,bIh,bHq,QB,QA];by_cases a:o=15
 ·subst a;cases t1
  ·exact ⟨(0,false),by simp,by simp,h0⟩
  ·exact ⟨(3,true),by simp,by simp,h3⟩
 by_cases b:o=16
 ·subst b;generalize (decide (p=0)||decide (p=1))=b1;cases b1
  ·exact ⟨(0,false),by simp,by simp,h0⟩
  ·exact ⟨(1,true),by simp,by simp,h1⟩
 ·exact ⟨(0,false),by simp [a,b],by simp [a,b],h0⟩
theorem cNj (l:List Int) (hl:l.length≤1048576) (h:∀ p∈l,okT p):∃ r,aKt l=some r∧O5 l=some r.2:=by
 have key:∀ i,i≤l.length→∀ x,okT x→∃ r,Y2 l x (i:Nat)=some r∧F8 l x (i:Nat)=some r.2:=by
  refine eO ?_ ?_
  ·intro x hx;rw [Y2,F8];exact ⟨(x,true),by simp,by simp⟩
  ·intro i hi ih x hx;rw [Y2,F8];obtain ⟨m,m1,m2⟩:=bNq hx (h _ (QE hi));simp only [bU,hi,decide_true,if_true,bR hi,dL hi (by omega),bMe,m1,QB,QA];cases hm:m.2
   ·exact ⟨(0,false),by simp,by simp⟩
   ·simpa using ih m.1 m2
 unfold aKt O5;exact key 0 (by omega) 0 ⟨by omega,by omega⟩
theorem cP2 {v:aA} (h:Z4 v=some true):okT v.kind:=by
 unfold Z4 at h;have hv:kT v=some true:=by
  obtain ⟨_,b,e2⟩:=bGl v;rw [e2] at h ⊢;cases b with
  | true=>rfl
  | false=>simp at h
 unfold kT at hv;unfold okT;by_cases k0:v.kind=0
 ·omega
 by_cases k1:v.kind=1
 ·omega
 by_cases k2:v.kind=2
 ·omega
 by_cases k3:v.kind=3
 ·omega
 simp [k0,k1,k2,k3] at hv
def aRs (p:aJ):Prop:=(p.kind=1∧p.kids.length=0∧p.sub.length=0∧okT p.value.kind)∨(p.kind=2∧p.kids.length=0∧p.sub.length=0)∨(p.kind=3∧p.kids.length=1∧p.sub.length=0)∨(p.kind=4∧p.kids.length=2∧p.sub.length=0) ∨
 (p.kind=5∧p.kids.length=1∧p.sub.length=0)∨(p.kind=6∧p.kids.length=3∧p.sub.length=0)∨(p.kind=7∧(2≤p.kids.length∧p.kids.length≤9)∧p.sub.length=0)∨(p.kind=8∧p.kids.length=1∧p.sub.length=1)∨(p.kind=9∧p.kids.length=0∧p.sub.length=1)
theorem bLe {β:Type} {b:Bool} {m:Option Bool} {K:Bool→Option β}:((if (true&&(b==true))=true then m else some (default:Bool)).bind fun y=>(some (if b=true then y else false)).bind K)=((if b=true then m else some false).bind K):=by cases b <;> cases m <;> rfl
theorem bL8 (b c:Bool):(if b=true then some c else some false)=some (b&&c):=by cases b <;> rfl
theorem cBr {β:Type} {b n:Bool} {K:Bool→Option β}:((if ((true&&(b==true))&&(n==false))=true then some u else some (default:Bool)).bind fun y8=>(if (true&&(b==true))=true then some (if n=true then true else y8) else some (default:Bool)).bind fun y9=>(some (if b=true then y9 else false)).bind K)=K (b&&(n||u)):=by cases b <;> cases n <;> rfl
theorem or3 {β:Type} {b n:Bool} {K:Bool→Option β}:((if ((true&&(b==true))&&(n==false))=true then some u else some (default:Bool)).bind fun y8=>K (b&&(n||y8)))=K (b&&(n||u)):=by cases b <;> cases n <;> rfl
theorem bQ2 (p:aJ) (f:jV) (ok:Bool) (h:E5 (eZ.mk p.kind p.op false p.value [] [120] [] [])=some (f,ok)):aFn p=some (ok&&(f.op||decide (p.op=0))&&(f.not_||!p.not_)&&(f.value||((decide (p.value.kind=0))&&((decide (p.value.num=0))&&((decide (p.value.text=[]))&&true))))&&(f.name||(decide (p.up=0)&&decide (p.at_=0)))&&decide (f.least≤(p.kids.length:Int))&&decide ((p.kids.length:Int)≤f.most)&&decide ((p.sub.length:Int)=f.subs)):=by
 rw [aFn,h];simp only [QB];rw [show ∀ K:jV×Bool→Option Bool,(some (f,ok)).bind K=K (f,ok) from fun _=>rfl];simp only [bLe,cBr];simp only [bL8,QA,rA,orB];exact or3 (K:=fun z=>some (z&&decide (f.least≤(p.kids.length:Int))&&decide ((p.kids.length:Int)≤f.most)&&decide ((p.sub.length:Int)=f.subs)))
theorem aWm (p:aJ) (hk:p.kids.length≤1048576) (hs:p.sub.length≤1048576):∃ b,aDl p=some b∧aFn p=some b∧(b=true→aRs p):=by
 obtain ⟨bl,l1,l2⟩:=bM7 p.value;have hlk:bl=true→okT p.value.kind:=fun h=>cP2 (by rw [l1,h]);have e1:mkG 136 (p.kids.length:Int) (eZ.mk 0 0 false (aA.mk 0 0 []) [] [] [] [])=some (WK p.kids.length (eZ.mk 0 0 false (aA.mk 0 0 []) [] [] [] [])):=aUx (by omega);have e2:mkG 112 (p.sub.length:Int) (jI.mk false [] [] [] [] 0)=some (WK p.sub.length (jI.mk false [] [] [] [] 0)):=aUx (by omega);have hw:QC .i64 ((p.kids.length:Int)+(p.sub.length:Int))=(p.kids.length:Int)+(p.sub.length:Int):=cZ (by omega) (by omega);have hF:=cL5 (eZ.mk p.kind p.op false p.value [] [120] [] []) bl true l2 rfl;obtain ⟨⟨f,ok⟩,hfo⟩:∃ r,E5 (eZ.mk p.kind p.op false p.value [] [120] [] [])=some r:=⟨_,hF⟩
 rw [bQ2 p f ok hfo];rw [hfo] at hF;have n97:oH [97]=some true:=rfl;have m0:G9 []=some true:=rfl;have hS:aDl p=if (!decide (p.kind=2)&&(!decide (p.up=0)||!decide (p.at_=0)))=true then some false else (if decide (p.kind=2)=true then aD7 (eZ.mk p.kind p.op p.not_ p.value [] [97] (WK p.kids.length (eZ.mk 0 0 false (aA.mk 0 0 []) [] [] [] [])) (WK p.sub.length (jI.mk false [] [] [] [] 0))) else aD7 (eZ.mk p.kind p.op p.not_ p.value [] [] (WK p.kids.length (eZ.mk 0 0 false (aA.mk 0 0 []) [] [] [] [])) (WK p.sub.length (jI.mk false [] [] [] [] 0)))):=by
  unfold aDl aJi;simp only [QB];simp only [bLe];simp only [e1,e2,bL8,QA,Option.bind_fun_some,rA,orB]
 rw [hS];unfold aRs;simp only [cDf,zvE,List.length_replicate,hw,l1,n97,m0];obtain ⟨k,o,no,v,up,at_,ks,sb⟩:=p;dsimp only at hk hs hF hlk ⊢;generalize ((decide (v.kind=0))&&((decide (v.num=0))&&((decide (v.text=[]))&&true)))=zv;have fin:∀ (a b:Bool) (P:Prop),a=b→(b=true→P)→∃ c,(some a:Option Bool)=some c∧(some b:Option Bool)=some c∧(c=true→P):=by
  rintro a b P rfl h; exact ⟨a,rfl,rfl,h⟩
 have hif:∀ (a b:Bool) (X:Bool),(if a=true then some false else if b=true then some false else some X)=some (!a&&(!b&&X)):=by intro a b X; cases a <;> cases b <;> rfl
 have hif1:∀ (a:Bool) (X:Bool),(if a=true then some false else some X)=some (!a&&X):=by intro a X; cases a <;> rfl
 clear hS hfo e1 e2 hw l1 l2 n97 m0;have eN:∀ n:Int,(decide (n≤(ks.length:Int))&&decide ((ks.length:Int)≤n))=decide ((ks.length:Int)=n):=fun n=>by rw [QS]; simp only [QJ,decide_eq_true_eq]; omega
 have e0:decide ((ks.length:Int)+(sb.length:Int)=0)=(decide ((ks.length:Int)=0)&&decide ((sb.length:Int)=0)):=by rw [QS]; simp only [QJ,decide_eq_true_eq]; omega
 by_cases k1:k=1
 ·subst k1;simp only [Int.reduceEq,if_true,if_false,QH,Prod.mk.injEq] at hF;obtain ⟨rfl,rfl⟩:=hF;simp only [Int.reduceEq,Int.reduceLE,if_true,if_false,decide_true,decide_false,QG,QT,QP,WA,QX,WB,QY,QU,WC,WD,QD,QB,QA,hif,hif1];refine fin _ _ _ ?_ fun h=>?_
  ·simp only [e0,QK]
   try simp only [← QK (decide (_≤(ks.length:Int))),eN]
   generalize decide ((ks.length:Int)=0)=c0;generalize decide ((sb.length:Int)=0)=d0;generalize decide (up=0)=u0;generalize decide (at_=0)=a0;generalize decide (o=0)=o0;cases ok <;> cases no <;> cases u0 <;> cases a0 <;> cases o0 <;> cases c0 <;> cases d0 <;> rfl
  ·simp only [QJ,decide_eq_true_eq] at h;exact .inl ⟨trivial,by omega,by omega,hlk h.1.1.1.1.1.1⟩
 by_cases k2:k=2
 ·subst k2;simp only [Int.reduceEq,if_true,if_false,QH,Prod.mk.injEq] at hF;obtain ⟨rfl,rfl⟩:=hF;simp only [Int.reduceEq,Int.reduceLE,if_true,if_false,decide_true,decide_false,QG,QT,QP,WA,QX,WB,QY,QU,WC,WD,QD,QB,QA,hif,hif1];refine fin _ _ _ ?_ fun h=>?_
  ·simp only [e0,QK]
   try simp only [← QK (decide (_≤(ks.length:Int))),eN]
   generalize decide ((ks.length:Int)=0)=c0;generalize decide ((sb.length:Int)=0)=d0;generalize decide (o=0)=o0;cases no <;> cases zv <;> cases o0 <;> cases c0 <;> cases d0 <;> rfl
  ·simp only [QJ,decide_eq_true_eq] at h;simp only [Int.reduceEq,false_and,false_or,true_and,or_false];omega
 by_cases k3:k=3
 ·subst k3;simp only [Int.reduceEq,if_true,if_false,QH,Prod.mk.injEq] at hF;obtain ⟨rfl,rfl⟩:=hF;simp only [Int.reduceEq,Int.reduceLE,if_true,if_false,decide_true,decide_false,QG,QT,QP,WA,QX,WB,QY,QU,WC,WD,QD,QB,QA,hif,hif1];refine fin _ _ _ ?_ fun h=>?_
  ·simp only [e0,QK]
   try simp only [← QK (decide (_≤(ks.length:Int))),eN]
   generalize decide ((ks.length:Int)=1)=c1;generalize decide ((sb.length:Int)=0)=d0;generalize decide (up=0)=u0;generalize decide (at_=0)=a0;generalize decide (o=15)=o5;generalize decide (o=16)=o6;cases no <;> cases zv <;> cases u0 <;> cases a0 <;> cases o5 <;> cases o6 <;> cases c1 <;> cases d0 <;> rfl
  ·simp only [QJ,decide_eq_true_eq] at h;simp only [Int.reduceEq,false_and,false_or,true_and,or_false];omega
 by_cases k4:k=4
 ·subst k4;simp only [Int.reduceEq,if_true,if_false,QH,Prod.mk.injEq] at hF;obtain ⟨rfl,rfl⟩:=hF;simp only [Int.reduceEq,Int.reduceLE,if_true,if_false,decide_true,decide_false,QG,QT,QP,WA,QX,WB,QY,QU,WC,WD,QD,QB,QA,hif,hif1];refine fin _ _ _ ?_ fun h=>?_
  ·simp only [e0,QK]
   try simp only [← QK (decide (_≤(ks.length:Int))),eN]
   generalize decide ((ks.length:Int)=2)=c2;generalize decide ((sb.length:Int)=0)=d0;generalize decide (up=0)=u0;generalize decide (at_=0)=a0;generalize decide (1≤o)=o7;generalize decide (o≤14)=o8;cases no <;> cases zv <;> cases u0 <;> cases a0 <;> cases o7 <;> cases o8 <;> cases c2 <;> cases d0 <;> rfl
  ·simp only [QJ,decide_eq_true_eq] at h;simp only [Int.reduceEq,false_and,false_or,true_and,or_false];omega
 by_cases k5:k=5
 ·subst k5;simp only [Int.reduceEq,if_true,if_false,QH,Prod.mk.injEq] at hF;obtain ⟨rfl,rfl⟩:=hF;simp only [Int.reduceEq,Int.reduceLE,if_true,if_false,decide_true,decide_false,QG,QT,QP,WA,QX,WB,QY,QU,WC,WD,QD,QB,QA,hif,hif1];refine fin _ _ _ ?_ fun h=>?_
  ·simp only [e0,QK]
   try simp only [← QK (decide (_≤(ks.length:Int))),eN]
   generalize decide ((ks.length:Int)=1)=c1;generalize decide ((sb.length:Int)=0)=d0;generalize decide (up=0)=u0;generalize decide (at_=0)=a0;generalize decide (o=0)=o0;cases zv <;> cases u0 <;> cases a0 <;> cases o0 <;> cases c1 <;> cases d0 <;> rfl
  ·simp only [QJ,decide_eq_true_eq] at h;simp only [Int.reduceEq,false_and,false_or,true_and,or_false];omega
 by_cases k6:k=6
 ·subst k6;simp only [Int.reduceEq,if_true,if_false,QH,Prod.mk.injEq] at hF;obtain ⟨rfl,rfl⟩:=hF;simp only [Int.reduceEq,Int.reduceLE,if_true,if_false,decide_true,decide_false,QG,QT,QP,WA,QX,WB,QY,QU,WC,WD,QD,QB,QA,hif,hif1];refine fin _ _ _ ?_ fun h=>?_
  ·simp only [e0,QK]
   try simp only [← QK (decide (_≤(ks.length:Int))),eN]
   generalize decide ((ks.length:Int)=3)=c3;generalize decide ((sb.length:Int)=0)=d0;generalize decide (up=0)=u0;generalize decide (at_=0)=a0;generalize decide (o=0)=o0;cases zv <;> cases u0 <;> cases a0 <;> cases o0 <;> cases c3 <;> cases d0 <;> rfl
  ·simp only [QJ,decide_eq_true_eq] at h;simp only [Int.reduceEq,false_and,false_or,true_and,or_false];omega
 by_cases k7:k=7
 ·subst k7;simp only [Int.reduceEq,if_true,if_false,QH,Prod.mk.injEq] at hF;obtain ⟨rfl,rfl⟩:=hF;simp only [Int.reduceEq,Int.reduceLE,if_true,if_false,decide_true,decide_false,QG,QT,QP,WA,QX,WB,QY,QU,WC,WD,QD,QB,QA,hif,hif1];refine fin _ _ _ ?_ fun h=>?_
  ·simp only [e0,QK]
   try simp only [← QK (decide (_≤(ks.length:Int))),eN]
   generalize decide (2≤(ks.length:Int))=c4;generalize decide ((ks.length:Int)≤9)=c5;generalize decide ((sb.length:Int)=0)=d0;generalize decide (up=0)=u0;generalize decide (at_=0)=a0;generalize decide (o=0)=o0;cases zv <;> cases u0 <;> cases a0 <;> cases o0 <;> cases c4 <;> cases c5 <;> cases d0 <;> rfl
  ·simp only [QJ,decide_eq_true_eq] at h;simp only [Int.reduceEq,false_and,false_or,true_and,or_false];omega
 by_cases k8:k=8
 ·subst k8;simp only [Int.reduceEq,if_true,if_false,QH,Prod.mk.injEq] at hF;obtain ⟨rfl,rfl⟩:=hF;simp only [Int.reduceEq,Int.reduceLE,if_true,if_false,decide_true,decide_false,QG,QT,QP,WA,QX,WB,QY,QU,WC,WD,QD,QB,QA,hif,hif1];refine fin _ _ _ ?_ fun h=>?_
  ·simp only [e0,QK]
   try simp only [← QK (decide (_≤(ks.length:Int))),eN]
   generalize decide ((ks.length:Int)=1)=c1;generalize decide ((sb.length:Int)=1)=d1;generalize decide (up=0)=u0;generalize decide (at_=0)=a0;generalize decide (o=0)=o0;cases zv <;> cases u0 <;> cases a0 <;> cases o0 <;> cases c1 <;> cases d1 <;> rfl
  ·simp only [QJ,decide_eq_true_eq] at h;simp only [Int.reduceEq,false_and,false_or,true_and,or_false];omega
 by_cases k9:k=9
 ·subst k9;simp only [Int.reduceEq,if_true,if_false,QH,Prod.mk.injEq] at hF;obtain ⟨rfl,rfl⟩:=hF;simp only [Int.reduceEq,Int.reduceLE,if_true,if_false,decide_true,decide_false,QG,QT,QP,WA,QX,WB,QY,QU,WC,WD,QD,QB,QA,hif,hif1];refine fin _ _ _ ?_ fun h=>?_
  ·simp only [e0,QK]
   try simp only [← QK (decide (_≤(ks.length:Int))),eN]
   generalize decide ((ks.length:Int)=0)=c0;generalize decide ((sb.length:Int)=1)=d1;generalize decide (up=0)=u0;generalize decide (at_=0)=a0;generalize decide (o=0)=o0;cases no <;> cases zv <;> cases u0 <;> cases a0 <;> cases o0 <;> cases c0 <;> cases d1 <;> rfl
  ·simp only [QJ,decide_eq_true_eq] at h;simp only [Int.reduceEq,false_and,false_or,true_and,or_false];omega
 simp only [k1,k2,k3,k4,k5,k6,k7,k8,k9,if_false,QH,Prod.mk.injEq] at hF;obtain ⟨rfl,rfl⟩:=hF;simp only [k1,k2,k3,k4,k5,k6,k7,k8,k9,Int.reduceEq,Int.reduceLE,if_true,if_false,decide_true,decide_false,QG,QT,QP,WA,QX,WB,QY,QU,WC,WD,QD,QB,QA,hif,hif1];refine ⟨false,?_,rfl,by simp⟩
 repeat' split
 all_goals first | rfl | simp
theorem bEi {L:Int→Option Bool} {good:Nat→Prop} {KP:Prop}
  (hstep:∀ i,i<n→(good i→L (i:Nat)=L ((i+1:Nat):Int))∧(¬ good i→L (i:Nat)=some false))
  (hend:∃ b,L (n:Nat)=some b∧(b=true↔KP)):∃ b,L 0=some b∧(b=true↔(∀ i,i<n→good i)∧KP):=by
 have key:∀ i,i≤n→∃ b,L (i:Nat)=some b∧(b=true↔(∀ k,i≤k→k<n→good k)∧KP):=by
  refine eO ?_ ?_
  ·obtain ⟨b,h1,h2⟩:=hend;exact ⟨b,h1,h2.trans ⟨fun h=>⟨fun k h1 h2=>by omega,h⟩,fun h=>h.2⟩⟩
  ·intro i hi ih;obtain ⟨b,h1,h2⟩:=ih;obtain ⟨s1,s2⟩:=hstep i hi;by_cases hg:good i
   ·refine ⟨b,(s1 hg).trans h1,h2.trans ⟨fun h=>⟨fun k k1 k2=>?_,h.2⟩,fun h=>⟨fun k k1 k2=>h.1 k (by omega) k2,h.2⟩⟩⟩;by_cases e:k=i
    ·subst e; exact hg
    ·exact h.1 k (by omega) k2
   ·refine ⟨false,s2 hg,?_⟩;simp only [QD,false_iff,not_and];intro h;exact absurd (h i (by omega) hi) hg
 obtain ⟨b,h1,h2⟩:=key 0 (by omega);exact ⟨b,h1,h2.trans ⟨fun h=>⟨fun k hk=>h.1 k (by omega) hk,h.2⟩,fun h=>⟨fun k _ hk=>h.1 k hk,h.2⟩⟩⟩
theorem cNq {a b:Bool} {P Q:Prop} (h1:a=true↔P) (h2:b=true↔Q) (h:P↔Q):a=b:=by
 rw [QS]; exact h1.trans (h.trans h2.symm)
theorem aOf {γ:Type} {L M:Int→Option γ} (hstep:∀ i,i<n→L ((i+1:Nat):Int)=M ((i+1:Nat):Int)→(∃ r,L ((i+1:Nat):Int)=some r)→L (i:Nat)=M (i:Nat)∧∃ r,L (i:Nat)=some r)
  (hend:L (n:Nat)=M (n:Nat)∧∃ r,L (n:Nat)=some r):L 0=M 0∧∃ r,L 0=some r:=by
 have key:∀ i,i≤n→L (i:Nat)=M (i:Nat)∧∃ r,L (i:Nat)=some r :=
  eO hend fun i hi ih=>hstep i hi ih.1 ih.2
 exact key 0 (by omega)
theorem aQh (s:List UInt8):pX s=oH s∧∃ b,oH s=some b∧(b=true↔1≤s.length∧s.length≤20):=by
 unfold pX oH fT;simp only [QB,QA];refine ⟨by simp,_,rfl,?_⟩;by_cases h1:(1:Int)≤(s.length:Int)
 ·simp [h1]; omega
 ·simp [h1]; omega
theorem bEx (t:bH) (s:List UInt8) (hl:t.cols.length≤1048576):aLe t s=aBh t s∧∃ r,aBh t s=some r:=by
 have:=aOf (n:=t.cols.length) (L:=fun i=>U0 t.cols s i) (M:=fun i=>O1 s t i) ?_ ?_
 ·unfold aLe aSv aBh;obtain ⟨h1,r,h2⟩:=this
  try simp only at h1 h2
  rw [← h1,h2];exact ⟨rfl,r,rfl⟩
 ·intro i hi h1 h2
  try dsimp only at h1 h2 ⊢
  rw [U0,O1];simp only [bU,bR hi,dL hi (by omega),hi,decide_true,if_true,aOc,QB,QA];by_cases hc:t.cols[i].name=s
  ·simp [hc]
  ·simp only [hc,decide_false,QD,if_false];exact ⟨h1,h2⟩
 ·try dsimp only
  rw [U0,O1];simp
theorem bMu (c:aX) (s:List UInt8) (hl:c.tables.length≤1048576):aIl c s=vV c s∧∃ r,vV c s=some r:=by
 have:=aOf (n:=c.tables.length) (L:=fun i=>O8 c.tables s i) (M:=fun i=>aAb s c i) ?_ ?_
 ·unfold aIl aO9 vV;obtain ⟨h1,r,h2⟩:=this
  try simp only at h1 h2
  rw [← h1,h2];exact ⟨rfl,r,rfl⟩
 ·intro i hi h1 h2
  try dsimp only at h1 h2 ⊢
  rw [O8,aAb];simp only [bU,bR hi,dL hi (by omega),hi,decide_true,if_true,aP4,QB,QA];by_cases hc:c.tables[i].name=s
  ·simp [hc]
  ·simp only [hc,decide_false,QD,if_false];exact ⟨h1,h2⟩
 ·try dsimp only
  rw [O8,aAb];simp
def uK (t:bH) (j:Nat):Prop:=∃ c,t.cols[j]?=some c∧(1≤c.name.length∧c.name.length≤20)∧(1≤c.type∧c.type≤3)∧aBh t c.name=some (j:Int)
def yG (t:bH):Prop:=(∀ j,j<t.cols.length→uK t j)∧((1≤t.name.length∧t.name.length≤20)∧1≤t.cols.length∧t.cols.length≤4)
theorem cJ6 (t:bH) (hl:t.cols.length≤1048576):∃ b,aJh t=some b∧(b=true↔yG t):=by
 unfold aJh yG;refine bEi (n:=t.cols.length) (L:=fun i=>aA9 t i) (good:=uK t) ?_ ?_
 ·intro i hi
  try dsimp only
  rw [aA9];obtain ⟨n1,b,n2,n3⟩:=aQh t.cols[i].name;obtain ⟨c1,k,c2⟩:=bEx t t.cols[i].name hl;simp only [bU,bR hi,dL hi (by omega),hi,decide_true,if_true,n1,n2,c1,c2,QB,QA];have hP:uK t i↔(1≤t.cols[i].name.length∧t.cols[i].name.length≤20)∧(1≤t.cols[i].type∧t.cols[i].type≤3)∧k=(i:Int):=by
   unfold uK;constructor
   ·rintro ⟨c,h1,h2,h3,h4⟩;rw [WG hi] at h1;simp only [QH] at h1; subst h1;rw [c2] at h4;exact ⟨h2,h3,by simpa using h4⟩
   ·rintro ⟨h2,h3,h4⟩;exact ⟨_,WG hi,h2,h3,by rw [c2,h4]⟩
  rw [hP,← n3];cases b with
  | false=>simp
  | true =>
   by_cases t1:t.cols[i].type<1
   ·simp [t1] <;> omega
   by_cases t3:3<t.cols[i].type
   ·simp [t1,t3] <;> omega
   by_cases hk:k=(i:Int)
   ·simp [t1,t3,hk] <;> omega
   ·simp [t1,t3,hk]
 ·try dsimp only
  rw [aA9];obtain ⟨n1,b,n2,n3⟩:=aQh t.name;simp only [bU,WN,decide_false,QD,if_false,n1,n2,QB,QA];refine ⟨_,rfl,?_⟩;rw [← n3];cases b with
  | false=>simp
  | true =>
   by_cases l1:(1:Int)≤(t.cols.length:Int)
   ·simp [l1] <;> omega
   ·simp [l1] <;> omega
def aG1 (c:aX):Prop:=(∀ i,i<c.tables.length→∃ t,c.tables[i]?=some t∧yG t∧vV c t.name=some (i:Int))∧c.tables.length≤4
def F9 (c:aX):Prop:=c.tables.length≤1048576∧∀ t∈c.tables,t.cols.length≤1048576
theorem aWy (c:aX) (hs:F9 c):∃ b,aC7 c=some b∧(b=true↔aG1 c):=by
 unfold aC7 aG1;refine bEi (n:=c.tables.length) (L:=fun i=>R4 c i) (good:=fun i=>∃ t,c.tables[i]?=some t∧yG t∧vV c t.name=some (i:Int)) ?_ ?_
 ·intro i hi
  try dsimp only
  rw [R4];obtain ⟨b,n2,n3⟩:=cJ6 c.tables[i] (hs.2 _ (QE hi));obtain ⟨c1,k,c2⟩:=bMu c c.tables[i].name hs.1;have:=hs.1;simp only [bU,bR hi,dL hi (by omega),hi,decide_true,if_true,n2,c1,c2,QB,QA];have hP:(∃ t,c.tables[i]?=some t∧yG t∧vV c t.name=some (i:Int))↔yG c.tables[i]∧k=(i:Int):=by
   constructor
   ·rintro ⟨t,h1,h2,h3⟩;rw [WG hi] at h1;simp only [QH] at h1; subst h1;rw [c2] at h3;exact ⟨h2,by simpa using h3⟩
   ·rintro ⟨h2,h3⟩;exact ⟨_,WG hi,h2,by rw [c2,h3]⟩
  rw [hP,← n3];cases b with
  | false=>simp
  | true =>
   by_cases hk:k=(i:Int)
   ·simp [hk]
   ·simp [hk]
 ·try dsimp only
  rw [R4];refine ⟨decide ((c.tables.length:Int)≤4),by simp,?_⟩;simp only [decide_eq_true_eq]; omega
theorem bOl (c:aX) (hs:F9 c):∃ b,aBw c=some b∧(b=true↔aG1 c):=by
 unfold aBw;by_cases h4:(4:Int)<(c.tables.length:Int)
 ·rw [if_pos (by simpa using h4)];refine ⟨false,rfl,?_⟩;unfold aG1;simp only [QD,false_iff,not_and];intro _; omega
 rw [if_neg (by simpa using h4)];have:=bEi (n:=c.tables.length) (L:=fun i=>K4 c i) (good:=fun i=>∃ t,c.tables[i]?=some t∧yG t∧vV c t.name=some (i:Int)) (KP:=True) ?_ ?_
 ·obtain ⟨b,h1,h2⟩:=this;exact ⟨b,h1,h2.trans ⟨fun h=>⟨h.1,by omega⟩,fun h=>⟨h.1,trivial⟩⟩⟩
 ·intro i hi
  try dsimp only
  rw [K4];obtain ⟨n1,b,n2,n3⟩:=aQh c.tables[i].name;obtain ⟨c1,k,c2⟩:=bMu c c.tables[i].name hs.1;have:=hs.1;have hcl:=hs.2 _ (QE hi);have inner:∀ (j:Nat),j≤c.tables[i].cols.length→((∀ m,j≤m→m<c.tables[i].cols.length→uK c.tables[i] m)→zU (i:Int) c c.tables[i] (j:Nat)=K4 c ((i+1:Nat):Int))∧(¬ (∀ m,j≤m→m<c.tables[i].cols.length→uK c.tables[i] m)→zU (i:Int) c c.tables[i] (j:Nat)=some false):=by
   refine eO ?_ ?_
   ·rw [zU];simp only [bU,WN,decide_false,QD,if_false,dL hi (by omega)];refine ⟨fun _=>trivial,fun h=>absurd (fun m h1 h2=>by omega) h⟩
   ·intro j hj ih;rw [zU];obtain ⟨_,b',m2,m3⟩:=aQh c.tables[i].cols[j].name;obtain ⟨_,k',d2⟩:=bEx c.tables[i] c.tables[i].cols[j].name hcl;simp only [bU,bR hj,dL hj (by omega),hj,decide_true,if_true,m2,d2,fT,QB,QA];have hP:uK c.tables[i] j↔b'=true∧(1≤c.tables[i].cols[j].type∧c.tables[i].cols[j].type≤3)∧k'=(j:Int):=by
     unfold uK;constructor
     ·rintro ⟨c',h1,h2,h3,h4⟩;rw [WG hj] at h1;simp only [QH] at h1; subst h1;rw [d2] at h4;exact ⟨m3.2 h2,h3,by simpa using h4⟩
     ·rintro ⟨h2,h3,h4⟩;exact ⟨_,WG hj,m3.1 h2,h3,by rw [d2,h4]⟩
    have hall:(∀ m,j≤m→m<c.tables[i].cols.length→uK c.tables[i] m)↔uK c.tables[i] j∧∀ m,j+1≤m→m<c.tables[i].cols.length→uK c.tables[i] m:=by
     constructor
     ·intro h; exact ⟨h j (by omega) hj,fun m h1 h2=>h m (by omega) h2⟩
     ·rintro ⟨h1,h2⟩ m h3 h4;by_cases e:m=j
      ·subst e; exact h1
      ·exact h2 m (by omega) h4
    rw [hall,hP];cases b' with
    | false=>simp
    | true =>
     by_cases hk:k'=(j:Int)
     ·by_cases t1:1≤c.tables[i].cols[j].type
      ·by_cases t3:c.tables[i].cols[j].type≤3
       ·have t3':¬ 3<c.tables[i].cols[j].type:=by omega
        simpa [hk,t1,t3,t3',d2] using ih
       ·simp [hk,t1,t3,d2]
      ·simp [hk,t1,d2]
     ·simp [hk,d2]
  obtain ⟨i1,i2⟩:=inner 0 (by omega);rw [show ((0:Nat):Int)=0 from rfl] at i1 i2;simp only [bU,bR hi,dL hi (by omega),hi,decide_true,if_true,n2,c2,fT,QB,QA];have hP:(∃ t,c.tables[i]?=some t∧yG t∧vV c t.name=some (i:Int))↔yG c.tables[i]∧k=(i:Int):=by
   constructor
   ·rintro ⟨t,h1,h2,h3⟩;rw [WG hi] at h1;simp only [QH] at h1; subst h1;rw [c2] at h3;exact ⟨h2,by simpa using h3⟩
   ·rintro ⟨h2,h3⟩;exact ⟨_,WG hi,h2,by rw [c2,h3]⟩
  rw [hP];unfold yG;rw [← n3];cases b with
  | false=>simp
  | true =>
   by_cases hk:k=(i:Int)
   ·by_cases l1:(1:Int)≤(c.tables[i].cols.length:Int)
    ·by_cases l4:(c.tables[i].cols.length:Int)≤4
     ·have l1':1≤c.tables[i].cols.length:=by omega
      have l4':c.tables[i].cols.length≤4:=by omega
      simp only [hk,l1,l4,l1',l4'];simp only [Nat.zero_le,true_implies] at i1 i2;simpa using And.intro i1 (fun (x:Nat) (hx:x<c.tables[i].cols.length) (hn:¬ uK c.tables[i] x)=>i2 fun h=>hn (h x hx))
     ·have l4':¬ c.tables[i].cols.length≤4:=by omega
      simp [hk,l1,l4,l4']
    ·have l1':¬ 1≤c.tables[i].cols.length:=by omega
     simp [hk,l1,l1']
   ·simp [hk]
 ·try dsimp only
  rw [K4];exact ⟨true,by simp,by simp⟩
def mF (t:bH):List Int:=t.cols.map bP.type
theorem bJ6 (t:bH) (hl:t.cols.length≤1048576):aAh t=some (mF t)∧J3 t=some (mF t):=by
 have key:∀ i,i≤t.cols.length→∀ l:List Int,l.length≤i→wH t l (i:Nat)=some (l++(t.cols.drop i).map bP.type)∧uU t l (i:Nat)=some (l++(t.cols.drop i).map bP.type):=by
  refine eO ?_ ?_
  ·intro l _;rw [wH,uU]; simp
  ·intro i hi ih l hl2;rw [wH,uU];have ea:appG 8 l [t.cols[i].type]=some (l++[t.cols[i].type]):=by unfold appG; rw [if_pos (by simp; omega)]
   simp only [bU,bR hi,dL hi (by omega),hi,decide_true,if_true,ea,QB,QA];have:=ih (l++[t.cols[i].type]) (by simp; omega);rw [QF hi,QN];simpa using this
 unfold aAh J3 mF;have:=key 0 (by omega) [] (by simp);simpa using this
def gG (c:aX):List Int→List Int→List Int×Bool
 | acc,[]=>(acc,true)
 | acc,i::l=>if 0≤i∧i<(c.tables.length:Int) then gG c (acc++mF (c.tables[i.toNat]?.getD default)) l else ([],false)
def sH (c:aX):Prop:=c.tables.length≤4∧∀ t∈c.tables,t.cols.length≤4∧∀ x∈mF t,okT x
theorem aJn (c:aX) (hc:sH c) (l:List Int) (hl:l.length≤1048576):aH5 c l=some (gG c [] l)∧aD9 c l=some (gG c [] l):=by
 have key:∀ i,i≤l.length→∀ acc:List Int,acc.length≤4 * i→L6 l c acc (i:Nat)=some (gG c acc (l.drop i))∧V5 l c acc (i:Nat)=some (gG c acc (l.drop i)):=by
  refine eO ?_ ?_
  ·intro acc _;rw [L6,V5]; simp [gG]
  ·intro i hi ih acc ha;rw [L6,V5,QF hi,gG];have hw:QC .i64 ((c.tables.length:Int) - 1)=(c.tables.length:Int) - 1:=by have:=hc.1; exact cZ (by omega) (by omega)
   unfold fT;simp only [bU,bR hi,dL hi (by omega),hi,decide_true,if_true,hw,QB,QA];by_cases h0:0≤l[i]
   ·by_cases h1:l[i]<(c.tables.length:Int)
    ·have n0:¬ l[i]<0:=by omega
     have n1:¬ (c.tables.length:Int)≤l[i]:=by omega
     have n2:l[i]≤(c.tables.length:Int) - 1:=by omega
     have hj:l[i].toNat<c.tables.length:=by omega
     have hx:idx c.tables l[i]=some c.tables[l[i].toNat]:=by
      have:=bR hj
      rwa [show ((l[i].toNat:Nat):Int)=l[i] by omega] at this
     obtain ⟨t1,t2⟩:=hc.2 _ (QE hj);obtain ⟨e1,e2⟩:=bJ6 c.tables[l[i].toNat] (by omega);have tl:(mF c.tables[l[i].toNat]).length≤4:=by unfold mF; simpa using t1
     have ea:appG 8 acc (mF c.tables[l[i].toNat])=some (acc++mF c.tables[l[i].toNat]):=by unfold appG; rw [if_pos (by omega)]
     have hg:c.tables[l[i].toNat]?.getD default=c.tables[l[i].toNat]:=by simp [hj]
     have hp:0≤l[i]∧l[i]<(c.tables.length:Int):=⟨h0,h1⟩
     rw [if_pos hp,hg];simp only [h0,n0,n1,n2,hx,e1,e2,ea,decide_true,decide_false,if_true,if_false,QD,QG,QA];exact ih _ (by rw [QI]; omega)
    ·have n1:(c.tables.length:Int)≤l[i]:=by omega
     have n2:¬ l[i]≤(c.tables.length:Int) - 1:=by omega
     have hn:¬ (0≤l[i]∧l[i]<(c.tables.length:Int)):=by omega
     rw [if_neg hn];simp [h0,n1,n2]
   ·have n0:l[i]<0:=by omega
    have hn:¬ (0≤l[i]∧l[i]<(c.tables.length:Int)):=by omega
    rw [if_neg hn];simp [h0,n0]
 unfold aH5 aD9;have:=key 0 (by omega) [] (by simp);simpa using this
theorem bBt (c:aX) (hc:sH c):∀ (l acc:List Int),(∀ x∈acc,okT x)→(∀ x∈(gG c acc l).1,okT x)∧(gG c acc l).1.length≤acc.length+4 * l.length
 | [],acc,h=>⟨h,by simp [gG]⟩
 | i::l,acc,h=>by
  rw [gG];split
  ·rename_i hi;have hj:i.toNat<c.tables.length:=by omega
   have hg:c.tables[i.toNat]?.getD default=c.tables[i.toNat]:=by simp [hj]
   rw [hg];obtain ⟨t1,t2⟩:=hc.2 _ (QE hj);have tl:(mF c.tables[i.toNat]).length≤4:=by unfold mF; simpa using t1
   obtain ⟨a1,a2⟩:=bBt c hc l (acc++mF c.tables[i.toNat]) (fun x hx=>by
    rcases QV.1 hx with hx | hx
    ·exact h x hx
    ·exact t2 x hx)
   exact ⟨a1,by rw [QI] at a2; simp only [WI]; omega⟩
  ·exact ⟨by simp,by simp⟩
theorem bOo (c:aX):∀ (l acc:List Int),(gG c acc l).2=true↔∀ i∈l,0≤i∧i<(c.tables.length:Int)
 | [],acc=>by simp [gG]
 | i::l,acc=>by
  rw [gG];split
  ·rename_i hi;rw [bOo c l];simp [hi]
  ·rename_i hi;simp only [QD,false_iff];intro h;exact hi (h i (by simp))
def vP (p:aQ):Bool:=(decide (1≤p.tables.length)&&decide (p.tables.length≤3))&&decide (p.on_.length=p.tables.length)&&decide ((p.on_[0]?.getD []).length=0)&&decide (p.where_.length≤1)&&decide (p.order.length≤12)&&(decide (1≤p.items.length)&&decide (p.items.length≤12))&&decide (p.names.length=p.items.length)&&decide (-1≤p.limit)
def onB (p:aQ):Bool:=p.on_.all fun l=>decide (l.length≤1)
def nmB (s:List UInt8):Bool:=decide (1≤s.length)&&decide (s.length≤20)
theorem cDc (s:List UInt8):pX s=some (nmB s):=by
 unfold pX nmB;by_cases h:1≤s.length <;> by_cases h2:s.length≤20 <;> simp [h,h2] <;> omega
theorem cBf (s:List UInt8):oH s=some (nmB s):=by
 unfold oH fT nmB;by_cases h:1≤s.length <;> by_cases h2:s.length≤20 <;> simp [h,h2] <;> omega
theorem onI (l:List (List aJ)) (hl:l.length≤1048576):aK3 l=some (!l.all fun l=>decide (l.length≤1)):=by
 have key:∀ i,i≤l.length→∃ k:Int,K5 l (i:Nat)=some k∧decide (0≤k)=!(l.drop i).all fun l=>decide (l.length≤1):=by
  refine eO ?_ ?_
  ·rw [K5];exact ⟨-1,by simp,by simp⟩
  ·intro i hi ih;rw [K5,QF hi];simp only [bU,bR hi,dL hi (by omega),hi,decide_true,if_true,aMp,QB,QA,WZ];by_cases h:l[i].length≤1
   ·have h1:¬ (1:Int)<(l[i].length:Int):=by omega
    simpa [h,h1] using ih
   ·have h1:(1:Int)<(l[i].length:Int):=by omega
    exact ⟨(i:Int),by simp [h1],by simp [h]⟩
 obtain ⟨k,h1,h2⟩:=key 0 (by omega);rw [show ((0:Nat):Int)=0 from rfl] at h1;rw [aK3,aQn,h1];simpa using h2
theorem nmI (l:List (List UInt8)) (hl:l.length≤1048576):aJw l=some (!l.all nmB):=by
 have key:∀ i,i≤l.length→∃ k:Int,X5 l (i:Nat)=some k∧decide (0≤k)=!(l.drop i).all nmB:=by
  refine eO ?_ ?_
  ·rw [X5];exact ⟨-1,by simp,by simp⟩
  ·intro i hi ih;rw [X5,QF hi];simp only [bU,bR hi,dL hi (by omega),hi,decide_true,if_true,aJ2,cDc,QB,QA,WZ];cases h:nmB l[i] with
   | true=>simpa using ih
   | false=>exact ⟨(i:Int),by simp,by simp⟩
 obtain ⟨k,h1,h2⟩:=key 0 (by omega);rw [show ((0:Nat):Int)=0 from rfl] at h1;rw [aJw,aNm,h1];simpa using h2
theorem cO4 (c:aX) (hc:sH c) (p:aQ) (hn:p.names.length≤1048576) (ht:p.tables.length≤1048576):D5 c p 0=some (p.names.all nmB&&(gG c [] p.tables).2):=by
 have key:∀ i,i≤p.names.length→D5 c p (i:Nat)=some ((p.names.drop i).all nmB&&(gG c [] p.tables).2):=by
  refine eO ?_ ?_
  ·rw [D5]; simp [(aJn c hc p.tables ht).2]
  ·intro i hi ih;rw [D5,QF hi,WZ];simp only [bU,bR hi,dL hi (by omega),hi,decide_true,if_true,cBf,ih,QB,QA];cases nmB p.names[i] <;> simp
 simpa using key 0 (by omega)
theorem cMw (c:aX) (hc:sH c) (p:aQ) (ho:p.on_.length≤1048576) (hn:p.names.length≤1048576) (ht:p.tables.length≤1048576):yY c p 0=some (onB p&&(p.names.all nmB&&(gG c [] p.tables).2)):=by
 have key:∀ i,i≤p.on_.length→yY c p (i:Nat)=some (((p.on_.drop i).all fun l=>decide (l.length≤1))&&(p.names.all nmB&&(gG c [] p.tables).2)):=by
  refine eO ?_ ?_
  ·rw [yY]; simp [cO4 c hc p hn ht]
  ·intro i hi ih;rw [yY,QF hi,WZ];simp only [bU,bR hi,dL hi (by omega),hi,decide_true,if_true,ih,QB,QA];by_cases h:p.on_[i].length≤1
   ·have h1:¬ (1:Int)<(p.on_[i].length:Int):=by omega
    simp [h,h1]
   ·have h1:(1:Int)<(p.on_[i].length:Int):=by omega
    simp [h,h1]
 unfold onB;simpa using key 0 (by omega)
theorem bO8 (c:aX) (hc:sH c) (p:aQ) (ho:p.on_.length≤1048576) (hn:p.names.length≤1048576) (ht:p.tables.length≤1048576) :
  aJj c p=some (vP p&&(onB p&&(p.names.all nmB&&(gG c [] p.tables).2)))∧aKv p=some (vP p&&(onB p&&p.names.all nmB)):=by
 unfold aJj aKv fT vP;simp only [cMw c hc p ho hn ht,onI p.on_ ho,nmI p.names hn,QB,QA];have hon:(!p.on_.all fun l=>decide (l.length≤1))=!onB p:=rfl;rw [hon];generalize onB p=b1;generalize p.names.all nmB=b2;generalize (gG c [] p.tables).2=b3;by_cases t1:1≤p.tables.length
 case neg =>
  have c1:¬ (1:Int)≤(p.tables.length:Int):=by omega
  have c2:(p.tables.length:Int)<1:=by omega
  simp only [t1,c1,c2,decide_true,decide_false,if_true,if_false,QG,QT,QD,WA,QA,beq_self_eq_true];simp
 by_cases t2:p.tables.length≤3
 case neg =>
  have c1:¬ (p.tables.length:Int)≤3:=by omega
  have c2:(3:Int)<(p.tables.length:Int):=by omega
  simp [t2,c1,c2]
 by_cases t3:p.on_.length=p.tables.length
 case neg =>
  have c1:¬ (p.on_.length:Int)=(p.tables.length:Int):=by omega
  simp [t3,c1]
 have a1:(1:Int)≤(p.tables.length:Int):=by omega
 have a2:(p.tables.length:Int)≤3:=by omega
 have a3:¬ (p.tables.length:Int)<1:=by omega
 have a4:¬ (3:Int)<(p.tables.length:Int):=by omega
 have a5:(p.on_.length:Int)=(p.tables.length:Int):=by omega
 have h0:0<p.on_.length:=by omega
 have hi:idx p.on_ 0=some p.on_[0]:=bR h0;have hg:p.on_[0]?.getD []=p.on_[0]:=by simp [h0]
 rw [hg,hi];generalize p.on_[0]=l0;have e0:decide ((0:Int)<(l0.length:Int))=!decide (l0.length=0):=by rw [QS]; simp only [WP,decide_eq_true_eq,decide_eq_false_iff_not]; omega
 have e1:decide ((1:Int)<(p.where_.length:Int))=!decide (p.where_.length≤1):=by rw [QS]; simp only [WP,decide_eq_true_eq,decide_eq_false_iff_not]; omega
 have e2:decide ((12:Int)<(p.order.length:Int))=!decide (p.order.length≤12):=by rw [QS]; simp only [WP,decide_eq_true_eq,decide_eq_false_iff_not]; omega
 have e3:decide ((1:Int)≤(p.items.length:Int))=decide (1≤p.items.length):=by rw [QS]; simp only [decide_eq_true_eq]; omega
 have e4:decide ((p.items.length:Int)≤12)=decide (p.items.length≤12):=by rw [QS]; simp only [decide_eq_true_eq]; omega
 have e5:decide ((p.names.length:Int)=(p.items.length:Int))=decide (p.names.length=p.items.length):=by rw [QS]; simp only [decide_eq_true_eq]; omega
 have e6:decide (p.limit < -1)=!decide (-1≤p.limit):=by rw [QS]; simp only [WP,decide_eq_true_eq,decide_eq_false_iff_not]; omega
 simp only [a1,a2,a3,a4,a5,t1,t2,t3,e0,e1,e2,e3,e4,e5,e6,decide_true,decide_false,if_true,if_false,QG,QT,QD,beq_self_eq_true,WO,QP,QA];generalize decide (l0.length=0)=x0;generalize decide (p.where_.length≤1)=x1;generalize decide (p.order.length≤12)=x2;generalize decide (1≤p.items.length)=x3;generalize decide (p.items.length≤12)=x4;generalize decide (p.names.length=p.items.length)=x5;generalize decide (-1≤p.limit)=x6;cases x0 <;> cases x1 <;> cases x2 <;> cases x3 <;> cases x4 <;> cases x5 <;> cases x6 <;> cases b1 <;> cases b2 <;> exact ⟨rfl,rfl⟩
def TyE (c:aX) (env:List (List Int)) (e:aJ):Prop:=∃ r:Int×Bool,qI c env e=some r∧X0 c env e=some r∧okT r.1
def PlE (c:aX) (env:List (List Int)) (p:aQ):Prop:=∃ r:List Int×Bool,yA c env p=some r∧aGu c env p=some r∧∀ x∈r.1,okT x
def X8 (env:List (List Int)):Prop:=∀ row∈env,row.length≤4194304∧∀ x∈row,okT x
theorem okT0:okT 0:=⟨by omega,by omega⟩
theorem okT3:okT 3:=⟨by omega,by omega⟩
theorem bH1 (c:aX) (env:List (List Int)) (l:List aJ) (hl:l.length≤1048576) (H:∀ e∈l,TyE c env e):∃ b,yL c env l=some b∧aG3 c env l=some b:=by
 have key:∀ i,i≤l.length→∃ (k:Int) (b:Bool),xW l c env (i:Nat)=some k∧aCs env l c (i:Nat)=some b∧decide (0≤k)=!b:=by
  refine eO ?_ ?_
  ·rw [xW,aCs];exact ⟨-1,true,by simp,by simp,by simp⟩
  ·intro i hi ih;rw [xW,aCs];obtain ⟨r,h1,h2,h3⟩:=H _ (QE hi);obtain ⟨t,e1⟩:=aM5 r.1;simp only [bU,hi,decide_true,if_true,bR hi,dL hi (by omega),aJ4,h1,h2,aRp,e1,QB,QA];cases hr:r.2
   ·exact ⟨(i:Int),false,by simp,by simp,by simp⟩
   ·cases t
    ·exact ⟨(i:Int),false,by simp,by simp,by simp⟩
    ·simpa using ih
 obtain ⟨k,b,h1,h2,h3⟩:=key 0 (by omega);rw [show ((0:Nat):Int)=0 from rfl] at h1 h2;rw [yL,aM9,aJ1,h1,aG3,h2];exact ⟨b,by simp [h3],rfl⟩
theorem aS3 (row:List Int) (env:List (List Int)) (h:env.length≤4194304):aHd row env=some (row::env)∧aG6 row env=some (row::env):=by
 have e:appG 24 ([row]:List (List Int)) env=some (row::env):=by unfold appG; rw [if_pos (by simp; omega)]; rfl
 unfold aHd aG6;rw [e]; exact ⟨rfl,rfl⟩
theorem bVt (c:aX) (env:List (List Int)) (e:aJ) (hk:e.kids.length≤1048576) (H:∀ k∈e.kids,TyE c env k) :
  (qG env e c [] 0=some (0,false)∧qN env c e [] 0=some (0,false))∨∃ acc:List Int,acc.length=e.kids.length∧(∀ x∈acc,okT x)∧qG env e c [] 0=oO env acc e c [] 0∧qN env c e [] 0=qN env c e acc (e.kids.length:Int):=by
 have key:∀ i,i≤e.kids.length→∀ acc:List Int,acc.length=i→(∀ x∈acc,okT x)→(qG env e c acc (i:Nat)=some (0,false)∧qN env c e acc (i:Nat)=some (0,false))∨∃ a:List Int,a.length=e.kids.length∧(∀ x∈a,okT x)∧qG env e c acc (i:Nat)=oO env a e c [] 0∧qN env c e acc (i:Nat)=qN env c e a (e.kids.length:Int):=by
  refine eO ?_ ?_
  ·intro acc ha hx;right;refine ⟨acc,ha,hx,?_,rfl⟩;rw [qG];simp
  ·intro i hi ih acc ha hx;obtain ⟨r,h1,h2,h3⟩:=H _ (QE hi);have ea:appG 8 acc [r.1]=some (acc++[r.1]):=by unfold appG; rw [if_pos (by simp; omega)]
   have f1:qG env e c acc (i:Nat)=if (!r.2)=true then some (0,false) else qG env e c (acc++[r.1]) ((i+1:Nat):Int):=by
    rw [qG];simp only [bU,hi,decide_true,if_true,bR hi,dL hi (by omega),h1,ea,QB,QA]
   have f2:qN env c e acc (i:Nat)=if (!r.2)=true then some (0,false) else qN env c e (acc++[r.1]) ((i+1:Nat):Int):=by
    rw [qN];simp only [bU,hi,decide_true,if_true,bR hi,dL hi (by omega),h2,ea,QB,QA]
   rw [f1,f2];cases hr:r.2
   ·left; exact ⟨by simp,by simp⟩
   ·have:=ih (acc++[r.1]) (by simp [ha]) (by intro x hx2; rcases QV.1 hx2 with h | h; exact hx x h; simp at h; rw [h]; exact h3);simpa using this
 simpa using key 0 (by omega) [] rfl (by simp)
theorem aQb {α:Type} {l:List α} (h:0<l.length):idx l 0=some l[0]:=bR h
theorem bOv {α:Type} {l:List α} (h:1<l.length):idx l 1=some l[1]:=bR h
theorem bR8 (l:List Int) (h:l.length≤4194304):aK2 l=some l:=by
 unfold aK2;by_cases h0:l=[]
 ·simp [h0]
 ·have e:appG 8 ([]:List Int) l=some l:=by unfold appG; rw [if_pos (by simp; omega)]; simp
  have h1:¬ (l.length:Int)=0:=by
   have:=List.length_pos_iff.2 h0;omega
  simp [h1,e]
theorem aYm (a b:List Int) (ha:a.length≤1000000) (hb:b.length≤1000) (oa:∀ x∈a,okT x) (ob:∀ x∈b,okT x):∃ m:Bool,O5 (a++b)=some m∧M9 a b false=some (if m=true then 3 else 0,m):=by
 obtain ⟨r,h1,h2⟩:=cNj (a++b) (by simp; omega) (by intro x hx; rcases QV.1 hx with h | h; exact oa x h; exact ob x h);refine ⟨r.2,h2,?_⟩;have e:appG 8 a b=some (a++b):=by unfold appG; rw [if_pos (by omega)]
 unfold M9;rw [bR8 a (by omega)];simp only [e,h1,QD,if_false,QB,QA];cases r.2 <;> simp
theorem cMl (c:aX) (env:List (List Int)) (hv:X8 env) (hl:env.length≤4194304) (e:aJ) (hk:e.kids.length≤1048576) (hs:e.sub.length≤1048576) (H:∀ k∈e.kids,TyE c env k) (HP:∀ p∈e.sub,PlE c env p):TyE c env e:=by
  unfold TyE
  obtain ⟨b,s1,i1,hf⟩:=aWm e hk hs
  rw [qI,X0,s1,i1]
  simp only [QB,QA]
  cases b with
  | false=>exact ⟨(0,false),by simp,by simp,okT0⟩
  | true =>
  simp only [QG,QD,if_false]
  have hF:=hf rfl
  by_cases k2:e.kind=2
  · have hk0:e.kids.length=0:=by
      rcases hF with h | h | h | h | h | h | h | h | h <;> first | exact h.2.1 | (exact absurd h.1 (by omega))
    rw [if_pos (by simpa using k2),qN]
    have n1:¬ e.kind=1:=by omega
    have hw:QC .i64 ((env.length:Int) - 1)=(env.length:Int) - 1:=cZ (by omega) (by omega)
    unfold fT
    simp only [hk0,k2,n1,hw,decide_true,decide_false,if_true,if_false,QD,QB,QA,Int.reduceEq]
    by_cases u0:0≤e.up
    case neg => exact ⟨(0, false), by have : e.up < 0 := by omega
                                      simp [this],by simp [u0],okT0⟩
    by_cases u1:e.up<(env.length:Int)
    case neg => exact ⟨(0, false), by have : (env.length : Int) ≤ e.up := by omega
                                      simp [this], by have : ¬ e.up ≤ (env.length : Int) - 1 := by omega
                                                      simp [u0,this],okT0⟩
    have hj:e.up.toNat<env.length:=by omega
    have hx:idx env e.up=some env[e.up.toNat]:=by
      have:=bR hj
      rwa [show ((e.up.toNat:Nat):Int)=e.up by omega] at this
    obtain ⟨r1,r2⟩:=hv _ (QE hj)
    have a1:¬ e.up<0:=by omega
    have a2:¬ (env.length:Int)≤e.up:=by omega
    have a3:e.up≤(env.length:Int) - 1:=by omega
    have hw2:QC .i64 ((env[e.up.toNat].length:Int) - 1)=(env[e.up.toNat].length:Int) - 1:=cZ (by omega) (by omega)
    simp only [u0,a1,a2,a3,hx,hw2,decide_true,decide_false,if_true,if_false,QG,QD,beq_self_eq_true,WO,QA,QP]
    by_cases t0:0≤e.at_
    case neg => exact ⟨(0, false), by have : e.at_ < 0 := by omega
                                      simp [this],by simp [t0],okT0⟩
    by_cases t1:e.at_<(env[e.up.toNat].length:Int)
    case neg => exact ⟨(0, false), by have h1 : (env[e.up.toNat].length : Int) ≤ e.at_ := by omega
                                      have h2:¬ e.at_<0:=by omega
                                      simp [h1, h2], by have : ¬ e.at_ ≤ (env[e.up.toNat].length : Int) - 1 := by omega
                                                        simp [t0,this],okT0⟩
    have hj2:e.at_.toNat<env[e.up.toNat].length:=by omega
    have hx2:idx env[e.up.toNat] e.at_=some env[e.up.toNat][e.at_.toNat]:=by
      have:=bR hj2
      rwa [show ((e.at_.toNat:Nat):Int)=e.at_ by omega] at this
    have b1:¬ e.at_<0:=by omega
    have b2:¬ (env[e.up.toNat].length:Int)≤e.at_:=by omega
    have b3:e.at_≤(env[e.up.toNat].length:Int) - 1:=by omega
    exact ⟨(env[e.up.toNat][e.at_.toNat],true),by simp [b1,b2,hx2],by simp [t0,b3,hx2],r2 _ (QE hj2)⟩
  rw [if_neg (by simpa using k2)]
  rcases bVt c env e hk H with ⟨h1,h2⟩ | ⟨acc,ha,hx,h1,h2⟩
  · exact ⟨(0,false),h1,h2,okT0⟩
  rw [h1,h2,qN,oO]
  have nk:decide ((e.kids.length:Int)<(e.kids.length:Int))=false:=by simp
  simp only [nk,k2,decide_false,QD,if_false]
  rcases hF with ⟨k,f1,f2,f3⟩ | ⟨k,f1⟩ | ⟨k,f1,f2⟩ | ⟨k,f1,f2⟩ | ⟨k,f1,f2⟩ | ⟨k,f1,f2⟩ | ⟨k,⟨f1,f3⟩,f2⟩ | ⟨k,f1,f2⟩ | ⟨k,f1,f2⟩
  · refine ⟨(e.value.kind,true),?_,?_,f3⟩
    · unfold tC; simp [f2,k]
    · simp [k]
  · exact absurd k k2
  · obtain ⟨r,r1,r2,r3⟩:=cOo e.op (acc[0]'(by omega))
    refine ⟨r,?_,?_,r3⟩
    · unfold tC; simp [f2,k,aQb (show 0<acc.length by omega),r1]
    · simp [k,aQb (show 0<acc.length by omega),r2]
  · obtain ⟨r,r1,r2,r3⟩:=cJo e.op (acc[0]'(by omega)) (acc[1]'(by omega)) (hx _ (QE _)) (hx _ (QE _))
    refine ⟨r,?_,?_,r3⟩
    · unfold tC; simp [f2,k,aQb (show 0<acc.length by omega),bOv (show 1<acc.length by omega),r1]
    · simp [k,aQb (show 0<acc.length by omega),bOv (show 1<acc.length by omega),r2]
  · refine ⟨(3,true),?_,?_,okT3⟩
    · unfold tC M9; simp [f2,k]
    · unfold xG; simp [f2,k]
  · obtain ⟨m,m1,m2⟩:=aYm acc [] (by omega) (by simp) hx (by simp)
    refine ⟨(if m=true then 3 else 0,m),?_,?_,by cases m; exact okT0; exact okT3⟩
    · unfold tC; simp [f2,k,m2]
    · rw [WV] at m1
      unfold xG rD; cases m <;> simp [f2,k,m1]
  · obtain ⟨m,m1,m2⟩:=aYm acc [] (by omega) (by simp) hx (by simp)
    refine ⟨(if m=true then 3 else 0,m),?_,?_,by cases m; exact okT0; exact okT3⟩
    · unfold tC; simp [f2,k,m2]
    · rw [WV] at m1
      unfold xG rD; cases m <;> simp [f2,k,m1]
  · obtain ⟨p,hp⟩:∃ p,e.sub=[p]:=by
      match hh:e.sub,f2 with
      | [p],_=>exact ⟨p,rfl⟩
    obtain ⟨r,r1,r2,r3⟩:=HP p (by rw [hp]; simp)
    have ip:idx e.sub 0=some p:=by rw [hp]; rfl
    rw [ip]
    simp only [f2,k,r1,r2,QB,QA]
    obtain ⟨out,ok⟩:=r
    cases ok with
    | false=>exact ⟨(0,false),by simp,by simp,okT0⟩
    | true =>
    by_cases ho:out.length=1
    case neg =>
      have h3:¬ (out.length:Int)=1:=by omega
      exact ⟨(0,false),by simp [h3],by simp [h3],okT0⟩
    obtain ⟨t,ht⟩:∃ t,out=[t]:=by
      match out,ho with
      | [t],_=>exact ⟨t,rfl⟩
    subst ht
    have iw:QC .i64 (0+1)=1:=rfl
    have i0:idx [t] 0=some t:=rfl
    have ea:appG 8 acc [t]=some (acc++[t]):=by unfold appG; rw [if_pos (by simp; omega)]
    obtain ⟨m,m1,m2⟩:=aYm acc [t] (by omega) (by simp) hx (by intro x hx2; exact r3 x hx2)
    have h8:¬ e.kind=1:=by omega
    refine ⟨(if m=true then 3 else 0,m),?_,?_,by cases m; exact okT0; exact okT3⟩
    · rw [iw,oO]
      unfold tC
      simp [f2,k,m2]
    · unfold xG rD; cases m <;> simp [k,i0,ea,m1]
  · obtain ⟨p,hp⟩:∃ p,e.sub=[p]:=by
      match hh:e.sub,f2 with
      | [p],_=>exact ⟨p,rfl⟩
    obtain ⟨r,r1,r2,r3⟩:=HP p (by rw [hp]; simp)
    have ip:idx e.sub 0=some p:=by rw [hp]; rfl
    rw [ip]
    simp only [f2,k,r1,r2,QB,QA]
    obtain ⟨out,ok⟩:=r
    cases ok with
    | false=>exact ⟨(0,false),by simp,by simp,okT0⟩
    | true =>
    have iw:QC .i64 (0+1)=1:=rfl
    have ha0:acc=[]:=XP (by omega)
    subst ha0
    have hm:O5 []=some true:=by unfold O5; rw [F8]; simp
    refine ⟨(3,true),?_,?_,okT3⟩
    · simp only [iw]
      rw [oO]
      unfold tC M9
      simp [f2,k]
    · unfold xG rD; simp [k,hm]
theorem aMs {α:Type} {l:List α} (h:n≤l.length):gY l 0 (n:Int)=some (l.take n):=by
 unfold gY;rw [if_pos (by omega)];simp
theorem cG2 (c:aX) (env:List (List Int)) (p:aQ) (hn:p.items.length≤1048576) (H:∀ e∈p.items,TyE c env e):∃ r:List Int×Bool,uT env p c [] 0=some r∧zA env c p [] 0=some r∧∀ x∈r.1,okT x:=by
 have key:∀ i,i≤p.items.length→∀ acc:List Int,acc.length=i→(∀ x∈acc,okT x)→∃ r:List Int×Bool,uT env p c acc (i:Nat)=some r∧zA env c p acc (i:Nat)=some r∧∀ x∈r.1,okT x:=by
  refine eO ?_ ?_
  ·intro acc _ hx;rw [uT,zA];exact ⟨(acc,true),by simp,by simp,hx⟩
  ·intro i hi ih acc ha hx;obtain ⟨r,h1,h2,h3⟩:=H _ (QE hi);have ea:appG 8 acc [r.1]=some (acc++[r.1]):=by unfold appG; rw [if_pos (by simp; omega)]
   rw [uT,zA];simp only [bU,hi,decide_true,if_true,bR hi,dL hi (by omega),h1,h2,ea,QB,QA];cases hr:r.2
   ·exact ⟨([],false),by simp,by simp,by simp⟩
   ·have:=ih (acc++[r.1]) (by simp [ha]) (by intro x hx2; rcases QV.1 hx2 with h | h; exact hx x h; simp at h; rw [h]; exact h3);simpa using this
 simpa using key 0 (by omega) [] rfl (by simp)
theorem cAa (c:aX) (env:List (List Int)) (p:aQ) (hn:p.items.length≤1048576) (ho:p.order.length≤1048576) (H:∀ e∈p.items,TyE c env e) (HO:∀ k∈p.order,TyE c env k.expr):∃ r:List Int×Bool,wN env p c 0=some r∧aAl env c p 0=some r∧∀ x∈r.1,okT x:=by
 have key:∀ i,i≤p.order.length→∃ r:List Int×Bool,wN env p c (i:Nat)=some r∧aAl env c p (i:Nat)=some r∧∀ x∈r.1,okT x:=by
  refine eO ?_ ?_
  ·rw [wN,aAl];simpa using cG2 c env p hn H
  ·intro i hi ih;obtain ⟨r,h1,h2,h3⟩:=HO _ (QE hi);rw [wN,aAl];simp only [bU,hi,decide_true,if_true,bR hi,dL hi (by omega),h1,h2,QB,QA];cases hr:r.2
   ·exact ⟨([],false),by simp,by simp,by simp⟩
   ·simpa using ih
 simpa using key 0 (by omega)
theorem bJh {row:List Int} {env:List (List Int)} (hr:row.length≤4194304) (hx:∀ x∈row,okT x) (hv:X8 env):X8 (row::env):=by
 intro r h;rcases QL.1 h with rfl | h
 ·exact ⟨hr,hx⟩
 ·exact hv r h
theorem cHc (c:aX) (hc:sH c) (env:List (List Int)) (hv:X8 env) (hl:env.length<4194304) (p:aQ) (ho:p.on_.length≤1048576) (hn:p.names.length≤1048576) (ht:p.tables.length≤1048576)
  (H:∀ env',X8 env'→env'.length=env.length+1→(∀ l∈p.on_,∀ e∈l,TyE c env' e)∧(∀ e∈p.where_,TyE c env' e)∧(∀ k∈p.order,TyE c env' k.expr)∧(∀ e∈p.items,TyE c env' e)):PlE c env p:=by
 unfold PlE;obtain ⟨f1,f2⟩:=bO8 c hc p ho hn ht;obtain ⟨r1,r2⟩:=aJn c hc p.tables ht;rw [yA,aGu,f1,f2,r1];simp only [QB,QA];cases hr:(gG c [] p.tables).2 with
 | false=>exact ⟨([],false),by simp,by simp,by simp⟩
 | true =>
 cases hP:vP p with
 | false=>exact ⟨([],false),by simp,by simp,by simp⟩
 | true =>
 cases hO:onB p with
 | false=>exact ⟨([],false),by simp,by simp,by simp⟩
 | true =>
 cases hN:p.names.all nmB with
 | false=>exact ⟨([],false),by simp,by simp,by simp⟩
 | true =>
 simp only [QG,QP,WO,beq_self_eq_true,if_true,QD,if_false,QA];have hB:p.tables.length≤3∧p.on_.length=p.tables.length∧p.where_.length≤1∧p.order.length≤12∧p.items.length≤12:=by
  unfold vP at hP;simp only [QJ,decide_eq_true_eq] at hP;omega
 obtain ⟨b1,b2,b3,b4,b5⟩:=hB;have hO1:∀ l∈p.on_,l.length≤1:=by
  unfold onB at hO;simpa using hO
 obtain ⟨q1,q2⟩:=bBt c hc p.tables [] (by simp);simp only [WJ] at q2;obtain ⟨w1,w2⟩:=aS3 (gG c [] p.tables).1 env (by omega);obtain ⟨-,m2,m3,m4⟩:=H ((gG c [] p.tables).1::env) (bJh (by omega) q1 hv) (by simp);have key:∀ i,i≤p.on_.length→∃ r:List Int×Bool,yJ env (gG c [] p.tables) p c (i:Nat)=some r∧aCb env c p (i:Nat)=some r∧∀ x∈r.1,okT x:=by
  refine eO ?_ ?_
  ·obtain ⟨t,t1,t2⟩:=bH1 c ((gG c [] p.tables).1::env) p.where_ (by omega) m2;rw [yJ,aCb];simp only [bU,WN,decide_false,QD,if_false,r2,w1,w2,t1,t2,QB,QA];cases t
   ·exact ⟨([],false),by simp,by simp,by simp⟩
   ·simpa using cAa c _ p (by omega) (by omega) m4 m3
  ·intro i hi ih;obtain ⟨a1,a2⟩:=bBt c hc (p.tables.take (i+1)) [] (by simp);simp only [WJ] at a2;obtain ⟨a3,a4⟩:=aJn c hc (p.tables.take (i+1)) (by rw [XB]; omega);have a5:(p.tables.take (i+1)).length≤3:=by rw [XB]; omega
   obtain ⟨a6,a7⟩:=aS3 (gG c [] (p.tables.take (i+1))).1 env (by omega);obtain ⟨a8,-⟩:=H ((gG c [] (p.tables.take (i+1))).1::env) (bJh (by omega) a1 hv) (by simp);obtain ⟨t,t1,t2⟩:=bH1 c _ p.on_[i] (by have:=hO1 _ (QE hi); omega) (a8 _ (QE hi));have hs:gY p.tables 0 ((i+1:Nat):Int)=some (p.tables.take (i+1)):=aMs (by omega);rw [yJ,aCb];simp only [bU,hi,decide_true,if_true,bR hi,dL hi (by omega),hs,a3,a4,a6,a7,t1,t2,QB,QA];cases t
   ·exact ⟨([],false),by simp,by simp,by simp⟩
   ·simpa using ih
 simpa using key 0 (by omega)
theorem bKe (c:aX) (hc:sH c):∀ n:Nat,(∀ (e:aJ) (env:List (List Int)),bI e<n→n≤1048577→X8 env→env.length+n≤4000000→TyE c env e)∧(∀ (p:aQ) (env:List (List Int)),dW p<n→n≤1048577→X8 env→env.length+n≤4000000→PlE c env p)
 | 0=>⟨fun _ _ h=>absurd h (by omega),fun _ _ h=>absurd h (by omega)⟩
 | n+1=>by
  obtain ⟨i1,i2⟩:=bKe c hc n;refine ⟨fun e env he hn hv hl=>?_,fun p env hp hn hv hl=>?_⟩
  ·have:=bFi e;exact cMl c env hv (by omega) e (by omega) (by omega) (fun k hk=>i1 k env (by have:=aJm hk; have:=QZ hk; omega) (by omega) hv (by omega)) fun p hp=>i2 p env (by have:=aIk hp; have:=QZ hp; omega) (by omega) hv (by omega)
  ·have:=aM8 p;refine cHc c hc env hv (by omega) p (by omega) (by omega) (by omega) fun env' hv' hl'=>⟨fun l hm e he=>i1 e env' ?_ (by omega) hv' (by omega),fun e he=>i1 e env' ?_ (by omega) hv' (by omega),fun k hk=>i1 k.expr env' ?_ (by omega) hv' (by omega),fun e he=>i1 e env' ?_ (by omega) hv' (by omega)⟩
   ·have:=onZ hm he; have:=QZ he; omega
   ·have:=bMd he; have:=QZ he; omega
   ·have:=bGo hk; have:=QZ hk; omega
   ·have:=bIp he; have:=QZ he; omega
theorem bZc (c:aX) (hc:sH c) (p:aQ) (env:List (List Int)) (hz:dW p≤1048576) (hv:X8 env) (hl:env.length≤1000):PlE c env p:=(bKe c hc (dW p+1)).2 p env (by omega) (by omega) hv (by omega)
theorem aVq {c:aX} (h:aG1 c):sH c:=by
 refine ⟨h.2,fun t ht=>?_⟩;obtain ⟨i,hi,rfl⟩:=XQ ht;obtain ⟨t,h1,⟨h2,h3⟩,-⟩:=h.1 i hi;rw [WG hi] at h1;simp only [QH] at h1; subst h1;refine ⟨h3.2.2,fun x hx=>?_⟩;unfold mF at hx;obtain ⟨k,hk,rfl⟩:=WL.1 hx;obtain ⟨j,hj,rfl⟩:=XQ hk;obtain ⟨k,k1,-,k2,-⟩:=h2 j hj;rw [WG hj] at k1;simp only [QH] at k1; subst k1;exact ⟨by omega,k2.2⟩
theorem summed {α γ:Type} {p:List α} {f:α→Option Int} {s:α→Int} {L:Int→Int→Option γ} {K:Int→Option γ} (hp:p.length≤1048576)
  (hf:∀ y∈p,f y=some (s y)∧0≤s y)
  (hL:∀ (i:Nat) (x:Int),L x (i:Int)=if (decide ((i:Int)<(p.length:Int)))=true then ((idx p (i:Int))>>=fun y=>(f y)>>=fun z=>L (QC .i64 (x+z)) (QC .i64 ((i:Int)+1))) else K x) :
  ∀ x:Int,0≤x→x+(p.map s).sum≤9223372036854775807→L x 0=K (x+(p.map s).sum):=by
 have nn:∀ l:List α,(∀ y∈l,0≤s y)→0≤(l.map s).sum:=by
  intro l
  induction l with
  | nil=>intro _; simp
  | cons y l ih=>intro h; have h1:=h y (by simp); have h2:=ih fun z hz=>h z (by simp [hz]); simp only [QN,WQ]; omega
 have key:∀ i,i≤p.length→∀ x:Int,0≤x→x+((p.drop i).map s).sum≤9223372036854775807→L x (i:Nat)=K (x+((p.drop i).map s).sum):=by
  refine eO ?_ ?_
  ·intro x _ _;rw [hL]; simp
  ·intro i hi ih x h0 hx;obtain ⟨f1,f2⟩:=hf _ (QE hi);have hn:=nn (p.drop (i+1)) fun y hy=>(hf y (List.mem_of_mem_drop hy)).2;rw [QF hi] at hx ⊢;simp only [QN,WQ] at hx ⊢;rw [hL,bR hi,dL hi (by omega)];simp only [bU,hi,decide_true,if_true,f1,QB,QA];rw [cZ (by omega) (by omega),ih _ (by omega) (by omega),Int.add_assoc]
 intro x h0 hx;simpa using key 0 (by omega) x h0 (by simpa using hx)
theorem aPe {α:Type} {s:α→Int}:∀ l:List α,(∀ y∈l,0≤s y)→0≤(l.map s).sum
 | [],_=>by simp
 | y::l,h=>by have h1:=h y (by simp); have h2:=aPe l fun z hz=>h z (by simp [hz]); simp only [QN,WQ]; omega
theorem aDc {α:Type} {s:α→Int} {z:α→Nat}:∀ l:List α,(∀ y∈l,s y≤(z y:Int)+1)→(l.map s).sum≤(zL z l:Int)
 | [],_=>by simp [zL]
 | y::l,h=>by
  have h1:=h y (by simp); have h2:=aDc l fun w hw=>h w (by simp [hw]);unfold zL at *;simp only [QN,WQ,WI] at *; omega
def mx {α:Type} (d:α→Int) (l:List α) (x:Int):Int:=l.foldl (fun b y=>if d y>b then d y else b) x
theorem aVc (a b:Int):xC a b=some (if b>a then b else a):=by
 unfold xC;by_cases h:b<a
 ·have:¬ a<b:=by omega
  simp [h,this]
 ·by_cases h2:a<b
  ·simp [h,h2]
  ·have:a=b:=by omega
   subst this; simp
def iZ (p:aQ):List aJ:=p.on_.flatMap (fun l=>l)++p.where_++p.order.flatMap (fun k=>[k.expr])++p.items
theorem bJr {α β:Type} {f:α→List β} {z:α→Nat}:∀ l:List α,(∀ y∈l,(f y).length≤z y+1)→(l.flatMap f).length≤zL z l
 | [],_=>by simp [zL]
 | y::l,h=>by
  have h1:=h y (by simp); have h2:=bJr l fun w hw=>h w (by simp [hw]);unfold zL at *;simp only [WH,QI,QN,WQ,WI] at *; omega
theorem aWf (l:List bD):(l.flatMap fun k=>[k.expr])=l.map fun k=>k.expr:=by
 induction l with
 | nil=>rfl
 | cons x l ih=>rw [WH,ih]; rfl
theorem bJy (p:aQ):(iZ p).length≤dW p:=by
 have h1:=K7 p;have h2:=bJr (f:=fun l:List aJ=>l) (z:=zL bI) p.on_ fun y _=>by have:=kJ (z:=bI) y; omega
 have h3:=kJ (z:=bI) p.where_;have h4:=kJ (z:=bI) p.items;unfold iZ;simp only [QI,aWf,WW];omega
theorem aPb {p:aQ} (h:e∈iZ p):bI e<dW p:=by
 unfold iZ at h;simp only [QV,WX,List.mem_singleton] at h;rcases h with ((⟨l,h1,h2⟩ | h) | ⟨k,h1,rfl⟩) | h
 ·have:=onZ h1 h2; have:=QZ h2; omega
 ·have:=bMd h; have:=QZ h; omega
 ·have:=bGo h1; have:=QZ h1; omega
 ·have:=bIp h; have:=QZ h; omega
theorem bKj {s:aJ→Int}:∀ l:List (List aJ),(∀ r∈l,∀ y∈r,s y≤(bI y:Int)+1)→((l.flatMap (fun r=>r)).map s).sum≤(zL (zL bI) l:Int)
  | [],_=>by simp [zL]
  | r::l,h=>by
    have h1:=aDc (s:=s) (z:=bI) r (h r (by simp)); have h2:=bKj (s:=s) l fun w hw=>h w (by simp [hw])
    rw [WH,XR,XS]
    have:(zL (zL bI) (r::l):Int)=1+zL bI r+zL (zL bI) l:=by unfold zL; simp only [WI,QN,WQ]; omega
    omega
theorem cKh {s:aJ→Int} (p:aQ) (h:∀ y∈iZ p,s y≤(bI y:Int)+1):((iZ p).map s).sum≤(dW p:Int):=by
 have h1:=K7 p;unfold iZ at *;have a1:=bKj (s:=s) p.on_ fun r hr y hy=>h y (by simp only [QV,WX]; exact .inl (.inl (.inl ⟨r,hr,hy⟩)));have a2:=aDc (s:=s) (z:=bI) p.where_ fun y hy=>h y (by simp only [QV]; exact .inl (.inl (.inr hy)));have a3:=aDc (s:=fun k:bD=>s k.expr) (z:=fun k=>bI k.expr) p.order fun y hy=>h y.expr (by rw [aWf]; simp only [QV,WL]; exact .inl (.inr ⟨y,hy,rfl⟩));have a4:=aDc (s:=s) (z:=bI) p.items fun y hy=>h y (by simp only [QV]; exact .inr hy);rw [aWf];simp only [XR,XS,XC];have:(p.order.map (s ∘ fun k=>k.expr))=p.order.map fun k:bD=>s k.expr:=rfl;rw [this];unfold zL at a3;omega
theorem aAo {l m:List aJ} (h:l.length+m.length≤4194304):appG 120 l m=some (l++m):=nT (by omega)
theorem parts_eq (p:aQ) (hz:dW p≤1048576):aHo p=some (iZ p)∧aEd p=some (iZ p):=by
 have hl:=aM8 p;have hp:=bJy p;unfold iZ at hp;simp only [QI] at hp;have o1:∀ acc:List aJ,acc.length+(p.order.flatMap fun k=>[k.expr]).length+p.items.length≤4194304→F3 p acc 0=some (acc++(p.order.flatMap fun k=>[k.expr])++p.items):=by
  intro acc ha;rw [gather (p:=p.order) (f:=fun k=>[k.expr]) (c:=4194304) (G:=fun y acc=>appG 120 acc ([y.expr]:List aJ)) (L:=fun acc i=>F3 p acc i) (K:=fun x=>(appG 120 x p.items)>>=fun (y7:List aJ)=>some y7) (by omega) (fun y _ acc h=>aAo h) (fun i acc=>by rw [F3]) acc (by omega)];rw [aAo (by rw [QI]; omega)]; rfl
 have o2:∀ acc:List aJ,acc.length+(p.order.flatMap fun k=>[k.expr]).length+p.items.length≤4194304→C9 p acc 0=some (acc++(p.order.flatMap fun k=>[k.expr])++p.items):=by
  intro acc ha;rw [gather (p:=p.order) (f:=fun k=>[k.expr]) (c:=4194304) (G:=fun y acc=>appG 120 acc ([y.expr]:List aJ)) (L:=fun acc i=>C9 p acc i) (K:=fun x=>(appG 120 x p.items)>>=fun (y7:List aJ)=>some y7) (by omega) (fun y _ acc h=>aAo h) (fun i acc=>by rw [C9]) acc (by omega)];rw [aAo (by rw [QI]; omega)]; rfl
 constructor
 ·rw [aHo,gather (p:=p.on_) (f:=fun l=>l) (c:=4194304) (G:=fun y acc=>appG 120 acc y) (L:=fun acc i=>aDk p acc i) (K:=fun x=>(appG 120 x p.where_)>>=fun (y3:List aJ)=>F3 p y3 0) (by omega) (fun y _ acc h=>aAo h) (fun i acc=>by rw [aDk]) [] (by simp only [WJ]; omega)];rw [aAo (by simp only [QO]; omega)];simp only [QB,QA,QO];rw [o1 _ (by simp only [QI]; omega)]; rfl
 ·rw [aEd,gather (p:=p.on_) (f:=fun l=>l) (c:=4194304) (G:=fun y acc=>appG 120 acc y) (L:=fun acc i=>aCt p acc i) (K:=fun x=>(appG 120 x p.where_)>>=fun (y3:List aJ)=>C9 p y3 0) (by omega) (fun y _ acc h=>aAo h) (fun i acc=>by rw [aCt]) [] (by simp only [WJ]; omega)];rw [aAo (by simp only [QO]; omega)];simp only [QB,QA,QO];rw [o2 _ (by simp only [QI]; omega)]; rfl
def dE (e:aJ):Int:=(V6 e).getD 0
def sE (e:aJ):Int:=(yZ e).getD 0
def dP (p:aQ):Int:=(J4 p).getD 0
def sP (p:aQ):Int:=(zB p).getD 0
def DsE (e:aJ):Prop:=V6 e=some (dE e)∧I8 e=some (dE e)∧yZ e=some (sE e)∧zV e=some (sE e)∧0≤sE e∧sE e≤(bI e:Int)+1
def DsP (p:aQ):Prop:=J4 p=some (dP p)∧aBg p=some (dP p)∧zB p=some (sP p)∧aCy p=some (sP p)∧0≤sP p∧sP p≤(dW p:Int)
theorem bH2 (l:List aJ) (hl:l.length≤1048576) (H:∀ e∈l,DsE e) (x:Int):aBd l x 0=some (mx dE l x)∧aB6 l x 0=some (mx dE l x):=by
 constructor
 ·exact folded (p:=l) (g:=fun y b=>(V6 y)>>=fun z=>some (if z>b then z else b)) (h:=fun y b=>if dE y>b then dE y else b) (L:=fun b i=>aBd l b i) (K:=fun b=>some b) hl (fun y hy b=>by rw [(H y hy).1]; rfl) (fun i b=>by rw [aBd]; simp only [QB,WU,QA]) x
 ·exact folded (p:=l) (g:=fun y b=>(I8 y)>>=fun z=>xC b z) (h:=fun y b=>if dE y>b then dE y else b) (L:=fun b i=>aB6 l b i) (K:=fun b=>some b) hl (fun y hy b=>by rw [(H y hy).2.1]; exact aVc _ _) (fun i b=>by rw [aB6]; simp only [QB,WU]) x
theorem bP8 (l:List aJ) (hl:l.length≤1048576) (hz:(l.map sE).sum≤4194304) (H:∀ e∈l,DsE e):aI1 l=some ((l.map sE).sum)∧aAz l 0 0=some ((l.map sE).sum):=by
 constructor
 ·rw [aI1,summed (p:=l) (f:=yZ) (s:=sE) (L:=fun x i=>aH0 l x i) (K:=fun x=>some x) hl (fun y hy=>⟨(H y hy).2.2.1,(H y hy).2.2.2.2.1⟩) (fun i x=>by rw [aH0]) 0 (by omega) (by omega)];simp
 ·rw [summed (p:=l) (f:=zV) (s:=sE) (L:=fun x i=>aAz l x i) (K:=fun x=>some x) hl (fun y hy=>⟨(H y hy).2.2.2.1,(H y hy).2.2.2.2.1⟩) (fun i x=>by rw [aAz]) 0 (by omega) (by omega)];simp
theorem bSl (p:aQ) (hz:dW p≤1048576) (H:∀ e∈iZ p,DsE e):DsP p:=by
 obtain ⟨p1,p2⟩:=parts_eq p hz;have hl:=bJy p;have hs:=cKh (s:=sE) p fun y hy=>(H y hy).2.2.2.2.2;have hn:=aPe (s:=sE) (iZ p) fun y hy=>(H y hy).2.2.2.2.1;obtain ⟨a1,a2⟩:=bH2 _ (by omega) H 0;obtain ⟨b1,b2⟩:=bP8 _ (by omega) (by omega) H;have e1:J4 p=some (mx dE (iZ p) 0):=by rw [J4,p1]; simp only [QB,QA,aGx,a1]
 have e2:zB p=some (((iZ p).map sE).sum):=by rw [zB,p1]; simp only [QB,QA,b1]
 have d1:dP p=mx dE (iZ p) 0:=by unfold dP; rw [e1]; rfl
 have d2:sP p=((iZ p).map sE).sum:=by unfold sP; rw [e2]; rfl
 unfold DsP;rw [d1,d2];exact ⟨e1,by rw [aBg,p2]; exact a2,e2,by rw [aCy,p2]; exact b2,hn,hs⟩
theorem cG5 (e:aJ) (hz:bI e≤1048576) (HK:∀ k∈e.kids,DsE k) (HS:∀ p∈e.sub,DsP p):DsE e:=by
 have hl:=bFi e;have hzz:=aDm e;have s1:=aDc (s:=sE) (z:=bI) e.kids fun y hy=>(HK y hy).2.2.2.2.2;have s2:=aDc (s:=sP) (z:=dW) e.sub fun y hy=>by have:=(HS y hy).2.2.2.2.2; omega
 have n1:=aPe (s:=sE) e.kids fun y hy=>(HK y hy).2.2.2.2.1;have n2:=aPe (s:=sP) e.sub fun y hy=>(HS y hy).2.2.2.2.1;obtain ⟨a1,-⟩:=bH2 e.kids (by omega) HK 0;obtain ⟨b1,-⟩:=bP8 e.kids (by omega) (by omega) HK;have e1:V6 e=some (QC .i64 (1+mx dP e.sub (mx dE e.kids 0))):=by
  rw [V6,aGx,a1];exact folded (p:=e.sub) (g:=fun y b=>(J4 y)>>=fun z=>some (if z>b then z else b)) (h:=fun y b=>if dP y>b then dP y else b) (L:=fun b i=>aCk e b i) (K:=fun b=>some (QC .i64 (1+b))) (by omega) (fun y hy b=>by rw [(HS y hy).1]; rfl) (fun i b=>by rw [aCk]; simp only [QB,WU,QA]) _
 have e2:I8 e=some (QC .i64 (1+mx dP e.sub (mx dE e.kids 0))):=by
  rw [I8,folded (p:=e.kids) (g:=fun y b=>(I8 y)>>=fun z=>xC b z) (h:=fun y b=>if dE y>b then dE y else b) (L:=fun b i=>aFk e b i) (K:=fun b=>P6 e b 0) (by omega) (fun y hy b=>by rw [(HK y hy).2.1]; exact aVc _ _) (fun i b=>by rw [aFk]; simp only [QB,WU]) 0];rw [Int.add_comm 1];exact folded (p:=e.sub) (g:=fun y b=>(aBg y)>>=fun z=>xC b z) (h:=fun y b=>if dP y>b then dP y else b) (L:=fun b i=>P6 e b i) (K:=fun b=>some (QC .i64 (b+1))) (by omega) (fun y hy b=>by rw [(HS y hy).2.1]; exact aVc _ _) (fun i b=>by rw [P6]; simp only [QB,WU]) _
 have e3:yZ e=some (1+(e.kids.map sE).sum+(e.sub.map sP).sum):=by
  rw [yZ,b1];simp only [QB,QA];rw [cZ (by omega) (by omega)];exact summed (p:=e.sub) (f:=zB) (s:=sP) (L:=fun x i=>aCm e x i) (K:=fun x=>some x) (by omega) (fun y hy=>⟨(HS y hy).2.2.1,(HS y hy).2.2.2.2.1⟩) (fun i x=>by rw [aCm]) _ (by omega) (by omega)
 have e4:zV e=some (1+(e.kids.map sE).sum+(e.sub.map sP).sum):=by
  rw [zV,summed (p:=e.kids) (f:=zV) (s:=sE) (L:=fun x i=>aG4 e x i) (K:=fun x=>aAd e x 0) (by omega) (fun y hy=>⟨(HK y hy).2.2.2.1,(HK y hy).2.2.2.2.1⟩) (fun i x=>by rw [aG4]) 1 (by omega) (by omega)];exact summed (p:=e.sub) (f:=aCy) (s:=sP) (L:=fun x i=>aAd e x i) (K:=fun x=>some x) (by omega) (fun y hy=>⟨(HS y hy).2.2.2.1,(HS y hy).2.2.2.2.1⟩) (fun i x=>by rw [aAd]) _ (by omega) (by omega)
 have d1:dE e=QC .i64 (1+mx dP e.sub (mx dE e.kids 0)):=by unfold dE; rw [e1]; rfl
 have d2:sE e=1+(e.kids.map sE).sum+(e.sub.map sP).sum:=by
  have:sE e=(yZ e).getD 0:=rfl;rw [this,e3]; rfl
 unfold DsE;rw [← d1] at e1 e2;rw [← d2] at e3 e4;exact ⟨e1,e2,e3,e4,by omega,by omega⟩
theorem bEs:∀ n:Nat,(∀ e:aJ,bI e<n→bI e≤1048576→DsE e)∧(∀ p:aQ,dW p<n→dW p≤1048576→DsP p)
 | 0=>⟨fun _ h=>absurd h (by omega),fun _ h=>absurd h (by omega)⟩
 | n+1=>by
  obtain ⟨i1,i2⟩:=bEs n;exact ⟨fun e he hz=>cG5 e hz (fun k hk=>i1 k (by have:=aJm hk; have:=QZ hk; omega) (by have:=aJm hk; omega)) fun p hp=>i2 p (by have:=aIk hp; have:=QZ hp; omega) (by have:=aIk hp; omega),
   fun p hp hz=>bSl p hz fun e he=>i1 e (by have:=aPb he; omega) (by have:=aPb he; omega)⟩
theorem bG8 (p:aQ) (hz:dW p≤1048576):DsP p:=(bEs _).2 p (Nat.lt_succ_self _) hz
theorem bH6 (c:aX) (hs:F9 c) (p:aQ) (hz:dW p≤1048576):∃ b,aAx c p=some b∧aEb c p=some b:=by
 obtain ⟨a,a1,a2⟩:=aWy c hs;obtain ⟨b,b1,b2⟩:=bOl c hs;have hab:a=b:=by rw [QS,a2,b2]
 subst hab;obtain ⟨d1,d2,d3,d4,-⟩:=bG8 p hz;unfold aAx aEb aJe;simp only [a1,b1,d1,d2,d3,d4,QB,QA];cases a with
 | false=>exact ⟨false,by simp,by simp⟩
 | true =>
 obtain ⟨r,r1,r2,r3⟩:=bZc c (aVq (a2.1 rfl)) p [] hz (by intro r hr; simp at hr) (by simp);have q1:decide (24<dP p)=!decide (dP p≤24):=by rw [QS]; simp only [WP,decide_eq_true_eq,decide_eq_false_iff_not]; omega
 have q2:decide (200<sP p)=!decide (sP p≤200):=by rw [QS]; simp only [WP,decide_eq_true_eq,decide_eq_false_iff_not]; omega
 rw [r1,r2];simp only [q1,QG,beq_self_eq_true,WO,if_true,if_false,QD,QA];generalize decide (dP p≤24)=x;cases x with
 | false=>exact ⟨false,by simp,by simp⟩
 | true =>
 simp only [QG,beq_self_eq_true,WO,if_true,if_false,QD,QA,q2];generalize decide (sP p≤200)=y;cases y with
 | false=>exact ⟨false,by simp,by simp⟩
 | true=>exact ⟨r.2,by simp,by simp⟩
def Yes {α:Type} (m:Option α) (Q:α→Prop):Prop:=∃ r,m=some r∧Q r
theorem Yes.bind {α β:Type} {m:Option α} {k:α→Option β} {Q:α→Prop} {R:β→Prop} (h:Yes m Q) (hk:∀ x,Q x→Yes (k x) R):Yes (m>>=k) R:=by
 obtain ⟨x,e,hx⟩:=h;obtain ⟨r,e2,hr⟩:=hk x hx;exact ⟨r,by rw [e]; exact e2,hr⟩
theorem Yes.some {α:Type} {x:α} {Q:α→Prop} (h:Q x):Yes (some x) Q:=⟨x,rfl,h⟩
theorem Yes.mono {α:Type} {m:Option α} {Q R:α→Prop} (h:Yes m Q) (hk:∀ x,Q x→R x):Yes m R:=by
 obtain ⟨x,e,hx⟩:=h; exact ⟨x,e,hk x hx⟩
theorem Yes.ite {α:Type} {c:Prop} [Decidable c] {m m':Option α} {Q:α→Prop} (h:c→Yes m Q) (h':¬ c→Yes m' Q):Yes (if c then m else m') Q:=by
 split
 ·exact h (by assumption)
 ·exact h' (by assumption)
def CR (c:aX):Prop:=(1≤c.tables.length∧c.tables.length≤3)∧∀ t∈c.tables,(1≤t.cols.length∧t.cols.length≤3)∧∀ x∈mF t,okT x
theorem CR.cat {c:aX} (h:CR c):sH c:=⟨by have:=h.1; omega,fun t ht=>⟨by have:=(h.2 t ht).1; omega,(h.2 t ht).2⟩⟩
theorem aCg (b:Bool):qD b=wP b:=by
 cases b <;> rfl
theorem wK (b:Bool):wP b=some ⟨3,if b then 1 else 0,[]⟩:=by
 cases b <;> rfl
theorem aQd (x:aA):qB x=kT x:=by
 unfold qB kT fT;simp only [QB,QA];split
 ·rfl
 split
 ·rfl
 split
 ·rfl
 split
 ·congr 1;have:(if (decide (x.num=0))=true then true else (decide (x.num=1)))=(if (decide (0≤x.num))=true then (decide (x.num≤1)) else false):=by
   simp only [decide_eq_true_eq,Bool.if_true_left,Bool.if_false_right,Bool.decide_eq_true];by_cases h0:x.num=0
   ·simp [h0]
   ·by_cases h1:x.num=1
    ·simp [h1]
    ·simp [h0,h1]; omega
  rw [this]
 ·rfl
theorem bZ9 (a b c:Int):aKf [a,b,c]=some (if a≠0 then a else if b≠0 then b else c):=by
 have w1:QC .i64 (0+1)=1:=by decide
 have w2:QC .i64 (1+1)=2:=by decide
 have w3:QC .i64 (2+1)=3:=by decide
 unfold aKf;rw [H7];rw [w1,H7];rw [w2,H7];rw [w3,H7];simp only [idx];by_cases ha:a=0 <;> by_cases hb:b=0 <;> by_cases hc:c=0 <;> simp [ha,hb,hc]
theorem cKj (a b:Int):aGs a b=some (if a<b then -1 else if b<a then 1 else 0):=by
 unfold aGs aI7;simp only [QB,QA,decide_true,QG,QD,if_false,decide_eq_true_eq];split
 ·rfl
 ·split <;> rfl
theorem cDt (a b:List UInt8):aLh a b=some (if Op.bytesLess a b=true then -1 else if (!(Op.bytesLess a b||decide (a=b)))=true then 1 else 0):=by
 unfold aLh aMq;simp only [QB,QA,decide_true,QG,QD,if_false];split
 ·rfl
 ·split <;> rfl
theorem bEb (x y:aA):aEp x y=rY x y:=by
 unfold aEp rY;simp only [QB,cKj,cDt,bZ9,QA,decide_eq_true_eq];by_cases h1:x.kind<y.kind
 ·simp [h1]
 by_cases h2:y.kind<x.kind
 ·simp [h1,h2]
 by_cases h3:x.num<y.num
 ·simp [h1,h2,h3]
 by_cases h4:y.num<x.num
 ·simp [h1,h2,h3,h4]
 simp only [h1,h2,h3,h4,if_false,ne_eq,not_true_eq_false];split
 ·rfl
 ·split <;> rfl
theorem bZz (k:Int) (hk:k≤8) (x:aA):Z8 k x=some true:=by
 unfold Z8;simp [hk]
theorem aEx (x:aA):uV x=some (decide (x.kind=0)):=rfl
theorem aYu (x:aA) (k:Int):uY x k=some (decide (x.kind=k)||decide (x.kind=0)):=by
 unfold uY;simp only [aEx];by_cases h:x.kind=k <;> simp [h]
theorem aU8 (x:aA):∃ b,kT x=some b:=by
 rw [← aQd];unfold qB
 repeat (split; exact ⟨_,rfl⟩)
 exact ⟨_,rfl⟩
theorem bJa (x y:aA):∃ b,rY x y=some b:=by
 unfold rY
 repeat (split; exact ⟨_,rfl⟩)
 exact ⟨_,rfl⟩
def gvE (x u:aA):Bool:=(decide (x.kind=u.kind))&&((decide (x.num=u.num))&&((decide (x.text=u.text))&&true))
theorem bKi (x u:aA):((decide (x.kind=u.kind))&&((decide (x.num=u.num))&&((decide (x.text=u.text))&&true)))=gvE x u:=by rw [gvE]
def zG (k:Int) (x y:aA):aA×Int :=
 if (x.kind=3∨x.kind=0)∧(y.kind=3∨y.kind=0) then
  if gvE x ⟨3,if decide (k=1) then 1 else 0,[]⟩||gvE y ⟨3,if decide (k=1) then 1 else 0,[]⟩ then (⟨3,if decide (k=1) then 1 else 0,[]⟩,0) else if x.kind=0∨y.kind=0 then (⟨0,0,[]⟩,0) else (⟨3,if decide (k=2) then 1 else 0,[]⟩,0)
 else (⟨0,0,[]⟩,1)
theorem bP3 (k:Int) (x y:aA):aKm k x y=some (zG k x y):=by
 unfold aKm zG;simp only [aYu,aEx,wK,QB,QA,bKi];have n1:∀ u,gvE x u=false∨gvE x u=true:=fun u=>by cases gvE x u <;> simp
 have n2:∀ u,gvE y u=false∨gvE y u=true:=fun u=>by cases gvE y u <;> simp
 rcases n1 ⟨3,if decide (k=1)=true then 1 else 0,[]⟩ with e1 | e1 <;> rcases n2 ⟨3,if decide (k=1)=true then 1 else 0,[]⟩ with e2 | e2 <;> rw [e1,e2] <;> clear n1 n2 e1 e2
 all_goals
  by_cases a:x.kind=3 <;> by_cases b:x.kind=0 <;> by_cases c:y.kind=3 <;> by_cases d:y.kind=0 <;> simp_all
theorem bIb (k:Int) (x y:aA):aJk k x y=some (zG k x y):=by
 have w1:QC .i64 (0+1)=1:=by decide
 have w2:QC .i64 (1+1)=2:=by decide
 unfold aJk zG;rw [O9,w1,O9,w2,O9];simp only [aCg,wK,QB,QA,bKi,idx];have n1:∀ u,gvE x u=false∨gvE x u=true:=fun u=>by cases gvE x u <;> simp
 have n2:∀ u,gvE y u=false∨gvE y u=true:=fun u=>by cases gvE y u <;> simp
 rcases n1 ⟨3,if decide (k=1)=true then 1 else 0,[]⟩ with e1 | e1 <;> rcases n2 ⟨3,if decide (k=1)=true then 1 else 0,[]⟩ with e2 | e2 <;> rw [e1,e2] <;> clear n1 n2 e1 e2
 all_goals
  by_cases a:x.kind=3 <;> by_cases b:x.kind=0 <;> by_cases c:y.kind=3 <;> by_cases d:y.kind=0 <;> simp_all
def aKp (k o:Int):Bool:=if k=3 then decide (o=0) else if k=6 then decide (o≤0) else decide (0≤o)
theorem cEf (k:Int) (hk:k=3∨k=6∨k=8) (x y:aA) (o:Int) (ho:rY x y=some o):aCl k x y=some ⟨3,if aKp k o then 1 else 0,[]⟩:=by
 unfold aCl;rw [bEb,ho];rcases hk with rfl | rfl | rfl <;> simp [aCg,wK,aKp]
theorem cNr (k:Int) (hk:k=3∨k=6∨k=8) (o:Int):aC5 k o=some (aKp k o):=by
 unfold aC5;rcases hk with rfl | rfl | rfl <;> simp [aKp]
def tri (v:aA):Prop:=v=⟨0,0,[]⟩∨v=⟨3,0,[]⟩∨v=⟨3,1,[]⟩
theorem aKo (b:Bool):tri ⟨3,if b then 1 else 0,[]⟩:=by cases b <;> simp [tri]
theorem cM5 (k:Int) (hk:k=3∨k=6∨k=8) (x y:aA):∃ r,pY k x y=some r∧rP k x y=some r∧(r.2=0→tri r.1):=by
 obtain ⟨a,ha⟩:=aU8 x;obtain ⟨b,hb⟩:=aU8 y;obtain ⟨o,ho⟩:=bJa x y;have hk8:k≤8:=by omega
 have h1:¬ k<1:=by omega
 have h14:¬ 14<k:=by omega
 have h2:¬ k≤2:=by omega
 have h9:k≠9:=by omega
 have h10:k≠10:=by omega
 have h11:k≠11:=by omega
 have h12:k≠12:=by omega
 have h13:k≠13:=by omega
 have h14':k≠14:=by omega
 have h10':¬ 10≤k:=by omega
 have g1:1≤k:=by omega
 have g14:k≤14:=by omega
 unfold pY rP aGz fT aHv;simp only [aQd,ha,hb,ho,aEx,bZz k hk8,cEf k hk x y o ho,cNr k hk,wK,QB,QA,h1,h14,h2,h9,h10,h11,h12,h13,h14',h10',g1,g14,hk8];have hb:=aKo (aKp k o);have ht:tri ⟨0,0,[]⟩:=.inl rfl;by_cases e:x.kind=y.kind <;> by_cases c:x.kind=0 <;> by_cases d:y.kind=0 <;> cases a <;> cases b <;> simp_all
theorem bKl {x:aA} (h:tri x):kT x=some true:=by rcases h with rfl | rfl | rfl <;> decide
theorem bW9 (x y:aA) (hx:tri x) (hy:tri y):∃ r,pY 1 x y=some r∧rP 1 x y=some r∧r.2=0∧tri r.1:=by
 unfold pY rP fT;simp only [aQd,bKl hx,bKl hy,bP3,bIb,QB,QA];refine ⟨zG 1 x y,by simp,by simp,?_⟩;rcases hx with rfl | rfl | rfl <;> rcases hy with rfl | rfl | rfl <;> simp [zG,gvE,tri]
abbrev i0:Int := -9223372036854775808
abbrev i1:Int:=9223372036854775807
def v0:aA:=⟨0,0,[]⟩
def vBl (b:Bool):aA:=⟨3,if b then 1 else 0,[]⟩
theorem cCq (m:Int):∃ k:Int,QC .i64 m=m - k * 18446744073709551616∧i0≤QC .i64 m∧QC .i64 m≤i1:=by
 rw [YA];exact ⟨(m+9223372036854775808) / 18446744073709551616,by omega,by simp only [i0]; omega,by simp only [i1]; omega⟩
theorem bMo (hb:2≤b∨b ≤ -2) (ha:okI a) : -4611686018427387904≤a.tdiv b∧a.tdiv b≤4611686018427387904:=by
 have h:(a.tdiv b).natAbs=a.natAbs / b.natAbs:=Int.natAbs_tdiv a b;have h2:a.natAbs / b.natAbs≤a.natAbs / 2:=Nat.div_le_div_left (by omega) (by omega);have h3:=ha.1;have h4:=ha.2;omega
theorem bJc (ha:okI a) (hb:okI b) (h0:b≠0):(QC .i64 ((QC .i64 (a * b)).tdiv b)=a∧¬ (b = -1∧a=i0))↔okI (a * b):=by
 have a1:=ha.1;have a2:=ha.2;have b1:=hb.1;have b2:=hb.2;constructor
 ·rintro ⟨h,hn⟩;obtain ⟨k,hk,k1,k2⟩:=cCq (a * b);by_cases h2:2≤b∨b ≤ -2
  ·have hs:=bMo h2 (a:=QC .i64 (a * b)) ⟨k1,k2⟩;rw [cZ (by omega) (by omega)] at h;have e:=Int.mul_tdiv_add_tmod (QC .i64 (a * b)) b;rw [h,XW b a] at e;have l1:=XX (QC .i64 (a * b)) b;have l2:(QC .i64 (a * b)).natAbs % b.natAbs<b.natAbs:=Nat.mod_lt _ (by omega);have:k=0:=by omega
   subst this;have e3:a * b=QC .i64 (a * b):=by omega
   rw [e3]; exact ⟨k1,k2⟩
  ·have:b=1∨b = -1:=by omega
   rcases this with rfl | rfl
   ·rw [Int.mul_one]; exact ha
   ·have:a≠i0:=fun e=>hn ⟨rfl,e⟩;simp only [i0] at this;constructor <;> omega
 ·intro hm;rw [cZ hm.1 hm.2,Int.mul_tdiv_cancel _ h0,cZ ha.1 ha.2];refine ⟨rfl,?_⟩;rintro ⟨rfl,rfl⟩;have:=hm.2;simp only [i0] at this;omega
def pV (n:Int):Int×Bool:=if okI n then (n,true) else (0,false)
theorem addN (ha:okI a) (hb:okI b):aHa a b=some (pV (a+b)):=by
 have a1:=ha.1;have a2:=ha.2;have b1:=hb.1;have b2:=hb.2;unfold aHa pV;simp only [QB,QA,orB,rA,decide_eq_true_eq];by_cases h0:0<b
 ·have e:¬ b<0:=by omega
  rw [cZ (n:=9223372036854775807 - b) (by omega) (by omega)];by_cases h1:9223372036854775807 - b<a
  ·rw [if_neg (fun h:okI _=>by have:=h.2; omega)]; simp [h0,h1]
  ·rw [if_pos (show okI (a+b) from ⟨by omega,by omega⟩),cZ (n:=a+b) (by omega) (by omega)]; simp [h0,h1,e]
 ·by_cases h2:b<0
  ·rw [cZ (n := -9223372036854775808 - b) (by omega) (by omega)];by_cases h1:a < -9223372036854775808 - b
   ·rw [if_neg (fun h:okI _=>by have:=h.1; omega)]; simp [h0,h1,h2]
   ·rw [if_pos (show okI (a+b) from ⟨by omega,by omega⟩),cZ (n:=a+b) (by omega) (by omega)]; simp [h0,h1,h2]
  ·rw [if_pos (show okI (a+b) from ⟨by omega,by omega⟩),cZ (n:=a+b) (by omega) (by omega)]; simp [h0,h2]
theorem aRf (ha:okI a) (hb:okI b):aHb a b=some (pV (a - b)):=by
 have a1:=ha.1;have a2:=ha.2;have b1:=hb.1;have b2:=hb.2;unfold aHb pV;simp only [QB,QA,orB,rA,decide_eq_true_eq];by_cases h0:b<0
 ·have e:¬ 0<b:=by omega
  rw [cZ (n:=9223372036854775807+b) (by omega) (by omega)];by_cases h1:9223372036854775807+b<a
  ·rw [if_neg (fun h:okI _=>by have:=h.2; omega)]; simp [h0,h1]
  ·rw [if_pos (show okI (a - b) from ⟨by omega,by omega⟩),cZ (n:=a - b) (by omega) (by omega)]; simp [h0,h1,e]
 ·by_cases h2:0<b
  ·rw [cZ (n := -9223372036854775808+b) (by omega) (by omega)];by_cases h1:a < -9223372036854775808+b
   ·rw [if_neg (fun h:okI _=>by have:=h.1; omega)]; simp [h0,h1,h2]
   ·rw [if_pos (show okI (a - b) from ⟨by omega,by omega⟩),cZ (n:=a - b) (by omega) (by omega)]; simp [h0,h1,h2]
  ·rw [if_pos (show okI (a - b) from ⟨by omega,by omega⟩),cZ (n:=a - b) (by omega) (by omega)]; simp [h0,h2]
theorem cA8 (a b:Int):aNk a b=aHa a b:=rfl
theorem aY1 (a b:Int):aF4 a b=aHb a b:=rfl
theorem cJ7 (ha:okI a) (hb:okI b):aL7 a b=some (pV (a * b)):=by
 unfold aL7 pV yO;by_cases h0:a=0
 ·subst h0;have o:okI 0:=⟨by decide,by decide⟩
  simp [o]; decide
 ·have k:=bJc hb ha h0;rw [XW b a] at k;have g:QC .i64 ((QC .i64 (a * b)).tdiv a)=b∨¬ QC .i64 ((QC .i64 (a * b)).tdiv a)=b:=Classical.em _;have w:okI (a * b)→QC .i64 (a * b)=a * b:=fun h=>cZ h.1 h.2;generalize QC .i64 ((QC .i64 (a * b)).tdiv a)=q at k g;by_cases m1:a = -1 <;> by_cases m2:b = -9223372036854775808 <;> rcases g with g | g <;> by_cases o:okI (a * b) <;> simp_all [i0]
theorem cMc (ha:okI a) (hb:okI b):aLd a b=some (pV (a * b)):=by
 unfold aLd pV yO;by_cases h0:a=0
 ·subst h0;have o:okI 0:=⟨by decide,by decide⟩
  simp [o]
 by_cases h1:b=0
 ·subst h1;have o:okI 0:=⟨by decide,by decide⟩
  simp [o]
 have k:=bJc ha hb h1;have g:QC .i64 ((QC .i64 (a * b)).tdiv b)=a∨¬ QC .i64 ((QC .i64 (a * b)).tdiv b)=a:=Classical.em _;have w:okI (a * b)→QC .i64 (a * b)=a * b:=fun h=>cZ h.1 h.2;have z:a = -1→b = -9223372036854775808→¬ okI (a * b):=by rintro rfl rfl h; have:=h.2; omega
 generalize QC .i64 ((QC .i64 (a * b)).tdiv b)=q at k g;by_cases m1:a = -1 <;> by_cases m2:b = -9223372036854775808 <;> by_cases m3:b = -1 <;> by_cases m4:a = -9223372036854775808 <;> rcases g with g | g <;> by_cases o:okI (a * b) <;> simp_all [i0]
def zT (r:Int×Bool):aA×Int:=if r.2=true then (⟨1,r.1,[]⟩,0) else (⟨0,0,[]⟩,2)
def arP (op a b:Int):aA×Int :=
 if op=10 then zT (pV (a+b)) else if op=11 then zT (pV (a - b)) else if op=12 then zT (pV (a * b)) else
  if b=0 then (⟨0,0,[]⟩,3) else if op=14 then (⟨1,a.tmod b,[]⟩,0) else if a = -9223372036854775808∧b = -1 then (⟨0,0,[]⟩,2) else (⟨1,a.tdiv b,[]⟩,0)
theorem bCk (ha:okI a) (hb:b≠0) (h:¬ (a = -9223372036854775808∧b = -1)):okI (a.tdiv b):=by
 have a1:=ha.1;have a2:=ha.2;by_cases h2:2≤b∨b ≤ -2
 ·have:=bMo h2 ha;exact ⟨by omega,by omega⟩
 ·have:b=1∨b = -1:=by omega
  rcases this with rfl | rfl
  ·rw [XH]; exact ha
  ·rw [XY,XH];have:a ≠ -9223372036854775808:=fun e=>h ⟨e,rfl⟩;exact ⟨by omega,by omega⟩
theorem arI (ha:okI a) (hb:okI b):aHy op a b=some (arP op a b):=by
 unfold aHy arP aFt;simp only [addN ha hb,aRf ha hb,cJ7 ha hb,QB,QA,decide_eq_true_eq];have n:∀ r:Int×Bool,(if (!r.2)=true then some ((⟨0,0,[]⟩:aA),(2:Int)) else (V3 r.1).bind fun y5=>some (y5,0))=some (zT r):=by
  rintro ⟨r,b⟩;cases b <;> simp [zT,V3]
 by_cases h1:op=10
 ·rw [if_pos h1,if_pos h1,n]
 by_cases h2:op=11
 ·rw [if_neg h1,if_pos h2,if_neg h1,if_pos h2,n]
 by_cases h3:op=12
 ·rw [if_neg h1,if_neg h2,if_pos h3,if_neg h1,if_neg h2,if_pos h3,n]
 rw [if_neg h1,if_neg h2,if_neg h3,if_neg h1,if_neg h2,if_neg h3];unfold aSm yO aG5 V3;by_cases b0:b=0
 ·simp [b0]
 by_cases h4:op=14
 ·simp [b0,h4]
 by_cases h5:a = -9223372036854775808∧b = -1
 ·obtain ⟨rfl,rfl⟩:=h5;simp [h4]
 ·have w:=bCk ha b0 h5;rw [cZ w.1 w.2];by_cases h6:a = -9223372036854775808
  ·have:b ≠ -1:=fun e=>h5 ⟨h6,e⟩;simp [b0,h4,h6,this]
  ·simp [b0,h4,h6]
theorem bMv (ho:op=13∨op=14) (ha:okI a) (hb:okI b):aL1 op a b=some (arP op a b):=by
 have h1:¬ op=10:=by omega
 have h2:¬ op=11:=by omega
 have h3:¬ op=12:=by omega
 unfold arP aL1;rw [if_neg h1,if_neg h2,if_neg h3];unfold yO aG5;rw [aY1,aRf ⟨by decide,by decide⟩ ha];unfold yX aB3;by_cases b0:b=0
 ·simp [b0]
 by_cases b1:b = -1
 ·subst b1;by_cases h4:op=14
  ·have:a.tmod (-1)=0:=by rw [Int.tmod_neg,Int.tmod_one]
   simp [h4,this]
  ·have e:a.tdiv (-1)=0 - a:=by rw [XY,XH]; omega
   rw [e];have h13:op=13:=by omega
   have a1:=ha.1;have a2:=ha.2;by_cases h5:a = -9223372036854775808
   ·subst h5;have t2:pV (0 - -9223372036854775808)=(0,false):=by decide
    simp only [t2];simp [h4]
   ·have:okI (0 - a):=⟨by omega,by omega⟩
    have t2:pV (0 - a)=(0 - a,true):=if_pos this;simp only [t2];simp [h4,h5]
 ·have h5:¬ (a = -9223372036854775808∧b = -1):=fun h=>b1 h.2;have w:=bCk ha b0 h5;rw [cZ w.1 w.2];rcases ho with rfl | rfl <;> simp [b0,b1]
def nD (x:aA):Bool:=(kT x).getD false
theorem aH6 (x:aA):kT x=some (nD x):=by
 obtain ⟨b,hb⟩:=aU8 x;unfold nD; rw [hb]; rfl
theorem bIj (x:aA):qB x=some (nD x):=by rw [aQd,aH6]
theorem aS4 {x:aA} (h:nD x=true):x.text.length≤200:=by
 have h2:=aH6 x;rw [h] at h2;unfold kT at h2;simp only [QB,QA,rA] at h2;split at h2
 ·simp only [QH,QJ,decide_eq_true_eq] at h2; rw [h2.2]; simp
 ·split at h2
  ·simp only [QH,decide_eq_true_eq] at h2; rw [h2]; simp
  ·split at h2
   ·simp only [QH,QJ,decide_eq_true_eq] at h2; omega
   ·split at h2
    ·obtain ⟨y,_,hy⟩:=Option.bind_eq_some_iff.1 h2;simp only [QH,QJ,decide_eq_true_eq] at hy;rw [hy.2]; simp
    ·simp at h2
def qK (x y:aA):Int:=(rY x y).getD 0
theorem aL6 (x y:aA):rY x y=some (qK x y):=by
 obtain ⟨b,hb⟩:=bJa x y;unfold qK; rw [hb]; rfl
def aIg (k o:Int):Bool:=if k=3 then decide (o=0) else if k=4 then !decide (o=0) else if k=5 then decide (o<0) else if k=6 then decide (o≤0) else if k=7 then decide (0<o) else decide (0≤o)
theorem bWo (k:Int) (x y:aA):aCl k x y=some (vBl (aIg k (qK x y))):=by
 unfold aCl aIg vBl;rw [bEb,aL6];simp only [aCg,wK,QB,QA,decide_eq_true_eq];by_cases h3:k=3
 ·simp [h3]
 by_cases h4:k=4
 ·simp [h4]
 by_cases h5:k=5
 ·simp [h5]
 by_cases h6:k=6
 ·simp [h6]
 by_cases h7:k=7
 ·simp [h7]
 simp [h3,h4,h5,h6,h7]
theorem bPw (k o:Int):aC5 k o=some (aIg k o):=by
 unfold aC5 aIg;simp only [decide_eq_true_eq];by_cases h3:k=3
 ·simp [h3]
 by_cases h4:k=4
 ·simp [h4]
 by_cases h5:k=5
 ·simp [h5]
 by_cases h6:k=6
 ·simp [h6]
 by_cases h7:k=7
 ·simp [h7]
 simp [h3,h4,h5,h6,h7]
def wT (op:Int) (x:aA):Bool:=decide (x.kind=0)||decide (op≤8)||(if op=9 then decide (x.kind=2) else decide (x.kind=1))
theorem bQv (op:Int) (x:aA):Z8 op x=some (wT op x):=by
 unfold Z8 wT;simp only [orB,QB,QA,decide_eq_true_eq];by_cases h1:x.kind=0
 ·simp [h1]
 by_cases h2:op≤8
 ·simp [h2]
 by_cases h3:op=9 <;> simp [h1,h2,h3]
def jG (op:Int) (x y:aA):aA×Int :=
 if (decide (op<1)||decide (14<op)||!nD x||!nD y)=true then (⟨0,0,[]⟩,1)
 else if op≤2 then zG op x y
 else if (wT op x&&wT op y&&(decide (8<op)||decide (x.kind=0)||decide (y.kind=0)||decide (x.kind=y.kind)))=false then (⟨0,0,[]⟩,1)
 else if (decide (x.kind=0)||decide (y.kind=0))=true then (⟨0,0,[]⟩,0)
 else if op≤8 then (vBl (aIg op (qK x y)),0)
 else if op=9 then (if 200<x.text.length+y.text.length then (⟨0,0,[]⟩,2) else (⟨2,0,x.text++y.text⟩,0))
 else arP op x.num y.num
theorem bL5 {a b:List UInt8} (h:a.length+b.length≤1000):xO a b=some (a++b):=by
 unfold xO; rw [if_pos (by simp only [maxLen]; omega)]
theorem aDo {x:aA} (hx:okI x.num) (hy:okI y.num):rP op x y=some (jG op x y):=by
 unfold rP jG;simp only [bIj,bQv,orB,QB,QA,decide_eq_true_eq];by_cases h1:op<1
 ·simp [h1]
 by_cases h2:14<op
 ·simp [h2]
 rcases hvx:nD x with _ | _
 ·simp [h1,h2]
 rcases hvy:nD y with _ | _
 ·simp [h1,h2]
 by_cases h3:op≤2
 ·simp [h1,h2,h3,bIb]
 have tx:=aS4 hvx;have ty:=aS4 hvy;simp only [h1,h2,h3,decide_false,QY,QG,QU,QP,beq_self_eq_true,if_true,if_false,QA,QD,bWo,arI hx hy];rcases wT op x with _ | _
 ·simp
 rcases wT op y with _ | _
 ·simp
 by_cases h4:op≤8
 ·have h4':¬ 8<op:=by omega
  by_cases k1:x.kind=0
  ·simp [h4,h4',k1]
  by_cases k2:y.kind=0
  ·simp [h4,h4',k1,k2]
  by_cases k3:x.kind=y.kind <;> simp [h4,h4',k1,k2,k3]
 ·have h4':8<op:=by omega
  by_cases k1:x.kind=0
  ·simp [h4,h4',k1]
  by_cases k2:y.kind=0
  ·simp [h4,h4',k1,k2]
  by_cases h9:op=9
  ·subst h9;rw [cZ (n:=(x.text.length:Int)+y.text.length) (by omega) (by omega),bL5 (by omega)];by_cases hl:200<x.text.length+y.text.length
   ·have:(200:Int)<(x.text.length:Int)+(y.text.length:Int):=by omega
    simp [k1,k2,hl,this]
   ·have:¬ (200:Int)<(x.text.length:Int)+(y.text.length:Int):=by omega
    simp [k1,k2,hl,this,aQj]
  ·simp [h4,h4',k1,k2,h9]
theorem aN7 (a b c:Int):fT a b c=some (decide (b≤a)&&decide (a≤c)):=by
 unfold fT;by_cases h:b≤a <;> simp [h]
theorem cBs (op:Int) (x y:aA) (h:2<op) (h14:op≤14):aHv op x y=some (wT op x&&wT op y&&(decide (8<op)||decide (x.kind=0)||decide (y.kind=0)||decide (x.kind=y.kind))):=by
 unfold aHv wT;simp only [aYu,aEx,QB,QA,orB,rA,decide_eq_true_eq];by_cases h9:op=9
 ·subst h9;rcases decide (x.kind=2) with _ | _ <;> rcases decide (x.kind=0) with _ | _ <;> rcases decide (y.kind=2) with _ | _ <;> rcases decide (y.kind=0) with _ | _ <;> rfl
 by_cases h10:10≤op
 ·have e1:¬ op≤8:=by omega
  have e2:8<op:=by omega
  simp only [h9,h10,e1,e2,if_true,if_false,decide_true,decide_false];rcases decide (x.kind=1) with _ | _ <;> rcases decide (x.kind=0) with _ | _ <;> rcases decide (y.kind=1) with _ | _ <;> rcases decide (y.kind=0) with _ | _ <;> rfl
 ·have e1:op≤8:=by omega
  have e2:¬ 8<op:=by omega
  simp only [h9,h10,e1,e2,if_false,decide_true,decide_false];generalize x.kind=a;generalize y.kind=b;by_cases k:a=b
  ·by_cases k1:a=0 <;> by_cases k2:b=0 <;> simp [k,k2]
  ·by_cases k1:a=0
   ·have:¬ (0:Int)=b:=fun e=>k (k1.trans e);simp [k1,this]
   ·by_cases k2:b=0 <;> simp [k,k1,k2]
theorem bJg (r:Int×Bool):yX r.1 r.2=some (zT r):=by
 obtain ⟨a,b⟩:=r;cases b <;> rfl
theorem aCx {x:aA} (hx:okI x.num) (hy:okI y.num):pY op x y=some (jG op x y):=by
 unfold pY jG;simp only [aH6,aN7,orB,QB,QA,decide_eq_true_eq];by_cases h1:op<1
 ·have:¬ 1≤op:=by omega
  simp [h1,this]
 have h1':1≤op:=by omega
 by_cases h2:14<op
 ·have:¬ op≤14:=by omega
  simp [h2,this]
 have h2':op≤14:=by omega
 rcases hvx:nD x with _ | _
 ·simp [h1,h2,h1',h2']
 rcases hvy:nD y with _ | _
 ·simp [h1,h2,h1',h2']
 by_cases h3:op≤2
 ·simp [h1,h2,h3,h1',h2',bP3]
 have tx:=aS4 hvx;have ty:=aS4 hvy;rw [cBs op x y (by omega) h2'];simp only [h1,h2,h3,h1',h2',decide_true,decide_false,QY,QG,QU,QX,QP,beq_self_eq_true,if_true,if_false,QA,QD,cA8,aY1,addN hx hy,aRf hx hy,cMc hx hy,bJg,aEx];generalize (wT op x&&wT op y&&(decide (8<op)||decide (x.kind=0)||decide (y.kind=0)||decide (x.kind=y.kind)))=t;rcases t with _ | _
 ·simp
 by_cases k1:x.kind=0
 ·simp [k1]
 by_cases k2:y.kind=0
 ·simp [k1,k2]
 simp only [k1,k2,decide_false,QG,QD,if_false,beq_self_eq_true,QX,if_true,QA,XM];by_cases h9:op=9
 ·subst h9;rw [cZ (n:=(x.text.length:Int)+y.text.length) (by omega) (by omega),bL5 (by omega)];by_cases hl:200<x.text.length+y.text.length
  ·have:(200:Int)<(x.text.length:Int)+(y.text.length:Int):=by omega
   simp [hl,this]
  ·have:¬ (200:Int)<(x.text.length:Int)+(y.text.length:Int):=by omega
   simp [hl,this,aRd]
 by_cases h10:op=10
 ·subst h10; simp [arP]
 by_cases h11:op=11
 ·subst h11; simp [arP]
 by_cases h12:op=12
 ·subst h12; simp [arP]
 unfold aGz;by_cases h13:op=13
 ·subst h13;simp [bMv (.inl rfl) hx hy]
 by_cases h14:op=14
 ·subst h14;simp [bMv (.inr rfl) hx hy]
 have h8:op≤8:=by omega
 simp [h9,h10,h11,h12,h13,h14,h8,aL6,bPw,wK,vBl]
theorem aRm {r:Int×Bool} (h:okI r.1):okI (zT r).1.num:=by
 unfold zT; split
 ·exact h
 ·exact ⟨by decide,by decide⟩
theorem aPx (n:Int):okI (pV n).1:=by
 unfold pV; split
 ·assumption
 ·exact ⟨by decide,by decide⟩
theorem ok0:okI 0:=⟨by decide,by decide⟩
theorem ok1:okI 1:=⟨by decide,by decide⟩
theorem aQ2 (b:Bool):okI (vBl b).num:=by cases b <;> first | exact ok0 | exact ok1
theorem bTt (ha:okI a) (hb:okI b):okI (arP op a b).1.num:=by
 unfold arP;split
 ·exact aRm (aPx _)
 split
 ·exact aRm (aPx _)
 split
 ·exact aRm (aPx _)
 split
 ·exact ok0
 rename_i h0;split
 ·have h:(a.tmod b).natAbs=a.natAbs % b.natAbs:=XX a b;have h2:a.natAbs % b.natAbs<b.natAbs:=Nat.mod_lt _ (by omega);have b1:=hb.1;have b2:=hb.2;exact ⟨by show -9223372036854775808≤a.tmod b; omega,by show a.tmod b≤9223372036854775807; omega⟩
 split
 ·exact ok0
 ·exact bCk ha h0 ‹_›
theorem cEq (op:Int) (x y:aA):okI (zG op x y).1.num:=by
 unfold zG
 repeat' split
 all_goals first | exact ok0 | exact ok1
theorem D9 {x:aA} (hx:okI x.num) (hy:okI y.num):okI (jG op x y).1.num:=by
 unfold jG;split
 ·exact ok0
 split
 ·exact cEq _ _ _
 split
 ·exact ok0
 split
 ·exact ok0
 split
 ·exact aQ2 _
 split
 ·split <;> exact ok0
 ·exact bTt hx hy
def unP (op:Int) (x:aA):aA×Int :=
 if (!nD x||(!decide (op=15)&&!decide (op=16)))=true then (⟨0,0,[]⟩,1)
 else if x.kind=0 then (⟨0,0,[]⟩,0)
 else if op=15∧x.kind=3 then (vBl (decide (x.num=0)),0)
 else if op=16∧x.kind=1 then zT (pV (0 - x.num)) else (⟨0,0,[]⟩,1)
theorem unI {x:aA} (hx:okI x.num):aBy op x=some (unP op x):=by
 unfold aBy unP;simp only [bIj,orB,rA,cOl,QB,QA,arI ok0 hx];rcases nD x with _ | _
 ·simp
 by_cases k:x.kind=0
 ·by_cases h5:op=15
  ·simp [h5,k]
  ·by_cases h6:op=16 <;> simp [h5,h6,k]
 by_cases h5:op=15
 ·subst h5;by_cases k3:x.kind=3 <;> simp [k,k3,aCg,wK,vBl]
 by_cases h6:op=16
 ·subst h6;by_cases k1:x.kind=1 <;> simp [k,k1,arP]
 ·simp [h5,h6]
theorem cCv {x:aA} (h:nD x=true) (k:x.kind=0):x=⟨0,0,[]⟩:=by
 have h2:=aH6 x;rw [h] at h2;unfold kT at h2;simp only [QB,QA,rA,k,decide_true,if_true,QH,QJ,decide_eq_true_eq] at h2;obtain ⟨a,b,c⟩:=x
 simp_all
theorem unS {x:aA} (hx:okI x.num):aHl op x=some (unP op x):=by
 unfold aHl unP;simp only [aH6,aYu,aEx,aY1,aRf ok0 hx,bJg,QB,QA];rcases hv:nD x with _ | _
 ·simp
 by_cases k:x.kind=0
 ·have:=cCv hv k;subst this;by_cases h5:op=15
  ·simp [h5]
  ·by_cases h6:op=16 <;> simp [h5,h6]
 by_cases h5:op=15
 ·subst h5;by_cases k3:x.kind=3 <;> simp [k,k3,wK,vBl]
 by_cases h6:op=16
 ·subst h6;by_cases k1:x.kind=1 <;> simp [k,k1]
 ·simp [h5,h6]
theorem bHs {x:aA} (_:okI x.num):okI (unP op x).1.num:=by
 unfold unP;split
 ·exact ok0
 split
 ·exact ok0
 split
 ·exact aQ2 _
 split
 ·exact aRm (aPx _)
 ·exact ok0
def zI (x a b:aA):aA×Int:=if (jG 8 x a).2≠0 then (⟨0,0,[]⟩,(jG 8 x a).2) else if (jG 6 x b).2≠0 then (⟨0,0,[]⟩,(jG 6 x b).2) else jG 2 (jG 8 x a).1 (jG 6 x b).1
theorem bTp {x a b:aA} (hx:okI x.num) (ha:okI a.num) (hb:okI b.num):aM0 x a b=some (zI x a b):=by
 unfold aM0 zI;simp only [aDo hx ha,aDo hx hb,aDo (D9 (op:=8) hx ha) (D9 (op:=6) hx hb),QB,QA];by_cases h1:(jG 8 x a).2=0
 ·by_cases h2:(jG 6 x b).2=0 <;> simp [h1,h2]
 ·simp [h1]
theorem bXn {x a b:aA} (hx:okI x.num) (ha:okI a.num) (hb:okI b.num):aLj x a b=some (zI x a b):=by
 unfold aLj zI;simp only [aCx hx ha,aCx hx hb,aCx (D9 (op:=8) hx ha) (D9 (op:=6) hx hb),QB,QA];by_cases h1:(jG 8 x a).2=0
 ·by_cases h2:(jG 6 x b).2=0 <;> simp [h1,h2]
 ·simp [h1]
theorem aYy {x a b:aA} (hx:okI x.num) (ha:okI a.num) (hb:okI b.num):okI (zI x a b).1.num:=by
 unfold zI;split
 ·exact ok0
 split
 ·exact ok0
 ·exact D9 (D9 hx ha) (D9 hx hb)
def qM (x:aA):List aA→aA→aA×Int
 | [],o=>(o,0)
 | y::l,o=>if (jG 3 x y).2≠0 then (⟨0,0,[]⟩,(jG 3 x y).2) else qM x l (jG 1 o (jG 3 x y).1).1
theorem bFe {x:aA} (hx:okI x.num) (hy:okI y.num) {r:aA×Int} (h:pY op x y=some r):jG op x y=r:=by
 rw [aCx hx hy] at h; exact Option.some.inj h
theorem aIb {x:aA} (h:tri x):okI x.num:=by rcases h with rfl | rfl | rfl <;> first | exact ok0 | exact ok1
theorem eqP {x:aA} (hx:okI x.num) (hy:okI y.num) (h:(jG 3 x y).2=0):tri (jG 3 x y).1:=by
 obtain ⟨r,h1,_,h3⟩:=cM5 3 (by simp) x y;have:=bFe hx hy h1;subst this;exact h3 h
theorem orP {x:aA} (hx:tri x) (hy:tri y):(jG 1 x y).2=0∧tri (jG 1 x y).1:=by
 obtain ⟨r,h1,_,h3⟩:=bW9 x y hx hy;have:=bFe (aIb hx) (aIb hy) h1;subst this;exact h3
theorem cOx (x:aA) (p:List aA) (hl:p.length≤1048576) (hx:okI x.num) (hp:∀ y∈p,okI y.num):∀ i,i≤p.length→∀ a b c,tri ⟨a,b,c⟩ →
  P8 p x (i:Nat) a b c=some (qM x (p.drop i) ⟨a,b,c⟩)∧U4 p x (i:Nat) a b c=some (qM x (p.drop i) ⟨a,b,c⟩):=by
 refine eO ?_ ?_
 ·intro a b c _;rw [U4,P8];simp [qM]
 ·intro i hi ih a b c ht;rw [U4,P8,QF hi];have hy:=hp _ (QE hi);have hc:=D9 (op:=3) hx hy;simp only [bU,bR hi,dL hi (by omega),hi,decide_true,if_true,QB,QA,aDo hx hy,aCx hx hy,qM];by_cases hz:(jG 3 x p[i]).2=0
  ·have h3:=orP ht (eqP hx hy hz);simp only [hz,decide_true,QG,QD,if_false,QA,aDo (aIb ht) hc,aCx (aIb ht) hc,h3.1,ne_eq,not_true_eq_false];exact ih _ _ _ h3.2
  ·simp [hz]
theorem aYr {x:aA} {p:List aA} (hl:p.length≤1048576) (hx:okI x.num) (hp:∀ y∈p,okI y.num):aEj x p=some (qM x p (vBl false))∧aEk x p=some (qM x p (vBl false)):=by
 have:=cOx x p hl hx hp 0 (by omega) 3 0 [] (by simp [tri]);unfold aEj aEk;rw [aCg,wK];simpa [vBl] using this
theorem aI8 {x:aA} (hx:okI x.num):∀ {p:List aA} {o:aA},(∀ y∈p,okI y.num)→tri o→okI (qM x p o).1.num
 | [],o,_,ho=>aIb ho
 | y::p,o,hp,ho=>by
  rw [qM];by_cases hz:(jG 3 x y).2=0
  ·rw [if_neg (by simp [hz])];exact aI8 hx (fun y hy=>hp y (WR _ hy)) (orP ho (eqP hx (hp y (by simp)) hz)).2
  ·rw [if_pos hz]; exact ok0
def bL {α β:Type} (g:α→β×Int):List α→List β×Int
 | []=>([],0)
 | x::l=>if (g x).2≠0 then ([],(g x).2) else if (bL g l).2≠0 then ([],(bL g l).2) else ((g x).1::(bL g l).1,0)
theorem aCr {α β γ:Type} {p:List α} {b:Nat} {g:α→β×Int} {F:α→Option (β×Int)} {L:List β→Int→Option γ} {K:List β→Option γ} {E:Int→γ} (hp:p.length≤1048576) (hb:b≤64) (hF:∀ x∈p,F x=some (g x))
  (hL:∀ (i:Nat) acc,L acc (i:Int)=if (decide ((i:Int)<(p.length:Int)))=true then ((idx p (i:Int))>>=fun x=>(F x)>>=fun y=>if (!decide (y.2=0))=true then some (E y.2) else (appG b acc [y.1])>>=fun z=>L z (QC .i64 ((i:Int)+1))) else K acc) :
  ∀ acc,acc.length≤1048576→L acc 0=if (bL g p).2≠0 then some (E (bL g p).2) else K (acc++(bL g p).1):=by
 have key:∀ i,i≤p.length→∀ acc,acc.length≤1048576+i→L acc (i:Nat)=if (bL g (p.drop i)).2≠0 then some (E (bL g (p.drop i)).2) else K (acc++(bL g (p.drop i)).1):=by
  refine eO ?_ ?_
  ·intro acc _;rw [hL]; simp [bL]
  ·intro i hi ih acc ha;rw [hL,bR hi,dL hi (by omega),QF hi];simp only [bU,hi,decide_true,if_true,QB,QA,hF _ (QE hi),bL];by_cases h0:(g p[i]).2=0
   ·have e:appG b acc [(g p[i]).1]=some (acc++[(g p[i]).1]):=nT (QR (Nat.mul_le_mul_left _ hb) (by simp only [QM]; omega));simp only [h0,decide_true,QG,QD,if_false,ne_eq,not_true_eq_false,e,QA];rw [ih _ (by simp; omega)];by_cases h1:(bL g (p.drop (i+1))).2=0
    ·simp [h1]
    ·simp [h1]
   ·simp [h0]
 intro acc ha;simpa using key 0 (by omega) acc (by omega)
def tru (v:aA):Bool:=decide (v.kind=3)&&decide (v.num=1)
theorem cDd (v:aA):aJy v=some (tru v):=by unfold aJy tru; simp only [rA,QB,QA]
theorem cAo (v:aA):aMw v=some (tru v):=by unfold aMw tru; simp only [rA,QB,QA]
abbrev Row1:=List aA
abbrev Rows:=List (List aA)
abbrev Gf:=Row1→aA×Int
def jN (g:Gf):Rows→Rows×Int
 | []=>([],0)
 | x::l=>if (g x).2≠0 then ([],(g x).2) else if (jN g l).2≠0 then ([],(jN g l).2) else (if tru (g x).1=true then x::(jN g l).1 else (jN g l).1,0)
def whE:List Gf→Rows→Rows×Int
 | [],r=>(r,0)
 | g::l,r=>if (jN g r).2≠0 then ([],(jN g r).2) else whE l (jN g r).1
def lK (r t:Rows):Rows:=r.flatMap fun a=>t.map fun b=>a++b
def joE:List (Rows×List Gf)→Rows→Rows×Int
 | [],r=>(r,0)
 | s::l,r=>if (whE s.2 (lK r s.1)).2≠0 then ([],(whE s.2 (lK r s.1)).2) else joE l (whE s.2 (lK r s.1)).1
theorem aDs (g:Gf):∀ r:Rows,(jN g r).1.Sublist r
 | []=>by simp [jN]
 | x::l=>by
  rw [jN];split
  ·exact XD _
  split
  ·exact XD _
  dsimp only;split
  ·exact (aDs g l).cons_cons x
  ·exact (aDs g l).cons x
theorem T9:∀ (gs:List Gf) (r:Rows),(whE gs r).1.Sublist r
 | [],r=>List.Sublist.refl _
 | g::gs,r=>by
  rw [whE];split
  ·exact XD _
  ·exact (T9 gs _).trans (aDs g r)
def nY:List Bool→Row1→Row1→Bool
 | d::ds,x::a,y::b=>if (if d=true then -(qK x y) else qK x y)≠0 then decide ((if d=true then -(qK x y) else qK x y)<0) else nY ds a b
 | _,_,_=>false
def iL {α:Type} [Inhabited α] (lt:α→α→Bool) (x:α) (l:List α):Nat→Nat
 | 0=>0
 | n+1=>if lt x (l[n]!)=true then iL lt x l n else n+1
theorem bAi {α:Type} [Inhabited α] (lt:α→α→Bool) (x:α) (l:List α):∀ n,iL lt x l n≤n
 | 0=>by simp [iL]
 | n+1=>by
  rw [iL]; split
  ·have:=bAi lt x l n; omega
  ·omega
def pE {α:Type} [Inhabited α] (lt:α→α→Bool) (x:α) (l:List α):List α:=l.take (iL lt x l l.length)++x::l.drop (iL lt x l l.length)
def iY {α:Type} [Inhabited α] (lt:α→α→Bool):List α→List α→List α
 | s,[]=>s
 | s,x::l=>iY lt (pE lt x s) l
theorem aSz {α:Type} [Inhabited α] (lt:α→α→Bool) (x:α) (l:List α):(pE lt x l).length=l.length+1:=by
 unfold pE;have:=bAi lt x l l.length;simp only [QI,WI,XB,List.length_drop];omega
theorem aNl {α:Type} [Inhabited α] (lt:α→α→Bool) (x:α) (l:List α):(pE lt x l).Perm (x::l):=by
 unfold pE;refine List.perm_middle.trans (List.Perm.cons x ?_);rw [List.take_append_drop]
theorem aFg {α:Type} [Inhabited α] (lt:α→α→Bool):∀ (l s:List α),(iY lt s l).Perm (s++l)
 | [],s=>by simp [iY]
 | x::l,s=>by
  rw [iY];refine (aFg lt l _).trans ?_;refine ((aNl lt x s).append_right l).trans ?_;exact List.perm_middle.symm
theorem bOi {α:Type} [Inhabited α] (lt:α→α→Bool) (h:∀ a b,lt a b=false):∀ (l s:List α),iY lt s l=s++l
 | [],s=>by simp [iY]
 | x::l,s=>by
  have e:iL lt x s s.length=s.length:=by
   cases s.length with
   | zero=>rfl
   | succ n=>rw [iL,h]; simp
  rw [iY,bOi lt h l];unfold pE;rw [e]; simp
def kLt (ds:List Bool) (a b:aV):Bool:=nY ds a.keys b.keys
def kV (ks:List (Gf×Bool)) (r:Rows):Rows×Int :=
 if (bL (fun row=>bL (fun k:Gf×Bool=>k.1 row) ks) r).2≠0 then ([],(bL (fun row=>bL (fun k:Gf×Bool=>k.1 row) ks) r).2)
 else ((iY (kLt (ks.map (·.2))) [] (QQ aV.mk r (bL (fun row=>bL (fun k:Gf×Bool=>k.1 row) ks) r).1)).map (·.row),0)
def aR7 (x y:aA):Bool:=decide (x.kind=y.kind)&&(decide (x.num=y.num)&&(decide (x.text=y.text)&&true))
theorem bEf (x y:aA):aR7 x y=true↔x=y:=by
 obtain ⟨a,b,c⟩:=x;obtain ⟨d,e,f⟩:=y;simp [aR7]
instance:DecidableEq aA:=fun a b=>decidable_of_iff _ (bEf a b)
def lX:Rows→Rows→Rows
 | o,[]=>o
 | o,x::l=>if x∈o then lX o l else lX (o++[x]) l
def P9 (n:Int) (r:Rows):Rows:=if 0≤n∧n<(r.length:Int) then r.take n.toNat else r
def xQ (dis:Bool) (lim:Int) (r:Rows):Rows:=P9 lim (if dis=true then lX [] r else r)
def oM (is:List Gf) (r:Rows):Rows×Int:=bL (fun row=>bL (fun g:Gf=>g row) is) r
structure Qry where
 st:List (Rows×List Gf)
 wh:List Gf
 ks:List (Gf×Bool)
 is:List Gf
 dis:Bool
 lim:Int
def aHh (q:Qry):Rows×Int :=
 if (joE q.st [[]]).2≠0 then ([],(joE q.st [[]]).2) else if (whE q.wh (joE q.st [[]]).1).2≠0 then ([],(whE q.wh (joE q.st [[]]).1).2) else
 if (kV q.ks (whE q.wh (joE q.st [[]]).1).1).2≠0 then ([],(kV q.ks (whE q.wh (joE q.st [[]]).1).1).2) else
 if (oM q.is (kV q.ks (whE q.wh (joE q.st [[]]).1).1).1).2≠0 then ([],(oM q.is (kV q.ks (whE q.wh (joE q.st [[]]).1).1).1).2) else
 (xQ q.dis q.lim (oM q.is (kV q.ks (whE q.wh (joE q.st [[]]).1).1).1).1,0)
theorem bNb (g:Gf) (r:Rows):(jN g r).1.length≤r.length:=(aDs g r).length_le
theorem aHf (gs:List Gf) (r:Rows):(whE gs r).1.length≤r.length:=(T9 gs r).length_le
theorem sF {l m:Rows} (h:l.length+m.length≤4194304):appG 24 l m=some (l++m):=nT (by omega)
theorem cDa {cl:cK} {p1:List cK} {x15:Int} {g:Gf} {x0:Rows} (hl:x0.length≤1048576) (H:∀ r∈x0,nM r cl.c0 cl.c1 cl.c2 cl.c3=some (g r)) :
  ∀ i,i≤x0.length→∀ acc:Rows,acc.length≤i→V4 cl p1 x15 x0 acc (i:Nat)=if (jN g (x0.drop i)).2≠0 then some ([],(jN g (x0.drop i)).2) else R8 p1 (acc++(jN g (x0.drop i)).1) (QC .i64 (x15+1)):=by
 refine eO ?_ ?_
 ·intro acc _;rw [V4]; simp [jN]
 ·intro i hi ih acc ha;rw [V4,bR hi,QF hi];simp only [bU,hi,decide_true,if_true,QB,QA,H _ (QE hi),cDd,jN];by_cases h0:(g x0[i]).2=0
  ·simp only [h0,decide_true,QG,QD,if_false,ne_eq,not_true_eq_false];by_cases ht:tru (g x0[i]).1=true
   ·rw [if_pos ht,sF (by simp; omega)];simp only [QA];rw [aHg,dL hi (by omega),ih _ (by simp; omega)];by_cases h1:(jN g (x0.drop (i+1))).2=0 <;> simp [h1,ht]
   ·rw [if_neg ht,aHg,dL hi (by omega),ih _ (by omega)];by_cases h1:(jN g (x0.drop (i+1))).2=0 <;> simp [h1,ht]
  ·simp [h0]
theorem bSs {P:Row1→Prop} {c:aX} {d:GDb} {env:Rows} {ev:aJ→Gf} {l:List aJ} (hl:l.length≤1048576) (H:∀ e∈l,∀ r,P r→nM r c d env e=some (ev e r)) :
  ∀ i,i≤l.length→∀ rows:Rows,rows.length≤1048576→(∀ r∈rows,P r)→R8 (l.map (cK.mk c d env)) rows (i:Nat)=some (whE ((l.drop i).map ev) rows):=by
 refine eO ?_ ?_
 ·intro rows _ _;rw [R8]; simp [whE]
 ·intro i hi ih rows hr hP;have hi':i<(l.map (cK.mk c d env)).length:=by simpa using hi
  rw [R8,bR hi',QF hi];simp only [bU,hi',decide_true,if_true,QB,QA,XF,QN,whE];have k:=cDa (cl:=cK.mk c d env l[i]) (p1:=l.map (cK.mk c d env)) (x15:=(i:Int)) (g:=ev l[i]) hr (fun r hr=>H _ (QE hi) r (hP r hr)) 0 (by omega) [] (by simp);simp only [Int.ofNat_zero,QW,QO] at k;replace k:V4 (cK.mk c d env l[i]) (l.map (cK.mk c d env)) (i:Int) rows [] 0=_:=k;rw [k,dL hi (by omega)];by_cases h1:(jN (ev l[i]) rows).2=0
  ·simp only [h1,ne_eq,not_true_eq_false,if_false];exact ih _ (QR (bNb _ _) hr) fun r hr=>hP r ((aDs _ _).subset hr)
  ·simp [h1]
theorem bP9 {P:Row1→Prop} {c:aX} {d:GDb} {env:Rows} {ev:aJ→Gf} {l:List aJ} (hl:l.length≤1048576) (H:∀ e∈l,∀ r,P r→nM r c d env e=some (ev e r)) (rows:Rows) (hr:rows.length≤1048576) (hP:∀ r∈rows,P r) :
  aBv rows (l.map (cK.mk c d env))=some (whE (l.map ev) rows):=by
 rw [aBv];simpa using bSs hl H 0 (by omega) rows hr hP
theorem bR9 (a b:Row1) (ha:a.length≤1048576) (hb:b.length≤1048576):aIn [a,b]=some (a++b):=by
 have w1:QC .i64 (0+1)=1:=by decide
 have w2:QC .i64 (1+1)=2:=by decide
 have g:aO8 [] ((a.length:Int)+b.length)=some []:=by
  unfold aO8 aIy;rw [if_pos ⟨rfl,by omega,by omega,by omega⟩]
 have e1:appG 32 [] a=some a:=by rw [nT (by simp; omega)]; rfl
 have e2:appG 32 a b=some (a++b):=nT (by omega);have l1:QC .i64 (a.length:Int)=a.length:=cZ (by omega) (by omega);have l2:QC .i64 ((a.length:Int)+b.length)=(a.length:Int)+b.length:=cZ (by omega) (by omega);have n1:¬ ((a.length:Int)<0):=by omega
 have n2:¬ ((a.length:Int)+b.length<0):=by omega
 have J:∀ p x (y:Row1) k,aFd p x y k=yK p (QC .i64 (x+(y.length:Int))) (QC .i64 (k+1)):=fun p x y k=>by rw [aFd]
 have k2:wG [a,b] (a++b) 2=some (a++b):=by rw [wG]; simp
 have k1:wG [a,b] a 1=some (a++b):=by
  rw [wG,w2];simp [idx,e2,k2]
 have k0:wG [a,b] [] 0=some (a++b):=by
  rw [wG,w1];simp [idx,e1,k1]
 have m2:yK [a,b] ((a.length:Int)+b.length) 2=some (a++b):=by
  rw [yK,g];simp [k0]
 have m1:yK [a,b] (a.length:Int) 1=some (a++b):=by
  rw [yK];simp only [J,l2,w2];simp only [WI,WJ,idx];simp only [QB,List.getElem?_cons_succ,show Int.toNat 1=1 from rfl,List.getElem?_cons_zero,l2];rw [if_pos (by simp)];simp [l2,w2,m2];omega
 unfold aIn;rw [yK];simp [idx,J,l1,show QC .i64 1=1 by decide,m1]
def gK (n:Nat) (r:Row1):Prop:=r.length≤n * 1000∧∀ v∈r,okI v.num
theorem cBw {a b:Row1} (ha:gK n a) (hb:gK 1 b):gK (n+1) (a++b):=by
 obtain ⟨a1,a2⟩:=ha;obtain ⟨b1,b2⟩:=hb;refine ⟨by simp; omega,fun v hv=>?_⟩;rcases QV.1 hv with hv | hv
 ·exact a2 v hv
 ·exact b2 v hv
theorem aD1 {m:Nat} (h:n≤m) {r:Row1} (hr:gK n r):gK m r:=⟨QR hr.1 (XJ _ h),hr.2⟩
theorem aMa (r t:Rows):(lK r t).length=r.length * t.length:=by
 unfold lK
 induction r with
 | nil=>simp
 | cons a r ih=>rw [WH,QI,ih,WW,WI,WY]; omega
theorem bC6 {r t:Rows} (hr:∀ x∈r,gK n x) (ht:∀ x∈t,gK 1 x):∀ x∈lK r t,gK (n+1) x:=by
 intro x hx;unfold lK at hx;obtain ⟨a,ha,hx⟩:=WX.1 hx;obtain ⟨b,hb,rfl⟩:=WL.1 hx;exact cBw (hr a ha) (ht b hb)
theorem cHx {x4:Rows} {x27:Int} {t:Rows} {a:Row1} (ht:t.length≤1048576) (ha:a.length≤1048576) (hB:∀ x∈t,x.length≤1048576) :
  ∀ j,j≤t.length→∀ acc:Rows,acc.length+t.length≤2097152+j→aBb x19 t a p0 x4 x27 (acc,(j:Nat))=aAr x19 t p0 x4 (acc++(t.drop j).map fun b=>a++b) (QC .i64 (x27+1)):=by
 refine eO ?_ ?_
 ·intro acc _;rw [aBb]; simp
 ·intro j hj ih acc hacc;rw [aBb];simp only [bU,hj,decide_true,if_true,bR hj,QB,QA,bR9 a _ ha (hB _ (QE hj))];rw [sF (by simp; omega)];simp only [QA];rw [dL hj (by omega),ih _ (by simp; omega),QF hj];simp only [QN,WF,WM]
theorem bX5 {x4 t:Rows} (hx:x4.length * t.length≤1048576) (hx4:x4.length≤1048576) (ht:t.length≤1048576) (h4:∀ x∈x4,x.length≤1048576) (hB:∀ x∈t,x.length≤1048576) :
  ∀ i,i≤x4.length→∀ acc:Rows,acc.length=i * t.length→aAr x19 t p0 x4 acc (i:Nat)=(idx p0.on_ x19)>>=fun (y5:List cK)=>(aBv (acc++lK (x4.drop i) t) y5)>>=fun (y6:(List (List aA))×Int)=>if (!decide (y6.2=0))=true then (some (([]:List (List aA)),y6.2)) else (Q6 p0 y6.1 (QC .i64 (x19+1))):=by
 refine eO ?_ ?_
 ·intro acc _;rw [aAr]; simp [lK]
 ·intro i hi ih acc ha;rw [aAr];simp only [bU,hi,decide_true,if_true,bR hi,QB,QA];have hm:(i+1) * t.length≤x4.length * t.length:=XJ _ hi;rw [WY] at hm;have:=cHx (x19:=x19) (p0:=p0) (x4:=x4) (x27:=(i:Int)) ht (h4 _ (QE hi)) hB 0 (by omega) acc (by omega);rw [show ((0:Nat):Int)=0 from rfl] at this;rw [this,dL hi (by omega),ih _ (by simp [ha,WY]),QF hi];simp only [lK,WH,WF,QW];rfl
theorem aQ9 (R:Nat):∀ (st:List (Rows×List Gf)) (r:Rows) (n:Nat),(∀ s∈st,s.1.length≤R)→r.length≤n→(joE st r).1.length≤n * R ^ st.length
 | [],r,n,_,h=>by simpa [joE] using h
 | s::st,r,n,hs,h=>by
  rw [joE];split
  ·simp
  ·have h1:(whE s.2 (lK r s.1)).1.length≤n * R:=by
    refine QR (aHf _ _) ?_;rw [aMa];exact XK h (hs s (by simp))
   have:=aQ9 R st _ _ (fun s hs'=>hs s (WR _ hs')) h1;rw [WI,XL,Nat.mul_comm (R ^ st.length),← Nat.mul_assoc];exact this
theorem aSw:∀ (st:List (Rows×List Gf)) (r:Rows) (n:Nat),(∀ s∈st,∀ x∈s.1,gK 1 x)→(∀ x∈r,gK n x)→∀ x∈(joE st r).1,gK (n+st.length) x
 | [],r,n,_,h=>by simpa [joE] using h
 | s::st,r,n,hs,h=>by
  rw [joE];split
  ·simp
  ·have:=aSw st _ (n+1) (fun s hs'=>hs s (WR _ hs')) (fun x hx=>bC6 h (hs s (by simp)) x ((T9 s.2 _).subset hx));rw [WI,show n+(st.length+1)=n+1+st.length by omega];exact this
structure cT4 (N:Nat) (c:aX) (d:GDb) (env:Rows) (ev:aJ→Gf) (p:aQ):Prop where
 on:p.on_.length=p.tables.length
 t3:p.tables.length≤3
 on1:∀ l∈p.on_,l.length≤1048576
 wh:p.where_.length≤1048576
 ord:p.order.length≤1048576
 it:p.items.length≤1048576
 tb:∀ i∈p.tables,0≤i∧i<(d.tables.length:Int)
 N1:N≤1048576
 R:∃ R:Nat,1≤R∧R ^ p.tables.length≤N∧(∀ t∈d.tables,t.rows.length≤R)
 db:∀ t∈d.tables,∀ x∈t.rows,gK 1 x
def rowsOf (d:GDb) (i:Int):Rows:=(d.tables[i.toNat]?.getD ⟨[]⟩).rows
def M6 (d:GDb) (ev:aJ→Gf) (p:aQ):List (Rows×List Gf):=QQ (fun i l=>(rowsOf d i,l.map ev)) p.tables p.on_
def nU (d:GDb) (ev:aJ→Gf) (p:aQ):Qry:=⟨M6 d ev p,p.where_.map ev,p.order.map fun k=>(ev k.expr,k.desc),p.items.map ev,p.distinct,p.limit⟩
theorem aSn (c:aX) (d:GDb) (env:Rows) (l:List aJ) (h:l.length≤1048576):aA0 l c d env=some (l.map (cK.mk c d env)):=by
 unfold aA0;have e:(l.flatMap fun y=>[cK.mk c d env y])=l.map (cK.mk c d env):=by
  clear h
  induction l with
  | nil=>rfl
  | cons y l ih=>rw [WH,ih]; rfl
 have:=gather (p:=l) (f:=fun y=>[cK.mk c d env y]) (G:=fun y acc=>appG 8 acc ([(cK.mk c d env y)]:List cK)) (L:=fun acc i=>aB9 c d env l acc i) (K:=some) (c:=1048576) (by omega)
  (fun y hy acc ha=>by
   simp only [QM] at ha;exact nT (by simp only [QM]; omega))
  (fun i acc=>by rw [aB9])
  [] (by rw [e,WW]; simp only [WJ]; omega)
 rw [this,e];rfl
theorem cK6 {c:aX} {d:GDb} {env:Rows} {ev:aJ→Gf} {x:eT} {l:List (List aJ)} {R N:Nat} (hN:N≤1048576) (R1:1≤R)
  (ho:x.on_=l.map fun l=>l.map (cK.mk c d env)) (hw:x.where_=w.map (cK.mk c d env)) (hlt:l.length=x.tables.length) (hl:∀ y∈l,y.length≤1048576) (hwl:w.length≤1048576) (t3:x.tables.length≤3)
  (hR:∀ t∈x.tables,t.length≤R) (hRN:R ^ x.tables.length≤N) (hB:∀ t∈x.tables,∀ r∈t,gK 1 r)
  (H:∀ e,(e∈w∨∃ y∈l,e∈y)→∀ r,gK 3 r→nM r c d env e=some (ev e r)) :
  ∀ i,i≤x.tables.length→∀ rows:Rows,rows.length≤R ^ i→(∀ r∈rows,gK i r)→Q6 x rows (i:Nat) =
   some (if (joE (QQ (fun t l=>(t,l.map ev)) (x.tables.drop i) (l.drop i)) rows).2≠0 then ([],(joE (QQ (fun t l=>(t,l.map ev)) (x.tables.drop i) (l.drop i)) rows).2) else whE (w.map ev) (joE (QQ (fun t l=>(t,l.map ev)) (x.tables.drop i) (l.drop i)) rows).1):=by
 have pw:∀ i,i≤x.tables.length→R ^ i≤N:=fun i hi=>QR (XA R1 hi) hRN;refine eO ?_ ?_
 ·intro rows hr hP;rw [Q6];have:=pw _ (XI _);simp only [bU,WN,decide_false,QD,if_false,hw,WS,XT,joE,ne_eq,not_true_eq_false,QB];rw [bP9 hwl (fun e he=>H e (.inl he)) rows (by omega) (fun r hr=>aD1 t3 (hP r hr))];rfl
 ·intro i hi ih rows hr hP;have hil:i<l.length:=by omega
  have hio:i<x.on_.length:=by rw [ho]; simpa using hil
  have pi:=pw i (by omega);have ps:=pw (i+1) (by omega);have ht:=hR _ (QE hi);have hcl:(lK rows x.tables[i]).length≤R ^ (i+1):=by rw [aMa,XL]; exact XK hr ht
  have hRN1:R≤1048576:=QR (QR (by have:=XA R1 (show 1≤i+1 by omega); simpa using this) ps) hN;rw [Q6,bR hi];simp only [bU,hi,decide_true,if_true,QB,QA];have j1:=bX5 (x19:=(i:Int)) (p0:=x) (x4:=rows) (t:=x.tables[i]) (by rw [← aMa]; omega) (by omega) (by omega) (fun y hy=>by have:=(hP y hy).1; omega) (fun y hy=>by have:=(hB _ (QE hi) y hy).1; omega) 0 (by omega) [] (by simp);rw [show ((0:Nat):Int)=0 from rfl] at j1;rw [j1,bR hio];have e1:x.on_[i]=l[i].map (cK.mk c d env):=by simp [ho]
  simp only [QB,QA,QW,QO,e1];have hcB:∀ r∈lK rows x.tables[i],gK (i+1) r:=bC6 hP (hB _ (QE hi));rw [bP9 (hl _ (QE hil)) (fun e he=>H e (.inr ⟨_,QE hil,he⟩)) _ (by omega) (fun r hr=>aD1 (by omega) (hcB r hr))];simp only [QA];rw [QF hi,QF hil,WT,joE];by_cases h0:(whE (l[i].map ev) (lK rows x.tables[i])).2=0
  ·simp only [h0,decide_true,QG,QD,if_false,ne_eq,not_true_eq_false];rw [dL hi (by omega)];exact ih _ (QR (aHf _ _) hcl) fun r hr=>hcB r ((T9 _ _).subset hr)
  ·simp [h0]
theorem bJ1 (x y:aA) : -1≤qK x y∧qK x y≤1:=by
 have h:=aL6 x y;unfold rY at h;generalize qK x y=n at h
 repeat' split at h
 all_goals (simp only [QH] at h; omega)
def aAk (N:Nat):Prop:=∀ (x:eT) (l:List aV),l.length≤N→x.order.length≤1048576→(∀ k∈l,k.keys.length=x.order.length)→aJd l (dJ.mk x)=some (iY (kLt (x.order.map (·.desc))) [] l)
theorem cEd {x:eT} {a b:aV} (ho:x.order.length≤1048576) (ha:a.keys.length=x.order.length) (hb:b.keys.length=x.order.length) :
  ∀ i,i≤x.order.length→∃ n,aB1 x a b (i:Nat)=some n∧decide (n<0)=nY ((x.order.map (·.desc)).drop i) (a.keys.drop i) (b.keys.drop i):=by
 refine eO ?_ ?_
 ·refine ⟨0,?_,?_⟩
  ·rw [aB1]; simp
  ·rw [XU (by simp)]; simp [nY]
 ·intro i hi ih;obtain ⟨n,h1,h2⟩:=ih;have ia:i<a.keys.length:=by omega
  have ib:i<b.keys.length:=by omega
  have id:i<(x.order.map (·.desc)).length:=by simpa using hi
  rw [aB1];simp only [bU,hi,decide_true,if_true,bR hi,bR ia,bR ib,QB,QA,bEb,aL6];rw [QF ia,QF ib,QF id,nY];have hr:=bJ1 a.keys[i] b.keys[i];generalize qK a.keys[i] b.keys[i]=o at hr ⊢;rw [cZ (n:=0 - o) (by omega) (by omega)];have J:∀ m:Int,∃ n,aD4 x (i:Int) a b m=some n∧decide (n<0)=if m≠0 then decide (m<0) else nY ((x.order.map (·.desc)).drop (i+1)) (a.keys.drop (i+1)) (b.keys.drop (i+1)):=by
   intro m;rw [aD4];by_cases hm:m=0
   ·refine ⟨n,?_,?_⟩
    ·rw [if_neg (by simp [hm]),dL hi (by omega)]; exact h1
    ·rw [if_neg (by simp [hm])]; exact h2
   ·exact ⟨m,by rw [if_pos (by simp [hm])],by rw [if_pos hm]⟩
  simp only [XF];by_cases hd:x.order[i].desc=true
  ·rw [if_pos hd];simp only [hd,if_true];have:=J (0 - o)
   rwa [XZ] at this ⊢
  ·rw [if_neg hd];simp only [hd,QD,if_false];exact J o
theorem cD5 {x:eT} {a b:aV} (ho:x.order.length≤1048576) (ha:a.keys.length=x.order.length) (hb:b.keys.length=x.order.length) :
  ∃ n,tY a b x=some n∧decide (n<0)=kLt (x.order.map (·.desc)) a b:=by
 have:=cEd ho ha hb 0 (by omega);unfold tY kLt;simpa using this
theorem bWp {α:Type} (A:List α) (x:α) (Z:List α):idx (A++x::Z) (A.length:Int)=some x:=by rw [oZ]; simp
theorem cJ9 {α:Type} (A:List α) (x y:α) (Z:List α):iC (A++x::Z) (A.length:Int) y=some (A++y::Z):=by
 unfold iC; rw [if_pos ⟨by omega,by simp⟩]; simp
def KL (m:Nat) (l:List aV):Prop:=∀ k∈l,k.keys.length=m
theorem aB7 {α β γ:Type} (f:α→β) (g:β→γ×Int):∀ l:List α,bL g (l.map f)=bL (fun x=>g (f x)) l
 | []=>rfl
 | x::l=>by simp only [QN,bL,aB7 f g l]
theorem aLo {α β:Type} {g:α→β×Int}:∀ {l:List α},(bL g l).2=0→(bL g l).1.length=l.length
 | [],_=>rfl
 | x::l,h=>by
  rw [bL] at h ⊢;by_cases h1:(g x).2=0
  ·by_cases h2:(bL g l).2=0
   ·simp [h1,h2,aLo h2]
   ·simp [h1,h2] at h
  ·simp [h1] at h
theorem aFu {α β:Type} {g:α→β×Int} (l:List α):(bL g l).1.length≤l.length:=by
 by_cases h:(bL g l).2=0
 ·rw [aLo h]; exact XI _
 ·cases l with
  | nil=>simp [bL]
  | cons x l =>
   rw [bL] at h ⊢;by_cases h1:(g x).2=0
   ·by_cases h2:(bL g l).2=0
    ·simp [h1,h2] at h
    ·simp [h1,h2]
   ·simp [h1]
theorem aB0 {α β:Type} {g:α→β×Int}:∀ {l:List α} {y:β},y∈(bL g l).1→∃ x∈l,y=(g x).1∧(g x).2=0
 | [],y,h=>by simp [bL] at h
 | x::l,y,h=>by
  rw [bL] at h;by_cases h1:(g x).2=0
  ·by_cases h2:(bL g l).2=0
   ·simp only [h1,h2,ne_eq,not_true_eq_false,if_false,QL] at h;rcases h with rfl | h
    ·exact ⟨x,by simp,rfl,h1⟩
    ·obtain ⟨z,hz,e⟩:=aB0 h;exact ⟨z,WR _ hz,e⟩
   ·simp [h1,h2] at h
  ·simp [h1] at h
abbrev Sb (c:aX) (d:GDb) (env:Rows) (k:bD):lU:=lU.mk (cK.mk c d env k.expr) k.desc
theorem bW3 (l:List aV) (hl:l.length≤1048576):∀ i,i≤l.length→∀ acc:Rows,acc.length≤i→Z0 l acc (i:Nat)=some (acc++(l.drop i).map (·.row),0):=by
 refine eO ?_ ?_
 ·intro acc _;rw [Z0]; simp
 ·intro i hi ih acc ha;rw [Z0];simp only [bU,hi,decide_true,if_true,bR hi,QB,QA];rw [sF (by simp only [QM]; omega)];simp only [QA];rw [dL hi (by omega),ih _ (by simp only [QI,QM]; omega),QF hi];simp only [QN,WF,WM]
abbrev nW (ev:aJ→Gf) (ks:List bD) (r:Row1):Row1×Int:=bL (fun k:bD=>ev k.expr r) ks
theorem bVo {N:Nat} (hN:N≤1048576) (hS:aAk N) {P:Row1→Prop} {c:aX} {d:GDb} {env:Rows} {ev:aJ→Gf} {ks:List bD} {x:eT} (hx:x.order=ks.map (Sb c d env)) (hk:ks.length≤1048576)
  (H:∀ k∈ks,∀ r,P r→nM r c d env k.expr=some (ev k.expr r)) {rows:Rows} (hr:rows.length≤N) (hP:∀ r∈rows,P r) :
  ∀ i,i≤rows.length→∀ b:List aV,b.length=i→KL ks.length b→X4 rows x (i:Nat) b =
   if (bL (nW ev ks) (rows.drop i)).2≠0 then some ([],(bL (nW ev ks) (rows.drop i)).2)
   else some ((iY (kLt (ks.map (·.desc))) [] (b++QQ aV.mk (rows.drop i) (bL (nW ev ks) (rows.drop i)).1)).map (·.row),0):=by
 have ho:x.order.length=ks.length:=by rw [hx,WW]
 have hd:x.order.map (·.desc)=ks.map (·.desc):=by rw [hx,XC]; rfl
 refine eO ?_ ?_
 ·intro b hb hK;rw [X4];simp only [bU,WN,decide_false,QD,if_false,WS,bL,ne_eq,not_true_eq_false,XT,WV,QB];rw [hS x b (by omega) (by omega) (fun k hk=>by rw [ho]; exact hK k hk)];simp only [QA];have hl:(iY (kLt (x.order.map (·.desc))) [] b).length=b.length:=by simpa using (aFg (kLt (x.order.map (·.desc))) b []).length_eq
  have:=bW3 (iY (kLt (x.order.map (·.desc))) [] b) (by omega) 0 (by omega) [] (by simp);rw [hd] at this;simpa [hd] using this
 ·intro i hi ih b hb hK;rw [X4,bR hi,QF hi];simp only [bU,hi,decide_true,if_true,QB,QA,bL];have hPr:=hP _ (QE hi);have m:=aCr (p:=x.order) (b:=32) (g:=fun k=>ev k.eval.c3 rows[i]) (F:=fun y3=>nM rows[i] y3.eval.c0 y3.eval.c1 y3.eval.c2 y3.eval.c3)
   (L:=fun acc j=>aD6 rows[i] rows (i:Int) x b acc j) (E:=fun e=>([],e)) (K:=fun acc=>(appG 48 b ([(aV.mk rows[i] acc)]:List aV))>>=fun (y6:List aV)=>X4 rows x (QC .i64 ((i:Int)+1)) y6)
   (by omega) (by omega) (fun k hk=>by
    rw [hx] at hk;obtain ⟨q,hq,rfl⟩:=WL.1 hk;exact H q hq _ hPr) (fun j acc=>by rw [aD6]) [] (by simp)
  rw [m,hx,aB7];simp only [QO];by_cases h0:(bL (fun k:bD=>ev k.expr rows[i]) ks).2=0
  ·have hkl:=aLo h0;have ea:appG 48 b [aV.mk rows[i] (bL (fun k:bD=>ev k.expr rows[i]) ks).1]=some (b++[aV.mk rows[i] (bL (fun k:bD=>ev k.expr rows[i]) ks).1]):=nT (by simp only [QM]; omega);simp only [nW,h0,ne_eq,not_true_eq_false,if_false,ea,QB,QA];rw [dL hi (by omega),ih _ (by simp [hb]) (fun k hk=>by
    rcases QV.1 hk with hk | hk
    ·exact hK k hk
    ·simp at hk; subst hk; exact hkl)]
   by_cases h1:(bL (nW ev ks) (rows.drop (i+1))).2=0
   ·simp only [h1,ne_eq,not_true_eq_false,if_false,WT,WF,WM]
   ·simp [h1]
  ·simp [h0,nW]
theorem bWj {N:Nat} (hN:N≤1048576) (hS:aAk N) {P:Row1→Prop} {c:aX} {d:GDb} {env:Rows} {ev:aJ→Gf} {ks:List bD} {x:eT} (hx:x.order=ks.map (Sb c d env)) (hk:ks.length≤1048576)
  (H:∀ k∈ks,∀ r,P r→nM r c d env k.expr=some (ev k.expr r)) {rows:Rows} (hr:rows.length≤N) (hP:∀ r∈rows,P r) :
  aMr x rows=some (kV (ks.map fun k=>(ev k.expr,k.desc)) rows):=by
 have:=bVo hN hS hx hk H hr hP 0 (by omega) [] rfl (fun k hk=>by simp at hk);rw [show ((0:Nat):Int)=0 from rfl] at this;rw [aMr,this];unfold kV;have e:(fun row:Row1=>bL (fun k:Gf×Bool=>k.1 row) (ks.map fun k=>(ev k.expr,k.desc)))=nW ev ks:=by
  funext row; rw [aB7]
 have e2:(ks.map fun k=>(ev k.expr,k.desc)).map (·.2)=ks.map (·.desc):=by rw [XC]; rfl
 rw [e,e2,QW,QO];split <;> rfl
theorem cOg {P:Row1→Prop} {c:aX} {d:GDb} {env:Rows} {ev:aJ→Gf} {l:List aJ} (hl:l.length≤1048576) (H:∀ e∈l,∀ r,P r→nM r c d env e=some (ev e r)) {r:Row1} (hr:P r) :
  aF8 r (l.map (cK.mk c d env))=some (bL (fun e=>ev e r) l):=by
 have m:=aCr (p:=l.map (cK.mk c d env)) (b:=32) (g:=fun k=>ev k.c3 r) (F:=fun y1=>nM r y1.c0 y1.c1 y1.c2 y1.c3)
  (L:=fun acc j=>aH9 r (l.map (cK.mk c d env)) j acc) (E:=fun e=>([],e)) (K:=fun acc=>some (acc,0)) (by simpa using hl) (by omega) (fun k hk=>by
   obtain ⟨q,hq,rfl⟩:=WL.1 hk;exact H q hq _ hr) (fun j acc=>by rw [aH9]) [] (by simp)
 rw [aF8,aNh,m,aB7];by_cases h0:(bL (fun e=>ev e r) l).2=0
 ·simp only [h0,ne_eq,not_true_eq_false,if_false,QO,QB,QA];rw [← h0]
 ·have e:(bL (fun e=>ev e r) l).1=[]:=by
   cases l with
   | nil=>simp [bL] at h0
   | cons x l =>
    rw [bL] at h0 ⊢;by_cases h1:(ev x r).2=0
    ·by_cases h2:(bL (fun e=>ev e r) l).2=0
     ·simp [h1,h2] at h0
     ·simp [h1,h2]
    ·simp [h1]
  simp only [h0,ne_eq,not_false_eq_true,if_true,QB,QA];rw [← e]
theorem bY8 (a b:Row1) (ha:a.length≤1048576):aK4 a b=some (decide (a=b)):=by
 unfold aK4;by_cases hl:a.length=b.length
 ·have key:∀ i,i≤a.length→aAm a b (i:Nat)=some (decide (a.drop i=b.drop i)):=by
   refine eO ?_ ?_
   ·rw [aAm];rw [WS,hl,WS]; simp
   ·intro i hi ih;have hb:i<b.length:=by omega
    rw [aAm];simp only [bU,hi,decide_true,if_true,bR hi,bR hb,QB,QA];rw [dL hi (by omega),ih,QF hi,QF hb];have e:=bEf a[i] b[i];unfold aR7 at e;by_cases h:a[i]=b[i]
    ·rw [if_neg (by rw [e.2 h]; decide),h]; simp only [List.cons.injEq,true_and]
    ·rw [if_pos (by rw [Bool.eq_false_iff.2 (fun h'=>h (e.1 h'))]; rfl)]; simp only [List.cons.injEq,h,false_and,decide_false]
  have:=key 0 (by omega);simp only [QW] at this;rw [if_neg (by simp; omega)];exact this
 ·have:a≠b:=fun e=>hl (by rw [e]);rw [if_pos (by simp; omega)];simp [this]
theorem cCl (o:Rows) (y:Row1) (ho:o.length≤1048576) (hy:y.length≤1048576):aK5 o (tK.mk y)=some (decide (y∈o)):=by
 have key:∀ i,i≤o.length→∃ n,J9 o (tK.mk y) (i:Nat)=some n∧decide (0≤n)=decide (y∈o.drop i):=by
  refine eO ?_ ?_
  ·refine ⟨-1,?_,?_⟩
   ·rw [J9]; simp
   ·simp
  ·intro i hi ⟨n,h1,h2⟩;rw [J9];simp only [bU,hi,decide_true,if_true,bR hi,QB,QA,aLp,bY8 y _ hy,dL hi (show o.length≤4611686018427387904 by omega)];rw [QF hi];by_cases h:y=o[i]
   ·refine ⟨i,by simp [h],?_⟩;rw [decide_eq_true (show (0:Int)≤i by omega),decide_eq_true (by rw [← h]; simp)]
   ·refine ⟨n,?_,?_⟩
    ·rw [if_neg (by simp [h])]; exact h1
    ·rw [h2]; simp only [QL,h,false_or]
 obtain ⟨n,h1,h2⟩:=key 0 (by omega);unfold aK5 aR8;rw [show ((0:Nat):Int)=0 from rfl] at h1;rw [h1];simpa using h2
theorem cBc (r:Row1) (h:r.length≤1048576):aL4 r=some r:=by
 unfold aL4;split
 ·rename_i e;simp only [decide_eq_true_eq] at e;have:r=[]:=XP (by omega);rw [this]
 ·rw [nT (by simp only [WJ]; omega)]; rfl
theorem bY2 (p:Rows) (hp:p.length≤1048576) (hr:∀ y∈p,y.length≤1048576):aCz p=some (lX [] p):=by
 have key:∀ i,i≤p.length→∀ acc:Rows,acc.length≤i→aDj p (i:Nat) acc=some (lX acc (p.drop i)):=by
  refine eO ?_ ?_
  ·intro acc _;rw [aDj]; simp [lX]
  ·intro i hi ih acc ha;have hy:=hr _ (QE hi);rw [aDj];simp only [bU,hi,decide_true,if_true,bR hi,QB,QA,cCl acc _ (by omega) hy,cBc _ hy];rw [QF hi,lX];by_cases h:p[i]∈acc
   ·simp only [h,decide_true,QG,QD,if_false,if_true];rw [aB5,dL hi (by omega)];exact ih acc (by omega)
   ·simp only [h,decide_false,QT,if_true,if_false];rw [sF (by simp only [QM]; omega)];simp only [QA];rw [aB5,dL hi (by omega)];exact ih _ (by simp only [QI,QM]; omega)
 unfold aCz;simpa using key 0 (by omega) [] (by simp)
theorem aLf:∀ (l o:Rows),(lX o l).length≤o.length+l.length
 | [],o=>by simp [lX]
 | x::l,o=>by
  rw [lX];split
  ·have:=aLf l o; simp; omega
  ·have:=aLf l (o++[x]); simp at this ⊢; omega
theorem bO7 (n:Int) (r:Rows) (hr:r.length≤1048576):((some (if (decide (0≤n))=true then (decide (n<(r.length:Int))) else false))>>=fun (y8:Bool)=>if y8=true then ((gY r 0 n)>>=fun (y9:List (List aA))=>some (y9,(0:Int))) else (some (r,0)))=some (P9 n r,0):=by
 unfold P9;simp only [QB,QA];by_cases h0:0≤n
 ·by_cases h1:n<(r.length:Int)
  ·obtain ⟨m,rfl⟩:∃ m:Nat,n=m:=⟨n.toNat,by omega⟩
   have:m≤r.length:=by omega
   simp [h0,h1,aMs this]
  ·simp [h0,h1]
 ·simp [h0]
theorem cN0 {x:eT} (r:Rows) (hr:r.length≤1048576) (hl:∀ y∈r,y.length≤1048576):(if x.distinct=true then ((aCz r)>>=fun (y6:List (List aA))=>yH x y6) else (yH x r))=some (xQ x.distinct x.limit r,0):=by
 have J:∀ y:Rows,y.length≤1048576→yH x y=some (P9 x.limit y,0):=fun y hy=>by
  unfold yH aK1;exact bO7 x.limit y hy
 unfold xQ;by_cases hd:x.distinct=true
 ·rw [if_pos hd,if_pos hd,bY2 r hr hl];exact J _ (by have:=aLf r []; simp at this; omega)
 ·rw [if_neg hd,if_neg hd]; exact J r hr
theorem bZy {N:Nat} (hS:aAk N) {c:aX} {d:GDb} {env:Rows} {ev:aJ→Gf} {x:eT} {l:List (List aJ)} {it:List aJ} {ks:List bD} {R:Nat} (hN:N≤1048576) (R1:1≤R)
  (ho:x.on_=l.map fun l=>l.map (cK.mk c d env)) (hw:x.where_=w.map (cK.mk c d env)) (hx:x.order=ks.map (Sb c d env)) (hi:x.items=⟨it.map (cK.mk c d env)⟩)
  (hlt:l.length=x.tables.length) (hl:∀ y∈l,y.length≤1048576) (hwl:w.length≤1048576) (hkl:ks.length≤1048576) (hil:it.length≤1048576) (t3:x.tables.length≤3)
  (hR:∀ t∈x.tables,t.length≤R) (hRN:R ^ x.tables.length≤N) (hB:∀ t∈x.tables,∀ r∈t,gK 1 r)
  (H:∀ e,(e∈w∨(∃ y∈l,e∈y)∨(∃ k∈ks,e=k.expr)∨e∈it)→∀ r,gK 3 r→nM r c d env e=some (ev e r)) :
  S9 x=some (aHh ⟨QQ (fun t l=>(t,l.map ev)) x.tables l,w.map ev,ks.map fun k=>(ev k.expr,k.desc),it.map ev,x.distinct,x.limit⟩):=by
 have j:=cK6 hN R1 ho hw hlt hl hwl t3 hR hRN hB (fun e he=>H e (he.elim .inl fun h=>.inr (.inl h))) 0 (by omega) [[]] (by simp) (fun r hr=>by simp at hr; subst hr; exact ⟨by simp,by simp⟩);rw [show ((0:Nat):Int)=0 from rfl,QW,QW] at j;rw [S9,aR3,j];unfold aHh;dsimp only;have js:(QQ (fun (t:Rows) (l:List aJ)=>(t,l.map ev)) x.tables l).length=x.tables.length:=by simp [hlt]
 have jm:∀ (T:List Rows) (L:List (List aJ)),∀ s∈QQ (fun (t:Rows) (l:List aJ)=>(t,l.map ev)) T L,s.1∈T:=by
  intro T
  induction T with
  | nil=>intro L s hs; simp at hs
  | cons t T ih =>
   intro L s hs;cases L with
   | nil=>simp at hs
   | cons y L =>
    rw [WT,QL] at hs;rcases hs with rfl | hs
    ·simp
    ·exact WR _ (ih L s hs)
 have jl:=aQ9 R (QQ (fun (t:Rows) (l:List aJ)=>(t,l.map ev)) x.tables l) [[]] 1 (fun s hs=>hR _ (jm _ _ s hs)) (by simp);have jB:=aSw (QQ (fun (t:Rows) (l:List aJ)=>(t,l.map ev)) x.tables l) [[]] 0 (fun s hs=>hB _ (jm _ _ s hs)) (fun r hr=>by simp at hr; subst hr; exact ⟨by simp,by simp⟩);rw [js,Nat.one_mul] at jl;rw [js,Nat.zero_add] at jB;generalize joE (QQ (fun (t:Rows) (l:List aJ)=>(t,l.map ev)) x.tables l) [[]]=J at jl jB ⊢;obtain ⟨J1,J2⟩:=J;dsimp only at jl jB ⊢;by_cases h0:J2=0
 ·subst h0;have wl:=aHf (w.map ev) J1;have wB:∀ r∈(whE (w.map ev) J1).1,gK 3 r:=fun r hr=>aD1 t3 (jB r ((T9 _ _).subset hr));simp only [ne_eq,not_true_eq_false,if_false,QB,QA];generalize whE (w.map ev) J1=W at wl wB ⊢;obtain ⟨W1,W2⟩:=W;dsimp only at wl wB ⊢;by_cases h1:W2=0
  ·subst h1;simp only [decide_true,QG,QD,if_false];rw [bWj hN hS hx hkl (fun k hk r hr=>H k.expr (.inr (.inr (.inl ⟨k,hk,rfl⟩))) r hr) (QR wl (QR jl hRN)) wB];simp only [QA];have sl:(kV (ks.map fun k=>(ev k.expr,k.desc)) W1).1.length≤W1.length:=by
    unfold kV;split
    ·simp
    ·rw [WW,(aFg _ _ _).length_eq];simp only [QO,List.length_zipWith];omega
   have sB:∀ r∈(kV (ks.map fun k=>(ev k.expr,k.desc)) W1).1,gK 3 r:=by
    unfold kV;split
    ·simp
    ·intro r hr;obtain ⟨k,hk,rfl⟩:=WL.1 hr;have hk2:=(aFg _ _ _).subset hk;rw [QO] at hk2;have:∀ (A B:List Row1) (k:aV),k∈QQ aV.mk A B→k.row∈A:=by
      intro A
      induction A with
      | nil=>intro B k hk; simp at hk
      | cons a A ih =>
       intro B k hk;cases B with
       | nil=>simp at hk
       | cons b B =>
        rw [WT,QL] at hk;rcases hk with rfl | hk
        ·simp
        ·exact WR _ (ih B k hk)
     exact wB _ (this _ _ _ hk2)
   generalize kV (ks.map fun k=>(ev k.expr,k.desc)) W1=S at sl sB ⊢;obtain ⟨S1,S2⟩:=S;dsimp only at sl sB ⊢;by_cases h2:S2=0
   ·subst h2;simp only [decide_true,QG,QD,if_false];have sN:S1.length≤1048576:=by omega
    have m:=aCr (p:=S1) (b:=24) (g:=fun row=>bL (fun e=>ev e row) it) (F:=fun y3=>aF8 y3 x.items.c0)
     (L:=fun acc j=>aDv (S1,0) x j acc) (E:=fun e=>([],e)) (K:=fun acc=>if x.distinct=true then ((aCz acc)>>=fun (y6:List (List aA))=>yH x y6) else (yH x acc))
     sN (by omega) (fun r hr=>by rw [hi]; exact cOg hil (fun e he r hr=>H e (.inr (.inr (.inr he))) r hr) (sB r hr)) (fun j acc=>by rw [aDv]) [] (by simp)
    rw [m];have e:oM (it.map ev) S1=bL (fun row=>bL (fun e=>ev e row) it) S1:=by
     unfold oM;congr 1;funext row;rw [aB7]
    rw [e];have ml:=aFu (g:=fun row=>bL (fun e=>ev e row) it) S1;have mm:∀ y∈(bL (fun row=>bL (fun e=>ev e row) it) S1).1,y.length≤1048576:=by
     intro y hy;obtain ⟨r,_,rfl,_⟩:=aB0 hy;exact QR (aFu _) hil
    generalize bL (fun row=>bL (fun e=>ev e row) it) S1=M at ml mm ⊢;obtain ⟨M1,M2⟩:=M;dsimp only at ml mm ⊢;by_cases h3:M2=0
    ·subst h3;simp only [ne_eq,not_true_eq_false,if_false,QO];exact cN0 M1 (by omega) mm
    ·simp [h3]
   ·simp [h2]
  ·simp [h1]
 ·simp [h0]
def nK (d:GDb) (l:List Int):Bool:=l.all fun i=>decide (0≤i)&&decide (i<(d.tables.length:Int))
def xX (d:GDb) (ev:aJ→Gf) (p:aQ):Rows×Int:=if (p.tables.length=0∨p.on_.length≠p.tables.length)∨nK d p.tables=false then ([],4) else aHh (nU d ev p)
theorem cI6 {c:aX} {d:GDb} {env:Rows} {p:aQ} {b0:List Rows} {b1:List (List cK)} {w:List cK} (ho:p.order.length≤1048576) (hi:p.items.length≤1048576) :
  ∀ i,i≤p.order.length→∀ acc:List lU,acc.length≤i→aDn c d env p b1 w (b0,(i:Nat),acc)=S9 (eT.mk b0 b1 w (acc++(p.order.drop i).map (Sb c d env)) ⟨p.items.map (cK.mk c d env)⟩ p.distinct p.limit):=by
 refine eO ?_ ?_
 ·intro acc _;rw [aDn,aSn c d env p.items hi];simp only [bU,WN,decide_false,QD,if_false,QB,QA,WS,XG,WV];generalize S9 _=q;cases q <;> rfl
 ·intro i h ih acc ha;rw [aDn,QF h];simp only [bU,h,decide_true,if_true,bR h,QB,QA];rw [aSn c d env [p.order[i].expr] (by simp)];simp only [QA,QN,XG];have e:idx [cK.mk c d env p.order[i].expr] 0=some (cK.mk c d env p.order[i].expr):=rfl;rw [e];simp only [QA];rw [nT (by simp only [QM]; omega)];simp only [QA];rw [dL h (by omega),ih _ (by simp only [QI,QM]; omega)];simp only [WF,WM]
theorem cGc {c:aX} {d:GDb} {env:Rows} {p:aQ} {b0:List Rows} (hn:p.on_.length≤1048576) (hn1:∀ l∈p.on_,l.length≤1048576) (hw:p.where_.length≤1048576) (ho:p.order.length≤1048576) (hi:p.items.length≤1048576) :
  ∀ i,i≤p.on_.length→∀ acc:List (List cK),acc.length≤i→N8 c d env p b0 (i:Nat) acc=S9 (eT.mk b0 (acc++(p.on_.drop i).map fun l=>l.map (cK.mk c d env)) (p.where_.map (cK.mk c d env)) (p.order.map (Sb c d env)) ⟨p.items.map (cK.mk c d env)⟩ p.distinct p.limit):=by
 refine eO ?_ ?_
 ·intro acc _;rw [N8,aSn c d env p.where_ hw];simp only [bU,WN,decide_false,QD,if_false,QB,QA,WS,XG,WV];have:=cI6 (c:=c) (d:=d) (env:=env) (b0:=b0) (b1:=acc) (w:=p.where_.map (cK.mk c d env)) ho hi 0 (by omega) [] (by simp);rw [show ((0:Nat):Int)=0 from rfl,QW,QO] at this;exact this
 ·intro i h ih acc ha;rw [N8,QF h];simp only [bU,h,decide_true,if_true,bR h,QB,QA];rw [aSn c d env _ (hn1 _ (QE h))];simp only [QA];rw [nT (by simp only [QM]; omega)];simp only [QA];rw [dL h (by omega),ih _ (by simp only [QI,QM]; omega)];simp only [QN,WF,WM]
theorem aZt {d:GDb} {i:Int} (h0:0≤i) (h1:i<(d.tables.length:Int)):∃ t,idx d.tables i=some t∧t.rows=rowsOf d i∧t∈d.tables:=by
 obtain ⟨n,rfl⟩:∃ n:Nat,i=n:=⟨i.toNat,by omega⟩
 have hn:n<d.tables.length:=by omega
 refine ⟨d.tables[n],bR hn,?_,QE hn⟩;unfold rowsOf;simp [hn]
theorem cEz {c:aX} {d:GDb} {env:Rows} {p:aQ} (ht:p.tables.length≤1048576) :
  ∀ i,i≤p.tables.length→∀ acc:List Rows,acc.length≤i→aC1 p c d env (i:Nat) acc=if nK d (p.tables.drop i)=true then N8 c d env p (acc++(p.tables.drop i).map (rowsOf d)) 0 [] else some ([],4):=by
 refine eO ?_ ?_
 ·intro acc _;rw [aC1];simp [nK]
 ·intro i h ih acc ha;rw [aC1,QF h];simp only [bU,h,decide_true,if_true,bR h,QB,QA,orB];have e:nK d (p.tables[i]::p.tables.drop (i+1))=((decide (0≤p.tables[i])&&decide (p.tables[i]<(d.tables.length:Int)))&&nK d (p.tables.drop (i+1))):=rfl;by_cases h0:p.tables[i]<0
  ·have:¬ 0≤p.tables[i]:=by omega
   rw [if_neg (show ¬ nK d (p.tables[i]::p.tables.drop (i+1))=true by rw [e]; simp [this])]; simp [h0]
  ·by_cases h1:(d.tables.length:Int)≤p.tables[i]
   ·have:¬ p.tables[i]<(d.tables.length:Int):=by omega
    rw [if_neg (show ¬ nK d (p.tables[i]::p.tables.drop (i+1))=true by rw [e]; simp [this])]; simp [h1]
   ·have h0':0≤p.tables[i]:=by omega
    have h1':p.tables[i]<(d.tables.length:Int):=by omega
    obtain ⟨t,e1,e2,_⟩:=aZt h0' h1';simp only [e,h0,h1,h0',h1',decide_true,decide_false,QU,QD,if_false,QP,e1,e2,QA];rw [nT (by simp only [QM]; omega)];simp only [QA];rw [dL h (by omega),ih _ (by simp only [QI,QM]; omega)];simp only [QN,WF,WM]
structure aNr (N R:Nat) (p:aQ):Prop where
 t3:p.tables.length≤3
 RN:R ^ p.tables.length≤N
 on:p.on_.length≤1048576
 on1:∀ l∈p.on_,l.length≤1048576
 wh:p.where_.length≤1048576
 ord:p.order.length≤1048576
 it:p.items.length≤1048576
structure DbB (R:Nat) (d:GDb):Prop where
 R1:1≤R
 rows:∀ t∈d.tables,t.rows.length≤R
 row:∀ t∈d.tables,∀ r∈t.rows,gK 1 r
theorem bNs {α β γ δ:Type} (f:α→β) (g:β→γ→δ):∀ (A:List α) (B:List γ),QQ g (A.map f) B=QQ (fun a b=>g (f a) b) A B
 | [],B=>by simp
 | a::A,[]=>by simp
 | a::A,b::B=>by simp only [QN,WT,bNs f g A B]
theorem aPk {d:GDb} {l:List Int} (h:nK d l=true) {t:Rows} (ht:t∈l.map (rowsOf d)):∃ x∈d.tables,x.rows=t:=by
 obtain ⟨i,hi,rfl⟩:=WL.1 ht;have:=XV.1 h i hi;simp only [QJ,decide_eq_true_eq] at this;obtain ⟨x,_,h2,h3⟩:=aZt this.1 this.2;exact ⟨x,h3,h2⟩
theorem bXs {N R:Nat} (hS:aAk N) (hN:N≤1048576) {c:aX} {d:GDb} (hd:DbB R d) {env:Rows} {ev:aJ→Gf} {p:aQ} (hp:aNr N R p)
  (H:∀ e∈iZ p,∀ r,gK 3 r→nM r c d env e=some (ev e r)):G7 c d env p=some (xX d ev p):=by
 rw [G7];unfold xX;simp only [QB,QA,orB];by_cases h0:p.tables.length=0
 ·simp [h0]
 by_cases h1:p.on_.length=p.tables.length
 case neg =>
  have:¬ (p.on_.length:Int)=(p.tables.length:Int):=by omega
  simp [h1,this]
 have e0:¬ (p.tables.length:Int)=0:=by omega
 have e1:(p.on_.length:Int)=(p.tables.length:Int):=by omega
 have t3:=hp.t3;have k:=cEz (c:=c) (d:=d) (env:=env) (p:=p) (by omega) 0 (by omega) [] (by simp);rw [show ((0:Nat):Int)=0 from rfl,QW,QO] at k;simp only [e0,e1,decide_false,decide_true,QG,XM,QD,if_false,k,h0,h1,ne_eq,not_true_eq_false,or_self,false_or];by_cases h2:nK d p.tables=true
 case neg=>simp [h2]
 rw [if_pos h2,if_neg (by simp [h2])];have k1:=cGc (c:=c) (d:=d) (env:=env) (p:=p) (b0:=p.tables.map (rowsOf d)) hp.on hp.on1 hp.wh hp.ord hp.it 0 (by omega) [] (by simp);rw [show ((0:Nat):Int)=0 from rfl,QW,QO] at k1;rw [k1];have r:=bZy (c:=c) (d:=d) (env:=env) (ev:=ev) hS (x:=eT.mk (p.tables.map (rowsOf d)) (p.on_.map fun l=>l.map (cK.mk c d env)) (p.where_.map (cK.mk c d env)) (p.order.map (Sb c d env)) ⟨p.items.map (cK.mk c d env)⟩ p.distinct p.limit)
  (l:=p.on_) (w:=p.where_) (it:=p.items) (ks:=p.order) (R:=R) hN hd.R1 rfl rfl rfl rfl (by simpa using h1) hp.on1 hp.wh hp.ord hp.it (by simpa using t3)
  (fun t ht=>by obtain ⟨x,hx,rfl⟩:=aPk h2 ht; exact hd.rows x hx) (by simpa using hp.RN) (fun t ht=>by obtain ⟨x,hx,rfl⟩:=aPk h2 ht; exact hd.row x hx)
  (fun e he=>H e (by
   unfold iZ;rcases he with he | ⟨y,hy,he⟩ | ⟨k,hk,rfl⟩ | he
   ·simp [he]
   ·simp only [QV,WX];exact .inl (.inl (.inl ⟨y,hy,he⟩))
   ·simp only [QV,WX];exact .inl (.inr ⟨k,hk,by simp⟩)
   ·simp [he]))
 rw [r];dsimp only;rw [bNs];rfl
section
variable {c:aX} {d:GDb} {env:Rows} {ev:aJ→Gf}
theorem bAq (r:Row1) (hl:env.length≤4194304):aBj r env=some (r::env):=by
 unfold aBj;rw [nT (by simp; omega)]; rfl
theorem cAt {x4:List aJ} {x12:Int} (he:idx x4 x12=some e) (hl:env.length≤4194304) {x3:Rows} (h3:x3.length≤1048576) (H:∀ r∈x3,fZ c d (r::env) e=some (ev e r)) :
  ∀ i,i≤x3.length→∀ acc:Rows,acc.length≤i→aCj env x3 x4 x12 c d (acc,(i:Nat))=if (jN (ev e) (x3.drop i)).2≠0 then some ([],(jN (ev e) (x3.drop i)).2) else K9 env x4 c d (acc++(jN (ev e) (x3.drop i)).1) (QC .i64 (x12+1)):=by
 refine eO ?_ ?_
 ·intro acc _;rw [aCj]; simp [jN]
 ·intro i hi ih acc ha;rw [aCj,QF hi];simp only [bU,hi,decide_true,if_true,bR hi,he,bAq _ hl,QB,QA,H _ (QE hi),cAo,jN];by_cases h0:(ev e x3[i]).2=0
  ·simp only [h0,decide_true,QG,QD,if_false,ne_eq,not_true_eq_false];by_cases ht:tru (ev e x3[i]).1=true
   ·rw [if_pos ht,sF (by simp only [QM]; omega)];simp only [QA];rw [aF1,dL hi (by omega),ih _ (by simp only [QI,QM]; omega)];by_cases h1:(jN (ev e) (x3.drop (i+1))).2=0 <;> simp [h1,ht]
   ·rw [if_neg ht,aF1,dL hi (by omega),ih _ (by show acc.length≤i+1; omega)];by_cases h1:(jN (ev e) (x3.drop (i+1))).2=0 <;> simp [h1,ht]
  ·simp [h0]
theorem bEr {P:Row1→Prop} {l:List aJ} (he:env.length≤4194304) (hl:l.length≤1048576) (H:∀ e∈l,∀ r,P r→fZ c d (r::env) e=some (ev e r)) (rows:Rows) (hr:rows.length≤1048576) (hP:∀ r∈rows,P r) :
  aAt c d env rows l=some (whE (l.map ev) rows):=by
 have key:∀ i,i≤l.length→∀ rows:Rows,rows.length≤1048576→(∀ r∈rows,P r)→K9 env l c d rows (i:Nat)=some (whE ((l.drop i).map ev) rows):=by
  refine eO ?_ ?_
  ·intro rows _ _;rw [K9]; simp [whE]
  ·intro i hi ih rows hr hP;rw [K9,QF hi];simp only [bU,hi,decide_true,if_true,QN,whE];have k:=cAt (c:=c) (d:=d) (ev:=ev) (x4:=l) (x12:=(i:Int)) (bR hi) he hr (fun r hr=>H _ (QE hi) r (hP r hr)) 0 (by omega) [] (by simp);rw [show ((0:Nat):Int)=0 from rfl,QW,QO] at k;rw [k,dL hi (by omega)];by_cases h1:(jN (ev l[i]) rows).2=0
   ·simp only [h1,ne_eq,not_true_eq_false,if_false];exact ih _ (QR (bNb _ _) hr) fun r hr=>hP r ((aDs _ _).subset hr)
   ·simp [h1]
 rw [aAt];simpa using key 0 (by omega) rows hr hP
theorem bKz (r:Row1) (h:r.length≤1048576):aB8 r=some r:=by
 unfold aB8;rw [nT (by simp only [WJ]; omega)];rfl
theorem bTs {x10:Rows} {t:bN} {i:Nat} {p:aQ} (hi:i<x10.length) (ht:t.rows.length≤1048576) (ha:x10[i].length≤1048576) (hB:∀ x∈t.rows,x.length≤1048576) :
  ∀ j,j≤t.rows.length→∀ acc:Rows,acc.length+t.rows.length≤2097152+j→aC3 env x10 x11 t (i:Int) c (d,p,acc,(j:Nat))=V9 env x10 x11 t c d (p,(acc++(t.rows.drop j).map fun b=>x10[i]++b,(QC .i64 ((i:Int)+1)))):=by
 refine eO ?_ ?_
 ·intro acc _;rw [aC3]; simp
 ·intro j hj ih acc hacc;rw [aC3];simp only [bU,hj,decide_true,if_true,bR hj,bR hi,bKz _ ha,QB,QA];rw [nT (by have:=hB _ (QE hj); omega)];simp only [QA];rw [sF (by simp only [QM]; omega)];simp only [QA];rw [dL hj (by omega),ih _ (by simp only [QI,QM]; omega),QF hj];simp only [QN,WF,WM]
theorem cEr {x10:Rows} {t:bN} {p:aQ} (hx:x10.length * t.rows.length≤1048576) (hx4:x10.length≤1048576) (ht:t.rows.length≤1048576) (h4:∀ x∈x10,x.length≤1048576) (hB:∀ x∈t.rows,x.length≤1048576) :
  ∀ i,i≤x10.length→∀ acc:Rows,acc.length=i * t.rows.length→V9 env x10 x11 t c d (p,acc,(i:Nat))=((idx p.on_ x11)>>=fun (y4:List aJ)=>(aAt c d env (acc++lK (x10.drop i) t.rows) y4)>>=fun (y5:(List (List aA))×Int)=>if (!decide (y5.2=0))=true then (some (([]:List (List aA)),y5.2)) else (aAp env c d p y5.1 (QC .i64 (x11+1)))):=by
 refine eO ?_ ?_
 ·intro acc _;rw [V9]; simp [lK]
 ·intro i hi ih acc ha;rw [V9];simp only [bU,hi,decide_true,if_true];have hm:(i+1) * t.rows.length≤x10.length * t.rows.length:=XJ _ hi;rw [WY] at hm;have:=bTs (c:=c) (d:=d) (env:=env) (x11:=x11) (p:=p) hi ht (h4 _ (QE hi)) hB 0 (by omega) acc (by omega);rw [show ((0:Nat):Int)=0 from rfl] at this;rw [this,dL hi (by omega),ih _ (by simp [ha,WY]),QF hi];simp only [lK,WH,WF,QW]
theorem cKu {p:aQ} {R N:Nat} (hN:N≤1048576) (hd:DbB R d) (he:env.length≤4194304) (hp:aNr N R p) (hon:p.on_.length=p.tables.length) (hT:nK d p.tables=true)
  (H:∀ y∈p.on_,∀ e∈y,∀ r,gK 3 r→fZ c d (r::env) e=some (ev e r)) :
  ∀ i,i≤p.tables.length→∀ rows:Rows,rows.length≤R ^ i→(∀ r∈rows,gK i r)→aAp env c d p rows (i:Nat) =
   some (joE (QQ (fun t l=>(rowsOf d t,l.map ev)) (p.tables.drop i) (p.on_.drop i)) rows):=by
 have R1:=hd.R1;have t3:=hp.t3;have pw:∀ i,i≤p.tables.length→R ^ i≤N:=fun i hi=>QR (XA R1 hi) hp.RN;refine eO ?_ ?_
 ·intro rows hr hP;rw [aAp];simp [joE]
 ·intro i hi ih rows hr hP;have hio:i<p.on_.length:=by omega
  have pi:=pw i (by omega);have ps:=pw (i+1) (by omega);have hti:=XV.1 hT _ (QE hi);simp only [QJ,decide_eq_true_eq] at hti;obtain ⟨t,e1,e2,e3⟩:=aZt hti.1 hti.2;have ht:=hd.rows t e3;have hcl:(lK rows t.rows).length≤R ^ (i+1):=by rw [aMa,XL]; exact XK hr ht
  have hRN1:R≤1048576:=QR (QR (by have:=XA R1 (show 1≤i+1 by omega); simpa using this) ps) hN;rw [aAp,bR hi];simp only [bU,hi,decide_true,if_true,QB,QA,e1];have j1:=cEr (c:=c) (d:=d) (env:=env) (x11:=(i:Int)) (p:=p) (x10:=rows) (t:=t) (by rw [← aMa]; omega) (by omega) (by omega) (fun y hy=>by have:=(hP y hy).1; omega) (fun y hy=>by have:=(hd.row t e3 y hy).1; omega) 0 (by omega) [] (by simp);rw [show ((0:Nat):Int)=0 from rfl] at j1;rw [j1,bR hio];simp only [QB,QA,QW,QO];have hcB:∀ r∈lK rows t.rows,gK (i+1) r:=bC6 hP (hd.row t e3);rw [bEr he (hp.on1 _ (QE hio)) (fun e he=>H _ (QE hio) e he) _ (by omega) (fun r hr=>aD1 (by omega) (hcB r hr))];simp only [QA];rw [QF hi,QF hio,WT,joE,← e2];by_cases h0:(whE (p.on_[i].map ev) (lK rows t.rows)).2=0
  ·simp only [h0,decide_true,QG,QD,if_false,ne_eq,not_true_eq_false];rw [dL hi (by omega)];exact ih _ (QR (aHf _ _) hcl) fun r hr=>hcB r ((T9 _ _).subset hr)
  ·simp [h0]
theorem cOd (ks:List bD) (hk:ks.length≤1048576) {a b:Row1} (ha:a.length=ks.length) (hb:b.length=ks.length):aL2 a b ks=some (nY (ks.map (·.desc)) a b):=by
 have key:∀ i,i≤ks.length→aCc a b ks (i:Nat)=some (nY ((ks.map (·.desc)).drop i) (a.drop i) (b.drop i)):=by
  refine eO ?_ ?_
  ·rw [aCc,XU (l:=ks.map (·.desc)) (by simp)]; simp [nY]
  ·intro i hi ih;have ia:i<a.length:=by omega
   have ib:i<b.length:=by omega
   have id:i<(ks.map (·.desc)).length:=by simpa using hi
   rw [aCc];simp only [bU,hi,decide_true,if_true,bR hi,bR ia,bR ib,QB,QA,aL6];rw [QF ia,QF ib,QF id,nY];have hr:=bJ1 a[i] b[i];generalize qK a[i] b[i]=o at hr ⊢;rw [cZ (n:=0 - o) (by omega) (by omega)];have J:∀ m:Int,aBo a b ks (i:Int) m=some (if m≠0 then decide (m<0) else nY ((ks.map (·.desc)).drop (i+1)) (a.drop (i+1)) (b.drop (i+1))):=by
    intro m;rw [aBo];by_cases hm:m=0
    ·rw [if_neg (by simp [hm]),dL hi (by omega),ih,if_neg (by simp [hm])]
    ·rw [if_pos (by simp [hm]),if_pos hm]
   simp only [XF,J];by_cases hd:ks[i].desc=true
   ·simp only [hd,if_true];rw [XZ]
   ·simp only [hd,QD,if_false]
 unfold aL2;simpa using key 0 (by omega)
end
end Go.Ab
