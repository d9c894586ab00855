/- What the functions compute,in plain Lean. -/
import Derived.Test.YthgkmdkjegiaoadGreatFExactChanges
namespace Go.Ab
open Go
theorem gH {n:Int} (h1 : -9223372036854775808≤n) (h2:n≤9223372036854775807):IntKind.wrap .i64 n=n:=by rw [IntKind.wrap_i64]; omega
theorem eU {i n:Nat} (h:i<n) (hn:n≤4611686018427387904):IntKind.wrap .i64 ((i:Int)+1)=((i+1:Nat):Int):=by rw [gH] <;> omega
theorem eF (i n:Nat):decide ((i:Int)<(n:Int))=decide (i<n):=by simp
theorem bFw {α:Type} (l:List α) (i:Nat):idx l (i:Int)=l[i]?:=by simp [idx]
theorem dV {α:Type} {l:List α} {i:Nat} (h:i<l.length):idx l (i:Int)=some l[i]:=by rw [bFw]; simp [h]
theorem fD {M:Nat→Prop} {n:Nat} (h0:M n) (h:∀ i,i<n→M (i+1)→M i):∀ i,i≤n→M i:=by
  have:∀ k i,i+k=n→M i:=by
    intro k
    induction k with
    | zero => intro i hi; have : i = n := by omega
              subst this; exact h0
    | succ k ih=>intro i hi; exact h i (by omega) (ih (i+1) (by omega))
  exact fun i hi=>this (n - i) i (by omega)
theorem bQ8 {α : Type} {p : List α} {F : Int → List α → Option (List α)} (hn : p.length ≤ 4611686018427387904)
    (hF:∀ (i:Nat) b,b.length=p.length→F i b=if i<p.length then (idx p i>>=fun v=>kG b i v>>=fun c=>F (IntKind.wrap .i64 ((i:Int)+1)) c) else some b) :
    ∀ b,b.length=p.length→F 0 b=some p:=by
  have key:∀ i,i≤p.length→∀ b,b.length=p.length→b.take i=p.take i→F (i:Nat) b=some p:=by
    refine fD ?_ ?_
    · intro b hb ht
      rw [hF _ _ hb,if_neg (by omega)]
      rw [← hb,List.take_length] at ht
      rw [ht,hb,List.take_length]
    · intro i hi ih b hb ht
      rw [hF _ _ hb,if_pos hi,dV hi]
      have hs:kG b i p[i]=some (b.set i p[i]):=by
        unfold kG; rw [if_pos ⟨by omega,by simp; omega⟩]; simp
      simp only [Option.bind_eq_bind,Option.bind_some,hs,eU hi hn]
      refine ih _ (by simp [hb]) ?_
      rw [List.take_add_one,List.take_add_one]
      have e1:(b.set i p[i]).take i=b.take i:=by rw [List.take_set_of_le (Nat.le_refl _)]
      rw [e1,ht]
      simp [hb,hi]
  intro b hb
  exact key 0 (by omega) b hb (by simp)
theorem aK6 {α:Type} {by':Nat} {n:Nat} {z:α} (h:(n:Int) * by'≤140737488355328):mkG by' (n:Int) z=some (List.replicate n z):=by
  unfold mkG; rw [if_pos ⟨by omega,h⟩]; simp
def zL {α:Type} (z:α→Nat) (l:List α):Nat:=l.length+(l.map z).sum
def z0 {α:Type} (_:α):Nat:=0
def dW {α:Type} (F:α→Int→Option Int) (z:α→Nat) (x:α):Prop:=∀ n:Int,0≤n→n≤1048576→F x n=some (if (z x:Int)≤n then n - (z x:Int) else -1)
theorem wE {α:Type} (z:α→Nat) (x:α) (l:List α):((x::l).map z).sum=z x+(l.map z).sum:=by simp
theorem cCq {α : Type} {p : List α} {F : α → Int → Option Int} {z : α → Nat} {L : Int → Int → Option Int} (hp : p.length ≤ 1048576)
    (hL:∀ (i:Nat) (x:Int),L x (i:Int)=if (decide ((i:Int)<(p.length:Int)))=true then ((idx p (i:Int))>>=fun y=>(F y x)>>=fun r=>if (decide (r<0))=true then (some (-1)) else L r (IntKind.wrap .i64 ((i:Int)+1))) else some x)
    (H:∀ y ∈ p,dW F z y):∀ n:Int,0≤n→n≤1048576→L n 0=some (if ((p.map z).sum:Int)≤n then n - ((p.map z).sum:Int) else -1):=by
  have key:∀ i,i≤p.length→∀ n:Int,0≤n→n≤1048576→L n (i:Nat)=some (if (((p.drop i).map z).sum:Int)≤n then n - (((p.drop i).map z).sum:Int) else -1):=by
    refine fD ?_ ?_
    · intro n h0 h1
      rw [hL]; simp [h0]
    · intro i hi ih n h0 h1
      rw [hL,dV hi,eU hi (by omega)]
      rw [List.drop_eq_getElem_cons hi,wE]
      simp only [Option.bind_eq_bind,Option.bind_some,eF,hi,decide_true,if_true,H _ (List.getElem_mem hi) n h0 h1]
      by_cases hz:(z p[i]:Int)≤n
      · rw [if_pos hz,if_neg (by simp; omega),ih _ (by omega) (by omega)]
        congr 1
        by_cases hr:(((p.drop (i+1)).map z).sum:Int)≤n - z p[i]
        · rw [if_pos hr,if_pos (by omega)]; omega
        · rw [if_neg hr,if_neg (by omega)]
      · rw [if_neg hz,if_pos (by decide),if_neg (by omega)]
  intro n h0 h1
  have:=key 0 (by omega) n h0 h1
  simpa using this
theorem lM {α : Type} {p : List α} {F : α → Int → Option Int} {z : α → Nat} {L : Int → Int → Option Int} {S : List α → Int → Option Int} (hp : p.length ≤ 9223372036854775807)
    (hS:∀ n,S p n=if (decide ((IntKind.wrap .i64 (n - (p.length:Int)))<0))=true then (some (-1)) else L (IntKind.wrap .i64 (n - (p.length:Int))) 0)
    (hL:∀ (i:Nat) (x:Int),L x (i:Int)=if (decide ((i:Int)<(p.length:Int)))=true then ((idx p (i:Int))>>=fun y=>(F y x)>>=fun r=>if (decide (r<0))=true then (some (-1)) else L r (IntKind.wrap .i64 ((i:Int)+1))) else some x)
    (H:∀ y ∈ p,dW F z y):dW S (zL z) p:=by
  intro n h0 h1
  have hz:((zL z p:Nat):Int)=(p.length:Int)+((p.map z).sum:Int):=by unfold zL; omega
  rw [hS,gH (by omega) (by omega),hz]
  by_cases hl:n - (p.length:Int)<0
  · rw [if_pos (by simpa using hl),if_neg (by omega)]
  · rw [if_neg (by simpa using hl),cCq (by omega) hL H _ (by omega) (by omega)]
    congr 1
    by_cases hr:((p.map z).sum:Int)≤n - p.length
    · rw [if_pos hr,if_pos (by omega)]; omega
    · rw [if_neg hr,if_neg (by omega)]
theorem bSr {α : Type} {p : List α} {S : List α → Int → Option Int} (hp : p.length ≤ 9223372036854775807)
    (hS:∀ n,S p n=if (decide ((IntKind.wrap .i64 (n - (p.length:Int)))<0))=true then (some (-1)) else (some (IntKind.wrap .i64 (n - (p.length:Int))))):dW S (zL z0) p:=by
  intro n h0 h1
  have hs:(p.map z0).sum=0:=by
    clear hS hp
    induction p with
    | nil=>rfl
    | cons x p ih=>rw [wE,ih]; rfl
  have hz:((zL z0 p:Nat):Int)=(p.length:Int):=by unfold zL; omega
  rw [hS,gH (by omega) (by omega),hz]
  by_cases hl:n - (p.length:Int)<0
  · rw [if_pos (by simpa using hl),if_neg (by omega)]
  · rw [if_neg (by simpa using hl),if_pos (by omega)]
def U5 (y:List UInt8) (n:Int):Option Int:=if (decide ((IntKind.wrap .i64 (n - (y.length:Int)))<0))=true then (some (-1)) else (some (IntKind.wrap .i64 (n - (y.length:Int))))
theorem cAp (y:List UInt8) (hy:y.length≤9223372036854775807):dW U5 List.length y:=by
  intro n h0 h1
  unfold U5
  rw [gH (by omega) (by omega)]
  by_cases hl:n - (y.length:Int)<0
  · rw [if_pos (by simpa using hl),if_neg (by omega)]
  · rw [if_neg (by simpa using hl),if_pos (by omega)]
theorem bT1 (y:List UInt8) (x:Int) (K:Int→Option Int):(if (decide ((IntKind.wrap .i64 (x - (y.length:Int)))<0))=true then (some (-1)) else K (IntKind.wrap .i64 (x - (y.length:Int))))=((U5 y x)>>=fun r=>if (decide (r<0))=true then (some (-1)) else K r):=by
  unfold U5
  by_cases h:(IntKind.wrap .i64 (x - (y.length:Int)))<0
  · rw [if_pos (by simpa using h),if_pos (by simpa using h)]; rfl
  · rw [if_neg (by simpa using h),if_neg (by simpa using h)]
    simp only [Option.bind_eq_bind,Option.bind_some]
    rw [if_neg (by simpa using h)]
theorem kT {α : Type} {p : List α} {W : α → Option α} {by' : Nat} {d : α} {L : Int → List α → Option (List α)} {S : Option (List α)} (hp : p.length ≤ 1048576) (hby : by' ≤ 134217728)
    (hS:S=(mkG by' (p.length:Int) d>>=fun y=>L 0 y))
    (hL:∀ (i:Nat) b,L (i:Int) b=if (decide ((i:Int)<(p.length:Int)))=true then ((idx p (i:Int))>>=fun y2=>(W y2)>>=fun y3=>(idx b (i:Int))>>=fun _=>(kG b (i:Int) y3)>>=fun y5=>L (IntKind.wrap .i64 ((i:Int)+1)) y5) else some b)
    (H:∀ y ∈ p,W y=some y):S=some p:=by
  have hm:(p.length:Int) * by'≤140737488355328:=by
    have:(p.length:Int) * by'≤1048576 * 134217728:=Int.mul_le_mul (by omega) (by omega) (by omega) (by omega)
    omega
  rw [hS,aK6 hm]
  simp only [Option.bind_eq_bind,Option.bind_some]
  refine bQ8 (F:=L) (by omega) (fun i b hb=>?_) _ (by simp)
  rw [hL]
  simp only [eF,decide_eq_true_eq,Option.bind_eq_bind]
  split
  · rename_i hi
    have e:idx b (i:Int)=some b[i]:=dV (by omega)
    rw [dV hi]
    simp only [Option.bind_some,H _ (List.getElem_mem hi),e]
  · rfl
theorem kY {α : Type} {p : List α} {E : α → α → Option Bool} {L : Int → Option Bool} {S : List α → List α → Option Bool} (hp : p.length ≤ 1048576)
    (hS:S p p=if (!decide ((p.length:Int)=(p.length:Int)))=true then (some false) else L 0)
    (hL:∀ i:Nat,L (i:Int)=if (decide ((i:Int)<(p.length:Int)))=true then ((idx p (i:Int))>>=fun y1=>(idx p (i:Int))>>=fun y2=>(E y1 y2)>>=fun y3=>if (!y3)=true then (some false) else L (IntKind.wrap .i64 ((i:Int)+1))) else some true)
    (H:∀ y ∈ p,E y y=some true):S p p=some true:=by
  have key:∀ i,i≤p.length→L (i:Nat)=some true:=by
    refine fD ?_ ?_
    · rw [hL]; simp
    · intro i hi ih
      rw [hL]
      simp only [eF,dV hi,eU hi (by omega),H _ (List.getElem_mem hi),Option.bind_eq_bind,Option.bind_some,ih]
      simp
  rw [hS]
  have:=key 0 (by omega)
  simpa using this
theorem xK {α:Type} {z:α→Nat}:∀ {p:List α} {y:α},y ∈ p→z y≤(p.map z).sum
  | x::p,y,h=>by
    rw [wE]
    rcases List.mem_cons.1 h with rfl | h
    · omega
    · have:=xK (z:=z) h; omega
def gM:bL→Nat
  | ⟨a0,a1⟩=>a0.length
theorem bEe:∀ x:bL,okGCol x→dW H7 gM x
  | ⟨a0,a1⟩,h=>by
    simp only [okGCol] at h
    obtain ⟨o0,o1⟩:=h
    intro n h0 h1
    have b0:a0.length≤9223372036854775807:=o0
    have hz:((gM ⟨a0,a1⟩:Nat):Int)=(a0.length:Int):=by simp only [gM] <;> omega
    rw [hz,H7]
    dsimp only
    rw [gH (n:=n - (a0.length:Int)) (by omega) (by omega)]
    by_cases r0:n - (a0.length:Int)<0
    · rw [if_pos (by simpa using r0),if_neg (by omega)]
    rw [if_neg (by simpa using r0)]
    first | done | (rw [if_pos (by omega)]; done) | (rw [if_pos (by omega)]; congr 1 <;> omega) | (congr 1 <;> omega)
theorem bLw:∀ x:bL,gM x≤1048576→L9 x=some x
  | ⟨a0,a1⟩,hz=>by
    simp only [gM] at hz
    rw [L9]
theorem bRp:∀ x:bL,gM x≤1048576→zM x x=some true
  | ⟨a0,a1⟩,hz=>by
    simp only [gM] at hz
    rw [zM]
    simp
theorem bG2 (p:(List bL)) (h:(okL okGCol) p):dW zN (zL gM) p:=lM (F:=H7) h.1 (fun n=>by rw [zN]) (fun i x=>by rw [J6]) (fun y hy=>bEe y (h.2 y hy))
theorem bH0 (p:(List bL)) (hz:(zL gM) p≤1048576):yG p=some p:=kT (by':=24) (W:=L9) (by unfold zL at hz; omega) (by omega) (by rw [yG]) (fun i b=>by rw [zX]) (fun y hy=>bLw y (by have h1:=xK (z:=gM) hy; have h2:zL gM p=p.length+(p.map gM).sum:=rfl; omega))
theorem bIs (p:(List bL)) (hz:(zL gM) p≤1048576):M3 p p=some true:=kY (E:=zM) (by unfold zL at hz; omega) (by rw [M3]) (fun i=>by rw [yU]) (fun y hy=>bRp y (by have h1:=xK (z:=gM) hy; have h2:zL gM p=p.length+(p.map gM).sum:=rfl; omega))
def fJ:bD→Nat
  | ⟨a0,a1⟩=>a0.length+(zL gM) a1
theorem cAa:∀ x:bD,okGTable x→dW K3 fJ x
  | ⟨a0,a1⟩,h=>by
    simp only [okGTable] at h
    obtain ⟨o0,o1⟩:=h
    intro n h0 h1
    have b0:a0.length≤9223372036854775807:=o0
    have e1:dW zN (zL gM) a1:=bG2 a1 o1
    have hz:((fJ ⟨a0,a1⟩:Nat):Int)=(a0.length:Int)+(((zL gM) a1:Nat):Int):=by simp only [fJ] <;> omega
    rw [hz,K3]
    dsimp only
    rw [gH (n:=n - (a0.length:Int)) (by omega) (by omega)]
    by_cases r0:n - (a0.length:Int)<0
    · rw [if_pos (by simpa using r0),if_neg (by omega)]
    rw [if_neg (by simpa using r0)]
    rw [e1 (n - (a0.length:Int)) (by omega) (by omega)]
    simp only [Option.bind_eq_bind,Option.bind_some]
    rcases (Decidable.em ((((zL gM) a1:Nat):Int)≤(n - (a0.length:Int)))).symm with r1 | r1
    · rw [if_neg r1,if_pos (by decide)]; first | done | rw [if_neg (by omega)]
    rw [if_pos r1,if_neg (by simp; omega)]
    first | done | (rw [if_pos (by omega)]; done) | (rw [if_pos (by omega)]; congr 1 <;> omega) | (congr 1 <;> omega)
theorem bTc:∀ x:bD,fJ x≤1048576→yQ x=some x
  | ⟨a0,a1⟩,hz=>by
    simp only [fJ] at hz
    have e1:yG a1=some a1:=bH0 a1 (by omega)
    rw [yQ]
    simp only [e1,Option.bind_eq_bind,Option.bind_some]
theorem bDm:∀ x:bD,fJ x≤1048576→A9 x x=some true
  | ⟨a0,a1⟩,hz=>by
    simp only [fJ] at hz
    have e1:M3 a1 a1=some true:=bIs a1 (by omega)
    rw [A9]
    simp [e1]
theorem bOj (p:(List bD)) (h:(okL okGTable) p):dW zC (zL fJ) p:=lM (F:=K3) h.1 (fun n=>by rw [zC]) (fun i x=>by rw [G9]) (fun y hy=>cAa y (h.2 y hy))
theorem bB5 (p:(List bD)) (hz:(zL fJ) p≤1048576):H8 p=some p:=kT (by':=40) (W:=yQ) (by unfold zL at hz; omega) (by omega) (by rw [H8]) (fun i b=>by rw [yV]) (fun y hy=>bTc y (by have h1:=xK (z:=fJ) hy; have h2:zL fJ p=p.length+(p.map fJ).sum:=rfl; omega))
theorem bXd (p:(List bD)) (hz:(zL fJ) p≤1048576):zV p p=some true:=kY (E:=A9) (by unfold zL at hz; omega) (by rw [zV]) (fun i=>by rw [yS]) (fun y hy=>bDm y (by have h1:=xK (z:=fJ) hy; have h2:zL fJ p=p.length+(p.map fJ).sum:=rfl; omega))
def mU:aJ→Nat
  | ⟨a0⟩=>(zL fJ) a0
theorem bI8:∀ x:aJ,okGCatalog x→dW U2 mU x
  | ⟨a0⟩,h=>by
    simp only [okGCatalog] at h
    have o0:=h
    intro n h0 h1
    have e0:dW zC (zL fJ) a0:=bOj a0 o0
    have hz:((mU ⟨a0⟩:Nat):Int)=(((zL fJ) a0:Nat):Int):=by simp only [mU] <;> omega
    rw [hz,U2]
    dsimp only
    rw [e0 n (by omega) (by omega)]
    simp only [Option.bind_eq_bind,Option.bind_some]
    rcases (Decidable.em ((((zL fJ) a0:Nat):Int)≤n)).symm with r0 | r0
    · rw [if_neg r0,if_pos (by decide)]; first | done | rw [if_neg (by omega)]
    rw [if_pos r0,if_neg (by simp; omega)]
    first | done | (rw [if_pos (by omega)]; done) | (rw [if_pos (by omega)]; congr 1 <;> omega) | (congr 1 <;> omega)
theorem bWo:∀ x:aJ,mU x≤1048576→vP x=some x
  | ⟨a0⟩,hz=>by
    simp only [mU] at hz
    have e0:H8 a0=some a0:=bB5 a0 (by omega)
    rw [vP]
    simp only [e0,Option.bind_eq_bind,Option.bind_some]
theorem bH9:∀ x:aJ,mU x≤1048576→Y8 x x=some true
  | ⟨a0⟩,hz=>by
    simp only [mU] at hz
    have e0:zV a0 a0=some true:=bXd a0 (by omega)
    rw [Y8]
    simp [e0]
theorem aYq (p:(List Int)) (h:(okL okI) p):dW vE (zL z0) p:=bSr h.1 (fun n=>by rw [vE])
theorem aUz (p:(List Int)) (hz:(zL z0) p≤1048576):uZ p=some p:=kT (by':=8) (W:=some) (by unfold zL at hz; omega) (by omega) (by rw [uZ]) (fun i b=>by rw [F6]; rfl) (fun y hy=>rfl)
theorem aYu (p:(List Int)) (hz:(zL z0) p≤1048576):sV p p=some true:=kY (E:=fun a b=>some (decide (a=b))) (by unfold zL at hz; omega) (by rw [sV]) (fun i=>by rw [zU]; rfl) (fun y hy=>by simp)
def jL:dF→Nat
  | ⟨a0,a1,a2⟩=>a2.length
theorem bPd:∀ x:dF,okGValue x→dW yT jL x
  | ⟨a0,a1,a2⟩,h=>by
    simp only [okGValue] at h
    obtain ⟨o0,o1,o2⟩:=h
    intro n h0 h1
    have b2:a2.length≤9223372036854775807:=o2
    have hz:((jL ⟨a0,a1,a2⟩:Nat):Int)=(a2.length:Int):=by simp only [jL] <;> omega
    rw [hz,yT]
    dsimp only
    rw [gH (n:=n - (a2.length:Int)) (by omega) (by omega)]
    by_cases r2:n - (a2.length:Int)<0
    · rw [if_pos (by simpa using r2),if_neg (by omega)]
    rw [if_neg (by simpa using r2)]
    first | done | (rw [if_pos (by omega)]; done) | (rw [if_pos (by omega)]; congr 1 <;> omega) | (congr 1 <;> omega)
theorem cBe:∀ x:dF,jL x≤1048576→E5 x=some x
  | ⟨a0,a1,a2⟩,hz=>by
    simp only [jL] at hz
    rw [E5]
theorem bAi:∀ x:dF,jL x≤1048576→yP x x=some true
  | ⟨a0,a1,a2⟩,hz=>by
    simp only [jL] at hz
    rw [yP]
    simp
theorem bSm (p:(List (List UInt8))) (h:(okL okS) p):dW D9 (zL List.length) p:=lM (F:=U5) h.1 (fun n=>by rw [D9]) (fun i x=>by rw [wH]; simp only [fun y=>bT1 y x (fun r=>wH p r (IntKind.wrap .i64 ((i:Int)+1)))]) (fun y hy=>cAp y (h.2 y hy))
theorem bR0 (p:(List (List UInt8))) (hz:(zL List.length) p≤1048576):I9 p=some p:=kT (by':=16) (W:=some) (by unfold zL at hz; omega) (by omega) (by rw [I9]) (fun i b=>by rw [M4]; rfl) (fun y hy=>rfl)
theorem bQ6 (p:(List (List UInt8))) (hz:(zL List.length) p≤1048576):zZ p p=some true:=kY (E:=fun a b=>some (decide (a=b))) (by unfold zL at hz; omega) (by rw [zZ]) (fun i=>by rw [yY]; rfl) (fun y hy=>by simp)
mutual
def gX:aY→Nat
  | ⟨a0,a1⟩=>aX a0
def cZ:aB→Nat
  | ⟨a0,a1,a2,a3,a4,a5,a6,a7⟩=>(zL z0) a0+(a1.length+lV a1)+(a2.length+jA a2)+(a3.length+nD a3)+(a4.length+jA a4)+(zL List.length) a5
def aX:aA→Nat
  | ⟨a0,a1,a2,a3,a4,a5,a6,a7⟩=>jL a3+(a6.length+jA a6)+(a7.length+nS a7)
def nS:List aB→Nat
  | []=>0
  | x::l=>cZ x+nS l
def jA:List aA→Nat
  | []=>0
  | x::l=>aX x+jA l
def nD:List aY→Nat
  | []=>0
  | x::l=>gX x+nD l
def lV:List (List aA)→Nat
  | []=>0
  | x::l=>(x.length+jA x)+lV l
end
theorem aO0:∀ l:List aB,nS l=(l.map cZ).sum
  | []=>by simp [nS]
  | x::l=>by rw [wE,← aO0 l]; simp only [nS]
theorem qR:∀ l:List aA,jA l=(l.map aX).sum
  | []=>by simp [jA]
  | x::l=>by rw [wE,← qR l]; simp only [jA]
theorem aIz:∀ l:List aY,nD l=(l.map gX).sum
  | []=>by simp [nD]
  | x::l=>by rw [wE,← aIz l]; simp only [nD]
theorem W9:∀ l:List (List aA),lV l=(l.map (zL aX)).sum
  | []=>by simp [lV]
  | x::l=>by rw [wE,← W9 l]; simp only [lV,zL,qR]
mutual
theorem bJv:∀ x:aY,okGPSort x→dW uX gX x
  | ⟨a0,a1⟩,h=>by
    simp only [okGPSort] at h
    obtain ⟨o0,o1⟩:=h
    intro n h0 h1
    have e0:dW kN aX a0:=aIo a0 o0
    have hz:((gX ⟨a0,a1⟩:Nat):Int)=((aX a0:Nat):Int):=by simp only [gX] <;> omega
    rw [hz,uX]
    dsimp only
    rw [e0 n (by omega) (by omega)]
    simp only [Option.bind_eq_bind,Option.bind_some]
    rcases (Decidable.em (((aX a0:Nat):Int)≤n)).symm with r0 | r0
    · rw [if_neg r0,if_pos (by decide)]; first | done | rw [if_neg (by omega)]
    rw [if_pos r0,if_neg (by simp; omega)]
    first | done | (rw [if_pos (by omega)]; done) | (rw [if_pos (by omega)]; congr 1 <;> omega) | (congr 1 <;> omega)
theorem aRa:∀ x:aB,okGPlan x→dW pX cZ x
  | ⟨a0,a1,a2,a3,a4,a5,a6,a7⟩,h=>by
    simp only [okGPlan] at h
    obtain ⟨o0,o1,o2,o3,o4,o5,o6,o7⟩:=h
    intro n h0 h1
    have e0:dW vE (zL z0) a0:=aYq a0 o0
    have q1:(zL (zL aX)) a1=a1.length+lV a1:=by rw [W9,zL]
    have e1:dW pU (zL (zL aX)) a1:=lM (F:=gJ) o1.1 (fun n=>by rw [pU]) (fun i x=>by rw [F4]) (aW8 a1 o1.2)
    have q2:(zL aX) a2=a2.length+jA a2:=by unfold zL; rw [qR]
    have e2:dW gJ (zL aX) a2:=lM (F:=kN) o2.1 (fun n=>by rw [gJ]) (fun i x=>by rw [qW]) (V6 a2 o2.2)
    have q3:(zL gX) a3=a3.length+nD a3:=by unfold zL; rw [aIz]
    have e3:dW Q7 (zL gX) a3:=lM (F:=uX) o3.1 (fun n=>by rw [Q7]) (fun i x=>by rw [aAt]) (aPt a3 o3.2)
    have q4:(zL aX) a4=a4.length+jA a4:=by unfold zL; rw [qR]
    have e4:dW gJ (zL aX) a4:=lM (F:=kN) o4.1 (fun n=>by rw [gJ]) (fun i x=>by rw [qW]) (V6 a4 o4.2)
    have e5:dW D9 (zL List.length) a5:=bSm a5 o5
    have hz:((cZ ⟨a0,a1,a2,a3,a4,a5,a6,a7⟩:Nat):Int)=(((zL z0) a0:Nat):Int)+(((zL (zL aX)) a1:Nat):Int)+(((zL aX) a2:Nat):Int)+(((zL gX) a3:Nat):Int)+(((zL aX) a4:Nat):Int)+(((zL List.length) a5:Nat):Int):=by simp only [cZ] <;> omega
    rw [hz,pX]
    dsimp only
    rw [e0 n (by omega) (by omega)]
    simp only [Option.bind_eq_bind,Option.bind_some]
    rcases (Decidable.em ((((zL z0) a0:Nat):Int)≤n)).symm with r0 | r0
    · rw [if_neg r0,if_pos (by decide)]; first | done | rw [if_neg (by omega)]
    rw [if_pos r0,if_neg (by simp; omega)]
    rw [e1 (n - (((zL z0) a0:Nat):Int)) (by omega) (by omega)]
    simp only [Option.bind_eq_bind,Option.bind_some]
    rcases (Decidable.em ((((zL (zL aX)) a1:Nat):Int)≤(n - (((zL z0) a0:Nat):Int)))).symm with r1 | r1
    · rw [if_neg r1,if_pos (by decide)]; first | done | rw [if_neg (by omega)]
    rw [if_pos r1,if_neg (by simp; omega)]
    rw [e2 ((n - (((zL z0) a0:Nat):Int)) - (((zL (zL aX)) a1:Nat):Int)) (by omega) (by omega)]
    simp only [Option.bind_eq_bind,Option.bind_some]
    rcases (Decidable.em ((((zL aX) a2:Nat):Int)≤((n - (((zL z0) a0:Nat):Int)) - (((zL (zL aX)) a1:Nat):Int)))).symm with r2 | r2
    · rw [if_neg r2,if_pos (by decide)]; first | done | rw [if_neg (by omega)]
    rw [if_pos r2,if_neg (by simp; omega)]
    rw [e3 (((n - (((zL z0) a0:Nat):Int)) - (((zL (zL aX)) a1:Nat):Int)) - (((zL aX) a2:Nat):Int)) (by omega) (by omega)]
    simp only [Option.bind_eq_bind,Option.bind_some]
    rcases (Decidable.em ((((zL gX) a3:Nat):Int)≤(((n - (((zL z0) a0:Nat):Int)) - (((zL (zL aX)) a1:Nat):Int)) - (((zL aX) a2:Nat):Int)))).symm with r3 | r3
    · rw [if_neg r3,if_pos (by decide)]; first | done | rw [if_neg (by omega)]
    rw [if_pos r3,if_neg (by simp; omega)]
    rw [e4 ((((n - (((zL z0) a0:Nat):Int)) - (((zL (zL aX)) a1:Nat):Int)) - (((zL aX) a2:Nat):Int)) - (((zL gX) a3:Nat):Int)) (by omega) (by omega)]
    simp only [Option.bind_eq_bind,Option.bind_some]
    rcases (Decidable.em ((((zL aX) a4:Nat):Int)≤((((n - (((zL z0) a0:Nat):Int)) - (((zL (zL aX)) a1:Nat):Int)) - (((zL aX) a2:Nat):Int)) - (((zL gX) a3:Nat):Int)))).symm with r4 | r4
    · rw [if_neg r4,if_pos (by decide)]; first | done | rw [if_neg (by omega)]
    rw [if_pos r4,if_neg (by simp; omega)]
    rw [e5 (((((n - (((zL z0) a0:Nat):Int)) - (((zL (zL aX)) a1:Nat):Int)) - (((zL aX) a2:Nat):Int)) - (((zL gX) a3:Nat):Int)) - (((zL aX) a4:Nat):Int)) (by omega) (by omega)]
    simp only [Option.bind_eq_bind,Option.bind_some]
    rcases (Decidable.em ((((zL List.length) a5:Nat):Int)≤(((((n - (((zL z0) a0:Nat):Int)) - (((zL (zL aX)) a1:Nat):Int)) - (((zL aX) a2:Nat):Int)) - (((zL gX) a3:Nat):Int)) - (((zL aX) a4:Nat):Int)))).symm with r5 | r5
    · rw [if_neg r5,if_pos (by decide)]; first | done | rw [if_neg (by omega)]
    rw [if_pos r5,if_neg (by simp; omega)]
    first | done | (rw [if_pos (by omega)]; done) | (rw [if_pos (by omega)]; congr 1 <;> omega) | (congr 1 <;> omega)
theorem aIo:∀ x:aA,okGPExpr x→dW kN aX x
  | ⟨a0,a1,a2,a3,a4,a5,a6,a7⟩,h=>by
    simp only [okGPExpr] at h
    obtain ⟨o0,o1,o2,o3,o4,o5,o6,o7⟩:=h
    intro n h0 h1
    have e3:dW yT jL a3:=bPd a3 o3
    have q6:(zL aX) a6=a6.length+jA a6:=by unfold zL; rw [qR]
    have e6:dW gJ (zL aX) a6:=lM (F:=kN) o6.1 (fun n=>by rw [gJ]) (fun i x=>by rw [qW]) (V6 a6 o6.2)
    have q7:(zL cZ) a7=a7.length+nS a7:=by unfold zL; rw [aO0]
    have e7:dW aAi (zL cZ) a7:=lM (F:=pX) o7.1 (fun n=>by rw [aAi]) (fun i x=>by rw [Y2]) (aRv a7 o7.2)
    have hz:((aX ⟨a0,a1,a2,a3,a4,a5,a6,a7⟩:Nat):Int)=((jL a3:Nat):Int)+(((zL aX) a6:Nat):Int)+(((zL cZ) a7:Nat):Int):=by simp only [aX] <;> omega
    rw [hz,kN]
    dsimp only
    rw [e3 n (by omega) (by omega)]
    simp only [Option.bind_eq_bind,Option.bind_some]
    rcases (Decidable.em (((jL a3:Nat):Int)≤n)).symm with r3 | r3
    · rw [if_neg r3,if_pos (by decide)]; first | done | rw [if_neg (by omega)]
    rw [if_pos r3,if_neg (by simp; omega)]
    rw [e6 (n - ((jL a3:Nat):Int)) (by omega) (by omega)]
    simp only [Option.bind_eq_bind,Option.bind_some]
    rcases (Decidable.em ((((zL aX) a6:Nat):Int)≤(n - ((jL a3:Nat):Int)))).symm with r6 | r6
    · rw [if_neg r6,if_pos (by decide)]; first | done | rw [if_neg (by omega)]
    rw [if_pos r6,if_neg (by simp; omega)]
    rw [e7 ((n - ((jL a3:Nat):Int)) - (((zL aX) a6:Nat):Int)) (by omega) (by omega)]
    simp only [Option.bind_eq_bind,Option.bind_some]
    rcases (Decidable.em ((((zL cZ) a7:Nat):Int)≤((n - ((jL a3:Nat):Int)) - (((zL aX) a6:Nat):Int)))).symm with r7 | r7
    · rw [if_neg r7,if_pos (by decide)]; first | done | rw [if_neg (by omega)]
    rw [if_pos r7,if_neg (by simp; omega)]
    first | done | (rw [if_pos (by omega)]; done) | (rw [if_pos (by omega)]; congr 1 <;> omega) | (congr 1 <;> omega)
theorem aRv:∀ l:List aB,okLGPlan l→∀ y ∈ l,dW pX cZ y
  | [],_=>fun y hy=>by simp at hy
  | x::l,h=>by
    simp only [okLGPlan] at h
    intro y hy
    rcases List.mem_cons.1 hy with r | hy
    · rw [r]; exact aRa x h.1
    · exact aRv l h.2 y hy
theorem V6:∀ l:List aA,okLGPExpr l→∀ y ∈ l,dW kN aX y
  | [],_=>fun y hy=>by simp at hy
  | x::l,h=>by
    simp only [okLGPExpr] at h
    intro y hy
    rcases List.mem_cons.1 hy with r | hy
    · rw [r]; exact aIo x h.1
    · exact V6 l h.2 y hy
theorem aPt:∀ l:List aY,okLGPSort l→∀ y ∈ l,dW uX gX y
  | [],_=>fun y hy=>by simp at hy
  | x::l,h=>by
    simp only [okLGPSort] at h
    intro y hy
    rcases List.mem_cons.1 hy with r | hy
    · rw [r]; exact bJv x h.1
    · exact aPt l h.2 y hy
theorem aW8:∀ l:List (List aA),okLLGPExpr l→∀ y ∈ l,dW gJ (zL aX) y
  | [],_=>fun y hy=>by simp at hy
  | x::l,h=>by
    simp only [okLLGPExpr] at h
    intro y hy
    rcases List.mem_cons.1 hy with r | hy
    · rw [r]; exact lM (F:=kN) h.1.1 (fun n=>by rw [gJ]) (fun i x=>by rw [qW]) (V6 x h.1.2)
    · exact aW8 l h.2 y hy
end
mutual
theorem cC9:∀ x:aY,gX x≤1048576→rZ x=some x
  | ⟨a0,a1⟩,hz=>by
    simp only [gX] at hz
    have e0:kS a0=some a0:=aWv a0 (by omega)
    rw [rZ]
    simp only [e0,Option.bind_eq_bind,Option.bind_some]
theorem aVp:∀ x:aB,cZ x≤1048576→qC x=some x
  | ⟨a0,a1,a2,a3,a4,a5,a6,a7⟩,hz=>by
    simp only [cZ] at hz
    have e0:uZ a0=some a0:=aUz a0 (by omega)
    have e1:qD a1=some a1:=kT (by':=24) (W:=gK) (by omega) (by omega) (by rw [qD]) (fun i b=>by rw [I7]) (aLd a1 (by omega))
    have e2:gK a2=some a2:=kT (by':=120) (W:=kS) (by omega) (by omega) (by rw [gK]) (fun i b=>by rw [pY]) (yK a2 (by omega))
    have e3:N9 a3=some a3:=kT (by':=128) (W:=rZ) (by omega) (by omega) (by rw [N9]) (fun i b=>by rw [V8]) (aWy a3 (by omega))
    have e4:gK a4=some a4:=kT (by':=120) (W:=kS) (by omega) (by omega) (by rw [gK]) (fun i b=>by rw [pY]) (yK a4 (by omega))
    have e5:I9 a5=some a5:=bR0 a5 (by omega)
    rw [qC]
    simp only [e0,e1,e2,e3,e4,e5,Option.bind_eq_bind,Option.bind_some]
theorem aWv:∀ x:aA,aX x≤1048576→kS x=some x
  | ⟨a0,a1,a2,a3,a4,a5,a6,a7⟩,hz=>by
    simp only [aX] at hz
    have e3:E5 a3=some a3:=cBe a3 (by omega)
    have e6:gK a6=some a6:=kT (by':=120) (W:=kS) (by omega) (by omega) (by rw [gK]) (fun i b=>by rw [pY]) (yK a6 (by omega))
    have e7:X5 a7=some a7:=kT (by':=160) (W:=qC) (by omega) (by omega) (by rw [X5]) (fun i b=>by rw [aAk]) (aU4 a7 (by omega))
    rw [kS]
    simp only [e3,e6,e7,Option.bind_eq_bind,Option.bind_some]
theorem aU4:∀ l:List aB,nS l≤1048576→∀ y ∈ l,qC y=some y
  | [],_=>fun y hy=>by simp at hy
  | x::l,hz=>by
    simp only [nS] at hz
    intro y hy
    rcases List.mem_cons.1 hy with r | hy
    · rw [r]; exact aVp x (by omega)
    · exact aU4 l (by omega) y hy
theorem yK:∀ l:List aA,jA l≤1048576→∀ y ∈ l,kS y=some y
  | [],_=>fun y hy=>by simp at hy
  | x::l,hz=>by
    simp only [jA] at hz
    intro y hy
    rcases List.mem_cons.1 hy with r | hy
    · rw [r]; exact aWv x (by omega)
    · exact yK l (by omega) y hy
theorem aWy:∀ l:List aY,nD l≤1048576→∀ y ∈ l,rZ y=some y
  | [],_=>fun y hy=>by simp at hy
  | x::l,hz=>by
    simp only [nD] at hz
    intro y hy
    rcases List.mem_cons.1 hy with r | hy
    · rw [r]; exact cC9 x (by omega)
    · exact aWy l (by omega) y hy
theorem aLd:∀ l:List (List aA),lV l≤1048576→∀ y ∈ l,gK y=some y
  | [],_=>fun y hy=>by simp at hy
  | x::l,hz=>by
    simp only [lV] at hz
    intro y hy
    rcases List.mem_cons.1 hy with r | hy
    · rw [r]; exact kT (by':=120) (W:=kS) (by omega) (by omega) (by rw [gK]) (fun i b=>by rw [pY]) (yK x (by omega))
    · exact aLd l (by omega) y hy
end
mutual
theorem bS4:∀ x:aY,gX x≤1048576→tC x x=some true
  | ⟨a0,a1⟩,hz=>by
    simp only [gX] at hz
    have e0:kR a0 a0=some true:=aYt a0 (by omega)
    rw [tC]
    simp [e0]
theorem aYl:∀ x:aB,cZ x≤1048576→oU x x=some true
  | ⟨a0,a1,a2,a3,a4,a5,a6,a7⟩,hz=>by
    simp only [cZ] at hz
    have e0:sV a0 a0=some true:=aYu a0 (by omega)
    have e1:qU a1 a1=some true:=kY (E:=gD) (by omega) (by rw [qU]) (fun i=>by rw [K5]) (aNa a1 (by omega))
    have e2:gD a2 a2=some true:=kY (E:=kR) (by omega) (by rw [gD]) (fun i=>by rw [pQ]) (zF a2 (by omega))
    have e3:Q9 a3 a3=some true:=kY (E:=tC) (by omega) (by rw [Q9]) (fun i=>by rw [aA8]) (aQt a3 (by omega))
    have e4:gD a4 a4=some true:=kY (E:=kR) (by omega) (by rw [gD]) (fun i=>by rw [pQ]) (zF a4 (by omega))
    have e5:zZ a5 a5=some true:=bQ6 a5 (by omega)
    rw [oU]
    simp [e0,e1,e2,e3,e4,e5]
theorem aYt:∀ x:aA,aX x≤1048576→kR x x=some true
  | ⟨a0,a1,a2,a3,a4,a5,a6,a7⟩,hz=>by
    simp only [aX] at hz
    have e3:yP a3 a3=some true:=bAi a3 (by omega)
    have e6:gD a6 a6=some true:=kY (E:=kR) (by omega) (by rw [gD]) (fun i=>by rw [pQ]) (zF a6 (by omega))
    have e7:O9 a7 a7=some true:=kY (E:=oU) (by omega) (by rw [O9]) (fun i=>by rw [M9]) (aRw a7 (by omega))
    rw [kR]
    simp [e3,e6,e7]
theorem aRw:∀ l:List aB,nS l≤1048576→∀ y ∈ l,oU y y=some true
  | [],_=>fun y hy=>by simp at hy
  | x::l,hz=>by
    simp only [nS] at hz
    intro y hy
    rcases List.mem_cons.1 hy with r | hy
    · rw [r]; exact aYl x (by omega)
    · exact aRw l (by omega) y hy
theorem zF:∀ l:List aA,jA l≤1048576→∀ y ∈ l,kR y y=some true
  | [],_=>fun y hy=>by simp at hy
  | x::l,hz=>by
    simp only [jA] at hz
    intro y hy
    rcases List.mem_cons.1 hy with r | hy
    · rw [r]; exact aYt x (by omega)
    · exact zF l (by omega) y hy
theorem aQt:∀ l:List aY,nD l≤1048576→∀ y ∈ l,tC y y=some true
  | [],_=>fun y hy=>by simp at hy
  | x::l,hz=>by
    simp only [nD] at hz
    intro y hy
    rcases List.mem_cons.1 hy with r | hy
    · rw [r]; exact bS4 x (by omega)
    · exact aQt l (by omega) y hy
theorem aNa:∀ l:List (List aA),lV l≤1048576→∀ y ∈ l,gD y y=some true
  | [],_=>fun y hy=>by simp at hy
  | x::l,hz=>by
    simp only [lV] at hz
    intro y hy
    rcases List.mem_cons.1 hy with r | hy
    · rw [r]; exact kY (E:=kR) (by omega) (by rw [gD]) (fun i=>by rw [pQ]) (zF x (by omega))
    · exact aNa l (by omega) y hy
end
theorem aM2 (p:(List aA)) (h:(okL okGPExpr) p):dW gJ (zL aX) p:=lM (F:=kN) h.1 (fun n=>by rw [gJ]) (fun i x=>by rw [qW]) (fun y hy=>aIo y (h.2 y hy))
theorem aR0 (p:(List aA)) (hz:(zL aX) p≤1048576):gK p=some p:=by
  have q:(zL aX) p=p.length+jA p:=by unfold zL; rw [qR]
  exact kT (by':=120) (W:=kS) (by omega) (by omega) (by rw [gK]) (fun i b=>by rw [pY]) (yK p (by omega))
theorem aTs (p:(List aA)) (hz:(zL aX) p≤1048576):gD p p=some true:=by
  have q:(zL aX) p=p.length+jA p:=by unfold zL; rw [qR]
  exact kY (E:=kR) (by omega) (by rw [gD]) (fun i=>by rw [pQ]) (zF p (by omega))
theorem bUy (p:(List (List aA))) (h:(okL (okL okGPExpr)) p):dW pU (zL (zL aX)) p:=lM (F:=gJ) h.1 (fun n=>by rw [pU]) (fun i x=>by rw [F4]) (fun y hy=>aM2 y (h.2 y hy))
theorem bKx (p:(List (List aA))) (hz:(zL (zL aX)) p≤1048576):qD p=some p:=by
  have q:(zL (zL aX)) p=p.length+lV p:=by rw [W9,zL]
  exact kT (by':=24) (W:=gK) (by omega) (by omega) (by rw [qD]) (fun i b=>by rw [I7]) (aLd p (by omega))
theorem bOk (p:(List (List aA))) (hz:(zL (zL aX)) p≤1048576):qU p p=some true:=by
  have q:(zL (zL aX)) p=p.length+lV p:=by rw [W9,zL]
  exact kY (E:=gD) (by omega) (by rw [qU]) (fun i=>by rw [K5]) (aNa p (by omega))
def iY:bM→Nat
  | ⟨a0,a1,a2,a3,a4,a5,a6⟩=>cZ a1+(zL (zL aX)) a3+(zL z0) a4+(zL aX) a5+(zL aX) a6
theorem bH4:∀ x:bM,okGSPlan x→dW O1 iY x
  | ⟨a0,a1,a2,a3,a4,a5,a6⟩,h=>by
    simp only [okGSPlan] at h
    obtain ⟨o0,o1,o2,o3,o4,o5,o6⟩:=h
    intro n h0 h1
    have e1:dW pX cZ a1:=aRa a1 o1
    have e3:dW pU (zL (zL aX)) a3:=bUy a3 o3
    have e4:dW vE (zL z0) a4:=aYq a4 o4
    have e5:dW gJ (zL aX) a5:=aM2 a5 o5
    have e6:dW gJ (zL aX) a6:=aM2 a6 o6
    have hz:((iY ⟨a0,a1,a2,a3,a4,a5,a6⟩:Nat):Int)=((cZ a1:Nat):Int)+(((zL (zL aX)) a3:Nat):Int)+(((zL z0) a4:Nat):Int)+(((zL aX) a5:Nat):Int)+(((zL aX) a6:Nat):Int):=by simp only [iY] <;> omega
    rw [hz,O1]
    dsimp only
    rw [e1 n (by omega) (by omega)]
    simp only [Option.bind_eq_bind,Option.bind_some]
    rcases (Decidable.em (((cZ a1:Nat):Int)≤n)).symm with r1 | r1
    · rw [if_neg r1,if_pos (by decide)]; first | done | rw [if_neg (by omega)]
    rw [if_pos r1,if_neg (by simp; omega)]
    rw [e3 (n - ((cZ a1:Nat):Int)) (by omega) (by omega)]
    simp only [Option.bind_eq_bind,Option.bind_some]
    rcases (Decidable.em ((((zL (zL aX)) a3:Nat):Int)≤(n - ((cZ a1:Nat):Int)))).symm with r3 | r3
    · rw [if_neg r3,if_pos (by decide)]; first | done | rw [if_neg (by omega)]
    rw [if_pos r3,if_neg (by simp; omega)]
    rw [e4 ((n - ((cZ a1:Nat):Int)) - (((zL (zL aX)) a3:Nat):Int)) (by omega) (by omega)]
    simp only [Option.bind_eq_bind,Option.bind_some]
    rcases (Decidable.em ((((zL z0) a4:Nat):Int)≤((n - ((cZ a1:Nat):Int)) - (((zL (zL aX)) a3:Nat):Int)))).symm with r4 | r4
    · rw [if_neg r4,if_pos (by decide)]; first | done | rw [if_neg (by omega)]
    rw [if_pos r4,if_neg (by simp; omega)]
    rw [e5 (((n - ((cZ a1:Nat):Int)) - (((zL (zL aX)) a3:Nat):Int)) - (((zL z0) a4:Nat):Int)) (by omega) (by omega)]
    simp only [Option.bind_eq_bind,Option.bind_some]
    rcases (Decidable.em ((((zL aX) a5:Nat):Int)≤(((n - ((cZ a1:Nat):Int)) - (((zL (zL aX)) a3:Nat):Int)) - (((zL z0) a4:Nat):Int)))).symm with r5 | r5
    · rw [if_neg r5,if_pos (by decide)]; first | done | rw [if_neg (by omega)]
    rw [if_pos r5,if_neg (by simp; omega)]
    rw [e6 ((((n - ((cZ a1:Nat):Int)) - (((zL (zL aX)) a3:Nat):Int)) - (((zL z0) a4:Nat):Int)) - (((zL aX) a5:Nat):Int)) (by omega) (by omega)]
    simp only [Option.bind_eq_bind,Option.bind_some]
    rcases (Decidable.em ((((zL aX) a6:Nat):Int)≤((((n - ((cZ a1:Nat):Int)) - (((zL (zL aX)) a3:Nat):Int)) - (((zL z0) a4:Nat):Int)) - (((zL aX) a5:Nat):Int)))).symm with r6 | r6
    · rw [if_neg r6,if_pos (by decide)]; first | done | rw [if_neg (by omega)]
    rw [if_pos r6,if_neg (by simp; omega)]
    first | done | (rw [if_pos (by omega)]; done) | (rw [if_pos (by omega)]; congr 1 <;> omega) | (congr 1 <;> omega)
theorem bSj:∀ x:bM,iY x≤1048576→vV x=some x
  | ⟨a0,a1,a2,a3,a4,a5,a6⟩,hz=>by
    simp only [iY] at hz
    have e1:qC a1=some a1:=aVp a1 (by omega)
    have e3:qD a3=some a3:=bKx a3 (by omega)
    have e4:uZ a4=some a4:=aUz a4 (by omega)
    have e5:gK a5=some a5:=aR0 a5 (by omega)
    have e6:gK a6=some a6:=aR0 a6 (by omega)
    rw [vV]
    simp only [e1,e3,e4,e5,e6,Option.bind_eq_bind,Option.bind_some]
theorem bIk:∀ x:bM,iY x≤1048576→aAz x x=some true
  | ⟨a0,a1,a2,a3,a4,a5,a6⟩,hz=>by
    simp only [iY] at hz
    have e1:oU a1 a1=some true:=aYl a1 (by omega)
    have e3:qU a3 a3=some true:=bOk a3 (by omega)
    have e4:sV a4 a4=some true:=aYu a4 (by omega)
    have e5:gD a5 a5=some true:=aTs a5 (by omega)
    have e6:gD a6 a6=some true:=aTs a6 (by omega)
    rw [aAz]
    simp [e1,e3,e4,e5,e6]
theorem jR {α:Type} {z:α→Nat} {l:List α} {x:α} (h:x ∈ l):z x+l.length≤zL z l:=by
  have:=xK (z:=z) h
  unfold zL; omega
theorem aDo (x:aA):aX x=x.value.text.length+zL aX x.kids+zL cZ x.sub:=by
  obtain ⟨a0,a1,a2,⟨b0,b1,b2⟩,a4,a5,a6,a7⟩:=x
  simp only [aX,jL,qR,aO0,zL]
theorem wV (q:aB):cZ q=zL z0 q.tables+zL (zL aX) q.on_+zL aX q.where_+(q.order.length+(q.order.map fun k=>aX k.expr).sum)+zL aX q.items+zL List.length q.names:=by
  obtain ⟨a0,a1,a2,a3,a4,a5,a6,a7⟩:=q
  simp only [cZ,qR,aIz,W9,zL]
  have:(a3.map gX)=a3.map fun k=>aX k.expr:=List.map_congr_left fun k _=>by obtain ⟨k0,k1⟩:=k; simp only [gX]
  rw [this]
theorem gY {α:Type} {z:α→Nat} (l:List α):l.length≤zL z l:=by unfold zL; omega
theorem aKr {x k:aA} (h:k ∈ x.kids):aX k+x.kids.length≤aX x:=by have:=aDo x; have:=jR (z:=aX) h; omega
theorem aKv {x:aA} {p:aB} (h:p ∈ x.sub):cZ p+x.sub.length≤aX x:=by have:=aDo x; have:=jR (z:=cZ) h; omega
theorem aUn (x:aA):x.kids.length+x.sub.length≤aX x:=by have:=aDo x; have:=gY (z:=aX) x.kids; have:=gY (z:=cZ) x.sub; omega
theorem onZ {q:aB} {l:List aA} {e:aA} (h:l ∈ q.on_) (he:e ∈ l):aX e+l.length+q.on_.length≤cZ q:=by have:=wV q; have:=jR (z:=zL aX) h; have:=jR (z:=aX) he; omega
theorem aU7 {q:aB} {e:aA} (h:e ∈ q.where_):aX e+q.where_.length≤cZ q:=by have:=wV q; have:=jR (z:=aX) h; omega
theorem aWa {q:aB} {e:aA} (h:e ∈ q.items):aX e+q.items.length≤cZ q:=by have:=wV q; have:=jR (z:=aX) h; omega
theorem aW9 {q:aB} {k:aY} (h:k ∈ q.order):aX k.expr+q.order.length≤cZ q:=by have:=wV q; have:=xK (z:=fun k:aY=>aX k.expr) h; omega
theorem aZv (q:aB):q.tables.length+q.on_.length+q.where_.length+q.order.length+q.items.length+q.names.length≤cZ q:=by
  have:=wV q; have:=gY (z:=z0) q.tables; have:=gY (z:=zL aX) q.on_; have:=gY (z:=aX) q.where_; have:=gY (z:=aX) q.items; have:=gY (z:=List.length) q.names; omega
theorem bKs {α:Type} {b:Nat} {l m:List α} (h:(l.length+m.length) * b≤140737488355328):appG b l m=some (l++m):=by unfold appG; rw [if_pos h]
theorem gather {α β γ : Type} {p : List α} {f : α → List β} {G : α → List β → Option (List β)} {L : List β → Int → Option γ} {K : List β → Option γ} {c : Nat} (hp : p.length ≤ 4194304)
    (hG:∀ y ∈ p,∀ acc:List β,acc.length+(f y).length≤c→G y acc=some (acc++f y))
    (hL:∀ (i:Nat) acc,L acc (i:Int)=if (decide ((i:Int)<(p.length:Int)))=true then ((idx p (i:Int))>>=fun y=>(G y acc)>>=fun z=>L z (IntKind.wrap .i64 ((i:Int)+1))) else K acc) :
    ∀ acc:List β,acc.length+(p.flatMap f).length≤c→L acc 0=K (acc++p.flatMap f):=by
  have key:∀ i,i≤p.length→∀ acc:List β,acc.length+((p.drop i).flatMap f).length≤c→L acc (i:Nat)=K (acc++(p.drop i).flatMap f):=by
    refine fD ?_ ?_
    · intro acc _
      rw [hL]; simp
    · intro i hi ih acc ha
      rw [List.drop_eq_getElem_cons hi,List.flatMap_cons,List.length_append] at ha
      rw [hL,dV hi,eU hi (by omega)]
      simp only [eF,hi,decide_true,if_true,Option.bind_eq_bind,Option.bind_some,hG _ (List.getElem_mem hi) acc (by omega)]
      rw [ih _ (by rw [List.length_append]; omega),List.drop_eq_getElem_cons hi,List.flatMap_cons,List.append_assoc]
  intro acc ha
  simpa using key 0 (by omega) acc (by simpa using ha)
theorem folded {α β γ : Type} {p : List α} {g : α → β → Option β} {h : α → β → β} {L : β → Int → Option γ} {K : β → Option γ} (hp : p.length ≤ 1048576)
    (hg:∀ y ∈ p,∀ b,g y b=some (h y b))
    (hL:∀ (i:Nat) b,L b (i:Int)=if (decide ((i:Int)<(p.length:Int)))=true then ((idx p (i:Int))>>=fun y=>(g y b)>>=fun z=>L z (IntKind.wrap .i64 ((i:Int)+1))) else K b) :
    ∀ b,L b 0=K (p.foldl (fun b y=>h y b) b):=by
  have key:∀ i,i≤p.length→∀ b,L b (i:Nat)=K ((p.drop i).foldl (fun b y=>h y b) b):=by
    refine fD ?_ ?_
    · intro b; rw [hL]; simp
    · intro i hi ih b
      rw [hL,dV hi,eU hi (by omega)]
      simp only [eF,hi,decide_true,if_true,Option.bind_eq_bind,Option.bind_some,hg _ (List.getElem_mem hi)]
      rw [ih,List.drop_eq_getElem_cons hi,List.foldl_cons]
  intro b
  simpa using key 0 (by omega) b
theorem aEa (s:List UInt8):∃ b,iX s=some b∧jY s=some b:=by
  unfold jY iX dX
  exact ⟨_,rfl,rfl⟩
theorem bQu (s:List UInt8):∃ b,oI s=some b:=by
  obtain ⟨b,h1,h2⟩:=aEa s
  unfold oI
  by_cases h:s=[]
  · exact ⟨true,by simp [h]⟩
  · exact ⟨b,by simp [h,h1]⟩
theorem aSe (x:dF):aA9 x=uN x∧∃ b,uN x=some b:=by
  unfold aA9 uN dX
  simp only [Option.bind_eq_bind,Option.bind_some]
  by_cases h0:x.kind=0
  · simp [h0]
  by_cases h1:x.kind=1
  · simp [h1]
  by_cases h2:x.kind=2
  · simp [h2]
  by_cases h3:x.kind=3
  · by_cases n0:x.num=0
    · simp [h3,n0]
    by_cases n1:x.num=1
    · simp [h3,n1]
    have e:(if decide (0≤x.num)=true then decide (x.num≤1) else false)=false:=by
      by_cases p:0≤x.num
      · simp [p]; omega
      · simp [p]
    rw [e]
    simp [h3,n0,n1]
  · simp [h0,h1,h2,h3]
theorem aT3 (x:dF):∃ b,rU x=some b∧D5 x=some b:=by
  obtain ⟨h1,b,h2⟩:=aSe x
  unfold rU D5
  rw [h1,h2]
  cases b <;> simp
theorem orB (b c:Bool):(if b=true then true else c)=(b||c):=by cases b <;> rfl
theorem aK0 (b c:Bool):(if b=true then c else false)=(b&&c):=by cases b <;> rfl
def zvE (x:cO):Bool:=((decide (x.value.kind=0))&&((decide (x.value.num=0))&&((decide (x.value.text=[]))&&true)))
theorem bSb (x : cO) : xQ x = (if ((!decide (x.kind = 2) && (!decide (x.qual = []) || !decide (x.name = []))) || (!decide (x.kind = 1) && !zvE x)) = true then some false else
    if ((!decide (x.kind=3)&&!decide (x.kind=4))&&!decide (x.op=0)||(x.not_&&!(decide (5≤x.kind)&&decide (x.kind≤8))))=true then some false else
    (if (decide (x.kind=1))=true then ((rU x.value)>>=fun (y10:Bool)=>some (y10&&decide ((IntKind.wrap .i64 ((x.kids.length:Int)+(x.sub.length:Int)))=0)))
     else if (decide (x.kind=2))=true then ((iX x.name)>>=fun (y12:Bool)=>(if y12=true then oI x.qual else some false)>>=fun (y14:Bool)=>some (y14&&decide ((IntKind.wrap .i64 ((x.kids.length:Int)+(x.sub.length:Int)))=0)))
     else some (if x.kind=3 then (decide (x.op=15)||decide (x.op=16))&&decide ((x.kids.length:Int)=1)&&decide ((x.sub.length:Int)=0)
      else if x.kind=4 then (decide (1≤x.op)&&decide (x.op≤14))&&decide ((x.kids.length:Int)=2)&&decide ((x.sub.length:Int)=0)
      else if x.kind=5 then decide ((x.kids.length:Int)=1)&&decide ((x.sub.length:Int)=0)
      else if x.kind=6 then decide ((x.kids.length:Int)=3)&&decide ((x.sub.length:Int)=0)
      else if x.kind=7 then (decide (2≤(x.kids.length:Int))&&decide ((x.kids.length:Int)≤9))&&decide ((x.sub.length:Int)=0)
      else if x.kind=8 then decide ((x.kids.length:Int)=1)&&decide ((x.sub.length:Int)=1)
      else if x.kind=9 then decide ((x.kids.length:Int)=0)&&decide ((x.sub.length:Int)=1)
      else false))):=by
  unfold xQ dX
  simp only [Option.bind_eq_bind]
  simp only [Option.bind_some]
  simp only [aK0,orB]
  obtain ⟨k,o,no,v,q,nm,ks,sb⟩:=x
  obtain ⟨bl,l1,l2⟩:=aT3 v
  obtain ⟨bn,n1,n2⟩:=aEa nm
  obtain ⟨bq,q1⟩:=bQu q
  have hz:zvE ⟨k,o,no,v,q,nm,ks,sb⟩=((decide (v.kind=0))&&((decide (v.num=0))&&((decide (v.text=[]))&&true))):=rfl
  simp only [l1,n1,q1,hz,Option.bind_some]
  generalize ((decide (v.kind=0))&&((decide (v.num=0))&&((decide (v.text=[]))&&true)))=zv
  generalize decide (q=[])=q0
  generalize decide (nm=[])=n0
  by_cases k1:k=1
  · subst k1; cases q0 <;> cases n0 <;> cases no <;> by_cases o0:o=0 <;> cases bl <;> simp [o0]
  by_cases k2:k=2
  · subst k2; cases zv <;> cases no <;> by_cases o0:o=0 <;> cases bn <;> simp [o0]
  by_cases k3:k=3
  · subst k3; cases q0 <;> cases n0 <;> cases zv <;> cases no <;> simp
  by_cases k4:k=4
  · subst k4; cases q0 <;> cases n0 <;> cases zv <;> cases no <;> simp
  have kk:¬ (k=3∨k=4):=by omega
  by_cases k5:k=5
  · subst k5; cases q0 <;> cases n0 <;> cases zv <;> cases no <;> by_cases o0:o=0 <;> simp [o0]
  by_cases k6:k=6
  · subst k6; cases q0 <;> cases n0 <;> cases zv <;> cases no <;> by_cases o0:o=0 <;> simp [o0]
  by_cases k7:k=7
  · subst k7; cases q0 <;> cases n0 <;> cases zv <;> cases no <;> by_cases o0:o=0 <;> simp [o0]
  by_cases k8:k=8
  · subst k8; cases q0 <;> cases n0 <;> cases zv <;> cases no <;> by_cases o0:o=0 <;> simp [o0]
  by_cases k9:k=9
  · subst k9; cases q0 <;> cases n0 <;> cases zv <;> cases no <;> by_cases o0:o=0 <;> simp [o0]
  have kr:(decide (5≤k)&&decide (k≤8))=false:=by
    by_cases h:5≤k
    · have:¬ k≤8:=by omega
      simp [this]
    · simp [h]
  cases q0 <;> cases n0 <;> cases zv <;> cases no <;> by_cases o0:o=0 <;> simp [o0,k1,k2,k3,k4,k5,k6,k7,k8,k9]
theorem cAw (x : cO) (bl bc : Bool) (h1 : D5 x.value = some bl) (h2 : (iX x.name >>= fun (y12 : Bool) => (if y12 = true then oI x.qual else some false)) = some bc) : wQ x = some (
    if x.kind=1 then (⟨false,false,true,false,0,0,0⟩,bl)
    else if x.kind=2 then (⟨false,false,false,true,0,0,0⟩,bc)
    else if x.kind=3 then (⟨true,false,false,false,1,1,0⟩,decide (x.op=15)||decide (x.op=16))
    else if x.kind=4 then (⟨true,false,false,false,2,2,0⟩,decide (1≤x.op)&&decide (x.op≤14))
    else if x.kind=5 then (⟨false,true,false,false,1,1,0⟩,true)
    else if x.kind=6 then (⟨false,true,false,false,3,3,0⟩,true)
    else if x.kind=7 then (⟨false,true,false,false,2,9,0⟩,true)
    else if x.kind=8 then (⟨false,true,false,false,1,1,1⟩,true)
    else if x.kind=9 then (⟨false,false,false,false,0,0,1⟩,true)
    else (⟨false,false,false,false,0,0,0⟩,false)):=by
  obtain ⟨k,o,no,v,q,nm,ks,sb⟩:=x
  obtain ⟨bn,n1,n2⟩:=aEa nm
  obtain ⟨bo,o1,o2⟩:=aEa q
  unfold wQ
  dsimp only at h1 h2 ⊢
  have h3:((if ((true&&(bn==true))&&((decide (q=[]))==false))=true then jY q else some default).bind fun (y3:Bool)=>(if (true&&(bn==true))=true then some (if (decide (q=[]))=true then true else y3) else some default).bind fun (y4:Bool)=>(some (if bn=true then y4 else false)).bind fun y5=>some ((fV.mk false false false true 0 0 0),y5))=some ((fV.mk false false false true 0 0 0),bc):=by
    unfold oI at h2
    rw [n1,o1] at h2
    rw [o2]
    cases bn
    · simp at h2; simp [h2]
    · by_cases q0:q=[]
      · simp [q0] at h2; simp [q0,h2]
      · simp [q0] at h2; simp [q0,h2]
  simp only [h1,n2,Option.bind_eq_bind,Option.bind_some]
  by_cases k1:k=1
  · simp [k1]
  by_cases k2:k=2
  · subst k2; simp only [Option.bind_some] at h3; simpa using h3
  by_cases k3:k=3
  · simp [k3]
  by_cases k4:k=4
  · simp [k4]
  by_cases k5:k=5
  · simp [k5]
  by_cases k6:k=6
  · simp [k6]
  by_cases k7:k=7
  · simp [k7]
  by_cases k8:k=8
  · simp [k8]
  by_cases k9:k=9
  · simp [k9]
  simp [k1,k2,k3,k4,k5,k6,k7,k8,k9]
theorem aM7:xZ=qZ:=by
  funext p q
  unfold xZ qZ V9 qI dX
  rfl
def okT (p:Int):Prop:=0≤p∧p≤3
theorem aFv {p:Int} (h:okT p):qI p=some true:=by
  unfold qI dX
  have h1:=h.1
  have h2:=h.2
  simp [h1,h2]
theorem aJ6 {p q:Int} (hp:okT p) (hq:okT q):∃ r,qZ p q=some r∧okT r.1:=by
  unfold qZ
  rw [aFv hp,aFv hq]
  simp only [Bool.not_true,beq_self_eq_true,Bool.and_self,if_true,Bool.false_eq_true,if_false,Option.bind_eq_bind,Option.bind_some]
  have h0:okT 0:=⟨by omega,by omega⟩
  by_cases p0:p=0
  · exact ⟨(q,true),by simp [p0],hq⟩
  · by_cases q0:q=0∨p=q
    · refine ⟨(p,true),?_,hp⟩
      rcases q0 with h | h <;> simp [p0,h]
    · have a1:¬ q=0:=fun h=>q0 (.inl h)
      have a2:¬ p=q:=fun h=>q0 (.inr h)
      exact ⟨(0,false),by simp [p0,a1,a2],h0⟩
theorem aJ2:xW=sI:=rfl
theorem aC4 (p:Int):∃ b,sI p=some b:=⟨_,rfl⟩
theorem aRd (p q:Int):yC p q=some (decide (p=0)||decide (p=q)):=by
  unfold yC
  by_cases h:p=0 <;> simp [h]
theorem aYc (a p q:Int):xJ a p q=some ((decide (p=0)||decide (p=a))&&(decide (q=0)||decide (q=a))):=by
  unfold xJ
  by_cases h1:p=a <;> by_cases h2:p=0 <;> by_cases h3:q=a <;> by_cases h4:q=0 <;> simp [h1,h2,h3,h4]
theorem bF9 (o p q:Int) (hp:okT p) (hq:okT q):∃ r,aAf o p q=some r∧V3 o p q=some r∧okT r.1:=by
  have h0:okT 0:=⟨by omega,by omega⟩
  have h3:okT 3:=⟨by omega,by omega⟩
  have h2:okT 2:=⟨by omega,by omega⟩
  have h1:okT 1:=⟨by omega,by omega⟩
  obtain ⟨m,m1,m2⟩:=aJ6 hp hq
  obtain ⟨t1,e1⟩:=aC4 p
  obtain ⟨t2,e2⟩:=aC4 q
  unfold aAf V3 vF aB7 kH dX
  simp only [aM7,aJ2,m1,e1,e2,aFv hp,aFv hq,aRd,aYc,Option.bind_eq_bind,Option.bind_some]
  by_cases a:1≤o
  · by_cases b:o≤14
    · have c1:¬ o<1:=by omega
      have c2:¬ 14<o:=by omega
      by_cases d:o≤2
      · cases t1 <;> cases t2
        · exact ⟨(0,false),by simp [c1,c2,d],by simp [a,b,d],h0⟩
        · exact ⟨(0,false),by simp [c1,c2,d],by simp [a,b,d],h0⟩
        · exact ⟨(0,false),by simp [c1,c2,d],by simp [a,b,d],h0⟩
        · exact ⟨(3,true),by simp [c1,c2,d],by simp [a,b,d],h3⟩
      by_cases d2:o≤8
      · cases hm:m.2
        · exact ⟨(0,false),by simp [c1,c2,d,d2,hm],by simp [a,b,d,d2,hm],h0⟩
        · exact ⟨(3,true),by simp [c1,c2,d,d2,hm],by simp [a,b,d,d2,hm],h3⟩
      by_cases d3:o=9
      · subst d3
        generalize (decide (p=0)||decide (p=2))=b1
        generalize (decide (q=0)||decide (q=2))=b2
        cases b1 <;> cases b2
        · exact ⟨(0,false),by simp,by simp,h0⟩
        · exact ⟨(0,false),by simp,by simp,h0⟩
        · exact ⟨(0,false),by simp,by simp,h0⟩
        · exact ⟨(2,true),by simp,by simp,h2⟩
      · generalize (decide (p=0)||decide (p=1))=b1
        generalize (decide (q=0)||decide (q=1))=b2
        cases b1 <;> cases b2
        · exact ⟨(0,false),by simp [c1,c2,d,d2,d3],by simp [a,b,d,d2,d3],h0⟩
        · exact ⟨(0,false),by simp [c1,c2,d,d2,d3],by simp [a,b,d,d2,d3],h0⟩
        · exact ⟨(0,false),by simp [c1,c2,d,d2,d3],by simp [a,b,d,d2,d3],h0⟩
        · exact ⟨(1,true),by simp [c1,c2,d,d2,d3],by simp [a,b,d,d2,d3],h1⟩
    · have c2:14<o:=by omega
      exact ⟨(0,false),by simp [c2],by simp [b],h0⟩
  · have c1:o<1:=by omega
    exact ⟨(0,false),by simp [c1],by simp [a],h0⟩
theorem bMj (o p:Int):∃ r,Y7 o p=some r∧X7 o p=some r∧okT r.1:=by
  have h0:okT 0:=⟨by omega,by omega⟩
  have h3:okT 3:=⟨by omega,by omega⟩
  have h1:okT 1:=⟨by omega,by omega⟩
  obtain ⟨t1,e1⟩:=aC4 p
  unfold Y7 X7 kH
  simp only [aJ2,e1,aRd,aYc,Option.bind_eq_bind,Option.bind_some]
  by_cases a:o=15
  · subst a
    cases t1
    · exact ⟨(0,false),by simp,by simp,h0⟩
    · exact ⟨(3,true),by simp,by simp,h3⟩
  by_cases b:o=16
  · subst b
    generalize (decide (p=0)||decide (p=1))=b1
    cases b1
    · exact ⟨(0,false),by simp,by simp,h0⟩
    · exact ⟨(1,true),by simp,by simp,h1⟩
  · exact ⟨(0,false),by simp [a,b],by simp [a,b],h0⟩
theorem bOt (l:List Int) (hl:l.length≤1048576) (h:∀ p ∈ l,okT p):∃ r,U8 l=some r∧rQ l=some r.2:=by
  have key:∀ i,i≤l.length→∀ x,okT x→∃ r,rD l x (i:Nat)=some r∧oZ l x (i:Nat)=some r.2:=by
    refine fD ?_ ?_
    · intro x hx
      rw [rD,oZ]
      exact ⟨(x,true),by simp,by simp⟩
    · intro i hi ih x hx
      rw [rD,oZ]
      obtain ⟨m,m1,m2⟩:=aJ6 hx (h _ (List.getElem_mem hi))
      simp only [eF,hi,decide_true,if_true,dV hi,eU hi (by omega),aM7,m1,Option.bind_eq_bind,Option.bind_some]
      cases hm:m.2
      · exact ⟨(0,false),by simp,by simp⟩
      · simpa using ih m.1 m2
  unfold U8 rQ
  exact key 0 (by omega) 0 ⟨by omega,by omega⟩
theorem bSt {v:dF} (h:rU v=some true):okT v.kind:=by
  unfold rU at h
  have hv:uN v=some true:=by
    obtain ⟨_,b,e2⟩:=aSe v
    rw [e2] at h ⊢
    cases b with
    | true=>rfl
    | false=>simp at h
  unfold uN at hv
  unfold okT
  by_cases k0:v.kind=0
  · omega
  by_cases k1:v.kind=1
  · omega
  by_cases k2:v.kind=2
  · omega
  by_cases k3:v.kind=3
  · omega
  simp [k0,k1,k2,k3] at hv
def aTp (p:aA):Prop:=(p.kind=1∧p.kids.length=0∧p.sub.length=0∧okT p.value.kind)∨(p.kind=2∧p.kids.length=0∧p.sub.length=0)∨(p.kind=3∧p.kids.length=1∧p.sub.length=0)∨(p.kind=4∧p.kids.length=2∧p.sub.length=0) ∨
  (p.kind=5∧p.kids.length=1∧p.sub.length=0)∨(p.kind=6∧p.kids.length=3∧p.sub.length=0)∨(p.kind=7∧(2≤p.kids.length∧p.kids.length≤9)∧p.sub.length=0)∨(p.kind=8∧p.kids.length=1∧p.sub.length=1)∨(p.kind=9∧p.kids.length=0∧p.sub.length=1)
theorem aU9 {β:Type} {b:Bool} {m:Option Bool} {K:Bool→Option β}:((if (true&&(b==true))=true then m else some (default:Bool)).bind fun y=>(some (if b=true then y else false)).bind K)=((if b=true then m else some false).bind K):=by cases b <;> cases m <;> rfl
theorem aVw (b c:Bool):(if b=true then some c else some false)=some (b&&c):=by cases b <;> rfl
theorem bAu {β:Type} {b n u:Bool} {K:Bool→Option β}:((if ((true&&(b==true))&&(n==false))=true then some u else some (default:Bool)).bind fun y8=>(if (true&&(b==true))=true then some (if n=true then true else y8) else some (default:Bool)).bind fun y9=>(some (if b=true then y9 else false)).bind K)=K (b&&(n||u)):=by cases b <;> cases n <;> rfl
theorem or3 {β:Type} {b n u:Bool} {K:Bool→Option β}:((if ((true&&(b==true))&&(n==false))=true then some u else some (default:Bool)).bind fun y8=>K (b&&(n||y8)))=K (b&&(n||u)):=by cases b <;> cases n <;> rfl
theorem bK6 (p:aA) (f:fV) (ok:Bool) (h:wQ (cO.mk p.kind p.op false p.value [] [120] [] [])=some (f,ok)):yN p=some (ok&&(f.op||decide (p.op=0))&&(f.not_||!p.not_)&&(f.value||((decide (p.value.kind=0))&&((decide (p.value.num=0))&&((decide (p.value.text=[]))&&true))))&&(f.name||(decide (p.up=0)&&decide (p.at_=0)))&&decide (f.least≤(p.kids.length:Int))&&decide ((p.kids.length:Int)≤f.most)&&decide ((p.sub.length:Int)=f.subs)):=by
  rw [yN,h]
  simp only [Option.bind_eq_bind]
  rw [show ∀ K:fV×Bool→Option Bool,(some (f,ok)).bind K=K (f,ok) from fun _=>rfl]
  simp only [aU9,bAu]
  simp only [aVw,Option.bind_some,aK0,orB]
  exact or3 (K:=fun z=>some (z&&decide (f.least≤(p.kids.length:Int))&&decide ((p.kids.length:Int)≤f.most)&&decide ((p.sub.length:Int)=f.subs)))
theorem bNw (p:aA) (hk:p.kids.length≤1048576) (hs:p.sub.length≤1048576):∃ b,G8 p=some b∧yN p=some b∧(b=true→aTp p):=by
  obtain ⟨bl,l1,l2⟩:=aT3 p.value
  have hlk:bl=true→okT p.value.kind:=fun h=>bSt (by rw [l1,h])
  have e1:mkG 136 (p.kids.length:Int) (cO.mk 0 0 false (dF.mk 0 0 []) [] [] [] [])=some (List.replicate p.kids.length (cO.mk 0 0 false (dF.mk 0 0 []) [] [] [] [])):=aK6 (by omega)
  have e2:mkG 112 (p.sub.length:Int) (eY.mk false [] [] [] [] 0)=some (List.replicate p.sub.length (eY.mk false [] [] [] [] 0)):=aK6 (by omega)
  have hw:IntKind.wrap .i64 ((p.kids.length:Int)+(p.sub.length:Int))=(p.kids.length:Int)+(p.sub.length:Int):=gH (by omega) (by omega)
  have hF:=cAw (cO.mk p.kind p.op false p.value [] [120] [] []) bl true l2 rfl
  obtain ⟨⟨f,ok⟩,hfo⟩:∃ r,wQ (cO.mk p.kind p.op false p.value [] [120] [] [])=some r:=⟨_,hF⟩
  rw [bK6 p f ok hfo]
  rw [hfo] at hF
  have n97:iX [97]=some true:=rfl
  have m0:oI []=some true:=rfl
  have hS:G8 p=if (!decide (p.kind=2)&&(!decide (p.up=0)||!decide (p.at_=0)))=true then some false else (if decide (p.kind=2)=true then xQ (cO.mk p.kind p.op p.not_ p.value [] [97] (List.replicate p.kids.length (cO.mk 0 0 false (dF.mk 0 0 []) [] [] [] [])) (List.replicate p.sub.length (eY.mk false [] [] [] [] 0))) else xQ (cO.mk p.kind p.op p.not_ p.value [] [] (List.replicate p.kids.length (cO.mk 0 0 false (dF.mk 0 0 []) [] [] [] [])) (List.replicate p.sub.length (eY.mk false [] [] [] [] 0)))):=by
    unfold G8 Z9
    simp only [Option.bind_eq_bind]
    simp only [aU9]
    simp only [e1,e2,aVw,Option.bind_some,Option.bind_fun_some,aK0,orB]
  rw [hS]
  unfold aTp
  simp only [bSb,zvE,List.length_replicate,hw,l1,n97,m0]
  obtain ⟨k,o,no,v,up,at_,ks,sb⟩:=p
  dsimp only at hk hs hF hlk ⊢
  generalize ((decide (v.kind=0))&&((decide (v.num=0))&&((decide (v.text=[]))&&true)))=zv
  have fin:∀ (a b:Bool) (P:Prop),a=b→(b=true→P)→∃ c,(some a:Option Bool)=some c∧(some b:Option Bool)=some c∧(c=true→P):=by
    rintro a b P rfl h; exact ⟨a,rfl,rfl,h⟩
  have hif:∀ (a b:Bool) (X:Bool),(if a=true then some false else if b=true then some false else some X)=some (!a&&(!b&&X)):=by intro a b X; cases a <;> cases b <;> rfl
  have hif1:∀ (a:Bool) (X:Bool),(if a=true then some false else some X)=some (!a&&X):=by intro a X; cases a <;> rfl
  clear hS hfo e1 e2 hw l1 l2 n97 m0
  have eN:∀ n:Int,(decide (n≤(ks.length:Int))&&decide ((ks.length:Int)≤n))=decide ((ks.length:Int)=n):=fun n=>by rw [Bool.eq_iff_iff]; simp only [Bool.and_eq_true,decide_eq_true_eq]; omega
  have e0:decide ((ks.length:Int)+(sb.length:Int)=0)=(decide ((ks.length:Int)=0)&&decide ((sb.length:Int)=0)):=by rw [Bool.eq_iff_iff]; simp only [Bool.and_eq_true,decide_eq_true_eq]; omega
  by_cases k1:k=1
  · subst k1
    simp only [Int.reduceEq,if_true,if_false,Option.some.injEq,Prod.mk.injEq] at hF
    obtain ⟨rfl,rfl⟩:=hF
    simp only [Int.reduceEq,Int.reduceLE,if_true,if_false,decide_true,decide_false,Bool.not_true,Bool.not_false,Bool.true_and,Bool.false_and,Bool.and_true,Bool.and_false,Bool.false_or,Bool.or_false,Bool.true_or,Bool.or_true,Bool.false_eq_true,Option.bind_eq_bind,Option.bind_some,hif,hif1]
    refine fin _ _ _ ?_ fun h=>?_
    · simp only [e0,Bool.and_assoc]
      try simp only [← Bool.and_assoc (decide (_≤(ks.length:Int))),eN]
      generalize decide ((ks.length:Int)=0)=c0
      generalize decide ((ks.length:Int)=1)=c1
      generalize decide ((ks.length:Int)=2)=c2
      generalize decide ((ks.length:Int)=3)=c3
      generalize decide (2≤(ks.length:Int))=c4
      generalize decide ((ks.length:Int)≤9)=c5
      generalize decide ((sb.length:Int)=0)=d0
      generalize decide ((sb.length:Int)=1)=d1
      generalize decide (up=0)=u0
      generalize decide (at_=0)=a0
      generalize decide (o=0)=o0
      generalize decide (o=15)=o5
      generalize decide (o=16)=o6
      generalize decide (1≤o)=o7
      generalize decide (o≤14)=o8
      cases ok <;> cases no <;> cases u0 <;> cases a0 <;> cases o0 <;> cases c0 <;> cases d0 <;> rfl
    · simp only [Bool.and_eq_true,decide_eq_true_eq] at h
      exact .inl ⟨trivial,by omega,by omega,hlk h.1.1.1.1.1.1⟩
  by_cases k2:k=2
  · subst k2
    simp only [Int.reduceEq,if_true,if_false,Option.some.injEq,Prod.mk.injEq] at hF
    obtain ⟨rfl,rfl⟩:=hF
    simp only [Int.reduceEq,Int.reduceLE,if_true,if_false,decide_true,decide_false,Bool.not_true,Bool.not_false,Bool.true_and,Bool.false_and,Bool.and_true,Bool.and_false,Bool.false_or,Bool.or_false,Bool.true_or,Bool.or_true,Bool.false_eq_true,Option.bind_eq_bind,Option.bind_some,hif,hif1]
    refine fin _ _ _ ?_ fun h=>?_
    · simp only [e0,Bool.and_assoc]
      try simp only [← Bool.and_assoc (decide (_≤(ks.length:Int))),eN]
      generalize decide ((ks.length:Int)=0)=c0
      generalize decide ((ks.length:Int)=1)=c1
      generalize decide ((ks.length:Int)=2)=c2
      generalize decide ((ks.length:Int)=3)=c3
      generalize decide (2≤(ks.length:Int))=c4
      generalize decide ((ks.length:Int)≤9)=c5
      generalize decide ((sb.length:Int)=0)=d0
      generalize decide ((sb.length:Int)=1)=d1
      generalize decide (up=0)=u0
      generalize decide (at_=0)=a0
      generalize decide (o=0)=o0
      generalize decide (o=15)=o5
      generalize decide (o=16)=o6
      generalize decide (1≤o)=o7
      generalize decide (o≤14)=o8
      cases no <;> cases zv <;> cases o0 <;> cases c0 <;> cases d0 <;> rfl
    · simp only [Bool.and_eq_true,decide_eq_true_eq] at h
      simp only [Int.reduceEq,false_and,false_or,true_and,or_false]
      omega
  by_cases k3:k=3
  · subst k3
    simp only [Int.reduceEq,if_true,if_false,Option.some.injEq,Prod.mk.injEq] at hF
    obtain ⟨rfl,rfl⟩:=hF
    simp only [Int.reduceEq,Int.reduceLE,if_true,if_false,decide_true,decide_false,Bool.not_true,Bool.not_false,Bool.true_and,Bool.false_and,Bool.and_true,Bool.and_false,Bool.false_or,Bool.or_false,Bool.true_or,Bool.or_true,Bool.false_eq_true,Option.bind_eq_bind,Option.bind_some,hif,hif1]
    refine fin _ _ _ ?_ fun h=>?_
    · simp only [e0,Bool.and_assoc]
      try simp only [← Bool.and_assoc (decide (_≤(ks.length:Int))),eN]
      generalize decide ((ks.length:Int)=0)=c0
      generalize decide ((ks.length:Int)=1)=c1
      generalize decide ((ks.length:Int)=2)=c2
      generalize decide ((ks.length:Int)=3)=c3
      generalize decide (2≤(ks.length:Int))=c4
      generalize decide ((ks.length:Int)≤9)=c5
      generalize decide ((sb.length:Int)=0)=d0
      generalize decide ((sb.length:Int)=1)=d1
      generalize decide (up=0)=u0
      generalize decide (at_=0)=a0
      generalize decide (o=0)=o0
      generalize decide (o=15)=o5
      generalize decide (o=16)=o6
      generalize decide (1≤o)=o7
      generalize decide (o≤14)=o8
      cases no <;> cases zv <;> cases u0 <;> cases a0 <;> cases o5 <;> cases o6 <;> cases c1 <;> cases d0 <;> rfl
    · simp only [Bool.and_eq_true,decide_eq_true_eq] at h
      simp only [Int.reduceEq,false_and,false_or,true_and,or_false]
      omega
  by_cases k4:k=4
  · subst k4
    simp only [Int.reduceEq,if_true,if_false,Option.some.injEq,Prod.mk.injEq] at hF
    obtain ⟨rfl,rfl⟩:=hF
    simp only [Int.reduceEq,Int.reduceLE,if_true,if_false,decide_true,decide_false,Bool.not_true,Bool.not_false,Bool.true_and,Bool.false_and,Bool.and_true,Bool.and_false,Bool.false_or,Bool.or_false,Bool.true_or,Bool.or_true,Bool.false_eq_true,Option.bind_eq_bind,Option.bind_some,hif,hif1]
    refine fin _ _ _ ?_ fun h=>?_
    · simp only [e0,Bool.and_assoc]
      try simp only [← Bool.and_assoc (decide (_≤(ks.length:Int))),eN]
      generalize decide ((ks.length:Int)=0)=c0
      generalize decide ((ks.length:Int)=1)=c1
      generalize decide ((ks.length:Int)=2)=c2
      generalize decide ((ks.length:Int)=3)=c3
      generalize decide (2≤(ks.length:Int))=c4
      generalize decide ((ks.length:Int)≤9)=c5
      generalize decide ((sb.length:Int)=0)=d0
      generalize decide ((sb.length:Int)=1)=d1
      generalize decide (up=0)=u0
      generalize decide (at_=0)=a0
      generalize decide (o=0)=o0
      generalize decide (o=15)=o5
      generalize decide (o=16)=o6
      generalize decide (1≤o)=o7
      generalize decide (o≤14)=o8
      cases no <;> cases zv <;> cases u0 <;> cases a0 <;> cases o7 <;> cases o8 <;> cases c2 <;> cases d0 <;> rfl
    · simp only [Bool.and_eq_true,decide_eq_true_eq] at h
      simp only [Int.reduceEq,false_and,false_or,true_and,or_false]
      omega
  by_cases k5:k=5
  · subst k5
    simp only [Int.reduceEq,if_true,if_false,Option.some.injEq,Prod.mk.injEq] at hF
    obtain ⟨rfl,rfl⟩:=hF
    simp only [Int.reduceEq,Int.reduceLE,if_true,if_false,decide_true,decide_false,Bool.not_true,Bool.not_false,Bool.true_and,Bool.false_and,Bool.and_true,Bool.and_false,Bool.false_or,Bool.or_false,Bool.true_or,Bool.or_true,Bool.false_eq_true,Option.bind_eq_bind,Option.bind_some,hif,hif1]
    refine fin _ _ _ ?_ fun h=>?_
    · simp only [e0,Bool.and_assoc]
      try simp only [← Bool.and_assoc (decide (_≤(ks.length:Int))),eN]
      generalize decide ((ks.length:Int)=0)=c0
      generalize decide ((ks.length:Int)=1)=c1
      generalize decide ((ks.length:Int)=2)=c2
      generalize decide ((ks.length:Int)=3)=c3
      generalize decide (2≤(ks.length:Int))=c4
      generalize decide ((ks.length:Int)≤9)=c5
      generalize decide ((sb.length:Int)=0)=d0
      generalize decide ((sb.length:Int)=1)=d1
      generalize decide (up=0)=u0
      generalize decide (at_=0)=a0
      generalize decide (o=0)=o0
      generalize decide (o=15)=o5
      generalize decide (o=16)=o6
      generalize decide (1≤o)=o7
      generalize decide (o≤14)=o8
      cases zv <;> cases u0 <;> cases a0 <;> cases o0 <;> cases c1 <;> cases d0 <;> rfl
    · simp only [Bool.and_eq_true,decide_eq_true_eq] at h
      simp only [Int.reduceEq,false_and,false_or,true_and,or_false]
      omega
  by_cases k6:k=6
  · subst k6
    simp only [Int.reduceEq,if_true,if_false,Option.some.injEq,Prod.mk.injEq] at hF
    obtain ⟨rfl,rfl⟩:=hF
    simp only [Int.reduceEq,Int.reduceLE,if_true,if_false,decide_true,decide_false,Bool.not_true,Bool.not_false,Bool.true_and,Bool.false_and,Bool.and_true,Bool.and_false,Bool.false_or,Bool.or_false,Bool.true_or,Bool.or_true,Bool.false_eq_true,Option.bind_eq_bind,Option.bind_some,hif,hif1]
    refine fin _ _ _ ?_ fun h=>?_
    · simp only [e0,Bool.and_assoc]
      try simp only [← Bool.and_assoc (decide (_≤(ks.length:Int))),eN]
      generalize decide ((ks.length:Int)=0)=c0
      generalize decide ((ks.length:Int)=1)=c1
      generalize decide ((ks.length:Int)=2)=c2
      generalize decide ((ks.length:Int)=3)=c3
      generalize decide (2≤(ks.length:Int))=c4
      generalize decide ((ks.length:Int)≤9)=c5
      generalize decide ((sb.length:Int)=0)=d0
      generalize decide ((sb.length:Int)=1)=d1
      generalize decide (up=0)=u0
      generalize decide (at_=0)=a0
      generalize decide (o=0)=o0
      generalize decide (o=15)=o5
      generalize decide (o=16)=o6
      generalize decide (1≤o)=o7
      generalize decide (o≤14)=o8
      cases zv <;> cases u0 <;> cases a0 <;> cases o0 <;> cases c3 <;> cases d0 <;> rfl
    · simp only [Bool.and_eq_true,decide_eq_true_eq] at h
      simp only [Int.reduceEq,false_and,false_or,true_and,or_false]
      omega
  by_cases k7:k=7
  · subst k7
    simp only [Int.reduceEq,if_true,if_false,Option.some.injEq,Prod.mk.injEq] at hF
    obtain ⟨rfl,rfl⟩:=hF
    simp only [Int.reduceEq,Int.reduceLE,if_true,if_false,decide_true,decide_false,Bool.not_true,Bool.not_false,Bool.true_and,Bool.false_and,Bool.and_true,Bool.and_false,Bool.false_or,Bool.or_false,Bool.true_or,Bool.or_true,Bool.false_eq_true,Option.bind_eq_bind,Option.bind_some,hif,hif1]
    refine fin _ _ _ ?_ fun h=>?_
    · simp only [e0,Bool.and_assoc]
      try simp only [← Bool.and_assoc (decide (_≤(ks.length:Int))),eN]
      generalize decide ((ks.length:Int)=0)=c0
      generalize decide ((ks.length:Int)=1)=c1
      generalize decide ((ks.length:Int)=2)=c2
      generalize decide ((ks.length:Int)=3)=c3
      generalize decide (2≤(ks.length:Int))=c4
      generalize decide ((ks.length:Int)≤9)=c5
      generalize decide ((sb.length:Int)=0)=d0
      generalize decide ((sb.length:Int)=1)=d1
      generalize decide (up=0)=u0
      generalize decide (at_=0)=a0
      generalize decide (o=0)=o0
      generalize decide (o=15)=o5
      generalize decide (o=16)=o6
      generalize decide (1≤o)=o7
      generalize decide (o≤14)=o8
      cases zv <;> cases u0 <;> cases a0 <;> cases o0 <;> cases c4 <;> cases c5 <;> cases d0 <;> rfl
    · simp only [Bool.and_eq_true,decide_eq_true_eq] at h
      simp only [Int.reduceEq,false_and,false_or,true_and,or_false]
      omega
  by_cases k8:k=8
  · subst k8
    simp only [Int.reduceEq,if_true,if_false,Option.some.injEq,Prod.mk.injEq] at hF
    obtain ⟨rfl,rfl⟩:=hF
    simp only [Int.reduceEq,Int.reduceLE,if_true,if_false,decide_true,decide_false,Bool.not_true,Bool.not_false,Bool.true_and,Bool.false_and,Bool.and_true,Bool.and_false,Bool.false_or,Bool.or_false,Bool.true_or,Bool.or_true,Bool.false_eq_true,Option.bind_eq_bind,Option.bind_some,hif,hif1]
    refine fin _ _ _ ?_ fun h=>?_
    · simp only [e0,Bool.and_assoc]
      try simp only [← Bool.and_assoc (decide (_≤(ks.length:Int))),eN]
      generalize decide ((ks.length:Int)=0)=c0
      generalize decide ((ks.length:Int)=1)=c1
      generalize decide ((ks.length:Int)=2)=c2
      generalize decide ((ks.length:Int)=3)=c3
      generalize decide (2≤(ks.length:Int))=c4
      generalize decide ((ks.length:Int)≤9)=c5
      generalize decide ((sb.length:Int)=0)=d0
      generalize decide ((sb.length:Int)=1)=d1
      generalize decide (up=0)=u0
      generalize decide (at_=0)=a0
      generalize decide (o=0)=o0
      generalize decide (o=15)=o5
      generalize decide (o=16)=o6
      generalize decide (1≤o)=o7
      generalize decide (o≤14)=o8
      cases zv <;> cases u0 <;> cases a0 <;> cases o0 <;> cases c1 <;> cases d1 <;> rfl
    · simp only [Bool.and_eq_true,decide_eq_true_eq] at h
      simp only [Int.reduceEq,false_and,false_or,true_and,or_false]
      omega
  by_cases k9:k=9
  · subst k9
    simp only [Int.reduceEq,if_true,if_false,Option.some.injEq,Prod.mk.injEq] at hF
    obtain ⟨rfl,rfl⟩:=hF
    simp only [Int.reduceEq,Int.reduceLE,if_true,if_false,decide_true,decide_false,Bool.not_true,Bool.not_false,Bool.true_and,Bool.false_and,Bool.and_true,Bool.and_false,Bool.false_or,Bool.or_false,Bool.true_or,Bool.or_true,Bool.false_eq_true,Option.bind_eq_bind,Option.bind_some,hif,hif1]
    refine fin _ _ _ ?_ fun h=>?_
    · simp only [e0,Bool.and_assoc]
      try simp only [← Bool.and_assoc (decide (_≤(ks.length:Int))),eN]
      generalize decide ((ks.length:Int)=0)=c0
      generalize decide ((ks.length:Int)=1)=c1
      generalize decide ((ks.length:Int)=2)=c2
      generalize decide ((ks.length:Int)=3)=c3
      generalize decide (2≤(ks.length:Int))=c4
      generalize decide ((ks.length:Int)≤9)=c5
      generalize decide ((sb.length:Int)=0)=d0
      generalize decide ((sb.length:Int)=1)=d1
      generalize decide (up=0)=u0
      generalize decide (at_=0)=a0
      generalize decide (o=0)=o0
      generalize decide (o=15)=o5
      generalize decide (o=16)=o6
      generalize decide (1≤o)=o7
      generalize decide (o≤14)=o8
      cases no <;> cases zv <;> cases u0 <;> cases a0 <;> cases o0 <;> cases c0 <;> cases d1 <;> rfl
    · simp only [Bool.and_eq_true,decide_eq_true_eq] at h
      simp only [Int.reduceEq,false_and,false_or,true_and,or_false]
      omega
  simp only [k1,k2,k3,k4,k5,k6,k7,k8,k9,if_false,Option.some.injEq,Prod.mk.injEq] at hF
  obtain ⟨rfl,rfl⟩:=hF
  simp only [k1,k2,k3,k4,k5,k6,k7,k8,k9,Int.reduceEq,Int.reduceLE,if_true,if_false,decide_true,decide_false,Bool.not_true,Bool.not_false,Bool.true_and,Bool.false_and,Bool.and_true,Bool.and_false,Bool.false_or,Bool.or_false,Bool.true_or,Bool.or_true,Bool.false_eq_true,Option.bind_eq_bind,Option.bind_some,hif,hif1]
  refine ⟨false,?_,rfl,by simp⟩
  repeat' split
  all_goals first | rfl | simp
theorem aK2 {n : Nat} {L : Int → Option Bool} {good : Nat → Prop} {KP : Prop}
    (hstep:∀ i,i<n→(good i→L (i:Nat)=L ((i+1:Nat):Int))∧(¬ good i→L (i:Nat)=some false))
    (hend:∃ b,L (n:Nat)=some b∧(b=true↔KP)):∃ b,L 0=some b∧(b=true↔(∀ i,i<n→good i)∧KP):=by
  have key:∀ i,i≤n→∃ b,L (i:Nat)=some b∧(b=true↔(∀ k,i≤k→k<n→good k)∧KP):=by
    refine fD ?_ ?_
    · obtain ⟨b,h1,h2⟩:=hend
      exact ⟨b,h1,h2.trans ⟨fun h=>⟨fun k h1 h2=>by omega,h⟩,fun h=>h.2⟩⟩
    · intro i hi ih
      obtain ⟨b,h1,h2⟩:=ih
      obtain ⟨s1,s2⟩:=hstep i hi
      by_cases hg:good i
      · refine ⟨b,(s1 hg).trans h1,h2.trans ⟨fun h=>⟨fun k k1 k2=>?_,h.2⟩,fun h=>⟨fun k k1 k2=>h.1 k (by omega) k2,h.2⟩⟩⟩
        by_cases e:k=i
        · subst e; exact hg
        · exact h.1 k (by omega) k2
      · refine ⟨false,s2 hg,?_⟩
        simp only [Bool.false_eq_true,false_iff,not_and]
        intro h
        exact absurd (h i (by omega) hi) hg
  obtain ⟨b,h1,h2⟩:=key 0 (by omega)
  exact ⟨b,h1,h2.trans ⟨fun h=>⟨fun k hk=>h.1 k (by omega) hk,h.2⟩,fun h=>⟨fun k _ hk=>h.1 k hk,h.2⟩⟩⟩
theorem aOx {γ : Type} {n : Nat} {L M : Int → Option γ} (hstep : ∀ i, i < n → L ((i + 1 : Nat) : Int) = M ((i + 1 : Nat) : Int) → (∃ r, L ((i + 1 : Nat) : Int) = some r) → L (i : Nat) = M (i : Nat) ∧ ∃ r, L (i : Nat) = some r)
    (hend:L (n:Nat)=M (n:Nat)∧∃ r,L (n:Nat)=some r):L 0=M 0∧∃ r,L 0=some r:=by
  have key:∀ i,i≤n→L (i:Nat)=M (i:Nat)∧∃ r,L (i:Nat)=some r :=
    fD hend fun i hi ih=>hstep i hi ih.1 ih.2
  exact key 0 (by omega)
theorem aH4 (s:List UInt8):jY s=iX s∧∃ b,iX s=some b∧(b=true↔1≤s.length∧s.length≤20):=by
  unfold jY iX dX
  simp only [Option.bind_eq_bind,Option.bind_some]
  refine ⟨by simp,_,rfl,?_⟩
  by_cases h1:(1:Int)≤(s.length:Int)
  · simp [h1]; omega
  · simp [h1]; omega
theorem aPh (t:bD) (s:List UInt8) (hl:t.cols.length≤1048576):U4 t s=wK t s∧∃ r,wK t s=some r:=by
  have:=aOx (n:=t.cols.length) (L:=fun i=>uU t.cols s i) (M:=fun i=>uV s t i) ?_ ?_
  · unfold U4 aE2 wK
    obtain ⟨h1,r,h2⟩:=this
    try simp only at h1 h2
    rw [← h1,h2]
    exact ⟨rfl,r,rfl⟩
  · intro i hi h1 h2
    try dsimp only at h1 h2 ⊢
    rw [uU,uV]
    simp only [eF,dV hi,eU hi (by omega),hi,decide_true,if_true,aDx,Option.bind_eq_bind,Option.bind_some]
    by_cases hc:t.cols[i].name=s
    · simp [hc]
    · simp only [hc,decide_false,Bool.false_eq_true,if_false]
      exact ⟨h1,h2⟩
  · try dsimp only
    rw [uU,uV]
    simp
theorem aTk (c:aJ) (s:List UInt8) (hl:c.tables.length≤1048576):X8 c s=mW c s∧∃ r,mW c s=some r:=by
  have:=aOx (n:=c.tables.length) (L:=fun i=>vK c.tables s i) (M:=fun i=>uB s c i) ?_ ?_
  · unfold X8 aC5 mW
    obtain ⟨h1,r,h2⟩:=this
    try simp only at h1 h2
    rw [← h1,h2]
    exact ⟨rfl,r,rfl⟩
  · intro i hi h1 h2
    try dsimp only at h1 h2 ⊢
    rw [vK,uB]
    simp only [eF,dV hi,eU hi (by omega),hi,decide_true,if_true,aEr,Option.bind_eq_bind,Option.bind_some]
    by_cases hc:c.tables[i].name=s
    · simp [hc]
    · simp only [hc,decide_false,Bool.false_eq_true,if_false]
      exact ⟨h1,h2⟩
  · try dsimp only
    rw [vK,uB]
    simp
def lH (t:bD) (j:Nat):Prop:=∃ c,t.cols[j]?=some c∧(1≤c.name.length∧c.name.length≤20)∧(1≤c.type∧c.type≤3)∧wK t c.name=some (j:Int)
def nL (t:bD):Prop:=(∀ j,j<t.cols.length→lH t j)∧((1≤t.name.length∧t.name.length≤20)∧1≤t.cols.length∧t.cols.length≤4)
theorem bJ0 (t:bD) (hl:t.cols.length≤1048576):∃ b,Y0 t=some b∧(b=true↔nL t):=by
  unfold Y0 nL
  refine aK2 (n:=t.cols.length) (L:=fun i=>uG t i) (good:=lH t) ?_ ?_
  · intro i hi
    try dsimp only
    rw [uG]
    obtain ⟨n1,b,n2,n3⟩:=aH4 t.cols[i].name
    obtain ⟨c1,k,c2⟩:=aPh t t.cols[i].name hl
    simp only [eF,dV hi,eU hi (by omega),hi,decide_true,if_true,n1,n2,c1,c2,Option.bind_eq_bind,Option.bind_some]
    have hP:lH t i↔(1≤t.cols[i].name.length∧t.cols[i].name.length≤20)∧(1≤t.cols[i].type∧t.cols[i].type≤3)∧k=(i:Int):=by
      unfold lH
      constructor
      · rintro ⟨c,h1,h2,h3,h4⟩
        rw [List.getElem?_eq_getElem hi] at h1
        simp only [Option.some.injEq] at h1; subst h1
        rw [c2] at h4
        exact ⟨h2,h3,by simpa using h4⟩
      · rintro ⟨h2,h3,h4⟩
        exact ⟨_,List.getElem?_eq_getElem hi,h2,h3,by rw [c2,h4]⟩
    rw [hP,← n3]
    cases b with
    | false=>simp
    | true =>
      by_cases t1:t.cols[i].type<1
      · simp [t1] <;> omega
      by_cases t3:3<t.cols[i].type
      · simp [t1,t3] <;> omega
      by_cases hk:k=(i:Int)
      · simp [t1,t3,hk] <;> omega
      · simp [t1,t3,hk]
  · try dsimp only
    rw [uG]
    obtain ⟨n1,b,n2,n3⟩:=aH4 t.name
    simp only [eF,Nat.lt_irrefl,decide_false,Bool.false_eq_true,if_false,n1,n2,Option.bind_eq_bind,Option.bind_some]
    refine ⟨_,rfl,?_⟩
    rw [← n3]
    cases b with
    | false=>simp
    | true =>
      by_cases l1:(1:Int)≤(t.cols.length:Int)
      · simp [l1] <;> omega
      · simp [l1] <;> omega
def Q8 (c:aJ):Prop:=(∀ i,i<c.tables.length→∃ t,c.tables[i]?=some t∧nL t∧mW c t.name=some (i:Int))∧c.tables.length≤4
def J7 (c:aJ):Prop:=c.tables.length≤1048576∧∀ t ∈ c.tables,t.cols.length≤1048576
theorem aXa (c:aJ) (hs:J7 c):∃ b,zJ c=some b∧(b=true↔Q8 c):=by
  unfold zJ Q8
  refine aK2 (n:=c.tables.length) (L:=fun i=>uQ c i) (good:=fun i=>∃ t,c.tables[i]?=some t∧nL t∧mW c t.name=some (i:Int)) ?_ ?_
  · intro i hi
    try dsimp only
    rw [uQ]
    obtain ⟨b,n2,n3⟩:=bJ0 c.tables[i] (hs.2 _ (List.getElem_mem hi))
    obtain ⟨c1,k,c2⟩:=aTk c c.tables[i].name hs.1
    have:=hs.1
    simp only [eF,dV hi,eU hi (by omega),hi,decide_true,if_true,n2,c1,c2,Option.bind_eq_bind,Option.bind_some]
    have hP:(∃ t,c.tables[i]?=some t∧nL t∧mW c t.name=some (i:Int))↔nL c.tables[i]∧k=(i:Int):=by
      constructor
      · rintro ⟨t,h1,h2,h3⟩
        rw [List.getElem?_eq_getElem hi] at h1
        simp only [Option.some.injEq] at h1; subst h1
        rw [c2] at h3
        exact ⟨h2,by simpa using h3⟩
      · rintro ⟨h2,h3⟩
        exact ⟨_,List.getElem?_eq_getElem hi,h2,by rw [c2,h3]⟩
    rw [hP,← n3]
    cases b with
    | false=>simp
    | true =>
      by_cases hk:k=(i:Int)
      · simp [hk]
      · simp [hk]
  · try dsimp only
    rw [uQ]
    refine ⟨decide ((c.tables.length:Int)≤4),by simp,?_⟩
    simp only [decide_eq_true_eq]; omega
theorem aW6 (c:aJ) (hs:J7 c):∃ b,K9 c=some b∧(b=true↔Q8 c):=by
  unfold K9
  by_cases h4:(4:Int)<(c.tables.length:Int)
  · rw [if_pos (by simpa using h4)]
    refine ⟨false,rfl,?_⟩
    unfold Q8
    simp only [Bool.false_eq_true,false_iff,not_and]
    intro _; omega
  rw [if_neg (by simpa using h4)]
  have:=aK2 (n:=c.tables.length) (L:=fun i=>vG c i) (good:=fun i=>∃ t,c.tables[i]?=some t∧nL t∧mW c t.name=some (i:Int)) (KP:=True) ?_ ?_
  · obtain ⟨b,h1,h2⟩:=this
    exact ⟨b,h1,h2.trans ⟨fun h=>⟨h.1,by omega⟩,fun h=>⟨h.1,trivial⟩⟩⟩
  · intro i hi
    try dsimp only
    rw [vG]
    obtain ⟨n1,b,n2,n3⟩:=aH4 c.tables[i].name
    obtain ⟨c1,k,c2⟩:=aTk c c.tables[i].name hs.1
    have:=hs.1
    have hcl:=hs.2 _ (List.getElem_mem hi)
    have inner:∀ (j:Nat),j≤c.tables[i].cols.length→((∀ m,j≤m→m<c.tables[i].cols.length→lH c.tables[i] m)→qX (i:Int) c c.tables[i] (j:Nat)=vG c ((i+1:Nat):Int))∧(¬ (∀ m,j≤m→m<c.tables[i].cols.length→lH c.tables[i] m)→qX (i:Int) c c.tables[i] (j:Nat)=some false):=by
      refine fD ?_ ?_
      · rw [qX]
        simp only [eF,Nat.lt_irrefl,decide_false,Bool.false_eq_true,if_false,eU hi (by omega)]
        refine ⟨fun _=>trivial,fun h=>absurd (fun m h1 h2=>by omega) h⟩
      · intro j hj ih
        rw [qX]
        obtain ⟨_,b',m2,m3⟩:=aH4 c.tables[i].cols[j].name
        obtain ⟨_,k',d2⟩:=aPh c.tables[i] c.tables[i].cols[j].name hcl
        simp only [eF,dV hj,eU hj (by omega),hj,decide_true,if_true,m2,d2,dX,Option.bind_eq_bind,Option.bind_some]
        have hP:lH c.tables[i] j↔b'=true∧(1≤c.tables[i].cols[j].type∧c.tables[i].cols[j].type≤3)∧k'=(j:Int):=by
          unfold lH
          constructor
          · rintro ⟨c',h1,h2,h3,h4⟩
            rw [List.getElem?_eq_getElem hj] at h1
            simp only [Option.some.injEq] at h1; subst h1
            rw [d2] at h4
            exact ⟨m3.2 h2,h3,by simpa using h4⟩
          · rintro ⟨h2,h3,h4⟩
            exact ⟨_,List.getElem?_eq_getElem hj,m3.1 h2,h3,by rw [d2,h4]⟩
        have hall:(∀ m,j≤m→m<c.tables[i].cols.length→lH c.tables[i] m)↔lH c.tables[i] j∧∀ m,j+1≤m→m<c.tables[i].cols.length→lH c.tables[i] m:=by
          constructor
          · intro h; exact ⟨h j (by omega) hj,fun m h1 h2=>h m (by omega) h2⟩
          · rintro ⟨h1,h2⟩ m h3 h4
            by_cases e:m=j
            · subst e; exact h1
            · exact h2 m (by omega) h4
        rw [hall,hP]
        cases b' with
        | false=>simp
        | true =>
          by_cases hk:k'=(j:Int)
          · by_cases t1:1≤c.tables[i].cols[j].type
            · by_cases t3:c.tables[i].cols[j].type≤3
              · have t3':¬ 3<c.tables[i].cols[j].type:=by omega
                simpa [hk,t1,t3,t3',d2] using ih
              · simp [hk,t1,t3,d2]
            · simp [hk,t1,d2]
          · simp [hk,d2]
    obtain ⟨i1,i2⟩:=inner 0 (by omega)
    rw [show ((0:Nat):Int)=0 from rfl] at i1 i2
    simp only [eF,dV hi,eU hi (by omega),hi,decide_true,if_true,n2,c2,dX,Option.bind_eq_bind,Option.bind_some]
    have hP:(∃ t,c.tables[i]?=some t∧nL t∧mW c t.name=some (i:Int))↔nL c.tables[i]∧k=(i:Int):=by
      constructor
      · rintro ⟨t,h1,h2,h3⟩
        rw [List.getElem?_eq_getElem hi] at h1
        simp only [Option.some.injEq] at h1; subst h1
        rw [c2] at h3
        exact ⟨h2,by simpa using h3⟩
      · rintro ⟨h2,h3⟩
        exact ⟨_,List.getElem?_eq_getElem hi,h2,by rw [c2,h3]⟩
    rw [hP]
    unfold nL
    rw [← n3]
    cases b with
    | false=>simp
    | true =>
      by_cases hk:k=(i:Int)
      · by_cases l1:(1:Int)≤(c.tables[i].cols.length:Int)
        · by_cases l4:(c.tables[i].cols.length:Int)≤4
          · have l1':1≤c.tables[i].cols.length:=by omega
            have l4':c.tables[i].cols.length≤4:=by omega
            simp only [hk,l1,l4,l1',l4']
            simp only [Nat.zero_le,true_implies] at i1 i2
            simpa using And.intro i1 (fun (x:Nat) (hx:x<c.tables[i].cols.length) (hn:¬ lH c.tables[i] x)=>i2 fun h=>hn (h x hx))
          · have l4':¬ c.tables[i].cols.length≤4:=by omega
            simp [hk,l1,l4,l4']
        · have l1':¬ 1≤c.tables[i].cols.length:=by omega
          simp [hk,l1,l1']
      · simp [hk]
  · try dsimp only
    rw [vG]
    exact ⟨true,by simp,by simp⟩
def jE (t:bD):List Int:=t.cols.map bL.type
theorem aZ9 (t:bD) (hl:t.cols.length≤1048576):J4 t=some (jE t)∧tL t=some (jE t):=by
  have key:∀ i,i≤t.cols.length→∀ l:List Int,l.length≤i→rX t l (i:Nat)=some (l++(t.cols.drop i).map bL.type)∧rJ t l (i:Nat)=some (l++(t.cols.drop i).map bL.type):=by
    refine fD ?_ ?_
    · intro l _
      rw [rX,rJ]; simp
    · intro i hi ih l hl2
      rw [rX,rJ]
      have ea:appG 8 l [t.cols[i].type]=some (l++[t.cols[i].type]):=by unfold appG; rw [if_pos (by simp; omega)]
      simp only [eF,dV hi,eU hi (by omega),hi,decide_true,if_true,ea,Option.bind_eq_bind,Option.bind_some]
      have:=ih (l++[t.cols[i].type]) (by simp; omega)
      rw [List.drop_eq_getElem_cons hi,List.map_cons]
      simpa using this
  unfold J4 tL jE
  have:=key 0 (by omega) [] (by simp)
  simpa using this
def fM (c:aJ):List Int→List Int→List Int×Bool
  | acc,[]=>(acc,true)
  | acc,i::l=>if 0≤i∧i<(c.tables.length:Int) then fM c (acc++jE (c.tables[i.toNat]?.getD default)) l else ([],false)
def kW (c:aJ):Prop:=c.tables.length≤4∧∀ t ∈ c.tables,t.cols.length≤4∧∀ x ∈ jE t,okT x
theorem aIp (c:aJ) (hc:kW c) (l:List Int) (hl:l.length≤1048576):G6 c l=some (fM c [] l)∧xC c l=some (fM c [] l):=by
  have key:∀ i,i≤l.length→∀ acc:List Int,acc.length≤4 * i→tJ l c acc (i:Nat)=some (fM c acc (l.drop i))∧tQ l c acc (i:Nat)=some (fM c acc (l.drop i)):=by
    refine fD ?_ ?_
    · intro acc _
      rw [tJ,tQ]; simp [fM]
    · intro i hi ih acc ha
      rw [tJ,tQ,List.drop_eq_getElem_cons hi,fM]
      have hw:IntKind.wrap .i64 ((c.tables.length:Int) - 1)=(c.tables.length:Int) - 1:=by have:=hc.1; exact gH (by omega) (by omega)
      unfold dX
      simp only [eF,dV hi,eU hi (by omega),hi,decide_true,if_true,hw,Option.bind_eq_bind,Option.bind_some]
      by_cases h0:0≤l[i]
      · by_cases h1:l[i]<(c.tables.length:Int)
        · have n0:¬ l[i]<0:=by omega
          have n1:¬ (c.tables.length:Int)≤l[i]:=by omega
          have n2:l[i]≤(c.tables.length:Int) - 1:=by omega
          have hj:l[i].toNat<c.tables.length:=by omega
          have hx:idx c.tables l[i]=some c.tables[l[i].toNat]:=by
            have:=dV hj
            rwa [show ((l[i].toNat:Nat):Int)=l[i] by omega] at this
          obtain ⟨t1,t2⟩:=hc.2 _ (List.getElem_mem hj)
          obtain ⟨e1,e2⟩:=aZ9 c.tables[l[i].toNat] (by omega)
          have tl:(jE c.tables[l[i].toNat]).length≤4:=by unfold jE; simpa using t1
          have ea:appG 8 acc (jE c.tables[l[i].toNat])=some (acc++jE c.tables[l[i].toNat]):=by unfold appG; rw [if_pos (by omega)]
          have hg:c.tables[l[i].toNat]?.getD default=c.tables[l[i].toNat]:=by simp [hj]
          have hp:0≤l[i]∧l[i]<(c.tables.length:Int):=⟨h0,h1⟩
          rw [if_pos hp,hg]
          simp only [h0,n0,n1,n2,hx,e1,e2,ea,decide_true,decide_false,if_true,if_false,Bool.false_eq_true,Bool.not_true,Option.bind_some]
          exact ih _ (by rw [List.length_append]; omega)
        · have n1:(c.tables.length:Int)≤l[i]:=by omega
          have n2:¬ l[i]≤(c.tables.length:Int) - 1:=by omega
          have hn:¬ (0≤l[i]∧l[i]<(c.tables.length:Int)):=by omega
          rw [if_neg hn]
          simp [h0,n1,n2]
      · have n0:l[i]<0:=by omega
        have hn:¬ (0≤l[i]∧l[i]<(c.tables.length:Int)):=by omega
        rw [if_neg hn]
        simp [h0,n0]
  unfold G6 xC
  have:=key 0 (by omega) [] (by simp)
  simpa using this
theorem aL3 (c:aJ) (hc:kW c):∀ (l acc:List Int),(∀ x ∈ acc,okT x)→(∀ x ∈ (fM c acc l).1,okT x)∧(fM c acc l).1.length≤acc.length+4 * l.length
  | [],acc,h=>⟨h,by simp [fM]⟩
  | i::l,acc,h=>by
    rw [fM]
    split
    · rename_i hi
      have hj:i.toNat<c.tables.length:=by omega
      have hg:c.tables[i.toNat]?.getD default=c.tables[i.toNat]:=by simp [hj]
      rw [hg]
      obtain ⟨t1,t2⟩:=hc.2 _ (List.getElem_mem hj)
      have tl:(jE c.tables[i.toNat]).length≤4:=by unfold jE; simpa using t1
      obtain ⟨a1,a2⟩:=aL3 c hc l (acc++jE c.tables[i.toNat]) (fun x hx=>by
        rcases List.mem_append.1 hx with hx | hx
        · exact h x hx
        · exact t2 x hx)
      exact ⟨a1,by rw [List.length_append] at a2; simp only [List.length_cons]; omega⟩
    · exact ⟨by simp,by simp⟩
def S9 (p:aB):Bool:=(decide (1≤p.tables.length)&&decide (p.tables.length≤3))&&decide (p.on_.length=p.tables.length)&&decide ((p.on_[0]?.getD []).length=0)&&decide (p.where_.length≤1)&&decide (p.order.length≤12)&&(decide (1≤p.items.length)&&decide (p.items.length≤12))&&decide (p.names.length=p.items.length)&&decide (-1≤p.limit)
def onB (p:aB):Bool:=p.on_.all fun l=>decide (l.length≤1)
def nmB (s:List UInt8):Bool:=decide (1≤s.length)&&decide (s.length≤20)
theorem bMz (s:List UInt8):jY s=some (nmB s):=by
  unfold jY nmB
  by_cases h:1≤s.length <;> by_cases h2:s.length≤20 <;> simp [h,h2] <;> omega
theorem bYx (s:List UInt8):iX s=some (nmB s):=by
  unfold iX dX nmB
  by_cases h:1≤s.length <;> by_cases h2:s.length≤20 <;> simp [h,h2] <;> omega
theorem onI (l:List (List aA)) (hl:l.length≤1048576):R7 l=some (!l.all fun l=>decide (l.length≤1)):=by
  have key:∀ i,i≤l.length→∃ k:Int,rV l (i:Nat)=some k∧decide (0≤k)=!(l.drop i).all fun l=>decide (l.length≤1):=by
    refine fD ?_ ?_
    · rw [rV]
      exact ⟨-1,by simp,by simp⟩
    · intro i hi ih
      rw [rV,List.drop_eq_getElem_cons hi]
      simp only [eF,dV hi,eU hi (by omega),hi,decide_true,if_true,aB0,Option.bind_eq_bind,Option.bind_some,List.all_cons]
      by_cases h:l[i].length≤1
      · have h1:¬ (1:Int)<(l[i].length:Int):=by omega
        simpa [h,h1] using ih
      · have h1:(1:Int)<(l[i].length:Int):=by omega
        exact ⟨(i:Int),by simp [h1],by simp [h]⟩
  obtain ⟨k,h1,h2⟩:=key 0 (by omega)
  rw [show ((0:Nat):Int)=0 from rfl] at h1
  rw [R7,aFk,h1]
  simpa using h2
theorem nmI (l:List (List UInt8)) (hl:l.length≤1048576):aAn l=some (!l.all nmB):=by
  have key:∀ i,i≤l.length→∃ k:Int,rH l (i:Nat)=some k∧decide (0≤k)=!(l.drop i).all nmB:=by
    refine fD ?_ ?_
    · rw [rH]
      exact ⟨-1,by simp,by simp⟩
    · intro i hi ih
      rw [rH,List.drop_eq_getElem_cons hi]
      simp only [eF,dV hi,eU hi (by omega),hi,decide_true,if_true,X9,bMz,Option.bind_eq_bind,Option.bind_some,List.all_cons]
      cases h:nmB l[i] with
      | true=>simpa using ih
      | false=>exact ⟨(i:Int),by simp,by simp⟩
  obtain ⟨k,h1,h2⟩:=key 0 (by omega)
  rw [show ((0:Nat):Int)=0 from rfl] at h1
  rw [aAn,aBu,h1]
  simpa using h2
theorem cA5 (c:aJ) (hc:kW c) (p:aB) (hn:p.names.length≤1048576) (ht:p.tables.length≤1048576):pV c p 0=some (p.names.all nmB&&(fM c [] p.tables).2):=by
  have key:∀ i,i≤p.names.length→pV c p (i:Nat)=some ((p.names.drop i).all nmB&&(fM c [] p.tables).2):=by
    refine fD ?_ ?_
    · rw [pV]; simp [(aIp c hc p.tables ht).2]
    · intro i hi ih
      rw [pV,List.drop_eq_getElem_cons hi,List.all_cons]
      simp only [eF,dV hi,eU hi (by omega),hi,decide_true,if_true,bYx,ih,Option.bind_eq_bind,Option.bind_some]
      cases nmB p.names[i] <;> simp
  simpa using key 0 (by omega)
theorem bC1 (c:aJ) (hc:kW c) (p:aB) (ho:p.on_.length≤1048576) (hn:p.names.length≤1048576) (ht:p.tables.length≤1048576):qA c p 0=some (onB p&&(p.names.all nmB&&(fM c [] p.tables).2)):=by
  have key:∀ i,i≤p.on_.length→qA c p (i:Nat)=some (((p.on_.drop i).all fun l=>decide (l.length≤1))&&(p.names.all nmB&&(fM c [] p.tables).2)):=by
    refine fD ?_ ?_
    · rw [qA]; simp [cA5 c hc p hn ht]
    · intro i hi ih
      rw [qA,List.drop_eq_getElem_cons hi,List.all_cons]
      simp only [eF,dV hi,eU hi (by omega),hi,decide_true,if_true,ih,Option.bind_eq_bind,Option.bind_some]
      by_cases h:p.on_[i].length≤1
      · have h1:¬ (1:Int)<(p.on_[i].length:Int):=by omega
        simp [h,h1]
      · have h1:(1:Int)<(p.on_[i].length:Int):=by omega
        simp [h,h1]
  unfold onB
  simpa using key 0 (by omega)
theorem bHl (c : aJ) (hc : kW c) (p : aB) (ho : p.on_.length ≤ 1048576) (hn : p.names.length ≤ 1048576) (ht : p.tables.length ≤ 1048576) :
    X6 c p=some (S9 p&&(onB p&&(p.names.all nmB&&(fM c [] p.tables).2)))∧M7 p=some (S9 p&&(onB p&&p.names.all nmB)):=by
  unfold X6 M7 dX S9
  simp only [bC1 c hc p ho hn ht,onI p.on_ ho,nmI p.names hn,Option.bind_eq_bind,Option.bind_some]
  have hon:(!p.on_.all fun l=>decide (l.length≤1))=!onB p:=rfl
  rw [hon]
  generalize onB p=b1
  generalize p.names.all nmB=b2
  generalize (fM c [] p.tables).2=b3
  by_cases t1:1≤p.tables.length
  case neg =>
    have c1:¬ (1:Int)≤(p.tables.length:Int):=by omega
    have c2:(p.tables.length:Int)<1:=by omega
    simp only [t1,c1,c2,decide_true,decide_false,if_true,if_false,Bool.not_true,Bool.not_false,Bool.false_eq_true,Bool.false_and,Option.bind_some,beq_self_eq_true]
    simp
  by_cases t2:p.tables.length≤3
  case neg =>
    have c1:¬ (p.tables.length:Int)≤3:=by omega
    have c2:(3:Int)<(p.tables.length:Int):=by omega
    simp [t2,c1,c2]
  by_cases t3:p.on_.length=p.tables.length
  case neg =>
    have c1:¬ (p.on_.length:Int)=(p.tables.length:Int):=by omega
    simp [t3,c1]
  have a1:(1:Int)≤(p.tables.length:Int):=by omega
  have a2:(p.tables.length:Int)≤3:=by omega
  have a3:¬ (p.tables.length:Int)<1:=by omega
  have a4:¬ (3:Int)<(p.tables.length:Int):=by omega
  have a5:(p.on_.length:Int)=(p.tables.length:Int):=by omega
  have h0:0<p.on_.length:=by omega
  have hi:idx p.on_ 0=some p.on_[0]:=dV h0
  have hg:p.on_[0]?.getD []=p.on_[0]:=by simp [h0]
  rw [hg,hi]
  generalize p.on_[0]=l0
  have e0:decide ((0:Int)<(l0.length:Int))=!decide (l0.length=0):=by rw [Bool.eq_iff_iff]; simp only [Bool.not_eq_true',decide_eq_true_eq,decide_eq_false_iff_not]; omega
  have e1:decide ((1:Int)<(p.where_.length:Int))=!decide (p.where_.length≤1):=by rw [Bool.eq_iff_iff]; simp only [Bool.not_eq_true',decide_eq_true_eq,decide_eq_false_iff_not]; omega
  have e2:decide ((12:Int)<(p.order.length:Int))=!decide (p.order.length≤12):=by rw [Bool.eq_iff_iff]; simp only [Bool.not_eq_true',decide_eq_true_eq,decide_eq_false_iff_not]; omega
  have e3:decide ((1:Int)≤(p.items.length:Int))=decide (1≤p.items.length):=by rw [Bool.eq_iff_iff]; simp only [decide_eq_true_eq]; omega
  have e4:decide ((p.items.length:Int)≤12)=decide (p.items.length≤12):=by rw [Bool.eq_iff_iff]; simp only [decide_eq_true_eq]; omega
  have e5:decide ((p.names.length:Int)=(p.items.length:Int))=decide (p.names.length=p.items.length):=by rw [Bool.eq_iff_iff]; simp only [decide_eq_true_eq]; omega
  have e6:decide (p.limit < -1)=!decide (-1≤p.limit):=by rw [Bool.eq_iff_iff]; simp only [Bool.not_eq_true',decide_eq_true_eq,decide_eq_false_iff_not]; omega
  simp only [a1,a2,a3,a4,a5,t1,t2,t3,e0,e1,e2,e3,e4,e5,e6,decide_true,decide_false,if_true,if_false,Bool.not_true,Bool.not_false,Bool.false_eq_true,beq_self_eq_true,Bool.and_self,Bool.true_and,Option.bind_some]
  generalize decide (l0.length=0)=x0
  generalize decide (p.where_.length≤1)=x1
  generalize decide (p.order.length≤12)=x2
  generalize decide (1≤p.items.length)=x3
  generalize decide (p.items.length≤12)=x4
  generalize decide (p.names.length=p.items.length)=x5
  generalize decide (-1≤p.limit)=x6
  cases x0 <;> cases x1 <;> cases x2 <;> cases x3 <;> cases x4 <;> cases x5 <;> cases x6 <;> cases b1 <;> cases b2 <;> exact ⟨rfl,rfl⟩
def TyE (c:aJ) (env:List (List Int)) (e:aA):Prop:=∃ r:Int×Bool,qN c env e=some r∧qM c env e=some r∧okT r.1
def PlE (c:aJ) (env:List (List Int)) (p:aB):Prop:=∃ r:List Int×Bool,zW c env p=some r∧F7 c env p=some r∧∀ x ∈ r.1,okT x
def lF (env:List (List Int)):Prop:=∀ row ∈ env,row.length≤4194304∧∀ x ∈ row,okT x
theorem okT0:okT 0:=⟨by omega,by omega⟩
theorem okT3:okT 3:=⟨by omega,by omega⟩
theorem aN4 (c:aJ) (env:List (List Int)) (l:List aA) (hl:l.length≤1048576) (H:∀ e ∈ l,TyE c env e):∃ b,vX c env l=some b∧xR c env l=some b:=by
  have key:∀ i,i≤l.length→∃ (k:Int) (b:Bool),wS l c env (i:Nat)=some k∧xH env l c (i:Nat)=some b∧decide (0≤k)=!b:=by
    refine fD ?_ ?_
    · rw [wS,xH]
      exact ⟨-1,true,by simp,by simp,by simp⟩
    · intro i hi ih
      rw [wS,xH]
      obtain ⟨r,h1,h2,h3⟩:=H _ (List.getElem_mem hi)
      obtain ⟨t,e1⟩:=aC4 r.1
      simp only [eF,hi,decide_true,if_true,dV hi,eU hi (by omega),aF0,h1,h2,aJ2,e1,Option.bind_eq_bind,Option.bind_some]
      cases hr:r.2
      · exact ⟨(i:Int),false,by simp,by simp,by simp⟩
      · cases t
        · exact ⟨(i:Int),false,by simp,by simp,by simp⟩
        · simpa using ih
  obtain ⟨k,b,h1,h2,h3⟩:=key 0 (by omega)
  rw [show ((0:Nat):Int)=0 from rfl] at h1 h2
  rw [vX,aBy,aG6,h1,xR,h2]
  exact ⟨b,by simp [h3],rfl⟩
theorem aT4 (row:List Int) (env:List (List Int)) (h:env.length≤4194304):I1 row env=some (row::env)∧zI row env=some (row::env):=by
  have e:appG 24 ([row]:List (List Int)) env=some (row::env):=by unfold appG; rw [if_pos (by simp; omega)]; rfl
  unfold I1 zI
  rw [e]; exact ⟨rfl,rfl⟩
theorem bNf (c : aJ) (env : List (List Int)) (e : aA) (hk : e.kids.length ≤ 1048576) (H : ∀ k ∈ e.kids, TyE c env k) :
    (lD env e c [] 0=some (0,false)∧jP env c e [] 0=some (0,false))∨∃ acc:List Int,acc.length=e.kids.length∧(∀ x ∈ acc,okT x)∧lD env e c [] 0=oM env acc e c [] 0∧jP env c e [] 0=jP env c e acc (e.kids.length:Int):=by
  have key:∀ i,i≤e.kids.length→∀ acc:List Int,acc.length=i→(∀ x ∈ acc,okT x)→(lD env e c acc (i:Nat)=some (0,false)∧jP env c e acc (i:Nat)=some (0,false))∨∃ a:List Int,a.length=e.kids.length∧(∀ x ∈ a,okT x)∧lD env e c acc (i:Nat)=oM env a e c [] 0∧jP env c e acc (i:Nat)=jP env c e a (e.kids.length:Int):=by
    refine fD ?_ ?_
    · intro acc ha hx
      right
      refine ⟨acc,ha,hx,?_,rfl⟩
      rw [lD]
      simp
    · intro i hi ih acc ha hx
      obtain ⟨r,h1,h2,h3⟩:=H _ (List.getElem_mem hi)
      have ea:appG 8 acc [r.1]=some (acc++[r.1]):=by unfold appG; rw [if_pos (by simp; omega)]
      have f1:lD env e c acc (i:Nat)=if (!r.2)=true then some (0,false) else lD env e c (acc++[r.1]) ((i+1:Nat):Int):=by
        rw [lD]
        simp only [eF,hi,decide_true,if_true,dV hi,eU hi (by omega),h1,ea,Option.bind_eq_bind,Option.bind_some]
      have f2:jP env c e acc (i:Nat)=if (!r.2)=true then some (0,false) else jP env c e (acc++[r.1]) ((i+1:Nat):Int):=by
        rw [jP]
        simp only [eF,hi,decide_true,if_true,dV hi,eU hi (by omega),h2,ea,Option.bind_eq_bind,Option.bind_some]
      rw [f1,f2]
      cases hr:r.2
      · left; exact ⟨by simp,by simp⟩
      · have:=ih (acc++[r.1]) (by simp [ha]) (by intro x hx2; rcases List.mem_append.1 hx2 with h | h; exact hx x h; simp at h; rw [h]; exact h3)
        simpa using this
  simpa using key 0 (by omega) [] rfl (by simp)
theorem aF5 {α:Type} {l:List α} (h:0<l.length):idx l 0=some l[0]:=dV h
theorem aPq {α:Type} {l:List α} (h:1<l.length):idx l 1=some l[1]:=dV h
theorem bJx (l:List Int) (h:l.length≤4194304):T9 l=some l:=by
  unfold T9
  by_cases h0:l=[]
  · simp [h0]
  · have e:appG 8 ([]:List Int) l=some l:=by unfold appG; rw [if_pos (by simp; omega)]; simp
    have h1:¬ (l.length:Int)=0:=by
      have:=List.length_pos_iff.2 h0
      omega
    simp [h1,e]
theorem aHm (a b:List Int) (ha:a.length≤1000000) (hb:b.length≤1000) (oa:∀ x ∈ a,okT x) (ob:∀ x ∈ b,okT x):∃ m:Bool,rQ (a++b)=some m∧vO a b false=some (if m=true then 3 else 0,m):=by
  obtain ⟨r,h1,h2⟩:=bOt (a++b) (by simp; omega) (by intro x hx; rcases List.mem_append.1 hx with h | h; exact oa x h; exact ob x h)
  refine ⟨r.2,h2,?_⟩
  have e:appG 8 a b=some (a++b):=by unfold appG; rw [if_pos (by omega)]
  unfold vO
  rw [bJx a (by omega)]
  simp only [e,h1,Bool.false_eq_true,if_false,Option.bind_eq_bind,Option.bind_some]
  cases r.2 <;> simp
theorem bT9 (c:aJ) (env:List (List Int)) (hv:lF env) (hl:env.length≤4194304) (e:aA) (hk:e.kids.length≤1048576) (hs:e.sub.length≤1048576) (H:∀ k ∈ e.kids,TyE c env k) (HP:∀ p ∈ e.sub,PlE c env p):TyE c env e:=by
  unfold TyE
  obtain ⟨b,s1,i1,hf⟩:=bNw e hk hs
  rw [qN,qM,s1,i1]
  simp only [Option.bind_eq_bind,Option.bind_some]
  cases b with
  | false=>exact ⟨(0,false),by simp,by simp,okT0⟩
  | true =>
  simp only [Bool.not_true,Bool.false_eq_true,if_false]
  have hF:=hf rfl
  by_cases k2:e.kind=2
  · have hk0 : e.kids.length = 0 := by
      rcases hF with h | h | h | h | h | h | h | h | h <;> first | exact h.2.1 | (exact absurd h.1 (by omega))
    rw [if_pos (by simpa using k2),jP]
    have n1:¬ e.kind=1:=by omega
    have hw:IntKind.wrap .i64 ((env.length:Int) - 1)=(env.length:Int) - 1:=gH (by omega) (by omega)
    unfold dX
    simp only [hk0,k2,n1,hw,decide_true,decide_false,if_true,if_false,Bool.false_eq_true,Option.bind_eq_bind,Option.bind_some,Int.reduceEq]
    by_cases u0:0≤e.up
    case neg => exact ⟨(0, false), by have : e.up < 0 := by omega
                                      simp [this],by simp [u0],okT0⟩
    by_cases u1:e.up<(env.length:Int)
    case neg => exact ⟨(0, false), by have : (env.length : Int) ≤ e.up := by omega
                                      simp [this], by have : ¬ e.up ≤ (env.length : Int) - 1 := by omega
                                                      simp [u0,this],okT0⟩
    have hj:e.up.toNat<env.length:=by omega
    have hx:idx env e.up=some env[e.up.toNat]:=by
      have:=dV hj
      rwa [show ((e.up.toNat:Nat):Int)=e.up by omega] at this
    obtain ⟨r1,r2⟩:=hv _ (List.getElem_mem hj)
    have a1:¬ e.up<0:=by omega
    have a2:¬ (env.length:Int)≤e.up:=by omega
    have a3:e.up≤(env.length:Int) - 1:=by omega
    have hw2:IntKind.wrap .i64 ((env[e.up.toNat].length:Int) - 1)=(env[e.up.toNat].length:Int) - 1:=gH (by omega) (by omega)
    simp only [u0,a1,a2,a3,hx,hw2,decide_true,decide_false,if_true,if_false,Bool.not_true,Bool.false_eq_true,beq_self_eq_true,Bool.and_self,Option.bind_some,Bool.true_and]
    by_cases t0:0≤e.at_
    case neg => exact ⟨(0, false), by have : e.at_ < 0 := by omega
                                      simp [this],by simp [t0],okT0⟩
    by_cases t1:e.at_<(env[e.up.toNat].length:Int)
    case neg => exact ⟨(0, false), by have h1 : (env[e.up.toNat].length : Int) ≤ e.at_ := by omega
                                      have h2:¬ e.at_<0:=by omega
                                      simp [h1, h2], by have : ¬ e.at_ ≤ (env[e.up.toNat].length : Int) - 1 := by omega
                                                        simp [t0,this],okT0⟩
    have hj2:e.at_.toNat<env[e.up.toNat].length:=by omega
    have hx2:idx env[e.up.toNat] e.at_=some env[e.up.toNat][e.at_.toNat]:=by
      have:=dV hj2
      rwa [show ((e.at_.toNat:Nat):Int)=e.at_ by omega] at this
    have b1:¬ e.at_<0:=by omega
    have b2:¬ (env[e.up.toNat].length:Int)≤e.at_:=by omega
    have b3:e.at_≤(env[e.up.toNat].length:Int) - 1:=by omega
    exact ⟨(env[e.up.toNat][e.at_.toNat],true),by simp [b1,b2,hx2],by simp [t0,b3,hx2],r2 _ (List.getElem_mem hj2)⟩
  rw [if_neg (by simpa using k2)]
  rcases bNf c env e hk H with ⟨h1,h2⟩ | ⟨acc,ha,hx,h1,h2⟩
  · exact ⟨(0,false),h1,h2,okT0⟩
  rw [h1,h2,jP,oM]
  have nk:decide ((e.kids.length:Int)<(e.kids.length:Int))=false:=by simp
  simp only [nk,k2,decide_false,Bool.false_eq_true,if_false]
  rcases hF with ⟨k,f1,f2,f3⟩ | ⟨k,f1⟩ | ⟨k,f1,f2⟩ | ⟨k,f1,f2⟩ | ⟨k,f1,f2⟩ | ⟨k,f1,f2⟩ | ⟨k,⟨f1,f3⟩,f2⟩ | ⟨k,f1,f2⟩ | ⟨k,f1,f2⟩
  · refine ⟨(e.value.kind,true),?_,?_,f3⟩
    · unfold lY; simp [f2,k]
    · simp [k]
  · exact absurd k k2
  · obtain ⟨r,r1,r2,r3⟩:=bMj e.op (acc[0]'(by omega))
    refine ⟨r,?_,?_,r3⟩
    · unfold lY; simp [f2,k,aF5 (show 0<acc.length by omega),r1]
    · simp [k,aF5 (show 0<acc.length by omega),r2]
  · obtain ⟨r,r1,r2,r3⟩:=bF9 e.op (acc[0]'(by omega)) (acc[1]'(by omega)) (hx _ (List.getElem_mem _)) (hx _ (List.getElem_mem _))
    refine ⟨r,?_,?_,r3⟩
    · unfold lY; simp [f2,k,aF5 (show 0<acc.length by omega),aPq (show 1<acc.length by omega),r1]
    · simp [k,aF5 (show 0<acc.length by omega),aPq (show 1<acc.length by omega),r2]
  · refine ⟨(3,true),?_,?_,okT3⟩
    · unfold lY vO; simp [f2,k]
    · unfold nR; simp [f2,k]
  · obtain ⟨m,m1,m2⟩:=aHm acc [] (by omega) (by simp) hx (by simp)
    refine ⟨(if m=true then 3 else 0,m),?_,?_,by cases m; exact okT0; exact okT3⟩
    · unfold lY; simp [f2,k,m2]
    · rw [List.append_nil] at m1
      unfold nR kH; cases m <;> simp [f2,k,m1]
  · obtain ⟨m,m1,m2⟩:=aHm acc [] (by omega) (by simp) hx (by simp)
    refine ⟨(if m=true then 3 else 0,m),?_,?_,by cases m; exact okT0; exact okT3⟩
    · unfold lY; simp [f2,k,m2]
    · rw [List.append_nil] at m1
      unfold nR kH; cases m <;> simp [f2,k,m1]
  · obtain ⟨p, hp⟩ : ∃ p, e.sub = [p] := by
      match hh:e.sub,f2 with
      | [p],_=>exact ⟨p,rfl⟩
    obtain ⟨r,r1,r2,r3⟩:=HP p (by rw [hp]; simp)
    have ip:idx e.sub 0=some p:=by rw [hp]; rfl
    rw [ip]
    simp only [f2,k,r1,r2,Option.bind_eq_bind,Option.bind_some]
    obtain ⟨out,ok⟩:=r
    cases ok with
    | false=>exact ⟨(0,false),by simp,by simp,okT0⟩
    | true =>
    by_cases ho:out.length=1
    case neg =>
      have h3:¬ (out.length:Int)=1:=by omega
      exact ⟨(0,false),by simp [h3],by simp [h3],okT0⟩
    obtain ⟨t,ht⟩:∃ t,out=[t]:=by
      match out,ho with
      | [t],_=>exact ⟨t,rfl⟩
    subst ht
    have iw:IntKind.wrap .i64 (0+1)=1:=rfl
    have i0:idx [t] 0=some t:=rfl
    have ea:appG 8 acc [t]=some (acc++[t]):=by unfold appG; rw [if_pos (by simp; omega)]
    obtain ⟨m,m1,m2⟩:=aHm acc [t] (by omega) (by simp) hx (by intro x hx2; exact r3 x hx2)
    have h8:¬ e.kind=1:=by omega
    refine ⟨(if m=true then 3 else 0,m),?_,?_,by cases m; exact okT0; exact okT3⟩
    · rw [iw,oM]
      unfold lY
      simp [f2,k,m2]
    · unfold nR kH; cases m <;> simp [k,i0,ea,m1]
  · obtain ⟨p, hp⟩ : ∃ p, e.sub = [p] := by
      match hh:e.sub,f2 with
      | [p],_=>exact ⟨p,rfl⟩
    obtain ⟨r,r1,r2,r3⟩:=HP p (by rw [hp]; simp)
    have ip:idx e.sub 0=some p:=by rw [hp]; rfl
    rw [ip]
    simp only [f2,k,r1,r2,Option.bind_eq_bind,Option.bind_some]
    obtain ⟨out,ok⟩:=r
    cases ok with
    | false=>exact ⟨(0,false),by simp,by simp,okT0⟩
    | true =>
    have iw:IntKind.wrap .i64 (0+1)=1:=rfl
    have ha0:acc=[]:=List.eq_nil_of_length_eq_zero (by omega)
    subst ha0
    have hm:rQ []=some true:=by unfold rQ; rw [oZ]; simp
    refine ⟨(3,true),?_,?_,okT3⟩
    · simp only [iw]
      rw [oM]
      unfold lY vO
      simp [f2,k]
    · unfold nR kH; simp [k,hm]
theorem aVh {α:Type} {l:List α} {n:Nat} (h:n≤l.length):kU l 0 (n:Int)=some (l.take n):=by
  unfold kU
  rw [if_pos (by omega)]
  simp
theorem bOa (c:aJ) (env:List (List Int)) (p:aB) (hn:p.items.length≤1048576) (H:∀ e ∈ p.items,TyE c env e):∃ r:List Int×Bool,qB env p c [] 0=some r∧pG env c p [] 0=some r∧∀ x ∈ r.1,okT x:=by
  have key:∀ i,i≤p.items.length→∀ acc:List Int,acc.length=i→(∀ x ∈ acc,okT x)→∃ r:List Int×Bool,qB env p c acc (i:Nat)=some r∧pG env c p acc (i:Nat)=some r∧∀ x ∈ r.1,okT x:=by
    refine fD ?_ ?_
    · intro acc _ hx
      rw [qB,pG]
      exact ⟨(acc,true),by simp,by simp,hx⟩
    · intro i hi ih acc ha hx
      obtain ⟨r,h1,h2,h3⟩:=H _ (List.getElem_mem hi)
      have ea:appG 8 acc [r.1]=some (acc++[r.1]):=by unfold appG; rw [if_pos (by simp; omega)]
      rw [qB,pG]
      simp only [eF,hi,decide_true,if_true,dV hi,eU hi (by omega),h1,h2,ea,Option.bind_eq_bind,Option.bind_some]
      cases hr:r.2
      · exact ⟨([],false),by simp,by simp,by simp⟩
      · have:=ih (acc++[r.1]) (by simp [ha]) (by intro x hx2; rcases List.mem_append.1 hx2 with h | h; exact hx x h; simp at h; rw [h]; exact h3)
        simpa using this
  simpa using key 0 (by omega) [] rfl (by simp)
theorem bEk (c:aJ) (env:List (List Int)) (p:aB) (hn:p.items.length≤1048576) (ho:p.order.length≤1048576) (H:∀ e ∈ p.items,TyE c env e) (HO:∀ k ∈ p.order,TyE c env k.expr):∃ r:List Int×Bool,sH env p c 0=some r∧uI env c p 0=some r∧∀ x ∈ r.1,okT x:=by
  have key:∀ i,i≤p.order.length→∃ r:List Int×Bool,sH env p c (i:Nat)=some r∧uI env c p (i:Nat)=some r∧∀ x ∈ r.1,okT x:=by
    refine fD ?_ ?_
    · rw [sH,uI]
      simpa using bOa c env p hn H
    · intro i hi ih
      obtain ⟨r,h1,h2,h3⟩:=HO _ (List.getElem_mem hi)
      rw [sH,uI]
      simp only [eF,hi,decide_true,if_true,dV hi,eU hi (by omega),h1,h2,Option.bind_eq_bind,Option.bind_some]
      cases hr:r.2
      · exact ⟨([],false),by simp,by simp,by simp⟩
      · simpa using ih
  simpa using key 0 (by omega)
theorem aWh {row:List Int} {env:List (List Int)} (hr:row.length≤4194304) (hx:∀ x ∈ row,okT x) (hv:lF env):lF (row::env):=by
  intro r h
  rcases List.mem_cons.1 h with rfl | h
  · exact ⟨hr,hx⟩
  · exact hv r h
theorem bGn (c : aJ) (hc : kW c) (env : List (List Int)) (hv : lF env) (hl : env.length < 4194304) (p : aB) (ho : p.on_.length ≤ 1048576) (hn : p.names.length ≤ 1048576) (ht : p.tables.length ≤ 1048576)
    (H:∀ env',lF env'→env'.length=env.length+1→(∀ l ∈ p.on_,∀ e ∈ l,TyE c env' e)∧(∀ e ∈ p.where_,TyE c env' e)∧(∀ k ∈ p.order,TyE c env' k.expr)∧(∀ e ∈ p.items,TyE c env' e)):PlE c env p:=by
  unfold PlE
  obtain ⟨f1,f2⟩:=bHl c hc p ho hn ht
  obtain ⟨r1,r2⟩:=aIp c hc p.tables ht
  rw [zW,F7,f1,f2,r1]
  simp only [Option.bind_eq_bind,Option.bind_some]
  cases hr:(fM c [] p.tables).2 with
  | false=>exact ⟨([],false),by simp,by simp,by simp⟩
  | true =>
  cases hP:S9 p with
  | false=>exact ⟨([],false),by simp,by simp,by simp⟩
  | true =>
  cases hO:onB p with
  | false=>exact ⟨([],false),by simp,by simp,by simp⟩
  | true =>
  cases hN:p.names.all nmB with
  | false=>exact ⟨([],false),by simp,by simp,by simp⟩
  | true =>
  simp only [Bool.not_true,Bool.true_and,Bool.and_self,beq_self_eq_true,if_true,Bool.false_eq_true,if_false,Option.bind_some]
  have hB:p.tables.length≤3∧p.on_.length=p.tables.length∧p.where_.length≤1∧p.order.length≤12∧p.items.length≤12:=by
    unfold S9 at hP
    simp only [Bool.and_eq_true,decide_eq_true_eq] at hP
    omega
  obtain ⟨b1,b2,b3,b4,b5⟩:=hB
  have hO1:∀ l ∈ p.on_,l.length≤1:=by
    unfold onB at hO
    simpa using hO
  obtain ⟨q1,q2⟩:=aL3 c hc p.tables [] (by simp)
  simp only [List.length_nil] at q2
  obtain ⟨w1,w2⟩:=aT4 (fM c [] p.tables).1 env (by omega)
  obtain ⟨-,m2,m3,m4⟩:=H ((fM c [] p.tables).1::env) (aWh (by omega) q1 hv) (by simp)
  have key:∀ i,i≤p.on_.length→∃ r:List Int×Bool,xO env (fM c [] p.tables) p c (i:Nat)=some r∧xG env c p (i:Nat)=some r∧∀ x ∈ r.1,okT x:=by
    refine fD ?_ ?_
    · obtain ⟨t,t1,t2⟩:=aN4 c ((fM c [] p.tables).1::env) p.where_ (by omega) m2
      rw [xO,xG]
      simp only [eF,Nat.lt_irrefl,decide_false,Bool.false_eq_true,if_false,r2,w1,w2,t1,t2,Option.bind_eq_bind,Option.bind_some]
      cases t
      · exact ⟨([],false),by simp,by simp,by simp⟩
      · simpa using bEk c _ p (by omega) (by omega) m4 m3
    · intro i hi ih
      obtain ⟨a1,a2⟩:=aL3 c hc (p.tables.take (i+1)) [] (by simp)
      simp only [List.length_nil] at a2
      obtain ⟨a3,a4⟩:=aIp c hc (p.tables.take (i+1)) (by rw [List.length_take]; omega)
      have a5:(p.tables.take (i+1)).length≤3:=by rw [List.length_take]; omega
      obtain ⟨a6,a7⟩:=aT4 (fM c [] (p.tables.take (i+1))).1 env (by omega)
      obtain ⟨a8,-⟩:=H ((fM c [] (p.tables.take (i+1))).1::env) (aWh (by omega) a1 hv) (by simp)
      obtain ⟨t,t1,t2⟩:=aN4 c _ p.on_[i] (by have:=hO1 _ (List.getElem_mem hi); omega) (a8 _ (List.getElem_mem hi))
      have hs:kU p.tables 0 ((i+1:Nat):Int)=some (p.tables.take (i+1)):=aVh (by omega)
      rw [xO,xG]
      simp only [eF,hi,decide_true,if_true,dV hi,eU hi (by omega),hs,a3,a4,a6,a7,t1,t2,Option.bind_eq_bind,Option.bind_some]
      cases t
      · exact ⟨([],false),by simp,by simp,by simp⟩
      · simpa using ih
  simpa using key 0 (by omega)
theorem aMs (c:aJ) (hc:kW c):∀ n:Nat,(∀ (e:aA) (env:List (List Int)),aX e<n→n≤1048577→lF env→env.length+n≤4000000→TyE c env e)∧(∀ (p:aB) (env:List (List Int)),cZ p<n→n≤1048577→lF env→env.length+n≤4000000→PlE c env p)
  | 0=>⟨fun _ _ h=>absurd h (by omega),fun _ _ h=>absurd h (by omega)⟩
  | n+1=>by
    obtain ⟨i1,i2⟩:=aMs c hc n
    refine ⟨fun e env he hn hv hl=>?_,fun p env hp hn hv hl=>?_⟩
    · have:=aUn e
      exact bT9 c env hv (by omega) e (by omega) (by omega) (fun k hk=>i1 k env (by have:=aKr hk; have:=List.length_pos_of_mem hk; omega) (by omega) hv (by omega)) fun p hp=>i2 p env (by have:=aKv hp; have:=List.length_pos_of_mem hp; omega) (by omega) hv (by omega)
    · have:=aZv p
      refine bGn c hc env hv (by omega) p (by omega) (by omega) (by omega) fun env' hv' hl'=>⟨fun l hm e he=>i1 e env' ?_ (by omega) hv' (by omega),fun e he=>i1 e env' ?_ (by omega) hv' (by omega),fun k hk=>i1 k.expr env' ?_ (by omega) hv' (by omega),fun e he=>i1 e env' ?_ (by omega) hv' (by omega)⟩
      · have:=onZ hm he; have:=List.length_pos_of_mem he; omega
      · have:=aU7 he; have:=List.length_pos_of_mem he; omega
      · have:=aW9 hk; have:=List.length_pos_of_mem hk; omega
      · have:=aWa he; have:=List.length_pos_of_mem he; omega
theorem aWb (c:aJ) (hc:kW c) (e:aA) (env:List (List Int)) (hz:aX e≤1048576) (hv:lF env) (hl:env.length≤1000):TyE c env e:=(aMs c hc (aX e+1)).1 e env (by omega) (by omega) hv (by omega)
theorem bPg (c:aJ) (hc:kW c) (p:aB) (env:List (List Int)) (hz:cZ p≤1048576) (hv:lF env) (hl:env.length≤1000):PlE c env p:=(aMs c hc (cZ p+1)).2 p env (by omega) (by omega) hv (by omega)
theorem aS8 {c:aJ} (h:Q8 c):kW c:=by
  refine ⟨h.2,fun t ht=>?_⟩
  obtain ⟨i,hi,rfl⟩:=List.getElem_of_mem ht
  obtain ⟨t,h1,⟨h2,h3⟩,-⟩:=h.1 i hi
  rw [List.getElem?_eq_getElem hi] at h1
  simp only [Option.some.injEq] at h1; subst h1
  refine ⟨h3.2.2,fun x hx=>?_⟩
  unfold jE at hx
  obtain ⟨k,hk,rfl⟩:=List.mem_map.1 hx
  obtain ⟨j,hj,rfl⟩:=List.getElem_of_mem hk
  obtain ⟨k,k1,-,k2,-⟩:=h2 j hj
  rw [List.getElem?_eq_getElem hj] at k1
  simp only [Option.some.injEq] at k1; subst k1
  exact ⟨by omega,k2.2⟩
theorem summed {α γ : Type} {p : List α} {f : α → Option Int} {s : α → Int} {L : Int → Int → Option γ} {K : Int → Option γ} (hp : p.length ≤ 1048576)
    (hf:∀ y ∈ p,f y=some (s y)∧0≤s y)
    (hL:∀ (i:Nat) (x:Int),L x (i:Int)=if (decide ((i:Int)<(p.length:Int)))=true then ((idx p (i:Int))>>=fun y=>(f y)>>=fun z=>L (IntKind.wrap .i64 (x+z)) (IntKind.wrap .i64 ((i:Int)+1))) else K x) :
    ∀ x:Int,0≤x→x+(p.map s).sum≤9223372036854775807→L x 0=K (x+(p.map s).sum):=by
  have nn:∀ l:List α,(∀ y ∈ l,0≤s y)→0≤(l.map s).sum:=by
    intro l
    induction l with
    | nil=>intro _; simp
    | cons y l ih=>intro h; have h1:=h y (by simp); have h2:=ih fun z hz=>h z (by simp [hz]); simp only [List.map_cons,List.sum_cons]; omega
  have key:∀ i,i≤p.length→∀ x:Int,0≤x→x+((p.drop i).map s).sum≤9223372036854775807→L x (i:Nat)=K (x+((p.drop i).map s).sum):=by
    refine fD ?_ ?_
    · intro x _ _
      rw [hL]; simp
    · intro i hi ih x h0 hx
      obtain ⟨f1,f2⟩:=hf _ (List.getElem_mem hi)
      have hn:=nn (p.drop (i+1)) fun y hy=>(hf y (List.mem_of_mem_drop hy)).2
      rw [List.drop_eq_getElem_cons hi] at hx ⊢
      simp only [List.map_cons,List.sum_cons] at hx ⊢
      rw [hL,dV hi,eU hi (by omega)]
      simp only [eF,hi,decide_true,if_true,f1,Option.bind_eq_bind,Option.bind_some]
      rw [gH (by omega) (by omega),ih _ (by omega) (by omega),Int.add_assoc]
  intro x h0 hx
  simpa using key 0 (by omega) x h0 (by simpa using hx)
theorem O6 {α:Type} {s:α→Int}:∀ l:List α,(∀ y ∈ l,0≤s y)→0≤(l.map s).sum
  | [],_=>by simp
  | y::l,h=>by have h1:=h y (by simp); have h2:=O6 l fun z hz=>h z (by simp [hz]); simp only [List.map_cons,List.sum_cons]; omega
theorem oG {α:Type} {s:α→Int} {z:α→Nat}:∀ l:List α,(∀ y ∈ l,s y≤(z y:Int)+1)→(l.map s).sum≤(zL z l:Int)
  | [],_=>by simp [zL]
  | y::l,h=>by
    have h1:=h y (by simp); have h2:=oG l fun w hw=>h w (by simp [hw])
    unfold zL at *
    simp only [List.map_cons,List.sum_cons,List.length_cons] at *; omega
def mx {α:Type} (d:α→Int) (l:List α) (x:Int):Int:=l.foldl (fun b y=>if d y > b then d y else b) x
theorem aQ8 {α:Type} {d:α→Int} {n:Int}:∀ (l:List α) (x:Int),mx d l x≤n↔x≤n∧∀ y ∈ l,d y≤n
  | [],x=>by simp [mx]
  | y::l,x=>by
    have:=aQ8 (d:=d) (n:=n) l (if d y > x then d y else x)
    unfold mx at *
    rw [List.foldl_cons,this]
    simp only [List.mem_cons,forall_eq_or_imp]
    split
    · constructor
      · rintro ⟨a,b⟩; exact ⟨by omega,a,b⟩
      · rintro ⟨a,b,c⟩; exact ⟨b,c⟩
    · constructor
      · rintro ⟨a,b⟩; exact ⟨a,by omega,b⟩
      · rintro ⟨a,b,c⟩; exact ⟨a,c⟩
theorem aJ0 (a b:Int):nM a b=some (if b > a then b else a):=by
  unfold nM
  by_cases h:b<a
  · have:¬ a<b:=by omega
    simp [h,this]
  · by_cases h2:a<b
    · simp [h,h2]
    · have:a=b:=by omega
      subst this; simp
def jD (p:aB):List aA:=p.on_.flatMap (fun l=>l)++p.where_++p.order.flatMap (fun k=>[k.expr])++p.items
theorem aJx {α β:Type} {f:α→List β} {z:α→Nat}:∀ l:List α,(∀ y ∈ l,(f y).length≤z y+1)→(l.flatMap f).length≤zL z l
  | [],_=>by simp [zL]
  | y::l,h=>by
    have h1:=h y (by simp); have h2:=aJx l fun w hw=>h w (by simp [hw])
    unfold zL at *
    simp only [List.flatMap_cons,List.length_append,List.map_cons,List.sum_cons,List.length_cons] at *; omega
theorem aK8 (l:List aY):(l.flatMap fun k=>[k.expr])=l.map fun k=>k.expr:=by
  induction l with
  | nil=>rfl
  | cons x l ih=>rw [List.flatMap_cons,ih]; rfl
theorem aZe (p:aB):(jD p).length≤cZ p:=by
  have h1:=wV p
  have h2:=aJx (f:=fun l:List aA=>l) (z:=zL aX) p.on_ fun y _=>by have:=gY (z:=aX) y; omega
  have h3:=gY (z:=aX) p.where_
  have h4:=gY (z:=aX) p.items
  unfold jD
  simp only [List.length_append,aK8,List.length_map]
  omega
theorem aPf {p:aB} {e:aA} (h:e ∈ jD p):aX e<cZ p:=by
  unfold jD at h
  simp only [List.mem_append,List.mem_flatMap,List.mem_singleton] at h
  rcases h with ((⟨l,h1,h2⟩ | h) | ⟨k,h1,rfl⟩) | h
  · have:=onZ h1 h2; have:=List.length_pos_of_mem h2; omega
  · have:=aU7 h; have:=List.length_pos_of_mem h; omega
  · have:=aW9 h1; have:=List.length_pos_of_mem h1; omega
  · have:=aWa h; have:=List.length_pos_of_mem h; omega
theorem aNq {s:aA→Int}:∀ l:List (List aA),(∀ r ∈ l,∀ y ∈ r,s y≤(aX y:Int)+1)→((l.flatMap (fun r=>r)).map s).sum≤(zL (zL aX) l:Int)
  | [],_=>by simp [zL]
  | r::l,h=>by
    have h1:=oG (s:=s) (z:=aX) r (h r (by simp)); have h2:=aNq (s:=s) l fun w hw=>h w (by simp [hw])
    rw [List.flatMap_cons,List.map_append,List.sum_append]
    have:(zL (zL aX) (r::l):Int)=1+zL aX r+zL (zL aX) l:=by unfold zL; simp only [List.length_cons,List.map_cons,List.sum_cons]; omega
    omega
theorem bLp {s:aA→Int} (p:aB) (h:∀ y ∈ jD p,s y≤(aX y:Int)+1):((jD p).map s).sum≤(cZ p:Int):=by
  have h1:=wV p
  unfold jD at *
  have a1:=aNq (s:=s) p.on_ fun r hr y hy=>h y (by simp only [List.mem_append,List.mem_flatMap]; exact .inl (.inl (.inl ⟨r,hr,hy⟩)))
  have a2:=oG (s:=s) (z:=aX) p.where_ fun y hy=>h y (by simp only [List.mem_append]; exact .inl (.inl (.inr hy)))
  have a3:=oG (s:=fun k:aY=>s k.expr) (z:=fun k=>aX k.expr) p.order fun y hy=>h y.expr (by rw [aK8]; simp only [List.mem_append,List.mem_map]; exact .inl (.inr ⟨y,hy,rfl⟩))
  have a4:=oG (s:=s) (z:=aX) p.items fun y hy=>h y (by simp only [List.mem_append]; exact .inr hy)
  rw [aK8]
  simp only [List.map_append,List.sum_append,List.map_map]
  have:(p.order.map (s ∘ fun k=>k.expr))=p.order.map fun k:aY=>s k.expr:=rfl
  rw [this]
  unfold zL at a3
  omega
theorem kE {l m:List aA} (h:l.length+m.length≤4194304):appG 120 l m=some (l++m):=bKs (by omega)
theorem parts_eq (p:aB) (hz:cZ p≤1048576):yJ p=some (jD p)∧I8 p=some (jD p):=by
  have hl:=aZv p
  have hp:=aZe p
  unfold jD at hp
  simp only [List.length_append] at hp
  have o1:∀ acc:List aA,acc.length+(p.order.flatMap fun k=>[k.expr]).length+p.items.length≤4194304→oO p acc 0=some (acc++(p.order.flatMap fun k=>[k.expr])++p.items):=by
    intro acc ha
    rw [gather (p:=p.order) (f:=fun k=>[k.expr]) (c:=4194304) (G:=fun y acc=>appG 120 acc ([y.expr]:List aA)) (L:=fun acc i=>oO p acc i) (K:=fun x=>(appG 120 x p.items)>>=fun (y7:List aA)=>some y7) (by omega) (fun y _ acc h=>kE h) (fun i acc=>by rw [oO]) acc (by omega)]
    rw [kE (by rw [List.length_append]; omega)]; rfl
  have o2:∀ acc:List aA,acc.length+(p.order.flatMap fun k=>[k.expr]).length+p.items.length≤4194304→qO p acc 0=some (acc++(p.order.flatMap fun k=>[k.expr])++p.items):=by
    intro acc ha
    rw [gather (p:=p.order) (f:=fun k=>[k.expr]) (c:=4194304) (G:=fun y acc=>appG 120 acc ([y.expr]:List aA)) (L:=fun acc i=>qO p acc i) (K:=fun x=>(appG 120 x p.items)>>=fun (y7:List aA)=>some y7) (by omega) (fun y _ acc h=>kE h) (fun i acc=>by rw [qO]) acc (by omega)]
    rw [kE (by rw [List.length_append]; omega)]; rfl
  constructor
  · rw [yJ,gather (p:=p.on_) (f:=fun l=>l) (c:=4194304) (G:=fun y acc=>appG 120 acc y) (L:=fun acc i=>wX p acc i) (K:=fun x=>(appG 120 x p.where_)>>=fun (y3:List aA)=>oO p y3 0) (by omega) (fun y _ acc h=>kE h) (fun i acc=>by rw [wX]) [] (by simp only [List.length_nil]; omega)]
    rw [kE (by simp only [List.nil_append]; omega)]
    simp only [Option.bind_eq_bind,Option.bind_some,List.nil_append]
    rw [o1 _ (by simp only [List.length_append]; omega)]; rfl
  · rw [I8,gather (p:=p.on_) (f:=fun l=>l) (c:=4194304) (G:=fun y acc=>appG 120 acc y) (L:=fun acc i=>wC p acc i) (K:=fun x=>(appG 120 x p.where_)>>=fun (y3:List aA)=>qO p y3 0) (by omega) (fun y _ acc h=>kE h) (fun i acc=>by rw [wC]) [] (by simp only [List.length_nil]; omega)]
    rw [kE (by simp only [List.nil_append]; omega)]
    simp only [Option.bind_eq_bind,Option.bind_some,List.nil_append]
    rw [o2 _ (by simp only [List.length_append]; omega)]; rfl
def dE (e:aA):Int:=(rA e).getD 0
def sE (e:aA):Int:=(pI e).getD 0
def dP (p:aB):Int:=(nQ p).getD 0
def sP (p:aB):Int:=(oD p).getD 0
def DsE (e:aA):Prop:=rA e=some (dE e)∧nJ e=some (dE e)∧pI e=some (sE e)∧nZ e=some (sE e)∧0≤sE e∧sE e≤(aX e:Int)+1
def DsP (p:aB):Prop:=nQ p=some (dP p)∧xL p=some (dP p)∧oD p=some (sP p)∧xA p=some (sP p)∧0≤sP p∧sP p≤(cZ p:Int)
theorem aNk (l:List aA) (hl:l.length≤1048576) (H:∀ e ∈ l,DsE e) (x:Int):vW l x 0=some (mx dE l x)∧tZ l x 0=some (mx dE l x):=by
  constructor
  · exact folded (p:=l) (g:=fun y b=>(rA y)>>=fun z=>some (if z > b then z else b)) (h:=fun y b=>if dE y > b then dE y else b) (L:=fun b i=>vW l b i) (K:=fun b=>some b) hl (fun y hy b=>by rw [(H y hy).1]; rfl) (fun i b=>by rw [vW]; simp only [Option.bind_eq_bind,Option.bind_assoc,Option.bind_some]) x
  · exact folded (p:=l) (g:=fun y b=>(nJ y)>>=fun z=>nM b z) (h:=fun y b=>if dE y > b then dE y else b) (L:=fun b i=>tZ l b i) (K:=fun b=>some b) hl (fun y hy b=>by rw [(H y hy).2.1]; exact aJ0 _ _) (fun i b=>by rw [tZ]; simp only [Option.bind_eq_bind,Option.bind_assoc]) x
theorem aNv (l:List aA) (hl:l.length≤1048576) (hz:(l.map sE).sum≤4194304) (H:∀ e ∈ l,DsE e):uH l=some ((l.map sE).sum)∧vL l 0 0=some ((l.map sE).sum):=by
  constructor
  · rw [uH,summed (p:=l) (f:=pI) (s:=sE) (L:=fun x i=>zB l x i) (K:=fun x=>some x) hl (fun y hy=>⟨(H y hy).2.2.1,(H y hy).2.2.2.2.1⟩) (fun i x=>by rw [zB]) 0 (by omega) (by omega)]
    simp
  · rw [summed (p:=l) (f:=nZ) (s:=sE) (L:=fun x i=>vL l x i) (K:=fun x=>some x) hl (fun y hy=>⟨(H y hy).2.2.2.1,(H y hy).2.2.2.2.1⟩) (fun i x=>by rw [vL]) 0 (by omega) (by omega)]
    simp
theorem cCu (p:aB) (hz:cZ p≤1048576) (H:∀ e ∈ jD p,DsE e):DsP p:=by
  obtain ⟨p1,p2⟩:=parts_eq p hz
  have hl:=aZe p
  have hs:=bLp (s:=sE) p fun y hy=>(H y hy).2.2.2.2.2
  have hn:=O6 (s:=sE) (jD p) fun y hy=>(H y hy).2.2.2.2.1
  obtain ⟨a1,a2⟩:=aNk _ (by omega) H 0
  obtain ⟨b1,b2⟩:=aNv _ (by omega) (by omega) H
  have e1:nQ p=some (mx dE (jD p) 0):=by rw [nQ,p1]; simp only [Option.bind_eq_bind,Option.bind_some,qF,a1]
  have e2:oD p=some (((jD p).map sE).sum):=by rw [oD,p1]; simp only [Option.bind_eq_bind,Option.bind_some,b1]
  have d1:dP p=mx dE (jD p) 0:=by unfold dP; rw [e1]; rfl
  have d2:sP p=((jD p).map sE).sum:=by unfold sP; rw [e2]; rfl
  unfold DsP
  rw [d1,d2]
  exact ⟨e1,by rw [xL,p2]; exact a2,e2,by rw [xA,p2]; exact b2,hn,hs⟩
theorem bI5 (e:aA) (hz:aX e≤1048576) (HK:∀ k ∈ e.kids,DsE k) (HS:∀ p ∈ e.sub,DsP p):DsE e:=by
  have hl:=aUn e
  have hzz:=aDo e
  have s1:=oG (s:=sE) (z:=aX) e.kids fun y hy=>(HK y hy).2.2.2.2.2
  have s2:=oG (s:=sP) (z:=cZ) e.sub fun y hy=>by have:=(HS y hy).2.2.2.2.2; omega
  have n1:=O6 (s:=sE) e.kids fun y hy=>(HK y hy).2.2.2.2.1
  have n2:=O6 (s:=sP) e.sub fun y hy=>(HS y hy).2.2.2.2.1
  obtain ⟨a1,-⟩:=aNk e.kids (by omega) HK 0
  obtain ⟨b1,-⟩:=aNv e.kids (by omega) (by omega) HK
  have e1:rA e=some (IntKind.wrap .i64 (1+mx dP e.sub (mx dE e.kids 0))):=by
    rw [rA,qF,a1]
    exact folded (p:=e.sub) (g:=fun y b=>(nQ y)>>=fun z=>some (if z > b then z else b)) (h:=fun y b=>if dP y > b then dP y else b) (L:=fun b i=>yD e b i) (K:=fun b=>some (IntKind.wrap .i64 (1+b))) (by omega) (fun y hy b=>by rw [(HS y hy).1]; rfl) (fun i b=>by rw [yD]; simp only [Option.bind_eq_bind,Option.bind_assoc,Option.bind_some]) _
  have e2:nJ e=some (IntKind.wrap .i64 (1+mx dP e.sub (mx dE e.kids 0))):=by
    rw [nJ,folded (p:=e.kids) (g:=fun y b=>(nJ y)>>=fun z=>nM b z) (h:=fun y b=>if dE y > b then dE y else b) (L:=fun b i=>I5 e b i) (K:=fun b=>vR e b 0) (by omega) (fun y hy b=>by rw [(HK y hy).2.1]; exact aJ0 _ _) (fun i b=>by rw [I5]; simp only [Option.bind_eq_bind,Option.bind_assoc]) 0]
    rw [Int.add_comm 1]
    exact folded (p:=e.sub) (g:=fun y b=>(xL y)>>=fun z=>nM b z) (h:=fun y b=>if dP y > b then dP y else b) (L:=fun b i=>vR e b i) (K:=fun b=>some (IntKind.wrap .i64 (b+1))) (by omega) (fun y hy b=>by rw [(HS y hy).2.1]; exact aJ0 _ _) (fun i b=>by rw [vR]; simp only [Option.bind_eq_bind,Option.bind_assoc]) _
  have e3:pI e=some (1+(e.kids.map sE).sum+(e.sub.map sP).sum):=by
    rw [pI,b1]
    simp only [Option.bind_eq_bind,Option.bind_some]
    rw [gH (by omega) (by omega)]
    exact summed (p:=e.sub) (f:=oD) (s:=sP) (L:=fun x i=>yM e x i) (K:=fun x=>some x) (by omega) (fun y hy=>⟨(HS y hy).2.2.1,(HS y hy).2.2.2.2.1⟩) (fun i x=>by rw [yM]) _ (by omega) (by omega)
  have e4:nZ e=some (1+(e.kids.map sE).sum+(e.sub.map sP).sum):=by
    rw [nZ,summed (p:=e.kids) (f:=nZ) (s:=sE) (L:=fun x i=>I6 e x i) (K:=fun x=>xN e x 0) (by omega) (fun y hy=>⟨(HK y hy).2.2.2.1,(HK y hy).2.2.2.2.1⟩) (fun i x=>by rw [I6]) 1 (by omega) (by omega)]
    exact summed (p:=e.sub) (f:=xA) (s:=sP) (L:=fun x i=>xN e x i) (K:=fun x=>some x) (by omega) (fun y hy=>⟨(HS y hy).2.2.2.1,(HS y hy).2.2.2.2.1⟩) (fun i x=>by rw [xN]) _ (by omega) (by omega)
  have d1:dE e=IntKind.wrap .i64 (1+mx dP e.sub (mx dE e.kids 0)):=by unfold dE; rw [e1]; rfl
  have d2:sE e=1+(e.kids.map sE).sum+(e.sub.map sP).sum:=by
    have:sE e=(pI e).getD 0:=rfl
    rw [this,e3]; rfl
  unfold DsE
  rw [← d1] at e1 e2
  rw [← d2] at e3 e4
  exact ⟨e1,e2,e3,e4,by omega,by omega⟩
theorem aL5:∀ n:Nat,(∀ e:aA,aX e<n→aX e≤1048576→DsE e)∧(∀ p:aB,cZ p<n→cZ p≤1048576→DsP p)
  | 0=>⟨fun _ h=>absurd h (by omega),fun _ h=>absurd h (by omega)⟩
  | n+1=>by
    obtain ⟨i1,i2⟩:=aL5 n
    exact ⟨fun e he hz=>bI5 e hz (fun k hk=>i1 k (by have:=aKr hk; have:=List.length_pos_of_mem hk; omega) (by have:=aKr hk; omega)) fun p hp=>i2 p (by have:=aKv hp; have:=List.length_pos_of_mem hp; omega) (by have:=aKv hp; omega),
      fun p hp hz=>cCu p hz fun e he=>i1 e (by have:=aPf he; omega) (by have:=aPf he; omega)⟩
theorem bDi (e:aA) (hz:aX e≤1048576):DsE e:=(aL5 _).1 e (Nat.lt_succ_self _) hz
theorem bTq (p:aB) (hz:cZ p≤1048576):DsP p:=(aL5 _).2 p (Nat.lt_succ_self _) hz
theorem fits_eq (c:aJ) (hc:kW c) (env:List (List Int)) (hv:lF env) (hl:env.length≤1000) (e:aA) (hz:aX e≤1048576) (ty:Int) (ht:okT ty):∃ b,F5 c env e ty=some b∧J2 c env e ty=some b:=by
  obtain ⟨r,h1,h2,h3⟩:=aWb c hc e env hz hv hl
  obtain ⟨m,m1,m2⟩:=aJ6 h3 ht
  unfold F5 J2
  simp only [h1,h2,aM7,m1,Option.bind_eq_bind,Option.bind_some]
  cases r.2
  · exact ⟨false,by simp,by simp⟩
  · exact ⟨m.2,by simp,by simp⟩
def J8 (p:bM):Bool:=decide (p.cols.length=0)&&decide (p.sets.length=0)&&decide (p.where_.length=0)
theorem bMm (c : aJ) (hc : kW c) (ts : List Int) (hts : ∀ x ∈ ts, okT x) (hl : ts.length ≤ 4) (p : bM) (hr : p.rows.length ≤ 1048576) (h1 : p.cols.length ≤ 1048576) (h2 : p.sets.length ≤ 1048576) (h3 : p.where_.length ≤ 1048576) (hz : ∀ r ∈ p.rows, ∀ e ∈ r, aX e ≤ 1048576) :
    ∃ b,sN ts p.rows c 0=some b∧rO ts c p 0=some (b&&J8 p):=by
  have key:∀ i,i≤p.rows.length→∃ b,sN ts p.rows c (i:Nat)=some b∧rO ts c p (i:Nat)=some (b&&J8 p):=by
    refine fD ?_ ?_
    · rw [sN,rO]
      unfold dX J8
      simp only [eF,Nat.lt_irrefl,decide_false,Bool.false_eq_true,if_false,Option.bind_eq_bind,Option.bind_some]
      rw [gH (n:=(p.cols.length:Int)+(p.sets.length:Int)) (by omega) (by omega),gH (by omega) (by omega)]
      refine ⟨_,rfl,?_⟩
      have e:decide ((p.cols.length:Int)+(p.sets.length:Int)+(p.where_.length:Int)=0)=(decide (p.cols.length=0)&&decide (p.sets.length=0)&&decide (p.where_.length=0)):=by
        rw [Bool.eq_iff_iff]; simp only [Bool.and_eq_true,decide_eq_true_eq]; omega
      rw [e]
      generalize (decide (p.cols.length=0)&&decide (p.sets.length=0)&&decide (p.where_.length=0))=x
      by_cases q1:(1:Int)≤(p.rows.length:Int)
      · by_cases q2:(p.rows.length:Int)≤5 <;> cases x <;> simp [q1,q2]
      · cases x <;> simp [q1]
    · intro i hi ih
      rw [sN,rO]
      have hm:=List.getElem_mem hi
      simp only [eF,hi,decide_true,if_true,dV hi,Option.bind_eq_bind,Option.bind_some]
      by_cases hq:p.rows[i].length=ts.length
      case neg =>
        have:¬ (p.rows[i].length:Int)=(ts.length:Int):=by omega
        exact ⟨false,by simp [this],by simp [this]⟩
      have hq':(p.rows[i].length:Int)=(ts.length:Int):=by omega
      simp only [hq',decide_true,Bool.not_true,Bool.false_eq_true,if_false]
      have inner:∀ k,k≤ts.length→∃ b,vN ts p.rows (i:Int) p.rows[i] c (k:Nat)=some b∧rP ts (i:Int) c p (k:Nat)=some (b&&J8 p):=by
        refine fD ?_ ?_
        · rw [vN,rP]
          simp only [hq',eF,Nat.lt_irrefl,decide_false,Bool.false_eq_true,if_false,eU hi (by omega)]
          exact ih
        · intro k hk ik
          have hk2:k<p.rows[i].length:=by omega
          obtain ⟨b,b1,b2⟩:=fits_eq c hc [] (by intro r hr; simp at hr) (by simp) (p.rows[i][k]) (hz _ hm _ (List.getElem_mem hk2)) ts[k] (hts _ (List.getElem_mem hk))
          rw [vN,rP]
          simp only [hq',eF,hk,decide_true,if_true,dV hi,dV hk,dV hk2,b1,b2,eU hk (by omega),Option.bind_eq_bind,Option.bind_some]
          cases b
          · exact ⟨false,by simp,by simp⟩
          · simpa using ik
      simpa using inner 0 (by omega)
  simpa using key 0 (by omega)
theorem bWa (l:List Int) (x:Int) (hl:l.length≤1048576):aAa l x=some (l.contains x):=by
  have key:∀ i,i≤l.length→∃ k,uT l x (i:Nat)=some k∧decide (0≤k)=(l.drop i).contains x:=by
    refine fD ?_ ?_
    · rw [uT]
      exact ⟨-1,by simp,by simp⟩
    · intro i hi ih
      rw [uT,List.drop_eq_getElem_cons hi,List.contains_cons]
      simp only [eF,hi,decide_true,if_true,dV hi,eU hi (by omega),Option.bind_eq_bind,Option.bind_some]
      by_cases h:x=l[i]
      · exact ⟨(i:Int),by simp [h],by simp [h]⟩
      · have hb:(x==l[i])=false:=by simpa using h
        rw [hb,Bool.false_or]
        simpa only [h,decide_false,Bool.false_eq_true,if_false] using ih
  obtain ⟨k,h1,h2⟩:=key 0 (by omega)
  rw [show ((0:Nat):Int)=0 from rfl] at h1
  rw [aAa,aCs,h1]
  simpa using h2
theorem bPt (l:List Int) (x:Int) (hl:l.length≤1048576):O3 l x=some (l.contains x):=by
  have key:∀ i,i≤l.length→vD l x (i:Nat)=some ((l.drop i).contains x):=by
    refine fD ?_ ?_
    · rw [vD]; simp
    · intro i hi ih
      rw [vD,List.drop_eq_getElem_cons hi,List.contains_cons]
      simp only [eF,hi,decide_true,if_true,dV hi,eU hi (by omega),Option.bind_eq_bind,Option.bind_some]
      by_cases h:l[i]=x
      · simp [h]
      · have hb:(x==l[i])=false:=by simp; exact fun e=>h e.symm
        rw [hb,Bool.false_or]
        simpa only [h,decide_false,Bool.false_eq_true,if_false] using ih
  simpa [O3] using key 0 (by omega)
theorem bQ2 (c : aJ) (hc : kW c) (ts : List Int) (hts : ∀ x ∈ ts, okT x) (hl : ts.length ≤ 4) (p : bM) (h1 : p.cols.length ≤ 1048576) (h2 : p.sets.length = p.cols.length) (hz : ∀ e ∈ p.sets, aX e ≤ 1048576) :
    ∃ b,oJ ts p c 0=some b∧qQ [ts] ts c p 0=some b∧(b=true→p.cols.length≤4):=by
  have hv:lF [ts]:=by
    intro r hr
    simp only [List.mem_singleton] at hr
    subst hr
    exact ⟨by omega,hts⟩
  have key:∀ i,i≤p.cols.length→∃ b,oJ ts p c (i:Nat)=some b∧qQ [ts] ts c p (i:Nat)=some b∧(b=true→∀ k (hk:k<p.cols.length),i≤k→(0≤p.cols[k]∧p.cols[k]<(ts.length:Int))∧(p.cols.take k).contains p.cols[k]=false):=by
    refine fD ?_ ?_
    · rw [oJ,qQ]
      exact ⟨true,by simp,by simp,fun _ k hk h=>absurd hk (by omega)⟩
    · intro i hi ih
      have hi2:i<p.sets.length:=by omega
      rw [oJ,qQ]
      unfold dX
      have hw:IntKind.wrap .i64 ((ts.length:Int) - 1)=(ts.length:Int) - 1:=gH (by omega) (by omega)
      have ht1:(p.cols.take i).length≤1048576:=by rw [List.length_take]; omega
      have ht2:=bWa (p.cols.take i) p.cols[i] ht1
      have ht3:=bPt (p.cols.take i) p.cols[i] ht1
      have ht4:=aVh (l:=p.cols) (n:=i) (by omega)
      simp only [eF,hi,decide_true,if_true,dV hi,dV hi2,eU hi (by omega),hw,ht4,Option.bind_eq_bind,Option.bind_some]
      by_cases u0:0≤p.cols[i]
      case neg => exact ⟨false, by have : p.cols[i] < 0 := by omega
                                   simp [this],by simp [u0],by simp⟩
      by_cases u1:p.cols[i]<(ts.length:Int)
      case neg => exact ⟨false, by have a : (ts.length : Int) ≤ p.cols[i] := by omega
                                   have b:¬ p.cols[i]<0:=by omega
                                   simp [a, b], by have : ¬ p.cols[i] ≤ (ts.length : Int) - 1 := by omega
                                                   simp [u0,this],by simp⟩
      have a1:¬ p.cols[i]<0:=by omega
      have a2:¬ (ts.length:Int)≤p.cols[i]:=by omega
      have a3:p.cols[i]≤(ts.length:Int) - 1:=by omega
      have hj:p.cols[i].toNat<ts.length:=by omega
      have hx:idx ts p.cols[i]=some ts[p.cols[i].toNat]:=by
        have:=dV hj
        rwa [show ((p.cols[i].toNat:Nat):Int)=p.cols[i] by omega] at this
      obtain ⟨b,b1,b2⟩:=fits_eq c hc [ts] hv (by simp) p.sets[i] (hz _ (List.getElem_mem hi2)) ts[p.cols[i].toNat] (hts _ (List.getElem_mem hj))
      simp only [a1,a2,a3,u0,hx,ht2,ht3,b1,b2,decide_true,decide_false,if_true,if_false,Bool.false_eq_true,Bool.not_true,beq_self_eq_true,Bool.and_self,Option.bind_some]
      cases ht:(p.cols.take i).contains p.cols[i] with
      | true=>exact ⟨false,rfl,rfl,fun h=>by simp at h⟩
      | false =>
      simp only [beq_self_eq_true,Bool.and_self,if_true,Bool.false_eq_true,if_false,hx,b1,b2,Option.bind_some]
      cases b with
      | false=>exact ⟨false,rfl,rfl,fun h=>by simp at h⟩
      | true =>
      obtain ⟨b,c1,c2,c3⟩:=ih
      refine ⟨b,c1,c2,fun hb k hk hik=>?_⟩
      by_cases hki:k=i
      · subst hki; exact ⟨⟨u0,u1⟩,ht⟩
      · exact c3 hb k hk (by omega)
  obtain ⟨b,h1',h2',h3'⟩:=key 0 (by omega)
  refine ⟨b,h1',h2',fun hb=>?_⟩
  have hg:=h3' hb
  have hnd:p.cols.Nodup:=by
    rw [List.nodup_iff_pairwise_ne,List.pairwise_iff_getElem]
    intro i j hi hj hij h
    have:=(hg j hj (by omega)).2
    rw [List.contains_eq_mem,decide_eq_false_iff_not] at this
    refine this ?_
    rw [List.mem_take_iff_getElem]
    exact ⟨i,by omega,h⟩
  have hsub:p.cols ⊆ (List.range ts.length).map fun n:Nat=>(n:Int):=by
    intro x hx
    obtain ⟨k,hk,rfl⟩:=List.getElem_of_mem hx
    obtain ⟨⟨g1,g2⟩,-⟩:=hg k hk (by omega)
    rw [List.mem_map]
    exact ⟨p.cols[k].toNat,by rw [List.mem_range]; omega,by omega⟩
  have:=hnd.length_le_of_subset hsub
  simp only [List.length_map,List.length_range] at this
  omega
def aB8 (p:aB):Bool:=decide (p.tables=[])&&decide (p.on_.length=0)&&decide (p.where_.length=0)&&decide (p.order.length=0)&&decide (p.items.length=0)&&decide (p.names=[])&&(p.distinct==false)&&decide (p.limit=0)
theorem bVx (p:aB):aAm p=some (aB8 p)∧zH p (aB.mk ([]:List Int) ([]:List (List aA)) ([]:List aA) ([]:List aY) ([]:List aA) ([]:List (List UInt8)) false 0)=some (aB8 p):=by
  have i1:∀ l:List Int,U7 l []=some (decide (l=[])):=by
    intro l; unfold U7; rw [yO]; cases l <;> simp <;> omega
  have i2:∀ l:List (List aA),aAx l []=some (decide (l.length=0)):=by
    intro l; rw [aAx,Z4]; cases l <;> simp <;> omega
  have i3:∀ l:List aA,tF l []=some (decide (l.length=0)):=by
    intro l; rw [tF,aGh,aB2]; cases l <;> simp <;> omega
  have i4:∀ l:List aY,aA5 l []=some (decide (l.length=0)):=by
    intro l; rw [aA5,Y5]; cases l <;> simp <;> omega
  have i5:∀ l:List (List UInt8),Y4 l []=some (decide (l=[])):=by
    intro l; unfold Y4; rw [J9]; cases l <;> simp <;> omega
  have s1:∀ l:List Int,aAe l []=some (decide (l=[])):=by
    intro l; unfold aAe; rw [H9]; cases l <;> simp <;> omega
  have s3:∀ l:List aA,vH l []=some (decide (l.length=0)):=by
    intro l; rw [vH,aA0]; cases l <;> simp <;> omega
  have s5:∀ l:List (List UInt8),U3 l []=some (decide (l=[])):=by
    intro l; unfold U3; rw [zG]; cases l <;> simp <;> omega
  constructor
  · unfold aAm
    rw [O8]
    unfold aB8
    simp only [i1,i2,i3,i4,i5,Option.bind_eq_bind,Option.bind_some]
    generalize decide (p.tables=[])=b1
    generalize decide (p.on_.length=0)=b2
    generalize decide (p.where_.length=0)=b3
    generalize decide (p.order.length=0)=b4
    generalize decide (p.items.length=0)=b5
    generalize decide (p.names=[])=b6
    cases b1 <;> cases b2 <;> cases b3 <;> cases b4 <;> cases b5 <;> cases b6 <;> simp
  · rw [zH,aAp,zK]
    unfold aB8
    simp only [s1,s3,s5,Option.bind_eq_bind,Option.bind_some]
    have hon:decide ((p.on_.length:Int)=(([]:List (List aA)).length:Int))=decide (p.on_.length=0):=by simp <;> omega
    have hor:decide ((p.order.length:Int)=(([]:List aY).length:Int))=decide (p.order.length=0):=by simp <;> omega
    rw [hon,hor]
    by_cases c2:p.on_.length=0
    case neg => 
      generalize decide (p.tables=[])=b1
      generalize decide (p.where_.length=0)=b3
      generalize decide (p.order.length=0)=b4
      generalize decide (p.items.length=0)=b5
      generalize decide (p.names=[])=b6
      generalize p.distinct=b7
      by_cases hlm:p.limit=0 <;> simp [c2,hlm] <;> cases b7 <;> cases b1 <;> simp
    by_cases c4:p.order.length=0
    case neg =>
      generalize decide (p.tables=[])=b1
      generalize decide (p.where_.length=0)=b3
      generalize decide (p.items.length=0)=b5
      generalize decide (p.names=[])=b6
      generalize p.distinct=b7
      by_cases hlm:p.limit=0 <;> simp [c2,c4,hlm] <;> cases b7 <;> cases b1 <;> cases b3 <;> simp
    simp only [c2,c4]
    generalize decide (p.tables=[])=b1
    generalize decide (p.where_.length=0)=b3
    generalize decide (p.items.length=0)=b5
    generalize decide (p.names=[])=b6
    generalize p.distinct=b7
    by_cases hlm:p.limit=0 <;> simp [hlm] <;> cases b7 <;> cases b1 <;> cases b3 <;> cases b5 <;> cases b6 <;> simp
theorem bGe (c:aJ) (hs:J7 c) (p:aB) (hz:cZ p≤1048576):∃ b,U0 c p=some b∧aAy c p=some b:=by
  obtain ⟨a,a1,a2⟩:=aXa c hs
  obtain ⟨b,b1,b2⟩:=aW6 c hs
  have hab:a=b:=by rw [Bool.eq_iff_iff,a2,b2]
  subst hab
  obtain ⟨d1,d2,d3,d4,-⟩:=bTq p hz
  unfold U0 aAy zR
  simp only [a1,b1,d1,d2,d3,d4,Option.bind_eq_bind,Option.bind_some]
  cases a with
  | false=>exact ⟨false,by simp,by simp⟩
  | true =>
  obtain ⟨r,r1,r2,r3⟩:=bPg c (aS8 (a2.1 rfl)) p [] hz (by intro r hr; simp at hr) (by simp)
  have q1:decide (24<dP p)=!decide (dP p≤24):=by rw [Bool.eq_iff_iff]; simp only [Bool.not_eq_true',decide_eq_true_eq,decide_eq_false_iff_not]; omega
  have q2:decide (200<sP p)=!decide (sP p≤200):=by rw [Bool.eq_iff_iff]; simp only [Bool.not_eq_true',decide_eq_true_eq,decide_eq_false_iff_not]; omega
  rw [r1,r2]
  simp only [q1,Bool.not_true,beq_self_eq_true,Bool.and_self,if_true,if_false,Bool.false_eq_true,Option.bind_some]
  generalize decide (dP p≤24)=x
  cases x with
  | false=>exact ⟨false,by simp,by simp⟩
  | true =>
  simp only [Bool.not_true,beq_self_eq_true,Bool.and_self,if_true,if_false,Bool.false_eq_true,Option.bind_some,q2]
  generalize decide (sP p≤200)=y
  cases y with
  | false=>exact ⟨false,by simp,by simp⟩
  | true=>exact ⟨r.2,by simp,by simp⟩
def kL (p:bM):List aA:=p.rows.flatMap (fun l=>l)++p.sets++p.where_
theorem aAo (p:bM):iY p=cZ p.plan+zL (zL aX) p.rows+zL z0 p.cols+zL aX p.sets+zL aX p.where_:=by
  obtain ⟨a0,a1,a2,a3,a4,a5,a6⟩:=p
  simp only [iY]
theorem aRq (p:bM):(kL p).length≤iY p:=by
  have h1:=aAo p
  have h2:=aJx (f:=fun l:List aA=>l) (z:=zL aX) p.rows fun y _=>by have:=gY (z:=aX) y; omega
  have h3:=gY (z:=aX) p.where_
  have h4:=gY (z:=aX) p.sets
  unfold kL
  simp only [List.length_append]
  omega
theorem bU7 {p:bM} {e:aA} (h:e ∈ kL p):aX e≤iY p:=by
  have hz:=aAo p
  unfold kL at h
  simp only [List.mem_append,List.mem_flatMap] at h
  rcases h with (⟨l,h1,h2⟩ | h) | h
  · have:=jR (z:=zL aX) h1; have:=jR (z:=aX) h2; omega
  · have:=jR (z:=aX) h; omega
  · have:=jR (z:=aX) h; omega
theorem bFa {s:aA→Int} (p:bM) (h:∀ y ∈ kL p,s y≤(aX y:Int)+1):((kL p).map s).sum≤(iY p:Int):=by
  have h1:=aAo p
  unfold kL at *
  have a1:=aNq (s:=s) p.rows fun r hr y hy=>h y (by simp only [List.mem_append,List.mem_flatMap]; exact .inl (.inl ⟨r,hr,hy⟩))
  have a2:=oG (s:=s) (z:=aX) p.sets fun y hy=>h y (by simp only [List.mem_append]; exact .inl (.inr hy))
  have a3:=oG (s:=s) (z:=aX) p.where_ fun y hy=>h y (by simp only [List.mem_append]; exact .inr hy)
  simp only [List.map_append,List.sum_append]
  omega
theorem aTc (p:bM) (hz:iY p≤1048576):yH p=some (kL p)∧aA1 p=some (kL p):=by
  have hp:=aRq p
  unfold kL at hp
  simp only [List.length_append] at hp
  have hr:=aAo p
  have hr2:=gY (z:=zL aX) p.rows
  constructor
  · rw [yH,gather (p:=p.rows) (f:=fun l=>l) (c:=4194304) (G:=fun y acc=>appG 120 acc y) (L:=fun acc i=>wN p acc i) (K:=fun x=>(appG 120 x p.sets)>>=fun (y3:List aA)=>(appG 120 y3 p.where_)>>=fun (y4:List aA)=>some y4) (by omega) (fun y _ acc h=>kE h) (fun i acc=>by rw [wN]) [] (by simp only [List.length_nil]; omega)]
    rw [kE (by simp only [List.nil_append]; omega)]
    simp only [Option.bind_eq_bind,Option.bind_some,List.nil_append]
    rw [kE (by simp only [List.length_append]; omega)]; rfl
  · rw [aA1,gather (p:=p.rows) (f:=fun l=>l) (c:=4194304) (G:=fun y acc=>appG 120 acc y) (L:=fun acc i=>xU p acc i) (K:=fun x=>(appG 120 x p.sets)>>=fun (y3:List aA)=>(appG 120 y3 p.where_)>>=fun (y4:List aA)=>some y4) (by omega) (fun y _ acc h=>kE h) (fun i acc=>by rw [xU]) [] (by simp only [List.length_nil]; omega)]
    rw [kE (by simp only [List.nil_append]; omega)]
    simp only [Option.bind_eq_bind,Option.bind_some,List.nil_append]
    rw [kE (by simp only [List.length_append]; omega)]; rfl
theorem bEs (p:bM) (hz:iY p≤1048576):∃ (d s:Int) (b:Bool),qF (kL p)=some d∧uH (kL p)=some s∧zR d s=some b∧P9 p=some b:=by
  have hl:=aRq p
  have H:∀ e ∈ kL p,DsE e:=fun e he=>bDi e (by have:=bU7 he; omega)
  have hs:=bFa (s:=sE) p fun y hy=>(H y hy).2.2.2.2.2
  obtain ⟨a1,-⟩:=aNk _ (by omega) H 0
  obtain ⟨b1,-⟩:=aNv _ (by omega) (by omega) H
  refine ⟨_,_,_,(by rw [qF,a1]),b1,rfl,?_⟩
  rw [P9,(aTc p hz).2]
  simp only [Option.bind_eq_bind,Option.bind_some]
  generalize kL p=l at *
  have nn:∀ i,0≤((l.drop i).map sE).sum:=fun i=>O6 _ fun y hy=>(H y (List.mem_of_mem_drop hy)).2.2.2.2.1
  have key:∀ i,i≤l.length→∀ x:Int,0≤x→x+((l.drop i).map sE).sum≤4194304→pE l x (i:Nat)=some (decide (mx dE (l.drop i) 0≤24)&&decide (x+((l.drop i).map sE).sum≤200)):=by
    refine fD ?_ ?_
    · intro x _ _
      rw [pE]; simp [mx]
    · intro i hi ih x h0 hx
      have hn:=nn (i+1)
      obtain ⟨e1,e2,e3,e4,e5,e6⟩:=H _ (List.getElem_mem hi)
      rw [List.drop_eq_getElem_cons hi] at hx ⊢
      simp only [List.map_cons,List.sum_cons] at hx ⊢
      rw [pE]
      simp only [eF,hi,decide_true,if_true,dV hi,eU hi (by omega),e2,e4,Option.bind_eq_bind,Option.bind_some]
      rw [gH (n:=x+sE l[i]) (by omega) (by omega),ih _ (by omega) (by omega)]
      have hm:decide (mx dE (l[i]::l.drop (i+1)) 0≤24)=(decide (dE l[i]≤24)&&decide (mx dE (l.drop (i+1)) 0≤24)):=by
        rw [Bool.eq_iff_iff]
        simp only [Bool.and_eq_true,decide_eq_true_eq,aQ8,List.mem_cons,forall_eq_or_imp]
        constructor
        · rintro ⟨a,b,c⟩; exact ⟨b,a,c⟩
        · rintro ⟨a,b,c⟩; exact ⟨b,a,c⟩
      rw [hm,Int.add_assoc]
      by_cases hd:dE l[i]≤24
      · have:¬ 24<dE l[i]:=by omega
        simp [hd,this]
      · have:24<dE l[i]:=by omega
        simp [hd,this]
  have:=key 0 (by omega) 0 (by omega) (by simp only [List.drop_zero]; omega)
  simp only [List.drop_zero,Int.zero_add] at this
  rw [show pE l 0 0=_ from this]
  by_cases q:mx dE l 0≤24 <;> simp [q]
theorem bOl (c:aJ) (hs:J7 c) (p:bM) (hz:iY p≤1048576):∃ b,V7 c p=some b∧aB3 c p=some b:=by
  have hsz:=aAo p
  have l1:=gY (z:=zL aX) p.rows
  have l2:=gY (z:=z0) p.cols
  have l3:=gY (z:=aX) p.sets
  have l4:=gY (z:=aX) p.where_
  unfold V7 aB3
  by_cases k1:p.kind=1
  · obtain ⟨w,w1,w2⟩:=bGe c hs p.plan (by omega)
    have k1d:decide (p.kind=1)=true:=by simpa using k1
    rw [k1d,w1,w2,if_pos rfl,if_pos rfl]
    rw [gH (n:=(p.rows.length:Int)+(p.cols.length:Int)) (by omega) (by omega),gH (n:=(p.rows.length:Int)+(p.cols.length:Int)+(p.sets.length:Int)) (by omega) (by omega),gH (by omega) (by omega)]
    have e:decide ((p.rows.length:Int)+(p.cols.length:Int)+(p.sets.length:Int)+(p.where_.length:Int)=0)=(decide ((p.rows.length:Int)=0)&&decide ((p.cols.length:Int)=0)&&decide ((p.sets.length:Int)=0)&&decide ((p.where_.length:Int)=0)):=by
      rw [Bool.eq_iff_iff]; simp only [Bool.and_eq_true,decide_eq_true_eq]; omega
    rw [e]
    simp only [Option.bind_eq_bind,Option.bind_some]
    generalize decide (p.table=0)=x0
    generalize decide ((p.rows.length:Int)=0)=x1
    generalize decide ((p.cols.length:Int)=0)=x2
    generalize decide ((p.sets.length:Int)=0)=x3
    generalize decide ((p.where_.length:Int)=0)=x4
    refine ⟨w&&(x0&&(x1&&x2&&x3&&x4)),?_,?_⟩
    · cases w <;> cases x0 <;> cases x1 <;> cases x2 <;> cases x3 <;> cases x4 <;> rfl
    · cases w <;> cases x0 <;> cases x1 <;> cases x2 <;> cases x3 <;> cases x4 <;> rfl
  have k1d:decide (p.kind=1)=false:=by simpa using k1
  rw [k1d,if_neg Bool.false_ne_true,if_neg Bool.false_ne_true]
  obtain ⟨a,a1,a2⟩:=aXa c hs
  obtain ⟨b,b1,b2⟩:=aW6 c hs
  have hab:a=b:=by rw [Bool.eq_iff_iff,a2,b2]
  subst hab
  simp only [a1,b1,Option.bind_eq_bind,Option.bind_some]
  cases a with
  | false=>exact ⟨false,by simp,by simp⟩
  | true =>
  have hc:=aS8 (a2.1 rfl)
  obtain ⟨kb,hkb,hkk⟩:∃ kb,dX p.kind 2 4=some kb∧(kb=true↔2≤p.kind∧p.kind≤4):=by
    unfold dX
    refine ⟨_,rfl,?_⟩
    by_cases h:2≤p.kind <;> simp [h]
  have hw:IntKind.wrap .i64 ((c.tables.length:Int) - 1)=(c.tables.length:Int) - 1:=by have:=hs.1; exact gH (by omega) (by omega)
  have hT:∃ tb,dX p.table 0 ((c.tables.length:Int) - 1)=some tb∧(if (decide (p.table<0))=true then true else (decide ((c.tables.length:Int)≤p.table)))=!tb∧(tb=true↔0≤p.table∧p.table<(c.tables.length:Int)):=by
    unfold dX
    refine ⟨_,rfl,?_,?_⟩
    · by_cases h:0≤p.table
      · have:¬ p.table<0:=by omega
        by_cases h2:p.table<(c.tables.length:Int)
        · have e1:p.table≤(c.tables.length:Int) - 1:=by omega
          have e2:¬ (c.tables.length:Int)≤p.table:=by omega
          simp [h,this,e1,e2]
        · have e1:¬ p.table≤(c.tables.length:Int) - 1:=by omega
          have e2:(c.tables.length:Int)≤p.table:=by omega
          simp [h,this,e1,e2]
      · have:p.table<0:=by omega
        simp [h,this]
    · by_cases h:0≤p.table
      · simp [h]; omega
      · simp [h]
  obtain ⟨tb,t1,t2,t3⟩:=hT
  obtain ⟨z1,z2⟩:=bVx p.plan
  obtain ⟨x1,x2⟩:=aTc p hz
  obtain ⟨d,s,sb,d1,d2,d3,d4⟩:=bEs p hz
  simp only [hw,hkb,t1,t2,z1,z2,x1,d1,d2,d3,d4,Bool.not_true,Bool.false_eq_true,if_false,beq_self_eq_true,Bool.and_self,if_true,Option.bind_some,Bool.not_false]
  cases tb with
  | false=>exact ⟨false,by simp,by cases kb <;> simp⟩
  | true =>
  generalize aB8 p.plan=zb
  cases zb with
  | false=>exact ⟨false,by simp,by cases kb <;> simp⟩
  | true =>
  simp only [Bool.not_true,Bool.false_eq_true,if_false,beq_self_eq_true,Bool.and_self,if_true,Option.bind_some,d1,d2,d3]
  cases sb with
  | false=>exact ⟨false,by simp,by cases kb <;> simp⟩
  | true =>
  obtain ⟨u0,u1⟩:=t3.1 rfl
  have hj:p.table.toNat<c.tables.length:=by omega
  have hx:idx c.tables p.table=some c.tables[p.table.toNat]:=by
    have:=dV hj
    rwa [show ((p.table.toNat:Nat):Int)=p.table by omega] at this
  obtain ⟨c1,c2⟩:=hc.2 _ (List.getElem_mem hj)
  obtain ⟨y1,y2⟩:=aZ9 c.tables[p.table.toNat] (by omega)
  have tl:(jE c.tables[p.table.toNat]).length≤4:=by unfold jE; simpa using c1
  simp only [Bool.not_true,Bool.false_eq_true,if_false,hx,y1,y2,Option.bind_some]
  generalize jE c.tables[p.table.toNat]=ts at *
  have hv:lF [ts]:=by
    intro r hr
    simp only [List.mem_singleton] at hr
    subst hr
    exact ⟨by omega,c2⟩
  have hTy:∀ e ∈ p.where_,TyE c [ts] e:=fun e he=>aWb c hc e [ts] (by have:=jR (z:=aX) he; omega) hv (by simp)
  by_cases k2:p.kind=2
  · have hk:kb=true:=hkk.2 (by omega)
    subst hk
    obtain ⟨r,r1,r2⟩:=bMm c hc ts c2 tl p (by omega) (by omega) (by omega) (by omega) fun row hr e he=>by have:=jR (z:=zL aX) hr; have:=jR (z:=aX) he; omega
    have e2:V5 c p=some (r&&J8 p):=by
      unfold V5
      rw [hx]
      simp only [Option.bind_eq_bind,Option.bind_some,y2]
      exact r2
    have e1:aCb c ts p.rows=some r:=r1
    simp only [k2,decide_true,if_true,e1,e2,Bool.not_true,Bool.false_eq_true,if_false,Option.bind_some,beq_self_eq_true,Bool.and_self]
    have f1:decide ((p.cols.length:Int)=0)=decide (p.cols.length=0):=by rw [Bool.eq_iff_iff]; simp
    have f2:decide ((p.sets.length:Int)=0)=decide (p.sets.length=0):=by rw [Bool.eq_iff_iff]; simp
    have f3:decide ((p.where_.length:Int)=0)=decide (p.where_.length=0):=by rw [Bool.eq_iff_iff]; simp
    rw [f1,f2,f3]
    unfold J8
    generalize decide (p.cols.length=0)=v1
    generalize decide (p.sets.length=0)=v2
    generalize decide (p.where_.length=0)=v3
    exact ⟨r&&(v1&&v2&&v3),by cases r <;> cases v1 <;> cases v2 <;> cases v3 <;> rfl,rfl⟩
  have k2d:decide (p.kind=2)=false:=by simpa using k2
  simp only [k2d,Bool.false_eq_true,if_false]
  have w0:(if (decide (0<(p.rows.length:Int)))=true then true else (decide (1<(p.where_.length:Int))))=true∨p.where_.length≤1:=by
    by_cases h:p.where_.length≤1
    · exact .inr h
    · left
      have:(1:Int)<(p.where_.length:Int):=by omega
      simp [this]
  obtain ⟨tr,tr1,tr2⟩:=aN4 c [ts] p.where_ (by omega) hTy
  simp only [tr1,tr2]
  generalize (if (decide (0<(p.rows.length:Int)))=true then true else (decide (1<(p.where_.length:Int))))=g
  cases g with
  | true=>exact ⟨false,by simp,by cases kb <;> simp⟩
  | false =>
  simp only [beq_self_eq_true,Bool.and_self,if_true,Option.bind_some,Bool.false_eq_true,if_false]
  cases tr with
  | false=>exact ⟨false,by simp,by cases kb <;> simp⟩
  | true =>
  simp only [Bool.not_true,Bool.false_eq_true,if_false]
  by_cases k4:p.kind=4
  · have hk:kb=true:=hkk.2 (by omega)
    subst hk
    rw [gH (by omega) (by omega)]
    have e:decide ((p.cols.length:Int)+(p.sets.length:Int)=0)=(decide ((p.cols.length:Int)=0)&&decide ((p.sets.length:Int)=0)):=by
      rw [Bool.eq_iff_iff]; simp only [Bool.and_eq_true,decide_eq_true_eq]; omega
    rw [e]
    generalize decide ((p.cols.length:Int)=0)=v1
    generalize decide ((p.sets.length:Int)=0)=v2
    refine ⟨v1&&v2,?_,by simp [k4]⟩
    simp only [k4,Int.reduceEq,decide_false,decide_true,Bool.false_eq_true,if_false,if_true,Option.bind_some]
    cases v1 <;> rfl
  by_cases k3:p.kind=3
  · have hk:kb=true:=hkk.2 (by omega)
    subst hk
    unfold aCo aFr
    rw [hx]
    simp only [k3,Int.reduceEq,decide_false,decide_true,Bool.not_true,Bool.false_eq_true,if_false,if_true,Option.bind_eq_bind,Option.bind_some,y2,beq_self_eq_true,Bool.true_and]
    by_cases q0:0<p.cols.length
    case neg =>
      have a1:(p.cols.length:Int)<1:=by omega
      have a2:¬ (0:Int)<(p.cols.length:Int):=by omega
      exact ⟨false,by simp [a1],by simp [q0]⟩
    have a1:¬ (p.cols.length:Int)<1:=by omega
    have a2:(0:Int)<(p.cols.length:Int):=by omega
    by_cases q1:p.sets.length=p.cols.length
    case neg =>
      have a3:¬ (p.sets.length:Int)=(p.cols.length:Int):=by omega
      have a4:¬ (p.cols.length:Int)=(p.sets.length:Int):=by omega
      refine ⟨false,?_,by simp [q0,a4]⟩
      by_cases h:(12:Int)<(p.cols.length:Int) <;> simp [a1,a3,h]
    have a3:(p.sets.length:Int)=(p.cols.length:Int):=by omega
    obtain ⟨r,r1,r2,r3⟩:=bQ2 c hc ts c2 tl p (by omega) q1 fun e he=>by have:=jR (z:=aX) he; omega
    by_cases h:(12:Int)<(p.cols.length:Int)
    · have : r = false := by
        cases r with
        | false=>rfl
        | true=>have:=r3 rfl; omega
      subst this
      exact ⟨false,by simp [a1,h],by simp [q0,a3,r2]⟩
    · exact ⟨r,by simp [a1,a3,h,r1],by simp [q0,a3,r2]⟩
  have hk:kb=false:=by
    cases kb with
    | false=>rfl
    | true=>have:=hkk.1 rfl; omega
  subst hk
  exact ⟨false,by simp [k3,k4],by simp⟩
theorem cAn (c:aJ) (hz:mU c≤1048576):J7 c:=by
  obtain ⟨ts⟩:=c
  simp only [mU] at hz
  refine ⟨by have:=gY (z:=fJ) ts; dsimp only; omega,fun t ht=>?_⟩
  have h1:fJ t+ts.length≤zL fJ ts:=jR ht
  have h2:t.cols.length≤fJ t:=by obtain ⟨n,cs⟩:=t; have:=gY (z:=gM) cs; simp only [fJ]; omega
  omega
theorem bVy (c:aJ) (hs:J7 c) (p:bM) (hz:iY p≤1048576):∃ n,aAq c p=some n∧aB5 c p=some n:=by
  obtain ⟨b,b1,b2⟩:=bOl c hs p hz
  unfold aAq aB5
  simp only [b1,b2,Option.bind_eq_bind,Option.bind_some]
  by_cases k:p.kind=1
  · have hk:decide (p.kind=1)=true:=by simpa using k
    rw [hk]
    exact ⟨-1,by cases b <;> rfl,by cases b <;> rfl⟩
  · have hk:decide (p.kind=1)=false:=by simpa using k
    rw [hk]
    cases b
    · exact ⟨-1,rfl,rfl⟩
    · exact ⟨p.table,rfl,rfl⟩
theorem bD1 (c:aJ) (oc:okGCatalog c) (p:bM) (op:okGSPlan p):Q6 c p=some true:=by
  unfold Q6
  rw [bI8 c oc 1048576 (by omega) (by omega)]
  simp only [Option.bind_eq_bind,Option.bind_some]
  by_cases hz:(mU c:Int)≤1048576
  case neg=>rw [if_neg hz]; simp
  rw [if_pos hz,if_neg (by simp; omega)]
  rw [bH4 p op _ (by omega) (by omega)]
  simp only [Option.bind_some]
  by_cases hz2:(iY p:Int)≤1048576 - (mU c:Int)
  case neg=>rw [if_neg hz2]; simp
  rw [if_pos hz2,if_neg (by simp; omega)]
  obtain ⟨b,b1,b2⟩:=bVy c (cAn c (by omega)) p (by omega)
  simp only [bWo c (by omega),bSj p (by omega),b1,b2,bH9 c (by omega),bIk p (by omega),Option.bind_some]
  simp
end Go.Ab
