/- What the functions compute,in plain Lean. -/
import Derived.Test.YthgkmdkjegiaoacGreatFExactSPlanOk
namespace Go.Ab
open Go
theorem gG {n:Int} (h1 : -9223372036854775808≤n) (h2:n≤9223372036854775807):IntKind.wrap .i64 n=n:=by rw [IntKind.wrap_i64]; omega
theorem eU {i n:Nat} (h:i<n) (hn:n≤4611686018427387904):IntKind.wrap .i64 ((i:Int)+1)=((i+1:Nat):Int):=by rw [gG] <;> omega
theorem eF (i n:Nat):decide ((i:Int)<(n:Int))=decide (i<n):=by simp
theorem bGs {α:Type} (l:List α) (i:Nat):idx l (i:Int)=l[i]?:=by simp [idx]
theorem dU {α:Type} {l:List α} {i:Nat} (h:i<l.length):idx l (i:Int)=some l[i]:=by rw [bGs]; simp [h]
theorem fC {M:Nat→Prop} {n:Nat} (h0:M n) (h:∀ i,i<n→M (i+1)→M i):∀ i,i≤n→M i:=by
  have:∀ k i,i+k=n→M i:=by
    intro k
    induction k with
    | zero => intro i hi; have : i = n := by omega
              subst this; exact h0
    | succ k ih=>intro i hi; exact h i (by omega) (ih (i+1) (by omega))
  exact fun i hi=>this (n - i) i (by omega)
theorem bOv {α : Type} {p : List α} {F : Int → List α → Option (List α)} (hn : p.length ≤ 4611686018427387904)
    (hF:∀ (i:Nat) b,b.length=p.length→F i b=if i<p.length then (idx p i>>=fun v=>jZ b i v>>=fun c=>F (IntKind.wrap .i64 ((i:Int)+1)) c) else some b) :
    ∀ b,b.length=p.length→F 0 b=some p:=by
  have key:∀ i,i≤p.length→∀ b,b.length=p.length→b.take i=p.take i→F (i:Nat) b=some p:=by
    refine fC ?_ ?_
    · intro b hb ht
      rw [hF _ _ hb,if_neg (by omega)]
      rw [← hb,List.take_length] at ht
      rw [ht,hb,List.take_length]
    · intro i hi ih b hb ht
      rw [hF _ _ hb,if_pos hi,dU hi]
      have hs:jZ b i p[i]=some (b.set i p[i]):=by
        unfold jZ; rw [if_pos ⟨by omega,by simp; omega⟩]; simp
      simp only [Option.bind_eq_bind,Option.bind_some,hs,eU hi hn]
      refine ih _ (by simp [hb]) ?_
      rw [List.take_add_one,List.take_add_one]
      have e1:(b.set i p[i]).take i=b.take i:=by rw [List.take_set_of_le (Nat.le_refl _)]
      rw [e1,ht]
      simp [hb,hi]
  intro b hb
  exact key 0 (by omega) b hb (by simp)
theorem aHr {α:Type} {by':Nat} {n:Nat} {z:α} (h:(n:Int) * by'≤140737488355328):mkG by' (n:Int) z=some (List.replicate n z):=by
  unfold mkG; rw [if_pos ⟨by omega,h⟩]; simp
def zL {α:Type} (z:α→Nat) (l:List α):Nat:=l.length+(l.map z).sum
def z0 {α:Type} (_:α):Nat:=0
def dW {α:Type} (F:α→Int→Option Int) (z:α→Nat) (x:α):Prop:=∀ n:Int,0≤n→n≤1048576→F x n=some (if (z x:Int)≤n then n - (z x:Int) else -1)
theorem wW {α:Type} (z:α→Nat) (x:α) (l:List α):((x::l).map z).sum=z x+(l.map z).sum:=by simp
theorem cB5 {α : Type} {p : List α} {F : α → Int → Option Int} {z : α → Nat} {L : Int → Int → Option Int} (hp : p.length ≤ 1048576)
    (hL:∀ (i:Nat) (x:Int),L x (i:Int)=if (decide ((i:Int)<(p.length:Int)))=true then ((idx p (i:Int))>>=fun y=>(F y x)>>=fun r=>if (decide (r<0))=true then (some (-1)) else L r (IntKind.wrap .i64 ((i:Int)+1))) else some x)
    (H:∀ y ∈ p,dW F z y):∀ n:Int,0≤n→n≤1048576→L n 0=some (if ((p.map z).sum:Int)≤n then n - ((p.map z).sum:Int) else -1):=by
  have key:∀ i,i≤p.length→∀ n:Int,0≤n→n≤1048576→L n (i:Nat)=some (if (((p.drop i).map z).sum:Int)≤n then n - (((p.drop i).map z).sum:Int) else -1):=by
    refine fC ?_ ?_
    · intro n h0 h1
      rw [hL]; simp [h0]
    · intro i hi ih n h0 h1
      rw [hL,dU hi,eU hi (by omega)]
      rw [List.drop_eq_getElem_cons hi,wW]
      simp only [Option.bind_eq_bind,Option.bind_some,eF,hi,decide_true,if_true,H _ (List.getElem_mem hi) n h0 h1]
      by_cases hz:(z p[i]:Int)≤n
      · rw [if_pos hz,if_neg (by simp; omega),ih _ (by omega) (by omega)]
        congr 1
        by_cases hr:(((p.drop (i+1)).map z).sum:Int)≤n - z p[i]
        · rw [if_pos hr,if_pos (by omega)]; omega
        · rw [if_neg hr,if_neg (by omega)]
      · rw [if_neg hz,if_pos (by decide),if_neg (by omega)]
  intro n h0 h1
  have:=key 0 (by omega) n h0 h1
  simpa using this
theorem lV {α : Type} {p : List α} {F : α → Int → Option Int} {z : α → Nat} {L : Int → Int → Option Int} {S : List α → Int → Option Int} (hp : p.length ≤ 9223372036854775807)
    (hS:∀ n,S p n=if (decide ((IntKind.wrap .i64 (n - (p.length:Int)))<0))=true then (some (-1)) else L (IntKind.wrap .i64 (n - (p.length:Int))) 0)
    (hL:∀ (i:Nat) (x:Int),L x (i:Int)=if (decide ((i:Int)<(p.length:Int)))=true then ((idx p (i:Int))>>=fun y=>(F y x)>>=fun r=>if (decide (r<0))=true then (some (-1)) else L r (IntKind.wrap .i64 ((i:Int)+1))) else some x)
    (H:∀ y ∈ p,dW F z y):dW S (zL z) p:=by
  intro n h0 h1
  have hz:((zL z p:Nat):Int)=(p.length:Int)+((p.map z).sum:Int):=by unfold zL; omega
  rw [hS,gG (by omega) (by omega),hz]
  by_cases hl:n - (p.length:Int)<0
  · rw [if_pos (by simpa using hl),if_neg (by omega)]
  · rw [if_neg (by simpa using hl),cB5 (by omega) hL H _ (by omega) (by omega)]
    congr 1
    by_cases hr:((p.map z).sum:Int)≤n - p.length
    · rw [if_pos hr,if_pos (by omega)]; omega
    · rw [if_neg hr,if_neg (by omega)]
theorem bX6 {α : Type} {p : List α} {S : List α → Int → Option Int} (hp : p.length ≤ 9223372036854775807)
    (hS:∀ n,S p n=if (decide ((IntKind.wrap .i64 (n - (p.length:Int)))<0))=true then (some (-1)) else (some (IntKind.wrap .i64 (n - (p.length:Int))))):dW S (zL z0) p:=by
  intro n h0 h1
  have hs:(p.map z0).sum=0:=by
    clear hS hp
    induction p with
    | nil=>rfl
    | cons x p ih=>rw [wW,ih]; rfl
  have hz:((zL z0 p:Nat):Int)=(p.length:Int):=by unfold zL; omega
  rw [hS,gG (by omega) (by omega),hz]
  by_cases hl:n - (p.length:Int)<0
  · rw [if_pos (by simpa using hl),if_neg (by omega)]
  · rw [if_neg (by simpa using hl),if_pos (by omega)]
def X6 (y:List UInt8) (n:Int):Option Int:=if (decide ((IntKind.wrap .i64 (n - (y.length:Int)))<0))=true then (some (-1)) else (some (IntKind.wrap .i64 (n - (y.length:Int))))
theorem bYt (y:List UInt8) (hy:y.length≤9223372036854775807):dW X6 List.length y:=by
  intro n h0 h1
  unfold X6
  rw [gG (by omega) (by omega)]
  by_cases hl:n - (y.length:Int)<0
  · rw [if_pos (by simpa using hl),if_neg (by omega)]
  · rw [if_neg (by simpa using hl),if_pos (by omega)]
theorem bT6 (y:List UInt8) (x:Int) (K:Int→Option Int):(if (decide ((IntKind.wrap .i64 (x - (y.length:Int)))<0))=true then (some (-1)) else K (IntKind.wrap .i64 (x - (y.length:Int))))=((X6 y x)>>=fun r=>if (decide (r<0))=true then (some (-1)) else K r):=by
  unfold X6
  by_cases h:(IntKind.wrap .i64 (x - (y.length:Int)))<0
  · rw [if_pos (by simpa using h),if_pos (by simpa using h)]; rfl
  · rw [if_neg (by simpa using h),if_neg (by simpa using h)]
    simp only [Option.bind_eq_bind,Option.bind_some]
    rw [if_neg (by simpa using h)]
theorem kW {α : Type} {p : List α} {W : α → Option α} {by' : Nat} {d : α} {L : Int → List α → Option (List α)} {S : Option (List α)} (hp : p.length ≤ 1048576) (hby : by' ≤ 134217728)
    (hS:S=(mkG by' (p.length:Int) d>>=fun y=>L 0 y))
    (hL:∀ (i:Nat) b,L (i:Int) b=if (decide ((i:Int)<(p.length:Int)))=true then ((idx p (i:Int))>>=fun y2=>(W y2)>>=fun y3=>(idx b (i:Int))>>=fun _=>(jZ b (i:Int) y3)>>=fun y5=>L (IntKind.wrap .i64 ((i:Int)+1)) y5) else some b)
    (H:∀ y ∈ p,W y=some y):S=some p:=by
  have hm:(p.length:Int) * by'≤140737488355328:=by
    have:(p.length:Int) * by'≤1048576 * 134217728:=Int.mul_le_mul (by omega) (by omega) (by omega) (by omega)
    omega
  rw [hS,aHr hm]
  simp only [Option.bind_eq_bind,Option.bind_some]
  refine bOv (F:=L) (by omega) (fun i b hb=>?_) _ (by simp)
  rw [hL]
  simp only [eF,decide_eq_true_eq,Option.bind_eq_bind]
  split
  · rename_i hi
    have e:idx b (i:Int)=some b[i]:=dU (by omega)
    rw [dU hi]
    simp only [Option.bind_some,H _ (List.getElem_mem hi),e]
  · rfl
theorem kR {α : Type} {p : List α} {E : α → α → Option Bool} {L : Int → Option Bool} {S : List α → List α → Option Bool} (hp : p.length ≤ 1048576)
    (hS:S p p=if (!decide ((p.length:Int)=(p.length:Int)))=true then (some false) else L 0)
    (hL:∀ i:Nat,L (i:Int)=if (decide ((i:Int)<(p.length:Int)))=true then ((idx p (i:Int))>>=fun y1=>(idx p (i:Int))>>=fun y2=>(E y1 y2)>>=fun y3=>if (!y3)=true then (some false) else L (IntKind.wrap .i64 ((i:Int)+1))) else some true)
    (H:∀ y ∈ p,E y y=some true):S p p=some true:=by
  have key:∀ i,i≤p.length→L (i:Nat)=some true:=by
    refine fC ?_ ?_
    · rw [hL]; simp
    · intro i hi ih
      rw [hL]
      simp only [eF,dU hi,eU hi (by omega),H _ (List.getElem_mem hi),Option.bind_eq_bind,Option.bind_some,ih]
      simp
  rw [hS]
  have:=key 0 (by omega)
  simpa using this
theorem vU {α:Type} {z:α→Nat}:∀ {p:List α} {y:α},y ∈ p→z y≤(p.map z).sum
  | x::p,y,h=>by
    rw [wW]
    rcases List.mem_cons.1 h with rfl | h
    · omega
    · have:=vU (z:=z) h; omega
def gM:bL→Nat
  | ⟨a0,a1⟩=>a0.length
theorem bRg:∀ x:bL,okGCol x→dW I5 gM x
  | ⟨a0,a1⟩,h=>by
    simp only [okGCol] at h
    obtain ⟨o0,o1⟩:=h
    intro n h0 h1
    have b0:a0.length≤9223372036854775807:=o0
    have hz:((gM ⟨a0,a1⟩:Nat):Int)=(a0.length:Int):=by simp only [gM] <;> omega
    rw [hz,I5]
    dsimp only
    rw [gG (n:=n - (a0.length:Int)) (by omega) (by omega)]
    by_cases r0:n - (a0.length:Int)<0
    · rw [if_pos (by simpa using r0),if_neg (by omega)]
    rw [if_neg (by simpa using r0)]
    first | done | (rw [if_pos (by omega)]; done) | (rw [if_pos (by omega)]; congr 1 <;> omega) | (congr 1 <;> omega)
theorem cBu:∀ x:bL,gM x≤1048576→zZ x=some x
  | ⟨a0,a1⟩,hz=>by
    simp only [gM] at hz
    rw [zZ]
theorem bHw:∀ x:bL,gM x≤1048576→G6 x x=some true
  | ⟨a0,a1⟩,hz=>by
    simp only [gM] at hz
    rw [G6]
    simp
theorem bHy (p:(List bL)) (h:(okL okGCol) p):dW zC (zL gM) p:=lV (F:=I5) h.1 (fun n=>by rw [zC]) (fun i x=>by rw [J6]) (fun y hy=>bRg y (h.2 y hy))
theorem bKp (p:(List bL)) (hz:(zL gM) p≤1048576):yF p=some p:=kW (by':=24) (W:=zZ) (by unfold zL at hz; omega) (by omega) (by rw [yF]) (fun i b=>by rw [M3]) (fun y hy=>cBu y (by have h1:=vU (z:=gM) hy; have h2:zL gM p=p.length+(p.map gM).sum:=rfl; omega))
theorem bFh (p:(List bL)) (hz:(zL gM) p≤1048576):yL p p=some true:=kR (E:=G6) (by unfold zL at hz; omega) (by rw [yL]) (fun i=>by rw [H8]) (fun y hy=>bHw y (by have h1:=vU (z:=gM) hy; have h2:zL gM p=p.length+(p.map gM).sum:=rfl; omega))
def fK:bD→Nat
  | ⟨a0,a1⟩=>a0.length+(zL gM) a1
theorem bBr:∀ x:bD,okGTable x→dW J5 fK x
  | ⟨a0,a1⟩,h=>by
    simp only [okGTable] at h
    obtain ⟨o0,o1⟩:=h
    intro n h0 h1
    have b0:a0.length≤9223372036854775807:=o0
    have e1:dW zC (zL gM) a1:=bHy a1 o1
    have hz:((fK ⟨a0,a1⟩:Nat):Int)=(a0.length:Int)+(((zL gM) a1:Nat):Int):=by simp only [fK] <;> omega
    rw [hz,J5]
    dsimp only
    rw [gG (n:=n - (a0.length:Int)) (by omega) (by omega)]
    by_cases r0:n - (a0.length:Int)<0
    · rw [if_pos (by simpa using r0),if_neg (by omega)]
    rw [if_neg (by simpa using r0)]
    rw [e1 (n - (a0.length:Int)) (by omega) (by omega)]
    simp only [Option.bind_eq_bind,Option.bind_some]
    rcases (Decidable.em ((((zL gM) a1:Nat):Int)≤(n - (a0.length:Int)))).symm with r1 | r1
    · rw [if_neg r1,if_pos (by decide)]; first | done | rw [if_neg (by omega)]
    rw [if_pos r1,if_neg (by simp; omega)]
    first | done | (rw [if_pos (by omega)]; done) | (rw [if_pos (by omega)]; congr 1 <;> omega) | (congr 1 <;> omega)
theorem bDs:∀ x:bD,fK x≤1048576→E5 x=some x
  | ⟨a0,a1⟩,hz=>by
    simp only [fK] at hz
    have e1:yF a1=some a1:=bKp a1 (by omega)
    rw [E5]
    simp only [e1,Option.bind_eq_bind,Option.bind_some]
theorem bOi:∀ x:bD,fK x≤1048576→H5 x x=some true
  | ⟨a0,a1⟩,hz=>by
    simp only [fK] at hz
    have e1:yL a1 a1=some true:=bFh a1 (by omega)
    rw [H5]
    simp [e1]
theorem bH1 (p:(List bD)) (h:(okL okGTable) p):dW zJ (zL fK) p:=lV (F:=J5) h.1 (fun n=>by rw [zJ]) (fun i x=>by rw [I6]) (fun y hy=>bBr y (h.2 y hy))
theorem cA7 (p:(List bD)) (hz:(zL fK) p≤1048576):A8 p=some p:=kW (by':=40) (W:=E5) (by unfold zL at hz; omega) (by omega) (by rw [A8]) (fun i b=>by rw [yM]) (fun y hy=>bDs y (by have h1:=vU (z:=fK) hy; have h2:zL fK p=p.length+(p.map fK).sum:=rfl; omega))
theorem bSx (p:(List bD)) (hz:(zL fK) p≤1048576):K7 p p=some true:=kR (E:=H5) (by unfold zL at hz; omega) (by rw [K7]) (fun i=>by rw [D6]) (fun y hy=>bOi y (by have h1:=vU (z:=fK) hy; have h2:zL fK p=p.length+(p.map fK).sum:=rfl; omega))
def mG:aJ→Nat
  | ⟨a0⟩=>(zL fK) a0
theorem bMz:∀ x:aJ,okGCatalog x→dW U2 mG x
  | ⟨a0⟩,h=>by
    simp only [okGCatalog] at h
    have o0:=h
    intro n h0 h1
    have e0:dW zJ (zL fK) a0:=bH1 a0 o0
    have hz:((mG ⟨a0⟩:Nat):Int)=(((zL fK) a0:Nat):Int):=by simp only [mG] <;> omega
    rw [hz,U2]
    dsimp only
    rw [e0 n (by omega) (by omega)]
    simp only [Option.bind_eq_bind,Option.bind_some]
    rcases (Decidable.em ((((zL fK) a0:Nat):Int)≤n)).symm with r0 | r0
    · rw [if_neg r0,if_pos (by decide)]; first | done | rw [if_neg (by omega)]
    rw [if_pos r0,if_neg (by simp; omega)]
    first | done | (rw [if_pos (by omega)]; done) | (rw [if_pos (by omega)]; congr 1 <;> omega) | (congr 1 <;> omega)
theorem bCn:∀ x:aJ,mG x≤1048576→xC x=some x
  | ⟨a0⟩,hz=>by
    simp only [mG] at hz
    have e0:A8 a0=some a0:=cA7 a0 (by omega)
    rw [xC]
    simp only [e0,Option.bind_eq_bind,Option.bind_some]
theorem bF6:∀ x:aJ,mG x≤1048576→aAr x x=some true
  | ⟨a0⟩,hz=>by
    simp only [mG] at hz
    have e0:K7 a0 a0=some true:=bSx a0 (by omega)
    rw [aAr]
    simp [e0]
theorem aPy (p:(List Int)) (h:(okL okI) p):dW vK (zL z0) p:=bX6 h.1 (fun n=>by rw [vK])
theorem aT6 (p:(List Int)) (hz:(zL z0) p≤1048576):tC p=some p:=kW (by':=8) (W:=some) (by unfold zL at hz; omega) (by omega) (by rw [tC]) (fun i b=>by rw [G9]; rfl) (fun y hy=>rfl)
theorem aUj (p:(List Int)) (hz:(zL z0) p≤1048576):sQ p p=some true:=kR (E:=fun a b=>some (decide (a=b))) (by unfold zL at hz; omega) (by rw [sQ]) (fun i=>by rw [yI]; rfl) (fun y hy=>by simp)
def jD:dC→Nat
  | ⟨a0,a1,a2⟩=>a2.length
theorem cBf:∀ x:dC,okGValue x→dW E9 jD x
  | ⟨a0,a1,a2⟩,h=>by
    simp only [okGValue] at h
    obtain ⟨o0,o1,o2⟩:=h
    intro n h0 h1
    have b2:a2.length≤9223372036854775807:=o2
    have hz:((jD ⟨a0,a1,a2⟩:Nat):Int)=(a2.length:Int):=by simp only [jD] <;> omega
    rw [hz,E9]
    dsimp only
    rw [gG (n:=n - (a2.length:Int)) (by omega) (by omega)]
    by_cases r2:n - (a2.length:Int)<0
    · rw [if_pos (by simpa using r2),if_neg (by omega)]
    rw [if_neg (by simpa using r2)]
    first | done | (rw [if_pos (by omega)]; done) | (rw [if_pos (by omega)]; congr 1 <;> omega) | (congr 1 <;> omega)
theorem bGq:∀ x:dC,jD x≤1048576→F4 x=some x
  | ⟨a0,a1,a2⟩,hz=>by
    simp only [jD] at hz
    rw [F4]
theorem bNn:∀ x:dC,jD x≤1048576→yQ x x=some true
  | ⟨a0,a1,a2⟩,hz=>by
    simp only [jD] at hz
    rw [yQ]
    simp
theorem bH8 (p:(List (List UInt8))) (h:(okL okS) p):dW G7 (zL List.length) p:=lV (F:=X6) h.1 (fun n=>by rw [G7]) (fun i x=>by rw [wT]; simp only [fun y=>bT6 y x (fun r=>wT p r (IntKind.wrap .i64 ((i:Int)+1)))]) (fun y hy=>bYt y (h.2 y hy))
theorem bLs (p:(List (List UInt8))) (hz:(zL List.length) p≤1048576):yR p=some p:=kW (by':=16) (W:=some) (by unfold zL at hz; omega) (by omega) (by rw [yR]) (fun i b=>by rw [G5]; rfl) (fun y hy=>rfl)
theorem bXw (p:(List (List UInt8))) (hz:(zL List.length) p≤1048576):yJ p p=some true:=kR (E:=fun a b=>some (decide (a=b))) (by unfold zL at hz; omega) (by rw [yJ]) (fun i=>by rw [zA]; rfl) (fun y hy=>by simp)
mutual
def gX:aY→Nat
  | ⟨a0,a1⟩=>aX a0
def cZ:aB→Nat
  | ⟨a0,a1,a2,a3,a4,a5,a6,a7⟩=>(zL z0) a0+(a1.length+lH a1)+(a2.length+iW a2)+(a3.length+oC a3)+(a4.length+iW a4)+(zL List.length) a5
def aX:aA→Nat
  | ⟨a0,a1,a2,a3,a4,a5,a6,a7⟩=>jD a3+(a6.length+iW a6)+(a7.length+nI a7)
def nI:List aB→Nat
  | []=>0
  | x::l=>cZ x+nI l
def iW:List aA→Nat
  | []=>0
  | x::l=>aX x+iW l
def oC:List aY→Nat
  | []=>0
  | x::l=>gX x+oC l
def lH:List (List aA)→Nat
  | []=>0
  | x::l=>(x.length+iW x)+lH l
end
theorem aJk:∀ l:List aB,nI l=(l.map cZ).sum
  | []=>by simp [nI]
  | x::l=>by rw [wW,← aJk l]; simp only [nI]
theorem qL:∀ l:List aA,iW l=(l.map aX).sum
  | []=>by simp [iW]
  | x::l=>by rw [wW,← qL l]; simp only [iW]
theorem aMx:∀ l:List aY,oC l=(l.map gX).sum
  | []=>by simp [oC]
  | x::l=>by rw [wW,← aMx l]; simp only [oC]
theorem aAu:∀ l:List (List aA),lH l=(l.map (zL aX)).sum
  | []=>by simp [lH]
  | x::l=>by rw [wW,← aAu l]; simp only [lH,zL,qL]
mutual
theorem bLa:∀ x:aY,okGPSort x→dW uZ gX x
  | ⟨a0,a1⟩,h=>by
    simp only [okGPSort] at h
    obtain ⟨o0,o1⟩:=h
    intro n h0 h1
    have e0:dW kX aX a0:=aHz a0 o0
    have hz:((gX ⟨a0,a1⟩:Nat):Int)=((aX a0:Nat):Int):=by simp only [gX] <;> omega
    rw [hz,uZ]
    dsimp only
    rw [e0 n (by omega) (by omega)]
    simp only [Option.bind_eq_bind,Option.bind_some]
    rcases (Decidable.em (((aX a0:Nat):Int)≤n)).symm with r0 | r0
    · rw [if_neg r0,if_pos (by decide)]; first | done | rw [if_neg (by omega)]
    rw [if_pos r0,if_neg (by simp; omega)]
    first | done | (rw [if_pos (by omega)]; done) | (rw [if_pos (by omega)]; congr 1 <;> omega) | (congr 1 <;> omega)
theorem aZ4:∀ x:aB,okGPlan x→dW oM cZ x
  | ⟨a0,a1,a2,a3,a4,a5,a6,a7⟩,h=>by
    simp only [okGPlan] at h
    obtain ⟨o0,o1,o2,o3,o4,o5,o6,o7⟩:=h
    intro n h0 h1
    have e0:dW vK (zL z0) a0:=aPy a0 o0
    have q1:(zL (zL aX)) a1=a1.length+lH a1:=by rw [aAu,zL]
    have e1:dW qB (zL (zL aX)) a1:=lV (F:=gJ) o1.1 (fun n=>by rw [qB]) (fun i x=>by rw [J2]) (aTi a1 o1.2)
    have q2:(zL aX) a2=a2.length+iW a2:=by unfold zL; rw [qL]
    have e2:dW gJ (zL aX) a2:=lV (F:=kX) o2.1 (fun n=>by rw [gJ]) (fun i x=>by rw [pY]) (V4 a2 o2.2)
    have q3:(zL gX) a3=a3.length+oC a3:=by unfold zL; rw [aMx]
    have e3:dW O1 (zL gX) a3:=lV (F:=uZ) o3.1 (fun n=>by rw [O1]) (fun i x=>by rw [R7]) (aX1 a3 o3.2)
    have q4:(zL aX) a4=a4.length+iW a4:=by unfold zL; rw [qL]
    have e4:dW gJ (zL aX) a4:=lV (F:=kX) o4.1 (fun n=>by rw [gJ]) (fun i x=>by rw [pY]) (V4 a4 o4.2)
    have e5:dW G7 (zL List.length) a5:=bH8 a5 o5
    have hz:((cZ ⟨a0,a1,a2,a3,a4,a5,a6,a7⟩:Nat):Int)=(((zL z0) a0:Nat):Int)+(((zL (zL aX)) a1:Nat):Int)+(((zL aX) a2:Nat):Int)+(((zL gX) a3:Nat):Int)+(((zL aX) a4:Nat):Int)+(((zL List.length) a5:Nat):Int):=by simp only [cZ] <;> omega
    rw [hz,oM]
    dsimp only
    rw [e0 n (by omega) (by omega)]
    simp only [Option.bind_eq_bind,Option.bind_some]
    rcases (Decidable.em ((((zL z0) a0:Nat):Int)≤n)).symm with r0 | r0
    · rw [if_neg r0,if_pos (by decide)]; first | done | rw [if_neg (by omega)]
    rw [if_pos r0,if_neg (by simp; omega)]
    rw [e1 (n - (((zL z0) a0:Nat):Int)) (by omega) (by omega)]
    simp only [Option.bind_eq_bind,Option.bind_some]
    rcases (Decidable.em ((((zL (zL aX)) a1:Nat):Int)≤(n - (((zL z0) a0:Nat):Int)))).symm with r1 | r1
    · rw [if_neg r1,if_pos (by decide)]; first | done | rw [if_neg (by omega)]
    rw [if_pos r1,if_neg (by simp; omega)]
    rw [e2 ((n - (((zL z0) a0:Nat):Int)) - (((zL (zL aX)) a1:Nat):Int)) (by omega) (by omega)]
    simp only [Option.bind_eq_bind,Option.bind_some]
    rcases (Decidable.em ((((zL aX) a2:Nat):Int)≤((n - (((zL z0) a0:Nat):Int)) - (((zL (zL aX)) a1:Nat):Int)))).symm with r2 | r2
    · rw [if_neg r2,if_pos (by decide)]; first | done | rw [if_neg (by omega)]
    rw [if_pos r2,if_neg (by simp; omega)]
    rw [e3 (((n - (((zL z0) a0:Nat):Int)) - (((zL (zL aX)) a1:Nat):Int)) - (((zL aX) a2:Nat):Int)) (by omega) (by omega)]
    simp only [Option.bind_eq_bind,Option.bind_some]
    rcases (Decidable.em ((((zL gX) a3:Nat):Int)≤(((n - (((zL z0) a0:Nat):Int)) - (((zL (zL aX)) a1:Nat):Int)) - (((zL aX) a2:Nat):Int)))).symm with r3 | r3
    · rw [if_neg r3,if_pos (by decide)]; first | done | rw [if_neg (by omega)]
    rw [if_pos r3,if_neg (by simp; omega)]
    rw [e4 ((((n - (((zL z0) a0:Nat):Int)) - (((zL (zL aX)) a1:Nat):Int)) - (((zL aX) a2:Nat):Int)) - (((zL gX) a3:Nat):Int)) (by omega) (by omega)]
    simp only [Option.bind_eq_bind,Option.bind_some]
    rcases (Decidable.em ((((zL aX) a4:Nat):Int)≤((((n - (((zL z0) a0:Nat):Int)) - (((zL (zL aX)) a1:Nat):Int)) - (((zL aX) a2:Nat):Int)) - (((zL gX) a3:Nat):Int)))).symm with r4 | r4
    · rw [if_neg r4,if_pos (by decide)]; first | done | rw [if_neg (by omega)]
    rw [if_pos r4,if_neg (by simp; omega)]
    rw [e5 (((((n - (((zL z0) a0:Nat):Int)) - (((zL (zL aX)) a1:Nat):Int)) - (((zL aX) a2:Nat):Int)) - (((zL gX) a3:Nat):Int)) - (((zL aX) a4:Nat):Int)) (by omega) (by omega)]
    simp only [Option.bind_eq_bind,Option.bind_some]
    rcases (Decidable.em ((((zL List.length) a5:Nat):Int)≤(((((n - (((zL z0) a0:Nat):Int)) - (((zL (zL aX)) a1:Nat):Int)) - (((zL aX) a2:Nat):Int)) - (((zL gX) a3:Nat):Int)) - (((zL aX) a4:Nat):Int)))).symm with r5 | r5
    · rw [if_neg r5,if_pos (by decide)]; first | done | rw [if_neg (by omega)]
    rw [if_pos r5,if_neg (by simp; omega)]
    first | done | (rw [if_pos (by omega)]; done) | (rw [if_pos (by omega)]; congr 1 <;> omega) | (congr 1 <;> omega)
theorem aHz:∀ x:aA,okGPExpr x→dW kX aX x
  | ⟨a0,a1,a2,a3,a4,a5,a6,a7⟩,h=>by
    simp only [okGPExpr] at h
    obtain ⟨o0,o1,o2,o3,o4,o5,o6,o7⟩:=h
    intro n h0 h1
    have e3:dW E9 jD a3:=cBf a3 o3
    have q6:(zL aX) a6=a6.length+iW a6:=by unfold zL; rw [qL]
    have e6:dW gJ (zL aX) a6:=lV (F:=kX) o6.1 (fun n=>by rw [gJ]) (fun i x=>by rw [pY]) (V4 a6 o6.2)
    have q7:(zL cZ) a7=a7.length+nI a7:=by unfold zL; rw [aJk]
    have e7:dW X7 (zL cZ) a7:=lV (F:=oM) o7.1 (fun n=>by rw [X7]) (fun i x=>by rw [N9]) (aSk a7 o7.2)
    have hz:((aX ⟨a0,a1,a2,a3,a4,a5,a6,a7⟩:Nat):Int)=((jD a3:Nat):Int)+(((zL aX) a6:Nat):Int)+(((zL cZ) a7:Nat):Int):=by simp only [aX] <;> omega
    rw [hz,kX]
    dsimp only
    rw [e3 n (by omega) (by omega)]
    simp only [Option.bind_eq_bind,Option.bind_some]
    rcases (Decidable.em (((jD a3:Nat):Int)≤n)).symm with r3 | r3
    · rw [if_neg r3,if_pos (by decide)]; first | done | rw [if_neg (by omega)]
    rw [if_pos r3,if_neg (by simp; omega)]
    rw [e6 (n - ((jD a3:Nat):Int)) (by omega) (by omega)]
    simp only [Option.bind_eq_bind,Option.bind_some]
    rcases (Decidable.em ((((zL aX) a6:Nat):Int)≤(n - ((jD a3:Nat):Int)))).symm with r6 | r6
    · rw [if_neg r6,if_pos (by decide)]; first | done | rw [if_neg (by omega)]
    rw [if_pos r6,if_neg (by simp; omega)]
    rw [e7 ((n - ((jD a3:Nat):Int)) - (((zL aX) a6:Nat):Int)) (by omega) (by omega)]
    simp only [Option.bind_eq_bind,Option.bind_some]
    rcases (Decidable.em ((((zL cZ) a7:Nat):Int)≤((n - ((jD a3:Nat):Int)) - (((zL aX) a6:Nat):Int)))).symm with r7 | r7
    · rw [if_neg r7,if_pos (by decide)]; first | done | rw [if_neg (by omega)]
    rw [if_pos r7,if_neg (by simp; omega)]
    first | done | (rw [if_pos (by omega)]; done) | (rw [if_pos (by omega)]; congr 1 <;> omega) | (congr 1 <;> omega)
theorem aSk:∀ l:List aB,okLGPlan l→∀ y ∈ l,dW oM cZ y
  | [],_=>fun y hy=>by simp at hy
  | x::l,h=>by
    simp only [okLGPlan] at h
    intro y hy
    rcases List.mem_cons.1 hy with r | hy
    · rw [r]; exact aZ4 x h.1
    · exact aSk l h.2 y hy
theorem V4:∀ l:List aA,okLGPExpr l→∀ y ∈ l,dW kX aX y
  | [],_=>fun y hy=>by simp at hy
  | x::l,h=>by
    simp only [okLGPExpr] at h
    intro y hy
    rcases List.mem_cons.1 hy with r | hy
    · rw [r]; exact aHz x h.1
    · exact V4 l h.2 y hy
theorem aX1:∀ l:List aY,okLGPSort l→∀ y ∈ l,dW uZ gX y
  | [],_=>fun y hy=>by simp at hy
  | x::l,h=>by
    simp only [okLGPSort] at h
    intro y hy
    rcases List.mem_cons.1 hy with r | hy
    · rw [r]; exact bLa x h.1
    · exact aX1 l h.2 y hy
theorem aTi:∀ l:List (List aA),okLLGPExpr l→∀ y ∈ l,dW gJ (zL aX) y
  | [],_=>fun y hy=>by simp at hy
  | x::l,h=>by
    simp only [okLLGPExpr] at h
    intro y hy
    rcases List.mem_cons.1 hy with r | hy
    · rw [r]; exact lV (F:=kX) h.1.1 (fun n=>by rw [gJ]) (fun i x=>by rw [pY]) (V4 x h.1.2)
    · exact aTi l h.2 y hy
end
mutual
theorem bRv:∀ x:aY,gX x≤1048576→vO x=some x
  | ⟨a0,a1⟩,hz=>by
    simp only [gX] at hz
    have e0:kZ a0=some a0:=aQw a0 (by omega)
    rw [vO]
    simp only [e0,Option.bind_eq_bind,Option.bind_some]
theorem aX7:∀ x:aB,cZ x≤1048576→qQ x=some x
  | ⟨a0,a1,a2,a3,a4,a5,a6,a7⟩,hz=>by
    simp only [cZ] at hz
    have e0:tC a0=some a0:=aT6 a0 (by omega)
    have e1:qW a1=some a1:=kW (by':=24) (W:=gL) (by omega) (by omega) (by rw [qW]) (fun i b=>by rw [I4]) (aLp a1 (by omega))
    have e2:gL a2=some a2:=kW (by':=120) (W:=kZ) (by omega) (by omega) (by rw [gL]) (fun i b=>by rw [qF]) (I9 a2 (by omega))
    have e3:Y5 a3=some a3:=kW (by':=128) (W:=vO) (by omega) (by omega) (by rw [Y5]) (fun i b=>by rw [aA0]) (aXz a3 (by omega))
    have e4:gL a4=some a4:=kW (by':=120) (W:=kZ) (by omega) (by omega) (by rw [gL]) (fun i b=>by rw [qF]) (I9 a4 (by omega))
    have e5:yR a5=some a5:=bLs a5 (by omega)
    rw [qQ]
    simp only [e0,e1,e2,e3,e4,e5,Option.bind_eq_bind,Option.bind_some]
theorem aQw:∀ x:aA,aX x≤1048576→kZ x=some x
  | ⟨a0,a1,a2,a3,a4,a5,a6,a7⟩,hz=>by
    simp only [aX] at hz
    have e3:F4 a3=some a3:=bGq a3 (by omega)
    have e6:gL a6=some a6:=kW (by':=120) (W:=kZ) (by omega) (by omega) (by rw [gL]) (fun i b=>by rw [qF]) (I9 a6 (by omega))
    have e7:Q8 a7=some a7:=kW (by':=160) (W:=qQ) (by omega) (by omega) (by rw [Q8]) (fun i b=>by rw [O3]) (aZ8 a7 (by omega))
    rw [kZ]
    simp only [e3,e6,e7,Option.bind_eq_bind,Option.bind_some]
theorem aZ8:∀ l:List aB,nI l≤1048576→∀ y ∈ l,qQ y=some y
  | [],_=>fun y hy=>by simp at hy
  | x::l,hz=>by
    simp only [nI] at hz
    intro y hy
    rcases List.mem_cons.1 hy with r | hy
    · rw [r]; exact aX7 x (by omega)
    · exact aZ8 l (by omega) y hy
theorem I9:∀ l:List aA,iW l≤1048576→∀ y ∈ l,kZ y=some y
  | [],_=>fun y hy=>by simp at hy
  | x::l,hz=>by
    simp only [iW] at hz
    intro y hy
    rcases List.mem_cons.1 hy with r | hy
    · rw [r]; exact aQw x (by omega)
    · exact I9 l (by omega) y hy
theorem aXz:∀ l:List aY,oC l≤1048576→∀ y ∈ l,vO y=some y
  | [],_=>fun y hy=>by simp at hy
  | x::l,hz=>by
    simp only [oC] at hz
    intro y hy
    rcases List.mem_cons.1 hy with r | hy
    · rw [r]; exact bRv x (by omega)
    · exact aXz l (by omega) y hy
theorem aLp:∀ l:List (List aA),lH l≤1048576→∀ y ∈ l,gL y=some y
  | [],_=>fun y hy=>by simp at hy
  | x::l,hz=>by
    simp only [lH] at hz
    intro y hy
    rcases List.mem_cons.1 hy with r | hy
    · rw [r]; exact kW (by':=120) (W:=kZ) (by omega) (by omega) (by rw [gL]) (fun i b=>by rw [qF]) (I9 x (by omega))
    · exact aLp l (by omega) y hy
end
mutual
theorem bNv:∀ x:aY,gX x≤1048576→rJ x x=some true
  | ⟨a0,a1⟩,hz=>by
    simp only [gX] at hz
    have e0:kV a0 a0=some true:=aY2 a0 (by omega)
    rw [rJ]
    simp [e0]
theorem aRd:∀ x:aB,cZ x≤1048576→qG x x=some true
  | ⟨a0,a1,a2,a3,a4,a5,a6,a7⟩,hz=>by
    simp only [cZ] at hz
    have e0:sQ a0 a0=some true:=aUj a0 (by omega)
    have e1:oU a1 a1=some true:=kR (E:=gH) (by omega) (by rw [oU]) (fun i=>by rw [yN]) (aNe a1 (by omega))
    have e2:gH a2 a2=some true:=kR (E:=kV) (by omega) (by rw [gH]) (fun i=>by rw [oQ]) (H7 a2 (by omega))
    have e3:Y1 a3 a3=some true:=kR (E:=rJ) (by omega) (by rw [Y1]) (fun i=>by rw [aA2]) (aPl a3 (by omega))
    have e4:gH a4 a4=some true:=kR (E:=kV) (by omega) (by rw [gH]) (fun i=>by rw [oQ]) (H7 a4 (by omega))
    have e5:yJ a5 a5=some true:=bXw a5 (by omega)
    rw [qG]
    simp [e0,e1,e2,e3,e4,e5]
theorem aY2:∀ x:aA,aX x≤1048576→kV x x=some true
  | ⟨a0,a1,a2,a3,a4,a5,a6,a7⟩,hz=>by
    simp only [aX] at hz
    have e3:yQ a3 a3=some true:=bNn a3 (by omega)
    have e6:gH a6 a6=some true:=kR (E:=kV) (by omega) (by rw [gH]) (fun i=>by rw [oQ]) (H7 a6 (by omega))
    have e7:aB4 a7 a7=some true:=kR (E:=qG) (by omega) (by rw [aB4]) (fun i=>by rw [aA5]) (aWj a7 (by omega))
    rw [kV]
    simp [e3,e6,e7]
theorem aWj:∀ l:List aB,nI l≤1048576→∀ y ∈ l,qG y y=some true
  | [],_=>fun y hy=>by simp at hy
  | x::l,hz=>by
    simp only [nI] at hz
    intro y hy
    rcases List.mem_cons.1 hy with r | hy
    · rw [r]; exact aRd x (by omega)
    · exact aWj l (by omega) y hy
theorem H7:∀ l:List aA,iW l≤1048576→∀ y ∈ l,kV y y=some true
  | [],_=>fun y hy=>by simp at hy
  | x::l,hz=>by
    simp only [iW] at hz
    intro y hy
    rcases List.mem_cons.1 hy with r | hy
    · rw [r]; exact aY2 x (by omega)
    · exact H7 l (by omega) y hy
theorem aPl:∀ l:List aY,oC l≤1048576→∀ y ∈ l,rJ y y=some true
  | [],_=>fun y hy=>by simp at hy
  | x::l,hz=>by
    simp only [oC] at hz
    intro y hy
    rcases List.mem_cons.1 hy with r | hy
    · rw [r]; exact bNv x (by omega)
    · exact aPl l (by omega) y hy
theorem aNe:∀ l:List (List aA),lH l≤1048576→∀ y ∈ l,gH y y=some true
  | [],_=>fun y hy=>by simp at hy
  | x::l,hz=>by
    simp only [lH] at hz
    intro y hy
    rcases List.mem_cons.1 hy with r | hy
    · rw [r]; exact kR (E:=kV) (by omega) (by rw [gH]) (fun i=>by rw [oQ]) (H7 x (by omega))
    · exact aNe l (by omega) y hy
end
theorem aNx (p:(List aA)) (h:(okL okGPExpr) p):dW gJ (zL aX) p:=lV (F:=kX) h.1 (fun n=>by rw [gJ]) (fun i x=>by rw [pY]) (fun y hy=>aHz y (h.2 y hy))
theorem aT1 (p:(List aA)) (hz:(zL aX) p≤1048576):gL p=some p:=by
  have q:(zL aX) p=p.length+iW p:=by unfold zL; rw [qL]
  exact kW (by':=120) (W:=kZ) (by omega) (by omega) (by rw [gL]) (fun i b=>by rw [qF]) (I9 p (by omega))
theorem aOs (p:(List aA)) (hz:(zL aX) p≤1048576):gH p p=some true:=by
  have q:(zL aX) p=p.length+iW p:=by unfold zL; rw [qL]
  exact kR (E:=kV) (by omega) (by rw [gH]) (fun i=>by rw [oQ]) (H7 p (by omega))
theorem bY7 (p:(List (List aA))) (h:(okL (okL okGPExpr)) p):dW qB (zL (zL aX)) p:=lV (F:=gJ) h.1 (fun n=>by rw [qB]) (fun i x=>by rw [J2]) (fun y hy=>aNx y (h.2 y hy))
theorem bFn (p:(List (List aA))) (hz:(zL (zL aX)) p≤1048576):qW p=some p:=by
  have q:(zL (zL aX)) p=p.length+lH p:=by rw [aAu,zL]
  exact kW (by':=24) (W:=gL) (by omega) (by omega) (by rw [qW]) (fun i b=>by rw [I4]) (aLp p (by omega))
theorem bP1 (p:(List (List aA))) (hz:(zL (zL aX)) p≤1048576):oU p p=some true:=by
  have q:(zL (zL aX)) p=p.length+lH p:=by rw [aAu,zL]
  exact kR (E:=gH) (by omega) (by rw [oU]) (fun i=>by rw [yN]) (aNe p (by omega))
def jM:bM→Nat
  | ⟨a0,a1,a2,a3,a4,a5,a6⟩=>cZ a1+(zL (zL aX)) a3+(zL z0) a4+(zL aX) a5+(zL aX) a6
theorem bQ2:∀ x:bM,okGSPlan x→dW U5 jM x
  | ⟨a0,a1,a2,a3,a4,a5,a6⟩,h=>by
    simp only [okGSPlan] at h
    obtain ⟨o0,o1,o2,o3,o4,o5,o6⟩:=h
    intro n h0 h1
    have e1:dW oM cZ a1:=aZ4 a1 o1
    have e3:dW qB (zL (zL aX)) a3:=bY7 a3 o3
    have e4:dW vK (zL z0) a4:=aPy a4 o4
    have e5:dW gJ (zL aX) a5:=aNx a5 o5
    have e6:dW gJ (zL aX) a6:=aNx a6 o6
    have hz:((jM ⟨a0,a1,a2,a3,a4,a5,a6⟩:Nat):Int)=((cZ a1:Nat):Int)+(((zL (zL aX)) a3:Nat):Int)+(((zL z0) a4:Nat):Int)+(((zL aX) a5:Nat):Int)+(((zL aX) a6:Nat):Int):=by simp only [jM] <;> omega
    rw [hz,U5]
    dsimp only
    rw [e1 n (by omega) (by omega)]
    simp only [Option.bind_eq_bind,Option.bind_some]
    rcases (Decidable.em (((cZ a1:Nat):Int)≤n)).symm with r1 | r1
    · rw [if_neg r1,if_pos (by decide)]; first | done | rw [if_neg (by omega)]
    rw [if_pos r1,if_neg (by simp; omega)]
    rw [e3 (n - ((cZ a1:Nat):Int)) (by omega) (by omega)]
    simp only [Option.bind_eq_bind,Option.bind_some]
    rcases (Decidable.em ((((zL (zL aX)) a3:Nat):Int)≤(n - ((cZ a1:Nat):Int)))).symm with r3 | r3
    · rw [if_neg r3,if_pos (by decide)]; first | done | rw [if_neg (by omega)]
    rw [if_pos r3,if_neg (by simp; omega)]
    rw [e4 ((n - ((cZ a1:Nat):Int)) - (((zL (zL aX)) a3:Nat):Int)) (by omega) (by omega)]
    simp only [Option.bind_eq_bind,Option.bind_some]
    rcases (Decidable.em ((((zL z0) a4:Nat):Int)≤((n - ((cZ a1:Nat):Int)) - (((zL (zL aX)) a3:Nat):Int)))).symm with r4 | r4
    · rw [if_neg r4,if_pos (by decide)]; first | done | rw [if_neg (by omega)]
    rw [if_pos r4,if_neg (by simp; omega)]
    rw [e5 (((n - ((cZ a1:Nat):Int)) - (((zL (zL aX)) a3:Nat):Int)) - (((zL z0) a4:Nat):Int)) (by omega) (by omega)]
    simp only [Option.bind_eq_bind,Option.bind_some]
    rcases (Decidable.em ((((zL aX) a5:Nat):Int)≤(((n - ((cZ a1:Nat):Int)) - (((zL (zL aX)) a3:Nat):Int)) - (((zL z0) a4:Nat):Int)))).symm with r5 | r5
    · rw [if_neg r5,if_pos (by decide)]; first | done | rw [if_neg (by omega)]
    rw [if_pos r5,if_neg (by simp; omega)]
    rw [e6 ((((n - ((cZ a1:Nat):Int)) - (((zL (zL aX)) a3:Nat):Int)) - (((zL z0) a4:Nat):Int)) - (((zL aX) a5:Nat):Int)) (by omega) (by omega)]
    simp only [Option.bind_eq_bind,Option.bind_some]
    rcases (Decidable.em ((((zL aX) a6:Nat):Int)≤((((n - ((cZ a1:Nat):Int)) - (((zL (zL aX)) a3:Nat):Int)) - (((zL z0) a4:Nat):Int)) - (((zL aX) a5:Nat):Int)))).symm with r6 | r6
    · rw [if_neg r6,if_pos (by decide)]; first | done | rw [if_neg (by omega)]
    rw [if_pos r6,if_neg (by simp; omega)]
    first | done | (rw [if_pos (by omega)]; done) | (rw [if_pos (by omega)]; congr 1 <;> omega) | (congr 1 <;> omega)
theorem bKf:∀ x:bM,jM x≤1048576→xR x=some x
  | ⟨a0,a1,a2,a3,a4,a5,a6⟩,hz=>by
    simp only [jM] at hz
    have e1:qQ a1=some a1:=aX7 a1 (by omega)
    have e3:qW a3=some a3:=bFn a3 (by omega)
    have e4:tC a4=some a4:=aT6 a4 (by omega)
    have e5:gL a5=some a5:=aT1 a5 (by omega)
    have e6:gL a6=some a6:=aT1 a6 (by omega)
    rw [xR]
    simp only [e1,e3,e4,e5,e6,Option.bind_eq_bind,Option.bind_some]
theorem bEz:∀ x:bM,jM x≤1048576→aA3 x x=some true
  | ⟨a0,a1,a2,a3,a4,a5,a6⟩,hz=>by
    simp only [jM] at hz
    have e1:qG a1 a1=some true:=aRd a1 (by omega)
    have e3:oU a3 a3=some true:=bP1 a3 (by omega)
    have e4:sQ a4 a4=some true:=aUj a4 (by omega)
    have e5:gH a5 a5=some true:=aOs a5 (by omega)
    have e6:gH a6 a6=some true:=aOs a6 (by omega)
    rw [aA3]
    simp [e1,e3,e4,e5,e6]
theorem jP {α:Type} {z:α→Nat} {l:List α} {x:α} (h:x ∈ l):z x+l.length≤zL z l:=by
  have:=vU (z:=z) h
  unfold zL; omega
theorem aGn (x:aA):aX x=x.value.text.length+zL aX x.kids+zL cZ x.sub:=by
  obtain ⟨a0,a1,a2,⟨b0,b1,b2⟩,a4,a5,a6,a7⟩:=x
  simp only [aX,jD,qL,aJk,zL]
theorem wB (q:aB):cZ q=zL z0 q.tables+zL (zL aX) q.on_+zL aX q.where_+(q.order.length+(q.order.map fun k=>aX k.expr).sum)+zL aX q.items+zL List.length q.names:=by
  obtain ⟨a0,a1,a2,a3,a4,a5,a6,a7⟩:=q
  simp only [cZ,qL,aMx,aAu,zL]
  have:(a3.map gX)=a3.map fun k=>aX k.expr:=List.map_congr_left fun k _=>by obtain ⟨k0,k1⟩:=k; simp only [gX]
  rw [this]
theorem gU {α:Type} {z:α→Nat} (l:List α):l.length≤zL z l:=by unfold zL; omega
theorem aMr {x k:aA} (h:k ∈ x.kids):aX k+x.kids.length≤aX x:=by have:=aGn x; have:=jP (z:=aX) h; omega
theorem aNh {x:aA} {p:aB} (h:p ∈ x.sub):cZ p+x.sub.length≤aX x:=by have:=aGn x; have:=jP (z:=cZ) h; omega
theorem aTr (x:aA):x.kids.length+x.sub.length≤aX x:=by have:=aGn x; have:=gU (z:=aX) x.kids; have:=gU (z:=cZ) x.sub; omega
theorem onZ {q:aB} {l:List aA} {e:aA} (h:l ∈ q.on_) (he:e ∈ l):aX e+l.length+q.on_.length≤cZ q:=by have:=wB q; have:=jP (z:=zL aX) h; have:=jP (z:=aX) he; omega
theorem aS5 {q:aB} {e:aA} (h:e ∈ q.where_):aX e+q.where_.length≤cZ q:=by have:=wB q; have:=jP (z:=aX) h; omega
theorem aV9 {q:aB} {e:aA} (h:e ∈ q.items):aX e+q.items.length≤cZ q:=by have:=wB q; have:=jP (z:=aX) h; omega
theorem aXg {q:aB} {k:aY} (h:k ∈ q.order):aX k.expr+q.order.length≤cZ q:=by have:=wB q; have:=vU (z:=fun k:aY=>aX k.expr) h; omega
theorem aTl (q:aB):q.tables.length+q.on_.length+q.where_.length+q.order.length+q.items.length+q.names.length≤cZ q:=by
  have:=wB q; have:=gU (z:=z0) q.tables; have:=gU (z:=zL aX) q.on_; have:=gU (z:=aX) q.where_; have:=gU (z:=aX) q.items; have:=gU (z:=List.length) q.names; omega
theorem bS8 {α:Type} {b:Nat} {l m:List α} (h:(l.length+m.length) * b≤140737488355328):appG b l m=some (l++m):=by unfold appG; rw [if_pos h]
theorem gather {α β γ : Type} {p : List α} {f : α → List β} {G : α → List β → Option (List β)} {L : List β → Int → Option γ} {K : List β → Option γ} {c : Nat} (hp : p.length ≤ 4194304)
    (hG:∀ y ∈ p,∀ acc:List β,acc.length+(f y).length≤c→G y acc=some (acc++f y))
    (hL:∀ (i:Nat) acc,L acc (i:Int)=if (decide ((i:Int)<(p.length:Int)))=true then ((idx p (i:Int))>>=fun y=>(G y acc)>>=fun z=>L z (IntKind.wrap .i64 ((i:Int)+1))) else K acc) :
    ∀ acc:List β,acc.length+(p.flatMap f).length≤c→L acc 0=K (acc++p.flatMap f):=by
  have key:∀ i,i≤p.length→∀ acc:List β,acc.length+((p.drop i).flatMap f).length≤c→L acc (i:Nat)=K (acc++(p.drop i).flatMap f):=by
    refine fC ?_ ?_
    · intro acc _
      rw [hL]; simp
    · intro i hi ih acc ha
      rw [List.drop_eq_getElem_cons hi,List.flatMap_cons,List.length_append] at ha
      rw [hL,dU hi,eU hi (by omega)]
      simp only [eF,hi,decide_true,if_true,Option.bind_eq_bind,Option.bind_some,hG _ (List.getElem_mem hi) acc (by omega)]
      rw [ih _ (by rw [List.length_append]; omega),List.drop_eq_getElem_cons hi,List.flatMap_cons,List.append_assoc]
  intro acc ha
  simpa using key 0 (by omega) acc (by simpa using ha)
theorem folded {α β γ : Type} {p : List α} {g : α → β → Option β} {h : α → β → β} {L : β → Int → Option γ} {K : β → Option γ} (hp : p.length ≤ 1048576)
    (hg:∀ y ∈ p,∀ b,g y b=some (h y b))
    (hL:∀ (i:Nat) b,L b (i:Int)=if (decide ((i:Int)<(p.length:Int)))=true then ((idx p (i:Int))>>=fun y=>(g y b)>>=fun z=>L z (IntKind.wrap .i64 ((i:Int)+1))) else K b) :
    ∀ b,L b 0=K (p.foldl (fun b y=>h y b) b):=by
  have key:∀ i,i≤p.length→∀ b,L b (i:Nat)=K ((p.drop i).foldl (fun b y=>h y b) b):=by
    refine fC ?_ ?_
    · intro b; rw [hL]; simp
    · intro i hi ih b
      rw [hL,dU hi,eU hi (by omega)]
      simp only [eF,hi,decide_true,if_true,Option.bind_eq_bind,Option.bind_some,hg _ (List.getElem_mem hi)]
      rw [ih,List.drop_eq_getElem_cons hi,List.foldl_cons]
  intro b
  simpa using key 0 (by omega) b
theorem aCd (s:List UInt8):∃ b,iY s=some b∧kL s=some b:=by
  unfold kL iY dX
  exact ⟨_,rfl,rfl⟩
theorem bMd (s:List UInt8):∃ b,qJ s=some b:=by
  obtain ⟨b,h1,h2⟩:=aCd s
  unfold qJ
  by_cases h:s=[]
  · exact ⟨true,by simp [h]⟩
  · exact ⟨b,by simp [h,h1]⟩
theorem aUb (x:dC):U4 x=vE x∧∃ b,vE x=some b:=by
  unfold U4 vE dX
  simp only [Option.bind_eq_bind,Option.bind_some]
  by_cases h0:x.kind=0
  · simp [h0]
  by_cases h1:x.kind=1
  · simp [h1]
  by_cases h2:x.kind=2
  · simp [h2]
  by_cases h3:x.kind=3
  · by_cases n0:x.num=0
    · simp [h3,n0]
    by_cases n1:x.num=1
    · simp [h3,n1]
    have e:(if decide (0≤x.num)=true then decide (x.num≤1) else false)=false:=by
      by_cases p:0≤x.num
      · simp [p]; omega
      · simp [p]
    rw [e]
    simp [h3,n0,n1]
  · simp [h0,h1,h2,h3]
theorem aVp (x:dC):∃ b,sI x=some b∧yE x=some b:=by
  obtain ⟨h1,b,h2⟩:=aUb x
  unfold sI yE
  rw [h1,h2]
  cases b <;> simp
theorem orB (b c:Bool):(if b=true then true else c)=(b||c):=by cases b <;> rfl
theorem aLf (b c:Bool):(if b=true then c else false)=(b&&c):=by cases b <;> rfl
def zvE (x:cO):Bool:=((decide (x.value.kind=0))&&((decide (x.value.num=0))&&((decide (x.value.text=[]))&&true)))
theorem bSl (x : cO) : wG x = (if ((!decide (x.kind = 2) && (!decide (x.qual = []) || !decide (x.name = []))) || (!decide (x.kind = 1) && !zvE x)) = true then some false else
    if ((!decide (x.kind=3)&&!decide (x.kind=4))&&!decide (x.op=0)||(x.not_&&!(decide (5≤x.kind)&&decide (x.kind≤8))))=true then some false else
    (if (decide (x.kind=1))=true then ((sI x.value)>>=fun (y10:Bool)=>some (y10&&decide ((IntKind.wrap .i64 ((x.kids.length:Int)+(x.sub.length:Int)))=0)))
     else if (decide (x.kind=2))=true then ((iY x.name)>>=fun (y12:Bool)=>(if y12=true then qJ x.qual else some false)>>=fun (y14:Bool)=>some (y14&&decide ((IntKind.wrap .i64 ((x.kids.length:Int)+(x.sub.length:Int)))=0)))
     else some (if x.kind=3 then (decide (x.op=15)||decide (x.op=16))&&decide ((x.kids.length:Int)=1)&&decide ((x.sub.length:Int)=0)
      else if x.kind=4 then (decide (1≤x.op)&&decide (x.op≤14))&&decide ((x.kids.length:Int)=2)&&decide ((x.sub.length:Int)=0)
      else if x.kind=5 then decide ((x.kids.length:Int)=1)&&decide ((x.sub.length:Int)=0)
      else if x.kind=6 then decide ((x.kids.length:Int)=3)&&decide ((x.sub.length:Int)=0)
      else if x.kind=7 then (decide (2≤(x.kids.length:Int))&&decide ((x.kids.length:Int)≤9))&&decide ((x.sub.length:Int)=0)
      else if x.kind=8 then decide ((x.kids.length:Int)=1)&&decide ((x.sub.length:Int)=1)
      else if x.kind=9 then decide ((x.kids.length:Int)=0)&&decide ((x.sub.length:Int)=1)
      else false))):=by
  unfold wG dX
  simp only [Option.bind_eq_bind]
  simp only [Option.bind_some]
  simp only [aLf,orB]
  obtain ⟨k,o,no,v,q,nm,ks,sb⟩:=x
  obtain ⟨bl,l1,l2⟩:=aVp v
  obtain ⟨bn,n1,n2⟩:=aCd nm
  obtain ⟨bq,q1⟩:=bMd q
  have hz:zvE ⟨k,o,no,v,q,nm,ks,sb⟩=((decide (v.kind=0))&&((decide (v.num=0))&&((decide (v.text=[]))&&true))):=rfl
  simp only [l1,n1,q1,hz,Option.bind_some]
  generalize ((decide (v.kind=0))&&((decide (v.num=0))&&((decide (v.text=[]))&&true)))=zv
  generalize decide (q=[])=q0
  generalize decide (nm=[])=n0
  by_cases k1:k=1
  · subst k1; cases q0 <;> cases n0 <;> cases no <;> by_cases o0:o=0 <;> cases bl <;> simp [o0]
  by_cases k2:k=2
  · subst k2; cases zv <;> cases no <;> by_cases o0:o=0 <;> cases bn <;> simp [o0]
  by_cases k3:k=3
  · subst k3; cases q0 <;> cases n0 <;> cases zv <;> cases no <;> simp
  by_cases k4:k=4
  · subst k4; cases q0 <;> cases n0 <;> cases zv <;> cases no <;> simp
  have kk:¬ (k=3∨k=4):=by omega
  by_cases k5:k=5
  · subst k5; cases q0 <;> cases n0 <;> cases zv <;> cases no <;> by_cases o0:o=0 <;> simp [o0]
  by_cases k6:k=6
  · subst k6; cases q0 <;> cases n0 <;> cases zv <;> cases no <;> by_cases o0:o=0 <;> simp [o0]
  by_cases k7:k=7
  · subst k7; cases q0 <;> cases n0 <;> cases zv <;> cases no <;> by_cases o0:o=0 <;> simp [o0]
  by_cases k8:k=8
  · subst k8; cases q0 <;> cases n0 <;> cases zv <;> cases no <;> by_cases o0:o=0 <;> simp [o0]
  by_cases k9:k=9
  · subst k9; cases q0 <;> cases n0 <;> cases zv <;> cases no <;> by_cases o0:o=0 <;> simp [o0]
  have kr:(decide (5≤k)&&decide (k≤8))=false:=by
    by_cases h:5≤k
    · have:¬ k≤8:=by omega
      simp [this]
    · simp [h]
  cases q0 <;> cases n0 <;> cases zv <;> cases no <;> by_cases o0:o=0 <;> simp [o0,k1,k2,k3,k4,k5,k6,k7,k8,k9]
theorem bRl (x : cO) (bl bc : Bool) (h1 : yE x.value = some bl) (h2 : (iY x.name >>= fun (y12 : Bool) => (if y12 = true then qJ x.qual else some false)) = some bc) : xK x = some (
    if x.kind=1 then (⟨false,false,true,false,0,0,0⟩,bl)
    else if x.kind=2 then (⟨false,false,false,true,0,0,0⟩,bc)
    else if x.kind=3 then (⟨true,false,false,false,1,1,0⟩,decide (x.op=15)||decide (x.op=16))
    else if x.kind=4 then (⟨true,false,false,false,2,2,0⟩,decide (1≤x.op)&&decide (x.op≤14))
    else if x.kind=5 then (⟨false,true,false,false,1,1,0⟩,true)
    else if x.kind=6 then (⟨false,true,false,false,3,3,0⟩,true)
    else if x.kind=7 then (⟨false,true,false,false,2,9,0⟩,true)
    else if x.kind=8 then (⟨false,true,false,false,1,1,1⟩,true)
    else if x.kind=9 then (⟨false,false,false,false,0,0,1⟩,true)
    else (⟨false,false,false,false,0,0,0⟩,false)):=by
  obtain ⟨k,o,no,v,q,nm,ks,sb⟩:=x
  obtain ⟨bn,n1,n2⟩:=aCd nm
  obtain ⟨bo,o1,o2⟩:=aCd q
  unfold xK
  dsimp only at h1 h2 ⊢
  have h3:((if ((true&&(bn==true))&&((decide (q=[]))==false))=true then kL q else some default).bind fun (y3:Bool)=>(if (true&&(bn==true))=true then some (if (decide (q=[]))=true then true else y3) else some default).bind fun (y4:Bool)=>(some (if bn=true then y4 else false)).bind fun y5=>some ((fV.mk false false false true 0 0 0),y5))=some ((fV.mk false false false true 0 0 0),bc):=by
    unfold qJ at h2
    rw [n1,o1] at h2
    rw [o2]
    cases bn
    · simp at h2; simp [h2]
    · by_cases q0:q=[]
      · simp [q0] at h2; simp [q0,h2]
      · simp [q0] at h2; simp [q0,h2]
  simp only [h1,n2,Option.bind_eq_bind,Option.bind_some]
  by_cases k1:k=1
  · simp [k1]
  by_cases k2:k=2
  · subst k2; simp only [Option.bind_some] at h3; simpa using h3
  by_cases k3:k=3
  · simp [k3]
  by_cases k4:k=4
  · simp [k4]
  by_cases k5:k=5
  · simp [k5]
  by_cases k6:k=6
  · simp [k6]
  by_cases k7:k=7
  · simp [k7]
  by_cases k8:k=8
  · simp [k8]
  by_cases k9:k=9
  · simp [k9]
  simp [k1,k2,k3,k4,k5,k6,k7,k8,k9]
theorem aNk:xP=pK:=by
  funext p q
  unfold xP pK Z4 oG dX
  rfl
def okT (p:Int):Prop:=0≤p∧p≤3
theorem aD2 {p:Int} (h:okT p):oG p=some true:=by
  unfold oG dX
  have h1:=h.1
  have h2:=h.2
  simp [h1,h2]
theorem aIc {p q:Int} (hp:okT p) (hq:okT q):∃ r,pK p q=some r∧okT r.1:=by
  unfold pK
  rw [aD2 hp,aD2 hq]
  simp only [Bool.not_true,beq_self_eq_true,Bool.and_self,if_true,Bool.false_eq_true,if_false,Option.bind_eq_bind,Option.bind_some]
  have h0:okT 0:=⟨by omega,by omega⟩
  by_cases p0:p=0
  · exact ⟨(q,true),by simp [p0],hq⟩
  · by_cases q0:q=0∨p=q
    · refine ⟨(p,true),?_,hp⟩
      rcases q0 with h | h <;> simp [p0,h]
    · have a1:¬ q=0:=fun h=>q0 (.inl h)
      have a2:¬ p=q:=fun h=>q0 (.inr h)
      exact ⟨(0,false),by simp [p0,a1,a2],h0⟩
theorem aHf:vR=vG:=rfl
theorem aCt (p:Int):∃ b,vG p=some b:=⟨_,rfl⟩
theorem aVl (p q:Int):xQ p q=some (decide (p=0)||decide (p=q)):=by
  unfold xQ
  by_cases h:p=0 <;> simp [h]
theorem aRp (a p q:Int):yC a p q=some ((decide (p=0)||decide (p=a))&&(decide (q=0)||decide (q=a))):=by
  unfold yC
  by_cases h1:p=a <;> by_cases h2:p=0 <;> by_cases h3:q=a <;> by_cases h4:q=0 <;> simp [h1,h2,h3,h4]
theorem bHz (o p q:Int) (hp:okT p) (hq:okT q):∃ r,O8 o p q=some r∧O0 o p q=some r∧okT r.1:=by
  have h0:okT 0:=⟨by omega,by omega⟩
  have h3:okT 3:=⟨by omega,by omega⟩
  have h2:okT 2:=⟨by omega,by omega⟩
  have h1:okT 1:=⟨by omega,by omega⟩
  obtain ⟨m,m1,m2⟩:=aIc hp hq
  obtain ⟨t1,e1⟩:=aCt p
  obtain ⟨t2,e2⟩:=aCt q
  unfold O8 O0 uF aA6 kJ dX
  simp only [aNk,aHf,m1,e1,e2,aD2 hp,aD2 hq,aVl,aRp,Option.bind_eq_bind,Option.bind_some]
  by_cases a:1≤o
  · by_cases b:o≤14
    · have c1:¬ o<1:=by omega
      have c2:¬ 14<o:=by omega
      by_cases d:o≤2
      · cases t1 <;> cases t2
        · exact ⟨(0,false),by simp [c1,c2,d],by simp [a,b,d],h0⟩
        · exact ⟨(0,false),by simp [c1,c2,d],by simp [a,b,d],h0⟩
        · exact ⟨(0,false),by simp [c1,c2,d],by simp [a,b,d],h0⟩
        · exact ⟨(3,true),by simp [c1,c2,d],by simp [a,b,d],h3⟩
      by_cases d2:o≤8
      · cases hm:m.2
        · exact ⟨(0,false),by simp [c1,c2,d,d2,hm],by simp [a,b,d,d2,hm],h0⟩
        · exact ⟨(3,true),by simp [c1,c2,d,d2,hm],by simp [a,b,d,d2,hm],h3⟩
      by_cases d3:o=9
      · subst d3
        generalize (decide (p=0)||decide (p=2))=b1
        generalize (decide (q=0)||decide (q=2))=b2
        cases b1 <;> cases b2
        · exact ⟨(0,false),by simp,by simp,h0⟩
        · exact ⟨(0,false),by simp,by simp,h0⟩
        · exact ⟨(0,false),by simp,by simp,h0⟩
        · exact ⟨(2,true),by simp,by simp,h2⟩
      · generalize (decide (p=0)||decide (p=1))=b1
        generalize (decide (q=0)||decide (q=1))=b2
        cases b1 <;> cases b2
        · exact ⟨(0,false),by simp [c1,c2,d,d2,d3],by simp [a,b,d,d2,d3],h0⟩
        · exact ⟨(0,false),by simp [c1,c2,d,d2,d3],by simp [a,b,d,d2,d3],h0⟩
        · exact ⟨(0,false),by simp [c1,c2,d,d2,d3],by simp [a,b,d,d2,d3],h0⟩
        · exact ⟨(1,true),by simp [c1,c2,d,d2,d3],by simp [a,b,d,d2,d3],h1⟩
    · have c2:14<o:=by omega
      exact ⟨(0,false),by simp [c2],by simp [b],h0⟩
  · have c1:o<1:=by omega
    exact ⟨(0,false),by simp [c1],by simp [a],h0⟩
theorem bLe (o p:Int):∃ r,Y9 o p=some r∧U3 o p=some r∧okT r.1:=by
  have h0:okT 0:=⟨by omega,by omega⟩
  have h3:okT 3:=⟨by omega,by omega⟩
  have h1:okT 1:=⟨by omega,by omega⟩
  obtain ⟨t1,e1⟩:=aCt p
  unfold Y9 U3 kJ
  simp only [aHf,e1,aVl,aRp,Option.bind_eq_bind,Option.bind_some]
  by_cases a:o=15
  · subst a
    cases t1
    · exact ⟨(0,false),by simp,by simp,h0⟩
    · exact ⟨(3,true),by simp,by simp,h3⟩
  by_cases b:o=16
  · subst b
    generalize (decide (p=0)||decide (p=1))=b1
    cases b1
    · exact ⟨(0,false),by simp,by simp,h0⟩
    · exact ⟨(1,true),by simp,by simp,h1⟩
  · exact ⟨(0,false),by simp [a,b],by simp [a,b],h0⟩
theorem bUs (l:List Int) (hl:l.length≤1048576) (h:∀ p ∈ l,okT p):∃ r,aA4 l=some r∧tH l=some r.2:=by
  have key:∀ i,i≤l.length→∀ x,okT x→∃ r,rH l x (i:Nat)=some r∧oH l x (i:Nat)=some r.2:=by
    refine fC ?_ ?_
    · intro x hx
      rw [rH,oH]
      exact ⟨(x,true),by simp,by simp⟩
    · intro i hi ih x hx
      rw [rH,oH]
      obtain ⟨m,m1,m2⟩:=aIc hx (h _ (List.getElem_mem hi))
      simp only [eF,hi,decide_true,if_true,dU hi,eU hi (by omega),aNk,m1,Option.bind_eq_bind,Option.bind_some]
      cases hm:m.2
      · exact ⟨(0,false),by simp,by simp⟩
      · simpa using ih m.1 m2
  unfold aA4 tH
  exact key 0 (by omega) 0 ⟨by omega,by omega⟩
theorem bRy {v:dC} (h:sI v=some true):okT v.kind:=by
  unfold sI at h
  have hv:vE v=some true:=by
    obtain ⟨_,b,e2⟩:=aUb v
    rw [e2] at h ⊢
    cases b with
    | true=>rfl
    | false=>simp at h
  unfold vE at hv
  unfold okT
  by_cases k0:v.kind=0
  · omega
  by_cases k1:v.kind=1
  · omega
  by_cases k2:v.kind=2
  · omega
  by_cases k3:v.kind=3
  · omega
  simp [k0,k1,k2,k3] at hv
def aU9 (p:aA):Prop:=(p.kind=1∧p.kids.length=0∧p.sub.length=0∧okT p.value.kind)∨(p.kind=2∧p.kids.length=0∧p.sub.length=0)∨(p.kind=3∧p.kids.length=1∧p.sub.length=0)∨(p.kind=4∧p.kids.length=2∧p.sub.length=0) ∨
  (p.kind=5∧p.kids.length=1∧p.sub.length=0)∨(p.kind=6∧p.kids.length=3∧p.sub.length=0)∨(p.kind=7∧(2≤p.kids.length∧p.kids.length≤9)∧p.sub.length=0)∨(p.kind=8∧p.kids.length=1∧p.sub.length=1)∨(p.kind=9∧p.kids.length=0∧p.sub.length=1)
theorem aQg {β:Type} {b:Bool} {m:Option Bool} {K:Bool→Option β}:((if (true&&(b==true))=true then m else some (default:Bool)).bind fun y=>(some (if b=true then y else false)).bind K)=((if b=true then m else some false).bind K):=by cases b <;> cases m <;> rfl
theorem aRq (b c:Bool):(if b=true then some c else some false)=some (b&&c):=by cases b <;> rfl
theorem bXu {β:Type} {b n u:Bool} {K:Bool→Option β}:((if ((true&&(b==true))&&(n==false))=true then some u else some (default:Bool)).bind fun y8=>(if (true&&(b==true))=true then some (if n=true then true else y8) else some (default:Bool)).bind fun y9=>(some (if b=true then y9 else false)).bind K)=K (b&&(n||u)):=by cases b <;> cases n <;> rfl
theorem or3 {β:Type} {b n u:Bool} {K:Bool→Option β}:((if ((true&&(b==true))&&(n==false))=true then some u else some (default:Bool)).bind fun y8=>K (b&&(n||y8)))=K (b&&(n||u)):=by cases b <;> cases n <;> rfl
theorem bQ3 (p:aA) (f:fV) (ok:Bool) (h:xK (cO.mk p.kind p.op false p.value [] [120] [] [])=some (f,ok)):D7 p=some (ok&&(f.op||decide (p.op=0))&&(f.not_||!p.not_)&&(f.value||((decide (p.value.kind=0))&&((decide (p.value.num=0))&&((decide (p.value.text=[]))&&true))))&&(f.name||(decide (p.up=0)&&decide (p.at_=0)))&&decide (f.least≤(p.kids.length:Int))&&decide ((p.kids.length:Int)≤f.most)&&decide ((p.sub.length:Int)=f.subs)):=by
  rw [D7,h]
  simp only [Option.bind_eq_bind]
  rw [show ∀ K:fV×Bool→Option Bool,(some (f,ok)).bind K=K (f,ok) from fun _=>rfl]
  simp only [aQg,bXu]
  simp only [aRq,Option.bind_some,aLf,orB]
  exact or3 (K:=fun z=>some (z&&decide (f.least≤(p.kids.length:Int))&&decide ((p.kids.length:Int)≤f.most)&&decide ((p.sub.length:Int)=f.subs)))
theorem bOp (p:aA) (hk:p.kids.length≤1048576) (hs:p.sub.length≤1048576):∃ b,zQ p=some b∧D7 p=some b∧(b=true→aU9 p):=by
  obtain ⟨bl,l1,l2⟩:=aVp p.value
  have hlk:bl=true→okT p.value.kind:=fun h=>bRy (by rw [l1,h])
  have e1:mkG 136 (p.kids.length:Int) (cO.mk 0 0 false (dC.mk 0 0 []) [] [] [] [])=some (List.replicate p.kids.length (cO.mk 0 0 false (dC.mk 0 0 []) [] [] [] [])):=aHr (by omega)
  have e2:mkG 112 (p.sub.length:Int) (eY.mk false [] [] [] [] 0)=some (List.replicate p.sub.length (eY.mk false [] [] [] [] 0)):=aHr (by omega)
  have hw:IntKind.wrap .i64 ((p.kids.length:Int)+(p.sub.length:Int))=(p.kids.length:Int)+(p.sub.length:Int):=gG (by omega) (by omega)
  have hF:=bRl (cO.mk p.kind p.op false p.value [] [120] [] []) bl true l2 rfl
  obtain ⟨⟨f,ok⟩,hfo⟩:∃ r,xK (cO.mk p.kind p.op false p.value [] [120] [] [])=some r:=⟨_,hF⟩
  rw [bQ3 p f ok hfo]
  rw [hfo] at hF
  have n97:iY [97]=some true:=rfl
  have m0:qJ []=some true:=rfl
  have hS:zQ p=if (!decide (p.kind=2)&&(!decide (p.up=0)||!decide (p.at_=0)))=true then some false else (if decide (p.kind=2)=true then wG (cO.mk p.kind p.op p.not_ p.value [] [97] (List.replicate p.kids.length (cO.mk 0 0 false (dC.mk 0 0 []) [] [] [] [])) (List.replicate p.sub.length (eY.mk false [] [] [] [] 0))) else wG (cO.mk p.kind p.op p.not_ p.value [] [] (List.replicate p.kids.length (cO.mk 0 0 false (dC.mk 0 0 []) [] [] [] [])) (List.replicate p.sub.length (eY.mk false [] [] [] [] 0)))):=by
    unfold zQ V3
    simp only [Option.bind_eq_bind]
    simp only [aQg]
    simp only [e1,e2,aRq,Option.bind_some,Option.bind_fun_some,aLf,orB]
  rw [hS]
  unfold aU9
  simp only [bSl,zvE,List.length_replicate,hw,l1,n97,m0]
  obtain ⟨k,o,no,v,up,at_,ks,sb⟩:=p
  dsimp only at hk hs hF hlk ⊢
  generalize ((decide (v.kind=0))&&((decide (v.num=0))&&((decide (v.text=[]))&&true)))=zv
  have fin:∀ (a b:Bool) (P:Prop),a=b→(b=true→P)→∃ c,(some a:Option Bool)=some c∧(some b:Option Bool)=some c∧(c=true→P):=by
    rintro a b P rfl h; exact ⟨a,rfl,rfl,h⟩
  have hif:∀ (a b:Bool) (X:Bool),(if a=true then some false else if b=true then some false else some X)=some (!a&&(!b&&X)):=by intro a b X; cases a <;> cases b <;> rfl
  have hif1:∀ (a:Bool) (X:Bool),(if a=true then some false else some X)=some (!a&&X):=by intro a X; cases a <;> rfl
  clear hS hfo e1 e2 hw l1 l2 n97 m0
  have eN:∀ n:Int,(decide (n≤(ks.length:Int))&&decide ((ks.length:Int)≤n))=decide ((ks.length:Int)=n):=fun n=>by rw [Bool.eq_iff_iff]; simp only [Bool.and_eq_true,decide_eq_true_eq]; omega
  have e0:decide ((ks.length:Int)+(sb.length:Int)=0)=(decide ((ks.length:Int)=0)&&decide ((sb.length:Int)=0)):=by rw [Bool.eq_iff_iff]; simp only [Bool.and_eq_true,decide_eq_true_eq]; omega
  by_cases k1:k=1
  · subst k1
    simp only [Int.reduceEq,if_true,if_false,Option.some.injEq,Prod.mk.injEq] at hF
    obtain ⟨rfl,rfl⟩:=hF
    simp only [Int.reduceEq,Int.reduceLE,if_true,if_false,decide_true,decide_false,Bool.not_true,Bool.not_false,Bool.true_and,Bool.false_and,Bool.and_true,Bool.and_false,Bool.false_or,Bool.or_false,Bool.true_or,Bool.or_true,Bool.false_eq_true,Option.bind_eq_bind,Option.bind_some,hif,hif1]
    refine fin _ _ _ ?_ fun h=>?_
    · simp only [e0,Bool.and_assoc]
      try simp only [← Bool.and_assoc (decide (_≤(ks.length:Int))),eN]
      generalize decide ((ks.length:Int)=0)=c0
      generalize decide ((ks.length:Int)=1)=c1
      generalize decide ((ks.length:Int)=2)=c2
      generalize decide ((ks.length:Int)=3)=c3
      generalize decide (2≤(ks.length:Int))=c4
      generalize decide ((ks.length:Int)≤9)=c5
      generalize decide ((sb.length:Int)=0)=d0
      generalize decide ((sb.length:Int)=1)=d1
      generalize decide (up=0)=u0
      generalize decide (at_=0)=a0
      generalize decide (o=0)=o0
      generalize decide (o=15)=o5
      generalize decide (o=16)=o6
      generalize decide (1≤o)=o7
      generalize decide (o≤14)=o8
      cases ok <;> cases no <;> cases u0 <;> cases a0 <;> cases o0 <;> cases c0 <;> cases d0 <;> rfl
    · simp only [Bool.and_eq_true,decide_eq_true_eq] at h
      exact .inl ⟨trivial,by omega,by omega,hlk h.1.1.1.1.1.1⟩
  by_cases k2:k=2
  · subst k2
    simp only [Int.reduceEq,if_true,if_false,Option.some.injEq,Prod.mk.injEq] at hF
    obtain ⟨rfl,rfl⟩:=hF
    simp only [Int.reduceEq,Int.reduceLE,if_true,if_false,decide_true,decide_false,Bool.not_true,Bool.not_false,Bool.true_and,Bool.false_and,Bool.and_true,Bool.and_false,Bool.false_or,Bool.or_false,Bool.true_or,Bool.or_true,Bool.false_eq_true,Option.bind_eq_bind,Option.bind_some,hif,hif1]
    refine fin _ _ _ ?_ fun h=>?_
    · simp only [e0,Bool.and_assoc]
      try simp only [← Bool.and_assoc (decide (_≤(ks.length:Int))),eN]
      generalize decide ((ks.length:Int)=0)=c0
      generalize decide ((ks.length:Int)=1)=c1
      generalize decide ((ks.length:Int)=2)=c2
      generalize decide ((ks.length:Int)=3)=c3
      generalize decide (2≤(ks.length:Int))=c4
      generalize decide ((ks.length:Int)≤9)=c5
      generalize decide ((sb.length:Int)=0)=d0
      generalize decide ((sb.length:Int)=1)=d1
      generalize decide (up=0)=u0
      generalize decide (at_=0)=a0
      generalize decide (o=0)=o0
      generalize decide (o=15)=o5
      generalize decide (o=16)=o6
      generalize decide (1≤o)=o7
      generalize decide (o≤14)=o8
      cases no <;> cases zv <;> cases o0 <;> cases c0 <;> cases d0 <;> rfl
    · simp only [Bool.and_eq_true,decide_eq_true_eq] at h
      simp only [Int.reduceEq,false_and,false_or,true_and,or_false]
      omega
  by_cases k3:k=3
  · subst k3
    simp only [Int.reduceEq,if_true,if_false,Option.some.injEq,Prod.mk.injEq] at hF
    obtain ⟨rfl,rfl⟩:=hF
    simp only [Int.reduceEq,Int.reduceLE,if_true,if_false,decide_true,decide_false,Bool.not_true,Bool.not_false,Bool.true_and,Bool.false_and,Bool.and_true,Bool.and_false,Bool.false_or,Bool.or_false,Bool.true_or,Bool.or_true,Bool.false_eq_true,Option.bind_eq_bind,Option.bind_some,hif,hif1]
    refine fin _ _ _ ?_ fun h=>?_
    · simp only [e0,Bool.and_assoc]
      try simp only [← Bool.and_assoc (decide (_≤(ks.length:Int))),eN]
      generalize decide ((ks.length:Int)=0)=c0
      generalize decide ((ks.length:Int)=1)=c1
      generalize decide ((ks.length:Int)=2)=c2
      generalize decide ((ks.length:Int)=3)=c3
      generalize decide (2≤(ks.length:Int))=c4
      generalize decide ((ks.length:Int)≤9)=c5
      generalize decide ((sb.length:Int)=0)=d0
      generalize decide ((sb.length:Int)=1)=d1
      generalize decide (up=0)=u0
      generalize decide (at_=0)=a0
      generalize decide (o=0)=o0
      generalize decide (o=15)=o5
      generalize decide (o=16)=o6
      generalize decide (1≤o)=o7
      generalize decide (o≤14)=o8
      cases no <;> cases zv <;> cases u0 <;> cases a0 <;> cases o5 <;> cases o6 <;> cases c1 <;> cases d0 <;> rfl
    · simp only [Bool.and_eq_true,decide_eq_true_eq] at h
      simp only [Int.reduceEq,false_and,false_or,true_and,or_false]
      omega
  by_cases k4:k=4
  · subst k4
    simp only [Int.reduceEq,if_true,if_false,Option.some.injEq,Prod.mk.injEq] at hF
    obtain ⟨rfl,rfl⟩:=hF
    simp only [Int.reduceEq,Int.reduceLE,if_true,if_false,decide_true,decide_false,Bool.not_true,Bool.not_false,Bool.true_and,Bool.false_and,Bool.and_true,Bool.and_false,Bool.false_or,Bool.or_false,Bool.true_or,Bool.or_true,Bool.false_eq_true,Option.bind_eq_bind,Option.bind_some,hif,hif1]
    refine fin _ _ _ ?_ fun h=>?_
    · simp only [e0,Bool.and_assoc]
      try simp only [← Bool.and_assoc (decide (_≤(ks.length:Int))),eN]
      generalize decide ((ks.length:Int)=0)=c0
      generalize decide ((ks.length:Int)=1)=c1
      generalize decide ((ks.length:Int)=2)=c2
      generalize decide ((ks.length:Int)=3)=c3
      generalize decide (2≤(ks.length:Int))=c4
      generalize decide ((ks.length:Int)≤9)=c5
      generalize decide ((sb.length:Int)=0)=d0
      generalize decide ((sb.length:Int)=1)=d1
      generalize decide (up=0)=u0
      generalize decide (at_=0)=a0
      generalize decide (o=0)=o0
      generalize decide (o=15)=o5
      generalize decide (o=16)=o6
      generalize decide (1≤o)=o7
      generalize decide (o≤14)=o8
      cases no <;> cases zv <;> cases u0 <;> cases a0 <;> cases o7 <;> cases o8 <;> cases c2 <;> cases d0 <;> rfl
    · simp only [Bool.and_eq_true,decide_eq_true_eq] at h
      simp only [Int.reduceEq,false_and,false_or,true_and,or_false]
      omega
  by_cases k5:k=5
  · subst k5
    simp only [Int.reduceEq,if_true,if_false,Option.some.injEq,Prod.mk.injEq] at hF
    obtain ⟨rfl,rfl⟩:=hF
    simp only [Int.reduceEq,Int.reduceLE,if_true,if_false,decide_true,decide_false,Bool.not_true,Bool.not_false,Bool.true_and,Bool.false_and,Bool.and_true,Bool.and_false,Bool.false_or,Bool.or_false,Bool.true_or,Bool.or_true,Bool.false_eq_true,Option.bind_eq_bind,Option.bind_some,hif,hif1]
    refine fin _ _ _ ?_ fun h=>?_
    · simp only [e0,Bool.and_assoc]
      try simp only [← Bool.and_assoc (decide (_≤(ks.length:Int))),eN]
      generalize decide ((ks.length:Int)=0)=c0
      generalize decide ((ks.length:Int)=1)=c1
      generalize decide ((ks.length:Int)=2)=c2
      generalize decide ((ks.length:Int)=3)=c3
      generalize decide (2≤(ks.length:Int))=c4
      generalize decide ((ks.length:Int)≤9)=c5
      generalize decide ((sb.length:Int)=0)=d0
      generalize decide ((sb.length:Int)=1)=d1
      generalize decide (up=0)=u0
      generalize decide (at_=0)=a0
      generalize decide (o=0)=o0
      generalize decide (o=15)=o5
      generalize decide (o=16)=o6
      generalize decide (1≤o)=o7
      generalize decide (o≤14)=o8
      cases zv <;> cases u0 <;> cases a0 <;> cases o0 <;> cases c1 <;> cases d0 <;> rfl
    · simp only [Bool.and_eq_true,decide_eq_true_eq] at h
      simp only [Int.reduceEq,false_and,false_or,true_and,or_false]
      omega
  by_cases k6:k=6
  · subst k6
    simp only [Int.reduceEq,if_true,if_false,Option.some.injEq,Prod.mk.injEq] at hF
    obtain ⟨rfl,rfl⟩:=hF
    simp only [Int.reduceEq,Int.reduceLE,if_true,if_false,decide_true,decide_false,Bool.not_true,Bool.not_false,Bool.true_and,Bool.false_and,Bool.and_true,Bool.and_false,Bool.false_or,Bool.or_false,Bool.true_or,Bool.or_true,Bool.false_eq_true,Option.bind_eq_bind,Option.bind_some,hif,hif1]
    refine fin _ _ _ ?_ fun h=>?_
    · simp only [e0,Bool.and_assoc]
      try simp only [← Bool.and_assoc (decide (_≤(ks.length:Int))),eN]
      generalize decide ((ks.length:Int)=0)=c0
      generalize decide ((ks.length:Int)=1)=c1
      generalize decide ((ks.length:Int)=2)=c2
      generalize decide ((ks.length:Int)=3)=c3
      generalize decide (2≤(ks.length:Int))=c4
      generalize decide ((ks.length:Int)≤9)=c5
      generalize decide ((sb.length:Int)=0)=d0
      generalize decide ((sb.length:Int)=1)=d1
      generalize decide (up=0)=u0
      generalize decide (at_=0)=a0
      generalize decide (o=0)=o0
      generalize decide (o=15)=o5
      generalize decide (o=16)=o6
      generalize decide (1≤o)=o7
      generalize decide (o≤14)=o8
      cases zv <;> cases u0 <;> cases a0 <;> cases o0 <;> cases c3 <;> cases d0 <;> rfl
    · simp only [Bool.and_eq_true,decide_eq_true_eq] at h
      simp only [Int.reduceEq,false_and,false_or,true_and,or_false]
      omega
  by_cases k7:k=7
  · subst k7
    simp only [Int.reduceEq,if_true,if_false,Option.some.injEq,Prod.mk.injEq] at hF
    obtain ⟨rfl,rfl⟩:=hF
    simp only [Int.reduceEq,Int.reduceLE,if_true,if_false,decide_true,decide_false,Bool.not_true,Bool.not_false,Bool.true_and,Bool.false_and,Bool.and_true,Bool.and_false,Bool.false_or,Bool.or_false,Bool.true_or,Bool.or_true,Bool.false_eq_true,Option.bind_eq_bind,Option.bind_some,hif,hif1]
    refine fin _ _ _ ?_ fun h=>?_
    · simp only [e0,Bool.and_assoc]
      try simp only [← Bool.and_assoc (decide (_≤(ks.length:Int))),eN]
      generalize decide ((ks.length:Int)=0)=c0
      generalize decide ((ks.length:Int)=1)=c1
      generalize decide ((ks.length:Int)=2)=c2
      generalize decide ((ks.length:Int)=3)=c3
      generalize decide (2≤(ks.length:Int))=c4
      generalize decide ((ks.length:Int)≤9)=c5
      generalize decide ((sb.length:Int)=0)=d0
      generalize decide ((sb.length:Int)=1)=d1
      generalize decide (up=0)=u0
      generalize decide (at_=0)=a0
      generalize decide (o=0)=o0
      generalize decide (o=15)=o5
      generalize decide (o=16)=o6
      generalize decide (1≤o)=o7
      generalize decide (o≤14)=o8
      cases zv <;> cases u0 <;> cases a0 <;> cases o0 <;> cases c4 <;> cases c5 <;> cases d0 <;> rfl
    · simp only [Bool.and_eq_true,decide_eq_true_eq] at h
      simp only [Int.reduceEq,false_and,false_or,true_and,or_false]
      omega
  by_cases k8:k=8
  · subst k8
    simp only [Int.reduceEq,if_true,if_false,Option.some.injEq,Prod.mk.injEq] at hF
    obtain ⟨rfl,rfl⟩:=hF
    simp only [Int.reduceEq,Int.reduceLE,if_true,if_false,decide_true,decide_false,Bool.not_true,Bool.not_false,Bool.true_and,Bool.false_and,Bool.and_true,Bool.and_false,Bool.false_or,Bool.or_false,Bool.true_or,Bool.or_true,Bool.false_eq_true,Option.bind_eq_bind,Option.bind_some,hif,hif1]
    refine fin _ _ _ ?_ fun h=>?_
    · simp only [e0,Bool.and_assoc]
      try simp only [← Bool.and_assoc (decide (_≤(ks.length:Int))),eN]
      generalize decide ((ks.length:Int)=0)=c0
      generalize decide ((ks.length:Int)=1)=c1
      generalize decide ((ks.length:Int)=2)=c2
      generalize decide ((ks.length:Int)=3)=c3
      generalize decide (2≤(ks.length:Int))=c4
      generalize decide ((ks.length:Int)≤9)=c5
      generalize decide ((sb.length:Int)=0)=d0
      generalize decide ((sb.length:Int)=1)=d1
      generalize decide (up=0)=u0
      generalize decide (at_=0)=a0
      generalize decide (o=0)=o0
      generalize decide (o=15)=o5
      generalize decide (o=16)=o6
      generalize decide (1≤o)=o7
      generalize decide (o≤14)=o8
      cases zv <;> cases u0 <;> cases a0 <;> cases o0 <;> cases c1 <;> cases d1 <;> rfl
    · simp only [Bool.and_eq_true,decide_eq_true_eq] at h
      simp only [Int.reduceEq,false_and,false_or,true_and,or_false]
      omega
  by_cases k9:k=9
  · subst k9
    simp only [Int.reduceEq,if_true,if_false,Option.some.injEq,Prod.mk.injEq] at hF
    obtain ⟨rfl,rfl⟩:=hF
    simp only [Int.reduceEq,Int.reduceLE,if_true,if_false,decide_true,decide_false,Bool.not_true,Bool.not_false,Bool.true_and,Bool.false_and,Bool.and_true,Bool.and_false,Bool.false_or,Bool.or_false,Bool.true_or,Bool.or_true,Bool.false_eq_true,Option.bind_eq_bind,Option.bind_some,hif,hif1]
    refine fin _ _ _ ?_ fun h=>?_
    · simp only [e0,Bool.and_assoc]
      try simp only [← Bool.and_assoc (decide (_≤(ks.length:Int))),eN]
      generalize decide ((ks.length:Int)=0)=c0
      generalize decide ((ks.length:Int)=1)=c1
      generalize decide ((ks.length:Int)=2)=c2
      generalize decide ((ks.length:Int)=3)=c3
      generalize decide (2≤(ks.length:Int))=c4
      generalize decide ((ks.length:Int)≤9)=c5
      generalize decide ((sb.length:Int)=0)=d0
      generalize decide ((sb.length:Int)=1)=d1
      generalize decide (up=0)=u0
      generalize decide (at_=0)=a0
      generalize decide (o=0)=o0
      generalize decide (o=15)=o5
      generalize decide (o=16)=o6
      generalize decide (1≤o)=o7
      generalize decide (o≤14)=o8
      cases no <;> cases zv <;> cases u0 <;> cases a0 <;> cases o0 <;> cases c0 <;> cases d1 <;> rfl
    · simp only [Bool.and_eq_true,decide_eq_true_eq] at h
      simp only [Int.reduceEq,false_and,false_or,true_and,or_false]
      omega
  simp only [k1,k2,k3,k4,k5,k6,k7,k8,k9,if_false,Option.some.injEq,Prod.mk.injEq] at hF
  obtain ⟨rfl,rfl⟩:=hF
  simp only [k1,k2,k3,k4,k5,k6,k7,k8,k9,Int.reduceEq,Int.reduceLE,if_true,if_false,decide_true,decide_false,Bool.not_true,Bool.not_false,Bool.true_and,Bool.false_and,Bool.and_true,Bool.and_false,Bool.false_or,Bool.or_false,Bool.true_or,Bool.or_true,Bool.false_eq_true,Option.bind_eq_bind,Option.bind_some,hif,hif1]
  refine ⟨false,?_,rfl,by simp⟩
  repeat' split
  all_goals first | rfl | simp
theorem aJn {n : Nat} {L : Int → Option Bool} {good : Nat → Prop} {KP : Prop}
    (hstep:∀ i,i<n→(good i→L (i:Nat)=L ((i+1:Nat):Int))∧(¬ good i→L (i:Nat)=some false))
    (hend:∃ b,L (n:Nat)=some b∧(b=true↔KP)):∃ b,L 0=some b∧(b=true↔(∀ i,i<n→good i)∧KP):=by
  have key:∀ i,i≤n→∃ b,L (i:Nat)=some b∧(b=true↔(∀ k,i≤k→k<n→good k)∧KP):=by
    refine fC ?_ ?_
    · obtain ⟨b,h1,h2⟩:=hend
      exact ⟨b,h1,h2.trans ⟨fun h=>⟨fun k h1 h2=>by omega,h⟩,fun h=>h.2⟩⟩
    · intro i hi ih
      obtain ⟨b,h1,h2⟩:=ih
      obtain ⟨s1,s2⟩:=hstep i hi
      by_cases hg:good i
      · refine ⟨b,(s1 hg).trans h1,h2.trans ⟨fun h=>⟨fun k k1 k2=>?_,h.2⟩,fun h=>⟨fun k k1 k2=>h.1 k (by omega) k2,h.2⟩⟩⟩
        by_cases e:k=i
        · subst e; exact hg
        · exact h.1 k (by omega) k2
      · refine ⟨false,s2 hg,?_⟩
        simp only [Bool.false_eq_true,false_iff,not_and]
        intro h
        exact absurd (h i (by omega) hi) hg
  obtain ⟨b,h1,h2⟩:=key 0 (by omega)
  exact ⟨b,h1,h2.trans ⟨fun h=>⟨fun k hk=>h.1 k (by omega) hk,h.2⟩,fun h=>⟨fun k _ hk=>h.1 k hk,h.2⟩⟩⟩
theorem aSg {γ : Type} {n : Nat} {L M : Int → Option γ} (hstep : ∀ i, i < n → L ((i + 1 : Nat) : Int) = M ((i + 1 : Nat) : Int) → (∃ r, L ((i + 1 : Nat) : Int) = some r) → L (i : Nat) = M (i : Nat) ∧ ∃ r, L (i : Nat) = some r)
    (hend:L (n:Nat)=M (n:Nat)∧∃ r,L (n:Nat)=some r):L 0=M 0∧∃ r,L 0=some r:=by
  have key:∀ i,i≤n→L (i:Nat)=M (i:Nat)∧∃ r,L (i:Nat)=some r :=
    fC hend fun i hi ih=>hstep i hi ih.1 ih.2
  exact key 0 (by omega)
theorem aCo (s:List UInt8):kL s=iY s∧∃ b,iY s=some b∧(b=true↔1≤s.length∧s.length≤20):=by
  unfold kL iY dX
  simp only [Option.bind_eq_bind,Option.bind_some]
  refine ⟨by simp,_,rfl,?_⟩
  by_cases h1:(1:Int)≤(s.length:Int)
  · simp [h1]; omega
  · simp [h1]; omega
theorem aRz (t:bD) (s:List UInt8) (hl:t.cols.length≤1048576):O9 t s=wE t s∧∃ r,wE t s=some r:=by
  have:=aSg (n:=t.cols.length) (L:=fun i=>rQ t.cols s i) (M:=fun i=>rZ s t i) ?_ ?_
  · unfold O9 aGb wE
    obtain ⟨h1,r,h2⟩:=this
    try simp only at h1 h2
    rw [← h1,h2]
    exact ⟨rfl,r,rfl⟩
  · intro i hi h1 h2
    try dsimp only at h1 h2 ⊢
    rw [rQ,rZ]
    simp only [eF,dU hi,eU hi (by omega),hi,decide_true,if_true,aGm,Option.bind_eq_bind,Option.bind_some]
    by_cases hc:t.cols[i].name=s
    · simp [hc]
    · simp only [hc,decide_false,Bool.false_eq_true,if_false]
      exact ⟨h1,h2⟩
  · try dsimp only
    rw [rQ,rZ]
    simp
theorem aRu (c:aJ) (s:List UInt8) (hl:c.tables.length≤1048576):M8 c s=mE c s∧∃ r,mE c s=some r:=by
  have:=aSg (n:=c.tables.length) (L:=fun i=>vM c.tables s i) (M:=fun i=>vC s c i) ?_ ?_
  · unfold M8 aFv mE
    obtain ⟨h1,r,h2⟩:=this
    try simp only at h1 h2
    rw [← h1,h2]
    exact ⟨rfl,r,rfl⟩
  · intro i hi h1 h2
    try dsimp only at h1 h2 ⊢
    rw [vM,vC]
    simp only [eF,dU hi,eU hi (by omega),hi,decide_true,if_true,aC0,Option.bind_eq_bind,Option.bind_some]
    by_cases hc:c.tables[i].name=s
    · simp [hc]
    · simp only [hc,decide_false,Bool.false_eq_true,if_false]
      exact ⟨h1,h2⟩
  · try dsimp only
    rw [vM,vC]
    simp
def lQ (t:bD) (j:Nat):Prop:=∃ c,t.cols[j]?=some c∧(1≤c.name.length∧c.name.length≤20)∧(1≤c.type∧c.type≤3)∧wE t c.name=some (j:Int)
def nA (t:bD):Prop:=(∀ j,j<t.cols.length→lQ t j)∧((1≤t.name.length∧t.name.length≤20)∧1≤t.cols.length∧t.cols.length≤4)
theorem cAi (t:bD) (hl:t.cols.length≤1048576):∃ b,aB2 t=some b∧(b=true↔nA t):=by
  unfold aB2 nA
  refine aJn (n:=t.cols.length) (L:=fun i=>tV t i) (good:=lQ t) ?_ ?_
  · intro i hi
    try dsimp only
    rw [tV]
    obtain ⟨n1,b,n2,n3⟩:=aCo t.cols[i].name
    obtain ⟨c1,k,c2⟩:=aRz t t.cols[i].name hl
    simp only [eF,dU hi,eU hi (by omega),hi,decide_true,if_true,n1,n2,c1,c2,Option.bind_eq_bind,Option.bind_some]
    have hP:lQ t i↔(1≤t.cols[i].name.length∧t.cols[i].name.length≤20)∧(1≤t.cols[i].type∧t.cols[i].type≤3)∧k=(i:Int):=by
      unfold lQ
      constructor
      · rintro ⟨c,h1,h2,h3,h4⟩
        rw [List.getElem?_eq_getElem hi] at h1
        simp only [Option.some.injEq] at h1; subst h1
        rw [c2] at h4
        exact ⟨h2,h3,by simpa using h4⟩
      · rintro ⟨h2,h3,h4⟩
        exact ⟨_,List.getElem?_eq_getElem hi,h2,h3,by rw [c2,h4]⟩
    rw [hP,← n3]
    cases b with
    | false=>simp
    | true =>
      by_cases t1:t.cols[i].type<1
      · simp [t1] <;> omega
      by_cases t3:3<t.cols[i].type
      · simp [t1,t3] <;> omega
      by_cases hk:k=(i:Int)
      · simp [t1,t3,hk] <;> omega
      · simp [t1,t3,hk]
  · try dsimp only
    rw [tV]
    obtain ⟨n1,b,n2,n3⟩:=aCo t.name
    simp only [eF,Nat.lt_irrefl,decide_false,Bool.false_eq_true,if_false,n1,n2,Option.bind_eq_bind,Option.bind_some]
    refine ⟨_,rfl,?_⟩
    rw [← n3]
    cases b with
    | false=>simp
    | true =>
      by_cases l1:(1:Int)≤(t.cols.length:Int)
      · simp [l1] <;> omega
      · simp [l1] <;> omega
def Z7 (c:aJ):Prop:=(∀ i,i<c.tables.length→∃ t,c.tables[i]?=some t∧nA t∧mE c t.name=some (i:Int))∧c.tables.length≤4
def Q7 (c:aJ):Prop:=c.tables.length≤1048576∧∀ t ∈ c.tables,t.cols.length≤1048576
theorem aPd (c:aJ) (hs:Q7 c):∃ b,D5 c=some b∧(b=true↔Z7 c):=by
  unfold D5 Z7
  refine aJn (n:=c.tables.length) (L:=fun i=>sS c i) (good:=fun i=>∃ t,c.tables[i]?=some t∧nA t∧mE c t.name=some (i:Int)) ?_ ?_
  · intro i hi
    try dsimp only
    rw [sS]
    obtain ⟨b,n2,n3⟩:=cAi c.tables[i] (hs.2 _ (List.getElem_mem hi))
    obtain ⟨c1,k,c2⟩:=aRu c c.tables[i].name hs.1
    have:=hs.1
    simp only [eF,dU hi,eU hi (by omega),hi,decide_true,if_true,n2,c1,c2,Option.bind_eq_bind,Option.bind_some]
    have hP:(∃ t,c.tables[i]?=some t∧nA t∧mE c t.name=some (i:Int))↔nA c.tables[i]∧k=(i:Int):=by
      constructor
      · rintro ⟨t,h1,h2,h3⟩
        rw [List.getElem?_eq_getElem hi] at h1
        simp only [Option.some.injEq] at h1; subst h1
        rw [c2] at h3
        exact ⟨h2,by simpa using h3⟩
      · rintro ⟨h2,h3⟩
        exact ⟨_,List.getElem?_eq_getElem hi,h2,by rw [c2,h3]⟩
    rw [hP,← n3]
    cases b with
    | false=>simp
    | true =>
      by_cases hk:k=(i:Int)
      · simp [hk]
      · simp [hk]
  · try dsimp only
    rw [sS]
    refine ⟨decide ((c.tables.length:Int)≤4),by simp,?_⟩
    simp only [decide_eq_true_eq]; omega
theorem aX4 (c:aJ) (hs:Q7 c):∃ b,I7 c=some b∧(b=true↔Z7 c):=by
  unfold I7
  by_cases h4:(4:Int)<(c.tables.length:Int)
  · rw [if_pos (by simpa using h4)]
    refine ⟨false,rfl,?_⟩
    unfold Z7
    simp only [Bool.false_eq_true,false_iff,not_and]
    intro _; omega
  rw [if_neg (by simpa using h4)]
  have:=aJn (n:=c.tables.length) (L:=fun i=>sF c i) (good:=fun i=>∃ t,c.tables[i]?=some t∧nA t∧mE c t.name=some (i:Int)) (KP:=True) ?_ ?_
  · obtain ⟨b,h1,h2⟩:=this
    exact ⟨b,h1,h2.trans ⟨fun h=>⟨h.1,by omega⟩,fun h=>⟨h.1,trivial⟩⟩⟩
  · intro i hi
    try dsimp only
    rw [sF]
    obtain ⟨n1,b,n2,n3⟩:=aCo c.tables[i].name
    obtain ⟨c1,k,c2⟩:=aRu c c.tables[i].name hs.1
    have:=hs.1
    have hcl:=hs.2 _ (List.getElem_mem hi)
    have inner:∀ (j:Nat),j≤c.tables[i].cols.length→((∀ m,j≤m→m<c.tables[i].cols.length→lQ c.tables[i] m)→qV (i:Int) c c.tables[i] (j:Nat)=sF c ((i+1:Nat):Int))∧(¬ (∀ m,j≤m→m<c.tables[i].cols.length→lQ c.tables[i] m)→qV (i:Int) c c.tables[i] (j:Nat)=some false):=by
      refine fC ?_ ?_
      · rw [qV]
        simp only [eF,Nat.lt_irrefl,decide_false,Bool.false_eq_true,if_false,eU hi (by omega)]
        refine ⟨fun _=>trivial,fun h=>absurd (fun m h1 h2=>by omega) h⟩
      · intro j hj ih
        rw [qV]
        obtain ⟨_,b',m2,m3⟩:=aCo c.tables[i].cols[j].name
        obtain ⟨_,k',d2⟩:=aRz c.tables[i] c.tables[i].cols[j].name hcl
        simp only [eF,dU hj,eU hj (by omega),hj,decide_true,if_true,m2,d2,dX,Option.bind_eq_bind,Option.bind_some]
        have hP:lQ c.tables[i] j↔b'=true∧(1≤c.tables[i].cols[j].type∧c.tables[i].cols[j].type≤3)∧k'=(j:Int):=by
          unfold lQ
          constructor
          · rintro ⟨c',h1,h2,h3,h4⟩
            rw [List.getElem?_eq_getElem hj] at h1
            simp only [Option.some.injEq] at h1; subst h1
            rw [d2] at h4
            exact ⟨m3.2 h2,h3,by simpa using h4⟩
          · rintro ⟨h2,h3,h4⟩
            exact ⟨_,List.getElem?_eq_getElem hj,m3.1 h2,h3,by rw [d2,h4]⟩
        have hall:(∀ m,j≤m→m<c.tables[i].cols.length→lQ c.tables[i] m)↔lQ c.tables[i] j∧∀ m,j+1≤m→m<c.tables[i].cols.length→lQ c.tables[i] m:=by
          constructor
          · intro h; exact ⟨h j (by omega) hj,fun m h1 h2=>h m (by omega) h2⟩
          · rintro ⟨h1,h2⟩ m h3 h4
            by_cases e:m=j
            · subst e; exact h1
            · exact h2 m (by omega) h4
        rw [hall,hP]
        cases b' with
        | false=>simp
        | true =>
          by_cases hk:k'=(j:Int)
          · by_cases t1:1≤c.tables[i].cols[j].type
            · by_cases t3:c.tables[i].cols[j].type≤3
              · have t3':¬ 3<c.tables[i].cols[j].type:=by omega
                simpa [hk,t1,t3,t3',d2] using ih
              · simp [hk,t1,t3,d2]
            · simp [hk,t1,d2]
          · simp [hk,d2]
    obtain ⟨i1,i2⟩:=inner 0 (by omega)
    rw [show ((0:Nat):Int)=0 from rfl] at i1 i2
    simp only [eF,dU hi,eU hi (by omega),hi,decide_true,if_true,n2,c2,dX,Option.bind_eq_bind,Option.bind_some]
    have hP:(∃ t,c.tables[i]?=some t∧nA t∧mE c t.name=some (i:Int))↔nA c.tables[i]∧k=(i:Int):=by
      constructor
      · rintro ⟨t,h1,h2,h3⟩
        rw [List.getElem?_eq_getElem hi] at h1
        simp only [Option.some.injEq] at h1; subst h1
        rw [c2] at h3
        exact ⟨h2,by simpa using h3⟩
      · rintro ⟨h2,h3⟩
        exact ⟨_,List.getElem?_eq_getElem hi,h2,by rw [c2,h3]⟩
    rw [hP]
    unfold nA
    rw [← n3]
    cases b with
    | false=>simp
    | true =>
      by_cases hk:k=(i:Int)
      · by_cases l1:(1:Int)≤(c.tables[i].cols.length:Int)
        · by_cases l4:(c.tables[i].cols.length:Int)≤4
          · have l1':1≤c.tables[i].cols.length:=by omega
            have l4':c.tables[i].cols.length≤4:=by omega
            simp only [hk,l1,l4,l1',l4']
            simp only [Nat.zero_le,true_implies] at i1 i2
            simpa using And.intro i1 (fun (x:Nat) (hx:x<c.tables[i].cols.length) (hn:¬ lQ c.tables[i] x)=>i2 fun h=>hn (h x hx))
          · have l4':¬ c.tables[i].cols.length≤4:=by omega
            simp [hk,l1,l4,l4']
        · have l1':¬ 1≤c.tables[i].cols.length:=by omega
          simp [hk,l1,l1']
      · simp [hk]
  · try dsimp only
    rw [sF]
    exact ⟨true,by simp,by simp⟩
def jC (t:bD):List Int:=t.cols.map bL.type
theorem aZ1 (t:bD) (hl:t.cols.length≤1048576):zK t=some (jC t)∧rA t=some (jC t):=by
  have key:∀ i,i≤t.cols.length→∀ l:List Int,l.length≤i→sH t l (i:Nat)=some (l++(t.cols.drop i).map bL.type)∧uX t l (i:Nat)=some (l++(t.cols.drop i).map bL.type):=by
    refine fC ?_ ?_
    · intro l _
      rw [sH,uX]; simp
    · intro i hi ih l hl2
      rw [sH,uX]
      have ea:appG 8 l [t.cols[i].type]=some (l++[t.cols[i].type]):=by unfold appG; rw [if_pos (by simp; omega)]
      simp only [eF,dU hi,eU hi (by omega),hi,decide_true,if_true,ea,Option.bind_eq_bind,Option.bind_some]
      have:=ih (l++[t.cols[i].type]) (by simp; omega)
      rw [List.drop_eq_getElem_cons hi,List.map_cons]
      simpa using this
  unfold zK rA jC
  have:=key 0 (by omega) [] (by simp)
  simpa using this
def fO (c:aJ):List Int→List Int→List Int×Bool
  | acc,[]=>(acc,true)
  | acc,i::l=>if 0≤i∧i<(c.tables.length:Int) then fO c (acc++jC (c.tables[i.toNat]?.getD default)) l else ([],false)
def kT (c:aJ):Prop:=c.tables.length≤4∧∀ t ∈ c.tables,t.cols.length≤4∧∀ x ∈ jC t,okT x
theorem aN4 (c:aJ) (hc:kT c) (l:List Int) (hl:l.length≤1048576):zH c l=some (fO c [] l)∧wZ c l=some (fO c [] l):=by
  have key:∀ i,i≤l.length→∀ acc:List Int,acc.length≤4 * i→uQ l c acc (i:Nat)=some (fO c acc (l.drop i))∧sG l c acc (i:Nat)=some (fO c acc (l.drop i)):=by
    refine fC ?_ ?_
    · intro acc _
      rw [uQ,sG]; simp [fO]
    · intro i hi ih acc ha
      rw [uQ,sG,List.drop_eq_getElem_cons hi,fO]
      have hw:IntKind.wrap .i64 ((c.tables.length:Int) - 1)=(c.tables.length:Int) - 1:=by have:=hc.1; exact gG (by omega) (by omega)
      unfold dX
      simp only [eF,dU hi,eU hi (by omega),hi,decide_true,if_true,hw,Option.bind_eq_bind,Option.bind_some]
      by_cases h0:0≤l[i]
      · by_cases h1:l[i]<(c.tables.length:Int)
        · have n0:¬ l[i]<0:=by omega
          have n1:¬ (c.tables.length:Int)≤l[i]:=by omega
          have n2:l[i]≤(c.tables.length:Int) - 1:=by omega
          have hj:l[i].toNat<c.tables.length:=by omega
          have hx:idx c.tables l[i]=some c.tables[l[i].toNat]:=by
            have:=dU hj
            rwa [show ((l[i].toNat:Nat):Int)=l[i] by omega] at this
          obtain ⟨t1,t2⟩:=hc.2 _ (List.getElem_mem hj)
          obtain ⟨e1,e2⟩:=aZ1 c.tables[l[i].toNat] (by omega)
          have tl:(jC c.tables[l[i].toNat]).length≤4:=by unfold jC; simpa using t1
          have ea:appG 8 acc (jC c.tables[l[i].toNat])=some (acc++jC c.tables[l[i].toNat]):=by unfold appG; rw [if_pos (by omega)]
          have hg:c.tables[l[i].toNat]?.getD default=c.tables[l[i].toNat]:=by simp [hj]
          have hp:0≤l[i]∧l[i]<(c.tables.length:Int):=⟨h0,h1⟩
          rw [if_pos hp,hg]
          simp only [h0,n0,n1,n2,hx,e1,e2,ea,decide_true,decide_false,if_true,if_false,Bool.false_eq_true,Bool.not_true,Option.bind_some]
          exact ih _ (by rw [List.length_append]; omega)
        · have n1:(c.tables.length:Int)≤l[i]:=by omega
          have n2:¬ l[i]≤(c.tables.length:Int) - 1:=by omega
          have hn:¬ (0≤l[i]∧l[i]<(c.tables.length:Int)):=by omega
          rw [if_neg hn]
          simp [h0,n1,n2]
      · have n0:l[i]<0:=by omega
        have hn:¬ (0≤l[i]∧l[i]<(c.tables.length:Int)):=by omega
        rw [if_neg hn]
        simp [h0,n0]
  unfold zH wZ
  have:=key 0 (by omega) [] (by simp)
  simpa using this
theorem aNa (c:aJ) (hc:kT c):∀ (l acc:List Int),(∀ x ∈ acc,okT x)→(∀ x ∈ (fO c acc l).1,okT x)∧(fO c acc l).1.length≤acc.length+4 * l.length
  | [],acc,h=>⟨h,by simp [fO]⟩
  | i::l,acc,h=>by
    rw [fO]
    split
    · rename_i hi
      have hj:i.toNat<c.tables.length:=by omega
      have hg:c.tables[i.toNat]?.getD default=c.tables[i.toNat]:=by simp [hj]
      rw [hg]
      obtain ⟨t1,t2⟩:=hc.2 _ (List.getElem_mem hj)
      have tl:(jC c.tables[i.toNat]).length≤4:=by unfold jC; simpa using t1
      obtain ⟨a1,a2⟩:=aNa c hc l (acc++jC c.tables[i.toNat]) (fun x hx=>by
        rcases List.mem_append.1 hx with hx | hx
        · exact h x hx
        · exact t2 x hx)
      exact ⟨a1,by rw [List.length_append] at a2; simp only [List.length_cons]; omega⟩
    · exact ⟨by simp,by simp⟩
def N8 (p:aB):Bool:=(decide (1≤p.tables.length)&&decide (p.tables.length≤3))&&decide (p.on_.length=p.tables.length)&&decide ((p.on_[0]?.getD []).length=0)&&decide (p.where_.length≤1)&&decide (p.order.length≤12)&&(decide (1≤p.items.length)&&decide (p.items.length≤12))&&decide (p.names.length=p.items.length)&&decide (-1≤p.limit)
def onB (p:aB):Bool:=p.on_.all fun l=>decide (l.length≤1)
def nmB (s:List UInt8):Bool:=decide (1≤s.length)&&decide (s.length≤20)
theorem bLd (s:List UInt8):kL s=some (nmB s):=by
  unfold kL nmB
  by_cases h:1≤s.length <;> by_cases h2:s.length≤20 <;> simp [h,h2] <;> omega
theorem bY6 (s:List UInt8):iY s=some (nmB s):=by
  unfold iY dX nmB
  by_cases h:1≤s.length <;> by_cases h2:s.length≤20 <;> simp [h,h2] <;> omega
theorem onI (l:List (List aA)) (hl:l.length≤1048576):M6 l=some (!l.all fun l=>decide (l.length≤1)):=by
  have key:∀ i,i≤l.length→∃ k:Int,uR l (i:Nat)=some k∧decide (0≤k)=!(l.drop i).all fun l=>decide (l.length≤1):=by
    refine fC ?_ ?_
    · rw [uR]
      exact ⟨-1,by simp,by simp⟩
    · intro i hi ih
      rw [uR,List.drop_eq_getElem_cons hi]
      simp only [eF,dU hi,eU hi (by omega),hi,decide_true,if_true,O6,Option.bind_eq_bind,Option.bind_some,List.all_cons]
      by_cases h:l[i].length≤1
      · have h1:¬ (1:Int)<(l[i].length:Int):=by omega
        simpa [h,h1] using ih
      · have h1:(1:Int)<(l[i].length:Int):=by omega
        exact ⟨(i:Int),by simp [h1],by simp [h]⟩
  obtain ⟨k,h1,h2⟩:=key 0 (by omega)
  rw [show ((0:Nat):Int)=0 from rfl] at h1
  rw [M6,aC1,h1]
  simpa using h2
theorem nmI (l:List (List UInt8)) (hl:l.length≤1048576):U7 l=some (!l.all nmB):=by
  have key:∀ i,i≤l.length→∃ k:Int,uV l (i:Nat)=some k∧decide (0≤k)=!(l.drop i).all nmB:=by
    refine fC ?_ ?_
    · rw [uV]
      exact ⟨-1,by simp,by simp⟩
    · intro i hi ih
      rw [uV,List.drop_eq_getElem_cons hi]
      simp only [eF,dU hi,eU hi (by omega),hi,decide_true,if_true,aAi,bLd,Option.bind_eq_bind,Option.bind_some,List.all_cons]
      cases h:nmB l[i] with
      | true=>simpa using ih
      | false=>exact ⟨(i:Int),by simp,by simp⟩
  obtain ⟨k,h1,h2⟩:=key 0 (by omega)
  rw [show ((0:Nat):Int)=0 from rfl] at h1
  rw [U7,aFi,h1]
  simpa using h2
theorem bFs (c:aJ) (hc:kT c) (p:aB) (hn:p.names.length≤1048576) (ht:p.tables.length≤1048576):qP c p 0=some (p.names.all nmB&&(fO c [] p.tables).2):=by
  have key:∀ i,i≤p.names.length→qP c p (i:Nat)=some ((p.names.drop i).all nmB&&(fO c [] p.tables).2):=by
    refine fC ?_ ?_
    · rw [qP]; simp [(aN4 c hc p.tables ht).2]
    · intro i hi ih
      rw [qP,List.drop_eq_getElem_cons hi,List.all_cons]
      simp only [eF,dU hi,eU hi (by omega),hi,decide_true,if_true,bY6,ih,Option.bind_eq_bind,Option.bind_some]
      cases nmB p.names[i] <;> simp
  simpa using key 0 (by omega)
theorem bPd (c:aJ) (hc:kT c) (p:aB) (ho:p.on_.length≤1048576) (hn:p.names.length≤1048576) (ht:p.tables.length≤1048576):pX c p 0=some (onB p&&(p.names.all nmB&&(fO c [] p.tables).2)):=by
  have key:∀ i,i≤p.on_.length→pX c p (i:Nat)=some (((p.on_.drop i).all fun l=>decide (l.length≤1))&&(p.names.all nmB&&(fO c [] p.tables).2)):=by
    refine fC ?_ ?_
    · rw [pX]; simp [bFs c hc p hn ht]
    · intro i hi ih
      rw [pX,List.drop_eq_getElem_cons hi,List.all_cons]
      simp only [eF,dU hi,eU hi (by omega),hi,decide_true,if_true,ih,Option.bind_eq_bind,Option.bind_some]
      by_cases h:p.on_[i].length≤1
      · have h1:¬ (1:Int)<(p.on_[i].length:Int):=by omega
        simp [h,h1]
      · have h1:(1:Int)<(p.on_[i].length:Int):=by omega
        simp [h,h1]
  unfold onB
  simpa using key 0 (by omega)
theorem bFw (c : aJ) (hc : kT c) (p : aB) (ho : p.on_.length ≤ 1048576) (hn : p.names.length ≤ 1048576) (ht : p.tables.length ≤ 1048576) :
    P5 c p=some (N8 p&&(onB p&&(p.names.all nmB&&(fO c [] p.tables).2)))∧U6 p=some (N8 p&&(onB p&&p.names.all nmB)):=by
  unfold P5 U6 dX N8
  simp only [bPd c hc p ho hn ht,onI p.on_ ho,nmI p.names hn,Option.bind_eq_bind,Option.bind_some]
  have hon:(!p.on_.all fun l=>decide (l.length≤1))=!onB p:=rfl
  rw [hon]
  generalize onB p=b1
  generalize p.names.all nmB=b2
  generalize (fO c [] p.tables).2=b3
  by_cases t1:1≤p.tables.length
  case neg =>
    have c1:¬ (1:Int)≤(p.tables.length:Int):=by omega
    have c2:(p.tables.length:Int)<1:=by omega
    simp only [t1,c1,c2,decide_true,decide_false,if_true,if_false,Bool.not_true,Bool.not_false,Bool.false_eq_true,Bool.false_and,Option.bind_some,beq_self_eq_true]
    simp
  by_cases t2:p.tables.length≤3
  case neg =>
    have c1:¬ (p.tables.length:Int)≤3:=by omega
    have c2:(3:Int)<(p.tables.length:Int):=by omega
    simp [t2,c1,c2]
  by_cases t3:p.on_.length=p.tables.length
  case neg =>
    have c1:¬ (p.on_.length:Int)=(p.tables.length:Int):=by omega
    simp [t3,c1]
  have a1:(1:Int)≤(p.tables.length:Int):=by omega
  have a2:(p.tables.length:Int)≤3:=by omega
  have a3:¬ (p.tables.length:Int)<1:=by omega
  have a4:¬ (3:Int)<(p.tables.length:Int):=by omega
  have a5:(p.on_.length:Int)=(p.tables.length:Int):=by omega
  have h0:0<p.on_.length:=by omega
  have hi:idx p.on_ 0=some p.on_[0]:=dU h0
  have hg:p.on_[0]?.getD []=p.on_[0]:=by simp [h0]
  rw [hg,hi]
  generalize p.on_[0]=l0
  have e0:decide ((0:Int)<(l0.length:Int))=!decide (l0.length=0):=by rw [Bool.eq_iff_iff]; simp only [Bool.not_eq_true',decide_eq_true_eq,decide_eq_false_iff_not]; omega
  have e1:decide ((1:Int)<(p.where_.length:Int))=!decide (p.where_.length≤1):=by rw [Bool.eq_iff_iff]; simp only [Bool.not_eq_true',decide_eq_true_eq,decide_eq_false_iff_not]; omega
  have e2:decide ((12:Int)<(p.order.length:Int))=!decide (p.order.length≤12):=by rw [Bool.eq_iff_iff]; simp only [Bool.not_eq_true',decide_eq_true_eq,decide_eq_false_iff_not]; omega
  have e3:decide ((1:Int)≤(p.items.length:Int))=decide (1≤p.items.length):=by rw [Bool.eq_iff_iff]; simp only [decide_eq_true_eq]; omega
  have e4:decide ((p.items.length:Int)≤12)=decide (p.items.length≤12):=by rw [Bool.eq_iff_iff]; simp only [decide_eq_true_eq]; omega
  have e5:decide ((p.names.length:Int)=(p.items.length:Int))=decide (p.names.length=p.items.length):=by rw [Bool.eq_iff_iff]; simp only [decide_eq_true_eq]; omega
  have e6:decide (p.limit < -1)=!decide (-1≤p.limit):=by rw [Bool.eq_iff_iff]; simp only [Bool.not_eq_true',decide_eq_true_eq,decide_eq_false_iff_not]; omega
  simp only [a1,a2,a3,a4,a5,t1,t2,t3,e0,e1,e2,e3,e4,e5,e6,decide_true,decide_false,if_true,if_false,Bool.not_true,Bool.not_false,Bool.false_eq_true,beq_self_eq_true,Bool.and_self,Bool.true_and,Option.bind_some]
  generalize decide (l0.length=0)=x0
  generalize decide (p.where_.length≤1)=x1
  generalize decide (p.order.length≤12)=x2
  generalize decide (1≤p.items.length)=x3
  generalize decide (p.items.length≤12)=x4
  generalize decide (p.names.length=p.items.length)=x5
  generalize decide (-1≤p.limit)=x6
  cases x0 <;> cases x1 <;> cases x2 <;> cases x3 <;> cases x4 <;> cases x5 <;> cases x6 <;> cases b1 <;> cases b2 <;> exact ⟨rfl,rfl⟩
def TyE (c:aJ) (env:List (List Int)) (e:aA):Prop:=∃ r:Int×Bool,qO c env e=some r∧pI c env e=some r∧okT r.1
def PlE (c:aJ) (env:List (List Int)) (p:aB):Prop:=∃ r:List Int×Bool,F7 c env p=some r∧M0 c env p=some r∧∀ x ∈ r.1,okT x
def lW (env:List (List Int)):Prop:=∀ row ∈ env,row.length≤4194304∧∀ x ∈ row,okT x
theorem okT0:okT 0:=⟨by omega,by omega⟩
theorem okT3:okT 3:=⟨by omega,by omega⟩
theorem aL9 (c:aJ) (env:List (List Int)) (l:List aA) (hl:l.length≤1048576) (H:∀ e ∈ l,TyE c env e):∃ b,wN c env l=some b∧vW c env l=some b:=by
  have key:∀ i,i≤l.length→∃ (k:Int) (b:Bool),xH l c env (i:Nat)=some k∧wF env l c (i:Nat)=some b∧decide (0≤k)=!b:=by
    refine fC ?_ ?_
    · rw [xH,wF]
      exact ⟨-1,true,by simp,by simp,by simp⟩
    · intro i hi ih
      rw [xH,wF]
      obtain ⟨r,h1,h2,h3⟩:=H _ (List.getElem_mem hi)
      obtain ⟨t,e1⟩:=aCt r.1
      simp only [eF,hi,decide_true,if_true,dU hi,eU hi (by omega),aB8,h1,h2,aHf,e1,Option.bind_eq_bind,Option.bind_some]
      cases hr:r.2
      · exact ⟨(i:Int),false,by simp,by simp,by simp⟩
      · cases t
        · exact ⟨(i:Int),false,by simp,by simp,by simp⟩
        · simpa using ih
  obtain ⟨k,b,h1,h2,h3⟩:=key 0 (by omega)
  rw [show ((0:Nat):Int)=0 from rfl] at h1 h2
  rw [wN,aDn,aF9,h1,vW,h2]
  exact ⟨b,by simp [h3],rfl⟩
theorem aZs (row:List Int) (env:List (List Int)) (h:env.length≤4194304):yO row env=some (row::env)∧I1 row env=some (row::env):=by
  have e:appG 24 ([row]:List (List Int)) env=some (row::env):=by unfold appG; rw [if_pos (by simp; omega)]; rfl
  unfold yO I1
  rw [e]; exact ⟨rfl,rfl⟩
theorem bZe (c : aJ) (env : List (List Int)) (e : aA) (hk : e.kids.length ≤ 1048576) (H : ∀ k ∈ e.kids, TyE c env k) :
    (lF env e c [] 0=some (0,false)∧jR env c e [] 0=some (0,false))∨∃ acc:List Int,acc.length=e.kids.length∧(∀ x ∈ acc,okT x)∧lF env e c [] 0=qZ env acc e c [] 0∧jR env c e [] 0=jR env c e acc (e.kids.length:Int):=by
  have key:∀ i,i≤e.kids.length→∀ acc:List Int,acc.length=i→(∀ x ∈ acc,okT x)→(lF env e c acc (i:Nat)=some (0,false)∧jR env c e acc (i:Nat)=some (0,false))∨∃ a:List Int,a.length=e.kids.length∧(∀ x ∈ a,okT x)∧lF env e c acc (i:Nat)=qZ env a e c [] 0∧jR env c e acc (i:Nat)=jR env c e a (e.kids.length:Int):=by
    refine fC ?_ ?_
    · intro acc ha hx
      right
      refine ⟨acc,ha,hx,?_,rfl⟩
      rw [lF]
      simp
    · intro i hi ih acc ha hx
      obtain ⟨r,h1,h2,h3⟩:=H _ (List.getElem_mem hi)
      have ea:appG 8 acc [r.1]=some (acc++[r.1]):=by unfold appG; rw [if_pos (by simp; omega)]
      have f1:lF env e c acc (i:Nat)=if (!r.2)=true then some (0,false) else lF env e c (acc++[r.1]) ((i+1:Nat):Int):=by
        rw [lF]
        simp only [eF,hi,decide_true,if_true,dU hi,eU hi (by omega),h1,ea,Option.bind_eq_bind,Option.bind_some]
      have f2:jR env c e acc (i:Nat)=if (!r.2)=true then some (0,false) else jR env c e (acc++[r.1]) ((i+1:Nat):Int):=by
        rw [jR]
        simp only [eF,hi,decide_true,if_true,dU hi,eU hi (by omega),h2,ea,Option.bind_eq_bind,Option.bind_some]
      rw [f1,f2]
      cases hr:r.2
      · left; exact ⟨by simp,by simp⟩
      · have:=ih (acc++[r.1]) (by simp [ha]) (by intro x hx2; rcases List.mem_append.1 hx2 with h | h; exact hx x h; simp at h; rw [h]; exact h3)
        simpa using this
  simpa using key 0 (by omega) [] rfl (by simp)
theorem aG1 {α:Type} {l:List α} (h:0<l.length):idx l 0=some l[0]:=dU h
theorem aYv {α:Type} {l:List α} (h:1<l.length):idx l 1=some l[1]:=dU h
theorem cAq (l:List Int) (h:l.length≤4194304):W9 l=some l:=by
  unfold W9
  by_cases h0:l=[]
  · simp [h0]
  · have e:appG 8 ([]:List Int) l=some l:=by unfold appG; rw [if_pos (by simp; omega)]; simp
    have h1:¬ (l.length:Int)=0:=by
      have:=List.length_pos_iff.2 h0
      omega
    simp [h1,e]
theorem aNd (a b:List Int) (ha:a.length≤1000000) (hb:b.length≤1000) (oa:∀ x ∈ a,okT x) (ob:∀ x ∈ b,okT x):∃ m:Bool,tH (a++b)=some m∧rP a b false=some (if m=true then 3 else 0,m):=by
  obtain ⟨r,h1,h2⟩:=bUs (a++b) (by simp; omega) (by intro x hx; rcases List.mem_append.1 hx with h | h; exact oa x h; exact ob x h)
  refine ⟨r.2,h2,?_⟩
  have e:appG 8 a b=some (a++b):=by unfold appG; rw [if_pos (by omega)]
  unfold rP
  rw [cAq a (by omega)]
  simp only [e,h1,Bool.false_eq_true,if_false,Option.bind_eq_bind,Option.bind_some]
  cases r.2 <;> simp
theorem bOz (c:aJ) (env:List (List Int)) (hv:lW env) (hl:env.length≤4194304) (e:aA) (hk:e.kids.length≤1048576) (hs:e.sub.length≤1048576) (H:∀ k ∈ e.kids,TyE c env k) (HP:∀ p ∈ e.sub,PlE c env p):TyE c env e:=by
  unfold TyE
  obtain ⟨b,s1,i1,hf⟩:=bOp e hk hs
  rw [qO,pI,s1,i1]
  simp only [Option.bind_eq_bind,Option.bind_some]
  cases b with
  | false=>exact ⟨(0,false),by simp,by simp,okT0⟩
  | true =>
  simp only [Bool.not_true,Bool.false_eq_true,if_false]
  have hF:=hf rfl
  by_cases k2:e.kind=2
  · have hk0 : e.kids.length = 0 := by
      rcases hF with h | h | h | h | h | h | h | h | h <;> first | exact h.2.1 | (exact absurd h.1 (by omega))
    rw [if_pos (by simpa using k2),jR]
    have n1:¬ e.kind=1:=by omega
    have hw:IntKind.wrap .i64 ((env.length:Int) - 1)=(env.length:Int) - 1:=gG (by omega) (by omega)
    unfold dX
    simp only [hk0,k2,n1,hw,decide_true,decide_false,if_true,if_false,Bool.false_eq_true,Option.bind_eq_bind,Option.bind_some,Int.reduceEq]
    by_cases u0:0≤e.up
    case neg => exact ⟨(0, false), by have : e.up < 0 := by omega
                                      simp [this],by simp [u0],okT0⟩
    by_cases u1:e.up<(env.length:Int)
    case neg => exact ⟨(0, false), by have : (env.length : Int) ≤ e.up := by omega
                                      simp [this], by have : ¬ e.up ≤ (env.length : Int) - 1 := by omega
                                                      simp [u0,this],okT0⟩
    have hj:e.up.toNat<env.length:=by omega
    have hx:idx env e.up=some env[e.up.toNat]:=by
      have:=dU hj
      rwa [show ((e.up.toNat:Nat):Int)=e.up by omega] at this
    obtain ⟨r1,r2⟩:=hv _ (List.getElem_mem hj)
    have a1:¬ e.up<0:=by omega
    have a2:¬ (env.length:Int)≤e.up:=by omega
    have a3:e.up≤(env.length:Int) - 1:=by omega
    have hw2:IntKind.wrap .i64 ((env[e.up.toNat].length:Int) - 1)=(env[e.up.toNat].length:Int) - 1:=gG (by omega) (by omega)
    simp only [u0,a1,a2,a3,hx,hw2,decide_true,decide_false,if_true,if_false,Bool.not_true,Bool.false_eq_true,beq_self_eq_true,Bool.and_self,Option.bind_some,Bool.true_and]
    by_cases t0:0≤e.at_
    case neg => exact ⟨(0, false), by have : e.at_ < 0 := by omega
                                      simp [this],by simp [t0],okT0⟩
    by_cases t1:e.at_<(env[e.up.toNat].length:Int)
    case neg => exact ⟨(0, false), by have h1 : (env[e.up.toNat].length : Int) ≤ e.at_ := by omega
                                      have h2:¬ e.at_<0:=by omega
                                      simp [h1, h2], by have : ¬ e.at_ ≤ (env[e.up.toNat].length : Int) - 1 := by omega
                                                        simp [t0,this],okT0⟩
    have hj2:e.at_.toNat<env[e.up.toNat].length:=by omega
    have hx2:idx env[e.up.toNat] e.at_=some env[e.up.toNat][e.at_.toNat]:=by
      have:=dU hj2
      rwa [show ((e.at_.toNat:Nat):Int)=e.at_ by omega] at this
    have b1:¬ e.at_<0:=by omega
    have b2:¬ (env[e.up.toNat].length:Int)≤e.at_:=by omega
    have b3:e.at_≤(env[e.up.toNat].length:Int) - 1:=by omega
    exact ⟨(env[e.up.toNat][e.at_.toNat],true),by simp [b1,b2,hx2],by simp [t0,b3,hx2],r2 _ (List.getElem_mem hj2)⟩
  rw [if_neg (by simpa using k2)]
  rcases bZe c env e hk H with ⟨h1,h2⟩ | ⟨acc,ha,hx,h1,h2⟩
  · exact ⟨(0,false),h1,h2,okT0⟩
  rw [h1,h2,jR,qZ]
  have nk:decide ((e.kids.length:Int)<(e.kids.length:Int))=false:=by simp
  simp only [nk,k2,decide_false,Bool.false_eq_true,if_false]
  rcases hF with ⟨k,f1,f2,f3⟩ | ⟨k,f1⟩ | ⟨k,f1,f2⟩ | ⟨k,f1,f2⟩ | ⟨k,f1,f2⟩ | ⟨k,f1,f2⟩ | ⟨k,⟨f1,f3⟩,f2⟩ | ⟨k,f1,f2⟩ | ⟨k,f1,f2⟩
  · refine ⟨(e.value.kind,true),?_,?_,f3⟩
    · unfold mR; simp [f2,k]
    · simp [k]
  · exact absurd k k2
  · obtain ⟨r,r1,r2,r3⟩:=bLe e.op (acc[0]'(by omega))
    refine ⟨r,?_,?_,r3⟩
    · unfold mR; simp [f2,k,aG1 (show 0<acc.length by omega),r1]
    · simp [k,aG1 (show 0<acc.length by omega),r2]
  · obtain ⟨r,r1,r2,r3⟩:=bHz e.op (acc[0]'(by omega)) (acc[1]'(by omega)) (hx _ (List.getElem_mem _)) (hx _ (List.getElem_mem _))
    refine ⟨r,?_,?_,r3⟩
    · unfold mR; simp [f2,k,aG1 (show 0<acc.length by omega),aYv (show 1<acc.length by omega),r1]
    · simp [k,aG1 (show 0<acc.length by omega),aYv (show 1<acc.length by omega),r2]
  · refine ⟨(3,true),?_,?_,okT3⟩
    · unfold mR rP; simp [f2,k]
    · unfold nT; simp [f2,k]
  · obtain ⟨m,m1,m2⟩:=aNd acc [] (by omega) (by simp) hx (by simp)
    refine ⟨(if m=true then 3 else 0,m),?_,?_,by cases m; exact okT0; exact okT3⟩
    · unfold mR; simp [f2,k,m2]
    · rw [List.append_nil] at m1
      unfold nT kJ; cases m <;> simp [f2,k,m1]
  · obtain ⟨m,m1,m2⟩:=aNd acc [] (by omega) (by simp) hx (by simp)
    refine ⟨(if m=true then 3 else 0,m),?_,?_,by cases m; exact okT0; exact okT3⟩
    · unfold mR; simp [f2,k,m2]
    · rw [List.append_nil] at m1
      unfold nT kJ; cases m <;> simp [f2,k,m1]
  · obtain ⟨p, hp⟩ : ∃ p, e.sub = [p] := by
      match hh:e.sub,f2 with
      | [p],_=>exact ⟨p,rfl⟩
    obtain ⟨r,r1,r2,r3⟩:=HP p (by rw [hp]; simp)
    have ip:idx e.sub 0=some p:=by rw [hp]; rfl
    rw [ip]
    simp only [f2,k,r1,r2,Option.bind_eq_bind,Option.bind_some]
    obtain ⟨out,ok⟩:=r
    cases ok with
    | false=>exact ⟨(0,false),by simp,by simp,okT0⟩
    | true =>
    by_cases ho:out.length=1
    case neg =>
      have h3:¬ (out.length:Int)=1:=by omega
      exact ⟨(0,false),by simp [h3],by simp [h3],okT0⟩
    obtain ⟨t,ht⟩:∃ t,out=[t]:=by
      match out,ho with
      | [t],_=>exact ⟨t,rfl⟩
    subst ht
    have iw:IntKind.wrap .i64 (0+1)=1:=rfl
    have i0:idx [t] 0=some t:=rfl
    have ea:appG 8 acc [t]=some (acc++[t]):=by unfold appG; rw [if_pos (by simp; omega)]
    obtain ⟨m,m1,m2⟩:=aNd acc [t] (by omega) (by simp) hx (by intro x hx2; exact r3 x hx2)
    have h8:¬ e.kind=1:=by omega
    refine ⟨(if m=true then 3 else 0,m),?_,?_,by cases m; exact okT0; exact okT3⟩
    · rw [iw,qZ]
      unfold mR
      simp [f2,k,m2]
    · unfold nT kJ; cases m <;> simp [k,i0,ea,m1]
  · obtain ⟨p, hp⟩ : ∃ p, e.sub = [p] := by
      match hh:e.sub,f2 with
      | [p],_=>exact ⟨p,rfl⟩
    obtain ⟨r,r1,r2,r3⟩:=HP p (by rw [hp]; simp)
    have ip:idx e.sub 0=some p:=by rw [hp]; rfl
    rw [ip]
    simp only [f2,k,r1,r2,Option.bind_eq_bind,Option.bind_some]
    obtain ⟨out,ok⟩:=r
    cases ok with
    | false=>exact ⟨(0,false),by simp,by simp,okT0⟩
    | true =>
    have iw:IntKind.wrap .i64 (0+1)=1:=rfl
    have ha0:acc=[]:=List.eq_nil_of_length_eq_zero (by omega)
    subst ha0
    have hm:tH []=some true:=by unfold tH; rw [oH]; simp
    refine ⟨(3,true),?_,?_,okT3⟩
    · simp only [iw]
      rw [qZ]
      unfold mR rP
      simp [f2,k]
    · unfold nT kJ; simp [k,hm]
theorem aT2 {α:Type} {l:List α} {n:Nat} (h:n≤l.length):kY l 0 (n:Int)=some (l.take n):=by
  unfold kY
  rw [if_pos (by omega)]
  simp
theorem bUt (c:aJ) (env:List (List Int)) (p:aB) (hn:p.items.length≤1048576) (H:∀ e ∈ p.items,TyE c env e):∃ r:List Int×Bool,oV env p c [] 0=some r∧oI env c p [] 0=some r∧∀ x ∈ r.1,okT x:=by
  have key:∀ i,i≤p.items.length→∀ acc:List Int,acc.length=i→(∀ x ∈ acc,okT x)→∃ r:List Int×Bool,oV env p c acc (i:Nat)=some r∧oI env c p acc (i:Nat)=some r∧∀ x ∈ r.1,okT x:=by
    refine fC ?_ ?_
    · intro acc _ hx
      rw [oV,oI]
      exact ⟨(acc,true),by simp,by simp,hx⟩
    · intro i hi ih acc ha hx
      obtain ⟨r,h1,h2,h3⟩:=H _ (List.getElem_mem hi)
      have ea:appG 8 acc [r.1]=some (acc++[r.1]):=by unfold appG; rw [if_pos (by simp; omega)]
      rw [oV,oI]
      simp only [eF,hi,decide_true,if_true,dU hi,eU hi (by omega),h1,h2,ea,Option.bind_eq_bind,Option.bind_some]
      cases hr:r.2
      · exact ⟨([],false),by simp,by simp,by simp⟩
      · have:=ih (acc++[r.1]) (by simp [ha]) (by intro x hx2; rcases List.mem_append.1 hx2 with h | h; exact hx x h; simp at h; rw [h]; exact h3)
        simpa using this
  simpa using key 0 (by omega) [] rfl (by simp)
theorem bRh (c:aJ) (env:List (List Int)) (p:aB) (hn:p.items.length≤1048576) (ho:p.order.length≤1048576) (H:∀ e ∈ p.items,TyE c env e) (HO:∀ k ∈ p.order,TyE c env k.expr):∃ r:List Int×Bool,rD env p c 0=some r∧tJ env c p 0=some r∧∀ x ∈ r.1,okT x:=by
  have key:∀ i,i≤p.order.length→∃ r:List Int×Bool,rD env p c (i:Nat)=some r∧tJ env c p (i:Nat)=some r∧∀ x ∈ r.1,okT x:=by
    refine fC ?_ ?_
    · rw [rD,tJ]
      simpa using bUt c env p hn H
    · intro i hi ih
      obtain ⟨r,h1,h2,h3⟩:=HO _ (List.getElem_mem hi)
      rw [rD,tJ]
      simp only [eF,hi,decide_true,if_true,dU hi,eU hi (by omega),h1,h2,Option.bind_eq_bind,Option.bind_some]
      cases hr:r.2
      · exact ⟨([],false),by simp,by simp,by simp⟩
      · simpa using ih
  simpa using key 0 (by omega)
theorem aXy {row:List Int} {env:List (List Int)} (hr:row.length≤4194304) (hx:∀ x ∈ row,okT x) (hv:lW env):lW (row::env):=by
  intro r h
  rcases List.mem_cons.1 h with rfl | h
  · exact ⟨hr,hx⟩
  · exact hv r h
theorem bZx (c : aJ) (hc : kT c) (env : List (List Int)) (hv : lW env) (hl : env.length < 4194304) (p : aB) (ho : p.on_.length ≤ 1048576) (hn : p.names.length ≤ 1048576) (ht : p.tables.length ≤ 1048576)
    (H:∀ env',lW env'→env'.length=env.length+1→(∀ l ∈ p.on_,∀ e ∈ l,TyE c env' e)∧(∀ e ∈ p.where_,TyE c env' e)∧(∀ k ∈ p.order,TyE c env' k.expr)∧(∀ e ∈ p.items,TyE c env' e)):PlE c env p:=by
  unfold PlE
  obtain ⟨f1,f2⟩:=bFw c hc p ho hn ht
  obtain ⟨r1,r2⟩:=aN4 c hc p.tables ht
  rw [F7,M0,f1,f2,r1]
  simp only [Option.bind_eq_bind,Option.bind_some]
  cases hr:(fO c [] p.tables).2 with
  | false=>exact ⟨([],false),by simp,by simp,by simp⟩
  | true =>
  cases hP:N8 p with
  | false=>exact ⟨([],false),by simp,by simp,by simp⟩
  | true =>
  cases hO:onB p with
  | false=>exact ⟨([],false),by simp,by simp,by simp⟩
  | true =>
  cases hN:p.names.all nmB with
  | false=>exact ⟨([],false),by simp,by simp,by simp⟩
  | true =>
  simp only [Bool.not_true,Bool.true_and,Bool.and_self,beq_self_eq_true,if_true,Bool.false_eq_true,if_false,Option.bind_some]
  have hB:p.tables.length≤3∧p.on_.length=p.tables.length∧p.where_.length≤1∧p.order.length≤12∧p.items.length≤12:=by
    unfold N8 at hP
    simp only [Bool.and_eq_true,decide_eq_true_eq] at hP
    omega
  obtain ⟨b1,b2,b3,b4,b5⟩:=hB
  have hO1:∀ l ∈ p.on_,l.length≤1:=by
    unfold onB at hO
    simpa using hO
  obtain ⟨q1,q2⟩:=aNa c hc p.tables [] (by simp)
  simp only [List.length_nil] at q2
  obtain ⟨w1,w2⟩:=aZs (fO c [] p.tables).1 env (by omega)
  obtain ⟨-,m2,m3,m4⟩:=H ((fO c [] p.tables).1::env) (aXy (by omega) q1 hv) (by simp)
  have key:∀ i,i≤p.on_.length→∃ r:List Int×Bool,wL env (fO c [] p.tables) p c (i:Nat)=some r∧wK env c p (i:Nat)=some r∧∀ x ∈ r.1,okT x:=by
    refine fC ?_ ?_
    · obtain ⟨t,t1,t2⟩:=aL9 c ((fO c [] p.tables).1::env) p.where_ (by omega) m2
      rw [wL,wK]
      simp only [eF,Nat.lt_irrefl,decide_false,Bool.false_eq_true,if_false,r2,w1,w2,t1,t2,Option.bind_eq_bind,Option.bind_some]
      cases t
      · exact ⟨([],false),by simp,by simp,by simp⟩
      · simpa using bRh c _ p (by omega) (by omega) m4 m3
    · intro i hi ih
      obtain ⟨a1,a2⟩:=aNa c hc (p.tables.take (i+1)) [] (by simp)
      simp only [List.length_nil] at a2
      obtain ⟨a3,a4⟩:=aN4 c hc (p.tables.take (i+1)) (by rw [List.length_take]; omega)
      have a5:(p.tables.take (i+1)).length≤3:=by rw [List.length_take]; omega
      obtain ⟨a6,a7⟩:=aZs (fO c [] (p.tables.take (i+1))).1 env (by omega)
      obtain ⟨a8,-⟩:=H ((fO c [] (p.tables.take (i+1))).1::env) (aXy (by omega) a1 hv) (by simp)
      obtain ⟨t,t1,t2⟩:=aL9 c _ p.on_[i] (by have:=hO1 _ (List.getElem_mem hi); omega) (a8 _ (List.getElem_mem hi))
      have hs:kY p.tables 0 ((i+1:Nat):Int)=some (p.tables.take (i+1)):=aT2 (by omega)
      rw [wL,wK]
      simp only [eF,hi,decide_true,if_true,dU hi,eU hi (by omega),hs,a3,a4,a6,a7,t1,t2,Option.bind_eq_bind,Option.bind_some]
      cases t
      · exact ⟨([],false),by simp,by simp,by simp⟩
      · simpa using ih
  simpa using key 0 (by omega)
theorem aJi (c:aJ) (hc:kT c):∀ n:Nat,(∀ (e:aA) (env:List (List Int)),aX e<n→n≤1048577→lW env→env.length+n≤4000000→TyE c env e)∧(∀ (p:aB) (env:List (List Int)),cZ p<n→n≤1048577→lW env→env.length+n≤4000000→PlE c env p)
  | 0=>⟨fun _ _ h=>absurd h (by omega),fun _ _ h=>absurd h (by omega)⟩
  | n+1=>by
    obtain ⟨i1,i2⟩:=aJi c hc n
    refine ⟨fun e env he hn hv hl=>?_,fun p env hp hn hv hl=>?_⟩
    · have:=aTr e
      exact bOz c env hv (by omega) e (by omega) (by omega) (fun k hk=>i1 k env (by have:=aMr hk; have:=List.length_pos_of_mem hk; omega) (by omega) hv (by omega)) fun p hp=>i2 p env (by have:=aNh hp; have:=List.length_pos_of_mem hp; omega) (by omega) hv (by omega)
    · have:=aTl p
      refine bZx c hc env hv (by omega) p (by omega) (by omega) (by omega) fun env' hv' hl'=>⟨fun l hm e he=>i1 e env' ?_ (by omega) hv' (by omega),fun e he=>i1 e env' ?_ (by omega) hv' (by omega),fun k hk=>i1 k.expr env' ?_ (by omega) hv' (by omega),fun e he=>i1 e env' ?_ (by omega) hv' (by omega)⟩
      · have:=onZ hm he; have:=List.length_pos_of_mem he; omega
      · have:=aS5 he; have:=List.length_pos_of_mem he; omega
      · have:=aXg hk; have:=List.length_pos_of_mem hk; omega
      · have:=aV9 he; have:=List.length_pos_of_mem he; omega
theorem aYb (c:aJ) (hc:kT c) (e:aA) (env:List (List Int)) (hz:aX e≤1048576) (hv:lW env) (hl:env.length≤1000):TyE c env e:=(aJi c hc (aX e+1)).1 e env (by omega) (by omega) hv (by omega)
theorem bHm (c:aJ) (hc:kT c) (p:aB) (env:List (List Int)) (hz:cZ p≤1048576) (hv:lW env) (hl:env.length≤1000):PlE c env p:=(aJi c hc (cZ p+1)).2 p env (by omega) (by omega) hv (by omega)
theorem aPc {c:aJ} (h:Z7 c):kT c:=by
  refine ⟨h.2,fun t ht=>?_⟩
  obtain ⟨i,hi,rfl⟩:=List.getElem_of_mem ht
  obtain ⟨t,h1,⟨h2,h3⟩,-⟩:=h.1 i hi
  rw [List.getElem?_eq_getElem hi] at h1
  simp only [Option.some.injEq] at h1; subst h1
  refine ⟨h3.2.2,fun x hx=>?_⟩
  unfold jC at hx
  obtain ⟨k,hk,rfl⟩:=List.mem_map.1 hx
  obtain ⟨j,hj,rfl⟩:=List.getElem_of_mem hk
  obtain ⟨k,k1,-,k2,-⟩:=h2 j hj
  rw [List.getElem?_eq_getElem hj] at k1
  simp only [Option.some.injEq] at k1; subst k1
  exact ⟨by omega,k2.2⟩
theorem summed {α γ : Type} {p : List α} {f : α → Option Int} {s : α → Int} {L : Int → Int → Option γ} {K : Int → Option γ} (hp : p.length ≤ 1048576)
    (hf:∀ y ∈ p,f y=some (s y)∧0≤s y)
    (hL:∀ (i:Nat) (x:Int),L x (i:Int)=if (decide ((i:Int)<(p.length:Int)))=true then ((idx p (i:Int))>>=fun y=>(f y)>>=fun z=>L (IntKind.wrap .i64 (x+z)) (IntKind.wrap .i64 ((i:Int)+1))) else K x) :
    ∀ x:Int,0≤x→x+(p.map s).sum≤9223372036854775807→L x 0=K (x+(p.map s).sum):=by
  have nn:∀ l:List α,(∀ y ∈ l,0≤s y)→0≤(l.map s).sum:=by
    intro l
    induction l with
    | nil=>intro _; simp
    | cons y l ih=>intro h; have h1:=h y (by simp); have h2:=ih fun z hz=>h z (by simp [hz]); simp only [List.map_cons,List.sum_cons]; omega
  have key:∀ i,i≤p.length→∀ x:Int,0≤x→x+((p.drop i).map s).sum≤9223372036854775807→L x (i:Nat)=K (x+((p.drop i).map s).sum):=by
    refine fC ?_ ?_
    · intro x _ _
      rw [hL]; simp
    · intro i hi ih x h0 hx
      obtain ⟨f1,f2⟩:=hf _ (List.getElem_mem hi)
      have hn:=nn (p.drop (i+1)) fun y hy=>(hf y (List.mem_of_mem_drop hy)).2
      rw [List.drop_eq_getElem_cons hi] at hx ⊢
      simp only [List.map_cons,List.sum_cons] at hx ⊢
      rw [hL,dU hi,eU hi (by omega)]
      simp only [eF,hi,decide_true,if_true,f1,Option.bind_eq_bind,Option.bind_some]
      rw [gG (by omega) (by omega),ih _ (by omega) (by omega),Int.add_assoc]
  intro x h0 hx
  simpa using key 0 (by omega) x h0 (by simpa using hx)
theorem M7 {α:Type} {s:α→Int}:∀ l:List α,(∀ y ∈ l,0≤s y)→0≤(l.map s).sum
  | [],_=>by simp
  | y::l,h=>by have h1:=h y (by simp); have h2:=M7 l fun z hz=>h z (by simp [hz]); simp only [List.map_cons,List.sum_cons]; omega
theorem oO {α:Type} {s:α→Int} {z:α→Nat}:∀ l:List α,(∀ y ∈ l,s y≤(z y:Int)+1)→(l.map s).sum≤(zL z l:Int)
  | [],_=>by simp [zL]
  | y::l,h=>by
    have h1:=h y (by simp); have h2:=oO l fun w hw=>h w (by simp [hw])
    unfold zL at *
    simp only [List.map_cons,List.sum_cons,List.length_cons] at *; omega
def mx {α:Type} (d:α→Int) (l:List α) (x:Int):Int:=l.foldl (fun b y=>if d y > b then d y else b) x
theorem aVf {α:Type} {d:α→Int} {n:Int}:∀ (l:List α) (x:Int),mx d l x≤n↔x≤n∧∀ y ∈ l,d y≤n
  | [],x=>by simp [mx]
  | y::l,x=>by
    have:=aVf (d:=d) (n:=n) l (if d y > x then d y else x)
    unfold mx at *
    rw [List.foldl_cons,this]
    simp only [List.mem_cons,forall_eq_or_imp]
    split
    · constructor
      · rintro ⟨a,b⟩; exact ⟨by omega,a,b⟩
      · rintro ⟨a,b,c⟩; exact ⟨b,c⟩
    · constructor
      · rintro ⟨a,b⟩; exact ⟨a,by omega,b⟩
      · rintro ⟨a,b,c⟩; exact ⟨a,c⟩
theorem aJr (a b:Int):nR a b=some (if b > a then b else a):=by
  unfold nR
  by_cases h:b<a
  · have:¬ a<b:=by omega
    simp [h,this]
  · by_cases h2:a<b
    · simp [h,h2]
    · have:a=b:=by omega
      subst this; simp
def jH (p:aB):List aA:=p.on_.flatMap (fun l=>l)++p.where_++p.order.flatMap (fun k=>[k.expr])++p.items
theorem aLz {α β:Type} {f:α→List β} {z:α→Nat}:∀ l:List α,(∀ y ∈ l,(f y).length≤z y+1)→(l.flatMap f).length≤zL z l
  | [],_=>by simp [zL]
  | y::l,h=>by
    have h1:=h y (by simp); have h2:=aLz l fun w hw=>h w (by simp [hw])
    unfold zL at *
    simp only [List.flatMap_cons,List.length_append,List.map_cons,List.sum_cons,List.length_cons] at *; omega
theorem aJy (l:List aY):(l.flatMap fun k=>[k.expr])=l.map fun k=>k.expr:=by
  induction l with
  | nil=>rfl
  | cons x l ih=>rw [List.flatMap_cons,ih]; rfl
theorem aTx (p:aB):(jH p).length≤cZ p:=by
  have h1:=wB p
  have h2:=aLz (f:=fun l:List aA=>l) (z:=zL aX) p.on_ fun y _=>by have:=gU (z:=aX) y; omega
  have h3:=gU (z:=aX) p.where_
  have h4:=gU (z:=aX) p.items
  unfold jH
  simp only [List.length_append,aJy,List.length_map]
  omega
theorem aSu {p:aB} {e:aA} (h:e ∈ jH p):aX e<cZ p:=by
  unfold jH at h
  simp only [List.mem_append,List.mem_flatMap,List.mem_singleton] at h
  rcases h with ((⟨l,h1,h2⟩ | h) | ⟨k,h1,rfl⟩) | h
  · have:=onZ h1 h2; have:=List.length_pos_of_mem h2; omega
  · have:=aS5 h; have:=List.length_pos_of_mem h; omega
  · have:=aXg h1; have:=List.length_pos_of_mem h1; omega
  · have:=aV9 h; have:=List.length_pos_of_mem h; omega
theorem aLw {s:aA→Int}:∀ l:List (List aA),(∀ r ∈ l,∀ y ∈ r,s y≤(aX y:Int)+1)→((l.flatMap (fun r=>r)).map s).sum≤(zL (zL aX) l:Int)
  | [],_=>by simp [zL]
  | r::l,h=>by
    have h1:=oO (s:=s) (z:=aX) r (h r (by simp)); have h2:=aLw (s:=s) l fun w hw=>h w (by simp [hw])
    rw [List.flatMap_cons,List.map_append,List.sum_append]
    have:(zL (zL aX) (r::l):Int)=1+zL aX r+zL (zL aX) l:=by unfold zL; simp only [List.length_cons,List.map_cons,List.sum_cons]; omega
    omega
theorem bIu {s:aA→Int} (p:aB) (h:∀ y ∈ jH p,s y≤(aX y:Int)+1):((jH p).map s).sum≤(cZ p:Int):=by
  have h1:=wB p
  unfold jH at *
  have a1:=aLw (s:=s) p.on_ fun r hr y hy=>h y (by simp only [List.mem_append,List.mem_flatMap]; exact .inl (.inl (.inl ⟨r,hr,hy⟩)))
  have a2:=oO (s:=s) (z:=aX) p.where_ fun y hy=>h y (by simp only [List.mem_append]; exact .inl (.inl (.inr hy)))
  have a3:=oO (s:=fun k:aY=>s k.expr) (z:=fun k=>aX k.expr) p.order fun y hy=>h y.expr (by rw [aJy]; simp only [List.mem_append,List.mem_map]; exact .inl (.inr ⟨y,hy,rfl⟩))
  have a4:=oO (s:=s) (z:=aX) p.items fun y hy=>h y (by simp only [List.mem_append]; exact .inr hy)
  rw [aJy]
  simp only [List.map_append,List.sum_append,List.map_map]
  have:(p.order.map (s ∘ fun k=>k.expr))=p.order.map fun k:aY=>s k.expr:=rfl
  rw [this]
  unfold zL at a3
  omega
theorem kE {l m:List aA} (h:l.length+m.length≤4194304):appG 120 l m=some (l++m):=bS8 (by omega)
theorem parts_eq (p:aB) (hz:cZ p≤1048576):F3 p=some (jH p)∧L6 p=some (jH p):=by
  have hl:=aTl p
  have hp:=aTx p
  unfold jH at hp
  simp only [List.length_append] at hp
  have o1:∀ acc:List aA,acc.length+(p.order.flatMap fun k=>[k.expr]).length+p.items.length≤4194304→qH p acc 0=some (acc++(p.order.flatMap fun k=>[k.expr])++p.items):=by
    intro acc ha
    rw [gather (p:=p.order) (f:=fun k=>[k.expr]) (c:=4194304) (G:=fun y acc=>appG 120 acc ([y.expr]:List aA)) (L:=fun acc i=>qH p acc i) (K:=fun x=>(appG 120 x p.items)>>=fun (y7:List aA)=>some y7) (by omega) (fun y _ acc h=>kE h) (fun i acc=>by rw [qH]) acc (by omega)]
    rw [kE (by rw [List.length_append]; omega)]; rfl
  have o2:∀ acc:List aA,acc.length+(p.order.flatMap fun k=>[k.expr]).length+p.items.length≤4194304→pG p acc 0=some (acc++(p.order.flatMap fun k=>[k.expr])++p.items):=by
    intro acc ha
    rw [gather (p:=p.order) (f:=fun k=>[k.expr]) (c:=4194304) (G:=fun y acc=>appG 120 acc ([y.expr]:List aA)) (L:=fun acc i=>pG p acc i) (K:=fun x=>(appG 120 x p.items)>>=fun (y7:List aA)=>some y7) (by omega) (fun y _ acc h=>kE h) (fun i acc=>by rw [pG]) acc (by omega)]
    rw [kE (by rw [List.length_append]; omega)]; rfl
  constructor
  · rw [F3,gather (p:=p.on_) (f:=fun l=>l) (c:=4194304) (G:=fun y acc=>appG 120 acc y) (L:=fun acc i=>xU p acc i) (K:=fun x=>(appG 120 x p.where_)>>=fun (y3:List aA)=>qH p y3 0) (by omega) (fun y _ acc h=>kE h) (fun i acc=>by rw [xU]) [] (by simp only [List.length_nil]; omega)]
    rw [kE (by simp only [List.nil_append]; omega)]
    simp only [Option.bind_eq_bind,Option.bind_some,List.nil_append]
    rw [o1 _ (by simp only [List.length_append]; omega)]; rfl
  · rw [L6,gather (p:=p.on_) (f:=fun l=>l) (c:=4194304) (G:=fun y acc=>appG 120 acc y) (L:=fun acc i=>wH p acc i) (K:=fun x=>(appG 120 x p.where_)>>=fun (y3:List aA)=>pG p y3 0) (by omega) (fun y _ acc h=>kE h) (fun i acc=>by rw [wH]) [] (by simp only [List.length_nil]; omega)]
    rw [kE (by simp only [List.nil_append]; omega)]
    simp only [Option.bind_eq_bind,Option.bind_some,List.nil_append]
    rw [o2 _ (by simp only [List.length_append]; omega)]; rfl
def dE (e:aA):Int:=(vD e).getD 0
def sE (e:aA):Int:=(qC e).getD 0
def dP (p:aB):Int:=(nH p).getD 0
def sP (p:aB):Int:=(nK p).getD 0
def DsE (e:aA):Prop:=vD e=some (dE e)∧nZ e=some (dE e)∧qC e=some (sE e)∧nV e=some (sE e)∧0≤sE e∧sE e≤(aX e:Int)+1
def DsP (p:aB):Prop:=nH p=some (dP p)∧xX p=some (dP p)∧nK p=some (sP p)∧xV p=some (sP p)∧0≤sP p∧sP p≤(cZ p:Int)
theorem aHl (l:List aA) (hl:l.length≤1048576) (H:∀ e ∈ l,DsE e) (x:Int):wI l x 0=some (mx dE l x)∧sV l x 0=some (mx dE l x):=by
  constructor
  · exact folded (p:=l) (g:=fun y b=>(vD y)>>=fun z=>some (if z > b then z else b)) (h:=fun y b=>if dE y > b then dE y else b) (L:=fun b i=>wI l b i) (K:=fun b=>some b) hl (fun y hy b=>by rw [(H y hy).1]; rfl) (fun i b=>by rw [wI]; simp only [Option.bind_eq_bind,Option.bind_assoc,Option.bind_some]) x
  · exact folded (p:=l) (g:=fun y b=>(nZ y)>>=fun z=>nR b z) (h:=fun y b=>if dE y > b then dE y else b) (L:=fun b i=>sV l b i) (K:=fun b=>some b) hl (fun y hy b=>by rw [(H y hy).2.1]; exact aJr _ _) (fun i b=>by rw [sV]; simp only [Option.bind_eq_bind,Option.bind_assoc]) x
theorem aHk (l:List aA) (hl:l.length≤1048576) (hz:(l.map sE).sum≤4194304) (H:∀ e ∈ l,DsE e):tL l=some ((l.map sE).sum)∧vH l 0 0=some ((l.map sE).sum):=by
  constructor
  · rw [tL,summed (p:=l) (f:=qC) (s:=sE) (L:=fun x i=>zI l x i) (K:=fun x=>some x) hl (fun y hy=>⟨(H y hy).2.2.1,(H y hy).2.2.2.2.1⟩) (fun i x=>by rw [zI]) 0 (by omega) (by omega)]
    simp
  · rw [summed (p:=l) (f:=nV) (s:=sE) (L:=fun x i=>vH l x i) (K:=fun x=>some x) hl (fun y hy=>⟨(H y hy).2.2.2.1,(H y hy).2.2.2.2.1⟩) (fun i x=>by rw [vH]) 0 (by omega) (by omega)]
    simp
theorem bGc (p:aB) (hz:cZ p≤1048576) (H:∀ e ∈ jH p,DsE e):DsP p:=by
  obtain ⟨p1,p2⟩:=parts_eq p hz
  have hl:=aTx p
  have hs:=bIu (s:=sE) p fun y hy=>(H y hy).2.2.2.2.2
  have hn:=M7 (s:=sE) (jH p) fun y hy=>(H y hy).2.2.2.2.1
  obtain ⟨a1,a2⟩:=aHl _ (by omega) H 0
  obtain ⟨b1,b2⟩:=aHk _ (by omega) (by omega) H
  have e1:nH p=some (mx dE (jH p) 0):=by rw [nH,p1]; simp only [Option.bind_eq_bind,Option.bind_some,qA,a1]
  have e2:nK p=some (((jH p).map sE).sum):=by rw [nK,p1]; simp only [Option.bind_eq_bind,Option.bind_some,b1]
  have d1:dP p=mx dE (jH p) 0:=by unfold dP; rw [e1]; rfl
  have d2:sP p=((jH p).map sE).sum:=by unfold sP; rw [e2]; rfl
  unfold DsP
  rw [d1,d2]
  exact ⟨e1,by rw [xX,p2]; exact a2,e2,by rw [xV,p2]; exact b2,hn,hs⟩
theorem bXn (e:aA) (hz:aX e≤1048576) (HK:∀ k ∈ e.kids,DsE k) (HS:∀ p ∈ e.sub,DsP p):DsE e:=by
  have hl:=aTr e
  have hzz:=aGn e
  have s1:=oO (s:=sE) (z:=aX) e.kids fun y hy=>(HK y hy).2.2.2.2.2
  have s2:=oO (s:=sP) (z:=cZ) e.sub fun y hy=>by have:=(HS y hy).2.2.2.2.2; omega
  have n1:=M7 (s:=sE) e.kids fun y hy=>(HK y hy).2.2.2.2.1
  have n2:=M7 (s:=sP) e.sub fun y hy=>(HS y hy).2.2.2.2.1
  obtain ⟨a1,-⟩:=aHl e.kids (by omega) HK 0
  obtain ⟨b1,-⟩:=aHk e.kids (by omega) (by omega) HK
  have e1:vD e=some (IntKind.wrap .i64 (1+mx dP e.sub (mx dE e.kids 0))):=by
    rw [vD,qA,a1]
    exact folded (p:=e.sub) (g:=fun y b=>(nH y)>>=fun z=>some (if z > b then z else b)) (h:=fun y b=>if dP y > b then dP y else b) (L:=fun b i=>C9 e b i) (K:=fun b=>some (IntKind.wrap .i64 (1+b))) (by omega) (fun y hy b=>by rw [(HS y hy).1]; rfl) (fun i b=>by rw [C9]; simp only [Option.bind_eq_bind,Option.bind_assoc,Option.bind_some]) _
  have e2:nZ e=some (IntKind.wrap .i64 (1+mx dP e.sub (mx dE e.kids 0))):=by
    rw [nZ,folded (p:=e.kids) (g:=fun y b=>(nZ y)>>=fun z=>nR b z) (h:=fun y b=>if dE y > b then dE y else b) (L:=fun b i=>G8 e b i) (K:=fun b=>wM e b 0) (by omega) (fun y hy b=>by rw [(HK y hy).2.1]; exact aJr _ _) (fun i b=>by rw [G8]; simp only [Option.bind_eq_bind,Option.bind_assoc]) 0]
    rw [Int.add_comm 1]
    exact folded (p:=e.sub) (g:=fun y b=>(xX y)>>=fun z=>nR b z) (h:=fun y b=>if dP y > b then dP y else b) (L:=fun b i=>wM e b i) (K:=fun b=>some (IntKind.wrap .i64 (b+1))) (by omega) (fun y hy b=>by rw [(HS y hy).2.1]; exact aJr _ _) (fun i b=>by rw [wM]; simp only [Option.bind_eq_bind,Option.bind_assoc]) _
  have e3:qC e=some (1+(e.kids.map sE).sum+(e.sub.map sP).sum):=by
    rw [qC,b1]
    simp only [Option.bind_eq_bind,Option.bind_some]
    rw [gG (by omega) (by omega)]
    exact summed (p:=e.sub) (f:=nK) (s:=sP) (L:=fun x i=>zP e x i) (K:=fun x=>some x) (by omega) (fun y hy=>⟨(HS y hy).2.2.1,(HS y hy).2.2.2.2.1⟩) (fun i x=>by rw [zP]) _ (by omega) (by omega)
  have e4:nV e=some (1+(e.kids.map sE).sum+(e.sub.map sP).sum):=by
    rw [nV,summed (p:=e.kids) (f:=nV) (s:=sE) (L:=fun x i=>zR e x i) (K:=fun x=>yA e x 0) (by omega) (fun y hy=>⟨(HK y hy).2.2.2.1,(HK y hy).2.2.2.2.1⟩) (fun i x=>by rw [zR]) 1 (by omega) (by omega)]
    exact summed (p:=e.sub) (f:=xV) (s:=sP) (L:=fun x i=>yA e x i) (K:=fun x=>some x) (by omega) (fun y hy=>⟨(HS y hy).2.2.2.1,(HS y hy).2.2.2.2.1⟩) (fun i x=>by rw [yA]) _ (by omega) (by omega)
  have d1:dE e=IntKind.wrap .i64 (1+mx dP e.sub (mx dE e.kids 0)):=by unfold dE; rw [e1]; rfl
  have d2:sE e=1+(e.kids.map sE).sum+(e.sub.map sP).sum:=by
    have:sE e=(qC e).getD 0:=rfl
    rw [this,e3]; rfl
  unfold DsE
  rw [← d1] at e1 e2
  rw [← d2] at e3 e4
  exact ⟨e1,e2,e3,e4,by omega,by omega⟩
theorem aNr:∀ n:Nat,(∀ e:aA,aX e<n→aX e≤1048576→DsE e)∧(∀ p:aB,cZ p<n→cZ p≤1048576→DsP p)
  | 0=>⟨fun _ h=>absurd h (by omega),fun _ h=>absurd h (by omega)⟩
  | n+1=>by
    obtain ⟨i1,i2⟩:=aNr n
    exact ⟨fun e he hz=>bXn e hz (fun k hk=>i1 k (by have:=aMr hk; have:=List.length_pos_of_mem hk; omega) (by have:=aMr hk; omega)) fun p hp=>i2 p (by have:=aNh hp; have:=List.length_pos_of_mem hp; omega) (by have:=aNh hp; omega),
      fun p hp hz=>bGc p hz fun e he=>i1 e (by have:=aSu he; omega) (by have:=aSu he; omega)⟩
theorem bSg (e:aA) (hz:aX e≤1048576):DsE e:=(aNr _).1 e (Nat.lt_succ_self _) hz
theorem bQ7 (p:aB) (hz:cZ p≤1048576):DsP p:=(aNr _).2 p (Nat.lt_succ_self _) hz
theorem fits_eq (c:aJ) (hc:kT c) (env:List (List Int)) (hv:lW env) (hl:env.length≤1000) (e:aA) (hz:aX e≤1048576) (ty:Int) (ht:okT ty):∃ b,J4 c env e ty=some b∧yX c env e ty=some b:=by
  obtain ⟨r,h1,h2,h3⟩:=aYb c hc e env hz hv hl
  obtain ⟨m,m1,m2⟩:=aIc h3 ht
  unfold J4 yX
  simp only [h1,h2,aNk,m1,Option.bind_eq_bind,Option.bind_some]
  cases r.2
  · exact ⟨false,by simp,by simp⟩
  · exact ⟨m.2,by simp,by simp⟩
def D9 (p:bM):Bool:=decide (p.cols.length=0)&&decide (p.sets.length=0)&&decide (p.where_.length=0)
theorem bKu (c : aJ) (hc : kT c) (ts : List Int) (hts : ∀ x ∈ ts, okT x) (hl : ts.length ≤ 4) (p : bM) (hr : p.rows.length ≤ 1048576) (h1 : p.cols.length ≤ 1048576) (h2 : p.sets.length ≤ 1048576) (h3 : p.where_.length ≤ 1048576) (hz : ∀ r ∈ p.rows, ∀ e ∈ r, aX e ≤ 1048576) :
    ∃ b,tZ ts p.rows c 0=some b∧vN ts c p 0=some (b&&D9 p):=by
  have key:∀ i,i≤p.rows.length→∃ b,tZ ts p.rows c (i:Nat)=some b∧vN ts c p (i:Nat)=some (b&&D9 p):=by
    refine fC ?_ ?_
    · rw [tZ,vN]
      unfold dX D9
      simp only [eF,Nat.lt_irrefl,decide_false,Bool.false_eq_true,if_false,Option.bind_eq_bind,Option.bind_some]
      rw [gG (n:=(p.cols.length:Int)+(p.sets.length:Int)) (by omega) (by omega),gG (by omega) (by omega)]
      refine ⟨_,rfl,?_⟩
      have e:decide ((p.cols.length:Int)+(p.sets.length:Int)+(p.where_.length:Int)=0)=(decide (p.cols.length=0)&&decide (p.sets.length=0)&&decide (p.where_.length=0)):=by
        rw [Bool.eq_iff_iff]; simp only [Bool.and_eq_true,decide_eq_true_eq]; omega
      rw [e]
      generalize (decide (p.cols.length=0)&&decide (p.sets.length=0)&&decide (p.where_.length=0))=x
      by_cases q1:(1:Int)≤(p.rows.length:Int)
      · by_cases q2:(p.rows.length:Int)≤5 <;> cases x <;> simp [q1,q2]
      · cases x <;> simp [q1]
    · intro i hi ih
      rw [tZ,vN]
      have hm:=List.getElem_mem hi
      simp only [eF,hi,decide_true,if_true,dU hi,Option.bind_eq_bind,Option.bind_some]
      by_cases hq:p.rows[i].length=ts.length
      case neg =>
        have:¬ (p.rows[i].length:Int)=(ts.length:Int):=by omega
        exact ⟨false,by simp [this],by simp [this]⟩
      have hq':(p.rows[i].length:Int)=(ts.length:Int):=by omega
      simp only [hq',decide_true,Bool.not_true,Bool.false_eq_true,if_false]
      have inner:∀ k,k≤ts.length→∃ b,uU ts p.rows (i:Int) p.rows[i] c (k:Nat)=some b∧uK ts (i:Int) c p (k:Nat)=some (b&&D9 p):=by
        refine fC ?_ ?_
        · rw [uU,uK]
          simp only [hq',eF,Nat.lt_irrefl,decide_false,Bool.false_eq_true,if_false,eU hi (by omega)]
          exact ih
        · intro k hk ik
          have hk2:k<p.rows[i].length:=by omega
          obtain ⟨b,b1,b2⟩:=fits_eq c hc [] (by intro r hr; simp at hr) (by simp) (p.rows[i][k]) (hz _ hm _ (List.getElem_mem hk2)) ts[k] (hts _ (List.getElem_mem hk))
          rw [uU,uK]
          simp only [hq',eF,hk,decide_true,if_true,dU hi,dU hk,dU hk2,b1,b2,eU hk (by omega),Option.bind_eq_bind,Option.bind_some]
          cases b
          · exact ⟨false,by simp,by simp⟩
          · simpa using ik
      simpa using inner 0 (by omega)
  simpa using key 0 (by omega)
theorem bW7 (l:List Int) (x:Int) (hl:l.length≤1048576):aAx l x=some (l.contains x):=by
  have key:∀ i,i≤l.length→∃ k,uB l x (i:Nat)=some k∧decide (0≤k)=(l.drop i).contains x:=by
    refine fC ?_ ?_
    · rw [uB]
      exact ⟨-1,by simp,by simp⟩
    · intro i hi ih
      rw [uB,List.drop_eq_getElem_cons hi,List.contains_cons]
      simp only [eF,hi,decide_true,if_true,dU hi,eU hi (by omega),Option.bind_eq_bind,Option.bind_some]
      by_cases h:x=l[i]
      · exact ⟨(i:Int),by simp [h],by simp [h]⟩
      · have hb:(x==l[i])=false:=by simpa using h
        rw [hb,Bool.false_or]
        simpa only [h,decide_false,Bool.false_eq_true,if_false] using ih
  obtain ⟨k,h1,h2⟩:=key 0 (by omega)
  rw [show ((0:Nat):Int)=0 from rfl] at h1
  rw [aAx,aD5,h1]
  simpa using h2
theorem bR1 (l:List Int) (x:Int) (hl:l.length≤1048576):R9 l x=some (l.contains x):=by
  have key:∀ i,i≤l.length→rU l x (i:Nat)=some ((l.drop i).contains x):=by
    refine fC ?_ ?_
    · rw [rU]; simp
    · intro i hi ih
      rw [rU,List.drop_eq_getElem_cons hi,List.contains_cons]
      simp only [eF,hi,decide_true,if_true,dU hi,eU hi (by omega),Option.bind_eq_bind,Option.bind_some]
      by_cases h:l[i]=x
      · simp [h]
      · have hb:(x==l[i])=false:=by simp; exact fun e=>h e.symm
        rw [hb,Bool.false_or]
        simpa only [h,decide_false,Bool.false_eq_true,if_false] using ih
  simpa [R9] using key 0 (by omega)
theorem bNi (c : aJ) (hc : kT c) (ts : List Int) (hts : ∀ x ∈ ts, okT x) (hl : ts.length ≤ 4) (p : bM) (h1 : p.cols.length ≤ 1048576) (h2 : p.sets.length = p.cols.length) (hz : ∀ e ∈ p.sets, aX e ≤ 1048576) :
    ∃ b,pV ts p c 0=some b∧oW [ts] ts c p 0=some b∧(b=true→p.cols.length≤4):=by
  have hv:lW [ts]:=by
    intro r hr
    simp only [List.mem_singleton] at hr
    subst hr
    exact ⟨by omega,hts⟩
  have key:∀ i,i≤p.cols.length→∃ b,pV ts p c (i:Nat)=some b∧oW [ts] ts c p (i:Nat)=some b∧(b=true→∀ k (hk:k<p.cols.length),i≤k→(0≤p.cols[k]∧p.cols[k]<(ts.length:Int))∧(p.cols.take k).contains p.cols[k]=false):=by
    refine fC ?_ ?_
    · rw [pV,oW]
      exact ⟨true,by simp,by simp,fun _ k hk h=>absurd hk (by omega)⟩
    · intro i hi ih
      have hi2:i<p.sets.length:=by omega
      rw [pV,oW]
      unfold dX
      have hw:IntKind.wrap .i64 ((ts.length:Int) - 1)=(ts.length:Int) - 1:=gG (by omega) (by omega)
      have ht1:(p.cols.take i).length≤1048576:=by rw [List.length_take]; omega
      have ht2:=bW7 (p.cols.take i) p.cols[i] ht1
      have ht3:=bR1 (p.cols.take i) p.cols[i] ht1
      have ht4:=aT2 (l:=p.cols) (n:=i) (by omega)
      simp only [eF,hi,decide_true,if_true,dU hi,dU hi2,eU hi (by omega),hw,ht4,Option.bind_eq_bind,Option.bind_some]
      by_cases u0:0≤p.cols[i]
      case neg => exact ⟨false, by have : p.cols[i] < 0 := by omega
                                   simp [this],by simp [u0],by simp⟩
      by_cases u1:p.cols[i]<(ts.length:Int)
      case neg => exact ⟨false, by have a : (ts.length : Int) ≤ p.cols[i] := by omega
                                   have b:¬ p.cols[i]<0:=by omega
                                   simp [a, b], by have : ¬ p.cols[i] ≤ (ts.length : Int) - 1 := by omega
                                                   simp [u0,this],by simp⟩
      have a1:¬ p.cols[i]<0:=by omega
      have a2:¬ (ts.length:Int)≤p.cols[i]:=by omega
      have a3:p.cols[i]≤(ts.length:Int) - 1:=by omega
      have hj:p.cols[i].toNat<ts.length:=by omega
      have hx:idx ts p.cols[i]=some ts[p.cols[i].toNat]:=by
        have:=dU hj
        rwa [show ((p.cols[i].toNat:Nat):Int)=p.cols[i] by omega] at this
      obtain ⟨b,b1,b2⟩:=fits_eq c hc [ts] hv (by simp) p.sets[i] (hz _ (List.getElem_mem hi2)) ts[p.cols[i].toNat] (hts _ (List.getElem_mem hj))
      simp only [a1,a2,a3,u0,hx,ht2,ht3,b1,b2,decide_true,decide_false,if_true,if_false,Bool.false_eq_true,Bool.not_true,beq_self_eq_true,Bool.and_self,Option.bind_some]
      cases ht:(p.cols.take i).contains p.cols[i] with
      | true=>exact ⟨false,rfl,rfl,fun h=>by simp at h⟩
      | false =>
      simp only [beq_self_eq_true,Bool.and_self,if_true,Bool.false_eq_true,if_false,hx,b1,b2,Option.bind_some]
      cases b with
      | false=>exact ⟨false,rfl,rfl,fun h=>by simp at h⟩
      | true =>
      obtain ⟨b,c1,c2,c3⟩:=ih
      refine ⟨b,c1,c2,fun hb k hk hik=>?_⟩
      by_cases hki:k=i
      · subst hki; exact ⟨⟨u0,u1⟩,ht⟩
      · exact c3 hb k hk (by omega)
  obtain ⟨b,h1',h2',h3'⟩:=key 0 (by omega)
  refine ⟨b,h1',h2',fun hb=>?_⟩
  have hg:=h3' hb
  have hnd:p.cols.Nodup:=by
    rw [List.nodup_iff_pairwise_ne,List.pairwise_iff_getElem]
    intro i j hi hj hij h
    have:=(hg j hj (by omega)).2
    rw [List.contains_eq_mem,decide_eq_false_iff_not] at this
    refine this ?_
    rw [List.mem_take_iff_getElem]
    exact ⟨i,by omega,h⟩
  have hsub:p.cols ⊆ (List.range ts.length).map fun n:Nat=>(n:Int):=by
    intro x hx
    obtain ⟨k,hk,rfl⟩:=List.getElem_of_mem hx
    obtain ⟨⟨g1,g2⟩,-⟩:=hg k hk (by omega)
    rw [List.mem_map]
    exact ⟨p.cols[k].toNat,by rw [List.mem_range]; omega,by omega⟩
  have:=hnd.length_le_of_subset hsub
  simp only [List.length_map,List.length_range] at this
  omega
def U1 (p:aB):Bool:=decide (p.tables=[])&&decide (p.on_.length=0)&&decide (p.where_.length=0)&&decide (p.order.length=0)&&decide (p.items.length=0)&&decide (p.names=[])&&(p.distinct==false)&&decide (p.limit=0)
theorem bHq (p:aB):O4 p=some (U1 p)∧K3 p (aB.mk ([]:List Int) ([]:List (List aA)) ([]:List aA) ([]:List aY) ([]:List aA) ([]:List (List UInt8)) false 0)=some (U1 p):=by
  have i1:∀ l:List Int,P6 l []=some (decide (l=[])):=by
    intro l; unfold P6; rw [M4]; cases l <;> simp <;> omega
  have i2:∀ l:List (List aA),aAa l []=some (decide (l.length=0)):=by
    intro l; rw [aAa,Y3]; cases l <;> simp <;> omega
  have i3:∀ l:List aA,uW l []=some (decide (l.length=0)):=by
    intro l; rw [uW,aCa,Y7]; cases l <;> simp <;> omega
  have i4:∀ l:List aY,Q4 l []=some (decide (l.length=0)):=by
    intro l; rw [Q4,Q9]; cases l <;> simp <;> omega
  have i5:∀ l:List (List UInt8),Z5 l []=some (decide (l=[])):=by
    intro l; unfold Z5; rw [F8]; cases l <;> simp <;> omega
  have s1:∀ l:List Int,aB3 l []=some (decide (l=[])):=by
    intro l; unfold aB3; rw [zX]; cases l <;> simp <;> omega
  have s3:∀ l:List aA,rG l []=some (decide (l.length=0)):=by
    intro l; rw [rG,aAc]; cases l <;> simp <;> omega
  have s5:∀ l:List (List UInt8),aAf l []=some (decide (l=[])):=by
    intro l; unfold aAf; rw [L9]; cases l <;> simp <;> omega
  constructor
  · unfold O4
    rw [aA1]
    unfold U1
    simp only [i1,i2,i3,i4,i5,Option.bind_eq_bind,Option.bind_some]
    generalize decide (p.tables=[])=b1
    generalize decide (p.on_.length=0)=b2
    generalize decide (p.where_.length=0)=b3
    generalize decide (p.order.length=0)=b4
    generalize decide (p.items.length=0)=b5
    generalize decide (p.names=[])=b6
    cases b1 <;> cases b2 <;> cases b3 <;> cases b4 <;> cases b5 <;> cases b6 <;> simp
  · rw [K3,aB1,zT]
    unfold U1
    simp only [s1,s3,s5,Option.bind_eq_bind,Option.bind_some]
    have hon:decide ((p.on_.length:Int)=(([]:List (List aA)).length:Int))=decide (p.on_.length=0):=by simp <;> omega
    have hor:decide ((p.order.length:Int)=(([]:List aY).length:Int))=decide (p.order.length=0):=by simp <;> omega
    rw [hon,hor]
    by_cases c2:p.on_.length=0
    case neg => 
      generalize decide (p.tables=[])=b1
      generalize decide (p.where_.length=0)=b3
      generalize decide (p.order.length=0)=b4
      generalize decide (p.items.length=0)=b5
      generalize decide (p.names=[])=b6
      generalize p.distinct=b7
      by_cases hlm:p.limit=0 <;> simp [c2,hlm] <;> cases b7 <;> cases b1 <;> simp
    by_cases c4:p.order.length=0
    case neg =>
      generalize decide (p.tables=[])=b1
      generalize decide (p.where_.length=0)=b3
      generalize decide (p.items.length=0)=b5
      generalize decide (p.names=[])=b6
      generalize p.distinct=b7
      by_cases hlm:p.limit=0 <;> simp [c2,c4,hlm] <;> cases b7 <;> cases b1 <;> cases b3 <;> simp
    simp only [c2,c4]
    generalize decide (p.tables=[])=b1
    generalize decide (p.where_.length=0)=b3
    generalize decide (p.items.length=0)=b5
    generalize decide (p.names=[])=b6
    generalize p.distinct=b7
    by_cases hlm:p.limit=0 <;> simp [hlm] <;> cases b7 <;> cases b1 <;> cases b3 <;> cases b5 <;> cases b6 <;> simp
theorem bRk (c:aJ) (hs:Q7 c) (p:aB) (hz:cZ p≤1048576):∃ b,aAe c p=some b∧Z9 c p=some b:=by
  obtain ⟨a,a1,a2⟩:=aPd c hs
  obtain ⟨b,b1,b2⟩:=aX4 c hs
  have hab:a=b:=by rw [Bool.eq_iff_iff,a2,b2]
  subst hab
  obtain ⟨d1,d2,d3,d4,-⟩:=bQ7 p hz
  unfold aAe Z9 K4
  simp only [a1,b1,d1,d2,d3,d4,Option.bind_eq_bind,Option.bind_some]
  cases a with
  | false=>exact ⟨false,by simp,by simp⟩
  | true =>
  obtain ⟨r,r1,r2,r3⟩:=bHm c (aPc (a2.1 rfl)) p [] hz (by intro r hr; simp at hr) (by simp)
  have q1:decide (24<dP p)=!decide (dP p≤24):=by rw [Bool.eq_iff_iff]; simp only [Bool.not_eq_true',decide_eq_true_eq,decide_eq_false_iff_not]; omega
  have q2:decide (200<sP p)=!decide (sP p≤200):=by rw [Bool.eq_iff_iff]; simp only [Bool.not_eq_true',decide_eq_true_eq,decide_eq_false_iff_not]; omega
  rw [r1,r2]
  simp only [q1,Bool.not_true,beq_self_eq_true,Bool.and_self,if_true,if_false,Bool.false_eq_true,Option.bind_some]
  generalize decide (dP p≤24)=x
  cases x with
  | false=>exact ⟨false,by simp,by simp⟩
  | true =>
  simp only [Bool.not_true,beq_self_eq_true,Bool.and_self,if_true,if_false,Bool.false_eq_true,Option.bind_some,q2]
  generalize decide (sP p≤200)=y
  cases y with
  | false=>exact ⟨false,by simp,by simp⟩
  | true=>exact ⟨r.2,by simp,by simp⟩
def kH (p:bM):List aA:=p.rows.flatMap (fun l=>l)++p.sets++p.where_
theorem aAo (p:bM):jM p=cZ p.plan+zL (zL aX) p.rows+zL z0 p.cols+zL aX p.sets+zL aX p.where_:=by
  obtain ⟨a0,a1,a2,a3,a4,a5,a6⟩:=p
  simp only [jM]
theorem aW6 (p:bM):(kH p).length≤jM p:=by
  have h1:=aAo p
  have h2:=aLz (f:=fun l:List aA=>l) (z:=zL aX) p.rows fun y _=>by have:=gU (z:=aX) y; omega
  have h3:=gU (z:=aX) p.where_
  have h4:=gU (z:=aX) p.sets
  unfold kH
  simp only [List.length_append]
  omega
theorem bLv {p:bM} {e:aA} (h:e ∈ kH p):aX e≤jM p:=by
  have hz:=aAo p
  unfold kH at h
  simp only [List.mem_append,List.mem_flatMap] at h
  rcases h with (⟨l,h1,h2⟩ | h) | h
  · have:=jP (z:=zL aX) h1; have:=jP (z:=aX) h2; omega
  · have:=jP (z:=aX) h; omega
  · have:=jP (z:=aX) h; omega
theorem cBj {s:aA→Int} (p:bM) (h:∀ y ∈ kH p,s y≤(aX y:Int)+1):((kH p).map s).sum≤(jM p:Int):=by
  have h1:=aAo p
  unfold kH at *
  have a1:=aLw (s:=s) p.rows fun r hr y hy=>h y (by simp only [List.mem_append,List.mem_flatMap]; exact .inl (.inl ⟨r,hr,hy⟩))
  have a2:=oO (s:=s) (z:=aX) p.sets fun y hy=>h y (by simp only [List.mem_append]; exact .inl (.inr hy))
  have a3:=oO (s:=s) (z:=aX) p.where_ fun y hy=>h y (by simp only [List.mem_append]; exact .inr hy)
  simp only [List.map_append,List.sum_append]
  omega
theorem aVz (p:bM) (hz:jM p≤1048576):yD p=some (kH p)∧aAt p=some (kH p):=by
  have hp:=aW6 p
  unfold kH at hp
  simp only [List.length_append] at hp
  have hr:=aAo p
  have hr2:=gU (z:=zL aX) p.rows
  constructor
  · rw [yD,gather (p:=p.rows) (f:=fun l=>l) (c:=4194304) (G:=fun y acc=>appG 120 acc y) (L:=fun acc i=>xA p acc i) (K:=fun x=>(appG 120 x p.sets)>>=fun (y3:List aA)=>(appG 120 y3 p.where_)>>=fun (y4:List aA)=>some y4) (by omega) (fun y _ acc h=>kE h) (fun i acc=>by rw [xA]) [] (by simp only [List.length_nil]; omega)]
    rw [kE (by simp only [List.nil_append]; omega)]
    simp only [Option.bind_eq_bind,Option.bind_some,List.nil_append]
    rw [kE (by simp only [List.length_append]; omega)]; rfl
  · rw [aAt,gather (p:=p.rows) (f:=fun l=>l) (c:=4194304) (G:=fun y acc=>appG 120 acc y) (L:=fun acc i=>vV p acc i) (K:=fun x=>(appG 120 x p.sets)>>=fun (y3:List aA)=>(appG 120 y3 p.where_)>>=fun (y4:List aA)=>some y4) (by omega) (fun y _ acc h=>kE h) (fun i acc=>by rw [vV]) [] (by simp only [List.length_nil]; omega)]
    rw [kE (by simp only [List.nil_append]; omega)]
    simp only [Option.bind_eq_bind,Option.bind_some,List.nil_append]
    rw [kE (by simp only [List.length_append]; omega)]; rfl
theorem bG5 (p:bM) (hz:jM p≤1048576):∃ (d s:Int) (b:Bool),qA (kH p)=some d∧tL (kH p)=some s∧K4 d s=some b∧aAm p=some b:=by
  have hl:=aW6 p
  have H:∀ e ∈ kH p,DsE e:=fun e he=>bSg e (by have:=bLv he; omega)
  have hs:=cBj (s:=sE) p fun y hy=>(H y hy).2.2.2.2.2
  obtain ⟨a1,-⟩:=aHl _ (by omega) H 0
  obtain ⟨b1,-⟩:=aHk _ (by omega) (by omega) H
  refine ⟨_,_,_,(by rw [qA,a1]),b1,rfl,?_⟩
  rw [aAm,(aVz p hz).2]
  simp only [Option.bind_eq_bind,Option.bind_some]
  generalize kH p=l at *
  have nn:∀ i,0≤((l.drop i).map sE).sum:=fun i=>M7 _ fun y hy=>(H y (List.mem_of_mem_drop hy)).2.2.2.2.1
  have key:∀ i,i≤l.length→∀ x:Int,0≤x→x+((l.drop i).map sE).sum≤4194304→oL l x (i:Nat)=some (decide (mx dE (l.drop i) 0≤24)&&decide (x+((l.drop i).map sE).sum≤200)):=by
    refine fC ?_ ?_
    · intro x _ _
      rw [oL]; simp [mx]
    · intro i hi ih x h0 hx
      have hn:=nn (i+1)
      obtain ⟨e1,e2,e3,e4,e5,e6⟩:=H _ (List.getElem_mem hi)
      rw [List.drop_eq_getElem_cons hi] at hx ⊢
      simp only [List.map_cons,List.sum_cons] at hx ⊢
      rw [oL]
      simp only [eF,hi,decide_true,if_true,dU hi,eU hi (by omega),e2,e4,Option.bind_eq_bind,Option.bind_some]
      rw [gG (n:=x+sE l[i]) (by omega) (by omega),ih _ (by omega) (by omega)]
      have hm:decide (mx dE (l[i]::l.drop (i+1)) 0≤24)=(decide (dE l[i]≤24)&&decide (mx dE (l.drop (i+1)) 0≤24)):=by
        rw [Bool.eq_iff_iff]
        simp only [Bool.and_eq_true,decide_eq_true_eq,aVf,List.mem_cons,forall_eq_or_imp]
        constructor
        · rintro ⟨a,b,c⟩; exact ⟨b,a,c⟩
        · rintro ⟨a,b,c⟩; exact ⟨b,a,c⟩
      rw [hm,Int.add_assoc]
      by_cases hd:dE l[i]≤24
      · have:¬ 24<dE l[i]:=by omega
        simp [hd,this]
      · have:24<dE l[i]:=by omega
        simp [hd,this]
  have:=key 0 (by omega) 0 (by omega) (by simp only [List.drop_zero]; omega)
  simp only [List.drop_zero,Int.zero_add] at this
  rw [show oL l 0 0=_ from this]
  by_cases q:mx dE l 0≤24 <;> simp [q]
theorem cAb (c:aJ) (hs:Q7 c) (p:bM) (hz:jM p≤1048576):∃ b,Y0 c p=some b∧O7 c p=some b:=by
  have hsz:=aAo p
  have l1:=gU (z:=zL aX) p.rows
  have l2:=gU (z:=z0) p.cols
  have l3:=gU (z:=aX) p.sets
  have l4:=gU (z:=aX) p.where_
  unfold Y0 O7
  by_cases k1:p.kind=1
  · obtain ⟨w,w1,w2⟩:=bRk c hs p.plan (by omega)
    have k1d:decide (p.kind=1)=true:=by simpa using k1
    rw [k1d,w1,w2,if_pos rfl,if_pos rfl]
    rw [gG (n:=(p.rows.length:Int)+(p.cols.length:Int)) (by omega) (by omega),gG (n:=(p.rows.length:Int)+(p.cols.length:Int)+(p.sets.length:Int)) (by omega) (by omega),gG (by omega) (by omega)]
    have e:decide ((p.rows.length:Int)+(p.cols.length:Int)+(p.sets.length:Int)+(p.where_.length:Int)=0)=(decide ((p.rows.length:Int)=0)&&decide ((p.cols.length:Int)=0)&&decide ((p.sets.length:Int)=0)&&decide ((p.where_.length:Int)=0)):=by
      rw [Bool.eq_iff_iff]; simp only [Bool.and_eq_true,decide_eq_true_eq]; omega
    rw [e]
    simp only [Option.bind_eq_bind,Option.bind_some]
    generalize decide (p.table=0)=x0
    generalize decide ((p.rows.length:Int)=0)=x1
    generalize decide ((p.cols.length:Int)=0)=x2
    generalize decide ((p.sets.length:Int)=0)=x3
    generalize decide ((p.where_.length:Int)=0)=x4
    refine ⟨w&&(x0&&(x1&&x2&&x3&&x4)),?_,?_⟩
    · cases w <;> cases x0 <;> cases x1 <;> cases x2 <;> cases x3 <;> cases x4 <;> rfl
    · cases w <;> cases x0 <;> cases x1 <;> cases x2 <;> cases x3 <;> cases x4 <;> rfl
  have k1d:decide (p.kind=1)=false:=by simpa using k1
  rw [k1d,if_neg Bool.false_ne_true,if_neg Bool.false_ne_true]
  obtain ⟨a,a1,a2⟩:=aPd c hs
  obtain ⟨b,b1,b2⟩:=aX4 c hs
  have hab:a=b:=by rw [Bool.eq_iff_iff,a2,b2]
  subst hab
  simp only [a1,b1,Option.bind_eq_bind,Option.bind_some]
  cases a with
  | false=>exact ⟨false,by simp,by simp⟩
  | true =>
  have hc:=aPc (a2.1 rfl)
  obtain ⟨kb,hkb,hkk⟩:∃ kb,dX p.kind 2 4=some kb∧(kb=true↔2≤p.kind∧p.kind≤4):=by
    unfold dX
    refine ⟨_,rfl,?_⟩
    by_cases h:2≤p.kind <;> simp [h]
  have hw:IntKind.wrap .i64 ((c.tables.length:Int) - 1)=(c.tables.length:Int) - 1:=by have:=hs.1; exact gG (by omega) (by omega)
  have hT:∃ tb,dX p.table 0 ((c.tables.length:Int) - 1)=some tb∧(if (decide (p.table<0))=true then true else (decide ((c.tables.length:Int)≤p.table)))=!tb∧(tb=true↔0≤p.table∧p.table<(c.tables.length:Int)):=by
    unfold dX
    refine ⟨_,rfl,?_,?_⟩
    · by_cases h:0≤p.table
      · have:¬ p.table<0:=by omega
        by_cases h2:p.table<(c.tables.length:Int)
        · have e1:p.table≤(c.tables.length:Int) - 1:=by omega
          have e2:¬ (c.tables.length:Int)≤p.table:=by omega
          simp [h,this,e1,e2]
        · have e1:¬ p.table≤(c.tables.length:Int) - 1:=by omega
          have e2:(c.tables.length:Int)≤p.table:=by omega
          simp [h,this,e1,e2]
      · have:p.table<0:=by omega
        simp [h,this]
    · by_cases h:0≤p.table
      · simp [h]; omega
      · simp [h]
  obtain ⟨tb,t1,t2,t3⟩:=hT
  obtain ⟨z1,z2⟩:=bHq p.plan
  obtain ⟨x1,x2⟩:=aVz p hz
  obtain ⟨d,s,sb,d1,d2,d3,d4⟩:=bG5 p hz
  simp only [hw,hkb,t1,t2,z1,z2,x1,d1,d2,d3,d4,Bool.not_true,Bool.false_eq_true,if_false,beq_self_eq_true,Bool.and_self,if_true,Option.bind_some,Bool.not_false]
  cases tb with
  | false=>exact ⟨false,by simp,by cases kb <;> simp⟩
  | true =>
  generalize U1 p.plan=zb
  cases zb with
  | false=>exact ⟨false,by simp,by cases kb <;> simp⟩
  | true =>
  simp only [Bool.not_true,Bool.false_eq_true,if_false,beq_self_eq_true,Bool.and_self,if_true,Option.bind_some,d1,d2,d3]
  cases sb with
  | false=>exact ⟨false,by simp,by cases kb <;> simp⟩
  | true =>
  obtain ⟨u0,u1⟩:=t3.1 rfl
  have hj:p.table.toNat<c.tables.length:=by omega
  have hx:idx c.tables p.table=some c.tables[p.table.toNat]:=by
    have:=dU hj
    rwa [show ((p.table.toNat:Nat):Int)=p.table by omega] at this
  obtain ⟨c1,c2⟩:=hc.2 _ (List.getElem_mem hj)
  obtain ⟨y1,y2⟩:=aZ1 c.tables[p.table.toNat] (by omega)
  have tl:(jC c.tables[p.table.toNat]).length≤4:=by unfold jC; simpa using c1
  simp only [Bool.not_true,Bool.false_eq_true,if_false,hx,y1,y2,Option.bind_some]
  generalize jC c.tables[p.table.toNat]=ts at *
  have hv:lW [ts]:=by
    intro r hr
    simp only [List.mem_singleton] at hr
    subst hr
    exact ⟨by omega,c2⟩
  have hTy:∀ e ∈ p.where_,TyE c [ts] e:=fun e he=>aYb c hc e [ts] (by have:=jP (z:=aX) he; omega) hv (by simp)
  by_cases k2:p.kind=2
  · have hk:kb=true:=hkk.2 (by omega)
    subst hk
    obtain ⟨r,r1,r2⟩:=bKu c hc ts c2 tl p (by omega) (by omega) (by omega) (by omega) fun row hr e he=>by have:=jP (z:=zL aX) hr; have:=jP (z:=aX) he; omega
    have e2:U9 c p=some (r&&D9 p):=by
      unfold U9
      rw [hx]
      simp only [Option.bind_eq_bind,Option.bind_some,y2]
      exact r2
    have e1:aBb c ts p.rows=some r:=r1
    simp only [k2,decide_true,if_true,e1,e2,Bool.not_true,Bool.false_eq_true,if_false,Option.bind_some,beq_self_eq_true,Bool.and_self]
    have f1:decide ((p.cols.length:Int)=0)=decide (p.cols.length=0):=by rw [Bool.eq_iff_iff]; simp
    have f2:decide ((p.sets.length:Int)=0)=decide (p.sets.length=0):=by rw [Bool.eq_iff_iff]; simp
    have f3:decide ((p.where_.length:Int)=0)=decide (p.where_.length=0):=by rw [Bool.eq_iff_iff]; simp
    rw [f1,f2,f3]
    unfold D9
    generalize decide (p.cols.length=0)=v1
    generalize decide (p.sets.length=0)=v2
    generalize decide (p.where_.length=0)=v3
    exact ⟨r&&(v1&&v2&&v3),by cases r <;> cases v1 <;> cases v2 <;> cases v3 <;> rfl,rfl⟩
  have k2d:decide (p.kind=2)=false:=by simpa using k2
  simp only [k2d,Bool.false_eq_true,if_false]
  have w0:(if (decide (0<(p.rows.length:Int)))=true then true else (decide (1<(p.where_.length:Int))))=true∨p.where_.length≤1:=by
    by_cases h:p.where_.length≤1
    · exact .inr h
    · left
      have:(1:Int)<(p.where_.length:Int):=by omega
      simp [this]
  obtain ⟨tr,tr1,tr2⟩:=aL9 c [ts] p.where_ (by omega) hTy
  simp only [tr1,tr2]
  generalize (if (decide (0<(p.rows.length:Int)))=true then true else (decide (1<(p.where_.length:Int))))=g
  cases g with
  | true=>exact ⟨false,by simp,by cases kb <;> simp⟩
  | false =>
  simp only [beq_self_eq_true,Bool.and_self,if_true,Option.bind_some,Bool.false_eq_true,if_false]
  cases tr with
  | false=>exact ⟨false,by simp,by cases kb <;> simp⟩
  | true =>
  simp only [Bool.not_true,Bool.false_eq_true,if_false]
  by_cases k4:p.kind=4
  · have hk:kb=true:=hkk.2 (by omega)
    subst hk
    rw [gG (by omega) (by omega)]
    have e:decide ((p.cols.length:Int)+(p.sets.length:Int)=0)=(decide ((p.cols.length:Int)=0)&&decide ((p.sets.length:Int)=0)):=by
      rw [Bool.eq_iff_iff]; simp only [Bool.and_eq_true,decide_eq_true_eq]; omega
    rw [e]
    generalize decide ((p.cols.length:Int)=0)=v1
    generalize decide ((p.sets.length:Int)=0)=v2
    refine ⟨v1&&v2,?_,by simp [k4]⟩
    simp only [k4,Int.reduceEq,decide_false,decide_true,Bool.false_eq_true,if_false,if_true,Option.bind_some]
    cases v1 <;> rfl
  by_cases k3:p.kind=3
  · have hk:kb=true:=hkk.2 (by omega)
    subst hk
    unfold aE1 aH1
    rw [hx]
    simp only [k3,Int.reduceEq,decide_false,decide_true,Bool.not_true,Bool.false_eq_true,if_false,if_true,Option.bind_eq_bind,Option.bind_some,y2,beq_self_eq_true,Bool.true_and]
    by_cases q0:0<p.cols.length
    case neg =>
      have a1:(p.cols.length:Int)<1:=by omega
      have a2:¬ (0:Int)<(p.cols.length:Int):=by omega
      exact ⟨false,by simp [a1],by simp [q0]⟩
    have a1:¬ (p.cols.length:Int)<1:=by omega
    have a2:(0:Int)<(p.cols.length:Int):=by omega
    by_cases q1:p.sets.length=p.cols.length
    case neg =>
      have a3:¬ (p.sets.length:Int)=(p.cols.length:Int):=by omega
      have a4:¬ (p.cols.length:Int)=(p.sets.length:Int):=by omega
      refine ⟨false,?_,by simp [q0,a4]⟩
      by_cases h:(12:Int)<(p.cols.length:Int) <;> simp [a1,a3,h]
    have a3:(p.sets.length:Int)=(p.cols.length:Int):=by omega
    obtain ⟨r,r1,r2,r3⟩:=bNi c hc ts c2 tl p (by omega) q1 fun e he=>by have:=jP (z:=aX) he; omega
    by_cases h:(12:Int)<(p.cols.length:Int)
    · have : r = false := by
        cases r with
        | false=>rfl
        | true=>have:=r3 rfl; omega
      subst this
      exact ⟨false,by simp [a1,h],by simp [q0,a3,r2]⟩
    · exact ⟨r,by simp [a1,a3,h,r1],by simp [q0,a3,r2]⟩
  have hk:kb=false:=by
    cases kb with
    | false=>rfl
    | true=>have:=hkk.1 rfl; omega
  subst hk
  exact ⟨false,by simp [k3,k4],by simp⟩
theorem bP8 (c:aJ) (hz:mG c≤1048576):Q7 c:=by
  obtain ⟨ts⟩:=c
  simp only [mG] at hz
  refine ⟨by have:=gU (z:=fK) ts; dsimp only; omega,fun t ht=>?_⟩
  have h1:fK t+ts.length≤zL fK ts:=jP ht
  have h2:t.cols.length≤fK t:=by obtain ⟨n,cs⟩:=t; have:=gU (z:=gM) cs; simp only [fK]; omega
  omega
theorem bCc (c:aJ) (oc:okGCatalog c) (p:bM) (op:okGSPlan p):Q5 c p=some true:=by
  unfold Q5
  rw [bMz c oc 1048576 (by omega) (by omega)]
  simp only [Option.bind_eq_bind,Option.bind_some]
  by_cases hz:(mG c:Int)≤1048576
  case neg=>rw [if_neg hz]; simp
  rw [if_pos hz,if_neg (by simp; omega)]
  rw [bQ2 p op _ (by omega) (by omega)]
  simp only [Option.bind_some]
  by_cases hz2:(jM p:Int)≤1048576 - (mG c:Int)
  case neg=>rw [if_neg hz2]; simp
  rw [if_pos hz2,if_neg (by simp; omega)]
  obtain ⟨b,b1,b2⟩:=cAb c (bP8 c (by omega)) p (by omega)
  simp only [bCn c (by omega),bKf p (by omega),b1,b2,bF6 c (by omega),bEz p (by omega),Option.bind_some]
  simp
end Go.Ab
