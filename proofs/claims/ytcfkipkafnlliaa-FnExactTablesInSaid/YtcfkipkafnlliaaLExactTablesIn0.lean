/- What the functions compute,in plain Lean. -/
import Derived.Test.YtcfkipkafnlliaaFExactTablesIn
namespace Go.Ab
open Go
theorem lY {n:Int} (h1 : -9223372036854775808≤n) (h2:n≤9223372036854775807):IntKind.wrap .i64 n=n:=by rw [IntKind.wrap_i64]; omega
theorem pI {i n:Nat} (h:i<n) (hn:n≤4611686018427387904):IntKind.wrap .i64 ((i:Int)+1)=((i+1:Nat):Int):=by rw [lY] <;> omega
theorem jR (i n:Nat):decide ((i:Int)<(n:Int))=decide (i<n):=by simp
theorem nH {α:Type} (l:List α) (i:Nat):idx l (i:Int)=l[i]?:=by simp [idx]
theorem nJ {α:Type} {l:List α} {i:Nat} (h:i<l.length):idx l (i:Int)=some l[i]:=by rw [nH]; simp [h]
theorem oV {M:Nat→Prop} {n:Nat} (h0:M n) (h:∀ i,i<n→M (i+1)→M i):∀ i,i≤n→M i:=by
  have:∀ k i,i+k=n→M i:=by
    intro k
    induction k with
    | zero => intro i hi; have : i = n := by omega
              subst this; exact h0
    | succ k ih=>intro i hi; exact h i (by omega) (ih (i+1) (by omega))
  exact fun i hi=>this (n - i) i (by omega)
theorem bDh {α : Type} {p : List α} {F : Int → List α → Option (List α)} (hn : p.length ≤ 4611686018427387904)
    (hF:∀ (i:Nat) b,b.length=p.length→F i b=if i<p.length then (idx p i>>=fun v=>jZ b i v>>=fun c=>F (IntKind.wrap .i64 ((i:Int)+1)) c) else some b) :
    ∀ b,b.length=p.length→F 0 b=some p:=by
  have key:∀ i,i≤p.length→∀ b,b.length=p.length→b.take i=p.take i→F (i:Nat) b=some p:=by
    refine oV ?_ ?_
    · intro b hb ht
      rw [hF _ _ hb,if_neg (by omega)]
      rw [← hb,List.take_length] at ht
      rw [ht,hb,List.take_length]
    · intro i hi ih b hb ht
      rw [hF _ _ hb,if_pos hi,nJ hi]
      have hs:jZ b i p[i]=some (b.set i p[i]):=by
        unfold jZ; rw [if_pos ⟨by omega,by simp; omega⟩]; simp
      simp only [Option.bind_eq_bind,Option.bind_some,hs,pI hi hn]
      refine ih _ (by simp [hb]) ?_
      rw [List.take_add_one,List.take_add_one]
      have e1:(b.set i p[i]).take i=b.take i:=by rw [List.take_set_of_le (Nat.le_refl _)]
      rw [e1,ht]
      simp [hb,hi]
  intro b hb
  exact key 0 (by omega) b hb (by simp)
theorem aUi {α:Type} {by':Nat} {n:Nat} {z:α} (h:(n:Int) * by'≤140737488355328):mkG by' (n:Int) z=some (List.replicate n z):=by
  unfold mkG; rw [if_pos ⟨by omega,h⟩]; simp
theorem J9 {α:Type} {b:Nat} {l m:List α} (h:(l.length+m.length) * b≤140737488355328):appG b l m=some (l++m):=by unfold appG; rw [if_pos h]
theorem gather {α β γ : Type} {p : List α} {f : α → List β} {G : α → List β → Option (List β)} {L : List β → Int → Option γ} {K : List β → Option γ} {c : Nat} (hp : p.length ≤ 4194304)
    (hG:∀ y ∈ p,∀ acc:List β,acc.length+(f y).length≤c→G y acc=some (acc++f y))
    (hL:∀ (i:Nat) acc,L acc (i:Int)=if (decide ((i:Int)<(p.length:Int)))=true then ((idx p (i:Int))>>=fun y=>(G y acc)>>=fun z=>L z (IntKind.wrap .i64 ((i:Int)+1))) else K acc) :
    ∀ acc:List β,acc.length+(p.flatMap f).length≤c→L acc 0=K (acc++p.flatMap f):=by
  have key:∀ i,i≤p.length→∀ acc:List β,acc.length+((p.drop i).flatMap f).length≤c→L acc (i:Nat)=K (acc++(p.drop i).flatMap f):=by
    refine oV ?_ ?_
    · intro acc _
      rw [hL]; simp
    · intro i hi ih acc ha
      rw [List.drop_eq_getElem_cons hi,List.flatMap_cons,List.length_append] at ha
      rw [hL,nJ hi,pI hi (by omega)]
      simp only [jR,hi,decide_true,if_true,Option.bind_eq_bind,Option.bind_some,hG _ (List.getElem_mem hi) acc (by omega)]
      rw [ih _ (by rw [List.length_append]; omega),List.drop_eq_getElem_cons hi,List.flatMap_cons,List.append_assoc]
  intro acc ha
  simpa using key 0 (by omega) acc (by simpa using ha)
def zL {α:Type} (z:α→Nat) (l:List α):Nat:=l.length+(l.map z).sum
def fP {α:Type} (F:α→Int→Option Int) (z:α→Nat) (x:α):Prop:=∀ n:Int,0≤n→n≤1048576→F x n=some (if (z x:Int)≤n then n - (z x:Int) else -1)
theorem uL {α:Type} (z:α→Nat) (x:α) (l:List α):((x::l).map z).sum=z x+(l.map z).sum:=by simp
theorem aYw {α : Type} {p : List α} {F : α → Int → Option Int} {z : α → Nat} {L : Int → Int → Option Int} (hp : p.length ≤ 1048576)
    (hL:∀ (i:Nat) (x:Int),L x (i:Int)=if (decide ((i:Int)<(p.length:Int)))=true then ((idx p (i:Int))>>=fun y=>(F y x)>>=fun r=>if (decide (r<0))=true then (some (-1)) else L r (IntKind.wrap .i64 ((i:Int)+1))) else some x)
    (H:∀ y ∈ p,fP F z y):∀ n:Int,0≤n→n≤1048576→L n 0=some (if ((p.map z).sum:Int)≤n then n - ((p.map z).sum:Int) else -1):=by
  have key:∀ i,i≤p.length→∀ n:Int,0≤n→n≤1048576→L n (i:Nat)=some (if (((p.drop i).map z).sum:Int)≤n then n - (((p.drop i).map z).sum:Int) else -1):=by
    refine oV ?_ ?_
    · intro n h0 h1
      rw [hL]; simp [h0]
    · intro i hi ih n h0 h1
      rw [hL,nJ hi,pI hi (by omega)]
      rw [List.drop_eq_getElem_cons hi,uL]
      simp only [Option.bind_eq_bind,Option.bind_some,jR,hi,decide_true,if_true,H _ (List.getElem_mem hi) n h0 h1]
      by_cases hz:(z p[i]:Int)≤n
      · rw [if_pos hz,if_neg (by simp; omega),ih _ (by omega) (by omega)]
        congr 1
        by_cases hr:(((p.drop (i+1)).map z).sum:Int)≤n - z p[i]
        · rw [if_pos hr,if_pos (by omega)]; omega
        · rw [if_neg hr,if_neg (by omega)]
      · rw [if_neg hz,if_pos (by decide),if_neg (by omega)]
  intro n h0 h1
  have:=key 0 (by omega) n h0 h1
  simpa using this
theorem oI {α : Type} {p : List α} {F : α → Int → Option Int} {z : α → Nat} {L : Int → Int → Option Int} {S : List α → Int → Option Int} (hp : p.length ≤ 9223372036854775807)
    (hS:∀ n,S p n=if (decide ((IntKind.wrap .i64 (n - (p.length:Int)))<0))=true then (some (-1)) else L (IntKind.wrap .i64 (n - (p.length:Int))) 0)
    (hL:∀ (i:Nat) (x:Int),L x (i:Int)=if (decide ((i:Int)<(p.length:Int)))=true then ((idx p (i:Int))>>=fun y=>(F y x)>>=fun r=>if (decide (r<0))=true then (some (-1)) else L r (IntKind.wrap .i64 ((i:Int)+1))) else some x)
    (H:∀ y ∈ p,fP F z y):fP S (zL z) p:=by
  intro n h0 h1
  have hz:((zL z p:Nat):Int)=(p.length:Int)+((p.map z).sum:Int):=by unfold zL; omega
  rw [hS,lY (by omega) (by omega),hz]
  by_cases hl:n - (p.length:Int)<0
  · rw [if_pos (by simpa using hl),if_neg (by omega)]
  · rw [if_neg (by simpa using hl),aYw (by omega) hL H _ (by omega) (by omega)]
    congr 1
    by_cases hr:((p.map z).sum:Int)≤n - p.length
    · rw [if_pos hr,if_pos (by omega)]; omega
    · rw [if_neg hr,if_neg (by omega)]
def aAp (y:List UInt8) (n:Int):Option Int:=if (decide ((IntKind.wrap .i64 (n - (y.length:Int)))<0))=true then (some (-1)) else (some (IntKind.wrap .i64 (n - (y.length:Int))))
theorem bAx (y:List UInt8) (hy:y.length≤9223372036854775807):fP aAp List.length y:=by
  intro n h0 h1
  unfold aAp
  rw [lY (by omega) (by omega)]
  by_cases hl:n - (y.length:Int)<0
  · rw [if_pos (by simpa using hl),if_neg (by omega)]
  · rw [if_neg (by simpa using hl),if_pos (by omega)]
theorem aSn (y:List UInt8) (x:Int) (K:Int→Option Int):(if (decide ((IntKind.wrap .i64 (x - (y.length:Int)))<0))=true then (some (-1)) else K (IntKind.wrap .i64 (x - (y.length:Int))))=((aAp y x)>>=fun r=>if (decide (r<0))=true then (some (-1)) else K r):=by
  unfold aAp
  by_cases h:(IntKind.wrap .i64 (x - (y.length:Int)))<0
  · rw [if_pos (by simpa using h),if_pos (by simpa using h)]; rfl
  · rw [if_neg (by simpa using h),if_neg (by simpa using h)]
    simp only [Option.bind_eq_bind,Option.bind_some]
    rw [if_neg (by simpa using h)]
theorem nD {α : Type} {p : List α} {W : α → Option α} {by' : Nat} {d : α} {L : Int → List α → Option (List α)} {S : Option (List α)} (hp : p.length ≤ 1048576) (hby : by' ≤ 134217728)
    (hS:S=(mkG by' (p.length:Int) d>>=fun y=>L 0 y))
    (hL:∀ (i:Nat) b,L (i:Int) b=if (decide ((i:Int)<(p.length:Int)))=true then ((idx p (i:Int))>>=fun y2=>(W y2)>>=fun y3=>(idx b (i:Int))>>=fun _=>(jZ b (i:Int) y3)>>=fun y5=>L (IntKind.wrap .i64 ((i:Int)+1)) y5) else some b)
    (H:∀ y ∈ p,W y=some y):S=some p:=by
  have hm:(p.length:Int) * by'≤140737488355328:=by
    have:(p.length:Int) * by'≤1048576 * 134217728:=Int.mul_le_mul (by omega) (by omega) (by omega) (by omega)
    omega
  rw [hS,aUi hm]
  simp only [Option.bind_eq_bind,Option.bind_some]
  refine bDh (F:=L) (by omega) (fun i b hb=>?_) _ (by simp)
  rw [hL]
  simp only [jR,decide_eq_true_eq,Option.bind_eq_bind]
  split
  · rename_i hi
    have e:idx b (i:Int)=some b[i]:=nJ (by omega)
    rw [nJ hi]
    simp only [Option.bind_some,H _ (List.getElem_mem hi),e]
  · rfl
theorem nA {α : Type} {p : List α} {E : α → α → Option Bool} {L : Int → Option Bool} {S : List α → List α → Option Bool} (hp : p.length ≤ 1048576)
    (hS:S p p=if (!decide ((p.length:Int)=(p.length:Int)))=true then (some false) else L 0)
    (hL:∀ i:Nat,L (i:Int)=if (decide ((i:Int)<(p.length:Int)))=true then ((idx p (i:Int))>>=fun y1=>(idx p (i:Int))>>=fun y2=>(E y1 y2)>>=fun y3=>if (!y3)=true then (some false) else L (IntKind.wrap .i64 ((i:Int)+1))) else some true)
    (H:∀ y ∈ p,E y y=some true):S p p=some true:=by
  have key:∀ i,i≤p.length→L (i:Nat)=some true:=by
    refine oV ?_ ?_
    · rw [hL]; simp
    · intro i hi ih
      rw [hL]
      simp only [jR,nJ hi,pI hi (by omega),H _ (List.getElem_mem hi),Option.bind_eq_bind,Option.bind_some,ih]
      simp
  rw [hS]
  have:=key 0 (by omega)
  simpa using this
theorem nV {α:Type} {z:α→Nat}:∀ {p:List α} {y:α},y ∈ p→z y≤(p.map z).sum
  | x::p,y,h=>by
    rw [uL]
    rcases List.mem_cons.1 h with rfl | h
    · omega
    · have:=nV (z:=z) h; omega
def iZ:eB→Nat
  | ⟨a0,a1,a2⟩=>a2.length
theorem aVv:∀ x:eB,okGValue x→fP O6 iZ x
  | ⟨a0,a1,a2⟩,h=>by
    simp only [okGValue] at h
    obtain ⟨o0,o1,o2⟩:=h
    intro n h0 h1
    have b2:a2.length≤9223372036854775807:=o2
    have hz:((iZ ⟨a0,a1,a2⟩:Nat):Int)=(a2.length:Int):=by simp only [iZ] <;> omega
    rw [hz,O6]
    dsimp only
    rw [lY (n:=n - (a2.length:Int)) (by omega) (by omega)]
    by_cases r2:n - (a2.length:Int)<0
    · rw [if_pos (by simpa using r2),if_neg (by omega)]
    rw [if_neg (by simpa using r2)]
    first | done | (rw [if_pos (by omega)]; done) | (rw [if_pos (by omega)]; congr 1 <;> omega) | (congr 1 <;> omega)
theorem aTo:∀ x:eB,iZ x≤1048576→qB x=some x
  | ⟨a0,a1,a2⟩,hz=>by
    simp only [iZ] at hz
    rw [qB]
theorem bE0:∀ x:eB,iZ x≤1048576→wV x x=some true
  | ⟨a0,a1,a2⟩,hz=>by
    simp only [iZ] at hz
    rw [wV]
    simp
mutual
def fZ:aZ→Nat
  | ⟨a0,a1⟩=>bF a0
def fO:aX→Nat
  | ⟨a0,a1,a2⟩=>a0.length+a1.length+(a2.length+gD a2)
def eX:aY→Nat
  | ⟨a0,a1,a2,a3⟩=>a1.length+bF a2+a3.length
def eF:aL→Nat
  | ⟨a0,a1,a2,a3,a4,a5⟩=>(a1.length+iU a1)+(a2.length+iE a2)+(a3.length+gD a3)+(a4.length+iR a4)
def bF:aB→Nat
  | ⟨a0,a1,a2,a3,a4,a5,a6,a7⟩=>iZ a3+a4.length+a5.length+(a6.length+gD a6)+(a7.length+jL a7)
def gD:List aB→Nat
  | []=>0
  | x::l=>bF x+gD l
def jL:List aL→Nat
  | []=>0
  | x::l=>eF x+jL l
def iU:List aY→Nat
  | []=>0
  | x::l=>eX x+iU l
def iE:List aX→Nat
  | []=>0
  | x::l=>fO x+iE l
def iR:List aZ→Nat
  | []=>0
  | x::l=>fZ x+iR l
end
theorem kU:∀ l:List aB,gD l=(l.map bF).sum
  | []=>by simp [gD]
  | x::l=>by rw [uL,← kU l]; simp only [gD]
theorem aCd:∀ l:List aL,jL l=(l.map eF).sum
  | []=>by simp [jL]
  | x::l=>by rw [uL,← aCd l]; simp only [jL]
theorem aMr:∀ l:List aY,iU l=(l.map eX).sum
  | []=>by simp [iU]
  | x::l=>by rw [uL,← aMr l]; simp only [iU]
theorem aQx:∀ l:List aX,iE l=(l.map fO).sum
  | []=>by simp [iE]
  | x::l=>by rw [uL,← aQx l]; simp only [iE]
theorem aRg:∀ l:List aZ,iR l=(l.map fZ).sum
  | []=>by simp [iR]
  | x::l=>by rw [uL,← aRg l]; simp only [iR]
mutual
theorem bAw:∀ x:aZ,okGSortKey x→fP wQ fZ x
  | ⟨a0,a1⟩,h=>by
    simp only [okGSortKey] at h
    obtain ⟨o0,o1⟩:=h
    intro n h0 h1
    have e0:fP kX bF a0:=aC3 a0 o0
    have hz:((fZ ⟨a0,a1⟩:Nat):Int)=((bF a0:Nat):Int):=by simp only [fZ] <;> omega
    rw [hz,wQ]
    dsimp only
    rw [e0 n (by omega) (by omega)]
    simp only [Option.bind_eq_bind,Option.bind_some]
    rcases (Decidable.em (((bF a0:Nat):Int)≤n)).symm with r0 | r0
    · rw [if_neg r0,if_pos (by decide)]; first | done | rw [if_neg (by omega)]
    rw [if_pos r0,if_neg (by simp; omega)]
    first | done | (rw [if_pos (by omega)]; done) | (rw [if_pos (by omega)]; congr 1 <;> omega) | (congr 1 <;> omega)
theorem aU0:∀ x:aX,okGSource x→fP qV fO x
  | ⟨a0,a1,a2⟩,h=>by
    simp only [okGSource] at h
    obtain ⟨o0,o1,o2⟩:=h
    intro n h0 h1
    have b0:a0.length≤9223372036854775807:=o0
    have b1:a1.length≤9223372036854775807:=o1
    have q2:(zL bF) a2=a2.length+gD a2:=by unfold zL; rw [kU]
    have e2:fP jD (zL bF) a2:=oI (F:=kX) o2.1 (fun n=>by rw [jD]) (fun i x=>by rw [tN]) (aBs a2 o2.2)
    have hz:((fO ⟨a0,a1,a2⟩:Nat):Int)=(a0.length:Int)+(a1.length:Int)+(((zL bF) a2:Nat):Int):=by simp only [fO] <;> omega
    rw [hz,qV]
    dsimp only
    rw [lY (n:=n - (a0.length:Int)) (by omega) (by omega)]
    by_cases r0:n - (a0.length:Int)<0
    · rw [if_pos (by simpa using r0),if_neg (by omega)]
    rw [if_neg (by simpa using r0)]
    rw [lY (n:=(n - (a0.length:Int)) - (a1.length:Int)) (by omega) (by omega)]
    by_cases r1:(n - (a0.length:Int)) - (a1.length:Int)<0
    · rw [if_pos (by simpa using r1),if_neg (by omega)]
    rw [if_neg (by simpa using r1)]
    rw [e2 ((n - (a0.length:Int)) - (a1.length:Int)) (by omega) (by omega)]
    simp only [Option.bind_eq_bind,Option.bind_some]
    rcases (Decidable.em ((((zL bF) a2:Nat):Int)≤((n - (a0.length:Int)) - (a1.length:Int)))).symm with r2 | r2
    · rw [if_neg r2,if_pos (by decide)]; first | done | rw [if_neg (by omega)]
    rw [if_pos r2,if_neg (by simp; omega)]
    first | done | (rw [if_pos (by omega)]; done) | (rw [if_pos (by omega)]; congr 1 <;> omega) | (congr 1 <;> omega)
theorem aT9:∀ x:aY,okGItem x→fP uT eX x
  | ⟨a0,a1,a2,a3⟩,h=>by
    simp only [okGItem] at h
    obtain ⟨o0,o1,o2,o3⟩:=h
    intro n h0 h1
    have b1:a1.length≤9223372036854775807:=o1
    have e2:fP kX bF a2:=aC3 a2 o2
    have b3:a3.length≤9223372036854775807:=o3
    have hz:((eX ⟨a0,a1,a2,a3⟩:Nat):Int)=(a1.length:Int)+((bF a2:Nat):Int)+(a3.length:Int):=by simp only [eX] <;> omega
    rw [hz,uT]
    dsimp only
    rw [lY (n:=n - (a1.length:Int)) (by omega) (by omega)]
    by_cases r1:n - (a1.length:Int)<0
    · rw [if_pos (by simpa using r1),if_neg (by omega)]
    rw [if_neg (by simpa using r1)]
    rw [e2 (n - (a1.length:Int)) (by omega) (by omega)]
    simp only [Option.bind_eq_bind,Option.bind_some]
    rcases (Decidable.em (((bF a2:Nat):Int)≤(n - (a1.length:Int)))).symm with r2 | r2
    · rw [if_neg r2,if_pos (by decide)]; first | done | rw [if_neg (by omega)]
    rw [if_pos r2,if_neg (by simp; omega)]
    rw [lY (n:=((n - (a1.length:Int)) - ((bF a2:Nat):Int)) - (a3.length:Int)) (by omega) (by omega)]
    by_cases r3:((n - (a1.length:Int)) - ((bF a2:Nat):Int)) - (a3.length:Int)<0
    · rw [if_pos (by simpa using r3),if_neg (by omega)]
    rw [if_neg (by simpa using r3)]
    first | done | (rw [if_pos (by omega)]; done) | (rw [if_pos (by omega)]; congr 1 <;> omega) | (congr 1 <;> omega)
theorem aP5:∀ x:aL,okGQuery x→fP pG eF x
  | ⟨a0,a1,a2,a3,a4,a5⟩,h=>by
    simp only [okGQuery] at h
    obtain ⟨o0,o1,o2,o3,o4,o5⟩:=h
    intro n h0 h1
    have q1:(zL eX) a1=a1.length+iU a1:=by unfold zL; rw [aMr]
    have e1:fP U9 (zL eX) a1:=oI (F:=uT) o1.1 (fun n=>by rw [U9]) (fun i x=>by rw [Z4]) (aOk a1 o1.2)
    have q2:(zL fO) a2=a2.length+iE a2:=by unfold zL; rw [aQx]
    have e2:fP Y8 (zL fO) a2:=oI (F:=qV) o2.1 (fun n=>by rw [Y8]) (fun i x=>by rw [X7]) (aMd a2 o2.2)
    have q3:(zL bF) a3=a3.length+gD a3:=by unfold zL; rw [kU]
    have e3:fP jD (zL bF) a3:=oI (F:=kX) o3.1 (fun n=>by rw [jD]) (fun i x=>by rw [tN]) (aBs a3 o3.2)
    have q4:(zL fZ) a4=a4.length+iR a4:=by unfold zL; rw [aRg]
    have e4:fP Y5 (zL fZ) a4:=oI (F:=wQ) o4.1 (fun n=>by rw [Y5]) (fun i x=>by rw [aBj]) (aOo a4 o4.2)
    have hz:((eF ⟨a0,a1,a2,a3,a4,a5⟩:Nat):Int)=(((zL eX) a1:Nat):Int)+(((zL fO) a2:Nat):Int)+(((zL bF) a3:Nat):Int)+(((zL fZ) a4:Nat):Int):=by simp only [eF] <;> omega
    rw [hz,pG]
    dsimp only
    rw [e1 n (by omega) (by omega)]
    simp only [Option.bind_eq_bind,Option.bind_some]
    rcases (Decidable.em ((((zL eX) a1:Nat):Int)≤n)).symm with r1 | r1
    · rw [if_neg r1,if_pos (by decide)]; first | done | rw [if_neg (by omega)]
    rw [if_pos r1,if_neg (by simp; omega)]
    rw [e2 (n - (((zL eX) a1:Nat):Int)) (by omega) (by omega)]
    simp only [Option.bind_eq_bind,Option.bind_some]
    rcases (Decidable.em ((((zL fO) a2:Nat):Int)≤(n - (((zL eX) a1:Nat):Int)))).symm with r2 | r2
    · rw [if_neg r2,if_pos (by decide)]; first | done | rw [if_neg (by omega)]
    rw [if_pos r2,if_neg (by simp; omega)]
    rw [e3 ((n - (((zL eX) a1:Nat):Int)) - (((zL fO) a2:Nat):Int)) (by omega) (by omega)]
    simp only [Option.bind_eq_bind,Option.bind_some]
    rcases (Decidable.em ((((zL bF) a3:Nat):Int)≤((n - (((zL eX) a1:Nat):Int)) - (((zL fO) a2:Nat):Int)))).symm with r3 | r3
    · rw [if_neg r3,if_pos (by decide)]; first | done | rw [if_neg (by omega)]
    rw [if_pos r3,if_neg (by simp; omega)]
    rw [e4 (((n - (((zL eX) a1:Nat):Int)) - (((zL fO) a2:Nat):Int)) - (((zL bF) a3:Nat):Int)) (by omega) (by omega)]
    simp only [Option.bind_eq_bind,Option.bind_some]
    rcases (Decidable.em ((((zL fZ) a4:Nat):Int)≤(((n - (((zL eX) a1:Nat):Int)) - (((zL fO) a2:Nat):Int)) - (((zL bF) a3:Nat):Int)))).symm with r4 | r4
    · rw [if_neg r4,if_pos (by decide)]; first | done | rw [if_neg (by omega)]
    rw [if_pos r4,if_neg (by simp; omega)]
    first | done | (rw [if_pos (by omega)]; done) | (rw [if_pos (by omega)]; congr 1 <;> omega) | (congr 1 <;> omega)
theorem aC3:∀ x:aB,okGExpr x→fP kX bF x
  | ⟨a0,a1,a2,a3,a4,a5,a6,a7⟩,h=>by
    simp only [okGExpr] at h
    obtain ⟨o0,o1,o2,o3,o4,o5,o6,o7⟩:=h
    intro n h0 h1
    have e3:fP O6 iZ a3:=aVv a3 o3
    have b4:a4.length≤9223372036854775807:=o4
    have b5:a5.length≤9223372036854775807:=o5
    have q6:(zL bF) a6=a6.length+gD a6:=by unfold zL; rw [kU]
    have e6:fP jD (zL bF) a6:=oI (F:=kX) o6.1 (fun n=>by rw [jD]) (fun i x=>by rw [tN]) (aBs a6 o6.2)
    have q7:(zL eF) a7=a7.length+jL a7:=by unfold zL; rw [aCd]
    have e7:fP T9 (zL eF) a7:=oI (F:=pG) o7.1 (fun n=>by rw [T9]) (fun i x=>by rw [aAe]) (aS4 a7 o7.2)
    have hz:((bF ⟨a0,a1,a2,a3,a4,a5,a6,a7⟩:Nat):Int)=((iZ a3:Nat):Int)+(a4.length:Int)+(a5.length:Int)+(((zL bF) a6:Nat):Int)+(((zL eF) a7:Nat):Int):=by simp only [bF] <;> omega
    rw [hz,kX]
    dsimp only
    rw [e3 n (by omega) (by omega)]
    simp only [Option.bind_eq_bind,Option.bind_some]
    rcases (Decidable.em (((iZ a3:Nat):Int)≤n)).symm with r3 | r3
    · rw [if_neg r3,if_pos (by decide)]; first | done | rw [if_neg (by omega)]
    rw [if_pos r3,if_neg (by simp; omega)]
    rw [lY (n:=(n - ((iZ a3:Nat):Int)) - (a4.length:Int)) (by omega) (by omega)]
    by_cases r4:(n - ((iZ a3:Nat):Int)) - (a4.length:Int)<0
    · rw [if_pos (by simpa using r4),if_neg (by omega)]
    rw [if_neg (by simpa using r4)]
    rw [lY (n:=((n - ((iZ a3:Nat):Int)) - (a4.length:Int)) - (a5.length:Int)) (by omega) (by omega)]
    by_cases r5:((n - ((iZ a3:Nat):Int)) - (a4.length:Int)) - (a5.length:Int)<0
    · rw [if_pos (by simpa using r5),if_neg (by omega)]
    rw [if_neg (by simpa using r5)]
    rw [e6 (((n - ((iZ a3:Nat):Int)) - (a4.length:Int)) - (a5.length:Int)) (by omega) (by omega)]
    simp only [Option.bind_eq_bind,Option.bind_some]
    rcases (Decidable.em ((((zL bF) a6:Nat):Int)≤(((n - ((iZ a3:Nat):Int)) - (a4.length:Int)) - (a5.length:Int)))).symm with r6 | r6
    · rw [if_neg r6,if_pos (by decide)]; first | done | rw [if_neg (by omega)]
    rw [if_pos r6,if_neg (by simp; omega)]
    rw [e7 ((((n - ((iZ a3:Nat):Int)) - (a4.length:Int)) - (a5.length:Int)) - (((zL bF) a6:Nat):Int)) (by omega) (by omega)]
    simp only [Option.bind_eq_bind,Option.bind_some]
    rcases (Decidable.em ((((zL eF) a7:Nat):Int)≤((((n - ((iZ a3:Nat):Int)) - (a4.length:Int)) - (a5.length:Int)) - (((zL bF) a6:Nat):Int)))).symm with r7 | r7
    · rw [if_neg r7,if_pos (by decide)]; first | done | rw [if_neg (by omega)]
    rw [if_pos r7,if_neg (by simp; omega)]
    first | done | (rw [if_pos (by omega)]; done) | (rw [if_pos (by omega)]; congr 1 <;> omega) | (congr 1 <;> omega)
theorem aBs:∀ l:List aB,okLGExpr l→∀ y ∈ l,fP kX bF y
  | [],_=>fun y hy=>by simp at hy
  | x::l,h=>by
    simp only [okLGExpr] at h
    intro y hy
    rcases List.mem_cons.1 hy with r | hy
    · rw [r]; exact aC3 x h.1
    · exact aBs l h.2 y hy
theorem aS4:∀ l:List aL,okLGQuery l→∀ y ∈ l,fP pG eF y
  | [],_=>fun y hy=>by simp at hy
  | x::l,h=>by
    simp only [okLGQuery] at h
    intro y hy
    rcases List.mem_cons.1 hy with r | hy
    · rw [r]; exact aP5 x h.1
    · exact aS4 l h.2 y hy
theorem aOk:∀ l:List aY,okLGItem l→∀ y ∈ l,fP uT eX y
  | [],_=>fun y hy=>by simp at hy
  | x::l,h=>by
    simp only [okLGItem] at h
    intro y hy
    rcases List.mem_cons.1 hy with r | hy
    · rw [r]; exact aT9 x h.1
    · exact aOk l h.2 y hy
theorem aMd:∀ l:List aX,okLGSource l→∀ y ∈ l,fP qV fO y
  | [],_=>fun y hy=>by simp at hy
  | x::l,h=>by
    simp only [okLGSource] at h
    intro y hy
    rcases List.mem_cons.1 hy with r | hy
    · rw [r]; exact aU0 x h.1
    · exact aMd l h.2 y hy
theorem aOo:∀ l:List aZ,okLGSortKey l→∀ y ∈ l,fP wQ fZ y
  | [],_=>fun y hy=>by simp at hy
  | x::l,h=>by
    simp only [okLGSortKey] at h
    intro y hy
    rcases List.mem_cons.1 hy with r | hy
    · rw [r]; exact bAw x h.1
    · exact aOo l h.2 y hy
end
mutual
theorem aVx:∀ x:aZ,fZ x≤1048576→vV x=some x
  | ⟨a0,a1⟩,hz=>by
    simp only [fZ] at hz
    have e0:lF a0=some a0:=aEx a0 (by omega)
    rw [vV]
    simp only [e0,Option.bind_eq_bind,Option.bind_some]
theorem aVk:∀ x:aX,fO x≤1048576→rU x=some x
  | ⟨a0,a1,a2⟩,hz=>by
    simp only [fO] at hz
    have e2:jH a2=some a2:=nD (by':=136) (W:=lF) (by omega) (by omega) (by rw [jH]) (fun i b=>by rw [sS]) (aBl a2 (by omega))
    rw [rU]
    simp only [e2,Option.bind_eq_bind,Option.bind_some]
theorem aX2:∀ x:aY,eX x≤1048576→wM x=some x
  | ⟨a0,a1,a2,a3⟩,hz=>by
    simp only [eX] at hz
    have e2:lF a2=some a2:=aEx a2 (by omega)
    rw [wM]
    simp only [e2,Option.bind_eq_bind,Option.bind_some]
theorem aNc:∀ x:aL,eF x≤1048576→pR x=some x
  | ⟨a0,a1,a2,a3,a4,a5⟩,hz=>by
    simp only [eF] at hz
    have e1:R8 a1=some a1:=nD (by':=176) (W:=wM) (by omega) (by omega) (by rw [R8]) (fun i b=>by rw [U0]) (aRe a1 (by omega))
    have e2:Y3 a2=some a2:=nD (by':=56) (W:=rU) (by omega) (by omega) (by rw [Y3]) (fun i b=>by rw [aB5]) (aPx a2 (by omega))
    have e3:jH a3=some a3:=nD (by':=136) (W:=lF) (by omega) (by omega) (by rw [jH]) (fun i b=>by rw [sS]) (aBl a3 (by omega))
    have e4:aAa a4=some a4:=nD (by':=144) (W:=vV) (by omega) (by omega) (by rw [aAa]) (fun i b=>by rw [S9]) (aNr a4 (by omega))
    rw [pR]
    simp only [e1,e2,e3,e4,Option.bind_eq_bind,Option.bind_some]
theorem aEx:∀ x:aB,bF x≤1048576→lF x=some x
  | ⟨a0,a1,a2,a3,a4,a5,a6,a7⟩,hz=>by
    simp only [bF] at hz
    have e3:qB a3=some a3:=aTo a3 (by omega)
    have e6:jH a6=some a6:=nD (by':=136) (W:=lF) (by omega) (by omega) (by rw [jH]) (fun i b=>by rw [sS]) (aBl a6 (by omega))
    have e7:aA1 a7=some a7:=nD (by':=112) (W:=pR) (by omega) (by omega) (by rw [aA1]) (fun i b=>by rw [R5]) (aS5 a7 (by omega))
    rw [lF]
    simp only [e3,e6,e7,Option.bind_eq_bind,Option.bind_some]
theorem aBl:∀ l:List aB,gD l≤1048576→∀ y ∈ l,lF y=some y
  | [],_=>fun y hy=>by simp at hy
  | x::l,hz=>by
    simp only [gD] at hz
    intro y hy
    rcases List.mem_cons.1 hy with r | hy
    · rw [r]; exact aEx x (by omega)
    · exact aBl l (by omega) y hy
theorem aS5:∀ l:List aL,jL l≤1048576→∀ y ∈ l,pR y=some y
  | [],_=>fun y hy=>by simp at hy
  | x::l,hz=>by
    simp only [jL] at hz
    intro y hy
    rcases List.mem_cons.1 hy with r | hy
    · rw [r]; exact aNc x (by omega)
    · exact aS5 l (by omega) y hy
theorem aRe:∀ l:List aY,iU l≤1048576→∀ y ∈ l,wM y=some y
  | [],_=>fun y hy=>by simp at hy
  | x::l,hz=>by
    simp only [iU] at hz
    intro y hy
    rcases List.mem_cons.1 hy with r | hy
    · rw [r]; exact aX2 x (by omega)
    · exact aRe l (by omega) y hy
theorem aPx:∀ l:List aX,iE l≤1048576→∀ y ∈ l,rU y=some y
  | [],_=>fun y hy=>by simp at hy
  | x::l,hz=>by
    simp only [iE] at hz
    intro y hy
    rcases List.mem_cons.1 hy with r | hy
    · rw [r]; exact aVk x (by omega)
    · exact aPx l (by omega) y hy
theorem aNr:∀ l:List aZ,iR l≤1048576→∀ y ∈ l,vV y=some y
  | [],_=>fun y hy=>by simp at hy
  | x::l,hz=>by
    simp only [iR] at hz
    intro y hy
    rcases List.mem_cons.1 hy with r | hy
    · rw [r]; exact aVx x (by omega)
    · exact aNr l (by omega) y hy
end
mutual
theorem bA0:∀ x:aZ,fZ x≤1048576→wB x x=some true
  | ⟨a0,a1⟩,hz=>by
    simp only [fZ] at hz
    have e0:kV a0 a0=some true:=aDz a0 (by omega)
    rw [wB]
    simp [e0]
theorem bBs:∀ x:aX,fO x≤1048576→tC x x=some true
  | ⟨a0,a1,a2⟩,hz=>by
    simp only [fO] at hz
    have e2:jA a2 a2=some true:=nA (E:=kV) (by omega) (by rw [jA]) (fun i=>by rw [rJ]) (V5 a2 (by omega))
    rw [tC]
    simp [e2]
theorem bB6:∀ x:aY,eX x≤1048576→vF x x=some true
  | ⟨a0,a1,a2,a3⟩,hz=>by
    simp only [eX] at hz
    have e2:kV a2 a2=some true:=aDz a2 (by omega)
    rw [vF]
    simp [e2]
theorem aNm:∀ x:aL,eF x≤1048576→qN x x=some true
  | ⟨a0,a1,a2,a3,a4,a5⟩,hz=>by
    simp only [eF] at hz
    have e1:aB1 a1 a1=some true:=nA (E:=vF) (by omega) (by rw [aB1]) (fun i=>by rw [Y0]) (aSa a1 (by omega))
    have e2:aA8 a2 a2=some true:=nA (E:=tC) (by omega) (by rw [aA8]) (fun i=>by rw [aB7]) (aN8 a2 (by omega))
    have e3:jA a3 a3=some true:=nA (E:=kV) (by omega) (by rw [jA]) (fun i=>by rw [rJ]) (V5 a3 (by omega))
    have e4:aAt a4 a4=some true:=nA (E:=wB) (by omega) (by rw [aAt]) (fun i=>by rw [aAh]) (aRh a4 (by omega))
    rw [qN]
    simp [e1,e2,e3,e4]
theorem aDz:∀ x:aB,bF x≤1048576→kV x x=some true
  | ⟨a0,a1,a2,a3,a4,a5,a6,a7⟩,hz=>by
    simp only [bF] at hz
    have e3:wV a3 a3=some true:=bE0 a3 (by omega)
    have e6:jA a6 a6=some true:=nA (E:=kV) (by omega) (by rw [jA]) (fun i=>by rw [rJ]) (V5 a6 (by omega))
    have e7:R3 a7 a7=some true:=nA (E:=qN) (by omega) (by rw [R3]) (fun i=>by rw [V9]) (aP8 a7 (by omega))
    rw [kV]
    simp [e3,e6,e7]
theorem V5:∀ l:List aB,gD l≤1048576→∀ y ∈ l,kV y y=some true
  | [],_=>fun y hy=>by simp at hy
  | x::l,hz=>by
    simp only [gD] at hz
    intro y hy
    rcases List.mem_cons.1 hy with r | hy
    · rw [r]; exact aDz x (by omega)
    · exact V5 l (by omega) y hy
theorem aP8:∀ l:List aL,jL l≤1048576→∀ y ∈ l,qN y y=some true
  | [],_=>fun y hy=>by simp at hy
  | x::l,hz=>by
    simp only [jL] at hz
    intro y hy
    rcases List.mem_cons.1 hy with r | hy
    · rw [r]; exact aNm x (by omega)
    · exact aP8 l (by omega) y hy
theorem aSa:∀ l:List aY,iU l≤1048576→∀ y ∈ l,vF y y=some true
  | [],_=>fun y hy=>by simp at hy
  | x::l,hz=>by
    simp only [iU] at hz
    intro y hy
    rcases List.mem_cons.1 hy with r | hy
    · rw [r]; exact bB6 x (by omega)
    · exact aSa l (by omega) y hy
theorem aN8:∀ l:List aX,iE l≤1048576→∀ y ∈ l,tC y y=some true
  | [],_=>fun y hy=>by simp at hy
  | x::l,hz=>by
    simp only [iE] at hz
    intro y hy
    rcases List.mem_cons.1 hy with r | hy
    · rw [r]; exact bBs x (by omega)
    · exact aN8 l (by omega) y hy
theorem aRh:∀ l:List aZ,iR l≤1048576→∀ y ∈ l,wB y y=some true
  | [],_=>fun y hy=>by simp at hy
  | x::l,hz=>by
    simp only [iR] at hz
    intro y hy
    rcases List.mem_cons.1 hy with r | hy
    · rw [r]; exact bA0 x (by omega)
    · exact aRh l (by omega) y hy
end
theorem aIj (p:(List aB)) (h:(okL okGExpr) p):fP jD (zL bF) p:=oI (F:=kX) h.1 (fun n=>by rw [jD]) (fun i x=>by rw [tN]) (fun y hy=>aC3 y (h.2 y hy))
theorem aLd (p:(List aB)) (hz:(zL bF) p≤1048576):jH p=some p:=by
  have q:(zL bF) p=p.length+gD p:=by unfold zL; rw [kU]
  exact nD (by':=136) (W:=lF) (by omega) (by omega) (by rw [jH]) (fun i b=>by rw [sS]) (aBl p (by omega))
theorem aKu (p:(List aB)) (hz:(zL bF) p≤1048576):jA p p=some true:=by
  have q:(zL bF) p=p.length+gD p:=by unfold zL; rw [kU]
  exact nA (E:=kV) (by omega) (by rw [jA]) (fun i=>by rw [rJ]) (V5 p (by omega))
theorem aX3 (p:(List (List aB))) (h:(okL (okL okGExpr)) p):fP J6 (zL (zL bF)) p:=oI (F:=jD) h.1 (fun n=>by rw [J6]) (fun i x=>by rw [G6]) (fun y hy=>aIj y (h.2 y hy))
theorem aYf (p:(List (List aB))) (hz:(zL (zL bF)) p≤1048576):F5 p=some p:=nD (by':=24) (W:=jH) (by unfold zL at hz; omega) (by omega) (by rw [F5]) (fun i b=>by rw [O3]) (fun y hy=>aLd y (by have h1:=nV (z:=(zL bF)) hy; have h2:zL (zL bF) p=p.length+(p.map (zL bF)).sum:=rfl; omega))
theorem bDt (p:(List (List aB))) (hz:(zL (zL bF)) p≤1048576):D7 p p=some true:=nA (E:=jA) (by unfold zL at hz; omega) (by rw [D7]) (fun i=>by rw [J2]) (fun y hy=>aKu y (by have h1:=nV (z:=(zL bF)) hy; have h2:zL (zL bF) p=p.length+(p.map (zL bF)).sum:=rfl; omega))
theorem aUf (p:(List (List UInt8))) (h:(okL okS) p):fP zH (zL List.length) p:=oI (F:=aAp) h.1 (fun n=>by rw [zH]) (fun i x=>by rw [vE]; simp only [fun y=>aSn y x (fun r=>vE p r (IntKind.wrap .i64 ((i:Int)+1)))]) (fun y hy=>bAx y (h.2 y hy))
theorem aTm (p:(List (List UInt8))) (hz:(zL List.length) p≤1048576):wZ p=some p:=nD (by':=16) (W:=some) (by unfold zL at hz; omega) (by omega) (by rw [wZ]) (fun i b=>by rw [O0]; rfl) (fun y hy=>rfl)
theorem aXp (p:(List (List UInt8))) (hz:(zL List.length) p≤1048576):lC p p=some true:=nA (E:=fun a b=>some (decide (a=b))) (by unfold zL at hz; omega) (by rw [lC]) (fun i=>by rw [wN]; rfl) (fun y hy=>by simp)
def iC:cK→Nat
  | ⟨a0,a1,a2,a3,a4,a5,a6⟩=>eF a1+a2.length+(zL (zL bF)) a3+(zL List.length) a4+(zL bF) a5+(zL bF) a6
theorem aSz:∀ x:cK,okGStmt x→fP aA2 iC x
  | ⟨a0,a1,a2,a3,a4,a5,a6⟩,h=>by
    simp only [okGStmt] at h
    obtain ⟨o0,o1,o2,o3,o4,o5,o6⟩:=h
    intro n h0 h1
    have e1:fP pG eF a1:=aP5 a1 o1
    have b2:a2.length≤9223372036854775807:=o2
    have e3:fP J6 (zL (zL bF)) a3:=aX3 a3 o3
    have e4:fP zH (zL List.length) a4:=aUf a4 o4
    have e5:fP jD (zL bF) a5:=aIj a5 o5
    have e6:fP jD (zL bF) a6:=aIj a6 o6
    have hz:((iC ⟨a0,a1,a2,a3,a4,a5,a6⟩:Nat):Int)=((eF a1:Nat):Int)+(a2.length:Int)+(((zL (zL bF)) a3:Nat):Int)+(((zL List.length) a4:Nat):Int)+(((zL bF) a5:Nat):Int)+(((zL bF) a6:Nat):Int):=by simp only [iC] <;> omega
    rw [hz,aA2]
    dsimp only
    rw [e1 n (by omega) (by omega)]
    simp only [Option.bind_eq_bind,Option.bind_some]
    rcases (Decidable.em (((eF a1:Nat):Int)≤n)).symm with r1 | r1
    · rw [if_neg r1,if_pos (by decide)]; first | done | rw [if_neg (by omega)]
    rw [if_pos r1,if_neg (by simp; omega)]
    rw [lY (n:=(n - ((eF a1:Nat):Int)) - (a2.length:Int)) (by omega) (by omega)]
    by_cases r2:(n - ((eF a1:Nat):Int)) - (a2.length:Int)<0
    · rw [if_pos (by simpa using r2),if_neg (by omega)]
    rw [if_neg (by simpa using r2)]
    rw [e3 ((n - ((eF a1:Nat):Int)) - (a2.length:Int)) (by omega) (by omega)]
    simp only [Option.bind_eq_bind,Option.bind_some]
    rcases (Decidable.em ((((zL (zL bF)) a3:Nat):Int)≤((n - ((eF a1:Nat):Int)) - (a2.length:Int)))).symm with r3 | r3
    · rw [if_neg r3,if_pos (by decide)]; first | done | rw [if_neg (by omega)]
    rw [if_pos r3,if_neg (by simp; omega)]
    rw [e4 (((n - ((eF a1:Nat):Int)) - (a2.length:Int)) - (((zL (zL bF)) a3:Nat):Int)) (by omega) (by omega)]
    simp only [Option.bind_eq_bind,Option.bind_some]
    rcases (Decidable.em ((((zL List.length) a4:Nat):Int)≤(((n - ((eF a1:Nat):Int)) - (a2.length:Int)) - (((zL (zL bF)) a3:Nat):Int)))).symm with r4 | r4
    · rw [if_neg r4,if_pos (by decide)]; first | done | rw [if_neg (by omega)]
    rw [if_pos r4,if_neg (by simp; omega)]
    rw [e5 ((((n - ((eF a1:Nat):Int)) - (a2.length:Int)) - (((zL (zL bF)) a3:Nat):Int)) - (((zL List.length) a4:Nat):Int)) (by omega) (by omega)]
    simp only [Option.bind_eq_bind,Option.bind_some]
    rcases (Decidable.em ((((zL bF) a5:Nat):Int)≤((((n - ((eF a1:Nat):Int)) - (a2.length:Int)) - (((zL (zL bF)) a3:Nat):Int)) - (((zL List.length) a4:Nat):Int)))).symm with r5 | r5
    · rw [if_neg r5,if_pos (by decide)]; first | done | rw [if_neg (by omega)]
    rw [if_pos r5,if_neg (by simp; omega)]
    rw [e6 (((((n - ((eF a1:Nat):Int)) - (a2.length:Int)) - (((zL (zL bF)) a3:Nat):Int)) - (((zL List.length) a4:Nat):Int)) - (((zL bF) a5:Nat):Int)) (by omega) (by omega)]
    simp only [Option.bind_eq_bind,Option.bind_some]
    rcases (Decidable.em ((((zL bF) a6:Nat):Int)≤(((((n - ((eF a1:Nat):Int)) - (a2.length:Int)) - (((zL (zL bF)) a3:Nat):Int)) - (((zL List.length) a4:Nat):Int)) - (((zL bF) a5:Nat):Int)))).symm with r6 | r6
    · rw [if_neg r6,if_pos (by decide)]; first | done | rw [if_neg (by omega)]
    rw [if_pos r6,if_neg (by simp; omega)]
    first | done | (rw [if_pos (by omega)]; done) | (rw [if_pos (by omega)]; congr 1 <;> omega) | (congr 1 <;> omega)
theorem aWu:∀ x:cK,iC x≤1048576→wI x=some x
  | ⟨a0,a1,a2,a3,a4,a5,a6⟩,hz=>by
    simp only [iC] at hz
    have e1:pR a1=some a1:=aNc a1 (by omega)
    have e3:F5 a3=some a3:=aYf a3 (by omega)
    have e4:wZ a4=some a4:=aTm a4 (by omega)
    have e5:jH a5=some a5:=aLd a5 (by omega)
    have e6:jH a6=some a6:=aLd a6 (by omega)
    rw [wI]
    simp only [e1,e3,e4,e5,e6,Option.bind_eq_bind,Option.bind_some]
theorem bCo:∀ x:cK,iC x≤1048576→zZ x x=some true
  | ⟨a0,a1,a2,a3,a4,a5,a6⟩,hz=>by
    simp only [iC] at hz
    have e1:qN a1 a1=some true:=aNm a1 (by omega)
    have e3:D7 a3 a3=some true:=bDt a3 (by omega)
    have e4:lC a4 a4=some true:=aXp a4 (by omega)
    have e5:jA a5 a5=some true:=aKu a5 (by omega)
    have e6:jA a6 a6=some true:=aKu a6 (by omega)
    rw [zZ]
    simp [e1,e3,e4,e5,e6]
def iP (q:aL):List aB:=q.items.flatMap (fun i=>if i.star then [] else [i.expr])++q.from_.flatMap (fun s=>s.on_)++q.where_++q.order.flatMap (fun k=>[k.expr])
theorem zQ (q:aL):eF q=(q.items.length+iU q.items)+(q.from_.length+iE q.from_)+(q.where_.length+gD q.where_)+(q.order.length+iR q.order):=by
  cases q; simp only [eF]
theorem zE (x:aB):bF x=iZ x.value+x.qual.length+x.name.length+(x.kids.length+gD x.kids)+(x.sub.length+jL x.sub):=by
  cases x; simp only [bF]
theorem aDo:∀ l:List aY,(l.flatMap (fun i=>if i.star then [] else [i.expr])).length≤l.length
  | []=>by simp
  | x::l=>by
    have:=aDo l
    rw [List.flatMap_cons,List.length_append]
    have h1:(if x.star=true then [] else [x.expr]).length≤1:=by cases x.star <;> simp
    simp only [List.length_cons]; omega
theorem aC9:∀ l:List aX,(l.flatMap (fun s=>s.on_)).length≤iE l
  | []=>by simp
  | ⟨a,b,c⟩::l=>by
    have:=aC9 l
    rw [List.flatMap_cons,List.length_append]
    simp only [iE,fO]; omega
theorem aDf:∀ l:List aZ,(l.flatMap (fun k=>[k.expr])).length=l.length
  | []=>by simp
  | x::l=>by rw [List.flatMap_cons,List.length_append,aDf l]; simp; omega
theorem aQ6 (q:aL) (hz:eF q≤1048576):qL q=some (iP q):=by
  have h:=zQ q
  have h1:=aDo q.items
  have h2:=aC9 q.from_
  have h3:=aDf q.order
  have app:∀ {l m:List aB},l.length+m.length≤1048576→appG 136 l m=some (l++m):=fun h=>J9 (by omega)
  unfold qL
  rw [gather (p:=q.items) (f:=fun i=>if i.star then [] else [i.expr]) (c:=1048576) (G:=fun y acc=>if (!y.star)=true then appG 136 acc [y.expr] else some acc) (L:=fun acc i=>O8 q acc i) (K:=fun acc=>sV q acc 0) (by omega) ?_ ?_ [] (by simp only [List.length_nil,Nat.zero_add]; omega)]
  rw [gather (p:=q.from_) (f:=fun s=>s.on_) (c:=1048576) (G:=fun y acc=>appG 136 acc y.on_) (L:=fun acc i=>sV q acc i) (K:=fun acc=>(appG 136 acc q.where_)>>=fun y7=>tJ q y7 0) (by omega) ?_ ?_ _ (by simp only [List.length_append,List.length_nil]; omega)]
  rw [app (by simp only [List.length_append,List.length_nil]; omega)]
  simp only [Option.bind_eq_bind,Option.bind_some]
  rw [gather (p:=q.order) (f:=fun k=>[k.expr]) (c:=1048576) (G:=fun y acc=>appG 136 acc [y.expr]) (L:=fun acc i=>tJ q acc i) (K:=fun acc=>some acc) (by omega) ?_ ?_ _ (by simp only [List.length_append,List.length_nil]; omega)]
  · simp [iP]
  · intro y _ acc ha; exact app ha
  · intro i acc; rw [tJ]
  · intro y _ acc ha; exact app ha
  · intro i acc; rw [sV]
  · intro y _ acc ha
    cases hs:y.star
    · simp only [hs,Bool.not_false,if_true] at ha ⊢; exact app ha
    · simp
  · intro i acc
    rw [O8]
    simp only [O7]
    split
    · simp only [Option.bind_eq_bind]
      cases idx q.items (i:Int) with
      | none=>rfl
      | some y=>by_cases hs:y.star=true <;> simp [hs]
    · rfl
theorem aYg (q:aL) (hz:eF q≤1048576):vR q=some (iP q):=by
  have h:=zQ q
  have h1:=aDo q.items
  have h2:=aC9 q.from_
  have h3:=aDf q.order
  have app:∀ {l m:List aB},l.length+m.length≤1048576→appG 136 l m=some (l++m):=fun h=>J9 (by omega)
  unfold vR
  rw [gather (p:=q.items) (f:=fun i=>if i.star then [] else [i.expr]) (c:=1048576) (G:=fun y acc=>if (!y.star)=true then appG 136 acc [y.expr] else some acc) (L:=fun acc i=>yM q acc i) (K:=fun acc=>uB q acc 0) (by omega) ?_ ?_ [] (by simp only [List.length_nil,Nat.zero_add]; omega)]
  rw [gather (p:=q.from_) (f:=fun s=>s.on_) (c:=1048576) (G:=fun y acc=>appG 136 acc y.on_) (L:=fun acc i=>uB q acc i) (K:=fun acc=>(appG 136 acc q.where_)>>=fun y7=>uA q y7 0) (by omega) ?_ ?_ _ (by simp only [List.length_append,List.length_nil]; omega)]
  rw [app (by simp only [List.length_append,List.length_nil]; omega)]
  simp only [Option.bind_eq_bind,Option.bind_some]
  rw [gather (p:=q.order) (f:=fun k=>[k.expr]) (c:=1048576) (G:=fun y acc=>appG 136 acc [y.expr]) (L:=fun acc i=>uA q acc i) (K:=fun acc=>some acc) (by omega) ?_ ?_ _ (by simp only [List.length_append,List.length_nil]; omega)]
  · simp [iP]
  · intro y _ acc ha; exact app ha
  · intro i acc; rw [uA]
  · intro y _ acc ha; exact app ha
  · intro i acc; rw [uB]
  · intro y _ acc ha
    cases hs:y.star
    · simp only [hs,Bool.not_false,if_true] at ha ⊢; exact app ha
    · simp
  · intro i acc
    rw [yM]
    simp only [zM]
    split
    · simp only [Option.bind_eq_bind]
      cases idx q.items (i:Int) with
      | none=>rfl
      | some y=>by_cases hs:y.star=true <;> simp [hs]
    · rfl
theorem nG {x:aB}:∀ {l:List aB},x ∈ l→bF x<l.length+gD l
  | y::l,h=>by
    simp only [gD,List.length_cons]
    rcases List.mem_cons.1 h with rfl | h
    · omega
    · have:=nG h; omega
theorem tK {x:aL}:∀ {l:List aL},x ∈ l→eF x<l.length+jL l
  | y::l,h=>by
    simp only [jL,List.length_cons]
    rcases List.mem_cons.1 h with rfl | h
    · omega
    · have:=tK h; omega
theorem uD {x:aY}:∀ {l:List aY},x ∈ l→eX x<l.length+iU l
  | y::l,h=>by
    simp only [iU,List.length_cons]
    rcases List.mem_cons.1 h with rfl | h
    · omega
    · have:=uD h; omega
theorem Y6 {x:aX}:∀ {l:List aX},x ∈ l→fO x<l.length+iE l
  | y::l,h=>by
    simp only [iE,List.length_cons]
    rcases List.mem_cons.1 h with rfl | h
    · omega
    · have:=Y6 h; omega
theorem wP {x:aZ}:∀ {l:List aZ},x ∈ l→fZ x<l.length+iR l
  | y::l,h=>by
    simp only [iR,List.length_cons]
    rcases List.mem_cons.1 h with rfl | h
    · omega
    · have:=wP h; omega
theorem aZ9 (q:aL):(iP q).length≤eF q:=by
  have h:=zQ q
  have h1:=aDo q.items
  have h2:=aC9 q.from_
  have h3:=aDf q.order
  simp only [iP,List.length_append]; omega
theorem aGu {q:aL} {x:aB} (hx:x ∈ iP q):bF x<eF q:=by
  have h:=zQ q
  simp only [iP,List.mem_append,List.mem_flatMap] at hx
  rcases hx with ((⟨i,hi,hx⟩ | ⟨s,hs,hx⟩) | hx) | ⟨k,hk,hx⟩
  · have h1:=uD hi
    have:x=i.expr:=by
      cases hst:i.star <;> simp [hst] at hx
      exact hx
    subst this
    have:bF i.expr≤eX i:=by obtain ⟨a,b,c,d⟩:=i; simp only [eX]; omega
    omega
  · have h1:=Y6 hs
    have h2:=nG hx
    have:s.on_.length+gD s.on_≤fO s:=by obtain ⟨a,b,c⟩:=s; simp only [fO]; omega
    omega
  · have h2:=nG hx
    omega
  · have h1:=wP hk
    have:x=k.expr:=by simpa using hx
    subst this
    have:bF k.expr≤fZ k:=by obtain ⟨a,b⟩:=k; simp only [fZ]; omega
    omega
theorem yH {α:Type} (z:α→Nat) (l m:List α):((l++m).map z).sum=(l.map z).sum+(m.map z).sum:=by simp
theorem bD3 (q:aL):(iP q).length+((iP q).map bF).sum≤eF q:=by
  have h:=zQ q
  have h1:∀ l:List aY,(l.flatMap (fun i=>if i.star then [] else [i.expr])).length+((l.flatMap (fun i=>if i.star then [] else [i.expr])).map bF).sum≤l.length+iU l:=by
    intro l
    induction l with
    | nil=>simp
    | cons x l ih =>
      rw [List.flatMap_cons,List.length_append,yH]
      have h1:(if x.star=true then [] else [x.expr]).length+((if x.star=true then [] else [x.expr]).map bF).sum≤1+eX x:=by
        obtain ⟨a,b,c,d⟩:=x
        cases a <;> simp [eX] <;> omega
      simp only [List.length_cons,iU]; omega
  have h2:∀ l:List aX,(l.flatMap (fun s=>s.on_)).length+((l.flatMap (fun s=>s.on_)).map bF).sum≤l.length+iE l:=by
    intro l
    induction l with
    | nil=>simp
    | cons x l ih =>
      rw [List.flatMap_cons,List.length_append,yH]
      obtain ⟨a,b,c⟩:=x
      simp only [List.length_cons,iE,fO,kU]; omega
  have h3:∀ l:List aZ,(l.flatMap (fun k=>[k.expr])).length+((l.flatMap (fun k=>[k.expr])).map bF).sum≤l.length+iR l:=by
    intro l
    induction l with
    | nil=>simp
    | cons x l ih =>
      rw [List.flatMap_cons,List.length_append,yH]
      obtain ⟨a,b⟩:=x
      simp only [List.length_cons,List.length_nil,List.map_cons,List.map_nil,List.sum_cons,List.sum_nil,iR,fZ]; omega
  have k1:=h1 q.items
  have k2:=h2 q.from_
  have k3:=h3 q.order
  have k4:=kU q.where_
  simp only [iP,List.length_append,yH]
  omega
def nT (s:cK):List aB:=iP s.query++s.rows.flatMap id++s.sets++s.where_
theorem aWs (l:List (List aB)):(l.flatMap id).length+((l.flatMap id).map bF).sum≤zL (zL bF) l:=by
  have e:∀ l:List (List aB),zL (zL bF) l=l.length+(l.map (zL bF)).sum:=fun _=>rfl
  have e2:∀ l:List aB,zL bF l=l.length+(l.map bF).sum:=fun _=>rfl
  induction l with
  | nil=>simp [e]
  | cons x l ih =>
    rw [e] at ih ⊢
    rw [List.flatMap_cons,List.length_append,yH,List.map_cons,List.sum_cons,List.length_cons,e2]
    simp only [id]
    omega
theorem aFq (s:cK):(nT s).length+((nT s).map bF).sum≤iC s:=by
  obtain ⟨k,q,t,r,c,se,w⟩:=s
  have e2:∀ l:List aB,zL bF l=l.length+(l.map bF).sum:=fun _=>rfl
  have h1:=bD3 q
  have h2:=aWs r
  have h3:=e2 se
  have h4:=e2 w
  simp only [nT,List.length_append,yH,iC]
  omega
theorem aV3 (s:cK):s.rows.length≤iC s∧eF s.query≤iC s:=by
  obtain ⟨k,q,t,r,c,se,w⟩:=s
  have e:zL (zL bF) r=r.length+(r.map (zL bF)).sum:=rfl
  simp only [iC]
  omega
theorem bBd {s:cK} {y:aB} (h:y ∈ nT s):bF y<iC s:=by
  have h1:=aFq s
  have h2:=nV (z:=bF) h
  have h3:0<(nT s).length:=List.length_pos_of_mem h
  omega
theorem aU7 (s:cK) (hz:iC s≤1048576):zP s=some (nT s):=by
  have h1:=aFq s
  obtain ⟨h2,h3⟩:=aV3 s
  have app:∀ {l m:List aB},l.length+m.length≤1048576→appG 136 l m=some (l++m):=fun h=>J9 (by omega)
  simp only [nT,List.length_append] at h1
  unfold zP
  rw [aQ6 s.query (by omega)]
  simp only [Option.bind_eq_bind,Option.bind_some]
  rw [gather (p:=s.rows) (f:=id) (c:=1048576) (G:=fun y acc=>appG 136 acc y) (L:=fun acc i=>wU s acc i) (K:=fun acc=>(appG 136 acc s.sets)>>=fun y4=>(appG 136 y4 s.where_)>>=fun y5=>some y5) (by omega) ?_ ?_ _ (by omega)]
  · simp only [Option.bind_eq_bind]
    rw [app (by simp only [List.length_append]; omega)]
    simp only [Option.bind_some]
    rw [app (by simp only [List.length_append]; omega)]
    rfl
  · intro y _ acc ha; exact app ha
  · intro i acc; rw [wU]
theorem aFu {α : Type} {L : Int → Int → List α → Option (Int × List α)} {z : α → Nat} (hend : ∀ k (m : List α), L k (m.length : Int) m = some (k, m)) :
    ∀ (r:Nat) (i:Nat) (m:List α) (k:Int),m.length=i+r→m.length≤1048576 →
    (∀ y ∈ m.drop i,∀ k:Int,0≤k→k+13 * (1+z y:Nat)≤1000000000→∃ k1 y',k≤k1∧k1≤k+13 * (1+z y:Nat)∧(∀ (m:List α) (i:Nat),i<m.length→m.length≤1048576→m[i]?=some y→L k (i:Int) m=L k1 ((i+1:Nat):Int) (m.set i y'))) →
    0≤k→k+13 * ((m.drop i).length+((m.drop i).map z).sum:Nat)≤1000000000→∃ m' k',L k (i:Int) m=some (k',m')∧k≤k'∧k'≤k+13 * ((m.drop i).length+((m.drop i).map z).sum:Nat):=by
  intro r
  induction r with
  | zero =>
    intro i m k hl _ _ h0 hk
    have e:i=m.length:=by omega
    subst e
    exact ⟨m,k,hend k m,by omega,by simp⟩
  | succ r ih =>
    intro i m k hl hsm H h0 hk
    have hi:i<m.length:=by omega
    have hd:m.drop i=m[i]::m.drop (i+1):=List.drop_eq_getElem_cons hi
    rw [hd] at hk H
    simp only [List.length_cons,List.map_cons,List.sum_cons] at hk
    obtain ⟨k1,y',a1,a2,a3⟩:=H m[i] List.mem_cons_self k h0 (by omega)
    have hset:(m.set i y').drop (i+1)=m.drop (i+1):=List.drop_set_of_lt (by omega)
    obtain ⟨m',k',b1,b5,b6⟩:=ih (i+1) (m.set i y') k1 (by simp; omega) (by simpa using hsm) (by rw [hset]; exact fun y hy=>H y (List.mem_cons_of_mem _ hy)) (by omega) (by rw [hset]; omega)
    rw [hset] at b6
    refine ⟨m',k',?_,by omega,?_⟩
    · rw [a3 m i hi hsm (by simp [hi]),b1]
    · rw [hd]
      simp only [List.length_cons,List.map_cons,List.sum_cons]; omega
theorem V8 {α : Type} {L : Int → Int → List α → Option (Int × List α)} {z : α → Nat} (hend : ∀ k (m : List α), L k (m.length : Int) m = some (k, m)) (l : List α) (k : Int) (hl : l.length ≤ 1048576)
    (H:∀ y ∈ l,∀ k:Int,0≤k→k+13 * (1+z y:Nat)≤1000000000→∃ k1 y',k≤k1∧k1≤k+13 * (1+z y:Nat)∧(∀ (m:List α) (i:Nat),i<m.length→m.length≤1048576→m[i]?=some y→L k (i:Int) m=L k1 ((i+1:Nat):Int) (m.set i y')))
    (h0:0≤k) (hk:k+13 * (l.length+(l.map z).sum:Nat)≤1000000000):∃ l' k',L k 0 l=some (k',l')∧k≤k'∧k'≤k+13 * (l.length+(l.map z).sum:Nat):=by
  obtain ⟨m',k',b1,b5,b6⟩:=aFu (z:=z) hend l.length 0 l k (by omega) hl (by simpa using H) h0 (by simpa using hk)
  exact ⟨m',k',by simpa using b1,b5,by simpa using b6⟩
theorem bD5:∀ (n:Nat) (x:Int) (t:List UInt8),0≤x→x<10 ^ n→x≤1000000000000→t.length+n≤100→∃ s,qZ x t=some s:=by
  intro n
  have cat:∀ a b:List UInt8,a.length+b.length≤200→xW a b=some (a++b):=fun a b h=>by unfold xW; rw [if_pos (by simp only [maxLen]; omega)]
  induction n with
  | zero =>
    intro x t h0 h1 _ ht
    rw [qZ,if_neg (by simp at h1 ⊢; omega)]
    rw [cat _ _ (by simp; omega)]
    exact ⟨_,rfl⟩
  | succ n ih =>
    intro x t h0 h1 hb ht
    rw [qZ]
    by_cases hx:0<x
    · rw [if_pos (by simpa using hx)]
      have e:ofBytes [IntKind.wrap .u8 (IntKind.wrap .i64 (48+Int.tmod x 10))]=some [UInt8.ofNat (IntKind.wrap .u8 (IntKind.wrap .i64 (48+Int.tmod x 10))).toNat]:=by
        unfold ofBytes
        rw [if_pos (by simp [IntKind.wrap,IntKind.bits,IntKind.signed]; omega)]
        rfl
      rw [e]
      simp only [Option.bind_eq_bind,Option.bind_some]
      rw [cat _ _ (by simp; omega)]
      simp only [Option.bind_some]
      have ed:Int.tdiv x 10=x / 10:=Int.tdiv_eq_ediv_of_nonneg (by omega)
      have ed2:x / 10<10 ^ n:=by
        have:x<10 ^ n * 10:=by rw [Int.pow_succ] at h1; exact h1
        exact Int.ediv_lt_of_lt_mul (by omega) this
      rw [ed,lY (by omega) (by omega)]
      exact ih _ _ (by omega) ed2 (by omega) (by simp; omega)
    · rw [if_neg (by simpa using hx)]
      rw [cat _ _ (by simp; omega)]
      exact ⟨_,rfl⟩
def mt (k:Int):List UInt8:=(iQ k).getD []
theorem sG {k:Int} (h0:0≤k) (h1:k≤1000000000000):iQ k=some (mt k):=by
  have:∃ s,iQ k=some s:=by
    unfold iQ
    split
    · exact ⟨_,rfl⟩
    · exact bD5 20 k [] h0 (by omega) h1 (by simp)
  obtain ⟨s,hs⟩:=this
  simp [mt,hs]
theorem aTj {α : Type} {LM : Int → Int → List α → Option (Int × List α)} {LH : List α → Int → Int → Option Int} {z : α → Nat} {B : Int}
    (hend:∀ k (m:List α),LM k (m.length:Int) m=some (k,m)) (hend2:∀ k (m:List α),LH m k (m.length:Int)=some k) :
    ∀ (r:Nat) (i:Nat) (m:List α) (k:Int),m.length=i+r→m.length≤1048576 →
    (∀ y ∈ m.drop i,∀ k,0≤k→k+13 * (1+z y:Nat)≤B→∃ k1 y',k≤k1∧k1≤k+13 * (1+z y:Nat) ∧
      (∀ (m:List α) (i:Nat),i<m.length→m.length≤1048576→m[i]?=some y→LM k (i:Int) m=LM k1 ((i+1:Nat):Int) (m.set i y')) ∧
      (∀ (M:List α) (i:Nat),i<M.length→M.length≤1048576→M[i]?=some y'→LH M k (i:Int)=LH M k1 ((i+1:Nat):Int))) →
    0≤k→k+13 * ((m.drop i).length+((m.drop i).map z).sum:Nat)≤B →
    ∃ m' k',LM k (i:Int) m=some (k',m')∧m'.length=m.length∧m'.take i=m.take i∧(∀ M:List α,M.length=m'.length→M.drop i=m'.drop i→LH M k (i:Int)=some k')∧k≤k'∧k'≤k+13 * ((m.drop i).length+((m.drop i).map z).sum:Nat):=by
  intro r
  induction r with
  | zero =>
    intro i m k hl _ _ h0 hk
    have e:i=m.length:=by omega
    subst e
    refine ⟨m,k,hend k m,rfl,rfl,fun M hM _=>?_,by omega,by simp⟩
    rw [← hM]; exact hend2 k M
  | succ r ih =>
    intro i m k hl hsm H h0 hk
    have hi:i<m.length:=by omega
    have hd:m.drop i=m[i]::m.drop (i+1):=List.drop_eq_getElem_cons hi
    rw [hd] at hk H
    simp only [List.length_cons,List.map_cons,List.sum_cons] at hk
    obtain ⟨k1,y',a1,a2,a3,a4⟩:=H m[i] List.mem_cons_self k h0 (by omega)
    have hset:(m.set i y').drop (i+1)=m.drop (i+1):=List.drop_set_of_lt (by omega)
    obtain ⟨m',k',b1,b2,b3,b4,b5,b6⟩:=ih (i+1) (m.set i y') k1 (by simp; omega) (by simpa using hsm) (by rw [hset]; exact fun y hy=>H y (List.mem_cons_of_mem _ hy)) (by omega) (by rw [hset]; omega)
    rw [hset] at b6
    rw [List.length_set] at b2
    have hm'i:m'[i]?=some y':=by
      have:(m'.take (i+1))[i]?=((m.set i y').take (i+1))[i]?:=by rw [b3]
      rw [List.getElem?_take_of_lt (by omega),List.getElem?_take_of_lt (by omega)] at this
      rw [this]; simp [hi]
    refine ⟨m',k',?_,b2,?_,fun M hM hMd=>?_,by omega,?_⟩
    · rw [a3 m i hi hsm (by simp [hi]),b1]
    · have:(m'.take (i+1)).take i=((m.set i y').take (i+1)).take i:=by rw [b3]
      rw [List.take_take,List.take_take,Nat.min_eq_left (by omega),List.take_set_of_le (Nat.le_refl _)] at this
      exact this
    · have hMi : M[i]? = some y' := by
        have:(M.drop i)[0]?=(m'.drop i)[0]?:=by rw [hMd]
        simpa [hm'i] using this
      rw [a4 M i (by omega) (by omega) hMi]
      refine b4 M hM ?_
      have:(M.drop i).drop 1=(m'.drop i).drop 1:=by rw [hMd]
      simpa [List.drop_drop,Nat.add_comm] using this
    · rw [hd]
      simp only [List.length_cons,List.map_cons,List.sum_cons]; omega
theorem aV0 {α : Type} {LM : Int → Int → List α → Option (Int × List α)} {LH : List α → Int → Int → Option Int} {z : α → Nat} {B : Int}
    (hend:∀ k (m:List α),LM k (m.length:Int) m=some (k,m)) (hend2:∀ k (m:List α),LH m k (m.length:Int)=some k) (l:List α) (k:Int) (hl:l.length≤1048576)
    (H:∀ y ∈ l,∀ k,0≤k→k+13 * (1+z y:Nat)≤B→∃ k1 y',k≤k1∧k1≤k+13 * (1+z y:Nat) ∧
      (∀ (m:List α) (i:Nat),i<m.length→m.length≤1048576→m[i]?=some y→LM k (i:Int) m=LM k1 ((i+1:Nat):Int) (m.set i y')) ∧
      (∀ (M:List α) (i:Nat),i<M.length→M.length≤1048576→M[i]?=some y'→LH M k (i:Int)=LH M k1 ((i+1:Nat):Int)))
    (h0:0≤k) (hk:k+13 * (l.length+(l.map z).sum:Nat)≤B) :
    ∃ l' k',LM k 0 l=some (k',l')∧LH l' k 0=some k'∧k≤k'∧k'≤k+13 * (l.length+(l.map z).sum:Nat):=by
  obtain ⟨m',k',b1,b2,b3,b4,b5,b6⟩:=aTj (z:=z) (B:=B) hend hend2 l.length 0 l k (by omega) hl (by simpa using H) h0 (by simpa using hk)
  exact ⟨m',k',by simpa using b1,by simpa using b4 m' rfl rfl,b5,by simpa using b6⟩
theorem w1 {j:Int} (h0:0≤j) (h1:j≤1000000000000):IntKind.wrap .i64 (j+1)=j+1:=lY (by omega) (by omega)
def ME (l:List aB):Prop:=∀ k:Int,0≤k→k+13 * (l.length+gD l:Nat)≤1000000000→∃ l' k',jU l k=some (k',l')∧True∧k≤k'∧k'≤k+13 * (l.length+gD l:Nat)
def MQ (l:List aL):Prop:=∀ k:Int,0≤k→k+13 * (l.length+jL l:Nat)≤1000000000→∃ l' k',uX l k=some (k',l')∧True∧k≤k'∧k'≤k+13 * (l.length+jL l:Nat)
def MI (l:List aY):Prop:=∀ k:Int,0≤k→k+13 * (l.length+iU l:Nat)≤1000000000→∃ l' k',uK l k=some (k',l')∧True∧k≤k'∧k'≤k+13 * (l.length+iU l:Nat)
def MS (l:List aX):Prop:=∀ k:Int,0≤k→k+13 * (l.length+iE l:Nat)≤1000000000→∃ l' k',wG l k=some (k',l')∧True∧k≤k'∧k'≤k+13 * (l.length+iE l:Nat)
def MO (l:List aZ):Prop:=∀ k:Int,0≤k→k+13 * (l.length+iR l:Nat)≤1000000000→∃ l' k',uJ l k=some (k',l')∧True∧k≤k'∧k'≤k+13 * (l.length+iR l:Nat)
theorem aRm {l:List aB} (hl:l.length≤1048576) (hE:∀ y ∈ l,ME y.kids) (hQ:∀ y ∈ l,MQ y.sub):ME l:=by
  intro k h0 hk
  have hz:=kU l
  rw [jU]
  refine Exists.elim (V8 (L:=fun k i m=>qW k i m) (z:=bF) (fun k m=>by rw [qW]; simp) l k hl ?_ h0 (by omega)) fun l' hx=>Exists.elim hx fun k' ⟨a1,a3,a4⟩=>⟨l',k',a1,trivial,a3,by omega⟩
  · intro y hy k h0 hk
    have hzE:=zE y
    obtain ⟨la,ka,b1,_,b3,b4⟩:=hE y hy (k+1+1+1+1+1+1+1+1) (by omega) (by omega)
    obtain ⟨lb,kb,c1,_,c3,c4⟩:=hQ y hy ka (by omega) (by omega)
    have n1:¬ ka<0:=by omega
    have n2:¬ kb<0:=by omega
    refine ⟨kb,aB.mk k (k+1) (decide (Int.tmod (k+1+1) 3=0)) ⟨k+1+1+1,k+1+1+1+1,mt (k+1+1+1+1+1)⟩ (mt (k+1+1+1+1+1+1)) (mt (k+1+1+1+1+1+1+1)) la lb,by omega,by omega,fun m i hi hm hg=>?_⟩
    · show qW k (i:Int) m=_
      rw [qW]
      simp (disch:=omega) only [jR,hi,decide_true,if_true,nH,hg,Option.bind_eq_bind,Option.bind_some,w1,sG,b1,c1,Int.toNat_natCast]
      rfl
theorem aMp {l:List aY} (hl:l.length≤1048576) (hE:∀ y ∈ l,ME y.expr.kids) (hQ:∀ y ∈ l,MQ y.expr.sub):MI l:=by
  intro k h0 hk
  have hz:iU l=(l.map eX).sum:=by
    clear hE hQ hk hl
    induction l with
    | nil=>simp [iU]
    | cons x l ih=>simp [iU,ih]
  rw [uK]
  refine Exists.elim (V8 (L:=fun k i m=>tZ k i m) (z:=eX) (fun k m=>by rw [tZ]; simp) l k hl ?_ h0 (by omega)) fun l' hx=>Exists.elim hx fun k' ⟨a1,a3,a4⟩=>⟨l',k',a1,trivial,a3,by omega⟩
  · intro y hy k h0 hk
    have hzE:=zE y.expr
    have hzI:bF y.expr≤eX y:=by cases y; simp only [eX]; omega
    obtain ⟨la,ka,b1,_,b3,b4⟩:=hE y hy (k+1+1+1+1+1+1+1+1+1+1) (by omega) (by omega)
    obtain ⟨lb,kb,c1,_,c3,c4⟩:=hQ y hy ka (by omega) (by omega)
    have n1:¬ ka<0:=by omega
    have n2:¬ kb<0:=by omega
    refine ⟨kb+1,aY.mk (decide (Int.tmod k 3=0)) (mt (k+1)) (aB.mk (k+1+1) (k+1+1+1) (decide (Int.tmod (k+1+1+1+1) 3=0)) ⟨k+1+1+1+1+1,k+1+1+1+1+1+1,mt (k+1+1+1+1+1+1+1)⟩ (mt (k+1+1+1+1+1+1+1+1)) (mt (k+1+1+1+1+1+1+1+1+1)) la lb) (mt kb),by omega,by omega,fun m i hi hm hg=>?_⟩
    · show tZ k (i:Int) m=_
      rw [tZ]
      simp (disch:=omega) only [jR,hi,decide_true,if_true,nH,hg,Option.bind_eq_bind,Option.bind_some,w1,sG,b1,c1,Int.toNat_natCast]
      rfl
theorem aQ9 {l:List aZ} (hl:l.length≤1048576) (hE:∀ y ∈ l,ME y.expr.kids) (hQ:∀ y ∈ l,MQ y.expr.sub):MO l:=by
  intro k h0 hk
  have hz:iR l=(l.map fZ).sum:=by
    clear hE hQ hk hl
    induction l with
    | nil=>simp [iR]
    | cons x l ih=>simp [iR,ih]
  rw [uJ]
  refine Exists.elim (V8 (L:=fun k i m=>uC k i m) (z:=fZ) (fun k m=>by rw [uC]; simp) l k hl ?_ h0 (by omega)) fun l' hx=>Exists.elim hx fun k' ⟨a1,a3,a4⟩=>⟨l',k',a1,trivial,a3,by omega⟩
  · intro y hy k h0 hk
    have hzE:=zE y.expr
    have hzI:bF y.expr≤fZ y:=by cases y; simp only [fZ]; omega
    obtain ⟨la,ka,b1,_,b3,b4⟩:=hE y hy (k+1+1+1+1+1+1+1+1) (by omega) (by omega)
    obtain ⟨lb,kb,c1,_,c3,c4⟩:=hQ y hy ka (by omega) (by omega)
    have n1:¬ ka<0:=by omega
    have n2:¬ kb<0:=by omega
    refine ⟨kb+1,aZ.mk (aB.mk k (k+1) (decide (Int.tmod (k+1+1) 3=0)) ⟨k+1+1+1,k+1+1+1+1,mt (k+1+1+1+1+1)⟩ (mt (k+1+1+1+1+1+1)) (mt (k+1+1+1+1+1+1+1)) la lb) (decide (Int.tmod kb 3=0)),by omega,by omega,fun m i hi hm hg=>?_⟩
    · show uC k (i:Int) m=_
      rw [uC]
      simp (disch:=omega) only [jR,hi,decide_true,if_true,nH,hg,Option.bind_eq_bind,Option.bind_some,w1,sG,b1,c1,Int.toNat_natCast]
      rfl
theorem aNp {l:List aX} (hl:l.length≤1048576) (hE:∀ y ∈ l,ME y.on_):MS l:=by
  intro k h0 hk
  have hz:iE l=(l.map fO).sum:=by
    clear hE hk hl
    induction l with
    | nil=>simp [iE]
    | cons x l ih=>simp [iE,ih]
  rw [wG]
  refine Exists.elim (V8 (L:=fun k i m=>pO k i m) (z:=fO) (fun k m=>by rw [pO]; simp) l k hl ?_ h0 (by omega)) fun l' hx=>Exists.elim hx fun k' ⟨a1,a3,a4⟩=>⟨l',k',a1,trivial,a3,by omega⟩
  · intro y hy k h0 hk
    have hzS:y.on_.length+gD y.on_≤fO y:=by cases y; simp only [fO]; omega
    obtain ⟨la,ka,b1,_,b3,b4⟩:=hE y hy (k+1+1) (by omega) (by omega)
    have n1:¬ ka<0:=by omega
    refine ⟨ka,aX.mk (mt k) (mt (k+1)) la,by omega,by omega,fun m i hi hm hg=>?_⟩
    · show pO k (i:Int) m=_
      rw [pO]
      simp (disch:=omega) only [jR,hi,decide_true,if_true,nH,hg,Option.bind_eq_bind,Option.bind_some,w1,sG,b1,Int.toNat_natCast]
      rfl
theorem aMm {l:List aL} (hl:l.length≤1048576) (hI:∀ y ∈ l,MI y.items) (hS:∀ y ∈ l,MS y.from_) (hE:∀ y ∈ l,ME y.where_) (hO:∀ y ∈ l,MO y.order):MQ l:=by
  intro k h0 hk
  have hz:=aCd l
  rw [uX]
  refine Exists.elim (V8 (L:=fun k i m=>tF k i m) (z:=eF) (fun k m=>by rw [tF]; simp) l k hl ?_ h0 (by omega)) fun l' hx=>Exists.elim hx fun k' ⟨a1,a3,a4⟩=>⟨l',k',a1,trivial,a3,by omega⟩
  · intro y hy k h0 hk
    have hzQ:=zQ y
    obtain ⟨la,ka,b1,_,b3,b4⟩:=hI y hy (k+1) (by omega) (by omega)
    obtain ⟨lb,kb,c1,_,c3,c4⟩:=hS y hy ka (by omega) (by omega)
    obtain ⟨lc,kc,d1,_,d3,d4⟩:=hE y hy kb (by omega) (by omega)
    obtain ⟨ld,kd,e1,_,e3,e4⟩:=hO y hy kc (by omega) (by omega)
    have n1:¬ ka<0:=by omega
    have n2:¬ kb<0:=by omega
    have n3:¬ kc<0:=by omega
    have n4:¬ kd<0:=by omega
    refine ⟨kd+1,aL.mk (decide (Int.tmod k 3=0)) la lb lc ld kd,by omega,by omega,fun m i hi hm hg=>?_⟩
    · show tF k (i:Int) m=_
      rw [tF]
      simp (disch:=omega) only [jR,hi,decide_true,if_true,nH,hg,Option.bind_eq_bind,Option.bind_some,w1,sG,b1,c1,d1,e1,Int.toNat_natCast]
      rfl
theorem aQu:∀ n:Nat,(∀ l:List aB,l.length+gD l≤n→n≤1048576→ME l)∧(∀ l:List aL,l.length+jL l≤n→n≤1048576→MQ l):=by
  intro n
  induction n with
  | zero =>
    refine ⟨fun l h _=>?_,fun l h _=>?_⟩
    · have:l=[]:=List.eq_nil_of_length_eq_zero (by omega)
      subst this; exact aRm (by simp) (by simp) (by simp)
    · have:l=[]:=List.eq_nil_of_length_eq_zero (by omega)
      subst this; exact aMm (by simp) (by simp) (by simp) (by simp) (by simp)
  | succ n ih =>
    have hE:∀ l:List aB,l.length+gD l≤n+1→n+1≤1048576→ME l:=fun l h hn=>aRm (by omega) (fun y hy=>ih.1 _ (by have:=nG hy; have:=zE y; omega) (by omega)) fun y hy=>ih.2 _ (by have:=nG hy; have:=zE y; omega) (by omega)
    refine ⟨hE,fun l h hn=>aMm (by omega) (fun y hy=>?_) (fun y hy=>?_) (fun y hy=>?_) fun y hy=>?_⟩
    · have h1:=tK hy
      have h2:=zQ y
      exact aMp (by omega) (fun i hi=>ih.1 _ (by have:=uD hi; have:=zE i.expr; have:bF i.expr≤eX i:=(by cases i; simp only [eX]; omega); omega) (by omega)) fun i hi=>ih.2 _ (by have:=uD hi; have:=zE i.expr; have:bF i.expr≤eX i:=(by cases i; simp only [eX]; omega); omega) (by omega)
    · have h1:=tK hy
      have h2:=zQ y
      exact aNp (by omega) fun i hi=>ih.1 _ (by have:=Y6 hi; have:i.on_.length+gD i.on_≤fO i:=(by cases i; simp only [fO]; omega); omega) (by omega)
    · have h1:=tK hy
      have h2:=zQ y
      exact ih.1 _ (by omega) (by omega)
    · have h1:=tK hy
      have h2:=zQ y
      exact aQ9 (by omega) (fun i hi=>ih.1 _ (by have:=wP hi; have:=zE i.expr; have:bF i.expr≤fZ i:=(by cases i; simp only [fZ]; omega); omega) (by omega)) fun i hi=>ih.2 _ (by have:=wP hi; have:=zE i.expr; have:bF i.expr≤fZ i:=(by cases i; simp only [fZ]; omega); omega) (by omega)
theorem vW {α : Type} {p : List α} {W : α → Option α} {by' : Nat} {d : α} {L : Int → List α → Option (List α)} {S : Option (List α)} (hp : p.length ≤ 1048576) (hby : by' ≤ 134217728)
    (hS:S=(mkG by' (p.length:Int) d>>=fun y=>L 0 y))
    (hL:∀ (i:Nat) b,L (i:Int) b=if (decide ((i:Int)<(p.length:Int)))=true then ((idx p (i:Int))>>=fun y2=>(W y2)>>=fun y3=>(idx b (i:Int))>>=fun _=>L (IntKind.wrap .i64 ((i:Int)+1)) (b.set ((i:Int)).toNat y3)) else some b)
    (H:∀ y ∈ p,W y=some y):S=some p:=by
  refine nD (W:=W) (L:=L) hp hby hS (fun i b=>?_) H
  rw [hL]
  split
  · cases idx p (i:Int) with
    | none=>rfl
    | some y =>
      simp only [Option.bind_eq_bind,Option.bind_some]
      cases W y with
      | none=>rfl
      | some z =>
        simp only [Option.bind_some]
        rw [nH]
        cases hb:b[i]? with
        | none=>rfl
        | some u =>
          have hi:i<b.length:=(List.getElem?_eq_some_iff.1 hb).1
          have:jZ b (i:Int) z=some (b.set i z):=by unfold jZ; rw [if_pos ⟨by omega,by simp; omega⟩]; simp
          simp only [Option.bind_some,this,Int.toNat_natCast]
  · rfl
theorem aFk {l:List aB} (hl:l.length≤1048576) (hE:∀ y ∈ l,jK y.kids=some y.kids) (hQ:∀ y ∈ l,wH y.sub=some y.sub):jK l=some l :=
  vW (W:=mW) (by':=136) (L:=fun i b=>yR l i b) hl (by omega) (by rw [jK]) (fun i b=>by rw [yR]) fun y hy=>by rw [mW,hE y hy,hQ y hy]; cases y; simp [qB]
theorem aO8 {l:List aY} (hl:l.length≤1048576) (hE:∀ y ∈ l,mW y.expr=some y.expr):yF l=some l :=
  vW (W:=aBg) (by':=176) (L:=fun i b=>M3 l i b) hl (by omega) (by rw [yF]) (fun i b=>by rw [M3]) fun y hy=>by rw [aBg,hE y hy]; cases y; simp
theorem aNd {l:List aZ} (hl:l.length≤1048576) (hE:∀ y ∈ l,mW y.expr=some y.expr):M4 l=some l :=
  vW (W:=Z9) (by':=144) (L:=fun i b=>J3 l i b) hl (by omega) (by rw [M4]) (fun i b=>by rw [J3]) fun y hy=>by rw [Z9,hE y hy]; cases y; simp
theorem aRw {l:List aX} (hl:l.length≤1048576) (hE:∀ y ∈ l,jK y.on_=some y.on_):L8 l=some l :=
  vW (W:=zF) (by':=56) (L:=fun i b=>yI l i b) hl (by omega) (by rw [L8]) (fun i b=>by rw [yI]) fun y hy=>by rw [zF,hE y hy]; cases y; simp
theorem aMz {q:aL} (h1:yF q.items=some q.items) (h2:L8 q.from_=some q.from_) (h3:jK q.where_=some q.where_) (h4:M4 q.order=some q.order):nK q=some q:=by
  rw [nK,h1,h2,h3,h4]; cases q; simp
theorem aMo {l:List aL} (hl:l.length≤1048576) (hQ:∀ y ∈ l,nK y=some y):wH l=some l :=
  vW (W:=nK) (by':=112) (L:=fun i b=>G5 l i b) hl (by omega) (by rw [wH]) (fun i b=>by rw [G5]) hQ
theorem aCk:∀ n:Nat,(∀ l:List aB,l.length+gD l≤n→n≤1048576→jK l=some l)∧(∀ l:List aL,l.length+jL l≤n→n≤1048576→wH l=some l)∧(∀ q:aL,eF q≤n→n≤1048576→nK q=some q):=by
  intro n
  induction n with
  | zero =>
    have e0:jK []=some []:=aFk (by simp) (by simp) (by simp)
    refine ⟨fun l h _=>?_,fun l h _=>?_,fun q h _=>?_⟩
    · have:l=[]:=List.eq_nil_of_length_eq_zero (by omega)
      subst this; exact e0
    · have:l=[]:=List.eq_nil_of_length_eq_zero (by omega)
      subst this; exact aMo (by simp) (by simp)
    · have hq:=zQ q
      have h1:q.items=[]:=List.eq_nil_of_length_eq_zero (by omega)
      have h2:q.from_=[]:=List.eq_nil_of_length_eq_zero (by omega)
      have h3:q.where_=[]:=List.eq_nil_of_length_eq_zero (by omega)
      have h4:q.order=[]:=List.eq_nil_of_length_eq_zero (by omega)
      refine aMz ?_ ?_ ?_ ?_
      · rw [h1]; exact aO8 (by simp) (by simp)
      · rw [h2]; exact aRw (by simp) (by simp)
      · rw [h3]; exact e0
      · rw [h4]; exact aNd (by simp) (by simp)
  | succ n ih =>
    obtain ⟨i1,i2,i3⟩:=ih
    have X:∀ x:aB,bF x≤n→n+1≤1048576→mW x=some x:=fun x hx hn=>by
      have:=zE x
      rw [mW,i1 x.kids (by omega) (by omega),i2 x.sub (by omega) (by omega)]; cases x; simp [qB]
    have Q:∀ q:aL,eF q≤n+1→n+1≤1048576→nK q=some q:=fun q h hn=>by
      have hq:=zQ q
      refine aMz (aO8 (by omega) fun y hy=>X _ (by have:=uD hy; have:bF y.expr≤eX y:=(by cases y; simp only [eX]; omega); omega) hn) (aRw (by omega) fun y hy=>i1 _ (by have:=Y6 hy; have:y.on_.length+gD y.on_≤fO y:=(by cases y; simp only [fO]; omega); omega) (by omega)) ?_
        (aNd (by omega) fun y hy=>X _ (by have:=wP hy; have:bF y.expr≤fZ y:=(by cases y; simp only [fZ]; omega); omega) hn)
      exact aFk (by omega) (fun y hy=>i1 _ (by have:=nG hy; have:=zE y; omega) (by omega)) fun y hy=>i2 _ (by have:=nG hy; have:=zE y; omega) (by omega)
    refine ⟨fun l h hn=>aFk (by omega) (fun y hy=>i1 _ (by have:=nG hy; have:=zE y; omega) (by omega)) fun y hy=>i2 _ (by have:=nG hy; have:=zE y; omega) (by omega),fun l h hn=>aMo (by omega) fun y hy=>Q y (by have:=tK hy; omega) hn,Q⟩
theorem aUy (s:cK) (hz:iC s≤1048576):sI s=some s:=by
  have h0:eF s.query+zL (zL bF) s.rows+zL List.length s.cols+zL bF s.sets+zL bF s.where_≤iC s:=by
    obtain ⟨k,q,t,r,c,se,w⟩:=s; simp only [iC]; omega
  have e2:∀ l:List aB,zL bF l=l.length+gD l:=fun l=>by rw [kU]; rfl
  have e3:zL (zL bF) s.rows=s.rows.length+(s.rows.map (zL bF)).sum:=rfl
  have e4:zL List.length s.cols=s.cols.length+(s.cols.map List.length).sum:=rfl
  have a1:=(aCk 1048576).2.2 s.query (by omega) (by omega)
  have a2:=(aCk 1048576).1 s.sets (by rw [← e2]; omega) (by omega)
  have a3:=(aCk 1048576).1 s.where_ (by rw [← e2]; omega) (by omega)
  have a4:zB s.rows=some s.rows:=vW (W:=jK) (by':=24) (L:=fun i b=>wC s.rows i b) (by omega) (by omega) (by rw [zB]) (fun i b=>by rw [wC]) fun y hy=>(aCk 1048576).1 y (by have:=nV (z:=zL bF) hy; rw [← e2]; omega) (by omega)
  have a5:A7 s.cols=some s.cols:=vW (W:=some) (by':=16) (L:=fun i b=>vD s.cols i b) (by omega) (by omega) (by rw [A7]) (fun i b=>by rw [vD]; simp only [Option.bind_eq_bind,Option.bind_some]) fun y hy=>rfl
  rw [sI,a1,a4,a5,a2,a3]
  cases s; simp
theorem bF0 (s:cK) (hz:iC s≤1048576):∃ r,wW s 1=some r∧0≤r.1:=by
  have h0:eF s.query+zL (zL bF) s.rows+zL List.length s.cols+zL bF s.sets+zL bF s.where_≤iC s:=by
    obtain ⟨k,q,t,r,c,se,w⟩:=s; simp only [iC]; omega
  have hq:=zQ s.query
  have e2:∀ l:List aB,zL bF l=l.length+gD l:=fun l=>by rw [kU]; rfl
  have e3:zL (zL bF) s.rows=s.rows.length+(s.rows.map (zL bF)).sum:=rfl
  have e4:zL List.length s.cols=s.cols.length+(s.cols.map List.length).sum:=rfl
  have ME':∀ l:List aB,l.length+gD l≤1048576→ME l:=fun l h=>(aQu 1048576).1 l h (by omega)
  have MQ':∀ l:List aL,l.length+jL l≤1048576→MQ l:=fun l h=>(aQu 1048576).2 l h (by omega)
  have XE:∀ x:aB,bF x≤1048576→ME x.kids∧MQ x.sub:=fun x h=>by have:=zE x; exact ⟨ME' _ (by omega),MQ' _ (by omega)⟩
  have m1:MI s.query.items:=aMp (by omega) (fun y hy=>(XE _ (by have:=uD hy; have:bF y.expr≤eX y:=(by cases y; simp only [eX]; omega); omega)).1) fun y hy=>(XE _ (by have:=uD hy; have:bF y.expr≤eX y:=(by cases y; simp only [eX]; omega); omega)).2
  have m2:MS s.query.from_:=aNp (by omega) fun y hy=>ME' _ (by have:=Y6 hy; have:y.on_.length+gD y.on_≤fO y:=(by cases y; simp only [fO]; omega); omega)
  have m3:ME s.query.where_:=ME' _ (by omega)
  have m4:MO s.query.order:=aQ9 (by omega) (fun y hy=>(XE _ (by have:=wP hy; have:bF y.expr≤fZ y:=(by cases y; simp only [fZ]; omega); omega)).1) fun y hy=>(XE _ (by have:=wP hy; have:bF y.expr≤fZ y:=(by cases y; simp only [fZ]; omega); omega)).2
  obtain ⟨l1,k1,a1,_,a3,a4⟩:=m1 1 (by omega) (by omega)
  obtain ⟨l2,k2,b1,_,b3,b4⟩:=m2 k1 (by omega) (by omega)
  obtain ⟨l3,k3,c1,_,c3,c4⟩:=m3 k2 (by omega) (by omega)
  obtain ⟨l4,k4,d1,_,d3,d4⟩:=m4 k3 (by omega) (by omega)
  obtain ⟨l5,k5,f1,f3,f4⟩:=aFu (L:=fun k i m=>qJ k i m) (z:=zL bF) (fun k m=>by rw [qJ]; simp) s.rows.length 0 s.rows k4 (by omega) (by omega) (fun y hy k h0 hk=>by
    have hy':y ∈ s.rows:=by simpa using hy
    have:=nV (z:=zL bF) hy'
    obtain ⟨l',k',g1,_,g3,g4⟩:=ME' y (by rw [← e2]; omega) k h0 (by rw [← e2]; omega)
    refine ⟨k',l',g3,by rw [← e2] at g4; omega,fun m i hi hm hg=>?_⟩
    show qJ k (i:Int) m=_
    rw [qJ]
    simp (disch:=omega) only [jR,hi,decide_true,if_true,nH,hg,Option.bind_eq_bind,Option.bind_some,w1,g1,Int.toNat_natCast]
    rfl) (by omega) (by simp only [List.drop_zero]; omega)
  simp only [List.drop_zero] at f4
  obtain ⟨l6,k6,p1,p3,p4⟩:=aFu (L:=fun k i m=>lQ k i m) (z:=List.length) (fun k m=>by rw [lQ]; simp) s.cols.length 0 s.cols k5 (by omega) (by omega) (fun y hy k h0 hk=>by
    refine ⟨k+1,mt k,by omega,by omega,fun m i hi hm hg=>?_⟩
    show lQ k (i:Int) m=_
    rw [lQ]
    simp (disch:=omega) only [jR,hi,decide_true,if_true,nH,hg,Option.bind_eq_bind,Option.bind_some,w1,sG,Int.toNat_natCast]
    rfl) (by omega) (by simp only [List.drop_zero]; omega)
  simp only [List.drop_zero] at p4
  obtain ⟨l7,k7,r1,_,r3,r4⟩:=ME' s.sets (by rw [← e2]; omega) k6 (by omega) (by rw [← e2]; omega)
  rw [← e2] at r4
  obtain ⟨l8,k8,t1,_,t3,t4⟩:=ME' s.where_ (by rw [← e2]; omega) k7 (by omega) (by rw [← e2]; omega)
  refine ⟨(k8,l1,l2,l3,l4,l5,l6,l7,l8),?_,by show 0≤k8; omega⟩
  have f1':K4 s.rows k4=some (k5,l5):=by rw [K4]; exact f1
  have p1':nU s.cols k5=some (k6,l6):=by rw [nU]; exact p1
  have q1:A8 s.query 1=some (k4,l1,l2,l3,l4):=by
    rw [A8]; simp only [a1,b1,c1,d1,Option.bind_eq_bind,Option.bind_some]
  rw [wW]
  simp only [q1,f1',p1',r1,t1,Option.bind_eq_bind,Option.bind_some]
def gQ (acc:List (List UInt8)) (n:List UInt8):List (List UInt8):=if n=[]∨n ∈ acc then acc else acc++[n]
theorem aCx (acc:List (List UInt8)) (n:List UInt8):(gQ acc n).length≤acc.length+1:=by unfold gQ; split <;> simp
theorem aS0 (acc:List (List UInt8)) (n:List UInt8) (hl:acc.length≤1000000000):rV acc n=some (decide (n ∈ acc)):=by
  have key:∀ i,i≤acc.length→∃ k:Int,sF acc n (i:Nat)=some k∧decide (0≤k)=decide (n ∈ acc.drop i):=by
    refine oV ?_ ?_
    · rw [sF]
      exact ⟨-1,by simp,by simp⟩
    · intro i hi ih
      rw [sF,List.drop_eq_getElem_cons hi]
      simp only [jR,nJ hi,pI hi (by omega),hi,decide_true,if_true,Option.bind_eq_bind,Option.bind_some]
      by_cases h:n=acc[i]
      · exact ⟨(i:Int),by simp [h],by rw [decide_eq_true (List.mem_cons.2 (.inl h))]; simp⟩
      · obtain ⟨k,k1,k2⟩:=ih
        refine ⟨k,by simp only [h,decide_false,Bool.false_eq_true,if_false]; exact k1,?_⟩
        rw [k2]; simp only [List.mem_cons,h,false_or]
  obtain ⟨k,h1,h2⟩:=key 0 (by omega)
  rw [show ((0:Nat):Int)=0 from rfl] at h1
  rw [rV,aCl,h1]
  simpa using h2
theorem aTe (acc:List (List UInt8)) (n:List UInt8) (hl:acc.length≤1000000000):xQ acc n=some (decide (n ∈ acc)):=by
  have key:∀ i,i≤acc.length→rP acc n (i:Nat)=some (decide (n ∈ acc.drop i)):=by
    refine oV ?_ ?_
    · rw [rP]; simp
    · intro i hi ih
      rw [rP,List.drop_eq_getElem_cons hi]
      simp only [jR,nJ hi,pI hi (by omega),hi,decide_true,if_true,Option.bind_eq_bind,Option.bind_some]
      by_cases h:n=acc[i]
      · rw [decide_eq_true (p:=n ∈ acc[i]::_) (List.mem_cons.2 (.inl h))]; simp [h]
      · have h':¬ acc[i]=n:=fun e=>h e.symm
        simp only [h',decide_false,Bool.false_eq_true,if_false,ih,List.mem_cons,h,false_or]
  rw [xQ]
  simpa using key 0 (by omega)
theorem aPd (acc:List (List UInt8)) (n:List UInt8) (hl:acc.length≤1000000000):pU acc n=some (gQ acc n):=by
  unfold pU
  rw [aTe acc n hl,J9 (by simp; omega)]
  unfold gQ
  by_cases h:n=[] <;> by_cases h2:n ∈ acc <;> simp [h,h2]
theorem aP3 (acc:List (List UInt8)) (n:List UInt8) (hl:acc.length≤1000000000):tV acc n=some (gQ acc n):=by
  unfold tV
  rw [aS0 acc n hl,J9 (by simp; omega)]
  unfold gQ
  by_cases h:n=[] <;> by_cases h2:n ∈ acc <;> simp [h,h2]
theorem bCb (n:List UInt8):O4 n=some (gQ [] n):=by
  unfold O4
  rw [aS0 [] n (by simp),J9 (by simp)]
  unfold gQ
  by_cases h:n=[] <;> simp [h]
theorem oL {α γ : Type} {p : List α} {g : α → List (List UInt8) → Option (List (List UInt8))} {h : α → List (List UInt8) → List (List UInt8)} {w : α → Nat} {L : List (List UInt8) → Int → Option γ} {K : List (List UInt8) → Option γ} (hp : p.length ≤ 1048576)
    (hg:∀ y ∈ p,∀ b,b.length+w y≤1000000000→g y b=some (h y b)∧(h y b).length≤b.length+w y)
    (hL:∀ (i:Nat) b,L b (i:Int)=if (decide ((i:Int)<(p.length:Int)))=true then ((idx p (i:Int))>>=fun y=>(g y b)>>=fun z=>L z (IntKind.wrap .i64 ((i:Int)+1))) else K b) :
    ∀ b,b.length+(p.map w).sum≤1000000000→L b 0=K (p.foldl (fun b y=>h y b) b)∧(p.foldl (fun b y=>h y b) b).length≤b.length+(p.map w).sum:=by
  have key:∀ i,i≤p.length→∀ b,b.length+((p.drop i).map w).sum≤1000000000→L b (i:Nat)=K ((p.drop i).foldl (fun b y=>h y b) b)∧((p.drop i).foldl (fun b y=>h y b) b).length≤b.length+((p.drop i).map w).sum:=by
    refine oV ?_ ?_
    · intro b _; rw [hL]; simp
    · intro i hi ih b hb
      rw [List.drop_eq_getElem_cons hi,List.map_cons,List.sum_cons] at hb
      obtain ⟨g1,g2⟩:=hg _ (List.getElem_mem hi) b (by omega)
      obtain ⟨i1,i2⟩:=ih (h p[i] b) (by omega)
      rw [hL,nJ hi,pI hi (by omega)]
      simp only [jR,hi,decide_true,if_true,Option.bind_eq_bind,Option.bind_some,g1]
      rw [List.drop_eq_getElem_cons hi,List.foldl_cons,List.map_cons,List.sum_cons]
      exact ⟨i1,by omega⟩
  intro b hb
  simpa using key 0 (by omega) b (by simpa using hb)
def gX (x:aB) (acc:List (List UInt8)):List (List UInt8):=(jF x acc).getD []
def hQ (q:aL) (acc:List (List UInt8)):List (List UInt8):=(iP q).foldl (fun a y=>gX y a) (q.from_.foldl (fun a s=>gQ a s.table) acc)
def PX (x:aB):Prop:=∀ acc,acc.length+bF x≤1000000000→jF x acc=some (gX x acc)∧(gX x acc).length≤acc.length+bF x ∧
  ∀ (p:List aB) (i:Nat),((mM acc x.kids)>>=fun y2=>sQ p (i:Int) x 0 y2)=oW p (IntKind.wrap .i64 ((i:Int)+1)) (gX x acc)
theorem aFa {p:List aB} (hp:p.length≤1048576) (H:∀ y ∈ p,PX y):∀ acc,acc.length+(p.map bF).sum≤1000000000→mM acc p=some (p.foldl (fun a y=>gX y a) acc)∧(p.foldl (fun a y=>gX y a) acc).length≤acc.length+(p.map bF).sum:=by
  have key:∀ i,i≤p.length→∀ b,b.length+((p.drop i).map bF).sum≤1000000000→oW p (i:Nat) b=some ((p.drop i).foldl (fun b y=>gX y b) b)∧((p.drop i).foldl (fun b y=>gX y b) b).length≤b.length+((p.drop i).map bF).sum:=by
    refine oV ?_ ?_
    · intro b _; rw [oW]; simp
    · intro i hi ih b hb
      rw [List.drop_eq_getElem_cons hi,List.map_cons,List.sum_cons] at hb
      obtain ⟨g1,g2,g3⟩:=H _ (List.getElem_mem hi) b (by omega)
      obtain ⟨i1,i2⟩:=ih (gX p[i] b) (by omega)
      rw [oW]
      simp only [jR,nJ hi,hi,decide_true,if_true,Option.bind_eq_bind,Option.bind_some]
      have g4:=g3 p i
      simp only [Option.bind_eq_bind] at g4
      rw [g4,pI hi (by omega),i1]
      rw [List.drop_eq_getElem_cons hi,List.foldl_cons,List.map_cons,List.sum_cons]
      exact ⟨rfl,by omega⟩
  intro b hb
  rw [mM]
  simpa using key 0 (by omega) b (by simpa using hb)
theorem aP6 (q:aL):q.from_.length+((iP q).map bF).sum≤eF q:=by
  have h:=zQ q
  have h1:∀ l:List aY,((l.flatMap (fun i=>if i.star then [] else [i.expr])).map bF).sum≤iU l:=by
    intro l
    induction l with
    | nil=>simp
    | cons x l ih =>
      rw [List.flatMap_cons,List.map_append,List.sum_append]
      have h1:((if x.star=true then [] else [x.expr]).map bF).sum≤eX x:=by
        obtain ⟨a,b,c,d⟩:=x
        cases a <;> simp [eX] <;> omega
      simp only [iU]; omega
  have h2:∀ l:List aX,((l.flatMap (fun s=>s.on_)).map bF).sum≤iE l:=by
    intro l
    induction l with
    | nil=>simp
    | cons x l ih =>
      rw [List.flatMap_cons,List.map_append,List.sum_append]
      obtain ⟨a,b,c⟩:=x
      simp only [iE,fO,kU]; omega
  have h3:∀ l:List aZ,((l.flatMap (fun k=>[k.expr])).map bF).sum≤iR l:=by
    intro l
    induction l with
    | nil=>simp
    | cons x l ih =>
      rw [List.flatMap_cons,List.map_append,List.sum_append]
      obtain ⟨a,b⟩:=x
      simp only [List.map_cons,List.map_nil,List.sum_cons,List.sum_nil,iR,fZ]; omega
  have k1:=h1 q.items
  have k2:=h2 q.from_
  have k3:=h3 q.order
  have k4:=kU q.where_
  simp only [iP,List.map_append,List.sum_append]
  omega
theorem aBn {α:Type} (l:List α):(l.map fun _=>1).sum=l.length:=by induction l with | nil=>rfl | cons x l ih=>simp [ih]; omega
theorem aQm (q : aL) (hz : eF q ≤ 1048576) (H : ∀ y ∈ iP q, PX y) (hE : q.from_.length + ((iP q).map bF).sum ≤ eF q) : ∀ acc, acc.length + eF q ≤ 1000000000 → qP q acc = some (hQ q acc) ∧ (hQ q acc).length ≤ acc.length + eF q ∧
    ∃ b,mP acc q=some b∧mM b (iP q)=some (hQ q acc):=by
  intro acc ha
  have hl:=aZ9 q
  have e1:=oL (p:=q.from_) (g:=fun s a=>pU a s.table) (h:=fun s a=>gQ a s.table) (w:=fun _=>1) (L:=fun a i=>xU q a i) (K:=fun a=>(vR q)>>=fun y3=>wJ y3 a 0) (by omega)
    (fun y _ b hb=>⟨aPd b _ (by omega),aCx b _⟩) (fun i b=>by rw [xU]) acc (by rw [aBn]; omega)
  have e2:=oL (p:=q.from_) (g:=fun s a=>tV a s.table) (h:=fun s a=>gQ a s.table) (w:=fun _=>1) (L:=fun a i=>pM q i a) (K:=fun a=>some a) (by omega)
    (fun y _ b hb=>⟨aP3 b _ (by omega),aCx b _⟩) (fun i b=>by rw [pM]) acc (by rw [aBn]; omega)
  rw [aBn] at e1 e2
  have e3:=oL (p:=iP q) (g:=fun y a=>jF y a) (h:=fun y a=>gX y a) (w:=bF) (L:=fun a i=>wJ (iP q) a i) (K:=fun a=>some a) (by omega)
    (fun y hy b hb=>⟨(H y hy b hb).1,(H y hy b hb).2.1⟩) (fun i b=>by rw [wJ]) (q.from_.foldl (fun a s=>gQ a s.table) acc) (by have:=e1.2; omega)
  have e4:=aFa (p:=iP q) (by omega) H (q.from_.foldl (fun a s=>gQ a s.table) acc) (by have:=e1.2; omega)
  refine ⟨?_,?_,_,?_,e4.1⟩
  · rw [qP]
    refine e1.1.trans ?_
    simp only [aYg q hz,Option.bind_eq_bind,Option.bind_some]
    exact e3.1
  · have:=e4.2; have:=e1.2
    unfold hQ
    omega
  · rw [mP]; exact e2.1
theorem aSy:∀ (n:Nat) (x:aB),bF x<n→bF x≤1048576→PX x:=by
  intro n
  induction n with
  | zero=>intro x h _; omega
  | succ n ih =>
    intro x hx hz acc ha
    have hE:=zE x
    have hk':=kU x.kids
    have hq':=aCd x.sub
    have HK:∀ y ∈ x.kids,PX y:=fun y hy=>ih y (by have:=nG hy; omega) (by have:=nG hy; omega)
    have HQ:∀ q ∈ x.sub,∀ acc,acc.length+eF q≤1000000000→qP q acc=some (hQ q acc)∧(hQ q acc).length≤acc.length+eF q∧∃ b,mP acc q=some b∧mM b (iP q)=some (hQ q acc):=fun q hq=>by
      have h1:=tK hq
      exact aQm q (by omega) (fun y hy=>ih y (by have:=aGu hy; omega) (by have:=aGu hy; omega)) (aP6 q)
    have k1:=oL (p:=x.kids) (g:=fun y a=>jF y a) (h:=fun y a=>gX y a) (w:=bF) (L:=fun a i=>H6 x a i) (K:=fun a=>rH x a 0) (by omega)
      (fun y hy b hb=>⟨(HK y hy b hb).1,(HK y hy b hb).2.1⟩) (fun i b=>by rw [H6]) acc (by omega)
    have k2:=oL (p:=x.sub) (g:=fun q a=>qP q a) (h:=fun q a=>hQ q a) (w:=eF) (L:=fun a i=>rH x a i) (K:=fun a=>some a) (by omega)
      (fun q hq b hb=>⟨(HQ q hq b hb).1,(HQ q hq b hb).2.1⟩) (fun i b=>by rw [rH]) (x.kids.foldl (fun a y=>gX y a) acc) (by have:=k1.2; omega)
    have hv:jF x acc=some (x.sub.foldl (fun a q=>hQ q a) (x.kids.foldl (fun a y=>gX y a) acc)):=by
      rw [jF]; exact k1.1.trans k2.1
    have hg:gX x acc=x.sub.foldl (fun a q=>hQ q a) (x.kids.foldl (fun a y=>gX y a) acc):=by unfold gX; rw [hv]; rfl
    refine ⟨by rw [hg]; exact hv,by rw [hg]; have:=k1.2; have:=k2.2; omega,fun p i=>?_⟩
    rw [(aFa (by omega) HK acc (by omega)).1,hg]
    simp only [Option.bind_eq_bind,Option.bind_some]
    have k3:=oL (p:=x.sub) (g:=fun q a=>(mP a q)>>=fun y4=>(qL q)>>=fun y5=>mM y4 y5) (h:=fun q a=>hQ q a) (w:=eF) (L:=fun a j=>sQ p (i:Int) x j a) (K:=fun a=>oW p (IntKind.wrap .i64 ((i:Int)+1)) a) (by omega)
      (fun q hq b hb=>by
        obtain ⟨_,q2,c,q3,q4⟩:=HQ q hq b hb
        refine ⟨?_,q2⟩
        simp only [q3,aQ6 q (by have:=tK hq; omega),q4,Option.bind_eq_bind,Option.bind_some]) (fun j b=>by rw [sQ]; simp only [Option.bind_eq_bind,Option.bind_assoc]) (x.kids.foldl (fun a y=>gX y a) acc) (by have:=k1.2; omega)
    exact k3.1
theorem aNq {α β:Type} (f:β→α→β):∀ (l:List (List α)) (b:β),(l.flatMap id).foldl f b=l.foldl (fun b r=>r.foldl f b) b
  | [],b=>rfl
  | x::l,b=>by rw [List.flatMap_cons,List.foldl_append,List.foldl_cons,aNq f l]; rfl
theorem aYs (s:cK) (hz:iC s≤1048576):∃ l,xG s=some l∧qU s=some l∧l.length≤1048576:=by
  have h0:eF s.query+s.table.length+zL (zL bF) s.rows+zL List.length s.cols+zL bF s.sets+zL bF s.where_≤iC s:=by
    obtain ⟨k,q,t,r,c,se,w⟩:=s; simp only [iC]; omega
  have hss:=aFq s
  have e2:∀ l:List aB,zL bF l=l.length+(l.map bF).sum:=fun l=>rfl
  have e3:zL (zL bF) s.rows=s.rows.length+(s.rows.map (zL bF)).sum:=rfl
  have HP:∀ y,bF y≤1048576→PX y:=fun y h=>aSy _ y (Nat.lt_succ_self _) h
  have HS:∀ y ∈ nT s,PX y:=fun y hy=>HP y (by have:=bBd hy; omega)
  have hq:=aQm s.query (by omega) (fun y hy=>HP y (by have:=aGu hy; omega)) (aP6 s.query) (gQ [] s.table) (by have:=aCx [] s.table; simp at this; omega)
  have l0:(gQ [] s.table).length≤s.table.length:=by
    unfold gQ
    by_cases h:s.table=[]
    · simp [h]
    · have:=List.length_pos_iff.2 h
      simp [h]; omega
  -- the loops over what a statement bears besides its query
  have L3:=oL (p:=s.where_) (g:=fun y a=>jF y a) (h:=fun y a=>gX y a) (w:=bF) (L:=fun a i=>tH s a i) (K:=fun a=>some a) (by have:=e2 s.where_; omega)
    (fun y hy b hb=>have h:=HP y (by have:=nV (z:=bF) hy; have:=e2 s.where_; omega) b hb; ⟨h.1,h.2.1⟩) (fun i b=>by rw [tH])
  have L2:=oL (p:=s.sets) (g:=fun y a=>jF y a) (h:=fun y a=>gX y a) (w:=bF) (L:=fun a i=>tQ s a i) (K:=fun a=>tH s a 0) (by have:=e2 s.sets; omega)
    (fun y hy b hb=>have h:=HP y (by have:=nV (z:=bF) hy; have:=e2 s.sets; omega) b hb; ⟨h.1,h.2.1⟩) (fun i b=>by rw [tQ])
  have L1:∀ (i:Nat) (hi:i<s.rows.length) (b:List (List UInt8)),b.length+(s.rows[i].map bF).sum≤1000000000→tY (i:Int) s b 0=pK s (s.rows[i].foldl (fun a y=>gX y a) b) (IntKind.wrap .i64 ((i:Int)+1))∧(s.rows[i].foldl (fun a y=>gX y a) b).length≤b.length+(s.rows[i].map bF).sum:=by
    intro i hi
    have hr:=nV (z:=zL bF) (List.getElem_mem hi)
    have hr2:=e2 s.rows[i]
    exact oL (p:=s.rows[i]) (g:=fun y a=>jF y a) (h:=fun y a=>gX y a) (w:=bF) (L:=fun a j=>tY (i:Int) s a j) (K:=fun a=>pK s a (IntKind.wrap .i64 ((i:Int)+1))) (by omega)
      (fun y hy b hb=>have h:=HP y (by have:=nV (z:=bF) hy; omega) b hb; ⟨h.1,h.2.1⟩) (fun j b=>by rw [tY]; simp only [nJ hi,Option.bind_eq_bind,Option.bind_some])
  have L0:∀ i,i≤s.rows.length→∀ b:List (List UInt8),b.length+((s.rows.drop i).map (zL bF)).sum≤1000000000→pK s b (i:Nat)=tQ s ((s.rows.drop i).foldl (fun a r=>r.foldl (fun a y=>gX y a) a) b) 0∧((s.rows.drop i).foldl (fun a r=>r.foldl (fun a y=>gX y a) a) b).length≤b.length+((s.rows.drop i).map (zL bF)).sum:=by
    refine oV ?_ ?_
    · intro b _; rw [pK]; simp
    · intro i hi ih b hb
      rw [List.drop_eq_getElem_cons hi,List.map_cons,List.sum_cons] at hb
      have hr2:=e2 s.rows[i]
      obtain ⟨g1,g2⟩:=L1 i hi b (by omega)
      obtain ⟨i1,i2⟩:=ih (s.rows[i].foldl (fun a y=>gX y a) b) (by omega)
      rw [pK]
      simp only [jR,hi,decide_true,if_true]
      rw [g1,pI hi (by omega),i1,List.drop_eq_getElem_cons hi,List.foldl_cons,List.map_cons,List.sum_cons]
      exact ⟨rfl,by omega⟩
  obtain ⟨q1,q2,c,q3,q4⟩:=hq
  have r0:=L0 0 (by omega) (hQ s.query (gQ [] s.table)) (by simp only [List.drop_zero]; omega)
  simp only [List.drop_zero] at r0
  have r2:=L2 _ (show (s.rows.foldl (fun a r=>r.foldl (fun a y=>gX y a) a) (hQ s.query (gQ [] s.table))).length+(s.sets.map bF).sum≤1000000000 by have:=e2 s.sets; omega)
  have r3:=L3 _ (show (s.sets.foldl (fun a y=>gX y a) (s.rows.foldl (fun a r=>r.foldl (fun a y=>gX y a) a) (hQ s.query (gQ [] s.table)))).length+(s.where_.map bF).sum≤1000000000 by have:=e2 s.where_; have:=e2 s.sets; omega)
  refine ⟨_,?_,?_,(show (s.where_.foldl (fun a y=>gX y a) (s.sets.foldl (fun a y=>gX y a) (s.rows.foldl (fun a r=>r.foldl (fun a y=>gX y a) a) (hQ s.query (gQ [] s.table))))).length≤1048576 by have:=e2 s.where_; have:=e2 s.sets; omega)⟩
  · rw [xG,aPd [] s.table (by simp)]
    simp only [Option.bind_eq_bind,Option.bind_some,q1]
    exact (r0.1.trans r2.1).trans r3.1
  · have src := oL (p := s.query.from_) (g := fun s a => tV a s.table) (h := fun s a => gQ a s.table) (w := fun _ => 1) (L := fun a i => pM s.query i a) (K := fun a => some a) (by have := zQ s.query; omega)
      (fun y _ b hb=>⟨aP3 b _ (by omega),aCx b _⟩) (fun i b=>by rw [pM]) (gQ [] s.table) (by rw [aBn]; have:=zQ s.query; omega)
    have srcL:=src.2
    rw [aBn] at srcL
    have src1:mP (gQ [] s.table) s.query=some (s.query.from_.foldl (fun a s=>gQ a s.table) (gQ [] s.table)):=by rw [mP]; exact src.1
    have hall:=aFa (p:=nT s) (by omega) HS (s.query.from_.foldl (fun a s=>gQ a s.table) (gQ [] s.table)) (by have:=zQ s.query; omega)
    rw [qU,bCb]
    simp only [Option.bind_eq_bind,Option.bind_some,src1,aU7 s hz,hall.1]
    simp only [nT,List.foldl_append,aNq,hQ]
theorem bAd (l:List (List UInt8)) (hl:l.length≤1048576):∃ l' k',nU l 1=some (k',l')∧qX l' 1=some k'∧1≤k':=by
  have hz:(l.map fun _=>0).sum=0:=by
    clear hl
    induction l with
    | nil=>rfl
    | cons x l ih=>simpa using ih
  refine Exists.elim (aV0 (LM:=fun k i m=>lQ k i m) (LH:=fun m k i=>qG m k i) (z:=fun _=>0) (B:=1000000000) (fun k m=>by rw [lQ]; simp) (fun k m=>by rw [qG]; simp) l 1 hl ?_ (by omega) (by rw [hz]; omega)) fun l' hx=>Exists.elim hx fun k' ⟨a1,a2,a3,a4⟩=>⟨l',k',by rw [nU]; exact a1,by rw [qX]; exact a2,a3⟩
  intro y hy k h0 hk
  refine ⟨k+1,mt k,by omega,by omega,fun m i hi hm hg=>?_,fun M i hi hm hg=>?_⟩
  · show lQ k (i:Int) m=_
    rw [lQ]
    simp (disch:=omega) only [jR,hi,decide_true,if_true,nH,hg,Option.bind_eq_bind,Option.bind_some,w1,sG,Int.toNat_natCast]
    rfl
  · show qG M k (i:Int)=_
    rw [qG]
    simp (disch:=omega) only [jR,hi,decide_true,if_true,nH,hg,Option.bind_eq_bind,Option.bind_some,w1,sG,eq_self,Bool.not_true,Bool.false_eq_true,if_false,decide_false]
    rfl
theorem bC1 (p:List (List UInt8)) (hp:p.length≤1048576):lC p p=some true:=nA (E:=fun a b=>some (decide (a=b))) hp (by rw [lC]) (fun i=>by rw [wN]; simp only [Option.bind_eq_bind,Option.bind_some]) fun y _=>by simp
theorem aYz (s:cK) (os:okGStmt s):aB3 s=some true:=by
  unfold aB3
  rw [aSz s os 1048576 (by omega) (by omega)]
  simp only [Option.bind_eq_bind,Option.bind_some]
  by_cases hz:(iC s:Int)≤1048576
  · have hz':iC s≤1048576:=by omega
    obtain ⟨t,t1,t2,t3⟩:=aYs s hz'
    obtain ⟨r,r1,r2⟩:=bF0 s hz'
    obtain ⟨l,k,m1,m2,m3⟩:=bAd t t3
    have n1:¬ r.1<0:=by omega
    have n2:¬ k<0:=by omega
    rw [if_pos hz,if_neg (by simp; omega),aWu s hz']
    simp [t1,t2,aUy s hz',bC1 t t3,bCo s hz',r1,r2,m1,m2,n1,n2]
  · rw [if_neg hz]; simp
end Go.Ab
