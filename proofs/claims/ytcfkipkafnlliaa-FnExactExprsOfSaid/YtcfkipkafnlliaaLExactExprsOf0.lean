/- What the functions compute,in plain Lean. -/
import Derived.Test.YtcfkipkafnlliaaFExactExprsOf
namespace Go.Ab
open Go
theorem mF {n:Int} (h1 : -9223372036854775808≤n) (h2:n≤9223372036854775807):IntKind.wrap .i64 n=n:=by rw [IntKind.wrap_i64]; omega
theorem aDt {i n:Nat} (h:i<n) (hn:n≤4611686018427387904):IntKind.wrap .i64 ((i:Int)+1)=((i+1:Nat):Int):=by rw [mF] <;> omega
theorem kJ (i n:Nat):decide ((i:Int)<(n:Int))=decide (i<n):=by simp
theorem lV {α:Type} (l:List α) (i:Nat):idx l (i:Int)=l[i]?:=by simp [idx]
theorem zV {α:Type} {l:List α} {i:Nat} (h:i<l.length):idx l (i:Int)=some l[i]:=by rw [lV]; simp [h]
theorem aE4 {M:Nat→Prop} {n:Nat} (h0:M n) (h:∀ i,i<n→M (i+1)→M i):∀ i,i≤n→M i:=by
  have:∀ k i,i+k=n→M i:=by
    intro k
    induction k with
    | zero => intro i hi; have : i = n := by omega
              subst this; exact h0
    | succ k ih=>intro i hi; exact h i (by omega) (ih (i+1) (by omega))
  exact fun i hi=>this (n - i) i (by omega)
theorem bDz {α : Type} {p : List α} {F : Int → List α → Option (List α)} (hn : p.length ≤ 4611686018427387904)
    (hF:∀ (i:Nat) b,b.length=p.length→F i b=if i<p.length then (idx p i>>=fun v=>kT b i v>>=fun c=>F (IntKind.wrap .i64 ((i:Int)+1)) c) else some b) :
    ∀ b,b.length=p.length→F 0 b=some p:=by
  have key:∀ i,i≤p.length→∀ b,b.length=p.length→b.take i=p.take i→F (i:Nat) b=some p:=by
    refine aE4 ?_ ?_
    · intro b hb ht
      rw [hF _ _ hb,if_neg (by omega)]
      rw [← hb,List.take_length] at ht
      rw [ht,hb,List.take_length]
    · intro i hi ih b hb ht
      rw [hF _ _ hb,if_pos hi,zV hi]
      have hs:kT b i p[i]=some (b.set i p[i]):=by
        unfold kT; rw [if_pos ⟨by omega,by simp; omega⟩]; simp
      simp only [Option.bind_eq_bind,Option.bind_some,hs,aDt hi hn]
      refine ih _ (by simp [hb]) ?_
      rw [List.take_add_one,List.take_add_one]
      have e1:(b.set i p[i]).take i=b.take i:=by rw [List.take_set_of_le (Nat.le_refl _)]
      rw [e1,ht]
      simp [hb,hi]
  intro b hb
  exact key 0 (by omega) b hb (by simp)
theorem aWt {α:Type} {by':Nat} {n:Nat} {z:α} (h:(n:Int) * by'≤140737488355328):mkG by' (n:Int) z=some (List.replicate n z):=by
  unfold mkG; rw [if_pos ⟨by omega,h⟩]; simp
theorem M4 {α:Type} {b:Nat} {l m:List α} (h:(l.length+m.length) * b≤140737488355328):appG b l m=some (l++m):=by unfold appG; rw [if_pos h]
theorem gather {α β γ : Type} {p : List α} {f : α → List β} {G : α → List β → Option (List β)} {L : List β → Int → Option γ} {K : List β → Option γ} {c : Nat} (hp : p.length ≤ 4194304)
    (hG:∀ y ∈ p,∀ acc:List β,acc.length+(f y).length≤c→G y acc=some (acc++f y))
    (hL:∀ (i:Nat) acc,L acc (i:Int)=if (decide ((i:Int)<(p.length:Int)))=true then ((idx p (i:Int))>>=fun y=>(G y acc)>>=fun z=>L z (IntKind.wrap .i64 ((i:Int)+1))) else K acc) :
    ∀ acc:List β,acc.length+(p.flatMap f).length≤c→L acc 0=K (acc++p.flatMap f):=by
  have key:∀ i,i≤p.length→∀ acc:List β,acc.length+((p.drop i).flatMap f).length≤c→L acc (i:Nat)=K (acc++(p.drop i).flatMap f):=by
    refine aE4 ?_ ?_
    · intro acc _
      rw [hL]; simp
    · intro i hi ih acc ha
      rw [List.drop_eq_getElem_cons hi,List.flatMap_cons,List.length_append] at ha
      rw [hL,zV hi,aDt hi (by omega)]
      simp only [kJ,hi,decide_true,if_true,Option.bind_eq_bind,Option.bind_some,hG _ (List.getElem_mem hi) acc (by omega)]
      rw [ih _ (by rw [List.length_append]; omega),List.drop_eq_getElem_cons hi,List.flatMap_cons,List.append_assoc]
  intro acc ha
  simpa using key 0 (by omega) acc (by simpa using ha)
def zL {α:Type} (z:α→Nat) (l:List α):Nat:=l.length+(l.map z).sum
def gI {α:Type} (F:α→Int→Option Int) (z:α→Nat) (x:α):Prop:=∀ n:Int,0≤n→n≤1048576→F x n=some (if (z x:Int)≤n then n - (z x:Int) else -1)
theorem uY {α:Type} (z:α→Nat) (x:α) (l:List α):((x::l).map z).sum=z x+(l.map z).sum:=by simp
theorem bA7 {α : Type} {p : List α} {F : α → Int → Option Int} {z : α → Nat} {L : Int → Int → Option Int} (hp : p.length ≤ 1048576)
    (hL:∀ (i:Nat) (x:Int),L x (i:Int)=if (decide ((i:Int)<(p.length:Int)))=true then ((idx p (i:Int))>>=fun y=>(F y x)>>=fun r=>if (decide (r<0))=true then (some (-1)) else L r (IntKind.wrap .i64 ((i:Int)+1))) else some x)
    (H:∀ y ∈ p,gI F z y):∀ n:Int,0≤n→n≤1048576→L n 0=some (if ((p.map z).sum:Int)≤n then n - ((p.map z).sum:Int) else -1):=by
  have key:∀ i,i≤p.length→∀ n:Int,0≤n→n≤1048576→L n (i:Nat)=some (if (((p.drop i).map z).sum:Int)≤n then n - (((p.drop i).map z).sum:Int) else -1):=by
    refine aE4 ?_ ?_
    · intro n h0 h1
      rw [hL]; simp [h0]
    · intro i hi ih n h0 h1
      rw [hL,zV hi,aDt hi (by omega)]
      rw [List.drop_eq_getElem_cons hi,uY]
      simp only [Option.bind_eq_bind,Option.bind_some,kJ,hi,decide_true,if_true,H _ (List.getElem_mem hi) n h0 h1]
      by_cases hz:(z p[i]:Int)≤n
      · rw [if_pos hz,if_neg (by simp; omega),ih _ (by omega) (by omega)]
        congr 1
        by_cases hr:(((p.drop (i+1)).map z).sum:Int)≤n - z p[i]
        · rw [if_pos hr,if_pos (by omega)]; omega
        · rw [if_neg hr,if_neg (by omega)]
      · rw [if_neg hz,if_pos (by decide),if_neg (by omega)]
  intro n h0 h1
  have:=key 0 (by omega) n h0 h1
  simpa using this
theorem oW {α : Type} {p : List α} {F : α → Int → Option Int} {z : α → Nat} {L : Int → Int → Option Int} {S : List α → Int → Option Int} (hp : p.length ≤ 9223372036854775807)
    (hS:∀ n,S p n=if (decide ((IntKind.wrap .i64 (n - (p.length:Int)))<0))=true then (some (-1)) else L (IntKind.wrap .i64 (n - (p.length:Int))) 0)
    (hL:∀ (i:Nat) (x:Int),L x (i:Int)=if (decide ((i:Int)<(p.length:Int)))=true then ((idx p (i:Int))>>=fun y=>(F y x)>>=fun r=>if (decide (r<0))=true then (some (-1)) else L r (IntKind.wrap .i64 ((i:Int)+1))) else some x)
    (H:∀ y ∈ p,gI F z y):gI S (zL z) p:=by
  intro n h0 h1
  have hz:((zL z p:Nat):Int)=(p.length:Int)+((p.map z).sum:Int):=by unfold zL; omega
  rw [hS,mF (by omega) (by omega),hz]
  by_cases hl:n - (p.length:Int)<0
  · rw [if_pos (by simpa using hl),if_neg (by omega)]
  · rw [if_neg (by simpa using hl),bA7 (by omega) hL H _ (by omega) (by omega)]
    congr 1
    by_cases hr:((p.map z).sum:Int)≤n - p.length
    · rw [if_pos hr,if_pos (by omega)]; omega
    · rw [if_neg hr,if_neg (by omega)]
def aBp (y:List UInt8) (n:Int):Option Int:=if (decide ((IntKind.wrap .i64 (n - (y.length:Int)))<0))=true then (some (-1)) else (some (IntKind.wrap .i64 (n - (y.length:Int))))
theorem bCa (y:List UInt8) (hy:y.length≤9223372036854775807):gI aBp List.length y:=by
  intro n h0 h1
  unfold aBp
  rw [mF (by omega) (by omega)]
  by_cases hl:n - (y.length:Int)<0
  · rw [if_pos (by simpa using hl),if_neg (by omega)]
  · rw [if_neg (by simpa using hl),if_pos (by omega)]
theorem bE5 (y:List UInt8) (x:Int) (K:Int→Option Int):(if (decide ((IntKind.wrap .i64 (x - (y.length:Int)))<0))=true then (some (-1)) else K (IntKind.wrap .i64 (x - (y.length:Int))))=((aBp y x)>>=fun r=>if (decide (r<0))=true then (some (-1)) else K r):=by
  unfold aBp
  by_cases h:(IntKind.wrap .i64 (x - (y.length:Int)))<0
  · rw [if_pos (by simpa using h),if_pos (by simpa using h)]; rfl
  · rw [if_neg (by simpa using h),if_neg (by simpa using h)]
    simp only [Option.bind_eq_bind,Option.bind_some]
    rw [if_neg (by simpa using h)]
theorem nR {α : Type} {p : List α} {W : α → Option α} {by' : Nat} {d : α} {L : Int → List α → Option (List α)} {S : Option (List α)} (hp : p.length ≤ 1048576) (hby : by' ≤ 134217728)
    (hS:S=(mkG by' (p.length:Int) d>>=fun y=>L 0 y))
    (hL:∀ (i:Nat) b,L (i:Int) b=if (decide ((i:Int)<(p.length:Int)))=true then ((idx p (i:Int))>>=fun y2=>(W y2)>>=fun y3=>(idx b (i:Int))>>=fun _=>(kT b (i:Int) y3)>>=fun y5=>L (IntKind.wrap .i64 ((i:Int)+1)) y5) else some b)
    (H:∀ y ∈ p,W y=some y):S=some p:=by
  have hm:(p.length:Int) * by'≤140737488355328:=by
    have:(p.length:Int) * by'≤1048576 * 134217728:=Int.mul_le_mul (by omega) (by omega) (by omega) (by omega)
    omega
  rw [hS,aWt hm]
  simp only [Option.bind_eq_bind,Option.bind_some]
  refine bDz (F:=L) (by omega) (fun i b hb=>?_) _ (by simp)
  rw [hL]
  simp only [kJ,decide_eq_true_eq,Option.bind_eq_bind]
  split
  · rename_i hi
    have e:idx b (i:Int)=some b[i]:=zV (by omega)
    rw [zV hi]
    simp only [Option.bind_some,H _ (List.getElem_mem hi),e]
  · rfl
theorem oO {α : Type} {p : List α} {E : α → α → Option Bool} {L : Int → Option Bool} {S : List α → List α → Option Bool} (hp : p.length ≤ 1048576)
    (hS:S p p=if (!decide ((p.length:Int)=(p.length:Int)))=true then (some false) else L 0)
    (hL:∀ i:Nat,L (i:Int)=if (decide ((i:Int)<(p.length:Int)))=true then ((idx p (i:Int))>>=fun y1=>(idx p (i:Int))>>=fun y2=>(E y1 y2)>>=fun y3=>if (!y3)=true then (some false) else L (IntKind.wrap .i64 ((i:Int)+1))) else some true)
    (H:∀ y ∈ p,E y y=some true):S p p=some true:=by
  have key:∀ i,i≤p.length→L (i:Nat)=some true:=by
    refine aE4 ?_ ?_
    · rw [hL]; simp
    · intro i hi ih
      rw [hL]
      simp only [kJ,zV hi,aDt hi (by omega),H _ (List.getElem_mem hi),Option.bind_eq_bind,Option.bind_some,ih]
      simp
  rw [hS]
  have:=key 0 (by omega)
  simpa using this
theorem zR {α:Type} {z:α→Nat}:∀ {p:List α} {y:α},y ∈ p→z y≤(p.map z).sum
  | x::p,y,h=>by
    rw [uY]
    rcases List.mem_cons.1 h with rfl | h
    · omega
    · have:=zR (z:=z) h; omega
def jL:eP→Nat
  | ⟨a0,a1,a2⟩=>a2.length
theorem aW9:∀ x:eP,okGValue x→gI L6 jL x
  | ⟨a0,a1,a2⟩,h=>by
    simp only [okGValue] at h
    obtain ⟨o0,o1,o2⟩:=h
    intro n h0 h1
    have b2:a2.length≤9223372036854775807:=o2
    have hz:((jL ⟨a0,a1,a2⟩:Nat):Int)=(a2.length:Int):=by simp only [jL] <;> omega
    rw [hz,L6]
    dsimp only
    rw [mF (n:=n - (a2.length:Int)) (by omega) (by omega)]
    by_cases r2:n - (a2.length:Int)<0
    · rw [if_pos (by simpa using r2),if_neg (by omega)]
    rw [if_neg (by simpa using r2)]
    first | done | (rw [if_pos (by omega)]; done) | (rw [if_pos (by omega)]; congr 1 <;> omega) | (congr 1 <;> omega)
theorem bCc:∀ x:eP,jL x≤1048576→pI x=some x
  | ⟨a0,a1,a2⟩,hz=>by
    simp only [jL] at hz
    rw [pI]
theorem aZ7:∀ x:eP,jL x≤1048576→yS x x=some true
  | ⟨a0,a1,a2⟩,hz=>by
    simp only [jL] at hz
    rw [yS]
    simp
mutual
def gU:aY→Nat
  | ⟨a0,a1⟩=>bH a0
def gM:aX→Nat
  | ⟨a0,a1,a2⟩=>a0.length+a1.length+(a2.length+gJ a2)
def fP:aU→Nat
  | ⟨a0,a1,a2,a3⟩=>a1.length+bH a2+a3.length
def fJ:aL→Nat
  | ⟨a0,a1,a2,a3,a4,a5⟩=>(a1.length+jQ a1)+(a2.length+jD a2)+(a3.length+gJ a3)+(a4.length+jM a4)
def bH:aB→Nat
  | ⟨a0,a1,a2,a3,a4,a5,a6,a7⟩=>jL a3+a4.length+a5.length+(a6.length+gJ a6)+(a7.length+jZ a7)
def gJ:List aB→Nat
  | []=>0
  | x::l=>bH x+gJ l
def jZ:List aL→Nat
  | []=>0
  | x::l=>fJ x+jZ l
def jQ:List aU→Nat
  | []=>0
  | x::l=>fP x+jQ l
def jD:List aX→Nat
  | []=>0
  | x::l=>gM x+jD l
def jM:List aY→Nat
  | []=>0
  | x::l=>gU x+jM l
end
theorem mR:∀ l:List aB,gJ l=(l.map bH).sum
  | []=>by simp [gJ]
  | x::l=>by rw [uY,← mR l]; simp only [gJ]
theorem aKq:∀ l:List aL,jZ l=(l.map fJ).sum
  | []=>by simp [jZ]
  | x::l=>by rw [uY,← aKq l]; simp only [jZ]
theorem aN1:∀ l:List aU,jQ l=(l.map fP).sum
  | []=>by simp [jQ]
  | x::l=>by rw [uY,← aN1 l]; simp only [jQ]
theorem aN5:∀ l:List aX,jD l=(l.map gM).sum
  | []=>by simp [jD]
  | x::l=>by rw [uY,← aN5 l]; simp only [jD]
theorem aRx:∀ l:List aY,jM l=(l.map gU).sum
  | []=>by simp [jM]
  | x::l=>by rw [uY,← aRx l]; simp only [jM]
mutual
theorem aXu:∀ x:aY,okGSortKey x→gI vH gU x
  | ⟨a0,a1⟩,h=>by
    simp only [okGSortKey] at h
    obtain ⟨o0,o1⟩:=h
    intro n h0 h1
    have e0:gI kZ bH a0:=aEf a0 o0
    have hz:((gU ⟨a0,a1⟩:Nat):Int)=((bH a0:Nat):Int):=by simp only [gU] <;> omega
    rw [hz,vH]
    dsimp only
    rw [e0 n (by omega) (by omega)]
    simp only [Option.bind_eq_bind,Option.bind_some]
    rcases (Decidable.em (((bH a0:Nat):Int)≤n)).symm with r0 | r0
    · rw [if_neg r0,if_pos (by decide)]; first | done | rw [if_neg (by omega)]
    rw [if_pos r0,if_neg (by simp; omega)]
    first | done | (rw [if_pos (by omega)]; done) | (rw [if_pos (by omega)]; congr 1 <;> omega) | (congr 1 <;> omega)
theorem bEl:∀ x:aX,okGSource x→gI rZ gM x
  | ⟨a0,a1,a2⟩,h=>by
    simp only [okGSource] at h
    obtain ⟨o0,o1,o2⟩:=h
    intro n h0 h1
    have b0:a0.length≤9223372036854775807:=o0
    have b1:a1.length≤9223372036854775807:=o1
    have q2:(zL bH) a2=a2.length+gJ a2:=by unfold zL; rw [mR]
    have e2:gI jS (zL bH) a2:=oW (F:=kZ) o2.1 (fun n=>by rw [jS]) (fun i x=>by rw [sH]) (aCu a2 o2.2)
    have hz:((gM ⟨a0,a1,a2⟩:Nat):Int)=(a0.length:Int)+(a1.length:Int)+(((zL bH) a2:Nat):Int):=by simp only [gM] <;> omega
    rw [hz,rZ]
    dsimp only
    rw [mF (n:=n - (a0.length:Int)) (by omega) (by omega)]
    by_cases r0:n - (a0.length:Int)<0
    · rw [if_pos (by simpa using r0),if_neg (by omega)]
    rw [if_neg (by simpa using r0)]
    rw [mF (n:=(n - (a0.length:Int)) - (a1.length:Int)) (by omega) (by omega)]
    by_cases r1:(n - (a0.length:Int)) - (a1.length:Int)<0
    · rw [if_pos (by simpa using r1),if_neg (by omega)]
    rw [if_neg (by simpa using r1)]
    rw [e2 ((n - (a0.length:Int)) - (a1.length:Int)) (by omega) (by omega)]
    simp only [Option.bind_eq_bind,Option.bind_some]
    rcases (Decidable.em ((((zL bH) a2:Nat):Int)≤((n - (a0.length:Int)) - (a1.length:Int)))).symm with r2 | r2
    · rw [if_neg r2,if_pos (by decide)]; first | done | rw [if_neg (by omega)]
    rw [if_pos r2,if_neg (by simp; omega)]
    first | done | (rw [if_pos (by omega)]; done) | (rw [if_pos (by omega)]; congr 1 <;> omega) | (congr 1 <;> omega)
theorem aXo:∀ x:aU,okGItem x→gI uZ fP x
  | ⟨a0,a1,a2,a3⟩,h=>by
    simp only [okGItem] at h
    obtain ⟨o0,o1,o2,o3⟩:=h
    intro n h0 h1
    have b1:a1.length≤9223372036854775807:=o1
    have e2:gI kZ bH a2:=aEf a2 o2
    have b3:a3.length≤9223372036854775807:=o3
    have hz:((fP ⟨a0,a1,a2,a3⟩:Nat):Int)=(a1.length:Int)+((bH a2:Nat):Int)+(a3.length:Int):=by simp only [fP] <;> omega
    rw [hz,uZ]
    dsimp only
    rw [mF (n:=n - (a1.length:Int)) (by omega) (by omega)]
    by_cases r1:n - (a1.length:Int)<0
    · rw [if_pos (by simpa using r1),if_neg (by omega)]
    rw [if_neg (by simpa using r1)]
    rw [e2 (n - (a1.length:Int)) (by omega) (by omega)]
    simp only [Option.bind_eq_bind,Option.bind_some]
    rcases (Decidable.em (((bH a2:Nat):Int)≤(n - (a1.length:Int)))).symm with r2 | r2
    · rw [if_neg r2,if_pos (by decide)]; first | done | rw [if_neg (by omega)]
    rw [if_pos r2,if_neg (by simp; omega)]
    rw [mF (n:=((n - (a1.length:Int)) - ((bH a2:Nat):Int)) - (a3.length:Int)) (by omega) (by omega)]
    by_cases r3:((n - (a1.length:Int)) - ((bH a2:Nat):Int)) - (a3.length:Int)<0
    · rw [if_pos (by simpa using r3),if_neg (by omega)]
    rw [if_neg (by simpa using r3)]
    first | done | (rw [if_pos (by omega)]; done) | (rw [if_pos (by omega)]; congr 1 <;> omega) | (congr 1 <;> omega)
theorem aP5:∀ x:aL,okGQuery x→gI pK fJ x
  | ⟨a0,a1,a2,a3,a4,a5⟩,h=>by
    simp only [okGQuery] at h
    obtain ⟨o0,o1,o2,o3,o4,o5⟩:=h
    intro n h0 h1
    have q1:(zL fP) a1=a1.length+jQ a1:=by unfold zL; rw [aN1]
    have e1:gI aC2 (zL fP) a1:=oW (F:=uZ) o1.1 (fun n=>by rw [aC2]) (fun i x=>by rw [aBl]) (aSh a1 o1.2)
    have q2:(zL gM) a2=a2.length+jD a2:=by unfold zL; rw [aN5]
    have e2:gI aAw (zL gM) a2:=oW (F:=rZ) o2.1 (fun n=>by rw [aAw]) (fun i x=>by rw [aBr]) (aSj a2 o2.2)
    have q3:(zL bH) a3=a3.length+gJ a3:=by unfold zL; rw [mR]
    have e3:gI jS (zL bH) a3:=oW (F:=kZ) o3.1 (fun n=>by rw [jS]) (fun i x=>by rw [sH]) (aCu a3 o3.2)
    have q4:(zL gU) a4=a4.length+jM a4:=by unfold zL; rw [aRx]
    have e4:gI aAc (zL gU) a4:=oW (F:=vH) o4.1 (fun n=>by rw [aAc]) (fun i x=>by rw [Y8]) (aNh a4 o4.2)
    have hz:((fJ ⟨a0,a1,a2,a3,a4,a5⟩:Nat):Int)=(((zL fP) a1:Nat):Int)+(((zL gM) a2:Nat):Int)+(((zL bH) a3:Nat):Int)+(((zL gU) a4:Nat):Int):=by simp only [fJ] <;> omega
    rw [hz,pK]
    dsimp only
    rw [e1 n (by omega) (by omega)]
    simp only [Option.bind_eq_bind,Option.bind_some]
    rcases (Decidable.em ((((zL fP) a1:Nat):Int)≤n)).symm with r1 | r1
    · rw [if_neg r1,if_pos (by decide)]; first | done | rw [if_neg (by omega)]
    rw [if_pos r1,if_neg (by simp; omega)]
    rw [e2 (n - (((zL fP) a1:Nat):Int)) (by omega) (by omega)]
    simp only [Option.bind_eq_bind,Option.bind_some]
    rcases (Decidable.em ((((zL gM) a2:Nat):Int)≤(n - (((zL fP) a1:Nat):Int)))).symm with r2 | r2
    · rw [if_neg r2,if_pos (by decide)]; first | done | rw [if_neg (by omega)]
    rw [if_pos r2,if_neg (by simp; omega)]
    rw [e3 ((n - (((zL fP) a1:Nat):Int)) - (((zL gM) a2:Nat):Int)) (by omega) (by omega)]
    simp only [Option.bind_eq_bind,Option.bind_some]
    rcases (Decidable.em ((((zL bH) a3:Nat):Int)≤((n - (((zL fP) a1:Nat):Int)) - (((zL gM) a2:Nat):Int)))).symm with r3 | r3
    · rw [if_neg r3,if_pos (by decide)]; first | done | rw [if_neg (by omega)]
    rw [if_pos r3,if_neg (by simp; omega)]
    rw [e4 (((n - (((zL fP) a1:Nat):Int)) - (((zL gM) a2:Nat):Int)) - (((zL bH) a3:Nat):Int)) (by omega) (by omega)]
    simp only [Option.bind_eq_bind,Option.bind_some]
    rcases (Decidable.em ((((zL gU) a4:Nat):Int)≤(((n - (((zL fP) a1:Nat):Int)) - (((zL gM) a2:Nat):Int)) - (((zL bH) a3:Nat):Int)))).symm with r4 | r4
    · rw [if_neg r4,if_pos (by decide)]; first | done | rw [if_neg (by omega)]
    rw [if_pos r4,if_neg (by simp; omega)]
    first | done | (rw [if_pos (by omega)]; done) | (rw [if_pos (by omega)]; congr 1 <;> omega) | (congr 1 <;> omega)
theorem aEf:∀ x:aB,okGExpr x→gI kZ bH x
  | ⟨a0,a1,a2,a3,a4,a5,a6,a7⟩,h=>by
    simp only [okGExpr] at h
    obtain ⟨o0,o1,o2,o3,o4,o5,o6,o7⟩:=h
    intro n h0 h1
    have e3:gI L6 jL a3:=aW9 a3 o3
    have b4:a4.length≤9223372036854775807:=o4
    have b5:a5.length≤9223372036854775807:=o5
    have q6:(zL bH) a6=a6.length+gJ a6:=by unfold zL; rw [mR]
    have e6:gI jS (zL bH) a6:=oW (F:=kZ) o6.1 (fun n=>by rw [jS]) (fun i x=>by rw [sH]) (aCu a6 o6.2)
    have q7:(zL fJ) a7=a7.length+jZ a7:=by unfold zL; rw [aKq]
    have e7:gI aAn (zL fJ) a7:=oW (F:=pK) o7.1 (fun n=>by rw [aAn]) (fun i x=>by rw [Y0]) (aNg a7 o7.2)
    have hz:((bH ⟨a0,a1,a2,a3,a4,a5,a6,a7⟩:Nat):Int)=((jL a3:Nat):Int)+(a4.length:Int)+(a5.length:Int)+(((zL bH) a6:Nat):Int)+(((zL fJ) a7:Nat):Int):=by simp only [bH] <;> omega
    rw [hz,kZ]
    dsimp only
    rw [e3 n (by omega) (by omega)]
    simp only [Option.bind_eq_bind,Option.bind_some]
    rcases (Decidable.em (((jL a3:Nat):Int)≤n)).symm with r3 | r3
    · rw [if_neg r3,if_pos (by decide)]; first | done | rw [if_neg (by omega)]
    rw [if_pos r3,if_neg (by simp; omega)]
    rw [mF (n:=(n - ((jL a3:Nat):Int)) - (a4.length:Int)) (by omega) (by omega)]
    by_cases r4:(n - ((jL a3:Nat):Int)) - (a4.length:Int)<0
    · rw [if_pos (by simpa using r4),if_neg (by omega)]
    rw [if_neg (by simpa using r4)]
    rw [mF (n:=((n - ((jL a3:Nat):Int)) - (a4.length:Int)) - (a5.length:Int)) (by omega) (by omega)]
    by_cases r5:((n - ((jL a3:Nat):Int)) - (a4.length:Int)) - (a5.length:Int)<0
    · rw [if_pos (by simpa using r5),if_neg (by omega)]
    rw [if_neg (by simpa using r5)]
    rw [e6 (((n - ((jL a3:Nat):Int)) - (a4.length:Int)) - (a5.length:Int)) (by omega) (by omega)]
    simp only [Option.bind_eq_bind,Option.bind_some]
    rcases (Decidable.em ((((zL bH) a6:Nat):Int)≤(((n - ((jL a3:Nat):Int)) - (a4.length:Int)) - (a5.length:Int)))).symm with r6 | r6
    · rw [if_neg r6,if_pos (by decide)]; first | done | rw [if_neg (by omega)]
    rw [if_pos r6,if_neg (by simp; omega)]
    rw [e7 ((((n - ((jL a3:Nat):Int)) - (a4.length:Int)) - (a5.length:Int)) - (((zL bH) a6:Nat):Int)) (by omega) (by omega)]
    simp only [Option.bind_eq_bind,Option.bind_some]
    rcases (Decidable.em ((((zL fJ) a7:Nat):Int)≤((((n - ((jL a3:Nat):Int)) - (a4.length:Int)) - (a5.length:Int)) - (((zL bH) a6:Nat):Int)))).symm with r7 | r7
    · rw [if_neg r7,if_pos (by decide)]; first | done | rw [if_neg (by omega)]
    rw [if_pos r7,if_neg (by simp; omega)]
    first | done | (rw [if_pos (by omega)]; done) | (rw [if_pos (by omega)]; congr 1 <;> omega) | (congr 1 <;> omega)
theorem aCu:∀ l:List aB,okLGExpr l→∀ y ∈ l,gI kZ bH y
  | [],_=>fun y hy=>by simp at hy
  | x::l,h=>by
    simp only [okLGExpr] at h
    intro y hy
    rcases List.mem_cons.1 hy with r | hy
    · rw [r]; exact aEf x h.1
    · exact aCu l h.2 y hy
theorem aNg:∀ l:List aL,okLGQuery l→∀ y ∈ l,gI pK fJ y
  | [],_=>fun y hy=>by simp at hy
  | x::l,h=>by
    simp only [okLGQuery] at h
    intro y hy
    rcases List.mem_cons.1 hy with r | hy
    · rw [r]; exact aP5 x h.1
    · exact aNg l h.2 y hy
theorem aSh:∀ l:List aU,okLGItem l→∀ y ∈ l,gI uZ fP y
  | [],_=>fun y hy=>by simp at hy
  | x::l,h=>by
    simp only [okLGItem] at h
    intro y hy
    rcases List.mem_cons.1 hy with r | hy
    · rw [r]; exact aXo x h.1
    · exact aSh l h.2 y hy
theorem aSj:∀ l:List aX,okLGSource l→∀ y ∈ l,gI rZ gM y
  | [],_=>fun y hy=>by simp at hy
  | x::l,h=>by
    simp only [okLGSource] at h
    intro y hy
    rcases List.mem_cons.1 hy with r | hy
    · rw [r]; exact bEl x h.1
    · exact aSj l h.2 y hy
theorem aNh:∀ l:List aY,okLGSortKey l→∀ y ∈ l,gI vH gU y
  | [],_=>fun y hy=>by simp at hy
  | x::l,h=>by
    simp only [okLGSortKey] at h
    intro y hy
    rcases List.mem_cons.1 hy with r | hy
    · rw [r]; exact aXu x h.1
    · exact aNh l h.2 y hy
end
mutual
theorem bG0:∀ x:aY,gU x≤1048576→vG x=some x
  | ⟨a0,a1⟩,hz=>by
    simp only [gU] at hz
    have e0:lQ a0=some a0:=aKa a0 (by omega)
    rw [vG]
    simp only [e0,Option.bind_eq_bind,Option.bind_some]
theorem aZs:∀ x:aX,gM x≤1048576→rU x=some x
  | ⟨a0,a1,a2⟩,hz=>by
    simp only [gM] at hz
    have e2:jR a2=some a2:=nR (by':=136) (W:=lQ) (by omega) (by omega) (by rw [jR]) (fun i b=>by rw [rH]) (V8 a2 (by omega))
    rw [rU]
    simp only [e2,Option.bind_eq_bind,Option.bind_some]
theorem bAf:∀ x:aU,fP x≤1048576→uR x=some x
  | ⟨a0,a1,a2,a3⟩,hz=>by
    simp only [fP] at hz
    have e2:lQ a2=some a2:=aKa a2 (by omega)
    rw [uR]
    simp only [e2,Option.bind_eq_bind,Option.bind_some]
theorem aSo:∀ x:aL,fJ x≤1048576→qE x=some x
  | ⟨a0,a1,a2,a3,a4,a5⟩,hz=>by
    simp only [fJ] at hz
    have e1:aB1 a1=some a1:=nR (by':=176) (W:=uR) (by omega) (by omega) (by rw [aB1]) (fun i b=>by rw [aBz]) (aOw a1 (by omega))
    have e2:Y4 a2=some a2:=nR (by':=56) (W:=rU) (by omega) (by omega) (by rw [Y4]) (fun i b=>by rw [X5]) (aOu a2 (by omega))
    have e3:jR a3=some a3:=nR (by':=136) (W:=lQ) (by omega) (by omega) (by rw [jR]) (fun i b=>by rw [rH]) (V8 a3 (by omega))
    have e4:aBe a4=some a4:=nR (by':=144) (W:=vG) (by omega) (by omega) (by rw [aBe]) (fun i b=>by rw [aBg]) (aN6 a4 (by omega))
    rw [qE]
    simp only [e1,e2,e3,e4,Option.bind_eq_bind,Option.bind_some]
theorem aKa:∀ x:aB,bH x≤1048576→lQ x=some x
  | ⟨a0,a1,a2,a3,a4,a5,a6,a7⟩,hz=>by
    simp only [bH] at hz
    have e3:pI a3=some a3:=bCc a3 (by omega)
    have e6:jR a6=some a6:=nR (by':=136) (W:=lQ) (by omega) (by omega) (by rw [jR]) (fun i b=>by rw [rH]) (V8 a6 (by omega))
    have e7:aBn a7=some a7:=nR (by':=112) (W:=qE) (by omega) (by omega) (by rw [aBn]) (fun i b=>by rw [X0]) (aO9 a7 (by omega))
    rw [lQ]
    simp only [e3,e6,e7,Option.bind_eq_bind,Option.bind_some]
theorem V8:∀ l:List aB,gJ l≤1048576→∀ y ∈ l,lQ y=some y
  | [],_=>fun y hy=>by simp at hy
  | x::l,hz=>by
    simp only [gJ] at hz
    intro y hy
    rcases List.mem_cons.1 hy with r | hy
    · rw [r]; exact aKa x (by omega)
    · exact V8 l (by omega) y hy
theorem aO9:∀ l:List aL,jZ l≤1048576→∀ y ∈ l,qE y=some y
  | [],_=>fun y hy=>by simp at hy
  | x::l,hz=>by
    simp only [jZ] at hz
    intro y hy
    rcases List.mem_cons.1 hy with r | hy
    · rw [r]; exact aSo x (by omega)
    · exact aO9 l (by omega) y hy
theorem aOw:∀ l:List aU,jQ l≤1048576→∀ y ∈ l,uR y=some y
  | [],_=>fun y hy=>by simp at hy
  | x::l,hz=>by
    simp only [jQ] at hz
    intro y hy
    rcases List.mem_cons.1 hy with r | hy
    · rw [r]; exact bAf x (by omega)
    · exact aOw l (by omega) y hy
theorem aOu:∀ l:List aX,jD l≤1048576→∀ y ∈ l,rU y=some y
  | [],_=>fun y hy=>by simp at hy
  | x::l,hz=>by
    simp only [jD] at hz
    intro y hy
    rcases List.mem_cons.1 hy with r | hy
    · rw [r]; exact aZs x (by omega)
    · exact aOu l (by omega) y hy
theorem aN6:∀ l:List aY,jM l≤1048576→∀ y ∈ l,vG y=some y
  | [],_=>fun y hy=>by simp at hy
  | x::l,hz=>by
    simp only [jM] at hz
    intro y hy
    rcases List.mem_cons.1 hy with r | hy
    · rw [r]; exact bG0 x (by omega)
    · exact aN6 l (by omega) y hy
end
mutual
theorem aWr:∀ x:aY,gU x≤1048576→vL x x=some true
  | ⟨a0,a1⟩,hz=>by
    simp only [gU] at hz
    have e0:lU a0 a0=some true:=aHd a0 (by omega)
    rw [vL]
    simp [e0]
theorem aZw:∀ x:aX,gM x≤1048576→rP x x=some true
  | ⟨a0,a1,a2⟩,hz=>by
    simp only [gM] at hz
    have e2:iM a2 a2=some true:=oO (E:=lU) (by omega) (by rw [iM]) (fun i=>by rw [tY]) (aA1 a2 (by omega))
    rw [rP]
    simp [e2]
theorem bCq:∀ x:aU,fP x≤1048576→uL x x=some true
  | ⟨a0,a1,a2,a3⟩,hz=>by
    simp only [fP] at hz
    have e2:lU a2 a2=some true:=aHd a2 (by omega)
    rw [uL]
    simp [e2]
theorem aS2:∀ x:aL,fJ x≤1048576→qA x x=some true
  | ⟨a0,a1,a2,a3,a4,a5⟩,hz=>by
    simp only [fJ] at hz
    have e1:aB7 a1 a1=some true:=oO (E:=uL) (by omega) (by rw [aB7]) (fun i=>by rw [U2]) (aPq a1 (by omega))
    have e2:V9 a2 a2=some true:=oO (E:=rP) (by omega) (by rw [V9]) (fun i=>by rw [X7]) (aSf a2 (by omega))
    have e3:iM a3 a3=some true:=oO (E:=lU) (by omega) (by rw [iM]) (fun i=>by rw [tY]) (aA1 a3 (by omega))
    have e4:aBh a4 a4=some true:=oO (E:=vL) (by omega) (by rw [aBh]) (fun i=>by rw [U1]) (aN2 a4 (by omega))
    rw [qA]
    simp [e1,e2,e3,e4]
theorem aHd:∀ x:aB,bH x≤1048576→lU x x=some true
  | ⟨a0,a1,a2,a3,a4,a5,a6,a7⟩,hz=>by
    simp only [bH] at hz
    have e3:yS a3 a3=some true:=aZ7 a3 (by omega)
    have e6:iM a6 a6=some true:=oO (E:=lU) (by omega) (by rw [iM]) (fun i=>by rw [tY]) (aA1 a6 (by omega))
    have e7:aAy a7 a7=some true:=oO (E:=qA) (by omega) (by rw [aAy]) (fun i=>by rw [aAv]) (aPx a7 (by omega))
    rw [lU]
    simp [e3,e6,e7]
theorem aA1:∀ l:List aB,gJ l≤1048576→∀ y ∈ l,lU y y=some true
  | [],_=>fun y hy=>by simp at hy
  | x::l,hz=>by
    simp only [gJ] at hz
    intro y hy
    rcases List.mem_cons.1 hy with r | hy
    · rw [r]; exact aHd x (by omega)
    · exact aA1 l (by omega) y hy
theorem aPx:∀ l:List aL,jZ l≤1048576→∀ y ∈ l,qA y y=some true
  | [],_=>fun y hy=>by simp at hy
  | x::l,hz=>by
    simp only [jZ] at hz
    intro y hy
    rcases List.mem_cons.1 hy with r | hy
    · rw [r]; exact aS2 x (by omega)
    · exact aPx l (by omega) y hy
theorem aPq:∀ l:List aU,jQ l≤1048576→∀ y ∈ l,uL y y=some true
  | [],_=>fun y hy=>by simp at hy
  | x::l,hz=>by
    simp only [jQ] at hz
    intro y hy
    rcases List.mem_cons.1 hy with r | hy
    · rw [r]; exact bCq x (by omega)
    · exact aPq l (by omega) y hy
theorem aSf:∀ l:List aX,jD l≤1048576→∀ y ∈ l,rP y y=some true
  | [],_=>fun y hy=>by simp at hy
  | x::l,hz=>by
    simp only [jD] at hz
    intro y hy
    rcases List.mem_cons.1 hy with r | hy
    · rw [r]; exact aZw x (by omega)
    · exact aSf l (by omega) y hy
theorem aN2:∀ l:List aY,jM l≤1048576→∀ y ∈ l,vL y y=some true
  | [],_=>fun y hy=>by simp at hy
  | x::l,hz=>by
    simp only [jM] at hz
    intro y hy
    rcases List.mem_cons.1 hy with r | hy
    · rw [r]; exact aWr x (by omega)
    · exact aN2 l (by omega) y hy
end
theorem aLv (p:(List aB)) (h:(okL okGExpr) p):gI jS (zL bH) p:=oW (F:=kZ) h.1 (fun n=>by rw [jS]) (fun i x=>by rw [sH]) (fun y hy=>aEf y (h.2 y hy))
theorem aIk (p:(List aB)) (hz:(zL bH) p≤1048576):jR p=some p:=by
  have q:(zL bH) p=p.length+gJ p:=by unfold zL; rw [mR]
  exact nR (by':=136) (W:=lQ) (by omega) (by omega) (by rw [jR]) (fun i b=>by rw [rH]) (V8 p (by omega))
theorem aCn (p:(List aB)) (hz:(zL bH) p≤1048576):iM p p=some true:=by
  have q:(zL bH) p=p.length+gJ p:=by unfold zL; rw [mR]
  exact oO (E:=lU) (by omega) (by rw [iM]) (fun i=>by rw [tY]) (aA1 p (by omega))
theorem aYd (p:(List (List aB))) (h:(okL (okL okGExpr)) p):gI xG (zL (zL bH)) p:=oW (F:=jS) h.1 (fun n=>by rw [xG]) (fun i x=>by rw [yL]) (fun y hy=>aLv y (h.2 y hy))
theorem bAz (p:(List (List aB))) (hz:(zL (zL bH)) p≤1048576):yH p=some p:=nR (by':=24) (W:=jR) (by unfold zL at hz; omega) (by omega) (by rw [yH]) (fun i b=>by rw [xP]) (fun y hy=>aIk y (by have h1:=zR (z:=(zL bH)) hy; have h2:zL (zL bH) p=p.length+(p.map (zL bH)).sum:=rfl; omega))
theorem aZ4 (p:(List (List aB))) (hz:(zL (zL bH)) p≤1048576):M7 p p=some true:=oO (E:=iM) (by unfold zL at hz; omega) (by rw [M7]) (fun i=>by rw [P6]) (fun y hy=>aCn y (by have h1:=zR (z:=(zL bH)) hy; have h2:zL (zL bH) p=p.length+(p.map (zL bH)).sum:=rfl; omega))
theorem bF6 (p:(List (List UInt8))) (h:(okL okS) p):gI D6 (zL List.length) p:=oW (F:=aBp) h.1 (fun n=>by rw [D6]) (fun i x=>by rw [uI]; simp only [fun y=>bE5 y x (fun r=>uI p r (IntKind.wrap .i64 ((i:Int)+1)))]) (fun y hy=>bCa y (h.2 y hy))
theorem aXi (p:(List (List UInt8))) (hz:(zL List.length) p≤1048576):xB p=some p:=nR (by':=16) (W:=some) (by unfold zL at hz; omega) (by omega) (by rw [xB]) (fun i b=>by rw [M6]; rfl) (fun y hy=>rfl)
theorem bC3 (p:(List (List UInt8))) (hz:(zL List.length) p≤1048576):N8 p p=some true:=oO (E:=fun a b=>some (decide (a=b))) (by unfold zL at hz; omega) (by rw [N8]) (fun i=>by rw [zM]; rfl) (fun y hy=>by simp)
def iW:dW→Nat
  | ⟨a0,a1,a2,a3,a4,a5,a6⟩=>fJ a1+a2.length+(zL (zL bH)) a3+(zL List.length) a4+(zL bH) a5+(zL bH) a6
theorem bE7:∀ x:dW,okGStmt x→gI aBi iW x
  | ⟨a0,a1,a2,a3,a4,a5,a6⟩,h=>by
    simp only [okGStmt] at h
    obtain ⟨o0,o1,o2,o3,o4,o5,o6⟩:=h
    intro n h0 h1
    have e1:gI pK fJ a1:=aP5 a1 o1
    have b2:a2.length≤9223372036854775807:=o2
    have e3:gI xG (zL (zL bH)) a3:=aYd a3 o3
    have e4:gI D6 (zL List.length) a4:=bF6 a4 o4
    have e5:gI jS (zL bH) a5:=aLv a5 o5
    have e6:gI jS (zL bH) a6:=aLv a6 o6
    have hz:((iW ⟨a0,a1,a2,a3,a4,a5,a6⟩:Nat):Int)=((fJ a1:Nat):Int)+(a2.length:Int)+(((zL (zL bH)) a3:Nat):Int)+(((zL List.length) a4:Nat):Int)+(((zL bH) a5:Nat):Int)+(((zL bH) a6:Nat):Int):=by simp only [iW] <;> omega
    rw [hz,aBi]
    dsimp only
    rw [e1 n (by omega) (by omega)]
    simp only [Option.bind_eq_bind,Option.bind_some]
    rcases (Decidable.em (((fJ a1:Nat):Int)≤n)).symm with r1 | r1
    · rw [if_neg r1,if_pos (by decide)]; first | done | rw [if_neg (by omega)]
    rw [if_pos r1,if_neg (by simp; omega)]
    rw [mF (n:=(n - ((fJ a1:Nat):Int)) - (a2.length:Int)) (by omega) (by omega)]
    by_cases r2:(n - ((fJ a1:Nat):Int)) - (a2.length:Int)<0
    · rw [if_pos (by simpa using r2),if_neg (by omega)]
    rw [if_neg (by simpa using r2)]
    rw [e3 ((n - ((fJ a1:Nat):Int)) - (a2.length:Int)) (by omega) (by omega)]
    simp only [Option.bind_eq_bind,Option.bind_some]
    rcases (Decidable.em ((((zL (zL bH)) a3:Nat):Int)≤((n - ((fJ a1:Nat):Int)) - (a2.length:Int)))).symm with r3 | r3
    · rw [if_neg r3,if_pos (by decide)]; first | done | rw [if_neg (by omega)]
    rw [if_pos r3,if_neg (by simp; omega)]
    rw [e4 (((n - ((fJ a1:Nat):Int)) - (a2.length:Int)) - (((zL (zL bH)) a3:Nat):Int)) (by omega) (by omega)]
    simp only [Option.bind_eq_bind,Option.bind_some]
    rcases (Decidable.em ((((zL List.length) a4:Nat):Int)≤(((n - ((fJ a1:Nat):Int)) - (a2.length:Int)) - (((zL (zL bH)) a3:Nat):Int)))).symm with r4 | r4
    · rw [if_neg r4,if_pos (by decide)]; first | done | rw [if_neg (by omega)]
    rw [if_pos r4,if_neg (by simp; omega)]
    rw [e5 ((((n - ((fJ a1:Nat):Int)) - (a2.length:Int)) - (((zL (zL bH)) a3:Nat):Int)) - (((zL List.length) a4:Nat):Int)) (by omega) (by omega)]
    simp only [Option.bind_eq_bind,Option.bind_some]
    rcases (Decidable.em ((((zL bH) a5:Nat):Int)≤((((n - ((fJ a1:Nat):Int)) - (a2.length:Int)) - (((zL (zL bH)) a3:Nat):Int)) - (((zL List.length) a4:Nat):Int)))).symm with r5 | r5
    · rw [if_neg r5,if_pos (by decide)]; first | done | rw [if_neg (by omega)]
    rw [if_pos r5,if_neg (by simp; omega)]
    rw [e6 (((((n - ((fJ a1:Nat):Int)) - (a2.length:Int)) - (((zL (zL bH)) a3:Nat):Int)) - (((zL List.length) a4:Nat):Int)) - (((zL bH) a5:Nat):Int)) (by omega) (by omega)]
    simp only [Option.bind_eq_bind,Option.bind_some]
    rcases (Decidable.em ((((zL bH) a6:Nat):Int)≤(((((n - ((fJ a1:Nat):Int)) - (a2.length:Int)) - (((zL (zL bH)) a3:Nat):Int)) - (((zL List.length) a4:Nat):Int)) - (((zL bH) a5:Nat):Int)))).symm with r6 | r6
    · rw [if_neg r6,if_pos (by decide)]; first | done | rw [if_neg (by omega)]
    rw [if_pos r6,if_neg (by simp; omega)]
    first | done | (rw [if_pos (by omega)]; done) | (rw [if_pos (by omega)]; congr 1 <;> omega) | (congr 1 <;> omega)
theorem aZh:∀ x:dW,iW x≤1048576→vZ x=some x
  | ⟨a0,a1,a2,a3,a4,a5,a6⟩,hz=>by
    simp only [iW] at hz
    have e1:qE a1=some a1:=aSo a1 (by omega)
    have e3:yH a3=some a3:=bAz a3 (by omega)
    have e4:xB a4=some a4:=aXi a4 (by omega)
    have e5:jR a5=some a5:=aIk a5 (by omega)
    have e6:jR a6=some a6:=aIk a6 (by omega)
    rw [vZ]
    simp only [e1,e3,e4,e5,e6,Option.bind_eq_bind,Option.bind_some]
theorem bGo:∀ x:dW,iW x≤1048576→Q0 x x=some true
  | ⟨a0,a1,a2,a3,a4,a5,a6⟩,hz=>by
    simp only [iW] at hz
    have e1:qA a1 a1=some true:=aS2 a1 (by omega)
    have e3:M7 a3 a3=some true:=aZ4 a3 (by omega)
    have e4:N8 a4 a4=some true:=bC3 a4 (by omega)
    have e5:iM a5 a5=some true:=aCn a5 (by omega)
    have e6:iM a6 a6=some true:=aCn a6 (by omega)
    rw [Q0]
    simp [e1,e3,e4,e5,e6]
def qR (q:aL):List aB:=q.items.flatMap (fun i=>if i.star then [] else [i.expr])++q.from_.flatMap (fun s=>s.on_)++q.where_++q.order.flatMap (fun k=>[k.expr])
theorem zQ (q:aL):fJ q=(q.items.length+jQ q.items)+(q.from_.length+jD q.from_)+(q.where_.length+gJ q.where_)+(q.order.length+jM q.order):=by
  cases q; simp only [fJ]
theorem zE (x:aB):bH x=jL x.value+x.qual.length+x.name.length+(x.kids.length+gJ x.kids)+(x.sub.length+jZ x.sub):=by
  cases x; simp only [bH]
theorem aLj:∀ l:List aU,(l.flatMap (fun i=>if i.star then [] else [i.expr])).length≤l.length
  | []=>by simp
  | x::l=>by
    have:=aLj l
    rw [List.flatMap_cons,List.length_append]
    have h1:(if x.star=true then [] else [x.expr]).length≤1:=by cases x.star <;> simp
    simp only [List.length_cons]; omega
theorem aGf:∀ l:List aX,(l.flatMap (fun s=>s.on_)).length≤jD l
  | []=>by simp
  | ⟨a,b,c⟩::l=>by
    have:=aGf l
    rw [List.flatMap_cons,List.length_append]
    simp only [jD,gM]; omega
theorem aMd:∀ l:List aY,(l.flatMap (fun k=>[k.expr])).length=l.length
  | []=>by simp
  | x::l=>by rw [List.flatMap_cons,List.length_append,aMd l]; simp; omega
theorem aTk (q:aL) (hz:fJ q≤1048576):yO q=some (qR q):=by
  have h:=zQ q
  have h1:=aLj q.items
  have h2:=aGf q.from_
  have h3:=aMd q.order
  have app:∀ {l m:List aB},l.length+m.length≤1048576→appG 136 l m=some (l++m):=fun h=>M4 (by omega)
  unfold yO
  rw [gather (p:=q.items) (f:=fun i=>if i.star then [] else [i.expr]) (c:=1048576) (G:=fun y acc=>if (!y.star)=true then appG 136 acc [y.expr] else some acc) (L:=fun acc i=>wY q acc i) (K:=fun acc=>rA q acc 0) (by omega) ?_ ?_ [] (by simp only [List.length_nil,Nat.zero_add]; omega)]
  rw [gather (p:=q.from_) (f:=fun s=>s.on_) (c:=1048576) (G:=fun y acc=>appG 136 acc y.on_) (L:=fun acc i=>rA q acc i) (K:=fun acc=>(appG 136 acc q.where_)>>=fun y7=>sQ q y7 0) (by omega) ?_ ?_ _ (by simp only [List.length_append,List.length_nil]; omega)]
  rw [app (by simp only [List.length_append,List.length_nil]; omega)]
  simp only [Option.bind_eq_bind,Option.bind_some]
  rw [gather (p:=q.order) (f:=fun k=>[k.expr]) (c:=1048576) (G:=fun y acc=>appG 136 acc [y.expr]) (L:=fun acc i=>sQ q acc i) (K:=fun acc=>some acc) (by omega) ?_ ?_ _ (by simp only [List.length_append,List.length_nil]; omega)]
  · simp [qR]
  · intro y _ acc ha; exact app ha
  · intro i acc; rw [sQ]
  · intro y _ acc ha; exact app ha
  · intro i acc; rw [rA]
  · intro y _ acc ha
    cases hs:y.star
    · simp only [hs,Bool.not_false,if_true] at ha ⊢; exact app ha
    · simp
  · intro i acc
    rw [wY]
    simp only [K4]
    split
    · simp only [Option.bind_eq_bind]
      cases idx q.items (i:Int) with
      | none=>rfl
      | some y=>by_cases hs:y.star=true <;> simp [hs]
    · rfl
theorem bDm (q:aL) (hz:fJ q≤1048576):G5 q=some (qR q):=by
  have h:=zQ q
  have h1:=aLj q.items
  have h2:=aGf q.from_
  have h3:=aMd q.order
  have app:∀ {l m:List aB},l.length+m.length≤1048576→appG 136 l m=some (l++m):=fun h=>M4 (by omega)
  unfold G5
  rw [gather (p:=q.items) (f:=fun i=>if i.star then [] else [i.expr]) (c:=1048576) (G:=fun y acc=>if (!y.star)=true then appG 136 acc [y.expr] else some acc) (L:=fun acc i=>Q3 q acc i) (K:=fun acc=>rJ q acc 0) (by omega) ?_ ?_ [] (by simp only [List.length_nil,Nat.zero_add]; omega)]
  rw [gather (p:=q.from_) (f:=fun s=>s.on_) (c:=1048576) (G:=fun y acc=>appG 136 acc y.on_) (L:=fun acc i=>rJ q acc i) (K:=fun acc=>(appG 136 acc q.where_)>>=fun y7=>qU q y7 0) (by omega) ?_ ?_ _ (by simp only [List.length_append,List.length_nil]; omega)]
  rw [app (by simp only [List.length_append,List.length_nil]; omega)]
  simp only [Option.bind_eq_bind,Option.bind_some]
  rw [gather (p:=q.order) (f:=fun k=>[k.expr]) (c:=1048576) (G:=fun y acc=>appG 136 acc [y.expr]) (L:=fun acc i=>qU q acc i) (K:=fun acc=>some acc) (by omega) ?_ ?_ _ (by simp only [List.length_append,List.length_nil]; omega)]
  · simp [qR]
  · intro y _ acc ha; exact app ha
  · intro i acc; rw [qU]
  · intro y _ acc ha; exact app ha
  · intro i acc; rw [rJ]
  · intro y _ acc ha
    cases hs:y.star
    · simp only [hs,Bool.not_false,if_true] at ha ⊢; exact app ha
    · simp
  · intro i acc
    rw [Q3]
    simp only [zN]
    split
    · simp only [Option.bind_eq_bind]
      cases idx q.items (i:Int) with
      | none=>rfl
      | some y=>by_cases hs:y.star=true <;> simp [hs]
    · rfl
theorem oJ {x:aB}:∀ {l:List aB},x ∈ l→bH x<l.length+gJ l
  | y::l,h=>by
    simp only [gJ,List.length_cons]
    rcases List.mem_cons.1 h with rfl | h
    · omega
    · have:=oJ h; omega
theorem qY {x:aL}:∀ {l:List aL},x ∈ l→fJ x<l.length+jZ l
  | y::l,h=>by
    simp only [jZ,List.length_cons]
    rcases List.mem_cons.1 h with rfl | h
    · omega
    · have:=qY h; omega
theorem vM {x:aU}:∀ {l:List aU},x ∈ l→fP x<l.length+jQ l
  | y::l,h=>by
    simp only [jQ,List.length_cons]
    rcases List.mem_cons.1 h with rfl | h
    · omega
    · have:=vM h; omega
theorem aBv {x:aX}:∀ {l:List aX},x ∈ l→gM x<l.length+jD l
  | y::l,h=>by
    simp only [jD,List.length_cons]
    rcases List.mem_cons.1 h with rfl | h
    · omega
    · have:=aBv h; omega
theorem uH {x:aY}:∀ {l:List aY},x ∈ l→gU x<l.length+jM l
  | y::l,h=>by
    simp only [jM,List.length_cons]
    rcases List.mem_cons.1 h with rfl | h
    · omega
    · have:=uH h; omega
theorem wX {α:Type} (z:α→Nat) (l m:List α):((l++m).map z).sum=(l.map z).sum+(m.map z).sum:=by simp
theorem bF3 (q:aL):(qR q).length+((qR q).map bH).sum≤fJ q:=by
  have h:=zQ q
  have h1:∀ l:List aU,(l.flatMap (fun i=>if i.star then [] else [i.expr])).length+((l.flatMap (fun i=>if i.star then [] else [i.expr])).map bH).sum≤l.length+jQ l:=by
    intro l
    induction l with
    | nil=>simp
    | cons x l ih =>
      rw [List.flatMap_cons,List.length_append,wX]
      have h1:(if x.star=true then [] else [x.expr]).length+((if x.star=true then [] else [x.expr]).map bH).sum≤1+fP x:=by
        obtain ⟨a,b,c,d⟩:=x
        cases a <;> simp [fP] <;> omega
      simp only [List.length_cons,jQ]; omega
  have h2:∀ l:List aX,(l.flatMap (fun s=>s.on_)).length+((l.flatMap (fun s=>s.on_)).map bH).sum≤l.length+jD l:=by
    intro l
    induction l with
    | nil=>simp
    | cons x l ih =>
      rw [List.flatMap_cons,List.length_append,wX]
      obtain ⟨a,b,c⟩:=x
      simp only [List.length_cons,jD,gM,mR]; omega
  have h3:∀ l:List aY,(l.flatMap (fun k=>[k.expr])).length+((l.flatMap (fun k=>[k.expr])).map bH).sum≤l.length+jM l:=by
    intro l
    induction l with
    | nil=>simp
    | cons x l ih =>
      rw [List.flatMap_cons,List.length_append,wX]
      obtain ⟨a,b⟩:=x
      simp only [List.length_cons,List.length_nil,List.map_cons,List.map_nil,List.sum_cons,List.sum_nil,jM,gU]; omega
  have k1:=h1 q.items
  have k2:=h2 q.from_
  have k3:=h3 q.order
  have k4:=mR q.where_
  simp only [qR,List.length_append,wX]
  omega
def jG (s:dW):List aB:=qR s.query++s.rows.flatMap id++s.sets++s.where_
theorem aY9 (l:List (List aB)):(l.flatMap id).length+((l.flatMap id).map bH).sum≤zL (zL bH) l:=by
  have e:∀ l:List (List aB),zL (zL bH) l=l.length+(l.map (zL bH)).sum:=fun _=>rfl
  have e2:∀ l:List aB,zL bH l=l.length+(l.map bH).sum:=fun _=>rfl
  induction l with
  | nil=>simp [e]
  | cons x l ih =>
    rw [e] at ih ⊢
    rw [List.flatMap_cons,List.length_append,wX,List.map_cons,List.sum_cons,List.length_cons,e2]
    simp only [id]
    omega
theorem aDc (s:dW):(jG s).length+((jG s).map bH).sum≤iW s:=by
  obtain ⟨k,q,t,r,c,se,w⟩:=s
  have e2:∀ l:List aB,zL bH l=l.length+(l.map bH).sum:=fun _=>rfl
  have h1:=bF3 q
  have h2:=aY9 r
  have h3:=e2 se
  have h4:=e2 w
  simp only [jG,List.length_append,wX,iW]
  omega
theorem aQy (s:dW):s.rows.length≤iW s∧fJ s.query≤iW s:=by
  obtain ⟨k,q,t,r,c,se,w⟩:=s
  have e:zL (zL bH) r=r.length+(r.map (zL bH)).sum:=rfl
  simp only [iW]
  omega
theorem aR5 {s:dW} {y:aB} (h:y ∈ jG s):bH y<iW s:=by
  have h1:=aDc s
  have h2:=zR (z:=bH) h
  have h3:0<(jG s).length:=List.length_pos_of_mem h
  omega
theorem bDe (s:dW) (hz:iW s≤1048576):P9 s=some (jG s):=by
  have h1:=aDc s
  obtain ⟨h2,h3⟩:=aQy s
  have app:∀ {l m:List aB},l.length+m.length≤1048576→appG 136 l m=some (l++m):=fun h=>M4 (by omega)
  simp only [jG,List.length_append] at h1
  unfold P9
  rw [bDm s.query (by omega)]
  simp only [Option.bind_eq_bind,Option.bind_some]
  rw [gather (p:=s.rows) (f:=id) (c:=1048576) (G:=fun y acc=>appG 136 acc y) (L:=fun acc i=>vY s acc i) (K:=fun acc=>(appG 136 acc s.sets)>>=fun y4=>(appG 136 y4 s.where_)>>=fun y5=>some y5) (by omega) ?_ ?_ _ (by omega)]
  · simp only [Option.bind_eq_bind]
    rw [app (by simp only [List.length_append]; omega)]
    simp only [Option.bind_some]
    rw [app (by simp only [List.length_append]; omega)]
    rfl
  · intro y _ acc ha; exact app ha
  · intro i acc; rw [vY]
theorem kE {α:Type} (l:List α):l.flatMap (fun y=>[y])=l:=by simp
theorem aOl (x:aB):aB.mk x.kind x.op x.not_ x.value x.qual x.name x.kids x.sub=x:=by cases x; rfl
theorem aO8 (q:aL):aL.mk q.distinct q.items q.from_ q.where_ q.order q.limit=q:=by cases q; rfl
theorem aT4 (i:aU):aU.mk i.star i.qual i.expr i.as_=i:=by cases i; rfl
theorem aQh (s:aX):aX.mk s.table s.as_ s.on_=s:=by cases s; rfl
theorem aT8 (k:aY):aY.mk k.expr k.desc=k:=by cases k; rfl
theorem aCt {c : aB → Option aB} {L : List aB → Int → Option (List aB)} {p : List aB} (hp : p.length ≤ 1048576) (H : ∀ y ∈ p, c y = some y)
    (hL:∀ (i:Nat) acc,L acc (i:Int)=if (decide ((i:Int)<(p.length:Int)))=true then ((idx p (i:Int))>>=fun y=>(c y)>>=fun y2=>(appG 136 acc ([y2]:List aB))>>=fun z=>L z (IntKind.wrap .i64 ((i:Int)+1))) else some acc):L [] 0=some p:=by
  have:=gather (p:=p) (f:=fun y=>[y]) (c:=1048576) (G:=fun y acc=>(c y)>>=fun y2=>appG 136 acc ([y2]:List aB)) (L:=L) (K:=fun acc=>some acc) (by omega) ?_ ?_ [] (by rw [kE]; simpa using hp)
  · rw [this,kE]; rfl
  · intro y hy acc ha
    simp only [H y hy,Option.bind_eq_bind,Option.bind_some]
    exact M4 (by simp at ha ⊢; omega)
  · intro i acc; rw [hL]; simp only [Option.bind_eq_bind,Option.bind_assoc]
theorem aQj:∀ (n:Nat) (x:aB),bH x<n→bH x≤1048576→mJ x=some x∧nT x=some x:=by
  intro n
  induction n with
  | zero=>intro x h _; omega
  | succ n ih =>
    intro x hx hz
    have hE:=zE x
    have LS:∀ l:List aB,l.length≤1048576→(∀ y ∈ l,bH y<bH x)→tJ l=some l:=by
      intro l hl h
      rw [tJ]
      exact aCt (c:=mJ) (L:=fun acc i=>O0 l i acc) hl (fun y hy=>(ih y (by have:=h y hy; omega) (by have:=h y hy; omega)).1) fun i acc=>by rw [O0]
    have LI:∀ l:List aB,l.length≤1048576→(∀ y ∈ l,bH y<bH x)→mP l=some l:=by
      intro l hl h
      rw [mP]
      by_cases h0:l=[]
      · subst h0; simp
      · rw [if_neg (by simp [h0])]
        exact aCt (c:=nT) (L:=fun acc i=>sN l i acc) hl (fun y hy=>(ih y (by have:=h y hy; omega) (by have:=h y hy; omega)).2) fun i acc=>by rw [sN]
    have app:∀ {α:Type} (b:Nat) {l:List α} {y:α},b≤1000→l.length+1≤1048576→appG b l [y]=some (l++[y]):=fun {α} b {l y} hb h=>M4 (by
      have:(l.length+[y].length) * b≤1048576 * 1000:=Nat.mul_le_mul (by simpa using h) hb
      omega)
    have Q:∀ q:aL,fJ q<bH x→K8 q=some q∧N7 q=some q:=by
      intro q hq
      have hQ:=zQ q
      have hI:∀ i ∈ q.items,bH i.expr<bH x:=fun i hi=>by
        have h1:=vM hi
        have:bH i.expr≤fP i:=by obtain ⟨a,b,c,d⟩:=i; simp only [fP]; omega
        omega
      have hO:∀ i ∈ q.order,bH i.expr<bH x:=fun i hi=>by
        have h1:=uH hi
        have:bH i.expr≤gU i:=by obtain ⟨a,b⟩:=i; simp only [gU]; omega
        omega
      have hS:∀ s ∈ q.from_,s.on_.length≤1048576∧∀ y ∈ s.on_,bH y<bH x:=fun s hs=>by
        have h1:=aBv hs
        have:s.on_.length+gJ s.on_≤gM s:=by obtain ⟨a,b,c⟩:=s; simp only [gM]; omega
        exact ⟨by omega,fun y hy=>by have:=oJ hy; omega⟩
      have hW:∀ y ∈ q.where_,bH y<bH x:=fun y hy=>by have:=oJ hy; omega
      constructor
      · rw [K8,LS q.where_ (by omega) hW]
        simp only [Option.bind_eq_bind,Option.bind_some]
        rw [gather (p:=q.items) (f:=fun i=>[i]) (c:=1048576) (G:=fun i acc=>(mJ i.expr)>>=fun y3=>appG 176 acc ([(aU.mk i.star i.qual y3 i.as_)]:List aU)) (L:=fun acc i=>H8 q q.where_ i acc) (K:=fun acc=>vT q acc q.where_ 0 []) (by omega) ?_ ?_ [] (by rw [kE]; simp; omega)]
        · rw [kE,List.nil_append]
          rw [gather (p:=q.from_) (f:=fun i=>[i]) (c:=1048576) (G:=fun s acc=>(tJ s.on_)>>=fun y3=>appG 56 acc ([(aX.mk s.table s.as_ y3)]:List aX)) (L:=fun acc i=>vT q q.items q.where_ i acc) (K:=fun acc=>rO q acc q.items q.where_ 0 []) (by omega) ?_ ?_ [] (by rw [kE]; simp; omega)]
          · rw [kE,List.nil_append]
            rw [gather (p:=q.order) (f:=fun i=>[i]) (c:=1048576) (G:=fun s acc=>(mJ s.expr)>>=fun y3=>appG 144 acc ([(aY.mk y3 s.desc)]:List aY)) (L:=fun acc i=>rO q q.from_ q.items q.where_ i acc) (K:=fun acc=>some (aL.mk q.distinct q.items q.from_ q.where_ acc q.limit)) (by omega) ?_ ?_ [] (by rw [kE]; simp; omega)]
            · rw [kE,List.nil_append,aO8]
            · intro i hi acc ha
              simp only [(ih i.expr (by have:=hO i hi; omega) (by have:=hO i hi; omega)).1,Option.bind_eq_bind,Option.bind_some,aT8]
              exact app 144 (by omega) (by simpa using ha)
            · intro i acc
              rw [rO]
              cases idx q.order (i:Int) <;> simp only [Option.bind_eq_bind,Option.bind_assoc,Option.bind_some,Option.bind_none]
          · intro s hs acc ha
            simp only [LS s.on_ (hS s hs).1 (hS s hs).2,Option.bind_eq_bind,Option.bind_some,aQh]
            exact app 56 (by omega) (by simpa using ha)
          · intro i acc
            rw [vT]
            cases idx q.from_ (i:Int) <;> simp only [Option.bind_eq_bind,Option.bind_assoc,Option.bind_some,Option.bind_none]
        · intro i hi acc ha
          simp only [(ih i.expr (by have:=hI i hi; omega) (by have:=hI i hi; omega)).1,Option.bind_eq_bind,Option.bind_some,aT4]
          exact app 176 (by omega) (by simpa using ha)
        · intro i acc; rw [H8]; simp only [Option.bind_eq_bind,Option.bind_assoc]
      · rw [N7,LI q.where_ (by omega) hW]
        simp only [Option.bind_eq_bind,Option.bind_some]
        rw [gather (p:=q.items) (f:=fun i=>[i]) (c:=1048576) (G:=fun i acc=>(nT i.expr)>>=fun y3=>appG 176 acc ([(aU.mk i.star i.qual y3 i.as_)]:List aU)) (L:=fun acc i=>xV q q.where_ i acc) (K:=fun acc=>wE q acc q.where_ 0 []) (by omega) ?_ ?_ [] (by rw [kE]; simp; omega)]
        · rw [kE,List.nil_append]
          rw [gather (p:=q.from_) (f:=fun i=>[i]) (c:=1048576) (G:=fun s acc=>(mP s.on_)>>=fun y3=>appG 56 acc ([(aX.mk s.table s.as_ y3)]:List aX)) (L:=fun acc i=>wE q q.items q.where_ i acc) (K:=fun acc=>rY q acc q.items q.where_ 0 []) (by omega) ?_ ?_ [] (by rw [kE]; simp; omega)]
          · rw [kE,List.nil_append]
            rw [gather (p:=q.order) (f:=fun i=>[i]) (c:=1048576) (G:=fun s acc=>(nT s.expr)>>=fun y3=>appG 144 acc ([(aY.mk y3 s.desc)]:List aY)) (L:=fun acc i=>rY q q.from_ q.items q.where_ i acc) (K:=fun acc=>some (aL.mk q.distinct q.items q.from_ q.where_ acc q.limit)) (by omega) ?_ ?_ [] (by rw [kE]; simp; omega)]
            · rw [kE,List.nil_append,aO8]
            · intro i hi acc ha
              simp only [(ih i.expr (by have:=hO i hi; omega) (by have:=hO i hi; omega)).2,Option.bind_eq_bind,Option.bind_some,aT8]
              exact app 144 (by omega) (by simpa using ha)
            · intro i acc; rw [rY]; simp only [Option.bind_eq_bind,Option.bind_assoc]
          · intro s hs acc ha
            simp only [LI s.on_ (hS s hs).1 (hS s hs).2,Option.bind_eq_bind,Option.bind_some,aQh]
            exact app 56 (by omega) (by simpa using ha)
          · intro i acc; rw [wE]; simp only [Option.bind_eq_bind,Option.bind_assoc]
        · intro i hi acc ha
          simp only [(ih i.expr (by have:=hI i hi; omega) (by have:=hI i hi; omega)).2,Option.bind_eq_bind,Option.bind_some,aT4]
          exact app 176 (by omega) (by simpa using ha)
        · intro i acc; rw [xV]; simp only [Option.bind_eq_bind,Option.bind_assoc]
    have hK:∀ y ∈ x.kids,bH y<bH x:=fun y hy=>by have:=oJ hy; omega
    constructor
    · rw [mJ,LS x.kids (by omega) hK]
      simp only [Option.bind_eq_bind,Option.bind_some]
      rw [gather (p:=x.sub) (f:=fun i=>[i]) (c:=1048576) (G:=fun q acc=>(K8 q)>>=fun y3=>appG 112 acc ([y3]:List aL)) (L:=fun acc i=>J8 x x.kids i acc) (K:=fun acc=>some (aB.mk x.kind x.op x.not_ x.value x.qual x.name x.kids acc)) (by omega) ?_ ?_ [] (by rw [kE]; simp; omega)]
      · rw [kE,List.nil_append,aOl]
      · intro q hq acc ha
        simp only [(Q q (by have:=qY hq; omega)).1,Option.bind_eq_bind,Option.bind_some]
        exact app 112 (by omega) (by simpa using ha)
      · intro i acc; rw [J8]; simp only [Option.bind_eq_bind,Option.bind_assoc]
    · rw [nT,LI x.kids (by omega) hK]
      simp only [Option.bind_eq_bind,Option.bind_some]
      rw [gather (p:=x.sub) (f:=fun i=>[i]) (c:=1048576) (G:=fun q acc=>(N7 q)>>=fun y3=>appG 112 acc ([y3]:List aL)) (L:=fun acc i=>C9 x x.kids i acc) (K:=fun acc=>some (aB.mk x.kind x.op x.not_ x.value x.qual x.name x.kids acc)) (by omega) ?_ ?_ [] (by rw [kE]; simp; omega)]
      · rw [kE,List.nil_append,aOl]
      · intro q hq acc ha
        simp only [(Q q (by have:=qY hq; omega)).2,Option.bind_eq_bind,Option.bind_some]
        exact app 112 (by omega) (by simpa using ha)
      · intro i acc; rw [C9]; simp only [Option.bind_eq_bind,Option.bind_assoc]
theorem bEi {l:List aB} (hl:l.length≤1048576) (h:∀ y ∈ l,bH y≤1048576):V5 l=some l:=by
  rw [V5]
  exact aCt (c:=mJ) (L:=fun acc i=>wF l i acc) hl (fun y hy=>(aQj _ y (Nat.lt_succ_self _) (h y hy)).1) fun i acc=>by rw [wF]
theorem aZ6:∀ (n:Nat) (x:Int) (t:List UInt8),0≤x→x<10 ^ n→x≤1000000000000→t.length+n≤100→∃ s,rQ x t=some s:=by
  intro n
  have cat:∀ a b:List UInt8,a.length+b.length≤200→M9 a b=some (a++b):=fun a b h=>by unfold M9; rw [if_pos (by simp only [maxLen]; omega)]
  induction n with
  | zero =>
    intro x t h0 h1 _ ht
    rw [rQ,if_neg (by simp at h1 ⊢; omega)]
    rw [cat _ _ (by simp; omega)]
    exact ⟨_,rfl⟩
  | succ n ih =>
    intro x t h0 h1 hb ht
    rw [rQ]
    by_cases hx:0<x
    · rw [if_pos (by simpa using hx)]
      have e:ofBytes [IntKind.wrap .u8 (IntKind.wrap .i64 (48+Int.tmod x 10))]=some [UInt8.ofNat (IntKind.wrap .u8 (IntKind.wrap .i64 (48+Int.tmod x 10))).toNat]:=by
        unfold ofBytes
        rw [if_pos (by simp [IntKind.wrap,IntKind.bits,IntKind.signed]; omega)]
        rfl
      rw [e]
      simp only [Option.bind_eq_bind,Option.bind_some]
      rw [cat _ _ (by simp; omega)]
      simp only [Option.bind_some]
      have ed:Int.tdiv x 10=x / 10:=Int.tdiv_eq_ediv_of_nonneg (by omega)
      have ed2:x / 10<10 ^ n:=by
        have:x<10 ^ n * 10:=by rw [Int.pow_succ] at h1; exact h1
        exact Int.ediv_lt_of_lt_mul (by omega) this
      rw [ed,mF (by omega) (by omega)]
      exact ih _ _ (by omega) ed2 (by omega) (by simp; omega)
    · rw [if_neg (by simpa using hx)]
      rw [cat _ _ (by simp; omega)]
      exact ⟨_,rfl⟩
def mt (k:Int):List UInt8:=(fD k).getD []
theorem nJ {k:Int} (h0:0≤k) (h1:k≤1000000000000):fD k=some (mt k):=by
  have:∃ s,fD k=some s:=by
    unfold fD
    split
    · exact ⟨_,rfl⟩
    · exact aZ6 20 k [] h0 (by omega) h1 (by simp)
  obtain ⟨s,hs⟩:=this
  simp [mt,hs]
theorem bBd {α : Type} {LM : Int → Int → List α → Option (Int × List α)} {LH : List α → Int → Int → Option Int} {z : α → Nat} {B : Int}
    (hend:∀ k (m:List α),LM k (m.length:Int) m=some (k,m)) (hend2:∀ k (m:List α),LH m k (m.length:Int)=some k) :
    ∀ (r:Nat) (i:Nat) (m:List α) (k:Int),m.length=i+r→m.length≤1048576 →
    (∀ y ∈ m.drop i,∀ k,0≤k→k+13 * (1+z y:Nat)≤B→∃ k1 y',k≤k1∧k1≤k+13 * (1+z y:Nat) ∧
      (∀ (m:List α) (i:Nat),i<m.length→m.length≤1048576→m[i]?=some y→LM k (i:Int) m=LM k1 ((i+1:Nat):Int) (m.set i y')) ∧
      (∀ (M:List α) (i:Nat),i<M.length→M.length≤1048576→M[i]?=some y'→LH M k (i:Int)=LH M k1 ((i+1:Nat):Int))) →
    0≤k→k+13 * ((m.drop i).length+((m.drop i).map z).sum:Nat)≤B →
    ∃ m' k',LM k (i:Int) m=some (k',m')∧m'.length=m.length∧m'.take i=m.take i∧(∀ M:List α,M.length=m'.length→M.drop i=m'.drop i→LH M k (i:Int)=some k')∧k≤k'∧k'≤k+13 * ((m.drop i).length+((m.drop i).map z).sum:Nat):=by
  intro r
  induction r with
  | zero =>
    intro i m k hl _ _ h0 hk
    have e:i=m.length:=by omega
    subst e
    refine ⟨m,k,hend k m,rfl,rfl,fun M hM _=>?_,by omega,by simp⟩
    rw [← hM]; exact hend2 k M
  | succ r ih =>
    intro i m k hl hsm H h0 hk
    have hi:i<m.length:=by omega
    have hd:m.drop i=m[i]::m.drop (i+1):=List.drop_eq_getElem_cons hi
    rw [hd] at hk H
    simp only [List.length_cons,List.map_cons,List.sum_cons] at hk
    obtain ⟨k1,y',a1,a2,a3,a4⟩:=H m[i] List.mem_cons_self k h0 (by omega)
    have hset:(m.set i y').drop (i+1)=m.drop (i+1):=List.drop_set_of_lt (by omega)
    obtain ⟨m',k',b1,b2,b3,b4,b5,b6⟩:=ih (i+1) (m.set i y') k1 (by simp; omega) (by simpa using hsm) (by rw [hset]; exact fun y hy=>H y (List.mem_cons_of_mem _ hy)) (by omega) (by rw [hset]; omega)
    rw [hset] at b6
    rw [List.length_set] at b2
    have hm'i:m'[i]?=some y':=by
      have:(m'.take (i+1))[i]?=((m.set i y').take (i+1))[i]?:=by rw [b3]
      rw [List.getElem?_take_of_lt (by omega),List.getElem?_take_of_lt (by omega)] at this
      rw [this]; simp [hi]
    refine ⟨m',k',?_,b2,?_,fun M hM hMd=>?_,by omega,?_⟩
    · rw [a3 m i hi hsm (by simp [hi]),b1]
    · have:(m'.take (i+1)).take i=((m.set i y').take (i+1)).take i:=by rw [b3]
      rw [List.take_take,List.take_take,Nat.min_eq_left (by omega),List.take_set_of_le (Nat.le_refl _)] at this
      exact this
    · have hMi : M[i]? = some y' := by
        have:(M.drop i)[0]?=(m'.drop i)[0]?:=by rw [hMd]
        simpa [hm'i] using this
      rw [a4 M i (by omega) (by omega) hMi]
      refine b4 M hM ?_
      have:(M.drop i).drop 1=(m'.drop i).drop 1:=by rw [hMd]
      simpa [List.drop_drop,Nat.add_comm] using this
    · rw [hd]
      simp only [List.length_cons,List.map_cons,List.sum_cons]; omega
theorem aA9 {α : Type} {LM : Int → Int → List α → Option (Int × List α)} {LH : List α → Int → Int → Option Int} {z : α → Nat} {B : Int}
    (hend:∀ k (m:List α),LM k (m.length:Int) m=some (k,m)) (hend2:∀ k (m:List α),LH m k (m.length:Int)=some k) (l:List α) (k:Int) (hl:l.length≤1048576)
    (H:∀ y ∈ l,∀ k,0≤k→k+13 * (1+z y:Nat)≤B→∃ k1 y',k≤k1∧k1≤k+13 * (1+z y:Nat) ∧
      (∀ (m:List α) (i:Nat),i<m.length→m.length≤1048576→m[i]?=some y→LM k (i:Int) m=LM k1 ((i+1:Nat):Int) (m.set i y')) ∧
      (∀ (M:List α) (i:Nat),i<M.length→M.length≤1048576→M[i]?=some y'→LH M k (i:Int)=LH M k1 ((i+1:Nat):Int)))
    (h0:0≤k) (hk:k+13 * (l.length+(l.map z).sum:Nat)≤B) :
    ∃ l' k',LM k 0 l=some (k',l')∧LH l' k 0=some k'∧k≤k'∧k'≤k+13 * (l.length+(l.map z).sum:Nat):=by
  obtain ⟨m',k',b1,b2,b3,b4,b5,b6⟩:=bBd (z:=z) (B:=B) hend hend2 l.length 0 l k (by omega) hl (by simpa using H) h0 (by simpa using hk)
  exact ⟨m',k',by simpa using b1,by simpa using b4 m' rfl rfl,b5,by simpa using b6⟩
theorem w1 {j:Int} (h0:0≤j) (h1:j≤1000000000000):IntKind.wrap .i64 (j+1)=j+1:=mF (by omega) (by omega)
def ME (l:List aB):Prop:=∀ k:Int,0≤k→k+13 * (l.length+gJ l:Nat)≤1000000000→∃ l' k',jV l k=some (k',l')∧lY l' k=some k'∧k≤k'∧k'≤k+13 * (l.length+gJ l:Nat)
def MQ (l:List aL):Prop:=∀ k:Int,0≤k→k+13 * (l.length+jZ l:Nat)≤1000000000→∃ l' k',vN l k=some (k',l')∧wB l' k=some k'∧k≤k'∧k'≤k+13 * (l.length+jZ l:Nat)
def MI (l:List aU):Prop:=∀ k:Int,0≤k→k+13 * (l.length+jQ l:Nat)≤1000000000→∃ l' k',wN l k=some (k',l')∧aA4 l' k=some k'∧k≤k'∧k'≤k+13 * (l.length+jQ l:Nat)
def MS (l:List aX):Prop:=∀ k:Int,0≤k→k+13 * (l.length+jD l:Nat)≤1000000000→∃ l' k',vK l k=some (k',l')∧aBq l' k=some k'∧k≤k'∧k'≤k+13 * (l.length+jD l:Nat)
def MO (l:List aY):Prop:=∀ k:Int,0≤k→k+13 * (l.length+jM l:Nat)≤1000000000→∃ l' k',wK l k=some (k',l')∧aBd l' k=some k'∧k≤k'∧k'≤k+13 * (l.length+jM l:Nat)
theorem aQf {l:List aB} (hl:l.length≤1048576) (hE:∀ y ∈ l,ME y.kids) (hQ:∀ y ∈ l,MQ y.sub):ME l:=by
  intro k h0 hk
  have hz:=mR l
  rw [jV]
  refine Exists.elim (aA9 (LM:=fun k i m=>sV k i m) (LH:=fun m k i=>qX m k i) (z:=bH) (B:=1000000000) (fun k m=>by rw [sV]; simp) (fun k m=>by rw [qX]; simp) l k hl ?_ h0 (by omega)) fun l' hx=>Exists.elim hx fun k' ⟨a1,a2,a3,a4⟩=>⟨l',k',a1,by rw [lY]; exact a2,a3,by omega⟩
  · intro y hy k h0 hk
    have hzE:=zE y
    obtain ⟨la,ka,b1,b2,b3,b4⟩:=hE y hy (k+1+1+1+1+1+1+1+1) (by omega) (by omega)
    obtain ⟨lb,kb,c1,c2,c3,c4⟩:=hQ y hy ka (by omega) (by omega)
    have n1:¬ ka<0:=by omega
    have n2:¬ kb<0:=by omega
    refine ⟨kb,aB.mk k (k+1) (decide (Int.tmod (k+1+1) 3=0)) ⟨k+1+1+1,k+1+1+1+1,mt (k+1+1+1+1+1)⟩ (mt (k+1+1+1+1+1+1)) (mt (k+1+1+1+1+1+1+1)) la lb,by omega,by omega,fun m i hi hm hg=>?_,fun M i hi hm hg=>?_⟩
    · show sV k (i:Int) m=_
      rw [sV]
      simp (disch:=omega) only [kJ,hi,decide_true,if_true,lV,hg,Option.bind_eq_bind,Option.bind_some,w1,nJ,b1,c1,Int.toNat_natCast]
      rfl
    · show qX M k (i:Int)=_
      rw [qX]
      simp (disch:=omega) only [kJ,hi,decide_true,if_true,lV,hg,Option.bind_eq_bind,Option.bind_some,w1,nJ,eq_self,Bool.not_true,Bool.false_eq_true,if_false,decide_false,beq_self_eq_true,b2,c2,n1,n2]
      rfl
theorem aT6 {l:List aU} (hl:l.length≤1048576) (hE:∀ y ∈ l,ME y.expr.kids) (hQ:∀ y ∈ l,MQ y.expr.sub):MI l:=by
  intro k h0 hk
  have hz:jQ l=(l.map fP).sum:=by
    clear hE hQ hk hl
    induction l with
    | nil=>simp [jQ]
    | cons x l ih=>simp [jQ,ih]
  rw [wN]
  refine Exists.elim (aA9 (LM:=fun k i m=>qZ k i m) (LH:=fun m k i=>rG m k i) (z:=fP) (B:=1000000000) (fun k m=>by rw [qZ]; simp) (fun k m=>by rw [rG]; simp) l k hl ?_ h0 (by omega)) fun l' hx=>Exists.elim hx fun k' ⟨a1,a2,a3,a4⟩=>⟨l',k',a1,by rw [aA4]; exact a2,a3,by omega⟩
  · intro y hy k h0 hk
    have hzE:=zE y.expr
    have hzI:bH y.expr≤fP y:=by cases y; simp only [fP]; omega
    obtain ⟨la,ka,b1,b2,b3,b4⟩:=hE y hy (k+1+1+1+1+1+1+1+1+1+1) (by omega) (by omega)
    obtain ⟨lb,kb,c1,c2,c3,c4⟩:=hQ y hy ka (by omega) (by omega)
    have n1:¬ ka<0:=by omega
    have n2:¬ kb<0:=by omega
    refine ⟨kb+1,aU.mk (decide (Int.tmod k 3=0)) (mt (k+1)) (aB.mk (k+1+1) (k+1+1+1) (decide (Int.tmod (k+1+1+1+1) 3=0)) ⟨k+1+1+1+1+1,k+1+1+1+1+1+1,mt (k+1+1+1+1+1+1+1)⟩ (mt (k+1+1+1+1+1+1+1+1)) (mt (k+1+1+1+1+1+1+1+1+1)) la lb) (mt kb),by omega,by omega,fun m i hi hm hg=>?_,fun M i hi hm hg=>?_⟩
    · show qZ k (i:Int) m=_
      rw [qZ]
      simp (disch:=omega) only [kJ,hi,decide_true,if_true,lV,hg,Option.bind_eq_bind,Option.bind_some,w1,nJ,b1,c1,Int.toNat_natCast]
      rfl
    · show rG M k (i:Int)=_
      rw [rG]
      simp (disch:=omega) only [kJ,hi,decide_true,if_true,lV,hg,Option.bind_eq_bind,Option.bind_some,w1,nJ,eq_self,Bool.not_true,Bool.false_eq_true,if_false,decide_false,beq_self_eq_true,b2,c2,n1,n2]
      rfl
theorem aSp {l:List aY} (hl:l.length≤1048576) (hE:∀ y ∈ l,ME y.expr.kids) (hQ:∀ y ∈ l,MQ y.expr.sub):MO l:=by
  intro k h0 hk
  have hz:jM l=(l.map gU).sum:=by
    clear hE hQ hk hl
    induction l with
    | nil=>simp [jM]
    | cons x l ih=>simp [jM,ih]
  rw [wK]
  refine Exists.elim (aA9 (LM:=fun k i m=>tN k i m) (LH:=fun m k i=>tK m k i) (z:=gU) (B:=1000000000) (fun k m=>by rw [tN]; simp) (fun k m=>by rw [tK]; simp) l k hl ?_ h0 (by omega)) fun l' hx=>Exists.elim hx fun k' ⟨a1,a2,a3,a4⟩=>⟨l',k',a1,by rw [aBd]; exact a2,a3,by omega⟩
  · intro y hy k h0 hk
    have hzE:=zE y.expr
    have hzI:bH y.expr≤gU y:=by cases y; simp only [gU]; omega
    obtain ⟨la,ka,b1,b2,b3,b4⟩:=hE y hy (k+1+1+1+1+1+1+1+1) (by omega) (by omega)
    obtain ⟨lb,kb,c1,c2,c3,c4⟩:=hQ y hy ka (by omega) (by omega)
    have n1:¬ ka<0:=by omega
    have n2:¬ kb<0:=by omega
    refine ⟨kb+1,aY.mk (aB.mk k (k+1) (decide (Int.tmod (k+1+1) 3=0)) ⟨k+1+1+1,k+1+1+1+1,mt (k+1+1+1+1+1)⟩ (mt (k+1+1+1+1+1+1)) (mt (k+1+1+1+1+1+1+1)) la lb) (decide (Int.tmod kb 3=0)),by omega,by omega,fun m i hi hm hg=>?_,fun M i hi hm hg=>?_⟩
    · show tN k (i:Int) m=_
      rw [tN]
      simp (disch:=omega) only [kJ,hi,decide_true,if_true,lV,hg,Option.bind_eq_bind,Option.bind_some,w1,nJ,b1,c1,Int.toNat_natCast]
      rfl
    · show tK M k (i:Int)=_
      rw [tK]
      simp (disch:=omega) only [kJ,hi,decide_true,if_true,lV,hg,Option.bind_eq_bind,Option.bind_some,w1,nJ,eq_self,Bool.not_true,Bool.false_eq_true,if_false,decide_false,beq_self_eq_true,b2,c2,n1,n2]
      rfl
theorem aPg {l:List aX} (hl:l.length≤1048576) (hE:∀ y ∈ l,ME y.on_):MS l:=by
  intro k h0 hk
  have hz:jD l=(l.map gM).sum:=by
    clear hE hk hl
    induction l with
    | nil=>simp [jD]
    | cons x l ih=>simp [jD,ih]
  rw [vK]
  refine Exists.elim (aA9 (LM:=fun k i m=>qM k i m) (LH:=fun m k i=>pQ m k i) (z:=gM) (B:=1000000000) (fun k m=>by rw [qM]; simp) (fun k m=>by rw [pQ]; simp) l k hl ?_ h0 (by omega)) fun l' hx=>Exists.elim hx fun k' ⟨a1,a2,a3,a4⟩=>⟨l',k',a1,by rw [aBq]; exact a2,a3,by omega⟩
  · intro y hy k h0 hk
    have hzS:y.on_.length+gJ y.on_≤gM y:=by cases y; simp only [gM]; omega
    obtain ⟨la,ka,b1,b2,b3,b4⟩:=hE y hy (k+1+1) (by omega) (by omega)
    have n1:¬ ka<0:=by omega
    refine ⟨ka,aX.mk (mt k) (mt (k+1)) la,by omega,by omega,fun m i hi hm hg=>?_,fun M i hi hm hg=>?_⟩
    · show qM k (i:Int) m=_
      rw [qM]
      simp (disch:=omega) only [kJ,hi,decide_true,if_true,lV,hg,Option.bind_eq_bind,Option.bind_some,w1,nJ,b1,Int.toNat_natCast]
      rfl
    · show pQ M k (i:Int)=_
      rw [pQ]
      simp (disch:=omega) only [kJ,hi,decide_true,if_true,lV,hg,Option.bind_eq_bind,Option.bind_some,w1,nJ,eq_self,Bool.not_true,Bool.false_eq_true,if_false,decide_false,beq_self_eq_true,b2,n1]
      rfl
theorem aS5 {l:List aL} (hl:l.length≤1048576) (hI:∀ y ∈ l,MI y.items) (hS:∀ y ∈ l,MS y.from_) (hE:∀ y ∈ l,ME y.where_) (hO:∀ y ∈ l,MO y.order):MQ l:=by
  intro k h0 hk
  have hz:=aKq l
  rw [vN]
  refine Exists.elim (aA9 (LM:=fun k i m=>tV k i m) (LH:=fun m k i=>qP m k i) (z:=fJ) (B:=1000000000) (fun k m=>by rw [tV]; simp) (fun k m=>by rw [qP]; simp) l k hl ?_ h0 (by omega)) fun l' hx=>Exists.elim hx fun k' ⟨a1,a2,a3,a4⟩=>⟨l',k',a1,by rw [wB]; exact a2,a3,by omega⟩
  · intro y hy k h0 hk
    have hzQ:=zQ y
    obtain ⟨la,ka,b1,b2,b3,b4⟩:=hI y hy (k+1) (by omega) (by omega)
    obtain ⟨lb,kb,c1,c2,c3,c4⟩:=hS y hy ka (by omega) (by omega)
    obtain ⟨lc,kc,d1,d2,d3,d4⟩:=hE y hy kb (by omega) (by omega)
    obtain ⟨ld,kd,e1,e2,e3,e4⟩:=hO y hy kc (by omega) (by omega)
    have n1:¬ ka<0:=by omega
    have n2:¬ kb<0:=by omega
    have n3:¬ kc<0:=by omega
    have n4:¬ kd<0:=by omega
    refine ⟨kd+1,aL.mk (decide (Int.tmod k 3=0)) la lb lc ld kd,by omega,by omega,fun m i hi hm hg=>?_,fun M i hi hm hg=>?_⟩
    · show tV k (i:Int) m=_
      rw [tV]
      simp (disch:=omega) only [kJ,hi,decide_true,if_true,lV,hg,Option.bind_eq_bind,Option.bind_some,w1,nJ,b1,c1,d1,e1,Int.toNat_natCast]
      rfl
    · show qP M k (i:Int)=_
      rw [qP]
      simp (disch:=omega) only [kJ,hi,decide_true,if_true,lV,hg,Option.bind_eq_bind,Option.bind_some,w1,nJ,eq_self,Bool.not_true,Bool.false_eq_true,if_false,decide_false,beq_self_eq_true,b2,c2,d2,e2,n1,n2,n3,n4]
      rfl
theorem aHw:∀ n:Nat,(∀ l:List aB,l.length+gJ l≤n→n≤1048576→ME l)∧(∀ l:List aL,l.length+jZ l≤n→n≤1048576→MQ l):=by
  intro n
  induction n with
  | zero =>
    refine ⟨fun l h _=>?_,fun l h _=>?_⟩
    · have:l=[]:=List.eq_nil_of_length_eq_zero (by omega)
      subst this; exact aQf (by simp) (by simp) (by simp)
    · have:l=[]:=List.eq_nil_of_length_eq_zero (by omega)
      subst this; exact aS5 (by simp) (by simp) (by simp) (by simp) (by simp)
  | succ n ih =>
    have hE:∀ l:List aB,l.length+gJ l≤n+1→n+1≤1048576→ME l:=fun l h hn=>aQf (by omega) (fun y hy=>ih.1 _ (by have:=oJ hy; have:=zE y; omega) (by omega)) fun y hy=>ih.2 _ (by have:=oJ hy; have:=zE y; omega) (by omega)
    refine ⟨hE,fun l h hn=>aS5 (by omega) (fun y hy=>?_) (fun y hy=>?_) (fun y hy=>?_) fun y hy=>?_⟩
    · have h1:=qY hy
      have h2:=zQ y
      exact aT6 (by omega) (fun i hi=>ih.1 _ (by have:=vM hi; have:=zE i.expr; have:bH i.expr≤fP i:=(by cases i; simp only [fP]; omega); omega) (by omega)) fun i hi=>ih.2 _ (by have:=vM hi; have:=zE i.expr; have:bH i.expr≤fP i:=(by cases i; simp only [fP]; omega); omega) (by omega)
    · have h1:=qY hy
      have h2:=zQ y
      exact aPg (by omega) fun i hi=>ih.1 _ (by have:=aBv hi; have:i.on_.length+gJ i.on_≤gM i:=(by cases i; simp only [gM]; omega); omega) (by omega)
    · have h1:=qY hy
      have h2:=zQ y
      exact ih.1 _ (by omega) (by omega)
    · have h1:=qY hy
      have h2:=zQ y
      exact aSp (by omega) (fun i hi=>ih.1 _ (by have:=uH hi; have:=zE i.expr; have:bH i.expr≤gU i:=(by cases i; simp only [gU]; omega); omega) (by omega)) fun i hi=>ih.2 _ (by have:=uH hi; have:=zE i.expr; have:bH i.expr≤gU i:=(by cases i; simp only [gU]; omega); omega) (by omega)
theorem wM {α : Type} {p : List α} {W : α → Option α} {by' : Nat} {d : α} {L : Int → List α → Option (List α)} {S : Option (List α)} (hp : p.length ≤ 1048576) (hby : by' ≤ 134217728)
    (hS:S=(mkG by' (p.length:Int) d>>=fun y=>L 0 y))
    (hL:∀ (i:Nat) b,L (i:Int) b=if (decide ((i:Int)<(p.length:Int)))=true then ((idx p (i:Int))>>=fun y2=>(W y2)>>=fun y3=>(idx b (i:Int))>>=fun _=>L (IntKind.wrap .i64 ((i:Int)+1)) (b.set ((i:Int)).toNat y3)) else some b)
    (H:∀ y ∈ p,W y=some y):S=some p:=by
  refine nR (W:=W) (L:=L) hp hby hS (fun i b=>?_) H
  rw [hL]
  split
  · cases idx p (i:Int) with
    | none=>rfl
    | some y =>
      simp only [Option.bind_eq_bind,Option.bind_some]
      cases W y with
      | none=>rfl
      | some z =>
        simp only [Option.bind_some]
        rw [lV]
        cases hb:b[i]? with
        | none=>rfl
        | some u =>
          have hi:i<b.length:=(List.getElem?_eq_some_iff.1 hb).1
          have:kT b (i:Int) z=some (b.set i z):=by unfold kT; rw [if_pos ⟨by omega,by simp; omega⟩]; simp
          simp only [Option.bind_some,this,Int.toNat_natCast]
  · rfl
theorem aMk {l:List aB} (hl:l.length≤1048576) (hE:∀ y ∈ l,jW y.kids=some y.kids) (hQ:∀ y ∈ l,vR y.sub=some y.sub):jW l=some l :=
  wM (W:=nP) (by':=136) (L:=fun i b=>xY l i b) hl (by omega) (by rw [jW]) (fun i b=>by rw [xY]) fun y hy=>by rw [nP,hE y hy,hQ y hy]; cases y; simp [pI]
theorem aOd {l:List aU} (hl:l.length≤1048576) (hE:∀ y ∈ l,nP y.expr=some y.expr):M5 l=some l :=
  wM (W:=R8) (by':=176) (L:=fun i b=>zT l i b) hl (by omega) (by rw [M5]) (fun i b=>by rw [zT]) fun y hy=>by rw [R8,hE y hy]; cases y; simp
theorem aS4 {l:List aY} (hl:l.length≤1048576) (hE:∀ y ∈ l,nP y.expr=some y.expr):A9 l=some l :=
  wM (W:=Y9) (by':=144) (L:=fun i b=>L8 l i b) hl (by omega) (by rw [A9]) (fun i b=>by rw [L8]) fun y hy=>by rw [Y9,hE y hy]; cases y; simp
theorem aO2 {l:List aX} (hl:l.length≤1048576) (hE:∀ y ∈ l,jW y.on_=some y.on_):I7 l=some l :=
  wM (W:=xM) (by':=56) (L:=fun i b=>I6 l i b) hl (by omega) (by rw [I7]) (fun i b=>by rw [I6]) fun y hy=>by rw [xM,hE y hy]; cases y; simp
theorem aSr {q:aL} (h1:M5 q.items=some q.items) (h2:I7 q.from_=some q.from_) (h3:jW q.where_=some q.where_) (h4:A9 q.order=some q.order):nC q=some q:=by
  rw [nC,h1,h2,h3,h4]; cases q; simp
theorem aOj {l:List aL} (hl:l.length≤1048576) (hQ:∀ y ∈ l,nC y=some y):vR l=some l :=
  wM (W:=nC) (by':=112) (L:=fun i b=>yB l i b) hl (by omega) (by rw [vR]) (fun i b=>by rw [yB]) hQ
theorem aEa:∀ n:Nat,(∀ l:List aB,l.length+gJ l≤n→n≤1048576→jW l=some l)∧(∀ l:List aL,l.length+jZ l≤n→n≤1048576→vR l=some l)∧(∀ q:aL,fJ q≤n→n≤1048576→nC q=some q):=by
  intro n
  induction n with
  | zero =>
    have e0:jW []=some []:=aMk (by simp) (by simp) (by simp)
    refine ⟨fun l h _=>?_,fun l h _=>?_,fun q h _=>?_⟩
    · have:l=[]:=List.eq_nil_of_length_eq_zero (by omega)
      subst this; exact e0
    · have:l=[]:=List.eq_nil_of_length_eq_zero (by omega)
      subst this; exact aOj (by simp) (by simp)
    · have hq:=zQ q
      have h1:q.items=[]:=List.eq_nil_of_length_eq_zero (by omega)
      have h2:q.from_=[]:=List.eq_nil_of_length_eq_zero (by omega)
      have h3:q.where_=[]:=List.eq_nil_of_length_eq_zero (by omega)
      have h4:q.order=[]:=List.eq_nil_of_length_eq_zero (by omega)
      refine aSr ?_ ?_ ?_ ?_
      · rw [h1]; exact aOd (by simp) (by simp)
      · rw [h2]; exact aO2 (by simp) (by simp)
      · rw [h3]; exact e0
      · rw [h4]; exact aS4 (by simp) (by simp)
  | succ n ih =>
    obtain ⟨i1,i2,i3⟩:=ih
    have X:∀ x:aB,bH x≤n→n+1≤1048576→nP x=some x:=fun x hx hn=>by
      have:=zE x
      rw [nP,i1 x.kids (by omega) (by omega),i2 x.sub (by omega) (by omega)]; cases x; simp [pI]
    have Q:∀ q:aL,fJ q≤n+1→n+1≤1048576→nC q=some q:=fun q h hn=>by
      have hq:=zQ q
      refine aSr (aOd (by omega) fun y hy=>X _ (by have:=vM hy; have:bH y.expr≤fP y:=(by cases y; simp only [fP]; omega); omega) hn) (aO2 (by omega) fun y hy=>i1 _ (by have:=aBv hy; have:y.on_.length+gJ y.on_≤gM y:=(by cases y; simp only [gM]; omega); omega) (by omega)) ?_
        (aS4 (by omega) fun y hy=>X _ (by have:=uH hy; have:bH y.expr≤gU y:=(by cases y; simp only [gU]; omega); omega) hn)
      exact aMk (by omega) (fun y hy=>i1 _ (by have:=oJ hy; have:=zE y; omega) (by omega)) fun y hy=>i2 _ (by have:=oJ hy; have:=zE y; omega) (by omega)
    refine ⟨fun l h hn=>aMk (by omega) (fun y hy=>i1 _ (by have:=oJ hy; have:=zE y; omega) (by omega)) fun y hy=>i2 _ (by have:=oJ hy; have:=zE y; omega) (by omega),fun l h hn=>aOj (by omega) fun y hy=>Q y (by have:=qY hy; omega) hn,Q⟩
theorem bDj (s:dW) (hz:iW s≤1048576):qN s=some s:=by
  have h0:fJ s.query+zL (zL bH) s.rows+zL List.length s.cols+zL bH s.sets+zL bH s.where_≤iW s:=by
    obtain ⟨k,q,t,r,c,se,w⟩:=s; simp only [iW]; omega
  have e2:∀ l:List aB,zL bH l=l.length+gJ l:=fun l=>by rw [mR]; rfl
  have e3:zL (zL bH) s.rows=s.rows.length+(s.rows.map (zL bH)).sum:=rfl
  have e4:zL List.length s.cols=s.cols.length+(s.cols.map List.length).sum:=rfl
  have a1:=(aEa 1048576).2.2 s.query (by omega) (by omega)
  have a2:=(aEa 1048576).1 s.sets (by rw [← e2]; omega) (by omega)
  have a3:=(aEa 1048576).1 s.where_ (by rw [← e2]; omega) (by omega)
  have a4:yF s.rows=some s.rows:=wM (W:=jW) (by':=24) (L:=fun i b=>uJ s.rows i b) (by omega) (by omega) (by rw [yF]) (fun i b=>by rw [uJ]) fun y hy=>(aEa 1048576).1 y (by have:=zR (z:=zL bH) hy; rw [← e2]; omega) (by omega)
  have a5:zF s.cols=some s.cols:=wM (W:=some) (by':=16) (L:=fun i b=>wT s.cols i b) (by omega) (by omega) (by rw [zF]) (fun i b=>by rw [wT]; simp only [Option.bind_eq_bind,Option.bind_some]) fun y hy=>rfl
  rw [qN,a1,a4,a5,a2,a3]
  cases s; simp
theorem aX3 {l:List aB} (hl:l.length≤1048576) (h:∀ y ∈ l,bH y≤1048576):mP l=some l:=by
  rw [mP]
  by_cases h0:l=[]
  · subst h0; simp
  · rw [if_neg (by simp [h0])]
    exact aCt (c:=nT) (L:=fun acc i=>sN l i acc) hl (fun y hy=>(aQj _ y (Nat.lt_succ_self _) (h y hy)).2) fun i acc=>by rw [sN]
theorem bFn (s:dW) (hz:iW s≤1048576):tH s=some (jG s):=by
  have h1:=aDc s
  obtain ⟨h2,h3⟩:=aQy s
  have hm:∀ y ∈ jG s,bH y≤1048576:=fun y hy=>by have:=aR5 hy; omega
  have hlen:(jG s).length≤1048576:=by omega
  have app:∀ {l m:List aB},l.length+m.length≤1048576→appG 136 l m=some (l++m):=fun h=>M4 (by omega)
  simp only [jG,List.length_append] at h1
  unfold tH
  rw [aTk s.query (by omega)]
  simp only [Option.bind_eq_bind,Option.bind_some]
  rw [gather (p:=s.rows) (f:=id) (c:=1048576) (G:=fun y acc=>appG 136 acc y) (L:=fun acc i=>uM s acc i) (K:=fun acc=>(appG 136 acc s.sets)>>=fun y4=>(appG 136 y4 s.where_)>>=fun y5=>(mP y5)>>=fun y6=>some y6) (by omega) ?_ ?_ _ (by omega)]
  · simp only [Option.bind_eq_bind]
    rw [app (by simp only [List.length_append]; omega)]
    simp only [Option.bind_some]
    rw [app (by simp only [List.length_append]; omega)]
    simp only [Option.bind_some]
    exact (congrArg (fun z=>z.bind fun y6=>some y6) (aX3 hlen hm)).trans rfl
  · intro y _ acc ha; exact app ha
  · intro i acc; rw [uM]
theorem aNl {α : Type} {L : Int → Int → List α → Option (Int × List α)} {z : α → Nat} (hend : ∀ k (m : List α), L k (m.length : Int) m = some (k, m)) :
    ∀ (r:Nat) (i:Nat) (m:List α) (k:Int),m.length=i+r→m.length≤1048576 →
    (∀ y ∈ m.drop i,∀ k:Int,0≤k→k+13 * (1+z y:Nat)≤1000000000→∃ k1 y',k≤k1∧k1≤k+13 * (1+z y:Nat)∧(∀ (m:List α) (i:Nat),i<m.length→m.length≤1048576→m[i]?=some y→L k (i:Int) m=L k1 ((i+1:Nat):Int) (m.set i y'))) →
    0≤k→k+13 * ((m.drop i).length+((m.drop i).map z).sum:Nat)≤1000000000→∃ m' k',L k (i:Int) m=some (k',m')∧k≤k'∧k'≤k+13 * ((m.drop i).length+((m.drop i).map z).sum:Nat):=by
  intro r
  induction r with
  | zero =>
    intro i m k hl _ _ h0 hk
    have e:i=m.length:=by omega
    subst e
    exact ⟨m,k,hend k m,by omega,by simp⟩
  | succ r ih =>
    intro i m k hl hsm H h0 hk
    have hi:i<m.length:=by omega
    have hd:m.drop i=m[i]::m.drop (i+1):=List.drop_eq_getElem_cons hi
    rw [hd] at hk H
    simp only [List.length_cons,List.map_cons,List.sum_cons] at hk
    obtain ⟨k1,y',a1,a2,a3⟩:=H m[i] List.mem_cons_self k h0 (by omega)
    have hset:(m.set i y').drop (i+1)=m.drop (i+1):=List.drop_set_of_lt (by omega)
    obtain ⟨m',k',b1,b5,b6⟩:=ih (i+1) (m.set i y') k1 (by simp; omega) (by simpa using hsm) (by rw [hset]; exact fun y hy=>H y (List.mem_cons_of_mem _ hy)) (by omega) (by rw [hset]; omega)
    rw [hset] at b6
    refine ⟨m',k',?_,by omega,?_⟩
    · rw [a3 m i hi hsm (by simp [hi]),b1]
    · rw [hd]
      simp only [List.length_cons,List.map_cons,List.sum_cons]; omega
theorem bCk (s:dW) (hz:iW s≤1048576):∃ r,D8 s 1=some r∧0≤r.1:=by
  have h0:fJ s.query+zL (zL bH) s.rows+zL List.length s.cols+zL bH s.sets+zL bH s.where_≤iW s:=by
    obtain ⟨k,q,t,r,c,se,w⟩:=s; simp only [iW]; omega
  have hq:=zQ s.query
  have e2:∀ l:List aB,zL bH l=l.length+gJ l:=fun l=>by rw [mR]; rfl
  have e3:zL (zL bH) s.rows=s.rows.length+(s.rows.map (zL bH)).sum:=rfl
  have e4:zL List.length s.cols=s.cols.length+(s.cols.map List.length).sum:=rfl
  have ME':∀ l:List aB,l.length+gJ l≤1048576→ME l:=fun l h=>(aHw 1048576).1 l h (by omega)
  have MQ':∀ l:List aL,l.length+jZ l≤1048576→MQ l:=fun l h=>(aHw 1048576).2 l h (by omega)
  have XE:∀ x:aB,bH x≤1048576→ME x.kids∧MQ x.sub:=fun x h=>by have:=zE x; exact ⟨ME' _ (by omega),MQ' _ (by omega)⟩
  have m1:MI s.query.items:=aT6 (by omega) (fun y hy=>(XE _ (by have:=vM hy; have:bH y.expr≤fP y:=(by cases y; simp only [fP]; omega); omega)).1) fun y hy=>(XE _ (by have:=vM hy; have:bH y.expr≤fP y:=(by cases y; simp only [fP]; omega); omega)).2
  have m2:MS s.query.from_:=aPg (by omega) fun y hy=>ME' _ (by have:=aBv hy; have:y.on_.length+gJ y.on_≤gM y:=(by cases y; simp only [gM]; omega); omega)
  have m3:ME s.query.where_:=ME' _ (by omega)
  have m4:MO s.query.order:=aSp (by omega) (fun y hy=>(XE _ (by have:=uH hy; have:bH y.expr≤gU y:=(by cases y; simp only [gU]; omega); omega)).1) fun y hy=>(XE _ (by have:=uH hy; have:bH y.expr≤gU y:=(by cases y; simp only [gU]; omega); omega)).2
  obtain ⟨l1,k1,a1,_,a3,a4⟩:=m1 1 (by omega) (by omega)
  obtain ⟨l2,k2,b1,_,b3,b4⟩:=m2 k1 (by omega) (by omega)
  obtain ⟨l3,k3,c1,_,c3,c4⟩:=m3 k2 (by omega) (by omega)
  obtain ⟨l4,k4,d1,_,d3,d4⟩:=m4 k3 (by omega) (by omega)
  obtain ⟨l5,k5,f1,f3,f4⟩:=aNl (L:=fun k i m=>pX k i m) (z:=zL bH) (fun k m=>by rw [pX]; simp) s.rows.length 0 s.rows k4 (by omega) (by omega) (fun y hy k h0 hk=>by
    have hy':y ∈ s.rows:=by simpa using hy
    have:=zR (z:=zL bH) hy'
    obtain ⟨l',k',g1,_,g3,g4⟩:=ME' y (by rw [← e2]; omega) k h0 (by rw [← e2]; omega)
    refine ⟨k',l',g3,by rw [← e2] at g4; omega,fun m i hi hm hg=>?_⟩
    show pX k (i:Int) m=_
    rw [pX]
    simp (disch:=omega) only [kJ,hi,decide_true,if_true,lV,hg,Option.bind_eq_bind,Option.bind_some,w1,g1,Int.toNat_natCast]
    rfl) (by omega) (by simp only [List.drop_zero]; omega)
  simp only [List.drop_zero] at f4
  obtain ⟨l6,k6,p1,p3,p4⟩:=aNl (L:=fun k i m=>qC k i m) (z:=List.length) (fun k m=>by rw [qC]; simp) s.cols.length 0 s.cols k5 (by omega) (by omega) (fun y hy k h0 hk=>by
    refine ⟨k+1,mt k,by omega,by omega,fun m i hi hm hg=>?_⟩
    show qC k (i:Int) m=_
    rw [qC]
    simp (disch:=omega) only [kJ,hi,decide_true,if_true,lV,hg,Option.bind_eq_bind,Option.bind_some,w1,nJ,Int.toNat_natCast]
    rfl) (by omega) (by simp only [List.drop_zero]; omega)
  simp only [List.drop_zero] at p4
  obtain ⟨l7,k7,r1,_,r3,r4⟩:=ME' s.sets (by rw [← e2]; omega) k6 (by omega) (by rw [← e2]; omega)
  rw [← e2] at r4
  obtain ⟨l8,k8,t1,_,t3,t4⟩:=ME' s.where_ (by rw [← e2]; omega) k7 (by omega) (by rw [← e2]; omega)
  refine ⟨(k8,l1,l2,l3,l4,l5,l6,l7,l8),?_,by show 0≤k8; omega⟩
  have f1':A8 s.rows k4=some (k5,l5):=by rw [A8]; exact f1
  have p1':H5 s.cols k5=some (k6,l6):=by rw [H5]; exact p1
  have q1:E8 s.query 1=some (k4,l1,l2,l3,l4):=by
    rw [E8]; simp only [a1,b1,c1,d1,Option.bind_eq_bind,Option.bind_some]
  rw [D8]
  simp only [q1,f1',p1',r1,t1,Option.bind_eq_bind,Option.bind_some]
theorem aWu (s:dW) (os:okGStmt s):X6 s=some true:=by
  unfold X6
  rw [bE7 s os 1048576 (by omega) (by omega)]
  simp only [Option.bind_eq_bind,Option.bind_some]
  by_cases hz:(iW s:Int)≤1048576
  · have hz':iW s≤1048576:=by omega
    have hs:=aDc s
    have hs':zL bH (jG s)≤1048576:=by
      have e2:zL bH (jG s)=(jG s).length+((jG s).map bH).sum:=rfl
      omega
    have e2:zL bH (jG s)=(jG s).length+gJ (jG s):=by rw [mR]; rfl
    have h3:R9 s=some (jG s):=by
      unfold R9
      rw [bDe s hz']
      simp only [Option.bind_eq_bind,Option.bind_some]
      rw [bEi (by omega) fun y hy=>by have:=aR5 hy; omega]; rfl
    obtain ⟨r,r1,r2⟩:=bCk s hz'
    obtain ⟨l,k,m1,m2,m3,m4⟩:=(aHw 1048576).1 (jG s) (by omega) (by omega) 1 (by omega) (by omega)
    have n1:¬ r.1<0:=by omega
    have n2:¬ k<0:=by omega
    rw [if_pos hz,if_neg (by simp; omega),aZh s hz']
    simp [h3,bDj s hz',bFn s hz',aCn (jG s) hs',bGo s hz',r1,r2,m1,m2,n1,n2]
  · rw [if_neg hz]; simp
end Go.Ab
