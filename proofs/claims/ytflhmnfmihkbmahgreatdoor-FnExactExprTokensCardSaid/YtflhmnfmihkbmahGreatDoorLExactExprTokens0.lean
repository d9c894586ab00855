/- What the functions compute,in plain Lean. -/
import Derived.Test.YtflhmnfmihkbmahGreatDoorFExactExprTokens
namespace Go.Ab
open Go
theorem iP {n:Int} (h1 : -9223372036854775808≤n) (h2:n≤9223372036854775807):IntKind.wrap .i64 n=n:=by rw [IntKind.wrap_i64]; omega
theorem iG {i n:Nat} (h:i<n) (hn:n≤4611686018427387904):IntKind.wrap .i64 ((i:Int)+1)=((i+1:Nat):Int):=by rw [iP] <;> omega
theorem dV (i n:Nat):decide ((i:Int)<(n:Int))=decide (i<n):=by simp
theorem qX {α:Type} (l:List α) (i:Nat):idx l (i:Int)=l[i]?:=by simp [idx]
theorem fO {α:Type} {l:List α} {i:Nat} (h:i<l.length):idx l (i:Int)=some l[i]:=by rw [qX]; simp [h]
theorem jL {M:Nat→Prop} {n:Nat} (h0:M n) (h:∀ i,i<n→M (i+1)→M i):∀ i,i≤n→M i:=by
  have:∀ k i,i+k=n→M i:=by
    intro k
    induction k with
    | zero => intro i hi; have : i = n := by omega
              subst this; exact h0
    | succ k ih=>intro i hi; exact h i (by omega) (ih (i+1) (by omega))
  exact fun i hi=>this (n - i) i (by omega)
theorem bDz {α : Type} {p : List α} {F : Int → List α → Option (List α)} (hn : p.length ≤ 4611686018427387904)
    (hF:∀ (i:Nat) b,b.length=p.length→F i b=if i<p.length then (idx p i>>=fun v=>nS b i v>>=fun c=>F (IntKind.wrap .i64 ((i:Int)+1)) c) else some b) :
    ∀ b,b.length=p.length→F 0 b=some p:=by
  have key:∀ i,i≤p.length→∀ b,b.length=p.length→b.take i=p.take i→F (i:Nat) b=some p:=by
    refine jL ?_ ?_
    · intro b hb ht
      rw [hF _ _ hb,if_neg (by omega)]
      rw [← hb,List.take_length] at ht
      rw [ht,hb,List.take_length]
    · intro i hi ih b hb ht
      rw [hF _ _ hb,if_pos hi,fO hi]
      have hs:nS b i p[i]=some (b.set i p[i]):=by
        unfold nS; rw [if_pos ⟨by omega,by simp; omega⟩]; simp
      simp only [Option.bind_eq_bind,Option.bind_some,hs,iG hi hn]
      refine ih _ (by simp [hb]) ?_
      rw [List.take_add_one,List.take_add_one]
      have e1:(b.set i p[i]).take i=b.take i:=by rw [List.take_set_of_le (Nat.le_refl _)]
      rw [e1,ht]
      simp [hb,hi]
  intro b hb
  exact key 0 (by omega) b hb (by simp)
theorem bJw {α:Type} {by':Nat} {n:Nat} {z:α} (h:(n:Int) * by'≤140737488355328):mkG by' (n:Int) z=some (List.replicate n z):=by
  unfold mkG; rw [if_pos ⟨by omega,h⟩]; simp
theorem aOy {α:Type} {b:Nat} {l m:List α} (h:(l.length+m.length) * b≤140737488355328):appG b l m=some (l++m):=by unfold appG; rw [if_pos h]
theorem gather {α β γ : Type} {p : List α} {f : α → List β} {G : α → List β → Option (List β)} {L : List β → Int → Option γ} {K : List β → Option γ} {c : Nat} (hp : p.length ≤ 4194304)
    (hG:∀ y ∈ p,∀ acc:List β,acc.length+(f y).length≤c→G y acc=some (acc++f y))
    (hL:∀ (i:Nat) acc,L acc (i:Int)=if (decide ((i:Int)<(p.length:Int)))=true then ((idx p (i:Int))>>=fun y=>(G y acc)>>=fun z=>L z (IntKind.wrap .i64 ((i:Int)+1))) else K acc) :
    ∀ acc:List β,acc.length+(p.flatMap f).length≤c→L acc 0=K (acc++p.flatMap f):=by
  have key:∀ i,i≤p.length→∀ acc:List β,acc.length+((p.drop i).flatMap f).length≤c→L acc (i:Nat)=K (acc++(p.drop i).flatMap f):=by
    refine jL ?_ ?_
    · intro acc _
      rw [hL]; simp
    · intro i hi ih acc ha
      rw [List.drop_eq_getElem_cons hi,List.flatMap_cons,List.length_append] at ha
      rw [hL,fO hi,iG hi (by omega)]
      simp only [dV,hi,decide_true,if_true,Option.bind_eq_bind,Option.bind_some,hG _ (List.getElem_mem hi) acc (by omega)]
      rw [ih _ (by rw [List.length_append]; omega),List.drop_eq_getElem_cons hi,List.flatMap_cons,List.append_assoc]
  intro acc ha
  simpa using key 0 (by omega) acc (by simpa using ha)
theorem folded {α β γ : Type} {p : List α} {g : α → β → Option β} {h : α → β → β} {L : β → Int → Option γ} {K : β → Option γ} (hp : p.length ≤ 1048576)
    (hg:∀ y ∈ p,∀ b,g y b=some (h y b))
    (hL:∀ (i:Nat) b,L b (i:Int)=if (decide ((i:Int)<(p.length:Int)))=true then ((idx p (i:Int))>>=fun y=>(g y b)>>=fun z=>L z (IntKind.wrap .i64 ((i:Int)+1))) else K b) :
    ∀ b,L b 0=K (p.foldl (fun b y=>h y b) b):=by
  have key:∀ i,i≤p.length→∀ b,L b (i:Nat)=K ((p.drop i).foldl (fun b y=>h y b) b):=by
    refine jL ?_ ?_
    · intro b; rw [hL]; simp
    · intro i hi ih b
      rw [hL,fO hi,iG hi (by omega)]
      simp only [dV,hi,decide_true,if_true,Option.bind_eq_bind,Option.bind_some,hg _ (List.getElem_mem hi)]
      rw [ih,List.drop_eq_getElem_cons hi,List.foldl_cons]
  intro b
  simpa using key 0 (by omega) b
theorem cBf:∀ (n:Nat) (x:Int) (t:List UInt8),0≤x→x<10 ^ n→x≤1000000000000000→t.length+n≤100→∃ s,wQ x t=some s:=by
  intro n
  have cat:∀ a b:List UInt8,a.length+b.length≤200→lV a b=some (a++b):=fun a b h=>by unfold lV; rw [if_pos (by simp only [maxLen]; omega)]
  induction n with
  | zero =>
    intro x t h0 h1 _ ht
    rw [wQ,if_neg (by simp at h1 ⊢; omega)]
    rw [cat _ _ (by simp; omega)]
    exact ⟨_,rfl⟩
  | succ n ih =>
    intro x t h0 h1 hb ht
    rw [wQ]
    by_cases hx:0<x
    · rw [if_pos (by simpa using hx)]
      have e:ofBytes [IntKind.wrap .u8 (IntKind.wrap .i64 (48+Int.tmod x 10))]=some [UInt8.ofNat (IntKind.wrap .u8 (IntKind.wrap .i64 (48+Int.tmod x 10))).toNat]:=by
        unfold ofBytes
        rw [if_pos (by simp [IntKind.wrap,IntKind.bits,IntKind.signed]; omega)]
        rfl
      rw [e]
      simp only [Option.bind_eq_bind,Option.bind_some]
      rw [cat _ _ (by simp; omega)]
      simp only [Option.bind_some]
      have ed:Int.tdiv x 10=x / 10:=Int.tdiv_eq_ediv_of_nonneg (by omega)
      have ed2:x / 10<10 ^ n:=by
        have:x<10 ^ n * 10:=by rw [Int.pow_succ] at h1; exact h1
        exact Int.ediv_lt_of_lt_mul (by omega) this
      rw [ed,iP (by omega) (by omega)]
      exact ih _ _ (by omega) ed2 (by omega) (by simp; omega)
    · rw [if_neg (by simpa using hx)]
      rw [cat _ _ (by simp; omega)]
      exact ⟨_,rfl⟩
def mt (k:Int):List UInt8:=(jF k).getD []
theorem zJ {k:Int} (h0:0≤k) (h1:k≤1000000000000000):jF k=some (mt k):=by
  have:∃ s,jF k=some s:=by
    unfold jF
    split
    · exact ⟨_,rfl⟩
    · exact cBf 20 k [] h0 (by omega) h1 (by simp)
  obtain ⟨s,hs⟩:=this
  simp [mt,hs]
theorem bPs {α : Type} {L : Int → Int → List α → Option (Int × List α)} {z : α → Nat} (hend : ∀ k (m : List α), L k (m.length : Int) m = some (k, m)) :
    ∀ (r:Nat) (i:Nat) (m:List α) (k:Int),m.length=i+r→m.length≤1048576 →
    (∀ y ∈ m.drop i,∀ k:Int,0≤k→k+13 * (1+z y:Nat)≤1000000000→∃ k1 y',k≤k1∧k1≤k+13 * (1+z y:Nat)∧(∀ (m:List α) (i:Nat),i<m.length→m.length≤1048576→m[i]?=some y→L k (i:Int) m=L k1 ((i+1:Nat):Int) (m.set i y'))) →
    0≤k→k+13 * ((m.drop i).length+((m.drop i).map z).sum:Nat)≤1000000000→∃ m' k',L k (i:Int) m=some (k',m')∧k≤k'∧k'≤k+13 * ((m.drop i).length+((m.drop i).map z).sum:Nat):=by
  intro r
  induction r with
  | zero =>
    intro i m k hl _ _ h0 hk
    have e:i=m.length:=by omega
    subst e
    exact ⟨m,k,hend k m,by omega,by simp⟩
  | succ r ih =>
    intro i m k hl hsm H h0 hk
    have hi:i<m.length:=by omega
    have hd:m.drop i=m[i]::m.drop (i+1):=List.drop_eq_getElem_cons hi
    rw [hd] at hk H
    simp only [List.length_cons,List.map_cons,List.sum_cons] at hk
    obtain ⟨k1,y',a1,a2,a3⟩:=H m[i] List.mem_cons_self k h0 (by omega)
    have hset:(m.set i y').drop (i+1)=m.drop (i+1):=List.drop_set_of_lt (by omega)
    obtain ⟨m',k',b1,b5,b6⟩:=ih (i+1) (m.set i y') k1 (by simp; omega) (by simpa using hsm) (by rw [hset]; exact fun y hy=>H y (List.mem_cons_of_mem _ hy)) (by omega) (by rw [hset]; omega)
    rw [hset] at b6
    refine ⟨m',k',?_,by omega,?_⟩
    · rw [a3 m i hi hsm (by simp [hi]),b1]
    · rw [hd]
      simp only [List.length_cons,List.map_cons,List.sum_cons]; omega
theorem aC8 {α : Type} {L : Int → Int → List α → Option (Int × List α)} {z : α → Nat} (hend : ∀ k (m : List α), L k (m.length : Int) m = some (k, m)) (l : List α) (k : Int) (hl : l.length ≤ 1048576)
    (H:∀ y ∈ l,∀ k:Int,0≤k→k+13 * (1+z y:Nat)≤1000000000→∃ k1 y',k≤k1∧k1≤k+13 * (1+z y:Nat)∧(∀ (m:List α) (i:Nat),i<m.length→m.length≤1048576→m[i]?=some y→L k (i:Int) m=L k1 ((i+1:Nat):Int) (m.set i y')))
    (h0:0≤k) (hk:k+13 * (l.length+(l.map z).sum:Nat)≤1000000000):∃ l' k',L k 0 l=some (k',l')∧k≤k'∧k'≤k+13 * (l.length+(l.map z).sum:Nat):=by
  obtain ⟨m',k',b1,b5,b6⟩:=bPs (z:=z) hend l.length 0 l k (by omega) hl (by simpa using H) h0 (by simpa using hk)
  exact ⟨m',k',by simpa using b1,b5,by simpa using b6⟩
def zL {α:Type} (z:α→Nat) (l:List α):Nat:=l.length+(l.map z).sum
def z0 {α:Type} (_:α):Nat:=0
def iE {α:Type} (F:α→Int→Option Int) (z:α→Nat) (x:α):Prop:=∀ n:Int,0≤n→n≤1048576→F x n=some (if (z x:Int)≤n then n - (z x:Int) else -1)
theorem O8 {α:Type} (z:α→Nat) (x:α) (l:List α):((x::l).map z).sum=z x+(l.map z).sum:=by simp
theorem bKn {α : Type} {p : List α} {F : α → Int → Option Int} {z : α → Nat} {L : Int → Int → Option Int} (hp : p.length ≤ 1048576)
    (hL:∀ (i:Nat) (x:Int),L x (i:Int)=if (decide ((i:Int)<(p.length:Int)))=true then ((idx p (i:Int))>>=fun y=>(F y x)>>=fun r=>if (decide (r<0))=true then (some (-1)) else L r (IntKind.wrap .i64 ((i:Int)+1))) else some x)
    (H:∀ y ∈ p,iE F z y):∀ n:Int,0≤n→n≤1048576→L n 0=some (if ((p.map z).sum:Int)≤n then n - ((p.map z).sum:Int) else -1):=by
  have key:∀ i,i≤p.length→∀ n:Int,0≤n→n≤1048576→L n (i:Nat)=some (if (((p.drop i).map z).sum:Int)≤n then n - (((p.drop i).map z).sum:Int) else -1):=by
    refine jL ?_ ?_
    · intro n h0 h1
      rw [hL]; simp [h0]
    · intro i hi ih n h0 h1
      rw [hL,fO hi,iG hi (by omega)]
      rw [List.drop_eq_getElem_cons hi,O8]
      simp only [Option.bind_eq_bind,Option.bind_some,dV,hi,decide_true,if_true,H _ (List.getElem_mem hi) n h0 h1]
      by_cases hz:(z p[i]:Int)≤n
      · rw [if_pos hz,if_neg (by simp; omega),ih _ (by omega) (by omega)]
        congr 1
        by_cases hr:(((p.drop (i+1)).map z).sum:Int)≤n - z p[i]
        · rw [if_pos hr,if_pos (by omega)]; omega
        · rw [if_neg hr,if_neg (by omega)]
      · rw [if_neg hz,if_pos (by decide),if_neg (by omega)]
  intro n h0 h1
  have:=key 0 (by omega) n h0 h1
  simpa using this
theorem yP {α : Type} {p : List α} {F : α → Int → Option Int} {z : α → Nat} {L : Int → Int → Option Int} {S : List α → Int → Option Int} (hp : p.length ≤ 9223372036854775807)
    (hS:∀ n,S p n=if (decide ((IntKind.wrap .i64 (n - (p.length:Int)))<0))=true then (some (-1)) else L (IntKind.wrap .i64 (n - (p.length:Int))) 0)
    (hL:∀ (i:Nat) (x:Int),L x (i:Int)=if (decide ((i:Int)<(p.length:Int)))=true then ((idx p (i:Int))>>=fun y=>(F y x)>>=fun r=>if (decide (r<0))=true then (some (-1)) else L r (IntKind.wrap .i64 ((i:Int)+1))) else some x)
    (H:∀ y ∈ p,iE F z y):iE S (zL z) p:=by
  intro n h0 h1
  have hz:((zL z p:Nat):Int)=(p.length:Int)+((p.map z).sum:Int):=by unfold zL; omega
  rw [hS,iP (by omega) (by omega),hz]
  by_cases hl:n - (p.length:Int)<0
  · rw [if_pos (by simpa using hl),if_neg (by omega)]
  · rw [if_neg (by simpa using hl),bKn (by omega) hL H _ (by omega) (by omega)]
    congr 1
    by_cases hr:((p.map z).sum:Int)≤n - p.length
    · rw [if_pos hr,if_pos (by omega)]; omega
    · rw [if_neg hr,if_neg (by omega)]
theorem vY {α : Type} {p : List α} {W : α → Option α} {by' : Nat} {d : α} {L : Int → List α → Option (List α)} {S : Option (List α)} (hp : p.length ≤ 1048576) (hby : by' ≤ 134217728)
    (hS:S=(mkG by' (p.length:Int) d>>=fun y=>L 0 y))
    (hL:∀ (i:Nat) b,L (i:Int) b=if (decide ((i:Int)<(p.length:Int)))=true then ((idx p (i:Int))>>=fun y2=>(W y2)>>=fun y3=>(idx b (i:Int))>>=fun _=>(nS b (i:Int) y3)>>=fun y5=>L (IntKind.wrap .i64 ((i:Int)+1)) y5) else some b)
    (H:∀ y ∈ p,W y=some y):S=some p:=by
  have hm:(p.length:Int) * by'≤140737488355328:=by
    have:(p.length:Int) * by'≤1048576 * 134217728:=Int.mul_le_mul (by omega) (by omega) (by omega) (by omega)
    omega
  rw [hS,bJw hm]
  simp only [Option.bind_eq_bind,Option.bind_some]
  refine bDz (F:=L) (by omega) (fun i b hb=>?_) _ (by simp)
  rw [hL]
  simp only [dV,decide_eq_true_eq,Option.bind_eq_bind]
  split
  · rename_i hi
    have e:idx b (i:Int)=some b[i]:=fO (by omega)
    rw [fO hi]
    simp only [Option.bind_some,H _ (List.getElem_mem hi),e]
  · rfl
theorem xL {α : Type} {p : List α} {E : α → α → Option Bool} {L : Int → Option Bool} {S : List α → List α → Option Bool} (hp : p.length ≤ 1048576)
    (hS:S p p=if (!decide ((p.length:Int)=(p.length:Int)))=true then (some false) else L 0)
    (hL:∀ i:Nat,L (i:Int)=if (decide ((i:Int)<(p.length:Int)))=true then ((idx p (i:Int))>>=fun y1=>(idx p (i:Int))>>=fun y2=>(E y1 y2)>>=fun y3=>if (!y3)=true then (some false) else L (IntKind.wrap .i64 ((i:Int)+1))) else some true)
    (H:∀ y ∈ p,E y y=some true):S p p=some true:=by
  have key:∀ i,i≤p.length→L (i:Nat)=some true:=by
    refine jL ?_ ?_
    · rw [hL]; simp
    · intro i hi ih
      rw [hL]
      simp only [dV,fO hi,iG hi (by omega),H _ (List.getElem_mem hi),Option.bind_eq_bind,Option.bind_some,ih]
      simp
  rw [hS]
  have:=key 0 (by omega)
  simpa using this
def jJ:cZ→Nat
  | ⟨a0,a1,a2⟩=>a2.length
theorem bL3:∀ x:cZ,okGValue x→iE Q7 jJ x
  | ⟨a0,a1,a2⟩,h=>by
    simp only [okGValue] at h
    obtain ⟨o0,o1,o2⟩:=h
    intro n h0 h1
    have b2:a2.length≤9223372036854775807:=o2
    have hz:((jJ ⟨a0,a1,a2⟩:Nat):Int)=(a2.length:Int):=by simp only [jJ] <;> omega
    rw [hz,Q7]
    dsimp only
    rw [iP (n:=n - (a2.length:Int)) (by omega) (by omega)]
    by_cases r2:n - (a2.length:Int)<0
    · rw [if_pos (by simpa using r2),if_neg (by omega)]
    rw [if_neg (by simpa using r2)]
    first | done | (rw [if_pos (by omega)]; done) | (rw [if_pos (by omega)]; congr 1 <;> omega) | (congr 1 <;> omega)
theorem bKq:∀ x:cZ,jJ x≤1048576→sH x=some x
  | ⟨a0,a1,a2⟩,hz=>by
    simp only [jJ] at hz
    rw [sH]
theorem bO8:∀ x:cZ,jJ x≤1048576→H8 x x=some true
  | ⟨a0,a1,a2⟩,hz=>by
    simp only [jJ] at hz
    rw [H8]
    simp
mutual
def fI:aX→Nat
  | ⟨a0,a1⟩=>bL a0
def fD:aR→Nat
  | ⟨a0,a1,a2⟩=>a0.length+a1.length+(a2.length+eB a2)
def fC:aZ→Nat
  | ⟨a0,a1,a2,a3⟩=>a1.length+bL a2+a3.length
def eU:aJ→Nat
  | ⟨a0,a1,a2,a3,a4,a5⟩=>(a1.length+iQ a1)+(a2.length+gZ a2)+(a3.length+eB a3)+(a4.length+iI a4)
def bL:aB→Nat
  | ⟨a0,a1,a2,a3,a4,a5,a6,a7⟩=>jJ a3+a4.length+a5.length+(a6.length+eB a6)+(a7.length+jU a7)
def eB:List aB→Nat
  | []=>0
  | x::l=>bL x+eB l
def jU:List aJ→Nat
  | []=>0
  | x::l=>eU x+jU l
def iQ:List aZ→Nat
  | []=>0
  | x::l=>fC x+iQ l
def iI:List aX→Nat
  | []=>0
  | x::l=>fI x+iI l
def gZ:List aR→Nat
  | []=>0
  | x::l=>fD x+gZ l
end
theorem tK:∀ l:List aB,eB l=(l.map bL).sum
  | []=>by simp [eB]
  | x::l=>by rw [O8,← tK l]; simp only [eB]
theorem aIo:∀ l:List aJ,jU l=(l.map eU).sum
  | []=>by simp [jU]
  | x::l=>by rw [O8,← aIo l]; simp only [jU]
theorem aRy:∀ l:List aZ,iQ l=(l.map fC).sum
  | []=>by simp [iQ]
  | x::l=>by rw [O8,← aRy l]; simp only [iQ]
theorem aZo:∀ l:List aX,iI l=(l.map fI).sum
  | []=>by simp [iI]
  | x::l=>by rw [O8,← aZo l]; simp only [iI]
theorem bAy:∀ l:List aR,gZ l=(l.map fD).sum
  | []=>by simp [gZ]
  | x::l=>by rw [O8,← bAy l]; simp only [gZ]
mutual
theorem bUm:∀ x:aX,okGSortKey x→iE xW fI x
  | ⟨a0,a1⟩,h=>by
    simp only [okGSortKey] at h
    obtain ⟨o0,o1⟩:=h
    intro n h0 h1
    have e0:iE nK bL a0:=aFo a0 o0
    have hz:((fI ⟨a0,a1⟩:Nat):Int)=((bL a0:Nat):Int):=by simp only [fI] <;> omega
    rw [hz,xW]
    dsimp only
    rw [e0 n (by omega) (by omega)]
    simp only [Option.bind_eq_bind,Option.bind_some]
    rcases (Decidable.em (((bL a0:Nat):Int)≤n)).symm with r0 | r0
    · rw [if_neg r0,if_pos (by decide)]; first | done | rw [if_neg (by omega)]
    rw [if_pos r0,if_neg (by simp; omega)]
    first | done | (rw [if_pos (by omega)]; done) | (rw [if_pos (by omega)]; congr 1 <;> omega) | (congr 1 <;> omega)
theorem bU1:∀ x:aR,okGSource x→iE wM fD x
  | ⟨a0,a1,a2⟩,h=>by
    simp only [okGSource] at h
    obtain ⟨o0,o1,o2⟩:=h
    intro n h0 h1
    have b0:a0.length≤9223372036854775807:=o0
    have b1:a1.length≤9223372036854775807:=o1
    have q2:(zL bL) a2=a2.length+eB a2:=by unfold zL; rw [tK]
    have e2:iE qN (zL bL) a2:=yP (F:=nK) o2.1 (fun n=>by rw [qN]) (fun i x=>by rw [zO]) (aDd a2 o2.2)
    have hz:((fD ⟨a0,a1,a2⟩:Nat):Int)=(a0.length:Int)+(a1.length:Int)+(((zL bL) a2:Nat):Int):=by simp only [fD] <;> omega
    rw [hz,wM]
    dsimp only
    rw [iP (n:=n - (a0.length:Int)) (by omega) (by omega)]
    by_cases r0:n - (a0.length:Int)<0
    · rw [if_pos (by simpa using r0),if_neg (by omega)]
    rw [if_neg (by simpa using r0)]
    rw [iP (n:=(n - (a0.length:Int)) - (a1.length:Int)) (by omega) (by omega)]
    by_cases r1:(n - (a0.length:Int)) - (a1.length:Int)<0
    · rw [if_pos (by simpa using r1),if_neg (by omega)]
    rw [if_neg (by simpa using r1)]
    rw [e2 ((n - (a0.length:Int)) - (a1.length:Int)) (by omega) (by omega)]
    simp only [Option.bind_eq_bind,Option.bind_some]
    rcases (Decidable.em ((((zL bL) a2:Nat):Int)≤((n - (a0.length:Int)) - (a1.length:Int)))).symm with r2 | r2
    · rw [if_neg r2,if_pos (by decide)]; first | done | rw [if_neg (by omega)]
    rw [if_pos r2,if_neg (by simp; omega)]
    first | done | (rw [if_pos (by omega)]; done) | (rw [if_pos (by omega)]; congr 1 <;> omega) | (congr 1 <;> omega)
theorem bG0:∀ x:aZ,okGItem x→iE yY fC x
  | ⟨a0,a1,a2,a3⟩,h=>by
    simp only [okGItem] at h
    obtain ⟨o0,o1,o2,o3⟩:=h
    intro n h0 h1
    have b1:a1.length≤9223372036854775807:=o1
    have e2:iE nK bL a2:=aFo a2 o2
    have b3:a3.length≤9223372036854775807:=o3
    have hz:((fC ⟨a0,a1,a2,a3⟩:Nat):Int)=(a1.length:Int)+((bL a2:Nat):Int)+(a3.length:Int):=by simp only [fC] <;> omega
    rw [hz,yY]
    dsimp only
    rw [iP (n:=n - (a1.length:Int)) (by omega) (by omega)]
    by_cases r1:n - (a1.length:Int)<0
    · rw [if_pos (by simpa using r1),if_neg (by omega)]
    rw [if_neg (by simpa using r1)]
    rw [e2 (n - (a1.length:Int)) (by omega) (by omega)]
    simp only [Option.bind_eq_bind,Option.bind_some]
    rcases (Decidable.em (((bL a2:Nat):Int)≤(n - (a1.length:Int)))).symm with r2 | r2
    · rw [if_neg r2,if_pos (by decide)]; first | done | rw [if_neg (by omega)]
    rw [if_pos r2,if_neg (by simp; omega)]
    rw [iP (n:=((n - (a1.length:Int)) - ((bL a2:Nat):Int)) - (a3.length:Int)) (by omega) (by omega)]
    by_cases r3:((n - (a1.length:Int)) - ((bL a2:Nat):Int)) - (a3.length:Int)<0
    · rw [if_pos (by simpa using r3),if_neg (by omega)]
    rw [if_neg (by simpa using r3)]
    first | done | (rw [if_pos (by omega)]; done) | (rw [if_pos (by omega)]; congr 1 <;> omega) | (congr 1 <;> omega)
theorem bF0:∀ x:aJ,okGQuery x→iE F8 eU x
  | ⟨a0,a1,a2,a3,a4,a5⟩,h=>by
    simp only [okGQuery] at h
    obtain ⟨o0,o1,o2,o3,o4,o5⟩:=h
    intro n h0 h1
    have q1:(zL fC) a1=a1.length+iQ a1:=by unfold zL; rw [aRy]
    have e1:iE Z8 (zL fC) a1:=yP (F:=yY) o1.1 (fun n=>by rw [Z8]) (fun i x=>by rw [aB8]) (bB3 a1 o1.2)
    have q2:(zL fD) a2=a2.length+gZ a2:=by unfold zL; rw [bAy]
    have e2:iE aBd (zL fD) a2:=yP (F:=wM) o2.1 (fun n=>by rw [aBd]) (fun i x=>by rw [aBs]) (aZy a2 o2.2)
    have q3:(zL bL) a3=a3.length+eB a3:=by unfold zL; rw [tK]
    have e3:iE qN (zL bL) a3:=yP (F:=nK) o3.1 (fun n=>by rw [qN]) (fun i x=>by rw [zO]) (aDd a3 o3.2)
    have q4:(zL fI) a4=a4.length+iI a4:=by unfold zL; rw [aZo]
    have e4:iE aAe (zL fI) a4:=yP (F:=xW) o4.1 (fun n=>by rw [aAe]) (fun i x=>by rw [aC1]) (aZ0 a4 o4.2)
    have hz:((eU ⟨a0,a1,a2,a3,a4,a5⟩:Nat):Int)=(((zL fC) a1:Nat):Int)+(((zL fD) a2:Nat):Int)+(((zL bL) a3:Nat):Int)+(((zL fI) a4:Nat):Int):=by simp only [eU] <;> omega
    rw [hz,F8]
    dsimp only
    rw [e1 n (by omega) (by omega)]
    simp only [Option.bind_eq_bind,Option.bind_some]
    rcases (Decidable.em ((((zL fC) a1:Nat):Int)≤n)).symm with r1 | r1
    · rw [if_neg r1,if_pos (by decide)]; first | done | rw [if_neg (by omega)]
    rw [if_pos r1,if_neg (by simp; omega)]
    rw [e2 (n - (((zL fC) a1:Nat):Int)) (by omega) (by omega)]
    simp only [Option.bind_eq_bind,Option.bind_some]
    rcases (Decidable.em ((((zL fD) a2:Nat):Int)≤(n - (((zL fC) a1:Nat):Int)))).symm with r2 | r2
    · rw [if_neg r2,if_pos (by decide)]; first | done | rw [if_neg (by omega)]
    rw [if_pos r2,if_neg (by simp; omega)]
    rw [e3 ((n - (((zL fC) a1:Nat):Int)) - (((zL fD) a2:Nat):Int)) (by omega) (by omega)]
    simp only [Option.bind_eq_bind,Option.bind_some]
    rcases (Decidable.em ((((zL bL) a3:Nat):Int)≤((n - (((zL fC) a1:Nat):Int)) - (((zL fD) a2:Nat):Int)))).symm with r3 | r3
    · rw [if_neg r3,if_pos (by decide)]; first | done | rw [if_neg (by omega)]
    rw [if_pos r3,if_neg (by simp; omega)]
    rw [e4 (((n - (((zL fC) a1:Nat):Int)) - (((zL fD) a2:Nat):Int)) - (((zL bL) a3:Nat):Int)) (by omega) (by omega)]
    simp only [Option.bind_eq_bind,Option.bind_some]
    rcases (Decidable.em ((((zL fI) a4:Nat):Int)≤(((n - (((zL fC) a1:Nat):Int)) - (((zL fD) a2:Nat):Int)) - (((zL bL) a3:Nat):Int)))).symm with r4 | r4
    · rw [if_neg r4,if_pos (by decide)]; first | done | rw [if_neg (by omega)]
    rw [if_pos r4,if_neg (by simp; omega)]
    first | done | (rw [if_pos (by omega)]; done) | (rw [if_pos (by omega)]; congr 1 <;> omega) | (congr 1 <;> omega)
theorem aFo:∀ x:aB,okGExpr x→iE nK bL x
  | ⟨a0,a1,a2,a3,a4,a5,a6,a7⟩,h=>by
    simp only [okGExpr] at h
    obtain ⟨o0,o1,o2,o3,o4,o5,o6,o7⟩:=h
    intro n h0 h1
    have e3:iE Q7 jJ a3:=bL3 a3 o3
    have b4:a4.length≤9223372036854775807:=o4
    have b5:a5.length≤9223372036854775807:=o5
    have q6:(zL bL) a6=a6.length+eB a6:=by unfold zL; rw [tK]
    have e6:iE qN (zL bL) a6:=yP (F:=nK) o6.1 (fun n=>by rw [qN]) (fun i x=>by rw [zO]) (aDd a6 o6.2)
    have q7:(zL eU) a7=a7.length+jU a7:=by unfold zL; rw [aIo]
    have e7:iE aBz (zL eU) a7:=yP (F:=F8) o7.1 (fun n=>by rw [aBz]) (fun i x=>by rw [aBt]) (aZt a7 o7.2)
    have hz:((bL ⟨a0,a1,a2,a3,a4,a5,a6,a7⟩:Nat):Int)=((jJ a3:Nat):Int)+(a4.length:Int)+(a5.length:Int)+(((zL bL) a6:Nat):Int)+(((zL eU) a7:Nat):Int):=by simp only [bL] <;> omega
    rw [hz,nK]
    dsimp only
    rw [e3 n (by omega) (by omega)]
    simp only [Option.bind_eq_bind,Option.bind_some]
    rcases (Decidable.em (((jJ a3:Nat):Int)≤n)).symm with r3 | r3
    · rw [if_neg r3,if_pos (by decide)]; first | done | rw [if_neg (by omega)]
    rw [if_pos r3,if_neg (by simp; omega)]
    rw [iP (n:=(n - ((jJ a3:Nat):Int)) - (a4.length:Int)) (by omega) (by omega)]
    by_cases r4:(n - ((jJ a3:Nat):Int)) - (a4.length:Int)<0
    · rw [if_pos (by simpa using r4),if_neg (by omega)]
    rw [if_neg (by simpa using r4)]
    rw [iP (n:=((n - ((jJ a3:Nat):Int)) - (a4.length:Int)) - (a5.length:Int)) (by omega) (by omega)]
    by_cases r5:((n - ((jJ a3:Nat):Int)) - (a4.length:Int)) - (a5.length:Int)<0
    · rw [if_pos (by simpa using r5),if_neg (by omega)]
    rw [if_neg (by simpa using r5)]
    rw [e6 (((n - ((jJ a3:Nat):Int)) - (a4.length:Int)) - (a5.length:Int)) (by omega) (by omega)]
    simp only [Option.bind_eq_bind,Option.bind_some]
    rcases (Decidable.em ((((zL bL) a6:Nat):Int)≤(((n - ((jJ a3:Nat):Int)) - (a4.length:Int)) - (a5.length:Int)))).symm with r6 | r6
    · rw [if_neg r6,if_pos (by decide)]; first | done | rw [if_neg (by omega)]
    rw [if_pos r6,if_neg (by simp; omega)]
    rw [e7 ((((n - ((jJ a3:Nat):Int)) - (a4.length:Int)) - (a5.length:Int)) - (((zL bL) a6:Nat):Int)) (by omega) (by omega)]
    simp only [Option.bind_eq_bind,Option.bind_some]
    rcases (Decidable.em ((((zL eU) a7:Nat):Int)≤((((n - ((jJ a3:Nat):Int)) - (a4.length:Int)) - (a5.length:Int)) - (((zL bL) a6:Nat):Int)))).symm with r7 | r7
    · rw [if_neg r7,if_pos (by decide)]; first | done | rw [if_neg (by omega)]
    rw [if_pos r7,if_neg (by simp; omega)]
    first | done | (rw [if_pos (by omega)]; done) | (rw [if_pos (by omega)]; congr 1 <;> omega) | (congr 1 <;> omega)
theorem aDd:∀ l:List aB,okLGExpr l→∀ y ∈ l,iE nK bL y
  | [],_=>fun y hy=>by simp at hy
  | x::l,h=>by
    simp only [okLGExpr] at h
    intro y hy
    rcases List.mem_cons.1 hy with r | hy
    · rw [r]; exact aFo x h.1
    · exact aDd l h.2 y hy
theorem aZt:∀ l:List aJ,okLGQuery l→∀ y ∈ l,iE F8 eU y
  | [],_=>fun y hy=>by simp at hy
  | x::l,h=>by
    simp only [okLGQuery] at h
    intro y hy
    rcases List.mem_cons.1 hy with r | hy
    · rw [r]; exact bF0 x h.1
    · exact aZt l h.2 y hy
theorem bB3:∀ l:List aZ,okLGItem l→∀ y ∈ l,iE yY fC y
  | [],_=>fun y hy=>by simp at hy
  | x::l,h=>by
    simp only [okLGItem] at h
    intro y hy
    rcases List.mem_cons.1 hy with r | hy
    · rw [r]; exact bG0 x h.1
    · exact bB3 l h.2 y hy
theorem aZ0:∀ l:List aX,okLGSortKey l→∀ y ∈ l,iE xW fI y
  | [],_=>fun y hy=>by simp at hy
  | x::l,h=>by
    simp only [okLGSortKey] at h
    intro y hy
    rcases List.mem_cons.1 hy with r | hy
    · rw [r]; exact bUm x h.1
    · exact aZ0 l h.2 y hy
theorem aZy:∀ l:List aR,okLGSource l→∀ y ∈ l,iE wM fD y
  | [],_=>fun y hy=>by simp at hy
  | x::l,h=>by
    simp only [okLGSource] at h
    intro y hy
    rcases List.mem_cons.1 hy with r | hy
    · rw [r]; exact bU1 x h.1
    · exact aZy l h.2 y hy
end
mutual
theorem bKf:∀ x:aX,fI x≤1048576→zW x=some x
  | ⟨a0,a1⟩,hz=>by
    simp only [fI] at hz
    have e0:nA a0=some a0:=aCj a0 (by omega)
    rw [zW]
    simp only [e0,Option.bind_eq_bind,Option.bind_some]
theorem bPk:∀ x:aR,fD x≤1048576→vU x=some x
  | ⟨a0,a1,a2⟩,hz=>by
    simp only [fD] at hz
    have e2:qG a2=some a2:=vY (by':=136) (W:=nA) (by omega) (by omega) (by rw [qG]) (fun i b=>by rw [yS]) (aGv a2 (by omega))
    rw [vU]
    simp only [e2,Option.bind_eq_bind,Option.bind_some]
theorem bZ8:∀ x:aZ,fC x≤1048576→D5 x=some x
  | ⟨a0,a1,a2,a3⟩,hz=>by
    simp only [fC] at hz
    have e2:nA a2=some a2:=aCj a2 (by omega)
    rw [D5]
    simp only [e2,Option.bind_eq_bind,Option.bind_some]
theorem bSl:∀ x:aJ,eU x≤1048576→yT x=some x
  | ⟨a0,a1,a2,a3,a4,a5⟩,hz=>by
    simp only [eU] at hz
    have e1:aBg a1=some a1:=vY (by':=176) (W:=D5) (by omega) (by omega) (by rw [aBg]) (fun i b=>by rw [aBc]) (aTi a1 (by omega))
    have e2:X5 a2=some a2:=vY (by':=56) (W:=vU) (by omega) (by omega) (by rw [X5]) (fun i b=>by rw [aB5]) (aW6 a2 (by omega))
    have e3:qG a3=some a3:=vY (by':=136) (W:=nA) (by omega) (by omega) (by rw [qG]) (fun i b=>by rw [yS]) (aGv a3 (by omega))
    have e4:aCg a4=some a4:=vY (by':=144) (W:=zW) (by omega) (by omega) (by rw [aCg]) (fun i b=>by rw [aBo]) (aXm a4 (by omega))
    rw [yT]
    simp only [e1,e2,e3,e4,Option.bind_eq_bind,Option.bind_some]
theorem aCj:∀ x:aB,bL x≤1048576→nA x=some x
  | ⟨a0,a1,a2,a3,a4,a5,a6,a7⟩,hz=>by
    simp only [bL] at hz
    have e3:sH a3=some a3:=bKq a3 (by omega)
    have e6:qG a6=some a6:=vY (by':=136) (W:=nA) (by omega) (by omega) (by rw [qG]) (fun i b=>by rw [yS]) (aGv a6 (by omega))
    have e7:aBj a7=some a7:=vY (by':=112) (W:=yT) (by omega) (by omega) (by rw [aBj]) (fun i b=>by rw [aAs]) (aZ9 a7 (by omega))
    rw [nA]
    simp only [e3,e6,e7,Option.bind_eq_bind,Option.bind_some]
theorem aGv:∀ l:List aB,eB l≤1048576→∀ y ∈ l,nA y=some y
  | [],_=>fun y hy=>by simp at hy
  | x::l,hz=>by
    simp only [eB] at hz
    intro y hy
    rcases List.mem_cons.1 hy with r | hy
    · rw [r]; exact aCj x (by omega)
    · exact aGv l (by omega) y hy
theorem aZ9:∀ l:List aJ,jU l≤1048576→∀ y ∈ l,yT y=some y
  | [],_=>fun y hy=>by simp at hy
  | x::l,hz=>by
    simp only [jU] at hz
    intro y hy
    rcases List.mem_cons.1 hy with r | hy
    · rw [r]; exact bSl x (by omega)
    · exact aZ9 l (by omega) y hy
theorem aTi:∀ l:List aZ,iQ l≤1048576→∀ y ∈ l,D5 y=some y
  | [],_=>fun y hy=>by simp at hy
  | x::l,hz=>by
    simp only [iQ] at hz
    intro y hy
    rcases List.mem_cons.1 hy with r | hy
    · rw [r]; exact bZ8 x (by omega)
    · exact aTi l (by omega) y hy
theorem aXm:∀ l:List aX,iI l≤1048576→∀ y ∈ l,zW y=some y
  | [],_=>fun y hy=>by simp at hy
  | x::l,hz=>by
    simp only [iI] at hz
    intro y hy
    rcases List.mem_cons.1 hy with r | hy
    · rw [r]; exact bKf x (by omega)
    · exact aXm l (by omega) y hy
theorem aW6:∀ l:List aR,gZ l≤1048576→∀ y ∈ l,vU y=some y
  | [],_=>fun y hy=>by simp at hy
  | x::l,hz=>by
    simp only [gZ] at hz
    intro y hy
    rcases List.mem_cons.1 hy with r | hy
    · rw [r]; exact bPk x (by omega)
    · exact aW6 l (by omega) y hy
end
mutual
theorem bD8:∀ x:aX,fI x≤1048576→yZ x x=some true
  | ⟨a0,a1⟩,hz=>by
    simp only [fI] at hz
    have e0:nE a0 a0=some true:=aFd a0 (by omega)
    rw [yZ]
    simp [e0]
theorem bSp:∀ x:aR,fD x≤1048576→vJ x x=some true
  | ⟨a0,a1,a2⟩,hz=>by
    simp only [fD] at hz
    have e2:qW a2 a2=some true:=xL (E:=nE) (by omega) (by rw [qW]) (fun i=>by rw [zP]) (aHp a2 (by omega))
    rw [vJ]
    simp [e2]
theorem bL9:∀ x:aZ,fC x≤1048576→zB x x=some true
  | ⟨a0,a1,a2,a3⟩,hz=>by
    simp only [fC] at hz
    have e2:nE a2 a2=some true:=aFd a2 (by omega)
    rw [zB]
    simp [e2]
theorem bD7:∀ x:aJ,eU x≤1048576→yD x x=some true
  | ⟨a0,a1,a2,a3,a4,a5⟩,hz=>by
    simp only [eU] at hz
    have e1:aCn a1 a1=some true:=xL (E:=zB) (by omega) (by rw [aCn]) (fun i=>by rw [aCo]) (bCu a1 (by omega))
    have e2:aB1 a2 a2=some true:=xL (E:=vJ) (by omega) (by rw [aB1]) (fun i=>by rw [aB6]) (aXz a2 (by omega))
    have e3:qW a3 a3=some true:=xL (E:=nE) (by omega) (by rw [qW]) (fun i=>by rw [zP]) (aHp a3 (by omega))
    have e4:X6 a4 a4=some true:=xL (E:=yZ) (by omega) (by rw [X6]) (fun i=>by rw [aBb]) (aZg a4 (by omega))
    rw [yD]
    simp [e1,e2,e3,e4]
theorem aFd:∀ x:aB,bL x≤1048576→nE x x=some true
  | ⟨a0,a1,a2,a3,a4,a5,a6,a7⟩,hz=>by
    simp only [bL] at hz
    have e3:H8 a3 a3=some true:=bO8 a3 (by omega)
    have e6:qW a6 a6=some true:=xL (E:=nE) (by omega) (by rw [qW]) (fun i=>by rw [zP]) (aHp a6 (by omega))
    have e7:aBm a7 a7=some true:=xL (E:=yD) (by omega) (by rw [aBm]) (fun i=>by rw [aC9]) (aTx a7 (by omega))
    rw [nE]
    simp [e3,e6,e7]
theorem aHp:∀ l:List aB,eB l≤1048576→∀ y ∈ l,nE y y=some true
  | [],_=>fun y hy=>by simp at hy
  | x::l,hz=>by
    simp only [eB] at hz
    intro y hy
    rcases List.mem_cons.1 hy with r | hy
    · rw [r]; exact aFd x (by omega)
    · exact aHp l (by omega) y hy
theorem aTx:∀ l:List aJ,jU l≤1048576→∀ y ∈ l,yD y y=some true
  | [],_=>fun y hy=>by simp at hy
  | x::l,hz=>by
    simp only [jU] at hz
    intro y hy
    rcases List.mem_cons.1 hy with r | hy
    · rw [r]; exact bD7 x (by omega)
    · exact aTx l (by omega) y hy
theorem bCu:∀ l:List aZ,iQ l≤1048576→∀ y ∈ l,zB y y=some true
  | [],_=>fun y hy=>by simp at hy
  | x::l,hz=>by
    simp only [iQ] at hz
    intro y hy
    rcases List.mem_cons.1 hy with r | hy
    · rw [r]; exact bL9 x (by omega)
    · exact bCu l (by omega) y hy
theorem aZg:∀ l:List aX,iI l≤1048576→∀ y ∈ l,yZ y y=some true
  | [],_=>fun y hy=>by simp at hy
  | x::l,hz=>by
    simp only [iI] at hz
    intro y hy
    rcases List.mem_cons.1 hy with r | hy
    · rw [r]; exact bD8 x (by omega)
    · exact aZg l (by omega) y hy
theorem aXz:∀ l:List aR,gZ l≤1048576→∀ y ∈ l,vJ y y=some true
  | [],_=>fun y hy=>by simp at hy
  | x::l,hz=>by
    simp only [gZ] at hz
    intro y hy
    rcases List.mem_cons.1 hy with r | hy
    · rw [r]; exact bSp x (by omega)
    · exact aXz l (by omega) y hy
end
def eD (q:aJ):List aB:=q.items.flatMap (fun i=>if i.star then [] else [i.expr])++q.from_.flatMap (fun s=>s.on_)++q.where_++q.order.flatMap (fun k=>[k.expr])
theorem zQ (q:aJ):eU q=(q.items.length+iQ q.items)+(q.from_.length+gZ q.from_)+(q.where_.length+eB q.where_)+(q.order.length+iI q.order):=by
  cases q; simp only [eU]
theorem zE (x:aB):bL x=jJ x.value+x.qual.length+x.name.length+(x.kids.length+eB x.kids)+(x.sub.length+jU x.sub):=by
  cases x; simp only [bL]
theorem aEq:∀ l:List aZ,(l.flatMap (fun i=>if i.star then [] else [i.expr])).length≤l.length
  | []=>by simp
  | x::l=>by
    have:=aEq l
    rw [List.flatMap_cons,List.length_append]
    have h1:(if x.star=true then [] else [x.expr]).length≤1:=by cases x.star <;> simp
    simp only [List.length_cons]; omega
theorem aEm:∀ l:List aR,(l.flatMap (fun s=>s.on_)).length≤gZ l
  | []=>by simp
  | ⟨a,b,c⟩::l=>by
    have:=aEm l
    rw [List.flatMap_cons,List.length_append]
    simp only [gZ,fD]; omega
theorem aEj:∀ l:List aX,(l.flatMap (fun k=>[k.expr])).length=l.length
  | []=>by simp
  | x::l=>by rw [List.flatMap_cons,List.length_append,aEj l]; simp; omega
theorem aOj (q:aJ) (hz:eU q≤1048576):xO q=some (eD q):=by
  have h:=zQ q
  have h1:=aEq q.items
  have h2:=aEm q.from_
  have h3:=aEj q.order
  have app:∀ {l m:List aB},l.length+m.length≤1048576→appG 136 l m=some (l++m):=fun h=>aOy (by omega)
  unfold xO
  rw [gather (p:=q.items) (f:=fun i=>if i.star then [] else [i.expr]) (c:=1048576) (G:=fun y acc=>if (!y.star)=true then appG 136 acc [y.expr] else some acc) (L:=fun acc i=>U2 q acc i) (K:=fun acc=>vK q acc 0) (by omega) ?_ ?_ [] (by simp only [List.length_nil,Nat.zero_add]; omega)]
  rw [gather (p:=q.from_) (f:=fun s=>s.on_) (c:=1048576) (G:=fun y acc=>appG 136 acc y.on_) (L:=fun acc i=>vK q acc i) (K:=fun acc=>(appG 136 acc q.where_)>>=fun y7=>wY q y7 0) (by omega) ?_ ?_ _ (by simp only [List.length_append,List.length_nil]; omega)]
  rw [app (by simp only [List.length_append,List.length_nil]; omega)]
  simp only [Option.bind_eq_bind,Option.bind_some]
  rw [gather (p:=q.order) (f:=fun k=>[k.expr]) (c:=1048576) (G:=fun y acc=>appG 136 acc [y.expr]) (L:=fun acc i=>wY q acc i) (K:=fun acc=>some acc) (by omega) ?_ ?_ _ (by simp only [List.length_append,List.length_nil]; omega)]
  · simp [eD]
  · intro y _ acc ha; exact app ha
  · intro i acc; rw [wY]
  · intro y _ acc ha; exact app ha
  · intro i acc; rw [vK]
  · intro y _ acc ha
    cases hs:y.star
    · simp only [hs,Bool.not_false,if_true] at ha ⊢; exact app ha
    · simp
  · intro i acc
    rw [U2]
    simp only [K8]
    split
    · simp only [Option.bind_eq_bind]
      cases idx q.items (i:Int) with
      | none=>rfl
      | some y=>by_cases hs:y.star=true <;> simp [hs]
    · rfl
theorem aE0 (q:aJ) (hz:eU q≤1048576):yQ q=some (eD q):=by
  have h:=zQ q
  have h1:=aEq q.items
  have h2:=aEm q.from_
  have h3:=aEj q.order
  have app:∀ {l m:List aB},l.length+m.length≤1048576→appG 136 l m=some (l++m):=fun h=>aOy (by omega)
  unfold yQ
  rw [gather (p:=q.items) (f:=fun i=>if i.star then [] else [i.expr]) (c:=1048576) (G:=fun y acc=>if (!y.star)=true then appG 136 acc [y.expr] else some acc) (L:=fun acc i=>P6 q acc i) (K:=fun acc=>vX q acc 0) (by omega) ?_ ?_ [] (by simp only [List.length_nil,Nat.zero_add]; omega)]
  rw [gather (p:=q.from_) (f:=fun s=>s.on_) (c:=1048576) (G:=fun y acc=>appG 136 acc y.on_) (L:=fun acc i=>vX q acc i) (K:=fun acc=>(appG 136 acc q.where_)>>=fun y7=>xC q y7 0) (by omega) ?_ ?_ _ (by simp only [List.length_append,List.length_nil]; omega)]
  rw [app (by simp only [List.length_append,List.length_nil]; omega)]
  simp only [Option.bind_eq_bind,Option.bind_some]
  rw [gather (p:=q.order) (f:=fun k=>[k.expr]) (c:=1048576) (G:=fun y acc=>appG 136 acc [y.expr]) (L:=fun acc i=>xC q acc i) (K:=fun acc=>some acc) (by omega) ?_ ?_ _ (by simp only [List.length_append,List.length_nil]; omega)]
  · simp [eD]
  · intro y _ acc ha; exact app ha
  · intro i acc; rw [xC]
  · intro y _ acc ha; exact app ha
  · intro i acc; rw [vX]
  · intro y _ acc ha
    cases hs:y.star
    · simp only [hs,Bool.not_false,if_true] at ha ⊢; exact app ha
    · simp
  · intro i acc
    rw [P6]
    simp only [K5]
    split
    · simp only [Option.bind_eq_bind]
      cases idx q.items (i:Int) with
      | none=>rfl
      | some y=>by_cases hs:y.star=true <;> simp [hs]
    · rfl
theorem kE {x:aB}:∀ {l:List aB},x ∈ l→bL x<l.length+eB l
  | y::l,h=>by
    simp only [eB,List.length_cons]
    rcases List.mem_cons.1 h with rfl | h
    · omega
    · have:=kE h; omega
theorem oW {x:aJ}:∀ {l:List aJ},x ∈ l→eU x<l.length+jU l
  | y::l,h=>by
    simp only [jU,List.length_cons]
    rcases List.mem_cons.1 h with rfl | h
    · omega
    · have:=oW h; omega
theorem aC2 {x:aZ}:∀ {l:List aZ},x ∈ l→fC x<l.length+iQ l
  | y::l,h=>by
    simp only [iQ,List.length_cons]
    rcases List.mem_cons.1 h with rfl | h
    · omega
    · have:=aC2 h; omega
theorem aI1 {x:aR}:∀ {l:List aR},x ∈ l→fD x<l.length+gZ l
  | y::l,h=>by
    simp only [gZ,List.length_cons]
    rcases List.mem_cons.1 h with rfl | h
    · omega
    · have:=aI1 h; omega
theorem aBf {x:aX}:∀ {l:List aX},x ∈ l→fI x<l.length+iI l
  | y::l,h=>by
    simp only [iI,List.length_cons]
    rcases List.mem_cons.1 h with rfl | h
    · omega
    · have:=aBf h; omega
theorem aAa (q:aJ):(eD q).length≤eU q:=by
  have h:=zQ q
  have h1:=aEq q.items
  have h2:=aEm q.from_
  have h3:=aEj q.order
  simp only [eD,List.length_append]; omega
theorem aBn {q:aJ} {x:aB} (hx:x ∈ eD q):bL x<eU q:=by
  have h:=zQ q
  simp only [eD,List.mem_append,List.mem_flatMap] at hx
  rcases hx with ((⟨i,hi,hx⟩ | ⟨s,hs,hx⟩) | hx) | ⟨k,hk,hx⟩
  · have h1:=aC2 hi
    have:x=i.expr:=by
      cases hst:i.star <;> simp [hst] at hx
      exact hx
    subst this
    have:bL i.expr≤fC i:=by obtain ⟨a,b,c,d⟩:=i; simp only [fC]; omega
    omega
  · have h1:=aI1 hs
    have h2:=kE hx
    have:s.on_.length+eB s.on_≤fD s:=by obtain ⟨a,b,c⟩:=s; simp only [fD]; omega
    omega
  · have h2:=kE hx
    omega
  · have h1:=aBf hk
    have:x=k.expr:=by simpa using hx
    subst this
    have:bL k.expr≤fI k:=by obtain ⟨a,b⟩:=k; simp only [fI]; omega
    omega
theorem w1 {j:Int} (h0:0≤j) (h1:j≤1000000000000):IntKind.wrap .i64 (j+1)=j+1:=iP (by omega) (by omega)
def ME (l:List aB):Prop:=∀ k:Int,0≤k→k+13 * (l.length+eB l:Nat)≤1000000000→∃ l' k',tL l k=some (k',l')∧True∧k≤k'∧k'≤k+13 * (l.length+eB l:Nat)
def MQ (l:List aJ):Prop:=∀ k:Int,0≤k→k+13 * (l.length+jU l:Nat)≤1000000000→∃ l' k',wR l k=some (k',l')∧True∧k≤k'∧k'≤k+13 * (l.length+jU l:Nat)
def MI (l:List aZ):Prop:=∀ k:Int,0≤k→k+13 * (l.length+iQ l:Nat)≤1000000000→∃ l' k',aC0 l k=some (k',l')∧True∧k≤k'∧k'≤k+13 * (l.length+iQ l:Nat)
def MS (l:List aR):Prop:=∀ k:Int,0≤k→k+13 * (l.length+gZ l:Nat)≤1000000000→∃ l' k',aC6 l k=some (k',l')∧True∧k≤k'∧k'≤k+13 * (l.length+gZ l:Nat)
def MO (l:List aX):Prop:=∀ k:Int,0≤k→k+13 * (l.length+iI l:Nat)≤1000000000→∃ l' k',aAq l k=some (k',l')∧True∧k≤k'∧k'≤k+13 * (l.length+iI l:Nat)
theorem bAz {l:List aB} (hl:l.length≤1048576) (hE:∀ y ∈ l,ME y.kids) (hQ:∀ y ∈ l,MQ y.sub):ME l:=by
  intro k h0 hk
  have hz:=tK l
  rw [tL]
  refine Exists.elim (aC8 (L:=fun k i m=>wF k i m) (z:=bL) (fun k m=>by rw [wF]; simp) l k hl ?_ h0 (by omega)) fun l' hx=>Exists.elim hx fun k' ⟨a1,a3,a4⟩=>⟨l',k',a1,trivial,a3,by omega⟩
  · intro y hy k h0 hk
    have hzE:=zE y
    obtain ⟨la,ka,b1,_,b3,b4⟩:=hE y hy (k+1+1+1+1+1+1+1+1) (by omega) (by omega)
    obtain ⟨lb,kb,c1,_,c3,c4⟩:=hQ y hy ka (by omega) (by omega)
    have n1:¬ ka<0:=by omega
    have n2:¬ kb<0:=by omega
    refine ⟨kb,aB.mk k (k+1) (decide (Int.tmod (k+1+1) 3=0)) ⟨k+1+1+1,k+1+1+1+1,mt (k+1+1+1+1+1)⟩ (mt (k+1+1+1+1+1+1)) (mt (k+1+1+1+1+1+1+1)) la lb,by omega,by omega,fun m i hi hm hg=>?_⟩
    · show wF k (i:Int) m=_
      rw [wF]
      simp (disch:=omega) only [dV,hi,decide_true,if_true,qX,hg,Option.bind_eq_bind,Option.bind_some,w1,zJ,b1,c1,Int.toNat_natCast]
      rfl
theorem bEe {l:List aZ} (hl:l.length≤1048576) (hE:∀ y ∈ l,ME y.expr.kids) (hQ:∀ y ∈ l,MQ y.expr.sub):MI l:=by
  intro k h0 hk
  have hz:iQ l=(l.map fC).sum:=by
    clear hE hQ hk hl
    induction l with
    | nil=>simp [iQ]
    | cons x l ih=>simp [iQ,ih]
  rw [aC0]
  refine Exists.elim (aC8 (L:=fun k i m=>wZ k i m) (z:=fC) (fun k m=>by rw [wZ]; simp) l k hl ?_ h0 (by omega)) fun l' hx=>Exists.elim hx fun k' ⟨a1,a3,a4⟩=>⟨l',k',a1,trivial,a3,by omega⟩
  · intro y hy k h0 hk
    have hzE:=zE y.expr
    have hzI:bL y.expr≤fC y:=by cases y; simp only [fC]; omega
    obtain ⟨la,ka,b1,_,b3,b4⟩:=hE y hy (k+1+1+1+1+1+1+1+1+1+1) (by omega) (by omega)
    obtain ⟨lb,kb,c1,_,c3,c4⟩:=hQ y hy ka (by omega) (by omega)
    have n1:¬ ka<0:=by omega
    have n2:¬ kb<0:=by omega
    refine ⟨kb+1,aZ.mk (decide (Int.tmod k 3=0)) (mt (k+1)) (aB.mk (k+1+1) (k+1+1+1) (decide (Int.tmod (k+1+1+1+1) 3=0)) ⟨k+1+1+1+1+1,k+1+1+1+1+1+1,mt (k+1+1+1+1+1+1+1)⟩ (mt (k+1+1+1+1+1+1+1+1)) (mt (k+1+1+1+1+1+1+1+1+1)) la lb) (mt kb),by omega,by omega,fun m i hi hm hg=>?_⟩
    · show wZ k (i:Int) m=_
      rw [wZ]
      simp (disch:=omega) only [dV,hi,decide_true,if_true,qX,hg,Option.bind_eq_bind,Option.bind_some,w1,zJ,b1,c1,Int.toNat_natCast]
      rfl
theorem bY7 {l:List aX} (hl:l.length≤1048576) (hE:∀ y ∈ l,ME y.expr.kids) (hQ:∀ y ∈ l,MQ y.expr.sub):MO l:=by
  intro k h0 hk
  have hz:iI l=(l.map fI).sum:=by
    clear hE hQ hk hl
    induction l with
    | nil=>simp [iI]
    | cons x l ih=>simp [iI,ih]
  rw [aAq]
  refine Exists.elim (aC8 (L:=fun k i m=>wS k i m) (z:=fI) (fun k m=>by rw [wS]; simp) l k hl ?_ h0 (by omega)) fun l' hx=>Exists.elim hx fun k' ⟨a1,a3,a4⟩=>⟨l',k',a1,trivial,a3,by omega⟩
  · intro y hy k h0 hk
    have hzE:=zE y.expr
    have hzI:bL y.expr≤fI y:=by cases y; simp only [fI]; omega
    obtain ⟨la,ka,b1,_,b3,b4⟩:=hE y hy (k+1+1+1+1+1+1+1+1) (by omega) (by omega)
    obtain ⟨lb,kb,c1,_,c3,c4⟩:=hQ y hy ka (by omega) (by omega)
    have n1:¬ ka<0:=by omega
    have n2:¬ kb<0:=by omega
    refine ⟨kb+1,aX.mk (aB.mk k (k+1) (decide (Int.tmod (k+1+1) 3=0)) ⟨k+1+1+1,k+1+1+1+1,mt (k+1+1+1+1+1)⟩ (mt (k+1+1+1+1+1+1)) (mt (k+1+1+1+1+1+1+1)) la lb) (decide (Int.tmod kb 3=0)),by omega,by omega,fun m i hi hm hg=>?_⟩
    · show wS k (i:Int) m=_
      rw [wS]
      simp (disch:=omega) only [dV,hi,decide_true,if_true,qX,hg,Option.bind_eq_bind,Option.bind_some,w1,zJ,b1,c1,Int.toNat_natCast]
      rfl
theorem bOy {l:List aR} (hl:l.length≤1048576) (hE:∀ y ∈ l,ME y.on_):MS l:=by
  intro k h0 hk
  have hz:gZ l=(l.map fD).sum:=by
    clear hE hk hl
    induction l with
    | nil=>simp [gZ]
    | cons x l ih=>simp [gZ,ih]
  rw [aC6]
  refine Exists.elim (aC8 (L:=fun k i m=>uG k i m) (z:=fD) (fun k m=>by rw [uG]; simp) l k hl ?_ h0 (by omega)) fun l' hx=>Exists.elim hx fun k' ⟨a1,a3,a4⟩=>⟨l',k',a1,trivial,a3,by omega⟩
  · intro y hy k h0 hk
    have hzS:y.on_.length+eB y.on_≤fD y:=by cases y; simp only [fD]; omega
    obtain ⟨la,ka,b1,_,b3,b4⟩:=hE y hy (k+1+1) (by omega) (by omega)
    have n1:¬ ka<0:=by omega
    refine ⟨ka,aR.mk (mt k) (mt (k+1)) la,by omega,by omega,fun m i hi hm hg=>?_⟩
    · show uG k (i:Int) m=_
      rw [uG]
      simp (disch:=omega) only [dV,hi,decide_true,if_true,qX,hg,Option.bind_eq_bind,Option.bind_some,w1,zJ,b1,Int.toNat_natCast]
      rfl
theorem aUd {l:List aJ} (hl:l.length≤1048576) (hI:∀ y ∈ l,MI y.items) (hS:∀ y ∈ l,MS y.from_) (hE:∀ y ∈ l,ME y.where_) (hO:∀ y ∈ l,MO y.order):MQ l:=by
  intro k h0 hk
  have hz:=aIo l
  rw [wR]
  refine Exists.elim (aC8 (L:=fun k i m=>wJ k i m) (z:=eU) (fun k m=>by rw [wJ]; simp) l k hl ?_ h0 (by omega)) fun l' hx=>Exists.elim hx fun k' ⟨a1,a3,a4⟩=>⟨l',k',a1,trivial,a3,by omega⟩
  · intro y hy k h0 hk
    have hzQ:=zQ y
    obtain ⟨la,ka,b1,_,b3,b4⟩:=hI y hy (k+1) (by omega) (by omega)
    obtain ⟨lb,kb,c1,_,c3,c4⟩:=hS y hy ka (by omega) (by omega)
    obtain ⟨lc,kc,d1,_,d3,d4⟩:=hE y hy kb (by omega) (by omega)
    obtain ⟨ld,kd,e1,_,e3,e4⟩:=hO y hy kc (by omega) (by omega)
    have n1:¬ ka<0:=by omega
    have n2:¬ kb<0:=by omega
    have n3:¬ kc<0:=by omega
    have n4:¬ kd<0:=by omega
    refine ⟨kd+1,aJ.mk (decide (Int.tmod k 3=0)) la lb lc ld kd,by omega,by omega,fun m i hi hm hg=>?_⟩
    · show wJ k (i:Int) m=_
      rw [wJ]
      simp (disch:=omega) only [dV,hi,decide_true,if_true,qX,hg,Option.bind_eq_bind,Option.bind_some,w1,zJ,b1,c1,d1,e1,Int.toNat_natCast]
      rfl
theorem bZe:∀ n:Nat,(∀ l:List aB,l.length+eB l≤n→n≤1048576→ME l)∧(∀ l:List aJ,l.length+jU l≤n→n≤1048576→MQ l):=by
  intro n
  induction n with
  | zero =>
    refine ⟨fun l h _=>?_,fun l h _=>?_⟩
    · have:l=[]:=List.eq_nil_of_length_eq_zero (by omega)
      subst this; exact bAz (by simp) (by simp) (by simp)
    · have:l=[]:=List.eq_nil_of_length_eq_zero (by omega)
      subst this; exact aUd (by simp) (by simp) (by simp) (by simp) (by simp)
  | succ n ih =>
    have hE:∀ l:List aB,l.length+eB l≤n+1→n+1≤1048576→ME l:=fun l h hn=>bAz (by omega) (fun y hy=>ih.1 _ (by have:=kE hy; have:=zE y; omega) (by omega)) fun y hy=>ih.2 _ (by have:=kE hy; have:=zE y; omega) (by omega)
    refine ⟨hE,fun l h hn=>aUd (by omega) (fun y hy=>?_) (fun y hy=>?_) (fun y hy=>?_) fun y hy=>?_⟩
    · have h1:=oW hy
      have h2:=zQ y
      exact bEe (by omega) (fun i hi=>ih.1 _ (by have:=aC2 hi; have:=zE i.expr; have:bL i.expr≤fC i:=(by cases i; simp only [fC]; omega); omega) (by omega)) fun i hi=>ih.2 _ (by have:=aC2 hi; have:=zE i.expr; have:bL i.expr≤fC i:=(by cases i; simp only [fC]; omega); omega) (by omega)
    · have h1:=oW hy
      have h2:=zQ y
      exact bOy (by omega) fun i hi=>ih.1 _ (by have:=aI1 hi; have:i.on_.length+eB i.on_≤fD i:=(by cases i; simp only [fD]; omega); omega) (by omega)
    · have h1:=oW hy
      have h2:=zQ y
      exact ih.1 _ (by omega) (by omega)
    · have h1:=oW hy
      have h2:=zQ y
      exact bY7 (by omega) (fun i hi=>ih.1 _ (by have:=aBf hi; have:=zE i.expr; have:bL i.expr≤fI i:=(by cases i; simp only [fI]; omega); omega) (by omega)) fun i hi=>ih.2 _ (by have:=aBf hi; have:=zE i.expr; have:bL i.expr≤fI i:=(by cases i; simp only [fI]; omega); omega) (by omega)
theorem bMl {α : Type} {LM : Int → Int → List α → Option (Int × List α)} {LH : List α → Int → Int → Option Int} {z : α → Nat} {B : Int}
    (hend:∀ k (m:List α),LM k (m.length:Int) m=some (k,m)) (hend2:∀ k (m:List α),LH m k (m.length:Int)=some k) :
    ∀ (r:Nat) (i:Nat) (m:List α) (k:Int),m.length=i+r→m.length≤2500000000000 →
    (∀ y ∈ m.drop i,∀ k,0≤k→k+13 * (1+z y:Nat)≤B→∃ k1 y',k≤k1∧k1≤k+13 * (1+z y:Nat) ∧
      (∀ (m:List α) (i:Nat),i<m.length→m.length≤2500000000000→m[i]?=some y→LM k (i:Int) m=LM k1 ((i+1:Nat):Int) (m.set i y')) ∧
      (∀ (M:List α) (i:Nat),i<M.length→M.length≤2500000000000→M[i]?=some y'→LH M k (i:Int)=LH M k1 ((i+1:Nat):Int))) →
    0≤k→k+13 * ((m.drop i).length+((m.drop i).map z).sum:Nat)≤B →
    ∃ m' k',LM k (i:Int) m=some (k',m')∧m'.length=m.length∧m'.take i=m.take i∧(∀ M:List α,M.length=m'.length→M.drop i=m'.drop i→LH M k (i:Int)=some k')∧k≤k'∧k'≤k+13 * ((m.drop i).length+((m.drop i).map z).sum:Nat):=by
  intro r
  induction r with
  | zero =>
    intro i m k hl _ _ h0 hk
    have e:i=m.length:=by omega
    subst e
    refine ⟨m,k,hend k m,rfl,rfl,fun M hM _=>?_,by omega,by simp⟩
    rw [← hM]; exact hend2 k M
  | succ r ih =>
    intro i m k hl hsm H h0 hk
    have hi:i<m.length:=by omega
    have hd:m.drop i=m[i]::m.drop (i+1):=List.drop_eq_getElem_cons hi
    rw [hd] at hk H
    simp only [List.length_cons,List.map_cons,List.sum_cons] at hk
    obtain ⟨k1,y',a1,a2,a3,a4⟩:=H m[i] List.mem_cons_self k h0 (by omega)
    have hset:(m.set i y').drop (i+1)=m.drop (i+1):=List.drop_set_of_lt (by omega)
    obtain ⟨m',k',b1,b2,b3,b4,b5,b6⟩:=ih (i+1) (m.set i y') k1 (by simp; omega) (by simpa using hsm) (by rw [hset]; exact fun y hy=>H y (List.mem_cons_of_mem _ hy)) (by omega) (by rw [hset]; omega)
    rw [hset] at b6
    rw [List.length_set] at b2
    have hm'i:m'[i]?=some y':=by
      have:(m'.take (i+1))[i]?=((m.set i y').take (i+1))[i]?:=by rw [b3]
      rw [List.getElem?_take_of_lt (by omega),List.getElem?_take_of_lt (by omega)] at this
      rw [this]; simp [hi]
    refine ⟨m',k',?_,b2,?_,fun M hM hMd=>?_,by omega,?_⟩
    · rw [a3 m i hi hsm (by simp [hi]),b1]
    · have:(m'.take (i+1)).take i=((m.set i y').take (i+1)).take i:=by rw [b3]
      rw [List.take_take,List.take_take,Nat.min_eq_left (by omega),List.take_set_of_le (Nat.le_refl _)] at this
      exact this
    · have hMi : M[i]? = some y' := by
        have:(M.drop i)[0]?=(m'.drop i)[0]?:=by rw [hMd]
        simpa [hm'i] using this
      rw [a4 M i (by omega) (by omega) hMi]
      refine b4 M hM ?_
      have:(M.drop i).drop 1=(m'.drop i).drop 1:=by rw [hMd]
      simpa [List.drop_drop,Nat.add_comm] using this
    · rw [hd]
      simp only [List.length_cons,List.map_cons,List.sum_cons]; omega
theorem bYo {α : Type} {LM : Int → Int → List α → Option (Int × List α)} {LH : List α → Int → Int → Option Int} {z : α → Nat} {B : Int}
    (hend:∀ k (m:List α),LM k (m.length:Int) m=some (k,m)) (hend2:∀ k (m:List α),LH m k (m.length:Int)=some k) (l:List α) (k:Int) (hl:l.length≤2500000000000)
    (H:∀ y ∈ l,∀ k,0≤k→k+13 * (1+z y:Nat)≤B→∃ k1 y',k≤k1∧k1≤k+13 * (1+z y:Nat) ∧
      (∀ (m:List α) (i:Nat),i<m.length→m.length≤2500000000000→m[i]?=some y→LM k (i:Int) m=LM k1 ((i+1:Nat):Int) (m.set i y')) ∧
      (∀ (M:List α) (i:Nat),i<M.length→M.length≤2500000000000→M[i]?=some y'→LH M k (i:Int)=LH M k1 ((i+1:Nat):Int)))
    (h0:0≤k) (hk:k+13 * (l.length+(l.map z).sum:Nat)≤B) :
    ∃ l' k',LM k 0 l=some (k',l')∧LH l' k 0=some k'∧k≤k'∧k'≤k+13 * (l.length+(l.map z).sum:Nat):=by
  obtain ⟨m',k',b1,b2,b3,b4,b5,b6⟩:=bMl (z:=z) (B:=B) hend hend2 l.length 0 l k (by omega) hl (by simpa using H) h0 (by simpa using hk)
  exact ⟨m',k',by simpa using b1,by simpa using b4 m' rfl rfl,b5,by simpa using b6⟩
theorem cBr {α : Type} {p : List α} {E : α → α → Option Bool} {L : Int → Option Bool} {S : List α → List α → Option Bool} (hp : p.length ≤ 2500000000000)
    (hS:S p p=if (!decide ((p.length:Int)=(p.length:Int)))=true then (some false) else L 0)
    (hL:∀ i:Nat,L (i:Int)=if (decide ((i:Int)<(p.length:Int)))=true then ((idx p (i:Int))>>=fun y1=>(idx p (i:Int))>>=fun y2=>(E y1 y2)>>=fun y3=>if (!y3)=true then (some false) else L (IntKind.wrap .i64 ((i:Int)+1))) else some true)
    (H:∀ y ∈ p,E y y=some true):S p p=some true:=by
  have key:∀ i,i≤p.length→L (i:Nat)=some true:=by
    refine jL ?_ ?_
    · rw [hL]; simp
    · intro i hi ih
      rw [hL]
      simp only [dV,fO hi,iG hi (by omega),H _ (List.getElem_mem hi),Option.bind_eq_bind,Option.bind_some,ih]
      simp
  rw [hS]
  have:=key 0 (by omega)
  simpa using this
theorem w1b {j:Int} (h0:0≤j) (h1:j≤1000000000000000):IntKind.wrap .i64 (j+1)=j+1:=iP (by omega) (by omega)
theorem Z4 {α : Type} {p : List α} {W : α → Option α} {by' : Nat} {d : α} {L : Int → List α → Option (List α)} {S : Option (List α)} (hp : p.length ≤ 1048576) (hby : by' ≤ 134217728)
    (hS:S=(mkG by' (p.length:Int) d>>=fun y=>L 0 y))
    (hL:∀ (i:Nat) b,L (i:Int) b=if (decide ((i:Int)<(p.length:Int)))=true then ((idx p (i:Int))>>=fun y2=>(W y2)>>=fun y3=>(idx b (i:Int))>>=fun _=>L (IntKind.wrap .i64 ((i:Int)+1)) (b.set ((i:Int)).toNat y3)) else some b)
    (H:∀ y ∈ p,W y=some y):S=some p:=by
  refine vY (W:=W) (L:=L) hp hby hS (fun i b=>?_) H
  rw [hL]
  split
  · cases idx p (i:Int) with
    | none=>rfl
    | some y =>
      simp only [Option.bind_eq_bind,Option.bind_some]
      cases W y with
      | none=>rfl
      | some z =>
        simp only [Option.bind_some]
        rw [qX]
        cases hb:b[i]? with
        | none=>rfl
        | some u =>
          have hi:i<b.length:=(List.getElem?_eq_some_iff.1 hb).1
          have:nS b (i:Int) z=some (b.set i z):=by unfold nS; rw [if_pos ⟨by omega,by simp; omega⟩]; simp
          simp only [Option.bind_some,this,Int.toNat_natCast]
  · rfl
theorem aJw {l:List aB} (hl:l.length≤1048576) (hE:∀ y ∈ l,oZ y.kids=some y.kids) (hQ:∀ y ∈ l,G5 y.sub=some y.sub):oZ l=some l :=
  Z4 (W:=lU) (by':=136) (L:=fun i b=>L8 l i b) hl (by omega) (by rw [oZ]) (fun i b=>by rw [L8]) fun y hy=>by rw [lU,hE y hy,hQ y hy]; cases y; simp [sH]
theorem aV2 {l:List aZ} (hl:l.length≤1048576) (hE:∀ y ∈ l,lU y.expr=some y.expr):O6 l=some l :=
  Z4 (W:=aBu) (by':=176) (L:=fun i b=>Q0 l i b) hl (by omega) (by rw [O6]) (fun i b=>by rw [Q0]) fun y hy=>by rw [aBu,hE y hy]; cases y; simp
theorem aYn {l:List aX} (hl:l.length≤1048576) (hE:∀ y ∈ l,lU y.expr=some y.expr):J4 l=some l :=
  Z4 (W:=aAv) (by':=144) (L:=fun i b=>T9 l i b) hl (by omega) (by rw [J4]) (fun i b=>by rw [T9]) fun y hy=>by rw [aAv,hE y hy]; cases y; simp
theorem bCk {l:List aR} (hl:l.length≤1048576) (hE:∀ y ∈ l,oZ y.on_=some y.on_):M4 l=some l :=
  Z4 (W:=U6) (by':=56) (L:=fun i b=>P9 l i b) hl (by omega) (by rw [M4]) (fun i b=>by rw [P9]) fun y hy=>by rw [U6,hE y hy]; cases y; simp
theorem bCc {q:aJ} (h1:O6 q.items=some q.items) (h2:M4 q.from_=some q.from_) (h3:oZ q.where_=some q.where_) (h4:J4 q.order=some q.order):uJ q=some q:=by
  rw [uJ,h1,h2,h3,h4]; cases q; simp
theorem aZl {l:List aJ} (hl:l.length≤1048576) (hQ:∀ y ∈ l,uJ y=some y):G5 l=some l :=
  Z4 (W:=uJ) (by':=112) (L:=fun i b=>M9 l i b) hl (by omega) (by rw [G5]) (fun i b=>by rw [M9]) hQ
theorem bFc:∀ n:Nat,(∀ l:List aB,l.length+eB l≤n→n≤1048576→oZ l=some l)∧(∀ l:List aJ,l.length+jU l≤n→n≤1048576→G5 l=some l)∧(∀ q:aJ,eU q≤n→n≤1048576→uJ q=some q):=by
  intro n
  induction n with
  | zero =>
    have e0:oZ []=some []:=aJw (by simp) (by simp) (by simp)
    refine ⟨fun l h _=>?_,fun l h _=>?_,fun q h _=>?_⟩
    · have:l=[]:=List.eq_nil_of_length_eq_zero (by omega)
      subst this; exact e0
    · have:l=[]:=List.eq_nil_of_length_eq_zero (by omega)
      subst this; exact aZl (by simp) (by simp)
    · have hq:=zQ q
      have h1:q.items=[]:=List.eq_nil_of_length_eq_zero (by omega)
      have h2:q.from_=[]:=List.eq_nil_of_length_eq_zero (by omega)
      have h3:q.where_=[]:=List.eq_nil_of_length_eq_zero (by omega)
      have h4:q.order=[]:=List.eq_nil_of_length_eq_zero (by omega)
      refine bCc ?_ ?_ ?_ ?_
      · rw [h1]; exact aV2 (by simp) (by simp)
      · rw [h2]; exact bCk (by simp) (by simp)
      · rw [h3]; exact e0
      · rw [h4]; exact aYn (by simp) (by simp)
  | succ n ih =>
    obtain ⟨i1,i2,i3⟩:=ih
    have X:∀ x:aB,bL x≤n→n+1≤1048576→lU x=some x:=fun x hx hn=>by
      have:=zE x
      rw [lU,i1 x.kids (by omega) (by omega),i2 x.sub (by omega) (by omega)]; cases x; simp [sH]
    have Q:∀ q:aJ,eU q≤n+1→n+1≤1048576→uJ q=some q:=fun q h hn=>by
      have hq:=zQ q
      refine bCc (aV2 (by omega) fun y hy=>X _ (by have:=aC2 hy; have:bL y.expr≤fC y:=(by cases y; simp only [fC]; omega); omega) hn) (bCk (by omega) fun y hy=>i1 _ (by have:=aI1 hy; have:y.on_.length+eB y.on_≤fD y:=(by cases y; simp only [fD]; omega); omega) (by omega)) ?_
        (aYn (by omega) fun y hy=>X _ (by have:=aBf hy; have:bL y.expr≤fI y:=(by cases y; simp only [fI]; omega); omega) hn)
      exact aJw (by omega) (fun y hy=>i1 _ (by have:=kE hy; have:=zE y; omega) (by omega)) fun y hy=>i2 _ (by have:=kE hy; have:=zE y; omega) (by omega)
    refine ⟨fun l h hn=>aJw (by omega) (fun y hy=>i1 _ (by have:=kE hy; have:=zE y; omega) (by omega)) fun y hy=>i2 _ (by have:=kE hy; have:=zE y; omega) (by omega),fun l h hn=>aZl (by omega) fun y hy=>Q y (by have:=oW hy; omega) hn,Q⟩
theorem aWf {o:Int} (h:1≤o∧o≤14):o=1∨o=2∨o=3∨o=4∨o=5∨o=6∨o=7∨o=8∨o=9∨o=10∨o=11∨o=12∨o=13∨o=14:=by omega
theorem cCg (o:Int):∃ n,aBl o=some n∧(iZ o 1 14>>=fun y1=>if y1=true then (idx ([0,1,2,4,4,4,4,4,4,5,6,6,7,7,7]:List Int) o>>=fun y2=>some y2) else uT)=some n∧0≤n∧n≤9:=by
  by_cases h:1≤o∧o≤14
  · rcases aWf h with rfl | rfl | rfl | rfl | rfl | rfl | rfl | rfl | rfl | rfl | rfl | rfl | rfl | rfl <;> exact ⟨_,rfl,rfl,by decide,by decide⟩
  · refine ⟨0,?_,?_,by decide,by decide⟩
    · unfold aBl uU aAd V3
      have e:∀ k:Int,1≤k→k≤14→decide (o=k)=false:=fun k h1 h2=>by simp; omega
      simp [e]
    · unfold iZ uT
      simp only [Option.bind_eq_bind,Option.bind_some]
      rw [if_neg]
      intro hh
      by_cases h1:1≤o
      · rw [if_pos (by simpa using h1)] at hh
        exact h ⟨h1,by simpa using hh⟩
      · rw [if_neg (by simpa using h1)] at hh
        simp at hh
theorem bA9 (x:aB):∃ n,E9 x=some n∧xZ x=some n∧0≤n∧n≤9:=by
  obtain ⟨k,o,no,v,q,nm,ks,sb⟩:=x
  obtain ⟨n,h1,h2,h3,h4⟩:=cCg o
  unfold E9 zV Q3 aCh xZ L9 xP
  simp only [h1,h2]
  by_cases k4:k=4
  · subst k4; exact ⟨n,by simp,by simp,h3,h4⟩
  by_cases k3:k=3
  · subst k3
    by_cases o15:o=15
    · subst o15; exact ⟨3,by simp,by simp,by omega,by omega⟩
    by_cases o16:o=16
    · subst o16; exact ⟨8,by simp,by simp,by omega,by omega⟩
    · exact ⟨0,by simp [o15,o16],by simp [o15,o16,uT],by omega,by omega⟩
  by_cases k5:k=5
  · subst k5; exact ⟨4,by simp,by simp,by omega,by omega⟩
  by_cases k6:k=6
  · subst k6; exact ⟨4,by simp,by simp,by omega,by omega⟩
  by_cases k7:k=7
  · subst k7; exact ⟨4,by simp,by simp,by omega,by omega⟩
  by_cases k8:k=8
  · subst k8; exact ⟨4,by simp,by simp,by omega,by omega⟩
  by_cases k1:k=1
  · subst k1; exact ⟨9,by simp,by simp,by omega,by omega⟩
  by_cases k2:k=2
  · subst k2; exact ⟨9,by simp,by simp,by omega,by omega⟩
  by_cases k9:k=9
  · subst k9; exact ⟨9,by simp,by simp,by omega,by omega⟩
  exact ⟨0,by simp [k1,k2,k3,k4,k5,k6,k7,k8,k9],by simp [k1,k2,k3,k4,k5,k6,k7,k8,k9,uT],by omega,by omega⟩
theorem bUg (x:aB) (i:Nat) (hi:i<x.kids.length) (hl:x.kids.length≤1048576):∃ n,aB3 x (i:Int)=some n∧X4 x (i:Int)=some n:=by
  obtain ⟨n,h1,h2,h3,h4⟩:=bA9 x
  have c1:¬ ((i:Int)<0):=by omega
  have c2:¬ ((x.kids.length:Int)≤(i:Int)):=by omega
  have c3:IntKind.wrap .i64 ((x.kids.length:Int) - 1)=(x.kids.length:Int) - 1:=iP (by omega) (by omega)
  have c4:(0:Int)≤(i:Int):=by omega
  have c5:(i:Int)≤(x.kids.length:Int) - 1:=by omega
  have c6:IntKind.wrap .i64 (n+1)=n+1:=iP (by omega) (by omega)
  unfold aB3 X4 iZ aA8 aA1
  simp only [h1,h2,c1,c2,c3,c4,c5,Option.bind_eq_bind,Option.bind_some]
  by_cases z:n=0
  · exact ⟨0,by simp [z],by simp [z]⟩
  by_cases e9:n=9
  · exact ⟨0,by simp [e9],by simp [e9]⟩
  by_cases k4:x.kind=4
  · by_cases e4:n=4
    · exact ⟨5,by simp [e4,k4],by simp [e4,k4]⟩
    · by_cases i0:i=0
      · subst i0
        have:IntKind.wrap .i64 n=n:=iP (by omega) (by omega)
        exact ⟨n,by simp [z,e9,e4,k4,this],by simp [z,e9,e4,k4]⟩
      · have hif:(if (1:Int)<(i:Int) then (1:Int) else (i:Int))=1:=by split <;> omega
        exact ⟨n+1,by simp only [hif]; simp [z,e9,e4,k4,c6],by simp [z,e9,e4,k4,i0,c6]⟩
  by_cases k3:x.kind=3
  · exact ⟨n,by simp [z,e9,k3],by simp [z,e9,k3]⟩
  by_cases k7:x.kind=7
  · by_cases i0:(0:Int)<(i:Int)
    · have i1:i≠0:=by omega
      exact ⟨1,by simp [z,e9,k7,i1],by simp [z,e9,k7,i1]⟩
    · exact ⟨5,by simp only [i0]; simp [z,e9,k7],by simp only [i0]; simp [z,e9,k7]⟩
  exact ⟨5,by simp [z,e9,k3,k4,k7],by simp [z,e9,k3,k4,k7]⟩
theorem bEj (x:aB) (i:Nat) (hi:i<x.kids.length) (hl:x.kids.length≤1048576):∃ b,aAj x (i:Int)=some b∧aAz x (i:Int)=some b:=by
  obtain ⟨n,h1,h2⟩:=bUg x i hi hl
  obtain ⟨m,g1,g2,_,_⟩:=bA9 x.kids[i]
  have c2:(i:Int)<(x.kids.length:Int):=by omega
  have c3:IntKind.wrap .i64 ((x.kids.length:Int) - 1)=(x.kids.length:Int) - 1:=iP (by omega) (by omega)
  have c4:(0:Int)≤(i:Int):=by omega
  have c5:(i:Int)≤(x.kids.length:Int) - 1:=by omega
  unfold aAj aAz iZ
  simp only [c2,c3,c4,c5,fO hi,h1,h2,decide_true,if_true,Option.bind_eq_bind,Option.bind_some]
  exact ⟨decide (m<n),by simp [g1],by simp [g2]⟩
theorem aJo {α:Type} (z:α→Nat) (l m:List α):((l++m).map z).sum=(l.map z).sum+(m.map z).sum:=by simp
theorem bB5 (q:aJ):(eD q).length+((eD q).map bL).sum≤eU q:=by
  have h:=zQ q
  have h1:∀ l:List aZ,(l.flatMap (fun i=>if i.star then [] else [i.expr])).length+((l.flatMap (fun i=>if i.star then [] else [i.expr])).map bL).sum≤l.length+iQ l:=by
    intro l
    induction l with
    | nil=>simp
    | cons x l ih =>
      rw [List.flatMap_cons,List.length_append,aJo]
      have h1:(if x.star=true then [] else [x.expr]).length+((if x.star=true then [] else [x.expr]).map bL).sum≤1+fC x:=by
        obtain ⟨a,b,c,d⟩:=x
        cases a <;> simp [fC] <;> omega
      simp only [List.length_cons,iQ]; omega
  have h2:∀ l:List aR,(l.flatMap (fun s=>s.on_)).length+((l.flatMap (fun s=>s.on_)).map bL).sum≤l.length+gZ l:=by
    intro l
    induction l with
    | nil=>simp
    | cons x l ih =>
      rw [List.flatMap_cons,List.length_append,aJo]
      obtain ⟨a,b,c⟩:=x
      simp only [List.length_cons,gZ,fD,tK]; omega
  have h3:∀ l:List aX,(l.flatMap (fun k=>[k.expr])).length+((l.flatMap (fun k=>[k.expr])).map bL).sum≤l.length+iI l:=by
    intro l
    induction l with
    | nil=>simp
    | cons x l ih =>
      rw [List.flatMap_cons,List.length_append,aJo]
      obtain ⟨a,b⟩:=x
      simp only [List.length_cons,List.length_nil,List.map_cons,List.map_nil,List.sum_cons,List.sum_nil,iI,fI]; omega
  have k1:=h1 q.items
  have k2:=h2 q.from_
  have k3:=h3 q.order
  have k4:=tK q.where_
  simp only [eD,List.length_append,aJo]
  omega
theorem aNg {α:Type} {d:α→Int}:∀ {p:List α} {b:Int},0≤b→(∀ y ∈ p,0≤d y)→b+(p.map d).sum≤4611686018427387904→p.foldl (fun b y=>IntKind.wrap .i64 (b+d y)) b=b+(p.map d).sum
  | [],b,_,_,_=>by simp
  | x::p,b,h0,h1,h2=>by
    simp only [List.map_cons,List.sum_cons] at h2 ⊢
    have hx:=h1 x (by simp)
    have hs:0≤(p.map d).sum:=by
      have:∀ l:List α,(∀ y ∈ l,0≤d y)→0≤(l.map d).sum:=by
        intro l
        induction l with
        | nil=>intro _; simp
        | cons a l ih=>intro h; simp only [List.map_cons,List.sum_cons]; have:=h a (by simp); have:=ih fun y hy=>h y (by simp [hy]); omega
      exact this p fun y hy=>h1 y (by simp [hy])
    rw [List.foldl_cons,iP (by omega) (by omega),aNg (by omega) (fun y hy=>h1 y (by simp [hy])) (by omega)]
    omega
theorem aDx {α:Type} {d:α→Int} {z:α→Nat}:∀ {p:List α},(∀ y ∈ p,0≤d y∧d y≤1+z y)→0≤(p.map d).sum∧(p.map d).sum≤p.length+(p.map z).sum
  | [],_=>by simp
  | x::p,h=>by
    have h1:=h x (by simp)
    have h2:=aDx (p:=p) fun y hy=>h y (by simp [hy])
    simp only [List.map_cons,List.sum_cons,List.length_cons]; omega
theorem aZh {α:Type} {d:α→Int} {z:α→Nat}:∀ {p:List α},(∀ y ∈ p,0≤d y∧d y≤z y)→0≤(p.map d).sum∧(p.map d).sum≤(p.map z).sum
  | [],_=>by simp
  | x::p,h=>by
    have h1:=h x (by simp)
    have h2:=aZh (p:=p) fun y hy=>h y (by simp [hy])
    simp only [List.map_cons,List.sum_cons]; omega
theorem yL (s:List UInt8):∃ b,oQ s=some b∧rX s=some b:=by
  unfold rX oQ iZ
  exact ⟨_,rfl,rfl⟩
theorem V6 (s:List UInt8):∃ b,nC s=some b∧wB s=some b:=by
  obtain ⟨b,h1,h2⟩:=yL s
  unfold nC wB
  by_cases h:s=[]
  · simp [h]
  · simp [h,h1,h2]
theorem aXg (x:cZ):A8 x=Q5 x∧∃ b,Q5 x=some b:=by
  unfold A8 Q5 iZ
  simp only [Option.bind_eq_bind,Option.bind_some]
  by_cases h0:x.kind=0
  · simp [h0]
  by_cases h1:x.kind=1
  · simp [h1]
  by_cases h2:x.kind=2
  · simp [h2]
  by_cases h3:x.kind=3
  · by_cases n0:x.num=0
    · simp [h3,n0]
    by_cases n1:x.num=1
    · simp [h3,n1]
    have e:(if decide (0≤x.num)=true then decide (x.num≤1) else false)=false:=by
      by_cases p:0≤x.num
      · simp [p]; omega
      · simp [p]
    rw [e]
    simp [h3,n0,n1]
  · simp [h0,h1,h2,h3]
theorem aPj (x:cZ):∃ b,uN x=some b∧N9 x=some b:=by
  obtain ⟨h1,b,h2⟩:=aXg x
  unfold uN N9
  rw [h1,h2]
  cases b <;> simp
def aBa (x:aB):Option Bool:=(xG x.kids)>>=fun (y13:Bool)=>(if (true&&(y13==true))=true then zG x.sub else some default)>>=fun (y14:Bool)=>(some (if y13=true then (!y14) else false))>>=fun (y15:Bool)=>some y15
theorem orM {β:Type} {b:Bool} {m:Option Bool} {K:Bool→Option β}:((if (true&&(b==false))=true then m else some (default:Bool)).bind fun y=>(some (if b=true then true else y)).bind K)=((if b=true then some true else m).bind K):=by cases b <;> cases m <;> rfl
theorem orS (b c:Bool):(if b=true then some true else some c)=some (b||c):=by cases b <;> rfl
theorem orB (b c:Bool):(if b=true then true else c)=(b||c):=by cases b <;> rfl
theorem aXa (b c:Bool):(if b=true then c else false)=(b&&c):=by cases b <;> rfl
theorem bJo (x : aB) (f : iM) (ok : Bool) (hf : D9 x = some (f, ok)) : pV x =
    if (ok&&!(!f.op&&!decide (x.op=0))&&!(!f.not_&&x.not_)&&!(!f.value&&!((decide (x.value.kind=0))&&((decide (x.value.num=0))&&((decide (x.value.text=[]))&&true))))&&!(!f.name&&(!decide (x.qual=[])||!decide (x.name=[])))&&!(decide ((x.kids.length:Int)<f.least)||decide (f.most<(x.kids.length:Int))||!decide ((x.sub.length:Int)=f.subs)))=true then aBa x else some false:=by
  rw [pV,hf]
  simp only [Option.bind_eq_bind]
  rw [show ∀ K:iM×Bool→Option Bool,(some (f,ok)).bind K=K (f,ok) from fun _=>rfl]
  simp only [orM]
  simp only [aXa,orB,orS]
  simp only [Option.bind_some,aBa,Option.bind_eq_bind]
  generalize ((decide (x.value.kind=0))&&((decide (x.value.num=0))&&((decide (x.value.text=[]))&&true)))=zv
  generalize (!f.op&&!decide (x.op=0))=p1
  generalize (!f.not_&&x.not_)=p2
  generalize (!f.value&&!zv)=p3
  generalize (!decide (x.qual=[])||!decide (x.name=[]))=p4
  generalize f.name=fm
  generalize (decide ((x.kids.length:Int)<f.least)||decide (f.most<(x.kids.length:Int))||!decide ((x.sub.length:Int)=f.subs))=l3
  cases ok <;> cases p1 <;> cases p2 <;> cases p3 <;> cases fm <;> cases p4 <;> cases l3 <;> simp
def zvE (x:aB):Bool:=((decide (x.value.kind=0))&&((decide (x.value.num=0))&&((decide (x.value.text=[]))&&true)))
theorem aR2 (x : aB) : F5 x = (if ((!decide (x.kind = 2) && (!decide (x.qual = []) || !decide (x.name = []))) || (!decide (x.kind = 1) && !zvE x)) = true then some false else
    if ((!decide (x.kind=3)&&!decide (x.kind=4))&&!decide (x.op=0)||(x.not_&&!(decide (5≤x.kind)&&decide (x.kind≤8))))=true then some false else
    (if (decide (x.kind=1))=true then ((uN x.value)>>=fun (y10:Bool)=>some (y10&&decide ((IntKind.wrap .i64 ((x.kids.length:Int)+(x.sub.length:Int)))=0)))
     else if (decide (x.kind=2))=true then ((oQ x.name)>>=fun (y12:Bool)=>(if y12=true then nC x.qual else some false)>>=fun (y14:Bool)=>some (y14&&decide ((IntKind.wrap .i64 ((x.kids.length:Int)+(x.sub.length:Int)))=0)))
     else some (if x.kind=3 then (decide (x.op=15)||decide (x.op=16))&&decide ((x.kids.length:Int)=1)&&decide ((x.sub.length:Int)=0)
      else if x.kind=4 then (decide (1≤x.op)&&decide (x.op≤14))&&decide ((x.kids.length:Int)=2)&&decide ((x.sub.length:Int)=0)
      else if x.kind=5 then decide ((x.kids.length:Int)=1)&&decide ((x.sub.length:Int)=0)
      else if x.kind=6 then decide ((x.kids.length:Int)=3)&&decide ((x.sub.length:Int)=0)
      else if x.kind=7 then (decide (2≤(x.kids.length:Int))&&decide ((x.kids.length:Int)≤9))&&decide ((x.sub.length:Int)=0)
      else if x.kind=8 then decide ((x.kids.length:Int)=1)&&decide ((x.sub.length:Int)=1)
      else if x.kind=9 then decide ((x.kids.length:Int)=0)&&decide ((x.sub.length:Int)=1)
      else false))):=by
  unfold F5 iZ
  simp only [Option.bind_eq_bind]
  simp only [Option.bind_some]
  simp only [aXa,orB]
  obtain ⟨k,o,no,v,q,nm,ks,sb⟩:=x
  obtain ⟨bl,l1,l2⟩:=aPj v
  obtain ⟨bn,n1,n2⟩:=yL nm
  obtain ⟨bq,q1,q2⟩:=V6 q
  have hz:zvE ⟨k,o,no,v,q,nm,ks,sb⟩=((decide (v.kind=0))&&((decide (v.num=0))&&((decide (v.text=[]))&&true))):=rfl
  simp only [l1,n1,q1,hz,Option.bind_some]
  generalize ((decide (v.kind=0))&&((decide (v.num=0))&&((decide (v.text=[]))&&true)))=zv
  generalize decide (q=[])=q0
  generalize decide (nm=[])=n0
  by_cases k1:k=1
  · subst k1; cases q0 <;> cases n0 <;> cases no <;> by_cases o0:o=0 <;> cases bl <;> simp [o0]
  by_cases k2:k=2
  · subst k2; cases zv <;> cases no <;> by_cases o0:o=0 <;> cases bn <;> simp [o0]
  by_cases k3:k=3
  · subst k3; cases q0 <;> cases n0 <;> cases zv <;> cases no <;> simp
  by_cases k4:k=4
  · subst k4; cases q0 <;> cases n0 <;> cases zv <;> cases no <;> simp
  have kk:¬ (k=3∨k=4):=by omega
  by_cases k5:k=5
  · subst k5; cases q0 <;> cases n0 <;> cases zv <;> cases no <;> by_cases o0:o=0 <;> simp [o0]
  by_cases k6:k=6
  · subst k6; cases q0 <;> cases n0 <;> cases zv <;> cases no <;> by_cases o0:o=0 <;> simp [o0]
  by_cases k7:k=7
  · subst k7; cases q0 <;> cases n0 <;> cases zv <;> cases no <;> by_cases o0:o=0 <;> simp [o0]
  by_cases k8:k=8
  · subst k8; cases q0 <;> cases n0 <;> cases zv <;> cases no <;> by_cases o0:o=0 <;> simp [o0]
  by_cases k9:k=9
  · subst k9; cases q0 <;> cases n0 <;> cases zv <;> cases no <;> by_cases o0:o=0 <;> simp [o0]
  have kr:(decide (5≤k)&&decide (k≤8))=false:=by
    by_cases h:5≤k
    · have:¬ k≤8:=by omega
      simp [this]
    · simp [h]
  cases q0 <;> cases n0 <;> cases zv <;> cases no <;> by_cases o0:o=0 <;> simp [o0,k1,k2,k3,k4,k5,k6,k7,k8,k9]
theorem cAm (x : aB) (bl bc : Bool) (h1 : N9 x.value = some bl) (h2 : (oQ x.name >>= fun (y12 : Bool) => (if y12 = true then nC x.qual else some false)) = some bc) : D9 x = some (
    if x.kind=1 then (⟨false,false,true,false,0,0,0⟩,bl)
    else if x.kind=2 then (⟨false,false,false,true,0,0,0⟩,bc)
    else if x.kind=3 then (⟨true,false,false,false,1,1,0⟩,decide (x.op=15)||decide (x.op=16))
    else if x.kind=4 then (⟨true,false,false,false,2,2,0⟩,decide (1≤x.op)&&decide (x.op≤14))
    else if x.kind=5 then (⟨false,true,false,false,1,1,0⟩,true)
    else if x.kind=6 then (⟨false,true,false,false,3,3,0⟩,true)
    else if x.kind=7 then (⟨false,true,false,false,2,9,0⟩,true)
    else if x.kind=8 then (⟨false,true,false,false,1,1,1⟩,true)
    else if x.kind=9 then (⟨false,false,false,false,0,0,1⟩,true)
    else (⟨false,false,false,false,0,0,0⟩,false)):=by
  obtain ⟨k,o,no,v,q,nm,ks,sb⟩:=x
  obtain ⟨bn,n1,n2⟩:=yL nm
  obtain ⟨bo,o1,o2⟩:=yL q
  unfold D9
  dsimp only at h1 h2 ⊢
  have h3:((if ((true&&(bn==true))&&((decide (q=[]))==false))=true then rX q else some default).bind fun (y3:Bool)=>(if (true&&(bn==true))=true then some (if (decide (q=[]))=true then true else y3) else some default).bind fun (y4:Bool)=>(some (if bn=true then y4 else false)).bind fun y5=>some ((iM.mk false false false true 0 0 0),y5))=some ((iM.mk false false false true 0 0 0),bc):=by
    unfold nC at h2
    rw [n1,o1] at h2
    rw [o2]
    cases bn
    · simp at h2; simp [h2]
    · by_cases q0:q=[]
      · simp [q0] at h2; simp [q0,h2]
      · simp [q0] at h2; simp [q0,h2]
  simp only [h1,n2,Option.bind_eq_bind,Option.bind_some]
  by_cases k1:k=1
  · simp [k1]
  by_cases k2:k=2
  · subst k2; simp only [Option.bind_some] at h3; simpa using h3
  by_cases k3:k=3
  · simp [k3]
  by_cases k4:k=4
  · simp [k4]
  by_cases k5:k=5
  · simp [k5]
  by_cases k6:k=6
  · simp [k6]
  by_cases k7:k=7
  · simp [k7]
  by_cases k8:k=8
  · simp [k8]
  by_cases k9:k=9
  · simp [k9]
  simp [k1,k2,k3,k4,k5,k6,k7,k8,k9]
theorem bRe (x:aB) (hk:x.kids.length≤1048576) (hs:x.sub.length≤1048576):∃ b,F5 x=some b∧(pV x=if b=true then aBa x else some false)∧(b=true→x.sub.length≤1):=by
  obtain ⟨bl,l1,l2⟩:=aPj x.value
  obtain ⟨bn,n1,n2⟩:=yL x.name
  obtain ⟨bq,q1,q2⟩:=V6 x.qual
  have hc:(oQ x.name>>=fun (y12:Bool)=>(if y12=true then nC x.qual else some false))=some (bn&&bq):=by
    rw [n1,q1]; cases bn <;> rfl
  have hw:IntKind.wrap .i64 ((x.kids.length:Int)+(x.sub.length:Int))=(x.kids.length:Int)+(x.sub.length:Int):=iP (by omega) (by omega)
  have hF:=cAm x bl (bn&&bq) l2 hc
  obtain ⟨f,ok,hfo⟩:∃ f ok,D9 x=some (f,ok):=⟨_,_,hF⟩
  have hi:=bJo x f ok hfo
  rw [hfo] at hF
  have hp:=aR2 x
  rw [l1,hw] at hp
  have hc2:((oQ x.name)>>=fun (y12:Bool)=>(if y12=true then nC x.qual else some false)>>=fun (y14:Bool)=>some (y14&&decide ((x.kids.length:Int)+(x.sub.length:Int)=0)))=some ((bn&&bq)&&decide ((x.kids.length:Int)+(x.sub.length:Int)=0)):=by
    rw [n1,q1]; cases bn <;> rfl
  rw [hc2] at hp
  rw [hp,hi]
  have hz:((decide (x.value.kind=0))&&((decide (x.value.num=0))&&((decide (x.value.text=[]))&&true)))=zvE x:=rfl
  rw [hz]
  obtain ⟨k,o,no,v,q,nm,ks,sb⟩:=x
  generalize zvE ⟨k,o,no,v,q,nm,ks,sb⟩=zv
  dsimp only at hk hs hF ⊢
  generalize decide (q=[])=q0
  generalize decide (nm=[])=n0
  generalize (bn&&bq)=bc at hF ⊢
  clear hi hp hc hc2 hw hz l1 l2 n1 n2 q1 q2 hfo
  generalize aBa _=R
  have b2i:∀ (a b:Bool),a=b→∀ (c:Prop),(a=true→c)→∃ b',(some a:Option Bool)=some b'∧(if b=true then R else some false)=(if b'=true then R else some false)∧(b'=true→c):=by
    rintro a b rfl c h; exact ⟨a,rfl,rfl,h⟩
  have lt0:decide ((ks.length:Int)<0)=false:=by simp
  have hif:∀ (a b:Bool) (X:Bool),(if a=true then some false else if b=true then some false else some X)=some (!a&&(!b&&X)):=by intro a b X; cases a <;> cases b <;> rfl
  have e2:(decide ((0:Int)<(ks.length:Int))||!decide ((sb.length:Int)=0))=!decide ((ks.length:Int)+(sb.length:Int)=0):=by rw [Bool.eq_iff_iff]; simp only [Bool.or_eq_true,Bool.not_eq_true',decide_eq_true_eq,decide_eq_false_iff_not]; omega
  have eN:∀ n:Int,(decide ((ks.length:Int)<n)||decide (n<(ks.length:Int)))=!decide ((ks.length:Int)=n):=fun n=>by rw [Bool.eq_iff_iff]; simp only [Bool.or_eq_true,Bool.not_eq_true',decide_eq_true_eq,decide_eq_false_iff_not]; omega
  have e4:(decide ((ks.length:Int)<2)||decide ((9:Int)<(ks.length:Int)))=!(decide (2≤(ks.length:Int))&&decide ((ks.length:Int)≤9)):=by rw [Bool.eq_iff_iff]; simp only [Bool.or_eq_true,Bool.not_eq_true',Bool.and_eq_false_iff,decide_eq_true_eq,decide_eq_false_iff_not]; omega
  have e0:decide ((0:Int)<(ks.length:Int))=!decide ((ks.length:Int)=0):=by rw [Bool.eq_iff_iff]; simp only [Bool.not_eq_true',decide_eq_true_eq,decide_eq_false_iff_not]; omega
  by_cases k1:k=1
  · subst k1
    simp only [Int.reduceEq,if_true,if_false,Option.some.injEq,Prod.mk.injEq] at hF
    obtain ⟨rfl,hok⟩:=hF
    rw [hok]
    simp only [Int.reduceEq,decide_true,decide_false,Bool.not_false,Bool.not_true,Bool.true_and,Bool.false_and,Bool.and_true,if_true,if_false,Bool.false_eq_true,Bool.or_false,Option.bind_eq_bind,Option.bind_some,Int.reduceLE]
    try dsimp only
    try simp only [Int.reduceEq,decide_true,decide_false,Bool.not_false,Bool.not_true,Bool.true_and,Bool.false_and,Bool.and_true,Bool.and_false,if_true,if_false,Bool.false_eq_true,Bool.or_false,Bool.false_or,Bool.true_or,Bool.or_true,reduceIte,Option.bind_eq_bind,Option.bind_some,Int.reduceLE,Int.reduceLT]
    simp only [lt0,Bool.false_or,e2,hif]
    try simp only [e0]
    refine b2i _ _ ?_ _ ?_
    · generalize decide ((ks.length:Int)+(sb.length:Int)=0)=t0
      generalize decide ((sb.length:Int)=0)=s0
      generalize decide ((sb.length:Int)=1)=s1
      generalize decide (o=0)=o0
      generalize decide (o=15)=o15
      generalize decide (o=16)=o16
      generalize decide (1≤o)=oa
      generalize decide (o≤14)=ob
      generalize decide ((ks.length:Int)=0)=c0
      generalize decide ((ks.length:Int)=1)=c1
      generalize decide ((ks.length:Int)=2)=c2
      generalize decide ((ks.length:Int)=3)=c3
      generalize (decide (2≤(ks.length:Int))&&decide ((ks.length:Int)≤9))=c29
      cases q0 <;> cases n0 <;> cases o0 <;> cases no <;> cases bl <;> cases t0 <;> rfl
    · intro h
      simp only [Bool.and_eq_true,decide_eq_true_eq] at h
      omega
  by_cases k2:k=2
  · subst k2
    simp only [Int.reduceEq,if_true,if_false,Option.some.injEq,Prod.mk.injEq] at hF
    obtain ⟨rfl,hok⟩:=hF
    rw [hok]
    simp only [Int.reduceEq,decide_true,decide_false,Bool.not_false,Bool.not_true,Bool.true_and,Bool.false_and,Bool.and_true,if_true,if_false,Bool.false_eq_true,Bool.false_or,Option.bind_eq_bind,Option.bind_some,Int.reduceLE]
    try dsimp only
    try simp only [Int.reduceEq,decide_true,decide_false,Bool.not_false,Bool.not_true,Bool.true_and,Bool.false_and,Bool.and_true,Bool.and_false,if_true,if_false,Bool.false_eq_true,Bool.or_false,Bool.false_or,Bool.true_or,Bool.or_true,reduceIte,Option.bind_eq_bind,Option.bind_some,Int.reduceLE,Int.reduceLT]
    simp only [lt0,Bool.false_or,e2,hif]
    try simp only [e0]
    refine b2i _ _ ?_ _ ?_
    · generalize decide ((ks.length:Int)+(sb.length:Int)=0)=t0
      generalize decide ((sb.length:Int)=0)=s0
      generalize decide ((sb.length:Int)=1)=s1
      generalize decide (o=0)=o0
      generalize decide (o=15)=o15
      generalize decide (o=16)=o16
      generalize decide (1≤o)=oa
      generalize decide (o≤14)=ob
      generalize decide ((ks.length:Int)=0)=c0
      generalize decide ((ks.length:Int)=1)=c1
      generalize decide ((ks.length:Int)=2)=c2
      generalize decide ((ks.length:Int)=3)=c3
      generalize (decide (2≤(ks.length:Int))&&decide ((ks.length:Int)≤9))=c29
      cases zv <;> cases o0 <;> cases no <;> cases bc <;> cases t0 <;> rfl
    · intro h
      simp only [Bool.and_eq_true,decide_eq_true_eq] at h
      omega
  by_cases k3:k=3
  · subst k3
    simp only [Int.reduceEq,if_true,if_false,Option.some.injEq,Prod.mk.injEq] at hF
    obtain ⟨rfl,hok⟩:=hF
    rw [hok]
    simp only [Int.reduceEq,decide_true,decide_false,Bool.not_false,Bool.not_true,Bool.true_and,Bool.false_and,Bool.and_true,if_true,if_false,Bool.false_eq_true,Bool.false_or,Option.bind_eq_bind,Option.bind_some,Int.reduceLE]
    try dsimp only
    try simp only [Int.reduceEq,decide_true,decide_false,Bool.not_false,Bool.not_true,Bool.true_and,Bool.false_and,Bool.and_true,Bool.and_false,if_true,if_false,Bool.false_eq_true,Bool.or_false,Bool.false_or,Bool.true_or,Bool.or_true,reduceIte,Option.bind_eq_bind,Option.bind_some,Int.reduceLE,Int.reduceLT]
    simp only [eN,hif]
    try simp only [e0]
    refine b2i _ _ ?_ _ ?_
    · generalize decide ((ks.length:Int)+(sb.length:Int)=0)=t0
      generalize decide ((sb.length:Int)=0)=s0
      generalize decide ((sb.length:Int)=1)=s1
      generalize decide (o=0)=o0
      generalize decide (o=15)=o15
      generalize decide (o=16)=o16
      generalize decide (1≤o)=oa
      generalize decide (o≤14)=ob
      generalize decide ((ks.length:Int)=0)=c0
      generalize decide ((ks.length:Int)=1)=c1
      generalize decide ((ks.length:Int)=2)=c2
      generalize decide ((ks.length:Int)=3)=c3
      generalize (decide (2≤(ks.length:Int))&&decide ((ks.length:Int)≤9))=c29
      cases q0 <;> cases n0 <;> cases zv <;> cases no <;> cases o15 <;> cases o16 <;> cases c1 <;> cases s0 <;> rfl
    · intro h
      simp only [Bool.and_eq_true,decide_eq_true_eq] at h
      omega
  by_cases k4:k=4
  · subst k4
    simp only [Int.reduceEq,if_true,if_false,Option.some.injEq,Prod.mk.injEq] at hF
    obtain ⟨rfl,hok⟩:=hF
    rw [hok]
    simp only [Int.reduceEq,decide_true,decide_false,Bool.not_false,Bool.not_true,Bool.true_and,Bool.false_and,Bool.and_true,Bool.and_false,if_true,if_false,Bool.false_eq_true,Bool.false_or,Option.bind_eq_bind,Option.bind_some,Int.reduceLE]
    try dsimp only
    try simp only [Int.reduceEq,decide_true,decide_false,Bool.not_false,Bool.not_true,Bool.true_and,Bool.false_and,Bool.and_true,Bool.and_false,if_true,if_false,Bool.false_eq_true,Bool.or_false,Bool.false_or,Bool.true_or,Bool.or_true,reduceIte,Option.bind_eq_bind,Option.bind_some,Int.reduceLE,Int.reduceLT]
    simp only [eN,hif]
    try simp only [e0]
    refine b2i _ _ ?_ _ ?_
    · generalize decide ((ks.length:Int)+(sb.length:Int)=0)=t0
      generalize decide ((sb.length:Int)=0)=s0
      generalize decide ((sb.length:Int)=1)=s1
      generalize decide (o=0)=o0
      generalize decide (o=15)=o15
      generalize decide (o=16)=o16
      generalize decide (1≤o)=oa
      generalize decide (o≤14)=ob
      generalize decide ((ks.length:Int)=0)=c0
      generalize decide ((ks.length:Int)=1)=c1
      generalize decide ((ks.length:Int)=2)=c2
      generalize decide ((ks.length:Int)=3)=c3
      generalize (decide (2≤(ks.length:Int))&&decide ((ks.length:Int)≤9))=c29
      cases q0 <;> cases n0 <;> cases zv <;> cases no <;> cases oa <;> cases ob <;> cases c2 <;> cases s0 <;> rfl
    · intro h
      simp only [Bool.and_eq_true,decide_eq_true_eq] at h
      omega
  by_cases k5:k=5
  · subst k5
    simp only [Int.reduceEq,if_true,if_false,Option.some.injEq,Prod.mk.injEq] at hF
    obtain ⟨rfl,hok⟩:=hF
    rw [hok]
    simp only [Int.reduceEq,decide_true,decide_false,Bool.not_false,Bool.not_true,Bool.true_and,Bool.false_and,Bool.and_true,Bool.and_false,if_true,if_false,Bool.false_eq_true,Bool.or_false,Option.bind_eq_bind,Option.bind_some,Int.reduceLE]
    try dsimp only
    try simp only [Int.reduceEq,decide_true,decide_false,Bool.not_false,Bool.not_true,Bool.true_and,Bool.false_and,Bool.and_true,Bool.and_false,if_true,if_false,Bool.false_eq_true,Bool.or_false,Bool.false_or,Bool.true_or,Bool.or_true,reduceIte,Option.bind_eq_bind,Option.bind_some,Int.reduceLE,Int.reduceLT]
    simp only [eN,hif]
    try simp only [e0]
    refine b2i _ _ ?_ _ ?_
    · generalize decide ((ks.length:Int)+(sb.length:Int)=0)=t0
      generalize decide ((sb.length:Int)=0)=s0
      generalize decide ((sb.length:Int)=1)=s1
      generalize decide (o=0)=o0
      generalize decide (o=15)=o15
      generalize decide (o=16)=o16
      generalize decide (1≤o)=oa
      generalize decide (o≤14)=ob
      generalize decide ((ks.length:Int)=0)=c0
      generalize decide ((ks.length:Int)=1)=c1
      generalize decide ((ks.length:Int)=2)=c2
      generalize decide ((ks.length:Int)=3)=c3
      generalize (decide (2≤(ks.length:Int))&&decide ((ks.length:Int)≤9))=c29
      cases q0 <;> cases n0 <;> cases zv <;> cases no <;> cases o0 <;> cases c1 <;> cases s0 <;> rfl
    · intro h
      simp only [Bool.and_eq_true,decide_eq_true_eq] at h
      omega
  by_cases k6:k=6
  · subst k6
    simp only [Int.reduceEq,if_true,if_false,Option.some.injEq,Prod.mk.injEq] at hF
    obtain ⟨rfl,hok⟩:=hF
    rw [hok]
    simp only [Int.reduceEq,decide_true,decide_false,Bool.not_false,Bool.not_true,Bool.true_and,Bool.false_and,Bool.and_true,Bool.and_false,if_true,if_false,Bool.false_eq_true,Bool.or_false,Option.bind_eq_bind,Option.bind_some,Int.reduceLE]
    try dsimp only
    try simp only [Int.reduceEq,decide_true,decide_false,Bool.not_false,Bool.not_true,Bool.true_and,Bool.false_and,Bool.and_true,Bool.and_false,if_true,if_false,Bool.false_eq_true,Bool.or_false,Bool.false_or,Bool.true_or,Bool.or_true,reduceIte,Option.bind_eq_bind,Option.bind_some,Int.reduceLE,Int.reduceLT]
    simp only [eN,hif]
    try simp only [e0]
    refine b2i _ _ ?_ _ ?_
    · generalize decide ((ks.length:Int)+(sb.length:Int)=0)=t0
      generalize decide ((sb.length:Int)=0)=s0
      generalize decide ((sb.length:Int)=1)=s1
      generalize decide (o=0)=o0
      generalize decide (o=15)=o15
      generalize decide (o=16)=o16
      generalize decide (1≤o)=oa
      generalize decide (o≤14)=ob
      generalize decide ((ks.length:Int)=0)=c0
      generalize decide ((ks.length:Int)=1)=c1
      generalize decide ((ks.length:Int)=2)=c2
      generalize decide ((ks.length:Int)=3)=c3
      generalize (decide (2≤(ks.length:Int))&&decide ((ks.length:Int)≤9))=c29
      cases q0 <;> cases n0 <;> cases zv <;> cases no <;> cases o0 <;> cases c3 <;> cases s0 <;> rfl
    · intro h
      simp only [Bool.and_eq_true,decide_eq_true_eq] at h
      omega
  by_cases k7:k=7
  · subst k7
    simp only [Int.reduceEq,if_true,if_false,Option.some.injEq,Prod.mk.injEq] at hF
    obtain ⟨rfl,hok⟩:=hF
    rw [hok]
    simp only [Int.reduceEq,decide_true,decide_false,Bool.not_false,Bool.not_true,Bool.true_and,Bool.false_and,Bool.and_true,Bool.and_false,if_true,if_false,Bool.false_eq_true,Bool.or_false,Option.bind_eq_bind,Option.bind_some,Int.reduceLE]
    try dsimp only
    try simp only [Int.reduceEq,decide_true,decide_false,Bool.not_false,Bool.not_true,Bool.true_and,Bool.false_and,Bool.and_true,Bool.and_false,if_true,if_false,Bool.false_eq_true,Bool.or_false,Bool.false_or,Bool.true_or,Bool.or_true,reduceIte,Option.bind_eq_bind,Option.bind_some,Int.reduceLE,Int.reduceLT]
    simp only [e4,hif]
    try simp only [e0]
    refine b2i _ _ ?_ _ ?_
    · generalize decide ((ks.length:Int)+(sb.length:Int)=0)=t0
      generalize decide ((sb.length:Int)=0)=s0
      generalize decide ((sb.length:Int)=1)=s1
      generalize decide (o=0)=o0
      generalize decide (o=15)=o15
      generalize decide (o=16)=o16
      generalize decide (1≤o)=oa
      generalize decide (o≤14)=ob
      generalize decide ((ks.length:Int)=0)=c0
      generalize decide ((ks.length:Int)=1)=c1
      generalize decide ((ks.length:Int)=2)=c2
      generalize decide ((ks.length:Int)=3)=c3
      generalize (decide (2≤(ks.length:Int))&&decide ((ks.length:Int)≤9))=c29
      cases q0 <;> cases n0 <;> cases zv <;> cases no <;> cases o0 <;> cases c29 <;> cases s0 <;> rfl
    · intro h
      simp only [Bool.and_eq_true,decide_eq_true_eq] at h
      omega
  by_cases k8:k=8
  · subst k8
    simp only [Int.reduceEq,if_true,if_false,Option.some.injEq,Prod.mk.injEq] at hF
    obtain ⟨rfl,hok⟩:=hF
    rw [hok]
    simp only [Int.reduceEq,decide_true,decide_false,Bool.not_false,Bool.not_true,Bool.true_and,Bool.false_and,Bool.and_true,Bool.and_false,if_true,if_false,Bool.false_eq_true,Bool.or_false,Option.bind_eq_bind,Option.bind_some,Int.reduceLE]
    try dsimp only
    try simp only [Int.reduceEq,decide_true,decide_false,Bool.not_false,Bool.not_true,Bool.true_and,Bool.false_and,Bool.and_true,Bool.and_false,if_true,if_false,Bool.false_eq_true,Bool.or_false,Bool.false_or,Bool.true_or,Bool.or_true,reduceIte,Option.bind_eq_bind,Option.bind_some,Int.reduceLE,Int.reduceLT]
    simp only [eN,hif]
    try simp only [e0]
    refine b2i _ _ ?_ _ ?_
    · generalize decide ((ks.length:Int)+(sb.length:Int)=0)=t0
      generalize decide ((sb.length:Int)=0)=s0
      generalize decide ((sb.length:Int)=1)=s1
      generalize decide (o=0)=o0
      generalize decide (o=15)=o15
      generalize decide (o=16)=o16
      generalize decide (1≤o)=oa
      generalize decide (o≤14)=ob
      generalize decide ((ks.length:Int)=0)=c0
      generalize decide ((ks.length:Int)=1)=c1
      generalize decide ((ks.length:Int)=2)=c2
      generalize decide ((ks.length:Int)=3)=c3
      generalize (decide (2≤(ks.length:Int))&&decide ((ks.length:Int)≤9))=c29
      cases q0 <;> cases n0 <;> cases zv <;> cases no <;> cases o0 <;> cases c1 <;> cases s1 <;> rfl
    · intro h
      simp only [Bool.and_eq_true,decide_eq_true_eq] at h
      omega
  by_cases k9:k=9
  · subst k9
    simp only [Int.reduceEq,if_true,if_false,Option.some.injEq,Prod.mk.injEq] at hF
    obtain ⟨rfl,hok⟩:=hF
    rw [hok]
    simp only [Int.reduceEq,decide_true,decide_false,Bool.not_false,Bool.true_and,Bool.and_true,Bool.and_false,if_true,if_false,Bool.false_eq_true,Option.bind_eq_bind,Option.bind_some,Int.reduceLE]
    try dsimp only
    try simp only [Int.reduceEq,decide_true,decide_false,Bool.not_false,Bool.not_true,Bool.true_and,Bool.false_and,Bool.and_true,Bool.and_false,if_true,if_false,Bool.false_eq_true,Bool.or_false,Bool.false_or,Bool.true_or,Bool.or_true,reduceIte,Option.bind_eq_bind,Option.bind_some,Int.reduceLE,Int.reduceLT]
    simp only [lt0,Bool.false_or,hif]
    try simp only [e0]
    refine b2i _ _ ?_ _ ?_
    · generalize decide ((ks.length:Int)+(sb.length:Int)=0)=t0
      generalize decide ((sb.length:Int)=0)=s0
      generalize decide ((sb.length:Int)=1)=s1
      generalize decide (o=0)=o0
      generalize decide (o=15)=o15
      generalize decide (o=16)=o16
      generalize decide (1≤o)=oa
      generalize decide (o≤14)=ob
      generalize decide ((ks.length:Int)=0)=c0
      generalize decide ((ks.length:Int)=1)=c1
      generalize decide ((ks.length:Int)=2)=c2
      generalize decide ((ks.length:Int)=3)=c3
      generalize (decide (2≤(ks.length:Int))&&decide ((ks.length:Int)≤9))=c29
      cases q0 <;> cases n0 <;> cases zv <;> cases no <;> cases o0 <;> cases c0 <;> cases s1 <;> rfl
    · intro h
      simp only [Bool.and_eq_true,decide_eq_true_eq] at h
      omega
  simp only [k1,k2,k3,k4,k5,k6,k7,k8,k9,if_false,Option.some.injEq,Prod.mk.injEq] at hF
  obtain ⟨rfl,hok⟩:=hF
  rw [hok]
  simp only [k1,k2,k3,k4,k5,k6,k7,k8,k9,decide_false,Bool.not_false,Bool.true_and,Bool.false_eq_true,if_false,ite_self,Bool.false_and]
  exact ⟨false,rfl,by simp,by simp⟩
theorem bMq:rX=oQ:=by
  funext s
  obtain ⟨b,h1,h2⟩:=yL s
  rw [h1,h2]
theorem aSc:wB=nC:=by
  funext s
  obtain ⟨b,h1,h2⟩:=V6 s
  rw [h1,h2]
theorem aXi (x:aB):R6 x=tQ x (aB.mk 0 0 false (cZ.mk 0 0 []) [] [] [] [])∧∃ b,tQ x (aB.mk 0 0 false (cZ.mk 0 0 []) [] [] [] [])=some b:=by
  unfold R6
  rw [xN,tQ]
  have ek:yU x.kids []=some (decide (x.kids=[])):=by
    rw [yU,aHr]
    by_cases h:x.kids=[]
    · rw [h,I6]; simp
    · have : ¬ (x.kids.length : Int) = 0 := by
        have:=List.length_pos_iff.2 h; omega
      simp [h]
  have es:aBk x.sub []=some (decide (x.sub=[])):=by
    rw [aBk]
    by_cases h:x.sub=[]
    · rw [h,Y3]; simp
    · simp [h]
  have fk:yJ x.kids []=some (decide (x.kids=[])):=by
    rw [yJ]
    by_cases h:x.kids=[]
    · rw [h,aAf]; simp
    · simp [h]
  simp only [ek,es,fk,Option.bind_eq_bind,Option.bind_some]
  have hz:((decide (x.value.kind=0))&&((decide (x.value.num=0))&&((decide (x.value.text=[]))&&true)))=zvE x:=rfl
  rw [hz]
  have l0:x.sub=[]→U7 x (aB.mk 0 0 false (cZ.mk 0 0 []) [] [] [] []) 0=some true:=by
    intro h; rw [U7]; simp [h]
  have hl:decide ((x.sub.length:Int)=(([]:List aJ).length:Int))=decide (x.sub=[]):=by
    by_cases h:x.sub=[]
    · simp [h]
    · simp [h]
  rw [hl]
  by_cases hs:x.sub=[]
  · rw [l0 hs]
    simp only [hs,decide_true]
    generalize zvE x=zv
    generalize decide (x.kind=0)=b1
    generalize decide (x.op=0)=b2
    generalize decide (x.qual=[])=b3
    generalize decide (x.name=[])=b4
    generalize decide (x.kids=[])=b5
    generalize x.not_=b6
    cases b1 <;> cases b2 <;> cases b6 <;> cases zv <;> cases b3 <;> cases b4 <;> cases b5 <;> simp
  · simp only [hs,decide_false]
    generalize zvE x=zv
    generalize decide (x.kind=0)=b1
    generalize decide (x.op=0)=b2
    generalize decide (x.qual=[])=b3
    generalize decide (x.name=[])=b4
    generalize decide (x.kids=[])=b5
    generalize x.not_=b6
    cases b1 <;> cases b2 <;> cases b6 <;> cases zv <;> cases b3 <;> cases b4 <;> cases b5 <;> simp
theorem bL2:R6=fun x=>tQ x (aB.mk 0 0 false (cZ.mk 0 0 []) [] [] [] []):=funext fun x=>(aXi x).1
theorem aXc (l:List aB) (d:aB→Bool) (hl:l.length≤1048576) (H:∀ y ∈ l,pV y=some (d y)):xG l=some (l.all d):=by
  have key:∀ i,i≤l.length→∃ k:Int,yM l (i:Nat)=some k∧(!decide (0≤k))=(l.drop i).all d:=by
    refine jL ?_ ?_
    · rw [yM]
      exact ⟨-1,by simp,by simp⟩
    · intro i hi ih
      rw [yM,List.drop_eq_getElem_cons hi]
      simp only [dV,fO hi,iG hi (by omega),hi,decide_true,if_true,aBy,H _ (List.getElem_mem hi),Option.bind_eq_bind,Option.bind_some,List.all_cons]
      cases hd:d l[i] with
      | true=>simpa using ih
      | false=>exact ⟨(i:Int),by simp,by simp⟩
  obtain ⟨k,h1,h2⟩:=key 0 (by omega)
  rw [show ((0:Nat):Int)=0 from rfl] at h1
  rw [xG,aJl,aDj,h1]
  simpa using h2
theorem bFb (l:List aB) (d:aB→Bool) (hl:l.length≤1048576) (H:∀ y ∈ l,jI y=some (d y)):oV l 0=some (l.all d):=by
  have key:∀ i,i≤l.length→oV l (i:Nat)=some ((l.drop i).all d):=by
    refine jL ?_ ?_
    · rw [oV]; simp
    · intro i hi ih
      rw [oV,List.drop_eq_getElem_cons hi]
      simp only [dV,fO hi,iG hi (by omega),hi,decide_true,if_true,H _ (List.getElem_mem hi),Option.bind_eq_bind,Option.bind_some,List.all_cons]
      cases hd:d l[i] with
      | true=>simpa using ih
      | false=>simp
  simpa using key 0 (by omega)
theorem bPr (q:aJ) (d:aB→Bool) (hz:eU q≤1048576) (H:∀ y ∈ eD q,jI y=some (d y)∧pV y=some (d y)):U0 q=oU q∧∃ b,oU q=some b:=by
  have hq:=zQ q
  have hle:=aAa q
  have e2:∃ b,oV (eD q) 0=some b∧xG (eD q)=some b:=⟨_,bFb _ d (by omega) fun y hy=>(H y hy).1,aXc _ d (by omega) fun y hy=>(H y hy).2⟩
  obtain ⟨b2,r2,f2⟩:=e2
  have e1:∀ i,i≤q.from_.length→yF q (i:Nat)=pQ q (i:Nat)∧∃ b,pQ q (i:Nat)=some b:=by
    refine jL ?_ ?_
    · rw [yF,pQ]
      simp [aOj q hz,aE0 q hz,r2,f2]
    · intro i hi ih
      obtain ⟨ih1,b,ih2⟩:=ih
      rw [yF,pQ]
      obtain ⟨bn,n1,_⟩:=yL q.from_[i].table
      obtain ⟨ba,m1,_⟩:=V6 q.from_[i].as_
      simp only [bMq,aSc,dV,fO hi,iG hi (by omega),hi,decide_true,if_true,n1,m1,ih1,ih2,Option.bind_eq_bind,Option.bind_some]
      refine ⟨trivial,?_⟩
      generalize decide ((1:Int)<(q.from_[i].on_.length:Int))=c1
      generalize decide ((i:Int)=0)=c2
      generalize decide ((0:Int)<(q.from_[i].on_.length:Int))=c3
      cases bn <;> cases ba <;> cases c1 <;> cases c2 <;> cases c3 <;> exact ⟨_,rfl⟩
  have e0:∀ i,i≤q.items.length→E5 q (i:Nat)=oM q (i:Nat)∧∃ b,oM q (i:Nat)=some b:=by
    refine jL ?_ ?_
    · rw [E5,oM]
      simpa using e1 0 (by omega)
    · intro i hi ih
      obtain ⟨ih1,b,ih2⟩:=ih
      rw [E5,oM]
      obtain ⟨bq,m1,_⟩:=V6 q.items[i].qual
      obtain ⟨ba,m2,_⟩:=V6 q.items[i].as_
      obtain ⟨_,bz,m3⟩:=aXi q.items[i].expr
      simp only [bL2,aSc,dV,fO hi,iG hi (by omega),hi,decide_true,if_true,m1,m2,m3,ih1,ih2,Option.bind_eq_bind,Option.bind_some]
      refine ⟨trivial,?_⟩
      generalize q.items[i].star=s
      cases s <;> cases bq <;> cases ba <;> cases bz <;> by_cases g1:q.items[i].as_=[] <;> by_cases g2:q.items[i].qual=[] <;> simp [g1,g2]
  obtain ⟨k1,b,k2⟩:=e0 0 (by omega)
  rw [show ((0:Nat):Int)=0 from rfl] at k1 k2
  rw [U0,oU,k1,k2]
  unfold iZ
  simp only [Option.bind_eq_bind,Option.bind_some]
  by_cases a1:(1:Int)≤(q.items.length:Int)
  · have a1':¬ (q.items.length:Int)<1:=by omega
    by_cases a2:(q.items.length:Int)≤12
    · have a2':¬ (12:Int)<(q.items.length:Int):=by omega
      by_cases a3:(1:Int)≤(q.from_.length:Int)
      · have a3':¬ (q.from_.length:Int)<1:=by omega
        by_cases a4:(q.from_.length:Int)≤3
        · have a4':¬ (3:Int)<(q.from_.length:Int):=by omega
          simp only [a1,a1',a2,a2',a3,a3',a4,a4',decide_true,decide_false]
          by_cases a5:(1:Int)<(q.where_.length:Int) <;> by_cases a6:(12:Int)<(q.order.length:Int) <;> by_cases a7:q.limit < -1 <;> simp [a5,a6,a7]
        · have a4':(3:Int)<(q.from_.length:Int):=by omega
          simp only [a1,a1',a2,a2',a3,a3',a4,a4',decide_true,decide_false]; simp
      · have a3':(q.from_.length:Int)<1:=by omega
        simp only [a1,a1',a2,a2',a3,a3',decide_true,decide_false]; simp
    · have a2':(12:Int)<(q.items.length:Int):=by omega
      simp only [a1,a1',a2,a2',decide_true,decide_false]; simp
  · have a1':(q.items.length:Int)<1:=by omega
    simp only [a1,a1',decide_true,decide_false]; simp
theorem right_eq:∀ n:Nat,∀ x:aB,bL x<n→bL x≤1048576→∃ b,jI x=some b∧pV x=some b:=by
  intro n
  induction n with
  | zero=>intro x h _; omega
  | succ n ih =>
    intro x hx hz
    have hE:=zE x
    let d:aB→Bool:=fun y=>(jI y).getD false
    have H:∀ y,bL y<bL x→jI y=some (d y)∧pV y=some (d y):=by
      intro y hy
      obtain ⟨r,h1,h2⟩:=ih y (by omega) (by omega)
      simp only [d,h1,h2,Option.getD_some,and_self]
    have HK:∀ y ∈ x.kids,jI y=some (d y)∧pV y=some (d y):=fun y hy=>H y (by have:=kE hy; omega)
    have HQ:∀ q ∈ x.sub,U0 q=oU q∧∃ b,oU q=some b:=by
      intro q hq
      have h1:=oW hq
      exact bPr q d (by omega) fun y hy=>H y (by have:=aBn hy; omega)
    obtain ⟨b,s1,s2,s3⟩:=bRe x (by omega) (by omega)
    rw [jI,s1,s2]
    cases b with
    | false=>exact ⟨false,by simp,by simp⟩
    | true =>
      have hsl:=s3 rfl
      have hall:=aXc x.kids d (by omega) fun y hy=>(HK y hy).2
      -- the one query below
      have tail : ∃ t, (∀ c : Bool, ((if (true && (c == true)) = true then zG x.sub else some default) >>= fun (y14 : Bool) => (some (if c = true then (!y14) else false)) >>= fun (y15 : Bool) => some y15) = some (c && t)) ∧
          ((if (true&&((decide ((x.sub.length:Int)=0))==false))=true then idx x.sub 0 else some default)>>=fun (y4:aJ)=>(if (true&&((decide ((x.sub.length:Int)=0))==false))=true then oU y4 else some default)>>=fun (y5:Bool)=>(some (if (decide ((x.sub.length:Int)=0))=true then true else y5))>>=fun (y6:Bool)=>some y6)=some t:=by
        cases hsub:x.sub with
        | nil =>
          refine ⟨true,?_,by simp⟩
          intro c
          rw [zG,aAk,zH]
          cases c <;> simp
        | cons q l =>
          have hl:l=[]:=by
            rw [hsub] at hsl; simp only [List.length_cons] at hsl
            exact List.eq_nil_of_length_eq_zero (by omega)
          subst hl
          obtain ⟨g1,t,g2⟩:=HQ q (by rw [hsub]; simp)
          have w1:IntKind.wrap .i64 (0+1)=1:=by decide
          refine ⟨t,?_,by simp [idx,g2]⟩
          intro c
          rw [zG,aAk,zH,w1,zH]
          cases c <;> cases t <;> simp [idx,aIg,g1,g2]
      obtain ⟨t,t1,t2⟩:=tail
      refine ⟨x.kids.all d&&t,?_,?_⟩
      · have key : ∀ i, i ≤ x.kids.length → qV x (i : Nat) = some ((x.kids.drop i).all d && t) := by
          refine jL ?_ ?_
          · rw [qV]
            simp only [dV,Nat.lt_irrefl,decide_false,Bool.false_eq_true,if_false,t2]
            simp
          · intro i hi ih
            rw [qV,List.drop_eq_getElem_cons hi]
            simp only [dV,fO hi,iG hi (by omega),hi,decide_true,if_true,(HK _ (List.getElem_mem hi)).1,Option.bind_eq_bind,Option.bind_some,List.all_cons]
            cases hd:d x.kids[i] with
            | true=>simpa using ih
            | false=>simp
        simpa using key 0 (by omega)
      · simp only [if_true,aBa,hall,Option.bind_eq_bind,Option.bind_some]
        exact t1 _
theorem aKf {a b:List UInt8} (h:a.length+b.length≤1073741824):lV a b=some (a++b):=by
  unfold lV; rw [if_pos (Nat.le_trans h (by decide))]
theorem bTd {d:Nat} (h:d<10) (x4:List UInt8):ofBytes ([(IntKind.wrap .u8 (IntKind.wrap .i64 (48+(d:Int))))]:List Int)=some [UInt8.ofNat (48+d)]:=by
  match d,h with
  | 0,_=>rfl
  | 1,_=>rfl
  | 2,_=>rfl
  | 3,_=>rfl
  | 4,_=>rfl
  | 5,_=>rfl
  | 6,_=>rfl
  | 7,_=>rfl
  | 8,_=>rfl
  | 9,_=>rfl
theorem cD6 (p0 : Int) : ∀ n : Nat, n ≤ 9223372036854775808 → ∀ out : List UInt8, out.length + Lib.nDigits n ≤ 1000 → ∀ x0 : Int, (x0 = n ∨ x0 = -(n : Int)) →
    F6 p0 x0 out=some ((if p0<0 then [45] else [])++((if n=0 then [] else Lib.decDigits n)++out)):=by
  intro n
  induction n using Nat.strongRecOn with
  | ind n ih =>
    intro hn out ho x0 hx
    rw [F6]
    by_cases h0:n=0
    · subst h0
      have:x0=0:=by omega
      subst this
      have hc:lV [45] out=some (45::out):=aKf (by simp; omega)
      by_cases hp:p0<0 <;> simp [hp,hc]
    · have hx0:x0≠0:=by omega
      have hdiv:Int.tdiv x0 10=((n / 10:Nat):Int)∨Int.tdiv x0 10 = -((n / 10:Nat):Int):=by
        rcases hx with rfl | rfl
        · left; simp [Int.tdiv]
        · right; rw [Int.neg_tdiv]; simp [Int.tdiv]
      have hdd:IntKind.wrap .i64 (Int.tdiv x0 10)=Int.tdiv x0 10:=iP (by omega) (by omega)
      have hm:Int.tmod x0 10=((n % 10:Nat):Int)∨Int.tmod x0 10 = -((n % 10:Nat):Int):=by
        rcases hx with rfl | rfl
        · left; simp [Int.tmod]
        · right; rw [Int.neg_tmod]; simp [Int.tmod]
      have hlt:n % 10<10:=Nat.mod_lt _ (by omega)
      have hnd:Lib.nDigits (n / 10)≤Lib.nDigits n:=by
        by_cases hs:n<10
        · have:n / 10=0:=by omega
          rw [this,Lib.nDigits_small (by omega)]; exact Lib.nDigits_pos _
        · rw [Lib.nDigits_big hs]; omega
      have hnd1:n / 10≠0→Lib.nDigits (n / 10)+1=Lib.nDigits n:=fun h=>by rw [← Lib.nDigits_big (u:=n) (by omega)]
      have hpos:=Lib.nDigits_pos n
      have key:yH x0 p0 out ((n % 10:Nat):Int)=some ((if p0<0 then [45] else [])++(Lib.decDigits n++out)):=by
        rw [yH,bTd hlt out]
        simp only [Option.bind_eq_bind,Option.bind_some]
        rw [aKf (by simp; omega)]
        simp only [Option.bind_some]
        rw [hdd]
        by_cases hs:n / 10=0
        · have hz:Int.tdiv x0 10=0:=by omega
          have hn10:n<10:=by omega
          rw [hz,F6]
          have hmod:n % 10=n:=Nat.mod_eq_of_lt hn10
          have hc:lV [45] ([UInt8.ofNat (48+n % 10)]++out)=some (45::([UInt8.ofNat (48+n % 10)]++out)):=aKf (by simp; omega)
          rw [Lib.decDigits_one hn10]
          by_cases hp:p0<0
          · simp [hp,hmod] at hc ⊢
            rw [hc]
          · simp [hp,hmod]
        · rw [ih (n / 10) (by omega) (by omega) _ (by have:=hnd1 hs; simp; omega) _ hdiv,if_neg hs]
          conv=>rhs; rw [Lib.decDigits,dif_neg (by omega)]
          simp
      rw [if_pos (by simp [hx0]),if_neg h0]
      by_cases hneg:Int.tmod x0 10<0
      · rw [if_pos (by simp [hneg])]
        have e:IntKind.wrap .i64 (0 - Int.tmod x0 10)=((n % 10:Nat):Int):=by rw [iP (by omega) (by omega)]; omega
        rw [e,key]
      · rw [if_neg (by simp [hneg])]
        have e:Int.tmod x0 10=((n % 10:Nat):Int):=by omega
        rw [e,key]
theorem bD2 (n:Int) (h1 : -9223372036854775808≤n) (h2:n≤9223372036854775807):O0 n=some (Lib.itoa n):=by
  unfold O0
  by_cases h0:n=0
  · subst h0; simp; rw [Lib.itoa]; simp; rw [Lib.decDigits_one (by omega)]; rfl
  · have hl:Lib.nDigits n.natAbs≤20:=Lib.nDigits_le20 _ (by omega)
    rw [if_neg (by simp [h0]),cD6 n n.natAbs (by omega) [] (by simp; omega) n (by omega),if_neg (show ¬ n.natAbs=0 by omega)]
    unfold Lib.itoa
    by_cases hn:n<0
    · simp [hn]
    · have:n.natAbs=n.toNat:=by omega
      simp [hn,this]
theorem aRo {l m:List aA} (h:l.length+m.length≤4000000000000):appG 32 l m=some (l++m):=aOy (by omega)
theorem zI (l:List aA) (a b:aA):appG 32 l [a,b]=(appG 32 l [a])>>=fun y=>appG 32 y [b]:=by
  unfold appG
  have e1:l.length+[a,b].length=l.length+2:=rfl
  have e2:l.length+[a].length=l.length+1:=rfl
  have e3:(l++[a]).length+[b].length=l.length+2:=by simp
  have e4:(l++[a])++[b]=l++[a,b]:=by simp
  rw [e1,e2]
  by_cases h:(l.length+2) * 32≤140737488355328
  · rw [if_pos h,if_pos (by omega)]
    simp only [Option.bind_eq_bind,Option.bind_some,e3,e4,if_pos h]
  · rw [if_neg h]
    by_cases h1:(l.length+1) * 32≤140737488355328
    · rw [if_pos h1]; simp only [Option.bind_eq_bind,Option.bind_some,e3,if_neg h]
    · rw [if_neg h1]; rfl
def TP (I:List aA→Option (Bool×List aA)) (S:List aA→Option (List aA)) (n:Nat):Prop :=
  ∃ T:List aA,T.length≤n∧∀ l,l.length+n≤1000000000000→I l=some (false,l++T)∧S l=some (l++T)
theorem TP.mono {I S} {n m:Nat} (h:TP I S n) (hm:n≤m):TP I S m:=by
  obtain ⟨T,h1,h2⟩:=h; exact ⟨T,by omega,fun l hl=>h2 l (by omega)⟩
theorem TP.nil:TP (fun l=>some (false,l)) (fun l=>some l) 0:=⟨[],by simp,by simp⟩
theorem TP.seq {I S K K'} {n m:Nat} (h1:TP I S n) (h2:TP (fun l=>K (false,l)) K' m):TP (fun l=>(I l)>>=K) (fun l=>(S l)>>=K') (n+m):=by
  obtain ⟨T,a1,a2⟩:=h1
  obtain ⟨U,b1,b2⟩:=h2
  refine ⟨T++U,by simp; omega,fun l hl=>?_⟩
  obtain ⟨c1,c2⟩:=a2 l (by omega)
  obtain ⟨d1,d2⟩:=b2 (l++T) (by simp; omega)
  dsimp only at d1
  simp [c1,c2,d1,d2]
theorem TP.app {K K'} {t:aA} {n:Nat} (h:TP K K' n):TP (fun l=>(appG 32 l [t])>>=fun y=>K y) (fun l=>(appG 32 l [t])>>=fun y=>K' y) (n+1):=by
  obtain ⟨U,b1,b2⟩:=h
  refine ⟨t::U,by simp; omega,fun l hl=>?_⟩
  obtain ⟨d1,d2⟩:=b2 (l++[t]) (by simp; omega)
  simp only [aRo (show l.length+[t].length≤4000000000000 by simp; omega),Option.bind_eq_bind,Option.bind_some,d1,d2]
  simp
theorem TP.one {t:aA}:TP (fun l=>(appG 32 l [t])>>=fun y=>some (false,y)) (fun l=>appG 32 l [t]) 1 :=
  ⟨[t],by simp,fun l hl=>by simp only [aRo (show l.length+[t].length≤4000000000000 by simp; omega),Option.bind_eq_bind,Option.bind_some,and_self]⟩
theorem TP.congr {I S I' S'} {n:Nat} (h:TP I S n) (h1:∀ l,I' l=I l) (h2:∀ l,S' l=S l):TP I' S' n:=by
  rw [show I'=I from funext h1,show S'=S from funext h2]; exact h
theorem TP.loop {α : Type} {p : List α} {LI : Int → List aA → Option (Bool × List aA)} {LS : List aA → Int → Option (List aA)} {w : α → Nat} {n : Nat}
    (hend:TP (fun l=>LI (p.length:Nat) l) (fun l=>LS l (p.length:Nat)) n)
    (hstep:∀ i (hi:i<p.length),∀ m,TP (fun l=>LI ((i+1:Nat):Int) l) (fun l=>LS l ((i+1:Nat):Int)) m→TP (fun l=>LI (i:Nat) l) (fun l=>LS l (i:Nat)) (w p[i]+m)) :
    ∀ i,i≤p.length→TP (fun l=>LI (i:Nat) l) (fun l=>LS l (i:Nat)) (((p.drop i).map w).sum+n):=by
  refine jL ?_ ?_
  · simpa using hend
  · intro i hi ih
    rw [List.drop_eq_getElem_cons hi,List.map_cons,List.sum_cons,Nat.add_assoc]
    exact hstep i hi _ ih
theorem Q4 (l:List aA) (b:Bool) (k:Int) (w:List UInt8):vC l b k w=(appG 32 l [aA.mk k w 0])>>=fun y=>some (b,y):=rfl
theorem aC7 (l:List aA) (b:Bool) (w:List UInt8):jP l b w=(appG 32 l [aA.mk 5 w 0])>>=fun y=>some (b,y):=by
  unfold jP; rw [Q4]; cases appG 32 l [aA.mk 5 w 0] <;> rfl
theorem aKd (l:List aA) (b:Bool) (w:List UInt8):qC l b w=(appG 32 l [aA.mk 2 w 0])>>=fun y=>some (b,y):=by
  unfold qC; rw [Q4]; cases appG 32 l [aA.mk 2 w 0] <;> rfl
theorem aJc (l:List aA) (b:Bool) (i:Int):nD l b i=if 0<i then (appG 32 l [aA.mk 5 [44] 0])>>=fun y=>some (b,y) else some (b,l):=by
  unfold nD
  by_cases h:0<i
  · rw [if_pos (by simpa using h),if_pos h,aC7]; cases appG 32 l [aA.mk 5 [44] 0] <;> rfl
  · rw [if_neg (by simpa using h),if_neg h]
theorem bD3 {p:List (List UInt8)} (l:List aA) (b:Bool):oJ p (p.length:Nat) b l=some (b,l):=by
  rw [oJ]; simp
theorem aM5 {p:List (List UInt8)} (hp:p.length≤100) (i:Nat) (hi:i<p.length) (l:List aA) (b:Bool):oJ p (i:Nat) b l=(appG 32 l [aA.mk 1 p[i] 0])>>=fun y=>oJ p ((i+1:Nat):Int) b y:=by
  rw [oJ]
  simp only [dV,hi,decide_true,if_true,fO hi,iG hi (by omega),Q4,Option.bind_eq_bind,Option.bind_some,Option.bind_assoc]
theorem jK {w:List UInt8} (h:G6 w [32]=some [w]) (l:List aA) (b:Bool):dC l b w=(appG 32 l [aA.mk 1 w 0])>>=fun y=>some (b,y):=by
  unfold dC aB9
  rw [h]
  show oJ [w] ((0:Nat):Int) b l=_
  rw [aM5 (by simp) 0 (by simp)]
  congr 1; funext y
  exact bD3 (p:=[w]) y b
theorem bXa {w u v:List UInt8} (h:G6 w [32]=some [u,v]) (l:List aA) (b:Bool):dC l b w=(appG 32 l [aA.mk 1 u 0])>>=fun y=>(appG 32 y [aA.mk 1 v 0])>>=fun y=>some (b,y):=by
  unfold dC aB9
  rw [h]
  show oJ [u,v] ((0:Nat):Int) b l=_
  rw [aM5 (by simp) 0 (by simp)]
  congr 1; funext y
  rw [aM5 (by simp) 1 (by simp)]
  congr 1; funext y
  exact bD3 (p:=[u,v]) y b
theorem bL6 (l b):dC l b [78,79,84]=(appG 32 l [aA.mk 1 [78,79,84] 0])>>=fun y=>some (b,y):=jK (by decide +kernel) l b
theorem kAS (l b):dC l b [65,83]=(appG 32 l [aA.mk 1 [65,83] 0])>>=fun y=>some (b,y):=jK (by decide +kernel) l b
theorem cDo (l b):dC l b [87,72,69,82,69]=(appG 32 l [aA.mk 1 [87,72,69,82,69] 0])>>=fun y=>some (b,y):=jK (by decide +kernel) l b
theorem kON (l b):dC l b [79,78]=(appG 32 l [aA.mk 1 [79,78] 0])>>=fun y=>some (b,y):=jK (by decide +kernel) l b
theorem bTm (l b):dC l b [74,79,73,78]=(appG 32 l [aA.mk 1 [74,79,73,78] 0])>>=fun y=>some (b,y):=jK (by decide +kernel) l b
theorem bIx (l b):dC l b [68,69,83,67]=(appG 32 l [aA.mk 1 [68,69,83,67] 0])>>=fun y=>some (b,y):=jK (by decide +kernel) l b
theorem cBw (l b):dC l b [79,82,68,69,82,32,66,89]=(appG 32 l [aA.mk 1 [79,82,68,69,82] 0])>>=fun y=>(appG 32 y [aA.mk 1 [66,89] 0])>>=fun y=>some (b,y):=bXa (by decide +kernel) l b
theorem bWs (l b):dC l b [76,73,77,73,84]=(appG 32 l [aA.mk 1 [76,73,77,73,84] 0])>>=fun y=>some (b,y):=jK (by decide +kernel) l b
theorem bS6 (l b):dC l b [70,82,79,77]=(appG 32 l [aA.mk 1 [70,82,79,77] 0])>>=fun y=>some (b,y):=jK (by decide +kernel) l b
theorem bR7 (l b):dC l b [68,73,83,84,73,78,67,84]=(appG 32 l [aA.mk 1 [68,73,83,84,73,78,67,84] 0])>>=fun y=>some (b,y):=jK (by decide +kernel) l b
theorem aUy (l b):dC l b [83,69,76,69,67,84]=(appG 32 l [aA.mk 1 [83,69,76,69,67,84] 0])>>=fun y=>some (b,y):=jK (by decide +kernel) l b
theorem bR0 (l b):dC l b [69,88,73,83,84,83]=(appG 32 l [aA.mk 1 [69,88,73,83,84,83] 0])>>=fun y=>some (b,y):=jK (by decide +kernel) l b
theorem kIS (l b):dC l b [73,83]=(appG 32 l [aA.mk 1 [73,83] 0])>>=fun y=>some (b,y):=jK (by decide +kernel) l b
theorem aUh (l b):dC l b [78,85,76,76]=(appG 32 l [aA.mk 1 [78,85,76,76] 0])>>=fun y=>some (b,y):=jK (by decide +kernel) l b
theorem bMi (l b):dC l b [66,69,84,87,69,69,78]=(appG 32 l [aA.mk 1 [66,69,84,87,69,69,78] 0])>>=fun y=>some (b,y):=jK (by decide +kernel) l b
theorem bXl (l b):dC l b [65,78,68]=(appG 32 l [aA.mk 1 [65,78,68] 0])>>=fun y=>some (b,y):=jK (by decide +kernel) l b
theorem kIN (l b):dC l b [73,78]=(appG 32 l [aA.mk 1 [73,78] 0])>>=fun y=>some (b,y):=jK (by decide +kernel) l b
theorem bDv (l b):dC l b [84,82,85,69]=(appG 32 l [aA.mk 1 [84,82,85,69] 0])>>=fun y=>some (b,y):=jK (by decide +kernel) l b
theorem bDs (l b):dC l b [70,65,76,83,69]=(appG 32 l [aA.mk 1 [70,65,76,83,69] 0])>>=fun y=>some (b,y):=jK (by decide +kernel) l b
theorem s1:eP 1=some (aA.mk 1 [83,69,76,69,67,84] 0):=rfl
theorem s2:eP 2=some (aA.mk 1 [68,73,83,84,73,78,67,84] 0):=rfl
theorem s3:eP 3=some (aA.mk 1 [70,82,79,77] 0):=rfl
theorem s4:eP 4=some (aA.mk 1 [74,79,73,78] 0):=rfl
theorem s5:eP 5=some (aA.mk 1 [79,78] 0):=rfl
theorem s6:eP 6=some (aA.mk 1 [87,72,69,82,69] 0):=rfl
theorem s7:eP 7=some (aA.mk 1 [79,82,68,69,82] 0):=rfl
theorem s8:eP 8=some (aA.mk 1 [66,89] 0):=rfl
theorem s10:eP 10=some (aA.mk 1 [68,69,83,67] 0):=rfl
theorem s11:eP 11=some (aA.mk 1 [76,73,77,73,84] 0):=rfl
theorem s12:eP 12=some (aA.mk 1 [65,83] 0):=rfl
theorem s13:eP 13=some (aA.mk 1 [65,78,68] 0):=rfl
theorem s15:eP 15=some (aA.mk 1 [78,79,84] 0):=rfl
theorem s16:eP 16=some (aA.mk 1 [73,83] 0):=rfl
theorem s17:eP 17=some (aA.mk 1 [73,78] 0):=rfl
theorem s18:eP 18=some (aA.mk 1 [66,69,84,87,69,69,78] 0):=rfl
theorem s19:eP 19=some (aA.mk 1 [69,88,73,83,84,83] 0):=rfl
theorem s20:eP 20=some (aA.mk 1 [78,85,76,76] 0):=rfl
theorem s21:eP 21=some (aA.mk 1 [84,82,85,69] 0):=rfl
theorem s22:eP 22=some (aA.mk 1 [70,65,76,83,69] 0):=rfl
theorem pM (w):jX w=some (aA.mk 5 w 0):=rfl
theorem aAr (w):vN w=some (aA.mk 2 w 0):=rfl
theorem qR {β:Type} (x:Option (List aA)) (b:Bool) (K:Bool×List aA→Option β):((x>>=fun y=>some (b,y))>>=K)=(x>>=fun y=>K (b,y)):=by cases x <;> rfl
theorem nN (x:Option (Bool×List aA)):(x>>=fun y=>some (y.1,y.2))=x:=by cases x <;> rfl
theorem aU6 (l:List aA) (b n:Bool):nW l b n=if n=true then (appG 32 l [aA.mk 1 [78,79,84] 0])>>=fun y=>some (b,y) else some (b,l):=by
  unfold nW; rw [bL6,qR]
theorem bSu {o:Int} (h:1≤o∧o≤14∨o=15∨o=16):∃ t,sF o=some t∧∀ l b,rH l b o=(appG 32 l [t])>>=fun y=>some (b,y):=by
  have key : ∀ o : Int, ∀ w : List UInt8, aBi o = some w → sF o = some (if o = 1 ∨ o = 2 ∨ o = 15 then aA.mk 1 w 0 else aA.mk 5 w 0) → (o = 1 ∨ o = 2 ∨ o = 15 → G6 w [32] = some [w]) →
      ∃ t,sF o=some t∧∀ l b,rH l b o=(appG 32 l [t])>>=fun y=>some (b,y):=by
    intro o w h1 h2 h3
    refine ⟨_,h2,fun l b=>?_⟩
    unfold rH
    rw [h1]
    by_cases ho:o=1∨o=2∨o=15
    · rw [if_pos ho]
      have:((some (if (decide (o=1))=true then true else (decide (o=2))))>>=fun (y1:Bool)=>(some (if y1=true then true else (decide (o=15)))))=some true:=by
        rcases ho with rfl | rfl | rfl <;> rfl
      rcases ho with rfl | rfl | rfl <;> simp only [Option.bind_eq_bind,Option.bind_some,decide_true,if_true,jK (h3 (by simp)),← Option.bind_eq_bind,qR] <;> simp [jK (h3 (by simp)),qR] <;> cases appG 32 l [aA.mk 1 w 0] <;> rfl
    · rw [if_neg ho]
      have a1:¬ o=1:=fun h=>ho (.inl h)
      have a2:¬ o=2:=fun h=>ho (.inr (.inl h))
      have a3:¬ o=15:=fun h=>ho (.inr (.inr h))
      simp only [a1,a2,a3,decide_false,Bool.false_eq_true,if_false,Option.bind_eq_bind,Option.bind_some,aC7]
      cases appG 32 l [aA.mk 5 w 0] <;> rfl
  rcases h with h | rfl | rfl
  · rcases aWf h with rfl | rfl | rfl | rfl | rfl | rfl | rfl | rfl | rfl | rfl | rfl | rfl | rfl | rfl <;> exact key _ _ rfl rfl (by decide +kernel)
  · exact key _ _ rfl rfl (by decide +kernel)
  · exact key _ _ rfl rfl (by decide +kernel)
theorem bRj {v:cZ} (h:uN v=some true) (hn:okI v.num):∃ t,aB2 v=some t∧∀ l b,aAb l b v=(appG 32 l [t])>>=fun y=>some (b,y):=by
  have hv:A8 v=some true:=by
    obtain ⟨e1,b,e2⟩:=aXg v
    rw [e1,e2]
    unfold uN at h
    rw [e2] at h
    cases b with
    | true=>rfl
    | false=>simp at h
  unfold aB2 aAb
  by_cases k1:v.kind=1
  · refine ⟨aA.mk 3 (Lib.itoa v.num) 0,?_,fun l b=>?_⟩
    · simp [k1,bD2 v.num hn.1 (by have:=hn.2; omega)]
    · simp only [k1,decide_true,if_true,yC,aAn,Option.bind_eq_bind,Option.bind_some,Q4]
      cases appG 32 l [aA.mk 3 (Lib.itoa v.num) 0] <;> rfl
  by_cases k2:v.kind=2
  · refine ⟨aA.mk 4 v.text 0,?_,fun l b=>?_⟩
    · simp [k2]
    · simp only [k2,decide_true,if_true,Q4,Option.bind_eq_bind,show ¬ (2:Int)=1 by decide,decide_false,Bool.false_eq_true,if_false]
      cases appG 32 l [aA.mk 4 v.text 0] <;> rfl
  by_cases k3:v.kind=3
  · by_cases n1:v.num=1
    · refine ⟨aA.mk 1 [84,82,85,69] 0,by simp [k3,n1,s21],fun l b=>?_⟩
      have:vG v=some [84,82,85,69]:=by unfold vG; simp [hv,k3,n1]
      simp only [k1,k2,decide_false,Bool.false_eq_true,if_false,this,bDv,qR,Option.bind_eq_bind,Option.bind_some]
      cases appG 32 l [aA.mk 1 [84,82,85,69] 0] <;> rfl
    · refine ⟨aA.mk 1 [70,65,76,83,69] 0,by simp [k3,n1,s22],fun l b=>?_⟩
      have:vG v=some [70,65,76,83,69]:=by unfold vG; simp [hv,k3,n1]
      simp only [k1,k2,decide_false,Bool.false_eq_true,if_false,this,bDs,qR,Option.bind_eq_bind,Option.bind_some]
      cases appG 32 l [aA.mk 1 [70,65,76,83,69] 0] <;> rfl
  · refine ⟨aA.mk 1 [78,85,76,76] 0,by simp [k1,k2,k3,s20],fun l b=>?_⟩
    have:vG v=some [78,85,76,76]:=by unfold vG; simp [hv,k1,k2,k3]
    simp only [k1,k2,decide_false,Bool.false_eq_true,if_false,this,aUh,qR,Option.bind_eq_bind,Option.bind_some]
    cases appG 32 l [aA.mk 1 [78,85,76,76] 0] <;> rfl
theorem okE_mem:∀ {l:List aB},okLGExpr l→∀ y ∈ l,okGExpr y
  | [],_,_,h=>by simp at h
  | x::l,h,y,hy=>by
    simp only [okLGExpr] at h
    rcases List.mem_cons.1 hy with rfl | hy
    · exact h.1
    · exact okE_mem h.2 y hy
theorem okQ_mem:∀ {l:List aJ},okLGQuery l→∀ y ∈ l,okGQuery y
  | [],_,_,h=>by simp at h
  | x::l,h,y,hy=>by
    simp only [okLGQuery] at h
    rcases List.mem_cons.1 hy with rfl | hy
    · exact h.1
    · exact okQ_mem h.2 y hy
theorem okI_mem:∀ {l:List aZ},okLGItem l→∀ y ∈ l,okGItem y
  | [],_,_,h=>by simp at h
  | x::l,h,y,hy=>by
    simp only [okLGItem] at h
    rcases List.mem_cons.1 hy with rfl | hy
    · exact h.1
    · exact okI_mem h.2 y hy
theorem okS_mem:∀ {l:List aR},okLGSource l→∀ y ∈ l,okGSource y
  | [],_,_,h=>by simp at h
  | x::l,h,y,hy=>by
    simp only [okLGSource] at h
    rcases List.mem_cons.1 hy with rfl | hy
    · exact h.1
    · exact okS_mem h.2 y hy
theorem okK_mem:∀ {l:List aX},okLGSortKey l→∀ y ∈ l,okGSortKey y
  | [],_,_,h=>by simp at h
  | x::l,h,y,hy=>by
    simp only [okLGSortKey] at h
    rcases List.mem_cons.1 hy with rfl | hy
    · exact h.1
    · exact okK_mem h.2 y hy
theorem okGExpr_e {x:aB} (h:okGExpr x):okI x.value.num∧(∀ y ∈ x.kids,okGExpr y)∧∀ q ∈ x.sub,okGQuery q:=by
  obtain ⟨a,b,c,⟨v0,v1,v2⟩,d,e,f,g⟩:=x
  simp only [okGExpr,okGValue] at h
  exact ⟨h.2.2.2.1.2.1,okE_mem h.2.2.2.2.2.2.1.2,okQ_mem h.2.2.2.2.2.2.2.2⟩
theorem okGQuery_e {q:aJ} (h:okGQuery q):okI q.limit∧∀ y ∈ eD q,okGExpr y:=by
  obtain ⟨a,b,c,d,e,f⟩:=q
  simp only [okGQuery] at h
  obtain ⟨h0,h1,h2,h3,h4,h5⟩:=h
  refine ⟨h5,fun y hy=>?_⟩
  simp only [eD,List.mem_append,List.mem_flatMap] at hy
  rcases hy with ((⟨i,hi,hy⟩ | ⟨s,hs,hy⟩) | hy) | ⟨k,hk,hy⟩
  · have:=okI_mem h1.2 i hi
    cases i
    simp only [okGItem] at this
    split at hy
    · simp at hy
    · simp at hy; rw [hy]; exact this.2.2.1
  · have:=okS_mem h2.2 s hs
    cases s
    simp only [okGSource] at this
    exact okE_mem this.2.2.2 y hy
  · exact okE_mem h3.2 y hy
  · have:=okK_mem h4.2 k hk
    cases k
    simp only [okGSortKey] at this
    simp at hy; rw [hy]; exact this.1
def aMx (x:aB):Prop:=(x.kind=1∧uN x.value=some true)∨x.kind=2∨(x.kind=3∧(x.op=15∨x.op=16)∧x.kids.length=1)∨(x.kind=4∧(1≤x.op∧x.op≤14)∧x.kids.length=2) ∨
  (x.kind=5∧x.kids.length=1)∨(x.kind=6∧x.kids.length=3)∨(x.kind=7∧2≤x.kids.length)∨(x.kind=8∧x.kids.length=1∧x.sub.length=1)∨(x.kind=9∧x.sub.length=1)
theorem cDa {x:aB} (h:F5 x=some true):aMx x:=by
  rw [aR2] at h
  split at h
  · simp at h
  split at h
  · simp at h
  unfold aMx
  split at h
  · rename_i k1
    left
    refine ⟨by simpa using k1,?_⟩
    obtain ⟨b,l1,_⟩:=aPj x.value
    rw [l1] at h ⊢
    cases b with
    | true=>rfl
    | false=>simp at h
  split at h
  · rename_i k2
    right; left; simpa using k2
  simp only [Option.some.injEq] at h
  by_cases k3:x.kind=3
  · rw [if_pos k3] at h
    simp only [Bool.and_eq_true,Bool.or_eq_true,decide_eq_true_eq] at h
    omega
  rw [if_neg k3] at h
  by_cases k4:x.kind=4
  · rw [if_pos k4] at h
    simp only [Bool.and_eq_true,Bool.or_eq_true,decide_eq_true_eq] at h
    omega
  rw [if_neg k4] at h
  by_cases k5:x.kind=5
  · rw [if_pos k5] at h
    simp only [Bool.and_eq_true,Bool.or_eq_true,decide_eq_true_eq] at h
    omega
  rw [if_neg k5] at h
  by_cases k6:x.kind=6
  · rw [if_pos k6] at h
    simp only [Bool.and_eq_true,Bool.or_eq_true,decide_eq_true_eq] at h
    omega
  rw [if_neg k6] at h
  by_cases k7:x.kind=7
  · rw [if_pos k7] at h
    simp only [Bool.and_eq_true,Bool.or_eq_true,decide_eq_true_eq] at h
    omega
  rw [if_neg k7] at h
  by_cases k8:x.kind=8
  · rw [if_pos k8] at h
    simp only [Bool.and_eq_true,Bool.or_eq_true,decide_eq_true_eq] at h
    omega
  rw [if_neg k8] at h
  by_cases k9:x.kind=9
  · rw [if_pos k9] at h
    simp only [Bool.and_eq_true,Bool.or_eq_true,decide_eq_true_eq] at h
    omega
  rw [if_neg k9] at h
  simp at h
theorem aMa {m:Option Bool} {K:Bool→Option Bool} (h:(m>>=fun y=>if (!y)=true then some false else K y)=some true):m=some true∧K true=some true:=by
  cases m with
  | none=>simp at h
  | some b=>cases b with
    | true=>simpa using h
    | false=>simp at h
theorem cDs (l:List aB) (hl:l.length≤1048576):∀ i,i≤l.length→oV l (i:Nat)=some true→∀ y ∈ l.drop i,jI y=some true:=by
  refine jL ?_ ?_
  · intro _ y hy; simp at hy
  · intro i hi ih h y hy
    rw [oV] at h
    simp only [dV,fO hi,iG hi (by omega),hi,decide_true,if_true] at h
    rw [Option.bind_eq_bind,Option.bind_some] at h
    obtain ⟨h1,h2⟩:=aMa h
    rw [List.drop_eq_getElem_cons hi] at hy
    rcases List.mem_cons.1 hy with rfl | hy
    · exact h1
    · exact ih h2 y hy
theorem aQ1 {m:Option Bool} {K:Option Bool} (h:(m>>=fun y=>if y=true then some false else K)=some true):K=some true:=by
  cases m with
  | none=>simp at h
  | some b=>cases b with
    | true=>simp at h
    | false=>simpa using h
theorem cBy (q:aJ) (hl:q.from_.length≤1048576):∀ i,i≤q.from_.length→pQ q (i:Nat)=some true→pQ q (q.from_.length:Nat)=some true:=by
  refine jL (fun h=>h) ?_
  intro i hi ih h
  rw [pQ] at h
  simp only [dV,fO hi,iG hi (by omega),hi,decide_true,if_true] at h
  simp only [Option.bind_eq_bind,← Option.bind_assoc] at h
  exact ih (aQ1 h)
theorem bQ9 (q:aJ) (hl:q.items.length≤1048576):∀ i,i≤q.items.length→oM q (i:Nat)=some true→oM q (q.items.length:Nat)=some true:=by
  refine jL (fun h=>h) ?_
  intro i hi ih h
  rw [oM] at h
  simp only [dV,fO hi,iG hi (by omega),hi,decide_true,if_true] at h
  simp only [Option.bind_eq_bind,← Option.bind_assoc] at h
  exact ih (aQ1 h)
theorem bWo (q:aJ) (hz:eU q≤1048576) (h:oU q=some true):∀ y ∈ eD q,jI y=some true:=by
  have hq:=zQ q
  have hle:=aAa q
  rw [oU] at h
  simp only [Option.bind_eq_bind,← Option.bind_assoc] at h
  have h:=bQ9 q (by omega) 0 (by omega) (aQ1 h)
  rw [oM] at h
  simp only [dV,Nat.lt_irrefl,decide_false,Bool.false_eq_true,if_false] at h
  have h:=cBy q (by omega) 0 (by omega) h
  rw [pQ] at h
  simp only [dV,Nat.lt_irrefl,decide_false,Bool.false_eq_true,if_false,aE0 q hz,Option.bind_eq_bind,Option.bind_some] at h
  simpa using cDs (eD q) (by omega) 0 (by omega) h
theorem cAa (x:aB) (hl:x.kids.length≤1048576):∀ i,i≤x.kids.length→qV x (i:Nat)=some true→(∀ y ∈ x.kids.drop i,jI y=some true)∧qV x (x.kids.length:Nat)=some true:=by
  refine jL (fun h=>⟨fun y hy=>by simp at hy,h⟩) ?_
  intro i hi ih h
  rw [qV] at h
  simp only [dV,fO hi,iG hi (by omega),hi,decide_true,if_true] at h
  rw [Option.bind_eq_bind,Option.bind_some] at h
  obtain ⟨h1,h2⟩:=aMa h
  obtain ⟨h3,h4⟩:=ih h2
  refine ⟨fun y hy=>?_,h4⟩
  rw [List.drop_eq_getElem_cons hi] at hy
  rcases List.mem_cons.1 hy with rfl | hy
  · exact h1
  · exact h3 y hy
theorem bEu (x:aB) (hz:bL x≤1048576) (h:jI x=some true):aMx x∧(∀ y ∈ x.kids,jI y=some true)∧∀ q,x.sub[0]?=some q→∀ y ∈ eD q,jI y=some true:=by
  have hE:=zE x
  rw [jI] at h
  obtain ⟨h1,h2⟩:=aMa h
  obtain ⟨h3,h4⟩:=cAa x (by omega) 0 (by omega) h2
  refine ⟨cDa h1,by simpa using h3,fun q hq=>?_⟩
  have hm:q ∈ x.sub:=List.mem_of_getElem? hq
  have:=oW hm
  refine bWo q (by omega) ?_
  rw [qV] at h4
  have hne:¬ (x.sub.length:Int)=0:=by
    have:0<x.sub.length:=List.length_pos_of_mem hm
    omega
  have hi:idx x.sub 0=some q:=by rw [show (0:Int)=((0:Nat):Int) from rfl,qX,hq]
  simp only [dV,Nat.lt_irrefl,hne,hi,decide_false,Bool.false_eq_true,if_false,beq_self_eq_true,Bool.and_self,if_true,Option.bind_eq_bind,Option.bind_some] at h4
  cases hr:oU q with
  | none=>rw [hr] at h4; simp at h4
  | some b=>rw [hr] at h4; simpa using h4
def XT (y:aB):Prop:=TP (fun l=>gQ l false y) (fun l=>gU l y false) (32 * bL y+16)
def QT (q:aJ):Prop:=TP (fun l=>yI l false q) (fun l=>qU l q false) (32 * eU q+5)
theorem aR0 (l:List aA) (b:Bool) (w:List UInt8):uE l b w=if w=[] then some (b,l) else (appG 32 l [aA.mk 1 [65,83] 0])>>=fun y=>(appG 32 y [aA.mk 2 w 0])>>=fun y=>some (b,y):=by
  unfold uE
  by_cases h:w=[]
  · simp [h]
  · rw [if_pos (by simp [h]),if_neg h,kAS,qR]
    simp only [aKd,qR]
theorem aXp (l:List aA) (w:List UInt8):uQ l w=if w=[] then some l else (appG 32 l [aA.mk 1 [65,83] 0])>>=fun y=>(appG 32 y [aA.mk 2 w 0]):=by
  unfold uQ
  by_cases h:w=[]
  · simp [h]
  · rw [if_neg (by simp [h]),if_neg h,s12,aAr]
    simp only [Option.bind_eq_bind,Option.bind_some,zI,Option.bind_assoc,Option.bind_fun_some]
theorem TP.as_ (w:List UInt8):TP (fun l=>uE l false w) (fun l=>uQ l w) 2:=by
  by_cases h:w=[]
  · refine TP.mono ?_ (show 0≤2 by omega)
    exact TP.nil.congr (fun l=>by rw [aR0,if_pos h]) fun l=>by rw [aXp,if_pos h]
  · refine TP.congr (TP.app (t:=aA.mk 1 [65,83] 0) (TP.one (t:=aA.mk 2 w 0))) (fun l=>by rw [aR0,if_neg h]) fun l=>by rw [aXp,if_neg h]
theorem TP.not_ (x:aB):TP (fun l=>nW l false x.not_) (fun l=>pR l x) 1:=by
  by_cases h:x.not_=true
  · refine TP.congr (TP.one (t:=aA.mk 1 [78,79,84] 0)) (fun l=>by rw [aU6,if_pos h]) fun l=>by unfold pR; rw [if_pos h,s15]; simp
  · refine TP.mono ?_ (show 0≤1 by omega)
    exact TP.nil.congr (fun l=>by rw [aU6,if_neg h]) fun l=>by unfold pR; rw [if_neg h]
theorem TP.qual (w:List UInt8):TP (fun l=>xI l false w) (fun l=>if (!decide (w=[]))=true then (appG 32 l [aA.mk 2 w 0,aA.mk 5 [46] 0]) else some l) 2:=by
  unfold xI
  by_cases h:w=[]
  · refine TP.mono ?_ (show 0≤2 by omega)
    exact TP.nil.congr (fun l=>by simp [h]) fun l=>by simp [h]
  · refine TP.congr (TP.app (t:=aA.mk 2 w 0) (TP.one (t:=aA.mk 5 [46] 0))) (fun l=>?_) fun l=>?_
    · rw [if_pos (by simp [h]),aKd,qR]; simp only [aC7,qR]
    · rw [if_pos (by simp [h]),zI]
theorem TP.kid (x:aB) (i:Nat) (hi:i<x.kids.length) (hl:x.kids.length≤1048576) (h:XT x.kids[i]):TP (fun l=>iX l false x (i:Int)) (fun l=>iW l x (i:Int) false) (32 * bL x.kids[i]+18):=by
  obtain ⟨b,w1,w2⟩:=bEj x i hi hl
  cases b with
  | false =>
    refine TP.mono ?_ (show 32 * bL x.kids[i]+16≤_ by omega)
    refine TP.congr h (fun l=>?_) fun l=>?_
    · rw [iX,w1,fO hi]; simp; exact nN _
    · rw [iW,w2,fO hi]; simp
  | true =>
    have t:=TP.app (t:=aA.mk 5 [40] 0) (TP.seq (K:=fun z=>(appG 32 z.2 [aA.mk 5 [41] 0])>>=fun y=>some (z.1,y)) (K':=fun l=>appG 32 l [aA.mk 5 [41] 0]) h TP.one)
    refine (t.congr (fun l=>?_) fun l=>?_).mono (by omega)
    · rw [iX,w1,fO hi]; simp [aC7,Option.bind_assoc]
    · rw [iW,w2,fO hi]; simp [pM]
theorem TP.go {I S I' S'} {n m:Nat} (h1:∀ l,I' l=I l) (h2:∀ l,S' l=S l) (h:TP I S n) (hm:n≤m):TP I' S' m:=(h.congr h1 h2).mono hm
theorem TP.sign (w):TP (fun l=>jP l false w) (fun l=>appG 32 l [aA.mk 5 w 0]) 1:=TP.one.congr (fun l=>by rw [aC7]) fun l=>rfl
theorem TP.name (w):TP (fun l=>qC l false w) (fun l=>appG 32 l [aA.mk 2 w 0]) 1:=TP.one.congr (fun l=>by rw [aKd]) fun l=>rfl
theorem TP.key {w} (h:∀ l b,dC l b w=(appG 32 l [aA.mk 1 w 0])>>=fun y=>some (b,y)):TP (fun l=>dC l false w) (fun l=>appG 32 l [aA.mk 1 w 0]) 1:=TP.one.congr (fun l=>by rw [h]) fun l=>rfl
theorem TP.comma (i:Int):TP (fun l=>nD l false i) (fun l=>if 0<i then appG 32 l [aA.mk 5 [44] 0] else some l) 1:=by
  by_cases h:0<i
  · exact TP.one.congr (fun l=>by rw [aJc,if_pos h]) fun l=>by rw [if_pos h]
  · exact TP.go (fun l=>by rw [aJc,if_neg h]) (fun l=>by rw [if_neg h]) TP.nil (by omega)
theorem TP.where_ (w:List aB) (h:∀ y ∈ w,XT y):TP (fun l=>wK l false w) (fun l=>oP l w false) (32 * (w.length+eB w)):=by
  cases w with
  | nil=>exact TP.go (fun l=>by rw [wK]; simp) (fun l=>by rw [oP]; simp) TP.nil (by omega)
  | cons y w =>
    refine TP.go (I:=fun l=>(dC l false [87,72,69,82,69])>>=fun y1=>gQ y1.2 y1.1 y) (S:=fun l=>(appG 32 l [aA.mk 1 [87,72,69,82,69] 0])>>=fun l=>gU l y false) (fun l=>?_) (fun l=>?_) (TP.seq (TP.key cDo) (h y (by simp))) (by simp only [List.length_cons,eB]; omega)
    · rw [wK]
      rw [if_pos (by simp),show idx (y::w) 0=some y from rfl]
      simp only [Option.bind_eq_bind,Option.bind_some]
      simp only [← Option.bind_eq_bind,nN]
    · rw [oP,if_neg (by simp; omega),s6,show idx (y::w) 0=some y from rfl]
      simp only [Option.bind_eq_bind,Option.bind_some,Option.bind_fun_some]
theorem TP.on_ (w : List aB) (h : ∀ y ∈ w, XT y) : TP (fun l => if (decide (0 < (w.length : Int))) = true then ((dC l false [79, 78]) >>= fun (y6 : Bool × (List aA)) => (idx w 0) >>= fun (y7 : aB) => (gQ y6.2 y6.1 y7) >>= fun (y8 : Bool × (List aA)) => some (y8.1, y8.2)) else (some (false, l)))
    (fun l=>if (decide (0<(w.length:Int)))=true then (appG 32 l [aA.mk 1 [79,78] 0])>>=fun l=>(idx w 0)>>=fun y=>gU l y false else some l) (32 * (w.length+eB w)):=by
  cases w with
  | nil=>exact TP.go (fun l=>by simp) (fun l=>by simp) TP.nil (by omega)
  | cons y w =>
    refine TP.go (I:=fun l=>(dC l false [79,78])>>=fun y1=>gQ y1.2 y1.1 y) (S:=fun l=>(appG 32 l [aA.mk 1 [79,78] 0])>>=fun l=>gU l y false) (fun l=>?_) (fun l=>?_) (TP.seq (TP.key kON) (h y (by simp))) (by simp only [List.length_cons,eB]; omega)
    · rw [if_pos (by simp),show idx (y::w) 0=some y from rfl]
      simp only [Option.bind_eq_bind,Option.bind_some]
      simp only [← Option.bind_eq_bind,nN]
    · rw [if_pos (by simp),show idx (y::w) 0=some y from rfl]
      simp only [Option.bind_eq_bind,Option.bind_some]
def tC (s:aR) (l:List aA):Option (List aA):=(appG 32 l [aA.mk 2 s.table 0])>>=fun l=>(uQ l s.as_)>>=fun l=>if (decide (0<(s.on_.length:Int)))=true then (appG 32 l [aA.mk 1 [79,78] 0])>>=fun l=>(idx s.on_ 0)>>=fun y=>gU l y false else some l
theorem TP.src0 (s:aR) (h:∀ y ∈ s.on_,XT y):TP (fun l=>wC s false l) (tC s) (32 * (s.on_.length+eB s.on_)+3):=by
  refine TP.go (I:=fun l=>(qC l false s.table)>>=fun y4=>(uE y4.2 y4.1 s.as_)>>=fun y5=>if (decide (0<(s.on_.length:Int)))=true then ((dC y5.2 y5.1 [79,78])>>=fun (y6:Bool×(List aA))=>(idx s.on_ 0)>>=fun (y7:aB)=>(gQ y6.2 y6.1 y7)>>=fun (y8:Bool×(List aA))=>some (y8.1,y8.2)) else (some (y5.1,y5.2))) (S:=tC s) (fun l=>by rw [wC]) (fun l=>rfl) ?_ (Nat.le_refl _)
  unfold tC
  exact TP.mono (TP.seq (TP.name _) (TP.seq (TP.as_ _) (TP.on_ s.on_ h))) (by omega)
def N8 (s:aR) (i:Nat) (l:List aA):Option (List aA):=if 0<i∧0<s.on_.length then appG 32 l [aA.mk 1 [74,79,73,78] 0] else if 0<i then appG 32 l [aA.mk 5 [44] 0] else some l
theorem TP.src (s:aR) (i:Nat) (h:∀ y ∈ s.on_,XT y):TP (fun l=>F4 l false (i:Int) s) (fun l=>(N8 s i l)>>=tC s) (32 * (s.on_.length+eB s.on_)+4):=by
  have h0:=TP.src0 s h
  by_cases c:0<i∧0<s.on_.length
  · refine TP.go (I:=fun l=>(dC l false [74,79,73,78])>>=fun y2=>wC s y2.1 y2.2) (S:=fun l=>(appG 32 l [aA.mk 1 [74,79,73,78] 0])>>=tC s) (fun l=>?_) (fun l=>?_) (TP.seq (TP.key bTm) h0) (by omega)
    · rw [F4]
      have c1:(0:Int)<(i:Int):=by omega
      have c2:(0:Int)<(s.on_.length:Int):=by omega
      simp only [c1,c2,decide_true,if_true,Option.bind_eq_bind,Option.bind_some]
    · unfold N8; rw [if_pos c]
  · refine TP.go (I:=fun l=>(nD l false i)>>=fun y3=>wC s y3.1 y3.2) (S:=fun l=>(if 0<(i:Int) then appG 32 l [aA.mk 5 [44] 0] else some l)>>=tC s) (fun l=>?_) (fun l=>?_) (TP.seq (TP.comma i) h0) (by omega)
    · rw [F4]
      have:(if decide (0<(i:Int))=true then decide (0<(s.on_.length:Int)) else false)=false:=by
        by_cases c1:0<i
        · have:¬ 0<s.on_.length:=fun h=>c ⟨c1,h⟩
          have e:¬ (0:Int)<(s.on_.length:Int):=by omega
          simp only [e,decide_false,ite_self]
        · have e:¬ (0:Int)<(i:Int):=by omega
          simp only [e,decide_false,Bool.false_eq_true,if_false]
      rw [this]
      simp only [Option.bind_eq_bind,Option.bind_some,Bool.false_eq_true,if_false]
    · unfold N8; rw [if_neg c]; simp only [Int.natCast_pos]
theorem bTf (p:List aR) (i:Nat) (hi:i<p.length) (hl:p.length≤1048576) (l:List aA):qH p false l (i:Nat)=(N8 p[i] i l)>>=fun l=>(tC p[i] l)>>=fun l=>qH p false l ((i+1:Nat):Int):=by
  have hJ2:∀ l,V9 p false (i:Nat) l=(tC p[i] l)>>=fun l=>qH p false l ((i+1:Nat):Int):=by
    intro l
    rw [V9]
    unfold tC aA4
    simp only [fO hi,aAr,s5,iG hi (show p.length≤4611686018427387904 by omega),Option.bind_eq_bind,Option.bind_some,Option.bind_assoc]
    congr 1; funext a; congr 1; funext b
    by_cases c:(0:Int)<(p[i].on_.length:Int)
    · simp only [c,decide_true,if_true,Option.bind_assoc]
    · simp only [c,decide_false,Bool.false_eq_true,if_false,Option.bind_some]
  rw [qH]
  unfold aAl
  simp only [dV,hi,decide_true,if_true,fO hi,hJ2]
  unfold N8
  by_cases c1:0<i
  · have e1:(0:Int)<(i:Int):=by omega
    by_cases c2:0<p[i].on_.length
    · have e2:(0:Int)<(p[i].on_.length:Int):=by omega
      have e3:¬ (p[i].on_.length:Int)=0:=by omega
      have e4:¬ p[i].on_=[]:=fun h=>by rw [h] at c2; simp at c2
      simp [e1,e2,e3,e4,c1,c2,s4]
    · have e2:¬ (0:Int)<(p[i].on_.length:Int):=by omega
      have e3:(p[i].on_.length:Int)=0:=by omega
      have e4:p[i].on_=[]:=List.eq_nil_of_length_eq_zero (by omega)
      simp [e1,e2,e3,c1,c2,e4,pM]
  · have e1:¬ (0:Int)<(i:Int):=by omega
    have e2:i=0:=by omega
    subst e2
    simp
theorem X8 {α:Type} (z:α→Nat) (c:Nat):∀ l:List α,(l.map fun x=>32 * z x+c).sum=32 * (l.map z).sum+c * l.length
  | []=>by simp
  | x::l=>by simp only [List.map_cons,List.sum_cons,X8 z c l,List.length_cons,Nat.mul_add]; omega
theorem aYo:∀ l:List aZ,iQ l=(l.map fC).sum
  | []=>by simp [iQ]
  | x::l=>by simp [iQ,aYo l]
theorem aYj:∀ l:List aR,gZ l=(l.map fD).sum
  | []=>by simp [gZ]
  | x::l=>by simp [gZ,aYj l]
theorem aY3:∀ l:List aX,iI l=(l.map fI).sum
  | []=>by simp [iI]
  | x::l=>by simp [iI,aY3 l]
theorem TP.order (q:aJ) (hz:eU q≤1048576) (ok:okI q.limit) (h:∀ y ∈ eD q,XT y):TP (fun l=>jA q 0 false l) (fun l=>iL false q l 0) (32 * (q.order.map fI).sum+19 * q.order.length+2):=by
  have hq:=zQ q
  have t:=TP.loop (p:=q.order) (LI:=fun i l=>jA q i false l) (LS:=fun l i=>iL false q l i) (w:=fun x=>32 * fI x+19) (n:=2) ?_ ?_ 0 (by omega)
  · rw [List.drop_zero,X8] at t
    exact t
  · by_cases hlim:0≤q.limit
    · refine TP.go (I:=fun l=>(dC l false [76,73,77,73,84])>>=fun y=>(appG 32 y.2 [aA.mk 3 (Lib.itoa q.limit) 0])>>=fun z=>some (y.1,z)) (S:=fun l=>(appG 32 l [aA.mk 1 [76,73,77,73,84] 0])>>=fun l=>appG 32 l [aA.mk 3 (Lib.itoa q.limit) 0]) (fun l=>?_) (fun l=>?_) (TP.seq (TP.key bWs) TP.one) (by omega)
      · rw [jA]
        simp only [dV,Nat.lt_irrefl,decide_false,Bool.false_eq_true,if_false,hlim,decide_true,if_true,yC,aAn,Q4,Option.bind_eq_bind,Option.bind_some,Option.bind_assoc]
      · rw [iL]
        unfold S9
        simp only [dV,Nat.lt_irrefl,decide_false,Bool.false_eq_true,if_false,hlim,decide_true,if_true,s11,bD2 q.limit ok.1 (by have:=ok.2; omega),zI,Option.bind_eq_bind,Option.bind_some,Option.bind_assoc,Option.bind_fun_some]
    · refine TP.go (fun l=>?_) (fun l=>?_) TP.nil (by omega)
      · rw [jA]
        simp only [dV,Nat.lt_irrefl,decide_false,Bool.false_eq_true,if_false,hlim]
      · rw [iL]
        unfold S9
        simp only [dV,Nat.lt_irrefl,decide_false,Bool.false_eq_true,if_false,hlim]
  · intro i hi m ih
    have hx:XT q.order[i].expr:=h _ (by simp only [eD,List.mem_append,List.mem_flatMap]; exact .inr ⟨q.order[i],List.getElem_mem hi,by simp⟩)
    have hzx:bL q.order[i].expr≤fI q.order[i]:=by obtain ⟨a,b⟩:=q.order[i]; simp only [fI]; omega
    have hw:IntKind.wrap .i64 ((i:Int)+1)=((i+1:Nat):Int):=iG hi (by omega)
    -- after the expression
    have tl : TP (fun l => if q.order[i].desc = true then ((dC l false [68, 69, 83, 67]) >>= fun y => jA q ((i + 1 : Nat) : Int) y.1 y.2) else (jA q ((i + 1 : Nat) : Int) false l))
        (fun l=>if q.order[i].desc=true then ((appG 32 l [aA.mk 1 [68,69,83,67] 0])>>=fun l=>iL false q l ((i+1:Nat):Int)) else (iL false q l ((i+1:Nat):Int))) (m+1):=by
      by_cases hd:q.order[i].desc=true
      · exact TP.go (fun l=>by rw [if_pos hd]) (fun l=>by rw [if_pos hd]) (TP.seq (TP.key bIx) ih) (by omega)
      · exact TP.go (fun l=>by rw [if_neg hd]) (fun l=>by rw [if_neg hd]) ih (by omega)
    have t2:=TP.seq (K:=fun y=>if q.order[i].desc=true then ((dC y.2 y.1 [68,69,83,67])>>=fun y=>jA q ((i+1:Nat):Int) y.1 y.2) else (jA q ((i+1:Nat):Int) y.1 y.2)) hx tl
    have eI:∀ b l,P8 (i:Int) q q.order[i] b l=(nD l b (i:Int))>>=fun y=>(gQ y.2 y.1 q.order[i].expr)>>=fun y=>if q.order[i].desc=true then ((dC y.2 y.1 [68,69,83,67])>>=fun y=>jA q ((i+1:Nat):Int) y.1 y.2) else (jA q ((i+1:Nat):Int) y.1 y.2):=by
      intro b l
      rw [P8]
      simp only [Y2,hw]
    have eS:∀ l,H7 false (i:Int) q l=(gU l q.order[i].expr false)>>=fun l=>if q.order[i].desc=true then ((appG 32 l [aA.mk 1 [68,69,83,67] 0])>>=fun l=>iL false q l ((i+1:Nat):Int)) else (iL false q l ((i+1:Nat):Int)):=by
      intro l
      rw [H7]
      simp only [Z5,hw,fO hi,s10,Option.bind_eq_bind,Option.bind_some]
    by_cases h0:i=0
    · refine TP.go (I := fun l => (appG 32 l [aA.mk 1 [79, 82, 68, 69, 82] 0]) >>= fun l => (appG 32 l [aA.mk 1 [66, 89] 0]) >>= fun l => (gQ l false q.order[i].expr) >>= fun y => if q.order[i].desc = true then ((dC y.2 y.1 [68, 69, 83, 67]) >>= fun y => jA q ((i + 1 : Nat) : Int) y.1 y.2) else (jA q ((i + 1 : Nat) : Int) y.1 y.2))
        (S:=fun l=>(appG 32 l [aA.mk 1 [79,82,68,69,82] 0])>>=fun l=>(appG 32 l [aA.mk 1 [66,89] 0])>>=fun l=>(gU l q.order[i].expr false)>>=fun l=>if q.order[i].desc=true then ((appG 32 l [aA.mk 1 [68,69,83,67] 0])>>=fun l=>iL false q l ((i+1:Nat):Int)) else (iL false q l ((i+1:Nat):Int))) (fun l=>?_) (fun l=>?_) (TP.app (TP.app t2)) (by omega)
      · rw [jA]
        simp only [dV,hi,decide_true,if_true,fO hi,Option.bind_eq_bind,Option.bind_some]
        rw [if_pos (by simp [h0]),cBw]
        simp only [eI,Option.bind_eq_bind,Option.bind_assoc,Option.bind_some,aJc]
        have:¬ (0:Int)<(i:Int):=by omega
        simp only [this,if_false,Option.bind_some]
      · rw [iL]
        simp only [dV,hi,decide_true,if_true,s7,s8,zI,Option.bind_eq_bind,Option.bind_some,Option.bind_assoc]
        rw [if_pos (by simp [h0])]
        simp only [eS,Option.bind_eq_bind]
    · have c:(0:Int)<(i:Int):=by omega
      refine TP.go (I:=fun l=>(appG 32 l [aA.mk 5 [44] 0])>>=fun l=>(gQ l false q.order[i].expr)>>=fun y=>if q.order[i].desc=true then ((dC y.2 y.1 [68,69,83,67])>>=fun y=>jA q ((i+1:Nat):Int) y.1 y.2) else (jA q ((i+1:Nat):Int) y.1 y.2))
        (S:=fun l=>(appG 32 l [aA.mk 5 [44] 0])>>=fun l=>(gU l q.order[i].expr false)>>=fun l=>if q.order[i].desc=true then ((appG 32 l [aA.mk 1 [68,69,83,67] 0])>>=fun l=>iL false q l ((i+1:Nat):Int)) else (iL false q l ((i+1:Nat):Int))) (fun l=>?_) (fun l=>?_) (TP.app t2) (by omega)
      · rw [jA]
        simp only [dV,hi,decide_true,if_true,fO hi,Option.bind_eq_bind,Option.bind_some]
        rw [if_neg (by simp [h0])]
        simp only [eI,Option.bind_eq_bind,Option.bind_assoc,Option.bind_some,aJc,c,if_true]
      · rw [iL]
        simp only [dV,hi,decide_true,if_true,pM,Option.bind_eq_bind,Option.bind_some,Option.bind_assoc]
        rw [if_neg (by simp [h0])]
        simp only [eS,Option.bind_eq_bind]
theorem TP.from_ (q : aJ) (hz : eU q ≤ 1048576) (ok : okI q.limit) (h : ∀ y ∈ eD q, XT y) : TP (fun l => sN q 0 false l) (fun l => (K9 l q.from_ false) >>= fun l => (oP l q.where_ false) >>= fun l => iL false q l 0)
    (32 * (q.from_.map fD).sum+21 * q.from_.length+(32 * (q.where_.length+eB q.where_)+(32 * (q.order.map fI).sum+19 * q.order.length+2))):=by
  have hq:=zQ q
  have t:=TP.loop (p:=q.from_) (LI:=fun i l=>sN q i false l) (LS:=fun l i=>(qH q.from_ false l i)>>=fun l=>(oP l q.where_ false)>>=fun l=>iL false q l 0) (w:=fun x=>32 * fD x+21) (n:=32 * (q.where_.length+eB q.where_)+(32 * (q.order.map fI).sum+19 * q.order.length+2)) ?_ ?_ 0 (by omega)
  · rw [List.drop_zero,X8] at t
    exact t.congr (fun l=>rfl) fun l=>by rw [K9]; rfl
  · refine TP.go (I:=fun l=>(wK l false q.where_)>>=fun y=>jA q 0 y.1 y.2) (S:=fun l=>(oP l q.where_ false)>>=fun l=>iL false q l 0) (fun l=>?_) (fun l=>?_) (TP.seq (TP.where_ _ fun y hy=>h y (by simp only [eD,List.mem_append]; exact .inl (.inr hy))) (TP.order q hz ok h)) (Nat.le_refl _)
    · rw [sN]
      simp only [dV,Nat.lt_irrefl,decide_false,Bool.false_eq_true,if_false]
    · rw [qH]
      simp only [dV,Nat.lt_irrefl,decide_false,Bool.false_eq_true,if_false,Option.bind_eq_bind,Option.bind_some]
  · intro i hi m ih
    have hw:IntKind.wrap .i64 ((i:Int)+1)=((i+1:Nat):Int):=iG hi (by omega)
    have hs:∀ y ∈ q.from_[i].on_,XT y:=fun y hy=>h y (by simp only [eD,List.mem_append,List.mem_flatMap]; exact .inl (.inl (.inr ⟨q.from_[i],List.getElem_mem hi,hy⟩)))
    have hzs:q.from_[i].on_.length+eB q.from_[i].on_≤fD q.from_[i]:=by obtain ⟨a,b,c⟩:=q.from_[i]; simp only [fD]; omega
    refine TP.go (I:=fun l=>(F4 l false (i:Int) q.from_[i])>>=fun y=>sN q ((i+1:Nat):Int) y.1 y.2) (S:=fun l=>((N8 q.from_[i] i l)>>=tC q.from_[i])>>=fun l=>(qH q.from_ false l ((i+1:Nat):Int))>>=fun l=>(oP l q.where_ false)>>=fun l=>iL false q l 0) (fun l=>?_) (fun l=>?_) (TP.seq (TP.src q.from_[i] i hs) ih) (by omega)
    · rw [sN]
      simp only [dV,hi,decide_true,if_true,fO hi,hw,Option.bind_eq_bind,Option.bind_some]
    · rw [bTf q.from_ i hi (by omega)]
      simp only [Option.bind_eq_bind,Option.bind_assoc]
theorem TP.items (q : aJ) (hz : eU q ≤ 1048576) (ok : okI q.limit) (h : ∀ y ∈ eD q, XT y) : TP (fun l => nY q 0 false l) (fun l => nL false q l 0)
    (32 * (q.items.map fC).sum+19 * q.items.length+(1+(32 * (q.from_.map fD).sum+21 * q.from_.length+(32 * (q.where_.length+eB q.where_)+(32 * (q.order.map fI).sum+19 * q.order.length+2))))):=by
  have hq:=zQ q
  have t:=TP.loop (p:=q.items) (LI:=fun i l=>nY q i false l) (LS:=fun l i=>nL false q l i) (w:=fun x=>32 * fC x+19) (n:=1+(32 * (q.from_.map fD).sum+21 * q.from_.length+(32 * (q.where_.length+eB q.where_)+(32 * (q.order.map fI).sum+19 * q.order.length+2)))) ?_ ?_ 0 (by omega)
  · rw [List.drop_zero,X8] at t
    exact t
  · refine TP.go (I:=fun l=>(dC l false [70,82,79,77])>>=fun y=>sN q 0 y.1 y.2) (S:=fun l=>(appG 32 l [aA.mk 1 [70,82,79,77] 0])>>=fun l=>(K9 l q.from_ false)>>=fun l=>(oP l q.where_ false)>>=fun l=>iL false q l 0) (fun l=>?_) (fun l=>?_) (TP.seq (TP.key bS6) (TP.from_ q hz ok h)) (Nat.le_refl _)
    · rw [nY]
      simp only [dV,Nat.lt_irrefl,decide_false,Bool.false_eq_true,if_false]
    · rw [nL]
      simp only [dV,Nat.lt_irrefl,decide_false,Bool.false_eq_true,if_false,s3,Option.bind_eq_bind,Option.bind_some]
  · intro i hi m ih
    have hw:IntKind.wrap .i64 ((i:Int)+1)=((i+1:Nat):Int):=iG hi (by omega)
    have eS:∀ l,nL false q l (i:Int)=(if 0<(i:Int) then appG 32 l [aA.mk 5 [44] 0] else some l)>>=fun l=>(M5 l q.items[i] false)>>=fun l=>nL false q l ((i+1:Nat):Int):=by
      intro l
      conv=>lhs; rw [nL]
      simp only [dV,hi,decide_true,if_true,pM,aAt,fO hi,hw,Option.bind_eq_bind,Option.bind_some]
      by_cases c:(0:Int)<(i:Int)
      · simp only [c,decide_true,if_true]
      · simp only [c,decide_false,Bool.false_eq_true,if_false,Option.bind_some]
    have hzi:bL q.items[i].expr≤fC q.items[i]:=by generalize q.items[i]=it; cases it; simp only [fC]; omega
    by_cases hs:q.items[i].star=true
    · refine TP.go (n := 1 + (2 + (1 + m))) (I := fun l => (nD l false (i : Int)) >>= fun y => (xI y.2 y.1 q.items[i].qual) >>= fun y => (jP y.2 y.1 [42]) >>= fun y => nY q ((i + 1 : Nat) : Int) y.1 y.2)
        (S:=fun l=>(if 0<(i:Int) then appG 32 l [aA.mk 5 [44] 0] else some l)>>=fun l=>(if (!decide (q.items[i].qual=[]))=true then (appG 32 l [aA.mk 2 q.items[i].qual 0,aA.mk 5 [46] 0]) else some l)>>=fun l=>(appG 32 l [aA.mk 5 [42] 0])>>=fun l=>nL false q l ((i+1:Nat):Int)) (fun l=>?_) (fun l=>?_)
        (TP.seq (TP.comma i) (TP.seq (TP.qual _) (TP.seq (TP.sign _) ih))) (by omega)
      · rw [nY]
        simp only [dV,hi,decide_true,if_true,fO hi,hw,hs,Q9,Option.bind_eq_bind,Option.bind_some]
      · rw [eS]
        congr 1; funext l
        rw [M5]
        unfold aAo
        by_cases c:q.items[i].qual=[]
        · simp only [hs,c,aAr,pM,decide_true,Bool.not_true,Bool.false_eq_true,if_false,Option.bind_eq_bind,Option.bind_some,Option.bind_assoc]
        · simp only [hs,c,aAr,pM,decide_false,Bool.not_true,Bool.not_false,if_true,Bool.false_eq_true,if_false,Option.bind_eq_bind,Option.bind_some,Option.bind_assoc]
    · have hx:XT q.items[i].expr:=h _ (by simp only [eD,List.mem_append,List.mem_flatMap]; exact .inl (.inl (.inl ⟨q.items[i],List.getElem_mem hi,by simp [hs]⟩)))
      have hs':q.items[i].star=false:=by simpa using hs
      refine TP.go (n:=1+(32 * bL q.items[i].expr+16+(2+m))) (I:=fun l=>(nD l false (i:Int))>>=fun y=>(gQ y.2 y.1 q.items[i].expr)>>=fun y=>(uE y.2 y.1 q.items[i].as_)>>=fun y=>nY q ((i+1:Nat):Int) y.1 y.2)
        (S:=fun l=>(if 0<(i:Int) then appG 32 l [aA.mk 5 [44] 0] else some l)>>=fun l=>(gU l q.items[i].expr false)>>=fun l=>(uQ l q.items[i].as_)>>=fun l=>nL false q l ((i+1:Nat):Int)) (fun l=>?_) (fun l=>?_)
        (TP.seq (TP.comma i) (TP.seq hx (TP.seq (TP.as_ _) ih))) (by omega)
      · rw [nY]
        simp only [dV,hi,decide_true,if_true,fO hi,hw,hs',Bool.false_eq_true,if_false,Q9,Option.bind_eq_bind,Option.bind_some]
      · rw [eS]
        congr 1; funext l
        rw [M5]
        simp only [hs',Bool.not_false,if_true,Option.bind_eq_bind,Option.bind_assoc,Option.bind_some]
theorem bIc (q:aJ) (hz:eU q≤1048576) (ok:okI q.limit) (h:∀ y ∈ eD q,XT y):QT q:=by
  have hq:=zQ q
  have t:=TP.items q hz ok h
  rw [aYo,aYj,aY3] at hq
  by_cases hd:q.distinct=true
  · refine TP.go (I := fun l => (dC l false [83, 69, 76, 69, 67, 84]) >>= fun y => (dC y.2 y.1 [68, 73, 83, 84, 73, 78, 67, 84]) >>= fun y => nY q 0 y.1 y.2) (S := fun l => (appG 32 l [aA.mk 1 [83, 69, 76, 69, 67, 84] 0]) >>= fun l => (appG 32 l [aA.mk 1 [68, 73, 83, 84, 73, 78, 67, 84] 0]) >>= fun l => nL false q l 0) (fun l => ?_) (fun l => ?_)
      (TP.seq (TP.key aUy) (TP.seq (TP.key bR7) t)) (by omega)
    · rw [yI]
      simp only [hd,if_true,R7]
    · rw [qU]
      simp only [hd,if_true,O3,s1,s2,Option.bind_eq_bind,Option.bind_some]
  · refine TP.go (I := fun l => (dC l false [83, 69, 76, 69, 67, 84]) >>= fun y => nY q 0 y.1 y.2) (S := fun l => (appG 32 l [aA.mk 1 [83, 69, 76, 69, 67, 84] 0]) >>= fun l => nL false q l 0) (fun l => ?_) (fun l => ?_)
      (TP.seq (TP.key aUy) t) (by omega)
    · rw [yI]
      simp only [hd,if_false,R7,Bool.false_eq_true]
    · rw [qU]
      simp only [hd,if_false,Bool.false_eq_true,O3,s1,Option.bind_eq_bind,Option.bind_some]
theorem aTp (p:List aB) (d:aB→Int) (hz:p.length+(p.map bL).sum≤1048576) (H:∀ y ∈ p,qF y=some (d y)∧0≤d y∧d y≤1+bL y):I8 p=some (p.map d).sum:=by
  have hs:=aDx (z:=bL) (d:=d) (p:=p) fun y hy=>(H y hy).2
  rw [I8]
  rw [folded (p:=p) (g:=fun y b=>(qF y)>>=fun r=>some (IntKind.wrap .i64 (b+r))) (h:=fun y b=>IntKind.wrap .i64 (b+d y)) (L:=fun b i=>K7 p b i) (K:=fun b=>some b) (by omega) ?_ ?_ 0]
  · rw [aNg (by omega) (fun y hy=>(H y hy).2.1) (by omega)]; simp
  · intro y hy b; simp only [(H y hy).1,Option.bind_eq_bind,Option.bind_some]
  · intro i b; rw [K7]; simp only [Option.bind_eq_bind,Option.bind_assoc,Option.bind_some]
theorem cAw (q:aJ) (d:aB→Int) (hz:eU q≤1048576) (H:∀ y ∈ eD q,qF y=some (d y)∧0≤d y∧d y≤1+bL y):wT q=some ((eD q).map d).sum:=by
  have hl:=bB5 q
  rw [wT,aOj q hz]
  simp only [Option.bind_eq_bind,Option.bind_some]
  rw [aTp _ d (by omega) H]; rfl
def pU (left S r:Int):Prop:=(S≤left∧r=left - S)∨(left<S∧r<0)
theorem aQd (x:aB) (l:Int) (h:l<0) (i:Int):uX x l i=some l:=by
  rw [uX]
  have:¬ 0≤l:=by omega
  simp [this]
theorem aFx {α:Type} {d:α→Int}:∀ {l:List α},(∀ y ∈ l,0≤d y)→0≤(l.map d).sum
  | [],_=>by simp
  | a::l,h=>by
    have:=h a (by simp)
    have:=aFx (l:=l) fun y hy=>h y (by simp [hy])
    simp only [List.map_cons,List.sum_cons]; omega
theorem left_eq:∀ n:Nat,∀ x:aB,bL x<n→bL x≤1048576→∃ d:Int,qF x=some d∧0≤d∧d≤1+bL x∧∀ left:Int,0≤left→left≤1048576→∃ r,vR x left=some r∧pU left d r:=by
  intro n
  induction n with
  | zero=>intro x h _; omega
  | succ n ih =>
    intro x hx hz
    have hE:=zE x
    let d:aB→Int:=fun y=>(qF y).getD 0
    have H:∀ y,bL y<bL x→qF y=some (d y)∧(0≤d y∧d y≤1+bL y)∧∀ left:Int,0≤left→left≤1048576→∃ r,vR y left=some r∧pU left (d y) r:=by
      intro y hy
      obtain ⟨r,h1,h2,h3,h4⟩:=ih y (by omega) (by omega)
      simp only [d,h1,Option.getD_some,true_and]
      exact ⟨⟨h2,h3⟩,h4⟩
    let e:aJ→Int:=fun q=>((eD q).map d).sum
    have HQ:∀ q ∈ x.sub,wT q=some (e q)∧(0≤e q∧e q≤eU q)∧eU q≤1048576∧∀ y ∈ eD q,bL y<bL x:=by
      intro q hq
      have h1:=oW hq
      have h2:∀ y ∈ eD q,bL y<bL x:=fun y hy=>by have:=aBn hy; omega
      have h3:=aDx (z:=bL) (d:=d) (p:=eD q) fun y hy=>(H y (h2 y hy)).2.1
      have h4:=bB5 q
      exact ⟨cAw q d (by omega) fun y hy=>⟨(H y (h2 y hy)).1,(H y (h2 y hy)).2.1⟩,⟨h3.1,by show ((eD q).map d).sum≤_; omega⟩,by omega,h2⟩
    have HK:∀ y ∈ x.kids,bL y<bL x:=fun y hy=>by have:=kE hy; omega
    have hk:=aDx (z:=bL) (d:=d) (p:=x.kids) fun y hy=>(H y (HK y hy)).2.1
    have hq:=aZh (z:=eU) (d:=e) (p:=x.sub) fun y hy=>(HQ y hy).2.1
    have hk':=tK x.kids
    have hq':=aIo x.sub
    have enn:∀ l:List aJ,(∀ q ∈ l,q ∈ x.sub)→0≤(l.map e).sum:=fun l hl=>aFx fun q hq=>(HQ q (hl q hq)).2.1.1
    have L1:∀ i,i≤x.sub.length→∀ left:Int,left≤1048576→∃ r,uX x left (i:Nat)=some r∧pU left ((x.sub.drop i).map e).sum r:=by
      refine jL ?_ ?_
      · intro left hl
        rw [uX]
        refine ⟨left,by simp,?_⟩
        simp only [List.drop_length,List.map_nil,List.sum_nil,pU]
        omega
      · intro i hi ihi left hl
        have hmem:=List.getElem_mem hi
        obtain ⟨_,q2,q3,q4⟩:=HQ _ hmem
        have hrest:=enn (x.sub.drop (i+1)) fun q hq=>List.mem_of_mem_drop hq
        rw [List.drop_eq_getElem_cons hi,List.map_cons,List.sum_cons]
        by_cases h0:0≤left
        · have hle:=aAa x.sub[i]
          have L2:∀ j,j≤(eD x.sub[i]).length→∀ left:Int,left≤1048576→∃ r,wP (i:Int) (eD x.sub[i]) x left (j:Nat)=some r∧pU left ((((eD x.sub[i]).drop j).map d).sum+((x.sub.drop (i+1)).map e).sum) r:=by
            refine jL ?_ ?_
            · intro left hl
              rw [wP]
              obtain ⟨r,h1,h2⟩:=ihi left hl
              have w:=iG hi (by omega)
              refine ⟨r,by simp [w]; simpa using h1,?_⟩
              simpa using h2
            · intro j hj ihj left hl
              have hy:=List.getElem_mem hj
              obtain ⟨_,y2,y3⟩:=H _ (q4 _ hy)
              have hnn:0≤(((eD x.sub[i]).drop (j+1)).map d).sum:=aFx fun y hy=>(H y (q4 y (List.mem_of_mem_drop hy))).2.1.1
              rw [List.drop_eq_getElem_cons hj,List.map_cons,List.sum_cons]
              rw [wP]
              by_cases h0:0≤left
              · obtain ⟨r',r1,r2⟩:=y3 left h0 hl
                have hr':r'≤1048576:=by rcases r2 with r2 | r2 <;> omega
                obtain ⟨r,s1,s2⟩:=ihj r' hr'
                refine ⟨r,?_,?_⟩
                · simp only [dV,fO hj,iG hj (by omega),hj,h0,decide_true,if_true,r1,Option.bind_eq_bind,Option.bind_some]
                  exact s1
                · unfold pU at *
                  omega
              · refine ⟨left,?_,?_⟩
                · simp only [h0,decide_false,Option.bind_eq_bind,Option.bind_some]
                  rw [aQd x left (by omega)]
                  simp
                · unfold pU; omega
          obtain ⟨r,s1,s2⟩:=L2 0 (by omega) left hl
          rw [uX]
          refine ⟨r,?_,?_⟩
          · simp only [dV,fO hi,hi,h0,decide_true,if_true,aE0 _ q3,Option.bind_eq_bind,Option.bind_some]
            exact s1
          · simpa using s2
        · refine ⟨left,aQd x left (by omega) _,?_⟩
          unfold pU
          have:=q2.1
          omega
    have L0:∀ i,i≤x.kids.length→∀ left:Int,left≤1048576→∃ r,yB x left (i:Nat)=some r∧pU left (((x.kids.drop i).map d).sum+(x.sub.map e).sum) r:=by
      have hsub:=enn x.sub fun _ h=>h
      refine jL ?_ ?_
      · intro left hl
        rw [yB]
        obtain ⟨r,h1,h2⟩:=L1 0 (by omega) left hl
        refine ⟨r,by simpa using h1,by simpa using h2⟩
      · intro i hi ihi left hl
        have hy:=List.getElem_mem hi
        obtain ⟨_,y2,y3⟩:=H _ (HK _ hy)
        have hnn:0≤((x.kids.drop (i+1)).map d).sum:=aFx fun y hy=>(H y (HK y (List.mem_of_mem_drop hy))).2.1.1
        rw [List.drop_eq_getElem_cons hi,List.map_cons,List.sum_cons]
        rw [yB]
        by_cases h0:0≤left
        · obtain ⟨r',r1,r2⟩:=y3 left h0 hl
          have hr':r'≤1048576:=by rcases r2 with r2 | r2 <;> omega
          obtain ⟨r,s1,s2⟩:=ihi r' hr'
          refine ⟨r,?_,?_⟩
          · simp only [dV,fO hi,iG hi (by omega),hi,h0,decide_true,if_true,r1,Option.bind_eq_bind,Option.bind_some]
            exact s1
          · unfold pU at *
            omega
        · refine ⟨left,?_,?_⟩
          · simp only [h0,decide_false,Option.bind_eq_bind,Option.bind_some]
            rw [aQd x left (by omega)]
            simp
          · unfold pU; omega
    refine ⟨1+(x.kids.map d).sum+(x.sub.map e).sum,?_,by omega,by omega,?_⟩
    · rw [qF,aTp x.kids d (by omega) fun y hy=>⟨(H y (HK y hy)).1,(H y (HK y hy)).2.1⟩]
      simp only [Option.bind_eq_bind,Option.bind_some]
      rw [iP (by omega) (by omega)]
      rw [folded (p:=x.sub) (g:=fun y b=>(wT y)>>=fun r=>some (IntKind.wrap .i64 (b+r))) (h:=fun y b=>IntKind.wrap .i64 (b+e y)) (L:=fun b i=>O4 x b i) (K:=fun b=>some b) (by omega) ?_ ?_ _]
      · rw [aNg (by omega) (fun y hy=>(HQ y hy).2.1.1) (by omega)]
      · intro y hy b; simp only [(HQ y hy).1,Option.bind_eq_bind,Option.bind_some]
      · intro i b; rw [O4]; simp only [Option.bind_eq_bind,Option.bind_assoc,Option.bind_some]
    · intro left h0 h1
      rw [vR,iP (by omega) (by omega)]
      obtain ⟨r,s1,s2⟩:=L0 0 (by omega) (left - 1) (by omega)
      refine ⟨r,s1,?_⟩
      simp only [List.drop_zero] at s2
      unfold pU at *
      omega
theorem aOm (a b:Int):tN a b=some (if b > a then b else a):=by
  unfold tN
  by_cases h:b<a
  · simp [h]; omega
  · by_cases h2:b > a
    · simp [h,h2]
    · simp [h,h2]; omega
def mx (b r:Int):Int:=if r > b then r else b
theorem bVp (q:aJ) (d:aB→Int) (hz:eU q≤1048576) (H:∀ y ∈ eD q,nQ y=some (d y)):A9 q=some ((eD q).foldl (fun b y=>mx b (d y)) 0):=by
  have hl:=aAa q
  rw [A9,aE0 q hz]
  simp only [Option.bind_eq_bind,Option.bind_some]
  refine folded (p:=eD q) (g:=fun y b=>(nQ y)>>=fun r=>tN b r) (h:=fun y b=>mx b (d y)) (L:=fun b i=>C9 (eD q) b i) (K:=fun b=>some b) (by omega) ?_ ?_ 0
  · intro y hy b; simp only [H y hy,Option.bind_eq_bind,Option.bind_some,aOm,mx]
  · intro i b; rw [C9]; simp only [Option.bind_eq_bind,Option.bind_assoc]
theorem bVl (q:aJ) (d:aB→Int) (hz:eU q≤1048576) (H:∀ y ∈ eD q,pG y=some (d y)):D8 q=some ((eD q).foldl (fun b y=>mx b (d y)) 0):=by
  have hl:=aAa q
  rw [D8,aOj q hz]
  simp only [Option.bind_eq_bind,Option.bind_some]
  rw [aJm]
  rw [folded (p:=eD q) (g:=fun y b=>(pG y)>>=fun r=>some (mx b r)) (h:=fun y b=>mx b (d y)) (L:=fun b i=>xU (eD q) b i) (K:=fun b=>some b) (by omega) ?_ ?_ 0]
  · rfl
  · intro y hy b; simp only [H y hy,Option.bind_eq_bind,Option.bind_some]
  · intro i b; rw [xU]; simp only [Option.bind_eq_bind,Option.bind_assoc,Option.bind_some,mx]
theorem bPb:∀ n:Nat,∀ x:aB,bL x<n→bL x≤1048576→∃ d,nQ x=some d∧pG x=some d:=by
  intro n
  induction n with
  | zero=>intro x h _; omega
  | succ n ih =>
    intro x hx hz
    have hE:=zE x
    let d:aB→Int:=fun y=>(nQ y).getD 0
    have H:∀ y,bL y<bL x→nQ y=some (d y)∧pG y=some (d y):=by
      intro y hy
      obtain ⟨r,h1,h2⟩:=ih y (by omega) (by omega)
      simp only [d,h1,h2,Option.getD_some,and_self]
    let e:aJ→Int:=fun q=>(eD q).foldl (fun b y=>mx b (d y)) 0
    have HQ:∀ q ∈ x.sub,A9 q=some (e q)∧D8 q=some (e q):=by
      intro q hq
      have h1:=oW hq
      exact ⟨bVp q d (by omega) fun y hy=>(H y (by have:=aBn hy; omega)).1,bVl q d (by omega) fun y hy=>(H y (by have:=aBn hy; omega)).2⟩
    have HK:∀ y ∈ x.kids,nQ y=some (d y)∧pG y=some (d y):=fun y hy=>H y (by have:=kE hy; omega)
    refine ⟨IntKind.wrap .i64 (x.sub.foldl (fun b y=>mx b (e y)) (x.kids.foldl (fun b y=>mx b (d y)) 0)+1),?_,?_⟩
    · rw [nQ]
      rw [folded (p:=x.kids) (g:=fun y b=>(nQ y)>>=fun r=>tN b r) (h:=fun y b=>mx b (d y)) (L:=fun b i=>M7 x b i) (K:=fun b=>zX x b 0) (by omega) ?_ ?_ 0]
      · rw [folded (p:=x.sub) (g:=fun y b=>(A9 y)>>=fun r=>tN b r) (h:=fun y b=>mx b (e y)) (L:=fun b i=>zX x b i) (K:=fun b=>some (IntKind.wrap .i64 (b+1))) (by omega) ?_ ?_ _]
        · intro y hy b; simp only [(HQ y hy).1,Option.bind_eq_bind,Option.bind_some,aOm,mx]
        · intro i b; rw [zX]; simp only [Option.bind_eq_bind,Option.bind_assoc]
      · intro y hy b; simp only [(HK y hy).1,Option.bind_eq_bind,Option.bind_some,aOm,mx]
      · intro i b; rw [M7]; simp only [Option.bind_eq_bind,Option.bind_assoc]
    · rw [pG]
      rw [folded (p:=x.kids) (g:=fun y b=>(pG y)>>=fun r=>some (mx b r)) (h:=fun y b=>mx b (d y)) (L:=fun b i=>Q8 x b i) (K:=fun b=>E8 x b 0) (by omega) ?_ ?_ 0]
      · rw [folded (p:=x.sub) (g:=fun y b=>(D8 y)>>=fun r=>some (mx b r)) (h:=fun y b=>mx b (e y)) (L:=fun b i=>E8 x b i) (K:=fun b=>some (IntKind.wrap .i64 (1+b))) (by omega) ?_ ?_ _]
        · rw [Int.add_comm]
        · intro y hy b; simp only [(HQ y hy).2,Option.bind_eq_bind,Option.bind_some]
        · intro i b; rw [E8]; simp only [Option.bind_eq_bind,Option.bind_assoc,Option.bind_some,mx]
      · intro y hy b; simp only [(HK y hy).2,Option.bind_eq_bind,Option.bind_some]
      · intro i b; rw [Q8]; simp only [Option.bind_eq_bind,Option.bind_assoc,Option.bind_some,mx]
theorem cAr (i:Nat) (h:i≤1048576):(0<IntKind.wrap .i64 ((i:Int) - 1))=(1<(i:Int)):=by
  rw [iP (by omega) (by omega)]; exact propext ⟨by omega,by omega⟩
theorem TP.inL (x:aB) (hz:bL x≤1048576) (h:∀ y ∈ x.kids,XT y) (h1:1≤x.kids.length):TP (fun l=>sQ x 1 false l) (fun l=>rY false x l 1) (32 * ((x.kids.drop 1).map bL).sum+19 * (x.kids.drop 1).length+1):=by
  have hE:=zE x
  have t:=TP.loop (p:=x.kids) (LI:=fun i l=>sQ x i false l) (LS:=fun l i=>rY false x l i) (w:=fun y=>32 * bL y+19) (n:=1) ?_ ?_ 1 h1
  · rw [X8] at t
    exact t
  · refine TP.go (fun l=>?_) (fun l=>?_) (TP.sign [41]) (by omega)
    · rw [sQ]
      simp only [dV,Nat.lt_irrefl,decide_false,Bool.false_eq_true,if_false,nN]
    · rw [rY]
      simp only [dV,Nat.lt_irrefl,decide_false,Bool.false_eq_true,if_false,pM,Option.bind_eq_bind,Option.bind_some,Option.bind_fun_some]
  · intro i hi m ih
    have hw:IntKind.wrap .i64 ((i:Int)+1)=((i+1:Nat):Int):=iG hi (by omega)
    refine TP.go (n:=1+(32 * bL x.kids[i]+18+m)) (I:=fun l=>(nD l false (IntKind.wrap .i64 ((i:Int) - 1)))>>=fun y=>(iX y.2 y.1 x (i:Int))>>=fun y=>sQ x ((i+1:Nat):Int) y.1 y.2)
      (S:=fun l=>(if 0<IntKind.wrap .i64 ((i:Int) - 1) then appG 32 l [aA.mk 5 [44] 0] else some l)>>=fun l=>(iW l x (i:Int) false)>>=fun l=>rY false x l ((i+1:Nat):Int)) (fun l=>?_) (fun l=>?_)
      (TP.seq (TP.comma _) (TP.seq (TP.kid x i hi (by omega) (h _ (List.getElem_mem hi))) ih)) (by omega)
    · rw [sQ]
      simp only [dV,hi,decide_true,if_true,hw]
    · rw [rY]
      have hp:=cAr i (by omega)
      simp only [hp]
      simp only [dV,hi,decide_true,if_true,pM,aAy,hw,Option.bind_eq_bind,Option.bind_some]
      by_cases c:(1:Int)<(i:Int)
      · simp only [c,decide_true,if_true]
      · simp only [c,decide_false,Bool.false_eq_true,if_false,Option.bind_some]
theorem TP.sub (q:aJ) (h:QT q):TP (fun l=>wI l false q) (fun l=>(appG 32 l [aA.mk 5 [40] 0])>>=fun l=>(qU l q false)>>=fun l=>appG 32 l [aA.mk 5 [41] 0]) (32 * eU q+7):=by
  refine TP.go (n:=1+(32 * eU q+5+1)) (I:=fun l=>(jP l false [40])>>=fun y=>(yI y.2 y.1 q)>>=fun y=>jP y.2 y.1 [41]) (S:=fun l=>(appG 32 l [aA.mk 5 [40] 0])>>=fun l=>(qU l q false)>>=fun l=>appG 32 l [aA.mk 5 [41] 0]) (fun l=>?_) (fun l=>rfl) (TP.seq (TP.sign _) (TP.seq h (TP.sign _))) (by omega)
  rw [wI]
  simp only [nN]
theorem TP.op {o:Int} (h:1≤o∧o≤14∨o=15∨o=16):TP (fun l=>rH l false o) (fun l=>(sF o)>>=fun t=>appG 32 l [t]) 1:=by
  obtain ⟨t,h1,h2⟩:=bSu h
  exact (TP.one (t:=t)).congr (fun l=>by rw [h2]) fun l=>by rw [h1]; rfl
theorem aGb {α:Type} {l:List α} {x:α} (h:l[0]?=some x):idx l 0=some x:=by rw [show (0:Int)=((0:Nat):Int) from rfl,qX,h]
set_option maxHeartbeats 1000000 in
theorem bIs:∀ n:Nat,∀ x:aB,bL x<n→bL x≤1048576→okGExpr x→jI x=some true→XT x:=by
  intro n
  induction n with
  | zero=>intro x h _ _ _; omega
  | succ n ih =>
    intro x hx hz ok hr
    have hE:=zE x
    obtain ⟨o1,o2,o3⟩:=okGExpr_e ok
    obtain ⟨sh,hk,hq⟩:=bEu x hz hr
    have HK:∀ y ∈ x.kids,XT y:=fun y hy=>ih y (by have:=kE hy; omega) (by have:=kE hy; omega) (o2 y hy) (hk y hy)
    have HQ:∀ q,x.sub[0]?=some q→QT q:=fun q hs=>by
      have hm:q ∈ x.sub:=List.mem_of_getElem? hs
      have h1:=oW hm
      obtain ⟨p1,p2⟩:=okGQuery_e (o3 q hm)
      exact bIc q (by omega) p1 fun y hy=>by
        have h2:=aBn hy
        exact ih y (by omega) (by omega) (p2 y hy) (hq q hs y hy)
    have KD:∀ i,i<x.kids.length→TP (fun l=>iX l false x (i:Int)) (fun l=>iW l x (i:Int) false) (32 * ((x.kids[i]?.map bL).getD 0)+18):=fun i hi=>by
      have:=TP.kid x i hi (by omega) (HK _ (List.getElem_mem hi))
      simpa [hi] using this
    have zk:=tK x.kids
    have hsub:∀ q,x.sub[0]?=some q→32 * eU q+32≤32 * (x.sub.length+jU x.sub):=fun q hs=>by
      have:=oW (List.mem_of_getElem? hs); omega
    have getS:x.sub.length=1→∃ q,x.sub[0]?=some q:=fun h=>⟨x.sub[0],by simp [h]⟩
    unfold XT
    rcases sh with ⟨k,hl⟩ | k | ⟨k,ho,hn⟩ | ⟨k,ho,hn⟩ | ⟨k,hn⟩ | ⟨k,hn⟩ | ⟨k,hn⟩ | ⟨k,hn,hs⟩ | ⟨k,hs⟩
    · obtain ⟨t,l1,l2⟩:=bRj hl o1
      refine TP.go (fun l=>?_) (fun l=>?_) (TP.one (t:=t)) (by omega)
      · rw [gQ]
        simp only [k,decide_true,if_true,l2,qR]
      · rw [gU]
        simp only [k,decide_true,if_true,l1,Option.bind_eq_bind,Option.bind_some,Option.bind_fun_some]
    · refine TP.go (n:=2+1) (I:=fun l=>(xI l false x.qual)>>=fun y=>qC y.2 y.1 x.name) (S:=fun l=>(if (!decide (x.qual=[]))=true then (appG 32 l [aA.mk 2 x.qual 0,aA.mk 5 [46] 0]) else some l)>>=fun l=>appG 32 l [aA.mk 2 x.name 0]) (fun l=>?_) (fun l=>?_) (TP.seq (TP.qual _) (TP.name _)) (by omega)
      · rw [gQ]
        simp only [k,Int.reduceEq,decide_false,Bool.false_eq_true,if_false,decide_true,if_true,nN]
      · rw [gU]
        unfold aAw
        simp only [k,Int.reduceEq,decide_false,Bool.false_eq_true,if_false,decide_true,if_true,aAr,pM,Option.bind_eq_bind,Option.bind_some,Option.bind_fun_some]
        by_cases c:x.qual=[] <;> simp [c]
    · have k0:=KD 0 (by omega)
      have zz:(x.kids[0]?.map bL).getD 0≤eB x.kids:=by
        have hi:0<x.kids.length:=by omega
        have:=kE (List.getElem_mem hi); simp [hi]; omega
      refine TP.go (n:=1+_) (I:=fun l=>(rH l false x.op)>>=fun y=>iX y.2 y.1 x ((0:Nat):Int)) (S:=fun l=>((sF x.op)>>=fun t=>appG 32 l [t])>>=fun l=>iW l x ((0:Nat):Int) false) (fun l=>?_) (fun l=>?_) (TP.seq (TP.op (.inr ho)) k0) (by omega)
      · rw [gQ]
        simp only [k,Int.reduceEq,decide_false,Bool.false_eq_true,if_false,decide_true,if_true,nN,Int.natCast_zero]
      · rw [gU]
        simp only [k,Int.reduceEq,decide_false,Bool.false_eq_true,if_false,decide_true,if_true,Option.bind_eq_bind,Option.bind_assoc,Option.bind_fun_some,Int.natCast_zero]
    · have k0:=KD 0 (by omega)
      have k1:=KD 1 (by omega)
      have zz:(x.kids[0]?.map bL).getD 0+(x.kids[1]?.map bL).getD 0≤eB x.kids:=by
        revert hn; generalize x.kids=ks; intro hn
        match ks,hn with
        | [a,b],_=>simp [eB]
      refine TP.go (n:=_+(1+_)) (I:=fun l=>(iX l false x ((0:Nat):Int))>>=fun y=>(rH y.2 y.1 x.op)>>=fun y=>iX y.2 y.1 x ((1:Nat):Int)) (S:=fun l=>(iW l x ((0:Nat):Int) false)>>=fun l=>((sF x.op)>>=fun t=>appG 32 l [t])>>=fun l=>iW l x ((1:Nat):Int) false) (fun l=>?_) (fun l=>?_) (TP.seq k0 (TP.seq (TP.op (.inl ho)) k1)) (by omega)
      · rw [gQ]
        simp only [k,Int.reduceEq,decide_false,Bool.false_eq_true,if_false,decide_true,if_true,nN,Int.natCast_zero,Int.natCast_one]
      · rw [gU]
        simp only [k,Int.reduceEq,decide_false,Bool.false_eq_true,if_false,decide_true,if_true,Option.bind_eq_bind,Option.bind_assoc,Option.bind_fun_some,Int.natCast_zero,Int.natCast_one]
    · have k0:=KD 0 (by omega)
      have zz:(x.kids[0]?.map bL).getD 0≤eB x.kids:=by
        have hi:0<x.kids.length:=by omega
        have:=kE (List.getElem_mem hi); simp [hi]; omega
      refine TP.go (n:=_+(1+(1+1))) (I:=fun l=>(iX l false x ((0:Nat):Int))>>=fun y=>(dC y.2 y.1 [73,83])>>=fun y=>(nW y.2 y.1 x.not_)>>=fun y=>dC y.2 y.1 [78,85,76,76])
        (S:=fun l=>(iW l x ((0:Nat):Int) false)>>=fun l=>(appG 32 l [aA.mk 1 [73,83] 0])>>=fun l=>(pR l x)>>=fun l=>appG 32 l [aA.mk 1 [78,85,76,76] 0]) (fun l=>?_) (fun l=>?_) (TP.seq k0 (TP.seq (TP.key kIS) (TP.seq (TP.not_ x) (TP.key aUh)))) (by omega)
      · rw [gQ]
        simp only [k,Int.reduceEq,decide_false,Bool.false_eq_true,if_false,decide_true,if_true,nN,Int.natCast_zero]
      · rw [gU]
        simp only [k,Int.reduceEq,decide_false,Bool.false_eq_true,if_false,decide_true,if_true,s16,s20,Option.bind_eq_bind,Option.bind_some,Option.bind_fun_some,Int.natCast_zero]
    · have k0:=KD 0 (by omega)
      have k1:=KD 1 (by omega)
      have k2:=KD 2 (by omega)
      have zz:(x.kids[0]?.map bL).getD 0+(x.kids[1]?.map bL).getD 0+(x.kids[2]?.map bL).getD 0≤eB x.kids:=by
        revert hn; generalize x.kids=ks; intro hn
        match ks,hn with
        | [a,b,c],_=>simp [eB]; omega
      refine TP.go (n:=_+(1+(1+(_+(1+_))))) (I:=fun l=>(iX l false x ((0:Nat):Int))>>=fun y=>(nW y.2 y.1 x.not_)>>=fun y=>(dC y.2 y.1 [66,69,84,87,69,69,78])>>=fun y=>(iX y.2 y.1 x ((1:Nat):Int))>>=fun y=>(dC y.2 y.1 [65,78,68])>>=fun y=>iX y.2 y.1 x ((2:Nat):Int))
        (S:=fun l=>(iW l x ((0:Nat):Int) false)>>=fun l=>(pR l x)>>=fun l=>(appG 32 l [aA.mk 1 [66,69,84,87,69,69,78] 0])>>=fun l=>(iW l x ((1:Nat):Int) false)>>=fun l=>(appG 32 l [aA.mk 1 [65,78,68] 0])>>=fun l=>iW l x ((2:Nat):Int) false) (fun l=>?_) (fun l=>?_)
        (TP.seq k0 (TP.seq (TP.not_ x) (TP.seq (TP.key bMi) (TP.seq k1 (TP.seq (TP.key bXl) k2))))) (by omega)
      · rw [gQ]
        simp only [k,Int.reduceEq,decide_false,Bool.false_eq_true,if_false,decide_true,if_true,nN,Int.natCast_zero,Int.natCast_one]
        rfl
      · rw [gU]
        simp only [k,Int.reduceEq,decide_false,Bool.false_eq_true,if_false,decide_true,if_true,s13,s18,Option.bind_eq_bind,Option.bind_some,Option.bind_fun_some,Int.natCast_zero,Int.natCast_one]
        rfl
    · have k0:=KD 0 (by omega)
      have tl:=TP.inL x hz HK (by omega)
      have zz:(x.kids[0]?.map bL).getD 0+((x.kids.drop 1).map bL).sum≤eB x.kids∧(x.kids.drop 1).length+1=x.kids.length:=by
        revert hn; generalize x.kids=ks; intro hn
        match ks,hn with
        | a::b::c,_=>simp [eB,tK]
      refine TP.go (n:=_+(1+(1+(1+_)))) (I:=fun l=>(iX l false x ((0:Nat):Int))>>=fun y=>(nW y.2 y.1 x.not_)>>=fun y=>(dC y.2 y.1 [73,78])>>=fun y=>(jP y.2 y.1 [40])>>=fun y=>sQ x 1 y.1 y.2)
        (S:=fun l=>(iW l x ((0:Nat):Int) false)>>=fun l=>(pR l x)>>=fun l=>(appG 32 l [aA.mk 1 [73,78] 0])>>=fun l=>(appG 32 l [aA.mk 5 [40] 0])>>=fun l=>rY false x l 1) (fun l=>?_) (fun l=>?_)
        (TP.seq k0 (TP.seq (TP.not_ x) (TP.seq (TP.key kIN) (TP.seq (TP.sign _) tl)))) (by omega)
      · rw [gQ]
        simp only [k,Int.reduceEq,decide_false,Bool.false_eq_true,if_false,decide_true,if_true,nN,Int.natCast_zero]
      · rw [gU]
        simp only [k,Int.reduceEq,decide_false,Bool.false_eq_true,if_false,decide_true,if_true,s17,pM,zI,Option.bind_eq_bind,Option.bind_some,Option.bind_assoc,Int.natCast_zero]
    · obtain ⟨q,hq0⟩:=getS hs
      have k0:=KD 0 (by omega)
      have zz:(x.kids[0]?.map bL).getD 0≤eB x.kids:=by
        have hi:0<x.kids.length:=by omega
        have:=kE (List.getElem_mem hi); simp [hi]; omega
      have zs:=hsub q hq0
      refine TP.go (n:=_+(1+(1+_))) (I:=fun l=>(iX l false x ((0:Nat):Int))>>=fun y=>(nW y.2 y.1 x.not_)>>=fun y=>(dC y.2 y.1 [73,78])>>=fun y=>wI y.2 y.1 q)
        (S:=fun l=>(iW l x ((0:Nat):Int) false)>>=fun l=>(pR l x)>>=fun l=>(appG 32 l [aA.mk 1 [73,78] 0])>>=fun l=>(appG 32 l [aA.mk 5 [40] 0])>>=fun l=>(qU l q false)>>=fun l=>appG 32 l [aA.mk 5 [41] 0]) (fun l=>?_) (fun l=>?_)
        (TP.seq k0 (TP.seq (TP.not_ x) (TP.seq (TP.key kIN) (TP.sub q (HQ q hq0))))) (by omega)
      · rw [gQ]
        simp only [k,Int.reduceEq,decide_false,Bool.false_eq_true,if_false,decide_true,if_true,aGb hq0,nN,Int.natCast_zero,Option.bind_eq_bind,Option.bind_some]
      · rw [gU]
        simp only [k,Int.reduceEq,decide_false,Bool.false_eq_true,if_false,decide_true,if_true,aGb hq0,s17,pM,zI,Option.bind_eq_bind,Option.bind_some,Option.bind_assoc,Option.bind_fun_some,Int.natCast_zero]
    · obtain ⟨q,hq0⟩:=getS hs
      have zs:=hsub q hq0
      refine TP.go (n:=1+_) (I:=fun l=>(dC l false [69,88,73,83,84,83])>>=fun y=>wI y.2 y.1 q)
        (S:=fun l=>(appG 32 l [aA.mk 1 [69,88,73,83,84,83] 0])>>=fun l=>(appG 32 l [aA.mk 5 [40] 0])>>=fun l=>(qU l q false)>>=fun l=>appG 32 l [aA.mk 5 [41] 0]) (fun l=>?_) (fun l=>?_)
        (TP.seq (TP.key bR0) (TP.sub q (HQ q hq0))) (by omega)
      · rw [gQ]
        simp only [k,Int.reduceEq,decide_false,Bool.false_eq_true,if_false,decide_true,if_true,aGb hq0,Option.bind_eq_bind,Option.bind_some]
        simp only [← Option.bind_eq_bind,nN]
      · rw [gU]
        simp only [k,Int.reduceEq,decide_false,Bool.false_eq_true,if_false,decide_true,if_true,aGb hq0,s19,pM,zI,Option.bind_eq_bind,Option.bind_some,Option.bind_assoc,Option.bind_fun_some]
theorem bX6 (x:aB) (hz:bL x≤1048576) (ok:okGExpr x):∃ T,J8 x=some T∧Z7 x=some T∧T.length≤40000000:=by
  obtain ⟨b,h1,h2⟩:=right_eq _ x (Nat.lt_succ_self _) hz
  obtain ⟨s,s1,s2,s3,s4⟩:=left_eq _ x (Nat.lt_succ_self _) hz
  obtain ⟨r,r1,r2⟩:=s4 200 (by omega) (by omega)
  obtain ⟨t,t1,t2⟩:=bPb _ x (Nat.lt_succ_self _) hz
  have e:∃ c,aA2 x=some c∧aCb x=some c∧(c=true→b=true):=by
    rw [aA2,aCb]
    unfold aEk
    simp only [h1,h2,s1,r1,t1,t2,Option.bind_eq_bind,Option.bind_some]
    have hr:decide (0≤r)=decide (s≤200):=by
      rcases r2 with ⟨a1,a2⟩ | ⟨a1,a2⟩
      · have p1:0≤r:=by omega
        simp [p1,a1]
      · have p1:¬ 0≤r:=by omega
        have p2:¬ s≤200:=by omega
        simp [p1,p2]
    rw [hr]
    by_cases p:s≤200 <;> by_cases q:t≤24 <;> cases b <;> simp [p,q]
  obtain ⟨c,e1,e2,e3⟩:=e
  unfold J8 Z7
  cases c with
  | false=>exact ⟨[],by simp [e2],by simp [e1],by simp⟩
  | true =>
    obtain ⟨T,t1,t2⟩:=bIs _ x (Nat.lt_succ_self _) hz ok (by rw [h1,e3 rfl])
    obtain ⟨a1,a2⟩:=t2 [] (by simp; omega)
    exact ⟨T,by simp [e2,a1],by simp [e1,a2],by omega⟩
theorem bYy (p:List aA) (hp:p.length≤2500000000000):vM p p=some true:=cBr (E:=aC3) hp (by rw [vM]) (fun i=>by rw [K6]) fun y _=>by simp [aC3]
theorem bUq (l:List aA) (hl:l.length≤40000000):∃ l' k',aCa l 1=some (k',l')∧R8 l' 1=some k'∧1≤k':=by
  have hz:(l.map fun _=>0).sum=0:=by
    clear hl
    induction l with
    | nil=>rfl
    | cons x l ih=>simpa using ih
  refine Exists.elim (bYo (LM:=fun k i m=>uW k i m) (LH:=fun m k i=>uD m k i) (z:=fun _=>0) (B:=100000000000000) (fun k m=>by rw [uW]; simp) (fun k m=>by rw [uD]; simp) l 1 (by omega) ?_ (by omega) (by rw [hz]; omega)) fun l' hx=>Exists.elim hx fun k' ⟨a1,a2,a3,a4⟩=>⟨l',k',by rw [aCa]; exact a1,by rw [R8]; exact a2,a3⟩
  intro y hy k h0 hk
  refine ⟨k+1+1+1,⟨k,mt (k+1),k+1+1⟩,by omega,by omega,fun m i hi hm hg=>?_,fun M i hi hm hg=>?_⟩
  · show uW k (i:Int) m=_
    rw [uW]
    simp (disch:=omega) only [dV,hi,decide_true,if_true,qX,hg,Option.bind_eq_bind,Option.bind_some,w1b,zJ,Int.toNat_natCast]
    rfl
  · show uD M k (i:Int)=_
    rw [uD]
    simp (disch:=omega) only [dV,hi,decide_true,if_true,qX,hg,Option.bind_eq_bind,Option.bind_some,w1b,zJ,eq_self,Bool.not_true,Bool.false_eq_true,if_false,decide_false]
    rfl
theorem bMo (x:aB) (ox:okGExpr x):aCl x=some true:=by
  unfold aCl
  rw [aFo x ox 1048576 (by omega) (by omega)]
  simp only [Option.bind_eq_bind,Option.bind_some]
  by_cases hz:(bL x:Int)≤1048576
  case neg=>rw [if_neg hz]; simp
  have hz':bL x≤1048576:=by omega
  have hE:=zE x
  obtain ⟨T,t1,t2,t3⟩:=bX6 x hz' ox
  obtain ⟨mE,mQ⟩:=bZe 1048576
  obtain ⟨l1,k1,a1,_,a2,a3⟩:=mE x.kids (by omega) (by omega) 1 (by omega) (by omega)
  obtain ⟨l2,k2,b1,_,b2,b3⟩:=mQ x.sub (by omega) (by omega) k1 (by omega) (by omega)
  have mx:aB7 x 1=some (k2,l1,l2):=by rw [aB7,a1]; simp only [Option.bind_eq_bind,Option.bind_some,b1]
  obtain ⟨ul,ku,m1,m2,m3⟩:=bUq T t3
  have n1:¬ k2<0:=by omega
  have n2:¬ ku<0:=by omega
  have n3:0≤k2:=by omega
  have n4:0≤ku:=by omega
  have xX:lU x=some x:=by
    obtain ⟨i1,i2,_⟩:=bFc 1048576
    rw [lU,i1 x.kids (by omega) (by omega),i2 x.sub (by omega) (by omega)]; cases x; simp [sH]
  rw [if_pos hz,if_neg (by simp; omega),aCj x (by omega)]
  simp [t1,t2,xX,bYy T (by omega),aCj x (by omega),aFd x (by omega),mx,m1,m2,n1,n2,n3,n4]
end Go.Ab
