/- What the functions compute,in plain Lean. -/
import Derived.Test.YtflhmnfmihkbmaeGreatFExactUsesOf
namespace Go.Ab
open Go
theorem kN {n:Int} (h1 : -9223372036854775808≤n) (h2:n≤9223372036854775807):IntKind.wrap .i64 n=n:=by rw [IntKind.wrap_i64]; omega
theorem fM {i n:Nat} (h:i<n) (hn:n≤4611686018427387904):IntKind.wrap .i64 ((i:Int)+1)=((i+1:Nat):Int):=by rw [kN] <;> omega
theorem dY (i n:Nat):decide ((i:Int)<(n:Int))=decide (i<n):=by simp
theorem tH {α:Type} (l:List α) (i:Nat):idx l (i:Int)=l[i]?:=by simp [idx]
theorem fD {α:Type} {l:List α} {i:Nat} (h:i<l.length):idx l (i:Int)=some l[i]:=by rw [tH]; simp [h]
theorem jC {M:Nat→Prop} {n:Nat} (h0:M n) (h:∀ i,i<n→M (i+1)→M i):∀ i,i≤n→M i:=by
  have:∀ k i,i+k=n→M i:=by
    intro k
    induction k with
    | zero => intro i hi; have : i = n := by omega
              subst this; exact h0
    | succ k ih=>intro i hi; exact h i (by omega) (ih (i+1) (by omega))
  exact fun i hi=>this (n - i) i (by omega)
theorem bMx {α : Type} {p : List α} {F : Int → List α → Option (List α)} (hn : p.length ≤ 4611686018427387904)
    (hF:∀ (i:Nat) b,b.length=p.length→F i b=if i<p.length then (idx p i>>=fun v=>pO b i v>>=fun c=>F (IntKind.wrap .i64 ((i:Int)+1)) c) else some b) :
    ∀ b,b.length=p.length→F 0 b=some p:=by
  have key:∀ i,i≤p.length→∀ b,b.length=p.length→b.take i=p.take i→F (i:Nat) b=some p:=by
    refine jC ?_ ?_
    · intro b hb ht
      rw [hF _ _ hb,if_neg (by omega)]
      rw [← hb,List.take_length] at ht
      rw [ht,hb,List.take_length]
    · intro i hi ih b hb ht
      rw [hF _ _ hb,if_pos hi,fD hi]
      have hs:pO b i p[i]=some (b.set i p[i]):=by
        unfold pO; rw [if_pos ⟨by omega,by simp; omega⟩]; simp
      simp only [Option.bind_eq_bind,Option.bind_some,hs,fM hi hn]
      refine ih _ (by simp [hb]) ?_
      rw [List.take_add_one,List.take_add_one]
      have e1:(b.set i p[i]).take i=b.take i:=by rw [List.take_set_of_le (Nat.le_refl _)]
      rw [e1,ht]
      simp [hb,hi]
  intro b hb
  exact key 0 (by omega) b hb (by simp)
theorem bOt {α:Type} {by':Nat} {n:Nat} {z:α} (h:(n:Int) * by'≤140737488355328):mkG by' (n:Int) z=some (List.replicate n z):=by
  unfold mkG; rw [if_pos ⟨by omega,h⟩]; simp
theorem nV {α:Type} {b:Nat} {l m:List α} (h:(l.length+m.length) * b≤140737488355328):appG b l m=some (l++m):=by unfold appG; rw [if_pos h]
theorem gather {α β γ : Type} {p : List α} {f : α → List β} {G : α → List β → Option (List β)} {L : List β → Int → Option γ} {K : List β → Option γ} {c : Nat} (hp : p.length ≤ 4194304)
    (hG:∀ y ∈ p,∀ acc:List β,acc.length+(f y).length≤c→G y acc=some (acc++f y))
    (hL:∀ (i:Nat) acc,L acc (i:Int)=if (decide ((i:Int)<(p.length:Int)))=true then ((idx p (i:Int))>>=fun y=>(G y acc)>>=fun z=>L z (IntKind.wrap .i64 ((i:Int)+1))) else K acc) :
    ∀ acc:List β,acc.length+(p.flatMap f).length≤c→L acc 0=K (acc++p.flatMap f):=by
  have key:∀ i,i≤p.length→∀ acc:List β,acc.length+((p.drop i).flatMap f).length≤c→L acc (i:Nat)=K (acc++(p.drop i).flatMap f):=by
    refine jC ?_ ?_
    · intro acc _
      rw [hL]; simp
    · intro i hi ih acc ha
      rw [List.drop_eq_getElem_cons hi,List.flatMap_cons,List.length_append] at ha
      rw [hL,fD hi,fM hi (by omega)]
      simp only [dY,hi,decide_true,if_true,Option.bind_eq_bind,Option.bind_some,hG _ (List.getElem_mem hi) acc (by omega)]
      rw [ih _ (by rw [List.length_append]; omega),List.drop_eq_getElem_cons hi,List.flatMap_cons,List.append_assoc]
  intro acc ha
  simpa using key 0 (by omega) acc (by simpa using ha)
theorem folded {α β γ : Type} {p : List α} {g : α → β → Option β} {h : α → β → β} {L : β → Int → Option γ} {K : β → Option γ} (hp : p.length ≤ 1048576)
    (hg:∀ y ∈ p,∀ b,g y b=some (h y b))
    (hL:∀ (i:Nat) b,L b (i:Int)=if (decide ((i:Int)<(p.length:Int)))=true then ((idx p (i:Int))>>=fun y=>(g y b)>>=fun z=>L z (IntKind.wrap .i64 ((i:Int)+1))) else K b) :
    ∀ b,L b 0=K (p.foldl (fun b y=>h y b) b):=by
  have key:∀ i,i≤p.length→∀ b,L b (i:Nat)=K ((p.drop i).foldl (fun b y=>h y b) b):=by
    refine jC ?_ ?_
    · intro b; rw [hL]; simp
    · intro i hi ih b
      rw [hL,fD hi,fM hi (by omega)]
      simp only [dY,hi,decide_true,if_true,Option.bind_eq_bind,Option.bind_some,hg _ (List.getElem_mem hi)]
      rw [ih,List.drop_eq_getElem_cons hi,List.foldl_cons]
  intro b
  simpa using key 0 (by omega) b
theorem cA5:∀ (n:Nat) (x:Int) (t:List UInt8),0≤x→x<10 ^ n→x≤1000000000000000→t.length+n≤100→∃ s,zR x t=some s:=by
  intro n
  have cat:∀ a b:List UInt8,a.length+b.length≤200→aA5 a b=some (a++b):=fun a b h=>by unfold aA5; rw [if_pos (by simp only [maxLen]; omega)]
  induction n with
  | zero =>
    intro x t h0 h1 _ ht
    rw [zR,if_neg (by simp at h1 ⊢; omega)]
    rw [cat _ _ (by simp; omega)]
    exact ⟨_,rfl⟩
  | succ n ih =>
    intro x t h0 h1 hb ht
    rw [zR]
    by_cases hx:0<x
    · rw [if_pos (by simpa using hx)]
      have e:ofBytes [IntKind.wrap .u8 (IntKind.wrap .i64 (48+Int.tmod x 10))]=some [UInt8.ofNat (IntKind.wrap .u8 (IntKind.wrap .i64 (48+Int.tmod x 10))).toNat]:=by
        unfold ofBytes
        rw [if_pos (by simp [IntKind.wrap,IntKind.bits,IntKind.signed]; omega)]
        rfl
      rw [e]
      simp only [Option.bind_eq_bind,Option.bind_some]
      rw [cat _ _ (by simp; omega)]
      simp only [Option.bind_some]
      have ed:Int.tdiv x 10=x / 10:=Int.tdiv_eq_ediv_of_nonneg (by omega)
      have ed2:x / 10<10 ^ n:=by
        have:x<10 ^ n * 10:=by rw [Int.pow_succ] at h1; exact h1
        exact Int.ediv_lt_of_lt_mul (by omega) this
      rw [ed,kN (by omega) (by omega)]
      exact ih _ _ (by omega) ed2 (by omega) (by simp; omega)
    · rw [if_neg (by simpa using hx)]
      rw [cat _ _ (by simp; omega)]
      exact ⟨_,rfl⟩
def mt (k:Int):List UInt8:=(jL k).getD []
theorem wR {k:Int} (h0:0≤k) (h1:k≤1000000000000000):jL k=some (mt k):=by
  have:∃ s,jL k=some s:=by
    unfold jL
    split
    · exact ⟨_,rfl⟩
    · exact cA5 20 k [] h0 (by omega) h1 (by simp)
  obtain ⟨s,hs⟩:=this
  simp [mt,hs]
theorem bXs {α : Type} {L : Int → Int → List α → Option (Int × List α)} {z : α → Nat} (hend : ∀ k (m : List α), L k (m.length : Int) m = some (k, m)) :
    ∀ (r:Nat) (i:Nat) (m:List α) (k:Int),m.length=i+r→m.length≤1048576 →
    (∀ y ∈ m.drop i,∀ k:Int,0≤k→k+13 * (1+z y:Nat)≤1000000000→∃ k1 y',k≤k1∧k1≤k+13 * (1+z y:Nat)∧(∀ (m:List α) (i:Nat),i<m.length→m.length≤1048576→m[i]?=some y→L k (i:Int) m=L k1 ((i+1:Nat):Int) (m.set i y'))) →
    0≤k→k+13 * ((m.drop i).length+((m.drop i).map z).sum:Nat)≤1000000000→∃ m' k',L k (i:Int) m=some (k',m')∧k≤k'∧k'≤k+13 * ((m.drop i).length+((m.drop i).map z).sum:Nat):=by
  intro r
  induction r with
  | zero =>
    intro i m k hl _ _ h0 hk
    have e:i=m.length:=by omega
    subst e
    exact ⟨m,k,hend k m,by omega,by simp⟩
  | succ r ih =>
    intro i m k hl hsm H h0 hk
    have hi:i<m.length:=by omega
    have hd:m.drop i=m[i]::m.drop (i+1):=List.drop_eq_getElem_cons hi
    rw [hd] at hk H
    simp only [List.length_cons,List.map_cons,List.sum_cons] at hk
    obtain ⟨k1,y',a1,a2,a3⟩:=H m[i] List.mem_cons_self k h0 (by omega)
    have hset:(m.set i y').drop (i+1)=m.drop (i+1):=List.drop_set_of_lt (by omega)
    obtain ⟨m',k',b1,b5,b6⟩:=ih (i+1) (m.set i y') k1 (by simp; omega) (by simpa using hsm) (by rw [hset]; exact fun y hy=>H y (List.mem_cons_of_mem _ hy)) (by omega) (by rw [hset]; omega)
    rw [hset] at b6
    refine ⟨m',k',?_,by omega,?_⟩
    · rw [a3 m i hi hsm (by simp [hi]),b1]
    · rw [hd]
      simp only [List.length_cons,List.map_cons,List.sum_cons]; omega
theorem Q5 {α : Type} {L : Int → Int → List α → Option (Int × List α)} {z : α → Nat} (hend : ∀ k (m : List α), L k (m.length : Int) m = some (k, m)) (l : List α) (k : Int) (hl : l.length ≤ 1048576)
    (H:∀ y ∈ l,∀ k:Int,0≤k→k+13 * (1+z y:Nat)≤1000000000→∃ k1 y',k≤k1∧k1≤k+13 * (1+z y:Nat)∧(∀ (m:List α) (i:Nat),i<m.length→m.length≤1048576→m[i]?=some y→L k (i:Int) m=L k1 ((i+1:Nat):Int) (m.set i y')))
    (h0:0≤k) (hk:k+13 * (l.length+(l.map z).sum:Nat)≤1000000000):∃ l' k',L k 0 l=some (k',l')∧k≤k'∧k'≤k+13 * (l.length+(l.map z).sum:Nat):=by
  obtain ⟨m',k',b1,b5,b6⟩:=bXs (z:=z) hend l.length 0 l k (by omega) hl (by simpa using H) h0 (by simpa using hk)
  exact ⟨m',k',by simpa using b1,b5,by simpa using b6⟩
def zL {α:Type} (z:α→Nat) (l:List α):Nat:=l.length+(l.map z).sum
def iM {α:Type} (F:α→Int→Option Int) (z:α→Nat) (x:α):Prop:=∀ n:Int,0≤n→n≤1048576→F x n=some (if (z x:Int)≤n then n - (z x:Int) else -1)
theorem I7 {α:Type} (z:α→Nat) (x:α) (l:List α):((x::l).map z).sum=z x+(l.map z).sum:=by simp
theorem bO4 {α : Type} {p : List α} {F : α → Int → Option Int} {z : α → Nat} {L : Int → Int → Option Int} (hp : p.length ≤ 1048576)
    (hL:∀ (i:Nat) (x:Int),L x (i:Int)=if (decide ((i:Int)<(p.length:Int)))=true then ((idx p (i:Int))>>=fun y=>(F y x)>>=fun r=>if (decide (r<0))=true then (some (-1)) else L r (IntKind.wrap .i64 ((i:Int)+1))) else some x)
    (H:∀ y ∈ p,iM F z y):∀ n:Int,0≤n→n≤1048576→L n 0=some (if ((p.map z).sum:Int)≤n then n - ((p.map z).sum:Int) else -1):=by
  have key:∀ i,i≤p.length→∀ n:Int,0≤n→n≤1048576→L n (i:Nat)=some (if (((p.drop i).map z).sum:Int)≤n then n - (((p.drop i).map z).sum:Int) else -1):=by
    refine jC ?_ ?_
    · intro n h0 h1
      rw [hL]; simp [h0]
    · intro i hi ih n h0 h1
      rw [hL,fD hi,fM hi (by omega)]
      rw [List.drop_eq_getElem_cons hi,I7]
      simp only [Option.bind_eq_bind,Option.bind_some,dY,hi,decide_true,if_true,H _ (List.getElem_mem hi) n h0 h1]
      by_cases hz:(z p[i]:Int)≤n
      · rw [if_pos hz,if_neg (by simp; omega),ih _ (by omega) (by omega)]
        congr 1
        by_cases hr:(((p.drop (i+1)).map z).sum:Int)≤n - z p[i]
        · rw [if_pos hr,if_pos (by omega)]; omega
        · rw [if_neg hr,if_neg (by omega)]
      · rw [if_neg hz,if_pos (by decide),if_neg (by omega)]
  intro n h0 h1
  have:=key 0 (by omega) n h0 h1
  simpa using this
theorem wC {α : Type} {p : List α} {F : α → Int → Option Int} {z : α → Nat} {L : Int → Int → Option Int} {S : List α → Int → Option Int} (hp : p.length ≤ 9223372036854775807)
    (hS:∀ n,S p n=if (decide ((IntKind.wrap .i64 (n - (p.length:Int)))<0))=true then (some (-1)) else L (IntKind.wrap .i64 (n - (p.length:Int))) 0)
    (hL:∀ (i:Nat) (x:Int),L x (i:Int)=if (decide ((i:Int)<(p.length:Int)))=true then ((idx p (i:Int))>>=fun y=>(F y x)>>=fun r=>if (decide (r<0))=true then (some (-1)) else L r (IntKind.wrap .i64 ((i:Int)+1))) else some x)
    (H:∀ y ∈ p,iM F z y):iM S (zL z) p:=by
  intro n h0 h1
  have hz:((zL z p:Nat):Int)=(p.length:Int)+((p.map z).sum:Int):=by unfold zL; omega
  rw [hS,kN (by omega) (by omega),hz]
  by_cases hl:n - (p.length:Int)<0
  · rw [if_pos (by simpa using hl),if_neg (by omega)]
  · rw [if_neg (by simpa using hl),bO4 (by omega) hL H _ (by omega) (by omega)]
    congr 1
    by_cases hr:((p.map z).sum:Int)≤n - p.length
    · rw [if_pos hr,if_pos (by omega)]; omega
    · rw [if_neg hr,if_neg (by omega)]
theorem vF {α : Type} {p : List α} {W : α → Option α} {by' : Nat} {d : α} {L : Int → List α → Option (List α)} {S : Option (List α)} (hp : p.length ≤ 1048576) (hby : by' ≤ 134217728)
    (hS:S=(mkG by' (p.length:Int) d>>=fun y=>L 0 y))
    (hL:∀ (i:Nat) b,L (i:Int) b=if (decide ((i:Int)<(p.length:Int)))=true then ((idx p (i:Int))>>=fun y2=>(W y2)>>=fun y3=>(idx b (i:Int))>>=fun _=>(pO b (i:Int) y3)>>=fun y5=>L (IntKind.wrap .i64 ((i:Int)+1)) y5) else some b)
    (H:∀ y ∈ p,W y=some y):S=some p:=by
  have hm:(p.length:Int) * by'≤140737488355328:=by
    have:(p.length:Int) * by'≤1048576 * 134217728:=Int.mul_le_mul (by omega) (by omega) (by omega) (by omega)
    omega
  rw [hS,bOt hm]
  simp only [Option.bind_eq_bind,Option.bind_some]
  refine bMx (F:=L) (by omega) (fun i b hb=>?_) _ (by simp)
  rw [hL]
  simp only [dY,decide_eq_true_eq,Option.bind_eq_bind]
  split
  · rename_i hi
    have e:idx b (i:Int)=some b[i]:=fD (by omega)
    rw [fD hi]
    simp only [Option.bind_some,H _ (List.getElem_mem hi),e]
  · rfl
theorem wV {α : Type} {p : List α} {E : α → α → Option Bool} {L : Int → Option Bool} {S : List α → List α → Option Bool} (hp : p.length ≤ 1048576)
    (hS:S p p=if (!decide ((p.length:Int)=(p.length:Int)))=true then (some false) else L 0)
    (hL:∀ i:Nat,L (i:Int)=if (decide ((i:Int)<(p.length:Int)))=true then ((idx p (i:Int))>>=fun y1=>(idx p (i:Int))>>=fun y2=>(E y1 y2)>>=fun y3=>if (!y3)=true then (some false) else L (IntKind.wrap .i64 ((i:Int)+1))) else some true)
    (H:∀ y ∈ p,E y y=some true):S p p=some true:=by
  have key:∀ i,i≤p.length→L (i:Nat)=some true:=by
    refine jC ?_ ?_
    · rw [hL]; simp
    · intro i hi ih
      rw [hL]
      simp only [dY,fD hi,fM hi (by omega),H _ (List.getElem_mem hi),Option.bind_eq_bind,Option.bind_some,ih]
      simp
  rw [hS]
  have:=key 0 (by omega)
  simpa using this
theorem aBf {α:Type} {z:α→Nat}:∀ {p:List α} {y:α},y ∈ p→z y≤(p.map z).sum
  | x::p,y,h=>by
    rw [I7]
    rcases List.mem_cons.1 h with rfl | h
    · omega
    · have:=aBf (z:=z) h; omega
def kZ:bI→Nat
  | ⟨a0,a1⟩=>a0.length
theorem bOg:∀ x:bI,okGCol x→iM aAd kZ x
  | ⟨a0,a1⟩,h=>by
    simp only [okGCol] at h
    obtain ⟨o0,o1⟩:=h
    intro n h0 h1
    have b0:a0.length≤9223372036854775807:=o0
    have hz:((kZ ⟨a0,a1⟩:Nat):Int)=(a0.length:Int):=by simp only [kZ] <;> omega
    rw [hz,aAd]
    dsimp only
    rw [kN (n:=n - (a0.length:Int)) (by omega) (by omega)]
    by_cases r0:n - (a0.length:Int)<0
    · rw [if_pos (by simpa using r0),if_neg (by omega)]
    rw [if_neg (by simpa using r0)]
    first | done | (rw [if_pos (by omega)]; done) | (rw [if_pos (by omega)]; congr 1 <;> omega) | (congr 1 <;> omega)
theorem cNg:∀ x:bI,kZ x≤1048576→wM x=some x
  | ⟨a0,a1⟩,hz=>by
    simp only [kZ] at hz
    rw [wM]
theorem cCx:∀ x:bI,kZ x≤1048576→aBl x x=some true
  | ⟨a0,a1⟩,hz=>by
    simp only [kZ] at hz
    rw [aBl]
    simp
theorem bPw (p:(List bI)) (h:(okL okGCol) p):iM aCj (zL kZ) p:=wC (F:=aAd) h.1 (fun n=>by rw [aCj]) (fun i x=>by rw [aB3]) (fun y hy=>bOg y (h.2 y hy))
theorem cC2 (p:(List bI)) (hz:(zL kZ) p≤1048576):Z5 p=some p:=vF (by':=24) (W:=wM) (by unfold zL at hz; omega) (by omega) (by rw [Z5]) (fun i b=>by rw [Y6]) (fun y hy=>cNg y (by have h1:=aBf (z:=kZ) hy; have h2:zL kZ p=p.length+(p.map kZ).sum:=rfl; omega))
theorem bYl (p:(List bI)) (hz:(zL kZ) p≤1048576):aB7 p p=some true:=wV (E:=aBl) (by unfold zL at hz; omega) (by rw [aB7]) (fun i=>by rw [Y1]) (fun y hy=>cCx y (by have h1:=aBf (z:=kZ) hy; have h2:zL kZ p=p.length+(p.map kZ).sum:=rfl; omega))
def jJ:aP→Nat
  | ⟨a0,a1⟩=>a0.length+(zL kZ) a1
theorem bWq:∀ x:aP,okGTable x→iM U4 jJ x
  | ⟨a0,a1⟩,h=>by
    simp only [okGTable] at h
    obtain ⟨o0,o1⟩:=h
    intro n h0 h1
    have b0:a0.length≤9223372036854775807:=o0
    have e1:iM aCj (zL kZ) a1:=bPw a1 o1
    have hz:((jJ ⟨a0,a1⟩:Nat):Int)=(a0.length:Int)+(((zL kZ) a1:Nat):Int):=by simp only [jJ] <;> omega
    rw [hz,U4]
    dsimp only
    rw [kN (n:=n - (a0.length:Int)) (by omega) (by omega)]
    by_cases r0:n - (a0.length:Int)<0
    · rw [if_pos (by simpa using r0),if_neg (by omega)]
    rw [if_neg (by simpa using r0)]
    rw [e1 (n - (a0.length:Int)) (by omega) (by omega)]
    simp only [Option.bind_eq_bind,Option.bind_some]
    rcases (Decidable.em ((((zL kZ) a1:Nat):Int)≤(n - (a0.length:Int)))).symm with r1 | r1
    · rw [if_neg r1,if_pos (by decide)]; first | done | rw [if_neg (by omega)]
    rw [if_pos r1,if_neg (by simp; omega)]
    first | done | (rw [if_pos (by omega)]; done) | (rw [if_pos (by omega)]; congr 1 <;> omega) | (congr 1 <;> omega)
theorem cGi:∀ x:aP,jJ x≤1048576→X6 x=some x
  | ⟨a0,a1⟩,hz=>by
    simp only [jJ] at hz
    have e1:Z5 a1=some a1:=cC2 a1 (by omega)
    rw [X6]
    simp only [e1,Option.bind_eq_bind,Option.bind_some]
theorem cM6:∀ x:aP,jJ x≤1048576→aAm x x=some true
  | ⟨a0,a1⟩,hz=>by
    simp only [jJ] at hz
    have e1:aB7 a1 a1=some true:=bYl a1 (by omega)
    rw [aAm]
    simp [e1]
theorem bM9 (p:(List aP)) (h:(okL okGTable) p):iM U1 (zL jJ) p:=wC (F:=U4) h.1 (fun n=>by rw [U1]) (fun i x=>by rw [aBs]) (fun y hy=>bWq y (h.2 y hy))
theorem bMk (p:(List aP)) (hz:(zL jJ) p≤1048576):U3 p=some p:=vF (by':=40) (W:=X6) (by unfold zL at hz; omega) (by omega) (by rw [U3]) (fun i b=>by rw [Z7]) (fun y hy=>cGi y (by have h1:=aBf (z:=jJ) hy; have h2:zL jJ p=p.length+(p.map jJ).sum:=rfl; omega))
theorem bYa (p:(List aP)) (hz:(zL jJ) p≤1048576):U7 p p=some true:=wV (E:=aAm) (by unfold zL at hz; omega) (by rw [U7]) (fun i=>by rw [aA2]) (fun y hy=>cM6 y (by have h1:=aBf (z:=jJ) hy; have h2:zL jJ p=p.length+(p.map jJ).sum:=rfl; omega))
def rO:aY→Nat
  | ⟨a0⟩=>(zL jJ) a0
theorem cBb:∀ x:aY,okGCatalog x→iM aFb rO x
  | ⟨a0⟩,h=>by
    simp only [okGCatalog] at h
    have o0:=h
    intro n h0 h1
    have e0:iM U1 (zL jJ) a0:=bM9 a0 o0
    have hz:((rO ⟨a0⟩:Nat):Int)=(((zL jJ) a0:Nat):Int):=by simp only [rO] <;> omega
    rw [hz,aFb]
    dsimp only
    rw [e0 n (by omega) (by omega)]
    simp only [Option.bind_eq_bind,Option.bind_some]
    rcases (Decidable.em ((((zL jJ) a0:Nat):Int)≤n)).symm with r0 | r0
    · rw [if_neg r0,if_pos (by decide)]; first | done | rw [if_neg (by omega)]
    rw [if_pos r0,if_neg (by simp; omega)]
    first | done | (rw [if_pos (by omega)]; done) | (rw [if_pos (by omega)]; congr 1 <;> omega) | (congr 1 <;> omega)
theorem bC7:∀ x:aY,rO x≤1048576→aAo x=some x
  | ⟨a0⟩,hz=>by
    simp only [rO] at hz
    have e0:U3 a0=some a0:=bMk a0 (by omega)
    rw [aAo]
    simp only [e0,Option.bind_eq_bind,Option.bind_some]
theorem bNq:∀ x:aY,rO x≤1048576→aCs x x=some true
  | ⟨a0⟩,hz=>by
    simp only [rO] at hz
    have e0:U7 a0 a0=some true:=bYa a0 (by omega)
    rw [aCs]
    simp [e0]
def kU:dV→Nat
  | ⟨a0,a1,a2⟩=>a2.length
theorem bR8:∀ x:dV,okGValue x→iM aAi kU x
  | ⟨a0,a1,a2⟩,h=>by
    simp only [okGValue] at h
    obtain ⟨o0,o1,o2⟩:=h
    intro n h0 h1
    have b2:a2.length≤9223372036854775807:=o2
    have hz:((kU ⟨a0,a1,a2⟩:Nat):Int)=(a2.length:Int):=by simp only [kU] <;> omega
    rw [hz,aAi]
    dsimp only
    rw [kN (n:=n - (a2.length:Int)) (by omega) (by omega)]
    by_cases r2:n - (a2.length:Int)<0
    · rw [if_pos (by simpa using r2),if_neg (by omega)]
    rw [if_neg (by simpa using r2)]
    first | done | (rw [if_pos (by omega)]; done) | (rw [if_pos (by omega)]; congr 1 <;> omega) | (congr 1 <;> omega)
theorem bLo:∀ x:dV,kU x≤1048576→wO x=some x
  | ⟨a0,a1,a2⟩,hz=>by
    simp only [kU] at hz
    rw [wO]
theorem cIs:∀ x:dV,kU x≤1048576→Z9 x x=some true
  | ⟨a0,a1,a2⟩,hz=>by
    simp only [kU] at hz
    rw [Z9]
    simp
mutual
def gU:bC→Nat
  | ⟨a0,a1⟩=>bR a0
def gD:aV→Nat
  | ⟨a0,a1,a2⟩=>a0.length+a1.length+(a2.length+fZ a2)
def eO:aJ→Nat
  | ⟨a0,a1,a2,a3,a4,a5⟩=>(a1.length+jE a1)+(a2.length+gX a2)+(a3.length+fZ a3)+(a4.length+jH a4)
def bR:aA→Nat
  | ⟨a0,a1,a2,a3,a4,a5,a6,a7⟩=>kU a3+a4.length+a5.length+(a6.length+fZ a6)+(a7.length+jY a7)
def fT:bA→Nat
  | ⟨a0,a1,a2,a3⟩=>a1.length+bR a2+a3.length
def jY:List aJ→Nat
  | []=>0
  | x::l=>eO x+jY l
def fZ:List aA→Nat
  | []=>0
  | x::l=>bR x+fZ l
def jE:List bA→Nat
  | []=>0
  | x::l=>fT x+jE l
def gX:List aV→Nat
  | []=>0
  | x::l=>gD x+gX l
def jH:List bC→Nat
  | []=>0
  | x::l=>gU x+jH l
end
theorem aNp:∀ l:List aJ,jY l=(l.map eO).sum
  | []=>by simp [jY]
  | x::l=>by rw [I7,← aNp l]; simp only [jY]
theorem wG:∀ l:List aA,fZ l=(l.map bR).sum
  | []=>by simp [fZ]
  | x::l=>by rw [I7,← wG l]; simp only [fZ]
theorem aZr:∀ l:List bA,jE l=(l.map fT).sum
  | []=>by simp [jE]
  | x::l=>by rw [I7,← aZr l]; simp only [jE]
theorem bIs:∀ l:List aV,gX l=(l.map gD).sum
  | []=>by simp [gX]
  | x::l=>by rw [I7,← bIs l]; simp only [gX]
theorem bEr:∀ l:List bC,jH l=(l.map gU).sum
  | []=>by simp [jH]
  | x::l=>by rw [I7,← bEr l]; simp only [jH]
mutual
theorem bWb:∀ x:bC,okGSortKey x→iM F7 gU x
  | ⟨a0,a1⟩,h=>by
    simp only [okGSortKey] at h
    obtain ⟨o0,o1⟩:=h
    intro n h0 h1
    have e0:iM qK bR a0:=aR6 a0 o0
    have hz:((gU ⟨a0,a1⟩:Nat):Int)=((bR a0:Nat):Int):=by simp only [gU] <;> omega
    rw [hz,F7]
    dsimp only
    rw [e0 n (by omega) (by omega)]
    simp only [Option.bind_eq_bind,Option.bind_some]
    rcases (Decidable.em (((bR a0:Nat):Int)≤n)).symm with r0 | r0
    · rw [if_neg r0,if_pos (by decide)]; first | done | rw [if_neg (by omega)]
    rw [if_pos r0,if_neg (by simp; omega)]
    first | done | (rw [if_pos (by omega)]; done) | (rw [if_pos (by omega)]; congr 1 <;> omega) | (congr 1 <;> omega)
theorem bVz:∀ x:aV,okGSource x→iM yL gD x
  | ⟨a0,a1,a2⟩,h=>by
    simp only [okGSource] at h
    obtain ⟨o0,o1,o2⟩:=h
    intro n h0 h1
    have b0:a0.length≤9223372036854775807:=o0
    have b1:a1.length≤9223372036854775807:=o1
    have q2:(zL bR) a2=a2.length+fZ a2:=by unfold zL; rw [wG]
    have e2:iM sQ (zL bR) a2:=wC (F:=qK) o2.1 (fun n=>by rw [sQ]) (fun i x=>by rw [L6]) (aLw a2 o2.2)
    have hz:((gD ⟨a0,a1,a2⟩:Nat):Int)=(a0.length:Int)+(a1.length:Int)+(((zL bR) a2:Nat):Int):=by simp only [gD] <;> omega
    rw [hz,yL]
    dsimp only
    rw [kN (n:=n - (a0.length:Int)) (by omega) (by omega)]
    by_cases r0:n - (a0.length:Int)<0
    · rw [if_pos (by simpa using r0),if_neg (by omega)]
    rw [if_neg (by simpa using r0)]
    rw [kN (n:=(n - (a0.length:Int)) - (a1.length:Int)) (by omega) (by omega)]
    by_cases r1:(n - (a0.length:Int)) - (a1.length:Int)<0
    · rw [if_pos (by simpa using r1),if_neg (by omega)]
    rw [if_neg (by simpa using r1)]
    rw [e2 ((n - (a0.length:Int)) - (a1.length:Int)) (by omega) (by omega)]
    simp only [Option.bind_eq_bind,Option.bind_some]
    rcases (Decidable.em ((((zL bR) a2:Nat):Int)≤((n - (a0.length:Int)) - (a1.length:Int)))).symm with r2 | r2
    · rw [if_neg r2,if_pos (by decide)]; first | done | rw [if_neg (by omega)]
    rw [if_pos r2,if_neg (by simp; omega)]
    first | done | (rw [if_pos (by omega)]; done) | (rw [if_pos (by omega)]; congr 1 <;> omega) | (congr 1 <;> omega)
theorem bDp:∀ x:aJ,okGQuery x→iM yZ eO x
  | ⟨a0,a1,a2,a3,a4,a5⟩,h=>by
    simp only [okGQuery] at h
    obtain ⟨o0,o1,o2,o3,o4,o5⟩:=h
    intro n h0 h1
    have q1:(zL fT) a1=a1.length+jE a1:=by unfold zL; rw [aZr]
    have e1:iM aEl (zL fT) a1:=wC (F:=Q7) o1.1 (fun n=>by rw [aEl]) (fun i x=>by rw [aEr]) (aZe a1 o1.2)
    have q2:(zL gD) a2=a2.length+gX a2:=by unfold zL; rw [bIs]
    have e2:iM aD2 (zL gD) a2:=wC (F:=yL) o2.1 (fun n=>by rw [aD2]) (fun i x=>by rw [aEn]) (bCy a2 o2.2)
    have q3:(zL bR) a3=a3.length+fZ a3:=by unfold zL; rw [wG]
    have e3:iM sQ (zL bR) a3:=wC (F:=qK) o3.1 (fun n=>by rw [sQ]) (fun i x=>by rw [L6]) (aLw a3 o3.2)
    have q4:(zL gU) a4=a4.length+jH a4:=by unfold zL; rw [bEr]
    have e4:iM aD7 (zL gU) a4:=wC (F:=F7) o4.1 (fun n=>by rw [aD7]) (fun i x=>by rw [aF8]) (bGn a4 o4.2)
    have hz:((eO ⟨a0,a1,a2,a3,a4,a5⟩:Nat):Int)=(((zL fT) a1:Nat):Int)+(((zL gD) a2:Nat):Int)+(((zL bR) a3:Nat):Int)+(((zL gU) a4:Nat):Int):=by simp only [eO] <;> omega
    rw [hz,yZ]
    dsimp only
    rw [e1 n (by omega) (by omega)]
    simp only [Option.bind_eq_bind,Option.bind_some]
    rcases (Decidable.em ((((zL fT) a1:Nat):Int)≤n)).symm with r1 | r1
    · rw [if_neg r1,if_pos (by decide)]; first | done | rw [if_neg (by omega)]
    rw [if_pos r1,if_neg (by simp; omega)]
    rw [e2 (n - (((zL fT) a1:Nat):Int)) (by omega) (by omega)]
    simp only [Option.bind_eq_bind,Option.bind_some]
    rcases (Decidable.em ((((zL gD) a2:Nat):Int)≤(n - (((zL fT) a1:Nat):Int)))).symm with r2 | r2
    · rw [if_neg r2,if_pos (by decide)]; first | done | rw [if_neg (by omega)]
    rw [if_pos r2,if_neg (by simp; omega)]
    rw [e3 ((n - (((zL fT) a1:Nat):Int)) - (((zL gD) a2:Nat):Int)) (by omega) (by omega)]
    simp only [Option.bind_eq_bind,Option.bind_some]
    rcases (Decidable.em ((((zL bR) a3:Nat):Int)≤((n - (((zL fT) a1:Nat):Int)) - (((zL gD) a2:Nat):Int)))).symm with r3 | r3
    · rw [if_neg r3,if_pos (by decide)]; first | done | rw [if_neg (by omega)]
    rw [if_pos r3,if_neg (by simp; omega)]
    rw [e4 (((n - (((zL fT) a1:Nat):Int)) - (((zL gD) a2:Nat):Int)) - (((zL bR) a3:Nat):Int)) (by omega) (by omega)]
    simp only [Option.bind_eq_bind,Option.bind_some]
    rcases (Decidable.em ((((zL gU) a4:Nat):Int)≤(((n - (((zL fT) a1:Nat):Int)) - (((zL gD) a2:Nat):Int)) - (((zL bR) a3:Nat):Int)))).symm with r4 | r4
    · rw [if_neg r4,if_pos (by decide)]; first | done | rw [if_neg (by omega)]
    rw [if_pos r4,if_neg (by simp; omega)]
    first | done | (rw [if_pos (by omega)]; done) | (rw [if_pos (by omega)]; congr 1 <;> omega) | (congr 1 <;> omega)
theorem aR6:∀ x:aA,okGExpr x→iM qK bR x
  | ⟨a0,a1,a2,a3,a4,a5,a6,a7⟩,h=>by
    simp only [okGExpr] at h
    obtain ⟨o0,o1,o2,o3,o4,o5,o6,o7⟩:=h
    intro n h0 h1
    have e3:iM aAi kU a3:=bR8 a3 o3
    have b4:a4.length≤9223372036854775807:=o4
    have b5:a5.length≤9223372036854775807:=o5
    have q6:(zL bR) a6=a6.length+fZ a6:=by unfold zL; rw [wG]
    have e6:iM sQ (zL bR) a6:=wC (F:=qK) o6.1 (fun n=>by rw [sQ]) (fun i x=>by rw [L6]) (aLw a6 o6.2)
    have q7:(zL eO) a7=a7.length+jY a7:=by unfold zL; rw [aNp]
    have e7:iM aD4 (zL eO) a7:=wC (F:=yZ) o7.1 (fun n=>by rw [aD4]) (fun i x=>by rw [aFf]) (bFy a7 o7.2)
    have hz:((bR ⟨a0,a1,a2,a3,a4,a5,a6,a7⟩:Nat):Int)=((kU a3:Nat):Int)+(a4.length:Int)+(a5.length:Int)+(((zL bR) a6:Nat):Int)+(((zL eO) a7:Nat):Int):=by simp only [bR] <;> omega
    rw [hz,qK]
    dsimp only
    rw [e3 n (by omega) (by omega)]
    simp only [Option.bind_eq_bind,Option.bind_some]
    rcases (Decidable.em (((kU a3:Nat):Int)≤n)).symm with r3 | r3
    · rw [if_neg r3,if_pos (by decide)]; first | done | rw [if_neg (by omega)]
    rw [if_pos r3,if_neg (by simp; omega)]
    rw [kN (n:=(n - ((kU a3:Nat):Int)) - (a4.length:Int)) (by omega) (by omega)]
    by_cases r4:(n - ((kU a3:Nat):Int)) - (a4.length:Int)<0
    · rw [if_pos (by simpa using r4),if_neg (by omega)]
    rw [if_neg (by simpa using r4)]
    rw [kN (n:=((n - ((kU a3:Nat):Int)) - (a4.length:Int)) - (a5.length:Int)) (by omega) (by omega)]
    by_cases r5:((n - ((kU a3:Nat):Int)) - (a4.length:Int)) - (a5.length:Int)<0
    · rw [if_pos (by simpa using r5),if_neg (by omega)]
    rw [if_neg (by simpa using r5)]
    rw [e6 (((n - ((kU a3:Nat):Int)) - (a4.length:Int)) - (a5.length:Int)) (by omega) (by omega)]
    simp only [Option.bind_eq_bind,Option.bind_some]
    rcases (Decidable.em ((((zL bR) a6:Nat):Int)≤(((n - ((kU a3:Nat):Int)) - (a4.length:Int)) - (a5.length:Int)))).symm with r6 | r6
    · rw [if_neg r6,if_pos (by decide)]; first | done | rw [if_neg (by omega)]
    rw [if_pos r6,if_neg (by simp; omega)]
    rw [e7 ((((n - ((kU a3:Nat):Int)) - (a4.length:Int)) - (a5.length:Int)) - (((zL bR) a6:Nat):Int)) (by omega) (by omega)]
    simp only [Option.bind_eq_bind,Option.bind_some]
    rcases (Decidable.em ((((zL eO) a7:Nat):Int)≤((((n - ((kU a3:Nat):Int)) - (a4.length:Int)) - (a5.length:Int)) - (((zL bR) a6:Nat):Int)))).symm with r7 | r7
    · rw [if_neg r7,if_pos (by decide)]; first | done | rw [if_neg (by omega)]
    rw [if_pos r7,if_neg (by simp; omega)]
    first | done | (rw [if_pos (by omega)]; done) | (rw [if_pos (by omega)]; congr 1 <;> omega) | (congr 1 <;> omega)
theorem bNj:∀ x:bA,okGItem x→iM Q7 fT x
  | ⟨a0,a1,a2,a3⟩,h=>by
    simp only [okGItem] at h
    obtain ⟨o0,o1,o2,o3⟩:=h
    intro n h0 h1
    have b1:a1.length≤9223372036854775807:=o1
    have e2:iM qK bR a2:=aR6 a2 o2
    have b3:a3.length≤9223372036854775807:=o3
    have hz:((fT ⟨a0,a1,a2,a3⟩:Nat):Int)=(a1.length:Int)+((bR a2:Nat):Int)+(a3.length:Int):=by simp only [fT] <;> omega
    rw [hz,Q7]
    dsimp only
    rw [kN (n:=n - (a1.length:Int)) (by omega) (by omega)]
    by_cases r1:n - (a1.length:Int)<0
    · rw [if_pos (by simpa using r1),if_neg (by omega)]
    rw [if_neg (by simpa using r1)]
    rw [e2 (n - (a1.length:Int)) (by omega) (by omega)]
    simp only [Option.bind_eq_bind,Option.bind_some]
    rcases (Decidable.em (((bR a2:Nat):Int)≤(n - (a1.length:Int)))).symm with r2 | r2
    · rw [if_neg r2,if_pos (by decide)]; first | done | rw [if_neg (by omega)]
    rw [if_pos r2,if_neg (by simp; omega)]
    rw [kN (n:=((n - (a1.length:Int)) - ((bR a2:Nat):Int)) - (a3.length:Int)) (by omega) (by omega)]
    by_cases r3:((n - (a1.length:Int)) - ((bR a2:Nat):Int)) - (a3.length:Int)<0
    · rw [if_pos (by simpa using r3),if_neg (by omega)]
    rw [if_neg (by simpa using r3)]
    first | done | (rw [if_pos (by omega)]; done) | (rw [if_pos (by omega)]; congr 1 <;> omega) | (congr 1 <;> omega)
theorem bFy:∀ l:List aJ,okLGQuery l→∀ y ∈ l,iM yZ eO y
  | [],_=>fun y hy=>by simp at hy
  | x::l,h=>by
    simp only [okLGQuery] at h
    intro y hy
    rcases List.mem_cons.1 hy with r | hy
    · rw [r]; exact bDp x h.1
    · exact bFy l h.2 y hy
theorem aLw:∀ l:List aA,okLGExpr l→∀ y ∈ l,iM qK bR y
  | [],_=>fun y hy=>by simp at hy
  | x::l,h=>by
    simp only [okLGExpr] at h
    intro y hy
    rcases List.mem_cons.1 hy with r | hy
    · rw [r]; exact aR6 x h.1
    · exact aLw l h.2 y hy
theorem aZe:∀ l:List bA,okLGItem l→∀ y ∈ l,iM Q7 fT y
  | [],_=>fun y hy=>by simp at hy
  | x::l,h=>by
    simp only [okLGItem] at h
    intro y hy
    rcases List.mem_cons.1 hy with r | hy
    · rw [r]; exact bNj x h.1
    · exact aZe l h.2 y hy
theorem bCy:∀ l:List aV,okLGSource l→∀ y ∈ l,iM yL gD y
  | [],_=>fun y hy=>by simp at hy
  | x::l,h=>by
    simp only [okLGSource] at h
    intro y hy
    rcases List.mem_cons.1 hy with r | hy
    · rw [r]; exact bVz x h.1
    · exact bCy l h.2 y hy
theorem bGn:∀ l:List bC,okLGSortKey l→∀ y ∈ l,iM F7 gU y
  | [],_=>fun y hy=>by simp at hy
  | x::l,h=>by
    simp only [okLGSortKey] at h
    intro y hy
    rcases List.mem_cons.1 hy with r | hy
    · rw [r]; exact bWb x h.1
    · exact bGn l h.2 y hy
end
mutual
theorem bPo:∀ x:bC,gU x≤1048576→G8 x=some x
  | ⟨a0,a1⟩,hz=>by
    simp only [gU] at hz
    have e0:rF a0=some a0:=aQ7 a0 (by omega)
    rw [G8]
    simp only [e0,Option.bind_eq_bind,Option.bind_some]
theorem bUu:∀ x:aV,gD x≤1048576→yM x=some x
  | ⟨a0,a1,a2⟩,hz=>by
    simp only [gD] at hz
    have e2:uF a2=some a2:=vF (by':=136) (W:=rF) (by omega) (by omega) (by rw [uF]) (fun i b=>by rw [R3]) (aJ1 a2 (by omega))
    rw [yM]
    simp only [e2,Option.bind_eq_bind,Option.bind_some]
theorem aRt:∀ x:aJ,eO x≤1048576→xK x=some x
  | ⟨a0,a1,a2,a3,a4,a5⟩,hz=>by
    simp only [eO] at hz
    have e1:aDf a1=some a1:=vF (by':=176) (W:=H5) (by omega) (by omega) (by rw [aDf]) (fun i b=>by rw [aDp]) (bCn a1 (by omega))
    have e2:aFh a2=some a2:=vF (by':=56) (W:=yM) (by omega) (by omega) (by rw [aFh]) (fun i b=>by rw [aE4]) (bAg a2 (by omega))
    have e3:uF a3=some a3:=vF (by':=136) (W:=rF) (by omega) (by omega) (by rw [uF]) (fun i b=>by rw [R3]) (aJ1 a3 (by omega))
    have e4:aDt a4=some a4:=vF (by':=144) (W:=G8) (by omega) (by omega) (by rw [aDt]) (fun i b=>by rw [aCv]) (aXw a4 (by omega))
    rw [xK]
    simp only [e1,e2,e3,e4,Option.bind_eq_bind,Option.bind_some]
theorem aQ7:∀ x:aA,bR x≤1048576→rF x=some x
  | ⟨a0,a1,a2,a3,a4,a5,a6,a7⟩,hz=>by
    simp only [bR] at hz
    have e3:wO a3=some a3:=bLo a3 (by omega)
    have e6:uF a6=some a6:=vF (by':=136) (W:=rF) (by omega) (by omega) (by rw [uF]) (fun i b=>by rw [R3]) (aJ1 a6 (by omega))
    have e7:aEk a7=some a7:=vF (by':=112) (W:=xK) (by omega) (by omega) (by rw [aEk]) (fun i b=>by rw [aE5]) (aZp a7 (by omega))
    rw [rF]
    simp only [e3,e6,e7,Option.bind_eq_bind,Option.bind_some]
theorem cEr:∀ x:bA,fT x≤1048576→H5 x=some x
  | ⟨a0,a1,a2,a3⟩,hz=>by
    simp only [fT] at hz
    have e2:rF a2=some a2:=aQ7 a2 (by omega)
    rw [H5]
    simp only [e2,Option.bind_eq_bind,Option.bind_some]
theorem aZp:∀ l:List aJ,jY l≤1048576→∀ y ∈ l,xK y=some y
  | [],_=>fun y hy=>by simp at hy
  | x::l,hz=>by
    simp only [jY] at hz
    intro y hy
    rcases List.mem_cons.1 hy with r | hy
    · rw [r]; exact aRt x (by omega)
    · exact aZp l (by omega) y hy
theorem aJ1:∀ l:List aA,fZ l≤1048576→∀ y ∈ l,rF y=some y
  | [],_=>fun y hy=>by simp at hy
  | x::l,hz=>by
    simp only [fZ] at hz
    intro y hy
    rcases List.mem_cons.1 hy with r | hy
    · rw [r]; exact aQ7 x (by omega)
    · exact aJ1 l (by omega) y hy
theorem bCn:∀ l:List bA,jE l≤1048576→∀ y ∈ l,H5 y=some y
  | [],_=>fun y hy=>by simp at hy
  | x::l,hz=>by
    simp only [jE] at hz
    intro y hy
    rcases List.mem_cons.1 hy with r | hy
    · rw [r]; exact cEr x (by omega)
    · exact bCn l (by omega) y hy
theorem bAg:∀ l:List aV,gX l≤1048576→∀ y ∈ l,yM y=some y
  | [],_=>fun y hy=>by simp at hy
  | x::l,hz=>by
    simp only [gX] at hz
    intro y hy
    rcases List.mem_cons.1 hy with r | hy
    · rw [r]; exact bUu x (by omega)
    · exact bAg l (by omega) y hy
theorem aXw:∀ l:List bC,jH l≤1048576→∀ y ∈ l,G8 y=some y
  | [],_=>fun y hy=>by simp at hy
  | x::l,hz=>by
    simp only [jH] at hz
    intro y hy
    rcases List.mem_cons.1 hy with r | hy
    · rw [r]; exact bPo x (by omega)
    · exact aXw l (by omega) y hy
end
mutual
theorem bRo:∀ x:bC,gU x≤1048576→E5 x x=some true
  | ⟨a0,a1⟩,hz=>by
    simp only [gU] at hz
    have e0:qR a0 a0=some true:=aU1 a0 (by omega)
    rw [E5]
    simp [e0]
theorem cG3:∀ x:aV,gD x≤1048576→xY x x=some true
  | ⟨a0,a1,a2⟩,hz=>by
    simp only [gD] at hz
    have e2:tV a2 a2=some true:=wV (E:=qR) (by omega) (by rw [tV]) (fun i=>by rw [D9]) (aNs a2 (by omega))
    rw [xY]
    simp [e2]
theorem bIg:∀ x:aJ,eO x≤1048576→zA x x=some true
  | ⟨a0,a1,a2,a3,a4,a5⟩,hz=>by
    simp only [eO] at hz
    have e1:aDv a1 a1=some true:=wV (E:=Q0) (by omega) (by rw [aDv]) (fun i=>by rw [aEj]) (aY9 a1 (by omega))
    have e2:aEw a2 a2=some true:=wV (E:=xY) (by omega) (by rw [aEw]) (fun i=>by rw [aDe]) (bAt a2 (by omega))
    have e3:tV a3 a3=some true:=wV (E:=qR) (by omega) (by rw [tV]) (fun i=>by rw [D9]) (aNs a3 (by omega))
    have e4:aF7 a4 a4=some true:=wV (E:=E5) (by omega) (by rw [aF7]) (fun i=>by rw [aCt]) (bGo a4 (by omega))
    rw [zA]
    simp [e1,e2,e3,e4]
theorem aU1:∀ x:aA,bR x≤1048576→qR x x=some true
  | ⟨a0,a1,a2,a3,a4,a5,a6,a7⟩,hz=>by
    simp only [bR] at hz
    have e3:Z9 a3 a3=some true:=cIs a3 (by omega)
    have e6:tV a6 a6=some true:=wV (E:=qR) (by omega) (by rw [tV]) (fun i=>by rw [D9]) (aNs a6 (by omega))
    have e7:aDs a7 a7=some true:=wV (E:=zA) (by omega) (by rw [aDs]) (fun i=>by rw [aF2]) (bJr a7 (by omega))
    rw [qR]
    simp [e3,e6,e7]
theorem bO6:∀ x:bA,fT x≤1048576→Q0 x x=some true
  | ⟨a0,a1,a2,a3⟩,hz=>by
    simp only [fT] at hz
    have e2:qR a2 a2=some true:=aU1 a2 (by omega)
    rw [Q0]
    simp [e2]
theorem bJr:∀ l:List aJ,jY l≤1048576→∀ y ∈ l,zA y y=some true
  | [],_=>fun y hy=>by simp at hy
  | x::l,hz=>by
    simp only [jY] at hz
    intro y hy
    rcases List.mem_cons.1 hy with r | hy
    · rw [r]; exact bIg x (by omega)
    · exact bJr l (by omega) y hy
theorem aNs:∀ l:List aA,fZ l≤1048576→∀ y ∈ l,qR y y=some true
  | [],_=>fun y hy=>by simp at hy
  | x::l,hz=>by
    simp only [fZ] at hz
    intro y hy
    rcases List.mem_cons.1 hy with r | hy
    · rw [r]; exact aU1 x (by omega)
    · exact aNs l (by omega) y hy
theorem aY9:∀ l:List bA,jE l≤1048576→∀ y ∈ l,Q0 y y=some true
  | [],_=>fun y hy=>by simp at hy
  | x::l,hz=>by
    simp only [jE] at hz
    intro y hy
    rcases List.mem_cons.1 hy with r | hy
    · rw [r]; exact bO6 x (by omega)
    · exact aY9 l (by omega) y hy
theorem bAt:∀ l:List aV,gX l≤1048576→∀ y ∈ l,xY y y=some true
  | [],_=>fun y hy=>by simp at hy
  | x::l,hz=>by
    simp only [gX] at hz
    intro y hy
    rcases List.mem_cons.1 hy with r | hy
    · rw [r]; exact cG3 x (by omega)
    · exact bAt l (by omega) y hy
theorem bGo:∀ l:List bC,jH l≤1048576→∀ y ∈ l,E5 y y=some true
  | [],_=>fun y hy=>by simp at hy
  | x::l,hz=>by
    simp only [jH] at hz
    intro y hy
    rcases List.mem_cons.1 hy with r | hy
    · rw [r]; exact bRo x (by omega)
    · exact bGo l (by omega) y hy
end
def gH (q:aJ):List aA:=q.items.flatMap (fun i=>if i.star then [] else [i.expr])++q.from_.flatMap (fun s=>s.on_)++q.where_++q.order.flatMap (fun k=>[k.expr])
theorem zQ (q:aJ):eO q=(q.items.length+jE q.items)+(q.from_.length+gX q.from_)+(q.where_.length+fZ q.where_)+(q.order.length+jH q.order):=by
  cases q; simp only [eO]
theorem zE (x:aA):bR x=kU x.value+x.qual.length+x.name.length+(x.kids.length+fZ x.kids)+(x.sub.length+jY x.sub):=by
  cases x; simp only [bR]
theorem aN0:∀ l:List bA,(l.flatMap (fun i=>if i.star then [] else [i.expr])).length≤l.length
  | []=>by simp
  | x::l=>by
    have:=aN0 l
    rw [List.flatMap_cons,List.length_append]
    have h1:(if x.star=true then [] else [x.expr]).length≤1:=by cases x.star <;> simp
    simp only [List.length_cons]; omega
theorem aO3:∀ l:List aV,(l.flatMap (fun s=>s.on_)).length≤gX l
  | []=>by simp
  | ⟨a,b,c⟩::l=>by
    have:=aO3 l
    rw [List.flatMap_cons,List.length_append]
    simp only [gX,gD]; omega
theorem aMn:∀ l:List bC,(l.flatMap (fun k=>[k.expr])).length=l.length
  | []=>by simp
  | x::l=>by rw [List.flatMap_cons,List.length_append,aMn l]; simp; omega
theorem aVc (q:aJ) (hz:eO q≤1048576):M4 q=some (gH q):=by
  have h:=zQ q
  have h1:=aN0 q.items
  have h2:=aO3 q.from_
  have h3:=aMn q.order
  have app:∀ {l m:List aA},l.length+m.length≤1048576→appG 136 l m=some (l++m):=fun h=>nV (by omega)
  unfold M4
  rw [gather (p:=q.items) (f:=fun i=>if i.star then [] else [i.expr]) (c:=1048576) (G:=fun y acc=>if (!y.star)=true then appG 136 acc [y.expr] else some acc) (L:=fun acc i=>aC0 q acc i) (K:=fun acc=>zG q acc 0) (by omega) ?_ ?_ [] (by simp only [List.length_nil,Nat.zero_add]; omega)]
  rw [gather (p:=q.from_) (f:=fun s=>s.on_) (c:=1048576) (G:=fun y acc=>appG 136 acc y.on_) (L:=fun acc i=>zG q acc i) (K:=fun acc=>(appG 136 acc q.where_)>>=fun y7=>xW q y7 0) (by omega) ?_ ?_ _ (by simp only [List.length_append,List.length_nil]; omega)]
  rw [app (by simp only [List.length_append,List.length_nil]; omega)]
  simp only [Option.bind_eq_bind,Option.bind_some]
  rw [gather (p:=q.order) (f:=fun k=>[k.expr]) (c:=1048576) (G:=fun y acc=>appG 136 acc [y.expr]) (L:=fun acc i=>xW q acc i) (K:=fun acc=>some acc) (by omega) ?_ ?_ _ (by simp only [List.length_append,List.length_nil]; omega)]
  · simp [gH]
  · intro y _ acc ha; exact app ha
  · intro i acc; rw [xW]
  · intro y _ acc ha; exact app ha
  · intro i acc; rw [zG]
  · intro y _ acc ha
    cases hs:y.star
    · simp only [hs,Bool.not_false,if_true] at ha ⊢; exact app ha
    · simp
  · intro i acc
    rw [aC0]
    simp only [aCc]
    split
    · simp only [Option.bind_eq_bind]
      cases idx q.items (i:Int) with
      | none=>rfl
      | some y=>by_cases hs:y.star=true <;> simp [hs]
    · rfl
theorem aUk (q:aJ) (hz:eO q≤1048576):R5 q=some (gH q):=by
  have h:=zQ q
  have h1:=aN0 q.items
  have h2:=aO3 q.from_
  have h3:=aMn q.order
  have app:∀ {l m:List aA},l.length+m.length≤1048576→appG 136 l m=some (l++m):=fun h=>nV (by omega)
  unfold R5
  rw [gather (p:=q.items) (f:=fun i=>if i.star then [] else [i.expr]) (c:=1048576) (G:=fun y acc=>if (!y.star)=true then appG 136 acc [y.expr] else some acc) (L:=fun acc i=>aC7 q acc i) (K:=fun acc=>zZ q acc 0) (by omega) ?_ ?_ [] (by simp only [List.length_nil,Nat.zero_add]; omega)]
  rw [gather (p:=q.from_) (f:=fun s=>s.on_) (c:=1048576) (G:=fun y acc=>appG 136 acc y.on_) (L:=fun acc i=>zZ q acc i) (K:=fun acc=>(appG 136 acc q.where_)>>=fun y7=>C8 q y7 0) (by omega) ?_ ?_ _ (by simp only [List.length_append,List.length_nil]; omega)]
  rw [app (by simp only [List.length_append,List.length_nil]; omega)]
  simp only [Option.bind_eq_bind,Option.bind_some]
  rw [gather (p:=q.order) (f:=fun k=>[k.expr]) (c:=1048576) (G:=fun y acc=>appG 136 acc [y.expr]) (L:=fun acc i=>C8 q acc i) (K:=fun acc=>some acc) (by omega) ?_ ?_ _ (by simp only [List.length_append,List.length_nil]; omega)]
  · simp [gH]
  · intro y _ acc ha; exact app ha
  · intro i acc; rw [C8]
  · intro y _ acc ha; exact app ha
  · intro i acc; rw [zZ]
  · intro y _ acc ha
    cases hs:y.star
    · simp only [hs,Bool.not_false,if_true] at ha ⊢; exact app ha
    · simp
  · intro i acc
    rw [aC7]
    simp only [aBn]
    split
    · simp only [Option.bind_eq_bind]
      cases idx q.items (i:Int) with
      | none=>rfl
      | some y=>by_cases hs:y.star=true <;> simp [hs]
    · rfl
theorem mJ {x:aA}:∀ {l:List aA},x ∈ l→bR x<l.length+fZ l
  | y::l,h=>by
    simp only [fZ,List.length_cons]
    rcases List.mem_cons.1 h with rfl | h
    · omega
    · have:=mJ h; omega
theorem uJ {x:aJ}:∀ {l:List aJ},x ∈ l→eO x<l.length+jY l
  | y::l,h=>by
    simp only [jY,List.length_cons]
    rcases List.mem_cons.1 h with rfl | h
    · omega
    · have:=uJ h; omega
theorem D7 {x:bA}:∀ {l:List bA},x ∈ l→fT x<l.length+jE l
  | y::l,h=>by
    simp only [jE,List.length_cons]
    rcases List.mem_cons.1 h with rfl | h
    · omega
    · have:=D7 h; omega
theorem Z8 {x:aV}:∀ {l:List aV},x ∈ l→gD x<l.length+gX l
  | y::l,h=>by
    simp only [gX,List.length_cons]
    rcases List.mem_cons.1 h with rfl | h
    · omega
    · have:=Z8 h; omega
theorem xX {x:bC}:∀ {l:List bC},x ∈ l→gU x<l.length+jH l
  | y::l,h=>by
    simp only [jH,List.length_cons]
    rcases List.mem_cons.1 h with rfl | h
    · omega
    · have:=xX h; omega
theorem aU9 (q:aJ):(gH q).length≤eO q:=by
  have h:=zQ q
  have h1:=aN0 q.items
  have h2:=aO3 q.from_
  have h3:=aMn q.order
  simp only [gH,List.length_append]; omega
theorem R8 {q:aJ} {x:aA} (hx:x ∈ gH q):bR x<eO q:=by
  have h:=zQ q
  simp only [gH,List.mem_append,List.mem_flatMap] at hx
  rcases hx with ((⟨i,hi,hx⟩ | ⟨s,hs,hx⟩) | hx) | ⟨k,hk,hx⟩
  · have h1:=D7 hi
    have:x=i.expr:=by
      cases hst:i.star <;> simp [hst] at hx
      exact hx
    subst this
    have:bR i.expr≤fT i:=by obtain ⟨a,b,c,d⟩:=i; simp only [fT]; omega
    omega
  · have h1:=Z8 hs
    have h2:=mJ hx
    have:s.on_.length+fZ s.on_≤gD s:=by obtain ⟨a,b,c⟩:=s; simp only [gD]; omega
    omega
  · have h2:=mJ hx
    omega
  · have h1:=xX hk
    have:x=k.expr:=by simpa using hx
    subst this
    have:bR k.expr≤gU k:=by obtain ⟨a,b⟩:=k; simp only [gU]; omega
    omega
theorem w1 {j:Int} (h0:0≤j) (h1:j≤1000000000000):IntKind.wrap .i64 (j+1)=j+1:=kN (by omega) (by omega)
def ME (l:List aA):Prop:=∀ k:Int,0≤k→k+13 * (l.length+fZ l:Nat)≤1000000000→∃ l' k',uU l k=some (k',l')∧True∧k≤k'∧k'≤k+13 * (l.length+fZ l:Nat)
def MQ (l:List aJ):Prop:=∀ k:Int,0≤k→k+13 * (l.length+jY l:Nat)≤1000000000→∃ l' k',J2 l k=some (k',l')∧True∧k≤k'∧k'≤k+13 * (l.length+jY l:Nat)
def MI (l:List bA):Prop:=∀ k:Int,0≤k→k+13 * (l.length+jE l:Nat)≤1000000000→∃ l' k',V7 l k=some (k',l')∧True∧k≤k'∧k'≤k+13 * (l.length+jE l:Nat)
def MS (l:List aV):Prop:=∀ k:Int,0≤k→k+13 * (l.length+gX l:Nat)≤1000000000→∃ l' k',aAl l k=some (k',l')∧True∧k≤k'∧k'≤k+13 * (l.length+gX l:Nat)
def MO (l:List bC):Prop:=∀ k:Int,0≤k→k+13 * (l.length+jH l:Nat)≤1000000000→∃ l' k',aC3 l k=some (k',l')∧True∧k≤k'∧k'≤k+13 * (l.length+jH l:Nat)
theorem bDk {l:List aA} (hl:l.length≤1048576) (hE:∀ y ∈ l,ME y.kids) (hQ:∀ y ∈ l,MQ y.sub):ME l:=by
  intro k h0 hk
  have hz:=wG l
  rw [uU]
  refine Exists.elim (Q5 (L:=fun k i m=>yA k i m) (z:=bR) (fun k m=>by rw [yA]; simp) l k hl ?_ h0 (by omega)) fun l' hx=>Exists.elim hx fun k' ⟨a1,a3,a4⟩=>⟨l',k',a1,trivial,a3,by omega⟩
  · intro y hy k h0 hk
    have hzE:=zE y
    obtain ⟨la,ka,b1,_,b3,b4⟩:=hE y hy (k+1+1+1+1+1+1+1+1) (by omega) (by omega)
    obtain ⟨lb,kb,c1,_,c3,c4⟩:=hQ y hy ka (by omega) (by omega)
    have n1:¬ ka<0:=by omega
    have n2:¬ kb<0:=by omega
    refine ⟨kb,aA.mk k (k+1) (decide (Int.tmod (k+1+1) 3=0)) ⟨k+1+1+1,k+1+1+1+1,mt (k+1+1+1+1+1)⟩ (mt (k+1+1+1+1+1+1)) (mt (k+1+1+1+1+1+1+1)) la lb,by omega,by omega,fun m i hi hm hg=>?_⟩
    · show yA k (i:Int) m=_
      rw [yA]
      simp (disch:=omega) only [dY,hi,decide_true,if_true,tH,hg,Option.bind_eq_bind,Option.bind_some,w1,wR,b1,c1,Int.toNat_natCast]
      rfl
theorem bF9 {l:List bA} (hl:l.length≤1048576) (hE:∀ y ∈ l,ME y.expr.kids) (hQ:∀ y ∈ l,MQ y.expr.sub):MI l:=by
  intro k h0 hk
  have hz:jE l=(l.map fT).sum:=by
    clear hE hQ hk hl
    induction l with
    | nil=>simp [jE]
    | cons x l ih=>simp [jE,ih]
  rw [V7]
  refine Exists.elim (Q5 (L:=fun k i m=>D6 k i m) (z:=fT) (fun k m=>by rw [D6]; simp) l k hl ?_ h0 (by omega)) fun l' hx=>Exists.elim hx fun k' ⟨a1,a3,a4⟩=>⟨l',k',a1,trivial,a3,by omega⟩
  · intro y hy k h0 hk
    have hzE:=zE y.expr
    have hzI:bR y.expr≤fT y:=by cases y; simp only [fT]; omega
    obtain ⟨la,ka,b1,_,b3,b4⟩:=hE y hy (k+1+1+1+1+1+1+1+1+1+1) (by omega) (by omega)
    obtain ⟨lb,kb,c1,_,c3,c4⟩:=hQ y hy ka (by omega) (by omega)
    have n1:¬ ka<0:=by omega
    have n2:¬ kb<0:=by omega
    refine ⟨kb+1,bA.mk (decide (Int.tmod k 3=0)) (mt (k+1)) (aA.mk (k+1+1) (k+1+1+1) (decide (Int.tmod (k+1+1+1+1) 3=0)) ⟨k+1+1+1+1+1,k+1+1+1+1+1+1,mt (k+1+1+1+1+1+1+1)⟩ (mt (k+1+1+1+1+1+1+1+1)) (mt (k+1+1+1+1+1+1+1+1+1)) la lb) (mt kb),by omega,by omega,fun m i hi hm hg=>?_⟩
    · show D6 k (i:Int) m=_
      rw [D6]
      simp (disch:=omega) only [dY,hi,decide_true,if_true,tH,hg,Option.bind_eq_bind,Option.bind_some,w1,wR,b1,c1,Int.toNat_natCast]
      rfl
theorem bId {l:List bC} (hl:l.length≤1048576) (hE:∀ y ∈ l,ME y.expr.kids) (hQ:∀ y ∈ l,MQ y.expr.sub):MO l:=by
  intro k h0 hk
  have hz:jH l=(l.map gU).sum:=by
    clear hE hQ hk hl
    induction l with
    | nil=>simp [jH]
    | cons x l ih=>simp [jH,ih]
  rw [aC3]
  refine Exists.elim (Q5 (L:=fun k i m=>zK k i m) (z:=gU) (fun k m=>by rw [zK]; simp) l k hl ?_ h0 (by omega)) fun l' hx=>Exists.elim hx fun k' ⟨a1,a3,a4⟩=>⟨l',k',a1,trivial,a3,by omega⟩
  · intro y hy k h0 hk
    have hzE:=zE y.expr
    have hzI:bR y.expr≤gU y:=by cases y; simp only [gU]; omega
    obtain ⟨la,ka,b1,_,b3,b4⟩:=hE y hy (k+1+1+1+1+1+1+1+1) (by omega) (by omega)
    obtain ⟨lb,kb,c1,_,c3,c4⟩:=hQ y hy ka (by omega) (by omega)
    have n1:¬ ka<0:=by omega
    have n2:¬ kb<0:=by omega
    refine ⟨kb+1,bC.mk (aA.mk k (k+1) (decide (Int.tmod (k+1+1) 3=0)) ⟨k+1+1+1,k+1+1+1+1,mt (k+1+1+1+1+1)⟩ (mt (k+1+1+1+1+1+1)) (mt (k+1+1+1+1+1+1+1)) la lb) (decide (Int.tmod kb 3=0)),by omega,by omega,fun m i hi hm hg=>?_⟩
    · show zK k (i:Int) m=_
      rw [zK]
      simp (disch:=omega) only [dY,hi,decide_true,if_true,tH,hg,Option.bind_eq_bind,Option.bind_some,w1,wR,b1,c1,Int.toNat_natCast]
      rfl
theorem aZ1 {l:List aV} (hl:l.length≤1048576) (hE:∀ y ∈ l,ME y.on_):MS l:=by
  intro k h0 hk
  have hz:gX l=(l.map gD).sum:=by
    clear hE hk hl
    induction l with
    | nil=>simp [gX]
    | cons x l ih=>simp [gX,ih]
  rw [aAl]
  refine Exists.elim (Q5 (L:=fun k i m=>xJ k i m) (z:=gD) (fun k m=>by rw [xJ]; simp) l k hl ?_ h0 (by omega)) fun l' hx=>Exists.elim hx fun k' ⟨a1,a3,a4⟩=>⟨l',k',a1,trivial,a3,by omega⟩
  · intro y hy k h0 hk
    have hzS:y.on_.length+fZ y.on_≤gD y:=by cases y; simp only [gD]; omega
    obtain ⟨la,ka,b1,_,b3,b4⟩:=hE y hy (k+1+1) (by omega) (by omega)
    have n1:¬ ka<0:=by omega
    refine ⟨ka,aV.mk (mt k) (mt (k+1)) la,by omega,by omega,fun m i hi hm hg=>?_⟩
    · show xJ k (i:Int) m=_
      rw [xJ]
      simp (disch:=omega) only [dY,hi,decide_true,if_true,tH,hg,Option.bind_eq_bind,Option.bind_some,w1,wR,b1,Int.toNat_natCast]
      rfl
theorem bK8 {l:List aJ} (hl:l.length≤1048576) (hI:∀ y ∈ l,MI y.items) (hS:∀ y ∈ l,MS y.from_) (hE:∀ y ∈ l,ME y.where_) (hO:∀ y ∈ l,MO y.order):MQ l:=by
  intro k h0 hk
  have hz:=aNp l
  rw [J2]
  refine Exists.elim (Q5 (L:=fun k i m=>D5 k i m) (z:=eO) (fun k m=>by rw [D5]; simp) l k hl ?_ h0 (by omega)) fun l' hx=>Exists.elim hx fun k' ⟨a1,a3,a4⟩=>⟨l',k',a1,trivial,a3,by omega⟩
  · intro y hy k h0 hk
    have hzQ:=zQ y
    obtain ⟨la,ka,b1,_,b3,b4⟩:=hI y hy (k+1) (by omega) (by omega)
    obtain ⟨lb,kb,c1,_,c3,c4⟩:=hS y hy ka (by omega) (by omega)
    obtain ⟨lc,kc,d1,_,d3,d4⟩:=hE y hy kb (by omega) (by omega)
    obtain ⟨ld,kd,e1,_,e3,e4⟩:=hO y hy kc (by omega) (by omega)
    have n1:¬ ka<0:=by omega
    have n2:¬ kb<0:=by omega
    have n3:¬ kc<0:=by omega
    have n4:¬ kd<0:=by omega
    refine ⟨kd+1,aJ.mk (decide (Int.tmod k 3=0)) la lb lc ld kd,by omega,by omega,fun m i hi hm hg=>?_⟩
    · show D5 k (i:Int) m=_
      rw [D5]
      simp (disch:=omega) only [dY,hi,decide_true,if_true,tH,hg,Option.bind_eq_bind,Option.bind_some,w1,wR,b1,c1,d1,e1,Int.toNat_natCast]
      rfl
theorem bW7:∀ n:Nat,(∀ l:List aA,l.length+fZ l≤n→n≤1048576→ME l)∧(∀ l:List aJ,l.length+jY l≤n→n≤1048576→MQ l):=by
  intro n
  induction n with
  | zero =>
    refine ⟨fun l h _=>?_,fun l h _=>?_⟩
    · have:l=[]:=List.eq_nil_of_length_eq_zero (by omega)
      subst this; exact bDk (by simp) (by simp) (by simp)
    · have:l=[]:=List.eq_nil_of_length_eq_zero (by omega)
      subst this; exact bK8 (by simp) (by simp) (by simp) (by simp) (by simp)
  | succ n ih =>
    have hE:∀ l:List aA,l.length+fZ l≤n+1→n+1≤1048576→ME l:=fun l h hn=>bDk (by omega) (fun y hy=>ih.1 _ (by have:=mJ hy; have:=zE y; omega) (by omega)) fun y hy=>ih.2 _ (by have:=mJ hy; have:=zE y; omega) (by omega)
    refine ⟨hE,fun l h hn=>bK8 (by omega) (fun y hy=>?_) (fun y hy=>?_) (fun y hy=>?_) fun y hy=>?_⟩
    · have h1:=uJ hy
      have h2:=zQ y
      exact bF9 (by omega) (fun i hi=>ih.1 _ (by have:=D7 hi; have:=zE i.expr; have:bR i.expr≤fT i:=(by cases i; simp only [fT]; omega); omega) (by omega)) fun i hi=>ih.2 _ (by have:=D7 hi; have:=zE i.expr; have:bR i.expr≤fT i:=(by cases i; simp only [fT]; omega); omega) (by omega)
    · have h1:=uJ hy
      have h2:=zQ y
      exact aZ1 (by omega) fun i hi=>ih.1 _ (by have:=Z8 hi; have:i.on_.length+fZ i.on_≤gD i:=(by cases i; simp only [gD]; omega); omega) (by omega)
    · have h1:=uJ hy
      have h2:=zQ y
      exact ih.1 _ (by omega) (by omega)
    · have h1:=uJ hy
      have h2:=zQ y
      exact bId (by omega) (fun i hi=>ih.1 _ (by have:=xX hi; have:=zE i.expr; have:bR i.expr≤gU i:=(by cases i; simp only [gU]; omega); omega) (by omega)) fun i hi=>ih.2 _ (by have:=xX hi; have:=zE i.expr; have:bR i.expr≤gU i:=(by cases i; simp only [gU]; omega); omega) (by omega)
theorem bRy {α : Type} {LM : Int → Int → List α → Option (Int × List α)} {LH : List α → Int → Int → Option Int} {z : α → Nat} {B : Int}
    (hend:∀ k (m:List α),LM k (m.length:Int) m=some (k,m)) (hend2:∀ k (m:List α),LH m k (m.length:Int)=some k) :
    ∀ (r:Nat) (i:Nat) (m:List α) (k:Int),m.length=i+r→m.length≤2500000000000 →
    (∀ y ∈ m.drop i,∀ k,0≤k→k+13 * (1+z y:Nat)≤B→∃ k1 y',k≤k1∧k1≤k+13 * (1+z y:Nat) ∧
      (∀ (m:List α) (i:Nat),i<m.length→m.length≤2500000000000→m[i]?=some y→LM k (i:Int) m=LM k1 ((i+1:Nat):Int) (m.set i y')) ∧
      (∀ (M:List α) (i:Nat),i<M.length→M.length≤2500000000000→M[i]?=some y'→LH M k (i:Int)=LH M k1 ((i+1:Nat):Int))) →
    0≤k→k+13 * ((m.drop i).length+((m.drop i).map z).sum:Nat)≤B →
    ∃ m' k',LM k (i:Int) m=some (k',m')∧m'.length=m.length∧m'.take i=m.take i∧(∀ M:List α,M.length=m'.length→M.drop i=m'.drop i→LH M k (i:Int)=some k')∧k≤k'∧k'≤k+13 * ((m.drop i).length+((m.drop i).map z).sum:Nat):=by
  intro r
  induction r with
  | zero =>
    intro i m k hl _ _ h0 hk
    have e:i=m.length:=by omega
    subst e
    refine ⟨m,k,hend k m,rfl,rfl,fun M hM _=>?_,by omega,by simp⟩
    rw [← hM]; exact hend2 k M
  | succ r ih =>
    intro i m k hl hsm H h0 hk
    have hi:i<m.length:=by omega
    have hd:m.drop i=m[i]::m.drop (i+1):=List.drop_eq_getElem_cons hi
    rw [hd] at hk H
    simp only [List.length_cons,List.map_cons,List.sum_cons] at hk
    obtain ⟨k1,y',a1,a2,a3,a4⟩:=H m[i] List.mem_cons_self k h0 (by omega)
    have hset:(m.set i y').drop (i+1)=m.drop (i+1):=List.drop_set_of_lt (by omega)
    obtain ⟨m',k',b1,b2,b3,b4,b5,b6⟩:=ih (i+1) (m.set i y') k1 (by simp; omega) (by simpa using hsm) (by rw [hset]; exact fun y hy=>H y (List.mem_cons_of_mem _ hy)) (by omega) (by rw [hset]; omega)
    rw [hset] at b6
    rw [List.length_set] at b2
    have hm'i:m'[i]?=some y':=by
      have:(m'.take (i+1))[i]?=((m.set i y').take (i+1))[i]?:=by rw [b3]
      rw [List.getElem?_take_of_lt (by omega),List.getElem?_take_of_lt (by omega)] at this
      rw [this]; simp [hi]
    refine ⟨m',k',?_,b2,?_,fun M hM hMd=>?_,by omega,?_⟩
    · rw [a3 m i hi hsm (by simp [hi]),b1]
    · have:(m'.take (i+1)).take i=((m.set i y').take (i+1)).take i:=by rw [b3]
      rw [List.take_take,List.take_take,Nat.min_eq_left (by omega),List.take_set_of_le (Nat.le_refl _)] at this
      exact this
    · have hMi : M[i]? = some y' := by
        have:(M.drop i)[0]?=(m'.drop i)[0]?:=by rw [hMd]
        simpa [hm'i] using this
      rw [a4 M i (by omega) (by omega) hMi]
      refine b4 M hM ?_
      have:(M.drop i).drop 1=(m'.drop i).drop 1:=by rw [hMd]
      simpa [List.drop_drop,Nat.add_comm] using this
    · rw [hd]
      simp only [List.length_cons,List.map_cons,List.sum_cons]; omega
theorem cC4 {α : Type} {LM : Int → Int → List α → Option (Int × List α)} {LH : List α → Int → Int → Option Int} {z : α → Nat} {B : Int}
    (hend:∀ k (m:List α),LM k (m.length:Int) m=some (k,m)) (hend2:∀ k (m:List α),LH m k (m.length:Int)=some k) (l:List α) (k:Int) (hl:l.length≤2500000000000)
    (H:∀ y ∈ l,∀ k,0≤k→k+13 * (1+z y:Nat)≤B→∃ k1 y',k≤k1∧k1≤k+13 * (1+z y:Nat) ∧
      (∀ (m:List α) (i:Nat),i<m.length→m.length≤2500000000000→m[i]?=some y→LM k (i:Int) m=LM k1 ((i+1:Nat):Int) (m.set i y')) ∧
      (∀ (M:List α) (i:Nat),i<M.length→M.length≤2500000000000→M[i]?=some y'→LH M k (i:Int)=LH M k1 ((i+1:Nat):Int)))
    (h0:0≤k) (hk:k+13 * (l.length+(l.map z).sum:Nat)≤B) :
    ∃ l' k',LM k 0 l=some (k',l')∧LH l' k 0=some k'∧k≤k'∧k'≤k+13 * (l.length+(l.map z).sum:Nat):=by
  obtain ⟨m',k',b1,b2,b3,b4,b5,b6⟩:=bRy (z:=z) (B:=B) hend hend2 l.length 0 l k (by omega) hl (by simpa using H) h0 (by simpa using hk)
  exact ⟨m',k',by simpa using b1,by simpa using b4 m' rfl rfl,b5,by simpa using b6⟩
theorem cJk {α : Type} {p : List α} {E : α → α → Option Bool} {L : Int → Option Bool} {S : List α → List α → Option Bool} (hp : p.length ≤ 2500000000000)
    (hS:S p p=if (!decide ((p.length:Int)=(p.length:Int)))=true then (some false) else L 0)
    (hL:∀ i:Nat,L (i:Int)=if (decide ((i:Int)<(p.length:Int)))=true then ((idx p (i:Int))>>=fun y1=>(idx p (i:Int))>>=fun y2=>(E y1 y2)>>=fun y3=>if (!y3)=true then (some false) else L (IntKind.wrap .i64 ((i:Int)+1))) else some true)
    (H:∀ y ∈ p,E y y=some true):S p p=some true:=by
  have key:∀ i,i≤p.length→L (i:Nat)=some true:=by
    refine jC ?_ ?_
    · rw [hL]; simp
    · intro i hi ih
      rw [hL]
      simp only [dY,fD hi,fM hi (by omega),H _ (List.getElem_mem hi),Option.bind_eq_bind,Option.bind_some,ih]
      simp
  rw [hS]
  have:=key 0 (by omega)
  simpa using this
theorem w1b {j:Int} (h0:0≤j) (h1:j≤1000000000000000):IntKind.wrap .i64 (j+1)=j+1:=kN (by omega) (by omega)
theorem bSw (p:List aB) (hp:p.length≤2500000000000):C9 p p=some true:=cJk (E:=aCn) hp (by rw [C9]) (fun i=>by rw [U6]) fun y _=>by simp [aCn]
theorem bKm (l:List aB) (hl:l.length≤2500000000000):∃ l' k',aDm l 1=some (k',l')∧aAn l' 1=some k'∧1≤k':=by
  have hz:(l.map fun _=>0).sum=0:=by
    clear hl
    induction l with
    | nil=>rfl
    | cons x l ih=>simpa using ih
  refine Exists.elim (cC4 (LM:=fun k i m=>wH k i m) (LH:=fun m k i=>wF m k i) (z:=fun _=>0) (B:=100000000000000) (fun k m=>by rw [wH]; simp) (fun k m=>by rw [wF]; simp) l 1 hl ?_ (by omega) (by rw [hz]; omega)) fun l' hx=>Exists.elim hx fun k' ⟨a1,a2,a3,a4⟩=>⟨l',k',by rw [aDm]; exact a1,by rw [aAn]; exact a2,a3⟩
  intro y hy k h0 hk
  refine ⟨k+1+1+1+1+1,⟨mt k,mt (k+1),k+1+1,k+1+1+1,k+1+1+1+1⟩,by omega,by omega,fun m i hi hm hg=>?_,fun M i hi hm hg=>?_⟩
  · show wH k (i:Int) m=_
    rw [wH]
    simp (disch:=omega) only [dY,hi,decide_true,if_true,tH,hg,Option.bind_eq_bind,Option.bind_some,w1b,wR,Int.toNat_natCast]
    rfl
  · show wF M k (i:Int)=_
    rw [wF]
    simp (disch:=omega) only [dY,hi,decide_true,if_true,tH,hg,Option.bind_eq_bind,Option.bind_some,w1b,wR,eq_self,Bool.not_true,Bool.false_eq_true,if_false,decide_false]
    rfl
theorem cOm (l:List bI) (hl:l.length≤1048576) (k:Int) (h0:0≤k) (hk:k+13 * (l.length:Nat)≤1000000000):∃ l' k',aE0 l k=some (k',l')∧k≤k'∧k'≤k+13 * (l.length:Nat):=by
  have hz:(l.map fun _=>0).sum=0:=by
    clear hl hk
    induction l with
    | nil=>rfl
    | cons x l ih=>simpa using ih
  rw [aE0]
  refine Exists.elim (Q5 (L:=fun k i m=>wW k i m) (z:=fun _=>0) (fun k m=>by rw [wW]; simp) l k hl ?_ h0 (by rw [hz]; omega)) fun l' hx=>Exists.elim hx fun k' ⟨a1,a3,a4⟩=>⟨l',k',a1,a3,by rw [hz] at a4; omega⟩
  intro y hy k h0 hk
  refine ⟨k+1+1,⟨mt k,k+1⟩,by omega,by omega,fun m i hi hm hg=>?_⟩
  show wW k (i:Int) m=_
  rw [wW]
  simp (disch:=omega) only [dY,hi,decide_true,if_true,tH,hg,Option.bind_eq_bind,Option.bind_some,w1b,wR,Int.toNat_natCast]
  rfl
theorem bOb (l : List aP) (hl : l.length ≤ 1048576) (hc : ∀ t ∈ l, t.cols.length ≤ 1048576) (k : Int) (h0 : 0 ≤ k) (hk : k + 13 * (l.length + (l.map fun t => t.cols.length).sum : Nat) ≤ 1000000000) :
    ∃ l' k',aDy l k=some (k',l')∧k≤k'∧k'≤k+13 * (l.length+(l.map fun t=>t.cols.length).sum:Nat):=by
  rw [aDy]
  refine Exists.elim (Q5 (L:=fun k i m=>xI k i m) (z:=fun t=>t.cols.length) (fun k m=>by rw [xI]; simp) l k hl ?_ h0 hk) fun l' hx=>Exists.elim hx fun k' ⟨a1,a3,a4⟩=>⟨l',k',a1,a3,a4⟩
  intro y hy k h0 hk
  obtain ⟨la,ka,b1,b3,b4⟩:=cOm y.cols (hc y hy) (k+1) (by omega) (by omega)
  refine ⟨ka,⟨mt k,la⟩,by omega,by omega,fun m i hi hm hg=>?_⟩
  show xI k (i:Int) m=_
  rw [xI]
  simp (disch:=omega) only [dY,hi,decide_true,if_true,tH,hg,Option.bind_eq_bind,Option.bind_some,w1b,wR,b1,Int.toNat_natCast]
  rfl
theorem R6 {α : Type} {p : List α} {W : α → Option α} {by' : Nat} {d : α} {L : Int → List α → Option (List α)} {S : Option (List α)} (hp : p.length ≤ 1048576) (hby : by' ≤ 134217728)
    (hS:S=(mkG by' (p.length:Int) d>>=fun y=>L 0 y))
    (hL:∀ (i:Nat) b,L (i:Int) b=if (decide ((i:Int)<(p.length:Int)))=true then ((idx p (i:Int))>>=fun y2=>(W y2)>>=fun y3=>(idx b (i:Int))>>=fun _=>L (IntKind.wrap .i64 ((i:Int)+1)) (b.set ((i:Int)).toNat y3)) else some b)
    (H:∀ y ∈ p,W y=some y):S=some p:=by
  refine vF (W:=W) (L:=L) hp hby hS (fun i b=>?_) H
  rw [hL]
  split
  · cases idx p (i:Int) with
    | none=>rfl
    | some y =>
      simp only [Option.bind_eq_bind,Option.bind_some]
      cases W y with
      | none=>rfl
      | some z =>
        simp only [Option.bind_some]
        rw [tH]
        cases hb:b[i]? with
        | none=>rfl
        | some u =>
          have hi:i<b.length:=(List.getElem?_eq_some_iff.1 hb).1
          have:pO b (i:Int) z=some (b.set i z):=by unfold pO; rw [if_pos ⟨by omega,by simp; omega⟩]; simp
          simp only [Option.bind_some,this,Int.toNat_natCast]
  · rfl
theorem aPx {l:List aA} (hl:l.length≤1048576) (hE:∀ y ∈ l,rV y.kids=some y.kids) (hQ:∀ y ∈ l,K4 y.sub=some y.sub):rV l=some l :=
  R6 (W:=uG) (by':=136) (L:=fun i b=>T9 l i b) hl (by omega) (by rw [rV]) (fun i b=>by rw [T9]) fun y hy=>by rw [uG,hE y hy,hQ y hy]; cases y; simp [wO]
theorem bJc {l:List bA} (hl:l.length≤1048576) (hE:∀ y ∈ l,uG y.expr=some y.expr):aB4 l=some l :=
  R6 (W:=aCr) (by':=176) (L:=fun i b=>X8 l i b) hl (by omega) (by rw [aB4]) (fun i b=>by rw [X8]) fun y hy=>by rw [aCr,hE y hy]; cases y; simp
theorem bGr {l:List bC} (hl:l.length≤1048576) (hE:∀ y ∈ l,uG y.expr=some y.expr):Y9 l=some l :=
  R6 (W:=aDj) (by':=144) (L:=fun i b=>aAs l i b) hl (by omega) (by rw [Y9]) (fun i b=>by rw [aAs]) fun y hy=>by rw [aDj,hE y hy]; cases y; simp
theorem bCq {l:List aV} (hl:l.length≤1048576) (hE:∀ y ∈ l,rV y.on_=some y.on_):aA6 l=some l :=
  R6 (W:=aBw) (by':=56) (L:=fun i b=>aBy l i b) hl (by omega) (by rw [aA6]) (fun i b=>by rw [aBy]) fun y hy=>by rw [aBw,hE y hy]; cases y; simp
theorem bH1 {q:aJ} (h1:aB4 q.items=some q.items) (h2:aA6 q.from_=some q.from_) (h3:rV q.where_=some q.where_) (h4:Y9 q.order=some q.order):tN q=some q:=by
  rw [tN,h1,h2,h3,h4]; cases q; simp
theorem aXm {l:List aJ} (hl:l.length≤1048576) (hQ:∀ y ∈ l,tN y=some y):K4 l=some l :=
  R6 (W:=tN) (by':=112) (L:=fun i b=>Y2 l i b) hl (by omega) (by rw [K4]) (fun i b=>by rw [Y2]) hQ
theorem bOr:∀ n:Nat,(∀ l:List aA,l.length+fZ l≤n→n≤1048576→rV l=some l)∧(∀ l:List aJ,l.length+jY l≤n→n≤1048576→K4 l=some l)∧(∀ q:aJ,eO q≤n→n≤1048576→tN q=some q):=by
  intro n
  induction n with
  | zero =>
    have e0:rV []=some []:=aPx (by simp) (by simp) (by simp)
    refine ⟨fun l h _=>?_,fun l h _=>?_,fun q h _=>?_⟩
    · have:l=[]:=List.eq_nil_of_length_eq_zero (by omega)
      subst this; exact e0
    · have:l=[]:=List.eq_nil_of_length_eq_zero (by omega)
      subst this; exact aXm (by simp) (by simp)
    · have hq:=zQ q
      have h1:q.items=[]:=List.eq_nil_of_length_eq_zero (by omega)
      have h2:q.from_=[]:=List.eq_nil_of_length_eq_zero (by omega)
      have h3:q.where_=[]:=List.eq_nil_of_length_eq_zero (by omega)
      have h4:q.order=[]:=List.eq_nil_of_length_eq_zero (by omega)
      refine bH1 ?_ ?_ ?_ ?_
      · rw [h1]; exact bJc (by simp) (by simp)
      · rw [h2]; exact bCq (by simp) (by simp)
      · rw [h3]; exact e0
      · rw [h4]; exact bGr (by simp) (by simp)
  | succ n ih =>
    obtain ⟨i1,i2,i3⟩:=ih
    have X:∀ x:aA,bR x≤n→n+1≤1048576→uG x=some x:=fun x hx hn=>by
      have:=zE x
      rw [uG,i1 x.kids (by omega) (by omega),i2 x.sub (by omega) (by omega)]; cases x; simp [wO]
    have Q:∀ q:aJ,eO q≤n+1→n+1≤1048576→tN q=some q:=fun q h hn=>by
      have hq:=zQ q
      refine bH1 (bJc (by omega) fun y hy=>X _ (by have:=D7 hy; have:bR y.expr≤fT y:=(by cases y; simp only [fT]; omega); omega) hn) (bCq (by omega) fun y hy=>i1 _ (by have:=Z8 hy; have:y.on_.length+fZ y.on_≤gD y:=(by cases y; simp only [gD]; omega); omega) (by omega)) ?_
        (bGr (by omega) fun y hy=>X _ (by have:=xX hy; have:bR y.expr≤gU y:=(by cases y; simp only [gU]; omega); omega) hn)
      exact aPx (by omega) (fun y hy=>i1 _ (by have:=mJ hy; have:=zE y; omega) (by omega)) fun y hy=>i2 _ (by have:=mJ hy; have:=zE y; omega) (by omega)
    refine ⟨fun l h hn=>aPx (by omega) (fun y hy=>i1 _ (by have:=mJ hy; have:=zE y; omega) (by omega)) fun y hy=>i2 _ (by have:=mJ hy; have:=zE y; omega) (by omega),fun l h hn=>aXm (by omega) fun y hy=>Q y (by have:=uJ hy; omega) hn,Q⟩
theorem aIu {α:Type} (z:α→Nat) (l m:List α):((l++m).map z).sum=(l.map z).sum+(m.map z).sum:=by simp
theorem aPj (q:aJ):(gH q).length+((gH q).map bR).sum≤eO q:=by
  have h:=zQ q
  have h1:∀ l:List bA,(l.flatMap (fun i=>if i.star then [] else [i.expr])).length+((l.flatMap (fun i=>if i.star then [] else [i.expr])).map bR).sum≤l.length+jE l:=by
    intro l
    induction l with
    | nil=>simp
    | cons x l ih =>
      rw [List.flatMap_cons,List.length_append,aIu]
      have h1:(if x.star=true then [] else [x.expr]).length+((if x.star=true then [] else [x.expr]).map bR).sum≤1+fT x:=by
        obtain ⟨a,b,c,d⟩:=x
        cases a <;> simp [fT] <;> omega
      simp only [List.length_cons,jE]; omega
  have h2:∀ l:List aV,(l.flatMap (fun s=>s.on_)).length+((l.flatMap (fun s=>s.on_)).map bR).sum≤l.length+gX l:=by
    intro l
    induction l with
    | nil=>simp
    | cons x l ih =>
      rw [List.flatMap_cons,List.length_append,aIu]
      obtain ⟨a,b,c⟩:=x
      simp only [List.length_cons,gX,gD,wG]; omega
  have h3:∀ l:List bC,(l.flatMap (fun k=>[k.expr])).length+((l.flatMap (fun k=>[k.expr])).map bR).sum≤l.length+jH l:=by
    intro l
    induction l with
    | nil=>simp
    | cons x l ih =>
      rw [List.flatMap_cons,List.length_append,aIu]
      obtain ⟨a,b⟩:=x
      simp only [List.length_cons,List.length_nil,List.map_cons,List.map_nil,List.sum_cons,List.sum_nil,jH,gU]; omega
  have k1:=h1 q.items
  have k2:=h2 q.from_
  have k3:=h3 q.order
  have k4:=wG q.where_
  simp only [gH,List.length_append,aIu]
  omega
theorem aCd {α:Type} {d:α→Int}:∀ {p:List α} {b:Int},0≤b→(∀ y ∈ p,0≤d y)→b+(p.map d).sum≤4611686018427387904→p.foldl (fun b y=>IntKind.wrap .i64 (b+d y)) b=b+(p.map d).sum
  | [],b,_,_,_=>by simp
  | x::p,b,h0,h1,h2=>by
    simp only [List.map_cons,List.sum_cons] at h2 ⊢
    have hx:=h1 x (by simp)
    have hs:0≤(p.map d).sum:=by
      have:∀ l:List α,(∀ y ∈ l,0≤d y)→0≤(l.map d).sum:=by
        intro l
        induction l with
        | nil=>intro _; simp
        | cons a l ih=>intro h; simp only [List.map_cons,List.sum_cons]; have:=h a (by simp); have:=ih fun y hy=>h y (by simp [hy]); omega
      exact this p fun y hy=>h1 y (by simp [hy])
    rw [List.foldl_cons,kN (by omega) (by omega),aCd (by omega) (fun y hy=>h1 y (by simp [hy])) (by omega)]
    omega
theorem aDa {α:Type} {d:α→Int} {z:α→Nat}:∀ {p:List α},(∀ y ∈ p,0≤d y∧d y≤1+z y)→0≤(p.map d).sum∧(p.map d).sum≤p.length+(p.map z).sum
  | [],_=>by simp
  | x::p,h=>by
    have h1:=h x (by simp)
    have h2:=aDa (p:=p) fun y hy=>h y (by simp [hy])
    simp only [List.map_cons,List.sum_cons,List.length_cons]; omega
theorem aWs {α:Type} {d:α→Int} {z:α→Nat}:∀ {p:List α},(∀ y ∈ p,0≤d y∧d y≤z y)→0≤(p.map d).sum∧(p.map d).sum≤(p.map z).sum
  | [],_=>by simp
  | x::p,h=>by
    have h1:=h x (by simp)
    have h2:=aWs (p:=p) fun y hy=>h y (by simp [hy])
    simp only [List.map_cons,List.sum_cons]; omega
theorem I8 (s:List UInt8):∃ b,mZ s=some b∧qD s=some b:=by
  unfold qD mZ lZ
  exact ⟨_,rfl,rfl⟩
theorem aB1 (s:List UInt8):∃ b,qF s=some b∧xV s=some b:=by
  obtain ⟨b,h1,h2⟩:=I8 s
  unfold qF xV
  by_cases h:s=[]
  · simp [h]
  · simp [h,h1,h2]
theorem bP9 (x:dV):aEa x=Z0 x∧∃ b,Z0 x=some b:=by
  unfold aEa Z0 lZ
  simp only [Option.bind_eq_bind,Option.bind_some]
  by_cases h0:x.kind=0
  · simp [h0]
  by_cases h1:x.kind=1
  · simp [h1]
  by_cases h2:x.kind=2
  · simp [h2]
  by_cases h3:x.kind=3
  · by_cases n0:x.num=0
    · simp [h3,n0]
    by_cases n1:x.num=1
    · simp [h3,n1]
    have e:(if decide (0≤x.num)=true then decide (x.num≤1) else false)=false:=by
      by_cases p:0≤x.num
      · simp [p]; omega
      · simp [p]
    rw [e]
    simp [h3,n0,n1]
  · simp [h0,h1,h2,h3]
theorem aX0 (x:dV):∃ b,aA4 x=some b∧aAr x=some b:=by
  obtain ⟨h1,b,h2⟩:=bP9 x
  unfold aA4 aAr
  rw [h1,h2]
  cases b <;> simp
def aF4 (x:aA):Option Bool:=(xU x.kids)>>=fun (y13:Bool)=>(if (true&&(y13==true))=true then Q9 x.sub else some default)>>=fun (y14:Bool)=>(some (if y13=true then (!y14) else false))>>=fun (y15:Bool)=>some y15
theorem orM {β:Type} {b:Bool} {m:Option Bool} {K:Bool→Option β}:((if (true&&(b==false))=true then m else some (default:Bool)).bind fun y=>(some (if b=true then true else y)).bind K)=((if b=true then some true else m).bind K):=by cases b <;> cases m <;> rfl
theorem orS (b c:Bool):(if b=true then some true else some c)=some (b||c):=by cases b <;> rfl
theorem orB (b c:Bool):(if b=true then true else c)=(b||c):=by cases b <;> rfl
theorem bK4 (b c:Bool):(if b=true then c else false)=(b&&c):=by cases b <;> rfl
theorem cKa (x : aA) (f : jW) (ok : Bool) (hf : I5 x = some (f, ok)) : rZ x =
    if (ok&&!(!f.op&&!decide (x.op=0))&&!(!f.not_&&x.not_)&&!(!f.value&&!((decide (x.value.kind=0))&&((decide (x.value.num=0))&&((decide (x.value.text=[]))&&true))))&&!(!f.name&&(!decide (x.qual=[])||!decide (x.name=[])))&&!(decide ((x.kids.length:Int)<f.least)||decide (f.most<(x.kids.length:Int))||!decide ((x.sub.length:Int)=f.subs)))=true then aF4 x else some false:=by
  rw [rZ,hf]
  simp only [Option.bind_eq_bind]
  rw [show ∀ K:jW×Bool→Option Bool,(some (f,ok)).bind K=K (f,ok) from fun _=>rfl]
  simp only [orM]
  simp only [bK4,orB,orS]
  simp only [Option.bind_some,aF4,Option.bind_eq_bind]
  generalize ((decide (x.value.kind=0))&&((decide (x.value.num=0))&&((decide (x.value.text=[]))&&true)))=zv
  generalize (!f.op&&!decide (x.op=0))=p1
  generalize (!f.not_&&x.not_)=p2
  generalize (!f.value&&!zv)=p3
  generalize (!decide (x.qual=[])||!decide (x.name=[]))=p4
  generalize f.name=fm
  generalize (decide ((x.kids.length:Int)<f.least)||decide (f.most<(x.kids.length:Int))||!decide ((x.sub.length:Int)=f.subs))=l3
  cases ok <;> cases p1 <;> cases p2 <;> cases p3 <;> cases fm <;> cases p4 <;> cases l3 <;> simp
def zvE (x:aA):Bool:=((decide (x.value.kind=0))&&((decide (x.value.num=0))&&((decide (x.value.text=[]))&&true)))
theorem bYf (x : aA) : aAb x = (if ((!decide (x.kind = 2) && (!decide (x.qual = []) || !decide (x.name = []))) || (!decide (x.kind = 1) && !zvE x)) = true then some false else
    if ((!decide (x.kind=3)&&!decide (x.kind=4))&&!decide (x.op=0)||(x.not_&&!(decide (5≤x.kind)&&decide (x.kind≤8))))=true then some false else
    (if (decide (x.kind=1))=true then ((aA4 x.value)>>=fun (y10:Bool)=>some (y10&&decide ((IntKind.wrap .i64 ((x.kids.length:Int)+(x.sub.length:Int)))=0)))
     else if (decide (x.kind=2))=true then ((mZ x.name)>>=fun (y12:Bool)=>(if y12=true then qF x.qual else some false)>>=fun (y14:Bool)=>some (y14&&decide ((IntKind.wrap .i64 ((x.kids.length:Int)+(x.sub.length:Int)))=0)))
     else some (if x.kind=3 then (decide (x.op=15)||decide (x.op=16))&&decide ((x.kids.length:Int)=1)&&decide ((x.sub.length:Int)=0)
      else if x.kind=4 then (decide (1≤x.op)&&decide (x.op≤14))&&decide ((x.kids.length:Int)=2)&&decide ((x.sub.length:Int)=0)
      else if x.kind=5 then decide ((x.kids.length:Int)=1)&&decide ((x.sub.length:Int)=0)
      else if x.kind=6 then decide ((x.kids.length:Int)=3)&&decide ((x.sub.length:Int)=0)
      else if x.kind=7 then (decide (2≤(x.kids.length:Int))&&decide ((x.kids.length:Int)≤9))&&decide ((x.sub.length:Int)=0)
      else if x.kind=8 then decide ((x.kids.length:Int)=1)&&decide ((x.sub.length:Int)=1)
      else if x.kind=9 then decide ((x.kids.length:Int)=0)&&decide ((x.sub.length:Int)=1)
      else false))):=by
  unfold aAb lZ
  simp only [Option.bind_eq_bind]
  simp only [Option.bind_some]
  simp only [bK4,orB]
  obtain ⟨k,o,no,v,q,nm,ks,sb⟩:=x
  obtain ⟨bl,l1,l2⟩:=aX0 v
  obtain ⟨bn,n1,n2⟩:=I8 nm
  obtain ⟨bq,q1,q2⟩:=aB1 q
  have hz:zvE ⟨k,o,no,v,q,nm,ks,sb⟩=((decide (v.kind=0))&&((decide (v.num=0))&&((decide (v.text=[]))&&true))):=rfl
  simp only [l1,n1,q1,hz,Option.bind_some]
  generalize ((decide (v.kind=0))&&((decide (v.num=0))&&((decide (v.text=[]))&&true)))=zv
  generalize decide (q=[])=q0
  generalize decide (nm=[])=n0
  by_cases k1:k=1
  · subst k1; cases q0 <;> cases n0 <;> cases no <;> by_cases o0:o=0 <;> cases bl <;> simp [o0]
  by_cases k2:k=2
  · subst k2; cases zv <;> cases no <;> by_cases o0:o=0 <;> cases bn <;> simp [o0]
  by_cases k3:k=3
  · subst k3; cases q0 <;> cases n0 <;> cases zv <;> cases no <;> simp
  by_cases k4:k=4
  · subst k4; cases q0 <;> cases n0 <;> cases zv <;> cases no <;> simp
  have kk:¬ (k=3∨k=4):=by omega
  by_cases k5:k=5
  · subst k5; cases q0 <;> cases n0 <;> cases zv <;> cases no <;> by_cases o0:o=0 <;> simp [o0]
  by_cases k6:k=6
  · subst k6; cases q0 <;> cases n0 <;> cases zv <;> cases no <;> by_cases o0:o=0 <;> simp [o0]
  by_cases k7:k=7
  · subst k7; cases q0 <;> cases n0 <;> cases zv <;> cases no <;> by_cases o0:o=0 <;> simp [o0]
  by_cases k8:k=8
  · subst k8; cases q0 <;> cases n0 <;> cases zv <;> cases no <;> by_cases o0:o=0 <;> simp [o0]
  by_cases k9:k=9
  · subst k9; cases q0 <;> cases n0 <;> cases zv <;> cases no <;> by_cases o0:o=0 <;> simp [o0]
  have kr:(decide (5≤k)&&decide (k≤8))=false:=by
    by_cases h:5≤k
    · have:¬ k≤8:=by omega
      simp [this]
    · simp [h]
  cases q0 <;> cases n0 <;> cases zv <;> cases no <;> by_cases o0:o=0 <;> simp [o0,k1,k2,k3,k4,k5,k6,k7,k8,k9]
theorem bZ7 (x : aA) (bl bc : Bool) (h1 : aAr x.value = some bl) (h2 : (mZ x.name >>= fun (y12 : Bool) => (if y12 = true then qF x.qual else some false)) = some bc) : I5 x = some (
    if x.kind=1 then (⟨false,false,true,false,0,0,0⟩,bl)
    else if x.kind=2 then (⟨false,false,false,true,0,0,0⟩,bc)
    else if x.kind=3 then (⟨true,false,false,false,1,1,0⟩,decide (x.op=15)||decide (x.op=16))
    else if x.kind=4 then (⟨true,false,false,false,2,2,0⟩,decide (1≤x.op)&&decide (x.op≤14))
    else if x.kind=5 then (⟨false,true,false,false,1,1,0⟩,true)
    else if x.kind=6 then (⟨false,true,false,false,3,3,0⟩,true)
    else if x.kind=7 then (⟨false,true,false,false,2,9,0⟩,true)
    else if x.kind=8 then (⟨false,true,false,false,1,1,1⟩,true)
    else if x.kind=9 then (⟨false,false,false,false,0,0,1⟩,true)
    else (⟨false,false,false,false,0,0,0⟩,false)):=by
  obtain ⟨k,o,no,v,q,nm,ks,sb⟩:=x
  obtain ⟨bn,n1,n2⟩:=I8 nm
  obtain ⟨bo,o1,o2⟩:=I8 q
  unfold I5
  dsimp only at h1 h2 ⊢
  have h3:((if ((true&&(bn==true))&&((decide (q=[]))==false))=true then qD q else some default).bind fun (y3:Bool)=>(if (true&&(bn==true))=true then some (if (decide (q=[]))=true then true else y3) else some default).bind fun (y4:Bool)=>(some (if bn=true then y4 else false)).bind fun y5=>some ((jW.mk false false false true 0 0 0),y5))=some ((jW.mk false false false true 0 0 0),bc):=by
    unfold qF at h2
    rw [n1,o1] at h2
    rw [o2]
    cases bn
    · simp at h2; simp [h2]
    · by_cases q0:q=[]
      · simp [q0] at h2; simp [q0,h2]
      · simp [q0] at h2; simp [q0,h2]
  simp only [h1,n2,Option.bind_eq_bind,Option.bind_some]
  by_cases k1:k=1
  · simp [k1]
  by_cases k2:k=2
  · subst k2; simp only [Option.bind_some] at h3; simpa using h3
  by_cases k3:k=3
  · simp [k3]
  by_cases k4:k=4
  · simp [k4]
  by_cases k5:k=5
  · simp [k5]
  by_cases k6:k=6
  · simp [k6]
  by_cases k7:k=7
  · simp [k7]
  by_cases k8:k=8
  · simp [k8]
  by_cases k9:k=9
  · simp [k9]
  simp [k1,k2,k3,k4,k5,k6,k7,k8,k9]
theorem cP1 (x:aA) (hk:x.kids.length≤1048576) (hs:x.sub.length≤1048576):∃ b,aAb x=some b∧(rZ x=if b=true then aF4 x else some false)∧(b=true→x.sub.length≤1):=by
  obtain ⟨bl,l1,l2⟩:=aX0 x.value
  obtain ⟨bn,n1,n2⟩:=I8 x.name
  obtain ⟨bq,q1,q2⟩:=aB1 x.qual
  have hc:(mZ x.name>>=fun (y12:Bool)=>(if y12=true then qF x.qual else some false))=some (bn&&bq):=by
    rw [n1,q1]; cases bn <;> rfl
  have hw:IntKind.wrap .i64 ((x.kids.length:Int)+(x.sub.length:Int))=(x.kids.length:Int)+(x.sub.length:Int):=kN (by omega) (by omega)
  have hF:=bZ7 x bl (bn&&bq) l2 hc
  obtain ⟨f,ok,hfo⟩:∃ f ok,I5 x=some (f,ok):=⟨_,_,hF⟩
  have hi:=cKa x f ok hfo
  rw [hfo] at hF
  have hp:=bYf x
  rw [l1,hw] at hp
  have hc2:((mZ x.name)>>=fun (y12:Bool)=>(if y12=true then qF x.qual else some false)>>=fun (y14:Bool)=>some (y14&&decide ((x.kids.length:Int)+(x.sub.length:Int)=0)))=some ((bn&&bq)&&decide ((x.kids.length:Int)+(x.sub.length:Int)=0)):=by
    rw [n1,q1]; cases bn <;> rfl
  rw [hc2] at hp
  rw [hp,hi]
  have hz:((decide (x.value.kind=0))&&((decide (x.value.num=0))&&((decide (x.value.text=[]))&&true)))=zvE x:=rfl
  rw [hz]
  obtain ⟨k,o,no,v,q,nm,ks,sb⟩:=x
  generalize zvE ⟨k,o,no,v,q,nm,ks,sb⟩=zv
  dsimp only at hk hs hF ⊢
  generalize decide (q=[])=q0
  generalize decide (nm=[])=n0
  generalize (bn&&bq)=bc at hF ⊢
  clear hi hp hc hc2 hw hz l1 l2 n1 n2 q1 q2 hfo
  generalize aF4 _=R
  have b2i:∀ (a b:Bool),a=b→∀ (c:Prop),(a=true→c)→∃ b',(some a:Option Bool)=some b'∧(if b=true then R else some false)=(if b'=true then R else some false)∧(b'=true→c):=by
    rintro a b rfl c h; exact ⟨a,rfl,rfl,h⟩
  have lt0:decide ((ks.length:Int)<0)=false:=by simp
  have hif:∀ (a b:Bool) (X:Bool),(if a=true then some false else if b=true then some false else some X)=some (!a&&(!b&&X)):=by intro a b X; cases a <;> cases b <;> rfl
  have e2:(decide ((0:Int)<(ks.length:Int))||!decide ((sb.length:Int)=0))=!decide ((ks.length:Int)+(sb.length:Int)=0):=by rw [Bool.eq_iff_iff]; simp only [Bool.or_eq_true,Bool.not_eq_true',decide_eq_true_eq,decide_eq_false_iff_not]; omega
  have eN:∀ n:Int,(decide ((ks.length:Int)<n)||decide (n<(ks.length:Int)))=!decide ((ks.length:Int)=n):=fun n=>by rw [Bool.eq_iff_iff]; simp only [Bool.or_eq_true,Bool.not_eq_true',decide_eq_true_eq,decide_eq_false_iff_not]; omega
  have e4:(decide ((ks.length:Int)<2)||decide ((9:Int)<(ks.length:Int)))=!(decide (2≤(ks.length:Int))&&decide ((ks.length:Int)≤9)):=by rw [Bool.eq_iff_iff]; simp only [Bool.or_eq_true,Bool.not_eq_true',Bool.and_eq_false_iff,decide_eq_true_eq,decide_eq_false_iff_not]; omega
  have e0:decide ((0:Int)<(ks.length:Int))=!decide ((ks.length:Int)=0):=by rw [Bool.eq_iff_iff]; simp only [Bool.not_eq_true',decide_eq_true_eq,decide_eq_false_iff_not]; omega
  by_cases k1:k=1
  · subst k1
    simp only [Int.reduceEq,if_true,if_false,Option.some.injEq,Prod.mk.injEq] at hF
    obtain ⟨rfl,hok⟩:=hF
    rw [hok]
    simp only [Int.reduceEq,decide_true,decide_false,Bool.not_false,Bool.not_true,Bool.true_and,Bool.false_and,Bool.and_true,if_true,if_false,Bool.false_eq_true,Bool.or_false,Option.bind_eq_bind,Option.bind_some,Int.reduceLE]
    try dsimp only
    try simp only [Int.reduceEq,decide_true,decide_false,Bool.not_false,Bool.not_true,Bool.true_and,Bool.false_and,Bool.and_true,Bool.and_false,if_true,if_false,Bool.false_eq_true,Bool.or_false,Bool.false_or,Bool.true_or,Bool.or_true,reduceIte,Option.bind_eq_bind,Option.bind_some,Int.reduceLE,Int.reduceLT]
    simp only [lt0,Bool.false_or,e2,hif]
    try simp only [e0]
    refine b2i _ _ ?_ _ ?_
    · generalize decide ((ks.length:Int)+(sb.length:Int)=0)=t0
      generalize decide ((sb.length:Int)=0)=s0
      generalize decide ((sb.length:Int)=1)=s1
      generalize decide (o=0)=o0
      generalize decide (o=15)=o15
      generalize decide (o=16)=o16
      generalize decide (1≤o)=oa
      generalize decide (o≤14)=ob
      generalize decide ((ks.length:Int)=0)=c0
      generalize decide ((ks.length:Int)=1)=c1
      generalize decide ((ks.length:Int)=2)=c2
      generalize decide ((ks.length:Int)=3)=c3
      generalize (decide (2≤(ks.length:Int))&&decide ((ks.length:Int)≤9))=c29
      cases q0 <;> cases n0 <;> cases o0 <;> cases no <;> cases bl <;> cases t0 <;> rfl
    · intro h
      simp only [Bool.and_eq_true,decide_eq_true_eq] at h
      omega
  by_cases k2:k=2
  · subst k2
    simp only [Int.reduceEq,if_true,if_false,Option.some.injEq,Prod.mk.injEq] at hF
    obtain ⟨rfl,hok⟩:=hF
    rw [hok]
    simp only [Int.reduceEq,decide_true,decide_false,Bool.not_false,Bool.not_true,Bool.true_and,Bool.false_and,Bool.and_true,if_true,if_false,Bool.false_eq_true,Bool.false_or,Option.bind_eq_bind,Option.bind_some,Int.reduceLE]
    try dsimp only
    try simp only [Int.reduceEq,decide_true,decide_false,Bool.not_false,Bool.not_true,Bool.true_and,Bool.false_and,Bool.and_true,Bool.and_false,if_true,if_false,Bool.false_eq_true,Bool.or_false,Bool.false_or,Bool.true_or,Bool.or_true,reduceIte,Option.bind_eq_bind,Option.bind_some,Int.reduceLE,Int.reduceLT]
    simp only [lt0,Bool.false_or,e2,hif]
    try simp only [e0]
    refine b2i _ _ ?_ _ ?_
    · generalize decide ((ks.length:Int)+(sb.length:Int)=0)=t0
      generalize decide ((sb.length:Int)=0)=s0
      generalize decide ((sb.length:Int)=1)=s1
      generalize decide (o=0)=o0
      generalize decide (o=15)=o15
      generalize decide (o=16)=o16
      generalize decide (1≤o)=oa
      generalize decide (o≤14)=ob
      generalize decide ((ks.length:Int)=0)=c0
      generalize decide ((ks.length:Int)=1)=c1
      generalize decide ((ks.length:Int)=2)=c2
      generalize decide ((ks.length:Int)=3)=c3
      generalize (decide (2≤(ks.length:Int))&&decide ((ks.length:Int)≤9))=c29
      cases zv <;> cases o0 <;> cases no <;> cases bc <;> cases t0 <;> rfl
    · intro h
      simp only [Bool.and_eq_true,decide_eq_true_eq] at h
      omega
  by_cases k3:k=3
  · subst k3
    simp only [Int.reduceEq,if_true,if_false,Option.some.injEq,Prod.mk.injEq] at hF
    obtain ⟨rfl,hok⟩:=hF
    rw [hok]
    simp only [Int.reduceEq,decide_true,decide_false,Bool.not_false,Bool.not_true,Bool.true_and,Bool.false_and,Bool.and_true,if_true,if_false,Bool.false_eq_true,Bool.false_or,Option.bind_eq_bind,Option.bind_some,Int.reduceLE]
    try dsimp only
    try simp only [Int.reduceEq,decide_true,decide_false,Bool.not_false,Bool.not_true,Bool.true_and,Bool.false_and,Bool.and_true,Bool.and_false,if_true,if_false,Bool.false_eq_true,Bool.or_false,Bool.false_or,Bool.true_or,Bool.or_true,reduceIte,Option.bind_eq_bind,Option.bind_some,Int.reduceLE,Int.reduceLT]
    simp only [eN,hif]
    try simp only [e0]
    refine b2i _ _ ?_ _ ?_
    · generalize decide ((ks.length:Int)+(sb.length:Int)=0)=t0
      generalize decide ((sb.length:Int)=0)=s0
      generalize decide ((sb.length:Int)=1)=s1
      generalize decide (o=0)=o0
      generalize decide (o=15)=o15
      generalize decide (o=16)=o16
      generalize decide (1≤o)=oa
      generalize decide (o≤14)=ob
      generalize decide ((ks.length:Int)=0)=c0
      generalize decide ((ks.length:Int)=1)=c1
      generalize decide ((ks.length:Int)=2)=c2
      generalize decide ((ks.length:Int)=3)=c3
      generalize (decide (2≤(ks.length:Int))&&decide ((ks.length:Int)≤9))=c29
      cases q0 <;> cases n0 <;> cases zv <;> cases no <;> cases o15 <;> cases o16 <;> cases c1 <;> cases s0 <;> rfl
    · intro h
      simp only [Bool.and_eq_true,decide_eq_true_eq] at h
      omega
  by_cases k4:k=4
  · subst k4
    simp only [Int.reduceEq,if_true,if_false,Option.some.injEq,Prod.mk.injEq] at hF
    obtain ⟨rfl,hok⟩:=hF
    rw [hok]
    simp only [Int.reduceEq,decide_true,decide_false,Bool.not_false,Bool.not_true,Bool.true_and,Bool.false_and,Bool.and_true,Bool.and_false,if_true,if_false,Bool.false_eq_true,Bool.false_or,Option.bind_eq_bind,Option.bind_some,Int.reduceLE]
    try dsimp only
    try simp only [Int.reduceEq,decide_true,decide_false,Bool.not_false,Bool.not_true,Bool.true_and,Bool.false_and,Bool.and_true,Bool.and_false,if_true,if_false,Bool.false_eq_true,Bool.or_false,Bool.false_or,Bool.true_or,Bool.or_true,reduceIte,Option.bind_eq_bind,Option.bind_some,Int.reduceLE,Int.reduceLT]
    simp only [eN,hif]
    try simp only [e0]
    refine b2i _ _ ?_ _ ?_
    · generalize decide ((ks.length:Int)+(sb.length:Int)=0)=t0
      generalize decide ((sb.length:Int)=0)=s0
      generalize decide ((sb.length:Int)=1)=s1
      generalize decide (o=0)=o0
      generalize decide (o=15)=o15
      generalize decide (o=16)=o16
      generalize decide (1≤o)=oa
      generalize decide (o≤14)=ob
      generalize decide ((ks.length:Int)=0)=c0
      generalize decide ((ks.length:Int)=1)=c1
      generalize decide ((ks.length:Int)=2)=c2
      generalize decide ((ks.length:Int)=3)=c3
      generalize (decide (2≤(ks.length:Int))&&decide ((ks.length:Int)≤9))=c29
      cases q0 <;> cases n0 <;> cases zv <;> cases no <;> cases oa <;> cases ob <;> cases c2 <;> cases s0 <;> rfl
    · intro h
      simp only [Bool.and_eq_true,decide_eq_true_eq] at h
      omega
  by_cases k5:k=5
  · subst k5
    simp only [Int.reduceEq,if_true,if_false,Option.some.injEq,Prod.mk.injEq] at hF
    obtain ⟨rfl,hok⟩:=hF
    rw [hok]
    simp only [Int.reduceEq,decide_true,decide_false,Bool.not_false,Bool.not_true,Bool.true_and,Bool.false_and,Bool.and_true,Bool.and_false,if_true,if_false,Bool.false_eq_true,Bool.or_false,Option.bind_eq_bind,Option.bind_some,Int.reduceLE]
    try dsimp only
    try simp only [Int.reduceEq,decide_true,decide_false,Bool.not_false,Bool.not_true,Bool.true_and,Bool.false_and,Bool.and_true,Bool.and_false,if_true,if_false,Bool.false_eq_true,Bool.or_false,Bool.false_or,Bool.true_or,Bool.or_true,reduceIte,Option.bind_eq_bind,Option.bind_some,Int.reduceLE,Int.reduceLT]
    simp only [eN,hif]
    try simp only [e0]
    refine b2i _ _ ?_ _ ?_
    · generalize decide ((ks.length:Int)+(sb.length:Int)=0)=t0
      generalize decide ((sb.length:Int)=0)=s0
      generalize decide ((sb.length:Int)=1)=s1
      generalize decide (o=0)=o0
      generalize decide (o=15)=o15
      generalize decide (o=16)=o16
      generalize decide (1≤o)=oa
      generalize decide (o≤14)=ob
      generalize decide ((ks.length:Int)=0)=c0
      generalize decide ((ks.length:Int)=1)=c1
      generalize decide ((ks.length:Int)=2)=c2
      generalize decide ((ks.length:Int)=3)=c3
      generalize (decide (2≤(ks.length:Int))&&decide ((ks.length:Int)≤9))=c29
      cases q0 <;> cases n0 <;> cases zv <;> cases no <;> cases o0 <;> cases c1 <;> cases s0 <;> rfl
    · intro h
      simp only [Bool.and_eq_true,decide_eq_true_eq] at h
      omega
  by_cases k6:k=6
  · subst k6
    simp only [Int.reduceEq,if_true,if_false,Option.some.injEq,Prod.mk.injEq] at hF
    obtain ⟨rfl,hok⟩:=hF
    rw [hok]
    simp only [Int.reduceEq,decide_true,decide_false,Bool.not_false,Bool.not_true,Bool.true_and,Bool.false_and,Bool.and_true,Bool.and_false,if_true,if_false,Bool.false_eq_true,Bool.or_false,Option.bind_eq_bind,Option.bind_some,Int.reduceLE]
    try dsimp only
    try simp only [Int.reduceEq,decide_true,decide_false,Bool.not_false,Bool.not_true,Bool.true_and,Bool.false_and,Bool.and_true,Bool.and_false,if_true,if_false,Bool.false_eq_true,Bool.or_false,Bool.false_or,Bool.true_or,Bool.or_true,reduceIte,Option.bind_eq_bind,Option.bind_some,Int.reduceLE,Int.reduceLT]
    simp only [eN,hif]
    try simp only [e0]
    refine b2i _ _ ?_ _ ?_
    · generalize decide ((ks.length:Int)+(sb.length:Int)=0)=t0
      generalize decide ((sb.length:Int)=0)=s0
      generalize decide ((sb.length:Int)=1)=s1
      generalize decide (o=0)=o0
      generalize decide (o=15)=o15
      generalize decide (o=16)=o16
      generalize decide (1≤o)=oa
      generalize decide (o≤14)=ob
      generalize decide ((ks.length:Int)=0)=c0
      generalize decide ((ks.length:Int)=1)=c1
      generalize decide ((ks.length:Int)=2)=c2
      generalize decide ((ks.length:Int)=3)=c3
      generalize (decide (2≤(ks.length:Int))&&decide ((ks.length:Int)≤9))=c29
      cases q0 <;> cases n0 <;> cases zv <;> cases no <;> cases o0 <;> cases c3 <;> cases s0 <;> rfl
    · intro h
      simp only [Bool.and_eq_true,decide_eq_true_eq] at h
      omega
  by_cases k7:k=7
  · subst k7
    simp only [Int.reduceEq,if_true,if_false,Option.some.injEq,Prod.mk.injEq] at hF
    obtain ⟨rfl,hok⟩:=hF
    rw [hok]
    simp only [Int.reduceEq,decide_true,decide_false,Bool.not_false,Bool.not_true,Bool.true_and,Bool.false_and,Bool.and_true,Bool.and_false,if_true,if_false,Bool.false_eq_true,Bool.or_false,Option.bind_eq_bind,Option.bind_some,Int.reduceLE]
    try dsimp only
    try simp only [Int.reduceEq,decide_true,decide_false,Bool.not_false,Bool.not_true,Bool.true_and,Bool.false_and,Bool.and_true,Bool.and_false,if_true,if_false,Bool.false_eq_true,Bool.or_false,Bool.false_or,Bool.true_or,Bool.or_true,reduceIte,Option.bind_eq_bind,Option.bind_some,Int.reduceLE,Int.reduceLT]
    simp only [e4,hif]
    try simp only [e0]
    refine b2i _ _ ?_ _ ?_
    · generalize decide ((ks.length:Int)+(sb.length:Int)=0)=t0
      generalize decide ((sb.length:Int)=0)=s0
      generalize decide ((sb.length:Int)=1)=s1
      generalize decide (o=0)=o0
      generalize decide (o=15)=o15
      generalize decide (o=16)=o16
      generalize decide (1≤o)=oa
      generalize decide (o≤14)=ob
      generalize decide ((ks.length:Int)=0)=c0
      generalize decide ((ks.length:Int)=1)=c1
      generalize decide ((ks.length:Int)=2)=c2
      generalize decide ((ks.length:Int)=3)=c3
      generalize (decide (2≤(ks.length:Int))&&decide ((ks.length:Int)≤9))=c29
      cases q0 <;> cases n0 <;> cases zv <;> cases no <;> cases o0 <;> cases c29 <;> cases s0 <;> rfl
    · intro h
      simp only [Bool.and_eq_true,decide_eq_true_eq] at h
      omega
  by_cases k8:k=8
  · subst k8
    simp only [Int.reduceEq,if_true,if_false,Option.some.injEq,Prod.mk.injEq] at hF
    obtain ⟨rfl,hok⟩:=hF
    rw [hok]
    simp only [Int.reduceEq,decide_true,decide_false,Bool.not_false,Bool.not_true,Bool.true_and,Bool.false_and,Bool.and_true,Bool.and_false,if_true,if_false,Bool.false_eq_true,Bool.or_false,Option.bind_eq_bind,Option.bind_some,Int.reduceLE]
    try dsimp only
    try simp only [Int.reduceEq,decide_true,decide_false,Bool.not_false,Bool.not_true,Bool.true_and,Bool.false_and,Bool.and_true,Bool.and_false,if_true,if_false,Bool.false_eq_true,Bool.or_false,Bool.false_or,Bool.true_or,Bool.or_true,reduceIte,Option.bind_eq_bind,Option.bind_some,Int.reduceLE,Int.reduceLT]
    simp only [eN,hif]
    try simp only [e0]
    refine b2i _ _ ?_ _ ?_
    · generalize decide ((ks.length:Int)+(sb.length:Int)=0)=t0
      generalize decide ((sb.length:Int)=0)=s0
      generalize decide ((sb.length:Int)=1)=s1
      generalize decide (o=0)=o0
      generalize decide (o=15)=o15
      generalize decide (o=16)=o16
      generalize decide (1≤o)=oa
      generalize decide (o≤14)=ob
      generalize decide ((ks.length:Int)=0)=c0
      generalize decide ((ks.length:Int)=1)=c1
      generalize decide ((ks.length:Int)=2)=c2
      generalize decide ((ks.length:Int)=3)=c3
      generalize (decide (2≤(ks.length:Int))&&decide ((ks.length:Int)≤9))=c29
      cases q0 <;> cases n0 <;> cases zv <;> cases no <;> cases o0 <;> cases c1 <;> cases s1 <;> rfl
    · intro h
      simp only [Bool.and_eq_true,decide_eq_true_eq] at h
      omega
  by_cases k9:k=9
  · subst k9
    simp only [Int.reduceEq,if_true,if_false,Option.some.injEq,Prod.mk.injEq] at hF
    obtain ⟨rfl,hok⟩:=hF
    rw [hok]
    simp only [Int.reduceEq,decide_true,decide_false,Bool.not_false,Bool.true_and,Bool.and_true,Bool.and_false,if_true,if_false,Bool.false_eq_true,Option.bind_eq_bind,Option.bind_some,Int.reduceLE]
    try dsimp only
    try simp only [Int.reduceEq,decide_true,decide_false,Bool.not_false,Bool.not_true,Bool.true_and,Bool.false_and,Bool.and_true,Bool.and_false,if_true,if_false,Bool.false_eq_true,Bool.or_false,Bool.false_or,Bool.true_or,Bool.or_true,reduceIte,Option.bind_eq_bind,Option.bind_some,Int.reduceLE,Int.reduceLT]
    simp only [lt0,Bool.false_or,hif]
    try simp only [e0]
    refine b2i _ _ ?_ _ ?_
    · generalize decide ((ks.length:Int)+(sb.length:Int)=0)=t0
      generalize decide ((sb.length:Int)=0)=s0
      generalize decide ((sb.length:Int)=1)=s1
      generalize decide (o=0)=o0
      generalize decide (o=15)=o15
      generalize decide (o=16)=o16
      generalize decide (1≤o)=oa
      generalize decide (o≤14)=ob
      generalize decide ((ks.length:Int)=0)=c0
      generalize decide ((ks.length:Int)=1)=c1
      generalize decide ((ks.length:Int)=2)=c2
      generalize decide ((ks.length:Int)=3)=c3
      generalize (decide (2≤(ks.length:Int))&&decide ((ks.length:Int)≤9))=c29
      cases q0 <;> cases n0 <;> cases zv <;> cases no <;> cases o0 <;> cases c0 <;> cases s1 <;> rfl
    · intro h
      simp only [Bool.and_eq_true,decide_eq_true_eq] at h
      omega
  simp only [k1,k2,k3,k4,k5,k6,k7,k8,k9,if_false,Option.some.injEq,Prod.mk.injEq] at hF
  obtain ⟨rfl,hok⟩:=hF
  rw [hok]
  simp only [k1,k2,k3,k4,k5,k6,k7,k8,k9,decide_false,Bool.not_false,Bool.true_and,Bool.false_eq_true,if_false,ite_self,Bool.false_and]
  exact ⟨false,rfl,by simp,by simp⟩
theorem cJ2:qD=mZ:=by
  funext s
  obtain ⟨b,h1,h2⟩:=I8 s
  rw [h1,h2]
theorem aY8:xV=qF:=by
  funext s
  obtain ⟨b,h1,h2⟩:=aB1 s
  rw [h1,h2]
theorem bBi (x:aA):Y0 x=uV x (aA.mk 0 0 false (dV.mk 0 0 []) [] [] [] [])∧∃ b,uV x (aA.mk 0 0 false (dV.mk 0 0 []) [] [] [] [])=some b:=by
  unfold Y0
  rw [O7,uV]
  have ek:R4 x.kids []=some (decide (x.kids=[])):=by
    rw [R4,aKw]
    by_cases h:x.kids=[]
    · rw [h,aAc]; simp
    · have : ¬ (x.kids.length : Int) = 0 := by
        have:=List.length_pos_iff.2 h; omega
      simp [h]
  have es:aD9 x.sub []=some (decide (x.sub=[])):=by
    rw [aD9]
    by_cases h:x.sub=[]
    · rw [h,aEm]; simp
    · simp [h]
  have fk:N7 x.kids []=some (decide (x.kids=[])):=by
    rw [N7]
    by_cases h:x.kids=[]
    · rw [h,aCw]; simp
    · simp [h]
  simp only [ek,es,fk,Option.bind_eq_bind,Option.bind_some]
  have hz:((decide (x.value.kind=0))&&((decide (x.value.num=0))&&((decide (x.value.text=[]))&&true)))=zvE x:=rfl
  rw [hz]
  have l0:x.sub=[]→aC4 x (aA.mk 0 0 false (dV.mk 0 0 []) [] [] [] []) 0=some true:=by
    intro h; rw [aC4]; simp [h]
  have hl:decide ((x.sub.length:Int)=(([]:List aJ).length:Int))=decide (x.sub=[]):=by
    by_cases h:x.sub=[]
    · simp [h]
    · simp [h]
  rw [hl]
  by_cases hs:x.sub=[]
  · rw [l0 hs]
    simp only [hs,decide_true]
    generalize zvE x=zv
    generalize decide (x.kind=0)=b1
    generalize decide (x.op=0)=b2
    generalize decide (x.qual=[])=b3
    generalize decide (x.name=[])=b4
    generalize decide (x.kids=[])=b5
    generalize x.not_=b6
    cases b1 <;> cases b2 <;> cases b6 <;> cases zv <;> cases b3 <;> cases b4 <;> cases b5 <;> simp
  · simp only [hs,decide_false]
    generalize zvE x=zv
    generalize decide (x.kind=0)=b1
    generalize decide (x.op=0)=b2
    generalize decide (x.qual=[])=b3
    generalize decide (x.name=[])=b4
    generalize decide (x.kids=[])=b5
    generalize x.not_=b6
    cases b1 <;> cases b2 <;> cases b6 <;> cases zv <;> cases b3 <;> cases b4 <;> cases b5 <;> simp
theorem cDp:Y0=fun x=>uV x (aA.mk 0 0 false (dV.mk 0 0 []) [] [] [] []):=funext fun x=>(bBi x).1
theorem bB7 (l:List aA) (d:aA→Bool) (hl:l.length≤1048576) (H:∀ y ∈ l,rZ y=some (d y)):xU l=some (l.all d):=by
  have key:∀ i,i≤l.length→∃ k:Int,Q6 l (i:Nat)=some k∧(!decide (0≤k))=(l.drop i).all d:=by
    refine jC ?_ ?_
    · rw [Q6]
      exact ⟨-1,by simp,by simp⟩
    · intro i hi ih
      rw [Q6,List.drop_eq_getElem_cons hi]
      simp only [dY,fD hi,fM hi (by omega),hi,decide_true,if_true,aIr,H _ (List.getElem_mem hi),Option.bind_eq_bind,Option.bind_some,List.all_cons]
      cases hd:d l[i] with
      | true=>simpa using ih
      | false=>exact ⟨(i:Int),by simp,by simp⟩
  obtain ⟨k,h1,h2⟩:=key 0 (by omega)
  rw [show ((0:Nat):Int)=0 from rfl] at h1
  rw [xU,aLp,aHe,h1]
  simpa using h2
theorem bOn (l:List aA) (d:aA→Bool) (hl:l.length≤1048576) (H:∀ y ∈ l,rD y=some (d y)):wS l 0=some (l.all d):=by
  have key:∀ i,i≤l.length→wS l (i:Nat)=some ((l.drop i).all d):=by
    refine jC ?_ ?_
    · rw [wS]; simp
    · intro i hi ih
      rw [wS,List.drop_eq_getElem_cons hi]
      simp only [dY,fD hi,fM hi (by omega),hi,decide_true,if_true,H _ (List.getElem_mem hi),Option.bind_eq_bind,Option.bind_some,List.all_cons]
      cases hd:d l[i] with
      | true=>simpa using ih
      | false=>simp
  simpa using key 0 (by omega)
theorem bA1 (q:aJ) (d:aA→Bool) (hz:eO q≤1048576) (H:∀ y ∈ gH q,rD y=some (d y)∧rZ y=some (d y)):G5 q=vR q∧∃ b,vR q=some b:=by
  have hq:=zQ q
  have hle:=aU9 q
  have e2:∃ b,wS (gH q) 0=some b∧xU (gH q)=some b:=⟨_,bOn _ d (by omega) fun y hy=>(H y hy).1,bB7 _ d (by omega) fun y hy=>(H y hy).2⟩
  obtain ⟨b2,r2,f2⟩:=e2
  have e1:∀ i,i≤q.from_.length→M8 q (i:Nat)=yX q (i:Nat)∧∃ b,yX q (i:Nat)=some b:=by
    refine jC ?_ ?_
    · rw [M8,yX]
      simp [aVc q hz,aUk q hz,r2,f2]
    · intro i hi ih
      obtain ⟨ih1,b,ih2⟩:=ih
      rw [M8,yX]
      obtain ⟨bn,n1,_⟩:=I8 q.from_[i].table
      obtain ⟨ba,m1,_⟩:=aB1 q.from_[i].as_
      simp only [cJ2,aY8,dY,fD hi,fM hi (by omega),hi,decide_true,if_true,n1,m1,ih1,ih2,Option.bind_eq_bind,Option.bind_some]
      refine ⟨trivial,?_⟩
      generalize decide ((1:Int)<(q.from_[i].on_.length:Int))=c1
      generalize decide ((i:Int)=0)=c2
      generalize decide ((0:Int)<(q.from_[i].on_.length:Int))=c3
      cases bn <;> cases ba <;> cases c1 <;> cases c2 <;> cases c3 <;> exact ⟨_,rfl⟩
  have e0:∀ i,i≤q.items.length→F4 q (i:Nat)=xZ q (i:Nat)∧∃ b,xZ q (i:Nat)=some b:=by
    refine jC ?_ ?_
    · rw [F4,xZ]
      simpa using e1 0 (by omega)
    · intro i hi ih
      obtain ⟨ih1,b,ih2⟩:=ih
      rw [F4,xZ]
      obtain ⟨bq,m1,_⟩:=aB1 q.items[i].qual
      obtain ⟨ba,m2,_⟩:=aB1 q.items[i].as_
      obtain ⟨_,bz,m3⟩:=bBi q.items[i].expr
      simp only [cDp,aY8,dY,fD hi,fM hi (by omega),hi,decide_true,if_true,m1,m2,m3,ih1,ih2,Option.bind_eq_bind,Option.bind_some]
      refine ⟨trivial,?_⟩
      generalize q.items[i].star=s
      cases s <;> cases bq <;> cases ba <;> cases bz <;> by_cases g1:q.items[i].as_=[] <;> by_cases g2:q.items[i].qual=[] <;> simp [g1,g2]
  obtain ⟨k1,b,k2⟩:=e0 0 (by omega)
  rw [show ((0:Nat):Int)=0 from rfl] at k1 k2
  rw [G5,vR,k1,k2]
  unfold lZ
  simp only [Option.bind_eq_bind,Option.bind_some]
  by_cases a1:(1:Int)≤(q.items.length:Int)
  · have a1':¬ (q.items.length:Int)<1:=by omega
    by_cases a2:(q.items.length:Int)≤12
    · have a2':¬ (12:Int)<(q.items.length:Int):=by omega
      by_cases a3:(1:Int)≤(q.from_.length:Int)
      · have a3':¬ (q.from_.length:Int)<1:=by omega
        by_cases a4:(q.from_.length:Int)≤3
        · have a4':¬ (3:Int)<(q.from_.length:Int):=by omega
          simp only [a1,a1',a2,a2',a3,a3',a4,a4',decide_true,decide_false]
          by_cases a5:(1:Int)<(q.where_.length:Int) <;> by_cases a6:(12:Int)<(q.order.length:Int) <;> by_cases a7:q.limit < -1 <;> simp [a5,a6,a7]
        · have a4':(3:Int)<(q.from_.length:Int):=by omega
          simp only [a1,a1',a2,a2',a3,a3',a4,a4',decide_true,decide_false]; simp
      · have a3':(q.from_.length:Int)<1:=by omega
        simp only [a1,a1',a2,a2',a3,a3',decide_true,decide_false]; simp
    · have a2':(12:Int)<(q.items.length:Int):=by omega
      simp only [a1,a1',a2,a2',decide_true,decide_false]; simp
  · have a1':(q.items.length:Int)<1:=by omega
    simp only [a1,a1',decide_true,decide_false]; simp
theorem right_eq:∀ n:Nat,∀ x:aA,bR x<n→bR x≤1048576→∃ b,rD x=some b∧rZ x=some b:=by
  intro n
  induction n with
  | zero=>intro x h _; omega
  | succ n ih =>
    intro x hx hz
    have hE:=zE x
    let d:aA→Bool:=fun y=>(rD y).getD false
    have H:∀ y,bR y<bR x→rD y=some (d y)∧rZ y=some (d y):=by
      intro y hy
      obtain ⟨r,h1,h2⟩:=ih y (by omega) (by omega)
      simp only [d,h1,h2,Option.getD_some,and_self]
    have HK:∀ y ∈ x.kids,rD y=some (d y)∧rZ y=some (d y):=fun y hy=>H y (by have:=mJ hy; omega)
    have HQ:∀ q ∈ x.sub,G5 q=vR q∧∃ b,vR q=some b:=by
      intro q hq
      have h1:=uJ hq
      exact bA1 q d (by omega) fun y hy=>H y (by have:=R8 hy; omega)
    obtain ⟨b,s1,s2,s3⟩:=cP1 x (by omega) (by omega)
    rw [rD,s1,s2]
    cases b with
    | false=>exact ⟨false,by simp,by simp⟩
    | true =>
      have hsl:=s3 rfl
      have hall:=bB7 x.kids d (by omega) fun y hy=>(HK y hy).2
      -- the one query below
      have tail : ∃ t, (∀ c : Bool, ((if (true && (c == true)) = true then Q9 x.sub else some default) >>= fun (y14 : Bool) => (some (if c = true then (!y14) else false)) >>= fun (y15 : Bool) => some y15) = some (c && t)) ∧
          ((if (true&&((decide ((x.sub.length:Int)=0))==false))=true then idx x.sub 0 else some default)>>=fun (y4:aJ)=>(if (true&&((decide ((x.sub.length:Int)=0))==false))=true then vR y4 else some default)>>=fun (y5:Bool)=>(some (if (decide ((x.sub.length:Int)=0))=true then true else y5))>>=fun (y6:Bool)=>some y6)=some t:=by
        cases hsub:x.sub with
        | nil =>
          refine ⟨true,?_,by simp⟩
          intro c
          rw [Q9,aDx,G7]
          cases c <;> simp
        | cons q l =>
          have hl:l=[]:=by
            rw [hsub] at hsl; simp only [List.length_cons] at hsl
            exact List.eq_nil_of_length_eq_zero (by omega)
          subst hl
          obtain ⟨g1,t,g2⟩:=HQ q (by rw [hsub]; simp)
          have w1:IntKind.wrap .i64 (0+1)=1:=by decide
          refine ⟨t,?_,by simp [idx,g2]⟩
          intro c
          rw [Q9,aDx,G7,w1,G7]
          cases c <;> cases t <;> simp [idx,aD6,g1,g2]
      obtain ⟨t,t1,t2⟩:=tail
      refine ⟨x.kids.all d&&t,?_,?_⟩
      · have key : ∀ i, i ≤ x.kids.length → xR x (i : Nat) = some ((x.kids.drop i).all d && t) := by
          refine jC ?_ ?_
          · rw [xR]
            simp only [dY,Nat.lt_irrefl,decide_false,Bool.false_eq_true,if_false,t2]
            simp
          · intro i hi ih
            rw [xR,List.drop_eq_getElem_cons hi]
            simp only [dY,fD hi,fM hi (by omega),hi,decide_true,if_true,(HK _ (List.getElem_mem hi)).1,Option.bind_eq_bind,Option.bind_some,List.all_cons]
            cases hd:d x.kids[i] with
            | true=>simpa using ih
            | false=>simp
        simpa using key 0 (by omega)
      · simp only [if_true,aF4,hall,Option.bind_eq_bind,Option.bind_some]
        exact t1 _
theorem bIv (p:List aA) (d:aA→Int) (hz:p.length+(p.map bR).sum≤1048576) (H:∀ y ∈ p,uM y=some (d y)∧0≤d y∧d y≤1+bR y):Y7 p=some (p.map d).sum:=by
  have hs:=aDa (z:=bR) (d:=d) (p:=p) fun y hy=>(H y hy).2
  rw [Y7]
  rw [folded (p:=p) (g:=fun y b=>(uM y)>>=fun r=>some (IntKind.wrap .i64 (b+r))) (h:=fun y b=>IntKind.wrap .i64 (b+d y)) (L:=fun b i=>aBk p b i) (K:=fun b=>some b) (by omega) ?_ ?_ 0]
  · rw [aCd (by omega) (fun y hy=>(H y hy).2.1) (by omega)]; simp
  · intro y hy b; simp only [(H y hy).1,Option.bind_eq_bind,Option.bind_some]
  · intro i b; rw [aBk]; simp only [Option.bind_eq_bind,Option.bind_assoc,Option.bind_some]
theorem bIi (q:aJ) (d:aA→Int) (hz:eO q≤1048576) (H:∀ y ∈ gH q,uM y=some (d y)∧0≤d y∧d y≤1+bR y):yH q=some ((gH q).map d).sum:=by
  have hl:=aPj q
  rw [yH,aVc q hz]
  simp only [Option.bind_eq_bind,Option.bind_some]
  rw [bIv _ d (by omega) H]; rfl
theorem bJb (q:aJ) (d:aA→Int) (hz:eO q≤1048576) (H:∀ y ∈ gH q,qA y=some (d y)∧0≤d y∧d y≤1+bR y):xP q=some ((gH q).map d).sum:=by
  have hl:=aPj q
  have hs:=aDa (z:=bR) (d:=d) (p:=gH q) fun y hy=>(H y hy).2
  rw [xP,aUk q hz]
  simp only [Option.bind_eq_bind,Option.bind_some]
  rw [folded (p:=gH q) (g:=fun y b=>(qA y)>>=fun r=>some (IntKind.wrap .i64 (b+r))) (h:=fun y b=>IntKind.wrap .i64 (b+d y)) (L:=fun b i=>aCi (gH q) b i) (K:=fun b=>some b) (by omega) ?_ ?_ 0]
  · rw [aCd (by omega) (fun y hy=>(H y hy).2.1) (by omega)]; simp
  · intro y hy b; simp only [(H y hy).1,Option.bind_eq_bind,Option.bind_some]
  · intro i b; rw [aCi]; simp only [Option.bind_eq_bind,Option.bind_assoc,Option.bind_some]
theorem size_eq:∀ n:Nat,∀ x:aA,bR x<n→bR x≤1048576→∃ d,qA x=some d∧uM x=some d∧0≤d∧d≤1+bR x:=by
  intro n
  induction n with
  | zero=>intro x h _; omega
  | succ n ih =>
    intro x hx hz
    have hE:=zE x
    let d:aA→Int:=fun y=>(qA y).getD 0
    have H:∀ y,bR y<bR x→qA y=some (d y)∧uM y=some (d y)∧0≤d y∧d y≤1+bR y:=by
      intro y hy
      obtain ⟨r,h1,h2,h3,h4⟩:=ih y (by omega) (by omega)
      simp only [d,h1,h2,Option.getD_some,true_and]
      exact ⟨h3,h4⟩
    let e:aJ→Int:=fun q=>((gH q).map d).sum
    have HQ:∀ q ∈ x.sub,xP q=some (e q)∧yH q=some (e q)∧0≤e q∧e q≤eO q:=by
      intro q hq
      have h1:=uJ hq
      have h2:∀ y ∈ gH q,bR y<bR x:=fun y hy=>by have:=R8 hy; omega
      have h3:=aDa (z:=bR) (d:=d) (p:=gH q) fun y hy=>(H y (h2 y hy)).2.2
      have h4:=aPj q
      exact ⟨bJb q d (by omega) fun y hy=>⟨(H y (h2 y hy)).1,(H y (h2 y hy)).2.2⟩,bIi q d (by omega) fun y hy=>(H y (h2 y hy)).2,h3.1,by show ((gH q).map d).sum≤_; omega⟩
    have HK:∀ y ∈ x.kids,qA y=some (d y)∧uM y=some (d y)∧0≤d y∧d y≤1+bR y:=fun y hy=>H y (by have:=mJ hy; omega)
    have hk:=aDa (z:=bR) (d:=d) (p:=x.kids) fun y hy=>(HK y hy).2.2
    have hq:=aWs (z:=eO) (d:=e) (p:=x.sub) fun y hy=>(HQ y hy).2.2
    have hk':=wG x.kids
    have hq':=aNp x.sub
    refine ⟨1+(x.kids.map d).sum+(x.sub.map e).sum,?_,?_,by omega,by omega⟩
    · rw [qA]
      rw [folded (p:=x.kids) (g:=fun y b=>(qA y)>>=fun r=>some (IntKind.wrap .i64 (b+r))) (h:=fun y b=>IntKind.wrap .i64 (b+d y)) (L:=fun b i=>aC8 x b i) (K:=fun b=>yB x b 0) (by omega) ?_ ?_ 1]
      · rw [aCd (by omega) (fun y hy=>(HK y hy).2.2.1) (by omega)]
        rw [folded (p:=x.sub) (g:=fun y b=>(xP y)>>=fun r=>some (IntKind.wrap .i64 (b+r))) (h:=fun y b=>IntKind.wrap .i64 (b+e y)) (L:=fun b i=>yB x b i) (K:=fun b=>some b) (by omega) ?_ ?_ _]
        · rw [aCd (by omega) (fun y hy=>(HQ y hy).2.2.1) (by omega)]
        · intro y hy b; simp only [(HQ y hy).1,Option.bind_eq_bind,Option.bind_some]
        · intro i b; rw [yB]; simp only [Option.bind_eq_bind,Option.bind_assoc,Option.bind_some]
      · intro y hy b; simp only [(HK y hy).1,Option.bind_eq_bind,Option.bind_some]
      · intro i b; rw [aC8]; simp only [Option.bind_eq_bind,Option.bind_assoc,Option.bind_some]
    · rw [uM,bIv x.kids d (by omega) fun y hy=>(HK y hy).2]
      simp only [Option.bind_eq_bind,Option.bind_some]
      rw [kN (by omega) (by omega)]
      rw [folded (p:=x.sub) (g:=fun y b=>(yH y)>>=fun r=>some (IntKind.wrap .i64 (b+r))) (h:=fun y b=>IntKind.wrap .i64 (b+e y)) (L:=fun b i=>H9 x b i) (K:=fun b=>some b) (by omega) ?_ ?_ _]
      · rw [aCd (by omega) (fun y hy=>(HQ y hy).2.2.1) (by omega)]
      · intro y hy b; simp only [(HQ y hy).2.1,Option.bind_eq_bind,Option.bind_some]
      · intro i b; rw [H9]; simp only [Option.bind_eq_bind,Option.bind_assoc,Option.bind_some]
theorem aU4 (a b:Int):uQ a b=some (if b > a then b else a):=by
  unfold uQ
  by_cases h:b<a
  · simp [h]; omega
  · by_cases h2:b > a
    · simp [h,h2]
    · simp [h,h2]; omega
def mx (b r:Int):Int:=if r > b then r else b
theorem bH8 (q:aJ) (d:aA→Int) (hz:eO q≤1048576) (H:∀ y ∈ gH q,qH y=some (d y)):xN q=some ((gH q).foldl (fun b y=>mx b (d y)) 0):=by
  have hl:=aU9 q
  rw [xN,aUk q hz]
  simp only [Option.bind_eq_bind,Option.bind_some]
  refine folded (p:=gH q) (g:=fun y b=>(qH y)>>=fun r=>uQ b r) (h:=fun y b=>mx b (d y)) (L:=fun b i=>X7 (gH q) b i) (K:=fun b=>some b) (by omega) ?_ ?_ 0
  · intro y hy b; simp only [H y hy,Option.bind_eq_bind,Option.bind_some,aU4,mx]
  · intro i b; rw [X7]; simp only [Option.bind_eq_bind,Option.bind_assoc]
theorem aZi (q:aJ) (d:aA→Int) (hz:eO q≤1048576) (H:∀ y ∈ gH q,rQ y=some (d y)):zC q=some ((gH q).foldl (fun b y=>mx b (d y)) 0):=by
  have hl:=aU9 q
  rw [zC,aVc q hz]
  simp only [Option.bind_eq_bind,Option.bind_some]
  rw [aJ8]
  rw [folded (p:=gH q) (g:=fun y b=>(rQ y)>>=fun r=>some (mx b r)) (h:=fun y b=>mx b (d y)) (L:=fun b i=>aCh (gH q) b i) (K:=fun b=>some b) (by omega) ?_ ?_ 0]
  · rfl
  · intro y hy b; simp only [H y hy,Option.bind_eq_bind,Option.bind_some]
  · intro i b; rw [aCh]; simp only [Option.bind_eq_bind,Option.bind_assoc,Option.bind_some,mx]
theorem cIp:∀ n:Nat,∀ x:aA,bR x<n→bR x≤1048576→∃ d,qH x=some d∧rQ x=some d:=by
  intro n
  induction n with
  | zero=>intro x h _; omega
  | succ n ih =>
    intro x hx hz
    have hE:=zE x
    let d:aA→Int:=fun y=>(qH y).getD 0
    have H:∀ y,bR y<bR x→qH y=some (d y)∧rQ y=some (d y):=by
      intro y hy
      obtain ⟨r,h1,h2⟩:=ih y (by omega) (by omega)
      simp only [d,h1,h2,Option.getD_some,and_self]
    let e:aJ→Int:=fun q=>(gH q).foldl (fun b y=>mx b (d y)) 0
    have HQ:∀ q ∈ x.sub,xN q=some (e q)∧zC q=some (e q):=by
      intro q hq
      have h1:=uJ hq
      exact ⟨bH8 q d (by omega) fun y hy=>(H y (by have:=R8 hy; omega)).1,aZi q d (by omega) fun y hy=>(H y (by have:=R8 hy; omega)).2⟩
    have HK:∀ y ∈ x.kids,qH y=some (d y)∧rQ y=some (d y):=fun y hy=>H y (by have:=mJ hy; omega)
    refine ⟨IntKind.wrap .i64 (x.sub.foldl (fun b y=>mx b (e y)) (x.kids.foldl (fun b y=>mx b (d y)) 0)+1),?_,?_⟩
    · rw [qH]
      rw [folded (p:=x.kids) (g:=fun y b=>(qH y)>>=fun r=>uQ b r) (h:=fun y b=>mx b (d y)) (L:=fun b i=>aAh x b i) (K:=fun b=>yE x b 0) (by omega) ?_ ?_ 0]
      · rw [folded (p:=x.sub) (g:=fun y b=>(xN y)>>=fun r=>uQ b r) (h:=fun y b=>mx b (e y)) (L:=fun b i=>yE x b i) (K:=fun b=>some (IntKind.wrap .i64 (b+1))) (by omega) ?_ ?_ _]
        · intro y hy b; simp only [(HQ y hy).1,Option.bind_eq_bind,Option.bind_some,aU4,mx]
        · intro i b; rw [yE]; simp only [Option.bind_eq_bind,Option.bind_assoc]
      · intro y hy b; simp only [(HK y hy).1,Option.bind_eq_bind,Option.bind_some,aU4,mx]
      · intro i b; rw [aAh]; simp only [Option.bind_eq_bind,Option.bind_assoc]
    · rw [rQ]
      rw [folded (p:=x.kids) (g:=fun y b=>(rQ y)>>=fun r=>some (mx b r)) (h:=fun y b=>mx b (d y)) (L:=fun b i=>U8 x b i) (K:=fun b=>zY x b 0) (by omega) ?_ ?_ 0]
      · rw [folded (p:=x.sub) (g:=fun y b=>(zC y)>>=fun r=>some (mx b r)) (h:=fun y b=>mx b (e y)) (L:=fun b i=>zY x b i) (K:=fun b=>some (IntKind.wrap .i64 (1+b))) (by omega) ?_ ?_ _]
        · rw [Int.add_comm]
        · intro y hy b; simp only [(HQ y hy).2,Option.bind_eq_bind,Option.bind_some]
        · intro i b; rw [zY]; simp only [Option.bind_eq_bind,Option.bind_assoc,Option.bind_some,mx]
      · intro y hy b; simp only [(HK y hy).2,Option.bind_eq_bind,Option.bind_some]
      · intro i b; rw [U8]; simp only [Option.bind_eq_bind,Option.bind_assoc,Option.bind_some,mx]
theorem cHq (q:aJ) (hz:eO q≤1048576):∃ c,aAa q=some c∧aA7 q=some c:=by
  let d:aA→Bool:=fun y=>(rD y).getD false
  have H:∀ y ∈ gH q,rD y=some (d y)∧rZ y=some (d y):=by
    intro y hy
    have:=R8 hy
    obtain ⟨r,h1,h2⟩:=right_eq _ y (Nat.lt_succ_self _) (by omega)
    simp only [d,h1,h2,Option.getD_some,and_self]
  obtain ⟨g1,b,g2⟩:=bA1 q d hz H
  let dd:aA→Int:=fun y=>(qH y).getD 0
  have HD:∀ y ∈ gH q,qH y=some (dd y)∧rQ y=some (dd y):=by
    intro y hy
    have:=R8 hy
    obtain ⟨r,h1,h2⟩:=cIp _ y (Nat.lt_succ_self _) (by omega)
    simp only [dd,h1,h2,Option.getD_some,and_self]
  have t1:=bH8 q dd hz fun y hy=>(HD y hy).1
  have t2:=aZi q dd hz fun y hy=>(HD y hy).2
  let ds:aA→Int:=fun y=>(qA y).getD 0
  have HS:∀ y ∈ gH q,qA y=some (ds y)∧uM y=some (ds y)∧0≤ds y∧ds y≤1+bR y:=by
    intro y hy
    have hlt:=R8 hy
    obtain ⟨r,h1,h2,h3,h4⟩:=size_eq _ y (Nat.lt_succ_self _) (by omega)
    simp only [ds,h1,h2,Option.getD_some,true_and]
    exact ⟨h3,h4⟩
  have s1:=bJb q ds hz fun y hy=>⟨(HS y hy).1,(HS y hy).2.2⟩
  have s2:=bIi q ds hz fun y hy=>(HS y hy).2
  have e:∃ c,aAa q=some c∧aA7 q=some c:=by
    rw [aAa,aA7]
    unfold aHw
    simp only [g1,g2,s1,s2,t1,t2,Option.bind_eq_bind,Option.bind_some]
    generalize List.foldl (fun b y=>mx b (dd y)) 0 (gH q)=t
    generalize (List.map ds (gH q)).sum=s
    by_cases p:s≤200 <;> by_cases p2:t≤24 <;> cases b <;> simp [p,p2]
  exact e
theorem aPu {n : Nat} {L : Int → Option Bool} {good : Nat → Prop} {KP : Prop}
    (hstep:∀ i,i<n→(good i→L (i:Nat)=L ((i+1:Nat):Int))∧(¬ good i→L (i:Nat)=some false))
    (hend:∃ b,L (n:Nat)=some b∧(b=true↔KP)):∃ b,L 0=some b∧(b=true↔(∀ i,i<n→good i)∧KP):=by
  have key:∀ i,i≤n→∃ b,L (i:Nat)=some b∧(b=true↔(∀ k,i≤k→k<n→good k)∧KP):=by
    refine jC ?_ ?_
    · obtain ⟨b,h1,h2⟩:=hend
      exact ⟨b,h1,h2.trans ⟨fun h=>⟨fun k h1 h2=>by omega,h⟩,fun h=>h.2⟩⟩
    · intro i hi ih
      obtain ⟨b,h1,h2⟩:=ih
      obtain ⟨s1,s2⟩:=hstep i hi
      by_cases hg:good i
      · refine ⟨b,(s1 hg).trans h1,h2.trans ⟨fun h=>⟨fun k k1 k2=>?_,h.2⟩,fun h=>⟨fun k k1 k2=>h.1 k (by omega) k2,h.2⟩⟩⟩
        by_cases e:k=i
        · subst e; exact hg
        · exact h.1 k (by omega) k2
      · refine ⟨false,s2 hg,?_⟩
        simp only [Bool.false_eq_true,false_iff,not_and]
        intro h
        exact absurd (h i (by omega) hi) hg
  obtain ⟨b,h1,h2⟩:=key 0 (by omega)
  exact ⟨b,h1,h2.trans ⟨fun h=>⟨fun k hk=>h.1 k (by omega) hk,h.2⟩,fun h=>⟨fun k _ hk=>h.1 k hk,h.2⟩⟩⟩
theorem bBl {γ : Type} {n : Nat} {L M : Int → Option γ} (hstep : ∀ i, i < n → L ((i + 1 : Nat) : Int) = M ((i + 1 : Nat) : Int) → (∃ r, L ((i + 1 : Nat) : Int) = some r) → L (i : Nat) = M (i : Nat) ∧ ∃ r, L (i : Nat) = some r)
    (hend:L (n:Nat)=M (n:Nat)∧∃ r,L (n:Nat)=some r):L 0=M 0∧∃ r,L 0=some r:=by
  have key:∀ i,i≤n→L (i:Nat)=M (i:Nat)∧∃ r,L (i:Nat)=some r :=
    jC hend fun i hi ih=>hstep i hi ih.1 ih.2
  exact key 0 (by omega)
theorem aI3 (s:List UInt8):qD s=mZ s∧∃ b,mZ s=some b∧(b=true↔1≤s.length∧s.length≤20):=by
  unfold qD mZ lZ
  simp only [Option.bind_eq_bind,Option.bind_some]
  refine ⟨by simp,_,rfl,?_⟩
  by_cases h1:(1:Int)≤(s.length:Int)
  · simp [h1]; omega
  · simp [h1]; omega
theorem bAm (t:aP) (s:List UInt8) (hl:t.cols.length≤1048576):aF6 t s=H8 t s∧∃ r,H8 t s=some r:=by
  have:=bBl (n:=t.cols.length) (L:=fun i=>A9 t.cols s i) (M:=fun i=>yD s t i) ?_ ?_
  · unfold aF6 aH4 H8
    obtain ⟨h1,r,h2⟩:=this
    try simp only at h1 h2
    rw [← h1,h2]
    exact ⟨rfl,r,rfl⟩
  · intro i hi h1 h2
    try dsimp only at h1 h2 ⊢
    rw [A9,yD]
    simp only [dY,fD hi,fM hi (by omega),hi,decide_true,if_true,aH1,Option.bind_eq_bind,Option.bind_some]
    by_cases hc:t.cols[i].name=s
    · simp [hc]
    · simp only [hc,decide_false,Bool.false_eq_true,if_false]
      exact ⟨h1,h2⟩
  · try dsimp only
    rw [A9,yD]
    simp
theorem aS3 (c:aY) (s:List UInt8) (hl:c.tables.length≤1048576):K3 c s=nY c s∧∃ r,nY c s=some r:=by
  have:=bBl (n:=c.tables.length) (L:=fun i=>xQ c.tables s i) (M:=fun i=>uE s c i) ?_ ?_
  · unfold K3 aM1 nY
    obtain ⟨h1,r,h2⟩:=this
    try simp only at h1 h2
    rw [← h1,h2]
    exact ⟨rfl,r,rfl⟩
  · intro i hi h1 h2
    try dsimp only at h1 h2 ⊢
    rw [xQ,uE]
    simp only [dY,fD hi,fM hi (by omega),hi,decide_true,if_true,aG1,Option.bind_eq_bind,Option.bind_some]
    by_cases hc:c.tables[i].name=s
    · simp [hc]
    · simp only [hc,decide_false,Bool.false_eq_true,if_false]
      exact ⟨h1,h2⟩
  · try dsimp only
    rw [xQ,uE]
    simp
def rX (t:aP) (j:Nat):Prop:=∃ c,t.cols[j]?=some c∧(1≤c.name.length∧c.name.length≤20)∧(1≤c.type∧c.type≤3)∧H8 t c.name=some (j:Int)
def vD (t:aP):Prop:=(∀ j,j<t.cols.length→rX t j)∧((1≤t.name.length∧t.name.length≤20)∧1≤t.cols.length∧t.cols.length≤4)
theorem bXo (t:aP) (hl:t.cols.length≤1048576):∃ b,aEo t=some b∧(b=true↔vD t):=by
  unfold aEo vD
  refine aPu (n:=t.cols.length) (L:=fun i=>yN t i) (good:=rX t) ?_ ?_
  · intro i hi
    try dsimp only
    rw [yN]
    obtain ⟨n1,b,n2,n3⟩:=aI3 t.cols[i].name
    obtain ⟨c1,k,c2⟩:=bAm t t.cols[i].name hl
    simp only [dY,fD hi,fM hi (by omega),hi,decide_true,if_true,n1,n2,c1,c2,Option.bind_eq_bind,Option.bind_some]
    have hP:rX t i↔(1≤t.cols[i].name.length∧t.cols[i].name.length≤20)∧(1≤t.cols[i].type∧t.cols[i].type≤3)∧k=(i:Int):=by
      unfold rX
      constructor
      · rintro ⟨c,h1,h2,h3,h4⟩
        rw [List.getElem?_eq_getElem hi] at h1
        simp only [Option.some.injEq] at h1; subst h1
        rw [c2] at h4
        exact ⟨h2,h3,by simpa using h4⟩
      · rintro ⟨h2,h3,h4⟩
        exact ⟨_,List.getElem?_eq_getElem hi,h2,h3,by rw [c2,h4]⟩
    rw [hP,← n3]
    cases b with
    | false=>simp
    | true =>
      by_cases t1:t.cols[i].type<1
      · simp [t1] <;> omega
      by_cases t3:3<t.cols[i].type
      · simp [t1,t3] <;> omega
      by_cases hk:k=(i:Int)
      · simp [t1,t3,hk] <;> omega
      · simp [t1,t3,hk]
  · try dsimp only
    rw [yN]
    obtain ⟨n1,b,n2,n3⟩:=aI3 t.name
    simp only [dY,Nat.lt_irrefl,decide_false,Bool.false_eq_true,if_false,n1,n2,Option.bind_eq_bind,Option.bind_some]
    refine ⟨_,rfl,?_⟩
    rw [← n3]
    cases b with
    | false=>simp
    | true =>
      by_cases l1:(1:Int)≤(t.cols.length:Int)
      · simp [l1] <;> omega
      · simp [l1] <;> omega
def tF (c:aY):Prop:=(∀ i,i<c.tables.length→∃ t,c.tables[i]?=some t∧vD t∧nY c t.name=some (i:Int))∧c.tables.length≤4
def aF0 (c:aY):Prop:=c.tables.length≤1048576∧∀ t ∈ c.tables,t.cols.length≤1048576
theorem cNr (c:aY) (hs:aF0 c):∃ b,aEi c=some b∧(b=true↔tF c):=by
  unfold aEi tF
  refine aPu (n:=c.tables.length) (L:=fun i=>yS c i) (good:=fun i=>∃ t,c.tables[i]?=some t∧vD t∧nY c t.name=some (i:Int)) ?_ ?_
  · intro i hi
    try dsimp only
    rw [yS]
    obtain ⟨b,n2,n3⟩:=bXo c.tables[i] (hs.2 _ (List.getElem_mem hi))
    obtain ⟨c1,k,c2⟩:=aS3 c c.tables[i].name hs.1
    have:=hs.1
    simp only [dY,fD hi,fM hi (by omega),hi,decide_true,if_true,n2,c1,c2,Option.bind_eq_bind,Option.bind_some]
    have hP:(∃ t,c.tables[i]?=some t∧vD t∧nY c t.name=some (i:Int))↔vD c.tables[i]∧k=(i:Int):=by
      constructor
      · rintro ⟨t,h1,h2,h3⟩
        rw [List.getElem?_eq_getElem hi] at h1
        simp only [Option.some.injEq] at h1; subst h1
        rw [c2] at h3
        exact ⟨h2,by simpa using h3⟩
      · rintro ⟨h2,h3⟩
        exact ⟨_,List.getElem?_eq_getElem hi,h2,by rw [c2,h3]⟩
    rw [hP,← n3]
    cases b with
    | false=>simp
    | true =>
      by_cases hk:k=(i:Int)
      · simp [hk]
      · simp [hk]
  · try dsimp only
    rw [yS]
    refine ⟨decide ((c.tables.length:Int)≤4),by simp,?_⟩
    simp only [decide_eq_true_eq]; omega
theorem cBw (c:aY) (hs:aF0 c):∃ b,aCq c=some b∧(b=true↔tF c):=by
  unfold aCq
  by_cases h4:(4:Int)<(c.tables.length:Int)
  · rw [if_pos (by simpa using h4)]
    refine ⟨false,rfl,?_⟩
    unfold tF
    simp only [Bool.false_eq_true,false_iff,not_and]
    intro _; omega
  rw [if_neg (by simpa using h4)]
  have:=aPu (n:=c.tables.length) (L:=fun i=>zT c i) (good:=fun i=>∃ t,c.tables[i]?=some t∧vD t∧nY c t.name=some (i:Int)) (KP:=True) ?_ ?_
  · obtain ⟨b,h1,h2⟩:=this
    exact ⟨b,h1,h2.trans ⟨fun h=>⟨h.1,by omega⟩,fun h=>⟨h.1,trivial⟩⟩⟩
  · intro i hi
    try dsimp only
    rw [zT]
    obtain ⟨n1,b,n2,n3⟩:=aI3 c.tables[i].name
    obtain ⟨c1,k,c2⟩:=aS3 c c.tables[i].name hs.1
    have:=hs.1
    have hcl:=hs.2 _ (List.getElem_mem hi)
    have inner:∀ (j:Nat),j≤c.tables[i].cols.length→((∀ m,j≤m→m<c.tables[i].cols.length→rX c.tables[i] m)→xG (i:Int) c c.tables[i] (j:Nat)=zT c ((i+1:Nat):Int))∧(¬ (∀ m,j≤m→m<c.tables[i].cols.length→rX c.tables[i] m)→xG (i:Int) c c.tables[i] (j:Nat)=some false):=by
      refine jC ?_ ?_
      · rw [xG]
        simp only [dY,Nat.lt_irrefl,decide_false,Bool.false_eq_true,if_false,fM hi (by omega)]
        refine ⟨fun _=>trivial,fun h=>absurd (fun m h1 h2=>by omega) h⟩
      · intro j hj ih
        rw [xG]
        obtain ⟨_,b',m2,m3⟩:=aI3 c.tables[i].cols[j].name
        obtain ⟨_,k',d2⟩:=bAm c.tables[i] c.tables[i].cols[j].name hcl
        simp only [dY,fD hj,fM hj (by omega),hj,decide_true,if_true,m2,d2,lZ,Option.bind_eq_bind,Option.bind_some]
        have hP:rX c.tables[i] j↔b'=true∧(1≤c.tables[i].cols[j].type∧c.tables[i].cols[j].type≤3)∧k'=(j:Int):=by
          unfold rX
          constructor
          · rintro ⟨c',h1,h2,h3,h4⟩
            rw [List.getElem?_eq_getElem hj] at h1
            simp only [Option.some.injEq] at h1; subst h1
            rw [d2] at h4
            exact ⟨m3.2 h2,h3,by simpa using h4⟩
          · rintro ⟨h2,h3,h4⟩
            exact ⟨_,List.getElem?_eq_getElem hj,m3.1 h2,h3,by rw [d2,h4]⟩
        have hall:(∀ m,j≤m→m<c.tables[i].cols.length→rX c.tables[i] m)↔rX c.tables[i] j∧∀ m,j+1≤m→m<c.tables[i].cols.length→rX c.tables[i] m:=by
          constructor
          · intro h; exact ⟨h j (by omega) hj,fun m h1 h2=>h m (by omega) h2⟩
          · rintro ⟨h1,h2⟩ m h3 h4
            by_cases e:m=j
            · subst e; exact h1
            · exact h2 m (by omega) h4
        rw [hall,hP]
        cases b' with
        | false=>simp
        | true =>
          by_cases hk:k'=(j:Int)
          · by_cases t1:1≤c.tables[i].cols[j].type
            · by_cases t3:c.tables[i].cols[j].type≤3
              · have t3':¬ 3<c.tables[i].cols[j].type:=by omega
                simpa [hk,t1,t3,t3',d2] using ih
              · simp [hk,t1,t3,d2]
            · simp [hk,t1,d2]
          · simp [hk,d2]
    obtain ⟨i1,i2⟩:=inner 0 (by omega)
    rw [show ((0:Nat):Int)=0 from rfl] at i1 i2
    simp only [dY,fD hi,fM hi (by omega),hi,decide_true,if_true,n2,c2,lZ,Option.bind_eq_bind,Option.bind_some]
    have hP:(∃ t,c.tables[i]?=some t∧vD t∧nY c t.name=some (i:Int))↔vD c.tables[i]∧k=(i:Int):=by
      constructor
      · rintro ⟨t,h1,h2,h3⟩
        rw [List.getElem?_eq_getElem hi] at h1
        simp only [Option.some.injEq] at h1; subst h1
        rw [c2] at h3
        exact ⟨h2,by simpa using h3⟩
      · rintro ⟨h2,h3⟩
        exact ⟨_,List.getElem?_eq_getElem hi,h2,by rw [c2,h3]⟩
    rw [hP]
    unfold vD
    rw [← n3]
    cases b with
    | false=>simp
    | true =>
      by_cases hk:k=(i:Int)
      · by_cases l1:(1:Int)≤(c.tables[i].cols.length:Int)
        · by_cases l4:(c.tables[i].cols.length:Int)≤4
          · have l1':1≤c.tables[i].cols.length:=by omega
            have l4':c.tables[i].cols.length≤4:=by omega
            simp only [hk,l1,l4,l1',l4']
            simp only [Nat.zero_le,true_implies] at i1 i2
            simpa using And.intro i1 (fun (x:Nat) (hx:x<c.tables[i].cols.length) (hn:¬ rX c.tables[i] x)=>i2 fun h=>hn (h x hx))
          · have l4':¬ c.tables[i].cols.length≤4:=by omega
            simp [hk,l1,l4,l4']
        · have l1':¬ 1≤c.tables[i].cols.length:=by omega
          simp [hk,l1,l1']
      · simp [hk]
  · try dsimp only
    rw [zT]
    exact ⟨true,by simp,by simp⟩
theorem aC2 {α β:Type} {f:α→β}:∀ l:List α,l.flatMap (fun x=>[f x])=l.map f
  | []=>rfl
  | x::l=>by rw [List.flatMap_cons,aC2 l]; rfl
def aliasOf (x:aV):List UInt8:=if x.as_=[] then x.table else x.as_
theorem bD7 (x:aV):aA9 x=some (aliasOf x):=by unfold aA9 aliasOf; by_cases h:x.as_=[] <;> simp [h]
theorem bWi (x:aV):aE8 x=some (aliasOf x):=by unfold aE8 aliasOf; by_cases h:x.as_=[] <;> simp [h]
def aNo (c:aY) (s:List UInt8):Int:=(nY c s).getD 0
def iX (c:aY):List aV→List (List UInt8)→List dL→aL×Int×List UInt8
  | [],_,names=>(⟨names⟩,0,[])
  | x :: l, seen, names => if aNo c x.table < 0 then (⟨[]⟩, 1, x.table) else if aliasOf x ∈ seen then (⟨[]⟩, 2, aliasOf x) else
      iX c l (seen++[aliasOf x]) (names++(c.tables[(aNo c x.table).toNat]?.getD default).cols.map fun k=>⟨aliasOf x,k.name,k.type⟩)
theorem bDh (c:aY):∀ (l m:List aV) (seen:List (List UInt8)) (names:List dL),(iX c (l++m) seen names).2.1=0→(iX c l seen names).2.1=0
  | [],_,_,_,_=>rfl
  | x::l,m,seen,names,h=>by
    simp only [List.cons_append,iX] at h ⊢
    split
    · rename_i h1; rw [if_pos h1] at h; exact h
    · rename_i h1
      rw [if_neg h1] at h
      split
      · rename_i h2; rw [if_pos h2] at h; exact h
      · rename_i h2; rw [if_neg h2] at h; exact bDh c l m _ _ h
theorem aRk (c:aY) (hc:tF c) (s:List UInt8):∃ k:Int,nY c s=some k∧K3 c s=some k∧aNo c s=k∧(k<0∨∃ t,c.tables[k.toNat]?=some t∧0≤k∧k.toNat<c.tables.length∧t.name=s∧t.cols.length≤4∧1≤s.length):=by
  obtain ⟨h1,k,h2⟩:=aS3 c s (by have:=hc.2; omega)
  refine ⟨k,h2,h1.trans h2,by unfold aNo; rw [h2]; rfl,?_⟩
  have key:∀ i,i≤c.tables.length→∃ k:Int,uE s c (i:Nat)=some k∧(k<0∨∃ t,c.tables[k.toNat]?=some t∧0≤k∧t.name=s):=by
    refine jC ?_ ?_
    · exact ⟨-1,by rw [uE]; simp,.inl (by omega)⟩
    · intro i hi ih
      rw [uE]
      have:=hc.2
      simp only [dY,fD hi,fM hi (by omega),hi,decide_true,if_true,Option.bind_eq_bind,Option.bind_some]
      by_cases e:c.tables[i].name=s
      · exact ⟨(i:Int),by simp [e],.inr ⟨c.tables[i],by simp [hi],by omega,e⟩⟩
      · simp only [e,decide_false,Bool.false_eq_true,if_false]; exact ih
  obtain ⟨k',e1,e2⟩:=key 0 (by omega)
  have e0:nY c s=some k':=by rw [nY]; exact e1
  rw [h2] at e0
  obtain rfl:k=k':=by simpa using e0
  rcases e2 with h | ⟨t,ht,h0,hn⟩
  · exact .inl h
  · have hl:=(List.getElem?_eq_some_iff.1 ht).1
    obtain ⟨t',ht',hp,_⟩:=hc.1 _ hl
    rw [ht] at ht'
    obtain rfl:t=t':=by simpa using ht'
    exact .inr ⟨t,ht,h0,hl,hn,hp.2.2.2,by have:=hp.2.1.1; rw [hn] at this; exact this⟩
theorem bZx (l:List (List UInt8)) (s:List UInt8) (hl:l.length≤1048576):aDk l s=some (decide (s ∈ l)):=by
  have key:∀ i,i≤l.length→zU l s (i:Nat)=some (decide (s ∈ l.drop i)):=by
    refine jC ?_ ?_
    · rw [zU]; simp
    · intro i hi ih
      rw [zU]
      simp only [dY,fD hi,fM hi (by omega),hi,decide_true,if_true,Option.bind_eq_bind,Option.bind_some]
      rw [List.drop_eq_getElem_cons hi]
      by_cases e:l[i]=s
      · simp [e]
      · simp only [e,decide_false,Bool.false_eq_true,if_false,ih,List.mem_cons,eq_comm (a:=s),false_or]
  have:=key 0 (by omega)
  simpa [aDk] using this
theorem bF3 (c:aY) (hc:tF c) (l:List aV) (hl:l.length≤1048576):vL c l=some (iX c l [] []):=by
  have key:∀ i,i≤l.length→∀ seen names,seen.length≤i→names.length≤4 * i→yT l c seen (i:Nat) names=some (iX c (l.drop i) seen names):=by
    refine jC ?_ ?_
    · intro seen names _ _
      rw [yT]; simp [iX]
    · intro i hi ih seen names hs hn
      rw [yT]
      obtain ⟨k,t1,_,t3,t4⟩:=aRk c hc l[i].table
      simp only [dY,fD hi,hi,decide_true,if_true,Option.bind_eq_bind,Option.bind_some,t1,bWi,bZx seen _ (by omega)]
      rw [List.drop_eq_getElem_cons hi,iX,t3]
      by_cases hk:k<0
      · simp [hk]
      · obtain ⟨t,ht,h0,hkl,_,h4,_⟩:=t4.resolve_left hk
        simp only [hk,decide_false,Bool.false_eq_true,if_false]
        by_cases hm:aliasOf l[i] ∈ seen
        · simp [hm]
        · simp only [hm,decide_false,Bool.false_eq_true,if_false,nV (b:=16) (l:=seen) (m:=[aliasOf l[i]]) (by simp; omega),Option.bind_some]
          have hidx:idx c.tables k=some t:=by unfold idx; rw [if_pos h0]; exact ht
          simp only [hidx,Option.bind_some,ht,Option.getD_some]
          have hloop:=gather (p:=t.cols) (f:=fun k:bI=>[(⟨aliasOf l[i],k.name,k.type⟩:dL)]) (G:=fun y acc=>appG 40 acc [(⟨aliasOf l[i],y.name,y.type⟩:dL)]) (L:=fun acc j=>L9 l (seen++[aliasOf l[i]]) (i:Int) (aliasOf l[i]) t c j acc) (K:=fun acc=>yT l c (seen++[aliasOf l[i]]) (IntKind.wrap .i64 ((i:Int)+1)) acc) (c:=8388608) (by omega) (fun y _ acc ha=>by rw [nV]; simp at ha ⊢; omega)
            (fun j acc=>by
              rw [L9]
              by_cases hj:j<t.cols.length
              · simp only [dY,hj,decide_true,if_true,fD hj,Option.bind_eq_bind,Option.bind_some]
              · simp only [dY,hj,decide_false,Bool.false_eq_true,if_false]) names (by rw [aC2]; simp; omega)
          rw [hloop,aC2,fM hi (by omega),ih _ _ (by simp; omega) (by simp; omega)]
  have:=key 0 (by omega) [] [] (by simp) (by simp)
  simpa [vL] using this
theorem cC8 (l q : List aV) (c : aY) (k : Int) (a : List UInt8) (i : Int) (t : aP) (names : List dL) (hq : q.length ≤ 1048576) (hidx : idx c.tables k = some t) :
    yK l k a i q c names 0=if a ∈ q.map aliasOf then some (⟨[]⟩,2,a) else vM l a i t c 0 names:=by
  have key:∀ j,j≤q.length→yK l k a i q c names (j:Nat)=if a ∈ (q.drop j).map aliasOf then some (⟨[]⟩,2,a) else vM l a i t c 0 names:=by
    refine jC ?_ ?_
    · rw [yK,List.drop_length]; simp [hidx]
    · intro j hj ihj
      rw [yK]
      simp only [dY,fD hj,fM hj (by omega),hj,decide_true,if_true,Option.bind_eq_bind,Option.bind_some,bD7]
      rw [List.drop_eq_getElem_cons hj,List.map_cons]
      by_cases e:aliasOf q[j]=a
      · simp [e]
      · simp only [e,decide_false,Bool.false_eq_true,if_false,ihj,List.mem_cons,eq_comm (a:=a),false_or]
  exact key 0 (by omega)
theorem bEd (c:aY) (hc:tF c) (l:List aV) (hl:l.length≤1048576):V4 c l=some (iX c l [] []):=by
  have key:∀ i,i≤l.length→∀ names,names.length≤4 * i→yU l c (i:Nat) names=some (iX c (l.drop i) ((l.take i).map aliasOf) names):=by
    refine jC ?_ ?_
    · intro names _
      rw [yU]; simp [iX]
    · intro i hi ih names hn
      rw [yU]
      obtain ⟨k,_,t2,t3,t4⟩:=aRk c hc l[i].table
      have hsub:mV l 0 (i:Int)=some (l.take i):=by unfold mV; rw [if_pos (by omega)]; simp
      simp only [dY,fD hi,hi,decide_true,if_true,Option.bind_eq_bind,Option.bind_some,t2,bD7,hsub]
      rw [List.drop_eq_getElem_cons hi,iX,t3]
      by_cases hk:k<0
      · simp [hk]
      · obtain ⟨t,ht,h0,hkl,_,h4,_⟩:=t4.resolve_left hk
        simp only [hk,decide_false,Bool.false_eq_true,if_false]
        have hidx:idx c.tables k=some t:=by unfold idx; rw [if_pos h0]; exact ht
        have hloop:vM l (aliasOf l[i]) (i:Int) t c 0 names=some (iX c (l.drop (i+1)) ((l.take (i+1)).map aliasOf) (names++t.cols.map fun k=>⟨aliasOf l[i],k.name,k.type⟩)):=by
          have hg:=gather (p:=t.cols) (f:=fun k:bI=>[(⟨aliasOf l[i],k.name,k.type⟩:dL)]) (G:=fun y acc=>appG 40 acc [(⟨aliasOf l[i],y.name,y.type⟩:dL)]) (L:=fun acc j=>vM l (aliasOf l[i]) (i:Int) t c j acc) (K:=fun acc=>yU l c (IntKind.wrap .i64 ((i:Int)+1)) acc) (c:=8388608) (by omega) (fun y _ acc ha=>by rw [nV]; simp at ha ⊢; omega)
            (fun j acc=>by rw [vM]) names (by rw [aC2]; simp; omega)
          rw [hg,aC2,fM hi (by omega),ih _ (by simp; omega)]
        have:=cC8 l (l.take i) c k (aliasOf l[i]) (i:Int) t names (by simp; omega) hidx
        rw [this,hloop]
        by_cases hm:aliasOf l[i] ∈ (l.take i).map aliasOf
        · rw [if_pos hm,if_pos hm]
        · rw [if_neg hm,if_neg hm,ht,Option.getD_some,List.take_add_one,List.map_append]
          simp [hi]
  have:=key 0 (by omega) [] (by simp)
  simpa [V4] using this
theorem aZj (c:aY) (hc:tF c):∀ (l:List aV) (seen:List (List UInt8)) (names:List dL),(iX c l seen names).1.names.length≤names.length+2 * (l.length+gX l)
  | [],seen,names=>by simp [iX]
  | x::l,seen,names=>by
    rw [iX]
    obtain ⟨k,_,_,t3,t4⟩:=aRk c hc x.table
    rw [t3]
    split
    · simp
    · rename_i hk
      split
      · simp
      · obtain ⟨t,ht,h0,hkl,_,h4,h1⟩:=t4.resolve_left hk
        have:=aZj c hc l (seen++[aliasOf x]) (names++(c.tables[k.toNat]?.getD default).cols.map fun k=>⟨aliasOf x,k.name,k.type⟩)
        rw [ht] at this ⊢
        simp only [Option.getD_some,List.length_append,List.length_map] at this ⊢
        have hz:gX (x::l)=gD x+gX l:=by simp only [gX]
        have hx:x.table.length≤gD x:=by obtain ⟨a,b,d⟩:=x; simp only [gD]; omega
        simp only [List.length_cons]
        omega
def pku (r:(List aP)×Bool×(List aB)):cK:=⟨⟨r.1⟩,r.2.2,r.2.1⟩
theorem qP {α β:Type} (f:α→β) (c:Prop) [Decidable c] (x y:Option α):(if c then x else y).map f=if c then x.map f else y.map f:=by split <;> rfl
theorem pY {α β γ:Type} (f:β→γ) (x:Option α) (g:α→Option β):(x>>=g).map f=(x>>=fun y=>(g y).map f):=by cases x <;> rfl
theorem qE {α β:Type} (f:α→β) (x:α):(some x).map f=some (f x):=rfl
theorem qW {α β γ:Type} (f:α→β) (x:Option α) (g:β→Option γ):(x.map f>>=g)=(x>>=fun y=>g (f y)):=by cases x <;> rfl
def nD (p0:cK) (p1:(List aV)):Option (aL×cK):=(aAe p0.c.tables p0.list p0.failed p1).map fun r=>(r.1,⟨⟨r.2.1⟩,p0.list,r.2.2⟩)
def lV (p2:aA) (p0:cK) (oD:Int) (oO:Int) (oG:Int):Option cK:=(L8 p2 p0.c.tables p0.failed p0.list oD oO oG).map pku
def lX (p1:(List aL)) (p2:aA) (p0:cK) (x17:Int):Option cK:=(Q3 p1 p2 p0.c.tables p0.failed p0.list x17).map pku
def kM (p0:cK) (p1:(List aL)) (p2:aA):Option cK:=(aDd p0.c.tables p0.list p0.failed p1 p2).map pku
def mF (y7:(List aL)) (p2:aJ) (x66:Int) (y23:(List Int)) (rJ:(List aP)) (rY:Bool) (kx86:(Int×(List aB))):Option cK:=(M7 y7 p2 x66 y23 rJ rY kx86).map pku
def mM (y7:(List aL)) (p2:aJ) (x66:Int) (aL7:(List aP)) (aJ0:(List aB)) (aMr:Bool):Option cK:=(aBp y7 p2 x66 aL7 aMr aJ0).map pku
def mR (y7:(List aL)) (p2:aJ) (x66:Int) (rJ:(List aP)) (aB8:(List aB)) (rY:Bool):Option cK:=(aBo y7 p2 x66 rJ rY aB8).map pku
def mH (y7:(List aL)) (p2:aJ) (x52:Int) (jX:(List aP)) (aE1:(List aB)) (aCp:Bool):Option cK:=(aA3 y7 p2 x52 jX aCp aE1).map pku
def kG (p1:(List aL)) (p2:(List aA)) (x12:Int) (y1:aA) (x31:Int) (aE6:(List aP)) (zH:((List aB)×Bool)):Option cK:=(aBq p1 p2 x12 y1 x31 aE6 (zH.2,zH.1)).map pku
def kY (p1:(List aL)) (p2:(List aA)) (x12:Int) (y1:aA) (kT:(List aP)) (aFp:(List aB)) (aK9:Bool):Option cK:=(aAy p1 p2 x12 y1 kT aK9 aFp).map pku
def jG (p1:(List aL)) (p2:(List aA)) (x12:Int) (eQ:(List aP)) (sG:(List aB)) (eT:Bool):Option cK:=(Y5 p1 p2 x12 eQ eT sG).map pku
def iU (p0:cK) (p1:(List aL)) (p2:(List aA)):Option cK:=(wL p0.c.tables p0.list p0.failed p1 p2).map pku
def lU (p1:(List aL)) (p2:aJ) (x19:Int) (eQ:(List aP)) (sG:(List aB)) (eT:Bool):Option cK:=(Z6 p1 p2 x19 eQ eT sG).map pku
def jM (p0:cK) (p1:(List aL)) (p2:aJ):Option cK:=(U9 p0.c.tables p0.list p0.failed p1 p2).map pku
theorem bCh (p0:cK) (p1:(List aV)):nD p0 p1=((V4 p0.c p1)>>=fun (y1:aL×Int×(List UInt8))=>(some (if p0.failed=true then true else (!decide (y1.2.1=0))))>>=fun (y2:Bool)=>some (y1.1,(cK.mk p0.c p0.list y2))):=by
  unfold nD aAe
  simp only [pY,qE]
theorem bZs (p2:aA) (p0:cK) (oD:Int) (oO:Int) (oG:Int):lV p2 p0 oD oO oG=((appG 56 p0.list ([(aB.mk p2.qual p2.name oD oO oG)]:List aB))>>=fun (y4:List aB)=>some (cK.mk p0.c y4 p0.failed)):=by
  unfold lV
  rw [L8]
  simp only [lV,lX,kM,mF,mM,mR,mH,kG,kY,jG,iU,lU,jM,nD,qP,pY,qE,qW,pku]
theorem bEv (p1:(List aL)) (p2:aA) (p0:cK) (x17:Int):lX p1 p2 p0 x17=(if (decide (x17<(p1.length:Int)))=true then ((idx p1 x17)>>=fun (y1:aL)=>(V8 y1 p2.qual p2.name)>>=fun (y2:(List Int))=>if (decide (0<(y2.length:Int)))=true then (if (decide ((y2.length:Int)=1))=true then ((idx y2 0)>>=fun (y3:Int)=>lV p2 p0 (y2.length:Int) x17 y3) else (lV p2 p0 (y2.length:Int) 0 0)) else (lX p1 p2 p0 (IntKind.wrap .i64 (x17+1)))) else (lV p2 p0 0 0 0)):=by
  unfold lX
  rw [Q3]
  simp only [lV,lX,kM,mF,mM,mR,mH,kG,kY,jG,iU,lU,jM,nD,qP,pY,qE,qW,pku]
theorem bU6 (p0:cK) (p1:(List aL)) (p2:aA):kM p0 p1 p2=(lX p1 p2 p0 0):=by
  unfold kM
  rw [aDd]
  simp only [lV,lX,kM,mF,mM,mR,mH,kG,kY,jG,iU,lU,jM,nD,qP,pY,qE,qW,pku]
theorem bY3 (y7:(List aL)) (p2:aJ) (x66:Int) (y23:(List Int)) (rJ:(List aP)) (rY:Bool) (kx86:(Int×(List aB))):mF y7 p2 x66 y23 rJ rY kx86=(if (decide (kx86.1<(y23.length:Int)))=true then ((idx y23 kx86.1)>>=fun (y25:Int)=>(idx y7 0)>>=fun (y26:aL)=>(idx y26.names y25)>>=fun (y27:dL)=>(appG 56 kx86.2 ([(aB.mk y27.qual y27.name 1 0 y25)]:List aB))>>=fun (y28:List aB)=>mF y7 p2 x66 y23 rJ rY ((IntKind.wrap .i64 (kx86.1+1)),y28)) else (mM y7 p2 x66 rJ kx86.2 rY)):=by
  unfold mF
  rw [M7]
  simp only [lV,lX,kM,mF,mM,mR,mH,kG,kY,jG,iU,lU,jM,nD,qP,pY,qE,qW,pku]
theorem bC4 (y7:(List aL)) (p2:aJ) (x66:Int) (aL7:(List aP)) (aJ0:(List aB)) (aMr:Bool):mM y7 p2 x66 aL7 aJ0 aMr=(mR y7 p2 (IntKind.wrap .i64 (x66+1)) aL7 aJ0 aMr):=by
  unfold mM
  rw [aBp]
  simp only [lV,lX,kM,mF,mM,mR,mH,kG,kY,jG,iU,lU,jM,nD,qP,pY,qE,qW,pku]
theorem bHv (y7:(List aL)) (p2:aJ) (x66:Int) (rJ:(List aP)) (aB8:(List aB)) (rY:Bool):mR y7 p2 x66 rJ aB8 rY=(if (decide (x66<(p2.items.length:Int)))=true then ((idx p2.items x66)>>=fun (y17:bA)=>if (!y17.star)=true then ((iU (cK.mk (aY.mk rJ) aB8 rY) y7 ([y17.expr]:List aA))>>=fun (y18:cK)=>mM y7 p2 x66 y18.c.tables y18.list y18.failed) else ((idx y7 0)>>=fun (y22:aL)=>(aBg y22 y17.qual)>>=fun (y23:(List Int))=>mF y7 p2 x66 y23 rJ rY (0,aB8))) else (some (cK.mk (aY.mk rJ) aB8 rY))):=by
  unfold mR
  rw [aBo]
  simp only [lV,lX,kM,mF,mM,mR,mH,kG,kY,jG,iU,lU,jM,nD,qP,pY,qE,qW,pku]
theorem bIx (y7:(List aL)) (p2:aJ) (x52:Int) (jX:(List aP)) (aE1:(List aB)) (aCp:Bool):mH y7 p2 x52 jX aE1 aCp=(if (decide (x52<(p2.order.length:Int)))=true then ((idx p2.order x52)>>=fun (y12:bC)=>(iU (cK.mk (aY.mk jX) aE1 aCp) y7 ([y12.expr]:List aA))>>=fun (y13:cK)=>mH y7 p2 (IntKind.wrap .i64 (x52+1)) y13.c.tables y13.list y13.failed) else (mR y7 p2 0 jX aE1 aCp)):=by
  unfold mH
  rw [aA3]
  simp only [lV,lX,kM,mF,mM,mR,mH,kG,kY,jG,iU,lU,jM,nD,qP,pY,qE,qW,pku]
theorem aAv (p1:(List aL)) (p2:(List aA)) (x12:Int) (y1:aA) (x31:Int) (aE6:(List aP)) (zH:((List aB)×Bool)):kG p1 p2 x12 y1 x31 aE6 zH=(if (decide (x31<(y1.sub.length:Int)))=true then ((idx y1.sub x31)>>=fun (y10:aJ)=>(jM (cK.mk (aY.mk aE6) zH.1 zH.2) p1 y10)>>=fun (y11:cK)=>kG p1 p2 x12 y1 (IntKind.wrap .i64 (x31+1)) y11.c.tables (y11.list,y11.failed)) else (jG p1 p2 (IntKind.wrap .i64 (x12+1)) aE6 zH.1 zH.2)):=by
  unfold kG
  rw [aBq]
  simp only [lV,lX,kM,mF,mM,mR,mH,kG,kY,jG,iU,lU,jM,nD,qP,pY,qE,qW,pku]
theorem aQ4 (p1:(List aL)) (p2:(List aA)) (x12:Int) (y1:aA) (kT:(List aP)) (aFp:(List aB)) (aK9:Bool):kY p1 p2 x12 y1 kT aFp aK9=((iU (cK.mk (aY.mk kT) aFp aK9) p1 y1.kids)>>=fun (y6:cK)=>kG p1 p2 x12 y1 0 y6.c.tables (y6.list,y6.failed)):=by
  unfold kY
  rw [aAy]
  simp only [lV,lX,kM,mF,mM,mR,mH,kG,kY,jG,iU,lU,jM,nD,qP,pY,qE,qW,pku]
theorem zX (p1:(List aL)) (p2:(List aA)) (x12:Int) (eQ:(List aP)) (sG:(List aB)) (eT:Bool):jG p1 p2 x12 eQ sG eT=(if (decide (x12<(p2.length:Int)))=true then ((idx p2 x12)>>=fun (y1:aA)=>if (decide (y1.kind=2))=true then ((kM (cK.mk (aY.mk eQ) sG eT) p1 y1)>>=fun (y2:cK)=>kY p1 p2 x12 y1 y2.c.tables y2.list y2.failed) else (kY p1 p2 x12 y1 eQ sG eT)) else (some (cK.mk (aY.mk eQ) sG eT))):=by
  unfold jG
  rw [Y5]
  simp only [lV,lX,kM,mF,mM,mR,mH,kG,kY,jG,iU,lU,jM,nD,qP,pY,qE,qW,pku]
theorem aCz (p0:cK) (p1:(List aL)) (p2:(List aA)):iU p0 p1 p2=(jG p1 p2 0 p0.c.tables p0.list p0.failed):=by
  unfold iU
  rw [wL]
  simp only [lV,lX,kM,mF,mM,mR,mH,kG,kY,jG,iU,lU,jM,nD,qP,pY,qE,qW,pku]
theorem aWp (p1:(List aL)) (p2:aJ) (x19:Int) (eQ:(List aP)) (sG:(List aB)) (eT:Bool):lU p1 p2 x19 eQ sG eT=(if (decide (x19<(p2.from_.length:Int)))=true then ((idx p2.from_ x19)>>=fun (y1:aV)=>(mV p2.from_ 0 (IntKind.wrap .i64 (x19+1)))>>=fun (y2:(List aV))=>(nD (cK.mk (aY.mk eQ) sG eT) y2)>>=fun (y3:aL×cK)=>(yQ y3.1 p1)>>=fun (y4:(List aL))=>(iU y3.2 y4 y1.on_)>>=fun (y5:cK)=>lU p1 p2 (IntKind.wrap .i64 (x19+1)) y5.c.tables y5.list y5.failed) else ((nD (cK.mk (aY.mk eQ) sG eT) p2.from_)>>=fun (y6:aL×cK)=>(yQ y6.1 p1)>>=fun (y7:(List aL))=>(iU y6.2 y7 p2.where_)>>=fun (y8:cK)=>mH y7 p2 0 y8.c.tables y8.list y8.failed)):=by
  unfold lU
  rw [Z6]
  simp only [lV,lX,kM,mF,mM,mR,mH,kG,kY,jG,iU,lU,jM,nD,qP,pY,qE,qW,pku]
theorem bYt (p0:cK) (p1:(List aL)) (p2:aJ):jM p0 p1 p2=(lU p1 p2 0 p0.c.tables p0.list p0.failed):=by
  unfold jM
  rw [U9]
  simp only [lV,lX,kM,mF,mM,mR,mH,kG,kY,jG,iU,lU,jM,nD,qP,pY,qE,qW,pku]
def hit (q n:List UInt8) (x:dL):Bool:=if x.name=n then (if q=[] then true else decide (x.qual=q)) else false
def mtI (q n:List UInt8):List dL→Int→List Int
  | [],_=>[]
  | x::l,i=>if hit q n x=true then i::mtI q n l (i+1) else mtI q n l (i+1)
theorem cMn (s:aL) (q n:List UInt8) (hl:s.names.length≤4194304):V8 s q n=some (mtI q n s.names 0):=by
  have key:∀ i,i≤s.names.length→∀ acc:List Int,acc.length≤i→J8 q n s acc (i:Nat)=some (acc++mtI q n (s.names.drop i) (i:Int)):=by
    refine jC ?_ ?_
    · intro acc _; rw [J8]; simp [mtI]
    · intro i hi ih acc ha
      rw [J8,List.drop_eq_getElem_cons hi]
      simp only [dY,fD hi,hi,decide_true,if_true,Option.bind_eq_bind,Option.bind_some,mtI,hit]
      have hn:∀ acc:List Int,acc.length≤i+1→M9 q n s (i:Int) acc=some (acc++mtI q n (s.names.drop (i+1)) ((i:Int)+1)):=fun acc h=>by
        rw [M9,fM hi (by omega),ih acc h]; rfl
      by_cases h1:s.names[i].name=n
      · by_cases h2:q=[]
        · simp only [h1,h2,decide_true,if_true,beq_self_eq_true,Bool.and_true,Option.bind_some]
          rw [nV (by simp; omega),Option.bind_some,← h2,hn _ (by simp; omega)]; simp
        · by_cases h3:s.names[i].qual=q
          · simp only [h1,h2,h3,decide_true,decide_false,if_true,if_false,beq_self_eq_true,Bool.and_true,Bool.false_eq_true,Option.bind_some]
            rw [nV (by simp; omega),Option.bind_some,hn _ (by simp; omega)]; simp
          · simp only [h1,h2,h3,decide_true,decide_false,if_true,if_false,beq_self_eq_true,Bool.and_true,Bool.false_eq_true,Option.bind_some]
            rw [hn _ (by omega)]
      · simp [h1,hn acc (by omega)]
  have:=key 0 (by omega) [] (by simp)
  simpa [V8] using this
def qI (q n:List UInt8):List aL→Int→Int×Int×Int
  | [],_=>(0,0,0)
  | s::l,up=>if mtI q n s.names 0=[] then qI q n l (up+1) else if (mtI q n s.names 0).length=1 then (1,up,(mtI q n s.names 0).headD 0) else ((mtI q n s.names 0).length,0,0)
def aD3 (env:List aL) (e:aA):aB:=⟨e.qual,e.name,(qI e.qual e.name env 0).1,(qI e.qual e.name env 0).2.1,(qI e.qual e.name env 0).2.2⟩
def Names (env:List aL):Prop:=env.length≤2097152∧∀ s ∈ env,s.names.length≤4194304
theorem cE7 (u:cK) (env:List aL) (e:aA) (h:Names env) (hu:u.list.length≤2500000000000):kM u env e=some ⟨u.c,u.list++[aD3 env e],u.failed⟩:=by
  have hJ:∀ a b d,lV e u a b d=some ⟨u.c,u.list++[⟨e.qual,e.name,a,b,d⟩],u.failed⟩:=fun a b d=>by
    rw [bZs,nV (by simp only [List.length_cons,List.length_nil]; omega)]; rfl
  have key:∀ i,i≤env.length→lX env e u (i:Nat)=some ⟨u.c,u.list++[⟨e.qual,e.name,(qI e.qual e.name (env.drop i) (i:Int)).1,(qI e.qual e.name (env.drop i) (i:Int)).2.1,(qI e.qual e.name (env.drop i) (i:Int)).2.2⟩],u.failed⟩:=by
    refine jC ?_ ?_
    · rw [bEv]; simp [qI,hJ]
    · intro i hi ih
      rw [bEv,List.drop_eq_getElem_cons hi,qI]
      simp only [dY,fD hi,hi,decide_true,if_true,Option.bind_eq_bind,Option.bind_some,cMn _ _ _ (h.2 _ (List.getElem_mem hi)),fM hi (by have:=h.1; omega),ih]
      cases hM:mtI e.qual e.name env[i].names 0 with
      | nil=>simp
      | cons x l =>
        by_cases hl:l=[]
        · subst hl
          simp only [List.length_cons,List.length_nil,reduceCtorEq,if_false,List.headD_cons]
          rw [if_pos (by simp),if_pos (by simp),if_pos (by simp)]
          have:idx [x] 0=some x:=rfl
          rw [this,Option.bind_some,hJ]; rfl
        · have hl':l.length≠0:=by simpa using hl
          have hd:decide (((x::l).length:Int)=1)=false:=by simp; omega
          rw [if_pos (by simp),hd,if_neg (by simp),hJ,if_neg (by simp),if_neg (by simp [hl])]
  have:=key 0 (by omega)
  simpa [bU6,aD3] using this
theorem bWs {γ:Type} (q n:List UInt8) (x:dL) (A B:Option γ):((if (true&&decide (x.name=n)==true)=true then some (if decide (q=[])=true then true else decide (x.qual=q)) else some default).bind fun (y:Bool)=>if (if decide (x.name=n)=true then y else false)=true then A else B)=if hit q n x=true then A else B:=by
  unfold hit
  by_cases h1:x.name=n
  · by_cases h2:q=[]
    · simp [h1,h2]
    · simp [h1,h2]
  · simp [h1]
def aIa (env:List aL) (e:aA) (up:Nat) (M:List Int) (cnt:Nat) (a b:Int):Option aB :=
  if cnt+M.length=0 then yV env e (IntKind.wrap .i64 ((up:Int)+1)) 0 a b
  else zJ e ((cnt+M.length:Nat):Int) (if M=[] then a else up) (M.getLastD b)
theorem bSa (env : List aL) (e : aA) (up : Nat) (hup : up < env.length) (hn : env[up].names.length ≤ 4194304) :
    ∀ k,k≤env[up].names.length→∀ (cnt:Nat) (a b:Int),cnt≤k→I4 env (up:Int) e (k:Nat) cnt a b=aIa env e up (mtI e.qual e.name (env[up].names.drop k) (k:Int)) cnt a b:=by
  refine jC ?_ ?_
  · intro cnt a b hc
    rw [I4]
    simp only [fD hup,Option.bind_eq_bind,Option.bind_some,dY,Nat.lt_irrefl,decide_false,Bool.false_eq_true,if_false,List.drop_length,mtI,aIa,List.length_nil,Nat.add_zero,if_true,List.getLastD_nil]
    by_cases h0:cnt=0
    · subst h0; simp
    · rw [if_pos (by simp; omega),if_neg h0]
  · intro k hk ih cnt a b hc
    rw [I4,List.drop_eq_getElem_cons hk]
    simp only [fD hup,fD hk,dY,hk,decide_true,if_true,Option.bind_some,mtI]
    simp only [Option.bind_eq_bind,Option.bind_some,hk,decide_true,if_true,fD hk,dY]
    rw [bWs]
    have hc2:((k:Int)+1)=((k+1:Nat):Int):=by omega
    have hw:IntKind.wrap .i64 ((cnt:Int)+1)=((cnt+1:Nat):Int):=by rw [kN] <;> omega
    cases hh:hit e.qual e.name env[up].names[k] with
    | false =>
      simp only [Bool.false_eq_true,if_false]
      rw [F5,fM hk (by omega),ih cnt a b (by omega),hc2]
    | true =>
      simp only [if_true]
      rw [F5,fM hk (by omega),hw,ih (cnt+1) _ _ (by omega),hc2]
      unfold aIa
      have e1:cnt+1+(mtI e.qual e.name (env[up].names.drop (k+1)) ((k+1:Nat):Int)).length=cnt+((k:Int)::mtI e.qual e.name (env[up].names.drop (k+1)) ((k+1:Nat):Int)).length:=by simp; omega
      simp only [ite_self]
      rw [e1,if_neg (by simp),if_neg (by simp),if_neg (by simp),List.getLastD_cons]
theorem cCi (env:List aL) (e:aA) (h:Names env):aB0 env e=some (aD3 env e):=by
  have key:∀ i,i≤env.length→yV env e (i:Nat) 0 0 0=some ⟨e.qual,e.name,(qI e.qual e.name (env.drop i) (i:Int)).1,(qI e.qual e.name (env.drop i) (i:Int)).2.1,(qI e.qual e.name (env.drop i) (i:Int)).2.2⟩:=by
    refine jC ?_ ?_
    · rw [yV]; simp [qI,zJ,M6]
    · intro i hi ih
      have hn:=h.2 _ (List.getElem_mem hi)
      rw [yV,List.drop_eq_getElem_cons hi,qI]
      simp only [dY,hi,decide_true,if_true]
      have:=bSa env e i hi hn 0 (by omega) 0 0 0 (by omega)
      rw [show (((0:Nat):Int))=0 from rfl] at this
      rw [this]
      simp only [List.drop_zero,aIa,Nat.zero_add]
      cases hM:mtI e.qual e.name env[i].names 0 with
      | nil =>
        simp only [List.length_nil,if_true]
        rw [fM hi (by have:=h.1; omega),ih]
        rfl
      | cons x l =>
        by_cases hl:l=[]
        · subst hl
          simp [zJ,M6]
        · have hl':l.length≠0:=by simpa using hl
          have hd:(decide (((x::l).length:Int)=1))=false:=by simp; omega
          rw [if_neg (by simp),zJ]
          simp only [hd,Bool.not_false,if_true,M6]
          rw [if_neg (by simp),if_neg (by simp [hl])]
  have:=key 0 (by omega)
  simpa [aB0,aD3] using this
def aSz (q:List UInt8) (x:dL):Bool:=if q=[] then true else decide (x.qual=q)
def stM (q:List UInt8):List dL→Int→List Int
  | [],_=>[]
  | x::l,i=>if aSz q x=true then i::stM q l (i+1) else stM q l (i+1)
theorem aC5 (q:List UInt8):∀ (l:List dL) (i:Int),(stM q l i).length≤l.length
  | [],_=>by simp [stM]
  | x::l,i=>by
    have:=aC5 q l (i+1)
    unfold stM; split <;> simp <;> omega
theorem bJa (q:List UInt8):∀ (l:List dL) (i a:Int),a ∈ stM q l i→i≤a∧a<i+l.length
  | [],_,_,h=>by simp [stM] at h
  | x::l,i,a,h=>by
    have ih:=bJa q l (i+1) a
    unfold stM at h
    split at h
    · rcases List.mem_cons.1 h with rfl | h
      · simp only [List.length_cons]; omega
      · have:=ih h; simp only [List.length_cons]; omega
    · have:=ih h; simp only [List.length_cons]; omega
theorem bTf (s:aL) (q:List UInt8) (hl:s.names.length≤4194304):aBg s q=some (stM q s.names 0):=by
  have key:∀ i,i≤s.names.length→∀ acc:List Int,acc.length≤i→O9 q s acc (i:Nat)=some (acc++stM q (s.names.drop i) (i:Int)):=by
    refine jC ?_ ?_
    · intro acc _; rw [O9]; simp [stM]
    · intro i hi ih acc ha
      rw [O9,List.drop_eq_getElem_cons hi]
      have hn:∀ acc:List Int,acc.length≤i+1→O1 q s (i:Int) acc=some (acc++stM q (s.names.drop (i+1)) ((i:Int)+1)):=fun acc h=>by
        rw [O1,fM hi (by omega),ih acc h]; rfl
      simp only [dY,fD hi,hi,decide_true,if_true,Option.bind_eq_bind,Option.bind_some,stM,aSz]
      by_cases h2:q=[]
      · simp only [h2,decide_true,if_true]
        rw [nV (by simp only [List.length_cons,List.length_nil]; omega),Option.bind_some,← h2,hn _ (by simp; omega)]; simp
      · by_cases h3:s.names[i].qual=q
        · simp only [h2,h3,decide_true,decide_false,if_true,if_false,Bool.false_eq_true]
          rw [nV (by simp only [List.length_cons,List.length_nil]; omega),Option.bind_some,hn _ (by simp; omega)]; simp
        · simp only [h2,h3,decide_false,if_false,Bool.false_eq_true]
          rw [hn _ (by omega)]
  have:=key 0 (by omega) [] (by simp)
  simpa [aBg] using this
theorem cJi (s:aL) (q:List UInt8) (hl:s.names.length≤4194304):R7 s q=some (stM q s.names 0):=by
  have key:∀ i,i≤s.names.length→∀ acc:List Int,acc.length≤i→R9 q s acc (i:Nat)=some (acc++stM q (s.names.drop i) (i:Int)):=by
    refine jC ?_ ?_
    · intro acc _; rw [R9]; simp [stM]
    · intro i hi ih acc ha
      rw [R9,List.drop_eq_getElem_cons hi]
      have hn:∀ acc:List Int,acc.length≤i+1→F9 q (i:Int) s acc=some (acc++stM q (s.names.drop (i+1)) ((i:Int)+1)):=fun acc h=>by
        rw [F9,fM hi (by omega),ih acc h]; rfl
      simp only [dY,fD hi,hi,decide_true,if_true,Option.bind_eq_bind,stM,aSz]
      by_cases h2:q=[]
      · simp only [h2,decide_true,if_true,beq_iff_eq,Bool.true_eq_false,Bool.and_false,Bool.false_eq_true,if_false,Option.bind_some,Bool.true_and]
        rw [nV (by simp only [List.length_cons,List.length_nil]; omega),Option.bind_some,← h2,hn _ (by simp; omega)]; simp
      · by_cases h3:s.names[i].qual=q
        · simp only [h2,h3,decide_true,decide_false,if_true,if_false,Bool.false_eq_true,beq_self_eq_true,Bool.and_true,Bool.true_and,Option.bind_some]
          rw [nV (by simp only [List.length_cons,List.length_nil]; omega),Option.bind_some,hn _ (by simp; omega)]; simp
        · simp only [h2,h3,decide_true,decide_false,if_true,if_false,Bool.false_eq_true,beq_self_eq_true,Bool.and_true,Bool.true_and,Option.bind_some]
          rw [hn _ (by omega)]
  have:=key 0 (by omega) [] (by simp)
  simpa [R7] using this
def Mx:Nat:=2500000000000
def US (c:aY) (F:cK→Option cK) (G:List aB→Option (List aB×Bool)) (B:Nat) (P:Prop):Prop :=
  ∃ (L L':List aB) (f f':Bool),L.length≤B∧L'.length≤B∧(f=false→L'=L)∧(f'=false↔f=false∧P) ∧
    (∀ u:cK,u.c=c→u.list.length+B≤Mx→F u=some ⟨c,u.list++L,u.failed||f'⟩)∧(∀ out:List aB,out.length+B≤Mx→G out=some (out++L',!f))
theorem US.mono {c:aY} {F:cK→Option cK} {G:List aB→Option (List aB×Bool)} {B B':Nat} {P P':Prop} (h:US c F G B P) (hB:B≤B') (hP:P↔P'):US c F G B' P':=by
  obtain ⟨L,L',f,f',h1,h2,h3,h4,h5,h6⟩:=h
  exact ⟨L,L',f,f',by omega,by omega,h3,by rw [h4,hP],fun u hu hl=>h5 u hu (by omega),fun o hl=>h6 o (by omega)⟩
theorem US.congr {c:aY} {F F':cK→Option cK} {G G':List aB→Option (List aB×Bool)} {B:Nat} {P:Prop} (h:US c F G B P) (hF:∀ u,u.c=c→u.list.length+B≤Mx→F' u=F u) (hG:∀ o,o.length+B≤Mx→G' o=G o):US c F' G' B P:=by
  obtain ⟨L,L',f,f',h1,h2,h3,h4,h5,h6⟩:=h
  exact ⟨L,L',f,f',h1,h2,h3,h4,fun u hu hl=>by rw [hF u hu hl]; exact h5 u hu hl,fun o hl=>by rw [hG o hl]; exact h6 o hl⟩
theorem US.id (c:aY):US c (fun u=>some u) (fun out=>some (out,true)) 0 True :=
  ⟨[],[],false,false,by simp,by simp,fun _=>rfl,by simp,fun u hu _=>by obtain ⟨a,b,d⟩:=u; simp at hu ⊢; exact hu,fun o _=>by simp⟩
theorem US.seq {c : aY} {F F' : cK → Option cK} {G : List aB → Option (List aB × Bool)} {K : List aB → Bool → Option (List aB × Bool)} {B B' : Nat} {P P' : Prop}
    (h:US c F G B P) (h':US c F' (fun out=>K out true) B' P') (hk:∀ out,K out false=some (out,false)):US c (fun u=>(F u)>>=F') (fun out=>(G out)>>=fun r=>K r.1 r.2) (B+B') (P∧P'):=by
  obtain ⟨L,L',f,f',h1,h2,h3,h4,h5,h6⟩:=h
  obtain ⟨M,M',g,g',k1,k2,k3,k4,k5,k6⟩:=h'
  have hF:∀ u:cK,u.c=c→u.list.length+(B+B')≤Mx→(F u>>=F')=some ⟨c,u.list++(L++M),u.failed||(f'||g')⟩:=fun u hu hl=>by
    show (F u>>=F')=_
    rw [h5 u hu (by omega)]
    show F' _=_
    rw [k5 _ rfl (by simp only [List.length_append]; omega)]
    simp [Bool.or_assoc]
  cases f with
  | false =>
    refine ⟨L++M,L'++M',g,f'||g',by simp only [List.length_append]; omega,by simp only [List.length_append]; omega,fun hg=>by rw [h3 rfl,k3 hg],?_,hF,fun o hl=>?_⟩
    · rw [Bool.or_eq_false_iff,h4,k4]; simp; exact ⟨fun h=>⟨h.2.1,h.1,h.2.2⟩,fun h=>⟨h.2.1,h.1,h.2.2⟩⟩
    · show (G o>>=fun r=>K r.1 r.2)=_
      rw [h6 o (by omega)]
      show K _ _=_
      have:K (o++L') true=_:=k6 (o++L') (by simp only [List.length_append]; omega)
      rw [show (!false)=true from rfl]
      show K (o++L') true=_
      rw [this,List.append_assoc]
  | true =>
    have hf':f'=true:=by
      cases f' with
      | true=>rfl
      | false=>exact absurd (h4.1 rfl).1 (by simp)
    refine ⟨L++M,L',true,f'||g',by simp only [List.length_append]; omega,by omega,fun hg=>by simp at hg,?_,hF,fun o hl=>?_⟩
    · rw [hf']; simp
    · show (G o>>=fun r=>K r.1 r.2)=_
      rw [h6 o (by omega)]
      show K _ _=_
      exact hk _
theorem US.loop {c : aY} {n : Nat} {FI : (i : Nat) → i < n → cK → Option cK} {GS : (i : Nat) → i < n → List aB → Option (List aB × Bool)} {b : (i : Nat) → i < n → Nat} {P : (i : Nat) → i < n → Prop} {S : Nat → Nat}
    {LI:Nat→cK→Option cK} {LS:Nat→List aB→Bool→Option (List aB×Bool)} {KI:cK→Option cK} {KS:List aB→Option (List aB×Bool)} {Bk:Nat} {PK:Prop}
    (H:∀ i hi,US c (FI i hi) (GS i hi) (b i hi) (P i hi)) (hK:US c KI KS Bk PK) (hf:∀ i,i≤n→∀ out,LS i out false=some (out,false))
    (hI:∀ i hi u,u.c=c→u.list.length+S i≤Mx→LI i u=(FI i hi u)>>=fun u'=>LI (i+1) u') (hI0:∀ u,u.c=c→LI n u=KI u)
    (hS:∀ i hi out,out.length+S i≤Mx→LS i out true=(GS i hi out)>>=fun r=>LS (i+1) r.1 r.2) (hS0:∀ out,LS n out true=KS out)
    (s0:Bk≤S n) (s1:∀ i hi,b i hi+S (i+1)≤S i):US c (LI 0) (fun out=>LS 0 out true) (S 0) ((∀ i hi,P i hi)∧PK):=by
  have key:∀ i,i≤n→US c (LI i) (fun out=>LS i out true) (S i) ((∀ j hj,i≤j→P j hj)∧PK):=by
    refine jC ?_ ?_
    · refine ((hK.congr (fun u hu _=>hI0 u hu) (fun o _=>hS0 o)).mono s0 ?_)
      exact ⟨fun h=>⟨fun j h1 h2=>by omega,h⟩,fun h=>h.2⟩
    · intro i hi ih
      have hs:=(H i hi).seq (K:=LS (i+1)) ih (fun out=>hf _ (by omega) out)
      refine (((hs.mono (s1 i hi) Iff.rfl).congr (fun u hu hl=>hI i hi u hu hl) (fun o hl=>hS i hi o hl)).mono (Nat.le_refl _) ?_)
      constructor
      · rintro ⟨h1,h2,h3⟩
        refine ⟨fun j k1 k2=>?_,h3⟩
        by_cases e:j=i
        · subst e; exact h1
        · exact h2 j k1 (by omega)
      · rintro ⟨h1,h2⟩
        exact ⟨h1 i hi (Nat.le_refl _),fun j k1 k2=>h1 j k1 (by omega),h2⟩
  refine (key 0 (by omega)).mono (Nat.le_refl _) ⟨fun h=>⟨fun i hi=>h.1 i hi (by omega),h.2⟩,fun h=>⟨fun j hj _=>h.1 j hj,h.2⟩⟩
theorem US.flag {c : aY} {F : cK → Option cK} {G : List aB → Option (List aB × Bool)} {B : Nat} {P : Prop} (h : US c F G B P) (g : Bool) :
    US c (fun u=>F ⟨u.c,u.list,u.failed||g⟩) G B (P∧g=false):=by
  obtain ⟨L,L',f,f',h1,h2,h3,h4,h5,h6⟩:=h
  refine ⟨L,L',f,f'||g,h1,h2,h3,by rw [Bool.or_eq_false_iff,h4]; exact ⟨fun h=>⟨h.1.1,h.1.2,h.2⟩,fun h=>⟨⟨h.1,h.2.1⟩,h.2.2⟩⟩,fun u hu hl=>?_,h6⟩
  show F _=_
  have:=h5 ⟨u.c,u.list,u.failed||g⟩ hu hl
  rw [this]
  simp [Bool.or_assoc,Bool.or_comm g]
theorem US.adds {c : aY} {F : cK → Option cK} {G : List aB → Option (List aB × Bool)} {B : Nat} (L : List aB) (hL : L.length ≤ B)
    (h5:∀ u:cK,u.c=c→u.list.length+B≤Mx→F u=some ⟨c,u.list++L,u.failed⟩) (h6:∀ out:List aB,out.length+B≤Mx→G out=some (out++L,true)):US c F G B True :=
  ⟨L,L,false,false,hL,hL,fun _=>rfl,by simp,fun u hu hl=>by rw [h5 u hu hl]; simp,fun o hl=>by rw [h6 o hl]; rfl⟩
theorem bJh (l:List aA) (i:Nat) (hi:i<l.length):fZ (l.drop i)=bR l[i]+fZ (l.drop (i+1)):=by rw [List.drop_eq_getElem_cons hi]; simp only [fZ]
theorem cC5 (l:List aJ) (i:Nat) (hi:i<l.length):jY (l.drop i)=eO l[i]+jY (l.drop (i+1)):=by rw [List.drop_eq_getElem_cons hi]; simp only [jY]
theorem cJ9 (l:List bA) (i:Nat) (hi:i<l.length):jE (l.drop i)=fT l[i]+jE (l.drop (i+1)):=by rw [List.drop_eq_getElem_cons hi]; simp only [jE]
theorem cAo (l:List aV) (i:Nat) (hi:i<l.length):gX (l.drop i)=gD l[i]+gX (l.drop (i+1)):=by rw [List.drop_eq_getElem_cons hi]; simp only [gX]
theorem bUj (l:List bC) (i:Nat) (hi:i<l.length):jH (l.drop i)=gU l[i]+jH (l.drop (i+1)):=by rw [List.drop_eq_getElem_cons hi]; simp only [jH]
theorem bVs (env : List aL) (p : List aA) (i : Nat) (y : aA) (hi : i < p.length) (hp : p.length ≤ 1048576) (hy : y.sub.length ≤ 1048576) :
    ∀ j,j≤y.sub.length→∀ t l f,kG env p (i:Int) y (j:Nat) t (l,f)=(kG env [y] 0 y (j:Nat) t (l,f))>>=fun u=>jG env p ((i+1:Nat):Int) u.c.tables u.list u.failed:=by
  refine jC ?_ ?_
  · intro t l f
    rw [aAv,aAv]
    simp only [dY,Nat.lt_irrefl,decide_false,Bool.false_eq_true,if_false]
    rw [show IntKind.wrap .i64 ((0:Int)+1)=1 from by rw [kN] <;> omega,zX env [y] 1]
    simp [fM hi (by omega)]
  · intro j hj ih t l f
    rw [aAv,aAv env [y]]
    simp only [dY,hj,fD hj,fM hj (by omega),decide_true,if_true,Option.bind_eq_bind,Option.bind_some]
    cases jM ⟨⟨t⟩,l,f⟩ env y.sub[j] with
    | none=>rfl
    | some u=>simp only [Option.bind_some]; exact ih _ _ _
theorem aY0 (env : List aL) (p : List aA) (i : Nat) (hi : i < p.length) (hp : p.length ≤ 1048576) (hy : p[i].sub.length ≤ 1048576) (u : cK) :
    jG env p (i:Nat) u.c.tables u.list u.failed=(iU u env [p[i]])>>=fun u=>jG env p ((i+1:Nat):Int) u.c.tables u.list u.failed:=by
  have hJ:∀ t l f,kY env p (i:Int) p[i] t l f=(kY env [p[i]] 0 p[i] t l f)>>=fun u=>jG env p ((i+1:Nat):Int) u.c.tables u.list u.failed:=fun t l f=>by
    rw [aQ4,aQ4]
    cases iU ⟨⟨t⟩,l,f⟩ env p[i].kids with
    | none=>rfl
    | some u=>exact bVs env p i p[i] hi hp hy 0 (by omega) _ _ _
  rw [aCz,zX,zX env [p[i]]]
  have h0:idx [p[i]] 0=some p[i]:=rfl
  simp only [dY,hi,fD hi,h0,decide_true,if_true,Option.bind_eq_bind,Option.bind_some,List.length_cons,List.length_nil,show decide ((0:Int)<((0+1:Nat):Int))=true from by decide]
  by_cases hk:p[i].kind=2
  · simp only [hk,decide_true,if_true]
    cases kM ⟨⟨u.c.tables⟩,u.list,u.failed⟩ env p[i] with
    | none=>rfl
    | some u=>exact hJ _ _ _
  · simp only [hk,decide_false,Bool.false_eq_true,if_false]
    exact hJ _ _ _
def XS (c:aY) (env:List aL) (y:aA):Prop:=US c (fun u=>iU u env [y]) (fun out=>mU c env y out) (2200000 * (1+bR y)) True
def QS (c:aY) (env:List aL) (q:aJ):Prop:=US c (fun u=>jM u env q) (fun out=>K6 c env q out) (2200000 * (1+eO q)) True
theorem bIj (y:aA):y.sub.length≤bR y:=by have:=zE y; omega
theorem cG1 (c : aY) (env : List aL) (l : List aA) (hz : l.length + fZ l ≤ 1048576) (H : ∀ y ∈ l, XS c env y) :
    US c (fun u=>iU u env l) (fun out=>sN c env l out) (2200000 * (l.length+fZ l)) True:=by
  have h:=US.loop (c:=c) (n:=l.length) (FI:=fun i hi u=>iU u env [l[i]]) (GS:=fun i hi out=>mU c env l[i] out) (b:=fun i hi=>2200000 * (1+bR l[i])) (P:=fun _ _=>True)
    (S:=fun i=>2200000 * ((l.drop i).length+fZ (l.drop i))) (LI:=fun i u=>jG env l (i:Nat) u.c.tables u.list u.failed) (LS:=fun i out ok=>yR l c env out ok (i:Nat)) (KI:=fun u=>some u) (KS:=fun out=>some (out,true)) (Bk:=0) (PK:=True)
    (fun i hi=>H _ (List.getElem_mem hi)) (US.id c)
    (fun i hi out=>by rw [yR]; simp)
    (fun i hi u _ _=>by
      refine aY0 env l i hi (by omega) ?_ u
      have:=bIj l[i]
      have:=mJ (List.getElem_mem hi)
      omega)
    (fun u _=>by rw [zX]; simp)
    (fun i hi out _=>by rw [yR]; simp [hi,fD hi,fM hi (by omega)])
    (fun out=>by rw [yR]; simp) (by simp)
    (fun i hi=>by
      have:=bJh l i hi
      simp only [List.length_drop]
      omega)
  refine (h.congr (fun u _ _=>?_) (fun o _=>?_)).mono (by simp) (by simp)
  · rw [aCz]; rfl
  · rw [sN]; rfl
theorem x_S (c:aY) (env:List aL) (y:aA) (hz:bR y≤1048576) (he:Names env) (HK:∀ k ∈ y.kids,XS c env k) (HQ:∀ q ∈ y.sub,QS c env q):XS c env y:=by
  have hzy:=zE y
  have hsub:=US.loop (c:=c) (n:=y.sub.length) (FI:=fun i hi u=>jM u env y.sub[i]) (GS:=fun i hi out=>K6 c env y.sub[i] out) (b:=fun i hi=>2200000 * (1+eO y.sub[i])) (P:=fun _ _=>True)
    (S:=fun i=>2200000 * ((y.sub.drop i).length+jY (y.sub.drop i))) (LI:=fun i u=>kG env [y] 0 y (i:Nat) u.c.tables (u.list,u.failed)) (LS:=fun i out ok=>wJ env c y out ok (i:Nat)) (KI:=fun u=>some u) (KS:=fun out=>some (out,true)) (Bk:=0) (PK:=True)
    (fun i hi=>HQ _ (List.getElem_mem hi)) (US.id c)
    (fun i hi out=>by rw [wJ]; simp)
    (fun i hi u _ _=>by
      rw [aAv]
      simp only [dY,hi,fD hi,fM hi (by omega),decide_true,if_true,Option.bind_eq_bind,Option.bind_some])
    (fun u _=>by
      rw [aAv,show IntKind.wrap .i64 ((0:Int)+1)=1 from by rw [kN] <;> omega,zX env [y] 1]
      simp)
    (fun i hi out _=>by rw [wJ]; simp [hi,fD hi,fM hi (by omega)])
    (fun out=>by rw [wJ]; simp) (by simp)
    (fun i hi=>by
      have:=cC5 y.sub i hi
      simp only [List.length_drop]
      omega)
  have hkid:=US.loop (c:=c) (n:=y.kids.length) (FI:=fun i hi u=>iU u env [y.kids[i]]) (GS:=fun i hi out=>mU c env y.kids[i] out) (b:=fun i hi=>2200000 * (1+bR y.kids[i])) (P:=fun _ _=>True)
    (S:=fun i=>2200000 * ((y.kids.drop i).length+fZ (y.kids.drop i)+y.sub.length+jY y.sub)) (LI:=fun i u=>(jG env y.kids (i:Nat) u.c.tables u.list u.failed)>>=fun u=>kG env [y] 0 y 0 u.c.tables (u.list,u.failed)) (LS:=fun i out ok=>xB env c y out ok (i:Nat))
    (fun i hi=>HK _ (List.getElem_mem hi)) hsub
    (fun i hi out=>by rw [xB]; simp only [ite_self,Option.bind_eq_bind,Option.bind_some,Bool.false_eq_true,if_false]; rw [wJ]; simp)
    (fun i hi u _ _=>by
      have h1:=bIj y.kids[i]
      have h2:=mJ (List.getElem_mem hi)
      show (jG env y.kids (i:Nat) u.c.tables u.list u.failed>>=_)=_
      rw [aY0 env y.kids i hi (by omega) (by omega) u]
      simp only [Option.bind_eq_bind,Option.bind_assoc])
    (fun u _=>by
      show (jG env y.kids (y.kids.length:Nat) u.c.tables u.list u.failed>>=_)=_
      rw [zX]; simp)
    (fun i hi out _=>by rw [xB]; simp [hi,fD hi,fM hi (by omega)])
    (fun out=>by rw [xB]; simp) (by simp only [List.length_drop,List.drop_zero]; omega)
    (fun i hi=>by
      have:=bJh y.kids i hi
      simp only [List.length_drop]
      omega)
  have hJ:∀ u:cK,kY env [y] 0 y u.c.tables u.list u.failed=(jG env y.kids 0 u.c.tables u.list u.failed)>>=fun u=>kG env [y] 0 y 0 u.c.tables (u.list,u.failed):=fun u=>by
    rw [aQ4,aCz]
  have h0:idx [y] 0=some y:=rfl
  unfold XS
  by_cases hk:y.kind=2
  · have ha : US c (fun u => kM u env y) (fun out => (aB0 env y) >>= fun w => (appG 56 out [w]) >>= fun o => some (o, true)) 1 True :=
      US.adds [aD3 env y] (by simp) (fun u hu hl=>by rw [← hu]; exact cE7 u env y he (by unfold Mx at hl; omega))
        (fun out hl=>by rw [cCi env y he,Option.bind_eq_bind,Option.bind_some,nV (by unfold Mx at hl; simp only [List.length_cons,List.length_nil]; omega)]; rfl)
    have hs:=ha.seq (K:=fun out ok=>if ok=true then xB env c y out true 0 else some (out,false)) (by simpa using hkid) (fun _=>by simp)
    refine (hs.congr (fun u hu _=>?_) (fun o _=>?_)).mono ?_ (by simp)
    · rw [aCz,zX]
      simp only [h0,hk,Option.bind_eq_bind,Option.bind_some,List.length_cons,List.length_nil,decide_true,if_true,show decide ((0:Int)<((0+1:Nat):Int))=true from by decide]
      cases kM u env y with
      | none=>rfl
      | some v=>exact hJ v
    · rw [mU]
      simp only [hk,decide_true,if_true,Option.bind_eq_bind,Option.bind_assoc,Option.bind_some,aBb]
    · omega
  · refine (hkid.congr (fun u hu _=>?_) (fun o _=>?_)).mono ?_ (by simp)
    · rw [aCz,zX]
      simp only [h0,hk,Option.bind_eq_bind,Option.bind_some,List.length_cons,List.length_nil,decide_false,if_true,Bool.false_eq_true,if_false,show decide ((0:Int)<((0+1:Nat):Int))=true from by decide]
      exact hJ u
    · rw [mU]
      simp only [hk,decide_false,Bool.false_eq_true,if_false,aBb]; rfl
    · simp only [List.drop_zero]; omega
theorem aY1:∀ (l:List aV) (k:Nat),(l.take k).length+gX (l.take k)≤l.length+gX l
  | [],k=>by simp
  | x::l,0=>by simp [gX]
  | x::l,k+1=>by
    have:=aY1 l k
    simp only [List.take_succ_cons,gX,List.length_cons]; omega
def aCl (s:aL) (q:List UInt8):List aB:=(stM q s.names 0).map fun k=>⟨(s.names[k.toNat]?.getD default).qual,(s.names[k.toNat]?.getD default).name,1,0,k⟩
theorem bMd (s:aL) (q:List UInt8):(aCl s q).length≤s.names.length:=by
  unfold aCl; rw [List.length_map]; exact aC5 q s.names 0
theorem bB4 (s:aL) (q:List UInt8) (k:Int) (hk:k ∈ stM q s.names 0):idx s.names k=some (s.names[k.toNat]?.getD default):=by
  have:=bJa q s.names 0 k hk
  unfold idx
  rw [if_pos (by omega)]
  have hl:k.toNat<s.names.length:=by omega
  simp [hl]
theorem aMa {α β:Type} {f:α→β}:∀ l:List α,l.flatMap (fun x=>[f x])=l.map f:=aC2
theorem aYb (c : aY) (hc : tF c) (env : List aL) (q : aJ)
    (fL5:(Bool)→((List aL))→(Int)→((List Int))→(aY)→(aJ)→(aL×Int×(List UInt8))→((List aB))→(Int)→Option ((List aB)×Bool))
    (fJ4:((List aL))→(Int)→(aY)→(aJ)→(aL×Int×(List UInt8))→((List aB))→(Bool)→Option ((List aB)×Bool))
    (fL3:((List aL))→(aY)→(aJ)→(aL×Int×(List UInt8))→((List aB))→(Bool)→(Int)→Option ((List aB)×Bool))
    (fL2:((List aL))→(aY)→(aJ)→(aL×Int×(List UInt8))→((List aB))→(Bool)→(Int)→Option ((List aB)×Bool))
    (fJ1:(aY)→(aJ)→(aL×Int×(List UInt8))→((List aB))→(Bool)→((List aL))→Option ((List aB)×Bool))
    (fL0:((List aL))→(aY)→(aJ)→(aL×Int×(List UInt8))→((List aB))→(Bool)→(Int)→Option ((List aB)×Bool))
    (fQ:(aY)→((List aL))→(aJ)→((List aB))→Option ((List aB)×Bool))
    (hfL5:∀ (cO:Bool) (x18:(List aL)) (x20:Int) (y26:(List Int)) (p0:aY) (p2:aJ) (y1:aL×Int×(List UInt8)) (kR:(List aB)) (x22:Int),fL5 cO x18 x20 y26 p0 p2 y1 kR x22=if (decide (x22<(y26.length:Int)))=true then ((idx y26 x22)>>=fun (y28:Int)=>(idx y1.1.names y28)>>=fun (y29:dL)=>(idx y26 x22)>>=fun (y30:Int)=>(appG 56 kR ([(aB.mk y29.qual y29.name 1 0 y30)]:List aB))>>=fun (y31:List aB)=>fL5 cO x18 x20 y26 p0 p2 y1 y31 (IntKind.wrap .i64 (x22+1))) else (fJ4 x18 x20 p0 p2 y1 kR cO))
    (hfJ4:∀ (x18:(List aL)) (x20:Int) (p0:aY) (p2:aJ) (y1:aL×Int×(List UInt8)) (iB:(List aB)) (iE:Bool),fJ4 x18 x20 p0 p2 y1 iB iE=fL3 x18 p0 p2 y1 iB iE (IntKind.wrap .i64 (x20+1)))
    (hfL3:∀ (x18:(List aL)) (p0:aY) (p2:aJ) (y1:aL×Int×(List UInt8)) (fV:(List aB)) (cO:Bool) (x20:Int),fL3 x18 p0 p2 y1 fV cO x20=(some (if (decide (x20<(p2.items.length:Int)))=true then cO else false))>>=fun (y19:Bool)=>if y19=true then ((idx p2.items x20)>>=fun (y20:bA)=>if (!y20.star)=true then ((idx p2.items x20)>>=fun (y21:bA)=>(mU p0 x18 y21.expr fV)>>=fun (y22:(List aB)×Bool)=>fJ4 x18 x20 p0 p2 y1 y22.1 y22.2) else ((idx p2.items x20)>>=fun (y25:bA)=>(R7 y1.1 y25.qual)>>=fun (y26:(List Int))=>fL5 cO x18 x20 y26 p0 p2 y1 fV 0)) else (some (fV,cO)))
    (hfL2:∀ (x18:(List aL)) (p0:aY) (p2:aJ) (y1:aL×Int×(List UInt8)) (gM:(List aB)) (gN:Bool) (x19:Int),fL2 x18 p0 p2 y1 gM gN x19=(some (if (decide (x19<(p2.order.length:Int)))=true then gN else false))>>=fun (y14:Bool)=>if y14=true then ((idx p2.order x19)>>=fun (y15:bC)=>(mU p0 x18 y15.expr gM)>>=fun (y16:(List aB)×Bool)=>fL2 x18 p0 p2 y1 y16.1 y16.2 (IntKind.wrap .i64 (x19+1))) else (fL3 x18 p0 p2 y1 gM gN 0))
    (hfJ1:∀ (p0:aY) (p2:aJ) (y1:aL×Int×(List UInt8)) (jF:(List aB)) (jB:Bool) (x18:(List aL)),fJ1 p0 p2 y1 jF jB x18=fL2 x18 p0 p2 y1 jF jB 0)
    (hfL0:∀ (p1:(List aL)) (p0:aY) (p2:aJ) (y1:aL×Int×(List UInt8)) (x3:(List aB)) (x13:Bool) (x14:Int),fL0 p1 p0 p2 y1 x3 x13 x14=(some (if (decide (x14<(p2.from_.length:Int)))=true then x13 else false))>>=fun (y2:Bool)=>if y2=true then ((mV p2.from_ 0 (IntKind.wrap .i64 (x14+1)))>>=fun (y3:(List aV))=>(vL p0 y3)>>=fun (y4:aL×Int×(List UInt8))=>(uR y4.1 p1)>>=fun (y5:(List aL))=>(idx p2.from_ x14)>>=fun (y6:aV)=>(sN p0 y5 y6.on_ x3)>>=fun (y7:(List aB)×Bool)=>fL0 p1 p0 p2 y1 y7.1 y7.2 (IntKind.wrap .i64 (x14+1))) else ((uR y1.1 p1)>>=fun (y8:(List aL))=>if x13=true then ((sN p0 y8 p2.where_ x3)>>=fun (y9:(List aB)×Bool)=>fJ1 p0 p2 y1 y9.1 y9.2 y8) else (fJ1 p0 p2 y1 x3 x13 y8)))
    (hfQ:∀ (p0:aY) (p1:(List aL)) (p2:aJ) (p3:(List aB)),fQ p0 p1 p2 p3=(vL p0 p2.from_)>>=fun (y1:aL×Int×(List UInt8))=>if (!decide (y1.2.1=0))=true then (some (p3,false)) else (fL0 p1 p0 p2 y1 p3 true 0))
    (hz:eO q≤1048576) (he:Names env) (hl:env.length+eO q+1≤2097152)
    (HX:∀ env' y,Names env'→bR y<eO q→env'.length+bR y+1≤2097152→XS c env' y) :
    US c (fun u=>jM u env q) (fun out=>fQ c env q out) (2200000 * (1+eO q)) True:=by
  have hzq:=zQ q
  have hscope:∀ k,(iX c (q.from_.take k) [] []).1.names.length≤2097152:=fun k=>by
    have h1:=aZj c hc (q.from_.take k) [] []
    have h2:=aY1 q.from_ k
    simp only [List.length_nil] at h1
    omega
  have hnames:∀ k,Names ((iX c (q.from_.take k) [] []).1::env):=fun k=>⟨by simp only [List.length_cons]; omega,fun s hs=>by
    rcases List.mem_cons.1 hs with rfl | hs
    · have:=hscope k; omega
    · exact he.2 s hs⟩
  have hbef:∀ s:aL,yQ s env=some (s::env)∧uR s env=some (s::env):=fun s=>by
    have:appG 24 [s] env=some (s::env):=by rw [nV (by simp only [List.length_cons,List.length_nil]; omega)]; rfl
    constructor
    · unfold yQ; rw [this]; rfl
    · unfold uR; rw [this]; rfl
  have hfull:q.from_.take q.from_.length=q.from_:=List.take_length
  have hS:=hscope q.from_.length
  have hN:=hnames q.from_.length
  rw [hfull] at hS hN
  generalize hSC:iX c q.from_ [] []=SC at hS hN
  have hX:∀ y,bR y<eO q→XS c (SC.1::env) y:=fun y hy=>HX _ y hN hy (by simp only [List.length_cons]; omega)
  have f3:∀ i out,fL3 (SC.1::env) c q SC out false i=some (out,false):=fun i out=>by rw [hfL3]; simp
  have f2:∀ i out,fL2 (SC.1::env) c q SC out false i=some (out,false):=fun i out=>by rw [hfL2]; simp [f3]
  have hitems:=US.loop (c:=c) (n:=q.items.length) (FI:=fun i hi u=>if q.items[i].star=true then some ⟨u.c,u.list++aCl SC.1 q.items[i].qual,u.failed⟩ else iU u (SC.1::env) [q.items[i].expr])
    (GS:=fun i hi out=>if q.items[i].star=true then some (out++aCl SC.1 q.items[i].qual,true) else mU c (SC.1::env) q.items[i].expr out) (b:=fun i hi=>2200000 * (1+fT q.items[i])) (P:=fun _ _=>True)
    (S:=fun i=>2200000 * ((q.items.drop i).length+jE (q.items.drop i))) (LI:=fun i u=>mR (SC.1::env) q (i:Nat) u.c.tables u.list u.failed) (LS:=fun i out ok=>fL3 (SC.1::env) c q SC out ok (i:Nat)) (KI:=fun u=>some u) (KS:=fun out=>some (out,true)) (Bk:=0) (PK:=True)
    (fun i hi=>by
      have hm:=D7 (List.getElem_mem hi)
      by_cases hs:q.items[i].star=true
      · simp only [hs,if_true]
        exact US.adds (aCl SC.1 q.items[i].qual) (by have:=bMd SC.1 q.items[i].qual; omega) (fun u hu _=>by rw [hu]) (fun out _=>rfl)
      · simp only [hs,Bool.false_eq_true,if_false]
        have hx:bR q.items[i].expr≤fT q.items[i]:=by obtain ⟨a,b,d,e⟩:=q.items[i]; simp only [fT]; omega
        exact (hX q.items[i].expr (by omega)).mono (by omega) Iff.rfl)
    (US.id c) (fun i hi out=>f3 _ out)
    (fun i hi u _ hb=>by
      rw [bHv]
      simp only [dY,hi,fD hi,decide_true,if_true,Option.bind_eq_bind,Option.bind_some]
      by_cases hs:q.items[i].star=true
      · have h0:idx (SC.1::env) 0=some SC.1:=rfl
        simp only [hs,Bool.not_true,Bool.false_eq_true,if_false,if_true,h0,Option.bind_some,bTf _ _ (Nat.le_trans hS (by omega))]
        have hg:=gather (p:=stM q.items[i].qual SC.1.names 0) (f:=fun k:Int=>[(⟨(SC.1.names[k.toNat]?.getD default).qual,(SC.1.names[k.toNat]?.getD default).name,1,0,k⟩:aB)]) (G:=fun k acc=>(idx (SC.1::env) 0)>>=fun s=>(idx s.names k)>>=fun n=>appG 56 acc [(⟨n.qual,n.name,1,0,k⟩:aB)])
          (L:=fun acc j=>mF (SC.1::env) q (i:Int) (stM q.items[i].qual SC.1.names 0) u.c.tables u.failed (j,acc)) (K:=fun acc=>mM (SC.1::env) q (i:Int) u.c.tables acc u.failed) (c:=2513169434916)
          (by have:=aC5 q.items[i].qual SC.1.names 0; omega)
          (fun k hk acc ha=>by rw [h0,Option.bind_eq_bind,Option.bind_some,bB4 _ _ _ hk,Option.bind_eq_bind,Option.bind_some,nV (by simp only [List.length_cons,List.length_nil] at ha ⊢; omega)])
          (fun j acc=>by
            rw [bY3]
            simp only [Option.bind_eq_bind,Option.bind_assoc])
          u.list (by
            rw [aMa,List.length_map]
            have:=aC5 q.items[i].qual SC.1.names 0
            unfold Mx at hb
            omega)
        rw [hg,aMa,bC4,fM hi (Nat.le_trans (by omega:q.items.length≤1048576) (by omega))]; rfl
      · simp only [hs,Bool.not_false,Bool.false_eq_true,if_false,if_true,bC4,fM hi (Nat.le_trans (by omega:q.items.length≤1048576) (by omega))])
    (fun u _=>by rw [bHv]; simp)
    (fun i hi out hb=>by
      rw [hfL3]
      simp only [dY,hi,fD hi,decide_true,if_true,Option.bind_eq_bind,Option.bind_some]
      by_cases hs:q.items[i].star=true
      · simp only [hs,Bool.not_true,Bool.false_eq_true,if_false,if_true,Option.bind_some,cJi _ _ (Nat.le_trans hS (by omega))]
        have hg:=gather (p:=stM q.items[i].qual SC.1.names 0) (f:=fun k:Int=>[(⟨(SC.1.names[k.toNat]?.getD default).qual,(SC.1.names[k.toNat]?.getD default).name,1,0,k⟩:aB)]) (G:=fun k acc=>(idx SC.1.names k)>>=fun n=>appG 56 acc [(⟨n.qual,n.name,1,0,k⟩:aB)])
          (L:=fun acc j=>fL5 true (SC.1::env) (i:Int) (stM q.items[i].qual SC.1.names 0) c q SC acc j) (K:=fun acc=>fJ4 (SC.1::env) (i:Int) c q SC acc true) (c:=2513169434916)
          (by have:=aC5 q.items[i].qual SC.1.names 0; omega)
          (fun k hk acc ha=>by rw [bB4 _ _ _ hk,Option.bind_eq_bind,Option.bind_some,nV (by simp only [List.length_cons,List.length_nil] at ha ⊢; omega)])
          (fun j acc=>by
            rw [hfL5]
            by_cases hj:j<(stM q.items[i].qual SC.1.names 0).length
            · simp only [dY,hj,fD hj,decide_true,if_true,Option.bind_eq_bind,Option.bind_some,Option.bind_assoc]
            · simp only [dY,hj,decide_false,Bool.false_eq_true,if_false])
          out (by
            rw [aMa,List.length_map]
            have:=aC5 q.items[i].qual SC.1.names 0
            unfold Mx at hb
            omega)
        rw [hg,aMa,hfJ4,fM hi (Nat.le_trans (by omega:q.items.length≤1048576) (by omega))]; rfl
      · simp only [hs,Bool.not_false,Bool.false_eq_true,if_false,if_true,hfJ4,fM hi (Nat.le_trans (by omega:q.items.length≤1048576) (by omega))])
    (fun out=>by rw [hfL3]; simp) (by simp)
    (fun i hi=>by
      have:=cJ9 q.items i hi
      simp only [List.length_drop]
      omega)
  have horder:=US.loop (c:=c) (n:=q.order.length) (FI:=fun i hi u=>iU u (SC.1::env) [q.order[i].expr])
    (GS:=fun i hi out=>mU c (SC.1::env) q.order[i].expr out) (b:=fun i hi=>2200000 * (1+gU q.order[i])) (P:=fun _ _=>True)
    (S:=fun i=>2200000 * ((q.order.drop i).length+jH (q.order.drop i)+q.items.length+jE q.items)) (LI:=fun i u=>mH (SC.1::env) q (i:Nat) u.c.tables u.list u.failed) (LS:=fun i out ok=>fL2 (SC.1::env) c q SC out ok (i:Nat))
    (fun i hi=>by
      have hm:=xX (List.getElem_mem hi)
      have hx:bR q.order[i].expr≤gU q.order[i]:=by obtain ⟨a,b⟩:=q.order[i]; simp only [gU]; omega
      exact (hX q.order[i].expr (by omega)).mono (by omega) Iff.rfl)
    hitems (fun i hi out=>f2 _ out)
    (fun i hi u _ _=>by
      rw [bIx]
      simp only [dY,hi,fD hi,decide_true,if_true,Option.bind_eq_bind,Option.bind_some,fM hi (Nat.le_trans (by omega:q.order.length≤1048576) (by omega))])
    (fun u _=>by rw [bIx]; simp)
    (fun i hi out _=>by
      rw [hfL2]
      simp only [dY,hi,fD hi,decide_true,if_true,Option.bind_eq_bind,Option.bind_some,fM hi (Nat.le_trans (by omega:q.order.length≤1048576) (by omega))])
    (fun out=>by rw [hfL2]; simp) (by simp only [List.length_drop,List.drop_zero]; omega)
    (fun i hi=>by
      have:=bUj q.order i hi
      simp only [List.length_drop]
      omega)
  have hlist:∀ env' (l:List aA),Names env'→env'.length≤env.length+1→l.length+fZ l≤eO q→US c (fun u=>iU u env' l) (fun out=>sN c env' l out) (2200000 * (l.length+fZ l)) True:=fun env' l h1 h2 h3 =>
    cG1 c env' l (by omega) fun y hy=>HX env' y h1 (by have:=mJ hy; omega) (by have:=mJ hy; omega)
  have hwhere:=(hlist (SC.1::env) q.where_ hN (by simp) (by omega)).seq (K:=fun out ok=>fL2 (SC.1::env) c q SC out ok 0) horder (fun out=>f2 _ out)
  have hfrom:=US.loop (c:=c) (n:=q.from_.length) (FI:=fun i hi u=>iU ⟨u.c,u.list,u.failed||!decide ((iX c (q.from_.take (i+1)) [] []).2.1=0)⟩ ((iX c (q.from_.take (i+1)) [] []).1::env) q.from_[i].on_)
    (GS:=fun i hi out=>sN c ((iX c (q.from_.take (i+1)) [] []).1::env) q.from_[i].on_ out) (b:=fun i hi=>2200000 * (q.from_[i].on_.length+fZ q.from_[i].on_)) (P:=fun i hi=>True∧(!decide ((iX c (q.from_.take (i+1)) [] []).2.1=0))=false)
    (S:=fun i=>2200000 * (gX (q.from_.drop i)+(q.where_.length+fZ q.where_)+(q.order.length+jH q.order+q.items.length+jE q.items))) (LI:=fun i u=>lU env q (i:Nat) u.c.tables u.list u.failed) (LS:=fun i out ok=>fL0 env c q SC out ok (i:Nat))
    (fun i hi=>by
      have hm:=Z8 (List.getElem_mem hi)
      have hx:q.from_[i].on_.length+fZ q.from_[i].on_≤gD q.from_[i]:=by obtain ⟨a,b,d⟩:=q.from_[i]; simp only [gD]; omega
      exact (hlist _ q.from_[i].on_ (hnames (i+1)) (by simp) (by omega)).flag _)
    (hwhere.flag (!decide (SC.2.1=0)))
    (fun i hi out=>by rw [hfL0]; simp [(hbef _).2,hfJ1,f2])
    (fun i hi u hu _=>by
      have hw:=fM hi (Nat.le_trans (by omega:q.from_.length≤1048576) (by omega))
      rw [aWp]
      have hsub:mV q.from_ 0 ((i+1:Nat):Int)=some (q.from_.take (i+1)):=by unfold mV; rw [if_pos (by omega)]; simp
      simp only [dY,hi,fD hi,decide_true,if_true,Option.bind_eq_bind,Option.bind_some,hw,hsub,bCh,bEd u.c (hu ▸ hc) (q.from_.take (i+1)) (by simp only [List.length_take]; omega),(hbef _).1]
      have hb:(if u.failed=true then true else !decide ((iX c (q.from_.take (i+1)) [] []).2.1=0))=(u.failed||!decide ((iX c (q.from_.take (i+1)) [] []).2.1=0)):=by cases u.failed <;> rfl
      rw [show iX u.c (q.from_.take (i+1)) [] []=iX c (q.from_.take (i+1)) [] [] from by rw [hu],hb])
    (fun u hu=>by
      rw [aWp]
      have hb:(if u.failed=true then true else !decide (SC.2.1=0))=(u.failed||!decide (SC.2.1=0)):=by cases u.failed <;> rfl
      simp only [dY,Nat.lt_irrefl,decide_false,if_false,Bool.false_eq_true,Option.bind_eq_bind,Option.bind_some,bCh,bEd u.c (hu ▸ hc) q.from_ (by omega),(hbef _).1]
      rw [show iX u.c q.from_ [] []=SC from by rw [hu,hSC],hb]
      rfl)
    (fun i hi out _=>by
      have hw:=fM hi (Nat.le_trans (by omega:q.from_.length≤1048576) (by omega))
      have hsub:mV q.from_ 0 ((i+1:Nat):Int)=some (q.from_.take (i+1)):=by unfold mV; rw [if_pos (by omega)]; simp
      rw [hfL0]
      simp only [dY,hi,fD hi,decide_true,if_true,Option.bind_eq_bind,Option.bind_some,hw,hsub,bF3 c hc (q.from_.take (i+1)) (by simp only [List.length_take]; omega),(hbef _).2])
    (fun out=>by
      rw [hfL0]
      simp only [dY,Nat.lt_irrefl,decide_false,if_false,Bool.false_eq_true,Option.bind_eq_bind,Option.bind_some,(hbef _).2,if_true,hfJ1])
    (by simp only [List.length_drop,List.drop_zero]; omega)
    (fun i hi=>by
      have:=cAo q.from_ i hi
      have hx:q.from_[i].on_.length+fZ q.from_[i].on_≤gD q.from_[i]:=by obtain ⟨a,b,d⟩:=q.from_[i]; simp only [gD]; omega
      omega)
  have hq:∀ u:cK,jM u env q=lU env q 0 u.c.tables u.list u.failed:=fun u=>by rw [bYt]
  have hq2:∀ out,fQ c env q out=if SC.2.1=0 then fL0 env c q SC out true 0 else some (out,false):=fun out=>by
    rw [hfQ,bF3 c hc q.from_ (by omega),hSC]
    by_cases h0:SC.2.1=0 <;> simp [h0]
  have hB:2200000 * (gX (q.from_.drop 0)+(q.where_.length+fZ q.where_)+(q.order.length+jH q.order+q.items.length+jE q.items))≤2200000 * (1+eO q):=by
    rw [List.drop_zero]; omega
  by_cases h0:SC.2.1=0
  · refine (hfrom.congr (fun u _ _=>?_) (fun o _=>?_)).mono hB ?_
    · rw [hq]; rfl
    · rw [hq2,if_pos h0]; rfl
    · have hp:∀ i,(iX c (q.from_.take (i+1)) [] []).2.1=0:=fun i=>bDh c _ (q.from_.drop (i+1)) [] [] (by rw [List.take_append_drop,hSC]; exact h0)
      simp [h0,hp]
  · obtain ⟨L,L',f,f',h1,h2,h3,h4,h5,h6⟩:=hfrom
    have hf':f'=true:=by
      cases f' with
      | true=>rfl
      | false=>have:=(h4.1 rfl).2.2.2; simp [h0] at this
    subst hf'
    refine ⟨L,[],true,true,by omega,by simp,by simp,by simp,fun u hu hl=>?_,fun out hl=>?_⟩
    · show jM u env q=_
      rw [hq]; exact h5 u hu (by omega)
    · show fQ c env q out=_
      rw [hq2,if_neg h0]; simp
theorem bIa (c : aY) (hc : tF c) : ∀ n : Nat, n ≤ 1048577 →
    (∀ env y,bR y<n→Names env→env.length+bR y+1≤2097152→XS c env y)∧(∀ env q,eO q<n→Names env→env.length+eO q+1≤2097152→QS c env q)
  | 0,_=>⟨fun _ _ h=>by omega,fun _ _ h=>by omega⟩
  | n+1,hn=>by
    obtain ⟨ihX,ihQ⟩:=bIa c hc n (by omega)
    refine ⟨fun env y hy he hl=>?_,fun env q hq he hl=>?_⟩
    · have hzy:=zE y
      exact x_S c env y (by omega) he (fun k hk=>ihX env k (by have:=mJ hk; omega) he (by have:=mJ hk; omega)) (fun q hq=>ihQ env q (by have:=uJ hq; omega) he (by have:=uJ hq; omega))
    · exact aYb c hc env q (fun a b d e g h i j k => H7 a b d e g h i (j, k)) aAt aAf W9 X3 aAp K6
        (fun _ _ _ _ _ _ _ _ _=>by rw [H7]) (by intros; rw [aAt]) (by intros; rw [aAf]) (by intros; rw [W9]) (by intros; rw [X3]) (by intros; rw [aAp]) (by intros; rw [K6])
        (by omega) he hl (fun env' y he' hy hl'=>ihX env' y (by omega) he' hl')
theorem cDz (c:aY) (hc:tF c) (q:aJ) (hz:eO q≤1048576):US c (fun u=>jM u [] q) (fun out=>P5 c [] q out) (2200000 * (1+eO q)) True :=
  aYb c hc [] q E9 aCb aBi P8 aC9 P6 P5
    (by intros; rw [E9]) (by intros; rw [aCb]) (by intros; rw [aBi]) (by intros; rw [P8]) (by intros; rw [aC9]) (by intros; rw [P6]) (by intros; rw [P5])
    hz ⟨by simp,fun s hs=>by simp at hs⟩ (by simp only [List.length_nil]; omega)
    (fun env' y he' hy hl'=>(bIa c hc 1048577 (Nat.le_refl _)).1 env' y (by omega) he' hl')
theorem bVw {α:Type} {z:α→Nat} {l:List α} {x:α} (h:x ∈ l):z x+l.length≤zL z l:=by
  have:=aBf (z:=z) h
  unfold zL; omega
theorem cHd (c:aY) (q:aJ) (hs:aF0 c) (hz:eO q≤1048576):∃ r,aBm c q=some r∧aEh c q=some r∧r.1.length≤2500000000000:=by
  obtain ⟨a,a1,a2⟩:=cNr c hs
  obtain ⟨b,b1,b2⟩:=cBw c hs
  obtain ⟨d,d1,d2⟩:=cHq q hz
  have hab:a=b:=by rw [Bool.eq_iff_iff,a2,b2]
  subst hab
  unfold aBm aEh
  simp only [a1,b1,d1,d2,Option.bind_eq_bind,Option.bind_some]
  cases a with
  | false=>exact ⟨([],false),by simp,by simp,by simp⟩
  | true =>
    have hc:=a2.1 rfl
    cases d with
    | false=>exact ⟨([],false),by simp,by simp,by simp⟩
    | true =>
      obtain ⟨L,L',f,f',h1,h2,h3,h4,h5,h6⟩:=cDz c hc q hz
      have e5':jM ⟨c,[],false⟩ [] q=_:=h5 ⟨c,[],false⟩ rfl (by unfold Mx; simp only [List.length_nil]; omega)
      obtain ⟨⟨ta,fa,la⟩,e5,p5⟩:=Option.map_eq_some_iff.1 e5'
      have hla:la=L:=congrArg cK.list p5
      have hfa:fa=(false||f'):=congrArg cK.failed p5
      dsimp only at e5
      have e6:P5 c [] q []=_:=h6 [] (by unfold Mx; simp only [List.length_nil]; omega)
      cases f with
      | true =>
        have hf':f'=true:=by
          cases f' with
          | true=>rfl
          | false=>have:=(h4.1 rfl).1; simp at this
        subst hf'
        exact ⟨([],false),by simp [e5,hfa,hla],by simp [e6],by simp⟩
      | false =>
        have hf':f'=false:=h4.2 ⟨rfl,trivial⟩
        subst hf'
        obtain rfl:=h3 rfl
        exact ⟨(L',true),by simp [e5,hfa,hla],by simp [e6],by show L'.length≤_; omega⟩
theorem cAe (c:aY) (hs:aF0 c):aBr c=some c:=by
  have hT:aFg c.tables=some c.tables:=R6 (W:=aD5) (by':=40) (L:=fun i b=>G6 c.tables i b) hs.1 (by omega) (by rw [aFg]) (fun i b=>by rw [G6]) fun y hy=>by
    have hC:aDw y.cols=some y.cols:=R6 (W:=wM) (by':=24) (L:=fun i b=>Q8 y.cols i b) (hs.2 y hy) (by omega) (by rw [aDw]) (fun i b=>by rw [Q8]) fun z _=>by rw [wM]
    rw [aD5,hC]; rfl
  rw [aBr,hT]; rfl
theorem bPi (ts:List aP):ts.length+(ts.map fun t=>t.cols.length).sum≤zL jJ ts:=by
  induction ts with
  | nil=>simp [zL]
  | cons t ts ih =>
    have:t.cols.length≤jJ t:=by obtain ⟨n,cs⟩:=t; simp only [jJ]; unfold zL; omega
    simp only [List.length_cons,List.map_cons,List.sum_cons]
    unfold zL at *
    simp only [List.length_cons,List.map_cons,List.sum_cons]
    omega
theorem cLi (c:aY) (oc:okGCatalog c) (q:aJ) (oq:okGQuery q):aEe c q=some true:=by
  unfold aEe
  rw [cBb c oc 1048576 (by omega) (by omega)]
  simp only [Option.bind_eq_bind,Option.bind_some]
  by_cases hz:(rO c:Int)≤1048576
  case neg=>rw [if_neg hz]; simp
  rw [if_pos hz,if_neg (by simp; omega)]
  rw [bDp q oq _ (by omega) (by omega)]
  simp only [Option.bind_some]
  by_cases hz2:(eO q:Int)≤1048576 - (rO c:Int)
  case neg=>rw [if_neg hz2]; simp
  have hq:eO q≤1048576:=by omega
  have hc:aF0 c:=by
    obtain ⟨ts⟩:=c
    simp only [rO] at hz
    refine ⟨by dsimp only; unfold zL at hz; omega,fun t ht=>?_⟩
    have:=bVw (z:=jJ) ht
    obtain ⟨n,cs⟩:=t
    simp only [jJ] at this
    unfold zL at *; dsimp only; omega
  have hcs:c.tables.length+(c.tables.map fun t=>t.cols.length).sum≤1048576:=by
    have:=bPi c.tables
    have:rO c=zL jJ c.tables:=by obtain ⟨ts⟩:=c; simp only [rO]
    omega
  obtain ⟨⟨l,ok⟩,u1,u2,hl⟩:=cHd c q hc hq
  have hl:l.length≤2500000000000:=hl
  obtain ⟨tl,kt,t1,t2,t3⟩:=bOb c.tables hc.1 hc.2 1 (by omega) (by omega)
  have hQ:=zQ q
  have hE:=wG q.where_
  obtain ⟨mE,mQ⟩:=bW7 1048576
  have hI:MI q.items:=bF9 (by omega) (fun i hi=>mE _ (by have:=D7 hi; have:=zE i.expr; have:bR i.expr≤fT i:=(by cases i; simp only [fT]; omega); omega) (by omega)) fun i hi=>mQ _ (by have:=D7 hi; have:=zE i.expr; have:bR i.expr≤fT i:=(by cases i; simp only [fT]; omega); omega) (by omega)
  have hS:MS q.from_:=aZ1 (by omega) fun i hi=>mE _ (by have:=Z8 hi; have:i.on_.length+fZ i.on_≤gD i:=(by cases i; simp only [gD]; omega); omega) (by omega)
  have hO:MO q.order:=bId (by omega) (fun i hi=>mE _ (by have:=xX hi; have:=zE i.expr; have:bR i.expr≤gU i:=(by cases i; simp only [gU]; omega); omega) (by omega)) fun i hi=>mQ _ (by have:=xX hi; have:=zE i.expr; have:bR i.expr≤gU i:=(by cases i; simp only [gU]; omega); omega) (by omega)
  obtain ⟨l1,k1,a1,_,a2,a3⟩:=hI kt (by omega) (by omega)
  obtain ⟨l2,k2,b1,_,b2,b3⟩:=hS k1 (by omega) (by omega)
  obtain ⟨l3,k3,c1,_,c2,c3⟩:=mE q.where_ (by omega) (by omega) k2 (by omega) (by omega)
  obtain ⟨l4,k4,d1,_,d2,d3⟩:=hO k3 (by omega) (by omega)
  have mq:aDq q kt=some (k4,l1,l2,l3,l4):=by rw [aDq,a1]; simp only [Option.bind_eq_bind,Option.bind_some,b1,c1,d1]
  have mc:aE3 c 1=some (kt,tl):=by rw [aE3,t1]; rfl
  obtain ⟨ul,ku,m1,m2,m3⟩:=bKm l hl
  have n1:¬ k4<0:=by omega
  have n2:¬ ku<0:=by omega
  have n3:0≤k4:=by omega
  have n4:0≤ku:=by omega
  have qX:=(bOr 1048576).2.2 q hq (by omega)
  rw [if_pos hz2,if_neg (by simp; omega),bC7 c (by omega),aRt q (by omega)]
  simp [u1,u2,cAe c hc,qX,bSw l hl,bC7 c (by omega),aRt q (by omega),bNq c (by omega),bIg q (by omega),mc,mq,m1,m2,n1,n2,n3,n4]
end Go.Ab
