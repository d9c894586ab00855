/- What the functions compute,in plain Lean. -/
import Derived.Test.YthlahiakloldbaaFExactGetPlan
namespace Go.Ab
open Go
theorem iI {n:Int} (h1 : -9223372036854775808≤n) (h2:n≤9223372036854775807):IntKind.wrap .i64 n=n:=by rw [IntKind.wrap_i64]; omega
theorem aTn {i n:Nat} (h:i<n) (hn:n≤4611686018427387904):IntKind.wrap .i64 ((i:Int)+1)=((i+1:Nat):Int):=by rw [iI] <;> omega
theorem kR (i n:Nat):decide ((i:Int)<(n:Int))=decide (i<n):=by simp
theorem kG {α:Type} (l:List α) (i:Nat):idx l (i:Int)=l[i]?:=by simp [idx]
theorem aO8 {α:Type} {l:List α} {i:Nat} (h:i<l.length):idx l (i:Int)=some l[i]:=by rw [kG]; simp [h]
theorem aSb {M:Nat→Prop} {n:Nat} (h0:M n) (h:∀ i,i<n→M (i+1)→M i):∀ i,i≤n→M i:=by
  have:∀ k i,i+k=n→M i:=by
    intro k
    induction k with
    | zero => intro i hi; have : i = n := by omega
              subst this; exact h0
    | succ k ih=>intro i hi; exact h i (by omega) (ih (i+1) (by omega))
  exact fun i hi=>this (n - i) i (by omega)
def zL {α:Type} (z:α→Nat) (l:List α):Nat:=l.length+(l.map z).sum
def z0 {α:Type} (_:α):Nat:=0
theorem O3 {α:Type} (z:α→Nat) (x:α) (l:List α):((x::l).map z).sum=z x+(l.map z).sum:=by simp
theorem pK {α : Type} {p : List α} {E : α → α → Option Bool} {L : Int → Option Bool} {S : List α → List α → Option Bool} (hp : p.length ≤ 1048576)
    (hS:S p p=if (!decide ((p.length:Int)=(p.length:Int)))=true then (some false) else L 0)
    (hL:∀ i:Nat,L (i:Int)=if (decide ((i:Int)<(p.length:Int)))=true then ((idx p (i:Int))>>=fun y1=>(idx p (i:Int))>>=fun y2=>(E y1 y2)>>=fun y3=>if (!y3)=true then (some false) else L (IntKind.wrap .i64 ((i:Int)+1))) else some true)
    (H:∀ y ∈ p,E y y=some true):S p p=some true:=by
  have key:∀ i,i≤p.length→L (i:Nat)=some true:=by
    refine aSb ?_ ?_
    · rw [hL]; simp
    · intro i hi ih
      rw [hL]
      simp only [kR,aO8 hi,aTn hi (by omega),H _ (List.getElem_mem hi),Option.bind_eq_bind,Option.bind_some,ih]
      simp
  rw [hS]
  have:=key 0 (by omega)
  simpa using this
theorem aKl {α:Type} {z:α→Nat}:∀ {p:List α} {y:α},y ∈ p→z y≤(p.map z).sum
  | x::p,y,h=>by
    rw [O3]
    rcases List.mem_cons.1 h with rfl | h
    · omega
    · have:=aKl (z:=z) h; omega
theorem aW9 (p:(List Int)) (hz:(zL z0) p≤1048576):wT p p=some true:=pK (E:=fun a b=>some (decide (a=b))) (by unfold zL at hz; omega) (by rw [wT]) (fun i=>by rw [xN]; rfl) (fun y hy=>by simp)
def zQ:eD→Nat
  | ⟨a0,a1,a2⟩=>a2.length
theorem aNq:∀ x:eD,zQ x≤1048576→yE x x=some true
  | ⟨a0,a1,a2⟩,hz=>by
    simp only [zQ] at hz
    rw [yE]
    simp
theorem aT7 (p:(List (List UInt8))) (hz:(zL List.length) p≤1048576):yB p p=some true:=pK (E:=fun a b=>some (decide (a=b))) (by unfold zL at hz; omega) (by rw [yB]) (fun i=>by rw [wP]; rfl) (fun y hy=>by simp)
mutual
def iA:bC→Nat
  | ⟨a0,a1⟩=>dX a0
def gH:aU→Nat
  | ⟨a0,a1,a2,a3,a4,a5,a6,a7⟩=>(zL z0) a0+(a1.length+qH a1)+(a2.length+mJ a2)+(a3.length+qB a3)+(a4.length+mJ a4)+(zL List.length) a5
def dX:aB→Nat
  | ⟨a0,a1,a2,a3,a4,a5,a6,a7⟩=>zQ a3+(a6.length+mJ a6)+(a7.length+uA a7)
def uA:List aU→Nat
  | []=>0
  | x::l=>gH x+uA l
def mJ:List aB→Nat
  | []=>0
  | x::l=>dX x+mJ l
def qB:List bC→Nat
  | []=>0
  | x::l=>iA x+qB l
def qH:List (List aB)→Nat
  | []=>0
  | x::l=>(x.length+mJ x)+qH l
end
theorem aDn:∀ l:List aU,uA l=(l.map gH).sum
  | []=>by simp [uA]
  | x::l=>by rw [O3,← aDn l]; simp only [uA]
theorem wJ:∀ l:List aB,mJ l=(l.map dX).sum
  | []=>by simp [mJ]
  | x::l=>by rw [O3,← wJ l]; simp only [mJ]
theorem aDx:∀ l:List bC,qB l=(l.map iA).sum
  | []=>by simp [qB]
  | x::l=>by rw [O3,← aDx l]; simp only [qB]
theorem aD3:∀ l:List (List aB),qH l=(l.map (zL dX)).sum
  | []=>by simp [qH]
  | x::l=>by rw [O3,← aD3 l]; simp only [qH,zL,wJ]
mutual
theorem aV6:∀ x:bC,iA x≤1048576→qK x x=some true
  | ⟨a0,a1⟩,hz=>by
    simp only [iA] at hz
    have e0:lQ a0 a0=some true:=aKm a0 (by omega)
    rw [qK]
    simp [e0]
theorem aLu:∀ x:aU,gH x≤1048576→nK x x=some true
  | ⟨a0,a1,a2,a3,a4,a5,a6,a7⟩,hz=>by
    simp only [gH] at hz
    have e0:wT a0 a0=some true:=aW9 a0 (by omega)
    have e1:zY a1 a1=some true:=pK (E:=jO) (by omega) (by rw [zY]) (fun i=>by rw [M3]) (aJm a1 (by omega))
    have e2:jO a2 a2=some true:=pK (E:=lQ) (by omega) (by rw [jO]) (fun i=>by rw [qE]) (M9 a2 (by omega))
    have e3:I7 a3 a3=some true:=pK (E:=qK) (by omega) (by rw [I7]) (fun i=>by rw [J2]) (aIq a3 (by omega))
    have e4:jO a4 a4=some true:=pK (E:=lQ) (by omega) (by rw [jO]) (fun i=>by rw [qE]) (M9 a4 (by omega))
    have e5:yB a5 a5=some true:=aT7 a5 (by omega)
    rw [nK]
    simp [e0,e1,e2,e3,e4,e5]
theorem aKm:∀ x:aB,dX x≤1048576→lQ x x=some true
  | ⟨a0,a1,a2,a3,a4,a5,a6,a7⟩,hz=>by
    simp only [dX] at hz
    have e3:yE a3 a3=some true:=aNq a3 (by omega)
    have e6:jO a6 a6=some true:=pK (E:=lQ) (by omega) (by rw [jO]) (fun i=>by rw [qE]) (M9 a6 (by omega))
    have e7:E8 a7 a7=some true:=pK (E:=nK) (by omega) (by rw [E8]) (fun i=>by rw [zV]) (aIm a7 (by omega))
    rw [lQ]
    simp [e3,e6,e7]
theorem aIm:∀ l:List aU,uA l≤1048576→∀ y ∈ l,nK y y=some true
  | [],_=>fun y hy=>by simp at hy
  | x::l,hz=>by
    simp only [uA] at hz
    intro y hy
    rcases List.mem_cons.1 hy with r | hy
    · rw [r]; exact aLu x (by omega)
    · exact aIm l (by omega) y hy
theorem M9:∀ l:List aB,mJ l≤1048576→∀ y ∈ l,lQ y y=some true
  | [],_=>fun y hy=>by simp at hy
  | x::l,hz=>by
    simp only [mJ] at hz
    intro y hy
    rcases List.mem_cons.1 hy with r | hy
    · rw [r]; exact aKm x (by omega)
    · exact M9 l (by omega) y hy
theorem aIq:∀ l:List bC,qB l≤1048576→∀ y ∈ l,qK y y=some true
  | [],_=>fun y hy=>by simp at hy
  | x::l,hz=>by
    simp only [qB] at hz
    intro y hy
    rcases List.mem_cons.1 hy with r | hy
    · rw [r]; exact aV6 x (by omega)
    · exact aIq l (by omega) y hy
theorem aJm:∀ l:List (List aB),qH l≤1048576→∀ y ∈ l,jO y y=some true
  | [],_=>fun y hy=>by simp at hy
  | x::l,hz=>by
    simp only [qH] at hz
    intro y hy
    rcases List.mem_cons.1 hy with r | hy
    · rw [r]; exact pK (E:=lQ) (by omega) (by rw [jO]) (fun i=>by rw [qE]) (M9 x (by omega))
    · exact aJm l (by omega) y hy
end
theorem I1 {α:Type} {b:Nat} {l m:List α} (h:(l.length+m.length) * b≤140737488355328):appG b l m=some (l++m):=by unfold appG; rw [if_pos h]
theorem G6 (n:Int):IntKind.wrap .u8 n=n % 256:=rfl
theorem wrap64 (n:Int):IntKind.wrap .u64 n=n % 18446744073709551616:=rfl
theorem aUp:∀ b:BitVec 8,(b ||| 128#8).toNat=b.toNat % 128+128:=by decide
theorem aVb (x:Int) (h:0≤x):IntKind.wrap .u8 ((BitVec.ofInt (IntKind.bits .u8) (IntKind.wrap .u8 x) ||| BitVec.ofInt (IntKind.bits .u8) 128).toNat:Int)=x % 128+128:=by
  show IntKind.wrap .u8 (((BitVec.ofInt 8 (IntKind.wrap .u8 x) ||| 128#8).toNat:Nat):Int)=_
  rw [aUp,BitVec.toNat_ofInt,G6,G6]
  omega
def Byt (l:List Int):Prop:=∀ y ∈ l,0≤y∧y<256
theorem aJb {a b:List Int} (ha:Byt a) (hb:Byt b):Byt (a++b):=fun y hy=>by
  rcases List.mem_append.1 hy with h | h
  · exact ha y h
  · exact hb y h
theorem aJ3 {l:List Int} (h:Byt l):ofBytes l=some (l.map fun n=>UInt8.ofNat n.toNat):=by
  unfold ofBytes
  rw [if_pos]
  rw [List.all_eq_true]
  intro y hy
  have:=h y hy
  simp; omega
theorem aH0 : ∀ (k : Nat) (x : Int), 0 ≤ x → x < 128 ^ (k + 1) → x < 18446744073709551616 → ∃ b : List Int, Byt b ∧ b.length ≤ k + 1 ∧ ∀ acc : List Int, Byt acc → acc.length + k + 1 ≤ 1048576 →
    qW x acc=some ((acc++b).map fun n=>UInt8.ofNat n.toNat)∧rV x acc=some ((acc++b).map fun n=>UInt8.ofNat n.toNat)
  | k,x,h0,hk,h64=>by
    by_cases hx:x<128
    · refine ⟨[x],fun y hy=>by simp at hy; omega,by simp,fun acc ha hl=>?_⟩
      have hb:Byt (acc++[x]):=aJb ha fun y hy=>by simp at hy; omega
      have e1:IntKind.wrap .u8 x=x:=by rw [G6]; omega
      constructor
      · rw [qW,if_neg (by simp; omega),e1,I1 (by simp; omega)]
        simp only [Option.bind_eq_bind,Option.bind_some,aJ3 hb]
      · rw [rV,if_neg (by simp; omega),e1,I1 (by simp; omega)]
        simp only [Option.bind_eq_bind,Option.bind_some,aJ3 hb]
    · match k,hk with
      | 0,hk=>omega
      | k+1,hk =>
        have hp:(128:Int) ^ (k+1+1)=128 ^ (k+1) * 128:=Int.pow_succ ..
        obtain ⟨b,hb,hbl,H⟩:=aH0 k (x / 128) (by omega) (by omega) (by omega)
        have hd:0≤x % 128+128∧x % 128+128<256:=by omega
        refine ⟨(x % 128+128)::b,fun y hy=>?_,by simp; omega,fun acc ha hl=>?_⟩
        · rcases List.mem_cons.1 hy with rfl | hy
          · exact hd
          · exact hb y hy
        have hb2:Byt (acc++[x % 128+128]):=aJb ha fun y hy=>by simp at hy; omega
        obtain ⟨H1,H2⟩:=H (acc++[x % 128+128]) hb2 (by simp; omega)
        have e3:acc++(x % 128+128)::b=acc++[x % 128+128]++b:=by simp
        constructor
        · rw [qW,if_pos (by simp; omega),aVb x h0,I1 (by simp; omega)]
          simp only [Option.bind_eq_bind,Option.bind_some]
          rw [show Int.fdiv x (2 ^ 7)=x / 128 by rw [Int.fdiv_eq_ediv_of_nonneg _ (by omega)]; rfl,H1,e3]
        · have e2 : IntKind.wrap .u8 (IntKind.wrap .u64 ((Int.tmod x 128) + 128)) = x % 128 + 128 := by
            rw [G6,wrap64,Int.tmod_eq_emod_of_nonneg h0]; omega
          rw [rV,if_pos (by simp; omega),e2,I1 (by simp; omega)]
          simp only [Option.bind_eq_bind,Option.bind_some]
          rw [show IntKind.wrap .u64 (Int.tdiv x 128)=x / 128 by rw [wrap64,Int.tdiv_eq_ediv_of_nonneg h0]; omega,H2,e3]
theorem aMa (k m u:Nat) (hk:k≤9) (hm:m<128) (hu:u<2 ^ (7 * k)):(u ||| (m * 2 ^ (7 * k)) % 18446744073709551616)=u+(m * 2 ^ (7 * k)) % 18446744073709551616∧u+(m * 2 ^ (7 * k)) % 18446744073709551616<18446744073709551616∧(k≤8→u+(m * 2 ^ (7 * k)) % 18446744073709551616<2 ^ (7 * (k+1))):=by
  have key:∀ x:Nat,(u ||| x * 2 ^ (7 * k))=u+x * 2 ^ (7 * k):=fun x=>by
    have:=Nat.shiftLeft_add_eq_or_of_lt hu x
    rw [Nat.shiftLeft_eq] at this
    rw [Nat.or_comm,← this,Nat.add_comm]
  have h:k=0∨k=1∨k=2∨k=3∨k=4∨k=5∨k=6∨k=7∨k=8∨k=9:=by omega
  have fin : ∀ x : Nat, (m * 2 ^ (7 * k)) % 18446744073709551616 = x * 2 ^ (7 * k) → u + x * 2 ^ (7 * k) < 18446744073709551616 → (k ≤ 8 → u + x * 2 ^ (7 * k) < 2 ^ (7 * (k + 1))) →
      (u ||| (m * 2 ^ (7 * k)) % 18446744073709551616)=u+(m * 2 ^ (7 * k)) % 18446744073709551616∧u+(m * 2 ^ (7 * k)) % 18446744073709551616<18446744073709551616∧(k≤8→u+(m * 2 ^ (7 * k)) % 18446744073709551616<2 ^ (7 * (k+1))):=fun x e h1 h2=>by
    rw [e]; exact ⟨key x,h1,h2⟩
  rcases h with rfl | rfl | rfl | rfl | rfl | rfl | rfl | rfl | rfl | rfl
  case inr.inr.inr.inr.inr.inr.inr.inr.inr=>exact fin (m % 2) (by simp only [Nat.reduceMul,Nat.reducePow]; omega) (by simp only [Nat.reduceMul,Nat.reducePow] at hu ⊢; omega) (fun h=>by omega)
  all_goals exact fin m (by simp only [Nat.reduceMul,Nat.reducePow]; omega) (by simp only [Nat.reduceMul,Nat.reducePow] at hu ⊢; omega) (fun _=>by simp only [Nat.reduceMul,Nat.reducePow,Nat.reduceAdd] at hu ⊢; omega)
theorem aFl (b:Nat) (h:b<256):IntKind.wrap .u8 ((BitVec.ofInt (IntKind.bits .u8) (b:Int) &&& BitVec.ofInt (IntKind.bits .u8) 127).toNat:Int)=((b % 128:Nat):Int):=by
  have key:∀ x:BitVec 8,(x &&& 127#8).toNat=x.toNat % 128:=by decide
  show IntKind.wrap .u8 (((BitVec.ofInt 8 (b:Int) &&& 127#8).toNat:Nat):Int)=_
  rw [key,BitVec.toNat_ofInt,G6]
  omega
theorem aNf (u y:Nat) (hu:u<18446744073709551616) (hy:y<18446744073709551616):IntKind.wrap .u64 ((BitVec.ofInt (IntKind.bits .u64) (u:Int) ||| BitVec.ofInt (IntKind.bits .u64) (y:Int)).toNat:Int)=(((u ||| y) % 18446744073709551616:Nat):Int):=by
  show IntKind.wrap .u64 (((BitVec.ofInt 64 (u:Int) ||| BitVec.ofInt 64 (y:Int)).toNat:Nat):Int)=_
  have e1:((u:Int) % ((2 ^ 64:Nat):Int)).toNat=u:=by simp only [Nat.reducePow]; omega
  have e2:((y:Int) % ((2 ^ 64:Nat):Int)).toNat=y:=by simp only [Nat.reducePow]; omega
  rw [BitVec.toNat_or,BitVec.toNat_ofInt,BitVec.toNat_ofInt,wrap64,e1,e2]
  omega
theorem aSz (m k:Nat) (hk:k≤9):yH .u64 (m:Int) ((7 * k:Nat):Int)=some (((m * 2 ^ (7 * k)) % 18446744073709551616:Nat):Int):=by
  unfold yH
  rw [if_pos (by omega),wrap64]
  have:Nat.min ((7 * k:Nat):Int).toNat (IntKind.bits .u64)=7 * k:=by
    show Nat.min ((7 * k:Nat):Int).toNat 64=7 * k
    rw [Int.toNat_natCast]; exact Nat.min_eq_left (by omega)
  rw [this]
  congr 1
theorem aV0 (u:Nat) (hu:u<18446744073709551616):∃ t,yM (u:Int)=some t∧wM (u:Int)=some t:=by
  obtain ⟨b,_,_,H⟩:=aH0 9 (u:Int) (by omega) (by omega) (by omega)
  obtain ⟨H1,H2⟩:=H [] (fun y hy=>by simp at hy) (by simp)
  exact ⟨_,by rw [yM]; exact H1,by rw [wM]; exact H2⟩
theorem O1 {α:Type} {l:List α} {a b:Nat} (h1:a≤b) (h2:b≤l.length):lV l (a:Int) (b:Int)=some ((l.take b).drop a):=by
  unfold lV; rw [if_pos (by omega)]; simp
theorem aWm (s : List UInt8) (hs : s.length ≤ 1048576) (a : Nat) (ha : a ≤ s.length) : ∀ (r k u : Nat), k + r = 10 → (k ≤ 9 → u < 2 ^ (7 * k)) → u < 18446744073709551616 →
    ∃ x,nI s (a:Int) (u:Int) ((a+k:Nat):Int)=some x∧nD s (a:Int) (u:Int) (k:Int)=some x∧(x.2.2=true→(∃ n:Nat,x.2.1=(n:Int)∧a<n∧n≤s.length)∧∃ v:Nat,x.1=(v:Int)∧v<18446744073709551616):=by
  intro r
  induction r with
  | zero =>
    intro k u hk _ _
    have:k=10:=by omega
    subst this
    refine ⟨(0,0,false),?_,?_,by simp⟩
    · rw [nI,iI (n:=(a:Int)+10) (by omega) (by omega)]
      simp
    · rw [nD]; simp
  | succ r ih =>
    intro k u hk hu h64
    by_cases hl:a+k<s.length
    · have hk9:k≤9:=by omega
      obtain ⟨b,hb⟩:∃ b,s[a+k]?=some b:=⟨s[a+k],by simp [hl]⟩
      have hb8:b.toNat<256:=b.toNat_lt
      have ei:uI s ((a+k:Nat):Int)=some (b.toNat:Int):=by unfold uI; rw [if_pos (by omega),Int.toNat_natCast,hb]; rfl
      obtain ⟨o1,o2,o3⟩:=aMa k (b.toNat % 128) u hk9 (by omega) (hu hk9)
      generalize hy:(b.toNat % 128 * 2 ^ (7 * k)) % 18446744073709551616=y at o1 o2 o3
      have hy64:y<18446744073709551616:=by omega
      have w1:IntKind.wrap .u64 ((b.toNat % 128:Nat):Int)=((b.toNat % 128:Nat):Int):=by rw [wrap64]; omega
      have w2:IntKind.wrap .i64 (7 * IntKind.wrap .i64 (((a+k:Nat):Int) - (a:Int)))=((7 * k:Nat):Int):=by rw [iI (n:=((a+k:Nat):Int) - (a:Int)) (by omega) (by omega),iI (by omega) (by omega)]; omega
      have w3:IntKind.wrap .i64 ((a:Int)+(k:Int))=((a+k:Nat):Int):=by rw [iI (by omega) (by omega)]; omega
      have w4:IntKind.wrap .u64 (b.toNat:Int)=(b.toNat:Int):=by rw [wrap64]; omega
      have w5:IntKind.wrap .u64 (IntKind.wrap .i64 (7 * (k:Int)))=((7 * k:Nat):Int):=by rw [iI (by omega) (by omega),wrap64]; omega
      have w6:IntKind.wrap .i64 (((a+k:Nat):Int)+1)=((a+k+1:Nat):Int):=by rw [iI (by omega) (by omega)]; omega
      have w7:IntKind.wrap .u64 ((u:Int)+(y:Int))=((u+y:Nat):Int):=by rw [wrap64]; omega
      have w8:IntKind.wrap .u64 ((BitVec.ofInt (IntKind.bits .u64) (u:Int) ||| BitVec.ofInt (IntKind.bits .u64) (y:Int)).toNat:Int)=((u+y:Nat):Int):=by rw [aNf u y h64 hy64,o1]; omega
      have w9:Int.tmod (b.toNat:Int) 128=((b.toNat % 128:Nat):Int):=by rw [Int.tmod_eq_emod_of_nonneg (by omega)]; omega
      have w10:IntKind.wrap .i64 ((a:Int)+10)=(a:Int)+10:=iI (by omega) (by omega)
      have w11:IntKind.wrap .i64 ((k:Int)+1)=((k+1:Nat):Int):=by rw [iI (by omega) (by omega)]; omega
      have sh:=aSz (b.toNat % 128) k hk9
      rw [hy] at sh
      have c1:(if (decide (((a+k:Nat):Int)<(s.length:Int)))=true then (decide (((a+k:Nat):Int)<(a:Int)+10)) else false)=true:=by simp; omega
      have c2:(if (decide ((k:Int)<10))=true then (decide (((a+k:Nat):Int)<(s.length:Int))) else false)=true:=by simp; omega
      by_cases hb1:b.toNat<128
      · obtain ⟨t,t1,t2⟩:=aV0 (u+y) o2
        have hsub:=O1 (l:=s) (a:=a) (b:=a+k+1) (by omega) (by omega)
        by_cases ht:t=(s.take (a+k+1)).drop a
        · refine ⟨(((u+y:Nat):Int),((a+k+1:Nat):Int),true),?_,?_,fun _=>⟨⟨_,rfl,by omega,by omega⟩,_,rfl,o2⟩⟩
          · rw [nI]
            simp only [w10,c1,ei,aFl _ hb8,w1,w2,sh,w8,w6,t1,hsub,Option.bind_eq_bind,Option.bind_some,if_true]
            rw [if_pos (by simp; omega),if_neg (by simpa using ht)]
          · rw [nD]
            simp only [w3,c2,ei,w4,w9,w5,sh,w7,w6,t2,hsub,Option.bind_eq_bind,Option.bind_some,if_true]
            rw [if_pos (by simp; omega),if_neg (by simpa using ht)]
        · refine ⟨(0,0,false),?_,?_,by simp⟩
          · rw [nI]
            simp only [w10,c1,ei,aFl _ hb8,w1,w2,sh,w8,w6,t1,hsub,Option.bind_eq_bind,Option.bind_some,if_true]
            rw [if_pos (by simp; omega),if_pos (by simpa using ht)]
          · rw [nD]
            simp only [w3,c2,ei,w4,w9,w5,sh,w7,w6,t2,hsub,Option.bind_eq_bind,Option.bind_some,if_true]
            rw [if_pos (by simp; omega),if_pos (by simpa using ht)]
      · obtain ⟨x,x1,x2,x3⟩:=ih (k+1) (u+y) (by omega) (fun h=>o3 (by omega)) o2
        refine ⟨x,?_,?_,x3⟩
        · rw [nI]
          simp only [w10,c1,ei,aFl _ hb8,w1,w2,sh,w8,w6,Option.bind_eq_bind,Option.bind_some,if_true]
          rw [if_neg (by simp; omega)]
          exact x1
        · rw [nD]
          simp only [w3,c2,ei,w4,w9,w5,sh,w7,w11,Option.bind_eq_bind,Option.bind_some,if_true]
          rw [if_neg (by simp; omega)]
          exact x2
    · refine ⟨(0,0,false),?_,?_,by simp⟩
      · rw [nI,if_neg (by simp; omega)]; simp
      · rw [nD,iI (by omega) (by omega)]
        have:¬ ((a:Int)+(k:Int)<(s.length:Int)):=by omega
        simp [this]
theorem aHj (s : List UInt8) (hs : s.length ≤ 1048576) (a : Nat) (ha : a ≤ s.length) :
    ∃ x,yY s (a:Int)=some x∧wQ s (a:Int)=some x∧(x.2.2=true→(∃ n:Nat,x.2.1=(n:Int)∧a<n∧n≤s.length)∧∃ v:Nat,x.1=(v:Int)∧v<18446744073709551616):=by
  obtain ⟨x,x1,x2,x3⟩:=aWm s hs a ha 10 0 0 (by omega) (fun _=>by simp) (by omega)
  refine ⟨x,?_,?_,x3⟩
  · rw [yY,if_neg (by simp)]; simpa using x1
  · have:kZ (a:Int) 0 (s.length:Int)=some true:=by rw [kZ]; simp; omega
    rw [wQ,this]; simpa using x2
theorem aMd (v:Nat) (hv:v<18446744073709551616):∃ n:Int,xG (v:Int)=some n∧yO (v:Int)=some n:=by
  have x0:∀ b:BitVec 64,b ^^^ 0#64=b:=fun b=>by simp
  have x1:∀ b:BitVec 64,b ^^^ BitVec.ofInt 64 (-1)=(~~~b):=fun b=>by
    have:BitVec.ofInt 64 (-1)=BitVec.allOnes 64:=by decide
    rw [this,BitVec.xor_allOnes]
  have hs:Int.fdiv (v:Int) (2 ^ 1)=((v / 2:Nat):Int):=by rw [Int.fdiv_eq_ediv_of_nonneg _ (by omega)]; omega
  have w1:IntKind.wrap .i64 ((v / 2:Nat):Int)=((v / 2:Nat):Int):=iI (by omega) (by omega)
  have ha:((BitVec.ofInt (IntKind.bits .u64) (v:Int) &&& BitVec.ofInt (IntKind.bits .u64) 1).toNat)=v % 2:=by
    show (BitVec.ofInt 64 (v:Int) &&& BitVec.ofInt 64 1).toNat=_
    rw [BitVec.toNat_and,BitVec.toNat_ofInt]
    have e1:((v:Int) % ((2 ^ 64:Nat):Int)).toNat=v:=by simp only [Nat.reducePow]; omega
    rw [e1]
    show v &&& 1=_
    exact Nat.and_one_is_mod v
  have t1:Int.tmod (v:Int) 2=((v % 2:Nat):Int):=by rw [Int.tmod_eq_emod_of_nonneg (by omega)]; omega
  have t2:Int.tdiv (v:Int) 2=((v / 2:Nat):Int):=by rw [Int.tdiv_eq_ediv_of_nonneg (by omega)]; omega
  have w2:IntKind.wrap .u64 ((v / 2:Nat):Int)=((v / 2:Nat):Int):=by rw [wrap64]; omega
  rcases Nat.mod_two_eq_zero_or_one v with h | h
  · refine ⟨((v / 2:Nat):Int),?_,?_⟩
    · unfold xG
      rw [hs,w1,ha,h]
      show some (IntKind.wrap .i64 (((BitVec.ofInt 64 ((v / 2:Nat):Int) ^^^ BitVec.ofInt 64 (IntKind.wrap .i64 (0 - (IntKind.wrap .i64 (IntKind.wrap .u64 ((0:Nat):Int)))))).toNat:Nat):Int))=_
      rw [show BitVec.ofInt 64 (IntKind.wrap .i64 (0 - (IntKind.wrap .i64 (IntKind.wrap .u64 ((0:Nat):Int)))))=0#64 from rfl,x0,BitVec.toNat_ofInt]
      have e1:(((v / 2:Nat):Int) % ((2 ^ 64:Nat):Int)).toNat=v / 2:=by simp only [Nat.reducePow]; omega
      rw [e1,w1]
    · unfold yO
      rw [t1,h,if_neg (by simp),t2,w2,w1]
  · refine ⟨-((v / 2:Nat):Int) - 1,?_,?_⟩
    · unfold xG
      rw [hs,w1,ha,h]
      show some (IntKind.wrap .i64 (((BitVec.ofInt 64 ((v / 2:Nat):Int) ^^^ BitVec.ofInt 64 (IntKind.wrap .i64 (0 - (IntKind.wrap .i64 (IntKind.wrap .u64 ((1:Nat):Int)))))).toNat:Nat):Int))=_
      rw [show IntKind.wrap .i64 (0 - (IntKind.wrap .i64 (IntKind.wrap .u64 ((1:Nat):Int)))) = -1 from rfl,x1,BitVec.toNat_not,BitVec.toNat_ofInt]
      have e1:(((v / 2:Nat):Int) % ((2 ^ 64:Nat):Int)).toNat=v / 2:=by simp only [Nat.reducePow]; omega
      rw [e1]
      refine congrArg some ?_
      rw [IntKind.wrap_i64]
      simp only [Nat.reducePow,Nat.reduceSub]
      omega
    · unfold yO
      rw [t1,h,if_pos (by simp),t2,w2,w1,iI (n:=0 - _) (by omega) (by omega),iI (by omega) (by omega)]
      congr 1; omega
theorem yJ {α β:Type} {c:Prop} [Decidable c] {A B:Option α} {k:α→Option β}:(if c then A else B).bind k=if c then A.bind k else B.bind k:=by split <;> rfl
def RSB {α:Type} (s:List UInt8) (f:aL→Option (α×aL)):Prop:=∀ b:Int,∃ v,f ⟨s,b,true⟩=some (v,⟨s,b,true⟩)
def RIB {α:Type} (s:List UInt8) (g:aJ→Option (α×aJ)):Prop:=∀ b:Nat,b≤s.length→∃ v,g ⟨s,(b:Int),true⟩=some (v,⟨s,(b:Int),true⟩)
def aV2 {α:Type} (s:List UInt8) (a:Nat) (Q:α→Nat→Prop) (x:Option (α×aL)) (y:Option (α×aJ)):Prop :=
  (∃ v,∃ b:Nat,x=some (v,⟨s,(b:Int),false⟩)∧y=some (v,⟨s,(b:Int),false⟩)∧a≤b∧b≤s.length∧Q v (b - a)) ∨
  (∃ v v',∃ b:Int,∃ b':Nat,x=some (v,⟨s,b,true⟩)∧y=some (v',⟨s,(b':Int),true⟩)∧b'≤s.length)
def nE {α:Type} (s:List UInt8) (m:Nat) (Q:α→Nat→Prop) (f:aL→Option (α×aL)) (g:aJ→Option (α×aJ)):Prop :=
  ∀ a:Nat,a≤s.length→s.length - a<m→aV2 s a Q (f ⟨s,(a:Int),false⟩) (g ⟨s,(a:Int),false⟩)
theorem nE.mono {α:Type} {s:List UInt8} {m:Nat} {Q:α→Nat→Prop} {f:aL→Option (α×aL)} {g:aJ→Option (α×aJ)} (h:nE s m Q f g) {n:Nat} (hn:n≤m):nE s n Q f g:=fun a h1 h2=>h a h1 (by omega)
structure RP {ι α:Type} (s:List UInt8) (m:Nat) (Q:ι→α→Nat→Prop) (f:ι→aL→Option (α×aL)) (g:ι→aJ→Option (α×aJ)):Prop where
  sb:∀ i,RSB s (f i)
  ib:∀ i,RIB s (g i)
  good:∀ i,nE s m (Q i) (f i) (g i)
section
variable {ι α β:Type} {s:List UInt8} {m:Nat} {Q:ι→α→Nat→Prop} {Q2:ι→β→Nat→Prop} {f f':ι→aL→Option (α×aL)} {g g':ι→aJ→Option (α×aJ)} {F:ι→aL→α×aL→Option (β×aL)} {G:ι→aJ→α×aJ→Option (β×aJ)}
theorem RP.congr (h:RP s m Q f g) (hf:∀ i st,f' i st=f i st) (hg:∀ i st,g' i st=g i st):RP s m Q f' g' :=
  ⟨fun i b=>by rw [hf]; exact h.sb i b,fun i b hb=>by rw [hg]; exact h.ib i b hb,fun i a h1 h2=>by rw [hf,hg]; exact h.good i a h1 h2⟩
theorem RP.weak {Q':ι→α→Nat→Prop} (h:RP s m Q f g) (hq:∀ i v d,Q i v d→Q' i v d):RP s m Q' f g:=⟨h.sb,h.ib,fun i a h1 h2=>by
  rcases h.good i a h1 h2 with ⟨v,b,e1,e2,k1,k2,k3⟩ | h
  · exact .inl ⟨v,b,e1,e2,k1,k2,hq _ _ _ k3⟩
  · exact .inr h⟩
theorem RP.mono (h:RP s m Q f g) {n:Nat} (hn:n≤m):RP s n Q f g:=⟨h.sb,h.ib,fun i=>(h.good i).mono hn⟩
theorem aOc (h:∀ i,RSB s (f i)) (h2:∀ i v t,RSB s (fun st=>F i t (v,st))) (i:ι):RSB s (fun st=>f i st>>=F i st):=fun b=>by
  obtain ⟨v,hv⟩:=h i b
  obtain ⟨w,hw⟩:=h2 i v _ b
  exact ⟨w,by simp only [hv,Option.bind_eq_bind,Option.bind_some]; exact hw⟩
theorem aMn (h:∀ i,RIB s (g i)) (h2:∀ i v t,RIB s (fun st=>G i t (v,st))) (i:ι):RIB s (fun st=>g i st>>=G i st):=fun b hb=>by
  obtain ⟨v,hv⟩:=h i b hb
  obtain ⟨w,hw⟩:=h2 i v _ b hb
  exact ⟨w,by simp only [hv,Option.bind_eq_bind,Option.bind_some]; exact hw⟩
theorem RP.bindN {n : Nat} (h : RP s n Q f g) (hpos : ∀ i v d, Q i v d → n ≤ m + d) (h2 : RP (ι := (ι × α) × (aL × aJ)) s m (fun i w d => ∀ d1, Q i.1.1 i.1.2 d1 → Q2 i.1.1 w (d1 + d)) (fun i st => F i.1.1 i.2.1 (i.1.2, st)) (fun i st => G i.1.1 i.2.2 (i.1.2, st))) :
    RP s n Q2 (fun i st=>f i st>>=F i st) (fun i st=>g i st>>=G i st):=by
  refine ⟨aOc h.sb fun i v t=>h2.sb ((i,v),(t,default)),aMn h.ib fun i v t=>h2.ib ((i,v),(default,t)),fun i a h1 hm=>?_⟩
  rcases h.good i a h1 hm with ⟨v,b,e1,e2,k1,k2,k3⟩ | ⟨v,v',b,b',e1,e2,k⟩
  · simp only [e1,e2,Option.bind_eq_bind,Option.bind_some]
    have:=hpos _ _ _ k3
    rcases h2.good ((i,v),(_,_)) b k2 (by omega) with ⟨w,c,j1,j2,j3,j4,j5⟩ | ⟨w,w',c,c',j1,j2,j3⟩
    · exact .inl ⟨w,c,j1,j2,by omega,j4,by have:=j5 _ k3; rw [show b - a+(c - b)=c - a by omega] at this; exact this⟩
    · exact .inr ⟨w,w',c,c',j1,j2,j3⟩
  · simp only [e1,e2,Option.bind_eq_bind,Option.bind_some]
    obtain ⟨w,j1⟩:=h2.sb ((i,v),(_,default)) b
    obtain ⟨w',j2⟩:=h2.ib ((i,v'),(default,_)) b' k
    exact .inr ⟨w,w',b,b',j1,j2,k⟩
theorem RP.bind (h : RP s m Q f g) (h2 : RP (ι := (ι × α) × (aL × aJ)) s m (fun i w d => ∀ d1, Q i.1.1 i.1.2 d1 → Q2 i.1.1 w (d1 + d)) (fun i st => F i.1.1 i.2.1 (i.1.2, st)) (fun i st => G i.1.1 i.2.2 (i.1.2, st))) :
    RP s m Q2 (fun i st=>f i st>>=F i st) (fun i st=>g i st>>=G i st):=h.bindN (fun _ _ _ _=>by omega) h2
theorem RP.bind1 (h : RP s (m + 1) Q f g) (hpos : ∀ i v d, Q i v d → 1 ≤ d) (h2 : RP (ι := (ι × α) × (aL × aJ)) s m (fun i w d => ∀ d1, Q i.1.1 i.1.2 d1 → Q2 i.1.1 w (d1 + d)) (fun i st => F i.1.1 i.2.1 (i.1.2, st)) (fun i st => G i.1.1 i.2.2 (i.1.2, st))) :
    RP s (m+1) Q2 (fun i st=>f i st>>=F i st) (fun i st=>g i st>>=G i st):=h.bindN (fun i v d hq=>by have:=hpos i v d hq; omega) h2
theorem RP.pure {v:ι→α} (h:∀ i,Q i (v i) 0):RP s m Q (fun i st=>some (v i,st)) (fun i st=>some (v i,st)) :=
  ⟨fun _ _=>⟨_,rfl⟩,fun _ _ _=>⟨_,rfl⟩,fun i a h1 _=>.inl ⟨v i,a,rfl,rfl,by omega,h1,by simpa using h i⟩⟩
end
theorem uJ (s:List UInt8) (hs:s.length≤1048576):(∀ b:Int,fJ ⟨s,b,true⟩=some (0,⟨s,b,true⟩))∧∀ b:Nat,b≤s.length→eB ⟨s,(b:Int),true⟩=some (0,⟨s,(b:Int),true⟩):=by
  refine ⟨fun b=>by rw [fJ]; simp,fun b hb=>?_⟩
  obtain ⟨x,x1,_,_⟩:=aHj s hs b hb
  rw [eB]; simp [x1]
theorem aG6 (s:List UInt8) (hs:s.length≤1048576) (m:Nat):nE s m (fun _ d=>1≤d) (fun st=>fJ st) (fun st=>eB st):=by
  intro a ha _
  obtain ⟨⟨u,n,ok⟩,x1,x2,x3⟩:=aHj s hs a ha
  cases ok with
  | false =>
    refine .inr ⟨0,0,a,a,?_,?_,ha⟩
    · show fJ _=_
      rw [fJ]; simp [x2]
    · show eB _=_
      rw [eB]; simp [x1]
  | true =>
    obtain ⟨⟨k,e1,k1,k2⟩,w,e2,hw⟩:=x3 rfl
    simp only at e1 e2
    subst e1 e2
    obtain ⟨v,v1,v2⟩:=aMd w hw
    refine .inl ⟨v,k,?_,?_,by omega,k2,by omega⟩
    · show fJ _=_
      rw [fJ]; simp [x2,v2]
    · show eB _=_
      rw [eB]; simp [x1,v1]
theorem sIn (n a b:Int):kZ n a b=some (decide (a≤n)&&decide (n≤b)):=by rw [kZ]; by_cases h:a≤n <;> simp [h]
theorem zF (s:List UInt8) (hs:s.length≤1048576):(∀ b:Int,fH ⟨s,b,true⟩=some (0,⟨s,b,true⟩))∧∀ b:Nat,b≤s.length→gU ⟨s,(b:Int),true⟩=some (0,⟨s,(b:Int),true⟩):=by
  refine ⟨fun b=>?_,fun b hb=>?_⟩
  · rw [fH,(uJ s hs).1 b]
    simp only [Option.bind_eq_bind,Option.bind_some,sIn]
    split <;> rfl
  · rw [gU,(uJ s hs).2 b hb]
    simp only [Option.bind_eq_bind,Option.bind_some]
    have:¬ IntKind.wrap .i64 ((s.length:Int) - (b:Int))<0:=by rw [iI (by omega) (by omega)]; omega
    simp [this,sI]
theorem aKr (s : List UInt8) (hs : s.length ≤ 1048576) (m : Nat) : ∀ a : Nat, a ≤ s.length → s.length - a < m →
    (∃ n b:Nat,fH ⟨s,(a:Int),false⟩=some ((n:Int),⟨s,(b:Int),false⟩)∧gU ⟨s,(a:Int),false⟩=some ((n:Int),⟨s,(b:Int),false⟩)∧a+1≤b∧b+n≤s.length) ∨
    (∃ v,∃ b:Int,∃ b':Nat,fH ⟨s,(a:Int),false⟩=some (v,⟨s,b,true⟩)∧gU ⟨s,(a:Int),false⟩=some (0,⟨s,(b':Int),true⟩)∧b'≤s.length):=by
  intro a ha hm
  rcases aG6 s hs m a ha hm with ⟨v,b,e1,e2,k1,k2,k3⟩ | ⟨v,v',b,b',e1,e2,k⟩
  · dsimp only at e1 e2
    have w:IntKind.wrap .i64 ((s.length:Int) - (b:Int))=(s.length:Int) - (b:Int):=iI (by omega) (by omega)
    by_cases hv:0≤v∧v≤(s.length:Int) - (b:Int)
    · refine .inl ⟨v.toNat,b,?_,?_,by omega,by omega⟩
      · rw [fH,e1]
        simp only [Option.bind_eq_bind,Option.bind_some,sIn,w]
        simp [hv]; omega
      · rw [gU,e2]
        simp only [Option.bind_eq_bind,Option.bind_some,w]
        have h1:¬ v<0:=by omega
        have h2:¬ (s.length:Int) - (b:Int)<v:=by omega
        simp [h1,h2,sI]; omega
    · refine .inr ⟨0,b,b,?_,?_,k2⟩
      · rw [fH,e1]
        simp only [Option.bind_eq_bind,Option.bind_some,sIn,w]
        rw [if_pos (by simp; omega)]
      · rw [gU,e2]
        simp only [Option.bind_eq_bind,Option.bind_some,w]
        rw [if_pos]
        · simp [sI]
        · by_cases h1:v<0
          · simp [h1]
          · simp [h1]; omega
  · dsimp only at e1 e2
    refine .inr ?_
    have c1:∃ w,fH ⟨s,(a:Int),false⟩=some (w,⟨s,b,true⟩):=by
      rw [fH,e1]
      simp only [Option.bind_eq_bind,Option.bind_some,sIn]
      split
      · exact ⟨_,rfl⟩
      · exact ⟨_,rfl⟩
    have c2:gU ⟨s,(a:Int),false⟩=some (0,⟨s,(b':Int),true⟩):=by
      rw [gU,e2]
      simp only [Option.bind_eq_bind,Option.bind_some,sI]
      simp
    obtain ⟨w,hw⟩:=c1
    exact ⟨w,b,b',hw,c2,k⟩
theorem C9 (s:List UInt8) (hs:s.length≤1048576):RSB s (fun st=>iC st)∧RIB s (fun st=>fI st):=by
  refine ⟨fun b=>⟨false,?_⟩,fun b hb=>⟨false,?_⟩⟩
  · show iC _=_
    rw [iC,(uJ s hs).1 b]; simp [sIn,pI]
  · show fI _=_
    rw [fI,(uJ s hs).2 b hb]; simp
theorem aN5 (s:List UInt8) (hs:s.length≤1048576) (m:Nat):nE s m (fun _ d=>1≤d) (fun st=>iC st) (fun st=>fI st):=by
  intro a ha hm
  rcases aG6 s hs m a ha hm with ⟨v,b,e1,e2,k1,k2,k3⟩ | ⟨v,v',b,b',e1,e2,k⟩
  · dsimp only at e1 e2
    by_cases h0:v=0
    · subst h0
      refine .inl ⟨false,b,?_,?_,k1,k2,k3⟩
      · show iC _=_
        rw [iC,e1]; simp [sIn,pI]
      · show fI _=_
        rw [fI,e2]; simp
    · by_cases h1:v=1
      · subst h1
        refine .inl ⟨true,b,?_,?_,k1,k2,k3⟩
        · show iC _=_
          rw [iC,e1]; simp [sIn,pI]
        · show fI _=_
          rw [fI,e2]; simp
      · refine .inr ⟨false,false,b,b,?_,?_,k2⟩
        · show iC _=_
          rw [iC,e1]
          simp only [Option.bind_eq_bind,Option.bind_some,sIn]
          rw [if_pos (by simp; omega)]
          simp [pI,h1]
        · show fI _=_
          rw [fI,e2]; simp [h0,h1]
  · dsimp only at e1 e2
    have c1:∃ w,iC ⟨s,(a:Int),false⟩=some (w,⟨s,b,true⟩):=by
      rw [iC,e1]
      simp only [Option.bind_eq_bind,Option.bind_some,sIn,pI]
      split <;> exact ⟨_,rfl⟩
    have c2:∃ w,fI ⟨s,(a:Int),false⟩=some (w,⟨s,(b':Int),true⟩):=by
      rw [fI,e2]; simp
    obtain ⟨w,hw⟩:=c1
    obtain ⟨w',hw'⟩:=c2
    exact .inr ⟨w,w',b,b',hw,hw',k⟩
theorem aGz (s:List UInt8) (hs:s.length≤1048576):RSB s (fun st=>jK st)∧RIB s (fun st=>jN st):=by
  refine ⟨fun b=>⟨[],?_⟩,fun b hb=>⟨[],?_⟩⟩
  · show jK _=_
    rw [jK,(zF s hs).1 b]; simp
  · show jN _=_
    rw [jN,(zF s hs).2 b hb]
    have w:IntKind.wrap .i64 (b:Int)=(b:Int):=iI (by omega) (by omega)
    simp [w,O1 (l:=s) (Nat.le_refl b) hb]
theorem aO4 (s:List UInt8) (hs:s.length≤1048576) (m:Nat):nE s m (fun v d=>v.length+1≤d) (fun st=>jK st) (fun st=>jN st):=by
  intro a ha hm
  rcases aKr s hs m a ha hm with ⟨n,b,e1,e2,k1,k2⟩ | ⟨v,b,b',e1,e2,k⟩
  · have w:IntKind.wrap .i64 ((b:Int)+(n:Int))=((b+n:Nat):Int):=by rw [iI (by omega) (by omega)]; omega
    have w2:IntKind.wrap .i64 (((b+n:Nat):Int) - (n:Int))=(b:Int):=by rw [iI (by omega) (by omega)]; omega
    refine .inl ⟨(s.take (b+n)).drop b,b+n,?_,?_,by omega,by omega,by simp; omega⟩
    · show jK _=_
      rw [jK,e1]; simp only [Option.bind_eq_bind,Option.bind_some,w,w2,O1 (l:=s) (show b≤b+n by omega) k2]; simp
    · show jN _=_
      rw [jN,e2]; simp only [Option.bind_eq_bind,Option.bind_some,w,w2,O1 (l:=s) (show b≤b+n by omega) k2]
  · have c1 : ∃ w, jK ⟨s, (a : Int), false⟩ = some (w, ⟨s, b, true⟩) := by
      rw [jK,e1]; simp
    have w:IntKind.wrap .i64 (b':Int)=(b':Int):=iI (by omega) (by omega)
    have c2:∃ w,jN ⟨s,(a:Int),false⟩=some (w,⟨s,(b':Int),true⟩):=by
      rw [jN,e2]; simp [w,O1 (l:=s) (Nat.le_refl b') k]
    obtain ⟨w,hw⟩:=c1
    obtain ⟨w',hw'⟩:=c2
    exact .inr ⟨w,w',b,b',hw,hw',k⟩
theorem qM {ι:Type} {s:List UInt8} (hs:s.length≤1048576) {m:Nat}:RP s m (fun (_:ι) _ d=>1≤d) (fun _ st=>fJ st) (fun _ st=>eB st) :=
  ⟨fun _ b=>⟨_,(uJ s hs).1 b⟩,fun _ b hb=>⟨_,(uJ s hs).2 b hb⟩,fun _=>aG6 s hs m⟩
theorem aD9 {ι:Type} {s:List UInt8} (hs:s.length≤1048576) {m:Nat}:RP s m (fun (_:ι) _ d=>1≤d) (fun _ st=>iC st) (fun _ st=>fI st) :=
  ⟨fun _=>(C9 s hs).1,fun _=>(C9 s hs).2,fun _=>aN5 s hs m⟩
theorem aIc {ι:Type} {s:List UInt8} (hs:s.length≤1048576) {m:Nat}:RP s m (fun (_:ι) v d=>v.length+1≤d) (fun _ st=>jK st) (fun _ st=>jN st) :=
  ⟨fun _=>(aGz s hs).1,fun _=>(aGz s hs).2,fun _=>aO4 s hs m⟩
section
variable {α R:Type} {s:List UInt8} {m:Nat} {Qe:α→Nat→Prop} {z:α→Nat} {f:aL→Option (α×aL)} {g:aJ→Option (α×aJ)} {by':Nat}
  {LS:Int×aL→Int→List α→aL→Option (R×aL)} {KS:List α→aL→Option (R×aL)} {LI:Int→aJ→List α→Option (R×aJ)} {KI:List α→aJ→Option (R×aJ)}
theorem aNy (hg : nE s m Qe f g) (hz : ∀ v d, Qe v d → z v + 1 ≤ d) (hs : s.length ≤ 1048576) (hby : by' ≤ 100000)
    (hLS:∀ y (i:Nat) acc st,LS y (i:Int) acc st=(some (if (decide ((i:Int)<y.1))=true then (!st.bad) else false)>>=fun y2=>if y2=true then ((f st)>>=fun y3=>(appG by' acc [y3.1])>>=fun y4=>LS y (IntKind.wrap .i64 ((i:Int)+1)) y4 y3.2) else KS acc st))
    (hLI:∀ (x:Nat) st acc,LI (x:Int) st acc=(some (if (decide (0<(x:Int)))=true then (!st.failed) else false)>>=fun y2=>if y2=true then ((g st)>>=fun y3=>(appG by' acc [y3.1])>>=fun y4=>LI (IntKind.wrap .i64 ((x:Int) - 1)) y3.2 y4) else KI acc st))
    (n:Nat) (hn:n≤1048576) (st0:aL):∀ (r i:Nat) (acc:List α) (a:Nat),i+r=n→acc.length≤i→a≤s.length→s.length - a<m →
    (∃ l,∃ b:Nat,LS ((n:Int),st0) (i:Int) acc ⟨s,(a:Int),false⟩=KS (acc++l) ⟨s,(b:Int),false⟩∧LI (r:Int) ⟨s,(a:Int),false⟩ acc=KI (acc++l) ⟨s,(b:Int),false⟩∧a≤b∧b≤s.length∧zL z l≤b - a) ∨
    (∃ l l',∃ b:Int,∃ b':Nat,LS ((n:Int),st0) (i:Int) acc ⟨s,(a:Int),false⟩=KS l ⟨s,b,true⟩∧LI (r:Int) ⟨s,(a:Int),false⟩ acc=KI l' ⟨s,(b':Int),true⟩∧b'≤s.length):=by
  intro r
  induction r with
  | zero =>
    intro i acc a hi ha h1 h2
    refine .inl ⟨[],a,?_,?_,by omega,h1,by simp [zL]⟩
    · rw [hLS]
      have:¬ ((i:Int)<(n:Int)):=by omega
      simp [this]
    · rw [hLI]; simp
  | succ r ih =>
    intro i acc a hi ha h1 h2
    have c1:(i:Int)<(n:Int):=by omega
    have c2:(0:Int)<((r+1:Nat):Int):=by omega
    have hap:∀ v:α,appG by' acc [v]=some (acc++[v]):=fun v=>I1 (by
      have:(acc.length+[v].length) * by'≤1048577 * 100000:=Nat.mul_le_mul (by simp; omega) hby
      omega)
    have w1:IntKind.wrap .i64 ((i:Int)+1)=((i+1:Nat):Int):=by rw [iI (by omega) (by omega)]; omega
    have w2:IntKind.wrap .i64 (((r+1:Nat):Int) - 1)=(r:Int):=by rw [iI (by omega) (by omega)]; omega
    rw [hLS,hLI]
    simp only [c1,c2,decide_true,if_true,Bool.not_false,Option.bind_eq_bind,Option.bind_some,w1,w2]
    rcases hg a h1 h2 with ⟨v,b,e1,e2,k1,k2,k3⟩ | ⟨v,v',b,b',e1,e2,k⟩
    · simp only [e1,e2,Option.bind_some,hap]
      have hzv:=hz _ _ k3
      rcases ih (i+1) (acc++[v]) b (by omega) (by simp; omega) k2 (by omega) with ⟨l,c,j1,j2,j3,j4,j5⟩ | ⟨l,l',c,c',j1,j2,j3⟩
      · refine .inl ⟨v::l,c,by rw [j1]; simp,by rw [j2]; simp,by omega,j4,?_⟩
        unfold zL at j5 ⊢
        simp only [List.length_cons,List.map_cons,List.sum_cons]
        omega
      · exact .inr ⟨l,l',c,c',j1,j2,j3⟩
    · simp only [e1,e2,Option.bind_some,hap]
      rw [hLI]
      have e3:=hLS ((n:Int),st0) (i+1) (acc++[v]) ⟨s,b,true⟩
      rw [e3]
      refine .inr ⟨acc++[v],acc++[v'],b,b',?_,?_,k⟩
      · simp
      · simp
end
theorem RP.list {ι α R : Type} {s : List UInt8} {m n : Nat} {Qe : α → Nat → Prop} {z : α → Nat} {f : aL → Option (α × aL)} {g : aJ → Option (α × aJ)} {by' : Nat}
    {LS:ι→aL→Int×aL→Int→List α→aL→Option (R×aL)} {KS:ι→aL→List α→aL→Option (R×aL)} {LI:ι→aJ→Int→aJ→List α→Option (R×aJ)} {KI:ι→aJ→List α→aJ→Option (R×aJ)}
    {Q:ι→R→Nat→Prop} (hn:n≤m+1) (hg:nE s m Qe f g) (hz:∀ v d,Qe v d→z v+1≤d) (hs:s.length≤1048576) (hby:by'≤100000)
    (hLS:∀ i t y (k:Nat) acc st,LS i t y (k:Int) acc st=(some (if (decide ((k:Int)<y.1))=true then (!st.bad) else false)>>=fun y2=>if y2=true then ((f st)>>=fun y3=>(appG by' acc [y3.1])>>=fun y4=>LS i t y (IntKind.wrap .i64 ((k:Int)+1)) y4 y3.2) else KS i t acc st))
    (hLI:∀ i t (x:Nat) st acc,LI i t (x:Int) st acc=(some (if (decide (0<(x:Int)))=true then (!st.failed) else false)>>=fun y2=>if y2=true then ((g st)>>=fun y3=>(appG by' acc [y3.1])>>=fun y4=>LI i t (IntKind.wrap .i64 ((x:Int) - 1)) y3.2 y4) else KI i t acc st))
    (hK:RP (ι:=(ι×List α)×(aL×aJ)) s m (fun i w d=>∀ d1,zL z i.1.2+1≤d1→Q i.1.1 w (d1+d)) (fun i=>KS i.1.1 i.2.1 i.1.2) (fun i=>KI i.1.1 i.2.2 i.1.2)) :
    RP s n Q (fun i st=>fH st>>=fun y=>LS i st y 0 [] y.2) (fun i st=>gU st>>=fun y=>LI i st y.1 y.2 []):=by
  have eS:∀ i t v b,LS i t (v,⟨s,b,true⟩) 0 [] ⟨s,b,true⟩=KS i t [] ⟨s,b,true⟩:=fun i t v b=>by
    have:=hLS i t (v,⟨s,b,true⟩) 0 [] ⟨s,b,true⟩
    simpa using this
  have eI:∀ i t (b:Nat),LI i t 0 ⟨s,(b:Int),true⟩ []=KI i t [] ⟨s,(b:Int),true⟩:=fun i t b=>by
    have:=hLI i t 0 ⟨s,(b:Int),true⟩ []
    simpa using this
  refine ⟨fun i b=>?_,fun i b hb=>?_,fun i a ha hm=>?_⟩
  · obtain ⟨w,hw⟩:=hK.sb ((i,[]),(_,default)) b
    refine ⟨w,?_⟩
    simp only [(zF s hs).1 b,Option.bind_eq_bind,Option.bind_some,eS]
    exact hw
  · obtain ⟨w,hw⟩:=hK.ib ((i,[]),(default,_)) b hb
    refine ⟨w,?_⟩
    simp only [(zF s hs).2 b hb,Option.bind_eq_bind,Option.bind_some,eI]
    exact hw
  rcases aKr s hs n a ha hm with ⟨n,b,e1,e2,k1,k2⟩ | ⟨v,b,b',e1,e2,k⟩
  · simp only [e1,e2,Option.bind_eq_bind,Option.bind_some]
    rcases aNy (LS:=LS i ⟨s,(a:Int),false⟩) (LI:=LI i ⟨s,(a:Int),false⟩) (KS:=KS i ⟨s,(a:Int),false⟩) (KI:=KI i ⟨s,(a:Int),false⟩) hg hz hs hby (hLS i _) (hLI i _) n (by omega) ⟨s,(b:Int),false⟩ n 0 [] b (by omega) (by simp) (by omega) (by omega) with ⟨l,c,j1,j2,j3,j4,j5⟩ | ⟨l,l',c,c',j1,j2,j3⟩
    · rw [List.nil_append] at j1 j2
      rw [show LS i ⟨s,(a:Int),false⟩ ((n:Int),⟨s,(b:Int),false⟩) 0 [] ⟨s,(b:Int),false⟩=_ from j1,j2]
      rcases hK.good ((i,l),(_,_)) c j4 (by omega) with ⟨w,e,i1,i2,i3,i4,i5⟩ | h
      · exact .inl ⟨w,e,i1,i2,by omega,i4,by have:=i5 (c - a) (by show zL z l+1≤c - a; omega); rw [show c - a+(e - c)=e - a by omega] at this; exact this⟩
      · exact .inr h
    · rw [show LS i ⟨s,(a:Int),false⟩ ((n:Int),⟨s,(b:Int),false⟩) 0 [] ⟨s,(b:Int),false⟩=_ from j1,j2]
      obtain ⟨w,hw⟩:=hK.sb ((i,l),(_,default)) c
      obtain ⟨w',hw'⟩:=hK.ib ((i,l'),(default,_)) c' j3
      exact .inr ⟨w,w',c,c',hw,hw',j3⟩
  · simp only [e1,e2,Option.bind_eq_bind,Option.bind_some,eS,eI]
    obtain ⟨w,hw⟩:=hK.sb ((i,[]),(_,default)) b
    obtain ⟨w',hw'⟩:=hK.ib ((i,[]),(default,_)) b' k
    exact .inr ⟨w,w',b,b',hw,hw',k⟩
theorem aNx {α β:Type} {b:Nat} {acc:List α} {z v:α} {k:List α→Option β}:((appG b acc [z]).bind fun y2=>(idx y2 (acc.length:Int)).bind fun _=>k (y2.set ((acc.length:Int)).toNat v))=((appG b acc [v]).bind k):=by
  unfold appG
  by_cases h:(acc.length+1) * b≤140737488355328
  · rw [if_pos (by simpa using h),if_pos (by simpa using h)]; simp [kG]
  · rw [if_neg (by simpa using h),if_neg (by simpa using h)]; rfl
def GE (s:List UInt8) (m:Nat):Prop:=nE s m (fun v d=>dX v+1≤d) (fun st=>oD st) (fun st=>oM st)
def GP (s:List UInt8) (m:Nat):Prop:=nE s m (fun v d=>gH v+1≤d) (fun st=>mR st) (fun st=>oJ st)
theorem aA2 {ι:Type} {s:List UInt8} (hs:s.length≤1048576) {m n:Nat} (hn:n≤m+1) (h:GE s m):RP s n (fun (_:ι) v d=>zL dX v+1≤d) (fun _ st=>kV st) (fun _ st=>iL st):=by
  refine (RP.list (ι:=ι) (m:=m) (R:=List aB) (f:=fun st=>oD st) (g:=fun st=>oM st) (by':=120) (LS:=fun _ _ y k acc st=>qD y acc k st.s st.at_ st.bad) (KS:=fun _ _ acc st=>some (acc,st))
    (LI:=fun _ _ x st acc=>(sS x st.s st.at_ st.failed acc).bind fun y=>some (y.2,y.1)) (KI:=fun _ _ acc st=>some (acc,st)) hn h (fun _ _ h=>h) hs (by omega) (fun _ _ y k acc st=>?_) (fun _ _ x st acc=>?_) (RP.pure ?_)).congr (fun _ st=>?_) (fun _ st=>?_)
  · show qD _ _ _ _ _ _=_
    rw [qD]
  · show (sS _ _ _ _ _).bind _=_
    rw [sS]
    simp only [Option.bind_eq_bind,Option.bind_some,yJ,aA4,Option.bind_assoc]
    split
    · split
      · refine congrArg (Option.bind _) (funext fun y3=>?_)
        exact aNx (k:=fun y=>(sS _ _ _ _ y).bind _)
      · rfl
    · rfl
  · intro i d1 h; simpa using h
  · rw [kV]
  · rw [iL,U6]
    simp only [Option.bind_eq_bind,Option.bind_assoc]
theorem aTk {ι : Type} {s : List UInt8} (hs : s.length ≤ 1048576) {m : Nat} (hP : GP s m) (Y1 Y2 : ι → Int × aL) (Y3 : ι → Bool × aL) (Y4 Y5 : ι → Int × aL) (Y6 : ι → List UInt8 × aL) (Y7 Y8 : ι → Int × aL) (Y9 : ι → aL → List aB × aL) (k9 : ι → List aB)
    (h9:∀ i st,(Y9 i st).1=k9 i) (Q:ι→aB→Nat→Prop) (hQ:∀ i l d1,zL gH l+1≤d1→Q i (aB.mk (Y1 i).1 (Y2 i).1 (Y3 i).1 (eD.mk (Y4 i).1 (Y5 i).1 (Y6 i).1) (Y7 i).1 (Y8 i).1 (k9 i) l) d1) :
    RP s m Q (fun i st=>fH st>>=fun y10=>qZ y10 (Y1 i) (Y2 i) (Y3 i) (Y4 i) (Y5 i) (Y6 i,(Y7 i,(Y8 i,(Y9 i st,(0,([],(y10.2.s,(y10.2.at_,y10.2.bad)))))))))
      (fun i st=>D9 st (Y1 i).1 (Y2 i).1 (Y3 i).1 (Y4 i).1 (Y5 i).1 ((Y6 i).1,((Y7 i).1,((Y8 i).1,k9 i)))>>=fun y10=>some (aB.mk y10.2.1 y10.2.2.1 y10.2.2.2.1 (eD.mk y10.2.2.2.2.1 y10.2.2.2.2.2.1 y10.2.2.2.2.2.2.1) y10.2.2.2.2.2.2.2.1 y10.2.2.2.2.2.2.2.2.1 (k9 i) y10.2.2.2.2.2.2.2.2.2,y10.1)):=by
  refine (RP.list (ι:=ι) (m:=m) (R:=aB) (f:=fun st=>mR st) (g:=fun st=>oJ st) (by':=160) (z:=gH) (LS:=fun i t y k acc st=>qZ y (Y1 i) (Y2 i) (Y3 i) (Y4 i) (Y5 i) (Y6 i,(Y7 i,(Y8 i,(Y9 i t,(k,(acc,(st.s,(st.at_,st.bad)))))))))
    (KS:=fun i t acc st=>some (aB.mk (Y1 i).1 (Y2 i).1 (Y3 i).1 (eD.mk (Y4 i).1 (Y5 i).1 (Y6 i).1) (Y7 i).1 (Y8 i).1 (Y9 i t).1 acc,st))
    (LI:=fun i t x st acc=>(vE (k9 i) x st.s st.at_ st.failed (Y1 i).1 ((Y2 i).1,((Y3 i).1,((Y4 i).1,((Y5 i).1,((Y6 i).1,((Y7 i).1,((Y8 i).1,acc)))))))).bind fun y10=>some (aB.mk y10.2.1 y10.2.2.1 y10.2.2.2.1 (eD.mk y10.2.2.2.2.1 y10.2.2.2.2.2.1 y10.2.2.2.2.2.2.1) y10.2.2.2.2.2.2.2.1 y10.2.2.2.2.2.2.2.2.1 (k9 i) y10.2.2.2.2.2.2.2.2.2,y10.1))
    (KI:=fun i t acc st=>some (aB.mk (Y1 i).1 (Y2 i).1 (Y3 i).1 (eD.mk (Y4 i).1 (Y5 i).1 (Y6 i).1) (Y7 i).1 (Y8 i).1 (k9 i) acc,st)) (by omega) hP (fun _ _ h=>h) hs (by omega) (fun _ _ y k acc st=>?_) (fun _ _ x st acc=>?_) ?_).congr (fun _ st=>rfl) (fun _ st=>?_)
  · show qZ _ _ _ _ _ _ _=_
    rw [qZ]
  · show (vE _ _ _ _ _ _ _).bind _=_
    rw [vE]
    simp only [Option.bind_eq_bind,Option.bind_some,yJ,Q9,Option.bind_assoc]
  · simp only [h9]
    exact RP.pure fun i d1 h=>by have:=hQ i.1.1 i.1.2 d1 h; simpa using this
  · rw [D9]
    simp only [Option.bind_eq_bind,Option.bind_assoc]
theorem aPm {s:List UInt8} (hs:s.length≤1048576) {m:Nat} (hE:GE s m) (hP:GP s m):GE s (m+1):=by
  have key:RP (ι:=Unit) s (m+1) (fun _ v d=>dX v+1≤d) (fun _ st=>oD st) (fun _ st=>oM st):=by
    refine RP.congr (f:=fun _ st=>_) (g:=fun _ st=>_) ?_ (fun _ st=>by rw [oD]) (fun _ st=>by rw [oM])
    refine RP.bind1 (qM hs) (fun _ _ _ h=>h) ?_; dsimp only
    refine RP.bind (qM hs) ?_; dsimp only
    refine RP.bind (aD9 hs) ?_; dsimp only
    refine RP.bind (qM hs) ?_; dsimp only
    refine RP.bind (qM hs) ?_; dsimp only
    refine RP.bind (aIc hs) ?_; dsimp only
    refine RP.bind (qM hs) ?_; dsimp only
    refine RP.bind (qM hs) ?_; dsimp only
    refine RP.bind (aA2 hs (by omega) hE) ?_; dsimp only
    refine aTk hs hP _ _ _ _ _ _ _ _ _ _ ?_ _ ?_
    · intro _ _; rfl
    intro i l d hl d1 h1 d2 h2 d3 h3 d4 h4 d5 h5 d6 h6 d7 h7 d8 h8 d9 h9
    have:∀ a b c d e f g h k,dX (aB.mk a b c (eD.mk d e f) g h k l)=f.length+zL dX k+zL gH l:=fun a b c d e f g h k=>by simp only [dX,zQ,wJ,aDn,zL]
    dsimp only at *
    rw [this]; omega
  exact key.good ()
theorem aUk {ι : Type} {s : List UInt8} (hs : s.length ≤ 1048576) {m : Nat} (b0 : ι → List Int) (b1 : ι → List (List aB)) (y12 : ι → List aB × aL) (b3 : ι → List bC) (y21 : ι → aL → List aB × aL) (k21 : ι → List aB) (c6 : ι → Bool) (c7 : ι → Int)
    (h21:∀ i st,(y21 i st).1=k21 i) (Q:ι→aU→Nat→Prop) (hQ:∀ i l f n d1,zL List.length l+1≤d1→Q i (aU.mk (b0 i) (b1 i) (y12 i).1 (b3 i) (k21 i) l f n) d1) :
    RP s m Q (fun i st=>fH st>>=fun y22=>lY y22 (b0 i) (b1 i) (y12 i) (b3 i) (y21 i st) 0 ([]:List (List UInt8)) y22.2.s y22.2.at_ y22.2.bad)
      (fun i st=>kN st (b0 i) (b1 i) (y12 i).1 (b3 i) (k21 i) (c6 i) (c7 i)>>=fun y6=>fI y6.1>>=fun y7=>eB y7.2>>=fun y8=>some (aU.mk (b0 i) (b1 i) (y12 i).1 (b3 i) (k21 i) y6.2.2.2 y7.1 y8.1,y8.2)):=by
  refine (RP.list (ι:=ι) (m:=m) (R:=aU) (f:=fun st=>jK st) (g:=fun st=>jN st) (by':=16) (z:=List.length) (LS:=fun i t y k acc st=>lY y (b0 i) (b1 i) (y12 i) (b3 i) (y21 i t) k acc st.s st.at_ st.bad)
    (KS:=fun i t acc st=>iC st>>=fun y29=>fJ y29.2>>=fun y30=>some (aU.mk (b0 i) (b1 i) (y12 i).1 (b3 i) (y21 i t).1 acc y29.1 y30.1,y30.2))
    (LI:=fun i t x st acc=>(qY (b0 i) (b1 i) (y12 i).1 (b3 i) (k21 i) x st.s st.at_ st.failed (c6 i) (c7 i) acc).bind fun y6=>fI y6.1>>=fun y7=>eB y7.2>>=fun y8=>some (aU.mk (b0 i) (b1 i) (y12 i).1 (b3 i) (k21 i) y6.2.2.2 y7.1 y8.1,y8.2))
    (KI:=fun i t acc st=>fI st>>=fun y7=>eB y7.2>>=fun y8=>some (aU.mk (b0 i) (b1 i) (y12 i).1 (b3 i) (k21 i) acc y7.1 y8.1,y8.2)) (by omega) ((aIc (ι:=Unit) hs).good ()) (fun _ _ h=>h) hs (by omega) (fun _ _ y k acc st=>?_) (fun _ _ x st acc=>?_) ?_).congr (fun _ st=>rfl) (fun _ st=>?_)
  · show lY _ _ _ _ _ _ _ _ _ _ _=_
    rw [lY]
  · show (qY _ _ _ _ _ _ _ _ _ _ _ _).bind _=_
    rw [qY]
    simp only [Option.bind_eq_bind,Option.bind_some,yJ,J5,Option.bind_assoc]
  · simp only [h21]
    refine RP.bind (aD9 hs) ?_; dsimp only
    refine RP.bind (qM hs) ?_
    refine RP.congr (RP.pure (v:=fun i=>aU.mk (b0 i.1.1.1.1.1.1) (b1 i.1.1.1.1.1.1) (y12 i.1.1.1.1.1.1).1 (b3 i.1.1.1.1.1.1) (k21 i.1.1.1.1.1.1) i.1.1.1.1.1.2 i.1.1.1.2 i.1.2) ?_) (fun _ _=>rfl) (fun _ _=>rfl)
    intro i d1 h1 d2 h2 d3 h3
    exact hQ _ _ _ _ _ (by omega)
  · rw [kN]
    simp only [Option.bind_eq_bind,Option.bind_assoc]
theorem aV1 {ι : Type} {s : List UInt8} (hs : s.length ≤ 1048576) {m : Nat} (hE : GE s m) (b0 : ι → List Int) (b1 : ι → List (List aB)) (y12 : ι → aL → List aB × aL) (k12 : ι → List aB) (c6 : ι → Bool) (c7 : ι → Int)
    (h12:∀ i st,(y12 i st).1=k12 i) (Q:ι→aU→Nat→Prop) (hQ:∀ i o w l f n d1,zL iA o+zL dX w+zL List.length l+1≤d1→Q i (aU.mk (b0 i) (b1 i) (k12 i) o w l f n) d1) :
    RP s m Q (fun i st=>fH st>>=fun y13=>mF y13 (b0 i) (b1 i) (y12 i st) 0 ([]:List bC) (y13.2.s,(y13.2.at_,y13.2.bad)))
      (fun i st=>nS st (b0 i) (b1 i) (k12 i) (c6 i) (c7 i)>>=fun y4=>iL y4.1>>=fun y5=>kN y5.2 (b0 i) (b1 i) (k12 i) y4.2.2.2 y5.1 y4.2.1 y4.2.2.1>>=fun y6=>fI y6.1>>=fun y7=>eB y7.2>>=fun y8=>some (aU.mk (b0 i) (b1 i) (k12 i) y4.2.2.2 y5.1 y6.2.2.2 y7.1 y8.1,y8.2)):=by
  refine (RP.list (ι:=ι) (m:=m) (R:=aU) (f:=fun st=>(oD st)>>=fun y18=>(iC y18.2)>>=fun y19=>some (bC.mk y18.1 y19.1,y19.2)) (g:=fun st=>(oM st)>>=fun y18=>(fI y18.2)>>=fun y19=>some (bC.mk y18.1 y19.1,y19.2)) (by':=128) (z:=iA)
    (LS:=fun i t y k acc st=>mF y (b0 i) (b1 i) (y12 i t) k acc (st.s,(st.at_,st.bad)))
    (KS:=fun i t acc st=>kV st>>=fun y21=>fH y21.2>>=fun y22=>lY y22 (b0 i) (b1 i) (y12 i t) acc y21 0 ([]:List (List UInt8)) y22.2.s y22.2.at_ y22.2.bad)
    (LI:=fun i t x st acc=>(uT (b0 i) (b1 i) (k12 i) x st.s st.at_ (st.failed,(c6 i,(c7 i,acc)))).bind fun y4=>iL y4.1>>=fun y5=>kN y5.2 (b0 i) (b1 i) (k12 i) y4.2.2.2 y5.1 y4.2.1 y4.2.2.1>>=fun y6=>fI y6.1>>=fun y7=>eB y7.2>>=fun y8=>some (aU.mk (b0 i) (b1 i) (k12 i) y4.2.2.2 y5.1 y6.2.2.2 y7.1 y8.1,y8.2))
    (KI:=fun i t acc st=>iL st>>=fun y5=>kN y5.2 (b0 i) (b1 i) (k12 i) acc y5.1 (c6 i) (c7 i)>>=fun y6=>fI y6.1>>=fun y7=>eB y7.2>>=fun y8=>some (aU.mk (b0 i) (b1 i) (k12 i) acc y5.1 y6.2.2.2 y7.1 y8.1,y8.2)) (by omega) (Qe:=fun v d=>iA v+1≤d) ?_ (fun _ _ h=>h) hs (by omega) (fun _ _ y k acc st=>?_) (fun _ _ x st acc=>?_) ?_).congr (fun _ st=>rfl) (fun _ st=>?_)
  · intro a ha hm
    have hf:=fun b hb (hmb:s.length - b<m)=>(aD9 (ι:=Unit) hs (m:=m)).good () b hb hmb
    rcases hE a ha hm with ⟨v,b,e1,e2,k1,k2,k3⟩ | ⟨v,v',b,b',e1,e2,k⟩
    · dsimp only at e1 e2
      simp only [e1,e2,Option.bind_eq_bind,Option.bind_some]
      rcases hf b k2 (by omega) with ⟨w,c,j1,j2,j3,j4,j5⟩ | ⟨w,w',c,c',j1,j2,j3⟩
      · dsimp only at j1 j2
        refine .inl ⟨bC.mk v w,c,by simp [j1],by simp [j2],by omega,j4,?_⟩
        have:iA (bC.mk v w)=dX v:=by simp only [iA]
        show iA (bC.mk v w)+1≤c - a
        rw [this]; omega
      · dsimp only at j1 j2
        exact .inr ⟨bC.mk v w,bC.mk v w',c,c',by simp [j1],by simp [j2],j3⟩
    · dsimp only at e1 e2
      simp only [e1,e2,Option.bind_eq_bind,Option.bind_some]
      obtain ⟨w,hw⟩:=(C9 s hs).1 b
      obtain ⟨w',hw'⟩:=(C9 s hs).2 b' k
      dsimp only at hw hw'
      exact .inr ⟨bC.mk v w,bC.mk v' w',b,b',by simp [hw],by simp [hw'],k⟩
  · show mF _ _ _ _ _ _ _=_
    rw [mF]
    simp only [Option.bind_eq_bind,Option.bind_assoc,Option.bind_some]
  · show (uT _ _ _ _ _ _ _).bind _=_
    rw [uT]
    simp only [Option.bind_eq_bind,Option.bind_some,yJ,zH,Option.bind_assoc]
  · refine RP.bind (aA2 hs (by omega) hE) ?_; dsimp only
    refine (aUk hs (fun i=>b0 i.1.1.1.1) (fun i=>b1 i.1.1.1.1) (fun i=>(y12 i.1.1.1.1 i.1.1.2.1)) (fun i=>i.1.1.1.2) (fun i st=>(i.1.2,st)) (fun i=>i.1.2) (fun i=>c6 i.1.1.1.1) (fun i=>c7 i.1.1.1.1) (fun _ _=>rfl) _ ?_).congr (fun _ _=>rfl) (fun i _=>by simp only [h12])
    intro i l f n d1 h1 d2 h2 d3 h3
    rw [h12]
    exact hQ _ _ _ _ _ _ _ (by omega)
  · rw [nS]
    simp only [Option.bind_eq_bind,Option.bind_assoc]
theorem aTp {ι : Type} {s : List UInt8} (hs : s.length ≤ 1048576) {m : Nat} (hE : GE s m) (b0 : ι → List Int) (c6 : ι → Bool) (c7 : ι → Int)
    (Q:ι→aU→Nat→Prop) (hQ:∀ i n w' o w l f k d1,zL (zL dX) n+zL dX w'+zL iA o+zL dX w+zL List.length l+1≤d1→Q i (aU.mk (b0 i) n w' o w l f k) d1) :
    RP s m Q (fun i st=>fH st>>=fun y5=>mZ y5 (b0 i) 0 ([]:List (List aB)) y5.2.s y5.2.at_ y5.2.bad)
      (fun i st=>uB st (b0 i) (c6 i) (c7 i)>>=fun y2=>iL y2.1>>=fun y3=>nS y3.2 (b0 i) y2.2.2.2 y3.1 y2.2.1 y2.2.2.1>>=fun y4=>iL y4.1>>=fun y5=>kN y5.2 (b0 i) y2.2.2.2 y3.1 y4.2.2.2 y5.1 y4.2.1 y4.2.2.1>>=fun y6=>fI y6.1>>=fun y7=>eB y7.2>>=fun y8=>some (aU.mk (b0 i) y2.2.2.2 y3.1 y4.2.2.2 y5.1 y6.2.2.2 y7.1 y8.1,y8.2)):=by
  refine (RP.list (ι:=ι) (m:=m) (R:=aU) (f:=fun st=>kV st) (g:=fun st=>iL st) (by':=24) (z:=zL dX)
    (LS:=fun i t y k acc st=>mZ y (b0 i) k acc st.s st.at_ st.bad)
    (KS:=fun i t acc st=>kV st>>=fun y12=>fH y12.2>>=fun y13=>mF y13 (b0 i) acc y12 0 ([]:List bC) (y13.2.s,(y13.2.at_,y13.2.bad)))
    (LI:=fun i t x st acc=>(uE (b0 i) x st.s st.at_ st.failed (c6 i) (c7 i,acc)).bind fun y2=>iL y2.1>>=fun y3=>nS y3.2 (b0 i) y2.2.2.2 y3.1 y2.2.1 y2.2.2.1>>=fun y4=>iL y4.1>>=fun y5=>kN y5.2 (b0 i) y2.2.2.2 y3.1 y4.2.2.2 y5.1 y4.2.1 y4.2.2.1>>=fun y6=>fI y6.1>>=fun y7=>eB y7.2>>=fun y8=>some (aU.mk (b0 i) y2.2.2.2 y3.1 y4.2.2.2 y5.1 y6.2.2.2 y7.1 y8.1,y8.2))
    (KI:=fun i t acc st=>iL st>>=fun y3=>nS y3.2 (b0 i) acc y3.1 (c6 i) (c7 i)>>=fun y4=>iL y4.1>>=fun y5=>kN y5.2 (b0 i) acc y3.1 y4.2.2.2 y5.1 y4.2.1 y4.2.2.1>>=fun y6=>fI y6.1>>=fun y7=>eB y7.2>>=fun y8=>some (aU.mk (b0 i) acc y3.1 y4.2.2.2 y5.1 y6.2.2.2 y7.1 y8.1,y8.2)) (by omega) ((aA2 (ι:=Unit) hs (by omega) hE).good ()) (fun _ _ h=>h) hs (by omega) (fun _ _ y k acc st=>?_) (fun _ _ x st acc=>?_) ?_).congr (fun _ st=>rfl) (fun _ st=>?_)
  · show mZ _ _ _ _ _ _ _=_
    rw [mZ]
  · show (uE _ _ _ _ _ _ _).bind _=_
    rw [uE]
    simp only [Option.bind_eq_bind,Option.bind_some,yJ,Q3,Option.bind_assoc]
  · refine RP.bind (aA2 hs (by omega) hE) ?_; dsimp only
    refine (aV1 hs hE (fun i=>b0 i.1.1.1.1) (fun i=>i.1.1.1.2) (fun i st=>(i.1.2,st)) (fun i=>i.1.2) (fun i=>c6 i.1.1.1.1) (fun i=>c7 i.1.1.1.1) (fun _ _=>rfl) _ ?_).congr (fun _ _=>rfl) (fun _ _=>rfl)
    intro i o w l f n d1 h1 d2 h2 d3 h3
    exact hQ _ _ _ _ _ _ _ _ _ (by omega)
  · rw [uB]
    simp only [Option.bind_eq_bind,Option.bind_assoc]
theorem aOa {s:List UInt8} (hs:s.length≤1048576) {m:Nat} (hE:GE s m):GP s (m+1):=by
  have key:RP (ι:=Unit) s (m+1) (fun _ v d=>gH v+1≤d) (fun _ st=>mR st) (fun _ st=>oJ st):=by
    refine (RP.list (ι:=Unit) (m:=m) (R:=aU) (f:=fun st=>fJ st) (g:=fun st=>eB st) (by':=8) (z:=z0) (Qe:=fun _ d=>1≤d)
      (LS:=fun i t y k acc st=>nW y k acc st.s st.at_ st.bad)
      (KS:=fun i t acc st=>fH st>>=fun y5=>mZ y5 acc 0 ([]:List (List aB)) y5.2.s y5.2.at_ y5.2.bad)
      (LI:=fun i t x st acc=>(qU x st.s st.at_ st.failed false 0 acc).bind fun y1=>uB y1.1 y1.2.2.2 y1.2.1 y1.2.2.1>>=fun y2=>iL y2.1>>=fun y3=>nS y3.2 y1.2.2.2 y2.2.2.2 y3.1 y2.2.1 y2.2.2.1>>=fun y4=>iL y4.1>>=fun y5=>kN y5.2 y1.2.2.2 y2.2.2.2 y3.1 y4.2.2.2 y5.1 y4.2.1 y4.2.2.1>>=fun y6=>fI y6.1>>=fun y7=>eB y7.2>>=fun y8=>some (aU.mk y1.2.2.2 y2.2.2.2 y3.1 y4.2.2.2 y5.1 y6.2.2.2 y7.1 y8.1,y8.2))
      (KI:=fun i t acc st=>uB st acc false 0>>=fun y2=>iL y2.1>>=fun y3=>nS y3.2 acc y2.2.2.2 y3.1 y2.2.1 y2.2.2.1>>=fun y4=>iL y4.1>>=fun y5=>kN y5.2 acc y2.2.2.2 y3.1 y4.2.2.2 y5.1 y4.2.1 y4.2.2.1>>=fun y6=>fI y6.1>>=fun y7=>eB y7.2>>=fun y8=>some (aU.mk acc y2.2.2.2 y3.1 y4.2.2.2 y5.1 y6.2.2.2 y7.1 y8.1,y8.2)) (by omega) ((qM (ι:=Unit) hs).good ()) (fun _ _ h=>by simp only [z0]; omega) hs (by omega) (fun _ _ y k acc st=>?_) (fun _ _ x st acc=>?_) ?_).congr (fun _ st=>?_) (fun _ st=>?_)
    · show nW _ _ _ _ _ _=_
      rw [nW]
    · show (qU _ _ _ _ _ _ _).bind _=_
      rw [qU]
      simp only [Option.bind_eq_bind,Option.bind_some,yJ,G7,Option.bind_assoc]
    · refine (aTp hs hE (fun i=>i.1.2) (fun _=>false) (fun _=>0) _ ?_).congr (fun _ _=>rfl) (fun _ _=>rfl)
      intro i n w' o w l f k d1 h1 d2 h2
      have:gH (aU.mk i.1.2 n w' o w l f k)=zL z0 i.1.2+zL (zL dX) n+zL dX w'+zL iA o+zL dX w+zL List.length l:=by simp only [gH,wJ,aDx,aD3,zL]
      rw [this]; omega
    · rw [mR]
    · rw [oJ,zK]
      simp only [Option.bind_eq_bind,Option.bind_assoc]
  exact key.good ()
theorem M8 {s:List UInt8} (hs:s.length≤1048576):∀ m,GE s m∧GP s m
  | 0=>⟨fun a _ h=>by omega,fun a _ h=>by omega⟩
  | m+1=>⟨aPm hs (M8 hs m).1 (M8 hs m).2,aOa hs (M8 hs m).1⟩
theorem aR7:∀ (n:Nat) (x:Int) (t:List UInt8),0≤x→x<10 ^ n→x≤1000000000000→t.length+n≤100→∃ s,sV x t=some s:=by
  intro n
  have cat:∀ a b:List UInt8,a.length+b.length≤200→vX a b=some (a++b):=fun a b h=>by unfold vX; rw [if_pos (by simp only [maxLen]; omega)]
  induction n with
  | zero =>
    intro x t h0 h1 _ ht
    rw [sV,if_neg (by simp at h1 ⊢; omega)]
    rw [cat _ _ (by simp; omega)]
    exact ⟨_,rfl⟩
  | succ n ih =>
    intro x t h0 h1 hb ht
    rw [sV]
    by_cases hx:0<x
    · rw [if_pos (by simpa using hx)]
      have e:ofBytes [IntKind.wrap .u8 (IntKind.wrap .i64 (48+Int.tmod x 10))]=some [UInt8.ofNat (IntKind.wrap .u8 (IntKind.wrap .i64 (48+Int.tmod x 10))).toNat]:=by
        unfold ofBytes
        rw [if_pos (by simp [IntKind.wrap,IntKind.bits,IntKind.signed]; omega)]
        rfl
      rw [e]
      simp only [Option.bind_eq_bind,Option.bind_some]
      rw [cat _ _ (by simp; omega)]
      simp only [Option.bind_some]
      have ed:Int.tdiv x 10=x / 10:=Int.tdiv_eq_ediv_of_nonneg (by omega)
      have ed2:x / 10<10 ^ n:=by
        have:x<10 ^ n * 10:=by rw [Int.pow_succ] at h1; exact h1
        exact Int.ediv_lt_of_lt_mul (by omega) this
      rw [ed,iI (by omega) (by omega)]
      exact ih _ _ (by omega) ed2 (by omega) (by simp; omega)
    · rw [if_neg (by simpa using hx)]
      rw [cat _ _ (by simp; omega)]
      exact ⟨_,rfl⟩
def mt (k:Int):List UInt8:=(jQ k).getD []
theorem vY {k:Int} (h0:0≤k) (h1:k≤1000000000000):jQ k=some (mt k):=by
  have:∃ s,jQ k=some s:=by
    unfold jQ
    split
    · exact ⟨_,rfl⟩
    · exact aR7 20 k [] h0 (by omega) h1 (by simp)
  obtain ⟨s,hs⟩:=this
  simp [mt,hs]
theorem aTj {α : Type} {LM : Int → Int → List α → Option (Int × List α)} {LH : List α → Int → Int → Option Int} {z : α → Nat} {B : Int}
    (hend:∀ k (m:List α),LM k (m.length:Int) m=some (k,m)) (hend2:∀ k (m:List α),LH m k (m.length:Int)=some k) :
    ∀ (r:Nat) (i:Nat) (m:List α) (k:Int),m.length=i+r→m.length≤1048576 →
    (∀ y ∈ m.drop i,∀ k,0≤k→k+13 * (1+z y:Nat)≤B→∃ k1 y',k≤k1∧k1≤k+13 * (1+z y:Nat) ∧
      (∀ (m:List α) (i:Nat),i<m.length→m.length≤1048576→m[i]?=some y→LM k (i:Int) m=LM k1 ((i+1:Nat):Int) (m.set i y')) ∧
      (∀ (M:List α) (i:Nat),i<M.length→M.length≤1048576→M[i]?=some y'→LH M k (i:Int)=LH M k1 ((i+1:Nat):Int))) →
    0≤k→k+13 * ((m.drop i).length+((m.drop i).map z).sum:Nat)≤B →
    ∃ m' k',LM k (i:Int) m=some (k',m')∧m'.length=m.length∧m'.take i=m.take i∧(∀ M:List α,M.length=m'.length→M.drop i=m'.drop i→LH M k (i:Int)=some k')∧k≤k'∧k'≤k+13 * ((m.drop i).length+((m.drop i).map z).sum:Nat):=by
  intro r
  induction r with
  | zero =>
    intro i m k hl _ _ h0 hk
    have e:i=m.length:=by omega
    subst e
    refine ⟨m,k,hend k m,rfl,rfl,fun M hM _=>?_,by omega,by simp⟩
    rw [← hM]; exact hend2 k M
  | succ r ih =>
    intro i m k hl hsm H h0 hk
    have hi:i<m.length:=by omega
    have hd:m.drop i=m[i]::m.drop (i+1):=List.drop_eq_getElem_cons hi
    rw [hd] at hk H
    simp only [List.length_cons,List.map_cons,List.sum_cons] at hk
    obtain ⟨k1,y',a1,a2,a3,a4⟩:=H m[i] List.mem_cons_self k h0 (by omega)
    have hset:(m.set i y').drop (i+1)=m.drop (i+1):=List.drop_set_of_lt (by omega)
    obtain ⟨m',k',b1,b2,b3,b4,b5,b6⟩:=ih (i+1) (m.set i y') k1 (by simp; omega) (by simpa using hsm) (by rw [hset]; exact fun y hy=>H y (List.mem_cons_of_mem _ hy)) (by omega) (by rw [hset]; omega)
    rw [hset] at b6
    rw [List.length_set] at b2
    have hm'i:m'[i]?=some y':=by
      have:(m'.take (i+1))[i]?=((m.set i y').take (i+1))[i]?:=by rw [b3]
      rw [List.getElem?_take_of_lt (by omega),List.getElem?_take_of_lt (by omega)] at this
      rw [this]; simp [hi]
    refine ⟨m',k',?_,b2,?_,fun M hM hMd=>?_,by omega,?_⟩
    · rw [a3 m i hi hsm (by simp [hi]),b1]
    · have:(m'.take (i+1)).take i=((m.set i y').take (i+1)).take i:=by rw [b3]
      rw [List.take_take,List.take_take,Nat.min_eq_left (by omega),List.take_set_of_le (Nat.le_refl _)] at this
      exact this
    · have hMi : M[i]? = some y' := by
        have:(M.drop i)[0]?=(m'.drop i)[0]?:=by rw [hMd]
        simpa [hm'i] using this
      rw [a4 M i (by omega) (by omega) hMi]
      refine b4 M hM ?_
      have:(M.drop i).drop 1=(m'.drop i).drop 1:=by rw [hMd]
      simpa [List.drop_drop,Nat.add_comm] using this
    · rw [hd]
      simp only [List.length_cons,List.map_cons,List.sum_cons]; omega
theorem wE {α : Type} {LM : Int → Int → List α → Option (Int × List α)} {LH : List α → Int → Int → Option Int} {z : α → Nat} {B : Int}
    (hend:∀ k (m:List α),LM k (m.length:Int) m=some (k,m)) (hend2:∀ k (m:List α),LH m k (m.length:Int)=some k) (l:List α) (k:Int) (hl:l.length≤1048576)
    (H:∀ y ∈ l,∀ k,0≤k→k+13 * (1+z y:Nat)≤B→∃ k1 y',k≤k1∧k1≤k+13 * (1+z y:Nat) ∧
      (∀ (m:List α) (i:Nat),i<m.length→m.length≤1048576→m[i]?=some y→LM k (i:Int) m=LM k1 ((i+1:Nat):Int) (m.set i y')) ∧
      (∀ (M:List α) (i:Nat),i<M.length→M.length≤1048576→M[i]?=some y'→LH M k (i:Int)=LH M k1 ((i+1:Nat):Int)))
    (h0:0≤k) (hk:k+13 * (l.length+(l.map z).sum:Nat)≤B) :
    ∃ l' k',LM k 0 l=some (k',l')∧LH l' k 0=some k'∧k≤k'∧k'≤k+13 * (l.length+(l.map z).sum:Nat):=by
  obtain ⟨m',k',b1,b2,b3,b4,b5,b6⟩:=aTj (z:=z) (B:=B) hend hend2 l.length 0 l k (by omega) hl (by simpa using H) h0 (by simpa using hk)
  exact ⟨m',k',by simpa using b1,by simpa using b4 m' rfl rfl,b5,by simpa using b6⟩
theorem w1 {j:Int} (h0:0≤j) (h1:j≤1000000000000):IntKind.wrap .i64 (j+1)=j+1:=iI (by omega) (by omega)
theorem rZ {α:Type} {z:α→Nat} {l:List α} {y:α} (h:y ∈ l):z y+1≤zL z l:=by
  have h1:=aKl (z:=z) h
  have h2:=List.length_pos_of_mem h
  unfold zL; omega
theorem zXp (x:aB):zL dX x.kids+zL gH x.sub≤dX x:=by
  obtain ⟨a0,a1,a2,⟨b0,b1,b2⟩,a4,a5,a6,a7⟩:=x
  simp only [dX,zQ,wJ,aDn,zL]; omega
theorem zPp (q:aU):zL z0 q.tables+zL (zL dX) q.on_+zL dX q.where_+zL iA q.order+zL dX q.items+zL List.length q.names≤gH q:=by
  obtain ⟨a0,a1,a2,a3,a4,a5,a6,a7⟩:=q
  simp only [gH,wJ,aDx,aD3,zL]; omega
theorem zSp (k:bC):dX k.expr≤iA k:=by obtain ⟨a,b⟩:=k; simp only [iA]; omega
def MK {α:Type} (M:List α→Int→Option (Int×List α)) (H:List α→Int→Option Int) (z:α→Nat) (l:List α):Prop :=
  ∀ k:Int,0≤k→k+13 * (zL z l:Nat)≤1000000000→∃ l' k',M l k=some (k',l')∧H l' k=some k'∧k≤k'∧k'≤k+13 * (zL z l:Nat)
def MX (l:List aB):Prop:=MK kT nL dX l
def MP (l:List aU):Prop:=MK xP yL gH l
theorem aJw (l:List Int) (hl:l.length≤1048576):MK qQ vR z0 l:=by
  intro k h0 hk
  refine Exists.elim (wE (LM:=fun k i m=>oZ k i m) (LH:=fun m k i=>oL m k i) (z:=z0) (B:=1000000000) (fun k m=>by rw [oZ]; simp) (fun k m=>by rw [oL]; simp) l k hl ?_ h0 hk) fun l' hx=>Exists.elim hx fun k' ⟨a1,a2,a3,a4⟩=>⟨l',k',by rw [qQ]; exact a1,by rw [vR]; exact a2,a3,a4⟩
  intro y hy k h0 hk
  refine ⟨k+1,k,by omega,by omega,fun m i hi hm hg=>?_,fun M i hi hm hg=>?_⟩
  · show oZ k (i:Int) m=_
    rw [oZ]
    simp (disch:=omega) only [kR,hi,decide_true,if_true,kG,hg,Option.bind_eq_bind,Option.bind_some,w1,Int.toNat_natCast]
    rfl
  · show oL M k (i:Int)=_
    rw [oL]
    simp (disch:=omega) only [kR,hi,decide_true,if_true,kG,hg,Option.bind_eq_bind,Option.bind_some,w1,eq_self,Bool.not_true,Bool.false_eq_true,if_false,decide_false]
    rfl
theorem aGr (l:List (List UInt8)) (hl:l.length≤1048576):MK qR wW List.length l:=by
  intro k h0 hk
  refine Exists.elim (wE (LM:=fun k i m=>oO k i m) (LH:=fun m k i=>pQ m k i) (z:=List.length) (B:=1000000000) (fun k m=>by rw [oO]; simp) (fun k m=>by rw [pQ]; simp) l k hl ?_ h0 hk) fun l' hx=>Exists.elim hx fun k' ⟨a1,a2,a3,a4⟩=>⟨l',k',by rw [qR]; exact a1,by rw [wW]; exact a2,a3,a4⟩
  intro y hy k h0 hk
  refine ⟨k+1,mt k,by omega,by omega,fun m i hi hm hg=>?_,fun M i hi hm hg=>?_⟩
  · show oO k (i:Int) m=_
    rw [oO]
    simp (disch:=omega) only [kR,hi,decide_true,if_true,kG,hg,Option.bind_eq_bind,Option.bind_some,w1,vY,Int.toNat_natCast]
    rfl
  · show pQ M k (i:Int)=_
    rw [pQ]
    simp (disch:=omega) only [kR,hi,decide_true,if_true,kG,hg,Option.bind_eq_bind,Option.bind_some,w1,vY,eq_self,Bool.not_true,Bool.false_eq_true,if_false,decide_false]
    rfl
theorem aGp {l:List aB} (hl:l.length≤1048576) (hE:∀ y ∈ l,MX y.kids) (hQ:∀ y ∈ l,MP y.sub):MX l:=by
  intro k h0 hk
  refine Exists.elim (wE (LM:=fun k i m=>qN k i m) (LH:=fun m k i=>rJ m k i) (z:=dX) (B:=1000000000) (fun k m=>by rw [qN]; simp) (fun k m=>by rw [rJ]; simp) l k hl ?_ h0 hk) fun l' hx=>Exists.elim hx fun k' ⟨a1,a2,a3,a4⟩=>⟨l',k',by rw [kT]; exact a1,by rw [nL]; exact a2,a3,a4⟩
  intro y hy k h0 hk
  have hzE:=zXp y
  obtain ⟨la,ka,b1,b2,b3,b4⟩:=hE y hy (k+1+1+1+1+1+1+1+1) (by omega) (by omega)
  obtain ⟨lb,kb,c1,c2,c3,c4⟩:=hQ y hy ka (by omega) (by omega)
  have n1:¬ ka<0:=by omega
  have n2:¬ kb<0:=by omega
  refine ⟨kb,aB.mk k (k+1) (decide (Int.tmod (k+1+1) 3=0)) ⟨k+1+1+1,k+1+1+1+1,mt (k+1+1+1+1+1)⟩ (k+1+1+1+1+1+1) (k+1+1+1+1+1+1+1) la lb,by omega,by omega,fun m i hi hm hg=>?_,fun M i hi hm hg=>?_⟩
  · show qN k (i:Int) m=_
    rw [qN]
    simp (disch:=omega) only [kR,hi,decide_true,if_true,kG,hg,Option.bind_eq_bind,Option.bind_some,w1,vY,b1,c1,Int.toNat_natCast]
    rfl
  · show rJ M k (i:Int)=_
    rw [rJ]
    simp (disch:=omega) only [kR,hi,decide_true,if_true,kG,hg,Option.bind_eq_bind,Option.bind_some,w1,vY,eq_self,Bool.not_true,Bool.false_eq_true,if_false,decide_false,beq_self_eq_true,b2,c2,n1,n2]
    rfl
theorem aHn {l:List (List aB)} (hl:l.length≤1048576) (hE:∀ y ∈ l,MX y):MK sN tN (zL dX) l:=by
  intro k h0 hk
  refine Exists.elim (wE (LM:=fun k i m=>rU k i m) (LH:=fun m k i=>qO m k i) (z:=zL dX) (B:=1000000000) (fun k m=>by rw [rU]; simp) (fun k m=>by rw [qO]; simp) l k hl ?_ h0 hk) fun l' hx=>Exists.elim hx fun k' ⟨a1,a2,a3,a4⟩=>⟨l',k',by rw [sN]; exact a1,by rw [tN]; exact a2,a3,a4⟩
  intro y hy k h0 hk
  obtain ⟨la,ka,b1,b2,b3,b4⟩:=hE y hy k (by omega) (by omega)
  have n1:¬ ka<0:=by omega
  refine ⟨ka,la,by omega,by omega,fun m i hi hm hg=>?_,fun M i hi hm hg=>?_⟩
  · show rU k (i:Int) m=_
    rw [rU]
    simp (disch:=omega) only [kR,hi,decide_true,if_true,kG,hg,Option.bind_eq_bind,Option.bind_some,w1,b1,Int.toNat_natCast]
    rfl
  · show qO M k (i:Int)=_
    rw [qO]
    simp (disch:=omega) only [kR,hi,decide_true,if_true,kG,hg,Option.bind_eq_bind,Option.bind_some,w1,Bool.false_eq_true,if_false,decide_false,b2,n1]
    rfl
set_option maxHeartbeats 1000000 in
theorem aJ9 {l:List bC} (hl:l.length≤1048576) (hE:∀ y ∈ l,MX y.expr.kids) (hQ:∀ y ∈ l,MP y.expr.sub):MK rQ uC iA l:=by
  intro k h0 hk
  refine Exists.elim (wE (LM:=fun k i m=>oQ k i m) (LH:=fun m k i=>oH m k i) (z:=iA) (B:=1000000000) (fun k m=>by rw [oQ]; simp) (fun k m=>by rw [oH]; simp) l k hl ?_ h0 hk) fun l' hx=>Exists.elim hx fun k' ⟨a1,a2,a3,a4⟩=>⟨l',k',by rw [rQ]; exact a1,by rw [uC]; exact a2,a3,a4⟩
  intro y hy k h0 hk
  have hzE:=zXp y.expr
  have hzI:=zSp y
  obtain ⟨la,ka,b1,b2,b3,b4⟩:=hE y hy (k+1+1+1+1+1+1+1+1) (by omega) (by omega)
  obtain ⟨lb,kb,c1,c2,c3,c4⟩:=hQ y hy ka (by omega) (by omega)
  have n1:¬ ka<0:=by omega
  have n2:¬ kb<0:=by omega
  refine ⟨kb+1,bC.mk (aB.mk k (k+1) (decide (Int.tmod (k+1+1) 3=0)) ⟨k+1+1+1,k+1+1+1+1,mt (k+1+1+1+1+1)⟩ (k+1+1+1+1+1+1) (k+1+1+1+1+1+1+1) la lb) (decide (Int.tmod kb 3=0)),by omega,by omega,fun m i hi hm hg=>?_,fun M i hi hm hg=>?_⟩
  · show oQ k (i:Int) m=_
    rw [oQ]
    simp (disch:=omega) only [kR,hi,decide_true,if_true,kG,hg,Option.bind_eq_bind,Option.bind_some,w1,vY,b1,c1,Int.toNat_natCast]
    rfl
  · show oH M k (i:Int)=_
    rw [oH]
    simp (disch:=omega) only [kR,hi,decide_true,if_true,kG,hg,Option.bind_eq_bind,Option.bind_some,w1,vY,eq_self,Bool.not_true,Bool.false_eq_true,if_false,decide_false,beq_self_eq_true,b2,c2,n1,n2]
    rfl
set_option maxHeartbeats 1000000 in
theorem aH9 {l:List aU} (hl:l.length≤1048576) (h1:∀ y ∈ l,y.tables.length≤1048576) (h2:∀ y ∈ l,MK sN tN (zL dX) y.on_) (h3:∀ y ∈ l,MX y.where_) (h4:∀ y ∈ l,MK rQ uC iA y.order) (h5:∀ y ∈ l,MX y.items) (h6:∀ y ∈ l,y.names.length≤1048576):MP l:=by
  intro k h0 hk
  refine Exists.elim (wE (LM:=fun k i m=>qJ k i m) (LH:=fun m k i=>qV m k i) (z:=gH) (B:=1000000000) (fun k m=>by rw [qJ]; simp) (fun k m=>by rw [qV]; simp) l k hl ?_ h0 hk) fun l' hx=>Exists.elim hx fun k' ⟨a1,a2,a3,a4⟩=>⟨l',k',by rw [xP]; exact a1,by rw [yL]; exact a2,a3,a4⟩
  intro y hy k h0 hk
  have hz:=zPp y
  obtain ⟨l1,k1,b1,b2,b3,b4⟩:=aJw y.tables (h1 y hy) k (by omega) (by omega)
  obtain ⟨l2,k2,c1,c2,c3,c4⟩:=h2 y hy k1 (by omega) (by omega)
  obtain ⟨l3,k3,d1,d2,d3,d4⟩:=h3 y hy k2 (by omega) (by omega)
  obtain ⟨l4,k4,e1,e2,e3,e4⟩:=h4 y hy k3 (by omega) (by omega)
  obtain ⟨l5,k5,f1,f2,f3,f4⟩:=h5 y hy k4 (by omega) (by omega)
  obtain ⟨l6,k6,g1,g2,g3,g4⟩:=aGr y.names (h6 y hy) k5 (by omega) (by omega)
  have n1:¬ k1<0:=by omega
  have n2:¬ k2<0:=by omega
  have n3:¬ k3<0:=by omega
  have n4:¬ k4<0:=by omega
  have n5:¬ k5<0:=by omega
  have n6:¬ k6<0:=by omega
  refine ⟨k6+1+1,aU.mk l1 l2 l3 l4 l5 l6 (decide (Int.tmod k6 3=0)) (k6+1),by omega,by omega,fun m i hi hm hg=>?_,fun M i hi hm hg=>?_⟩
  · show qJ k (i:Int) m=_
    rw [qJ]
    simp (disch:=omega) only [kR,hi,decide_true,if_true,kG,hg,Option.bind_eq_bind,Option.bind_some,w1,b1,c1,d1,e1,f1,g1,Int.toNat_natCast]
    rfl
  · show qV M k (i:Int)=_
    rw [qV]
    simp only [kR,hi,decide_true,if_true,kG,hg,Option.bind_eq_bind,Option.bind_some]
    simp only [b2,n1,decide_false,Bool.false_eq_true,if_false,Option.bind_some]
    simp only [c2,n2,decide_false,Bool.false_eq_true,if_false,Option.bind_some]
    simp only [d2,n3,decide_false,Bool.false_eq_true,if_false,Option.bind_some]
    simp only [e2,n4,decide_false,Bool.false_eq_true,if_false,Option.bind_some]
    simp only [f2,n5,decide_false,Bool.false_eq_true,if_false,Option.bind_some]
    simp only [g2,n6,decide_false,Bool.false_eq_true,if_false,Option.bind_some,beq_self_eq_true,Bool.not_true]
    simp (disch:=omega) only [w1,eq_self,decide_true,Bool.not_true,Bool.false_eq_true,if_false]
    rfl
theorem lK {α:Type} {z:α→Nat} (l:List α):l.length≤zL z l:=by unfold zL; omega
theorem aIu:∀ n:Nat,n≤1048576→(∀ l:List aB,zL dX l≤n→MX l)∧(∀ l:List aU,zL gH l≤n→MP l):=by
  intro n
  induction n with
  | zero =>
    intro _
    refine ⟨fun l h=>?_,fun l h=>?_⟩
    · have:l=[]:=List.eq_nil_of_length_eq_zero (by have:=lK (z:=dX) l; omega)
      subst this; exact aGp (by simp) (by simp) (by simp)
    · have:l=[]:=List.eq_nil_of_length_eq_zero (by have:=lK (z:=gH) l; omega)
      subst this; exact aH9 (by simp) (by simp) (by simp) (by simp) (by simp) (by simp) (by simp)
  | succ n ih =>
    intro hn
    obtain ⟨i1,i2⟩:=ih (by omega)
    refine ⟨fun l h=>aGp (by have:=lK (z:=dX) l; omega) (fun y hy=>i1 _ ?_) (fun y hy=>i2 _ ?_),fun l h=>?_⟩
    · have:=rZ (z:=dX) hy; have:=zXp y; omega
    · have:=rZ (z:=dX) hy; have:=zXp y; omega
    · have key:∀ y ∈ l,zL z0 y.tables+zL (zL dX) y.on_+zL dX y.where_+zL iA y.order+zL dX y.items+zL List.length y.names≤n:=fun y hy=>by have:=rZ (z:=gH) hy; have:=zPp y; omega
      refine aH9 (by have:=lK (z:=gH) l; omega) (fun y hy=>?_) (fun y hy=>aHn ?_ fun x hx=>i1 _ ?_) (fun y hy=>i1 _ ?_) (fun y hy=>aJ9 ?_ (fun x hx=>i1 _ ?_) fun x hx=>i2 _ ?_) (fun y hy=>i1 _ ?_) (fun y hy=>?_)
      · have:=key y hy; have:=lK (z:=z0) y.tables; omega
      · have:=key y hy; have:=lK (z:=zL dX) y.on_; omega
      · have:=key y hy; have:=rZ (z:=zL dX) hx; omega
      · have:=key y hy; omega
      · have:=key y hy; have:=lK (z:=iA) y.order; omega
      · have:=key y hy; have:=rZ (z:=iA) hx; have:=zSp x; have:=zXp x.expr; omega
      · have:=key y hy; have:=rZ (z:=iA) hx; have:=zSp x; have:=zXp x.expr; omega
      · have:=key y hy; omega
      · have:=key y hy; have:=lK (z:=List.length) y.names; omega
theorem aRm (s:List UInt8) (hs:s.length≤1048576) (b:Int):∃ v,mR ⟨s,b,true⟩=some (v,⟨s,b,true⟩):=by
  have hP:=fun m=>(M8 hs m).1
  have e1:∀ y acc (k:Nat),nW y (k:Int) acc s b true=(fH ⟨s,b,true⟩>>=fun y5=>mZ y5 acc 0 ([]:List (List aB)) y5.2.s y5.2.at_ y5.2.bad):=fun y acc k=>by
    rw [nW]; simp
  have m0:=(zF s hs).1 b
  have x0:kV ⟨s,b,true⟩=some ([],⟨s,b,true⟩):=by
    rw [kV,m0]; simp only [Option.bind_eq_bind,Option.bind_some]; rw [qD]; simp
  obtain ⟨f,hf⟩:=(C9 s hs).1 b
  have n0:=(uJ s hs).1 b
  refine ⟨aU.mk [] [] [] [] [] [] f 0,?_⟩
  rw [mR,m0]
  simp only [Option.bind_eq_bind,Option.bind_some]
  rw [nW]
  simp only [Bool.not_true,ite_self,Option.bind_eq_bind,Option.bind_some,Bool.false_eq_true,if_false,m0]
  rw [mZ]
  simp only [Bool.not_true,ite_self,Option.bind_eq_bind,Option.bind_some,Bool.false_eq_true,if_false,m0,x0]
  rw [mF]
  simp only [Bool.not_true,ite_self,Option.bind_eq_bind,Option.bind_some,Bool.false_eq_true,if_false,m0,x0]
  rw [lY]
  dsimp only at hf
  simp only [Bool.not_true,ite_self,Option.bind_eq_bind,Option.bind_some,Bool.false_eq_true,if_false,hf,n0]
theorem aRv (s:List UInt8) (a:Int) (hs:s.length≤1048576):∃ r,pE s a=some r∧wK s a=some r∧gH r.1≤20000:=by
  have z0':gH (aU.mk [] [] [] [] [] [] false 0)≤20000:=by simp [gH,mJ,qB,qH,zL]
  by_cases h:s.length≤20000∧0≤a∧a≤(s.length:Int)
  · obtain ⟨n,rfl⟩:∃ n:Nat,a=(n:Int):=⟨a.toNat,by omega⟩
    have e1:qC s (n:Int)=some (⟨s,(n:Int),false⟩,true):=by
      rw [qC]
      have h1:((s.length:Nat):Int)≤20000:=by omega
      have h2:n≤s.length:=by omega
      simp [h1,h2]
    have e2:tF s (n:Int)=some ⟨s,(n:Int),false⟩:=by
      rw [tF]
      have h1:¬ (20000:Int)<((s.length:Nat):Int):=by omega
      have h2:n≤s.length:=by omega
      simp [h1,h2,sIn]
    rw [pE,wK,e1,e2]
    simp only [Option.bind_eq_bind,Option.bind_some,Bool.not_true,Bool.false_eq_true,if_false]
    rcases (M8 hs (s.length+1)).2 n (by omega) (by omega) with ⟨v,b,j1,j2,j3,j4,j5⟩ | ⟨v,v',b,b',j1,j2,j3⟩
    · dsimp only at j1 j2
      simp only [j1,j2,Option.bind_some,Bool.false_eq_true,if_false]
      exact ⟨_,rfl,rfl,by show gH v≤20000; omega⟩
    · dsimp only at j1 j2
      simp only [j1,j2,Option.bind_some,if_true]
      exact ⟨_,rfl,rfl,z0'⟩
  · have e1 : ∃ r, qC s a = some (r, false) := by
      rw [qC]
      by_cases h1:((s.length:Nat):Int)≤20000
      · by_cases h2:0≤a
        · have h3:¬ a≤(s.length:Int):=fun h3=>h ⟨by omega,h2,h3⟩
          exact ⟨_,by simp [h1,h2,h3]; rfl⟩
        · exact ⟨_,by simp [h1,h2]; rfl⟩
      · exact ⟨_,by simp [h1]; rfl⟩
    have e2:tF s a=some ⟨s,a,true⟩:=by
      rw [tF]
      by_cases h1:(20000:Int)<((s.length:Nat):Int)
      · simp [h1]
      · have h2:¬ (0≤a∧a≤(s.length:Int)):=fun h2=>h ⟨by omega,h2⟩
        simp [h1,sIn]; omega
    obtain ⟨r,e1⟩:=e1
    obtain ⟨v,e3⟩:=aRm s hs a
    rw [pE,wK,e1,e2]
    simp only [Option.bind_eq_bind,Option.bind_some,Bool.not_false,if_true,e3]
    exact ⟨_,rfl,rfl,z0'⟩
theorem aSv (p:aU) (hz:gH p≤1048576):∃ k t,yN p 1=some (k,t)∧rH ⟨t.1,t.2.1,t.2.2.1,t.2.2.2.1,t.2.2.2.2.1,t.2.2.2.2.2,p.distinct,p.limit⟩ 1=some k∧1≤k:=by
  have hZ:=zPp p
  obtain ⟨M1,_⟩:=aIu (gH p) hz
  obtain ⟨M1',M2'⟩:=aIu 1048576 (by omega)
  have hk:∀ x ∈ p.order,zL dX x.expr.kids+zL gH x.expr.sub≤1048576:=fun x hx=>by have:=rZ (z:=iA) hx; have:=zSp x; have:=zXp x.expr; omega
  obtain ⟨l1,k1,b1,b2,b3,b4⟩:=aJw p.tables (by have:=lK (z:=z0) p.tables; omega) 1 (by omega) (by omega)
  obtain ⟨l2,k2,c1,c2,c3,c4⟩:=aHn (l:=p.on_) (by have:=lK (z:=zL dX) p.on_; omega) (fun y hy=>M1' y (by have:=rZ (z:=zL dX) hy; omega)) k1 (by omega) (by omega)
  obtain ⟨l3,k3,d1,d2,d3,d4⟩:=M1' p.where_ (by omega) k2 (by omega) (by omega)
  obtain ⟨l4,k4,e1,e2,e3,e4⟩:=aJ9 (l:=p.order) (by have:=lK (z:=iA) p.order; omega) (fun y hy=>M1' _ (by have:=hk y hy; omega)) (fun y hy=>M2' _ (by have:=hk y hy; omega)) k3 (by omega) (by omega)
  obtain ⟨l5,k5,f1,f2,f3,f4⟩:=M1' p.items (by omega) k4 (by omega) (by omega)
  obtain ⟨l6,k6,g1,g2,g3,g4⟩:=aGr p.names (by have:=lK (z:=List.length) p.names; omega) k5 (by omega) (by omega)
  have n1:¬ k1<0:=by omega
  have n2:¬ k2<0:=by omega
  have n3:¬ k3<0:=by omega
  have n4:¬ k4<0:=by omega
  have n5:¬ k5<0:=by omega
  have n6:¬ k6<0:=by omega
  refine ⟨k6,(l1,l2,l3,l4,l5,l6),?_,?_,by omega⟩
  · rw [yN,b1]
    simp only [Option.bind_eq_bind,Option.bind_some,c1,d1,e1,f1,g1]
  · rw [rH]
    simp only [b2,c2,d2,e2,f2,g2,n1,n2,n3,n4,n5,n6,Option.bind_eq_bind,Option.bind_some,decide_false,Bool.false_eq_true,if_false]
theorem aMk(s:List UInt8)(_:okS s)(a:Int)(_:okI a):zC s a=some true:=by
  unfold zC
  by_cases h:(1048576:Int)<(s.length:Int)
  · rw [if_pos (by simpa using h)]
  · rw [if_neg (by simpa using h)]
    obtain ⟨r,r1,r2,r3⟩:=aRv s a (by omega)
    obtain ⟨k,t,k1,k2,k3⟩:=aSv r.1 (by omega)
    have n1:¬ k<0:=by omega
    simp [r1,r2,aLu r.1 (by omega),k1,k2,n1]
end Go.Ab
