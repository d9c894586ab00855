/- What the functions compute,in plain Lean. -/
import Derived.Test.YthlahiakloldbaaFExactGetPExpr
namespace Go.Ab
open Go
theorem gY {n:Int} (h1 : -9223372036854775808≤n) (h2:n≤9223372036854775807):IntKind.wrap .i64 n=n:=by rw [IntKind.wrap_i64]; omega
theorem aSb {i n:Nat} (h:i<n) (hn:n≤4611686018427387904):IntKind.wrap .i64 ((i:Int)+1)=((i+1:Nat):Int):=by rw [gY] <;> omega
theorem kU (i n:Nat):decide ((i:Int)<(n:Int))=decide (i<n):=by simp
theorem kH {α:Type} (l:List α) (i:Nat):idx l (i:Int)=l[i]?:=by simp [idx]
theorem aS4 {α:Type} {l:List α} {i:Nat} (h:i<l.length):idx l (i:Int)=some l[i]:=by rw [kH]; simp [h]
theorem aP1 {M:Nat→Prop} {n:Nat} (h0:M n) (h:∀ i,i<n→M (i+1)→M i):∀ i,i≤n→M i:=by
  have:∀ k i,i+k=n→M i:=by
    intro k
    induction k with
    | zero => intro i hi; have : i = n := by omega
              subst this; exact h0
    | succ k ih=>intro i hi; exact h i (by omega) (ih (i+1) (by omega))
  exact fun i hi=>this (n - i) i (by omega)
def zL {α:Type} (z:α→Nat) (l:List α):Nat:=l.length+(l.map z).sum
def z0 {α:Type} (_:α):Nat:=0
theorem D7 {α:Type} (z:α→Nat) (x:α) (l:List α):((x::l).map z).sum=z x+(l.map z).sum:=by simp
theorem oI {α : Type} {p : List α} {E : α → α → Option Bool} {L : Int → Option Bool} {S : List α → List α → Option Bool} (hp : p.length ≤ 1048576)
    (hS:S p p=if (!decide ((p.length:Int)=(p.length:Int)))=true then (some false) else L 0)
    (hL:∀ i:Nat,L (i:Int)=if (decide ((i:Int)<(p.length:Int)))=true then ((idx p (i:Int))>>=fun y1=>(idx p (i:Int))>>=fun y2=>(E y1 y2)>>=fun y3=>if (!y3)=true then (some false) else L (IntKind.wrap .i64 ((i:Int)+1))) else some true)
    (H:∀ y ∈ p,E y y=some true):S p p=some true:=by
  have key:∀ i,i≤p.length→L (i:Nat)=some true:=by
    refine aP1 ?_ ?_
    · rw [hL]; simp
    · intro i hi ih
      rw [hL]
      simp only [kU,aS4 hi,aSb hi (by omega),H _ (List.getElem_mem hi),Option.bind_eq_bind,Option.bind_some,ih]
      simp
  rw [hS]
  have:=key 0 (by omega)
  simpa using this
theorem aK5 {α:Type} {z:α→Nat}:∀ {p:List α} {y:α},y ∈ p→z y≤(p.map z).sum
  | x::p,y,h=>by
    rw [D7]
    rcases List.mem_cons.1 h with rfl | h
    · omega
    · have:=aK5 (z:=z) h; omega
theorem aSm (p:(List Int)) (hz:(zL z0) p≤1048576):wF p p=some true:=oI (E:=fun a b=>some (decide (a=b))) (by unfold zL at hz; omega) (by rw [wF]) (fun i=>by rw [wN]; rfl) (fun y hy=>by simp)
def wQ:dR→Nat
  | ⟨a0,a1,a2⟩=>a2.length
theorem aT3:∀ x:dR,wQ x≤1048576→vL x x=some true
  | ⟨a0,a1,a2⟩,hz=>by
    simp only [wQ] at hz
    rw [vL]
    simp
theorem aN0 (p:(List (List UInt8))) (hz:(zL List.length) p≤1048576):wK p p=some true:=oI (E:=fun a b=>some (decide (a=b))) (by unfold zL at hz; omega) (by rw [wK]) (fun i=>by rw [vZ]; rfl) (fun y hy=>by simp)
mutual
def iJ:bC→Nat
  | ⟨a0,a1⟩=>dV a0
def iR:aX→Nat
  | ⟨a0,a1,a2,a3,a4,a5,a6,a7⟩=>(zL z0) a0+(a1.length+tQ a1)+(a2.length+lX a2)+(a3.length+uL a3)+(a4.length+lX a4)+(zL List.length) a5
def dV:aB→Nat
  | ⟨a0,a1,a2,a3,a4,a5,a6,a7⟩=>wQ a3+(a6.length+lX a6)+(a7.length+rF a7)
def rF:List aX→Nat
  | []=>0
  | x::l=>iR x+rF l
def lX:List aB→Nat
  | []=>0
  | x::l=>dV x+lX l
def uL:List bC→Nat
  | []=>0
  | x::l=>iJ x+uL l
def tQ:List (List aB)→Nat
  | []=>0
  | x::l=>(x.length+lX x)+tQ l
end
theorem aE0:∀ l:List aX,rF l=(l.map iR).sum
  | []=>by simp [rF]
  | x::l=>by rw [D7,← aE0 l]; simp only [rF]
theorem wS:∀ l:List aB,lX l=(l.map dV).sum
  | []=>by simp [lX]
  | x::l=>by rw [D7,← wS l]; simp only [lX]
theorem aC2:∀ l:List bC,uL l=(l.map iJ).sum
  | []=>by simp [uL]
  | x::l=>by rw [D7,← aC2 l]; simp only [uL]
theorem aFd:∀ l:List (List aB),tQ l=(l.map (zL dV)).sum
  | []=>by simp [tQ]
  | x::l=>by rw [D7,← aFd l]; simp only [tQ,zL,wS]
mutual
theorem aNd:∀ x:bC,iJ x≤1048576→rJ x x=some true
  | ⟨a0,a1⟩,hz=>by
    simp only [iJ] at hz
    have e0:jJ a0 a0=some true:=aFe a0 (by omega)
    rw [rJ]
    simp [e0]
theorem aP7:∀ x:aX,iR x≤1048576→sH x x=some true
  | ⟨a0,a1,a2,a3,a4,a5,a6,a7⟩,hz=>by
    simp only [iR] at hz
    have e0:wF a0 a0=some true:=aSm a0 (by omega)
    have e1:N7 a1 a1=some true:=oI (E:=kE) (by omega) (by rw [N7]) (fun i=>by rw [C8]) (aK8 a1 (by omega))
    have e2:kE a2 a2=some true:=oI (E:=jJ) (by omega) (by rw [kE]) (fun i=>by rw [rD]) (zO a2 (by omega))
    have e3:zI a3 a3=some true:=oI (E:=rJ) (by omega) (by rw [zI]) (fun i=>by rw [G5]) (aH5 a3 (by omega))
    have e4:kE a4 a4=some true:=oI (E:=jJ) (by omega) (by rw [kE]) (fun i=>by rw [rD]) (zO a4 (by omega))
    have e5:wK a5 a5=some true:=aN0 a5 (by omega)
    rw [sH]
    simp [e0,e1,e2,e3,e4,e5]
theorem aFe:∀ x:aB,dV x≤1048576→jJ x x=some true
  | ⟨a0,a1,a2,a3,a4,a5,a6,a7⟩,hz=>by
    simp only [dV] at hz
    have e3:vL a3 a3=some true:=aT3 a3 (by omega)
    have e6:kE a6 a6=some true:=oI (E:=jJ) (by omega) (by rw [kE]) (fun i=>by rw [rD]) (zO a6 (by omega))
    have e7:I4 a7 a7=some true:=oI (E:=sH) (by omega) (by rw [I4]) (fun i=>by rw [M3]) (aLh a7 (by omega))
    rw [jJ]
    simp [e3,e6,e7]
theorem aLh:∀ l:List aX,rF l≤1048576→∀ y ∈ l,sH y y=some true
  | [],_=>fun y hy=>by simp at hy
  | x::l,hz=>by
    simp only [rF] at hz
    intro y hy
    rcases List.mem_cons.1 hy with r | hy
    · rw [r]; exact aP7 x (by omega)
    · exact aLh l (by omega) y hy
theorem zO:∀ l:List aB,lX l≤1048576→∀ y ∈ l,jJ y y=some true
  | [],_=>fun y hy=>by simp at hy
  | x::l,hz=>by
    simp only [lX] at hz
    intro y hy
    rcases List.mem_cons.1 hy with r | hy
    · rw [r]; exact aFe x (by omega)
    · exact zO l (by omega) y hy
theorem aH5:∀ l:List bC,uL l≤1048576→∀ y ∈ l,rJ y y=some true
  | [],_=>fun y hy=>by simp at hy
  | x::l,hz=>by
    simp only [uL] at hz
    intro y hy
    rcases List.mem_cons.1 hy with r | hy
    · rw [r]; exact aNd x (by omega)
    · exact aH5 l (by omega) y hy
theorem aK8:∀ l:List (List aB),tQ l≤1048576→∀ y ∈ l,kE y y=some true
  | [],_=>fun y hy=>by simp at hy
  | x::l,hz=>by
    simp only [tQ] at hz
    intro y hy
    rcases List.mem_cons.1 hy with r | hy
    · rw [r]; exact oI (E:=jJ) (by omega) (by rw [kE]) (fun i=>by rw [rD]) (zO x (by omega))
    · exact aK8 l (by omega) y hy
end
theorem zQ {α:Type} {b:Nat} {l m:List α} (h:(l.length+m.length) * b≤140737488355328):appG b l m=some (l++m):=by unfold appG; rw [if_pos h]
theorem zH (n:Int):IntKind.wrap .u8 n=n % 256:=rfl
theorem wrap64 (n:Int):IntKind.wrap .u64 n=n % 18446744073709551616:=rfl
theorem aTe:∀ b:BitVec 8,(b ||| 128#8).toNat=b.toNat % 128+128:=by decide
theorem aLw (x:Int) (h:0≤x):IntKind.wrap .u8 ((BitVec.ofInt (IntKind.bits .u8) (IntKind.wrap .u8 x) ||| BitVec.ofInt (IntKind.bits .u8) 128).toNat:Int)=x % 128+128:=by
  show IntKind.wrap .u8 (((BitVec.ofInt 8 (IntKind.wrap .u8 x) ||| 128#8).toNat:Nat):Int)=_
  rw [aTe,BitVec.toNat_ofInt,zH,zH]
  omega
def Byt (l:List Int):Prop:=∀ y ∈ l,0≤y∧y<256
theorem aHh {a b:List Int} (ha:Byt a) (hb:Byt b):Byt (a++b):=fun y hy=>by
  rcases List.mem_append.1 hy with h | h
  · exact ha y h
  · exact hb y h
theorem aGs {l:List Int} (h:Byt l):ofBytes l=some (l.map fun n=>UInt8.ofNat n.toNat):=by
  unfold ofBytes
  rw [if_pos]
  rw [List.all_eq_true]
  intro y hy
  have:=h y hy
  simp; omega
theorem aK1 : ∀ (k : Nat) (x : Int), 0 ≤ x → x < 128 ^ (k + 1) → x < 18446744073709551616 → ∃ b : List Int, Byt b ∧ b.length ≤ k + 1 ∧ ∀ acc : List Int, Byt acc → acc.length + k + 1 ≤ 1048576 →
    qD x acc=some ((acc++b).map fun n=>UInt8.ofNat n.toNat)∧qA x acc=some ((acc++b).map fun n=>UInt8.ofNat n.toNat)
  | k,x,h0,hk,h64=>by
    by_cases hx:x<128
    · refine ⟨[x],fun y hy=>by simp at hy; omega,by simp,fun acc ha hl=>?_⟩
      have hb:Byt (acc++[x]):=aHh ha fun y hy=>by simp at hy; omega
      have e1:IntKind.wrap .u8 x=x:=by rw [zH]; omega
      constructor
      · rw [qD,if_neg (by simp; omega),e1,zQ (by simp; omega)]
        simp only [Option.bind_eq_bind,Option.bind_some,aGs hb]
      · rw [qA,if_neg (by simp; omega),e1,zQ (by simp; omega)]
        simp only [Option.bind_eq_bind,Option.bind_some,aGs hb]
    · match k,hk with
      | 0,hk=>omega
      | k+1,hk =>
        have hp:(128:Int) ^ (k+1+1)=128 ^ (k+1) * 128:=Int.pow_succ ..
        obtain ⟨b,hb,hbl,H⟩:=aK1 k (x / 128) (by omega) (by omega) (by omega)
        have hd:0≤x % 128+128∧x % 128+128<256:=by omega
        refine ⟨(x % 128+128)::b,fun y hy=>?_,by simp; omega,fun acc ha hl=>?_⟩
        · rcases List.mem_cons.1 hy with rfl | hy
          · exact hd
          · exact hb y hy
        have hb2:Byt (acc++[x % 128+128]):=aHh ha fun y hy=>by simp at hy; omega
        obtain ⟨H1,H2⟩:=H (acc++[x % 128+128]) hb2 (by simp; omega)
        have e3:acc++(x % 128+128)::b=acc++[x % 128+128]++b:=by simp
        constructor
        · rw [qD,if_pos (by simp; omega),aLw x h0,zQ (by simp; omega)]
          simp only [Option.bind_eq_bind,Option.bind_some]
          rw [show Int.fdiv x (2 ^ 7)=x / 128 by rw [Int.fdiv_eq_ediv_of_nonneg _ (by omega)]; rfl,H1,e3]
        · have e2 : IntKind.wrap .u8 (IntKind.wrap .u64 ((Int.tmod x 128) + 128)) = x % 128 + 128 := by
            rw [zH,wrap64,Int.tmod_eq_emod_of_nonneg h0]; omega
          rw [qA,if_pos (by simp; omega),e2,zQ (by simp; omega)]
          simp only [Option.bind_eq_bind,Option.bind_some]
          rw [show IntKind.wrap .u64 (Int.tdiv x 128)=x / 128 by rw [wrap64,Int.tdiv_eq_ediv_of_nonneg h0]; omega,H2,e3]
theorem aVd (k m u:Nat) (hk:k≤9) (hm:m<128) (hu:u<2 ^ (7 * k)):(u ||| (m * 2 ^ (7 * k)) % 18446744073709551616)=u+(m * 2 ^ (7 * k)) % 18446744073709551616∧u+(m * 2 ^ (7 * k)) % 18446744073709551616<18446744073709551616∧(k≤8→u+(m * 2 ^ (7 * k)) % 18446744073709551616<2 ^ (7 * (k+1))):=by
  have key:∀ x:Nat,(u ||| x * 2 ^ (7 * k))=u+x * 2 ^ (7 * k):=fun x=>by
    have:=Nat.shiftLeft_add_eq_or_of_lt hu x
    rw [Nat.shiftLeft_eq] at this
    rw [Nat.or_comm,← this,Nat.add_comm]
  have h:k=0∨k=1∨k=2∨k=3∨k=4∨k=5∨k=6∨k=7∨k=8∨k=9:=by omega
  have fin : ∀ x : Nat, (m * 2 ^ (7 * k)) % 18446744073709551616 = x * 2 ^ (7 * k) → u + x * 2 ^ (7 * k) < 18446744073709551616 → (k ≤ 8 → u + x * 2 ^ (7 * k) < 2 ^ (7 * (k + 1))) →
      (u ||| (m * 2 ^ (7 * k)) % 18446744073709551616)=u+(m * 2 ^ (7 * k)) % 18446744073709551616∧u+(m * 2 ^ (7 * k)) % 18446744073709551616<18446744073709551616∧(k≤8→u+(m * 2 ^ (7 * k)) % 18446744073709551616<2 ^ (7 * (k+1))):=fun x e h1 h2=>by
    rw [e]; exact ⟨key x,h1,h2⟩
  rcases h with rfl | rfl | rfl | rfl | rfl | rfl | rfl | rfl | rfl | rfl
  case inr.inr.inr.inr.inr.inr.inr.inr.inr=>exact fin (m % 2) (by simp only [Nat.reduceMul,Nat.reducePow]; omega) (by simp only [Nat.reduceMul,Nat.reducePow] at hu ⊢; omega) (fun h=>by omega)
  all_goals exact fin m (by simp only [Nat.reduceMul,Nat.reducePow]; omega) (by simp only [Nat.reduceMul,Nat.reducePow] at hu ⊢; omega) (fun _=>by simp only [Nat.reduceMul,Nat.reducePow,Nat.reduceAdd] at hu ⊢; omega)
theorem aC8 (b:Nat) (h:b<256):IntKind.wrap .u8 ((BitVec.ofInt (IntKind.bits .u8) (b:Int) &&& BitVec.ofInt (IntKind.bits .u8) 127).toNat:Int)=((b % 128:Nat):Int):=by
  have key:∀ x:BitVec 8,(x &&& 127#8).toNat=x.toNat % 128:=by decide
  show IntKind.wrap .u8 (((BitVec.ofInt 8 (b:Int) &&& 127#8).toNat:Nat):Int)=_
  rw [key,BitVec.toNat_ofInt,zH]
  omega
theorem aV1 (u y:Nat) (hu:u<18446744073709551616) (hy:y<18446744073709551616):IntKind.wrap .u64 ((BitVec.ofInt (IntKind.bits .u64) (u:Int) ||| BitVec.ofInt (IntKind.bits .u64) (y:Int)).toNat:Int)=(((u ||| y) % 18446744073709551616:Nat):Int):=by
  show IntKind.wrap .u64 (((BitVec.ofInt 64 (u:Int) ||| BitVec.ofInt 64 (y:Int)).toNat:Nat):Int)=_
  have e1:((u:Int) % ((2 ^ 64:Nat):Int)).toNat=u:=by simp only [Nat.reducePow]; omega
  have e2:((y:Int) % ((2 ^ 64:Nat):Int)).toNat=y:=by simp only [Nat.reducePow]; omega
  rw [BitVec.toNat_or,BitVec.toNat_ofInt,BitVec.toNat_ofInt,wrap64,e1,e2]
  omega
theorem aRl (m k:Nat) (hk:k≤9):xE .u64 (m:Int) ((7 * k:Nat):Int)=some (((m * 2 ^ (7 * k)) % 18446744073709551616:Nat):Int):=by
  unfold xE
  rw [if_pos (by omega),wrap64]
  have:Nat.min ((7 * k:Nat):Int).toNat (IntKind.bits .u64)=7 * k:=by
    show Nat.min ((7 * k:Nat):Int).toNat 64=7 * k
    rw [Int.toNat_natCast]; exact Nat.min_eq_left (by omega)
  rw [this]
  congr 1
theorem J9 {α:Type} {l:List α} {a b:Nat} (h1:a≤b) (h2:b≤l.length):lC l (a:Int) (b:Int)=some ((l.take b).drop a):=by
  unfold lC; rw [if_pos (by omega)]; simp
theorem aSg (u:Nat) (hu:u<18446744073709551616):∃ t,wV (u:Int)=some t∧vY (u:Int)=some t:=by
  obtain ⟨b,_,_,H⟩:=aK1 9 (u:Int) (by omega) (by omega) (by omega)
  obtain ⟨H1,H2⟩:=H [] (fun y hy=>by simp at hy) (by simp)
  exact ⟨_,by rw [wV]; exact H1,by rw [vY]; exact H2⟩
theorem aW6 (s : List UInt8) (hs : s.length ≤ 1048576) (a : Nat) (ha : a ≤ s.length) : ∀ (r k u : Nat), k + r = 10 → (k ≤ 9 → u < 2 ^ (7 * k)) → u < 18446744073709551616 →
    ∃ x,mV s (a:Int) (u:Int) ((a+k:Nat):Int)=some x∧nE s (a:Int) (u:Int) (k:Int)=some x∧(x.2.2=true→(∃ n:Nat,x.2.1=(n:Int)∧a<n∧n≤s.length)∧∃ v:Nat,x.1=(v:Int)∧v<18446744073709551616):=by
  intro r
  induction r with
  | zero =>
    intro k u hk _ _
    have:k=10:=by omega
    subst this
    refine ⟨(0,0,false),?_,?_,by simp⟩
    · rw [mV,gY (n:=(a:Int)+10) (by omega) (by omega)]
      simp
    · rw [nE]; simp
  | succ r ih =>
    intro k u hk hu h64
    by_cases hl:a+k<s.length
    · have hk9:k≤9:=by omega
      obtain ⟨b,hb⟩:∃ b,s[a+k]?=some b:=⟨s[a+k],by simp [hl]⟩
      have hb8:b.toNat<256:=b.toNat_lt
      have ei:tN s ((a+k:Nat):Int)=some (b.toNat:Int):=by unfold tN; rw [if_pos (by omega),Int.toNat_natCast,hb]; rfl
      obtain ⟨o1,o2,o3⟩:=aVd k (b.toNat % 128) u hk9 (by omega) (hu hk9)
      generalize hy:(b.toNat % 128 * 2 ^ (7 * k)) % 18446744073709551616=y at o1 o2 o3
      have hy64:y<18446744073709551616:=by omega
      have w1:IntKind.wrap .u64 ((b.toNat % 128:Nat):Int)=((b.toNat % 128:Nat):Int):=by rw [wrap64]; omega
      have w2:IntKind.wrap .i64 (7 * IntKind.wrap .i64 (((a+k:Nat):Int) - (a:Int)))=((7 * k:Nat):Int):=by rw [gY (n:=((a+k:Nat):Int) - (a:Int)) (by omega) (by omega),gY (by omega) (by omega)]; omega
      have w3:IntKind.wrap .i64 ((a:Int)+(k:Int))=((a+k:Nat):Int):=by rw [gY (by omega) (by omega)]; omega
      have w4:IntKind.wrap .u64 (b.toNat:Int)=(b.toNat:Int):=by rw [wrap64]; omega
      have w5:IntKind.wrap .u64 (IntKind.wrap .i64 (7 * (k:Int)))=((7 * k:Nat):Int):=by rw [gY (by omega) (by omega),wrap64]; omega
      have w6:IntKind.wrap .i64 (((a+k:Nat):Int)+1)=((a+k+1:Nat):Int):=by rw [gY (by omega) (by omega)]; omega
      have w7:IntKind.wrap .u64 ((u:Int)+(y:Int))=((u+y:Nat):Int):=by rw [wrap64]; omega
      have w8:IntKind.wrap .u64 ((BitVec.ofInt (IntKind.bits .u64) (u:Int) ||| BitVec.ofInt (IntKind.bits .u64) (y:Int)).toNat:Int)=((u+y:Nat):Int):=by rw [aV1 u y h64 hy64,o1]; omega
      have w9:Int.tmod (b.toNat:Int) 128=((b.toNat % 128:Nat):Int):=by rw [Int.tmod_eq_emod_of_nonneg (by omega)]; omega
      have w10:IntKind.wrap .i64 ((a:Int)+10)=(a:Int)+10:=gY (by omega) (by omega)
      have w11:IntKind.wrap .i64 ((k:Int)+1)=((k+1:Nat):Int):=by rw [gY (by omega) (by omega)]; omega
      have sh:=aRl (b.toNat % 128) k hk9
      rw [hy] at sh
      have c1:(if (decide (((a+k:Nat):Int)<(s.length:Int)))=true then (decide (((a+k:Nat):Int)<(a:Int)+10)) else false)=true:=by simp; omega
      have c2:(if (decide ((k:Int)<10))=true then (decide (((a+k:Nat):Int)<(s.length:Int))) else false)=true:=by simp; omega
      by_cases hb1:b.toNat<128
      · obtain ⟨t,t1,t2⟩:=aSg (u+y) o2
        have hsub:=J9 (l:=s) (a:=a) (b:=a+k+1) (by omega) (by omega)
        by_cases ht:t=(s.take (a+k+1)).drop a
        · refine ⟨(((u+y:Nat):Int),((a+k+1:Nat):Int),true),?_,?_,fun _=>⟨⟨_,rfl,by omega,by omega⟩,_,rfl,o2⟩⟩
          · rw [mV]
            simp only [w10,c1,ei,aC8 _ hb8,w1,w2,sh,w8,w6,t1,hsub,Option.bind_eq_bind,Option.bind_some,if_true]
            rw [if_pos (by simp; omega),if_neg (by simpa using ht)]
          · rw [nE]
            simp only [w3,c2,ei,w4,w9,w5,sh,w7,w6,t2,hsub,Option.bind_eq_bind,Option.bind_some,if_true]
            rw [if_pos (by simp; omega),if_neg (by simpa using ht)]
        · refine ⟨(0,0,false),?_,?_,by simp⟩
          · rw [mV]
            simp only [w10,c1,ei,aC8 _ hb8,w1,w2,sh,w8,w6,t1,hsub,Option.bind_eq_bind,Option.bind_some,if_true]
            rw [if_pos (by simp; omega),if_pos (by simpa using ht)]
          · rw [nE]
            simp only [w3,c2,ei,w4,w9,w5,sh,w7,w6,t2,hsub,Option.bind_eq_bind,Option.bind_some,if_true]
            rw [if_pos (by simp; omega),if_pos (by simpa using ht)]
      · obtain ⟨x,x1,x2,x3⟩:=ih (k+1) (u+y) (by omega) (fun h=>o3 (by omega)) o2
        refine ⟨x,?_,?_,x3⟩
        · rw [mV]
          simp only [w10,c1,ei,aC8 _ hb8,w1,w2,sh,w8,w6,Option.bind_eq_bind,Option.bind_some,if_true]
          rw [if_neg (by simp; omega)]
          exact x1
        · rw [nE]
          simp only [w3,c2,ei,w4,w9,w5,sh,w7,w11,Option.bind_eq_bind,Option.bind_some,if_true]
          rw [if_neg (by simp; omega)]
          exact x2
    · refine ⟨(0,0,false),?_,?_,by simp⟩
      · rw [mV,if_neg (by simp; omega)]; simp
      · rw [nE,gY (by omega) (by omega)]
        have:¬ ((a:Int)+(k:Int)<(s.length:Int)):=by omega
        simp [this]
theorem aIy (s : List UInt8) (hs : s.length ≤ 1048576) (a : Nat) (ha : a ≤ s.length) :
    ∃ x,vN s (a:Int)=some x∧wI s (a:Int)=some x∧(x.2.2=true→(∃ n:Nat,x.2.1=(n:Int)∧a<n∧n≤s.length)∧∃ v:Nat,x.1=(v:Int)∧v<18446744073709551616):=by
  obtain ⟨x,x1,x2,x3⟩:=aW6 s hs a ha 10 0 0 (by omega) (fun _=>by simp) (by omega)
  refine ⟨x,?_,?_,x3⟩
  · rw [vN,if_neg (by simp)]; simpa using x1
  · have:lF (a:Int) 0 (s.length:Int)=some true:=by rw [lF]; simp; omega
    rw [wI,this]; simpa using x2
theorem aSf (v:Nat) (hv:v<18446744073709551616):∃ n:Int,vQ (v:Int)=some n∧vK (v:Int)=some n:=by
  have x0:∀ b:BitVec 64,b ^^^ 0#64=b:=fun b=>by simp
  have x1:∀ b:BitVec 64,b ^^^ BitVec.ofInt 64 (-1)=(~~~b):=fun b=>by
    have:BitVec.ofInt 64 (-1)=BitVec.allOnes 64:=by decide
    rw [this,BitVec.xor_allOnes]
  have hs:Int.fdiv (v:Int) (2 ^ 1)=((v / 2:Nat):Int):=by rw [Int.fdiv_eq_ediv_of_nonneg _ (by omega)]; omega
  have w1:IntKind.wrap .i64 ((v / 2:Nat):Int)=((v / 2:Nat):Int):=gY (by omega) (by omega)
  have ha:((BitVec.ofInt (IntKind.bits .u64) (v:Int) &&& BitVec.ofInt (IntKind.bits .u64) 1).toNat)=v % 2:=by
    show (BitVec.ofInt 64 (v:Int) &&& BitVec.ofInt 64 1).toNat=_
    rw [BitVec.toNat_and,BitVec.toNat_ofInt]
    have e1:((v:Int) % ((2 ^ 64:Nat):Int)).toNat=v:=by simp only [Nat.reducePow]; omega
    rw [e1]
    show v &&& 1=_
    exact Nat.and_one_is_mod v
  have t1:Int.tmod (v:Int) 2=((v % 2:Nat):Int):=by rw [Int.tmod_eq_emod_of_nonneg (by omega)]; omega
  have t2:Int.tdiv (v:Int) 2=((v / 2:Nat):Int):=by rw [Int.tdiv_eq_ediv_of_nonneg (by omega)]; omega
  have w2:IntKind.wrap .u64 ((v / 2:Nat):Int)=((v / 2:Nat):Int):=by rw [wrap64]; omega
  rcases Nat.mod_two_eq_zero_or_one v with h | h
  · refine ⟨((v / 2:Nat):Int),?_,?_⟩
    · unfold vQ
      rw [hs,w1,ha,h]
      show some (IntKind.wrap .i64 (((BitVec.ofInt 64 ((v / 2:Nat):Int) ^^^ BitVec.ofInt 64 (IntKind.wrap .i64 (0 - (IntKind.wrap .i64 (IntKind.wrap .u64 ((0:Nat):Int)))))).toNat:Nat):Int))=_
      rw [show BitVec.ofInt 64 (IntKind.wrap .i64 (0 - (IntKind.wrap .i64 (IntKind.wrap .u64 ((0:Nat):Int)))))=0#64 from rfl,x0,BitVec.toNat_ofInt]
      have e1:(((v / 2:Nat):Int) % ((2 ^ 64:Nat):Int)).toNat=v / 2:=by simp only [Nat.reducePow]; omega
      rw [e1,w1]
    · unfold vK
      rw [t1,h,if_neg (by simp),t2,w2,w1]
  · refine ⟨-((v / 2:Nat):Int) - 1,?_,?_⟩
    · unfold vQ
      rw [hs,w1,ha,h]
      show some (IntKind.wrap .i64 (((BitVec.ofInt 64 ((v / 2:Nat):Int) ^^^ BitVec.ofInt 64 (IntKind.wrap .i64 (0 - (IntKind.wrap .i64 (IntKind.wrap .u64 ((1:Nat):Int)))))).toNat:Nat):Int))=_
      rw [show IntKind.wrap .i64 (0 - (IntKind.wrap .i64 (IntKind.wrap .u64 ((1:Nat):Int)))) = -1 from rfl,x1,BitVec.toNat_not,BitVec.toNat_ofInt]
      have e1:(((v / 2:Nat):Int) % ((2 ^ 64:Nat):Int)).toNat=v / 2:=by simp only [Nat.reducePow]; omega
      rw [e1]
      refine congrArg some ?_
      rw [IntKind.wrap_i64]
      simp only [Nat.reducePow,Nat.reduceSub]
      omega
    · unfold vK
      rw [t1,h,if_pos (by simp),t2,w2,w1,gY (n:=0 - _) (by omega) (by omega),gY (by omega) (by omega)]
      congr 1; omega
theorem vX {α β:Type} {c:Prop} [Decidable c] {A B:Option α} {k:α→Option β}:(if c then A else B).bind k=if c then A.bind k else B.bind k:=by split <;> rfl
def RSB {α:Type} (s:List UInt8) (f:aL→Option (α×aL)):Prop:=∀ b:Int,∃ v,f ⟨s,b,true⟩=some (v,⟨s,b,true⟩)
def RIB {α:Type} (s:List UInt8) (g:aJ→Option (α×aJ)):Prop:=∀ b:Nat,b≤s.length→∃ v,g ⟨s,(b:Int),true⟩=some (v,⟨s,(b:Int),true⟩)
def aS3 {α:Type} (s:List UInt8) (a:Nat) (Q:α→Nat→Prop) (x:Option (α×aL)) (y:Option (α×aJ)):Prop :=
  (∃ v,∃ b:Nat,x=some (v,⟨s,(b:Int),false⟩)∧y=some (v,⟨s,(b:Int),false⟩)∧a≤b∧b≤s.length∧Q v (b - a)) ∨
  (∃ v v',∃ b:Int,∃ b':Nat,x=some (v,⟨s,b,true⟩)∧y=some (v',⟨s,(b':Int),true⟩)∧b'≤s.length)
def mO {α:Type} (s:List UInt8) (m:Nat) (Q:α→Nat→Prop) (f:aL→Option (α×aL)) (g:aJ→Option (α×aJ)):Prop :=
  ∀ a:Nat,a≤s.length→s.length - a<m→aS3 s a Q (f ⟨s,(a:Int),false⟩) (g ⟨s,(a:Int),false⟩)
theorem mO.mono {α:Type} {s:List UInt8} {m:Nat} {Q:α→Nat→Prop} {f:aL→Option (α×aL)} {g:aJ→Option (α×aJ)} (h:mO s m Q f g) {n:Nat} (hn:n≤m):mO s n Q f g:=fun a h1 h2=>h a h1 (by omega)
structure RP {ι α:Type} (s:List UInt8) (m:Nat) (Q:ι→α→Nat→Prop) (f:ι→aL→Option (α×aL)) (g:ι→aJ→Option (α×aJ)):Prop where
  sb:∀ i,RSB s (f i)
  ib:∀ i,RIB s (g i)
  good:∀ i,mO s m (Q i) (f i) (g i)
section
variable {ι α β:Type} {s:List UInt8} {m:Nat} {Q:ι→α→Nat→Prop} {Q2:ι→β→Nat→Prop} {f f':ι→aL→Option (α×aL)} {g g':ι→aJ→Option (α×aJ)} {F:ι→aL→α×aL→Option (β×aL)} {G:ι→aJ→α×aJ→Option (β×aJ)}
theorem RP.congr (h:RP s m Q f g) (hf:∀ i st,f' i st=f i st) (hg:∀ i st,g' i st=g i st):RP s m Q f' g' :=
  ⟨fun i b=>by rw [hf]; exact h.sb i b,fun i b hb=>by rw [hg]; exact h.ib i b hb,fun i a h1 h2=>by rw [hf,hg]; exact h.good i a h1 h2⟩
theorem RP.weak {Q':ι→α→Nat→Prop} (h:RP s m Q f g) (hq:∀ i v d,Q i v d→Q' i v d):RP s m Q' f g:=⟨h.sb,h.ib,fun i a h1 h2=>by
  rcases h.good i a h1 h2 with ⟨v,b,e1,e2,k1,k2,k3⟩ | h
  · exact .inl ⟨v,b,e1,e2,k1,k2,hq _ _ _ k3⟩
  · exact .inr h⟩
theorem RP.mono (h:RP s m Q f g) {n:Nat} (hn:n≤m):RP s n Q f g:=⟨h.sb,h.ib,fun i=>(h.good i).mono hn⟩
theorem aVz (h:∀ i,RSB s (f i)) (h2:∀ i v t,RSB s (fun st=>F i t (v,st))) (i:ι):RSB s (fun st=>f i st>>=F i st):=fun b=>by
  obtain ⟨v,hv⟩:=h i b
  obtain ⟨w,hw⟩:=h2 i v _ b
  exact ⟨w,by simp only [hv,Option.bind_eq_bind,Option.bind_some]; exact hw⟩
theorem aQw (h:∀ i,RIB s (g i)) (h2:∀ i v t,RIB s (fun st=>G i t (v,st))) (i:ι):RIB s (fun st=>g i st>>=G i st):=fun b hb=>by
  obtain ⟨v,hv⟩:=h i b hb
  obtain ⟨w,hw⟩:=h2 i v _ b hb
  exact ⟨w,by simp only [hv,Option.bind_eq_bind,Option.bind_some]; exact hw⟩
theorem RP.bindN {n : Nat} (h : RP s n Q f g) (hpos : ∀ i v d, Q i v d → n ≤ m + d) (h2 : RP (ι := (ι × α) × (aL × aJ)) s m (fun i w d => ∀ d1, Q i.1.1 i.1.2 d1 → Q2 i.1.1 w (d1 + d)) (fun i st => F i.1.1 i.2.1 (i.1.2, st)) (fun i st => G i.1.1 i.2.2 (i.1.2, st))) :
    RP s n Q2 (fun i st=>f i st>>=F i st) (fun i st=>g i st>>=G i st):=by
  refine ⟨aVz h.sb fun i v t=>h2.sb ((i,v),(t,default)),aQw h.ib fun i v t=>h2.ib ((i,v),(default,t)),fun i a h1 hm=>?_⟩
  rcases h.good i a h1 hm with ⟨v,b,e1,e2,k1,k2,k3⟩ | ⟨v,v',b,b',e1,e2,k⟩
  · simp only [e1,e2,Option.bind_eq_bind,Option.bind_some]
    have:=hpos _ _ _ k3
    rcases h2.good ((i,v),(_,_)) b k2 (by omega) with ⟨w,c,j1,j2,j3,j4,j5⟩ | ⟨w,w',c,c',j1,j2,j3⟩
    · exact .inl ⟨w,c,j1,j2,by omega,j4,by have:=j5 _ k3; rw [show b - a+(c - b)=c - a by omega] at this; exact this⟩
    · exact .inr ⟨w,w',c,c',j1,j2,j3⟩
  · simp only [e1,e2,Option.bind_eq_bind,Option.bind_some]
    obtain ⟨w,j1⟩:=h2.sb ((i,v),(_,default)) b
    obtain ⟨w',j2⟩:=h2.ib ((i,v'),(default,_)) b' k
    exact .inr ⟨w,w',b,b',j1,j2,k⟩
theorem RP.bind (h : RP s m Q f g) (h2 : RP (ι := (ι × α) × (aL × aJ)) s m (fun i w d => ∀ d1, Q i.1.1 i.1.2 d1 → Q2 i.1.1 w (d1 + d)) (fun i st => F i.1.1 i.2.1 (i.1.2, st)) (fun i st => G i.1.1 i.2.2 (i.1.2, st))) :
    RP s m Q2 (fun i st=>f i st>>=F i st) (fun i st=>g i st>>=G i st):=h.bindN (fun _ _ _ _=>by omega) h2
theorem RP.bind1 (h : RP s (m + 1) Q f g) (hpos : ∀ i v d, Q i v d → 1 ≤ d) (h2 : RP (ι := (ι × α) × (aL × aJ)) s m (fun i w d => ∀ d1, Q i.1.1 i.1.2 d1 → Q2 i.1.1 w (d1 + d)) (fun i st => F i.1.1 i.2.1 (i.1.2, st)) (fun i st => G i.1.1 i.2.2 (i.1.2, st))) :
    RP s (m+1) Q2 (fun i st=>f i st>>=F i st) (fun i st=>g i st>>=G i st):=h.bindN (fun i v d hq=>by have:=hpos i v d hq; omega) h2
theorem RP.pure {v:ι→α} (h:∀ i,Q i (v i) 0):RP s m Q (fun i st=>some (v i,st)) (fun i st=>some (v i,st)) :=
  ⟨fun _ _=>⟨_,rfl⟩,fun _ _ _=>⟨_,rfl⟩,fun i a h1 _=>.inl ⟨v i,a,rfl,rfl,by omega,h1,by simpa using h i⟩⟩
end
theorem uX (s:List UInt8) (hs:s.length≤1048576):(∀ b:Int,fJ ⟨s,b,true⟩=some (0,⟨s,b,true⟩))∧∀ b:Nat,b≤s.length→eF ⟨s,(b:Int),true⟩=some (0,⟨s,(b:Int),true⟩):=by
  refine ⟨fun b=>by rw [fJ]; simp,fun b hb=>?_⟩
  obtain ⟨x,x1,_,_⟩:=aIy s hs b hb
  rw [eF]; simp [x1]
theorem aB4 (s:List UInt8) (hs:s.length≤1048576) (m:Nat):mO s m (fun _ d=>1≤d) (fun st=>fJ st) (fun st=>eF st):=by
  intro a ha _
  obtain ⟨⟨u,n,ok⟩,x1,x2,x3⟩:=aIy s hs a ha
  cases ok with
  | false =>
    refine .inr ⟨0,0,a,a,?_,?_,ha⟩
    · show fJ _=_
      rw [fJ]; simp [x2]
    · show eF _=_
      rw [eF]; simp [x1]
  | true =>
    obtain ⟨⟨k,e1,k1,k2⟩,w,e2,hw⟩:=x3 rfl
    simp only at e1 e2
    subst e1 e2
    obtain ⟨v,v1,v2⟩:=aSf w hw
    refine .inl ⟨v,k,?_,?_,by omega,k2,by omega⟩
    · show fJ _=_
      rw [fJ]; simp [x2,v2]
    · show eF _=_
      rw [eF]; simp [x1,v1]
theorem sIn (n a b:Int):lF n a b=some (decide (a≤n)&&decide (n≤b)):=by rw [lF]; by_cases h:a≤n <;> simp [h]
theorem L6 (s:List UInt8) (hs:s.length≤1048576):(∀ b:Int,fI ⟨s,b,true⟩=some (0,⟨s,b,true⟩))∧∀ b:Nat,b≤s.length→gN ⟨s,(b:Int),true⟩=some (0,⟨s,(b:Int),true⟩):=by
  refine ⟨fun b=>?_,fun b hb=>?_⟩
  · rw [fI,(uX s hs).1 b]
    simp only [Option.bind_eq_bind,Option.bind_some,sIn]
    split <;> rfl
  · rw [gN,(uX s hs).2 b hb]
    simp only [Option.bind_eq_bind,Option.bind_some]
    have:¬ IntKind.wrap .i64 ((s.length:Int) - (b:Int))<0:=by rw [gY (by omega) (by omega)]; omega
    simp [this,qV]
theorem aHs (s : List UInt8) (hs : s.length ≤ 1048576) (m : Nat) : ∀ a : Nat, a ≤ s.length → s.length - a < m →
    (∃ n b:Nat,fI ⟨s,(a:Int),false⟩=some ((n:Int),⟨s,(b:Int),false⟩)∧gN ⟨s,(a:Int),false⟩=some ((n:Int),⟨s,(b:Int),false⟩)∧a+1≤b∧b+n≤s.length) ∨
    (∃ v,∃ b:Int,∃ b':Nat,fI ⟨s,(a:Int),false⟩=some (v,⟨s,b,true⟩)∧gN ⟨s,(a:Int),false⟩=some (0,⟨s,(b':Int),true⟩)∧b'≤s.length):=by
  intro a ha hm
  rcases aB4 s hs m a ha hm with ⟨v,b,e1,e2,k1,k2,k3⟩ | ⟨v,v',b,b',e1,e2,k⟩
  · dsimp only at e1 e2
    have w:IntKind.wrap .i64 ((s.length:Int) - (b:Int))=(s.length:Int) - (b:Int):=gY (by omega) (by omega)
    by_cases hv:0≤v∧v≤(s.length:Int) - (b:Int)
    · refine .inl ⟨v.toNat,b,?_,?_,by omega,by omega⟩
      · rw [fI,e1]
        simp only [Option.bind_eq_bind,Option.bind_some,sIn,w]
        simp [hv]; omega
      · rw [gN,e2]
        simp only [Option.bind_eq_bind,Option.bind_some,w]
        have h1:¬ v<0:=by omega
        have h2:¬ (s.length:Int) - (b:Int)<v:=by omega
        simp [h1,h2,qV]; omega
    · refine .inr ⟨0,b,b,?_,?_,k2⟩
      · rw [fI,e1]
        simp only [Option.bind_eq_bind,Option.bind_some,sIn,w]
        rw [if_pos (by simp; omega)]
      · rw [gN,e2]
        simp only [Option.bind_eq_bind,Option.bind_some,w]
        rw [if_pos]
        · simp [qV]
        · by_cases h1:v<0
          · simp [h1]
          · simp [h1]; omega
  · dsimp only at e1 e2
    refine .inr ?_
    have c1:∃ w,fI ⟨s,(a:Int),false⟩=some (w,⟨s,b,true⟩):=by
      rw [fI,e1]
      simp only [Option.bind_eq_bind,Option.bind_some,sIn]
      split
      · exact ⟨_,rfl⟩
      · exact ⟨_,rfl⟩
    have c2:gN ⟨s,(a:Int),false⟩=some (0,⟨s,(b':Int),true⟩):=by
      rw [gN,e2]
      simp only [Option.bind_eq_bind,Option.bind_some,qV]
      simp
    obtain ⟨w,hw⟩:=c1
    exact ⟨w,b,b',hw,c2,k⟩
theorem M8 (s:List UInt8) (hs:s.length≤1048576):RSB s (fun st=>iG st)∧RIB s (fun st=>fH st):=by
  refine ⟨fun b=>⟨false,?_⟩,fun b hb=>⟨false,?_⟩⟩
  · show iG _=_
    rw [iG,(uX s hs).1 b]; simp [sIn,oZ]
  · show fH _=_
    rw [fH,(uX s hs).2 b hb]; simp
theorem aNr (s:List UInt8) (hs:s.length≤1048576) (m:Nat):mO s m (fun _ d=>1≤d) (fun st=>iG st) (fun st=>fH st):=by
  intro a ha hm
  rcases aB4 s hs m a ha hm with ⟨v,b,e1,e2,k1,k2,k3⟩ | ⟨v,v',b,b',e1,e2,k⟩
  · dsimp only at e1 e2
    by_cases h0:v=0
    · subst h0
      refine .inl ⟨false,b,?_,?_,k1,k2,k3⟩
      · show iG _=_
        rw [iG,e1]; simp [sIn,oZ]
      · show fH _=_
        rw [fH,e2]; simp
    · by_cases h1:v=1
      · subst h1
        refine .inl ⟨true,b,?_,?_,k1,k2,k3⟩
        · show iG _=_
          rw [iG,e1]; simp [sIn,oZ]
        · show fH _=_
          rw [fH,e2]; simp
      · refine .inr ⟨false,false,b,b,?_,?_,k2⟩
        · show iG _=_
          rw [iG,e1]
          simp only [Option.bind_eq_bind,Option.bind_some,sIn]
          rw [if_pos (by simp; omega)]
          simp [oZ,h1]
        · show fH _=_
          rw [fH,e2]; simp [h0,h1]
  · dsimp only at e1 e2
    have c1:∃ w,iG ⟨s,(a:Int),false⟩=some (w,⟨s,b,true⟩):=by
      rw [iG,e1]
      simp only [Option.bind_eq_bind,Option.bind_some,sIn,oZ]
      split <;> exact ⟨_,rfl⟩
    have c2:∃ w,fH ⟨s,(a:Int),false⟩=some (w,⟨s,(b':Int),true⟩):=by
      rw [fH,e2]; simp
    obtain ⟨w,hw⟩:=c1
    obtain ⟨w',hw'⟩:=c2
    exact .inr ⟨w,w',b,b',hw,hw',k⟩
theorem aFi (s:List UInt8) (hs:s.length≤1048576):RSB s (fun st=>jL st)∧RIB s (fun st=>jK st):=by
  refine ⟨fun b=>⟨[],?_⟩,fun b hb=>⟨[],?_⟩⟩
  · show jL _=_
    rw [jL,(L6 s hs).1 b]; simp
  · show jK _=_
    rw [jK,(L6 s hs).2 b hb]
    have w:IntKind.wrap .i64 (b:Int)=(b:Int):=gY (by omega) (by omega)
    simp [w,J9 (l:=s) (Nat.le_refl b) hb]
theorem aNz (s:List UInt8) (hs:s.length≤1048576) (m:Nat):mO s m (fun v d=>v.length+1≤d) (fun st=>jL st) (fun st=>jK st):=by
  intro a ha hm
  rcases aHs s hs m a ha hm with ⟨n,b,e1,e2,k1,k2⟩ | ⟨v,b,b',e1,e2,k⟩
  · have w:IntKind.wrap .i64 ((b:Int)+(n:Int))=((b+n:Nat):Int):=by rw [gY (by omega) (by omega)]; omega
    have w2:IntKind.wrap .i64 (((b+n:Nat):Int) - (n:Int))=(b:Int):=by rw [gY (by omega) (by omega)]; omega
    refine .inl ⟨(s.take (b+n)).drop b,b+n,?_,?_,by omega,by omega,by simp; omega⟩
    · show jL _=_
      rw [jL,e1]; simp only [Option.bind_eq_bind,Option.bind_some,w,w2,J9 (l:=s) (show b≤b+n by omega) k2]; simp
    · show jK _=_
      rw [jK,e2]; simp only [Option.bind_eq_bind,Option.bind_some,w,w2,J9 (l:=s) (show b≤b+n by omega) k2]
  · have c1 : ∃ w, jL ⟨s, (a : Int), false⟩ = some (w, ⟨s, b, true⟩) := by
      rw [jL,e1]; simp
    have w:IntKind.wrap .i64 (b':Int)=(b':Int):=gY (by omega) (by omega)
    have c2:∃ w,jK ⟨s,(a:Int),false⟩=some (w,⟨s,(b':Int),true⟩):=by
      rw [jK,e2]; simp [w,J9 (l:=s) (Nat.le_refl b') k]
    obtain ⟨w,hw⟩:=c1
    obtain ⟨w',hw'⟩:=c2
    exact .inr ⟨w,w',b,b',hw,hw',k⟩
theorem pW {ι:Type} {s:List UInt8} (hs:s.length≤1048576) {m:Nat}:RP s m (fun (_:ι) _ d=>1≤d) (fun _ st=>fJ st) (fun _ st=>eF st) :=
  ⟨fun _ b=>⟨_,(uX s hs).1 b⟩,fun _ b hb=>⟨_,(uX s hs).2 b hb⟩,fun _=>aB4 s hs m⟩
theorem aAg {ι:Type} {s:List UInt8} (hs:s.length≤1048576) {m:Nat}:RP s m (fun (_:ι) _ d=>1≤d) (fun _ st=>iG st) (fun _ st=>fH st) :=
  ⟨fun _=>(M8 s hs).1,fun _=>(M8 s hs).2,fun _=>aNr s hs m⟩
theorem aIk {ι:Type} {s:List UInt8} (hs:s.length≤1048576) {m:Nat}:RP s m (fun (_:ι) v d=>v.length+1≤d) (fun _ st=>jL st) (fun _ st=>jK st) :=
  ⟨fun _=>(aFi s hs).1,fun _=>(aFi s hs).2,fun _=>aNz s hs m⟩
section
variable {α R:Type} {s:List UInt8} {m:Nat} {Qe:α→Nat→Prop} {z:α→Nat} {f:aL→Option (α×aL)} {g:aJ→Option (α×aJ)} {by':Nat}
  {LS:Int×aL→Int→List α→aL→Option (R×aL)} {KS:List α→aL→Option (R×aL)} {LI:Int→aJ→List α→Option (R×aJ)} {KI:List α→aJ→Option (R×aJ)}
theorem aTg (hg : mO s m Qe f g) (hz : ∀ v d, Qe v d → z v + 1 ≤ d) (hs : s.length ≤ 1048576) (hby : by' ≤ 100000)
    (hLS:∀ y (i:Nat) acc st,LS y (i:Int) acc st=(some (if (decide ((i:Int)<y.1))=true then (!st.bad) else false)>>=fun y2=>if y2=true then ((f st)>>=fun y3=>(appG by' acc [y3.1])>>=fun y4=>LS y (IntKind.wrap .i64 ((i:Int)+1)) y4 y3.2) else KS acc st))
    (hLI:∀ (x:Nat) st acc,LI (x:Int) st acc=(some (if (decide (0<(x:Int)))=true then (!st.failed) else false)>>=fun y2=>if y2=true then ((g st)>>=fun y3=>(appG by' acc [y3.1])>>=fun y4=>LI (IntKind.wrap .i64 ((x:Int) - 1)) y3.2 y4) else KI acc st))
    (n:Nat) (hn:n≤1048576) (st0:aL):∀ (r i:Nat) (acc:List α) (a:Nat),i+r=n→acc.length≤i→a≤s.length→s.length - a<m →
    (∃ l,∃ b:Nat,LS ((n:Int),st0) (i:Int) acc ⟨s,(a:Int),false⟩=KS (acc++l) ⟨s,(b:Int),false⟩∧LI (r:Int) ⟨s,(a:Int),false⟩ acc=KI (acc++l) ⟨s,(b:Int),false⟩∧a≤b∧b≤s.length∧zL z l≤b - a) ∨
    (∃ l l',∃ b:Int,∃ b':Nat,LS ((n:Int),st0) (i:Int) acc ⟨s,(a:Int),false⟩=KS l ⟨s,b,true⟩∧LI (r:Int) ⟨s,(a:Int),false⟩ acc=KI l' ⟨s,(b':Int),true⟩∧b'≤s.length):=by
  intro r
  induction r with
  | zero =>
    intro i acc a hi ha h1 h2
    refine .inl ⟨[],a,?_,?_,by omega,h1,by simp [zL]⟩
    · rw [hLS]
      have:¬ ((i:Int)<(n:Int)):=by omega
      simp [this]
    · rw [hLI]; simp
  | succ r ih =>
    intro i acc a hi ha h1 h2
    have c1:(i:Int)<(n:Int):=by omega
    have c2:(0:Int)<((r+1:Nat):Int):=by omega
    have hap:∀ v:α,appG by' acc [v]=some (acc++[v]):=fun v=>zQ (by
      have:(acc.length+[v].length) * by'≤1048577 * 100000:=Nat.mul_le_mul (by simp; omega) hby
      omega)
    have w1:IntKind.wrap .i64 ((i:Int)+1)=((i+1:Nat):Int):=by rw [gY (by omega) (by omega)]; omega
    have w2:IntKind.wrap .i64 (((r+1:Nat):Int) - 1)=(r:Int):=by rw [gY (by omega) (by omega)]; omega
    rw [hLS,hLI]
    simp only [c1,c2,decide_true,if_true,Bool.not_false,Option.bind_eq_bind,Option.bind_some,w1,w2]
    rcases hg a h1 h2 with ⟨v,b,e1,e2,k1,k2,k3⟩ | ⟨v,v',b,b',e1,e2,k⟩
    · simp only [e1,e2,Option.bind_some,hap]
      have hzv:=hz _ _ k3
      rcases ih (i+1) (acc++[v]) b (by omega) (by simp; omega) k2 (by omega) with ⟨l,c,j1,j2,j3,j4,j5⟩ | ⟨l,l',c,c',j1,j2,j3⟩
      · refine .inl ⟨v::l,c,by rw [j1]; simp,by rw [j2]; simp,by omega,j4,?_⟩
        unfold zL at j5 ⊢
        simp only [List.length_cons,List.map_cons,List.sum_cons]
        omega
      · exact .inr ⟨l,l',c,c',j1,j2,j3⟩
    · simp only [e1,e2,Option.bind_some,hap]
      rw [hLI]
      have e3:=hLS ((n:Int),st0) (i+1) (acc++[v]) ⟨s,b,true⟩
      rw [e3]
      refine .inr ⟨acc++[v],acc++[v'],b,b',?_,?_,k⟩
      · simp
      · simp
end
theorem RP.list {ι α R : Type} {s : List UInt8} {m n : Nat} {Qe : α → Nat → Prop} {z : α → Nat} {f : aL → Option (α × aL)} {g : aJ → Option (α × aJ)} {by' : Nat}
    {LS:ι→aL→Int×aL→Int→List α→aL→Option (R×aL)} {KS:ι→aL→List α→aL→Option (R×aL)} {LI:ι→aJ→Int→aJ→List α→Option (R×aJ)} {KI:ι→aJ→List α→aJ→Option (R×aJ)}
    {Q:ι→R→Nat→Prop} (hn:n≤m+1) (hg:mO s m Qe f g) (hz:∀ v d,Qe v d→z v+1≤d) (hs:s.length≤1048576) (hby:by'≤100000)
    (hLS:∀ i t y (k:Nat) acc st,LS i t y (k:Int) acc st=(some (if (decide ((k:Int)<y.1))=true then (!st.bad) else false)>>=fun y2=>if y2=true then ((f st)>>=fun y3=>(appG by' acc [y3.1])>>=fun y4=>LS i t y (IntKind.wrap .i64 ((k:Int)+1)) y4 y3.2) else KS i t acc st))
    (hLI:∀ i t (x:Nat) st acc,LI i t (x:Int) st acc=(some (if (decide (0<(x:Int)))=true then (!st.failed) else false)>>=fun y2=>if y2=true then ((g st)>>=fun y3=>(appG by' acc [y3.1])>>=fun y4=>LI i t (IntKind.wrap .i64 ((x:Int) - 1)) y3.2 y4) else KI i t acc st))
    (hK:RP (ι:=(ι×List α)×(aL×aJ)) s m (fun i w d=>∀ d1,zL z i.1.2+1≤d1→Q i.1.1 w (d1+d)) (fun i=>KS i.1.1 i.2.1 i.1.2) (fun i=>KI i.1.1 i.2.2 i.1.2)) :
    RP s n Q (fun i st=>fI st>>=fun y=>LS i st y 0 [] y.2) (fun i st=>gN st>>=fun y=>LI i st y.1 y.2 []):=by
  have eS:∀ i t v b,LS i t (v,⟨s,b,true⟩) 0 [] ⟨s,b,true⟩=KS i t [] ⟨s,b,true⟩:=fun i t v b=>by
    have:=hLS i t (v,⟨s,b,true⟩) 0 [] ⟨s,b,true⟩
    simpa using this
  have eI:∀ i t (b:Nat),LI i t 0 ⟨s,(b:Int),true⟩ []=KI i t [] ⟨s,(b:Int),true⟩:=fun i t b=>by
    have:=hLI i t 0 ⟨s,(b:Int),true⟩ []
    simpa using this
  refine ⟨fun i b=>?_,fun i b hb=>?_,fun i a ha hm=>?_⟩
  · obtain ⟨w,hw⟩:=hK.sb ((i,[]),(_,default)) b
    refine ⟨w,?_⟩
    simp only [(L6 s hs).1 b,Option.bind_eq_bind,Option.bind_some,eS]
    exact hw
  · obtain ⟨w,hw⟩:=hK.ib ((i,[]),(default,_)) b hb
    refine ⟨w,?_⟩
    simp only [(L6 s hs).2 b hb,Option.bind_eq_bind,Option.bind_some,eI]
    exact hw
  rcases aHs s hs n a ha hm with ⟨n,b,e1,e2,k1,k2⟩ | ⟨v,b,b',e1,e2,k⟩
  · simp only [e1,e2,Option.bind_eq_bind,Option.bind_some]
    rcases aTg (LS:=LS i ⟨s,(a:Int),false⟩) (LI:=LI i ⟨s,(a:Int),false⟩) (KS:=KS i ⟨s,(a:Int),false⟩) (KI:=KI i ⟨s,(a:Int),false⟩) hg hz hs hby (hLS i _) (hLI i _) n (by omega) ⟨s,(b:Int),false⟩ n 0 [] b (by omega) (by simp) (by omega) (by omega) with ⟨l,c,j1,j2,j3,j4,j5⟩ | ⟨l,l',c,c',j1,j2,j3⟩
    · rw [List.nil_append] at j1 j2
      rw [show LS i ⟨s,(a:Int),false⟩ ((n:Int),⟨s,(b:Int),false⟩) 0 [] ⟨s,(b:Int),false⟩=_ from j1,j2]
      rcases hK.good ((i,l),(_,_)) c j4 (by omega) with ⟨w,e,i1,i2,i3,i4,i5⟩ | h
      · exact .inl ⟨w,e,i1,i2,by omega,i4,by have:=i5 (c - a) (by show zL z l+1≤c - a; omega); rw [show c - a+(e - c)=e - a by omega] at this; exact this⟩
      · exact .inr h
    · rw [show LS i ⟨s,(a:Int),false⟩ ((n:Int),⟨s,(b:Int),false⟩) 0 [] ⟨s,(b:Int),false⟩=_ from j1,j2]
      obtain ⟨w,hw⟩:=hK.sb ((i,l),(_,default)) c
      obtain ⟨w',hw'⟩:=hK.ib ((i,l'),(default,_)) c' j3
      exact .inr ⟨w,w',c,c',hw,hw',j3⟩
  · simp only [e1,e2,Option.bind_eq_bind,Option.bind_some,eS,eI]
    obtain ⟨w,hw⟩:=hK.sb ((i,[]),(_,default)) b
    obtain ⟨w',hw'⟩:=hK.ib ((i,[]),(default,_)) b' k
    exact .inr ⟨w,w',b,b',hw,hw',k⟩
theorem aS9 {α β:Type} {b:Nat} {acc:List α} {z v:α} {k:List α→Option β}:((appG b acc [z]).bind fun y2=>(idx y2 (acc.length:Int)).bind fun _=>k (y2.set ((acc.length:Int)).toNat v))=((appG b acc [v]).bind k):=by
  unfold appG
  by_cases h:(acc.length+1) * b≤140737488355328
  · rw [if_pos (by simpa using h),if_pos (by simpa using h)]; simp [kH]
  · rw [if_neg (by simpa using h),if_neg (by simpa using h)]; rfl
def GE (s:List UInt8) (m:Nat):Prop:=mO s m (fun v d=>dV v+1≤d) (fun st=>kZ st) (fun st=>mG st)
def GP (s:List UInt8) (m:Nat):Prop:=mO s m (fun v d=>iR v+1≤d) (fun st=>vD st) (fun st=>uE st)
theorem Z5 {ι:Type} {s:List UInt8} (hs:s.length≤1048576) {m n:Nat} (hn:n≤m+1) (h:GE s m):RP s n (fun (_:ι) v d=>zL dV v+1≤d) (fun _ st=>kY st) (fun _ st=>iI st):=by
  refine (RP.list (ι:=ι) (m:=m) (R:=List aB) (f:=fun st=>kZ st) (g:=fun st=>mG st) (by':=120) (LS:=fun _ _ y k acc st=>qG y acc k st.s st.at_ st.bad) (KS:=fun _ _ acc st=>some (acc,st))
    (LI:=fun _ _ x st acc=>(qE x st.s st.at_ st.failed acc).bind fun y=>some (y.2,y.1)) (KI:=fun _ _ acc st=>some (acc,st)) hn h (fun _ _ h=>h) hs (by omega) (fun _ _ y k acc st=>?_) (fun _ _ x st acc=>?_) (RP.pure ?_)).congr (fun _ st=>?_) (fun _ st=>?_)
  · show qG _ _ _ _ _ _=_
    rw [qG]
  · show (qE _ _ _ _ _).bind _=_
    rw [qE]
    simp only [Option.bind_eq_bind,Option.bind_some,vX,R5,Option.bind_assoc]
    split
    · split
      · refine congrArg (Option.bind _) (funext fun y3=>?_)
        exact aS9 (k:=fun y=>(qE _ _ _ _ y).bind _)
      · rfl
    · rfl
  · intro i d1 h; simpa using h
  · rw [kY]
  · rw [iI,aA3]
    simp only [Option.bind_eq_bind,Option.bind_assoc]
theorem aO3 {ι : Type} {s : List UInt8} (hs : s.length ≤ 1048576) {m : Nat} (hP : GP s m) (Y1 Y2 : ι → Int × aL) (Y3 : ι → Bool × aL) (Y4 Y5 : ι → Int × aL) (Y6 : ι → List UInt8 × aL) (Y7 Y8 : ι → Int × aL) (Y9 : ι → aL → List aB × aL) (k9 : ι → List aB)
    (h9:∀ i st,(Y9 i st).1=k9 i) (Q:ι→aB→Nat→Prop) (hQ:∀ i l d1,zL iR l+1≤d1→Q i (aB.mk (Y1 i).1 (Y2 i).1 (Y3 i).1 (dR.mk (Y4 i).1 (Y5 i).1 (Y6 i).1) (Y7 i).1 (Y8 i).1 (k9 i) l) d1) :
    RP s m Q (fun i st=>fI st>>=fun y10=>oP y10 (Y1 i) (Y2 i) (Y3 i) (Y4 i) (Y5 i) (Y6 i,(Y7 i,(Y8 i,(Y9 i st,(0,([],(y10.2.s,(y10.2.at_,y10.2.bad)))))))))
      (fun i st=>F6 st (Y1 i).1 (Y2 i).1 (Y3 i).1 (Y4 i).1 (Y5 i).1 ((Y6 i).1,((Y7 i).1,((Y8 i).1,k9 i)))>>=fun y10=>some (aB.mk y10.2.1 y10.2.2.1 y10.2.2.2.1 (dR.mk y10.2.2.2.2.1 y10.2.2.2.2.2.1 y10.2.2.2.2.2.2.1) y10.2.2.2.2.2.2.2.1 y10.2.2.2.2.2.2.2.2.1 (k9 i) y10.2.2.2.2.2.2.2.2.2,y10.1)):=by
  refine (RP.list (ι:=ι) (m:=m) (R:=aB) (f:=fun st=>vD st) (g:=fun st=>uE st) (by':=160) (z:=iR) (LS:=fun i t y k acc st=>oP y (Y1 i) (Y2 i) (Y3 i) (Y4 i) (Y5 i) (Y6 i,(Y7 i,(Y8 i,(Y9 i t,(k,(acc,(st.s,(st.at_,st.bad)))))))))
    (KS:=fun i t acc st=>some (aB.mk (Y1 i).1 (Y2 i).1 (Y3 i).1 (dR.mk (Y4 i).1 (Y5 i).1 (Y6 i).1) (Y7 i).1 (Y8 i).1 (Y9 i t).1 acc,st))
    (LI:=fun i t x st acc=>(tY (k9 i) x st.s st.at_ st.failed (Y1 i).1 ((Y2 i).1,((Y3 i).1,((Y4 i).1,((Y5 i).1,((Y6 i).1,((Y7 i).1,((Y8 i).1,acc)))))))).bind fun y10=>some (aB.mk y10.2.1 y10.2.2.1 y10.2.2.2.1 (dR.mk y10.2.2.2.2.1 y10.2.2.2.2.2.1 y10.2.2.2.2.2.2.1) y10.2.2.2.2.2.2.2.1 y10.2.2.2.2.2.2.2.2.1 (k9 i) y10.2.2.2.2.2.2.2.2.2,y10.1))
    (KI:=fun i t acc st=>some (aB.mk (Y1 i).1 (Y2 i).1 (Y3 i).1 (dR.mk (Y4 i).1 (Y5 i).1 (Y6 i).1) (Y7 i).1 (Y8 i).1 (k9 i) acc,st)) (by omega) hP (fun _ _ h=>h) hs (by omega) (fun _ _ y k acc st=>?_) (fun _ _ x st acc=>?_) ?_).congr (fun _ st=>rfl) (fun _ st=>?_)
  · show oP _ _ _ _ _ _ _=_
    rw [oP]
  · show (tY _ _ _ _ _ _ _).bind _=_
    rw [tY]
    simp only [Option.bind_eq_bind,Option.bind_some,vX,T9,Option.bind_assoc]
  · simp only [h9]
    exact RP.pure fun i d1 h=>by have:=hQ i.1.1 i.1.2 d1 h; simpa using this
  · rw [F6]
    simp only [Option.bind_eq_bind,Option.bind_assoc]
theorem aOo {s:List UInt8} (hs:s.length≤1048576) {m:Nat} (hE:GE s m) (hP:GP s m):GE s (m+1):=by
  have key:RP (ι:=Unit) s (m+1) (fun _ v d=>dV v+1≤d) (fun _ st=>kZ st) (fun _ st=>mG st):=by
    refine RP.congr (f:=fun _ st=>_) (g:=fun _ st=>_) ?_ (fun _ st=>by rw [kZ]) (fun _ st=>by rw [mG])
    refine RP.bind1 (pW hs) (fun _ _ _ h=>h) ?_; dsimp only
    refine RP.bind (pW hs) ?_; dsimp only
    refine RP.bind (aAg hs) ?_; dsimp only
    refine RP.bind (pW hs) ?_; dsimp only
    refine RP.bind (pW hs) ?_; dsimp only
    refine RP.bind (aIk hs) ?_; dsimp only
    refine RP.bind (pW hs) ?_; dsimp only
    refine RP.bind (pW hs) ?_; dsimp only
    refine RP.bind (Z5 hs (by omega) hE) ?_; dsimp only
    refine aO3 hs hP _ _ _ _ _ _ _ _ _ _ ?_ _ ?_
    · intro _ _; rfl
    intro i l d hl d1 h1 d2 h2 d3 h3 d4 h4 d5 h5 d6 h6 d7 h7 d8 h8 d9 h9
    have:∀ a b c d e f g h k,dV (aB.mk a b c (dR.mk d e f) g h k l)=f.length+zL dV k+zL iR l:=fun a b c d e f g h k=>by simp only [dV,wQ,wS,aE0,zL]
    dsimp only at *
    rw [this]; omega
  exact key.good ()
theorem aW7 {ι : Type} {s : List UInt8} (hs : s.length ≤ 1048576) {m : Nat} (b0 : ι → List Int) (b1 : ι → List (List aB)) (y12 : ι → List aB × aL) (b3 : ι → List bC) (y21 : ι → aL → List aB × aL) (k21 : ι → List aB) (c6 : ι → Bool) (c7 : ι → Int)
    (h21:∀ i st,(y21 i st).1=k21 i) (Q:ι→aX→Nat→Prop) (hQ:∀ i l f n d1,zL List.length l+1≤d1→Q i (aX.mk (b0 i) (b1 i) (y12 i).1 (b3 i) (k21 i) l f n) d1) :
    RP s m Q (fun i st=>fI st>>=fun y22=>nJ y22 (b0 i) (b1 i) (y12 i) (b3 i) (y21 i st) 0 ([]:List (List UInt8)) y22.2.s y22.2.at_ y22.2.bad)
      (fun i st=>kN st (b0 i) (b1 i) (y12 i).1 (b3 i) (k21 i) (c6 i) (c7 i)>>=fun y6=>fH y6.1>>=fun y7=>eF y7.2>>=fun y8=>some (aX.mk (b0 i) (b1 i) (y12 i).1 (b3 i) (k21 i) y6.2.2.2 y7.1 y8.1,y8.2)):=by
  refine (RP.list (ι:=ι) (m:=m) (R:=aX) (f:=fun st=>jL st) (g:=fun st=>jK st) (by':=16) (z:=List.length) (LS:=fun i t y k acc st=>nJ y (b0 i) (b1 i) (y12 i) (b3 i) (y21 i t) k acc st.s st.at_ st.bad)
    (KS:=fun i t acc st=>iG st>>=fun y29=>fJ y29.2>>=fun y30=>some (aX.mk (b0 i) (b1 i) (y12 i).1 (b3 i) (y21 i t).1 acc y29.1 y30.1,y30.2))
    (LI:=fun i t x st acc=>(qR (b0 i) (b1 i) (y12 i).1 (b3 i) (k21 i) x st.s st.at_ st.failed (c6 i) (c7 i) acc).bind fun y6=>fH y6.1>>=fun y7=>eF y7.2>>=fun y8=>some (aX.mk (b0 i) (b1 i) (y12 i).1 (b3 i) (k21 i) y6.2.2.2 y7.1 y8.1,y8.2))
    (KI:=fun i t acc st=>fH st>>=fun y7=>eF y7.2>>=fun y8=>some (aX.mk (b0 i) (b1 i) (y12 i).1 (b3 i) (k21 i) acc y7.1 y8.1,y8.2)) (by omega) ((aIk (ι:=Unit) hs).good ()) (fun _ _ h=>h) hs (by omega) (fun _ _ y k acc st=>?_) (fun _ _ x st acc=>?_) ?_).congr (fun _ st=>rfl) (fun _ st=>?_)
  · show nJ _ _ _ _ _ _ _ _ _ _ _=_
    rw [nJ]
  · show (qR _ _ _ _ _ _ _ _ _ _ _ _).bind _=_
    rw [qR]
    simp only [Option.bind_eq_bind,Option.bind_some,vX,F5,Option.bind_assoc]
  · simp only [h21]
    refine RP.bind (aAg hs) ?_; dsimp only
    refine RP.bind (pW hs) ?_
    refine RP.congr (RP.pure (v:=fun i=>aX.mk (b0 i.1.1.1.1.1.1) (b1 i.1.1.1.1.1.1) (y12 i.1.1.1.1.1.1).1 (b3 i.1.1.1.1.1.1) (k21 i.1.1.1.1.1.1) i.1.1.1.1.1.2 i.1.1.1.2 i.1.2) ?_) (fun _ _=>rfl) (fun _ _=>rfl)
    intro i d1 h1 d2 h2 d3 h3
    exact hQ _ _ _ _ _ (by omega)
  · rw [kN]
    simp only [Option.bind_eq_bind,Option.bind_assoc]
theorem aMp {ι : Type} {s : List UInt8} (hs : s.length ≤ 1048576) {m : Nat} (hE : GE s m) (b0 : ι → List Int) (b1 : ι → List (List aB)) (y12 : ι → aL → List aB × aL) (k12 : ι → List aB) (c6 : ι → Bool) (c7 : ι → Int)
    (h12:∀ i st,(y12 i st).1=k12 i) (Q:ι→aX→Nat→Prop) (hQ:∀ i o w l f n d1,zL iJ o+zL dV w+zL List.length l+1≤d1→Q i (aX.mk (b0 i) (b1 i) (k12 i) o w l f n) d1) :
    RP s m Q (fun i st=>fI st>>=fun y13=>nY y13 (b0 i) (b1 i) (y12 i st) 0 ([]:List bC) (y13.2.s,(y13.2.at_,y13.2.bad)))
      (fun i st=>nR st (b0 i) (b1 i) (k12 i) (c6 i) (c7 i)>>=fun y4=>iI y4.1>>=fun y5=>kN y5.2 (b0 i) (b1 i) (k12 i) y4.2.2.2 y5.1 y4.2.1 y4.2.2.1>>=fun y6=>fH y6.1>>=fun y7=>eF y7.2>>=fun y8=>some (aX.mk (b0 i) (b1 i) (k12 i) y4.2.2.2 y5.1 y6.2.2.2 y7.1 y8.1,y8.2)):=by
  refine (RP.list (ι:=ι) (m:=m) (R:=aX) (f:=fun st=>(kZ st)>>=fun y18=>(iG y18.2)>>=fun y19=>some (bC.mk y18.1 y19.1,y19.2)) (g:=fun st=>(mG st)>>=fun y18=>(fH y18.2)>>=fun y19=>some (bC.mk y18.1 y19.1,y19.2)) (by':=128) (z:=iJ)
    (LS:=fun i t y k acc st=>nY y (b0 i) (b1 i) (y12 i t) k acc (st.s,(st.at_,st.bad)))
    (KS:=fun i t acc st=>kY st>>=fun y21=>fI y21.2>>=fun y22=>nJ y22 (b0 i) (b1 i) (y12 i t) acc y21 0 ([]:List (List UInt8)) y22.2.s y22.2.at_ y22.2.bad)
    (LI:=fun i t x st acc=>(tV (b0 i) (b1 i) (k12 i) x st.s st.at_ (st.failed,(c6 i,(c7 i,acc)))).bind fun y4=>iI y4.1>>=fun y5=>kN y5.2 (b0 i) (b1 i) (k12 i) y4.2.2.2 y5.1 y4.2.1 y4.2.2.1>>=fun y6=>fH y6.1>>=fun y7=>eF y7.2>>=fun y8=>some (aX.mk (b0 i) (b1 i) (k12 i) y4.2.2.2 y5.1 y6.2.2.2 y7.1 y8.1,y8.2))
    (KI:=fun i t acc st=>iI st>>=fun y5=>kN y5.2 (b0 i) (b1 i) (k12 i) acc y5.1 (c6 i) (c7 i)>>=fun y6=>fH y6.1>>=fun y7=>eF y7.2>>=fun y8=>some (aX.mk (b0 i) (b1 i) (k12 i) acc y5.1 y6.2.2.2 y7.1 y8.1,y8.2)) (by omega) (Qe:=fun v d=>iJ v+1≤d) ?_ (fun _ _ h=>h) hs (by omega) (fun _ _ y k acc st=>?_) (fun _ _ x st acc=>?_) ?_).congr (fun _ st=>rfl) (fun _ st=>?_)
  · intro a ha hm
    have hf:=fun b hb (hmb:s.length - b<m)=>(aAg (ι:=Unit) hs (m:=m)).good () b hb hmb
    rcases hE a ha hm with ⟨v,b,e1,e2,k1,k2,k3⟩ | ⟨v,v',b,b',e1,e2,k⟩
    · dsimp only at e1 e2
      simp only [e1,e2,Option.bind_eq_bind,Option.bind_some]
      rcases hf b k2 (by omega) with ⟨w,c,j1,j2,j3,j4,j5⟩ | ⟨w,w',c,c',j1,j2,j3⟩
      · dsimp only at j1 j2
        refine .inl ⟨bC.mk v w,c,by simp [j1],by simp [j2],by omega,j4,?_⟩
        have:iJ (bC.mk v w)=dV v:=by simp only [iJ]
        show iJ (bC.mk v w)+1≤c - a
        rw [this]; omega
      · dsimp only at j1 j2
        exact .inr ⟨bC.mk v w,bC.mk v w',c,c',by simp [j1],by simp [j2],j3⟩
    · dsimp only at e1 e2
      simp only [e1,e2,Option.bind_eq_bind,Option.bind_some]
      obtain ⟨w,hw⟩:=(M8 s hs).1 b
      obtain ⟨w',hw'⟩:=(M8 s hs).2 b' k
      dsimp only at hw hw'
      exact .inr ⟨bC.mk v w,bC.mk v' w',b,b',by simp [hw],by simp [hw'],k⟩
  · show nY _ _ _ _ _ _ _=_
    rw [nY]
    simp only [Option.bind_eq_bind,Option.bind_assoc,Option.bind_some]
  · show (tV _ _ _ _ _ _ _).bind _=_
    rw [tV]
    simp only [Option.bind_eq_bind,Option.bind_some,vX,O7,Option.bind_assoc]
  · refine RP.bind (Z5 hs (by omega) hE) ?_; dsimp only
    refine (aW7 hs (fun i=>b0 i.1.1.1.1) (fun i=>b1 i.1.1.1.1) (fun i=>(y12 i.1.1.1.1 i.1.1.2.1)) (fun i=>i.1.1.1.2) (fun i st=>(i.1.2,st)) (fun i=>i.1.2) (fun i=>c6 i.1.1.1.1) (fun i=>c7 i.1.1.1.1) (fun _ _=>rfl) _ ?_).congr (fun _ _=>rfl) (fun i _=>by simp only [h12])
    intro i l f n d1 h1 d2 h2 d3 h3
    rw [h12]
    exact hQ _ _ _ _ _ _ _ (by omega)
  · rw [nR]
    simp only [Option.bind_eq_bind,Option.bind_assoc]
theorem aPj {ι : Type} {s : List UInt8} (hs : s.length ≤ 1048576) {m : Nat} (hE : GE s m) (b0 : ι → List Int) (c6 : ι → Bool) (c7 : ι → Int)
    (Q:ι→aX→Nat→Prop) (hQ:∀ i n w' o w l f k d1,zL (zL dV) n+zL dV w'+zL iJ o+zL dV w+zL List.length l+1≤d1→Q i (aX.mk (b0 i) n w' o w l f k) d1) :
    RP s m Q (fun i st=>fI st>>=fun y5=>oC y5 (b0 i) 0 ([]:List (List aB)) y5.2.s y5.2.at_ y5.2.bad)
      (fun i st=>tJ st (b0 i) (c6 i) (c7 i)>>=fun y2=>iI y2.1>>=fun y3=>nR y3.2 (b0 i) y2.2.2.2 y3.1 y2.2.1 y2.2.2.1>>=fun y4=>iI y4.1>>=fun y5=>kN y5.2 (b0 i) y2.2.2.2 y3.1 y4.2.2.2 y5.1 y4.2.1 y4.2.2.1>>=fun y6=>fH y6.1>>=fun y7=>eF y7.2>>=fun y8=>some (aX.mk (b0 i) y2.2.2.2 y3.1 y4.2.2.2 y5.1 y6.2.2.2 y7.1 y8.1,y8.2)):=by
  refine (RP.list (ι:=ι) (m:=m) (R:=aX) (f:=fun st=>kY st) (g:=fun st=>iI st) (by':=24) (z:=zL dV)
    (LS:=fun i t y k acc st=>oC y (b0 i) k acc st.s st.at_ st.bad)
    (KS:=fun i t acc st=>kY st>>=fun y12=>fI y12.2>>=fun y13=>nY y13 (b0 i) acc y12 0 ([]:List bC) (y13.2.s,(y13.2.at_,y13.2.bad)))
    (LI:=fun i t x st acc=>(uV (b0 i) x st.s st.at_ st.failed (c6 i) (c7 i,acc)).bind fun y2=>iI y2.1>>=fun y3=>nR y3.2 (b0 i) y2.2.2.2 y3.1 y2.2.1 y2.2.2.1>>=fun y4=>iI y4.1>>=fun y5=>kN y5.2 (b0 i) y2.2.2.2 y3.1 y4.2.2.2 y5.1 y4.2.1 y4.2.2.1>>=fun y6=>fH y6.1>>=fun y7=>eF y7.2>>=fun y8=>some (aX.mk (b0 i) y2.2.2.2 y3.1 y4.2.2.2 y5.1 y6.2.2.2 y7.1 y8.1,y8.2))
    (KI:=fun i t acc st=>iI st>>=fun y3=>nR y3.2 (b0 i) acc y3.1 (c6 i) (c7 i)>>=fun y4=>iI y4.1>>=fun y5=>kN y5.2 (b0 i) acc y3.1 y4.2.2.2 y5.1 y4.2.1 y4.2.2.1>>=fun y6=>fH y6.1>>=fun y7=>eF y7.2>>=fun y8=>some (aX.mk (b0 i) acc y3.1 y4.2.2.2 y5.1 y6.2.2.2 y7.1 y8.1,y8.2)) (by omega) ((Z5 (ι:=Unit) hs (by omega) hE).good ()) (fun _ _ h=>h) hs (by omega) (fun _ _ y k acc st=>?_) (fun _ _ x st acc=>?_) ?_).congr (fun _ st=>rfl) (fun _ st=>?_)
  · show oC _ _ _ _ _ _ _=_
    rw [oC]
  · show (uV _ _ _ _ _ _ _).bind _=_
    rw [uV]
    simp only [Option.bind_eq_bind,Option.bind_some,vX,aA7,Option.bind_assoc]
  · refine RP.bind (Z5 hs (by omega) hE) ?_; dsimp only
    refine (aMp hs hE (fun i=>b0 i.1.1.1.1) (fun i=>i.1.1.1.2) (fun i st=>(i.1.2,st)) (fun i=>i.1.2) (fun i=>c6 i.1.1.1.1) (fun i=>c7 i.1.1.1.1) (fun _ _=>rfl) _ ?_).congr (fun _ _=>rfl) (fun _ _=>rfl)
    intro i o w l f n d1 h1 d2 h2 d3 h3
    exact hQ _ _ _ _ _ _ _ _ _ (by omega)
  · rw [tJ]
    simp only [Option.bind_eq_bind,Option.bind_assoc]
theorem aTk {s:List UInt8} (hs:s.length≤1048576) {m:Nat} (hE:GE s m):GP s (m+1):=by
  have key:RP (ι:=Unit) s (m+1) (fun _ v d=>iR v+1≤d) (fun _ st=>vD st) (fun _ st=>uE st):=by
    refine (RP.list (ι:=Unit) (m:=m) (R:=aX) (f:=fun st=>fJ st) (g:=fun st=>eF st) (by':=8) (z:=z0) (Qe:=fun _ d=>1≤d)
      (LS:=fun i t y k acc st=>tF y k acc st.s st.at_ st.bad)
      (KS:=fun i t acc st=>fI st>>=fun y5=>oC y5 acc 0 ([]:List (List aB)) y5.2.s y5.2.at_ y5.2.bad)
      (LI:=fun i t x st acc=>(pY x st.s st.at_ st.failed false 0 acc).bind fun y1=>tJ y1.1 y1.2.2.2 y1.2.1 y1.2.2.1>>=fun y2=>iI y2.1>>=fun y3=>nR y3.2 y1.2.2.2 y2.2.2.2 y3.1 y2.2.1 y2.2.2.1>>=fun y4=>iI y4.1>>=fun y5=>kN y5.2 y1.2.2.2 y2.2.2.2 y3.1 y4.2.2.2 y5.1 y4.2.1 y4.2.2.1>>=fun y6=>fH y6.1>>=fun y7=>eF y7.2>>=fun y8=>some (aX.mk y1.2.2.2 y2.2.2.2 y3.1 y4.2.2.2 y5.1 y6.2.2.2 y7.1 y8.1,y8.2))
      (KI:=fun i t acc st=>tJ st acc false 0>>=fun y2=>iI y2.1>>=fun y3=>nR y3.2 acc y2.2.2.2 y3.1 y2.2.1 y2.2.2.1>>=fun y4=>iI y4.1>>=fun y5=>kN y5.2 acc y2.2.2.2 y3.1 y4.2.2.2 y5.1 y4.2.1 y4.2.2.1>>=fun y6=>fH y6.1>>=fun y7=>eF y7.2>>=fun y8=>some (aX.mk acc y2.2.2.2 y3.1 y4.2.2.2 y5.1 y6.2.2.2 y7.1 y8.1,y8.2)) (by omega) ((pW (ι:=Unit) hs).good ()) (fun _ _ h=>by simp only [z0]; omega) hs (by omega) (fun _ _ y k acc st=>?_) (fun _ _ x st acc=>?_) ?_).congr (fun _ st=>?_) (fun _ st=>?_)
    · show tF _ _ _ _ _ _=_
      rw [tF]
    · show (pY _ _ _ _ _ _ _).bind _=_
      rw [pY]
      simp only [Option.bind_eq_bind,Option.bind_some,vX,I9,Option.bind_assoc]
    · refine (aPj hs hE (fun i=>i.1.2) (fun _=>false) (fun _=>0) _ ?_).congr (fun _ _=>rfl) (fun _ _=>rfl)
      intro i n w' o w l f k d1 h1 d2 h2
      have:iR (aX.mk i.1.2 n w' o w l f k)=zL z0 i.1.2+zL (zL dV) n+zL dV w'+zL iJ o+zL dV w+zL List.length l:=by simp only [iR,wS,aC2,aFd,zL]
      rw [this]; omega
    · rw [vD]
    · rw [uE,zY]
      simp only [Option.bind_eq_bind,Option.bind_assoc]
  exact key.good ()
theorem X9 {s:List UInt8} (hs:s.length≤1048576):∀ m,GE s m∧GP s m
  | 0=>⟨fun a _ h=>by omega,fun a _ h=>by omega⟩
  | m+1=>⟨aOo hs (X9 hs m).1 (X9 hs m).2,aTk hs (X9 hs m).1⟩
theorem aTh:∀ (n:Nat) (x:Int) (t:List UInt8),0≤x→x<10 ^ n→x≤1000000000000→t.length+n≤100→∃ s,qX x t=some s:=by
  intro n
  have cat:∀ a b:List UInt8,a.length+b.length≤200→wW a b=some (a++b):=fun a b h=>by unfold wW; rw [if_pos (by simp only [maxLen]; omega)]
  induction n with
  | zero =>
    intro x t h0 h1 _ ht
    rw [qX,if_neg (by simp at h1 ⊢; omega)]
    rw [cat _ _ (by simp; omega)]
    exact ⟨_,rfl⟩
  | succ n ih =>
    intro x t h0 h1 hb ht
    rw [qX]
    by_cases hx:0<x
    · rw [if_pos (by simpa using hx)]
      have e:ofBytes [IntKind.wrap .u8 (IntKind.wrap .i64 (48+Int.tmod x 10))]=some [UInt8.ofNat (IntKind.wrap .u8 (IntKind.wrap .i64 (48+Int.tmod x 10))).toNat]:=by
        unfold ofBytes
        rw [if_pos (by simp [IntKind.wrap,IntKind.bits,IntKind.signed]; omega)]
        rfl
      rw [e]
      simp only [Option.bind_eq_bind,Option.bind_some]
      rw [cat _ _ (by simp; omega)]
      simp only [Option.bind_some]
      have ed:Int.tdiv x 10=x / 10:=Int.tdiv_eq_ediv_of_nonneg (by omega)
      have ed2:x / 10<10 ^ n:=by
        have:x<10 ^ n * 10:=by rw [Int.pow_succ] at h1; exact h1
        exact Int.ediv_lt_of_lt_mul (by omega) this
      rw [ed,gY (by omega) (by omega)]
      exact ih _ _ (by omega) ed2 (by omega) (by simp; omega)
    · rw [if_neg (by simpa using hx)]
      rw [cat _ _ (by simp; omega)]
      exact ⟨_,rfl⟩
def mt (k:Int):List UInt8:=(jV k).getD []
theorem xH {k:Int} (h0:0≤k) (h1:k≤1000000000000):jV k=some (mt k):=by
  have:∃ s,jV k=some s:=by
    unfold jV
    split
    · exact ⟨_,rfl⟩
    · exact aTh 20 k [] h0 (by omega) h1 (by simp)
  obtain ⟨s,hs⟩:=this
  simp [mt,hs]
theorem aVh {α : Type} {LM : Int → Int → List α → Option (Int × List α)} {LH : List α → Int → Int → Option Int} {z : α → Nat} {B : Int}
    (hend:∀ k (m:List α),LM k (m.length:Int) m=some (k,m)) (hend2:∀ k (m:List α),LH m k (m.length:Int)=some k) :
    ∀ (r:Nat) (i:Nat) (m:List α) (k:Int),m.length=i+r→m.length≤1048576 →
    (∀ y ∈ m.drop i,∀ k,0≤k→k+13 * (1+z y:Nat)≤B→∃ k1 y',k≤k1∧k1≤k+13 * (1+z y:Nat) ∧
      (∀ (m:List α) (i:Nat),i<m.length→m.length≤1048576→m[i]?=some y→LM k (i:Int) m=LM k1 ((i+1:Nat):Int) (m.set i y')) ∧
      (∀ (M:List α) (i:Nat),i<M.length→M.length≤1048576→M[i]?=some y'→LH M k (i:Int)=LH M k1 ((i+1:Nat):Int))) →
    0≤k→k+13 * ((m.drop i).length+((m.drop i).map z).sum:Nat)≤B →
    ∃ m' k',LM k (i:Int) m=some (k',m')∧m'.length=m.length∧m'.take i=m.take i∧(∀ M:List α,M.length=m'.length→M.drop i=m'.drop i→LH M k (i:Int)=some k')∧k≤k'∧k'≤k+13 * ((m.drop i).length+((m.drop i).map z).sum:Nat):=by
  intro r
  induction r with
  | zero =>
    intro i m k hl _ _ h0 hk
    have e:i=m.length:=by omega
    subst e
    refine ⟨m,k,hend k m,rfl,rfl,fun M hM _=>?_,by omega,by simp⟩
    rw [← hM]; exact hend2 k M
  | succ r ih =>
    intro i m k hl hsm H h0 hk
    have hi:i<m.length:=by omega
    have hd:m.drop i=m[i]::m.drop (i+1):=List.drop_eq_getElem_cons hi
    rw [hd] at hk H
    simp only [List.length_cons,List.map_cons,List.sum_cons] at hk
    obtain ⟨k1,y',a1,a2,a3,a4⟩:=H m[i] List.mem_cons_self k h0 (by omega)
    have hset:(m.set i y').drop (i+1)=m.drop (i+1):=List.drop_set_of_lt (by omega)
    obtain ⟨m',k',b1,b2,b3,b4,b5,b6⟩:=ih (i+1) (m.set i y') k1 (by simp; omega) (by simpa using hsm) (by rw [hset]; exact fun y hy=>H y (List.mem_cons_of_mem _ hy)) (by omega) (by rw [hset]; omega)
    rw [hset] at b6
    rw [List.length_set] at b2
    have hm'i:m'[i]?=some y':=by
      have:(m'.take (i+1))[i]?=((m.set i y').take (i+1))[i]?:=by rw [b3]
      rw [List.getElem?_take_of_lt (by omega),List.getElem?_take_of_lt (by omega)] at this
      rw [this]; simp [hi]
    refine ⟨m',k',?_,b2,?_,fun M hM hMd=>?_,by omega,?_⟩
    · rw [a3 m i hi hsm (by simp [hi]),b1]
    · have:(m'.take (i+1)).take i=((m.set i y').take (i+1)).take i:=by rw [b3]
      rw [List.take_take,List.take_take,Nat.min_eq_left (by omega),List.take_set_of_le (Nat.le_refl _)] at this
      exact this
    · have hMi : M[i]? = some y' := by
        have:(M.drop i)[0]?=(m'.drop i)[0]?:=by rw [hMd]
        simpa [hm'i] using this
      rw [a4 M i (by omega) (by omega) hMi]
      refine b4 M hM ?_
      have:(M.drop i).drop 1=(m'.drop i).drop 1:=by rw [hMd]
      simpa [List.drop_drop,Nat.add_comm] using this
    · rw [hd]
      simp only [List.length_cons,List.map_cons,List.sum_cons]; omega
theorem vU {α : Type} {LM : Int → Int → List α → Option (Int × List α)} {LH : List α → Int → Int → Option Int} {z : α → Nat} {B : Int}
    (hend:∀ k (m:List α),LM k (m.length:Int) m=some (k,m)) (hend2:∀ k (m:List α),LH m k (m.length:Int)=some k) (l:List α) (k:Int) (hl:l.length≤1048576)
    (H:∀ y ∈ l,∀ k,0≤k→k+13 * (1+z y:Nat)≤B→∃ k1 y',k≤k1∧k1≤k+13 * (1+z y:Nat) ∧
      (∀ (m:List α) (i:Nat),i<m.length→m.length≤1048576→m[i]?=some y→LM k (i:Int) m=LM k1 ((i+1:Nat):Int) (m.set i y')) ∧
      (∀ (M:List α) (i:Nat),i<M.length→M.length≤1048576→M[i]?=some y'→LH M k (i:Int)=LH M k1 ((i+1:Nat):Int)))
    (h0:0≤k) (hk:k+13 * (l.length+(l.map z).sum:Nat)≤B) :
    ∃ l' k',LM k 0 l=some (k',l')∧LH l' k 0=some k'∧k≤k'∧k'≤k+13 * (l.length+(l.map z).sum:Nat):=by
  obtain ⟨m',k',b1,b2,b3,b4,b5,b6⟩:=aVh (z:=z) (B:=B) hend hend2 l.length 0 l k (by omega) hl (by simpa using H) h0 (by simpa using hk)
  exact ⟨m',k',by simpa using b1,by simpa using b4 m' rfl rfl,b5,by simpa using b6⟩
theorem w1 {j:Int} (h0:0≤j) (h1:j≤1000000000000):IntKind.wrap .i64 (j+1)=j+1:=gY (by omega) (by omega)
theorem wU {α:Type} {z:α→Nat} {l:List α} {y:α} (h:y ∈ l):z y+1≤zL z l:=by
  have h1:=aK5 (z:=z) h
  have h2:=List.length_pos_of_mem h
  unfold zL; omega
theorem zXp (x:aB):zL dV x.kids+zL iR x.sub≤dV x:=by
  obtain ⟨a0,a1,a2,⟨b0,b1,b2⟩,a4,a5,a6,a7⟩:=x
  simp only [dV,wQ,wS,aE0,zL]; omega
theorem zPp (q:aX):zL z0 q.tables+zL (zL dV) q.on_+zL dV q.where_+zL iJ q.order+zL dV q.items+zL List.length q.names≤iR q:=by
  obtain ⟨a0,a1,a2,a3,a4,a5,a6,a7⟩:=q
  simp only [iR,wS,aC2,aFd,zL]; omega
theorem zSp (k:bC):dV k.expr≤iJ k:=by obtain ⟨a,b⟩:=k; simp only [iJ]; omega
def MK {α:Type} (M:List α→Int→Option (Int×List α)) (H:List α→Int→Option Int) (z:α→Nat) (l:List α):Prop :=
  ∀ k:Int,0≤k→k+13 * (zL z l:Nat)≤1000000000→∃ l' k',M l k=some (k',l')∧H l' k=some k'∧k≤k'∧k'≤k+13 * (zL z l:Nat)
def MX (l:List aB):Prop:=MK mI nM dV l
def MP (l:List aX):Prop:=MK qK uJ iR l
theorem aSl (l:List Int) (hl:l.length≤1048576):MK xV M4 z0 l:=by
  intro k h0 hk
  refine Exists.elim (vU (LM:=fun k i m=>pK k i m) (LH:=fun m k i=>oV m k i) (z:=z0) (B:=1000000000) (fun k m=>by rw [pK]; simp) (fun k m=>by rw [oV]; simp) l k hl ?_ h0 hk) fun l' hx=>Exists.elim hx fun k' ⟨a1,a2,a3,a4⟩=>⟨l',k',by rw [xV]; exact a1,by rw [M4]; exact a2,a3,a4⟩
  intro y hy k h0 hk
  refine ⟨k+1,k,by omega,by omega,fun m i hi hm hg=>?_,fun M i hi hm hg=>?_⟩
  · show pK k (i:Int) m=_
    rw [pK]
    simp (disch:=omega) only [kU,hi,decide_true,if_true,kH,hg,Option.bind_eq_bind,Option.bind_some,w1,Int.toNat_natCast]
    rfl
  · show oV M k (i:Int)=_
    rw [oV]
    simp (disch:=omega) only [kU,hi,decide_true,if_true,kH,hg,Option.bind_eq_bind,Option.bind_some,w1,eq_self,Bool.not_true,Bool.false_eq_true,if_false,decide_false]
    rfl
theorem aMc (l:List (List UInt8)) (hl:l.length≤1048576):MK xO H6 List.length l:=by
  intro k h0 hk
  refine Exists.elim (vU (LM:=fun k i m=>oJ k i m) (LH:=fun m k i=>oG m k i) (z:=List.length) (B:=1000000000) (fun k m=>by rw [oJ]; simp) (fun k m=>by rw [oG]; simp) l k hl ?_ h0 hk) fun l' hx=>Exists.elim hx fun k' ⟨a1,a2,a3,a4⟩=>⟨l',k',by rw [xO]; exact a1,by rw [H6]; exact a2,a3,a4⟩
  intro y hy k h0 hk
  refine ⟨k+1,mt k,by omega,by omega,fun m i hi hm hg=>?_,fun M i hi hm hg=>?_⟩
  · show oJ k (i:Int) m=_
    rw [oJ]
    simp (disch:=omega) only [kU,hi,decide_true,if_true,kH,hg,Option.bind_eq_bind,Option.bind_some,w1,xH,Int.toNat_natCast]
    rfl
  · show oG M k (i:Int)=_
    rw [oG]
    simp (disch:=omega) only [kU,hi,decide_true,if_true,kH,hg,Option.bind_eq_bind,Option.bind_some,w1,xH,eq_self,Bool.not_true,Bool.false_eq_true,if_false,decide_false]
    rfl
theorem aLg {l:List aB} (hl:l.length≤1048576) (hE:∀ y ∈ l,MX y.kids) (hQ:∀ y ∈ l,MP y.sub):MX l:=by
  intro k h0 hk
  refine Exists.elim (vU (LM:=fun k i m=>rX k i m) (LH:=fun m k i=>rO m k i) (z:=dV) (B:=1000000000) (fun k m=>by rw [rX]; simp) (fun k m=>by rw [rO]; simp) l k hl ?_ h0 hk) fun l' hx=>Exists.elim hx fun k' ⟨a1,a2,a3,a4⟩=>⟨l',k',by rw [mI]; exact a1,by rw [nM]; exact a2,a3,a4⟩
  intro y hy k h0 hk
  have hzE:=zXp y
  obtain ⟨la,ka,b1,b2,b3,b4⟩:=hE y hy (k+1+1+1+1+1+1+1+1) (by omega) (by omega)
  obtain ⟨lb,kb,c1,c2,c3,c4⟩:=hQ y hy ka (by omega) (by omega)
  have n1:¬ ka<0:=by omega
  have n2:¬ kb<0:=by omega
  refine ⟨kb,aB.mk k (k+1) (decide (Int.tmod (k+1+1) 3=0)) ⟨k+1+1+1,k+1+1+1+1,mt (k+1+1+1+1+1)⟩ (k+1+1+1+1+1+1) (k+1+1+1+1+1+1+1) la lb,by omega,by omega,fun m i hi hm hg=>?_,fun M i hi hm hg=>?_⟩
  · show rX k (i:Int) m=_
    rw [rX]
    simp (disch:=omega) only [kU,hi,decide_true,if_true,kH,hg,Option.bind_eq_bind,Option.bind_some,w1,xH,b1,c1,Int.toNat_natCast]
    rfl
  · show rO M k (i:Int)=_
    rw [rO]
    simp (disch:=omega) only [kU,hi,decide_true,if_true,kH,hg,Option.bind_eq_bind,Option.bind_some,w1,xH,eq_self,Bool.not_true,Bool.false_eq_true,if_false,decide_false,beq_self_eq_true,b2,c2,n1,n2]
    rfl
theorem aLt {l:List (List aB)} (hl:l.length≤1048576) (hE:∀ y ∈ l,MX y):MK wB wH (zL dV) l:=by
  intro k h0 hk
  refine Exists.elim (vU (LM:=fun k i m=>rV k i m) (LH:=fun m k i=>qZ m k i) (z:=zL dV) (B:=1000000000) (fun k m=>by rw [rV]; simp) (fun k m=>by rw [qZ]; simp) l k hl ?_ h0 hk) fun l' hx=>Exists.elim hx fun k' ⟨a1,a2,a3,a4⟩=>⟨l',k',by rw [wB]; exact a1,by rw [wH]; exact a2,a3,a4⟩
  intro y hy k h0 hk
  obtain ⟨la,ka,b1,b2,b3,b4⟩:=hE y hy k (by omega) (by omega)
  have n1:¬ ka<0:=by omega
  refine ⟨ka,la,by omega,by omega,fun m i hi hm hg=>?_,fun M i hi hm hg=>?_⟩
  · show rV k (i:Int) m=_
    rw [rV]
    simp (disch:=omega) only [kU,hi,decide_true,if_true,kH,hg,Option.bind_eq_bind,Option.bind_some,w1,b1,Int.toNat_natCast]
    rfl
  · show qZ M k (i:Int)=_
    rw [qZ]
    simp (disch:=omega) only [kU,hi,decide_true,if_true,kH,hg,Option.bind_eq_bind,Option.bind_some,w1,Bool.false_eq_true,if_false,decide_false,b2,n1]
    rfl
set_option maxHeartbeats 1000000 in
theorem aPl {l:List bC} (hl:l.length≤1048576) (hE:∀ y ∈ l,MX y.expr.kids) (hQ:∀ y ∈ l,MP y.expr.sub):MK yR xY iJ l:=by
  intro k h0 hk
  refine Exists.elim (vU (LM:=fun k i m=>oL k i m) (LH:=fun m k i=>oQ m k i) (z:=iJ) (B:=1000000000) (fun k m=>by rw [oL]; simp) (fun k m=>by rw [oQ]; simp) l k hl ?_ h0 hk) fun l' hx=>Exists.elim hx fun k' ⟨a1,a2,a3,a4⟩=>⟨l',k',by rw [yR]; exact a1,by rw [xY]; exact a2,a3,a4⟩
  intro y hy k h0 hk
  have hzE:=zXp y.expr
  have hzI:=zSp y
  obtain ⟨la,ka,b1,b2,b3,b4⟩:=hE y hy (k+1+1+1+1+1+1+1+1) (by omega) (by omega)
  obtain ⟨lb,kb,c1,c2,c3,c4⟩:=hQ y hy ka (by omega) (by omega)
  have n1:¬ ka<0:=by omega
  have n2:¬ kb<0:=by omega
  refine ⟨kb+1,bC.mk (aB.mk k (k+1) (decide (Int.tmod (k+1+1) 3=0)) ⟨k+1+1+1,k+1+1+1+1,mt (k+1+1+1+1+1)⟩ (k+1+1+1+1+1+1) (k+1+1+1+1+1+1+1) la lb) (decide (Int.tmod kb 3=0)),by omega,by omega,fun m i hi hm hg=>?_,fun M i hi hm hg=>?_⟩
  · show oL k (i:Int) m=_
    rw [oL]
    simp (disch:=omega) only [kU,hi,decide_true,if_true,kH,hg,Option.bind_eq_bind,Option.bind_some,w1,xH,b1,c1,Int.toNat_natCast]
    rfl
  · show oQ M k (i:Int)=_
    rw [oQ]
    simp (disch:=omega) only [kU,hi,decide_true,if_true,kH,hg,Option.bind_eq_bind,Option.bind_some,w1,xH,eq_self,Bool.not_true,Bool.false_eq_true,if_false,decide_false,beq_self_eq_true,b2,c2,n1,n2]
    rfl
set_option maxHeartbeats 1000000 in
theorem aK4 {l:List aX} (hl:l.length≤1048576) (h1:∀ y ∈ l,y.tables.length≤1048576) (h2:∀ y ∈ l,MK wB wH (zL dV) y.on_) (h3:∀ y ∈ l,MX y.where_) (h4:∀ y ∈ l,MK yR xY iJ y.order) (h5:∀ y ∈ l,MX y.items) (h6:∀ y ∈ l,y.names.length≤1048576):MP l:=by
  intro k h0 hk
  refine Exists.elim (vU (LM:=fun k i m=>sF k i m) (LH:=fun m k i=>qL m k i) (z:=iR) (B:=1000000000) (fun k m=>by rw [sF]; simp) (fun k m=>by rw [qL]; simp) l k hl ?_ h0 hk) fun l' hx=>Exists.elim hx fun k' ⟨a1,a2,a3,a4⟩=>⟨l',k',by rw [qK]; exact a1,by rw [uJ]; exact a2,a3,a4⟩
  intro y hy k h0 hk
  have hz:=zPp y
  obtain ⟨l1,k1,b1,b2,b3,b4⟩:=aSl y.tables (h1 y hy) k (by omega) (by omega)
  obtain ⟨l2,k2,c1,c2,c3,c4⟩:=h2 y hy k1 (by omega) (by omega)
  obtain ⟨l3,k3,d1,d2,d3,d4⟩:=h3 y hy k2 (by omega) (by omega)
  obtain ⟨l4,k4,e1,e2,e3,e4⟩:=h4 y hy k3 (by omega) (by omega)
  obtain ⟨l5,k5,f1,f2,f3,f4⟩:=h5 y hy k4 (by omega) (by omega)
  obtain ⟨l6,k6,g1,g2,g3,g4⟩:=aMc y.names (h6 y hy) k5 (by omega) (by omega)
  have n1:¬ k1<0:=by omega
  have n2:¬ k2<0:=by omega
  have n3:¬ k3<0:=by omega
  have n4:¬ k4<0:=by omega
  have n5:¬ k5<0:=by omega
  have n6:¬ k6<0:=by omega
  refine ⟨k6+1+1,aX.mk l1 l2 l3 l4 l5 l6 (decide (Int.tmod k6 3=0)) (k6+1),by omega,by omega,fun m i hi hm hg=>?_,fun M i hi hm hg=>?_⟩
  · show sF k (i:Int) m=_
    rw [sF]
    simp (disch:=omega) only [kU,hi,decide_true,if_true,kH,hg,Option.bind_eq_bind,Option.bind_some,w1,b1,c1,d1,e1,f1,g1,Int.toNat_natCast]
    rfl
  · show qL M k (i:Int)=_
    rw [qL]
    simp only [kU,hi,decide_true,if_true,kH,hg,Option.bind_eq_bind,Option.bind_some]
    simp only [b2,n1,decide_false,Bool.false_eq_true,if_false,Option.bind_some]
    simp only [c2,n2,decide_false,Bool.false_eq_true,if_false,Option.bind_some]
    simp only [d2,n3,decide_false,Bool.false_eq_true,if_false,Option.bind_some]
    simp only [e2,n4,decide_false,Bool.false_eq_true,if_false,Option.bind_some]
    simp only [f2,n5,decide_false,Bool.false_eq_true,if_false,Option.bind_some]
    simp only [g2,n6,decide_false,Bool.false_eq_true,if_false,Option.bind_some,beq_self_eq_true,Bool.not_true]
    simp (disch:=omega) only [w1,eq_self,decide_true,Bool.not_true,Bool.false_eq_true,if_false]
    rfl
theorem rU {α:Type} {z:α→Nat} (l:List α):l.length≤zL z l:=by unfold zL; omega
theorem aUi:∀ n:Nat,n≤1048576→(∀ l:List aB,zL dV l≤n→MX l)∧(∀ l:List aX,zL iR l≤n→MP l):=by
  intro n
  induction n with
  | zero =>
    intro _
    refine ⟨fun l h=>?_,fun l h=>?_⟩
    · have:l=[]:=List.eq_nil_of_length_eq_zero (by have:=rU (z:=dV) l; omega)
      subst this; exact aLg (by simp) (by simp) (by simp)
    · have:l=[]:=List.eq_nil_of_length_eq_zero (by have:=rU (z:=iR) l; omega)
      subst this; exact aK4 (by simp) (by simp) (by simp) (by simp) (by simp) (by simp) (by simp)
  | succ n ih =>
    intro hn
    obtain ⟨i1,i2⟩:=ih (by omega)
    refine ⟨fun l h=>aLg (by have:=rU (z:=dV) l; omega) (fun y hy=>i1 _ ?_) (fun y hy=>i2 _ ?_),fun l h=>?_⟩
    · have:=wU (z:=dV) hy; have:=zXp y; omega
    · have:=wU (z:=dV) hy; have:=zXp y; omega
    · have key:∀ y ∈ l,zL z0 y.tables+zL (zL dV) y.on_+zL dV y.where_+zL iJ y.order+zL dV y.items+zL List.length y.names≤n:=fun y hy=>by have:=wU (z:=iR) hy; have:=zPp y; omega
      refine aK4 (by have:=rU (z:=iR) l; omega) (fun y hy=>?_) (fun y hy=>aLt ?_ fun x hx=>i1 _ ?_) (fun y hy=>i1 _ ?_) (fun y hy=>aPl ?_ (fun x hx=>i1 _ ?_) fun x hx=>i2 _ ?_) (fun y hy=>i1 _ ?_) (fun y hy=>?_)
      · have:=key y hy; have:=rU (z:=z0) y.tables; omega
      · have:=key y hy; have:=rU (z:=zL dV) y.on_; omega
      · have:=key y hy; have:=wU (z:=zL dV) hx; omega
      · have:=key y hy; omega
      · have:=key y hy; have:=rU (z:=iJ) y.order; omega
      · have:=key y hy; have:=wU (z:=iJ) hx; have:=zSp x; have:=zXp x.expr; omega
      · have:=key y hy; have:=wU (z:=iJ) hx; have:=zSp x; have:=zXp x.expr; omega
      · have:=key y hy; omega
      · have:=key y hy; have:=rU (z:=List.length) y.names; omega
theorem aQf (s:List UInt8) (hs:s.length≤1048576) (b:Int):∃ v,kZ ⟨s,b,true⟩=some (v,⟨s,b,true⟩):=by
  have m0:=(L6 s hs).1 b
  have x0:kY ⟨s,b,true⟩=some ([],⟨s,b,true⟩):=by
    rw [kY,m0]; simp only [Option.bind_eq_bind,Option.bind_some]; rw [qG]; simp
  obtain ⟨f,hf⟩:=(M8 s hs).1 b
  obtain ⟨t,ht⟩:=(aFi s hs).1 b
  have n0:=(uX s hs).1 b
  dsimp only at hf ht
  refine ⟨aB.mk 0 0 f (dR.mk 0 0 t) 0 0 [] [],?_⟩
  rw [kZ]
  simp only [m0,x0,hf,ht,n0,Option.bind_eq_bind,Option.bind_some]
  rw [oP]
  simp only [Bool.not_true,ite_self,Option.bind_eq_bind,Option.bind_some,Bool.false_eq_true,if_false]
theorem aMl (s:List UInt8) (a:Int) (hs:s.length≤1048576):∃ r,pE s a=some r∧vV s a=some r∧dV r.1≤20000:=by
  have z0':dV (aB.mk 0 0 false (dR.mk 0 0 []) 0 0 [] [])≤20000:=by simp [dV,wQ,lX,rF]
  by_cases h:s.length≤20000∧0≤a∧a≤(s.length:Int)
  · obtain ⟨n,rfl⟩:∃ n:Nat,a=(n:Int):=⟨a.toNat,by omega⟩
    have e1:qC s (n:Int)=some (⟨s,(n:Int),false⟩,true):=by
      rw [qC]
      have h1:((s.length:Nat):Int)≤20000:=by omega
      have h2:n≤s.length:=by omega
      simp [h1,h2]
    have e2:qJ s (n:Int)=some ⟨s,(n:Int),false⟩:=by
      rw [qJ]
      have h1:¬ (20000:Int)<((s.length:Nat):Int):=by omega
      have h2:n≤s.length:=by omega
      simp [h1,h2,sIn]
    rw [pE,vV,e1,e2]
    simp only [Option.bind_eq_bind,Option.bind_some,Bool.not_true,Bool.false_eq_true,if_false]
    rcases (X9 hs (s.length+1)).1 n (by omega) (by omega) with ⟨v,b,j1,j2,j3,j4,j5⟩ | ⟨v,v',b,b',j1,j2,j3⟩
    · dsimp only at j1 j2
      simp only [j1,j2,Option.bind_some,Bool.false_eq_true,if_false]
      exact ⟨_,rfl,rfl,by show dV v≤20000; omega⟩
    · dsimp only at j1 j2
      simp only [j1,j2,Option.bind_some,if_true]
      exact ⟨_,rfl,rfl,z0'⟩
  · have e1 : ∃ r, qC s a = some (r, false) := by
      rw [qC]
      by_cases h1:((s.length:Nat):Int)≤20000
      · by_cases h2:0≤a
        · have h3:¬ a≤(s.length:Int):=fun h3=>h ⟨by omega,h2,h3⟩
          exact ⟨_,by simp [h1,h2,h3]; rfl⟩
        · exact ⟨_,by simp [h1,h2]; rfl⟩
      · exact ⟨_,by simp [h1]; rfl⟩
    have e2:qJ s a=some ⟨s,a,true⟩:=by
      rw [qJ]
      by_cases h1:(20000:Int)<((s.length:Nat):Int)
      · simp [h1]
      · have h2:¬ (0≤a∧a≤(s.length:Int)):=fun h2=>h ⟨by omega,h2⟩
        simp [h1,sIn]; omega
    obtain ⟨r,e1⟩:=e1
    obtain ⟨v,e3⟩:=aQf s hs a
    rw [pE,vV,e1,e2]
    simp only [Option.bind_eq_bind,Option.bind_some,Bool.not_false,if_true,e3]
    exact ⟨_,rfl,rfl,z0'⟩
theorem aSi (p:aB) (hz:dV p≤1048576):∃ k t,xW p 1=some (k,t)∧pX ⟨p.kind,p.op,p.not_,p.value,p.up,p.at_,t.1,t.2⟩ 1=some k∧1≤k:=by
  have hZ:=zXp p
  obtain ⟨M1,M2⟩:=aUi 1048576 (by omega)
  obtain ⟨l1,k1,b1,b2,b3,b4⟩:=M1 p.kids (by omega) 1 (by omega) (by omega)
  obtain ⟨l2,k2,c1,c2,c3,c4⟩:=M2 p.sub (by omega) k1 (by omega) (by omega)
  have n1:¬ k1<0:=by omega
  have n2:¬ k2<0:=by omega
  refine ⟨k2,(l1,l2),?_,?_,by omega⟩
  · rw [xW,b1]
    simp only [Option.bind_eq_bind,Option.bind_some,c1]
  · rw [pX]
    simp only [b2,c2,n1,n2,Option.bind_eq_bind,Option.bind_some,decide_false,Bool.false_eq_true,if_false]
theorem aSu (s:List UInt8) (_:okS s) (a:Int) (_:okI a):C9 s a=some true:=by
  unfold C9
  by_cases h:(1048576:Int)<(s.length:Int)
  · rw [if_pos (by simpa using h)]
  · rw [if_neg (by simpa using h)]
    obtain ⟨r,r1,r2,r3⟩:=aMl s a (by omega)
    obtain ⟨k,t,k1,k2,k3⟩:=aSi r.1 (by omega)
    have n1:¬ k<0:=by omega
    simp [r1,r2,aFe r.1 (by omega),k1,k2,n1]
end Go.Ab
