/- What the functions compute,in plain Lean. -/
import Derived.Test.YtphefknfgclofaaFGetBack
namespace Go.Ab
open Go
theorem fB {n:Int} (h1 : -9223372036854775808≤n) (h2:n≤9223372036854775807):IntKind.wrap .i64 n=n:=by rw [IntKind.wrap_i64]; omega
theorem aLn {i n:Nat} (h:i<n) (hn:n≤4611686018427387904):IntKind.wrap .i64 ((i:Int)+1)=((i+1:Nat):Int):=by rw [fB] <;> omega
theorem V4 (i n:Nat):decide ((i:Int)<(n:Int))=decide (i<n):=by simp
theorem aNc {α:Type} (l:List α) (i:Nat):idx l (i:Int)=l[i]?:=by simp [idx]
theorem aGw {α:Type} {l:List α} {i:Nat} (h:i<l.length):idx l (i:Int)=some l[i]:=by rw [aNc]; simp [h]
theorem aPi {M:Nat→Prop} {n:Nat} (h0:M n) (h:∀ i,i<n→M (i+1)→M i):∀ i,i≤n→M i:=by
  have:∀ k i,i+k=n→M i:=by
    intro k
    induction k with
    | zero => intro i hi; have : i = n := by omega
              subst this; exact h0
    | succ k ih=>intro i hi; exact h i (by omega) (ih (i+1) (by omega))
  exact fun i hi=>this (n - i) i (by omega)
def zL {α:Type} (z:α→Nat) (l:List α):Nat:=l.length+(l.map z).sum
def z0 {α:Type} (_:α):Nat:=0
theorem aA9 {α:Type} (z:α→Nat) (x:α) (l:List α):((x::l).map z).sum=z x+(l.map z).sum:=by simp
theorem kH {α:Type} {z:α→Nat}:∀ {p:List α} {y:α},y ∈ p→z y≤(p.map z).sum
  | x::p,y,h=>by
    rw [aA9]
    rcases List.mem_cons.1 h with rfl | h
    · omega
    · have:=kH (z:=z) h; omega
def aDu:bN→Nat
  | ⟨a0,a1,a2⟩=>a2.length
mutual
def lC:bH→Nat
  | ⟨a0,a1⟩=>bU a0
def gL:aV→Nat
  | ⟨a0,a1,a2,a3,a4,a5,a6,a7⟩=>(zL z0) a0+(a1.length+U3 a1)+(a2.length+uE a2)+(a3.length+K5 a3)+(a4.length+uE a4)+(zL List.length) a5
def bU:aB→Nat
  | ⟨a0,a1,a2,a3,a4,a5,a6,a7⟩=>aDu a3+(a6.length+uE a6)+(a7.length+aAl a7)
def aAl:List aV→Nat
  | []=>0
  | x::l=>gL x+aAl l
def uE:List aB→Nat
  | []=>0
  | x::l=>bU x+uE l
def K5:List bH→Nat
  | []=>0
  | x::l=>lC x+K5 l
def U3:List (List aB)→Nat
  | []=>0
  | x::l=>(x.length+uE x)+U3 l
end
theorem aCd:∀ l:List aV,aAl l=(l.map gL).sum
  | []=>by simp [aAl]
  | x::l=>by rw [aA9,← aCd l]; simp only [aAl]
theorem vK:∀ l:List aB,uE l=(l.map bU).sum
  | []=>by simp [uE]
  | x::l=>by rw [aA9,← vK l]; simp only [uE]
theorem aAk:∀ l:List bH,K5 l=(l.map lC).sum
  | []=>by simp [K5]
  | x::l=>by rw [aA9,← aAk l]; simp only [K5]
theorem aAu:∀ l:List (List aB),U3 l=(l.map (zL bU)).sum
  | []=>by simp [U3]
  | x::l=>by rw [aA9,← aAu l]; simp only [U3,zL,vK]
theorem qJ {α:Type} {b:Nat} {l m:List α} (h:(l.length+m.length) * b≤140737488355328):appG b l m=some (l++m):=by unfold appG; rw [if_pos h]
theorem gather {α β γ : Type} {p : List α} {f : α → List β} {G : α → List β → Option (List β)} {L : List β → Int → Option γ} {K : List β → Option γ} {c : Nat} (hp : p.length ≤ 4194304)
    (hG:∀ y ∈ p,∀ acc:List β,acc.length+(f y).length≤c→G y acc=some (acc++f y))
    (hL:∀ (i:Nat) acc,L acc (i:Int)=if (decide ((i:Int)<(p.length:Int)))=true then ((idx p (i:Int))>>=fun y=>(G y acc)>>=fun z=>L z (IntKind.wrap .i64 ((i:Int)+1))) else K acc) :
    ∀ acc:List β,acc.length+(p.flatMap f).length≤c→L acc 0=K (acc++p.flatMap f):=by
  have key:∀ i,i≤p.length→∀ acc:List β,acc.length+((p.drop i).flatMap f).length≤c→L acc (i:Nat)=K (acc++(p.drop i).flatMap f):=by
    refine aPi ?_ ?_
    · intro acc _
      rw [hL]; simp
    · intro i hi ih acc ha
      rw [List.drop_eq_getElem_cons hi,List.flatMap_cons,List.length_append] at ha
      rw [hL,aGw hi,aLn hi (by omega)]
      simp only [V4,hi,decide_true,if_true,Option.bind_eq_bind,Option.bind_some,hG _ (List.getElem_mem hi) acc (by omega)]
      rw [ih _ (by rw [List.length_append]; omega),List.drop_eq_getElem_cons hi,List.flatMap_cons,List.append_assoc]
  intro acc ha
  simpa using key 0 (by omega) acc (by simpa using ha)
theorem L8 (n:Int):IntKind.wrap .u8 n=n % 256:=rfl
theorem wrap64 (n:Int):IntKind.wrap .u64 n=n % 18446744073709551616:=rfl
theorem aY2:∀ b:BitVec 8,(b ||| 128#8).toNat=b.toNat % 128+128:=by decide
theorem aTu (x:Int) (h:0≤x):IntKind.wrap .u8 ((BitVec.ofInt (IntKind.bits .u8) (IntKind.wrap .u8 x) ||| BitVec.ofInt (IntKind.bits .u8) 128).toNat:Int)=x % 128+128:=by
  show IntKind.wrap .u8 (((BitVec.ofInt 8 (IntKind.wrap .u8 x) ||| 128#8).toNat:Nat):Int)=_
  rw [aY2,BitVec.toNat_ofInt,L8,L8]
  omega
def Byt (l:List Int):Prop:=∀ y ∈ l,0≤y∧y<256
theorem aDg {a b:List Int} (ha:Byt a) (hb:Byt b):Byt (a++b):=fun y hy=>by
  rcases List.mem_append.1 hy with h | h
  · exact ha y h
  · exact hb y h
theorem aAt {l:List Int} (h:Byt l):ofBytes l=some (l.map fun n=>UInt8.ofNat n.toNat):=by
  unfold ofBytes
  rw [if_pos]
  rw [List.all_eq_true]
  intro y hy
  have:=h y hy
  simp; omega
theorem aV7 (s:List UInt8):Byt (fC s):=fun y hy=>by
  obtain ⟨u,_,rfl⟩:=List.mem_map.1 hy
  have:=u.toNat_lt
  omega
theorem bAc {l:List Int} (h:Byt l):fC (l.map fun n=>UInt8.ofNat n.toNat)=l:=by
  unfold fC
  rw [List.map_map]
  refine (List.map_congr_left (g:=id) fun n hn=>?_).trans (List.map_id l)
  have:=h n hn
  simp [Function.comp]
  omega
def pv:Nat→Nat→List Nat
  | 0,x=>[x]
  | r+1,x=>if x<128 then [x] else (x % 128+128)::pv r (x / 128)
theorem bAy {r x:Nat} (h:x<128):pv r x=[x]:=by cases r <;> simp [pv,h]
theorem aM7:∀ (r x:Nat),(pv r x).length≤r+1∧1≤(pv r x).length
  | 0,x=>by simp [pv]
  | r+1,x=>by
    have:=aM7 r (x / 128)
    simp only [pv]; split
    · simp
    · simp; omega
def pvI (r x:Nat):List Int:=(pv r x).map fun (n:Nat)=>(n:Int)
theorem aNh:∀ (r x:Nat),x<128 ^ (r+1)→Byt (pvI r x)
  | 0,x,h=>fun y hy=>by simp [pvI,pv] at hy; simp at h; omega
  | r+1,x,h=>fun y hy=>by
    unfold pvI at hy
    simp only [pv] at hy
    split at hy
    · simp at hy; omega
    · simp only [List.map_cons,List.mem_cons] at hy
      rcases hy with rfl | hy
      · omega
      · have h2:x / 128<128 ^ (r+1):=by rw [Nat.pow_succ] at h; omega
        exact aNh r (x / 128) h2 y hy
theorem aIi : ∀ (k x : Nat), x < 128 ^ (k + 1) → x < 18446744073709551616 → ∀ acc : List Int, Byt acc → acc.length + k + 1 ≤ 1048576 →
    wM (x:Int) acc=some ((acc++pvI k x).map fun n=>UInt8.ofNat n.toNat)∧wO (x:Int) acc=some ((acc++pvI k x).map fun n=>UInt8.ofNat n.toNat)
  | k,x,hk,h64,acc,ha,hl=>by
    by_cases hx:x<128
    · have e0:pvI k x=[(x:Int)]:=by unfold pvI; rw [bAy hx]; rfl
      have hb:Byt (acc++[(x:Int)]):=aDg ha fun y hy=>by simp at hy; omega
      have e1:IntKind.wrap .u8 (x:Int)=(x:Int):=by rw [L8]; omega
      rw [e0]
      constructor
      · rw [wM,if_neg (by simp; omega),e1,qJ (by simp; omega)]
        simp only [Option.bind_eq_bind,Option.bind_some,aAt hb]
      · rw [wO,if_neg (by simp; omega),e1,qJ (by simp; omega)]
        simp only [Option.bind_eq_bind,Option.bind_some,aAt hb]
    · match k,hk,hl with
      | 0,hk,hl=>simp at hk; omega
      | k+1,hk,hl =>
        have hd:0≤((x:Int)) % 128+128∧((x:Int)) % 128+128<256:=by omega
        have hb2:Byt (acc++[(x:Int) % 128+128]):=aDg ha fun y hy=>by simp at hy; omega
        have hk2:x / 128<128 ^ (k+1):=by rw [Nat.pow_succ] at hk; omega
        obtain ⟨H1,H2⟩:=aIi k (x / 128) hk2 (by omega) (acc++[(x:Int) % 128+128]) hb2 (by simp; omega)
        have e3:acc++pvI (k+1) x=acc++[(x:Int) % 128+128]++pvI k (x / 128):=by
          unfold pvI; simp only [pv]; rw [if_neg hx]; simp
        rw [e3]
        constructor
        · rw [wM,if_pos (by simp; omega),aTu (x:Int) (by omega),qJ (by simp; omega)]
          simp only [Option.bind_eq_bind,Option.bind_some]
          rw [show Int.fdiv (x:Int) (2 ^ 7)=((x / 128:Nat):Int) by rw [Int.fdiv_eq_ediv_of_nonneg _ (by omega)]; rfl,H1]
        · have e2 : IntKind.wrap .u8 (IntKind.wrap .u64 ((Int.tmod (x : Int) 128) + 128)) = (x : Int) % 128 + 128 := by
            rw [L8,wrap64,Int.tmod_eq_emod_of_nonneg (by omega)]; omega
          rw [wO,if_pos (by simp; omega),e2,qJ (by simp; omega)]
          simp only [Option.bind_eq_bind,Option.bind_some]
          rw [show IntKind.wrap .u64 (Int.tdiv (x:Int) 128)=((x / 128:Nat):Int) by rw [wrap64,Int.tdiv_eq_ediv_of_nonneg (by omega)]; omega,H2]
def mG (n:Int):Nat:=if n<0 then (2 * (-(n+1))+1).toNat else (2 * n).toNat
def gN (n:Int):List Int:=pvI 9 (mG n)
theorem aMk (n:Int):(gN n).length≤10∧1≤(gN n).length:=by
  have:=aM7 9 (mG n)
  simp only [gN,pvI,List.length_map]; omega
theorem bAq (n:Int) (h1 : -9223372036854775808≤n) (h2:n≤9223372036854775807):tJ n=some (mG n:Int)∧F9 n=some (mG n:Int)∧mG n<18446744073709551616:=by
  have x0:∀ b:BitVec 64,b ^^^ 0#64=b:=fun b=>by simp
  have x1:∀ b:BitVec 64,b ^^^ BitVec.ofInt 64 18446744073709551615=(~~~b):=fun b=>by
    have:BitVec.ofInt 64 18446744073709551615=BitVec.allOnes 64:=by decide
    rw [this,BitVec.xor_allOnes]
  by_cases hn:n<0
  · have hs : Int.fdiv n (2 ^ 63) = -1 := by
      rw [Int.fdiv_eq_ediv_of_nonneg _ (by omega)]
      omega
    have hi:tJ n=some (2 * (-(n+1))+1):=by
      unfold tJ
      rw [hs]
      show some (IntKind.wrap .u64 (((BitVec.ofInt 64 _ ^^^ BitVec.ofInt 64 (IntKind.wrap .u64 (-1))).toNat:Nat):Int))=_
      rw [show IntKind.wrap .u64 (-1)=18446744073709551615 from rfl,x1,BitVec.toNat_not,BitVec.toNat_ofInt]
      simp only [wrap64]
      congr 1
      omega
    have hz:(mG n:Int)=2 * (-(n+1))+1:=by unfold mG; rw [if_pos hn]; omega
    refine ⟨by rw [hz]; exact hi,?_,by omega⟩
    rw [hz]
    unfold F9
    rw [if_pos (by simpa using hn)]
    simp only [wrap64]
    rw [fB (n:=n+1) (by omega) (by omega),fB (by omega) (by omega)]
    congr 1
    omega
  · have hs : Int.fdiv n (2 ^ 63) = 0 := by
      rw [Int.fdiv_eq_ediv_of_nonneg _ (by omega)]
      omega
    have hi:tJ n=some (2 * n):=by
      unfold tJ
      rw [hs]
      show some (IntKind.wrap .u64 (((BitVec.ofInt 64 _ ^^^ BitVec.ofInt 64 (IntKind.wrap .u64 0)).toNat:Nat):Int))=_
      rw [show BitVec.ofInt 64 (IntKind.wrap .u64 0)=0#64 from rfl,x0,BitVec.toNat_ofInt]
      simp only [wrap64]
      congr 1
      omega
    have hz:(mG n:Int)=2 * n:=by unfold mG; rw [if_neg hn]; omega
    refine ⟨by rw [hz]; exact hi,?_,by omega⟩
    rw [hz]
    unfold F9
    rw [if_neg (by simpa using hn)]
    simp only [wrap64]
    congr 1
    omega
def Wr (F G:List Int→Option (List Int)) (e:List Int):Prop:=Byt e∧∀ acc:List Int,acc.length+e.length≤140737488355328→F acc=some (acc++e)∧G acc=some (acc++e)
theorem mP (n:Int) (h:okI n):(gN n).length≤10∧Wr (fun acc=>gD acc n) (fun acc=>fZ acc n) (gN n):=by
  obtain ⟨hi,hs,h1⟩:=bAq n h.1 h.2
  obtain ⟨H1,H2⟩:=aIi 9 (mG n) (by omega) h1 [] (fun y hy=>by simp at hy) (by simp)
  have hb:Byt (pvI 9 (mG n)):=aNh 9 _ (by omega)
  refine ⟨(aMk n).1,hb,fun acc hacc=>?_⟩
  unfold gN at hacc ⊢
  rw [List.nil_append] at H1 H2
  have hto:=bAc hb
  constructor
  · show gD acc n=_
    rw [gD,hi]
    simp only [Option.bind_eq_bind,Option.bind_some]
    rw [vD,H1]
    simp only [Option.bind_some,uF,V5,Option.bind_eq_bind,hto,qJ (b:=1) (l:=acc) (m:=pvI 9 (mG n)) (by omega)]
  · show fZ acc n=_
    rw [fZ,hs]
    simp only [Option.bind_eq_bind,Option.bind_some]
    rw [xJ,H2]
    simp only [Option.bind_some,hto,qJ (b:=1) (l:=acc) (m:=pvI 9 (mG n)) (by omega)]
theorem Wr.seq {F G F' G':List Int→Option (List Int)} {e e':List Int} (h:Wr F G e) (h':Wr F' G' e'):Wr (fun acc=>F acc>>=F') (fun acc=>G acc>>=G') (e++e'):=by
  refine ⟨aDg h.1 h'.1,fun acc hl=>?_⟩
  rw [List.length_append] at hl
  obtain ⟨h1,h2⟩:=h.2 acc (by omega)
  obtain ⟨h3,h4⟩:=h'.2 (acc++e) (by rw [List.length_append]; omega)
  simp only [h1,h2,Option.bind_eq_bind,Option.bind_some,h3,h4,List.append_assoc,and_self]
theorem Wr.congr {F G F' G':List Int→Option (List Int)} {e:List Int} (h:Wr F G e) (hF:∀ acc,F' acc=F acc) (hG:∀ acc,G' acc=G acc):Wr F' G' e :=
  ⟨h.1,fun acc hl=>by rw [hF,hG]; exact h.2 acc hl⟩
theorem Wr.id:Wr (fun acc=>some acc) (fun acc=>some acc) []:=⟨fun y hy=>by simp at hy,fun acc _=>by simp⟩
theorem Q0 {α : Type} {p : List α} {f : α → List Int} {GI GS : α → List Int → Option (List Int)} {LI LS : List Int → Int → Option (List Int)} {KI KS : List Int → Option (List Int)} {e : List Int} (hp : p.length ≤ 1048576)
    (H:∀ y ∈ p,Wr (GI y) (GS y) (f y)) (hK:Wr KI KS e)
    (hI:∀ (i:Nat) acc,LI acc (i:Int)=if (decide ((i:Int)<(p.length:Int)))=true then ((idx p (i:Int))>>=fun y=>(GI y acc)>>=fun z=>LI z (IntKind.wrap .i64 ((i:Int)+1))) else KI acc)
    (hS:∀ (i:Nat) acc,LS acc (i:Int)=if (decide ((i:Int)<(p.length:Int)))=true then ((idx p (i:Int))>>=fun y=>(GS y acc)>>=fun z=>LS z (IntKind.wrap .i64 ((i:Int)+1))) else KS acc) :
    Wr (fun acc=>LI acc 0) (fun acc=>LS acc 0) (p.flatMap f++e):=by
  refine ⟨aDg (fun y hy=>?_) hK.1,fun acc hl=>?_⟩
  · obtain ⟨x,hx,hy⟩:=List.mem_flatMap.1 hy
    exact (H x hx).1 y hy
  · rw [List.length_append] at hl
    have g1:=gather (c:=140737488355328) (by omega) (fun y hy acc h=>((H y hy).2 acc h).1) hI acc (by omega)
    have g2:=gather (c:=140737488355328) (by omega) (fun y hy acc h=>((H y hy).2 acc h).2) hS acc (by omega)
    obtain ⟨k1,k2⟩:=hK.2 (acc++p.flatMap f) (by rw [List.length_append]; omega)
    exact ⟨by show LI acc 0=_; rw [g1,k1,List.append_assoc],by show LS acc 0=_; rw [g2,k2,List.append_assoc]⟩
theorem yP {α:Type} {f:α→List Int} {z:α→Nat} {c:Nat}:∀ {p:List α},(∀ y ∈ p,(f y).length≤c * (1+z y))→(p.flatMap f).length≤c * (p.length+(p.map z).sum)
  | [],_=>by simp
  | x::l,h=>by
    have h1:=h x (by simp)
    have h2:=yP (p:=l) fun y hy=>h y (List.mem_cons_of_mem _ hy)
    simp only [List.flatMap_cons,List.length_append,List.length_cons,List.map_cons,List.sum_cons]
    have e:c * (l.length+1+(z x+(l.map z).sum))=c * (1+z x)+c * (l.length+(l.map z).sum):=by rw [← Nat.mul_add]; congr 1; omega
    omega
theorem okI_len {n:Nat} (h:n≤1048576):okI (n:Int):=by unfold okI; omega
def tL (b:Bool):List Int:=gN (if b then 1 else 0)
theorem aK2 (b:Bool):(tL b).length≤10∧Wr (fun acc=>oL acc b) (fun acc=>oI acc b) (tL b):=by
  obtain ⟨hl,h⟩:=mP (if b then 1 else 0) (by unfold okI; split <;> omega)
  refine ⟨hl,h.congr (fun acc=>?_) (fun acc=>?_)⟩ <;> cases b <;> simp [oL,oI]
def oQ (s:List UInt8):List Int:=gN (s.length:Int)++fC s
theorem aQo (s:List UInt8) (h:s.length≤1048576):(oQ s).length≤10+s.length∧Wr (fun acc=>rG acc s) (fun acc=>tC acc s) (oQ s):=by
  obtain ⟨hl,hw⟩:=mP (s.length:Int) (okI_len h)
  have hs:(fC s).length=s.length:=by simp [fC]
  have h2:Wr (fun acc=>(uF acc s)>>=fun y=>some y.2) (fun acc=>(appG 1 acc (fC s))>>=fun y=>some y) (fC s):=by
    refine ⟨aV7 s,fun acc ha=>?_⟩
    simp only [uF,V5,Option.bind_eq_bind,Option.bind_some,qJ (b:=1) (l:=acc) (m:=fC s) (by omega),and_self]
  exact ⟨by simp only [oQ,List.length_append]; omega,(hw.seq h2).congr (fun acc=>by rw [rG]) (fun acc=>by rw [tC])⟩
theorem okLGPExpr_mem:∀ {l:List aB},okLGPExpr l→∀ y ∈ l,okGPExpr y
  | [],_,y,hy=>by simp at hy
  | x::l,h,y,hy=>by
    unfold okLGPExpr at h
    rcases List.mem_cons.1 hy with rfl | hy
    · exact h.1
    · exact okLGPExpr_mem h.2 y hy
theorem okLGPlan_mem:∀ {l:List aV},okLGPlan l→∀ y ∈ l,okGPlan y
  | [],_,y,hy=>by simp at hy
  | x::l,h,y,hy=>by
    unfold okLGPlan at h
    rcases List.mem_cons.1 hy with rfl | hy
    · exact h.1
    · exact okLGPlan_mem h.2 y hy
theorem okLGPSort_mem:∀ {l:List bH},okLGPSort l→∀ y ∈ l,okGPSort y
  | [],_,y,hy=>by simp at hy
  | x::l,h,y,hy=>by
    unfold okLGPSort at h
    rcases List.mem_cons.1 hy with rfl | hy
    · exact h.1
    · exact okLGPSort_mem h.2 y hy
theorem okLLGPExpr_mem:∀ {l:List (List aB)},okLLGPExpr l→∀ y ∈ l,∀ x ∈ y,okGPExpr x
  | [],_,y,hy=>by simp at hy
  | x::l,h,y,hy=>by
    unfold okLLGPExpr at h
    rcases List.mem_cons.1 hy with rfl | hy
    · exact okLGPExpr_mem h.1.2
    · exact okLLGPExpr_mem h.2 y hy
def eX (x:aB):List Int:=(oH [] x).getD []
def eP (q:aV):List Int:=(oO [] q).getD []
def OkX (x:aB):Prop:=(eX x).length≤300+400 * bU x∧Wr (fun acc=>qW acc x) (fun acc=>oH acc x) (eX x)
def OkP (q:aV):Prop:=(eP q).length≤300+400 * gL q∧Wr (fun acc=>rD acc q) (fun acc=>oO acc q) (eP q)
theorem aT5 {x:aB} {e:List Int} (hl:e.length≤300+400 * bU x) (hz:bU x≤1048576) (h:Wr (fun acc=>qW acc x) (fun acc=>oH acc x) e):OkX x∧eX x=e:=by
  have:eX x=e:=by unfold eX; rw [show oH [] x=_ from (h.2 [] (by simp; omega)).2]; simp
  exact ⟨⟨by rw [this]; exact hl,by rw [this]; exact h⟩,this⟩
theorem bEk {x:aV} {e:List Int} (hl:e.length≤300+400 * gL x) (hz:gL x≤1048576) (h:Wr (fun acc=>rD acc x) (fun acc=>oO acc x) e):OkP x∧eP x=e:=by
  have:eP x=e:=by unfold eP; rw [show oO [] x=_ from (h.2 [] (by simp; omega)).2]; simp
  exact ⟨⟨by rw [this]; exact hl,by rw [this]; exact h⟩,this⟩
def nV (p:List aB):List Int:=gN (p.length:Int)++p.flatMap eX
theorem aBv (p:List aB) (hz:zL bU p≤1048576) (H:∀ y ∈ p,OkX y):(nV p).length≤10+400 * zL bU p∧Wr (fun acc=>rX acc p) (fun acc=>sQ acc p) (nV p):=by
  unfold zL at *
  obtain ⟨hl,hw⟩:=mP (p.length:Int) (okI_len (by omega))
  have hloop:=Q0 (p:=p) (f:=eX) (GI:=fun y acc=>qW acc y) (GS:=fun y acc=>oH acc y) (LI:=fun acc i=>R4 p i acc) (LS:=fun acc i=>M8 p acc i) (KI:=fun acc=>some acc) (KS:=fun acc=>some acc) (by omega) (fun y hy=>(H y hy).2) .id
    (fun i acc=>by rw [R4]) (fun i acc=>by rw [M8])
  have hfl:=yP (z:=bU) (c:=400) (f:=eX) (p:=p) fun y hy=>by have:=(H y hy).1; omega
  rw [List.append_nil] at hloop
  exact ⟨by simp only [nV,List.length_append]; omega,(hw.seq hloop).congr (fun acc=>by rw [rX]) (fun acc=>by rw [sQ])⟩
theorem aP6 (x:aB):bU x=x.value.text.length+(x.kids.length+(x.kids.map bU).sum)+(x.sub.length+(x.sub.map gL).sum):=by
  obtain ⟨a0,a1,a2,⟨b0,b1,b2⟩,a4,a5,a6,a7⟩:=x
  simp only [bU,aDu,vK,aCd]
theorem aNa (q:aV):gL q=zL z0 q.tables+(q.on_.length+(q.on_.map (zL bU)).sum)+(q.where_.length+(q.where_.map bU).sum)+(q.order.length+(q.order.map fun k=>bU k.expr).sum)+(q.items.length+(q.items.map bU).sum)+zL List.length q.names:=by
  obtain ⟨a0,a1,a2,a3,a4,a5,a6,a7⟩:=q
  simp only [gL,vK,aAk,aAu]
  have:(a3.map lC)=a3.map fun k=>bU k.expr:=List.map_congr_left fun k _=>by obtain ⟨k0,k1⟩:=k; simp only [lC]
  rw [this]
theorem aMm (x:aB) (ox:okGPExpr x) (hz:bU x≤1048576) (HX:∀ y ∈ x.kids,OkX y) (HP:∀ y ∈ x.sub,OkP y):OkX x∧eX x=gN x.kind++(gN x.op++(tL x.not_++(gN x.value.kind++(gN x.value.num++(oQ x.value.text++(gN x.up++(gN x.at_++(nV x.kids++(gN (x.sub.length:Int)++x.sub.flatMap eP))))))))):=by
  have hZ:=aP6 x
  have ho:okI x.kind∧okI x.op∧okGValue x.value∧okI x.up∧okI x.at_:=by
    obtain ⟨a0,a1,a2,a3,a4,a5,a6,a7⟩:=x
    unfold okGPExpr at ox
    exact ⟨ox.1,ox.2.1,ox.2.2.2.1,ox.2.2.2.2.1,ox.2.2.2.2.2.1⟩
  obtain ⟨o1,o2,⟨o3,o4,_⟩,o5,o6⟩:=ho
  obtain ⟨l1,w1⟩:=mP _ o1
  obtain ⟨l2,w2⟩:=mP _ o2
  obtain ⟨l3,w3⟩:=aK2 x.not_
  obtain ⟨l4,w4⟩:=mP _ o3
  obtain ⟨l5,w5⟩:=mP _ o4
  obtain ⟨l6,w6⟩:=aQo x.value.text (by omega)
  obtain ⟨l7,w7⟩:=mP _ o5
  obtain ⟨l8,w8⟩:=mP _ o6
  obtain ⟨l9,w9⟩:=aBv x.kids (by unfold zL; omega) HX
  obtain ⟨l10,w10⟩:=mP (x.sub.length:Int) (okI_len (by omega))
  have hloop:=Q0 (p:=x.sub) (f:=eP) (GI:=fun y acc=>rD acc y) (GS:=fun y acc=>oO acc y) (LI:=fun acc i=>P6 x i acc) (LS:=fun acc i=>H7 x acc i) (KI:=fun acc=>some acc) (KS:=fun acc=>some acc) (by omega) (fun y hy=>(HP y hy).2) .id
    (fun i acc=>by rw [P6]) (fun i acc=>by rw [H7])
  have hfl:=yP (z:=gL) (c:=400) (f:=eP) (p:=x.sub) fun y hy=>by have:=(HP y hy).1; omega
  unfold zL at l9
  rw [List.append_nil] at hloop
  refine aT5 ?_ hz (((w1.seq (w2.seq (w3.seq (w4.seq (w5.seq (w6.seq (w7.seq (w8.seq (w9.seq (w10.seq hloop))))))))))).congr (fun acc=>by rw [qW]) (fun acc=>by rw [oH]))
  simp only [List.length_append]
  omega
def uQ (k:bH):List Int:=eX k.expr++tL k.desc
theorem aNf (q:aV) (oq:okGPlan q) (hz:gL q≤1048576) (HO:∀ l ∈ q.on_,∀ y ∈ l,OkX y) (HW:∀ y ∈ q.where_,OkX y) (HR:∀ k ∈ q.order,OkX k.expr) (HI:∀ y ∈ q.items,OkX y):OkP q∧eP q=gN (q.tables.length:Int)++(q.tables.flatMap gN++(gN (q.on_.length:Int)++(q.on_.flatMap nV++(nV q.where_++(gN (q.order.length:Int)++(q.order.flatMap uQ++(nV q.items++(gN (q.names.length:Int)++(q.names.flatMap oQ++(tL q.distinct++gN q.limit)))))))))):=by
  have hZ:=aNa q
  have ho:(∀ n ∈ q.tables,okI n)∧okI q.limit:=by
    obtain ⟨a0,a1,a2,a3,a4,a5,a6,a7⟩:=q
    unfold okGPlan at oq
    exact ⟨oq.1.2,oq.2.2.2.2.2.2.2⟩
  obtain ⟨o1,o2⟩:=ho
  have hzt:q.tables.length≤zL z0 q.tables:=by unfold zL; omega
  have hzn:q.names.length+(q.names.map List.length).sum=zL List.length q.names:=rfl
  have HN:∀ n ∈ q.tables,(gN n).length≤10 * (1+z0 n)∧Wr (fun acc=>gD acc n) (fun acc=>fZ acc n) (gN n):=by
    intro n hn
    obtain ⟨hl,h⟩:=mP n (o1 n hn)
    exact ⟨by simp only [z0]; omega,h⟩
  have HL:∀ l ∈ q.on_,(nV l).length≤400 * (1+zL bU l)∧Wr (fun acc=>rX acc l) (fun acc=>sQ acc l) (nV l):=by
    intro l hl
    have:=kH (z:=zL bU) hl
    obtain ⟨hle,h⟩:=aBv l (by omega) (HO l hl)
    exact ⟨by omega,h⟩
  have HK:∀ k ∈ q.order,(uQ k).length≤400 * (1+bU k.expr)∧Wr (fun acc=>(qW acc k.expr)>>=fun y=>oL y k.desc) (fun acc=>(oH acc k.expr)>>=fun y=>oI y k.desc) (uQ k):=by
    intro k hk
    have:=kH (z:=fun k:bH=>bU k.expr) hk
    obtain ⟨hle,h⟩:=aK2 k.desc
    have hs:=(HR k hk).2.seq h
    have hb:=(HR k hk).1
    exact ⟨by simp only [uQ,List.length_append]; omega,hs⟩
  have HT:∀ s ∈ q.names,(oQ s).length≤10 * (1+s.length)∧Wr (fun acc=>rG acc s) (fun acc=>tC acc s) (oQ s):=by
    intro s hs
    have:=kH (z:=List.length) hs
    obtain ⟨hle,h⟩:=aQo s (by omega)
    exact ⟨by omega,h⟩
  have f1:=yP fun n hn=>(HN n hn).1
  have f2:=yP fun n hn=>(HL n hn).1
  have f3:=yP fun n hn=>(HK n hn).1
  have f4:=yP (z:=List.length) fun n hn=>(HT n hn).1
  obtain ⟨l1,w1⟩:=mP (q.tables.length:Int) (okI_len (by omega))
  obtain ⟨l2,w2⟩:=mP (q.on_.length:Int) (okI_len (by omega))
  obtain ⟨l3,w3⟩:=aBv q.where_ (by unfold zL; omega) HW
  obtain ⟨l4,w4⟩:=mP (q.order.length:Int) (okI_len (by omega))
  obtain ⟨l5,w5⟩:=aBv q.items (by unfold zL; omega) HI
  obtain ⟨l6,w6⟩:=mP (q.names.length:Int) (okI_len (by omega))
  obtain ⟨l7,w7⟩:=aK2 q.distinct
  obtain ⟨l8,w8⟩:=mP q.limit o2
  have g3:=Q0 (p:=q.names) (f:=oQ) (GI:=fun y acc=>rG acc y) (GS:=fun y acc=>tC acc y) (LI:=fun acc i=>xX q i acc) (LS:=fun acc i=>yJ q acc i) (by omega) (fun y hy=>(HT y hy).2) (w7.seq w8)
    (fun i acc=>by rw [xX]; simp only [Option.bind_eq_bind,Option.bind_some,Option.bind_assoc,Option.bind_fun_some]) (fun i acc=>by rw [yJ]; simp only [Option.bind_eq_bind,Option.bind_some,Option.bind_assoc,Option.bind_fun_some])
  have g2:=Q0 (p:=q.order) (f:=uQ) (GI:=fun k acc=>(qW acc k.expr)>>=fun y=>oL y k.desc) (GS:=fun k acc=>(oH acc k.expr)>>=fun y=>oI y k.desc) (LI:=fun acc i=>xQ q i acc) (LS:=fun acc i=>yU q acc i) (by omega) (fun y hy=>(HK y hy).2) (w5.seq (w6.seq g3))
    (fun i acc=>by rw [xQ]; simp only [Option.bind_eq_bind,Option.bind_assoc]) (fun i acc=>by
      rw [yU]
      by_cases h:i<q.order.length
      · simp only [V4,h,decide_true,if_true,aGw h,Option.bind_eq_bind,Option.bind_some,Option.bind_assoc]
      · simp only [V4,h,decide_false,Bool.false_eq_true,if_false])
  have g1:=Q0 (p:=q.on_) (f:=nV) (GI:=fun y acc=>rX acc y) (GS:=fun y acc=>sQ acc y) (LI:=fun acc i=>O4 q i acc) (LS:=fun acc i=>U6 q acc i) (by omega) (fun y hy=>(HL y hy).2) (w3.seq (w4.seq g2))
    (fun i acc=>by rw [O4]) (fun i acc=>by rw [U6])
  have g0:=Q0 (p:=q.tables) (f:=gN) (GI:=fun y acc=>gD acc y) (GS:=fun y acc=>fZ acc y) (LI:=fun acc i=>K3 q i acc) (LS:=fun acc i=>R8 q acc i) (by omega) (fun y hy=>(HN y hy).2) (w2.seq g1)
    (fun i acc=>by rw [K3]) (fun i acc=>by rw [R8])
  unfold zL at l3 l5 hZ hzt f2 f4
  refine bEk ?_ hz ((w1.seq g0).congr (fun acc=>by rw [rD]) (fun acc=>by rw [oO]))
  simp only [List.length_append]
  unfold zL at *
  omega
theorem D8:∀ n:Nat,(∀ x:aB,okGPExpr x→bU x<n→bU x≤1048576→OkX x)∧(∀ q:aV,okGPlan q→gL q<n→gL q≤1048576→OkP q):=by
  intro n
  induction n with
  | zero=>exact ⟨fun x _ h _=>by omega,fun q _ h _=>by omega⟩
  | succ n ih =>
    refine ⟨fun x ox hn hz=>?_,fun q oq hn hz=>?_⟩
    · have hZ:=aP6 x
      have ok:okLGPExpr x.kids∧okLGPlan x.sub:=by
        obtain ⟨a0,a1,a2,a3,a4,a5,a6,a7⟩:=x
        unfold okGPExpr at ox
        exact ⟨ox.2.2.2.2.2.2.1.2,ox.2.2.2.2.2.2.2.2⟩
      refine (aMm x ox hz (fun y hy=>?_) (fun y hy=>?_)).1
      · have:=kH (z:=bU) hy
        have:=List.length_pos_of_mem hy
        exact ih.1 y (okLGPExpr_mem ok.1 y hy) (by omega) (by omega)
      · have:=kH (z:=gL) hy
        have:=List.length_pos_of_mem hy
        exact ih.2 y (okLGPlan_mem ok.2 y hy) (by omega) (by omega)
    · have hZ:=aNa q
      have ok:okLLGPExpr q.on_∧okLGPExpr q.where_∧okLGPSort q.order∧okLGPExpr q.items:=by
        obtain ⟨a0,a1,a2,a3,a4,a5,a6,a7⟩:=q
        unfold okGPlan at oq
        exact ⟨oq.2.1.2,oq.2.2.1.2,oq.2.2.2.1.2,oq.2.2.2.2.1.2⟩
      refine (aNf q oq hz (fun l hl y hy=>?_) (fun y hy=>?_) (fun k hk=>?_) (fun y hy=>?_)).1
      · have h1:=kH (z:=zL bU) hl
        have h2:=kH (z:=bU) hy
        have h3:=List.length_pos_of_mem hl
        unfold zL at h1 hZ
        exact ih.1 y (okLLGPExpr_mem ok.1 l hl y hy) (by omega) (by omega)
      · have:=kH (z:=bU) hy
        have:=List.length_pos_of_mem hy
        exact ih.1 y (okLGPExpr_mem ok.2.1 y hy) (by omega) (by omega)
      · have:=kH (z:=fun k:bH=>bU k.expr) hk
        have:=List.length_pos_of_mem hk
        have h4:=okLGPSort_mem ok.2.2.1 k hk
        have h5:okGPExpr k.expr:=by obtain ⟨k0,k1⟩:=k; unfold okGPSort at h4; exact h4.1
        exact ih.1 k.expr h5 (by omega) (by omega)
      · have:=kH (z:=bU) hy
        have:=List.length_pos_of_mem hy
        exact ih.1 y (okLGPExpr_mem ok.2.2.2 y hy) (by omega) (by omega)
theorem aZz (k m u:Nat) (hk:k≤9) (hm:m<128) (hu:u<2 ^ (7 * k)):(u ||| (m * 2 ^ (7 * k)) % 18446744073709551616)=u+(m * 2 ^ (7 * k)) % 18446744073709551616∧u+(m * 2 ^ (7 * k)) % 18446744073709551616<18446744073709551616∧(k≤8→u+(m * 2 ^ (7 * k)) % 18446744073709551616<2 ^ (7 * (k+1))):=by
  have key:∀ x:Nat,(u ||| x * 2 ^ (7 * k))=u+x * 2 ^ (7 * k):=fun x=>by
    have:=Nat.shiftLeft_add_eq_or_of_lt hu x
    rw [Nat.shiftLeft_eq] at this
    rw [Nat.or_comm,← this,Nat.add_comm]
  have h:k=0∨k=1∨k=2∨k=3∨k=4∨k=5∨k=6∨k=7∨k=8∨k=9:=by omega
  have fin : ∀ x : Nat, (m * 2 ^ (7 * k)) % 18446744073709551616 = x * 2 ^ (7 * k) → u + x * 2 ^ (7 * k) < 18446744073709551616 → (k ≤ 8 → u + x * 2 ^ (7 * k) < 2 ^ (7 * (k + 1))) →
      (u ||| (m * 2 ^ (7 * k)) % 18446744073709551616)=u+(m * 2 ^ (7 * k)) % 18446744073709551616∧u+(m * 2 ^ (7 * k)) % 18446744073709551616<18446744073709551616∧(k≤8→u+(m * 2 ^ (7 * k)) % 18446744073709551616<2 ^ (7 * (k+1))):=fun x e h1 h2=>by
    rw [e]; exact ⟨key x,h1,h2⟩
  rcases h with rfl | rfl | rfl | rfl | rfl | rfl | rfl | rfl | rfl | rfl
  case inr.inr.inr.inr.inr.inr.inr.inr.inr=>exact fin (m % 2) (by simp only [Nat.reduceMul,Nat.reducePow]; omega) (by simp only [Nat.reduceMul,Nat.reducePow] at hu ⊢; omega) (fun h=>by omega)
  all_goals exact fin m (by simp only [Nat.reduceMul,Nat.reducePow]; omega) (by simp only [Nat.reduceMul,Nat.reducePow] at hu ⊢; omega) (fun _=>by simp only [Nat.reduceMul,Nat.reducePow,Nat.reduceAdd] at hu ⊢; omega)
theorem aJu (b:Nat) (h:b<256):IntKind.wrap .u8 ((BitVec.ofInt (IntKind.bits .u8) (b:Int) &&& BitVec.ofInt (IntKind.bits .u8) 127).toNat:Int)=((b % 128:Nat):Int):=by
  have key:∀ x:BitVec 8,(x &&& 127#8).toNat=x.toNat % 128:=by decide
  show IntKind.wrap .u8 (((BitVec.ofInt 8 (b:Int) &&& 127#8).toNat:Nat):Int)=_
  rw [key,BitVec.toNat_ofInt,L8]
  omega
theorem bDu (u y:Nat) (hu:u<18446744073709551616) (hy:y<18446744073709551616):IntKind.wrap .u64 ((BitVec.ofInt (IntKind.bits .u64) (u:Int) ||| BitVec.ofInt (IntKind.bits .u64) (y:Int)).toNat:Int)=(((u ||| y) % 18446744073709551616:Nat):Int):=by
  show IntKind.wrap .u64 (((BitVec.ofInt 64 (u:Int) ||| BitVec.ofInt 64 (y:Int)).toNat:Nat):Int)=_
  have e1:((u:Int) % ((2 ^ 64:Nat):Int)).toNat=u:=by simp only [Nat.reducePow]; omega
  have e2:((y:Int) % ((2 ^ 64:Nat):Int)).toNat=y:=by simp only [Nat.reducePow]; omega
  rw [BitVec.toNat_or,BitVec.toNat_ofInt,BitVec.toNat_ofInt,wrap64,e1,e2]
  omega
theorem aU0 (m k:Nat) (hk:k≤9):R6 .u64 (m:Int) ((7 * k:Nat):Int)=some (((m * 2 ^ (7 * k)) % 18446744073709551616:Nat):Int):=by
  unfold R6
  rw [if_pos (by omega),wrap64]
  have:Nat.min ((7 * k:Nat):Int).toNat (IntKind.bits .u64)=7 * k:=by
    show Nat.min ((7 * k:Nat):Int).toNat 64=7 * k
    rw [Int.toNat_natCast]; exact Nat.min_eq_left (by omega)
  rw [this]
  congr 1
theorem T9 {α:Type} {l:List α} {a b:Nat} (h1:a≤b) (h2:b≤l.length):mU l (a:Int) (b:Int)=some ((l.take b).drop a):=by
  unfold mU; rw [if_pos (by omega)]; simp
theorem P8 {α β:Type} {c:Prop} [Decidable c] {A B:Option α} {k:α→Option β}:(if c then A else B).bind k=if c then A.bind k else B.bind k:=by split <;> rfl
def toB (e:List Int):List UInt8:=e.map fun n=>UInt8.ofNat n.toNat
theorem wR (a b:List Int):toB (a++b)=toB a++toB b:=by simp [toB]
theorem L6 (a:List Int):(toB a).length=a.length:=by simp [toB]
def At (s:List UInt8) (a:Nat) (e:List Int):Prop:=∃ pre post,s=pre++(toB e++post)∧pre.length=a
theorem At.left {s:List UInt8} {a:Nat} {e f:List Int} (h:At s a (e++f)):At s a e:=by
  obtain ⟨p,q,h1,h2⟩:=h
  exact ⟨p,toB f++q,by rw [h1,wR,List.append_assoc],h2⟩
theorem At.right {s:List UInt8} {a:Nat} {e f:List Int} (h:At s a (e++f)):At s (a+e.length) f:=by
  obtain ⟨p,q,h1,h2⟩:=h
  exact ⟨p++toB e,q,by rw [h1,wR]; simp,by simp [L6,h2]⟩
theorem At.len {s:List UInt8} {a:Nat} {e:List Int} (h:At s a e):a+e.length≤s.length:=by
  obtain ⟨p,q,h1,h2⟩:=h
  rw [h1]; simp [L6]; omega
theorem At.sub {s:List UInt8} {a:Nat} {e:List Int} (h:At s a e):(s.take (a+e.length)).drop a=toB e:=by
  obtain ⟨p,q,h1,h2⟩:=h
  subst h1 h2
  rw [← List.append_assoc,List.take_append_of_le_length (by simp [L6]),List.take_of_length_le (by simp [L6]),List.drop_left]
theorem At.get {s:List UInt8} {a:Nat} {x:Int} {e:List Int} (h:At s a (x::e)):s[a]?=some (UInt8.ofNat x.toNat):=by
  obtain ⟨p,q,h1,h2⟩:=h
  subst h1 h2
  rw [List.getElem?_append_right (Nat.le_refl _)]
  simp [toB]
theorem At.tail {s:List UInt8} {a:Nat} {x:Int} {e:List Int} (h:At s a (x::e)):At s (a+1) e:=At.right (e:=[x]) h
def Dec {α:Type} (g:aU→Option (α×aU)) (e:List Int) (v:α):Prop :=
  ∀ (s:List UInt8) (a:Nat),s.length≤20000→At s a e→g ⟨s,(a:Int),false⟩=some (v,⟨s,((a+e.length:Nat):Int),false⟩)
theorem Dec.congr {α:Type} {g g':aU→Option (α×aU)} {e:List Int} {v:α} (h:Dec g e v) (hg:∀ st,g' st=g st):Dec g' e v:=fun s a h1 h2=>by rw [hg]; exact h s a h1 h2
theorem Dec.bind {α β:Type} {g:aU→Option (α×aU)} {G:α×aU→Option (β×aU)} {e f:List Int} {v:α} {w:β} (h:Dec g e v) (h2:Dec (fun st=>G (v,st)) f w):Dec (fun st=>g st>>=G) (e++f) w:=fun s a h1 hat=>by
  have e1:=h s a h1 hat.left
  have e2:=h2 s (a+e.length) h1 hat.right
  simp only [e1,Option.bind_eq_bind,Option.bind_some]
  exact e2.trans (by rw [List.length_append,Nat.add_assoc])
theorem Dec.pure {α:Type} (v:α):Dec (fun st=>some (v,st)) [] v:=fun _ _ _ _=>rfl
theorem Dec.last {α β:Type} {g:aU→Option (α×aU)} {G:α×aU→Option (β×aU)} {e:List Int} {v:α} {w:β} (h:Dec g e v) (h2:∀ st,G (v,st)=some (w,st)):Dec (fun st=>g st>>=G) e w:=by
  have:=h.bind (G:=G) ((Dec.pure w).congr h2)
  rwa [List.append_nil] at this
theorem aUg (u:List UInt8):toB (fC u)=u:=by
  unfold toB fC
  rw [List.map_map]
  refine (List.map_congr_left (g:=id) fun n _=>?_).trans (List.map_id u)
  simp
def seg (s:List UInt8) (a b:Nat):List UInt8:=(s.take b).drop a
theorem oV {s:List UInt8} {a b:Nat} (h:b≤s.length):(seg s a b).length=b - a:=by simp [seg]; omega
theorem aLm (s:List UInt8) (a:Nat):seg s a a=[]:=by unfold seg; exact List.drop_eq_nil_of_le (by simp; omega)
theorem M0 {s:List UInt8} {a b c:Nat} (h1:a≤b) (h2:b≤c):seg s a b++seg s b c=seg s a c:=by
  unfold seg
  apply List.ext_getElem?
  intro j
  simp only [List.getElem?_append,List.getElem?_drop,List.getElem?_take,List.length_drop,List.length_take]
  by_cases hj:j<min b s.length - a
  · rw [if_pos hj,if_pos (by omega),if_pos (by omega)]
  · rw [if_neg hj]
    by_cases hb:b≤s.length
    · have e:b+(j - (min b s.length - a))=a+j:=by omega
      rw [e]
    · have e1:s[b+(j - (min b s.length - a))]?=none:=List.getElem?_eq_none (by omega)
      have e2:s[a+j]?=none:=List.getElem?_eq_none (by omega)
      rw [e1,e2]; simp
theorem aVx (u:Nat) (hu:u<18446744073709551616):∃ t,vD (u:Int)=some t∧xJ (u:Int)=some t∧t=(pvI 9 u).map fun n=>UInt8.ofNat n.toNat:=by
  obtain ⟨H1,H2⟩:=aIi 9 u (by omega) hu [] (fun y hy=>by simp at hy) (by simp)
  rw [List.nil_append] at H1 H2
  exact ⟨_,by rw [vD]; exact H1,by rw [xJ]; exact H2,rfl⟩
theorem aWq (s : List UInt8) (hs : s.length ≤ 1048576) (a : Nat) (ha : a ≤ s.length) : ∀ (r k u : Nat), k + r = 10 → (k ≤ 9 → u < 2 ^ (7 * k)) → u < 18446744073709551616 →
    ∃ x,qG s (a:Int) (u:Int) ((a+k:Nat):Int)=some x∧qA s (a:Int) (u:Int) (k:Int)=some x∧(x.2.2=true→∃ n v:Nat,x.2.1=(n:Int)∧x.1=(v:Int)∧a<n∧n≤s.length∧v<18446744073709551616∧(s.take n).drop a=(pvI 9 v).map fun n=>UInt8.ofNat n.toNat):=by
  intro r
  induction r with
  | zero =>
    intro k u hk _ _
    have:k=10:=by omega
    subst this
    refine ⟨(0,0,false),?_,?_,by simp⟩
    · rw [qG,fB (n:=(a:Int)+10) (by omega) (by omega)]
      simp
    · rw [qA]; simp
  | succ r ih =>
    intro k u hk hu h64
    by_cases hl:a+k<s.length
    · have hk9:k≤9:=by omega
      obtain ⟨b,hb⟩:∃ b,s[a+k]?=some b:=⟨s[a+k],by simp [hl]⟩
      have hb8:b.toNat<256:=b.toNat_lt
      have ei:xN s ((a+k:Nat):Int)=some (b.toNat:Int):=by unfold xN; rw [if_pos (by omega),Int.toNat_natCast,hb]; rfl
      obtain ⟨o1,o2,o3⟩:=aZz k (b.toNat % 128) u hk9 (by omega) (hu hk9)
      generalize hy:(b.toNat % 128 * 2 ^ (7 * k)) % 18446744073709551616=y at o1 o2 o3
      have hy64:y<18446744073709551616:=by omega
      have w1:IntKind.wrap .u64 ((b.toNat % 128:Nat):Int)=((b.toNat % 128:Nat):Int):=by rw [wrap64]; omega
      have w2:IntKind.wrap .i64 (7 * IntKind.wrap .i64 (((a+k:Nat):Int) - (a:Int)))=((7 * k:Nat):Int):=by rw [fB (n:=((a+k:Nat):Int) - (a:Int)) (by omega) (by omega),fB (by omega) (by omega)]; omega
      have w3:IntKind.wrap .i64 ((a:Int)+(k:Int))=((a+k:Nat):Int):=by rw [fB (by omega) (by omega)]; omega
      have w4:IntKind.wrap .u64 (b.toNat:Int)=(b.toNat:Int):=by rw [wrap64]; omega
      have w5:IntKind.wrap .u64 (IntKind.wrap .i64 (7 * (k:Int)))=((7 * k:Nat):Int):=by rw [fB (by omega) (by omega),wrap64]; omega
      have w6:IntKind.wrap .i64 (((a+k:Nat):Int)+1)=((a+k+1:Nat):Int):=by rw [fB (by omega) (by omega)]; omega
      have w7:IntKind.wrap .u64 ((u:Int)+(y:Int))=((u+y:Nat):Int):=by rw [wrap64]; omega
      have w8:IntKind.wrap .u64 ((BitVec.ofInt (IntKind.bits .u64) (u:Int) ||| BitVec.ofInt (IntKind.bits .u64) (y:Int)).toNat:Int)=((u+y:Nat):Int):=by rw [bDu u y h64 hy64,o1]; omega
      have w9:Int.tmod (b.toNat:Int) 128=((b.toNat % 128:Nat):Int):=by rw [Int.tmod_eq_emod_of_nonneg (by omega)]; omega
      have w10:IntKind.wrap .i64 ((a:Int)+10)=(a:Int)+10:=fB (by omega) (by omega)
      have w11:IntKind.wrap .i64 ((k:Int)+1)=((k+1:Nat):Int):=by rw [fB (by omega) (by omega)]; omega
      have sh:=aU0 (b.toNat % 128) k hk9
      rw [hy] at sh
      have c1:(if (decide (((a+k:Nat):Int)<(s.length:Int)))=true then (decide (((a+k:Nat):Int)<(a:Int)+10)) else false)=true:=by simp; omega
      have c2:(if (decide ((k:Int)<10))=true then (decide (((a+k:Nat):Int)<(s.length:Int))) else false)=true:=by simp; omega
      by_cases hb1:b.toNat<128
      · obtain ⟨t,t1,t2,t3⟩:=aVx (u+y) o2
        have hsub:=T9 (l:=s) (a:=a) (b:=a+k+1) (by omega) (by omega)
        by_cases ht:t=(s.take (a+k+1)).drop a
        · refine ⟨(((u+y:Nat):Int),((a+k+1:Nat):Int),true),?_,?_,fun _=>⟨a+k+1,u+y,rfl,rfl,by omega,by omega,o2,ht.symm.trans t3⟩⟩
          · rw [qG]
            simp only [w10,c1,ei,aJu _ hb8,w1,w2,sh,w8,w6,t1,hsub,Option.bind_eq_bind,Option.bind_some,if_true]
            rw [if_pos (by simp; omega),if_neg (by simpa using ht)]
          · rw [qA]
            simp only [w3,c2,ei,w4,w9,w5,sh,w7,w6,t2,hsub,Option.bind_eq_bind,Option.bind_some,if_true]
            rw [if_pos (by simp; omega),if_neg (by simpa using ht)]
        · refine ⟨(0,0,false),?_,?_,by simp⟩
          · rw [qG]
            simp only [w10,c1,ei,aJu _ hb8,w1,w2,sh,w8,w6,t1,hsub,Option.bind_eq_bind,Option.bind_some,if_true]
            rw [if_pos (by simp; omega),if_pos (by simpa using ht)]
          · rw [qA]
            simp only [w3,c2,ei,w4,w9,w5,sh,w7,w6,t2,hsub,Option.bind_eq_bind,Option.bind_some,if_true]
            rw [if_pos (by simp; omega),if_pos (by simpa using ht)]
      · obtain ⟨x,x1,x2,x3⟩:=ih (k+1) (u+y) (by omega) (fun h=>o3 (by omega)) o2
        refine ⟨x,?_,?_,x3⟩
        · rw [qG]
          simp only [w10,c1,ei,aJu _ hb8,w1,w2,sh,w8,w6,Option.bind_eq_bind,Option.bind_some,if_true]
          rw [if_neg (by simp; omega)]
          exact x1
        · rw [qA]
          simp only [w3,c2,ei,w4,w9,w5,sh,w7,w11,Option.bind_eq_bind,Option.bind_some,if_true]
          rw [if_neg (by simp; omega)]
          exact x2
    · refine ⟨(0,0,false),?_,?_,by simp⟩
      · rw [qG,if_neg (by simp; omega)]; simp
      · rw [qA,fB (by omega) (by omega)]
        have:¬ ((a:Int)+(k:Int)<(s.length:Int)):=by omega
        simp [this]
theorem aPe (s : List UInt8) (hs : s.length ≤ 1048576) (a : Nat) (ha : a ≤ s.length) :
    ∃ x,yS s (a:Int)=some x∧zG s (a:Int)=some x∧(x.2.2=true→∃ n v:Nat,x.2.1=(n:Int)∧x.1=(v:Int)∧a<n∧n≤s.length∧v<18446744073709551616∧seg s a n=toB (pvI 9 v)):=by
  obtain ⟨x,x1,x2,x3⟩:=aWq s hs a ha 10 0 0 (by omega) (fun _=>by simp) (by omega)
  refine ⟨x,?_,?_,x3⟩
  · rw [yS,if_neg (by simp)]; simpa using x1
  · have:oU (a:Int) 0 (s.length:Int)=some true:=by rw [oU]; simp; omega
    rw [zG,this]; simpa using x2
theorem bCv (s : List UInt8) (hs : s.length ≤ 1048576) (a : Nat) (ha : a ≤ s.length) :
    ∃ x,yS s (a:Int)=some x∧zG s (a:Int)=some x∧True:=by
  obtain ⟨x,x1,x2,_⟩:=aPe s hs a ha
  exact ⟨x,x1,x2,trivial⟩
theorem aYe (v:Nat) (hv:v<18446744073709551616):∃ n:Int,A9 (v:Int)=some n∧Q9 (v:Int)=some n∧okI n∧mG n=v:=by
  have x0:∀ b:BitVec 64,b ^^^ 0#64=b:=fun b=>by simp
  have x1:∀ b:BitVec 64,b ^^^ BitVec.ofInt 64 (-1)=(~~~b):=fun b=>by
    have:BitVec.ofInt 64 (-1)=BitVec.allOnes 64:=by decide
    rw [this,BitVec.xor_allOnes]
  have hs:Int.fdiv (v:Int) (2 ^ 1)=((v / 2:Nat):Int):=by rw [Int.fdiv_eq_ediv_of_nonneg _ (by omega)]; omega
  have w1:IntKind.wrap .i64 ((v / 2:Nat):Int)=((v / 2:Nat):Int):=fB (by omega) (by omega)
  have ha:((BitVec.ofInt (IntKind.bits .u64) (v:Int) &&& BitVec.ofInt (IntKind.bits .u64) 1).toNat)=v % 2:=by
    show (BitVec.ofInt 64 (v:Int) &&& BitVec.ofInt 64 1).toNat=_
    rw [BitVec.toNat_and,BitVec.toNat_ofInt]
    have e1:((v:Int) % ((2 ^ 64:Nat):Int)).toNat=v:=by simp only [Nat.reducePow]; omega
    rw [e1]
    show v &&& 1=_
    exact Nat.and_one_is_mod v
  have t1:Int.tmod (v:Int) 2=((v % 2:Nat):Int):=by rw [Int.tmod_eq_emod_of_nonneg (by omega)]; omega
  have t2:Int.tdiv (v:Int) 2=((v / 2:Nat):Int):=by rw [Int.tdiv_eq_ediv_of_nonneg (by omega)]; omega
  have w2:IntKind.wrap .u64 ((v / 2:Nat):Int)=((v / 2:Nat):Int):=by rw [wrap64]; omega
  rcases Nat.mod_two_eq_zero_or_one v with h | h
  · refine ⟨((v / 2:Nat):Int),?_,?_,by unfold okI; omega,by unfold mG; rw [if_neg (by omega)]; omega⟩
    · unfold A9
      rw [hs,w1,ha,h]
      show some (IntKind.wrap .i64 (((BitVec.ofInt 64 ((v / 2:Nat):Int) ^^^ BitVec.ofInt 64 (IntKind.wrap .i64 (0 - (IntKind.wrap .i64 (IntKind.wrap .u64 ((0:Nat):Int)))))).toNat:Nat):Int))=_
      rw [show BitVec.ofInt 64 (IntKind.wrap .i64 (0 - (IntKind.wrap .i64 (IntKind.wrap .u64 ((0:Nat):Int)))))=0#64 from rfl,x0,BitVec.toNat_ofInt]
      have e1:(((v / 2:Nat):Int) % ((2 ^ 64:Nat):Int)).toNat=v / 2:=by simp only [Nat.reducePow]; omega
      rw [e1,w1]
    · unfold Q9
      rw [t1,h,if_neg (by simp),t2,w2,w1]
  · refine ⟨-((v / 2:Nat):Int) - 1,?_,?_,by unfold okI; omega,by unfold mG; rw [if_pos (by omega)]; omega⟩
    · unfold A9
      rw [hs,w1,ha,h]
      show some (IntKind.wrap .i64 (((BitVec.ofInt 64 ((v / 2:Nat):Int) ^^^ BitVec.ofInt 64 (IntKind.wrap .i64 (0 - (IntKind.wrap .i64 (IntKind.wrap .u64 ((1:Nat):Int)))))).toNat:Nat):Int))=_
      rw [show IntKind.wrap .i64 (0 - (IntKind.wrap .i64 (IntKind.wrap .u64 ((1:Nat):Int)))) = -1 from rfl,x1,BitVec.toNat_not,BitVec.toNat_ofInt]
      have e1:(((v / 2:Nat):Int) % ((2 ^ 64:Nat):Int)).toNat=v / 2:=by simp only [Nat.reducePow]; omega
      rw [e1]
      refine congrArg some ?_
      rw [IntKind.wrap_i64]
      simp only [Nat.reducePow,Nat.reduceSub]
      omega
    · unfold Q9
      rw [t1,h,if_pos (by simp),t2,w2,w1,fB (n:=0 - _) (by omega) (by omega),fB (by omega) (by omega)]
      congr 1; omega
def RSB {α:Type} (s:List UInt8) (f:aY→Option (α×aY)):Prop:=∀ b:Int,∃ v,f ⟨s,b,true⟩=some (v,⟨s,b,true⟩)
def RIB {α:Type} (s:List UInt8) (g:aU→Option (α×aU)):Prop:=∀ b:Nat,b≤s.length→∃ v,g ⟨s,(b:Int),true⟩=some (v,⟨s,(b:Int),true⟩)
def aVo {α:Type} (s:List UInt8) (a:Nat) (Q:α→List UInt8→Prop) (x:Option (α×aY)) (y:Option (α×aU)):Prop :=
  (∃ v,∃ b:Nat,x=some (v,⟨s,(b:Int),false⟩)∧y=some (v,⟨s,(b:Int),false⟩)∧a≤b∧b≤s.length∧Q v (seg s a b)) ∨
  (∃ v v',∃ b:Int,∃ b':Nat,x=some (v,⟨s,b,true⟩)∧y=some (v',⟨s,(b':Int),true⟩)∧b'≤s.length)
def qH {α:Type} (s:List UInt8) (m:Nat) (Q:α→List UInt8→Prop) (f:aY→Option (α×aY)) (g:aU→Option (α×aU)):Prop :=
  ∀ a:Nat,a≤s.length→s.length - a<m→aVo s a Q (f ⟨s,(a:Int),false⟩) (g ⟨s,(a:Int),false⟩)
theorem qH.mono {α:Type} {s:List UInt8} {m:Nat} {Q:α→List UInt8→Prop} {f:aY→Option (α×aY)} {g:aU→Option (α×aU)} (h:qH s m Q f g) {n:Nat} (hn:n≤m):qH s n Q f g:=fun a h1 h2=>h a h1 (by omega)
structure RP {ι α:Type} (s:List UInt8) (m:Nat) (Q:ι→α→List UInt8→Prop) (f:ι→aY→Option (α×aY)) (g:ι→aU→Option (α×aU)):Prop where
  sb:∀ i,RSB s (f i)
  ib:∀ i,RIB s (g i)
  good:∀ i,qH s m (Q i) (f i) (g i)
section
variable {ι α β:Type} {s:List UInt8} {m:Nat} {Q:ι→α→List UInt8→Prop} {Q2:ι→β→List UInt8→Prop} {f f':ι→aY→Option (α×aY)} {g g':ι→aU→Option (α×aU)} {F:ι→aY→α×aY→Option (β×aY)} {G:ι→aU→α×aU→Option (β×aU)}
theorem RP.congr (h:RP s m Q f g) (hf:∀ i st,f' i st=f i st) (hg:∀ i st,g' i st=g i st):RP s m Q f' g' :=
  ⟨fun i b=>by rw [hf]; exact h.sb i b,fun i b hb=>by rw [hg]; exact h.ib i b hb,fun i a h1 h2=>by rw [hf,hg]; exact h.good i a h1 h2⟩
theorem RP.weak {Q':ι→α→List UInt8→Prop} (h:RP s m Q f g) (hq:∀ i v d,Q i v d→Q' i v d):RP s m Q' f g:=⟨h.sb,h.ib,fun i a h1 h2=>by
  rcases h.good i a h1 h2 with ⟨v,b,e1,e2,k1,k2,k3⟩ | h
  · exact .inl ⟨v,b,e1,e2,k1,k2,hq _ _ _ k3⟩
  · exact .inr h⟩
theorem RP.mono (h:RP s m Q f g) {n:Nat} (hn:n≤m):RP s n Q f g:=⟨h.sb,h.ib,fun i=>(h.good i).mono hn⟩
theorem bC4 (h:∀ i,RSB s (f i)) (h2:∀ i v t,RSB s (fun st=>F i t (v,st))) (i:ι):RSB s (fun st=>f i st>>=F i st):=fun b=>by
  obtain ⟨v,hv⟩:=h i b
  obtain ⟨w,hw⟩:=h2 i v _ b
  exact ⟨w,by simp only [hv,Option.bind_eq_bind,Option.bind_some]; exact hw⟩
theorem aUm (h:∀ i,RIB s (g i)) (h2:∀ i v t,RIB s (fun st=>G i t (v,st))) (i:ι):RIB s (fun st=>g i st>>=G i st):=fun b hb=>by
  obtain ⟨v,hv⟩:=h i b hb
  obtain ⟨w,hw⟩:=h2 i v _ b hb
  exact ⟨w,by simp only [hv,Option.bind_eq_bind,Option.bind_some]; exact hw⟩
theorem RP.bindN {n : Nat} (h : RP s n Q f g) (hpos : ∀ i v d, Q i v d → n ≤ m + d.length) (h2 : RP (ι := (ι × α) × (aY × aU)) s m (fun i w d => ∀ d1, Q i.1.1 i.1.2 d1 → Q2 i.1.1 w (d1 ++ d)) (fun i st => F i.1.1 i.2.1 (i.1.2, st)) (fun i st => G i.1.1 i.2.2 (i.1.2, st))) :
    RP s n Q2 (fun i st=>f i st>>=F i st) (fun i st=>g i st>>=G i st):=by
  refine ⟨bC4 h.sb fun i v t=>h2.sb ((i,v),(t,default)),aUm h.ib fun i v t=>h2.ib ((i,v),(default,t)),fun i a h1 hm=>?_⟩
  rcases h.good i a h1 hm with ⟨v,b,e1,e2,k1,k2,k3⟩ | ⟨v,v',b,b',e1,e2,k⟩
  · simp only [e1,e2,Option.bind_eq_bind,Option.bind_some]
    have:=hpos _ _ _ k3
    rw [oV k2] at this
    rcases h2.good ((i,v),(_,_)) b k2 (by omega) with ⟨w,c,j1,j2,j3,j4,j5⟩ | ⟨w,w',c,c',j1,j2,j3⟩
    · exact .inl ⟨w,c,j1,j2,by omega,j4,by have:=j5 _ k3; rw [M0 k1 j3] at this; exact this⟩
    · exact .inr ⟨w,w',c,c',j1,j2,j3⟩
  · simp only [e1,e2,Option.bind_eq_bind,Option.bind_some]
    obtain ⟨w,j1⟩:=h2.sb ((i,v),(_,default)) b
    obtain ⟨w',j2⟩:=h2.ib ((i,v'),(default,_)) b' k
    exact .inr ⟨w,w',b,b',j1,j2,k⟩
theorem RP.bind (h : RP s m Q f g) (h2 : RP (ι := (ι × α) × (aY × aU)) s m (fun i w d => ∀ d1, Q i.1.1 i.1.2 d1 → Q2 i.1.1 w (d1 ++ d)) (fun i st => F i.1.1 i.2.1 (i.1.2, st)) (fun i st => G i.1.1 i.2.2 (i.1.2, st))) :
    RP s m Q2 (fun i st=>f i st>>=F i st) (fun i st=>g i st>>=G i st):=h.bindN (fun _ _ _ _=>by omega) h2
theorem RP.bind1 (h : RP s (m + 1) Q f g) (hpos : ∀ i v d, Q i v d → 1 ≤ d.length) (h2 : RP (ι := (ι × α) × (aY × aU)) s m (fun i w d => ∀ d1, Q i.1.1 i.1.2 d1 → Q2 i.1.1 w (d1 ++ d)) (fun i st => F i.1.1 i.2.1 (i.1.2, st)) (fun i st => G i.1.1 i.2.2 (i.1.2, st))) :
    RP s (m+1) Q2 (fun i st=>f i st>>=F i st) (fun i st=>g i st>>=G i st):=h.bindN (fun i v d hq=>by have:=hpos i v d hq; omega) h2
theorem RP.pure {v:ι→α} (h:∀ i,Q i (v i) []):RP s m Q (fun i st=>some (v i,st)) (fun i st=>some (v i,st)) :=
  ⟨fun _ _=>⟨_,rfl⟩,fun _ _ _=>⟨_,rfl⟩,fun i a h1 _=>.inl ⟨v i,a,rfl,rfl,by omega,h1,by rw [aLm]; exact h i⟩⟩
end
theorem G5 (s:List UInt8) (hs:s.length≤1048576):(∀ b:Int,iC ⟨s,b,true⟩=some (0,⟨s,b,true⟩))∧∀ b:Nat,b≤s.length→fP ⟨s,(b:Int),true⟩=some (0,⟨s,(b:Int),true⟩):=by
  refine ⟨fun b=>by rw [iC]; simp,fun b hb=>?_⟩
  obtain ⟨x,x1,_,_⟩:=bCv s hs b hb
  rw [fP]; simp [x1]
def QN (n:Int) (u:List UInt8):Prop:=okI n∧u=toB (gN n)
theorem QN.pos {n:Int} {u:List UInt8} (h:QN n u):1≤u.length:=by rw [h.2,L6]; exact (aMk n).2
theorem aKg (s:List UInt8) (hs:s.length≤1048576) (m:Nat):qH s m QN (fun st=>iC st) (fun st=>fP st):=by
  intro a ha _
  obtain ⟨⟨u,n,ok⟩,x1,x2,x3⟩:=aPe s hs a ha
  cases ok with
  | false =>
    refine .inr ⟨0,0,a,a,?_,?_,ha⟩
    · show iC _=_
      rw [iC]; simp [x2]
    · show fP _=_
      rw [fP]; simp [x1]
  | true =>
    obtain ⟨k,w,e1,e2,k1,k2,hw,hseg⟩:=x3 rfl
    simp only at e1 e2
    subst e1 e2
    obtain ⟨v,v1,v2,v3,v4⟩:=aYe w hw
    refine .inl ⟨v,k,?_,?_,by omega,k2,v3,?_⟩
    · show iC _=_
      rw [iC]; simp [x2,v2]
    · show fP _=_
      rw [fP]; simp [x1,v1]
    · rw [hseg]; unfold gN; rw [v4]
theorem sIn (n a b:Int):oU n a b=some (decide (a≤n)&&decide (n≤b)):=by rw [oU]; by_cases h:a≤n <;> simp [h]
theorem aDy (s:List UInt8) (hs:s.length≤1048576):(∀ b:Int,iA ⟨s,b,true⟩=some (0,⟨s,b,true⟩))∧∀ b:Nat,b≤s.length→jK ⟨s,(b:Int),true⟩=some (0,⟨s,(b:Int),true⟩):=by
  refine ⟨fun b=>?_,fun b hb=>?_⟩
  · rw [iA,(G5 s hs).1 b]
    simp only [Option.bind_eq_bind,Option.bind_some,sIn]
    split <;> rfl
  · rw [jK,(G5 s hs).2 b hb]
    simp only [Option.bind_eq_bind,Option.bind_some]
    have:¬ IntKind.wrap .i64 ((s.length:Int) - (b:Int))<0:=by rw [fB (by omega) (by omega)]; omega
    simp [this,wB]
theorem aQr (s : List UInt8) (hs : s.length ≤ 1048576) (m : Nat) : ∀ a : Nat, a ≤ s.length → s.length - a < m →
    (∃ n b:Nat,iA ⟨s,(a:Int),false⟩=some ((n:Int),⟨s,(b:Int),false⟩)∧jK ⟨s,(a:Int),false⟩=some ((n:Int),⟨s,(b:Int),false⟩)∧a+1≤b∧b+n≤s.length∧seg s a b=toB (gN (n:Int))) ∨
    (∃ v,∃ b:Int,∃ b':Nat,iA ⟨s,(a:Int),false⟩=some (v,⟨s,b,true⟩)∧jK ⟨s,(a:Int),false⟩=some (0,⟨s,(b':Int),true⟩)∧b'≤s.length):=by
  intro a ha hm
  rcases aKg s hs m a ha hm with ⟨v,b,e1,e2,k1,k2,k3⟩ | ⟨v,v',b,b',e1,e2,k⟩
  · dsimp only at e1 e2
    have w:IntKind.wrap .i64 ((s.length:Int) - (b:Int))=(s.length:Int) - (b:Int):=fB (by omega) (by omega)
    have hpos:1≤b - a:=by have:=k3.pos; rwa [oV k2] at this
    by_cases hv:0≤v∧v≤(s.length:Int) - (b:Int)
    · refine .inl ⟨v.toNat,b,?_,?_,by omega,by omega,by rw [k3.2,Int.toNat_of_nonneg hv.1]⟩
      · rw [iA,e1]
        simp only [Option.bind_eq_bind,Option.bind_some,sIn,w]
        simp [hv]; omega
      · rw [jK,e2]
        simp only [Option.bind_eq_bind,Option.bind_some,w]
        have h1:¬ v<0:=by omega
        have h2:¬ (s.length:Int) - (b:Int)<v:=by omega
        simp [h1,h2,wB]; omega
    · refine .inr ⟨0,b,b,?_,?_,k2⟩
      · rw [iA,e1]
        simp only [Option.bind_eq_bind,Option.bind_some,sIn,w]
        rw [if_pos (by simp; omega)]
      · rw [jK,e2]
        simp only [Option.bind_eq_bind,Option.bind_some,w]
        rw [if_pos]
        · simp [wB]
        · by_cases h1:v<0
          · simp [h1]
          · simp [h1]; omega
  · dsimp only at e1 e2
    refine .inr ?_
    have c1:∃ w,iA ⟨s,(a:Int),false⟩=some (w,⟨s,b,true⟩):=by
      rw [iA,e1]
      simp only [Option.bind_eq_bind,Option.bind_some,sIn]
      split
      · exact ⟨_,rfl⟩
      · exact ⟨_,rfl⟩
    have c2:jK ⟨s,(a:Int),false⟩=some (0,⟨s,(b':Int),true⟩):=by
      rw [jK,e2]
      simp only [Option.bind_eq_bind,Option.bind_some,wB]
      simp
    obtain ⟨w,hw⟩:=c1
    exact ⟨w,b,b',hw,c2,k⟩
theorem aCi (s:List UInt8) (hs:s.length≤1048576):RSB s (fun st=>jO st)∧RIB s (fun st=>iI st):=by
  refine ⟨fun b=>⟨false,?_⟩,fun b hb=>⟨false,?_⟩⟩
  · show jO _=_
    rw [jO,(G5 s hs).1 b]; simp [sIn,rZ]
  · show iI _=_
    rw [iI,(G5 s hs).2 b hb]; simp
def QF (b:Bool) (u:List UInt8):Prop:=u=toB (tL b)
theorem aUw (s:List UInt8) (hs:s.length≤1048576) (m:Nat):qH s m QF (fun st=>jO st) (fun st=>iI st):=by
  intro a ha hm
  rcases aKg s hs m a ha hm with ⟨v,b,e1,e2,k1,k2,k3⟩ | ⟨v,v',b,b',e1,e2,k⟩
  · dsimp only at e1 e2
    by_cases h0:v=0
    · subst h0
      refine .inl ⟨false,b,?_,?_,k1,k2,k3.2⟩
      · show jO _=_
        rw [jO,e1]; simp [sIn,rZ]
      · show iI _=_
        rw [iI,e2]; simp
    · by_cases h1:v=1
      · subst h1
        refine .inl ⟨true,b,?_,?_,k1,k2,k3.2⟩
        · show jO _=_
          rw [jO,e1]; simp [sIn,rZ]
        · show iI _=_
          rw [iI,e2]; simp
      · refine .inr ⟨false,false,b,b,?_,?_,k2⟩
        · show jO _=_
          rw [jO,e1]
          simp only [Option.bind_eq_bind,Option.bind_some,sIn]
          rw [if_pos (by simp; omega)]
          simp [rZ,h1]
        · show iI _=_
          rw [iI,e2]; simp [h0,h1]
  · dsimp only at e1 e2
    have c1:∃ w,jO ⟨s,(a:Int),false⟩=some (w,⟨s,b,true⟩):=by
      rw [jO,e1]
      simp only [Option.bind_eq_bind,Option.bind_some,sIn,rZ]
      split <;> exact ⟨_,rfl⟩
    have c2:∃ w,iI ⟨s,(a:Int),false⟩=some (w,⟨s,(b':Int),true⟩):=by
      rw [iI,e2]; simp
    obtain ⟨w,hw⟩:=c1
    obtain ⟨w',hw'⟩:=c2
    exact .inr ⟨w,w',b,b',hw,hw',k⟩
theorem aM1 (s:List UInt8) (hs:s.length≤1048576):RSB s (fun st=>mI st)∧RIB s (fun st=>mO st):=by
  refine ⟨fun b=>⟨[],?_⟩,fun b hb=>⟨[],?_⟩⟩
  · show mI _=_
    rw [mI,(aDy s hs).1 b]; simp
  · show mO _=_
    rw [mO,(aDy s hs).2 b hb]
    have w:IntKind.wrap .i64 (b:Int)=(b:Int):=fB (by omega) (by omega)
    simp [w,T9 (l:=s) (Nat.le_refl b) hb]
def QT (v:List UInt8) (u:List UInt8):Prop:=v.length+1≤u.length∧u=toB (oQ v)
theorem bD5 (s:List UInt8) (hs:s.length≤1048576) (m:Nat):qH s m QT (fun st=>mI st) (fun st=>mO st):=by
  intro a ha hm
  rcases aQr s hs m a ha hm with ⟨n,b,e1,e2,k1,k2,k3⟩ | ⟨v,b,b',e1,e2,k⟩
  · have w:IntKind.wrap .i64 ((b:Int)+(n:Int))=((b+n:Nat):Int):=by rw [fB (by omega) (by omega)]; omega
    have w2:IntKind.wrap .i64 (((b+n:Nat):Int) - (n:Int))=(b:Int):=by rw [fB (by omega) (by omega)]; omega
    refine .inl ⟨(s.take (b+n)).drop b,b+n,?_,?_,by omega,by omega,by rw [oV k2]; simp; omega,?_⟩
    · show mI _=_
      rw [mI,e1]; simp only [Option.bind_eq_bind,Option.bind_some,w,w2,T9 (l:=s) (show b≤b+n by omega) k2]; simp
    · show mO _=_
      rw [mO,e2]; simp only [Option.bind_eq_bind,Option.bind_some,w,w2,T9 (l:=s) (show b≤b+n by omega) k2]
    · have el:((s.take (b+n)).drop b).length=n:=by simp; omega
      rw [← M0 (show a≤b by omega) (show b≤b+n by omega),k3]
      unfold oQ
      rw [wR,aUg,el]; rfl
  · have c1 : ∃ w, mI ⟨s, (a : Int), false⟩ = some (w, ⟨s, b, true⟩) := by
      rw [mI,e1]; simp
    have w:IntKind.wrap .i64 (b':Int)=(b':Int):=fB (by omega) (by omega)
    have c2:∃ w,mO ⟨s,(a:Int),false⟩=some (w,⟨s,(b':Int),true⟩):=by
      rw [mO,e2]; simp [w,T9 (l:=s) (Nat.le_refl b') k]
    obtain ⟨w,hw⟩:=c1
    obtain ⟨w',hw'⟩:=c2
    exact .inr ⟨w,w',b,b',hw,hw',k⟩
theorem wJ {ι:Type} {s:List UInt8} (hs:s.length≤1048576) {m:Nat}:RP s m (fun (_:ι)=>QN) (fun _ st=>iC st) (fun _ st=>fP st) :=
  ⟨fun _ b=>⟨_,(G5 s hs).1 b⟩,fun _ b hb=>⟨_,(G5 s hs).2 b hb⟩,fun _=>aKg s hs m⟩
theorem aGb {ι:Type} {s:List UInt8} (hs:s.length≤1048576) {m:Nat}:RP s m (fun (_:ι)=>QF) (fun _ st=>jO st) (fun _ st=>iI st) :=
  ⟨fun _=>(aCi s hs).1,fun _=>(aCi s hs).2,fun _=>aUw s hs m⟩
theorem aRo {ι:Type} {s:List UInt8} (hs:s.length≤1048576) {m:Nat}:RP s m (fun (_:ι)=>QT) (fun _ st=>mI st) (fun _ st=>mO st) :=
  ⟨fun _=>(aM1 s hs).1,fun _=>(aM1 s hs).2,fun _=>bD5 s hs m⟩
section
variable {α R:Type} {s:List UInt8} {m:Nat} {Qe:α→List UInt8→Prop} {z:α→Nat} {e:α→List Int} {ok:α→Prop} {f:aY→Option (α×aY)} {g:aU→Option (α×aU)} {by':Nat}
  {LS:Int×aY→Int→List α→aY→Option (R×aY)} {KS:List α→aY→Option (R×aY)} {LI:Int→aU→List α→Option (R×aU)} {KI:List α→aU→Option (R×aU)}
theorem bBa (hg : qH s m Qe f g) (hz : ∀ v u, u.length ≤ 1048576 → Qe v u → z v + 1 ≤ u.length ∧ ok v ∧ u = toB (e v)) (hs : s.length ≤ 1048576) (hby : by' ≤ 100000)
    (hLS:∀ y (i:Nat) acc st,LS y (i:Int) acc st=(some (if (decide ((i:Int)<y.1))=true then (!st.bad) else false)>>=fun y2=>if y2=true then ((f st)>>=fun y3=>(appG by' acc [y3.1])>>=fun y4=>LS y (IntKind.wrap .i64 ((i:Int)+1)) y4 y3.2) else KS acc st))
    (hLI:∀ (x:Nat) st acc,LI (x:Int) st acc=(some (if (decide (0<(x:Int)))=true then (!st.failed) else false)>>=fun y2=>if y2=true then ((g st)>>=fun y3=>(appG by' acc [y3.1])>>=fun y4=>LI (IntKind.wrap .i64 ((x:Int) - 1)) y3.2 y4) else KI acc st))
    (n:Nat) (hn:n≤1048576) (st0:aY):∀ (r i:Nat) (acc:List α) (a:Nat),i+r=n→acc.length≤i→a≤s.length→s.length - a<m →
    (∃ l,∃ b:Nat,LS ((n:Int),st0) (i:Int) acc ⟨s,(a:Int),false⟩=KS (acc++l) ⟨s,(b:Int),false⟩∧LI (r:Int) ⟨s,(a:Int),false⟩ acc=KI (acc++l) ⟨s,(b:Int),false⟩∧a≤b∧b≤s.length∧l.length=r∧zL z l≤b - a∧(∀ x ∈ l,ok x)∧seg s a b=toB (l.flatMap e)) ∨
    (∃ l l',∃ b:Int,∃ b':Nat,LS ((n:Int),st0) (i:Int) acc ⟨s,(a:Int),false⟩=KS l ⟨s,b,true⟩∧LI (r:Int) ⟨s,(a:Int),false⟩ acc=KI l' ⟨s,(b':Int),true⟩∧b'≤s.length):=by
  intro r
  induction r with
  | zero =>
    intro i acc a hi ha h1 h2
    refine .inl ⟨[],a,?_,?_,by omega,h1,rfl,by simp [zL],by simp,by rw [aLm]; rfl⟩
    · rw [hLS]
      have:¬ ((i:Int)<(n:Int)):=by omega
      simp [this]
    · rw [hLI]; simp
  | succ r ih =>
    intro i acc a hi ha h1 h2
    have c1:(i:Int)<(n:Int):=by omega
    have c2:(0:Int)<((r+1:Nat):Int):=by omega
    have hap:∀ v:α,appG by' acc [v]=some (acc++[v]):=fun v=>qJ (by
      have:(acc.length+[v].length) * by'≤1048577 * 100000:=Nat.mul_le_mul (by simp; omega) hby
      omega)
    have w1:IntKind.wrap .i64 ((i:Int)+1)=((i+1:Nat):Int):=by rw [fB (by omega) (by omega)]; omega
    have w2:IntKind.wrap .i64 (((r+1:Nat):Int) - 1)=(r:Int):=by rw [fB (by omega) (by omega)]; omega
    rw [hLS,hLI]
    simp only [c1,c2,decide_true,if_true,Bool.not_false,Option.bind_eq_bind,Option.bind_some,w1,w2]
    rcases hg a h1 h2 with ⟨v,b,e1,e2,k1,k2,k3⟩ | ⟨v,v',b,b',e1,e2,k⟩
    · simp only [e1,e2,Option.bind_some,hap]
      obtain ⟨hzv,hok,hse⟩:=hz _ _ (by rw [oV k2]; omega) k3
      rw [oV k2] at hzv
      rcases ih (i+1) (acc++[v]) b (by omega) (by simp; omega) k2 (by omega) with ⟨l,c,j1,j2,j3,j4,j0,j5,j6,j7⟩ | ⟨l,l',c,c',j1,j2,j3⟩
      · refine .inl ⟨v::l,c,by rw [j1]; simp,by rw [j2]; simp,by omega,j4,by simp [j0],?_,fun x hx=>?_,?_⟩
        · unfold zL at j5 ⊢
          simp only [List.length_cons,List.map_cons,List.sum_cons]
          omega
        · rcases List.mem_cons.1 hx with rfl | hx
          · exact hok
          · exact j6 x hx
        · rw [← M0 k1 j3,hse,j7,List.flatMap_cons,wR]
      · exact .inr ⟨l,l',c,c',j1,j2,j3⟩
    · simp only [e1,e2,Option.bind_some,hap]
      rw [hLI]
      have e3:=hLS ((n:Int),st0) (i+1) (acc++[v]) ⟨s,b,true⟩
      rw [e3]
      refine .inr ⟨acc++[v],acc++[v'],b,b',?_,?_,k⟩
      · simp
      · simp
end
theorem RP.list {ι α R : Type} {s : List UInt8} {m n : Nat} {Qe : α → List UInt8 → Prop} {z : α → Nat} {e : α → List Int} {ok : α → Prop} {f : aY → Option (α × aY)} {g : aU → Option (α × aU)} {by' : Nat}
    {LS:ι→aY→Int×aY→Int→List α→aY→Option (R×aY)} {KS:ι→aY→List α→aY→Option (R×aY)} {LI:ι→aU→Int→aU→List α→Option (R×aU)} {KI:ι→aU→List α→aU→Option (R×aU)}
    {Q:ι→R→List UInt8→Prop} (hn:n≤m+1) (hg:qH s m Qe f g) (hz:∀ v u,u.length≤1048576→Qe v u→z v+1≤u.length∧ok v∧u=toB (e v)) (hs:s.length≤1048576) (hby:by'≤100000)
    (hLS:∀ i t y (k:Nat) acc st,LS i t y (k:Int) acc st=(some (if (decide ((k:Int)<y.1))=true then (!st.bad) else false)>>=fun y2=>if y2=true then ((f st)>>=fun y3=>(appG by' acc [y3.1])>>=fun y4=>LS i t y (IntKind.wrap .i64 ((k:Int)+1)) y4 y3.2) else KS i t acc st))
    (hLI:∀ i t (x:Nat) st acc,LI i t (x:Int) st acc=(some (if (decide (0<(x:Int)))=true then (!st.failed) else false)>>=fun y2=>if y2=true then ((g st)>>=fun y3=>(appG by' acc [y3.1])>>=fun y4=>LI i t (IntKind.wrap .i64 ((x:Int) - 1)) y3.2 y4) else KI i t acc st))
    (hK:RP (ι:=(ι×List α)×(aY×aU)) s m (fun i w d=>∀ d1:List UInt8,zL z i.1.2+1≤d1.length→(∀ x ∈ i.1.2,ok x)→d1=toB (gN (i.1.2.length:Int)++i.1.2.flatMap e)→Q i.1.1 w (d1++d)) (fun i=>KS i.1.1 i.2.1 i.1.2) (fun i=>KI i.1.1 i.2.2 i.1.2)) :
    RP s n Q (fun i st=>iA st>>=fun y=>LS i st y 0 [] y.2) (fun i st=>jK st>>=fun y=>LI i st y.1 y.2 []):=by
  have eS:∀ i t v b,LS i t (v,⟨s,b,true⟩) 0 [] ⟨s,b,true⟩=KS i t [] ⟨s,b,true⟩:=fun i t v b=>by
    have:=hLS i t (v,⟨s,b,true⟩) 0 [] ⟨s,b,true⟩
    simpa using this
  have eI:∀ i t (b:Nat),LI i t 0 ⟨s,(b:Int),true⟩ []=KI i t [] ⟨s,(b:Int),true⟩:=fun i t b=>by
    have:=hLI i t 0 ⟨s,(b:Int),true⟩ []
    simpa using this
  refine ⟨fun i b=>?_,fun i b hb=>?_,fun i a ha hm=>?_⟩
  · obtain ⟨w,hw⟩:=hK.sb ((i,[]),(_,default)) b
    refine ⟨w,?_⟩
    simp only [(aDy s hs).1 b,Option.bind_eq_bind,Option.bind_some,eS]
    exact hw
  · obtain ⟨w,hw⟩:=hK.ib ((i,[]),(default,_)) b hb
    refine ⟨w,?_⟩
    simp only [(aDy s hs).2 b hb,Option.bind_eq_bind,Option.bind_some,eI]
    exact hw
  rcases aQr s hs n a ha hm with ⟨n,b,e1,e2,k1,k2,k3⟩ | ⟨v,b,b',e1,e2,k⟩
  · simp only [e1,e2,Option.bind_eq_bind,Option.bind_some]
    rcases bBa (LS:=LS i ⟨s,(a:Int),false⟩) (LI:=LI i ⟨s,(a:Int),false⟩) (KS:=KS i ⟨s,(a:Int),false⟩) (KI:=KI i ⟨s,(a:Int),false⟩) hg hz hs hby (hLS i _) (hLI i _) n (by omega) ⟨s,(b:Int),false⟩ n 0 [] b (by omega) (by simp) (by omega) (by omega) with ⟨l,c,j1,j2,j3,j4,j0,j5,j6,j7⟩ | ⟨l,l',c,c',j1,j2,j3⟩
    · rw [List.nil_append] at j1 j2
      rw [show LS i ⟨s,(a:Int),false⟩ ((n:Int),⟨s,(b:Int),false⟩) 0 [] ⟨s,(b:Int),false⟩=_ from j1,j2]
      rcases hK.good ((i,l),(_,_)) c j4 (by omega) with ⟨w,e',i1,i2,i3,i4,i5⟩ | h
      · exact .inl ⟨w, e', i1, i2, by omega, i4, by
          have:=i5 (seg s a c) (by rw [oV j4]; show zL z l+1≤c - a; omega) j6 (by show _=toB (gN (l.length:Int)++l.flatMap e); rw [wR,j0,← k3,← j7]; exact (M0 (by omega) j3).symm)
          rwa [M0 (show a≤c by omega) i3] at this⟩
      · exact .inr h
    · rw [show LS i ⟨s,(a:Int),false⟩ ((n:Int),⟨s,(b:Int),false⟩) 0 [] ⟨s,(b:Int),false⟩=_ from j1,j2]
      obtain ⟨w,hw⟩:=hK.sb ((i,l),(_,default)) c
      obtain ⟨w',hw'⟩:=hK.ib ((i,l'),(default,_)) c' j3
      exact .inr ⟨w,w',c,c',hw,hw',j3⟩
  · simp only [e1,e2,Option.bind_eq_bind,Option.bind_some,eS,eI]
    obtain ⟨w,hw⟩:=hK.sb ((i,[]),(_,default)) b
    obtain ⟨w',hw'⟩:=hK.ib ((i,[]),(default,_)) b' k
    exact .inr ⟨w,w',b,b',hw,hw',k⟩
theorem aBt (a:Int):0≤IntKind.wrap .i64 ((BitVec.ofInt (IntKind.bits .i64) a &&& BitVec.ofInt (IntKind.bits .i64) 255).toNat:Int)∧IntKind.wrap .i64 ((BitVec.ofInt (IntKind.bits .i64) a &&& BitVec.ofInt (IntKind.bits .i64) 255).toNat:Int)≤255:=by
  have h:(BitVec.ofInt (IntKind.bits .i64) a &&& BitVec.ofInt (IntKind.bits .i64) 255).toNat≤255:=by
    rw [BitVec.toNat_and]
    exact Nat.le_trans Nat.and_le_right (by decide)
  rw [fB (by omega) (by omega)]
  omega
def okCur (c:aJ):Prop:=0≤c.i∧c.i≤(c.b.length:Int)∧c.b.length≤1048576
theorem yL (c:aJ) (h:okCur c):∃ x c',mE c=some (x,c')∧0≤x∧x≤255∧okCur c':=by
  obtain ⟨h1,h2,h3⟩:=h
  unfold mE aB3
  by_cases hi:c.i<(c.b.length:Int)
  · have e : ∃ v, idx c.b c.i = some v := by
      unfold idx
      rw [if_pos h1]
      exact ⟨_,List.getElem?_eq_getElem (by omega)⟩
    obtain ⟨v,hv⟩:=e
    rw [if_pos (by simpa using hi),hv]
    simp only [Option.bind_eq_bind,Option.bind_some]
    refine ⟨_,_,rfl,(aBt _).1,(aBt _).2,?_⟩
    refine ⟨?_,?_,h3⟩
    · show 0≤IntKind.wrap .i64 (c.i+1); rw [fB (by omega) (by omega)]; omega
    · show IntKind.wrap .i64 (c.i+1)≤(c.b.length:Int); rw [fB (by omega) (by omega)]; omega
  · rw [if_neg (by simpa using hi)]
    exact ⟨_,_,rfl,(aBt _).1,(aBt _).2,h1,h2,h3⟩
theorem aOa {a b:Int} (h0:0≤a) (hb:0<b):∃ r,F6 a b=some r∧0≤r∧r<b:=by
  unfold F6
  rw [if_neg (by omega)]
  exact ⟨_,rfl,Int.tmod_nonneg _ h0,Int.tmod_lt_of_pos _ hb⟩
theorem yH (c:aJ) (n:Int) (h:okCur c):∃ x c',dY c n=some (x,c')∧0≤x∧(0<n→x<n)∧okCur c':=by
  unfold dY
  by_cases h0:n≤0
  · rw [if_pos (by simpa using h0)]; exact ⟨0,c,rfl,by omega,by omega,h⟩
  rw [if_neg (by simpa using h0)]
  by_cases h1:n≤256
  · rw [if_pos (by simpa using h1)]
    obtain ⟨x,c1,e1,a1,b1,o1⟩:=yL c h
    obtain ⟨r,er,r0,r1⟩:=aOa a1 (b:=n) (by omega)
    simp only [e1,Option.bind_eq_bind,Option.bind_some,er]
    exact ⟨r,c1,rfl,r0,fun _=>r1,o1⟩
  · rw [if_neg (by simpa using h1)]
    obtain ⟨x1,c1,e1,a1,b1,o1⟩:=yL c h
    obtain ⟨x2,c2,e2,a2,b2,o2⟩:=yL c1 o1
    obtain ⟨x3,c3,e3,a3,b3,o3⟩:=yL c2 o2
    obtain ⟨x4,c4,e4,a4,b4,o4⟩:=yL c3 o3
    simp only [e1,e2,e3,e4,Option.bind_eq_bind,Option.bind_some]
    rw [fB (n:=x1 * 16777216) (by omega) (by omega),fB (n:=x2 * 65536) (by omega) (by omega),fB (n:=x3 * 256) (by omega) (by omega),fB (n:=x1 * 16777216+x2 * 65536) (by omega) (by omega),fB (n:=x1 * 16777216+x2 * 65536+x3 * 256) (by omega) (by omega),fB (n:=x1 * 16777216+x2 * 65536+x3 * 256+x4) (by omega) (by omega)]
    obtain ⟨r,er,r0,r1⟩:=aOa (a:=x1 * 16777216+x2 * 65536+x3 * 256+x4) (by omega) (b:=n) (by omega)
    rw [er]
    exact ⟨r,c4,rfl,r0,fun _=>r1,o4⟩
theorem aUy (c:aJ) (n:Int) (h:okCur c):∃ x c',gH c n=some (x,c')∧okCur c':=by
  obtain ⟨x,c1,e1,_,_,o1⟩:=yH c n h
  unfold gH
  simp only [e1,Option.bind_eq_bind,Option.bind_some]
  exact ⟨_,_,rfl,o1⟩
theorem aE5 {α:Type} {l:List α} {x:Int} (h0:0≤x) (h1:x<(l.length:Int)):∃ v,v ∈ l∧idx l x=some v:=by
  unfold idx
  rw [if_pos h0]
  exact ⟨_,List.getElem_mem (by omega),List.getElem?_eq_getElem (by omega)⟩
theorem bDj (c:aJ) (l:List (List UInt8)) (hl:0<l.length) (h:okCur c):∃ x c',mZ c l=some (x,c')∧x ∈ l∧okCur c':=by
  obtain ⟨x,c1,e1,h0,h1,o1⟩:=yH c l.length h
  obtain ⟨v,hv,ev⟩:=aE5 h0 (h1 (by omega))
  unfold mZ
  simp only [e1,ev,Option.bind_eq_bind,Option.bind_some]
  exact ⟨_,_,rfl,hv,o1⟩
theorem aOr (c:aJ) (l:List Int) (hl:0<l.length) (h:okCur c):∃ x c',tZ c l=some (x,c')∧x ∈ l∧okCur c':=by
  obtain ⟨x,c1,e1,h0,h1,o1⟩:=yH c l.length h
  obtain ⟨v,hv,ev⟩:=aE5 h0 (h1 (by omega))
  unfold tZ
  simp only [e1,ev,Option.bind_eq_bind,Option.bind_some]
  exact ⟨_,_,rfl,hv,o1⟩
theorem bDt (p:List Int) (hp:p.length≤1048576):∃ c,E5 p=some c∧okCur c:=by
  unfold E5
  have key:∀ i,i≤p.length→∀ h,∃ c,vQ p h (i:Nat)=some c∧okCur c:=by
    refine aPi ?_ ?_
    · intro h
      rw [vQ]
      refine ⟨⟨p,0,h⟩,by simp,?_⟩
      exact ⟨by show (0:Int)≤0; omega,by show (0:Int)≤(p.length:Int); omega,hp⟩
    · intro i hi ih h
      rw [vQ]
      by_cases h4:(i:Int)<4000
      · simp only [V4,hi,h4,decide_true,if_true,aGw hi,aLn hi (by omega),Option.bind_eq_bind,Option.bind_some]
        exact ih _
      · simp only [V4,hi,h4,decide_true,decide_false,if_true,Bool.false_eq_true,if_false]
        exact ⟨⟨p,0,h⟩,rfl,by show (0:Int)≤0; omega,by show (0:Int)≤(p.length:Int); omega,hp⟩
  exact key 0 (by omega) _
theorem aQv {a b:List UInt8} (h:a.length+b.length≤1048576):qV a b=some (a++b):=by unfold qV; rw [if_pos (by simp only [maxLen]; omega)]
theorem aOu (p:Int) (hp:p≤1000):∀ (n:Nat) (x:List Int) (i:Int) (b:List Int) (j h:Int),p≤n+i→0≤i→x.length=i.toNat→i≤1000→(∀ v ∈ x,0≤v∧v<256)→okCur ⟨b,j,h⟩→∃ y c',pV p x i b j h=some (y,c')∧(∀ v ∈ y,0≤v∧v<256)∧okCur c':=by
  intro n
  induction n with
  | zero =>
    intro x i b j h h1 h2 h3 _ h5 h4
    rw [pV,if_neg (by simp; omega)]
    exact ⟨_,_,rfl,h5,h4⟩
  | succ n ih =>
    intro x i b j h h1 h2 h3 hi0 h5 h4
    rw [pV]
    by_cases hi:i<p
    · rw [if_pos (by simpa using hi)]
      obtain ⟨v,c',e1,_,_,e4⟩:=yL ⟨b,j,h⟩ h4
      simp only [e1,Option.bind_eq_bind,Option.bind_some]
      rw [qJ (by simp; omega),fB (by omega) (by omega)]
      simp only [Option.bind_some]
      refine ih (x++[IntKind.wrap .u8 v]) (i+1) c'.b c'.i c'.h (by omega) (by omega) (by simp [h3]; omega) (by omega) ?_ e4
      intro u hu
      rcases List.mem_append.1 hu with hu | hu
      · exact h5 u hu
      · have:u=IntKind.wrap .u8 v:=by simpa using hu
        rw [this]; simp [IntKind.wrap,IntKind.bits,IntKind.signed]; omega
    · rw [if_neg (by simpa using hi)]
      exact ⟨_,_,rfl,h5,h4⟩
def Yes {α:Type} (m:Option α) (Q:α→Prop):Prop:=∃ r,m=some r∧Q r
theorem Yes.bind {α β:Type} {m:Option α} {k:α→Option β} {Q:α→Prop} {R:β→Prop} (h:Yes m Q) (hk:∀ x,Q x→Yes (k x) R):Yes (m>>=k) R:=by
  obtain ⟨x,e,hx⟩:=h
  obtain ⟨r,e2,hr⟩:=hk x hx
  exact ⟨r,by rw [e]; exact e2,hr⟩
theorem Yes.some {α:Type} {x:α} {Q:α→Prop} (h:Q x):Yes (some x) Q:=⟨x,rfl,h⟩
theorem Yes.mono {α:Type} {m:Option α} {Q R:α→Prop} (h:Yes m Q) (hk:∀ x,Q x→R x):Yes m R:=by
  obtain ⟨x,e,hx⟩:=h; exact ⟨x,e,hk x hx⟩
theorem Yes.ite {α:Type} {c:Prop} [Decidable c] {m m':Option α} {Q:α→Prop} (h:c→Yes m Q) (h':¬ c→Yes m' Q):Yes (if c then m else m') Q:=by
  split
  · exact h (by assumption)
  · exact h' (by assumption)
theorem jP (c:aJ) (n:Int) (h:okCur c):Yes (dY c n) fun r=>0≤r.1∧(0<n→r.1<n)∧okCur r.2:=by
  obtain ⟨x,c',e,h1,h2,h3⟩:=yH c n h; exact ⟨_,e,h1,h2,h3⟩
theorem nD (c:aJ) (n:Int) (h:okCur c):Yes (gH c n) fun r=>okCur r.2:=by
  obtain ⟨x,c',e,h1⟩:=aUy c n h; exact ⟨_,e,h1⟩
theorem aD8 (p:Bool) (b:Bool) (c:aJ) (n:Int) (h:okCur c):Yes (if (true&&(p==b))=true then gH c n else some ((default:Bool),c)) fun r=>okCur r.2:=Yes.ite (fun _=>nD c n h) fun _=>Yes.some h
theorem bBu (c:aJ) (l:List Int) (hl:0<l.length) (h:okCur c):Yes (tZ c l) fun r=>okCur r.2:=by
  obtain ⟨x,c',e,_,h1⟩:=aOr c l hl h; exact ⟨_,e,h1⟩
theorem oG {α:Type} {b:Nat} {l m:List α} (h:(l.length+m.length) * b≤140737488355328):Yes (appG b l m) fun r=>r=l++m:=⟨_,qJ h,rfl⟩
theorem tK (c:aJ) (h:okCur c):Yes (jX c) fun r=>okI r.1∧okCur r.2:=by
  obtain ⟨x,c1,e1,_,_,o1⟩:=yH c 3 h
  obtain ⟨y,c2,e2,hy,o2⟩:=aOr c1 [0,1,(-1),63,64,(-64),(-65),127,128,16383,16384,9223372036854775807,(-9223372036854775808),4611686018427387904] (by decide) o1
  obtain ⟨z,c3,e3,z0,z1,o3⟩:=yH c1 1000000 o1
  obtain ⟨w,c4,e4,w0,w1,o4⟩:=yH c1 20 o1
  have hyI:okI y:=by
    have:∀ v ∈ ([0,1,(-1),63,64,(-64),(-65),127,128,16383,16384,9223372036854775807,(-9223372036854775808),4611686018427387904]:List Int),-9223372036854775808≤v∧v≤9223372036854775807:=by decide
    exact this y hy
  have hz:=z1 (by decide)
  have hw:=w1 (by decide)
  unfold jX
  simp only [e1,e2,e3,e4,Option.bind_eq_bind,Option.bind_some]
  split
  · exact ⟨_,rfl,hyI,o2⟩
  split
  · refine ⟨_,rfl,?_,o3⟩
    unfold okI; dsimp only; rw [fB (by omega) (by omega)]; omega
  · refine ⟨_,rfl,?_,o4⟩
    unfold okI; dsimp only; omega
theorem W9 (c:aJ) (l:List (List UInt8)) (hl:0<l.length) (h:okCur c):Yes (mZ c l) fun r=>r.1 ∈ l∧okCur r.2:=by
  obtain ⟨x,c',e,h0,h1⟩:=bDj c l hl h; exact ⟨_,e,h0,h1⟩
def okV (B:Nat) (r:bN×aJ):Prop:=okGValue r.1∧r.1.text.length≤B∧okCur r.2
theorem okV_mk {B:Nat} {k n:Int} {t:List UInt8} {c:aJ} (h1:okI k) (h2:okI n) (h3:t.length≤B) (hB:B≤1000) (h:okCur c):okV B (⟨k,n,t⟩,c):=⟨⟨h1,h2,by unfold okS; dsimp only; omega⟩,h3,h⟩
theorem okI_small {n:Int} (h0 : -1000≤n) (h1:n≤1000):okI n:=by unfold okI; omega
theorem aP8 (c:aJ) (h:okCur c):Yes (vV c) (okV 4):=by
  unfold vV
  refine Yes.bind (jP _ _ h) fun r ⟨_,_,k⟩=>Yes.ite (fun _=>?_) fun _=>Yes.ite (fun _=>?_) fun _=>Yes.ite (fun _=>?_) fun _=>Yes.ite (fun _=>?_) fun _=>?_
  · exact Yes.some (okV_mk (okI_small (by omega) (by omega)) (okI_small (by omega) (by omega)) (by simp) (by omega) k)
  · refine Yes.bind (W9 _ _ (by decide) k) fun r ⟨hm,k⟩=>?_
    have:∀ v ∈ ([[],[97],[98],[105,116,39,115],[97,98],[255]]:List (List UInt8)),v.length≤4:=by decide
    exact Yes.bind (Q:=fun v=>v=⟨2,0,r.1⟩) ⟨_,rfl,rfl⟩ fun v hv=>Yes.some (by subst hv; exact okV_mk (okI_small (by omega) (by omega)) (okI_small (by omega) (by omega)) (this _ hm) (by omega) k)
  · refine Yes.bind (nD _ _ k) fun r k=>?_
    have:Yes (aD2 r.1) fun v=>okI v.kind∧okI v.num∧v.text=[]:=by
      cases r.1
      · exact ⟨_,rfl,okI_small (by decide) (by decide),okI_small (by decide) (by decide),rfl⟩
      · exact ⟨_,rfl,okI_small (by decide) (by decide),okI_small (by decide) (by decide),rfl⟩
    refine Yes.bind this fun v ⟨h1,h2,h3⟩=>Yes.some ?_
    obtain ⟨a,b,t⟩:=v
    dsimp only at h1 h2 h3
    subst h3
    exact okV_mk h1 h2 (by simp) (by omega) k
  · refine Yes.bind (tK _ k) fun r ⟨h1,k⟩=>?_
    exact Yes.bind (Q:=fun v=>v=⟨1,r.1,[]⟩) ⟨_,rfl,rfl⟩ fun v hv=>Yes.some (by subst hv; exact okV_mk (okI_small (by omega) (by omega)) h1 (by simp) (by omega) k)
  · refine Yes.bind (jP _ _ k) fun r ⟨h0,h1,k⟩=>?_
    have:=h1 (by decide)
    exact Yes.bind (Q:=fun v=>v=⟨1,IntKind.wrap .i64 (r.1 - 2),[]⟩) ⟨_,rfl,rfl⟩ fun v hv=>Yes.some (by subst hv; exact okV_mk (okI_small (by omega) (by omega)) (by rw [fB (by omega) (by omega)]; exact okI_small (by omega) (by omega)) (by simp) (by omega) k)
theorem aTh (c:aJ) (h:okCur c):Yes (yV c) (okV 4):=by
  unfold yV aAf
  refine Yes.bind (aP8 _ h) fun r ⟨⟨h1,h2,h3⟩,h4,k⟩=>Yes.bind (Q:=fun _=>True) ⟨_,rfl,trivial⟩ fun b _=>Yes.ite (fun _=>Yes.some ?_) fun _=>Yes.some ?_
  · exact okV_mk h1 (by unfold okI; omega) h4 (by omega) k
  · exact okV_mk h1 h2 h4 (by omega) k
theorem aZ3 (y:bN×aJ) (hy:okV 4 y):∀ n (t:List UInt8) (b:List Int) (i h:Int),400≤n+t.length→t.length≤810→okCur ⟨b,i,h⟩→Yes (wH y t b i h) (okV 810):=by
  obtain ⟨⟨h1,h2,_⟩,_,_⟩:=hy
  intro n
  have fin:∀ (t:List UInt8) (b:List Int) (i h:Int),t.length≤810→okCur ⟨b,i,h⟩→Yes (pR y.1.kind y.1.num t b i h) (okV 810):=fun t b i h ht ho=>by
    unfold pR
    exact Yes.some (okV_mk h1 h2 ht (by omega) ho)
  induction n with
  | zero =>
    intro t b i h ht hl ho
    rw [wH]
    refine Yes.bind (nD _ _ ho) fun r k=>Yes.bind (Q:=fun q=>q=false) ⟨_,rfl,by split <;> simp; omega⟩ fun q hq=>?_
    subst hq
    exact fin _ _ _ _ hl k
  | succ n ih =>
    intro t b i h ht hl ho
    rw [wH]
    refine Yes.bind (nD _ _ ho) fun r k=>Yes.bind (Q:=fun q=>q=true→t.length<400) ⟨_,rfl,fun hq=>by cases hr:r.1 <;> simp [hr] at hq; omega⟩ fun q hq=>Yes.ite (fun hq2=>?_) fun _=>fin _ _ _ _ hl k
    have:=hq hq2
    refine Yes.bind (Q:=fun z=>z=t++t) ⟨_,aQv (by omega),rfl⟩ fun z hz=>?_
    subst hz
    refine Yes.bind (Q:=fun z=>z=(t++t)++[48,49,50,51,52,53,54,55,56,57]) ⟨_,aQv (by simp; omega),rfl⟩ fun z hz=>?_
    subst hz
    exact ih _ _ _ _ (by simp; omega) (by simp; omega) k
theorem bA3 (c:aJ) (h:okCur c):Yes (F7 c) (okV 810):=by
  unfold F7
  refine Yes.bind (aP8 _ h) fun y hy=>?_
  have hy':=hy
  obtain ⟨⟨h1,h2,h3⟩,h4,k⟩:=hy
  refine Yes.bind (jP _ _ k) fun r ⟨_,_,k⟩=>Yes.ite (fun _=>?_) fun _=>Yes.ite (fun _=>?_) fun _=>Yes.ite (fun _=>?_) fun _=>?_
  · refine Yes.bind (jP _ _ k) fun r ⟨a0,a1,k⟩=>?_
    have:=a1 (by decide)
    unfold pR
    exact Yes.some (okV_mk (by rw [fB (by omega) (by omega)]; exact okI_small (by omega) (by omega)) h2 (by omega) (by omega) k)
  · refine Yes.bind (tK _ k) fun r ⟨a0,k⟩=>?_
    unfold pR
    exact Yes.some (okV_mk h1 a0 (by omega) (by omega) k)
  · refine Yes.bind (W9 _ _ (by decide) k) fun r ⟨hm,k⟩=>?_
    have:∀ v ∈ ([[120],[],[108,111,110,103]]:List (List UInt8)),v.length≤4:=by decide
    have:=this _ hm
    exact aZ3 y hy' 400 _ _ _ _ (by omega) (by omega) k
  · unfold pR
    exact Yes.some (okV_mk h1 h2 (by omega) (by omega) k)
theorem aLz (c:aJ) (h:okCur c):Yes (xK c) fun r=>r.1.length≤8∧okCur r.2:=by
  unfold xK
  refine Yes.bind (nD _ _ h) fun r k=>Yes.ite (fun _=>?_) fun _=>?_
  · refine Yes.bind (W9 _ _ (by decide) k) fun r ⟨hm,k⟩=>Yes.some ⟨?_,k⟩
    have:∀ v ∈ ([[97,32,98],[102,114,111,109],[83,101,108,101,99,116],[49,120],[113,34,113],[0],[34],[105,116,39,115],[120,46,121],[45]]:List (List UInt8)),v.length≤8:=by decide
    exact this _ hm
  · refine Yes.bind (W9 _ _ (by decide) k) fun r ⟨hm,k⟩=>Yes.some ⟨?_,k⟩
    have:∀ v ∈ ([[97],[98],[99],[116],[117],[118],[105,100],[110,97,109,101],[65],[95,120,49]]:List (List UInt8)),v.length≤8:=by decide
    exact this _ hm
theorem aN5 (p:Int) (hp:p≤1000):∀ (n:Nat) (x:List Int) (i:Int) (b:List Int) (j h:Int) y c',p≤n+i→0≤i→x.length=i.toNat→i≤1000→okCur ⟨b,j,h⟩→pV p x i b j h=some (y,c')→y.length≤1000:=by
  intro n
  induction n with
  | zero =>
    intro x i b j h y c' h1 h2 h3 h4 _ he
    rw [pV,if_neg (by simp; omega)] at he
    simp at he
    rw [← he.1]; omega
  | succ n ih =>
    intro x i b j h y c' h1 h2 h3 hi0 h4 he
    rw [pV] at he
    by_cases hi:i<p
    · rw [if_pos (by simpa using hi)] at he
      obtain ⟨v,c1,e1,_,_,e4⟩:=yL ⟨b,j,h⟩ h4
      simp only [e1,Option.bind_eq_bind,Option.bind_some] at he
      rw [qJ (by simp; omega),fB (by omega) (by omega)] at he
      simp only [Option.bind_some] at he
      exact ih (x++[IntKind.wrap .u8 v]) (i+1) c1.b c1.i c1.h y c' (by omega) (by omega) (by simp [h3]; omega) (by omega) e4 he
    · rw [if_neg (by simpa using hi)] at he
      simp at he
      rw [← he.1]; omega
theorem bCm (c:aJ) (h:okCur c):Yes (Q5 c) fun r=>r.1.length≤1000∧okCur r.2:=by
  unfold Q5
  refine Yes.bind (jP _ _ h) fun r ⟨_,_,k⟩=>Yes.ite (fun _=>?_) fun _=>Yes.ite (fun _=>?_) fun _=>Yes.ite (fun _=>?_) fun _=>?_
  · refine Yes.bind (W9 _ _ (by decide) k) fun r ⟨hm,k⟩=>Yes.some ⟨?_,k⟩
    have:∀ v ∈ ([[],[97,98,99,100,101,102,103,104,105,106,107,108,109,110,111,112,113,114,115,116],[97,98,99,100,101,102,103,104,105,106,107,108,109,110,111,112,113,114,115,116,117],[108,105,109,105,116],[76,73,77,73,84,83],[65,83,99],[57],[97,57],[195,169]]:List (List UInt8)),v.length≤1000:=by decide
    exact this _ hm
  · refine Yes.bind (Q:=fun l:List (List UInt8)=>l.length=29∧∀ v ∈ l,v.length≤1000) ⟨_,rfl,by decide,by decide⟩ fun l ⟨hl,hm⟩=>Yes.bind (jP _ _ k) fun r ⟨h0,h1,k⟩=>?_
    obtain ⟨v,hv0,hv⟩:=aE5 (l:=l) h0 (by rw [hl]; exact h1 (by decide))
    exact Yes.bind (Q:=fun z=>z=v) ⟨v,hv,rfl⟩ fun z hz=>Yes.some ⟨by subst hz; exact hm _ hv0,k⟩
  · refine Yes.bind (jP _ _ k) fun r ⟨h0,h1,k⟩=>?_
    have h1':=h1 (by decide)
    obtain ⟨y,c3,e3,l3,k3⟩:=aOu r.1 (by omega) 5 [] 0 r.2.b r.2.i r.2.h (by omega) (by omega) rfl (by omega) (by simp) k
    have hlen:=aN5 r.1 (by omega) 5 [] 0 r.2.b r.2.i r.2.h y c3 (by omega) (by omega) rfl (by omega) k e3
    have hs:=aAt (l:=y) l3
    refine Yes.bind (Q:=fun z=>z=(y,c3)) ⟨_,e3,rfl⟩ fun z hz=>?_
    subst hz
    exact Yes.bind (Q:=fun t:List UInt8=>t.length≤1000) ⟨_,hs,by simpa using hlen⟩ fun t ht=>Yes.some ⟨ht,k3⟩
  · exact Yes.bind (aLz _ k) fun r ⟨h1,k⟩=>Yes.some ⟨by show r.1.length≤1000; omega,k⟩
theorem okLX_of {l:List aB} (h:∀ y ∈ l,okGPExpr y):okLGPExpr l:=by
  induction l with
  | nil=>unfold okLGPExpr; trivial
  | cons x l ih=>unfold okLGPExpr; exact ⟨h x (by simp),ih fun y hy=>h y (List.mem_cons_of_mem _ hy)⟩
theorem okLP_of {l:List aV} (h:∀ y ∈ l,okGPlan y):okLGPlan l:=by
  induction l with
  | nil=>unfold okLGPlan; trivial
  | cons x l ih=>unfold okLGPlan; exact ⟨h x (by simp),ih fun y hy=>h y (List.mem_cons_of_mem _ hy)⟩
theorem okLK_of {l:List bH} (h:∀ y ∈ l,okGPExpr y.expr):okLGPSort l:=by
  induction l with
  | nil=>unfold okLGPSort; trivial
  | cons x l ih =>
    unfold okLGPSort
    refine ⟨?_,ih fun y hy=>h y (List.mem_cons_of_mem _ hy)⟩
    have:=h x (by simp)
    obtain ⟨a,b⟩:=x
    unfold okGPSort; exact ⟨this,trivial⟩
theorem okLLX_of {l:List (List aB)} (h:∀ y ∈ l,y.length≤1048576∧∀ x ∈ y,okGPExpr x):okLLGPExpr l:=by
  induction l with
  | nil=>unfold okLLGPExpr; trivial
  | cons x l ih =>
    unfold okLLGPExpr
    have:=h x (by simp)
    exact ⟨⟨by omega,okLX_of this.2⟩,ih fun y hy=>h y (List.mem_cons_of_mem _ hy)⟩
theorem mkE {a b:Int} {q:Bool} {v:bN} {u t:Int} {ks:List aB} {ss:List aV} (h1:okI a) (h2:okI b) (h3:okGValue v) (h4:okI u) (h5:okI t) (k1:ks.length≤1048576) (k2:∀ y ∈ ks,okGPExpr y) (s1:ss.length≤1048576) (s2:∀ y ∈ ss,okGPlan y):okGPExpr (aB.mk a b q v u t ks ss):=by
  unfold okGPExpr
  exact ⟨h1,h2,trivial,h3,h4,h5,⟨by omega,okLX_of k2⟩,by omega,okLP_of s2⟩
theorem wU (a b:Int) (q:Bool) (v:bN) (u t:Int) (ks:List aB) (ss:List aV):bU (aB.mk a b q v u t ks ss)=v.text.length+zL bU ks+zL gL ss:=by
  obtain ⟨v0,v1,v2⟩:=v
  simp only [bU,aDu,vK,aCd,zL]
theorem uL {α:Type} {z:α→Nat} {B n:Nat}:∀ {l:List α},l.length≤n→(∀ y ∈ l,z y≤B)→zL z l≤n * (1+B):=by
  have key:∀ l:List α,(∀ y ∈ l,z y≤B)→zL z l≤l.length * (1+B):=fun l=>by
    induction l with
    | nil=>simp [zL]
    | cons x l ih =>
      intro h
      have h1:=ih fun y hy=>h y (List.mem_cons_of_mem _ hy)
      have h2:=h x (by simp)
      simp only [zL,List.length_cons,List.map_cons,List.sum_cons,Nat.add_mul,Nat.one_mul] at h1 ⊢
      omega
  intro l hl h
  exact Nat.le_trans (key l h) (Nat.mul_le_mul_right _ hl)
def FE (B:Nat) (x:aB):Prop:=okGPExpr x∧bU x≤B
def okE (B:Nat) (r:aB×aJ):Prop:=FE B r.1∧okCur r.2
def okKs (B:Nat) (r:List aB×aJ):Prop:=(r.1.length≤3∧∀ y ∈ r.1,FE B y)∧okCur r.2
theorem aYa (B : Nat) (d : Int) (m : Int) (hm : m ≤ 3) (H : ∀ c, okCur c → Yes (nI c (IntKind.wrap .i64 (d - 1))) (okE B)) :
    ∀ (k:Nat) (i:Int) b j h (l:List aB),m≤k+i→0≤i→i≤3→(l.length:Int)≤i→(∀ y ∈ l,FE B y)→okCur ⟨b,j,h⟩→Yes (zH d m i b j h l) (okKs B):=by
  intro k
  induction k with
  | zero =>
    intro i b j h l h1 h2 h3 h4 h5 h6
    rw [zH,if_neg (by simp; omega)]
    exact Yes.some ⟨⟨by show l.length≤3; omega,h5⟩,h6⟩
  | succ k ih =>
    intro i b j h l h1 h2 h3 h4 h5 h6
    rw [zH]
    refine Yes.ite (fun hi=>?_) fun _=>Yes.some ⟨⟨by show l.length≤3; omega,h5⟩,h6⟩
    have hi':i<m:=by simpa using hi
    refine Yes.bind (H _ h6) fun r ⟨hz,hr⟩=>Yes.bind (oG (by simp; omega)) fun y hy=>?_
    subst hy
    rw [fB (by omega) (by omega)]
    refine ih _ _ _ _ _ (by omega) (by omega) (by omega) (by simp; omega) (fun y hy=>?_) hr
    rcases List.mem_append.1 hy with hy | hy
    · exact h5 y hy
    · have:y=r.1:=by simpa using hy
      rw [this]; exact hz
theorem aL7 (B:Nat) (d:Int) (m:Int) (hm:m≤3) (H:∀ c,okCur c→Yes (nI c (IntKind.wrap .i64 (d - 1))) (okE B)) (c:aJ) (h:okCur c):Yes (nP c d m) (okKs B):=by
  rw [nP]
  exact aYa B d m hm H m.toNat 0 c.b c.i c.h [] (by omega) (by omega) (by omega) (by simp) (by simp) h
def okP (B:Nat) (r:aV×aJ):Prop:=(okGPlan r.1∧gL r.1≤40+8 * B∧0<r.1.items.length)∧okCur r.2
def pT (n:Int) (t:List Int):Prop:=(t.length:Int)≤n∧∀ x ∈ t,okI x
def pO (n:Int) (B:Nat) (o:List (List aB)):Prop:=(o.length:Int)≤n∧∀ l ∈ o,l.length≤1∧∀ y ∈ l,FE B y
def pL (n:Int) (B:Nat) (l:List aB):Prop:=(l.length:Int)≤n∧∀ y ∈ l,FE B y
def pN (n:Int) (l:List (List UInt8)):Prop:=(l.length:Int)≤n∧∀ s ∈ l,s.length≤8
def pK (B:Nat) (l:List bH):Prop:=l.length≤1∧∀ k ∈ l,FE B k.expr
theorem mem1 {α:Type} {x:α} {p:α→Prop} (hx:p x):∀ y ∈ [x],p y:=fun y hy=>by
  have:y=x:=by simpa using hy
  rw [this]; exact hx
theorem vE {α:Type} {l:List α} {x:α} {p:α→Prop} (h:∀ y ∈ l,p y) (hx:p x):∀ y ∈ l++[x],p y:=fun y hy=>by
  rcases List.mem_append.1 hy with hy | hy
  · exact h y hy
  · have:y=x:=by simpa using hy
    rw [this]; exact hx
theorem mkP {B : Nat} {t : List Int} {o : List (List aB)} {w i : List aB} {r : List bH} {n : List (List UInt8)} {d : Bool} {l : Int} (ht : pT 2 t) (ho : pO 2 B o) (hw : pL 3 B w) (hr : pK B r) (hi : pL 2 B i) (hn : pN 2 n) (hl : okI l) (hi0 : 0 < i.length) :
    okGPlan (aV.mk t o w r i n d l)∧gL (aV.mk t o w r i n d l)≤40+8 * B∧0<(aV.mk t o w r i n d l).items.length:=by
  obtain ⟨t1,t2⟩:=ht
  obtain ⟨o1,o2⟩:=ho
  obtain ⟨w1,w2⟩:=hw
  obtain ⟨r1,r2⟩:=hr
  obtain ⟨i1,i2⟩:=hi
  obtain ⟨n1,n2⟩:=hn
  refine ⟨?_,?_,hi0⟩
  · unfold okGPlan
    exact ⟨⟨by omega,t2⟩,⟨by omega,okLLX_of fun y hy=>⟨by have:=(o2 y hy).1; omega,fun x hx=>((o2 y hy).2 x hx).1⟩⟩,⟨by omega,okLX_of fun y hy=>(w2 y hy).1⟩,⟨by omega,okLK_of fun y hy=>(r2 y hy).1⟩,⟨by omega,okLX_of fun y hy=>(i2 y hy).1⟩,⟨by omega,fun s hs=>by have:=n2 s hs; unfold okS; omega⟩,trivial,hl⟩
  · have e1:gL (aV.mk t o w r i n d l)=zL z0 t+zL (zL bU) o+zL bU w+zL lC r+zL bU i+zL List.length n:=by simp only [gL,vK,aAk,aAu,zL]
    have a1:=uL (z:=z0) (B:=0) (n:=2) (l:=t) (by omega) (fun _ _=>by simp [z0])
    have a2:=uL (z:=zL bU) (B:=1 * (1+B)) (n:=2) (l:=o) (by omega) (fun y hy=>uL (o2 y hy).1 fun x hx=>((o2 y hy).2 x hx).2)
    have a3:=uL (z:=bU) (B:=B) (n:=3) (l:=w) (by omega) (fun y hy=>(w2 y hy).2)
    have a4:=uL (z:=lC) (B:=B) (n:=1) (l:=r) (by omega) (fun y hy=>by have:=(r2 y hy).2; obtain ⟨p,q⟩:=y; simpa only [lC] using this)
    have a5:=uL (z:=bU) (B:=B) (n:=2) (l:=i) (by omega) (fun y hy=>(i2 y hy).2)
    have a6:=uL (z:=List.length) (B:=8) (n:=2) (l:=n) (by omega) n2
    rw [e1]; omega
theorem aPc {B:Nat} {d:Int} (H:∀ c,okCur c→Yes (nI c d) (okE B)) (HK:∀ c,okCur c→Yes (nP c (IntKind.wrap .i64 (d+1)) 1) (okKs B)) (c:aJ) (h:okCur c):Yes (uO c d) (okP B):=by
  have J4:∀ y1 (w:List aB) n i o t b j g r,pL 3 B w→pN 2 n→pL 2 B i→0<i.length→pO 2 B o→pT 2 t→pK B r→okCur ⟨b,j,g⟩→Yes (K8 y1 w n i o t b j g r) (okP B):=fun y1 w n i o t b j g r hw hn hi hi0 ho ht hr k=>by
    unfold K8 X0
    refine Yes.bind (nD _ _ k) fun q k=>Yes.ite (fun _=>?_) fun _=>?_
    · exact Yes.bind (tK _ k) fun q ⟨hq,k⟩=>Yes.some ⟨mkP ht ho hw hr hi hn hq hi0,k⟩
    · exact Yes.some ⟨mkP ht ho hw hr hi hn (okI_small (by omega) (by omega)) hi0,k⟩
  have J3:∀ y1 n i o t b j g (w:List aB),pL 3 B w→pN 2 n→pL 2 B i→0<i.length→pO 2 B o→pT 2 t→okCur ⟨b,j,g⟩→Yes (zW d y1 n i o t (b,(j,(g,w)))) (okP B):=fun y1 n i o t b j g w hw hn hi hi0 ho ht k=>by
    rw [zW]
    refine Yes.bind (nD _ _ k) fun q k=>Yes.ite (fun _=>?_) fun _=>?_
    · refine Yes.bind (H _ k) fun q ⟨hq,k⟩=>Yes.bind (nD _ _ k) fun q2 k=>Yes.bind (oG (by simp)) fun z hz=>?_
      subst hz
      exact J4 _ _ _ _ _ _ _ _ _ _ hw hn hi hi0 ho ht ⟨by simp,mem1 (p:=fun (k:bH)=>FE B k.expr) hq⟩ k
    · exact J4 _ _ _ _ _ _ _ _ _ _ hw hn hi hi0 ho ht ⟨by simp,by simp⟩ k
  have L2:∀ (y12:Int×aJ) y1 o t,0≤y12.1→y12.1<2→pO 2 B o→pT 2 t→∀ (m:Nat) (x:Int) b j g n i,2≤m+x→0≤x→x≤2→pN x n→pL x B i→x≤i.length→okCur ⟨b,j,g⟩→Yes (xG d y12 y1 o t x (b,(j,(g,(n,i))))) (okP B):=by
    intro y12 y1 o t y0 y2 ho ht m
    have e0:IntKind.wrap .i64 (1+y12.1)=1+y12.1:=fB (by omega) (by omega)
    have fin:∀ (x:Int) b j g n i,¬ x<1+y12.1→x≤2→pN x n→pL x B i→x≤i.length→okCur ⟨b,j,g⟩→Yes (xG d y12 y1 o t x (b,(j,(g,(n,i))))) (okP B):=by
      intro x b j g n i hx h2 hn hi hi0 k
      have hi0':0<i.length:=by omega
      rw [xG,e0,if_neg (by simpa using hx)]
      have hn2:pN 2 n:=⟨by have:=hn.1; omega,hn.2⟩
      have hi2:pL 2 B i:=⟨by have:=hi.1; omega,hi.2⟩
      refine Yes.bind (nD _ _ k) fun q k=>Yes.ite (fun _=>?_) fun _=>?_
      · exact Yes.bind (HK _ k) fun q ⟨⟨q1,q2⟩,k⟩=>J3 _ _ _ _ _ _ _ _ _ ⟨by omega,q2⟩ hn2 hi2 hi0' ho ht k
      · exact J3 _ _ _ _ _ _ _ _ _ ⟨by simp,by simp⟩ hn2 hi2 hi0' ho ht k
    induction m with
    | zero=>intro x b j g n i h1 h2 h3 hn hi hi0 k; exact fin x b j g n i (by omega) h3 hn hi hi0 k
    | succ m ih =>
      intro x b j g n i h1 h2 h3 hn hi hi0 k
      by_cases hx:x<1+y12.1
      · rw [xG,e0,if_pos (by simpa using hx)]
        have l1:=hn.1
        have l2:=hi.1
        refine Yes.bind (H _ k) fun q ⟨hq,k⟩=>Yes.bind (oG (by simp; omega)) fun z hz=>Yes.bind (aLz _ k) fun s ⟨hs,k⟩=>Yes.bind (oG (by simp; omega)) fun z2 hz2=>?_
        subst hz hz2
        rw [fB (by omega) (by omega)]
        exact ih _ _ _ _ _ _ (by omega) (by omega) (by omega) ⟨by simp; omega,vE hn.2 hs⟩ ⟨by simp; omega,vE hi.2 hq⟩ (by simp; omega) k
      · exact fin x b j g n i hx h3 hn hi hi0 k
  have L0:∀ (y2:Int×aJ) y1,0≤y2.1→y2.1<2→∀ (m:Nat) (x:Int) b j g o t,2≤m+x→0≤x→x≤2→pO x B o→pT x t→okCur ⟨b,j,g⟩→Yes (wX d y2 y1 x b j (g,(o,t))) (okP B):=by
    intro y2 y1 y0 yl m
    have e0:IntKind.wrap .i64 (1+y2.1)=1+y2.1:=fB (by omega) (by omega)
    have fin:∀ (x:Int) b j g o t,¬ x<1+y2.1→x≤2→pO x B o→pT x t→okCur ⟨b,j,g⟩→Yes (wX d y2 y1 x b j (g,(o,t))) (okP B):=by
      intro x b j g o t hx h2 ho ht k
      rw [wX,e0,if_neg (by simpa using hx)]
      refine Yes.bind (jP _ _ k) fun q ⟨q0,q1,k⟩=>?_
      exact L2 q y1 o t q0 (q1 (by decide)) ⟨by have:=ho.1; omega,ho.2⟩ ⟨by have:=ht.1; omega,ht.2⟩ 2 0 _ _ _ _ _ (by omega) (by omega) (by omega) ⟨by simp,by simp⟩ ⟨by simp,by simp⟩ (by simp) k
    induction m with
    | zero=>intro x b j g o t h1 h2 h3 ho ht k; exact fin x b j g o t (by omega) h3 ho ht k
    | succ m ih =>
      intro x b j g o t h1 h2 h3 ho ht k
      by_cases hx:x<1+y2.1
      · rw [wX,e0,if_pos (by simpa using hx)]
        have l1:=ho.1
        have l2:=ht.1
        have J1:∀ (q:Int) (w:List aB) b j g,okI q→w.length≤1→(∀ y ∈ w,FE B y)→okCur ⟨b,j,g⟩→Yes (J8 d y2 x y1 (t++[q]) o (b,(j,(g,w)))) (okP B):=fun q w b j g hq hw1 hw2 k=>by
          rw [J8]
          refine Yes.bind (oG (by simp; omega)) fun z hz=>?_
          subst hz
          rw [fB (by omega) (by omega)]
          exact ih _ _ _ _ _ _ (by omega) (by omega) (by omega) ⟨by simp; omega,vE ho.2 ⟨hw1,hw2⟩⟩ ⟨by simp; omega,vE ht.2 hq⟩ k
        refine Yes.bind (jP _ _ k) fun q ⟨q0,q1,k⟩=>Yes.bind (oG (by simp; omega)) fun z hz=>Yes.bind (aD8 _ _ _ _ k) fun q2 k=>Yes.bind (Q:=fun _=>True) ⟨_,rfl,trivial⟩ fun _ _=>?_
        have hq:=q1 (by decide)
        subst hz
        refine Yes.ite (fun _=>?_) fun _=>?_
        · refine Yes.bind (H _ k) fun e ⟨he,k⟩=>Yes.bind (oG (by simp)) fun z hz=>?_
          subst hz
          exact J1 _ _ _ _ _ (okI_small (by omega) (by omega)) (by simp) (mem1 he) k
        · exact J1 _ _ _ _ _ (okI_small (by omega) (by omega)) (by simp) (by simp) k
      · exact fin x b j g o t hx h3 ho ht k
  rw [uO]
  refine Yes.bind (nD _ _ h) fun y1 k=>Yes.bind (jP _ _ k) fun y2 ⟨q0,q1,k⟩=>?_
  exact L0 y2 y1 q0 (q1 (by decide)) 2 0 _ _ _ _ _ (by omega) (by omega) (by omega) ⟨by simp,by simp⟩ ⟨by simp,by simp⟩ k
theorem aWd {α β:Type} {b:Nat} {acc:List α} {z v:α} {k:List α→Option β}:((appG b acc [z]).bind fun y2=>(idx y2 (acc.length:Int)).bind fun _=>k (y2.set ((acc.length:Int)).toNat v))=((appG b acc [v]).bind k):=by
  unfold appG
  by_cases h:(acc.length+1) * b≤140737488355328
  · rw [if_pos (by simpa using h),if_pos (by simpa using h)]; simp [aNc]
  · rw [if_neg (by simpa using h),if_neg (by simpa using h)]; rfl
def QX (v:aB) (u:List UInt8):Prop:=u.length≤1048576→bU v+1≤u.length∧okGPExpr v∧u=toB (eX v)
def QP (v:aV) (u:List UInt8):Prop:=u.length≤1048576→gL v+1≤u.length∧okGPlan v∧u=toB (eP v)
def QL (v:List aB) (u:List UInt8):Prop:=u.length≤1048576→zL bU v+1≤u.length∧(∀ x ∈ v,okGPExpr x)∧u=toB (nV v)
def QK (v:bH) (u:List UInt8):Prop:=u.length≤1048576→lC v+1≤u.length∧okGPSort v∧u=toB (uQ v)
def GE (s:List UInt8) (m:Nat):Prop:=qH s m QX (fun st=>uD st) (fun st=>vM st)
def GP (s:List UInt8) (m:Nat):Prop:=qH s m QP (fun st=>pX st) (fun st=>tH st)
theorem aEo {ι:Type} {s:List UInt8} (hs:s.length≤1048576) {m n:Nat} (hn:n≤m+1) (h:GE s m):RP s n (fun (_:ι)=>QL) (fun _ st=>nT st) (fun _ st=>jY st):=by
  refine (RP.list (ι:=ι) (m:=m) (R:=List aB) (f:=fun st=>uD st) (g:=fun st=>vM st) (by':=120) (e:=eX) (ok:=okGPExpr) (z:=bU) (LS:=fun _ _ y k acc st=>xC y acc k st.s st.at_ st.bad) (KS:=fun _ _ acc st=>some (acc,st))
    (LI:=fun _ _ x st acc=>(xI x st.s st.at_ st.failed acc).bind fun y=>some (y.2,y.1)) (KI:=fun _ _ acc st=>some (acc,st)) hn h (fun _ _ hl h=>h hl) hs (by omega) (fun _ _ y k acc st=>?_) (fun _ _ x st acc=>?_) (RP.pure ?_)).congr (fun _ st=>?_) (fun _ st=>?_)
  · show xC _ _ _ _ _ _=_
    rw [xC]
  · show (xI _ _ _ _ _).bind _=_
    rw [xI]
    simp only [Option.bind_eq_bind,Option.bind_some,P8,aEa,Option.bind_assoc]
    split
    · split
      · refine congrArg (Option.bind _) (funext fun y3=>?_)
        exact aWd (k:=fun y=>(xI _ _ _ _ y).bind _)
      · rfl
    · rfl
  · intro i d1 h1 h2 h3 _; rw [List.append_nil]; exact ⟨h1,h2,h3⟩
  · rw [nT]
  · rw [jY,aCy]
    simp only [Option.bind_eq_bind,Option.bind_assoc]
theorem bD3 {ι : Type} {s : List UInt8} (hs : s.length ≤ 1048576) {m : Nat} (hP : GP s m) (Y1 Y2 : ι → Int × aY) (Y3 : ι → Bool × aY) (Y4 Y5 : ι → Int × aY) (Y6 : ι → List UInt8 × aY) (Y7 Y8 : ι → Int × aY) (Y9 : ι → aY → List aB × aY) (k9 : ι → List aB)
    (h9:∀ i st,(Y9 i st).1=k9 i) (Q:ι→aB→List UInt8→Prop) (hQ:∀ i l (d1:List UInt8),zL gL l+1≤d1.length→(∀ x ∈ l,okGPlan x)→d1=toB (gN (l.length:Int)++l.flatMap eP)→Q i (aB.mk (Y1 i).1 (Y2 i).1 (Y3 i).1 (bN.mk (Y4 i).1 (Y5 i).1 (Y6 i).1) (Y7 i).1 (Y8 i).1 (k9 i) l) d1) :
    RP s m Q (fun i st=>iA st>>=fun y10=>vZ y10 (Y1 i) (Y2 i) (Y3 i) (Y4 i) (Y5 i) (Y6 i,(Y7 i,(Y8 i,(Y9 i st,(0,([],(y10.2.s,(y10.2.at_,y10.2.bad)))))))))
      (fun i st=>Z5 st (Y1 i).1 (Y2 i).1 (Y3 i).1 (Y4 i).1 (Y5 i).1 ((Y6 i).1,((Y7 i).1,((Y8 i).1,k9 i)))>>=fun y10=>some (aB.mk y10.2.1 y10.2.2.1 y10.2.2.2.1 (bN.mk y10.2.2.2.2.1 y10.2.2.2.2.2.1 y10.2.2.2.2.2.2.1) y10.2.2.2.2.2.2.2.1 y10.2.2.2.2.2.2.2.2.1 (k9 i) y10.2.2.2.2.2.2.2.2.2,y10.1)):=by
  refine (RP.list (ι:=ι) (m:=m) (R:=aB) (f:=fun st=>pX st) (g:=fun st=>tH st) (by':=160) (z:=gL) (e:=eP) (ok:=okGPlan) (LS:=fun i t y k acc st=>vZ y (Y1 i) (Y2 i) (Y3 i) (Y4 i) (Y5 i) (Y6 i,(Y7 i,(Y8 i,(Y9 i t,(k,(acc,(st.s,(st.at_,st.bad)))))))))
    (KS:=fun i t acc st=>some (aB.mk (Y1 i).1 (Y2 i).1 (Y3 i).1 (bN.mk (Y4 i).1 (Y5 i).1 (Y6 i).1) (Y7 i).1 (Y8 i).1 (Y9 i t).1 acc,st))
    (LI:=fun i t x st acc=>(zF (k9 i) x st.s st.at_ st.failed (Y1 i).1 ((Y2 i).1,((Y3 i).1,((Y4 i).1,((Y5 i).1,((Y6 i).1,((Y7 i).1,((Y8 i).1,acc)))))))).bind fun y10=>some (aB.mk y10.2.1 y10.2.2.1 y10.2.2.2.1 (bN.mk y10.2.2.2.2.1 y10.2.2.2.2.2.1 y10.2.2.2.2.2.2.1) y10.2.2.2.2.2.2.2.1 y10.2.2.2.2.2.2.2.2.1 (k9 i) y10.2.2.2.2.2.2.2.2.2,y10.1))
    (KI:=fun i t acc st=>some (aB.mk (Y1 i).1 (Y2 i).1 (Y3 i).1 (bN.mk (Y4 i).1 (Y5 i).1 (Y6 i).1) (Y7 i).1 (Y8 i).1 (k9 i) acc,st)) (by omega) hP (fun _ _ hl h=>h hl) hs (by omega) (fun _ _ y k acc st=>?_) (fun _ _ x st acc=>?_) ?_).congr (fun _ st=>rfl) (fun _ st=>?_)
  · show vZ _ _ _ _ _ _ _=_
    rw [vZ]
  · show (zF _ _ _ _ _ _ _).bind _=_
    rw [zF]
    simp only [Option.bind_eq_bind,Option.bind_some,P8,aC0,Option.bind_assoc]
  · simp only [h9]
    exact RP.pure fun i d1 h1 h2 h3=>by have:=hQ i.1.1 i.1.2 d1 h1 h2 h3; simpa using this
  · rw [Z5]
    simp only [Option.bind_eq_bind,Option.bind_assoc]
theorem aSs {a b : Int} {q : Bool} {c d : Int} {t : List UInt8} {e f : Int} {ks : List aB} {l : List aV} {u1 u2 u3 u4 u5 u6 u7 u8 u9 u : List UInt8} (h1 : QN a u1) (h2 : QN b u2) (h3 : QF q u3) (h4 : QN c u4) (h5 : QN d u5) (h6 : QT t u6) (h7 : QN e u7) (h8 : QN f u8) (h9 : QL ks u9)
    (hl:zL gL l+1≤u.length) (hok:∀ x ∈ l,okGPlan x) (hd:u=toB (gN (l.length:Int)++l.flatMap eP)):QX (aB.mk a b q (bN.mk c d t) e f ks l) (u1++(u2++(u3++(u4++(u5++(u6++(u7++(u8++(u9++u))))))))):=by
  intro hlen
  simp only [List.length_append] at hlen ⊢
  obtain ⟨k1,k2,k3⟩:=h9 (by omega)
  have e0:bU (aB.mk a b q (bN.mk c d t) e f ks l)=t.length+zL bU ks+zL gL l:=by simp only [bU,aDu,vK,aCd,zL]
  have hp:=h1.pos
  have ht:=h6.1
  have hk:ks.length+(ks.map bU).sum=zL bU ks:=rfl
  have hs:l.length+(l.map gL).sum=zL gL l:=rfl
  have ov:okGValue (bN.mk c d t):=⟨h4.1,h5.1,by show t.length≤_; omega⟩
  have ok:okGPExpr (aB.mk a b q (bN.mk c d t) e f ks l):=mkE h1.1 h2.1 ov h7.1 h8.1 (by omega) k2 (by omega) hok
  refine ⟨by rw [e0]; omega,ok,?_⟩
  have hc:=(aMm _ ok (by rw [e0]; omega) (fun y (hy:y ∈ ks)=>(D8 _).1 y (k2 y hy) (Nat.lt_succ_self _) (by have:=kH (z:=bU) hy; omega)) (fun y (hy:y ∈ l)=>(D8 _).2 y (hok y hy) (Nat.lt_succ_self _) (by have:=kH (z:=gL) hy; omega))).2
  rw [hc,h1.2,h2.2,(show u3=toB (tL q) from h3),h4.2,h5.2,h6.2,h7.2,h8.2,k3,hd]
  simp only [wR,List.append_assoc]
theorem aY9 {s:List UInt8} (hs:s.length≤1048576) {m:Nat} (hE:GE s m) (hP:GP s m):GE s (m+1):=by
  have key:RP (ι:=Unit) s (m+1) (fun _=>QX) (fun _ st=>uD st) (fun _ st=>vM st):=by
    refine RP.congr (f:=fun _ st=>_) (g:=fun _ st=>_) ?_ (fun _ st=>by rw [uD]) (fun _ st=>by rw [vM])
    refine RP.bind1 (wJ hs) (fun _ _ _ h=>h.pos) ?_; dsimp only
    refine RP.bind (wJ hs) ?_; dsimp only
    refine RP.bind (aGb hs) ?_; dsimp only
    refine RP.bind (wJ hs) ?_; dsimp only
    refine RP.bind (wJ hs) ?_; dsimp only
    refine RP.bind (aRo hs) ?_; dsimp only
    refine RP.bind (wJ hs) ?_; dsimp only
    refine RP.bind (wJ hs) ?_; dsimp only
    refine RP.bind (aEo hs (by omega) hE) ?_; dsimp only
    refine bD3 hs hP _ _ _ _ _ _ _ _ _ _ ?_ _ ?_
    · intro _ _; rfl
    intro i l d hl hok hd d1 h1 d2 h2 d3 h3 d4 h4 d5 h5 d6 h6 d7 h7 d8 h8 d9 h9
    exact aSs h9 h8 h7 h6 h5 h4 h3 h2 h1 hl hok hd
  exact key.good ()
def QNs (l:List (List UInt8)) (u:List UInt8):Prop:=zL List.length l+1≤u.length∧u=toB (gN (l.length:Int)++l.flatMap oQ)
theorem bBg {ι : Type} {s : List UInt8} (hs : s.length ≤ 1048576) {m : Nat} (b0 : ι → List Int) (b1 : ι → List (List aB)) (y12 : ι → List aB × aY) (b3 : ι → List bH) (y21 : ι → aY → List aB × aY) (k21 : ι → List aB) (c6 : ι → Bool) (c7 : ι → Int)
    (h21:∀ i st,(y21 i st).1=k21 i) (Q:ι→aV→List UInt8→Prop) (hQ:∀ i l f n u1 u2 u3,QNs l u1→QF f u2→QN n u3→Q i (aV.mk (b0 i) (b1 i) (y12 i).1 (b3 i) (k21 i) l f n) (u1++(u2++u3))) :
    RP s m Q (fun i st=>iA st>>=fun y22=>pY y22 (b0 i) (b1 i) (y12 i) (b3 i) (y21 i st) 0 ([]:List (List UInt8)) y22.2.s y22.2.at_ y22.2.bad)
      (fun i st=>nH st (b0 i) (b1 i) (y12 i).1 (b3 i) (k21 i) (c6 i) (c7 i)>>=fun y6=>iI y6.1>>=fun y7=>fP y7.2>>=fun y8=>some (aV.mk (b0 i) (b1 i) (y12 i).1 (b3 i) (k21 i) y6.2.2.2 y7.1 y8.1,y8.2)):=by
  refine (RP.list (ι:=ι) (m:=m) (R:=aV) (f:=fun st=>mI st) (g:=fun st=>mO st) (by':=16) (z:=List.length) (e:=oQ) (ok:=fun _=>True) (LS:=fun i t y k acc st=>pY y (b0 i) (b1 i) (y12 i) (b3 i) (y21 i t) k acc st.s st.at_ st.bad)
    (KS:=fun i t acc st=>jO st>>=fun y29=>iC y29.2>>=fun y30=>some (aV.mk (b0 i) (b1 i) (y12 i).1 (b3 i) (y21 i t).1 acc y29.1 y30.1,y30.2))
    (LI:=fun i t x st acc=>(wW (b0 i) (b1 i) (y12 i).1 (b3 i) (k21 i) x st.s st.at_ st.failed (c6 i) (c7 i) acc).bind fun y6=>iI y6.1>>=fun y7=>fP y7.2>>=fun y8=>some (aV.mk (b0 i) (b1 i) (y12 i).1 (b3 i) (k21 i) y6.2.2.2 y7.1 y8.1,y8.2))
    (KI:=fun i t acc st=>iI st>>=fun y7=>fP y7.2>>=fun y8=>some (aV.mk (b0 i) (b1 i) (y12 i).1 (b3 i) (k21 i) acc y7.1 y8.1,y8.2)) (by omega) ((aRo (ι:=Unit) hs).good ()) (fun _ _ _ h=>⟨h.1,trivial,h.2⟩) hs (by omega) (fun _ _ y k acc st=>?_) (fun _ _ x st acc=>?_) ?_).congr (fun _ st=>rfl) (fun _ st=>?_)
  · show pY _ _ _ _ _ _ _ _ _ _ _=_
    rw [pY]
  · show (wW _ _ _ _ _ _ _ _ _ _ _ _).bind _=_
    rw [wW]
    simp only [Option.bind_eq_bind,Option.bind_some,P8,aAd,Option.bind_assoc]
  · simp only [h21]
    refine RP.bind (aGb hs) ?_; dsimp only
    refine RP.bind (wJ hs) ?_
    refine RP.congr (RP.pure (v:=fun i=>aV.mk (b0 i.1.1.1.1.1.1) (b1 i.1.1.1.1.1.1) (y12 i.1.1.1.1.1.1).1 (b3 i.1.1.1.1.1.1) (k21 i.1.1.1.1.1.1) i.1.1.1.1.1.2 i.1.1.1.2 i.1.2) ?_) (fun _ _=>rfl) (fun _ _=>rfl)
    intro i d1 h1 d2 h2 d3 h3 _ h4
    have:=hQ i.1.1.1.1.1.1 i.1.1.1.1.1.2 _ _ _ _ _ ⟨h3,h4⟩ h2 h1
    simpa using this
  · rw [nH]
    simp only [Option.bind_eq_bind,Option.bind_assoc]
def QKs (l:List bH) (u:List UInt8):Prop:=zL lC l+1≤u.length∧(∀ x ∈ l,okGPSort x)∧u=toB (gN (l.length:Int)++l.flatMap uQ)
theorem bDd {ι : Type} {s : List UInt8} (hs : s.length ≤ 1048576) {m : Nat} (hE : GE s m) (b0 : ι → List Int) (b1 : ι → List (List aB)) (y12 : ι → aY → List aB × aY) (k12 : ι → List aB) (c6 : ι → Bool) (c7 : ι → Int)
    (h12:∀ i st,(y12 i st).1=k12 i) (Q:ι→aV→List UInt8→Prop) (hQ:∀ i o w l f n u1 u2 u3 u4 u5,QKs o u1→QL w u2→QNs l u3→QF f u4→QN n u5→Q i (aV.mk (b0 i) (b1 i) (k12 i) o w l f n) (u1++(u2++(u3++(u4++u5))))) :
    RP s m Q (fun i st=>iA st>>=fun y13=>qB y13 (b0 i) (b1 i) (y12 i st) 0 ([]:List bH) (y13.2.s,(y13.2.at_,y13.2.bad)))
      (fun i st=>sF st (b0 i) (b1 i) (k12 i) (c6 i) (c7 i)>>=fun y4=>jY y4.1>>=fun y5=>nH y5.2 (b0 i) (b1 i) (k12 i) y4.2.2.2 y5.1 y4.2.1 y4.2.2.1>>=fun y6=>iI y6.1>>=fun y7=>fP y7.2>>=fun y8=>some (aV.mk (b0 i) (b1 i) (k12 i) y4.2.2.2 y5.1 y6.2.2.2 y7.1 y8.1,y8.2)):=by
  refine (RP.list (ι:=ι) (m:=m) (R:=aV) (f:=fun st=>(uD st)>>=fun y18=>(jO y18.2)>>=fun y19=>some (bH.mk y18.1 y19.1,y19.2)) (g:=fun st=>(vM st)>>=fun y18=>(iI y18.2)>>=fun y19=>some (bH.mk y18.1 y19.1,y19.2)) (by':=128) (z:=lC) (e:=uQ) (ok:=okGPSort)
    (LS:=fun i t y k acc st=>qB y (b0 i) (b1 i) (y12 i t) k acc (st.s,(st.at_,st.bad)))
    (KS:=fun i t acc st=>nT st>>=fun y21=>iA y21.2>>=fun y22=>pY y22 (b0 i) (b1 i) (y12 i t) acc y21 0 ([]:List (List UInt8)) y22.2.s y22.2.at_ y22.2.bad)
    (LI:=fun i t x st acc=>(xY (b0 i) (b1 i) (k12 i) x st.s st.at_ (st.failed,(c6 i,(c7 i,acc)))).bind fun y4=>jY y4.1>>=fun y5=>nH y5.2 (b0 i) (b1 i) (k12 i) y4.2.2.2 y5.1 y4.2.1 y4.2.2.1>>=fun y6=>iI y6.1>>=fun y7=>fP y7.2>>=fun y8=>some (aV.mk (b0 i) (b1 i) (k12 i) y4.2.2.2 y5.1 y6.2.2.2 y7.1 y8.1,y8.2))
    (KI:=fun i t acc st=>jY st>>=fun y5=>nH y5.2 (b0 i) (b1 i) (k12 i) acc y5.1 (c6 i) (c7 i)>>=fun y6=>iI y6.1>>=fun y7=>fP y7.2>>=fun y8=>some (aV.mk (b0 i) (b1 i) (k12 i) acc y5.1 y6.2.2.2 y7.1 y8.1,y8.2)) (by omega) (Qe:=QK) ?_ (fun _ _ hl h=>h hl) hs (by omega) (fun _ _ y k acc st=>?_) (fun _ _ x st acc=>?_) ?_).congr (fun _ st=>rfl) (fun _ st=>?_)
  · intro a ha hm
    have hf:=fun b hb (hmb:s.length - b<m)=>(aGb (ι:=Unit) hs (m:=m)).good () b hb hmb
    rcases hE a ha hm with ⟨v,b,e1,e2,k1,k2,k3⟩ | ⟨v,v',b,b',e1,e2,k⟩
    · dsimp only at e1 e2
      simp only [e1,e2,Option.bind_eq_bind,Option.bind_some]
      rcases hf b k2 (by omega) with ⟨w,c,j1,j2,j3,j4,j5⟩ | ⟨w,w',c,c',j1,j2,j3⟩
      · dsimp only at j1 j2
        refine .inl ⟨bH.mk v w,c,by simp [j1],by simp [j2],by omega,j4,fun hl=>?_⟩
        have:lC (bH.mk v w)=bU v:=by simp only [lC]
        obtain ⟨q1,q2,q3⟩:=k3 (by rw [oV k2]; omega)
        rw [oV k2] at q1
        refine ⟨by rw [this,oV j4]; omega,by unfold okGPSort; exact ⟨q2,trivial⟩,?_⟩
        rw [← M0 k1 j3,q3,(show seg s b c=toB (tL w) from j5)]
        simp only [uQ,wR]
      · dsimp only at j1 j2
        exact .inr ⟨bH.mk v w,bH.mk v w',c,c',by simp [j1],by simp [j2],j3⟩
    · dsimp only at e1 e2
      simp only [e1,e2,Option.bind_eq_bind,Option.bind_some]
      obtain ⟨w,hw⟩:=(aCi s hs).1 b
      obtain ⟨w',hw'⟩:=(aCi s hs).2 b' k
      dsimp only at hw hw'
      exact .inr ⟨bH.mk v w,bH.mk v' w',b,b',by simp [hw],by simp [hw'],k⟩
  · show qB _ _ _ _ _ _ _=_
    rw [qB]
    simp only [Option.bind_eq_bind,Option.bind_assoc,Option.bind_some]
  · show (xY _ _ _ _ _ _ _).bind _=_
    rw [xY]
    simp only [Option.bind_eq_bind,Option.bind_some,P8,aBh,Option.bind_assoc]
  · refine RP.bind (aEo hs (by omega) hE) ?_; dsimp only
    refine (bBg hs (fun i=>b0 i.1.1.1.1) (fun i=>b1 i.1.1.1.1) (fun i=>(y12 i.1.1.1.1 i.1.1.2.1)) (fun i=>i.1.1.1.2) (fun i st=>(i.1.2,st)) (fun i=>i.1.2) (fun i=>c6 i.1.1.1.1) (fun i=>c7 i.1.1.1.1) (fun _ _=>rfl) _ ?_).congr (fun _ _=>rfl) (fun i _=>by simp only [h12])
    intro i l f n u1 u2 u3 h1 h2 h3 d4 h4 d5 h5 h6 h7
    rw [h12]
    have:=hQ i.1.1.1.1 i.1.1.1.2 i.1.2 l f n _ _ _ _ _ ⟨h5,h6,h7⟩ h4 h1 h2 h3
    simpa using this
  · rw [sF]
    simp only [Option.bind_eq_bind,Option.bind_assoc]
def QLs (l:List (List aB)) (u:List UInt8):Prop:=zL (zL bU) l+1≤u.length∧(∀ x ∈ l,∀ y ∈ x,okGPExpr y)∧u=toB (gN (l.length:Int)++l.flatMap nV)
theorem aSn {ι : Type} {s : List UInt8} (hs : s.length ≤ 1048576) {m : Nat} (hE : GE s m) (b0 : ι → List Int) (c6 : ι → Bool) (c7 : ι → Int)
    (Q:ι→aV→List UInt8→Prop) (hQ:∀ i n w' o w l f k u1 u2 u3 u4 u5 u6 u7,QLs n u1→QL w' u2→QKs o u3→QL w u4→QNs l u5→QF f u6→QN k u7→Q i (aV.mk (b0 i) n w' o w l f k) (u1++(u2++(u3++(u4++(u5++(u6++u7))))))) :
    RP s m Q (fun i st=>iA st>>=fun y5=>rV y5 (b0 i) 0 ([]:List (List aB)) y5.2.s y5.2.at_ y5.2.bad)
      (fun i st=>zV st (b0 i) (c6 i) (c7 i)>>=fun y2=>jY y2.1>>=fun y3=>sF y3.2 (b0 i) y2.2.2.2 y3.1 y2.2.1 y2.2.2.1>>=fun y4=>jY y4.1>>=fun y5=>nH y5.2 (b0 i) y2.2.2.2 y3.1 y4.2.2.2 y5.1 y4.2.1 y4.2.2.1>>=fun y6=>iI y6.1>>=fun y7=>fP y7.2>>=fun y8=>some (aV.mk (b0 i) y2.2.2.2 y3.1 y4.2.2.2 y5.1 y6.2.2.2 y7.1 y8.1,y8.2)):=by
  refine (RP.list (ι:=ι) (m:=m) (R:=aV) (f:=fun st=>nT st) (g:=fun st=>jY st) (by':=24) (z:=zL bU) (e:=nV) (ok:=fun x=>∀ y ∈ x,okGPExpr y)
    (LS:=fun i t y k acc st=>rV y (b0 i) k acc st.s st.at_ st.bad)
    (KS:=fun i t acc st=>nT st>>=fun y12=>iA y12.2>>=fun y13=>qB y13 (b0 i) acc y12 0 ([]:List bH) (y13.2.s,(y13.2.at_,y13.2.bad)))
    (LI:=fun i t x st acc=>(yX (b0 i) x st.s st.at_ st.failed (c6 i) (c7 i,acc)).bind fun y2=>jY y2.1>>=fun y3=>sF y3.2 (b0 i) y2.2.2.2 y3.1 y2.2.1 y2.2.2.1>>=fun y4=>jY y4.1>>=fun y5=>nH y5.2 (b0 i) y2.2.2.2 y3.1 y4.2.2.2 y5.1 y4.2.1 y4.2.2.1>>=fun y6=>iI y6.1>>=fun y7=>fP y7.2>>=fun y8=>some (aV.mk (b0 i) y2.2.2.2 y3.1 y4.2.2.2 y5.1 y6.2.2.2 y7.1 y8.1,y8.2))
    (KI:=fun i t acc st=>jY st>>=fun y3=>sF y3.2 (b0 i) acc y3.1 (c6 i) (c7 i)>>=fun y4=>jY y4.1>>=fun y5=>nH y5.2 (b0 i) acc y3.1 y4.2.2.2 y5.1 y4.2.1 y4.2.2.1>>=fun y6=>iI y6.1>>=fun y7=>fP y7.2>>=fun y8=>some (aV.mk (b0 i) acc y3.1 y4.2.2.2 y5.1 y6.2.2.2 y7.1 y8.1,y8.2)) (by omega) ((aEo (ι:=Unit) hs (by omega) hE).good ()) (fun _ _ hl h=>h hl) hs (by omega) (fun _ _ y k acc st=>?_) (fun _ _ x st acc=>?_) ?_).congr (fun _ st=>rfl) (fun _ st=>?_)
  · show rV _ _ _ _ _ _ _=_
    rw [rV]
  · show (yX _ _ _ _ _ _ _).bind _=_
    rw [yX]
    simp only [Option.bind_eq_bind,Option.bind_some,P8,aD6,Option.bind_assoc]
  · refine RP.bind (aEo hs (by omega) hE) ?_; dsimp only
    refine (bDd hs hE (fun i=>b0 i.1.1.1.1) (fun i=>i.1.1.1.2) (fun i st=>(i.1.2,st)) (fun i=>i.1.2) (fun i=>c6 i.1.1.1.1) (fun i=>c7 i.1.1.1.1) (fun _ _=>rfl) _ ?_).congr (fun _ _=>rfl) (fun _ _=>rfl)
    intro i o w l f n u1 u2 u3 u4 u5 h1 h2 h3 h4 h5 d6 h6 d7 h7 h8 h9
    have:=hQ i.1.1.1.1 i.1.1.1.2 i.1.2 o w l f n _ _ _ _ _ _ _ ⟨h7,h8,h9⟩ h6 h1 h2 h3 h4 h5
    simpa using this
  · rw [zV]
    simp only [Option.bind_eq_bind,Option.bind_assoc]
theorem bDf {t : List Int} {n : List (List aB)} {w' w : List aB} {o : List bH} {l : List (List UInt8)} {f : Bool} {k : Int} {d1 u1 u2 u3 u4 u5 u6 u7 : List UInt8} (a1 : zL z0 t + 1 ≤ d1.length) (a2 : ∀ x ∈ t, okI x) (a3 : d1 = toB (gN (t.length : Int) ++ t.flatMap gN))
    (h1:QLs n u1) (h2:QL w' u2) (h3:QKs o u3) (h4:QL w u4) (h5:QNs l u5) (h6:QF f u6) (h7:QN k u7):QP (aV.mk t n w' o w l f k) (d1++(u1++(u2++(u3++(u4++(u5++(u6++u7))))))):=by
  intro hlen
  simp only [List.length_append] at hlen ⊢
  obtain ⟨b1,b2,b3⟩:=h1
  obtain ⟨c1,c2,c3⟩:=h2 (by omega)
  obtain ⟨e1,e2,e3⟩:=h3
  obtain ⟨g1,g2,g3⟩:=h4 (by omega)
  obtain ⟨i1,i3⟩:=h5
  have e0:gL (aV.mk t n w' o w l f k)=zL z0 t+zL (zL bU) n+zL bU w'+zL lC o+zL bU w+zL List.length l:=by simp only [gL,vK,aAk,aAu,zL]
  have k1:t.length≤zL z0 t:=by unfold zL; omega
  have k2:n.length+(n.map (zL bU)).sum=zL (zL bU) n:=rfl
  have k3:w'.length+(w'.map bU).sum=zL bU w':=rfl
  have k4:o.length+(o.map lC).sum=zL lC o:=rfl
  have k5:w.length+(w.map bU).sum=zL bU w:=rfl
  have k6:l.length+(l.map List.length).sum=zL List.length l:=rfl
  have oo:∀ y ∈ o,okGPExpr y.expr:=fun y hy=>by have:=e2 y hy; obtain ⟨p,q⟩:=y; unfold okGPSort at this; exact this.1
  have ol:∀ y ∈ l,okS y:=fun y hy=>by have:=kH (z:=List.length) hy; show y.length≤_; omega
  have on:∀ y ∈ n,y.length≤1048576∧∀ x ∈ y,okGPExpr x:=fun y hy=>by
    have q1:=kH (z:=zL bU) hy
    have q2:y.length≤zL bU y:=by unfold zL; omega
    exact ⟨by omega,b2 y hy⟩
  have ok:okGPlan (aV.mk t n w' o w l f k):=by
    unfold okGPlan
    exact ⟨⟨by omega,a2⟩,⟨by omega,okLLX_of on⟩,⟨by omega,okLX_of c2⟩,⟨by omega,okLK_of oo⟩,⟨by omega,okLX_of g2⟩,⟨by omega,ol⟩,trivial,h7.1⟩
  refine ⟨by rw [e0]; omega,ok,?_⟩
  have cX:∀ {l:List aB},zL bU l≤1048576→(∀ y ∈ l,okGPExpr y)→∀ y ∈ l,OkX y:=fun {l} hz h y hy=>(D8 _).1 y (h y hy) (Nat.lt_succ_self _) (by have:=kH (z:=bU) hy; unfold zL at hz; omega)
  have hc:=(aNf _ ok (by rw [e0]; omega) (fun y (hy:y ∈ n)=>cX (by have:=kH (z:=zL bU) hy; omega) (b2 y hy)) (cX (l:=w') (by omega) c2)
    (fun y (hy:y ∈ o)=>(D8 _).1 _ (oo y hy) (Nat.lt_succ_self _) (by have:=kH (z:=lC) hy; obtain ⟨p,q⟩:=y; simp only [lC] at this; show bU p≤_; omega)) (cX (l:=w) (by omega) g2)).2
  rw [hc,a3,b3,c3,e3,g3,i3,(show u6=toB (tL f) from h6),h7.2]
  simp only [wR,List.append_assoc]
theorem bEc {s:List UInt8} (hs:s.length≤1048576) {m:Nat} (hE:GE s m):GP s (m+1):=by
  have key:RP (ι:=Unit) s (m+1) (fun _=>QP) (fun _ st=>pX st) (fun _ st=>tH st):=by
    refine (RP.list (ι:=Unit) (m:=m) (R:=aV) (f:=fun st=>iC st) (g:=fun st=>fP st) (by':=8) (z:=z0) (Qe:=QN) (e:=gN) (ok:=okI)
      (LS:=fun i t y k acc st=>vT y k acc st.s st.at_ st.bad)
      (KS:=fun i t acc st=>iA st>>=fun y5=>rV y5 acc 0 ([]:List (List aB)) y5.2.s y5.2.at_ y5.2.bad)
      (LI:=fun i t x st acc=>(wP x st.s st.at_ st.failed false 0 acc).bind fun y1=>zV y1.1 y1.2.2.2 y1.2.1 y1.2.2.1>>=fun y2=>jY y2.1>>=fun y3=>sF y3.2 y1.2.2.2 y2.2.2.2 y3.1 y2.2.1 y2.2.2.1>>=fun y4=>jY y4.1>>=fun y5=>nH y5.2 y1.2.2.2 y2.2.2.2 y3.1 y4.2.2.2 y5.1 y4.2.1 y4.2.2.1>>=fun y6=>iI y6.1>>=fun y7=>fP y7.2>>=fun y8=>some (aV.mk y1.2.2.2 y2.2.2.2 y3.1 y4.2.2.2 y5.1 y6.2.2.2 y7.1 y8.1,y8.2))
      (KI:=fun i t acc st=>zV st acc false 0>>=fun y2=>jY y2.1>>=fun y3=>sF y3.2 acc y2.2.2.2 y3.1 y2.2.1 y2.2.2.1>>=fun y4=>jY y4.1>>=fun y5=>nH y5.2 acc y2.2.2.2 y3.1 y4.2.2.2 y5.1 y4.2.1 y4.2.2.1>>=fun y6=>iI y6.1>>=fun y7=>fP y7.2>>=fun y8=>some (aV.mk acc y2.2.2.2 y3.1 y4.2.2.2 y5.1 y6.2.2.2 y7.1 y8.1,y8.2)) (by omega) ((wJ (ι:=Unit) hs).good ()) (fun _ _ _ h=>⟨by simp only [z0]; have:=h.pos; omega,h⟩) hs (by omega) (fun _ _ y k acc st=>?_) (fun _ _ x st acc=>?_) ?_).congr (fun _ st=>?_) (fun _ st=>?_)
    · show vT _ _ _ _ _ _=_
      rw [vT]
    · show (wP _ _ _ _ _ _ _).bind _=_
      rw [wP]
      simp only [Option.bind_eq_bind,Option.bind_some,P8,aA7,Option.bind_assoc]
    · refine (aSn hs hE (fun i=>i.1.2) (fun _=>false) (fun _=>0) _ ?_).congr (fun _ _=>rfl) (fun _ _=>rfl)
      intro i n w' o w l f k u1 u2 u3 u4 u5 u6 u7 h1 h2 h3 h4 h5 h6 h7 d8 h8 h9 h10
      exact bDf h8 h9 h10 h1 h2 h3 h4 h5 h6 h7
    · rw [pX]
    · rw [tH,X6]
      simp only [Option.bind_eq_bind,Option.bind_assoc]
  exact key.good ()
theorem aEh {s:List UInt8} (hs:s.length≤1048576):∀ m,GE s m∧GP s m
  | 0=>⟨fun a _ h=>by omega,fun a _ h=>by omega⟩
  | m+1=>⟨aY9 hs (aEh hs m).1 (aEh hs m).2,bEc hs (aEh hs m).1⟩
def Zb:Nat→Nat
  | 0=>10
  | n+1=>60+11 * Zb n
theorem okV_E {B:Nat} {r:bN×aJ} {a b u t:Int} {q:Bool} (h:okV B r) (h1:okI a) (h2:okI b) (h4:okI u) (h5:okI t):FE B (aB.mk a b q r.1 u t [] []) :=
  ⟨mkE h1 h2 h.1 h4 h5 (by simp) (by simp) (by simp) (by simp),by rw [wU]; have:=h.2.1; simp [zL]; omega⟩
theorem aDf:okGValue ⟨0,0,[]⟩:=⟨okI_small (by decide) (by decide),okI_small (by decide) (by decide),by unfold okS; simp⟩
theorem aNq (n:Int) (h0 : -1000≤n) (h1:n≤1000):okI (IntKind.wrap .i64 n):=by rw [fB (by omega) (by omega)]; exact okI_small h0 h1
theorem aB5 {B:Nat} {a b u t:Int} {q:Bool} {ks:List aB} (h1:okI a) (h2:okI b) (h4:okI u) (h5:okI t) (hk:ks.length≤3∧∀ y ∈ ks,FE B y):FE (60+11 * B) (aB.mk a b q ⟨0,0,[]⟩ u t ks []) :=
  ⟨mkE h1 h2 aDf h4 h5 (by omega) (fun y hy=>(hk.2 y hy).1) (by simp) (by simp),by rw [wU]; have:=uL (z:=bU) hk.1 fun y hy=>(hk.2 y hy).2; simp only [zL,List.length_nil,List.map_nil,List.sum_nil] at this ⊢; omega⟩
theorem aPr {B:Nat} {a b u t:Int} {q:Bool} {ks:List aB} {p:aV} (h1:okI a) (h2:okI b) (h4:okI u) (h5:okI t) (hk:ks.length≤3∧∀ y ∈ ks,FE B y) (hp:okGPlan p∧gL p≤40+8 * B∧0<p.items.length):FE (60+11 * B) (aB.mk a b q ⟨0,0,[]⟩ u t ks [p]) :=
  ⟨mkE h1 h2 aDf h4 h5 (by omega) (fun y hy=>(hk.2 y hy).1) (by simp) (mem1 hp.1),by rw [wU]; have:=uL (z:=bU) hk.1 fun y hy=>(hk.2 y hy).2; have:=hp.2.1; simp only [zL,List.length_nil,List.length_cons,List.map_cons,List.map_nil,List.sum_cons,List.sum_nil] at *; omega⟩
theorem aQ3 (c:aJ) (h:okCur c) (B:Nat) (hB:10≤B):Yes ((gH c 2)>>=fun (y3:Bool×aJ)=>if y3.1=true then ((dY y3.2 3)>>=fun (y4:Int×aJ)=>(dY y4.2 4)>>=fun (y5:Int×aJ)=>some ((aB.mk 2 0 false (bN.mk 0 0 []) y4.1 y5.1 ([]:List aB) ([]:List aV)),y5.2)) else ((yV y3.2)>>=fun (y6:bN×aJ)=>some ((aB.mk 1 0 false y6.1 0 0 ([]:List aB) ([]:List aV)),y6.2))) (okE B):=by
  have o:∀ n:Int,-1000≤n→n≤1000→okI n:=fun n h0 h1=>okI_small h0 h1
  refine Yes.bind (nD _ _ h) fun r k=>Yes.ite (fun _=>?_) fun _=>?_
  · refine Yes.bind (jP _ _ k) fun r ⟨a0,a1,k⟩=>Yes.bind (jP _ _ k) fun r2 ⟨b0,b1,k⟩=>Yes.some ⟨⟨?_,?_⟩,k⟩
    · have:=a1 (by decide); have:=b1 (by decide)
      exact mkE (o _ (by omega) (by omega)) (o _ (by omega) (by omega)) aDf (o _ (by omega) (by omega)) (o _ (by omega) (by omega)) (by simp) (by simp) (by simp) (by simp)
    · rw [wU]; simp [zL]
  · refine Yes.bind (aTh _ k) fun r hr=>Yes.some ⟨?_,hr.2.2⟩
    have:=okV_E (B:=4) (q:=false) hr (o 1 (by omega) (by omega)) (o 0 (by omega) (by omega)) (o 0 (by omega) (by omega)) (o 0 (by omega) (by omega))
    refine ⟨this.1,?_⟩
    have h2:=this.2
    show bU (aB.mk 1 0 false r.1 0 0 [] [])≤B
    omega
theorem bDe (n:Nat):10≤Zb n:=by cases n <;> simp only [Zb] <;> omega
theorem aTw:∀ (n:Nat) (d:Int) (c:aJ),-100≤d→d≤n→n≤4→okCur c→Yes (nI c d) (okE (Zb n)):=by
  intro n
  have o:∀ n:Int,-1000≤n→n≤1000→okI n:=fun n h0 h1=>okI_small h0 h1
  induction n with
  | zero =>
    intro d c hd0 hd _ h
    rw [nI]
    refine Yes.bind (aD8 _ _ _ _ h) fun r k=>Yes.bind (Q:=fun q=>q=true) ⟨_,rfl,by rw [if_pos (by simpa using hd)]⟩ fun q hq=>?_
    rw [if_pos hq]
    exact aQ3 _ k _ (Nat.le_refl _)
  | succ n ih =>
    intro d c hd0 hd hn h
    have hB:Zb (n+1)=60+11 * Zb n:=rfl
    rw [nI]
    refine Yes.bind (aD8 _ _ _ _ h) fun r k=>Yes.bind (Q:=fun q=>q=true∨0<d) ⟨_,rfl,?_⟩ fun q hq=>Yes.ite (fun _=>aQ3 _ k _ (bDe _)) fun hq2=>?_
    · by_cases h0:d≤0
      · exact .inl (by rw [if_pos (by simpa using h0)])
      · exact .inr (by omega)
    · have h0:0<d:=hq.resolve_left hq2
      rw [hB]
      have e1:IntKind.wrap .i64 (d - 1)=d - 1:=fB (by omega) (by omega)
      have K:∀ m c,m≤3→okCur c→Yes (nP c d m) (okKs (Zb n)):=fun m c hm k=>aL7 (Zb n) d m hm (fun c k=>by rw [e1]; exact ih _ c (by omega) (by omega) (by omega) k) c k
      have P2:∀ c,1<d→okCur c→Yes (uO c (IntKind.wrap .i64 (d - 2))) (okP (Zb n)):=fun c h2 k=>by
        rw [fB (n:=d - 2) (by omega) (by omega)]
        have H:∀ c,okCur c→Yes (nI c (d - 2)) (okE (Zb n)):=fun c k=>ih _ c (by omega) (by omega) (by omega) k
        exact aPc H (fun c k=>aL7 (Zb n) _ 1 (by omega) (fun c k=>by rw [fB (n:=d - 2+1) (by omega) (by omega),fB (by omega) (by omega)]; have:=H c k; rwa [show d - 2+1 - 1=d - 2 by omega]) c k) c k
      have J0:∀ y:Int×aJ,okCur y.2→Yes (zT d y) (okE (60+11 * Zb n)):=fun y k=>by
        rw [zT]
        exact Yes.bind (jP _ _ k) fun r ⟨a0,a1,k⟩=>Yes.bind (K 2 _ (by omega) k) fun r2 ⟨hk,k⟩=>Yes.some ⟨aB5 (o _ (by omega) (by omega)) (aNq _ (by omega) (by have:=a1 (by decide); omega)) (o _ (by omega) (by omega)) (o _ (by omega) (by omega)) hk,k⟩
      refine Yes.bind (jP _ _ k) fun r ⟨_,_,k⟩=>Yes.ite (fun _=>?_) fun _=>Yes.ite (fun _=>?_) fun _=>Yes.ite (fun _=>?_) fun _=>Yes.ite (fun _=>?_) fun _=>Yes.ite (fun _=>?_) fun _=>Yes.ite (fun _=>?_) fun _=>J0 _ k
      · exact Yes.bind (jP _ _ k) fun r ⟨a0,a1,k⟩=>Yes.bind (K 1 _ (by omega) k) fun r2 ⟨hk,k⟩=>Yes.some ⟨aB5 (o _ (by omega) (by omega)) (aNq _ (by omega) (by have:=a1 (by decide); omega)) (o _ (by omega) (by omega)) (o _ (by omega) (by omega)) hk,k⟩
      · exact Yes.bind (nD _ _ k) fun r k=>Yes.bind (K 1 _ (by omega) k) fun r2 ⟨hk,k⟩=>Yes.some ⟨aB5 (o _ (by omega) (by omega)) (o _ (by omega) (by omega)) (o _ (by omega) (by omega)) (o _ (by omega) (by omega)) hk,k⟩
      · exact Yes.bind (nD _ _ k) fun r k=>Yes.bind (K 3 _ (by omega) k) fun r2 ⟨hk,k⟩=>Yes.some ⟨aB5 (o _ (by omega) (by omega)) (o _ (by omega) (by omega)) (o _ (by omega) (by omega)) (o _ (by omega) (by omega)) hk,k⟩
      · exact Yes.bind (nD _ _ k) fun r k=>Yes.bind (K 3 _ (by omega) k) fun r2 ⟨hk,k⟩=>Yes.some ⟨aB5 (o _ (by omega) (by omega)) (o _ (by omega) (by omega)) (o _ (by omega) (by omega)) (o _ (by omega) (by omega)) hk,k⟩
      · refine Yes.ite (fun h2=>?_) fun _=>J0 _ k
        exact Yes.bind (nD _ _ k) fun r k=>Yes.bind (K 1 _ (by omega) k) fun r2 ⟨hk,k⟩=>Yes.bind (P2 _ (by simpa using h2) k) fun r3 ⟨hp,k⟩=>Yes.some ⟨aPr (o _ (by omega) (by omega)) (o _ (by omega) (by omega)) (o _ (by omega) (by omega)) (o _ (by omega) (by omega)) hk hp,k⟩
      · refine Yes.ite (fun h2=>?_) fun _=>J0 _ k
        exact Yes.bind (P2 _ (by simpa using h2) k) fun r3 ⟨hp,k⟩=>Yes.some ⟨aPr (o _ (by omega) (by omega)) (o _ (by omega) (by omega)) (o _ (by omega) (by omega)) (o _ (by omega) (by omega)) ⟨by simp,by simp⟩ hp,k⟩
theorem aPg {l:List aB}:∀ {k:Nat} {x y:aB} {b:Nat},l[k]?=some x→bU y≤bU x+b→zL bU (l.set k y)≤zL bU l+b:=by
  induction l with
  | nil=>intro k x y b h; simp at h
  | cons z l ih =>
    intro k x y b h hb
    cases k with
    | zero=>simp at h; subst h; simp only [List.set_cons_zero,zL,List.length_cons,List.map_cons,List.sum_cons]; omega
    | succ k =>
      simp at h
      have:=ih (k:=k) h hb
      simp only [List.set_cons_succ,zL,List.length_cons,List.map_cons,List.sum_cons] at this ⊢; omega
theorem okX_parts {x:aB} (h:okGPExpr x):okI x.kind∧okI x.op∧okGValue x.value∧okI x.up∧okI x.at_∧(∀ y ∈ x.kids,okGPExpr y)∧∀ p ∈ x.sub,okGPlan p:=by
  obtain ⟨a0,a1,a2,a3,a4,a5,a6,a7⟩:=x
  unfold okGPExpr at h
  exact ⟨h.1,h.2.1,h.2.2.2.1,h.2.2.2.2.1,h.2.2.2.2.2.1,okLGPExpr_mem h.2.2.2.2.2.2.1.2,okLGPlan_mem h.2.2.2.2.2.2.2.2⟩
theorem zX (x:aB):bU x=x.value.text.length+zL bU x.kids+zL gL x.sub:=by
  obtain ⟨a0,a1,a2,a3,a4,a5,a6,a7⟩:=x
  exact wU _ _ _ _ _ _ _ _
theorem bCk:∀ (n:Nat) (e:aB) (c:aJ),bU e<n→bU e≤400000→okGPExpr e→okCur c→Yes (vX c e) (okE (bU e+900)):=by
  intro n
  induction n with
  | zero=>intro e c h _ _; omega
  | succ n ih =>
    intro e c hn hz hok h
    obtain ⟨p1,p2,p3,p4,p5,p6,p7⟩:=okX_parts hok
    have hE:=zX e
    have lk:e.kids.length≤zL bU e.kids:=by unfold zL; omega
    have ls:e.sub.length≤zL gL e.sub:=by unfold zL; omega
    have J:∀ a b q v u t cb ci ch (ss:List aV),okI a→okI b→okGValue v→okI u→okI t→okCur ⟨cb,ci,ch⟩→(∀ p ∈ ss,okGPlan p)→ss.length≤1000000→v.text.length+zL bU e.kids+zL gL ss≤bU e+900→Yes (pI e a b q v.kind v.num v.text u t cb ci ch ss) (okE (bU e+900)):=fun a b q v u t cb ci ch ss h1 h2 h3 h4 h5 k hs hsl hl=>by
      unfold pI
      refine Yes.some ⟨⟨mkE h1 h2 h3 h4 h5 (by omega) p6 (by omega) hs,?_⟩,k⟩
      rw [wU]; exact hl
    rw [vX]
    refine Yes.bind (aD8 _ _ _ _ h) fun r k=>Yes.bind (Q:=fun q=>q=true→0<(e.kids.length:Int)) ⟨_,rfl,?_⟩ fun q hq=>Yes.ite (fun hq2=>?_) fun _=>?_
    · intro h1
      by_cases h0:0<(e.kids.length:Int)
      · exact h0
      · rw [if_neg (by simpa using h0)] at h1; exact absurd h1 (by simp)
    · have h0:=hq hq2
      refine Yes.bind (jP _ _ k) fun r ⟨b0,b1,k⟩=>?_
      obtain ⟨v,hv0,hv⟩:=aE5 (l:=e.kids) b0 (b1 h0)
      have hg:e.kids[r.1.toNat]?=some v:=by unfold idx at hv; rw [if_pos b0] at hv; exact hv
      have hl:=kH (z:=bU) hv0
      refine Yes.bind (Q:=fun z=>z=v) ⟨v,hv,rfl⟩ fun z hz2=>?_
      subst hz2
      have hlen:e.kids.length+(e.kids.map bU).sum=zL bU e.kids:=rfl
      have hpos:=List.length_pos_of_mem hv0
      refine Yes.bind (ih z _ (by omega) (by omega) (p6 z hv0) k) fun r2 ⟨⟨h4,h5⟩,k⟩=>Yes.some ⟨⟨mkE p1 p2 p3 p4 p5 (by rw [List.length_set]; omega) (fun y hy=>?_) (by omega) p7,?_⟩,k⟩
      · rcases List.mem_or_eq_of_mem_set hy with hy | rfl
        · exact p6 y hy
        · exact h4
      · have:=aPg (b:=900) hg h5
        rw [wU]; omega
    · refine Yes.bind (jP _ _ k) fun r ⟨_,_,k⟩=>Yes.ite (fun _=>?_) fun _=>Yes.ite (fun _=>?_) fun _=>Yes.ite (fun _=>?_) fun _=>Yes.ite (fun _=>?_) fun _=>Yes.ite (fun _=>?_) fun _=>Yes.ite (fun _=>?_) fun _=>?_
      · exact Yes.bind (tK _ k) fun r ⟨hi,k⟩=>J _ _ _ e.value _ _ _ _ _ _ hi p2 p3 p4 p5 k p7 (by omega) (by omega)
      · exact Yes.bind (tK _ k) fun r ⟨hi,k⟩=>J _ _ _ e.value _ _ _ _ _ _ p1 hi p3 p4 p5 k p7 (by omega) (by omega)
      · exact Yes.bind (tK _ k) fun r ⟨hi,k⟩=>J _ _ _ e.value _ _ _ _ _ _ p1 p2 p3 hi p5 k p7 (by omega) (by omega)
      · exact Yes.bind (tK _ k) fun r ⟨hi,k⟩=>J _ _ _ e.value _ _ _ _ _ _ p1 p2 p3 p4 hi k p7 (by omega) (by omega)
      · exact Yes.bind (bA3 _ k) fun r hr=>J _ _ _ r.1 _ _ _ _ _ _ p1 p2 hr.1 p4 p5 hr.2.2 p7 (by omega) (by have:=hr.2.1; omega)
      · exact J _ _ _ e.value _ _ _ _ _ _ p1 p2 p3 p4 p5 k p7 (by omega) (by omega)
      · refine Yes.bind (oG (by simp; omega)) fun y hy=>?_
        subst hy
        have hP0:okGPlan (aV.mk [] [] [] [] [] [] false 0):=by unfold okGPlan; exact ⟨⟨by simp,by simp⟩,⟨by simp,by unfold okLLGPExpr; trivial⟩,⟨by simp,by unfold okLGPExpr; trivial⟩,⟨by simp,by unfold okLGPSort; trivial⟩,⟨by simp,by unfold okLGPExpr; trivial⟩,⟨by simp,by simp⟩,trivial,okI_small (by decide) (by decide)⟩
        refine J _ _ _ e.value _ _ _ _ _ _ p1 p2 p3 p4 p5 k (vE p7 hP0) (by simp; omega) ?_
        have:gL (aV.mk [] [] [] [] [] [] false 0)=0:=by simp [gL,uE,K5,U3,zL]
        simp only [zL,List.length_append,List.length_cons,List.length_nil,List.map_append,List.map_cons,List.map_nil,List.sum_append,List.sum_cons,List.sum_nil,this] at hE ⊢
        omega
theorem bBh (p:List Int) (hp:p.length≤1048576):Yes (X5 p 4) fun r=>0<r∧r≤4:=by
  unfold X5
  have e:Int.tdiv (p.length:Int) 20=(p.length:Int) / 20:=Int.tdiv_eq_ediv_of_nonneg (by omega)
  rw [e,fB (n:=(p.length:Int) / 20) (by omega) (by omega),fB (by omega) (by omega)]
  refine Yes.ite (fun _=>Yes.some ⟨by omega,by omega⟩) fun h=>Yes.some ⟨by omega,by simp at h; omega⟩
theorem zP (q:aV):gL q=zL z0 q.tables+zL (zL bU) q.on_+zL bU q.where_+zL lC q.order+zL bU q.items+zL List.length q.names:=by
  obtain ⟨a0,a1,a2,a3,a4,a5,a6,a7⟩:=q
  simp only [gL,vK,aAk,aAu,zL]
theorem aT6 (c:aJ) (o0:okCur c) (p:List Int) (hp:p.length≤1048576):Yes (U4 c p) fun r=>(okGPlan r.1∧gL r.1≤1000000)∧okCur r.2:=by
  have hZ3:Zb 3≤30000:=by decide
  have hZ4:Zb 4≤300000:=by decide
  unfold U4
  refine Yes.bind (bBh p hp) fun s ⟨s0,s1⟩=>Yes.bind (jP _ _ o0) fun r ⟨b0,b1,k⟩=>?_
  have hr:=b1 s0
  have H:∀ c,okCur c→Yes (nI c r.1) (okE (Zb 3)):=fun c k=>aTw 3 _ c (by omega) (by omega) (by omega) k
  refine Yes.bind (aPc H (fun c k=>aL7 (Zb 3) _ 1 (by omega) (fun c k=>by rw [fB (n:=r.1+1) (by omega) (by omega),fB (by omega) (by omega)]; have:=H c k; rwa [show r.1+1 - 1=r.1 by omega]) c k) _ k) fun y ⟨⟨hy1,hy2,hy3⟩,k⟩=>?_
  obtain ⟨⟨a0,a1,a2,a3,a4,a5,a6,a7⟩,yc⟩:=y
  dsimp only at hy1 hy2 hy3 k ⊢
  have hZ:=zP (aV.mk a0 a1 a2 a3 a4 a5 a6 a7)
  dsimp only at hZ
  have l0:a0.length≤zL z0 a0:=by unfold zL; omega
  have l1:a1.length≤zL (zL bU) a1:=by unfold zL; omega
  have l2:a2.length≤zL bU a2:=by unfold zL; omega
  have l4:a4.length≤zL bU a4:=by unfold zL; omega
  have l5:a5.length≤zL List.length a5:=by unfold zL; omega
  unfold okGPlan at hy1
  obtain ⟨q0,q1,q2,q3,q4,q5,q6,q7⟩:=hy1
  have fin : ∀ {b : List Int} {j g : Int} {t : List Int} {o : List (List aB)} {w i : List aB} {n : List (List UInt8)}, okL okI t → (o.length ≤ 1000000 ∧ okLLGPExpr o) → (w.length ≤ 1000000 ∧ okLGPExpr w) → (i.length ≤ 1000000 ∧ okLGPExpr i) → okL okS n → zL z0 t + zL (zL bU) o + zL bU w + zL lC a3 + zL bU i + zL List.length n ≤ 1000000 → okCur ⟨b, j, g⟩ →
      Yes (rF (aV.mk a0 a1 a2 a3 a4 a5 a6 a7,yc) b j g t o w i n) fun r=>(okGPlan r.1∧gL r.1≤1000000)∧okCur r.2:=fun h1 h2 h3 h4 h5 h6 h7=>by
    unfold rF
    refine Yes.some ⟨⟨?_,by rw [zP]; exact h6⟩,h7⟩
    unfold okGPlan
    exact ⟨h1,⟨by omega,h2.2⟩,⟨by omega,h3.2⟩,q3,⟨by omega,h4.2⟩,h5,q6,q7⟩
  have e1:a1.length≤1000000∧okLLGPExpr a1:=⟨by omega,q1.2⟩
  have e2:a2.length≤1000000∧okLGPExpr a2:=⟨by omega,q2.2⟩
  have e4:a4.length≤1000000∧okLGPExpr a4:=⟨by omega,q4.2⟩
  have i0:∀ n:Int,-1000≤n→n≤1000→okI n:=fun n h0 h1=>okI_small h0 h1
  have E0:∀ a,okI a→okGPExpr (aB.mk a 0 false ⟨0,0,[]⟩ 0 0 [] []):=fun a ha=>mkE ha (i0 _ (by omega) (by omega)) aDf (i0 _ (by omega) (by omega)) (i0 _ (by omega) (by omega)) (by simp) (by simp) (by simp) (by simp)
  have zE0:∀ a,bU (aB.mk a 0 false ⟨0,0,[]⟩ 0 0 [] [])=0:=fun a=>by rw [wU]; simp [zL]
  refine Yes.bind (jP _ _ k) fun r2 ⟨_,_,k⟩=>Yes.ite (fun _=>?_) fun _=>Yes.ite (fun _=>?_) fun _=>Yes.ite (fun _=>?_) fun _=>Yes.ite (fun _=>?_) fun _=>Yes.ite (fun _=>?_) fun _=>?_
  · refine Yes.bind (tK _ k) fun x ⟨hx,k⟩=>Yes.bind (oG (by simp; omega)) fun z hz=>?_
    subst hz
    refine fin ⟨by simp; omega,vE q0.2 hx⟩ e1 e2 e4 q5 ?_ k
    simp only [zL,z0,List.length_append,List.length_cons,List.length_nil,List.map_append,List.map_cons,List.map_nil,List.sum_append,List.sum_cons,List.sum_nil] at hZ ⊢; omega
  · refine Yes.bind (bCm _ k) fun x ⟨hx,k⟩=>Yes.bind (oG (by simp; omega)) fun z hz=>?_
    subst hz
    refine fin q0 e1 e2 e4 ⟨by simp; omega,vE q5.2 (by unfold okS; omega)⟩ ?_ k
    simp only [zL,List.length_append,List.length_cons,List.length_nil,List.map_append,List.map_cons,List.map_nil,List.sum_append,List.sum_cons,List.sum_nil] at hZ ⊢; omega
  · refine Yes.bind (oG (by simp; omega)) fun z hz=>?_
    subst hz
    refine fin q0 ⟨by simp; omega,?_⟩ e2 e4 q5 ?_ k
    · refine okLLX_of (vE (fun y hy=>⟨?_,okLLGPExpr_mem q1.2 y hy⟩) ⟨by simp,mem1 (E0 0 (i0 _ (by omega) (by omega)))⟩)
      have:=kH (z:=zL bU) hy
      have:y.length≤zL bU y:=by unfold zL; omega
      have:(a1.map (zL bU)).sum≤zL (zL bU) a1:=by unfold zL; omega
      omega
    · have e3:zL bU [aB.mk 0 0 false ⟨0,0,[]⟩ 0 0 [] []]=1:=by simp [zL,zE0]
      have e5:zL (zL bU) (a1++[[aB.mk 0 0 false ⟨0,0,[]⟩ 0 0 [] []]])=zL (zL bU) a1+2:=by
        show (a1++[[aB.mk 0 0 false ⟨0,0,[]⟩ 0 0 [] []]]).length+((a1++[[aB.mk 0 0 false ⟨0,0,[]⟩ 0 0 [] []]]).map (zL bU)).sum=(a1.length+(a1.map (zL bU)).sum)+2
        simp only [List.length_append,List.length_cons,List.length_nil,List.map_append,List.map_cons,List.map_nil,List.sum_append,List.sum_cons,List.sum_nil,e3]; omega
      rw [e5]; omega
  · obtain ⟨x,hx⟩:∃ x,a4[0]?=some x:=⟨a4[0]'hy3,by simp⟩
    have hm:=List.mem_of_getElem? hx
    refine Yes.bind (Q:=fun z=>z=x) ⟨x,by unfold idx; simpa using hx,rfl⟩ fun z hz=>?_
    subst hz
    have:=kH (z:=bU) hm
    have:(a4.map bU).sum≤zL bU a4:=by unfold zL; omega
    refine Yes.bind (bCk _ _ _ (Nat.lt_succ_self _) (by omega) (okLGPExpr_mem q4.2 _ hm) k) fun y ⟨hy,k2⟩=>?_
    have:=aPg (b:=900) (y:=y.1) hx hy.2
    refine fin q0 e1 e2 ⟨by simp; omega,okLX_of fun u hu=>?_⟩ q5 (by simp only [Int.toNat_zero]; omega) k2
    rcases List.mem_or_eq_of_mem_set hu with hu | rfl
    · exact okLGPExpr_mem q4.2 u hu
    · exact hy.1
  · refine Yes.bind (tK _ k) fun x ⟨hx,k⟩=>Yes.bind (oG (by simp; omega)) fun z hz=>?_
    subst hz
    refine fin q0 e1 ⟨by simp; omega,okLX_of (vE (okLGPExpr_mem q2.2) (E0 _ hx))⟩ e4 q5 ?_ k
    simp only [zL,List.length_append,List.length_cons,List.length_nil,List.map_append,List.map_cons,List.map_nil,List.sum_append,List.sum_cons,List.sum_nil,zE0] at hZ ⊢; omega
  · exact fin q0 e1 e2 e4 q5 (by omega) k
theorem aG8 (s:List UInt8) (b:Int):iC ⟨s,b,true⟩=some (0,⟨s,b,true⟩):=by rw [iC]; simp
theorem bBf (s:List UInt8) (b:Int):iA ⟨s,b,true⟩=some (0,⟨s,b,true⟩):=by
  rw [iA,aG8]
  simp only [Option.bind_eq_bind,Option.bind_some,sIn]
  split <;> rfl
theorem aYs (s:List UInt8) (b:Int):∃ f,jO ⟨s,b,true⟩=some (f,⟨s,b,true⟩):=⟨false,by rw [jO,aG8]; simp [sIn,rZ]⟩
theorem aWo (s:List UInt8) (b:Int):∃ v,pX ⟨s,b,true⟩=some (v,⟨s,b,true⟩):=by
  have m0:=bBf s b
  have x0:nT ⟨s,b,true⟩=some ([],⟨s,b,true⟩):=by
    rw [nT,m0]; simp only [Option.bind_eq_bind,Option.bind_some]; rw [xC]; simp
  obtain ⟨f,hf⟩:=aYs s b
  have n0:=aG8 s b
  refine ⟨aV.mk [] [] [] [] [] [] f 0,?_⟩
  rw [pX,m0]
  simp only [Option.bind_eq_bind,Option.bind_some]
  rw [vT]
  simp only [Bool.not_true,ite_self,Option.bind_eq_bind,Option.bind_some,Bool.false_eq_true,if_false,m0]
  rw [rV]
  simp only [Bool.not_true,ite_self,Option.bind_eq_bind,Option.bind_some,Bool.false_eq_true,if_false,m0,x0]
  rw [qB]
  simp only [Bool.not_true,ite_self,Option.bind_eq_bind,Option.bind_some,Bool.false_eq_true,if_false,m0,x0]
  rw [pY]
  simp only [Bool.not_true,ite_self,Option.bind_eq_bind,Option.bind_some,Bool.false_eq_true,if_false,hf,n0]
def bCc (s:List UInt8) (a:Int) (p:aV) (n:Int) (ok:Bool):Prop:=(ok=false→n=0)∧(ok=true→∃ x b:Nat,a=(x:Int)∧n=(b:Int)∧x<b∧b≤s.length∧s.length≤20000∧okGPlan p∧gL p≤20000∧seg s x b=toB (eP p))
theorem bAw (s:List UInt8) (a:Int):∃ p n ok q m,Q3 s a=some (p,n,ok)∧J2 s a=some (q,m,ok)∧bCc s a p n ok:=by
  by_cases h:s.length≤20000∧0≤a∧a≤(s.length:Int)
  · have hs:s.length≤1048576:=by omega
    obtain ⟨n,rfl⟩:∃ n:Nat,a=(n:Int):=⟨a.toNat,by omega⟩
    have e1:vR s (n:Int)=some (⟨s,(n:Int),false⟩,true):=by
      rw [vR]
      have h1:((s.length:Nat):Int)≤20000:=by omega
      have h2:n≤s.length:=by omega
      simp [h1,h2]
    have e2:wN s (n:Int)=some ⟨s,(n:Int),false⟩:=by
      rw [wN]
      have h1:¬ (20000:Int)<((s.length:Nat):Int):=by omega
      have h2:n≤s.length:=by omega
      simp [h1,h2,sIn]
    rw [Q3,J2,e1,e2]
    simp only [Option.bind_eq_bind,Option.bind_some,Bool.not_true,Bool.false_eq_true,if_false]
    rcases (aEh hs (s.length+1)).2 n (by omega) (by omega) with ⟨v,b,j1,j2,j3,j4,j5⟩ | ⟨v,v',b,b',j1,j2,j3⟩
    · dsimp only at j1 j2
      simp only [j1,j2,Option.bind_some,Bool.false_eq_true,if_false]
      obtain ⟨k1,k2,k3⟩:=j5 (by rw [oV j4]; omega)
      rw [oV j4] at k1
      exact ⟨_,_,_,_,_,rfl,rfl,by simp,fun _=>⟨n,b,rfl,rfl,by omega,j4,h.1,k2,by omega,k3⟩⟩
    · dsimp only at j1 j2
      simp only [j1,j2,Option.bind_some,if_true]
      exact ⟨_,_,_,_,_,rfl,rfl,fun _=>rfl,by simp⟩
  · have e1 : ∃ r, vR s a = some (r, false) := by
      rw [vR]
      by_cases h1:((s.length:Nat):Int)≤20000
      · by_cases h2:0≤a
        · have h3:¬ a≤(s.length:Int):=fun h3=>h ⟨by omega,h2,h3⟩
          exact ⟨_,by simp [h1,h2,h3]; rfl⟩
        · exact ⟨_,by simp [h1,h2]; rfl⟩
      · exact ⟨_,by simp [h1]; rfl⟩
    have e2:wN s a=some ⟨s,a,true⟩:=by
      rw [wN]
      by_cases h1:(20000:Int)<((s.length:Nat):Int)
      · simp [h1]
      · have h2:¬ (0≤a∧a≤(s.length:Int)):=fun h2=>h ⟨by omega,h2⟩
        simp [h1,sIn]; omega
    obtain ⟨r,e1⟩:=e1
    obtain ⟨v,e3⟩:=aWo s a
    rw [Q3,J2,e1,e2]
    simp only [Option.bind_eq_bind,Option.bind_some,Bool.not_false,if_true,e3]
    exact ⟨_,_,_,_,_,rfl,rfl,fun _=>rfl,by simp⟩
theorem aQf (c:aJ) (n:Int) (hn:n≤5) (k:okCur c):Yes (uU c n) fun r=>(∀ v ∈ r.1,0≤v∧v<256)∧r.1.length≤1000∧okCur r.2:=by
  obtain ⟨y,c3,e3,l3,k3⟩:=aOu n (by omega) 5 [] 0 c.b c.i c.h (by omega) (by omega) rfl (by omega) (by simp) k
  exact ⟨(y,c3),e3,l3,(aN5 n (by omega) 5 [] 0 c.b c.i c.h y c3 (by omega) (by omega) rfl (by omega) k e3),k3⟩
theorem aF6 {l:List Int} (h:∀ v ∈ l,0≤v∧v<256):Yes (ofBytes l) fun s=>s.length=l.length:=by
  unfold ofBytes
  rw [if_pos (by simpa using h)]
  exact ⟨_,rfl,by simp⟩
theorem aQu {a b:List UInt8} (h:a.length+b.length≤1000000000000):Yes (qV a b) fun s=>s=a++b:=⟨_,by unfold qV; rw [if_pos (by simp only [maxLen]; omega)],rfl⟩
theorem aYc (c:aJ) (k:okCur c) (s:List UInt8) (hs:s.length≤1000000000):Yes (M3 c s) fun r=>r.1.length≤1000000001∧okCur r.2:=by
  rw [M3]
  refine Yes.ite (fun _=>?_) fun hne=>?_
  · refine Yes.bind (aQf c 2 (by omega) k) fun r ⟨h1,h2,k⟩=>Yes.bind (aF6 h1) fun z hz=>Yes.some ⟨by show z.length≤_; omega,k⟩
  · have hl:(fC s).length=s.length:=by simp [fC]
    have hp:0<s.length:=by
      have:s≠[]:=by simpa using hne
      exact List.length_pos_iff.2 this
    refine Yes.bind (jP _ _ k) fun r ⟨h0,h1,k⟩=>?_
    have h1':=h1 (by omega)
    rw [hl] at h1'
    refine Yes.bind (Q:=fun _=>True) ⟨(fC s)[r.1.toNat]'(by rw [hl]; omega),by unfold idx; rw [if_pos h0]; simp,trivial⟩ fun v _=>?_
    refine Yes.bind (jP _ _ k) fun r2 ⟨_,_,k2⟩=>?_
    rw [aC3]
    refine Yes.bind (aF6 fun v hv=>?_) fun z hz=>Yes.some ⟨by show z.length≤_; rw [hz,List.length_set,hl]; omega,k2⟩
    rcases List.mem_or_eq_of_mem_set hv with hv | rfl
    · obtain ⟨u,_,rfl⟩:=List.mem_map.1 hv
      have:=u.toNat_lt
      omega
    · rw [L8]; omega
theorem bAx (c:aJ) (k:okCur c) (s:List UInt8) (hs:s.length≤1000000000):Yes (D5 c s) fun _=>True:=by
  rw [D5]
  refine Yes.bind (jP _ _ k) fun r ⟨h0,h1,k⟩=>?_
  have h1':=h1 (by decide)
  refine Yes.bind (aQf _ _ (by omega) k) fun r2 ⟨b1,b2,k⟩=>Yes.bind (aF6 b1) fun z hz=>Yes.bind (jP _ _ k) fun r4 ⟨_,_,k⟩=>?_
  have J:∀ (x:List UInt8) (y:Int) b i h,x.length≤2000000000→Yes (uK z x y b i h) fun _=>True:=fun x y b i h hx=>by
    rw [uK]
    exact Yes.bind (aQu (by omega)) fun _ _=>Yes.some trivial
  refine Yes.ite (fun _=>?_) fun _=>Yes.ite (fun _=>?_) fun _=>Yes.ite (fun _=>?_) fun _=>Yes.ite (fun _=>?_) fun _=>J _ _ _ _ _ (by omega)
  · exact Yes.bind (aYc _ k s hs) fun r ⟨hr,_⟩=>J _ _ _ _ _ (by omega)
  · refine Yes.bind (jP _ _ k) fun r6 ⟨c0,c1,k⟩=>?_
    rw [fB (by omega) (by omega)] at c1
    have c1':=c1 (by omega)
    refine Yes.bind (Q:=fun w:List UInt8=>w.length≤s.length) ?_ fun w hw=>J _ _ _ _ _ (by omega)
    unfold mU
    rw [if_pos (by omega)]
    exact ⟨_,rfl,by simp; omega⟩
  · exact Yes.bind (aQu (by simp; omega)) fun w hw=>J _ _ _ _ _ (by rw [hw]; simp; omega)
  · exact Yes.bind (bBu _ _ (by simp) k) fun r hr=>J _ _ _ _ _ (by omega)
theorem bCp (p:List Int) (hp:p.length≤1048576):Yes (aAx p) fun _=>True:=by
  obtain ⟨c,e0,o0⟩:=bDt p hp
  rw [aAx]
  refine Yes.bind (Q:=fun z=>z=c) ⟨c,e0,rfl⟩ fun z hz=>?_
  subst hz
  refine Yes.bind (aT6 _ o0 p hp) fun r ⟨⟨oq,zq⟩,k⟩=>?_
  obtain ⟨lq,wq⟩:=(D8 _).2 r.1 oq (Nat.lt_succ_self _) (by omega)
  have b2:J9 r.1=some (toB (eP r.1)):=by
    obtain ⟨_,h2⟩:=wq.2 [] (by simp; omega)
    rw [J9,show oO [] r.1=_ from h2]
    simp only [Option.bind_eq_bind,Option.bind_some,List.nil_append,aAt wq.1]
    rfl
  refine Yes.bind (Q:=fun w=>w=toB (eP r.1)) ⟨_,b2,rfl⟩ fun w hw=>?_
  subst hw
  exact Yes.bind (bAx _ k _ (by rw [L6]; omega)) fun _ _=>Yes.some trivial
theorem bA1 (p:List Int) (_:okL okU8 p):X3 p=some true:=by
  unfold X3 aCk
  simp only [Option.bind_eq_bind,Option.bind_some]
  by_cases hp:(1048576:Int)<(p.length:Int)
  · rw [if_pos (by simpa using hp)]
  rw [if_neg (by simpa using hp)]
  obtain ⟨⟨s,a⟩,e1,_⟩:=bCp p (by omega)
  obtain ⟨q,n,ok,q2,m,h1,h2,h3,h4⟩:=bAw s a
  simp only [e1,h1,h2,Option.bind_some,beq_self_eq_true,Bool.not_true,Bool.false_eq_true,if_false]
  cases ok with
  | false=>simp [h3 rfl]
  | true =>
    obtain ⟨x,b,rfl,rfl,hx,hb,hs,oq,zq,hseg⟩:=h4 rfl
    obtain ⟨lq,wq⟩:=(D8 _).2 q oq (Nat.lt_succ_self _) (by omega)
    have b1:O3 q=some (toB (eP q)):=by
      obtain ⟨h1,_⟩:=wq.2 [] (by simp; omega)
      rw [O3,show rD [] q=_ from h1]
      simp only [Option.bind_eq_bind,Option.bind_some,aB4,List.nil_append,aAt wq.1]
      rfl
    have c1:(x:Int)<(b:Int):=by omega
    have c2:(b:Int)≤(s.length:Int):=by omega
    have hsub:=T9 (l:=s) (a:=x) (b:=b) (by omega) hb
    rw [show (s.take b).drop x=toB (eP q) from hseg] at hsub
    simp [c1,c2,b1,hsub]
end Go.Ab
