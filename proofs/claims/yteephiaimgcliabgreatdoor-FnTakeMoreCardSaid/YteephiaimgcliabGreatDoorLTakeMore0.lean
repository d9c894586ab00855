/- What the functions compute,in plain Lean. -/
import Derived.Test.YteephiaimgcliabGreatDoorFTakeMore
namespace Go.Ab
open Go
theorem fP {n:Int} (h1 : -9223372036854775808≤n) (h2:n≤9223372036854775807):IntKind.wrap .i64 n=n:=by rw [IntKind.wrap_i64]; omega
theorem oV {i n:Nat} (h:i<n) (hn:n≤4611686018427387904):IntKind.wrap .i64 ((i:Int)+1)=((i+1:Nat):Int):=by rw [fP] <;> omega
theorem jP (i n:Nat):decide ((i:Int)<(n:Int))=decide (i<n):=by simp
theorem aY0 {α:Type} (l:List α) (i:Nat):idx l (i:Int)=l[i]?:=by simp [idx]
theorem jB {α:Type} {l:List α} {i:Nat} (h:i<l.length):idx l (i:Int)=some l[i]:=by rw [aY0]; simp [h]
theorem xG {M:Nat→Prop} {n:Nat} (h0:M n) (h:∀ i,i<n→M (i+1)→M i):∀ i,i≤n→M i:=by
  have:∀ k i,i+k=n→M i:=by
    intro k
    induction k with
    | zero => intro i hi; have : i = n := by omega
              subst this; exact h0
    | succ k ih=>intro i hi; exact h i (by omega) (ih (i+1) (by omega))
  exact fun i hi=>this (n - i) i (by omega)
theorem aJz {a b:List UInt8} (h:a.length+b.length≤1073741824):wJ a b=some (a++b):=by
  unfold wJ; rw [if_pos (Nat.le_trans h (by decide))]
theorem bG5 {d:Nat} (h:d<10) (x4:List UInt8):ofBytes ([(IntKind.wrap .u8 (IntKind.wrap .i64 (48+(d:Int))))]:List Int)=some [UInt8.ofNat (48+d)]:=by
  match d,h with
  | 0,_=>rfl
  | 1,_=>rfl
  | 2,_=>rfl
  | 3,_=>rfl
  | 4,_=>rfl
  | 5,_=>rfl
  | 6,_=>rfl
  | 7,_=>rfl
  | 8,_=>rfl
  | 9,_=>rfl
theorem bC3 (p0 : Int) : ∀ n : Nat, n ≤ 9223372036854775808 → ∀ out : List UInt8, out.length + Lib.nDigits n ≤ 1000 → ∀ x0 : Int, (x0 = n ∨ x0 = -(n : Int)) →
    zX p0 x0 out=some ((if p0<0 then [45] else [])++((if n=0 then [] else Lib.decDigits n)++out)):=by
  intro n
  induction n using Nat.strongRecOn with
  | ind n ih =>
    intro hn out ho x0 hx
    rw [zX]
    by_cases h0:n=0
    · subst h0
      have:x0=0:=by omega
      subst this
      have hc:wJ [45] out=some (45::out):=aJz (by simp; omega)
      by_cases hp:p0<0 <;> simp [hp,hc]
    · have hx0:x0≠0:=by omega
      have hdiv:Int.tdiv x0 10=((n / 10:Nat):Int)∨Int.tdiv x0 10 = -((n / 10:Nat):Int):=by
        rcases hx with rfl | rfl
        · left; simp [Int.tdiv]
        · right; rw [Int.neg_tdiv]; simp [Int.tdiv]
      have hdd:IntKind.wrap .i64 (Int.tdiv x0 10)=Int.tdiv x0 10:=fP (by omega) (by omega)
      have hm:Int.tmod x0 10=((n % 10:Nat):Int)∨Int.tmod x0 10 = -((n % 10:Nat):Int):=by
        rcases hx with rfl | rfl
        · left; simp [Int.tmod]
        · right; rw [Int.neg_tmod]; simp [Int.tmod]
      have hlt:n % 10<10:=Nat.mod_lt _ (by omega)
      have hnd:Lib.nDigits (n / 10)≤Lib.nDigits n:=by
        by_cases hs:n<10
        · have:n / 10=0:=by omega
          rw [this,Lib.nDigits_small (by omega)]; exact Lib.nDigits_pos _
        · rw [Lib.nDigits_big hs]; omega
      have hnd1:n / 10≠0→Lib.nDigits (n / 10)+1=Lib.nDigits n:=fun h=>by rw [← Lib.nDigits_big (u:=n) (by omega)]
      have hpos:=Lib.nDigits_pos n
      have key:zF x0 p0 out ((n % 10:Nat):Int)=some ((if p0<0 then [45] else [])++(Lib.decDigits n++out)):=by
        rw [zF,bG5 hlt out]
        simp only [Option.bind_eq_bind,Option.bind_some]
        rw [aJz (by simp; omega)]
        simp only [Option.bind_some]
        rw [hdd]
        by_cases hs:n / 10=0
        · have hz:Int.tdiv x0 10=0:=by omega
          have hn10:n<10:=by omega
          rw [hz,zX]
          have hmod:n % 10=n:=Nat.mod_eq_of_lt hn10
          have hc:wJ [45] ([UInt8.ofNat (48+n % 10)]++out)=some (45::([UInt8.ofNat (48+n % 10)]++out)):=aJz (by simp; omega)
          rw [Lib.decDigits_one hn10]
          by_cases hp:p0<0
          · simp [hp,hmod] at hc ⊢
            rw [hc]
          · simp [hp,hmod]
        · rw [ih (n / 10) (by omega) (by omega) _ (by have:=hnd1 hs; simp; omega) _ hdiv,if_neg hs]
          conv=>rhs; rw [Lib.decDigits,dif_neg (by omega)]
          simp
      rw [if_pos (by simp [hx0]),if_neg h0]
      by_cases hneg:Int.tmod x0 10<0
      · rw [if_pos (by simp [hneg])]
        have e:IntKind.wrap .i64 (0 - Int.tmod x0 10)=((n % 10:Nat):Int):=by rw [fP (by omega) (by omega)]; omega
        rw [e,key]
      · rw [if_neg (by simp [hneg])]
        have e:Int.tmod x0 10=((n % 10:Nat):Int):=by omega
        rw [e,key]
theorem aDt (n:Int) (h1 : -9223372036854775808≤n) (h2:n≤9223372036854775807):wH n=some (Lib.itoa n):=by
  unfold wH
  by_cases h0:n=0
  · subst h0; simp; rw [Lib.itoa]; simp; rw [Lib.decDigits_one (by omega)]; rfl
  · have hl:Lib.nDigits n.natAbs≤20:=Lib.nDigits_le20 _ (by omega)
    rw [if_neg (by simp [h0]),bC3 n n.natAbs (by omega) [] (by simp; omega) n (by omega),if_neg (show ¬ n.natAbs=0 by omega)]
    unfold Lib.itoa
    by_cases hn:n<0
    · simp [hn]
    · have:n.natAbs=n.toNat:=by omega
      simp [hn,this]
theorem aGu (a:List UInt8):(jL a).length=a.length:=by simp [jL]
theorem aVa (a:List UInt8):ofBytes (jL a)=some a:=by
  unfold ofBytes jL
  rw [if_pos]
  · rw [List.map_map]
    congr 1
    refine (List.map_congr_left (g:=id) fun u _=>?_).trans (List.map_id a)
    simp [Function.comp]
  · refine List.all_eq_true.2 fun n hn=>?_
    obtain ⟨u,_,rfl⟩:=List.mem_map.1 hn
    have:=u.toNat_lt
    simp; omega
def fb (b:UInt8):UInt8:=if 97≤b.toNat∧b.toNat≤122 then UInt8.ofNat (b.toNat - 32) else b
theorem aW4 {b:UInt8} (h:97≤b.toNat∧b.toNat≤122):((fb b).toNat:Int)=(b.toNat:Int) - 32:=by
  unfold fb; rw [if_pos h,UInt8.toNat_ofNat']; omega
theorem aTi {b:UInt8} (h:¬ (97≤b.toNat∧b.toNat≤122)):fb b=b:=by unfold fb; rw [if_neg h]
theorem wrap_u8 {n:Int} (h0:0≤n) (h1:n<256):IntKind.wrap .u8 n=n:=by
  unfold IntKind.wrap; simp [IntKind.signed,IntKind.bits]; omega
def pU (s:List UInt8) (i:Nat):List UInt8:=(s.take i).map fb++s.drop i
theorem aQz (s:List UInt8) (i:Nat):(pU s i).length=s.length:=by simp [pU]; omega
theorem aSj {s:List UInt8} {i:Nat} (h:i<s.length):(pU s i)[i]?=some s[i]:=by
  unfold pU
  rw [List.getElem?_append_right (by simp; omega)]
  simp [Nat.min_eq_left (Nat.le_of_lt h),h]
theorem aHd {s:List UInt8} {i:Nat} (h:i<s.length):(pU s i).set i (fb s[i])=pU s (i+1):=by
  unfold pU
  have hd:=List.drop_eq_getElem_cons h
  rw [List.set_append_right _ _ (by simp; omega),List.take_succ_eq_append_getElem h,List.map_append]
  simp [Nat.min_eq_left (Nat.le_of_lt h)]
  rw [hd]; rfl
theorem aWe (s:List UInt8):pU s s.length=s.map fb:=by simp [pU]
theorem aUr {l:List UInt8} {i:Nat} {b:UInt8} (h:l[i]?=some b):idx (jL l) (i:Int)=some (b.toNat:Int):=by
  rw [aY0]; simp [jL,h]
theorem aD6 (l:List UInt8) (i:Nat) (b:UInt8):(jL l).set i (b.toNat:Int)=jL (l.set i b):=by simp [jL,List.map_set]
theorem bFs (s:List UInt8) (hs:s.length≤1073741824):∀ i,i≤s.length→J5 s (i:Nat) (jL (pU s i))=some (s.map fb):=by
  refine xG ?_ ?_
  · rw [J5]
    simp only [aGu,jP,Nat.lt_irrefl,decide_false,Bool.false_eq_true,if_false]
    rw [aH4,aWe]
    simp [aVa]
  · intro i hi ih
    rw [J5]
    simp only [aGu,jP,hi,decide_true,if_true,aUr (aSj hi),Option.bind_eq_bind,Option.bind_some,Int.toNat_natCast]
    have hb:=s[i].toNat_lt
    by_cases h:97≤s[i].toNat∧s[i].toNat≤122
    · have e : IntKind.wrap .u8 (IntKind.wrap .u8 ((s[i].toNat : Int) - 97) + 65) = ((fb s[i]).toNat : Int) := by
        rw [aW4 h,wrap_u8 (n:=(s[i].toNat:Int) - 97) (by omega) (by omega),wrap_u8 (by omega) (by omega)]; omega
      rw [if_pos (by simp; omega),J9,e,aD6,aHd hi,oV hi (by omega)]
      exact ih
    · rw [if_neg (by simp; omega),J9]
      have e2:(s[i].toNat:Int)=((fb s[i]).toNat:Int):=by rw [aTi h]
      rw [e2,aD6,aHd hi,oV hi (by omega)]
      exact ih
theorem bD8 (s:List UInt8) (hs:s.length≤1073741824):∀ i,i≤s.length→I6 (i:Nat) (jL (pU s i))=some (s.map fb):=by
  refine xG ?_ ?_
  · rw [I6]
    simp only [aGu,aQz,jP,Nat.lt_irrefl,decide_false,Bool.false_eq_true,if_false]
    rw [aE6,aWe]
    simp [aVa]
  · intro i hi ih
    rw [I6]
    simp only [aGu,aQz,jP,hi,decide_true,if_true,aUr (aSj hi),Option.bind_eq_bind,Option.bind_some,Int.toNat_natCast]
    have hb:=s[i].toNat_lt
    by_cases h:97≤s[i].toNat∧s[i].toNat≤122
    · have e : IntKind.wrap .u8 ((s[i].toNat : Int) - 32) = ((fb s[i]).toNat : Int) := by
        rw [aW4 h,wrap_u8 (by omega) (by omega)]
      rw [if_pos (by simp; omega),G8,e,aD6,aHd hi,oV hi (by omega)]
      exact ih
    · rw [if_neg (by simp; omega),G8]
      have e2:(s[i].toNat:Int)=((fb s[i]).toNat:Int):=by rw [aTi h]
      rw [e2,aD6,aHd hi,oV hi (by omega)]
      exact ih
theorem aVe (s:List UInt8) (hs:s.length≤1073741824):aA2 s=some (s.map fb):=by
  unfold aA2
  have:=bFs s hs 0 (Nat.zero_le _)
  simpa [pU] using this
theorem aXp (s:List UInt8) (hs:s.length≤1073741824):M4 s=some (s.map fb):=by
  unfold M4
  have:=bD8 s hs 0 (Nat.zero_le _)
  simpa [pU] using this
def mO (acc:Nat) (l:List UInt8):Nat:=l.foldl (fun a c=>a * 10+(c.toNat - 48)) acc
theorem aHi (acc:Nat):mO acc []=acc:=rfl
theorem aBu (acc:Nat) (c:UInt8) (r:List UInt8):mO acc (c::r)=mO (acc * 10+(c.toNat - 48)) r:=by unfold mO; rw [List.foldl_cons]
def aE4 (l:List UInt8):Prop:=∀ c ∈ l,48≤c.toNat∧c.toNat≤57
theorem aQo (l:List UInt8):∀ acc:Nat,acc≤mO acc l:=by
  induction l with
  | nil=>intro acc; rw [aHi]; exact Nat.le_refl _
  | cons c r ih =>
    intro acc
    have:=ih (acc * 10+(c.toNat - 48))
    rw [aBu]; omega
theorem bQ1 (l m:List UInt8) (acc:Nat):mO acc (l++m)=mO (mO acc l) m:=List.foldl_append
theorem aXb (u:Nat):aE4 (Lib.decDigits u)∧mO 0 (Lib.decDigits u)=u:=by
  induction u using Nat.strongRecOn with
  | ind u ih =>
    rw [Lib.decDigits]
    have hb:∀ d,d<10→(UInt8.ofNat (48+d)).toNat=48+d:=fun d hd=>by
      rw [UInt8.toNat_ofNat']; omega
    by_cases h:u<10
    · rw [dif_pos h]
      refine ⟨fun c hc=>?_,?_⟩
      · rw [List.mem_singleton] at hc
        subst hc; rw [hb u h]; omega
      · rw [aBu,aHi,hb u h]; omega
    · rw [dif_neg h]
      obtain ⟨h1,h2⟩:=ih (u / 10) (by omega)
      have hm:u % 10<10:=Nat.mod_lt _ (by omega)
      refine ⟨fun c hc=>?_,?_⟩
      · rcases List.mem_append.1 hc with h3 | h3
        · exact h1 c h3
        · rw [List.mem_singleton] at h3
          subst h3; rw [hb _ hm]; omega
      · rw [bQ1,h2]
        rw [aBu,aHi,hb _ hm]; omega
theorem aQw:∀ (l:List UInt8) (acc:Nat),aE4 l→mO acc l≤9223372036854775807→Lib.parseUint10 acc l=.ok (mO acc l)
  | [],acc,_,_=>rfl
  | c::r,acc,hd,hv=>by
    have hc:=hd c List.mem_cons_self
    have hg:=aQo r (acc * 10+(c.toNat - 48))
    rw [aBu] at hv ⊢
    rw [Lib.parseUint10,if_pos hc,if_neg (by omega),if_neg (by omega)]
    exact aQw r _ (fun x hx=>hd x (List.mem_cons_of_mem _ hx)) hv
theorem aYo (u:Nat):Lib.decDigits u≠[]:=fun h=>by
  have:=Lib.decDigits_length u
  rw [h] at this
  have:=Lib.nDigits_pos u
  simp at *
  omega
theorem bBr (n:Nat) (hn:n≤9223372036854775807):Lib.atoiAll (Lib.itoa (n:Int))=.ok (n:Int):=by
  rw [Lib.itoa_nonneg]
  obtain ⟨h1,h2⟩:=aXb n
  have hne:=aYo n
  generalize hl:Lib.decDigits n=l at *
  cases l with
  | nil=>exact absurd rfl hne
  | cons c r =>
    have hc:=h1 c List.mem_cons_self
    have hp:=aQw (c::r) 0 h1 (by omega)
    rw [Lib.atoiAll_plain c r (by omega) (by omega)]
    unfold Lib.parseMag
    rw [if_neg (by simp),hp,h2]
    unfold Lib.signless
    simp only
    rw [if_neg (by omega)]
theorem bQi (s:List UInt8) (m:Nat) (hm:m≤9223372036854775807) (h:Lib.itoa (m:Int)=s):iZ s=((m:Int),true):=by
  unfold iZ
  rw [← h,bBr m hm]
  simp only
  rw [if_neg (by omega),if_pos trivial]
theorem bO0 (s:List UInt8) (h:∀ m:Nat,m≤9223372036854775807→Lib.itoa (m:Int)≠s):iZ s=(0,false):=by
  unfold iZ
  split
  · rename_i n hn
    have hb:=Lib.atoiAll_bounds hn
    by_cases h0:n<0
    · rw [if_pos h0]
    · rw [if_neg h0]
      obtain ⟨m,rfl⟩:∃ m:Nat,n=m:=⟨n.toNat,by omega⟩
      rw [if_neg (h m (by omega))]
  · rfl
theorem aUb:∀ (k u:Nat),u<10 ^ (k+1)→Lib.nDigits u≤k+1
  | 0,u,h=>by rw [Lib.nDigits_small (by simpa using h)]; omega
  | k+1,u,h=>by
    by_cases h1:u<10
    · rw [Lib.nDigits_small h1]; omega
    · rw [Lib.nDigits_big h1]
      have:=aUb k (u / 10) (by rw [Nat.pow_succ] at h; omega)
      omega
theorem bSs {s:List UInt8} {i:Nat} (h:i<s.length):H6 s (i:Int)=some (s[i].toNat:Int):=by simp [H6,h]
theorem aOm (s : List UInt8) (hs : s.length ≤ 19) : ∀ i, i ≤ s.length → ∀ n : Nat, n ≤ 9223372036854775807 →
    ∃ r,wM s (n:Int) (i:Nat)=some r∧(r=(0,false)∨∃ m:Nat,m≤9223372036854775807∧Lib.itoa (m:Int)=s∧r=((m:Int),true)) ∧
      (aE4 (s.drop i)→mO n (s.drop i)≤9223372036854775807→Lib.itoa (mO n (s.drop i):Int)=s→r=((mO n (s.drop i):Int),true)):=by
  refine xG ?_ ?_
  · intro n hn
    rw [wM]
    simp only [jP,Nat.lt_irrefl,decide_false,Bool.false_eq_true,if_false,List.drop_length,aHi,Option.bind_eq_bind]
    rw [aDt n (by omega) (by omega),Option.bind_some]
    by_cases h:Lib.itoa (n:Int)=s
    · rw [if_neg (by simp [h])]
      exact ⟨_,rfl,.inr ⟨n,hn,h,rfl⟩,fun _ _ _=>rfl⟩
    · rw [if_pos (by simp [h])]
      exact ⟨_,rfl,.inl rfl,fun _ _ h2=>absurd h2 h⟩
  · intro i hi ih n hn
    rw [wM]
    have hb:=s[i].toNat_lt
    simp only [jP,hi,decide_true,if_true,bSs hi,Option.bind_eq_bind,Option.bind_some]
    have hdrop:s.drop i=s[i]::s.drop (i+1):=List.drop_eq_getElem_cons hi
    by_cases hd:48≤s[i].toNat∧s[i].toNat≤57
    · obtain ⟨d,hd1⟩:∃ d,s[i].toNat=d+48:=⟨s[i].toNat - 48,by omega⟩
      have c1:decide ((s[i].toNat:Int)<48)=false:=by simp; omega
      have c2:decide (57<(s[i].toNat:Int))=false:=by simp; omega
      simp only [c1,c2,Bool.and_self,Bool.true_and,beq_self_eq_true,if_true,Option.bind_some,Bool.false_eq_true,if_false]
      have e1:IntKind.wrap .i64 (IntKind.wrap .i64 (s[i].toNat:Int) - 48)=(d:Int):=by
        rw [fP (n:=(s[i].toNat:Int)) (by omega) (by omega),fP (by omega) (by omega)]; omega
      have e2:IntKind.wrap .i64 (9223372036854775807 - (d:Int))=((9223372036854775807 - d:Nat):Int):=by rw [fP (by omega) (by omega)]; omega
      have e3:IntKind.wrap .i64 (Int.tdiv ((9223372036854775807 - d:Nat):Int) 10)=(((9223372036854775807 - d) / 10:Nat):Int):=by
        have:Int.tdiv ((9223372036854775807 - d:Nat):Int) 10=(((9223372036854775807 - d) / 10:Nat):Int):=by simp [Int.tdiv]
        rw [this,fP (by omega) (by omega)]
      rw [e1,e2,e3]
      have hv:mO n (s.drop i)=mO (n * 10+d) (s.drop (i+1)):=by rw [hdrop,aBu,hd1]; simp
      by_cases ho:(9223372036854775807 - d) / 10<n
      · rw [if_pos (decide_eq_true (by omega))]
        refine ⟨_,rfl,.inl rfl,fun _ h2 _=>?_⟩
        have:=aQo (s.drop (i+1)) (n * 10+d)
        omega
      · rw [if_neg (by rw [decide_eq_true_eq]; omega)]
        have e4:IntKind.wrap .i64 (10 * (n:Int))=((10 * n:Nat):Int):=by rw [fP (by omega) (by omega)]; omega
        have e5:IntKind.wrap .i64 (((10 * n:Nat):Int)+(d:Int))=((n * 10+d:Nat):Int):=by rw [fP (by omega) (by omega)]; omega
        rw [e4,e5,oV hi (by omega),hv]
        obtain ⟨r,r1,r2,r3⟩:=ih (n * 10+d) (by omega)
        refine ⟨r,r1,r2,fun h1=>r3 fun c hc=>h1 c ?_⟩
        rw [hdrop]; exact List.mem_cons_of_mem _ hc
    · have hno:¬ aE4 (s.drop i):=fun h=>hd (h _ (by rw [hdrop]; exact List.mem_cons_self))
      refine ⟨(0,false),?_,.inl rfl,fun h1=>absurd h1 hno⟩
      by_cases h1:s[i].toNat<48
      · have c1:decide ((s[i].toNat:Int)<48)=true:=by simp; omega
        simp [c1]
      · have c1:decide ((s[i].toNat:Int)<48)=false:=by simp; omega
        have c2:decide (57<(s[i].toNat:Int))=true:=by simp; omega
        simp only [c1,c2,Bool.and_self,Bool.true_and,beq_self_eq_true,if_true,Option.bind_some,Bool.false_eq_true,if_false]
theorem aLb (s:List UInt8):yT s=some (iZ s):=by
  by_cases hm:∃ m:Nat,m≤9223372036854775807∧Lib.itoa (m:Int)=s
  · obtain ⟨m,hm,rfl⟩:=hm
    rw [bQi _ m hm rfl,Lib.itoa_nonneg]
    obtain ⟨d1,d2⟩:=aXb m
    have hl:Lib.nDigits m≤19:=aUb 18 m (by omega)
    have hp:=Lib.nDigits_pos m
    have hlen:=Lib.decDigits_length m
    unfold yT
    simp only [Option.bind_eq_bind,Option.bind_some]
    have c1:decide (((Lib.decDigits m).length:Int)<1)=false:=by simp; omega
    have c2:decide (19<((Lib.decDigits m).length:Int))=false:=by simp; omega
    rw [c1,c2]
    simp only [Bool.false_eq_true,if_false]
    obtain ⟨r,r1,_,r3⟩:=aOm (Lib.decDigits m) (by omega) 0 (Nat.zero_le _) 0 (by omega)
    rw [List.drop_zero] at r3
    have:=r3 d1 (by omega) (by rw [d2,Lib.itoa_nonneg])
    rw [d2] at this
    subst this
    exact r1
  · have hno:∀ m:Nat,m≤9223372036854775807→Lib.itoa (m:Int)≠s:=fun m h e=>hm ⟨m,h,e⟩
    rw [bO0 s hno]
    unfold yT
    simp only [Option.bind_eq_bind,Option.bind_some]
    by_cases c:1≤s.length∧s.length≤19
    · have c1:decide ((s.length:Int)<1)=false:=by simp; omega
      have c2:decide (19<(s.length:Int))=false:=by simp; omega
      rw [c1,c2]
      simp only [Bool.false_eq_true,if_false]
      obtain ⟨r,r1,r2,_⟩:=aOm s c.2 0 (Nat.zero_le _) 0 (by omega)
      rcases r2 with rfl | ⟨m,h1,h2,_⟩
      · exact r1
      · exact absurd h2 (hno m h1)
    · have : (if decide ((s.length : Int) < 1) = true then true else decide (19 < (s.length : Int))) = true := by
        by_cases h:s.length<1
        · simp; omega
        · simp; omega
      rw [this]; rfl
def words:List (List UInt8):=[[83,69,76,69,67,84],[68,73,83,84,73,78,67,84],[70,82,79,77],[74,79,73,78],[79,78],[87,72,69,82,69],[79,82,68,69,82],[66,89],[65,83,67],[68,69,83,67],[76,73,77,73,84],[65,83],[65,78,68],[79,82],[78,79,84],[73,83],[73,78],[66,69,84,87,69,69,78],[69,88,73,83,84,83],[78,85,76,76],[84,82,85,69],[70,65,76,83,69],[73,78,83,69,82,84],[73,78,84,79],[86,65,76,85,69,83],[85,80,68,65,84,69],[83,69,84],[68,69,76,69,84,69]]
theorem bMv:aF3=some words:=by decide +kernel
theorem aTh:Y0=some ([]::words):=rfl
theorem aXx:words.length=28:=rfl
theorem bIc:∀ w ∈ words,w.length≤8:=by decide
theorem bAe (f:List UInt8):∀ i,i≤28→∃ k:Int,pM words f (i:Nat)=some k ∧ -1≤k∧k≤27∧xP f ([]::words) ((i+1:Nat):Int)=some (k+1)∧(8<f.length→k = -1):=by
  refine xG ?_ ?_
  · refine ⟨-1,?_,by omega,by omega,?_,fun _=>rfl⟩
    · rw [pM]; rfl
    · rw [xP]; rfl
  · intro i hi ih
    obtain ⟨k,h1,h2,h3,h4,h5⟩:=ih
    have hi':i<words.length:=hi
    have hi2:i+1<([]::words:List (List UInt8)).length:=by simp only [List.length_cons,aXx]; omega
    rw [pM,xP]
    simp only [jP,hi',hi2,decide_true,if_true,jB hi',jB hi2,Option.bind_eq_bind,Option.bind_some,List.getElem_cons_succ]
    by_cases he:f=words[i]
    · subst he
      rw [if_pos (by simp),if_pos (by simp)]
      refine ⟨i,rfl,by omega,by omega,rfl,fun h=>?_⟩
      have:=bIc _ (List.getElem_mem hi')
      omega
    · rw [if_neg (by simpa using he),if_neg (by simpa using fun e=>he e.symm),oV hi' (by rw [aXx]; omega),fP (by omega) (by omega)]
      exact ⟨k,h1,h2,h3,h4,h5⟩
theorem bAd (s:List UInt8) (hs:s.length≤1073741824):∃ k:Int,Y1 s=some k∧aCw s=some k∧0≤k∧k≤28∧(8<s.length→k=0):=by
  obtain ⟨k,h1,h2,h3,h4,h5⟩:=bAe (s.map fb) 0 (by omega)
  have hi:Y1 s=some (k+1):=by
    unfold Y1 X9
    rw [bMv,aVe s hs]
    have h1':pM words (s.map fb) 0=some k:=h1
    simp only [Option.bind_eq_bind,Option.bind_some,h1']
    rw [fP (by omega) (by omega)]
  refine ⟨k+1,hi,?_,by omega,by omega,fun h=>by rw [h5 (by simpa using h)]; rfl⟩
  unfold aCw
  by_cases h8:8<s.length
  · rw [if_pos (decide_eq_true (by omega)),h5 (by simpa using h8)]; rfl
  · rw [if_neg (by rw [decide_eq_true_eq]; omega),aXp s hs,aTh]
    simp only [Option.bind_eq_bind,Option.bind_some]
    exact h4
theorem bGi (s:List UInt8):aBo s=M3 s∧∃ b,M3 s=some b∧(b=true↔1≤s.length∧s.length≤20):=by
  unfold aBo M3 oJ
  simp only [Option.bind_eq_bind,Option.bind_some]
  refine ⟨by simp,_,rfl,?_⟩
  by_cases h1:(1:Int)≤(s.length:Int)
  · simp [h1]; omega
  · simp [h1]; omega
def zU:List (List UInt8):=[[40],[41],[44],[46],[42],[43],[45],[47],[37],[61],[60,62],[60],[60,61],[62],[62,61],[124,124]]
theorem bCr (l:List (List UInt8)) (p:List UInt8) (hl:l.length≤1048576):∀ i,i≤l.length→∃ k:Int,pM l p (i:Nat)=some k∧(0≤k↔p ∈ l.drop i):=by
  refine xG ?_ ?_
  · rw [pM]
    exact ⟨-1,by simp,by simp⟩
  · intro i hi ih
    obtain ⟨k,h1,h2⟩:=ih
    rw [pM,List.drop_eq_getElem_cons hi]
    simp only [jP,hi,decide_true,if_true,jB hi,Option.bind_eq_bind,Option.bind_some,oV hi (by omega),List.mem_cons]
    by_cases he:p=l[i]
    · rw [if_pos (by simpa using he)]
      exact ⟨i,rfl,fun _=>.inl he,fun _=>by omega⟩
    · rw [if_neg (by simpa using he)]
      exact ⟨k,h1,h2.trans ⟨.inr,fun h=>h.resolve_left he⟩⟩
theorem bL4 (p:List UInt8):aC8 p=some (decide (p ∈ zU)):=by
  obtain ⟨k,h1,h2⟩:=bCr zU p (by decide) 0 (Nat.zero_le _)
  have h1':pM zU p 0=some k:=h1
  have e:aDo=some zU:=rfl
  unfold aC8 aGm X9
  rw [e]
  simp only [Option.bind_eq_bind,Option.bind_some,h1']
  rw [List.drop_zero] at h2
  rw [Option.some.injEq]
  exact decide_eq_decide.2 h2
theorem bE7 (p:List UInt8):aBg p=some (decide (p ∈ zU)):=by
  by_cases h1:p=[40]
  · subst h1; rfl
  by_cases h2:p=[41]
  · subst h2; rfl
  by_cases h3:p=[44]
  · subst h3; rfl
  by_cases h4:p=[46]
  · subst h4; rfl
  by_cases h5:p=[42]
  · subst h5; rfl
  by_cases h6:p=[43]
  · subst h6; rfl
  by_cases h7:p=[45]
  · subst h7; rfl
  by_cases h8:p=[47]
  · subst h8; rfl
  by_cases h9:p=[37]
  · subst h9; rfl
  by_cases h10:p=[61]
  · subst h10; rfl
  by_cases h11:p=[60,62]
  · subst h11; rfl
  by_cases h12:p=[60]
  · subst h12; rfl
  by_cases h13:p=[60,61]
  · subst h13; rfl
  by_cases h14:p=[62]
  · subst h14; rfl
  by_cases h15:p=[62,61]
  · subst h15; rfl
  have hm:p ∈ zU↔p=[124,124]:=by
    constructor
    · intro h
      rcases List.mem_cons.1 h with h | h
      · exact absurd h h1
      rcases List.mem_cons.1 h with h | h
      · exact absurd h h2
      rcases List.mem_cons.1 h with h | h
      · exact absurd h h3
      rcases List.mem_cons.1 h with h | h
      · exact absurd h h4
      rcases List.mem_cons.1 h with h | h
      · exact absurd h h5
      rcases List.mem_cons.1 h with h | h
      · exact absurd h h6
      rcases List.mem_cons.1 h with h | h
      · exact absurd h h7
      rcases List.mem_cons.1 h with h | h
      · exact absurd h h8
      rcases List.mem_cons.1 h with h | h
      · exact absurd h h9
      rcases List.mem_cons.1 h with h | h
      · exact absurd h h10
      rcases List.mem_cons.1 h with h | h
      · exact absurd h h11
      rcases List.mem_cons.1 h with h | h
      · exact absurd h h12
      rcases List.mem_cons.1 h with h | h
      · exact absurd h h13
      rcases List.mem_cons.1 h with h | h
      · exact absurd h h14
      rcases List.mem_cons.1 h with h | h
      · exact absurd h h15
      exact List.mem_singleton.1 h
    · intro h; rw [h]; decide
  rw [decide_eq_decide.2 hm]
  unfold aBg
  rw [if_neg (by rw [decide_eq_true_eq]; exact h1),if_neg (by rw [decide_eq_true_eq]; exact h2),if_neg (by rw [decide_eq_true_eq]; exact h3),if_neg (by rw [decide_eq_true_eq]; exact h4),if_neg (by rw [decide_eq_true_eq]; exact h5),if_neg (by rw [decide_eq_true_eq]; exact h6),if_neg (by rw [decide_eq_true_eq]; exact h7),if_neg (by rw [decide_eq_true_eq]; exact h8),if_neg (by rw [decide_eq_true_eq]; exact h9),if_neg (by rw [decide_eq_true_eq]; exact h10),if_neg (by rw [decide_eq_true_eq]; exact h11),if_neg (by rw [decide_eq_true_eq]; exact h12),if_neg (by rw [decide_eq_true_eq]; exact h13),if_neg (by rw [decide_eq_true_eq]; exact h14),if_neg (by rw [decide_eq_true_eq]; exact h15)]
  unfold kU
  cases decide (p=[124,124]) <;> rfl
def okT (x:aJ):Bool:=(zW x).getD false
theorem aP2 (x:aJ) (hx:x.text.length≤1048576):K6 x=some (okT x)∧zW x=some (okT x):=by
  suffices h:∃ b,K6 x=some b∧zW x=some b by
    obtain ⟨b,h1,h2⟩:=h
    have:okT x=b:=by simp [okT,h2]
    rw [this]; exact ⟨h1,h2⟩
  unfold K6 zW
  by_cases k1:x.kind=1
  · obtain ⟨k,e1,e2,e3,_,_⟩:=bAd x.text (by omega)
    simp only [k1,decide_true,if_true,e1,e2,aVe x.text (by omega),aXp x.text (by omega),Option.bind_eq_bind,Option.bind_some]
    by_cases hk:k=0
    · exact ⟨false,by simp [hk],by simp [hk]⟩
    · have:0<k:=by omega
      exact ⟨decide (x.text.map fb=x.text),by simp [hk],by simp [this]⟩
  by_cases k2:x.kind=2
  · obtain ⟨n1,nb,n2,_⟩:=bGi x.text
    exact ⟨nb,by simp [k2,n1,n2],by simp [k2,n2]⟩
  by_cases k3:x.kind=3
  · have hn:xM x.text=some (iZ x.text):=by unfold xM aCa; rw [if_pos (by omega)]
    exact ⟨(iZ x.text).2,by simp [k3,hn],by simp [k3,aLb]⟩
  by_cases k4:x.kind=4
  · exact ⟨decide ((x.text.length:Int)≤40),by simp [k4],by simp [k4]⟩
  by_cases k5:x.kind=5
  · exact ⟨decide (x.text ∈ zU),by simp [k5,bL4],by simp [k5,bE7]⟩
  · exact ⟨false,by simp [k1,k2,k3,k4,k5],by simp [k1,k2,k3,k4,k5]⟩
theorem rG {α:Type} {b:Nat} {l m:List α} (h:(l.length+m.length) * b≤140737488355328):appG b l m=some (l++m):=by unfold appG; rw [if_pos h]
structure Ps where
  at_:Nat
  f:Bool
abbrev PI (T:List aJ) (s:Ps):aL:=aL.mk T (s.at_:Int) s.f
abbrev PR (T:List aJ) (s:Ps):aU:=aU.mk T (s.at_:Int) s.f
def adv (s:Ps):Ps:=⟨s.at_+1,s.f⟩
def bad (s:Ps):Ps:=⟨s.at_,true⟩
def cur (T:List aJ) (c:aJ→Bool) (s:Ps):Bool:=!s.f&&(match T[s.at_]? with | some t=>c t | none=>false)
def tk (T:List aJ) (c:aJ→Bool) (s:Ps):Ps:=if cur T c s=true then adv s else s
def mu (T:List aJ) (c:aJ→Bool) (s:Ps):Ps:=if cur T c s=true then adv s else bad s
def isT (k:Int) (w:List UInt8) (t:aJ):Bool:=decide (t.kind=k)&&decide (t.text=w)
abbrev dD (w:List UInt8):aJ→Bool:=isT 1 w
abbrev eX (w:List UInt8):aJ→Bool:=isT 5 w
def gG (k:Int) (t:aJ):Bool:=decide (t.kind=k)&&okT t
def Tok (T:List aJ):Prop:=T.length≤1048576∧∀ t ∈ T,t.text.length≤1048576
def In (T:List aJ) (s:Ps):Prop:=s.at_≤T.length
theorem aEx {T:List aJ} {c:aJ→Bool} {s:Ps} (h:s.f=true):cur T c s=false:=by unfold cur; rw [h]; rfl
theorem aJw {T:List aJ} {c:aJ→Bool} {s:Ps} (h:T.length≤s.at_):cur T c s=false:=by
  unfold cur; rw [List.getElem?_eq_none h]; simp
theorem nZ {T:List aJ} {c:aJ→Bool} {s:Ps} (h:cur T c s=true):s.at_<T.length∧s.f=false:=by
  by_cases h0:s.at_<T.length
  · refine ⟨h0,?_⟩
    cases hf:s.f with
    | false=>rfl
    | true=>rw [aEx hf] at h; exact absurd h (by simp)
  · rw [aJw (by omega)] at h; exact absurd h (by simp)
theorem aMx {T:List aJ} {c:aJ→Bool} {s:Ps} (h:s.at_<T.length) (hf:s.f=false):cur T c s=c T[s.at_]:=by
  unfold cur; rw [hf,List.getElem?_eq_getElem h]; rfl
variable {T:List aJ}
theorem aAa (hT:Tok T) {s:Ps} (h:In T s) (d:Nat) (hd:d≤10) (k:Int) (w:List UInt8):pK (PI T s) d k w=some (cur T (isT k w) ⟨s.at_+d,s.f⟩):=by
  unfold pK
  have h1:=hT.1
  have h2:s.at_≤T.length:=h
  have e:IntKind.wrap .i64 ((s.at_:Int)+(d:Int))=((s.at_+d:Nat):Int):=by rw [fP (by omega) (by omega)]; omega
  simp only [e,jP,Option.bind_eq_bind,Option.bind_some]
  cases hf:s.f with
  | true=>rw [aEx (s:=⟨s.at_+d,true⟩) rfl]; simp
  | false =>
    by_cases hl:s.at_+d<T.length
    · rw [aMx (s:=⟨s.at_+d,false⟩) hl rfl,jB hl]
      unfold isT
      by_cases hk:T[s.at_+d].kind=k
      · simp [hl,hk]
      · simp [hl,hk]
    · rw [aJw (by dsimp only; omega)]
      simp [hl]
theorem aTg (hT:Tok T) {s:Ps} (h:In T s) (w:List UInt8):R3 (PI T s) w=some (cur T (dD w) s):=by
  unfold R3
  rw [show (0:Int)=((0:Nat):Int) from rfl,aAa hT h 0 (by omega)]; rfl
theorem bPh (hT:Tok T) {s:Ps} (h:In T s) (w:List UInt8):aCm (PI T s) w=some (cur T (eX w) s):=by
  unfold aCm
  rw [show (0:Int)=((0:Nat):Int) from rfl,aAa hT h 0 (by omega)]; rfl
theorem aBl (hT:Tok T) {s:Ps} (h:s.at_<T.length):IntKind.wrap .i64 ((s.at_:Int)+1)=((s.at_+1:Nat):Int):=by
  have h1:=hT.1
  rw [fP (by omega) (by omega)]; omega
theorem jU (hT:Tok T) {s:Ps} (h:In T s) (w:List UInt8):jC (PI T s) w=some (cur T (dD w) s,PI T (tk T (dD w) s)):=by
  unfold jC aA6 tk
  rw [aTg hT h]
  simp only [Option.bind_eq_bind,Option.bind_some]
  cases hc:cur T (dD w) s with
  | true=>simp only [if_true]; rw [aBl hT (nZ hc).1]; rfl
  | false=>rfl
theorem mQ (hT:Tok T) {s:Ps} (h:In T s) (w:List UInt8):pO (PI T s) w=some (cur T (eX w) s,PI T (tk T (eX w) s)):=by
  unfold pO aAv tk
  rw [bPh hT h]
  simp only [Option.bind_eq_bind,Option.bind_some]
  cases hc:cur T (eX w) s with
  | true=>simp only [if_true]; rw [aBl hT (nZ hc).1]; rfl
  | false=>rfl
theorem Z8 (hT:Tok T) {s:Ps} (h:In T s) (w:List UInt8):tY (PI T s) w=some (PI T (mu T (dD w) s)):=by
  unfold tY mu
  rw [jU hT h]
  unfold tk
  cases hc:cur T (dD w) s <;> rfl
theorem Y9 (hT:Tok T) {s:Ps} (h:In T s) (w:List UInt8):uK (PI T s) w=some (PI T (mu T (eX w) s)):=by
  unfold uK mu
  rw [mQ hT h]
  unfold tk
  cases hc:cur T (eX w) s <;> rfl
theorem aCe (hT:Tok T) {s:Ps} (h:In T s) (k:Int):vO (PI T s) k=some (cur T (gG k) s):=by
  unfold vO
  cases hf:s.f with
  | true=>rw [aEx hf]; simp [hf]
  | false =>
    simp only [jP,Option.bind_eq_bind,Option.bind_some]
    by_cases hl:s.at_<T.length
    · obtain ⟨o1,_⟩:=aP2 T[s.at_] (hT.2 _ (List.getElem_mem hl))
      rw [aMx hl hf,jB hl]
      unfold gG
      by_cases hk:T[s.at_].kind=k
      · simp [hf,hl,hk,o1]
      · simp [hf,hl,hk]
    · rw [aJw (by omega)]
      simp [hf,hl]
theorem zT (hT:Tok T) {s:Ps} (h:In T s) (k:Int):∃ x,qQ (PI T s) k=some (x,PI T (mu T (gG k) s))∧x.length≤1048576:=by
  unfold qQ mu
  rw [aCe hT h]
  simp only [Option.bind_eq_bind,Option.bind_some]
  cases hc:cur T (gG k) s with
  | false=>exact ⟨[],rfl,by simp⟩
  | true =>
    have hl:=(nZ hc).1
    have h1:=hT.1
    have e:IntKind.wrap .i64 ((s.at_:Int)+1 - 1)=((s.at_:Nat):Int):=by rw [fP (by omega) (by omega)]; omega
    simp only [Bool.not_true,Bool.false_eq_true,if_false,if_true]
    rw [aBl hT hl]
    rw [show IntKind.wrap .i64 (((s.at_+1:Nat):Int) - 1)=((s.at_:Nat):Int) by rw [fP (by omega) (by omega)]; omega,jB hl]
    exact ⟨_,rfl,hT.2 _ (List.getElem_mem hl)⟩
theorem aTe (hT:Tok T) {s:Ps} (h:In T s):∃ x,Y7 (PI T s)=some (x,PI T (mu T (gG 3) s)):=by
  unfold Y7
  obtain ⟨x,e,hx⟩:=zT hT h 3
  have hv:xM x=some (iZ x):=by unfold xM aCa; rw [if_pos (by omega)]
  rw [e]
  simp only [Option.bind_eq_bind,Option.bind_some,hv]
  exact ⟨_,rfl⟩
def opT (l:List Int) (t:aJ):Bool:=l.any fun o=>isT (if o=1∨o=2 then 1 else 5) ((I4 o).getD []) t
theorem aZk (o:Int):∃ t,I4 o=some t:=by
  unfold I4
  by_cases h1:o<1
  · exact ⟨[],by simp [h1]⟩
  by_cases h2:16<o
  · exact ⟨[],by simp [h2]⟩
  have e:IntKind.wrap .i64 (o - 1)=((o - 1).toNat:Int):=by rw [fP (by omega) (by omega)]; omega
  have hl:(o - 1).toNat<([[79,82],[65,78,68],[61],[60,62],[60],[60,61],[62],[62,61],[124,124],[43],[45],[42],[47],[37],[78,79,84],[45]]:List (List UInt8)).length:=by show (o - 1).toNat<16; omega
  rw [e,jB hl]
  exact ⟨_,by simp [h1,h2]; rfl⟩
theorem any_cons {α:Type} {p:α→Bool} {x:α} {l:List α}:(x::l).any p=(p x||l.any p):=rfl
theorem aJ7 (hT:Tok T) {s:Ps} (h:In T s) (l:List Int) (hl:l.length≤100) (h0:∀ o ∈ l,o≠0):∃ op,nU (PI T s) l=some (op,PI T (tk T (opT l) s))∧(op=0↔cur T (opT l) s=false):=by
  have key:∀ i,i≤l.length→∃ op,zH l (PI T s) (i:Nat)=some (op,PI T (tk T (opT (l.drop i)) s))∧(op=0↔cur T (opT (l.drop i)) s=false):=by
    refine xG ?_ ?_
    · rw [zH,List.drop_length]
      have:cur T (opT []) s=false:=by unfold cur opT; cases T[s.at_]? <;> simp
      exact ⟨0,by unfold tk; rw [this]; simp,by simp [this]⟩
    · intro i hi ih
      obtain ⟨t,ht⟩:=aZk l[i]
      rw [zH,List.drop_eq_getElem_cons hi]
      simp only [jP,hi,decide_true,if_true,jB hi,Option.bind_eq_bind,Option.bind_some]
      have J:∀ k:Int,k=(if l[i]=1∨l[i]=2 then 1 else 5)→∃ op,yY l[i] l (i:Nat) (PI T s) k=some (op,PI T (tk T (opT (l[i]::l.drop (i+1))) s))∧(op=0↔cur T (opT (l[i]::l.drop (i+1))) s=false):=by
        intro k hk
        have hc:cur T (opT (l[i]::l.drop (i+1))) s=(cur T (isT k t) s||cur T (opT (l.drop (i+1))) s):=by
          unfold cur opT
          cases T[s.at_]? with
          | none=>simp
          | some x=>simp only [any_cons,ht,Option.getD_some,← hk]; cases s.f <;> simp
        rw [yY,ht]
        simp only [Option.bind_eq_bind,Option.bind_some]
        rw [show (0:Int)=((0:Nat):Int) from rfl,aAa hT h 0 (by omega)]
        simp only [Option.bind_some,Nat.add_zero]
        unfold tk
        rw [hc]
        cases hx:cur T (isT k t) s with
        | true =>
          simp only [if_true,Bool.true_or]
          rw [aBl hT (nZ hx).1]
          exact ⟨l[i],rfl,by simp [h0 _ (List.getElem_mem hi)]⟩
        | false =>
          simp only [Bool.false_or,Bool.false_eq_true,if_false]
          rw [oV hi (by omega)]
          exact ih
      by_cases h1:l[i]=1
      · rw [h1] at J ⊢; simp only [decide_true,if_true]; exact J 1 (by simp)
      · by_cases h2:l[i]=2
        · rw [h2] at J ⊢; simpa using J 1 (by simp)
        · simpa [h1,h2] using J 5 (by simp [h1,h2])
  simpa [nU] using key 0 (by omega)
variable {T:List aJ}
def nxt (T:List aJ) (s:Ps):aJ:=if s.f=true then ⟨0,[],0⟩ else T[s.at_]?.getD ⟨0,[],0⟩
theorem aI8 (hT:Tok T) {s:Ps} (h:In T s) (d:Nat) (hd:d≤10):nY (PR T s) d=some (nxt T ⟨s.at_+d,s.f⟩):=by
  unfold nY nxt
  have h1:=hT.1
  have h2:s.at_≤T.length:=h
  have e:IntKind.wrap .i64 ((s.at_:Int)+(d:Int))=((s.at_+d:Nat):Int):=by rw [fP (by omega) (by omega)]; omega
  simp only [e,Option.bind_eq_bind,Option.bind_some]
  cases hf:s.f with
  | true=>simp
  | false =>
    by_cases hl:s.at_+d<T.length
    · have h3:¬ (T.length:Int)≤((s.at_+d:Nat):Int):=by omega
      rw [jB hl]
      simp only [h3,decide_false,Bool.false_eq_true,if_false,Option.bind_some,List.getElem?_eq_getElem hl,Option.getD_some]
    · have h3:(T.length:Int)≤((s.at_+d:Nat):Int):=by omega
      rw [List.getElem?_eq_none (by omega)]
      simp only [h3,decide_true,Bool.false_eq_true,if_false,if_true,Option.getD_none]
theorem aBh (c:aJ→Bool) (hc:c ⟨0,[],0⟩=false) (s:Ps):c (nxt T s)=cur T c s:=by
  unfold nxt cur
  cases s.f with
  | true=>simp [hc]
  | false =>
    cases T[s.at_]? with
    | none=>simp [hc]
    | some t=>simp
theorem aD0 (hT:Tok T) {s:Ps} (h:In T s):nY (PR T s) 0=some (nxt T s):=by
  have:=aI8 hT h 0 (by omega)
  simpa using this
theorem aEf (k:Int) (w:List UInt8) (hk:k≠0):isT k w ⟨0,[],0⟩=false:=by unfold isT; simp [Ne.symm hk]
theorem bGl (hT:Tok T) (s:Ps):(nxt T s).text.length≤1048576:=by
  unfold nxt
  split
  · simp
  · cases h:T[s.at_]? with
    | none=>simp
    | some t=>exact hT.2 t (List.mem_of_getElem? h)
theorem rP (hT:Tok T) {s:Ps} (h:In T s) (k:Int) (w:List UInt8) (hk:gY k=some w):mW (PR T s) k=some (cur T (dD w) s):=by
  unfold mW
  rw [aD0 hT h,← aBh (dD w) (aEf 1 w (by decide)),hk]
  simp only [Option.bind_eq_bind,Option.bind_some]
  unfold dD isT
  by_cases h1:(nxt T s).kind=1 <;> simp [h1]
theorem jM (hT:Tok T) {s:Ps} (h:In T s) (w:List UInt8):lF (PR T s) w=some (cur T (eX w) s):=by
  unfold lF
  rw [aD0 hT h,← aBh (eX w) (aEf 5 w (by decide))]
  simp only [Option.bind_eq_bind,Option.bind_some]
  unfold eX isT
  by_cases h1:(nxt T s).kind=5 <;> simp [h1]
theorem aBy (hT:Tok T) {s:Ps} (h:In T s) (k:Int) (hk:k≠0):uO (PR T s) k=some (cur T (gG k) s):=by
  unfold uO
  have h0:gG k ⟨0,[],0⟩=false:=by unfold gG; simp [Ne.symm hk]
  obtain ⟨_,o2⟩:=aP2 (nxt T s) (bGl hT s)
  rw [aD0 hT h,← aBh (gG k) h0]
  simp only [Option.bind_eq_bind,Option.bind_some,o2]
  unfold gG
  by_cases h1:(nxt T s).kind=k <;> simp [h1]
theorem step_cur (hT:Tok T) {s:Ps} (c:aJ→Bool):gX (PR T s) (cur T c s)=some (PR T (mu T c s)):=by
  unfold gX mu
  cases hc:cur T c s with
  | false=>rfl
  | true =>
    obtain ⟨hl,hf⟩:=nZ hc
    simp only [hf,Bool.not_true,Bool.false_eq_true,if_false,if_true,Option.bind_eq_bind,Option.bind_some]
    rw [aBl hT hl]
    unfold adv PR
    rw [hf]
theorem nS (hT:Tok T) {s:Ps} {c:aJ→Bool} (hc:cur T c s=true):gX (PR T s) true=some (PR T (adv s)):=by
  have:=step_cur hT (s:=s) c
  rw [hc] at this
  rw [this]; unfold mu; rw [hc]; rfl
theorem kR (hT:Tok T) {s:Ps} (h:In T s) (k:Int) (w:List UInt8) (hk:gY k=some w):jR (PR T s) k=some (cur T (dD w) s,PR T (tk T (dD w) s)):=by
  unfold jR aAk tk
  rw [rP hT h k w hk]
  simp only [Option.bind_eq_bind,Option.bind_some]
  cases hc:cur T (dD w) s with
  | false=>rfl
  | true=>simp only [if_true]; rw [nS hT hc]; rfl
theorem vT (hT:Tok T) {s:Ps} (h:In T s) (k:Int) (hk:k≠0):∃ x,qF (PR T s) k=some (x,PR T (mu T (gG k) s)):=by
  unfold qF
  rw [aD0 hT h,aBy hT h k hk]
  simp only [Option.bind_eq_bind,Option.bind_some]
  rw [step_cur hT]
  simp only [Option.bind_some]
  by_cases hb:(mu T (gG k) s).f=true
  · exact ⟨[],by rw [if_pos hb]⟩
  · exact ⟨_,by rw [if_neg hb]⟩
def opsOf (lv:Int) (l:List Nat):List Int:=l.filterMap fun (o:Nat)=>if (([0,1,2,4,4,4,4,4,4,5,6,6,7,7,7]:List Int)[o]?.getD 0)=lv then some (o:Int) else none
theorem bQm (lv:Int) (o:Nat) (l:List Nat):opsOf lv (o::l)=if (([0,1,2,4,4,4,4,4,4,5,6,6,7,7,7]:List Int)[o]?.getD 0)=lv then (o:Int)::opsOf lv l else opsOf lv l:=by
  unfold opsOf
  rw [List.filterMap_cons]
  split <;> rename_i h <;> split at h <;> simp_all
theorem aRb (hT:Tok T) {s:Ps} (h:In T s) (lv:Int) (l:List Int) (hl:(lv,l) ∈ ([(1,[1]),(2,[2]),(4,[3,4,5,6,7,8]),(5,[9]),(6,[10,11]),(7,[12,13,14])]:List (Int×List Int))):∃ op,vW (PR T s) lv=some op∧0≤op∧(op=0↔cur T (opT l) s=false):=by
  have lev:∀ o:Nat,1≤o→o≤14→vG (aA.mk 4 (o:Int) false (bJ.mk 0 0 []) [] [] [] [])=some (([0,1,2,4,4,4,4,4,4,5,6,6,7,7,7]:List Int)[o]?.getD 0):=by
    intro o h1 h2
    have:o=1∨o=2∨o=3∨o=4∨o=5∨o=6∨o=7∨o=8∨o=9∨o=10∨o=11∨o=12∨o=13∨o=14:=by omega
    rcases this with h | h | h | h | h | h | h | h | h | h | h | h | h | h <;> subst h <;> rfl
  have tok:∀ o:Nat,1≤o→o≤14→∃ x,zY (o:Int)=some ⟨if (o:Int)=1∨(o:Int)=2 then 1 else 5,x,0⟩∧(I4 (o:Int)).getD []=x:=by
    intro o h1 h2
    have:o=1∨o=2∨o=3∨o=4∨o=5∨o=6∨o=7∨o=8∨o=9∨o=10∨o=11∨o=12∨o=13∨o=14:=by omega
    rcases this with h | h | h | h | h | h | h | h | h | h | h | h | h | h <;> subst h <;> exact ⟨_,rfl,rfl⟩
  have key:∀ i,i≤14→∃ op,yV lv (PR T s) ((i+1:Nat):Int)=some op∧0≤op∧(op=0↔cur T (opT (opsOf lv (([1,2,3,4,5,6,7,8,9,10,11,12,13,14]:List Nat).drop i))) s=false):=by
    refine xG ?_ ?_
    · rw [yV]
      refine ⟨0,by simp,by omega,?_⟩
      have:∀ x:Ps,cur T (opT []) x=false:=by intro x; unfold cur opT; cases T[x.at_]? <;> simp
      simpa [opsOf] using this s
    · intro i hi ih
      have hlt:i<([1,2,3,4,5,6,7,8,9,10,11,12,13,14]:List Nat).length:=hi
      have hget:([1,2,3,4,5,6,7,8,9,10,11,12,13,14]:List Nat)[i]=i+1:=by
        have:i=0∨i=1∨i=2∨i=3∨i=4∨i=5∨i=6∨i=7∨i=8∨i=9∨i=10∨i=11∨i=12∨i=13:=by omega
        rcases this with h | h | h | h | h | h | h | h | h | h | h | h | h | h <;> subst h <;> rfl
      have hle:((i+1:Nat):Int)≤14:=by omega
      have hw:IntKind.wrap .i64 (((i+1:Nat):Int)+1)=((i+1+1:Nat):Int):=by rw [fP (by omega) (by omega)]; omega
      obtain ⟨x,t1,t2⟩:=tok (i+1) (by omega) (by omega)
      rw [yV,List.drop_eq_getElem_cons hlt,hget,bQm]
      simp only [hle,decide_true,if_true,lev (i+1) (by omega) (by omega),Option.bind_eq_bind,Option.bind_some,V6,hw]
      generalize ([0,1,2,4,4,4,4,4,4,5,6,6,7,7,7]:List Int)[i+1]?.getD 0=q
      by_cases hq:q=lv
      · simp only [hq,decide_true,Bool.not_true,Bool.false_eq_true,if_false,if_true,t1,aD0 hT h,Option.bind_some]
        have hc:=aBh (T:=T) (isT (if ((i+1:Nat):Int)=1∨((i+1:Nat):Int)=2 then 1 else 5) x) (aEf _ x (by split <;> decide)) s
        have hb:(if decide ((nxt T s).kind=(if ((i+1:Nat):Int)=1∨((i+1:Nat):Int)=2 then 1 else 5))=true then decide ((nxt T s).text=x) else false)=isT (if ((i+1:Nat):Int)=1∨((i+1:Nat):Int)=2 then 1 else 5) x (nxt T s):=by
          unfold isT
          cases decide ((nxt T s).kind=(if ((i+1:Nat):Int)=1∨((i+1:Nat):Int)=2 then 1 else 5)) <;> rfl
        rw [hb,hc]
        have hcc:∀ r:List Int,cur T (opT (((i+1:Nat):Int)::r)) s=(cur T (isT (if ((i+1:Nat):Int)=1∨((i+1:Nat):Int)=2 then 1 else 5) x) s||cur T (opT r) s):=by
          intro r
          unfold cur opT
          cases T[s.at_]? with
          | none=>simp
          | some y=>simp only [any_cons,t2]; cases s.f <;> simp
        rw [hcc]
        cases cur T (isT (if ((i+1:Nat):Int)=1∨((i+1:Nat):Int)=2 then 1 else 5) x) s with
        | true=>exact ⟨((i+1:Nat):Int),rfl,by omega,by simp; omega⟩
        | false=>simpa only [Bool.false_or,Bool.false_eq_true,if_false] using ih
      · simp only [hq,decide_false,Bool.not_false,if_true,if_false]
        exact ih
  have:=key 0 (by omega)
  rw [vW]
  obtain ⟨op,h1,h2,h3⟩:=this
  refine ⟨op,h1,h2,?_⟩
  have e:opsOf lv (([1,2,3,4,5,6,7,8,9,10,11,12,13,14]:List Nat).drop 0)=l:=by
    simp only [List.mem_cons,Prod.mk.injEq,List.not_mem_nil,or_false] at hl
    rcases hl with ⟨rfl,rfl⟩ | ⟨rfl,rfl⟩ | ⟨rfl,rfl⟩ | ⟨rfl,rfl⟩ | ⟨rfl,rfl⟩ | ⟨rfl,rfl⟩ <;> decide
  rw [e] at h3
  exact h3
inductive Pr where
  | nop
  | bd
  | mst (c:aJ→Bool)
  | ite (c:aJ→Bool) (a b:Pr)
  | tst (c:aJ→Bool) (a b:Pr)
  | seq (a b:Pr)
  | call (k:Nat)
  | lp (c:aJ→Bool) (a:Pr)
  | lp2 (c:aJ→Bool) (a:Pr) (c2:aJ→Bool) (a2:Pr)
  | st3
def mR (T:List aJ) (s:Ps):Bool:=cur T (gG 2) s&&cur T (eX [46]) ⟨s.at_+1,s.f⟩&&cur T (eX [42]) ⟨s.at_+2,s.f⟩
def pAs:Pr:=.ite (dD [65,83]) (.mst (gG 2)) .nop
def vL:Pr:=.seq (.mst (gG 2)) pAs
def bSz:Pr:=.seq vL (.lp2 (eX [44]) vL (dD [74,79,73,78]) (.seq vL (.seq (.mst (dD [79,78])) (.call 8))))
def aKw:Pr:=.ite (dD [87,72,69,82,69]) (.call 8) .nop
def E9:Pr:=.seq (.call 8) (.ite (dD [65,83,67]) .nop (.ite (dD [68,69,83,67]) .nop .nop))
def bHy:Pr:=.seq (.call 8) (.lp (eX [44]) (.call 8))
def pIn:Pr:=.seq (.mst (eX [40])) (.seq (.tst (dD [83,69,76,69,67,84]) (.call 9) bHy) (.mst (eX [41])))
def pX (n:Bool):Pr:=.ite (dD [66,69,84,87,69,69,78]) (.seq (.call 4) (.seq (.mst (dD [65,78,68])) (.call 4))) (.ite (dD [73,78]) pIn (if n=true then .bd else .nop))
def body:Nat→Pr
  | 0 => .ite (gG 3) .nop (.ite (gG 4) .nop (.ite (dD [78, 85, 76, 76]) .nop (.ite (dD [84, 82, 85, 69]) .nop (.ite (dD [70, 65, 76, 83, 69]) .nop (.ite (gG 2) (.ite (eX [46]) (.mst (gG 2)) .nop)
      (.ite (eX [40]) (.seq (.call 8) (.mst (eX [41]))) (.ite (dD [69,88,73,83,84,83]) (.seq (.mst (eX [40])) (.seq (.call 9) (.mst (eX [41])))) .bd)))))))
  | 1=>.ite (eX [45]) (.call 1) (.call 0)
  | 2=>.seq (.call 1) (.lp (opT [12,13,14]) (.call 1))
  | 3=>.seq (.call 2) (.lp (opT [10,11]) (.call 2))
  | 4=>.seq (.call 3) (.lp (opT [9]) (.call 3))
  | 5=>.seq (.call 4) (.ite (opT [3,4,5,6,7,8]) (.call 4) (.ite (dD [73,83]) (.seq (.ite (dD [78,79,84]) .nop .nop) (.mst (dD [78,85,76,76]))) (.ite (dD [78,79,84]) (pX true) (pX false))))
  | 6=>.ite (dD [78,79,84]) (.call 6) (.call 5)
  | 7=>.seq (.call 6) (.lp (opT [2]) (.call 6))
  | 8=>.seq (.call 7) (.lp (opT [1]) (.call 7))
  | 9 => .seq (.mst (dD [83, 69, 76, 69, 67, 84])) (.seq (.ite (dD [68, 73, 83, 84, 73, 78, 67, 84]) .nop .nop) (.seq (.call 10) (.seq (.lp (eX [44]) (.call 10)) (.seq (.mst (dD [70, 82, 79, 77])) (.seq bSz (.seq aKw
      (.seq (.ite (dD [79,82,68,69,82]) (.seq (.mst (dD [66,89])) (.seq E9 (.lp (eX [44]) E9))) .nop) (.ite (dD [76,73,77,73,84]) (.mst (gG 3)) .nop))))))))
  | _=>.ite (eX [42]) .nop .st3
inductive Evp (T:List aJ):Pr→Ps→Ps→Prop
  | nop {s}:Evp T .nop s s
  | bd {s}:Evp T .bd s (bad s)
  | mst {c s}:Evp T (.mst c) s (mu T c s)
  | iteT {c a b s s'}:cur T c s=true→Evp T a (adv s) s'→Evp T (.ite c a b) s s'
  | iteF {c a b s s'}:cur T c s=false→Evp T b s s'→Evp T (.ite c a b) s s'
  | tstT {c a b s s'}:cur T c s=true→Evp T a s s'→Evp T (.tst c a b) s s'
  | tstF {c a b s s'}:cur T c s=false→Evp T b s s'→Evp T (.tst c a b) s s'
  | seq {a b s s1 s2}:Evp T a s s1→Evp T b s1 s2→Evp T (.seq a b) s s2
  | call {k s s'}:Evp T (body k) s s'→Evp T (.call k) s s'
  | lpT {c a s s1 s2}:cur T c s=true→Evp T a (adv s) s1→Evp T (.lp c a) s1 s2→Evp T (.lp c a) s s2
  | lpF {c a s}:cur T c s=false→Evp T (.lp c a) s s
  | lp2A {c a c2 a2 s s1 s2}:cur T c s=true→Evp T a (adv s) s1→Evp T (.lp2 c a c2 a2) s1 s2→Evp T (.lp2 c a c2 a2) s s2
  | lp2B {c a c2 a2 s s1 s2}:cur T c s=false→cur T c2 s=true→Evp T a2 (adv s) s1→Evp T (.lp2 c a c2 a2) s1 s2→Evp T (.lp2 c a c2 a2) s s2
  | lp2F {c a c2 a2 s}:cur T c s=false→cur T c2 s=false→Evp T (.lp2 c a c2 a2) s s
  | st3T {s}:mR T s=true→Evp T .st3 s ⟨s.at_+3,s.f⟩
  | st3F {s s'}:mR T s=false→Evp T (.seq (.call 8) pAs) s s'→Evp T .st3 s s'
variable {T:List aJ}
theorem aRr {s:Ps} (h:s.f=true):bad s=s:=by obtain ⟨a,f⟩:=s; dsimp only at h; subst h; rfl
theorem Evp.mono {p:Pr} {s s':Ps} (h:Evp T p s s'):In T s→s.at_≤s'.at_∧In T s'∧(s.f=true→s'=s):=by
  have hadv:∀ {c s},cur T c s=true→In T (adv s)∧(adv s).at_=s.at_+1∧s.f=false:=fun {c s} h=>by
    obtain ⟨h1,h2⟩:=nZ h
    exact ⟨h1,rfl,h2⟩
  have no:∀ {s:Ps} {q:Prop},s.f=false→s.f=true→q:=fun {s q} h1 h2=>by rw [h1] at h2; exact absurd h2 (by simp)
  induction h with
  | nop=>intro hi; exact ⟨Nat.le_refl _,hi,fun _=>rfl⟩
  | bd=>intro hi; exact ⟨Nat.le_refl _,hi,fun h=>aRr h⟩
  | @mst c s =>
    intro hi
    unfold mu
    cases hc:cur T c s with
    | true=>obtain ⟨a,b,d⟩:=hadv hc; exact ⟨by simp only [if_true]; omega,by simpa using a,fun h=>no d h⟩
    | false=>exact ⟨Nat.le_refl _,hi,fun h=>aRr h⟩
  | iteT hc _ ih=>intro hi; obtain ⟨a,b,d⟩:=hadv hc; obtain ⟨h1,h2,h3⟩:=ih a; exact ⟨by omega,h2,fun h=>no d h⟩
  | iteF hc _ ih=>exact ih
  | tstT hc _ ih=>exact ih
  | tstF hc _ ih=>exact ih
  | seq _ _ ih1 ih2 =>
    intro hi
    obtain ⟨a1,a2,a3⟩:=ih1 hi
    obtain ⟨b1,b2,b3⟩:=ih2 a2
    exact ⟨by omega,b2,fun h=>by have e:=a3 h; rw [← e] at h; rw [b3 h,e]⟩
  | call _ ih=>exact ih
  | lpT hc _ _ ih1 ih2=>intro hi; obtain ⟨a,b,d⟩:=hadv hc; obtain ⟨h1,h2,h3⟩:=ih1 a; obtain ⟨k1,k2,k3⟩:=ih2 h2; exact ⟨by omega,k2,fun h=>no d h⟩
  | lpF hc=>intro hi; exact ⟨Nat.le_refl _,hi,fun _=>rfl⟩
  | lp2A hc _ _ ih1 ih2=>intro hi; obtain ⟨a,b,d⟩:=hadv hc; obtain ⟨h1,h2,h3⟩:=ih1 a; obtain ⟨k1,k2,k3⟩:=ih2 h2; exact ⟨by omega,k2,fun h=>no d h⟩
  | lp2B _ hc _ _ ih1 ih2=>intro hi; obtain ⟨a,b,d⟩:=hadv hc; obtain ⟨h1,h2,h3⟩:=ih1 a; obtain ⟨k1,k2,k3⟩:=ih2 h2; exact ⟨by omega,k2,fun h=>no d h⟩
  | lp2F _ hc=>intro hi; exact ⟨Nat.le_refl _,hi,fun _=>rfl⟩
  | @st3T s hc =>
    intro hi
    unfold mR at hc
    simp only [Bool.and_eq_true] at hc
    obtain ⟨h1,h2⟩:=nZ hc.2
    exact ⟨by dsimp only; omega,by show s.at_+3≤T.length; dsimp only at h1; omega,fun h=>no h2 h⟩
  | st3F hc _ ih=>exact ih
def rem (T:List aJ) (s:Ps):Nat:=if s.f=true then 0 else T.length - s.at_+1
theorem jA {c:aJ→Bool} {s:Ps} (h:cur T c s=true):rem T (adv s)<rem T s∧In T (adv s):=by
  obtain ⟨h1,h2⟩:=nZ h
  unfold rem adv
  rw [h2]
  exact ⟨by simp; omega,h1⟩
theorem Evp.rem_le {p:Pr} {s s':Ps} (h:Evp T p s s') (hi:In T s):rem T s'≤rem T s∧In T s'∧s.at_≤s'.at_:=by
  obtain ⟨h1,h2,h3⟩:=h.mono hi
  refine ⟨?_,h2,h1⟩
  cases hf:s.f with
  | true=>rw [h3 hf]; exact Nat.le_refl _
  | false =>
    unfold rem
    rw [hf]
    split <;> simp <;> omega
def Both (T:List aJ) (k:Nat) (I:aL→Option (aA×aL)) (S:aU→Option (aA×aU)) (s:Ps):Prop :=
  ∃ s',Evp T (.call k) s s'∧(∃ e,I (PI T s)=some (e,PI T s'))∧∃ e,S (PR T s)=some (e,PR T s')
theorem aAx (hT : Tok T) {m : Nat} {A I : aL → Option (aA × aL)} {C : aL → List Int → Option (aA × aL)} {L : List Int → Int → Int → Bool → Int → Int → (List UInt8 × (List UInt8 × (List UInt8 × (List aA × (List aX × (List aJ × (Int × Bool))))))) → Option (aA × aL)} {ops : List Int} {lv : Int} {kA k : Nat}
    (hI:∀ p,I p=(C p ops>>=fun (y1:aA×aL)=>some (y1.1,y1.2)))
    (hC:∀ p,C p ops=(A p>>=fun (y1:aA×aL)=>L ops y1.1.kind y1.1.op y1.1.not_ y1.1.value.kind y1.1.value.num (y1.1.value.text,y1.1.qual,y1.1.name,y1.1.kids,y1.1.sub,y1.2.list,y1.2.at_,y1.2.failed)))
    (hL:∀ b0 b1 b2 b3 b4 q,L ops b0 b1 b2 b3 b4 q=((nU (aL.mk q.2.2.2.2.2.1 q.2.2.2.2.2.2.1 q.2.2.2.2.2.2.2) ops)>>=fun (y2:Int×aL)=>if (decide (y2.1=0))=true then (some ((aA.mk b0 b1 b2 (bJ.mk b3 b4 q.1) q.2.1 q.2.2.1 q.2.2.2.1 q.2.2.2.2.1),y2.2)) else ((A y2.2)>>=fun (y3:aA×aL)=>(rD y2.1 (aA.mk b0 b1 b2 (bJ.mk b3 b4 q.1) q.2.1 q.2.2.1 q.2.2.2.1 q.2.2.2.2.1) y3.1)>>=fun (y4:aA)=>L ops y4.kind y4.op y4.not_ y4.value.kind y4.value.num (y4.value.text,y4.qual,y4.name,y4.kids,y4.sub,y3.2.list,y3.2.at_,y3.2.failed)))) 
    (hlv:(lv,ops) ∈ ([(1,[1]),(2,[2]),(4,[3,4,5,6,7,8]),(5,[9]),(6,[10,11]),(7,[12,13,14])]:List (Int×List Int))) (h4:lv≠4)
    (hb:body k=.seq (.call kA) (.lp (opT ops) (.call kA)))
    (H:∀ s,In T s→rem T s≤m→Both T kA A (fun r=>fE r (lv+1)) s):∀ s,In T s→rem T s≤m→Both T k I (fun r=>fE r lv) s:=by
  have hops:ops.length≤100∧(∀ o ∈ ops,o≠0)∧lv≠3∧lv≠8∧IntKind.wrap .i64 (lv+1)=lv+1:=by
    simp only [List.mem_cons,Prod.mk.injEq,List.not_mem_nil,or_false] at hlv
    rcases hlv with ⟨rfl,rfl⟩ | ⟨rfl,rfl⟩ | ⟨rfl,rfl⟩ | ⟨rfl,rfl⟩ | ⟨rfl,rfl⟩ | ⟨rfl,rfl⟩ <;> decide
  obtain ⟨o1,o2,o3,o8,ow⟩:=hops
  have loop : ∀ n, n ≤ m → ∀ s, In T s → rem T s ≤ n → ∃ s', Evp T (.lp (opT ops) (.call kA)) s s' ∧ (∀ b0 b1 b2 b3 b4 t q nm ks ss, ∃ e, L ops b0 b1 b2 b3 b4 (t, (q, (nm, (ks, (ss, (T, ((s.at_ : Int), s.f))))))) = some (e, PI T s')) ∧
      ∀ b0 b1 b2 b3 b4 t q nm ks ss,∃ e,yJ lv b0 b1 b2 b3 b4 (t,q,nm,ks,ss,T,(s.at_:Int),s.f)=some (e,PR T s'):=by
    intro n
    induction n with
    | zero =>
      intro _ s hi hr
      have hf:s.f=true:=by
        cases hf:s.f with
        | true=>rfl
        | false=>unfold rem at hr; rw [hf] at hr; simp at hr
      have hc:=aEx (T:=T) (c:=opT ops) hf
      refine ⟨s,.lpF hc,fun b0 b1 b2 b3 b4 t q nm ks ss=>?_,fun b0 b1 b2 b3 b4 t q nm ks ss=>?_⟩
      · obtain ⟨op,e1,e2⟩:=aJ7 hT hi ops o1 o2
        have h0:=e2.2 hc
        rw [hL,show nU (aL.mk T (s.at_:Int) s.f) ops=_ from e1]
        unfold tk
        rw [hc]
        simp only [h0,decide_true,if_true,Option.bind_eq_bind,Option.bind_some,Bool.false_eq_true,if_false]
        exact ⟨_,rfl⟩
      · rw [yJ]
        dsimp only
        rw [hf]
        exact ⟨_,by unfold PR; rw [hf]; rfl⟩
    | succ n ih =>
      intro hm s hi hr
      obtain ⟨op,e1,e2⟩:=aJ7 hT hi ops o1 o2
      obtain ⟨op',f1,f0,f2⟩:=aRb hT hi lv ops hlv
      cases hc:cur T (opT ops) s with
      | false =>
        have h0:=e2.2 hc
        have h0':=f2.2 hc
        refine ⟨s,.lpF hc,fun b0 b1 b2 b3 b4 t q nm ks ss=>?_,fun b0 b1 b2 b3 b4 t q nm ks ss=>?_⟩
        · rw [hL,show nU (aL.mk T (s.at_:Int) s.f) ops=_ from e1]
          unfold tk
          rw [hc]
          simp only [h0,decide_true,if_true,Option.bind_eq_bind,Option.bind_some,Bool.false_eq_true,if_false]
          exact ⟨_,rfl⟩
        · rw [yJ]
          dsimp only
          rw [show vW (aU.mk T (s.at_:Int) s.f) lv=_ from f1]
          simp only [h0',decide_true,if_true,Option.bind_eq_bind,Option.bind_some,aA7]
          cases hf:s.f <;> exact ⟨_,by unfold PR; rw [hf]; rfl⟩
      | true =>
        have hn0:op≠0:=fun h=>by rw [e2.1 h] at hc; exact absurd hc (by simp)
        have hn0':op'≠0:=fun h=>by rw [f2.1 h] at hc; exact absurd hc (by simp)
        obtain ⟨hr1,hi1⟩:=jA hc
        obtain ⟨s1,v1,⟨x1,p1⟩,x2,p2⟩:=H (adv s) hi1 (by omega)
        obtain ⟨r1,i1,_⟩:=v1.rem_le hi1
        obtain ⟨s2,v2,q1,q2⟩:=ih (by omega) s1 i1 (by omega)
        have hf:=(nZ hc).2
        refine ⟨s2,.lpT hc v1 v2,fun b0 b1 b2 b3 b4 t q nm ks ss=>?_,fun b0 b1 b2 b3 b4 t q nm ks ss=>?_⟩
        · rw [hL,show nU (aL.mk T (s.at_:Int) s.f) ops=_ from e1]
          unfold tk
          rw [hc]
          simp only [hn0,decide_false,if_true,Option.bind_eq_bind,Option.bind_some,Bool.false_eq_true,if_false,p1,rD]
          exact q1 _ _ _ _ _ _ _ _ _ _
        · rw [yJ]
          dsimp only
          rw [show vW (aU.mk T (s.at_:Int) s.f) lv=_ from f1,show gX (aU.mk T (s.at_:Int) s.f) true=_ from nS hT hc,hf]
          simp only [hn0',decide_false,if_true,Option.bind_eq_bind,Option.bind_some,Bool.false_eq_true,if_false,Bool.not_false,ow,p2]
          exact q2 _ _ _ _ _ _ _ _ _ _
  intro s hi hr
  obtain ⟨s1,v1,⟨x1,p1⟩,x2,p2⟩:=H s hi hr
  obtain ⟨r1,i1,_⟩:=v1.rem_le hi
  obtain ⟨s2,v2,q1,q2⟩:=loop m (Nat.le_refl _) s1 i1 (by omega)
  refine ⟨s2,.call (by rw [hb]; exact .seq v1 v2),?_,?_⟩
  · rw [hI,hC,p1]
    simp only [Option.bind_eq_bind,Option.bind_some]
    obtain ⟨e,he⟩:=q1 x1.kind x1.op x1.not_ x1.value.kind x1.value.num x1.value.text x1.qual x1.name x1.kids x1.sub
    rw [he]
    exact ⟨_,rfl⟩
  · dsimp only at p2 ⊢
    rw [fE]
    simp only [o3,h4,o8,decide_false,Bool.false_eq_true,if_false,ow,p2,Option.bind_eq_bind,Option.bind_some]
    exact q2 _ _ _ _ _ _ _ _ _ _
variable {T:List aJ}
theorem iG {c:aJ→Bool} {s:Ps} (h:cur T c s=true):tk T c s=adv s:=by unfold tk; rw [h]; rfl
theorem gL {c:aJ→Bool} {s:Ps} (h:cur T c s=false):tk T c s=s:=by unfold tk; rw [h]; rfl
theorem yI {c:aJ→Bool} {s:Ps} (h:In T s):In T (mu T c s)∧rem T (mu T c s)≤rem T s∧(rem T s≠0→rem T (mu T c s)<rem T s):=by
  have v:Evp T (.mst c) s (mu T c s):=.mst
  obtain ⟨a,b,_⟩:=v.rem_le h
  refine ⟨b,a,fun h0=>?_⟩
  unfold mu
  cases hc:cur T c s with
  | true=>exact (jA hc).1
  | false =>
    have e:rem T (bad s)=0:=by unfold rem bad; rfl
    show rem T (bad s)<rem T s
    rw [e]; exact Nat.pos_of_ne_zero h0
theorem aO6 {c:aJ→Bool} {s:Ps} (h:In T s):In T (tk T c s)∧rem T (tk T c s)≤rem T s:=by
  cases hc:cur T c s with
  | true=>rw [iG hc]; have:=jA hc; exact ⟨this.2,by omega⟩
  | false=>rw [gL hc]; exact ⟨h,Nat.le_refl _⟩
theorem aU6 {c:aJ→Bool} {s:Ps}:Evp T (.ite c .nop .nop) s (tk T c s):=by
  cases hc:cur T c s with
  | true=>rw [iG hc]; exact .iteT hc .nop
  | false=>rw [gL hc]; exact .iteF hc .nop
theorem bAa (hT:Tok T):∀ m,(∀ s,In T s→rem T s≤m→Both T 0 A8 I1 s)→∀ s,In T s→rem T s≤m→Both T 1 uA (fun r=>fE r 8) s:=by
  intro m
  induction m with
  | zero =>
    intro H s hi hr
    obtain ⟨s',v,⟨x,p⟩,y,q⟩:=H s hi hr
    have hc:cur T (eX [45]) s=false:=by
      cases h:cur T (eX [45]) s with
      | false=>rfl
      | true=>have:=(jA h).1; omega
    refine ⟨s',.call (.iteF hc v),?_,?_⟩
    · rw [uA,mQ hT hi,hc,gL hc]
      simp only [Option.bind_eq_bind,Option.bind_some,Bool.false_eq_true,if_false,p]
      exact ⟨_,rfl⟩
    · dsimp only
      rw [fE,jM hT hi,hc]
      simp only [Int.reduceEq,decide_false,decide_true,if_true,Option.bind_eq_bind,Option.bind_some,Bool.false_eq_true,if_false,q]
      exact ⟨_,rfl⟩
  | succ m ih =>
    intro H s hi hr
    cases hc:cur T (eX [45]) s with
    | false =>
      obtain ⟨s',v,⟨x,p⟩,y,q⟩:=H s hi hr
      refine ⟨s',.call (.iteF hc v),?_,?_⟩
      · rw [uA,mQ hT hi,hc,gL hc]
        simp only [Option.bind_eq_bind,Option.bind_some,Bool.false_eq_true,if_false,p]
        exact ⟨_,rfl⟩
      · dsimp only
        rw [fE,jM hT hi,hc]
        simp only [Int.reduceEq,decide_false,decide_true,if_true,Option.bind_eq_bind,Option.bind_some,Bool.false_eq_true,if_false,q]
        exact ⟨_,rfl⟩
    | true =>
      obtain ⟨r1,i1⟩:=jA hc
      obtain ⟨s',v,⟨x,p⟩,y,q⟩:=ih (fun s hi hr=>H s hi (by omega)) (adv s) i1 (by omega)
      refine ⟨s',.call (.iteT hc v),?_,?_⟩
      · rw [uA,mQ hT hi,hc,iG hc]
        simp only [Option.bind_eq_bind,Option.bind_some,if_true,p]
        exact ⟨_,rfl⟩
      · dsimp only at q ⊢
        rw [fE,jM hT hi,hc]
        simp only [Int.reduceEq,decide_false,decide_true,if_true,Option.bind_eq_bind,Option.bind_some,Bool.false_eq_true,if_false]
        rw [nS hT hc]
        simp only [Option.bind_some,q]
        exact ⟨_,rfl⟩
theorem bCo (hT:Tok T):∀ m,(∀ s,In T s→rem T s≤m→Both T 5 xA (fun r=>fE r 4) s)→∀ s,In T s→rem T s≤m→Both T 6 sQ (fun r=>fE r 3) s:=by
  have kt:gY 15=some [78,79,84]:=rfl
  have low:∀ s,In T s→cur T (dD [78,79,84]) s=false→Both T 5 xA (fun r=>fE r 4) s→Both T 6 sQ (fun r=>fE r 3) s:=by
    rintro s hi hc ⟨s',v,⟨x,p⟩,y,q⟩
    refine ⟨s',.call (.iteF hc v),?_,?_⟩
    · rw [sQ,jU hT hi,hc,gL hc]
      simp only [Option.bind_eq_bind,Option.bind_some,Bool.false_eq_true,if_false,p]
      exact ⟨_,rfl⟩
    · dsimp only at q ⊢
      rw [fE,kR hT hi 15 _ kt,hc,gL hc]
      simp only [decide_true,if_true,Option.bind_eq_bind,Option.bind_some,Bool.false_eq_true,if_false,q]
      exact ⟨_,rfl⟩
  intro m
  induction m with
  | zero =>
    intro H s hi hr
    refine low s hi ?_ (H s hi hr)
    cases h:cur T (dD [78,79,84]) s with
    | false=>rfl
    | true=>have:=(jA h).1; omega
  | succ m ih =>
    intro H s hi hr
    cases hc:cur T (dD [78,79,84]) s with
    | false=>exact low s hi hc (H s hi hr)
    | true =>
      obtain ⟨r1,i1⟩:=jA hc
      obtain ⟨s',v,⟨x,p⟩,y,q⟩:=ih (fun s hi hr=>H s hi (by omega)) (adv s) i1 (by omega)
      refine ⟨s',.call (.iteT hc v),?_,?_⟩
      · rw [sQ,jU hT hi,hc,iG hc]
        simp only [Option.bind_eq_bind,Option.bind_some,if_true,p]
        exact ⟨_,rfl⟩
      · dsimp only at q ⊢
        rw [fE,kR hT hi 15 _ kt,hc,iG hc]
        simp only [decide_true,if_true,Option.bind_eq_bind,Option.bind_some,Bool.false_eq_true,if_false,q]
        exact ⟨_,rfl⟩
def mJ {α β:Type} (T:List aJ) (p:Pr) (I:aL→Option (α×aL)) (S:aU→Option (β×aU)) (s:Ps):Prop :=
  ∃ s',Evp T p s s'∧(∃ e,I (PI T s)=some (e,PI T s'))∧∃ e,S (PR T s)=some (e,PR T s')
theorem aXd (hT:Tok T) (s:Ps) (hi:In T s):mJ T pAs Y8 Y2 s:=by
  have kt:gY 12=some [65,83]:=rfl
  unfold mJ pAs
  rw [Y8,Y2,jU hT hi,kR hT hi 12 _ kt]
  cases hc:cur T (dD [65,83]) s with
  | false=>rw [gL hc]; exact ⟨s,.iteF hc .nop,⟨_,rfl⟩,_,rfl⟩
  | true =>
    rw [iG hc]
    obtain ⟨_,i1⟩:=jA hc
    obtain ⟨x,p,_⟩:=zT hT i1 2
    obtain ⟨y,q⟩:=vT hT i1 2 (by decide)
    refine ⟨_,.iteT hc .mst,?_,?_⟩
    · simp only [Option.bind_eq_bind,Option.bind_some,if_true,p]; exact ⟨_,rfl⟩
    · simp only [Option.bind_eq_bind,Option.bind_some,if_true,q]; exact ⟨_,rfl⟩
theorem aL7 (hT:Tok T) (s:Ps) (hi:In T s):mJ T vL zL U4 s:=by
  unfold mJ vL
  obtain ⟨x,p,_⟩:=zT hT hi 2
  obtain ⟨y,q⟩:=vT hT hi 2 (by decide)
  obtain ⟨i1,_,_⟩:=yI (c:=gG 2) hi
  obtain ⟨s',v,⟨a,pa⟩,b,qb⟩:=aXd hT _ i1
  rw [zL,U4,p,q]
  simp only [Option.bind_eq_bind,Option.bind_some,pa,qb]
  exact ⟨s',.seq .mst v,⟨_,rfl⟩,_,rfl⟩
theorem bS5 (hT:Tok T) {m:Nat} (H:∀ s,In T s→rem T s≤m→Both T 8 jX (fun r=>fE r 1) s) (s:Ps) (hi:In T s) (hr:rem T s≤m):mJ T aKw L8 Q4 s:=by
  have kt:gY 6=some [87,72,69,82,69]:=rfl
  unfold mJ aKw
  rw [L8,Q4,jU hT hi,kR hT hi 6 _ kt]
  cases hc:cur T (dD [87,72,69,82,69]) s with
  | false=>rw [gL hc]; exact ⟨s,.iteF hc .nop,⟨_,rfl⟩,_,rfl⟩
  | true =>
    rw [iG hc]
    obtain ⟨r1,i1⟩:=jA hc
    obtain ⟨s',v,⟨x,p⟩,y,q⟩:=H _ i1 (by omega)
    dsimp only at q
    refine ⟨s',.iteT hc v,?_,?_⟩
    · simp only [Option.bind_eq_bind,Option.bind_some,if_true,p]; exact ⟨_,rfl⟩
    · simp only [Option.bind_eq_bind,Option.bind_some,if_true,q]; exact ⟨_,rfl⟩
theorem aCh {c c2:aJ→Bool} {s:Ps} (h:cur T c s=true) (hd:∀ t,c t=true→c2 t=false):cur T c2 s=false:=by
  obtain ⟨h1,h2⟩:=nZ h
  rw [aMx h1 h2] at h ⊢
  exact hd _ h
theorem aJ4 {k k2:Int} {w w2:List UInt8} (h:k≠k2∨w≠w2):∀ t,isT k w t=true→isT k2 w2 t=false:=by
  intro t ht
  unfold isT at *
  simp only [Bool.and_eq_true,decide_eq_true_eq] at ht
  obtain ⟨rfl,rfl⟩:=ht
  rcases h with h | h <;> simp [h]
theorem aPa (hT:Tok T) {m:Nat} (H:∀ s,In T s→rem T s≤m→Both T 8 jX (fun r=>fE r 1) s) (s:Ps) (hi:In T s) (hr:rem T s≤m):mJ T E9 zR zG s:=by
  have kd:gY 10=some [68,69,83,67]:=rfl
  have ka:gY 9=some [65,83,67]:=rfl
  unfold mJ E9
  obtain ⟨s1,v,⟨x,p⟩,y,q⟩:=H s hi hr
  dsimp only at q
  obtain ⟨_,i1,_⟩:=v.rem_le hi
  rw [zR,zG,p,q]
  simp only [Option.bind_eq_bind,Option.bind_some]
  rw [jU hT i1,kR hT i1 10 _ kd]
  simp only [Option.bind_some,aB5]
  cases ha:cur T (dD [65,83,67]) s1 with
  | true =>
    have hd:cur T (dD [68,69,83,67]) s1=false:=aCh ha (aJ4 (.inr (by decide)))
    rw [iG ha,hd,gL hd]
    simp only [Bool.not_true,Bool.false_eq_true,if_false]
    rw [kR hT i1 9 _ ka,ha,iG ha]
    exact ⟨adv s1,.seq v (.iteT ha .nop),⟨_,rfl⟩,_,rfl⟩
  | false =>
    rw [gL ha]
    simp only [Bool.not_false,if_true]
    rw [jU hT i1]
    cases hd:cur T (dD [68,69,83,67]) s1 with
    | true =>
      rw [iG hd]
      exact ⟨adv s1,.seq v (.iteF ha (.iteT hd .nop)),⟨_,rfl⟩,_,rfl⟩
    | false =>
      rw [gL hd]
      simp only [Bool.false_eq_true,if_false]
      rw [kR hT i1 9 _ ka,ha,gL ha]
      exact ⟨s1,.seq v (.iteF ha (.iteF hd .nop)),⟨_,rfl⟩,_,rfl⟩
variable {T:List aJ}
theorem aNp {c:aJ→Bool} {s:Ps} (h:rem T s≤0):cur T c s=false:=by
  cases hc:cur T c s with
  | false=>rfl
  | true=>have:=(jA hc).1; omega
theorem aNn (hT : Tok T) {m : Nat} {α β γ δ : Type} {pX : Pr} {I : aL → Option (α × aL)} {S : aU → Option (β × aU)} {bi bs : Nat} {FI : List α → List aJ → Int → Bool → Option γ} {FS : List β → List aJ → Int → Bool → Option δ}
    (hFI:∀ (l:List α) (s:Ps),In T s→l.length≤s.at_+1→cur T (eX [44]) s=true→FI l T (s.at_:Int) s.f=(I (PI T (adv s))>>=fun (y:α×aL)=>(appG bi l ([y.1]:List α))>>=fun l'=>FI l' y.2.list y.2.at_ y.2.failed))
    (hFS:∀ (l:List β) (s:Ps),In T s→l.length≤s.at_+1→cur T (eX [44]) s=true→FS l T (s.at_:Int) s.f=(S (PR T (adv s))>>=fun (y:β×aU)=>(appG bs l ([y.1]:List β))>>=fun l'=>FS l' y.2.t y.2.at_ y.2.bad))
    (hbi:bi≤1000) (hbs:bs≤1000) (H:∀ s,In T s→rem T s≤m→mJ T pX I S s) :
    ∀ n,n≤m→∀ s,In T s→rem T s≤n→∃ s',Evp T (.lp (eX [44]) pX) s s'∧cur T (eX [44]) s'=false∧(∀ l:List α,l.length≤s.at_+1→∃ l':List α,l'.length≤s'.at_+1∧FI l T (s.at_:Int) s.f=FI l' T (s'.at_:Int) s'.f) ∧
      ∀ l:List β,l.length≤s.at_+1→∃ l':List β,l'.length≤s'.at_+1∧FS l T (s.at_:Int) s.f=FS l' T (s'.at_:Int) s'.f:=by
  have room:∀ {α:Type} {b:Nat} (l:List α) (x:α) (s:Ps),In T s→b≤1000→l.length≤s.at_+1→appG b l [x]=some (l++[x]):=by
    intro α b l x s hi hb hl
    have h1:=hT.1
    have h2:s.at_≤T.length:=hi
    refine rG ?_
    have:(l.length+[x].length) * b≤1048578 * 1000:=Nat.mul_le_mul (by simp; omega) hb
    omega
  intro n
  induction n with
  | zero =>
    intro _ s hi hr
    have hc:=aNp (T:=T) (c:=eX [44]) hr
    exact ⟨s,.lpF hc,hc,fun l hl=>⟨l,hl,rfl⟩,fun l hl=>⟨l,hl,rfl⟩⟩
  | succ n ih =>
    intro hm s hi hr
    cases hc:cur T (eX [44]) s with
    | false=>exact ⟨s,.lpF hc,hc,fun l hl=>⟨l,hl,rfl⟩,fun l hl=>⟨l,hl,rfl⟩⟩
    | true =>
      obtain ⟨r1,i1⟩:=jA hc
      obtain ⟨s1,v1,⟨x,p⟩,y,q⟩:=H (adv s) i1 (by omega)
      obtain ⟨r2,i2,a2⟩:=v1.rem_le i1
      have a3:s.at_+1≤s1.at_:=a2
      obtain ⟨s2,v2,c2,f1,f2⟩:=ih (by omega) s1 i2 (by omega)
      refine ⟨s2,.lpT hc v1 v2,c2,fun l hl=>?_,fun l hl=>?_⟩
      · obtain ⟨l',k1,k2⟩:=f1 (l++[x]) (by simp; omega)
        refine ⟨l',k1,?_⟩
        rw [hFI l s hi hl hc,p]
        simp only [Option.bind_eq_bind,Option.bind_some]
        rw [room l x s hi hbi hl]
        exact k2
      · obtain ⟨l',k1,k2⟩:=f2 (l++[y]) (by simp; omega)
        refine ⟨l',k1,?_⟩
        rw [hFS l s hi hl hc,q]
        simp only [Option.bind_eq_bind,Option.bind_some]
        rw [room l y s hi hbs hl]
        exact k2
theorem aX1 (hT:Tok T) {m:Nat} (H:∀ s,In T s→rem T s≤m→Both T 8 jX (fun r=>fE r 1) s) (s:Ps) (hi:In T s) (hr:rem T s≤m):mJ T (.call 10) yX H5 s:=by
  unfold mJ
  rw [yX,H5,mQ hT hi]
  have n1:nY (PR T s) 1=some (nxt T ⟨s.at_+1,s.f⟩):=aI8 hT hi 1 (by omega)
  have n2:nY (PR T s) 2=some (nxt T ⟨s.at_+2,s.f⟩):=aI8 hT hi 2 (by omega)
  have j1:pK (PI T s) 1 5 [46]=some (cur T (isT 5 [46]) ⟨s.at_+1,s.f⟩):=aAa hT hi 1 (by omega) 5 [46]
  have j2:pK (PI T s) 2 5 [42]=some (cur T (isT 5 [42]) ⟨s.at_+2,s.f⟩):=aAa hT hi 2 (by omega) 5 [42]
  rw [n1,n2]
  simp only [Option.bind_eq_bind,Option.bind_some]
  rw [jM hT hi]
  cases hs:cur T (eX [42]) s with
  | true =>
    rw [iG hs]
    simp only [if_true,Option.bind_some]
    rw [nS hT hs]
    exact ⟨adv s,.call (.iteT hs .nop),⟨_,rfl⟩,_,rfl⟩
  | false =>
    rw [gL hs]
    simp only [Bool.false_eq_true,if_false,Option.bind_some]
    rw [aCe hT hi,aBy hT hi _ (by decide),j1,j2]
    simp only [Option.bind_some]
    have e1:∀ (w:List UInt8) (d:Nat),(decide ((nxt T ⟨s.at_+d,s.f⟩).kind=5)&&decide ((nxt T ⟨s.at_+d,s.f⟩).text=w))=cur T (eX w) ⟨s.at_+d,s.f⟩:=fun w d=>aBh (eX w) (aEf 5 w (by decide)) ⟨s.at_+d,s.f⟩
    have d1:=e1 [46] 1
    have d2:=e1 [42] 2
    have hs3:mR T s=(cur T (gG 2) s&&cur T (isT 5 [46]) ⟨s.at_+1,s.f⟩&&cur T (isT 5 [42]) ⟨s.at_+2,s.f⟩):=rfl
    have d1:(decide ((nxt T ⟨s.at_+1,s.f⟩).kind=5)&&decide ((nxt T ⟨s.at_+1,s.f⟩).text=[46]))=cur T (isT 5 [46]) ⟨s.at_+1,s.f⟩:=d1
    have d2:(decide ((nxt T ⟨s.at_+2,s.f⟩).kind=5)&&decide ((nxt T ⟨s.at_+2,s.f⟩).text=[42]))=cur T (isT 5 [42]) ⟨s.at_+2,s.f⟩:=d2
    have key:∀ (A B:Prop),(mR T s=true→A)→(mR T s=false→A)→A:=fun A _ h1 h2=>by cases h:mR T s; exact h2 h; exact h1 h
    cases hst:mR T s with
    | true =>
      rw [hs3] at hst
      simp only [Bool.and_eq_true] at hst
      obtain ⟨⟨c0,c1⟩,c2⟩:=hst
      have hst:mR T s=true:=by rw [hs3,c0,c1,c2]; rfl
      rw [c1] at d1
      rw [c2] at d2
      simp only [Bool.and_eq_true,decide_eq_true_eq] at d1 d2
      obtain ⟨x,p,_⟩:=zT hT hi 2
      obtain ⟨y,q⟩:=vT hT hi 2 (by decide)
      have hm:mu T (gG 2) s=adv s:=by unfold mu; rw [c0]; rfl
      rw [hm] at p q
      obtain ⟨l2,hf⟩:=nZ c2
      have h1:=hT.1
      dsimp only at l2
      have c1':cur T (isT 5 [46]) (adv s)=true:=c1
      have c2':cur T (isT 5 [42]) (adv (adv s))=true:=c2
      refine ⟨⟨s.at_+3,s.f⟩,.call (.iteF hs (.st3T hst)),?_,?_⟩
      · simp only [c0,c1,c2,Bool.true_and,beq_self_eq_true,if_true,Option.bind_some,Bool.and_self]
        rw [p]
        simp only [Option.bind_some]
        have:IntKind.wrap .i64 (((adv s).at_:Int)+2)=((s.at_+3:Nat):Int):=by show IntKind.wrap .i64 (((s.at_+1:Nat):Int)+2)=_; rw [fP (by omega) (by omega)]; omega
        rw [this]
        exact ⟨_,rfl⟩
      · simp only [c0,d1.1,d1.2,d2.1,d2.2,decide_true,if_true]
        rw [q]
        simp only [Option.bind_some]
        rw [nS hT c1']
        simp only [Option.bind_some]
        rw [nS hT c2']
        exact ⟨_,rfl⟩
    | false =>
      obtain ⟨s1,v1,⟨x,p⟩,y,q⟩:=H s hi hr
      dsimp only at q
      obtain ⟨r1,i1,_⟩:=v1.rem_le hi
      obtain ⟨s2,v2,⟨a,pa⟩,b,qb⟩:=aXd hT s1 i1
      refine ⟨s2,.call (.iteF hs (.st3F hst (.seq v1 v2))),?_,?_⟩
      · have : ∀ (b0 b1 b2 : Bool) (X Y : Option (bU × aL)), (b0 && b1 && b2) = false → ((if (true && (b0 == true)) = true then some b1 else some (default : Bool)).bind fun y3 => (if (true && ((if b0 = true then y3 else false) == true)) = true then some b2 else some (default : Bool)).bind fun y5 => if (if (if b0 = true then y3 else false) = true then y5 else false) = true then X else Y) = Y := by
          intro b0 b1 b2 X Y h; cases b0 <;> cases b1 <;> cases b2 <;> first | rfl | simp at h
        rw [this _ _ _ _ _ (by rw [← hs3]; exact hst),p]
        simp only [Option.bind_some,pa]
        exact ⟨_,rfl⟩
      · have : ∀ (b0 k1 t1 k2 t2 : Bool) (X Y : Option (bU × aU)), (b0 && (k1 && t1) && (k2 && t2)) = false → (if (if (if (if (if b0 = true then k1 else false) = true then t1 else false) = true then k2 else false) = true then t2 else false) = true then X else Y) = Y := by
          intro b0 k1 t1 k2 t2 X Y h; cases b0 <;> cases k1 <;> cases t1 <;> cases k2 <;> cases t2 <;> first | rfl | simp at h
        rw [this _ _ _ _ _ _ _ (by rw [d1,d2,← hs3]; exact hst)]
        rw [q]
        simp only [Option.bind_some,qb]
        exact ⟨_,rfl⟩
variable {T:List aJ}
def aO5 (T:List aJ) (s:Ps):Prop:=∀ (x y:aA) (n:Bool),∃ s',Evp T pIn s s'∧(∃ e,aB6 (PI T s) x n=some (e,PI T s'))∧∃ e,aCf (PR T s) y n=some (e,PR T s')
theorem bId (hT:Tok T) {m:Nat} (H:∀ s,In T s→rem T s≤m→Both T 8 jX (fun r=>fE r 1) s) (HQ:∀ s,In T s→rem T s≤m→mJ T (.call 9) qV qP s) (s:Ps) (hi:In T s) (hr:rem T s≤m):aO5 T s:=by
  intro x0 y0 n
  have kS:gY 1=some [83,69,76,69,67,84]:=rfl
  obtain ⟨i1,r1,_⟩:=yI (c:=eX [40]) hi
  rw [aB6,aCf,Y9 hT hi,jM hT hi]
  simp only [Option.bind_eq_bind,Option.bind_some]
  rw [step_cur hT]
  simp only [Option.bind_some]
  rw [aTg hT i1,rP hT i1 1 _ kS]
  simp only [Option.bind_some]
  cases hc:cur T (dD [83,69,76,69,67,84]) (mu T (eX [40]) s) with
  | true =>
    obtain ⟨s2,v2,⟨q,pq⟩,q',pq'⟩:=HQ _ i1 (by omega)
    obtain ⟨r2,i2,_⟩:=v2.rem_le i1
    simp only [if_true,pq,pq',Option.bind_some,P7]
    rw [Y9 hT i2,jM hT i2]
    simp only [Option.bind_eq_bind,Option.bind_some]
    rw [step_cur hT]
    exact ⟨_,.seq .mst (.seq (.tstT hc v2) .mst),⟨_,rfl⟩,_,rfl⟩
  | false =>
    obtain ⟨s2,v2,⟨e,pe⟩,e',pe'⟩:=H _ i1 (by omega)
    dsimp only at pe'
    obtain ⟨r2,i2,a2⟩:=v2.rem_le i1
    have hlen:=hT.1
    obtain ⟨s3,v3,c3,f1,f2⟩:=aNn hT (m:=m) (pX:=.call 8) (I:=jX) (S:=fun r=>fE r 1) (bi:=136) (bs:=136) (FI:=F5) (FS:=fun l t a f=>H7 n (y0::l) t a f)
      (fun l s hi hl hc=>by
        rw [F5,mQ hT hi,hc,iG hc]
        simp only [Option.bind_eq_bind,Option.bind_some,if_true])
      (fun l s hi hl hc=>by
        rw [H7,jM hT hi,hc]
        simp only [Option.bind_eq_bind,Option.bind_some,if_true]
        rw [nS hT hc]
        simp only [Option.bind_some]
        have h1:=hT.1
        have h2:s.at_≤T.length:=hi
        refine congrArg (Option.bind (fE (PR T (adv s)) 1)) (funext fun z=>?_)
        have a1:appG 136 l [z.1]=some (l++[z.1]):=rG (by simp; omega)
        have a2:appG 136 (y0::l) [z.1]=some (y0::(l++[z.1])):=by rw [rG (by simp; omega),List.cons_append]
        rw [a1,a2,Option.bind_some,Option.bind_some])
      (by omega) (by omega) (fun s hi hr=>H s hi hr) m (Nat.le_refl _) s2 i2 (by omega)
    obtain ⟨r3,i3,a3⟩:=v3.rem_le i2
    obtain ⟨l1,k1,g1⟩:=f1 [e] (by simp)
    obtain ⟨l2,k2,g2⟩:=f2 [e'] (by simp)
    have i3':s3.at_≤T.length:=i3
    refine ⟨mu T (eX [41]) s3,.seq .mst (.seq (.tstF hc (.seq v2 v3)) .mst),?_,?_⟩
    · simp only [Bool.false_eq_true,if_false,Option.bind_some]
      rw [aG0,pe]
      simp only [Option.bind_eq_bind,Option.bind_some]
      rw [g1,F5,mQ hT i3,c3,gL c3]
      simp only [Option.bind_eq_bind,Option.bind_some,Bool.false_eq_true,if_false]
      have ap:appG 136 [x0] l1=some ([x0]++l1):=rG (by simp; omega)
      rw [ap]
      simp only [Option.bind_some,P7]
      rw [Y9 hT i3]
      exact ⟨_,rfl⟩
    · simp only [Bool.false_eq_true,if_false,pe',Option.bind_some]
      rw [g2,H7,jM hT i3,c3]
      simp only [Option.bind_eq_bind,Option.bind_some,Bool.false_eq_true,if_false]
      rw [jM hT i3]
      simp only [Option.bind_some]
      rw [step_cur hT]
      exact ⟨_,rfl⟩
theorem aF8 (hT:Tok T) {s:Ps} (hi:In T s) (l:List bR) (x:bR) (hl:l.length≤s.at_+1):appG 56 l [x]=some (l++[x]):=by
  have h1:=hT.1
  have h2:s.at_≤T.length:=hi
  exact rG (by simp; omega)
theorem bMa (hT : Tok T) {m : Nat} (H : ∀ s, In T s → rem T s ≤ m → Both T 8 jX (fun r => fE r 1) s) (y3 : Bool × aU) (its : List bU) :
    ∀ n,n≤m→∀ s,In T s→rem T s≤n→∃ s',Evp T (.lp2 (eX [44]) vL (dD [74,79,73,78]) (.seq vL (.seq (.mst (dD [79,78])) (.call 8)))) s s'∧cur T (eX [44]) s'=false∧cur T (dD [74,79,73,78]) s'=false ∧
      (∀ l:List bR,l.length≤s.at_+1→∃ l',sF l T (s.at_:Int) s.f=some (l',PI T s'))∧∀ l:List bR,l.length≤s.at_+1→∃ l',qR y3 its l T (s.at_:Int) s.f=qR y3 its l' T (s'.at_:Int) s'.f:=by
  have kJ:gY 4=some [74,79,73,78]:=rfl
  have kO:gY 5=some [79,78]:=rfl
  have stop : ∀ s, In T s → cur T (eX [44]) s = false → cur T (dD [74, 79, 73, 78]) s = false → ∃ s', Evp T (.lp2 (eX [44]) vL (dD [74, 79, 73, 78]) (.seq vL (.seq (.mst (dD [79, 78])) (.call 8)))) s s' ∧ cur T (eX [44]) s' = false ∧ cur T (dD [74, 79, 73, 78]) s' = false ∧
      (∀ l:List bR,l.length≤s.at_+1→∃ l',sF l T (s.at_:Int) s.f=some (l',PI T s'))∧∀ l:List bR,l.length≤s.at_+1→∃ l',qR y3 its l T (s.at_:Int) s.f=qR y3 its l' T (s'.at_:Int) s'.f:=by
    intro s hi h1 h2
    refine ⟨s,.lp2F h1 h2,h1,h2,fun l _=>?_,fun l _=>⟨l,rfl⟩⟩
    rw [sF,mQ hT hi,h1,gL h1]
    simp only [Option.bind_eq_bind,Option.bind_some,Bool.false_eq_true,if_false]
    rw [jU hT hi,h2,gL h2]
    exact ⟨_,rfl⟩
  intro n
  induction n with
  | zero=>intro _ s hi hr; exact stop s hi (aNp hr) (aNp hr)
  | succ n ih =>
    intro hm s hi hr
    cases hc:cur T (eX [44]) s with
    | true =>
      have hj:cur T (dD [74,79,73,78]) s=false:=aCh hc (aJ4 (.inl (by decide)))
      obtain ⟨r1,i1⟩:=jA hc
      obtain ⟨s1,v1,⟨x,p⟩,y,q⟩:=aL7 hT (adv s) i1
      obtain ⟨r2,i2,a2⟩:=v1.rem_le i1
      have a2:s.at_+1≤s1.at_:=a2
      obtain ⟨s2,v2,c1,c2,f1,f2⟩:=ih (by omega) s1 i2 (by omega)
      refine ⟨s2,.lp2A hc v1 v2,c1,c2,fun l hl=>?_,fun l hl=>?_⟩
      · obtain ⟨l',e⟩:=f1 (l++[x]) (by simp; omega)
        rw [sF,mQ hT hi,hc,iG hc]
        simp only [Option.bind_eq_bind,Option.bind_some,if_true,p]
        rw [aF8 hT hi l x hl]
        exact ⟨l',e⟩
      · obtain ⟨l',e⟩:=f2 (l++[bR.mk y.table y.as_ y.on_]) (by simp; omega)
        refine ⟨l',?_⟩
        rw [qR,jM hT hi,hc]
        simp only [Option.bind_eq_bind,Option.bind_some,if_true,Bool.true_and,beq_iff_eq,Bool.true_eq_false,if_false]
        rw [rP hT hi 4 _ kJ,hj]
        simp only [Option.bind_some]
        rw [nS hT hc]
        simp only [Option.bind_some,q,Bool.false_eq_true,if_false,Z5]
        rw [aF8 hT hi l _ hl]
        exact e
    | false =>
      cases hj:cur T (dD [74,79,73,78]) s with
      | false=>exact stop s hi hc hj
      | true =>
        obtain ⟨r1,i1⟩:=jA hj
        obtain ⟨s1,v1,⟨x,p⟩,y,q⟩:=aL7 hT (adv s) i1
        obtain ⟨r2,i2,a2⟩:=v1.rem_le i1
        have a2:s.at_+1≤s1.at_:=a2
        obtain ⟨i3,r3,_⟩:=yI (c:=dD [79,78]) i2
        have a3:s1.at_≤(mu T (dD [79,78]) s1).at_:=(Evp.mono (.mst (c:=dD [79,78])) i2).1
        obtain ⟨s4,v4,⟨x4,p4⟩,y4,q4⟩:=H _ i3 (by omega)
        dsimp only at q4
        obtain ⟨r4,i4,a4⟩:=v4.rem_le i3
        obtain ⟨s5,v5,c1,c2,f1,f2⟩:=ih (by omega) s4 i4 (by omega)
        refine ⟨s5,.lp2B hc hj (.seq v1 (.seq .mst v4)) v5,c1,c2,fun l hl=>?_,fun l hl=>?_⟩
        · obtain ⟨l',e⟩:=f1 (l++[bR.mk x.table x.as_ [x4]]) (by simp; omega)
          rw [sF,mQ hT hi,hc,gL hc]
          simp only [Option.bind_eq_bind,Option.bind_some,Bool.false_eq_true,if_false]
          rw [jU hT hi,hj,iG hj]
          simp only [Option.bind_some,if_true,p]
          rw [Z8 hT i2]
          simp only [Option.bind_some,p4]
          rw [aF8 hT hi l _ hl]
          exact ⟨l',e⟩
        · obtain ⟨l',e⟩:=f2 (l++[bR.mk y.table y.as_ [y4]]) (by simp; omega)
          refine ⟨l',?_⟩
          rw [qR,jM hT hi,hc]
          simp only [Option.bind_eq_bind,Option.bind_some,if_true,Bool.true_and,beq_self_eq_true,Bool.and_self]
          rw [rP hT hi 4 _ kJ,hj]
          simp only [Option.bind_some,Bool.false_eq_true,if_false,if_true]
          rw [nS hT hj]
          simp only [Option.bind_some,q,if_true]
          rw [rP hT i2 5 _ kO]
          simp only [Option.bind_some]
          rw [step_cur hT]
          simp only [Option.bind_some,q4,Z5]
          rw [aF8 hT hi l _ hl]
          exact e
variable {T:List aJ}
theorem bEr (hT:Tok T) {m:Nat} (H:∀ s,In T s→rem T s≤m→Both T 8 jX (fun r=>fE r 1) s) (s:Ps) (hi:In T s) (hr:rem T s≤m):mJ T (.call 9) qV qP s:=by
  have kS:gY 1=some [83,69,76,69,67,84]:=rfl
  have kD:gY 2=some [68,73,83,84,73,78,67,84]:=rfl
  have kF:gY 3=some [70,82,79,77]:=rfl
  have kO:gY 7=some [79,82,68,69,82]:=rfl
  have kB:gY 8=some [66,89]:=rfl
  have kL:gY 11=some [76,73,77,73,84]:=rfl
  have kJ:gY 4=some [74,79,73,78]:=rfl
  unfold mJ
  obtain ⟨i1,r1,_⟩:=yI (c:=dD [83,69,76,69,67,84]) hi
  obtain ⟨i2,r2⟩:=aO6 (c:=dD [68,73,83,84,73,78,67,84]) i1
  obtain ⟨s3,v3,⟨x3,p3⟩,y3,q3⟩:=aX1 hT H _ i2 (by omega)
  obtain ⟨r3,i3,a3⟩:=v3.rem_le i2
  rw [qV,qP,Z8 hT hi,rP hT hi 1 _ kS]
  simp only [Option.bind_eq_bind,Option.bind_some]
  rw [step_cur hT,jU hT i1]
  simp only [Option.bind_some]
  rw [kR hT i1 2 _ kD]
  simp only [Option.bind_some,p3,q3]
  have a0:∀ {α:Type} (b:Nat) (x:α),b≤1000→appG b [] [x]=some [x]:=fun b x hb=>by rw [rG (by simp; omega)]; rfl
  rw [a0 176 y3 (by omega)]
  simp only [Option.bind_some]
  generalize hyd:(cur T (dD [68,73,83,84,73,78,67,84]) (mu T (dD [83,69,76,69,67,84]) s),PI T (tk T (dD [68,73,83,84,73,78,67,84]) (mu T (dD [83,69,76,69,67,84]) s)))=yd
  generalize hye:(cur T (dD [68,73,83,84,73,78,67,84]) (mu T (dD [83,69,76,69,67,84]) s),PR T (tk T (dD [68,73,83,84,73,78,67,84]) (mu T (dD [83,69,76,69,67,84]) s)))=ye
  obtain ⟨s4,v4,c4,f1,f2⟩:=aNn hT (m:=m) (pX:=.call 10) (I:=yX) (S:=H5) (bi:=176) (bs:=176) (FI:=fun l t a f=>uI yd l t a f) (FS:=fun l t a f=>uG ye l t a f)
    (fun l s hi hl hc=>by
      rw [uI,mQ hT hi,hc,iG hc]
      simp only [Option.bind_eq_bind,Option.bind_some,if_true])
    (fun l s hi hl hc=>by
      rw [uG,jM hT hi,hc]
      simp only [Option.bind_eq_bind,Option.bind_some,if_true]
      rw [nS hT hc]
      simp only [Option.bind_some])
    (by omega) (by omega) (fun s hi hr=>aX1 hT H s hi hr) m (Nat.le_refl _) s3 i3 (by omega)
  obtain ⟨r4,i4,a4⟩:=v4.rem_le i3
  obtain ⟨l1,k1,g1⟩:=f1 [x3] (by simp)
  obtain ⟨l2,k2,g2⟩:=f2 [y3] (by simp)
  have g1:uI yd [x3] T (s3.at_:Int) s3.f=uI yd l1 T (s4.at_:Int) s4.f:=g1
  have g2:uG ye [y3] T (s3.at_:Int) s3.f=uG ye l2 T (s4.at_:Int) s4.f:=g2
  rw [g1,g2,uI,uG,mQ hT i4,jM hT i4,c4,gL c4]
  simp only [Option.bind_eq_bind,Option.bind_some,Bool.false_eq_true,if_false]
  obtain ⟨i5,r5,_⟩:=yI (c:=dD [70,82,79,77]) i4
  rw [Z8 hT i4,rP hT i4 3 _ kF]
  simp only [Option.bind_some]
  rw [step_cur hT]
  simp only [Option.bind_some]
  obtain ⟨s6,v6,⟨x6,p6⟩,y6,q6⟩:=aL7 hT _ i5
  obtain ⟨r6,i6,a6⟩:=v6.rem_le i5
  rw [aGz,p6,q6]
  simp only [Option.bind_eq_bind,Option.bind_some]
  rw [a0 56 y6 (by omega)]
  simp only [Option.bind_some]
  obtain ⟨s7,v7,c7,c7',h1,h2⟩:=bMa hT H ye l2 m (Nat.le_refl _) s6 i6 (by omega)
  obtain ⟨r7,i7,a7⟩:=v7.rem_le i6
  obtain ⟨L1,e1⟩:=h1 [x6] (by simp)
  obtain ⟨L2,e2⟩:=h2 [y6] (by simp)
  rw [e1,e2,qR,jM hT i7,c7]
  simp only [Option.bind_eq_bind,Option.bind_some,Bool.true_and,beq_self_eq_true,if_true,Bool.false_eq_true,if_false]
  rw [rP hT i7 4 _ kJ,c7']
  simp only [Option.bind_some,Bool.false_eq_true,if_false]
  obtain ⟨s8,v8,⟨x8,p8⟩,y8,q8⟩:=bS5 hT H s7 i7 (by omega)
  obtain ⟨r8,i8,a8⟩:=v8.rem_le i7
  rw [p8,q8]
  simp only [Option.bind_some]
  rw [jU hT i8,kR hT i8 7 _ kO]
  simp only [Option.bind_some]
  have pre:∀ {q s'},Evp T q s8 s'→Evp T (.call 9) s s'→Evp T (.call 9) s s':=fun _ h=>h
  -- the end: LIMIT
  have lim:∀ (s9:Ps),In T s9→∀ (o1:List dY) (o2:List dY),∃ s',Evp T (.ite (dD [76,73,77,73,84]) (.mst (gG 3)) .nop) s9 s'∧(∃ e,R4 yd l1 (L1,PI T s7) (x8,PI T s8) o1 T (s9.at_:Int) s9.f=some (e,PI T s'))∧∃ e,X8 ye l2 L2 (y8,PR T s8) o2 T (s9.at_:Int) s9.f=some (e,PR T s'):=by
    intro s9 i9 o1 o2
    unfold R4 X8
    rw [jU hT i9,kR hT i9 11 _ kL]
    simp only [Option.bind_eq_bind,Option.bind_some]
    cases hc:cur T (dD [76,73,77,73,84]) s9 with
    | false =>
      rw [gL hc]
      exact ⟨s9,.iteF hc .nop,⟨_,rfl⟩,_,rfl⟩
    | true =>
      rw [iG hc]
      obtain ⟨_,i10⟩:=jA hc
      obtain ⟨x,p⟩:=aTe hT i10
      obtain ⟨y,q⟩:=vT hT i10 3 (by decide)
      simp only [if_true,p,q,Option.bind_some,aLb]
      exact ⟨_,.iteT hc .mst,⟨_,rfl⟩,_,rfl⟩
  have fin:∀ {s9 s'},Evp T (.ite (dD [79,82,68,69,82]) (.seq (.mst (dD [66,89])) (.seq E9 (.lp (eX [44]) E9))) .nop) s8 s9→Evp T (.ite (dD [76,73,77,73,84]) (.mst (gG 3)) .nop) s9 s'→Evp T (.call 9) s s':=fun h9 h10 =>
    .call (.seq .mst (.seq aU6 (.seq v3 (.seq v4 (.seq .mst (.seq (.seq v6 v7) (.seq v8 (.seq h9 h10))))))))
  cases hc:cur T (dD [79,82,68,69,82]) s8 with
  | false =>
    rw [gL hc]
    obtain ⟨s',w,⟨e,pe⟩,e',pe'⟩:=lim s8 i8 [] []
    simp only [Bool.false_eq_true,if_false,pe,pe']
    exact ⟨s',fin (.iteF hc .nop) w,⟨_,rfl⟩,_,rfl⟩
  | true =>
    rw [iG hc]
    obtain ⟨r9,i9⟩:=jA hc
    obtain ⟨i10,r10,_⟩:=yI (c:=dD [66,89]) i9
    obtain ⟨s11,v11,⟨x11,p11⟩,y11,q11⟩:=aPa hT H _ i10 (by omega)
    obtain ⟨r11,i11,a11⟩:=v11.rem_le i10
    simp only [if_true]
    rw [Z8 hT i9,rP hT i9 8 _ kB]
    simp only [Option.bind_some]
    rw [step_cur hT]
    simp only [Option.bind_some,p11,q11]
    rw [a0 144 y11 (by omega)]
    simp only [Option.bind_some]
    obtain ⟨s12,v12,c12,f1,f2⟩:=aNn hT (m:=m) (pX:=E9) (I:=zR) (S:=zG) (bi:=144) (bs:=144) (FI:=fun l t a f=>vN yd l1 (L1,PI T s7) (x8,PI T s8) l t (a,f)) (FS:=fun l t a f=>vP ye l2 L2 (y8,PR T s8) l t (a,f))
      (fun l s hi hl hc=>by
        rw [vN,mQ hT hi,hc,iG hc]
        simp only [Option.bind_eq_bind,Option.bind_some,if_true])
      (fun l s hi hl hc=>by
        rw [vP,jM hT hi,hc]
        simp only [Option.bind_eq_bind,Option.bind_some,if_true]
        rw [nS hT hc]
        simp only [Option.bind_some])
      (by omega) (by omega) (fun s hi hr=>aPa hT H s hi hr) m (Nat.le_refl _) s11 i11 (by omega)
    obtain ⟨r12,i12,a12⟩:=v12.rem_le i11
    obtain ⟨o1,_,g1⟩:=f1 [x11] (by simp)
    obtain ⟨o2,_,g2⟩:=f2 [y11] (by simp)
    have g1:vN yd l1 (L1,PI T s7) (x8,PI T s8) [x11] T ((s11.at_:Int),s11.f)=vN yd l1 (L1,PI T s7) (x8,PI T s8) o1 T ((s12.at_:Int),s12.f):=g1
    have g2:vP ye l2 L2 (y8,PR T s8) [y11] T ((s11.at_:Int),s11.f)=vP ye l2 L2 (y8,PR T s8) o2 T ((s12.at_:Int),s12.f):=g2
    obtain ⟨s',w,⟨e,pe⟩,e',pe'⟩:=lim s12 i12 o1 o2
    rw [g1,g2,vN,vP,mQ hT i12,jM hT i12,c12,gL c12]
    simp only [Option.bind_eq_bind,Option.bind_some,Bool.false_eq_true,if_false,pe,pe']
    exact ⟨s',fin (.iteT hc (.seq .mst (.seq v11 v12))) w,⟨_,rfl⟩,_,rfl⟩
variable {T:List aJ}
theorem aN3 {c:aJ→Bool} {s:Ps} (h:cur T c s=true):mu T c s=adv s:=by unfold mu; rw [h]; rfl
theorem bOk {c:aJ→Bool} {s:Ps} (h:cur T c s=false):mu T c s=bad s:=by unfold mu; rw [h]; rfl
theorem bO4 (hT:Tok T) {m:Nat} (H:∀ s,In T s→rem T s<m→Both T 8 jX (fun r=>fE r 1) s∧mJ T (.call 9) qV qP s) (s:Ps) (hi:In T s) (hr:rem T s≤m):Both T 0 A8 I1 s:=by
  have k20:gY 20=some [78,85,76,76]:=rfl
  have k21:gY 21=some [84,82,85,69]:=rfl
  have k22:gY 22=some [70,65,76,83,69]:=rfl
  have k19:gY 19=some [69,88,73,83,84,83]:=rfl
  unfold Both
  rw [A8,I1,aCe hT hi,aBy hT hi 3 (by decide)]
  simp only [Option.bind_eq_bind,Option.bind_some]
  cases c3:cur T (gG 3) s with
  | true =>
    obtain ⟨x,p⟩:=aTe hT hi
    obtain ⟨y,q⟩:=vT hT hi 3 (by decide)
    rw [aN3 c3] at p q
    simp only [if_true,p,q,Option.bind_some,aI4,qJ,aLb]
    exact ⟨adv s,.call (.iteT c3 .nop),⟨_,rfl⟩,_,rfl⟩
  | false =>
  simp only [Bool.false_eq_true,if_false]
  rw [aCe hT hi,aBy hT hi 4 (by decide)]
  simp only [Option.bind_some]
  cases c4:cur T (gG 4) s with
  | true =>
    obtain ⟨x,p,_⟩:=zT hT hi 4
    obtain ⟨y,q⟩:=vT hT hi 4 (by decide)
    rw [aN3 c4] at p q
    simp only [if_true,p,q,Option.bind_some,aDz,aBs,qJ]
    exact ⟨adv s,.call (.iteF c3 (.iteT c4 .nop)),⟨_,rfl⟩,_,rfl⟩
  | false =>
  simp only [Bool.false_eq_true,if_false]
  rw [jU hT hi,kR hT hi 20 _ k20]
  simp only [Option.bind_some]
  cases cn:cur T (dD [78,85,76,76]) s with
  | true =>
    rw [iG cn]
    simp only [if_true,Option.bind_some,qJ]
    exact ⟨adv s,.call (.iteF c3 (.iteF c4 (.iteT cn .nop))),⟨_,rfl⟩,_,rfl⟩
  | false =>
  rw [gL cn]
  simp only [Bool.false_eq_true,if_false]
  rw [jU hT hi,kR hT hi 21 _ k21]
  simp only [Option.bind_some]
  cases ct:cur T (dD [84,82,85,69]) s with
  | true =>
    rw [iG ct]
    simp only [if_true,Option.bind_some,qJ,K3,yE]
    exact ⟨adv s,.call (.iteF c3 (.iteF c4 (.iteF cn (.iteT ct .nop)))),⟨_,rfl⟩,_,rfl⟩
  | false =>
  rw [gL ct]
  simp only [Bool.false_eq_true,if_false]
  rw [jU hT hi,kR hT hi 22 _ k22]
  simp only [Option.bind_some]
  cases cf:cur T (dD [70,65,76,83,69]) s with
  | true =>
    rw [iG cf]
    simp only [if_true,Option.bind_some,qJ,K3,yE,Bool.false_eq_true,if_false]
    exact ⟨adv s,.call (.iteF c3 (.iteF c4 (.iteF cn (.iteF ct (.iteT cf .nop))))),⟨_,rfl⟩,_,rfl⟩
  | false =>
  rw [gL cf]
  simp only [Bool.false_eq_true,if_false]
  rw [aCe hT hi,aBy hT hi 2 (by decide)]
  simp only [Option.bind_some]
  have up : ∀ {q : Pr} {s'}, Evp T q s s' → (∀ {s'}, Evp T q s s' → Evp T (.ite (gG 2) (.ite (eX [46]) (.mst (gG 2)) .nop)
      (.ite (eX [40]) (.seq (.call 8) (.mst (eX [41]))) (.ite (dD [69,88,73,83,84,83]) (.seq (.mst (eX [40])) (.seq (.call 9) (.mst (eX [41])))) .bd))) s s')→Evp T (.call 0) s s':=fun v h =>
    .call (.iteF c3 (.iteF c4 (.iteF cn (.iteF ct (.iteF cf (h v))))))
  cases c2:cur T (gG 2) s with
  | true =>
    obtain ⟨x,p,_⟩:=zT hT hi 2
    obtain ⟨y,q⟩:=vT hT hi 2 (by decide)
    rw [aN3 c2] at p q
    obtain ⟨r1,i1⟩:=jA c2
    simp only [if_true,p,q,Option.bind_some]
    rw [mQ hT i1,jM hT i1]
    simp only [Option.bind_some]
    cases cd:cur T (eX [46]) (adv s) with
    | true =>
      rw [iG cd]
      obtain ⟨r2,i2⟩:=jA cd
      obtain ⟨x2,p2,_⟩:=zT hT i2 2
      obtain ⟨y2,q2⟩:=vT hT i2 2 (by decide)
      simp only [if_true,p2,Option.bind_some]
      rw [nS hT cd]
      simp only [Option.bind_some,q2,X6]
      exact ⟨_,.call (.iteF c3 (.iteF c4 (.iteF cn (.iteF ct (.iteF cf (.iteT c2 (.iteT cd .mst))))))),⟨_,rfl⟩,_,rfl⟩
    | false =>
      rw [gL cd]
      simp only [Bool.false_eq_true,if_false,X6]
      exact ⟨_,.call (.iteF c3 (.iteF c4 (.iteF cn (.iteF ct (.iteF cf (.iteT c2 (.iteF cd .nop))))))),⟨_,rfl⟩,_,rfl⟩
  | false =>
  simp only [Bool.false_eq_true,if_false]
  rw [mQ hT hi,kR hT hi 19 _ k19]
  simp only [Option.bind_some]
  cases co:cur T (eX [40]) s with
  | true =>
    have ce:cur T (dD [69,88,73,83,84,83]) s=false:=aCh co (aJ4 (.inl (by decide)))
    rw [iG co,ce,gL ce]
    obtain ⟨r1,i1⟩:=jA co
    obtain ⟨⟨s2,v2,⟨x,p⟩,y,q⟩,_⟩:=H (adv s) i1 (by omega)
    dsimp only at q
    obtain ⟨r2,i2,_⟩:=v2.rem_le i1
    simp only [if_true,p,Option.bind_some,Bool.false_eq_true,if_false]
    rw [Y9 hT i2,jM hT hi,co]
    simp only [Option.bind_some]
    rw [nS hT co]
    have hb:(adv s).f=false:=(nZ co).2
    simp only [Option.bind_some,q,hb,Bool.false_eq_true,if_false]
    rw [jM hT i2]
    simp only [Option.bind_some]
    rw [step_cur hT]
    exact ⟨_,.call (.iteF c3 (.iteF c4 (.iteF cn (.iteF ct (.iteF cf (.iteF c2 (.iteT co (.seq v2 .mst)))))))),⟨_,rfl⟩,_,rfl⟩
  | false =>
  rw [gL co]
  simp only [Bool.false_eq_true,if_false]
  rw [jU hT hi]
  simp only [Option.bind_some]
  cases ce:cur T (dD [69,88,73,83,84,83]) s with
  | true =>
    rw [iG ce]
    obtain ⟨r1,i1⟩:=jA ce
    obtain ⟨i2,r2,_⟩:=yI (c:=eX [40]) i1
    obtain ⟨_,⟨s3,v3,⟨x,p⟩,y,q⟩⟩:=H _ i2 (by omega)
    obtain ⟨r3,i3,_⟩:=v3.rem_le i2
    simp only [if_true]
    rw [Y9 hT i1,jM hT i1]
    simp only [Option.bind_some,p]
    rw [step_cur hT,Y9 hT i3]
    simp only [Option.bind_some,q]
    rw [jM hT i3]
    simp only [Option.bind_some]
    rw [step_cur hT]
    exact ⟨_,.call (.iteF c3 (.iteF c4 (.iteF cn (.iteF ct (.iteF cf (.iteF c2 (.iteF co (.iteT ce (.seq .mst (.seq v3 .mst)))))))))),⟨_,rfl⟩,_,rfl⟩
  | false =>
    rw [gL ce]
    simp only [Bool.false_eq_true,if_false]
    rw [jM hT hi,co]
    simp only [Option.bind_some]
    have:=step_cur hT (s:=s) (eX [40])
    rw [co,bOk co] at this
    rw [this]
    have hb:(bad s).f=true:=rfl
    simp only [Option.bind_some,hb,if_true]
    exact ⟨bad s,.call (.iteF c3 (.iteF c4 (.iteF cn (.iteF ct (.iteF cf (.iteF c2 (.iteF co (.iteF ce .bd)))))))),⟨_,rfl⟩,_,rfl⟩
theorem bA8 (hT:Tok T) {m:Nat} (HC:∀ s,In T s→rem T s≤m→Both T 4 vC (fun r=>fE r 5) s) (HI:∀ s,In T s→rem T s<m→aO5 T s) (s:Ps) (hi:In T s) (hr:rem T s≤m):Both T 5 xA (fun r=>fE r 4) s:=by
  have k16:gY 16=some [73,83]:=rfl
  have k15:gY 15=some [78,79,84]:=rfl
  have k20:gY 20=some [78,85,76,76]:=rfl
  have k18:gY 18=some [66,69,84,87,69,69,78]:=rfl
  have k13:gY 13=some [65,78,68]:=rfl
  have k17:gY 17=some [73,78]:=rfl
  obtain ⟨s1,v1,⟨x,p⟩,y,q⟩:=HC s hi hr
  dsimp only at q
  obtain ⟨r1,i1,_⟩:=v1.rem_le hi
  obtain ⟨op,e1,e2⟩:=aJ7 hT i1 [3,4,5,6,7,8] (by decide) (by decide)
  obtain ⟨op',f1,f0,f2⟩:=aRb hT i1 4 [3,4,5,6,7,8] (by simp)
  unfold Both
  dsimp only
  rw [fE]
  simp only [Int.reduceEq,decide_false,decide_true,Bool.false_eq_true,if_false,if_true]
  rw [xA,aFj,p,q]
  simp only [Option.bind_eq_bind,Option.bind_some]
  rw [e1,f1]
  simp only [Option.bind_some]
  cases co:cur T (opT [3,4,5,6,7,8]) s1 with
  | true =>
    have h1:op≠0:=fun h=>by rw [e2.1 h] at co; exact absurd co (by simp)
    have h2:op'≠0:=fun h=>by rw [f2.1 h] at co; exact absurd co (by simp)
    have h3:0<op':=by omega
    rw [iG co]
    obtain ⟨r2,i2⟩:=jA co
    obtain ⟨s3,v3,⟨x3,p3⟩,y3,q3⟩:=HC (adv s1) i2 (by omega)
    dsimp only at q3
    simp only [h1,h3,decide_false,decide_true,Bool.not_false,if_true,p3,Option.bind_some,rD]
    rw [nS hT co]
    simp only [Option.bind_some,q3]
    exact ⟨s3,.call (.seq v1 (.iteT co v3)),⟨_,rfl⟩,_,rfl⟩
  | false =>
  have h1:=e2.2 co
  have h2:=f2.2 co
  rw [gL co]
  simp only [h1,h2,decide_true,Bool.not_true,Bool.false_eq_true,if_false,Int.lt_irrefl,decide_false]
  rw [jU hT i1,kR hT i1 16 _ k16]
  simp only [Option.bind_some]
  cases cs:cur T (dD [73,83]) s1 with
  | true =>
    rw [iG cs]
    obtain ⟨r2,i2⟩:=jA cs
    obtain ⟨i3,r3⟩:=aO6 (c:=dD [78,79,84]) i2
    simp only [if_true]
    rw [jU hT i2,kR hT i2 15 _ k15]
    simp only [Option.bind_some]
    rw [Z8 hT i3,rP hT i3 20 _ k20]
    simp only [Option.bind_some]
    rw [step_cur hT]
    exact ⟨_,.call (.seq v1 (.iteF co (.iteT cs (.seq aU6 .mst)))),⟨_,rfl⟩,_,rfl⟩
  | false =>
  rw [gL cs]
  simp only [Bool.false_eq_true,if_false]
  rw [jU hT i1,kR hT i1 15 _ k15]
  simp only [Option.bind_some]
  obtain ⟨i2,r2⟩:=aO6 (c:=dD [78,79,84]) i1
  have up:∀ {s'},Evp T (pX (cur T (dD [78,79,84]) s1)) (tk T (dD [78,79,84]) s1) s'→Evp T (.call 5) s s':=by
    intro s' v
    refine .call (.seq v1 (.iteF co (.iteF cs ?_)))
    cases cn:cur T (dD [78,79,84]) s1 with
    | true=>rw [iG cn,cn] at v; exact .iteT cn v
    | false=>rw [gL cn,cn] at v; exact .iteF cn v
  generalize cur T (dD [78,79,84]) s1=n at up ⊢
  generalize tk T (dD [78,79,84]) s1=s2 at up i2 r2 ⊢
  rw [jU hT i2,kR hT i2 18 _ k18]
  simp only [Option.bind_some]
  cases cb:cur T (dD [66,69,84,87,69,69,78]) s2 with
  | true =>
    rw [iG cb]
    obtain ⟨r3,i3⟩:=jA cb
    obtain ⟨s4,v4,⟨x4,p4⟩,y4,q4⟩:=HC _ i3 (by omega)
    dsimp only at q4
    obtain ⟨r4,i4,_⟩:=v4.rem_le i3
    obtain ⟨i5,r5,_⟩:=yI (c:=dD [65,78,68]) i4
    obtain ⟨s6,v6,⟨x6,p6⟩,y6,q6⟩:=HC _ i5 (by omega)
    dsimp only at q6
    simp only [if_true,p4,q4,Option.bind_some]
    rw [Z8 hT i4,rP hT i4 13 _ k13]
    simp only [Option.bind_some,p6]
    rw [step_cur hT]
    simp only [Option.bind_some,q6]
    exact ⟨_,up (.iteT cb (.seq v4 (.seq .mst v6))),⟨_,rfl⟩,_,rfl⟩
  | false =>
  rw [gL cb]
  simp only [Bool.false_eq_true,if_false]
  rw [jU hT i2,kR hT i2 17 _ k17]
  simp only [Option.bind_some]
  cases ci:cur T (dD [73,78]) s2 with
  | true =>
    rw [iG ci]
    obtain ⟨r3,i3⟩:=jA ci
    obtain ⟨s4,v4,⟨x4,p4⟩,y4,q4⟩:=HI _ i3 (by omega) x y n
    simp only [if_true,p4,q4,Option.bind_some]
    exact ⟨_,up (.iteF cb (.iteT ci v4)),⟨_,rfl⟩,_,rfl⟩
  | false =>
    rw [gL ci]
    simp only [Bool.false_eq_true,if_false,Option.bind_some,aAr]
    cases n with
    | true =>
      refine ⟨bad s2,up (.iteF cb (.iteF ci .bd)),?_,_,rfl⟩
      have:(if s2.f=true then true else true)=true:=by cases s2.f <;> rfl
      rw [this]
      exact ⟨_,rfl⟩
    | false =>
      refine ⟨s2,up (.iteF cb (.iteF ci .nop)),?_,_,rfl⟩
      have:(if s2.f=true then true else false)=s2.f:=by cases s2.f <;> rfl
      rw [this]
      exact ⟨_,rfl⟩
theorem aZo (hT:Tok T):∀ m s,In T s→rem T s<m→Both T 8 jX (fun r=>fE r 1) s∧mJ T (.call 9) qV qP s:=by
  intro m
  induction m with
  | zero=>intro s _ h; omega
  | succ m ih =>
    have h0:∀ s,In T s→rem T s≤m→Both T 0 A8 I1 s:=fun s hi hr=>bO4 hT ih s hi hr
    have h1:=bAa hT m h0
    have h2:∀ s,In T s→rem T s≤m→Both T 2 zZ (fun r=>fE r 7) s :=
      aAx hT (A:=uA) (C:=aCz) (L:=O7) (ops:=[12,13,14]) (lv:=7) (kA:=1) (k:=2) (fun p=>by rw [zZ]) (fun p=>by rw [aCz]) (fun _ _ _ _ _ _=>by rw [O7]) (by simp) (by decide) rfl h1
    have h3:∀ s,In T s→rem T s≤m→Both T 3 C8 (fun r=>fE r 6) s :=
      aAx hT (A:=zZ) (C:=aC5) (L:=O4) (ops:=[10,11]) (lv:=6) (kA:=2) (k:=3) (fun p=>by rw [C8]) (fun p=>by rw [aC5]) (fun _ _ _ _ _ _=>by rw [O4]) (by simp) (by decide) rfl h2
    have h4:∀ s,In T s→rem T s≤m→Both T 4 vC (fun r=>fE r 5) s :=
      aAx hT (A:=C8) (C:=aBc) (L:=P8) (ops:=[9]) (lv:=5) (kA:=3) (k:=4) (fun p=>by rw [vC]) (fun p=>by rw [aBc]) (fun _ _ _ _ _ _=>by rw [P8]) (by simp) (by decide) rfl h3
    have hI:∀ s,In T s→rem T s<m→aO5 T s:=fun s hi hr =>
      bId hT (m:=m - 1) (fun s hi hr=>(ih s hi (by omega)).1) (fun s hi hr=>(ih s hi (by omega)).2) s hi (by omega)
    have h5:∀ s,In T s→rem T s≤m→Both T 5 xA (fun r=>fE r 4) s:=fun s hi hr=>bA8 hT h4 hI s hi hr
    have h6:=bCo hT m h5
    have h7:∀ s,In T s→rem T s≤m→Both T 7 F9 (fun r=>fE r 2) s :=
      aAx hT (A:=sQ) (C:=aBb) (L:=V8) (ops:=[2]) (lv:=2) (kA:=6) (k:=7) (fun p=>by rw [F9]) (fun p=>by rw [aBb]) (fun _ _ _ _ _ _=>by rw [V8]) (by simp) (by decide) rfl h6
    have h8:∀ s,In T s→rem T s≤m→Both T 8 jX (fun r=>fE r 1) s :=
      aAx hT (A:=F9) (C:=aAt) (L:=Q9) (ops:=[1]) (lv:=1) (kA:=7) (k:=8) (fun p=>by rw [jX]) (fun p=>by rw [aAt]) (fun _ _ _ _ _ _=>by rw [Q9]) (by simp) (by decide) rfl h7
    exact fun s hi hr=>⟨h8 s hi (by omega),bEr hT h8 s hi (by omega)⟩
theorem bBf (hT:Tok T) (s:Ps) (hi:In T s):aBk (PI T s)=some (if s.f=false∧s.at_=T.length then -1 else (s.at_:Int))∧aAu (PR T s)=some (if s.f=false∧s.at_=T.length then -1 else (s.at_:Int)):=by
  have h1:s.at_≤T.length:=hi
  have e:(s.at_:Int)=(T.length:Int)↔s.at_=T.length:=by omega
  constructor
  · unfold aBk
    cases hf:s.f <;> by_cases h:s.at_=T.length <;> simp [hf,h]
    all_goals omega
  · unfold aAu
    cases hf:s.f <;> by_cases h:s.at_=T.length <;> simp [hf,h]
    all_goals omega
theorem uB {T:List aJ} {k:Nat} {c:aJ→Bool} {s:Ps} (h:s.at_<k):cur (T.take k) c s=cur T c s:=by
  unfold cur
  rw [List.getElem?_take]
  simp [h]
theorem Evp.end_ {T:List aJ} {p:Pr} {s s':Ps} (h:Evp T p s s') (he:s.at_=T.length):s'.at_=T.length:=by
  have hi:In T s:=by unfold In; omega
  obtain ⟨a,b,_⟩:=h.mono hi
  have:s'.at_≤T.length:=b
  omega
def Rk (k:Nat) (s s':Ps):Prop:=(s'=s∧s.at_<k)∨(s'.at_=k∧k≤s.at_)
theorem aAl {T:List aJ} {s:Ps} {k k2:Int} {w:List UInt8} (h:cur T (gG k) s=true) (hk:k≠k2):cur T (isT k2 w) s=false :=
  aCh h (fun t ht=>by
    unfold gG isT at *
    simp only [Bool.and_eq_true,decide_eq_true_eq] at ht
    simp [ht.1,hk])
theorem aXm {T:List aJ} {s:Ps} {k k2:Int} (h:cur T (gG k) s=true) (hk:k≠k2):cur T (gG k2) s=false :=
  aCh h (fun t ht=>by
    unfold gG at *
    simp only [Bool.and_eq_true,decide_eq_true_eq] at ht
    simp [ht.1,hk])
theorem aCs {T:List aJ} {k:Nat} {s s':Ps} (h:Evp T (.call k) s s'):Evp T (body k) s s':=by cases h with | call h=>exact h
theorem aL2 {T:List aJ} {a b:Pr} {s s':Ps} (h:Evp T (.seq a b) s s'):∃ s1,Evp T a s s1∧Evp T b s1 s':=by cases h with | seq h1 h2=>exact ⟨_,h1,h2⟩
theorem aSf {T:List aJ} {c:aJ→Bool} {a b:Pr} {s s':Ps} (h:Evp T (.ite c a b) s s'):(cur T c s=true∧Evp T a (adv s) s')∨(cur T c s=false∧Evp T b s s'):=by
  cases h with
  | iteT h1 h2=>exact .inl ⟨h1,h2⟩
  | iteF h1 h2=>exact .inr ⟨h1,h2⟩
theorem D9 {T:List aJ} {c:aJ→Bool} {a b:Pr} {s s':Ps} (h:Evp T (.ite c a b) s s') (hc:cur T c s=false):Evp T b s s':=by
  rcases aSf h with ⟨h1,_⟩ | ⟨_,h2⟩
  · rw [hc] at h1; exact absurd h1 (by simp)
  · exact h2
theorem aUq {T:List aJ} {c:aJ→Bool} {a b:Pr} {s s':Ps} (h:Evp T (.ite c a b) s s') (hc:cur T c s=true):Evp T a (adv s) s':=by
  rcases aSf h with ⟨_,h2⟩ | ⟨h1,_⟩
  · exact h2
  · rw [hc] at h1; exact absurd h1 (by simp)
theorem bIw {T:List aJ} {s s':Ps} (h:Evp T (.call 0) s s') (hc:cur T (gG 2) s=true) (he:s.at_+1=T.length∨(s.at_+2=T.length∧cur T (eX [46]) (adv s)=true)):s'.at_=T.length:=by
  have h:=aCs h
  unfold body at h
  have h:=D9 h (aXm hc (by decide))
  have h:=D9 h (aXm hc (by decide))
  have h:=D9 h (aAl hc (by decide))
  have h:=D9 h (aAl hc (by decide))
  have h:=D9 h (aAl hc (by decide))
  have h:=aUq h hc
  rcases he with he | ⟨he,hd⟩
  · exact h.end_ (by show s.at_+1=_; exact he)
  · have h:=aUq h hd
    exact h.end_ (by show s.at_+1+1=_; omega)
theorem aAn {T:List aJ} {j:Nat} {c:aJ→Bool} {k:Nat} {s s':Ps} (hb:body k=.seq (.call j) (.lp c (.call j))) (H:∀ s',Evp T (.call j) s s'→s'.at_=T.length) (h:Evp T (.call k) s s'):s'.at_=T.length:=by
  have h:=aCs h
  rw [hb] at h
  obtain ⟨s1,h1,h2⟩:=aL2 h
  exact h2.end_ (H _ h1)
theorem bPp {T:List aJ} {s s':Ps} (h:Evp T (.seq (.call 8) pAs) s s') (hc:cur T (gG 2) s=true) (he:s.at_+1=T.length∨(s.at_+2=T.length∧cur T (eX [46]) (adv s)=true)):s'.at_=T.length:=by
  obtain ⟨s1,h1,h2⟩:=aL2 h
  refine h2.end_ ?_
  refine aAn (j:=7) (k:=8) rfl (fun _ h=>?_) h1
  refine aAn (j:=6) (k:=7) rfl (fun _ h=>?_) h
  have h:=aCs h
  have h:Evp T (.call 5) s _:=D9 h (aAl hc (by decide))
  have h:=aCs h
  obtain ⟨s1,h1,h2⟩:=aL2 h
  refine h2.end_ ?_
  refine aAn (j:=3) (k:=4) rfl (fun _ h=>?_) h1
  refine aAn (j:=2) (k:=3) rfl (fun _ h=>?_) h
  refine aAn (j:=1) (k:=2) rfl (fun _ h=>?_) h
  have h:=aCs h
  have h:Evp T (.call 0) s _:=D9 h (aAl hc (by decide))
  exact bIw h hc he
theorem bQ8 {T:List aJ} {k:Nat} (hk:k≤T.length) {p:Pr} {s s2:Ps} (h:Evp T p s s2):In T s→∀ s2',Evp (T.take k) p s s2'→s.at_<k→Rk k s2 s2':=by
  have hl:(T.take k).length=k:=by simp [hk]
  have past:∀ {q s s' t t'},Evp T q s s'→Evp (T.take k) q t t'→In T s→t.at_=k→k≤s.at_→Rk k s' t':=by
    intro q s s' t t' h1 h2 hi ht hs
    exact .inr ⟨by rw [h2.end_ (by rw [hl]; exact ht),hl],Nat.le_trans hs (h1.mono hi).1⟩
  have ine:∀ {c s},cur T c s=true→In T (adv s):=fun h=>(jA h).2
  have from_:∀ {q s s'},Evp T q s s'→In T s→(∀ s2',Evp (T.take k) q s s2'→s.at_<k→Rk k s' s2')→s.at_≤k→∀ s2',Evp (T.take k) q s s2'→Rk k s' s2':=by
    intro q s s' h1 hi ih hs s2' h2
    by_cases hs2:s.at_<k
    · exact ih _ h2 hs2
    · exact past h1 h2 hi (by omega) (by omega)
  have then_:∀ {q s1 s2 t1 t2},Evp T q s1 s2→In T s1→(∀ s2',Evp (T.take k) q s1 s2'→s1.at_<k→Rk k s2 s2')→Rk k s1 t1→Evp (T.take k) q t1 t2→Rk k s2 t2:=by
    intro q s1 s2 t1 t2 h1 hi ih hr h2
    rcases hr with ⟨rfl,hr⟩ | ⟨r1,r2⟩
    · exact ih _ h2 hr
    · exact past h1 h2 hi r1 r2
  have same:∀ {c:aJ→Bool} {s:Ps} {b b':Bool},s.at_<k→cur T c s=b→cur (T.take k) c s=b'→b=b':=by
    intro c s b b' hs h1 h2
    rw [uB hs] at h2
    rw [← h1,h2]
  have no:∀ {c:aJ→Bool} {s:Ps} {q:Prop},s.at_<k→cur T c s=true→cur (T.take k) c s=false→q:=fun hs h1 h2=>absurd (same hs h1 h2) (by simp)
  have no':∀ {c:aJ→Bool} {s:Ps} {q:Prop},s.at_<k→cur T c s=false→cur (T.take k) c s=true→q:=fun hs h1 h2=>absurd (same hs h1 h2) (by simp)
  induction h with
  | nop=>intro hi s2' h2 hs; cases h2; exact .inl ⟨rfl,hs⟩
  | bd=>intro hi s2' h2 hs; cases h2; exact .inl ⟨rfl,hs⟩
  | @mst c s =>
    intro hi s2' h2 hs
    cases h2
    have e:mu (T.take k) c s=mu T c s:=by unfold mu; rw [uB hs]
    rw [e]
    unfold mu
    cases hc:cur T c s with
    | true =>
      by_cases h1:s.at_+1<k
      · exact .inl ⟨rfl,h1⟩
      · exact .inr ⟨by show s.at_+1=k; omega,by show k≤s.at_+1; omega⟩
    | false=>exact .inl ⟨rfl,hs⟩
  | iteT hc h1 ih =>
    intro hi s2' h2 hs
    cases h2 with
    | iteT _ h2=>exact from_ h1 (ine hc) (ih (ine hc)) hs _ h2
    | iteF hc2 _=>exact no hs hc hc2
  | iteF hc h1 ih =>
    intro hi s2' h2 hs
    cases h2 with
    | iteT hc2 _=>exact no' hs hc hc2
    | iteF _ h2=>exact ih hi _ h2 hs
  | tstT hc h1 ih =>
    intro hi s2' h2 hs
    cases h2 with
    | tstT _ h2=>exact ih hi _ h2 hs
    | tstF hc2 _=>exact no hs hc hc2
  | tstF hc h1 ih =>
    intro hi s2' h2 hs
    cases h2 with
    | tstT hc2 _=>exact no' hs hc hc2
    | tstF _ h2=>exact ih hi _ h2 hs
  | seq h1 h2 ih1 ih2 =>
    intro hi s2' h3 hs
    cases h3 with
    | seq k1 k2 =>
      have i1:=(h1.mono hi).2.1
      exact then_ h2 i1 (ih2 i1) (ih1 hi _ k1 hs) k2
  | call h1 ih =>
    intro hi s2' h2 hs
    cases h2 with
    | call h2=>exact ih hi _ h2 hs
  | lpT hc h1 h2 ih1 ih2 =>
    intro hi s2' h3 hs
    cases h3 with
    | lpT _ k1 k2 =>
      have i1:=(h1.mono (ine hc)).2.1
      exact then_ h2 i1 (ih2 i1) (from_ h1 (ine hc) (ih1 (ine hc)) hs _ k1) k2
    | lpF hc2=>exact no hs hc hc2
  | lpF hc =>
    intro hi s2' h3 hs
    cases h3 with
    | lpT hc2 _ _=>exact no' hs hc hc2
    | lpF _=>exact .inl ⟨rfl,hs⟩
  | lp2A hc h1 h2 ih1 ih2 =>
    intro hi s2' h3 hs
    cases h3 with
    | lp2A _ k1 k2 =>
      have i1:=(h1.mono (ine hc)).2.1
      exact then_ h2 i1 (ih2 i1) (from_ h1 (ine hc) (ih1 (ine hc)) hs _ k1) k2
    | lp2B hc2 _ _ _=>exact no hs hc hc2
    | lp2F hc2 _=>exact no hs hc hc2
  | lp2B hc hd h1 h2 ih1 ih2 =>
    intro hi s2' h3 hs
    cases h3 with
    | lp2A hc2 _ _=>exact no' hs hc hc2
    | lp2B _ _ k1 k2 =>
      have i1:=(h1.mono (ine hd)).2.1
      exact then_ h2 i1 (ih2 i1) (from_ h1 (ine hd) (ih1 (ine hd)) hs _ k1) k2
    | lp2F _ hd2=>exact no hs hd hd2
  | lp2F hc hd =>
    intro hi s2' h3 hs
    cases h3 with
    | lp2A hc2 _ _=>exact no' hs hc hc2
    | lp2B _ hd2 _ _=>exact no' hs hd hd2
    | lp2F _ _=>exact .inl ⟨rfl,hs⟩
  | @st3T s hc =>
    intro hi s2' h3 hs
    have hc0:=hc
    unfold mR at hc
    simp only [Bool.and_eq_true] at hc
    obtain ⟨⟨c0,c1⟩,c2⟩:=hc
    by_cases h2:s.at_+2<k
    · cases h3 with
      | st3T _ =>
        by_cases h1:s.at_+3<k
        · exact .inl ⟨rfl,h1⟩
        · exact .inr ⟨by show s.at_+3=k; omega,by show k≤s.at_+3; omega⟩
      | st3F hd _ =>
        have:mR (T.take k) s=mR T s:=by
          unfold mR
          rw [uB hs,uB (s:=⟨s.at_+1,s.f⟩) (by show s.at_+1<k; omega),uB (s:=⟨s.at_+2,s.f⟩) h2]
        rw [this,hc0] at hd
        exact absurd hd (by simp)
    · cases h3 with
      | st3T hd =>
        unfold mR at hd
        simp only [Bool.and_eq_true] at hd
        have:=(nZ hd.2).1
        rw [hl] at this
        exact absurd this h2
      | st3F _ h3 =>
        refine .inr ⟨?_,by show k≤s.at_+3; omega⟩
        rw [bPp h3 (by rw [uB hs]; exact c0) ?_,hl]
        rw [hl]
        by_cases h1:s.at_+1=k
        · exact .inl h1
        · exact .inr ⟨by omega,by rw [uB (by show s.at_+1<k; omega)]; exact c1⟩
  | st3F hc h1 ih =>
    intro hi s2' h3 hs
    cases h3 with
    | st3T hd =>
      exfalso
      unfold mR at hc hd
      simp only [Bool.and_eq_true] at hd
      obtain ⟨⟨d0,d1⟩,d2⟩:=hd
      have l2:=(nZ d2).1
      rw [hl] at l2
      have l2:_+2<k:=l2
      rw [uB hs] at d0
      rw [uB (by show _+1<k; omega)] at d1
      rw [uB (by show _+2<k; omega)] at d2
      rw [d0,d1,d2] at hc
      exact absurd hc (by decide)
    | st3F _ h3=>exact ih hi _ h3 hs
theorem aEs (a:Int):0≤IntKind.wrap .i64 ((BitVec.ofInt (IntKind.bits .i64) a &&& BitVec.ofInt (IntKind.bits .i64) 255).toNat:Int)∧IntKind.wrap .i64 ((BitVec.ofInt (IntKind.bits .i64) a &&& BitVec.ofInt (IntKind.bits .i64) 255).toNat:Int)≤255:=by
  have h:(BitVec.ofInt (IntKind.bits .i64) a &&& BitVec.ofInt (IntKind.bits .i64) 255).toNat≤255:=by
    rw [BitVec.toNat_and]
    exact Nat.le_trans Nat.and_le_right (by decide)
  rw [fP (by omega) (by omega)]
  omega
def okCur (c:aQ):Prop:=0≤c.i∧c.i≤(c.b.length:Int)∧c.b.length≤1048576
theorem aCr (c:aQ) (h:okCur c):∃ x c',vJ c=some (x,c')∧0≤x∧x≤255∧okCur c':=by
  obtain ⟨h1,h2,h3⟩:=h
  unfold vJ aAz
  by_cases hi:c.i<(c.b.length:Int)
  · have e : ∃ v, idx c.b c.i = some v := by
      unfold idx
      rw [if_pos h1]
      exact ⟨_,List.getElem?_eq_getElem (by omega)⟩
    obtain ⟨v,hv⟩:=e
    rw [if_pos (by simpa using hi),hv]
    simp only [Option.bind_eq_bind,Option.bind_some]
    refine ⟨_,_,rfl,(aEs _).1,(aEs _).2,?_⟩
    refine ⟨?_,?_,h3⟩
    · show 0≤IntKind.wrap .i64 (c.i+1); rw [fP (by omega) (by omega)]; omega
    · show IntKind.wrap .i64 (c.i+1)≤(c.b.length:Int); rw [fP (by omega) (by omega)]; omega
  · rw [if_neg (by simpa using hi)]
    exact ⟨_,_,rfl,(aEs _).1,(aEs _).2,h1,h2,h3⟩
theorem aQy {a b:Int} (h0:0≤a) (hb:0<b):∃ r,U1 a b=some r∧0≤r∧r<b:=by
  unfold U1
  rw [if_neg (by omega)]
  exact ⟨_,rfl,Int.tmod_nonneg _ h0,Int.tmod_lt_of_pos _ hb⟩
theorem J7 (c:aQ) (n:Int) (h:okCur c):∃ x c',iL c n=some (x,c')∧0≤x∧(0<n→x<n)∧okCur c':=by
  unfold iL
  by_cases h0:n≤0
  · rw [if_pos (by simpa using h0)]; exact ⟨0,c,rfl,by omega,by omega,h⟩
  rw [if_neg (by simpa using h0)]
  by_cases h1:n≤256
  · rw [if_pos (by simpa using h1)]
    obtain ⟨x,c1,e1,a1,b1,o1⟩:=aCr c h
    obtain ⟨r,er,r0,r1⟩:=aQy a1 (b:=n) (by omega)
    simp only [e1,Option.bind_eq_bind,Option.bind_some,er]
    exact ⟨r,c1,rfl,r0,fun _=>r1,o1⟩
  · rw [if_neg (by simpa using h1)]
    obtain ⟨x1,c1,e1,a1,b1,o1⟩:=aCr c h
    obtain ⟨x2,c2,e2,a2,b2,o2⟩:=aCr c1 o1
    obtain ⟨x3,c3,e3,a3,b3,o3⟩:=aCr c2 o2
    obtain ⟨x4,c4,e4,a4,b4,o4⟩:=aCr c3 o3
    simp only [e1,e2,e3,e4,Option.bind_eq_bind,Option.bind_some]
    rw [fP (n:=x1 * 16777216) (by omega) (by omega),fP (n:=x2 * 65536) (by omega) (by omega),fP (n:=x3 * 256) (by omega) (by omega),fP (n:=x1 * 16777216+x2 * 65536) (by omega) (by omega),fP (n:=x1 * 16777216+x2 * 65536+x3 * 256) (by omega) (by omega),fP (n:=x1 * 16777216+x2 * 65536+x3 * 256+x4) (by omega) (by omega)]
    obtain ⟨r,er,r0,r1⟩:=aQy (a:=x1 * 16777216+x2 * 65536+x3 * 256+x4) (by omega) (b:=n) (by omega)
    rw [er]
    exact ⟨r,c4,rfl,r0,fun _=>r1,o4⟩
theorem aYn (c:aQ) (n:Int) (h:okCur c):∃ x c',iI c n=some (x,c')∧okCur c':=by
  obtain ⟨x,c1,e1,_,_,o1⟩:=J7 c n h
  unfold iI
  simp only [e1,Option.bind_eq_bind,Option.bind_some]
  exact ⟨_,_,rfl,o1⟩
theorem aT9 {α:Type} {l:List α} {x:Int} (h0:0≤x) (h1:x<(l.length:Int)):∃ v,v ∈ l∧idx l x=some v:=by
  unfold idx
  rw [if_pos h0]
  exact ⟨_,List.getElem_mem (by omega),List.getElem?_eq_getElem (by omega)⟩
theorem bP7 (c:aQ) (l:List (List UInt8)) (hl:0<l.length) (h:okCur c):∃ x c',nA c l=some (x,c')∧x ∈ l∧okCur c':=by
  obtain ⟨x,c1,e1,h0,h1,o1⟩:=J7 c l.length h
  obtain ⟨v,hv,ev⟩:=aT9 h0 (h1 (by omega))
  unfold nA
  simp only [e1,ev,Option.bind_eq_bind,Option.bind_some]
  exact ⟨_,_,rfl,hv,o1⟩
theorem aXq (c:aQ) (l:List Int) (hl:0<l.length) (h:okCur c):∃ x c',A9 c l=some (x,c')∧x ∈ l∧okCur c':=by
  obtain ⟨x,c1,e1,h0,h1,o1⟩:=J7 c l.length h
  obtain ⟨v,hv,ev⟩:=aT9 h0 (h1 (by omega))
  unfold A9
  simp only [e1,ev,Option.bind_eq_bind,Option.bind_some]
  exact ⟨_,_,rfl,hv,o1⟩
theorem aQa (p:List Int) (hp:p.length≤1048576):∃ c,O6 p=some c∧okCur c:=by
  unfold O6
  have key:∀ i,i≤p.length→∀ h,∃ c,yH p h (i:Nat)=some c∧okCur c:=by
    refine xG ?_ ?_
    · intro h
      rw [yH]
      refine ⟨⟨p,0,h⟩,by simp,?_⟩
      exact ⟨by show (0:Int)≤0; omega,by show (0:Int)≤(p.length:Int); omega,hp⟩
    · intro i hi ih h
      rw [yH]
      by_cases h4:(i:Int)<4000
      · simp only [jP,hi,h4,decide_true,if_true,jB hi,oV hi (by omega),Option.bind_eq_bind,Option.bind_some]
        exact ih _
      · simp only [jP,hi,h4,decide_true,decide_false,if_true,Bool.false_eq_true,if_false]
        exact ⟨⟨p,0,h⟩,rfl,by show (0:Int)≤0; omega,by show (0:Int)≤(p.length:Int); omega,hp⟩
  exact key 0 (by omega) _
def Yes {α:Type} (m:Option α) (Q:α→Prop):Prop:=∃ r,m=some r∧Q r
theorem Yes.bind {α β:Type} {m:Option α} {k:α→Option β} {Q:α→Prop} {R:β→Prop} (h:Yes m Q) (hk:∀ x,Q x→Yes (k x) R):Yes (m>>=k) R:=by
  obtain ⟨x,e,hx⟩:=h
  obtain ⟨r,e2,hr⟩:=hk x hx
  exact ⟨r,by rw [e]; exact e2,hr⟩
theorem Yes.some {α:Type} {x:α} {Q:α→Prop} (h:Q x):Yes (some x) Q:=⟨x,rfl,h⟩
theorem Yes.mono {α:Type} {m:Option α} {Q R:α→Prop} (h:Yes m Q) (hk:∀ x,Q x→R x):Yes m R:=by
  obtain ⟨x,e,hx⟩:=h; exact ⟨x,e,hk x hx⟩
theorem Yes.ite {α:Type} {c:Prop} [Decidable c] {m m':Option α} {Q:α→Prop} (h:c→Yes m Q) (h':¬ c→Yes m' Q):Yes (if c then m else m') Q:=by
  split
  · exact h (by assumption)
  · exact h' (by assumption)
theorem mH (c:aQ) (n:Int) (h:okCur c):Yes (iL c n) fun r=>0≤r.1∧(0<n→r.1<n)∧okCur r.2:=by
  obtain ⟨x,c',e,h1,h2,h3⟩:=J7 c n h; exact ⟨_,e,h1,h2,h3⟩
theorem kV (c:aQ) (n:Int) (h:okCur c):Yes (iI c n) fun r=>okCur r.2:=by
  obtain ⟨x,c',e,h1⟩:=aYn c n h; exact ⟨_,e,h1⟩
theorem aMs (p:Bool) (b:Bool) (c:aQ) (n:Int) (h:okCur c):Yes (if (true&&(p==b))=true then iI c n else some ((default:Bool),c)) fun r=>okCur r.2:=Yes.ite (fun _=>kV c n h) fun _=>Yes.some h
theorem O3 {α:Type} {b:Nat} {l m:List α} (h:(l.length+m.length) * b≤140737488355328):Yes (appG b l m) fun r=>r=l++m:=⟨_,rG h,rfl⟩
theorem sG (c:aQ) (l:List (List UInt8)) (hl:0<l.length) (h:okCur c):Yes (nA c l) fun r=>r.1 ∈ l∧okCur r.2:=by
  obtain ⟨x,c',e,h0,h1⟩:=bP7 c l hl h; exact ⟨_,e,h0,h1⟩
theorem aGq (c:aQ) (h:okCur c):Yes (xX c) fun r=>r.1.length≤8∧okCur r.2:=by
  unfold xX
  refine Yes.bind (kV _ _ h) fun r k=>Yes.ite (fun _=>?_) fun _=>?_
  · refine Yes.bind (sG _ _ (by decide) k) fun r ⟨hm,k⟩=>Yes.some ⟨?_,k⟩
    have:∀ v ∈ ([[97,32,98],[102,114,111,109],[83,101,108,101,99,116],[49,120],[113,34,113],[0],[34],[105,116,39,115],[120,46,121],[45]]:List (List UInt8)),v.length≤8:=by decide
    exact this _ hm
  · refine Yes.bind (sG _ _ (by decide) k) fun r ⟨hm,k⟩=>Yes.some ⟨?_,k⟩
    have:∀ v ∈ ([[97],[98],[99],[116],[117],[118],[105,100],[110,97,109,101],[65],[95,120,49]]:List (List UInt8)),v.length≤8:=by decide
    exact this _ hm
theorem aLq (c:aQ) (h:okCur c):Yes (zA c) fun r=>okI r.1∧okCur r.2:=by
  obtain ⟨x,c1,e1,_,_,o1⟩:=J7 c 3 h
  obtain ⟨y,c2,e2,hy,o2⟩:=aXq c1 [0,1,(-1),63,64,(-64),(-65),127,128,16383,16384,9223372036854775807,(-9223372036854775808),4611686018427387904] (by decide) o1
  obtain ⟨z,c3,e3,z0,z1,o3⟩:=J7 c1 1000000 o1
  obtain ⟨w,c4,e4,w0,w1,o4⟩:=J7 c1 20 o1
  have hyI:okI y:=by
    have:∀ v ∈ ([0,1,(-1),63,64,(-64),(-65),127,128,16383,16384,9223372036854775807,(-9223372036854775808),4611686018427387904]:List Int),-9223372036854775808≤v∧v≤9223372036854775807:=by decide
    exact this y hy
  have hz:=z1 (by decide)
  have hw:=w1 (by decide)
  unfold zA
  simp only [e1,e2,e3,e4,Option.bind_eq_bind,Option.bind_some]
  split
  · exact ⟨_,rfl,hyI,o2⟩
  split
  · refine ⟨_,rfl,?_,o3⟩
    unfold okI; dsimp only; rw [fP (by omega) (by omega)]; omega
  · refine ⟨_,rfl,?_,o4⟩
    unfold okI; dsimp only; omega
theorem bDr (n:Int):aAb 0 n=some (if n<0 then 0 else n):=by
  unfold aAb
  by_cases h:n<0
  · rw [if_pos (decide_eq_true h),if_pos h]
  · rw [if_neg (by rw [decide_eq_true_eq]; exact h),if_neg h]
theorem aZm (c:aQ) (h:okCur c):Yes (aA5 c) fun r=>r.1.text.length≤50∧okCur r.2:=by
  unfold aA5
  refine Yes.bind (mH _ _ h) fun r ⟨_,_,k⟩=>Yes.ite (fun _=>?_) fun _=>Yes.ite (fun _=>?_) fun _=>Yes.ite (fun _=>?_) fun _=>Yes.ite (fun _=>?_) fun _=>?_
  · rw [aTh]
    simp only [Option.bind_eq_bind,Option.bind_some]
    refine Yes.bind (mH _ _ k) fun r ⟨h0,h1,k⟩=>?_
    have h2:=h1 (by omega)
    obtain ⟨j,hj⟩:∃ j:Nat,r.1=j:=⟨r.1.toNat,by omega⟩
    rw [hj] at h2 ⊢
    have hl:([]::words:List (List UInt8)).length=29:=rfl
    have e:IntKind.wrap .i64 (1+(j:Int))=((j+1:Nat):Int):=by rw [fP (by omega) (by omega)]; omega
    have hlt:j+1<([]::words:List (List UInt8)).length:=by rw [hl]; omega
    rw [e,jB hlt]
    simp only [Option.bind_some]
    refine Yes.some ⟨?_,k⟩
    have hm:([]::words:List (List UInt8))[j+1] ∈ ([]::words:List (List UInt8)):=List.getElem_mem hlt
    have:∀ w ∈ ([]::words:List (List UInt8)),w.length≤50:=by decide
    exact this _ hm
  · exact Yes.bind (aGq _ k) fun r ⟨h1,k⟩=>Yes.some ⟨by dsimp only; omega,k⟩
  · refine Yes.bind (aLq _ k) fun r ⟨hi,k⟩=>?_
    rw [bDr]
    simp only [Option.bind_eq_bind,Option.bind_some]
    have hb : -9223372036854775808≤(if r.1<0 then 0 else r.1)∧(if r.1<0 then 0 else r.1)≤9223372036854775807:=by
      have:=hi.1; have:=hi.2
      split <;> constructor <;> omega
    rw [aDt _ hb.1 hb.2]
    simp only [Option.bind_some]
    have:=Lib.itoa_length_le _ hb.1 hb.2
    exact Yes.some ⟨by dsimp only; omega,k⟩
  · refine Yes.bind (sG _ _ (by decide) k) fun r ⟨hm,k⟩=>Yes.some ⟨?_,k⟩
    have:∀ v ∈ ([[],[120],[105,116,39,115],[39,39],[116,119,111,32,119,111,114,100,115],[34],[45,45],[0,255]]:List (List UInt8)),v.length≤50:=by decide
    exact this _ hm
  · unfold aGf
    refine Yes.bind (Yes.bind (sG _ _ (by decide) k) fun r ⟨hm,k⟩=>Yes.some (Q:=fun (r:List UInt8×aQ)=>r.1.length≤50∧okCur r.2) ⟨?_,k⟩) fun r ⟨h1,k⟩=>Yes.some ⟨h1,k⟩
    have:∀ v ∈ ([[40],[41],[44],[46],[42],[43],[45],[47],[37],[61],[60,62],[60],[60,61],[62],[62,61],[124,124]]:List (List UInt8)),v.length≤50:=by decide
    exact this _ hm
theorem aQj (c:aQ) (h:okCur c):Yes (O8 c) fun r=>r.1.text.length≤50∧okCur r.2:=by
  unfold O8
  refine Yes.bind (aZm _ h) fun r ⟨h1,k⟩=>Yes.bind (mH _ _ k) fun r2 ⟨_,_,k⟩=>Yes.ite (fun _=>?_) fun _=>Yes.ite (fun _=>?_) fun _=>Yes.ite (fun _=>?_) fun _=>?_
  · exact Yes.bind (mH _ _ k) fun r3 ⟨_,_,k⟩=>by unfold rZ; exact Yes.some ⟨h1,k⟩
  · refine Yes.bind (sG _ _ (by decide) k) fun r3 ⟨hm,k⟩=>?_
    unfold rZ
    refine Yes.some ⟨?_,k⟩
    have:∀ v ∈ ([[],[115,101,108,101,99,116],[83,69,76,69,67,84,83],[48,49],[57,50,50,51,51,55,50,48,51,54,56,53,52,55,55,53,56,48,56],[61,62],[124],[97,98,99,100,101,102,103,104,105,106,107,108,109,110,111,112,113,114,115,116,117],[49,50,51,52,53,54,55,56,57,48,49,50,51,52,53,54,55,56,57,48,49,50,51,52,53,54,55,56,57,48,49,50,51,52,53,54,55,56,57,48,49]]:List (List UInt8)),v.length≤50:=by decide
    exact this _ hm
  · exact Yes.bind (aLq _ k) fun r3 ⟨_,k⟩=>by unfold rZ; exact Yes.some ⟨h1,k⟩
  · unfold rZ; exact Yes.some ⟨h1,k⟩
theorem aOc (x:aA):∃ n,vG x=some n∧0≤n∧n≤9:=by
  have ob:∀ o:Int,∃ n,(oJ o 1 14>>=fun y1=>if y1=true then (idx ([0,1,2,4,4,4,4,4,4,5,6,6,7,7,7]:List Int) o>>=fun y2=>some y2) else uD)=some n∧0≤n∧n≤9:=by
    intro o
    by_cases h:1≤o∧o≤14
    · have h:o=1∨o=2∨o=3∨o=4∨o=5∨o=6∨o=7∨o=8∨o=9∨o=10∨o=11∨o=12∨o=13∨o=14:=by omega
      rcases h with rfl | rfl | rfl | rfl | rfl | rfl | rfl | rfl | rfl | rfl | rfl | rfl | rfl | rfl <;> exact ⟨_,rfl,by decide,by decide⟩
    · refine ⟨0,?_,by decide,by decide⟩
      unfold oJ uD
      simp only [Option.bind_eq_bind,Option.bind_some]
      rw [if_neg]
      intro hh
      by_cases h1:1≤o
      · rw [if_pos (by simpa using h1)] at hh
        exact h ⟨h1,by simpa using hh⟩
      · rw [if_neg (by simpa using h1)] at hh
        simp at hh
  obtain ⟨k,o,no,v,q,nm,ks,sb⟩:=x
  obtain ⟨n,h2,h3,h4⟩:=ob o
  unfold vG V7 G7
  simp only [h2]
  by_cases k4:k=4
  · subst k4; exact ⟨n,by simp,h3,h4⟩
  by_cases k3:k=3
  · subst k3
    by_cases o15:o=15
    · subst o15; exact ⟨3,by simp,by omega,by omega⟩
    by_cases o16:o=16
    · subst o16; exact ⟨8,by simp,by omega,by omega⟩
    · exact ⟨0,by simp [o15,o16,uD],by omega,by omega⟩
  by_cases k5:k=5
  · subst k5; exact ⟨4,by simp,by omega,by omega⟩
  by_cases k6:k=6
  · subst k6; exact ⟨4,by simp,by omega,by omega⟩
  by_cases k7:k=7
  · subst k7; exact ⟨4,by simp,by omega,by omega⟩
  by_cases k8:k=8
  · subst k8; exact ⟨4,by simp,by omega,by omega⟩
  by_cases k1:k=1
  · subst k1; exact ⟨9,by simp,by omega,by omega⟩
  by_cases k2:k=2
  · subst k2; exact ⟨9,by simp,by omega,by omega⟩
  by_cases k9:k=9
  · subst k9; exact ⟨9,by simp,by omega,by omega⟩
  exact ⟨0,by simp [k1,k2,k3,k4,k5,k6,k7,k8,k9,uD],by omega,by omega⟩
theorem bPo (x:aA) (i:Nat) (hi:i<x.kids.length) (hl:x.kids.length≤1048576):∃ b,aAo x (i:Int)=some b:=by
  obtain ⟨m,g2,_,_⟩:=aOc x.kids[i]
  obtain ⟨n,h2,h3,h4⟩:=aOc x
  have c3:IntKind.wrap .i64 ((x.kids.length:Int) - 1)=(x.kids.length:Int) - 1:=fP (by omega) (by omega)
  have c4:(0:Int)≤(i:Int):=by omega
  have c5:(i:Int)≤(x.kids.length:Int) - 1:=by omega
  have hn:∃ k,aB1 x (i:Int)=some k:=by
    unfold aB1 oJ aCy
    simp only [h2,c3,c4,c5,Option.bind_eq_bind,Option.bind_some,decide_true,if_true]
    repeat' split
    all_goals exact ⟨_,rfl⟩
  obtain ⟨k,hk⟩:=hn
  unfold aAo oJ
  simp only [c3,c4,c5,jB hi,hk,decide_true,if_true,Option.bind_eq_bind,Option.bind_some]
  exact ⟨decide (m<k),by simp [g2]⟩
def GT (k:Nat) (l:List aJ):Prop:=l.length≤k∧∀ t ∈ l,t.text.length≤50
abbrev STk (t:aJ):Prop:=t.text.length≤50
theorem GT.le {k m:Nat} {l:List aJ} (h:GT k l) (hm:k≤m):GT m l:=⟨Nat.le_trans h.1 hm,h.2⟩
theorem GT.app {k:Nat} {l m:List aJ} (h:GT k l) (hm:∀ t ∈ m,STk t) (hk:k+m.length≤1000000000):Yes (appG 32 l m) (GT (k+m.length)) :=
  ⟨_,rG (by have:=h.1; omega),by have:=h.1; simp; omega,fun t ht=>by
    rcases List.mem_append.1 ht with h1 | h1
    · exact h.2 t h1
    · exact hm t h1⟩
theorem GT.one {k:Nat} {l:List aJ} (h:GT k l) {t:aJ} (ht:STk t) (hk:k+1≤1000000000):Yes (appG 32 l [t]) (GT (k+1)) :=
  h.app (m:=[t]) (fun u hu=>by rw [List.mem_singleton] at hu; rw [hu]; exact ht) hk
theorem GT.two {k:Nat} {l:List aJ} (h:GT k l) {t u:aJ} (ht:STk t) (hu:STk u) (hk:k+2≤1000000000):Yes (appG 32 l [t,u]) (GT (k+2)) :=
  h.app (m:=[t,u]) (fun v hv=>by
    rcases List.mem_cons.1 hv with h1 | h1
    · rw [h1]; exact ht
    · rw [List.mem_singleton] at h1; rw [h1]; exact hu) hk
def PE (B:Nat) (e:aA):Prop:=∀ (b:Bool) (l:List aJ) (k:Nat),GT k l→k+B≤1000000000→Yes (kW l e b) (GT (k+B))
def PQ (B:Nat) (q:aX):Prop:=∀ (b:Bool) (l:List aJ) (k:Nat),GT k l→k+B≤1000000000→Yes (F7 l q b) (GT (k+B))
theorem PE.le {B C:Nat} {e:aA} (h:PE B e) (hm:B≤C):PE C e:=fun b l k g hk=>(h b l k g (by omega)).mono fun _ g=>g.le (by omega)
theorem tZ {x a:aA} {i:Nat} (ha:x.kids[i]?=some a) (hl:x.kids.length≤1048576) {B:Nat} (h:PE B a) (b:Bool) {l:List aJ} {k:Nat} (g:GT k l) (hk:k+(B+2)≤1000000000):Yes (tC l x (i:Int) b) (GT (k+(B+2))):=by
  obtain ⟨hi,hg⟩:=List.getElem?_eq_some_iff.1 ha
  obtain ⟨w,hw⟩:=bPo x i hi hl
  obtain ⟨n,hn,_⟩:=aOc a
  rw [tC]
  refine Yes.bind (Q:=fun y=>y=a) ⟨a,by rw [jB hi,hg],rfl⟩ fun y hy=>?_
  rw [hy]
  refine Yes.bind (Q:=fun _=>True) ⟨w,hw,trivial⟩ fun w _=>?_
  refine Yes.bind (Q:=fun _=>True) (Yes.ite (fun _=>⟨n,hn,trivial⟩) fun _=>⟨_,rfl,trivial⟩) fun y3 _=>?_
  refine Yes.bind (Q:=fun _=>True) (Yes.ite (fun _=>⟨_,rfl,trivial⟩) fun _=>⟨_,rfl,trivial⟩) fun y4 _=>?_
  refine Yes.bind (Q:=fun _=>True) ⟨_,rfl,trivial⟩ fun y5 _=>?_
  refine Yes.ite (fun _=>?_) fun _=>?_
  · exact Yes.bind (Q:=STk) ⟨_,rfl,by decide⟩ fun t ht=>Yes.bind (g.one ht (by omega)) fun l2 g2=>Yes.bind (h b l2 _ g2 (by omega)) fun l3 g3=>Yes.bind (Q:=STk) ⟨_,rfl,by decide⟩ fun t ht=>Yes.bind (g3.one ht (by omega)) fun l4 g4=>Yes.some (g4.le (by omega))
  · exact Yes.bind (h b l k g (by omega)) fun l2 g2=>Yes.some (g2.le (by omega))
theorem bRy (v:bJ) (hn:okI v.num) (ht:v.text.length≤50):Yes (aAw v) STk:=by
  unfold aAw
  refine Yes.ite (fun _=>?_) fun _=>Yes.ite (fun _=>Yes.some ht) fun _=>Yes.ite (fun _=>Yes.ite (fun _=>?_) fun _=>?_) fun _=>?_
  · rw [aDt _ hn.1 hn.2]
    have:=Lib.itoa_length_le _ hn.1 hn.2
    exact Yes.bind (Q:=fun s:List UInt8=>s.length≤50) ⟨_,rfl,by omega⟩ fun s hs=>Yes.some hs
  all_goals exact Yes.bind (Q:=STk) ⟨_,rfl,by decide⟩ fun t ht=>Yes.some ht
theorem aUf {o:Int} (h:1≤o∧o≤16):Yes (zY o) STk:=by
  have h:o=1∨o=2∨o=3∨o=4∨o=5∨o=6∨o=7∨o=8∨o=9∨o=10∨o=11∨o=12∨o=13∨o=14∨o=15∨o=16:=by omega
  rcases h with rfl | rfl | rfl | rfl | rfl | rfl | rfl | rfl | rfl | rfl | rfl | rfl | rfl | rfl | rfl | rfl <;> exact ⟨_,rfl,by decide⟩
theorem aI1 (x:aA) {l:List aJ} {k:Nat} (g:GT k l) (hk:k+1≤1000000000):Yes (zV l x) (GT (k+1)):=by
  unfold zV
  exact Yes.ite (fun _=>Yes.bind (Q:=STk) ⟨_,rfl,by decide⟩ fun t ht=>Yes.bind (g.one ht hk) fun l2 g2=>Yes.some g2) fun _=>Yes.some (g.le (by omega))
theorem aS2 {w:List UInt8} (hw:w.length≤50) {l:List aJ} {k:Nat} (g:GT k l) (hk:k+2≤1000000000):Yes (aA1 l w) (GT (k+2)):=by
  unfold aA1
  exact Yes.ite (fun _=>Yes.some (g.le (by omega))) fun _=>Yes.bind (Q:=STk) ⟨_,rfl,by decide⟩ fun t ht=>Yes.bind (Q:=STk) ⟨_,rfl,hw⟩ fun u hu=>Yes.bind (g.two ht hu hk) fun l2 g2=>Yes.some g2
theorem gH {x:aA} {a b:Int} (h:x.kind=a) (hd:a≠b) {q:Prop} (h2:decide (x.kind=b)=true):q:=by rw [h] at h2; simp [hd] at h2
theorem yL {x:aA} {a:Int} (h:x.kind=a) {q:Prop} (h2:¬ decide (x.kind=a)=true):q:=by rw [h] at h2; simp at h2
theorem pe1 {x:aA} (hk:x.kind=1) (hn:okI x.value.num) (ht:x.value.text.length≤50):PE 1 x:=by
  intro b l k g h
  rw [kW]
  exact Yes.ite (fun _=>Yes.bind (bRy _ hn ht) fun t ht=>Yes.bind (g.one ht h) fun l2 g2=>Yes.some g2) fun h2=>yL hk h2
theorem pe2 {x:aA} (hk:x.kind=2) (hq:x.qual.length≤50) (hn:x.name.length≤50):PE 3 x:=by
  intro b l k g h
  have J:∀ l k,GT k l→k+1≤1000000000→Yes (aA3 x l) (GT (k+1)):=fun l k g h=>by
    unfold aA3
    exact Yes.bind (Q:=STk) ⟨_,rfl,hn⟩ fun t ht=>Yes.bind (g.one ht h) fun l2 g2=>Yes.some g2
  rw [kW]
  refine Yes.ite (fun h2=>gH hk (by decide) h2) fun _=>Yes.ite (fun _=>Yes.ite (fun _=>?_) fun _=>(J _ _ g (by omega)).mono fun _ g=>g.le (by omega)) fun h2=>yL hk h2
  exact Yes.bind (Q:=STk) ⟨_,rfl,hq⟩ fun t ht=>Yes.bind (Q:=STk) ⟨_,rfl,by decide⟩ fun u hu=>Yes.bind (g.two ht hu (by omega)) fun l2 g2=>J _ _ g2 (by omega)
theorem pe3 {x a:aA} {B:Nat} (hk:x.kind=3) (ho:1≤x.op∧x.op≤16) (ha:x.kids=[a]) (h:PE B a):PE (B+3) x:=by
  intro b l k g hb
  rw [kW]
  refine Yes.ite (fun h2=>gH hk (by decide) h2) fun _=>Yes.ite (fun h2=>gH hk (by decide) h2) fun _=>Yes.ite (fun _=>?_) fun h2=>yL hk h2
  exact Yes.bind (aUf ho) fun t ht=>Yes.bind (g.one ht (by omega)) fun l2 g2=>Yes.bind (tZ (i:=0) (by rw [ha]; rfl) (by rw [ha]; simp) h b g2 (by omega)) fun l3 g3=>Yes.some (g3.le (by omega))
theorem pe9 {x:aA} {q:aX} {B:Nat} (hk:x.kind=9) (hs:x.sub=[q]) (h:PQ B q):PE (B+3) x:=by
  intro b l k g hb
  rw [kW]
  refine Yes.ite (fun h2=>gH hk (by decide) h2) fun _=>Yes.ite (fun h2=>gH hk (by decide) h2) fun _=>Yes.ite (fun h2=>gH hk (by decide) h2) fun _=>Yes.ite (fun _=>?_) fun h2=>yL hk h2
  exact Yes.bind (Q:=STk) ⟨_,rfl,by decide⟩ fun t ht=>Yes.bind (Q:=STk) ⟨_,rfl,by decide⟩ fun u hu=>Yes.bind (g.two ht hu (by omega)) fun l2 g2=>Yes.bind (Q:=PQ B) ⟨q,by rw [hs]; rfl,h⟩ fun y hy=>Yes.bind (hy b l2 _ g2 (by omega)) fun l3 g3=>Yes.bind (Q:=STk) ⟨_,rfl,by decide⟩ fun t ht=>Yes.bind (g3.one ht (by omega)) fun l4 g4=>Yes.some (g4.le (by omega))
theorem pe4 {x a c:aA} {B:Nat} (hk:x.kind=4) (ho:1≤x.op∧x.op≤16) (ha:x.kids=[a,c]) (h:PE B a) (h':PE B c):PE (2 * B+5) x:=by
  intro b l k g hb
  rw [kW]
  refine Yes.ite (fun h2=>gH hk (by decide) h2) fun _=>Yes.ite (fun h2=>gH hk (by decide) h2) fun _=>Yes.ite (fun h2=>gH hk (by decide) h2) fun _=>Yes.ite (fun h2=>gH hk (by decide) h2) fun _=>?_
  refine Yes.bind (tZ (i:=0) (by rw [ha]; rfl) (by rw [ha]; simp) h b g (by omega)) fun l2 g2=>Yes.ite (fun _=>?_) fun h2=>yL hk h2
  exact Yes.bind (aUf ho) fun t ht=>Yes.bind (g2.one ht (by omega)) fun l3 g3=>Yes.bind (tZ (i:=1) (by rw [ha]; rfl) (by rw [ha]; simp) h' b g3 (by omega)) fun l4 g4=>Yes.some (g4.le (by omega))
theorem pe5 {x a:aA} {B:Nat} (hk:x.kind=5) (ha:x.kids=[a]) (h:PE B a):PE (B+5) x:=by
  intro b l k g hb
  rw [kW]
  refine Yes.ite (fun h2=>gH hk (by decide) h2) fun _=>Yes.ite (fun h2=>gH hk (by decide) h2) fun _=>Yes.ite (fun h2=>gH hk (by decide) h2) fun _=>Yes.ite (fun h2=>gH hk (by decide) h2) fun _=>?_
  refine Yes.bind (tZ (i:=0) (by rw [ha]; rfl) (by rw [ha]; simp) h b g (by omega)) fun l2 g2=>Yes.ite (fun h2=>gH hk (by decide) h2) fun _=>Yes.ite (fun _=>?_) fun h2=>yL hk h2
  exact Yes.bind (Q:=STk) ⟨_,rfl,by decide⟩ fun t ht=>Yes.bind (g2.one ht (by omega)) fun l3 g3=>Yes.bind (aI1 x g3 (by omega)) fun l4 g4=>Yes.bind (Q:=STk) ⟨_,rfl,by decide⟩ fun t ht=>Yes.bind (g4.one ht (by omega)) fun l5 g5=>Yes.some (g5.le (by omega))
theorem pe6 {x a c d:aA} {B:Nat} (hk:x.kind=6) (ha:x.kids=[a,c,d]) (h:PE B a) (h':PE B c) (h'':PE B d):PE (3 * B+9) x:=by
  intro b l k g hb
  rw [kW]
  refine Yes.ite (fun h2=>gH hk (by decide) h2) fun _=>Yes.ite (fun h2=>gH hk (by decide) h2) fun _=>Yes.ite (fun h2=>gH hk (by decide) h2) fun _=>Yes.ite (fun h2=>gH hk (by decide) h2) fun _=>?_
  refine Yes.bind (tZ (i:=0) (by rw [ha]; rfl) (by rw [ha]; simp) h b g (by omega)) fun l2 g2=>Yes.ite (fun h2=>gH hk (by decide) h2) fun _=>Yes.ite (fun h2=>gH hk (by decide) h2) fun _=>Yes.ite (fun _=>?_) fun h2=>yL hk h2
  exact Yes.bind (aI1 x g2 (by omega)) fun l3 g3=>Yes.bind (Q:=STk) ⟨_,rfl,by decide⟩ fun t ht=>Yes.bind (g3.one ht (by omega)) fun l4 g4=>Yes.bind (tZ (i:=1) (by rw [ha]; rfl) (by rw [ha]; simp) h' b g4 (by omega)) fun l5 g5=>Yes.bind (Q:=STk) ⟨_,rfl,by decide⟩ fun t ht=>Yes.bind (g5.one ht (by omega)) fun l6 g6=>Yes.bind (tZ (i:=2) (by rw [ha]; rfl) (by rw [ha]; simp) h'' b g6 (by omega)) fun l7 g7=>Yes.some (g7.le (by omega))
theorem bEa {x:aA} {B:Nat} (hl:x.kids.length≤1048576) (h:∀ y ∈ x.kids,PE B y) (b:Bool):∀ (n i:Nat) (l:List aJ) (k:Nat),x.kids.length≤n+i→GT k l→k+(n * (B+3)+1)≤1000000000→Yes (yR b x l (i:Int)) (GT (k+(n * (B+3)+1))):=by
  have fin:∀ (i:Nat) (l:List aJ) (k:Nat),¬ i<x.kids.length→GT k l→k+1≤1000000000→Yes (yR b x l (i:Int)) (GT (k+1)):=by
    intro i l k hi g hk
    rw [yR,jP]
    refine Yes.ite (fun h2=>absurd (of_decide_eq_true h2) hi) fun _=>?_
    exact Yes.bind (Q:=STk) ⟨_,rfl,by decide⟩ fun t ht=>Yes.bind (g.one ht hk) fun l2 g2=>Yes.some g2
  intro n
  induction n with
  | zero=>intro i l k hi g hk; exact (fin i l k (by omega) g (by omega)).mono fun _ g=>g.le (by omega)
  | succ n ih =>
    intro i l k hi g hk
    have e:(n+1) * (B+3)=n * (B+3)+(B+3):=Nat.succ_mul n (B+3)
    by_cases h0:i<x.kids.length
    · have J : ∀ l k, GT k l → k + (n * (B + 3) + 1 + (B + 2)) ≤ 1000000000 → Yes (M0 b (i : Int) x l) (GT (k + (n * (B + 3) + 1 + (B + 2)))) := by
        intro l k g hk
        rw [M0,oV h0 (by omega)]
        exact Yes.bind (tZ (List.getElem?_eq_getElem h0) hl (h _ (List.getElem_mem h0)) b g (by omega)) fun l2 g2=>(ih (i+1) l2 _ (by omega) g2 (by omega)).mono fun _ g=>g.le (by omega)
      rw [yR,jP]
      refine Yes.ite (fun _=>?_) fun h2=>absurd (decide_eq_true h0) h2
      refine Yes.ite (fun _=>?_) fun _=>(J l k g (by omega)).mono fun _ g=>g.le (by omega)
      exact Yes.bind (Q:=STk) ⟨_,rfl,by decide⟩ fun t ht=>Yes.bind (g.one ht (by omega)) fun l2 g2=>(J l2 _ g2 (by omega)).mono fun _ g=>g.le (by omega)
    · exact (fin i l k h0 g (by omega)).mono fun _ g=>g.le (by omega)
theorem pe7 {x a:aA} {B:Nat} (hk:x.kind=7) (ha:x.kids[0]?=some a) (hl:x.kids.length≤3) (h:∀ y ∈ x.kids,PE B y):PE (3 * B+12) x:=by
  intro b l k g hb
  rw [kW]
  refine Yes.ite (fun h2=>gH hk (by decide) h2) fun _=>Yes.ite (fun h2=>gH hk (by decide) h2) fun _=>Yes.ite (fun h2=>gH hk (by decide) h2) fun _=>Yes.ite (fun h2=>gH hk (by decide) h2) fun _=>?_
  refine Yes.bind (tZ (i:=0) ha (by omega) (h a (List.mem_of_getElem? ha)) b g (by omega)) fun l2 g2=>Yes.ite (fun h2=>gH hk (by decide) h2) fun _=>Yes.ite (fun h2=>gH hk (by decide) h2) fun _=>Yes.ite (fun h2=>gH hk (by decide) h2) fun _=>?_
  exact Yes.bind (aI1 x g2 (by omega)) fun l3 g3=>Yes.bind (Q:=STk) ⟨_,rfl,by decide⟩ fun t ht=>Yes.bind (Q:=STk) ⟨_,rfl,by decide⟩ fun u hu=>Yes.bind (g3.two ht hu (by omega)) fun l4 g4=>Yes.ite (fun h2=>gH hk (by decide) h2) fun _=>(bEa (by omega) h b 2 1 l4 _ (by omega) g4 (by omega)).mono fun _ g=>g.le (by omega)
theorem pe8 {x a:aA} {q:aX} {B C:Nat} (hk:x.kind=8) (ha:x.kids=[a]) (hs:x.sub=[q]) (h:PE B a) (h':PQ C q):PE (B+C+6) x:=by
  intro b l k g hb
  rw [kW]
  refine Yes.ite (fun h2=>gH hk (by decide) h2) fun _=>Yes.ite (fun h2=>gH hk (by decide) h2) fun _=>Yes.ite (fun h2=>gH hk (by decide) h2) fun _=>Yes.ite (fun h2=>gH hk (by decide) h2) fun _=>?_
  refine Yes.bind (tZ (i:=0) (by rw [ha]; rfl) (by rw [ha]; simp) h b g (by omega)) fun l2 g2=>Yes.ite (fun h2=>gH hk (by decide) h2) fun _=>Yes.ite (fun h2=>gH hk (by decide) h2) fun _=>Yes.ite (fun h2=>gH hk (by decide) h2) fun _=>?_
  refine Yes.bind (aI1 x g2 (by omega)) fun l3 g3=>Yes.bind (Q:=STk) ⟨_,rfl,by decide⟩ fun t ht=>Yes.bind (Q:=STk) ⟨_,rfl,by decide⟩ fun u hu=>Yes.bind (g3.two ht hu (by omega)) fun l4 g4=>Yes.ite (fun _=>?_) fun h2=>yL hk h2
  exact Yes.bind (Q:=PQ C) ⟨q,by rw [hs]; rfl,h'⟩ fun y hy=>Yes.bind (hy b l4 _ g4 (by omega)) fun l5 g5=>Yes.bind (Q:=STk) ⟨_,rfl,by decide⟩ fun t ht=>Yes.bind (g5.one ht (by omega)) fun l6 g6=>Yes.some (g6.le (by omega))
theorem aWx {α:Type} {l:List α} (h:0<l.length):idx l 0=some l[0]:=by rw [show (0:Int)=((0:Nat):Int) from rfl,jB h]
theorem bSt {w:List aA} {B:Nat} (h:∀ y ∈ w,PE B y) (b:Bool) {l:List aJ} {k:Nat} (g:GT k l) (hk:k+(B+1)≤1000000000):Yes (X4 l w b) (GT (k+(B+1))):=by
  rw [X4]
  refine Yes.ite (fun _=>Yes.some (g.le (by omega))) fun h0=>?_
  have hn:0<w.length:=by
    by_cases hw:w.length=0
    · rw [hw] at h0; exact absurd rfl h0
    · omega
  exact Yes.bind (Q:=STk) ⟨_,rfl,by decide⟩ fun t ht=>Yes.bind (g.one ht (by omega)) fun l2 g2=>Yes.bind (Q:=PE B) ⟨_,aWx hn,h _ (List.getElem_mem hn)⟩ fun y hy=>Yes.bind (hy b l2 _ g2 (by omega)) fun l3 g3=>Yes.some (g3.le (by omega))
theorem bMw {q:aX} {B:Nat} (hl:q.order.length≤1048576) (h:∀ s ∈ q.order,PE B s.expr) (hq:okI q.limit) (b:Bool):∀ (n i:Nat) (l:List aJ) (k:Nat),q.order.length≤n+i→GT k l→k+(n * (B+3)+2)≤1000000000→Yes (wX b q l (i:Int)) (GT (k+(n * (B+3)+2))):=by
  have fin:∀ (i:Nat) (l:List aJ) (k:Nat),¬ i<q.order.length→GT k l→k+2≤1000000000→Yes (wX b q l (i:Int)) (GT (k+2)):=by
    intro i l k hi g hk
    have hd:=Lib.itoa_length_le _ hq.1 hq.2
    rw [wX,jP]
    refine Yes.ite (fun h2=>absurd (of_decide_eq_true h2) hi) fun _=>Yes.ite (fun _=>?_) fun _=>?_
    · exact Yes.bind (Q:=STk) ⟨_,rfl,by decide⟩ fun t ht=>Yes.bind (Q:=fun s:List UInt8=>s.length≤50) ⟨_,aDt _ hq.1 hq.2,by omega⟩ fun s hs=>Yes.bind (g.two ht (u:=aJ.mk 3 s 0) hs hk) fun l2 g2=>Yes.some g2
    · exact Yes.some (g.le (by omega))
  intro n
  induction n with
  | zero=>intro i l k hi g hk; exact (fin i l k (by omega) g (by omega)).mono fun _ g=>g.le (by omega)
  | succ n ih =>
    intro i l k hi g hk
    have e:(n+1) * (B+3)=n * (B+3)+(B+3):=Nat.succ_mul n (B+3)
    by_cases h0:i<q.order.length
    · have J6 : ∀ l k, GT k l → k + (n * (B + 3) + 2) ≤ 1000000000 → Yes (K5 b (i : Int) q l) (GT (k + (n * (B + 3) + 2))) := fun l k g hk => by
        rw [K5,oV h0 (by omega)]
        exact ih (i+1) l k (by omega) g hk
      have J4:∀ l k,GT k l→k+(n * (B+3)+2+(B+1))≤1000000000→Yes (P5 b (i:Int) q l) (GT (k+(n * (B+3)+2+(B+1)))):=fun l k g hk=>by
        rw [P5]
        refine Yes.bind (Q:=fun s:dY=>PE B s.expr) ⟨_,jB h0,h _ (List.getElem_mem h0)⟩ fun y hy=>Yes.bind (hy b l k g (by omega)) fun l2 g2=>Yes.bind (Q:=fun _=>True) ⟨_,jB h0,trivial⟩ fun z _=>Yes.ite (fun _=>?_) fun _=>(J6 l2 _ g2 (by omega)).mono fun _ g=>g.le (by omega)
        exact Yes.bind (Q:=STk) ⟨_,rfl,by decide⟩ fun t ht=>Yes.bind (g2.one ht (by omega)) fun l3 g3=>(J6 l3 _ g3 (by omega)).mono fun _ g=>g.le (by omega)
      rw [wX,jP]
      refine Yes.ite (fun _=>?_) fun h2=>absurd (decide_eq_true h0) h2
      refine Yes.ite (fun _=>?_) fun _=>?_
      · exact Yes.bind (Q:=STk) ⟨_,rfl,by decide⟩ fun t ht=>Yes.bind (Q:=STk) ⟨_,rfl,by decide⟩ fun u hu=>Yes.bind (g.two ht hu (by omega)) fun l2 g2=>(J4 l2 _ g2 (by omega)).mono fun _ g=>g.le (by omega)
      · exact Yes.bind (Q:=STk) ⟨_,rfl,by decide⟩ fun t ht=>Yes.bind (g.one ht (by omega)) fun l2 g2=>(J4 l2 _ g2 (by omega)).mono fun _ g=>g.le (by omega)
    · exact (fin i l k h0 g (by omega)).mono fun _ g=>g.le (by omega)
def SPk (B:Nat) (s:bR):Prop:=s.table.length≤50∧s.as_.length≤50∧∀ y ∈ s.on_,PE B y
def IPk (B:Nat) (i:bU):Prop:=(i.star=false→PE B i.expr)∧i.qual.length≤50∧i.as_.length≤50
theorem bSk {p:List bR} {B:Nat} (hl:p.length≤1048576) (h:∀ s ∈ p,SPk B s) (b:Bool):∀ (n i:Nat) (l:List aJ) (k:Nat),p.length≤n+i→GT k l→k+n * (B+6)≤1000000000→Yes (xK p b l (i:Int)) (GT (k+n * (B+6))):=by
  have fin:∀ (i:Nat) (l:List aJ) (k:Nat),¬ i<p.length→GT k l→Yes (xK p b l (i:Int)) (GT k):=by
    intro i l k hi g
    rw [xK,jP]
    exact Yes.ite (fun h2=>absurd (of_decide_eq_true h2) hi) fun _=>Yes.some g
  intro n
  induction n with
  | zero=>intro i l k hi g hk; exact (fin i l k (by omega) g).mono fun _ g=>g.le (by omega)
  | succ n ih =>
    intro i l k hi g hk
    have e:(n+1) * (B+6)=n * (B+6)+(B+6):=Nat.succ_mul n (B+6)
    by_cases h0:i<p.length
    · obtain ⟨a1,a2,a3⟩:=h _ (List.getElem_mem h0)
      have J3:∀ l k,GT k l→k+n * (B+6)≤1000000000→Yes (K8 p b (i:Int) l) (GT (k+n * (B+6))):=fun l k g hk=>by
        rw [K8,oV h0 (by omega)]
        exact ih (i+1) l k (by omega) g hk
      have J2:∀ l k,GT k l→k+(n * (B+6)+(B+4))≤1000000000→Yes (Y3 p b (i:Int) l) (GT (k+(n * (B+6)+(B+4)))):=fun l k g hk=>by
        rw [Y3]
        refine Yes.bind (Q:=fun s=>s=p[i]) ⟨_,jB h0,rfl⟩ fun y1 e1=>?_
        refine Yes.bind (Q:=STk) ⟨_,rfl,by rw [e1]; exact a1⟩ fun t ht=>Yes.bind (g.one ht (by omega)) fun l2 g2=>Yes.bind (Q:=fun s=>s=p[i]) ⟨_,jB h0,rfl⟩ fun y2 e2=>Yes.bind (aS2 (by rw [e2]; exact a2) g2 (by omega)) fun l3 g3=>Yes.bind (Q:=fun s=>s=p[i]) ⟨_,jB h0,rfl⟩ fun y3 e3=>Yes.ite (fun hon=>?_) fun _=>(J3 l3 _ g3 (by omega)).mono fun _ g=>g.le (by omega)
        have hn:0<p[i].on_.length:=by rw [e3] at hon; have:=of_decide_eq_true hon; omega
        refine Yes.bind (Q:=STk) ⟨_,rfl,by decide⟩ fun t ht=>Yes.bind (g3.one ht (by omega)) fun l4 g4=>Yes.bind (Q:=fun s=>s=p[i]) ⟨_,jB h0,rfl⟩ fun y4 e4=>?_
        rw [e4]
        exact Yes.bind (Q:=PE B) ⟨_,aWx hn,a3 _ (List.getElem_mem hn)⟩ fun y hy=>Yes.bind (hy b l4 _ g4 (by omega)) fun l5 g5=>(J3 l5 _ g5 (by omega)).mono fun _ g=>g.le (by omega)
      have J1:∀ l k,GT k l→k+(n * (B+6)+(B+5))≤1000000000→Yes (R9 p b (i:Int) l) (GT (k+(n * (B+6)+(B+5)))):=fun l k g hk=>by
        rw [R9]
        refine Yes.bind (Q:=fun _=>True) (Yes.ite (fun _=>⟨_,jB h0,trivial⟩) fun _=>⟨_,rfl,trivial⟩) fun y _=>Yes.bind (Q:=fun _=>True) ⟨_,rfl,trivial⟩ fun z _=>Yes.ite (fun _=>?_) fun _=>(J2 l k g (by omega)).mono fun _ g=>g.le (by omega)
        exact Yes.bind (Q:=STk) ⟨_,rfl,by decide⟩ fun t ht=>Yes.bind (g.one ht (by omega)) fun l2 g2=>(J2 l2 _ g2 (by omega)).mono fun _ g=>g.le (by omega)
      rw [xK,jP]
      refine Yes.ite (fun _=>?_) fun h2=>absurd (decide_eq_true h0) h2
      refine Yes.bind (Q:=fun _=>True) (Yes.ite (fun _=>⟨_,jB h0,trivial⟩) fun _=>⟨_,rfl,trivial⟩) fun y _=>Yes.bind (Q:=fun _=>True) ⟨_,rfl,trivial⟩ fun z _=>Yes.ite (fun _=>?_) fun _=>(J1 l k g (by omega)).mono fun _ g=>g.le (by omega)
      exact Yes.bind (Q:=STk) ⟨_,rfl,by decide⟩ fun t ht=>Yes.bind (g.one ht (by omega)) fun l2 g2=>(J1 l2 _ g2 (by omega)).mono fun _ g=>g.le (by omega)
    · exact (fin i l k h0 g).mono fun _ g=>g.le (by omega)
theorem bM6 {x:bU} {B:Nat} (h:IPk B x) (b:Bool) {l:List aJ} {k:Nat} (g:GT k l) (hk:k+(B+3)≤1000000000):Yes (aBm l x b) (GT (k+(B+3))):=by
  obtain ⟨h1,h2,h3⟩:=h
  have J0:∀ l k,GT k l→k+1≤1000000000→Yes (U2 l) (GT (k+1)):=fun l k g hk=>by
    unfold U2
    exact Yes.bind (Q:=STk) ⟨_,rfl,by decide⟩ fun t ht=>Yes.bind (g.one ht hk) fun l2 g2=>Yes.some g2
  rw [aBm]
  refine Yes.ite (fun hs=>?_) fun _=>Yes.ite (fun _=>?_) fun _=>(J0 l k g (by omega)).mono fun _ g=>g.le (by omega)
  · have hs:x.star=false:=by simpa using hs
    exact Yes.bind (h1 hs b l k g (by omega)) fun l2 g2=>Yes.bind (aS2 h3 g2 (by omega)) fun l3 g3=>Yes.some (g3.le (by omega))
  · exact Yes.bind (Q:=STk) ⟨_,rfl,h2⟩ fun t ht=>Yes.bind (Q:=STk) ⟨_,rfl,by decide⟩ fun u hu=>Yes.bind (g.two ht hu (by omega)) fun l2 g2=>(J0 l2 _ g2 (by omega)).mono fun _ g=>g.le (by omega)
def FQk (B:Nat) (q:aX):Prop:=q.items.length≤2∧(∀ i ∈ q.items,IPk B i)∧q.from_.length≤2∧(∀ s ∈ q.from_,SPk B s)∧(∀ y ∈ q.where_,PE B y)∧q.order.length≤1∧(∀ s ∈ q.order,PE B s.expr)∧okI q.limit
theorem bDu {q:aX} {B:Nat} (h:FQk B q):PQ (6 * B+30) q:=by
  obtain ⟨i1,i2,f1,f2,w1,o1,o2,lm⟩:=h
  intro b l k g hk
  have fin:∀ (i:Nat) (l:List aJ) (k:Nat),¬ i<q.items.length→GT k l→k+(4 * B+20)≤1000000000→Yes (yG b q l (i:Int)) (GT (k+(4 * B+20))):=by
    intro i l k hi g hk
    rw [yG,jP]
    refine Yes.ite (fun h2=>absurd (of_decide_eq_true h2) hi) fun _=>?_
    refine Yes.bind (Q:=STk) ⟨_,rfl,by decide⟩ fun t ht=>Yes.bind (g.one ht (by omega)) fun l2 g2=>Yes.bind (Q:=GT (k+1+2 * (B+6))) ?_ fun l3 g3=>Yes.bind (bSt w1 b g3 (by omega)) fun l4 g4=>(bMw (by omega) o2 lm b 1 0 l4 _ (by omega) g4 (by omega)).mono fun _ g=>g.le (by omega)
    rw [aD4]
    exact bSk (by omega) f2 b 2 0 l2 _ (by omega) g2 (by omega)
  have loop:∀ (n i:Nat) (l:List aJ) (k:Nat),q.items.length≤n+i→GT k l→k+(n * (B+4)+(4 * B+20))≤1000000000→Yes (yG b q l (i:Int)) (GT (k+(n * (B+4)+(4 * B+20)))):=by
    intro n
    induction n with
    | zero=>intro i l k hi g hk; exact (fin i l k (by omega) g (by omega)).mono fun _ g=>g.le (by omega)
    | succ n ih =>
      intro i l k hi g hk
      have e:(n+1) * (B+4)=n * (B+4)+(B+4):=Nat.succ_mul n (B+4)
      by_cases h0:i<q.items.length
      · have J2 : ∀ l k, GT k l → k + (n * (B + 4) + (4 * B + 20) + (B + 3)) ≤ 1000000000 → Yes (O5 b (i : Int) q l) (GT (k + (n * (B + 4) + (4 * B + 20) + (B + 3)))) := fun l k g hk => by
          rw [O5,oV h0 (by omega)]
          exact Yes.bind (Q:=IPk B) ⟨_,jB h0,i2 _ (List.getElem_mem h0)⟩ fun y hy=>Yes.bind (bM6 hy b g (by omega)) fun l2 g2=>(ih (i+1) l2 _ (by omega) g2 (by omega)).mono fun _ g=>g.le (by omega)
        rw [yG,jP]
        refine Yes.ite (fun _=>?_) fun h2=>absurd (decide_eq_true h0) h2
        refine Yes.ite (fun _=>?_) fun _=>(J2 l k g (by omega)).mono fun _ g=>g.le (by omega)
        exact Yes.bind (Q:=STk) ⟨_,rfl,by decide⟩ fun t ht=>Yes.bind (g.one ht (by omega)) fun l2 g2=>(J2 l2 _ g2 (by omega)).mono fun _ g=>g.le (by omega)
      · exact (fin i l k h0 g (by omega)).mono fun _ g=>g.le (by omega)
  have J0:∀ l k,GT k l→k+(2 * (B+4)+(4 * B+20))≤1000000000→Yes (X7 b q l) (GT (k+(2 * (B+4)+(4 * B+20)))):=fun l k g hk=>by
    rw [X7]
    exact loop 2 0 l k (by omega) g hk
  rw [F7]
  refine Yes.bind (Q:=STk) ⟨_,rfl,by decide⟩ fun t ht=>Yes.bind (g.one ht (by omega)) fun l2 g2=>Yes.ite (fun _=>?_) fun _=>(J0 l2 _ g2 (by omega)).mono fun _ g=>g.le (by omega)
  exact Yes.bind (Q:=STk) ⟨_,rfl,by decide⟩ fun t ht=>Yes.bind (g2.one ht (by omega)) fun l3 g3=>(J0 l3 _ g3 (by omega)).mono fun _ g=>g.le (by omega)
theorem bI3 (c:aQ) (l:List Int) (hl:0<l.length) (h:okCur c):Yes (A9 c l) fun r=>r.1 ∈ l∧okCur r.2:=by
  obtain ⟨x,c',e,h0,h1⟩:=aXq c l hl h; exact ⟨_,e,h0,h1⟩
theorem okI_small {n:Int} (h1 : -1000≤n) (h2:n≤1000):okI n:=⟨by omega,by omega⟩
theorem okI0:okI 0:=okI_small (by decide) (by decide)
theorem okI1:okI 1:=okI_small (by decide) (by decide)
theorem okIm:okI 9223372036854775807:=⟨by decide,by decide⟩
theorem bSc (c:aQ) (h:okCur c):Yes (aBx c) fun r=>okI r.1.num∧r.1.text.length≤50∧okCur r.2:=by
  unfold aBx
  refine Yes.bind (mH _ _ h) fun r ⟨_,_,k⟩=>Yes.ite (fun _=>Yes.some ⟨okI0,Nat.zero_le 50,k⟩) fun _=>Yes.ite (fun _=>?_) fun _=>Yes.ite (fun _=>?_) fun _=>Yes.ite (fun _=>?_) fun _=>?_
  · refine Yes.bind (sG _ _ (by decide) k) fun r ⟨hm,k⟩=>Yes.bind (Q:=fun v:bJ=>okI v.num∧v.text.length≤50) ⟨_,rfl,okI0,?_⟩ fun v hv=>Yes.some ⟨hv.1,hv.2,k⟩
    have:∀ v ∈ ([[],[97],[98],[105,116,39,115],[97,98],[255]]:List (List UInt8)),v.length≤50:=by decide
    exact this _ hm
  · refine Yes.bind (kV _ _ k) fun r k=>Yes.bind (Q:=fun v:bJ=>okI v.num∧v.text.length≤50) ?_ fun v hv=>Yes.some ⟨hv.1,hv.2,k⟩
    unfold yE
    exact Yes.ite (fun _=>Yes.some ⟨okI1,Nat.zero_le 50⟩) fun _=>Yes.some ⟨okI0,Nat.zero_le 50⟩
  · exact Yes.bind (aLq _ k) fun r ⟨hi,k⟩=>Yes.bind (Q:=fun v:bJ=>okI v.num∧v.text.length≤50) ⟨_,rfl,hi,by simp⟩ fun v hv=>Yes.some ⟨hv.1,hv.2,k⟩
  · refine Yes.bind (mH _ _ k) fun r ⟨b0,b1,k⟩=>Yes.bind (Q:=fun v:bJ=>okI v.num∧v.text.length≤50) ⟨_,rfl,?_,by simp⟩ fun v hv=>Yes.some ⟨hv.1,hv.2,k⟩
    have:=b1 (by decide)
    show okI (IntKind.wrap .i64 (r.1 - 2))
    rw [fP (by omega) (by omega)]
    exact okI_small (by omega) (by omega)
theorem bG4 (c:aQ) (h:okCur c):Yes (Q8 c) fun r=>okI r.1.num∧r.1.text.length≤50∧okCur r.2:=by
  unfold Q8 aAs
  exact Yes.bind (bSc _ h) fun r ⟨h1,h2,k⟩=>Yes.bind (Q:=fun _=>True) ⟨_,rfl,trivial⟩ fun b _=>Yes.ite (fun _=>Yes.some ⟨okIm,h2,k⟩) fun _=>Yes.some ⟨h1,h2,k⟩
def dE (B:Nat) (r:aA×aQ):Prop:=PE B r.1∧okCur r.2
theorem bGk (c:aQ) (h:okCur c):Yes (U3 c) (dE 3):=by
  have m1:∀ v ∈ ([[97],[98],[99],[105,100],[110,97,109,101]]:List (List UInt8)),v.length≤50:=by decide
  have m2:∀ v ∈ ([[116],[117],[118]]:List (List UInt8)),v.length≤50:=by decide
  have J1:∀ (a b:List UInt8) c i j,a.length≤50→b.length≤50→okCur ⟨c,i,j⟩→Yes (aC9 a b c i j) (dE 3):=fun a b c i j h1 h2 k=>Yes.some ⟨pe2 rfl h1 h2,k⟩
  have J0:∀ (y:List UInt8×aQ) (a:List UInt8) c i j,y.1.length≤50→a.length≤50→okCur ⟨c,i,j⟩→Yes (R5 y a c i j) (dE 3):=fun y a c i j h1 h2 k=>by
    unfold R5
    exact Yes.bind (kV _ _ k) fun r k=>Yes.ite (fun _=>Yes.bind (aGq _ k) fun r ⟨h3,k⟩=>J1 _ _ _ _ _ h2 (by omega) k) fun _=>J1 _ _ _ _ _ h2 h1 k
  unfold U3
  exact Yes.bind (sG _ _ (by decide) h) fun r ⟨h1,k⟩=>Yes.bind (kV _ _ k) fun r2 k=>Yes.ite (fun _=>Yes.bind (sG _ _ (by decide) k) fun r3 ⟨h3,k⟩=>J0 _ _ _ _ _ (m1 _ h1) (m2 _ h3) k) fun _=>J0 _ _ _ _ _ (m1 _ h1) (by decide) k
theorem bKh (B:Nat) (d:Int) (m:Int) (hm0:0≤m) (hm:m≤3) (H:∀ c,okCur c→Yes (oI c (IntKind.wrap .i64 (d - 1))) (dE B)) (c:aQ) (h:okCur c):Yes (qB c d m) fun r=>(r.1.length:Int)=m∧(∀ y ∈ r.1,PE B y)∧okCur r.2:=by
  have key:∀ (k:Nat) (i:Int) b j h (l:List aA),m≤k+i→0≤i→i≤m→(l.length:Int)=i→(∀ y ∈ l,PE B y)→okCur ⟨b,j,h⟩→Yes (F6 d m l i b j h) fun r=>(r.1.length:Int)=m∧(∀ y ∈ r.1,PE B y)∧okCur r.2:=by
    intro k
    induction k with
    | zero =>
      intro i b j h l h1 h2 h3 h4 h5 h6
      rw [F6,if_neg (by simp; omega)]
      exact Yes.some ⟨by dsimp only; omega,h5,h6⟩
    | succ k ih =>
      intro i b j h l h1 h2 h3 h4 h5 h6
      rw [F6]
      refine Yes.ite (fun hi=>?_) fun hi=>Yes.some ⟨?_,h5,h6⟩
      · have hi':i<m:=of_decide_eq_true hi
        refine Yes.bind (H _ h6) fun r ⟨hz,hr⟩=>Yes.bind (O3 (by simp; omega)) fun y hy=>?_
        subst hy
        rw [fP (by omega) (by omega)]
        refine ih _ _ _ _ _ (by omega) (by omega) (by omega) (by simp; omega) ?_ hr
        intro y hy
        rcases List.mem_append.1 hy with h7 | h7
        · exact h5 y h7
        · rw [List.mem_singleton] at h7; rw [h7]; exact hz
      · have:¬ i<m:=fun h=>hi (decide_eq_true h)
        dsimp only; omega
  rw [qB]
  exact key m.toNat 0 c.b c.i c.h [] (by omega) (by omega) hm0 rfl (by simp) h
theorem aF6 {l:List aA} (h:(l.length:Int)=1):∃ a,l=[a]:=List.length_eq_one_iff.1 (by omega)
theorem bN8 {l:List aA} (h:(l.length:Int)=2):∃ a b,l=[a,b]:=by
  match l,h with
  | [a,b],_=>exact ⟨a,b,rfl⟩
  | [],h=>simp at h
  | [_],h=>simp at h
  | _::_::_::_,h=>simp at h; omega
theorem bGt {l:List aA} (h:(l.length:Int)=3):∃ a b c,l=[a,b,c]:=by
  match l,h with
  | [a,b,c],_=>exact ⟨a,b,c,rfl⟩
  | [],h=>simp at h
  | [_],h=>simp at h
  | [_,_],h=>simp at h
  | _::_::_::_::_,h=>simp at h; omega
def qD (B:Nat) (r:aX×aQ):Prop:=FQk B r.1∧okCur r.2
section
variable {B:Nat} {d:Int} (H:∀ c,okCur c→Yes (oI c d) (dE B))
theorem aQ7 {y1 : Bool × aQ} {o : List dY} {w : List aA} {f : List bR} {it : List bU} {b : List Int} {i j : Int} (h1 : it.length ≤ 2 ∧ ∀ x ∈ it, IPk B x) (h2 : f.length ≤ 2 ∧ ∀ s ∈ f, SPk B s) (h3 : ∀ y ∈ w, PE B y) (h4 : o.length ≤ 1 ∧ ∀ s ∈ o, PE B s.expr)
    (k:okCur ⟨b,i,j⟩):Yes (V3 y1 it f w o b i j) (qD B):=by
  have J8:∀ lim b i j,okI lim→okCur ⟨b,i,j⟩→Yes (aA8 y1 it f w o lim b i j) (qD B):=fun lim b i j hl k=>Yes.some ⟨⟨h1.1,h1.2,h2.1,h2.2,h3,h4.1,h4.2,hl⟩,k⟩
  unfold V3
  refine Yes.bind (kV _ _ k) fun r k=>Yes.ite (fun _=>Yes.bind (bI3 _ _ (by decide) k) fun r ⟨hm,k⟩=>J8 _ _ _ _ ?_ k) fun _=>J8 _ _ _ _ (okI_small (by decide) (by decide)) k
  have:∀ v ∈ ([0,1,2,9223372036854775807]:List Int),okI v:=by
    intro v hv
    simp only [List.mem_cons,List.not_mem_nil,or_false] at hv
    rcases hv with rfl | rfl | rfl | rfl <;> exact ⟨by decide,by decide⟩
  exact this _ hm
include H
theorem aWr {y1 : Bool × aQ} {w : List aA} {f : List bR} {it : List bU} {b : List Int} {i j : Int} (h1 : it.length ≤ 2 ∧ ∀ x ∈ it, IPk B x) (h2 : f.length ≤ 2 ∧ ∀ s ∈ f, SPk B s) (h3 : ∀ y ∈ w, PE B y)
    (k:okCur ⟨b,i,j⟩):Yes (zQ d y1 it f w b (i,j)) (qD B):=by
  rw [zQ]
  refine Yes.bind (kV _ _ k) fun r k=>Yes.ite (fun _=>?_) fun _=>aQ7 h1 h2 h3 ⟨by simp,by simp⟩ k
  refine Yes.bind (H _ k) fun r ⟨hz,k⟩=>Yes.bind (kV _ _ k) fun r2 k=>Yes.bind (O3 (by simp)) fun y hy=>?_
  subst hy
  exact aQ7 h1 h2 h3 ⟨by simp,fun s hs=>by simp at hs; rw [hs]; exact hz⟩ k
theorem bCj {y1 : Bool × aQ} {y : Int × aQ} (hy : y.1 < 2) (hy0 : 0 ≤ y.1) {it : List bU} (h1 : it.length ≤ 2 ∧ ∀ x ∈ it, IPk B x) : ∀ (n : Nat) (x : Int) (b : List Int) (i j : Int) (f : List bR), 1 + y.1 ≤ n + x → 0 ≤ x → (f.length : Int) ≤ x → x ≤ 2 → (∀ s ∈ f, SPk B s) → okCur ⟨b, i, j⟩ →
    Yes (xD d y y1 it x f (b,i,j)) (qD B):=by
  have m2:∀ v ∈ ([[116],[117],[118]]:List (List UInt8)),v.length≤50:=by decide
  have e0:IntKind.wrap .i64 (1+y.1)=1+y.1:=fP (by omega) (by omega)
  have fin:∀ (x:Int) (b:List Int) (i j:Int) (f:List bR),¬ x<1+y.1→(f.length:Int)≤x→x≤2→(∀ s ∈ f,SPk B s)→okCur ⟨b,i,j⟩→Yes (xD d y y1 it x f (b,i,j)) (qD B):=by
    intro x b i j f hx hl h2 hf k
    have hF:f.length≤2∧∀ s ∈ f,SPk B s:=⟨by omega,hf⟩
    rw [xD,e0,if_neg (by simpa using hx)]
    refine Yes.bind (kV _ _ k) fun r k=>Yes.ite (fun _=>?_) fun _=>aWr H h1 hF (by simp) k
    exact Yes.bind (H _ k) fun r ⟨hz,k⟩=>aWr H h1 hF (fun y hy=>by simp at hy; rw [hy]; exact hz) k
  intro n
  induction n with
  | zero=>intro x b i j f hn h0 hl h2 hf k; exact fin x b i j f (by omega) hl h2 hf k
  | succ n ih =>
    intro x b i j f hn h0 hl h2 hf k
    by_cases hx:x<1+y.1
    · have J6 : ∀ (t : List UInt8 × aQ) (s : List UInt8) (b : List Int) (i j : Int) (on : List aA), t.1.length ≤ 50 → s.length ≤ 50 → (∀ y ∈ on, PE B y) → okCur ⟨b, i, j⟩ → Yes (U5 d y x y1 it f (t, (s, (on, (b, (i, j)))))) (qD B) := by
        intro t s b i j on ht hs ho k
        rw [U5]
        refine Yes.bind (O3 (by simp; omega)) fun z hz=>?_
        subst hz
        rw [fP (by omega) (by omega)]
        refine ih _ _ _ _ _ (by omega) (by omega) (by simp; omega) (by omega) ?_ k
        intro s2 h3
        rcases List.mem_append.1 h3 with h4 | h4
        · exact hf s2 h4
        · rw [List.mem_singleton] at h4; rw [h4]; exact ⟨ht,hs,ho⟩
      have J4:∀ (t:List UInt8×aQ) (s:List UInt8) (b:List Int) (i j:Int),t.1.length≤50→s.length≤50→okCur ⟨b,i,j⟩→Yes (Z9 d y x y1 it f (t,s,b,i,j)) (qD B):=by
        intro t s b i j ht hs k
        rw [Z9]
        refine Yes.bind (aMs _ _ _ _ k) fun r k=>Yes.bind (Q:=fun _=>True) ⟨_,rfl,trivial⟩ fun q _=>Yes.ite (fun _=>?_) fun _=>J6 _ _ _ _ _ _ ht hs (by simp) k
        exact Yes.bind (H _ k) fun r ⟨hz,k⟩=>J6 _ _ _ _ _ _ ht hs (fun y hy=>by simp at hy; rw [hy]; exact hz) k
      rw [xD,e0,if_pos (by simpa using hx)]
      exact Yes.bind (sG _ _ (by decide) k) fun r ⟨hm,k⟩=>Yes.bind (kV _ _ k) fun r2 k=>Yes.ite (fun _=>Yes.bind (aGq _ k) fun r3 ⟨h3,k⟩=>J4 _ _ _ _ _ (m2 _ hm) (by omega) k) fun _=>J4 _ _ _ _ _ (m2 _ hm) (by decide) k
    · exact fin x b i j f hx hl h2 hf k
theorem bP5 {y1 : Bool × aQ} {y : Int × aQ} (hy : y.1 < 2) (hy0 : 0 ≤ y.1) : ∀ (n : Nat) (x : Int) (b : List Int) (i j : Int) (f : List bU), 1 + y.1 ≤ n + x → 0 ≤ x → (f.length : Int) ≤ x → x ≤ 2 → (∀ s ∈ f, IPk B s) → okCur ⟨b, i, j⟩ →
    Yes (xQ d y y1 x f b (i,j)) (qD B):=by
  have m2:∀ v ∈ ([[116],[117]]:List (List UInt8)),v.length≤50:=by decide
  have e0:IntKind.wrap .i64 (1+y.1)=1+y.1:=fP (by omega) (by omega)
  have fin:∀ (x:Int) (b:List Int) (i j:Int) (f:List bU),¬ x<1+y.1→(f.length:Int)≤x→x≤2→(∀ s ∈ f,IPk B s)→okCur ⟨b,i,j⟩→Yes (xQ d y y1 x f b (i,j)) (qD B):=by
    intro x b i j f hx hl h2 hf k
    rw [xQ,e0,if_neg (by simpa using hx)]
    refine Yes.bind (mH _ _ k) fun r ⟨r0,r1,k⟩=>?_
    exact bCj H (r1 (by decide)) r0 ⟨by omega,hf⟩ 2 0 _ _ _ _ (by have:=r1 (by decide); omega) (by omega) (by simp) (by omega) (by simp) k
  intro n
  induction n with
  | zero=>intro x b i j f hn h0 hl h2 hf k; exact fin x b i j f (by omega) hl h2 hf k
  | succ n ih =>
    intro x b i j f hn h0 hl h2 hf k
    by_cases hx:x<1+y.1
    · have J1 : ∀ (b : List Int) (i j : Int) (it : bU), IPk B it → okCur ⟨b, i, j⟩ → Yes (F8 d y x y1 (f ++ [it]) b (i, j)) (qD B) := by
        intro b i j it ho k
        rw [F8,fP (by omega) (by omega)]
        refine ih _ _ _ _ _ (by omega) (by omega) (by simp; omega) (by omega) ?_ k
        intro s2 h3
        rcases List.mem_append.1 h3 with h4 | h4
        · exact hf s2 h4
        · rw [List.mem_singleton] at h4; rw [h4]; exact ho
      have J2:∀ (t:aA×aQ) (s:List UInt8) (b:List Int) (i j:Int),PE B t.1→s.length≤50→okCur ⟨b,i,j⟩→Yes (Y5 d y x y1 f t (s,b,i,j)) (qD B):=by
        intro t s b i j hz hs k
        rw [Y5]
        refine Yes.bind (O3 (by simp; omega)) fun z hz2=>?_
        subst hz2
        exact J1 _ _ _ _ ⟨fun _=>hz,by simp,hs⟩ k
      rw [xQ,e0,if_pos (by simpa using hx)]
      refine Yes.bind (mH _ _ k) fun r ⟨_,_,k⟩=>Yes.ite (fun _=>?_) fun _=>Yes.ite (fun _=>?_) fun _=>?_
      · refine Yes.bind (O3 (by simp; omega)) fun z hz=>?_
        subst hz
        exact J1 _ _ _ _ ⟨by simp,by simp,by simp⟩ k
      · refine Yes.bind (sG _ _ (by decide) k) fun r ⟨hm,k⟩=>Yes.bind (O3 (by simp; omega)) fun z hz=>?_
        subst hz
        exact J1 _ _ _ _ ⟨by simp,m2 _ hm,by simp⟩ k
      · exact Yes.bind (H _ k) fun r ⟨hz,k⟩=>Yes.bind (kV _ _ k) fun r2 k=>Yes.ite (fun _=>Yes.bind (aGq _ k) fun r3 ⟨h3,k⟩=>J2 _ _ _ _ _ hz (by omega) k) fun _=>J2 _ _ _ _ _ hz (by decide) k
    · exact fin x b i j f hx hl h2 hf k
theorem aVl (c:aQ) (k:okCur c):Yes (xC c d) fun r=>PQ (6 * B+30) r.1∧okCur r.2:=by
  rw [xC]
  refine (Yes.bind (kV _ _ k) fun r k=>Yes.bind (mH _ _ k) fun r2 ⟨r0,r1,k⟩=>bP5 H (r1 (by decide)) r0 2 0 _ _ _ _ (by have:=r1 (by decide); omega) (by omega) (by simp) (by omega) (by simp) k).mono ?_
  exact fun r h=>⟨bDu h.1,h.2⟩
end
def Zk:Nat→Nat
  | 0=>3
  | n+1=>60+9 * Zk n
theorem aPq:∀ (n:Nat) (d:Int) (c:aQ),d≤n→n≤100→okCur c→Yes (oI c d) (dE (Zk n)):=by
  have base:∀ (B:Nat) (y:Bool×aQ),3≤B→okCur y.2→Yes ((iI y.2 2)>>=fun (y3:Bool×aQ)=>if y3.1=true then ((U3 y3.2)>>=fun (y4:aA×aQ)=>some (y4.1,y4.2)) else ((Q8 y3.2)>>=fun (y5:bJ×aQ)=>some ((aA.mk 1 0 false y5.1 [] [] ([]:List aA) ([]:List aX)),y5.2))) (dE B):=fun B y hB k =>
    Yes.bind (kV _ _ k) fun r k=>Yes.ite (fun _=>Yes.bind (bGk _ k) fun r ⟨h1,k⟩=>Yes.some ⟨h1.le hB,k⟩) fun _=>Yes.bind (bG4 _ k) fun r ⟨h1,h2,k⟩=>Yes.some ⟨(pe1 rfl h1 h2).le (by omega),k⟩
  intro n
  induction n with
  | zero =>
    intro d c hd _ h
    rw [oI]
    refine Yes.bind (aMs _ _ _ _ h) fun r k=>Yes.bind (Q:=fun q=>q=true) ⟨_,rfl,by rw [if_pos (by simpa using hd)]⟩ fun q hq=>?_
    rw [if_pos hq]
    exact base 3 r (Nat.le_refl _) k
  | succ n ih =>
    intro d c hd hn h
    have hB:Zk (n+1)=60+9 * Zk n:=rfl
    rw [oI]
    refine Yes.bind (aMs _ _ _ _ h) fun r k=>Yes.bind (Q:=fun q=>q=true∨0<d) ⟨_,rfl,?_⟩ fun q hq=>Yes.ite (fun _=>base _ r (by omega) k) fun hq2=>?_
    · by_cases h0:d≤0
      · exact .inl (by rw [if_pos (by simpa using h0)])
      · exact .inr (by omega)
    · have h0:0<d:=hq.resolve_left hq2
      have e1:IntKind.wrap .i64 (d - 1)=d - 1:=fP (by omega) (by omega)
      have H1:∀ c,okCur c→Yes (oI c (IntKind.wrap .i64 (d - 1))) (dE (Zk n)):=fun c k=>ih _ c (by omega) (by omega) k
      have K:∀ m c,0≤m→m≤3→okCur c→Yes (qB c d m) fun r=>(r.1.length:Int)=m∧(∀ y ∈ r.1,PE (Zk n) y)∧okCur r.2:=fun m c h0 hm k=>bKh (Zk n) d m h0 hm H1 c k
      have Q2:∀ c,1<d→okCur c→Yes (xC c (IntKind.wrap .i64 (d - 2))) fun r=>PQ (6 * Zk n+30) r.1∧okCur r.2:=fun c h2 k=>aVl (fun c k=>ih _ c (by rw [fP (by omega) (by omega)]; omega) (by omega) k) c k
      have J0:∀ y:Int×aQ,okCur y.2→Yes (I7 d y) (dE (Zk (n+1))):=fun y k=>by
        rw [I7]
        refine Yes.bind (mH _ _ k) fun r ⟨b0,b1,k⟩=>Yes.bind (K 2 _ (by omega) (by omega) k) fun r2 ⟨h1,h2,k⟩=>?_
        obtain ⟨a,b,hab⟩:=bN8 h1
        have b1:=b1 (by decide)
        rw [fP (by omega) (by omega)]
        exact Yes.some ⟨(pe4 rfl ⟨by dsimp only; omega,by dsimp only; omega⟩ hab (h2 a (by rw [hab]; simp)) (h2 b (by rw [hab]; simp))).le (by omega),k⟩
      refine Yes.bind (mH _ _ k) fun r ⟨_,_,k⟩=>Yes.ite (fun _=>?_) fun _=>Yes.ite (fun _=>?_) fun _=>Yes.ite (fun _=>?_) fun _=>Yes.ite (fun _=>?_) fun _=>Yes.ite (fun _=>?_) fun _=>Yes.ite (fun _=>?_) fun _=>Yes.ite (fun _=>?_) fun _=>J0 _ k
      · refine Yes.bind (K 1 _ (by omega) (by omega) k) fun r ⟨h1,h2,k⟩=>?_
        obtain ⟨a,ha⟩:=aF6 h1
        exact Yes.some ⟨(pe3 rfl ⟨by dsimp only; omega,by dsimp only; omega⟩ ha (h2 a (by rw [ha]; simp))).le (by omega),k⟩
      · refine Yes.bind (K 1 _ (by omega) (by omega) k) fun r ⟨h1,h2,k⟩=>?_
        obtain ⟨a,ha⟩:=aF6 h1
        exact Yes.some ⟨(pe3 rfl ⟨by dsimp only; omega,by dsimp only; omega⟩ ha (h2 a (by rw [ha]; simp))).le (by omega),k⟩
      · refine Yes.bind (kV _ _ k) fun r k=>Yes.bind (K 1 _ (by omega) (by omega) k) fun r ⟨h1,h2,k⟩=>?_
        obtain ⟨a,ha⟩:=aF6 h1
        exact Yes.some ⟨(pe5 rfl ha (h2 a (by rw [ha]; simp))).le (by omega),k⟩
      · refine Yes.bind (kV _ _ k) fun r k=>Yes.bind (K 3 _ (by omega) (by omega) k) fun r ⟨h1,h2,k⟩=>?_
        obtain ⟨a,b,c,ha⟩:=bGt h1
        exact Yes.some ⟨(pe6 rfl ha (h2 a (by rw [ha]; simp)) (h2 b (by rw [ha]; simp)) (h2 c (by rw [ha]; simp))).le (by omega),k⟩
      · refine Yes.bind (kV _ _ k) fun r k=>Yes.bind (mH _ _ k) fun r ⟨b0,b1,k⟩=>?_
        have b1:=b1 (by decide)
        rw [fP (by omega) (by omega)]
        refine Yes.bind (K _ _ (by omega) (by omega) k) fun r2 ⟨h1,h2,k⟩=>?_
        have hl:0<r2.1.length:=by omega
        exact Yes.some ⟨(pe7 rfl (List.getElem?_eq_getElem hl) (by dsimp only; omega) h2).le (by omega),k⟩
      · refine Yes.ite (fun h2=>?_) fun _=>J0 _ k
        refine Yes.bind (kV _ _ k) fun r k=>Yes.bind (K 1 _ (by omega) (by omega) k) fun r ⟨h1,h3,k⟩=>Yes.bind (Q2 _ (by simpa using h2) k) fun r2 ⟨h4,k⟩=>?_
        obtain ⟨a,ha⟩:=aF6 h1
        exact Yes.some ⟨(pe8 rfl ha rfl (h3 a (by rw [ha]; simp)) h4).le (by omega),k⟩
      · refine Yes.ite (fun h2=>?_) fun _=>J0 _ k
        exact Yes.bind (Q2 _ (by simpa using h2) k) fun r2 ⟨h4,k⟩=>Yes.some ⟨(pe9 rfl rfl h4).le (by omega),k⟩
theorem aWg (p:List Int) (hp:p.length≤1048576):Yes (V9 p 4) fun r=>0<r∧r≤4:=by
  unfold V9
  have e:Int.tdiv (p.length:Int) 20=(p.length:Int) / 20:=Int.tdiv_eq_ediv_of_nonneg (by omega)
  rw [e,fP (n:=(p.length:Int) / 20) (by omega) (by omega),fP (by omega) (by omega)]
  exact Yes.ite (fun _=>Yes.some (by omega)) fun h=>Yes.some (by simp at h; omega)
theorem bNx (p:List Int) (hp:p.length≤1048576):Yes (aCu p) fun r=>PE 68883 r.2∧okCur r.1:=by
  obtain ⟨c,hc,k⟩:=aQa p hp
  unfold aCu
  exact Yes.bind (Q:=okCur) ⟨c,hc,k⟩ fun c k=>Yes.bind (aWg p hp) fun s ⟨s0,s1⟩=>Yes.bind (mH _ _ k) fun r ⟨b0,b1,k⟩=>Yes.bind (aPq 4 _ _ (by have:=b1 s0; omega) (by omega) k) fun r ⟨h,k⟩=>Yes.some ⟨h,k⟩
theorem Y6 {α:Type} {l:List α} {a b:Int} (h0:0≤a) (h1:a≤b) (h2:b≤l.length):Yes (oH l a b) fun r=>(r.length:Int)=b - a∧∀ x ∈ r,x ∈ l:=by
  unfold oH
  rw [if_pos ⟨h0,h1,h2⟩]
  exact Yes.some ⟨by rw [List.length_drop,List.length_take]; omega,fun x hx=>List.mem_of_mem_take (List.mem_of_mem_drop hx)⟩
theorem aVm (c:aQ) (l:List aJ) (n:Nat) (g:GT n l) (hn:n≤1000000) (h:okCur c):Yes (U6 c l) fun r=>GT (n+1) r.1∧okCur r.2:=by
  have hl:=g.1
  have g0:GT 0 ([]:List aJ):=⟨by simp,by simp⟩
  unfold U6 vH
  refine Yes.bind (Q:=fun y=>y=l) ⟨l,by rw [rG (by simp; omega)]; rfl,rfl⟩ fun y hy=>?_
  subst hy
  rw [show IntKind.wrap .i64 ((y.length:Int)+1)=(y.length:Int)+1 from fP (by omega) (by omega)]
  refine Yes.bind (mH _ _ h) fun r ⟨r0,r1,k⟩=>?_
  have r1:=r1 (by omega)
  refine Yes.bind (mH _ _ k) fun r2 ⟨_,_,k⟩=>Yes.ite (fun _=>?_) fun _=>Yes.ite (fun _=>?_) fun _=>Yes.ite (fun _=>Yes.ite (fun hi=>?_) fun _=>Yes.some ⟨g.le (by omega),k⟩) fun _=>Yes.ite (fun _=>Yes.ite (fun hi=>?_) fun _=>Yes.some ⟨g.le (by omega),k⟩) fun _=>Yes.some ⟨g.le (by omega),k⟩
  · exact Yes.bind (Y6 (by omega) r0 (by omega)) fun z ⟨e,hm⟩=>Yes.some ⟨⟨by dsimp only; omega,fun t ht=>g.2 t (hm t ht)⟩,k⟩
  · refine Yes.bind (Y6 (by omega) r0 (by omega)) fun z ⟨e,hm⟩=>Yes.bind (g0.app (fun t ht=>g.2 t (hm t ht)) (by omega)) fun z2 g2=>Yes.bind (aQj _ k) fun r3 ⟨h3,k⟩=>Yes.bind (g2.one h3 (by omega)) fun z3 g3=>Yes.bind (Y6 r0 (by omega) (by omega)) fun z4 ⟨e4,hm4⟩=>Yes.bind (g3.app (fun t ht=>g.2 t (hm4 t ht)) (by omega)) fun z5 g5=>Yes.some ⟨g5.le (by omega),k⟩
  · have hi:r.1<(y.length:Int):=of_decide_eq_true hi
    rw [show IntKind.wrap .i64 (r.1+1)=r.1+1 from fP (by omega) (by omega)]
    refine Yes.bind (Y6 (by omega) r0 (by omega)) fun z ⟨e,hm⟩=>Yes.bind (g0.app (fun t ht=>g.2 t (hm t ht)) (by omega)) fun z2 g2=>Yes.bind (Y6 (by omega) (by omega) (by omega)) fun z4 ⟨e4,hm4⟩=>Yes.bind (g2.app (fun t ht=>g.2 t (hm4 t ht)) (by omega)) fun z5 g5=>Yes.some ⟨g5.le (by omega),k⟩
  · have hi:r.1<(y.length:Int):=of_decide_eq_true hi
    obtain ⟨j,hj⟩:∃ j:Nat,r.1=(j:Int):=⟨r.1.toNat,by omega⟩
    have hj2:j<y.length:=by omega
    refine Yes.bind (aQj _ k) fun r3 ⟨h3,k⟩=>Yes.bind (Q:=fun _=>True) ⟨y[j],by rw [hj,jB hj2],trivial⟩ fun _ _=>Yes.some ⟨⟨by rw [List.length_set]; omega,fun t ht=>?_⟩,k⟩
    rcases List.mem_or_eq_of_mem_set ht with h4 | h4
    · exact g.2 t h4
    · rw [h4]; exact h3
theorem GT.tok {n:Nat} {l:List aJ} (g:GT n l) (hn:n≤1048576):Tok l:=⟨Nat.le_trans g.1 hn,fun t ht=>by have:=g.2 t ht; omega⟩
theorem Tok.take {T:List aJ} (h:Tok T) (k:Nat):Tok (T.take k):=⟨by have:=h.1; rw [List.length_take]; omega,fun t ht=>h.2 t (List.mem_of_mem_take ht)⟩
def Wr (T:List aJ) (s:Ps):Int:=if s.f=false∧s.at_=T.length then -1 else (s.at_:Int)
theorem bMt {T:List aJ} {c:Nat} {s s':Ps} {k:Nat} (hk:k≤T.length) (v:Evp T (.call c) ⟨0,false⟩ s) (v':Evp (T.take k) (.call c) ⟨0,false⟩ s'):(k≤s.at_→s'.at_=k)∧(s.at_<k→s'=s):=by
  have hl:(T.take k).length=k:=by simp [hk]
  by_cases h0:0<k
  · rcases bQ8 hk v (Nat.zero_le _) s' v' h0 with ⟨h1,h2⟩ | ⟨h1,h2⟩
    · exact ⟨fun h=>by omega,fun _=>h1⟩
    · exact ⟨fun _=>h1,fun h=>by omega⟩
  · have i':=(v'.mono (show In (T.take k) ⟨0,false⟩ from Nat.zero_le _)).2.1
    unfold In at i'
    exact ⟨fun _=>by omega,fun h=>by omega⟩
theorem bPx (p:List Int) (hp:p.length≤1048576):Yes (aCp p) (GT 70000):=by
  unfold aCp
  have g0:GT 0 ([]:List aJ):=⟨by simp,by simp⟩
  exact Yes.bind (bNx p hp) fun r ⟨h,k⟩=>Yes.bind (kV _ _ k) fun r1 k=>Yes.bind (h r1.1 [] 0 g0 (by omega)) fun l g=>Yes.bind (aVm _ _ _ g (by omega) k) fun r2 ⟨g2,k⟩=>Yes.some (g2.le (by omega))
theorem aZb (p:List Int) (hp:p.length≤1048576):Yes (aD3 p) (GT 50000):=by
  obtain ⟨c,hc,k⟩:=aQa p hp
  have g0:GT 0 ([]:List aJ):=⟨by simp,by simp⟩
  unfold aD3
  refine Yes.bind (Q:=okCur) ⟨c,hc,k⟩ fun c k=>Yes.bind (aWg p hp) fun s ⟨s0,s1⟩=>Yes.bind (mH _ _ k) fun r ⟨b0,b1,k⟩=>Yes.bind (Q:=fun r:aX×aQ=>PQ 45912 r.1∧okCur r.2) (aVl (B:=7647) (fun c k=>aPq 3 _ c (by have:=b1 s0; omega) (by omega) k) _ k) fun r ⟨h,k⟩=>?_
  exact Yes.bind (kV _ _ k) fun r1 k=>Yes.bind (h r1.1 [] 0 g0 (by omega)) fun l g=>Yes.bind (aVm _ _ _ g (by omega) k) fun r2 ⟨g2,k⟩=>Yes.some (g2.le (by omega))
theorem aXv {T:List aJ} (hT:Tok T):∃ s,Evp T (.call 9) ⟨0,false⟩ s∧In T s∧(∃ a,O0 T=some (a,Wr T s))∧∃ b,aC3 T=some (b,Wr T s):=by
  have hi:In T ⟨0,false⟩:=Nat.zero_le _
  obtain ⟨_,⟨s,v,⟨x,p⟩,y,q⟩⟩:=aZo hT _ ⟨0,false⟩ hi (Nat.lt_succ_self _)
  obtain ⟨_,i1,_⟩:=v.rem_le hi
  obtain ⟨e1,e2⟩:=bBf hT s i1
  have p:qV (aL.mk T 0 false)=some (x,PI T s):=p
  have q:qP (aU.mk T 0 false)=some (y,PR T s):=q
  have hw:∀ {α:Type} (u w:α),∃ a,(if decide (0≤Wr T s)=true then some (u,Wr T s) else some (w,(-1:Int)))=some (a,Wr T s):=by
    intro α u w
    unfold Wr
    by_cases h:s.f=false∧s.at_=T.length
    · rw [if_pos h]; exact ⟨w,rfl⟩
    · rw [if_neg h,if_pos (decide_eq_true (by omega))]; exact ⟨u,rfl⟩
  refine ⟨s,v,i1,?_,?_⟩
  · unfold O0
    rw [p]
    simp only [Option.bind_eq_bind,Option.bind_some]
    rw [e1]
    simp only [Option.bind_some]
    exact hw _ _
  · unfold aC3
    rw [q]
    simp only [Option.bind_eq_bind,Option.bind_some]
    rw [e2]
    simp only [Option.bind_some]
    exact hw _ _
theorem bR7 (p:List Int) (hp:p.length≤1048576):Yes (aBt p) fun q=>q.length≤1048576:=by
  unfold aBt
  refine Yes.ite (fun _=>Yes.some hp) fun h=>?_
  have h0:¬ (p.length:Int)=0:=fun e=>h (decide_eq_true e)
  exact Yes.bind (Y6 (by omega) (by omega) (by omega)) fun z ⟨e,_⟩=>Yes.some (by omega)
theorem bJc (p:List Int) (_:okL okU8 p):aCj p=some true:=by
  unfold aCj aFr
  simp only [Option.bind_eq_bind,Option.bind_some]
  by_cases hb:(1048576:Int)<(p.length:Int)
  · rw [if_pos (by simpa using hb)]
  rw [if_neg (by simpa using hb)]
  have hp:p.length≤1048576:=by omega
  obtain ⟨T,e1,g⟩:=aZb p hp
  obtain ⟨p2,e4,hp2⟩:=bR7 p hp
  obtain ⟨U,e5,g2⟩:=bPx p2 hp2
  have hT:=g.tok (by omega)
  have l1:=g.1
  have l2:=g2.1
  have hM:Tok (T++U):=by
    refine ⟨by rw [List.length_append]; omega,fun t ht=>?_⟩
    rcases List.mem_append.1 ht with h | h
    · exact hT.2 t h
    · have:=g2.2 t h; omega
  have a1:appG 32 ([]:List aJ) T=some T:=rG (by simp; omega)
  have a2:appG 32 T U=some (T++U):=rG (by omega)
  obtain ⟨s,v,i,⟨a,f1⟩,b,f2⟩:=aXv hT
  obtain ⟨s2,v2,i2,⟨c,f3⟩,_⟩:=aXv hM
  simp only [e1,e4,e5,a1,a2,f1,f2,f3,Option.bind_some,decide_true,Bool.not_true,Bool.false_eq_true,if_false]
  have i:s.at_≤T.length:=i
  by_cases h:s.f=false∧s.at_=T.length
  · have hw:Wr T s = -1:=by unfold Wr; rw [if_pos h]
    rw [hw]; rfl
  · have hw:Wr T s=(s.at_:Int):=by unfold Wr; rw [if_neg h]
    by_cases h2:s.at_=T.length
    · rw [hw,h2]
      simp
    · have hk:T.length≤(T++U).length:=by rw [List.length_append]; omega
      have ht:(T++U).take T.length=T:=by simp
      obtain ⟨q1,q2⟩:=bMt hk v2 (s':=s) (by rw [ht]; exact v)
      have h3:s2.at_<T.length:=by
        by_cases h4:T.length≤s2.at_
        · exact absurd (q1 h4) h2
        · omega
      have h5:=q2 h3
      have hw2:Wr (T++U) s2=(s.at_:Int):=by
        unfold Wr
        rw [if_neg (by rw [List.length_append]; omega),h5]
      rw [hw,hw2]
      simp
end Go.Ab
