/- What the functions compute,in plain Lean. -/
import Derived.Test.YtphefknfgclofaaFCodeBack
namespace Go.Ab
open Go
theorem eY {n:Int} (h1 : -9223372036854775808≤n) (h2:n≤9223372036854775807):IntKind.wrap .i64 n=n:=by rw [IntKind.wrap_i64]; omega
theorem yH {i n:Nat} (h:i<n) (hn:n≤4611686018427387904):IntKind.wrap .i64 ((i:Int)+1)=((i+1:Nat):Int):=by rw [eY] <;> omega
theorem rP (i n:Nat):decide ((i:Int)<(n:Int))=decide (i<n):=by simp
theorem aPp {α:Type} (l:List α) (i:Nat):idx l (i:Int)=l[i]?:=by simp [idx]
theorem vE {α:Type} {l:List α} {i:Nat} (h:i<l.length):idx l (i:Int)=some l[i]:=by rw [aPp]; simp [h]
theorem xX {M:Nat→Prop} {n:Nat} (h0:M n) (h:∀ i,i<n→M (i+1)→M i):∀ i,i≤n→M i:=by
  have:∀ k i,i+k=n→M i:=by
    intro k
    induction k with
    | zero => intro i hi; have : i = n := by omega
              subst this; exact h0
    | succ k ih=>intro i hi; exact h i (by omega) (ih (i+1) (by omega))
  exact fun i hi=>this (n - i) i (by omega)
theorem aBd (a:Int):0≤IntKind.wrap .i64 ((BitVec.ofInt (IntKind.bits .i64) a &&& BitVec.ofInt (IntKind.bits .i64) 255).toNat:Int)∧IntKind.wrap .i64 ((BitVec.ofInt (IntKind.bits .i64) a &&& BitVec.ofInt (IntKind.bits .i64) 255).toNat:Int)≤255:=by
  have h:(BitVec.ofInt (IntKind.bits .i64) a &&& BitVec.ofInt (IntKind.bits .i64) 255).toNat≤255:=by
    rw [BitVec.toNat_and]
    exact Nat.le_trans Nat.and_le_right (by decide)
  rw [eY (by omega) (by omega)]
  omega
def okCur (c:aJ):Prop:=0≤c.i∧c.i≤(c.b.length:Int)∧c.b.length≤1048576
theorem yD (c:aJ) (h:okCur c):∃ x c',lJ c=some (x,c')∧0≤x∧x≤255∧okCur c':=by
  obtain ⟨h1,h2,h3⟩:=h
  unfold lJ aAs
  by_cases hi:c.i<(c.b.length:Int)
  · have e : ∃ v, idx c.b c.i = some v := by
      unfold idx
      rw [if_pos h1]
      exact ⟨_,List.getElem?_eq_getElem (by omega)⟩
    obtain ⟨v,hv⟩:=e
    rw [if_pos (by simpa using hi),hv]
    simp only [Option.bind_eq_bind,Option.bind_some]
    refine ⟨_,_,rfl,(aBd _).1,(aBd _).2,?_⟩
    refine ⟨?_,?_,h3⟩
    · show 0≤IntKind.wrap .i64 (c.i+1); rw [eY (by omega) (by omega)]; omega
    · show IntKind.wrap .i64 (c.i+1)≤(c.b.length:Int); rw [eY (by omega) (by omega)]; omega
  · rw [if_neg (by simpa using hi)]
    exact ⟨_,_,rfl,(aBd _).1,(aBd _).2,h1,h2,h3⟩
theorem aMw {a b:Int} (h0:0≤a) (hb:0<b):∃ r,L9 a b=some r∧0≤r∧r<b:=by
  unfold L9
  rw [if_neg (by omega)]
  exact ⟨_,rfl,Int.tmod_nonneg _ h0,Int.tmod_lt_of_pos _ hb⟩
theorem yX (c:aJ) (n:Int) (h:okCur c):∃ x c',dZ c n=some (x,c')∧0≤x∧(0<n→x<n)∧okCur c':=by
  unfold dZ
  by_cases h0:n≤0
  · rw [if_pos (by simpa using h0)]; exact ⟨0,c,rfl,by omega,by omega,h⟩
  rw [if_neg (by simpa using h0)]
  by_cases h1:n≤256
  · rw [if_pos (by simpa using h1)]
    obtain ⟨x,c1,e1,a1,b1,o1⟩:=yD c h
    obtain ⟨r,er,r0,r1⟩:=aMw a1 (b:=n) (by omega)
    simp only [e1,Option.bind_eq_bind,Option.bind_some,er]
    exact ⟨r,c1,rfl,r0,fun _=>r1,o1⟩
  · rw [if_neg (by simpa using h1)]
    obtain ⟨x1,c1,e1,a1,b1,o1⟩:=yD c h
    obtain ⟨x2,c2,e2,a2,b2,o2⟩:=yD c1 o1
    obtain ⟨x3,c3,e3,a3,b3,o3⟩:=yD c2 o2
    obtain ⟨x4,c4,e4,a4,b4,o4⟩:=yD c3 o3
    simp only [e1,e2,e3,e4,Option.bind_eq_bind,Option.bind_some]
    rw [eY (n:=x1 * 16777216) (by omega) (by omega),eY (n:=x2 * 65536) (by omega) (by omega),eY (n:=x3 * 256) (by omega) (by omega),eY (n:=x1 * 16777216+x2 * 65536) (by omega) (by omega),eY (n:=x1 * 16777216+x2 * 65536+x3 * 256) (by omega) (by omega),eY (n:=x1 * 16777216+x2 * 65536+x3 * 256+x4) (by omega) (by omega)]
    obtain ⟨r,er,r0,r1⟩:=aMw (a:=x1 * 16777216+x2 * 65536+x3 * 256+x4) (by omega) (b:=n) (by omega)
    rw [er]
    exact ⟨r,c4,rfl,r0,fun _=>r1,o4⟩
theorem bB9 (c:aJ) (n:Int) (h:okCur c):∃ x c',fM c n=some (x,c')∧okCur c':=by
  obtain ⟨x,c1,e1,_,_,o1⟩:=yX c n h
  unfold fM
  simp only [e1,Option.bind_eq_bind,Option.bind_some]
  exact ⟨_,_,rfl,o1⟩
theorem aCm {α:Type} {l:List α} {x:Int} (h0:0≤x) (h1:x<(l.length:Int)):∃ v,v ∈ l∧idx l x=some v:=by
  unfold idx
  rw [if_pos h0]
  exact ⟨_,List.getElem_mem (by omega),List.getElem?_eq_getElem (by omega)⟩
theorem aW8 (c:aJ) (l:List (List UInt8)) (hl:0<l.length) (h:okCur c):∃ x c',mO c l=some (x,c')∧x ∈ l∧okCur c':=by
  obtain ⟨x,c1,e1,h0,h1,o1⟩:=yX c l.length h
  obtain ⟨v,hv,ev⟩:=aCm h0 (h1 (by omega))
  unfold mO
  simp only [e1,ev,Option.bind_eq_bind,Option.bind_some]
  exact ⟨_,_,rfl,hv,o1⟩
theorem aTw (c:aJ) (l:List Int) (hl:0<l.length) (h:okCur c):∃ x c',G7 c l=some (x,c')∧x ∈ l∧okCur c':=by
  obtain ⟨x,c1,e1,h0,h1,o1⟩:=yX c l.length h
  obtain ⟨v,hv,ev⟩:=aCm h0 (h1 (by omega))
  unfold G7
  simp only [e1,ev,Option.bind_eq_bind,Option.bind_some]
  exact ⟨_,_,rfl,hv,o1⟩
theorem aPk (p:List Int) (hp:p.length≤1048576):∃ c,vL p=some c∧okCur c:=by
  unfold vL
  have key:∀ i,i≤p.length→∀ h,∃ c,vR p h (i:Nat)=some c∧okCur c:=by
    refine xX ?_ ?_
    · intro h
      rw [vR]
      refine ⟨⟨p,0,h⟩,by simp,?_⟩
      exact ⟨by show (0:Int)≤0; omega,by show (0:Int)≤(p.length:Int); omega,hp⟩
    · intro i hi ih h
      rw [vR]
      by_cases h4:(i:Int)<4000
      · simp only [rP,hi,h4,decide_true,if_true,vE hi,yH hi (by omega),Option.bind_eq_bind,Option.bind_some]
        exact ih _
      · simp only [rP,hi,h4,decide_true,decide_false,if_true,Bool.false_eq_true,if_false]
        exact ⟨⟨p,0,h⟩,rfl,by show (0:Int)≤0; omega,by show (0:Int)≤(p.length:Int); omega,hp⟩
  exact key 0 (by omega) _
theorem aQ9 {a b:List UInt8} (h:a.length+b.length≤1048576):mV a b=some (a++b):=by unfold mV; rw [if_pos (by simp only [maxLen]; omega)]
theorem oQ {α:Type} {b:Nat} {l m:List α} (h:(l.length+m.length) * b≤140737488355328):appG b l m=some (l++m):=by unfold appG; rw [if_pos h]
theorem gather {α β γ : Type} {p : List α} {f : α → List β} {G : α → List β → Option (List β)} {L : List β → Int → Option γ} {K : List β → Option γ} {c : Nat} (hp : p.length ≤ 4194304)
    (hG:∀ y ∈ p,∀ acc:List β,acc.length+(f y).length≤c→G y acc=some (acc++f y))
    (hL:∀ (i:Nat) acc,L acc (i:Int)=if (decide ((i:Int)<(p.length:Int)))=true then ((idx p (i:Int))>>=fun y=>(G y acc)>>=fun z=>L z (IntKind.wrap .i64 ((i:Int)+1))) else K acc) :
    ∀ acc:List β,acc.length+(p.flatMap f).length≤c→L acc 0=K (acc++p.flatMap f):=by
  have key:∀ i,i≤p.length→∀ acc:List β,acc.length+((p.drop i).flatMap f).length≤c→L acc (i:Nat)=K (acc++(p.drop i).flatMap f):=by
    refine xX ?_ ?_
    · intro acc _
      rw [hL]; simp
    · intro i hi ih acc ha
      rw [List.drop_eq_getElem_cons hi,List.flatMap_cons,List.length_append] at ha
      rw [hL,vE hi,yH hi (by omega)]
      simp only [rP,hi,decide_true,if_true,Option.bind_eq_bind,Option.bind_some,hG _ (List.getElem_mem hi) acc (by omega)]
      rw [ih _ (by rw [List.length_append]; omega),List.drop_eq_getElem_cons hi,List.flatMap_cons,List.append_assoc]
  intro acc ha
  simpa using key 0 (by omega) acc (by simpa using ha)
theorem aQh (p:Int) (hp:p≤1000):∀ (n:Nat) (x:List Int) (i:Int) (b:List Int) (j h:Int),p≤n+i→0≤i→x.length=i.toNat→i≤1000→(∀ v ∈ x,0≤v∧v<256)→okCur ⟨b,j,h⟩→∃ y c',pV p x i b j h=some (y,c')∧(∀ v ∈ y,0≤v∧v<256)∧okCur c':=by
  intro n
  induction n with
  | zero =>
    intro x i b j h h1 h2 h3 _ h5 h4
    rw [pV,if_neg (by simp; omega)]
    exact ⟨_,_,rfl,h5,h4⟩
  | succ n ih =>
    intro x i b j h h1 h2 h3 hi0 h5 h4
    rw [pV]
    by_cases hi:i<p
    · rw [if_pos (by simpa using hi)]
      obtain ⟨v,c',e1,_,_,e4⟩:=yD ⟨b,j,h⟩ h4
      simp only [e1,Option.bind_eq_bind,Option.bind_some]
      rw [oQ (by simp; omega),eY (by omega) (by omega)]
      simp only [Option.bind_some]
      refine ih (x++[IntKind.wrap .u8 v]) (i+1) c'.b c'.i c'.h (by omega) (by omega) (by simp [h3]; omega) (by omega) ?_ e4
      intro u hu
      rcases List.mem_append.1 hu with hu | hu
      · exact h5 u hu
      · have:u=IntKind.wrap .u8 v:=by simpa using hu
        rw [this]; simp [IntKind.wrap,IntKind.bits,IntKind.signed]; omega
    · rw [if_neg (by simpa using hi)]
      exact ⟨_,_,rfl,h5,h4⟩
def Yes {α:Type} (m:Option α) (Q:α→Prop):Prop:=∃ r,m=some r∧Q r
theorem Yes.bind {α β:Type} {m:Option α} {k:α→Option β} {Q:α→Prop} {R:β→Prop} (h:Yes m Q) (hk:∀ x,Q x→Yes (k x) R):Yes (m>>=k) R:=by
  obtain ⟨x,e,hx⟩:=h
  obtain ⟨r,e2,hr⟩:=hk x hx
  exact ⟨r,by rw [e]; exact e2,hr⟩
theorem Yes.some {α:Type} {x:α} {Q:α→Prop} (h:Q x):Yes (some x) Q:=⟨x,rfl,h⟩
theorem Yes.mono {α:Type} {m:Option α} {Q R:α→Prop} (h:Yes m Q) (hk:∀ x,Q x→R x):Yes m R:=by
  obtain ⟨x,e,hx⟩:=h; exact ⟨x,e,hk x hx⟩
theorem Yes.ite {α:Type} {c:Prop} [Decidable c] {m m':Option α} {Q:α→Prop} (h:c→Yes m Q) (h':¬ c→Yes m' Q):Yes (if c then m else m') Q:=by
  split
  · exact h (by assumption)
  · exact h' (by assumption)
theorem jV (c:aJ) (n:Int) (h:okCur c):Yes (dZ c n) fun r=>0≤r.1∧(0<n→r.1<n)∧okCur r.2:=by
  obtain ⟨x,c',e,h1,h2,h3⟩:=yX c n h; exact ⟨_,e,h1,h2,h3⟩
theorem lU (c:aJ) (n:Int) (h:okCur c):Yes (fM c n) fun r=>okCur r.2:=by
  obtain ⟨x,c',e,h1⟩:=bB9 c n h; exact ⟨_,e,h1⟩
theorem aBw (p:Bool) (b:Bool) (c:aJ) (n:Int) (h:okCur c):Yes (if (true&&(p==b))=true then fM c n else some ((default:Bool),c)) fun r=>okCur r.2:=Yes.ite (fun _=>lU c n h) fun _=>Yes.some h
theorem oO {α:Type} {b:Nat} {l m:List α} (h:(l.length+m.length) * b≤140737488355328):Yes (appG b l m) fun r=>r=l++m:=⟨_,oQ h,rfl⟩
def zL {α:Type} (z:α→Nat) (l:List α):Nat:=l.length+(l.map z).sum
def z0 {α:Type} (_:α):Nat:=0
theorem aAl {α:Type} (z:α→Nat) (x:α) (l:List α):((x::l).map z).sum=z x+(l.map z).sum:=by simp
theorem aKx {α : Type} {p : List α} {E : α → α → Option Bool} {L : Int → Option Bool} {S : List α → List α → Option Bool} (hp : p.length ≤ 1048576)
    (hS:S p p=if (!decide ((p.length:Int)=(p.length:Int)))=true then (some false) else L 0)
    (hL:∀ i:Nat,L (i:Int)=if (decide ((i:Int)<(p.length:Int)))=true then ((idx p (i:Int))>>=fun y1=>(idx p (i:Int))>>=fun y2=>(E y1 y2)>>=fun y3=>if (!y3)=true then (some false) else L (IntKind.wrap .i64 ((i:Int)+1))) else some true)
    (H:∀ y ∈ p,E y y=some true):S p p=some true:=by
  have key:∀ i,i≤p.length→L (i:Nat)=some true:=by
    refine xX ?_ ?_
    · rw [hL]; simp
    · intro i hi ih
      rw [hL]
      simp only [rP,vE hi,yH hi (by omega),H _ (List.getElem_mem hi),Option.bind_eq_bind,Option.bind_some,ih]
      simp
  rw [hS]
  have:=key 0 (by omega)
  simpa using this
theorem gX {α:Type} {z:α→Nat}:∀ {p:List α} {y:α},y ∈ p→z y≤(p.map z).sum
  | x::p,y,h=>by
    rw [aAl]
    rcases List.mem_cons.1 h with rfl | h
    · omega
    · have:=gX (z:=z) h; omega
def aK2:bL→Nat
  | ⟨a0,a1,a2⟩=>a2.length
mutual
def mM:bO→Nat
  | ⟨a0,a1⟩=>bM a0
def fI:aV→Nat
  | ⟨a0,a1,a2,a3,a4,a5,a6,a7⟩=>(zL z0) a0+(a1.length+zF a1)+(a2.length+uT a2)+(a3.length+M7 a3)+(a4.length+uT a4)+(zL List.length) a5
def bM:aB→Nat
  | ⟨a0,a1,a2,a3,a4,a5,a6,a7⟩=>aK2 a3+(a6.length+uT a6)+(a7.length+Q0 a7)
def Q0:List aV→Nat
  | []=>0
  | x::l=>fI x+Q0 l
def uT:List aB→Nat
  | []=>0
  | x::l=>bM x+uT l
def M7:List bO→Nat
  | []=>0
  | x::l=>mM x+M7 l
def zF:List (List aB)→Nat
  | []=>0
  | x::l=>(x.length+uT x)+zF l
end
theorem aJo:∀ l:List aV,Q0 l=(l.map fI).sum
  | []=>by simp [Q0]
  | x::l=>by rw [aAl,← aJo l]; simp only [Q0]
theorem xN:∀ l:List aB,uT l=(l.map bM).sum
  | []=>by simp [uT]
  | x::l=>by rw [aAl,← xN l]; simp only [uT]
theorem aB3:∀ l:List bO,M7 l=(l.map mM).sum
  | []=>by simp [M7]
  | x::l=>by rw [aAl,← aB3 l]; simp only [M7]
theorem aCu:∀ l:List (List aB),zF l=(l.map (zL bM)).sum
  | []=>by simp [zF]
  | x::l=>by rw [aAl,← aCu l]; simp only [zF,zL,xN]
theorem aAe (n:Int):IntKind.wrap .u8 n=n % 256:=rfl
theorem wrap64 (n:Int):IntKind.wrap .u64 n=n % 18446744073709551616:=rfl
theorem aQq:∀ b:BitVec 8,(b ||| 128#8).toNat=b.toNat % 128+128:=by decide
theorem aZh (x:Int) (h:0≤x):IntKind.wrap .u8 ((BitVec.ofInt (IntKind.bits .u8) (IntKind.wrap .u8 x) ||| BitVec.ofInt (IntKind.bits .u8) 128).toNat:Int)=x % 128+128:=by
  show IntKind.wrap .u8 (((BitVec.ofInt 8 (IntKind.wrap .u8 x) ||| 128#8).toNat:Nat):Int)=_
  rw [aQq,BitVec.toNat_ofInt,aAe,aAe]
  omega
def Byt (l:List Int):Prop:=∀ y ∈ l,0≤y∧y<256
theorem aC1 {a b:List Int} (ha:Byt a) (hb:Byt b):Byt (a++b):=fun y hy=>by
  rcases List.mem_append.1 hy with h | h
  · exact ha y h
  · exact hb y h
theorem yZ {l:List Int} (h:Byt l):ofBytes l=some (l.map fun n=>UInt8.ofNat n.toNat):=by
  unfold ofBytes
  rw [if_pos]
  rw [List.all_eq_true]
  intro y hy
  have:=h y hy
  simp; omega
theorem aZ7 (s:List UInt8):Byt (jX s):=fun y hy=>by
  obtain ⟨u,_,rfl⟩:=List.mem_map.1 hy
  have:=u.toNat_lt
  omega
theorem aYy {l:List Int} (h:Byt l):jX (l.map fun n=>UInt8.ofNat n.toNat)=l:=by
  unfold jX
  rw [List.map_map]
  refine (List.map_congr_left (g:=id) fun n hn=>?_).trans (List.map_id l)
  have:=h n hn
  simp [Function.comp]
  omega
def pv:Nat→Nat→List Nat
  | 0,x=>[x]
  | r+1,x=>if x<128 then [x] else (x % 128+128)::pv r (x / 128)
theorem aOd {r x:Nat} (h:x<128):pv r x=[x]:=by cases r <;> simp [pv,h]
theorem aKg:∀ (r x:Nat),(pv r x).length≤r+1∧1≤(pv r x).length
  | 0,x=>by simp [pv]
  | r+1,x=>by
    have:=aKg r (x / 128)
    simp only [pv]; split
    · simp
    · simp; omega
def pvI (r x:Nat):List Int:=(pv r x).map fun (n:Nat)=>(n:Int)
theorem aKm:∀ (r x:Nat),x<128 ^ (r+1)→Byt (pvI r x)
  | 0,x,h=>fun y hy=>by simp [pvI,pv] at hy; simp at h; omega
  | r+1,x,h=>fun y hy=>by
    unfold pvI at hy
    simp only [pv] at hy
    split at hy
    · simp at hy; omega
    · simp only [List.map_cons,List.mem_cons] at hy
      rcases hy with rfl | hy
      · omega
      · have h2:x / 128<128 ^ (r+1):=by rw [Nat.pow_succ] at h; omega
        exact aKm r (x / 128) h2 y hy
theorem aGp : ∀ (k x : Nat), x < 128 ^ (k + 1) → x < 18446744073709551616 → ∀ acc : List Int, Byt acc → acc.length + k + 1 ≤ 1048576 →
    wI (x:Int) acc=some ((acc++pvI k x).map fun n=>UInt8.ofNat n.toNat)∧uX (x:Int) acc=some ((acc++pvI k x).map fun n=>UInt8.ofNat n.toNat)
  | k,x,hk,h64,acc,ha,hl=>by
    by_cases hx:x<128
    · have e0:pvI k x=[(x:Int)]:=by unfold pvI; rw [aOd hx]; rfl
      have hb:Byt (acc++[(x:Int)]):=aC1 ha fun y hy=>by simp at hy; omega
      have e1:IntKind.wrap .u8 (x:Int)=(x:Int):=by rw [aAe]; omega
      rw [e0]
      constructor
      · rw [wI,if_neg (by simp; omega),e1,oQ (by simp; omega)]
        simp only [Option.bind_eq_bind,Option.bind_some,yZ hb]
      · rw [uX,if_neg (by simp; omega),e1,oQ (by simp; omega)]
        simp only [Option.bind_eq_bind,Option.bind_some,yZ hb]
    · match k,hk,hl with
      | 0,hk,hl=>simp at hk; omega
      | k+1,hk,hl =>
        have hd:0≤((x:Int)) % 128+128∧((x:Int)) % 128+128<256:=by omega
        have hb2:Byt (acc++[(x:Int) % 128+128]):=aC1 ha fun y hy=>by simp at hy; omega
        have hk2:x / 128<128 ^ (k+1):=by rw [Nat.pow_succ] at hk; omega
        obtain ⟨H1,H2⟩:=aGp k (x / 128) hk2 (by omega) (acc++[(x:Int) % 128+128]) hb2 (by simp; omega)
        have e3:acc++pvI (k+1) x=acc++[(x:Int) % 128+128]++pvI k (x / 128):=by
          unfold pvI; simp only [pv]; rw [if_neg hx]; simp
        rw [e3]
        constructor
        · rw [wI,if_pos (by simp; omega),aZh (x:Int) (by omega),oQ (by simp; omega)]
          simp only [Option.bind_eq_bind,Option.bind_some]
          rw [show Int.fdiv (x:Int) (2 ^ 7)=((x / 128:Nat):Int) by rw [Int.fdiv_eq_ediv_of_nonneg _ (by omega)]; rfl,H1]
        · have e2 : IntKind.wrap .u8 (IntKind.wrap .u64 ((Int.tmod (x : Int) 128) + 128)) = (x : Int) % 128 + 128 := by
            rw [aAe,wrap64,Int.tmod_eq_emod_of_nonneg (by omega)]; omega
          rw [uX,if_pos (by simp; omega),e2,oQ (by simp; omega)]
          simp only [Option.bind_eq_bind,Option.bind_some]
          rw [show IntKind.wrap .u64 (Int.tdiv (x:Int) 128)=((x / 128:Nat):Int) by rw [wrap64,Int.tdiv_eq_ediv_of_nonneg (by omega)]; omega,H2]
def jN (n:Int):Nat:=if n<0 then (2 * (-(n+1))+1).toNat else (2 * n).toNat
def dW (n:Int):List Int:=pvI 9 (jN n)
theorem D9 (n:Int):(dW n).length≤10∧1≤(dW n).length:=by
  have:=aKg 9 (jN n)
  simp only [dW,pvI,List.length_map]; omega
theorem aG5 (n:Int) (h1 : -9223372036854775808≤n) (h2:n≤9223372036854775807):tY n=some (jN n:Int)∧zA n=some (jN n:Int)∧jN n<18446744073709551616:=by
  have x0:∀ b:BitVec 64,b ^^^ 0#64=b:=fun b=>by simp
  have x1:∀ b:BitVec 64,b ^^^ BitVec.ofInt 64 18446744073709551615=(~~~b):=fun b=>by
    have:BitVec.ofInt 64 18446744073709551615=BitVec.allOnes 64:=by decide
    rw [this,BitVec.xor_allOnes]
  by_cases hn:n<0
  · have hs : Int.fdiv n (2 ^ 63) = -1 := by
      rw [Int.fdiv_eq_ediv_of_nonneg _ (by omega)]
      omega
    have hi:tY n=some (2 * (-(n+1))+1):=by
      unfold tY
      rw [hs]
      show some (IntKind.wrap .u64 (((BitVec.ofInt 64 _ ^^^ BitVec.ofInt 64 (IntKind.wrap .u64 (-1))).toNat:Nat):Int))=_
      rw [show IntKind.wrap .u64 (-1)=18446744073709551615 from rfl,x1,BitVec.toNat_not,BitVec.toNat_ofInt]
      simp only [wrap64]
      congr 1
      omega
    have hz:(jN n:Int)=2 * (-(n+1))+1:=by unfold jN; rw [if_pos hn]; omega
    refine ⟨by rw [hz]; exact hi,?_,by omega⟩
    rw [hz]
    unfold zA
    rw [if_pos (by simpa using hn)]
    simp only [wrap64]
    rw [eY (n:=n+1) (by omega) (by omega),eY (by omega) (by omega)]
    congr 1
    omega
  · have hs : Int.fdiv n (2 ^ 63) = 0 := by
      rw [Int.fdiv_eq_ediv_of_nonneg _ (by omega)]
      omega
    have hi:tY n=some (2 * n):=by
      unfold tY
      rw [hs]
      show some (IntKind.wrap .u64 (((BitVec.ofInt 64 _ ^^^ BitVec.ofInt 64 (IntKind.wrap .u64 0)).toNat:Nat):Int))=_
      rw [show BitVec.ofInt 64 (IntKind.wrap .u64 0)=0#64 from rfl,x0,BitVec.toNat_ofInt]
      simp only [wrap64]
      congr 1
      omega
    have hz:(jN n:Int)=2 * n:=by unfold jN; rw [if_neg hn]; omega
    refine ⟨by rw [hz]; exact hi,?_,by omega⟩
    rw [hz]
    unfold zA
    rw [if_neg (by simpa using hn)]
    simp only [wrap64]
    congr 1
    omega
def Wr (F G:List Int→Option (List Int)) (e:List Int):Prop:=Byt e∧∀ acc:List Int,acc.length+e.length≤140737488355328→F acc=some (acc++e)∧G acc=some (acc++e)
theorem lX (n:Int) (h:okI n):(dW n).length≤10∧Wr (fun acc=>fK acc n) (fun acc=>fP acc n) (dW n):=by
  obtain ⟨hi,hs,h1⟩:=aG5 n h.1 h.2
  obtain ⟨H1,H2⟩:=aGp 9 (jN n) (by omega) h1 [] (fun y hy=>by simp at hy) (by simp)
  have hb:Byt (pvI 9 (jN n)):=aKm 9 _ (by omega)
  refine ⟨(D9 n).1,hb,fun acc hacc=>?_⟩
  unfold dW at hacc ⊢
  rw [List.nil_append] at H1 H2
  have hto:=aYy hb
  constructor
  · show fK acc n=_
    rw [fK,hi]
    simp only [Option.bind_eq_bind,Option.bind_some]
    rw [qF,H1]
    simp only [Option.bind_some,uR,aA7,Option.bind_eq_bind,hto,oQ (b:=1) (l:=acc) (m:=pvI 9 (jN n)) (by omega)]
  · show fP acc n=_
    rw [fP,hs]
    simp only [Option.bind_eq_bind,Option.bind_some]
    rw [aDk,H2]
    simp only [Option.bind_some,hto,oQ (b:=1) (l:=acc) (m:=pvI 9 (jN n)) (by omega)]
theorem Wr.seq {F G F' G':List Int→Option (List Int)} {e e':List Int} (h:Wr F G e) (h':Wr F' G' e'):Wr (fun acc=>F acc>>=F') (fun acc=>G acc>>=G') (e++e'):=by
  refine ⟨aC1 h.1 h'.1,fun acc hl=>?_⟩
  rw [List.length_append] at hl
  obtain ⟨h1,h2⟩:=h.2 acc (by omega)
  obtain ⟨h3,h4⟩:=h'.2 (acc++e) (by rw [List.length_append]; omega)
  simp only [h1,h2,Option.bind_eq_bind,Option.bind_some,h3,h4,List.append_assoc,and_self]
theorem Wr.congr {F G F' G':List Int→Option (List Int)} {e:List Int} (h:Wr F G e) (hF:∀ acc,F' acc=F acc) (hG:∀ acc,G' acc=G acc):Wr F' G' e :=
  ⟨h.1,fun acc hl=>by rw [hF,hG]; exact h.2 acc hl⟩
theorem Wr.id:Wr (fun acc=>some acc) (fun acc=>some acc) []:=⟨fun y hy=>by simp at hy,fun acc _=>by simp⟩
theorem K5 {α : Type} {p : List α} {f : α → List Int} {GI GS : α → List Int → Option (List Int)} {LI LS : List Int → Int → Option (List Int)} {KI KS : List Int → Option (List Int)} {e : List Int} (hp : p.length ≤ 1048576)
    (H:∀ y ∈ p,Wr (GI y) (GS y) (f y)) (hK:Wr KI KS e)
    (hI:∀ (i:Nat) acc,LI acc (i:Int)=if (decide ((i:Int)<(p.length:Int)))=true then ((idx p (i:Int))>>=fun y=>(GI y acc)>>=fun z=>LI z (IntKind.wrap .i64 ((i:Int)+1))) else KI acc)
    (hS:∀ (i:Nat) acc,LS acc (i:Int)=if (decide ((i:Int)<(p.length:Int)))=true then ((idx p (i:Int))>>=fun y=>(GS y acc)>>=fun z=>LS z (IntKind.wrap .i64 ((i:Int)+1))) else KS acc) :
    Wr (fun acc=>LI acc 0) (fun acc=>LS acc 0) (p.flatMap f++e):=by
  refine ⟨aC1 (fun y hy=>?_) hK.1,fun acc hl=>?_⟩
  · obtain ⟨x,hx,hy⟩:=List.mem_flatMap.1 hy
    exact (H x hx).1 y hy
  · rw [List.length_append] at hl
    have g1:=gather (c:=140737488355328) (by omega) (fun y hy acc h=>((H y hy).2 acc h).1) hI acc (by omega)
    have g2:=gather (c:=140737488355328) (by omega) (fun y hy acc h=>((H y hy).2 acc h).2) hS acc (by omega)
    obtain ⟨k1,k2⟩:=hK.2 (acc++p.flatMap f) (by rw [List.length_append]; omega)
    exact ⟨by show LI acc 0=_; rw [g1,k1,List.append_assoc],by show LS acc 0=_; rw [g2,k2,List.append_assoc]⟩
theorem yR {α:Type} {f:α→List Int} {z:α→Nat} {c:Nat}:∀ {p:List α},(∀ y ∈ p,(f y).length≤c * (1+z y))→(p.flatMap f).length≤c * (p.length+(p.map z).sum)
  | [],_=>by simp
  | x::l,h=>by
    have h1:=h x (by simp)
    have h2:=yR (p:=l) fun y hy=>h y (List.mem_cons_of_mem _ hy)
    simp only [List.flatMap_cons,List.length_append,List.length_cons,List.map_cons,List.sum_cons]
    have e:c * (l.length+1+(z x+(l.map z).sum))=c * (1+z x)+c * (l.length+(l.map z).sum):=by rw [← Nat.mul_add]; congr 1; omega
    omega
theorem okI_len {n:Nat} (h:n≤1048576):okI (n:Int):=by unfold okI; omega
def mQ (b:Bool):List Int:=dW (if b then 1 else 0)
theorem aGx (b:Bool):(mQ b).length≤10∧Wr (fun acc=>oP acc b) (fun acc=>oH acc b) (mQ b):=by
  obtain ⟨hl,h⟩:=lX (if b then 1 else 0) (by unfold okI; split <;> omega)
  refine ⟨hl,h.congr (fun acc=>?_) (fun acc=>?_)⟩ <;> cases b <;> simp [oP,oH]
def jY (s:List UInt8):List Int:=dW (s.length:Int)++jX s
theorem aNx (s:List UInt8) (h:s.length≤1048576):(jY s).length≤10+s.length∧Wr (fun acc=>qG acc s) (fun acc=>qQ acc s) (jY s):=by
  obtain ⟨hl,hw⟩:=lX (s.length:Int) (okI_len h)
  have hs:(jX s).length=s.length:=by simp [jX]
  have h2:Wr (fun acc=>(uR acc s)>>=fun y=>some y.2) (fun acc=>(appG 1 acc (jX s))>>=fun y=>some y) (jX s):=by
    refine ⟨aZ7 s,fun acc ha=>?_⟩
    simp only [uR,aA7,Option.bind_eq_bind,Option.bind_some,oQ (b:=1) (l:=acc) (m:=jX s) (by omega),and_self]
  exact ⟨by simp only [jY,List.length_append]; omega,(hw.seq h2).congr (fun acc=>by rw [qG]) (fun acc=>by rw [qQ])⟩
theorem okLGPExpr_mem:∀ {l:List aB},okLGPExpr l→∀ y ∈ l,okGPExpr y
  | [],_,y,hy=>by simp at hy
  | x::l,h,y,hy=>by
    unfold okLGPExpr at h
    rcases List.mem_cons.1 hy with rfl | hy
    · exact h.1
    · exact okLGPExpr_mem h.2 y hy
theorem okLGPlan_mem:∀ {l:List aV},okLGPlan l→∀ y ∈ l,okGPlan y
  | [],_,y,hy=>by simp at hy
  | x::l,h,y,hy=>by
    unfold okLGPlan at h
    rcases List.mem_cons.1 hy with rfl | hy
    · exact h.1
    · exact okLGPlan_mem h.2 y hy
theorem okLGPSort_mem:∀ {l:List bO},okLGPSort l→∀ y ∈ l,okGPSort y
  | [],_,y,hy=>by simp at hy
  | x::l,h,y,hy=>by
    unfold okLGPSort at h
    rcases List.mem_cons.1 hy with rfl | hy
    · exact h.1
    · exact okLGPSort_mem h.2 y hy
theorem okLLGPExpr_mem:∀ {l:List (List aB)},okLLGPExpr l→∀ y ∈ l,∀ x ∈ y,okGPExpr x
  | [],_,y,hy=>by simp at hy
  | x::l,h,y,hy=>by
    unfold okLLGPExpr at h
    rcases List.mem_cons.1 hy with rfl | hy
    · exact okLGPExpr_mem h.1.2
    · exact okLLGPExpr_mem h.2 y hy
def eX (x:aB):List Int:=(oL [] x).getD []
def eP (q:aV):List Int:=(oG [] q).getD []
def OkX (x:aB):Prop:=(eX x).length≤300+400 * bM x∧Wr (fun acc=>nG acc x) (fun acc=>oL acc x) (eX x)
def OkP (q:aV):Prop:=(eP q).length≤300+400 * fI q∧Wr (fun acc=>qI acc q) (fun acc=>oG acc q) (eP q)
theorem aTy {x:aB} {e:List Int} (hl:e.length≤300+400 * bM x) (hz:bM x≤1048576) (h:Wr (fun acc=>nG acc x) (fun acc=>oL acc x) e):OkX x∧eX x=e:=by
  have:eX x=e:=by unfold eX; rw [show oL [] x=_ from (h.2 [] (by simp; omega)).2]; simp
  exact ⟨⟨by rw [this]; exact hl,by rw [this]; exact h⟩,this⟩
theorem aY3 {x:aV} {e:List Int} (hl:e.length≤300+400 * fI x) (hz:fI x≤1048576) (h:Wr (fun acc=>qI acc x) (fun acc=>oG acc x) e):OkP x∧eP x=e:=by
  have:eP x=e:=by unfold eP; rw [show oG [] x=_ from (h.2 [] (by simp; omega)).2]; simp
  exact ⟨⟨by rw [this]; exact hl,by rw [this]; exact h⟩,this⟩
def jG (p:List aB):List Int:=dW (p.length:Int)++p.flatMap eX
theorem aC9 (p:List aB) (hz:zL bM p≤1048576) (H:∀ y ∈ p,OkX y):(jG p).length≤10+400 * zL bM p∧Wr (fun acc=>qN acc p) (fun acc=>rF acc p) (jG p):=by
  unfold zL at *
  obtain ⟨hl,hw⟩:=lX (p.length:Int) (okI_len (by omega))
  have hloop:=K5 (p:=p) (f:=eX) (GI:=fun y acc=>nG acc y) (GS:=fun y acc=>oL acc y) (LI:=fun acc i=>I5 p i acc) (LS:=fun acc i=>J5 p acc i) (KI:=fun acc=>some acc) (KS:=fun acc=>some acc) (by omega) (fun y hy=>(H y hy).2) .id
    (fun i acc=>by rw [I5]) (fun i acc=>by rw [J5])
  have hfl:=yR (z:=bM) (c:=400) (f:=eX) (p:=p) fun y hy=>by have:=(H y hy).1; omega
  rw [List.append_nil] at hloop
  exact ⟨by simp only [jG,List.length_append]; omega,(hw.seq hloop).congr (fun acc=>by rw [qN]) (fun acc=>by rw [rF])⟩
theorem aB4 (x:aB):bM x=x.value.text.length+(x.kids.length+(x.kids.map bM).sum)+(x.sub.length+(x.sub.map fI).sum):=by
  obtain ⟨a0,a1,a2,⟨b0,b1,b2⟩,a4,a5,a6,a7⟩:=x
  simp only [bM,aK2,xN,aJo]
theorem aCg (q:aV):fI q=zL z0 q.tables+(q.on_.length+(q.on_.map (zL bM)).sum)+(q.where_.length+(q.where_.map bM).sum)+(q.order.length+(q.order.map fun k=>bM k.expr).sum)+(q.items.length+(q.items.map bM).sum)+zL List.length q.names:=by
  obtain ⟨a0,a1,a2,a3,a4,a5,a6,a7⟩:=q
  simp only [fI,xN,aB3,aCu]
  have:(a3.map mM)=a3.map fun k=>bM k.expr:=List.map_congr_left fun k _=>by obtain ⟨k0,k1⟩:=k; simp only [mM]
  rw [this]
theorem aMx (x:aB) (ox:okGPExpr x) (hz:bM x≤1048576) (HX:∀ y ∈ x.kids,OkX y) (HP:∀ y ∈ x.sub,OkP y):OkX x∧eX x=dW x.kind++(dW x.op++(mQ x.not_++(dW x.value.kind++(dW x.value.num++(jY x.value.text++(dW x.up++(dW x.at_++(jG x.kids++(dW (x.sub.length:Int)++x.sub.flatMap eP))))))))):=by
  have hZ:=aB4 x
  have ho:okI x.kind∧okI x.op∧okGValue x.value∧okI x.up∧okI x.at_:=by
    obtain ⟨a0,a1,a2,a3,a4,a5,a6,a7⟩:=x
    unfold okGPExpr at ox
    exact ⟨ox.1,ox.2.1,ox.2.2.2.1,ox.2.2.2.2.1,ox.2.2.2.2.2.1⟩
  obtain ⟨o1,o2,⟨o3,o4,_⟩,o5,o6⟩:=ho
  obtain ⟨l1,w1⟩:=lX _ o1
  obtain ⟨l2,w2⟩:=lX _ o2
  obtain ⟨l3,w3⟩:=aGx x.not_
  obtain ⟨l4,w4⟩:=lX _ o3
  obtain ⟨l5,w5⟩:=lX _ o4
  obtain ⟨l6,w6⟩:=aNx x.value.text (by omega)
  obtain ⟨l7,w7⟩:=lX _ o5
  obtain ⟨l8,w8⟩:=lX _ o6
  obtain ⟨l9,w9⟩:=aC9 x.kids (by unfold zL; omega) HX
  obtain ⟨l10,w10⟩:=lX (x.sub.length:Int) (okI_len (by omega))
  have hloop:=K5 (p:=x.sub) (f:=eP) (GI:=fun y acc=>qI acc y) (GS:=fun y acc=>oG acc y) (LI:=fun acc i=>K8 x i acc) (LS:=fun acc i=>M6 x acc i) (KI:=fun acc=>some acc) (KS:=fun acc=>some acc) (by omega) (fun y hy=>(HP y hy).2) .id
    (fun i acc=>by rw [K8]) (fun i acc=>by rw [M6])
  have hfl:=yR (z:=fI) (c:=400) (f:=eP) (p:=x.sub) fun y hy=>by have:=(HP y hy).1; omega
  unfold zL at l9
  rw [List.append_nil] at hloop
  refine aTy ?_ hz (((w1.seq (w2.seq (w3.seq (w4.seq (w5.seq (w6.seq (w7.seq (w8.seq (w9.seq (w10.seq hloop))))))))))).congr (fun acc=>by rw [nG]) (fun acc=>by rw [oL]))
  simp only [List.length_append]
  omega
def pY (k:bO):List Int:=eX k.expr++mQ k.desc
theorem aO3 (q:aV) (oq:okGPlan q) (hz:fI q≤1048576) (HO:∀ l ∈ q.on_,∀ y ∈ l,OkX y) (HW:∀ y ∈ q.where_,OkX y) (HR:∀ k ∈ q.order,OkX k.expr) (HI:∀ y ∈ q.items,OkX y):OkP q∧eP q=dW (q.tables.length:Int)++(q.tables.flatMap dW++(dW (q.on_.length:Int)++(q.on_.flatMap jG++(jG q.where_++(dW (q.order.length:Int)++(q.order.flatMap pY++(jG q.items++(dW (q.names.length:Int)++(q.names.flatMap jY++(mQ q.distinct++dW q.limit)))))))))):=by
  have hZ:=aCg q
  have ho:(∀ n ∈ q.tables,okI n)∧okI q.limit:=by
    obtain ⟨a0,a1,a2,a3,a4,a5,a6,a7⟩:=q
    unfold okGPlan at oq
    exact ⟨oq.1.2,oq.2.2.2.2.2.2.2⟩
  obtain ⟨o1,o2⟩:=ho
  have hzt:q.tables.length≤zL z0 q.tables:=by unfold zL; omega
  have hzn:q.names.length+(q.names.map List.length).sum=zL List.length q.names:=rfl
  have HN:∀ n ∈ q.tables,(dW n).length≤10 * (1+z0 n)∧Wr (fun acc=>fK acc n) (fun acc=>fP acc n) (dW n):=by
    intro n hn
    obtain ⟨hl,h⟩:=lX n (o1 n hn)
    exact ⟨by simp only [z0]; omega,h⟩
  have HL:∀ l ∈ q.on_,(jG l).length≤400 * (1+zL bM l)∧Wr (fun acc=>qN acc l) (fun acc=>rF acc l) (jG l):=by
    intro l hl
    have:=gX (z:=zL bM) hl
    obtain ⟨hle,h⟩:=aC9 l (by omega) (HO l hl)
    exact ⟨by omega,h⟩
  have HK:∀ k ∈ q.order,(pY k).length≤400 * (1+bM k.expr)∧Wr (fun acc=>(nG acc k.expr)>>=fun y=>oP y k.desc) (fun acc=>(oL acc k.expr)>>=fun y=>oH y k.desc) (pY k):=by
    intro k hk
    have:=gX (z:=fun k:bO=>bM k.expr) hk
    obtain ⟨hle,h⟩:=aGx k.desc
    have hs:=(HR k hk).2.seq h
    have hb:=(HR k hk).1
    exact ⟨by simp only [pY,List.length_append]; omega,hs⟩
  have HT:∀ s ∈ q.names,(jY s).length≤10 * (1+s.length)∧Wr (fun acc=>qG acc s) (fun acc=>qQ acc s) (jY s):=by
    intro s hs
    have:=gX (z:=List.length) hs
    obtain ⟨hle,h⟩:=aNx s (by omega)
    exact ⟨by omega,h⟩
  have f1:=yR fun n hn=>(HN n hn).1
  have f2:=yR fun n hn=>(HL n hn).1
  have f3:=yR fun n hn=>(HK n hn).1
  have f4:=yR (z:=List.length) fun n hn=>(HT n hn).1
  obtain ⟨l1,w1⟩:=lX (q.tables.length:Int) (okI_len (by omega))
  obtain ⟨l2,w2⟩:=lX (q.on_.length:Int) (okI_len (by omega))
  obtain ⟨l3,w3⟩:=aC9 q.where_ (by unfold zL; omega) HW
  obtain ⟨l4,w4⟩:=lX (q.order.length:Int) (okI_len (by omega))
  obtain ⟨l5,w5⟩:=aC9 q.items (by unfold zL; omega) HI
  obtain ⟨l6,w6⟩:=lX (q.names.length:Int) (okI_len (by omega))
  obtain ⟨l7,w7⟩:=aGx q.distinct
  obtain ⟨l8,w8⟩:=lX q.limit o2
  have g3:=K5 (p:=q.names) (f:=jY) (GI:=fun y acc=>qG acc y) (GS:=fun y acc=>qQ acc y) (LI:=fun acc i=>wW q i acc) (LS:=fun acc i=>wZ q acc i) (by omega) (fun y hy=>(HT y hy).2) (w7.seq w8)
    (fun i acc=>by rw [wW]; simp only [Option.bind_eq_bind,Option.bind_some,Option.bind_assoc,Option.bind_fun_some]) (fun i acc=>by rw [wZ]; simp only [Option.bind_eq_bind,Option.bind_some,Option.bind_assoc,Option.bind_fun_some])
  have g2:=K5 (p:=q.order) (f:=pY) (GI:=fun k acc=>(nG acc k.expr)>>=fun y=>oP y k.desc) (GS:=fun k acc=>(oL acc k.expr)>>=fun y=>oH y k.desc) (LI:=fun acc i=>xB q i acc) (LS:=fun acc i=>wR q acc i) (by omega) (fun y hy=>(HK y hy).2) (w5.seq (w6.seq g3))
    (fun i acc=>by rw [xB]; simp only [Option.bind_eq_bind,Option.bind_assoc]) (fun i acc=>by
      rw [wR]
      by_cases h:i<q.order.length
      · simp only [rP,h,decide_true,if_true,vE h,Option.bind_eq_bind,Option.bind_some,Option.bind_assoc]
      · simp only [rP,h,decide_false,Bool.false_eq_true,if_false])
  have g1:=K5 (p:=q.on_) (f:=jG) (GI:=fun y acc=>qN acc y) (GS:=fun y acc=>rF acc y) (LI:=fun acc i=>I6 q i acc) (LS:=fun acc i=>D8 q acc i) (by omega) (fun y hy=>(HL y hy).2) (w3.seq (w4.seq g2))
    (fun i acc=>by rw [I6]) (fun i acc=>by rw [D8])
  have g0:=K5 (p:=q.tables) (f:=dW) (GI:=fun y acc=>fK acc y) (GS:=fun y acc=>fP acc y) (LI:=fun acc i=>A9 q i acc) (LS:=fun acc i=>M3 q acc i) (by omega) (fun y hy=>(HN y hy).2) (w2.seq g1)
    (fun i acc=>by rw [A9]) (fun i acc=>by rw [M3])
  unfold zL at l3 l5 hZ hzt f2 f4
  refine aY3 ?_ hz ((w1.seq g0).congr (fun acc=>by rw [qI]) (fun acc=>by rw [oG]))
  simp only [List.length_append]
  unfold zL at *
  omega
theorem aD4:∀ n:Nat,(∀ x:aB,okGPExpr x→bM x<n→bM x≤1048576→OkX x)∧(∀ q:aV,okGPlan q→fI q<n→fI q≤1048576→OkP q):=by
  intro n
  induction n with
  | zero=>exact ⟨fun x _ h _=>by omega,fun q _ h _=>by omega⟩
  | succ n ih =>
    refine ⟨fun x ox hn hz=>?_,fun q oq hn hz=>?_⟩
    · have hZ:=aB4 x
      have ok:okLGPExpr x.kids∧okLGPlan x.sub:=by
        obtain ⟨a0,a1,a2,a3,a4,a5,a6,a7⟩:=x
        unfold okGPExpr at ox
        exact ⟨ox.2.2.2.2.2.2.1.2,ox.2.2.2.2.2.2.2.2⟩
      refine (aMx x ox hz (fun y hy=>?_) (fun y hy=>?_)).1
      · have:=gX (z:=bM) hy
        have:=List.length_pos_of_mem hy
        exact ih.1 y (okLGPExpr_mem ok.1 y hy) (by omega) (by omega)
      · have:=gX (z:=fI) hy
        have:=List.length_pos_of_mem hy
        exact ih.2 y (okLGPlan_mem ok.2 y hy) (by omega) (by omega)
    · have hZ:=aCg q
      have ok:okLLGPExpr q.on_∧okLGPExpr q.where_∧okLGPSort q.order∧okLGPExpr q.items:=by
        obtain ⟨a0,a1,a2,a3,a4,a5,a6,a7⟩:=q
        unfold okGPlan at oq
        exact ⟨oq.2.1.2,oq.2.2.1.2,oq.2.2.2.1.2,oq.2.2.2.2.1.2⟩
      refine (aO3 q oq hz (fun l hl y hy=>?_) (fun y hy=>?_) (fun k hk=>?_) (fun y hy=>?_)).1
      · have h1:=gX (z:=zL bM) hl
        have h2:=gX (z:=bM) hy
        have h3:=List.length_pos_of_mem hl
        unfold zL at h1 hZ
        exact ih.1 y (okLLGPExpr_mem ok.1 l hl y hy) (by omega) (by omega)
      · have:=gX (z:=bM) hy
        have:=List.length_pos_of_mem hy
        exact ih.1 y (okLGPExpr_mem ok.2.1 y hy) (by omega) (by omega)
      · have:=gX (z:=fun k:bO=>bM k.expr) hk
        have:=List.length_pos_of_mem hk
        have h4:=okLGPSort_mem ok.2.2.1 k hk
        have h5:okGPExpr k.expr:=by obtain ⟨k0,k1⟩:=k; unfold okGPSort at h4; exact h4.1
        exact ih.1 k.expr h5 (by omega) (by omega)
      · have:=gX (z:=bM) hy
        have:=List.length_pos_of_mem hy
        exact ih.1 y (okLGPExpr_mem ok.2.2.2 y hy) (by omega) (by omega)
theorem aPx (k m u:Nat) (hk:k≤9) (hm:m<128) (hu:u<2 ^ (7 * k)):(u ||| (m * 2 ^ (7 * k)) % 18446744073709551616)=u+(m * 2 ^ (7 * k)) % 18446744073709551616∧u+(m * 2 ^ (7 * k)) % 18446744073709551616<18446744073709551616∧(k≤8→u+(m * 2 ^ (7 * k)) % 18446744073709551616<2 ^ (7 * (k+1))):=by
  have key:∀ x:Nat,(u ||| x * 2 ^ (7 * k))=u+x * 2 ^ (7 * k):=fun x=>by
    have:=Nat.shiftLeft_add_eq_or_of_lt hu x
    rw [Nat.shiftLeft_eq] at this
    rw [Nat.or_comm,← this,Nat.add_comm]
  have h:k=0∨k=1∨k=2∨k=3∨k=4∨k=5∨k=6∨k=7∨k=8∨k=9:=by omega
  have fin : ∀ x : Nat, (m * 2 ^ (7 * k)) % 18446744073709551616 = x * 2 ^ (7 * k) → u + x * 2 ^ (7 * k) < 18446744073709551616 → (k ≤ 8 → u + x * 2 ^ (7 * k) < 2 ^ (7 * (k + 1))) →
      (u ||| (m * 2 ^ (7 * k)) % 18446744073709551616)=u+(m * 2 ^ (7 * k)) % 18446744073709551616∧u+(m * 2 ^ (7 * k)) % 18446744073709551616<18446744073709551616∧(k≤8→u+(m * 2 ^ (7 * k)) % 18446744073709551616<2 ^ (7 * (k+1))):=fun x e h1 h2=>by
    rw [e]; exact ⟨key x,h1,h2⟩
  rcases h with rfl | rfl | rfl | rfl | rfl | rfl | rfl | rfl | rfl | rfl
  case inr.inr.inr.inr.inr.inr.inr.inr.inr=>exact fin (m % 2) (by simp only [Nat.reduceMul,Nat.reducePow]; omega) (by simp only [Nat.reduceMul,Nat.reducePow] at hu ⊢; omega) (fun h=>by omega)
  all_goals exact fin m (by simp only [Nat.reduceMul,Nat.reducePow]; omega) (by simp only [Nat.reduceMul,Nat.reducePow] at hu ⊢; omega) (fun _=>by simp only [Nat.reduceMul,Nat.reducePow,Nat.reduceAdd] at hu ⊢; omega)
theorem aKa (b:Nat) (h:b<256):IntKind.wrap .u8 ((BitVec.ofInt (IntKind.bits .u8) (b:Int) &&& BitVec.ofInt (IntKind.bits .u8) 127).toNat:Int)=((b % 128:Nat):Int):=by
  have key:∀ x:BitVec 8,(x &&& 127#8).toNat=x.toNat % 128:=by decide
  show IntKind.wrap .u8 (((BitVec.ofInt 8 (b:Int) &&& 127#8).toNat:Nat):Int)=_
  rw [key,BitVec.toNat_ofInt,aAe]
  omega
theorem aM8 (u y:Nat) (hu:u<18446744073709551616) (hy:y<18446744073709551616):IntKind.wrap .u64 ((BitVec.ofInt (IntKind.bits .u64) (u:Int) ||| BitVec.ofInt (IntKind.bits .u64) (y:Int)).toNat:Int)=(((u ||| y) % 18446744073709551616:Nat):Int):=by
  show IntKind.wrap .u64 (((BitVec.ofInt 64 (u:Int) ||| BitVec.ofInt 64 (y:Int)).toNat:Nat):Int)=_
  have e1:((u:Int) % ((2 ^ 64:Nat):Int)).toNat=u:=by simp only [Nat.reducePow]; omega
  have e2:((y:Int) % ((2 ^ 64:Nat):Int)).toNat=y:=by simp only [Nat.reducePow]; omega
  rw [BitVec.toNat_or,BitVec.toNat_ofInt,BitVec.toNat_ofInt,wrap64,e1,e2]
  omega
theorem aOa (m k:Nat) (hk:k≤9):aAr .u64 (m:Int) ((7 * k:Nat):Int)=some (((m * 2 ^ (7 * k)) % 18446744073709551616:Nat):Int):=by
  unfold aAr
  rw [if_pos (by omega),wrap64]
  have:Nat.min ((7 * k:Nat):Int).toNat (IntKind.bits .u64)=7 * k:=by
    show Nat.min ((7 * k:Nat):Int).toNat 64=7 * k
    rw [Int.toNat_natCast]; exact Nat.min_eq_left (by omega)
  rw [this]
  congr 1
theorem aOe {α:Type} {l:List α} {a b:Nat} (h1:a≤b) (h2:b≤l.length):vD l (a:Int) (b:Int)=some ((l.take b).drop a):=by
  unfold vD; rw [if_pos (by omega)]; simp
theorem H7 {α β:Type} {c:Prop} [Decidable c] {A B:Option α} {k:α→Option β}:(if c then A else B).bind k=if c then A.bind k else B.bind k:=by split <;> rfl
def toB (e:List Int):List UInt8:=e.map fun n=>UInt8.ofNat n.toNat
theorem aQ5 (a b:List Int):toB (a++b)=toB a++toB b:=by simp [toB]
theorem nY (a:List Int):(toB a).length=a.length:=by simp [toB]
def At (s:List UInt8) (a:Nat) (e:List Int):Prop:=∃ pre post,s=pre++(toB e++post)∧pre.length=a
theorem At.left {s:List UInt8} {a:Nat} {e f:List Int} (h:At s a (e++f)):At s a e:=by
  obtain ⟨p,q,h1,h2⟩:=h
  exact ⟨p,toB f++q,by rw [h1,aQ5,List.append_assoc],h2⟩
theorem At.right {s:List UInt8} {a:Nat} {e f:List Int} (h:At s a (e++f)):At s (a+e.length) f:=by
  obtain ⟨p,q,h1,h2⟩:=h
  exact ⟨p++toB e,q,by rw [h1,aQ5]; simp,by simp [nY,h2]⟩
theorem At.len {s:List UInt8} {a:Nat} {e:List Int} (h:At s a e):a+e.length≤s.length:=by
  obtain ⟨p,q,h1,h2⟩:=h
  rw [h1]; simp [nY]; omega
theorem At.sub {s:List UInt8} {a:Nat} {e:List Int} (h:At s a e):(s.take (a+e.length)).drop a=toB e:=by
  obtain ⟨p,q,h1,h2⟩:=h
  subst h1 h2
  rw [← List.append_assoc,List.take_append_of_le_length (by simp [nY]),List.take_of_length_le (by simp [nY]),List.drop_left]
theorem At.get {s:List UInt8} {a:Nat} {x:Int} {e:List Int} (h:At s a (x::e)):s[a]?=some (UInt8.ofNat x.toNat):=by
  obtain ⟨p,q,h1,h2⟩:=h
  subst h1 h2
  rw [List.getElem?_append_right (Nat.le_refl _)]
  simp [toB]
theorem At.tail {s:List UInt8} {a:Nat} {x:Int} {e:List Int} (h:At s a (x::e)):At s (a+1) e:=At.right (e:=[x]) h
theorem aKb (s : List UInt8) (hs : s.length ≤ 1048576) (a : Nat) (t : List UInt8) (U : Nat) (hU : U < 18446744073709551616) (hput : qF (U : Int) = some t) (r k x u : Nat) (hk : k + r = 9) (hx : x < 128) (hu : u < 2 ^ (7 * k)) (hUx : U = u + x * 2 ^ (7 * k))
    (hat:At s (a+k) (pvI r x)) (hsub:(s.take (a+k+(pvI r x).length)).drop a=t):rG s (a:Int) (u:Int) ((a+k:Nat):Int)=some ((U:Int),((a+k+(pvI r x).length:Nat):Int),true):=by
  have e0:pvI r x=[(x:Int)]:=by unfold pvI; rw [aOd hx]; rfl
  rw [e0] at hat hsub ⊢
  have hl:=hat.len
  simp only [List.length_cons,List.length_nil] at hl hsub ⊢
  have hk9:k≤9:=by omega
  have hg:=hat.get
  have hb:(UInt8.ofNat ((x:Int)).toNat).toNat=x:=by rw [Int.toNat_natCast,UInt8.toNat_ofNat']; omega
  have ei:vP s ((a+k:Nat):Int)=some (x:Int):=by unfold vP; rw [if_pos (by omega),Int.toNat_natCast,hg]; simp only [Option.map_some]; rw [hb]
  obtain ⟨o1,o2,o3⟩:=aPx k x u hk9 hx hu
  have hmod:(x * 2 ^ (7 * k)) % 18446744073709551616=x * 2 ^ (7 * k):=Nat.mod_eq_of_lt (by omega)
  rw [hmod] at o1 o2 o3
  have w1:IntKind.wrap .u64 (((x % 128:Nat)):Int)=(x:Int):=by rw [wrap64]; omega
  have w2:IntKind.wrap .i64 (7 * IntKind.wrap .i64 (((a+k:Nat):Int) - (a:Int)))=((7 * k:Nat):Int):=by rw [eY (n:=((a+k:Nat):Int) - (a:Int)) (by omega) (by omega),eY (by omega) (by omega)]; omega
  have w6:IntKind.wrap .i64 (((a+k:Nat):Int)+1)=((a+k+1:Nat):Int):=by rw [eY (by omega) (by omega)]; omega
  have w8:IntKind.wrap .u64 ((BitVec.ofInt (IntKind.bits .u64) (u:Int) ||| BitVec.ofInt (IntKind.bits .u64) ((x * 2 ^ (7 * k):Nat):Int)).toNat:Int)=(U:Int):=by rw [aM8 u _ (by omega) (by omega),o1,← hUx]; omega
  have w10:IntKind.wrap .i64 ((a:Int)+10)=(a:Int)+10:=eY (by omega) (by omega)
  have c1:(if (decide (((a+k:Nat):Int)<(s.length:Int)))=true then (decide (((a+k:Nat):Int)<(a:Int)+10)) else false)=true:=by simp; omega
  have sh:=aOa x k hk9
  rw [hmod] at sh
  have hsl:=aOe (l:=s) (a:=a) (b:=a+k+1) (by omega) (by omega)
  rw [hsub] at hsl
  rw [rG]
  simp only [w10,c1,ei,aKa _ (show x<256 by omega),w1,w2,sh,w8,w6,hput,hsl,Option.bind_eq_bind,Option.bind_some,if_true]
  rw [if_pos (by simp; omega),if_neg (by simp)]
theorem aUz (s : List UInt8) (hs : s.length ≤ 1048576) (a : Nat) (t : List UInt8) (U : Nat) (hU : U < 18446744073709551616) (hput : qF (U : Int) = some t) : ∀ (r k x u : Nat), k + r = 9 → x < 128 ^ (r + 1) → u < 2 ^ (7 * k) → U = u + x * 2 ^ (7 * k) →
    At s (a+k) (pvI r x)→(s.take (a+k+(pvI r x).length)).drop a=t→rG s (a:Int) (u:Int) ((a+k:Nat):Int)=some ((U:Int),((a+k+(pvI r x).length:Nat):Int),true):=by
  intro r
  induction r with
  | zero =>
    intro k x u hk hx hu hUx hat hsub
    exact aKb s hs a t U hU hput 0 k x u hk (by simpa using hx) hu hUx hat hsub
  | succ r ih =>
    intro k x u hk hx hu hUx hat hsub
    by_cases h128:x<128
    · exact aKb s hs a t U hU hput (r+1) k x u hk h128 hu hUx hat hsub
    · have e0:pvI (r+1) x=((x % 128+128:Nat):Int)::pvI r (x / 128):=by unfold pvI; simp only [pv]; rw [if_neg h128]; simp
      rw [e0] at hat hsub ⊢
      have hl:=hat.len
      simp only [List.length_cons] at hl hsub ⊢
      have hk9:k≤9:=by omega
      have hg:=hat.get
      have hb:(UInt8.ofNat (((x % 128+128:Nat):Int)).toNat).toNat=x % 128+128:=by rw [Int.toNat_natCast,UInt8.toNat_ofNat']; omega
      have ei:vP s ((a+k:Nat):Int)=some (((x % 128+128:Nat)):Int):=by unfold vP; rw [if_pos (by omega),Int.toNat_natCast,hg]; simp only [Option.map_some]; rw [hb]
      obtain ⟨o1,o2,o3⟩:=aPx k ((x % 128+128) % 128) u hk9 (by omega) hu
      have hm:(x % 128+128) % 128=x % 128:=by omega
      rw [hm] at o1 o2 o3
      have hp:x * 2 ^ (7 * k)=x % 128 * 2 ^ (7 * k)+x / 128 * 2 ^ (7 * (k+1)):=by
        have e1:(2:Nat) ^ (7 * (k+1))=128 * 2 ^ (7 * k):=by rw [Nat.mul_add,Nat.pow_add,Nat.mul_comm]
        rw [e1,← Nat.mul_assoc,← Nat.add_mul]
        congr 1; omega
      have hle:x % 128 * 2 ^ (7 * k)≤U:=by rw [hUx,hp]; omega
      have hmod:(x % 128 * 2 ^ (7 * k)) % 18446744073709551616=x % 128 * 2 ^ (7 * k):=Nat.mod_eq_of_lt (by omega)
      rw [hmod] at o1 o2 o3
      have hy64:x % 128 * 2 ^ (7 * k)<18446744073709551616:=by omega
      have w1:IntKind.wrap .u64 ((((x % 128+128) % 128:Nat)):Int)=((x % 128:Nat):Int):=by rw [wrap64,hm]; omega
      have w2:IntKind.wrap .i64 (7 * IntKind.wrap .i64 (((a+k:Nat):Int) - (a:Int)))=((7 * k:Nat):Int):=by rw [eY (n:=((a+k:Nat):Int) - (a:Int)) (by omega) (by omega),eY (by omega) (by omega)]; omega
      have w6:IntKind.wrap .i64 (((a+k:Nat):Int)+1)=((a+(k+1):Nat):Int):=by rw [eY (by omega) (by omega)]; omega
      have hu64:u<18446744073709551616:=by omega
      have w8:IntKind.wrap .u64 ((BitVec.ofInt (IntKind.bits .u64) (u:Int) ||| BitVec.ofInt (IntKind.bits .u64) ((x % 128 * 2 ^ (7 * k):Nat):Int)).toNat:Int)=((u+x % 128 * 2 ^ (7 * k):Nat):Int):=by rw [aM8 u _ hu64 hy64,o1]; omega
      have w10:IntKind.wrap .i64 ((a:Int)+10)=(a:Int)+10:=eY (by omega) (by omega)
      have c1:(if (decide (((a+k:Nat):Int)<(s.length:Int)))=true then (decide (((a+k:Nat):Int)<(a:Int)+10)) else false)=true:=by simp; omega
      have sh:=aOa (x % 128) k hk9
      rw [hmod] at sh
      rw [rG]
      simp only [w10,c1,ei,aKa _ (show x % 128+128<256 by omega),w1,w2,sh,w8,w6,Option.bind_eq_bind,Option.bind_some,if_true]
      rw [if_neg (by simp; omega)]
      have:=ih (k+1) (x / 128) (u+x % 128 * 2 ^ (7 * k)) (by omega) (by rw [Nat.pow_succ] at hx; omega) (o3 (by omega)) (by rw [hUx,hp]; omega) (by have:=hat.tail; rw [Nat.add_assoc] at this; exact this) (by rw [← hsub,show a+(k+1)+(pvI r (x / 128)).length=a+k+((pvI r (x / 128)).length+1) by omega])
      rw [this,show a+(k+1)+(pvI r (x / 128)).length=a+k+((pvI r (x / 128)).length+1) by omega]
theorem aVc (n:Int) (h:okI n):K7 (jN n:Int)=some n:=by
  obtain ⟨_,_,hv⟩:=aG5 n h.1 h.2
  have x0:∀ b:BitVec 64,b ^^^ 0#64=b:=fun b=>by simp
  have x1:∀ b:BitVec 64,b ^^^ BitVec.ofInt 64 (-1)=(~~~b):=fun b=>by
    have:BitVec.ofInt 64 (-1)=BitVec.allOnes 64:=by decide
    rw [this,BitVec.xor_allOnes]
  generalize hz:jN n=v at hv
  have hs:Int.fdiv (v:Int) (2 ^ 1)=((v / 2:Nat):Int):=by rw [Int.fdiv_eq_ediv_of_nonneg _ (by omega)]; omega
  have w1:IntKind.wrap .i64 ((v / 2:Nat):Int)=((v / 2:Nat):Int):=eY (by omega) (by omega)
  have ha:((BitVec.ofInt (IntKind.bits .u64) (v:Int) &&& BitVec.ofInt (IntKind.bits .u64) 1).toNat)=v % 2:=by
    show (BitVec.ofInt 64 (v:Int) &&& BitVec.ofInt 64 1).toNat=_
    rw [BitVec.toNat_and,BitVec.toNat_ofInt]
    have e1:((v:Int) % ((2 ^ 64:Nat):Int)).toNat=v:=by simp only [Nat.reducePow]; omega
    rw [e1]
    show v &&& 1=_
    exact Nat.and_one_is_mod v
  by_cases hn:n<0
  · have hv2:(v:Int)=2 * (-(n+1))+1:=by rw [← hz]; unfold jN; rw [if_pos hn]; omega
    have h1:v % 2=1:=by omega
    unfold K7
    rw [hs,w1,ha,h1]
    show some (IntKind.wrap .i64 (((BitVec.ofInt 64 ((v / 2:Nat):Int) ^^^ BitVec.ofInt 64 (IntKind.wrap .i64 (0 - (IntKind.wrap .i64 (IntKind.wrap .u64 ((1:Nat):Int)))))).toNat:Nat):Int))=_
    rw [show IntKind.wrap .i64 (0 - (IntKind.wrap .i64 (IntKind.wrap .u64 ((1:Nat):Int)))) = -1 from rfl,x1,BitVec.toNat_not,BitVec.toNat_ofInt]
    have e1:(((v / 2:Nat):Int) % ((2 ^ 64:Nat):Int)).toNat=v / 2:=by simp only [Nat.reducePow]; omega
    rw [e1]
    refine congrArg some ?_
    rw [IntKind.wrap_i64]
    simp only [Nat.reducePow,Nat.reduceSub]
    omega
  · have hv2:(v:Int)=2 * n:=by rw [← hz]; unfold jN; rw [if_neg hn]; omega
    have h1:v % 2=0:=by omega
    unfold K7
    rw [hs,w1,ha,h1]
    show some (IntKind.wrap .i64 (((BitVec.ofInt 64 ((v / 2:Nat):Int) ^^^ BitVec.ofInt 64 (IntKind.wrap .i64 (0 - (IntKind.wrap .i64 (IntKind.wrap .u64 ((0:Nat):Int)))))).toNat:Nat):Int))=_
    rw [show BitVec.ofInt 64 (IntKind.wrap .i64 (0 - (IntKind.wrap .i64 (IntKind.wrap .u64 ((0:Nat):Int)))))=0#64 from rfl,x0,BitVec.toNat_ofInt]
    have e1:(((v / 2:Nat):Int) % ((2 ^ 64:Nat):Int)).toNat=v / 2:=by simp only [Nat.reducePow]; omega
    rw [e1,w1]; congr 1; omega
def Dec {α:Type} (g:aU→Option (α×aU)) (e:List Int) (v:α):Prop :=
  ∀ (s:List UInt8) (a:Nat),s.length≤20000→At s a e→g ⟨s,(a:Int),false⟩=some (v,⟨s,((a+e.length:Nat):Int),false⟩)
theorem Dec.congr {α:Type} {g g':aU→Option (α×aU)} {e:List Int} {v:α} (h:Dec g e v) (hg:∀ st,g' st=g st):Dec g' e v:=fun s a h1 h2=>by rw [hg]; exact h s a h1 h2
theorem Dec.bind {α β:Type} {g:aU→Option (α×aU)} {G:α×aU→Option (β×aU)} {e f:List Int} {v:α} {w:β} (h:Dec g e v) (h2:Dec (fun st=>G (v,st)) f w):Dec (fun st=>g st>>=G) (e++f) w:=fun s a h1 hat=>by
  have e1:=h s a h1 hat.left
  have e2:=h2 s (a+e.length) h1 hat.right
  simp only [e1,Option.bind_eq_bind,Option.bind_some]
  exact e2.trans (by rw [List.length_append,Nat.add_assoc])
theorem Dec.pure {α:Type} (v:α):Dec (fun st=>some (v,st)) [] v:=fun _ _ _ _=>rfl
theorem Dec.last {α β:Type} {g:aU→Option (α×aU)} {G:α×aU→Option (β×aU)} {e:List Int} {v:α} {w:β} (h:Dec g e v) (h2:∀ st,G (v,st)=some (w,st)):Dec (fun st=>g st>>=G) e w:=by
  have:=h.bind (G:=G) ((Dec.pure w).congr h2)
  rwa [List.append_nil] at this
theorem rV (n:Int) (h:okI n):Dec (fun st=>gK st) (dW n) n:=by
  intro s a hs hat
  obtain ⟨hi,_,hz⟩:=aG5 n h.1 h.2
  obtain ⟨H1,_⟩:=aGp 9 (jN n) (by omega) hz [] (fun y hy=>by simp at hy) (by simp)
  have hput:qF (jN n:Int)=some (toB (dW n)):=by rw [qF,H1]; simp [toB,dW]
  have hr:=aUz s (by omega) a _ (jN n) hz hput 9 0 (jN n) 0 (by omega) (by omega) (by simp) (by simp) (by simpa [dW] using hat) (by have:=hat.sub; simpa [dW] using this)
  show gK _=_
  rw [gK,aAd,if_neg (by simp)]
  have hr':rG s (a:Int) 0 (a:Int)=some ((jN n:Int),((a+(dW n).length:Nat):Int),true):=by simpa [dW] using hr
  simp only [hr',Option.bind_eq_bind,Option.bind_some,Bool.not_true,Bool.false_eq_true,if_false,aVc n h]
theorem aJv (b:Bool):Dec (fun st=>jJ st) (mQ b) b:=by
  intro s a hs hat
  have:=rV (if b then 1 else 0) (by unfold okI; split <;> omega) s a hs hat
  dsimp only at this
  show jJ _=_
  rw [jJ,this]
  cases b <;> simp [mQ]
theorem aQ1 (n:Nat) (s:List UInt8) (a:Nat) (hs:s.length≤20000) (hat:At s a (dW (n:Int))) (hn:a+(dW (n:Int)).length+n≤s.length):kJ ⟨s,(a:Int),false⟩=some ((n:Int),⟨s,((a+(dW (n:Int)).length:Nat):Int),false⟩):=by
  have:=rV (n:Int) (by unfold okI; omega) s a hs hat
  dsimp only at this
  rw [kJ,this]
  have w:IntKind.wrap .i64 ((s.length:Int) - ((a+(dW (n:Int)).length:Nat):Int))=(s.length:Int) - ((a+(dW (n:Int)).length:Nat):Int):=eY (by omega) (by omega)
  simp only [Option.bind_eq_bind,Option.bind_some,w]
  have h1:¬ (n:Int)<0:=by omega
  have h2:¬ (s.length:Int) - ((a+(dW (n:Int)).length:Nat):Int)<(n:Int):=by omega
  simp only [h1,h2,decide_false,Bool.false_eq_true,if_false,R3]
theorem aKz (t:List UInt8):Dec (fun st=>qZ st) (jY t) t:=by
  intro s a hs hat
  have hl:=hat.len
  have h1:=aQ1 t.length s a hs hat.left (by simp only [jY,List.length_append,jX,List.length_map] at hl; omega)
  have h2:=hat.right.sub
  have e1:(jX t).length=t.length:=by simp [jX]
  have e2:toB (jX t)=t:=by
    unfold toB jX
    rw [List.map_map]
    refine (List.map_congr_left (g:=id) fun n hn=>?_).trans (List.map_id t)
    simp [Function.comp]
  rw [e1,e2] at h2
  generalize hb:a+(dW (t.length:Int)).length=b at h1 h2
  have hle:b+t.length≤s.length:=by simp only [jY,List.length_append,e1] at hl; omega
  have w:IntKind.wrap .i64 ((b:Int)+(t.length:Int))=((b+t.length:Nat):Int):=by rw [eY (by omega) (by omega)]; omega
  have w2:IntKind.wrap .i64 (((b+t.length:Nat):Int) - (t.length:Int))=(b:Int):=by rw [eY (by omega) (by omega)]; omega
  show qZ _=_
  rw [qZ,h1]
  simp only [Option.bind_eq_bind,Option.bind_some,w,w2,aOe (l:=s) (show b≤b+t.length by omega) hle,h2]
  simp only [jY,List.length_append,e1,← hb,Nat.add_assoc]
theorem zV {α R : Type} {p : List α} {f : α → List Int} {g : aU → Option (α × aU)} {by' : Nat} {LI : Int → aU → List α → Option (R × aU)} {KI : List α → aU → Option (R × aU)} {e : List Int} {w : R}
    (hp:p.length≤1048576) (hby:by'≤100000) (hf:∀ y ∈ p,1≤(f y).length) (hg:∀ y ∈ p,Dec g (f y) y)
    (hLI:∀ (x:Nat) st acc,LI (x:Int) st acc=(some (if (decide (0<(x:Int)))=true then (!st.failed) else false)>>=fun y2=>if y2=true then ((g st)>>=fun y3=>(appG by' acc [y3.1])>>=fun y4=>LI (IntKind.wrap .i64 ((x:Int) - 1)) y3.2 y4) else KI acc st))
    (hK:Dec (fun st=>KI p st) e w):Dec (fun st=>kJ st>>=fun y=>LI y.1 y.2 []) (dW (p.length:Int)++(p.flatMap f++e)) w:=by
  intro s a hs hat
  have hlen:p.length≤(p.flatMap f).length:=by
    clear hg hK hat hp
    induction p with
    | nil=>simp
    | cons x l ih =>
      have h1:=hf x (by simp)
      have h2:=ih fun y hy=>hf y (List.mem_cons_of_mem _ hy)
      simp only [List.flatMap_cons,List.length_append,List.length_cons]; omega
  have hl:=hat.right.left.len
  have h1:=aQ1 p.length s a hs hat.left (by omega)
  simp only [h1,Option.bind_eq_bind,Option.bind_some]
  have key:∀ (q acc:List α) (b:Nat),acc++q=p→At s b (q.flatMap f++e)→LI (q.length:Int) ⟨s,(b:Int),false⟩ acc=some (w,⟨s,((b+(q.flatMap f++e).length:Nat):Int),false⟩):=by
    intro q
    induction q with
    | nil =>
      intro acc b hq hb
      rw [List.append_nil] at hq
      subst hq
      have:=hK s b hs (by simpa using hb)
      rw [hLI]
      simpa using this
    | cons y q ih =>
      intro acc b hq hb
      have hy:y ∈ p:=by rw [← hq]; simp
      rw [List.flatMap_cons,List.append_assoc] at hb ⊢
      have e1:=hg y hy s b hs hb.left
      have hal:acc.length+1≤1048576:=by
        have:(acc++y::q).length=p.length:=by rw [hq]
        simp at this; omega
      have hap:appG by' acc [y]=some (acc++[y]):=oQ (by
        have:(acc.length+[y].length) * by'≤1048576 * 100000:=Nat.mul_le_mul (by simpa using hal) hby
        omega)
      have hq2:q.length<p.length:=by rw [← hq]; simp; omega
      have w2:IntKind.wrap .i64 (((y::q).length:Int) - 1)=(q.length:Int):=by rw [List.length_cons,eY (by omega) (by omega)]; omega
      rw [hLI,w2]
      have c1:(0:Int)<((y::q).length:Int):=by simp
      simp only [c1,decide_true,if_true,Bool.not_false,Option.bind_eq_bind,Option.bind_some,e1,hap]
      rw [ih (acc++[y]) (b+(f y).length) (by rw [← hq]; simp) hb.right,show b+(f y).length+(q.flatMap f++e).length=b+(f y++(q.flatMap f++e)).length by simp only [List.length_append]; omega]
  rw [key p [] _ (by simp) hat.right,show a+(dW (p.length:Int)).length+(p.flatMap f++e).length=a+(dW (p.length:Int)++(p.flatMap f++e)).length by simp only [List.length_append]; omega]
theorem aTo {α β:Type} {b:Nat} {acc:List α} {z v:α} {k:List α→Option β}:((appG b acc [z]).bind fun y2=>(idx y2 (acc.length:Int)).bind fun _=>k (y2.set ((acc.length:Int)).toNat v))=((appG b acc [v]).bind k):=by
  unfold appG
  by_cases h:(acc.length+1) * b≤140737488355328
  · rw [if_pos (by simpa using h),if_pos (by simpa using h)]; simp [aPp]
  · rw [if_neg (by simpa using h),if_neg (by simpa using h)]; rfl
def DX (x:aB):Prop:=Dec (fun st=>qV st) (eX x) x∧1≤(eX x).length
def DP (x:aV):Prop:=Dec (fun st=>wG st) (eP x) x∧1≤(eP x).length
theorem aRh (p:List aB):1≤(jG p).length:=by
  have:=(D9 (p.length:Int)).2
  simp only [jG,List.length_append]; omega
theorem aC4 (p:List aB) (hp:p.length≤1048576) (H:∀ y ∈ p,DX y):Dec (fun st=>jR st) (jG p) p:=by
  have:=zV (p:=p) (f:=eX) (g:=fun st=>qV st) (by':=120) (LI:=fun x st acc=>(wB x st.s st.at_ st.failed acc).bind fun y=>some (y.2,y.1)) (KI:=fun acc st=>some (acc,st)) (e:=[]) (w:=p) hp (by omega) (fun y hy=>(H y hy).2) (fun y hy=>(H y hy).1) (fun x st acc=>?_) (Dec.pure p)
  · rw [List.append_nil] at this
    refine this.congr fun st=>?_
    rw [jR,aCe]
    simp only [Option.bind_eq_bind,Option.bind_assoc]
  · show (wB _ _ _ _ _).bind _=_
    rw [wB]
    simp only [Option.bind_eq_bind,Option.bind_some,H7,aD2,Option.bind_assoc]
    split
    · split
      · refine congrArg (Option.bind _) (funext fun y3=>?_)
        exact aTo (k:=fun y=>(wB _ _ _ _ y).bind _)
      · rfl
    · rfl
theorem aXa (x:aB) (ox:okGPExpr x) (hz:bM x≤1048576) (HX:∀ y ∈ x.kids,OkX y) (HP:∀ y ∈ x.sub,OkP y) (D1:∀ y ∈ x.kids,DX y) (D2:∀ y ∈ x.sub,DP y):DX x:=by
  have he:=(aMx x ox hz HX HP).2
  have hZ:=aB4 x
  have h1:=(D9 x.kind).2
  refine ⟨?_,by rw [he]; simp only [List.length_append]; omega⟩
  rw [he]
  obtain ⟨a0,a1,a2,⟨b0,b1,b2⟩,a4,a5,a6,a7⟩:=x
  have ho:okI a0∧okI a1∧okI b0∧okI b1∧okI a4∧okI a5:=by
    unfold okGPExpr at ox
    exact ⟨ox.1,ox.2.1,ox.2.2.2.1.1,ox.2.2.2.1.2.1,ox.2.2.2.2.1,ox.2.2.2.2.2.1⟩
  obtain ⟨o1,o2,o3,o4,o5,o6⟩:=ho
  dsimp only at hZ D1 D2 ⊢
  refine Dec.congr (g:=fun st=>_) ?_ (fun st=>by rw [qV])
  refine (rV _ o1).bind ?_; dsimp only
  refine (rV _ o2).bind ?_; dsimp only
  refine (aJv _).bind ?_; dsimp only
  refine (rV _ o3).bind ?_; dsimp only
  refine (rV _ o4).bind ?_; dsimp only
  refine (aKz _).bind ?_; dsimp only
  refine (rV _ o5).bind ?_; dsimp only
  refine (rV _ o6).bind ?_; dsimp only
  refine (aC4 _ (by omega) D1).bind ?_; dsimp only
  have:=zV (p:=a7) (f:=eP) (g:=fun st=>wG st) (by':=160)
    (LI:=fun x st acc=>(xQ a6 x st.s st.at_ st.failed a0 (a1,(a2,(b0,(b1,(b2,(a4,(a5,acc)))))))).bind fun y10=>some (aB.mk y10.2.1 y10.2.2.1 y10.2.2.2.1 (bL.mk y10.2.2.2.2.1 y10.2.2.2.2.2.1 y10.2.2.2.2.2.2.1) y10.2.2.2.2.2.2.2.1 y10.2.2.2.2.2.2.2.2.1 a6 y10.2.2.2.2.2.2.2.2.2,y10.1))
    (KI:=fun acc st=>some (aB.mk a0 a1 a2 (bL.mk b0 b1 b2) a4 a5 a6 acc,st)) (e:=[]) (w:=aB.mk a0 a1 a2 (bL.mk b0 b1 b2) a4 a5 a6 a7) (by omega) (by omega) (fun y hy=>(D2 y hy).2) (fun y hy=>(D2 y hy).1) (fun x st acc=>?_) (Dec.pure _)
  · rw [List.append_nil] at this
    refine this.congr fun st=>?_
    rw [aDc]
    simp only [Option.bind_eq_bind,Option.bind_assoc]
  · show (xQ _ _ _ _ _ _ _).bind _=_
    rw [xQ]
    simp only [Option.bind_eq_bind,Option.bind_some,H7,aBk,Option.bind_assoc]
theorem aU6 (q : aV) (oq : okGPlan q) (hz : fI q ≤ 1048576) (HO : ∀ l ∈ q.on_, ∀ y ∈ l, OkX y) (HW : ∀ y ∈ q.where_, OkX y) (HR : ∀ k ∈ q.order, OkX k.expr) (HI : ∀ y ∈ q.items, OkX y)
    (D1:∀ l ∈ q.on_,∀ y ∈ l,DX y) (D2:∀ y ∈ q.where_,DX y) (D3:∀ k ∈ q.order,DX k.expr) (D4:∀ y ∈ q.items,DX y):DP q:=by
  have he:=(aO3 q oq hz HO HW HR HI).2
  have hZ:=aCg q
  have h1:=(D9 (q.tables.length:Int)).2
  refine ⟨?_,by rw [he]; simp only [List.length_append]; omega⟩
  rw [he]
  obtain ⟨a0,a1,a2,a3,a4,a5,a6,a7⟩:=q
  have ho:(∀ n ∈ a0,okI n)∧okI a7:=by
    unfold okGPlan at oq
    exact ⟨oq.1.2,oq.2.2.2.2.2.2.2⟩
  obtain ⟨o1,o2⟩:=ho
  dsimp only at hZ D1 D2 D3 D4 ⊢
  have l0:a0.length≤zL z0 a0:=by unfold zL; omega
  have l5:a5.length≤zL List.length a5:=by unfold zL; omega
  have hON:∀ l ∈ a1,l.length≤1048576:=fun l hl=>by
    have:=gX (z:=zL bM) hl
    have:l.length≤zL bM l:=by unfold zL; omega
    omega
  -- names,distinct,limit
  have t5:Dec (fun st=>mW st a0 a1 a2 a3 a4 false 0>>=fun y6=>jJ y6.1>>=fun y7=>gK y7.2>>=fun y8=>some (aV.mk a0 a1 a2 a3 a4 y6.2.2.2 y7.1 y8.1,y8.2)) (dW (a5.length:Int)++(a5.flatMap jY++(mQ a6++dW a7))) (aV.mk a0 a1 a2 a3 a4 a5 a6 a7):=by
    have:=zV (p:=a5) (f:=jY) (g:=fun st=>qZ st) (by':=16)
      (LI:=fun x st acc=>(vN a0 a1 a2 a3 a4 x st.s st.at_ st.failed false 0 acc).bind fun y6=>jJ y6.1>>=fun y7=>gK y7.2>>=fun y8=>some (aV.mk a0 a1 a2 a3 a4 y6.2.2.2 y7.1 y8.1,y8.2))
      (KI:=fun acc st=>jJ st>>=fun y7=>gK y7.2>>=fun y8=>some (aV.mk a0 a1 a2 a3 a4 acc y7.1 y8.1,y8.2)) (e:=mQ a6++dW a7) (w:=aV.mk a0 a1 a2 a3 a4 a5 a6 a7) (by omega) (by omega) (fun y _=>by have:=(D9 (y.length:Int)).2; simp only [jY,List.length_append]; omega) (fun y _=>aKz y) (fun x st acc=>?_) ?_
    · refine this.congr fun st=>?_
      rw [mW]
      simp only [Option.bind_eq_bind,Option.bind_assoc]
    · show (vN _ _ _ _ _ _ _ _ _ _ _ _).bind _=_
      rw [vN]
      simp only [Option.bind_eq_bind,Option.bind_some,H7,aA4,Option.bind_assoc]
    · refine (aJv a6).bind ?_; dsimp only
      exact (rV a7 o2).last fun st=>rfl
  have t4 : Dec (fun st => rH st a0 a1 a2 false 0 >>= fun y4 => jR y4.1 >>= fun y5 => mW y5.2 a0 a1 a2 y4.2.2.2 y5.1 y4.2.1 y4.2.2.1 >>= fun y6 => jJ y6.1 >>= fun y7 => gK y7.2 >>= fun y8 => some (aV.mk a0 a1 a2 y4.2.2.2 y5.1 y6.2.2.2 y7.1 y8.1, y8.2))
      (dW (a3.length:Int)++(a3.flatMap pY++(jG a4++(dW (a5.length:Int)++(a5.flatMap jY++(mQ a6++dW a7)))))) (aV.mk a0 a1 a2 a3 a4 a5 a6 a7):=by
    have:=zV (p:=a3) (f:=pY) (g:=fun st=>(qV st)>>=fun y18=>(jJ y18.2)>>=fun y19=>some (bO.mk y18.1 y19.1,y19.2)) (by':=128)
      (LI:=fun x st acc=>(yJ a0 a1 a2 x st.s st.at_ (st.failed,(false,(0,acc)))).bind fun y4=>jR y4.1>>=fun y5=>mW y5.2 a0 a1 a2 y4.2.2.2 y5.1 y4.2.1 y4.2.2.1>>=fun y6=>jJ y6.1>>=fun y7=>gK y7.2>>=fun y8=>some (aV.mk a0 a1 a2 y4.2.2.2 y5.1 y6.2.2.2 y7.1 y8.1,y8.2))
      (KI:=fun acc st=>jR st>>=fun y5=>mW y5.2 a0 a1 a2 acc y5.1 false 0>>=fun y6=>jJ y6.1>>=fun y7=>gK y7.2>>=fun y8=>some (aV.mk a0 a1 a2 acc y5.1 y6.2.2.2 y7.1 y8.1,y8.2)) (e:=jG a4++(dW (a5.length:Int)++(a5.flatMap jY++(mQ a6++dW a7)))) (w:=aV.mk a0 a1 a2 a3 a4 a5 a6 a7) (by omega) (by omega) (fun y hy=>by have:=(D3 y hy).2; simp only [pY,List.length_append]; omega) (fun y hy=>?_) (fun x st acc=>?_) ?_
    · refine this.congr fun st=>?_
      rw [rH]
      simp only [Option.bind_eq_bind,Option.bind_assoc]
    · refine (D3 y hy).1.bind ?_; dsimp only
      refine (aJv y.desc).last fun st=>?_
      obtain ⟨k0,k1⟩:=y; rfl
    · show (yJ _ _ _ _ _ _ _).bind _=_
      rw [yJ]
      simp only [Option.bind_eq_bind,Option.bind_some,H7,aAa,Option.bind_assoc]
    · exact (aC4 a4 (by omega) D4).bind t5
  have t2 : Dec (fun st => xA st a0 false 0 >>= fun y2 => jR y2.1 >>= fun y3 => rH y3.2 a0 y2.2.2.2 y3.1 y2.2.1 y2.2.2.1 >>= fun y4 => jR y4.1 >>= fun y5 => mW y5.2 a0 y2.2.2.2 y3.1 y4.2.2.2 y5.1 y4.2.1 y4.2.2.1 >>= fun y6 => jJ y6.1 >>= fun y7 => gK y7.2 >>= fun y8 => some (aV.mk a0 y2.2.2.2 y3.1 y4.2.2.2 y5.1 y6.2.2.2 y7.1 y8.1, y8.2))
      (dW (a1.length:Int)++(a1.flatMap jG++(jG a2++(dW (a3.length:Int)++(a3.flatMap pY++(jG a4++(dW (a5.length:Int)++(a5.flatMap jY++(mQ a6++dW a7))))))))) (aV.mk a0 a1 a2 a3 a4 a5 a6 a7):=by
    have:=zV (p:=a1) (f:=jG) (g:=fun st=>jR st) (by':=24)
      (LI:=fun x st acc=>(wY a0 x st.s st.at_ st.failed false (0,acc)).bind fun y2=>jR y2.1>>=fun y3=>rH y3.2 a0 y2.2.2.2 y3.1 y2.2.1 y2.2.2.1>>=fun y4=>jR y4.1>>=fun y5=>mW y5.2 a0 y2.2.2.2 y3.1 y4.2.2.2 y5.1 y4.2.1 y4.2.2.1>>=fun y6=>jJ y6.1>>=fun y7=>gK y7.2>>=fun y8=>some (aV.mk a0 y2.2.2.2 y3.1 y4.2.2.2 y5.1 y6.2.2.2 y7.1 y8.1,y8.2))
      (KI:=fun acc st=>jR st>>=fun y3=>rH y3.2 a0 acc y3.1 false 0>>=fun y4=>jR y4.1>>=fun y5=>mW y5.2 a0 acc y3.1 y4.2.2.2 y5.1 y4.2.1 y4.2.2.1>>=fun y6=>jJ y6.1>>=fun y7=>gK y7.2>>=fun y8=>some (aV.mk a0 acc y3.1 y4.2.2.2 y5.1 y6.2.2.2 y7.1 y8.1,y8.2))
      (e:=jG a2++(dW (a3.length:Int)++(a3.flatMap pY++(jG a4++(dW (a5.length:Int)++(a5.flatMap jY++(mQ a6++dW a7))))))) (w:=aV.mk a0 a1 a2 a3 a4 a5 a6 a7) (by omega) (by omega) (fun y _=>aRh y) (fun y hy=>aC4 y (hON y hy) (D1 y hy)) (fun x st acc=>?_) ?_
    · refine this.congr fun st=>?_
      rw [xA]
      simp only [Option.bind_eq_bind,Option.bind_assoc]
    · show (wY _ _ _ _ _ _ _).bind _=_
      rw [wY]
      simp only [Option.bind_eq_bind,Option.bind_some,H7,aBs,Option.bind_assoc]
    · exact (aC4 a2 (by omega) D2).bind t4
  have := zV (p := a0) (f := dW) (g := fun st => gK st) (by' := 8)
      (LI:=fun x st acc=>(vQ x st.s st.at_ st.failed false 0 acc).bind fun y1=>xA y1.1 y1.2.2.2 y1.2.1 y1.2.2.1>>=fun y2=>jR y2.1>>=fun y3=>rH y3.2 y1.2.2.2 y2.2.2.2 y3.1 y2.2.1 y2.2.2.1>>=fun y4=>jR y4.1>>=fun y5=>mW y5.2 y1.2.2.2 y2.2.2.2 y3.1 y4.2.2.2 y5.1 y4.2.1 y4.2.2.1>>=fun y6=>jJ y6.1>>=fun y7=>gK y7.2>>=fun y8=>some (aV.mk y1.2.2.2 y2.2.2.2 y3.1 y4.2.2.2 y5.1 y6.2.2.2 y7.1 y8.1,y8.2))
      (KI:=fun acc st=>xA st acc false 0>>=fun y2=>jR y2.1>>=fun y3=>rH y3.2 acc y2.2.2.2 y3.1 y2.2.1 y2.2.2.1>>=fun y4=>jR y4.1>>=fun y5=>mW y5.2 acc y2.2.2.2 y3.1 y4.2.2.2 y5.1 y4.2.1 y4.2.2.1>>=fun y6=>jJ y6.1>>=fun y7=>gK y7.2>>=fun y8=>some (aV.mk acc y2.2.2.2 y3.1 y4.2.2.2 y5.1 y6.2.2.2 y7.1 y8.1,y8.2))
      (e:=dW (a1.length:Int)++(a1.flatMap jG++(jG a2++(dW (a3.length:Int)++(a3.flatMap pY++(jG a4++(dW (a5.length:Int)++(a5.flatMap jY++(mQ a6++dW a7))))))))) (w:=aV.mk a0 a1 a2 a3 a4 a5 a6 a7) (by omega) (by omega) (fun y _=>(D9 y).2) (fun y hy=>rV y (o1 y hy)) (fun x st acc=>?_) t2
  · refine this.congr fun st=>?_
    rw [wG,U9]
    simp only [Option.bind_eq_bind,Option.bind_assoc]
  · show (vQ _ _ _ _ _ _ _).bind _=_
    rw [vQ]
    simp only [Option.bind_eq_bind,Option.bind_some,H7,aA5,Option.bind_assoc]
theorem aM5:∀ n:Nat,(∀ x:aB,okGPExpr x→bM x<n→bM x≤1048576→DX x)∧(∀ q:aV,okGPlan q→fI q<n→fI q≤1048576→DP q):=by
  intro n
  induction n with
  | zero=>exact ⟨fun x _ h _=>by omega,fun q _ h _=>by omega⟩
  | succ n ih =>
    have cx:∀ y,okGPExpr y→bM y≤1048576→OkX y:=fun y h1 h2=>(aD4 _).1 y h1 (Nat.lt_succ_self _) h2
    have cp:∀ y,okGPlan y→fI y≤1048576→OkP y:=fun y h1 h2=>(aD4 _).2 y h1 (Nat.lt_succ_self _) h2
    refine ⟨fun x ox hn hz=>?_,fun q oq hn hz=>?_⟩
    · have hZ:=aB4 x
      have ok:okLGPExpr x.kids∧okLGPlan x.sub:=by
        obtain ⟨a0,a1,a2,a3,a4,a5,a6,a7⟩:=x
        unfold okGPExpr at ox
        exact ⟨ox.2.2.2.2.2.2.1.2,ox.2.2.2.2.2.2.2.2⟩
      have k1:∀ y ∈ x.kids,okGPExpr y∧bM y<n∧bM y≤1048576:=fun y hy=>by
        have:=gX (z:=bM) hy
        have:=List.length_pos_of_mem hy
        exact ⟨okLGPExpr_mem ok.1 y hy,by omega,by omega⟩
      have k2:∀ y ∈ x.sub,okGPlan y∧fI y<n∧fI y≤1048576:=fun y hy=>by
        have:=gX (z:=fI) hy
        have:=List.length_pos_of_mem hy
        exact ⟨okLGPlan_mem ok.2 y hy,by omega,by omega⟩
      exact aXa x ox hz (fun y hy=>cx y (k1 y hy).1 (k1 y hy).2.2) (fun y hy=>cp y (k2 y hy).1 (k2 y hy).2.2) (fun y hy=>ih.1 y (k1 y hy).1 (k1 y hy).2.1 (k1 y hy).2.2) (fun y hy=>ih.2 y (k2 y hy).1 (k2 y hy).2.1 (k2 y hy).2.2)
    · have hZ:=aCg q
      have ok:okLLGPExpr q.on_∧okLGPExpr q.where_∧okLGPSort q.order∧okLGPExpr q.items:=by
        obtain ⟨a0,a1,a2,a3,a4,a5,a6,a7⟩:=q
        unfold okGPlan at oq
        exact ⟨oq.2.1.2,oq.2.2.1.2,oq.2.2.2.1.2,oq.2.2.2.2.1.2⟩
      have k1:∀ l ∈ q.on_,∀ y ∈ l,okGPExpr y∧bM y<n∧bM y≤1048576:=fun l hl y hy=>by
        have h1:=gX (z:=zL bM) hl
        have h2:=gX (z:=bM) hy
        have h3:=List.length_pos_of_mem hl
        unfold zL at h1 hZ
        exact ⟨okLLGPExpr_mem ok.1 l hl y hy,by omega,by omega⟩
      have k2:∀ y ∈ q.where_,okGPExpr y∧bM y<n∧bM y≤1048576:=fun y hy=>by
        have:=gX (z:=bM) hy
        have:=List.length_pos_of_mem hy
        exact ⟨okLGPExpr_mem ok.2.1 y hy,by omega,by omega⟩
      have k3:∀ k ∈ q.order,okGPExpr k.expr∧bM k.expr<n∧bM k.expr≤1048576:=fun k hk=>by
        have:=gX (z:=fun k:bO=>bM k.expr) hk
        have:=List.length_pos_of_mem hk
        have h4:=okLGPSort_mem ok.2.2.1 k hk
        have h5:okGPExpr k.expr:=by obtain ⟨k0,k1⟩:=k; unfold okGPSort at h4; exact h4.1
        exact ⟨h5,by omega,by omega⟩
      have k4:∀ y ∈ q.items,okGPExpr y∧bM y<n∧bM y≤1048576:=fun y hy=>by
        have:=gX (z:=bM) hy
        have:=List.length_pos_of_mem hy
        exact ⟨okLGPExpr_mem ok.2.2.2 y hy,by omega,by omega⟩
      exact aU6 q oq hz (fun l hl y hy=>cx y (k1 l hl y hy).1 (k1 l hl y hy).2.2) (fun y hy=>cx y (k2 y hy).1 (k2 y hy).2.2) (fun y hy=>cx _ (k3 y hy).1 (k3 y hy).2.2) (fun y hy=>cx y (k4 y hy).1 (k4 y hy).2.2)
        (fun l hl y hy=>ih.1 y (k1 l hl y hy).1 (k1 l hl y hy).2.1 (k1 l hl y hy).2.2) (fun y hy=>ih.1 y (k2 y hy).1 (k2 y hy).2.1 (k2 y hy).2.2) (fun y hy=>ih.1 _ (k3 y hy).1 (k3 y hy).2.1 (k3 y hy).2.2) (fun y hy=>ih.1 y (k4 y hy).1 (k4 y hy).2.1 (k4 y hy).2.2)
theorem sG (c:aJ) (h:okCur c):Yes (jP c) fun r=>okI r.1∧okCur r.2:=by
  obtain ⟨x,c1,e1,_,_,o1⟩:=yX c 3 h
  obtain ⟨y,c2,e2,hy,o2⟩:=aTw c1 [0,1,(-1),63,64,(-64),(-65),127,128,16383,16384,9223372036854775807,(-9223372036854775808),4611686018427387904] (by decide) o1
  obtain ⟨z,c3,e3,z0,z1,o3⟩:=yX c1 1000000 o1
  obtain ⟨w,c4,e4,w0,w1,o4⟩:=yX c1 20 o1
  have hyI:okI y:=by
    have:∀ v ∈ ([0,1,(-1),63,64,(-64),(-65),127,128,16383,16384,9223372036854775807,(-9223372036854775808),4611686018427387904]:List Int),-9223372036854775808≤v∧v≤9223372036854775807:=by decide
    exact this y hy
  have hz:=z1 (by decide)
  have hw:=w1 (by decide)
  unfold jP
  simp only [e1,e2,e3,e4,Option.bind_eq_bind,Option.bind_some]
  split
  · exact ⟨_,rfl,hyI,o2⟩
  split
  · refine ⟨_,rfl,?_,o3⟩
    unfold okI; dsimp only; rw [eY (by omega) (by omega)]; omega
  · refine ⟨_,rfl,?_,o4⟩
    unfold okI; dsimp only; omega
theorem S9 (c:aJ) (l:List (List UInt8)) (hl:0<l.length) (h:okCur c):Yes (mO c l) fun r=>r.1 ∈ l∧okCur r.2:=by
  obtain ⟨x,c',e,h0,h1⟩:=aW8 c l hl h; exact ⟨_,e,h0,h1⟩
def okV (B:Nat) (r:bL×aJ):Prop:=okGValue r.1∧r.1.text.length≤B∧okCur r.2
theorem okV_mk {B:Nat} {k n:Int} {t:List UInt8} {c:aJ} (h1:okI k) (h2:okI n) (h3:t.length≤B) (hB:B≤1000) (h:okCur c):okV B (⟨k,n,t⟩,c):=⟨⟨h1,h2,by unfold okS; dsimp only; omega⟩,h3,h⟩
theorem okI_small {n:Int} (h0 : -1000≤n) (h1:n≤1000):okI n:=by unfold okI; omega
theorem aPt (c:aJ) (h:okCur c):Yes (vJ c) (okV 4):=by
  unfold vJ
  refine Yes.bind (jV _ _ h) fun r ⟨_,_,k⟩=>Yes.ite (fun _=>?_) fun _=>Yes.ite (fun _=>?_) fun _=>Yes.ite (fun _=>?_) fun _=>Yes.ite (fun _=>?_) fun _=>?_
  · exact Yes.some (okV_mk (okI_small (by omega) (by omega)) (okI_small (by omega) (by omega)) (by simp) (by omega) k)
  · refine Yes.bind (S9 _ _ (by decide) k) fun r ⟨hm,k⟩=>?_
    have:∀ v ∈ ([[],[97],[98],[105,116,39,115],[97,98],[255]]:List (List UInt8)),v.length≤4:=by decide
    exact Yes.bind (Q:=fun v=>v=⟨2,0,r.1⟩) ⟨_,rfl,rfl⟩ fun v hv=>Yes.some (by subst hv; exact okV_mk (okI_small (by omega) (by omega)) (okI_small (by omega) (by omega)) (this _ hm) (by omega) k)
  · refine Yes.bind (lU _ _ k) fun r k=>?_
    have:Yes (aBu r.1) fun v=>okI v.kind∧okI v.num∧v.text=[]:=by
      cases r.1
      · exact ⟨_,rfl,okI_small (by decide) (by decide),okI_small (by decide) (by decide),rfl⟩
      · exact ⟨_,rfl,okI_small (by decide) (by decide),okI_small (by decide) (by decide),rfl⟩
    refine Yes.bind this fun v ⟨h1,h2,h3⟩=>Yes.some ?_
    obtain ⟨a,b,t⟩:=v
    dsimp only at h1 h2 h3
    subst h3
    exact okV_mk h1 h2 (by simp) (by omega) k
  · refine Yes.bind (sG _ k) fun r ⟨h1,k⟩=>?_
    exact Yes.bind (Q:=fun v=>v=⟨1,r.1,[]⟩) ⟨_,rfl,rfl⟩ fun v hv=>Yes.some (by subst hv; exact okV_mk (okI_small (by omega) (by omega)) h1 (by simp) (by omega) k)
  · refine Yes.bind (jV _ _ k) fun r ⟨h0,h1,k⟩=>?_
    have:=h1 (by decide)
    exact Yes.bind (Q:=fun v=>v=⟨1,IntKind.wrap .i64 (r.1 - 2),[]⟩) ⟨_,rfl,rfl⟩ fun v hv=>Yes.some (by subst hv; exact okV_mk (okI_small (by omega) (by omega)) (by rw [eY (by omega) (by omega)]; exact okI_small (by omega) (by omega)) (by simp) (by omega) k)
theorem aZm (c:aJ) (h:okCur c):Yes (wX c) (okV 4):=by
  unfold wX Q7
  refine Yes.bind (aPt _ h) fun r ⟨⟨h1,h2,h3⟩,h4,k⟩=>Yes.bind (Q:=fun _=>True) ⟨_,rfl,trivial⟩ fun b _=>Yes.ite (fun _=>Yes.some ?_) fun _=>Yes.some ?_
  · exact okV_mk h1 (by unfold okI; omega) h4 (by omega) k
  · exact okV_mk h1 h2 h4 (by omega) k
theorem aTd (y:bL×aJ) (hy:okV 4 y):∀ n (t:List UInt8) (b:List Int) (i h:Int),400≤n+t.length→t.length≤810→okCur ⟨b,i,h⟩→Yes (wH y t b i h) (okV 810):=by
  obtain ⟨⟨h1,h2,_⟩,_,_⟩:=hy
  intro n
  have fin:∀ (t:List UInt8) (b:List Int) (i h:Int),t.length≤810→okCur ⟨b,i,h⟩→Yes (pX y.1.kind y.1.num t b i h) (okV 810):=fun t b i h ht ho=>by
    unfold pX
    exact Yes.some (okV_mk h1 h2 ht (by omega) ho)
  induction n with
  | zero =>
    intro t b i h ht hl ho
    rw [wH]
    refine Yes.bind (lU _ _ ho) fun r k=>Yes.bind (Q:=fun q=>q=false) ⟨_,rfl,by split <;> simp; omega⟩ fun q hq=>?_
    subst hq
    exact fin _ _ _ _ hl k
  | succ n ih =>
    intro t b i h ht hl ho
    rw [wH]
    refine Yes.bind (lU _ _ ho) fun r k=>Yes.bind (Q:=fun q=>q=true→t.length<400) ⟨_,rfl,fun hq=>by cases hr:r.1 <;> simp [hr] at hq; omega⟩ fun q hq=>Yes.ite (fun hq2=>?_) fun _=>fin _ _ _ _ hl k
    have:=hq hq2
    refine Yes.bind (Q:=fun z=>z=t++t) ⟨_,aQ9 (by omega),rfl⟩ fun z hz=>?_
    subst hz
    refine Yes.bind (Q:=fun z=>z=(t++t)++[48,49,50,51,52,53,54,55,56,57]) ⟨_,aQ9 (by simp; omega),rfl⟩ fun z hz=>?_
    subst hz
    exact ih _ _ _ _ (by simp; omega) (by simp; omega) k
theorem aSo (c:aJ) (h:okCur c):Yes (zR c) (okV 810):=by
  unfold zR
  refine Yes.bind (aPt _ h) fun y hy=>?_
  have hy':=hy
  obtain ⟨⟨h1,h2,h3⟩,h4,k⟩:=hy
  refine Yes.bind (jV _ _ k) fun r ⟨_,_,k⟩=>Yes.ite (fun _=>?_) fun _=>Yes.ite (fun _=>?_) fun _=>Yes.ite (fun _=>?_) fun _=>?_
  · refine Yes.bind (jV _ _ k) fun r ⟨a0,a1,k⟩=>?_
    have:=a1 (by decide)
    unfold pX
    exact Yes.some (okV_mk (by rw [eY (by omega) (by omega)]; exact okI_small (by omega) (by omega)) h2 (by omega) (by omega) k)
  · refine Yes.bind (sG _ k) fun r ⟨a0,k⟩=>?_
    unfold pX
    exact Yes.some (okV_mk h1 a0 (by omega) (by omega) k)
  · refine Yes.bind (S9 _ _ (by decide) k) fun r ⟨hm,k⟩=>?_
    have:∀ v ∈ ([[120],[],[108,111,110,103]]:List (List UInt8)),v.length≤4:=by decide
    have:=this _ hm
    exact aTd y hy' 400 _ _ _ _ (by omega) (by omega) k
  · unfold pX
    exact Yes.some (okV_mk h1 h2 (by omega) (by omega) k)
theorem aLw (c:aJ) (h:okCur c):Yes (uV c) fun r=>r.1.length≤8∧okCur r.2:=by
  unfold uV
  refine Yes.bind (lU _ _ h) fun r k=>Yes.ite (fun _=>?_) fun _=>?_
  · refine Yes.bind (S9 _ _ (by decide) k) fun r ⟨hm,k⟩=>Yes.some ⟨?_,k⟩
    have:∀ v ∈ ([[97,32,98],[102,114,111,109],[83,101,108,101,99,116],[49,120],[113,34,113],[0],[34],[105,116,39,115],[120,46,121],[45]]:List (List UInt8)),v.length≤8:=by decide
    exact this _ hm
  · refine Yes.bind (S9 _ _ (by decide) k) fun r ⟨hm,k⟩=>Yes.some ⟨?_,k⟩
    have:∀ v ∈ ([[97],[98],[99],[116],[117],[118],[105,100],[110,97,109,101],[65],[95,120,49]]:List (List UInt8)),v.length≤8:=by decide
    exact this _ hm
theorem aXf (p:Int) (hp:p≤1000):∀ (n:Nat) (x:List Int) (i:Int) (b:List Int) (j h:Int) y c',p≤n+i→0≤i→x.length=i.toNat→i≤1000→okCur ⟨b,j,h⟩→pV p x i b j h=some (y,c')→y.length≤1000:=by
  intro n
  induction n with
  | zero =>
    intro x i b j h y c' h1 h2 h3 h4 _ he
    rw [pV,if_neg (by simp; omega)] at he
    simp at he
    rw [← he.1]; omega
  | succ n ih =>
    intro x i b j h y c' h1 h2 h3 hi0 h4 he
    rw [pV] at he
    by_cases hi:i<p
    · rw [if_pos (by simpa using hi)] at he
      obtain ⟨v,c1,e1,_,_,e4⟩:=yD ⟨b,j,h⟩ h4
      simp only [e1,Option.bind_eq_bind,Option.bind_some] at he
      rw [oQ (by simp; omega),eY (by omega) (by omega)] at he
      simp only [Option.bind_some] at he
      exact ih (x++[IntKind.wrap .u8 v]) (i+1) c1.b c1.i c1.h y c' (by omega) (by omega) (by simp [h3]; omega) (by omega) e4 he
    · rw [if_neg (by simpa using hi)] at he
      simp at he
      rw [← he.1]; omega
theorem aYw (c:aJ) (h:okCur c):Yes (zB c) fun r=>r.1.length≤1000∧okCur r.2:=by
  unfold zB
  refine Yes.bind (jV _ _ h) fun r ⟨_,_,k⟩=>Yes.ite (fun _=>?_) fun _=>Yes.ite (fun _=>?_) fun _=>Yes.ite (fun _=>?_) fun _=>?_
  · refine Yes.bind (S9 _ _ (by decide) k) fun r ⟨hm,k⟩=>Yes.some ⟨?_,k⟩
    have:∀ v ∈ ([[],[97,98,99,100,101,102,103,104,105,106,107,108,109,110,111,112,113,114,115,116],[97,98,99,100,101,102,103,104,105,106,107,108,109,110,111,112,113,114,115,116,117],[108,105,109,105,116],[76,73,77,73,84,83],[65,83,99],[57],[97,57],[195,169]]:List (List UInt8)),v.length≤1000:=by decide
    exact this _ hm
  · refine Yes.bind (Q:=fun l:List (List UInt8)=>l.length=29∧∀ v ∈ l,v.length≤1000) ⟨_,rfl,by decide,by decide⟩ fun l ⟨hl,hm⟩=>Yes.bind (jV _ _ k) fun r ⟨h0,h1,k⟩=>?_
    obtain ⟨v,hv0,hv⟩:=aCm (l:=l) h0 (by rw [hl]; exact h1 (by decide))
    exact Yes.bind (Q:=fun z=>z=v) ⟨v,hv,rfl⟩ fun z hz=>Yes.some ⟨by subst hz; exact hm _ hv0,k⟩
  · refine Yes.bind (jV _ _ k) fun r ⟨h0,h1,k⟩=>?_
    have h1':=h1 (by decide)
    obtain ⟨y,c3,e3,l3,k3⟩:=aQh r.1 (by omega) 5 [] 0 r.2.b r.2.i r.2.h (by omega) (by omega) rfl (by omega) (by simp) k
    have hlen:=aXf r.1 (by omega) 5 [] 0 r.2.b r.2.i r.2.h y c3 (by omega) (by omega) rfl (by omega) k e3
    have hs:=yZ (l:=y) l3
    refine Yes.bind (Q:=fun z=>z=(y,c3)) ⟨_,e3,rfl⟩ fun z hz=>?_
    subst hz
    exact Yes.bind (Q:=fun t:List UInt8=>t.length≤1000) ⟨_,hs,by simpa using hlen⟩ fun t ht=>Yes.some ⟨ht,k3⟩
  · exact Yes.bind (aLw _ k) fun r ⟨h1,k⟩=>Yes.some ⟨by show r.1.length≤1000; omega,k⟩
theorem okLX_of {l:List aB} (h:∀ y ∈ l,okGPExpr y):okLGPExpr l:=by
  induction l with
  | nil=>unfold okLGPExpr; trivial
  | cons x l ih=>unfold okLGPExpr; exact ⟨h x (by simp),ih fun y hy=>h y (List.mem_cons_of_mem _ hy)⟩
theorem okLP_of {l:List aV} (h:∀ y ∈ l,okGPlan y):okLGPlan l:=by
  induction l with
  | nil=>unfold okLGPlan; trivial
  | cons x l ih=>unfold okLGPlan; exact ⟨h x (by simp),ih fun y hy=>h y (List.mem_cons_of_mem _ hy)⟩
theorem okLK_of {l:List bO} (h:∀ y ∈ l,okGPExpr y.expr):okLGPSort l:=by
  induction l with
  | nil=>unfold okLGPSort; trivial
  | cons x l ih =>
    unfold okLGPSort
    refine ⟨?_,ih fun y hy=>h y (List.mem_cons_of_mem _ hy)⟩
    have:=h x (by simp)
    obtain ⟨a,b⟩:=x
    unfold okGPSort; exact ⟨this,trivial⟩
theorem okLLX_of {l:List (List aB)} (h:∀ y ∈ l,y.length≤1048576∧∀ x ∈ y,okGPExpr x):okLLGPExpr l:=by
  induction l with
  | nil=>unfold okLLGPExpr; trivial
  | cons x l ih =>
    unfold okLLGPExpr
    have:=h x (by simp)
    exact ⟨⟨by omega,okLX_of this.2⟩,ih fun y hy=>h y (List.mem_cons_of_mem _ hy)⟩
theorem mkE {a b:Int} {q:Bool} {v:bL} {u t:Int} {ks:List aB} {ss:List aV} (h1:okI a) (h2:okI b) (h3:okGValue v) (h4:okI u) (h5:okI t) (k1:ks.length≤1048576) (k2:∀ y ∈ ks,okGPExpr y) (s1:ss.length≤1048576) (s2:∀ y ∈ ss,okGPlan y):okGPExpr (aB.mk a b q v u t ks ss):=by
  unfold okGPExpr
  exact ⟨h1,h2,trivial,h3,h4,h5,⟨by omega,okLX_of k2⟩,by omega,okLP_of s2⟩
theorem wM (a b:Int) (q:Bool) (v:bL) (u t:Int) (ks:List aB) (ss:List aV):bM (aB.mk a b q v u t ks ss)=v.text.length+zL bM ks+zL fI ss:=by
  obtain ⟨v0,v1,v2⟩:=v
  simp only [bM,aK2,xN,aJo,zL]
theorem sF {α:Type} {z:α→Nat} {B n:Nat}:∀ {l:List α},l.length≤n→(∀ y ∈ l,z y≤B)→zL z l≤n * (1+B):=by
  have key:∀ l:List α,(∀ y ∈ l,z y≤B)→zL z l≤l.length * (1+B):=fun l=>by
    induction l with
    | nil=>simp [zL]
    | cons x l ih =>
      intro h
      have h1:=ih fun y hy=>h y (List.mem_cons_of_mem _ hy)
      have h2:=h x (by simp)
      simp only [zL,List.length_cons,List.map_cons,List.sum_cons,Nat.add_mul,Nat.one_mul] at h1 ⊢
      omega
  intro l hl h
  exact Nat.le_trans (key l h) (Nat.mul_le_mul_right _ hl)
def FE (B:Nat) (x:aB):Prop:=okGPExpr x∧bM x≤B
def okE (B:Nat) (r:aB×aJ):Prop:=FE B r.1∧okCur r.2
def okKs (B:Nat) (r:List aB×aJ):Prop:=(r.1.length≤3∧∀ y ∈ r.1,FE B y)∧okCur r.2
theorem aQu (B : Nat) (d : Int) (m : Int) (hm : m ≤ 3) (H : ∀ c, okCur c → Yes (lZ c (IntKind.wrap .i64 (d - 1))) (okE B)) :
    ∀ (k:Nat) (i:Int) b j h (l:List aB),m≤k+i→0≤i→i≤3→(l.length:Int)≤i→(∀ y ∈ l,FE B y)→okCur ⟨b,j,h⟩→Yes (yO d m i b j h l) (okKs B):=by
  intro k
  induction k with
  | zero =>
    intro i b j h l h1 h2 h3 h4 h5 h6
    rw [yO,if_neg (by simp; omega)]
    exact Yes.some ⟨⟨by show l.length≤3; omega,h5⟩,h6⟩
  | succ k ih =>
    intro i b j h l h1 h2 h3 h4 h5 h6
    rw [yO]
    refine Yes.ite (fun hi=>?_) fun _=>Yes.some ⟨⟨by show l.length≤3; omega,h5⟩,h6⟩
    have hi':i<m:=by simpa using hi
    refine Yes.bind (H _ h6) fun r ⟨hz,hr⟩=>Yes.bind (oO (by simp; omega)) fun y hy=>?_
    subst hy
    rw [eY (by omega) (by omega)]
    refine ih _ _ _ _ _ (by omega) (by omega) (by omega) (by simp; omega) (fun y hy=>?_) hr
    rcases List.mem_append.1 hy with hy | hy
    · exact h5 y hy
    · have:y=r.1:=by simpa using hy
      rw [this]; exact hz
theorem aHm (B:Nat) (d:Int) (m:Int) (hm:m≤3) (H:∀ c,okCur c→Yes (lZ c (IntKind.wrap .i64 (d - 1))) (okE B)) (c:aJ) (h:okCur c):Yes (mZ c d m) (okKs B):=by
  rw [mZ]
  exact aQu B d m hm H m.toNat 0 c.b c.i c.h [] (by omega) (by omega) (by omega) (by simp) (by simp) h
def okP (B:Nat) (r:aV×aJ):Prop:=(okGPlan r.1∧fI r.1≤40+8 * B∧0<r.1.items.length)∧okCur r.2
def pT (n:Int) (t:List Int):Prop:=(t.length:Int)≤n∧∀ x ∈ t,okI x
def pO (n:Int) (B:Nat) (o:List (List aB)):Prop:=(o.length:Int)≤n∧∀ l ∈ o,l.length≤1∧∀ y ∈ l,FE B y
def pL (n:Int) (B:Nat) (l:List aB):Prop:=(l.length:Int)≤n∧∀ y ∈ l,FE B y
def pN (n:Int) (l:List (List UInt8)):Prop:=(l.length:Int)≤n∧∀ s ∈ l,s.length≤8
def pK (B:Nat) (l:List bO):Prop:=l.length≤1∧∀ k ∈ l,FE B k.expr
theorem mem1 {α:Type} {x:α} {p:α→Prop} (hx:p x):∀ y ∈ [x],p y:=fun y hy=>by
  have:y=x:=by simpa using hy
  rw [this]; exact hx
theorem uN {α:Type} {l:List α} {x:α} {p:α→Prop} (h:∀ y ∈ l,p y) (hx:p x):∀ y ∈ l++[x],p y:=fun y hy=>by
  rcases List.mem_append.1 hy with hy | hy
  · exact h y hy
  · have:y=x:=by simpa using hy
    rw [this]; exact hx
theorem mkP {B : Nat} {t : List Int} {o : List (List aB)} {w i : List aB} {r : List bO} {n : List (List UInt8)} {d : Bool} {l : Int} (ht : pT 2 t) (ho : pO 2 B o) (hw : pL 3 B w) (hr : pK B r) (hi : pL 2 B i) (hn : pN 2 n) (hl : okI l) (hi0 : 0 < i.length) :
    okGPlan (aV.mk t o w r i n d l)∧fI (aV.mk t o w r i n d l)≤40+8 * B∧0<(aV.mk t o w r i n d l).items.length:=by
  obtain ⟨t1,t2⟩:=ht
  obtain ⟨o1,o2⟩:=ho
  obtain ⟨w1,w2⟩:=hw
  obtain ⟨r1,r2⟩:=hr
  obtain ⟨i1,i2⟩:=hi
  obtain ⟨n1,n2⟩:=hn
  refine ⟨?_,?_,hi0⟩
  · unfold okGPlan
    exact ⟨⟨by omega,t2⟩,⟨by omega,okLLX_of fun y hy=>⟨by have:=(o2 y hy).1; omega,fun x hx=>((o2 y hy).2 x hx).1⟩⟩,⟨by omega,okLX_of fun y hy=>(w2 y hy).1⟩,⟨by omega,okLK_of fun y hy=>(r2 y hy).1⟩,⟨by omega,okLX_of fun y hy=>(i2 y hy).1⟩,⟨by omega,fun s hs=>by have:=n2 s hs; unfold okS; omega⟩,trivial,hl⟩
  · have e1:fI (aV.mk t o w r i n d l)=zL z0 t+zL (zL bM) o+zL bM w+zL mM r+zL bM i+zL List.length n:=by simp only [fI,xN,aB3,aCu,zL]
    have a1:=sF (z:=z0) (B:=0) (n:=2) (l:=t) (by omega) (fun _ _=>by simp [z0])
    have a2:=sF (z:=zL bM) (B:=1 * (1+B)) (n:=2) (l:=o) (by omega) (fun y hy=>sF (o2 y hy).1 fun x hx=>((o2 y hy).2 x hx).2)
    have a3:=sF (z:=bM) (B:=B) (n:=3) (l:=w) (by omega) (fun y hy=>(w2 y hy).2)
    have a4:=sF (z:=mM) (B:=B) (n:=1) (l:=r) (by omega) (fun y hy=>by have:=(r2 y hy).2; obtain ⟨p,q⟩:=y; simpa only [mM] using this)
    have a5:=sF (z:=bM) (B:=B) (n:=2) (l:=i) (by omega) (fun y hy=>(i2 y hy).2)
    have a6:=sF (z:=List.length) (B:=8) (n:=2) (l:=n) (by omega) n2
    rw [e1]; omega
theorem aOt {B:Nat} {d:Int} (H:∀ c,okCur c→Yes (lZ c d) (okE B)) (HK:∀ c,okCur c→Yes (mZ c (IntKind.wrap .i64 (d+1)) 1) (okKs B)) (c:aJ) (h:okCur c):Yes (sV c d) (okP B):=by
  have J4:∀ y1 (w:List aB) n i o t b j g r,pL 3 B w→pN 2 n→pL 2 B i→0<i.length→pO 2 B o→pT 2 t→pK B r→okCur ⟨b,j,g⟩→Yes (H8 y1 w n i o t b j g r) (okP B):=fun y1 w n i o t b j g r hw hn hi hi0 ho ht hr k=>by
    unfold H8 aA0
    refine Yes.bind (lU _ _ k) fun q k=>Yes.ite (fun _=>?_) fun _=>?_
    · exact Yes.bind (sG _ k) fun q ⟨hq,k⟩=>Yes.some ⟨mkP ht ho hw hr hi hn hq hi0,k⟩
    · exact Yes.some ⟨mkP ht ho hw hr hi hn (okI_small (by omega) (by omega)) hi0,k⟩
  have J3:∀ y1 n i o t b j g (w:List aB),pL 3 B w→pN 2 n→pL 2 B i→0<i.length→pO 2 B o→pT 2 t→okCur ⟨b,j,g⟩→Yes (yG d y1 n i o t (b,(j,(g,w)))) (okP B):=fun y1 n i o t b j g w hw hn hi hi0 ho ht k=>by
    rw [yG]
    refine Yes.bind (lU _ _ k) fun q k=>Yes.ite (fun _=>?_) fun _=>?_
    · refine Yes.bind (H _ k) fun q ⟨hq,k⟩=>Yes.bind (lU _ _ k) fun q2 k=>Yes.bind (oO (by simp)) fun z hz=>?_
      subst hz
      exact J4 _ _ _ _ _ _ _ _ _ _ hw hn hi hi0 ho ht ⟨by simp,mem1 (p:=fun (k:bO)=>FE B k.expr) hq⟩ k
    · exact J4 _ _ _ _ _ _ _ _ _ _ hw hn hi hi0 ho ht ⟨by simp,by simp⟩ k
  have L2:∀ (y12:Int×aJ) y1 o t,0≤y12.1→y12.1<2→pO 2 B o→pT 2 t→∀ (m:Nat) (x:Int) b j g n i,2≤m+x→0≤x→x≤2→pN x n→pL x B i→x≤i.length→okCur ⟨b,j,g⟩→Yes (vU d y12 y1 o t x (b,(j,(g,(n,i))))) (okP B):=by
    intro y12 y1 o t y0 y2 ho ht m
    have e0:IntKind.wrap .i64 (1+y12.1)=1+y12.1:=eY (by omega) (by omega)
    have fin:∀ (x:Int) b j g n i,¬ x<1+y12.1→x≤2→pN x n→pL x B i→x≤i.length→okCur ⟨b,j,g⟩→Yes (vU d y12 y1 o t x (b,(j,(g,(n,i))))) (okP B):=by
      intro x b j g n i hx h2 hn hi hi0 k
      have hi0':0<i.length:=by omega
      rw [vU,e0,if_neg (by simpa using hx)]
      have hn2:pN 2 n:=⟨by have:=hn.1; omega,hn.2⟩
      have hi2:pL 2 B i:=⟨by have:=hi.1; omega,hi.2⟩
      refine Yes.bind (lU _ _ k) fun q k=>Yes.ite (fun _=>?_) fun _=>?_
      · exact Yes.bind (HK _ k) fun q ⟨⟨q1,q2⟩,k⟩=>J3 _ _ _ _ _ _ _ _ _ ⟨by omega,q2⟩ hn2 hi2 hi0' ho ht k
      · exact J3 _ _ _ _ _ _ _ _ _ ⟨by simp,by simp⟩ hn2 hi2 hi0' ho ht k
    induction m with
    | zero=>intro x b j g n i h1 h2 h3 hn hi hi0 k; exact fin x b j g n i (by omega) h3 hn hi hi0 k
    | succ m ih =>
      intro x b j g n i h1 h2 h3 hn hi hi0 k
      by_cases hx:x<1+y12.1
      · rw [vU,e0,if_pos (by simpa using hx)]
        have l1:=hn.1
        have l2:=hi.1
        refine Yes.bind (H _ k) fun q ⟨hq,k⟩=>Yes.bind (oO (by simp; omega)) fun z hz=>Yes.bind (aLw _ k) fun s ⟨hs,k⟩=>Yes.bind (oO (by simp; omega)) fun z2 hz2=>?_
        subst hz hz2
        rw [eY (by omega) (by omega)]
        exact ih _ _ _ _ _ _ (by omega) (by omega) (by omega) ⟨by simp; omega,uN hn.2 hs⟩ ⟨by simp; omega,uN hi.2 hq⟩ (by simp; omega) k
      · exact fin x b j g n i hx h3 hn hi hi0 k
  have L0:∀ (y2:Int×aJ) y1,0≤y2.1→y2.1<2→∀ (m:Nat) (x:Int) b j g o t,2≤m+x→0≤x→x≤2→pO x B o→pT x t→okCur ⟨b,j,g⟩→Yes (wF d y2 y1 x b j (g,(o,t))) (okP B):=by
    intro y2 y1 y0 yl m
    have e0:IntKind.wrap .i64 (1+y2.1)=1+y2.1:=eY (by omega) (by omega)
    have fin:∀ (x:Int) b j g o t,¬ x<1+y2.1→x≤2→pO x B o→pT x t→okCur ⟨b,j,g⟩→Yes (wF d y2 y1 x b j (g,(o,t))) (okP B):=by
      intro x b j g o t hx h2 ho ht k
      rw [wF,e0,if_neg (by simpa using hx)]
      refine Yes.bind (jV _ _ k) fun q ⟨q0,q1,k⟩=>?_
      exact L2 q y1 o t q0 (q1 (by decide)) ⟨by have:=ho.1; omega,ho.2⟩ ⟨by have:=ht.1; omega,ht.2⟩ 2 0 _ _ _ _ _ (by omega) (by omega) (by omega) ⟨by simp,by simp⟩ ⟨by simp,by simp⟩ (by simp) k
    induction m with
    | zero=>intro x b j g o t h1 h2 h3 ho ht k; exact fin x b j g o t (by omega) h3 ho ht k
    | succ m ih =>
      intro x b j g o t h1 h2 h3 ho ht k
      by_cases hx:x<1+y2.1
      · rw [wF,e0,if_pos (by simpa using hx)]
        have l1:=ho.1
        have l2:=ht.1
        have J1:∀ (q:Int) (w:List aB) b j g,okI q→w.length≤1→(∀ y ∈ w,FE B y)→okCur ⟨b,j,g⟩→Yes (L8 d y2 x y1 (t++[q]) o (b,(j,(g,w)))) (okP B):=fun q w b j g hq hw1 hw2 k=>by
          rw [L8]
          refine Yes.bind (oO (by simp; omega)) fun z hz=>?_
          subst hz
          rw [eY (by omega) (by omega)]
          exact ih _ _ _ _ _ _ (by omega) (by omega) (by omega) ⟨by simp; omega,uN ho.2 ⟨hw1,hw2⟩⟩ ⟨by simp; omega,uN ht.2 hq⟩ k
        refine Yes.bind (jV _ _ k) fun q ⟨q0,q1,k⟩=>Yes.bind (oO (by simp; omega)) fun z hz=>Yes.bind (aBw _ _ _ _ k) fun q2 k=>Yes.bind (Q:=fun _=>True) ⟨_,rfl,trivial⟩ fun _ _=>?_
        have hq:=q1 (by decide)
        subst hz
        refine Yes.ite (fun _=>?_) fun _=>?_
        · refine Yes.bind (H _ k) fun e ⟨he,k⟩=>Yes.bind (oO (by simp)) fun z hz=>?_
          subst hz
          exact J1 _ _ _ _ _ (okI_small (by omega) (by omega)) (by simp) (mem1 he) k
        · exact J1 _ _ _ _ _ (okI_small (by omega) (by omega)) (by simp) (by simp) k
      · exact fin x b j g o t hx h3 ho ht k
  rw [sV]
  refine Yes.bind (lU _ _ h) fun y1 k=>Yes.bind (jV _ _ k) fun y2 ⟨q0,q1,k⟩=>?_
  exact L0 y2 y1 q0 (q1 (by decide)) 2 0 _ _ _ _ _ (by omega) (by omega) (by omega) ⟨by simp,by simp⟩ ⟨by simp,by simp⟩ k
def Zb:Nat→Nat
  | 0=>10
  | n+1=>60+11 * Zb n
theorem okV_E {B:Nat} {r:bL×aJ} {a b u t:Int} {q:Bool} (h:okV B r) (h1:okI a) (h2:okI b) (h4:okI u) (h5:okI t):FE B (aB.mk a b q r.1 u t [] []) :=
  ⟨mkE h1 h2 h.1 h4 h5 (by simp) (by simp) (by simp) (by simp),by rw [wM]; have:=h.2.1; simp [zL]; omega⟩
theorem aCj:okGValue ⟨0,0,[]⟩:=⟨okI_small (by decide) (by decide),okI_small (by decide) (by decide),by unfold okS; simp⟩
theorem aKf (n:Int) (h0 : -1000≤n) (h1:n≤1000):okI (IntKind.wrap .i64 n):=by rw [eY (by omega) (by omega)]; exact okI_small h0 h1
theorem aAi {B:Nat} {a b u t:Int} {q:Bool} {ks:List aB} (h1:okI a) (h2:okI b) (h4:okI u) (h5:okI t) (hk:ks.length≤3∧∀ y ∈ ks,FE B y):FE (60+11 * B) (aB.mk a b q ⟨0,0,[]⟩ u t ks []) :=
  ⟨mkE h1 h2 aCj h4 h5 (by omega) (fun y hy=>(hk.2 y hy).1) (by simp) (by simp),by rw [wM]; have:=sF (z:=bM) hk.1 fun y hy=>(hk.2 y hy).2; simp only [zL,List.length_nil,List.map_nil,List.sum_nil] at this ⊢; omega⟩
theorem aO9 {B:Nat} {a b u t:Int} {q:Bool} {ks:List aB} {p:aV} (h1:okI a) (h2:okI b) (h4:okI u) (h5:okI t) (hk:ks.length≤3∧∀ y ∈ ks,FE B y) (hp:okGPlan p∧fI p≤40+8 * B∧0<p.items.length):FE (60+11 * B) (aB.mk a b q ⟨0,0,[]⟩ u t ks [p]) :=
  ⟨mkE h1 h2 aCj h4 h5 (by omega) (fun y hy=>(hk.2 y hy).1) (by simp) (mem1 hp.1),by rw [wM]; have:=sF (z:=bM) hk.1 fun y hy=>(hk.2 y hy).2; have:=hp.2.1; simp only [zL,List.length_nil,List.length_cons,List.map_cons,List.map_nil,List.sum_cons,List.sum_nil] at *; omega⟩
theorem aQc (c:aJ) (h:okCur c) (B:Nat) (hB:10≤B):Yes ((fM c 2)>>=fun (y3:Bool×aJ)=>if y3.1=true then ((dZ y3.2 3)>>=fun (y4:Int×aJ)=>(dZ y4.2 4)>>=fun (y5:Int×aJ)=>some ((aB.mk 2 0 false (bL.mk 0 0 []) y4.1 y5.1 ([]:List aB) ([]:List aV)),y5.2)) else ((wX y3.2)>>=fun (y6:bL×aJ)=>some ((aB.mk 1 0 false y6.1 0 0 ([]:List aB) ([]:List aV)),y6.2))) (okE B):=by
  have o:∀ n:Int,-1000≤n→n≤1000→okI n:=fun n h0 h1=>okI_small h0 h1
  refine Yes.bind (lU _ _ h) fun r k=>Yes.ite (fun _=>?_) fun _=>?_
  · refine Yes.bind (jV _ _ k) fun r ⟨a0,a1,k⟩=>Yes.bind (jV _ _ k) fun r2 ⟨b0,b1,k⟩=>Yes.some ⟨⟨?_,?_⟩,k⟩
    · have:=a1 (by decide); have:=b1 (by decide)
      exact mkE (o _ (by omega) (by omega)) (o _ (by omega) (by omega)) aCj (o _ (by omega) (by omega)) (o _ (by omega) (by omega)) (by simp) (by simp) (by simp) (by simp)
    · rw [wM]; simp [zL]
  · refine Yes.bind (aZm _ k) fun r hr=>Yes.some ⟨?_,hr.2.2⟩
    have:=okV_E (B:=4) (q:=false) hr (o 1 (by omega) (by omega)) (o 0 (by omega) (by omega)) (o 0 (by omega) (by omega)) (o 0 (by omega) (by omega))
    refine ⟨this.1,?_⟩
    have h2:=this.2
    show bM (aB.mk 1 0 false r.1 0 0 [] [])≤B
    omega
theorem aSr (n:Nat):10≤Zb n:=by cases n <;> simp only [Zb] <;> omega
theorem aNu:∀ (n:Nat) (d:Int) (c:aJ),-100≤d→d≤n→n≤4→okCur c→Yes (lZ c d) (okE (Zb n)):=by
  intro n
  have o:∀ n:Int,-1000≤n→n≤1000→okI n:=fun n h0 h1=>okI_small h0 h1
  induction n with
  | zero =>
    intro d c hd0 hd _ h
    rw [lZ]
    refine Yes.bind (aBw _ _ _ _ h) fun r k=>Yes.bind (Q:=fun q=>q=true) ⟨_,rfl,by rw [if_pos (by simpa using hd)]⟩ fun q hq=>?_
    rw [if_pos hq]
    exact aQc _ k _ (Nat.le_refl _)
  | succ n ih =>
    intro d c hd0 hd hn h
    have hB:Zb (n+1)=60+11 * Zb n:=rfl
    rw [lZ]
    refine Yes.bind (aBw _ _ _ _ h) fun r k=>Yes.bind (Q:=fun q=>q=true∨0<d) ⟨_,rfl,?_⟩ fun q hq=>Yes.ite (fun _=>aQc _ k _ (aSr _)) fun hq2=>?_
    · by_cases h0:d≤0
      · exact .inl (by rw [if_pos (by simpa using h0)])
      · exact .inr (by omega)
    · have h0:0<d:=hq.resolve_left hq2
      rw [hB]
      have e1:IntKind.wrap .i64 (d - 1)=d - 1:=eY (by omega) (by omega)
      have K:∀ m c,m≤3→okCur c→Yes (mZ c d m) (okKs (Zb n)):=fun m c hm k=>aHm (Zb n) d m hm (fun c k=>by rw [e1]; exact ih _ c (by omega) (by omega) (by omega) k) c k
      have P2:∀ c,1<d→okCur c→Yes (sV c (IntKind.wrap .i64 (d - 2))) (okP (Zb n)):=fun c h2 k=>by
        rw [eY (n:=d - 2) (by omega) (by omega)]
        have H:∀ c,okCur c→Yes (lZ c (d - 2)) (okE (Zb n)):=fun c k=>ih _ c (by omega) (by omega) (by omega) k
        exact aOt H (fun c k=>aHm (Zb n) _ 1 (by omega) (fun c k=>by rw [eY (n:=d - 2+1) (by omega) (by omega),eY (by omega) (by omega)]; have:=H c k; rwa [show d - 2+1 - 1=d - 2 by omega]) c k) c k
      have J0:∀ y:Int×aJ,okCur y.2→Yes (xO d y) (okE (60+11 * Zb n)):=fun y k=>by
        rw [xO]
        exact Yes.bind (jV _ _ k) fun r ⟨a0,a1,k⟩=>Yes.bind (K 2 _ (by omega) k) fun r2 ⟨hk,k⟩=>Yes.some ⟨aAi (o _ (by omega) (by omega)) (aKf _ (by omega) (by have:=a1 (by decide); omega)) (o _ (by omega) (by omega)) (o _ (by omega) (by omega)) hk,k⟩
      refine Yes.bind (jV _ _ k) fun r ⟨_,_,k⟩=>Yes.ite (fun _=>?_) fun _=>Yes.ite (fun _=>?_) fun _=>Yes.ite (fun _=>?_) fun _=>Yes.ite (fun _=>?_) fun _=>Yes.ite (fun _=>?_) fun _=>Yes.ite (fun _=>?_) fun _=>J0 _ k
      · exact Yes.bind (jV _ _ k) fun r ⟨a0,a1,k⟩=>Yes.bind (K 1 _ (by omega) k) fun r2 ⟨hk,k⟩=>Yes.some ⟨aAi (o _ (by omega) (by omega)) (aKf _ (by omega) (by have:=a1 (by decide); omega)) (o _ (by omega) (by omega)) (o _ (by omega) (by omega)) hk,k⟩
      · exact Yes.bind (lU _ _ k) fun r k=>Yes.bind (K 1 _ (by omega) k) fun r2 ⟨hk,k⟩=>Yes.some ⟨aAi (o _ (by omega) (by omega)) (o _ (by omega) (by omega)) (o _ (by omega) (by omega)) (o _ (by omega) (by omega)) hk,k⟩
      · exact Yes.bind (lU _ _ k) fun r k=>Yes.bind (K 3 _ (by omega) k) fun r2 ⟨hk,k⟩=>Yes.some ⟨aAi (o _ (by omega) (by omega)) (o _ (by omega) (by omega)) (o _ (by omega) (by omega)) (o _ (by omega) (by omega)) hk,k⟩
      · exact Yes.bind (lU _ _ k) fun r k=>Yes.bind (K 3 _ (by omega) k) fun r2 ⟨hk,k⟩=>Yes.some ⟨aAi (o _ (by omega) (by omega)) (o _ (by omega) (by omega)) (o _ (by omega) (by omega)) (o _ (by omega) (by omega)) hk,k⟩
      · refine Yes.ite (fun h2=>?_) fun _=>J0 _ k
        exact Yes.bind (lU _ _ k) fun r k=>Yes.bind (K 1 _ (by omega) k) fun r2 ⟨hk,k⟩=>Yes.bind (P2 _ (by simpa using h2) k) fun r3 ⟨hp,k⟩=>Yes.some ⟨aO9 (o _ (by omega) (by omega)) (o _ (by omega) (by omega)) (o _ (by omega) (by omega)) (o _ (by omega) (by omega)) hk hp,k⟩
      · refine Yes.ite (fun h2=>?_) fun _=>J0 _ k
        exact Yes.bind (P2 _ (by simpa using h2) k) fun r3 ⟨hp,k⟩=>Yes.some ⟨aO9 (o _ (by omega) (by omega)) (o _ (by omega) (by omega)) (o _ (by omega) (by omega)) (o _ (by omega) (by omega)) ⟨by simp,by simp⟩ hp,k⟩
theorem aK7 {l:List aB}:∀ {k:Nat} {x y:aB} {b:Nat},l[k]?=some x→bM y≤bM x+b→zL bM (l.set k y)≤zL bM l+b:=by
  induction l with
  | nil=>intro k x y b h; simp at h
  | cons z l ih =>
    intro k x y b h hb
    cases k with
    | zero=>simp at h; subst h; simp only [List.set_cons_zero,zL,List.length_cons,List.map_cons,List.sum_cons]; omega
    | succ k =>
      simp at h
      have:=ih (k:=k) h hb
      simp only [List.set_cons_succ,zL,List.length_cons,List.map_cons,List.sum_cons] at this ⊢; omega
theorem okX_parts {x:aB} (h:okGPExpr x):okI x.kind∧okI x.op∧okGValue x.value∧okI x.up∧okI x.at_∧(∀ y ∈ x.kids,okGPExpr y)∧∀ p ∈ x.sub,okGPlan p:=by
  obtain ⟨a0,a1,a2,a3,a4,a5,a6,a7⟩:=x
  unfold okGPExpr at h
  exact ⟨h.1,h.2.1,h.2.2.2.1,h.2.2.2.2.1,h.2.2.2.2.2.1,okLGPExpr_mem h.2.2.2.2.2.2.1.2,okLGPlan_mem h.2.2.2.2.2.2.2.2⟩
theorem zX (x:aB):bM x=x.value.text.length+zL bM x.kids+zL fI x.sub:=by
  obtain ⟨a0,a1,a2,a3,a4,a5,a6,a7⟩:=x
  exact wM _ _ _ _ _ _ _ _
theorem aO5:∀ (n:Nat) (e:aB) (c:aJ),bM e<n→bM e≤400000→okGPExpr e→okCur c→Yes (rD c e) (okE (bM e+900)):=by
  intro n
  induction n with
  | zero=>intro e c h _ _; omega
  | succ n ih =>
    intro e c hn hz hok h
    obtain ⟨p1,p2,p3,p4,p5,p6,p7⟩:=okX_parts hok
    have hE:=zX e
    have lk:e.kids.length≤zL bM e.kids:=by unfold zL; omega
    have ls:e.sub.length≤zL fI e.sub:=by unfold zL; omega
    have J:∀ a b q v u t cb ci ch (ss:List aV),okI a→okI b→okGValue v→okI u→okI t→okCur ⟨cb,ci,ch⟩→(∀ p ∈ ss,okGPlan p)→ss.length≤1000000→v.text.length+zL bM e.kids+zL fI ss≤bM e+900→Yes (pQ e a b q v.kind v.num v.text u t cb ci ch ss) (okE (bM e+900)):=fun a b q v u t cb ci ch ss h1 h2 h3 h4 h5 k hs hsl hl=>by
      unfold pQ
      refine Yes.some ⟨⟨mkE h1 h2 h3 h4 h5 (by omega) p6 (by omega) hs,?_⟩,k⟩
      rw [wM]; exact hl
    rw [rD]
    refine Yes.bind (aBw _ _ _ _ h) fun r k=>Yes.bind (Q:=fun q=>q=true→0<(e.kids.length:Int)) ⟨_,rfl,?_⟩ fun q hq=>Yes.ite (fun hq2=>?_) fun _=>?_
    · intro h1
      by_cases h0:0<(e.kids.length:Int)
      · exact h0
      · rw [if_neg (by simpa using h0)] at h1; exact absurd h1 (by simp)
    · have h0:=hq hq2
      refine Yes.bind (jV _ _ k) fun r ⟨b0,b1,k⟩=>?_
      obtain ⟨v,hv0,hv⟩:=aCm (l:=e.kids) b0 (b1 h0)
      have hg:e.kids[r.1.toNat]?=some v:=by unfold idx at hv; rw [if_pos b0] at hv; exact hv
      have hl:=gX (z:=bM) hv0
      refine Yes.bind (Q:=fun z=>z=v) ⟨v,hv,rfl⟩ fun z hz2=>?_
      subst hz2
      have hlen:e.kids.length+(e.kids.map bM).sum=zL bM e.kids:=rfl
      have hpos:=List.length_pos_of_mem hv0
      refine Yes.bind (ih z _ (by omega) (by omega) (p6 z hv0) k) fun r2 ⟨⟨h4,h5⟩,k⟩=>Yes.some ⟨⟨mkE p1 p2 p3 p4 p5 (by rw [List.length_set]; omega) (fun y hy=>?_) (by omega) p7,?_⟩,k⟩
      · rcases List.mem_or_eq_of_mem_set hy with hy | rfl
        · exact p6 y hy
        · exact h4
      · have:=aK7 (b:=900) hg h5
        rw [wM]; omega
    · refine Yes.bind (jV _ _ k) fun r ⟨_,_,k⟩=>Yes.ite (fun _=>?_) fun _=>Yes.ite (fun _=>?_) fun _=>Yes.ite (fun _=>?_) fun _=>Yes.ite (fun _=>?_) fun _=>Yes.ite (fun _=>?_) fun _=>Yes.ite (fun _=>?_) fun _=>?_
      · exact Yes.bind (sG _ k) fun r ⟨hi,k⟩=>J _ _ _ e.value _ _ _ _ _ _ hi p2 p3 p4 p5 k p7 (by omega) (by omega)
      · exact Yes.bind (sG _ k) fun r ⟨hi,k⟩=>J _ _ _ e.value _ _ _ _ _ _ p1 hi p3 p4 p5 k p7 (by omega) (by omega)
      · exact Yes.bind (sG _ k) fun r ⟨hi,k⟩=>J _ _ _ e.value _ _ _ _ _ _ p1 p2 p3 hi p5 k p7 (by omega) (by omega)
      · exact Yes.bind (sG _ k) fun r ⟨hi,k⟩=>J _ _ _ e.value _ _ _ _ _ _ p1 p2 p3 p4 hi k p7 (by omega) (by omega)
      · exact Yes.bind (aSo _ k) fun r hr=>J _ _ _ r.1 _ _ _ _ _ _ p1 p2 hr.1 p4 p5 hr.2.2 p7 (by omega) (by have:=hr.2.1; omega)
      · exact J _ _ _ e.value _ _ _ _ _ _ p1 p2 p3 p4 p5 k p7 (by omega) (by omega)
      · refine Yes.bind (oO (by simp; omega)) fun y hy=>?_
        subst hy
        have hP0:okGPlan (aV.mk [] [] [] [] [] [] false 0):=by unfold okGPlan; exact ⟨⟨by simp,by simp⟩,⟨by simp,by unfold okLLGPExpr; trivial⟩,⟨by simp,by unfold okLGPExpr; trivial⟩,⟨by simp,by unfold okLGPSort; trivial⟩,⟨by simp,by unfold okLGPExpr; trivial⟩,⟨by simp,by simp⟩,trivial,okI_small (by decide) (by decide)⟩
        refine J _ _ _ e.value _ _ _ _ _ _ p1 p2 p3 p4 p5 k (uN p7 hP0) (by simp; omega) ?_
        have:fI (aV.mk [] [] [] [] [] [] false 0)=0:=by simp [fI,uT,M7,zF,zL]
        simp only [zL,List.length_append,List.length_cons,List.length_nil,List.map_append,List.map_cons,List.map_nil,List.sum_append,List.sum_cons,List.sum_nil,this] at hE ⊢
        omega
theorem aNo (p:List Int) (hp:p.length≤1048576):Yes (M5 p 4) fun r=>0<r∧r≤4:=by
  unfold M5
  have e:Int.tdiv (p.length:Int) 20=(p.length:Int) / 20:=Int.tdiv_eq_ediv_of_nonneg (by omega)
  rw [e,eY (n:=(p.length:Int) / 20) (by omega) (by omega),eY (by omega) (by omega)]
  refine Yes.ite (fun _=>Yes.some ⟨by omega,by omega⟩) fun h=>Yes.some ⟨by omega,by simp at h; omega⟩
theorem zP (q:aV):fI q=zL z0 q.tables+zL (zL bM) q.on_+zL bM q.where_+zL mM q.order+zL bM q.items+zL List.length q.names:=by
  obtain ⟨a0,a1,a2,a3,a4,a5,a6,a7⟩:=q
  simp only [fI,xN,aB3,aCu,zL]
theorem aSa (p:List Int) (hp:p.length≤1048576):Yes (aAv p) (FE 1000000):=by
  obtain ⟨c,e0,o0⟩:=aPk p hp
  have hZ:Zb 4=219076∨Zb 4≤300000:=.inr (by decide)
  have hZ4:Zb 4≤300000:=by decide
  unfold aAv
  refine Yes.bind (Q:=fun r:aJ×aB=>FE 1000000 r.2) ?_ fun r hr=>Yes.some hr
  unfold aA9
  refine Yes.bind (Q:=fun z=>z=c) ⟨c,e0,rfl⟩ fun z hz=>?_
  subst hz
  refine Yes.bind (aNo p hp) fun s ⟨s0,s1⟩=>Yes.bind (jV _ _ o0) fun r ⟨b0,b1,k⟩=>?_
  have:=b1 s0
  rw [eY (by omega) (by omega)]
  refine Yes.bind (aNu 4 _ _ (by omega) (by omega) (by omega) k) fun e ⟨he,k⟩=>Yes.bind (lU _ _ k) fun r2 k=>Yes.ite (fun _=>?_) fun _=>?_
  · refine Yes.bind (aO5 _ _ _ (Nat.lt_succ_self _) (by have:=he.2; omega) he.1 k) fun x ⟨hx,k⟩=>?_
    unfold zQ
    obtain ⟨⟨x0,x1,x2,⟨v0,v1,v2⟩,x4,x5,x6,x7⟩,xc⟩:=x
    exact Yes.some ⟨hx.1,by have:=hx.2; have:=he.2; dsimp only at *; omega⟩
  · unfold zQ
    obtain ⟨⟨x0,x1,x2,⟨v0,v1,v2⟩,x4,x5,x6,x7⟩,xc⟩:=e
    exact Yes.some ⟨he.1,by have:=he.2; dsimp only at *; omega⟩
theorem aZ2 (p:List Int) (hp:p.length≤1048576):Yes (X8 p) fun q=>okGPlan q∧fI q≤1000000:=by
  obtain ⟨c,e0,o0⟩:=aPk p hp
  have hZ3:Zb 3≤30000:=by decide
  have hZ4:Zb 4≤300000:=by decide
  unfold X8
  refine Yes.bind (Q:=fun z=>z=c) ⟨c,e0,rfl⟩ fun z hz=>?_
  subst hz
  refine Yes.bind (Q:=fun r:aV×aJ=>okGPlan r.1∧fI r.1≤1000000) ?_ fun r hr=>Yes.some hr
  unfold aAt
  refine Yes.bind (aNo p hp) fun s ⟨s0,s1⟩=>Yes.bind (jV _ _ o0) fun r ⟨b0,b1,k⟩=>?_
  have hr:=b1 s0
  have H:∀ c,okCur c→Yes (lZ c r.1) (okE (Zb 3)):=fun c k=>aNu 3 _ c (by omega) (by omega) (by omega) k
  refine Yes.bind (aOt H (fun c k=>aHm (Zb 3) _ 1 (by omega) (fun c k=>by rw [eY (n:=r.1+1) (by omega) (by omega),eY (by omega) (by omega)]; have:=H c k; rwa [show r.1+1 - 1=r.1 by omega]) c k) _ k) fun y ⟨⟨hy1,hy2,hy3⟩,k⟩=>?_
  obtain ⟨⟨a0,a1,a2,a3,a4,a5,a6,a7⟩,yc⟩:=y
  dsimp only at hy1 hy2 hy3 k ⊢
  have hZ:=zP (aV.mk a0 a1 a2 a3 a4 a5 a6 a7)
  dsimp only at hZ
  have l0:a0.length≤zL z0 a0:=by unfold zL; omega
  have l1:a1.length≤zL (zL bM) a1:=by unfold zL; omega
  have l2:a2.length≤zL bM a2:=by unfold zL; omega
  have l4:a4.length≤zL bM a4:=by unfold zL; omega
  have l5:a5.length≤zL List.length a5:=by unfold zL; omega
  unfold okGPlan at hy1
  obtain ⟨q0,q1,q2,q3,q4,q5,q6,q7⟩:=hy1
  have fin : ∀ {b : List Int} {j g : Int} {t : List Int} {o : List (List aB)} {w i : List aB} {n : List (List UInt8)}, okL okI t → (o.length ≤ 1000000 ∧ okLLGPExpr o) → (w.length ≤ 1000000 ∧ okLGPExpr w) → (i.length ≤ 1000000 ∧ okLGPExpr i) → okL okS n → zL z0 t + zL (zL bM) o + zL bM w + zL mM a3 + zL bM i + zL List.length n ≤ 1000000 →
      Yes (qU (aV.mk a0 a1 a2 a3 a4 a5 a6 a7,yc) b j g t o w i n) fun r=>okGPlan r.1∧fI r.1≤1000000:=fun h1 h2 h3 h4 h5 h6=>by
    unfold qU
    refine Yes.some ⟨?_,by rw [zP]; exact h6⟩
    unfold okGPlan
    exact ⟨h1,⟨by omega,h2.2⟩,⟨by omega,h3.2⟩,q3,⟨by omega,h4.2⟩,h5,q6,q7⟩
  have e1:a1.length≤1000000∧okLLGPExpr a1:=⟨by omega,q1.2⟩
  have e2:a2.length≤1000000∧okLGPExpr a2:=⟨by omega,q2.2⟩
  have e4:a4.length≤1000000∧okLGPExpr a4:=⟨by omega,q4.2⟩
  have i0:∀ n:Int,-1000≤n→n≤1000→okI n:=fun n h0 h1=>okI_small h0 h1
  have E0:∀ a,okI a→okGPExpr (aB.mk a 0 false ⟨0,0,[]⟩ 0 0 [] []):=fun a ha=>mkE ha (i0 _ (by omega) (by omega)) aCj (i0 _ (by omega) (by omega)) (i0 _ (by omega) (by omega)) (by simp) (by simp) (by simp) (by simp)
  have zE0:∀ a,bM (aB.mk a 0 false ⟨0,0,[]⟩ 0 0 [] [])=0:=fun a=>by rw [wM]; simp [zL]
  refine Yes.bind (jV _ _ k) fun r2 ⟨_,_,k⟩=>Yes.ite (fun _=>?_) fun _=>Yes.ite (fun _=>?_) fun _=>Yes.ite (fun _=>?_) fun _=>Yes.ite (fun _=>?_) fun _=>Yes.ite (fun _=>?_) fun _=>?_
  · refine Yes.bind (sG _ k) fun x ⟨hx,k⟩=>Yes.bind (oO (by simp; omega)) fun z hz=>?_
    subst hz
    refine fin ⟨by simp; omega,uN q0.2 hx⟩ e1 e2 e4 q5 ?_
    simp only [zL,z0,List.length_append,List.length_cons,List.length_nil,List.map_append,List.map_cons,List.map_nil,List.sum_append,List.sum_cons,List.sum_nil] at hZ ⊢; omega
  · refine Yes.bind (aYw _ k) fun x ⟨hx,k⟩=>Yes.bind (oO (by simp; omega)) fun z hz=>?_
    subst hz
    refine fin q0 e1 e2 e4 ⟨by simp; omega,uN q5.2 (by unfold okS; omega)⟩ ?_
    simp only [zL,List.length_append,List.length_cons,List.length_nil,List.map_append,List.map_cons,List.map_nil,List.sum_append,List.sum_cons,List.sum_nil] at hZ ⊢; omega
  · refine Yes.bind (oO (by simp; omega)) fun z hz=>?_
    subst hz
    refine fin q0 ⟨by simp; omega,?_⟩ e2 e4 q5 ?_
    · refine okLLX_of (uN (fun y hy=>⟨?_,okLLGPExpr_mem q1.2 y hy⟩) ⟨by simp,mem1 (E0 0 (i0 _ (by omega) (by omega)))⟩)
      have:=gX (z:=zL bM) hy
      have:y.length≤zL bM y:=by unfold zL; omega
      have:(a1.map (zL bM)).sum≤zL (zL bM) a1:=by unfold zL; omega
      omega
    · have e3:zL bM [aB.mk 0 0 false ⟨0,0,[]⟩ 0 0 [] []]=1:=by simp [zL,zE0]
      have e5:zL (zL bM) (a1++[[aB.mk 0 0 false ⟨0,0,[]⟩ 0 0 [] []]])=zL (zL bM) a1+2:=by
        show (a1++[[aB.mk 0 0 false ⟨0,0,[]⟩ 0 0 [] []]]).length+((a1++[[aB.mk 0 0 false ⟨0,0,[]⟩ 0 0 [] []]]).map (zL bM)).sum=(a1.length+(a1.map (zL bM)).sum)+2
        simp only [List.length_append,List.length_cons,List.length_nil,List.map_append,List.map_cons,List.map_nil,List.sum_append,List.sum_cons,List.sum_nil,e3]; omega
      rw [e5]; omega
  · obtain ⟨x,hx⟩:∃ x,a4[0]?=some x:=⟨a4[0]'hy3,by simp⟩
    have hm:=List.mem_of_getElem? hx
    refine Yes.bind (Q:=fun z=>z=x) ⟨x,by unfold idx; simpa using hx,rfl⟩ fun z hz=>?_
    subst hz
    have:=gX (z:=bM) hm
    have:(a4.map bM).sum≤zL bM a4:=by unfold zL; omega
    refine Yes.bind (aO5 _ _ _ (Nat.lt_succ_self _) (by omega) (okLGPExpr_mem q4.2 _ hm) k) fun y ⟨hy,k⟩=>?_
    have:=aK7 (b:=900) (y:=y.1) hx hy.2
    refine fin q0 e1 e2 ⟨by simp; omega,okLX_of fun u hu=>?_⟩ q5 (by simp only [Int.toNat_zero]; omega)
    rcases List.mem_or_eq_of_mem_set hu with hu | rfl
    · exact okLGPExpr_mem q4.2 u hu
    · exact hy.1
  · refine Yes.bind (sG _ k) fun x ⟨hx,k⟩=>Yes.bind (oO (by simp; omega)) fun z hz=>?_
    subst hz
    refine fin q0 e1 ⟨by simp; omega,okLX_of (uN (okLGPExpr_mem q2.2) (E0 _ hx))⟩ e4 q5 ?_
    simp only [zL,List.length_append,List.length_cons,List.length_nil,List.map_append,List.map_cons,List.map_nil,List.sum_append,List.sum_cons,List.sum_nil,zE0] at hZ ⊢; omega
  · exact fin q0 e1 e2 e4 q5 (by omega)
theorem aUb (p:List (List UInt8)) (h:p.length≤1048576):K6 p p=some true:=by
  rw [K6]
  rw [if_neg (by simp)]
  have key:∀ i,i≤p.length→wJ p p (i:Nat)=some true:=by
    refine xX ?_ ?_
    · rw [wJ]; simp
    · intro i hi ih
      rw [wJ]
      simp only [rP,hi,decide_true,if_true,vE hi,yH hi (by omega),Option.bind_eq_bind,Option.bind_some,ih]
      simp
  have:=key 0 (by omega)
  simpa using this
theorem aBf {l:List aB} (h:l.length≤1048576) (H:∀ y ∈ l,pE y y=some true):nD l l=some true :=
  aKx (p:=l) (E:=pE) (L:=fun i=>zG l l i) (S:=fun a b=>nD a b) h (by rw [nD]) (fun i=>by rw [zG]) H
theorem aVs (l:List Int) (h:l.length≤1048576):xP l l=some true :=
  aKx (p:=l) (E:=fun a b=>some (decide (a=b))) (L:=fun i=>wT l l i) (S:=fun a b=>xP a b) h (by rw [xP]) (fun i=>by rw [wT]; simp only [Option.bind_eq_bind,Option.bind_some]) fun y _=>by simp
theorem aOi:∀ n:Nat,(∀ x:aB,bM x<n→bM x≤1048576→pE x x=some true)∧(∀ q:aV,fI q<n→fI q≤1048576→vX q q=some true):=by
  intro n
  induction n with
  | zero=>exact ⟨fun x h _=>by omega,fun q h _=>by omega⟩
  | succ n ih =>
    refine ⟨fun x hn hz=>?_,fun q hn hz=>?_⟩
    · have hE:=zX x
      have lk:x.kids.length+(x.kids.map bM).sum=zL bM x.kids:=rfl
      have ls:x.sub.length+(x.sub.map fI).sum=zL fI x.sub:=rfl
      have e1:nD x.kids x.kids=some true:=aBf (by omega) fun y hy=>ih.1 y (by have:=gX (z:=bM) hy; have:=List.length_pos_of_mem hy; omega) (by have:=gX (z:=bM) hy; omega)
      have e2:vO x x 0=some true:=by
        have key:∀ i,i≤x.sub.length→vO x x (i:Nat)=some true:=by
          refine xX ?_ ?_
          · rw [vO]; simp
          · intro i hi hh
            have hy:=List.getElem_mem hi
            have h1:vX x.sub[i] x.sub[i]=some true:=ih.2 _ (by have:=gX (z:=fI) hy; omega) (by have:=gX (z:=fI) hy; omega)
            rw [vO]
            simp only [rP,hi,decide_true,if_true,vE hi,yH hi (by omega),Option.bind_eq_bind,Option.bind_some,hh,h1]
            simp
        have:=key 0 (by omega)
        simpa using this
      rw [pE]
      simp [e1,e2]
    · have hP:=zP q
      have l0:q.tables.length≤zL z0 q.tables:=by unfold zL; omega
      have l1:q.on_.length+(q.on_.map (zL bM)).sum=zL (zL bM) q.on_:=rfl
      have l2:q.where_.length+(q.where_.map bM).sum=zL bM q.where_:=rfl
      have l3:q.order.length+(q.order.map mM).sum=zL mM q.order:=rfl
      have l4:q.items.length+(q.items.map bM).sum=zL bM q.items:=rfl
      have l5:q.names.length≤zL List.length q.names:=by unfold zL; omega
      have e1:nD q.where_ q.where_=some true:=aBf (by omega) fun y hy=>ih.1 y (by have:=gX (z:=bM) hy; have:=List.length_pos_of_mem hy; omega) (by have:=gX (z:=bM) hy; omega)
      have e2:nD q.items q.items=some true:=aBf (by omega) fun y hy=>ih.1 y (by have:=gX (z:=bM) hy; have:=List.length_pos_of_mem hy; omega) (by have:=gX (z:=bM) hy; omega)
      have e3:=aVs q.tables (by omega)
      have e4:=aUb q.names (by omega)
      have e5:sN q q 0=some true:=by
        have key:∀ i,i≤q.order.length→sN q q (i:Nat)=some true:=by
          refine xX ?_ ?_
          · rw [sN]; simp
          · intro i hi hh
            have hy:=List.getElem_mem hi
            have hk:bM q.order[i].expr=mM q.order[i]:=by generalize q.order[i]=k; obtain ⟨a,b⟩:=k; simp only [mM]
            have h1:pE q.order[i].expr q.order[i].expr=some true:=ih.1 _ (by have:=gX (z:=mM) hy; omega) (by have:=gX (z:=mM) hy; omega)
            rw [sN]
            simp only [rP,hi,decide_true,if_true,vE hi,yH hi (by omega),Option.bind_eq_bind,Option.bind_some,hh,h1]
            simp [h1]
        have:=key 0 (by omega)
        simpa using this
      have e6:uZ q q 0=some true:=by
        have key:∀ i,i≤q.on_.length→uZ q q (i:Nat)=some true:=by
          refine xX ?_ ?_
          · rw [uZ]; simpa using e5
          · intro i hi hh
            have hy:=List.getElem_mem hi
            have hle:=gX (z:=zL bM) hy
            have lk:q.on_[i].length+(q.on_[i].map bM).sum=zL bM q.on_[i]:=rfl
            have h1:nD q.on_[i] q.on_[i]=some true:=aBf (by omega) fun y hy=>ih.1 y (by have:=gX (z:=bM) hy; have:=List.length_pos_of_mem hy; omega) (by have:=gX (z:=bM) hy; omega)
            rw [uZ]
            simp only [rP,hi,decide_true,if_true,vE hi,yH hi (by omega),Option.bind_eq_bind,Option.bind_some,hh,h1]
            simp
        have:=key 0 (by omega)
        simpa using this
      rw [vX]
      simp [e1,e2,e3,e4,e6]
theorem aJ5 {a b:List UInt8} (h:a.length+b.length≤1000000000000):mV a b=some (a++b):=by unfold mV; rw [if_pos (by simp only [maxLen]; omega)]
theorem aOo (s:List UInt8) (a:Nat) (hs:s.length≤20000) (ha:a≤s.length):qR s (a:Int)=some (⟨s,(a:Int),false⟩,true):=by
  rw [qR]
  have h1:((s.length:Nat):Int)≤20000:=by omega
  simp [h1,ha]
theorem bAn {s:List UInt8} {a:Nat} {q:aV} (hs:s.length≤20000) (hd:DP q) (hat:At s a (eP q)):E9 s (a:Int)=some (q,((a+(eP q).length:Nat):Int),true):=by
  have hl:=hat.len
  have h:=hd.1 s a hs hat
  dsimp only at h
  rw [E9,aOo s a hs (by omega)]
  simp only [Option.bind_eq_bind,Option.bind_some,Bool.not_true,Bool.false_eq_true,if_false,h]
theorem aY1 {s:List UInt8} {a:Nat} {q:aB} (hs:s.length≤20000) (hd:DX q) (hat:At s a (eX q)):vC s (a:Int)=some (q,((a+(eX q).length:Nat):Int),true):=by
  have hl:=hat.len
  have h:=hd.1 s a hs hat
  dsimp only at h
  rw [vC,aOo s a hs (by omega)]
  simp only [Option.bind_eq_bind,Option.bind_some,Bool.not_true,Bool.false_eq_true,if_false,h]
theorem aX4 (s:List UInt8) (a:Int) (hs:20000<s.length):∃ r,vC s a=some r:=by
  have e1:∃ r,qR s a=some (r,false):=by
    rw [qR]
    have h1:¬ ((s.length:Nat):Int)≤20000:=by omega
    exact ⟨_,by simp [h1]; rfl⟩
  obtain ⟨r,e1⟩:=e1
  rw [vC,e1]
  simp only [Option.bind_eq_bind,Option.bind_some,Bool.not_false,if_true]
  exact ⟨_,rfl⟩
set_option maxRecDepth 100000 in
theorem aUu (p:List Int) (_:okL okU8 p):aAk p=some true:=by
  unfold aAk aD6
  simp only [Option.bind_eq_bind,Option.bind_some]
  by_cases hp:(1048576:Int)<(p.length:Int)
  · rw [if_pos (by simpa using hp)]
  rw [if_neg (by simpa using hp)]
  have hp':p.length≤1048576:=by omega
  obtain ⟨q,e1,oq,zq⟩:=aZ2 p hp'
  obtain ⟨e,e2,oe,ze⟩:=aSa p hp'
  obtain ⟨lq,wq⟩:=(aD4 _).2 q oq (Nat.lt_succ_self _) (by omega)
  obtain ⟨le,we⟩:=(aD4 _).1 e oe (Nat.lt_succ_self _) (by omega)
  obtain ⟨h1,h2⟩:=wq.2 [] (by simp; omega)
  obtain ⟨h3,_⟩:=we.2 [] (by simp; omega)
  have b1:W9 q=some (toB (eP q)):=by
    rw [W9,show qI [] q=_ from h1]
    simp only [Option.bind_eq_bind,Option.bind_some,vF,List.nil_append,yZ wq.1]
    rfl
  have b2:aA1 q=some (toB (eP q)):=by
    rw [aA1,show oG [] q=_ from h2]
    simp only [Option.bind_eq_bind,Option.bind_some,List.nil_append,yZ wq.1]
    rfl
  have b3:X3 e=some (toB (eX e)):=by
    rw [X3,show nG [] e=_ from h3]
    simp only [Option.bind_eq_bind,Option.bind_some,vF,List.nil_append,yZ we.1]
    rfl
  simp only [e1,b1,b2,Option.bind_some,decide_true,Bool.not_true,Bool.false_eq_true,if_false,nY]
  by_cases hlong:(15000:Int)<((eP q).length:Int)
  · rw [if_pos (by simpa using hlong)]
  rw [if_neg (by simpa using hlong)]
  have c1:mV [97,98,99] (toB (eP q))=some ([97,98,99]++toB (eP q)):=aJ5 (by simp [nY]; omega)
  have c2:mV ([97,98,99]++toB (eP q)) [120]=some (([97,98,99]++toB (eP q))++[120]):=aJ5 (by simp [nY]; omega)
  have c3:mV (toB (eP q)) (toB (eX e))=some (toB (eP q)++toB (eX e)):=aJ5 (by simp [nY]; omega)
  have g1:E9 (([97,98,99]++toB (eP q))++[120]) 3=some (q,((3+(eP q).length:Nat):Int),true):=bAn (a:=3) (by simp [nY]; omega) ((aM5 _).2 q oq (Nat.lt_succ_self _) (by omega)) ⟨[97,98,99],[120],by simp,rfl⟩
  have g2:∃ r,vC (toB (eP q)++toB (eX e)) ((eP q).length:Int)=some r∧((eX e).length≤4000→r=(e,(((eP q).length+(eX e).length:Nat):Int),true)):=by
    by_cases hl:(eP q).length+(eX e).length≤20000
    · exact ⟨_,aY1 (a:=(eP q).length) (by simp [nY]; omega) ((aM5 _).1 e oe (Nat.lt_succ_self _) (by omega)) ⟨toB (eP q),[],by simp,by simp [nY]⟩,fun _=>rfl⟩
    · obtain ⟨r,hr⟩:=aX4 (toB (eP q)++toB (eX e)) ((eP q).length:Int) (by simp [nY]; omega)
      exact ⟨r,hr,fun h=>by omega⟩
  obtain ⟨r,hr,hr2⟩:=g2
  have s1:=(aOi _).2 q (Nat.lt_succ_self _) (by omega)
  have s2:=(aOi _).1 e (Nat.lt_succ_self _) (by omega)
  have w1:IntKind.wrap .i64 (3+((eP q).length:Int))=3+((eP q).length:Int):=eY (by omega) (by omega)
  have w2:IntKind.wrap .i64 (((eP q).length:Int)+((eX e).length:Int))=((eP q).length:Int)+((eX e).length:Int):=eY (by omega) (by omega)
  simp only [c1,c2,c3,g1,e2,b3,hr,w1,w2,nY,Option.bind_some]
  by_cases hx:(eX e).length≤4000
  · have h4:¬ (4000:Int)<((eX e).length:Int):=by omega
    rw [hr2 hx]
    simp [s1,s2,h4]
  · have h4:(4000:Int)<((eX e).length:Int):=by omega
    simp [s1,h4]
end Go.Ab
