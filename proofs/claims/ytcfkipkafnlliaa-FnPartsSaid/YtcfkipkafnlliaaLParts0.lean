/- What the functions compute,in plain Lean. -/
import Derived.Test.YtcfkipkafnlliaaFParts
namespace Go.Ab
open Go
theorem iP {n:Int} (h1 : -9223372036854775808≤n) (h2:n≤9223372036854775807):IntKind.wrap .i64 n=n:=by rw [IntKind.wrap_i64]; omega
theorem mF {i n:Nat} (h:i<n) (hn:n≤4611686018427387904):IntKind.wrap .i64 ((i:Int)+1)=((i+1:Nat):Int):=by rw [iP] <;> omega
theorem kU (i n:Nat):decide ((i:Int)<(n:Int))=decide (i<n):=by simp
theorem aWf {α:Type} (l:List α) (i:Nat):idx l (i:Int)=l[i]?:=by simp [idx]
theorem mP {α:Type} {l:List α} {i:Nat} (h:i<l.length):idx l (i:Int)=some l[i]:=by rw [aWf]; simp [h]
theorem mO {M:Nat→Prop} {n:Nat} (h0:M n) (h:∀ i,i<n→M (i+1)→M i):∀ i,i≤n→M i:=by
  have:∀ k i,i+k=n→M i:=by
    intro k
    induction k with
    | zero => intro i hi; have : i = n := by omega
              subst this; exact h0
    | succ k ih=>intro i hi; exact h i (by omega) (ih (i+1) (by omega))
  exact fun i hi=>this (n - i) i (by omega)
theorem aEc {α:Type} {b:Nat} {l m:List α} (h:(l.length+m.length) * b≤140737488355328):appG b l m=some (l++m):=by unfold appG; rw [if_pos h]
theorem gather {α β γ : Type} {p : List α} {f : α → List β} {G : α → List β → Option (List β)} {L : List β → Int → Option γ} {K : List β → Option γ} {c : Nat} (hp : p.length ≤ 4194304)
    (hG:∀ y ∈ p,∀ acc:List β,acc.length+(f y).length≤c→G y acc=some (acc++f y))
    (hL:∀ (i:Nat) acc,L acc (i:Int)=if (decide ((i:Int)<(p.length:Int)))=true then ((idx p (i:Int))>>=fun y=>(G y acc)>>=fun z=>L z (IntKind.wrap .i64 ((i:Int)+1))) else K acc) :
    ∀ acc:List β,acc.length+(p.flatMap f).length≤c→L acc 0=K (acc++p.flatMap f):=by
  have key:∀ i,i≤p.length→∀ acc:List β,acc.length+((p.drop i).flatMap f).length≤c→L acc (i:Nat)=K (acc++(p.drop i).flatMap f):=by
    refine mO ?_ ?_
    · intro acc _
      rw [hL]; simp
    · intro i hi ih acc ha
      rw [List.drop_eq_getElem_cons hi,List.flatMap_cons,List.length_append] at ha
      rw [hL,mP hi,mF hi (by omega)]
      simp only [kU,hi,decide_true,if_true,Option.bind_eq_bind,Option.bind_some,hG _ (List.getElem_mem hi) acc (by omega)]
      rw [ih _ (by rw [List.length_append]; omega),List.drop_eq_getElem_cons hi,List.flatMap_cons,List.append_assoc]
  intro acc ha
  simpa using key 0 (by omega) acc (by simpa using ha)
theorem folded {α β γ : Type} {p : List α} {g : α → β → Option β} {h : α → β → β} {L : β → Int → Option γ} {K : β → Option γ} (hp : p.length ≤ 1048576)
    (hg:∀ y ∈ p,∀ b,g y b=some (h y b))
    (hL:∀ (i:Nat) b,L b (i:Int)=if (decide ((i:Int)<(p.length:Int)))=true then ((idx p (i:Int))>>=fun y=>(g y b)>>=fun z=>L z (IntKind.wrap .i64 ((i:Int)+1))) else K b) :
    ∀ b,L b 0=K (p.foldl (fun b y=>h y b) b):=by
  have key:∀ i,i≤p.length→∀ b,L b (i:Nat)=K ((p.drop i).foldl (fun b y=>h y b) b):=by
    refine mO ?_ ?_
    · intro b; rw [hL]; simp
    · intro i hi ih b
      rw [hL,mP hi,mF hi (by omega)]
      simp only [kU,hi,decide_true,if_true,Option.bind_eq_bind,Option.bind_some,hg _ (List.getElem_mem hi)]
      rw [ih,List.drop_eq_getElem_cons hi,List.foldl_cons]
  intro b
  simpa using key 0 (by omega) b
theorem aB0 {α : Type} {p : List α} {E : α → α → Option Bool} {L : Int → Option Bool} {S : List α → List α → Option Bool} (hp : p.length ≤ 1048576)
    (hS:S p p=if (!decide ((p.length:Int)=(p.length:Int)))=true then (some false) else L 0)
    (hL:∀ i:Nat,L (i:Int)=if (decide ((i:Int)<(p.length:Int)))=true then ((idx p (i:Int))>>=fun y1=>(idx p (i:Int))>>=fun y2=>(E y1 y2)>>=fun y3=>if (!y3)=true then (some false) else L (IntKind.wrap .i64 ((i:Int)+1))) else some true)
    (H:∀ y ∈ p,E y y=some true):S p p=some true:=by
  have key:∀ i,i≤p.length→L (i:Nat)=some true:=by
    refine mO ?_ ?_
    · rw [hL]; simp
    · intro i hi ih
      rw [hL]
      simp only [kU,mP hi,mF hi (by omega),H _ (List.getElem_mem hi),Option.bind_eq_bind,Option.bind_some,ih]
      simp
  rw [hS]
  have:=key 0 (by omega)
  simpa using this
mutual
def bU:aA→Nat
  | ⟨_,_,_,_,_,_,a6,a7⟩=>(a6.length+eQ a6)+(a7.length+iA a7)
def oW:bI→Nat
  | ⟨_,_,a2,_⟩=>bU a2
def jE:aP→Nat
  | ⟨_,a1,a2,a3,a4,_⟩=>(a1.length+jV a1)+(a2.length+jO a2)+(a3.length+eQ a3)+(a4.length+oJ a4)
def uQ:dL→Nat
  | ⟨a0,_⟩=>bU a0
def tF:bR→Nat
  | ⟨_,_,a2⟩=>a2.length+eQ a2
def eQ:List aA→Nat
  | []=>0
  | x::l=>bU x+eQ l
def jV:List bI→Nat
  | []=>0
  | x::l=>oW x+jV l
def iA:List aP→Nat
  | []=>0
  | x::l=>jE x+iA l
def oJ:List dL→Nat
  | []=>0
  | x::l=>uQ x+oJ l
def jO:List bR→Nat
  | []=>0
  | x::l=>tF x+jO l
end
theorem aA4:∀ l:List aA,eQ l=(l.map bU).sum
  | []=>by simp [eQ]
  | x::l=>by simp [eQ,aA4 l]
theorem aIe:∀ l:List aP,iA l=(l.map jE).sum
  | []=>by simp [iA]
  | x::l=>by simp [iA,aIe l]
theorem aIz:∀ l m:List aA,eQ (l++m)=eQ l+eQ m
  | [],m=>by simp [eQ]
  | x::l,m=>by simp [eQ,aIz l m]; omega
theorem aQw:∀ l m:List aP,iA (l++m)=iA l+iA m
  | [],m=>by simp [iA]
  | x::l,m=>by simp [iA,aQw l m]; omega
theorem aR8:∀ l m:List bI,jV (l++m)=jV l+jV m
  | [],m=>by simp [jV]
  | x::l,m=>by simp [jV,aR8 l m]; omega
theorem aNl:∀ l m:List bR,jO (l++m)=jO l+jO m
  | [],m=>by simp [jO]
  | x::l,m=>by simp [jO,aNl l m]; omega
theorem aN6:∀ {l:List aA} {k:Nat} {x y:aA} {b:Nat},l[k]?=some x→bU y≤bU x+b→eQ (l.set k y)≤eQ l+b
  | [],_,_,_,_,h,_=>by simp at h
  | z::l,0,x,y,b,h,hb=>by simp at h; subst h; simp [eQ]; omega
  | z::l,k+1,x,y,b,h,hb=>by
    simp at h
    have:=aN6 (l:=l) (k:=k) h hb
    simp [eQ]; omega
theorem aPh:∀ {l:List aA} {k:Nat} {x:aA},l[k]?=some x→bU x≤eQ l
  | [],_,_,h=>by simp at h
  | z::l,0,x,h=>by simp at h; subst h; simp [eQ]
  | z::l,k+1,x,h=>by
    simp at h
    have:=aPh (l:=l) (k:=k) h
    simp [eQ]; omega
def gM (q:aP):List aA:=q.items.flatMap (fun i=>if i.star then [] else [i.expr])++q.from_.flatMap (fun s=>s.on_)++q.where_++q.order.flatMap (fun k=>[k.expr])
theorem zQ (q:aP):jE q=(q.items.length+jV q.items)+(q.from_.length+jO q.from_)+(q.where_.length+eQ q.where_)+(q.order.length+oJ q.order):=by
  cases q; simp only [jE]
theorem zE (x:aA):bU x=(x.kids.length+eQ x.kids)+(x.sub.length+iA x.sub):=by
  cases x; simp only [bU]
theorem aFd:∀ l:List bI,(l.flatMap (fun i=>if i.star then [] else [i.expr])).length≤l.length
  | []=>by simp
  | x::l=>by
    have:=aFd l
    rw [List.flatMap_cons,List.length_append]
    have h1:(if x.star=true then [] else [x.expr]).length≤1:=by cases x.star <;> simp
    simp only [List.length_cons]; omega
theorem aD1:∀ l:List bR,(l.flatMap (fun s=>s.on_)).length≤jO l
  | []=>by simp
  | ⟨a,b,c⟩::l=>by
    have:=aD1 l
    rw [List.flatMap_cons,List.length_append]
    simp only [jO,tF]; omega
theorem aCu:∀ l:List dL,(l.flatMap (fun k=>[k.expr])).length=l.length
  | []=>by simp
  | x::l=>by rw [List.flatMap_cons,List.length_append,aCu l]; simp; omega
theorem aKh (q:aP) (hz:jE q≤1048576):qO q=some (gM q):=by
  have h:=zQ q
  have h1:=aFd q.items
  have h2:=aD1 q.from_
  have h3:=aCu q.order
  have app:∀ {l m:List aA},l.length+m.length≤1048576→appG 136 l m=some (l++m):=fun h=>aEc (by omega)
  unfold qO
  rw [gather (p:=q.items) (f:=fun i=>if i.star then [] else [i.expr]) (c:=1048576) (G:=fun y acc=>if (!y.star)=true then appG 136 acc [y.expr] else some acc) (L:=fun acc i=>P7 q acc i) (K:=fun acc=>vF q acc 0) (by omega) ?_ ?_ [] (by simp only [List.length_nil,Nat.zero_add]; omega)]
  rw [gather (p:=q.from_) (f:=fun s=>s.on_) (c:=1048576) (G:=fun y acc=>appG 136 acc y.on_) (L:=fun acc i=>vF q acc i) (K:=fun acc=>(appG 136 acc q.where_)>>=fun y7=>vW q y7 0) (by omega) ?_ ?_ _ (by simp only [List.length_append,List.length_nil]; omega)]
  rw [app (by simp only [List.length_append,List.length_nil]; omega)]
  simp only [Option.bind_eq_bind,Option.bind_some]
  rw [gather (p:=q.order) (f:=fun k=>[k.expr]) (c:=1048576) (G:=fun y acc=>appG 136 acc [y.expr]) (L:=fun acc i=>vW q acc i) (K:=fun acc=>some acc) (by omega) ?_ ?_ _ (by simp only [List.length_append,List.length_nil]; omega)]
  · simp [gM]
  · intro y _ acc ha; exact app ha
  · intro i acc; rw [vW]
  · intro y _ acc ha; exact app ha
  · intro i acc; rw [vF]
  · intro y _ acc ha
    cases hs:y.star
    · simp only [hs,Bool.not_false,if_true] at ha ⊢; exact app ha
    · simp
  · intro i acc
    rw [P7]
    simp only [L6]
    split
    · simp only [Option.bind_eq_bind]
      cases idx q.items (i:Int) with
      | none=>rfl
      | some y=>by_cases hs:y.star=true <;> simp [hs]
    · rfl
theorem aH0 (q:aP) (hz:jE q≤1048576):rF q=some (gM q):=by
  have h:=zQ q
  have h1:=aFd q.items
  have h2:=aD1 q.from_
  have h3:=aCu q.order
  have app:∀ {l m:List aA},l.length+m.length≤1048576→appG 136 l m=some (l++m):=fun h=>aEc (by omega)
  unfold rF
  rw [gather (p:=q.items) (f:=fun i=>if i.star then [] else [i.expr]) (c:=1048576) (G:=fun y acc=>if (!y.star)=true then appG 136 acc [y.expr] else some acc) (L:=fun acc i=>R3 q acc i) (K:=fun acc=>vQ q acc 0) (by omega) ?_ ?_ [] (by simp only [List.length_nil,Nat.zero_add]; omega)]
  rw [gather (p:=q.from_) (f:=fun s=>s.on_) (c:=1048576) (G:=fun y acc=>appG 136 acc y.on_) (L:=fun acc i=>vQ q acc i) (K:=fun acc=>(appG 136 acc q.where_)>>=fun y7=>wK q y7 0) (by omega) ?_ ?_ _ (by simp only [List.length_append,List.length_nil]; omega)]
  rw [app (by simp only [List.length_append,List.length_nil]; omega)]
  simp only [Option.bind_eq_bind,Option.bind_some]
  rw [gather (p:=q.order) (f:=fun k=>[k.expr]) (c:=1048576) (G:=fun y acc=>appG 136 acc [y.expr]) (L:=fun acc i=>wK q acc i) (K:=fun acc=>some acc) (by omega) ?_ ?_ _ (by simp only [List.length_append,List.length_nil]; omega)]
  · simp [gM]
  · intro y _ acc ha; exact app ha
  · intro i acc; rw [wK]
  · intro y _ acc ha; exact app ha
  · intro i acc; rw [vQ]
  · intro y _ acc ha
    cases hs:y.star
    · simp only [hs,Bool.not_false,if_true] at ha ⊢; exact app ha
    · simp
  · intro i acc
    rw [R3]
    simp only [W9]
    split
    · simp only [Option.bind_eq_bind]
      cases idx q.items (i:Int) with
      | none=>rfl
      | some y=>by_cases hs:y.star=true <;> simp [hs]
    · rfl
theorem aDf (a:Int):0≤IntKind.wrap .i64 ((BitVec.ofInt (IntKind.bits .i64) a &&& BitVec.ofInt (IntKind.bits .i64) 255).toNat:Int)∧IntKind.wrap .i64 ((BitVec.ofInt (IntKind.bits .i64) a &&& BitVec.ofInt (IntKind.bits .i64) 255).toNat:Int)≤255:=by
  have h:(BitVec.ofInt (IntKind.bits .i64) a &&& BitVec.ofInt (IntKind.bits .i64) 255).toNat≤255:=by
    rw [BitVec.toNat_and]
    exact Nat.le_trans Nat.and_le_right (by decide)
  rw [iP (by omega) (by omega)]
  omega
def okCur (c:aB):Prop:=0≤c.i∧c.i≤(c.b.length:Int)∧c.b.length≤1048576
theorem L9 (c:aB) (h:okCur c):∃ x c',lM c=some (x,c')∧0≤x∧x≤255∧okCur c':=by
  obtain ⟨h1,h2,h3⟩:=h
  unfold lM Y0
  by_cases hi:c.i<(c.b.length:Int)
  · have e : ∃ v, idx c.b c.i = some v := by
      unfold idx
      rw [if_pos h1]
      exact ⟨_,List.getElem?_eq_getElem (by omega)⟩
    obtain ⟨v,hv⟩:=e
    rw [if_pos (by simpa using hi),hv]
    simp only [Option.bind_eq_bind,Option.bind_some]
    refine ⟨_,_,rfl,(aDf _).1,(aDf _).2,?_⟩
    refine ⟨?_,?_,h3⟩
    · show 0≤IntKind.wrap .i64 (c.i+1); rw [iP (by omega) (by omega)]; omega
    · show IntKind.wrap .i64 (c.i+1)≤(c.b.length:Int); rw [iP (by omega) (by omega)]; omega
  · rw [if_neg (by simpa using hi)]
    exact ⟨_,_,rfl,(aDf _).1,(aDf _).2,h1,h2,h3⟩
theorem aSm {a b:Int} (h0:0≤a) (hb:0<b):∃ r,Q3 a b=some r∧0≤r∧r<b:=by
  unfold Q3
  rw [if_neg (by omega)]
  exact ⟨_,rfl,Int.tmod_nonneg _ h0,Int.tmod_lt_of_pos _ hb⟩
theorem pR (c:aB) (n:Int) (h:okCur c):∃ x c',eZ c n=some (x,c')∧0≤x∧(0<n→x<n)∧okCur c':=by
  unfold eZ
  by_cases h0:n≤0
  · rw [if_pos (by simpa using h0)]; exact ⟨0,c,rfl,by omega,by omega,h⟩
  rw [if_neg (by simpa using h0)]
  by_cases h1:n≤256
  · rw [if_pos (by simpa using h1)]
    obtain ⟨x,c1,e1,a1,b1,o1⟩:=L9 c h
    obtain ⟨r,er,r0,r1⟩:=aSm a1 (b:=n) (by omega)
    simp only [e1,Option.bind_eq_bind,Option.bind_some,er]
    exact ⟨r,c1,rfl,r0,fun _=>r1,o1⟩
  · rw [if_neg (by simpa using h1)]
    obtain ⟨x1,c1,e1,a1,b1,o1⟩:=L9 c h
    obtain ⟨x2,c2,e2,a2,b2,o2⟩:=L9 c1 o1
    obtain ⟨x3,c3,e3,a3,b3,o3⟩:=L9 c2 o2
    obtain ⟨x4,c4,e4,a4,b4,o4⟩:=L9 c3 o3
    simp only [e1,e2,e3,e4,Option.bind_eq_bind,Option.bind_some]
    rw [iP (n:=x1 * 16777216) (by omega) (by omega),iP (n:=x2 * 65536) (by omega) (by omega),iP (n:=x3 * 256) (by omega) (by omega),iP (n:=x1 * 16777216+x2 * 65536) (by omega) (by omega),iP (n:=x1 * 16777216+x2 * 65536+x3 * 256) (by omega) (by omega),iP (n:=x1 * 16777216+x2 * 65536+x3 * 256+x4) (by omega) (by omega)]
    obtain ⟨r,er,r0,r1⟩:=aSm (a:=x1 * 16777216+x2 * 65536+x3 * 256+x4) (by omega) (b:=n) (by omega)
    rw [er]
    exact ⟨r,c4,rfl,r0,fun _=>r1,o4⟩
theorem aE9 (c:aB) (n:Int) (h:okCur c):∃ x c',fE c n=some (x,c')∧okCur c':=by
  obtain ⟨x,c1,e1,_,_,o1⟩:=pR c n h
  unfold fE
  simp only [e1,Option.bind_eq_bind,Option.bind_some]
  exact ⟨_,_,rfl,o1⟩
theorem aEq {α:Type} {l:List α} {x:Int} (h0:0≤x) (h1:x<(l.length:Int)):∃ v,v ∈ l∧idx l x=some v:=by
  unfold idx
  rw [if_pos h0]
  exact ⟨_,List.getElem_mem (by omega),List.getElem?_eq_getElem (by omega)⟩
theorem aHy (c:aB) (l:List (List UInt8)) (hl:0<l.length) (h:okCur c):∃ x c',jM c l=some (x,c')∧x ∈ l∧okCur c':=by
  obtain ⟨x,c1,e1,h0,h1,o1⟩:=pR c l.length h
  obtain ⟨v,hv,ev⟩:=aEq h0 (h1 (by omega))
  unfold jM
  simp only [e1,ev,Option.bind_eq_bind,Option.bind_some]
  exact ⟨_,_,rfl,hv,o1⟩
theorem aOo (c:aB) (l:List Int) (hl:0<l.length) (h:okCur c):∃ x c',pY c l=some (x,c')∧x ∈ l∧okCur c':=by
  obtain ⟨x,c1,e1,h0,h1,o1⟩:=pR c l.length h
  obtain ⟨v,hv,ev⟩:=aEq h0 (h1 (by omega))
  unfold pY
  simp only [e1,ev,Option.bind_eq_bind,Option.bind_some]
  exact ⟨_,_,rfl,hv,o1⟩
theorem aNb (c:aB) (h:okCur c):∃ x c',vT c=some (x,c')∧okCur c':=by
  obtain ⟨x,c1,e1,_,_,o1⟩:=pR c 3 h
  obtain ⟨y,c2,e2,_,o2⟩:=aOo c1 [0,1,(-1),63,64,(-64),(-65),127,128,16383,16384,9223372036854775807,(-9223372036854775808),4611686018427387904] (by decide) o1
  obtain ⟨z,c3,e3,_,_,o3⟩:=pR c1 1000000 o1
  obtain ⟨w,c4,e4,_,_,o4⟩:=pR c1 20 o1
  unfold vT
  simp only [e1,e2,e3,e4,Option.bind_eq_bind,Option.bind_some]
  split
  · exact ⟨_,_,rfl,o2⟩
  split
  · exact ⟨_,_,rfl,o3⟩
  · exact ⟨_,_,rfl,o4⟩
theorem aTc (p:List Int) (hp:p.length≤1048576):∃ c,I9 p=some c∧okCur c:=by
  unfold I9
  have key:∀ i,i≤p.length→∀ h,∃ c,vH p h (i:Nat)=some c∧okCur c:=by
    refine mO ?_ ?_
    · intro h
      rw [vH]
      refine ⟨⟨p,0,h⟩,by simp,?_⟩
      exact ⟨by show (0:Int)≤0; omega,by show (0:Int)≤(p.length:Int); omega,hp⟩
    · intro i hi ih h
      rw [vH]
      by_cases h4:(i:Int)<4000
      · simp only [kU,hi,h4,decide_true,if_true,mP hi,mF hi (by omega),Option.bind_eq_bind,Option.bind_some]
        exact ih _
      · simp only [kU,hi,h4,decide_true,decide_false,if_true,Bool.false_eq_true,if_false]
        exact ⟨⟨p,0,h⟩,rfl,by show (0:Int)≤0; omega,by show (0:Int)≤(p.length:Int); omega,hp⟩
  exact key 0 (by omega) _
theorem bA0 (b:Bool):∃ v,aFf b=some v:=by cases b <;> exact ⟨_,rfl⟩
theorem aOw (c:aB) (h:okCur c):∃ x c',uK c=some (x,c')∧okCur c':=by
  obtain ⟨b,c1,e1,_,_,o1⟩:=pR c 6 h
  obtain ⟨s,c2,e2,_,o2⟩:=aHy c1 [[],[97],[98],[105,116,39,115],[97,98],[255]] (by decide) o1
  obtain ⟨b3,c3,e3,o3⟩:=aE9 c1 2 o1
  obtain ⟨w,c4,e4,o4⟩:=aNb c1 o1
  obtain ⟨z,c5,e5,_,_,o5⟩:=pR c1 7 o1
  obtain ⟨v,hv⟩:=bA0 b3
  unfold uK
  simp only [e1,e2,e3,e4,e5,hv,aE4,aCa,Option.bind_eq_bind,Option.bind_some]
  repeat' split
  all_goals first | exact ⟨_,_,rfl,o1⟩ | exact ⟨_,_,rfl,o2⟩ | exact ⟨_,_,rfl,o3⟩ | exact ⟨_,_,rfl,o4⟩ | exact ⟨_,_,rfl,o5⟩
theorem aOl {a b:List UInt8} (h:a.length+b.length≤1048576):D9 a b=some (a++b):=by unfold D9; rw [if_pos (by simp only [maxLen]; omega)]
theorem aVu (y:bC×aB):∀ n (t:List UInt8) (b:List Int) (i h:Int),400≤n+t.length→okCur ⟨b,i,h⟩→∃ x c',vE y t b i h=some (x,c')∧okCur c':=by
  intro n
  induction n with
  | zero =>
    intro t b i h ht ho
    obtain ⟨q,c1,e1,o1⟩:=aE9 _ 2 ho
    rw [vE]
    simp only [e1,Option.bind_eq_bind,Option.bind_some,uD]
    rw [if_neg (by split <;> simp; omega)]
    exact ⟨_,_,rfl,o1⟩
  | succ n ih =>
    intro t b i h ht ho
    obtain ⟨q,c1,e1,o1⟩:=aE9 _ 2 ho
    rw [vE]
    simp only [e1,Option.bind_eq_bind,Option.bind_some,uD]
    by_cases hq:(if q=true then (decide ((t.length:Int)<400)) else false)=true
    · rw [if_pos hq]
      have hl:t.length<400:=by cases q <;> simp at hq; omega
      rw [aOl (by omega)]
      simp only [Option.bind_some]
      rw [aOl (by simp; omega)]
      simp only [Option.bind_some]
      exact ih _ _ _ _ (by simp; omega) o1
    · rw [if_neg hq]; exact ⟨_,_,rfl,o1⟩
theorem bEj (c:aB) (h:okCur c):∃ x c',wO c=some (x,c')∧okCur c':=by
  obtain ⟨x,c1,e1,o1⟩:=aOw c h
  obtain ⟨b,c2,e2,_,_,o2⟩:=pR c1 14 o1
  obtain ⟨z,c3,e3,_,_,o3⟩:=pR c2 6 o2
  obtain ⟨w,c4,e4,o4⟩:=aNb c2 o2
  obtain ⟨s,c5,e5,_,o5⟩:=aHy c2 [[120],[],[108,111,110,103]] (by decide) o2
  obtain ⟨u,c6,e6,o6⟩:=aVu (x,c1) 400 s c5.b c5.i c5.h (by omega) o5
  unfold wO
  simp only [e1,e2,e3,e4,e5,e6,uD,Option.bind_eq_bind,Option.bind_some]
  repeat' split
  all_goals first | exact ⟨_,_,rfl,o2⟩ | exact ⟨_,_,rfl,o3⟩ | exact ⟨_,_,rfl,o4⟩ | exact ⟨_,_,rfl,o5⟩ | exact ⟨_,_,rfl,o6⟩
theorem aV4 (p:Int) (hp:p≤1000):∀ (n:Nat) (x:List Int) (i:Int) (b:List Int) (j h:Int),p≤n+i→0≤i→x.length=i.toNat→i≤1000→(∀ v ∈ x,0≤v∧v<256)→okCur ⟨b,j,h⟩→∃ y c',uU p x i b j h=some (y,c')∧(∀ v ∈ y,0≤v∧v<256)∧okCur c':=by
  intro n
  induction n with
  | zero =>
    intro x i b j h h1 h2 h3 _ h5 h4
    rw [uU,if_neg (by simp; omega)]
    exact ⟨_,_,rfl,h5,h4⟩
  | succ n ih =>
    intro x i b j h h1 h2 h3 hi0 h5 h4
    rw [uU]
    by_cases hi:i<p
    · rw [if_pos (by simpa using hi)]
      obtain ⟨v,c',e1,_,_,e4⟩:=L9 ⟨b,j,h⟩ h4
      simp only [e1,Option.bind_eq_bind,Option.bind_some]
      rw [aEc (by simp; omega),iP (by omega) (by omega)]
      simp only [Option.bind_some]
      refine ih (x++[IntKind.wrap .u8 v]) (i+1) c'.b c'.i c'.h (by omega) (by omega) (by simp [h3]; omega) (by omega) ?_ e4
      intro u hu
      rcases List.mem_append.1 hu with hu | hu
      · exact h5 u hu
      · have:u=IntKind.wrap .u8 v:=by simpa using hu
        rw [this]; simp [IntKind.wrap,IntKind.bits,IntKind.signed]; omega
    · rw [if_neg (by simpa using hi)]
      exact ⟨_,_,rfl,h5,h4⟩
theorem aZa (l:List Int) (h:∀ v ∈ l,0≤v∧v<256):∃ s,ofBytes l=some s:=by
  unfold ofBytes
  rw [if_pos (by simpa using h)]
  exact ⟨_,rfl⟩
def Yes {α:Type} (m:Option α) (Q:α→Prop):Prop:=∃ r,m=some r∧Q r
theorem Yes.bind {α β:Type} {m:Option α} {k:α→Option β} {Q:α→Prop} {R:β→Prop} (h:Yes m Q) (hk:∀ x,Q x→Yes (k x) R):Yes (m>>=k) R:=by
  obtain ⟨x,e,hx⟩:=h
  obtain ⟨r,e2,hr⟩:=hk x hx
  exact ⟨r,by rw [e]; exact e2,hr⟩
theorem Yes.some {α:Type} {x:α} {Q:α→Prop} (h:Q x):Yes (some x) Q:=⟨x,rfl,h⟩
theorem Yes.mono {α:Type} {m:Option α} {Q R:α→Prop} (h:Yes m Q) (hk:∀ x,Q x→R x):Yes m R:=by
  obtain ⟨x,e,hx⟩:=h; exact ⟨x,e,hk x hx⟩
theorem Yes.ite {α:Type} {c:Prop} [Decidable c] {m m':Option α} {Q:α→Prop} (h:c→Yes m Q) (h':¬ c→Yes m' Q):Yes (if c then m else m') Q:=by
  split
  · exact h (by assumption)
  · exact h' (by assumption)
theorem mZ (c:aB) (n:Int) (h:okCur c):Yes (eZ c n) fun r=>0≤r.1∧(0<n→r.1<n)∧okCur r.2:=by
  obtain ⟨x,c',e,h1,h2,h3⟩:=pR c n h; exact ⟨_,e,h1,h2,h3⟩
theorem kP (c:aB) (n:Int) (h:okCur c):Yes (fE c n) fun r=>okCur r.2:=by
  obtain ⟨x,c',e,h1⟩:=aE9 c n h; exact ⟨_,e,h1⟩
theorem aDh (p:Bool) (b:Bool) (c:aB) (n:Int) (h:okCur c):Yes (if (true&&(p==b))=true then fE c n else some ((default:Bool),c)) fun r=>okCur r.2:=Yes.ite (fun _=>kP c n h) fun _=>Yes.some h
theorem yE (c:aB) (l:List (List UInt8)) (hl:0<l.length) (h:okCur c):Yes (jM c l) fun r=>okCur r.2:=by
  obtain ⟨x,c',e,_,h1⟩:=aHy c l hl h; exact ⟨_,e,h1⟩
theorem aQ2 (c:aB) (l:List Int) (hl:0<l.length) (h:okCur c):Yes (pY c l) fun r=>okCur r.2:=by
  obtain ⟨x,c',e,_,h1⟩:=aOo c l hl h; exact ⟨_,e,h1⟩
theorem aVc (c:aB) (h:okCur c):Yes (wO c) fun r=>okCur r.2:=by
  obtain ⟨x,c',e,h1⟩:=bEj c h; exact ⟨_,e,h1⟩
theorem bDe (c:aB) (h:okCur c):Yes (uK c) fun r=>okCur r.2:=by
  obtain ⟨x,c',e,h1⟩:=aOw c h; exact ⟨_,e,h1⟩
theorem vU {α:Type} {b:Nat} {l m:List α} (h:(l.length+m.length) * b≤140737488355328):Yes (appG b l m) fun r=>r=l++m:=⟨_,aEc h,rfl⟩
theorem aCr (c:aB) (h:okCur c):Yes (oZ c) fun r=>okCur r.2:=by
  unfold oZ
  refine Yes.bind (kP _ _ h) fun r k=>Yes.ite (fun _=>?_) fun _=>?_
  · exact Yes.bind (yE _ _ (by decide) k) fun r k=>Yes.some k
  · exact Yes.bind (yE _ _ (by decide) k) fun r k=>Yes.some k
theorem aPn (c:aB) (h:okCur c):Yes (wL c) fun r=>okCur r.2:=by
  unfold wL
  refine Yes.bind (mZ _ _ h) fun r ⟨_,_,k⟩=>Yes.ite (fun _=>?_) fun _=>Yes.ite (fun _=>?_) fun _=>Yes.ite (fun _=>?_) fun _=>?_
  · exact Yes.bind (yE _ _ (by decide) k) fun r k=>Yes.some k
  · refine Yes.bind (Q:=fun l:List (List UInt8)=>l.length=29) ⟨_,rfl,by decide⟩ fun l hl=>Yes.bind (mZ _ _ k) fun r ⟨h0,h1,k⟩=>?_
    obtain ⟨v,_,hv⟩:=aEq (l:=l) h0 (by rw [hl]; exact h1 (by decide))
    exact Yes.bind (Q:=fun _=>True) ⟨v,hv,trivial⟩ fun _ _=>Yes.some k
  · refine Yes.bind (mZ _ _ k) fun r ⟨h0,h1,k⟩=>?_
    have h1':=h1 (by decide)
    obtain ⟨y,c3,e3,l3,k3⟩:=aV4 r.1 (by omega) 5 [] 0 r.2.b r.2.i r.2.h (by omega) (by omega) rfl (by omega) (by simp) k
    obtain ⟨s,hs⟩:=aZa y l3
    exact Yes.bind (Q:=fun z=>z=(y,c3)) ⟨_,e3,rfl⟩ fun z hz=>Yes.bind (Q:=fun _=>True) ⟨s,by rw [hz]; exact hs,trivial⟩ fun _ _=>Yes.some (by rw [hz]; exact k3)
  · exact Yes.bind (aCr _ k) fun r k=>Yes.some k
theorem aEu (c:aB) (h:okCur c):Yes (rD c) fun r=>r.1.kids=[]∧r.1.sub=[]∧okCur r.2:=by
  have J1:∀ a b c i j,okCur ⟨c,i,j⟩→Yes (aAu a b c i j) fun r=>r.1.kids=[]∧r.1.sub=[]∧okCur r.2:=fun a b c i j k=>Yes.some ⟨rfl,rfl,k⟩
  have J0:∀ y a c i j,okCur ⟨c,i,j⟩→Yes (V3 y a c i j) fun r=>r.1.kids=[]∧r.1.sub=[]∧okCur r.2:=fun y a c i j k=>by
    unfold V3
    exact Yes.bind (kP _ _ k) fun r k=>Yes.ite (fun _=>Yes.bind (aCr _ k) fun r k=>J1 _ _ _ _ _ k) fun _=>J1 _ _ _ _ _ k
  unfold rD
  exact Yes.bind (yE _ _ (by decide) h) fun r k=>Yes.bind (kP _ _ k) fun r k=>Yes.ite (fun _=>Yes.bind (yE _ _ (by decide) k) fun r k=>J0 _ _ _ _ _ k) fun _=>J0 _ _ _ _ _ k
theorem aT0 (c:aB) (h:okCur c):Yes (zI c) fun r=>okCur r.2:=by
  unfold zI aBp
  exact Yes.bind (bDe _ h) fun r k=>Yes.bind (Q:=fun _=>True) ⟨_,rfl,trivial⟩ fun b _=>Yes.ite (fun _=>Yes.some k) fun _=>Yes.some k
def okE (B:Nat) (r:aA×aB):Prop:=bU r.1≤B∧okCur r.2
def Zb:Nat→Nat
  | 0=>0
  | n+1=>12+9 * Zb n
theorem bFf (B : Nat) (d : Int) (m : Int) (hm : m ≤ 3) (H : ∀ c, okCur c → Yes (lU c (IntKind.wrap .i64 (d - 1))) (okE B)) :
    ∀ (k:Nat) (i:Int) b j h (l:List aA),m≤k+i→0≤i→i≤3→(l.length:Int)≤i→eQ l≤l.length * B→okCur ⟨b,j,h⟩→Yes (zA d m i b j h l) fun r=>r.1.length≤3∧eQ r.1≤r.1.length * B∧okCur r.2:=by
  intro k
  induction k with
  | zero =>
    intro i b j h l h1 h2 h3 h4 h5 h6
    rw [zA,if_neg (by simp; omega)]
    exact Yes.some ⟨by show l.length≤3; omega,h5,h6⟩
  | succ k ih =>
    intro i b j h l h1 h2 h3 h4 h5 h6
    rw [zA]
    refine Yes.ite (fun hi=>?_) fun _=>Yes.some ⟨by show l.length≤3; omega,h5,h6⟩
    have hi':i<m:=by simpa using hi
    refine Yes.bind (H _ h6) fun r ⟨hz,hr⟩=>Yes.bind (vU (by simp; omega)) fun y hy=>?_
    subst hy
    rw [iP (by omega) (by omega)]
    refine ih _ _ _ _ _ (by omega) (by omega) (by omega) (by simp; omega) ?_ hr
    rw [aIz,List.length_append,Nat.add_mul]
    simp [eQ]; omega
theorem bFn (B:Nat) (d:Int) (m:Int) (hm:m≤3) (H:∀ c,okCur c→Yes (lU c (IntKind.wrap .i64 (d - 1))) (okE B)) (c:aB) (h:okCur c):Yes (oQ c d m) fun r=>r.1.length≤3∧eQ r.1≤3 * B∧okCur r.2:=by
  rw [oQ]
  refine (bFf B d m hm H m.toNat 0 c.b c.i c.h [] (by omega) (by omega) (by omega) (by simp) (by simp [eQ]) h).mono fun r ⟨h1,h2,h3⟩=>⟨h1,Nat.le_trans h2 (Nat.mul_le_mul_right _ h1),h3⟩
def qOk (B:Nat) (r:aP×aB):Prop:=jE r.1≤8+6 * B∧okCur r.2
section
variable {B:Nat} {d:Int} (H:∀ c,okCur c→Yes (lU c d) (okE B))
theorem aQ5 {y1 : Bool × aB} {o : List dL} {w : List aA} {f : List bR} {it : List bI} {lim : Int} {b : List Int} {i j : Int} (h1 : it.length + jV it ≤ 2 + 2 * B) (h2 : f.length + jO f ≤ 4 + 2 * B) (h3 : w.length + eQ w ≤ 1 + B) (h4 : o.length + oJ o ≤ 1 + B)
    (k:okCur ⟨b,i,j⟩):Yes (aAk y1 o w f it lim b i j) (qOk B):=Yes.some ⟨by simp only [jE]; omega,k⟩
theorem aQr {y1 : Bool × aB} {o : List dL} {w : List aA} {f : List bR} {it : List bI} {b : List Int} {i j : Int} (h1 : it.length + jV it ≤ 2 + 2 * B) (h2 : f.length + jO f ≤ 4 + 2 * B) (h3 : w.length + eQ w ≤ 1 + B) (h4 : o.length + oJ o ≤ 1 + B)
    (k:okCur ⟨b,i,j⟩):Yes (zO y1 f it b i j o w) (qOk B):=by
  unfold zO
  exact Yes.bind (kP _ _ k) fun r k=>Yes.ite (fun _=>Yes.bind (aQ2 _ _ (by decide) k) fun r k=>aQ5 h1 h2 h3 h4 k) fun _=>aQ5 h1 h2 h3 h4 k
include H
theorem aRj {y1 : Bool × aB} {w : List aA} {f : List bR} {it : List bI} {b : List Int} {i j : Int} (h1 : it.length + jV it ≤ 2 + 2 * B) (h2 : f.length + jO f ≤ 4 + 2 * B) (h3 : w.length + eQ w ≤ 1 + B)
    (k:okCur ⟨b,i,j⟩):Yes (xD d y1 it b i j (w,f)) (qOk B):=by
  rw [xD]
  refine Yes.bind (kP _ _ k) fun r k=>Yes.ite (fun _=>?_) fun _=>aQr h1 h2 h3 (by simp [oJ]) k
  refine Yes.bind (H _ k) fun r ⟨hz,k⟩=>Yes.bind (kP _ _ k) fun r2 k=>Yes.bind (vU (by simp)) fun y hy=>?_
  subst hy
  exact aQr h1 h2 h3 (by simp [oJ,uQ]; omega) k
theorem bFl {y1 y16 : Bool × aB} {y : Int × aB} (hy : y.1 < 2) (hy0 : 0 ≤ y.1) {it : List bI} (h1 : it.length + jV it ≤ 2 + 2 * B) : ∀ (n : Nat) (x : Int) (b : List Int) (i j : Int) (f : List bR), 1 + y.1 ≤ n + x → 0 ≤ x → (f.length : Int) ≤ x → x ≤ 2 → f.length + jO f ≤ f.length * (2 + B) → okCur ⟨b, i, j⟩ →
    Yes (wE d y y1 it x b (i,(j,f))) (qOk B):=by
  have e0:IntKind.wrap .i64 (1+y.1)=1+y.1:=iP (by omega) (by omega)
  have fin:∀ (x:Int) (b:List Int) (i j:Int) (f:List bR),¬ x<1+y.1→(f.length:Int)≤x→x≤2→f.length+jO f≤f.length * (2+B)→okCur ⟨b,i,j⟩→Yes (wE d y y1 it x b (i,(j,f))) (qOk B):=by
    intro x b i j f hx hl h2 hf k
    have hm:f.length * (2+B)≤2 * (2+B):=Nat.mul_le_mul_right _ (by omega)
    have hF:f.length+jO f≤4+2 * B:=by omega
    rw [wE,e0,if_neg (by simpa using hx)]
    refine Yes.bind (kP _ _ k) fun r k=>Yes.ite (fun _=>?_) fun _=>aRj H h1 hF (by simp [eQ]) k
    exact Yes.bind (H _ k) fun r ⟨hz,k⟩=>aRj H h1 hF (by simp [eQ]; omega) k
  intro n
  induction n with
  | zero=>intro x b i j f hn h0 hl h2 hf k; exact fin x b i j f (by omega) hl h2 hf k
  | succ n ih =>
    intro x b i j f hn h0 hl h2 hf k
    by_cases hx:x<1+y.1
    · have J6 : ∀ (t : List UInt8 × aB) (s : List UInt8) (b : List Int) (i j : Int) (on : List aA), on.length + eQ on ≤ 1 + B → okCur ⟨b, i, j⟩ → Yes (O8 d y x y1 t s (it, (b, (i, (j, (on, f)))))) (qOk B) := by
        intro t s b i j on ho k
        rw [O8]
        refine Yes.bind (vU (by simp; omega)) fun z hz=>?_
        subst hz
        rw [iP (by omega) (by omega)]
        refine ih _ _ _ _ _ (by omega) (by omega) (by simp; omega) (by omega) ?_ k
        rw [aNl,List.length_append,Nat.add_mul]
        simp only [List.length_cons,List.length_nil,jO,tF]; omega
      have J4:∀ (t:List UInt8×aB) (s:List UInt8) (b:List Int) (i j:Int),okCur ⟨b,i,j⟩→Yes (E5 d y x y1 t f (it,(s,(b,(i,j))))) (qOk B):=by
        intro t s b i j k
        rw [E5]
        refine Yes.bind (aDh _ _ _ _ k) fun r k=>Yes.bind (Q:=fun _=>True) ⟨_,rfl,trivial⟩ fun q _=>Yes.ite (fun _=>?_) fun _=>J6 _ _ _ _ _ _ (by simp [eQ]) k
        exact Yes.bind (H _ k) fun r ⟨hz,k⟩=>J6 _ _ _ _ _ _ (by simp [eQ]; omega) k
      rw [wE,e0,if_pos (by simpa using hx)]
      exact Yes.bind (yE _ _ (by decide) k) fun r k=>Yes.bind (kP _ _ k) fun r2 k=>Yes.ite (fun _=>Yes.bind (aCr _ k) fun r3 k=>J4 _ _ _ _ _ k) fun _=>J4 _ _ _ _ _ k
    · exact fin x b i j f hx hl h2 hf k
theorem aVg {y1 : Bool × aB} {y : Int × aB} (hy : y.1 < 2) (hy0 : 0 ≤ y.1) : ∀ (n : Nat) (x : Int) (b : List Int) (i j : Int) (f : List bI), 1 + y.1 ≤ n + x → 0 ≤ x → (f.length : Int) ≤ x → x ≤ 2 → f.length + jV f ≤ f.length * (1 + B) → okCur ⟨b, i, j⟩ →
    Yes (uT d y y1 x b i (j,f)) (qOk B):=by
  have e0:IntKind.wrap .i64 (1+y.1)=1+y.1:=iP (by omega) (by omega)
  have fin:∀ (x:Int) (b:List Int) (i j:Int) (f:List bI),¬ x<1+y.1→(f.length:Int)≤x→x≤2→f.length+jV f≤f.length * (1+B)→okCur ⟨b,i,j⟩→Yes (uT d y y1 x b i (j,f)) (qOk B):=by
    intro x b i j f hx hl h2 hf k
    have hm:f.length * (1+B)≤2 * (1+B):=Nat.mul_le_mul_right _ (by omega)
    have hI:f.length+jV f≤2+2 * B:=by omega
    rw [uT,e0,if_neg (by simpa using hx)]
    refine Yes.bind (mZ _ _ k) fun r ⟨r0,r1,k⟩=>?_
    exact bFl (y16:=y1) H (r1 (by decide)) r0 hI 2 0 _ _ _ _ (by have:=r1 (by decide); omega) (by omega) (by simp) (by omega) (by simp [jO]) k
  intro n
  induction n with
  | zero=>intro x b i j f hn h0 hl h2 hf k; exact fin x b i j f (by omega) hl h2 hf k
  | succ n ih =>
    intro x b i j f hn h0 hl h2 hf k
    by_cases hx:x<1+y.1
    · have J1 : ∀ (b : List Int) (i j : Int) (it : bI), oW it ≤ B → okCur ⟨b, i, j⟩ → Yes (xJ d y x y1 b i (j, f ++ [it])) (qOk B) := by
        intro b i j it ho k
        rw [xJ,iP (by omega) (by omega)]
        refine ih _ _ _ _ _ (by omega) (by omega) (by simp; omega) (by omega) ?_ k
        rw [aR8,List.length_append,Nat.add_mul]
        simp only [List.length_cons,List.length_nil,jV]; omega
      have J2:∀ (t:aA×aB) (s:List UInt8) (b:List Int) (i j:Int),bU t.1≤B→okCur ⟨b,i,j⟩→Yes (K7 d y x y1 t f (s,(b,(i,j)))) (qOk B):=by
        intro t s b i j hz k
        rw [K7]
        refine Yes.bind (vU (by simp; omega)) fun z hz=>?_
        subst hz
        exact J1 _ _ _ _ (by simpa [oW] using by assumption) k
      rw [uT,e0,if_pos (by simpa using hx)]
      refine Yes.bind (mZ _ _ k) fun r ⟨_,_,k⟩=>Yes.ite (fun _=>?_) fun _=>Yes.ite (fun _=>?_) fun _=>?_
      · refine Yes.bind (vU (by simp; omega)) fun z hz=>?_
        subst hz
        exact J1 _ _ _ _ (by simp [oW,bU,eQ,iA]) k
      · refine Yes.bind (yE _ _ (by decide) k) fun r k=>Yes.bind (vU (by simp; omega)) fun z hz=>?_
        subst hz
        exact J1 _ _ _ _ (by simp [oW,bU,eQ,iA]) k
      · exact Yes.bind (H _ k) fun r ⟨hz,k⟩=>Yes.bind (kP _ _ k) fun r2 k=>Yes.ite (fun _=>Yes.bind (aCr _ k) fun r3 k=>J2 _ _ _ _ _ hz k) fun _=>J2 _ _ _ _ _ hz k
    · exact fin x b i j f hx hl h2 hf k
theorem aYr (c:aB) (k:okCur c):Yes (yF c d) (qOk B):=by
  rw [yF]
  exact Yes.bind (kP _ _ k) fun r k=>Yes.bind (mZ _ _ k) fun r2 ⟨r0,r1,k⟩=>aVg H (r1 (by decide)) r0 2 0 _ _ _ _ (by have:=r1 (by decide); omega) (by omega) (by simp) (by omega) (by simp [jV]) k
end
theorem aZh:∀ (n:Nat) (d:Int) (c:aB),d≤n→n≤100→okCur c→Yes (lU c d) (okE (Zb n)):=by
  intro n
  induction n with
  | zero =>
    intro d c hd _ h
    rw [lU]
    refine Yes.bind (aDh _ _ _ _ h) fun r k=>Yes.bind (Q:=fun q=>q=true) ⟨_,rfl,by rw [if_pos (by simpa using hd)]⟩ fun q hq=>?_
    rw [if_pos hq]
    refine Yes.bind (kP _ _ k) fun r k=>Yes.ite (fun _=>Yes.bind (aEu _ k) fun r ⟨h1,h2,k⟩=>Yes.some ⟨?_,k⟩) fun _=>Yes.bind (aT0 _ k) fun r k=>Yes.some ⟨by simp [bU,eQ,iA],k⟩
    show bU r.1≤0
    rw [zE]; simp [h1,h2,eQ,iA]
  | succ n ih =>
    intro d c hd hn h
    have hB:Zb (n+1)=12+9 * Zb n:=rfl
    rw [lU]
    refine Yes.bind (aDh _ _ _ _ h) fun r k=>Yes.bind (Q:=fun q=>q=true∨0<d) ⟨_,rfl,?_⟩ fun q hq=>Yes.ite (fun _=>?_) fun hq2=>?_
    · by_cases h0:d≤0
      · exact .inl (by rw [if_pos (by simpa using h0)])
      · exact .inr (by omega)
    · refine Yes.bind (kP _ _ k) fun r k=>Yes.ite (fun _=>Yes.bind (aEu _ k) fun r ⟨h1,h2,k⟩=>Yes.some ⟨?_,k⟩) fun _=>Yes.bind (aT0 _ k) fun r k=>Yes.some ⟨by simp [bU,eQ,iA],k⟩
      show bU r.1≤_
      rw [zE]; simp [h1,h2,eQ,iA]
    · have h0:0<d:=hq.resolve_left hq2
      have e1:IntKind.wrap .i64 (d - 1)=d - 1:=iP (by omega) (by omega)
      have H1:∀ c,okCur c→Yes (lU c (IntKind.wrap .i64 (d - 1))) (okE (Zb n)):=fun c k=>ih _ c (by omega) (by omega) k
      have K:∀ m c,m≤3→okCur c→Yes (oQ c d m) fun r=>r.1.length≤3∧eQ r.1≤3 * Zb n∧okCur r.2:=fun m c hm k=>bFn (Zb n) d m hm H1 c k
      have Q2:∀ c,1<d→okCur c→Yes (yF c (IntKind.wrap .i64 (d - 2))) (qOk (Zb n)):=fun c h2 k=>aYr (fun c k=>ih _ c (by rw [iP (by omega) (by omega)]; omega) (by omega) k) c k
      have J0:∀ y:Int×aB,okCur y.2→Yes (xE d y) (okE (Zb (n+1))):=fun y k=>by
        rw [xE]
        exact Yes.bind (mZ _ _ k) fun r ⟨_,_,k⟩=>Yes.bind (K 2 _ (by omega) k) fun r ⟨h1,h2,k⟩=>Yes.some ⟨by simp only [bU,iA,List.length_nil]; omega,k⟩
      refine Yes.bind (mZ _ _ k) fun r ⟨_,_,k⟩=>Yes.ite (fun _=>?_) fun _=>Yes.ite (fun _=>?_) fun _=>Yes.ite (fun _=>?_) fun _=>Yes.ite (fun _=>?_) fun _=>Yes.ite (fun _=>?_) fun _=>Yes.ite (fun _=>?_) fun _=>Yes.ite (fun _=>?_) fun _=>J0 _ k
      · exact Yes.bind (K 1 _ (by omega) k) fun r ⟨h1,h2,k⟩=>Yes.some ⟨by simp only [bU,iA,List.length_nil]; omega,k⟩
      · exact Yes.bind (K 1 _ (by omega) k) fun r ⟨h1,h2,k⟩=>Yes.some ⟨by simp only [bU,iA,List.length_nil]; omega,k⟩
      · exact Yes.bind (kP _ _ k) fun r k=>Yes.bind (K 1 _ (by omega) k) fun r ⟨h1,h2,k⟩=>Yes.some ⟨by simp only [bU,iA,List.length_nil]; omega,k⟩
      · exact Yes.bind (kP _ _ k) fun r k=>Yes.bind (K 3 _ (by omega) k) fun r ⟨h1,h2,k⟩=>Yes.some ⟨by simp only [bU,iA,List.length_nil]; omega,k⟩
      · exact Yes.bind (kP _ _ k) fun r k=>Yes.bind (mZ _ _ k) fun r ⟨b0,b1,k⟩=>Yes.bind (K _ _ (by have:=b1 (by decide); rw [iP (by omega) (by omega)]; omega) k) fun r ⟨h1,h2,k⟩=>Yes.some ⟨by simp only [bU,iA,List.length_nil]; omega,k⟩
      · refine Yes.ite (fun h2=>?_) fun _=>J0 _ k
        exact Yes.bind (kP _ _ k) fun r k=>Yes.bind (K 1 _ (by omega) k) fun r ⟨h1,h3,k⟩=>Yes.bind (Q2 _ (by simpa using h2) k) fun r2 ⟨h4,k⟩=>Yes.some ⟨by simp only [bU,iA,List.length_nil,List.length_cons]; omega,k⟩
      · refine Yes.ite (fun h2=>?_) fun _=>J0 _ k
        exact Yes.bind (Q2 _ (by simpa using h2) k) fun r2 ⟨h4,k⟩=>Yes.some ⟨by simp only [bU,eQ,iA,List.length_nil,List.length_cons]; omega,k⟩
theorem bDh (c:aB) (h:okCur c):Yes (zZ c) (okE 24):=by
  have L : ∀ (y : Int × aB), okCur y.2 → 0 ≤ y.1 → y.1 < 3 → ∀ (n : Nat) (x : Int) (a b : Int) (q : Bool) (v w : Int) (t s u : List UInt8) (ks : List aA) (ss : List aP), 22 + y.1 ≤ n + x → 0 ≤ x → x ≤ 24 → (((ks.length + eQ ks) + (ss.length + iA ss) : Nat) : Int) ≤ x →
      Yes (uH y x a b q v w (t,(s,(u,(ks,ss))))) (okE 24):=by
    intro y k y0 y1 n
    have e0:IntKind.wrap .i64 (22+y.1)=22+y.1:=iP (by omega) (by omega)
    have fin:∀ (x:Int) (a b:Int) (q:Bool) (v w:Int) (t s u:List UInt8) (ks:List aA) (ss:List aP),¬ x<22+y.1→x≤24→(((ks.length+eQ ks)+(ss.length+iA ss):Nat):Int)≤x→Yes (uH y x a b q v w (t,(s,(u,(ks,ss))))) (okE 24):=by
      intro x a b q v w t s u ks ss hx h2 hz
      rw [uH,e0,if_neg (by simpa using hx)]
      exact Yes.some ⟨by simp only [bU]; omega,k⟩
    induction n with
    | zero=>intro x a b q v w t s u ks ss hn h0 h2 hz; exact fin x a b q v w t s u ks ss (by omega) h2 hz
    | succ n ih =>
      intro x a b q v w t s u ks ss hn h0 h2 hz
      by_cases hx:x<22+y.1
      · rw [uH,e0,if_pos (by simpa using hx),iP (by omega) (by omega)]
        refine ih _ _ _ _ _ _ _ _ _ _ _ (by omega) (by omega) (by omega) ?_
        simp only [bU,eQ,iA,List.length_cons,List.length_nil]; omega
      · exact fin x a b q v w t s u ks ss hx h2 hz
  rw [zZ]
  refine Yes.bind (aEu _ h) fun r ⟨h1,h2,k⟩=>Yes.bind (mZ _ _ k) fun r2 ⟨b0,b1,k⟩=>?_
  have:=b1 (by decide)
  exact L r2 k b0 this 24 0 _ _ _ _ _ _ _ _ _ _ (by omega) (by omega) (by omega) (by rw [h1,h2]; simp [eQ,iA])
theorem bF4:∀ (n:Nat) (e:aA) (c:aB),bU e<n→bU e≤100000→okCur c→Yes (vX c e) (okE (bU e+1)):=by
  intro n
  induction n with
  | zero=>intro e c h _ _; omega
  | succ n ih =>
    intro e c hn hz h
    have hE:=zE e
    have J:∀ a b q v w t s u cb ci ch ks ss,okCur ⟨cb,ci,ch⟩→(ks.length+eQ ks)+(ss.length+iA ss)≤bU e+1→Yes (qI a b q v w t s u cb ci ch ks ss) (okE (bU e+1)):=fun a b q v w t s u cb ci ch ks ss k hl=>Yes.some ⟨by simp only [bU]; omega,k⟩
    rw [vX]
    refine Yes.bind (aDh _ _ _ _ h) fun r k=>Yes.bind (Q:=fun q=>q=true→0<(e.kids.length:Int)) ⟨_,rfl,?_⟩ fun q hq=>Yes.ite (fun hq2=>?_) fun _=>?_
    · intro h1
      by_cases h0:0<(e.kids.length:Int)
      · exact h0
      · rw [if_neg (by simpa using h0)] at h1; exact absurd h1 (by simp)
    · have h0:=hq hq2
      refine Yes.bind (mZ _ _ k) fun r ⟨b0,b1,k⟩=>?_
      obtain ⟨v,_,hv⟩:=aEq (l:=e.kids) b0 (b1 h0)
      have hg:e.kids[r.1.toNat]?=some v:=by unfold idx at hv; rw [if_pos b0] at hv; exact hv
      have hl:=aPh hg
      refine Yes.bind (Q:=fun z=>z=v) ⟨v,hv,rfl⟩ fun z hz2=>?_
      subst hz2
      refine Yes.bind (ih z _ (by omega) (by omega) k) fun r2 ⟨h4,k⟩=>Yes.some ⟨?_,k⟩
      have:=aN6 (b:=1) hg h4
      simp only [bU,List.length_set]; omega
    · refine Yes.bind (mZ _ _ k) fun r ⟨_,_,k⟩=>Yes.ite (fun _=>?_) fun _=>Yes.ite (fun _=>?_) fun _=>Yes.ite (fun _=>?_) fun _=>Yes.ite (fun _=>?_) fun _=>Yes.ite (fun _=>?_) fun _=>Yes.ite (fun _=>?_) fun _=>Yes.ite (fun _=>?_) fun _=>?_
      · exact Yes.bind (mZ _ _ k) fun r ⟨_,_,k⟩=>J _ _ _ _ _ _ _ _ _ _ _ _ _ k (by omega)
      · exact Yes.bind (aQ2 _ _ (by decide) k) fun r k=>J _ _ _ _ _ _ _ _ _ _ _ _ _ k (by omega)
      · exact J _ _ _ _ _ _ _ _ _ _ _ _ _ k (by omega)
      · exact Yes.bind (aVc _ k) fun r k=>J _ _ _ _ _ _ _ _ _ _ _ _ _ k (by omega)
      · exact Yes.bind (aPn _ k) fun r k=>J _ _ _ _ _ _ _ _ _ _ _ _ _ k (by omega)
      · exact Yes.bind (aPn _ k) fun r k=>J _ _ _ _ _ _ _ _ _ _ _ _ _ k (by omega)
      · refine Yes.bind (aEu _ k) fun r ⟨h1,h2,k⟩=>Yes.bind (vU (by simp; omega)) fun y hy=>J _ _ _ _ _ _ _ _ _ _ _ _ _ k ?_
        have h3:=zE r.1
        rw [h1,h2] at h3
        simp only [eQ,iA,List.length_nil] at h3
        rw [hy,aIz,List.length_append]
        simp only [eQ,List.length_cons,List.length_nil]; omega
      · refine Yes.bind (vU (by simp; omega)) fun y hy=>J _ _ _ _ _ _ _ _ _ _ _ _ _ k ?_
        rw [hy,aQw,List.length_append]
        simp only [eQ,jV,jO,oJ,iA,jE,List.length_cons,List.length_nil]; omega
theorem bEp (p:List Int) (hp:p.length≤1048576):Yes (X9 p 4) fun r=>0<r∧r≤4:=by
  unfold X9
  have e:Int.tdiv (p.length:Int) 20=(p.length:Int) / 20:=Int.tdiv_eq_ediv_of_nonneg (by omega)
  rw [e,iP (n:=(p.length:Int) / 20) (by omega) (by omega),iP (by omega) (by omega)]
  exact Yes.ite (fun _=>Yes.some (by omega)) fun h=>Yes.some (by simp at h; omega)
theorem bEd (p:List Int) (hp:p.length≤1048576):Yes (aAg p) fun e=>bU e≤1093:=by
  have hZ:Zb 3=1092:=rfl
  unfold aAg aA0
  obtain ⟨c,e0,o0⟩:=aTc p hp
  refine Yes.bind ⟨c,e0,o0⟩ fun c k=>Yes.bind (kP _ _ k) fun r k=>Yes.ite (fun _=>?_) fun _=>?_
  · exact Yes.bind (bDh _ k) fun r ⟨h,_⟩=>Yes.some (by show bU r.1≤1093; omega)
  · refine Yes.bind (bEp p hp) fun s ⟨s0,s1⟩=>Yes.bind (mZ _ _ k) fun r ⟨b0,b1,k⟩=>?_
    have:=b1 s0
    refine Yes.bind (aZh 3 r.1 _ (by omega) (by omega) k) fun r2 ⟨hz,k⟩=>Yes.bind (kP _ _ k) fun r3 k=>Yes.ite (fun _=>?_) fun _=>Yes.some (by have:=zE r2.1; simp only [bU]; omega)
    exact Yes.bind (bF4 _ r2.1 _ (Nat.lt_succ_self _) (by omega) k) fun r4 ⟨h,_⟩=>Yes.some (by have:=zE r4.1; simp only [bU]; omega)
theorem nT {x:aA}:∀ {l:List aA},x ∈ l→bU x<l.length+eQ l
  | y::l,h=>by
    simp only [eQ,List.length_cons]
    rcases List.mem_cons.1 h with rfl | h
    · omega
    · have:=nT h; omega
theorem uZ {x:aP}:∀ {l:List aP},x ∈ l→jE x<l.length+iA l
  | y::l,h=>by
    simp only [iA,List.length_cons]
    rcases List.mem_cons.1 h with rfl | h
    · omega
    · have:=uZ h; omega
theorem aKi {x:bI}:∀ {l:List bI},x ∈ l→oW x<l.length+jV l
  | y::l,h=>by
    simp only [jV,List.length_cons]
    rcases List.mem_cons.1 h with rfl | h
    · omega
    · have:=aKi h; omega
theorem aMf {x:bR}:∀ {l:List bR},x ∈ l→tF x<l.length+jO l
  | y::l,h=>by
    simp only [jO,List.length_cons]
    rcases List.mem_cons.1 h with rfl | h
    · omega
    · have:=aMf h; omega
theorem aFo {x:dL}:∀ {l:List dL},x ∈ l→uQ x<l.length+oJ l
  | y::l,h=>by
    simp only [oJ,List.length_cons]
    rcases List.mem_cons.1 h with rfl | h
    · omega
    · have:=aFo h; omega
theorem aDg (q:aP):(gM q).length≤jE q:=by
  have h:=zQ q
  have h1:=aFd q.items
  have h2:=aD1 q.from_
  have h3:=aCu q.order
  simp only [gM,List.length_append]; omega
theorem yH {q:aP} {x:aA} (hx:x ∈ gM q):bU x<jE q:=by
  have h:=zQ q
  simp only [gM,List.mem_append,List.mem_flatMap] at hx
  rcases hx with ((⟨i,hi,hx⟩ | ⟨s,hs,hx⟩) | hx) | ⟨k,hk,hx⟩
  · have h1:=aKi hi
    have:x=i.expr:=by
      cases hst:i.star <;> simp [hst] at hx
      exact hx
    subst this
    have:bU i.expr≤oW i:=by obtain ⟨a,b,c,d⟩:=i; simp only [oW]; omega
    omega
  · have h1:=aMf hs
    have h2:=nT hx
    have:s.on_.length+eQ s.on_≤tF s:=by obtain ⟨a,b,c⟩:=s; simp only [tF]; omega
    omega
  · have h2:=nT hx
    omega
  · have h1:=aFo hk
    have:x=k.expr:=by simpa using hx
    subst this
    have:bU k.expr≤uQ k:=by obtain ⟨a,b⟩:=k; simp only [uQ]; omega
    omega
theorem aD2 {α:Type} (z:α→Nat) (l m:List α):((l++m).map z).sum=(l.map z).sum+(m.map z).sum:=by simp
theorem aHl (q:aP):(gM q).length+((gM q).map bU).sum≤jE q:=by
  have h:=zQ q
  have h1:∀ l:List bI,(l.flatMap (fun i=>if i.star then [] else [i.expr])).length+((l.flatMap (fun i=>if i.star then [] else [i.expr])).map bU).sum≤l.length+jV l:=by
    intro l
    induction l with
    | nil=>simp
    | cons x l ih =>
      rw [List.flatMap_cons,List.length_append,aD2]
      have h1:(if x.star=true then [] else [x.expr]).length+((if x.star=true then [] else [x.expr]).map bU).sum≤1+oW x:=by
        obtain ⟨a,b,c,d⟩:=x
        cases a <;> simp [oW] <;> omega
      simp only [List.length_cons,jV]; omega
  have h2:∀ l:List bR,(l.flatMap (fun s=>s.on_)).length+((l.flatMap (fun s=>s.on_)).map bU).sum≤l.length+jO l:=by
    intro l
    induction l with
    | nil=>simp
    | cons x l ih =>
      rw [List.flatMap_cons,List.length_append,aD2]
      obtain ⟨a,b,c⟩:=x
      simp only [List.length_cons,jO,tF,aA4]; omega
  have h3:∀ l:List dL,(l.flatMap (fun k=>[k.expr])).length+((l.flatMap (fun k=>[k.expr])).map bU).sum≤l.length+oJ l:=by
    intro l
    induction l with
    | nil=>simp
    | cons x l ih =>
      rw [List.flatMap_cons,List.length_append,aD2]
      obtain ⟨a,b⟩:=x
      simp only [List.length_cons,List.length_nil,List.map_cons,List.map_nil,List.sum_cons,List.sum_nil,oJ,uQ]; omega
  have k1:=h1 q.items
  have k2:=h2 q.from_
  have k3:=h3 q.order
  have k4:=aA4 q.where_
  simp only [gM,List.length_append,aD2]
  omega
theorem aEd {α:Type} {d:α→Int}:∀ {p:List α} {b:Int},0≤b→(∀ y ∈ p,0≤d y)→b+(p.map d).sum≤4611686018427387904→p.foldl (fun b y=>IntKind.wrap .i64 (b+d y)) b=b+(p.map d).sum
  | [],b,_,_,_=>by simp
  | x::p,b,h0,h1,h2=>by
    simp only [List.map_cons,List.sum_cons] at h2 ⊢
    have hx:=h1 x (by simp)
    have hs:0≤(p.map d).sum:=by
      have:∀ l:List α,(∀ y ∈ l,0≤d y)→0≤(l.map d).sum:=by
        intro l
        induction l with
        | nil=>intro _; simp
        | cons a l ih=>intro h; simp only [List.map_cons,List.sum_cons]; have:=h a (by simp); have:=ih fun y hy=>h y (by simp [hy]); omega
      exact this p fun y hy=>h1 y (by simp [hy])
    rw [List.foldl_cons,iP (by omega) (by omega),aEd (by omega) (fun y hy=>h1 y (by simp [hy])) (by omega)]
    omega
theorem xM {α:Type} {d:α→Int} {z:α→Nat}:∀ {p:List α},(∀ y ∈ p,0≤d y∧d y≤1+z y)→0≤(p.map d).sum∧(p.map d).sum≤p.length+(p.map z).sum
  | [],_=>by simp
  | x::p,h=>by
    have h1:=h x (by simp)
    have h2:=xM (p:=p) fun y hy=>h y (by simp [hy])
    simp only [List.map_cons,List.sum_cons,List.length_cons]; omega
theorem aF9 {α:Type} {d:α→Int} {z:α→Nat}:∀ {p:List α},(∀ y ∈ p,0≤d y∧d y≤z y)→0≤(p.map d).sum∧(p.map d).sum≤(p.map z).sum
  | [],_=>by simp
  | x::p,h=>by
    have h1:=h x (by simp)
    have h2:=aF9 (p:=p) fun y hy=>h y (by simp [hy])
    simp only [List.map_cons,List.sum_cons]; omega
theorem yZ (s:List UInt8):∃ b,oC s=some b∧pE s=some b:=by
  unfold pE oC mK
  exact ⟨_,rfl,rfl⟩
theorem R6 (s:List UInt8):∃ b,kV s=some b∧pO s=some b:=by
  obtain ⟨b,h1,h2⟩:=yZ s
  unfold kV pO
  by_cases h:s=[]
  · simp [h]
  · simp [h,h1,h2]
theorem aV7 (x:bC):Z5 x=zY x∧∃ b,zY x=some b:=by
  unfold Z5 zY mK
  simp only [Option.bind_eq_bind,Option.bind_some]
  by_cases h0:x.kind=0
  · simp [h0]
  by_cases h1:x.kind=1
  · simp [h1]
  by_cases h2:x.kind=2
  · simp [h2]
  by_cases h3:x.kind=3
  · by_cases n0:x.num=0
    · simp [h3,n0]
    by_cases n1:x.num=1
    · simp [h3,n1]
    have e:(if decide (0≤x.num)=true then decide (x.num≤1) else false)=false:=by
      by_cases p:0≤x.num
      · simp [p]; omega
      · simp [p]
    rw [e]
    simp [h3,n0,n1]
  · simp [h0,h1,h2,h3]
theorem aS8 (x:bC):∃ b,V8 x=some b∧zL x=some b:=by
  obtain ⟨h1,b,h2⟩:=aV7 x
  unfold V8 zL
  rw [h1,h2]
  cases b <;> simp
def R4 (x:aA):Option Bool:=(wF x.kids)>>=fun (y13:Bool)=>(if (true&&(y13==true))=true then uC x.sub else some default)>>=fun (y14:Bool)=>(some (if y13=true then (!y14) else false))>>=fun (y15:Bool)=>some y15
theorem orM {β:Type} {b:Bool} {m:Option Bool} {K:Bool→Option β}:((if (true&&(b==false))=true then m else some (default:Bool)).bind fun y=>(some (if b=true then true else y)).bind K)=((if b=true then some true else m).bind K):=by cases b <;> cases m <;> rfl
theorem orS (b c:Bool):(if b=true then some true else some c)=some (b||c):=by cases b <;> rfl
theorem orB (b c:Bool):(if b=true then true else c)=(b||c):=by cases b <;> rfl
theorem aN7 (b c:Bool):(if b=true then c else false)=(b&&c):=by cases b <;> rfl
theorem aYo (x : aA) (f : eY) (ok : Bool) (hf : wZ x = some (f, ok)) : lF x =
    if (ok&&!(!f.op&&!decide (x.op=0))&&!(!f.not_&&x.not_)&&!(!f.value&&!((decide (x.value.kind=0))&&((decide (x.value.num=0))&&((decide (x.value.text=[]))&&true))))&&!(!f.name&&(!decide (x.qual=[])||!decide (x.name=[])))&&!(decide ((x.kids.length:Int)<f.least)||decide (f.most<(x.kids.length:Int))||!decide ((x.sub.length:Int)=f.subs)))=true then R4 x else some false:=by
  rw [lF,hf]
  simp only [Option.bind_eq_bind]
  rw [show ∀ K:eY×Bool→Option Bool,(some (f,ok)).bind K=K (f,ok) from fun _=>rfl]
  simp only [orM]
  simp only [aN7,orB,orS]
  simp only [Option.bind_some,R4,Option.bind_eq_bind]
  generalize ((decide (x.value.kind=0))&&((decide (x.value.num=0))&&((decide (x.value.text=[]))&&true)))=zv
  generalize (!f.op&&!decide (x.op=0))=p1
  generalize (!f.not_&&x.not_)=p2
  generalize (!f.value&&!zv)=p3
  generalize (!decide (x.qual=[])||!decide (x.name=[]))=p4
  generalize f.name=fm
  generalize (decide ((x.kids.length:Int)<f.least)||decide (f.most<(x.kids.length:Int))||!decide ((x.sub.length:Int)=f.subs))=l3
  cases ok <;> cases p1 <;> cases p2 <;> cases p3 <;> cases fm <;> cases p4 <;> cases l3 <;> simp
def zvE (x:aA):Bool:=((decide (x.value.kind=0))&&((decide (x.value.num=0))&&((decide (x.value.text=[]))&&true)))
theorem aYw (x : aA) : V6 x = (if ((!decide (x.kind = 2) && (!decide (x.qual = []) || !decide (x.name = []))) || (!decide (x.kind = 1) && !zvE x)) = true then some false else
    if ((!decide (x.kind=3)&&!decide (x.kind=4))&&!decide (x.op=0)||(x.not_&&!(decide (5≤x.kind)&&decide (x.kind≤8))))=true then some false else
    (if (decide (x.kind=1))=true then ((V8 x.value)>>=fun (y10:Bool)=>some (y10&&decide ((IntKind.wrap .i64 ((x.kids.length:Int)+(x.sub.length:Int)))=0)))
     else if (decide (x.kind=2))=true then ((oC x.name)>>=fun (y12:Bool)=>(if y12=true then kV x.qual else some false)>>=fun (y14:Bool)=>some (y14&&decide ((IntKind.wrap .i64 ((x.kids.length:Int)+(x.sub.length:Int)))=0)))
     else some (if x.kind=3 then (decide (x.op=15)||decide (x.op=16))&&decide ((x.kids.length:Int)=1)&&decide ((x.sub.length:Int)=0)
      else if x.kind=4 then (decide (1≤x.op)&&decide (x.op≤14))&&decide ((x.kids.length:Int)=2)&&decide ((x.sub.length:Int)=0)
      else if x.kind=5 then decide ((x.kids.length:Int)=1)&&decide ((x.sub.length:Int)=0)
      else if x.kind=6 then decide ((x.kids.length:Int)=3)&&decide ((x.sub.length:Int)=0)
      else if x.kind=7 then (decide (2≤(x.kids.length:Int))&&decide ((x.kids.length:Int)≤9))&&decide ((x.sub.length:Int)=0)
      else if x.kind=8 then decide ((x.kids.length:Int)=1)&&decide ((x.sub.length:Int)=1)
      else if x.kind=9 then decide ((x.kids.length:Int)=0)&&decide ((x.sub.length:Int)=1)
      else false))):=by
  unfold V6 mK
  simp only [Option.bind_eq_bind]
  simp only [Option.bind_some]
  simp only [aN7,orB]
  obtain ⟨k,o,no,v,q,nm,ks,sb⟩:=x
  obtain ⟨bl,l1,l2⟩:=aS8 v
  obtain ⟨bn,n1,n2⟩:=yZ nm
  obtain ⟨bq,q1,q2⟩:=R6 q
  have hz:zvE ⟨k,o,no,v,q,nm,ks,sb⟩=((decide (v.kind=0))&&((decide (v.num=0))&&((decide (v.text=[]))&&true))):=rfl
  simp only [l1,n1,q1,hz,Option.bind_some]
  generalize ((decide (v.kind=0))&&((decide (v.num=0))&&((decide (v.text=[]))&&true)))=zv
  generalize decide (q=[])=q0
  generalize decide (nm=[])=n0
  by_cases k1:k=1
  · subst k1; cases q0 <;> cases n0 <;> cases no <;> by_cases o0:o=0 <;> cases bl <;> simp [o0]
  by_cases k2:k=2
  · subst k2; cases zv <;> cases no <;> by_cases o0:o=0 <;> cases bn <;> simp [o0]
  by_cases k3:k=3
  · subst k3; cases q0 <;> cases n0 <;> cases zv <;> cases no <;> simp
  by_cases k4:k=4
  · subst k4; cases q0 <;> cases n0 <;> cases zv <;> cases no <;> simp
  have kk:¬ (k=3∨k=4):=by omega
  by_cases k5:k=5
  · subst k5; cases q0 <;> cases n0 <;> cases zv <;> cases no <;> by_cases o0:o=0 <;> simp [o0]
  by_cases k6:k=6
  · subst k6; cases q0 <;> cases n0 <;> cases zv <;> cases no <;> by_cases o0:o=0 <;> simp [o0]
  by_cases k7:k=7
  · subst k7; cases q0 <;> cases n0 <;> cases zv <;> cases no <;> by_cases o0:o=0 <;> simp [o0]
  by_cases k8:k=8
  · subst k8; cases q0 <;> cases n0 <;> cases zv <;> cases no <;> by_cases o0:o=0 <;> simp [o0]
  by_cases k9:k=9
  · subst k9; cases q0 <;> cases n0 <;> cases zv <;> cases no <;> by_cases o0:o=0 <;> simp [o0]
  have kr:(decide (5≤k)&&decide (k≤8))=false:=by
    by_cases h:5≤k
    · have:¬ k≤8:=by omega
      simp [this]
    · simp [h]
  cases q0 <;> cases n0 <;> cases zv <;> cases no <;> by_cases o0:o=0 <;> simp [o0,k1,k2,k3,k4,k5,k6,k7,k8,k9]
theorem bFr (x : aA) (bl bc : Bool) (h1 : zL x.value = some bl) (h2 : (oC x.name >>= fun (y12 : Bool) => (if y12 = true then kV x.qual else some false)) = some bc) : wZ x = some (
    if x.kind=1 then (⟨false,false,true,false,0,0,0⟩,bl)
    else if x.kind=2 then (⟨false,false,false,true,0,0,0⟩,bc)
    else if x.kind=3 then (⟨true,false,false,false,1,1,0⟩,decide (x.op=15)||decide (x.op=16))
    else if x.kind=4 then (⟨true,false,false,false,2,2,0⟩,decide (1≤x.op)&&decide (x.op≤14))
    else if x.kind=5 then (⟨false,true,false,false,1,1,0⟩,true)
    else if x.kind=6 then (⟨false,true,false,false,3,3,0⟩,true)
    else if x.kind=7 then (⟨false,true,false,false,2,9,0⟩,true)
    else if x.kind=8 then (⟨false,true,false,false,1,1,1⟩,true)
    else if x.kind=9 then (⟨false,false,false,false,0,0,1⟩,true)
    else (⟨false,false,false,false,0,0,0⟩,false)):=by
  obtain ⟨k,o,no,v,q,nm,ks,sb⟩:=x
  obtain ⟨bn,n1,n2⟩:=yZ nm
  obtain ⟨bo,o1,o2⟩:=yZ q
  unfold wZ
  dsimp only at h1 h2 ⊢
  have h3:((if ((true&&(bn==true))&&((decide (q=[]))==false))=true then pE q else some default).bind fun (y3:Bool)=>(if (true&&(bn==true))=true then some (if (decide (q=[]))=true then true else y3) else some default).bind fun (y4:Bool)=>(some (if bn=true then y4 else false)).bind fun y5=>some ((eY.mk false false false true 0 0 0),y5))=some ((eY.mk false false false true 0 0 0),bc):=by
    unfold kV at h2
    rw [n1,o1] at h2
    rw [o2]
    cases bn
    · simp at h2; simp [h2]
    · by_cases q0:q=[]
      · simp [q0] at h2; simp [q0,h2]
      · simp [q0] at h2; simp [q0,h2]
  simp only [h1,n2,Option.bind_eq_bind,Option.bind_some]
  by_cases k1:k=1
  · simp [k1]
  by_cases k2:k=2
  · subst k2; simp only [Option.bind_some] at h3; simpa using h3
  by_cases k3:k=3
  · simp [k3]
  by_cases k4:k=4
  · simp [k4]
  by_cases k5:k=5
  · simp [k5]
  by_cases k6:k=6
  · simp [k6]
  by_cases k7:k=7
  · simp [k7]
  by_cases k8:k=8
  · simp [k8]
  by_cases k9:k=9
  · simp [k9]
  simp [k1,k2,k3,k4,k5,k6,k7,k8,k9]
theorem aO0 (x:aA) (hk:x.kids.length≤1048576) (hs:x.sub.length≤1048576):∃ b,V6 x=some b∧(lF x=if b=true then R4 x else some false)∧(b=true→x.sub.length≤1):=by
  obtain ⟨bl,l1,l2⟩:=aS8 x.value
  obtain ⟨bn,n1,n2⟩:=yZ x.name
  obtain ⟨bq,q1,q2⟩:=R6 x.qual
  have hc:(oC x.name>>=fun (y12:Bool)=>(if y12=true then kV x.qual else some false))=some (bn&&bq):=by
    rw [n1,q1]; cases bn <;> rfl
  have hw:IntKind.wrap .i64 ((x.kids.length:Int)+(x.sub.length:Int))=(x.kids.length:Int)+(x.sub.length:Int):=iP (by omega) (by omega)
  have hF:=bFr x bl (bn&&bq) l2 hc
  obtain ⟨f,ok,hfo⟩:∃ f ok,wZ x=some (f,ok):=⟨_,_,hF⟩
  have hi:=aYo x f ok hfo
  rw [hfo] at hF
  have hp:=aYw x
  rw [l1,hw] at hp
  have hc2:((oC x.name)>>=fun (y12:Bool)=>(if y12=true then kV x.qual else some false)>>=fun (y14:Bool)=>some (y14&&decide ((x.kids.length:Int)+(x.sub.length:Int)=0)))=some ((bn&&bq)&&decide ((x.kids.length:Int)+(x.sub.length:Int)=0)):=by
    rw [n1,q1]; cases bn <;> rfl
  rw [hc2] at hp
  rw [hp,hi]
  have hz:((decide (x.value.kind=0))&&((decide (x.value.num=0))&&((decide (x.value.text=[]))&&true)))=zvE x:=rfl
  rw [hz]
  obtain ⟨k,o,no,v,q,nm,ks,sb⟩:=x
  generalize zvE ⟨k,o,no,v,q,nm,ks,sb⟩=zv
  dsimp only at hk hs hF ⊢
  generalize decide (q=[])=q0
  generalize decide (nm=[])=n0
  generalize (bn&&bq)=bc at hF ⊢
  clear hi hp hc hc2 hw hz l1 l2 n1 n2 q1 q2 hfo
  generalize R4 _=R
  have b2i:∀ (a b:Bool),a=b→∀ (c:Prop),(a=true→c)→∃ b',(some a:Option Bool)=some b'∧(if b=true then R else some false)=(if b'=true then R else some false)∧(b'=true→c):=by
    rintro a b rfl c h; exact ⟨a,rfl,rfl,h⟩
  have lt0:decide ((ks.length:Int)<0)=false:=by simp
  have hif:∀ (a b:Bool) (X:Bool),(if a=true then some false else if b=true then some false else some X)=some (!a&&(!b&&X)):=by intro a b X; cases a <;> cases b <;> rfl
  have e2:(decide ((0:Int)<(ks.length:Int))||!decide ((sb.length:Int)=0))=!decide ((ks.length:Int)+(sb.length:Int)=0):=by rw [Bool.eq_iff_iff]; simp only [Bool.or_eq_true,Bool.not_eq_true',decide_eq_true_eq,decide_eq_false_iff_not]; omega
  have eN:∀ n:Int,(decide ((ks.length:Int)<n)||decide (n<(ks.length:Int)))=!decide ((ks.length:Int)=n):=fun n=>by rw [Bool.eq_iff_iff]; simp only [Bool.or_eq_true,Bool.not_eq_true',decide_eq_true_eq,decide_eq_false_iff_not]; omega
  have e4:(decide ((ks.length:Int)<2)||decide ((9:Int)<(ks.length:Int)))=!(decide (2≤(ks.length:Int))&&decide ((ks.length:Int)≤9)):=by rw [Bool.eq_iff_iff]; simp only [Bool.or_eq_true,Bool.not_eq_true',Bool.and_eq_false_iff,decide_eq_true_eq,decide_eq_false_iff_not]; omega
  have e0:decide ((0:Int)<(ks.length:Int))=!decide ((ks.length:Int)=0):=by rw [Bool.eq_iff_iff]; simp only [Bool.not_eq_true',decide_eq_true_eq,decide_eq_false_iff_not]; omega
  by_cases k1:k=1
  · subst k1
    simp only [Int.reduceEq,if_true,if_false,Option.some.injEq,Prod.mk.injEq] at hF
    obtain ⟨rfl,hok⟩:=hF
    rw [hok]
    simp only [Int.reduceEq,decide_true,decide_false,Bool.not_false,Bool.not_true,Bool.true_and,Bool.false_and,Bool.and_true,if_true,if_false,Bool.false_eq_true,Bool.or_false,Option.bind_eq_bind,Option.bind_some,Int.reduceLE]
    try dsimp only
    try simp only [Int.reduceEq,decide_true,decide_false,Bool.not_false,Bool.not_true,Bool.true_and,Bool.false_and,Bool.and_true,Bool.and_false,if_true,if_false,Bool.false_eq_true,Bool.or_false,Bool.false_or,Bool.true_or,Bool.or_true,reduceIte,Option.bind_eq_bind,Option.bind_some,Int.reduceLE,Int.reduceLT]
    simp only [lt0,Bool.false_or,e2,hif]
    try simp only [e0]
    refine b2i _ _ ?_ _ ?_
    · generalize decide ((ks.length:Int)+(sb.length:Int)=0)=t0
      generalize decide ((sb.length:Int)=0)=s0
      generalize decide ((sb.length:Int)=1)=s1
      generalize decide (o=0)=o0
      generalize decide (o=15)=o15
      generalize decide (o=16)=o16
      generalize decide (1≤o)=oa
      generalize decide (o≤14)=ob
      generalize decide ((ks.length:Int)=0)=c0
      generalize decide ((ks.length:Int)=1)=c1
      generalize decide ((ks.length:Int)=2)=c2
      generalize decide ((ks.length:Int)=3)=c3
      generalize (decide (2≤(ks.length:Int))&&decide ((ks.length:Int)≤9))=c29
      cases q0 <;> cases n0 <;> cases o0 <;> cases no <;> cases bl <;> cases t0 <;> rfl
    · intro h
      simp only [Bool.and_eq_true,decide_eq_true_eq] at h
      omega
  by_cases k2:k=2
  · subst k2
    simp only [Int.reduceEq,if_true,if_false,Option.some.injEq,Prod.mk.injEq] at hF
    obtain ⟨rfl,hok⟩:=hF
    rw [hok]
    simp only [Int.reduceEq,decide_true,decide_false,Bool.not_false,Bool.not_true,Bool.true_and,Bool.false_and,Bool.and_true,if_true,if_false,Bool.false_eq_true,Bool.false_or,Option.bind_eq_bind,Option.bind_some,Int.reduceLE]
    try dsimp only
    try simp only [Int.reduceEq,decide_true,decide_false,Bool.not_false,Bool.not_true,Bool.true_and,Bool.false_and,Bool.and_true,Bool.and_false,if_true,if_false,Bool.false_eq_true,Bool.or_false,Bool.false_or,Bool.true_or,Bool.or_true,reduceIte,Option.bind_eq_bind,Option.bind_some,Int.reduceLE,Int.reduceLT]
    simp only [lt0,Bool.false_or,e2,hif]
    try simp only [e0]
    refine b2i _ _ ?_ _ ?_
    · generalize decide ((ks.length:Int)+(sb.length:Int)=0)=t0
      generalize decide ((sb.length:Int)=0)=s0
      generalize decide ((sb.length:Int)=1)=s1
      generalize decide (o=0)=o0
      generalize decide (o=15)=o15
      generalize decide (o=16)=o16
      generalize decide (1≤o)=oa
      generalize decide (o≤14)=ob
      generalize decide ((ks.length:Int)=0)=c0
      generalize decide ((ks.length:Int)=1)=c1
      generalize decide ((ks.length:Int)=2)=c2
      generalize decide ((ks.length:Int)=3)=c3
      generalize (decide (2≤(ks.length:Int))&&decide ((ks.length:Int)≤9))=c29
      cases zv <;> cases o0 <;> cases no <;> cases bc <;> cases t0 <;> rfl
    · intro h
      simp only [Bool.and_eq_true,decide_eq_true_eq] at h
      omega
  by_cases k3:k=3
  · subst k3
    simp only [Int.reduceEq,if_true,if_false,Option.some.injEq,Prod.mk.injEq] at hF
    obtain ⟨rfl,hok⟩:=hF
    rw [hok]
    simp only [Int.reduceEq,decide_true,decide_false,Bool.not_false,Bool.not_true,Bool.true_and,Bool.false_and,Bool.and_true,if_true,if_false,Bool.false_eq_true,Bool.false_or,Option.bind_eq_bind,Option.bind_some,Int.reduceLE]
    try dsimp only
    try simp only [Int.reduceEq,decide_true,decide_false,Bool.not_false,Bool.not_true,Bool.true_and,Bool.false_and,Bool.and_true,Bool.and_false,if_true,if_false,Bool.false_eq_true,Bool.or_false,Bool.false_or,Bool.true_or,Bool.or_true,reduceIte,Option.bind_eq_bind,Option.bind_some,Int.reduceLE,Int.reduceLT]
    simp only [eN,hif]
    try simp only [e0]
    refine b2i _ _ ?_ _ ?_
    · generalize decide ((ks.length:Int)+(sb.length:Int)=0)=t0
      generalize decide ((sb.length:Int)=0)=s0
      generalize decide ((sb.length:Int)=1)=s1
      generalize decide (o=0)=o0
      generalize decide (o=15)=o15
      generalize decide (o=16)=o16
      generalize decide (1≤o)=oa
      generalize decide (o≤14)=ob
      generalize decide ((ks.length:Int)=0)=c0
      generalize decide ((ks.length:Int)=1)=c1
      generalize decide ((ks.length:Int)=2)=c2
      generalize decide ((ks.length:Int)=3)=c3
      generalize (decide (2≤(ks.length:Int))&&decide ((ks.length:Int)≤9))=c29
      cases q0 <;> cases n0 <;> cases zv <;> cases no <;> cases o15 <;> cases o16 <;> cases c1 <;> cases s0 <;> rfl
    · intro h
      simp only [Bool.and_eq_true,decide_eq_true_eq] at h
      omega
  by_cases k4:k=4
  · subst k4
    simp only [Int.reduceEq,if_true,if_false,Option.some.injEq,Prod.mk.injEq] at hF
    obtain ⟨rfl,hok⟩:=hF
    rw [hok]
    simp only [Int.reduceEq,decide_true,decide_false,Bool.not_false,Bool.not_true,Bool.true_and,Bool.false_and,Bool.and_true,Bool.and_false,if_true,if_false,Bool.false_eq_true,Bool.false_or,Option.bind_eq_bind,Option.bind_some,Int.reduceLE]
    try dsimp only
    try simp only [Int.reduceEq,decide_true,decide_false,Bool.not_false,Bool.not_true,Bool.true_and,Bool.false_and,Bool.and_true,Bool.and_false,if_true,if_false,Bool.false_eq_true,Bool.or_false,Bool.false_or,Bool.true_or,Bool.or_true,reduceIte,Option.bind_eq_bind,Option.bind_some,Int.reduceLE,Int.reduceLT]
    simp only [eN,hif]
    try simp only [e0]
    refine b2i _ _ ?_ _ ?_
    · generalize decide ((ks.length:Int)+(sb.length:Int)=0)=t0
      generalize decide ((sb.length:Int)=0)=s0
      generalize decide ((sb.length:Int)=1)=s1
      generalize decide (o=0)=o0
      generalize decide (o=15)=o15
      generalize decide (o=16)=o16
      generalize decide (1≤o)=oa
      generalize decide (o≤14)=ob
      generalize decide ((ks.length:Int)=0)=c0
      generalize decide ((ks.length:Int)=1)=c1
      generalize decide ((ks.length:Int)=2)=c2
      generalize decide ((ks.length:Int)=3)=c3
      generalize (decide (2≤(ks.length:Int))&&decide ((ks.length:Int)≤9))=c29
      cases q0 <;> cases n0 <;> cases zv <;> cases no <;> cases oa <;> cases ob <;> cases c2 <;> cases s0 <;> rfl
    · intro h
      simp only [Bool.and_eq_true,decide_eq_true_eq] at h
      omega
  by_cases k5:k=5
  · subst k5
    simp only [Int.reduceEq,if_true,if_false,Option.some.injEq,Prod.mk.injEq] at hF
    obtain ⟨rfl,hok⟩:=hF
    rw [hok]
    simp only [Int.reduceEq,decide_true,decide_false,Bool.not_false,Bool.not_true,Bool.true_and,Bool.false_and,Bool.and_true,Bool.and_false,if_true,if_false,Bool.false_eq_true,Bool.or_false,Option.bind_eq_bind,Option.bind_some,Int.reduceLE]
    try dsimp only
    try simp only [Int.reduceEq,decide_true,decide_false,Bool.not_false,Bool.not_true,Bool.true_and,Bool.false_and,Bool.and_true,Bool.and_false,if_true,if_false,Bool.false_eq_true,Bool.or_false,Bool.false_or,Bool.true_or,Bool.or_true,reduceIte,Option.bind_eq_bind,Option.bind_some,Int.reduceLE,Int.reduceLT]
    simp only [eN,hif]
    try simp only [e0]
    refine b2i _ _ ?_ _ ?_
    · generalize decide ((ks.length:Int)+(sb.length:Int)=0)=t0
      generalize decide ((sb.length:Int)=0)=s0
      generalize decide ((sb.length:Int)=1)=s1
      generalize decide (o=0)=o0
      generalize decide (o=15)=o15
      generalize decide (o=16)=o16
      generalize decide (1≤o)=oa
      generalize decide (o≤14)=ob
      generalize decide ((ks.length:Int)=0)=c0
      generalize decide ((ks.length:Int)=1)=c1
      generalize decide ((ks.length:Int)=2)=c2
      generalize decide ((ks.length:Int)=3)=c3
      generalize (decide (2≤(ks.length:Int))&&decide ((ks.length:Int)≤9))=c29
      cases q0 <;> cases n0 <;> cases zv <;> cases no <;> cases o0 <;> cases c1 <;> cases s0 <;> rfl
    · intro h
      simp only [Bool.and_eq_true,decide_eq_true_eq] at h
      omega
  by_cases k6:k=6
  · subst k6
    simp only [Int.reduceEq,if_true,if_false,Option.some.injEq,Prod.mk.injEq] at hF
    obtain ⟨rfl,hok⟩:=hF
    rw [hok]
    simp only [Int.reduceEq,decide_true,decide_false,Bool.not_false,Bool.not_true,Bool.true_and,Bool.false_and,Bool.and_true,Bool.and_false,if_true,if_false,Bool.false_eq_true,Bool.or_false,Option.bind_eq_bind,Option.bind_some,Int.reduceLE]
    try dsimp only
    try simp only [Int.reduceEq,decide_true,decide_false,Bool.not_false,Bool.not_true,Bool.true_and,Bool.false_and,Bool.and_true,Bool.and_false,if_true,if_false,Bool.false_eq_true,Bool.or_false,Bool.false_or,Bool.true_or,Bool.or_true,reduceIte,Option.bind_eq_bind,Option.bind_some,Int.reduceLE,Int.reduceLT]
    simp only [eN,hif]
    try simp only [e0]
    refine b2i _ _ ?_ _ ?_
    · generalize decide ((ks.length:Int)+(sb.length:Int)=0)=t0
      generalize decide ((sb.length:Int)=0)=s0
      generalize decide ((sb.length:Int)=1)=s1
      generalize decide (o=0)=o0
      generalize decide (o=15)=o15
      generalize decide (o=16)=o16
      generalize decide (1≤o)=oa
      generalize decide (o≤14)=ob
      generalize decide ((ks.length:Int)=0)=c0
      generalize decide ((ks.length:Int)=1)=c1
      generalize decide ((ks.length:Int)=2)=c2
      generalize decide ((ks.length:Int)=3)=c3
      generalize (decide (2≤(ks.length:Int))&&decide ((ks.length:Int)≤9))=c29
      cases q0 <;> cases n0 <;> cases zv <;> cases no <;> cases o0 <;> cases c3 <;> cases s0 <;> rfl
    · intro h
      simp only [Bool.and_eq_true,decide_eq_true_eq] at h
      omega
  by_cases k7:k=7
  · subst k7
    simp only [Int.reduceEq,if_true,if_false,Option.some.injEq,Prod.mk.injEq] at hF
    obtain ⟨rfl,hok⟩:=hF
    rw [hok]
    simp only [Int.reduceEq,decide_true,decide_false,Bool.not_false,Bool.not_true,Bool.true_and,Bool.false_and,Bool.and_true,Bool.and_false,if_true,if_false,Bool.false_eq_true,Bool.or_false,Option.bind_eq_bind,Option.bind_some,Int.reduceLE]
    try dsimp only
    try simp only [Int.reduceEq,decide_true,decide_false,Bool.not_false,Bool.not_true,Bool.true_and,Bool.false_and,Bool.and_true,Bool.and_false,if_true,if_false,Bool.false_eq_true,Bool.or_false,Bool.false_or,Bool.true_or,Bool.or_true,reduceIte,Option.bind_eq_bind,Option.bind_some,Int.reduceLE,Int.reduceLT]
    simp only [e4,hif]
    try simp only [e0]
    refine b2i _ _ ?_ _ ?_
    · generalize decide ((ks.length:Int)+(sb.length:Int)=0)=t0
      generalize decide ((sb.length:Int)=0)=s0
      generalize decide ((sb.length:Int)=1)=s1
      generalize decide (o=0)=o0
      generalize decide (o=15)=o15
      generalize decide (o=16)=o16
      generalize decide (1≤o)=oa
      generalize decide (o≤14)=ob
      generalize decide ((ks.length:Int)=0)=c0
      generalize decide ((ks.length:Int)=1)=c1
      generalize decide ((ks.length:Int)=2)=c2
      generalize decide ((ks.length:Int)=3)=c3
      generalize (decide (2≤(ks.length:Int))&&decide ((ks.length:Int)≤9))=c29
      cases q0 <;> cases n0 <;> cases zv <;> cases no <;> cases o0 <;> cases c29 <;> cases s0 <;> rfl
    · intro h
      simp only [Bool.and_eq_true,decide_eq_true_eq] at h
      omega
  by_cases k8:k=8
  · subst k8
    simp only [Int.reduceEq,if_true,if_false,Option.some.injEq,Prod.mk.injEq] at hF
    obtain ⟨rfl,hok⟩:=hF
    rw [hok]
    simp only [Int.reduceEq,decide_true,decide_false,Bool.not_false,Bool.not_true,Bool.true_and,Bool.false_and,Bool.and_true,Bool.and_false,if_true,if_false,Bool.false_eq_true,Bool.or_false,Option.bind_eq_bind,Option.bind_some,Int.reduceLE]
    try dsimp only
    try simp only [Int.reduceEq,decide_true,decide_false,Bool.not_false,Bool.not_true,Bool.true_and,Bool.false_and,Bool.and_true,Bool.and_false,if_true,if_false,Bool.false_eq_true,Bool.or_false,Bool.false_or,Bool.true_or,Bool.or_true,reduceIte,Option.bind_eq_bind,Option.bind_some,Int.reduceLE,Int.reduceLT]
    simp only [eN,hif]
    try simp only [e0]
    refine b2i _ _ ?_ _ ?_
    · generalize decide ((ks.length:Int)+(sb.length:Int)=0)=t0
      generalize decide ((sb.length:Int)=0)=s0
      generalize decide ((sb.length:Int)=1)=s1
      generalize decide (o=0)=o0
      generalize decide (o=15)=o15
      generalize decide (o=16)=o16
      generalize decide (1≤o)=oa
      generalize decide (o≤14)=ob
      generalize decide ((ks.length:Int)=0)=c0
      generalize decide ((ks.length:Int)=1)=c1
      generalize decide ((ks.length:Int)=2)=c2
      generalize decide ((ks.length:Int)=3)=c3
      generalize (decide (2≤(ks.length:Int))&&decide ((ks.length:Int)≤9))=c29
      cases q0 <;> cases n0 <;> cases zv <;> cases no <;> cases o0 <;> cases c1 <;> cases s1 <;> rfl
    · intro h
      simp only [Bool.and_eq_true,decide_eq_true_eq] at h
      omega
  by_cases k9:k=9
  · subst k9
    simp only [Int.reduceEq,if_true,if_false,Option.some.injEq,Prod.mk.injEq] at hF
    obtain ⟨rfl,hok⟩:=hF
    rw [hok]
    simp only [Int.reduceEq,decide_true,decide_false,Bool.not_false,Bool.true_and,Bool.and_true,Bool.and_false,if_true,if_false,Bool.false_eq_true,Option.bind_eq_bind,Option.bind_some,Int.reduceLE]
    try dsimp only
    try simp only [Int.reduceEq,decide_true,decide_false,Bool.not_false,Bool.not_true,Bool.true_and,Bool.false_and,Bool.and_true,Bool.and_false,if_true,if_false,Bool.false_eq_true,Bool.or_false,Bool.false_or,Bool.true_or,Bool.or_true,reduceIte,Option.bind_eq_bind,Option.bind_some,Int.reduceLE,Int.reduceLT]
    simp only [lt0,Bool.false_or,hif]
    try simp only [e0]
    refine b2i _ _ ?_ _ ?_
    · generalize decide ((ks.length:Int)+(sb.length:Int)=0)=t0
      generalize decide ((sb.length:Int)=0)=s0
      generalize decide ((sb.length:Int)=1)=s1
      generalize decide (o=0)=o0
      generalize decide (o=15)=o15
      generalize decide (o=16)=o16
      generalize decide (1≤o)=oa
      generalize decide (o≤14)=ob
      generalize decide ((ks.length:Int)=0)=c0
      generalize decide ((ks.length:Int)=1)=c1
      generalize decide ((ks.length:Int)=2)=c2
      generalize decide ((ks.length:Int)=3)=c3
      generalize (decide (2≤(ks.length:Int))&&decide ((ks.length:Int)≤9))=c29
      cases q0 <;> cases n0 <;> cases zv <;> cases no <;> cases o0 <;> cases c0 <;> cases s1 <;> rfl
    · intro h
      simp only [Bool.and_eq_true,decide_eq_true_eq] at h
      omega
  simp only [k1,k2,k3,k4,k5,k6,k7,k8,k9,if_false,Option.some.injEq,Prod.mk.injEq] at hF
  obtain ⟨rfl,hok⟩:=hF
  rw [hok]
  simp only [k1,k2,k3,k4,k5,k6,k7,k8,k9,decide_false,Bool.not_false,Bool.true_and,Bool.false_eq_true,if_false,ite_self,Bool.false_and]
  exact ⟨false,rfl,by simp,by simp⟩
theorem aWn:pE=oC:=by
  funext s
  obtain ⟨b,h1,h2⟩:=yZ s
  rw [h1,h2]
theorem aRy:pO=kV:=by
  funext s
  obtain ⟨b,h1,h2⟩:=R6 s
  rw [h1,h2]
theorem aR6 (x:aA):xL x=pW x (aA.mk 0 0 false (bC.mk 0 0 []) [] [] [] [])∧∃ b,pW x (aA.mk 0 0 false (bC.mk 0 0 []) [] [] [] [])=some b:=by
  unfold xL
  rw [pK,pW]
  have ek:uA x.kids []=some (decide (x.kids=[])):=by
    rw [uA,zF]
    by_cases h:x.kids=[]
    · rw [h,vZ]; simp
    · have : ¬ (x.kids.length : Int) = 0 := by
        have:=List.length_pos_iff.2 h; omega
      simp [h]
  have es:xZ x.sub []=some (decide (x.sub=[])):=by
    rw [xZ]
    by_cases h:x.sub=[]
    · rw [h,xI]; simp
    · simp [h]
  have fk:xC x.kids []=some (decide (x.kids=[])):=by
    rw [xC]
    by_cases h:x.kids=[]
    · rw [h,aCc]; simp
    · simp [h]
  simp only [ek,es,fk,Option.bind_eq_bind,Option.bind_some]
  have hz:((decide (x.value.kind=0))&&((decide (x.value.num=0))&&((decide (x.value.text=[]))&&true)))=zvE x:=rfl
  rw [hz]
  have l0:x.sub=[]→zR x (aA.mk 0 0 false (bC.mk 0 0 []) [] [] [] []) 0=some true:=by
    intro h; rw [zR]; simp [h]
  have hl:decide ((x.sub.length:Int)=(([]:List aP).length:Int))=decide (x.sub=[]):=by
    by_cases h:x.sub=[]
    · simp [h]
    · simp [h]
  rw [hl]
  by_cases hs:x.sub=[]
  · rw [l0 hs]
    simp only [hs,decide_true]
    generalize zvE x=zv
    generalize decide (x.kind=0)=b1
    generalize decide (x.op=0)=b2
    generalize decide (x.qual=[])=b3
    generalize decide (x.name=[])=b4
    generalize decide (x.kids=[])=b5
    generalize x.not_=b6
    cases b1 <;> cases b2 <;> cases b6 <;> cases zv <;> cases b3 <;> cases b4 <;> cases b5 <;> simp
  · simp only [hs,decide_false]
    generalize zvE x=zv
    generalize decide (x.kind=0)=b1
    generalize decide (x.op=0)=b2
    generalize decide (x.qual=[])=b3
    generalize decide (x.name=[])=b4
    generalize decide (x.kids=[])=b5
    generalize x.not_=b6
    cases b1 <;> cases b2 <;> cases b6 <;> cases zv <;> cases b3 <;> cases b4 <;> cases b5 <;> simp
theorem bF8:xL=fun x=>pW x (aA.mk 0 0 false (bC.mk 0 0 []) [] [] [] []):=funext fun x=>(aR6 x).1
theorem aG2 (l:List aA) (d:aA→Bool) (hl:l.length≤1048576) (H:∀ y ∈ l,lF y=some (d y)):wF l=some (l.all d):=by
  have key:∀ i,i≤l.length→∃ k:Int,wU l (i:Nat)=some k∧(!decide (0≤k))=(l.drop i).all d:=by
    refine mO ?_ ?_
    · rw [wU]
      exact ⟨-1,by simp,by simp⟩
    · intro i hi ih
      rw [wU,List.drop_eq_getElem_cons hi]
      simp only [kU,mP hi,mF hi (by omega),hi,decide_true,if_true,aB8,H _ (List.getElem_mem hi),Option.bind_eq_bind,Option.bind_some,List.all_cons]
      cases hd:d l[i] with
      | true=>simpa using ih
      | false=>exact ⟨(i:Int),by simp,by simp⟩
  obtain ⟨k,h1,h2⟩:=key 0 (by omega)
  rw [show ((0:Nat):Int)=0 from rfl] at h1
  rw [wF,aDy,aFa,h1]
  simpa using h2
theorem bA4 (l:List aA) (d:aA→Bool) (hl:l.length≤1048576) (H:∀ y ∈ l,nC y=some (d y)):rU l 0=some (l.all d):=by
  have key:∀ i,i≤l.length→rU l (i:Nat)=some ((l.drop i).all d):=by
    refine mO ?_ ?_
    · rw [rU]; simp
    · intro i hi ih
      rw [rU,List.drop_eq_getElem_cons hi]
      simp only [kU,mP hi,mF hi (by omega),hi,decide_true,if_true,H _ (List.getElem_mem hi),Option.bind_eq_bind,Option.bind_some,List.all_cons]
      cases hd:d l[i] with
      | true=>simpa using ih
      | false=>simp
  simpa using key 0 (by omega)
theorem aP4 (q:aP) (d:aA→Bool) (hz:jE q≤1048576) (H:∀ y ∈ gM q,nC y=some (d y)∧lF y=some (d y)):oG q=tC q∧∃ b,tC q=some b:=by
  have hq:=zQ q
  have hle:=aDg q
  have e2:∃ b,rU (gM q) 0=some b∧wF (gM q)=some b:=⟨_,bA4 _ d (by omega) fun y hy=>(H y hy).1,aG2 _ d (by omega) fun y hy=>(H y hy).2⟩
  obtain ⟨b2,r2,f2⟩:=e2
  have e1:∀ i,i≤q.from_.length→xH q (i:Nat)=uY q (i:Nat)∧∃ b,uY q (i:Nat)=some b:=by
    refine mO ?_ ?_
    · rw [xH,uY]
      simp [aKh q hz,aH0 q hz,r2,f2]
    · intro i hi ih
      obtain ⟨ih1,b,ih2⟩:=ih
      rw [xH,uY]
      obtain ⟨bn,n1,_⟩:=yZ q.from_[i].table
      obtain ⟨ba,m1,_⟩:=R6 q.from_[i].as_
      simp only [aWn,aRy,kU,mP hi,mF hi (by omega),hi,decide_true,if_true,n1,m1,ih1,ih2,Option.bind_eq_bind,Option.bind_some]
      refine ⟨trivial,?_⟩
      generalize decide ((1:Int)<(q.from_[i].on_.length:Int))=c1
      generalize decide ((i:Int)=0)=c2
      generalize decide ((0:Int)<(q.from_[i].on_.length:Int))=c3
      cases bn <;> cases ba <;> cases c1 <;> cases c2 <;> cases c3 <;> exact ⟨_,rfl⟩
  have e0:∀ i,i≤q.items.length→xY q (i:Nat)=wJ q (i:Nat)∧∃ b,wJ q (i:Nat)=some b:=by
    refine mO ?_ ?_
    · rw [xY,wJ]
      simpa using e1 0 (by omega)
    · intro i hi ih
      obtain ⟨ih1,b,ih2⟩:=ih
      rw [xY,wJ]
      obtain ⟨bq,m1,_⟩:=R6 q.items[i].qual
      obtain ⟨ba,m2,_⟩:=R6 q.items[i].as_
      obtain ⟨_,bz,m3⟩:=aR6 q.items[i].expr
      simp only [bF8,aRy,kU,mP hi,mF hi (by omega),hi,decide_true,if_true,m1,m2,m3,ih1,ih2,Option.bind_eq_bind,Option.bind_some]
      refine ⟨trivial,?_⟩
      generalize q.items[i].star=s
      cases s <;> cases bq <;> cases ba <;> cases bz <;> by_cases g1:q.items[i].as_=[] <;> by_cases g2:q.items[i].qual=[] <;> simp [g1,g2]
  obtain ⟨k1,b,k2⟩:=e0 0 (by omega)
  rw [show ((0:Nat):Int)=0 from rfl] at k1 k2
  rw [oG,tC,k1,k2]
  unfold mK
  simp only [Option.bind_eq_bind,Option.bind_some]
  by_cases a1:(1:Int)≤(q.items.length:Int)
  · have a1':¬ (q.items.length:Int)<1:=by omega
    by_cases a2:(q.items.length:Int)≤12
    · have a2':¬ (12:Int)<(q.items.length:Int):=by omega
      by_cases a3:(1:Int)≤(q.from_.length:Int)
      · have a3':¬ (q.from_.length:Int)<1:=by omega
        by_cases a4:(q.from_.length:Int)≤3
        · have a4':¬ (3:Int)<(q.from_.length:Int):=by omega
          simp only [a1,a1',a2,a2',a3,a3',a4,a4',decide_true,decide_false]
          by_cases a5:(1:Int)<(q.where_.length:Int) <;> by_cases a6:(12:Int)<(q.order.length:Int) <;> by_cases a7:q.limit < -1 <;> simp [a5,a6,a7]
        · have a4':(3:Int)<(q.from_.length:Int):=by omega
          simp only [a1,a1',a2,a2',a3,a3',a4,a4',decide_true,decide_false]; simp
      · have a3':(q.from_.length:Int)<1:=by omega
        simp only [a1,a1',a2,a2',a3,a3',decide_true,decide_false]; simp
    · have a2':(12:Int)<(q.items.length:Int):=by omega
      simp only [a1,a1',a2,a2',decide_true,decide_false]; simp
  · have a1':(q.items.length:Int)<1:=by omega
    simp only [a1,a1',decide_true,decide_false]; simp
theorem right_eq:∀ n:Nat,∀ x:aA,bU x<n→bU x≤1048576→∃ b,nC x=some b∧lF x=some b:=by
  intro n
  induction n with
  | zero=>intro x h _; omega
  | succ n ih =>
    intro x hx hz
    have hE:=zE x
    let d:aA→Bool:=fun y=>(nC y).getD false
    have H:∀ y,bU y<bU x→nC y=some (d y)∧lF y=some (d y):=by
      intro y hy
      obtain ⟨r,h1,h2⟩:=ih y (by omega) (by omega)
      simp only [d,h1,h2,Option.getD_some,and_self]
    have HK:∀ y ∈ x.kids,nC y=some (d y)∧lF y=some (d y):=fun y hy=>H y (by have:=nT hy; omega)
    have HQ:∀ q ∈ x.sub,oG q=tC q∧∃ b,tC q=some b:=by
      intro q hq
      have h1:=uZ hq
      exact aP4 q d (by omega) fun y hy=>H y (by have:=yH hy; omega)
    obtain ⟨b,s1,s2,s3⟩:=aO0 x (by omega) (by omega)
    rw [nC,s1,s2]
    cases b with
    | false=>exact ⟨false,by simp,by simp⟩
    | true =>
      have hsl:=s3 rfl
      have hall:=aG2 x.kids d (by omega) fun y hy=>(HK y hy).2
      -- the one query below
      have tail : ∃ t, (∀ c : Bool, ((if (true && (c == true)) = true then uC x.sub else some default) >>= fun (y14 : Bool) => (some (if c = true then (!y14) else false)) >>= fun (y15 : Bool) => some y15) = some (c && t)) ∧
          ((if (true&&((decide ((x.sub.length:Int)=0))==false))=true then idx x.sub 0 else some default)>>=fun (y4:aP)=>(if (true&&((decide ((x.sub.length:Int)=0))==false))=true then tC y4 else some default)>>=fun (y5:Bool)=>(some (if (decide ((x.sub.length:Int)=0))=true then true else y5))>>=fun (y6:Bool)=>some y6)=some t:=by
        cases hsub:x.sub with
        | nil =>
          refine ⟨true,?_,by simp⟩
          intro c
          rw [uC,S9,rZ]
          cases c <;> simp
        | cons q l =>
          have hl:l=[]:=by
            rw [hsub] at hsl; simp only [List.length_cons] at hsl
            exact List.eq_nil_of_length_eq_zero (by omega)
          subst hl
          obtain ⟨g1,t,g2⟩:=HQ q (by rw [hsub]; simp)
          have w1:IntKind.wrap .i64 (0+1)=1:=by decide
          refine ⟨t,?_,by simp [idx,g2]⟩
          intro c
          rw [uC,S9,rZ,w1,rZ]
          cases c <;> cases t <;> simp [idx,aBr,g1,g2]
      obtain ⟨t,t1,t2⟩:=tail
      refine ⟨x.kids.all d&&t,?_,?_⟩
      · have key : ∀ i, i ≤ x.kids.length → yA x (i : Nat) = some ((x.kids.drop i).all d && t) := by
          refine mO ?_ ?_
          · rw [yA]
            simp only [kU,Nat.lt_irrefl,decide_false,Bool.false_eq_true,if_false,t2]
            simp
          · intro i hi ih
            rw [yA,List.drop_eq_getElem_cons hi]
            simp only [kU,mP hi,mF hi (by omega),hi,decide_true,if_true,(HK _ (List.getElem_mem hi)).1,Option.bind_eq_bind,Option.bind_some,List.all_cons]
            cases hd:d x.kids[i] with
            | true=>simpa using ih
            | false=>simp
        simpa using key 0 (by omega)
      · simp only [if_true,R4,hall,Option.bind_eq_bind,Option.bind_some]
        exact t1 _
theorem aLr (p:List aA) (d:aA→Int) (hz:p.length+(p.map bU).sum≤1048576) (H:∀ y ∈ p,kY y=some (d y)∧0≤d y∧d y≤1+bU y):K4 p=some (p.map d).sum:=by
  have hs:=xM (z:=bU) (d:=d) (p:=p) fun y hy=>(H y hy).2
  rw [K4]
  rw [folded (p:=p) (g:=fun y b=>(kY y)>>=fun r=>some (IntKind.wrap .i64 (b+r))) (h:=fun y b=>IntKind.wrap .i64 (b+d y)) (L:=fun b i=>M0 p b i) (K:=fun b=>some b) (by omega) ?_ ?_ 0]
  · rw [aEd (by omega) (fun y hy=>(H y hy).2.1) (by omega)]; simp
  · intro y hy b; simp only [(H y hy).1,Option.bind_eq_bind,Option.bind_some]
  · intro i b; rw [M0]; simp only [Option.bind_eq_bind,Option.bind_assoc,Option.bind_some]
theorem aOi (q:aP) (d:aA→Int) (hz:jE q≤1048576) (H:∀ y ∈ gM q,kY y=some (d y)∧0≤d y∧d y≤1+bU y):nI q=some ((gM q).map d).sum:=by
  have hl:=aHl q
  rw [nI,aKh q hz]
  simp only [Option.bind_eq_bind,Option.bind_some]
  rw [aLr _ d (by omega) H]; rfl
def oP (left S r:Int):Prop:=(S≤left∧r=left - S)∨(left<S∧r<0)
theorem aLh (x:aA) (l:Int) (h:l<0) (i:Int):tZ x l i=some l:=by
  rw [tZ]
  have:¬ 0≤l:=by omega
  simp [this]
theorem aE6 {α:Type} {d:α→Int}:∀ {l:List α},(∀ y ∈ l,0≤d y)→0≤(l.map d).sum
  | [],_=>by simp
  | a::l,h=>by
    have:=h a (by simp)
    have:=aE6 (l:=l) fun y hy=>h y (by simp [hy])
    simp only [List.map_cons,List.sum_cons]; omega
theorem left_eq:∀ n:Nat,∀ x:aA,bU x<n→bU x≤1048576→∃ d:Int,kY x=some d∧0≤d∧d≤1+bU x∧∀ left:Int,0≤left→left≤1048576→∃ r,vC x left=some r∧oP left d r:=by
  intro n
  induction n with
  | zero=>intro x h _; omega
  | succ n ih =>
    intro x hx hz
    have hE:=zE x
    let d:aA→Int:=fun y=>(kY y).getD 0
    have H:∀ y,bU y<bU x→kY y=some (d y)∧(0≤d y∧d y≤1+bU y)∧∀ left:Int,0≤left→left≤1048576→∃ r,vC y left=some r∧oP left (d y) r:=by
      intro y hy
      obtain ⟨r,h1,h2,h3,h4⟩:=ih y (by omega) (by omega)
      simp only [d,h1,Option.getD_some,true_and]
      exact ⟨⟨h2,h3⟩,h4⟩
    let e:aP→Int:=fun q=>((gM q).map d).sum
    have HQ:∀ q ∈ x.sub,nI q=some (e q)∧(0≤e q∧e q≤jE q)∧jE q≤1048576∧∀ y ∈ gM q,bU y<bU x:=by
      intro q hq
      have h1:=uZ hq
      have h2:∀ y ∈ gM q,bU y<bU x:=fun y hy=>by have:=yH hy; omega
      have h3:=xM (z:=bU) (d:=d) (p:=gM q) fun y hy=>(H y (h2 y hy)).2.1
      have h4:=aHl q
      exact ⟨aOi q d (by omega) fun y hy=>⟨(H y (h2 y hy)).1,(H y (h2 y hy)).2.1⟩,⟨h3.1,by show ((gM q).map d).sum≤_; omega⟩,by omega,h2⟩
    have HK:∀ y ∈ x.kids,bU y<bU x:=fun y hy=>by have:=nT hy; omega
    have hk:=xM (z:=bU) (d:=d) (p:=x.kids) fun y hy=>(H y (HK y hy)).2.1
    have hq:=aF9 (z:=jE) (d:=e) (p:=x.sub) fun y hy=>(HQ y hy).2.1
    have hk':=aA4 x.kids
    have hq':=aIe x.sub
    have enn:∀ l:List aP,(∀ q ∈ l,q ∈ x.sub)→0≤(l.map e).sum:=fun l hl=>aE6 fun q hq=>(HQ q (hl q hq)).2.1.1
    have L1:∀ i,i≤x.sub.length→∀ left:Int,left≤1048576→∃ r,tZ x left (i:Nat)=some r∧oP left ((x.sub.drop i).map e).sum r:=by
      refine mO ?_ ?_
      · intro left hl
        rw [tZ]
        refine ⟨left,by simp,?_⟩
        simp only [List.drop_length,List.map_nil,List.sum_nil,oP]
        omega
      · intro i hi ihi left hl
        have hmem:=List.getElem_mem hi
        obtain ⟨_,q2,q3,q4⟩:=HQ _ hmem
        have hrest:=enn (x.sub.drop (i+1)) fun q hq=>List.mem_of_mem_drop hq
        rw [List.drop_eq_getElem_cons hi,List.map_cons,List.sum_cons]
        by_cases h0:0≤left
        · have hle:=aDg x.sub[i]
          have L2:∀ j,j≤(gM x.sub[i]).length→∀ left:Int,left≤1048576→∃ r,vL (i:Int) (gM x.sub[i]) x left (j:Nat)=some r∧oP left ((((gM x.sub[i]).drop j).map d).sum+((x.sub.drop (i+1)).map e).sum) r:=by
            refine mO ?_ ?_
            · intro left hl
              rw [vL]
              obtain ⟨r,h1,h2⟩:=ihi left hl
              have w:=mF hi (by omega)
              refine ⟨r,by simp [w]; simpa using h1,?_⟩
              simpa using h2
            · intro j hj ihj left hl
              have hy:=List.getElem_mem hj
              obtain ⟨_,y2,y3⟩:=H _ (q4 _ hy)
              have hnn:0≤(((gM x.sub[i]).drop (j+1)).map d).sum:=aE6 fun y hy=>(H y (q4 y (List.mem_of_mem_drop hy))).2.1.1
              rw [List.drop_eq_getElem_cons hj,List.map_cons,List.sum_cons]
              rw [vL]
              by_cases h0:0≤left
              · obtain ⟨r',r1,r2⟩:=y3 left h0 hl
                have hr':r'≤1048576:=by rcases r2 with r2 | r2 <;> omega
                obtain ⟨r,s1,s2⟩:=ihj r' hr'
                refine ⟨r,?_,?_⟩
                · simp only [kU,mP hj,mF hj (by omega),hj,h0,decide_true,if_true,r1,Option.bind_eq_bind,Option.bind_some]
                  exact s1
                · unfold oP at *
                  omega
              · refine ⟨left,?_,?_⟩
                · simp only [h0,decide_false,Option.bind_eq_bind,Option.bind_some]
                  rw [aLh x left (by omega)]
                  simp
                · unfold oP; omega
          obtain ⟨r,s1,s2⟩:=L2 0 (by omega) left hl
          rw [tZ]
          refine ⟨r,?_,?_⟩
          · simp only [kU,mP hi,hi,h0,decide_true,if_true,aH0 _ q3,Option.bind_eq_bind,Option.bind_some]
            exact s1
          · simpa using s2
        · refine ⟨left,aLh x left (by omega) _,?_⟩
          unfold oP
          have:=q2.1
          omega
    have L0:∀ i,i≤x.kids.length→∀ left:Int,left≤1048576→∃ r,yI x left (i:Nat)=some r∧oP left (((x.kids.drop i).map d).sum+(x.sub.map e).sum) r:=by
      have hsub:=enn x.sub fun _ h=>h
      refine mO ?_ ?_
      · intro left hl
        rw [yI]
        obtain ⟨r,h1,h2⟩:=L1 0 (by omega) left hl
        refine ⟨r,by simpa using h1,by simpa using h2⟩
      · intro i hi ihi left hl
        have hy:=List.getElem_mem hi
        obtain ⟨_,y2,y3⟩:=H _ (HK _ hy)
        have hnn:0≤((x.kids.drop (i+1)).map d).sum:=aE6 fun y hy=>(H y (HK y (List.mem_of_mem_drop hy))).2.1.1
        rw [List.drop_eq_getElem_cons hi,List.map_cons,List.sum_cons]
        rw [yI]
        by_cases h0:0≤left
        · obtain ⟨r',r1,r2⟩:=y3 left h0 hl
          have hr':r'≤1048576:=by rcases r2 with r2 | r2 <;> omega
          obtain ⟨r,s1,s2⟩:=ihi r' hr'
          refine ⟨r,?_,?_⟩
          · simp only [kU,mP hi,mF hi (by omega),hi,h0,decide_true,if_true,r1,Option.bind_eq_bind,Option.bind_some]
            exact s1
          · unfold oP at *
            omega
        · refine ⟨left,?_,?_⟩
          · simp only [h0,decide_false,Option.bind_eq_bind,Option.bind_some]
            rw [aLh x left (by omega)]
            simp
          · unfold oP; omega
    refine ⟨1+(x.kids.map d).sum+(x.sub.map e).sum,?_,by omega,by omega,?_⟩
    · rw [kY,aLr x.kids d (by omega) fun y hy=>⟨(H y (HK y hy)).1,(H y (HK y hy)).2.1⟩]
      simp only [Option.bind_eq_bind,Option.bind_some]
      rw [iP (by omega) (by omega)]
      rw [folded (p:=x.sub) (g:=fun y b=>(nI y)>>=fun r=>some (IntKind.wrap .i64 (b+r))) (h:=fun y b=>IntKind.wrap .i64 (b+e y)) (L:=fun b i=>vR x b i) (K:=fun b=>some b) (by omega) ?_ ?_ _]
      · rw [aEd (by omega) (fun y hy=>(HQ y hy).2.1.1) (by omega)]
      · intro y hy b; simp only [(HQ y hy).1,Option.bind_eq_bind,Option.bind_some]
      · intro i b; rw [vR]; simp only [Option.bind_eq_bind,Option.bind_assoc,Option.bind_some]
    · intro left h0 h1
      rw [vC,iP (by omega) (by omega)]
      obtain ⟨r,s1,s2⟩:=L0 0 (by omega) (left - 1) (by omega)
      refine ⟨r,s1,?_⟩
      simp only [List.drop_zero] at s2
      unfold oP at *
      omega
theorem aFl (a b:Int):qX a b=some (if b > a then b else a):=by
  unfold qX
  by_cases h:b<a
  · simp [h]; omega
  · by_cases h2:b > a
    · simp [h,h2]
    · simp [h,h2]; omega
def mx (b r:Int):Int:=if r > b then r else b
theorem aZs (q:aP) (d:aA→Int) (hz:jE q≤1048576) (H:∀ y ∈ gM q,mW y=some (d y)):yV q=some ((gM q).foldl (fun b y=>mx b (d y)) 0):=by
  have hl:=aDg q
  rw [yV,aH0 q hz]
  simp only [Option.bind_eq_bind,Option.bind_some]
  refine folded (p:=gM q) (g:=fun y b=>(mW y)>>=fun r=>qX b r) (h:=fun y b=>mx b (d y)) (L:=fun b i=>xX (gM q) b i) (K:=fun b=>some b) (by omega) ?_ ?_ 0
  · intro y hy b; simp only [H y hy,Option.bind_eq_bind,Option.bind_some,aFl,mx]
  · intro i b; rw [xX]; simp only [Option.bind_eq_bind,Option.bind_assoc]
theorem aQg (q:aP) (d:aA→Int) (hz:jE q≤1048576) (H:∀ y ∈ gM q,jX y=some (d y)):oO q=some ((gM q).foldl (fun b y=>mx b (d y)) 0):=by
  have hl:=aDg q
  rw [oO,aKh q hz]
  simp only [Option.bind_eq_bind,Option.bind_some]
  rw [aD5]
  rw [folded (p:=gM q) (g:=fun y b=>(jX y)>>=fun r=>some (mx b r)) (h:=fun y b=>mx b (d y)) (L:=fun b i=>yS (gM q) b i) (K:=fun b=>some b) (by omega) ?_ ?_ 0]
  · rfl
  · intro y hy b; simp only [H y hy,Option.bind_eq_bind,Option.bind_some]
  · intro i b; rw [yS]; simp only [Option.bind_eq_bind,Option.bind_assoc,Option.bind_some,mx]
theorem bEs:∀ n:Nat,∀ x:aA,bU x<n→bU x≤1048576→∃ d,mW x=some d∧jX x=some d:=by
  intro n
  induction n with
  | zero=>intro x h _; omega
  | succ n ih =>
    intro x hx hz
    have hE:=zE x
    let d:aA→Int:=fun y=>(mW y).getD 0
    have H:∀ y,bU y<bU x→mW y=some (d y)∧jX y=some (d y):=by
      intro y hy
      obtain ⟨r,h1,h2⟩:=ih y (by omega) (by omega)
      simp only [d,h1,h2,Option.getD_some,and_self]
    let e:aP→Int:=fun q=>(gM q).foldl (fun b y=>mx b (d y)) 0
    have HQ:∀ q ∈ x.sub,yV q=some (e q)∧oO q=some (e q):=by
      intro q hq
      have h1:=uZ hq
      exact ⟨aZs q d (by omega) fun y hy=>(H y (by have:=yH hy; omega)).1,aQg q d (by omega) fun y hy=>(H y (by have:=yH hy; omega)).2⟩
    have HK:∀ y ∈ x.kids,mW y=some (d y)∧jX y=some (d y):=fun y hy=>H y (by have:=nT hy; omega)
    refine ⟨IntKind.wrap .i64 (x.sub.foldl (fun b y=>mx b (e y)) (x.kids.foldl (fun b y=>mx b (d y)) 0)+1),?_,?_⟩
    · rw [mW]
      rw [folded (p:=x.kids) (g:=fun y b=>(mW y)>>=fun r=>qX b r) (h:=fun y b=>mx b (d y)) (L:=fun b i=>U4 x b i) (K:=fun b=>xR x b 0) (by omega) ?_ ?_ 0]
      · rw [folded (p:=x.sub) (g:=fun y b=>(yV y)>>=fun r=>qX b r) (h:=fun y b=>mx b (e y)) (L:=fun b i=>xR x b i) (K:=fun b=>some (IntKind.wrap .i64 (b+1))) (by omega) ?_ ?_ _]
        · intro y hy b; simp only [(HQ y hy).1,Option.bind_eq_bind,Option.bind_some,aFl,mx]
        · intro i b; rw [xR]; simp only [Option.bind_eq_bind,Option.bind_assoc]
      · intro y hy b; simp only [(HK y hy).1,Option.bind_eq_bind,Option.bind_some,aFl,mx]
      · intro i b; rw [U4]; simp only [Option.bind_eq_bind,Option.bind_assoc]
    · rw [jX]
      rw [folded (p:=x.kids) (g:=fun y b=>(jX y)>>=fun r=>some (mx b r)) (h:=fun y b=>mx b (d y)) (L:=fun b i=>vG x b i) (K:=fun b=>rG x b 0) (by omega) ?_ ?_ 0]
      · rw [folded (p:=x.sub) (g:=fun y b=>(oO y)>>=fun r=>some (mx b r)) (h:=fun y b=>mx b (e y)) (L:=fun b i=>rG x b i) (K:=fun b=>some (IntKind.wrap .i64 (1+b))) (by omega) ?_ ?_ _]
        · rw [Int.add_comm]
        · intro y hy b; simp only [(HQ y hy).2,Option.bind_eq_bind,Option.bind_some]
        · intro i b; rw [rG]; simp only [Option.bind_eq_bind,Option.bind_assoc,Option.bind_some,mx]
      · intro y hy b; simp only [(HK y hy).2,Option.bind_eq_bind,Option.bind_some]
      · intro i b; rw [vG]; simp only [Option.bind_eq_bind,Option.bind_assoc,Option.bind_some,mx]
theorem aEs {α:Type} {d s:α→Int}:∀ {p:List α} {b c:Int},(∀ y ∈ p,d y≤s y∧0≤s y)→b≤c→0≤b→0≤c→p.foldl (fun b y=>mx b (d y)) b≤c+(p.map s).sum∧b≤p.foldl (fun b y=>mx b (d y)) b
  | [],b,c,_,h,_,_=>by simp; exact h
  | x::p,b,c,H,h,hb,hc=>by
    have h1:=H x (by simp)
    have hm:b≤mx b (d x)∧mx b (d x)≤c+s x:=by unfold mx; split <;> omega
    have h2:=aEs (p:=p) (b:=mx b (d x)) (c:=c+s x) (fun y hy=>H y (by simp [hy])) hm.2 (by omega) (by omega)
    simp only [List.foldl_cons,List.map_cons,List.sum_cons]; omega
def dI (y:aA):Int:=(jX y).getD 0
def sI (y:aA):Int:=(kY y).getD 0
def dQ (q:aP):Int:=(gM q).foldl (fun b y=>mx b (dI y)) 0
def sQ (q:aP):Int:=((gM q).map sI).sum
def R9 (y:aA):Prop:=jX y=some (dI y)∧kY y=some (sI y)∧1≤dI y∧dI y≤sI y∧sI y≤1+bU y
def aEy (q:aP):Prop:=oO q=some (dQ q)∧nI q=some (sQ q)∧0≤dQ q∧dQ q≤sQ q∧sQ q≤jE q
theorem aRe {q:aP} (hz:jE q≤1048576) (H:∀ y ∈ gM q,R9 y):aEy q:=by
  have h3:=xM (z:=bU) (d:=sI) (p:=gM q) fun y hy=>by obtain ⟨_,_,a,b,c⟩:=H y hy; exact ⟨by omega,c⟩
  have h4:=aHl q
  have h5:=aEs (d:=dI) (s:=sI) (p:=gM q) (b:=0) (c:=0) (fun y hy=>by obtain ⟨_,_,a,b,c⟩:=H y hy; exact ⟨b,by omega⟩) (by omega) (by omega) (by omega)
  refine ⟨aQg q dI hz fun y hy=>(H y hy).1,aOi q sI hz fun y hy=>?_,h5.2,by simp only [dQ,sQ]; omega,by simp only [sQ]; omega⟩
  obtain ⟨_,e,a,b,c⟩:=H y hy
  exact ⟨e,by omega,c⟩
theorem aQk {x : aA} (hz : bU x ≤ 1048576) (HK : ∀ y ∈ x.kids, R9 y) (HQ : ∀ q ∈ x.sub, aEy q) :
    let D:=x.sub.foldl (fun b y=>mx b (dQ y)) (x.kids.foldl (fun b y=>mx b (dI y)) 0)
    let S:=1+(x.kids.map sI).sum+(x.sub.map sQ).sum
    jX x=some (D+1)∧kY x=some S∧0≤D∧D<S∧S≤1+bU x:=by
  intro D S
  have hE:=zE x
  have hk:=xM (z:=bU) (d:=sI) (p:=x.kids) fun y hy=>by obtain ⟨_,_,a,b,c⟩:=HK y hy; exact ⟨by omega,c⟩
  have hq:=aF9 (z:=jE) (d:=sQ) (p:=x.sub) fun y hy=>by obtain ⟨_,_,a,b,c⟩:=HQ y hy; exact ⟨by omega,c⟩
  have hk':=aA4 x.kids
  have hq':=aIe x.sub
  have m1:=aEs (d:=dI) (s:=sI) (p:=x.kids) (b:=0) (c:=0) (fun y hy=>by obtain ⟨_,_,a,b,c⟩:=HK y hy; exact ⟨b,by omega⟩) (by omega) (by omega) (by omega)
  have m2:=aEs (d:=dQ) (s:=sQ) (p:=x.sub) (b:=x.kids.foldl (fun b y=>mx b (dI y)) 0) (c:=(x.kids.map sI).sum) (fun y hy=>by obtain ⟨_,_,a,b,c⟩:=HQ y hy; exact ⟨b,by omega⟩) (by omega) (by omega) (by omega)
  have hS:S≤1+bU x:=by simp only [S]; omega
  have hD0:0≤D:=by simp only [D]; omega
  have hDS:D<S:=by simp only [D,S]; omega
  refine ⟨?_,?_,hD0,hDS,hS⟩
  · rw [jX]
    rw [folded (p:=x.kids) (g:=fun y b=>(jX y)>>=fun r=>some (mx b r)) (h:=fun y b=>mx b (dI y)) (L:=fun b i=>vG x b i) (K:=fun b=>rG x b 0) (by omega) ?_ ?_ 0]
    · rw [folded (p:=x.sub) (g:=fun y b=>(oO y)>>=fun r=>some (mx b r)) (h:=fun y b=>mx b (dQ y)) (L:=fun b i=>rG x b i) (K:=fun b=>some (IntKind.wrap .i64 (1+b))) (by omega) ?_ ?_ _]
      · rw [iP (by show _≤1+D; omega) (by show 1+D≤_; omega),Int.add_comm]
      · intro y hy b; simp only [(HQ y hy).1,Option.bind_eq_bind,Option.bind_some]
      · intro i b; rw [rG]; simp only [Option.bind_eq_bind,Option.bind_assoc,Option.bind_some,mx]
    · intro y hy b; simp only [(HK y hy).1,Option.bind_eq_bind,Option.bind_some]
    · intro i b; rw [vG]; simp only [Option.bind_eq_bind,Option.bind_assoc,Option.bind_some,mx]
  · rw [kY,aLr x.kids sI (by omega) fun y hy=>by obtain ⟨_,e,a,b,c⟩:=HK y hy; exact ⟨e,by omega,c⟩]
    simp only [Option.bind_eq_bind,Option.bind_some]
    rw [iP (by omega) (by omega)]
    rw [folded (p:=x.sub) (g:=fun y b=>(nI y)>>=fun r=>some (IntKind.wrap .i64 (b+r))) (h:=fun y b=>IntKind.wrap .i64 (b+sQ y)) (L:=fun b i=>vR x b i) (K:=fun b=>some b) (by omega) ?_ ?_ _]
    · rw [aEd (by omega) (fun y hy=>by obtain ⟨_,_,a,b,c⟩:=HQ y hy; omega) (by omega)]
    · intro y hy b; simp only [(HQ y hy).2.1,Option.bind_eq_bind,Option.bind_some]
    · intro i b; rw [vR]; simp only [Option.bind_eq_bind,Option.bind_assoc,Option.bind_some]
theorem aQa {m:Option Int} {a:Int} (h:m=some a):m.getD 0=a:=by rw [h]; rfl
theorem aM3:∀ (n:Nat) (x:aA),bU x<n→bU x≤1048576→R9 x:=by
  intro n
  induction n with
  | zero=>intro x h _; omega
  | succ n ih =>
    intro x hx hz
    have hE:=zE x
    have HK:∀ y ∈ x.kids,R9 y:=fun y hy=>by have:=nT hy; exact ih y (by omega) (by omega)
    have HQ:∀ q ∈ x.sub,aEy q:=fun q hq=>by
      have:=uZ hq
      exact aRe (by omega) fun y hy=>by have:=yH hy; exact ih y (by omega) (by omega)
    obtain ⟨h1,h2,h3,h4,h5⟩:=aQk hz HK HQ
    have e1:dI x=_:=aQa h1
    have e2:sI x=_:=aQa h2
    unfold R9
    rw [e1,e2]
    exact ⟨h1,h2,by omega,by omega,h5⟩
theorem aXy:∀ (n:Nat) (x:aA),bU x<n→bU x≤1048576→pK x x=some true:=by
  intro n
  induction n with
  | zero=>intro x h _; omega
  | succ n ih =>
    intro x hx hz
    have hE:=zE x
    have E:∀ l:List aA,l.length≤1048576→(∀ y ∈ l,bU y<bU x)→uA l l=some true:=by
      intro l hl h
      rw [uA]
      rw [aB0 (p:=l) (E:=pK) (L:=fun i=>vZ l l i) (S:=fun a b=>zF a b) hl
        (by rw [zF]) (fun i=>by rw [vZ]) fun y hy=>ih y (by have:=h y hy; omega) (by have:=h y hy; omega)]
      rfl
    have Q:∀ q:aP,jE q<bU x→U7 q q=some true:=by
      intro q hq
      have hQ:=zQ q
      have hI:∀ i ∈ q.items,G7 i i=some true:=fun i hi=>by
        have h1:=aKi hi
        have:bU i.expr≤oW i:=by obtain ⟨a,b,c,d⟩:=i; simp only [oW]; omega
        rw [G7,ih i.expr (by omega) (by omega)]; simp
      have hO:∀ i ∈ q.order,U1 i i=some true:=fun i hi=>by
        have h1:=aFo hi
        have:bU i.expr≤uQ i:=by obtain ⟨a,b⟩:=i; simp only [uQ]; omega
        rw [U1,ih i.expr (by omega) (by omega)]; simp
      have hS:∀ s ∈ q.from_,P9 s s=some true:=fun s hs=>by
        have h1:=aMf hs
        have:s.on_.length+eQ s.on_≤tF s:=by obtain ⟨a,b,c⟩:=s; simp only [tF]; omega
        rw [P9,E s.on_ (by omega) fun y hy=>by have:=nT hy; omega]; simp
      have e1:=aB0 (p:=q.items) (E:=G7) (L:=fun i=>F4 q.items q.items i) (S:=fun a b=>aAr a b) (by omega)
        (by rw [aAr]) (fun i=>by rw [F4]) hI
      have e2:=aB0 (p:=q.from_) (E:=P9) (L:=fun i=>R7 q.from_ q.from_ i) (S:=fun a b=>aAq a b) (by omega)
        (by rw [aAq]) (fun i=>by rw [R7]) hS
      have e3:=aB0 (p:=q.order) (E:=U1) (L:=fun i=>H6 q.order q.order i) (S:=fun a b=>Y6 a b) (by omega)
        (by rw [Y6]) (fun i=>by rw [H6]) hO
      have e4:=E q.where_ (by omega) fun y hy=>by have:=nT hy; omega
      rw [U7]
      simp only [e1,e2,e3,e4]
      simp
    have e1:=E x.kids (by omega) fun y hy=>by have:=nT hy; omega
    have e2:=aB0 (p:=x.sub) (E:=U7) (L:=fun i=>xI x.sub x.sub i) (S:=fun a b=>xZ a b) (by omega)
      (by rw [xZ]) (fun i=>by rw [xI]) fun q hq=>Q q (by have:=uZ hq; omega)
    rw [pK]
    simp only [e1,e2]
    simp
theorem aYz (l:List aP) (d:aP→Bool) (hl:l.length≤1048576) (H:∀ y ∈ l,oG y=some (d y)):uC l=some (!(l.all d)):=by
  have key:∀ i,i≤l.length→∃ k:Int,rZ l (i:Nat)=some k∧(!decide (0≤k))=(l.drop i).all d:=by
    refine mO ?_ ?_
    · rw [rZ]
      exact ⟨-1,by simp,by simp⟩
    · intro i hi ih
      rw [rZ,List.drop_eq_getElem_cons hi]
      simp only [kU,mP hi,mF hi (by omega),hi,decide_true,if_true,aBr,H _ (List.getElem_mem hi),Option.bind_eq_bind,Option.bind_some,List.all_cons]
      cases hd:d l[i] with
      | true=>simpa using ih
      | false=>exact ⟨(i:Int),by simp,by simp⟩
  obtain ⟨k,h1,h2⟩:=key 0 (by omega)
  rw [show ((0:Nat):Int)=0 from rfl] at h1
  rw [uC,S9,h1]
  simp at h2
  simp [← h2]
theorem aGi {α:Type} {d:α→Int}:∀ {p:List α} {b:Int} {y:α},y ∈ p→d y≤p.foldl (fun b y=>mx b (d y)) b
  | x::p,b,y,h=>by
    have hge:∀ (p:List α) (b:Int),b≤p.foldl (fun b y=>mx b (d y)) b:=by
      intro p
      induction p with
      | nil=>intro b; simp
      | cons x p ih => intro b; have := ih (mx b (d x)); have h2 : b ≤ mx b (d x) := by (unfold mx; split <;> omega)
                       simp only [List.foldl_cons]; omega
    simp only [List.foldl_cons]
    rcases List.mem_cons.1 h with rfl | h
    · have:=hge p (mx b (d y))
      have h2:d y≤mx b (d y):=by unfold mx; split <;> omega
      omega
    · exact aGi h
theorem aNi {α:Type} {d:α→Int}:∀ {p:List α} {b:Int},b≤p.foldl (fun b y=>mx b (d y)) b
  | [],b=>by simp
  | x::p,b=>by
    have:=aNi (d:=d) (p:=p) (b:=mx b (d x))
    have h2:b≤mx b (d x):=by unfold mx; split <;> omega
    simp only [List.foldl_cons]; omega
theorem aG4 {α:Type} {s:α→Int}:∀ {p:List α} {y:α},(∀ y ∈ p,0≤s y)→y ∈ p→s y≤(p.map s).sum
  | x::p,y,h0,h=>by
    have hs:0≤(p.map s).sum:=by
      have:∀ l:List α,(∀ y ∈ l,0≤s y)→0≤(l.map s).sum:=by
        intro l
        induction l with
        | nil=>intro _; simp
        | cons a l ih=>intro h; simp only [List.map_cons,List.sum_cons]; have:=h a (by simp); have:=ih fun y hy=>h y (by simp [hy]); omega
      exact this p fun y hy=>h0 y (by simp [hy])
    have hx:=h0 x (by simp)
    simp only [List.map_cons,List.sum_cons]
    rcases List.mem_cons.1 h with rfl | h
    · omega
    · have:=aG4 (fun y hy=>h0 y (by simp [hy])) h; omega
theorem aCf {x:aA} {t s:Int} {b:Bool} (h1:jX x=some t) (h2:kY x=some s) (h3:lF x=some b):oV x=some ((decide (t≤24)&&decide (s≤200))&&b):=by
  rw [oV]
  unfold uX
  simp only [h1,h2,h3,Option.bind_eq_bind,Option.bind_some]
  by_cases p:s≤200 <;> by_cases q:t≤24 <;> cases b <;> simp [p,q]
theorem aTj {x:aP} {t s:Int} {b:Bool} (h1:oO x=some t) (h2:nI x=some s) (h3:oG x=some b):U6 x=some ((decide (t≤24)&&decide (s≤200))&&b):=by
  rw [U6]
  unfold uX
  simp only [h1,h2,h3,Option.bind_eq_bind,Option.bind_some]
  by_cases p:s≤200 <;> by_cases q:t≤24 <;> cases b <;> simp [p,q]
theorem aXn (x:aA) (hz':bU x≤1048576):yO x=oV x:=by
  obtain ⟨b,h1,h2⟩:=right_eq _ x (Nat.lt_succ_self _) hz'
  obtain ⟨s,s1,s2,s3,s4⟩:=left_eq _ x (Nat.lt_succ_self _) hz'
  obtain ⟨r,r1,r2⟩:=s4 200 (by omega) (by omega)
  obtain ⟨t,t1,t2⟩:=bEs _ x (Nat.lt_succ_self _) hz'
  rw [aCf t2 s1 h2,yO]
  simp only [h1,r1,t1,Option.bind_eq_bind,Option.bind_some]
  have hr:decide (0≤r)=decide (s≤200):=by
    rcases r2 with ⟨a1,a2⟩ | ⟨a1,a2⟩
    · have p1:0≤r:=by omega
      simp [p1,a1]
    · have p1:¬ 0≤r:=by omega
      have p2:¬ s≤200:=by omega
      simp [p1,p2]
  rw [hr]
  by_cases p:s≤200 <;> by_cases q:t≤24 <;> cases b <;> simp [p,q]
theorem bDd (x:aA) (hz:bU x≤1093) (hok:oV x=some true):tQ x 0=some true:=by
  have hE:=zE x
  have HK:∀ y ∈ x.kids,R9 y:=fun y hy=>by have:=nT hy; exact aM3 _ y (Nat.lt_succ_self _) (by omega)
  have HQ:∀ q ∈ x.sub,aEy q:=fun q hq=>by
    have:=uZ hq
    exact aRe (by omega) fun y hy=>by have:=yH hy; exact aM3 _ y (Nat.lt_succ_self _) (by omega)
  obtain ⟨h1,h2,h3,h4,h5⟩:=aQk (by omega) HK HQ
  obtain ⟨b,b1,b2⟩:=right_eq _ x (Nat.lt_succ_self _) (by omega)
  rw [aCf h1 h2 b2] at hok
  simp only [Option.some.injEq,Bool.and_eq_true,decide_eq_true_eq] at hok
  obtain ⟨⟨o1,o2⟩,o3⟩:=hok
  subst o3
  let d:aA→Bool:=fun y=>(lF y).getD false
  have HF:∀ y,bU y≤1048576→nC y=some (d y)∧lF y=some (d y):=fun y hy=>by
    obtain ⟨r,r1,r2⟩:=right_eq _ y (Nat.lt_succ_self _) hy
    simp only [d,r1,r2,Option.getD_some,and_self]
  let dq:aP→Bool:=fun q=>(oG q).getD false
  have HFQ:∀ q ∈ x.sub,oG q=some (dq q):=fun q hq=>by
    have:=uZ hq
    obtain ⟨g1,t,g2⟩:=aP4 q d (by omega) fun y hy=>HF y (by have:=yH hy; omega)
    have:oG q=some t:=g1.trans g2
    simp only [dq,this,Option.getD_some]
  have hall:=aG2 x.kids d (by omega) fun y hy=>(HF y (by have:=nT hy; omega)).2
  have hcont:=aYz x.sub dq (by omega) HFQ
  obtain ⟨c,c1,c2,c3⟩:=aO0 x (by omega) (by omega)
  have hc:c=true:=by
    cases c with
    | true=>rfl
    | false=>rw [c2] at b2; simp at b2
  subst hc
  rw [if_pos rfl] at c2
  rw [c2] at b2
  unfold R4 at b2
  rw [hall,hcont] at b2
  simp only [Option.bind_eq_bind,Option.bind_some] at b2
  have hk:x.kids.all d=true∧x.sub.all dq=true:=by
    cases p:x.kids.all d <;> cases q:x.sub.all dq <;> rw [p,q] at b2 <;> simp at b2 ⊢
  rw [List.all_eq_true,List.all_eq_true] at hk
  have nnK:∀ y ∈ x.kids,0≤sI y:=fun y hy=>by obtain ⟨_,_,a,b,c⟩:=HK y hy; omega
  have nnQ:∀ q ∈ x.sub,0≤sQ q:=fun q hq=>by obtain ⟨_,_,a,b,c⟩:=HQ q hq; omega
  have sumK:0≤(x.kids.map sI).sum:=by have:=(xM (z:=bU) (d:=sI) (p:=x.kids) fun y hy=>by obtain ⟨_,_,a,b,c⟩:=HK y hy; exact ⟨by omega,c⟩); exact this.1
  have sumQ:0≤(x.sub.map sQ).sum:=by have:=(aF9 (z:=jE) (d:=sQ) (p:=x.sub) fun y hy=>by obtain ⟨_,_,a,b,c⟩:=HQ y hy; exact ⟨by omega,c⟩); exact this.1
  have L1:∀ i,i≤x.sub.length→uV x (i:Nat)=some true:=by
    refine mO ?_ ?_
    · rw [uV]
      simp [aXy _ x (Nat.lt_succ_self _) (by omega)]
    · intro i hi ih
      have hm:=List.getElem_mem hi
      obtain ⟨g1,g2,g3,g4,g5⟩:=HQ _ hm
      have m1:=aGi (d:=dQ) (b:=x.kids.foldl (fun b y=>mx b (dI y)) 0) hm
      have m2:=aG4 nnQ hm
      have hok2:U6 x.sub[i]=some true:=by
        rw [aTj g1 g2 (HFQ _ hm),hk.2 _ hm]
        simp; omega
      rw [uV]
      simp only [kU,mP hi,mF hi (by omega),hi,decide_true,if_true,hok2,Option.bind_eq_bind,Option.bind_some]
      simpa using ih
  have L0:∀ i,i≤x.kids.length→tQ x (i:Nat)=some true:=by
    refine mO ?_ ?_
    · rw [tQ]
      simp only [kU,Nat.lt_irrefl,decide_false,Bool.false_eq_true,if_false]
      exact L1 0 (by omega)
    · intro i hi ih
      have hm:=List.getElem_mem hi
      obtain ⟨g1,g2,g3,g4,g5⟩:=HK _ hm
      have m1:=aGi (d:=dI) (b:=0) hm
      have m3:=aNi (d:=dQ) (p:=x.sub) (b:=x.kids.foldl (fun b y=>mx b (dI y)) 0)
      have m2:=aG4 nnK hm
      have hok2:oV x.kids[i]=some true:=by
        rw [aCf g1 g2 (HF _ (by have:=nT hm; omega)).2,hk.1 _ hm]
        simp; omega
      have hd:¬ 24≤dI x.kids[i]:=by omega
      rw [tQ]
      simp only [kU,mP hi,mF hi (by omega),hi,decide_true,if_true,hok2,Option.bind_eq_bind,Option.bind_some]
      simpa [g1,hd] using ih
  exact L0 0 (by omega)
theorem bDf (p:List Int) (_:okL okU8 p):aBb p=some true:=by
  unfold aBb aF8
  simp only [Option.bind_eq_bind,Option.bind_some]
  by_cases hb:(1048576:Int)<(p.length:Int)
  · rw [if_pos (by simpa using hb)]
  rw [if_neg (by simpa using hb)]
  obtain ⟨e,h1,h2⟩:=bEd p (by omega)
  unfold aEp
  obtain ⟨b,b1,b2⟩:=right_eq _ e (Nat.lt_succ_self _) (by omega)
  obtain ⟨_,i2,i3,i4,i5⟩:=aM3 _ e (Nat.lt_succ_self _) (by omega)
  have hi:∃ c,oV e=some c:=⟨_,aCf (by assumption) i2 b2⟩
  obtain ⟨c,hc⟩:=hi
  have hs:yO e=some c:=(aXn e (by omega)).trans hc
  simp only [h1,hc,hs,Option.bind_eq_bind,Option.bind_some]
  cases c with
  | false=>simp
  | true=>simpa using bDd e h2 hc
end Go.Ab
