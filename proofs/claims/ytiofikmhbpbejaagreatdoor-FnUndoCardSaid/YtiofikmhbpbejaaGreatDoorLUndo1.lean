/- What the functions compute,in plain Lean. -/
import Derived.Test.YtiofikmhbpbejaaGreatDoorLUndo0
namespace Go.Ab
open Go
open _root_.Option renaming bind_some→QA,bind_eq_bind→QB
open _root_.Bool renaming false_eq_true→QC,not_true→QI,and_self→QU,not_false→WB,and_eq_true→WH
open _root_.List renaming drop_eq_getElem_cons→QD,length_cons→QE,getElem_mem→QF,append_assoc→QG,singleton_append→QH,map_cons→QJ,length_nil→QK,sum_cons→QL,length_pos_of_mem→QM,length_append→QN,mem_cons→QO,map_append→QP,sum_append→QR,mem_append→QS,length→QT,cons_append→QV,replicate→QW,drop_of_length_le→QX,map_nil→QY,sum_nil→QZ,getElem_of_mem→WC,length_take→WD,flatMap_cons→WE,nil_append→WI,mem_map→WJ,getElem_cons_succ→WK,all_eq_true→WL,getElem?_eq_getElem→WM,eq_nil_of_length_eq_zero→WN,mem_singleton→WP,pairwise_iff_getElem→WQ,length_map→WR,map_map→WS,getElem_map→WT,mem_of_mem_take→WU,set_cons_succ→WV,mem_or_eq_of_mem_set→WW,mem_of_getElem?→WX
open _root_.Nat renaming lt_irrefl→QQ,zero_add→WF,lt_succ_self→WG,le_trans→WO,strongRecOn→WZ,le_refl→XA
open Go.IntKind renaming wrap→WA
open _root_.Int renaming le_refl→WY
inductive A2 {α β:Type} (R:α→β→Prop):List α→List β→Prop
  | nil:A2 R [] []
  | cons {a b l m}:R a b→A2 R l m→A2 R (a::l) (b::m)
theorem A2.length {α β:Type} {R:α→β→Prop} {l:List α} {m:List β} (h:A2 R l m):l.length=m.length:=by induction h <;> simp [*]
theorem A2.get {α β:Type} {R:α→β→Prop} {l:List α} {m:List β} (h:A2 R l m):∀ (i:Nat) (h1:i<l.length) (h2:i<m.length),R l[i] m[i]:=by
  induction h with
  | nil=>intro i h1; simp at h1
  | cons a _ ih =>
    intro i h1 h2
    cases i with
    | zero=>exact a
    | succ i=>exact ih i (by simpa using h1) (by simpa using h2)
theorem A2.of {α β:Type} {R:α→β→Prop}:∀ {l:List α} {m:List β},l.length=m.length→(∀ (i:Nat) (h1:i<l.length) (h2:i<m.length),R l[i] m[i])→A2 R l m
  | [],[],_,_=>.nil
  | a::l,b::m,h,k=>.cons (k 0 (by simp) (by simp)) (A2.of (by simpa using h) fun i h1 h2=>k (i+1) (by simpa using h1) (by simpa using h2))
theorem A2.mono {α β:Type} {R S:α→β→Prop} {l:List α} {m:List β} (h:A2 R l m) (k:∀ a b,a ∈ l→R a b→S a b):A2 S l m:=by
  induction h with
  | nil=>exact .nil
  | cons a _ ih=>exact .cons (k _ _ (by simp) a) (ih fun a b ha=>k a b (by simp [ha]))
theorem A2.app {α β:Type} {R:α→β→Prop} {l l':List α} {m m':List β} (h:A2 R l m) (k:A2 R l' m'):A2 R (l++l') (m++m'):=by
  induction h with
  | nil=>exact k
  | cons a _ ih=>exact .cons a ih
theorem A2.ex {α β:Type} {R:α→β→Prop}:∀ (l:List α),(∀ a ∈ l,∃ b,R a b)→∃ m,A2 R l m
  | [],_=>⟨[],.nil⟩
  | a::l,h=>by
    obtain ⟨b,hb⟩:=h a (by simp)
    obtain ⟨m,hm⟩:=A2.ex l fun x hx=>h x (by simp [hx])
    exact ⟨b::m,.cons hb hm⟩
theorem bD9:∀ u:Nat,∀ b ∈ Lib.decDigits u,b≠95:=by
  intro u
  induction u using WZ with
  | ind u ih =>
    intro b hb
    by_cases h:u<10
    · rw [Lib.decDigits_one h] at hb
      simp only [WP] at hb
      subst hb
      intro e
      have:=congrArg UInt8.toNat e
      simp at this; omega
    · rw [Lib.decDigits,dif_neg h] at hb
      rcases QS.1 hb with hb | hb
      · exact ih _ (by omega) b hb
      · simp only [WP] at hb
        subst hb
        intro e
        have:=congrArg UInt8.toNat e
        simp at this; omega
theorem bFl:∀ u v:Nat,Lib.decDigits u=Lib.decDigits v→u=v:=by
  have fin:∀ a b:Nat,a<10→b<10→UInt8.ofNat (48+a)=UInt8.ofNat (48+b)→a=b:=by
    intro a b ha hb e
    have:=congrArg UInt8.toNat e
    simp at this; omega
  intro u
  induction u using WZ with
  | ind u ih =>
    intro v h
    have hl:=congrArg QT h
    rw [Lib.decDigits_length,Lib.decDigits_length] at hl
    by_cases hu:u<10
    · by_cases hv:v<10
      · rw [Lib.decDigits_one hu,Lib.decDigits_one hv] at h
        exact fin _ _ hu hv (by simpa using h)
      · rw [Lib.nDigits_small hu,Lib.nDigits_big hv] at hl
        have:=Lib.nDigits_pos (v / 10); omega
    · by_cases hv:v<10
      · rw [Lib.nDigits_small hv,Lib.nDigits_big hu] at hl
        have:=Lib.nDigits_pos (u / 10); omega
      · rw [Lib.decDigits,dif_neg hu,Lib.decDigits.eq_def v,dif_neg hv] at h
        obtain ⟨h1,h2⟩:=List.append_inj' h rfl
        have e1:=ih (u / 10) (by omega) _ h1
        have e2:=fin (u % 10) (v % 10) (Nat.mod_lt _ (by omega)) (Nat.mod_lt _ (by omega)) (by simpa using h2)
        omega
theorem aKo:∀ (k u:Nat),u<10 ^ (k+1)→Lib.nDigits u≤k+1
  | 0,u,h=>by rw [Lib.nDigits_small (by simpa using h)]; omega
  | k+1,u,h=>by
    by_cases hu:u<10
    · rw [Lib.nDigits_small hu]; omega
    · rw [Lib.nDigits_big hu]
      have:=aKo k (u / 10) (by rw [Nat.pow_succ] at h; omega)
      omega
def al (d i:Nat):List UInt8:=113::(Lib.decDigits d++95::Lib.decDigits i)
theorem bK7 (d i:Nat) (hd:d<10000000) (hi:i<10000000):1≤(al d i).length∧(al d i).length≤16:=by
  have h1:=aKo 6 d hd
  have h2:=aKo 6 i hi
  unfold al
  simp only [QE,QN,Lib.decDigits_length]
  omega
theorem bA9 (d i:Nat):al d i≠[]:=by unfold al; simp
theorem bKn:∀ (a a' b b':List UInt8),(∀ x ∈ a,x≠95)→(∀ x ∈ a',x≠95)→a++95::b=a'++95::b'→a=a'∧b=b'
  | [],[],b,b',_,_,h=>⟨rfl,by simpa using h⟩
  | [],y::a',b,b',_,h',h=>by
    simp only [WI,QV,List.cons.injEq] at h
    exact absurd h.1.symm (h' y (by simp))
  | x::a,[],b,b',h1,_,h=>by
    simp only [WI,QV,List.cons.injEq] at h
    exact absurd h.1 (h1 x (by simp))
  | x::a,y::a',b,b',h1,h2,h=>by
    simp only [QV,List.cons.injEq] at h
    obtain ⟨e1,e2⟩:=bKn a a' b b' (fun z hz=>h1 z (by simp [hz])) (fun z hz=>h2 z (by simp [hz])) h.2
    exact ⟨by rw [h.1,e1],e2⟩
theorem aLy {d i d' i':Nat} (h:al d i=al d' i'):d=d'∧i=i':=by
  unfold al at h
  simp only [List.cons.injEq,true_and] at h
  obtain ⟨h1,h2⟩:=bKn _ _ _ _ (bD9 d) (bD9 d') h
  exact ⟨bFl _ _ h1,bFl _ _ h2⟩
theorem bW0 (u:Nat):Lib.itoa (u:Int)=Lib.decDigits u:=by unfold Lib.itoa; rw [if_neg (by omega)]; simp
theorem aSn {a b:List UInt8} (h:a.length+b.length≤1073741824):lM a b=some (a++b):=by
  unfold lM; rw [if_pos (WO h (by decide))]
theorem bBl (d i:Nat) (hd:d<10000000) (hi:i<10000000):aDn (d:Int) (i:Int)=some (al d i):=by
  have h1:=aKo 6 d hd
  have h2:=aKo 6 i hi
  unfold aDn aD4 aId
  simp only [bW0,QB,QA]
  rw [aSn (by simp only [QE,QK,Lib.decDigits_length]; omega)]
  simp only [QA]
  rw [aSn (by simp only [QE,QK,QN,Lib.decDigits_length]; omega)]
  simp only [QA]
  rw [aSn (by simp only [QE,QK,QN,Lib.decDigits_length]; omega)]
  simp [al]
theorem bH2 (d i:Nat) (hd:d<10000000) (hi:i<10000000):aH9 (d:Int) (i:Int)=some (al d i):=by
  rw [← bBl d i hd hi]
  unfold aH9 aDn aD4 aId
  rw [bHw d (by omega) (by omega),bHw i (by omega) (by omega)]
  simp
def mI (c:aP) (k:Int):bI:=c.tables[k.toNat]?.getD default
def uW (c:aP) (d i:Nat) (k:Int):List bJ:=(mI c k).cols.map fun x=>⟨al d i,x.name,x.type⟩
def eB (c:aP) (d:Nat):Nat→List Int→List bJ
  | _,[]=>[]
  | i,k::l=>uW c d i k++eB c d (i+1) l
def okTs (c:aP) (ts:List Int):Prop:=ts.length≤3∧∀ k ∈ ts,0≤k∧k<(c.tables.length:Int)
theorem aLd {c:aP} {k:Int} (h:0≤k∧k<(c.tables.length:Int)):idx c.tables k=some (mI c k)∧∃ hj:k.toNat<c.tables.length,mI c k=c.tables[k.toNat]:=by
  have hj:k.toNat<c.tables.length:=by omega
  have:=bX hj
  rw [show ((k.toNat:Nat):Int)=k by omega] at this
  have e:mI c k=c.tables[k.toNat]:=by unfold mI; simp [hj]
  exact ⟨by rw [this,e],hj,e⟩
theorem aAn {c:aP} (hc:nH c) {k:Int} (h:0≤k∧k<(c.tables.length:Int)):wJ (mI c k)∧sN c (mI c k).name=some k:=by
  obtain ⟨_,hj,e⟩:=aLd h
  obtain ⟨t,h1,h2,h3⟩:=hc.1 _ hj
  rw [WM hj] at h1
  obtain rfl:c.tables[k.toNat]=t:=by simpa using h1
  rw [e]
  exact ⟨h2,by rw [h3]; congr 1; omega⟩
theorem cC7 (t:bI) (s:List UInt8) (ht:t.cols.length≤1000) (j:Nat) (hj:j<t.cols.length) (h:t.cols[j].name=s):∃ r:Int,wC t s=some r∧r≤j:=by
  have key:∀ i,i≤j→∃ r:Int,xA s t (i:Nat)=some r∧r≤j:=by
    refine eO ?_ ?_
    · exact ⟨j,by rw [xA]; simp [hj,bX hj,h],by omega⟩
    · intro i hi ih
      rw [xA]
      have h1:i<t.cols.length:=by omega
      simp only [dD,bX h1,dX h1 (by omega),h1,decide_true,if_true,QB,QA]
      by_cases e:t.cols[i].name=s
      · exact ⟨i,by simp [e],by omega⟩
      · simpa [e] using ih
  have:=key 0 (by omega)
  simpa [wC] using this
def bCx (a b:bJ):Prop:=¬ (a.qual=b.qual∧a.name=b.name)
theorem bMp {t:bI} (h:wJ t) (q:List UInt8):(t.cols.map fun x=>(⟨q,x.name,x.type⟩:bJ)).Pairwise bCx:=by
  rw [List.pairwise_map,WQ]
  intro i j hi hj hij ⟨_,e⟩
  obtain ⟨x,h1,_,_,h4⟩:=h.1 j hj
  rw [WM hj] at h1
  obtain rfl:t.cols[j]=x:=by simpa using h1
  obtain ⟨r,r1,r2⟩:=cC7 t t.cols[j].name (by have:=h.2.2.2; omega) i hi e
  rw [h4] at r1
  simp at r1
  omega
theorem aIu {c:aP} {d:Nat} {x:bJ}:∀ {ts:List Int} {i:Nat},x ∈ eB c d i ts→∃ j,i≤j∧x.qual=al d j
  | [],_,h=>by simp [eB] at h
  | k::l,i,h=>by
    rcases QS.1 h with h | h
    · unfold uW at h
      obtain ⟨y,_,rfl⟩:=WJ.1 h
      exact ⟨i,XA _,rfl⟩
    · obtain ⟨j,h1,h2⟩:=aIu h
      exact ⟨j,by omega,h2⟩
theorem bDs {c:aP} (hc:nH c) (d:Nat):∀ (ts:List Int) (i:Nat),(∀ k ∈ ts,0≤k∧k<(c.tables.length:Int))→(eB c d i ts).Pairwise bCx
  | [],_,_=>by simp [eB]
  | k::l,i,h=>by
    unfold eB
    rw [List.pairwise_append]
    refine ⟨bMp (aAn hc (h k (by simp))).1 _,bDs hc d l (i+1) fun x hx=>h x (by simp [hx]),?_⟩
    intro a ha b hb ⟨e,_⟩
    obtain ⟨j,h1,h2⟩:=aIu hb
    unfold uW at ha
    obtain ⟨y,_,rfl⟩:=WJ.1 ha
    rw [h2] at e
    have:=(aLy e).2
    omega
theorem bG8 {c:aP} (hc:nH c) (d:Nat):∀ (ts:List Int) (i:Nat),(∀ k ∈ ts,0≤k∧k<(c.tables.length:Int))→(eB c d i ts).length≤4 * ts.length
  | [],_,_=>by simp [eB]
  | k::l,i,h=>by
    have h1:=bG8 hc d l (i+1) fun x hx=>h x (by simp [hx])
    have h2:=(aAn hc (h k (by simp))).1.2.2.2
    unfold eB uW
    simp only [QN,WR,QE]
    omega
theorem bIb (c:aP) (d:Nat) (b:List Int):∀ (a:List Int) (i:Nat),eB c d i (a++b)=eB c d i a++eB c d (i+a.length) b
  | [],i=>by simp [eB]
  | k::a,i=>by
    simp only [QV,eB,bIb c d b a (i+1),QG,QE]
    rw [show i+1+a.length=i+(a.length+1) by omega]
theorem bGr (c:aP) (d:Nat):∀ (ts:List Int) (i:Nat) (acc:List Int),(∀ k ∈ ts,0≤k∧k<(c.tables.length:Int))→(gN c acc ts).1=acc++(eB c d i ts).map bJ.type
  | [],_,acc,_=>by simp [gN,eB]
  | k::l,i,acc,h=>by
    rw [gN,if_pos (h k (by simp)),bGr c d l (i+1) _ fun x hx=>h x (by simp [hx])]
    rw [show eB c d i (k::l)=uW c d i k++eB c d (i+1) l from rfl]
    unfold uW rQ mI
    simp [WS,Function.comp_def]
theorem bA4 (q n:List UInt8):∀ (l:List bJ) (i:Int),(∀ x ∈ l,hit q n x=false)→mtI q n l i=[]
  | [],_,_=>rfl
  | x::l,i,h=>by
    unfold mtI
    rw [if_neg (by simp [h x (by simp)]),bA4 q n l (i+1) fun y hy=>h y (by simp [hy])]
theorem bIn (q n:List UInt8):∀ (l:List bJ) (i:Int) (k:Nat) (hk:k<l.length),hit q n l[k]=true→(∀ (j:Nat) (hj:j<l.length),hit q n l[j]=true→j=k)→mtI q n l i=[i+k]
  | [],_,_,h,_,_=>by simp at h
  | x::l,i,0,_,h1,h2=>by
    unfold mtI
    rw [if_pos (by simpa using h1),bA4 q n l (i+1) ?_]
    · simp
    · intro y hy
      obtain ⟨j,hj,rfl⟩:=WC hy
      cases e:hit q n l[j] with
      | false=>rfl
      | true=>have:=h2 (j+1) (by simpa using hj) (by simpa using e); omega
  | x::l,i,k+1,hk,h1,h2=>by
    unfold mtI
    rw [if_neg ?_,bIn q n l (i+1) k (by simpa using hk) (by simpa using h1) fun j hj e=>by have:=h2 (j+1) (by simpa using hj) (by simpa using e); omega]
    · congr 1; push_cast; omega
    · intro e
      have:=h2 0 (by simp) (by simpa using e)
      omega
theorem aUo {q n:List UInt8} (hq:q≠[]) (x:bJ):hit q n x=true↔x.qual=q∧x.name=n:=by
  unfold hit
  by_cases h:x.name=n <;> simp [h,hq]
theorem bX1 {l:List bJ} (h:l.Pairwise bCx) {i j:Nat} (hi:i<l.length) (hj:j<l.length) (e:l[i].qual=l[j].qual∧l[i].name=l[j].name):i=j:=by
  rw [WQ] at h
  by_cases h1:i<j
  · exact absurd e (h i j hi hj h1)
  by_cases h2:j<i
  · exact absurd ⟨e.1.symm,e.2.symm⟩ (h j i hj hi h2)
  omega
def jE (c:aP):List (List Int)→List bF
  | []=>[]
  | ts::r=>⟨eB c r.length 0 ts⟩::jE c r
def tyU (c:aP):List (List Int)→List (List Int)
  | []=>[]
  | ts::r=>(gN c [] ts).1::tyU c r
def z0N (x:bJ):bJ:=⟨x.qual,x.name,0⟩
def lvU (c:aP):List (List Int)→List (List bJ)
  | []=>[]
  | ts::r=>lvU c r++[(eB c r.length 0 ts).map z0N]
theorem yA (c:aP):∀ t,(jE c t).length=t.length
  | []=>rfl
  | _::r=>by simp [jE,yA c r]
theorem aRw (c:aP):∀ t,(tyU c t).length=t.length
  | []=>rfl
  | _::r=>by simp [tyU,aRw c r]
theorem aDt (c:aP):∀ t,(lvU c t).length=t.length
  | []=>rfl
  | _::r=>by simp [lvU,aDt c r]
theorem aF9 (c:aP):∀ (t:List (List Int)) (u:Nat) (h:u<t.length),(jE c t)[u]'(by rw [yA]; exact h)=⟨eB c (t.length - 1 - u) 0 t[u]⟩
  | ts::r,0,_=>by simp [jE]
  | ts::r,u+1,h=>by
    have:=aF9 c r u (by simpa using h)
    simp only [jE,WK,this,QE]
    rw [show r.length - 1 - u=r.length+1 - 1 - (u+1) by omega]
theorem bLi (c:aP):∀ (t:List (List Int)) (u:Nat) (h:u<t.length),(tyU c t)[u]'(by rw [aRw]; exact h)=(gN c [] t[u]).1
  | ts::r,0,_=>by simp [tyU]
  | ts::r,u+1,h=>by
    have:=bLi c r u (by simpa using h)
    simp only [tyU,WK,this]
theorem bL0 (c:aP):∀ (t:List (List Int)) (u:Nat) (h:u<t.length),(lvU c t)[t.length - 1 - u]?=some ((eB c (t.length - 1 - u) 0 t[u]).map z0N)
  | ts::r,0,_=>by
    simp only [lvU,QE,Nat.add_sub_cancel,Nat.sub_zero,List.getElem_cons_zero]
    rw [List.getElem?_append_right (by rw [aDt]; omega),aDt]; simp
  | ts::r,u+1,h=>by
    have h':u<r.length:=by simpa using h
    have:=bL0 c r u h'
    simp only [lvU,QE,WK]
    rw [show r.length+1 - 1 - (u+1)=r.length - 1 - u by omega,List.getElem?_append_left (by rw [aDt]; omega),this]
def okTss (c:aP) (t:List (List Int)):Prop:=t.length≤1048576∧∀ ts ∈ t,okTs c ts
theorem bI5 {c:aP} (hc:nH c) {t:List (List Int)} (h:okTss c t):∀ s ∈ jE c t,s.names.length≤12:=by
  intro s hs
  obtain ⟨u,hu,rfl⟩:=WC hs
  rw [yA] at hu
  rw [aF9 c t u hu]
  obtain ⟨h1,h2⟩:=h.2 _ (QF hu)
  have:=bG8 hc (t.length - 1 - u) t[u] 0 h2
  dsimp only; omega
theorem bTz {c : aP} (hc : nH c) {t : List (List Int)} (h : okTss c t) {u k : Nat} (hu : u < t.length) (hk : k < (eB c (t.length - 1 - u) 0 t[u]).length) :
    aI0 (jE c t) (eB c (t.length - 1 - u) 0 t[u])[k].qual (eB c (t.length - 1 - u) 0 t[u])[k].name=some (⟨(u:Int),(k:Int),(eB c (t.length - 1 - u) 0 t[u])[k].type⟩,0):=by
  generalize hn:(eB c (t.length - 1 - u) 0 t[u])[k]=nm
  obtain ⟨j0,_,hq⟩:=aIu (QF hk)
  rw [hn] at hq
  have hq0:nm.qual≠[]:=by rw [hq]; exact bA9 _ _
  have key:∀ i,i≤u→Y5 nm.qual nm.name (jE c t) (i:Nat)=some (⟨(u:Int),(k:Int),nm.type⟩,0):=by
    refine eO ?_ ?_
    · have hu':u<(jE c t).length:=by rw [yA]; exact hu
      have hm:aDw (jE c t)[u] nm.qual nm.name=some [(k:Int)]:=by
        rw [bDe _ _ _ (by have:=bI5 hc h _ (QF hu'); omega),aF9 c t u hu]
        rw [bIn nm.qual nm.name _ 0 k hk ((aUo hq0 _).2 (by rw [hn]; exact ⟨rfl,rfl⟩)) ?_]
        · simp
        · intro j hj e
          have e:=(aUo hq0 _).1 e
          exact bX1 (bDs hc _ _ 0 (h.2 _ (QF hu)).2) hj hk (by rw [hn]; exact e)
      have hi:idx (jE c t)[u].names (k:Int)=some nm:=by
        rw [aF9 c t u hu,← hn]
        exact bX hk
      rw [Y5]
      have i0:idx [(k:Int)] 0=some (k:Int):=rfl
      simp only [dD,bX hu',hu',decide_true,if_true,hm,i0,hi,QB,QA,QE,QK]
      simp
    · intro i hi ih
      have hi':i<(jE c t).length:=by rw [yA]; omega
      have hm:aDw (jE c t)[i] nm.qual nm.name=some []:=by
        rw [bDe _ _ _ (by have:=bI5 hc h _ (QF hi'); omega),aF9 c t i (by omega)]
        rw [bA4]
        intro x hx
        cases e:hit nm.qual nm.name x with
        | false=>rfl
        | true =>
          have e:=((aUo hq0 _).1 e).1
          obtain ⟨j,_,h2⟩:=aIu hx
          rw [h2,hq] at e
          have:=(aLy e).1
          omega
      rw [Y5]
      simp only [dD,bX hi',hi',decide_true,if_true,hm,QB,QA,QK,dX hi' (by rw [yA]; have:=h.1; omega),ih]
      simp
  have:=key 0 (by omega)
  simpa [aI0] using this
theorem cEm {c:aP} (hc:nH c) (d:Nat) (hd:d<10000000) (ts:List Int) (h:okTs c ts):aJz c ts (d:Int)=some (eB c d 0 ts):=by
  have key:∀ i,i≤ts.length→∀ acc:List bJ,acc.length≤4 * i→aCt ts (d:Int) c acc (i:Nat)=some (acc++eB c d i (ts.drop i)):=by
    refine eO ?_ ?_
    · intro acc _; rw [aCt]; simp [eB]
    · intro i hi ih acc ha
      have hk:=h.2 _ (QF hi)
      obtain ⟨ix,_⟩:=aLd hk
      have hcl:=(aAn hc hk).1.2.2.2
      have:=h.1
      have k2:∀ j,j≤(mI c ts[i]).cols.length→∀ acc:List bJ,acc.length≤4 * i+j→aAz ts (d:Int) (i:Nat) c (mI c ts[i]) acc (j:Nat)=some ((acc++((mI c ts[i]).cols.drop j).map fun x=>⟨al d i,x.name,x.type⟩)++eB c d (i+1) (ts.drop (i+1))):=by
        refine eO ?_ ?_
        · intro acc ha
          rw [aAz]
          simp only [dD,QQ,decide_false,QC,if_false,dX hi (by omega)]
          rw [ih acc (by omega)]; simp
        · intro j hj ih2 acc ha
          rw [aAz,QD hj]
          simp only [dD,hj,bX hj,decide_true,if_true,bH2 d i hd (by omega),QB,QA]
          rw [iP (by simp; omega),QA,dX hj (by omega),ih2 _ (by simp; omega)]
          simp only [QJ,QG,QH,QV,WI]
      rw [aCt,QD hi]
      simp only [dD,hi,bX hi,decide_true,if_true,ix,QB,QA]
      have:=k2 0 (by omega) acc (by omega)
      rw [show ((0:Nat):Int)=0 from rfl] at this
      rw [this]
      rw [show eB c d i (ts[i]::ts.drop (i+1))=uW c d i ts[i]++eB c d (i+1) (ts.drop (i+1)) from rfl]
      simp [uW]
  have:=key 0 (by omega) [] (by simp)
  simpa [aJz] using this
theorem bMo {c:aP} (hc:nH c) (d:Nat) (hd:d<10000000) (ts:List Int) (h:okTs c ts):aIt ⟨c⟩ (d:Int) ts=some ((eB c d 0 ts).map z0N):=by
  have key:∀ i,i≤ts.length→∀ acc:List bJ,acc.length≤4 * i→aD0 (d:Int) ts ⟨c⟩ acc (i:Nat)=some (acc++(eB c d i (ts.drop i)).map z0N):=by
    refine eO ?_ ?_
    · intro acc _; rw [aD0]; simp [eB]
    · intro i hi ih acc ha
      have hk:=h.2 _ (QF hi)
      obtain ⟨ix,_⟩:=aLd hk
      have hcl:=(aAn hc hk).1.2.2.2
      have:=h.1
      have k2:∀ j,j≤(mI c ts[i]).cols.length→∀ acc:List bJ,acc.length≤4 * i+j→aB7 (d:Int) (i:Nat) ts (mI c ts[i]) ⟨c⟩ acc (j:Nat)=some ((acc++((mI c ts[i]).cols.drop j).map fun x=>⟨al d i,x.name,0⟩)++(eB c d (i+1) (ts.drop (i+1))).map z0N):=by
        refine eO ?_ ?_
        · intro acc ha
          rw [aB7]
          simp only [dD,QQ,decide_false,QC,if_false,dX hi (by omega)]
          rw [ih acc (by omega)]; simp
        · intro j hj ih2 acc ha
          rw [aB7,QD hj]
          simp only [dD,hj,bX hj,decide_true,if_true,bBl d i hd (by omega),QB,QA]
          rw [iP (by simp; omega),QA,dX hj (by omega),ih2 _ (by simp; omega)]
          simp only [QJ,QG,QH,QV,WI]
      rw [aD0,QD hi]
      simp only [dD,hi,bX hi,decide_true,if_true,ix,QB,QA]
      have:=k2 0 (by omega) acc (by omega)
      rw [show ((0:Nat):Int)=0 from rfl] at this
      rw [this]
      rw [show eB c d i (ts[i]::ts.drop (i+1))=uW c d i ts[i]++eB c d (i+1) (ts.drop (i+1)) from rfl]
      simp [uW,z0N,WS,Function.comp_def]
  have:=key 0 (by omega) [] (by simp)
  simpa [aIt] using this
def iI (c:aP) (d:Nat):Nat→List Int→List (List aL)→List bZ
  | i,k::ts,o::ons=>⟨(mI c k).name,al d i,o⟩::iI c d (i+1) ts ons
  | _,_,_=>[]
theorem aFs (c:aP) (d:Nat):∀ (i:Nat) (ts:List Int) (ons:List (List aL)),ts.length=ons.length→(iI c d i ts ons).length=ts.length
  | i,k::ts,o::ons,h=>by simp only [iI,QE,aFs c d (i+1) ts ons (by simpa using h)]
  | i,[],[],h=>by simp [iI]
  | i,_::_,[],h=>by simp at h
  | i,[],_::_,h=>by simp at h
theorem aI1 (c:aP) (d:Nat):∀ (i:Nat) (ts:List Int) (ons:List (List aL)) (j:Nat) (h1:j<ts.length) (h2:j<ons.length),(iI c d i ts ons)[j]?=some ⟨(mI c ts[j]).name,al d (i+j),ons[j]⟩
  | i,k::ts,o::ons,0,_,_=>by simp [iI]
  | i,k::ts,o::ons,j+1,h1,h2=>by
    have:=aI1 c d (i+1) ts ons j (by simpa using h1) (by simpa using h2)
    simp only [iI,List.getElem?_cons_succ,this,WK]
    rw [show i+1+j=i+(j+1) by omega]
  | i,[],_,_,h1,_=>by simp at h1
  | i,_::_,[],_,_,h2=>by simp at h2
theorem bDr (c:aP) (d:Nat):∀ (n i:Nat) (ts:List Int) (ons:List (List aL)),(iI c d i ts ons).take n=iI c d i (ts.take n) (ons.take n)
  | 0,i,ts,ons=>by simp [iI]
  | n+1,i,[],ons=>by simp [iI]
  | n+1,i,k::ts,[]=>by simp [iI]
  | n+1,i,k::ts,o::ons=>by simp [iI,bDr c d n (i+1) ts ons]
theorem bKy {c : aP} (hc : nH c) (d : Nat) : ∀ (ts : List Int) (ons : List (List aL)) (i : Nat) (seen : List (List UInt8)) (names : List bJ), ts.length = ons.length → (∀ k ∈ ts, 0 ≤ k ∧ k < (c.tables.length : Int)) →
    (∀ s ∈ seen,∃ j,j<i∧s=al d j)→I8 c (iI c d i ts ons) seen names=(⟨names++eB c d i ts⟩,0,[])
  | [],[],i,seen,names,_,_,_=>by simp [iI,I8,eB]
  | k::ts,o::ons,i,seen,names,hl,h,hs=>by
    rw [iI,I8]
    have hk:=h k (by simp)
    obtain ⟨_,t2⟩:=aAn hc hk
    have ht:aG0 c (mI c k).name=k:=by unfold aG0; rw [t2]; rfl
    have ha:aliasOf (⟨(mI c k).name,al d i,o⟩:bZ)=al d i:=by unfold aliasOf; rw [if_neg (bA9 d i)]
    dsimp only
    rw [ht,ha,if_neg (by omega),if_neg ?_]
    · rw [show (c.tables[k.toNat]?.getD default)=mI c k from rfl]
      rw [bKy hc d ts ons (i+1) _ _ (by simpa using hl) (fun x hx=>h x (by simp [hx])) ?_]
      · rw [show eB c d i (k::ts)=uW c d i k++eB c d (i+1) ts from rfl]
        simp [uW]
      · intro s hs2
        rcases QS.1 hs2 with h1 | h1
        · obtain ⟨j,h2,h3⟩:=hs s h1; exact ⟨j,by omega,h3⟩
        · exact ⟨i,by omega,by simpa using h1⟩
    · intro hm
      obtain ⟨j,h2,h3⟩:=hs _ hm
      have:=(aLy h3).2
      omega
  | [],_::_,_,_,_,hl,_,_=>by simp at hl
  | _::_,[],_,_,_,hl,_,_=>by simp at hl
theorem bFy (p:aA) (hk:p.kids.length≤1048576) (hs:p.sub.length≤1048576):xY p=if (!decide (p.kind=2)&&(!decide (p.up=0)||!decide (p.at_=0)))=true then some false else (if decide (p.kind=2)=true then qH (aL.mk p.kind p.op p.not_ p.value [] [97] (QW p.kids.length (aL.mk 0 0 false (bH.mk 0 0 []) [] [] [] [])) (QW p.sub.length (aV.mk false [] [] [] [] 0))) else qH (aL.mk p.kind p.op p.not_ p.value [] [] (QW p.kids.length (aL.mk 0 0 false (bH.mk 0 0 []) [] [] [] [])) (QW p.sub.length (aV.mk false [] [] [] [] 0)))):=by
  have e1:mkG 136 (p.kids.length:Int) (aL.mk 0 0 false (bH.mk 0 0 []) [] [] [] [])=some (QW p.kids.length (aL.mk 0 0 false (bH.mk 0 0 []) [] [] [] [])):=aP0 (by omega)
  have e2:mkG 112 (p.sub.length:Int) (aV.mk false [] [] [] [] 0)=some (QW p.sub.length (aV.mk false [] [] [] [] 0)):=aP0 (by omega)
  unfold xY aFy
  simp only [QB]
  simp only [aSp]
  simp only [e1,e2,aXb,QA,Option.bind_fun_some,aGq,orB]
theorem cB6 (k o:Int) (n:Bool) (v:bH) (q m:List UInt8) (ks ks':List aL) (qs qs':List aV) (h1:ks.length=ks'.length) (h2:qs.length=qs'.length):qH ⟨k,o,n,v,q,m,ks,qs⟩=qH ⟨k,o,n,v,q,m,ks',qs'⟩:=by
  rw [aR8,aR8]
  simp only [zvE,h1,h2]
theorem cAi {p : aA} (hk : p.kids.length ≤ 1048576) (hs : p.sub.length ≤ 1048576) (h : xY p = some true) (k2 : p.kind ≠ 2) (ks : List aL) (qs : List aV) (h1 : ks.length = p.kids.length) (h2 : qs.length = p.sub.length) :
    p.up=0∧p.at_=0∧qH ⟨p.kind,p.op,p.not_,p.value,[],[],ks,qs⟩=some true:=by
  rw [bFy p hk hs] at h
  by_cases u:p.up=0
  · by_cases a:p.at_=0
    · simp only [k2,u,a,decide_true,decide_false,QI,WB,Bool.or_self,Bool.and_false,QC,if_false] at h
      refine ⟨u,a,?_⟩
      rw [← h]
      exact cB6 _ _ _ _ _ _ _ _ _ _ (by simp [h1]) (by simp [h2])
    · simp [k2,u,a] at h
  · simp [k2,u] at h
theorem bPh {p : aA} (hk : p.kids.length ≤ 1048576) (hs : p.sub.length ≤ 1048576) (h : xY p = some true) (k2 : p.kind = 2) (k0 : p.kids = []) (s0 : p.sub = []) (q m : List UInt8) (hq : 1 ≤ q.length ∧ q.length ≤ 20) (hm : 1 ≤ m.length ∧ m.length ≤ 20) :
    qH ⟨p.kind,p.op,p.not_,p.value,q,m,[],[]⟩=some true:=by
  rw [bFy p hk hs] at h
  have hq0:q≠[]:=by intro e; simp [e] at hq
  have n97:lX [97]=some true:=rfl
  have m0:lZ []=some true:=rfl
  have nm:lX m=some true:=by rw [aG4]; unfold nmB; simp [hm]
  have nq:lX q=some true:=by rw [aG4]; unfold nmB; simp [hq]
  have mq:lZ q=some true:=by unfold lZ; simp [hq0,nq]
  rw [aR8] at h ⊢
  simp only [k2,k0,s0,zvE,n97,m0,nm,mq,QK,List.replicate_zero] at h ⊢
  simpa using h
theorem bLk {x:aL} (h:qH x=some true) (hl:x.kids.length≤1048576) (hk:∀ y ∈ x.kids,lU y=some true) (hq:∀ q ∈ x.sub,uR q=some true):lU x=some true:=by
  have key:∀ i,i≤x.kids.length→yD x (i:Nat)=some true:=by
    refine eO ?_ ?_
    · rw [yD]
      simp only [dD,QQ,decide_false,QC,if_false,QB]
      cases hs:x.sub with
      | nil=>simp
      | cons q l =>
        have i0:idx (q::l) 0=some q:=rfl
        have h0:¬ ((l.length:Int)+1=0):=by omega
        simp [h0,i0,hq q (by rw [hs]; simp)]
    · intro i hi ih
      rw [yD]
      simp only [dD,hi,bX hi,dX hi (by omega),hk _ (QF hi),ih,decide_true,if_true,QB,QA,QI,QC,if_false]
  rw [lU,h]
  have:=key 0 (by omega)
  simpa using this
def Same (e:aA) (x:aL):Prop:=nN x=yL e∧oW x=yE e
def aSo (p:aQ) (q:aV):Prop:=D6 q=M6 p∧yQ q=Q7 p
theorem bK1 {e:aA} {x:aL} (hk:A2 Same e.kids x.kids) (hq:A2 aSo e.sub x.sub) (hl:e.kids.length≤1048576) (hl2:e.sub.length≤1048576):Same e x:=by
  have l1:=hk.length
  have l2:=hq.length
  constructor
  · have K1 : ∀ i, i ≤ e.sub.length → ∀ n, xJ x n (i : Nat) = xR e n (i : Nat) := by
      refine eO ?_ ?_
      · intro n
        rw [xJ,xR]
        simp [l2]
      · intro i hi ih n
        have hi':i<x.sub.length:=by omega
        rw [xJ,xR]
        simp only [dD,hi,hi',bX hi,bX hi',dX hi (by omega),(hq.get i hi hi').1,ih,decide_true,if_true,QB,QA]
    have K0:∀ i,i≤e.kids.length→∀ n,S9 x n (i:Nat)=M9 e n (i:Nat):=by
      refine eO ?_ ?_
      · intro n
        rw [S9,M9]
        have:=K1 0 (by omega) n
        rw [show ((0:Nat):Int)=0 from rfl] at this
        simp [l1,this]
      · intro i hi ih n
        have hi':i<x.kids.length:=by omega
        rw [S9,M9]
        simp only [dD,hi,hi',bX hi,bX hi',dX hi (by omega),(hk.get i hi hi').1,ih,decide_true,if_true,QB,QA]
    rw [nN,yL]
    exact K0 0 (by omega) 0
  · have K1 : ∀ i, i ≤ e.sub.length → ∀ n, xU x n (i : Nat) = xI e n (i : Nat) := by
      refine eO ?_ ?_
      · intro n
        rw [xU,xI]
        simp [l2]
      · intro i hi ih n
        have hi':i<x.sub.length:=by omega
        rw [xU,xI]
        simp only [dD,hi,hi',bX hi,bX hi',dX hi (by omega),(hq.get i hi hi').2,ih,decide_true,if_true,QB,QA]
    have K0:∀ i,i≤e.kids.length→∀ n,R6 x n (i:Nat)=G6 e n (i:Nat):=by
      refine eO ?_ ?_
      · intro n
        rw [R6,G6]
        have:=K1 0 (by omega) n
        rw [show ((0:Nat):Int)=0 from rfl] at this
        simp [l1,this]
      · intro i hi ih n
        have hi':i<x.kids.length:=by omega
        rw [R6,G6]
        simp only [dD,hi,hi',bX hi,bX hi',dX hi (by omega),(hk.get i hi hi').2,ih,decide_true,if_true,QB,QA]
    rw [oW,yE]
    exact K0 0 (by omega) 1
def Ty (c:aP) (env:List (List Int)) (e:aA) (t:Int):Prop:=rO c env e=some (t,true)
def TyP (c:aP) (env:List (List Int)) (p:aQ) (ts:List Int):Prop:=E8 c env p=some (ts,true)
theorem bJu {c:aP} {env:List (List Int)} {e:aA} {t:Int} (h:Ty c env e t) (hk:e.kids.length≤1048576) (hs:e.sub.length≤1048576):xY e=some true∧aRd e:=by
  obtain ⟨b,s1,i1,hf⟩:=aQo e hk hs
  unfold Ty at h
  rw [rO,i1] at h
  cases b with
  | true=>exact ⟨s1,hf rfl⟩
  | false=>simp at h
theorem bNn {c : aP} {env : List (List Int)} {e : aA} {t : Int} (h : Ty c env e t) (hk : e.kids.length ≤ 1048576) (hs : e.sub.length ≤ 1048576) (k2 : e.kind = 2) :
    ∃ (u a:Nat) (hu:u<env.length) (ha:a<env[u].length),e.up=u∧e.at_=a∧t=env[u][a]:=by
  obtain ⟨b,s1,i1,hf⟩:=aQo e hk hs
  unfold Ty at h
  rw [rO,i1] at h
  cases b with
  | false=>simp at h
  | true =>
  simp only [k2,decide_true,QI,QC,if_false,if_true,QB,QA] at h
  by_cases u0:e.up<0
  · simp [u0] at h
  by_cases u1:(env.length:Int)≤e.up
  · simp [u0,u1] at h
  have hj:e.up.toNat<env.length:=by omega
  have hx:idx env e.up=some env[e.up.toNat]:=by
    have:=bX hj
    rwa [show ((e.up.toNat:Nat):Int)=e.up by omega] at this
  by_cases a0:e.at_<0
  · simp [u0,u1,a0] at h
  by_cases a1:(env[e.up.toNat].length:Int)≤e.at_
  · simp [u0,u1,a0,a1,hx] at h
  have hj2:e.at_.toNat<env[e.up.toNat].length:=by omega
  have hx2:idx env[e.up.toNat] e.at_=some env[e.up.toNat][e.at_.toNat]:=by
    have:=bX hj2
    rwa [show ((e.at_.toNat:Nat):Int)=e.at_ by omega] at this
  simp only [u0,u1,a0,a1,hx,hx2,decide_false,QC,if_false,if_true,beq_self_eq_true,QU,QA,Option.some.injEq,Prod.mk.injEq,and_true] at h
  exact ⟨e.up.toNat,e.at_.toNat,hj,hj2,by omega,by omega,h.symm⟩
theorem cDj {c : aP} {env : List (List Int)} {e : aA} {t : Int} (h : Ty c env e t) (hk : e.kids.length ≤ 1048576) (hs : e.sub.length ≤ 1048576) (k2 : e.kind ≠ 2) :
    ∃ acc:List Int,A2 (Ty c env) e.kids acc∧rP env acc e c [] 0=some (t,true):=by
  obtain ⟨b,s1,i1,hf⟩:=aQo e hk hs
  unfold Ty at h
  rw [rO,i1] at h
  cases b with
  | false=>simp at h
  | true =>
  simp only [k2,decide_false,QI,QC,if_false,QB,QA] at h
  have key:∀ i,i≤e.kids.length→∀ acc:List Int,acc.length=i→uG env e c acc (i:Nat)=some (t,true)→∃ r,A2 (Ty c env) (e.kids.drop i) r∧rP env (acc++r) e c [] 0=some (t,true):=by
    refine eO ?_ ?_
    · intro acc _ h
      rw [uG] at h
      exact ⟨[],by simpa using A2.nil,by simpa using h⟩
    · intro i hi ih acc ha h
      rw [uG] at h
      simp only [dD,hi,decide_true,if_true,bX hi,dX hi (by omega),QB,QA] at h
      cases hr:rO c env e.kids[i] with
      | none=>simp [hr] at h
      | some r =>
        obtain ⟨y,ok⟩:=r
        cases ok with
        | false=>simp [hr] at h
        | true =>
          have ea:appG 8 acc [y]=some (acc++[y]):=by unfold appG; rw [if_pos (by simp; omega)]
          simp only [hr,ea,QA,QI,QC,if_false] at h
          obtain ⟨r,h1,h2⟩:=ih _ (by simp [ha]) h
          rw [QD hi]
          exact ⟨y::r,.cons hr h1,by simpa using h2⟩
  simpa using key 0 (by omega) [] rfl h
inductive A3 {α β γ:Type} (R:α→β→γ→Prop):List α→List β→List γ→Prop
  | nil:A3 R [] [] []
  | cons {a b c l m n}:R a b c→A3 R l m n→A3 R (a::l) (b::m) (c::n)
theorem A3.ex {α β γ:Type} {R:α→β→Prop} {S:α→β→γ→Prop} {l:List α} {m:List β} (h:A2 R l m):(∀ a ∈ l,∀ b,R a b→∃ x,S a b x)→∃ n,A3 S l m n:=by
  induction h with
  | nil=>exact fun _=>⟨[],.nil⟩
  | cons a _ ih =>
    intro k
    obtain ⟨x,hx⟩:=k _ (by simp) _ a
    obtain ⟨n,hn⟩:=ih fun a ha=>k a (by simp [ha])
    exact ⟨x::n,.cons hx hn⟩
theorem A3.a2 {α β γ:Type} {R:α→β→γ→Prop} {S:α→γ→Prop} {l:List α} {m:List β} {n:List γ} (h:A3 R l m n) (k:∀ a b c,R a b c→S a c):A2 S l n:=by
  induction h with
  | nil=>exact .nil
  | cons a _ ih=>exact .cons (k _ _ _ a) ih
theorem A3.len {α β γ:Type} {R:α→β→γ→Prop} {l:List α} {m:List β} {n:List γ} (h:A3 R l m n):l.length=m.length∧l.length=n.length:=by
  induction h with
  | nil=>simp
  | cons _ _ ih=>simp only [QE]; omega
theorem A3.get {α β γ:Type} {R:α→β→γ→Prop} {l:List α} {m:List β} {n:List γ} (h:A3 R l m n):∀ (i:Nat) (h1:i<l.length) (h2:i<m.length) (h3:i<n.length),R l[i] m[i] n[i]:=by
  induction h with
  | nil=>intro i h1; simp at h1
  | cons a _ ih =>
    intro i h1 h2 h3
    cases i with
    | zero=>exact a
    | succ i=>exact ih i (by simpa using h1) (by simpa using h2) (by simpa using h3)
abbrev RR (c:aP) (nm:List UInt8):bA:=⟨c,⟨0,nm⟩⟩
structure UE (c:aP) (t t':List (List Int)) (e:aA) (ty:Int) (x:aL):Prop where
  s:yH c (jE c t') e=some x
  i:xZ ⟨c⟩ (lvU c t') ((t'.length:Int) - 1) e=some x
  rt:lU x=some true
  sm:Same e x
  z:gJ x≤aZ e
  r:∀ nm,vM (RR c nm) (jE c t) x=some (e,ty,RR c nm)
structure UQ (c:aP) (t t':List (List Int)) (p:aQ) (ts:List Int) (q:aV):Prop where
  s:aD8 c (jE c t') p=some q
  i:aCs ⟨c⟩ (lvU c t') (t'.length:Int) p=some q
  rt:uR q=some true
  sm:aSo p q
  z:mW q≤dY p
  r:∀ nm,aBy (RR c nm) (jE c t) q=some (p,ts,RR c nm)
theorem aRo (c:aP) (env:List bF) {l:List aA} {m:List aL} (h:A2 (fun e x=>yH c env e=some x) l m) (hl:l.length≤1048576):aC2 c env l=some m:=by
  have hm:=h.length
  have key:∀ i,i≤l.length→∀ acc:List aL,acc.length≤i→aD6 env l c (i:Nat) acc=some (acc++m.drop i):=by
    refine eO ?_ ?_
    · intro acc _; rw [aD6]; simp [hm]
    · intro i hi ih acc ha
      have hi':i<m.length:=by omega
      rw [aD6,QD hi']
      simp only [dD,hi,bX hi,dX hi (by omega),h.get i hi hi',decide_true,if_true,QB,QA]
      rw [iP (by simp; omega),QA,ih _ (by simp; omega)]
      simp only [QG,QH]
  rw [aC2]
  have:=key 0 (by omega) [] (by simp)
  simpa using this
theorem aZw (c:aP) (lv:List (List bJ)) (d:Int) {l:List aA} {m:List aL} (h:A2 (fun e x=>xZ ⟨c⟩ lv d e=some x) l m) (hl:l.length≤1048576):aB4 ⟨c⟩ lv d l=some m:=by
  have hm:=h.length
  have key:∀ i,i≤l.length→∀ acc:List aL,acc.length≤i→aC8 lv d l ⟨c⟩ (i:Nat) acc=some (acc++m.drop i):=by
    refine eO ?_ ?_
    · intro acc _; rw [aC8]; simp [hm]
    · intro i hi ih acc ha
      have hi':i<m.length:=by omega
      rw [aC8,QD hi']
      simp only [dD,hi,bX hi,dX hi (by omega),h.get i hi hi',decide_true,if_true,QB,QA]
      rw [iP (by simp; omega),QA,ih _ (by simp; omega)]
      simp only [QG,QH]
  rw [aB4]
  have:=key 0 (by omega) [] (by simp)
  simpa using this
theorem A3.zU {c:aP} {t t':List (List Int)} {l:List aA} {ts:List Int} {m:List aL} (h:A3 (UE c t t') l ts m):jV m≤(l.map aZ).sum:=by
  induction h with
  | nil=>simp [jV]
  | cons a _ ih=>simp only [jV,QJ,QL]; have:=a.z; omega
theorem bN9 {c : aP} {env : List (List Int)} {e : aA} {t : Int} {acc : List Int} (hf : e.sub.length ≤ 1) (h : rP env acc e c [] 0 = some (t, true)) :
    ∃ st:List Int,qM e acc st=some (t,true)∧(e.sub=[]∧st=[]∨∃ p,e.sub=[p]∧TyP c env p st∧(e.kind=8→st.length=1)):=by
  have fin:∀ (x:Option (Int×Bool)),(x>>=fun (y15:Int×Bool)=>some (y15.1,y15.2))=some (t,true)→x=some (t,true):=by
    intro x hx
    cases x with
    | none=>simp at hx
    | some y=>obtain ⟨a,b⟩:=y; simpa using hx
  cases hs:e.sub with
  | nil =>
    rw [rP] at h
    simp only [hs,QK] at h
    exact ⟨[],fin _ (by simpa using h),.inl ⟨rfl,rfl⟩⟩
  | cons p l =>
    have hl:l=[]:=by rw [hs] at hf; simpa using hf
    subst hl
    rw [rP] at h
    have ip:idx [p] 0=some p:=rfl
    have iw:WA .i64 (0+1)=1:=rfl
    simp only [hs,ip,iw,QE,QK,QB,QA,WF,show decide ((0:Int)<((1:Nat):Int))=true from rfl,if_true] at h
    cases hp:E8 c env p with
    | none=>simp [hp] at h
    | some r =>
      obtain ⟨st,ok⟩:=r
      cases ok with
      | false=>simp [hp] at h
      | true =>
        have e1:∀ st,rP env acc e c st 1=qM e acc st>>=fun (y15:Int×Bool)=>some (y15.1,y15.2):=fun st=>by rw [rP]; simp [hs]
        by_cases k8:e.kind=8
        · by_cases h1:st.length=1
          · simp [hp,k8,h1,e1] at h
            exact ⟨st,fin _ (by simpa using h),.inr ⟨p,rfl,hp,fun _=>h1⟩⟩
          · have h2:¬ (st.length:Int)=1:=by omega
            simp [hp,k8,h2] at h
        · simp [hp,k8,e1] at h
          exact ⟨st,fin _ (by simpa using h),.inr ⟨p,rfl,hp,fun h=>absurd h k8⟩⟩
theorem bYo (c:aP) (d:Nat) {a b:List Int} (h:a <+: b):eB c d 0 a <+: eB c d 0 b:=by
  obtain ⟨r,rfl⟩:=h
  rw [bIb]
  exact List.prefix_append _ _
theorem bIs {e:aA} (h:aRd e):e.sub.length≤1∧(e.kind=2→e.kids=[]∧e.sub=[]):=by
  rcases h with h | h | h | h | h | h | h | h | h <;> refine ⟨by omega,fun k=>?_⟩ <;> first | exact ⟨WN h.2.1,WN h.2.2⟩ | omega
theorem bNy {c:aP} (hc:nH c) {t t':List (List Int)} (h:okTss c t) (h':okTss c t') (hp:A2 (· <+: ·) t t') {e:aA} (hz:aZ e≤1048576) {ty:Int} (ht:Ty c (tyU c t) e ty) (k2:e.kind=2):∃ x,UE c t t' e ty x:=by
  have hl:=aOc e
  obtain ⟨hs,hf⟩:=bJu ht (by omega) (by omega)
  obtain ⟨k0,s0⟩:=(bIs hf).2 k2
  obtain ⟨u,a,hu,ha,e1,e2,e3⟩:=bNn ht (by omega) (by omega) k2
  have hlen:=hp.length
  have hu1:u<t.length:=by rw [aRw] at hu; exact hu
  have hu2:u<t'.length:=by omega
  have hpre:=bYo c (t.length - 1 - u) (hp.get u hu1 hu2)
  have hty:(gN c [] t[u]).1=(eB c (t.length - 1 - u) 0 t[u]).map bJ.type:=by
    rw [bGr c (t.length - 1 - u) t[u] 0 [] (h.2 _ (QF hu1)).2]; rfl
  have hg:=bLi c t u hu1
  have ha1:a<(eB c (t.length - 1 - u) 0 t[u]).length:=by
    have e:=congrArg QT (hg.trans hty)
    rw [WR] at e
    omega
  have ha2:a<(eB c (t.length - 1 - u) 0 t'[u]).length:=by have:=hpre.length_le; omega
  have hnm:(eB c (t.length - 1 - u) 0 t'[u])[a]=(eB c (t.length - 1 - u) 0 t[u])[a]:=(hpre.getElem ha1).symm
  have hfd:=bTz hc h hu1 ha1
  have htt:ty=(eB c (t.length - 1 - u) 0 t[u])[a].type:=by
    rw [e3]
    have:(tyU c t)[u][a]=((eB c (t.length - 1 - u) 0 t[u]).map bJ.type)[a]'(by simpa using ha1):=by
      have:=hg.trans hty
      simp only [this]
    rw [this,WT]
  obtain ⟨j,_,hq⟩:=aIu (QF ha1)
  have hjl:j<10000000:=by
    have:∀ (ts:List Int) (i:Nat) (x:bJ),x ∈ eB c (t.length - 1 - u) i ts→∃ j,j<i+ts.length∧x.qual=al (t.length - 1 - u) j:=by
      intro ts
      induction ts with
      | nil=>intro i x hx; simp [eB] at hx
      | cons k l ih =>
        intro i x hx
        rcases QS.1 hx with hx | hx
        · unfold uW at hx
          obtain ⟨y,_,rfl⟩:=WJ.1 hx
          exact ⟨i,by simp,rfl⟩
        · obtain ⟨j,h1,h2⟩:=ih (i+1) x hx
          exact ⟨j,by simp only [QE]; omega,h2⟩
    obtain ⟨j',h1,h2⟩:=this t[u] 0 _ (QF ha1)
    rw [hq] at h2
    have:=(aLy h2).2
    have:=(h.2 _ (QF hu1)).1
    omega
  have hql:=bK7 (t.length - 1 - u) j (by have:=h.1; omega) hjl
  have hnl:1≤(eB c (t.length - 1 - u) 0 t[u])[a].name.length∧(eB c (t.length - 1 - u) 0 t[u])[a].name.length≤20:=by
    have:∀ (ts:List Int) (i:Nat) (x:bJ),(∀ k ∈ ts,0≤k∧k<(c.tables.length:Int))→x ∈ eB c (t.length - 1 - u) i ts→1≤x.name.length∧x.name.length≤20:=by
      intro ts
      induction ts with
      | nil=>intro i x _ hx; simp [eB] at hx
      | cons k l ih =>
        intro i x hk hx
        rcases QS.1 hx with hx | hx
        · unfold uW at hx
          obtain ⟨y,hy,rfl⟩:=WJ.1 hx
          obtain ⟨n,hn,rfl⟩:=WC hy
          obtain ⟨z,z1,z2,_⟩:=(aAn hc (hk k (by simp))).1.1 n hn
          rw [WM hn] at z1
          obtain rfl:(mI c k).cols[n]=z:=by simpa using z1
          exact z2
        · exact ih (i+1) x (fun k hk2=>hk k (by simp [hk2])) hx
    exact this t[u] 0 _ (h.2 _ (QF hu1)).2 (QF ha1)
  generalize hN:(eB c (t.length - 1 - u) 0 t[u])[a]=nm at *
  have he:idx (jE c t') e.up=some ⟨eB c (t'.length - 1 - u) 0 t'[u]⟩:=by
    rw [e1,bX (by rw [yA]; exact hu2),aF9 c t' u hu2]
  have he2:idx (eB c (t'.length - 1 - u) 0 t'[u]) e.at_=some nm:=by
    rw [← hlen,e2,bX ha2,hnm]
  refine ⟨⟨e.kind,e.op,e.not_,e.value,nm.qual,nm.name,[],[]⟩,?_,?_,?_,?_,?_,?_⟩
  · rw [yH,k0,aRo c (jE c t') A2.nil (by simp)]
    simp only [k2,decide_true,if_true,he,he2,QB,QA]
    rw [aGy,aBr]
    simp [s0,k2]
  · have hL:=h'.1
    have hi:idx (lvU c t') (WA .i64 ((WA .i64 (((lvU c t').length:Int) - 1)) - e.up))=some ((eB c (t'.length - 1 - u) 0 t'[u]).map z0N):=by
      rw [aDt,eX (n:=(t'.length:Int) - 1) (by omega) (by omega),e1,eX (by omega) (by omega),show ((t'.length:Int) - 1 - (u:Int))=((t'.length - 1 - u:Nat):Int) by omega,aSa,bL0 c t' u hu2]
    have hi2:idx ((eB c (t'.length - 1 - u) 0 t'[u]).map z0N) e.at_=some (z0N nm):=by
      rw [← hlen,e2,bX (by simpa using ha2),WT,hnm]
    rw [xZ]
    simp only [k2,decide_true,if_true,hi,hi2,QB,QA,z0N]
  · refine bLk (bPh (by omega) (by omega) hs k2 k0 s0 _ _ (by rw [hq]; omega) hnl) (by simp) (by simp) (by simp)
  · exact bK1 (by rw [k0]; exact .nil) (by rw [s0]; exact .nil) (by omega) (by omega)
  · rw [zE]; simp [jV,wE]
  · intro n
    rw [vM,aA5]
    simp only [QK,show decide ((0:Int)<((0:Nat):Int))=false from rfl,QC,if_false]
    rw [X8]
    simp only [QK,show decide ((0:Int)<((0:Nat):Int))=false from rfl,QC,if_false,k2,decide_true,if_true,hfd,QB,QA,QI]
    congr 1
    obtain ⟨ek,eo,en,ev,eu,ea,eks,es⟩:=e
    dsimp only at k0 s0 e1 e2 k2
    subst k0; subst s0
    simp only [k2,e1,e2,htt]
theorem bV3 (e:aA) (n:Bool) (u a:Int) (ks:List aA) (qs:List aQ) (x y:List Int):qM ⟨e.kind,e.op,n,e.value,u,a,ks,qs⟩ x y=qM e x y:=by
  unfold qM; rfl
theorem cDx {e:aA} (u:e.up=0) (a:e.at_=0):(⟨e.kind,e.op,e.not_,e.value,0,0,e.kids,e.sub⟩:aA)=e:=by
  obtain ⟨ek,eo,en,ev,eu,ea,eks,es⟩:=e
  dsimp only at u a
  subst u; subst a; rfl
theorem F7 (c:aP) (n:List UInt8):qE ⟨c,⟨0,n⟩⟩=some false:=rfl
theorem bWt {c : aP} {t t' : List (List Int)} (h' : t'.length ≤ 1048576) {e : aA} (hz : aZ e ≤ 1048576) {ty : Int} (ht : Ty c (tyU c t) e ty) (k2 : e.kind ≠ 2)
    (HK:∀ k ∈ e.kids,∀ s,Ty c (tyU c t) k s→∃ x,UE c t t' k s x) (HQ:∀ p ∈ e.sub,∀ s,TyP c (tyU c t) p s→∃ q,UQ c t t' p s q):∃ x,UE c t t' e ty x:=by
  have hl:=aOc e
  obtain ⟨hs,hf⟩:=bJu ht (by omega) (by omega)
  obtain ⟨hs1,_⟩:=bIs hf
  obtain ⟨acc,ha,hL1⟩:=cDj ht (by omega) (by omega) k2
  obtain ⟨st,hr,hst⟩:=bN9 hs1 hL1
  obtain ⟨xs,hxs⟩:=A3.ex ha HK
  obtain ⟨l1,l2⟩:=hxs.len
  have hz2:=hxs.zU
  -- the subqueries
  obtain ⟨qs,hqs,hq1⟩:∃ qs:List aV,A2 (fun p q=>UQ c t t' p st q) e.sub qs∧(e.kind=8→e.sub≠[]→st.length=1):=by
    rcases hst with ⟨h1,h2⟩ | ⟨p,h1,h2,h3⟩
    · rw [h1]; exact ⟨[],.nil,fun _ h=>absurd rfl h⟩
    · obtain ⟨q,hq⟩:=HQ p (by rw [h1]; simp) st h2
      rw [h1]; exact ⟨[q],.cons hq .nil,fun h _=>h3 h⟩
  have hql:=hqs.length
  have hzq:wE qs≤(e.sub.map dY).sum:=by
    have:∀ {l:List aQ} {m:List aV},A2 (fun p q=>UQ c t t' p st q) l m→wE m≤(l.map dY).sum:=by
      intro l m h
      induction h with
      | nil=>simp [wE]
      | cons a _ ih=>simp only [wE,QJ,QL]; have:=a.z; omega
    exact this hqs
  obtain ⟨u0,a0,hsh⟩:=cAi (by omega) (by omega) hs k2 xs qs l2.symm hql.symm
  refine ⟨⟨e.kind,e.op,e.not_,e.value,[],[],xs,qs⟩,?_,?_,?_,?_,?_,?_⟩
  · have key : ∀ i, i ≤ e.sub.length → ∀ acc : List aV, acc.length ≤ i → aBr (jE c t') c e [] [] xs (i : Nat) acc = some ⟨e.kind, e.op, e.not_, e.value, [], [], xs, acc ++ qs.drop i⟩ := by
      refine eO ?_ ?_
      · intro acc _; rw [aBr]; simp [hql]
      · intro i hi ih acc ha
        have hi':i<qs.length:=by omega
        rw [aBr,QD hi']
        simp only [dD,hi,bX hi,dX hi (by omega),(hqs.get i hi hi').s,decide_true,if_true,QB,QA]
        rw [iP (by simp; omega),QA,ih _ (by simp; omega)]
        simp only [QG,QH]
    rw [yH,aRo c (jE c t') (hxs.a2 fun _ _ _ h=>h.s) (by omega)]
    simp only [k2,decide_false,QC,if_false,QB,QA]
    rw [aGy]
    have:=key 0 (by omega) [] (by simp)
    simpa using this
  · have hw:WA .i64 ((t'.length:Int) - 1+1)=(t'.length:Int):=by rw [show ((t'.length:Int) - 1+1)=(t'.length:Int) by omega,eX (by omega) (by omega)]
    have key:∀ i,i≤e.sub.length→∀ acc:List aV,acc.length≤i→aCd (lvU c t') ((t'.length:Int) - 1) e ⟨c⟩ xs (i:Nat) acc=some ⟨e.kind,e.op,e.not_,e.value,[],[],xs,acc++qs.drop i⟩:=by
      refine eO ?_ ?_
      · intro acc _; rw [aCd]; simp [hql]
      · intro i hi ih acc ha
        have hi':i<qs.length:=by omega
        rw [aCd,QD hi']
        simp only [dD,hi,bX hi,dX hi (by omega),hw,(hqs.get i hi hi').i,decide_true,if_true,QB,QA]
        rw [iP (by simp; omega),QA,ih _ (by simp; omega)]
        simp only [QG,QH]
    rw [xZ]
    simp only [k2,decide_false,QC,if_false,aZw c _ _ (hxs.a2 fun _ _ _ h=>h.i) (by omega),QB,QA]
    have:=key 0 (by omega) [] (by simp)
    simpa using this
  · refine bLk hsh (by dsimp only; omega) ?_ ?_
    · intro y hy
      obtain ⟨i,hi,rfl⟩:=WC hy
      exact (hxs.get i (by dsimp only at hi; omega) (by dsimp only at hi; omega) hi).rt
    · intro y hy
      obtain ⟨i,hi,rfl⟩:=WC hy
      exact (hqs.get i (by dsimp only at hi; omega) hi).rt
  · exact bK1 (hxs.a2 fun _ _ _ h=>h.sm) (hqs.mono fun _ _ _ h=>h.sm) (by omega) (by omega)
  · rw [zE,aFk]
    unfold zL
    dsimp only
    omega
  · intro n
    have keyQ : ∀ i, i ≤ e.sub.length → ∀ (ps : List aQ) (s0 : List Int), ps.length ≤ i → ps ++ e.sub.drop i = e.sub → (i = 0 ∨ s0 = st) → (e.sub = [] → s0 = st) →
        X8 (jE c t) ⟨e.kind,e.op,e.not_,e.value,[],[],xs,qs⟩ e.kids acc (i:Nat) c.tables (0,n,ps,s0)=some (e,ty,RR c n):=by
      refine eO ?_ ?_
      · intro ps s0 _ hps h0 h1
        rw [X8]
        have hs0:s0=st:=by
          rcases h0 with h0 | h0
          · exact h1 (WN h0)
          · exact h0
        have hps':ps=e.sub:=by simpa using hps
        subst hps'
        simp only [hql,dD,QQ,decide_false,QC,if_false,k2,bV3,hs0,hr,QB,QA,QI]
        rw [cDx u0 a0]
      · intro i hi ih ps s0 hpl hps h0 h1
        have hi':i<qs.length:=by omega
        have hq:=(hqs.get i hi hi').r n
        have e0:e.sub≠[]:=by intro h; rw [h] at hi; simp at hi
        have happ:ps++[e.sub[i]]++e.sub.drop (i+1)=e.sub:=by
          rw [QG,QH,← QD hi]; exact hps
        rw [X8]
        simp only [dD,hi',bX hi',dX hi' (by omega),hq,F7,decide_true,if_true,QB,QA,WB]
        have hJ:aF4 (jE c t) ⟨e.kind,e.op,e.not_,e.value,[],[],xs,qs⟩ (i:Nat) (e.sub[i],st,RR c n) ps e.kids (acc,c.tables,0,n)=some (e,ty,RR c n):=by
          rw [aF4]
          simp only [F7,QC,if_false,QB,QA]
          rw [iP (by simp; omega),QA,dX hi (by omega)]
          exact ih _ _ (by simp; omega) happ (.inr rfl) (fun h=>absurd h e0)
        by_cases k8:e.kind=8
        · have h1:(st.length:Int)=1:=by have:=hq1 k8 e0; omega
          simp only [k8,h1,decide_true,if_true,QI,QC,if_false,QA]
          rw [← k8]; exact hJ
        · simp only [k8,decide_false,QC,if_false,QA]
          exact hJ
    have keyK : ∀ i, i ≤ e.kids.length → ∀ (ks : List aA) (ts : List Int), ks.length ≤ i → ts.length ≤ i → ks ++ e.kids.drop i = e.kids → ts ++ acc.drop i = acc →
        aA5 (jE c t) ⟨e.kind,e.op,e.not_,e.value,[],[],xs,qs⟩ (i:Nat) c.tables 0 n (ks,ts)=some (e,ty,RR c n):=by
      refine eO ?_ ?_
      · intro ks ts _ _ h1 h2
        rw [aA5]
        have e1:ks=e.kids:=by simpa using h1
        have e2:ts=acc:=by rw [l1] at h2; simpa using h2
        subst e1; subst e2
        simp only [l2,dD,QQ,decide_false,QC,if_false]
        refine keyQ 0 (by omega) [] [] (by simp) (by simp) (.inl rfl) fun h=>?_
        rcases hst with ⟨_,h2⟩ | ⟨p,h1,_⟩
        · exact h2.symm
        · rw [h1] at h; simp at h
      · intro i hi ih ks ts g1 g2 h1 h2
        have hi1:i<xs.length:=by omega
        have hi2:i<acc.length:=by omega
        have hk:=(hxs.get i hi hi2 hi1).r n
        rw [aA5]
        simp only [dD,hi1,bX hi1,dX hi1 (by omega),hk,F7,decide_true,if_true,QB,QA,QC,if_false]
        rw [iP (by simp; omega),QA,iP (by simp; omega),QA]
        refine ih _ _ (by simp; omega) (by simp; omega) ?_ ?_
        · rw [QG,QH,← QD hi]; exact h1
        · rw [QG,QH,← QD hi2]; exact h2
    rw [vM]
    have:=keyK 0 (by omega) [] [] (by simp) (by simp) (by simp) (by simp)
    exact this
def Tru (c:aP) (env:List (List Int)) (e:aA) (t:Int):Prop:=Ty c env e t∧qQ t=some true
theorem bH6 {c:aP} {env:List (List Int)} {l:List aA} (hl:l.length≤1048576) (h:A8 c env l=some true):∀ e ∈ l,∃ t,Tru c env e t:=by
  have key:∀ i,i≤l.length→∀ k:Int,zJ l c env (i:Nat)=some k→k<0→∀ e ∈ l.drop i,∃ t,Tru c env e t:=by
    refine eO ?_ ?_
    · intro k _ _ e he; simp at he
    · intro i hi ih k hk hk0
      rw [zJ] at hk
      simp only [dD,hi,decide_true,if_true,bX hi,dX hi (by omega),aK2,QB,QA] at hk
      rw [QD hi]
      cases hr:rO c env l[i] with
      | none=>simp [hr] at hk
      | some r =>
        obtain ⟨y,ok⟩:=r
        cases ok with
        | false=>simp [hr] at hk; omega
        | true =>
          obtain ⟨b,hb⟩:=aJv y
          have hb':qQ y=some b:=by rw [aMb,hb]
          cases b with
          | false=>simp [hr,hb'] at hk; omega
          | true =>
            simp [hr,hb'] at hk
            intro e he
            rcases QO.1 he with rfl | he
            · exact ⟨y,hr,hb'⟩
            · exact ih k (by simpa using hk) hk0 e he
  rw [A8,aJy,aJo] at h
  cases hk:zJ l c env 0 with
  | none=>simp [hk] at h
  | some k =>
    have:=key 0 (by omega) k hk (by simp [hk] at h; omega)
    simpa using this
structure bRb (c:aP) (env:List (List Int)) (p:aQ) (ts:List Int):Prop where
  pB:yC p=true
  oB:onB p=true
  nB:p.names.all nmB=true
  tb:∀ k ∈ p.tables,0≤k∧k<(c.tables.length:Int)
  on:∀ (i:Nat) (h:i<p.on_.length),∀ e ∈ p.on_[i],∃ t,Tru c ((gN c [] (p.tables.take (i+1))).1::env) e t
  wh:∀ e ∈ p.where_,∃ t,Tru c ((gN c [] p.tables).1::env) e t
  od:∀ k ∈ p.order,∃ t,Ty c ((gN c [] p.tables).1::env) k.expr t
  it:A2 (Ty c ((gN c [] p.tables).1::env)) p.items ts
theorem bSi {c:aP} (hc:qJ c) {env:List (List Int)} (hl:env.length≤1048577) {p:aQ} (hz:dY p≤1048576) {ts:List Int} (h:TyP c env p ts):bRb c env p ts:=by
  have hlen:=aNl p
  unfold TyP at h
  obtain ⟨_,f2⟩:=bHu c hc p (by omega) (by omega) (by omega)
  obtain ⟨r1,_⟩:=T9 c hc p.tables (by omega)
  rw [E8,f2,r1] at h
  simp only [QB,QA] at h
  cases hr:(gN c [] p.tables).2 with
  | false=>simp [hr] at h
  | true =>
  cases hP:yC p with
  | false=>simp [hr,hP] at h
  | true =>
  cases hO:onB p with
  | false=>simp [hr,hP,hO] at h
  | true =>
  cases hN:p.names.all nmB with
  | false=>simp [hr,hP,hO,hN] at h
  | true =>
  simp only [hr,hP,hO,hN,QI,Bool.true_and,QU,beq_self_eq_true,if_true,QC,if_false,QA] at h
  have hB:p.tables.length≤3∧p.on_.length=p.tables.length:=by
    unfold yC at hP
    simp only [WH,decide_eq_true_eq] at hP
    omega
  have hO1:∀ l ∈ p.on_,l.length≤1:=by
    unfold onB at hO
    simpa using hO
  obtain ⟨w1,_⟩:=aB8 (gN c [] p.tables).1 env (by omega)
  generalize hrow:(gN c [] p.tables).1=row at *
  have itL:∀ i,i≤p.items.length→∀ acc:List Int,acc.length=i→wW (row::env) p c acc (i:Nat)=some (ts,true)→∃ r,A2 (Ty c (row::env)) (p.items.drop i) r∧ts=acc++r:=by
    refine eO ?_ ?_
    · intro acc _ h
      rw [wW] at h
      simp at h
      exact ⟨[],by simpa using A2.nil,by simp [h]⟩
    · intro i hi ih acc ha h
      rw [wW] at h
      simp only [dD,hi,decide_true,if_true,bX hi,dX hi (by omega),QB,QA] at h
      cases hr:rO c (row::env) p.items[i] with
      | none=>simp [hr] at h
      | some r =>
        obtain ⟨y,ok⟩:=r
        cases ok with
        | false=>simp [hr] at h
        | true =>
          have ea:appG 8 acc [y]=some (acc++[y]):=by unfold appG; rw [if_pos (by simp; omega)]
          simp only [hr,ea,QA,QI,QC,if_false] at h
          obtain ⟨r,h1,h2⟩:=ih _ (by simp [ha]) h
          rw [QD hi]
          exact ⟨y::r,.cons hr h1,by simpa using h2⟩
  have odL:∀ i,i≤p.order.length→xQ (row::env) p c (i:Nat)=some (ts,true)→(∀ k ∈ p.order.drop i,∃ t,Ty c (row::env) k.expr t)∧A2 (Ty c (row::env)) p.items ts:=by
    refine eO ?_ ?_
    · intro h
      rw [xQ] at h
      simp only [dD,QQ,decide_false,QC,if_false] at h
      obtain ⟨r,h1,h2⟩:=itL 0 (by omega) [] rfl (by simpa using h)
      refine ⟨by simp,?_⟩
      have:ts=r:=by simpa using h2
      subst this
      simpa using h1
    · intro i hi ih h
      rw [xQ] at h
      simp only [dD,hi,decide_true,if_true,bX hi,dX hi (by omega),QB,QA] at h
      cases hr:rO c (row::env) p.order[i].expr with
      | none=>simp [hr] at h
      | some r =>
        obtain ⟨y,ok⟩:=r
        cases ok with
        | false=>simp [hr] at h
        | true =>
          simp only [hr,QA,QI,QC,if_false] at h
          obtain ⟨h1,h2⟩:=ih h
          rw [QD hi]
          refine ⟨fun k hk=>?_,h2⟩
          rcases QO.1 hk with rfl | hk
          · exact ⟨y,hr⟩
          · exact h1 k hk
  have onL:∀ i,i≤p.on_.length→D7 env (row,true) p c (i:Nat)=some (ts,true)→(∀ (j:Nat) (h:j<p.on_.length),i≤j→∀ e ∈ p.on_[j],∃ t,Tru c ((gN c [] (p.tables.take (j+1))).1::env) e t)∧(∀ e ∈ p.where_,∃ t,Tru c (row::env) e t)∧(∀ k ∈ p.order,∃ t,Ty c (row::env) k.expr t)∧A2 (Ty c (row::env)) p.items ts:=by
    refine eO ?_ ?_
    · intro h
      rw [D7] at h
      simp only [dD,QQ,decide_false,QC,if_false,w1,QB,QA] at h
      cases hw:A8 c (row::env) p.where_ with
      | none=>simp [hw] at h
      | some b =>
        cases b with
        | false=>simp [hw] at h
        | true =>
          simp only [hw,QA,QI,QC,if_false] at h
          obtain ⟨h1,h2⟩:=odL 0 (by omega) (by simpa using h)
          exact ⟨fun j hj h=>by omega,bH6 (by omega) hw,by simpa using h1,h2⟩
    · intro i hi ih h
      obtain ⟨a3,_⟩:=T9 c hc (p.tables.take (i+1)) (by rw [WD]; omega)
      have hs:rF p.tables 0 ((i+1:Nat):Int)=some (p.tables.take (i+1)):=aUj (by omega)
      obtain ⟨a6,_⟩:=aB8 (gN c [] (p.tables.take (i+1))).1 env (by omega)
      rw [D7] at h
      simp only [dD,hi,decide_true,if_true,bX hi,dX hi (by omega),hs,a3,a6,QB,QA] at h
      cases hw:A8 c ((gN c [] (p.tables.take (i+1))).1::env) p.on_[i] with
      | none=>simp [hw] at h
      | some b =>
        cases b with
        | false=>simp [hw] at h
        | true =>
          simp only [hw,QA,QI,QC,if_false] at h
          obtain ⟨h1,h2⟩:=ih h
          refine ⟨fun j hj h=>?_,h2⟩
          by_cases e:j=i
          · subst e
            exact bH6 (by have:=hO1 _ (QF hi); omega) hw
          · exact h1 j hj (by omega)
  have h0:gN c [] p.tables=(row,true):=by rw [← hrow,← hr]
  rw [h0] at h
  obtain ⟨k1,k2,k3,k4⟩:=onL 0 (by omega) (by simpa using h)
  have ht:=(bH0 c p.tables []).1 hr
  subst hrow
  exact ⟨hP,hO,hN,ht,fun i hi=>k1 i hi (by omega),k2,k3,k4⟩
theorem bNi (s:bF) (env:List bF) (h:env.length≤4194304):aLa s env=some (s::env):=by
  unfold aLa
  rw [iP (by simp; omega)]; rfl
theorem bEm (s:bF) (env:List bF) (h:env.length≤4194304):aGm s env=some (s::env):=by
  unfold aGm
  rw [iP (by simp; omega)]; rfl
theorem cCa (l:List (List bJ)) (h:l.length≤4194304):aKg l=some l:=by
  unfold aKg
  by_cases h0:l=[]
  · simp [h0]
  · have e:appG 24 ([]:List (List bJ)) l=some l:=by rw [iP (by simp; omega)]; simp
    have h1:¬ (l.length:Int)=0:=by
      have:=List.length_pos_iff.2 h0
      omega
    simp [h1,e]
def xX {α β γ:Type} (f:α→β→γ):List α→List β→List γ
  | a::l,b::m=>f a b::xX f l m
  | _,_=>[]
theorem xW {α β γ:Type} (f:α→β→γ):∀ (l:List α) (m:List β),l.length=m.length→(xX f l m).length=l.length
  | a::l,b::m,h=>by simp [xX,xW f l m (by simpa using h)]
  | [],[],_=>by simp [xX]
  | [],_::_,h=>by simp at h
  | _::_,[],h=>by simp at h
theorem Y9 {α β γ:Type} (f:α→β→γ):∀ (l:List α) (m:List β) (i:Nat) (h1:i<l.length) (h2:i<m.length),(xX f l m)[i]?=some (f l[i] m[i])
  | a::l,b::m,0,_,_=>by simp [xX]
  | a::l,b::m,i+1,h1,h2=>by simp [xX,Y9 f l m i (by simpa using h1) (by simpa using h2)]
  | [],_,_,h,_=>by simp at h
  | _::_,[],_,_,h=>by simp at h
theorem yF {α:Type} {l:List α} {i:Nat} {x:α} (h:l[i]?=some x):∃ hi:i<l.length,l[i]=x:=by
  rw [List.getElem?_eq_some_iff] at h; exact h
abbrev itU (xs:List aL) (ns:List (List UInt8)):List dU:=xX (fun x n=>⟨false,[],x,n⟩) xs ns
abbrev odU (xs:List aL) (ks:List bN):List eH:=xX (fun x k=>⟨x,k.desc⟩) xs ks
theorem bPt (c : aP) (env : List bF) (p : aQ) {od : List eH} {fr : List bZ} {wh xs : List aL} (h : A2 (fun e x => yH c env e = some x) p.items xs) (hn : p.names.length = p.items.length) (hl : p.items.length ≤ 1000) :
    xB env c p od fr wh 0 []=some ⟨p.distinct,itU xs p.names,fr,wh,od,p.limit⟩:=by
  have hx:=h.length
  have hz:(itU xs p.names).length=xs.length:=xW _ xs p.names (by omega)
  have key:∀ i,i≤p.items.length→∀ acc:List dU,acc.length≤i→xB env c p od fr wh (i:Nat) acc=some ⟨p.distinct,acc++(itU xs p.names).drop i,fr,wh,od,p.limit⟩:=by
    refine eO ?_ ?_
    · intro acc _
      rw [xB,QX (by omega)]; simp
    · intro i hi ih acc ha
      obtain ⟨g1,g2⟩:=yF (Y9 (fun x n=>(⟨false,[],x,n⟩:dU)) xs p.names i (by omega) (by omega))
      have hn':i<p.names.length:=by omega
      rw [xB,QD g1,g2]
      simp only [dD,hi,bX hi,bX hn',dX hi (by omega),h.get i hi (by omega),decide_true,if_true,QB,QA]
      rw [iP (by simp; omega),QA,ih _ (by simp; omega)]
      simp only [QG,QH]
  simpa using key 0 (by omega) [] (by simp)
theorem bXa (c : aP) (env : List bF) (p : aQ) {fr : List bZ} {wh xs : List aL} (h : A2 (fun (k : bN) x => yH c env k.expr = some x) p.order xs) (hl : p.order.length ≤ 1000) :
    A7 env c p fr wh 0 []=xB env c p (odU xs p.order) fr wh 0 []:=by
  have hx:=h.length
  have hz:(odU xs p.order).length=xs.length:=xW _ xs p.order (by omega)
  have key:∀ i,i≤p.order.length→∀ acc:List eH,acc.length≤i→A7 env c p fr wh (i:Nat) acc=xB env c p (acc++(odU xs p.order).drop i) fr wh 0 []:=by
    refine eO ?_ ?_
    · intro acc _
      rw [A7,QX (by omega)]; simp
    · intro i hi ih acc ha
      obtain ⟨g1,g2⟩:=yF (Y9 (fun x (k:bN)=>(⟨x,k.desc⟩:eH)) xs p.order i (by omega) (by omega))
      rw [A7,QD g1,g2]
      simp only [dD,hi,bX hi,dX hi (by omega),h.get i hi (by omega),decide_true,if_true,QB,QA]
      rw [iP (by simp; omega),QA,ih _ (by simp; omega)]
      simp only [QG,QH]
  simpa using key 0 (by omega) [] (by simp)
theorem bRn (c : aP) (aKc env : List bF) (p : aQ) {wh : List aL} {ons : List (List aL)} (d : Nat) (hd : aKc.length = d) (hdl : d < 10000000) (h : A2 (fun l m => aC2 c env l = some m) p.on_ ons) (hn : p.on_.length = p.tables.length) (hl : p.tables.length ≤ 3) (ht : ∀ k ∈ p.tables, 0 ≤ k ∧ k < (c.tables.length : Int)) :
    aC3 aKc env c p wh 0 []=A7 env c p (iI c d 0 p.tables ons) wh 0 []:=by
  have hx:=h.length
  have hz:=aFs c d 0 p.tables ons (by omega)
  have key:∀ i,i≤p.tables.length→∀ acc:List bZ,acc.length≤i→aC3 aKc env c p wh (i:Nat) acc=A7 env c p (acc++(iI c d 0 p.tables ons).drop i) wh 0 []:=by
    refine eO ?_ ?_
    · intro acc _
      rw [aC3,QX (by omega)]; simp
    · intro i hi ih acc ha
      have h2:i<p.on_.length:=by omega
      obtain ⟨g1,g2⟩:=yF (aI1 c d 0 p.tables ons i hi (by omega))
      obtain ⟨ix,_⟩:=aLd (ht _ (QF hi))
      rw [aC3,QD g1,g2]
      simp only [dD,hi,bX hi,bX h2,ix,hd,bH2 d i hdl (by omega),dX hi (by omega),h.get i h2 (by omega),decide_true,if_true,QB,QA]
      rw [iP (by simp; omega),QA,ih _ (by simp; omega)]
      simp only [QG,QH,WF]
  simpa using key 0 (by omega) [] (by simp)
theorem bP3 (c : aP) (lv : List (List bJ)) (d : Int) (p : aQ) {od : List eH} {fr : List bZ} {wh xs : List aL} (h : A2 (fun e x => xZ ⟨c⟩ lv d e = some x) p.items xs) (hn : p.names.length = p.items.length) (hl : p.items.length ≤ 1000) :
    yO d lv p ⟨c⟩ od fr wh (0,[])=some ⟨p.distinct,itU xs p.names,fr,wh,od,p.limit⟩:=by
  have hx:=h.length
  have hz:(itU xs p.names).length=xs.length:=xW _ xs p.names (by omega)
  have key:∀ i,i≤p.items.length→∀ acc:List dU,acc.length≤i→yO d lv p ⟨c⟩ od fr wh (((i:Nat):Int),acc)=some ⟨p.distinct,acc++(itU xs p.names).drop i,fr,wh,od,p.limit⟩:=by
    refine eO ?_ ?_
    · intro acc _
      rw [yO,QX (by omega)]; simp
    · intro i hi ih acc ha
      obtain ⟨g1,g2⟩:=yF (Y9 (fun x n=>(⟨false,[],x,n⟩:dU)) xs p.names i (by omega) (by omega))
      have hn':i<p.names.length:=by omega
      rw [yO,QD g1,g2]
      simp only [dD,hi,bX hi,bX hn',dX hi (by omega),h.get i hi (by omega),decide_true,if_true,QB,QA]
      rw [iP (by simp; omega),QA,ih _ (by simp; omega)]
      simp only [QG,QH]
  simpa using key 0 (by omega) [] (by simp)
theorem bMj (c : aP) (lv : List (List bJ)) (d : Int) (p : aQ) {fr : List bZ} {wh xs : List aL} (h : A2 (fun (k : bN) x => xZ ⟨c⟩ lv d k.expr = some x) p.order xs) (hl : p.order.length ≤ 1000) :
    C8 d lv p ⟨c⟩ fr wh (0,[])=yO d lv p ⟨c⟩ (odU xs p.order) fr wh (0,[]):=by
  have hx:=h.length
  have hz:(odU xs p.order).length=xs.length:=xW _ xs p.order (by omega)
  have key:∀ i,i≤p.order.length→∀ acc:List eH,acc.length≤i→C8 d lv p ⟨c⟩ fr wh (((i:Nat):Int),acc)=yO d lv p ⟨c⟩ (acc++(odU xs p.order).drop i) fr wh (0,[]):=by
    refine eO ?_ ?_
    · intro acc _
      rw [C8,QX (by omega)]; simp
    · intro i hi ih acc ha
      obtain ⟨g1,g2⟩:=yF (Y9 (fun x (k:bN)=>(⟨x,k.desc⟩:eH)) xs p.order i (by omega) (by omega))
      rw [C8,QD g1,g2]
      simp only [dD,hi,bX hi,dX hi (by omega),h.get i hi (by omega),decide_true,if_true,QB,QA]
      rw [iP (by simp; omega),QA,ih _ (by simp; omega)]
      simp only [QG,QH]
  simpa using key 0 (by omega) [] (by simp)
theorem bZc (c : aP) (lv : List (List bJ)) (p : aQ) {wh : List aL} {ons : List (List aL)} (d : Nat) (hdl : d < 10000000) (h : A2 (fun l m => aB4 ⟨c⟩ lv (d : Int) l = some m) p.on_ ons) (hn : p.on_.length = p.tables.length) (hl : p.tables.length ≤ 3) (ht : ∀ k ∈ p.tables, 0 ≤ k ∧ k < (c.tables.length : Int)) :
    aA6 (d:Int) lv p ⟨c⟩ wh 0 []=C8 (d:Int) lv p ⟨c⟩ (iI c d 0 p.tables ons) wh (0,[]):=by
  have hx:=h.length
  have hz:=aFs c d 0 p.tables ons (by omega)
  have key:∀ i,i≤p.tables.length→∀ acc:List bZ,acc.length≤i→aA6 (d:Int) lv p ⟨c⟩ wh (i:Nat) acc=C8 (d:Int) lv p ⟨c⟩ (acc++(iI c d 0 p.tables ons).drop i) wh (0,[]):=by
    refine eO ?_ ?_
    · intro acc _
      rw [aA6,QX (by omega)]; simp
    · intro i hi ih acc ha
      have h2:i<p.on_.length:=by omega
      obtain ⟨g1,g2⟩:=yF (aI1 c d 0 p.tables ons i hi (by omega))
      obtain ⟨ix,_⟩:=aLd (ht _ (QF hi))
      rw [aA6,QD g1,g2]
      simp only [dD,hi,bX hi,bX h2,ix,bBl d i hdl (by omega),dX hi (by omega),h.get i h2 (by omega),decide_true,if_true,QB,QA]
      rw [iP (by simp; omega),QA,ih _ (by simp; omega)]
      simp only [QG,QH,WF]
  simpa using key 0 (by omega) [] (by simp)
def aWd (c:aP) (env:List bF) (e:aA) (t:Int) (x:aL):Prop:=qQ t=some true∧∀ nm,vM (RR c nm) env x=some (e,t,RR c nm)
theorem bEj (c:aP) (env:List bF) (nm:List UInt8) {l:List aA} {ts:List Int} {xs:List aL} (h:A3 (aWd c env) l ts xs) (hl:l.length≤1000):aAc (RR c nm) env xs=some (l,RR c nm):=by
  obtain ⟨l1,l2⟩:=h.len
  have key:∀ i,i≤l.length→∀ acc:List aA,acc.length≤i→aCk env xs (i:Nat) c.tables 0 nm acc=some (acc++l.drop i,RR c nm):=by
    refine eO ?_ ?_
    · intro acc _
      rw [aCk]
      simp [l2]
    · intro i hi ih acc ha
      obtain ⟨k1,k2⟩:=h.get i hi (by omega) (by omega)
      have hx:i<xs.length:=by omega
      rw [aCk,QD hi]
      simp only [dD,hx,bX hx,k2 nm,F7,k1,decide_true,if_true,QB,QA,WB,QI,QC,if_false,beq_self_eq_true,QU]
      rw [aLi,iP (by simp; omega)]
      simp only [QB,QA,dX hi (by omega)]
      rw [ih _ (by simp; omega)]
      simp only [QG,QH]
  rw [aAc]
  have:=key 0 (by omega) [] (by simp)
  simpa using this
theorem bYt (c : aP) (nm : List UInt8) (a : List Int) (b : List (List aA)) (w : List aA) (o : List bN) (is : List aA) (ns : List (List UInt8)) (ds : Bool) (lm : Int) (e : aA) (n : List UInt8) (hi : is.length < 12) (hn : ns.length < 12) :
    aIc (RR c nm) a b w o is ns ds lm e n=some (RR c nm,ds,lm,is++[e],ns++[n]):=by
  have h1:∀ z:aA,appG 120 is [z]=some (is++[z]):=fun z=>iP (by simp; omega)
  have h2:appG 16 ns [n]=some (ns++[n]):=iP (by simp; omega)
  have h3:∀ z:aA,idx (is++[z]) (is.length:Int)=some z:=fun z=>by rw [aSa]; simp
  have h4:∀ z:aA,¬ (12:Int)<((is++[z]).length:Int):=fun z=>by simp; omega
  unfold aIc
  simp only [h1,h2,h3,h4,decide_false,QC,if_false,QB,QA]
  simp
theorem bS2 (c : aP) (env : List bF) (nm : List UInt8) (a : List Int) (b : List (List aA)) (w : List aA) (o : List bN) (ds : Bool) (lm : Int) {l : List aA} {ts : List Int} {xs : List aL} {ns : List (List UInt8)}
    (h:A3 (fun e t x=>∀ nm,vM (RR c nm) env x=some (e,t,RR c nm)) l ts xs) (hn:ns.length=l.length) (hl:l.length≤12) (hns:∀ n ∈ ns,n≠[]) :
    aEw (RR c nm) env (itU xs ns) a b w (o,[],[],ds,lm)=some (ts,RR c nm,ds,lm,l,ns):=by
  obtain ⟨l1,l2⟩:=h.len
  have hz:(itU xs ns).length=xs.length:=xW _ xs ns (by omega)
  have key : ∀ i, i ≤ l.length → ∀ (tt : List Int) (is : List aA) (nn : List (List UInt8)), tt.length = i → is.length = i → nn.length = i → tt ++ ts.drop i = ts → is ++ l.drop i = l → nn ++ ns.drop i = ns →
      aDl env (itU xs ns) a b w o (((i:Nat):Int),c.tables,0,nm,ds,lm,tt,is,nn)=some (ts,RR c nm,ds,lm,l,ns):=by
    refine eO ?_ ?_
    · intro tt is nn _ _ _ h1 h2 h3
      rw [l1] at h1
      rw [← hn] at h3
      have e1:tt=ts:=by simpa using h1
      have e2:is=l:=by simpa using h2
      have e3:nn=ns:=by simpa using h3
      subst e1; subst e2; subst e3
      rw [aDl]
      simp [hz,l2]
    · intro i hi ih tt is nn g1 g2 g3 h1 h2 h3
      have hx:i<xs.length:=by omega
      have hm:i<ns.length:=by omega
      have ht:i<ts.length:=by omega
      obtain ⟨u1,u2⟩:=yF (Y9 (fun x n=>(⟨false,[],x,n⟩:dU)) xs ns i hx hm)
      have hk:=h.get i hi ht hx nm
      have ho:aLe ⟨false,[],xs[i],ns[i]⟩ ((is.length:Nat):Int)=some ns[i]:=by
        unfold aLe
        rw [if_pos (by simp [hns _ (QF hm)])]
      have hi0:i<(itU xs ns).length:=u1
      have e1:(itU xs ns)[i]=⟨false,[],xs[i],ns[i]⟩:=u2
      have ea:appG 8 tt [ts[i]]=some (tt++[ts[i]]):=iP (by simp; omega)
      rw [aDl]
      simp only [dD,hi0,bX hi0,e1,F7,hk,ho,ea,decide_true,if_true,QB,QA,WB,QC,if_false,bYt c nm a b w o is nn ds lm l[i] ns[i] (by omega) (by omega)]
      rw [aGd]
      simp only [dX hi (by omega)]
      refine ih _ _ _ (by simp; omega) (by simp; omega) (by simp; omega) ?_ ?_ ?_
      · rw [QG,QH,← QD ht]; exact h1
      · rw [QG,QH,← QD hi]; exact h2
      · rw [QG,QH,← QD hm]; exact h3
  rw [aEw]
  exact key 0 (by omega) [] [] [] rfl rfl rfl (by simp) (by simp) (by simp)
theorem cA5 {c : aP} (hc : nH c) (env : List bF) (he : env.length ≤ 2097152) (nm : List UInt8) (w : List aA) (o : List bN) (is : List aA) (ns : List (List UInt8)) (ds : Bool) (lm : Int) (d : Nat) {tb : List Int} {on : List (List aA)} {ons : List (List aL)} (hl : tb.length ≤ 3) (h1 : on.length = tb.length) (h2 : ons.length = tb.length)
    (ht:∀ k ∈ tb,0≤k∧k<(c.tables.length:Int)) (h:∀ (i:Nat) (g1:i<on.length) (g2:i<ons.length),aAc (RR c nm) (⟨eB c d 0 (tb.take (i+1))⟩::env) ons[i]=some (on[i],RR c nm)) :
    aEu (RR c nm) env (iI c d 0 tb ons) [] [] w (o,is,ns,ds,lm)=some (⟨eB c d 0 tb⟩,RR c nm,ds,lm,tb,on):=by
  have hz:=aFs c d 0 tb ons (by omega)
  have key : ∀ i, i ≤ tb.length → ∀ (ta : List Int) (oa : List (List aA)), ta.length = i → oa.length = i → ta ++ tb.drop i = tb → oa ++ on.drop i = on →
      aE0 env (iI c d 0 tb ons) ds lm w o (is,ns,((i:Nat):Int),eB c d 0 (tb.take i),c.tables,0,nm,ta,oa)=some (⟨eB c d 0 tb⟩,RR c nm,ds,lm,tb,on):=by
    refine eO ?_ ?_
    · intro ta oa _ _ g1 g2
      rw [← h1] at g2
      have e1:ta=tb:=by simpa using g1
      have e2:oa=on:=by simpa using g2
      subst e1; subst e2
      rw [aE0]
      simp [hz]
    · intro i hi ih ta oa k1 k2 g1 g2
      have hi1:i<on.length:=by omega
      have hi2:i<ons.length:=by omega
      obtain ⟨u1,u2⟩:=yF (aI1 c d 0 tb ons i hi hi2)
      have hk:=ht _ (QF hi)
      have hs:rF (iI c d 0 tb ons) 0 ((i+1:Nat):Int)=some ((iI c d 0 tb ons).take (i+1)):=aUj (by omega)
      have hsc:aFi c ((iI c d 0 tb ons).take (i+1))=some (⟨eB c d 0 (tb.take (i+1))⟩,0,[]):=by
        rw [bNm c hc _ (by rw [WD]; omega),bDr,bKy hc d _ _ 0 [] [] (by rw [WD,WD]; omega) (fun k hk=>ht k (WU hk)) (by simp)]
        simp
      have hta:M8 c (mI c tb[i]).name=some tb[i]:=by
        obtain ⟨k,t1,t2,_⟩:=bDh c hc (mI c tb[i]).name
        rw [(aAn hc hk).2] at t1
        rw [t2]; exact t1.symm
      rw [aE0]
      simp only [dD,u1,bX u1,u2,dX hi (by omega),hs,hsc,decide_true,if_true,QB,QA,QI,QC,if_false]
      rw [aKn]
      simp only [F7,hta,bEm _ env (by omega),h i hi1 hi2,QB,QA,QC,if_false]
      rw [iP (by simp; omega),QA,iP (by simp; omega),QA,dX hi (by omega)]
      refine ih _ _ (by simp; omega) (by simp; omega) ?_ ?_
      · rw [QG,QH,← QD hi]; exact g1
      · rw [QG,QH,← QD hi1]; exact g2
  rw [aEu]
  have:=key 0 (by omega) [] [] rfl rfl (by simp) (by simp)
  simpa [eB] using this
theorem bTn (c : aP) (env : List bF) (he : env.length ≤ 2097152) (nm : List UInt8) (p : aQ) {ts : List Int} {sc : bF} {fr : List bZ} {wh xo xi : List aL}
    (hf:aEu (RR c nm) env fr [] [] [] ([],[],[],p.distinct,p.limit)=some (sc,RR c nm,p.distinct,p.limit,p.tables,p.on_))
    (hw:aAc (RR c nm) (sc::env) wh=some (p.where_,RR c nm))
    (ho:A2 (fun (k:bN) x=>∃ t,∀ nm,vM (RR c nm) (sc::env) x=some (k.expr,t,RR c nm)) p.order xo) (hol:p.order.length≤1000)
    (hi:aEw (RR c nm) (sc::env) (itU xi p.names) p.tables p.on_ p.where_ (p.order,[],[],p.distinct,p.limit)=some (ts,RR c nm,p.distinct,p.limit,p.items,p.names)) :
    aBy (RR c nm) env ⟨p.distinct,itU xi p.names,fr,wh,odU xo p.order,p.limit⟩=some (p,ts,RR c nm):=by
  have lo:=ho.length
  have hz:(odU xo p.order).length=xo.length:=xW _ xo p.order (by omega)
  rw [aBy]
  simp only [hf,bEm _ env (by omega),F7,hw,QB,QA,QC,if_false]
  have key:∀ i,i≤p.order.length→∀ acc:List bN,acc.length≤i→acc++p.order.drop i=p.order→aCm (sc::env) ⟨p.distinct,itU xi p.names,fr,wh,odU xo p.order,p.limit⟩ (sc,RR c nm,p.distinct,p.limit,p.tables,p.on_) (p.where_,RR c nm) ((i:Nat):Int) c.tables (0,nm,acc)=some (p,ts,RR c nm):=by
    refine eO ?_ ?_
    · intro acc _ g
      have e1:acc=p.order:=by simpa using g
      rw [e1,aCm]
      simp only [hz,← lo,dD,QQ,decide_false,QC,if_false,F7,hi,QB,QA]
      obtain ⟨a0,a1,a2,a3,a4,a5,a6,a7⟩:=p
      rfl
    · intro i hi2 ih acc ha g
      obtain ⟨g1,g2⟩:=yF (Y9 (fun x (k:bN)=>(⟨x,k.desc⟩:eH)) xo p.order i (by omega) hi2)
      have hi0:i<(odU xo p.order).length:=g1
      have e1:(odU xo p.order)[i]=⟨xo[i],p.order[i].desc⟩:=g2
      obtain ⟨t,hk⟩:=ho.get i hi2 (by omega)
      have ek:(⟨p.order[i].expr,p.order[i].desc⟩:bN)=p.order[i]:=by cases p.order[i]; rfl
      rw [aCm]
      simp only [dD,hi0,bX hi0,e1,F7,hk nm,decide_true,if_true,QB,QA,QC,if_false,ek]
      rw [iP (by simp; omega),QA,dX hi2 (by omega)]
      refine ih _ (by simp; omega) ?_
      rw [QG,QH,← QD hi2]; exact g
  exact key 0 (by omega) [] (by simp) (by simp)
theorem bKz:∀ (xs:List aL) (ns:List (List UInt8)),xs.length=ns.length→(itU xs ns).flatMap (fun i=>if i.star then [] else [i.expr])=xs∧yY (itU xs ns)=jV xs
  | [],[],_=>by simp [itU,xX,yY,jV]
  | x::xs,n::ns,h=>by
    obtain ⟨h1,h2⟩:=bKz xs ns (by simpa using h)
    have e:itU (x::xs) (n::ns)=⟨false,[],x,n⟩::itU xs ns:=rfl
    rw [e,WE,h1]
    simp only [yY,h2,jV,aCf]
    simp
  | [],_::_,h=>by simp at h
  | _::_,[],h=>by simp at h
theorem bJ7:∀ (xs:List aL) (ks:List bN),xs.length=ks.length→(odU xs ks).flatMap (fun k=>[k.expr])=xs∧zA (odU xs ks)=jV xs
  | [],[],_=>by simp [odU,xX,zA,jV]
  | x::xs,n::ns,h=>by
    obtain ⟨h1,h2⟩:=bJ7 xs ns (by simpa using h)
    have e:odU (x::xs) (n::ns)=⟨x,n.desc⟩::odU xs ns:=rfl
    rw [e,WE,h1]
    simp only [zA,h2,jV,aHc]
    simp
  | [],_::_,h=>by simp at h
  | _::_,[],h=>by simp at h
theorem bJh (c:aP) (d:Nat):∀ (i:Nat) (ts:List Int) (ons:List (List aL)),ts.length=ons.length→(iI c d i ts ons).flatMap (fun s=>s.on_)=ons.flatMap (fun l=>l)∧wR (iI c d i ts ons)=(ons.map fun l=>l.length+jV l).sum
  | i,[],[],_=>by simp [iI,wR]
  | i,k::ts,o::ons,h=>by
    obtain ⟨h1,h2⟩:=bJh c d (i+1) ts ons (by simpa using h)
    rw [iI,WE,h1]
    simp only [wR,h2,aCg,QJ,QL]
    simp
  | i,[],_::_,h=>by simp at h
  | i,_::_,[],h=>by simp at h
theorem bKp {l:List aA} {m:List aL} (h:A2 Same l m) (hd:∀ e ∈ l,DsE e):m.map (fun y=>(nN y).getD 0)=l.map dE∧m.map (fun y=>(oW y).getD 0)=l.map sE:=by
  induction h with
  | nil=>simp
  | @cons a' b' l' m' a _ ih =>
    obtain ⟨i1,i2⟩:=ih fun e he=>hd e (by simp [he])
    obtain ⟨_,d2,_,d4,_⟩:=hd a' (by simp)
    simp only [QJ,i1,i2,a.1,a.2,d2,d4,Option.getD_some,and_self]
theorem aTm {α:Type} (d:α→Int):∀ (l:List α) (x:Int),mx d l x=mx (fun y:Int=>y) (l.map d) x
  | [],_=>rfl
  | a::l,x=>by
    have e1:mx d (a::l) x=mx d l (if d a > x then d a else x):=rfl
    have e2:mx (fun y:Int=>y) ((a::l).map d) x=mx (fun y:Int=>y) (l.map d) (if d a > x then d a else x):=rfl
    rw [e1,e2,aTm d l]
theorem bYr (a b:List Int):mx (fun y:Int=>y) (a++b) 0=mx (fun y:Int=>y) (b++a) 0:=by
  have h:∀ n,mx (fun y:Int=>y) (a++b) 0≤n↔mx (fun y:Int=>y) (b++a) 0≤n:=by
    intro n
    rw [aX4,aX4]
    simp only [QS]
    exact ⟨fun h=>⟨h.1,fun y hy=>h.2 y hy.symm⟩,fun h=>⟨h.1,fun y hy=>h.2 y hy.symm⟩⟩
  exact Int.le_antisymm ((h _).2 (WY _)) ((h _).1 (WY _))
theorem bRp {p:aQ} {q:aV} (hp:dY p≤1048576) (hq:mW q≤1048576) {xi xn xw xo:List aL} (e:gH q=xi++xn++xw++xo) (hI:A2 Same p.items xi) (hO:A2 Same (p.on_.flatMap fun l=>l) xn) (hW:A2 Same p.where_ xw) (hK:A2 Same (p.order.flatMap fun k=>[k.expr]) xo):aSo p q:=by
  have D:∀ e ∈ nV p,DsE e:=fun e he=>bP8 e (by have:=aZr he; omega)
  have hR:A2 Same ((p.on_.flatMap fun l=>l)++p.where_++(p.order.flatMap fun k=>[k.expr])) (xn++xw++xo):=(hO.app hW).app hK
  have eP:nV p=((p.on_.flatMap fun l=>l)++p.where_++(p.order.flatMap fun k=>[k.expr]))++p.items:=rfl
  have eQ:gH q=xi++(xn++xw++xo):=by rw [e]; simp
  obtain ⟨a1,a2⟩:=bKp hI fun e he=>D e (by rw [eP]; simp [he])
  obtain ⟨b1,b2⟩:=bKp hR fun e he=>D e (by rw [eP]; exact List.mem_append_left _ he)
  obtain ⟨_,s2⟩:=parts_eq p hp
  have hlen:=bCa p
  constructor
  · rw [aZn q (fun y => (nN y).getD 0) hq fun y hy => by
      obtain ⟨r,h1,_⟩:=bD5 _ y (WG _) (by have:=M4 hy; omega)
      rw [h1]; rfl]
    rw [M6,s2]
    simp only [QB,QA]
    rw [(aU4 (nV p) (by omega) D 0).2]
    congr 1
    have e1:(gH q).foldl (fun b y=>mxE b ((nN y).getD 0)) 0=mx (fun y=>(nN y).getD 0) (gH q) 0:=rfl
    rw [e1,aTm,aTm dE,eQ,eP,QP,QP (l₂:=p.items),a1,b1,bYr]
  · rw [aWb q (fun y => (oW y).getD 0) hq fun y hy => by
      obtain ⟨r,h1,_,h3,h4⟩:=size_eq _ y (WG _) (by have:=M4 hy; omega)
      rw [h1]; exact ⟨rfl,h3,h4⟩]
    rw [Q7,s2]
    simp only [QB,QA]
    have hs:=bKl (s:=sE) p fun y hy=>by obtain ⟨_,_,_,_,_,h⟩:=D y hy; exact h
    rw [(aY4 (nV p) (by omega) (by omega) D).2]
    congr 1
    rw [eQ,eP,QP,QP (l₂:=p.items),a2,b2,QR,QR]
    omega
theorem bTw (c : aP) (hc : nH c) (d : Nat) (hdl : d < 10000000) {p : aQ} {xi xw xo : List aL} {ons : List (List aL)} (pB : yC p = true) (oB : onB p = true) (nB : p.names.all nmB = true) (tb : ∀ k ∈ p.tables, 0 ≤ k ∧ k < (c.tables.length : Int))
    (li:xi.length=p.items.length) (lw:xw.length=p.where_.length) (lo:xo.length=p.order.length) (ln:A2 (fun (l:List aA) (m:List aL)=>l.length=m.length) p.on_ ons)
    (hz:mW ⟨p.distinct,itU xi p.names,iI c d 0 p.tables ons,xw,odU xo p.order,p.limit⟩≤1048576) (hr:∀ y ∈ gH ⟨p.distinct,itU xi p.names,iI c d 0 p.tables ons,xw,odU xo p.order,p.limit⟩,lU y=some true) :
    uR ⟨p.distinct,itU xi p.names,iI c d 0 p.tables ons,xw,odU xo p.order,p.limit⟩=some true:=by
  unfold yC at pB
  simp only [WH,decide_eq_true_eq] at pB
  obtain ⟨⟨⟨⟨⟨⟨⟨⟨p1,p2⟩,p3⟩,p4⟩,p5⟩,p6⟩,p7⟩,p8⟩,p9⟩:=pB
  have lon:=ln.length
  have z1:(itU xi p.names).length=xi.length:=xW _ xi p.names (by omega)
  have z2:(odU xo p.order).length=xo.length:=xW _ xo p.order (by omega)
  have z3:=aFs c d 0 p.tables ons (by omega)
  generalize hQ:(⟨p.distinct,itU xi p.names,iI c d 0 p.tables ons,xw,odU xo p.order,p.limit⟩:aV)=q at *
  have q1:q.items=itU xi p.names:=by rw [← hQ]
  have q2:q.from_=iI c d 0 p.tables ons:=by rw [← hQ]
  have q3:q.where_=xw:=by rw [← hQ]
  have q4:q.order=odU xo p.order:=by rw [← hQ]
  have q5:q.limit=p.limit:=by rw [← hQ]
  have hel:=aMa q
  have m0:∀ n ∈ p.names,lZ n=some true:=by
    intro n hn
    have:=WL.1 nB n hn
    unfold lZ
    rw [aG4,this]
    by_cases h:n=[] <;> simp [h]
  have L2:zV (gH q) 0=some true:=by
    rw [bEp (gH q) (fun _=>true) (by omega) hr]
    simp
  have L1:∀ i,i≤q.from_.length→yI q (i:Nat)=some true:=by
    refine eO ?_ ?_
    · rw [yI]
      simp only [dD,QQ,decide_false,QC,if_false,aQk q hz,QB,QA,L2]
    · intro i hi ih
      rw [yI]
      have hi':i<p.tables.length:=by rw [q2,z3] at hi; exact hi
      have hio:i<p.on_.length:=by omega
      obtain ⟨g1,g2⟩:=yF (aI1 c d 0 p.tables ons i hi' (by omega))
      have e1:q.from_[i]=⟨(mI c p.tables[i]).name,al d (0+i),ons[i]'(by omega)⟩:=by rw [← g2]; simp only [q2]
      have hT:=(aAn hc (tb _ (QF hi'))).1.2.1
      have n1:lX (mI c p.tables[i]).name=some true:=by rw [aG4]; unfold nmB; simp [hT]
      have ha:=bK7 d (0+i) hdl (by omega)
      have n2:lZ (al d (0+i))=some true:=by
        unfold lZ
        rw [aG4]
        have:nmB (al d (0+i))=true:=by unfold nmB; simp only [WH,decide_eq_true_eq]; omega
        rw [this]; simp [bA9]
      have hol:(ons[i]'(by omega)).length≤1:=by
        rw [← ln.get i hio (by omega)]
        unfold onB at oB
        have:=WL.1 oB _ (QF hio)
        simpa using this
      have ho0:i=0→(ons[i]'(by omega)).length=0:=by
        intro h0
        subst h0
        rw [← ln.get 0 hio (by omega)]
        simpa [hio] using p4
      have c1:¬ (1:Int)<((ons[i]'(by omega)).length:Int):=by omega
      have c2:(if decide ((i:Int)=0)=true then decide ((0:Int)<((ons[i]'(by omega)).length:Int)) else false)=false:=by
        by_cases h0:i=0
        · have:=ho0 h0
          rw [this]; simp
        · have c3:¬ (i:Int)=0:=by omega
          simp only [c3,decide_false,QC,if_false]
      have hfl:q.from_.length≤3:=by rw [q2,z3]; omega
      simp only [dD,hi,bX hi,e1,n1,n2,c1,c2,dX hi (by omega),ih,decide_true,decide_false,if_true,QB,QA,QI,QC,if_false,beq_self_eq_true,QU]
  have L0:∀ i,i≤q.items.length→yK q (i:Nat)=some true:=by
    refine eO ?_ ?_
    · rw [yK]
      have:=L1 0 (by omega)
      rw [show ((0:Nat):Int)=0 from rfl] at this
      simp only [dD,QQ,decide_false,QC,if_false,this]
    · intro i hi ih
      rw [yK]
      have hi':i<xi.length:=by rw [q1,z1] at hi; exact hi
      obtain ⟨g1,g2⟩:=yF (Y9 (fun x n=>(⟨false,[],x,n⟩:dU)) xi p.names i hi' (by omega))
      have e1:q.items[i]=⟨false,[],xi[i],p.names[i]'(by omega)⟩:=by rw [← g2]; simp only [q1]
      have hil:q.items.length≤12:=by rw [q1,z1]; omega
      simp only [dD,hi,bX hi,e1,m0 _ (QF _),dX hi (by omega),ih,decide_true,if_true,QB,QA]
      simp
  have a1:iX (q.items.length:Int) 1 12=some true:=by
    unfold iX
    have x1:(1:Int)≤(q.items.length:Int):=by rw [q1,z1]; omega
    have x2:(q.items.length:Int)≤12:=by rw [q1,z1]; omega
    simp [x1,x2]
  have a2:iX (q.from_.length:Int) 1 3=some true:=by
    unfold iX
    have x1:(1:Int)≤(q.from_.length:Int):=by rw [q2,z3]; omega
    have x2:(q.from_.length:Int)≤3:=by rw [q2,z3]; omega
    simp [x1,x2]
  have a3:¬ (1:Int)<(q.where_.length:Int):=by rw [q3]; omega
  have a4:¬ (12:Int)<(q.order.length:Int):=by rw [q4,z2]; omega
  have a5:¬ q.limit < -1:=by rw [q5]; omega
  have:=L0 0 (by omega)
  rw [show ((0:Nat):Int)=0 from rfl] at this
  rw [uR]
  simp only [a1,a2,a3,a4,a5,this,decide_false,QB,QA,QI,beq_self_eq_true,QU,if_true,QC,if_false]
theorem bDv {α β:Type} (R:Nat→α→β→Prop):∀ (l:List α) (k:Nat),(∀ (i:Nat) (h:i<l.length),∃ b,R (k+i) l[i] b)→∃ m:List β,m.length=l.length∧∀ (i:Nat) (h:i<l.length) (h':i<m.length),R (k+i) l[i] m[i]
  | [],_,_=>⟨[],rfl,fun i h=>by simp at h⟩
  | a::l,k,H=>by
    obtain ⟨b,hb⟩:=H 0 (by simp)
    obtain ⟨m,hm,hr⟩:=bDv R l (k+1) fun i h=>by
      have:=H (i+1) (by simpa using h)
      rw [show k+1+i=k+(i+1) by omega]
      simpa using this
    refine ⟨b::m,by simp [hm],fun i h h'=>?_⟩
    cases i with
    | zero=>exact hb
    | succ i =>
      have:=hr i (by simpa using h) (by simpa using h')
      rw [show k+(i+1)=k+1+i by omega]
      simpa using this
theorem cFi {α:Type} (l:List α) (n:Nat):l.take n <+: l:=List.take_prefix n l
theorem A2.flat {α β:Type} {R:α→β→Prop} {l:List (List α)} {m:List (List β)} (h:A2 (A2 R) l m):A2 R (l.flatMap fun x=>x) (m.flatMap fun x=>x):=by
  induction h with
  | nil=>exact .nil
  | cons a _ ih=>simp only [WE]; exact a.app ih
theorem A2.singles {R:aA→aL→Prop} {l:List bN} {m:List aL} (h:A2 (fun k x=>R k.expr x) l m):A2 R (l.flatMap fun k=>[k.expr]) m:=by
  induction h with
  | nil=>exact .nil
  | cons a _ ih=>simp only [WE,QH]; exact .cons a ih
theorem bH1 {c : aP} {env : List (List Int)} {l : List aA} {t t' : List (List Int)} (he : env = tyU c t) (h : ∀ e ∈ l, ∃ s, Tru c env e s) (H : ∀ e ∈ l, ∀ s, Ty c (tyU c t) e s → ∃ x, UE c t t' e s x) :
    ∃ (ts:List Int) (xs:List aL),A3 (fun e s x=>qQ s=some true∧UE c t t' e s x) l ts xs:=by
  obtain ⟨ts,h1⟩:=A2.ex l h
  obtain ⟨xs,h2⟩:=A3.ex (S:=fun e s x=>qQ s=some true∧UE c t t' e s x) h1 fun e he2 s hs=>by
    obtain ⟨x,hx⟩:=H e he2 s (by rw [← he]; exact hs.1)
    exact ⟨x,hs.2,hx⟩
  exact ⟨ts,xs,h2⟩
theorem aYl {c:aP} {t t':List (List Int)} {R:aA→aL→Prop} (hR:∀ e x,R e x→gJ x≤aZ e) {l:List aA} {m:List aL} (h:A2 R l m):jV m≤(l.map aZ).sum:=by
  induction h with
  | nil=>simp [jV]
  | cons a _ ih=>simp only [jV,QJ,QL]; have:=hR _ _ a; omega
theorem bVv {l:List bN} {m:List aL} (h:A2 (fun (k:bN) x=>gJ x≤aZ k.expr) l m):jV m≤(l.map fun k=>aZ k.expr).sum:=by
  induction h with
  | nil=>simp [jV]
  | cons a _ ih=>simp only [jV,QJ,QL]; omega
theorem cEh {l:List (List aA)} {m:List (List aL)} (h:A2 (fun (l:List aA) (m:List aL)=>m.length+jV m≤zL aZ l) l m):(m.map fun l=>l.length+jV l).sum≤(l.map (zL aZ)).sum:=by
  induction h with
  | nil=>simp
  | cons a _ ih=>simp only [QJ,QL]; omega
theorem bVy {c : aP} (hc : nH c) (hT : qJ c) {t t' : List (List Int)} (h : okTss c t) (h' : okTss c t') (hp : A2 (· <+: ·) t t') {p : aQ} (hz : dY p ≤ 1048576) (hl : t.length + 1 ≤ 1048576) {ts : List Int} (ht : TyP c (tyU c t) p ts)
    (HE:∀ u u',okTss c u→okTss c u'→A2 (· <+: ·) u u'→u.length=t.length+1→∀ e s,aZ e<dY p→Ty c (tyU c u) e s→∃ x,UE c u u' e s x):∃ q,UQ c t t' p ts q:=by
  have hlen:=aNl p
  have hpl:=hp.length
  have tp:=bSi hT (env:=tyU c t) (by rw [aRw]; omega) hz ht
  have pB:=tp.pB
  unfold yC at pB
  simp only [WH,decide_eq_true_eq] at pB
  obtain ⟨⟨⟨⟨⟨⟨⟨⟨p1,p2⟩,p3⟩,p4⟩,p5⟩,p6⟩,p7⟩,p8⟩,p9⟩:=pB
  have okV:okTss c (p.tables::t):=⟨by simp only [QE]; omega,fun s hs=>by rcases QO.1 hs with rfl | hs; exact ⟨p2,tp.tb⟩; exact h.2 s hs⟩
  have okU:okTss c (p.tables::t'):=⟨by simp only [QE]; omega,fun s hs=>by rcases QO.1 hs with rfl | hs; exact ⟨p2,tp.tb⟩; exact h'.2 s hs⟩
  have okW:∀ i,okTss c (p.tables.take i::t):=fun i=>⟨by simp only [QE]; omega,fun s hs=>by
    rcases QO.1 hs with rfl | hs
    · exact ⟨by rw [WD]; omega,fun k hk=>tp.tb k (WU hk)⟩
    · exact h.2 s hs⟩
  have HV:∀ e s,aZ e<dY p→Ty c (tyU c (p.tables::t)) e s→∃ x,UE c (p.tables::t) (p.tables::t') e s x:=fun e s hz hs=>HE _ _ okV okU (.cons (List.prefix_refl _) hp) (by simp) e s hz hs
  -- the conditions
  obtain ⟨tw,xw,hw⟩:=bH1 (c:=c) (t:=p.tables::t) (t':=p.tables::t') rfl tp.wh fun e he s hs=>HV e s (by have:=bD1 he; have:=QM he; omega) hs
  obtain ⟨to,hto⟩:=A2.ex p.order tp.od
  obtain ⟨xo,ho⟩:=A3.ex (S:=fun (k:bN) s x=>UE c (p.tables::t) (p.tables::t') k.expr s x) hto fun k hk s hs=>HV k.expr s (by have:=aXu hk; have:=QM hk; omega) hs
  obtain ⟨xi,hi⟩:=A3.ex (S:=fun e s x=>UE c (p.tables::t) (p.tables::t') e s x) tp.it fun k hk s hs=>HV k s (by have:=aVn hk; have:=QM hk; omega) hs
  obtain ⟨ons,on1,on2⟩:=bDv (fun i l m=>∃ tn,A3 (fun e s x=>qQ s=some true∧UE c (p.tables.take (i+1)::t) (p.tables::t') e s x) l tn m) p.on_ 0 fun i hi=>by
    obtain ⟨a,b,hab⟩:=bH1 (c:=c) (t:=p.tables.take (0+i+1)::t) (t':=p.tables::t') (l:=p.on_[i]) (env:=(gN c [] (p.tables.take (i+1))).1::tyU c t) (by rw [WF]; rfl) (tp.on i hi) fun e he s hs =>
      HE _ _ (okW _) okU (.cons (cFi _ _) hp) (by simp) e s (by have:=onZ (QF hi) he; have:=QM he; omega) hs
    exact ⟨b,a,hab⟩
  have hd:t'.length<10000000:=by omega
  have hol:∀ l ∈ p.on_,l.length≤1:=by
    have:=tp.oB
    unfold onB at this
    simpa using this
  obtain ⟨w1,w2⟩:=hw.len
  obtain ⟨o1,o2⟩:=ho.len
  obtain ⟨i1,i2⟩:=hi.len
  have hons:A2 (fun (l:List aA) (m:List aL)=>∃ tn i,A3 (fun e s x=>qQ s=some true∧UE c (p.tables.take i::t) (p.tables::t') e s x) l tn m) p.on_ ons:=A2.of on1.symm fun i h1 h2=>by
    obtain ⟨tn,hn⟩:=on2 i h1 h2
    exact ⟨tn,_,hn⟩
  have hsame:A2 (A2 Same) p.on_ ons:=hons.mono fun l m _ ⟨tn,i,hn⟩=>hn.a2 fun _ _ _ k=>k.2.sm
  have smI:A2 Same p.items xi:=hi.a2 fun _ _ _ k=>k.sm
  have smW:A2 Same p.where_ xw:=hw.a2 fun _ _ _ k=>k.2.sm
  have smO:A2 (fun (k:bN) x=>Same k.expr x) p.order xo:=ho.a2 fun _ _ _ k=>k.sm
  obtain ⟨fI,zI⟩:=bKz xi p.names (by omega)
  obtain ⟨fO,zO⟩:=bJ7 xo p.order (by omega)
  obtain ⟨fF,zF⟩:=bJh c t'.length 0 p.tables ons (by omega)
  have eQ:gH ⟨p.distinct,itU xi p.names,iI c t'.length 0 p.tables ons,xw,odU xo p.order,p.limit⟩=xi++(ons.flatMap fun l=>l)++xw++xo:=by
    unfold gH
    rw [fI,fF,fO]
  have hzq:mW ⟨p.distinct,itU xi p.names,iI c t'.length 0 p.tables ons,xw,odU xo p.order,p.limit⟩≤dY p:=by
    rw [zQ,Y3]
    dsimp only
    rw [zI,zO,zF]
    have a1:=aYl (c:=c) (t:=t) (t':=t') (R:=fun e x=>gJ x≤aZ e) (fun _ _ h=>h) (hi.a2 fun _ _ _ k=>k.z)
    have a2:=aYl (c:=c) (t:=t) (t':=t') (R:=fun e x=>gJ x≤aZ e) (fun _ _ h=>h) (hw.a2 fun _ _ _ k=>k.2.z)
    have a3:jV xo≤(p.order.map fun k=>aZ k.expr).sum:=bVv (ho.a2 fun _ _ _ k=>k.z)
    have a4:(ons.map fun l=>l.length+jV l).sum≤(p.on_.map (zL aZ)).sum:=by
      refine cEh (hons.mono fun l m _ ⟨tn,i,hn⟩=>?_)
      have b1:=aYl (c:=c) (t:=t) (t':=t') (R:=fun e x=>gJ x≤aZ e) (fun _ _ h=>h) (hn.a2 fun _ _ _ k=>k.2.z)
      have b2:=hn.len
      unfold zL; omega
    have z1:(itU xi p.names).length=xi.length:=xW _ xi p.names (by omega)
    have z2:(odU xo p.order).length=xo.length:=xW _ xo p.order (by omega)
    have z3:=aFs c t'.length 0 p.tables ons (by omega)
    have g:∀ l:List (List aA),zL (zL aZ) l=l.length+(l.map (zL aZ)).sum:=fun _=>rfl
    have g2:∀ l:List aA,zL aZ l=l.length+(l.map aZ).sum:=fun _=>rfl
    rw [g,g2 p.where_,g2 p.items]
    omega
  have hrt:∀ y ∈ gH ⟨p.distinct,itU xi p.names,iI c t'.length 0 p.tables ons,xw,odU xo p.order,p.limit⟩,lU y=some true:=by
    rw [eQ]
    have R1:∀ {l:List aA} {m:List aL},A2 (fun _ x=>lU x=some true) l m→∀ y ∈ m,lU y=some true:=by
      intro l m h
      induction h with
      | nil=>intro y hy; simp at hy
      | cons a _ ih=>intro y hy; rcases QO.1 hy with rfl | hy; exact a; exact ih y hy
    have R2:∀ {l:List bN} {m:List aL},A2 (fun _ x=>lU x=some true) l m→∀ y ∈ m,lU y=some true:=by
      intro l m h
      induction h with
      | nil=>intro y hy; simp at hy
      | cons a _ ih=>intro y hy; rcases QO.1 hy with rfl | hy; exact a; exact ih y hy
    intro y hy
    simp only [QS] at hy
    rcases hy with ((hy | hy) | hy) | hy
    · exact R1 (hi.a2 (S:=fun _ x=>lU x=some true) fun _ _ _ k=>k.rt) y hy
    · have:A2 (fun (_:aA) x=>lU x=some true) (p.on_.flatMap fun l=>l) (ons.flatMap fun l=>l):=A2.flat (hons.mono fun l m _ ⟨tn,i,hn⟩=>hn.a2 fun _ _ _ k=>k.2.rt)
      exact R1 this y hy
    · exact R1 (hw.a2 (S:=fun _ x=>lU x=some true) fun _ _ _ k=>k.2.rt) y hy
    · exact R2 (ho.a2 (S:=fun _ x=>lU x=some true) fun _ _ _ k=>k.rt) y hy
  have htU:okTs c p.tables:=⟨p2,tp.tb⟩
  refine ⟨⟨p.distinct,itU xi p.names,iI c t'.length 0 p.tables ons,xw,odU xo p.order,p.limit⟩,?_,?_,?_,?_,hzq,?_⟩
  · rw [aD8,yA,cEm hc t'.length hd p.tables htU]
    simp only [QB,QA]
    rw [bNi _ _ (by rw [yA]; omega)]
    simp only [QA]
    have eU:(⟨eB c t'.length 0 p.tables⟩::jE c t':List bF)=jE c (p.tables::t'):=rfl
    rw [eU,aRo c _ (hw.a2 fun _ _ _ k=>k.2.s) (by omega)]
    simp only [QA]
    rw [bRn c (jE c t') (jE c (p.tables::t')) p t'.length (yA c t') hd (hons.mono fun l m hm ⟨tn,i,hn⟩=>aRo c _ (hn.a2 fun _ _ _ k=>k.2.s) (by have:=hol l hm; omega)) p3 p2 tp.tb]
    rw [bXa c _ p (ho.a2 fun _ _ _ k=>k.s) (by omega)]
    exact bPt c _ p (hi.a2 fun _ _ _ k=>k.s) p8 (by omega)
  · rw [aCs,cCa _ (by rw [aDt]; omega),bMo hc t'.length hd p.tables htU]
    simp only [QB,QA]
    rw [iP (by rw [aDt]; simp; omega)]
    simp only [QA]
    have eU:(lvU c t'++[(eB c t'.length 0 p.tables).map z0N])=lvU c (p.tables::t'):=rfl
    have eD:((p.tables::t').length:Int) - 1=(t'.length:Int):=by simp only [QE]; omega
    rw [eU,aZw c _ _ (hw.a2 fun _ _ _ k=>by have:=k.2.i; rw [eD] at this; exact this) (by omega)]
    simp only [QA]
    rw [bZc c _ p t'.length hd (hons.mono fun l m hm ⟨tn,i,hn⟩=>aZw c _ _ (hn.a2 fun _ _ _ k=>by have:=k.2.i; rw [eD] at this; exact this) (by have:=hol l hm; omega)) p3 p2 tp.tb]
    rw [bMj c _ _ p (ho.a2 fun _ _ _ k=>by have:=k.i; rw [eD] at this; exact this) (by omega)]
    exact bP3 c _ _ p (hi.a2 fun _ _ _ k=>by have:=k.i; rw [eD] at this; exact this) p8 (by omega)
  · exact bTw c hc t'.length hd tp.pB tp.oB tp.nB tp.tb i2.symm w2.symm o2.symm (hsame.mono fun _ _ _ k=>k.length) (by omega) hrt
  · exact bRp hz (by omega) eQ smI hsame.flat smW smO.singles
  · intro nm
    have heL:(jE c t).length≤2097152:=by rw [yA]; omega
    rw [← hpl] at *
    have hns:∀ n ∈ p.names,n≠[]:=by
      intro n hn e
      have:=WL.1 tp.nB n hn
      rw [e] at this
      simp [nmB] at this
    refine bTn c (jE c t) heL nm p (cA5 hc (jE c t) heL nm [] [] [] [] p.distinct p.limit t.length p2 p3 (by omega) tp.tb ?_) (bEj c _ nm (ts:=tw) ?_ (by omega)) ?_ (by omega) (bS2 c _ nm p.tables p.on_ p.where_ p.order p.distinct p.limit (ts:=ts) ?_ p8 (by omega) hns)
    · intro i g1 g2
      obtain ⟨tn,hn⟩:=on2 i g1 g2
      rw [WF] at hn
      refine bEj c _ nm (ts:=tn) ?_ (by have:=hol _ (QF g1); omega)
      have:∀ {l:List aA} {a:List Int} {m:List aL},A3 (fun e s x=>qQ s=some true∧UE c (p.tables.take (i+1)::t) (p.tables::t') e s x) l a m→A3 (aWd c (⟨eB c t.length 0 (p.tables.take (i+1))⟩::jE c t)) l a m:=by
        intro l a m h
        induction h with
        | nil=>exact .nil
        | cons a _ ih=>exact .cons ⟨a.1,a.2.r⟩ ih
      exact this hn
    · have : ∀ {l : List aA} {a : List Int} {m : List aL}, A3 (fun e s x => qQ s = some true ∧ UE c (p.tables :: t) (p.tables :: t') e s x) l a m → A3 (aWd c (⟨eB c t.length 0 p.tables⟩ :: jE c t)) l a m := by
        intro l a m h
        induction h with
        | nil=>exact .nil
        | cons a _ ih=>exact .cons ⟨a.1,a.2.r⟩ ih
      exact this hw
    · exact ho.a2 fun _ s _ k=>⟨s,k.r⟩
    · have : ∀ {l : List aA} {a : List Int} {m : List aL}, A3 (fun e s x => UE c (p.tables :: t) (p.tables :: t') e s x) l a m → A3 (fun e s x => ∀ nm, vM (RR c nm) (⟨eB c t.length 0 p.tables⟩ :: jE c t) x = some (e, s, RR c nm)) l a m := by
        intro l a m h
        induction h with
        | nil=>exact .nil
        | cons a _ ih=>exact .cons a.r ih
      exact this hi
def Byt (l:List Int):Prop:=∀ y ∈ l,0≤y∧y<256
theorem bPl {l:List Int} (h:Byt l):ofBytes l=some (l.map fun n=>UInt8.ofNat n.toNat):=by
  unfold ofBytes
  rw [if_pos]
  rw [WL]
  intro y hy
  have:=h y hy
  simp; omega
theorem okLGPExpr_mem:∀ {l:List aA},okLGPExpr l→∀ y ∈ l,okGPExpr y
  | [],_,y,hy=>by simp at hy
  | x::l,h,y,hy=>by
    unfold okLGPExpr at h
    rcases QO.1 hy with rfl | hy
    · exact h.1
    · exact okLGPExpr_mem h.2 y hy
theorem okLGPlan_mem:∀ {l:List aQ},okLGPlan l→∀ y ∈ l,okGPlan y
  | [],_,y,hy=>by simp at hy
  | x::l,h,y,hy=>by
    unfold okLGPlan at h
    rcases QO.1 hy with rfl | hy
    · exact h.1
    · exact okLGPlan_mem h.2 y hy
theorem okLLGPExpr_mem:∀ {l:List (List aA)},okLLGPExpr l→∀ y ∈ l,∀ x ∈ y,okGPExpr x
  | [],_,y,hy=>by simp at hy
  | x::l,h,y,hy=>by
    unfold okLLGPExpr at h
    rcases QO.1 hy with rfl | hy
    · exact okLGPExpr_mem h.1.2
    · exact okLLGPExpr_mem h.2 y hy
theorem bZg (y:bH×aB) (hy:okV 4 y):∀ n (t:List UInt8) (b:List Int) (i h:Int),400≤n+t.length→t.length≤810→okCur ⟨b,i,h⟩→Yes (Y1 y t b i h) (okV 810):=by
  obtain ⟨⟨h1,h2,_⟩,_,_⟩:=hy
  intro n
  have fin:∀ (t:List UInt8) (b:List Int) (i h:Int),t.length≤810→okCur ⟨b,i,h⟩→Yes (xL y.1.kind y.1.num t b i h) (okV 810):=fun t b i h ht ho=>by
    unfold xL
    exact Yes.some (okV_mk h1 h2 ht (by omega) ho)
  induction n with
  | zero =>
    intro t b i h ht hl ho
    rw [Y1]
    refine Yes.bind (jS _ _ ho) fun r k=>Yes.bind (Q:=fun q=>q=false) ⟨_,rfl,by split <;> simp; omega⟩ fun q hq=>?_
    subst hq
    exact fin _ _ _ _ hl k
  | succ n ih =>
    intro t b i h ht hl ho
    rw [Y1]
    refine Yes.bind (jS _ _ ho) fun r k=>Yes.bind (Q:=fun q=>q=true→t.length<400) ⟨_,rfl,fun hq=>by cases hr:r.1 <;> simp [hr] at hq; omega⟩ fun q hq=>Yes.ite (fun hq2=>?_) fun _=>fin _ _ _ _ hl k
    have:=hq hq2
    refine Yes.bind (Q:=fun z=>z=t++t) ⟨_,aJ8 (by omega),rfl⟩ fun z hz=>?_
    subst hz
    refine Yes.bind (Q:=fun z=>z=(t++t)++[48,49,50,51,52,53,54,55,56,57]) ⟨_,aJ8 (by simp; omega),rfl⟩ fun z hz=>?_
    subst hz
    exact ih _ _ _ _ (by simp; omega) (by simp; omega) k
theorem bDo (c:aB) (h:okCur c):Yes (aJb c) (okV 810):=by
  unfold aJb
  refine Yes.bind (bK2 _ h) fun y hy=>?_
  have hy':=hy
  obtain ⟨⟨h1,h2,h3⟩,h4,k⟩:=hy
  refine Yes.bind (fU _ _ k) fun r ⟨_,_,k⟩=>Yes.ite (fun _=>?_) fun _=>Yes.ite (fun _=>?_) fun _=>Yes.ite (fun _=>?_) fun _=>?_
  · refine Yes.bind (fU _ _ k) fun r ⟨a0,a1,k⟩=>?_
    have:=a1 (by decide)
    unfold xL
    exact Yes.some (okV_mk (by rw [eX (by omega) (by omega)]; exact okI_small (by omega) (by omega)) h2 (by omega) (by omega) k)
  · refine Yes.bind (rV _ k) fun r ⟨a0,k⟩=>?_
    unfold xL
    exact Yes.some (okV_mk h1 a0 (by omega) (by omega) k)
  · refine Yes.bind (aBk _ _ (by decide) k) fun r ⟨hm,k⟩=>?_
    have:∀ v ∈ ([[120],[],[108,111,110,103]]:List (List UInt8)),v.length≤4:=by decide
    have:=this _ hm
    exact bZg y hy' 400 _ _ _ _ (by omega) (by omega) k
  · unfold xL
    exact Yes.some (okV_mk h1 h2 (by omega) (by omega) k)
theorem bMy (p:Int) (hp:p≤1000):∀ (n:Nat) (x:List Int) (i:Int) (b:List Int) (j h:Int) y c',p≤n+i→0≤i→x.length=i.toNat→i≤1000→okCur ⟨b,j,h⟩→xO p x i b j h=some (y,c')→y.length≤1000:=by
  intro n
  induction n with
  | zero =>
    intro x i b j h y c' h1 h2 h3 h4 _ he
    rw [xO,if_neg (by simp; omega)] at he
    simp at he
    rw [← he.1]; omega
  | succ n ih =>
    intro x i b j h y c' h1 h2 h3 hi0 h4 he
    rw [xO] at he
    by_cases hi:i<p
    · rw [if_pos (by simpa using hi)] at he
      obtain ⟨v,c1,e1,_,_,e4⟩:=aCu ⟨b,j,h⟩ h4
      simp only [e1,QB,QA] at he
      rw [iP (by simp; omega),eX (by omega) (by omega)] at he
      simp only [QA] at he
      exact ih (x++[WA .u8 v]) (i+1) c1.b c1.i c1.h y c' (by omega) (by omega) (by simp [h3]; omega) (by omega) e4 he
    · rw [if_neg (by simpa using hi)] at he
      simp at he
      rw [← he.1]; omega
theorem bJ8 (c:aB) (h:okCur c):Yes (E9 c) fun r=>r.1.length≤1000∧okCur r.2:=by
  unfold E9
  refine Yes.bind (fU _ _ h) fun r ⟨_,_,k⟩=>Yes.ite (fun _=>?_) fun _=>Yes.ite (fun _=>?_) fun _=>Yes.ite (fun _=>?_) fun _=>?_
  · refine Yes.bind (aBk _ _ (by decide) k) fun r ⟨hm,k⟩=>Yes.some ⟨?_,k⟩
    have:∀ v ∈ ([[],[97,98,99,100,101,102,103,104,105,106,107,108,109,110,111,112,113,114,115,116],[97,98,99,100,101,102,103,104,105,106,107,108,109,110,111,112,113,114,115,116,117],[108,105,109,105,116],[76,73,77,73,84,83],[65,83,99],[57],[97,57],[195,169]]:List (List UInt8)),v.length≤1000:=by decide
    exact this _ hm
  · refine Yes.bind (Q:=fun l:List (List UInt8)=>l.length=29∧∀ v ∈ l,v.length≤1000) ⟨_,rfl,by decide,by decide⟩ fun l ⟨hl,hm⟩=>Yes.bind (fU _ _ k) fun r ⟨h0,h1,k⟩=>?_
    obtain ⟨v,hv0,hv⟩:=aGv (l:=l) h0 (by rw [hl]; exact h1 (by decide))
    exact Yes.bind (Q:=fun z=>z=v) ⟨v,hv,rfl⟩ fun z hz=>Yes.some ⟨by subst hz; exact hm _ hv0,k⟩
  · refine Yes.bind (fU _ _ k) fun r ⟨h0,h1,k⟩=>?_
    have h1':=h1 (by decide)
    obtain ⟨y,c3,e3,l3,k3⟩:=bEk r.1 (by omega) 5 [] 0 r.2.b r.2.i r.2.h (by omega) (by omega) rfl (by omega) (by simp) k
    have hlen:=bMy r.1 (by omega) 5 [] 0 r.2.b r.2.i r.2.h y c3 (by omega) (by omega) rfl (by omega) k e3
    have hs:=bPl (l:=y) l3
    refine Yes.bind (Q:=fun z=>z=(y,c3)) ⟨_,e3,rfl⟩ fun z hz=>?_
    subst hz
    exact Yes.bind (Q:=fun t:List UInt8=>t.length≤1000) ⟨_,hs,by simpa using hlen⟩ fun t ht=>Yes.some ⟨ht,k3⟩
  · exact Yes.bind (aLh _ k) fun r ⟨h1,k⟩=>Yes.some ⟨by show r.1.length≤1000; omega,k⟩
theorem aTs {l:List aA}:∀ {k:Nat} {x y:aA} {b:Nat},l[k]?=some x→aZ y≤aZ x+b→zL aZ (l.set k y)≤zL aZ l+b:=by
  induction l with
  | nil=>intro k x y b h; simp at h
  | cons z l ih =>
    intro k x y b h hb
    cases k with
    | zero=>simp at h; subst h; simp only [List.set_cons_zero,zL,QE,QJ,QL]; omega
    | succ k =>
      simp at h
      have:=ih (k:=k) h hb
      simp only [WV,zL,QE,QJ,QL] at this ⊢; omega
theorem okX_parts {x:aA} (h:okGPExpr x):okI x.kind∧okI x.op∧okGValue x.value∧okI x.up∧okI x.at_∧(∀ y ∈ x.kids,okGPExpr y)∧∀ p ∈ x.sub,okGPlan p:=by
  obtain ⟨a0,a1,a2,a3,a4,a5,a6,a7⟩:=x
  unfold okGPExpr at h
  exact ⟨h.1,h.2.1,h.2.2.2.1,h.2.2.2.2.1,h.2.2.2.2.2.1,okLGPExpr_mem h.2.2.2.2.2.2.1.2,okLGPlan_mem h.2.2.2.2.2.2.2.2⟩
theorem zX (x:aA):aZ x=x.value.text.length+zL aZ x.kids+zL dY x.sub:=by
  obtain ⟨a0,a1,a2,a3,a4,a5,a6,a7⟩:=x
  exact sS _ _ _ _ _ _ _ _
theorem cD8:∀ (n:Nat) (e:aA) (c:aB),aZ e<n→aZ e≤400000→okGPExpr e→okCur c→Yes (G5 c e) (okE (aZ e+900)):=by
  intro n
  induction n with
  | zero=>intro e c h _ _; omega
  | succ n ih =>
    intro e c hn hz hok h
    obtain ⟨p1,p2,p3,p4,p5,p6,p7⟩:=okX_parts hok
    have hE:=zX e
    have lk:e.kids.length≤zL aZ e.kids:=by unfold zL; omega
    have ls:e.sub.length≤zL dY e.sub:=by unfold zL; omega
    have J:∀ a b q v u t cb ci ch (ss:List aQ),okI a→okI b→okGValue v→okI u→okI t→okCur ⟨cb,ci,ch⟩→(∀ p ∈ ss,okGPlan p)→ss.length≤1000000→v.text.length+zL aZ e.kids+zL dY ss≤aZ e+900→Yes (vJ e a b q v.kind v.num v.text u t cb ci ch ss) (okE (aZ e+900)):=fun a b q v u t cb ci ch ss h1 h2 h3 h4 h5 k hs hsl hl=>by
      unfold vJ
      refine Yes.some ⟨⟨mkE h1 h2 h3 h4 h5 (by omega) p6 (by omega) hs,?_⟩,k⟩
      rw [sS]; exact hl
    rw [G5]
    refine Yes.bind (R8 _ _ _ _ h) fun r k=>Yes.bind (Q:=fun q=>q=true→0<(e.kids.length:Int)) ⟨_,rfl,?_⟩ fun q hq=>Yes.ite (fun hq2=>?_) fun _=>?_
    · intro h1
      by_cases h0:0<(e.kids.length:Int)
      · exact h0
      · rw [if_neg (by simpa using h0)] at h1; exact absurd h1 (by simp)
    · have h0:=hq hq2
      refine Yes.bind (fU _ _ k) fun r ⟨b0,b1,k⟩=>?_
      obtain ⟨v,hv0,hv⟩:=aGv (l:=e.kids) b0 (b1 h0)
      have hg:e.kids[r.1.toNat]?=some v:=by unfold idx at hv; rw [if_pos b0] at hv; exact hv
      have hl:=nR (z:=aZ) hv0
      refine Yes.bind (Q:=fun z=>z=v) ⟨v,hv,rfl⟩ fun z hz2=>?_
      subst hz2
      have hlen:e.kids.length+(e.kids.map aZ).sum=zL aZ e.kids:=rfl
      have hpos:=QM hv0
      refine Yes.bind (ih z _ (by omega) (by omega) (p6 z hv0) k) fun r2 ⟨⟨h4,h5⟩,k⟩=>Yes.some ⟨⟨mkE p1 p2 p3 p4 p5 (by rw [List.length_set]; omega) (fun y hy=>?_) (by omega) p7,?_⟩,k⟩
      · rcases WW hy with hy | rfl
        · exact p6 y hy
        · exact h4
      · have:=aTs (b:=900) hg h5
        rw [sS]; omega
    · refine Yes.bind (fU _ _ k) fun r ⟨_,_,k⟩=>Yes.ite (fun _=>?_) fun _=>Yes.ite (fun _=>?_) fun _=>Yes.ite (fun _=>?_) fun _=>Yes.ite (fun _=>?_) fun _=>Yes.ite (fun _=>?_) fun _=>Yes.ite (fun _=>?_) fun _=>?_
      · exact Yes.bind (rV _ k) fun r ⟨hi,k⟩=>J _ _ _ e.value _ _ _ _ _ _ hi p2 p3 p4 p5 k p7 (by omega) (by omega)
      · exact Yes.bind (rV _ k) fun r ⟨hi,k⟩=>J _ _ _ e.value _ _ _ _ _ _ p1 hi p3 p4 p5 k p7 (by omega) (by omega)
      · exact Yes.bind (rV _ k) fun r ⟨hi,k⟩=>J _ _ _ e.value _ _ _ _ _ _ p1 p2 p3 hi p5 k p7 (by omega) (by omega)
      · exact Yes.bind (rV _ k) fun r ⟨hi,k⟩=>J _ _ _ e.value _ _ _ _ _ _ p1 p2 p3 p4 hi k p7 (by omega) (by omega)
      · exact Yes.bind (bDo _ k) fun r hr=>J _ _ _ r.1 _ _ _ _ _ _ p1 p2 hr.1 p4 p5 hr.2.2 p7 (by omega) (by have:=hr.2.1; omega)
      · exact J _ _ _ e.value _ _ _ _ _ _ p1 p2 p3 p4 p5 k p7 (by omega) (by omega)
      · refine Yes.bind (jZ (by simp; omega)) fun y hy=>?_
        subst hy
        have hP0:okGPlan (aQ.mk [] [] [] [] [] [] false 0):=by unfold okGPlan; exact ⟨⟨by simp,by simp⟩,⟨by simp,by unfold okLLGPExpr; trivial⟩,⟨by simp,by unfold okLGPExpr; trivial⟩,⟨by simp,by unfold okLGPSort; trivial⟩,⟨by simp,by unfold okLGPExpr; trivial⟩,⟨by simp,by simp⟩,trivial,okI_small (by decide) (by decide)⟩
        refine J _ _ _ e.value _ _ _ _ _ _ p1 p2 p3 p4 p5 k (nQ p7 hP0) (by simp; omega) ?_
        have:dY (aQ.mk [] [] [] [] [] [] false 0)=0:=by simp [dY,E5,aDj,aCh,zL]
        simp only [zL,QN,QE,QK,QP,QJ,QY,QR,QL,QZ,this] at hE ⊢
        omega
theorem bFg (p:List Int) (hp:p.length≤1048576):Yes (aG5 p 4) fun r=>0<r∧r≤4:=by
  unfold aG5
  have e:Int.tdiv (p.length:Int) 20=(p.length:Int) / 20:=Int.tdiv_eq_ediv_of_nonneg (by omega)
  rw [e,eX (n:=(p.length:Int) / 20) (by omega) (by omega),eX (by omega) (by omega)]
  refine Yes.ite (fun _=>Yes.some ⟨by omega,by omega⟩) fun h=>Yes.some ⟨by omega,by simp at h; omega⟩
theorem zP (q:aQ):dY q=zL z0 q.tables+zL (zL aZ) q.on_+zL aZ q.where_+zL qD q.order+zL aZ q.items+zL QT q.names:=by
  obtain ⟨a0,a1,a2,a3,a4,a5,a6,a7⟩:=q
  simp only [dY,Z8,aKm,aKl,zL]
theorem bMk (c:aB) (o0:okCur c) (p:List Int) (hp:p.length≤1048576):Yes (aKr c p) fun r=>(okGPlan r.1∧dY r.1≤1000000)∧okCur r.2:=by
  have hZ3:Zb 3≤30000:=by decide
  have hZ4:Zb 4≤300000:=by decide
  unfold aKr
  refine Yes.bind (bFg p hp) fun s ⟨s0,s1⟩=>Yes.bind (fU _ _ o0) fun r ⟨b0,b1,k⟩=>?_
  have hr:=b1 s0
  have H:∀ c,okCur c→Yes (rH c r.1) (okE (Zb 3)):=fun c k=>bHf 3 _ c (by omega) (by omega) (by omega) k
  refine Yes.bind (bI2 H (fun c k=>bC3 (Zb 3) _ 1 (by omega) (fun c k=>by rw [eX (n:=r.1+1) (by omega) (by omega),eX (by omega) (by omega)]; have:=H c k; rwa [show r.1+1 - 1=r.1 by omega]) c k) _ k) fun y ⟨⟨hy1,hy2,hy3⟩,k⟩=>?_
  obtain ⟨⟨a0,a1,a2,a3,a4,a5,a6,a7⟩,yc⟩:=y
  dsimp only at hy1 hy2 hy3 k ⊢
  have hZ:=zP (aQ.mk a0 a1 a2 a3 a4 a5 a6 a7)
  dsimp only at hZ
  have l0:a0.length≤zL z0 a0:=by unfold zL; omega
  have l1:a1.length≤zL (zL aZ) a1:=by unfold zL; omega
  have l2:a2.length≤zL aZ a2:=by unfold zL; omega
  have l4:a4.length≤zL aZ a4:=by unfold zL; omega
  have l5:a5.length≤zL QT a5:=by unfold zL; omega
  unfold okGPlan at hy1
  obtain ⟨q0,q1,q2,q3,q4,q5,q6,q7⟩:=hy1
  have fin : ∀ {b : List Int} {j g : Int} {t : List Int} {o : List (List aA)} {w i : List aA} {n : List (List UInt8)}, okL okI t → (o.length ≤ 1000000 ∧ okLLGPExpr o) → (w.length ≤ 1000000 ∧ okLGPExpr w) → (i.length ≤ 1000000 ∧ okLGPExpr i) → okL okS n → zL z0 t + zL (zL aZ) o + zL aZ w + zL qD a3 + zL aZ i + zL QT n ≤ 1000000 → okCur ⟨b, j, g⟩ →
      Yes (yV (aQ.mk a0 a1 a2 a3 a4 a5 a6 a7,yc) b j g t o w i n) fun r=>(okGPlan r.1∧dY r.1≤1000000)∧okCur r.2:=fun h1 h2 h3 h4 h5 h6 h7=>by
    unfold yV
    refine Yes.some ⟨⟨?_,by rw [zP]; exact h6⟩,h7⟩
    unfold okGPlan
    exact ⟨h1,⟨by omega,h2.2⟩,⟨by omega,h3.2⟩,q3,⟨by omega,h4.2⟩,h5,q6,q7⟩
  have e1:a1.length≤1000000∧okLLGPExpr a1:=⟨by omega,q1.2⟩
  have e2:a2.length≤1000000∧okLGPExpr a2:=⟨by omega,q2.2⟩
  have e4:a4.length≤1000000∧okLGPExpr a4:=⟨by omega,q4.2⟩
  have i0:∀ n:Int,-1000≤n→n≤1000→okI n:=fun n h0 h1=>okI_small h0 h1
  have E0:∀ a,okI a→okGPExpr (aA.mk a 0 false ⟨0,0,[]⟩ 0 0 [] []):=fun a ha=>mkE ha (i0 _ (by omega) (by omega)) aQ2 (i0 _ (by omega) (by omega)) (i0 _ (by omega) (by omega)) (by simp) (by simp) (by simp) (by simp)
  have zE0:∀ a,aZ (aA.mk a 0 false ⟨0,0,[]⟩ 0 0 [] [])=0:=fun a=>by rw [sS]; simp [zL]
  refine Yes.bind (fU _ _ k) fun r2 ⟨_,_,k⟩=>Yes.ite (fun _=>?_) fun _=>Yes.ite (fun _=>?_) fun _=>Yes.ite (fun _=>?_) fun _=>Yes.ite (fun _=>?_) fun _=>Yes.ite (fun _=>?_) fun _=>?_
  · refine Yes.bind (rV _ k) fun x ⟨hx,k⟩=>Yes.bind (jZ (by simp; omega)) fun z hz=>?_
    subst hz
    refine fin ⟨by simp; omega,nQ q0.2 hx⟩ e1 e2 e4 q5 ?_ k
    simp only [zL,z0,QN,QE,QK,QP,QJ,QY,QR,QL,QZ] at hZ ⊢; omega
  · refine Yes.bind (bJ8 _ k) fun x ⟨hx,k⟩=>Yes.bind (jZ (by simp; omega)) fun z hz=>?_
    subst hz
    refine fin q0 e1 e2 e4 ⟨by simp; omega,nQ q5.2 (by unfold okS; omega)⟩ ?_ k
    simp only [zL,QN,QE,QK,QP,QJ,QY,QR,QL,QZ] at hZ ⊢; omega
  · refine Yes.bind (jZ (by simp; omega)) fun z hz=>?_
    subst hz
    refine fin q0 ⟨by simp; omega,?_⟩ e2 e4 q5 ?_ k
    · refine okLLX_of (nQ (fun y hy=>⟨?_,okLLGPExpr_mem q1.2 y hy⟩) ⟨by simp,mem1 (E0 0 (i0 _ (by omega) (by omega)))⟩)
      have:=nR (z:=zL aZ) hy
      have:y.length≤zL aZ y:=by unfold zL; omega
      have:(a1.map (zL aZ)).sum≤zL (zL aZ) a1:=by unfold zL; omega
      omega
    · have e3:zL aZ [aA.mk 0 0 false ⟨0,0,[]⟩ 0 0 [] []]=1:=by simp [zL,zE0]
      have e5:zL (zL aZ) (a1++[[aA.mk 0 0 false ⟨0,0,[]⟩ 0 0 [] []]])=zL (zL aZ) a1+2:=by
        show (a1++[[aA.mk 0 0 false ⟨0,0,[]⟩ 0 0 [] []]]).length+((a1++[[aA.mk 0 0 false ⟨0,0,[]⟩ 0 0 [] []]]).map (zL aZ)).sum=(a1.length+(a1.map (zL aZ)).sum)+2
        simp only [QN,QE,QK,QP,QJ,QY,QR,QL,QZ,e3]; omega
      rw [e5]; omega
  · obtain ⟨x,hx⟩:∃ x,a4[0]?=some x:=⟨a4[0]'hy3,by simp⟩
    have hm:=WX hx
    refine Yes.bind (Q:=fun z=>z=x) ⟨x,by unfold idx; simpa using hx,rfl⟩ fun z hz=>?_
    subst hz
    have:=nR (z:=aZ) hm
    have:(a4.map aZ).sum≤zL aZ a4:=by unfold zL; omega
    refine Yes.bind (cD8 _ _ _ (WG _) (by omega) (okLGPExpr_mem q4.2 _ hm) k) fun y ⟨hy,k2⟩=>?_
    have:=aTs (b:=900) (y:=y.1) hx hy.2
    refine fin q0 e1 e2 ⟨by simp; omega,okLX_of fun u hu=>?_⟩ q5 (by simp only [Int.toNat_zero]; omega) k2
    rcases WW hu with hu | rfl
    · exact okLGPExpr_mem q4.2 u hu
    · exact hy.1
  · refine Yes.bind (rV _ k) fun x ⟨hx,k⟩=>Yes.bind (jZ (by simp; omega)) fun z hz=>?_
    subst hz
    refine fin q0 e1 ⟨by simp; omega,okLX_of (nQ (okLGPExpr_mem q2.2) (E0 _ hx))⟩ e4 q5 ?_ k
    simp only [zL,QN,QE,QK,QP,QJ,QY,QR,QL,QZ,zE0] at hZ ⊢; omega
  · exact fin q0 e1 e2 e4 q5 (by omega) k
def Ne4 (t:List Int) (o:List (List aA)) (i:List aA) (n:List (List UInt8)):Prop:=1≤t.length∧1≤o.length∧1≤i.length∧1≤n.length
def PZn (B:Nat) (r:aQ×aB):Prop:=(dY r.1≤40+8 * B∧Ne4 r.1.tables r.1.on_ r.1.items r.1.names)∧okCur r.2
theorem bPf {B : Nat} {d : Int} {cat : aP} (hc : qJ cat) (env : List (List Int)) (hv : mR env) (hl : env.length ≤ 1000) (types : List Int) (hty : types.length ≤ 2) (hty1 : 1 ≤ types.length)
    (H:∀ c ty env',mR env'→env'.length=env.length+1→okCur c→Yes (tZ c cat env' ty d) (FZ B)) (c:aB) (h:okCur c):Yes (yR c cat env types d) (PZn B):=by
  have J4:∀ y1 (w:List aA) n i o t b j g r,qL 1 B w→pN 2 n→qL 2 B i→qO 2 B o→t.length≤2→qK B r→Ne4 t o i n→okCur ⟨b,j,g⟩→Yes (aC1 y1 w n i o t b j g r) (PZn B):=fun y1 w n i o t b j g r hw hn hi ho ht hr hne k=>by
    unfold aC1 aGi
    refine Yes.bind (jS _ _ k) fun q k=>Yes.ite (fun _=>?_) fun _=>?_
    · exact Yes.bind (fU _ _ k) fun q ⟨_,_,k⟩=>Yes.some ⟨⟨aP9 ht ho hw hr hi hn,hne⟩,k⟩
    · exact Yes.some ⟨⟨aP9 ht ho hw hr hi hn,hne⟩,k⟩
  have J3:∀ env' y1 n i o t b j g (w:List aA),mR env'→env'.length=env.length+1→qL 1 B w→pN 2 n→qL 2 B i→qO 2 B o→t.length≤2→Ne4 t o i n→okCur ⟨b,j,g⟩→Yes (aBw d env' cat y1 n i (o,t,b,j,g,w)) (PZn B):=fun env' y1 n i o t b j g w he hel hw hn hi ho ht hne k=>by
    rw [aBw]
    refine Yes.bind (jS _ _ k) fun q k=>Yes.ite (fun _=>?_) fun _=>?_
    · refine Yes.bind (fU _ _ k) fun q ⟨_,_,k⟩=>Yes.bind (H _ _ _ he hel k) fun q ⟨hq,k⟩=>Yes.bind (jS _ _ k) fun q2 k=>Yes.bind (jZ (by simp)) fun z hz=>?_
      subst hz
      exact J4 _ _ _ _ _ _ _ _ _ _ hw hn hi ho ht ⟨by simp,mem1 (p:=fun (k:bN)=>aZ k.expr≤B) hq⟩ hne k
    · exact J4 _ _ _ _ _ _ _ _ _ _ hw hn hi ho ht ⟨by simp,by simp⟩ hne k
  have L2:∀ env' y1 o t,mR env'→env'.length=env.length+1→qO 2 B o→t.length≤2→1≤t.length∧1≤o.length→∀ x,x≤types.length→∀ b j g n i,pN x n→qL x B i→x≤n.length∧x≤i.length→okCur ⟨b,j,g⟩→Yes (F4 types d env' cat y1 o t ((x:Nat),b,j,g,n,i)) (PZn B):=by
    intro env' y1 o t he hel ho ht hto
    refine eO ?_ ?_
    · intro b j g n i hn hi hx1 k
      have hne:Ne4 t o i n:=⟨hto.1,hto.2,by omega,by omega⟩
      rw [F4,if_neg (by simp)]
      have hn2:pN 2 n:=⟨by have:=hn.1; omega,hn.2⟩
      have hi2:qL 2 B i:=⟨by have:=hi.1; omega,hi.2⟩
      refine Yes.bind (jS _ _ k) fun q k=>Yes.ite (fun _=>?_) fun _=>?_
      · exact Yes.bind (H _ _ _ he hel k) fun q ⟨hq,k⟩=>J3 _ _ _ _ _ _ _ _ _ _ he hel ⟨by simp,mem1 hq⟩ hn2 hi2 ho ht hne k
      · exact J3 _ _ _ _ _ _ _ _ _ _ he hel ⟨by simp,by simp⟩ hn2 hi2 ho ht hne k
    · intro x hx ih b j g n i hn hi hx1 k
      rw [F4,if_pos (by simpa using hx)]
      have l1:=hn.1
      have l2:=hi.1
      simp only [bX hx,dX hx (by omega),QB,QA]
      refine Yes.bind (H _ _ _ he hel k) fun q ⟨hq,k⟩=>Yes.bind (jZ (by simp; omega)) fun z hz=>Yes.bind (aBk _ _ (by decide) k) fun s ⟨hs,k⟩=>Yes.bind (jZ (by simp; omega)) fun z2 hz2=>?_
      subst hz hz2
      have hs8:s.1.length≤8:=by
        have:∀ v ∈ ([[97],[98],[99],[120],[121,32,122],[99,49]]:List (List UInt8)),v.length≤8:=by decide
        exact this _ hs
      exact ih _ _ _ _ _ ⟨by simp; omega,nQ hn.2 hs8⟩ ⟨by simp; omega,nQ hi.2 hq⟩ ⟨by simp; omega,by simp; omega⟩ k
  have L0:∀ (y2:Int×aB) y1,0≤y2.1→y2.1<2→∀ (m:Nat) (x:Int) b j g o (t:List Int),2≤m+x→0≤x→x≤2→qO x B o→(t.length:Int)≤x→x≤(o.length:Int)∧x≤(t.length:Int)→okCur ⟨b,j,g⟩→Yes (wS env types d y2 cat y1 (x,b,j,g,o,t)) (PZn B):=by
    intro y2 y1 y0 yl m
    have e0:WA .i64 (1+y2.1)=1+y2.1:=eX (by omega) (by omega)
    have fin:∀ (x:Int) b j g o (t:List Int),¬ x<1+y2.1→x≤2→qO x B o→(t.length:Int)≤x→x≤(o.length:Int)∧x≤(t.length:Int)→okCur ⟨b,j,g⟩→Yes (wS env types d y2 cat y1 (x,b,j,g,o,t)) (PZn B):=by
      intro x b j g o t hx h2 ho ht hx1 k
      rw [wS]
      dsimp only
      rw [e0,if_neg (by simpa using hx),(T9 cat hc t (by omega)).2]
      simp only [QB,QA]
      rw [(aB8 _ env (by omega)).2]
      simp only [QA]
      exact L2 _ y1 o t (aRf hc hv (by omega)) (by simp) ⟨by have:=ho.1; omega,ho.2⟩ (by omega) (by omega) 0 (by omega) _ _ _ _ _ ⟨by simp,by simp⟩ ⟨by simp,by simp⟩ (by simp) k
    induction m with
    | zero=>intro x b j g o t h1 h2 h3 ho ht hx1 k; exact fin x b j g o t (by omega) h3 ho ht hx1 k
    | succ m ih =>
      intro x b j g o t h1 h2 h3 ho ht hx1 k
      by_cases hx:x<1+y2.1
      · rw [wS]
        dsimp only
        rw [e0,if_pos (by simpa using hx)]
        have l1:=ho.1
        have J1:∀ (q:Int) (w:List aA) b j g,w.length≤1→(∀ y ∈ w,aZ y≤B)→okCur ⟨b,j,g⟩→Yes (aAu env types d y2 x cat y1 (t++[q],o,b,j,g,w)) (PZn B):=fun q w b j g hw1 hw2 k=>by
          rw [aAu]
          refine Yes.bind (jZ (by simp; omega)) fun z hz=>?_
          subst hz
          rw [eX (by omega) (by omega)]
          exact ih _ _ _ _ _ _ (by omega) (by omega) (by omega) ⟨by simp; omega,nQ ho.2 ⟨hw1,hw2⟩⟩ (by simp; omega) (by simp; omega) k
        refine Yes.bind (fU _ _ k) fun q ⟨q0,q1,k⟩=>Yes.bind (jZ (by simp; omega)) fun z hz=>?_
        subst hz
        rw [(T9 cat hc (t++[q.1]) (by simp; omega)).2]
        simp only [QB,QA]
        refine Yes.bind (R8 _ _ _ _ k) fun q2 k=>?_
        refine Yes.ite (fun _=>?_) fun _=>?_
        · rw [(aB8 _ env (by omega)).2]
          simp only [QA]
          refine Yes.bind (H _ _ _ (aRf hc hv (by simp; omega)) (by simp) k) fun e ⟨he,k⟩=>Yes.bind (jZ (by simp)) fun z hz=>?_
          subst hz
          exact J1 _ _ _ _ _ (by simp) (mem1 he) k
        · exact J1 _ _ _ _ _ (by simp) (by simp) k
      · exact fin x b j g o t hx h3 ho ht hx1 k
  rw [yR]
  refine Yes.bind (jS _ _ h) fun y1 k=>Yes.bind (fU _ _ k) fun y2 ⟨q0,q1,k⟩=>?_
  exact L0 y2 y1 q0 (q1 (by decide)) 2 0 _ _ _ _ _ (by omega) (by omega) (by omega) ⟨by simp,by simp⟩ (by simp) (by simp) k
theorem bX5:∀ (n:Nat) (e:aA) (c:aB),aZ e<n→aZ e≤400000→okCur c→Yes (G5 c e) (FZ (aZ e+900)):=by
  intro n
  induction n with
  | zero=>intro e c h; omega
  | succ n ih =>
    intro e c hn hz h
    have hE:=aFk e
    have lk:e.kids.length≤zL aZ e.kids:=by unfold zL; omega
    have ls:e.sub.length≤zL dY e.sub:=by unfold zL; omega
    have J:∀ a b q (v:bH) u t cb ci ch (ss:List aQ),okCur ⟨cb,ci,ch⟩→v.text.length+zL aZ e.kids+zL dY ss≤aZ e+900→Yes (vJ e a b q v.kind v.num v.text u t cb ci ch ss) (FZ (aZ e+900)):=fun a b q v u t cb ci ch ss k hl=>by
      unfold vJ
      refine Yes.some ⟨?_,k⟩
      show aZ _≤_
      rw [sS]; exact hl
    rw [G5]
    refine Yes.bind (R8 _ _ _ _ h) fun r k=>Yes.bind (Q:=fun q=>q=true→0<(e.kids.length:Int)) ⟨_,rfl,?_⟩ fun q hq=>Yes.ite (fun hq2=>?_) fun _=>?_
    · intro h1
      by_cases h0:0<(e.kids.length:Int)
      · exact h0
      · rw [if_neg (by simpa using h0)] at h1; exact absurd h1 (by simp)
    · have h0:=hq hq2
      refine Yes.bind (fU _ _ k) fun r ⟨b0,b1,k⟩=>?_
      obtain ⟨v,hv0,hv⟩:=aGv (l:=e.kids) b0 (b1 h0)
      have hg:e.kids[r.1.toNat]?=some v:=by unfold idx at hv; rw [if_pos b0] at hv; exact hv
      have hl:=nR (z:=aZ) hv0
      refine Yes.bind (Q:=fun z=>z=v) ⟨v,hv,rfl⟩ fun z hz2=>?_
      subst hz2
      have hlen:e.kids.length+(e.kids.map aZ).sum=zL aZ e.kids:=rfl
      have hpos:=QM hv0
      refine Yes.bind (ih z _ (by omega) (by omega) k) fun r2 ⟨h5,k⟩=>Yes.some ⟨?_,k⟩
      have:=aTs (b:=900) hg h5
      show aZ _≤_
      rw [sS]; omega
    · refine Yes.bind (fU _ _ k) fun r ⟨_,_,k⟩=>Yes.ite (fun _=>?_) fun _=>Yes.ite (fun _=>?_) fun _=>Yes.ite (fun _=>?_) fun _=>Yes.ite (fun _=>?_) fun _=>Yes.ite (fun _=>?_) fun _=>Yes.ite (fun _=>?_) fun _=>?_
      · exact Yes.bind (rV _ k) fun r ⟨hi,k⟩=>J _ _ _ e.value _ _ _ _ _ _ k (by omega)
      · exact Yes.bind (rV _ k) fun r ⟨hi,k⟩=>J _ _ _ e.value _ _ _ _ _ _ k (by omega)
      · exact Yes.bind (rV _ k) fun r ⟨hi,k⟩=>J _ _ _ e.value _ _ _ _ _ _ k (by omega)
      · exact Yes.bind (rV _ k) fun r ⟨hi,k⟩=>J _ _ _ e.value _ _ _ _ _ _ k (by omega)
      · exact Yes.bind (bDo _ k) fun r hr=>J _ _ _ r.1 _ _ _ _ _ _ hr.2.2 (by have:=hr.2.1; omega)
      · exact J _ _ _ e.value _ _ _ _ _ _ k (by omega)
      · refine Yes.bind (jZ (by simp; omega)) fun y hy=>?_
        subst hy
        refine J _ _ _ e.value _ _ _ _ _ _ k ?_
        have:dY (aQ.mk [] [] [] [] [] [] false 0)=0:=by simp [dY,E5,aDj,aCh,zL]
        simp only [zL,QN,QE,QK,QP,QJ,QY,QR,QL,QZ,this] at hE ⊢
        omega
theorem cF0 {cat:aP} (hc:qJ cat) {d:Int} (hd0:0≤d) (hd:d<4) (env:List (List Int)) (hv:mR env) (hl:env.length≤10) (c:aB) (ty:Int) (h:okCur c):Yes (tZ c cat env ty d) (FZ 25000) :=
  (cEu hc 3 d c ty env (by omega) (by omega) (by omega) hv (by omega) h).mono fun r hr=>⟨WO hr.1 (by decide),hr.2⟩
def R20 (r:aP×aQ×aB):Prop:=(CR r.1∧dY r.2.1≤300000∧Ne4 r.2.1.tables r.2.1.on_ r.2.1.items r.2.1.names)∧okCur r.2.2
theorem bN8 (c:aB) {d:Int} (hd0:0≤d) (hd:d<4) (h:okCur c):Yes (aJa c d) R20:=by
  have J:∀ (y1:aP×aB) (x7:List Int) b j g,CR y1.1→x7.length≤2→1≤x7.length→okCur ⟨b,j,g⟩→Yes (aG7 d y1 x7 b j g) R20:=fun y1 x7 b j g hC hl hl1 k=>by
    unfold aG7
    exact Yes.bind (bPf (B:=25000) hC.cat [] aKc (by simp) x7 hl hl1 (fun c ty env' he hel k=>cF0 hC.cat hd0 hd env' he (by simp at hel; omega) c ty k) _ k) fun r ⟨⟨hr,hn⟩,k⟩=>Yes.some ⟨⟨hC,by show dY r.1≤300000; omega,hn⟩,k⟩
  unfold aJa
  refine Yes.bind (bQz _ h) fun y1 ⟨hC,k⟩=>Yes.bind (fU _ _ k) fun y2 ⟨_,_,k⟩=>Yes.bind (jS _ _ k) fun y3 k=>Yes.ite (fun _=>?_) fun _=>J _ _ _ _ _ hC (by simp) (by simp) k
  refine Yes.bind (fU _ _ k) fun y4 ⟨_,_,k⟩=>Yes.bind (jZ (by simp)) fun y e=>?_
  subst e
  exact J _ _ _ _ _ hC (by simp) (by simp) k
theorem aN1 {α:Type} {l:List α} (h:1≤l.length):∃ x,idx l 0=some x∧l[0]?=some x:=by
  refine ⟨l[0]'(by omega),?_,by simp⟩
  exact bX (i:=0) (by omega)
def okU (r:aB×aP×aQ):Prop:=aBe r.2.1∧dY r.2.2≤1000000
theorem aKw {α:Type} {z:α→Nat} {y:α}:∀ (l:List α) (k:Nat),zL z (l.set k y)≤zL z l+z y
  | [],_=>by simp [zL]
  | a::l,0=>by simp [zL]; omega
  | a::l,k+1=>by
    have:=aKw (z:=z) (y:=y) l k
    simp only [zL,WV,QE,QJ,QL] at this ⊢
    omega
theorem bP2 (p:List Int) (hp:p.length≤1048576):Yes (aJi p) okU:=by
  unfold aJi
  obtain ⟨c,e,hc⟩:=cBb p hp
  rw [e]
  simp only [QB,QA]
  refine Yes.bind (bFg p hp) fun n ⟨n0,n3⟩=>Yes.bind (fU _ _ hc) fun y3 ⟨a0,a1,k⟩=>?_
  have a1:=a1 n0
  refine Yes.bind (bN8 _ a0 (by omega) k) fun y4 ⟨⟨hC,hS,hN⟩,k⟩=>Yes.bind (fU _ _ k) fun y5 ⟨_,_,k5⟩=>?_
  have hcs:aBe ⟨y4.1.tables⟩:=hC.small
  obtain ⟨ct,pl,cu⟩:=y4
  obtain ⟨a,b,w,o,i,nm,ds,lm⟩:=pl
  obtain ⟨n1,n2,n3',n4⟩:=hN
  have hZ:=zP (aQ.mk a b w o i nm ds lm)
  dsimp only at hS hZ n1 n2 n3' n4 hcs hC k ⊢
  have J:∀ (T:List bI) ds lm cb ci ch a b w o i nm,aBe ⟨T⟩→dY (aQ.mk a b w o i nm ds lm)≤1000000→Yes (vG T ds lm cb ci ch a b w o i nm) okU:=fun T ds lm cb ci ch a b w o i nm h1 h2=>by
    unfold vG
    exact Yes.some ⟨h1,h2⟩
  refine Yes.ite (fun _=>?_) fun _=>Yes.ite (fun _=>?_) fun _=>Yes.ite (fun _=>?_) fun _=>Yes.ite (fun _=>?_) fun _=>Yes.ite (fun _=>?_) fun _=>Yes.ite (fun _=>?_) fun _=>Yes.ite (fun _=>?_) fun _=>Yes.ite (fun _=>?_) fun _=>?_
  · exact Yes.bind (bS4 _ k5) fun q ⟨⟨h1,h2⟩,_⟩=>J _ _ _ _ _ _ _ _ _ _ _ _ ⟨by show q.1.tables.length≤_; omega,fun t ht=>by have:=h2 t ht; omega⟩ (by omega)
  · exact Yes.bind (bMk _ k5 p hp) fun q ⟨⟨_,h2⟩,_⟩=>J _ _ _ _ _ _ _ _ _ _ _ _ hcs (by obtain ⟨⟨q1,q2,q3,q4,q5,q6,q7,q8⟩,_⟩:=q; exact h2)
  · obtain ⟨x,x1,x2⟩:=aN1 n3'
    refine Yes.bind (Q:=fun z=>z=x) ⟨x,x1,rfl⟩ fun z hz=>?_
    subst hz
    have hm:=aC9 (z:=aZ) (WX x2)
    refine Yes.bind (bX5 _ _ _ (WG _) (by omega) k5) fun q ⟨h1,_⟩=>J _ _ _ _ _ _ _ _ _ _ _ _ hcs ?_
    rw [zP]
    have:=aKw (z:=aZ) (y:=q.1) i (0:Int).toNat
    dsimp only; omega
  · have hx:∀ c,okCur c→Yes (rH c 2) (fun r=>aZ r.1≤8000∧okCur r.2):=fun c k=>(bHf 2 2 c (by omega) (by omega) (by omega) k).mono fun r hr=>⟨WO hr.1.2 (by decide),hr.2⟩
    refine Yes.bind (hx _ k5) fun q ⟨h1,_⟩=>J _ _ _ _ _ _ _ _ _ _ _ _ hcs ?_
    rw [zP]
    have:zL aZ [q.1]=1+aZ q.1:=by simp [zL]
    dsimp only; omega
  · refine Yes.bind (bJ8 _ k5) fun q ⟨h1,_⟩=>?_
    obtain ⟨x,x1,x2⟩:=aN1 n4
    refine Yes.bind (Q:=fun z=>z=x) ⟨x,x1,rfl⟩ fun z hz=>J _ _ _ _ _ _ _ _ _ _ _ _ hcs ?_
    rw [zP]
    have:=aKw (z:=QT) (y:=q.1) nm (0:Int).toNat
    dsimp only; omega
  · refine Yes.bind (rV _ k5) fun q _=>J _ _ _ _ _ _ _ _ _ _ _ _ hcs ?_
    rw [zP]; dsimp only; omega
  · refine Yes.bind (rV _ k5) fun q _=>?_
    obtain ⟨x,x1,x2⟩:=aN1 n1
    refine Yes.bind (Q:=fun z=>z=x) ⟨x,x1,rfl⟩ fun z hz=>J _ _ _ _ _ _ _ _ _ _ _ _ hcs ?_
    rw [zP]
    have:=aKw (z:=z0) (y:=q.1) a (0:Int).toNat
    have e0:z0 q.1=0:=rfl
    dsimp only; omega
  · obtain ⟨x,x1,x2⟩:=aN1 n2
    refine Yes.bind (Q:=fun z=>z=x) ⟨x,x1,rfl⟩ fun z hz=>J _ _ _ _ _ _ _ _ _ _ _ _ hcs ?_
    rw [zP]
    have:=aKw (z:=zL aZ) (y:=[aA.mk 1 0 false (bH.mk 0 0 []) 0 0 [] []]) b (0:Int).toNat
    have e0:zL aZ [aA.mk 1 0 false (bH.mk 0 0 []) 0 0 [] []]=1:=by simp [zL,sS]
    dsimp only; omega
  · exact J _ _ _ _ _ _ _ _ _ _ _ _ hcs (by omega)
theorem bYb (p:List (List UInt8)) (h:p.length≤1048576):aJh p p=some true:=by
  rw [aJh]
  rw [if_neg (by simp)]
  have key:∀ i,i≤p.length→aAb p p (i:Nat)=some true:=by
    refine eO ?_ ?_
    · rw [aAb]; simp
    · intro i hi ih
      rw [aAb]
      simp only [dD,hi,decide_true,if_true,bX hi,dX hi (by omega),QB,QA,ih]
      simp
  have:=key 0 (by omega)
  simpa using this
theorem aNz {l:List aA} (h:l.length≤1048576) (H:∀ y ∈ l,O8 y y=some true):vU l l=some true :=
  bHi (p:=l) (E:=O8) (L:=fun i=>aEy l l i) (S:=fun a b=>vU a b) h (by rw [vU]) (fun i=>by rw [aEy]) H
theorem bQn (l:List Int) (h:l.length≤1048576):aFq l l=some true :=
  bHi (p:=l) (E:=fun a b=>some (decide (a=b))) (L:=fun i=>aDx l l i) (S:=fun a b=>aFq a b) h (by rw [aFq]) (fun i=>by rw [aDx]; simp only [QB,QA]) fun y _=>by simp
theorem cE6:∀ n:Nat,(∀ x:aA,aZ x<n→aZ x≤1048576→O8 x x=some true)∧(∀ q:aQ,dY q<n→dY q≤1048576→aAx q q=some true):=by
  intro n
  induction n with
  | zero=>exact ⟨fun x h _=>by omega,fun q h _=>by omega⟩
  | succ n ih =>
    refine ⟨fun x hn hz=>?_,fun q hn hz=>?_⟩
    · have hE:=zX x
      have lk:x.kids.length+(x.kids.map aZ).sum=zL aZ x.kids:=rfl
      have ls:x.sub.length+(x.sub.map dY).sum=zL dY x.sub:=rfl
      have e1:vU x.kids x.kids=some true:=aNz (by omega) fun y hy=>ih.1 y (by have:=nR (z:=aZ) hy; have:=QM hy; omega) (by have:=nR (z:=aZ) hy; omega)
      have e2:aBz x x 0=some true:=by
        have key:∀ i,i≤x.sub.length→aBz x x (i:Nat)=some true:=by
          refine eO ?_ ?_
          · rw [aBz]; simp
          · intro i hi hh
            have hy:=QF hi
            have h1:aAx x.sub[i] x.sub[i]=some true:=ih.2 _ (by have:=nR (z:=dY) hy; omega) (by have:=nR (z:=dY) hy; omega)
            rw [aBz]
            simp only [dD,hi,decide_true,if_true,bX hi,dX hi (by omega),QB,QA,hh,h1]
            simp
        have:=key 0 (by omega)
        simpa using this
      rw [O8]
      simp [e1,e2]
    · have hP:=zP q
      have l0:q.tables.length≤zL z0 q.tables:=by unfold zL; omega
      have l1:q.on_.length+(q.on_.map (zL aZ)).sum=zL (zL aZ) q.on_:=rfl
      have l2:q.where_.length+(q.where_.map aZ).sum=zL aZ q.where_:=rfl
      have l3:q.order.length+(q.order.map qD).sum=zL qD q.order:=rfl
      have l4:q.items.length+(q.items.map aZ).sum=zL aZ q.items:=rfl
      have l5:q.names.length≤zL QT q.names:=by unfold zL; omega
      have e1:vU q.where_ q.where_=some true:=aNz (by omega) fun y hy=>ih.1 y (by have:=nR (z:=aZ) hy; have:=QM hy; omega) (by have:=nR (z:=aZ) hy; omega)
      have e2:vU q.items q.items=some true:=aNz (by omega) fun y hy=>ih.1 y (by have:=nR (z:=aZ) hy; have:=QM hy; omega) (by have:=nR (z:=aZ) hy; omega)
      have e3:=bQn q.tables (by omega)
      have e4:=bYb q.names (by omega)
      have e5:P7 q q 0=some true:=by
        have key:∀ i,i≤q.order.length→P7 q q (i:Nat)=some true:=by
          refine eO ?_ ?_
          · rw [P7]; simp
          · intro i hi hh
            have hy:=QF hi
            have hk:aZ q.order[i].expr=qD q.order[i]:=by generalize q.order[i]=k; obtain ⟨a,b⟩:=k; simp only [qD]
            have h1:O8 q.order[i].expr q.order[i].expr=some true:=ih.1 _ (by have:=nR (z:=qD) hy; omega) (by have:=nR (z:=qD) hy; omega)
            rw [P7]
            simp only [dD,hi,decide_true,if_true,bX hi,dX hi (by omega),QB,QA,hh,h1]
            simp [h1]
        have:=key 0 (by omega)
        simpa using this
      have e6:aB3 q q 0=some true:=by
        have key:∀ i,i≤q.on_.length→aB3 q q (i:Nat)=some true:=by
          refine eO ?_ ?_
          · rw [aB3]; simpa using e5
          · intro i hi hh
            have hy:=QF hi
            have hle:=nR (z:=zL aZ) hy
            have lk:q.on_[i].length+(q.on_[i].map aZ).sum=zL aZ q.on_[i]:=rfl
            have h1:vU q.on_[i] q.on_[i]=some true:=aNz (by omega) fun y hy=>ih.1 y (by have:=nR (z:=aZ) hy; have:=QM hy; omega) (by have:=nR (z:=aZ) hy; omega)
            rw [aB3]
            simp only [dD,hi,decide_true,if_true,bX hi,dX hi (by omega),QB,QA,hh,h1]
            simp
        have:=key 0 (by omega)
        simpa using this
      rw [aAx]
      simp [e1,e2,e3,e4,e6]
theorem cB5:aFm (aV.mk false [] [] [] [] 0) (aV.mk false [] [] [] [] 0)=some true:=by
  have e1:K6 [] []=some true:=by rw [K6,aH8]; simp
  have e2:aHt (aV.mk false [] [] [] [] 0) (aV.mk false [] [] [] [] 0) 0=some true:=by
    rw [aHt,aLk,aFu]; simp
  rw [aFm]
  simp [e1,e2]
theorem bYk {c : aP} (hc : nH c) : ∀ n : Nat, n ≤ 1048577 →
    (∀ t t',okTss c t→okTss c t'→A2 (· <+: ·) t t'→∀ e s,aZ e<n→t.length+aZ e≤1048576→Ty c (tyU c t) e s→∃ x,UE c t t' e s x) ∧
    (∀ t t',okTss c t→okTss c t'→A2 (· <+: ·) t t'→∀ p s,dY p<n→t.length+dY p+1≤1048576→TyP c (tyU c t) p s→∃ q,UQ c t t' p s q):=by
  intro n
  induction n with
  | zero=>exact fun _=>⟨fun _ _ _ _ _ e s h=>by omega,fun _ _ _ _ _ e s h=>by omega⟩
  | succ n ih =>
    intro hn
    obtain ⟨ihE,ihQ⟩:=ih (by omega)
    refine ⟨fun t t' h h' hp e s hz hl ht=>?_,fun t t' h h' hp p s hz hl ht=>?_⟩
    · by_cases k2:e.kind=2
      · exact bNy hc h h' hp (by omega) ht k2
      · refine bWt h'.1 (by omega) ht k2 (fun k hk s hs=>?_) fun p hq s hs=>?_
        · have:=aPi hk
          have:=QM hk
          exact ihE t t' h h' hp k s (by omega) (by omega) hs
        · have:=aO9 hq
          have:=QM hq
          exact ihQ t t' h h' hp p s (by omega) (by omega) hs
    · refine bVy hc (bKw hc) h h' hp (by omega) (by omega) ht fun u u' g g' gp gl e s he hs=>?_
      exact ihE u u' g g' gp e s (by omega) (by omega) hs
theorem bN1 {c:aP} (hs:aBe c) {p:aQ} (hz:dY p≤1048576) (h:aCr c p=some true):aE4 c=some true∧nH c∧dP p≤24∧sP p≤200∧∃ ts,TyP c [] p ts:=by
  obtain ⟨a,a1,a2⟩:=bEz c hs
  obtain ⟨d1,d2,d3,d4,-⟩:=bBe p hz
  unfold aCr J9 at h
  simp only [a1,d1,d3,QB,QA] at h
  cases a with
  | false=>simp at h
  | true =>
  by_cases x:dP p≤24
  · by_cases y:sP p≤200
    · have y1:¬ 200<sP p:=by omega
      simp [x,y1] at h
      cases hp:E8 c [] p with
      | none=>simp [hp] at h
      | some r =>
        obtain ⟨ts,ok⟩:=r
        cases ok with
        | false=>simp [hp] at h
        | true=>exact ⟨a1,a2.1 rfl,x,y,ts,hp⟩
    · have y1:200<sP p:=by omega
      simp [x,y1] at h
  · have x1:¬ dP p≤24:=x
    simp [x1] at h
theorem bO2 (p:List Int) (h:okL okU8 p):aK8 p=some true:=by
  unfold aK8 aOm
  simp only [QB,QA]
  by_cases hb:1048576<(p.length:Int)
  · simp [hb]
  have hp:p.length≤1048576:=by omega
  rw [if_neg (by simpa using hb)]
  obtain ⟨⟨cu,cat,pl⟩,e1,hcs,hz⟩:=bP2 p hp
  dsimp only at hcs hz
  have hD:aLj p=some (cat,pl):=by unfold aLj; rw [e1]; rfl
  rw [hD]
  simp only [QA]
  obtain ⟨b,b1,b2⟩:=bMc cat hcs pl (by omega)
  unfold aR0 aO2
  rw [b1,b2]
  cases b with
  | false=>simp [cB5]
  | true =>
  obtain ⟨c1,hc,hd,hsz,ts,hts⟩:=bN1 hcs (by omega) b1
  have ok0:okTss cat []:=⟨by simp,by simp⟩
  obtain ⟨q,hq⟩:=(bYk hc 1048577 (XA _)).2 [] [] ok0 ok0 .nil pl ts (by omega) (by simp only [QK]; omega) hts
  have q1:aD8 cat [] pl=some q:=hq.s
  have q2:aCs ⟨cat⟩ [] 0 pl=some q:=hq.i
  have q3:aBy ⟨cat,⟨0,[]⟩⟩ [] q=some (pl,ts,⟨cat,⟨0,[]⟩⟩):=hq.r []
  obtain ⟨d1,d2,d3,d4,-⟩:=bBe pl (by omega)
  have hzq:=hq.z
  have qd:D6 q=some (dP pl):=hq.sm.1.trans d2
  have qs:yQ q=some (sP pl):=hq.sm.2.trans d4
  have ok1:X7 q=some true:=by
    rw [X7,hq.rt]
    simp [qd,qs,hd,hsz]
  have ok2:aCc q=some true:=by
    obtain ⟨r,r1,r2⟩:=bMm q (by omega)
    rw [ok1] at r1
    rw [r2,← r1]
  have hR:aLb cat q=some (pl,⟨0,[]⟩):=by
    unfold aLb J9
    simp only [c1,ok2,q3,d1,d3,QB,QA,QI,beq_self_eq_true,QU,if_true,QC,if_false,F7,WB]
    simp [hd,hsz,aL9,qE]
  have hS:aAx pl pl=some true:=(cE6 _).2 pl (WG _) (by omega)
  simp [q1,q2,hR,hS,ok1]
end Go.Ab
