/- What the functions compute,in plain Lean. -/
import Derived.Test.YtpedjchcopnlmaaGreatLEvalOut0
namespace Go.Ab
open Go
open _root_.Option renaming bind_some→QA,bind_eq_bind→QB,bind_assoc→WN
open _root_.Bool renaming false_eq_true→QC,not_true→QF,and_eq_true→QJ,eq_iff_iff→QO,and_self→WE,or_self→WO,not_false→WW,true_and→WX,false_or→WY,eq_false_iff→XH,and_false→XI,true_eq_false→XJ
open _root_.List renaming length_singleton→QD,drop_eq_getElem_cons→QE,getElem_mem→QG,nil_append→QI,length_append→QK,zipWith→QL,mem_append→QM,map_cons→QN,length_nil→QP,length_pos_of_mem→QQ,drop_zero→QR,length_cons→QT,mem_cons→QU,mem_cons_of_mem→QV,length_map→QW,map_nil→QX,mem_flatMap→QZ,append_assoc→WA,singleton_append→WB,drop_length→WC,zipWith_cons_cons→WF,map_map→WG,mem_map→WH,append_nil→WI,length_take→WJ,eq_nil_of_length_eq_zero→WK,sum_cons→WL,map_append→WP,sum_nil→WQ,getElem?_append_left→WR,flatMap_cons→WT,getElem!_eq_getElem?_getD→WU,length_zipWith→WZ,mem_map_of_mem→XA,take_add_one→XB,getElem?_eq_getElem→XC,take_length→XD,zipWith_nil_left→XK,all_eq_true→XL,getElem_map→XM,take_subset→XN,set_cons_zero→XO,length→XP,getElem?_append_right→XQ
open Go.IntKind renaming wrap→QH
open _root_.Nat renaming le_trans→QS,lt_succ_self→QY,lt_irrefl→WD,le_refl→WS,zero_add→WV,one_mul→XF,pow_le_pow_right→XG,succ_mul→XS,sub_self→XT
open _root_.Int renaming toNat_natCast→WM,lt_irrefl→XR
theorem aCc {α β γ:Type} (f:α→β) (g:β→γ×Int):∀ l:List α,bH g (l.map f)=bH (fun x=>g (f x)) l
  | []=>rfl
  | x::l=>by simp only [QN,bH,aCc f g l]
theorem aIt {α β:Type} {g:α→β×Int}:∀ {l:List α},(bH g l).2=0→(bH g l).1.length=l.length
  | [],_=>rfl
  | x::l,h=>by
    rw [bH] at h ⊢
    by_cases h1:(g x).2=0
    · by_cases h2:(bH g l).2=0
      · simp [h1,h2,aIt h2]
      · simp [h1,h2] at h
    · simp [h1] at h
theorem aHv {α β:Type} {g:α→β×Int} (l:List α):(bH g l).1.length≤l.length:=by
  by_cases h:(bH g l).2=0
  · rw [aIt h]; exact WS _
  · cases l with
    | nil=>simp [bH]
    | cons x l =>
      rw [bH] at h ⊢
      by_cases h1:(g x).2=0
      · by_cases h2:(bH g l).2=0
        · simp [h1,h2] at h
        · simp [h1,h2]
      · simp [h1]
theorem aG8 {α β:Type} {g:α→β×Int}:∀ {l:List α} {y:β},y∈(bH g l).1→∃ x∈l,y=(g x).1∧(g x).2=0
  | [],y,h=>by simp [bH] at h
  | x::l,y,h=>by
    rw [bH] at h
    by_cases h1:(g x).2=0
    · by_cases h2:(bH g l).2=0
      · simp only [h1,h2,ne_eq,not_true_eq_false,if_false,QU] at h
        rcases h with rfl | h
        · exact ⟨x,by simp,rfl,h1⟩
        · obtain ⟨z,hz,e⟩:=aG8 h
          exact ⟨z,QV _ hz,e⟩
      · simp [h1,h2] at h
    · simp [h1] at h
abbrev Sb (c:aR) (d:GDb) (env:Rows) (k:bF):nL:=nL.mk (bZ.mk c d env k.expr) k.desc
theorem cAq (l:List aX) (hl:l.length≤1048576):∀ i,i≤l.length→∀ acc:Rows,acc.length≤i→aB0 l acc (i:Nat)=some (acc++(l.drop i).map (·.row),0):=by
  refine dZ ?_ ?_
  · intro acc _
    rw [aB0]; simp
  · intro i hi ih acc ha
    rw [aB0]
    simp only [dN,hi,decide_true,if_true,bP hi,QB,QA]
    rw [uF (by simp only [QD]; omega)]
    simp only [QA]
    rw [dR hi (by omega),ih _ (by simp only [QK,QD]; omega),QE hi]
    simp only [QN,WA,WB]
abbrev qM (ev:aB→Gf) (ks:List bF) (r:Row1):Row1×Int:=bH (fun k:bF=>ev k.expr r) ks
theorem bUm {N:Nat} (hN:N≤1048576) (hS:aD5 N) {P:Row1→Prop} {c:aR} {d:GDb} {env:Rows} {ev:aB→Gf} {ks:List bF} {x:eX} (hx:x.order=ks.map (Sb c d env)) (hk:ks.length≤1048576)
    (H:∀ k∈ks,∀ r,P r→oZ r c d env k.expr=some (ev k.expr r)) {rows:Rows} (hr:rows.length≤N) (hP:∀ r∈rows,P r) :
    ∀ i,i≤rows.length→∀ b:List aX,b.length=i→KL ks.length b→U5 rows x (i:Nat) b =
      if (bH (qM ev ks) (rows.drop i)).2≠0 then some ([],(bH (qM ev ks) (rows.drop i)).2)
      else some ((nG (kLt (ks.map (·.desc))) [] (b++QL aX.mk (rows.drop i) (bH (qM ev ks) (rows.drop i)).1)).map (·.row),0):=by
  have ho:x.order.length=ks.length:=by rw [hx,QW]
  have hd:x.order.map (·.desc)=ks.map (·.desc):=by rw [hx,WG]; rfl
  refine dZ ?_ ?_
  · intro b hb hK
    rw [U5]
    simp only [dN,WD,decide_false,QC,if_false,WC,bH,ne_eq,not_true_eq_false,XK,WI,QB]
    rw [hS x b (by omega) (by omega) (fun k hk=>by rw [ho]; exact hK k hk)]
    simp only [QA]
    have hl:(nG (kLt (x.order.map (·.desc))) [] b).length=b.length:=by simpa using (aGz (kLt (x.order.map (·.desc))) b []).length_eq
    have:=cAq (nG (kLt (x.order.map (·.desc))) [] b) (by omega) 0 (by omega) [] (by simp)
    rw [hd] at this
    simpa [hd] using this
  · intro i hi ih b hb hK
    rw [U5,bP hi,QE hi]
    simp only [dN,hi,decide_true,if_true,QB,QA,bH]
    have hPr:=hP _ (QG hi)
    have m:=aDh (p:=x.order) (b:=32) (g:=fun k=>ev k.eval.c3 rows[i]) (F:=fun y3=>oZ rows[i] y3.eval.c0 y3.eval.c1 y3.eval.c2 y3.eval.c3)
      (L:=fun acc j=>aC5 rows[i] rows (i:Int) x b acc j) (E:=fun e=>([],e)) (K:=fun acc=>(appG 48 b ([(aX.mk rows[i] acc)]:List aX))>>=fun (y6:List aX)=>U5 rows x (QH .i64 ((i:Int)+1)) y6)
      (by omega) (by omega) (fun k hk=>by
        rw [hx] at hk
        obtain ⟨q,hq,rfl⟩:=WH.1 hk
        exact H q hq _ hPr) (fun j acc=>by rw [aC5]) [] (by simp)
    rw [m,hx,aCc]
    simp only [QI]
    by_cases h0:(bH (fun k:bF=>ev k.expr rows[i]) ks).2=0
    · have hkl:=aIt h0
      have ea:appG 48 b [aX.mk rows[i] (bH (fun k:bF=>ev k.expr rows[i]) ks).1]=some (b++[aX.mk rows[i] (bH (fun k:bF=>ev k.expr rows[i]) ks).1]):=jX (by simp only [QD]; omega)
      simp only [qM,h0,ne_eq,not_true_eq_false,if_false,ea,QB,QA]
      rw [dR hi (by omega),ih _ (by simp [hb]) (fun k hk=>by
        rcases QM.1 hk with hk | hk
        · exact hK k hk
        · simp at hk; subst hk; exact hkl)]
      by_cases h1:(bH (qM ev ks) (rows.drop (i+1))).2=0
      · simp only [h1,ne_eq,not_true_eq_false,if_false,WF,WA,WB]
      · simp [h1]
    · simp [h0,qM]
theorem bOc {N:Nat} (hN:N≤1048576) (hS:aD5 N) {P:Row1→Prop} {c:aR} {d:GDb} {env:Rows} {ev:aB→Gf} {ks:List bF} {x:eX} (hx:x.order=ks.map (Sb c d env)) (hk:ks.length≤1048576)
    (H:∀ k∈ks,∀ r,P r→oZ r c d env k.expr=some (ev k.expr r)) {rows:Rows} (hr:rows.length≤N) (hP:∀ r∈rows,P r) :
    aHm x rows=some (kT (ks.map fun k=>(ev k.expr,k.desc)) rows):=by
  have:=bUm hN hS hx hk H hr hP 0 (by omega) [] rfl (fun k hk=>by simp at hk)
  rw [show ((0:Nat):Int)=0 from rfl] at this
  rw [aHm,this]
  unfold kT
  have e:(fun row:Row1=>bH (fun k:Gf×Bool=>k.1 row) (ks.map fun k=>(ev k.expr,k.desc)))=qM ev ks:=by
    funext row; rw [aCc]
  have e2:(ks.map fun k=>(ev k.expr,k.desc)).map (·.2)=ks.map (·.desc):=by rw [WG]; rfl
  rw [e,e2,QR,QI]
  split <;> rfl
theorem bU6 {P:Row1→Prop} {c:aR} {d:GDb} {env:Rows} {ev:aB→Gf} {l:List aB} (hl:l.length≤1048576) (H:∀ e∈l,∀ r,P r→oZ r c d env e=some (ev e r)) {r:Row1} (hr:P r) :
    aF5 r (l.map (bZ.mk c d env))=some (bH (fun e=>ev e r) l):=by
  have m:=aDh (p:=l.map (bZ.mk c d env)) (b:=32) (g:=fun k=>ev k.c3 r) (F:=fun y1=>oZ r y1.c0 y1.c1 y1.c2 y1.c3)
    (L:=fun acc j=>aEk r (l.map (bZ.mk c d env)) acc j) (E:=fun e=>([],e)) (K:=fun acc=>some (acc,0)) (by simpa using hl) (by omega) (fun k hk=>by
      obtain ⟨q,hq,rfl⟩:=WH.1 hk
      exact H q hq _ hr) (fun j acc=>by rw [aEk]) [] (by simp)
  rw [aF5,aNu,m,aCc]
  by_cases h0:(bH (fun e=>ev e r) l).2=0
  · simp only [h0,ne_eq,not_true_eq_false,if_false,QI,QB,QA]
    rw [← h0]
  · have e:(bH (fun e=>ev e r) l).1=[]:=by
      cases l with
      | nil=>simp [bH] at h0
      | cons x l =>
        rw [bH] at h0 ⊢
        by_cases h1:(ev x r).2=0
        · by_cases h2:(bH (fun e=>ev e r) l).2=0
          · simp [h1,h2] at h0
          · simp [h1,h2]
        · simp [h1]
    simp only [h0,ne_eq,not_false_eq_true,if_true,QB,QA]
    rw [← e]
theorem cA8 (a b:Row1) (ha:a.length≤1048576):aHh a b=some (decide (a=b)):=by
  unfold aHh
  by_cases hl:a.length=b.length
  · have key:∀ i,i≤a.length→aAc a b (i:Nat)=some (decide (a.drop i=b.drop i)):=by
      refine dZ ?_ ?_
      · rw [aAc]
        rw [WC,hl,WC]; simp
      · intro i hi ih
        have hb:i<b.length:=by omega
        rw [aAc]
        simp only [dN,hi,decide_true,if_true,bP hi,bP hb,QB,QA]
        rw [dR hi (by omega),ih,QE hi,QE hb]
        have e:=aTt a[i] b[i]
        unfold aLx at e
        by_cases h:a[i]=b[i]
        · rw [if_neg (by rw [e.2 h]; decide),h]; simp only [List.cons.injEq,true_and]
        · rw [if_pos (by rw [XH.2 (fun h'=>h (e.1 h'))]; rfl)]; simp only [List.cons.injEq,h,false_and,decide_false]
    have:=key 0 (by omega)
    simp only [QR] at this
    rw [if_neg (by simp; omega)]
    exact this
  · have:a≠b:=fun e=>hl (by rw [e])
    rw [if_pos (by simp; omega)]
    simp [this]
theorem bUb (o:Rows) (y:Row1) (ho:o.length≤1048576) (hy:y.length≤1048576):aHt o y=some (decide (y∈o)):=by
  have key:∀ i,i≤o.length→∃ n,aAo o y (i:Nat)=some n∧decide (0≤n)=decide (y∈o.drop i):=by
    refine dZ ?_ ?_
    · refine ⟨-1,?_,?_⟩
      · rw [aAo]; simp
      · simp
    · intro i hi ⟨n,h1,h2⟩
      rw [aAo]
      simp only [dN,hi,decide_true,if_true,bP hi,QB,QA,aP8,cA8 y _ hy,dR hi (show o.length≤4611686018427387904 by omega)]
      rw [QE hi]
      by_cases h:y=o[i]
      · refine ⟨i,by simp [h],?_⟩
        rw [decide_eq_true (show (0:Int)≤i by omega),decide_eq_true (by rw [← h]; simp)]
      · refine ⟨n,?_,?_⟩
        · rw [if_neg (by simp [h])]; exact h1
        · rw [h2]; simp only [QU,h,false_or]
  obtain ⟨n,h1,h2⟩:=key 0 (by omega)
  unfold aHt aNb
  rw [show ((0:Nat):Int)=0 from rfl] at h1
  rw [h1]
  simpa using h2
theorem bZm (r:Row1) (h:r.length≤1048576):aKp r=some r:=by
  unfold aKp
  split
  · rename_i e
    simp only [decide_eq_true_eq] at e
    have:r=[]:=WK (by omega)
    rw [this]
  · rw [jX (by simp only [QP]; omega)]; rfl
theorem bPu (p:Rows) (hp:p.length≤1048576) (hr:∀ y∈p,y.length≤1048576):aE7 p=some (nA [] p):=by
  have key:∀ i,i≤p.length→∀ acc:Rows,acc.length≤i→aCi p acc (i:Nat)=some (nA acc (p.drop i)):=by
    refine dZ ?_ ?_
    · intro acc _
      rw [aCi]; simp [nA]
    · intro i hi ih acc ha
      have hy:=hr _ (QG hi)
      rw [aCi]
      simp only [dN,hi,decide_true,if_true,bP hi,QB,QA,bUb acc _ (by omega) hy,bZm _ hy]
      rw [QE hi,nA]
      by_cases h:p[i]∈acc
      · simp only [h,decide_true,QF,QC,if_false,if_true]
        rw [aBm,dR hi (by omega)]
        exact ih acc (by omega)
      · simp only [h,decide_false,WW,if_true,if_false]
        rw [uF (by simp only [QD]; omega)]
        simp only [QA]
        rw [aBm,dR hi (by omega)]
        exact ih _ (by simp only [QK,QD]; omega)
  unfold aE7
  simpa using key 0 (by omega) [] (by simp)
theorem aKg:∀ (l o:Rows),(nA o l).length≤o.length+l.length
  | [],o=>by simp [nA]
  | x::l,o=>by
    rw [nA]
    split
    · have:=aKg l o; simp; omega
    · have:=aKg l (o++[x]); simp at this ⊢; omega
theorem bBw (n:Int) (r:Rows) (hr:r.length≤1048576):((some (if (decide (0≤n))=true then (decide (n<(r.length:Int))) else false))>>=fun (y8:Bool)=>if y8=true then ((jA r 0 n)>>=fun (y9:List (List aA))=>some (y9,(0:Int))) else (some (r,0)))=some (aG1 n r,0):=by
  unfold aG1
  simp only [QB,QA]
  by_cases h0:0≤n
  · by_cases h1:n<(r.length:Int)
    · obtain ⟨m,rfl⟩:∃ m:Nat,n=m:=⟨n.toNat,by omega⟩
      have:m≤r.length:=by omega
      simp [h0,h1,aFl this]
    · simp [h0,h1]
  · simp [h0]
theorem bT5 {x:eX} (r:Rows) (hr:r.length≤1048576) (hl:∀ y∈r,y.length≤1048576):(if x.distinct=true then ((aE7 r)>>=fun (y6:List (List aA))=>yO x y6) else (yO x r))=some (P6 x.distinct x.limit r,0):=by
  have J:∀ y:Rows,y.length≤1048576→yO x y=some (aG1 x.limit y,0):=fun y hy=>by
    unfold yO aHi
    exact bBw x.limit y hy
  unfold P6
  by_cases hd:x.distinct=true
  · rw [if_pos hd,if_pos hd,bPu r hr hl]
    exact J _ (by have:=aKg r []; simp at this; omega)
  · rw [if_neg hd,if_neg hd]; exact J r hr
theorem bJx {N:Nat} (hS:aD5 N) {c:aR} {d:GDb} {env:Rows} {ev:aB→Gf} {x:eX} {l:List (List aB)} {w it:List aB} {ks:List bF} {R:Nat} (hN:N≤1048576) (R1:1≤R)
    (ho:x.on_=l.map fun l=>l.map (bZ.mk c d env)) (hw:x.where_=w.map (bZ.mk c d env)) (hx:x.order=ks.map (Sb c d env)) (hi:x.items=⟨it.map (bZ.mk c d env)⟩)
    (hlt:l.length=x.tables.length) (hl:∀ y∈l,y.length≤1048576) (hwl:w.length≤1048576) (hkl:ks.length≤1048576) (hil:it.length≤1048576) (t3:x.tables.length≤3)
    (hR:∀ t∈x.tables,t.length≤R) (hRN:R ^ x.tables.length≤N) (hB:∀ t∈x.tables,∀ r∈t,eO 1 r)
    (H:∀ e,(e∈w∨(∃ y∈l,e∈y)∨(∃ k∈ks,e=k.expr)∨e∈it)→∀ r,eO 3 r→oZ r c d env e=some (ev e r)) :
    aBd x=some (aFs ⟨QL (fun t l=>(t,l.map ev)) x.tables l,w.map ev,ks.map fun k=>(ev k.expr,k.desc),it.map ev,x.distinct,x.limit⟩):=by
  have j:=bTp hN R1 ho hw hlt hl hwl t3 hR hRN hB (fun e he=>H e (he.elim .inl fun h=>.inr (.inl h))) 0 (by omega) [[]] (by simp) (fun r hr=>by simp at hr; subst hr; exact ⟨by simp,by simp⟩)
  rw [show ((0:Nat):Int)=0 from rfl,QR,QR] at j
  rw [aBd,aOt,j]
  unfold aFs
  dsimp only
  have js:(QL (fun (t:Rows) (l:List aB)=>(t,l.map ev)) x.tables l).length=x.tables.length:=by simp [hlt]
  have jm:∀ (T:List Rows) (L:List (List aB)),∀ s∈QL (fun (t:Rows) (l:List aB)=>(t,l.map ev)) T L,s.1∈T:=by
    intro T
    induction T with
    | nil=>intro L s hs; simp at hs
    | cons t T ih =>
      intro L s hs
      cases L with
      | nil=>simp at hs
      | cons y L =>
        rw [WF,QU] at hs
        rcases hs with rfl | hs
        · simp
        · exact QV _ (ih L s hs)
  have jl:=aNc R (QL (fun (t:Rows) (l:List aB)=>(t,l.map ev)) x.tables l) [[]] 1 (fun s hs=>hR _ (jm _ _ s hs)) (by simp)
  have jB:=aL0 (QL (fun (t:Rows) (l:List aB)=>(t,l.map ev)) x.tables l) [[]] 0 (fun s hs=>hB _ (jm _ _ s hs)) (fun r hr=>by simp at hr; subst hr; exact ⟨by simp,by simp⟩)
  rw [js,XF] at jl
  rw [js,WV] at jB
  generalize joE (QL (fun (t:Rows) (l:List aB)=>(t,l.map ev)) x.tables l) [[]]=J at jl jB ⊢
  obtain ⟨J1,J2⟩:=J
  dsimp only at jl jB ⊢
  by_cases h0:J2=0
  · subst h0
    have wl:=aGe (w.map ev) J1
    have wB:∀ r∈(whE (w.map ev) J1).1,eO 3 r:=fun r hr=>F3 t3 (jB r ((yK _ _).subset hr))
    simp only [ne_eq,not_true_eq_false,if_false,QB,QA]
    generalize whE (w.map ev) J1=W at wl wB ⊢
    obtain ⟨W1,W2⟩:=W
    dsimp only at wl wB ⊢
    by_cases h1:W2=0
    · subst h1
      simp only [decide_true,QF,QC,if_false]
      rw [bOc hN hS hx hkl (fun k hk r hr=>H k.expr (.inr (.inr (.inl ⟨k,hk,rfl⟩))) r hr) (QS wl (QS jl hRN)) wB]
      simp only [QA]
      have sl:(kT (ks.map fun k=>(ev k.expr,k.desc)) W1).1.length≤W1.length:=by
        unfold kT
        split
        · simp
        · rw [QW,(aGz _ _ _).length_eq]
          simp only [QI,WZ]
          omega
      have sB:∀ r∈(kT (ks.map fun k=>(ev k.expr,k.desc)) W1).1,eO 3 r:=by
        unfold kT
        split
        · simp
        · intro r hr
          obtain ⟨k,hk,rfl⟩:=WH.1 hr
          have hk2:=(aGz _ _ _).subset hk
          rw [QI] at hk2
          have:∀ (A B:List Row1) (k:aX),k∈QL aX.mk A B→k.row∈A:=by
            intro A
            induction A with
            | nil=>intro B k hk; simp at hk
            | cons a A ih =>
              intro B k hk
              cases B with
              | nil=>simp at hk
              | cons b B =>
                rw [WF,QU] at hk
                rcases hk with rfl | hk
                · simp
                · exact QV _ (ih B k hk)
          exact wB _ (this _ _ _ hk2)
      generalize kT (ks.map fun k=>(ev k.expr,k.desc)) W1=S at sl sB ⊢
      obtain ⟨S1,S2⟩:=S
      dsimp only at sl sB ⊢
      by_cases h2:S2=0
      · subst h2
        simp only [decide_true,QF,QC,if_false]
        have sN:S1.length≤1048576:=by omega
        have m:=aDh (p:=S1) (b:=24) (g:=fun row=>bH (fun e=>ev e row) it) (F:=fun y3=>aF5 y3 x.items.c0)
          (L:=fun acc j=>aFi (S1,0) x acc j) (E:=fun e=>([],e)) (K:=fun acc=>if x.distinct=true then ((aE7 acc)>>=fun (y6:List (List aA))=>yO x y6) else (yO x acc))
          sN (by omega) (fun r hr=>by rw [hi]; exact bU6 hil (fun e he r hr=>H e (.inr (.inr (.inr he))) r hr) (sB r hr)) (fun j acc=>by rw [aFi]) [] (by simp)
        rw [m]
        have e:oO (it.map ev) S1=bH (fun row=>bH (fun e=>ev e row) it) S1:=by
          unfold oO
          congr 1
          funext row
          rw [aCc]
        rw [e]
        have ml:=aHv (g:=fun row=>bH (fun e=>ev e row) it) S1
        have mm:∀ y∈(bH (fun row=>bH (fun e=>ev e row) it) S1).1,y.length≤1048576:=by
          intro y hy
          obtain ⟨r,_,rfl,_⟩:=aG8 hy
          exact QS (aHv _) hil
        generalize bH (fun row=>bH (fun e=>ev e row) it) S1=M at ml mm ⊢
        obtain ⟨M1,M2⟩:=M
        dsimp only at ml mm ⊢
        by_cases h3:M2=0
        · subst h3
          simp only [ne_eq,not_true_eq_false,if_false,QI]
          exact bT5 M1 (by omega) mm
        · simp [h3]
      · simp [h2]
    · simp [h1]
  · simp [h0]
def mQ (d:GDb) (l:List Int):Bool:=l.all fun i=>decide (0≤i)&&decide (i<(d.tables.length:Int))
def uU (d:GDb) (ev:aB→Gf) (p:aQ):Rows×Int:=if (p.tables.length=0∨p.on_.length≠p.tables.length)∨mQ d p.tables=false then ([],4) else aFs (iJ d ev p)
theorem bM4 {c:aR} {d:GDb} {env:Rows} {p:aQ} {b0:List Rows} {b1:List (List bZ)} {w:List bZ} (ho:p.order.length≤1048576) (hi:p.items.length≤1048576) :
    ∀ i,i≤p.order.length→∀ acc:List nL,acc.length≤i→aCw c d env p b0 b1 (w,(i:Nat),acc)=aBd (eX.mk b0 b1 w (acc++(p.order.drop i).map (Sb c d env)) ⟨p.items.map (bZ.mk c d env)⟩ p.distinct p.limit):=by
  refine dZ ?_ ?_
  · intro acc _
    rw [aCw,aN6 c d env p.items hi]
    simp only [dN,WD,decide_false,QC,if_false,QB,QA,WC,QX,WI]
    generalize aBd _=q
    cases q <;> rfl
  · intro i h ih acc ha
    rw [aCw,QE h]
    simp only [dN,h,decide_true,if_true,bP h,QB,QA]
    rw [aN6 c d env [p.order[i].expr] (by simp)]
    simp only [QA,QN,QX]
    have e:idx [bZ.mk c d env p.order[i].expr] 0=some (bZ.mk c d env p.order[i].expr):=rfl
    rw [e]
    simp only [QA]
    rw [jX (by simp only [QD]; omega)]
    simp only [QA]
    rw [dR h (by omega),ih _ (by simp only [QK,QD]; omega)]
    simp only [WA,WB]
theorem bJb {c:aR} {d:GDb} {env:Rows} {p:aQ} {b0:List Rows} (hn:p.on_.length≤1048576) (hn1:∀ l∈p.on_,l.length≤1048576) (hw:p.where_.length≤1048576) (ho:p.order.length≤1048576) (hi:p.items.length≤1048576) :
    ∀ i,i≤p.on_.length→∀ acc:List (List bZ),acc.length≤i→Z7 c d env p b0 (i:Nat) acc=aBd (eX.mk b0 (acc++(p.on_.drop i).map fun l=>l.map (bZ.mk c d env)) (p.where_.map (bZ.mk c d env)) (p.order.map (Sb c d env)) ⟨p.items.map (bZ.mk c d env)⟩ p.distinct p.limit):=by
  refine dZ ?_ ?_
  · intro acc _
    rw [Z7,aN6 c d env p.where_ hw]
    simp only [dN,WD,decide_false,QC,if_false,QB,QA,WC,QX,WI]
    have:=bM4 (c:=c) (d:=d) (env:=env) (b0:=b0) (b1:=acc) (w:=p.where_.map (bZ.mk c d env)) ho hi 0 (by omega) [] (by simp)
    rw [show ((0:Nat):Int)=0 from rfl,QR,QI] at this
    exact this
  · intro i h ih acc ha
    rw [Z7,QE h]
    simp only [dN,h,decide_true,if_true,bP h,QB,QA]
    rw [aN6 c d env _ (hn1 _ (QG h))]
    simp only [QA]
    rw [jX (by simp only [QD]; omega)]
    simp only [QA]
    rw [dR h (by omega),ih _ (by simp only [QK,QD]; omega)]
    simp only [QN,WA,WB]
theorem aY2 {d:GDb} {i:Int} (h0:0≤i) (h1:i<(d.tables.length:Int)):∃ t,idx d.tables i=some t∧t.rows=rowsOf d i∧t∈d.tables:=by
  obtain ⟨n,rfl⟩:∃ n:Nat,i=n:=⟨i.toNat,by omega⟩
  have hn:n<d.tables.length:=by omega
  refine ⟨d.tables[n],bP hn,?_,QG hn⟩
  unfold rowsOf
  simp [hn]
theorem bUs {c:aR} {d:GDb} {env:Rows} {p:aQ} (ht:p.tables.length≤1048576) :
    ∀ i,i≤p.tables.length→∀ acc:List Rows,acc.length≤i→aDt p c d env (i:Nat) acc=if mQ d (p.tables.drop i)=true then Z7 c d env p (acc++(p.tables.drop i).map (rowsOf d)) 0 [] else some ([],4):=by
  refine dZ ?_ ?_
  · intro acc _
    rw [aDt]
    simp [mQ]
  · intro i h ih acc ha
    rw [aDt,QE h]
    simp only [dN,h,decide_true,if_true,bP h,QB,QA,orB]
    have e:mQ d (p.tables[i]::p.tables.drop (i+1))=((decide (0≤p.tables[i])&&decide (p.tables[i]<(d.tables.length:Int)))&&mQ d (p.tables.drop (i+1))):=rfl
    by_cases h0:p.tables[i]<0
    · have:¬ 0≤p.tables[i]:=by omega
      rw [if_neg (show ¬ mQ d (p.tables[i]::p.tables.drop (i+1))=true by rw [e]; simp [this])]; simp [h0]
    · by_cases h1:(d.tables.length:Int)≤p.tables[i]
      · have:¬ p.tables[i]<(d.tables.length:Int):=by omega
        rw [if_neg (show ¬ mQ d (p.tables[i]::p.tables.drop (i+1))=true by rw [e]; simp [this])]; simp [h1]
      · have h0':0≤p.tables[i]:=by omega
        have h1':p.tables[i]<(d.tables.length:Int):=by omega
        obtain ⟨t,e1,e2,_⟩:=aY2 h0' h1'
        simp only [e,h0,h1,h0',h1',decide_true,decide_false,Bool.or_false,QC,if_false,WX,e1,e2,QA]
        rw [jX (by simp only [QD]; omega)]
        simp only [QA]
        rw [dR h (by omega),ih _ (by simp only [QK,QD]; omega)]
        simp only [QN,WA,WB]
structure aOs (N R:Nat) (p:aQ):Prop where
  t3:p.tables.length≤3
  RN:R ^ p.tables.length≤N
  on:p.on_.length≤1048576
  on1:∀ l∈p.on_,l.length≤1048576
  wh:p.where_.length≤1048576
  ord:p.order.length≤1048576
  it:p.items.length≤1048576
structure DbB (R:Nat) (d:GDb):Prop where
  R1:1≤R
  rows:∀ t∈d.tables,t.rows.length≤R
  row:∀ t∈d.tables,∀ r∈t.rows,eO 1 r
theorem bCk {α β γ δ:Type} (f:α→β) (g:β→γ→δ):∀ (A:List α) (B:List γ),QL g (A.map f) B=QL (fun a b=>g (f a) b) A B
  | [],B=>by simp
  | a::A,[]=>by simp
  | a::A,b::B=>by simp only [QN,WF,bCk f g A B]
theorem aHd {d:GDb} {l:List Int} (h:mQ d l=true) {t:Rows} (ht:t∈l.map (rowsOf d)):∃ x∈d.tables,x.rows=t:=by
  obtain ⟨i,hi,rfl⟩:=WH.1 ht
  have:=XL.1 h i hi
  simp only [QJ,decide_eq_true_eq] at this
  obtain ⟨x,_,h2,h3⟩:=aY2 this.1 this.2
  exact ⟨x,h3,h2⟩
theorem cBj {N R:Nat} (hS:aD5 N) (hN:N≤1048576) {c:aR} {d:GDb} (hd:DbB R d) {env:Rows} {ev:aB→Gf} {p:aQ} (hp:aOs N R p)
    (H:∀ e∈fT p,∀ r,eO 3 r→oZ r c d env e=some (ev e r)):O7 c d env p=some (uU d ev p):=by
  rw [O7]
  unfold uU
  simp only [QB,QA,orB]
  by_cases h0:p.tables.length=0
  · simp [h0]
  by_cases h1:p.on_.length=p.tables.length
  case neg =>
    have:¬ (p.on_.length:Int)=(p.tables.length:Int):=by omega
    simp [h1,this]
  have e0:¬ (p.tables.length:Int)=0:=by omega
  have e1:(p.on_.length:Int)=(p.tables.length:Int):=by omega
  have t3:=hp.t3
  have k:=bUs (c:=c) (d:=d) (env:=env) (p:=p) (by omega) 0 (by omega) [] (by simp)
  rw [show ((0:Nat):Int)=0 from rfl,QR,QI] at k
  simp only [e0,e1,decide_false,decide_true,QF,WO,QC,if_false,k,h0,h1,ne_eq,not_true_eq_false,or_self,false_or]
  by_cases h2:mQ d p.tables=true
  case neg=>simp [h2]
  rw [if_pos h2,if_neg (by simp [h2])]
  have k1:=bJb (c:=c) (d:=d) (env:=env) (p:=p) (b0:=p.tables.map (rowsOf d)) hp.on hp.on1 hp.wh hp.ord hp.it 0 (by omega) [] (by simp)
  rw [show ((0:Nat):Int)=0 from rfl,QR,QI] at k1
  rw [k1]
  have r:=bJx (c:=c) (d:=d) (env:=env) (ev:=ev) hS (x:=eX.mk (p.tables.map (rowsOf d)) (p.on_.map fun l=>l.map (bZ.mk c d env)) (p.where_.map (bZ.mk c d env)) (p.order.map (Sb c d env)) ⟨p.items.map (bZ.mk c d env)⟩ p.distinct p.limit)
    (l:=p.on_) (w:=p.where_) (it:=p.items) (ks:=p.order) (R:=R) hN hd.R1 rfl rfl rfl rfl (by simpa using h1) hp.on1 hp.wh hp.ord hp.it (by simpa using t3)
    (fun t ht=>by obtain ⟨x,hx,rfl⟩:=aHd h2 ht; exact hd.rows x hx) (by simpa using hp.RN) (fun t ht=>by obtain ⟨x,hx,rfl⟩:=aHd h2 ht; exact hd.row x hx)
    (fun e he=>H e (by
      unfold fT
      rcases he with he | ⟨y,hy,he⟩ | ⟨k,hk,rfl⟩ | he
      · simp [he]
      · simp only [QM,QZ]
        exact .inl (.inl (.inl ⟨y,hy,he⟩))
      · simp only [QM,QZ]
        exact .inl (.inr ⟨k,hk,by simp⟩)
      · simp [he]))
  rw [r]
  dsimp only
  rw [bCk]
  rfl
section
variable {c:aR} {d:GDb} {env:Rows} {ev:aB→Gf}
theorem aVq (r:Row1) (hl:env.length≤4194304):aE1 r env=some (r::env):=by
  unfold aE1
  rw [jX (by simp; omega)]; rfl
theorem bL3 {x4:List aB} {x12:Int} {e:aB} (he:idx x4 x12=some e) (hl:env.length≤4194304) {x3:Rows} (h3:x3.length≤1048576) (H:∀ r∈x3,gD c d (r::env) e=some (ev e r)) :
    ∀ i,i≤x3.length→∀ acc:Rows,acc.length≤i→aC9 env x3 x4 x12 c d (acc,(i:Nat))=if (jF (ev e) (x3.drop i)).2≠0 then some ([],(jF (ev e) (x3.drop i)).2) else V4 env x4 c d (acc++(jF (ev e) (x3.drop i)).1) (QH .i64 (x12+1)):=by
  refine dZ ?_ ?_
  · intro acc _
    rw [aC9]; simp [jF]
  · intro i hi ih acc ha
    rw [aC9,QE hi]
    simp only [dN,hi,decide_true,if_true,bP hi,he,aVq _ hl,QB,QA,H _ (QG hi),bMp,jF]
    by_cases h0:(ev e x3[i]).2=0
    · simp only [h0,decide_true,QF,QC,if_false,ne_eq,not_true_eq_false]
      by_cases ht:tru (ev e x3[i]).1=true
      · rw [if_pos ht,uF (by simp only [QD]; omega)]
        simp only [QA]
        rw [aEf,dR hi (by omega),ih _ (by simp only [QK,QD]; omega)]
        by_cases h1:(jF (ev e) (x3.drop (i+1))).2=0 <;> simp [h1,ht]
      · rw [if_neg ht,aEf,dR hi (by omega),ih _ (by show acc.length≤i+1; omega)]
        by_cases h1:(jF (ev e) (x3.drop (i+1))).2=0 <;> simp [h1,ht]
    · simp [h0]
theorem bHq {P:Row1→Prop} {l:List aB} (he:env.length≤4194304) (hl:l.length≤1048576) (H:∀ e∈l,∀ r,P r→gD c d (r::env) e=some (ev e r)) (rows:Rows) (hr:rows.length≤1048576) (hP:∀ r∈rows,P r) :
    aDi c d env rows l=some (whE (l.map ev) rows):=by
  have key:∀ i,i≤l.length→∀ rows:Rows,rows.length≤1048576→(∀ r∈rows,P r)→V4 env l c d rows (i:Nat)=some (whE ((l.drop i).map ev) rows):=by
    refine dZ ?_ ?_
    · intro rows _ _
      rw [V4]; simp [whE]
    · intro i hi ih rows hr hP
      rw [V4,QE hi]
      simp only [dN,hi,decide_true,if_true,QN,whE]
      have k:=bL3 (c:=c) (d:=d) (ev:=ev) (x4:=l) (x12:=(i:Int)) (bP hi) he hr (fun r hr=>H _ (QG hi) r (hP r hr)) 0 (by omega) [] (by simp)
      rw [show ((0:Nat):Int)=0 from rfl,QR,QI] at k
      rw [k,dR hi (by omega)]
      by_cases h1:(jF (ev l[i]) rows).2=0
      · simp only [h1,ne_eq,not_true_eq_false,if_false]
        exact ih _ (QS (bDj _ _) hr) fun r hr=>hP r ((aCo _ _).subset hr)
      · simp [h1]
  rw [aDi]
  simpa using key 0 (by omega) rows hr hP
theorem bHs (r:Row1) (h:r.length≤1048576):aBo r=some r:=by
  unfold aBo
  rw [jX (by simp only [QP]; omega)]
  rfl
theorem bPa {x10:Rows} {x11:Int} {t:jR} {i:Nat} {p:aQ} (hi:i<x10.length) (ht:t.rows.length≤1048576) (ha:x10[i].length≤1048576) (hB:∀ x∈t.rows,x.length≤1048576) :
    ∀ j,j≤t.rows.length→∀ acc:Rows,acc.length+t.rows.length≤2097152+j→aDq env x10 x11 t (i:Int) c (d,p,acc,(j:Nat))=aA2 env x10 x11 t c d (p,(acc++(t.rows.drop j).map fun b=>x10[i]++b,(QH .i64 ((i:Int)+1)))):=by
  refine dZ ?_ ?_
  · intro acc _
    rw [aDq]; simp
  · intro j hj ih acc hacc
    rw [aDq]
    simp only [dN,hj,decide_true,if_true,bP hj,bP hi,bHs _ ha,QB,QA]
    rw [jX (by have:=hB _ (QG hj); omega)]
    simp only [QA]
    rw [uF (by simp only [QD]; omega)]
    simp only [QA]
    rw [dR hj (by omega),ih _ (by simp only [QK,QD]; omega),QE hj]
    simp only [QN,WA,WB]
theorem bQc {x10:Rows} {x11:Int} {t:jR} {p:aQ} (hx:x10.length * t.rows.length≤1048576) (hx4:x10.length≤1048576) (ht:t.rows.length≤1048576) (h4:∀ x∈x10,x.length≤1048576) (hB:∀ x∈t.rows,x.length≤1048576) :
    ∀ i,i≤x10.length→∀ acc:Rows,acc.length=i * t.rows.length→aA2 env x10 x11 t c d (p,acc,(i:Nat))=((idx p.on_ x11)>>=fun (y4:List aB)=>(aDi c d env (acc++nM (x10.drop i) t.rows) y4)>>=fun (y5:(List (List aA))×Int)=>if (!decide (y5.2=0))=true then (some (([]:List (List aA)),y5.2)) else (Y4 env c d p y5.1 (QH .i64 (x11+1)))):=by
  refine dZ ?_ ?_
  · intro acc _
    rw [aA2]; simp [nM]
  · intro i hi ih acc ha
    rw [aA2]
    simp only [dN,hi,decide_true,if_true]
    have hm:(i+1) * t.rows.length≤x10.length * t.rows.length:=Nat.mul_le_mul_right _ hi
    rw [XS] at hm
    have:=bPa (c:=c) (d:=d) (env:=env) (x11:=x11) (p:=p) hi ht (h4 _ (QG hi)) hB 0 (by omega) acc (by omega)
    rw [show ((0:Nat):Int)=0 from rfl] at this
    rw [this,dR hi (by omega),ih _ (by simp [ha,XS]),QE hi]
    simp only [nM,WT,WA,QR]
theorem bMv {p:aQ} {R N:Nat} (hN:N≤1048576) (hd:DbB R d) (he:env.length≤4194304) (hp:aOs N R p) (hon:p.on_.length=p.tables.length) (hT:mQ d p.tables=true)
    (H:∀ y∈p.on_,∀ e∈y,∀ r,eO 3 r→gD c d (r::env) e=some (ev e r)) :
    ∀ i,i≤p.tables.length→∀ rows:Rows,rows.length≤R ^ i→(∀ r∈rows,eO i r)→Y4 env c d p rows (i:Nat) =
      some (joE (QL (fun t l=>(rowsOf d t,l.map ev)) (p.tables.drop i) (p.on_.drop i)) rows):=by
  have R1:=hd.R1
  have t3:=hp.t3
  have pw:∀ i,i≤p.tables.length→R ^ i≤N:=fun i hi=>QS (XG R1 hi) hp.RN
  refine dZ ?_ ?_
  · intro rows hr hP
    rw [Y4]
    simp [joE]
  · intro i hi ih rows hr hP
    have hio:i<p.on_.length:=by omega
    have pi:=pw i (by omega)
    have ps:=pw (i+1) (by omega)
    have hti:=XL.1 hT _ (QG hi)
    simp only [QJ,decide_eq_true_eq] at hti
    obtain ⟨t,e1,e2,e3⟩:=aY2 hti.1 hti.2
    have ht:=hd.rows t e3
    have hcl:(nM rows t.rows).length≤R ^ (i+1):=by rw [aLb,Nat.pow_succ]; exact Nat.mul_le_mul hr ht
    have hRN1:R≤1048576:=QS (QS (by have:=XG R1 (show 1≤i+1 by omega); simpa using this) ps) hN
    rw [Y4,bP hi]
    simp only [dN,hi,decide_true,if_true,QB,QA,e1]
    have j1:=bQc (c:=c) (d:=d) (env:=env) (x11:=(i:Int)) (p:=p) (x10:=rows) (t:=t) (by rw [← aLb]; omega) (by omega) (by omega) (fun y hy=>by have:=(hP y hy).1; omega) (fun y hy=>by have:=(hd.row t e3 y hy).1; omega) 0 (by omega) [] (by simp)
    rw [show ((0:Nat):Int)=0 from rfl] at j1
    rw [j1,bP hio]
    simp only [QB,QA,QR,QI]
    have hcB:∀ r∈nM rows t.rows,eO (i+1) r:=aO4 hP (hd.row t e3)
    rw [bHq he (hp.on1 _ (QG hio)) (fun e he=>H _ (QG hio) e he) _ (by omega) (fun r hr=>F3 (by omega) (hcB r hr))]
    simp only [QA]
    rw [QE hi,QE hio,WF,joE,← e2]
    by_cases h0:(whE (p.on_[i].map ev) (nM rows t.rows)).2=0
    · simp only [h0,decide_true,QF,QC,if_false,ne_eq,not_true_eq_false]
      rw [dR hi (by omega)]
      exact ih _ (QS (aGe _ _) hcl) fun r hr=>hcB r ((yK _ _).subset hr)
    · simp [h0]
theorem bVx (ks:List bF) (hk:ks.length≤1048576) {a b:Row1} (ha:a.length=ks.length) (hb:b.length=ks.length):aLc a b ks=some (uJ (ks.map (·.desc)) a b):=by
  have key:∀ i,i≤ks.length→aCh a b ks (i:Nat)=some (uJ ((ks.map (·.desc)).drop i) (a.drop i) (b.drop i)):=by
    refine dZ ?_ ?_
    · rw [aCh,List.drop_of_length_le (l:=ks.map (·.desc)) (by simp)]; simp [uJ]
    · intro i hi ih
      have ia:i<a.length:=by omega
      have ib:i<b.length:=by omega
      have id:i<(ks.map (·.desc)).length:=by simpa using hi
      rw [aCh]
      simp only [dN,hi,decide_true,if_true,bP hi,bP ia,bP ib,QB,QA,aI4]
      rw [QE ia,QE ib,QE id,uJ]
      have hr:=bBi a[i] b[i]
      generalize vZ a[i] b[i]=o at hr ⊢
      rw [dD (n:=0 - o) (by omega) (by omega)]
      have J:∀ m:Int,aCu a b ks (i:Int) m=some (if m≠0 then decide (m<0) else uJ ((ks.map (·.desc)).drop (i+1)) (a.drop (i+1)) (b.drop (i+1))):=by
        intro m
        rw [aCu]
        by_cases hm:m=0
        · rw [if_neg (by simp [hm]),dR hi (by omega),ih,if_neg (by simp [hm])]
        · rw [if_pos (by simp [hm]),if_pos hm]
      simp only [XM,J]
      by_cases hd:ks[i].desc=true
      · simp only [hd,if_true]
        rw [Int.zero_sub]
      · simp only [hd,QC,if_false]
  unfold aLc
  simpa using key 0 (by omega)
end
section
variable {c:aR} {d:GDb} {env:Rows} {ev:aB→Gf}
theorem aRs {α:Type} {l:List α} {n:Nat} (h:n≤l.length):jA l (n:Int) (l.length:Int)=some (l.drop n):=by
  unfold jA
  rw [if_pos ⟨by omega,by omega,by omega⟩]
  simp
theorem bMx {ks:List bF} (hk:ks.length≤1048576) {rows:Rows} {i:Nat} (hi:i<rows.length) (hr:rows.length≤1048576) {mine:Row1} (hm:mine.length=ks.length) (K:List aX) (hK:KL ks.length K) (hl:K.length≤1048576) :
    ∀ n,n≤K.length→Q6 env rows ks (K.map (·.row)) (K.map (·.keys)) (i:Int) (mine,c,d,(n:Int)) =
      zM env rows ks c d ((K.take (mG (kLt (ks.map (·.desc))) ⟨rows[i],mine⟩ K n)++(⟨rows[i],mine⟩:aX)::K.drop (mG (kLt (ks.map (·.desc))) ⟨rows[i],mine⟩ K n)).map (·.row)) ((K.take (mG (kLt (ks.map (·.desc))) ⟨rows[i],mine⟩ K n)++(⟨rows[i],mine⟩:aX)::K.drop (mG (kLt (ks.map (·.desc))) ⟨rows[i],mine⟩ K n)).map (·.keys),(QH .i64 ((i:Int)+1))):=by
  have fin:∀ n,n≤K.length→((jA (K.map (·.row)) 0 (n:Int))>>=fun (y9:(List (List aA)))=>(appG 24 ([]:List (List aA)) y9)>>=fun (y10:List (List aA))=>(idx rows (i:Int))>>=fun (y11:(List aA))=>(appG 24 y10 ([y11]:List (List aA)))>>=fun (y12:List (List aA))=>(jA (K.map (·.row)) (n:Int) ((K.map (·.row)).length:Int))>>=fun (y13:(List (List aA)))=>(appG 24 y12 y13)>>=fun (y14:List (List aA))=>(jA (K.map (·.keys)) 0 (n:Int))>>=fun (y15:(List (List aA)))=>(appG 24 ([]:List (List aA)) y15)>>=fun (y16:List (List aA))=>(appG 24 y16 ([mine]:List (List aA)))>>=fun (y17:List (List aA))=>(jA (K.map (·.keys)) (n:Int) ((K.map (·.keys)).length:Int))>>=fun (y18:(List (List aA)))=>(appG 24 y17 y18)>>=fun (y19:List (List aA))=>zM env rows ks c d y14 (y19,(QH .i64 ((i:Int)+1)))) =
      zM env rows ks c d ((K.take n++(⟨rows[i],mine⟩:aX)::K.drop n).map (·.row)) ((K.take n++(⟨rows[i],mine⟩:aX)::K.drop n).map (·.keys),(QH .i64 ((i:Int)+1))):=by
    intro n hn
    have h1:n≤(K.map (·.row)).length:=by simpa using hn
    have h2:n≤(K.map (·.keys)).length:=by simpa using hn
    have l1:(K.map (·.row)).length=K.length:=by simp
    have l2:(K.map (·.keys)).length=K.length:=by simp
    rw [aFl h1,aRs h1,aFl h2,aRs h2,bP hi]
    simp only [QB,QA]
    have t1:((K.map (·.row)).take n).length≤K.length:=by simp; omega
    have t2:((K.map (·.keys)).take n).length≤K.length:=by simp; omega
    have d1:((K.map (·.row)).drop n).length≤K.length:=by simp
    have d2:((K.map (·.keys)).drop n).length≤K.length:=by simp
    rw [uF (by simp only [QP]; omega),uF (l:=[]) (by simp only [QP]; omega)]
    simp only [QA,QI]
    rw [uF (by simp only [QD]; omega)]
    simp only [QA]
    rw [uF (by simp only [QK,QD]; omega)]
    simp only [QA]
    rw [uF (by simp only [QD]; omega)]
    simp only [QA]
    rw [uF (by simp only [QK,QD]; omega)]
    simp only [QA,WP,QN,List.map_take,List.map_drop,WA,WB]
  intro n
  induction n with
  | zero =>
    intro hn
    rw [Q6]
    have:=fin 0 hn
    simp only [QB] at this
    simp only [mG,show ((0:Nat):Int)=0 from rfl,XR,decide_false,XI,QC,if_false,QB,QA,beq_iff_eq] at this ⊢
    exact this
  | succ n ih =>
    intro hn
    have hn':n<K.length:=by omega
    have hn2:n<(K.map (·.keys)).length:=by simpa using hn'
    rw [Q6]
    have hp:decide ((0:Int)<((n+1:Nat):Int))=true:=by rw [decide_eq_true_eq]; omega
    have ew:QH .i64 (((n+1:Nat):Int) - 1)=(n:Int):=by rw [dD] <;> omega
    have eb:=getElem!_pos K n hn'
    simp only [hp,beq_self_eq_true,WE,if_true,ew,bP hn2,QB,QA,XM]
    rw [bVx ks hk hm (hK _ (QG hn'))]
    simp only [QA]
    rw [mG,eb]
    have e:kLt (ks.map (·.desc)) ⟨rows[i],mine⟩ K[n]=uJ (ks.map (·.desc)) mine K[n].keys:=rfl
    by_cases h:uJ (ks.map (·.desc)) mine K[n].keys=true
    · rw [if_pos h,e,if_pos h]
      exact ih (by omega)
    · rw [if_neg h,e,if_neg h]
      have:=fin (n+1) hn
      simp only [QB] at this
      exact this
theorem bRm {ks:List bF} (hk:ks.length≤1048576) (he:env.length≤4194304) {P:Row1→Prop} (H:∀ k∈ks,∀ r,P r→gD c d (r::env) k.expr=some (ev k.expr r)) {rows:Rows} (hr:rows.length≤1048576) (hP:∀ r∈rows,P r) :
    ∀ i,i≤rows.length→∀ K:List aX,K.length=i→KL ks.length K→zM env rows ks c d (K.map (·.row)) (K.map (·.keys),(i:Nat)) =
      if (bH (qM ev ks) (rows.drop i)).2≠0 then some ([],(bH (qM ev ks) (rows.drop i)).2)
      else some ((nG (kLt (ks.map (·.desc))) K (QL aX.mk (rows.drop i) (bH (qM ev ks) (rows.drop i)).1)).map (·.row),0):=by
  refine dZ ?_ ?_
  · intro K _ _
    rw [zM]
    simp [bH,nG]
  · intro i hi ih K hKl hK
    rw [zM,QE hi]
    simp only [dN,hi,decide_true,if_true,bH]
    have hPr:=hP _ (QG hi)
    have m:=aDh (p:=ks) (b:=32) (g:=fun k=>ev k.expr rows[i]) (F:=fun y3=>gD c d (rows[i]::env) y3.expr)
      (L:=fun acc j=>aGx env rows ks (K.map (·.row)) (K.map (·.keys)) (i:Int) (c,d,acc,j)) (E:=fun e=>([],e)) (K:=fun acc=>Q6 env rows ks (K.map (·.row)) (K.map (·.keys)) (i:Int) (acc,c,d,((K.map (·.row)).length:Int)))
      hk (by omega) (fun k hk=>H k hk _ hPr) (fun j acc=>by
        rw [aGx]
        simp only [bP hi,aVq _ he,QB,QA]) [] (by simp)
    rw [m]
    simp only [QI]
    by_cases h0:(bH (fun k:bF=>ev k.expr rows[i]) ks).2=0
    · have hkl:=aIt h0
      simp only [qM,h0,ne_eq,not_true_eq_false,if_false]
      have hl:(K.map (·.row)).length=K.length:=by simp
      rw [hl,bMx hk hi hr hkl K hK (by omega) K.length (WS _)]
      have ei:(K.take (mG (kLt (ks.map (·.desc))) ⟨rows[i],(bH (fun k:bF=>ev k.expr rows[i]) ks).1⟩ K K.length)++(⟨rows[i],(bH (fun k:bF=>ev k.expr rows[i]) ks).1⟩:aX)::K.drop (mG (kLt (ks.map (·.desc))) ⟨rows[i],(bH (fun k:bF=>ev k.expr rows[i]) ks).1⟩ K K.length))=C8 (kLt (ks.map (·.desc))) ⟨rows[i],(bH (fun k:bF=>ev k.expr rows[i]) ks).1⟩ K:=rfl
      rw [ei,dR hi (by omega),ih _ (by rw [bAz,hKl]) (fun k hk=>by
        have:=(aUy _ _ _).subset hk
        rcases QU.1 this with rfl | hk
        · exact hkl
        · exact hK k hk)]
      by_cases h1:(bH (qM ev ks) (rows.drop (i+1))).2=0
      · simp only [h1,ne_eq,not_true_eq_false,if_false,WF,nG]
      · simp [h1]
    · simp [h0,qM]
theorem bZu (r:Rows):bH (qM ev []) r=(r.map fun _=>[],0):=by
  induction r with
  | nil=>rfl
  | cons x r ih=>rw [bH,ih]; simp [qM,bH]
theorem bJd (r:Rows):kT [] r=(r,0):=by
  unfold kT
  have e:(fun row:Row1=>bH (fun k:Gf×Bool=>k.1 row) [])=qM (fun _ _=>(⟨0,0,[]⟩,0)) []:=by
    funext row; rfl
  rw [e,bZu]
  simp only [ne_eq,not_true_eq_false,if_false,QX]
  rw [bE9 _ (fun a b=>by simp [kLt,uJ])]
  congr 1
  simp only [QI]
  induction r with
  | nil=>rfl
  | cons x r ih=>simp only [QN,WF,List.cons.injEq,true_and]; exact ih
theorem bZg {ks:List bF} (hk:ks.length≤1048576) (he:env.length≤4194304) {P:Row1→Prop} (H:∀ k∈ks,∀ r,P r→gD c d (r::env) k.expr=some (ev k.expr r)) {rows:Rows} (hr:rows.length≤1048576) (hP:∀ r∈rows,P r) :
    aJb c d env rows ks=some (kT (ks.map fun k=>(ev k.expr,k.desc)) rows):=by
  have:=bRm (c:=c) (d:=d) hk he H hr hP 0 (by omega) [] rfl (fun k hk=>by simp at hk)
  rw [show ((0:Nat):Int)=0 from rfl,QX,QX] at this
  rw [aJb,this]
  unfold kT
  have e:(fun row:Row1=>bH (fun k:Gf×Bool=>k.1 row) (ks.map fun k=>(ev k.expr,k.desc)))=qM ev ks:=by
    funext row; rw [aCc]
  have e2:(ks.map fun k=>(ev k.expr,k.desc)).map (·.2)=ks.map (·.desc):=by rw [WG]; rfl
  rw [e,e2,QR]
  split <;> rfl
end
section
variable {c:aR} {d:GDb} {env:Rows} {ev:aB→Gf}
theorem okS27 (p:aQ) (ht:p.tables.length≤1048576) (hd:d.tables.length≤1048576):aL2 d p=some (!(decide (p.tables.length=0)||!decide (p.on_.length=p.tables.length))&&mQ d p.tables):=by
  have key:∀ i,i≤p.tables.length→U2 d p (i:Nat)=some (mQ d (p.tables.drop i)):=by
    refine dZ ?_ ?_
    · rw [U2]; simp [mQ]
    · intro i hi ih
      rw [U2,QE hi]
      simp only [dN,hi,decide_true,if_true,bP hi,QB,QA,aFp,dD (n:=(d.tables.length:Int) - 1) (by omega) (by omega)]
      have e:mQ d (p.tables[i]::p.tables.drop (i+1))=((decide (0≤p.tables[i])&&decide (p.tables[i]<(d.tables.length:Int)))&&mQ d (p.tables.drop (i+1))):=rfl
      have e2:decide (p.tables[i]≤(d.tables.length:Int) - 1)=decide (p.tables[i]<(d.tables.length:Int)):=by
        by_cases h:p.tables[i]<(d.tables.length:Int)
        · rw [decide_eq_true h,decide_eq_true (by omega)]
        · rw [decide_eq_false h,decide_eq_false (by omega)]
      rw [e,e2,dR hi (by omega),ih]
      rcases (decide (0≤p.tables[i])&&decide (p.tables[i]<(d.tables.length:Int))) with _ | _ <;> simp
  unfold aL2
  simp only [QB,QA,orB]
  by_cases h0:p.tables.length=0
  · simp [h0]
  by_cases h1:p.on_.length=p.tables.length
  · have e0:¬ (p.tables.length:Int)=0:=by omega
    have e1:(p.on_.length:Int)=(p.tables.length:Int):=by omega
    have k:=key 0 (by omega)
    rw [show ((0:Nat):Int)=0 from rfl,QR] at k
    simp only [e0,e1,h0,h1,decide_true,decide_false,QF,WO,QC,if_false,k,WW,WX]
  · have e1:¬ (p.on_.length:Int)=(p.tables.length:Int):=by omega
    simp [h1,e1]
theorem bV6 (a b:Row1) (ha:a.length≤1048576):aKn a b=some (decide (a=b)):=by
  unfold aKn
  by_cases hl:a.length=b.length
  · have key:∀ i,i≤a.length→aAv a b (i:Nat)=some (decide (a.drop i=b.drop i)):=by
      refine dZ ?_ ?_
      · rw [aAv]
        rw [WC,hl,WC]; simp
      · intro i hi ih
        have hb:i<b.length:=by omega
        rw [aAv]
        simp only [dN,hi,decide_true,if_true,bP hi,bP hb,QB,QA]
        rw [dR hi (by omega),ih,QE hi,QE hb]
        have e:=aTt a[i] b[i]
        unfold aLx at e
        by_cases h:a[i]=b[i]
        · rw [if_neg (by rw [e.2 h]; decide),h]; simp only [List.cons.injEq,true_and]
        · rw [if_pos (by rw [XH.2 (fun h'=>h (e.1 h'))]; rfl)]; simp only [List.cons.injEq,h,false_and,decide_false]
    have:=key 0 (by omega)
    simp only [QR] at this
    rw [if_neg (by simp; omega)]
    exact this
  · have:a≠b:=fun e=>hl (by rw [e])
    rw [if_pos (by simp; omega)]
    simp [this]
theorem bQv {p acc:Rows} {i:Nat} (hi:i<p.length) (ha:acc.length≤1048576) (hl:∀ y∈acc,y.length≤1048576) :
    ∀ j,j≤acc.length→∀ b:Bool,aBt p acc (i:Int) b (j:Nat)=if (b||decide (p[i]∈acc.drop j))=true then E5 p (i:Int) acc else ((aBo p[i])>>=fun (y6:List aA)=>(appG 24 acc ([y6]:List (List aA)))>>=fun (y7:List (List aA))=>E5 p (i:Int) y7):=by
  refine dZ ?_ ?_
  · intro b
    rw [aBt]
    cases b <;> simp [bP hi]
  · intro j hj ih b
    rw [aBt,QE hj]
    cases b with
    | true =>
      simp only [dN,hj,decide_true,if_true,XJ,beq_iff_eq,XI,QC,if_false,QB,QA,show (true==false)=false from rfl]
      rw [dR hj (by omega),ih]
      simp
    | false =>
      simp only [dN,hj,decide_true,if_true,beq_self_eq_true,WE,QC,if_false,bP hj,bP hi,QB,QA,bV6 _ p[i] (hl _ (QG hj))]
      rw [dR hj (by omega),ih]
      by_cases h:acc[j]=p[i]
      · rw [if_pos (by simp [h]),if_pos (by simp [h])]
      · have h':¬ p[i]=acc[j]:=fun e=>h e.symm
        have e:(false||decide (p[i]∈acc[j]::acc.drop (j+1)))=(decide (acc[j]=p[i])||decide (p[i]∈acc.drop (j+1))):=by simp [h,h',-List.getElem_cons_drop]
        rw [e]
        simp only [QB]
theorem bPb (p:Rows) (hp:p.length≤1048576) (hr:∀ y∈p,y.length≤1048576):aGo p=some (nA [] p):=by
  have key:∀ i,i≤p.length→∀ acc:Rows,acc.length≤i→(∀ y∈acc,y.length≤1048576)→aDr p acc (i:Nat)=some (nA acc (p.drop i)):=by
    refine dZ ?_ ?_
    · intro acc _ _
      rw [aDr]; simp [nA]
    · intro i hi ih acc ha hl
      have hy:=hr _ (QG hi)
      have k:=bQv hi (by omega) hl 0 (by omega) false
      rw [show ((0:Nat):Int)=0 from rfl,QR,WY] at k
      rw [aDr,QE hi,nA]
      simp only [dN,hi,decide_true,if_true,k,decide_eq_true_eq]
      by_cases h:p[i]∈acc
      · rw [if_pos h,if_pos h,E5,dR hi (by omega)]
        exact ih acc (by omega) hl
      · rw [if_neg h,if_neg h,bHs _ hy]
        simp only [QB,QA]
        rw [uF (by simp only [QD]; omega)]
        simp only [QA]
        rw [E5,dR hi (by omega)]
        exact ih _ (by simp only [QK,QD]; omega) (fun y hy'=>by
          rcases QM.1 hy' with h | h
          · exact hl y h
          · simp at h; subst h; exact hy)
  unfold aGo
  simpa using key 0 (by omega) [] (by simp) (by simp)
theorem bLj {l:List aB} (hl:l.length≤1048576) (he:env.length≤4194304) {P:Row1→Prop} (H:∀ e∈l,∀ r,P r→gD c d (r::env) e=some (ev e r)) {rows:Rows} (hr:rows.length≤1048576) (hP:∀ r∈rows,P r) :
    aKc c d env rows l=some (oO (l.map ev) rows):=by
  have e:oO (l.map ev) rows=bH (fun row=>bH (fun e=>ev e row) l) rows:=by
    unfold oO
    congr 1
    funext row
    rw [aCc]
  have key:∀ i,i≤rows.length→∀ acc:Rows,acc.length≤i→Q9 env rows l c d acc (i:Nat)=if (bH (fun row=>bH (fun e=>ev e row) l) (rows.drop i)).2≠0 then some ([],(bH (fun row=>bH (fun e=>ev e row) l) (rows.drop i)).2) else some (acc++(bH (fun row=>bH (fun e=>ev e row) l) (rows.drop i)).1,0):=by
    refine dZ ?_ ?_
    · intro acc _
      rw [Q9]; simp [bH]
    · intro i hi ih acc ha
      have hPr:=hP _ (QG hi)
      rw [Q9,QE hi]
      simp only [dN,hi,decide_true,if_true,bH]
      have m:=aDh (p:=l) (b:=32) (g:=fun k=>ev k rows[i]) (F:=fun y3=>gD c d (rows[i]::env) y3)
        (L:=fun a j=>aBj env rows l acc (i:Int) c (d,a,j)) (E:=fun e=>([],e)) (K:=fun a=>(appG 24 acc ([a]:List (List aA)))>>=fun (y6:List (List aA))=>Q9 env rows l c d y6 (QH .i64 ((i:Int)+1)))
        hl (by omega) (fun k hk=>H k hk _ hPr) (fun j a=>by
          rw [aBj]
          simp only [bP hi,aVq _ he,QB,QA]) [] (by simp)
      rw [m]
      simp only [QI]
      by_cases h0:(bH (fun k=>ev k rows[i]) l).2=0
      · simp only [h0,ne_eq,not_true_eq_false,if_false,QB]
        rw [uF (by simp only [QD]; omega)]
        simp only [QA]
        rw [dR hi (by omega),ih _ (by simp only [QK,QD]; omega)]
        by_cases h1:(bH (fun row=>bH (fun e=>ev e row) l) (rows.drop (i+1))).2=0
        · simp only [h1,ne_eq,not_true_eq_false,if_false,WA,WB]
        · simp [h1]
      · simp [h0]
  have k:=key 0 (by omega) [] (by simp)
  rw [show ((0:Nat):Int)=0 from rfl,QR,QI] at k
  rw [aKc,k,e]
  by_cases h0:(bH (fun row=>bH (fun e=>ev e row) l) rows).2=0
  · rw [if_neg (by simp [h0])]
    generalize bH (fun row=>bH (fun e=>ev e row) l) rows=M at h0 ⊢
    obtain ⟨a,b⟩:=M
    dsimp only at h0
    subst h0
    rfl
  · rw [if_pos h0]
    have e2:(bH (fun row=>bH (fun e=>ev e row) l) rows).1=[]:=by
      cases rows with
      | nil=>simp [bH] at h0
      | cons x rs =>
        rw [bH] at h0 ⊢
        split
        · rfl
        split
        · rfl
        · rename_i a b
          rw [if_neg a,if_neg b] at h0
          simp at h0
    rw [← e2]
theorem bRd {p:aQ} (r:Rows) (hr:r.length≤1048576) (hl:∀ y∈r,y.length≤1048576):(if p.distinct=true then ((aGo r)>>=fun (y6:List (List aA))=>aAy p y6) else (aAy p r))=some (P6 p.distinct p.limit r,0):=by
  have J:∀ y:Rows,y.length≤1048576→aAy p y=some (aG1 p.limit y,0):=fun y hy=>by
    unfold aAy aJr
    exact bBw p.limit y hy
  unfold P6
  by_cases hd:p.distinct=true
  · rw [if_pos hd,if_pos hd,bPb r hr hl]
    exact J _ (by have:=aKg r []; simp at this; omega)
  · rw [if_neg hd,if_neg hd]; exact J r hr
theorem aN2 {α β γ:Type} (f:α→β→γ):∀ (A:List α) (B:List β) (z:γ),z∈QL f A B→∃ a∈A,∃ b∈B,z=f a b
  | [],B,z,h=>by simp at h
  | a::A,[],z,h=>by simp at h
  | a::A,b::B,z,h=>by
    rw [WF,QU] at h
    rcases h with rfl | h
    · exact ⟨a,by simp,b,by simp,rfl⟩
    · obtain ⟨x,hx,y,hy,e⟩:=aN2 f A B z h
      exact ⟨x,QV _ hx,y,QV _ hy,e⟩
theorem aSn {ks:List (Gf×Bool)} {r:Rows}:(kT ks r).1.length≤r.length∧∀ x∈(kT ks r).1,x∈r:=by
  unfold kT
  split
  · simp
  · refine ⟨?_,fun x hx=>?_⟩
    · rw [QW,(aGz _ _ _).length_eq]
      simp only [QI,WZ]
      omega
    · obtain ⟨k,hk,rfl⟩:=WH.1 hx
      have hk2:=(aGz _ _ _).subset hk
      rw [QI] at hk2
      obtain ⟨a,ha,b,_,rfl⟩:=aN2 _ _ _ _ hk2
      exact ha
theorem cA7 {N R:Nat} (hN:N≤1048576) (hd:DbB R d) (hdl:d.tables.length≤1048576) (he:env.length≤4194304) {p:aQ} (hp:aOs N R p)
    (H:∀ e∈fT p,∀ r,eO 3 r→gD c d (r::env) e=some (ev e r)):wW c d env p=some (uU d ev p):=by
  have t3:=hp.t3
  have Hon:∀ y∈p.on_,∀ e∈y,∀ r,eO 3 r→gD c d (r::env) e=some (ev e r):=fun y hy e he=>H e (by
    unfold fT
    simp only [QM,QZ]
    exact .inl (.inl (.inl ⟨y,hy,he⟩)))
  have Hwh:∀ e∈p.where_,∀ r,eO 3 r→gD c d (r::env) e=some (ev e r):=fun e he=>H e (by unfold fT; simp [he])
  have Hor:∀ k∈p.order,∀ r,eO 3 r→gD c d (r::env) k.expr=some (ev k.expr r):=fun k hk=>H k.expr (by
    unfold fT
    simp only [QM,QZ]
    exact .inl (.inr ⟨k,hk,by simp⟩))
  have Hit:∀ e∈p.items,∀ r,eO 3 r→gD c d (r::env) e=some (ev e r):=fun e he=>H e (by unfold fT; simp [he])
  rw [wW,okS27 p (by omega) hdl]
  unfold uU
  simp only [QB,QA]
  by_cases h0:p.tables.length=0
  · simp [h0]
  by_cases h1:p.on_.length=p.tables.length
  case neg=>simp [h1]
  by_cases h2:mQ d p.tables=true
  case neg=>simp [h2]
  simp only [h0,h1,h2,decide_true,decide_false,QF,WO,WW,WE,QC,if_false,ne_eq,not_true_eq_false,or_self,XJ]
  have j:=bMv (c:=c) (env:=env) (ev:=ev) hN hd he hp h1 h2 Hon 0 (by omega) [[]] (by simp) (fun r hr=>by simp at hr; subst hr; exact ⟨by simp,by simp⟩)
  rw [show ((0:Nat):Int)=0 from rfl,QR,QR] at j
  rw [aP4,j]
  unfold aFs iJ R9
  dsimp only
  have jm:∀ s∈QL (fun (t:Int) (l:List aB)=>(rowsOf d t,l.map ev)) p.tables p.on_,∃ x∈d.tables,x.rows=s.1:=by
    intro s hs
    obtain ⟨a,ha,b,_,rfl⟩:=aN2 _ _ _ _ hs
    exact aHd h2 (XA ha)
  have js:(QL (fun (t:Int) (l:List aB)=>(rowsOf d t,l.map ev)) p.tables p.on_).length=p.tables.length:=by simp [h1]
  have jl:=aNc R (QL (fun (t:Int) (l:List aB)=>(rowsOf d t,l.map ev)) p.tables p.on_) [[]] 1 (fun s hs=>by obtain ⟨x,hx,e⟩:=jm s hs; rw [← e]; exact hd.rows x hx) (by simp)
  have jB:=aL0 (QL (fun (t:Int) (l:List aB)=>(rowsOf d t,l.map ev)) p.tables p.on_) [[]] 0 (fun s hs=>by obtain ⟨x,hx,e⟩:=jm s hs; rw [← e]; exact hd.row x hx) (fun r hr=>by simp at hr; subst hr; exact ⟨by simp,by simp⟩)
  rw [js,XF] at jl
  rw [js,WV] at jB
  have RN:=hp.RN
  generalize joE (QL (fun (t:Int) (l:List aB)=>(rowsOf d t,l.map ev)) p.tables p.on_) [[]]=J at jl jB ⊢
  obtain ⟨J1,J2⟩:=J
  dsimp only at jl jB ⊢
  by_cases g0:J2=0
  case neg=>simp [g0]
  subst g0
  simp only [decide_true,QF,QC,if_false,ne_eq,not_true_eq_false,QA]
  rw [bHq he hp.wh Hwh J1 (by omega) (fun r hr=>F3 t3 (jB r hr))]
  simp only [QA]
  have wl:=aGe (p.where_.map ev) J1
  have wB:∀ r∈(whE (p.where_.map ev) J1).1,eO 3 r:=fun r hr=>F3 t3 (jB r ((yK _ _).subset hr))
  generalize whE (p.where_.map ev) J1=W at wl wB ⊢
  obtain ⟨W1,W2⟩:=W
  dsimp only at wl wB ⊢
  by_cases g1:W2=0
  case neg=>simp [g1]
  subst g1
  simp only [decide_true,QF,QC,if_false,ne_eq,not_true_eq_false]
  have Fin:∀ S1:Rows,S1.length≤1048576→(∀ r∈S1,eO 3 r)→aG3 env c d p S1=some (if (oO (p.items.map ev) S1).2≠0 then ([],(oO (p.items.map ev) S1).2) else (P6 p.distinct p.limit (oO (p.items.map ev) S1).1,0)):=by
    intro S1 sl sB
    rw [aG3,bLj hp.it he Hit sl sB]
    simp only [QB,QA]
    have ml:(oO (p.items.map ev) S1).1.length≤S1.length:=aHv _
    have mm:∀ y∈(oO (p.items.map ev) S1).1,y.length≤1048576:=by
      intro y hy
      obtain ⟨r,_,rfl,_⟩:=aG8 hy
      exact QS (aHv _) (by simpa using hp.it)
    generalize oO (p.items.map ev) S1=M at ml mm ⊢
    obtain ⟨M1,M2⟩:=M
    dsimp only at ml mm ⊢
    by_cases g3:M2=0
    case neg=>simp [g3]
    subst g3
    simp only [decide_true,QF,QC,if_false,ne_eq,not_true_eq_false]
    exact bRd M1 (by omega) mm
  by_cases go:(0:Int)<(p.order.length:Int)
  · rw [if_pos (by simpa using go),bZg hp.ord he Hor (by omega) wB]
    simp only [QA]
    obtain ⟨sl,sm⟩:=aSn (ks:=p.order.map fun k=>(ev k.expr,k.desc)) (r:=W1)
    generalize kT (p.order.map fun k=>(ev k.expr,k.desc)) W1=S at sl sm ⊢
    obtain ⟨S1,S2⟩:=S
    dsimp only at sl sm ⊢
    by_cases g2:S2=0
    case neg=>simp [g2]
    subst g2
    simp only [decide_true,QF,QC,if_false,ne_eq,not_true_eq_false]
    exact Fin S1 (by omega) fun r hr=>wB r (sm r hr)
  · rw [if_neg (by simpa using go)]
    have:p.order=[]:=WK (by omega)
    rw [this,QX,bJd]
    simp only [ne_eq,not_true_eq_false,if_false]
    exact Fin W1 (by omega) wB
end
def FK (kind:Int) (k s:Nat):Prop:=(kind=1∧k=0∧s=0)∨(kind=2∧k=0∧s=0)∨(kind=3∧k=1∧s=0)∨(kind=4∧k=2∧s=0)∨(kind=5∧k=1∧s=0)∨(kind=6∧k=3∧s=0)∨(kind=7∧(2≤k∧k≤9)∧s=0)∨(kind=8∧k=1∧s=1)∨(kind=9∧k=0∧s=1)
instance (kind:Int) (k s:Nat):Decidable (FK kind k s):=by unfold FK; infer_instance
theorem aSa (kind:Int) (k s:Nat):aLd kind (k:Int) (s:Int)=some (decide (FK kind k s)):=by
  have v:aE9 ⟨0,0,[]⟩=some true:=by decide
  have nm:xQ [120]=some true:=by decide
  unfold aLd aN0 aJw L6 FK
  simp only [v,nm,wC,QB,QA]
  by_cases h1:kind=1
  · subst h1; simp <;> (rw [QO]; simp only [QJ,decide_eq_true_eq]; omega)
  by_cases h2:kind=2
  · subst h2; simp <;> (rw [QO]; simp only [QJ,decide_eq_true_eq]; omega)
  by_cases h3:kind=3
  · subst h3; simp <;> (rw [QO]; simp only [QJ,decide_eq_true_eq]; omega)
  by_cases h4:kind=4
  · subst h4; simp <;> (rw [QO]; simp only [QJ,decide_eq_true_eq]; omega)
  by_cases h5:kind=5
  · subst h5; simp <;> (rw [QO]; simp only [QJ,decide_eq_true_eq]; omega)
  by_cases h6:kind=6
  · subst h6; simp <;> (rw [QO]; simp only [QJ,decide_eq_true_eq]; omega)
  by_cases h7:kind=7
  · subst h7; simp <;> (rw [QO]; simp only [QJ,decide_eq_true_eq]; omega)
  by_cases h8:kind=8
  · subst h8; simp <;> (rw [QO]; simp only [QJ,decide_eq_true_eq]; omega)
  by_cases h9:kind=9
  · subst h9; simp <;> (rw [QO]; simp only [QJ,decide_eq_true_eq]; omega)
  simp [h1,h2,h3,h4,h5,h6,h7,h8,h9]
theorem aYt (e:aB) (hk:e.kids.length≤1048576) (hs:e.sub.length≤1048576):aJi e=some (decide (FK e.kind e.kids.length e.sub.length)):=by
  unfold aJi aHj aKv FK
  simp only [wC,aFp,dD (n:=(e.kids.length:Int)+e.sub.length) (by omega) (by omega),QB,QA]
  generalize e.kids.length=k
  generalize e.sub.length=s
  generalize e.kind=kind
  by_cases h1:kind=1
  · subst h1; simp <;> (rw [QO]; simp only [QJ,decide_eq_true_eq]; omega)
  by_cases h2:kind=2
  · subst h2; simp <;> (rw [QO]; simp only [QJ,decide_eq_true_eq]; omega)
  by_cases h3:kind=3
  · subst h3; simp <;> (rw [QO]; simp only [QJ,decide_eq_true_eq]; omega)
  by_cases h4:kind=4
  · subst h4; simp <;> (rw [QO]; simp only [QJ,decide_eq_true_eq]; omega)
  by_cases h5:kind=5
  · subst h5; simp <;> (rw [QO]; simp only [QJ,decide_eq_true_eq]; omega)
  by_cases h6:kind=6
  · subst h6; simp <;> (rw [QO]; simp only [QJ,decide_eq_true_eq]; omega)
  by_cases h7:kind=7
  · subst h7; simp <;> (rw [QO]; simp only [QJ,decide_eq_true_eq]; omega)
  by_cases h8:kind=8
  · subst h8; simp <;> (rw [QO]; simp only [QJ,decide_eq_true_eq]; omega)
  by_cases h9:kind=9
  · subst h9; simp <;> (rw [QO]; simp only [QJ,decide_eq_true_eq]; omega)
  simp [h1,h2,h3,h4,h5,h6,h7,h8,h9]
def notP (e:aB) (r:aA×Int):aA×Int:=if r.2≠0 then (⟨0,0,[]⟩,r.2) else if e.not_=true then unP 15 r.1 else (r.1,0)
def kE:Rows→Row1×Int
  | []=>([],0)
  | r::l=>match r with
    | []=>([],4)
    | v::_=>if (kE l).2≠0 then ([],(kE l).2) else (v::(kE l).1,0)
def inP (x:aA) (rows:Rows):aA×Int:=if (kE rows).2≠0 then (⟨0,0,[]⟩,(kE rows).2) else tF x (kE rows).1 (vBl false)
def aG2 (e:aB) (kids:Row1) (rows:Rows):aA×Int :=
  if e.kind=1 then (e.value,0)
  else if e.kind=3 then unP e.op kids[0]!
  else if e.kind=4 then jS e.op kids[0]! kids[1]!
  else if e.kind=5 then (vBl (!((decide (kids[0]!.kind=0))==e.not_)),0)
  else if e.kind=6 then notP e (F5 kids[0]! kids[1]! kids[2]!)
  else if e.kind=7 then notP e (tF kids[0]! (kids.drop 1) (vBl false))
  else if e.kind=9 then (vBl (decide (0<rows.length)),0)
  else notP e (inP kids[0]! rows)
theorem bGf:∀ {rows:Rows},(∀ r∈rows,∀ v∈r,okI v.num)→∀ v∈(kE rows).1,okI v.num
  | [],_,v,hv=>by simp [kE] at hv
  | []::l,_,v,hv=>by simp [kE] at hv
  | (x::r)::l,h,v,hv=>by
    rw [kE] at hv
    split at hv
    · simp at hv
    · rcases QU.1 hv with rfl | hv
      · exact h (v::r) (by simp) v (by simp)
      · exact bGf (fun r hr=>h r (QV _ hr)) v hv
theorem aYm (e:aB) {r:aA×Int} (hr:okI r.1.num):(if (!decide (r.2=0))=true then (some ((aA.mk 0 0 []),r.2)) else (if e.not_=true then ((aDm 15 r.1)>>=fun (y10:aA×Int)=>some (y10.1,y10.2)) else (some (r.1,0))))=some (notP e r):=by
  unfold notP
  rw [unI hr]
  by_cases h:r.2=0
  · by_cases h2:e.not_=true <;> simp [h,h2]
  · simp [h]
theorem aLm (e:aB) {r:aA×Int} (hr:okI r.1.num):aCq e r.1 r.2=some (notP e r):=by
  unfold aCq notP
  rw [unS hr]
  by_cases h:r.2=0
  · by_cases h2:e.not_=true <;> simp [h,h2]
  · simp [h]
theorem bP8 {n:qF} {x:aA} {ks:Row1} (hn:n.kids=x::ks) (hx:okI x.num) (hl:n.rows.length≤1048576) (hv:∀ r∈n.rows,∀ v∈r,okI v.num):M5 n [] 0=some (inP x n.rows):=by
  have key:∀ i,i≤n.rows.length→∀ acc:Row1,acc.length≤i→(∀ v∈acc,okI v.num)→M5 n acc (i:Nat)=some (if (kE (n.rows.drop i)).2≠0 then (⟨0,0,[]⟩,(kE (n.rows.drop i)).2) else tF x (acc++(kE (n.rows.drop i)).1) (vBl false)):=by
    refine dZ ?_ ?_
    · intro acc ha hva
      have h0:idx n.kids 0=some x:=by rw [hn]; rfl
      rw [M5]
      simp only [dN,WD,decide_false,QC,if_false,h0,QB,QA,(aQf (p:=acc) (by omega) hx hva).1,WC,kE,ne_eq,not_true_eq_false,WI]
    · intro i hi ih acc ha hva
      rw [M5,QE hi]
      simp only [dN,hi,decide_true,if_true,bP hi,QB,QA]
      have hvi:=hv _ (QG hi)
      generalize n.rows[i]=r at hvi ⊢
      cases r with
      | nil=>simp [kE]
      | cons v r =>
        have i0:idx (v::r) 0=some v:=rfl
        have ne:¬ (((v::r).length:Int)=0):=by simp only [QT]; omega
        simp only [ne,decide_false,QC,if_false,i0,QA]
        rw [jX (by simp only [QD]; omega)]
        simp only [QA]
        rw [dR hi (by omega),ih _ (by simp only [QK,QD]; omega) (fun w hw=>by
          rcases QM.1 hw with hw | hw
          · exact hva w hw
          · simp at hw; subst hw; exact hvi _ (by simp))]
        rw [kE]
        by_cases h:(kE (n.rows.drop (i+1))).2=0
        · simp only [h,ne_eq,not_true_eq_false,if_false,WA,WB]
        · simp [h]
  have:=key 0 (by omega) [] (by simp) (by simp)
  unfold inP
  simpa using this
theorem cBy {e:aB} {x:aA} {ks:Row1} {rows:Rows} (hx:okI x.num) (hl:rows.length≤1048576) (hv:∀ r∈rows,∀ v∈r,okI v.num):J8 (x::ks) rows e [] 0=some (notP e (inP x rows)):=by
  have key:∀ i,i≤rows.length→∀ acc:Row1,acc.length≤i→(∀ v∈acc,okI v.num)→J8 (x::ks) rows e acc (i:Nat)=some (if (kE (rows.drop i)).2≠0 then (⟨0,0,[]⟩,(kE (rows.drop i)).2) else notP e (tF x (acc++(kE (rows.drop i)).1) (vBl false))):=by
    refine dZ ?_ ?_
    · intro acc ha hva
      have h0:idx (x::ks) 0=some x:=rfl
      rw [J8]
      simp only [dN,WD,decide_false,QC,if_false,h0,QB,QA,(aQf (p:=acc) (by omega) hx hva).2,aLm e (aJa hx hva (aKt false)),WC,kE,ne_eq,not_true_eq_false,WI]
      rw [show (vBl false)=⟨3,if false=true then 1 else 0,[]⟩ from rfl,aLm e (aJa hx hva (aKt false))]
      rfl
    · intro i hi ih acc ha hva
      rw [J8,QE hi]
      simp only [dN,hi,decide_true,if_true,bP hi,QB,QA]
      have hvi:=hv _ (QG hi)
      generalize rows[i]=r at hvi ⊢
      cases r with
      | nil=>simp [kE]
      | cons v r =>
        have i0:idx (v::r) 0=some v:=rfl
        have ne:¬ (((v::r).length:Int)=0):=by simp only [QT]; omega
        simp only [ne,decide_false,QC,if_false,i0,QA]
        rw [jX (by simp only [QD]; omega)]
        simp only [QA]
        rw [dR hi (by omega),ih _ (by simp only [QK,QD]; omega) (fun w hw=>by
          rcases QM.1 hw with hw | hw
          · exact hva w hw
          · simp at hw; subst hw; exact hvi _ (by simp))]
        rw [kE]
        by_cases h:(kE (rows.drop (i+1))).2=0
        · simp only [h,ne_eq,not_true_eq_false,if_false,WA,WB]
        · simp [h]
  have:=key 0 (by omega) [] (by simp) (by simp)
  have e2:notP e (inP x rows)=if (kE rows).2≠0 then (⟨0,0,[]⟩,(kE rows).2) else notP e (tF x (kE rows).1 (vBl false)):=by
    unfold inP
    by_cases h:(kE rows).2=0
    · simp [h]
    · rw [if_pos h,if_pos h]; unfold notP; simp [h]
  rw [e2]
  simpa using this
theorem bVi {x:aA} {rows:Rows} (hx:okI x.num) (hv:∀ r∈rows,∀ v∈r,okI v.num):okI (inP x rows).1.num:=by
  unfold inP
  split
  · exact ok0
  · exact aJa hx (bGf hv) (aKt false)
theorem aYy {e:aB} {r:aA×Int} (h:okI r.1.num):okI (notP e r).1.num:=by
  unfold notP
  split
  · exact ok0
  split
  · exact bCs h
  · exact h
theorem aV3 {k:Row1} (h:k.length=1):∃ a,k=[a]:=by
  match k,h with
  | [a],_=>exact ⟨a,rfl⟩
theorem bM1 {k:Row1} (h:k.length=2):∃ a b,k=[a,b]:=by
  match k,h with
  | [a,b],_=>exact ⟨a,b,rfl⟩
theorem bN9 {k:Row1} (h:k.length=3):∃ a b c,k=[a,b,c]:=by
  match k,h with
  | [a,b,c],_=>exact ⟨a,b,c,rfl⟩
theorem bI7 {e:aB} {env:Rows} {kids:Row1} {rows:Rows} {s:Nat} (hf:FK e.kind kids.length s) (h2:e.kind≠2) (hev:okI e.value.num) (hk:∀ v∈kids,okI v.num) (hl:rows.length≤1048576) (hv:∀ r∈rows,∀ v∈r,okI v.num) :
    aKw (qF.mk e.kind e.op e.not_ e.value kids rows)=some (aG2 e kids rows)∧wQ env kids e rows=some (aG2 e kids rows)∧okI (aG2 e kids rows).1.num:=by
  unfold aKw wQ aG2
  rcases hf with ⟨k,_⟩ | ⟨k,_⟩ | ⟨k,hl1,_⟩ | ⟨k,hl1,_⟩ | ⟨k,hl1,_⟩ | ⟨k,hl1,_⟩ | ⟨k,hl1,_⟩ | ⟨k,hl1,_⟩ | ⟨k,hl1,_⟩
  · simp [k,hev]
  · exact absurd k h2
  · obtain ⟨a,rfl⟩:=aV3 hl1
    have ha:=hk a (by simp)
    simp [k,idx,unI ha,unS ha,bCs ha]
  · obtain ⟨a,b,rfl⟩:=bM1 hl1
    have ha:=hk a (by simp)
    have hb:=hk b (by simp)
    simp [k,idx,aFf ha hb,aE2 ha hb,F8 ha hb]
  · obtain ⟨a,rfl⟩:=aV3 hl1
    simp only [k,idx,aC6,yE,vBl]
    refine ⟨rfl,rfl,?_⟩
    exact aO5 _
  · obtain ⟨a,b,c,rfl⟩:=bN9 hl1
    have ha:=hk a (by simp)
    have hb:=hk b (by simp)
    have hc:=hk c (by simp)
    have ni:=aYm e (r:=F5 a b c) (aTf ha hb hc)
    have ns:=aLm e (r:=F5 a b c) (aTf ha hb hc)
    unfold aFo
    simp [k,idx,bTm ha hb hc,bJh ha hb hc,ns,aYy (e:=e) (aTf ha hb hc)]
    simpa using ni
  · obtain ⟨a,ks,rfl⟩:∃ a ks,kids=a::ks:=by
      cases kids with
      | nil=>simp at hl1
      | cons a ks=>exact ⟨a,ks,rfl⟩
    have ha:=hk a (by simp)
    have hks:∀ v∈ks,okI v.num:=fun v hv=>hk v (by simp [hv])
    have hlk:ks.length≤1048576:=by simp at hl1; omega
    have w:=aQf hlk ha hks
    have wo:okI (tF a ks (vBl false)).1.num:=aJa ha hks (aKt false)
    have ni:=aYm e wo
    have ns:=aLm e wo
    have sb:jA (a::ks) 1 ((a::ks).length:Int)=some ks:=by
      have:=aRs (l:=a::ks) (n:=1) (by simp)
      simpa using this
    have i0:idx (a::ks) 0=some a:=rfl
    unfold aFo
    simp only [k,i0,sb,w.1,w.2,ns,QB,QA,show ¬ ((7:Int)=1) by decide,show ¬ ((7:Int)=2) by decide,show ¬ ((7:Int)=3) by decide,show ¬ ((7:Int)=4) by decide,show ¬ ((7:Int)=5) by decide,show ¬ ((7:Int)=6) by decide,show ¬ ((7:Int)=9) by decide,decide_false,decide_true,QC,if_false,if_true]
    exact ⟨ni,rfl,aYy wo⟩
  · obtain ⟨a,rfl⟩:=aV3 hl1
    have ha:=hk a (by simp)
    have io:=bVi (rows:=rows) ha hv
    have ni:=aYm e io
    have si:=bP8 (n:=qF.mk e.kind e.op e.not_ e.value [a] rows) (x:=a) (ks:=[]) rfl ha hl hv
    have ss:=cBy (e:=e) (x:=a) (ks:=[]) ha hl hv
    unfold aFo
    rw [k] at si
    simp only [k,si,ss,QB,QA,show ¬ ((8:Int)=1) by decide,show ¬ ((8:Int)=2) by decide,show ¬ ((8:Int)=3) by decide,show ¬ ((8:Int)=4) by decide,show ¬ ((8:Int)=5) by decide,show ¬ ((8:Int)=6) by decide,show ¬ ((8:Int)=7) by decide,show ¬ ((8:Int)=9) by decide,decide_false,decide_true,QC,if_false,if_true]
    exact ⟨ni,rfl,aYy io⟩
  · simp only [k,aC6,yE,QB,QA,show ¬ ((9:Int)=1) by decide,show ¬ ((9:Int)=2) by decide,show ¬ ((9:Int)=3) by decide,show ¬ ((9:Int)=4) by decide,show ¬ ((9:Int)=5) by decide,show ¬ ((9:Int)=6) by decide,show ¬ ((9:Int)=7) by decide,decide_false,decide_true,QC,if_false,if_true]
    have e1:decide ((0:Int)<(rows.length:Int))=decide (0<rows.length):=by simp
    rw [e1]
    exact ⟨rfl,rfl,aO5 _⟩
structure Closed (N R:Nat) (GE:aB→Prop) (GP:aQ→Prop):Prop where
  val:∀ e,GE e→okI e.value.num
  kid:∀ e,GE e→∀ k∈e.kids,GE k
  sub:∀ e,GE e→∀ p∈e.sub,GP p
  plan:∀ p,GP p→aOs N R p
  part:∀ p,GP p→∀ e∈fT p,GE e
  len:∀ e,GE e→e.kids.length≤1048576∧e.sub.length≤1048576
  ze:∀ e,GE e→bA e≤1048576
  zp:∀ p,GP p→eU p≤1048576
def aEy (env:Rows):Prop:=∀ r∈env,∀ v∈r,okI v.num
def jK (c:aR) (d:GDb) (env:Rows) (e:aB):Gf:=fun r=>(gD c d (r::env) e).getD (⟨0,0,[]⟩,0)
def EvE (c:aR) (d:GDb) (env:Rows) (e:aB):Prop:=∃ r,rO c d env e=some r∧gD c d env e=some r∧okI r.1.num
def EvP (c:aR) (d:GDb) (env:Rows) (p:aQ):Prop:=∃ r,O7 c d env p=some r∧wW c d env p=some r∧(∀ x∈r.1,∀ v∈x,okI v.num)∧r.1.length≤1048576
theorem aT7 {α β:Type} {g h:α→β×Int}:∀ {l:List α},(∀ x∈l,g x=h x)→bH g l=bH h l
  | [],_=>rfl
  | x::l,H=>by rw [bH,bH,H x (by simp),aT7 fun y hy=>H y (QV _ hy)]
theorem aQh:∀ {l o:Rows} {x:Row1},x∈nA o l→x∈o∨x∈l
  | [],o,x,h=>by rw [nA] at h; exact .inl h
  | y::l,o,x,h=>by
    rw [nA] at h
    split at h
    · rcases aQh h with h | h
      · exact .inl h
      · exact .inr (QV _ h)
    · rcases aQh h with h | h
      · rcases QM.1 h with h | h
        · exact .inl h
        · simp at h; subst h; exact .inr (by simp)
      · exact .inr (QV _ h)
theorem bWk {dis:Bool} {lim:Int} {r:Rows}:(∀ x∈P6 dis lim r,x∈r)∧(P6 dis lim r).length≤r.length:=by
  have key:(∀ x∈(if dis=true then nA [] r else r),x∈r)∧(if dis=true then nA [] r else r).length≤r.length:=by
    split
    · refine ⟨fun x hx=>?_,by have:=aKg r []; simpa using this⟩
      rcases aQh hx with h | h
      · simp at h
      · exact h
    · exact ⟨fun x hx=>hx,WS _⟩
  unfold P6
  generalize (if dis=true then nA [] r else r)=q at key ⊢
  unfold aG1
  split
  · refine ⟨fun x hx=>key.1 x ((XN _ _) hx),?_⟩
    rw [WJ]
    exact QS (Nat.min_le_right _ _) key.2
  · exact key
section
variable {N R:Nat} {GE:aB→Prop} {GP:aQ→Prop} {c:aR} {d:GDb}
theorem cAh (hC:Closed N R GE GP) (hS:aD5 N) (hN:N≤1048576) (hd:DbB R d) (hdl:d.tables.length≤1048576) {env:Rows} (_:aEy env) (hl:env.length≤1048576) {p:aQ} (hp:GP p)
    (H:∀ e∈fT p,∀ r,eO 3 r→EvE c d (r::env) e):EvP c d env p∧O7 c d env p=some (uU d (jK c d env) p):=by
  have hs:∀ e∈fT p,∀ r,eO 3 r→gD c d (r::env) e=some (jK c d env e r)∧rO c d (r::env) e=some (jK c d env e r)∧okI (jK c d env e r).1.num:=by
    intro e he r hr
    obtain ⟨x,h1,h2,h3⟩:=H e he r hr
    unfold jK
    rw [h2]
    exact ⟨rfl,h1,h3⟩
  have hi:∀ e∈fT p,∀ r,eO 3 r→oZ r c d env e=some (jK c d env e r):=by
    intro e he r hr
    rw [oZ,jX (by simp only [QD]; omega)]
    simp only [WB,QB,QA,(hs e he r hr).2.1]
  have pI:=cBj hS hN hd (hC.plan p hp) hi
  have pS:=cA7 (c:=c) hN hd hdl (by omega) (hC.plan p hp) fun e he r hr=>(hs e he r hr).1
  refine ⟨⟨_,pI,pS,?_⟩,pI⟩
  unfold uU
  split
  · simp
  unfold aFs
  split
  · simp
  split
  · simp
  split
  · simp
  split
  · simp
  rename_i hg _ _ _ _
  dsimp only
  obtain ⟨e1,e2⟩:=bWk (dis:=(iJ d (jK c d env) p).dis) (lim:=(iJ d (jK c d env) p).lim) (r:=(oO (iJ d (jK c d env) p).is (kT (iJ d (jK c d env) p).ks (whE (iJ d (jK c d env) p).wh (joE (iJ d (jK c d env) p).st [[]]).1).1).1).1)
  have hP:=hC.plan p hp
  have hT:mQ d p.tables=true:=by
    cases h:mQ d p.tables with
    | true=>rfl
    | false=>exact absurd (.inr h) hg
  have h1:p.on_.length=p.tables.length:=Classical.not_not.1 fun h=>hg (.inl (.inr h))
  have jm:∀ s∈R9 d (jK c d env) p,∃ x∈d.tables,x.rows=s.1:=by
    intro s hs
    obtain ⟨a,ha,b,_,rfl⟩:=aN2 _ _ _ _ hs
    exact aHd hT (XA ha)
  have js:(R9 d (jK c d env) p).length=p.tables.length:=by simp [R9,h1]
  have jl:=aNc R (R9 d (jK c d env) p) [[]] 1 (fun s hs=>by obtain ⟨x,hx,e⟩:=jm s hs; rw [← e]; exact hd.rows x hx) (by simp)
  have jB:=aL0 (R9 d (jK c d env) p) [[]] 0 (fun s hs=>by obtain ⟨x,hx,e⟩:=jm s hs; rw [← e]; exact hd.row x hx) (fun r hr=>by simp at hr; subst hr; exact ⟨by simp,by simp⟩)
  rw [js,XF] at jl
  rw [js,WV] at jB
  have RN:=hP.RN
  have wl:=aGe (iJ d (jK c d env) p).wh (joE (R9 d (jK c d env) p) [[]]).1
  obtain ⟨sl,sm⟩:=aSn (ks:=(iJ d (jK c d env) p).ks) (r:=(whE (iJ d (jK c d env) p).wh (joE (iJ d (jK c d env) p).st [[]]).1).1)
  have ml:=aHv (g:=fun row=>bH (fun g:Gf=>g row) (iJ d (jK c d env) p).is) (kT (iJ d (jK c d env) p).ks (whE (iJ d (jK c d env) p).wh (joE (iJ d (jK c d env) p).st [[]]).1).1).1
  constructor
  · intro x hx v hv
    have hx:=e1 x hx
    obtain ⟨r,hr,rfl,_⟩:=aG8 hx
    obtain ⟨g,hg,rfl,_⟩:=aG8 hv
    obtain ⟨e,he,rfl⟩:=WH.1 hg
    have hr3:eO 3 r:=F3 hP.t3 (jB r ((yK _ _).subset (sm r hr)))
    exact (hs e (by unfold fT; simp [he]) r hr3).2.2
  · refine QS e2 (QS ml (QS sl (QS wl ?_)))
    exact QS (QS jl RN) hN
def cellP (env:Rows) (e:aB):aA×Int :=
  if 0≤e.up∧e.up<(env.length:Int)∧0≤e.at_∧e.at_<((env[e.up.toNat]!).length:Int) then ((env[e.up.toNat]!)[e.at_.toNat]!,0) else (⟨0,0,[]⟩,4)
theorem bYt {env:Rows} {e:aB} (h2:e.kind=2) (hs:FK e.kind e.kids.length e.sub.length):rO c d env e=some (cellP env e):=by
  rw [rO,aSa]
  rw [h2] at hs
  simp only [hs,decide_true,QF,QC,if_false,h2,if_true,QB,QA,orB]
  unfold cellP
  by_cases a:e.up<0
  · have:¬ 0≤e.up:=by omega
    simp [a,this]
  by_cases b:(env.length:Int)≤e.up
  · have:¬ e.up<(env.length:Int):=by omega
    simp [b,this]
  by_cases g:e.at_<0
  · have:¬ 0≤e.at_:=by omega
    simp [g,this]
  obtain ⟨n,hn⟩:∃ n:Nat,e.up=n:=⟨e.up.toNat,by omega⟩
  obtain ⟨m,hm⟩:∃ m:Nat,e.at_=m:=⟨e.at_.toNat,by omega⟩
  have hnl:n<env.length:=by omega
  rw [hn,hm]
  have e1:=getElem!_pos env n hnl
  have n1:¬ ((n:Int)<0):=by omega
  have n2:¬ ((env.length:Int)≤n):=by omega
  have n3:¬ ((m:Int)<0):=by omega
  simp only [n1,n2,n3,decide_false,WO,WY,beq_self_eq_true,WE,if_true,bP hnl,QA,WM,e1]
  by_cases q:(env[n].length:Int)≤(m:Int)
  · have:¬ (m:Int)<(env[n].length:Int):=by omega
    simp [q,this]
  · have hml:m<env[n].length:=by omega
    have e2:=getElem!_pos env[n] m hml
    simp only [q,decide_false,WO,QC,if_false,bP hml,QA]
    have hc:(0:Int)≤n∧(n:Int)<(env.length:Int)∧(0:Int)≤m∧(m:Int)<(env[n].length:Int):=⟨by omega,by omega,by omega,by omega⟩
    rw [e2]
    simp only [hc,and_self,if_true]
theorem bQ7 {env:Rows} {e:aB} (h2:e.kind=2) (hl:env.length≤1048576) (hr:∀ r∈env,r.length≤1048576):wQ env [] e []=some (cellP env e):=by
  unfold wQ cellP
  simp only [h2,show ¬ ((2:Int)=1) by decide,decide_false,decide_true,QC,if_false,if_true,aFp,QB,QA,orB]
  rw [dD (n:=(env.length:Int) - 1) (by omega) (by omega)]
  by_cases a:0≤e.up
  case neg=>simp [a]
  by_cases b:e.up<(env.length:Int)
  case neg =>
    have:¬ e.up≤(env.length:Int) - 1:=by omega
    simp [b,this]
  have b':e.up≤(env.length:Int) - 1:=by omega
  obtain ⟨n,hn⟩:∃ n:Nat,e.up=n:=⟨e.up.toNat,by omega⟩
  have hnl:n<env.length:=by omega
  have e1:=getElem!_pos env n hnl
  rw [hn] at a b b' ⊢
  have hrl:=hr _ (QG hnl)
  simp only [a,b,b',decide_true,WE,QF,beq_self_eq_true,if_true,bP hnl,QA,WM,e1,WY]
  rw [dD (n:=(env[n].length:Int) - 1) (by omega) (by omega)]
  by_cases g:0≤e.at_
  case neg=>simp [g]
  by_cases q:e.at_<(env[n].length:Int)
  case neg =>
    have:¬ e.at_≤(env[n].length:Int) - 1:=by omega
    simp [q,this]
  have q':e.at_≤(env[n].length:Int) - 1:=by omega
  obtain ⟨m,hm⟩:∃ m:Nat,e.at_=m:=⟨e.at_.toNat,by omega⟩
  rw [hm] at g q q' ⊢
  have hml:m<env[n].length:=by omega
  have e2:=getElem!_pos env[n] m hml
  simp only [g,q',decide_true,WE,QF,QC,if_false,bP hml,QA]
  have hc:(0:Int)≤n∧(n:Int)<(env.length:Int)∧(0:Int)≤m∧(m:Int)<(env[n].length:Int):=⟨by omega,by omega,by omega,by omega⟩
  rw [WM,e2]
  simp only [hc,and_self,if_true]
theorem bW4 {env:Rows} {e:aB} (hB:aEy env):okI (cellP env e).1.num:=by
  unfold cellP
  split
  · rename_i h
    have hn:e.up.toNat<env.length:=by omega
    rw [getElem!_pos env _ hn] at h ⊢
    have hm:e.at_.toNat<env[e.up.toNat].length:=by omega
    rw [getElem!_pos env[e.up.toNat] _ hm]
    exact hB _ (QG hn) _ (QG hm)
  · exact ok0
end
section
variable {N R:Nat} {GE:aB→Prop} {GP:aQ→Prop} {c:aR} {d:GDb}
theorem bMg {env:Rows} {e:aB} (hk:e.kids.length≤1048576) (H:∀ k∈e.kids,EvE c d env k) :
    aE8 env e c d 0 []=if (bH (fun k=>(gD c d env k).getD (⟨0,0,[]⟩,0)) e.kids).2≠0 then some (⟨0,0,[]⟩,(bH (fun k=>(gD c d env k).getD (⟨0,0,[]⟩,0)) e.kids).2) else F9 env e c d (bH (fun k=>(gD c d env k).getD (⟨0,0,[]⟩,0)) e.kids).1 0 []:=by
  have m:=aDh (p:=e.kids) (b:=32) (g:=fun k=>(gD c d env k).getD (⟨0,0,[]⟩,0)) (F:=fun k=>rO c d env k)
    (L:=fun acc j=>aE8 env e c d j acc) (E:=fun x=>((⟨0,0,[]⟩:aA),x)) (K:=fun acc=>F9 env e c d acc 0 [])
    hk (by omega) (fun k hk=>by obtain ⟨r,h1,h2,_⟩:=H k hk; rw [h1,h2]; rfl) (fun j acc=>by rw [aE8]) [] (by simp)
  simpa using m
theorem bBc {env:Rows} {e:aB} (hk:e.kids.length≤1048576) (H:∀ k∈e.kids,EvE c d env k) :
    aD7 env c d e [] 0=if (bH (fun k=>(gD c d env k).getD (⟨0,0,[]⟩,0)) e.kids).2≠0 then some (⟨0,0,[]⟩,(bH (fun k=>(gD c d env k).getD (⟨0,0,[]⟩,0)) e.kids).2)
    else (if (decide (0<(e.sub.length:Int)))=true then ((idx e.sub 0)>>=fun (y5:aQ)=>(wW c d env y5)>>=fun (y6:(List (List aA))×Int)=>if (!decide (y6.2=0))=true then (some ((aA.mk 0 0 []),y6.2)) else (wQ env (bH (fun k=>(gD c d env k).getD (⟨0,0,[]⟩,0)) e.kids).1 e y6.1)) else (wQ env (bH (fun k=>(gD c d env k).getD (⟨0,0,[]⟩,0)) e.kids).1 e ([]:List (List aA)))):=by
  have m:=aDh (p:=e.kids) (b:=32) (g:=fun k=>(gD c d env k).getD (⟨0,0,[]⟩,0)) (F:=fun k=>gD c d env k)
    (L:=fun acc j=>aD7 env c d e acc j) (E:=fun x=>((⟨0,0,[]⟩:aA),x)) (K:=fun acc=>(if (decide (0<(e.sub.length:Int)))=true then ((idx e.sub 0)>>=fun (y5:aQ)=>(wW c d env y5)>>=fun (y6:(List (List aA))×Int)=>if (!decide (y6.2=0))=true then (some ((aA.mk 0 0 []),y6.2)) else (wQ env acc e y6.1)) else (wQ env acc e ([]:List (List aA)))))
    hk (by omega) (fun k hk=>by obtain ⟨r,_,h2,_⟩:=H k hk; rw [h2]; rfl) (fun j acc=>by rw [aD7]) [] (by simp)
  simpa using m
def pX (c:aR) (d:GDb) (env:Rows) (e:aB):Row1×Int:=bH (fun k=>(gD c d env k).getD (⟨0,0,[]⟩,0)) e.kids
def H7 (c:aR) (d:GDb) (env:Rows) (e:aB):aA×Int :=
  if ¬ FK e.kind e.kids.length e.sub.length then (⟨0,0,[]⟩,4)
  else if e.kind=2 then cellP env e
  else if (pX c d env e).2≠0 then (⟨0,0,[]⟩,(pX c d env e).2)
  else match e.sub with
    | []=>aG2 e (pX c d env e).1 []
    | p::_=>if ((wW c d env p).getD ([],0)).2≠0 then (⟨0,0,[]⟩,((wW c d env p).getD ([],0)).2) else aG2 e (pX c d env e).1 ((wW c d env p).getD ([],0)).1
theorem bBh (hC:Closed N R GE GP) {env:Rows} (hB:aEy env) (hl:env.length≤1048576) (hr:∀ r∈env,r.length≤1048576) {e:aB} (he:GE e) (HK:∀ k∈e.kids,EvE c d env k) (HS:∀ p∈e.sub,EvP c d env p) :
    rO c d env e=some (H7 c d env e)∧gD c d env e=some (H7 c d env e)∧okI (H7 c d env e).1.num:=by
  obtain ⟨kl,sl⟩:=hC.len e he
  unfold H7
  by_cases hf:FK e.kind e.kids.length e.sub.length
  case neg =>
    rw [rO,aSa,gD,aYt e kl sl]
    simp [hf]; exact ok0
  rw [if_neg (by simp [hf])]
  by_cases h2:e.kind=2
  · rw [if_pos h2]
    refine ⟨bYt h2 hf,?_,bW4 hB⟩
    have hk0:e.kids=[]:=by
      rcases hf with ⟨k,_⟩ | ⟨k,h,_⟩ | ⟨k,_⟩ | ⟨k,_⟩ | ⟨k,_⟩ | ⟨k,_⟩ | ⟨k,_⟩ | ⟨k,_⟩ | ⟨k,_⟩ <;> first | exact WK h | omega
    have hs0:e.sub=[]:=by
      rcases hf with ⟨k,_⟩ | ⟨k,_,h⟩ | ⟨k,_⟩ | ⟨k,_⟩ | ⟨k,_⟩ | ⟨k,_⟩ | ⟨k,_⟩ | ⟨k,_⟩ | ⟨k,_⟩ <;> first | exact WK h | omega
    rw [gD,aYt e kl sl]
    simp only [hf,decide_true,QF,QC,if_false,QB,QA]
    rw [bBc kl HK,hk0,hs0]
    simp only [bH,ne_eq,not_true_eq_false,if_false,QP]
    rw [if_neg (by simp)]
    exact bQ7 h2 hl hr
  rw [if_neg h2,rO,aSa,gD,aYt e kl sl]
  simp only [hf,h2,decide_true,decide_false,QF,QC,if_false,QB,QA]
  rw [bMg kl HK,bBc kl HK]
  have hkv:∀ v∈(pX c d env e).1,okI v.num:=by
    intro v hv
    obtain ⟨k,hk,rfl,_⟩:=aG8 hv
    obtain ⟨r,_,h2,h3⟩:=HK k hk
    rw [h2]; exact h3
  have hkl:=aIt (g:=fun k=>(gD c d env k).getD (⟨0,0,[]⟩,0)) (l:=e.kids)
  show (if (pX c d env e).2≠0 then _ else _)=_∧(if (pX c d env e).2≠0 then _ else _)=_∧_
  change (pX c d env e).2=0→(pX c d env e).1.length=e.kids.length at hkl
  change _=_∧_=_∧_
  by_cases h0:(pX c d env e).2=0
  case neg =>
    rw [if_pos h0,if_pos h0,if_pos h0]
    exact ⟨rfl,rfl,ok0⟩
  rw [if_neg (by simp [h0]),if_neg (by simp [h0]),if_neg (by simp [h0])]
  have hkl:=hkl h0
  rw [← hkl] at hf
  have hev:=hC.val e he
  have fold:(bH (fun k=>(gD c d env k).getD (⟨0,0,[]⟩,0)) e.kids)=pX c d env e:=rfl
  rw [fold]
  generalize pX c d env e=K at hkv hf ⊢
  match hs:e.sub with
  | [] =>
    have n:=bI7 (env:=env) (rows:=[]) hf h2 hev hkv (by simp) (by simp)
    rw [F9,hs]
    simp only [QP,n.1,QB,QA,show ((0:Nat):Int)=0 from rfl,XR,decide_false,QC,if_false]
    exact ⟨trivial,n.2.1,n.2.2⟩
  | [p] =>
    obtain ⟨r,p1,p2,p3,p4⟩:=HS p (by rw [hs]; simp)
    have i0:idx [p] 0=some p:=rfl
    rw [F9,hs]
    simp only [QD,i0,p1,p2,QB,QA,Option.getD_some,show decide ((0:Int)<((1:Nat):Int))=true from rfl,if_true]
    by_cases hz:r.2=0
    case neg=>simp [hz]; exact ok0
    have n:=bI7 (env:=env) (rows:=r.1) hf h2 hev hkv p4 p3
    simp only [hz,decide_true,QF,QC,if_false,ne_eq,not_true_eq_false]
    rw [F9,hs]
    simp only [QD,show QH .i64 (0+1)=1 by decide,show decide ((1:Int)<((1:Nat):Int))=false from rfl,QC,if_false,n.1,QB,QA]
    exact ⟨trivial,n.2.1,n.2.2⟩
  | p::q::l =>
    exfalso
    rw [hs] at hf
    simp only [FK,QT] at hf
    omega
theorem bBf (hC:Closed N R GE GP) (hS:aD5 N) (hN:N≤1048576) (hd:DbB R d) (hdl:d.tables.length≤1048576):∀ n:Nat,
    (∀ (e:aB) (env:Rows),bA e<n→GE e→aEy env→(∀ r∈env,r.length≤1048576)→env.length+n≤1048576→EvE c d env e) ∧
    (∀ (p:aQ) (env:Rows),eU p<n→GP p→aEy env→(∀ r∈env,r.length≤1048576)→env.length+n≤1048576→EvP c d env p∧O7 c d env p=some (uU d (jK c d env) p)):=by
  intro n
  induction n with
  | zero=>exact ⟨fun e env h=>by omega,fun p env h=>by omega⟩
  | succ n ih =>
    constructor
    · intro e env hz he hB hr hl
      have:=bBh (c:=c) (d:=d) hC hB (by omega) hr he (fun k hk=>by
        have:=yG hk
        have:0<e.kids.length:=QQ hk
        exact ih.1 k env (by omega) (hC.kid e he k hk) hB hr (by omega)) (fun p hp=>by
        have:=wG hp
        have:0<e.sub.length:=QQ hp
        exact (ih.2 p env (by omega) (hC.sub e he p hp) hB hr (by omega)).1)
      exact ⟨_,this⟩
    · intro p env hz hp hB hr hl
      refine cAh hC hS hN hd hdl hB (by omega) hp fun e he r hrb=>?_
      have:=aGf he
      refine ih.1 e (r::env) (by omega) (hC.part p hp e he) (fun x hx=>?_) (fun x hx=>?_) (by simp only [QT]; omega)
      · rcases QU.1 hx with rfl | hx
        · exact hrb.2
        · exact hB x hx
      · rcases QU.1 hx with rfl | hx
        · have:=hrb.1; omega
        · exact hr x hx
end
theorem bK7 (p:List Int) (hp:p.length≤1048576):Yes (aI5 p 4) fun r=>0<r∧r≤4:=by
  unfold aI5
  have e:Int.tdiv (p.length:Int) 20=(p.length:Int) / 20:=Int.tdiv_eq_ediv_of_nonneg (by omega)
  rw [e,dD (n:=(p.length:Int) / 20) (by omega) (by omega),dD (by omega) (by omega)]
  refine Yes.ite (fun _=>Yes.some ⟨by omega,by omega⟩) fun h=>Yes.some ⟨by omega,by simp at h; omega⟩
theorem bLu {l:List aB}:∀ {k:Nat} {x y:aB} {b:Nat},l[k]?=some x→bA y≤bA x+b→zL bA (l.set k y)≤zL bA l+b:=by
  induction l with
  | nil=>intro k x y b h; simp at h
  | cons z l ih =>
    intro k x y b h hb
    cases k with
    | zero=>simp at h; subst h; simp only [XO,zL,QT,QN,WL]; omega
    | succ k =>
      simp at h
      have:=ih (k:=k) h hb
      simp only [List.set_cons_succ,zL,QT,QN,WL] at this ⊢; omega
theorem bUn (y:aA×aJ) (hy:okV 4 y):∀ n (t:List UInt8) (b:List Int) (i h:Int),400≤n+t.length→t.length≤810→okCur ⟨b,i,h⟩→Yes (aAx y t b i h) (okV 810):=by
  obtain ⟨⟨h1,h2,_⟩,_,_⟩:=hy
  intro n
  have fin:∀ (t:List UInt8) (b:List Int) (i h:Int),t.length≤810→okCur ⟨b,i,h⟩→Yes (xJ y.1.kind y.1.num t b i h) (okV 810):=fun t b i h ht ho=>by
    unfold xJ
    exact Yes.some (okV_mk h1 h2 ht (by omega) ho)
  induction n with
  | zero =>
    intro t b i h ht hl ho
    rw [aAx]
    refine Yes.bind (jH _ _ ho) fun r k=>Yes.bind (Q:=fun q=>q=false) ⟨_,rfl,by split <;> simp; omega⟩ fun q hq=>?_
    subst hq
    exact fin _ _ _ _ hl k
  | succ n ih =>
    intro t b i h ht hl ho
    rw [aAx]
    refine Yes.bind (jH _ _ ho) fun r k=>Yes.bind (Q:=fun q=>q=true→t.length<400) ⟨_,rfl,fun hq=>by cases hr:r.1 <;> simp [hr] at hq; omega⟩ fun q hq=>Yes.ite (fun hq2=>?_) fun _=>fin _ _ _ _ hl k
    have:=hq hq2
    refine Yes.bind (Q:=fun z=>z=t++t) ⟨_,aNa (by omega),rfl⟩ fun z hz=>?_
    subst hz
    refine Yes.bind (Q:=fun z=>z=(t++t)++[48,49,50,51,52,53,54,55,56,57]) ⟨_,aNa (by simp; omega),rfl⟩ fun z hz=>?_
    subst hz
    exact ih _ _ _ _ (by simp; omega) (by simp; omega) k
theorem bVj (c:aJ) (h:okCur c):Yes (aIx c) (okV 810):=by
  unfold aIx
  refine Yes.bind (bI3 _ h) fun y hy=>?_
  have hy':=hy
  obtain ⟨⟨h1,h2,h3⟩,h4,k⟩:=hy
  refine Yes.bind (iQ _ _ k) fun r ⟨_,_,k⟩=>Yes.ite (fun _=>?_) fun _=>Yes.ite (fun _=>?_) fun _=>Yes.ite (fun _=>?_) fun _=>?_
  · refine Yes.bind (iQ _ _ k) fun r ⟨a0,a1,k⟩=>?_
    have:=a1 (by decide)
    unfold xJ
    exact Yes.some (okV_mk (by rw [dD (by omega) (by omega)]; exact okI_small (by omega) (by omega)) h2 (by omega) (by omega) k)
  · refine Yes.bind (E9 _ k) fun r ⟨a0,k⟩=>?_
    unfold xJ
    exact Yes.some (okV_mk h1 a0 (by omega) (by omega) k)
  · refine Yes.bind (aBp _ _ (by decide) k) fun r ⟨hm,k⟩=>?_
    have:∀ v∈([[120],[],[108,111,110,103]]:List (List UInt8)),v.length≤4:=by decide
    have:=this _ hm
    exact bUn y hy' 400 _ _ _ _ (by omega) (by omega) k
  · unfold xJ
    exact Yes.some (okV_mk h1 h2 (by omega) (by omega) k)
theorem zP (q:aQ):eU q=zTb q.tables+zL z0 q.tables+zL (zL bA) q.on_+zL bA q.where_+zL tZ q.order+zL bA q.items+zL XP q.names:=by
  obtain ⟨a0,a1,a2,a3,a4,a5,a6,a7⟩:=q
  simp only [eU,Z9,aJ2,aK6,zL]
theorem bXn:∀ (n:Nat) (e:aB) (c:aJ),bA e<n→bA e≤400000→okCur c→Yes (aDk c e) (FZ (bA e+900)):=by
  intro n
  induction n with
  | zero=>intro e c h; omega
  | succ n ih =>
    intro e c hn hz h
    have hE:=V9 e
    have lk:e.kids.length≤zL bA e.kids:=by unfold zL; omega
    have ls:e.sub.length≤zL eU e.sub:=by unfold zL; omega
    have J:∀ a b q (v:aA) u t cb ci ch (ss:List aQ),okCur ⟨cb,ci,ch⟩→uY v+zL bA e.kids+zL eU ss≤bA e+900→Yes (xK e a b q v.kind v.num v.text u t cb ci ch ss) (FZ (bA e+900)):=fun a b q v u t cb ci ch ss k hl=>by
      unfold xK
      refine Yes.some ⟨?_,k⟩
      show bA _≤_
      rw [yL]; exact hl
    rw [aDk]
    refine Yes.bind (P7 _ _ _ _ h) fun r k=>Yes.bind (Q:=fun q=>q=true→0<(e.kids.length:Int)) ⟨_,rfl,?_⟩ fun q hq=>Yes.ite (fun hq2=>?_) fun _=>?_
    · intro h1
      by_cases h0:0<(e.kids.length:Int)
      · exact h0
      · rw [if_neg (by simpa using h0)] at h1; exact absurd h1 (by simp)
    · have h0:=hq hq2
      refine Yes.bind (iQ _ _ k) fun r ⟨b0,b1,k⟩=>?_
      obtain ⟨v,hv0,hv⟩:=aTz (l:=e.kids) b0 (b1 h0)
      have hg:e.kids[r.1.toNat]?=some v:=by unfold idx at hv; rw [if_pos b0] at hv; exact hv
      have hl:=aHu (z:=bA) hv0
      refine Yes.bind (Q:=fun z=>z=v) ⟨v,hv,rfl⟩ fun z hz2=>?_
      subst hz2
      have hlen:e.kids.length+(e.kids.map bA).sum=zL bA e.kids:=rfl
      have hpos:=QQ hv0
      refine Yes.bind (ih z _ (by omega) (by omega) k) fun r2 ⟨h5,k⟩=>Yes.some ⟨?_,k⟩
      have:=bLu (b:=900) hg h5
      show bA _≤_
      rw [yL]; omega
    · refine Yes.bind (iQ _ _ k) fun r ⟨_,_,k⟩=>Yes.ite (fun _=>?_) fun _=>Yes.ite (fun _=>?_) fun _=>Yes.ite (fun _=>?_) fun _=>Yes.ite (fun _=>?_) fun _=>Yes.ite (fun _=>?_) fun _=>Yes.ite (fun _=>?_) fun _=>?_
      · exact Yes.bind (E9 _ k) fun r ⟨hi,k⟩=>J _ _ _ e.value _ _ _ _ _ _ k (by omega)
      · exact Yes.bind (E9 _ k) fun r ⟨hi,k⟩=>J _ _ _ e.value _ _ _ _ _ _ k (by omega)
      · exact Yes.bind (E9 _ k) fun r ⟨hi,k⟩=>J _ _ _ e.value _ _ _ _ _ _ k (by omega)
      · exact Yes.bind (E9 _ k) fun r ⟨hi,k⟩=>J _ _ _ e.value _ _ _ _ _ _ k (by omega)
      · exact Yes.bind (bVj _ k) fun r hr=>J _ _ _ r.1 _ _ _ _ _ _ hr.2.2 (by have:=zV hr.2.1 hr.1.2.1; omega)
      · exact J _ _ _ e.value _ _ _ _ _ _ k (by omega)
      · refine Yes.bind (lK (by simp; omega)) fun y hy=>?_
        subst hy
        refine J _ _ _ e.value _ _ _ _ _ _ k ?_
        have:eU (aQ.mk [] [] [] [] [] [] false 0)=0:=by simp [eU,C9,aFk,aH5,zL,zTb]
        simp only [zL,QK,QT,QP,WP,QN,QX,List.sum_append,WL,WQ,this] at hE ⊢
        omega
theorem bYc (c:aJ) (ty:Int) (h:okCur c):Yes (V5 c ty) fun r=>okI r.1.num∧okCur r.2:=by
  unfold V5
  refine Yes.bind (P7 _ _ _ _ h) fun r k=>Yes.bind (Q:=fun _=>True) ⟨_,rfl,trivial⟩ fun q _=>Yes.ite (fun _=>?_) fun _=>?_
  · exact Yes.bind (iQ _ _ k) fun r ⟨b0,b1,k⟩=>Yes.bind (Q:=fun v:aA=>okI v.num) ⟨_,rfl,okI_w⟩ fun v hv=>Yes.some ⟨hv,k⟩
  · exact Yes.bind (bI9 _ _ k) fun r ⟨⟨_,hn⟩,k⟩=>Yes.some ⟨hn,k⟩
def bHy (t:jR):Prop:=t.rows.length≤4∧∀ r∈t.rows,eO 1 r
def dbG (n:Nat) (d:GDb):Prop:=d.tables.length≤n∧∀ t∈d.tables,bHy t
def okG (r:GDb×aJ):Prop:=dbG 3 r.1∧okCur r.2
theorem bZc {cat:aR} (hC:CR cat) (c:aJ) (h:okCur c):Yes (aLa c cat) okG:=by
  have hl:=hC.1.2
  have L0:∀ x,x≤cat.tables.length→∀ b i g (T:List jR),T.length=x→(∀ t∈T,bHy t)→okCur ⟨b,i,g⟩→Yes (aEb cat (x:Nat) b i g T) okG:=by
    refine dZ ?_ ?_
    · intro b i g T hT hG k
      rw [aEb,if_neg (by simp)]
      exact Yes.some ⟨⟨by show T.length≤3; omega,hG⟩,k⟩
    · intro x hx ih b i g T hT hG k
      have hcl:=(hC.2 _ (QG hx)).1.2
      rw [aEb,if_pos (by simpa using hx)]
      refine Yes.bind (iQ _ _ k) fun y1 ⟨y0,y5,k⟩=>?_
      have y5:=y5 (by decide)
      have L1:∀ (m:Nat) (n:Int) (rows:Rows) b i g,y1.1≤m+n→0≤n→n≤4→(rows.length:Int)=n→(∀ r∈rows,eO 1 r)→okCur ⟨b,i,g⟩→Yes (aB1 (x:Int) y1 cat T n rows (b,i,g)) okG:=by
        intro m
        have fin:∀ (n:Int) (rows:Rows) b i g,¬ n<y1.1→n≤4→(rows.length:Int)=n→(∀ r∈rows,eO 1 r)→okCur ⟨b,i,g⟩→Yes (aB1 (x:Int) y1 cat T n rows (b,i,g)) okG:=by
          intro n rows b i g hn h4 hr hB k
          rw [aB1,if_neg (by simpa using hn)]
          refine Yes.bind (lK (by simp only [QD]; omega)) fun z hz=>?_
          subst hz
          rw [dR hx (by omega)]
          exact ih _ _ _ _ (by simp [hT]) (oL hG ⟨by show rows.length≤4; omega,hB⟩) k
        induction m with
        | zero=>intro n rows b i g h1 h0 h4 hr hB k; exact fin n rows b i g (by omega) h4 hr hB k
        | succ m ihm =>
          intro n rows b i g h1 h0 h4 hr hB k
          by_cases hn:n<y1.1
          case neg=>exact fin n rows b i g hn h4 hr hB k
          rw [aB1,if_pos (by simpa using hn)]
          have L2:∀ j,j≤cat.tables[x].cols.length→∀ (row:Row1) b i g,row.length=j→(∀ v∈row,okI v.num)→okCur ⟨b,i,g⟩→Yes (U9 (x:Int) y1 n cat rows T row ((j:Nat),b,i,g)) okG:=by
            refine dZ ?_ ?_
            · intro row b i g hj hv k
              rw [U9]
              simp only [bP hx,dN,WD,decide_false,QC,if_false,QB,QA]
              refine Yes.bind (lK (by simp only [QD]; omega)) fun z hz=>?_
              subst hz
              rw [dD (by omega) (by omega)]
              refine ihm (n+1) _ _ _ _ (by omega) (by omega) (by omega) (by simp only [QK,QD]; omega) (oL hB ⟨by omega,hv⟩) k
            · intro j hj ihj row b i g hrl hv k
              rw [U9]
              simp only [bP hx,dN,hj,decide_true,if_true,bP hj,QB,QA]
              refine Yes.bind (bYc _ _ k) fun r ⟨hn,k⟩=>Yes.bind (lK (by simp only [QD]; omega)) fun z hz=>?_
              subst hz
              rw [dR hj (by omega)]
              exact ihj _ _ _ _ (by simp [hrl]) (oL hv hn) k
          have:=L2 0 (by omega) [] b i g rfl (by simp) k
          simpa using this
      have:=L1 y1.1.toNat 0 [] y1.2.b y1.2.i y1.2.h (by omega) (by omega) (by omega) rfl (by simp) k
      exact this
  unfold aLa
  have:=L0 0 (by omega) c.b c.i c.h [] rfl (by simp) h
  simpa using this
theorem aU3:Closed 19 4 (fun e=>bA e≤1048576) (fun p=>eU p≤1048576) where
  val e h:=by have:=V9 e; exact bSn (by omega)
  kid e h k hk:=by have:=yG hk; omega
  sub e h p hp:=by have:=wG hp; omega
  plan p h:=by
    have hz:=yD p
    have hl:=aCn p
    have t2:p.tables.length≤2:=by
      have:zTb p.tables≤1048576:=by omega
      unfold zTb at this; omega
    refine ⟨by omega,?_,by omega,fun l hl2=>?_,by omega,by omega,by omega⟩
    · exact QS (XG (by omega) t2) (by decide)
    · have:=vE (z:=zL bA) hl2
      have:=nE (z:=bA) l
      omega
  part p h e he:=by have:=aGf he; omega
  len e h:=by have:=aRm e; omega
  ze e h:=h
  zp p h:=h
theorem aXt {n:Nat} {d:GDb} (h:dbG n d):DbB 4 d:=⟨by omega,fun t ht=>(h.2 t ht).1,fun t ht=>(h.2 t ht).2⟩
theorem bV9 (c:aJ) (h:okCur c):Yes (aFv c) (okV 4):=by
  unfold aFv aJt
  refine Yes.bind (bI3 _ h) fun r ⟨⟨h1,h2,h3⟩,h4,k⟩=>Yes.bind (Q:=fun _=>True) ⟨_,rfl,trivial⟩ fun b _=>Yes.ite (fun _=>Yes.some ?_) fun _=>Yes.some ?_
  · exact okV_mk h1 (by unfold okI; omega) h4 (by omega) k
  · exact okV_mk h1 h2 h4 (by omega) k
theorem cAg (B:Nat) (d:Int) (m:Int) (hm:m≤3) (H:∀ c,okCur c→Yes (uC c (QH .i64 (d - 1))) (okE B)) :
    ∀ (k:Nat) (i:Int) b j h (l:List aB),m≤k+i→0≤i→i≤3→(l.length:Int)≤i→(∀ y∈l,FE B y)→okCur ⟨b,j,h⟩→Yes (aDs d m i b j h l) (okKs B):=by
  intro k
  induction k with
  | zero =>
    intro i b j h l h1 h2 h3 h4 h5 h6
    rw [aDs,if_neg (by simp; omega)]
    exact Yes.some ⟨⟨by show l.length≤3; omega,h5⟩,h6⟩
  | succ k ih =>
    intro i b j h l h1 h2 h3 h4 h5 h6
    rw [aDs]
    refine Yes.ite (fun hi=>?_) fun _=>Yes.some ⟨⟨by show l.length≤3; omega,h5⟩,h6⟩
    have hi':i<m:=by simpa using hi
    refine Yes.bind (H _ h6) fun r ⟨hz,hr⟩=>Yes.bind (lK (by simp; omega)) fun y hy=>?_
    subst hy
    rw [dD (by omega) (by omega)]
    refine ih _ _ _ _ _ (by omega) (by omega) (by omega) (by simp; omega) (fun y hy=>?_) hr
    rcases QM.1 hy with hy | hy
    · exact h5 y hy
    · have:y=r.1:=by simpa using hy
      rw [this]; exact hz
theorem bEv (B:Nat) (d:Int) (m:Int) (hm:m≤3) (H:∀ c,okCur c→Yes (uC c (QH .i64 (d - 1))) (okE B)) (c:aJ) (h:okCur c):Yes (vV c d m) (okKs B):=by
  rw [vV]
  exact cAg B d m hm H m.toNat 0 c.b c.i c.h [] (by omega) (by omega) (by omega) (by simp) (by simp) h
theorem bMz {B:Nat} {d:Int} (H:∀ c,okCur c→Yes (uC c d) (okE B)) (HK:∀ c,okCur c→Yes (vV c (QH .i64 (d+1)) 1) (okKs B)) (c:aJ) (h:okCur c):Yes (aCl c d) (okP B):=by
  have J4:∀ y1 (w:List aB) n i o t b j g r,pL 3 B w→pN 2 n→pL 2 B i→0<i.length→pO 2 B o→pT 2 t→pK B r→okCur ⟨b,j,g⟩→Yes (aG6 y1 w n i o t b j g r) (okP B):=fun y1 w n i o t b j g r hw hn hi hi0 ho ht hr k=>by
    unfold aG6 aHw
    refine Yes.bind (jH _ _ k) fun q k=>Yes.ite (fun _=>?_) fun _=>?_
    · exact Yes.bind (E9 _ k) fun q ⟨hq,k⟩=>Yes.some ⟨mkP ht ho hw hr hi hn hq hi0,k⟩
    · exact Yes.some ⟨mkP ht ho hw hr hi hn (okI_small (by omega) (by omega)) hi0,k⟩
  have J3:∀ y1 n i o t b j g (w:List aB),pL 3 B w→pN 2 n→pL 2 B i→0<i.length→pO 2 B o→pT 2 t→okCur ⟨b,j,g⟩→Yes (aE0 d y1 n i o t (b,j,g,w)) (okP B):=fun y1 n i o t b j g w hw hn hi hi0 ho ht k=>by
    rw [aE0]
    refine Yes.bind (jH _ _ k) fun q k=>Yes.ite (fun _=>?_) fun _=>?_
    · refine Yes.bind (H _ k) fun q ⟨hq,k⟩=>Yes.bind (jH _ _ k) fun q2 k=>Yes.bind (lK (by simp)) fun z hz=>?_
      subst hz
      exact J4 _ _ _ _ _ _ _ _ _ _ hw hn hi hi0 ho ht ⟨by simp,mem1 (p:=fun (k:bF)=>FE B k.expr) hq⟩ k
    · exact J4 _ _ _ _ _ _ _ _ _ _ hw hn hi hi0 ho ht ⟨by simp,by simp⟩ k
  have L2:∀ (y12:Int×aJ) y1 o t,0≤y12.1→y12.1<2→pO 2 B o→pT 2 t→∀ (m:Nat) (x:Int) b j g n i,2≤m+x→0≤x→x≤2→pN x n→pL x B i→x≤i.length→okCur ⟨b,j,g⟩→Yes (X8 d y12 y1 o t x (b,j,g,n,i)) (okP B):=by
    intro y12 y1 o t y0 y2 ho ht m
    have e0:QH .i64 (1+y12.1)=1+y12.1:=dD (by omega) (by omega)
    have fin:∀ (x:Int) b j g n i,¬ x<1+y12.1→x≤2→pN x n→pL x B i→x≤i.length→okCur ⟨b,j,g⟩→Yes (X8 d y12 y1 o t x (b,j,g,n,i)) (okP B):=by
      intro x b j g n i hx h2 hn hi hi0 k
      have hi0':0<i.length:=by omega
      rw [X8,e0,if_neg (by simpa using hx)]
      have hn2:pN 2 n:=⟨by have:=hn.1; omega,hn.2⟩
      have hi2:pL 2 B i:=⟨by have:=hi.1; omega,hi.2⟩
      refine Yes.bind (jH _ _ k) fun q k=>Yes.ite (fun _=>?_) fun _=>?_
      · exact Yes.bind (HK _ k) fun q ⟨⟨q1,q2⟩,k⟩=>J3 _ _ _ _ _ _ _ _ _ ⟨by omega,q2⟩ hn2 hi2 hi0' ho ht k
      · exact J3 _ _ _ _ _ _ _ _ _ ⟨by simp,by simp⟩ hn2 hi2 hi0' ho ht k
    induction m with
    | zero=>intro x b j g n i h1 h2 h3 hn hi hi0 k; exact fin x b j g n i (by omega) h3 hn hi hi0 k
    | succ m ih =>
      intro x b j g n i h1 h2 h3 hn hi hi0 k
      by_cases hx:x<1+y12.1
      · rw [X8,e0,if_pos (by simpa using hx)]
        have l1:=hn.1
        have l2:=hi.1
        refine Yes.bind (H _ k) fun q ⟨hq,k⟩=>Yes.bind (lK (by simp; omega)) fun z hz=>Yes.bind (bAt _ k) fun s ⟨hs,k⟩=>Yes.bind (lK (by simp; omega)) fun z2 hz2=>?_
        subst hz hz2
        rw [dD (by omega) (by omega)]
        exact ih _ _ _ _ _ _ (by omega) (by omega) (by omega) ⟨by simp; omega,oL hn.2 hs⟩ ⟨by simp; omega,oL hi.2 hq⟩ (by simp; omega) k
      · exact fin x b j g n i hx h3 hn hi hi0 k
  have L0:∀ (y2:Int×aJ) y1,0≤y2.1→y2.1<2→∀ (m:Nat) (x:Int) b j g o t,2≤m+x→0≤x→x≤2→pO x B o→pT x t→okCur ⟨b,j,g⟩→Yes (Z8 d y2 y1 x b j (g,o,t)) (okP B):=by
    intro y2 y1 y0 yl m
    have e0:QH .i64 (1+y2.1)=1+y2.1:=dD (by omega) (by omega)
    have fin:∀ (x:Int) b j g o t,¬ x<1+y2.1→x≤2→pO x B o→pT x t→okCur ⟨b,j,g⟩→Yes (Z8 d y2 y1 x b j (g,o,t)) (okP B):=by
      intro x b j g o t hx h2 ho ht k
      rw [Z8,e0,if_neg (by simpa using hx)]
      refine Yes.bind (iQ _ _ k) fun q ⟨q0,q1,k⟩=>?_
      exact L2 q y1 o t q0 (q1 (by decide)) ⟨by have:=ho.1; omega,ho.2⟩ ⟨by have:=ht.1; omega,ht.2⟩ 2 0 _ _ _ _ _ (by omega) (by omega) (by omega) ⟨by simp,by simp⟩ ⟨by simp,by simp⟩ (by simp) k
    induction m with
    | zero=>intro x b j g o t h1 h2 h3 ho ht k; exact fin x b j g o t (by omega) h3 ho ht k
    | succ m ih =>
      intro x b j g o t h1 h2 h3 ho ht k
      by_cases hx:x<1+y2.1
      · rw [Z8,e0,if_pos (by simpa using hx)]
        have l1:=ho.1
        have l2:=ht.1
        have J1:∀ (q:Int) (w:List aB) b j g,okI q→w.length≤1→(∀ y∈w,FE B y)→okCur ⟨b,j,g⟩→Yes (aG7 d y2 x y1 (t++[q]) o (b,j,g,w)) (okP B):=fun q w b j g hq hw1 hw2 k=>by
          rw [aG7]
          refine Yes.bind (lK (by simp; omega)) fun z hz=>?_
          subst hz
          rw [dD (by omega) (by omega)]
          exact ih _ _ _ _ _ _ (by omega) (by omega) (by omega) ⟨by simp; omega,oL ho.2 ⟨hw1,hw2⟩⟩ ⟨by simp; omega,oL ht.2 hq⟩ k
        refine Yes.bind (iQ _ _ k) fun q ⟨q0,q1,k⟩=>Yes.bind (lK (by simp; omega)) fun z hz=>Yes.bind (P7 _ _ _ _ k) fun q2 k=>Yes.bind (Q:=fun _=>True) ⟨_,rfl,trivial⟩ fun _ _=>?_
        have hq:=q1 (by decide)
        subst hz
        refine Yes.ite (fun _=>?_) fun _=>?_
        · refine Yes.bind (H _ k) fun e ⟨he,k⟩=>Yes.bind (lK (by simp)) fun z hz=>?_
          subst hz
          exact J1 _ _ _ _ _ (okI_small (by omega) (by omega)) (by simp) (mem1 he) k
        · exact J1 _ _ _ _ _ (okI_small (by omega) (by omega)) (by simp) (by simp) k
      · exact fin x b j g o t hx h3 ho ht k
  rw [aCl]
  refine Yes.bind (jH _ _ h) fun y1 k=>Yes.bind (iQ _ _ k) fun y2 ⟨q0,q1,k⟩=>?_
  exact L0 y2 y1 q0 (q1 (by decide)) 2 0 _ _ _ _ _ (by omega) (by omega) (by omega) ⟨by simp,by simp⟩ ⟨by simp,by simp⟩ k
theorem okV_E {B:Nat} {r:aA×aJ} {a b u t:Int} {q:Bool} (h:okV B r) (h1:okI a) (h2:okI b) (h4:okI u) (h5:okI t):FE B (aB.mk a b q r.1 u t [] []) :=
  ⟨mkE h1 h2 h.1 h4 h5 (by simp) (by simp) (by simp) (by simp),by rw [yL]; have:=zV h.2.1 h.1.2.1; simp [zL]; omega⟩
theorem aJx {B:Nat} {a b u t:Int} {q:Bool} {ks:List aB} (h1:okI a) (h2:okI b) (h4:okI u) (h5:okI t) (hk:ks.length≤3∧∀ y∈ks,FE B y):FE (60+11 * B) (aB.mk a b q ⟨0,0,[]⟩ u t ks []) :=
  ⟨mkE h1 h2 aRy h4 h5 (by omega) (fun y hy=>(hk.2 y hy).1) (by simp) (by simp),by rw [yL,show uY ⟨0,0,[]⟩=0 by decide]; have:=pU (z:=bA) hk.1 fun y hy=>(hk.2 y hy).2; simp only [zL,QP,QX,WQ] at this ⊢; omega⟩
theorem bB1 {B:Nat} {a b u t:Int} {q:Bool} {ks:List aB} {p:aQ} (h1:okI a) (h2:okI b) (h4:okI u) (h5:okI t) (hk:ks.length≤3∧∀ y∈ks,FE B y) (hp:okGPlan p∧eU p≤40+8 * B∧0<p.items.length):FE (60+11 * B) (aB.mk a b q ⟨0,0,[]⟩ u t ks [p]) :=
  ⟨mkE h1 h2 aRy h4 h5 (by omega) (fun y hy=>(hk.2 y hy).1) (by simp) (mem1 hp.1),by rw [yL,show uY ⟨0,0,[]⟩=0 by decide]; have:=pU (z:=bA) hk.1 fun y hy=>(hk.2 y hy).2; have:=hp.2.1; simp only [zL,QP,QT,QN,QX,WL,WQ] at *; omega⟩
theorem bDl (c:aJ) (h:okCur c) (B:Nat) (hB:10≤B):Yes ((fI c 2)>>=fun (y3:Bool×aJ)=>if y3.1=true then ((fJ y3.2 3)>>=fun (y4:Int×aJ)=>(fJ y4.2 4)>>=fun (y5:Int×aJ)=>some ((aB.mk 2 0 false (aA.mk 0 0 []) y4.1 y5.1 ([]:List aB) ([]:List aQ)),y5.2)) else ((aFv y3.2)>>=fun (y6:aA×aJ)=>some ((aB.mk 1 0 false y6.1 0 0 ([]:List aB) ([]:List aQ)),y6.2))) (okE B):=by
  have o:∀ n:Int,-1000≤n→n≤1000→okI n:=fun n h0 h1=>okI_small h0 h1
  refine Yes.bind (jH _ _ h) fun r k=>Yes.ite (fun _=>?_) fun _=>?_
  · refine Yes.bind (iQ _ _ k) fun r ⟨a0,a1,k⟩=>Yes.bind (iQ _ _ k) fun r2 ⟨b0,b1,k⟩=>Yes.some ⟨⟨?_,?_⟩,k⟩
    · have:=a1 (by decide); have:=b1 (by decide)
      exact mkE (o _ (by omega) (by omega)) (o _ (by omega) (by omega)) aRy (o _ (by omega) (by omega)) (o _ (by omega) (by omega)) (by simp) (by simp) (by simp) (by simp)
    · have v0:uY ⟨0,0,[]⟩=0:=by decide
      rw [yL,v0]; simp [zL]
  · refine Yes.bind (bV9 _ k) fun r hr=>Yes.some ⟨?_,hr.2.2⟩
    have:=okV_E (B:=4) (q:=false) hr (o 1 (by omega) (by omega)) (o 0 (by omega) (by omega)) (o 0 (by omega) (by omega)) (o 0 (by omega) (by omega))
    refine ⟨this.1,?_⟩
    have h2:=this.2
    show bA (aB.mk 1 0 false r.1 0 0 [] [])≤B
    omega
theorem bS4:∀ (n:Nat) (d:Int) (c:aJ),-100≤d→d≤n→n≤4→okCur c→Yes (uC c d) (okE (Zb n)):=by
  intro n
  have o:∀ n:Int,-1000≤n→n≤1000→okI n:=fun n h0 h1=>okI_small h0 h1
  induction n with
  | zero =>
    intro d c hd0 hd _ h
    rw [uC]
    refine Yes.bind (P7 _ _ _ _ h) fun r k=>Yes.bind (Q:=fun q=>q=true) ⟨_,rfl,by rw [if_pos (by simpa using hd)]⟩ fun q hq=>?_
    rw [if_pos hq]
    exact bDl _ k _ (WS _)
  | succ n ih =>
    intro d c hd0 hd hn h
    have hB:Zb (n+1)=60+11 * Zb n:=rfl
    rw [uC]
    refine Yes.bind (P7 _ _ _ _ h) fun r k=>Yes.bind (Q:=fun q=>q=true∨0<d) ⟨_,rfl,?_⟩ fun q hq=>Yes.ite (fun _=>bDl _ k _ (bNj _)) fun hq2=>?_
    · by_cases h0:d≤0
      · exact .inl (by rw [if_pos (by simpa using h0)])
      · exact .inr (by omega)
    · have h0:0<d:=hq.resolve_left hq2
      rw [hB]
      have e1:QH .i64 (d - 1)=d - 1:=dD (by omega) (by omega)
      have K:∀ m c,m≤3→okCur c→Yes (vV c d m) (okKs (Zb n)):=fun m c hm k=>bEv (Zb n) d m hm (fun c k=>by rw [e1]; exact ih _ c (by omega) (by omega) (by omega) k) c k
      have P2:∀ c,1<d→okCur c→Yes (aCl c (QH .i64 (d - 2))) (okP (Zb n)):=fun c h2 k=>by
        rw [dD (n:=d - 2) (by omega) (by omega)]
        have H:∀ c,okCur c→Yes (uC c (d - 2)) (okE (Zb n)):=fun c k=>ih _ c (by omega) (by omega) (by omega) k
        exact bMz H (fun c k=>bEv (Zb n) _ 1 (by omega) (fun c k=>by rw [dD (n:=d - 2+1) (by omega) (by omega),dD (by omega) (by omega)]; have:=H c k; rwa [show d - 2+1 - 1=d - 2 by omega]) c k) c k
      have J0:∀ y:Int×aJ,okCur y.2→Yes (aE4 d y) (okE (60+11 * Zb n)):=fun y k=>by
        rw [aE4]
        exact Yes.bind (iQ _ _ k) fun r ⟨a0,a1,k⟩=>Yes.bind (K 2 _ (by omega) k) fun r2 ⟨hk,k⟩=>Yes.some ⟨aJx (o _ (by omega) (by omega)) (bD3 _ (by omega) (by have:=a1 (by decide); omega)) (o _ (by omega) (by omega)) (o _ (by omega) (by omega)) hk,k⟩
      refine Yes.bind (iQ _ _ k) fun r ⟨_,_,k⟩=>Yes.ite (fun _=>?_) fun _=>Yes.ite (fun _=>?_) fun _=>Yes.ite (fun _=>?_) fun _=>Yes.ite (fun _=>?_) fun _=>Yes.ite (fun _=>?_) fun _=>Yes.ite (fun _=>?_) fun _=>J0 _ k
      · exact Yes.bind (iQ _ _ k) fun r ⟨a0,a1,k⟩=>Yes.bind (K 1 _ (by omega) k) fun r2 ⟨hk,k⟩=>Yes.some ⟨aJx (o _ (by omega) (by omega)) (bD3 _ (by omega) (by have:=a1 (by decide); omega)) (o _ (by omega) (by omega)) (o _ (by omega) (by omega)) hk,k⟩
      · exact Yes.bind (jH _ _ k) fun r k=>Yes.bind (K 1 _ (by omega) k) fun r2 ⟨hk,k⟩=>Yes.some ⟨aJx (o _ (by omega) (by omega)) (o _ (by omega) (by omega)) (o _ (by omega) (by omega)) (o _ (by omega) (by omega)) hk,k⟩
      · exact Yes.bind (jH _ _ k) fun r k=>Yes.bind (K 3 _ (by omega) k) fun r2 ⟨hk,k⟩=>Yes.some ⟨aJx (o _ (by omega) (by omega)) (o _ (by omega) (by omega)) (o _ (by omega) (by omega)) (o _ (by omega) (by omega)) hk,k⟩
      · exact Yes.bind (jH _ _ k) fun r k=>Yes.bind (K 3 _ (by omega) k) fun r2 ⟨hk,k⟩=>Yes.some ⟨aJx (o _ (by omega) (by omega)) (o _ (by omega) (by omega)) (o _ (by omega) (by omega)) (o _ (by omega) (by omega)) hk,k⟩
      · refine Yes.ite (fun h2=>?_) fun _=>J0 _ k
        exact Yes.bind (jH _ _ k) fun r k=>Yes.bind (K 1 _ (by omega) k) fun r2 ⟨hk,k⟩=>Yes.bind (P2 _ (by simpa using h2) k) fun r3 ⟨hp,k⟩=>Yes.some ⟨bB1 (o _ (by omega) (by omega)) (o _ (by omega) (by omega)) (o _ (by omega) (by omega)) (o _ (by omega) (by omega)) hk hp,k⟩
      · refine Yes.ite (fun h2=>?_) fun _=>J0 _ k
        exact Yes.bind (P2 _ (by simpa using h2) k) fun r3 ⟨hp,k⟩=>Yes.some ⟨bB1 (o _ (by omega) (by omega)) (o _ (by omega) (by omega)) (o _ (by omega) (by omega)) (o _ (by omega) (by omega)) ⟨by simp,by simp⟩ hp,k⟩
def Zq:Nat→Nat
  | 0=>10
  | n+1=>4+4 * Zq n
theorem bF6 (n:Nat):10≤Zq n:=by
  induction n with
  | zero=>simp [Zq]
  | succ n ih=>simp only [Zq]; omega
theorem P9 {B:Nat} {a b u t:Int} {q:Bool} {ks:List aB} (hk:ks.length≤4∧∀ y∈ks,bA y≤B):bA (aB.mk a b q ⟨0,0,[]⟩ u t ks [])≤4+4 * B:=by
  have v0:uY ⟨0,0,[]⟩=0:=by decide
  rw [yL,v0]; have:=pU (z:=bA) hk.1 hk.2; simp only [zL,QP,QX,WQ] at this ⊢; omega
theorem bIj {B:Nat} {a b u t:Int} {q:Bool} {ks:List aB} {p:aQ} (hk:ks.length≤1∧∀ y∈ks,bA y≤B) (hp:eU p≤32+2 * B) (h30:30≤B):bA (aB.mk a b q ⟨0,0,[]⟩ u t ks [p])≤4+4 * B:=by
  have v0:uY ⟨0,0,[]⟩=0:=by decide
  rw [yL,v0]; have:=pU (z:=bA) hk.1 hk.2; simp only [zL,QP,QT,QN,QX,WL,WQ] at *; omega
theorem cBi {cat:aR} (hc:nN cat):∀ (n:Nat) (d:Int) (c:aJ) (ty:Int) (env:List (List Int)),-100≤d→d≤n→n≤4→nH env→env.length+n≤1000→okCur c→Yes (uG c cat env ty d) (FZ (Zq n)):=by
  intro n
  induction n using Nat.strongRecOn with
  | ind n ih0 =>
  cases n with
  | zero =>
    intro d c ty env hd0 hd _ hv hl h
    rw [uG]
    refine Yes.bind (P7 _ _ _ _ h) fun r k=>Yes.bind (Q:=fun q=>q=true) ⟨_,rfl,by rw [if_pos (by simpa using hd)]⟩ fun q hq=>?_
    rw [if_pos hq]
    exact bDm _ env hv (by omega) ty k _ (WS _)
  | succ n =>
    have ih:=ih0 n (QY n)
    intro d c ty env hd0 hd hn hv hl h
    have hB:Zq (n+1)=4+4 * Zq n:=rfl
    rw [uG]
    refine Yes.bind (P7 _ _ _ _ h) fun r k=>Yes.bind (Q:=fun q=>q=true∨0<d) ⟨_,rfl,?_⟩ fun q hq=>Yes.ite (fun _=>bDm _ env hv (by omega) ty k _ (bF6 _)) fun hq2=>?_
    · by_cases h0:d≤0
      · exact .inl (by rw [if_pos (by simpa using h0)])
      · exact .inr (by omega)
    have h0:0<d:=hq.resolve_left hq2
    rw [hB]
    have e1:QH .i64 (d - 1)=d - 1:=dD (by omega) (by omega)
    have K:∀ m c ty,m≤4→okCur c→Yes (pM c cat env ty d m) (KZ (Zq n) 4):=fun m c ty hm k=>bOv (Zq n) cat env ty d m hm (fun c k=>by rw [e1]; exact ih _ c ty env (by omega) (by omega) (by omega) hv (by omega) k) c k
    have K1:∀ c ty,okCur c→Yes (pM c cat env ty d 1) (KZ (Zq n) 1):=fun c ty k=>bVd (Zq n) cat env ty d (fun c k=>by rw [e1]; exact ih _ c ty env (by omega) (by omega) (by omega) hv (by omega) k) c k
    have B30:decide (1<d)=true→30≤Zq n:=fun h2=>by
      have h2:1<d:=by simpa using h2
      obtain ⟨k,rfl⟩:∃ k,n=k+1:=⟨n - 1,by omega⟩
      have:=bF6 k
      simp only [Zq]; omega
    have P2:∀ c (t:Int),1<d→okCur c→Yes (aDj c cat env [t] (QH .i64 (d - 2))) fun r=>eU r.1≤32+2 * Zq n∧okCur r.2:=fun c t h2 k=>by
      rw [dD (n:=d - 2) (by omega) (by omega)]
      obtain ⟨m,rfl⟩:∃ k,n=k+1:=⟨n - 1,by omega⟩
      have e4:Zq (m+1)=4+4 * Zq m:=rfl
      refine (bLp (B:=Zq m) hc env hv (by omega) [t] (by simp) (fun c ty env' he hel k=>ih0 m (by omega) _ c ty env' (by omega) (by omega) (by omega) he (by omega) k) c k).mono fun r hr=>⟨?_,hr.2⟩
      have:=hr.1
      omega
    have J1:∀ (y1 y3:Int×aJ),okCur y3.2→Yes (aBy env d y1 cat y3) (FZ (4+4 * Zq n)):=fun y1 y3 k=>by
      rw [aBy]
      exact Yes.bind (iQ _ _ k) fun r ⟨_,_,k⟩=>Yes.bind (K 2 _ _ (by omega) k) fun r2 ⟨hk,k⟩=>Yes.some ⟨P9 hk,k⟩
    have J0:∀ (y1:Int×aJ) (y2:Bool×aJ) (y3:Int×aJ) x,okCur y3.2→Yes (aF7 env d y1 y2 y3 cat x) (FZ (4+4 * Zq n)):=fun y1 y2 y3 x k=>by
      rw [aF7]
      refine Yes.ite (fun _=>?_) fun _=>Yes.ite (fun _=>?_) fun _=>Yes.ite (fun _=>?_) fun _=>Yes.ite (fun _=>?_) fun _=>Yes.ite (fun _=>?_) fun _=>Yes.ite (fun _=>?_) fun _=>Yes.ite (fun _=>?_) fun _=>J1 _ _ k
      · exact Yes.bind (iQ _ _ k) fun r ⟨_,_,k⟩=>Yes.bind (K 2 _ _ (by omega) k) fun r2 ⟨hk,k⟩=>Yes.some ⟨P9 hk,k⟩
      · exact Yes.bind (K 1 _ _ (by omega) k) fun r2 ⟨hk,k⟩=>Yes.some ⟨P9 hk,k⟩
      · exact Yes.bind (K 1 _ _ (by omega) k) fun r2 ⟨hk,k⟩=>Yes.some ⟨P9 hk,k⟩
      · exact Yes.bind (K 3 _ _ (by omega) k) fun r2 ⟨hk,k⟩=>Yes.some ⟨P9 hk,k⟩
      · refine Yes.bind (iQ _ _ k) fun r ⟨r0,r1,k⟩=>?_
        have:=r1 (by decide)
        exact Yes.bind (K _ _ _ (by rw [dD (by omega) (by omega)]; omega) k) fun r2 ⟨hk,k⟩=>Yes.some ⟨P9 hk,k⟩
      · refine Yes.ite (fun h2=>?_) fun _=>J1 _ _ k
        exact Yes.bind (K1 _ _ k) fun r2 ⟨hk,k⟩=>Yes.bind (P2 _ _ (by simpa using h2) k) fun r3 ⟨hp,k⟩=>Yes.some ⟨bIj hk hp (B30 h2),k⟩
      · refine Yes.ite (fun h2=>?_) fun _=>J1 _ _ k
        exact Yes.bind (P2 _ _ (by simpa using h2) k) fun r3 ⟨hp,k⟩=>Yes.some ⟨bIj ⟨by simp,by simp⟩ hp (B30 h2),k⟩
    refine Yes.ite (fun _=>?_) fun _=>Yes.ite (fun _=>?_) fun _=>?_
    · refine Yes.bind (jH _ _ k) fun r k=>Yes.ite (fun _=>?_) fun _=>?_
      · exact Yes.bind (K 1 _ _ (by omega) k) fun r2 ⟨hk,k⟩=>Yes.some ⟨P9 hk,k⟩
      · exact Yes.bind (iQ _ _ k) fun r ⟨_,_,k⟩=>Yes.bind (K 2 _ _ (by omega) k) fun r2 ⟨hk,k⟩=>Yes.some ⟨P9 hk,k⟩
    · exact Yes.bind (K 2 _ _ (by omega) k) fun r2 ⟨hk,k⟩=>Yes.some ⟨P9 hk,k⟩
    · refine Yes.bind (Q:=FZ (4+4 * Zq n)) ?_ fun r hr=>Yes.some hr
      rw [aQ0]
      exact Yes.bind (iQ _ _ k) fun y1 ⟨_,_,k⟩=>Yes.bind (jH _ _ k) fun y2 k=>Yes.bind (iQ _ _ k) fun y3 ⟨_,_,k⟩=>Yes.ite (fun _=>J0 _ _ _ _ k) fun _=>J0 _ _ _ _ k
def okT20 (r:List (List Int)×aJ):Prop:=(r.1.length≤3∧nH r.1∧∀ x∈r.1,x.length≤2)∧okCur r.2
theorem bNn (c:aJ) (h:okCur c):Yes (aIu c) okT20:=by
  unfold aIu
  refine Yes.bind (iQ _ _ h) fun y1 ⟨y0,y4,k⟩=>?_
  have y4:=y4 (by decide)
  have L:∀ (m:Nat) (i:Int) (T:List (List Int)) b j g,y1.1≤m+i→0≤i→i≤3→(T.length:Int)=i→nH T→(∀ x∈T,x.length≤2)→okCur ⟨b,j,g⟩→Yes (aAw y1 T i b j g) okT20:=by
    intro m
    induction m with
    | zero =>
      intro i T b j g h1 h2 h3 h4 h5 h6 k
      rw [aAw,if_neg (by simp; omega)]
      exact Yes.some ⟨⟨by show T.length≤3; omega,h5,h6⟩,k⟩
    | succ m ih =>
      intro i T b j g h1 h2 h3 h4 h5 h6 k
      rw [aAw]
      refine Yes.ite (fun hi=>?_) fun _=>Yes.some ⟨⟨by show T.length≤3; omega,h5,h6⟩,k⟩
      have hi':i<y1.1:=by simpa using hi
      refine Yes.bind (iQ _ _ k) fun a ⟨a0,a1,k⟩=>Yes.bind (iQ _ _ k) fun b ⟨b0,b1,k⟩=>Yes.bind (iQ _ _ k) fun n ⟨n0,n1,k⟩=>?_
      have a1:=a1 (by decide); have b1:=b1 (by decide); have n1:=n1 (by decide)
      rw [dD (n:=1+a.1) (by omega) (by omega),dD (n:=1+b.1) (by omega) (by omega),dD (n:=1+n.1) (by omega) (by omega)]
      have hsub:=aFl (l:=[1+a.1,1+b.1]) (n:=(1+n.1).toNat) (by simp; omega)
      rw [show (((1+n.1).toNat:Nat):Int)=1+n.1 by omega] at hsub
      rw [hsub]
      simp only [QB,QA]
      have hlen:(List.take (1+n.1).toNat [1+a.1,1+b.1]).length≤2:=by rw [WJ]; simp; omega
      refine Yes.bind (lK (by simp only [QD]; omega)) fun z hz=>?_
      subst hz
      rw [dD (by omega) (by omega)]
      refine ih _ _ _ _ _ (by omega) (by omega) (by omega) (by simp; omega) (oL h5 ⟨by omega,fun x hx=>?_⟩) (oL h6 hlen) k
      have:=XN _ _ hx
      simp only [QU,List.not_mem_nil,or_false] at this
      unfold okT
      omega
  exact L y1.1.toNat 0 [] _ _ _ (by omega) (by omega) (by omega) (by simp) (fun r hr=>by simp at hr) (by simp) k
def okVk (v:aA):Prop:=okI v.num∧okT v.kind
def aYp (env:Rows):Prop:=∀ r∈env,∀ v∈r,okVk v
theorem bZd (c:aJ) (ty:Int) (h:okCur c):Yes (Q7 c ty) fun r=>okVk r.1∧okCur r.2:=by
  have o0:okI 0:=by decide
  have o1:okI 1:=by decide
  have t:∀ k:Int,0≤k→k≤3→okT k:=fun k a b=>⟨a,b⟩
  unfold Q7
  refine Yes.bind (jH _ _ h) fun r k=>Yes.ite (fun _=>Yes.some ⟨⟨o0,t 0 (by omega) (by omega)⟩,k⟩) fun _=>Yes.ite (fun _=>?_) fun _=>Yes.ite (fun _=>?_) fun _=>?_
  · refine Yes.bind (aBp _ _ (by decide) k) fun r ⟨hm,k⟩=>?_
    exact Yes.bind (Q:=okVk) ⟨_,rfl,o0,t 2 (by omega) (by omega)⟩ fun v hv=>Yes.some ⟨hv,k⟩
  · refine Yes.bind (jH _ _ k) fun r k=>Yes.bind (Q:=okVk) ?_ fun v hv=>Yes.some ⟨hv,k⟩
    unfold rP
    exact Yes.ite (fun _=>Yes.some ⟨o1,t 3 (by omega) (by omega)⟩) fun _=>Yes.some ⟨o0,t 3 (by omega) (by omega)⟩
  · exact Yes.bind (E9 _ k) fun r ⟨hi,k⟩=>Yes.bind (Q:=okVk) ⟨_,rfl,hi,t 1 (by omega) (by omega)⟩ fun v hv=>Yes.some ⟨hv,k⟩
theorem bZh (c:aJ) (ty:Int) (h:okCur c):Yes (V5 c ty) fun r=>okVk r.1∧okCur r.2:=by
  unfold V5
  refine Yes.bind (P7 _ _ _ _ h) fun r k=>Yes.bind (Q:=fun _=>True) ⟨_,rfl,trivial⟩ fun q _=>Yes.ite (fun _=>?_) fun _=>?_
  · exact Yes.bind (iQ _ _ k) fun r ⟨b0,b1,k⟩=>Yes.bind (Q:=okVk) ⟨_,rfl,okI_w,by show (0:Int)≤1∧(1:Int)≤3; omega⟩ fun v hv=>Yes.some ⟨hv,k⟩
  · exact Yes.bind (bZd _ _ k) fun r ⟨hn,k⟩=>Yes.some ⟨hn,k⟩
def okE27 (n:Nat) (r:Rows×aJ):Prop:=(r.1.length≤n∧aYp r.1∧∀ x∈r.1,x.length≤2)∧okCur r.2
theorem bL0 {T:List (List Int)} (hl:T.length≤3) (hw:∀ x∈T,x.length≤2) (c:aJ) (h:okCur c):Yes (aIb c T) (okE27 3):=by
  have L0:∀ x,x≤T.length→∀ (R:Rows) b i g,R.length=x→aYp R→(∀ r∈R,r.length≤2)→okCur ⟨b,i,g⟩→Yes (aD4 T R (x:Nat) b i g) (okE27 3):=by
    refine dZ ?_ ?_
    · intro R b i g hR hB hW k
      rw [aD4,if_neg (by simp)]
      exact Yes.some ⟨⟨by show R.length≤3; omega,hB,hW⟩,k⟩
    · intro x hx ih R b i g hR hB hW k
      have hcl:=hw _ (QG hx)
      rw [aD4,if_pos (by simpa using hx)]
      have L1:∀ j,j≤T[x].length→∀ (row:Row1) b i g,row.length=j→(∀ v∈row,okVk v)→okCur ⟨b,i,g⟩→Yes (Y7 T R (x:Nat) row (j:Nat) b i g) (okE27 3):=by
        refine dZ ?_ ?_
        · intro row b i g hj hv k
          rw [Y7]
          simp only [bP hx,dN,WD,decide_false,QC,if_false,QB,QA]
          refine Yes.bind (lK (by simp only [QD]; omega)) fun z hz=>?_
          subst hz
          rw [dR hx (by omega)]
          refine ih _ _ _ _ (by simp [hR]) (oL (p:=fun (r:Row1)=>∀ v∈r,okVk v) hB hv) (oL hW (by omega)) k
        · intro j hj ihj row b i g hrl hv k
          rw [Y7]
          simp only [bP hx,dN,hj,decide_true,if_true,bP hj,QB,QA]
          refine Yes.bind (bZh _ _ k) fun r ⟨hn,k⟩=>Yes.bind (lK (by simp only [QD]; omega)) fun z hz=>?_
          subst hz
          rw [dR hj (by omega)]
          exact ihj _ _ _ _ (by simp [hrl]) (oL hv hn) k
      have:=L1 0 (by omega) [] b i g rfl (by simp) k
      simpa using this
  unfold aIb
  have:=L0 0 (by omega) [] c.b c.i c.h rfl (fun r hr=>by simp at hr) (by simp) h
  simpa using this
def okV27 (r:aR×GDb×Rows×aB):Prop:=CR r.1∧dbG 3 r.2.1∧(r.2.2.1.length≤3∧aYp r.2.2.1∧∀ x∈r.2.2.1,x.length≤2)∧bA r.2.2.2≤2000
theorem bJk (p:List Int) (hp:p.length≤1048576):Yes (aL3 p) okV27:=by
  unfold aL3
  obtain ⟨c,e,hc⟩:=bNz p hp
  rw [e]
  simp only [QB,QA]
  refine Yes.bind (bQe _ hc) fun y2 ⟨hC,k⟩=>Yes.bind (bNn _ k) fun y3 ⟨⟨t1,t2,t3⟩,k⟩=>Yes.bind (iQ _ _ k) fun y4 ⟨_,_,k⟩=>Yes.bind (bK7 p hp) fun n ⟨n0,n3⟩=>Yes.bind (iQ _ _ k) fun y6 ⟨a0,a1,k⟩=>?_
  have a1:=a1 n0
  have q3:Zq 3=724:=by decide
  have E2:Zb 2=1930:=by decide
  refine Yes.bind (cBi hC.cat 3 _ _ _ _ (by omega) (by omega) (by omega) t2 (by omega) k) fun y7 ⟨hz,k⟩=>Yes.bind (jH _ _ k) fun y8 k=>?_
  have J1:∀ (e:aB) b i g,bA e≤2000→okCur ⟨b,i,g⟩→Yes (aFc y3 y2 e.kind e.op e.not_ e.value.kind e.value.num e.value.text e.up e.at_ b i g e.kids e.sub) okV27:=by
    intro e b i g hz k
    obtain ⟨e1,e2,e3,e4,e5,e6,e7,e8⟩:=e
    unfold aFc
    exact Yes.bind (bZc hC _ k) fun y5 ⟨hG,k⟩=>Yes.bind (bL0 t1 t3 _ k) fun y9 ⟨hE,k⟩=>Yes.some ⟨hC,hG,hE,hz⟩
  have J0:∀ (e:aB) b i g,bA e≤2000→okCur ⟨b,i,g⟩→Yes (aF3 y3 y2 e.kind e.op e.not_ e.value.kind e.value.num e.value.text e.up e.at_ b i g e.kids e.sub) okV27:=by
    intro e b i g hz k
    unfold aF3
    refine Yes.bind (jH _ _ k) fun q k=>Yes.ite (fun _=>?_) fun _=>J1 e _ _ _ hz k
    exact Yes.bind (bS4 2 2 _ (by omega) (by omega) (by omega) k) fun r ⟨h1,k⟩=>J1 r.1 _ _ _ (by have:=h1.2; omega) k
  refine Yes.ite (fun _=>?_) fun _=>J0 y7.1 _ _ _ (by omega) k
  exact Yes.bind (bXn _ _ _ (QY _) (by omega) k) fun r ⟨h1,k⟩=>J0 r.1 _ _ _ (by omega) k
theorem fm1 {α:Type} (l:List α):(l.flatMap fun x=>[x])=l:=by
  induction l with
  | nil=>rfl
  | cons x l ih=>rw [WT,ih]; rfl
def CpE (e:aB):Prop:=xX e=some e
def CpP (p:aQ):Prop:=aGq p=some p
theorem aP1 (l:List aB) (hl:l.length≤1048576) (H:∀ e∈l,CpE e):N9 l=some l:=by
  rw [N9,gather (p:=l) (f:=fun x=>[x]) (c:=4194304) (G:=fun y acc=>(xX y)>>=fun z=>appG 120 acc ([z]:List aB)) (L:=fun acc i=>aEt l i acc) (K:=fun x=>some x) (by omega) (fun y hy acc h=>by rw [H y hy]; exact jX (by simp at h ⊢; omega)) (fun i acc=>by rw [aEt]; simp only [QB,WN]) [] (by rw [fm1]; simp only [QP]; omega)]
  rw [fm1]; rfl
theorem bLd (e:aB) (hk:e.kids.length≤1048576) (hs:e.sub.length≤1048576) (H:∀ k∈e.kids,CpE k) (HP:∀ p∈e.sub,CpP p):CpE e:=by
  unfold CpE
  rw [xX,aP1 e.kids hk H]
  simp only [QB,QA]
  rw [gather (p:=e.sub) (f:=fun x=>[x]) (c:=4194304) (G:=fun y acc=>(aGq y)>>=fun z=>appG 160 acc ([z]:List aQ)) (L:=fun acc i=>aFw e e.kids i acc) (K:=fun x=>some (aB.mk e.kind e.op e.not_ e.value e.up e.at_ e.kids x)) (by omega) (fun y hy acc h=>by rw [HP y hy]; exact jX (by simp at h ⊢; omega)) (fun i acc=>by rw [aFw]; simp only [QB,WN]) [] (by rw [fm1]; simp only [QP]; omega)]
  rw [fm1,QI]
  cases e; rfl
theorem bK2 (p:aQ) (hz:eU p≤1048576) (H:∀ e,bA e<eU p→CpE e):CpP p:=by
  unfold CpP
  have hl:=aCn p
  have h1:appG 8 ([]:List Int) p.tables=some p.tables:=by rw [jX (by simp; omega)]; rfl
  have h2:appG 16 ([]:List (List UInt8)) p.names=some p.names:=by rw [jX (by simp; omega)]; rfl
  rw [aGq,h1,h2,aP1 p.where_ (by omega) fun e he=>H e (by have:=aVo he; have:=QQ he; omega),aP1 p.items (by omega) fun e he=>H e (by have:=aS7 he; have:=QQ he; omega)]
  simp only [QB,QA]
  have o1:∀ O:List (List aB),D5 p O p.names p.items p.where_ p.tables (0,[])=some (aQ.mk p.tables O p.where_ p.order p.items p.names p.distinct p.limit):=by
    intro O
    have:=gather (p:=p.order) (f:=fun x=>[x]) (c:=4194304) (G:=fun y acc=>(xX y.expr)>>=fun z=>appG 128 acc ([bF.mk z y.desc]:List bF)) (L:=fun acc i=>D5 p O p.names p.items p.where_ p.tables (i,acc)) (K:=fun x=>some (aQ.mk p.tables O p.where_ x p.items p.names p.distinct p.limit)) (by omega) (fun y hy acc h=>by
        have:CpE y.expr:=H _ (by have:=aW9 hy; have:=QQ hy; omega)
        rw [show xX y.expr=some y.expr from this]
        have ey:(bF.mk y.expr y.desc)=y:=by cases y; rfl
        show appG 128 acc [bF.mk y.expr y.desc]=some (acc++[y])
        rw [ey]
        exact jX (by simp at h ⊢; omega)) (fun i acc=>by
        rw [D5]
        by_cases hi:(i:Int)<(p.order.length:Int)
        · have hi':i<p.order.length:=by omega
          simp only [hi,decide_true,if_true,bP hi',QB,QA,WN]
        · simp only [hi,decide_false,QC,if_false]) [] (by rw [fm1]; simp only [QP]; omega)
    rw [fm1,QI] at this
    exact this
  rw [gather (p:=p.on_) (f:=fun x=>[x]) (c:=4194304) (G:=fun y acc=>(N9 y)>>=fun z=>appG 24 acc ([z]:List (List aB))) (L:=fun acc i=>aEe p p.names p.items p.where_ p.tables i acc) (K:=fun x=>D5 p x p.names p.items p.where_ p.tables (0,[])) (by omega) (fun y hy acc h=>by
      rw [aP1 y (by have:=yD p; have:=vE (z:=zL bA) hy; have:=nE (z:=bA) y; omega) fun e he=>H e (by have:=onZ hy he; have:=QQ he; omega)]
      exact jX (by simp at h ⊢; omega)) (fun i acc=>by rw [aEe]; simp only [QB,WN]) [] (by rw [fm1]; simp only [QP]; omega)]
  rw [fm1,QI,o1]
  cases p; rfl
theorem bCu:∀ n:Nat,(∀ e:aB,bA e<n→bA e≤1048576→CpE e)∧(∀ p:aQ,eU p<n→eU p≤1048576→CpP p)
  | 0=>⟨fun _ h=>absurd h (by omega),fun _ h=>absurd h (by omega)⟩
  | n+1=>by
    obtain ⟨i1,i2⟩:=bCu n
    refine ⟨fun e he hz=>?_,fun p hp hz=>bK2 p hz fun e he=>i1 e (by omega) (by omega)⟩
    have hl:=aRm e
    exact bLd e (by omega) (by omega) (fun k hk=>i1 k (by have:=yG hk; have:=QQ hk; omega) (by have:=yG hk; omega)) fun p hp=>i2 p (by have:=wG hp; have:=QQ hp; omega) (by have:=wG hp; omega)
inductive A2 {α β:Type} (R:α→β→Prop):List α→List β→Prop
  | nil:A2 R [] []
  | cons {a b l m}:R a b→A2 R l m→A2 R (a::l) (b::m)
theorem A2.length {α β:Type} {R:α→β→Prop} {l:List α} {m:List β} (h:A2 R l m):l.length=m.length:=by induction h <;> simp [*]
theorem A2.get {α β:Type} {R:α→β→Prop} {l:List α} {m:List β} (h:A2 R l m):∀ (i:Nat) (h1:i<l.length) (h2:i<m.length),R l[i] m[i]:=by
  induction h with
  | nil=>intro i h1; simp at h1
  | cons a _ ih =>
    intro i h1 h2
    cases i with
    | zero=>exact a
    | succ i=>exact ih i (by simpa using h1) (by simpa using h2)
theorem A2.of {α β:Type} {R:α→β→Prop}:∀ {l:List α} {m:List β},l.length=m.length→(∀ (i:Nat) (h1:i<l.length) (h2:i<m.length),R l[i] m[i])→A2 R l m
  | [],[],_,_=>.nil
  | a::l,b::m,h,k=>.cons (k 0 (by simp) (by simp)) (A2.of (by simpa using h) fun i h1 h2=>k (i+1) (by simpa using h1) (by simpa using h2))
def Ty (c:aR) (env:List (List Int)) (e:aB) (t:Int):Prop:=uK c env e=some (t,true)
def TyP (c:aR) (env:List (List Int)) (p:aQ) (ts:List Int):Prop:=aGp c env p=some (ts,true)
theorem aWj {c:aR} {env:List (List Int)} {e:aB} {t:Int} (h:Ty c env e t) (hk:e.kids.length≤1048576) (hs:e.sub.length≤1048576):R5 e=some true∧aNx e:=by
  obtain ⟨b,s1,i1,hf⟩:=aM1 e hk hs
  unfold Ty at h
  rw [uK,i1] at h
  cases b with
  | true=>exact ⟨s1,hf rfl⟩
  | false=>simp at h
theorem bX0 {c:aR} {env:List (List Int)} {e:aB} {t:Int} (h:Ty c env e t) (hk:e.kids.length≤1048576) (hs:e.sub.length≤1048576) (k2:e.kind=2) :
    ∃ (u a:Nat) (hu:u<env.length) (ha:a<env[u].length),e.up=u∧e.at_=a∧t=env[u][a]:=by
  obtain ⟨b,s1,i1,hf⟩:=aM1 e hk hs
  unfold Ty at h
  rw [uK,i1] at h
  cases b with
  | false=>simp at h
  | true =>
  simp only [k2,decide_true,QF,QC,if_false,if_true,QB,QA] at h
  by_cases u0:e.up<0
  · simp [u0] at h
  by_cases u1:(env.length:Int)≤e.up
  · simp [u0,u1] at h
  have hj:e.up.toNat<env.length:=by omega
  have hx:idx env e.up=some env[e.up.toNat]:=by
    have:=bP hj
    rwa [show ((e.up.toNat:Nat):Int)=e.up by omega] at this
  by_cases a0:e.at_<0
  · simp [u0,u1,a0] at h
  by_cases a1:(env[e.up.toNat].length:Int)≤e.at_
  · simp [u0,u1,a0,a1,hx] at h
  have hj2:e.at_.toNat<env[e.up.toNat].length:=by omega
  have hx2:idx env[e.up.toNat] e.at_=some env[e.up.toNat][e.at_.toNat]:=by
    have:=bP hj2
    rwa [show ((e.at_.toNat:Nat):Int)=e.at_ by omega] at this
  simp only [u0,u1,a0,a1,hx,hx2,decide_false,QC,if_false,if_true,beq_self_eq_true,WE,QA,Option.some.injEq,Prod.mk.injEq,and_true] at h
  exact ⟨e.up.toNat,e.at_.toNat,hj,hj2,by omega,by omega,h.symm⟩
theorem bC0 {c:aR} {env:List (List Int)} {e:aB} {t:Int} (h:Ty c env e t) (hk:e.kids.length≤1048576) (hs:e.sub.length≤1048576) (k2:e.kind≠2) :
    ∃ acc:List Int,A2 (Ty c env) e.kids acc∧uW env acc e c [] 0=some (t,true):=by
  obtain ⟨b,s1,i1,hf⟩:=aM1 e hk hs
  unfold Ty at h
  rw [uK,i1] at h
  cases b with
  | false=>simp at h
  | true =>
  simp only [k2,decide_false,QF,QC,if_false,QB,QA] at h
  have key:∀ i,i≤e.kids.length→∀ acc:List Int,acc.length=i→vW env e c acc (i:Nat)=some (t,true)→∃ r,A2 (Ty c env) (e.kids.drop i) r∧uW env (acc++r) e c [] 0=some (t,true):=by
    refine dZ ?_ ?_
    · intro acc _ h
      rw [vW] at h
      exact ⟨[],by simpa using A2.nil,by simpa using h⟩
    · intro i hi ih acc ha h
      rw [vW] at h
      simp only [dN,hi,decide_true,if_true,bP hi,dR hi (by omega),QB,QA] at h
      cases hr:uK c env e.kids[i] with
      | none=>simp [hr] at h
      | some r =>
        obtain ⟨y,ok⟩:=r
        cases ok with
        | false=>simp [hr] at h
        | true =>
          have ea:appG 8 acc [y]=some (acc++[y]):=by unfold appG; rw [if_pos (by simp; omega)]
          simp only [hr,ea,QA,QF,QC,if_false] at h
          obtain ⟨r,h1,h2⟩:=ih _ (by simp [ha]) h
          rw [QE hi]
          exact ⟨y::r,.cons hr h1,by simpa using h2⟩
  simpa using key 0 (by omega) [] rfl h
theorem cC1 {c:aR} {env:List (List Int)} {e:aB} {t:Int} {acc:List Int} (hf:e.sub.length≤1) (h:uW env acc e c [] 0=some (t,true)) :
    ∃ st:List Int,yF e acc st=some (t,true)∧(e.sub=[]∧st=[]∨∃ p,e.sub=[p]∧TyP c env p st∧(e.kind=8→st.length=1)):=by
  have fin:∀ (x:Option (Int×Bool)),(x>>=fun (y15:Int×Bool)=>some (y15.1,y15.2))=some (t,true)→x=some (t,true):=by
    intro x hx
    cases x with
    | none=>simp at hx
    | some y=>obtain ⟨a,b⟩:=y; simpa using hx
  cases hs:e.sub with
  | nil =>
    rw [uW] at h
    simp only [hs,QP] at h
    exact ⟨[],fin _ (by simpa using h),.inl ⟨rfl,rfl⟩⟩
  | cons p l =>
    have hl:l=[]:=by rw [hs] at hf; simpa using hf
    subst hl
    rw [uW] at h
    have ip:idx [p] 0=some p:=rfl
    have iw:QH .i64 (0+1)=1:=rfl
    simp only [hs,ip,iw,QT,QP,QB,QA,WV,show decide ((0:Int)<((1:Nat):Int))=true from rfl,if_true] at h
    cases hp:aGp c env p with
    | none=>simp [hp] at h
    | some r =>
      obtain ⟨st,ok⟩:=r
      cases ok with
      | false=>simp [hp] at h
      | true =>
        have e1:∀ st,uW env acc e c st 1=yF e acc st>>=fun (y15:Int×Bool)=>some (y15.1,y15.2):=fun st=>by rw [uW]; simp [hs]
        by_cases k8:e.kind=8
        · by_cases h1:st.length=1
          · simp [hp,k8,h1,e1] at h
            exact ⟨st,fin _ (by simpa using h),.inr ⟨p,rfl,hp,fun _=>h1⟩⟩
          · have h2:¬ (st.length:Int)=1:=by omega
            simp [hp,k8,h2] at h
        · simp [hp,k8,e1] at h
          exact ⟨st,fin _ (by simpa using h),.inr ⟨p,rfl,hp,fun h=>absurd h k8⟩⟩
theorem aSe {e:aB} (h:aNx e):e.sub.length≤1∧(e.kind=2→e.kids=[]∧e.sub=[]):=by
  rcases h with h | h | h | h | h | h | h | h | h <;> refine ⟨by omega,fun k=>?_⟩ <;> first | exact ⟨WK h.2.1,WK h.2.2⟩ | omega
def Tru (c:aR) (env:List (List Int)) (e:aB) (t:Int):Prop:=Ty c env e t∧aC3 t=some true
theorem bEg {c:aR} {env:List (List Int)} {l:List aB} (hl:l.length≤1048576) (h:X9 c env l=some true):∀ e∈l,∃ t,Tru c env e t:=by
  have key:∀ i,i≤l.length→∀ k:Int,V7 l c env (i:Nat)=some k→k<0→∀ e∈l.drop i,∃ t,Tru c env e t:=by
    refine dZ ?_ ?_
    · intro k _ _ e he; simp at he
    · intro i hi ih k hk hk0
      rw [V7] at hk
      simp only [dN,hi,decide_true,if_true,bP hi,dR hi (by omega),aTg,QB,QA] at hk
      rw [QE hi]
      cases hr:uK c env l[i] with
      | none=>simp [hr] at hk
      | some r =>
        obtain ⟨y,ok⟩:=r
        cases ok with
        | false=>simp [hr] at hk; omega
        | true =>
          obtain ⟨b,hb⟩:=aKm y
          have hb':aC3 y=some b:=by rw [aOn,hb]
          cases b with
          | false=>simp [hr,hb'] at hk; omega
          | true =>
            simp [hr,hb'] at hk
            intro e he
            rcases QU.1 he with rfl | he
            · exact ⟨y,hr,hb'⟩
            · exact ih k (by simpa using hk) hk0 e he
  rw [X9,aVz,aYq] at h
  cases hk:V7 l c env 0 with
  | none=>simp [hk] at h
  | some k =>
    have:=key 0 (by omega) k hk (by simp [hk] at h; omega)
    simpa using this
structure aNd (c:aR) (env:List (List Int)) (p:aQ) (ts:List Int):Prop where
  pB:O5 p=true
  oB:onB p=true
  nB:p.names.all nmB=true
  tb:∀ k∈p.tables,0≤k∧k<(c.tables.length:Int)
  on:∀ (i:Nat) (h:i<p.on_.length),∀ e∈p.on_[i],∃ t,Tru c ((gI c [] (p.tables.take (i+1))).1::env) e t
  wh:∀ e∈p.where_,∃ t,Tru c ((gI c [] p.tables).1::env) e t
  od:∀ k∈p.order,∃ t,Ty c ((gI c [] p.tables).1::env) k.expr t
  it:A2 (Ty c ((gI c [] p.tables).1::env)) p.items ts
theorem bMu {c:aR} (hc:nN c) {env:List (List Int)} (hl:env.length≤1048577) {p:aQ} (hz:eU p≤1048576) {ts:List Int} (h:TyP c env p ts):aNd c env p ts:=by
  have hlen:=aCn p
  unfold TyP at h
  obtain ⟨_,f2⟩:=bIe c hc p (by omega) (by omega) (by omega)
  obtain ⟨r1,_⟩:=aCe c hc p.tables (by omega)
  rw [aGp,f2,r1] at h
  simp only [QB,QA] at h
  cases hr:(gI c [] p.tables).2 with
  | false=>simp [hr] at h
  | true =>
  cases hP:O5 p with
  | false=>simp [hr,hP] at h
  | true =>
  cases hO:onB p with
  | false=>simp [hr,hP,hO] at h
  | true =>
  cases hN:p.names.all nmB with
  | false=>simp [hr,hP,hO,hN] at h
  | true =>
  simp only [hr,hP,hO,hN,QF,WX,WE,beq_self_eq_true,if_true,QC,if_false,QA] at h
  have hB:p.tables.length≤3∧p.on_.length=p.tables.length:=by
    unfold O5 at hP
    simp only [QJ,decide_eq_true_eq] at hP
    omega
  have hO1:∀ l∈p.on_,l.length≤1:=by
    unfold onB at hO
    simpa using hO
  obtain ⟨w1,_⟩:=aGi (gI c [] p.tables).1 env (by omega)
  generalize hrow:(gI c [] p.tables).1=row at *
  have itL:∀ i,i≤p.items.length→∀ acc:List Int,acc.length=i→K8 (row::env) p c acc (i:Nat)=some (ts,true)→∃ r,A2 (Ty c (row::env)) (p.items.drop i) r∧ts=acc++r:=by
    refine dZ ?_ ?_
    · intro acc _ h
      rw [K8] at h
      simp at h
      exact ⟨[],by simpa using A2.nil,by simp [h]⟩
    · intro i hi ih acc ha h
      rw [K8] at h
      simp only [dN,hi,decide_true,if_true,bP hi,dR hi (by omega),QB,QA] at h
      cases hr:uK c (row::env) p.items[i] with
      | none=>simp [hr] at h
      | some r =>
        obtain ⟨y,ok⟩:=r
        cases ok with
        | false=>simp [hr] at h
        | true =>
          have ea:appG 8 acc [y]=some (acc++[y]):=by unfold appG; rw [if_pos (by simp; omega)]
          simp only [hr,ea,QA,QF,QC,if_false] at h
          obtain ⟨r,h1,h2⟩:=ih _ (by simp [ha]) h
          rw [QE hi]
          exact ⟨y::r,.cons hr h1,by simpa using h2⟩
  have odL:∀ i,i≤p.order.length→L8 (row::env) p c (i:Nat)=some (ts,true)→(∀ k∈p.order.drop i,∃ t,Ty c (row::env) k.expr t)∧A2 (Ty c (row::env)) p.items ts:=by
    refine dZ ?_ ?_
    · intro h
      rw [L8] at h
      simp only [dN,WD,decide_false,QC,if_false] at h
      obtain ⟨r,h1,h2⟩:=itL 0 (by omega) [] rfl (by simpa using h)
      refine ⟨by simp,?_⟩
      have:ts=r:=by simpa using h2
      subst this
      simpa using h1
    · intro i hi ih h
      rw [L8] at h
      simp only [dN,hi,decide_true,if_true,bP hi,dR hi (by omega),QB,QA] at h
      cases hr:uK c (row::env) p.order[i].expr with
      | none=>simp [hr] at h
      | some r =>
        obtain ⟨y,ok⟩:=r
        cases ok with
        | false=>simp [hr] at h
        | true =>
          simp only [hr,QA,QF,QC,if_false] at h
          obtain ⟨h1,h2⟩:=ih h
          rw [QE hi]
          refine ⟨fun k hk=>?_,h2⟩
          rcases QU.1 hk with rfl | hk
          · exact ⟨y,hr⟩
          · exact h1 k hk
  have onL:∀ i,i≤p.on_.length→aBa env (row,true) p c (i:Nat)=some (ts,true)→(∀ (j:Nat) (h:j<p.on_.length),i≤j→∀ e∈p.on_[j],∃ t,Tru c ((gI c [] (p.tables.take (j+1))).1::env) e t)∧(∀ e∈p.where_,∃ t,Tru c (row::env) e t)∧(∀ k∈p.order,∃ t,Ty c (row::env) k.expr t)∧A2 (Ty c (row::env)) p.items ts:=by
    refine dZ ?_ ?_
    · intro h
      rw [aBa] at h
      simp only [dN,WD,decide_false,QC,if_false,w1,QB,QA] at h
      cases hw:X9 c (row::env) p.where_ with
      | none=>simp [hw] at h
      | some b =>
        cases b with
        | false=>simp [hw] at h
        | true =>
          simp only [hw,QA,QF,QC,if_false] at h
          obtain ⟨h1,h2⟩:=odL 0 (by omega) (by simpa using h)
          exact ⟨fun j hj h=>by omega,bEg (by omega) hw,by simpa using h1,h2⟩
    · intro i hi ih h
      obtain ⟨a3,_⟩:=aCe c hc (p.tables.take (i+1)) (by rw [WJ]; omega)
      have hs:jA p.tables 0 ((i+1:Nat):Int)=some (p.tables.take (i+1)):=aFl (by omega)
      obtain ⟨a6,_⟩:=aGi (gI c [] (p.tables.take (i+1))).1 env (by omega)
      rw [aBa] at h
      simp only [dN,hi,decide_true,if_true,bP hi,dR hi (by omega),hs,a3,a6,QB,QA] at h
      cases hw:X9 c ((gI c [] (p.tables.take (i+1))).1::env) p.on_[i] with
      | none=>simp [hw] at h
      | some b =>
        cases b with
        | false=>simp [hw] at h
        | true =>
          simp only [hw,QA,QF,QC,if_false] at h
          obtain ⟨h1,h2⟩:=ih h
          refine ⟨fun j hj h=>?_,h2⟩
          by_cases e:j=i
          · subst e
            exact bEg (by have:=hO1 _ (QG hi); omega) hw
          · exact h1 j hj (by omega)
  have h0:gI c [] p.tables=(row,true):=by rw [← hrow,← hr]
  rw [h0] at h
  obtain ⟨k1,k2,k3,k4⟩:=onL 0 (by omega) (by simpa using h)
  have ht:=(bFf c p.tables []).1 hr
  subst hrow
  exact ⟨hP,hO,hN,ht,fun i hi=>k1 i hi (by omega),k2,k3,k4⟩
theorem aYj {α β:Type} {R:α→β→Prop} {l:List α} {m:List β} (h:A2 R l m) {x:α} (hx:x∈l):∃ y,R x y:=by
  induction h with
  | nil=>simp at hx
  | cons r _ ih =>
    rcases QU.1 hx with rfl | hx
    · exact ⟨_,r⟩
    · exact ih hx
def Tyd (c:aR) (n:Nat) (e:aB):Prop:=∃ (types:List (List Int)) (t:Int),types.length=n∧Ty c types e t∧5 * n+bA e≤5000
theorem Tyd.n {c:aR} {n:Nat} {e:aB} (h:Tyd c n e):n≤1000∧bA e≤5000:=by
  obtain ⟨_,_,_,_,h⟩:=h; omega
theorem Tyd.len {c:aR} {n:Nat} {e:aB} (h:Tyd c n e):e.kids.length≤5000∧e.sub.length≤5000:=by
  have:=h.n
  have:=V9 e
  have:=nE (z:=bA) e.kids
  have:=nE (z:=eU) e.sub
  omega
theorem Tyd.kid {c:aR} {n:Nat} {e k:aB} (h:Tyd c n e) (hk:k∈e.kids):Tyd c n k:=by
  have hl:=h.len
  obtain ⟨types,t,h1,h2,h3⟩:=h
  have hf:=(aWj h2 (by omega) (by omega)).2
  by_cases k2:e.kind=2
  · rw [((aSe hf).2 k2).1] at hk; simp at hk
  obtain ⟨acc,ha,_⟩:=bC0 h2 (by omega) (by omega) k2
  obtain ⟨s,hs⟩:=aYj ha hk
  have:=yG hk
  exact ⟨types,s,h1,hs,by omega⟩
theorem bRl {p:aQ} {e:aB} (h1:1≤p.tables.length) (h2:1≤p.on_.length) (h3:1≤p.items.length) (h4:1≤p.names.length) (h:e∈fT p):bA e+4≤eU p:=by
  have hz:=yD p
  have a1:=nE (z:=z0) p.tables
  have a2:=nE (z:=zL bA) p.on_
  have a3:=nE (z:=bA) p.items
  have a4:=nE (z:=XP) p.names
  unfold fT at h
  simp only [QM,QZ] at h
  rcases h with ((⟨l,hl,h⟩ | h) | ⟨k,hk,h⟩) | h
  · have:=vE (z:=zL bA) hl
    have:=vE (z:=bA) h
    omega
  · have:=vE (z:=bA) h
    omega
  · have h:e=k.expr:=by simpa using h
    have:=QQ hk
    have:=aHu (z:=fun k:bF=>bA k.expr) hk
    rw [h]
    omega
  · have:=vE (z:=bA) h
    have:=QQ h
    omega
theorem Tyd.plan {c:aR} (hc:nN c) {n:Nat} {e:aB} {p:aQ} (h:Tyd c n e) (hp:p∈e.sub):∃ types ts,types.length=n∧aNd c types p ts:=by
  have hl:=h.len
  have hn:=h.n
  obtain ⟨types,t,h1,h2,h3⟩:=h
  have hf:=(aWj h2 (by omega) (by omega)).2
  by_cases k2:e.kind=2
  · rw [((aSe hf).2 k2).2] at hp; simp at hp
  obtain ⟨acc,ha,hr⟩:=bC0 h2 (by omega) (by omega) k2
  obtain ⟨st,_,hs⟩:=cC1 (aSe hf).1 hr
  have hz:=wG hp
  rcases hs with ⟨e0,_⟩ | ⟨q,e1,hq,_⟩
  · rw [e0] at hp; simp at hp
  rw [e1] at hp
  have hp:p=q:=by simpa using hp
  subst hp
  exact ⟨types,st,h1,bMu hc (by omega) (by omega) hq⟩
theorem aNd.ne {c:aR} {types:List (List Int)} {p:aQ} {ts:List Int} (h:aNd c types p ts):1≤p.tables.length∧p.tables.length≤3∧p.on_.length=p.tables.length∧1≤p.items.length∧p.names.length=p.items.length:=by
  have hpB:=h.pB
  unfold O5 at hpB
  simp only [QJ,decide_eq_true_eq] at hpB
  omega
theorem Tyd.part {c:aR} (hc:nN c) {n:Nat} {e x:aB} {p:aQ} (h:Tyd c n e) (hp:p∈e.sub) (hx:x∈fT p):Tyd c (n+1) x:=by
  obtain ⟨types,ts,h1,tp⟩:=h.plan hc hp
  obtain ⟨_,_,_,_,h3⟩:=h
  obtain ⟨n1,_,n2,n3,n4⟩:=tp.ne
  have hz:=bRl n1 (by omega) n3 (by omega) hx
  have hs:=wG hp
  have:=QQ hp
  have fin:∀ (row:List Int) t,Ty c (row::types) x t→Tyd c (n+1) x:=fun row t ht=>⟨row::types,t,by simp [h1],ht,by omega⟩
  unfold fT at hx
  simp only [QM,QZ] at hx
  rcases hx with ((⟨l,hl,hx⟩ | hx) | ⟨k,hk,hx⟩) | hx
  · obtain ⟨i,hi,rfl⟩:=List.mem_iff_getElem.1 hl
    obtain ⟨t,ht⟩:=tp.on i hi x hx
    exact fin _ t ht.1
  · obtain ⟨t,ht⟩:=tp.wh x hx
    exact fin _ t ht.1
  · have hx:x=k.expr:=by simpa using hx
    obtain ⟨t,ht⟩:=tp.od k hk
    exact fin _ t (hx ▸ ht)
  · obtain ⟨t,ht⟩:=aYj tp.it hx
    exact fin _ t ht
theorem Tyd.up {c:aR} {n:Nat} {e:aB} (h:Tyd c n e):0≤e.up∧e.up≤1000∧(e.kind=2→e.up<n):=by
  have hl:=h.len
  have hn:=h.n
  obtain ⟨types,t,h1,h2,h3⟩:=h
  have hs:=(aWj h2 (by omega) (by omega)).1
  by_cases k2:e.kind=2
  · obtain ⟨u,a,hu,_,e1,_⟩:=bX0 h2 (by omega) (by omega) k2
    omega
  have hu:e.up=0:=by
    by_cases hu:e.up=0
    · exact hu
    unfold R5 at hs
    simp [k2,hu] at hs
  omega
theorem bS5 {c:aR} (hc:nN c):∀ (N n:Nat) (e:aB),bA e<N→Tyd c n e→aC1 e=some true:=by
  intro N
  induction N with
  | zero=>intro n e h; omega
  | succ N ih =>
    intro n e hN h
    have hl:=h.len
    have hu:=h.up
    have L1:∀ i,i≤e.sub.length→aBi e (i:Nat)=some true:=by
      refine dZ ?_ ?_
      · rw [aBi,if_neg (by simp)]
      · intro i hi ihi
        have hm:=QG hi
        have hz:=wG hm
        have hzN:eU e.sub[i]≤5000:=by have:=h.n; omega
        rw [aBi,if_pos (by simpa using hi),bP hi]
        simp only [QB,QA,(parts_eq e.sub[i] (by omega)).2]
        have hlen:(fT e.sub[i]).length≤20000:=by
          have:=aCn e.sub[i]
          have hon:(e.sub[i].on_.flatMap fun l=>l).length≤zL (zL bA) e.sub[i].on_:=by
            generalize e.sub[i].on_=o
            induction o with
            | nil=>simp
            | cons a o iho =>
              have:=nE (z:=bA) a
              simp only [WT,QK,zL,QT,QN,WL] at iho ⊢
              unfold zL at this
              omega
          have hpz:=yD e.sub[i]
          have hod:(e.sub[i].order.flatMap fun k=>[k.expr]).length=e.sub[i].order.length:=by
            generalize e.sub[i].order=o
            induction o with
            | nil=>rfl
            | cons a o iho=>simp only [WT,QK,QT,QP,iho]; omega
          unfold fT
          simp only [QK,hod]
          omega
        have L2:∀ j,j≤(fT e.sub[i]).length→S9 (i:Nat) (fT e.sub[i]) e (j:Nat)=some true:=by
          refine dZ ?_ ?_
          · rw [S9,if_neg (by simp),dR hi (by omega)]; exact ihi
          · intro j hj ihj
            have hm2:=QG hj
            have hlt:=aGf hm2
            rw [S9,if_pos (by simpa using hj),bP hj]
            simp only [QB,QA]
            rw [ih (n+1) _ (by omega) (h.part hc hm hm2)]
            simp only [QA,QF,QC,if_false]
            rw [dR hj (by omega)]; exact ihj
        have:=L2 0 (by omega)
        simpa using this
    have L0:∀ i,i≤e.kids.length→aD6 e (i:Nat)=some true:=by
      refine dZ ?_ ?_
      · rw [aD6,if_neg (by simp)]
        have:=L1 0 (by omega)
        simpa using this
      · intro i hi ihi
        have hm:=QG hi
        have hz:=yG hm
        rw [aD6,if_pos (by simpa using hi),bP hi]
        simp only [QB,QA]
        rw [ih n _ (by omega) (h.kid hm)]
        simp only [QA,QF,QC,if_false]
        rw [dR hi (by omega)]; exact ihi
    rw [aC1,aFp]
    have h0:=hu.1
    have h1:=hu.2.1
    simp only [h0,h1,decide_true,WE,QB,QA,QF,QC,if_false]
    have:=L0 0 (by omega)
    simpa using this
theorem bKe {α:Type} {f:α→α} {p:List α} {i:Nat} (hi:i<p.length):((p.take i).map f++p.drop i).set i (f p[i])=(p.take (i+1)).map f++p.drop (i+1):=by
  have hlen:((p.take i).map f).length=i:=by rw [QW,WJ]; omega
  rw [QE hi,List.set_append_right _ _ (by omega),hlen,XT,XO,XB,WP,XC hi]
  simp
theorem bZq {α:Type} {f:α→α} {p:List α} {i:Nat} (hi:i<p.length):idx ((p.take i).map f++p.drop i) (i:Int)=some p[i]:=by
  have hlen:((p.take i).map f).length=i:=by rw [QW,WJ]; omega
  rw [QE hi]
  have h2:i<((p.take i).map f++p[i]::p.drop (i+1)).length:=by simp; omega
  rw [bP h2,List.getElem_append_right (by omega)]
  simp only [hlen,XT,List.getElem_cons_zero]
theorem bFq {α γ:Type} {p:List α} {f:α→α} {L:Int→List α→Option γ} {K:List α→Option γ} (hp:p.length≤1048576)
    (hL:∀ (i:Nat) (hi:i<p.length) (l:List α),l.length=p.length→idx l (i:Int)=some p[i]→L (i:Int) l=L (QH .i64 ((i:Int)+1)) (l.set i (f p[i])))
    (hK:∀ l:List α,l.length=p.length→L (p.length:Int) l=K l):L 0 p=K (p.map f):=by
  have key:∀ i,i≤p.length→L (i:Nat) ((p.take i).map f++p.drop i)=K (p.map f):=by
    refine dZ ?_ ?_
    · rw [XD,WC,WI,hK _ (QW ..)]
    · intro i hi ih
      have hlen:((p.take i).map f++p.drop i).length=p.length:=by simp; omega
      rw [hL i hi _ hlen (bZq hi),bKe hi,dR hi (by omega)]; exact ih
  have:=key 0 (by omega)
  simpa using this
theorem aEq {α γ:Type} {p:List α} {F:α→Option α} {f:α→α} {L:Int→List α→Option γ} {K:List α→Option γ} (hp:p.length≤1048576) (hF:∀ x∈p,F x=some (f x))
    (hL:∀ (i:Nat) (l:List α),L (i:Int) l=if (decide ((i:Int)<(l.length:Int)))=true then ((idx l (i:Int))>>=fun y=>(F y)>>=fun z=>L (QH .i64 ((i:Int)+1)) (l.set i z)) else K l):L 0 p=K (p.map f):=by
  refine bFq hp (fun i hi l hl hx=>?_) fun l hl=>?_
  · rw [hL,hl,if_pos (by simpa using hi),hx]
    simp only [QB,QA]
    rw [hF _ (QG hi)]
    rfl
  · rw [hL,hl,if_neg (by simp)]
def nJ (f:aB→aB) (p:aQ):aQ:=aQ.mk p.tables (p.on_.map fun l=>l.map f) (p.where_.map f) (p.order.map fun k=>bF.mk (f k.expr) k.desc) (p.items.map f) p.names p.distinct p.limit
theorem bOx {m k:Int} {f:aB→aB} (p:aQ) (hz:eU p≤5000) (H:∀ e∈fT p,lG e m k=some (f e)):aF9 p m k=some (nJ f p):=by
  have hl:=aCn p
  have Hon:∀ y∈p.on_,∀ e∈y,lG e m k=some (f e):=fun y hy e he=>H e (by unfold fT; simp only [QM,QZ]; exact .inl (.inl (.inl ⟨y,hy,he⟩)))
  have Hwh:∀ e∈p.where_,lG e m k=some (f e):=fun e he=>H e (by unfold fT; simp [he])
  have Hor:∀ q∈p.order,lG q.expr m k=some (f q.expr):=fun q hq=>H _ (by unfold fT; simp only [QM,QZ]; exact .inl (.inr ⟨q,hq,by simp⟩))
  have Hit:∀ e∈p.items,lG e m k=some (f e):=fun e he=>H e (by unfold fT; simp [he])
  have hz2:=yD p
  have hin:∀ y∈p.on_,y.length≤5000:=fun y hy=>by
    have:=vE (z:=zL bA) hy
    have:=nE (z:=bA) y
    omega
  rw [aF9]
  rw [bFq (p:=p.on_) (f:=fun l=>l.map f) (L:=fun i l=>R4 m k p i l) (K:=fun l=>aBv m k p l 0 p.where_) (by omega) (fun i hi l hl2 hx=>?_) fun l hl2=>by rw [R4,hl2,if_neg (by simp)]]
  · rw [aEq (p:=p.where_) (F:=fun e=>lG e m k) (f:=f) (L:=fun i l=>aBv m k p (p.on_.map fun l=>l.map f) i l) (K:=fun l=>aC8 m k p (p.on_.map fun l=>l.map f) l 0 p.order) (by omega) Hwh (fun i l=>by rw [aBv]; rfl)]
    rw [aEq (p:=p.order) (F:=fun q=>(lG q.expr m k)>>=fun y=>some (bF.mk y q.desc)) (f:=fun q=>bF.mk (f q.expr) q.desc) (L:=fun i l=>aC8 m k p (p.on_.map fun l=>l.map f) (p.where_.map f) i l) (K:=fun l=>aA4 m k p (p.on_.map fun l=>l.map f) (p.where_.map f) l 0 p.items) (by omega) (fun q hq=>by rw [Hor q hq]; rfl) (fun i l=>by rw [aC8]; simp only [QB,WN,QA]; rfl)]
    rw [aEq (p:=p.items) (F:=fun e=>lG e m k) (f:=f) (L:=fun i l=>aA4 m k p (p.on_.map fun l=>l.map f) (p.where_.map f) (p.order.map fun q=>bF.mk (f q.expr) q.desc) i l) (K:=fun l=>some (aQ.mk p.tables (p.on_.map fun l=>l.map f) (p.where_.map f) (p.order.map fun q=>bF.mk (f q.expr) q.desc) l p.names p.distinct p.limit)) (by omega) Hit (fun i l=>by rw [aA4]; rfl)]
    rfl
  · have hin2:=hin _ (QG hi)
    have hi2:i<l.length:=by omega
    rw [R4,hl2,if_pos (by simpa using hi)]
    have e0:l=l.set i p.on_[i]:=by
      rw [bP hi2] at hx
      have hx:=Option.some.inj hx
      rw [← hx,List.set_getElem_self]
    have hs:=aEq (p:=p.on_[i]) (F:=fun e=>lG e m k) (f:=f) (L:=fun j x=>aH0 m k (i:Nat) p j (l.set i x)) (K:=fun x=>R4 m k p (QH .i64 ((i:Int)+1)) (l.set i x)) (by omega) (Hon _ (QG hi)) (fun j x=>by
      have h3:i<(l.set i x).length:=by rw [List.length_set]; exact hi2
      rw [aH0,bP h3]
      simp only [QB,QA,List.getElem_set_self,WM,List.set_set])
    conv=>lhs; rw [e0]
    exact hs
def lf (k:Nat) (e:aB):aB:=(lG e 2 (k:Int)).getD e
def Lfs (c:aR) (m:Nat) (f:Nat→aB→aB):Prop:=∀ (n k:Nat) (e:aB),Tyd c n e→k≤n→f k e=aB.mk e.kind e.op e.not_ e.value (if e.kind=2∧(k:Int)≤e.up then e.up+m else e.up) e.at_ (e.kids.map (f k)) (e.sub.map (nJ (f (k+1))))
theorem bCd {c:aR} (hc:nN c):∀ (N n k:Nat) (e:aB),bA e<N→Tyd c n e→k≤n→lG e 2 (k:Int)=some (aB.mk e.kind e.op e.not_ e.value (if e.kind=2∧(k:Int)≤e.up then e.up+(2:Nat) else e.up) e.at_ (e.kids.map (lf k)) (e.sub.map (nJ (lf (k+1))))):=by
  intro N
  induction N with
  | zero=>intro n k e h; omega
  | succ N ih =>
    intro n k e hN h hk
    have hl:=h.len
    have hn:=h.n
    have hu:=h.up
    have some_:∀ (n k:Nat) (x:aB),bA x<N→Tyd c n x→k≤n→lG x 2 (k:Int)=some (lf k x):=fun n k x h1 h2 h3=>by
      unfold lf; rw [ih n k x h1 h2 h3]; rfl
    have J:∀ u,aEr 2 (k:Int) e u=some (aB.mk e.kind e.op e.not_ e.value u e.at_ (e.kids.map (lf k)) (e.sub.map (nJ (lf (k+1))))):=by
      intro u
      rw [aEr]
      rw [aEq (p:=e.kids) (F:=fun x=>lG x 2 (k:Int)) (f:=lf k) (L:=fun i l=>aH4 2 (k:Int) e u i l) (K:=fun l=>aE6 2 (k:Int) e u l 0 e.sub) (by omega) (fun x hx=>some_ n k x (by have:=yG hx; have:=QQ hx; omega) (h.kid hx) hk) (fun i l=>by rw [aH4]; rfl)]
      rw [aEq (p:=e.sub) (F:=fun x=>aF9 x 2 (QH .i64 ((k:Int)+1))) (f:=nJ (lf (k+1))) (L:=fun i l=>aE6 2 (k:Int) e u (e.kids.map (lf k)) i l) (K:=fun l=>some (aB.mk e.kind e.op e.not_ e.value u e.at_ (e.kids.map (lf k)) l)) (by omega) (fun p hp=>?_) (fun i l=>by rw [aE6]; rfl)]
      have hz:=wG hp
      have:=QQ hp
      rw [dD (by omega) (by omega)]
      refine bOx p (by omega) fun x hx=>?_
      have hlt:=aGf hx
      exact some_ (n+1) (k+1) x (by omega) (h.part hc hp hx) (by omega)
    rw [lG]
    by_cases h2:e.kind=2∧(k:Int)≤e.up
    · obtain ⟨a,b⟩:=h2
      simp only [a,b,decide_true,if_true,QB,QA,and_self]
      rw [dD (by omega) (by omega),J,a]; rfl
    · rw [if_neg h2]
      have:(if (decide (e.kind=2))=true then (decide ((k:Int)≤e.up)) else false)=false:=by
        by_cases a:e.kind=2
        · have b:¬ (k:Int)≤e.up:=fun b=>h2 ⟨a,b⟩
          simp [a,b]
        · simp [a]
      rw [this]
      simp only [QB,QA,QC,if_false,J]
theorem bDr {c:aR} (hc:nN c):Lfs c 2 lf:=fun n k e h hk=>by
  have:=bCd hc _ n k e (QY _) h hk
  unfold lf
  rw [this]; rfl
theorem bNp (c:aR):Lfs c 0 (fun _ e=>e):=fun n k e _ _=>by
  obtain ⟨a,b,q,v,u,t,ks,ss⟩:=e
  have:nJ (fun e=>e)=fun p=>p:=by
    funext p
    obtain ⟨a0,a1,a2,a3,a4,a5,a6,a7⟩:=p
    have e3:(fun k:bF=>bF.mk k.expr k.desc)=fun k=>k:=by funext k; cases k; rfl
    simp [nJ,e3]
  simp [this]
theorem aE3 {α:Type} {z:α→Nat} {f:α→α} {l:List α} (h:∀ x∈l,z (f x)=z x):zL z (l.map f)=zL z l:=by
  unfold zL
  rw [QW,WG]
  congr 2
  exact List.map_congr_left fun x hx=>h x hx
theorem bGa {f:aB→aB} {p:aQ} (h:∀ e∈fT p,bA (f e)=bA e):eU (nJ f p)=eU p:=by
  have Hon:∀ y∈p.on_,∀ e∈y,bA (f e)=bA e:=fun y hy e he=>h e (by unfold fT; simp only [QM,QZ]; exact .inl (.inl (.inl ⟨y,hy,he⟩)))
  rw [zP,zP]
  unfold nJ
  dsimp only
  rw [aE3 (z:=zL bA) fun y hy=>aE3 (Hon y hy),aE3 (z:=bA) (l:=p.where_) fun e he=>h e (by unfold fT; simp [he]),aE3 (z:=bA) (l:=p.items) fun e he=>h e (by unfold fT; simp [he])]
  have:zL tZ (p.order.map fun k=>bF.mk (f k.expr) k.desc)=zL tZ p.order:=aE3 (f:=fun k=>bF.mk (f k.expr) k.desc) fun k hk=>by
    have:=h k.expr (by unfold fT; simp only [QM,QZ]; exact .inl (.inr ⟨k,hk,by simp⟩))
    obtain ⟨a,b⟩:=k
    simp only [tZ]; exact this
  rw [this]
theorem zlf {c:aR} (hc:nN c) {m:Nat} {f:Nat→aB→aB} (hf:Lfs c m f):∀ (N n k:Nat) (e:aB),bA e<N→Tyd c n e→k≤n→bA (f k e)=bA e:=by
  intro N
  induction N with
  | zero=>intro n k e h; omega
  | succ N ih =>
    intro n k e hN h hk
    rw [hf n k e h hk,V9,V9 e]
    dsimp only
    rw [aE3 fun x hx=>ih n k x (by have:=yG hx; have:=QQ hx; omega) (h.kid hx) hk]
    rw [aE3 fun p hp=>bGa fun x hx=>ih (n+1) (k+1) x (by have:=wG hp; have:=QQ hp; have:=aGf hx; omega) (h.part hc hp hx) (by omega)]
theorem A2.maps {α β γ:Type} {R:α→β→Prop} {a:γ→α} {b:γ→β}:∀ {l:List γ},(∀ x∈l,R (a x) (b x))→A2 R (l.map a) (l.map b)
  | [],_=>.nil
  | x::l,h=>.cons (h x (by simp)) (A2.maps fun y hy=>h y (QV _ hy))
theorem A2.mapr {α β:Type} {R:α→β→Prop} {b:α→β}:∀ {l:List α},(∀ x∈l,R x (b x))→A2 R l (l.map b)
  | [],_=>.nil
  | x::l,h=>.cons (h x (by simp)) (A2.mapr fun y hy=>h y (QV _ hy))
theorem A2.imp {α β:Type} {R S:α→β→Prop} (hRS:∀ a b,R a b→S a b) {l:List α} {m:List β} (h:A2 R l m):A2 S l m:=by
  induction h with
  | nil=>exact .nil
  | cons a _ ih=>exact .cons (hRS _ _ a) ih
theorem aQo {α β γ:Type} {g:α→β×Int} {h:γ→β×Int} {l:List α} {m:List γ} (H:A2 (fun a b=>g a=h b) l m):bH g l=bH h m:=by
  induction H with
  | nil=>rfl
  | cons a _ ih=>rw [bH,bH,a,ih]
theorem bFe {g h:Gf}:∀ {r:Rows},(∀ x∈r,g x=h x)→jF g r=jF h r
  | [],_=>rfl
  | x::l,H=>by rw [jF,jF,H x (by simp),bFe fun y hy=>H y (QV _ hy)]
theorem bIn {P:Row1→Prop} {l m:List Gf} (h:A2 (fun g h=>∀ x,P x→g x=h x) l m):∀ {r:Rows},(∀ x∈r,P x)→whE l r=whE m r:=by
  induction h with
  | nil=>intro r _; rfl
  | cons a _ ih =>
    intro r hr
    rw [whE,whE,bFe fun x hx=>a x (hr x hx)]
    split
    · rfl
    · exact ih fun x hx=>hr x ((aCo _ _).subset hx)
def SEq (s t:Rows×List Gf):Prop:=s.1=t.1∧(∀ x∈s.1,eO 1 x)∧A2 (fun g h=>∀ x,eO 3 x→g x=h x) s.2 t.2
theorem bZk {l m:List (Rows×List Gf)} (h:A2 SEq l m):∀ (n:Nat) {r:Rows},n+l.length≤3→(∀ x∈r,eO n x)→joE l r=joE m r:=by
  induction h with
  | nil=>intro n r _ _; rfl
  | @cons s t l m a h ih =>
    intro n r hn hr
    obtain ⟨e,hb,hw⟩:=a
    have hn:n+1+l.length≤3:=by simp only [QT] at hn; omega
    have hc:=aO4 hr hb
    rw [joE,joE,← e,bIn (P:=eO 3) hw fun x hx=>F3 (by omega) (hc x hx)]
    split
    · rfl
    · exact ih (n+1) hn fun x hx=>hc x ((yK _ _).subset hx)
theorem bGd {d:GDb} {ev ev':aB→Gf} {f:aB→aB}:∀ (T:List Int) (O:List (List aB)),(∀ i∈T,∀ x∈rowsOf d i,eO 1 x)→(∀ l∈O,∀ e∈l,∀ r,eO 3 r→ev e r=ev' (f e) r) →
    A2 SEq (QL (fun i l=>(rowsOf d i,l.map ev)) T O) (QL (fun i l=>(rowsOf d i,l.map ev')) T (O.map fun l=>l.map f))
  | [],O,_,_=>by simp only [XK]; exact .nil
  | i::T,[],_,_=>by simp only [QX,List.zipWith_nil_right]; exact .nil
  | i::T,l::O,hT,hO=>by
    simp only [QN,WF]
    refine .cons ⟨rfl,hT i (by simp),?_⟩ (bGd T O (fun j hj=>hT j (QV _ hj)) fun m hm=>hO m (QV _ hm))
    dsimp only
    rw [WG]
    exact A2.maps fun e he r hr=>hO l (by simp) e he r hr
theorem cC8 {P:Row1→Prop} {ks km:List (Gf×Bool)} {r:Rows} (h:A2 (fun a b=>(∀ x,P x→a.1 x=b.1 x)∧a.2=b.2) ks km) (hr:∀ x∈r,P x):kT ks r=kT km r:=by
  have e1:bH (fun row=>bH (fun k:Gf×Bool=>k.1 row) ks) r=bH (fun row=>bH (fun k:Gf×Bool=>k.1 row) km) r :=
    aT7 fun x hx=>aQo (h.imp fun a b hab=>hab.1 x (hr x hx))
  have e2:ks.map (·.2)=km.map (·.2):=by
    clear e1 hr
    induction h with
    | nil=>rfl
    | cons a _ ih=>rw [QN,QN,a.2,ih]
  unfold kT
  rw [e1,e2]
theorem bKg {R:Nat} {d:GDb} {ev ev':aB→Gf} {f:aB→aB} {p:aQ} (hd:DbB R d) (t3:p.tables.length≤3) (H:∀ e∈fT p,∀ r,eO 3 r→ev e r=ev' (f e) r):uU d ev p=uU d ev' (nJ f p):=by
  have Hon:∀ y∈p.on_,∀ e∈y,∀ r,eO 3 r→ev e r=ev' (f e) r:=fun y hy e he=>H e (by unfold fT; simp only [QM,QZ]; exact .inl (.inl (.inl ⟨y,hy,he⟩)))
  have Hwh:∀ e∈p.where_,∀ r,eO 3 r→ev e r=ev' (f e) r:=fun e he=>H e (by unfold fT; simp [he])
  have Hor:∀ q∈p.order,∀ r,eO 3 r→ev q.expr r=ev' (f q.expr) r:=fun q hq=>H _ (by unfold fT; simp only [QM,QZ]; exact .inl (.inr ⟨q,hq,by simp⟩))
  have Hit:∀ e∈p.items,∀ r,eO 3 r→ev e r=ev' (f e) r:=fun e he=>H e (by unfold fT; simp [he])
  have m1:(nJ f p).tables=p.tables:=rfl
  have m2:(nJ f p).on_.length=p.on_.length:=by unfold nJ; simp
  unfold uU
  rw [m1,m2]
  by_cases hg:(p.tables.length=0∨p.on_.length≠p.tables.length)∨mQ d p.tables=false
  · rw [if_pos hg,if_pos hg]
  rw [if_neg hg,if_neg hg]
  have hT:mQ d p.tables=true:=by
    cases h:mQ d p.tables with
    | true=>rfl
    | false=>exact absurd (.inr h) hg
  have hBr:∀ k∈p.tables,∀ r∈rowsOf d k,eO 1 r:=fun k hk r hr=>by
    obtain ⟨x,hx,e⟩:=aHd hT (XA hk)
    rw [← e] at hr
    exact hd.row x hx r hr
  have S:A2 SEq (iJ d ev p).st (iJ d ev' (nJ f p)).st:=bGd p.tables p.on_ hBr Hon
  have hS3:(iJ d ev p).st.length≤3:=by
    show (QL _ p.tables p.on_).length≤3
    rw [WZ]; omega
  have J:=bZk S 0 (r:=[[]]) (by omega) (fun r hr=>by simp at hr; subst hr; exact ⟨by simp,by simp⟩)
  have jB:=aL0 (iJ d ev p).st [[]] 0 (fun s hs=>by obtain ⟨_,hst⟩:=aYj S hs; exact hst.2.1) (fun r hr=>by simp at hr; subst hr; exact ⟨by simp,by simp⟩)
  have jB:∀ x∈(joE (iJ d ev p).st [[]]).1,eO 3 x:=fun x hx=>F3 (by omega) (jB x hx)
  have W:=bIn (P:=eO 3) (l:=(iJ d ev p).wh) (m:=(iJ d ev' (nJ f p)).wh) (by
    show A2 _ (p.where_.map ev) ((p.where_.map f).map ev')
    rw [WG]
    exact A2.maps Hwh) jB
  have wB:∀ x∈(whE (iJ d ev p).wh (joE (iJ d ev p).st [[]]).1).1,eO 3 x:=fun x hx=>jB x ((yK _ _).subset hx)
  have O:=cC8 (P:=eO 3) (ks:=(iJ d ev p).ks) (km:=(iJ d ev' (nJ f p)).ks) (by
    show A2 _ (p.order.map fun k=>(ev k.expr,k.desc)) ((p.order.map fun k=>bF.mk (f k.expr) k.desc).map fun k=>(ev' k.expr,k.desc))
    rw [WG]
    exact A2.maps fun k hk=>⟨Hor k hk,rfl⟩) wB
  have I:oO (iJ d ev p).is (kT (iJ d ev p).ks (whE (iJ d ev p).wh (joE (iJ d ev p).st [[]]).1).1).1=oO (iJ d ev' (nJ f p)).is (kT (iJ d ev p).ks (whE (iJ d ev p).wh (joE (iJ d ev p).st [[]]).1).1).1:=by
    unfold oO
    refine aT7 fun x hx=>aQo ?_
    have hx:=wB x (aSn.2 x hx)
    show A2 _ (p.items.map ev) ((p.items.map f).map ev')
    rw [WG]
    exact A2.maps fun e he=>Hit e he x hx
  unfold aFs
  rw [← J,← W,← O,← I]
  rfl
def tN (env:Rows):Prop:=∀ r∈env,r.length≤1048576∧∀ v∈r,okI v.num
theorem tN.B {env:Rows} (h:tN env):aEy env:=fun r hr=>(h r hr).2
theorem tN.L {env:Rows} (h:tN env):∀ r∈env,r.length≤1048576:=fun r hr=>(h r hr).1
section
variable {c:aR} {d:GDb}
theorem bKb (hd:dbG 4 d) {env:Rows} (hw:tN env) (hl:env.length≤20000) {e:aB} (hz:bA e≤6000):EvE c d env e :=
  (bBf (c:=c) aU3 bAd (by omega) (aXt hd) (by have:=hd.1; omega) 6001).1 e env (by omega) (by omega) hw.B hw.L (by omega)
theorem bEt (hd:dbG 4 d) {env:Rows} (hw:tN env) (hl:env.length≤20000) {p:aQ} (hz:eU p≤6000):EvP c d env p∧O7 c d env p=some (uU d (jK c d env) p) :=
  (bBf (c:=c) aU3 bAd (by omega) (aXt hd) (by have:=hd.1; omega) 6001).2 p env (by omega) (by omega) hw.B hw.L (by omega)
theorem plS (hd:dbG 4 d) {env:Rows} (hw:tN env) (hl:env.length≤20000) {p:aQ} (hz:eU p≤6000):wW c d env p=some (uU d (jK c d env) p):=by
  obtain ⟨⟨r,h1,h2,_⟩,h3⟩:=bEt (c:=c) hd hw hl hz
  rw [h1] at h3
  rw [h2,h3]
theorem exS (hd:dbG 4 d) {env:Rows} (hw:tN env) (hl:env.length≤20000) {e:aB} (hz:bA e≤6000):rO c d env e=some (H7 c d env e)∧gD c d env e=some (H7 c d env e):=by
  obtain ⟨a,b,_⟩:=bBh (c:=c) (d:=d) aU3 hw.B (by omega) hw.L (e:=e) (show bA e≤1048576 by omega) (fun k hk=>bKb hd hw hl (by have:=yG hk; omega)) (fun p hp=>(bEt hd hw hl (by have:=wG hp; omega)).1)
  exact ⟨a,b⟩
theorem bWg {front mid rest more:Rows} {u:Nat} (hu:u<front.length+rest.length):(front++mid++rest++more)[(if front.length≤u then u+mid.length else u)]! =(front++rest)[u]!:=by
  by_cases h:front.length≤u
  · rw [if_pos h,WU,WU,WR (by simp; omega),XQ (by simp; omega),XQ h,QK,show u+mid.length - (front.length+mid.length)=u - front.length by omega]
  · rw [if_neg h,WU,WU,WR (by simp; omega),WR (by simp; omega),WR (by omega),WR (by omega)]
theorem bUi {front mid rest more:Rows} {e x:aB} (hu:0≤e.up) (hl:e.up<((front.length+rest.length:Nat):Int)) (ha:x.at_=e.at_) (hx:x.up=if (front.length:Int)≤e.up then e.up+(mid.length:Nat) else e.up):cellP (front++rest) e=cellP (front++mid++rest++more) x:=by
  obtain ⟨u,hn⟩:∃ n:Nat,e.up=n:=⟨e.up.toNat,by omega⟩
  rw [hn] at hl hx
  have hx2:x.up=((if front.length≤u then u+mid.length else u:Nat):Int):=by
    rw [hx]
    by_cases h:front.length≤u
    · have h2:(front.length:Int)≤(u:Int):=by omega
      rw [if_pos h,if_pos h2]; omega
    · have h2:¬ (front.length:Int)≤(u:Int):=by omega
      rw [if_neg h,if_neg h2]
  have hul:u<front.length+rest.length:=by omega
  have g:=bWg (mid:=mid) (more:=more) hul
  unfold cellP
  rw [hn,hx2,ha,WM,WM,g]
  have b1:((u:Nat):Int)<((front++rest).length:Int):=by simp; omega
  have b2:((if front.length≤u then u+mid.length else u:Nat):Int)<((front++mid++rest++more).length:Int):=by
    simp only [QK]
    split <;> omega
  have b3:(0:Int)≤((if front.length≤u then u+mid.length else u:Nat):Int):=by omega
  have b4:(0:Int)≤(u:Int):=by omega
  simp only [b1,b2,b3,b4,true_and]
theorem inv (hc:nN c) (hd:dbG 4 d) {m:Nat} {f:Nat→aB→aB} (hf:Lfs c m f):∀ (N k:Nat) (e:aB) (front mid rest more:Rows),bA e<N→Tyd c (k+rest.length) e→front.length=k→mid.length=m→tN (front++mid++rest++more)→(front++mid++rest++more).length+N≤20000 →
    H7 c d (front++rest) e=H7 c d (front++mid++rest++more) (f k e):=by
  intro N
  induction N with
  | zero=>intro k e _ _ _ _ h; omega
  | succ N ih =>
    intro k e front mid rest more hN h hk hm hw hl
    have hlen:=h.len
    have hn:=h.n
    have hfe:=hf _ k e h (by omega)
    have hzf:=zlf hc hf _ _ k e (QY _) h (by omega)
    have hw0:tN (front++rest):=fun r hr=>hw r (by
      simp only [QM] at hr ⊢
      rcases hr with h | h <;> simp [h])
    have hl0:(front++rest).length+N≤20000:=by simp only [QK] at hl ⊢; omega
    unfold H7
    rw [hfe]
    dsimp only
    rw [QW,QW]
    by_cases hFK:FK e.kind e.kids.length e.sub.length
    case neg=>rw [if_pos hFK,if_pos hFK]
    have nF:¬ ¬ FK e.kind e.kids.length e.sub.length:=fun h=>h hFK
    rw [if_neg nF,if_neg nF]
    by_cases h2:e.kind=2
    · rw [if_pos h2,if_pos h2]
      obtain ⟨u0,_,u1⟩:=h.up
      have u1:=u1 h2
      refine bUi u0 (by rw [hk]; exact u1) rfl ?_
      simp only [h2,true_and,hk,hm]
    rw [if_neg h2,if_neg h2]
    have K:∀ g:aB,g.kids=e.kids.map (f k)→pX c d (front++rest) e=pX c d (front++mid++rest++more) g:=by
      intro g hg
      unfold pX
      rw [hg]
      refine aQo (A2.mapr fun x hx=>?_)
      have hxz:=yG hx
      have:=QQ hx
      have hTx:=h.kid hx
      have zx:=zlf hc hf _ _ k x (QY _) hTx (by omega)
      rw [(exS hd hw0 (by omega) (by omega)).2,(exS hd hw (by omega) (by omega)).2]
      exact congrArg (fun z=>(some z).getD _) (ih k x front mid rest more (by omega) hTx hk hm hw (by omega))
    rw [← K _ rfl]
    by_cases h0:(pX c d (front++rest) e).2=0
    case neg=>rw [if_pos h0,if_pos h0]
    have n0:¬ (pX c d (front++rest) e).2≠0:=fun h=>h h0
    rw [if_neg n0,if_neg n0]
    cases hs:e.sub with
    | nil=>rfl
    | cons p l =>
      rw [QN]
      dsimp only
      have hp:p∈e.sub:=by rw [hs]; simp
      have hpz:=wG hp
      have:=QQ hp
      obtain ⟨types,ts,_,tp⟩:=h.plan hc hp
      have hzm:eU (nJ (f (k+1)) p)=eU p:=bGa fun x hx=>by
        exact zlf hc hf _ _ (k+1) x (QY _) (h.part hc hp hx) (by omega)
      rw [plS hd hw0 (by omega) (p:=p) (by omega),plS hd hw (by omega) (p:=nJ (f (k+1)) p) (by omega)]
      have E:uU d (jK c d (front++rest)) p=uU d (jK c d (front++mid++rest++more)) (nJ (f (k+1)) p):=by
        refine bKg (aXt hd) tp.ne.2.1 fun x hx r hr=>?_
        have hTx:=h.part hc hp hx
        have hxz:=aGf hx
        have zx:=zlf hc hf _ _ (k+1) x (QY _) hTx (by omega)
        have hr1:r.length≤1048576:=by have:=hr.1; omega
        have wc:∀ E:Rows,tN E→tN (r::E):=fun E hE y hy=>by
          rcases QU.1 hy with rfl | hy
          · exact ⟨hr1,hr.2⟩
          · exact hE y hy
        unfold jK
        rw [(exS hd (wc _ hw0) (by simp only [QT]; omega) (by omega)).2,(exS hd (wc _ hw) (by simp only [QT]; omega) (by omega)).2]
        exact congrArg (fun z=>(some z).getD _) (ih (k+1) x (r::front) mid rest more (by omega) (by rw [show k+1+rest.length=k+rest.length+1 by omega]; exact hTx) (by simp [hk]) hm (wc _ hw) (by simp only [QK,QT] at hl ⊢; omega))
      rw [← E]
      rfl
end
def xM (r:Row1):List Int:=r.map (·.kind)
theorem bOl {c:aR} {d:GDb} {env:Rows} {e:aB} {v:aA×Int} (hl:env.length≤20000) (hr:∀ r∈env,r.length≤20000):xP (c,d,env,e) v [] 0=xP (c,d,env,e) v (env.map xM) (env.length:Int):=by
  have L0:∀ i,i≤env.length→xP (c,d,env,e) v ((env.take i).map xM) (i:Nat)=xP (c,d,env,e) v (env.map xM) (env.length:Int):=by
    refine dZ (by rw [XD]) ?_
    intro i hi ih
    have hrow:=hr _ (QG hi)
    have L1:∀ j,j≤env[i].length→Y0 (c,d,env,e) v ((env.take i).map xM) (i:Nat) ((env[i].take j).map (·.kind)) (j:Nat)=xP (c,d,env,e) v (env.map xM) (env.length:Int):=by
      refine dZ ?_ ?_
      · rw [Y0]
        dsimp only
        rw [bP hi]
        simp only [dN,WD,decide_false,QC,if_false,QB,QA]
        rw [jX (by simp only [QW,WJ,QD]; omega),QA,dR hi (by omega),XD]
        have e1:(env.take i).map xM++[env[i].map (·.kind)]=(env.take (i+1)).map xM:=by
          rw [XB,WP,XC hi]; rfl
        rw [e1]; exact ih
      · intro j hj ihj
        rw [Y0]
        dsimp only
        simp only [bP hi,dN,hj,decide_true,if_true,bP hj,QB,QA]
        rw [jX (by simp only [QW,WJ,QD]; omega),QA,dR hj (by omega)]
        have e1:(env[i].take j).map (·.kind)++[env[i][j].kind]=(env[i].take (j+1)).map (·.kind):=by
          rw [XB,WP,XC hj]; rfl
        rw [e1]; exact ihj
    rw [xP]
    dsimp only
    rw [if_pos (by simpa using hi)]
    have:=L1 0 (by omega)
    simpa using this
  have:=L0 0 (by omega)
  simpa using this
theorem bWz (p:List Int) (h:okL okU8 p):aIp p=some true:=by
  unfold aIp aQ6
  simp only [QB,QA]
  by_cases hl:(1048576:Int)<(p.length:Int)
  · simp [hl]
  simp only [hl,decide_false,QC,if_false]
  obtain ⟨⟨c,d,env,e⟩,eD,hV⟩:=bJk p (by omega)
  obtain ⟨hC,hD,⟨hE1,hE2,hE3⟩,hz⟩:=hV
  dsimp only at hC hD hE1 hE2 hE3 hz
  have hd:dbG 4 d:=⟨by have:=hD.1; omega,hD.2⟩
  have hw:tN env:=fun r hr=>⟨by have:=hE3 r hr; omega,fun v hv=>(hE2 r hr v hv).1⟩
  obtain ⟨v1,v2⟩:=exS (c:=c) hd hw (by omega) (e:=e) (by omega)
  rw [eD]
  simp only [QA]
  rw [v1,v2]
  simp only [QA,decide_true,QF,QC,if_false]
  rw [bOl (by omega) (fun r hr=>by have:=hE3 r hr; omega),xP]
  dsimp only
  rw [if_neg (by simp)]
  have hEnv:nH (env.map xM):=fun row hrow=>by
    obtain ⟨r,hr,rfl⟩:=WH.1 hrow
    refine ⟨by unfold xM; rw [QW]; have:=hE3 r hr; omega,fun x hx=>?_⟩
    obtain ⟨v,hv,rfl⟩:=WH.1 hx
    exact (hE2 r hr v hv).2
  obtain ⟨⟨t,ok⟩,t1,t2,_⟩:=bPt c hC.cat e (env.map xM) (by omega) hEnv (by rw [QW]; omega)
  rw [t2]
  simp only [QB,QA]
  cases ok with
  | false=>simp
  | true =>
  have hT:Tyd c (0+env.length) e:=⟨env.map xM,t,by simp,t1,by omega⟩
  have wv:∀ n:Int,okI n→∀ r∈([[⟨1,n,[]⟩]]:Rows),r.length≤1048576∧∀ v∈r,okI v.num:=fun n hn r hr=>by
    have hr:r=[⟨1,n,[]⟩]:=by simpa using hr
    subst hr
    refine ⟨by simp,fun v hv=>?_⟩
    have hv:v=⟨1,n,[]⟩:=by simpa using hv
    rw [hv]; exact hn
  have o7:okI 7:=by decide
  have o8:okI 8:=by decide
  have wM:tN (env++[[⟨1,7,[]⟩]]):=fun r hr=>by
    rcases QM.1 hr with h | h
    · exact hw r h
    · exact wv 7 o7 r h
  have wI:tN ([[],[⟨1,8,[]⟩]]++env):=fun r hr=>by
    rcases QM.1 hr with h | h
    · rcases QU.1 h with rfl | h
      · exact ⟨by simp,by simp⟩
      · exact wv 8 o8 r h
    · exact hw r h
  have I1:=inv (c:=c) (d:=d) hC.cat hd (bNp c) _ 0 e [] [] env [[⟨1,7,[]⟩]] (QY _) hT rfl rfl (by simpa using wM) (by simp; omega)
  have I2:=inv (c:=c) (d:=d) hC.cat hd (bDr hC.cat) _ 0 e [] [[],[⟨1,8,[]⟩]] env [] (QY _) hT rfl rfl (by simpa using wI) (by simp; omega)
  have zl:=zlf hC.cat (bDr hC.cat) _ _ 0 e (QY _) hT (by omega)
  simp only [QI,WI] at I1 I2
  have x1:=(exS (c:=c) hd wM (by simp; omega) (e:=e) (by omega)).1
  have x2:=(exS (c:=c) hd wI (by simp; omega) (e:=lf 0 e) (by omega)).1
  have hL:aK8 e 2=some (lf 0 e):=by
    have cp:xX e=some e:=(bCu (bA e+1)).1 e (QY _) (by omega)
    have up:=bS5 hC.cat _ _ e (QY _) hT
    have li:=bCd hC.cat _ _ 0 e (QY _) hT (by omega)
    have li2:lG e 2 0=some (lf 0 e):=by
      have:lf 0 e=(lG e 2 0).getD e:=rfl
      rw [this]
      rw [show ((0:Nat):Int)=0 from rfl] at li
      rw [li]; rfl
    unfold aK8
    rw [cp,aFp,up]
    show ((lG e 2 0)>>=fun (y5:aB)=>some y5)=_
    rw [li2]; rfl
  have i7:xG 7=some ⟨1,7,[]⟩:=rfl
  have i8:xG 8=some ⟨1,8,[]⟩:=rfl
  simp only [QF,QC,if_false]
  rw [jX (l:=([]:Rows)) (by simp; omega)]
  simp only [QA,QI,i7,i8]
  rw [jX (by simp; omega)]
  simp only [QA]
  rw [x1]
  simp only [QA]
  rw [jX (by simp; omega)]
  simp only [QA]
  rw [hL]
  simp only [QA]
  rw [x2,← I2,← I1]
  simp
end Go.Ab
