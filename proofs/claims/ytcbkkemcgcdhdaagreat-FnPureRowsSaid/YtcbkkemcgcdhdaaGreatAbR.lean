/- Rows of a tree that a function puts in another order: it is told with the rows' cells known. -/
import Derived.Test.YtcbkkemcgcdhdaaGreatAbC1
import Derived.Test.YtcbkkemcgcdhdaaGreatAbS5
namespace Go.Ab
open Go Go.RowKit
open _root_.List renaming map_cons→QA,mem_append_right→QB,flatten_cons→QC,singleton_append→QD,map_map→QE,nil_prefix→QF,mem_map→QG,mem_flatMap→QH,flatMap_cons→QJ,mem_cons_of_mem→QK,nodup_append→QL,prefix_refl→QM,mem_append_left→QN,mem_append→QO
open _root_.Option renaming some.injEq→QI
section
variable {α:Type}
def cRw (g:α→D) (z:Value×α):List D:=[.rw z.1 (g z.2)]
theorem bR.unrw {S:Mem} {v u:Value} {x:D} (h:bR S v (.rw u x)):v=u∧bR S v x:=by cases h with | rw h=>exact ⟨rfl,h⟩
theorem okRw {P:Program} {f:FuncId} {x y:D} {a b:Value} {β:Type} {v:β→V} {m:Option β} (h:FOk P f [.d x,.d y] v m):FOk P f [.d (.rw a x),.d (.rw b y)] v m:=fun r hr κ w cargs may hg hc =>
  h r hr κ w cargs may hg (by
    cases hc with | cons p t =>
    cases t with | cons q u =>
    cases u
    cases p with | d p =>
    cases q with | d q =>
    exact .cons (.d p.unrw.2) (.cons (.d q.unrw.2) .nil))
theorem bSh {β γ:Type} {f:β→γ} {a b:List γ} (h:a.Perm b):∀ T:List β,T.map f=b→∃ T',List.Perm T' T∧T'.map f=a:=by
  induction h with
  | nil=>intro T hT; exact ⟨T,.refl _,hT⟩
  | cons x _ ih =>
    intro T hT
    cases T with
    | nil=>simp at hT
    | cons t T =>
      simp only [QA,List.cons.injEq] at hT
      obtain ⟨T',h1,h2⟩:=ih T hT.2
      exact ⟨t::T',h1.cons t,by simp [h2,hT.1]⟩
  | swap x y l =>
    intro T hT
    match T,hT with
    | t::u::T,hT =>
      simp only [QA,List.cons.injEq] at hT
      exact ⟨u::t::T,.swap ..,by simp [hT.1,hT.2.1,hT.2.2]⟩
  | trans _ _ ih1 ih2 =>
    intro T hT
    obtain ⟨T2,p2,e2⟩:=ih2 T hT
    obtain ⟨T1,p1,e1⟩:=ih1 T2 e2
    exact ⟨T1,p1.trans p2,e1⟩
abbrev tbl (T:List ((Value×α)×List Nat)):List Nat:=T.flatMap (·.2)
theorem bKu {h:Nat→Option Obj} {g:α→D}:∀ {l:List α} {vs:List Value} {B:List Nat},dZ h vs (l.map fun x=>[g x]).flatten B →
    ∃ T:List ((Value×α)×List Nat),T.map (·.1.2)=l∧T.map (·.1.1)=vs∧(∀ t∈T,fP h t.1.1 (g t.1.2) t.2)∧tbl T=B
  | [],_,_,h=>by cases h; exact ⟨[],rfl,rfl,by simp,rfl⟩
  | x::l,_,_,h=>by
    simp only [QA,QC,QD] at h
    cases h with | cons a t =>
    obtain ⟨T,h1,h2,h3,h4⟩:=bKu t
    refine ⟨((_,x),_)::T,by simp [h1],by rw [QA,h2],?_,by simp only [tbl,QJ]; rw [← h4]⟩
    intro t ht
    rcases List.mem_cons.1 ht with rfl | ht
    · exact a
    · exact h3 t ht
theorem bJw {h:Nat→Option Obj} {g:α→D}:∀ {T:List ((Value×α)×List Nat)},(∀ t∈T,fP h t.1.1 (g t.1.2) t.2)→dZ h (T.map (·.1.1)) ((T.map (·.1.2)).map fun x=>[g x]).flatten (tbl T)
  | [],_=>.nil
  | t::T,h=>by
    simp only [QA,QC,QD,tbl,QJ]
    exact .cons (h t (by simp)) (bJw fun u hu=>h u (QK _ hu))
theorem bHo {S:Mem} {g:α→D}:∀ {z:List (Value×α)},(∀ t∈z,bR S t.1 (g t.2))→bP S (z.map (·.1)) (z.map (cRw g)).flatten
  | [],_=>.nil
  | t::z,h=>by
    simp only [QA,QC,cRw,QD]
    exact .cons (.rw (h t (by simp))) (bHo fun u hu=>h u (QK _ hu))
theorem bFp {S:Mem} {g:α→D}:∀ {z:List (Value×α)} {vs:List Value},bP S vs (z.map (cRw g)).flatten→vs=z.map (·.1)
  | [],_,h=>by cases h; rfl
  | t::z,_,h=>by
    simp only [QA,QC,cRw,QD] at h
    cases h with | cons a r =>
    rw [QA,bFp r,a.unrw.1]
theorem bQr {w:World} {g:α→D} {l:List α} {v:Value} {B:List Nat} (h:fP (fun b=>w.heap[b]?) v (.sl 1 (l.map fun x=>[g x])) B) :
    ∃ (A:List Nat) (T:List ((Value×α)×List Nat)),B=A++tbl T∧T.map (·.1.2)=l∧(∀ t∈T,fP (fun b=>w.heap[b]?) t.1.1 (g t.1.2) t.2) ∧
      ∀ S:Mem,(∀ b∈tbl T,S b=mW w b)→rX S (fun b=>w.heap[b]?) 1 ((T.map (·.1)).map (cRw g)) v A:=by
  generalize hL:(l.map fun x=>[g x])=L at h
  cases h with
  | nil =>
    have:l=[]:=by simpa using hL
    subst this
    exact ⟨[],[],rfl,rfl,by simp,fun S _=>.nil rfl⟩
  | sl b len cap _ _ B cs T0 h1 h2 h3 h4 h5 h6 h7 =>
    subst hL
    obtain ⟨T,e1,e2,e3,e4⟩:=bKu h7
    have hl:len=((T.map (·.1)).map (cRw g)).length:=by rw [h3,← e1]; simp
    refine ⟨[b],T,by rw [e4]; rfl,e1,e3,fun S hS=>?_⟩
    subst hl
    refine .sl b cap cs T0 h1 h2 h4 h5 (fun e he=>?_) ?_
    · obtain ⟨z,_,rfl⟩:=QG.1 he; rfl
    · rw [← e2]
      have:=bHo (S:=S) (g:=g) (z:=T.map (·.1)) (fun z hz=>by
        obtain ⟨t,ht,rfl⟩:=QG.1 hz
        exact (e3 t ht).toD fun b hb=>hS b (QH.2 ⟨t,ht,hb⟩))
      rwa [QE] at this
theorem bSm {S:Mem} {h:Nat→Option Obj} {g:α→D} {v:Value} {A:List Nat} {T:List ((Value×α)×List Nat)} (r:rX S h 1 ((T.map (·.1)).map (cRw g)) v A) (ht:∀ t∈T,fP h t.1.1 (g t.1.2) t.2) :
    fP h v (.sl 1 ((T.map (·.1.2)).map fun x=>[g x])) (A++tbl T):=by
  generalize hL:((T.map (·.1)).map (cRw g))=L at r
  cases r with
  | nil e =>
    subst e
    have:T=[]:=by simpa using hL
    subst this
    exact .nil 1
  | sl b cap cs T0 h1 h2 h4 h5 h6 h7 =>
    subst hL
    have e:=bFp h7
    refine .sl b _ cap 1 _ _ cs T0 h1 h2 (by simp) h4 h5 (fun e he=>?_) ?_
    · obtain ⟨z,_,rfl⟩:=QG.1 he; rfl
    · rw [e,QE]
      exact bJw ht
theorem bUh {P:Program} {f q:FuncId} {m:Nat} {l l':List α} {g:α→D}
    (H:∀ zs:List (Value×α),zs.map (·.2)=l→∃ y:List (Value×α),List.Perm y zs∧y.map (·.2)=l'∧bF P f [.tre m,.fn q []] [(m,[.trs 1 (zs.map (cRw g))])] fun x b=>x=.tup []∧vU [(m,[.trs 1 (y.map (cRw g))])] b) :
    bF P f [.tre m,.fn q []] [(m,[.trc 1 (l.map fun x=>[g x])])] fun x b=>x=.tup []∧vU [(m,[.trc 1 (l'.map fun x=>[g x])])] b:=by
  intro κ w cargs may hg hr
  have hm:∀ {c:List V} {n:Nat},(bget [(m,c)] n).isSome→n=m:=by
    intro c n h
    simp only [bget] at h
    split at h
    · assumption
    · simp at h
  obtain ⟨_,v,T0,e1,e2⟩:=(hg.box m [.trc 1 (l.map fun x=>[g x])] (by simp [bget])).toClosed
  obtain ⟨hnd,hbl⟩:=hg.blk m (by simp [bget])
  obtain ⟨A,T,k1,k2,k3,k4⟩:=bQr e2
  rw [k1] at hnd hbl
  rw [QL] at hnd
  obtain ⟨hA,hB,hAB⟩:=hnd
  obtain ⟨y,p1,p2,p3⟩:=H (T.map (·.1)) (by rw [QE]; exact k2)
  obtain ⟨T',q1,q2⟩:=bSh p1 T rfl
  have hT':∀ t∈T',t∈T:=fun t ht=>q1.mem_iff.1 ht
  have pB:(tbl T').Perm (tbl T):=q1.flatMap_right _
  let κ1:Ctx:=⟨fun b=>if b∈tbl T then mW w b else κ.S b,κ.mt,κ.o,fun n=>if n=m then A else κ.bl n⟩
  let may1:Nat→Prop:=fun b=>may b∧b∉tbl T
  have S0:∀ b,b∉tbl T→κ1.S b=κ.S b:=fun b hb=>if_neg hb
  have S1:∀ b,b∈tbl T→κ1.S b=mW w b:=fun b hb=>if_pos hb
  have hle:κ.S.le κ1.S:=fun b=>by
    by_cases hb:b∈tbl T
    · rw [(hbl b (QB _ hb)).1]; exact QF
    · rw [S0 b hb]; exact QM _
  have good1:Good ⟨κ1,w,[m],may1⟩ κ1 w [(m,[.trs 1 ((T.map (·.1)).map (cRw g))])]:=by
    refine ⟨⟨rfl,rfl,rfl,Nat.le_refl _,fun _ _ _=>rfl,fun _ _ _=>rfl,fun _ _=>rfl,Mem.le_refl _⟩,fun b hb=>?_,fun n c hc=>?_,fun n hn=>?_,fun n n' b h1 h2 _ _=>(hm h1).trans (hm h2).symm,fun t o ho=>?_,hg.ownInj,fun b=>QF,fun p hp=>?_⟩
    · by_cases hbB:b∈tbl T
      · obtain ⟨t,ht,hb2⟩:=QH.1 hbB
        obtain ⟨cs,T1,fr,h1,_⟩:=(k3 t ht).blk b hb2
        have h1':w.heap[b]?=some (.cells cs T1 fr):=h1
        exact ⟨cs,T1,fr,h1',by rw [S1 b hbB]; simp only [mW,h1']; exact QM _⟩
      · rw [S0 b hbB] at hb ⊢
        exact hg.mem b hb
    · have hn:=hm (by rw [hc]; rfl)
      subst hn
      simp only [bget,if_pos,QI] at hc
      subst hc
      exact .shallow (T:=T0) e1 (by show rX κ1.S _ 1 _ v (if n=n then A else κ.bl n); rw [if_pos rfl]; exact k4 κ1.S S1)
    · have hn:=hm hn
      subst hn
      show (if n=n then A else κ.bl n).Nodup∧∀ b∈(if n=n then A else κ.bl n),_
      rw [if_pos rfl]
      refine ⟨hA,fun b hb=>?_⟩
      have hbB:b∉tbl T:=fun hb2=>hAB b hb b hb2 rfl
      obtain ⟨j1,j2,j3⟩:=hbl b (QN _ hb)
      exact ⟨(S0 b hbB).trans j1,j2,j3.imp (fun h=>⟨h,hbB⟩) id⟩
    · obtain ⟨⟨k,xs,j1,j2⟩,j3⟩:=hg.own t o ho
      have hgB:∀ b,o.v.ownBlock=some b→b∉κ.bl m:=fun b hb=>(j3 b hb).2 m (by simp [bget])
      have hgT:∀ b,o.v.ownBlock=some b→b∉tbl T:=fun b hb h=>hgB b hb (by rw [k1]; exact QB _ h)
      refine ⟨⟨k,xs,j1,fun b hb=>(S0 b (hgT b hb)).trans (j2 b hb)⟩,fun b hb=>⟨(j3 b hb).1.imp (fun h=>⟨h,hgT b hb⟩) id,fun n hn=>?_⟩⟩
      have hn:=hm hn
      subst hn
      show b∉(if n=n then A else κ.bl n)
      rw [if_pos rfl]
      exact fun h=>hgB b hb (by rw [k1]; exact QN _ h)
    · obtain ⟨j1,j2,j3⟩:=hg.tabx p hp
      exact ⟨fun h=>j1 h.1,j2,j3⟩
  have hr1:aZ κ1 cargs [.tre m,.fn q []]:=by
    cases hr with | cons a t =>
    cases t with | cons b u =>
    cases u
    cases a with | tre a =>
    cases b with
    | fn b c=>cases c; exact .cons (.tre a) (.cons (.fn b .nil) .nil)
    | fnm c=>cases c; exact .cons (.tre a) (.cons (.fnm .nil) .nil)
  refine (p3 κ1 w cargs may1 good1 hr1).mono fun e w' ⟨v',x,κ',fb',h1,h2,h3,h4,h5⟩=>?_
  have hget:bget fb' m=some [.trs 1 (y.map (cRw g))]:=h5.1
  obtain ⟨_,v1,T1,e3,e4⟩:=(h2.box m _ hget).toShallow
  obtain ⟨hA1,hbl1⟩:=h2.blk m (by rw [hget]; rfl)
  have hsz:∀ b∈tbl T,b<w.heap.size:=fun b hb=>(hbl b (QB _ hb)).2.1
  have hmay:∀ b,may1 b∨w.heap.size≤b→b∉tbl T:=fun b hb h=>hb.elim (fun k=>k.2 h) fun k=>by have:=hsz b h; omega
  have hno:∀ b∈κ'.bl m,b∉tbl T:=fun b hb=>hmay b (hbl1 b hb).2.2
  have hT2:∀ t∈T',fP (fun b=>w'.heap[b]?) t.1.1 (g t.1.2) t.2:=fun t ht=>(k3 t (hT' t ht)).frame fun b hb=>by
    have hb2:b∈tbl T:=QH.2 ⟨t,hT' t ht,hb⟩
    exact h2.frm.block b (hsz b hb2) fun h=>h.2 hb2
  have e5:fP (fun b=>w'.heap[b]?) v1 (.sl 1 (l'.map fun x=>[g x])) (κ'.bl m++tbl T'):=by
    rw [← q2] at e4
    have:=bSm e4 hT2
    rwa [show T'.map (·.1.2)=l' by rw [← p2,← q2,QE]; rfl] at this
  let κ2:Ctx:=⟨fun b=>if b∈tbl T then [] else κ'.S b,κ'.mt,κ'.o,fun n=>if n=m then κ'.bl m++tbl T' else []⟩
  have S2:∀ b,b∉tbl T→κ2.S b=κ'.S b:=fun b hb=>if_neg hb
  have S3:∀ b,b∈tbl T→κ2.S b=[]:=fun b hb=>if_pos hb
  have b2:κ2.bl m=κ'.bl m++tbl T':=if_pos rfl
  refine ⟨v',x,κ2,[(m,[.trc 1 (l'.map fun x=>[g x])])],h1,⟨⟨h2.frm.os,h2.frm.tape,h2.frm.output,h2.frm.size,fun b hb hb2=>?_,fun b hb hb2=>h2.frm.block b hb fun h=>hb2 h.1,fun n hn=>h2.frm.names n hn,fun b=>?_⟩,fun b hb=>?_,fun n c hc=>?_,fun n hn=>?_,fun n n' b h1 h2 _ _=>(hm h1).trans (hm h2).symm,fun t o ho=>?_,h2.ownInj,fun b=>QF,hg.tabx⟩,?_,h4,by simp [vU,bget]⟩
  · have hbT:b∉tbl T:=fun h=>by
      rcases (hbl b (QB _ h)).2.2 with k | k
      · exact hb2 k
      · exact absurd hb (Nat.not_lt.2 k)
    show κ2.S b=κ.S b
    rw [S2 b hbT,← S0 b hbT]
    exact h2.frm.mem b hb fun h=>hb2 h.1
  · by_cases hbT:b∈tbl T
    · show κ.S b <+: κ2.S b
      rw [(hbl b (QB _ hbT)).1]; exact QF
    · show κ.S b <+: κ2.S b
      rw [S2 b hbT,← S0 b hbT]; exact h2.frm.le b
  · by_cases hbT:b∈tbl T
    · exact absurd (S3 b hbT) hb
    · rw [S2 b hbT] at hb ⊢; exact h2.mem b hb
  · have hn:=hm (by rw [hc]; rfl)
    subst hn
    simp only [bget,if_pos,QI] at hc
    subst hc
    exact .closed (T:=T1) e3 (by rw [b2]; exact e5)
  · have hn:=hm hn
    subst hn
    rw [b2]
    refine ⟨QL.2 ⟨hA1,pB.nodup_iff.2 hB,fun b hb c hc e=>hno b hb (pB.mem_iff.1 (e ▸ hc))⟩,fun b hb=>?_⟩
    rcases QO.1 hb with hb | hb
    · obtain ⟨j1,j2,j3⟩:=hbl1 b hb
      exact ⟨(S2 b (hno b hb)).trans j1,j2,j3.imp (fun h=>h.1) id⟩
    · have hb:=pB.mem_iff.1 hb
      obtain ⟨_,j2,j3⟩:=hbl b (QB _ hb)
      exact ⟨S3 b hb,Nat.lt_of_lt_of_le j2 h2.frm.size,j3⟩
  · obtain ⟨⟨k,xs,j1,j2⟩,j3⟩:=h2.own t o ho
    refine ⟨⟨k,xs,j1,fun b hb=>(S2 b (hmay b (j3 b hb).1)).trans (j2 b hb)⟩,fun b hb=>⟨(j3 b hb).1.imp (fun h=>h.1) id,fun n hn=>?_⟩⟩
    have hn:=hm hn
    subst hn
    rw [b2,QO]
    rintro (h | h)
    · exact (j3 b hb).2 n (by rw [hget]; rfl) h
    · exact hmay b (j3 b hb).1 (pB.mem_iff.1 h)
  · rw [h4] at h3 ⊢
    cases h3 with | tup h3 =>
    cases h3
    exact .tup .nil
end
end Go.Ab
