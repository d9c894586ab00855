/- What the functions compute,in plain Lean. -/
import Derived.Test.YtflhmnfmihkbmacLTables0
namespace Go.Ab
open Go
theorem aLx {α β:Type} (f:β→α→β):∀ (l:List (List α)) (b:β),(l.flatMap id).foldl f b=l.foldl (fun b r=>r.foldl f b) b
  | [],b=>rfl
  | x::l,b=>by rw [List.flatMap_cons,List.foldl_append,List.foldl_cons,aLx f l]; rfl
def nmS (s:bD):List (List UInt8):=[s.table]++(s.query.from_.map (fun s=>s.table)++(bV s.query).flatMap (nmF 1048577))++(s.rows.flatMap id).flatMap (nmF 1048577)++s.sets.flatMap (nmF 1048577)++s.where_.flatMap (nmF 1048577)
theorem bJw (s:bD) (hz:kM s≤1000000):∃ l,aAv s=some l∧X3 s=some l∧l.length≤1048576∧l=(nmS s).foldl eO []:=by
  have h0:eD s.query+zL (zL aX) s.rows+zL aX s.sets+zL aX s.where_≤kM s:=by
    obtain ⟨k,q,t,r,c,se,w⟩:=s; simp only [kM]; omega
  have hss:=aBc s
  have e2:∀ l:List aA,zL aX l=l.length+(l.map aX).sum:=fun l=>rfl
  have e3:zL (zL aX) s.rows=s.rows.length+(s.rows.map (zL aX)).sum:=rfl
  have HP:∀ y,aX y≤1048576→PX y:=fun y h=>aCg _ y (Nat.lt_succ_self _) h
  have HS:∀ y ∈ gL s,PX y:=fun y hy=>HP y (by have:=aSf hy; omega)
  have hq:=aG6 s.query (by omega) (fun y hy=>HP y (by have:=oL hy; omega)) (aC9 s.query) (eO [] s.table) (by have:=aA3 [] s.table; simp at this; omega)
  have l0:(eO [] s.table).length≤1:=by have:=aA3 [] s.table; simpa using this
  -- the loops over what a statement bears besides its query
  have L3:=pY (p:=s.where_) (g:=fun y a=>jU y a) (h:=fun y a=>gX y a) (w:=aX) (L:=fun a i=>yF s a i) (K:=fun a=>some a) (by have:=e2 s.where_; omega)
    (fun y hy b hb=>have h:=HP y (by have:=tN (z:=aX) hy; have:=e2 s.where_; omega) b hb; ⟨h.1,h.2.1⟩) (fun i b=>by rw [yF])
  have L2:=pY (p:=s.sets) (g:=fun y a=>jU y a) (h:=fun y a=>gX y a) (w:=aX) (L:=fun a i=>yD s a i) (K:=fun a=>yF s a 0) (by have:=e2 s.sets; omega)
    (fun y hy b hb=>have h:=HP y (by have:=tN (z:=aX) hy; have:=e2 s.sets; omega) b hb; ⟨h.1,h.2.1⟩) (fun i b=>by rw [yD])
  have L1:∀ (i:Nat) (hi:i<s.rows.length) (b:List (List UInt8)),b.length+(s.rows[i].map aX).sum≤1000000000→yC (i:Int) s b 0=wH s (s.rows[i].foldl (fun a y=>gX y a) b) (IntKind.wrap .i64 ((i:Int)+1))∧(s.rows[i].foldl (fun a y=>gX y a) b).length≤b.length+(s.rows[i].map aX).sum:=by
    intro i hi
    have hr:=tN (z:=zL aX) (List.getElem_mem hi)
    have hr2:=e2 s.rows[i]
    exact pY (p:=s.rows[i]) (g:=fun y a=>jU y a) (h:=fun y a=>gX y a) (w:=aX) (L:=fun a j=>yC (i:Int) s a j) (K:=fun a=>wH s a (IntKind.wrap .i64 ((i:Int)+1))) (by omega)
      (fun y hy b hb=>have h:=HP y (by have:=tN (z:=aX) hy; omega) b hb; ⟨h.1,h.2.1⟩) (fun j b=>by rw [yC]; simp only [eZ hi,Option.bind_eq_bind,Option.bind_some])
  have L0:∀ i,i≤s.rows.length→∀ b:List (List UInt8),b.length+((s.rows.drop i).map (zL aX)).sum≤1000000000→wH s b (i:Nat)=yD s ((s.rows.drop i).foldl (fun a r=>r.foldl (fun a y=>gX y a) a) b) 0∧((s.rows.drop i).foldl (fun a r=>r.foldl (fun a y=>gX y a) a) b).length≤b.length+((s.rows.drop i).map (zL aX)).sum:=by
    refine iG ?_ ?_
    · intro b _; rw [wH]; simp
    · intro i hi ih b hb
      rw [List.drop_eq_getElem_cons hi,List.map_cons,List.sum_cons] at hb
      have hr2:=e2 s.rows[i]
      obtain ⟨g1,g2⟩:=L1 i hi b (by omega)
      obtain ⟨i1,i2⟩:=ih (s.rows[i].foldl (fun a y=>gX y a) b) (by omega)
      rw [wH]
      simp only [eF,hi,decide_true,if_true]
      rw [g1,fT hi (by omega),i1,List.drop_eq_getElem_cons hi,List.foldl_cons,List.map_cons,List.sum_cons]
      exact ⟨rfl,by omega⟩
  obtain ⟨q1,q2,c,q3,q4⟩:=hq
  have r0:=L0 0 (by omega) (hQ s.query (eO [] s.table)) (by simp only [List.drop_zero]; omega)
  simp only [List.drop_zero] at r0
  have r2:=L2 _ (show (s.rows.foldl (fun a r=>r.foldl (fun a y=>gX y a) a) (hQ s.query (eO [] s.table))).length+(s.sets.map aX).sum≤1000000000 by have:=e2 s.sets; omega)
  have r3:=L3 _ (show (s.sets.foldl (fun a y=>gX y a) (s.rows.foldl (fun a r=>r.foldl (fun a y=>gX y a) a) (hQ s.query (eO [] s.table)))).length+(s.where_.map aX).sum≤1000000000 by have:=e2 s.where_; have:=e2 s.sets; omega)
  refine ⟨_,?_,?_,(show (s.where_.foldl (fun a y=>gX y a) (s.sets.foldl (fun a y=>gX y a) (s.rows.foldl (fun a r=>r.foldl (fun a y=>gX y a) a) (hQ s.query (eO [] s.table))))).length≤1048576 by have:=e2 s.where_; have:=e2 s.sets; omega),?_⟩
  · rw [aAv,aY4 [] s.table (by simp)]
    simp only [Option.bind_eq_bind,Option.bind_some,q1]
    exact (r0.1.trans r2.1).trans r3.1
  · have src := pY (p := s.query.from_) (g := fun s a => zH a s.table) (h := fun s a => eO a s.table) (w := fun _ => 1) (L := fun a i => Q9 s.query i a) (K := fun a => some a) (by have := zQ s.query; omega)
      (fun y _ b hb=>⟨aKg b _ (by omega),aA3 b _⟩) (fun i b=>by rw [aU5]) (eO [] s.table) (by rw [aB6]; have:=zQ s.query; omega)
    have srcL:=src.2
    rw [aB6] at srcL
    have src1:tV (eO [] s.table) s.query=some (s.query.from_.foldl (fun a s=>eO a s.table) (eO [] s.table)):=by rw [aZi]; exact src.1
    have hall:=aF2 (p:=gL s) (by omega) HS (s.query.from_.foldl (fun a s=>eO a s.table) (eO [] s.table)) (by have:=zQ s.query; omega)
    rw [bEl,aKg [] s.table (by simp)]
    simp only [Option.bind_eq_bind,Option.bind_some,src1,bMg s (by omega),hall.1]
    simp only [gL,List.foldl_append,aLx,hQ]
  · have G:∀ y,aX y≤1048576→∀ acc,acc.length+aX y≤1000000000→gX y acc=(nmF 1048577 y).foldl eO acc:=fun y hy=>bCw 1048577 y (by omega) hy
    have LN:∀ l:List aA,zL aX l≤1048576→∀ acc,acc.length+(l.map aX).sum≤1000000000→l.foldl (fun a y=>gX y a) acc=(l.flatMap (nmF 1048577)).foldl eO acc:=fun l hl acc ha=>aOn 1048577 l (fun y hy=>have h:aX y≤1048576:=(by have:=tN (z:=aX) hy; have:=e2 l; omega); ⟨h,G y h⟩) acc ha
    have LL:∀ l:List aA,zL aX l≤1048576→∀ acc,acc.length+(l.map aX).sum≤1000000000→(l.foldl (fun a y=>gX y a) acc).length≤acc.length+(l.map aX).sum:=fun l hl acc ha=>(aF2 (by have:=e2 l; omega) (fun y hy=>HP y (by have:=tN (z:=aX) hy; have:=e2 l; omega)) acc ha).2
    have E1:=aUt 1048577 s.query (fun y hy=>have h:aX y≤1048576:=(by have:=oL hy; omega); ⟨h,G y h⟩) (eO [] s.table) (by omega)
    have E2:s.rows.foldl (fun a r=>r.foldl (fun a y=>gX y a) a) (hQ s.query (eO [] s.table))=((s.rows.flatMap id).flatMap (nmF 1048577)).foldl eO (hQ s.query (eO [] s.table)):=by
      rw [foldl_flat,aLx]
      refine aLi (P:=fun b k=>b.length+k≤1000000000) (w:=zL aX) s.rows _ 0 (by omega) fun r hr b k hb=>?_
      have hr1:=tN (z:=zL aX) hr
      have hr2:=e2 r
      have e:=LN r (by omega) b (by omega)
      rw [foldl_flat] at e
      refine ⟨e,?_⟩
      rw [← e]
      have:=LL r (by omega) b (by omega)
      omega
    have:=e2 s.sets
    have:=e2 s.where_
    rw [LN s.where_ (by omega) _ (by omega),LN s.sets (by omega) _ (by omega),E2,E1]
    unfold nmS
    simp only [List.foldl_append,List.foldl_cons,List.foldl_nil]
theorem SN.rows {n:Nat} (p:List (List aA)) (hp:p.length≤1048576) (hr:∀ r ∈ p,r.length≤1048576∧∀ y ∈ r,XN n y):SN (fun l=>aBe l p false) (32 * (p.map fun r=>r.length+bU r).sum+19 * p.length) (p.flatMap fun r=>r.flatMap (nmF n)):=by
  have t:=SN.loop (p:=p) (LS:=fun l i=>H5 p false l i) (w:=fun r=>32 * (r.length+bU r)+19) (nms:=fun r=>r.flatMap (nmF n)) (n:=0) (e:=[]) ?_ ?_ 0 (by omega)
  · rw [List.drop_zero,xL (fun r:List aA=>r.length+bU r),List.append_nil] at t
    exact SN.go (fun l=>by rw [aBe]; rfl) t (by omega) fun w hw=>hw
  · refine SN.go (fun l=>?_) SN.nil (by omega) (by simp)
    rw [H5]
    simp only [eF,Nat.lt_irrefl,decide_false,Bool.false_eq_true,if_false]
  · intro i hi m b ih
    have hw:IntKind.wrap .i64 ((i:Int)+1)=((i+1:Nat):Int):=fT hi (by omega)
    obtain ⟨hl,hx⟩:=hr _ (List.getElem_mem hi)
    have zk:=mG p[i]
    -- one row
    have t2:=SN.loop (p:=p[i]) (LS:=fun l j=>K9 p false (i:Int) l j) (w:=fun y=>32 * aX y+17) (nms:=nmF n) (n:=1+m) (e:=b) ?_ ?_ 0 (by omega)
    · rw [List.drop_zero,xL] at t2
      refine SN.go (fun l=>?_) (SN.seq (SN.ite SN.one (SN.nil.mono (by omega) (by simp)):SN (fun l=>if 0<(i:Int) then appG 32 l [aB.mk 5 [44] 0] else some l) 1 []) (SN.seq (SN.one (t:=aB.mk 5 [40] 0)) t2)) (by omega) (by simp)
      rw [H5]
      simp only [eF,hi,decide_true,if_true,lZ,aB3,Option.bind_eq_bind,Option.bind_some]
      by_cases c:(0:Int)<(i:Int)
      · simp only [c,decide_true,if_true]; rfl
      · simp only [c,decide_false,Bool.false_eq_true,if_false,Option.bind_some]; rfl
    · refine SN.go (fun l=>?_) (SN.seq (SN.one (t:=aB.mk 5 [41] 0)) ih) (by omega) (by simp)
      rw [K9]
      simp only [eZ hi,eF,Nat.lt_irrefl,decide_false,Bool.false_eq_true,if_false,lZ,hw,Option.bind_eq_bind,Option.bind_some]
    · intro j hj m' b' ih'
      have hw':IntKind.wrap .i64 ((j:Int)+1)=((j+1:Nat):Int):=fT hj (by omega)
      refine SN.go (fun l=>?_) (SN.seq (SN.ite SN.one (SN.nil.mono (by omega) (by simp)):SN (fun l=>if 0<(j:Int) then appG 32 l [aB.mk 5 [44] 0] else some l) 1 []) (SN.seq (hx _ (List.getElem_mem hj)) ih')) (by omega) (by simp)
      rw [K9]
      simp only [eZ hi,eF,hj,decide_true,if_true,lZ,X9,eZ hj,hw',Option.bind_eq_bind,Option.bind_some]
      by_cases c:(0:Int)<(j:Int)
      · simp only [c,decide_true,if_true]
      · simp only [c,decide_false,Bool.false_eq_true,if_false,Option.bind_some]
theorem SN.sets {n:Nat} (s:bD) (hl:s.sets.length≤1048576) (hc:s.sets.length=s.cols.length) (h:∀ y ∈ s.sets,XN n y) (hw:∀ y ∈ s.where_,XN n y) (h1:s.where_.length≤1):SN (fun l=>xX false s l 0) (32 * (s.sets.map aX).sum+19 * s.sets.length+32 * (s.where_.length+bU s.where_)) (s.sets.flatMap (nmF n)++s.where_.flatMap (nmF n)):=by
  have t:=SN.loop (p:=s.sets) (LS:=fun l i=>xX false s l i) (w:=fun y=>32 * aX y+19) (nms:=nmF n) (n:=32 * (s.where_.length+bU s.where_)) (e:=s.where_.flatMap (nmF n)) ?_ ?_ 0 (by omega)
  · rw [List.drop_zero,xL] at t
    exact t
  · refine SN.go (fun l=>?_) (SN.where_ s.where_ hw h1) (by omega) fun w hw=>hw
    rw [xX,hc]
    simp only [eF,Nat.lt_irrefl,decide_false,Bool.false_eq_true,if_false,Option.bind_eq_bind,Option.bind_fun_some]
  · intro i hi m b ih
    have hw:IntKind.wrap .i64 ((i:Int)+1)=((i+1:Nat):Int):=fT hi (by omega)
    have hi':i<s.cols.length:=by omega
    refine SN.go (fun l=>?_) (SN.seq (SN.ite SN.one (SN.nil.mono (by omega) (by simp)):SN (fun l=>if 0<(i:Int) then appG 32 l [aB.mk 5 [44] 0] else some l) 1 []) (SN.seq (SN.two (t:=aB.mk 2 s.cols[i] 0) (u:=aB.mk 5 [61] 0)) (SN.seq (h _ (List.getElem_mem hi)) ih))) (by omega) (by simp)
    rw [xX]
    simp only [eF,hi',decide_true,if_true,lZ,vJ,Q3,eZ hi,eZ hi',hw,Option.bind_eq_bind,Option.bind_some]
    by_cases c:(0:Int)<(i:Int)
    · simp only [c,decide_true,if_true]
    · simp only [c,decide_false,Bool.false_eq_true,if_false,Option.bind_some]
theorem bPp (a b c d:aB):appG 32 ([]:List aB) [a,b,c,d]=some [a,b,c,d]:=by rw [aDy (by simp)]; rfl
theorem bAh (a b c:aB):appG 32 ([]:List aB) [a,b,c]=some [a,b,c]:=by rw [aDy (by simp)]; rfl
theorem s23:dW 23=some (aB.mk 1 [73,78,83,69,82,84] 0):=rfl
theorem s24:dW 24=some (aB.mk 1 [73,78,84,79] 0):=rfl
theorem s25:dW 25=some (aB.mk 1 [86,65,76,85,69,83] 0):=rfl
theorem s26:dW 26=some (aB.mk 1 [85,80,68,65,84,69] 0):=rfl
theorem s27:dW 27=some (aB.mk 1 [83,69,84] 0):=rfl
theorem s28:dW 28=some (aB.mk 1 [68,69,76,69,84,69] 0):=rfl
theorem bKx (s:bD) (hz:kM s≤10000) (hP:StP s) (hw1:s.where_.length≤1):∃ T,uJ s false=some T∧T.length≤4000000∧∀ w ∈ nmS s,w≠[]→∃ t ∈ T,t.kind=2∧t.text=w:=by
  have e2:∀ l:List aA,zL aX l=l.length+bU l:=fun l=>by rw [mG]; rfl
  have hz2:eD s.query+zL (zL aX) s.rows+zL aX s.sets+zL aX s.where_≤10000:=by obtain ⟨k,q,t,r,c,se,w⟩:=s; simp only [kM] at hz; exact hz
  have hr3:zL (zL aX) s.rows=s.rows.length+(s.rows.map (zL aX)).sum:=rfl
  have es:=e2 s.sets
  have ew:=e2 s.where_
  have zs:=mG s.sets
  have XA:∀ y,aX y≤1048576→gN y=some true→XN 1048577 y:=fun y hy hr=>bIs 1048577 y (by omega) hy hr
  have inl:∀ l:List aA,zL aX l≤10000→(∀ y ∈ l,gN y=some true)→∀ y ∈ l,XN 1048577 y:=fun l hl hr y hy=>XA y (by have:=mV hy; have:=e2 l; omega) (hr y hy)
  -- from what is appended to what is told
  have fin:∀ (S:List aB→Option (List aB)) (n:Nat) (ns:List (List UInt8)) (hd:List aB),SN S n ns→n≤3000000→hd.length≤10→uJ s false=S hd→(∀ w ∈ nmS s,w≠[]→w ∈ ns∨∃ t ∈ hd,t.kind=2∧t.text=w)→∃ T,uJ s false=some T∧T.length≤4000000∧∀ w ∈ nmS s,w≠[]→∃ t ∈ T,t.kind=2∧t.text=w:=by
    intro S n ns hd hS hn hh e hnm
    obtain ⟨T,t1,t2,t3⟩:=hS
    refine ⟨hd++T,by rw [e,t3 hd (by omega)],by simp; omega,fun w hw hne=>?_⟩
    rcases hnm w hw hne with h | ⟨t,ht,h⟩
    · obtain ⟨t,ht,h⟩:=t2 w h; exact ⟨t,by simp [ht],h⟩
    · exact ⟨t,by simp [ht],h⟩
  rcases hP with ⟨k,hq,ht,hr,hs,hw⟩ | ⟨k,⟨hq,hf⟩,hr,hs,hw⟩ | ⟨k,⟨hq,hf⟩,hr,hc,hs,hw⟩ | ⟨k,⟨hq,hf⟩,hr,hs,hw⟩
  · obtain ⟨r1,r2,r3⟩:=aX2 s.query (by omega) hq
    have Q:=aYg (n:=1048577) s.query (by omega) (fun y hy=>XA y (by have:=oL hy; omega) (r1 y hy)) r2 r3
    refine fin _ _ _ [] Q (by omega) (by simp) ?_ fun w hw' hne=>.inl ?_
    · unfold uJ
      simp only [k,decide_true,if_true,Option.bind_eq_bind,Option.bind_fun_some]
    · simp only [nmS,ht,hr,hs,hw,List.flatMap_nil,List.append_nil,List.mem_append,List.mem_singleton] at hw'
      simp only [qnm,List.mem_append]
      rcases hw' with h | h
      · exact absurd h hne
      · exact h
  · have hrl:∀ r ∈ s.rows,zL aX r≤10000:=fun r h=>by have:=tN (z:=zL aX) h; omega
    have R:=SN.rows (n:=1048577) s.rows (by omega) fun r h=>⟨by have:=hrl r h; have:=e2 r; omega,inl r (hrl r h) (hr r h)⟩
    have hsum:(s.rows.map fun r=>r.length+bU r).sum=(s.rows.map (zL aX)).sum:=by congr 1; exact List.map_congr_left fun r _=>(e2 r).symm
    refine fin _ _ _ [aB.mk 1 [73,78,83,69,82,84] 0,aB.mk 1 [73,78,84,79] 0,aB.mk 2 s.table 0,aB.mk 1 [86,65,76,85,69,83] 0] R (by omega) (by simp) ?_ fun w hw' hne=>?_
    · unfold uJ
      simp only [k,Int.reduceEq,decide_false,Bool.false_eq_true,if_false,decide_true,if_true,s23,s24,s25,vJ,bPp,Option.bind_eq_bind,Option.bind_some,Option.bind_fun_some]
    · simp only [nmS,hq,hf,hs,hw,List.flatMap_nil,List.map_nil,List.append_nil,List.mem_append,List.mem_singleton,List.nil_append,List.flatMap_assoc,id] at hw'
      rcases hw' with h | h
      · exact .inr ⟨aB.mk 2 s.table 0,by simp,rfl,h.symm⟩
      · exact .inl h
  · have St:=SN.sets (n:=1048577) s (by omega) hc (inl s.sets (by omega) hs) (inl s.where_ (by omega) hw) hw1
    refine fin _ _ _ [aB.mk 1 [85,80,68,65,84,69] 0,aB.mk 2 s.table 0,aB.mk 1 [83,69,84] 0] St (by omega) (by simp) ?_ fun w hw' hne=>?_
    · unfold uJ
      simp only [k,Int.reduceEq,decide_false,Bool.false_eq_true,if_false,decide_true,if_true,s26,s27,vJ,bAh,Option.bind_eq_bind,Option.bind_some,Option.bind_fun_some]
    · simp only [nmS,hq,hf,hr,List.flatMap_nil,List.map_nil,List.append_nil,List.mem_append,List.mem_singleton,List.nil_append] at hw'
      rcases hw' with (h | h) | h
      · exact .inr ⟨aB.mk 2 s.table 0,by simp,rfl,h.symm⟩
      · exact .inl (by simp only [List.mem_append]; exact .inl h)
      · exact .inl (by simp only [List.mem_append]; exact .inr h)
  · have W:=SN.where_ (n:=1048577) s.where_ (inl s.where_ (by omega) hw) hw1
    refine fin _ _ _ [aB.mk 1 [68,69,76,69,84,69] 0,aB.mk 1 [70,82,79,77] 0,aB.mk 2 s.table 0] W (by omega) (by simp) ?_ fun w hw' hne=>?_
    · unfold uJ
      simp only [k,Int.reduceEq,decide_false,Bool.false_eq_true,if_false,s28,s3,vJ,bAh,Option.bind_eq_bind,Option.bind_some,Option.bind_fun_some]
    · simp only [nmS,hq,hf,hr,hs,List.flatMap_nil,List.map_nil,List.append_nil,List.mem_append,List.mem_singleton,List.nil_append] at hw'
      rcases hw' with h | h
      · exact .inr ⟨aB.mk 2 s.table 0,by simp,rfl,h.symm⟩
      · exact .inl h
theorem bEu (L:List (List UInt8)) (T:List aB) (i:Nat) (hi:i<L.length) (hT:T.length≤4000000):∀ j,j≤T.length→∀ x:Bool,(x=true∨∃ t ∈ T.drop j,t.kind=2∧t.text=L[i])→wQ L T (i:Nat) x (j:Nat)=wC L T (IntKind.wrap .i64 ((i:Int)+1)):=by
  refine iG ?_ ?_
  · intro x h
    have hx:x=true:=by
      rcases h with h | ⟨t,ht,_⟩
      · exact h
      · simp at ht
    rw [wQ]
    simp [hx]
  · intro j hj ih x h
    rw [wQ]
    simp only [eF,hj,decide_true,if_true,eZ hj,eZ hi,fT hj (by omega)]
    cases x with
    | true =>
      simp only [Bool.true_and,Option.bind_eq_bind]
      simpa using ih true (.inl rfl)
    | false =>
      rw [List.drop_eq_getElem_cons hj] at h
      have h':(decide (T[j].kind=2)&&decide (T[j].text=L[i]))=true∨∃ t ∈ T.drop (j+1),t.kind=2∧t.text=L[i]:=by
        rcases h with h | ⟨t,ht,h1,h2⟩
        · simp at h
        · rcases List.mem_cons.1 ht with rfl | ht
          · left; simp [h1,h2]
          · right; exact ⟨t,ht,h1,h2⟩
      have:=ih _ h'
      by_cases k2:T[j].kind=2
      · simp only [k2,decide_true,Bool.true_and] at this
        simpa [k2] using this
      · simp only [k2,decide_false,Bool.false_and] at this
        simpa [k2] using this
theorem bOb (L:List (List UInt8)) (T:List aB) (hl:L.length≤1048576) (hn:L.Nodup) (i:Nat) (hi:i<L.length):∀ j,j≤i→L8 L T (i:Nat) (j:Nat)=wQ L T (i:Nat) (decide ((T.length:Int)=0)) 0:=by
  refine iG ?_ ?_
  · rw [L8]; simp
  · intro j hj ih
    have hj':j<L.length:=by omega
    have hne:¬ L[i]=L[j]:=fun e=>by
      have:=(List.getElem_inj hn).1 e
      omega
    have hne':¬ L[j]=L[i]:=fun e=>hne e.symm
    rw [L8]
    simp only [eF,hj,decide_true,if_true,eZ hi,eZ hj',fT hj (by omega),hne,hne',decide_false,Bool.false_eq_true,if_false,Option.bind_eq_bind,Option.bind_some,ih]
theorem bPg (L:List (List UInt8)) (T:List aB) (hl:L.length≤1048576) (hn:L.Nodup) (hT:T.length≤4000000) (h:T=[]∨∀ w ∈ L,∃ t ∈ T,t.kind=2∧t.text=w):wC L T 0=some true:=by
  have key:∀ i,i≤L.length→wC L T (i:Nat)=some true:=by
    refine iG ?_ ?_
    · rw [wC]; simp
    · intro i hi ih
      rw [wC]
      simp only [eF,hi,decide_true,if_true]
      have h1:=bOb L T hl hn i hi 0 (by omega)
      rw [show ((0:Nat):Int)=0 from rfl] at h1
      rw [h1]
      have h2:=bEu L T i hi hT 0 (by omega) (decide ((T.length:Int)=0)) (by
        rcases h with h | h
        · left; simp [h]
        · right; simpa using h _ (List.getElem_mem hi))
      rw [show ((0:Nat):Int)=0 from rfl] at h2
      rw [h2,fT hi (by omega),ih]
  exact key 0 (by omega)
theorem bQr (p:List Int) (_:okL okU8 p):aAy p=some true:=by
  unfold aAy aIa
  simp only [Option.bind_eq_bind,Option.bind_some]
  by_cases hp:(1048576:Int)<(p.length:Int)
  · rw [if_pos (by simpa using hp)]
  rw [if_neg (by simpa using hp)]
  obtain ⟨s,d1,hz,hc⟩:=bBv p (by omega)
  obtain ⟨L,l1,l2,l3,l4⟩:=bJw s (by omega)
  obtain ⟨c,c1,c2⟩:=bX6 s (by omega) (by omega)
  have hg:aCc L:=by rw [l4]; exact aVm _ _ ⟨by simp,by simp⟩
  have hT:∃ T,aBh s=some T∧T.length≤4000000∧(T=[]∨∀ w ∈ L,∃ t ∈ T,t.kind=2∧t.text=w):=by
    unfold aBh
    cases c with
    | false=>exact ⟨[],by simp [c1],by simp,.inl rfl⟩
    | true =>
      obtain ⟨hP,hw⟩:=c2 rfl
      obtain ⟨T,t1,t2,t3⟩:=bKx s hz hP hw
      refine ⟨T,by simp [c1,t1],t2,.inr fun w hw=>t3 w ?_ (hg.2 w hw)⟩
      rw [l4] at hw
      rcases aRf _ _ hw with h | h
      · simp at h
      · exact h
  obtain ⟨T,t1,t2,t3⟩:=hT
  unfold aIe
  simp [d1,l1,l2,t1,bPg L T l3 hg.1 t2 t3]
end Go.Ab
