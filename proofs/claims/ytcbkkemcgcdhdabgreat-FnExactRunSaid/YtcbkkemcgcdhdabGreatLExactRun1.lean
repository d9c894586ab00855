/- What the functions compute,in plain Lean. -/
import Derived.Test.YtcbkkemcgcdhdabGreatLExactRun0
namespace Go.Ab
open Go
open _root_.Option renaming bind_some→QA,bind_eq_bind→QB,some.injEq→XG
open _root_.List renaming length_append→QC,length_cons→QG,mem_cons→QI,getElem_mem→QJ,length_singleton→QK,drop_eq_getElem_cons→QL,nil_append→QN,eq_nil_of_length_eq_zero→QO,length_nil→QP,append_assoc→QQ,mem_append→QU,take_append_drop→QV,length_take→QW,mem_cons_of_mem→QX,cons_append→WB,zipWith→WC,drop_zero→WD,drop_length→WE,length_map→WF,mem_iff_getElem→WG,map_cons→WJ,append_nil→WK,length_drop→WL,length→WM,singleton_append→WO,map_nil→WQ,mem_flatMap→WR,filter_append→WS,pairwise_cons→WT,filter_cons_of_pos→WU,getElem!_eq_getElem?_getD→WV,sum_cons→WW,zipWith_cons_cons→XB,length_pos_of_mem→XC,getElem?_append_left→XD,mem_map→XK,mem_map_of_mem→XL,take_subset→XM,mem_filter→XN,pairwise_append→XO,filter_cons_of_neg→XP,getElem_drop→XQ,getElem_take→XR,pairwise_iff_getElem→XS,getElem?_append_right→XT,mem_append_right→XU,mem_append_left→XV,length_eq_one_iff→XW,mem_cons_self→XX,drop_set_of_lt→XY,getElem?_take_of_lt→XZ,take_take→YA
open Go.IntKind renaming wrap→QD
open _root_.Bool renaming false_eq_true→QE,and_eq_true→QF,not_true→QH,eq_iff_iff→QM,if_false_right→QR,decide_eq_true→QS,and_self→WA,or_self→WP,not_false→WX,true_and→WY,false_or→WZ,or_eq_true→XA,and_false→XH,true_eq_false→XI,or_eq_false_iff→XJ
open _root_.Int renaming toNat_natCast→QT,fdiv→WH,tmod→WN,lt_irrefl→YB
open _root_.Nat renaming le_refl→QY,le_trans→QZ,lt_irrefl→WI,zero_add→XF,one_mul→YC,add_sub_cancel_left→YD
variable {P S B A1 B1 B2 C U V:List aV} {rows:Rows} {n pn mid mn bn:Nat} {ks:List bD} {r:aA×Int} {x:aA} {f:dJ} {u v:aV}
section
variable {c:aX} {d:GDb} {env:Rows} {ev:aJ→Gf}
theorem aZy {α:Type} {l:List α} (h:n≤l.length):gY l (n:Int) (l.length:Int)=some (l.drop n):=by
 unfold gY;rw [if_pos ⟨by omega,by omega,by omega⟩];simp
theorem bY0 (hk:ks.length≤1048576) {i:Nat} (hi:i<rows.length) (hr:rows.length≤1048576) {mine:Row1} (hm:mine.length=ks.length) (K:List aV) (hK:KL ks.length K) (hl:K.length≤1048576) :
  ∀ n,n≤K.length→aAi env rows ks (K.map (·.row)) (K.map (·.keys)) (i:Int) (mine,c,d,(n:Int)) =
   xI env rows ks c d ((K.take (iL (kLt (ks.map (·.desc))) ⟨rows[i],mine⟩ K n)++(⟨rows[i],mine⟩:aV)::K.drop (iL (kLt (ks.map (·.desc))) ⟨rows[i],mine⟩ K n)).map (·.row)) ((K.take (iL (kLt (ks.map (·.desc))) ⟨rows[i],mine⟩ K n)++(⟨rows[i],mine⟩:aV)::K.drop (iL (kLt (ks.map (·.desc))) ⟨rows[i],mine⟩ K n)).map (·.keys),(QD .i64 ((i:Int)+1))):=by
 have fin:∀ n,n≤K.length→((gY (K.map (·.row)) 0 (n:Int))>>=fun (y9:(List (List aA)))=>(appG 24 ([]:List (List aA)) y9)>>=fun (y10:List (List aA))=>(idx rows (i:Int))>>=fun (y11:(List aA))=>(appG 24 y10 ([y11]:List (List aA)))>>=fun (y12:List (List aA))=>(gY (K.map (·.row)) (n:Int) ((K.map (·.row)).length:Int))>>=fun (y13:(List (List aA)))=>(appG 24 y12 y13)>>=fun (y14:List (List aA))=>(gY (K.map (·.keys)) 0 (n:Int))>>=fun (y15:(List (List aA)))=>(appG 24 ([]:List (List aA)) y15)>>=fun (y16:List (List aA))=>(appG 24 y16 ([mine]:List (List aA)))>>=fun (y17:List (List aA))=>(gY (K.map (·.keys)) (n:Int) ((K.map (·.keys)).length:Int))>>=fun (y18:(List (List aA)))=>(appG 24 y17 y18)>>=fun (y19:List (List aA))=>xI env rows ks c d y14 (y19,(QD .i64 ((i:Int)+1)))) =
   xI env rows ks c d ((K.take n++(⟨rows[i],mine⟩:aV)::K.drop n).map (·.row)) ((K.take n++(⟨rows[i],mine⟩:aV)::K.drop n).map (·.keys),(QD .i64 ((i:Int)+1))):=by
  intro n hn;have h1:n≤(K.map (·.row)).length:=by simpa using hn
  have h2:n≤(K.map (·.keys)).length:=by simpa using hn
  have l1:(K.map (·.row)).length=K.length:=by simp
  have l2:(K.map (·.keys)).length=K.length:=by simp
  rw [aMs h1,aZy h1,aMs h2,aZy h2,bR hi];simp only [QB,QA];have t1:((K.map (·.row)).take n).length≤K.length:=by simp; omega
  have t2:((K.map (·.keys)).take n).length≤K.length:=by simp; omega
  have d1:((K.map (·.row)).drop n).length≤K.length:=by simp
  have d2:((K.map (·.keys)).drop n).length≤K.length:=by simp
  rw [sF (by simp only [QP]; omega),sF (l:=[]) (by simp only [QP]; omega)];simp only [QA,QN];rw [sF (by simp only [QK]; omega)];simp only [QA];rw [sF (by simp only [QC,QK]; omega)];simp only [QA];rw [sF (by simp only [QK]; omega)];simp only [QA];rw [sF (by simp only [QC,QK]; omega)];simp only [QA,List.map_append,WJ,List.map_take,List.map_drop,QQ,WO]
 intro n
 induction n with
 | zero =>
  intro hn;rw [aAi];have:=fin 0 hn;simp only [QB] at this;simp only [iL,show ((0:Nat):Int)=0 from rfl,YB,decide_false,XH,QE,if_false,QB,QA,beq_iff_eq] at this ⊢;exact this
 | succ n ih =>
  intro hn;have hn':n<K.length:=by omega
  have hn2:n<(K.map (·.keys)).length:=by simpa using hn'
  rw [aAi];have hp:decide ((0:Int)<((n+1:Nat):Int))=true:=by rw [decide_eq_true_eq]; omega
  have ew:QD .i64 (((n+1:Nat):Int) - 1)=(n:Int):=by rw [cZ] <;> omega
  have eb:=getElem!_pos K n hn';simp only [hp,beq_self_eq_true,WA,if_true,ew,bR hn2,QB,QA,List.getElem_map];rw [cOd ks hk hm (hK _ (QJ hn'))];simp only [QA];rw [iL,eb];have e:kLt (ks.map (·.desc)) ⟨rows[i],mine⟩ K[n]=nY (ks.map (·.desc)) mine K[n].keys:=rfl;by_cases h:nY (ks.map (·.desc)) mine K[n].keys=true
  ·rw [if_pos h,e,if_pos h];exact ih (by omega)
  ·rw [if_neg h,e,if_neg h];have:=fin (n+1) hn;simp only [QB] at this;exact this
theorem cE2 (hk:ks.length≤1048576) (he:env.length≤4194304) {P:Row1→Prop} (H:∀ k∈ks,∀ r,P r→fZ c d (r::env) k.expr=some (ev k.expr r)) (hr:rows.length≤1048576) (hP:∀ r∈rows,P r) :
  ∀ i,i≤rows.length→∀ K:List aV,K.length=i→KL ks.length K→xI env rows ks c d (K.map (·.row)) (K.map (·.keys),(i:Nat)) =
   if (bL (nW ev ks) (rows.drop i)).2≠0 then some ([],(bL (nW ev ks) (rows.drop i)).2)
   else some ((iY (kLt (ks.map (·.desc))) K (WC aV.mk (rows.drop i) (bL (nW ev ks) (rows.drop i)).1)).map (·.row),0):=by
 refine eO ?_ ?_
 ·intro K _ _;rw [xI];simp [bL,iY]
 ·intro i hi ih K hKl hK;rw [xI,QL hi];simp only [bU,hi,decide_true,if_true,bL];have hPr:=hP _ (QJ hi);have m:=aCr (p:=ks) (b:=32) (g:=fun k=>ev k.expr rows[i]) (F:=fun y3=>fZ c d (rows[i]::env) y3.expr)
   (L:=fun acc j=>aF0 env rows ks (K.map (·.row)) (K.map (·.keys)) (i:Int) (c,d,acc,j)) (E:=fun e=>([],e)) (K:=fun acc=>aAi env rows ks (K.map (·.row)) (K.map (·.keys)) (i:Int) (acc,c,d,((K.map (·.row)).length:Int)))
   hk (by omega) (fun k hk=>H k hk _ hPr) (fun j acc=>by
    rw [aF0];simp only [bR hi,bAq _ he,QB,QA]) [] (by simp)
  rw [m];simp only [QN];by_cases h0:(bL (fun k:bD=>ev k.expr rows[i]) ks).2=0
  ·have hkl:=aLo h0;simp only [nW,h0,ne_eq,not_true_eq_false,if_false];have hl:(K.map (·.row)).length=K.length:=by simp
   rw [hl,bY0 hk hi hr hkl K hK (by omega) K.length (QY _)];have ei:(K.take (iL (kLt (ks.map (·.desc))) ⟨rows[i],(bL (fun k:bD=>ev k.expr rows[i]) ks).1⟩ K K.length)++(⟨rows[i],(bL (fun k:bD=>ev k.expr rows[i]) ks).1⟩:aV)::K.drop (iL (kLt (ks.map (·.desc))) ⟨rows[i],(bL (fun k:bD=>ev k.expr rows[i]) ks).1⟩ K K.length))=pE (kLt (ks.map (·.desc))) ⟨rows[i],(bL (fun k:bD=>ev k.expr rows[i]) ks).1⟩ K:=rfl;rw [ei,dL hi (by omega),ih _ (by rw [aSz,hKl]) (fun k hk=>by
    have:=(aNl _ _ _).subset hk;rcases QI.1 this with rfl | hk
    ·exact hkl
    ·exact hK k hk)]
   by_cases h1:(bL (nW ev ks) (rows.drop (i+1))).2=0
   ·simp only [h1,ne_eq,not_true_eq_false,if_false,XB,iY]
   ·simp [h1]
  ·simp [h0,nW]
theorem cNf (r:Rows):bL (nW ev []) r=(r.map fun _=>[],0):=by
 induction r with
 | nil=>rfl
 | cons x r ih=>rw [bL,ih]; simp [nW,bL]
theorem cL9 (r:Rows):kV [] r=(r,0):=by
 unfold kV;have e:(fun row:Row1=>bL (fun k:Gf×Bool=>k.1 row) [])=nW (fun _ _=>(⟨0,0,[]⟩,0)) []:=by
  funext row; rfl
 rw [e,cNf];simp only [ne_eq,not_true_eq_false,if_false,WQ];rw [bOi _ (fun a b=>by simp [kLt,nY])];congr 1;simp only [QN]
 induction r with
 | nil=>rfl
 | cons x r ih=>simp only [WJ,XB,List.cons.injEq,true_and]; exact ih
theorem cKf (hk:ks.length≤1048576) (he:env.length≤4194304) {P:Row1→Prop} (H:∀ k∈ks,∀ r,P r→fZ c d (r::env) k.expr=some (ev k.expr r)) (hr:rows.length≤1048576) (hP:∀ r∈rows,P r) :
  aJ9 c d env rows ks=some (kV (ks.map fun k=>(ev k.expr,k.desc)) rows):=by
 have:=cE2 (c:=c) (d:=d) hk he H hr hP 0 (by omega) [] rfl (fun k hk=>by simp at hk);rw [show ((0:Nat):Int)=0 from rfl,WQ,WQ] at this;rw [aJ9,this];unfold kV;have e:(fun row:Row1=>bL (fun k:Gf×Bool=>k.1 row) (ks.map fun k=>(ev k.expr,k.desc)))=nW ev ks:=by
  funext row; rw [aB7]
 have e2:(ks.map fun k=>(ev k.expr,k.desc)).map (·.2)=ks.map (·.desc):=by rw [List.map_map]; rfl
 rw [e,e2,WD];split <;> rfl
end
section
variable {c:aX} {d:GDb} {env:Rows} {ev:aJ→Gf}
theorem okS27 (p:aQ) (ht:p.tables.length≤1048576) (hd:d.tables.length≤1048576):aKl d p=some (!(decide (p.tables.length=0)||!decide (p.on_.length=p.tables.length))&&nK d p.tables):=by
 have key:∀ i,i≤p.tables.length→R6 d p (i:Nat)=some (nK d (p.tables.drop i)):=by
  refine eO ?_ ?_
  ·rw [R6]; simp [nK]
  ·intro i hi ih;rw [R6,QL hi];simp only [bU,hi,decide_true,if_true,bR hi,QB,QA,aN7,cZ (n:=(d.tables.length:Int) - 1) (by omega) (by omega)];have e:nK d (p.tables[i]::p.tables.drop (i+1))=((decide (0≤p.tables[i])&&decide (p.tables[i]<(d.tables.length:Int)))&&nK d (p.tables.drop (i+1))):=rfl;have e2:decide (p.tables[i]≤(d.tables.length:Int) - 1)=decide (p.tables[i]<(d.tables.length:Int)):=by
    by_cases h:p.tables[i]<(d.tables.length:Int)
    ·rw [decide_eq_true h,decide_eq_true (by omega)]
    ·rw [decide_eq_false h,decide_eq_false (by omega)]
   rw [e,e2,dL hi (by omega),ih];rcases (decide (0≤p.tables[i])&&decide (p.tables[i]<(d.tables.length:Int))) with _ | _ <;> simp
 unfold aKl;simp only [QB,QA,orB];by_cases h0:p.tables.length=0
 ·simp [h0]
 by_cases h1:p.on_.length=p.tables.length
 ·have e0:¬ (p.tables.length:Int)=0:=by omega
  have e1:(p.on_.length:Int)=(p.tables.length:Int):=by omega
  have k:=key 0 (by omega);rw [show ((0:Nat):Int)=0 from rfl,WD] at k;simp only [e0,e1,h0,h1,decide_true,decide_false,QH,WP,QE,if_false,k,WX,WY]
 ·have e1:¬ (p.on_.length:Int)=(p.tables.length:Int):=by omega
  simp [h1,e1]
theorem bYt (a b:Row1) (ha:a.length≤1048576):aL8 a b=some (decide (a=b)):=by
 unfold aL8;by_cases hl:a.length=b.length
 ·have key:∀ i,i≤a.length→R7 a b (i:Nat)=some (decide (a.drop i=b.drop i)):=by
   refine eO ?_ ?_
   ·rw [R7];rw [WE,hl,WE]; simp
   ·intro i hi ih;have hb:i<b.length:=by omega
    rw [R7];simp only [bU,hi,decide_true,if_true,bR hi,bR hb,QB,QA];rw [dL hi (by omega),ih,QL hi,QL hb];have e:=bEf a[i] b[i];unfold aR7 at e;by_cases h:a[i]=b[i]
    ·rw [if_neg (by rw [e.2 h]; decide),h]; simp only [List.cons.injEq,true_and]
    ·rw [if_pos (by rw [Bool.eq_false_iff.2 (fun h'=>h (e.1 h'))]; rfl)]; simp only [List.cons.injEq,h,false_and,decide_false]
  have:=key 0 (by omega);simp only [WD] at this;rw [if_neg (by simp; omega)];exact this
 ·have:a≠b:=fun e=>hl (by rw [e]);rw [if_pos (by simp; omega)];simp [this]
theorem bYe {p acc:Rows} {i:Nat} (hi:i<p.length) (ha:acc.length≤1048576) (hl:∀ y∈acc,y.length≤1048576) :
  ∀ j,j≤acc.length→∀ b:Bool,aDh p acc (i:Int) b (j:Nat)=if (b||decide (p[i]∈acc.drop j))=true then zC p (i:Int) acc else ((aB8 p[i])>>=fun (y6:List aA)=>(appG 24 acc ([y6]:List (List aA)))>>=fun (y7:List (List aA))=>zC p (i:Int) y7):=by
 refine eO ?_ ?_
 ·intro b;rw [aDh];cases b <;> simp [bR hi]
 ·intro j hj ih b;rw [aDh,QL hj];cases b with
  | true =>
   simp only [bU,hj,decide_true,if_true,XI,beq_iff_eq,XH,QE,if_false,QB,QA,show (true==false)=false from rfl];rw [dL hj (by omega),ih];simp
  | false =>
   simp only [bU,hj,decide_true,if_true,beq_self_eq_true,WA,QE,if_false,bR hj,bR hi,QB,QA,bYt _ p[i] (hl _ (QJ hj))];rw [dL hj (by omega),ih];by_cases h:acc[j]=p[i]
   ·rw [if_pos (by simp [h]),if_pos (by simp [h])]
   ·have h':¬ p[i]=acc[j]:=fun e=>h e.symm;have e:(false||decide (p[i]∈acc[j]::acc.drop (j+1)))=(decide (acc[j]=p[i])||decide (p[i]∈acc.drop (j+1))):=by simp [h,h',-List.getElem_cons_drop]
    rw [e];simp only [QB]
theorem bVf (p:Rows) (hp:p.length≤1048576) (hr:∀ y∈p,y.length≤1048576):aFb p=some (lX [] p):=by
 have key:∀ i,i≤p.length→∀ acc:Rows,acc.length≤i→(∀ y∈acc,y.length≤1048576)→aD3 p acc (i:Nat)=some (lX acc (p.drop i)):=by
  refine eO ?_ ?_
  ·intro acc _ _;rw [aD3]; simp [lX]
  ·intro i hi ih acc ha hl;have hy:=hr _ (QJ hi);have k:=bYe hi (by omega) hl 0 (by omega) false;rw [show ((0:Nat):Int)=0 from rfl,WD,WZ] at k;rw [aD3,QL hi,lX];simp only [bU,hi,decide_true,if_true,k,decide_eq_true_eq];by_cases h:p[i]∈acc
   ·rw [if_pos h,if_pos h,zC,dL hi (by omega)];exact ih acc (by omega) hl
   ·rw [if_neg h,if_neg h,bKz _ hy];simp only [QB,QA];rw [sF (by simp only [QK]; omega)];simp only [QA];rw [zC,dL hi (by omega)];exact ih _ (by simp only [QC,QK]; omega) (fun y hy'=>by
     rcases QU.1 hy' with h | h
     ·exact hl y h
     ·simp at h; subst h; exact hy)
 unfold aFb;simpa using key 0 (by omega) [] (by simp) (by simp)
theorem cO9 {l:List aJ} (hl:l.length≤1048576) (he:env.length≤4194304) {P:Row1→Prop} (H:∀ e∈l,∀ r,P r→fZ c d (r::env) e=some (ev e r)) (hr:rows.length≤1048576) (hP:∀ r∈rows,P r) :
  aMb c d env rows l=some (oM (l.map ev) rows):=by
 have e:oM (l.map ev) rows=bL (fun row=>bL (fun e=>ev e row) l) rows:=by
  unfold oM;congr 1;funext row;rw [aB7]
 have key:∀ i,i≤rows.length→∀ acc:Rows,acc.length≤i→Q8 env rows l c d acc (i:Nat)=if (bL (fun row=>bL (fun e=>ev e row) l) (rows.drop i)).2≠0 then some ([],(bL (fun row=>bL (fun e=>ev e row) l) (rows.drop i)).2) else some (acc++(bL (fun row=>bL (fun e=>ev e row) l) (rows.drop i)).1,0):=by
  refine eO ?_ ?_
  ·intro acc _;rw [Q8]; simp [bL]
  ·intro i hi ih acc ha;have hPr:=hP _ (QJ hi);rw [Q8,QL hi];simp only [bU,hi,decide_true,if_true,bL];have m:=aCr (p:=l) (b:=32) (g:=fun k=>ev k rows[i]) (F:=fun y3=>fZ c d (rows[i]::env) y3)
    (L:=fun a j=>aAv env rows l acc (i:Int) c (d,a,j)) (E:=fun e=>([],e)) (K:=fun a=>(appG 24 acc ([a]:List (List aA)))>>=fun (y6:List (List aA))=>Q8 env rows l c d y6 (QD .i64 ((i:Int)+1)))
    hl (by omega) (fun k hk=>H k hk _ hPr) (fun j a=>by
     rw [aAv];simp only [bR hi,bAq _ he,QB,QA]) [] (by simp)
   rw [m];simp only [QN];by_cases h0:(bL (fun k=>ev k rows[i]) l).2=0
   ·simp only [h0,ne_eq,not_true_eq_false,if_false,QB];rw [sF (by simp only [QK]; omega)];simp only [QA];rw [dL hi (by omega),ih _ (by simp only [QC,QK]; omega)];by_cases h1:(bL (fun row=>bL (fun e=>ev e row) l) (rows.drop (i+1))).2=0
    ·simp only [h1,ne_eq,not_true_eq_false,if_false,QQ,WO]
    ·simp [h1]
   ·simp [h0]
 have k:=key 0 (by omega) [] (by simp);rw [show ((0:Nat):Int)=0 from rfl,WD,QN] at k;rw [aMb,k,e];by_cases h0:(bL (fun row=>bL (fun e=>ev e row) l) rows).2=0
 ·rw [if_neg (by simp [h0])];generalize bL (fun row=>bL (fun e=>ev e row) l) rows=M at h0 ⊢;obtain ⟨a,b⟩:=M;dsimp only at h0;subst h0;rfl
 ·rw [if_pos h0];have e2:(bL (fun row=>bL (fun e=>ev e row) l) rows).1=[]:=by
   cases rows with
   | nil=>simp [bL] at h0
   | cons x rs =>
    rw [bL] at h0 ⊢;split
    ·rfl
    split
    ·rfl
    ·rename_i a b;rw [if_neg a,if_neg b] at h0;simp at h0
  rw [← e2]
theorem cM9 {p:aQ} (r:Rows) (hr:r.length≤1048576) (hl:∀ y∈r,y.length≤1048576):(if p.distinct=true then ((aFb r)>>=fun (y6:List (List aA))=>U9 p y6) else (U9 p r))=some (xQ p.distinct p.limit r,0):=by
 have J:∀ y:Rows,y.length≤1048576→U9 p y=some (P9 p.limit y,0):=fun y hy=>by
  unfold U9 aJb;exact bO7 p.limit y hy
 unfold xQ;by_cases hd:p.distinct=true
 ·rw [if_pos hd,if_pos hd,bVf r hr hl];exact J _ (by have:=aLf r []; simp at this; omega)
 ·rw [if_neg hd,if_neg hd]; exact J r hr
theorem aPm {α β γ:Type} (f:α→β→γ):∀ (A:List α) (B:List β) (z:γ),z∈WC f A B→∃ a∈A,∃ b∈B,z=f a b
 | [],B,z,h=>by simp at h
 | a::A,[],z,h=>by simp at h
 | a::A,b::B,z,h=>by
  rw [XB,QI] at h;rcases h with rfl | h
  ·exact ⟨a,by simp,b,by simp,rfl⟩
  ·obtain ⟨x,hx,y,hy,e⟩:=aPm f A B z h;exact ⟨x,QX _ hx,y,QX _ hy,e⟩
theorem bGg {ks:List (Gf×Bool)} {r:Rows}:(kV ks r).1.length≤r.length∧∀ x∈(kV ks r).1,x∈r:=by
 unfold kV;split
 ·simp
 ·refine ⟨?_,fun x hx=>?_⟩
  ·rw [WF,(aFg _ _ _).length_eq];simp only [QN,List.length_zipWith];omega
  ·obtain ⟨k,hk,rfl⟩:=XK.1 hx;have hk2:=(aFg _ _ _).subset hk;rw [QN] at hk2;obtain ⟨a,ha,b,_,rfl⟩:=aPm _ _ _ _ hk2;exact ha
theorem bPh {N R:Nat} (hN:N≤1048576) (hd:DbB R d) (hdl:d.tables.length≤1048576) (he:env.length≤4194304) {p:aQ} (hp:aNr N R p)
  (H:∀ e∈iZ p,∀ r,gK 3 r→fZ c d (r::env) e=some (ev e r)):uN c d env p=some (xX d ev p):=by
 have t3:=hp.t3;have Hon:∀ y∈p.on_,∀ e∈y,∀ r,gK 3 r→fZ c d (r::env) e=some (ev e r):=fun y hy e he=>H e (by
  unfold iZ;simp only [QU,WR];exact .inl (.inl (.inl ⟨y,hy,he⟩)))
 have Hwh:∀ e∈p.where_,∀ r,gK 3 r→fZ c d (r::env) e=some (ev e r):=fun e he=>H e (by unfold iZ; simp [he]);have Hor:∀ k∈p.order,∀ r,gK 3 r→fZ c d (r::env) k.expr=some (ev k.expr r):=fun k hk=>H k.expr (by
  unfold iZ;simp only [QU,WR];exact .inl (.inr ⟨k,hk,by simp⟩))
 have Hit:∀ e∈p.items,∀ r,gK 3 r→fZ c d (r::env) e=some (ev e r):=fun e he=>H e (by unfold iZ; simp [he]);rw [uN,okS27 p (by omega) hdl];unfold xX;simp only [QB,QA];by_cases h0:p.tables.length=0
 ·simp [h0]
 by_cases h1:p.on_.length=p.tables.length
 case neg=>simp [h1]
 by_cases h2:nK d p.tables=true
 case neg=>simp [h2]
 simp only [h0,h1,h2,decide_true,decide_false,QH,WP,WX,WA,QE,if_false,ne_eq,not_true_eq_false,or_self,XI];have j:=cKu (c:=c) (env:=env) (ev:=ev) hN hd he hp h1 h2 Hon 0 (by omega) [[]] (by simp) (fun r hr=>by simp at hr; subst hr; exact ⟨by simp,by simp⟩);rw [show ((0:Nat):Int)=0 from rfl,WD,WD] at j;rw [aN6,j];unfold aHh nU M6;dsimp only;have jm:∀ s∈WC (fun (t:Int) (l:List aJ)=>(rowsOf d t,l.map ev)) p.tables p.on_,∃ x∈d.tables,x.rows=s.1:=by
  intro s hs;obtain ⟨a,ha,b,_,rfl⟩:=aPm _ _ _ _ hs;exact aPk h2 (XL ha)
 have js:(WC (fun (t:Int) (l:List aJ)=>(rowsOf d t,l.map ev)) p.tables p.on_).length=p.tables.length:=by simp [h1]
 have jl:=aQ9 R (WC (fun (t:Int) (l:List aJ)=>(rowsOf d t,l.map ev)) p.tables p.on_) [[]] 1 (fun s hs=>by obtain ⟨x,hx,e⟩:=jm s hs; rw [← e]; exact hd.rows x hx) (by simp);have jB:=aSw (WC (fun (t:Int) (l:List aJ)=>(rowsOf d t,l.map ev)) p.tables p.on_) [[]] 0 (fun s hs=>by obtain ⟨x,hx,e⟩:=jm s hs; rw [← e]; exact hd.row x hx) (fun r hr=>by simp at hr; subst hr; exact ⟨by simp,by simp⟩);rw [js,YC] at jl;rw [js,XF] at jB;have RN:=hp.RN;generalize joE (WC (fun (t:Int) (l:List aJ)=>(rowsOf d t,l.map ev)) p.tables p.on_) [[]]=J at jl jB ⊢;obtain ⟨J1,J2⟩:=J;dsimp only at jl jB ⊢;by_cases g0:J2=0
 case neg=>simp [g0]
 subst g0;simp only [decide_true,QH,QE,if_false,ne_eq,not_true_eq_false,QA];rw [bEr he hp.wh Hwh J1 (by omega) (fun r hr=>aD1 t3 (jB r hr))];simp only [QA];have wl:=aHf (p.where_.map ev) J1;have wB:∀ r∈(whE (p.where_.map ev) J1).1,gK 3 r:=fun r hr=>aD1 t3 (jB r ((T9 _ _).subset hr));generalize whE (p.where_.map ev) J1=W at wl wB ⊢;obtain ⟨W1,W2⟩:=W;dsimp only at wl wB ⊢;by_cases g1:W2=0
 case neg=>simp [g1]
 subst g1;simp only [decide_true,QH,QE,if_false,ne_eq,not_true_eq_false];have Fin:∀ S1:Rows,S1.length≤1048576→(∀ r∈S1,gK 3 r)→aFp env c d p S1=some (if (oM (p.items.map ev) S1).2≠0 then ([],(oM (p.items.map ev) S1).2) else (xQ p.distinct p.limit (oM (p.items.map ev) S1).1,0)):=by
  intro S1 sl sB;rw [aFp,cO9 hp.it he Hit sl sB];simp only [QB,QA];have ml:(oM (p.items.map ev) S1).1.length≤S1.length:=aFu _;have mm:∀ y∈(oM (p.items.map ev) S1).1,y.length≤1048576:=by
   intro y hy;obtain ⟨r,_,rfl,_⟩:=aB0 hy;exact QZ (aFu _) (by simpa using hp.it)
  generalize oM (p.items.map ev) S1=M at ml mm ⊢;obtain ⟨M1,M2⟩:=M;dsimp only at ml mm ⊢;by_cases g3:M2=0
  case neg=>simp [g3]
  subst g3;simp only [decide_true,QH,QE,if_false,ne_eq,not_true_eq_false];exact cM9 M1 (by omega) mm
 by_cases go:(0:Int)<(p.order.length:Int)
 ·rw [if_pos (by simpa using go),cKf hp.ord he Hor (by omega) wB];simp only [QA];obtain ⟨sl,sm⟩:=bGg (ks:=p.order.map fun k=>(ev k.expr,k.desc)) (r:=W1);generalize kV (p.order.map fun k=>(ev k.expr,k.desc)) W1=S at sl sm ⊢;obtain ⟨S1,S2⟩:=S;dsimp only at sl sm ⊢;by_cases g2:S2=0
  case neg=>simp [g2]
  subst g2;simp only [decide_true,QH,QE,if_false,ne_eq,not_true_eq_false];exact Fin S1 (by omega) fun r hr=>wB r (sm r hr)
 ·rw [if_neg (by simpa using go)];have:p.order=[]:=QO (by omega);rw [this,WQ,cL9];simp only [ne_eq,not_true_eq_false,if_false];exact Fin W1 (by omega) wB
end
def FK (kind:Int) (k s:Nat):Prop:=(kind=1∧k=0∧s=0)∨(kind=2∧k=0∧s=0)∨(kind=3∧k=1∧s=0)∨(kind=4∧k=2∧s=0)∨(kind=5∧k=1∧s=0)∨(kind=6∧k=3∧s=0)∨(kind=7∧(2≤k∧k≤9)∧s=0)∨(kind=8∧k=1∧s=1)∨(kind=9∧k=0∧s=1)
instance (kind:Int) (k s:Nat):Decidable (FK kind k s):=by unfold FK; infer_instance
theorem aU4 (kind:Int) (k s:Nat):aM6 kind (k:Int) (s:Int)=some (decide (FK kind k s)):=by
 have v:aCa ⟨0,0,[]⟩=some true:=by decide
 have nm:pX [120]=some true:=by decide
 unfold aM6 aQe aLg E5 FK;simp only [v,nm,rA,QB,QA];by_cases h1:kind=1
 ·subst h1; simp <;> (rw [QM]; simp only [QF,decide_eq_true_eq]; omega)
 by_cases h2:kind=2
 ·subst h2; simp <;> (rw [QM]; simp only [QF,decide_eq_true_eq]; omega)
 by_cases h3:kind=3
 ·subst h3; simp <;> (rw [QM]; simp only [QF,decide_eq_true_eq]; omega)
 by_cases h4:kind=4
 ·subst h4; simp <;> (rw [QM]; simp only [QF,decide_eq_true_eq]; omega)
 by_cases h5:kind=5
 ·subst h5; simp <;> (rw [QM]; simp only [QF,decide_eq_true_eq]; omega)
 by_cases h6:kind=6
 ·subst h6; simp <;> (rw [QM]; simp only [QF,decide_eq_true_eq]; omega)
 by_cases h7:kind=7
 ·subst h7; simp <;> (rw [QM]; simp only [QF,decide_eq_true_eq]; omega)
 by_cases h8:kind=8
 ·subst h8; simp <;> (rw [QM]; simp only [QF,decide_eq_true_eq]; omega)
 by_cases h9:kind=9
 ·subst h9; simp <;> (rw [QM]; simp only [QF,decide_eq_true_eq]; omega)
 simp [h1,h2,h3,h4,h5,h6,h7,h8,h9]
theorem aWr (e:aJ) (hk:e.kids.length≤1048576) (hs:e.sub.length≤1048576):aMu e=some (decide (FK e.kind e.kids.length e.sub.length)):=by
 unfold aMu aIw aIs FK;simp only [rA,aN7,cZ (n:=(e.kids.length:Int)+e.sub.length) (by omega) (by omega),QB,QA];generalize e.kids.length=k;generalize e.sub.length=s;generalize e.kind=kind;by_cases h1:kind=1
 ·subst h1; simp <;> (rw [QM]; simp only [QF,decide_eq_true_eq]; omega)
 by_cases h2:kind=2
 ·subst h2; simp <;> (rw [QM]; simp only [QF,decide_eq_true_eq]; omega)
 by_cases h3:kind=3
 ·subst h3; simp <;> (rw [QM]; simp only [QF,decide_eq_true_eq]; omega)
 by_cases h4:kind=4
 ·subst h4; simp <;> (rw [QM]; simp only [QF,decide_eq_true_eq]; omega)
 by_cases h5:kind=5
 ·subst h5; simp <;> (rw [QM]; simp only [QF,decide_eq_true_eq]; omega)
 by_cases h6:kind=6
 ·subst h6; simp <;> (rw [QM]; simp only [QF,decide_eq_true_eq]; omega)
 by_cases h7:kind=7
 ·subst h7; simp <;> (rw [QM]; simp only [QF,decide_eq_true_eq]; omega)
 by_cases h8:kind=8
 ·subst h8; simp <;> (rw [QM]; simp only [QF,decide_eq_true_eq]; omega)
 by_cases h9:kind=9
 ·subst h9; simp <;> (rw [QM]; simp only [QF,decide_eq_true_eq]; omega)
 simp [h1,h2,h3,h4,h5,h6,h7,h8,h9]
def notP (e:aJ) (r:aA×Int):aA×Int:=if r.2≠0 then (⟨0,0,[]⟩,r.2) else if e.not_=true then unP 15 r.1 else (r.1,0)
def jJ:Rows→Row1×Int
 | []=>([],0)
 | r::l=>match r with
  | []=>([],4)
  | v::_=>if (jJ l).2≠0 then ([],(jJ l).2) else (v::(jJ l).1,0)
def inP (x:aA) (rows:Rows):aA×Int:=if (jJ rows).2≠0 then (⟨0,0,[]⟩,(jJ rows).2) else qM x (jJ rows).1 (vBl false)
def aE2 (e:aJ) (kids:Row1) (rows:Rows):aA×Int :=
 if e.kind=1 then (e.value,0)
 else if e.kind=3 then unP e.op kids[0]!
 else if e.kind=4 then jG e.op kids[0]! kids[1]!
 else if e.kind=5 then (vBl (!((decide (kids[0]!.kind=0))==e.not_)),0)
 else if e.kind=6 then notP e (zI kids[0]! kids[1]! kids[2]!)
 else if e.kind=7 then notP e (qM kids[0]! (kids.drop 1) (vBl false))
 else if e.kind=9 then (vBl (decide (0<rows.length)),0)
 else notP e (inP kids[0]! rows)
theorem bIk:∀ {rows:Rows},(∀ r∈rows,∀ v∈r,okI v.num)→∀ v∈(jJ rows).1,okI v.num
 | [],_,v,hv=>by simp [jJ] at hv
 | []::l,_,v,hv=>by simp [jJ] at hv
 | (x::r)::l,h,v,hv=>by
  rw [jJ] at hv;split at hv
  ·simp at hv
  ·rcases QI.1 hv with rfl | hv
   ·exact h (v::r) (by simp) v (by simp)
   ·exact bIk (fun r hr=>h r (QX _ hr)) v hv
theorem bAe (e:aJ) (hr:okI r.1.num):(if (!decide (r.2=0))=true then (some ((aA.mk 0 0 []),r.2)) else (if e.not_=true then ((aBy 15 r.1)>>=fun (y10:aA×Int)=>some (y10.1,y10.2)) else (some (r.1,0))))=some (notP e r):=by
 unfold notP;rw [unI hr];by_cases h:r.2=0
 ·by_cases h2:e.not_=true <;> simp [h,h2]
 ·simp [h]
theorem aNj (e:aJ) (hr:okI r.1.num):aCw e r.1 r.2=some (notP e r):=by
 unfold aCw notP;rw [unS hr];by_cases h:r.2=0
 ·by_cases h2:e.not_=true <;> simp [h,h2]
 ·simp [h]
theorem cOp {n:oI} {ks:Row1} (hn:n.kids=x::ks) (hx:okI x.num) (hl:n.rows.length≤1048576) (hv:∀ r∈n.rows,∀ v∈r,okI v.num):J5 n [] 0=some (inP x n.rows):=by
 have key:∀ i,i≤n.rows.length→∀ acc:Row1,acc.length≤i→(∀ v∈acc,okI v.num)→J5 n acc (i:Nat)=some (if (jJ (n.rows.drop i)).2≠0 then (⟨0,0,[]⟩,(jJ (n.rows.drop i)).2) else qM x (acc++(jJ (n.rows.drop i)).1) (vBl false)):=by
  refine eO ?_ ?_
  ·intro acc ha hva;have h0:idx n.kids 0=some x:=by rw [hn]; rfl
   rw [J5];simp only [bU,WI,decide_false,QE,if_false,h0,QB,QA,(aYr (p:=acc) (by omega) hx hva).1,WE,jJ,ne_eq,not_true_eq_false,WK]
  ·intro i hi ih acc ha hva;rw [J5,QL hi];simp only [bU,hi,decide_true,if_true,bR hi,QB,QA];have hvi:=hv _ (QJ hi);generalize n.rows[i]=r at hvi ⊢;cases r with
   | nil=>simp [jJ]
   | cons v r =>
    have i0:idx (v::r) 0=some v:=rfl;have ne:¬ (((v::r).length:Int)=0):=by simp only [QG]; omega
    simp only [ne,decide_false,QE,if_false,i0,QA];rw [nT (by simp only [QK]; omega)];simp only [QA];rw [dL hi (by omega),ih _ (by simp only [QC,QK]; omega) (fun w hw=>by
     rcases QU.1 hw with hw | hw
     ·exact hva w hw
     ·simp at hw; subst hw; exact hvi _ (by simp))]
    rw [jJ];by_cases h:(jJ (n.rows.drop (i+1))).2=0
    ·simp only [h,ne_eq,not_true_eq_false,if_false,QQ,WO]
    ·simp [h]
 have:=key 0 (by omega) [] (by simp) (by simp);unfold inP;simpa using this
theorem bY1 {e:aJ} {ks:Row1} (hx:okI x.num) (hl:rows.length≤1048576) (hv:∀ r∈rows,∀ v∈r,okI v.num):yS (x::ks) rows e [] 0=some (notP e (inP x rows)):=by
 have key:∀ i,i≤rows.length→∀ acc:Row1,acc.length≤i→(∀ v∈acc,okI v.num)→yS (x::ks) rows e acc (i:Nat)=some (if (jJ (rows.drop i)).2≠0 then (⟨0,0,[]⟩,(jJ (rows.drop i)).2) else notP e (qM x (acc++(jJ (rows.drop i)).1) (vBl false))):=by
  refine eO ?_ ?_
  ·intro acc ha hva;have h0:idx (x::ks) 0=some x:=rfl;rw [yS];simp only [bU,WI,decide_false,QE,if_false,h0,QB,QA,(aYr (p:=acc) (by omega) hx hva).2,aNj e (aI8 hx hva (aKo false)),WE,jJ,ne_eq,not_true_eq_false,WK];rw [show (vBl false)=⟨3,if false=true then 1 else 0,[]⟩ from rfl,aNj e (aI8 hx hva (aKo false))];rfl
  ·intro i hi ih acc ha hva;rw [yS,QL hi];simp only [bU,hi,decide_true,if_true,bR hi,QB,QA];have hvi:=hv _ (QJ hi);generalize rows[i]=r at hvi ⊢;cases r with
   | nil=>simp [jJ]
   | cons v r =>
    have i0:idx (v::r) 0=some v:=rfl;have ne:¬ (((v::r).length:Int)=0):=by simp only [QG]; omega
    simp only [ne,decide_false,QE,if_false,i0,QA];rw [nT (by simp only [QK]; omega)];simp only [QA];rw [dL hi (by omega),ih _ (by simp only [QC,QK]; omega) (fun w hw=>by
     rcases QU.1 hw with hw | hw
     ·exact hva w hw
     ·simp at hw; subst hw; exact hvi _ (by simp))]
    rw [jJ];by_cases h:(jJ (rows.drop (i+1))).2=0
    ·simp only [h,ne_eq,not_true_eq_false,if_false,QQ,WO]
    ·simp [h]
 have:=key 0 (by omega) [] (by simp) (by simp);have e2:notP e (inP x rows)=if (jJ rows).2≠0 then (⟨0,0,[]⟩,(jJ rows).2) else notP e (qM x (jJ rows).1 (vBl false)):=by
  unfold inP;by_cases h:(jJ rows).2=0
  ·simp [h]
  ·rw [if_pos h,if_pos h]; unfold notP; simp [h]
 rw [e2];simpa using this
theorem cNx (hx:okI x.num) (hv:∀ r∈rows,∀ v∈r,okI v.num):okI (inP x rows).1.num:=by
 unfold inP;split
 ·exact ok0
 ·exact aI8 hx (bIk hv) (aKo false)
theorem bDk {e:aJ} (h:okI r.1.num):okI (notP e r).1.num:=by
 unfold notP;split
 ·exact ok0
 split
 ·exact bHs h
 ·exact h
theorem aXn {k:Row1} (h:k.length=1):∃ a,k=[a]:=by
 match k,h with
 | [a],_=>exact ⟨a,rfl⟩
theorem bQ5 {k:Row1} (h:k.length=2):∃ a b,k=[a,b]:=by
 match k,h with
 | [a,b],_=>exact ⟨a,b,rfl⟩
theorem cLy {k:Row1} (h:k.length=3):∃ a b c,k=[a,b,c]:=by
 match k,h with
 | [a,b,c],_=>exact ⟨a,b,c,rfl⟩
theorem bHn {e:aJ} {env:Rows} {kids:Row1} {s:Nat} (hf:FK e.kind kids.length s) (h2:e.kind≠2) (hev:okI e.value.num) (hk:∀ v∈kids,okI v.num) (hl:rows.length≤1048576) (hv:∀ r∈rows,∀ v∈r,okI v.num) :
  aLa (oI.mk e.kind e.op e.not_ e.value kids rows)=some (aE2 e kids rows)∧uG env kids e rows=some (aE2 e kids rows)∧okI (aE2 e kids rows).1.num:=by
 unfold aLa uG aE2;rcases hf with ⟨k,_⟩ | ⟨k,_⟩ | ⟨k,hl1,_⟩ | ⟨k,hl1,_⟩ | ⟨k,hl1,_⟩ | ⟨k,hl1,_⟩ | ⟨k,hl1,_⟩ | ⟨k,hl1,_⟩ | ⟨k,hl1,_⟩
 ·simp [k,hev]
 ·exact absurd k h2
 ·obtain ⟨a,rfl⟩:=aXn hl1;have ha:=hk a (by simp);simp [k,idx,unI ha,unS ha,bHs ha]
 ·obtain ⟨a,b,rfl⟩:=bQ5 hl1;have ha:=hk a (by simp);have hb:=hk b (by simp);simp [k,idx,aDo ha hb,aCx ha hb,D9 ha hb]
 ·obtain ⟨a,rfl⟩:=aXn hl1;simp only [k,idx,aCg,wK,vBl];refine ⟨rfl,rfl,?_⟩;exact aQ2 _
 ·obtain ⟨a,b,c,rfl⟩:=cLy hl1;have ha:=hk a (by simp);have hb:=hk b (by simp);have hc:=hk c (by simp);have ni:=bAe e (r:=zI a b c) (aYy ha hb hc);have ns:=aNj e (r:=zI a b c) (aYy ha hb hc);unfold aE7;simp [k,idx,bTp ha hb hc,bXn ha hb hc,ns,bDk (e:=e) (aYy ha hb hc)];simpa using ni
 ·obtain ⟨a,ks,rfl⟩:∃ a ks,kids=a::ks:=by
   cases kids with
   | nil=>simp at hl1
   | cons a ks=>exact ⟨a,ks,rfl⟩
  have ha:=hk a (by simp);have hks:∀ v∈ks,okI v.num:=fun v hv=>hk v (by simp [hv]);have hlk:ks.length≤1048576:=by simp at hl1; omega
  have w:=aYr hlk ha hks;have wo:okI (qM a ks (vBl false)).1.num:=aI8 ha hks (aKo false);have ni:=bAe e wo;have ns:=aNj e wo;have sb:gY (a::ks) 1 ((a::ks).length:Int)=some ks:=by
   have:=aZy (l:=a::ks) (n:=1) (by simp);simpa using this
  have i0:idx (a::ks) 0=some a:=rfl;unfold aE7;simp only [k,i0,sb,w.1,w.2,ns,QB,QA,show ¬ ((7:Int)=1) by decide,show ¬ ((7:Int)=2) by decide,show ¬ ((7:Int)=3) by decide,show ¬ ((7:Int)=4) by decide,show ¬ ((7:Int)=5) by decide,show ¬ ((7:Int)=6) by decide,show ¬ ((7:Int)=9) by decide,decide_false,decide_true,QE,if_false,if_true];exact ⟨ni,rfl,bDk wo⟩
 ·obtain ⟨a,rfl⟩:=aXn hl1;have ha:=hk a (by simp);have io:=cNx (rows:=rows) ha hv;have ni:=bAe e io;have si:=cOp (n:=oI.mk e.kind e.op e.not_ e.value [a] rows) (x:=a) (ks:=[]) rfl ha hl hv;have ss:=bY1 (e:=e) (x:=a) (ks:=[]) ha hl hv;unfold aE7;rw [k] at si;simp only [k,si,ss,QB,QA,show ¬ ((8:Int)=1) by decide,show ¬ ((8:Int)=2) by decide,show ¬ ((8:Int)=3) by decide,show ¬ ((8:Int)=4) by decide,show ¬ ((8:Int)=5) by decide,show ¬ ((8:Int)=6) by decide,show ¬ ((8:Int)=7) by decide,show ¬ ((8:Int)=9) by decide,decide_false,decide_true,QE,if_false,if_true];exact ⟨ni,rfl,bDk io⟩
 ·simp only [k,aCg,wK,QB,QA,show ¬ ((9:Int)=1) by decide,show ¬ ((9:Int)=2) by decide,show ¬ ((9:Int)=3) by decide,show ¬ ((9:Int)=4) by decide,show ¬ ((9:Int)=5) by decide,show ¬ ((9:Int)=6) by decide,show ¬ ((9:Int)=7) by decide,decide_false,decide_true,QE,if_false,if_true];have e1:decide ((0:Int)<(rows.length:Int))=decide (0<rows.length):=by simp
  rw [e1];exact ⟨rfl,rfl,aQ2 _⟩
structure Closed (N R:Nat) (GE:aJ→Prop) (GP:aQ→Prop):Prop where
 val:∀ e,GE e→okI e.value.num
 kid:∀ e,GE e→∀ k∈e.kids,GE k
 sub:∀ e,GE e→∀ p∈e.sub,GP p
 plan:∀ p,GP p→aNr N R p
 part:∀ p,GP p→∀ e∈iZ p,GE e
 len:∀ e,GE e→e.kids.length≤1048576∧e.sub.length≤1048576
 ze:∀ e,GE e→bI e≤1048576
 zp:∀ p,GP p→dW p≤1048576
def aK0 (env:Rows):Prop:=∀ r∈env,∀ v∈r,okI v.num
def jO (c:aX) (d:GDb) (env:Rows) (e:aJ):Gf:=fun r=>(fZ c d (r::env) e).getD (⟨0,0,[]⟩,0)
def EvE (c:aX) (d:GDb) (env:Rows) (e:aJ):Prop:=∃ r,vK c d env e=some r∧fZ c d env e=some r∧okI r.1.num
def EvP (c:aX) (d:GDb) (env:Rows) (p:aQ):Prop:=∃ r,G7 c d env p=some r∧uN c d env p=some r∧(∀ x∈r.1,∀ v∈x,okI v.num)∧r.1.length≤1048576
theorem aSa:∀ {l o:Rows} {x:Row1},x∈lX o l→x∈o∨x∈l
 | [],o,x,h=>by rw [lX] at h; exact .inl h
 | y::l,o,x,h=>by
  rw [lX] at h;split at h
  ·rcases aSa h with h | h
   ·exact .inl h
   ·exact .inr (QX _ h)
  ·rcases aSa h with h | h
   ·rcases QU.1 h with h | h
    ·exact .inl h
    ·simp at h; subst h; exact .inr (by simp)
   ·exact .inr (QX _ h)
theorem cPk {dis:Bool} {lim:Int} {r:Rows}:(∀ x∈xQ dis lim r,x∈r)∧(xQ dis lim r).length≤r.length:=by
 have key:(∀ x∈(if dis=true then lX [] r else r),x∈r)∧(if dis=true then lX [] r else r).length≤r.length:=by
  split
  ·refine ⟨fun x hx=>?_,by have:=aLf r []; simpa using this⟩;rcases aSa hx with h | h
   ·simp at h
   ·exact h
  ·exact ⟨fun x hx=>hx,QY _⟩
 unfold xQ;generalize (if dis=true then lX [] r else r)=q at key ⊢;unfold P9;split
 ·refine ⟨fun x hx=>key.1 x ((XM _ _) hx),?_⟩;rw [QW];exact QZ (Nat.min_le_right _ _) key.2
 ·exact key
section
variable {N R:Nat} {GE:aJ→Prop} {GP:aQ→Prop} {c:aX} {d:GDb}
theorem bTy (hC:Closed N R GE GP) (hS:aAk N) (hN:N≤1048576) (hd:DbB R d) (hdl:d.tables.length≤1048576) {env:Rows} (_:aK0 env) (hl:env.length≤1048576) {p:aQ} (hp:GP p)
  (H:∀ e∈iZ p,∀ r,gK 3 r→EvE c d (r::env) e):EvP c d env p∧G7 c d env p=some (xX d (jO c d env) p):=by
 have hs:∀ e∈iZ p,∀ r,gK 3 r→fZ c d (r::env) e=some (jO c d env e r)∧vK c d (r::env) e=some (jO c d env e r)∧okI (jO c d env e r).1.num:=by
  intro e he r hr;obtain ⟨x,h1,h2,h3⟩:=H e he r hr;unfold jO;rw [h2];exact ⟨rfl,h1,h3⟩
 have hi:∀ e∈iZ p,∀ r,gK 3 r→nM r c d env e=some (jO c d env e r):=by
  intro e he r hr;rw [nM,nT (by simp only [QK]; omega)];simp only [WO,QB,QA,(hs e he r hr).2.1]
 have pI:=bXs hS hN hd (hC.plan p hp) hi;have pS:=bPh (c:=c) hN hd hdl (by omega) (hC.plan p hp) fun e he r hr=>(hs e he r hr).1;refine ⟨⟨_,pI,pS,?_⟩,pI⟩;unfold xX;split
 ·simp
 unfold aHh;split
 ·simp
 split
 ·simp
 split
 ·simp
 split
 ·simp
 rename_i hg _ _ _ _;dsimp only;obtain ⟨e1,e2⟩:=cPk (dis:=(nU d (jO c d env) p).dis) (lim:=(nU d (jO c d env) p).lim) (r:=(oM (nU d (jO c d env) p).is (kV (nU d (jO c d env) p).ks (whE (nU d (jO c d env) p).wh (joE (nU d (jO c d env) p).st [[]]).1).1).1).1);have hP:=hC.plan p hp;have hT:nK d p.tables=true:=by
  cases h:nK d p.tables with
  | true=>rfl
  | false=>exact absurd (.inr h) hg
 have h1:p.on_.length=p.tables.length:=Classical.not_not.1 fun h=>hg (.inl (.inr h));have jm:∀ s∈M6 d (jO c d env) p,∃ x∈d.tables,x.rows=s.1:=by
  intro s hs;obtain ⟨a,ha,b,_,rfl⟩:=aPm _ _ _ _ hs;exact aPk hT (XL ha)
 have js:(M6 d (jO c d env) p).length=p.tables.length:=by simp [M6,h1]
 have jl:=aQ9 R (M6 d (jO c d env) p) [[]] 1 (fun s hs=>by obtain ⟨x,hx,e⟩:=jm s hs; rw [← e]; exact hd.rows x hx) (by simp);have jB:=aSw (M6 d (jO c d env) p) [[]] 0 (fun s hs=>by obtain ⟨x,hx,e⟩:=jm s hs; rw [← e]; exact hd.row x hx) (fun r hr=>by simp at hr; subst hr; exact ⟨by simp,by simp⟩);rw [js,YC] at jl;rw [js,XF] at jB;have RN:=hP.RN;have wl:=aHf (nU d (jO c d env) p).wh (joE (M6 d (jO c d env) p) [[]]).1;obtain ⟨sl,sm⟩:=bGg (ks:=(nU d (jO c d env) p).ks) (r:=(whE (nU d (jO c d env) p).wh (joE (nU d (jO c d env) p).st [[]]).1).1);have ml:=aFu (g:=fun row=>bL (fun g:Gf=>g row) (nU d (jO c d env) p).is) (kV (nU d (jO c d env) p).ks (whE (nU d (jO c d env) p).wh (joE (nU d (jO c d env) p).st [[]]).1).1).1;constructor
 ·intro x hx v hv;have hx:=e1 x hx;obtain ⟨r,hr,rfl,_⟩:=aB0 hx;obtain ⟨g,hg,rfl,_⟩:=aB0 hv;obtain ⟨e,he,rfl⟩:=XK.1 hg;have hr3:gK 3 r:=aD1 hP.t3 (jB r ((T9 _ _).subset (sm r hr)));exact (hs e (by unfold iZ; simp [he]) r hr3).2.2
 ·refine QZ e2 (QZ ml (QZ sl (QZ wl ?_)));exact QZ (QZ jl RN) hN
def cellP (env:Rows) (e:aJ):aA×Int :=
 if 0≤e.up∧e.up<(env.length:Int)∧0≤e.at_∧e.at_<((env[e.up.toNat]!).length:Int) then ((env[e.up.toNat]!)[e.at_.toNat]!,0) else (⟨0,0,[]⟩,4)
theorem cKq {env:Rows} {e:aJ} (h2:e.kind=2) (hs:FK e.kind e.kids.length e.sub.length):vK c d env e=some (cellP env e):=by
 rw [vK,aU4];rw [h2] at hs;simp only [hs,decide_true,QH,QE,if_false,h2,if_true,QB,QA,orB];unfold cellP;by_cases a:e.up<0
 ·have:¬ 0≤e.up:=by omega
  simp [a,this]
 by_cases b:(env.length:Int)≤e.up
 ·have:¬ e.up<(env.length:Int):=by omega
  simp [b,this]
 by_cases g:e.at_<0
 ·have:¬ 0≤e.at_:=by omega
  simp [g,this]
 obtain ⟨n,hn⟩:∃ n:Nat,e.up=n:=⟨e.up.toNat,by omega⟩
 obtain ⟨m,hm⟩:∃ m:Nat,e.at_=m:=⟨e.at_.toNat,by omega⟩
 have hnl:n<env.length:=by omega
 rw [hn,hm];have e1:=getElem!_pos env n hnl;have n1:¬ ((n:Int)<0):=by omega
 have n2:¬ ((env.length:Int)≤n):=by omega
 have n3:¬ ((m:Int)<0):=by omega
 simp only [n1,n2,n3,decide_false,WP,WZ,beq_self_eq_true,WA,if_true,bR hnl,QA,QT,e1];by_cases q:(env[n].length:Int)≤(m:Int)
 ·have:¬ (m:Int)<(env[n].length:Int):=by omega
  simp [q,this]
 ·have hml:m<env[n].length:=by omega
  have e2:=getElem!_pos env[n] m hml;simp only [q,decide_false,WP,QE,if_false,bR hml,QA];have hc:(0:Int)≤n∧(n:Int)<(env.length:Int)∧(0:Int)≤m∧(m:Int)<(env[n].length:Int):=⟨by omega,by omega,by omega,by omega⟩
  rw [e2];simp only [hc,and_self,if_true]
theorem bYn {env:Rows} {e:aJ} (h2:e.kind=2) (hl:env.length≤1048576) (hr:∀ r∈env,r.length≤1048576):uG env [] e []=some (cellP env e):=by
 unfold uG cellP;simp only [h2,show ¬ ((2:Int)=1) by decide,decide_false,decide_true,QE,if_false,if_true,aN7,QB,QA,orB];rw [cZ (n:=(env.length:Int) - 1) (by omega) (by omega)];by_cases a:0≤e.up
 case neg=>simp [a]
 by_cases b:e.up<(env.length:Int)
 case neg =>
  have:¬ e.up≤(env.length:Int) - 1:=by omega
  simp [b,this]
 have b':e.up≤(env.length:Int) - 1:=by omega
 obtain ⟨n,hn⟩:∃ n:Nat,e.up=n:=⟨e.up.toNat,by omega⟩
 have hnl:n<env.length:=by omega
 have e1:=getElem!_pos env n hnl;rw [hn] at a b b' ⊢;have hrl:=hr _ (QJ hnl);simp only [a,b,b',decide_true,WA,QH,beq_self_eq_true,if_true,bR hnl,QA,QT,e1,WZ];rw [cZ (n:=(env[n].length:Int) - 1) (by omega) (by omega)];by_cases g:0≤e.at_
 case neg=>simp [g]
 by_cases q:e.at_<(env[n].length:Int)
 case neg =>
  have:¬ e.at_≤(env[n].length:Int) - 1:=by omega
  simp [q,this]
 have q':e.at_≤(env[n].length:Int) - 1:=by omega
 obtain ⟨m,hm⟩:∃ m:Nat,e.at_=m:=⟨e.at_.toNat,by omega⟩
 rw [hm] at g q q' ⊢;have hml:m<env[n].length:=by omega
 have e2:=getElem!_pos env[n] m hml;simp only [g,q',decide_true,WA,QH,QE,if_false,bR hml,QA];have hc:(0:Int)≤n∧(n:Int)<(env.length:Int)∧(0:Int)≤m∧(m:Int)<(env[n].length:Int):=⟨by omega,by omega,by omega,by omega⟩
 rw [QT,e2];simp only [hc,and_self,if_true]
theorem cI2 {env:Rows} {e:aJ} (hB:aK0 env):okI (cellP env e).1.num:=by
 unfold cellP;split
 ·rename_i h;have hn:e.up.toNat<env.length:=by omega
  rw [getElem!_pos env _ hn] at h ⊢;have hm:e.at_.toNat<env[e.up.toNat].length:=by omega
  rw [getElem!_pos env[e.up.toNat] _ hm];exact hB _ (QJ hn) _ (QJ hm)
 ·exact ok0
end
section
variable {N R:Nat} {GE:aJ→Prop} {GP:aQ→Prop} {c:aX} {d:GDb}
theorem cFy {env:Rows} {e:aJ} (hk:e.kids.length≤1048576) (H:∀ k∈e.kids,EvE c d env k) :
  aAw env e c d 0 []=if (bL (fun k=>(fZ c d env k).getD (⟨0,0,[]⟩,0)) e.kids).2≠0 then some (⟨0,0,[]⟩,(bL (fun k=>(fZ c d env k).getD (⟨0,0,[]⟩,0)) e.kids).2) else G8 env e c d (bL (fun k=>(fZ c d env k).getD (⟨0,0,[]⟩,0)) e.kids).1 0 []:=by
 have m:=aCr (p:=e.kids) (b:=32) (g:=fun k=>(fZ c d env k).getD (⟨0,0,[]⟩,0)) (F:=fun k=>vK c d env k)
  (L:=fun acc j=>aAw env e c d j acc) (E:=fun x=>((⟨0,0,[]⟩:aA),x)) (K:=fun acc=>G8 env e c d acc 0 [])
  hk (by omega) (fun k hk=>by obtain ⟨r,h1,h2,_⟩:=H k hk; rw [h1,h2]; rfl) (fun j acc=>by rw [aAw]) [] (by simp)
 simpa using m
theorem bFo {env:Rows} {e:aJ} (hk:e.kids.length≤1048576) (H:∀ k∈e.kids,EvE c d env k) :
  aB2 env c d e [] 0=if (bL (fun k=>(fZ c d env k).getD (⟨0,0,[]⟩,0)) e.kids).2≠0 then some (⟨0,0,[]⟩,(bL (fun k=>(fZ c d env k).getD (⟨0,0,[]⟩,0)) e.kids).2)
  else (if (decide (0<(e.sub.length:Int)))=true then ((idx e.sub 0)>>=fun (y5:aQ)=>(uN c d env y5)>>=fun (y6:(List (List aA))×Int)=>if (!decide (y6.2=0))=true then (some ((aA.mk 0 0 []),y6.2)) else (uG env (bL (fun k=>(fZ c d env k).getD (⟨0,0,[]⟩,0)) e.kids).1 e y6.1)) else (uG env (bL (fun k=>(fZ c d env k).getD (⟨0,0,[]⟩,0)) e.kids).1 e ([]:List (List aA)))):=by
 have m:=aCr (p:=e.kids) (b:=32) (g:=fun k=>(fZ c d env k).getD (⟨0,0,[]⟩,0)) (F:=fun k=>fZ c d env k)
  (L:=fun acc j=>aB2 env c d e acc j) (E:=fun x=>((⟨0,0,[]⟩:aA),x)) (K:=fun acc=>(if (decide (0<(e.sub.length:Int)))=true then ((idx e.sub 0)>>=fun (y5:aQ)=>(uN c d env y5)>>=fun (y6:(List (List aA))×Int)=>if (!decide (y6.2=0))=true then (some ((aA.mk 0 0 []),y6.2)) else (uG env acc e y6.1)) else (uG env acc e ([]:List (List aA)))))
  hk (by omega) (fun k hk=>by obtain ⟨r,_,h2,_⟩:=H k hk; rw [h2]; rfl) (fun j acc=>by rw [aB2]) [] (by simp)
 simpa using m
def vD (c:aX) (d:GDb) (env:Rows) (e:aJ):Row1×Int:=bL (fun k=>(fZ c d env k).getD (⟨0,0,[]⟩,0)) e.kids
def aO2 (c:aX) (d:GDb) (env:Rows) (e:aJ):aA×Int :=
 if ¬ FK e.kind e.kids.length e.sub.length then (⟨0,0,[]⟩,4)
 else if e.kind=2 then cellP env e
 else if (vD c d env e).2≠0 then (⟨0,0,[]⟩,(vD c d env e).2)
 else match e.sub with
  | []=>aE2 e (vD c d env e).1 []
  | p::_=>if ((uN c d env p).getD ([],0)).2≠0 then (⟨0,0,[]⟩,((uN c d env p).getD ([],0)).2) else aE2 e (vD c d env e).1 ((uN c d env p).getD ([],0)).1
theorem bSk (hC:Closed N R GE GP) {env:Rows} (hB:aK0 env) (hl:env.length≤1048576) (hr:∀ r∈env,r.length≤1048576) {e:aJ} (he:GE e) (HK:∀ k∈e.kids,EvE c d env k) (HS:∀ p∈e.sub,EvP c d env p) :
  vK c d env e=some (aO2 c d env e)∧fZ c d env e=some (aO2 c d env e)∧okI (aO2 c d env e).1.num:=by
 obtain ⟨kl,sl⟩:=hC.len e he;unfold aO2;by_cases hf:FK e.kind e.kids.length e.sub.length
 case neg =>
  rw [vK,aU4,fZ,aWr e kl sl];simp [hf]; exact ok0
 rw [if_neg (by simp [hf])];by_cases h2:e.kind=2
 ·rw [if_pos h2];refine ⟨cKq h2 hf,?_,cI2 hB⟩;have hk0:e.kids=[]:=by
   rcases hf with ⟨k,_⟩ | ⟨k,h,_⟩ | ⟨k,_⟩ | ⟨k,_⟩ | ⟨k,_⟩ | ⟨k,_⟩ | ⟨k,_⟩ | ⟨k,_⟩ | ⟨k,_⟩ <;> first | exact QO h | omega
  have hs0:e.sub=[]:=by
   rcases hf with ⟨k,_⟩ | ⟨k,_,h⟩ | ⟨k,_⟩ | ⟨k,_⟩ | ⟨k,_⟩ | ⟨k,_⟩ | ⟨k,_⟩ | ⟨k,_⟩ | ⟨k,_⟩ <;> first | exact QO h | omega
  rw [fZ,aWr e kl sl];simp only [hf,decide_true,QH,QE,if_false,QB,QA];rw [bFo kl HK,hk0,hs0];simp only [bL,ne_eq,not_true_eq_false,if_false,QP];rw [if_neg (by simp)];exact bYn h2 hl hr
 rw [if_neg h2,vK,aU4,fZ,aWr e kl sl];simp only [hf,h2,decide_true,decide_false,QH,QE,if_false,QB,QA];rw [cFy kl HK,bFo kl HK];have hkv:∀ v∈(vD c d env e).1,okI v.num:=by
  intro v hv;obtain ⟨k,hk,rfl,_⟩:=aB0 hv;obtain ⟨r,_,h2,h3⟩:=HK k hk;rw [h2]; exact h3
 have hkl:=aLo (g:=fun k=>(fZ c d env k).getD (⟨0,0,[]⟩,0)) (l:=e.kids);show (if (vD c d env e).2≠0 then _ else _)=_∧(if (vD c d env e).2≠0 then _ else _)=_∧_;change (vD c d env e).2=0→(vD c d env e).1.length=e.kids.length at hkl;change _=_∧_=_∧_;by_cases h0:(vD c d env e).2=0
 case neg =>
  rw [if_pos h0,if_pos h0,if_pos h0];exact ⟨rfl,rfl,ok0⟩
 rw [if_neg (by simp [h0]),if_neg (by simp [h0]),if_neg (by simp [h0])];have hkl:=hkl h0;rw [← hkl] at hf;have hev:=hC.val e he;have fold:(bL (fun k=>(fZ c d env k).getD (⟨0,0,[]⟩,0)) e.kids)=vD c d env e:=rfl;rw [fold];generalize vD c d env e=K at hkv hf ⊢
 match hs:e.sub with
 | [] =>
  have n:=bHn (env:=env) (rows:=[]) hf h2 hev hkv (by simp) (by simp);rw [G8,hs];simp only [QP,n.1,QB,QA,show ((0:Nat):Int)=0 from rfl,YB,decide_false,QE,if_false];exact ⟨trivial,n.2.1,n.2.2⟩
 | [p] =>
  obtain ⟨r,p1,p2,p3,p4⟩:=HS p (by rw [hs]; simp);have i0:idx [p] 0=some p:=rfl;rw [G8,hs];simp only [QK,i0,p1,p2,QB,QA,Option.getD_some,show decide ((0:Int)<((1:Nat):Int))=true from rfl,if_true];by_cases hz:r.2=0
  case neg=>simp [hz]; exact ok0
  have n:=bHn (env:=env) (rows:=r.1) hf h2 hev hkv p4 p3;simp only [hz,decide_true,QH,QE,if_false,ne_eq,not_true_eq_false];rw [G8,hs];simp only [QK,show QD .i64 (0+1)=1 by decide,show decide ((1:Int)<((1:Nat):Int))=false from rfl,QE,if_false,n.1,QB,QA];exact ⟨trivial,n.2.1,n.2.2⟩
 | p::q::l =>
  exfalso;rw [hs] at hf;simp only [FK,QG] at hf;omega
theorem cI7 (hC:Closed N R GE GP) (hS:aAk N) (hN:N≤1048576) (hd:DbB R d) (hdl:d.tables.length≤1048576):∀ n:Nat,
  (∀ (e:aJ) (env:Rows),bI e<n→GE e→aK0 env→(∀ r∈env,r.length≤1048576)→env.length+n≤1048576→EvE c d env e) ∧
  (∀ (p:aQ) (env:Rows),dW p<n→GP p→aK0 env→(∀ r∈env,r.length≤1048576)→env.length+n≤1048576→EvP c d env p∧G7 c d env p=some (xX d (jO c d env) p)):=by
 intro n
 induction n with
 | zero=>exact ⟨fun e env h=>by omega,fun p env h=>by omega⟩
 | succ n ih =>
  constructor
  ·intro e env hz he hB hr hl;have:=bSk (c:=c) (d:=d) hC hB (by omega) hr he (fun k hk=>by
    have:=aJm hk;have:0<e.kids.length:=XC hk;exact ih.1 k env (by omega) (hC.kid e he k hk) hB hr (by omega)) (fun p hp=>by
    have:=aIk hp;have:0<e.sub.length:=XC hp;exact (ih.2 p env (by omega) (hC.sub e he p hp) hB hr (by omega)).1)
   exact ⟨_,this⟩
  ·intro p env hz hp hB hr hl;refine bTy hC hS hN hd hdl hB (by omega) hp fun e he r hrb=>?_;have:=aPb he;refine ih.1 e (r::env) (by omega) (hC.part p hp e he) (fun x hx=>?_) (fun x hx=>?_) (by simp only [QG]; omega)
   ·rcases QI.1 hx with rfl | hx
    ·exact hrb.2
    ·exact hB x hx
   ·rcases QI.1 hx with rfl | hx
    ·have:=hrb.1; omega
    ·exact hr x hx
end
structure iI {α:Type} (c:α→α→Int):Prop where
 neg:∀ a b,c b a = - c a b
 tr:∀ a b d,c a b≤0→c b d≤0→c a d≤0
theorem iI.lt {α:Type} {c:α→α→Int} (h:iI c) {a b d:α} (h1:c a b<0) (h2:c b d≤0):c a d<0:=by
 by_cases h3:c a d<0
 ·exact h3
 ·have e1:=h.neg a d;have e2:=h.tr b d a h2 (by omega);have e3:=h.neg a b;omega
theorem iI.lt' {α:Type} {c:α→α→Int} (h:iI c) {a b d:α} (h1:c a b≤0) (h2:c b d<0):c a d<0:=by
 by_cases h3:c a d<0
 ·exact h3
 ·have e1:=h.neg a d;have e2:=h.tr d a b (by omega) h1;have e3:=h.neg b d;omega
theorem iI.self {α:Type} {c:α→α→Int} (h:iI c) (a:α):c a a=0:=by have:=h.neg a a; omega
theorem iI.both {α:Type} {c d:α→α→Int} (h:iI c) (k:iI d):iI fun a b=>if c a b≠0 then c a b else d a b:=by
 refine ⟨fun a b=>?_,fun a b e=>?_⟩
 ·have:=h.neg a b;have:=k.neg a b;split <;> split <;> omega
 ·intro h1 h2;have t1:=h.tr a b e;have t2:=k.tr a b e;by_cases e1:c a b=0
  ·by_cases e2:c b e=0
   ·have hn1:=h.neg a b;have hn2:=h.neg b e;have hn3:=h.neg a e;have t3:=h.tr e b a (by omega) (by omega);have e3:c a e=0:=by have:=t1 (by omega) (by omega); omega
    rw [if_neg (by omega)] at h1 h2 ⊢;exact t2 h1 h2
   ·rw [if_pos e2] at h2;have:=h.lt' (a:=a) (b:=b) (d:=e) (by omega) (by omega);rw [if_pos (by omega)]; omega
  ·rw [if_pos e1] at h1;have h2':c b e≤0:=by
    split at h2 <;> omega
   have:=h.lt (a:=a) (b:=b) (d:=e) (by omega) h2';rw [if_pos (by omega)]; omega
def ic (a b:Int):Int:=if a<b then -1 else if b<a then 1 else 0
theorem bJv {α:Type} (f:α→Int):iI fun a b=>ic (f a) (f b):=by
 refine ⟨fun a b=>?_,fun a b d=>?_⟩
 ·simp only [ic]; (repeat' split) <;> omega
 ·simp only [ic]; (repeat' split) <;> omega
theorem bMg:∀ l:List UInt8,Op.bytesLess l l=false
 | []=>rfl
 | x::l=>by simp [Op.bytesLess,bMg l]
theorem bHg:∀ {a b:List UInt8},Op.bytesLess a b=true→Op.bytesLess b a=false
 | [],[],h=>by simp [Op.bytesLess] at h
 | [],_::_,_=>by simp [Op.bytesLess]
 | _::_,[],h=>by simp [Op.bytesLess] at h
 | x::a,y::b,h=>by
  simp only [Op.bytesLess,XA,decide_eq_true_eq,QF,beq_iff_eq] at h;simp only [Op.bytesLess,XJ,decide_eq_false_iff_not,Bool.and_eq_false_iff];rcases h with h | ⟨rfl,h⟩
  ·refine ⟨by simp only [UInt8.lt_iff_toNat_lt] at h ⊢; omega,.inl ?_⟩;have:y≠x:=fun e=>by subst e; simp [UInt8.lt_iff_toNat_lt] at h
   simpa using this
  ·exact ⟨by simp [UInt8.lt_iff_toNat_lt],.inr (bHg h)⟩
theorem bLi:∀ {a b:List UInt8},Op.bytesLess a b=false→Op.bytesLess b a=false→a=b
 | [],[],_,_=>rfl
 | [],_::_,h,_=>by simp [Op.bytesLess] at h
 | _::_,[],_,h=>by simp [Op.bytesLess] at h
 | x::a,y::b,h,k=>by
  simp only [Op.bytesLess,XJ,decide_eq_false_iff_not,UInt8.lt_iff_toNat_lt] at h k;have e:x=y:=UInt8.toNat_inj.1 (by omega);subst e;simp only [beq_self_eq_true,WY] at h k;rw [bLi h.2 k.2]
theorem bFy:∀ {a b d:List UInt8},Op.bytesLess a b=true→Op.bytesLess b d=true→Op.bytesLess a d=true
 | [],_,[],_,k=>by simp [Op.bytesLess] at k
 | [],_,_::_,_,_=>by simp [Op.bytesLess]
 | _::_,[],_,h,_=>by simp [Op.bytesLess] at h
 | _::_,_::_,[],_,k=>by simp [Op.bytesLess] at k
 | x::a,y::b,z::d,h,k=>by
  simp only [Op.bytesLess,XA,decide_eq_true_eq,QF,beq_iff_eq,UInt8.lt_iff_toNat_lt] at h k ⊢;rcases h with h | ⟨rfl,h⟩
  ·rcases k with k | ⟨rfl,k⟩
   ·exact .inl (by omega)
   ·exact .inl h
  ·rcases k with k | ⟨rfl,k⟩
   ·exact .inl k
   ·exact .inr ⟨rfl,bFy h k⟩
def tc (a b:List UInt8):Int:=if Op.bytesLess a b=true then -1 else if a=b then 0 else 1
theorem cIk {a b:List UInt8}:tc a b≤0↔Op.bytesLess a b=true∨a=b:=by
 unfold tc;split
 ·rename_i h; simp [h]
 ·rename_i h;split
  ·rename_i e; simp [e]
  ·rename_i e; simp [h,e]
theorem bZj {α:Type} (f:α→List UInt8):iI fun a b=>tc (f a) (f b):=by
 refine ⟨fun a b=>?_,fun a b d h k=>?_⟩
 ·generalize f a=x;generalize f b=y;unfold tc;by_cases h:Op.bytesLess x y=true
  ·have h2:=bHg h;have h3:y≠x:=fun e=>by subst e; rw [h] at h2; simp at h2
   rw [if_pos h,if_neg (by simp [h2]),if_neg h3]; rfl
  ·by_cases h2:Op.bytesLess y x=true
   ·have h3:x≠y:=fun e=>by subst e; exact h h2
    rw [if_neg h,if_pos h2,if_neg h3]
   ·have:=bLi (by simpa using h) (by simpa using h2);subst this;simp [h]
 ·rw [cIk] at h k ⊢;rcases h with h | h
  ·rcases k with k | k
   ·exact .inl (bFy h k)
   ·exact .inl (k ▸ h)
  ·rw [h]; exact k
def vo (x y:aA):Int:=if ic x.kind y.kind≠0 then ic x.kind y.kind else if ic x.num y.num≠0 then ic x.num y.num else tc x.text y.text
theorem bT5:iI vo:=(bJv aA.kind).both ((bJv aA.num).both (bZj aA.text))
theorem cE5 (x y:aA):rY x y=some (vo x y):=by
 unfold rY vo ic tc;simp only [decide_eq_true_eq];by_cases h1:x.kind<y.kind
 ·simp [h1]
 by_cases h2:y.kind<x.kind
 ·simp [h1,h2]
 by_cases h3:x.num<y.num
 ·simp [h1,h2,h3]
 by_cases h4:y.num<x.num
 ·simp [h1,h2,h3,h4]
 simp only [h1,h2,h3,h4,if_false,ne_eq,not_true_eq_false];by_cases h5:Op.bytesLess x.text y.text=true
 ·simp [h5]
 ·by_cases h6:x.text=y.text
  ·simp [h6,bMg]
  ·simp [h5,h6]
section
variable {α:Type} {c:α→α→Int}
def ltc (c:α→α→Int) (a b:α):Bool:=decide (c a b<0)
def eqc (c:α→α→Int) (a b:α):Bool:=decide (c a b=0)
def Sd (c:α→α→Int) (l:List α):Prop:=l.Pairwise fun a b=>c a b≤0
def Sim (c:α→α→Int) (L R:List α):Prop:=∀ x,L.filter (eqc c x)=R.filter (eqc c x)
theorem Sim.refl (L:List α):Sim c L L:=fun _=>rfl
theorem Sim.symm {L R:List α} (h:Sim c L R):Sim c R L:=fun x=>(h x).symm
theorem Sim.trans {L M R:List α} (h:Sim c L M) (k:Sim c M R):Sim c L R:=fun x=>(h x).trans (k x)
theorem Sim.app {A B C D:List α} (h:Sim c A B) (k:Sim c C D):Sim c (A++C) (B++D):=fun x=>by rw [WS,WS,h x,k x]
theorem Sim.mem (o:iI c) {L R:List α} (h:Sim c L R) {x:α} (hx:x∈R):x∈L:=by
 have h1:x∈R.filter (eqc c x):=XN.2 ⟨hx,by simp [eqc,o.self]⟩;rw [← h x] at h1;exact (XN.1 h1).1
theorem cIc (o:iI c) {x a b:α} (h1:c x a=0) (h2:c x b=0):c a b=0:=by
 have:=o.neg x a;have:=o.neg x b;have:=o.neg a b;have t1:=o.tr a x b (by omega) (by omega);have t2:=o.tr b x a (by omega) (by omega);omega
theorem bFh {A:List α} {x:α} (h:∀ a∈A,c x a≠0):A.filter (eqc c x)=[]:=by
 rw [List.filter_eq_nil_iff];intro a ha;simp [eqc,h a ha]
theorem Sim.swap (o:iI c) {A B:List α} (h:∀ a∈A,∀ b∈B,c b a<0):Sim c (A++B) (B++A):=fun x=>by
 rw [WS,WS];by_cases hA:∃ a∈A,c x a=0
 ·obtain ⟨a,ha,e⟩:=hA;have:B.filter (eqc c x)=[]:=bFh fun b hb e2=>by
   have:=h a ha b hb;have:=cIc o e2 e;omega
  rw [this]; simp
 ·have:A.filter (eqc c x)=[]:=bFh fun a ha e=>hA ⟨a,ha,e⟩;rw [this]; simp
theorem Sd.app {A B:List α} (hA:Sd c A) (hB:Sd c B) (h:∀ a∈A,∀ b∈B,c a b≤0):Sd c (A++B):=XO.2 ⟨hA,hB,h⟩
theorem Sd.split {A B:List α} (h:Sd c (A++B)):Sd c A∧Sd c B∧∀ a∈A,∀ b∈B,c a b≤0:=XO.1 h
theorem bJ8 (o:iI c):∀ {L R:List α},Sd c L→Sd c R→Sim c L R→L=R
 | [],[],_,_,_=>rfl
 | [],b::R,_,_,h=>by have:=h.mem o (x:=b) (by simp); simp at this
 | a::L,[],_,_,h=>by have:=h.symm.mem o (x:=a) (by simp); simp at this
 | a::L,b::R,hL,hR,h=>by
  have hL':=WT.1 hL;have hR':=WT.1 hR;have h1:c b a≤0:=by
   rcases QI.1 (h.symm.mem o (x:=a) (by simp)) with e | hm
   ·rw [e,o.self]; omega
   ·exact hR'.1 a hm
  have h2:c a b≤0:=by
   rcases QI.1 (h.mem o (x:=b) (by simp)) with e | hm
   ·rw [e,o.self]; omega
   ·exact hL'.1 b hm
  have h3:=o.neg a b;have h0:=h a;have ea:eqc c a a=true:=by simp [eqc,o.self]
  have eb:eqc c a b=true:=by simp [eqc]; omega
  rw [WU ea,WU eb] at h0;injection h0 with e _;subst e;have ht:Sim c L R:=fun x=>by
   have hx:=h x;by_cases e:eqc c x a=true
   ·rw [WU e,WU e] at hx;injection hx
   ·rw [XP e,XP e] at hx;exact hx
  rw [bJ8 o hL'.2 hR'.2 ht]
variable [Inhabited α]
theorem bJm (x:α) (l:List α):∀ n,n≤l.length→(∀ i (h:i<l.length),iL (ltc c) x l n≤i→i<n→c x l[i]<0)∧(∀ (h:iL (ltc c) x l n - 1<l.length),0<iL (ltc c) x l n→¬ c x l[iL (ltc c) x l n - 1]<0)
 | 0,_=>⟨fun i _ _ h=>absurd h (by omega),fun _ h=>by simp [iL] at h⟩
 | n+1,hn=>by
  have eb:=getElem!_pos l n (by omega);rw [iL,eb];by_cases hc:ltc c x l[n]=true
  ·rw [if_pos hc];obtain ⟨i1,i2⟩:=bJm x l n (by omega);refine ⟨fun i h h1 h2=>?_,i2⟩;by_cases e:i=n
   ·subst e; simpa [ltc] using hc
   ·exact i1 i h h1 (by omega)
  ·rw [if_neg hc];refine ⟨fun i h h1 h2=>absurd h2 (by omega),fun h _=>?_⟩;simpa [ltc] using hc
theorem cCm (o:iI c) {l:List α} (hl:Sd c l) (x:α):Sd c (pE (ltc c) x l)∧Sim c (l++[x]) (pE (ltc c) x l):=by
 have hcl:=bAi (ltc c) x l l.length;obtain ⟨c1,c2⟩:=bJm (c:=c) x l l.length (QY _);unfold pE;generalize iL (ltc c) x l l.length=k at hcl c1 c2;have hs:Sd c (l.take k++l.drop k):=by rw [QV]; exact hl
 obtain ⟨s1,s2,s3⟩:=hs.split;have hd:∀ y∈l.drop k,c x y<0:=fun y hy=>by
  obtain ⟨i,hi,rfl⟩:=WG.1 hy;rw [WL] at hi;rw [XQ];exact c1 _ (by omega) (by omega) (by omega)
 have ht:∀ y∈l.take k,c y x≤0:=fun y hy=>by
  obtain ⟨i,hi,rfl⟩:=WG.1 hy;rw [QW] at hi;rw [XR];have h2:=c2 (by omega) (by omega);have n1:=o.neg x l[k - 1];by_cases e:i=k - 1
  ·subst e; omega
  ·have:=XS.1 hl i (k - 1) (by omega) (by omega) (by omega);exact o.tr _ _ _ this (by omega)
 constructor
 ·refine s1.app (WT.2 ⟨fun y hy=>by have:=hd y hy; omega,s2⟩) fun a ha b hb=>?_;rcases QI.1 hb with rfl | hb
  ·exact ht a ha
  ·exact s3 a ha b hb
 ·have e:l++[x]=l.take k++(l.drop k++[x]):=by rw [← QQ,QV]
  rw [e];refine (Sim.refl _).app ?_;have:=Sim.swap o (A:=l.drop k) (B:=[x]) fun a ha b hb=>by
   have:b=x:=by simpa using hb
   rw [this]; exact hd a ha
  simpa using this
theorem aUi (o:iI c):∀ (Z:List α) {S:List α},Sd c S→Sd c (iY (ltc c) S Z)∧Sim c (S++Z) (iY (ltc c) S Z)
 | [],S,h=>by simpa [iY] using ⟨h,Sim.refl S⟩
 | x::Z,S,h=>by
  obtain ⟨i1,i2⟩:=cCm o h x;obtain ⟨j1,j2⟩:=aUi o Z i1;rw [iY];refine ⟨j1,Sim.trans ?_ j2⟩;have:=i2.app (Sim.refl Z);simpa using this
theorem bF7 (c:α→α→Int):∀ (Z S:List α),(iY (ltc c) S Z).length=S.length+Z.length
 | [],S=>by simp [iY]
 | x::Z,S=>by rw [iY,bF7 c Z,aSz]; simp; omega
theorem bIv {lt lt':α→α→Bool} {x:α} {l:List α} (h:∀ y∈l,lt x y=lt' x y):∀ n,n≤l.length→iL lt x l n=iL lt' x l n
 | 0,_=>rfl
 | n+1,hn=>by
  have eb:=getElem!_pos l n (by omega);rw [iL,iL,eb,h _ (QJ _),bIv h n (by omega)]
theorem bLw {lt lt':α→α→Bool} {K:α→Prop} (h:∀ a b,K a→K b→lt a b=lt' a b):∀ (Z S:List α),(∀ x∈S,K x)→(∀ x∈Z,K x)→iY lt S Z=iY lt' S Z
 | [],S,_,_=>rfl
 | x::Z,S,hS,hZ=>by
  have e:pE lt x S=pE lt' x S:=by
   unfold pE;rw [bIv (fun y hy=>h x y (hZ x (by simp)) (hS y hy)) _ (QY _)]
  rw [iY,iY,e];refine bLw h Z _ (fun y hy=>?_) fun y hy=>hZ y (QX _ hy);have:=(aNl lt' x S).subset hy;rcases QI.1 this with rfl | hm
  ·exact hZ y (by simp)
  ·exact hS y hm
end
def kc:List Bool→Row1→Row1→Int
 | [],_,_=>0
 | d::ds,a,b=>if (if d=true then - vo (a.headD ⟨0,0,[]⟩) (b.headD ⟨0,0,[]⟩) else vo (a.headD ⟨0,0,[]⟩) (b.headD ⟨0,0,[]⟩))≠0 then (if d=true then - vo (a.headD ⟨0,0,[]⟩) (b.headD ⟨0,0,[]⟩) else vo (a.headD ⟨0,0,[]⟩) (b.headD ⟨0,0,[]⟩)) else kc ds a.tail b.tail
theorem iI.flip {α:Type} {c:α→α→Int} (h:iI c):iI fun a b => - c a b:=⟨fun a b=>by have:=h.neg a b; omega,fun a b d h1 h2=>by
 have n1:=h.neg a b; have n2:=h.neg b d; have n3:=h.neg a d;have:=h.tr d b a (by omega) (by omega); omega⟩
theorem iI.comap {α β:Type} {c:α→α→Int} (h:iI c) (f:β→α):iI fun a b=>c (f a) (f b):=⟨fun a b=>h.neg _ _,fun a b d=>h.tr _ _ _⟩
theorem bFx:∀ ds,iI (kc ds)
 | []=>⟨fun _ _=>by simp [kc],fun _ _ _ _ _=>by simp [kc]⟩
 | d::ds=>by
  have t:=(bFx ds).comap List.tail;have hd:=bT5.comap (fun a:Row1=>a.headD ⟨0,0,[]⟩);cases d with
  | true=>have:=hd.flip.both t; simpa [kc] using this
  | false=>have:=hd.both t; simpa [kc] using this
theorem cL3 (x y:aA):qK x y=vo x y:=by unfold qK; rw [cE5]; rfl
theorem aVd:∀ (ds:List Bool) (a b:Row1),a.length=ds.length→b.length=ds.length→nY ds a b=decide (kc ds a b<0)
 | [],a,b,_,_=>by simp [nY,kc]
 | d::ds,[],_,h,_=>by simp at h
 | d::ds,_::_,[],_,h=>by simp at h
 | d::ds,x::a,y::b,h1,h2=>by
  have ih:=aVd ds a b (by simpa using h1) (by simpa using h2);cases d <;> by_cases e:vo x y=0 <;> simp [nY,kc,cL3,e,ih]
def kcG (ds:List Bool) (a b:aV):Int:=kc ds a.keys b.keys
theorem aBz (ds:List Bool):iI (kcG ds):=(bFx ds).comap aV.keys
theorem rZ {α:Type} {D A Z:List α} {x:α} {i:Int} (h:D=A++x::Z) (hi:i=(A.length:Int)):idx D i=some x:=by rw [h,hi,bWp]
theorem O4 {α:Type} {D A Z:List α} {x y:α} {i:Int} (h:D=A++x::Z) (hi:i=(A.length:Int)):iC D i y=some (A++y::Z):=by rw [h,hi,cJ9]
theorem bLa {P M S:List aV}:∀ (U2 V2 V1 U1:List aV),V1.length=U1.length→U2.length=V2.length→(P++V1++U2++M++U1++V2++S).length≤1000000 →
    aA3 (P.length:Int) ((P.length+V1.length+U2.length+M.length:Nat):Int) ((V1.length+U2.length:Nat):Int) (V1.length:Int) (P++V1++U2++M++U1++V2++S)=some (P++(V1++V2)++M++(U1++U2)++S)
  | [],[],V1,U1,_,_,_=>by
    rw [aA3,if_neg (by simp)]
    simp
  | [],_::_,_,_,_,h,_=>by simp at h
  | _::_,[],_,_,_,h,_=>by simp at h
  | u::U2,v::V2,V1,U1,h1,h2,hl=>by
    simp only [QC,QG] at hl h2
    rw [aA3,if_pos (by simp only [QG,decide_eq_true_eq]; omega)]
    have w1:QD .i64 ((P.length:Int)+(V1.length:Int))=((P++V1).length:Int):=by rw [cZ (by omega) (by omega)]; simp
    have w2:QD .i64 (((P.length+V1.length+(u::U2).length+M.length:Nat):Int)+(V1.length:Int))=((P++V1++(u::U2)++M++U1).length:Int):=by
      rw [cZ (by simp only [QG]; omega) (by simp only [QG]; omega)]; simp only [QC,QG]; omega
    have w2':QD .i64 (((P.length+V1.length+(u::U2).length+M.length:Nat):Int)+(V1.length:Int))=((P++V1++(v::U2)++M++U1).length:Int):=by
      rw [w2]; simp only [QC,QG]
    have i1:=rZ (D:=P++V1++(u::U2)++M++U1++(v::V2)++S) (A:=P++V1++(u::U2)++M++U1) (x:=v) (Z:=V2++S) (by simp) w2
    have i2:=rZ (D:=P++V1++(u::U2)++M++U1++(v::V2)++S) (A:=P++V1) (x:=u) (Z:=U2++(M++(U1++(v::(V2++S))))) (by simp) w1
    have s1:=O4 (y:=v) (D:=P++V1++(u::U2)++M++U1++(v::V2)++S) (A:=P++V1) (x:=u) (Z:=U2++(M++(U1++(v::(V2++S))))) (by simp) w1
    have i3:=rZ (D:=(P++V1)++v::(U2++(M++(U1++(v::(V2++S)))))) (A:=P++V1++(v::U2)++M++U1) (x:=v) (Z:=V2++S) (by simp) w2'
    have s2:=O4 (y:=u) (D:=(P++V1)++v::(U2++(M++(U1++(v::(V2++S)))))) (A:=P++V1++(v::U2)++M++U1) (x:=v) (Z:=V2++S) (by simp) w2'
    simp only [i1,i2,s1,i3,s2,QB,QA]
    have ih:=bLa (P:=P) (M:=M) (S:=S) U2 V2 (V1++[v]) (U1++[u]) (by simp [h1]) (by omega) (by simp only [QC,QG,QP]; omega)
    have e1:((P.length+(V1++[v]).length+U2.length+M.length:Nat):Int)=((P.length+V1.length+(u::U2).length+M.length:Nat):Int):=by simp only [QC,QG,QP]; omega
    have e2:(((V1++[v]).length+U2.length:Nat):Int)=((V1.length+(u::U2).length:Nat):Int):=by simp only [QC,QG,QP]; omega
    have e3:QD .i64 ((V1.length:Int)+1)=((V1++[v]).length:Int):=by rw [cZ (by omega) (by omega)]; simp
    have e4:P++(V1++[v])++U2++M++(U1++[u])++V2++S=P++V1++(v::U2)++M++U1++u::(V2++S):=by simp
    rw [e1,e2,e4] at ih
    rw [e3,ih]
    simp
theorem bBj {M:List aV} {a b n:Int} (h:U.length=V.length) (hl:(P++U++M++V++S).length≤1000000) (ha:a=(P.length:Int)) (hb:b=((P.length+U.length+M.length:Nat):Int)) (hn:n=(U.length:Int)) :
  aBa (P++U++M++V++S) a b n f=some (P++V++M++U++S):=by
 have:=bLa (P:=P) (M:=M) (S:=S) U V [] [] rfl h (by simpa using hl);rw [aBa,ha,hb,hn];simpa using this
theorem cC0:∀ (n:Nat) (P U V S:List aV) (m i j:Int),U.length+V.length≤n→0<U.length→0<V.length→(P++U++V++S).length≤1000000→m=((P.length+U.length:Nat):Int)→i=(U.length:Int)→j=(V.length:Int) →
  U7 m f i j (P++U++V++S)=some (P++V++U++S):=by
 intro n
 induction n with
 | zero=>intro P U V S m i j h hu; omega
 | succ n ih =>
  intro P U V S m i j h hu hv hl hm hi hj;simp only [QC] at hl;have wm:QD .i64 (m - i)=(P.length:Int):=by rw [cZ (by omega) (by omega)]; omega
  rw [U7,wm];by_cases hij:i=j
  ·rw [if_neg (by simp [hij])];have:=bBj (P:=P) (U:=U) (M:=[]) (V:=V) (S:=S) (f:=f) (a:=(P.length:Int)) (b:=m) (n:=i) (by omega) (by simp; omega) rfl (by simp; omega) hi;simp only [WK] at this;rw [this]; rfl
  rw [if_pos (by simpa using hij)];by_cases hlt:j<i
  ·rw [if_pos (by simpa using hlt)];obtain ⟨U1,U2,rfl,h1⟩:∃ U1 U2,U=U1++U2∧U1.length=V.length:=⟨U.take V.length,U.drop V.length,(QV ..).symm,by rw [QW]; omega⟩
   rw [QC] at *;have e0:P++(U1++U2)++V++S=P++U1++U2++V++S:=by simp
   have:=bBj (P:=P) (U:=U1) (M:=U2) (V:=V) (S:=S) (f:=f) (a:=(P.length:Int)) (b:=m) (n:=j) h1 (by simp; omega) rfl (by omega) (by omega);rw [e0,this];simp only [QB,QA];rw [cZ (n:=i - j) (by omega) (by omega)];have r:=ih (P++V) U2 U1 S m (i - j) j (by omega) (by omega) (by omega) (by simp; omega) (by simp; omega) (by omega) (by omega);rw [r]; simp
  ·rw [if_neg (by simpa using hlt)];obtain ⟨V1,V2,rfl,h1⟩:∃ V1 V2,V=V1++V2∧V2.length=U.length:=⟨V.take (V.length - U.length),V.drop (V.length - U.length),(QV ..).symm,by rw [WL]; omega⟩
   rw [QC] at *;have e0:P++U++(V1++V2)++S=P++U++V1++V2++S:=by simp
   have w1:QD .i64 (QD .i64 (m+j) - i)=m+j - i:=by rw [cZ (n:=m+j) (by omega) (by omega),cZ (by omega) (by omega)]
   have:=bBj (P:=P) (U:=U) (M:=V1) (V:=V2) (S:=S) (f:=f) (a:=(P.length:Int)) (b:=m+j - i) (n:=i) h1.symm (by simp; omega) rfl (by omega) hi;rw [w1,e0,this];simp only [QB,QA];rw [cZ (n:=j - i) (by omega) (by omega)];have e1:P++V2++V1++U++S=P++V2++V1++(U++S):=by simp
   have r:=ih P V2 V1 (U++S) m i (j - i) (by omega) (by omega) (by omega) (by simp; omega) (by omega) (by omega) (by omega);rw [e1,r]; simp
theorem bT9 {a m b:Int} (hu:0<U.length) (hv:0<V.length) (hl:(P++U++V++S).length≤1000000) (ha:a=(P.length:Int)) (hm:m=((P.length+U.length:Nat):Int)) (hb:b=((P.length+U.length+V.length:Nat):Int)) :
  aLl (P++U++V++S) a m b f=some (P++V++U++S):=by
 simp only [QC] at hl;rw [aLl,cZ (n:=m - a) (by omega) (by omega),cZ (n:=b - m) (by omega) (by omega)];exact cC0 (U.length+V.length) P U V S m _ _ (QY _) hu hv (by simp; omega) hm (by omega) (by omega)
theorem bB5 {α:Type} {c:α→α→Int} (o:iI c) {A1 A2 B1 B2 R1 R2:List α} (hA:Sd c (A1++A2)) (hB:Sd c (B1++B2)) (x1:∀ u∈A1,∀ v∈B2,c u v≤0) (x2:∀ u∈A2,∀ v∈B1,c v u<0)
  (s1:Sd c R1) (m1:Sim c (A1++B1) R1) (s2:Sd c R2) (m2:Sim c (A2++B2) R2):Sd c (R1++R2)∧Sim c (A1++A2++(B1++B2)) (R1++R2):=by
 obtain ⟨_,_,a3⟩:=hA.split;obtain ⟨_,_,b3⟩:=hB.split;constructor
 ·refine s1.app s2 fun u hu v hv=>?_;rcases QU.1 (m1.mem o hu) with h1 | h1 <;> rcases QU.1 (m2.mem o hv) with h2 | h2
  ·exact a3 u h1 v h2
  ·exact x1 u h1 v h2
  ·have:=x2 v h2 u h1; omega
  ·exact b3 u h1 v h2
 ·have e1:A1++A2++(B1++B2)=A1++((A2++B1)++B2):=by simp
  have e2:A1++((B1++A2)++B2)=(A1++B1)++(A2++B2):=by simp
  rw [e1];refine Sim.trans ((Sim.refl A1).app ((Sim.swap o x2).app (Sim.refl B2))) ?_;rw [e2];exact m1.app m2
theorem aBr {a b:Int} (h0:0≤a+b) (h1:a+b≤4000000):QD .i64 (WH (QD .u64 (QD .i64 (a+b))) (2 ^ 1))=(a+b) / 2:=by
 rw [cZ (n:=a+b) (by omega) (by omega)];have:QD .u64 (a+b)=a+b:=by rw [IntKind.wrap_u64]; omega
 rw [this,show (2:Int) ^ 1=2 by decide,Int.fdiv_eq_ediv_of_nonneg _ (by omega),cZ (by omega) (by omega)]
theorem bsearch {γ:Type} {Q:Nat→Prop} [DecidablePred Q] {L:Int→Int→Option γ} {lo hi:Nat} (hh:hi≤1000000) (mono:∀ k k':Nat,lo≤k'→k'<k→k<hi→Q k→Q k')
    (hL:∀ i j:Nat,lo≤i→j≤hi→i<j→L (i:Int) (j:Int)=if Q ((i+j) / 2) then L (((i+j) / 2+1:Nat):Int) (j:Int) else L (i:Int) (((i+j) / 2:Nat):Int)) :
    ∀ (n i j:Nat),j - i≤n→lo≤i→i≤j→j≤hi→(∀ k,lo≤k→k<i→Q k)→(∀ k,j≤k→k<hi→¬ Q k)→∃ r,lo≤r∧r≤hi∧L (i:Int) (j:Int)=L (r:Int) (r:Int)∧(∀ k,lo≤k→k<r→Q k)∧(∀ k,r≤k→k<hi→¬ Q k):=by
  intro n
  induction n with
  | zero => intro i j h h1 h2 h3 h4 h5; have e : i = j := by omega
            subst e; exact ⟨i,h1,h3,rfl,h4,h5⟩
  | succ n ih =>
    intro i j h h1 h2 h3 h4 h5
    by_cases e:i=j
    · subst e; exact ⟨i,h1,h3,rfl,h4,h5⟩
    rw [hL i j h1 h3 (by omega)]
    by_cases hq:Q ((i+j) / 2)
    · rw [if_pos hq]
      refine ih _ j (by omega) (by omega) (by omega) h3 (fun k k1 k2=>?_) h5
      by_cases e2:k=(i+j) / 2
      · rw [e2]; exact hq
      · exact mono _ k k1 (by omega) (by omega) hq
    · rw [if_neg hq]
      refine ih i _ (by omega) h1 (by omega) (by omega) h4 fun k k1 k2 hk=>?_
      by_cases e2:k=(i+j) / 2
      · rw [e2] at hk; exact hq hk
      · exact hq (mono k _ (by omega) (by omega) k2 hk)
theorem bNr {x:aV}:∀ (B Q Z:List aV) (r k:Int),(Q++x::B++Z).length≤1000000→k=(Q.length:Int)→r=((Q.length+1+B.length:Nat):Int)→O3 r k (Q++x::B++Z)=some (Q++B++x::Z)
 | [],Q,Z,r,k,hl,hk,hr=>by
  simp only [QC,QG] at hl;rw [O3,cZ (n:=r - 1) (by omega) (by omega),if_neg (by simp only [decide_eq_true_eq]; simp at hr; omega)];simp
 | b::B,Q,Z,r,k,hl,hk,hr=>by
  simp only [QC,QG] at hl hr;rw [O3,cZ (n:=r - 1) (by omega) (by omega),if_pos (by simp only [decide_eq_true_eq]; omega),cZ (n:=k+1) (by omega) (by omega)];have i1:=rZ (D:=Q++x::(b::B)++Z) (A:=Q++[x]) (x:=b) (Z:=B++Z) (i:=k+1) (by simp) (by simp; omega);have i2:=rZ (D:=Q++x::(b::B)++Z) (A:=Q) (x:=x) (Z:=b::(B++Z)) (i:=k) (by simp) hk;have s1:=O4 (y:=b) (D:=Q++x::(b::B)++Z) (A:=Q) (x:=x) (Z:=b::(B++Z)) (i:=k) (by simp) hk;have i3:=rZ (D:=Q++b::(b::(B++Z))) (A:=Q++[b]) (x:=b) (Z:=B++Z) (i:=k+1) (by simp) (by simp; omega);have s2:=O4 (y:=x) (D:=Q++b::(b::(B++Z))) (A:=Q++[b]) (x:=b) (Z:=B++Z) (i:=k+1) (by simp) (by simp; omega);simp only [i1,i2,s1,i3,s2,QB,QA];have:=bNr (x:=x) B (Q++[b]) Z r (k+1) (by simp; omega) (by simp; omega) (by simp; omega);have e:Q++[b]++x::B++Z=Q++[b]++x::(B++Z):=by simp
  rw [e] at this;rw [this]; simp
theorem bOx {y:aV}:∀ (n:Nat) (A Q Z:List aV) (i k:Int),A.length=n→(Q++A++y::Z).length≤1000000→i=(Q.length:Int)→k=((Q.length+A.length:Nat):Int)→aAq i k (Q++A++y::Z)=some (Q++y::(A++Z))
 | 0,A,Q,Z,i,k,hn,hl,hi,hk=>by
  have:A=[]:=QO hn;subst this;rw [aAq,if_neg (by simp only [decide_eq_true_eq]; simp at hk; omega)];simp
 | n+1,A,Q,Z,i,k,hn,hl,hi,hk=>by
  obtain ⟨A',u,rfl⟩:∃ A' u,A=A'++[u]:=by
   rcases List.eq_nil_or_concat A with h | ⟨A',u,h⟩
   ·rw [h] at hn; simp at hn
   ·exact ⟨A',u,by simpa using h⟩
  simp only [QC,QG,QP] at hl hn hk;rw [aAq,if_pos (by simp only [decide_eq_true_eq]; omega),cZ (n:=k - 1) (by omega) (by omega)];have i1:=rZ (D:=Q++(A'++[u])++y::Z) (A:=Q++A') (x:=u) (Z:=y::Z) (i:=k - 1) (by simp) (by simp; omega);have i2:=rZ (D:=Q++(A'++[u])++y::Z) (A:=Q++A'++[u]) (x:=y) (Z:=Z) (i:=k) (by simp) (by simp; omega);have s1:=O4 (y:=u) (D:=Q++(A'++[u])++y::Z) (A:=Q++A'++[u]) (x:=y) (Z:=Z) (i:=k) (by simp) (by simp; omega);have i3:=rZ (D:=Q++A'++[u]++u::Z) (A:=Q++A') (x:=u) (Z:=u::Z) (i:=k - 1) (by simp) (by simp; omega);have s2:=O4 (y:=y) (D:=Q++A'++[u]++u::Z) (A:=Q++A') (x:=u) (Z:=u::Z) (i:=k - 1) (by simp) (by simp; omega);simp only [i1,i2,s1,i3,s2,QB,QA];have:=bOx (y:=y) n A' Q (u::Z) i (k - 1) (by omega) (by simp; omega) hi (by omega);rw [this]; simp
def KW (x:eT) (k:aV):Prop:=k.keys.length=x.order.length
abbrev cX (x:eT):aV→aV→Int:=kcG (x.order.map (·.desc))
theorem aPv {x:eT} {a b:aV} (ho:x.order.length≤1048576) (ha:KW x a) (hb:KW x b):∃ n,tY a b x=some n∧(n<0↔cX x a b<0):=by
 obtain ⟨n,h1,h2⟩:=cD5 ho ha hb;refine ⟨n,h1,?_⟩;unfold kLt at h2;rw [aVd _ _ _ (by rw [WF]; exact ha) (by rw [WF]; exact hb)] at h2;have h3:=decide_eq_decide.1 h2;exact h3
theorem aSl {D:List aV} {i:Nat} (h:i<D.length):idx D (i:Int)=some (D[i]!):=by rw [bR h,getElem!_pos D i h]
theorem bN8 {A:List aV} {i:Nat} (h:i<A.length):Eq ((P++A++B++S)[P.length+i]!) (A[i]!):=by
 rw [WV,WV,XD (by simp only [QC]; omega),XD (by simp only [QC]; omega),XT (by omega),YD]
theorem bJn {A:List aV} {i:Nat} (h:i<B.length):Eq ((P++A++B++S)[P.length+A.length+i]!) (B[i]!):=by
 rw [WV,WV,XD (by simp only [QC]; omega),XT (by simp only [QC]; omega),QC,YD]
theorem aQ8 {A:List aV} {i:Nat} (h:i<A.length):A[i]!∈A:=by rw [getElem!_pos A i h]; exact QJ h
theorem aA7 {c:aV→aV→Int} {A:List aV} (hA:Sd c A) {i j:Nat} (hij:i<j) (hj:j<A.length):c (A[i]!) (A[j]!)≤0:=by
 rw [getElem!_pos A i (by omega),getElem!_pos A j hj];exact XS.1 hA i j (by omega) hj hij
theorem aPd {A:List aV} {k:Nat} (h:u∈A.take k):∃ i,i<k∧i<A.length∧u=A[i]!:=by
 obtain ⟨i,hi,rfl⟩:=WG.1 h;rw [QW] at hi;refine ⟨i,by omega,by omega,?_⟩;rw [XR,getElem!_pos A i (by omega)]
theorem aP6 {A:List aV} {k:Nat} (h:u∈A.drop k):∃ i,k≤i∧i<A.length∧u=A[i]!:=by
 obtain ⟨i,hi,rfl⟩:=WG.1 h;rw [WL] at hi;refine ⟨k+i,by omega,by omega,?_⟩;rw [XQ,getElem!_pos A (k+i) (by omega)]
section
variable {x:eT}
theorem bXw (ho:x.order.length≤1048576) {a m b:Int} (hl:(P++[v]++B++S).length≤1000000) (ha:a=(P.length:Int)) (hm:m=((P.length+1:Nat):Int)) (hb:b=((P.length+1+B.length:Nat):Int))
  (hB:Sd (cX x) B) (hK:∀ k∈[v]++B,KW x k):∃ R,yI a (dJ.mk x) (P++[v]++B++S) m b=some (P++R++S)∧Sd (cX x) R∧Sim (cX x) ([v]++B) R∧R.length=1+B.length:=by
 have o:=aBz (x.order.map (·.desc));simp only [QC,QK] at hl;have kv:KW x v:=hK v (by simp);have kB:∀ i,i<B.length→KW x (B[i]!):=fun i hi=>hK _ (XU _ (aQ8 hi));have bB:∀ i,i<B.length→Eq ((P++[v]++B++S)[P.length+1+i]!) (B[i]!):=fun i hi=>bJn (A:=[v]) hi;have iv:idx (P++[v]++B++S) a=some v:=rZ (A:=P) (Z:=B++S) (by simp) ha;obtain ⟨r,r1,r2,r3,r4,r5⟩:=bsearch (Q:=fun k=>cX x ((P++[v]++B++S)[k]!) v<0) (L:=fun i j=>yI a (dJ.mk x) (P++[v]++B++S) i j) (lo:=P.length+1) (hi:=P.length+1+B.length) (by omega)
  (fun k k' h1 h2 h3 hq=>by
   rw [show k=P.length+1+(k - (P.length+1)) by omega,bB _ (by omega)] at hq;rw [show k'=P.length+1+(k' - (P.length+1)) by omega,bB _ (by omega)];exact o.lt' (aA7 hB (by omega) (by omega)) hq)
  (fun i j h1 h2 h3=>by
   rw [yI,if_pos (by simpa using h3),aBr (by omega) (by omega)];have eh:((i:Int)+(j:Int)) / 2=(((i+j) / 2:Nat):Int):=by omega
   have hi:=aSl (D:=P++[v]++B++S) (i:=(i+j) / 2) (by simp; omega);have eb:=bB ((i+j) / 2 - (P.length+1)) (by omega);rw [show P.length+1+((i+j) / 2 - (P.length+1))=(i+j) / 2 by omega] at eb;obtain ⟨n,c1,c2⟩:=aPv ho (kB ((i+j) / 2 - (P.length+1)) (by omega)) kv;rw [← eb] at c1 c2;rw [eh];simp only [hi,iv,c1,QB,QA];by_cases hq:cX x ((P++[v]++B++S)[(i+j) / 2]!) v<0
   ·rw [if_pos hq,if_pos (by simpa using c2.2 hq),cZ (by omega) (by omega)]; rfl
   ·rw [if_neg hq,if_neg (by simpa using fun h=>hq (c2.1 h))])
  (B.length+1) (P.length+1) (P.length+1+B.length) (by omega) (by omega) (by omega) (by omega) (fun k h1 h2=>by omega) (fun k h1 h2=>by omega)
 rw [hm,hb,r3,yI,if_neg (by simp)];have e1:P++[v]++B++S=P++v::B.take (r - (P.length+1))++(B.drop (r - (P.length+1))++S):=by
  conv=>lhs; rw [← QV (r - (P.length+1)) B]
  simp only [QQ,WB,QN]
 have lt:(B.take (r - (P.length+1))).length=r - (P.length+1):=by rw [QW]; omega
 rw [e1,bNr (x:=v) _ P _ _ _ (by simp; omega) ha (by rw [lt]; omega)];refine ⟨B.take (r - (P.length+1))++v::B.drop (r - (P.length+1)),by simp,?_⟩;have hB':Sd (cX x) (B.take (r - (P.length+1))++B.drop (r - (P.length+1))):=by rw [QV]; exact hB
 have q1:∀ u∈B.take (r - (P.length+1)),cX x u v<0:=fun u hu=>by
  obtain ⟨i,i1,i2,rfl⟩:=aPd hu;have:=r4 (P.length+1+i) (by omega) (by omega)
  rwa [bB i i2] at this
 have q2:∀ u∈B.drop (r - (P.length+1)),cX x v u≤0:=fun u hu=>by
  obtain ⟨i,i1,i2,rfl⟩:=aP6 hu;have:=r5 (P.length+1+i) (by omega) (by omega);rw [bB i i2] at this;have:cX x (B[i]!) v = - cX x v (B[i]!):=o.neg v (B[i]!);omega
 have M:=bB5 o (A1:=[]) (A2:=[v]) (B1:=B.take (r - (P.length+1))) (B2:=B.drop (r - (P.length+1))) (R1:=B.take (r - (P.length+1))) (R2:=v::B.drop (r - (P.length+1))) (by simp [Sd]) hB' (by simp) (fun u hu w hw=>by
  have:u=v:=by simpa using hu
  rw [this]; exact q1 w hw) hB'.split.1 (Sim.refl _) (WT.2 ⟨q2,hB'.split.2.1⟩) (Sim.refl _)
 rw [QV] at M;exact ⟨M.1,M.2,by simp; omega⟩
theorem bQl (ho:x.order.length≤1048576) {A:List aV} {a m:Int} (hl:(P++A++[v]++S).length≤1000000) (ha:a=(P.length:Int)) (hm:m=((P.length+A.length:Nat):Int))
  (hA:Sd (cX x) A) (hK:∀ k∈A++[v],KW x k):∃ R,sI m (dJ.mk x) (P++A++[v]++S) a m=some (P++R++S)∧Sd (cX x) R∧Sim (cX x) (A++[v]) R∧R.length=A.length+1:=by
 have o:=aBz (x.order.map (·.desc));simp only [QC,QK] at hl;have kv:KW x v:=hK v (by simp);have kA:∀ i,i<A.length→KW x (A[i]!):=fun i hi=>hK _ (XV _ (aQ8 hi));have bA:∀ i,i<A.length→Eq ((P++A++[v]++S)[P.length+i]!) (A[i]!):=fun i hi=>bN8 hi;have iv:idx (P++A++[v]++S) m=some v:=rZ (A:=P++A) (Z:=S) (by simp) (by rw [hm]; simp);obtain ⟨r,r1,r2,r3,r4,r5⟩:=bsearch (Q:=fun k=>¬ cX x v ((P++A++[v]++S)[k]!)<0) (L:=fun i j=>sI m (dJ.mk x) (P++A++[v]++S) i j) (lo:=P.length) (hi:=P.length+A.length) (by omega)
  (fun k k' h1 h2 h3 hq hq2=>by
   rw [show k=P.length+(k - P.length) by omega,bA _ (by omega)] at hq;rw [show k'=P.length+(k' - P.length) by omega,bA _ (by omega)] at hq2;exact hq (o.lt hq2 (aA7 hA (by omega) (by omega))))
  (fun i j h1 h2 h3=>by
   rw [sI,if_pos (by simpa using h3),aBr (by omega) (by omega)];have eh:((i:Int)+(j:Int)) / 2=(((i+j) / 2:Nat):Int):=by omega
   have hi:=aSl (D:=P++A++[v]++S) (i:=(i+j) / 2) (by simp; omega);have eb:=bA ((i+j) / 2 - P.length) (by omega);rw [show P.length+((i+j) / 2 - P.length)=(i+j) / 2 by omega] at eb;obtain ⟨n,c1,c2⟩:=aPv ho kv (kA ((i+j) / 2 - P.length) (by omega));rw [← eb] at c1 c2;rw [eh];simp only [hi,iv,c1,QB,QA];by_cases hq:cX x v ((P++A++[v]++S)[(i+j) / 2]!)<0
   ·have nq:¬ ¬ (cX x v ((P++A++[v]++S)[(i+j) / 2]!)<0):=fun h=>h hq;rw [if_neg nq,if_neg (by simpa using c2.2 hq)]
   ·rw [if_pos hq,if_pos (by simpa using fun h=>hq (c2.1 h)),cZ (by omega) (by omega)]; rfl)
  (A.length+1) P.length (P.length+A.length) (by omega) (by omega) (by omega) (by omega) (fun k h1 h2=>by omega) (fun k h1 h2=>by omega)
 have lt:(A.take (r - P.length)).length=r - P.length:=by rw [QW]; omega
 have ld:(A.drop (r - P.length)).length=A.length - (r - P.length):=WL ..;have e1:P++A++[v]++S=(P++A.take (r - P.length))++A.drop (r - P.length)++v::S:=by
  conv=>lhs; rw [← QV (r - P.length) A]
  simp only [QQ,WB,QN]
 have L:=bOx (y:=v) _ (A.drop (r - P.length)) (P++A.take (r - P.length)) S (r:Int) m rfl (by simp; omega) (by rw [QC,lt]; omega) (by rw [hm,QC,lt,ld]; omega);have fin:sI m (dJ.mk x) (P++A++[v]++S) a m=some (P++(A.take (r - P.length)++[v]++A.drop (r - P.length))++S):=by
  have r3':sI m (dJ.mk x) (P++A++[v]++S) a m=sI m (dJ.mk x) (P++A++[v]++S) (r:Int) (r:Int):=by rw [← r3,ha,hm]
  rw [r3',sI,if_neg (by simp),e1,L];simp
 refine ⟨_,fin,?_⟩;have hA':Sd (cX x) (A.take (r - P.length)++A.drop (r - P.length)):=by rw [QV]; exact hA
 have q1:∀ u∈A.take (r - P.length),cX x u v≤0:=fun u hu=>by
  obtain ⟨i,i1,i2,rfl⟩:=aPd hu;have:=r4 (P.length+i) (by omega) (by omega);rw [bA i i2] at this;have:cX x (A[i]!) v = - cX x v (A[i]!):=o.neg v (A[i]!);omega
 have q2:∀ u∈A.drop (r - P.length),cX x v u<0:=fun u hu=>by
  obtain ⟨i,i1,i2,rfl⟩:=aP6 hu;have:=r5 (P.length+i) (by omega) (by omega);rw [bA i i2] at this;omega
 have M:=bB5 o (A1:=A.take (r - P.length)) (A2:=A.drop (r - P.length)) (B1:=[v]) (B2:=[]) (R1:=A.take (r - P.length)++[v]) (R2:=A.drop (r - P.length)) hA' (by simp [Sd]) (by simp) (fun u hu w hw=>by
  have:w=v:=by simpa using hw
  rw [this]; exact q2 u hu) (hA'.split.1.app (by simp [Sd]) fun u hu w hw=>by
   have:w=v:=by simpa using hw
   rw [this]; exact q1 u hu) (Sim.refl _) hA'.split.2.1 (by simpa using Sim.refl _)
 rw [QV] at M;exact ⟨M.1,by simpa using M.2,by simp; omega⟩
end
theorem bT6 {α:Type} {i:Lean.Order.CCPO α} {f:α→α} {hf:@Lean.Order.monotone α (@Lean.Order.CCPO.toPartialOrder α i) α (@Lean.Order.CCPO.toPartialOrder α i) f}:@Lean.Order.fix α i f hf=f (@Lean.Order.fix α i f hf):=@Lean.Order.fix_eq α i f hf
theorem j7d (p3:Int) (p4:dJ) (p1 p2 x:Int) (b:List aV) (mid e:Int) (h1:QD .i64 (WH (QD .u64 (QD .i64 (p1+p3))) (2 ^ 1))=mid) (h2:QD .i64 (QD .i64 (mid+p2) - x)=e) :
  wZ p3 p4 p1 p2 x b=if (if decide (mid<e)=true then decide (e<p3) else false)=true then (xJ b mid e p3 p4)>>=fun y=>some y else some b:=by
 subst h2 h1;delta wZ xJ;delta wZ.mutual;exact congrArg (fun (z:(Int→Int→Int→Int→List aV→Option (List aV)) ×' (List aV→Int→Int→Int→Option (List aV)) ×' (Int→Int→Int→List aV→Int→Int→Option (List aV)) ×' (Int→Int→Int→List aV→Int→Int→Option (List aV)) ×' (Int→Int→Int→Int→List aV→Option (List aV)))=>z.1 p3 p1 p2 x b) bT6
section
variable {x:eT}
theorem bIe {c:aV→aV→Int} {A:List aV} (hA:Sd c A) (hB:Sd c B) (h:A=[]∨B=[]):Sd c (A++B):=by
 rcases h with rfl | rfl
 ·simpa using hB
 ·simpa using hA
def SMn (x : eT) (n : Nat) : Prop := ∀ (P A B S : List aV) (a m b : Int), A.length + B.length ≤ n → 0 < A.length → 0 < B.length → (P ++ A ++ B ++ S).length ≤ 1000000 → a = (P.length : Int) → m = ((P.length + A.length : Nat) : Int) → b = ((P.length + A.length + B.length : Nat) : Int) →
    Sd (cX x) A→Sd (cX x) B→(∀ k∈A++B,KW x k)→∃ R,xJ (P++A++B++S) a m b (dJ.mk x)=some (P++R++S)∧Sd (cX x) R∧Sim (cX x) (A++B) R∧R.length=A.length+B.length
theorem cJc {A2:List aV} {r e:Nat} (ih:SMn x n) (hp:P.length=pn) (hm1:2 * mid≤pn+bn) (hm2:pn+bn≤2 * mid+1) (lA1:A1.length+pn=r) (lA2:A2.length+r=mn) (lB1:B1.length+mn=e) (lB2:B2.length+e=bn) (he:e+r=mid+mn) (hn:bn≤pn+n+1) (h2:pn+2≤bn)
  (hl:P.length+A1.length+A2.length+B1.length+B2.length+S.length≤1000000) (hA':Sd (cX x) (A1++A2)) (hB':Sd (cX x) (B1++B2)) (kk:∀ k∈A1++A2++(B1++B2),KW x k):∀ R1:List aV,R1.length+pn=mid→∃ R2,wZ (bn:Int) (dJ.mk x) (pn:Int) (mn:Int) (r:Int) (P++R1++A2++B2++S)=some (P++R1++R2++S)∧Sd (cX x) R2∧Sim (cX x) (A2++B2) R2∧R2.length=A2.length+B2.length:=by
 have hab:QD .i64 (WH (QD .u64 (QD .i64 ((pn:Int)+(bn:Int)))) (2 ^ 1))=(mid:Int):=by rw [aBr (by omega) (by omega)]; omega
 have we:QD .i64 (QD .i64 ((mid:Int)+(mn:Int)) - (r:Int))=(e:Int):=by
  rw [cZ (n:=(mid:Int)+(mn:Int)) (by omega) (by omega),cZ (by omega) (by omega)]; omega
 intro R1 hR;rw [j7d (bn:Int) (dJ.mk x) (pn:Int) (mn:Int) (r:Int) _ (mid:Int) (e:Int) hab we];by_cases q1:mid<e∧e<bn
 ·obtain ⟨q1,q2⟩:=q1;rw [if_pos (by simp only [QC,decide_eq_true_eq,QR,QF,QS]; omega)];obtain ⟨R2,s1,s2,s3,s4⟩:=ih (P++R1) A2 B2 S (mid:Int) (e:Int) (bn:Int) (by omega) (by omega) (by omega) (by simp only [QC,decide_eq_true_eq,QR,QF,QS]; omega) (by simp only [QC,decide_eq_true_eq,QR,QF,QS]; omega) (by simp only [QC,decide_eq_true_eq,QR,QF,QS]; omega) (by simp only [QC,decide_eq_true_eq,QR,QF,QS]; omega) hA'.split.2.1 hB'.split.2.1 (fun k hk=>kk k (by
   rcases QU.1 hk with h | h <;> simp [h]))
  rw [s1];exact ⟨R2,rfl,s2,s3,s4⟩
 ·rw [if_neg (by simp only [QC,decide_eq_true_eq,QR,QF,QS]; omega)];refine ⟨A2++B2,by simp,bIe hA'.split.2.1 hB'.split.2.1 ?_,Sim.refl _,by simp⟩;by_cases h0:A2.length=0
  ·exact .inl (QO h0)
  ·exact .inr (QO (by omega))
theorem bSm {A2:List aV} {r e:Nat} (ih:SMn x n) (hp:P.length=pn) (hm1:2 * mid≤pn+bn) (hm2:pn+bn≤2 * mid+1) (lA1:A1.length+pn=r) (lA2:A2.length+r=mn) (lB1:B1.length+mn=e) (lB2:B2.length+e=bn) (he:e+r=mid+mn) (hn:bn≤pn+n+1) (h2:pn+2≤bn)
  (hl:P.length+A1.length+A2.length+B1.length+B2.length+S.length≤1000000) (hA':Sd (cX x) (A1++A2)) (hB':Sd (cX x) (B1++B2)) (kk:∀ k∈A1++A2++(B1++B2),KW x k):∃ R1,aCv (pn:Int) (bn:Int) (dJ.mk x) (r:Int) (mn:Int) (P++A1++B1++A2++B2++S)=wZ (bn:Int) (dJ.mk x) (pn:Int) (mn:Int) (r:Int) (P++R1++A2++B2++S)∧Sd (cX x) R1∧Sim (cX x) (A1++B1) R1∧R1.length=A1.length+B1.length:=by
 have hab:QD .i64 (WH (QD .u64 (QD .i64 ((pn:Int)+(bn:Int)))) (2 ^ 1))=(mid:Int):=by rw [aBr (by omega) (by omega)]; omega
 have we:QD .i64 (QD .i64 ((mid:Int)+(mn:Int)) - (r:Int))=(e:Int):=by
  rw [cZ (n:=(mid:Int)+(mn:Int)) (by omega) (by omega),cZ (by omega) (by omega)]; omega
 rw [aCv];simp only [hab,QB,QA];by_cases q1:pn<r∧r<mid
 ·obtain ⟨q1,q2⟩:=q1;rw [if_pos (by simp only [QC,decide_eq_true_eq,QR,QF,QS]; omega)];obtain ⟨R1,s1,s2,s3,s4⟩:=ih P A1 B1 (A2++B2++S) (pn:Int) (r:Int) (mid:Int) (by omega) (by omega) (by omega) (by simp only [QC,decide_eq_true_eq,QR,QF,QS]; omega) (by omega) (by omega) (by omega) hA'.split.1 hB'.split.1 (fun k hk=>kk k (by
   rcases QU.1 hk with h | h <;> simp [h]))
  have e1:P++A1++B1++A2++B2++S=P++A1++B1++(A2++B2++S):=by simp
  have e2:P++R1++(A2++B2++S)=P++R1++A2++B2++S:=by simp
  rw [e1,s1,e2];exact ⟨R1,rfl,s2,s3,s4⟩
 ·rw [if_neg (by simp only [QC,decide_eq_true_eq,QR,QF,QS]; omega)];have e1:P++A1++B1++A2++B2++S=P++(A1++B1)++A2++B2++S:=by simp
  rw [e1];refine ⟨A1++B1,rfl,bIe hA'.split.1 hB'.split.1 ?_,Sim.refl _,by simp⟩;by_cases h0:A1.length=0
  ·exact .inl (QO h0)
  ·exact .inr (QO (by omega))
theorem cM2 {A2:List aV} {r e:Nat} (ih:SMn x n) (hp:P.length=pn) (hm1:2 * mid≤pn+bn) (hm2:pn+bn≤2 * mid+1) (lA1:A1.length+pn=r) (lA2:A2.length+r=mn) (lB1:B1.length+mn=e) (lB2:B2.length+e=bn) (he:e+r=mid+mn) (hn:bn≤pn+n+1) (h2:pn+2≤bn)
  (hl:P.length+A1.length+A2.length+B1.length+B2.length+S.length≤1000000) (hA':Sd (cX x) (A1++A2)) (hB':Sd (cX x) (B1++B2)) (kk:∀ k∈A1++A2++(B1++B2),KW x k)
  (x1:∀ u∈A1,∀ v∈B2,cX x u v≤0) (x2:∀ u∈A2,∀ v∈B1,cX x v u<0) :
  ∃ R,xA (pn:Int) (mn:Int) (bn:Int) (dJ.mk x) (P++A1++A2++B1++B2++S) (r:Int) (r:Int)=some (P++R++S)∧Sd (cX x) R∧Sim (cX x) (A1++A2++(B1++B2)) R∧R.length=A1.length+A2.length+(B1.length+B2.length):=by
 have o:iI (cX x):=aBz (x.order.map (·.desc));have hab:QD .i64 (WH (QD .u64 (QD .i64 ((pn:Int)+(bn:Int)))) (2 ^ 1))=(mid:Int):=by rw [aBr (by omega) (by omega)]; omega
 have we:QD .i64 (QD .i64 ((mid:Int)+(mn:Int)) - (r:Int))=(e:Int):=by
  rw [cZ (n:=(mid:Int)+(mn:Int)) (by omega) (by omega),cZ (by omega) (by omega)]; omega
 rw [xA,if_neg (by simp)];simp only [hab,we];obtain ⟨R1,t1,t2,t3,t4⟩:=bSm ih hp hm1 hm2 lA1 lA2 lB1 lB2 he hn h2 hl hA' hB' kk;obtain ⟨R2,u1,u2,u3,u4⟩:=cJc ih hp hm1 hm2 lA1 lA2 lB1 lB2 he hn h2 hl hA' hB' kk R1 (by omega);have M:=bB5 o hA' hB' x1 x2 t2 t3 u2 u3;have fin:aCv (pn:Int) (bn:Int) (dJ.mk x) (r:Int) (mn:Int) (P++A1++B1++A2++B2++S)=some (P++(R1++R2)++S):=by rw [t1,u1]; simp
 refine ⟨R1++R2,?_,M.1,M.2,by simp; omega⟩;simp only [QB,QA];by_cases q1:r<mn∧mn<e
 ·obtain ⟨q1,q2⟩:=q1;rw [if_pos (by simp only [QC,decide_eq_true_eq,QR,QF,QS]; omega)];have rot:=bT9 (f:=dJ.mk x) (P:=P++A1) (U:=A2) (V:=B1) (S:=B2++S) (a:=(r:Int)) (m:=(mn:Int)) (b:=(e:Int)) (by omega) (by omega) (by simp only [QC,decide_eq_true_eq,QR,QF,QS]; omega) (by simp only [QC,decide_eq_true_eq,QR,QF,QS]; omega) (by simp only [QC,decide_eq_true_eq,QR,QF,QS]; omega) (by simp only [QC,decide_eq_true_eq,QR,QF,QS]; omega);have e1:P++A1++A2++B1++B2++S=P++A1++A2++B1++(B2++S):=by simp
  have e2:P++A1++B1++A2++(B2++S)=P++A1++B1++A2++B2++S:=by simp
  rw [e1,rot,e2];exact fin
 ·rw [if_neg (by simp only [QC,decide_eq_true_eq,QR,QF,QS]; omega)];have e1:P++A1++A2++B1++B2++S=P++A1++B1++A2++B2++S:=by
   by_cases h0:A2.length=0
   ·have:=QO h0; subst this; simp
   ·have:=QO (l:=B1) (by omega); subst this; simp
  rw [e1];exact fin
theorem bK7 (ho:x.order.length≤1048576):∀ n:Nat,SMn x n:=by
 intro n
 induction n with
 | zero=>intro P A B S a m b h h1; omega
 | succ n ih =>
  intro P A B S a m b hn hA0 hB0 hl ha hm hb hA hB hK;have hl0:=hl;simp only [QC] at hl;have o:iI (cX x):=aBz (x.order.map (·.desc));rw [xJ,cZ (n:=m - a) (by omega) (by omega),cZ (n:=b - m) (by omega) (by omega)];by_cases a1:A.length=1
  ·obtain ⟨v,rfl⟩:=XW.1 a1;rw [if_pos (by simp only [decide_eq_true_eq]; simp at hm; omega)];obtain ⟨R,r1,r2,r3,r4⟩:=bXw ho (P:=P) (B:=B) (S:=S) (v:=v) (a:=a) (m:=m) (b:=b) hl0 ha (by simpa using hm) (by simpa using hb) hB hK;exact ⟨R,r1,r2,r3,by simp; omega⟩
  rw [if_neg (by simp only [decide_eq_true_eq]; omega)];by_cases b1:B.length=1
  ·obtain ⟨v,rfl⟩:=XW.1 b1;rw [if_pos (by simp only [decide_eq_true_eq]; simp at hb; omega)];obtain ⟨R,r1,r2,r3,r4⟩:=bQl ho (P:=P) (A:=A) (S:=S) (v:=v) (a:=a) (m:=m) hl0 ha hm hA hK;exact ⟨R,r1,r2,r3,by simp; omega⟩
  rw [if_neg (by simp only [decide_eq_true_eq]; omega)];obtain ⟨pn,hpn⟩:∃ k,k=P.length:=⟨_,rfl⟩
  obtain ⟨mn,hmn⟩:∃ k,k=pn+A.length:=⟨_,rfl⟩
  obtain ⟨bn,hbn⟩:∃ k,k=mn+B.length:=⟨_,rfl⟩
  obtain ⟨mid,hmid⟩:∃ k,k=(pn+bn) / 2:=⟨_,rfl⟩
  have ha:a=(pn:Int):=by omega
  have hm:m=(mn:Int):=by omega
  have hb:b=(bn:Int):=by omega
  subst ha hm hb;have hab:QD .i64 (WH (QD .u64 (QD .i64 ((pn:Int)+(bn:Int)))) (2 ^ 1))=(mid:Int):=by rw [aBr (by omega) (by omega)]; omega
  have kA:∀ i,i<A.length→KW x (A[i]!):=fun i hi=>hK _ (XV _ (aQ8 hi));have kB:∀ i,i<B.length→KW x (B[i]!):=fun i hi=>hK _ (XU _ (aQ8 hi));have bA:∀ k,pn≤k→k<mn→Eq ((P++A++B++S)[k]!) (A[k - pn]!):=fun k h1 h2=>by
   have:=bN8 (P:=P) (A:=A) (B:=B) (S:=S) (i:=k - pn) (by omega)
   rwa [show P.length+(k - pn)=k by omega] at this
  have bB:∀ k,mn≤k→k<bn→Eq ((P++A++B++S)[k]!) (B[k - mn]!):=fun k h1 h2=>by
   have:=bJn (P:=P) (A:=A) (B:=B) (S:=S) (i:=k - mn) (by omega)
   rwa [show P.length+A.length+(k - mn)=k by omega] at this
  -- from the place where the halves are told
  have MAIN:∀ lo hi:Nat,pn≤lo→lo≤hi→hi≤mn→hi≤mid→mid+mn≤lo+bn→(lo=pn∨mid+mn=lo+bn)→(hi=mn∨hi=mid) →
    ∃ R,xA (pn:Int) (mn:Int) (bn:Int) (dJ.mk x) (P++A++B++S) (lo:Int) (hi:Int)=some (P++R++S)∧Sd (cX x) R∧Sim (cX x) (A++B) R∧R.length=A.length+B.length:=by
   intro lo hi g1 g2 g3 g4 g5 g6 g7;obtain ⟨r,r1,r2,r3,r4,r5⟩:=bsearch (Q:=fun k=>¬ cX x ((P++A++B++S)[mid+mn - 1 - k]!) ((P++A++B++S)[k]!)<0) (L:=fun i j=>xA (pn:Int) (mn:Int) (bn:Int) (dJ.mk x) (P++A++B++S) i j) (lo:=lo) (hi:=hi) (by omega)
    (fun k k' h1 h2 h3 hq hq2=>by
     rw [bA k (by omega) (by omega),bB (mid+mn - 1 - k) (by omega) (by omega)] at hq;rw [bA k' (by omega) (by omega),bB (mid+mn - 1 - k') (by omega) (by omega)] at hq2;have t1:cX x (A[k' - pn]!) (A[k - pn]!)≤0:=aA7 hA (by omega) (by omega);have t2:cX x (B[mid+mn - 1 - k - mn]!) (B[mid+mn - 1 - k' - mn]!)≤0:=aA7 hB (by omega) (by omega);exact hq (o.lt (o.lt' t2 hq2) t1))
    (fun i j h1 h2 h3=>by
     have hij:QD .i64 (WH (QD .u64 (QD .i64 ((i:Int)+(j:Int)))) (2 ^ 1))=(((i+j) / 2:Nat):Int):=by rw [aBr (by omega) (by omega)]; omega
     have w:QD .i64 (QD .i64 (QD .i64 ((mid:Int)+(mn:Int)) - 1) - (((i+j) / 2:Nat):Int))=((mid+mn - 1 - (i+j) / 2:Nat):Int):=by
      rw [cZ (n:=(mid:Int)+(mn:Int)) (by omega) (by omega),cZ (n:=(mid:Int)+(mn:Int) - 1) (by omega) (by omega),cZ (by omega) (by omega)]; omega
     rw [xA,if_pos (by simpa using h3)];simp only [hab,hij,w];have i1:=aSl (D:=P++A++B++S) (i:=(i+j) / 2) (by simp only [QC]; omega);have i2:=aSl (D:=P++A++B++S) (i:=mid+mn - 1 - (i+j) / 2) (by simp only [QC]; omega);obtain ⟨q,c1,c2⟩:=aPv ho (kB (mid+mn - 1 - (i+j) / 2 - mn) (by omega)) (kA ((i+j) / 2 - pn) (by omega));rw [← bB (mid+mn - 1 - (i+j) / 2) (by omega) (by omega),← bA ((i+j) / 2) (by omega) (by omega)] at c1 c2;simp only [i1,i2,c1,QB,QA];by_cases hq:cX x ((P++A++B++S)[mid+mn - 1 - (i+j) / 2]!) ((P++A++B++S)[(i+j) / 2]!)<0
     ·have nq:¬ ¬ (cX x ((P++A++B++S)[mid+mn - 1 - (i+j) / 2]!) ((P++A++B++S)[(i+j) / 2]!)<0):=fun h=>h hq;rw [if_neg nq,if_neg (by simpa using c2.2 hq)]
     ·rw [if_pos hq,if_pos (by simpa using fun h=>hq (c2.1 h)),cZ (by omega) (by omega)]; rfl)
    (hi+1) lo hi (by omega) (by omega) (by omega) (by omega) (fun k h1 h2=>by omega) (fun k h1 h2=>by omega)
   rw [r3];obtain ⟨e,he⟩:∃ e,e=mid+mn - r:=⟨_,rfl⟩
   have lA1:(A.take (r - pn)).length=r - pn:=by rw [QW]; omega
   have lA2:(A.drop (r - pn)).length=mn - r:=by rw [WL]; omega
   have lB1:(B.take (e - mn)).length=e - mn:=by rw [QW]; omega
   have lB2:(B.drop (e - mn)).length=bn - e:=by rw [WL]; omega
   have eA:=QV (r - pn) A;have eB:=QV (e - mn) B;have hA':Sd (cX x) (A.take (r - pn)++A.drop (r - pn)):=by rw [eA]; exact hA
   have hB':Sd (cX x) (B.take (e - mn)++B.drop (e - mn)):=by rw [eB]; exact hB
   have x1:∀ u∈A.take (r - pn),∀ v∈B.drop (e - mn),cX x u v≤0:=fun u hu v hv=>by
    obtain ⟨i,i1,i2,rfl⟩:=aPd hu;obtain ⟨j,j1,j2,rfl⟩:=aP6 hv;by_cases hr:r=lo
    ·rcases g6 with g | g <;> omega
    have q:=r4 (r - 1) (by omega) (by omega);rw [bA (r - 1) (by omega) (by omega),bB (mid+mn - 1 - (r - 1)) (by omega) (by omega)] at q;have n1:cX x (B[mid+mn - 1 - (r - 1) - mn]!) (A[r - 1 - pn]!) = - cX x (A[r - 1 - pn]!) (B[mid+mn - 1 - (r - 1) - mn]!):=o.neg _ _;have t1:cX x (A[i]!) (A[r - 1 - pn]!)≤0:=by
     by_cases e:i=r - 1 - pn
     ·rw [e,o.self]; omega
     ·exact aA7 hA (by omega) (by omega)
    have t2:cX x (B[mid+mn - 1 - (r - 1) - mn]!) (B[j]!)≤0:=by
     by_cases e:mid+mn - 1 - (r - 1) - mn=j
     ·rw [e,o.self]; omega
     ·exact aA7 hB (by omega) (by omega)
    exact o.tr _ _ _ (o.tr _ _ _ t1 (by omega)) t2
   have x2:∀ u∈A.drop (r - pn),∀ v∈B.take (e - mn),cX x v u<0:=fun u hu v hv=>by
    obtain ⟨i,i1,i2,rfl⟩:=aP6 hu;obtain ⟨j,j1,j2,rfl⟩:=aPd hv;by_cases hr:r=hi
    ·rcases g7 with g | g <;> omega
    have q:=r5 r (by omega) (by omega);rw [bA r (by omega) (by omega),bB (mid+mn - 1 - r) (by omega) (by omega)] at q;have q:cX x (B[mid+mn - 1 - r - mn]!) (A[r - pn]!)<0:=by omega
    have t1:cX x (A[r - pn]!) (A[i]!)≤0:=by
     by_cases e:r - pn=i
     ·rw [e,o.self]; omega
     ·exact aA7 hA (by omega) (by omega)
    have t2:cX x (B[j]!) (B[mid+mn - 1 - r - mn]!)≤0:=by
     by_cases e:j=mid+mn - 1 - r - mn
     ·rw [e,o.self]; omega
     ·exact aA7 hB (by omega) (by omega)
    exact o.lt (o.lt' t2 q) t1
   have kk:∀ k∈A.take (r - pn)++A.drop (r - pn)++(B.take (e - mn)++B.drop (e - mn)),KW x k:=by rw [eA,eB]; exact hK
   have eD:P++A++B++S=P++A.take (r - pn)++A.drop (r - pn)++B.take (e - mn)++B.drop (e - mn)++S:=by
    conv=>lhs; rw [← eA,← eB]
    simp only [QQ]
   rw [eD];have we:QD .i64 (QD .i64 ((mid:Int)+(mn:Int)) - (r:Int))=(e:Int):=by
    rw [cZ (n:=(mid:Int)+(mn:Int)) (by omega) (by omega),cZ (by omega) (by omega)]; omega
   clear we;obtain ⟨R,s1,s2,s3,s4⟩:=cM2 (x:=x) (P:=P) (S:=S) (pn:=pn) (mid:=mid) (mn:=mn) (bn:=bn) (r:=r) (e:=e) (n:=n) ih hpn.symm (by omega) (by omega) (by omega) (by omega) (by omega) (by omega) (by omega) (by omega) (by omega) (by rw [lA1,lA2,lB1,lB2]; omega) hA' hB' kk x1 x2;rw [eA,eB] at s3;exact ⟨R,s1,s2,s3,by omega⟩
  by_cases h1:mid<mn
  ·rw [hab,if_pos (by simpa using h1),aGc];have w:QD .i64 (QD .i64 ((mid:Int)+(mn:Int)) - (bn:Int))=((mid+mn - bn:Nat):Int):=by
    rw [cZ (n:=(mid:Int)+(mn:Int)) (by omega) (by omega),cZ (by omega) (by omega)]; omega
   rw [w];exact MAIN _ _ (by omega) (by omega) (by omega) (by omega) (by omega) (.inr (by omega)) (.inr rfl)
  ·rw [hab,if_neg (by simpa using h1),aGc];exact MAIN _ _ (by omega) (by omega) (by omega) (by omega) (by omega) (.inl rfl) (.inl rfl)
end
section
variable {x:eT}
theorem cD4 (ho:x.order.length≤1048576) (p2 x8:Int) (v:aV) (hv:KW x v) (l:List aV) (hK:∀ k∈l,KW x k) (hl:(P++(l++v::C)).length≤1000000):∀ k,k≤l.length →
  Y3 (P.length:Int) p2 (dJ.mk x) x8 ((P.length+k:Nat):Int) (P++(l.take k++v::(l.drop k++C)))=zK (P.length:Int) p2 (dJ.mk x) (QD .i64 (x8+1)) (P++(l.take (iL (ltc (cX x)) v l k)++v::(l.drop (iL (ltc (cX x)) v l k)++C))):=by
 simp only [QC,QG] at hl;intro k
 induction k with
 | zero =>
  intro _;rw [Y3];simp [iL]
 | succ k ih =>
  intro hk;have hk':k<l.length:=by omega
  have et:l.take (k+1)=l.take k++[l[k]]:=by rw [List.take_add_one,List.getElem?_eq_getElem hk']; rfl
  have ed:l.drop k=l[k]::l.drop (k+1):=QL hk';have lk:(l.take k).length=k:=by rw [QW]; omega
  have hp:decide ((P.length:Int)<((P.length+(k+1):Nat):Int))=true:=by rw [decide_eq_true_eq]; omega
  have ew:QD .i64 (((P.length+(k+1):Nat):Int) - 1)=((P.length+k:Nat):Int):=by rw [cZ (by omega) (by omega)]; omega
  have i1:=rZ (D:=P++((l.take k++[l[k]])++v::(l.drop (k+1)++C))) (A:=P++l.take k++[l[k]]) (x:=v) (Z:=l.drop (k+1)++C) (i:=((P.length+(k+1):Nat):Int)) (by simp only [QQ,WB,QN]) (by simp only [QC,QK,lk]; omega);have i2:=rZ (D:=P++((l.take k++[l[k]])++v::(l.drop (k+1)++C))) (A:=P++l.take k) (x:=l[k]) (Z:=v::(l.drop (k+1)++C)) (i:=((P.length+k:Nat):Int)) (by simp only [QQ,WB,QN]) (by simp only [QC,lk]);have s1:=O4 (y:=l[k]) (D:=P++((l.take k++[l[k]])++v::(l.drop (k+1)++C))) (A:=P++l.take k++[l[k]]) (x:=v) (Z:=l.drop (k+1)++C) (i:=((P.length+(k+1):Nat):Int)) (by simp only [QQ,WB,QN]) (by simp only [QC,QK,lk]; omega);have i3:=rZ (D:=P++l.take k++[l[k]]++l[k]::(l.drop (k+1)++C)) (A:=P++l.take k) (x:=l[k]) (Z:=l[k]::(l.drop (k+1)++C)) (i:=((P.length+k:Nat):Int)) (by simp only [QQ,WB,QN]) (by simp only [QC,lk]);have s2:=O4 (y:=v) (D:=P++l.take k++[l[k]]++l[k]::(l.drop (k+1)++C)) (A:=P++l.take k) (x:=l[k]) (Z:=l[k]::(l.drop (k+1)++C)) (i:=((P.length+k:Nat):Int)) (by simp only [QQ,WB,QN]) (by simp only [QC,lk]);obtain ⟨m,m1,m2⟩:=aPv ho hv (hK l[k] (QJ hk'));have eb:=getElem!_pos l k hk';rw [Y3,et];simp only [hp,beq_self_eq_true,WA,if_true,ew,i1,i2,QB,QA,m1];rw [iL,eb];by_cases hr:cX x v l[k]<0
  ·rw [if_pos (by simpa using m2.2 hr),if_pos (by simpa [ltc] using hr)];simp only [s1,i3,s2,QA];rw [← ih (by omega),ed];simp only [QQ,WB,QN]
  ·rw [if_neg (by simpa using fun h=>hr (m2.1 h)),if_neg (by simpa [ltc] using hr),et]
theorem bJw (ho:x.order.length≤1048576):∀ (Z S:List aV) (p2 k:Int),(P++(S++Z)++C).length≤1000000→k=((P.length+S.length:Nat):Int)→p2=((P.length+S.length+Z.length:Nat):Int)→(∀ k∈S++Z,KW x k) →
  zK (P.length:Int) p2 (dJ.mk x) k (P++(S++Z)++C)=some (P++iY (ltc (cX x)) S Z++C)
 | [],S,p2,k,hl,hk,hp,_=>by
  rw [zK,if_neg (by simp only [QP] at hp; simp only [decide_eq_true_eq]; omega)];simp [iY]
 | v::Z,S,p2,k,hl,hk,hp,hK=>by
  simp only [QC,QG] at hl hp;rw [zK,if_pos (by simp only [decide_eq_true_eq]; omega)];subst hk;have r:=cD4 ho (P:=P) (C:=Z++C) p2 ((P.length+S.length:Nat):Int) v (hK v (by simp)) S (fun k hk=>hK k (by simp [hk])) (by simp only [QC,QG]; omega) S.length (QY _);rw [List.take_length,WE,QN] at r;have e0:P++(S++v::Z)++C=P++(S++v::(Z++C)):=by simp
  rw [e0,r,cZ (by omega) (by omega),iY];have e1:P++(S.take (iL (ltc (cX x)) v S S.length)++v::(S.drop (iL (ltc (cX x)) v S S.length)++(Z++C)))=P++(pE (ltc (cX x)) v S++Z)++C:=by simp [pE]
  have l1:=aSz (ltc (cX x)) v S;rw [e1];exact bJw ho Z (pE (ltc (cX x)) v S) p2 _ (by simp only [QC,l1]; omega) (by rw [l1]; omega) (by rw [l1]; omega) (fun k hk=>by
   rcases QU.1 hk with h | h
   ·have:=(aNl (ltc (cX x)) v S).subset h;rcases QI.1 this with rfl | h
    ·exact hK _ (by simp)
    ·exact hK k (by simp [h])
   ·exact hK k (by simp [h]))
theorem aWc (ho:x.order.length≤1048576) {A:List aV} {a b:Int} (hl:(P++A++C).length≤1000000) (ha:a=(P.length:Int)) (hb:b=((P.length+A.length:Nat):Int)) (hK:∀ k∈A,KW x k) :
  ∃ R,aFx (P++A++C) a b (dJ.mk x)=some (P++R++C)∧Sd (cX x) R∧Sim (cX x) A R∧R.length=A.length:=by
 have o:iI (cX x):=aBz (x.order.map (·.desc));simp only [QC] at hl;rw [aFx,ha,cZ (by omega) (by omega)];cases A with
 | nil =>
  rw [zK,if_neg (by simp at hb; simp only [decide_eq_true_eq]; omega)];exact ⟨[],by simp,by simp [Sd],Sim.refl _,rfl⟩
 | cons v A =>
  have r:=bJw ho (P:=P) (C:=C) A [v] b ((P.length:Int)+1) (by simp only [QC,QG,QP] at hl ⊢; omega) (by simp) (by rw [hb]; simp only [QG,QP]; omega) (fun k hk=>hK k (by simpa using hk));have e:P++([v]++A)++C=P++(v::A)++C:=by simp
  rw [e] at r;obtain ⟨s1,s2⟩:=aUi o A (S:=[v]) (by simp [Sd]);exact ⟨_,r,s1,by simpa using s2,by rw [bF7]; simp; omega⟩
end
inductive Blk (c:aV→aV→Int) (s:Nat):List aV→Prop
 | last {Z:List aV}:Z.length≤s→Sd c Z→Blk c s Z
 | cons {A Z:List aV}:A.length=s→Sd c A→Blk c s Z→Blk c s (A++Z)
def Pre (c:aV→aV→Int) (s:Nat) (P:List aV):Prop:=∀ Z,Blk c s Z→Blk c s (P++Z)
theorem Pre.nil {c:aV→aV→Int} {s:Nat}:Pre c s []:=fun _ h=>h
theorem Pre.snoc {c:aV→aV→Int} {s:Nat} {A:List aV} (h:Pre c s P) (hA:A.length=s) (sA:Sd c A):Pre c s (P++A):=fun Z hZ=>by rw [QQ]; exact h _ (.cons hA sA hZ)
theorem Blk.one {c:aV→aV→Int} {s:Nat} {Z:List aV} (h:Blk c s Z) (hz:Z.length≤s):Sd c Z:=by
 cases h with
 | last _ h=>exact h
 | @cons A Z h1 h2 _ =>
  have:Z=[]:=QO (by simp only [QC] at hz; omega);subst this;simpa using h2
theorem Blk.fst {c:aV→aV→Int} {s:Nat} {Z:List aV} (h:Blk c s Z) (hz:s<Z.length):∃ A Y,Z=A++Y∧A.length=s∧Sd c A∧Blk c s Y:=by
 cases h with
 | last h _=>omega
 | cons h1 h2 h3=>exact ⟨_,_,rfl,h1,h2,h3⟩
section
variable {x:eT}
theorem cAq (ho:x.order.length≤1048576) {N:Nat} (hN:N≤900000):∀ (n:Nat) (P Z:List aV) (a b:Int),Z.length≤n→P.length+Z.length=N→a=(P.length:Int)→b=a+20→Pre (cX x) 20 P→(∀ k∈Z,KW x k) →
  ∃ Y,Q9 (N:Int) (dJ.mk x) a b (P++Z)=xV (N:Int) (dJ.mk x) 20 Y∧Blk (cX x) 20 Y∧Sim (cX x) (P++Z) Y∧Y.length=N:=by
 intro n
 induction n with
 | zero =>
  intro P Z a b hn hl ha hb hP hK;have:Z=[]:=QO (by omega);subst this;rw [Q9,if_neg (by simp only [decide_eq_true_eq]; simp at hl; omega)];obtain ⟨R,r1,r2,r3,r4⟩:=aWc ho (P:=P) (A:=[]) (C:=[]) (a:=a) (b:=(N:Int)) (by simp at hl ⊢; omega) ha (by simp at hl ⊢; omega) (by simp);have:R=[]:=QO (by simpa using r4);subst this;simp only [WK] at r1 ⊢;rw [r1];exact ⟨P,rfl,by simpa using hP [] (.last (by simp) (by simp [Sd])),Sim.refl _,by simpa using hl⟩
 | succ n ih =>
  intro P Z a b hn hl ha hb hP hK;rw [Q9];by_cases hc:20≤Z.length
  ·rw [if_pos (by simp only [decide_eq_true_eq]; omega)];obtain ⟨A,Y,rfl,hA⟩:∃ A Y,Z=A++Y∧A.length=20:=⟨Z.take 20,Z.drop 20,(QV ..).symm,by rw [QW]; omega⟩
   simp only [QC] at hn hl;obtain ⟨R,r1,r2,r3,r4⟩:=aWc ho (P:=P) (A:=A) (C:=Y) (a:=a) (b:=b) (by simp only [QC]; omega) ha (by omega) (fun k hk=>hK k (by simp [hk]));rw [← QQ,r1];simp only [QB,QA];rw [cZ (by omega) (by omega)];obtain ⟨Q,q1,q2,q3,q4⟩:=ih (P++R) Y b (b+20) (by omega) (by simp only [QC]; omega) (by simp only [QC]; omega) rfl (hP.snoc (by omega) r2) (fun k hk=>hK k (by simp [hk]));refine ⟨Q,q1,q2,Sim.trans ?_ q3,q4⟩;exact ((Sim.refl P).app r3).app (Sim.refl Y)
  ·rw [if_neg (by simp only [decide_eq_true_eq]; omega)];obtain ⟨R,r1,r2,r3,r4⟩:=aWc ho (P:=P) (A:=Z) (C:=[]) (a:=a) (b:=(N:Int)) (by simp only [QC,QP]; omega) ha (by omega) hK;simp only [WK] at r1;rw [r1];exact ⟨P++R,rfl,hP R (.last (by omega) r2),(Sim.refl P).app r3,by simp only [QC]; omega⟩
theorem bRy (ho:x.order.length≤1048576) {N s:Nat} (hN:N≤900000) (hs:0<s) (hsN:s<N):∀ (n:Nat) (P Z:List aV) (a b:Int),Z.length≤n→P.length+Z.length=N→a=(P.length:Int)→b=a+2 * (s:Int)→Pre (cX x) (2 * s) P→Blk (cX x) s Z→(∀ k∈Z,KW x k) →
  ∃ Y,aDa (N:Int) (dJ.mk x) (s:Int) a b (P++Z)=xV (N:Int) (dJ.mk x) ((2 * s:Nat):Int) Y∧Blk (cX x) (2 * s) Y∧Sim (cX x) (P++Z) Y∧Y.length=N:=by
 have w2:QD .i64 ((s:Int) * 2)=((2 * s:Nat):Int):=by rw [cZ (by omega) (by omega)]; omega
 have w3:QD .i64 (2 * (s:Int))=2 * (s:Int):=cZ (by omega) (by omega);intro n
 induction n with
 | zero =>
  intro P Z a b hn hl ha hb hP hZ hK;have:Z=[]:=QO (by omega);subst this;simp only [QP] at hl;rw [aDa,if_neg (by simp only [decide_eq_true_eq]; omega),cZ (n:=a+(s:Int)) (by omega) (by omega),if_neg (by simp only [decide_eq_true_eq]; omega),Z5,w2];exact ⟨_,rfl,hP [] (.last (by simp) (by simp [Sd])),Sim.refl _,by simp; omega⟩
 | succ n ih =>
  intro P Z a b hn hl ha hb hP hZ hK;rw [aDa,cZ (n:=a+(s:Int)) (by omega) (by omega)];by_cases c1:2 * s≤Z.length
  ·rw [if_pos (by simp only [decide_eq_true_eq]; omega)];obtain ⟨A,Y,rfl,hA,sA,hY⟩:=hZ.fst (by omega);simp only [QC] at hn hl c1;obtain ⟨B,W,rfl,hB,sB,hW⟩:∃ B W,Y=B++W∧B.length=s∧Sd (cX x) B∧Blk (cX x) s W:=by
    by_cases e:Y.length=s
    ·exact ⟨Y,[],by simp,e,hY.one (by omega),.last (by simp) (by simp [Sd])⟩
    ·exact hY.fst (by omega)
   simp only [QC] at hn hl;obtain ⟨R,r1,r2,r3,r4⟩:=bK7 ho (A.length+B.length) P A B W a (a+(s:Int)) b (QY _) (by omega) (by omega) (by simp only [QC]; omega) ha (by omega) (by omega) sA sB (fun k hk=>hK k (by
    rcases QU.1 hk with h | h <;> simp [h]))
   have e1:P++(A++(B++W))=P++A++B++W:=by simp
   rw [e1,r1];simp only [QB,QA];rw [w3,cZ (by omega) (by omega)];obtain ⟨Q,q1,q2,q3,q4⟩:=ih (P++R) W b (b+2 * (s:Int)) (by omega) (by simp only [QC]; omega) (by simp only [QC]; omega) rfl (hP.snoc (by omega) r2) hW (fun k hk=>hK k (by simp [hk]));refine ⟨Q,q1,q2,Sim.trans ?_ q3,q4⟩;have:=((Sim.refl P).app r3).app (Sim.refl W);simpa using this
  rw [if_neg (by simp only [decide_eq_true_eq]; omega)];by_cases c2:s<Z.length
  ·rw [if_pos (by simp only [decide_eq_true_eq]; omega)];obtain ⟨A,Y,rfl,hA,sA,hY⟩:=hZ.fst c2;simp only [QC] at hn hl c1 c2;obtain ⟨R,r1,r2,r3,r4⟩:=bK7 ho (A.length+Y.length) P A Y [] a (a+(s:Int)) (N:Int) (QY _) (by omega) (by omega) (by simp only [QC,QP]; omega) ha (by omega) (by omega) sA (hY.one (by omega)) hK;have e1:P++(A++Y)=P++A++Y++[]:=by simp
   rw [e1,r1];simp only [QB,QA,WK];rw [Z5,w2];refine ⟨P++R,rfl,hP R (.last (by omega) r2),?_,by simp only [QC]; omega⟩;have:=(Sim.refl P).app r3;simpa using this
  ·rw [if_neg (by simp only [decide_eq_true_eq]; omega),Z5,w2];exact ⟨P++Z,rfl,hP Z (.last (by omega) (hZ.one (by omega))),Sim.refl _,by simp only [QC]; omega⟩
theorem cCo (ho:x.order.length≤1048576) {N:Nat} (hN:N≤900000):∀ (n s:Nat) (D:List aV),N≤n+s→0<s→s≤2000000→D.length=N→Blk (cX x) s D→(∀ k∈D,KW x k) →
  ∃ Y,xV (N:Int) (dJ.mk x) (s:Int) D=some Y∧Sd (cX x) Y∧Sim (cX x) D Y:=by
 have o:iI (cX x):=aBz (x.order.map (·.desc));intro n
 induction n with
 | zero =>
  intro s D hn hs h2 hl hD hK;rw [xV,if_neg (by simp only [decide_eq_true_eq]; omega)];exact ⟨D,rfl,hD.one (by omega),Sim.refl _⟩
 | succ n ih =>
  intro s D hn hs h2 hl hD hK;rw [xV];by_cases hc:s<N
  ·rw [if_pos (by simp only [decide_eq_true_eq]; omega),cZ (by omega) (by omega)];obtain ⟨Y,y1,y2,y3,y4⟩:=bRy ho hN hs hc N [] D 0 (2 * (s:Int)) (by omega) (by simp [hl]) (by simp) (by omega) Pre.nil hD hK;simp only [QN] at y1 y3;rw [y1];obtain ⟨Q,q1,q2,q3⟩:=ih (2 * s) Y (by omega) (by omega) (by omega) y4 y2 (fun k hk=>hK k (y3.mem o hk));exact ⟨Q,q1,q2,y3.trans q3⟩
  ·rw [if_neg (by simp only [decide_eq_true_eq]; omega)];exact ⟨D,rfl,hD.one (by omega),Sim.refl _⟩
end
theorem bPk:aAk 900000:=by
 intro x l hl ho hk;have o:iI (cX x):=aBz (x.order.map (·.desc));have hK:∀ k∈l,KW x k:=hk;obtain ⟨Y,y1,y2,y3,y4⟩:=cAq (x:=x) ho (N:=l.length) hl l.length [] l 0 20 (QY _) (by simp) (by simp) rfl Pre.nil hK;simp only [QN] at y1 y3;obtain ⟨Q,q1,q2,q3⟩:=cCo (x:=x) ho (N:=l.length) hl l.length 20 Y (by omega) (by omega) (by omega) y4 y2 (fun k hk=>hK k (y3.mem o hk));unfold aJd aOg;rw [y1];have q1':xV (l.length:Int) (dJ.mk x) 20 Y=some Q:=q1;rw [q1'];have e:iY (kLt (x.order.map (·.desc))) [] l=iY (ltc (cX x)) [] l:=bLw (K:=KW x) (fun a b ha hb=>by
  unfold kLt ltc;rw [aVd _ _ _ (by rw [WF]; exact ha) (by rw [WF]; exact hb)];rfl) l [] (by simp) hK
 obtain ⟨s1,s2⟩:=aUi o l (S:=[]) (by simp [Sd]);rw [e,bJ8 o q2 s1 ((y3.trans q3).symm.trans (by simpa using s2))];rfl
inductive A2 {α β:Type} (R:α→β→Prop):List α→List β→Prop
 | nil:A2 R [] []
 | cons {a b l m}:R a b→A2 R l m→A2 R (a::l) (b::m)
theorem A2.length {α β:Type} {R:α→β→Prop} {l:List α} {m:List β} (h:A2 R l m):l.length=m.length:=by induction h <;> simp [*]
theorem A2.get {α β:Type} {R:α→β→Prop} {l:List α} {m:List β} (h:A2 R l m):∀ (i:Nat) (h1:i<l.length) (h2:i<m.length),R l[i] m[i]:=by
 induction h with
 | nil=>intro i h1; simp at h1
 | cons a _ ih =>
  intro i h1 h2;cases i with
  | zero=>exact a
  | succ i=>exact ih i (by simpa using h1) (by simpa using h2)
theorem A2.of {α β:Type} {R:α→β→Prop}:∀ {l:List α} {m:List β},l.length=m.length→(∀ (i:Nat) (h1:i<l.length) (h2:i<m.length),R l[i] m[i])→A2 R l m
 | [],[],_,_=>.nil
 | a::l,b::m,h,k=>.cons (k 0 (by simp) (by simp)) (A2.of (by simpa using h) fun i h1 h2=>k (i+1) (by simpa using h1) (by simpa using h2))
def Ty (c:aX) (env:List (List Int)) (e:aJ) (t:Int):Prop:=qI c env e=some (t,true)
def TyP (c:aX) (env:List (List Int)) (p:aQ) (ts:List Int):Prop:=yA c env p=some (ts,true)
theorem bGt {c:aX} {env:List (List Int)} {e:aJ} {t:Int} (h:Ty c env e t) (hk:e.kids.length≤1048576) (hs:e.sub.length≤1048576):aDl e=some true∧aRs e:=by
 obtain ⟨b,s1,i1,hf⟩:=aWm e hk hs;unfold Ty at h;rw [qI,i1] at h;cases b with
 | true=>exact ⟨s1,hf rfl⟩
 | false=>simp at h
theorem bIt {c:aX} {env:List (List Int)} {e:aJ} {t:Int} (h:Ty c env e t) (hk:e.kids.length≤1048576) (hs:e.sub.length≤1048576) (k2:e.kind≠2) :
  ∃ acc:List Int,A2 (Ty c env) e.kids acc∧oO env acc e c [] 0=some (t,true):=by
 obtain ⟨b,s1,i1,hf⟩:=aWm e hk hs;unfold Ty at h;rw [qI,i1] at h;cases b with
 | false=>simp at h
 | true =>
 simp only [k2,decide_false,QH,QE,if_false,QB,QA] at h;have key:∀ i,i≤e.kids.length→∀ acc:List Int,acc.length=i→qG env e c acc (i:Nat)=some (t,true)→∃ r,A2 (Ty c env) (e.kids.drop i) r∧oO env (acc++r) e c [] 0=some (t,true):=by
  refine eO ?_ ?_
  ·intro acc _ h;rw [qG] at h;exact ⟨[],by simpa using A2.nil,by simpa using h⟩
  ·intro i hi ih acc ha h;rw [qG] at h;simp only [bU,hi,decide_true,if_true,bR hi,dL hi (by omega),QB,QA] at h;cases hr:qI c env e.kids[i] with
   | none=>simp [hr] at h
   | some r =>
    obtain ⟨y,ok⟩:=r;cases ok with
    | false=>simp [hr] at h
    | true =>
     have ea:appG 8 acc [y]=some (acc++[y]):=by unfold appG; rw [if_pos (by simp; omega)]
     simp only [hr,ea,QA,QH,QE,if_false] at h;obtain ⟨r,h1,h2⟩:=ih _ (by simp [ha]) h;rw [QL hi];exact ⟨y::r,.cons hr h1,by simpa using h2⟩
 simpa using key 0 (by omega) [] rfl h
theorem bUx {c:aX} {env:List (List Int)} {e:aJ} {t:Int} {acc:List Int} (hf:e.sub.length≤1) (h:oO env acc e c [] 0=some (t,true)) :
  ∃ st:List Int,tC e acc st=some (t,true)∧(e.sub=[]∧st=[]∨∃ p,e.sub=[p]∧TyP c env p st∧(e.kind=8→st.length=1)):=by
 have fin:∀ (x:Option (Int×Bool)),(x>>=fun (y15:Int×Bool)=>some (y15.1,y15.2))=some (t,true)→x=some (t,true):=by
  intro x hx;cases x with
  | none=>simp at hx
  | some y=>obtain ⟨a,b⟩:=y; simpa using hx
 cases hs:e.sub with
 | nil =>
  rw [oO] at h;simp only [hs,QP] at h;exact ⟨[],fin _ (by simpa using h),.inl ⟨rfl,rfl⟩⟩
 | cons p l =>
  have hl:l=[]:=by rw [hs] at hf; simpa using hf
  subst hl;rw [oO] at h;have ip:idx [p] 0=some p:=rfl;have iw:QD .i64 (0+1)=1:=rfl;simp only [hs,ip,iw,QG,QP,QB,QA,XF,show decide ((0:Int)<((1:Nat):Int))=true from rfl,if_true] at h;cases hp:yA c env p with
  | none=>simp [hp] at h
  | some r =>
   obtain ⟨st,ok⟩:=r;cases ok with
   | false=>simp [hp] at h
   | true =>
    have e1:∀ st,oO env acc e c st 1=tC e acc st>>=fun (y15:Int×Bool)=>some (y15.1,y15.2):=fun st=>by rw [oO]; simp [hs]
    by_cases k8:e.kind=8
    ·by_cases h1:st.length=1
     ·simp [hp,k8,h1,e1] at h;exact ⟨st,fin _ (by simpa using h),.inr ⟨p,rfl,hp,fun _=>h1⟩⟩
     ·have h2:¬ (st.length:Int)=1:=by omega
      simp [hp,k8,h2] at h
    ·simp [hp,k8,e1] at h;exact ⟨st,fin _ (by simpa using h),.inr ⟨p,rfl,hp,fun h=>absurd h k8⟩⟩
theorem aYg {e:aJ} (h:aRs e):e.sub.length≤1∧(e.kind=2→e.kids=[]∧e.sub=[]):=by
 rcases h with h | h | h | h | h | h | h | h | h <;> refine ⟨by omega,fun k=>?_⟩ <;> first | exact ⟨QO h.2.1,QO h.2.2⟩ | omega
def Tru (c:aX) (env:List (List Int)) (e:aJ) (t:Int):Prop:=Ty c env e t∧H6 t=some true
theorem bOu {c:aX} {env:List (List Int)} {l:List aJ} (hl:l.length≤1048576) (h:yL c env l=some true):∀ e∈l,∃ t,Tru c env e t:=by
 have key:∀ i,i≤l.length→∀ k:Int,xW l c env (i:Nat)=some k→k<0→∀ e∈l.drop i,∃ t,Tru c env e t:=by
  refine eO ?_ ?_
  ·intro k _ _ e he; simp at he
  ·intro i hi ih k hk hk0;rw [xW] at hk;simp only [bU,hi,decide_true,if_true,bR hi,dL hi (by omega),aJ4,QB,QA] at hk;rw [QL hi];cases hr:qI c env l[i] with
   | none=>simp [hr] at hk
   | some r =>
    obtain ⟨y,ok⟩:=r;cases ok with
    | false=>simp [hr] at hk; omega
    | true =>
     obtain ⟨b,hb⟩:=aM5 y;have hb':H6 y=some b:=by rw [aRp,hb]
     cases b with
     | false=>simp [hr,hb'] at hk; omega
     | true =>
      simp [hr,hb'] at hk;intro e he;rcases QI.1 he with rfl | he
      ·exact ⟨y,hr,hb'⟩
      ·exact ih k (by simpa using hk) hk0 e he
 rw [yL,aM9,aJ1] at h;cases hk:xW l c env 0 with
 | none=>simp [hk] at h
 | some k =>
  have:=key 0 (by omega) k hk (by simp [hk] at h; omega);simpa using this
structure bNo (c:aX) (env:List (List Int)) (p:aQ) (ts:List Int):Prop where
 pB:vP p=true
 oB:onB p=true
 nB:p.names.all nmB=true
 tb:∀ k∈p.tables,0≤k∧k<(c.tables.length:Int)
 on:∀ (i:Nat) (h:i<p.on_.length),∀ e∈p.on_[i],∃ t,Tru c ((gG c [] (p.tables.take (i+1))).1::env) e t
 wh:∀ e∈p.where_,∃ t,Tru c ((gG c [] p.tables).1::env) e t
 od:∀ k∈p.order,∃ t,Ty c ((gG c [] p.tables).1::env) k.expr t
 it:A2 (Ty c ((gG c [] p.tables).1::env)) p.items ts
theorem bE5 {c:aX} (hc:sH c) {env:List (List Int)} (hl:env.length≤1048577) {p:aQ} (hz:dW p≤1048576) {ts:List Int} (h:TyP c env p ts):bNo c env p ts:=by
 have hlen:=aM8 p;unfold TyP at h;obtain ⟨_,f2⟩:=bO8 c hc p (by omega) (by omega) (by omega);obtain ⟨r1,_⟩:=aJn c hc p.tables (by omega);rw [yA,f2,r1] at h;simp only [QB,QA] at h;cases hr:(gG c [] p.tables).2 with
 | false=>simp [hr] at h
 | true =>
 cases hP:vP p with
 | false=>simp [hr,hP] at h
 | true =>
 cases hO:onB p with
 | false=>simp [hr,hP,hO] at h
 | true =>
 cases hN:p.names.all nmB with
 | false=>simp [hr,hP,hO,hN] at h
 | true =>
 simp only [hr,hP,hO,hN,QH,WY,WA,beq_self_eq_true,if_true,QE,if_false,QA] at h;have hB:p.tables.length≤3∧p.on_.length=p.tables.length:=by
  unfold vP at hP;simp only [QF,decide_eq_true_eq] at hP;omega
 have hO1:∀ l∈p.on_,l.length≤1:=by
  unfold onB at hO;simpa using hO
 obtain ⟨w1,_⟩:=aS3 (gG c [] p.tables).1 env (by omega);generalize hrow:(gG c [] p.tables).1=row at *;have itL:∀ i,i≤p.items.length→∀ acc:List Int,acc.length=i→uT (row::env) p c acc (i:Nat)=some (ts,true)→∃ r,A2 (Ty c (row::env)) (p.items.drop i) r∧ts=acc++r:=by
  refine eO ?_ ?_
  ·intro acc _ h;rw [uT] at h;simp at h;exact ⟨[],by simpa using A2.nil,by simp [h]⟩
  ·intro i hi ih acc ha h;rw [uT] at h;simp only [bU,hi,decide_true,if_true,bR hi,dL hi (by omega),QB,QA] at h;cases hr:qI c (row::env) p.items[i] with
   | none=>simp [hr] at h
   | some r =>
    obtain ⟨y,ok⟩:=r;cases ok with
    | false=>simp [hr] at h
    | true =>
     have ea:appG 8 acc [y]=some (acc++[y]):=by unfold appG; rw [if_pos (by simp; omega)]
     simp only [hr,ea,QA,QH,QE,if_false] at h;obtain ⟨r,h1,h2⟩:=ih _ (by simp [ha]) h;rw [QL hi];exact ⟨y::r,.cons hr h1,by simpa using h2⟩
 have odL:∀ i,i≤p.order.length→wN (row::env) p c (i:Nat)=some (ts,true)→(∀ k∈p.order.drop i,∃ t,Ty c (row::env) k.expr t)∧A2 (Ty c (row::env)) p.items ts:=by
  refine eO ?_ ?_
  ·intro h;rw [wN] at h;simp only [bU,WI,decide_false,QE,if_false] at h;obtain ⟨r,h1,h2⟩:=itL 0 (by omega) [] rfl (by simpa using h);refine ⟨by simp,?_⟩;have:ts=r:=by simpa using h2
   subst this;simpa using h1
  ·intro i hi ih h;rw [wN] at h;simp only [bU,hi,decide_true,if_true,bR hi,dL hi (by omega),QB,QA] at h;cases hr:qI c (row::env) p.order[i].expr with
   | none=>simp [hr] at h
   | some r =>
    obtain ⟨y,ok⟩:=r;cases ok with
    | false=>simp [hr] at h
    | true =>
     simp only [hr,QA,QH,QE,if_false] at h;obtain ⟨h1,h2⟩:=ih h;rw [QL hi];refine ⟨fun k hk=>?_,h2⟩;rcases QI.1 hk with rfl | hk
     ·exact ⟨y,hr⟩
     ·exact h1 k hk
 have onL:∀ i,i≤p.on_.length→yJ env (row,true) p c (i:Nat)=some (ts,true)→(∀ (j:Nat) (h:j<p.on_.length),i≤j→∀ e∈p.on_[j],∃ t,Tru c ((gG c [] (p.tables.take (j+1))).1::env) e t)∧(∀ e∈p.where_,∃ t,Tru c (row::env) e t)∧(∀ k∈p.order,∃ t,Ty c (row::env) k.expr t)∧A2 (Ty c (row::env)) p.items ts:=by
  refine eO ?_ ?_
  ·intro h;rw [yJ] at h;simp only [bU,WI,decide_false,QE,if_false,w1,QB,QA] at h;cases hw:yL c (row::env) p.where_ with
   | none=>simp [hw] at h
   | some b =>
    cases b with
    | false=>simp [hw] at h
    | true =>
     simp only [hw,QA,QH,QE,if_false] at h;obtain ⟨h1,h2⟩:=odL 0 (by omega) (by simpa using h);exact ⟨fun j hj h=>by omega,bOu (by omega) hw,by simpa using h1,h2⟩
  ·intro i hi ih h;obtain ⟨a3,_⟩:=aJn c hc (p.tables.take (i+1)) (by rw [QW]; omega);have hs:gY p.tables 0 ((i+1:Nat):Int)=some (p.tables.take (i+1)):=aMs (by omega);obtain ⟨a6,_⟩:=aS3 (gG c [] (p.tables.take (i+1))).1 env (by omega);rw [yJ] at h;simp only [bU,hi,decide_true,if_true,bR hi,dL hi (by omega),hs,a3,a6,QB,QA] at h;cases hw:yL c ((gG c [] (p.tables.take (i+1))).1::env) p.on_[i] with
   | none=>simp [hw] at h
   | some b =>
    cases b with
    | false=>simp [hw] at h
    | true =>
     simp only [hw,QA,QH,QE,if_false] at h;obtain ⟨h1,h2⟩:=ih h;refine ⟨fun j hj h=>?_,h2⟩;by_cases e:j=i
     ·subst e;exact bOu (by have:=hO1 _ (QJ hi); omega) hw
     ·exact h1 j hj (by omega)
 have h0:gG c [] p.tables=(row,true):=by rw [← hrow,← hr]
 rw [h0] at h;obtain ⟨k1,k2,k3,k4⟩:=onL 0 (by omega) (by simpa using h);have ht:=(bOo c p.tables []).1 hr;subst hrow;exact ⟨hP,hO,hN,ht,fun i hi=>k1 i hi (by omega),k2,k3,k4⟩
theorem bM4 {c:aX} (hs:F9 c) {p:aQ} (hz:dW p≤1048576) (h:aAx c p=some true):aC7 c=some true∧aG1 c∧dP p≤24∧sP p≤200∧∃ ts,TyP c [] p ts:=by
 obtain ⟨a,a1,a2⟩:=aWy c hs;obtain ⟨d1,d2,d3,d4,-⟩:=bG8 p hz;unfold aAx aJe at h;simp only [a1,d1,d3,QB,QA] at h;cases a with
 | false=>simp at h
 | true =>
 by_cases x:dP p≤24
 ·by_cases y:sP p≤200
  ·have y1:¬ 200<sP p:=by omega
   simp [x,y1] at h;cases hp:yA c [] p with
   | none=>simp [hp] at h
   | some r =>
    obtain ⟨ts,ok⟩:=r;cases ok with
    | false=>simp [hp] at h
    | true=>exact ⟨a1,a2.1 rfl,x,y,ts,hp⟩
  ·have y1:200<sP p:=by omega
   simp [x,y1] at h
 ·have x1:¬ dP p≤24:=x;simp [x1] at h
def bN7 (v:aA) (t:Int):Prop:=nD v=true∧(v.kind=0∨v.kind=t)
theorem A2.mem {α β:Type} {R:α→β→Prop} {l:List α} {m:List β} (h:A2 R l m) {x:α} (hx:x∈l):∃ y∈m,R x y:=by
 induction h with
 | nil=>simp at hx
 | cons a _ ih =>
  rcases QI.1 hx with rfl | hx
  ·exact ⟨_,by simp,a⟩
  ·obtain ⟨y,h1,h2⟩:=ih hx;exact ⟨y,QX _ h1,h2⟩
abbrev aS2 (r:Row1) (ts:List Int):Prop:=A2 bN7 r ts
section
variable {N R:Nat} {GE:aJ→Prop} {GP:aQ→Prop} {c:aX} {d:GDb}
theorem A2.append {α β:Type} {R:α→β→Prop} {l l':List α} {m m':List β} (h:A2 R l m) (k:A2 R l' m'):A2 R (l++l') (m++m'):=by
 induction h with
 | nil=>exact k
 | cons a _ ih=>exact .cons a ih
end
theorem cA4 (x:aA):qB x=kT x∧∃ b,kT x=some b:=by
 unfold qB kT fT;simp only [QB,QA];by_cases h0:x.kind=0
 ·simp [h0]
 by_cases h1:x.kind=1
 ·simp [h1]
 by_cases h2:x.kind=2
 ·simp [h2]
 by_cases h3:x.kind=3
 ·by_cases n0:x.num=0
  ·simp [h3,n0]
  by_cases n1:x.num=1
  ·simp [h3,n1]
  have e:(if decide (0≤x.num)=true then decide (x.num≤1) else false)=false:=by
   by_cases p:0≤x.num
   ·simp [p]; omega
   ·simp [p]
  rw [e];simp [h3,n0,n1]
 ·simp [h0,h1,h2,h3]
theorem cE8 (x:aA) (t:Int):aMt x t=Z9 x t∧∃ b,Z9 x t=some b:=by
 obtain ⟨h1,b,h2⟩:=cA4 x;unfold aMt Z9;rw [h1,h2];cases b <;> exact ⟨rfl,_,rfl⟩
theorem bEu (r:List aA) (t:List Int) (hl:r.length≤1048576):aGb r t=Q4 r t∧∃ b,Q4 r t=some b:=by
 unfold aGb Q4;by_cases he:(r.length:Int)=(t.length:Int)
 ·simp only [he,decide_true,QH,QE,if_false];have:=aOf (n:=r.length) (L:=fun i=>U6 t r i) (M:=fun i=>vZ r t i) ?_ ?_
  ·obtain ⟨h1,b,h2⟩:=this;rw [h1] at h2;exact ⟨h1,b,h2⟩
  ·intro i hi h1 h2
   try dsimp only at h1 h2 ⊢
   have hi':i<t.length:=by omega
   obtain ⟨f1,b,f2⟩:=cE8 r[i] t[i];rw [U6,vZ];simp only [bU,bR hi,bR hi',dL hi (by omega),hi,decide_true,if_true,f1,f2,QB,QA];cases b with
   | true=>simp only [QH,QE,if_false]; exact ⟨h1,h2⟩
   | false=>simp
  ·try dsimp only
   rw [U6,vZ];simp
 ·simp [he]
theorem bR0 (t:bH) (hl:t.cols.length≤1048576):aAh t=J3 t∧∃ r,J3 t=some r:=by
 unfold aAh J3;have key:∀ i,i≤t.cols.length→∀ l:List Int,l.length≤i→wH t l (i:Nat)=uU t l (i:Nat)∧∃ r,uU t l (i:Nat)=some r:=by
  refine eO ?_ ?_
  ·intro l _;rw [wH,uU]; simp
  ·intro i hi ih l hl2;rw [wH,uU];have ea:appG 8 l [t.cols[i].type]=some (l++[t.cols[i].type]):=by unfold appG; rw [if_pos (by simp; omega)]
   simp only [bU,bR hi,dL hi (by omega),hi,decide_true,if_true,ea,QB,QA];exact ih _ (by simp; omega)
 exact key 0 (by omega) [] (by simp)
theorem cF7 (c:aX) (d:GDb) (hc:F9 c) (hd:d.tables.length≤1048576∧∀ t∈d.tables,t.rows.length≤1048576∧∀ r∈t.rows,r.length≤1048576):aJs c d=zH c d∧∃ b,zH c d=some b:=by
 unfold aJs zH;obtain ⟨b1,i1,i2⟩:=aWy c hc;obtain ⟨b2,s1,s2⟩:=bOl c hc;have e:b1=b2:=cNq i2 s2 Iff.rfl;subst e;simp only [i1,s1,QB,QA];cases b1 with
 | false=>simp
 | true =>
  by_cases he:(d.tables.length:Int)=(c.tables.length:Int)
  ·simp only [he,decide_true,QH,QE,if_false];have:=aOf (n:=d.tables.length) (L:=fun i=>H5 d c i) (M:=fun i=>xU c d i) ?_ ?_
   ·obtain ⟨h1,b,h2⟩:=this;rw [h1] at h2;exact ⟨h1,b,h2⟩
   ·intro i hi h1 h2
    try dsimp only at h1 h2 ⊢
    obtain ⟨r0,h2⟩:=h2;have hi':i<c.tables.length:=by omega
    have hrows:=hd.2 _ (QJ hi);obtain ⟨t1,ty,t2⟩:=bR0 c.tables[i] (hc.2 _ (QJ hi'));have:=hd.1;rw [H5,xU];simp only [bU,bR hi,bR hi',dL hi (by omega),hi,decide_true,if_true,t1,t2,QB,QA];by_cases h6:(6:Int)<(d.tables[i].rows.length:Int)
    ·simp [h6]
    ·have scan:∀ j,j≤d.tables[i].rows.length→∃ k:Int,aAa d.tables[i].rows ty (j:Nat)=some k∧((0≤k∧vE (i:Int) c d (j:Nat)=some false)∨(k<0∧vE (i:Int) c d (j:Nat)=some r0)):=by
      refine eO ?_ ?_
      ·rw [aAa,vE];simp only [bU,bR hi,WI,decide_false,QE,if_false,QB,QA,dL hi (by omega)];exact ⟨-1,rfl,.inr ⟨by omega,by rw [← h1]; exact h2⟩⟩
      ·intro j hj ih;obtain ⟨f1,b,f2⟩:=bEu d.tables[i].rows[j] ty (hrows.2 _ (QJ hj));rw [aAa,vE];simp only [bU,bR hi,bR hi',bR hj,hj,decide_true,if_true,t2,f1,f2,aO6,QB,QA,dL hj (by omega)];cases b with
       | true=>simpa using ih
       | false=>exact ⟨(j:Int),by simp,.inl ⟨by omega,by simp⟩⟩
     obtain ⟨k,k1,k2⟩:=scan 0 (by omega);rw [show ((0:Nat):Int)=0 from rfl] at k1 k2;simp only [h6,decide_false,QE,if_false,aJq,aNy,k1,QB,QA];rcases k2 with ⟨k0,k2⟩ | ⟨k0,k2⟩
     ·simp [k0,k2]
     ·have:¬ 0≤k:=by omega
      have h3:H5 d c ((i:Int)+1)=some r0:=h2;simp only [k2,this,decide_false];cases r0 <;> simp [h3]
   ·try dsimp only
    rw [H5,xU];simp
  ·simp [he]
theorem bX8 (v:aA) (t:Int):Z9 v t=some (nD v&&(decide (v.kind=0)||decide (v.kind=t))):=by
 unfold Z9;rw [aH6];simp only [orB,rA,QB,QA];cases nD v <;> simp
theorem cGx {r:Row1} {ts:List Int} (hl:r.length≤1048576):∃ b,Q4 r ts=some b∧aGb r ts=some b∧(b=true↔aS2 r ts):=by
 obtain ⟨e1,b,e2⟩:=bEu r ts hl;refine ⟨b,e2,by rw [e1,e2],?_⟩;unfold Q4 at e2;by_cases he:r.length=ts.length
 case neg =>
  have hne:¬ (r.length:Int)=(ts.length:Int):=by omega
  rw [if_pos (by simp [hne])] at e2;have:=Option.some.inj e2;subst this;exact ⟨fun h=>by simp at h,fun h=>absurd h.length he⟩
 have he':(r.length:Int)=(ts.length:Int):=by omega
 rw [if_neg (by simp [he'])] at e2;have key:∀ i,i≤r.length→∀ b,vZ r ts (i:Nat)=some b→(b=true↔A2 bN7 (r.drop i) (ts.drop i)):=by
  refine eO ?_ ?_
  ·intro b h;rw [vZ] at h;simp only [bU,WI,decide_false,QE,if_false,XG] at h;subst h;rw [WE,he,WE];exact ⟨fun _=>.nil,fun _=>rfl⟩
  ·intro i hi ih b h;have hi':i<ts.length:=by omega
   rw [vZ] at h;simp only [bU,hi,decide_true,if_true,bR hi,bR hi',bX8,QB,QA] at h;rw [QL hi,QL hi'];rcases hf:(nD r[i]&&(decide (r[i].kind=0)||decide (r[i].kind=ts[i]))) with _ | _
   ·rw [hf] at h;simp only [WX,if_true,XG] at h;subst h;refine ⟨fun h=>by simp at h,fun h=>?_⟩;cases h with | cons a r =>
    obtain ⟨a1,a2⟩:=a;rw [a1] at hf;rcases a2 with a2 | a2 <;> simp [a2] at hf
   ·rw [hf] at h;simp only [QH,QE,if_false] at h;rw [dL hi (by omega)] at h;rw [ih b h];simp only [QF,XA,decide_eq_true_eq] at hf;exact ⟨fun h=>.cons hf h,fun h=>by cases h with | cons _ r=>exact r⟩
 have:=key 0 (by omega) b e2;simpa using this
def aXd (d:GDb):Prop:=d.tables.length≤1048576∧∀ t∈d.tables,t.rows.length≤1048576∧∀ r∈t.rows,r.length≤1048576
theorem cFe {c:aX} {d:GDb} (hs:F9 c) (hd:aXd d) (h:zH c d=some true):d.tables.length=c.tables.length∧∀ (i:Nat) (h:i<d.tables.length) (h':i<c.tables.length),d.tables[i].rows.length≤6∧∀ r∈d.tables[i].rows,aS2 r (mF c.tables[i]):=by
 have hdl:=hd.1;unfold zH at h;cases hc:aBw c with
 | none=>simp [hc] at h
 | some b =>
  cases b with
  | false=>simp [hc] at h
  | true =>
   simp only [hc,QH,QE,if_false,QB,QA] at h;by_cases he:d.tables.length=c.tables.length
   case neg =>
    have:¬ (d.tables.length:Int)=(c.tables.length:Int):=by omega
    simp [this] at h
   have he':(d.tables.length:Int)=(c.tables.length:Int):=by omega
   simp only [he',decide_true,QH,QE,if_false] at h;refine ⟨he,?_⟩;have key:∀ i,i≤d.tables.length→xU c d (i:Nat)=some true→∀ (j:Nat) (h:j<d.tables.length) (h':j<c.tables.length),i≤j→d.tables[j].rows.length≤6∧∀ r∈d.tables[j].rows,aS2 r (mF c.tables[j]):=by
    refine eO ?_ ?_
    ·intro _ j h _ hij; omega
    ·intro i hi ih h;have hi':i<c.tables.length:=by omega
     have hg:=hd.2 _ (QJ hi);obtain ⟨_,ty⟩:=bJ6 c.tables[i] (hs.2 _ (QJ hi'));rw [xU] at h;simp only [bU,hi,decide_true,if_true,bR hi,QB,QA] at h;by_cases h6:(6:Int)<(d.tables[i].rows.length:Int)
     ·simp [h6] at h
     simp only [h6,decide_false,QE,if_false] at h;have inner:∀ k,k≤d.tables[i].rows.length→vE (i:Int) c d (k:Nat)=some true→(∀ r∈d.tables[i].rows.drop k,aS2 r (mF c.tables[i]))∧xU c d ((i+1:Nat):Int)=some true:=by
      refine eO ?_ ?_
      ·intro h;rw [vE] at h;simp only [bR hi,bU,WI,decide_false,QE,if_false,QB,QA] at h;rw [dL hi (by omega)] at h;exact ⟨by simp,h⟩
      ·intro k hk ihk h;rw [vE] at h;have hrl:=hg.2 _ (QJ hk);obtain ⟨b,f1,_,f3⟩:=cGx (r:=d.tables[i].rows[k]) (ts:=mF c.tables[i]) (by omega);simp only [bR hi,bR hi',bR hk,bU,hk,decide_true,if_true,ty,f1,QB,QA] at h;cases b with
       | false=>simp at h
       | true =>
        simp only [QH,QE,if_false] at h;rw [dL hk (by omega)] at h;obtain ⟨a1,a2⟩:=ihk h;refine ⟨fun r hr=>?_,a2⟩;rw [QL hk] at hr;rcases QI.1 hr with rfl | hr
        ·exact f3.1 rfl
        ·exact a1 r hr
     obtain ⟨a1,a2⟩:=inner 0 (by omega) (by simpa using h);intro j hj hj' hij;by_cases e:j=i
     ·subst e; exact ⟨by omega,by simpa using a1⟩
     ·exact ih a2 j hj hj' (by omega)
   exact fun i h1 h2=>key 0 (by omega) (by simpa using h) i h1 h2 (by omega)
theorem okLX_m:∀ {l:List aJ},okLGPExpr l→∀ x∈l,okGPExpr x
 | [],_,x,hx=>by simp at hx
 | y::l,h,x,hx=>by
  unfold okLGPExpr at h;rcases QI.1 hx with rfl | hx
  ·exact h.1
  ·exact okLX_m h.2 x hx
theorem okLP_m:∀ {l:List aQ},okLGPlan l→∀ x∈l,okGPlan x
 | [],_,x,hx=>by simp at hx
 | y::l,h,x,hx=>by
  unfold okLGPlan at h;rcases QI.1 hx with rfl | hx
  ·exact h.1
  ·exact okLP_m h.2 x hx
theorem okLK_m:∀ {l:List bD},okLGPSort l→∀ x∈l,okGPExpr x.expr
 | [],_,x,hx=>by simp at hx
 | y::l,h,x,hx=>by
  unfold okLGPSort at h;rcases QI.1 hx with rfl | hx
  ·obtain ⟨a,b⟩:=x;have:=h.1;unfold okGPSort at this;exact this.1
  ·exact okLK_m h.2 x hx
theorem okLLX_m:∀ {l:List (List aJ)},okLLGPExpr l→∀ y∈l,∀ x∈y,okGPExpr x
 | [],_,y,hy=>by simp at hy
 | z::l,h,y,hy=>by
  unfold okLLGPExpr at h;rcases QI.1 hy with rfl | hy
  ·exact okLX_m h.1.2
  ·exact okLLX_m h.2 y hy
theorem okX_in {x:aJ} (h:okGPExpr x):okI x.value.num∧(∀ y∈x.kids,okGPExpr y)∧∀ p∈x.sub,okGPlan p:=by
 obtain ⟨a0,a1,a2,a3,a4,a5,a6,a7⟩:=x;unfold okGPExpr at h;exact ⟨h.2.2.2.1.2.1,okLX_m h.2.2.2.2.2.2.1.2,okLP_m h.2.2.2.2.2.2.2.2⟩
theorem okP_in {p:aQ} (h:okGPlan p):∀ e∈iZ p,okGPExpr e:=by
 obtain ⟨a0,a1,a2,a3,a4,a5,a6,a7⟩:=p;unfold okGPlan at h;intro e he;unfold iZ at he;simp only [QU,WR] at he;rcases he with ((⟨l,hl,he⟩ | he) | ⟨k,hk,he⟩) | he
 ·exact okLLX_m h.2.1.2 l hl e he
 ·exact okLX_m h.2.2.1.2 e he
 ·have he:e=k.expr:=by simpa using he
  rw [he]; exact okLK_m h.2.2.2.1.2 k hk
 ·exact okLX_m h.2.2.2.2.1.2 e he
theorem bGm {α β:Type} {R:α→β→Prop} {l:List α} {m:List β} (h:A2 R l m) {x:α} (hx:x∈l):∃ y,R x y:=by
 induction h with
 | nil=>simp at hx
 | cons r _ ih =>
  rcases QI.1 hx with rfl | hx
  ·exact ⟨_,r⟩
  ·exact ih hx
def TE (c:aX) (e:aJ):Prop:=okGPExpr e∧bI e≤1048576∧∃ (types:List (List Int)) (t:Int),Ty c types e t∧types.length+bI e≤1048577
def TP (c:aX) (p:aQ):Prop:=okGPlan p∧dW p≤1048576∧∃ (types:List (List Int)) (ts:List Int),TyP c types p ts∧types.length+dW p≤1048577
theorem TP.inv {c:aX} (hc:sH c) {p:aQ} (h:TP c p):∃ types ts,bNo c types p ts∧types.length+dW p≤1048577:=by
 obtain ⟨_,h2,types,ts,h3,h4⟩:=h;exact ⟨types,ts,bE5 hc (by omega) h2 h3,h4⟩
theorem cJw {c:aX} (hc:sH c):Closed 216 6 (TE c) (TP c) where
 val e h:=(okX_in h.1).1
 kid e h k hk:=by
  obtain ⟨h1,h2,types,t,h3,h4⟩:=h;have hz:=aDm e;have l1:=kJ (z:=bI) e.kids;have l2:=kJ (z:=dW) e.sub;have hf:=(bGt h3 (by omega) (by omega)).2;by_cases k2:e.kind=2
  ·rw [((aYg hf).2 k2).1] at hk; simp at hk
  obtain ⟨acc,ha,_⟩:=bIt h3 (by omega) (by omega) k2;obtain ⟨s,hs⟩:=bGm ha hk;have:=aJm hk;exact ⟨(okX_in h1).2.1 k hk,by omega,types,s,hs,by omega⟩
 sub e h p hp:=by
  obtain ⟨h1,h2,types,t,h3,h4⟩:=h;have hz:=aDm e;have l1:=kJ (z:=bI) e.kids;have l2:=kJ (z:=dW) e.sub;have hf:=(bGt h3 (by omega) (by omega)).2;by_cases k2:e.kind=2
  ·rw [((aYg hf).2 k2).2] at hp; simp at hp
  obtain ⟨acc,ha,hr⟩:=bIt h3 (by omega) (by omega) k2;obtain ⟨st,_,hs⟩:=bUx (aYg hf).1 hr;have hz:=aIk hp;rcases hs with ⟨e0,_⟩ | ⟨q,e1,hq,_⟩
  ·rw [e0] at hp; simp at hp
  have hp0:=hp;rw [e1] at hp;have hp:p=q:=by simpa using hp
  subst hp;exact ⟨(okX_in h1).2.2 p hp0,by omega,types,st,hq,by omega⟩
 plan p h:=by
  obtain ⟨types,ts,tp,_⟩:=h.inv hc;have hpB:=tp.pB;unfold vP at hpB;simp only [QF,decide_eq_true_eq] at hpB;have hz:=K7 p;have hl:=aM8 p;have h2:=h.2.1;have t3:p.tables.length≤3:=by omega
  refine ⟨t3,?_,by omega,fun l hl2=>?_,by omega,by omega,by omega⟩
  ·exact QZ (Nat.pow_le_pow_right (by omega) t3) (by decide)
  ·have:=sS (z:=zL bI) hl2;have:=kJ (z:=bI) l;omega
 part p h e he:=by
  obtain ⟨types,ts,tp,h4⟩:=h.inv hc;have hlt:=aPb he;have h2:=h.2.1;have ok:=okP_in h.1 e he;have fin:∀ (row:List Int) t,Ty c (row::types) e t→TE c e:=fun row t ht=>⟨ok,by omega,row::types,t,ht,by simp only [QG]; omega⟩
  unfold iZ at he;simp only [QU,WR] at he;rcases he with ((⟨l,hl,hx⟩ | hx) | ⟨k,hk,hx⟩) | hx
  ·obtain ⟨i,hi,rfl⟩:=WG.1 hl;obtain ⟨t,ht⟩:=tp.on i hi e hx;exact fin _ t ht.1
  ·obtain ⟨t,ht⟩:=tp.wh e hx;exact fin _ t ht.1
  ·have hx:e=k.expr:=by simpa using hx
   obtain ⟨t,ht⟩:=tp.od k hk;exact fin _ t (hx ▸ ht)
  ·obtain ⟨t,ht⟩:=bGm tp.it hx;exact fin _ t ht
 len e h:=by
  have:=aDm e;have:=kJ (z:=bI) e.kids;have:=kJ (z:=dW) e.sub;have:=h.2.1;omega
 ze e h:=h.2.1
 zp p h:=h.2.1
theorem cJs:aAk 216:=fun x l hl=>bPk x l (by omega)
def wtB (c:aX) (p:aQ):Bool:=(aEb c p).getD false
def dbB (c:aX) (d:GDb):Bool:=(zH c d).getD false
def Q5 (c:aX) (d:GDb) (p:aQ):Rows×Int:=if (wtB c p&&dbB c d)=true then xX d (jO c d []) p else ([],4)
theorem cCw {c:aX} (hs:F9 c) {d:GDb} (hd:aXd d) (hv:∀ t∈d.tables,∀ r∈t.rows,∀ v∈r,okI v.num) {p:aQ} (ho:okGPlan p) (hz1:dW p≤1048576) (hzn:c.tables≠[]→dW p≤1048575) :
  aE3 c d p=some (Q5 c d p)∧aMx c d p=some (Q5 c d p)∧(Q5 c d p).1.length≤1048576:=by
 obtain ⟨b,w1,w2⟩:=bH6 c hs p (by omega);obtain ⟨d1,g,d2⟩:=cF7 c d hs hd;have eb:wtB c p=b:=by unfold wtB; rw [w2]; rfl
 have eg:dbB c d=g:=by unfold dbB; rw [d2]; rfl
 unfold aE3 aMx Q5;rw [w1,w2,d1,d2,eb,eg];simp only [QB,QA,orB];cases b
 ·simp
 cases g
 ·simp
 obtain ⟨_,hcP,_,_,ts,hT⟩:=bM4 hs (by omega) w1;have hc:=aVq hcP;have hz:dW p≤1048575:=hzn fun e=>by
  have tp:=bE5 hc (by simp) (by omega) hT;have hpB:=tp.pB;unfold vP at hpB;simp only [QF,decide_eq_true_eq] at hpB;have ht:0<p.tables.length:=by omega
  have:=tp.tb _ (QJ ht);rw [e] at this;simp at this;omega
 obtain ⟨t1,t2⟩:=cFe hs hd d2;have hB:DbB 6 d:=by
  refine ⟨by omega,fun t ht=>?_,fun t ht r hr=>?_⟩
  ·obtain ⟨i,hi,rfl⟩:=WG.1 ht;exact (t2 i hi (by omega)).1
  ·have hvt:=hv t ht r hr;obtain ⟨i,hi,rfl⟩:=WG.1 ht;have hi':i<c.tables.length:=by omega
   have hf:=((t2 i hi hi').2 r hr).length;have hcl:=(hc.2 _ (QJ hi')).1;unfold mF at hf;rw [WF] at hf;exact ⟨by omega,hvt⟩
 have hTP:TP c p:=⟨ho,by omega,[],ts,hT,by simp; omega⟩
 have A:=cI7 (c:=c) (cJw hc) cJs (by omega) hB (by have:=hd.1; omega) (dW p+1);obtain ⟨⟨r,e1,e2,_,e4⟩,e3⟩:=A.2 p [] (Nat.lt_succ_self _) hTP (fun r hr=>by simp at hr) (fun r hr=>by simp at hr) (by simp; omega);have X:=e3;rw [e3] at e1;have e1:=Option.some.inj e1;subst e1;rw [X,e2];simp;exact e4
theorem rV {α:Type} {p:List α} {W:α→Option α} {by':Nat} {d:α} {L:Int→List α→Option (List α)} {S:Option (List α)} (hp:p.length≤1048576) (hby:by'≤134217728)
  (hS:S=(mkG by' (p.length:Int) d>>=fun y=>L 0 y))
  (hL:∀ (i:Nat) b,L (i:Int) b=if (decide ((i:Int)<(p.length:Int)))=true then ((idx p (i:Int))>>=fun y2=>(W y2)>>=fun y3=>(idx b (i:Int))>>=fun _=>L (QD .i64 ((i:Int)+1)) (b.set ((i:Int)).toNat y3)) else some b)
  (H:∀ y∈p,W y=some y):S=some p:=by
 refine qL (W:=W) (L:=L) hp hby hS (fun i b=>?_) H;rw [hL];split
 ·cases idx p (i:Int) with
  | none=>rfl
  | some y =>
   simp only [QB,QA];cases W y with
   | none=>rfl
   | some z =>
    simp only [QA];rw [oZ];cases hb:b[i]? with
    | none=>rfl
    | some u =>
     have hi:i<b.length:=(List.getElem?_eq_some_iff.1 hb).1;have:iC b (i:Int) z=some (b.set i z):=by unfold iC; rw [if_pos ⟨by omega,by simp; omega⟩]; simp
     simp only [QA,this,QT]
 ·rfl
theorem cJz:∀ x:bP,jF x≤1048576→xP x=some x
 | ⟨a0,a1⟩,hz=>by
  simp only [jF] at hz;rw [xP]
theorem cA9 (p:List bP) (hz:(zL jF) p≤1048576):aEw p=some p:=rV (by':=24) (W:=xP) (by unfold zL at hz; omega) (by omega) (by rw [aEw]) (fun i b=>by rw [aE9]) (fun y hy=>cJz y (by have h1:=mH (z:=jF) hy; have h2:zL jF p=p.length+(p.map jF).sum:=rfl; omega))
theorem bS9:∀ x:bH,gM x≤1048576→aH4 x=some x
 | ⟨a0,a1⟩,hz=>by
  simp only [gM] at hz;have e1:aEw a1=some a1:=cA9 a1 (by omega);rw [aH4];simp only [e1,QB,QA]
theorem cEs (p:List bH) (hz:(zL gM) p≤1048576):aGy p=some p:=rV (by':=40) (W:=aH4) (by unfold zL at hz; omega) (by omega) (by rw [aGy]) (fun i b=>by rw [aHm]) (fun y hy=>bS9 y (by have h1:=mH (z:=gM) hy; have h2:zL gM p=p.length+(p.map gM).sum:=rfl; omega))
theorem bZv:∀ x:aX,pU x≤1048576→aH2 x=some x
 | ⟨a0⟩,hz=>by
  simp only [pU] at hz;have e0:aGy a0=some a0:=cEs a0 (by omega);rw [aH2];simp only [e0,QB,QA]
theorem bIl:∀ x:aA,eX x≤1048576→qY x=some x
 | ⟨a0,a1,a2⟩,hz=>by
  simp only [eX] at hz;rw [qY]
theorem cEi (p:List aA) (hz:(zL eX) p≤1048576):aFi p=some p:=rV (by':=32) (W:=qY) (by unfold zL at hz; omega) (by omega) (by rw [aFi]) (fun i b=>by rw [aGo]) (fun y hy=>bIl y (by have h1:=mH (z:=eX) hy; have h2:zL eX p=p.length+(p.map eX).sum:=rfl; omega))
theorem cLs (p:List (List aA)) (hz:(zL (zL eX)) p≤1048576):aEt p=some p:=rV (by':=24) (W:=aFi) (by unfold zL at hz; omega) (by omega) (by rw [aEt]) (fun i b=>by rw [aGr]) (fun y hy=>cEi y (by have h1:=mH (z:=(zL eX)) hy; have h2:zL (zL eX) p=p.length+(p.map (zL eX)).sum:=rfl; omega))
theorem cCc:∀ x:bN,gX x≤1048576→aI0 x=some x
 | ⟨a0⟩,hz=>by
  simp only [gX] at hz;have e0:aEt a0=some a0:=cLs a0 (by omega);rw [aI0];simp only [e0,QB,QA]
theorem cH8 (p:List bN) (hz:(zL gX) p≤1048576):aFm p=some p:=rV (by':=24) (W:=aI0) (by unfold zL at hz; omega) (by omega) (by rw [aFm]) (fun i b=>by rw [aFe]) (fun y hy=>cCc y (by have h1:=mH (z:=gX) hy; have h2:zL gX p=p.length+(p.map gX).sum:=rfl; omega))
theorem cN2:∀ x:GDb,rO x≤1048576→aFw x=some x
 | ⟨a0⟩,hz=>by
  simp only [rO] at hz;have e0:aFm a0=some a0:=cH8 a0 (by omega);rw [aFw];simp only [e0,QB,QA]
theorem cAu (p:List Int) (hz:(zL z0) p≤1048576):aGj p=some p:=rV (by':=8) (W:=some) (by unfold zL at hz; omega) (by omega) (by rw [aGj]) (fun i b=>by rw [aGk]; rfl) (fun y hy=>rfl)
theorem cF2 (p:List (List UInt8)) (hz:(zL WM) p≤1048576):aEc p=some p:=rV (by':=16) (W:=some) (by unfold zL at hz; omega) (by omega) (by rw [aEc]) (fun i b=>by rw [aH1]; rfl) (fun y hy=>rfl)
mutual
theorem bZf:∀ x:bD,iB x≤1048576→aA8 x=some x
 | ⟨a0,a1⟩,hz=>by
  simp only [iB] at hz;have e0:uH a0=some a0:=bKu a0 (by omega);rw [aA8];simp only [e0,QB,QA]
theorem bHd:∀ x:aQ,dW x≤1048576→zX x=some x
 | ⟨a0,a1,a2,a3,a4,a5,a6,a7⟩,hz=>by
  simp only [dW] at hz;have e0:aGj a0=some a0:=cAu a0 (by omega);have e1:aLy a1=some a1:=rV (by':=24) (W:=qO) (by omega) (by omega) (by rw [aLy]) (fun i b=>by rw [aIu]) (bHp a1 (by omega));have e2:qO a2=some a2:=rV (by':=120) (W:=uH) (by omega) (by omega) (by rw [qO]) (fun i b=>by rw [O0]) (aJt a2 (by omega));have e3:aMe a3=some a3:=rV (by':=128) (W:=aA8) (by omega) (by omega) (by rw [aMe]) (fun i b=>by rw [aIx]) (bI0 a3 (by omega));have e4:qO a4=some a4:=rV (by':=120) (W:=uH) (by omega) (by omega) (by rw [qO]) (fun i b=>by rw [O0]) (aJt a4 (by omega));have e5:aEc a5=some a5:=cF2 a5 (by omega);rw [zX];simp only [e0,e1,e2,e3,e4,e5,QB,QA]
theorem bKu:∀ x:aJ,bI x≤1048576→uH x=some x
 | ⟨a0,a1,a2,a3,a4,a5,a6,a7⟩,hz=>by
  simp only [bI] at hz;have e3:qY a3=some a3:=bIl a3 (by omega);have e6:qO a6=some a6:=rV (by':=120) (W:=uH) (by omega) (by omega) (by rw [qO]) (fun i b=>by rw [O0]) (aJt a6 (by omega));have e7:aIq a7=some a7:=rV (by':=160) (W:=zX) (by omega) (by omega) (by rw [aIq]) (fun i b=>by rw [aKe]) (bGk a7 (by omega));rw [uH];simp only [e3,e6,e7,QB,QA]
theorem bGk:∀ l:List aQ,vF l≤1048576→∀ y∈l,zX y=some y
 | [],_=>fun y hy=>by simp at hy
 | x::l,hz=>by
  simp only [vF] at hz;intro y hy;rcases QI.1 hy with r | hy
  ·rw [r]; exact bHd x (by omega)
  ·exact bGk l (by omega) y hy
theorem aJt:∀ l:List aJ,oD l≤1048576→∀ y∈l,uH y=some y
 | [],_=>fun y hy=>by simp at hy
 | x::l,hz=>by
  simp only [oD] at hz;intro y hy;rcases QI.1 hy with r | hy
  ·rw [r]; exact bKu x (by omega)
  ·exact aJt l (by omega) y hy
theorem bI0:∀ l:List bD,uL l≤1048576→∀ y∈l,aA8 y=some y
 | [],_=>fun y hy=>by simp at hy
 | x::l,hz=>by
  simp only [uL] at hz;intro y hy;rcases QI.1 hy with r | hy
  ·rw [r]; exact bZf x (by omega)
  ·exact bI0 l (by omega) y hy
theorem bHp:∀ l:List (List aJ),uR l≤1048576→∀ y∈l,qO y=some y
 | [],_=>fun y hy=>by simp at hy
 | x::l,hz=>by
  simp only [uR] at hz;intro y hy;rcases QI.1 hy with r | hy
  ·rw [r]; exact rV (by':=120) (W:=uH) (by omega) (by omega) (by rw [qO]) (fun i b=>by rw [O0]) (aJt x (by omega))
  ·exact bHp l (by omega) y hy
end
theorem cBb:∀ (n:Nat) (x:Int) (t:List UInt8),0≤x→x<10 ^ n→x≤1000000000000000→t.length+n≤100→∃ s,aAn x t=some s:=by
 intro n;have cat:∀ a b:List UInt8,a.length+b.length≤200→xO a b=some (a++b):=fun a b h=>by unfold xO; rw [if_pos (by simp only [maxLen]; omega)]
 induction n with
 | zero =>
  intro x t h0 h1 _ ht;rw [aAn,if_neg (by simp at h1 ⊢; omega)];rw [cat _ _ (by simp; omega)];exact ⟨_,rfl⟩
 | succ n ih =>
  intro x t h0 h1 hb ht;rw [aAn];by_cases hx:0<x
  ·rw [if_pos (by simpa using hx)];have e:ofBytes [QD .u8 (QD .i64 (48+WN x 10))]=some [UInt8.ofNat (QD .u8 (QD .i64 (48+WN x 10))).toNat]:=by
    unfold ofBytes;rw [if_pos (by simp [QD,IntKind.bits,IntKind.signed]; omega)];rfl
   rw [e];simp only [QB,QA];rw [cat _ _ (by simp; omega)];simp only [QA];have ed:Int.tdiv x 10=x / 10:=Int.tdiv_eq_ediv_of_nonneg (by omega);have ed2:x / 10<10 ^ n:=by
    have:x<10 ^ n * 10:=by rw [Int.pow_succ] at h1; exact h1
    exact Int.ediv_lt_of_lt_mul (by omega) this
   rw [ed,cZ (by omega) (by omega)];exact ih _ _ (by omega) ed2 (by omega) (by simp; omega)
  ·rw [if_neg (by simpa using hx)];rw [cat _ _ (by simp; omega)];exact ⟨_,rfl⟩
def mt (k:Int):List UInt8:=(tL k).getD []
theorem aBc {k:Int} (h0:0≤k) (h1:k≤1000000000000000):tL k=some (mt k):=by
 have:∃ s,tL k=some s:=by
  unfold tL;split
  ·exact ⟨_,rfl⟩
  ·exact cBb 20 k [] h0 (by omega) h1 (by simp)
 obtain ⟨s,hs⟩:=this;simp [mt,hs]
theorem cAz {α:Type} {LM:Int→Int→List α→Option (Int×List α)} {LH:List α→Int→Int→Option Int} {z:α→Nat} {B:Int}
  (hend:∀ k (m:List α),LM k (m.length:Int) m=some (k,m)) (hend2:∀ k (m:List α),LH m k (m.length:Int)=some k) :
  ∀ (r:Nat) (i:Nat) (m:List α) (k:Int),m.length=i+r→m.length≤1048576 →
  (∀ y∈m.drop i,∀ k,0≤k→k+13 * (1+z y:Nat)≤B→∃ k1 y',k≤k1∧k1≤k+13 * (1+z y:Nat) ∧
   (∀ (m:List α) (i:Nat),i<m.length→m.length≤1048576→m[i]?=some y→LM k (i:Int) m=LM k1 ((i+1:Nat):Int) (m.set i y')) ∧
   (∀ (M:List α) (i:Nat),i<M.length→M.length≤1048576→M[i]?=some y'→LH M k (i:Int)=LH M k1 ((i+1:Nat):Int))) →
  0≤k→k+13 * ((m.drop i).length+((m.drop i).map z).sum:Nat)≤B →
  ∃ m' k',LM k (i:Int) m=some (k',m')∧m'.length=m.length∧m'.take i=m.take i∧(∀ M:List α,M.length=m'.length→M.drop i=m'.drop i→LH M k (i:Int)=some k')∧k≤k'∧k'≤k+13 * ((m.drop i).length+((m.drop i).map z).sum:Nat):=by
 intro r
 induction r with
 | zero =>
  intro i m k hl _ _ h0 hk;have e:i=m.length:=by omega
  subst e;refine ⟨m,k,hend k m,rfl,rfl,fun M hM _=>?_,by omega,by simp⟩;rw [← hM]; exact hend2 k M
 | succ r ih =>
  intro i m k hl hsm H h0 hk;have hi:i<m.length:=by omega
  have hd:m.drop i=m[i]::m.drop (i+1):=QL hi;rw [hd] at hk H;simp only [QG,WJ,WW] at hk;obtain ⟨k1,y',a1,a2,a3,a4⟩:=H m[i] XX k h0 (by omega);have hset:(m.set i y').drop (i+1)=m.drop (i+1):=XY (by omega);obtain ⟨m',k',b1,b2,b3,b4,b5,b6⟩:=ih (i+1) (m.set i y') k1 (by simp; omega) (by simpa using hsm) (by rw [hset]; exact fun y hy=>H y (QX _ hy)) (by omega) (by rw [hset]; omega);rw [hset] at b6;rw [List.length_set] at b2;have hm'i:m'[i]?=some y':=by
   have:(m'.take (i+1))[i]?=((m.set i y').take (i+1))[i]?:=by rw [b3]
   rw [XZ (by omega),XZ (by omega)] at this;rw [this]; simp [hi]
  refine ⟨m',k',?_,b2,?_,fun M hM hMd=>?_,by omega,?_⟩
  ·rw [a3 m i hi hsm (by simp [hi]),b1]
  ·have:(m'.take (i+1)).take i=((m.set i y').take (i+1)).take i:=by rw [b3]
   rw [YA,YA,Nat.min_eq_left (by omega),List.take_set_of_le (QY _)] at this;exact this
  ·have hMi:M[i]?=some y':=by
    have:(M.drop i)[0]?=(m'.drop i)[0]?:=by rw [hMd]
    simpa [hm'i] using this
   rw [a4 M i (by omega) (by omega) hMi];refine b4 M hM ?_;have:(M.drop i).drop 1=(m'.drop i).drop 1:=by rw [hMd]
   simpa [List.drop_drop,Nat.add_comm] using this
  ·rw [hd];simp only [QG,WJ,WW]; omega
theorem bI4 {α:Type} {LM:Int→Int→List α→Option (Int×List α)} {LH:List α→Int→Int→Option Int} {z:α→Nat} {B:Int}
  (hend:∀ k (m:List α),LM k (m.length:Int) m=some (k,m)) (hend2:∀ k (m:List α),LH m k (m.length:Int)=some k) (l:List α) (k:Int) (hl:l.length≤1048576)
  (H:∀ y∈l,∀ k,0≤k→k+13 * (1+z y:Nat)≤B→∃ k1 y',k≤k1∧k1≤k+13 * (1+z y:Nat) ∧
   (∀ (m:List α) (i:Nat),i<m.length→m.length≤1048576→m[i]?=some y→LM k (i:Int) m=LM k1 ((i+1:Nat):Int) (m.set i y')) ∧
   (∀ (M:List α) (i:Nat),i<M.length→M.length≤1048576→M[i]?=some y'→LH M k (i:Int)=LH M k1 ((i+1:Nat):Int)))
  (h0:0≤k) (hk:k+13 * (l.length+(l.map z).sum:Nat)≤B) :
  ∃ l' k',LM k 0 l=some (k',l')∧LH l' k 0=some k'∧k≤k'∧k'≤k+13 * (l.length+(l.map z).sum:Nat):=by
 obtain ⟨m',k',b1,b2,b3,b4,b5,b6⟩:=cAz (z:=z) (B:=B) hend hend2 l.length 0 l k (by omega) hl (by simpa using H) h0 (by simpa using hk);exact ⟨m',k',by simpa using b1,by simpa using b4 m' rfl rfl,b5,by simpa using b6⟩
theorem cKw {α:Type} {L:Int→Int→List α→Option (Int×List α)} {z:α→Nat} (hend:∀ k (m:List α),L k (m.length:Int) m=some (k,m)) :
  ∀ (r:Nat) (i:Nat) (m:List α) (k:Int),m.length=i+r→m.length≤1048576 →
  (∀ y∈m.drop i,∀ k:Int,0≤k→k+13 * (1+z y:Nat)≤1000000000→∃ k1 y',k≤k1∧k1≤k+13 * (1+z y:Nat)∧(∀ (m:List α) (i:Nat),i<m.length→m.length≤1048576→m[i]?=some y→L k (i:Int) m=L k1 ((i+1:Nat):Int) (m.set i y'))) →
  0≤k→k+13 * ((m.drop i).length+((m.drop i).map z).sum:Nat)≤1000000000→∃ m' k',L k (i:Int) m=some (k',m')∧k≤k'∧k'≤k+13 * ((m.drop i).length+((m.drop i).map z).sum:Nat):=by
 intro r
 induction r with
 | zero =>
  intro i m k hl _ _ h0 hk;have e:i=m.length:=by omega
  subst e;exact ⟨m,k,hend k m,by omega,by simp⟩
 | succ r ih =>
  intro i m k hl hsm H h0 hk;have hi:i<m.length:=by omega
  have hd:m.drop i=m[i]::m.drop (i+1):=QL hi;rw [hd] at hk H;simp only [QG,WJ,WW] at hk;obtain ⟨k1,y',a1,a2,a3⟩:=H m[i] XX k h0 (by omega);have hset:(m.set i y').drop (i+1)=m.drop (i+1):=XY (by omega);obtain ⟨m',k',b1,b5,b6⟩:=ih (i+1) (m.set i y') k1 (by simp; omega) (by simpa using hsm) (by rw [hset]; exact fun y hy=>H y (QX _ hy)) (by omega) (by rw [hset]; omega);rw [hset] at b6;refine ⟨m',k',?_,by omega,?_⟩
  ·rw [a3 m i hi hsm (by simp [hi]),b1]
  ·rw [hd];simp only [QG,WJ,WW]; omega
theorem E8 {α:Type} {L:Int→Int→List α→Option (Int×List α)} {z:α→Nat} (hend:∀ k (m:List α),L k (m.length:Int) m=some (k,m)) (l:List α) (k:Int) (hl:l.length≤1048576)
  (H:∀ y∈l,∀ k:Int,0≤k→k+13 * (1+z y:Nat)≤1000000000→∃ k1 y',k≤k1∧k1≤k+13 * (1+z y:Nat)∧(∀ (m:List α) (i:Nat),i<m.length→m.length≤1048576→m[i]?=some y→L k (i:Int) m=L k1 ((i+1:Nat):Int) (m.set i y')))
  (h0:0≤k) (hk:k+13 * (l.length+(l.map z).sum:Nat)≤1000000000):∃ l' k',L k 0 l=some (k',l')∧k≤k'∧k'≤k+13 * (l.length+(l.map z).sum:Nat):=by
 obtain ⟨m',k',b1,b5,b6⟩:=cKw (z:=z) hend l.length 0 l k (by omega) hl (by simpa using H) h0 (by simpa using hk);exact ⟨m',k',by simpa using b1,b5,by simpa using b6⟩
theorem w1 {j:Int} (h0:0≤j) (h1:j≤1000000000000):QD .i64 (j+1)=j+1:=cZ (by omega) (by omega)
theorem aHq {α:Type} {z:α→Nat} {l:List α} {y:α} (h:y∈l):z y+1≤zL z l:=by
 have h1:=mH (z:=z) h;have h2:=XC h;unfold zL; omega
theorem zXp (x:aJ):zL bI x.kids+zL dW x.sub≤bI x:=by
 obtain ⟨a0,a1,a2,⟨b0,b1,b2⟩,a4,a5,a6,a7⟩:=x;simp only [bI,eX,I7,aSg,zL]; omega
theorem zPp (q:aQ):zL z0 q.tables+zL (zL bI) q.on_+zL bI q.where_+zL iB q.order+zL bI q.items+zL WM q.names≤dW q:=by
 obtain ⟨a0,a1,a2,a3,a4,a5,a6,a7⟩:=q;simp only [dW,I7,aSc,aN8,zL]; omega
theorem zSp (k:bD):bI k.expr≤iB k:=by obtain ⟨a,b⟩:=k; simp only [iB]; omega
def MK {α:Type} (M:List α→Int→Option (Int×List α)) (z:α→Nat) (l:List α):Prop :=
 ∀ k:Int,0≤k→k+13 * (zL z l:Nat)≤1000000000→∃ l' k',M l k=some (k',l')∧True∧k≤k'∧k'≤k+13 * (zL z l:Nat)
def MX (l:List aJ):Prop:=MK vO bI l
def MP (l:List aQ):Prop:=MK aEs dW l
theorem bOg (l:List Int) (hl:l.length≤1048576):MK aFs z0 l:=by
 intro k h0 hk;refine Exists.elim (E8 (L:=fun k i m=>H8 k i m) (z:=z0) (fun k m=>by rw [H8]; simp) l k hl ?_ h0 hk) fun l' hx=>Exists.elim hx fun k' ⟨a1,a3,a4⟩=>⟨l',k',by rw [aFs]; exact a1,trivial,a3,a4⟩
 intro y hy k h0 hk;refine ⟨k+1,k,by omega,by omega,fun m i hi hm hg=>?_⟩
 ·show H8 k (i:Int) m=_;rw [H8];simp (disch:=omega) only [bU,hi,decide_true,if_true,oZ,hg,QB,QA,w1,QT];rfl
theorem bFp (l:List (List UInt8)) (hl:l.length≤1048576):MK aEr WM l:=by
 intro k h0 hk;refine Exists.elim (E8 (L:=fun k i m=>yR k i m) (z:=WM) (fun k m=>by rw [yR]; simp) l k hl ?_ h0 hk) fun l' hx=>Exists.elim hx fun k' ⟨a1,a3,a4⟩=>⟨l',k',by rw [aEr]; exact a1,trivial,a3,a4⟩
 intro y hy k h0 hk;refine ⟨k+1,mt k,by omega,by omega,fun m i hi hm hg=>?_⟩
 ·show yR k (i:Int) m=_;rw [yR];simp (disch:=omega) only [bU,hi,decide_true,if_true,oZ,hg,QB,QA,w1,aBc,QT];rfl
theorem bK4 {l:List aJ} (hl:l.length≤1048576) (hE:∀ y∈l,MX y.kids) (hQ:∀ y∈l,MP y.sub):MX l:=by
 intro k h0 hk;refine Exists.elim (E8 (L:=fun k i m=>R9 k i m) (z:=bI) (fun k m=>by rw [R9]; simp) l k hl ?_ h0 hk) fun l' hx=>Exists.elim hx fun k' ⟨a1,a3,a4⟩=>⟨l',k',by rw [vO]; exact a1,trivial,a3,a4⟩
 intro y hy k h0 hk;have hzE:=zXp y;obtain ⟨la,ka,b1,b2,b3,b4⟩:=hE y hy (k+1+1+1+1+1+1+1+1) (by omega) (by omega);obtain ⟨lb,kb,c1,c2,c3,c4⟩:=hQ y hy ka (by omega) (by omega);have n1:¬ ka<0:=by omega
 have n2:¬ kb<0:=by omega
 refine ⟨kb,aJ.mk k (k+1) (decide (WN (k+1+1) 3=0)) ⟨k+1+1+1,k+1+1+1+1,mt (k+1+1+1+1+1)⟩ (k+1+1+1+1+1+1) (k+1+1+1+1+1+1+1) la lb,by omega,by omega,fun m i hi hm hg=>?_⟩
 ·show R9 k (i:Int) m=_;rw [R9];simp (disch:=omega) only [bU,hi,decide_true,if_true,oZ,hg,QB,QA,w1,aBc,b1,c1,QT];rfl
theorem bMw {l:List (List aJ)} (hl:l.length≤1048576) (hE:∀ y∈l,MX y):MK aAy (zL bI) l:=by
 intro k h0 hk;refine Exists.elim (E8 (L:=fun k i m=>R3 k i m) (z:=zL bI) (fun k m=>by rw [R3]; simp) l k hl ?_ h0 hk) fun l' hx=>Exists.elim hx fun k' ⟨a1,a3,a4⟩=>⟨l',k',by rw [aAy]; exact a1,trivial,a3,a4⟩
 intro y hy k h0 hk;obtain ⟨la,ka,b1,b2,b3,b4⟩:=hE y hy k (by omega) (by omega);have n1:¬ ka<0:=by omega
 refine ⟨ka,la,by omega,by omega,fun m i hi hm hg=>?_⟩
 ·show R3 k (i:Int) m=_;rw [R3];simp (disch:=omega) only [bU,hi,decide_true,if_true,oZ,hg,QB,QA,w1,b1,QT];rfl
theorem bGa {l:List bD} (hl:l.length≤1048576) (hE:∀ y∈l,MX y.expr.kids) (hQ:∀ y∈l,MP y.expr.sub):MK aBm iB l:=by
 intro k h0 hk;refine Exists.elim (E8 (L:=fun k i m=>A9 k i m) (z:=iB) (fun k m=>by rw [A9]; simp) l k hl ?_ h0 hk) fun l' hx=>Exists.elim hx fun k' ⟨a1,a3,a4⟩=>⟨l',k',by rw [aBm]; exact a1,trivial,a3,a4⟩
 intro y hy k h0 hk;have hzE:=zXp y.expr;have hzI:=zSp y;obtain ⟨la,ka,b1,b2,b3,b4⟩:=hE y hy (k+1+1+1+1+1+1+1+1) (by omega) (by omega);obtain ⟨lb,kb,c1,c2,c3,c4⟩:=hQ y hy ka (by omega) (by omega);have n1:¬ ka<0:=by omega
 have n2:¬ kb<0:=by omega
 refine ⟨kb+1,bD.mk (aJ.mk k (k+1) (decide (WN (k+1+1) 3=0)) ⟨k+1+1+1,k+1+1+1+1,mt (k+1+1+1+1+1)⟩ (k+1+1+1+1+1+1) (k+1+1+1+1+1+1+1) la lb) (decide (WN kb 3=0)),by omega,by omega,fun m i hi hm hg=>?_⟩
 ·show A9 k (i:Int) m=_;rw [A9];simp (disch:=omega) only [bU,hi,decide_true,if_true,oZ,hg,QB,QA,w1,aBc,b1,c1,QT];rfl
theorem bKn {l:List aQ} (hl:l.length≤1048576) (h1:∀ y∈l,y.tables.length≤1048576) (h2:∀ y∈l,MK aAy (zL bI) y.on_) (h3:∀ y∈l,MX y.where_) (h4:∀ y∈l,MK aBm iB y.order) (h5:∀ y∈l,MX y.items) (h6:∀ y∈l,y.names.length≤1048576):MP l:=by
 intro k h0 hk;refine Exists.elim (E8 (L:=fun k i m=>R5 k i m) (z:=dW) (fun k m=>by rw [R5]; simp) l k hl ?_ h0 hk) fun l' hx=>Exists.elim hx fun k' ⟨a1,a3,a4⟩=>⟨l',k',by rw [aEs]; exact a1,trivial,a3,a4⟩
 intro y hy k h0 hk;have hz:=zPp y;obtain ⟨l1,k1,b1,b2,b3,b4⟩:=bOg y.tables (h1 y hy) k (by omega) (by omega);obtain ⟨l2,k2,c1,c2,c3,c4⟩:=h2 y hy k1 (by omega) (by omega);obtain ⟨l3,k3,d1,d2,d3,d4⟩:=h3 y hy k2 (by omega) (by omega);obtain ⟨l4,k4,e1,e2,e3,e4⟩:=h4 y hy k3 (by omega) (by omega);obtain ⟨l5,k5,f1,f2,f3,f4⟩:=h5 y hy k4 (by omega) (by omega);obtain ⟨l6,k6,g1,g2,g3,g4⟩:=bFp y.names (h6 y hy) k5 (by omega) (by omega);have n1:¬ k1<0:=by omega
 have n2:¬ k2<0:=by omega
 have n3:¬ k3<0:=by omega
 have n4:¬ k4<0:=by omega
 have n5:¬ k5<0:=by omega
 have n6:¬ k6<0:=by omega
 refine ⟨k6+1+1,aQ.mk l1 l2 l3 l4 l5 l6 (decide (WN k6 3=0)) (k6+1),by omega,by omega,fun m i hi hm hg=>?_⟩
 ·show R5 k (i:Int) m=_;rw [R5];simp (disch:=omega) only [bU,hi,decide_true,if_true,oZ,hg,QB,QA,w1,b1,c1,d1,e1,f1,g1,QT];rfl
theorem U8 {α:Type} {z:α→Nat} (l:List α):l.length≤zL z l:=by unfold zL; omega
theorem cE4:∀ n:Nat,n≤1048576→(∀ l:List aJ,zL bI l≤n→MX l)∧(∀ l:List aQ,zL dW l≤n→MP l):=by
 intro n
 induction n with
 | zero =>
  intro _;refine ⟨fun l h=>?_,fun l h=>?_⟩
  ·have:l=[]:=QO (by have:=U8 (z:=bI) l; omega);subst this; exact bK4 (by simp) (by simp) (by simp)
  ·have:l=[]:=QO (by have:=U8 (z:=dW) l; omega);subst this; exact bKn (by simp) (by simp) (by simp) (by simp) (by simp) (by simp) (by simp)
 | succ n ih =>
  intro hn;obtain ⟨i1,i2⟩:=ih (by omega);refine ⟨fun l h=>bK4 (by have:=U8 (z:=bI) l; omega) (fun y hy=>i1 _ ?_) (fun y hy=>i2 _ ?_),fun l h=>?_⟩
  ·have:=aHq (z:=bI) hy; have:=zXp y; omega
  ·have:=aHq (z:=bI) hy; have:=zXp y; omega
  ·have key:∀ y∈l,zL z0 y.tables+zL (zL bI) y.on_+zL bI y.where_+zL iB y.order+zL bI y.items+zL WM y.names≤n:=fun y hy=>by have:=aHq (z:=dW) hy; have:=zPp y; omega
   refine bKn (by have:=U8 (z:=dW) l; omega) (fun y hy=>?_) (fun y hy=>bMw ?_ fun x hx=>i1 _ ?_) (fun y hy=>i1 _ ?_) (fun y hy=>bGa ?_ (fun x hx=>i1 _ ?_) fun x hx=>i2 _ ?_) (fun y hy=>i1 _ ?_) (fun y hy=>?_)
   ·have:=key y hy; have:=U8 (z:=z0) y.tables; omega
   ·have:=key y hy; have:=U8 (z:=zL bI) y.on_; omega
   ·have:=key y hy; have:=aHq (z:=zL bI) hx; omega
   ·have:=key y hy; omega
   ·have:=key y hy; have:=U8 (z:=iB) y.order; omega
   ·have:=key y hy; have:=aHq (z:=iB) hx; have:=zSp x; have:=zXp x.expr; omega
   ·have:=key y hy; have:=aHq (z:=iB) hx; have:=zSp x; have:=zXp x.expr; omega
   ·have:=key y hy; omega
   ·have:=key y hy; have:=U8 (z:=WM) y.names; omega
theorem bWz (l:List bP) (hl:l.length≤1048576):MK aMn jF l:=by
 intro k h0 hk;refine Exists.elim (E8 (L:=fun k i m=>C8 k i m) (z:=jF) (fun k m=>by rw [C8]; simp) l k hl ?_ h0 hk) fun l' hx=>Exists.elim hx fun k' ⟨a1,a3,a4⟩=>⟨l',k',by rw [aMn]; exact a1,trivial,a3,a4⟩
 intro y hy k h0 hk;refine ⟨k+1+1,bP.mk (mt k) (k+1),by omega,by omega,fun m i hi hm hg=>?_⟩;show C8 k (i:Int) m=_;rw [C8];simp (disch:=omega) only [bU,hi,decide_true,if_true,oZ,hg,QB,QA,w1,aBc,QT];rfl
theorem bUf (l:List bH) (hl:l.length≤1048576) (hc:∀ y∈l,y.cols.length≤1048576):MK aM2 gM l:=by
 intro k h0 hk;refine Exists.elim (E8 (L:=fun k i m=>D6 k i m) (z:=gM) (fun k m=>by rw [D6]; simp) l k hl ?_ h0 hk) fun l' hx=>Exists.elim hx fun k' ⟨a1,a3,a4⟩=>⟨l',k',by rw [aM2]; exact a1,trivial,a3,a4⟩
 intro y hy k h0 hk;have hzT:zL jF y.cols≤gM y:=by obtain ⟨a,b⟩:=y; simp only [gM]; omega
 obtain ⟨la,ka,b1,_,b3,b4⟩:=bWz y.cols (hc y hy) (k+1) (by omega) (by omega);refine ⟨ka,bH.mk (mt k) la,by omega,by omega,fun m i hi hm hg=>?_⟩;show D6 k (i:Int) m=_;rw [D6];simp (disch:=omega) only [bU,hi,decide_true,if_true,oZ,hg,QB,QA,w1,aBc,b1,QT];rfl
def MKh {α:Type} (M:List α→Int→Option (Int×List α)) (H:List α→Int→Option Int) (z:α→Nat) (l:List α):Prop :=
 ∀ k:Int,0≤k→k+13 * (zL z l:Nat)≤1000000000→∃ l' k',M l k=some (k',l')∧H l' k=some k'∧k≤k'∧k'≤k+13 * (zL z l:Nat)
theorem cJd (l:List aA) (hl:l.length≤1048576):MKh aJu aJ5 z0 l:=by
 intro k h0 hk;refine Exists.elim (bI4 (LM:=fun k i m=>zY k i m) (LH:=fun m k i=>yV m k i) (z:=z0) (B:=1000000000) (fun k m=>by rw [zY]; simp) (fun k m=>by rw [yV]; simp) l k hl ?_ h0 hk) fun l' hx=>Exists.elim hx fun k' ⟨a1,a2,a3,a4⟩=>⟨l',k',by rw [aJu]; exact a1,by rw [aJ5]; exact a2,a3,a4⟩
 intro y hy k h0 hk;refine ⟨k+1+1+1,aA.mk k (k+1) (mt (k+1+1)),by omega,by omega,fun m i hi hm hg=>?_,fun M i hi hm hg=>?_⟩
 ·show zY k (i:Int) m=_;rw [zY];simp (disch:=omega) only [bU,hi,decide_true,if_true,oZ,hg,QB,QA,w1,aBc,QT];rfl
 ·show yV M k (i:Int)=_;rw [yV];simp (disch:=omega) only [bU,hi,decide_true,if_true,oZ,hg,QB,QA,w1,aBc,eq_self,QH,QE,if_false,decide_false];rfl
theorem bL9 (l:List (List aA)) (hl:l.length≤1048576) (hr:∀ y∈l,y.length≤1048576):MKh aFa aI3 (zL z0) l:=by
 intro k h0 hk;refine Exists.elim (bI4 (LM:=fun k i m=>G6 k i m) (LH:=fun m k i=>zR m k i) (z:=zL z0) (B:=1000000000) (fun k m=>by rw [G6]; simp) (fun k m=>by rw [zR]; simp) l k hl ?_ h0 hk) fun l' hx=>Exists.elim hx fun k' ⟨a1,a2,a3,a4⟩=>⟨l',k',by rw [aFa]; exact a1,by rw [aI3]; exact a2,a3,a4⟩
 intro y hy k h0 hk;obtain ⟨la,ka,b1,b2,b3,b4⟩:=cJd y (hr y hy) k h0 (by omega);have n1:¬ ka<0:=by omega
 refine ⟨ka,la,by omega,by omega,fun m i hi hm hg=>?_,fun M i hi hm hg=>?_⟩
 ·show G6 k (i:Int) m=_;rw [G6];simp (disch:=omega) only [bU,hi,decide_true,if_true,oZ,hg,QB,QA,w1,b1,QT];rfl
 ·show zR M k (i:Int)=_;rw [zR];simp (disch:=omega) only [bU,hi,decide_true,if_true,oZ,hg,QB,QA,w1,b2,n1,decide_false,QE,if_false];rfl
theorem cBl (l:List aA):zL z0 l≤zL eX l:=by
 unfold zL;have:(l.map z0).sum=0:=by
  induction l with
  | nil=>rfl
  | cons x l ih=>rw [wI,ih]; rfl
 omega
theorem bEy:∀ l:List (List aA),zL (zL z0) l≤zL (zL eX) l
 | []=>by simp [zL]
 | x::l=>by
  have h1:=cBl x;have h2:=bEy l;unfold zL at h2 ⊢;simp only [QG,wI];unfold zL at h1;omega
theorem bRx (l:List bN) (hl:l.length≤1048576) (hr:∀ y∈l,y.rows.length≤1048576∧∀ r∈y.rows,r.length≤1048576):MK aJl gX l:=by
 intro k h0 hk;refine Exists.elim (E8 (L:=fun k i m=>I9 k i m) (z:=gX) (fun k m=>by rw [I9]; simp) l k hl ?_ h0 hk) fun l' hx=>Exists.elim hx fun k' ⟨a1,a3,a4⟩=>⟨l',k',by rw [aJl]; exact a1,trivial,a3,a4⟩
 intro y hy k h0 hk;have hzT:zL (zL eX) y.rows=gX y:=by obtain ⟨a⟩:=y; simp only [gX]
 have hzz:=bEy y.rows;obtain ⟨la,ka,b1,_,b3,b4⟩:=bL9 y.rows (hr y hy).1 (hr y hy).2 k h0 (by omega);refine ⟨ka,bN.mk la,by omega,by omega,fun m i hi hm hg=>?_⟩;show I9 k (i:Int) m=_;rw [I9];simp (disch:=omega) only [bU,hi,decide_true,if_true,oZ,hg,QB,QA,w1,b1,QT];rfl
theorem bQo {d:GDb} {ev:aJ→Gf} {p:aQ}:∀ y∈(xX d ev p).1,y.length≤p.items.length:=by
 intro y hy;unfold xX at hy;split at hy
 ·simp at hy
 unfold aHh at hy;split at hy
 ·simp at hy
 split at hy
 ·simp at hy
 split at hy
 ·simp at hy
 split at hy
 ·simp at hy
 have items:∀ r:Rows,∀ z∈(oM (nU d ev p).is r).1,z.length≤p.items.length:=fun r z hz=>by
  obtain ⟨x,_,rfl,_⟩:=aB0 hz;refine QZ (aFu _) ?_;show (p.items.map ev).length≤_;rw [WF]; omega
 dsimp only at hy;have lt:∀ (n:Int) (r:Rows),∀ z∈P9 n r,z∈r:=fun n r z hz=>by
  unfold P9 at hz;split at hz
  ·exact XM _ _ hz
  ·exact hz
 unfold xQ at hy;have h2:=lt _ _ _ hy;split at h2
 ·rcases aSa h2 with h | h
  ·simp at h
  ·exact items _ y h
 ·exact items _ y h2
theorem cLn {c:aX} (hs:F9 c) {d:GDb} {p:aQ} (hz:dW p≤1048576):∀ y∈(Q5 c d p).1,y.length≤12:=by
 intro y hy;unfold Q5 at hy;split at hy
 case isFalse=>simp at hy
 rename_i h;obtain ⟨b,w1,w2⟩:=bH6 c hs p (by omega);have eb:wtB c p=b:=by unfold wtB; rw [w2]; rfl
 simp only [QF] at h;rw [eb] at h;rw [h.1] at w1;obtain ⟨_,hcP,_,_,ts,hT⟩:=bM4 hs (by omega) w1;have tp:=bE5 (aVq hcP) (by simp) (by omega) hT;have hpB:=tp.pB;unfold vP at hpB;simp only [QF,decide_eq_true_eq] at hpB;have:=bQo y hy;omega
theorem eqV (v:aA):wF v v=some true:=by simp [wF]
theorem bS5 (R:Rows) (hl:R.length≤1048576) (hr:∀ y∈R,y.length≤1048576):vC R R=some true :=
 pW (E:=Y8) hl (by rw [vC]) (fun i=>by rw [aDi]) fun y hy=>pW (E:=wF) (hr y hy) (by rw [Y8]) (fun i=>by rw [aC0]) fun v _=>eqV v
theorem bIc:∀ R:Rows,(∀ y∈R,y.length≤12)→zL (zL z0) R≤13 * R.length
 | [],_=>by simp [zL]
 | x::R,h=>by
  have h1:=bIc R fun y hy=>h y (QX _ hy);have h2:=h x (by simp);have h3:zL z0 x=x.length:=by
   unfold zL;have:(x.map z0).sum=0:=by
    clear h h1 h2
    induction x with
    | nil=>rfl
    | cons a l ih=>rw [wI,ih]; rfl
   omega
  unfold zL at h1 ⊢;simp only [QG,wI];unfold zL at h3;omega
theorem okVs {R:Row1} (h:okL okGValue R):∀ v∈R,okI v.num:=fun v hv=>(h.2 v hv).2.1
theorem cHj (c:aX) (oc:okGCatalog c) (d:GDb) (od:okGDb d) (p:aQ) (op:okGPlan p):aIm c d p=some true:=by
 unfold aIm;rw [cPo c oc 1048576 (by omega) (by omega)];simp only [QB,QA];by_cases hz:(pU c:Int)≤1048576
 case neg=>rw [if_neg hz]; simp
 rw [if_pos hz,if_neg (by simp; omega)];rw [cM0 d od _ (by omega) (by omega)];simp only [QA];by_cases hz2:(rO d:Int)≤1048576 - (pU c:Int)
 case neg=>rw [if_neg hz2]; simp
 rw [if_pos hz2,if_neg (by simp; omega)];rw [bNp p op _ (by omega) (by omega)];simp only [QA];by_cases hz3:(dW p:Int)≤1048576 - (pU c:Int) - (rO d:Int)
 case neg=>rw [if_neg hz3]; simp
 rw [if_pos hz3,if_neg (by simp; omega)];have hc:F9 c:=by
  obtain ⟨ts⟩:=c;simp only [pU] at hz;refine ⟨by dsimp only; have:=kJ (z:=gM) ts; omega,fun t ht=>?_⟩;have:=sS (z:=gM) ht;obtain ⟨n,cs⟩:=t;simp only [gM] at this;have:=kJ (z:=jF) cs;dsimp only; omega
 have hd:aXd d:=by
  obtain ⟨ts⟩:=d;simp only [rO] at hz2;refine ⟨by dsimp only; have:=kJ (z:=gX) ts; omega,fun t ht=>?_⟩;have h1:=sS (z:=gX) ht;obtain ⟨rs⟩:=t;simp only [gX] at h1;have h2:=kJ (z:=zL eX) rs;refine ⟨by dsimp only; omega,fun r hr=>?_⟩;have hr':r∈rs:=hr;have:=sS (z:=zL eX) hr';have:=kJ (z:=eX) r;omega
 have hv:∀ t∈d.tables,∀ r∈t.rows,∀ v∈r,okI v.num:=by
  obtain ⟨ts⟩:=d;simp only [okGDb] at od;intro t ht r hr;have ot:=od.2 t ht;obtain ⟨rs⟩:=t;simp only [okGData] at ot;exact okVs (ot.2 r hr)
 have hzp:dW p≤1048576:=by omega
 obtain ⟨r1,r2,r3⟩:=cCw hc hd hv op hzp (fun ne=>by
  obtain ⟨ts⟩:=c;simp only [pU] at hz3;have:=kJ (z:=gM) ts;have:0<ts.length:=List.length_pos_iff.2 ne;omega)
 have r4:=cLn (d:=d) hc hzp;have r5:∀ y∈(Q5 c d p).1,y.length≤1048576:=fun y hy=>by have:=r4 y hy; omega
 have ev:=bS5 _ r3 r5;have zc:pU c=zL gM c.tables:=by obtain ⟨ts⟩:=c; simp only [pU]
 have zd:rO d=zL gX d.tables:=by obtain ⟨ts⟩:=d; simp only [rO]
 obtain ⟨tl,kt,t1,_,t2,t3⟩:=bUf c.tables hc.1 hc.2 1 (by omega) (by omega);have mc:aIa c 1=some (kt,tl):=by rw [aIa,t1]; rfl
 obtain ⟨dl,kd,d1,_,d2,d3⟩:=bRx d.tables hd.1 hd.2 kt (by omega) (by omega);have md:aKs d kt=some (kd,dl):=by rw [aKs,d1]; rfl
 have hpz:=zPp p;have hl:=aM8 p;obtain ⟨mE,mQ⟩:=cE4 1048576 (by omega);obtain ⟨l1,k1,a1,_,a2,a3⟩:=bOg p.tables (by omega) kd (by omega) (by omega);obtain ⟨l2,k2,b1,_,b2,b3⟩:=bMw (l:=p.on_) (by omega) (fun y hy=>mE y (by have:=sS (z:=zL bI) hy; omega)) k1 (by omega) (by omega);obtain ⟨l3,k3,c1,_,c2,c3⟩:=mE p.where_ (by omega) k2 (by omega) (by omega);obtain ⟨l4,k4,e1,_,e2,e3⟩:=bGa (l:=p.order) (by omega) (fun y hy=>mE _ (by have:=sS (z:=iB) hy; have:=zSp y; have:=zXp y.expr; omega)) (fun y hy=>mQ _ (by have:=sS (z:=iB) hy; have:=zSp y; have:=zXp y.expr; omega)) k3 (by omega) (by omega);obtain ⟨l5,k5,f1,_,f2,f3⟩:=mE p.items (by omega) k4 (by omega) (by omega);obtain ⟨l6,k6,g1,_,g2,g3⟩:=bFp p.names (by omega) k5 (by omega) (by omega);have mp:aMj p kd=some (k6,l1,l2,l3,l4,l5,l6):=by rw [aMj,a1]; simp only [QB,QA,b1,c1,e1,f1,g1]
 have n6:¬ k6<0:=by omega
 have hzr:=bIc _ r4;obtain ⟨vl,kv,v1,v2,v3,_⟩:=bL9 (Q5 c d p).1 r3 r5 1 (by omega) (by omega);have nv:¬ kv<0:=by omega
 rw [cIt c (by omega),cN5 d (by omega),bFs p (by omega),bZv c (by omega),cN2 d (by omega),bHd p (by omega)];simp only [QA,r1,r2,ev,decide_true,QH,QE,if_false,cHm c (by omega),bUv d (by omega),bHw p (by omega),mc,md,mp,n6,decide_false,beq_self_eq_true,WA,if_true,v1,v2,nv]
end Go.Ab
