/- What the functions compute,in plain Lean. -/
import Derived.Test.YthcemdafchcehaaGreatLRunTypes0
namespace Go.Ab
open Go
open _root_.Option renaming bind_some→QA,bind_eq_bind→QB,some.injEq→WE,getD_some→WN
open _root_.Bool renaming false_eq_true→QC,not_true→QD,and_eq_true→QG,eq_iff_iff→QI,and_self→QQ,or_self→QZ,false_or→WJ,or_eq_true→WK,not_false→WO,true_and→WP,and_false→WV,true_eq_false→WW
open _root_.List renaming getElem_mem→QE,drop_eq_getElem_cons→QF,length_singleton→QH,zipWith→QK,mem_cons→QL,length_append→QM,drop_zero→QN,mem_cons_of_mem→QO,length_cons→QR,nil_append→QS,length_nil→QT,map_cons→QV,mem_append→QW,drop_length→QX,length_pos_of_mem→QY,append_assoc→WA,singleton_append→WB,mem_map→WC,zipWith_cons_cons→WF,map_nil→WG,mem_flatMap→WH,eq_nil_of_length_eq_zero→WI,sum_cons→WL,mem_map_of_mem→WQ,length_take→WR,getElem?_eq_getElem→WS,all_eq_true→WX,getElem_map→WY,map_append→WZ,append_nil→XA,take_subset→XB,set_cons_succ→XC
open _root_.Nat renaming le_trans→QJ,lt_irrefl→QU,zero_add→WM,pow_le_pow_right→WT,lt_succ_self→WU,succ_mul→XF,le_refl→XG,one_mul→XH
open Go.IntKind renaming wrap→QP
open _root_.Int renaming toNat_natCast→WD,lt_irrefl→XD
section
variable {c:aP} {d:GDb} {env:Rows} {ev:aJ→Gf}
theorem aZw (r:Row1) (hl:env.length≤4194304):aC6 r env=some (r::env):=by
  unfold aC6
  rw [nP (by simp; omega)]; rfl
theorem bXd {x4:List aJ} {x12:Int} {e:aJ} (he:idx x4 x12=some e) (hl:env.length≤4194304) {x3:Rows} (h3:x3.length≤1048576) (H:∀ r∈x3,fH c d (r::env) e=some (ev e r)) :
    ∀ i,i≤x3.length→∀ acc:Rows,acc.length≤i→aB3 env x3 x4 x12 c d (acc,(i:Nat))=if (iU (ev e) (x3.drop i)).2≠0 then some ([],(iU (ev e) (x3.drop i)).2) else X4 env x4 c d (acc++(iU (ev e) (x3.drop i)).1) (QP .i64 (x12+1)):=by
  refine dU ?_ ?_
  · intro acc _
    rw [aB3]; simp [iU]
  · intro i hi ih acc ha
    rw [aB3,QF hi]
    simp only [bV,hi,decide_true,if_true,bF hi,he,aZw _ hl,QB,QA,H _ (QE hi),bN7,iU]
    by_cases h0:(ev e x3[i]).2=0
    · simp only [h0,decide_true,QD,QC,if_false,ne_eq,not_true_eq_false]
      by_cases ht:tru (ev e x3[i]).1=true
      · rw [if_pos ht,sQ (by simp only [QH]; omega)]
        simp only [QA]
        rw [aFj,cK hi (by omega),ih _ (by simp only [QM,QH]; omega)]
        by_cases h1:(iU (ev e) (x3.drop (i+1))).2=0 <;> simp [h1,ht]
      · rw [if_neg ht,aFj,cK hi (by omega),ih _ (by show acc.length≤i+1; omega)]
        by_cases h1:(iU (ev e) (x3.drop (i+1))).2=0 <;> simp [h1,ht]
    · simp [h0]
theorem bHp {P:Row1→Prop} {l:List aJ} (he:env.length≤4194304) (hl:l.length≤1048576) (H:∀ e∈l,∀ r,P r→fH c d (r::env) e=some (ev e r)) (rows:Rows) (hr:rows.length≤1048576) (hP:∀ r∈rows,P r) :
    aCo c d env rows l=some (whE (l.map ev) rows):=by
  have key:∀ i,i≤l.length→∀ rows:Rows,rows.length≤1048576→(∀ r∈rows,P r)→X4 env l c d rows (i:Nat)=some (whE ((l.drop i).map ev) rows):=by
    refine dU ?_ ?_
    · intro rows _ _
      rw [X4]; simp [whE]
    · intro i hi ih rows hr hP
      rw [X4,QF hi]
      simp only [bV,hi,decide_true,if_true,QV,whE]
      have k:=bXd (c:=c) (d:=d) (ev:=ev) (x4:=l) (x12:=(i:Int)) (bF hi) he hr (fun r hr=>H _ (QE hi) r (hP r hr)) 0 (by omega) [] (by simp)
      rw [show ((0:Nat):Int)=0 from rfl,QN,QS] at k
      rw [k,cK hi (by omega)]
      by_cases h1:(iU (ev l[i]) rows).2=0
      · simp only [h1,ne_eq,not_true_eq_false,if_false]
        exact ih _ (QJ (bGp _ _) hr) fun r hr=>hP r ((aDl _ _).subset hr)
      · simp [h1]
  rw [aCo]
  simpa using key 0 (by omega) rows hr hP
theorem bJc (r:Row1) (h:r.length≤1048576):aCf r=some r:=by
  unfold aCf
  rw [nP (by simp only [QT]; omega)]
  rfl
theorem cD8 {x10:Rows} {x11:Int} {t:fP} {i:Nat} {p:aQ} (hi:i<x10.length) (ht:t.rows.length≤1048576) (ha:x10[i].length≤1048576) (hB:∀ x∈t.rows,x.length≤1048576) :
    ∀ j,j≤t.rows.length→∀ acc:Rows,acc.length+t.rows.length≤2097152+j→aBu env x10 x11 t (i:Int) c (d,p,acc,(j:Nat))=R5 env x10 x11 t c d (p,(acc++(t.rows.drop j).map fun b=>x10[i]++b,(QP .i64 ((i:Int)+1)))):=by
  refine dU ?_ ?_
  · intro acc _
    rw [aBu]; simp
  · intro j hj ih acc hacc
    rw [aBu]
    simp only [bV,hj,decide_true,if_true,bF hj,bF hi,bJc _ ha,QB,QA]
    rw [nP (by have:=hB _ (QE hj); omega)]
    simp only [QA]
    rw [sQ (by simp only [QH]; omega)]
    simp only [QA]
    rw [cK hj (by omega),ih _ (by simp only [QM,QH]; omega),QF hj]
    simp only [QV,WA,WB]
theorem bMd {x10:Rows} {x11:Int} {t:fP} {p:aQ} (hx:x10.length * t.rows.length≤1048576) (hx4:x10.length≤1048576) (ht:t.rows.length≤1048576) (h4:∀ x∈x10,x.length≤1048576) (hB:∀ x∈t.rows,x.length≤1048576) :
    ∀ i,i≤x10.length→∀ acc:Rows,acc.length=i * t.rows.length→R5 env x10 x11 t c d (p,acc,(i:Nat))=((idx p.on_ x11)>>=fun (y4:List aJ)=>(aCo c d env (acc++kR (x10.drop i) t.rows) y4)>>=fun (y5:(List (List aA))×Int)=>if (!decide (y5.2=0))=true then (some (([]:List (List aA)),y5.2)) else (M7 env c d p y5.1 (QP .i64 (x11+1)))):=by
  refine dU ?_ ?_
  · intro acc _
    rw [R5]; simp [kR]
  · intro i hi ih acc ha
    rw [R5]
    simp only [bV,hi,decide_true,if_true]
    have hm:(i+1) * t.rows.length≤x10.length * t.rows.length:=Nat.mul_le_mul_right _ hi
    rw [XF] at hm
    have:=cD8 (c:=c) (d:=d) (env:=env) (x11:=x11) (p:=p) hi ht (h4 _ (QE hi)) hB 0 (by omega) acc (by omega)
    rw [show ((0:Nat):Int)=0 from rfl] at this
    rw [this,cK hi (by omega),ih _ (by simp [ha,XF]),QF hi]
    simp only [kR,List.flatMap_cons,WA,QN]
theorem bN0 {p:aQ} {R N:Nat} (hN:N≤1048576) (hd:DbB R d) (he:env.length≤4194304) (hp:aQ5 N R p) (hon:p.on_.length=p.tables.length) (hT:mH d p.tables=true)
    (H:∀ y∈p.on_,∀ e∈y,∀ r,eZ 3 r→fH c d (r::env) e=some (ev e r)) :
    ∀ i,i≤p.tables.length→∀ rows:Rows,rows.length≤R ^ i→(∀ r∈rows,eZ i r)→M7 env c d p rows (i:Nat) =
      some (joE (QK (fun t l=>(rowsOf d t,l.map ev)) (p.tables.drop i) (p.on_.drop i)) rows):=by
  have R1:=hd.R1
  have t3:=hp.t3
  have pw:∀ i,i≤p.tables.length→R ^ i≤N:=fun i hi=>QJ (WT R1 hi) hp.RN
  refine dU ?_ ?_
  · intro rows hr hP
    rw [M7]
    simp [joE]
  · intro i hi ih rows hr hP
    have hio:i<p.on_.length:=by omega
    have pi:=pw i (by omega)
    have ps:=pw (i+1) (by omega)
    have hti:=WX.1 hT _ (QE hi)
    simp only [QG,decide_eq_true_eq] at hti
    obtain ⟨t,e1,e2,e3⟩:=aXs hti.1 hti.2
    have ht:=hd.rows t e3
    have hcl:(kR rows t.rows).length≤R ^ (i+1):=by rw [aH1,Nat.pow_succ]; exact Nat.mul_le_mul hr ht
    have hRN1:R≤1048576:=QJ (QJ (by have:=WT R1 (show 1≤i+1 by omega); simpa using this) ps) hN
    rw [M7,bF hi]
    simp only [bV,hi,decide_true,if_true,QB,QA,e1]
    have j1:=bMd (c:=c) (d:=d) (env:=env) (x11:=(i:Int)) (p:=p) (x10:=rows) (t:=t) (by rw [← aH1]; omega) (by omega) (by omega) (fun y hy=>by have:=(hP y hy).1; omega) (fun y hy=>by have:=(hd.row t e3 y hy).1; omega) 0 (by omega) [] (by simp)
    rw [show ((0:Nat):Int)=0 from rfl] at j1
    rw [j1,bF hio]
    simp only [QB,QA,QN,QS]
    have hcB:∀ r∈kR rows t.rows,eZ (i+1) r:=aPk hP (hd.row t e3)
    rw [bHp he (hp.on1 _ (QE hio)) (fun e he=>H _ (QE hio) e he) _ (by omega) (fun r hr=>yK (by omega) (hcB r hr))]
    simp only [QA]
    rw [QF hi,QF hio,WF,joE,← e2]
    by_cases h0:(whE (p.on_[i].map ev) (kR rows t.rows)).2=0
    · simp only [h0,decide_true,QD,QC,if_false,ne_eq,not_true_eq_false]
      rw [cK hi (by omega)]
      exact ih _ (QJ (aFf _ _) hcl) fun r hr=>hcB r ((wV _ _).subset hr)
    · simp [h0]
theorem bPh (ks:List dI) (hk:ks.length≤1048576) {a b:Row1} (ha:a.length=ks.length) (hb:b.length=ks.length):aHg a b ks=some (tC (ks.map (·.desc)) a b):=by
  have key:∀ i,i≤ks.length→aDh a b ks (i:Nat)=some (tC ((ks.map (·.desc)).drop i) (a.drop i) (b.drop i)):=by
    refine dU ?_ ?_
    · rw [aDh,List.drop_of_length_le (l:=ks.map (·.desc)) (by simp)]; simp [tC]
    · intro i hi ih
      have ia:i<a.length:=by omega
      have ib:i<b.length:=by omega
      have id:i<(ks.map (·.desc)).length:=by simpa using hi
      rw [aDh]
      simp only [bV,hi,decide_true,if_true,bF hi,bF ia,bF ib,QB,QA,aH6]
      rw [QF ia,QF ib,QF id,tC]
      have hr:=bEm a[i] b[i]
      generalize tQ a[i] b[i]=o at hr ⊢
      rw [dY (n:=0 - o) (by omega) (by omega)]
      have J:∀ m:Int,aAz a b ks (i:Int) m=some (if m≠0 then decide (m<0) else tC ((ks.map (·.desc)).drop (i+1)) (a.drop (i+1)) (b.drop (i+1))):=by
        intro m
        rw [aAz]
        by_cases hm:m=0
        · rw [if_neg (by simp [hm]),cK hi (by omega),ih,if_neg (by simp [hm])]
        · rw [if_pos (by simp [hm]),if_pos hm]
      simp only [WY,J]
      by_cases hd:ks[i].desc=true
      · simp only [hd,if_true]
        rw [Int.zero_sub]
      · simp only [hd,QC,if_false]
  unfold aHg
  simpa using key 0 (by omega)
end
section
variable {c:aP} {d:GDb} {env:Rows} {ev:aJ→Gf}
theorem aQs {α:Type} {l:List α} {n:Nat} (h:n≤l.length):iP l (n:Int) (l.length:Int)=some (l.drop n):=by
  unfold iP
  rw [if_pos ⟨by omega,by omega,by omega⟩]
  simp
theorem bZe {ks:List dI} (hk:ks.length≤1048576) {rows:Rows} {i:Nat} (hi:i<rows.length) (hr:rows.length≤1048576) {mine:Row1} (hm:mine.length=ks.length) (K:List aU) (hK:KL ks.length K) (hl:K.length≤1048576) :
    ∀ n,n≤K.length→P9 env rows ks (K.map (·.row)) (K.map (·.keys)) (i:Int) (mine,c,d,(n:Int)) =
      xL env rows ks c d ((K.take (lH (kLt (ks.map (·.desc))) ⟨rows[i],mine⟩ K n)++(⟨rows[i],mine⟩:aU)::K.drop (lH (kLt (ks.map (·.desc))) ⟨rows[i],mine⟩ K n)).map (·.row)) ((K.take (lH (kLt (ks.map (·.desc))) ⟨rows[i],mine⟩ K n)++(⟨rows[i],mine⟩:aU)::K.drop (lH (kLt (ks.map (·.desc))) ⟨rows[i],mine⟩ K n)).map (·.keys),(QP .i64 ((i:Int)+1))):=by
  have fin:∀ n,n≤K.length→((iP (K.map (·.row)) 0 (n:Int))>>=fun (y9:(List (List aA)))=>(appG 24 ([]:List (List aA)) y9)>>=fun (y10:List (List aA))=>(idx rows (i:Int))>>=fun (y11:(List aA))=>(appG 24 y10 ([y11]:List (List aA)))>>=fun (y12:List (List aA))=>(iP (K.map (·.row)) (n:Int) ((K.map (·.row)).length:Int))>>=fun (y13:(List (List aA)))=>(appG 24 y12 y13)>>=fun (y14:List (List aA))=>(iP (K.map (·.keys)) 0 (n:Int))>>=fun (y15:(List (List aA)))=>(appG 24 ([]:List (List aA)) y15)>>=fun (y16:List (List aA))=>(appG 24 y16 ([mine]:List (List aA)))>>=fun (y17:List (List aA))=>(iP (K.map (·.keys)) (n:Int) ((K.map (·.keys)).length:Int))>>=fun (y18:(List (List aA)))=>(appG 24 y17 y18)>>=fun (y19:List (List aA))=>xL env rows ks c d y14 (y19,(QP .i64 ((i:Int)+1)))) =
      xL env rows ks c d ((K.take n++(⟨rows[i],mine⟩:aU)::K.drop n).map (·.row)) ((K.take n++(⟨rows[i],mine⟩:aU)::K.drop n).map (·.keys),(QP .i64 ((i:Int)+1))):=by
    intro n hn
    have h1:n≤(K.map (·.row)).length:=by simpa using hn
    have h2:n≤(K.map (·.keys)).length:=by simpa using hn
    have l1:(K.map (·.row)).length=K.length:=by simp
    have l2:(K.map (·.keys)).length=K.length:=by simp
    rw [aI7 h1,aQs h1,aI7 h2,aQs h2,bF hi]
    simp only [QB,QA]
    have t1:((K.map (·.row)).take n).length≤K.length:=by simp; omega
    have t2:((K.map (·.keys)).take n).length≤K.length:=by simp; omega
    have d1:((K.map (·.row)).drop n).length≤K.length:=by simp
    have d2:((K.map (·.keys)).drop n).length≤K.length:=by simp
    rw [sQ (by simp only [QT]; omega),sQ (l:=[]) (by simp only [QT]; omega)]
    simp only [QA,QS]
    rw [sQ (by simp only [QH]; omega)]
    simp only [QA]
    rw [sQ (by simp only [QM,QH]; omega)]
    simp only [QA]
    rw [sQ (by simp only [QH]; omega)]
    simp only [QA]
    rw [sQ (by simp only [QM,QH]; omega)]
    simp only [QA,WZ,QV,List.map_take,List.map_drop,WA,WB]
  intro n
  induction n with
  | zero =>
    intro hn
    rw [P9]
    have:=fin 0 hn
    simp only [QB] at this
    simp only [lH,show ((0:Nat):Int)=0 from rfl,XD,decide_false,WV,QC,if_false,QB,QA,beq_iff_eq] at this ⊢
    exact this
  | succ n ih =>
    intro hn
    have hn':n<K.length:=by omega
    have hn2:n<(K.map (·.keys)).length:=by simpa using hn'
    rw [P9]
    have hp:decide ((0:Int)<((n+1:Nat):Int))=true:=by rw [decide_eq_true_eq]; omega
    have ew:QP .i64 (((n+1:Nat):Int) - 1)=(n:Int):=by rw [dY] <;> omega
    have eb:=getElem!_pos K n hn'
    simp only [hp,beq_self_eq_true,QQ,if_true,ew,bF hn2,QB,QA,WY]
    rw [bPh ks hk hm (hK _ (QE hn'))]
    simp only [QA]
    rw [lH,eb]
    have e:kLt (ks.map (·.desc)) ⟨rows[i],mine⟩ K[n]=tC (ks.map (·.desc)) mine K[n].keys:=rfl
    by_cases h:tC (ks.map (·.desc)) mine K[n].keys=true
    · rw [if_pos h,e,if_pos h]
      exact ih (by omega)
    · rw [if_neg h,e,if_neg h]
      have:=fin (n+1) hn
      simp only [QB] at this
      exact this
theorem bRs {ks:List dI} (hk:ks.length≤1048576) (he:env.length≤4194304) {P:Row1→Prop} (H:∀ k∈ks,∀ r,P r→fH c d (r::env) k.expr=some (ev k.expr r)) {rows:Rows} (hr:rows.length≤1048576) (hP:∀ r∈rows,P r) :
    ∀ i,i≤rows.length→∀ K:List aU,K.length=i→KL ks.length K→xL env rows ks c d (K.map (·.row)) (K.map (·.keys),(i:Nat)) =
      if (bC (oI ev ks) (rows.drop i)).2≠0 then some ([],(bC (oI ev ks) (rows.drop i)).2)
      else some ((mU (kLt (ks.map (·.desc))) K (QK aU.mk (rows.drop i) (bC (oI ev ks) (rows.drop i)).1)).map (·.row),0):=by
  refine dU ?_ ?_
  · intro K _ _
    rw [xL]
    simp [bC,mU]
  · intro i hi ih K hKl hK
    rw [xL,QF hi]
    simp only [bV,hi,decide_true,if_true,bC]
    have hPr:=hP _ (QE hi)
    have m:=aAw (p:=ks) (b:=32) (g:=fun k=>ev k.expr rows[i]) (F:=fun y3=>fH c d (rows[i]::env) y3.expr)
      (L:=fun acc j=>aEl env rows ks (K.map (·.row)) (K.map (·.keys)) (i:Int) (c,d,acc,j)) (E:=fun e=>([],e)) (K:=fun acc=>P9 env rows ks (K.map (·.row)) (K.map (·.keys)) (i:Int) (acc,c,d,((K.map (·.row)).length:Int)))
      hk (by omega) (fun k hk=>H k hk _ hPr) (fun j acc=>by
        rw [aEl]
        simp only [bF hi,aZw _ he,QB,QA]) [] (by simp)
    rw [m]
    simp only [QS]
    by_cases h0:(bC (fun k:dI=>ev k.expr rows[i]) ks).2=0
    · have hkl:=aJm h0
      simp only [oI,h0,ne_eq,not_true_eq_false,if_false]
      have hl:(K.map (·.row)).length=K.length:=by simp
      rw [hl,bZe hk hi hr hkl K hK (by omega) K.length (XG _)]
      have ei:(K.take (lH (kLt (ks.map (·.desc))) ⟨rows[i],(bC (fun k:dI=>ev k.expr rows[i]) ks).1⟩ K K.length)++(⟨rows[i],(bC (fun k:dI=>ev k.expr rows[i]) ks).1⟩:aU)::K.drop (lH (kLt (ks.map (·.desc))) ⟨rows[i],(bC (fun k:dI=>ev k.expr rows[i]) ks).1⟩ K K.length))=G5 (kLt (ks.map (·.desc))) ⟨rows[i],(bC (fun k:dI=>ev k.expr rows[i]) ks).1⟩ K:=rfl
      rw [ei,cK hi (by omega),ih _ (by rw [bCw,hKl]) (fun k hk=>by
        have:=(aSi _ _ _).subset hk
        rcases QL.1 this with rfl | hk
        · exact hkl
        · exact hK k hk)]
      by_cases h1:(bC (oI ev ks) (rows.drop (i+1))).2=0
      · simp only [h1,ne_eq,not_true_eq_false,if_false,WF,mU]
      · simp [h1]
    · simp [h0,oI]
theorem bX6 (r:Rows):bC (oI ev []) r=(r.map fun _=>[],0):=by
  induction r with
  | nil=>rfl
  | cons x r ih=>rw [bC,ih]; simp [oI,bC]
theorem cDj (r:Rows):iG [] r=(r,0):=by
  unfold iG
  have e:(fun row:Row1=>bC (fun k:Gf×Bool=>k.1 row) [])=oI (fun _ _=>(⟨0,0,[]⟩,0)) []:=by
    funext row; rfl
  rw [e,bX6]
  simp only [ne_eq,not_true_eq_false,if_false,WG]
  rw [bIq _ (fun a b=>by simp [kLt,tC])]
  congr 1
  simp only [QS]
  induction r with
  | nil=>rfl
  | cons x r ih=>simp only [QV,WF,List.cons.injEq,true_and]; exact ih
theorem bOz {ks:List dI} (hk:ks.length≤1048576) (he:env.length≤4194304) {P:Row1→Prop} (H:∀ k∈ks,∀ r,P r→fH c d (r::env) k.expr=some (ev k.expr r)) {rows:Rows} (hr:rows.length≤1048576) (hP:∀ r∈rows,P r) :
    aJd c d env rows ks=some (iG (ks.map fun k=>(ev k.expr,k.desc)) rows):=by
  have:=bRs (c:=c) (d:=d) hk he H hr hP 0 (by omega) [] rfl (fun k hk=>by simp at hk)
  rw [show ((0:Nat):Int)=0 from rfl,WG,WG] at this
  rw [aJd,this]
  unfold iG
  have e:(fun row:Row1=>bC (fun k:Gf×Bool=>k.1 row) (ks.map fun k=>(ev k.expr,k.desc)))=oI ev ks:=by
    funext row; rw [U3]
  have e2:(ks.map fun k=>(ev k.expr,k.desc)).map (·.2)=ks.map (·.desc):=by rw [List.map_map]; rfl
  rw [e,e2,QN]
  split <;> rfl
end
section
variable {c:aP} {d:GDb} {env:Rows} {ev:aJ→Gf}
theorem okS27 (p:aQ) (ht:p.tables.length≤1048576) (hd:d.tables.length≤1048576):aIi d p=some (!(decide (p.tables.length=0)||!decide (p.on_.length=p.tables.length))&&mH d p.tables):=by
  have key:∀ i,i≤p.tables.length→O9 d p (i:Nat)=some (mH d (p.tables.drop i)):=by
    refine dU ?_ ?_
    · rw [O9]; simp [mH]
    · intro i hi ih
      rw [O9,QF hi]
      simp only [bV,hi,decide_true,if_true,bF hi,QB,QA,aJx,dY (n:=(d.tables.length:Int) - 1) (by omega) (by omega)]
      have e:mH d (p.tables[i]::p.tables.drop (i+1))=((decide (0≤p.tables[i])&&decide (p.tables[i]<(d.tables.length:Int)))&&mH d (p.tables.drop (i+1))):=rfl
      have e2:decide (p.tables[i]≤(d.tables.length:Int) - 1)=decide (p.tables[i]<(d.tables.length:Int)):=by
        by_cases h:p.tables[i]<(d.tables.length:Int)
        · rw [decide_eq_true h,decide_eq_true (by omega)]
        · rw [decide_eq_false h,decide_eq_false (by omega)]
      rw [e,e2,cK hi (by omega),ih]
      rcases (decide (0≤p.tables[i])&&decide (p.tables[i]<(d.tables.length:Int))) with _ | _ <;> simp
  unfold aIi
  simp only [QB,QA,orB]
  by_cases h0:p.tables.length=0
  · simp [h0]
  by_cases h1:p.on_.length=p.tables.length
  · have e0:¬ (p.tables.length:Int)=0:=by omega
    have e1:(p.on_.length:Int)=(p.tables.length:Int):=by omega
    have k:=key 0 (by omega)
    rw [show ((0:Nat):Int)=0 from rfl,QN] at k
    simp only [e0,e1,h0,h1,decide_true,decide_false,QD,QZ,QC,if_false,k,WO,WP]
  · have e1:¬ (p.on_.length:Int)=(p.tables.length:Int):=by omega
    simp [h1,e1]
theorem bY6 (a b:Row1) (ha:a.length≤1048576):aJg a b=some (decide (a=b)):=by
  unfold aJg
  by_cases hl:a.length=b.length
  · have key:∀ i,i≤a.length→Y4 a b (i:Nat)=some (decide (a.drop i=b.drop i)):=by
      refine dU ?_ ?_
      · rw [Y4]
        rw [QX,hl,QX]; simp
      · intro i hi ih
        have hb:i<b.length:=by omega
        rw [Y4]
        simp only [bV,hi,decide_true,if_true,bF hi,bF hb,QB,QA]
        rw [cK hi (by omega),ih,QF hi,QF hb]
        have e:=aXf a[i] b[i]
        unfold aO6 at e
        by_cases h:a[i]=b[i]
        · rw [if_neg (by rw [e.2 h]; decide),h]; simp only [List.cons.injEq,true_and]
        · rw [if_pos (by rw [Bool.eq_false_iff.2 (fun h'=>h (e.1 h'))]; rfl)]; simp only [List.cons.injEq,h,false_and,decide_false]
    have:=key 0 (by omega)
    simp only [QN] at this
    rw [if_neg (by simp; omega)]
    exact this
  · have:a≠b:=fun e=>hl (by rw [e])
    rw [if_pos (by simp; omega)]
    simp [this]
theorem bUd {p acc:Rows} {i:Nat} (hi:i<p.length) (ha:acc.length≤1048576) (hl:∀ y∈acc,y.length≤1048576) :
    ∀ j,j≤acc.length→∀ b:Bool,aD9 p acc (i:Int) b (j:Nat)=if (b||decide (p[i]∈acc.drop j))=true then zC p (i:Int) acc else ((aCf p[i])>>=fun (y6:List aA)=>(appG 24 acc ([y6]:List (List aA)))>>=fun (y7:List (List aA))=>zC p (i:Int) y7):=by
  refine dU ?_ ?_
  · intro b
    rw [aD9]
    cases b <;> simp [bF hi]
  · intro j hj ih b
    rw [aD9,QF hj]
    cases b with
    | true =>
      simp only [bV,hj,decide_true,if_true,WW,beq_iff_eq,WV,QC,if_false,QB,QA,show (true==false)=false from rfl]
      rw [cK hj (by omega),ih]
      simp
    | false =>
      simp only [bV,hj,decide_true,if_true,beq_self_eq_true,QQ,QC,if_false,bF hj,bF hi,QB,QA,bY6 _ p[i] (hl _ (QE hj))]
      rw [cK hj (by omega),ih]
      by_cases h:acc[j]=p[i]
      · rw [if_pos (by simp [h]),if_pos (by simp [h])]
      · have h':¬ p[i]=acc[j]:=fun e=>h e.symm
        have e:(false||decide (p[i]∈acc[j]::acc.drop (j+1)))=(decide (acc[j]=p[i])||decide (p[i]∈acc.drop (j+1))):=by simp [h,h',-List.getElem_cons_drop]
        rw [e]
        simp only [QB]
theorem bLp (p:Rows) (hp:p.length≤1048576) (hr:∀ y∈p,y.length≤1048576):aF4 p=some (mW [] p):=by
  have key:∀ i,i≤p.length→∀ acc:Rows,acc.length≤i→(∀ y∈acc,y.length≤1048576)→aD2 p acc (i:Nat)=some (mW acc (p.drop i)):=by
    refine dU ?_ ?_
    · intro acc _ _
      rw [aD2]; simp [mW]
    · intro i hi ih acc ha hl
      have hy:=hr _ (QE hi)
      have k:=bUd hi (by omega) hl 0 (by omega) false
      rw [show ((0:Nat):Int)=0 from rfl,QN,WJ] at k
      rw [aD2,QF hi,mW]
      simp only [bV,hi,decide_true,if_true,k,decide_eq_true_eq]
      by_cases h:p[i]∈acc
      · rw [if_pos h,if_pos h,zC,cK hi (by omega)]
        exact ih acc (by omega) hl
      · rw [if_neg h,if_neg h,bJc _ hy]
        simp only [QB,QA]
        rw [sQ (by simp only [QH]; omega)]
        simp only [QA]
        rw [zC,cK hi (by omega)]
        exact ih _ (by simp only [QM,QH]; omega) (fun y hy'=>by
          rcases QW.1 hy' with h | h
          · exact hl y h
          · simp at h; subst h; exact hy)
  unfold aF4
  simpa using key 0 (by omega) [] (by simp) (by simp)
theorem bXf {l:List aJ} (hl:l.length≤1048576) (he:env.length≤4194304) {P:Row1→Prop} (H:∀ e∈l,∀ r,P r→fH c d (r::env) e=some (ev e r)) {rows:Rows} (hr:rows.length≤1048576) (hP:∀ r∈rows,P r) :
    aJ1 c d env rows l=some (mE (l.map ev) rows):=by
  have e:mE (l.map ev) rows=bC (fun row=>bC (fun e=>ev e row) l) rows:=by
    unfold mE
    congr 1
    funext row
    rw [U3]
  have key:∀ i,i≤rows.length→∀ acc:Rows,acc.length≤i→M3 env rows l c d acc (i:Nat)=if (bC (fun row=>bC (fun e=>ev e row) l) (rows.drop i)).2≠0 then some ([],(bC (fun row=>bC (fun e=>ev e row) l) (rows.drop i)).2) else some (acc++(bC (fun row=>bC (fun e=>ev e row) l) (rows.drop i)).1,0):=by
    refine dU ?_ ?_
    · intro acc _
      rw [M3]; simp [bC]
    · intro i hi ih acc ha
      have hPr:=hP _ (QE hi)
      rw [M3,QF hi]
      simp only [bV,hi,decide_true,if_true,bC]
      have m:=aAw (p:=l) (b:=32) (g:=fun k=>ev k rows[i]) (F:=fun y3=>fH c d (rows[i]::env) y3)
        (L:=fun a j=>aCn env rows l acc (i:Int) c (d,a,j)) (E:=fun e=>([],e)) (K:=fun a=>(appG 24 acc ([a]:List (List aA)))>>=fun (y6:List (List aA))=>M3 env rows l c d y6 (QP .i64 ((i:Int)+1)))
        hl (by omega) (fun k hk=>H k hk _ hPr) (fun j a=>by
          rw [aCn]
          simp only [bF hi,aZw _ he,QB,QA]) [] (by simp)
      rw [m]
      simp only [QS]
      by_cases h0:(bC (fun k=>ev k rows[i]) l).2=0
      · simp only [h0,ne_eq,not_true_eq_false,if_false,QB]
        rw [sQ (by simp only [QH]; omega)]
        simp only [QA]
        rw [cK hi (by omega),ih _ (by simp only [QM,QH]; omega)]
        by_cases h1:(bC (fun row=>bC (fun e=>ev e row) l) (rows.drop (i+1))).2=0
        · simp only [h1,ne_eq,not_true_eq_false,if_false,WA,WB]
        · simp [h1]
      · simp [h0]
  have k:=key 0 (by omega) [] (by simp)
  rw [show ((0:Nat):Int)=0 from rfl,QN,QS] at k
  rw [aJ1,k,e]
  by_cases h0:(bC (fun row=>bC (fun e=>ev e row) l) rows).2=0
  · rw [if_neg (by simp [h0])]
    generalize bC (fun row=>bC (fun e=>ev e row) l) rows=M at h0 ⊢
    obtain ⟨a,b⟩:=M
    dsimp only at h0
    subst h0
    rfl
  · rw [if_pos h0]
    have e2:(bC (fun row=>bC (fun e=>ev e row) l) rows).1=[]:=by
      cases rows with
      | nil=>simp [bC] at h0
      | cons x rs =>
        rw [bC] at h0 ⊢
        split
        · rfl
        split
        · rfl
        · rename_i a b
          rw [if_neg a,if_neg b] at h0
          simp at h0
    rw [← e2]
theorem bW7 {p:aQ} (r:Rows) (hr:r.length≤1048576) (hl:∀ y∈r,y.length≤1048576):(if p.distinct=true then ((aF4 r)>>=fun (y6:List (List aA))=>Z7 p y6) else (Z7 p r))=some (yI p.distinct p.limit r,0):=by
  have J:∀ y:Rows,y.length≤1048576→Z7 p y=some (aA2 p.limit y,0):=fun y hy=>by
    unfold Z7 aH7
    exact bIv p.limit y hy
  unfold yI
  by_cases hd:p.distinct=true
  · rw [if_pos hd,if_pos hd,bLp r hr hl]
    exact J _ (by have:=aI4 r []; simp at this; omega)
  · rw [if_neg hd,if_neg hd]; exact J r hr
theorem aKh {α β γ:Type} (f:α→β→γ):∀ (A:List α) (B:List β) (z:γ),z∈QK f A B→∃ a∈A,∃ b∈B,z=f a b
  | [],B,z,h=>by simp at h
  | a::A,[],z,h=>by simp at h
  | a::A,b::B,z,h=>by
    rw [WF,QL] at h
    rcases h with rfl | h
    · exact ⟨a,by simp,b,by simp,rfl⟩
    · obtain ⟨x,hx,y,hy,e⟩:=aKh f A B z h
      exact ⟨x,QO _ hx,y,QO _ hy,e⟩
theorem aZd {ks:List (Gf×Bool)} {r:Rows}:(iG ks r).1.length≤r.length∧∀ x∈(iG ks r).1,x∈r:=by
  unfold iG
  split
  · simp
  · refine ⟨?_,fun x hx=>?_⟩
    · rw [List.length_map,(aFh _ _ _).length_eq]
      simp only [QS,List.length_zipWith]
      omega
    · obtain ⟨k,hk,rfl⟩:=WC.1 hx
      have hk2:=(aFh _ _ _).subset hk
      rw [QS] at hk2
      obtain ⟨a,ha,b,_,rfl⟩:=aKh _ _ _ _ hk2
      exact ha
theorem cDw {N R:Nat} (hN:N≤1048576) (hd:DbB R d) (hdl:d.tables.length≤1048576) (he:env.length≤4194304) {p:aQ} (hp:aQ5 N R p)
    (H:∀ e∈gD p,∀ r,eZ 3 r→fH c d (r::env) e=some (ev e r)):tL c d env p=some (mQ d ev p):=by
  have t3:=hp.t3
  have Hon:∀ y∈p.on_,∀ e∈y,∀ r,eZ 3 r→fH c d (r::env) e=some (ev e r):=fun y hy e he=>H e (by
    unfold gD
    simp only [QW,WH]
    exact .inl (.inl (.inl ⟨y,hy,he⟩)))
  have Hwh:∀ e∈p.where_,∀ r,eZ 3 r→fH c d (r::env) e=some (ev e r):=fun e he=>H e (by unfold gD; simp [he])
  have Hor:∀ k∈p.order,∀ r,eZ 3 r→fH c d (r::env) k.expr=some (ev k.expr r):=fun k hk=>H k.expr (by
    unfold gD
    simp only [QW,WH]
    exact .inl (.inr ⟨k,hk,by simp⟩))
  have Hit:∀ e∈p.items,∀ r,eZ 3 r→fH c d (r::env) e=some (ev e r):=fun e he=>H e (by unfold gD; simp [he])
  rw [tL,okS27 p (by omega) hdl]
  unfold mQ
  simp only [QB,QA]
  by_cases h0:p.tables.length=0
  · simp [h0]
  by_cases h1:p.on_.length=p.tables.length
  case neg=>simp [h1]
  by_cases h2:mH d p.tables=true
  case neg=>simp [h2]
  simp only [h0,h1,h2,decide_true,decide_false,QD,QZ,WO,QQ,QC,if_false,ne_eq,not_true_eq_false,or_self,WW]
  have j:=bN0 (c:=c) (env:=env) (ev:=ev) hN hd he hp h1 h2 Hon 0 (by omega) [[]] (by simp) (fun r hr=>by simp at hr; subst hr; exact ⟨by simp,by simp⟩)
  rw [show ((0:Nat):Int)=0 from rfl,QN,QN] at j
  rw [aQ2,j]
  unfold J5 oJ oH
  dsimp only
  have jm:∀ s∈QK (fun (t:Int) (l:List aJ)=>(rowsOf d t,l.map ev)) p.tables p.on_,∃ x∈d.tables,x.rows=s.1:=by
    intro s hs
    obtain ⟨a,ha,b,_,rfl⟩:=aKh _ _ _ _ hs
    exact aJw h2 (WQ ha)
  have js:(QK (fun (t:Int) (l:List aJ)=>(rowsOf d t,l.map ev)) p.tables p.on_).length=p.tables.length:=by simp [h1]
  have jl:=aOi R (QK (fun (t:Int) (l:List aJ)=>(rowsOf d t,l.map ev)) p.tables p.on_) [[]] 1 (fun s hs=>by obtain ⟨x,hx,e⟩:=jm s hs; rw [← e]; exact hd.rows x hx) (by simp)
  have jB:=aKg (QK (fun (t:Int) (l:List aJ)=>(rowsOf d t,l.map ev)) p.tables p.on_) [[]] 0 (fun s hs=>by obtain ⟨x,hx,e⟩:=jm s hs; rw [← e]; exact hd.row x hx) (fun r hr=>by simp at hr; subst hr; exact ⟨by simp,by simp⟩)
  rw [js,XH] at jl
  rw [js,WM] at jB
  have RN:=hp.RN
  generalize joE (QK (fun (t:Int) (l:List aJ)=>(rowsOf d t,l.map ev)) p.tables p.on_) [[]]=J at jl jB ⊢
  obtain ⟨J1,J2⟩:=J
  dsimp only at jl jB ⊢
  by_cases g0:J2=0
  case neg=>simp [g0]
  subst g0
  simp only [decide_true,QD,QC,if_false,ne_eq,not_true_eq_false,QA]
  rw [bHp he hp.wh Hwh J1 (by omega) (fun r hr=>yK t3 (jB r hr))]
  simp only [QA]
  have wl:=aFf (p.where_.map ev) J1
  have wB:∀ r∈(whE (p.where_.map ev) J1).1,eZ 3 r:=fun r hr=>yK t3 (jB r ((wV _ _).subset hr))
  generalize whE (p.where_.map ev) J1=W at wl wB ⊢
  obtain ⟨W1,W2⟩:=W
  dsimp only at wl wB ⊢
  by_cases g1:W2=0
  case neg=>simp [g1]
  subst g1
  simp only [decide_true,QD,QC,if_false,ne_eq,not_true_eq_false]
  have Fin:∀ S1:Rows,S1.length≤1048576→(∀ r∈S1,eZ 3 r)→aEf env c d p S1=some (if (mE (p.items.map ev) S1).2≠0 then ([],(mE (p.items.map ev) S1).2) else (yI p.distinct p.limit (mE (p.items.map ev) S1).1,0)):=by
    intro S1 sl sB
    rw [aEf,bXf hp.it he Hit sl sB]
    simp only [QB,QA]
    have ml:(mE (p.items.map ev) S1).1.length≤S1.length:=aGe _
    have mm:∀ y∈(mE (p.items.map ev) S1).1,y.length≤1048576:=by
      intro y hy
      obtain ⟨r,_,rfl,_⟩:=U5 hy
      exact QJ (aGe _) (by simpa using hp.it)
    generalize mE (p.items.map ev) S1=M at ml mm ⊢
    obtain ⟨M1,M2⟩:=M
    dsimp only at ml mm ⊢
    by_cases g3:M2=0
    case neg=>simp [g3]
    subst g3
    simp only [decide_true,QD,QC,if_false,ne_eq,not_true_eq_false]
    exact bW7 M1 (by omega) mm
  by_cases go:(0:Int)<(p.order.length:Int)
  · rw [if_pos (by simpa using go),bOz hp.ord he Hor (by omega) wB]
    simp only [QA]
    obtain ⟨sl,sm⟩:=aZd (ks:=p.order.map fun k=>(ev k.expr,k.desc)) (r:=W1)
    generalize iG (p.order.map fun k=>(ev k.expr,k.desc)) W1=S at sl sm ⊢
    obtain ⟨S1,S2⟩:=S
    dsimp only at sl sm ⊢
    by_cases g2:S2=0
    case neg=>simp [g2]
    subst g2
    simp only [decide_true,QD,QC,if_false,ne_eq,not_true_eq_false]
    exact Fin S1 (by omega) fun r hr=>wB r (sm r hr)
  · rw [if_neg (by simpa using go)]
    have:p.order=[]:=WI (by omega)
    rw [this,WG,cDj]
    simp only [ne_eq,not_true_eq_false,if_false]
    exact Fin W1 (by omega) wB
end
def FK (kind:Int) (k s:Nat):Prop:=(kind=1∧k=0∧s=0)∨(kind=2∧k=0∧s=0)∨(kind=3∧k=1∧s=0)∨(kind=4∧k=2∧s=0)∨(kind=5∧k=1∧s=0)∨(kind=6∧k=3∧s=0)∨(kind=7∧(2≤k∧k≤9)∧s=0)∨(kind=8∧k=1∧s=1)∨(kind=9∧k=0∧s=1)
instance (kind:Int) (k s:Nat):Decidable (FK kind k s):=by unfold FK; infer_instance
theorem aWx (kind:Int) (k s:Nat):aJ8 kind (k:Int) (s:Int)=some (decide (FK kind k s)):=by
  have v:G7 ⟨0,0,[]⟩=some true:=by decide
  have nm:rA [120]=some true:=by decide
  unfold aJ8 aPw aK0 yM FK
  simp only [v,nm,pK,QB,QA]
  by_cases h1:kind=1
  · subst h1; simp <;> (rw [QI]; simp only [QG,decide_eq_true_eq]; omega)
  by_cases h2:kind=2
  · subst h2; simp <;> (rw [QI]; simp only [QG,decide_eq_true_eq]; omega)
  by_cases h3:kind=3
  · subst h3; simp <;> (rw [QI]; simp only [QG,decide_eq_true_eq]; omega)
  by_cases h4:kind=4
  · subst h4; simp <;> (rw [QI]; simp only [QG,decide_eq_true_eq]; omega)
  by_cases h5:kind=5
  · subst h5; simp <;> (rw [QI]; simp only [QG,decide_eq_true_eq]; omega)
  by_cases h6:kind=6
  · subst h6; simp <;> (rw [QI]; simp only [QG,decide_eq_true_eq]; omega)
  by_cases h7:kind=7
  · subst h7; simp <;> (rw [QI]; simp only [QG,decide_eq_true_eq]; omega)
  by_cases h8:kind=8
  · subst h8; simp <;> (rw [QI]; simp only [QG,decide_eq_true_eq]; omega)
  by_cases h9:kind=9
  · subst h9; simp <;> (rw [QI]; simp only [QG,decide_eq_true_eq]; omega)
  simp [h1,h2,h3,h4,h5,h6,h7,h8,h9]
theorem aWj (e:aJ) (hk:e.kids.length≤1048576) (hs:e.sub.length≤1048576):aJ2 e=some (decide (FK e.kind e.kids.length e.sub.length)):=by
  unfold aJ2 aK6 aH2 FK
  simp only [pK,aJx,dY (n:=(e.kids.length:Int)+e.sub.length) (by omega) (by omega),QB,QA]
  generalize e.kids.length=k
  generalize e.sub.length=s
  generalize e.kind=kind
  by_cases h1:kind=1
  · subst h1; simp <;> (rw [QI]; simp only [QG,decide_eq_true_eq]; omega)
  by_cases h2:kind=2
  · subst h2; simp <;> (rw [QI]; simp only [QG,decide_eq_true_eq]; omega)
  by_cases h3:kind=3
  · subst h3; simp <;> (rw [QI]; simp only [QG,decide_eq_true_eq]; omega)
  by_cases h4:kind=4
  · subst h4; simp <;> (rw [QI]; simp only [QG,decide_eq_true_eq]; omega)
  by_cases h5:kind=5
  · subst h5; simp <;> (rw [QI]; simp only [QG,decide_eq_true_eq]; omega)
  by_cases h6:kind=6
  · subst h6; simp <;> (rw [QI]; simp only [QG,decide_eq_true_eq]; omega)
  by_cases h7:kind=7
  · subst h7; simp <;> (rw [QI]; simp only [QG,decide_eq_true_eq]; omega)
  by_cases h8:kind=8
  · subst h8; simp <;> (rw [QI]; simp only [QG,decide_eq_true_eq]; omega)
  by_cases h9:kind=9
  · subst h9; simp <;> (rw [QI]; simp only [QG,decide_eq_true_eq]; omega)
  simp [h1,h2,h3,h4,h5,h6,h7,h8,h9]
def notP (e:aJ) (r:aA×Int):aA×Int:=if r.2≠0 then (⟨0,0,[]⟩,r.2) else if e.not_=true then unP 15 r.1 else (r.1,0)
def iM:Rows→Row1×Int
  | []=>([],0)
  | r::l=>match r with
    | []=>([],4)
    | v::_=>if (iM l).2≠0 then ([],(iM l).2) else (v::(iM l).1,0)
def inP (x:aA) (rows:Rows):aA×Int:=if (iM rows).2≠0 then (⟨0,0,[]⟩,(iM rows).2) else nY x (iM rows).1 (vBl false)
def aAa (e:aJ) (kids:Row1) (rows:Rows):aA×Int :=
  if e.kind=1 then (e.value,0)
  else if e.kind=3 then unP e.op kids[0]!
  else if e.kind=4 then fT e.op kids[0]! kids[1]!
  else if e.kind=5 then (vBl (!((decide (kids[0]!.kind=0))==e.not_)),0)
  else if e.kind=6 then notP e (vF kids[0]! kids[1]! kids[2]!)
  else if e.kind=7 then notP e (nY kids[0]! (kids.drop 1) (vBl false))
  else if e.kind=9 then (vBl (decide (0<rows.length)),0)
  else notP e (inP kids[0]! rows)
theorem bB6:∀ {rows:Rows},(∀ r∈rows,∀ v∈r,okI v.num)→∀ v∈(iM rows).1,okI v.num
  | [],_,v,hv=>by simp [iM] at hv
  | []::l,_,v,hv=>by simp [iM] at hv
  | (x::r)::l,h,v,hv=>by
    rw [iM] at hv
    split at hv
    · simp at hv
    · rcases QL.1 hv with rfl | hv
      · exact h (v::r) (by simp) v (by simp)
      · exact bB6 (fun r hr=>h r (QO _ hr)) v hv
theorem aR3 (e:aJ) {r:aA×Int} (hr:okI r.1.num):(if (!decide (r.2=0))=true then (some ((aA.mk 0 0 []),r.2)) else (if e.not_=true then ((aB8 15 r.1)>>=fun (y10:aA×Int)=>some (y10.1,y10.2)) else (some (r.1,0))))=some (notP e r):=by
  unfold notP
  rw [unI hr]
  by_cases h:r.2=0
  · by_cases h2:e.not_=true <;> simp [h,h2]
  · simp [h]
theorem aO5 (e:aJ) {r:aA×Int} (hr:okI r.1.num):aB1 e r.1 r.2=some (notP e r):=by
  unfold aB1 notP
  rw [unS hr]
  by_cases h:r.2=0
  · by_cases h2:e.not_=true <;> simp [h,h2]
  · simp [h]
theorem bNb {n:oW} {x:aA} {ks:Row1} (hn:n.kids=x::ks) (hx:okI x.num) (hl:n.rows.length≤1048576) (hv:∀ r∈n.rows,∀ v∈r,okI v.num):zG n [] 0=some (inP x n.rows):=by
  have key:∀ i,i≤n.rows.length→∀ acc:Row1,acc.length≤i→(∀ v∈acc,okI v.num)→zG n acc (i:Nat)=some (if (iM (n.rows.drop i)).2≠0 then (⟨0,0,[]⟩,(iM (n.rows.drop i)).2) else nY x (acc++(iM (n.rows.drop i)).1) (vBl false)):=by
    refine dU ?_ ?_
    · intro acc ha hva
      have h0:idx n.kids 0=some x:=by rw [hn]; rfl
      rw [zG]
      simp only [bV,QU,decide_false,QC,if_false,h0,QB,QA,(aZ8 (p:=acc) (by omega) hx hva).1,QX,iM,ne_eq,not_true_eq_false,XA]
    · intro i hi ih acc ha hva
      rw [zG,QF hi]
      simp only [bV,hi,decide_true,if_true,bF hi,QB,QA]
      have hvi:=hv _ (QE hi)
      generalize n.rows[i]=r at hvi ⊢
      cases r with
      | nil=>simp [iM]
      | cons v r =>
        have i0:idx (v::r) 0=some v:=rfl
        have ne:¬ (((v::r).length:Int)=0):=by simp only [QR]; omega
        simp only [ne,decide_false,QC,if_false,i0,QA]
        rw [nP (by simp only [QH]; omega)]
        simp only [QA]
        rw [cK hi (by omega),ih _ (by simp only [QM,QH]; omega) (fun w hw=>by
          rcases QW.1 hw with hw | hw
          · exact hva w hw
          · simp at hw; subst hw; exact hvi _ (by simp))]
        rw [iM]
        by_cases h:(iM (n.rows.drop (i+1))).2=0
        · simp only [h,ne_eq,not_true_eq_false,if_false,WA,WB]
        · simp [h]
  have:=key 0 (by omega) [] (by simp) (by simp)
  unfold inP
  simpa using this
theorem bN5 {e:aJ} {x:aA} {ks:Row1} {rows:Rows} (hx:okI x.num) (hl:rows.length≤1048576) (hv:∀ r∈rows,∀ v∈r,okI v.num):K4 (x::ks) rows e [] 0=some (notP e (inP x rows)):=by
  have key:∀ i,i≤rows.length→∀ acc:Row1,acc.length≤i→(∀ v∈acc,okI v.num)→K4 (x::ks) rows e acc (i:Nat)=some (if (iM (rows.drop i)).2≠0 then (⟨0,0,[]⟩,(iM (rows.drop i)).2) else notP e (nY x (acc++(iM (rows.drop i)).1) (vBl false))):=by
    refine dU ?_ ?_
    · intro acc ha hva
      have h0:idx (x::ks) 0=some x:=rfl
      rw [K4]
      simp only [bV,QU,decide_false,QC,if_false,h0,QB,QA,(aZ8 (p:=acc) (by omega) hx hva).2,aO5 e (aHe hx hva (E5 false)),QX,iM,ne_eq,not_true_eq_false,XA]
      rw [show (vBl false)=⟨3,if false=true then 1 else 0,[]⟩ from rfl,aO5 e (aHe hx hva (E5 false))]
      rfl
    · intro i hi ih acc ha hva
      rw [K4,QF hi]
      simp only [bV,hi,decide_true,if_true,bF hi,QB,QA]
      have hvi:=hv _ (QE hi)
      generalize rows[i]=r at hvi ⊢
      cases r with
      | nil=>simp [iM]
      | cons v r =>
        have i0:idx (v::r) 0=some v:=rfl
        have ne:¬ (((v::r).length:Int)=0):=by simp only [QR]; omega
        simp only [ne,decide_false,QC,if_false,i0,QA]
        rw [nP (by simp only [QH]; omega)]
        simp only [QA]
        rw [cK hi (by omega),ih _ (by simp only [QM,QH]; omega) (fun w hw=>by
          rcases QW.1 hw with hw | hw
          · exact hva w hw
          · simp at hw; subst hw; exact hvi _ (by simp))]
        rw [iM]
        by_cases h:(iM (rows.drop (i+1))).2=0
        · simp only [h,ne_eq,not_true_eq_false,if_false,WA,WB]
        · simp [h]
  have:=key 0 (by omega) [] (by simp) (by simp)
  have e2:notP e (inP x rows)=if (iM rows).2≠0 then (⟨0,0,[]⟩,(iM rows).2) else notP e (nY x (iM rows).1 (vBl false)):=by
    unfold inP
    by_cases h:(iM rows).2=0
    · simp [h]
    · rw [if_pos h,if_pos h]; unfold notP; simp [h]
  rw [e2]
  simpa using this
theorem bRc {x:aA} {rows:Rows} (hx:okI x.num) (hv:∀ r∈rows,∀ v∈r,okI v.num):okI (inP x rows).1.num:=by
  unfold inP
  split
  · exact ok0
  · exact aHe hx (bB6 hv) (E5 false)
theorem aRs {e:aJ} {r:aA×Int} (h:okI r.1.num):okI (notP e r).1.num:=by
  unfold notP
  split
  · exact ok0
  split
  · exact bHh h
  · exact h
theorem aJn {k:Row1} (h:k.length=1):∃ a,k=[a]:=by
  match k,h with
  | [a],_=>exact ⟨a,rfl⟩
theorem bHb {k:Row1} (h:k.length=2):∃ a b,k=[a,b]:=by
  match k,h with
  | [a,b],_=>exact ⟨a,b,rfl⟩
theorem bBf {k:Row1} (h:k.length=3):∃ a b c,k=[a,b,c]:=by
  match k,h with
  | [a,b,c],_=>exact ⟨a,b,c,rfl⟩
theorem bIp {e:aJ} {env:Rows} {kids:Row1} {rows:Rows} {s:Nat} (hf:FK e.kind kids.length s) (h2:e.kind≠2) (hev:okI e.value.num) (hk:∀ v∈kids,okI v.num) (hl:rows.length≤1048576) (hv:∀ r∈rows,∀ v∈r,okI v.num) :
    aHd (oW.mk e.kind e.op e.not_ e.value kids rows)=some (aAa e kids rows)∧vW env kids e rows=some (aAa e kids rows)∧okI (aAa e kids rows).1.num:=by
  unfold aHd vW aAa
  rcases hf with ⟨k,_⟩ | ⟨k,_⟩ | ⟨k,hl1,_⟩ | ⟨k,hl1,_⟩ | ⟨k,hl1,_⟩ | ⟨k,hl1,_⟩ | ⟨k,hl1,_⟩ | ⟨k,hl1,_⟩ | ⟨k,hl1,_⟩
  · simp [k,hev]
  · exact absurd k h2
  · obtain ⟨a,rfl⟩:=aJn hl1
    have ha:=hk a (by simp)
    simp [k,idx,unI ha,unS ha,bHh ha]
  · obtain ⟨a,b,rfl⟩:=bHb hl1
    have ha:=hk a (by simp)
    have hb:=hk b (by simp)
    simp [k,idx,aFi ha hb,aC8 ha hb,A7 ha hb]
  · obtain ⟨a,rfl⟩:=aJn hl1
    simp only [k,idx,aD1,wC,vBl]
    refine ⟨rfl,rfl,?_⟩
    exact aNx _
  · obtain ⟨a,b,c,rfl⟩:=bBf hl1
    have ha:=hk a (by simp)
    have hb:=hk b (by simp)
    have hc:=hk c (by simp)
    have ni:=aR3 e (r:=vF a b c) (aUf ha hb hc)
    have ns:=aO5 e (r:=vF a b c) (aUf ha hb hc)
    unfold aE0
    simp [k,idx,bL9 ha hb hc,bMu ha hb hc,ns,aRs (e:=e) (aUf ha hb hc)]
    simpa using ni
  · obtain ⟨a,ks,rfl⟩:∃ a ks,kids=a::ks:=by
      cases kids with
      | nil=>simp at hl1
      | cons a ks=>exact ⟨a,ks,rfl⟩
    have ha:=hk a (by simp)
    have hks:∀ v∈ks,okI v.num:=fun v hv=>hk v (by simp [hv])
    have hlk:ks.length≤1048576:=by simp at hl1; omega
    have w:=aZ8 hlk ha hks
    have wo:okI (nY a ks (vBl false)).1.num:=aHe ha hks (E5 false)
    have ni:=aR3 e wo
    have ns:=aO5 e wo
    have sb:iP (a::ks) 1 ((a::ks).length:Int)=some ks:=by
      have:=aQs (l:=a::ks) (n:=1) (by simp)
      simpa using this
    have i0:idx (a::ks) 0=some a:=rfl
    unfold aE0
    simp only [k,i0,sb,w.1,w.2,ns,QB,QA,show ¬ ((7:Int)=1) by decide,show ¬ ((7:Int)=2) by decide,show ¬ ((7:Int)=3) by decide,show ¬ ((7:Int)=4) by decide,show ¬ ((7:Int)=5) by decide,show ¬ ((7:Int)=6) by decide,show ¬ ((7:Int)=9) by decide,decide_false,decide_true,QC,if_false,if_true]
    exact ⟨ni,rfl,aRs wo⟩
  · obtain ⟨a,rfl⟩:=aJn hl1
    have ha:=hk a (by simp)
    have io:=bRc (rows:=rows) ha hv
    have ni:=aR3 e io
    have si:=bNb (n:=oW.mk e.kind e.op e.not_ e.value [a] rows) (x:=a) (ks:=[]) rfl ha hl hv
    have ss:=bN5 (e:=e) (x:=a) (ks:=[]) ha hl hv
    unfold aE0
    rw [k] at si
    simp only [k,si,ss,QB,QA,show ¬ ((8:Int)=1) by decide,show ¬ ((8:Int)=2) by decide,show ¬ ((8:Int)=3) by decide,show ¬ ((8:Int)=4) by decide,show ¬ ((8:Int)=5) by decide,show ¬ ((8:Int)=6) by decide,show ¬ ((8:Int)=7) by decide,show ¬ ((8:Int)=9) by decide,decide_false,decide_true,QC,if_false,if_true]
    exact ⟨ni,rfl,aRs io⟩
  · simp only [k,aD1,wC,QB,QA,show ¬ ((9:Int)=1) by decide,show ¬ ((9:Int)=2) by decide,show ¬ ((9:Int)=3) by decide,show ¬ ((9:Int)=4) by decide,show ¬ ((9:Int)=5) by decide,show ¬ ((9:Int)=6) by decide,show ¬ ((9:Int)=7) by decide,decide_false,decide_true,QC,if_false,if_true]
    have e1:decide ((0:Int)<(rows.length:Int))=decide (0<rows.length):=by simp
    rw [e1]
    exact ⟨rfl,rfl,aNx _⟩
structure Closed (N R:Nat) (GE:aJ→Prop) (GP:aQ→Prop):Prop where
  val:∀ e,GE e→okI e.value.num
  kid:∀ e,GE e→∀ k∈e.kids,GE k
  sub:∀ e,GE e→∀ p∈e.sub,GP p
  plan:∀ p,GP p→aQ5 N R p
  part:∀ p,GP p→∀ e∈gD p,GE e
  len:∀ e,GE e→e.kids.length≤1048576∧e.sub.length≤1048576
  ze:∀ e,GE e→bH e≤1048576
  zp:∀ p,GP p→eF p≤1048576
def Q4 (env:Rows):Prop:=∀ r∈env,∀ v∈r,okI v.num
def eG (c:aP) (d:GDb) (env:Rows) (e:aJ):Gf:=fun r=>(fH c d (r::env) e).getD (⟨0,0,[]⟩,0)
def EvE (c:aP) (d:GDb) (env:Rows) (e:aJ):Prop:=∃ r,vC c d env e=some r∧fH c d env e=some r∧okI r.1.num
def EvP (c:aP) (d:GDb) (env:Rows) (p:aQ):Prop:=∃ r,xO c d env p=some r∧tL c d env p=some r∧(∀ x∈r.1,∀ v∈x,okI v.num)∧r.1.length≤1048576
theorem aR8:∀ {l o:Rows} {x:Row1},x∈mW o l→x∈o∨x∈l
  | [],o,x,h=>by rw [mW] at h; exact .inl h
  | y::l,o,x,h=>by
    rw [mW] at h
    split at h
    · rcases aR8 h with h | h
      · exact .inl h
      · exact .inr (QO _ h)
    · rcases aR8 h with h | h
      · rcases QW.1 h with h | h
        · exact .inl h
        · simp at h; subst h; exact .inr (by simp)
      · exact .inr (QO _ h)
theorem bDu {dis:Bool} {lim:Int} {r:Rows}:(∀ x∈yI dis lim r,x∈r)∧(yI dis lim r).length≤r.length:=by
  have key:(∀ x∈(if dis=true then mW [] r else r),x∈r)∧(if dis=true then mW [] r else r).length≤r.length:=by
    split
    · refine ⟨fun x hx=>?_,by have:=aI4 r []; simpa using this⟩
      rcases aR8 hx with h | h
      · simp at h
      · exact h
    · exact ⟨fun x hx=>hx,XG _⟩
  unfold yI
  generalize (if dis=true then mW [] r else r)=q at key ⊢
  unfold aA2
  split
  · refine ⟨fun x hx=>key.1 x ((XB _ _) hx),?_⟩
    rw [WR]
    exact QJ (Nat.min_le_right _ _) key.2
  · exact key
section
variable {N R:Nat} {GE:aJ→Prop} {GP:aQ→Prop} {c:aP} {d:GDb}
theorem cDe (hC:Closed N R GE GP) (hS:P8 N) (hN:N≤1048576) (hd:DbB R d) (hdl:d.tables.length≤1048576) {env:Rows} (_:Q4 env) (hl:env.length≤1048576) {p:aQ} (hp:GP p)
    (H:∀ e∈gD p,∀ r,eZ 3 r→EvE c d (r::env) e):EvP c d env p∧xO c d env p=some (mQ d (eG c d env) p):=by
  have hs:∀ e∈gD p,∀ r,eZ 3 r→fH c d (r::env) e=some (eG c d env e r)∧vC c d (r::env) e=some (eG c d env e r)∧okI (eG c d env e r).1.num:=by
    intro e he r hr
    obtain ⟨x,h1,h2,h3⟩:=H e he r hr
    unfold eG
    rw [h2]
    exact ⟨rfl,h1,h3⟩
  have hi:∀ e∈gD p,∀ r,eZ 3 r→nU r c d env e=some (eG c d env e r):=by
    intro e he r hr
    rw [nU,nP (by simp only [QH]; omega)]
    simp only [WB,QB,QA,(hs e he r hr).2.1]
  have pI:=bO6 hS hN hd (hC.plan p hp) hi
  have pS:=cDw (c:=c) hN hd hdl (by omega) (hC.plan p hp) fun e he r hr=>(hs e he r hr).1
  refine ⟨⟨_,pI,pS,?_⟩,pI⟩
  unfold mQ
  split
  · simp
  unfold J5
  split
  · simp
  split
  · simp
  split
  · simp
  split
  · simp
  rename_i hg _ _ _ _
  dsimp only
  obtain ⟨e1,e2⟩:=bDu (dis:=(oJ d (eG c d env) p).dis) (lim:=(oJ d (eG c d env) p).lim) (r:=(mE (oJ d (eG c d env) p).is (iG (oJ d (eG c d env) p).ks (whE (oJ d (eG c d env) p).wh (joE (oJ d (eG c d env) p).st [[]]).1).1).1).1)
  have hP:=hC.plan p hp
  have hT:mH d p.tables=true:=by
    cases h:mH d p.tables with
    | true=>rfl
    | false=>exact absurd (.inr h) hg
  have h1:p.on_.length=p.tables.length:=Classical.not_not.1 fun h=>hg (.inl (.inr h))
  have jm:∀ s∈oH d (eG c d env) p,∃ x∈d.tables,x.rows=s.1:=by
    intro s hs
    obtain ⟨a,ha,b,_,rfl⟩:=aKh _ _ _ _ hs
    exact aJw hT (WQ ha)
  have js:(oH d (eG c d env) p).length=p.tables.length:=by simp [oH,h1]
  have jl:=aOi R (oH d (eG c d env) p) [[]] 1 (fun s hs=>by obtain ⟨x,hx,e⟩:=jm s hs; rw [← e]; exact hd.rows x hx) (by simp)
  have jB:=aKg (oH d (eG c d env) p) [[]] 0 (fun s hs=>by obtain ⟨x,hx,e⟩:=jm s hs; rw [← e]; exact hd.row x hx) (fun r hr=>by simp at hr; subst hr; exact ⟨by simp,by simp⟩)
  rw [js,XH] at jl
  rw [js,WM] at jB
  have RN:=hP.RN
  have wl:=aFf (oJ d (eG c d env) p).wh (joE (oH d (eG c d env) p) [[]]).1
  obtain ⟨sl,sm⟩:=aZd (ks:=(oJ d (eG c d env) p).ks) (r:=(whE (oJ d (eG c d env) p).wh (joE (oJ d (eG c d env) p).st [[]]).1).1)
  have ml:=aGe (g:=fun row=>bC (fun g:Gf=>g row) (oJ d (eG c d env) p).is) (iG (oJ d (eG c d env) p).ks (whE (oJ d (eG c d env) p).wh (joE (oJ d (eG c d env) p).st [[]]).1).1).1
  constructor
  · intro x hx v hv
    have hx:=e1 x hx
    obtain ⟨r,hr,rfl,_⟩:=U5 hx
    obtain ⟨g,hg,rfl,_⟩:=U5 hv
    obtain ⟨e,he,rfl⟩:=WC.1 hg
    have hr3:eZ 3 r:=yK hP.t3 (jB r ((wV _ _).subset (sm r hr)))
    exact (hs e (by unfold gD; simp [he]) r hr3).2.2
  · refine QJ e2 (QJ ml (QJ sl (QJ wl ?_)))
    exact QJ (QJ jl RN) hN
def cellP (env:Rows) (e:aJ):aA×Int :=
  if 0≤e.up∧e.up<(env.length:Int)∧0≤e.at_∧e.at_<((env[e.up.toNat]!).length:Int) then ((env[e.up.toNat]!)[e.at_.toNat]!,0) else (⟨0,0,[]⟩,4)
theorem bKs {env:Rows} {e:aJ} (h2:e.kind=2) (hs:FK e.kind e.kids.length e.sub.length):vC c d env e=some (cellP env e):=by
  rw [vC,aWx]
  rw [h2] at hs
  simp only [hs,decide_true,QD,QC,if_false,h2,if_true,QB,QA,orB]
  unfold cellP
  by_cases a:e.up<0
  · have:¬ 0≤e.up:=by omega
    simp [a,this]
  by_cases b:(env.length:Int)≤e.up
  · have:¬ e.up<(env.length:Int):=by omega
    simp [b,this]
  by_cases g:e.at_<0
  · have:¬ 0≤e.at_:=by omega
    simp [g,this]
  obtain ⟨n,hn⟩:∃ n:Nat,e.up=n:=⟨e.up.toNat,by omega⟩
  obtain ⟨m,hm⟩:∃ m:Nat,e.at_=m:=⟨e.at_.toNat,by omega⟩
  have hnl:n<env.length:=by omega
  rw [hn,hm]
  have e1:=getElem!_pos env n hnl
  have n1:¬ ((n:Int)<0):=by omega
  have n2:¬ ((env.length:Int)≤n):=by omega
  have n3:¬ ((m:Int)<0):=by omega
  simp only [n1,n2,n3,decide_false,QZ,WJ,beq_self_eq_true,QQ,if_true,bF hnl,QA,WD,e1]
  by_cases q:(env[n].length:Int)≤(m:Int)
  · have:¬ (m:Int)<(env[n].length:Int):=by omega
    simp [q,this]
  · have hml:m<env[n].length:=by omega
    have e2:=getElem!_pos env[n] m hml
    simp only [q,decide_false,QZ,QC,if_false,bF hml,QA]
    have hc:(0:Int)≤n∧(n:Int)<(env.length:Int)∧(0:Int)≤m∧(m:Int)<(env[n].length:Int):=⟨by omega,by omega,by omega,by omega⟩
    rw [e2]
    simp only [hc,and_self,if_true]
theorem bSc {env:Rows} {e:aJ} (h2:e.kind=2) (hl:env.length≤1048576) (hr:∀ r∈env,r.length≤1048576):vW env [] e []=some (cellP env e):=by
  unfold vW cellP
  simp only [h2,show ¬ ((2:Int)=1) by decide,decide_false,decide_true,QC,if_false,if_true,aJx,QB,QA,orB]
  rw [dY (n:=(env.length:Int) - 1) (by omega) (by omega)]
  by_cases a:0≤e.up
  case neg=>simp [a]
  by_cases b:e.up<(env.length:Int)
  case neg =>
    have:¬ e.up≤(env.length:Int) - 1:=by omega
    simp [b,this]
  have b':e.up≤(env.length:Int) - 1:=by omega
  obtain ⟨n,hn⟩:∃ n:Nat,e.up=n:=⟨e.up.toNat,by omega⟩
  have hnl:n<env.length:=by omega
  have e1:=getElem!_pos env n hnl
  rw [hn] at a b b' ⊢
  have hrl:=hr _ (QE hnl)
  simp only [a,b,b',decide_true,QQ,QD,beq_self_eq_true,if_true,bF hnl,QA,WD,e1,WJ]
  rw [dY (n:=(env[n].length:Int) - 1) (by omega) (by omega)]
  by_cases g:0≤e.at_
  case neg=>simp [g]
  by_cases q:e.at_<(env[n].length:Int)
  case neg =>
    have:¬ e.at_≤(env[n].length:Int) - 1:=by omega
    simp [q,this]
  have q':e.at_≤(env[n].length:Int) - 1:=by omega
  obtain ⟨m,hm⟩:∃ m:Nat,e.at_=m:=⟨e.at_.toNat,by omega⟩
  rw [hm] at g q q' ⊢
  have hml:m<env[n].length:=by omega
  have e2:=getElem!_pos env[n] m hml
  simp only [g,q',decide_true,QQ,QD,QC,if_false,bF hml,QA]
  have hc:(0:Int)≤n∧(n:Int)<(env.length:Int)∧(0:Int)≤m∧(m:Int)<(env[n].length:Int):=⟨by omega,by omega,by omega,by omega⟩
  rw [WD,e2]
  simp only [hc,and_self,if_true]
theorem cBh {env:Rows} {e:aJ} (hB:Q4 env):okI (cellP env e).1.num:=by
  unfold cellP
  split
  · rename_i h
    have hn:e.up.toNat<env.length:=by omega
    rw [getElem!_pos env _ hn] at h ⊢
    have hm:e.at_.toNat<env[e.up.toNat].length:=by omega
    rw [getElem!_pos env[e.up.toNat] _ hm]
    exact hB _ (QE hn) _ (QE hm)
  · exact ok0
end
section
variable {N R:Nat} {GE:aJ→Prop} {GP:aQ→Prop} {c:aP} {d:GDb}
theorem bNr {env:Rows} {e:aJ} (hk:e.kids.length≤1048576) (H:∀ k∈e.kids,EvE c d env k) :
    aC2 env e c d 0 []=if (bC (fun k=>(fH c d env k).getD (⟨0,0,[]⟩,0)) e.kids).2≠0 then some (⟨0,0,[]⟩,(bC (fun k=>(fH c d env k).getD (⟨0,0,[]⟩,0)) e.kids).2) else zA env e c d (bC (fun k=>(fH c d env k).getD (⟨0,0,[]⟩,0)) e.kids).1 0 []:=by
  have m:=aAw (p:=e.kids) (b:=32) (g:=fun k=>(fH c d env k).getD (⟨0,0,[]⟩,0)) (F:=fun k=>vC c d env k)
    (L:=fun acc j=>aC2 env e c d j acc) (E:=fun x=>((⟨0,0,[]⟩:aA),x)) (K:=fun acc=>zA env e c d acc 0 [])
    hk (by omega) (fun k hk=>by obtain ⟨r,h1,h2,_⟩:=H k hk; rw [h1,h2]; rfl) (fun j acc=>by rw [aC2]) [] (by simp)
  simpa using m
theorem bJ2 {env:Rows} {e:aJ} (hk:e.kids.length≤1048576) (H:∀ k∈e.kids,EvE c d env k) :
    aD8 env c d e [] 0=if (bC (fun k=>(fH c d env k).getD (⟨0,0,[]⟩,0)) e.kids).2≠0 then some (⟨0,0,[]⟩,(bC (fun k=>(fH c d env k).getD (⟨0,0,[]⟩,0)) e.kids).2)
    else (if (decide (0<(e.sub.length:Int)))=true then ((idx e.sub 0)>>=fun (y5:aQ)=>(tL c d env y5)>>=fun (y6:(List (List aA))×Int)=>if (!decide (y6.2=0))=true then (some ((aA.mk 0 0 []),y6.2)) else (vW env (bC (fun k=>(fH c d env k).getD (⟨0,0,[]⟩,0)) e.kids).1 e y6.1)) else (vW env (bC (fun k=>(fH c d env k).getD (⟨0,0,[]⟩,0)) e.kids).1 e ([]:List (List aA)))):=by
  have m:=aAw (p:=e.kids) (b:=32) (g:=fun k=>(fH c d env k).getD (⟨0,0,[]⟩,0)) (F:=fun k=>fH c d env k)
    (L:=fun acc j=>aD8 env c d e acc j) (E:=fun x=>((⟨0,0,[]⟩:aA),x)) (K:=fun acc=>(if (decide (0<(e.sub.length:Int)))=true then ((idx e.sub 0)>>=fun (y5:aQ)=>(tL c d env y5)>>=fun (y6:(List (List aA))×Int)=>if (!decide (y6.2=0))=true then (some ((aA.mk 0 0 []),y6.2)) else (vW env acc e y6.1)) else (vW env acc e ([]:List (List aA)))))
    hk (by omega) (fun k hk=>by obtain ⟨r,_,h2,_⟩:=H k hk; rw [h2]; rfl) (fun j acc=>by rw [aD8]) [] (by simp)
  simpa using m
def qZ (c:aP) (d:GDb) (env:Rows) (e:aJ):Row1×Int:=bC (fun k=>(fH c d env k).getD (⟨0,0,[]⟩,0)) e.kids
def aKn (c:aP) (d:GDb) (env:Rows) (e:aJ):aA×Int :=
  if ¬ FK e.kind e.kids.length e.sub.length then (⟨0,0,[]⟩,4)
  else if e.kind=2 then cellP env e
  else if (qZ c d env e).2≠0 then (⟨0,0,[]⟩,(qZ c d env e).2)
  else match e.sub with
    | []=>aAa e (qZ c d env e).1 []
    | p::_=>if ((tL c d env p).getD ([],0)).2≠0 then (⟨0,0,[]⟩,((tL c d env p).getD ([],0)).2) else aAa e (qZ c d env e).1 ((tL c d env p).getD ([],0)).1
theorem bEb (hC:Closed N R GE GP) {env:Rows} (hB:Q4 env) (hl:env.length≤1048576) (hr:∀ r∈env,r.length≤1048576) {e:aJ} (he:GE e) (HK:∀ k∈e.kids,EvE c d env k) (HS:∀ p∈e.sub,EvP c d env p) :
    vC c d env e=some (aKn c d env e)∧fH c d env e=some (aKn c d env e)∧okI (aKn c d env e).1.num:=by
  obtain ⟨kl,sl⟩:=hC.len e he
  unfold aKn
  by_cases hf:FK e.kind e.kids.length e.sub.length
  case neg =>
    rw [vC,aWx,fH,aWj e kl sl]
    simp [hf]; exact ok0
  rw [if_neg (by simp [hf])]
  by_cases h2:e.kind=2
  · rw [if_pos h2]
    refine ⟨bKs h2 hf,?_,cBh hB⟩
    have hk0:e.kids=[]:=by
      rcases hf with ⟨k,_⟩ | ⟨k,h,_⟩ | ⟨k,_⟩ | ⟨k,_⟩ | ⟨k,_⟩ | ⟨k,_⟩ | ⟨k,_⟩ | ⟨k,_⟩ | ⟨k,_⟩ <;> first | exact WI h | omega
    have hs0:e.sub=[]:=by
      rcases hf with ⟨k,_⟩ | ⟨k,_,h⟩ | ⟨k,_⟩ | ⟨k,_⟩ | ⟨k,_⟩ | ⟨k,_⟩ | ⟨k,_⟩ | ⟨k,_⟩ | ⟨k,_⟩ <;> first | exact WI h | omega
    rw [fH,aWj e kl sl]
    simp only [hf,decide_true,QD,QC,if_false,QB,QA]
    rw [bJ2 kl HK,hk0,hs0]
    simp only [bC,ne_eq,not_true_eq_false,if_false,QT]
    rw [if_neg (by simp)]
    exact bSc h2 hl hr
  rw [if_neg h2,vC,aWx,fH,aWj e kl sl]
  simp only [hf,h2,decide_true,decide_false,QD,QC,if_false,QB,QA]
  rw [bNr kl HK,bJ2 kl HK]
  have hkv:∀ v∈(qZ c d env e).1,okI v.num:=by
    intro v hv
    obtain ⟨k,hk,rfl,_⟩:=U5 hv
    obtain ⟨r,_,h2,h3⟩:=HK k hk
    rw [h2]; exact h3
  have hkl:=aJm (g:=fun k=>(fH c d env k).getD (⟨0,0,[]⟩,0)) (l:=e.kids)
  show (if (qZ c d env e).2≠0 then _ else _)=_∧(if (qZ c d env e).2≠0 then _ else _)=_∧_
  change (qZ c d env e).2=0→(qZ c d env e).1.length=e.kids.length at hkl
  change _=_∧_=_∧_
  by_cases h0:(qZ c d env e).2=0
  case neg =>
    rw [if_pos h0,if_pos h0,if_pos h0]
    exact ⟨rfl,rfl,ok0⟩
  rw [if_neg (by simp [h0]),if_neg (by simp [h0]),if_neg (by simp [h0])]
  have hkl:=hkl h0
  rw [← hkl] at hf
  have hev:=hC.val e he
  have fold:(bC (fun k=>(fH c d env k).getD (⟨0,0,[]⟩,0)) e.kids)=qZ c d env e:=rfl
  rw [fold]
  generalize qZ c d env e=K at hkv hf ⊢
  match hs:e.sub with
  | [] =>
    have n:=bIp (env:=env) (rows:=[]) hf h2 hev hkv (by simp) (by simp)
    rw [zA,hs]
    simp only [QT,n.1,QB,QA,show ((0:Nat):Int)=0 from rfl,XD,decide_false,QC,if_false]
    exact ⟨trivial,n.2.1,n.2.2⟩
  | [p] =>
    obtain ⟨r,p1,p2,p3,p4⟩:=HS p (by rw [hs]; simp)
    have i0:idx [p] 0=some p:=rfl
    rw [zA,hs]
    simp only [QH,i0,p1,p2,QB,QA,WN,show decide ((0:Int)<((1:Nat):Int))=true from rfl,if_true]
    by_cases hz:r.2=0
    case neg=>simp [hz]; exact ok0
    have n:=bIp (env:=env) (rows:=r.1) hf h2 hev hkv p4 p3
    simp only [hz,decide_true,QD,QC,if_false,ne_eq,not_true_eq_false]
    rw [zA,hs]
    simp only [QH,show QP .i64 (0+1)=1 by decide,show decide ((1:Int)<((1:Nat):Int))=false from rfl,QC,if_false,n.1,QB,QA]
    exact ⟨trivial,n.2.1,n.2.2⟩
  | p::q::l =>
    exfalso
    rw [hs] at hf
    simp only [FK,QR] at hf
    omega
theorem bCp (hC:Closed N R GE GP) (hS:P8 N) (hN:N≤1048576) (hd:DbB R d) (hdl:d.tables.length≤1048576):∀ n:Nat,
    (∀ (e:aJ) (env:Rows),bH e<n→GE e→Q4 env→(∀ r∈env,r.length≤1048576)→env.length+n≤1048576→EvE c d env e) ∧
    (∀ (p:aQ) (env:Rows),eF p<n→GP p→Q4 env→(∀ r∈env,r.length≤1048576)→env.length+n≤1048576→EvP c d env p∧xO c d env p=some (mQ d (eG c d env) p)):=by
  intro n
  induction n with
  | zero=>exact ⟨fun e env h=>by omega,fun p env h=>by omega⟩
  | succ n ih =>
    constructor
    · intro e env hz he hB hr hl
      have:=bEb (c:=c) (d:=d) hC hB (by omega) hr he (fun k hk=>by
        have:=aCx hk
        have:0<e.kids.length:=QY hk
        exact ih.1 k env (by omega) (hC.kid e he k hk) hB hr (by omega)) (fun p hp=>by
        have:=aCu hp
        have:0<e.sub.length:=QY hp
        exact (ih.2 p env (by omega) (hC.sub e he p hp) hB hr (by omega)).1)
      exact ⟨_,this⟩
    · intro p env hz hp hB hr hl
      refine cDe hC hS hN hd hdl hB (by omega) hp fun e he r hrb=>?_
      have:=aGp he
      refine ih.1 e (r::env) (by omega) (hC.part p hp e he) (fun x hx=>?_) (fun x hx=>?_) (by simp only [QR]; omega)
      · rcases QL.1 hx with rfl | hx
        · exact hrb.2
        · exact hB x hx
      · rcases QL.1 hx with rfl | hx
        · have:=hrb.1; omega
        · exact hr x hx
end
theorem bRg:lF []:=fun r hr=>by simp at hr
theorem CR.small {c:aP} (h:CR c):wO c:=⟨by have:=h.1; omega,fun t ht=>by have:=(h.2 t ht).1; omega⟩
theorem bPw (p:List Int) (hp:p.length≤1048576):Yes (aGo p 4) fun r=>0<r∧r≤4:=by
  unfold aGo
  have e:Int.tdiv (p.length:Int) 20=(p.length:Int) / 20:=Int.tdiv_eq_ediv_of_nonneg (by omega)
  rw [e,dY (n:=(p.length:Int) / 20) (by omega) (by omega),dY (by omega) (by omega)]
  refine Yes.ite (fun _=>Yes.some ⟨by omega,by omega⟩) fun h=>Yes.some ⟨by omega,by simp at h; omega⟩
theorem bVq {l:List aJ}:∀ {k:Nat} {x y:aJ} {b:Nat},l[k]?=some x→bH y≤bH x+b→zL bH (l.set k y)≤zL bH l+b:=by
  induction l with
  | nil=>intro k x y b h; simp at h
  | cons z l ih =>
    intro k x y b h hb
    cases k with
    | zero=>simp at h; subst h; simp only [List.set_cons_zero,zL,QR,QV,WL]; omega
    | succ k =>
      simp at h
      have:=ih (k:=k) h hb
      simp only [XC,zL,QR,QV,WL] at this ⊢; omega
theorem bVl (y:aA×aL) (hy:okV 4 y):∀ n (t:List UInt8) (b:List Int) (i h:Int),400≤n+t.length→t.length≤810→okCur ⟨b,i,h⟩→Yes (L9 y t b i h) (okV 810):=by
  obtain ⟨⟨h1,h2,_⟩,_,_⟩:=hy
  intro n
  have fin:∀ (t:List UInt8) (b:List Int) (i h:Int),t.length≤810→okCur ⟨b,i,h⟩→Yes (wK y.1.kind y.1.num t b i h) (okV 810):=fun t b i h ht ho=>by
    unfold wK
    exact Yes.some (okV_mk h1 h2 ht (by omega) ho)
  induction n with
  | zero =>
    intro t b i h ht hl ho
    rw [L9]
    refine Yes.bind (kN _ _ ho) fun r k=>Yes.bind (Q:=fun q=>q=false) ⟨_,rfl,by split <;> simp; omega⟩ fun q hq=>?_
    subst hq
    exact fin _ _ _ _ hl k
  | succ n ih =>
    intro t b i h ht hl ho
    rw [L9]
    refine Yes.bind (kN _ _ ho) fun r k=>Yes.bind (Q:=fun q=>q=true→t.length<400) ⟨_,rfl,fun hq=>by cases hr:r.1 <;> simp [hr] at hq; omega⟩ fun q hq=>Yes.ite (fun hq2=>?_) fun _=>fin _ _ _ _ hl k
    have:=hq hq2
    refine Yes.bind (Q:=fun z=>z=t++t) ⟨_,aP0 (by omega),rfl⟩ fun z hz=>?_
    subst hz
    refine Yes.bind (Q:=fun z=>z=(t++t)++[48,49,50,51,52,53,54,55,56,57]) ⟨_,aP0 (by simp; omega),rfl⟩ fun z hz=>?_
    subst hz
    exact ih _ _ _ _ (by simp; omega) (by simp; omega) k
theorem bQo (c:aL) (h:okCur c):Yes (aJi c) (okV 810):=by
  unfold aJi
  refine Yes.bind (bP2 _ h) fun y hy=>?_
  have hy':=hy
  obtain ⟨⟨h1,h2,h3⟩,h4,k⟩:=hy
  refine Yes.bind (jS _ _ k) fun r ⟨_,_,k⟩=>Yes.ite (fun _=>?_) fun _=>Yes.ite (fun _=>?_) fun _=>Yes.ite (fun _=>?_) fun _=>?_
  · refine Yes.bind (jS _ _ k) fun r ⟨a0,a1,k⟩=>?_
    have:=a1 (by decide)
    unfold wK
    exact Yes.some (okV_mk (by rw [dY (by omega) (by omega)]; exact okI_small (by omega) (by omega)) h2 (by omega) (by omega) k)
  · refine Yes.bind (aCb _ k) fun r ⟨a0,k⟩=>?_
    unfold wK
    exact Yes.some (okV_mk h1 a0 (by omega) (by omega) k)
  · refine Yes.bind (aBc _ _ (by decide) k) fun r ⟨hm,k⟩=>?_
    have:∀ v∈([[120],[],[108,111,110,103]]:List (List UInt8)),v.length≤4:=by decide
    have:=this _ hm
    exact bVl y hy' 400 _ _ _ _ (by omega) (by omega) k
  · unfold wK
    exact Yes.some (okV_mk h1 h2 (by omega) (by omega) k)
theorem zP (q:aQ):eF q=zTb q.tables+zL z0 q.tables+zL (zL bH) q.on_+zL bH q.where_+zL O6 q.order+zL bH q.items+zL List.length q.names:=by
  obtain ⟨a0,a1,a2,a3,a4,a5,a6,a7⟩:=q
  simp only [eF,aCw,aOb,aO2,zL]
def Ne4 (t:List Int) (o:List (List aJ)) (i:List aJ) (n:List (List UInt8)):Prop:=1≤t.length∧1≤o.length∧1≤i.length∧1≤n.length
def PZn (B:Nat) (r:aQ×aL):Prop:=(eF r.1≤40+8 * B∧Ne4 r.1.tables r.1.on_ r.1.items r.1.names)∧okCur r.2
theorem cDl {B:Nat} {d:Int} {cat:aP} (hc:nZ cat) (env:List (List Int)) (hv:lF env) (hl:env.length≤1000) (types:List Int) (hty:types.length≤2) (hty1:1≤types.length)
    (H:∀ c ty env',lF env'→env'.length=env.length+1→okCur c→Yes (qY c cat env' ty d) (FZ B)) (c:aL) (h:okCur c):Yes (xY c cat env types d) (PZn B):=by
  have J4:∀ y1 (w:List aJ) n i o t b j g r,qL 1 B w→pN 2 n→qL 2 B i→qO 2 B o→t.length≤2→qK B r→Ne4 t o i n→okCur ⟨b,j,g⟩→Yes (Z6 y1 w n i o t b j g r) (PZn B):=fun y1 w n i o t b j g r hw hn hi ho ht hr hne k=>by
    unfold Z6 aFs
    refine Yes.bind (kN _ _ k) fun q k=>Yes.ite (fun _=>?_) fun _=>?_
    · exact Yes.bind (jS _ _ k) fun q ⟨_,_,k⟩=>Yes.some ⟨⟨aMp ht ho hw hr hi hn,hne⟩,k⟩
    · exact Yes.some ⟨⟨aMp ht ho hw hr hi hn,hne⟩,k⟩
  have J3:∀ env' y1 n i o t b j g (w:List aJ),lF env'→env'.length=env.length+1→qL 1 B w→pN 2 n→qL 2 B i→qO 2 B o→t.length≤2→Ne4 t o i n→okCur ⟨b,j,g⟩→Yes (aAt d env' cat y1 n i (o,t,b,j,g,w)) (PZn B):=fun env' y1 n i o t b j g w he hel hw hn hi ho ht hne k=>by
    rw [aAt]
    refine Yes.bind (kN _ _ k) fun q k=>Yes.ite (fun _=>?_) fun _=>?_
    · refine Yes.bind (jS _ _ k) fun q ⟨_,_,k⟩=>Yes.bind (H _ _ _ he hel k) fun q ⟨hq,k⟩=>Yes.bind (kN _ _ k) fun q2 k=>Yes.bind (lX (by simp)) fun z hz=>?_
      subst hz
      exact J4 _ _ _ _ _ _ _ _ _ _ hw hn hi ho ht ⟨by simp,mem1 (p:=fun (k:dI)=>bH k.expr≤B) hq⟩ hne k
    · exact J4 _ _ _ _ _ _ _ _ _ _ hw hn hi ho ht ⟨by simp,by simp⟩ hne k
  have L2:∀ env' y1 o t,lF env'→env'.length=env.length+1→qO 2 B o→t.length≤2→1≤t.length∧1≤o.length→∀ x,x≤types.length→∀ b j g n i,pN x n→qL x B i→x≤n.length∧x≤i.length→okCur ⟨b,j,g⟩→Yes (yR types d env' cat y1 o t ((x:Nat),b,j,g,n,i)) (PZn B):=by
    intro env' y1 o t he hel ho ht hto
    refine dU ?_ ?_
    · intro b j g n i hn hi hx1 k
      have hne:Ne4 t o i n:=⟨hto.1,hto.2,by omega,by omega⟩
      rw [yR,if_neg (by simp)]
      have hn2:pN 2 n:=⟨by have:=hn.1; omega,hn.2⟩
      have hi2:qL 2 B i:=⟨by have:=hi.1; omega,hi.2⟩
      refine Yes.bind (kN _ _ k) fun q k=>Yes.ite (fun _=>?_) fun _=>?_
      · exact Yes.bind (H _ _ _ he hel k) fun q ⟨hq,k⟩=>J3 _ _ _ _ _ _ _ _ _ _ he hel ⟨by simp,mem1 hq⟩ hn2 hi2 ho ht hne k
      · exact J3 _ _ _ _ _ _ _ _ _ _ he hel ⟨by simp,by simp⟩ hn2 hi2 ho ht hne k
    · intro x hx ih b j g n i hn hi hx1 k
      rw [yR,if_pos (by simpa using hx)]
      have l1:=hn.1
      have l2:=hi.1
      simp only [bF hx,cK hx (by omega),QB,QA]
      refine Yes.bind (H _ _ _ he hel k) fun q ⟨hq,k⟩=>Yes.bind (lX (by simp; omega)) fun z hz=>Yes.bind (aBc _ _ (by decide) k) fun s ⟨hs,k⟩=>Yes.bind (lX (by simp; omega)) fun z2 hz2=>?_
      subst hz hz2
      have hs8:s.1.length≤8:=by
        have:∀ v∈([[97],[98],[99],[120],[121,32,122],[99,49]]:List (List UInt8)),v.length≤8:=by decide
        exact this _ hs
      exact ih _ _ _ _ _ ⟨by simp; omega,tV hn.2 hs8⟩ ⟨by simp; omega,tV hi.2 hq⟩ ⟨by simp; omega,by simp; omega⟩ k
  have L0:∀ (y2:Int×aL) y1,0≤y2.1→y2.1<2→∀ (m:Nat) (x:Int) b j g o (t:List Int),2≤m+x→0≤x→x≤2→qO x B o→(t.length:Int)≤x→x≤(o.length:Int)∧x≤(t.length:Int)→okCur ⟨b,j,g⟩→Yes (vN env types d y2 cat y1 (x,b,j,g,o,t)) (PZn B):=by
    intro y2 y1 y0 yl m
    have e0:QP .i64 (1+y2.1)=1+y2.1:=dY (by omega) (by omega)
    have fin:∀ (x:Int) b j g o (t:List Int),¬ x<1+y2.1→x≤2→qO x B o→(t.length:Int)≤x→x≤(o.length:Int)∧x≤(t.length:Int)→okCur ⟨b,j,g⟩→Yes (vN env types d y2 cat y1 (x,b,j,g,o,t)) (PZn B):=by
      intro x b j g o t hx h2 ho ht hx1 k
      rw [vN]
      dsimp only
      rw [e0,if_neg (by simpa using hx),(H8 cat hc t (by omega)).2]
      simp only [QB,QA]
      rw [(aA0 _ env (by omega)).2]
      simp only [QA]
      exact L2 _ y1 o t (aPh hc hv (by omega)) (by simp) ⟨by have:=ho.1; omega,ho.2⟩ (by omega) (by omega) 0 (by omega) _ _ _ _ _ ⟨by simp,by simp⟩ ⟨by simp,by simp⟩ (by simp) k
    induction m with
    | zero=>intro x b j g o t h1 h2 h3 ho ht hx1 k; exact fin x b j g o t (by omega) h3 ho ht hx1 k
    | succ m ih =>
      intro x b j g o t h1 h2 h3 ho ht hx1 k
      by_cases hx:x<1+y2.1
      · rw [vN]
        dsimp only
        rw [e0,if_pos (by simpa using hx)]
        have l1:=ho.1
        have J1:∀ (q:Int) (w:List aJ) b j g,w.length≤1→(∀ y∈w,bH y≤B)→okCur ⟨b,j,g⟩→Yes (X6 env types d y2 x cat y1 (t++[q],o,b,j,g,w)) (PZn B):=fun q w b j g hw1 hw2 k=>by
          rw [X6]
          refine Yes.bind (lX (by simp; omega)) fun z hz=>?_
          subst hz
          rw [dY (by omega) (by omega)]
          exact ih _ _ _ _ _ _ (by omega) (by omega) (by omega) ⟨by simp; omega,tV ho.2 ⟨hw1,hw2⟩⟩ (by simp; omega) (by simp; omega) k
        refine Yes.bind (jS _ _ k) fun q ⟨q0,q1,k⟩=>Yes.bind (lX (by simp; omega)) fun z hz=>?_
        subst hz
        rw [(H8 cat hc (t++[q.1]) (by simp; omega)).2]
        simp only [QB,QA]
        refine Yes.bind (aEy _ _ _ _ k) fun q2 k=>?_
        refine Yes.ite (fun _=>?_) fun _=>?_
        · rw [(aA0 _ env (by omega)).2]
          simp only [QA]
          refine Yes.bind (H _ _ _ (aPh hc hv (by simp; omega)) (by simp) k) fun e ⟨he,k⟩=>Yes.bind (lX (by simp)) fun z hz=>?_
          subst hz
          exact J1 _ _ _ _ _ (by simp) (mem1 he) k
        · exact J1 _ _ _ _ _ (by simp) (by simp) k
      · exact fin x b j g o t hx h3 ho ht hx1 k
  rw [xY]
  refine Yes.bind (kN _ _ h) fun y1 k=>Yes.bind (jS _ _ k) fun y2 ⟨q0,q1,k⟩=>?_
  exact L0 y2 y1 q0 (q1 (by decide)) 2 0 _ _ _ _ _ (by omega) (by omega) (by omega) ⟨by simp,by simp⟩ (by simp) (by simp) k
theorem cCl:∀ (n:Nat) (e:aJ) (c:aL),bH e<n→bH e≤400000→okCur c→Yes (aDa c e) (FZ (bH e+900)):=by
  intro n
  induction n with
  | zero=>intro e c h; omega
  | succ n ih =>
    intro e c hn hz h
    have hE:=aE1 e
    have lk:e.kids.length≤zL bH e.kids:=by unfold zL; omega
    have ls:e.sub.length≤zL eF e.sub:=by unfold zL; omega
    have J:∀ a b q (v:aA) u t cb ci ch (ss:List aQ),okCur ⟨cb,ci,ch⟩→xI v+zL bH e.kids+zL eF ss≤bH e+900→Yes (wY e a b q v.kind v.num v.text u t cb ci ch ss) (FZ (bH e+900)):=fun a b q v u t cb ci ch ss k hl=>by
      unfold wY
      refine Yes.some ⟨?_,k⟩
      show bH _≤_
      rw [aFv]; exact hl
    rw [aDa]
    refine Yes.bind (aEy _ _ _ _ h) fun r k=>Yes.bind (Q:=fun q=>q=true→0<(e.kids.length:Int)) ⟨_,rfl,?_⟩ fun q hq=>Yes.ite (fun hq2=>?_) fun _=>?_
    · intro h1
      by_cases h0:0<(e.kids.length:Int)
      · exact h0
      · rw [if_neg (by simpa using h0)] at h1; exact absurd h1 (by simp)
    · have h0:=hq hq2
      refine Yes.bind (jS _ _ k) fun r ⟨b0,b1,k⟩=>?_
      obtain ⟨v,hv0,hv⟩:=aRp (l:=e.kids) b0 (b1 h0)
      have hg:e.kids[r.1.toNat]?=some v:=by unfold idx at hv; rw [if_pos b0] at hv; exact hv
      have hl:=aO3 (z:=bH) hv0
      refine Yes.bind (Q:=fun z=>z=v) ⟨v,hv,rfl⟩ fun z hz2=>?_
      subst hz2
      have hlen:e.kids.length+(e.kids.map bH).sum=zL bH e.kids:=rfl
      have hpos:=QY hv0
      refine Yes.bind (ih z _ (by omega) (by omega) k) fun r2 ⟨h5,k⟩=>Yes.some ⟨?_,k⟩
      have:=bVq (b:=900) hg h5
      show bH _≤_
      rw [aFv]; omega
    · refine Yes.bind (jS _ _ k) fun r ⟨_,_,k⟩=>Yes.ite (fun _=>?_) fun _=>Yes.ite (fun _=>?_) fun _=>Yes.ite (fun _=>?_) fun _=>Yes.ite (fun _=>?_) fun _=>Yes.ite (fun _=>?_) fun _=>Yes.ite (fun _=>?_) fun _=>?_
      · exact Yes.bind (aCb _ k) fun r ⟨hi,k⟩=>J _ _ _ e.value _ _ _ _ _ _ k (by omega)
      · exact Yes.bind (aCb _ k) fun r ⟨hi,k⟩=>J _ _ _ e.value _ _ _ _ _ _ k (by omega)
      · exact Yes.bind (aCb _ k) fun r ⟨hi,k⟩=>J _ _ _ e.value _ _ _ _ _ _ k (by omega)
      · exact Yes.bind (aCb _ k) fun r ⟨hi,k⟩=>J _ _ _ e.value _ _ _ _ _ _ k (by omega)
      · exact Yes.bind (bQo _ k) fun r hr=>J _ _ _ r.1 _ _ _ _ _ _ hr.2.2 (by have:=zV hr.2.1 hr.1.2.1; omega)
      · exact J _ _ _ e.value _ _ _ _ _ _ k (by omega)
      · refine Yes.bind (lX (by simp; omega)) fun y hy=>?_
        subst hy
        refine J _ _ _ e.value _ _ _ _ _ _ k ?_
        have:eF (aQ.mk [] [] [] [] [] [] false 0)=0:=by simp [eF,I8,aDx,aFq,zL,zTb]
        simp only [zL,QM,QR,QT,WZ,QV,WG,List.sum_append,WL,List.sum_nil,this] at hE ⊢
        omega
theorem bSm {cat:aP} (hc:nZ cat) {d:Int} (hd0:0≤d) (hd:d<4) (env:List (List Int)) (hv:lF env) (hl:env.length≤10) (c:aL) (ty:Int) (h:okCur c):Yes (qY c cat env ty d) (FZ 25000) :=
  (bPs hc 3 d c ty env (by omega) (by omega) (by omega) hv (by omega) h).mono fun r hr=>⟨QJ hr.1 (by decide),hr.2⟩
def R20 (r:aP×aQ×aL):Prop:=(CR r.1∧eF r.2.1≤300000∧Ne4 r.2.1.tables r.2.1.on_ r.2.1.items r.2.1.names)∧okCur r.2.2
theorem bRv (c:aL) {d:Int} (hd0:0≤d) (hd:d<4) (h:okCur c):Yes (aK8 c d) R20:=by
  have J:∀ (y1:aP×aL) (x7:List Int) b j g,CR y1.1→x7.length≤2→1≤x7.length→okCur ⟨b,j,g⟩→Yes (aFd d y1 x7 b j g) R20:=fun y1 x7 b j g hC hl hl1 k=>by
    unfold aFd
    exact Yes.bind (cDl (B:=25000) hC.cat [] bRg (by simp) x7 hl hl1 (fun c ty env' he hel k=>bSm hC.cat hd0 hd env' he (by simp at hel; omega) c ty k) _ k) fun r ⟨⟨hr,hn⟩,k⟩=>Yes.some ⟨⟨hC,by show eF r.1≤300000; omega,hn⟩,k⟩
  unfold aK8
  refine Yes.bind (bLz _ h) fun y1 ⟨hC,k⟩=>Yes.bind (jS _ _ k) fun y2 ⟨_,_,k⟩=>Yes.bind (kN _ _ k) fun y3 k=>Yes.ite (fun _=>?_) fun _=>J _ _ _ _ _ hC (by simp) (by simp) k
  refine Yes.bind (jS _ _ k) fun y4 ⟨_,_,k⟩=>Yes.bind (lX (by simp)) fun y e=>?_
  subst e
  exact J _ _ _ _ _ hC (by simp) (by simp) k
theorem cBe {α:Type} {l:List α} (h:1≤l.length):∃ x,idx l 0=some x∧l[0]?=some x:=by
  refine ⟨l[0]'(by omega),?_,by simp⟩
  exact bF (i:=0) (by omega)
theorem bDz {α:Type} {z:α→Nat} {y:α}:∀ (l:List α) (k:Nat),zL z (l.set k y)≤zL z l+z y
  | [],_=>by simp [zL]
  | a::l,0=>by simp [zL]; omega
  | a::l,k+1=>by
    have:=bDz (z:=z) (y:=y) l k
    simp only [zL,XC,QR,QV,WL] at this ⊢
    omega
theorem bPr (c:aL) (ty:Int) (h:okCur c):Yes (aHq c ty) fun r=>okI r.1.num∧okCur r.2:=by
  unfold aHq
  refine Yes.bind (aEy _ _ _ _ h) fun r k=>Yes.bind (Q:=fun _=>True) ⟨_,rfl,trivial⟩ fun q _=>Yes.ite (fun _=>?_) fun _=>?_
  · exact Yes.bind (jS _ _ k) fun r ⟨b0,b1,k⟩=>Yes.bind (Q:=fun v:aA=>okI v.num) ⟨_,rfl,okI_w⟩ fun v hv=>Yes.some ⟨hv,k⟩
  · exact Yes.bind (bGn _ _ k) fun r ⟨⟨_,hn⟩,k⟩=>Yes.some ⟨hn,k⟩
def bD8 (t:fP):Prop:=t.rows.length≤4∧∀ r∈t.rows,eZ 1 r
def dbG (n:Nat) (d:GDb):Prop:=d.tables.length≤n∧∀ t∈d.tables,bD8 t
def okG (r:GDb×aL):Prop:=dbG 3 r.1∧okCur r.2
theorem cF3 {cat:aP} (hC:CR cat) (c:aL) (h:okCur c):Yes (aK5 c cat) okG:=by
  have hl:=hC.1.2
  have L0:∀ x,x≤cat.tables.length→∀ b i g (T:List fP),T.length=x→(∀ t∈T,bD8 t)→okCur ⟨b,i,g⟩→Yes (aD5 cat (x:Nat) b i g T) okG:=by
    refine dU ?_ ?_
    · intro b i g T hT hG k
      rw [aD5,if_neg (by simp)]
      exact Yes.some ⟨⟨by show T.length≤3; omega,hG⟩,k⟩
    · intro x hx ih b i g T hT hG k
      have hcl:=(hC.2 _ (QE hx)).1.2
      rw [aD5,if_pos (by simpa using hx)]
      refine Yes.bind (jS _ _ k) fun y1 ⟨y0,y5,k⟩=>?_
      have y5:=y5 (by decide)
      have L1:∀ (m:Nat) (n:Int) (rows:Rows) b i g,y1.1≤m+n→0≤n→n≤4→(rows.length:Int)=n→(∀ r∈rows,eZ 1 r)→okCur ⟨b,i,g⟩→Yes (aA3 (x:Int) y1 cat T n rows (b,i,g)) okG:=by
        intro m
        have fin:∀ (n:Int) (rows:Rows) b i g,¬ n<y1.1→n≤4→(rows.length:Int)=n→(∀ r∈rows,eZ 1 r)→okCur ⟨b,i,g⟩→Yes (aA3 (x:Int) y1 cat T n rows (b,i,g)) okG:=by
          intro n rows b i g hn h4 hr hB k
          rw [aA3,if_neg (by simpa using hn)]
          refine Yes.bind (lX (by simp only [QH]; omega)) fun z hz=>?_
          subst hz
          rw [cK hx (by omega)]
          exact ih _ _ _ _ (by simp [hT]) (tV hG ⟨by show rows.length≤4; omega,hB⟩) k
        induction m with
        | zero=>intro n rows b i g h1 h0 h4 hr hB k; exact fin n rows b i g (by omega) h4 hr hB k
        | succ m ihm =>
          intro n rows b i g h1 h0 h4 hr hB k
          by_cases hn:n<y1.1
          case neg=>exact fin n rows b i g hn h4 hr hB k
          rw [aA3,if_pos (by simpa using hn)]
          have L2:∀ j,j≤cat.tables[x].cols.length→∀ (row:Row1) b i g,row.length=j→(∀ v∈row,okI v.num)→okCur ⟨b,i,g⟩→Yes (Z5 (x:Int) y1 n cat rows T row ((j:Nat),b,i,g)) okG:=by
            refine dU ?_ ?_
            · intro row b i g hj hv k
              rw [Z5]
              simp only [bF hx,bV,QU,decide_false,QC,if_false,QB,QA]
              refine Yes.bind (lX (by simp only [QH]; omega)) fun z hz=>?_
              subst hz
              rw [dY (by omega) (by omega)]
              refine ihm (n+1) _ _ _ _ (by omega) (by omega) (by omega) (by simp only [QM,QH]; omega) (tV hB ⟨by omega,hv⟩) k
            · intro j hj ihj row b i g hrl hv k
              rw [Z5]
              simp only [bF hx,bV,hj,decide_true,if_true,bF hj,QB,QA]
              refine Yes.bind (bPr _ _ k) fun r ⟨hn,k⟩=>Yes.bind (lX (by simp only [QH]; omega)) fun z hz=>?_
              subst hz
              rw [cK hj (by omega)]
              exact ihj _ _ _ _ (by simp [hrl]) (tV hv hn) k
          have:=L2 0 (by omega) [] b i g rfl (by simp) k
          simpa using this
      have:=L1 y1.1.toNat 0 [] y1.2.b y1.2.i y1.2.h (by omega) (by omega) (by omega) rfl (by simp) k
      exact this
  unfold aK5
  have:=L0 0 (by omega) c.b c.i c.h [] rfl (by simp) h
  simpa using this
def okR (r:aL×aP×GDb×aQ):Prop:=okCur r.1∧CR r.2.1∧dbG 3 r.2.2.1∧eF r.2.2.2≤300000∧1≤r.2.2.2.items.length
theorem bQl (p:List Int) (hp:p.length≤1048576):Yes (aJ9 p) okR:=by
  unfold aJ9
  obtain ⟨c,e,hc⟩:=bNi p hp
  rw [e]
  simp only [QB,QA]
  refine Yes.bind (bPw p hp) fun n ⟨n0,n3⟩=>Yes.bind (jS _ _ hc) fun y3 ⟨a0,a1,k⟩=>?_
  have a1:=a1 n0
  refine Yes.bind (bRv _ a0 (by omega) k) fun y4 ⟨⟨hC,hS,hN⟩,k⟩=>Yes.bind (cF3 hC _ k) fun y5 ⟨hG,k⟩=>Yes.some ⟨k,hC,hG,hS,hN.2.2.1⟩
def okW (r:aP×GDb×aQ):Prop:=CR r.1∧dbG 4 r.2.1∧eF r.2.2≤1000000
theorem bZ1 (p:List Int) (hp:p.length≤1048576):Yes (aIw p) okW:=by
  unfold aIw
  refine Yes.bind (bQl p hp) fun y1 ⟨k,hC,hG,hS,hI⟩=>Yes.bind (kN _ _ k) fun y2 k=>?_
  have J:∀ b i g (its:List aJ),eF (aQ.mk y1.2.2.2.tables y1.2.2.2.on_ y1.2.2.2.where_ y1.2.2.2.order its y1.2.2.2.names y1.2.2.2.distinct y1.2.2.2.limit)≤1000000→okCur ⟨b,i,g⟩→Yes (aF7 y1 b i g its) okW:=by
    intro b i g its hz k
    unfold aF7 aIg
    refine Yes.bind (kN _ _ k) fun q k=>Yes.ite (fun _=>?_) fun _=>Yes.some ⟨hC,⟨QJ hG.1 (by omega),hG.2⟩,hz⟩
    refine Yes.bind (lX (by have:=hG.1; simp only [QH]; omega)) fun z hz2=>?_
    subst hz2
    exact Yes.some ⟨hC,⟨by have:=hG.1; simp only [QM,QH]; omega,tV hG.2 ⟨by simp,by simp⟩⟩,hz⟩
  refine Yes.ite (fun _=>?_) fun _=>J _ _ _ _ (by
    have e:(aQ.mk y1.2.2.2.tables y1.2.2.2.on_ y1.2.2.2.where_ y1.2.2.2.order y1.2.2.2.items y1.2.2.2.names y1.2.2.2.distinct y1.2.2.2.limit)=y1.2.2.2:=by cases y1.2.2.2; rfl
    rw [e]; omega) k
  obtain ⟨x,x1,x2⟩:=cBe hI
  refine Yes.bind (Q:=fun z=>z=x) ⟨x,x1,rfl⟩ fun z hz=>?_
  subst hz
  have hZ:=zP y1.2.2.2
  have hm:=S9 (z:=bH) (List.mem_of_getElem? x2)
  refine Yes.bind (cCl _ _ _ (WU _) (by omega) k) fun q ⟨h1,k⟩=>J _ _ _ _ ?_ k
  rw [zP]
  have:=bDz (z:=bH) (y:=q.1) y1.2.2.2.items (0:Int).toNat
  dsimp only; omega
theorem bJq:Closed 19 4 (fun e=>bH e≤1048576) (fun p=>eF p≤1048576) where
  val e h:=by have:=aE1 e; exact bY7 (by omega)
  kid e h k hk:=by have:=aCx hk; omega
  sub e h p hp:=by have:=aCu hp; omega
  plan p h:=by
    have hz:=N8 p
    have hl:=aL9 p
    have t2:p.tables.length≤2:=by
      have:zTb p.tables≤1048576:=by omega
      unfold zTb at this; omega
    refine ⟨by omega,?_,by omega,fun l hl2=>?_,by omega,by omega,by omega⟩
    · exact QJ (WT (by omega) t2) (by decide)
    · have:=S9 (z:=zL bH) hl2
      have:=wE (z:=bH) l
      omega
  part p h e he:=by have:=aGp he; omega
  len e h:=by have:=aY4 e; omega
  ze e h:=h
  zp p h:=h
theorem bBr {n:Nat} {d:GDb} (h:dbG n d):DbB 4 d:=⟨by omega,fun t ht=>(h.2 t ht).1,fun t ht=>(h.2 t ht).2⟩
theorem bHn {c:aP} {d:GDb} {p:aQ} (hd:dbG 4 d) (hp:eF p≤1048575):EvP c d [] p∧xO c d [] p=some (mQ d (eG c d []) p):=by
  refine (bCp (c:=c) bJq bIy (by omega) (bBr hd) (by have:=hd.1; omega) (eF p+1)).2 p [] (WU _) (by omega) (fun r hr=>by simp at hr) (fun r hr=>by simp at hr) (by simp; omega)
theorem bYx (x:aA):rP x=kW x∧∃ b,kW x=some b:=by
  unfold rP kW fJ
  simp only [QB,QA]
  by_cases h0:x.kind=0
  · simp [h0]
  by_cases h1:x.kind=1
  · simp [h1]
  by_cases h2:x.kind=2
  · simp [h2]
  by_cases h3:x.kind=3
  · by_cases n0:x.num=0
    · simp [h3,n0]
    by_cases n1:x.num=1
    · simp [h3,n1]
    have e:(if decide (0≤x.num)=true then decide (x.num≤1) else false)=false:=by
      by_cases p:0≤x.num
      · simp [p]; omega
      · simp [p]
    rw [e]
    simp [h3,n0,n1]
  · simp [h0,h1,h2,h3]
theorem bUh (x:aA) (t:Int):aJp x t=U6 x t∧∃ b,U6 x t=some b:=by
  obtain ⟨h1,b,h2⟩:=bYx x
  unfold aJp U6
  rw [h1,h2]
  cases b <;> exact ⟨rfl,_,rfl⟩
theorem bAu (r:List aA) (t:List Int) (hl:r.length≤1048576):aC4 r t=G9 r t∧∃ b,G9 r t=some b:=by
  unfold aC4 G9
  by_cases he:(r.length:Int)=(t.length:Int)
  · simp only [he,decide_true,QD,QC,if_false]
    have:=aMs (n:=r.length) (L:=fun i=>aAj t r i) (M:=fun i=>wR r t i) ?_ ?_
    · obtain ⟨h1,b,h2⟩:=this
      rw [h1] at h2
      exact ⟨h1,b,h2⟩
    · intro i hi h1 h2
      try dsimp only at h1 h2 ⊢
      have hi':i<t.length:=by omega
      obtain ⟨f1,b,f2⟩:=bUh r[i] t[i]
      rw [aAj,wR]
      simp only [bV,bF hi,bF hi',cK hi (by omega),hi,decide_true,if_true,f1,f2,QB,QA]
      cases b with
      | true=>simp only [QD,QC,if_false]; exact ⟨h1,h2⟩
      | false=>simp
    · try dsimp only
      rw [aAj,wR]
      simp
  · simp [he]
theorem bOj (t:eD) (hl:t.cols.length≤1048576):V9 t=E9 t∧∃ r,E9 t=some r:=by
  unfold V9 E9
  have key:∀ i,i≤t.cols.length→∀ l:List Int,l.length≤i→wT t l (i:Nat)=uZ t l (i:Nat)∧∃ r,uZ t l (i:Nat)=some r:=by
    refine dU ?_ ?_
    · intro l _
      rw [wT,uZ]; simp
    · intro i hi ih l hl2
      rw [wT,uZ]
      have ea:appG 8 l [t.cols[i].type]=some (l++[t.cols[i].type]):=by unfold appG; rw [if_pos (by simp; omega)]
      simp only [bV,bF hi,cK hi (by omega),hi,decide_true,if_true,ea,QB,QA]
      exact ih _ (by simp; omega)
  exact key 0 (by omega) [] (by simp)
theorem bT1 (c:aP) (d:GDb) (hc:wO c) (hd:d.tables.length≤1048576∧∀ t∈d.tables,t.rows.length≤1048576∧∀ r∈t.rows,r.length≤1048576):aEj c d=wM c d∧∃ b,wM c d=some b:=by
  unfold aEj wM
  obtain ⟨b1,i1,i2⟩:=aRz c hc
  obtain ⟨b2,s1,s2⟩:=bF9 c hc
  have e:b1=b2:=bV5 i2 s2 Iff.rfl
  subst e
  simp only [i1,s1,QB,QA]
  cases b1 with
  | false=>simp
  | true =>
    by_cases he:(d.tables.length:Int)=(c.tables.length:Int)
    · simp only [he,decide_true,QD,QC,if_false]
      have:=aMs (n:=d.tables.length) (L:=fun i=>H6 d c i) (M:=fun i=>yP c d i) ?_ ?_
      · obtain ⟨h1,b,h2⟩:=this
        rw [h1] at h2
        exact ⟨h1,b,h2⟩
      · intro i hi h1 h2
        try dsimp only at h1 h2 ⊢
        obtain ⟨r0,h2⟩:=h2
        have hi':i<c.tables.length:=by omega
        have hrows:=hd.2 _ (QE hi)
        obtain ⟨t1,ty,t2⟩:=bOj c.tables[i] (hc.2 _ (QE hi'))
        have:=hd.1
        rw [H6,yP]
        simp only [bV,bF hi,bF hi',cK hi (by omega),hi,decide_true,if_true,t1,t2,QB,QA]
        by_cases h6:(6:Int)<(d.tables[i].rows.length:Int)
        · simp [h6]
        · have scan:∀ j,j≤d.tables[i].rows.length→∃ k:Int,Q6 d.tables[i].rows ty (j:Nat)=some k∧((0≤k∧uY (i:Int) c d (j:Nat)=some false)∨(k<0∧uY (i:Int) c d (j:Nat)=some r0)):=by
            refine dU ?_ ?_
            · rw [Q6,uY]
              simp only [bV,bF hi,QU,decide_false,QC,if_false,QB,QA,cK hi (by omega)]
              exact ⟨-1,rfl,.inr ⟨by omega,by rw [← h1]; exact h2⟩⟩
            · intro j hj ih
              obtain ⟨f1,b,f2⟩:=bAu d.tables[i].rows[j] ty (hrows.2 _ (QE hj))
              rw [Q6,uY]
              simp only [bV,bF hi,bF hi',bF hj,hj,decide_true,if_true,t2,f1,f2,aL2,QB,QA,cK hj (by omega)]
              cases b with
              | true=>simpa using ih
              | false=>exact ⟨(j:Int),by simp,.inl ⟨by omega,by simp⟩⟩
          obtain ⟨k,k1,k2⟩:=scan 0 (by omega)
          rw [show ((0:Nat):Int)=0 from rfl] at k1 k2
          simp only [h6,decide_false,QC,if_false,aHp,aLs,k1,QB,QA]
          rcases k2 with ⟨k0,k2⟩ | ⟨k0,k2⟩
          · simp [k0,k2]
          · have:¬ 0≤k:=by omega
            have h3:H6 d c ((i:Int)+1)=some r0:=h2
            simp only [k2,this,decide_false]
            cases r0 <;> simp [h3]
      · try dsimp only
        rw [H6,yP]
        simp
    · simp [he]
def wtB (c:aP) (p:aQ):Bool:=(aAd c p).getD false
def dbB (c:aP) (d:GDb):Bool:=(wM c d).getD false
theorem bK1 {c:aP} (hs:wO c) {p:aQ} (hz:eF p≤1048576):R9 c p=some (wtB c p)∧aAd c p=some (wtB c p):=by
  obtain ⟨b,h1,h2⟩:=bZ2 c hs p hz
  unfold wtB; rw [h2]; exact ⟨h1,rfl⟩
theorem bGx {c:aP} {n:Nat} (hs:wO c) {d:GDb} (hd:dbG n d) (hn:n≤1048576):aEj c d=some (dbB c d)∧wM c d=some (dbB c d):=by
  obtain ⟨h1,b,h2⟩:=bT1 c d hs ⟨by have:=hd.1; omega,fun t ht=>⟨by have:=(hd.2 t ht).1; omega,fun r hr=>by have:=((hd.2 t ht).2 r hr).1; omega⟩⟩
  unfold dbB; rw [h1,h2]; exact ⟨rfl,rfl⟩
def aB7 (c:aP) (d:GDb) (p:aQ):Rows×Int:=if (wtB c p&&dbB c d)=true then mQ d (eG c d []) p else ([],4)
theorem bPv {c:aP} (hs:wO c) {d:GDb} (hd:dbG 4 d) {p:aQ} (hz:eF p≤1048575):aHx c d p=some (aB7 c d p)∧aKx c d p=some (aB7 c d p):=by
  obtain ⟨w1,w2⟩:=bK1 hs (p:=p) (by omega)
  obtain ⟨d1,d2⟩:=bGx hs hd (by omega)
  obtain ⟨⟨r,e1,e2,_,_⟩,e3⟩:=bHn (c:=c) hd hz
  rw [e3] at e1
  have e1:=Option.some.inj e1
  subst e1
  unfold aHx aKx aB7
  rw [w1,w2,d1,d2,e3,e2]
  simp only [QB,QA,orB]
  cases wtB c p
  · simp
  · cases dbB c d <;> simp
theorem bW0 {d:GDb} {ev:aJ→Gf} {p:aQ} (h:(mQ d ev p).2≠0):(mQ d ev p).1=[]:=by
  unfold mQ at h ⊢
  split
  · rfl
  rename_i hn
  rw [if_neg hn] at h
  unfold J5 at h ⊢
  split
  · rfl
  rename_i h0
  rw [if_neg h0] at h
  split
  · rfl
  rename_i h1
  rw [if_neg h1] at h
  split
  · rfl
  rename_i h2
  rw [if_neg h2] at h
  split
  · rfl
  rename_i h3
  rw [if_neg h3] at h
  exact absurd rfl h
def aPo (q:Qry):Rows×Int :=
  if (joE q.st [[]]).2≠0 then ([],(joE q.st [[]]).2) else if (whE q.wh (joE q.st [[]]).1).2≠0 then ([],(whE q.wh (joE q.st [[]]).1).2) else
  if (iG q.ks (whE q.wh (joE q.st [[]]).1).1).2≠0 then ([],(iG q.ks (whE q.wh (joE q.st [[]]).1).1).2) else
  if (mE q.is (iG q.ks (whE q.wh (joE q.st [[]]).1).1).1).2≠0 then ([],(mE q.is (iG q.ks (whE q.wh (joE q.st [[]]).1).1).1).2) else
  ((mE q.is (iG q.ks (whE q.wh (joE q.st [[]]).1).1).1).1,0)
theorem bE7 (q:Qry):J5 q=if (aPo q).2≠0 then ([],(aPo q).2) else (yI q.dis q.lim (aPo q).1,0):=by
  unfold J5 aPo
  by_cases h0:(joE q.st [[]]).2=0
  case neg=>simp [h0]
  by_cases h1:(whE q.wh (joE q.st [[]]).1).2=0
  case neg=>simp [h0,h1]
  by_cases h2:(iG q.ks (whE q.wh (joE q.st [[]]).1).1).2=0
  case neg=>simp [h0,h1,h2]
  by_cases h3:(mE q.is (iG q.ks (whE q.wh (joE q.st [[]]).1).1).1).2=0
  case neg=>simp [h0,h1,h2,h3]
  simp [h0,h1,h2,h3]
theorem bYn {r:aP×GDb×aQ} (h:okW r):wO r.1:=h.1.small
inductive A2 {α β:Type} (R:α→β→Prop):List α→List β→Prop
  | nil:A2 R [] []
  | cons {a b l m}:R a b→A2 R l m→A2 R (a::l) (b::m)
theorem A2.length {α β:Type} {R:α→β→Prop} {l:List α} {m:List β} (h:A2 R l m):l.length=m.length:=by induction h <;> simp [*]
theorem A2.get {α β:Type} {R:α→β→Prop} {l:List α} {m:List β} (h:A2 R l m):∀ (i:Nat) (h1:i<l.length) (h2:i<m.length),R l[i] m[i]:=by
  induction h with
  | nil=>intro i h1; simp at h1
  | cons a _ ih =>
    intro i h1 h2
    cases i with
    | zero=>exact a
    | succ i=>exact ih i (by simpa using h1) (by simpa using h2)
theorem A2.of {α β:Type} {R:α→β→Prop}:∀ {l:List α} {m:List β},l.length=m.length→(∀ (i:Nat) (h1:i<l.length) (h2:i<m.length),R l[i] m[i])→A2 R l m
  | [],[],_,_=>.nil
  | a::l,b::m,h,k=>.cons (k 0 (by simp) (by simp)) (A2.of (by simpa using h) fun i h1 h2=>k (i+1) (by simpa using h1) (by simpa using h2))
def Ty (c:aP) (env:List (List Int)) (e:aJ) (t:Int):Prop:=pR c env e=some (t,true)
def TyP (c:aP) (env:List (List Int)) (p:aQ) (ts:List Int):Prop:=yD c env p=some (ts,true)
theorem bV2 {c:aP} {env:List (List Int)} {e:aJ} {t:Int} (h:Ty c env e t) (hk:e.kids.length≤1048576) (hs:e.sub.length≤1048576):K9 e=some true∧aCa e:=by
  obtain ⟨b,s1,i1,hf⟩:=aHm e hk hs
  unfold Ty at h
  rw [pR,i1] at h
  cases b with
  | true=>exact ⟨s1,hf rfl⟩
  | false=>simp at h
theorem cBu {c:aP} {env:List (List Int)} {e:aJ} {t:Int} (h:Ty c env e t) (hk:e.kids.length≤1048576) (hs:e.sub.length≤1048576) (k2:e.kind=2) :
    ∃ (u a:Nat) (hu:u<env.length) (ha:a<env[u].length),e.up=u∧e.at_=a∧t=env[u][a]:=by
  obtain ⟨b,s1,i1,hf⟩:=aHm e hk hs
  unfold Ty at h
  rw [pR,i1] at h
  cases b with
  | false=>simp at h
  | true =>
  simp only [k2,decide_true,QD,QC,if_false,if_true,QB,QA] at h
  by_cases u0:e.up<0
  · simp [u0] at h
  by_cases u1:(env.length:Int)≤e.up
  · simp [u0,u1] at h
  have hj:e.up.toNat<env.length:=by omega
  have hx:idx env e.up=some env[e.up.toNat]:=by
    have:=bF hj
    rwa [show ((e.up.toNat:Nat):Int)=e.up by omega] at this
  by_cases a0:e.at_<0
  · simp [u0,u1,a0] at h
  by_cases a1:(env[e.up.toNat].length:Int)≤e.at_
  · simp [u0,u1,a0,a1,hx] at h
  have hj2:e.at_.toNat<env[e.up.toNat].length:=by omega
  have hx2:idx env[e.up.toNat] e.at_=some env[e.up.toNat][e.at_.toNat]:=by
    have:=bF hj2
    rwa [show ((e.at_.toNat:Nat):Int)=e.at_ by omega] at this
  simp only [u0,u1,a0,a1,hx,hx2,decide_false,QC,if_false,if_true,beq_self_eq_true,QQ,QA,WE,Prod.mk.injEq,and_true] at h
  exact ⟨e.up.toNat,e.at_.toNat,hj,hj2,by omega,by omega,h.symm⟩
theorem bRl {c:aP} {env:List (List Int)} {e:aJ} {t:Int} (h:Ty c env e t) (hk:e.kids.length≤1048576) (hs:e.sub.length≤1048576) (k2:e.kind≠2) :
    ∃ acc:List Int,A2 (Ty c env) e.kids acc∧pW env acc e c [] 0=some (t,true):=by
  obtain ⟨b,s1,i1,hf⟩:=aHm e hk hs
  unfold Ty at h
  rw [pR,i1] at h
  cases b with
  | false=>simp at h
  | true =>
  simp only [k2,decide_false,QD,QC,if_false,QB,QA] at h
  have key:∀ i,i≤e.kids.length→∀ acc:List Int,acc.length=i→qM env e c acc (i:Nat)=some (t,true)→∃ r,A2 (Ty c env) (e.kids.drop i) r∧pW env (acc++r) e c [] 0=some (t,true):=by
    refine dU ?_ ?_
    · intro acc _ h
      rw [qM] at h
      exact ⟨[],by simpa using A2.nil,by simpa using h⟩
    · intro i hi ih acc ha h
      rw [qM] at h
      simp only [bV,hi,decide_true,if_true,bF hi,cK hi (by omega),QB,QA] at h
      cases hr:pR c env e.kids[i] with
      | none=>simp [hr] at h
      | some r =>
        obtain ⟨y,ok⟩:=r
        cases ok with
        | false=>simp [hr] at h
        | true =>
          have ea:appG 8 acc [y]=some (acc++[y]):=by unfold appG; rw [if_pos (by simp; omega)]
          simp only [hr,ea,QA,QD,QC,if_false] at h
          obtain ⟨r,h1,h2⟩:=ih _ (by simp [ha]) h
          rw [QF hi]
          exact ⟨y::r,.cons hr h1,by simpa using h2⟩
  simpa using key 0 (by omega) [] rfl h
theorem bL8 {c:aP} {env:List (List Int)} {e:aJ} {t:Int} {acc:List Int} (hf:e.sub.length≤1) (h:pW env acc e c [] 0=some (t,true)) :
    ∃ st:List Int,qJ e acc st=some (t,true)∧(e.sub=[]∧st=[]∨∃ p,e.sub=[p]∧TyP c env p st∧(e.kind=8→st.length=1)):=by
  have fin:∀ (x:Option (Int×Bool)),(x>>=fun (y15:Int×Bool)=>some (y15.1,y15.2))=some (t,true)→x=some (t,true):=by
    intro x hx
    cases x with
    | none=>simp at hx
    | some y=>obtain ⟨a,b⟩:=y; simpa using hx
  cases hs:e.sub with
  | nil =>
    rw [pW] at h
    simp only [hs,QT] at h
    exact ⟨[],fin _ (by simpa using h),.inl ⟨rfl,rfl⟩⟩
  | cons p l =>
    have hl:l=[]:=by rw [hs] at hf; simpa using hf
    subst hl
    rw [pW] at h
    have ip:idx [p] 0=some p:=rfl
    have iw:QP .i64 (0+1)=1:=rfl
    simp only [hs,ip,iw,QR,QT,QB,QA,WM,show decide ((0:Int)<((1:Nat):Int))=true from rfl,if_true] at h
    cases hp:yD c env p with
    | none=>simp [hp] at h
    | some r =>
      obtain ⟨st,ok⟩:=r
      cases ok with
      | false=>simp [hp] at h
      | true =>
        have e1:∀ st,pW env acc e c st 1=qJ e acc st>>=fun (y15:Int×Bool)=>some (y15.1,y15.2):=fun st=>by rw [pW]; simp [hs]
        by_cases k8:e.kind=8
        · by_cases h1:st.length=1
          · simp [hp,k8,h1,e1] at h
            exact ⟨st,fin _ (by simpa using h),.inr ⟨p,rfl,hp,fun _=>h1⟩⟩
          · have h2:¬ (st.length:Int)=1:=by omega
            simp [hp,k8,h2] at h
        · simp [hp,k8,e1] at h
          exact ⟨st,fin _ (by simpa using h),.inr ⟨p,rfl,hp,fun h=>absurd h k8⟩⟩
theorem cBn {e:aJ} (h:aCa e):e.sub.length≤1∧(e.kind=2→e.kids=[]∧e.sub=[]):=by
  rcases h with h | h | h | h | h | h | h | h | h <;> refine ⟨by omega,fun k=>?_⟩ <;> first | exact ⟨WI h.2.1,WI h.2.2⟩ | omega
def Tru (c:aP) (env:List (List Int)) (e:aJ) (t:Int):Prop:=Ty c env e t∧wL t=some true
theorem bGr {c:aP} {env:List (List Int)} {l:List aJ} (hl:l.length≤1048576) (h:yQ c env l=some true):∀ e∈l,∃ t,Tru c env e t:=by
  have key:∀ i,i≤l.length→∀ k:Int,yT l c env (i:Nat)=some k→k<0→∀ e∈l.drop i,∃ t,Tru c env e t:=by
    refine dU ?_ ?_
    · intro k _ _ e he; simp at he
    · intro i hi ih k hk hk0
      rw [yT] at hk
      simp only [bV,hi,decide_true,if_true,bF hi,cK hi (by omega),aGn,QB,QA] at hk
      rw [QF hi]
      cases hr:pR c env l[i] with
      | none=>simp [hr] at hk
      | some r =>
        obtain ⟨y,ok⟩:=r
        cases ok with
        | false=>simp [hr] at hk; omega
        | true =>
          obtain ⟨b,hb⟩:=aJf y
          have hb':wL y=some b:=by rw [aNc,hb]
          cases b with
          | false=>simp [hr,hb'] at hk; omega
          | true =>
            simp [hr,hb'] at hk
            intro e he
            rcases QL.1 he with rfl | he
            · exact ⟨y,hr,hb'⟩
            · exact ih k (by simpa using hk) hk0 e he
  rw [yQ,aKm,aJh] at h
  cases hk:yT l c env 0 with
  | none=>simp [hk] at h
  | some k =>
    have:=key 0 (by omega) k hk (by simp [hk] at h; omega)
    simpa using this
structure bYo (c:aP) (env:List (List Int)) (p:aQ) (ts:List Int):Prop where
  pB:xJ p=true
  oB:onB p=true
  nB:p.names.all nmB=true
  tb:∀ k∈p.tables,0≤k∧k<(c.tables.length:Int)
  on:∀ (i:Nat) (h:i<p.on_.length),∀ e∈p.on_[i],∃ t,Tru c ((eO c [] (p.tables.take (i+1))).1::env) e t
  wh:∀ e∈p.where_,∃ t,Tru c ((eO c [] p.tables).1::env) e t
  od:∀ k∈p.order,∃ t,Ty c ((eO c [] p.tables).1::env) k.expr t
  it:A2 (Ty c ((eO c [] p.tables).1::env)) p.items ts
theorem bB3 {c:aP} (hc:nZ c) {env:List (List Int)} (hl:env.length≤1048577) {p:aQ} (hz:eF p≤1048576) {ts:List Int} (h:TyP c env p ts):bYo c env p ts:=by
  have hlen:=aL9 p
  unfold TyP at h
  obtain ⟨_,f2⟩:=bF5 c hc p (by omega) (by omega) (by omega)
  obtain ⟨r1,_⟩:=H8 c hc p.tables (by omega)
  rw [yD,f2,r1] at h
  simp only [QB,QA] at h
  cases hr:(eO c [] p.tables).2 with
  | false=>simp [hr] at h
  | true =>
  cases hP:xJ p with
  | false=>simp [hr,hP] at h
  | true =>
  cases hO:onB p with
  | false=>simp [hr,hP,hO] at h
  | true =>
  cases hN:p.names.all nmB with
  | false=>simp [hr,hP,hO,hN] at h
  | true =>
  simp only [hr,hP,hO,hN,QD,WP,QQ,beq_self_eq_true,if_true,QC,if_false,QA] at h
  have hB:p.tables.length≤3∧p.on_.length=p.tables.length:=by
    unfold xJ at hP
    simp only [QG,decide_eq_true_eq] at hP
    omega
  have hO1:∀ l∈p.on_,l.length≤1:=by
    unfold onB at hO
    simpa using hO
  obtain ⟨w1,_⟩:=aA0 (eO c [] p.tables).1 env (by omega)
  generalize hrow:(eO c [] p.tables).1=row at *
  have itL:∀ i,i≤p.items.length→∀ acc:List Int,acc.length=i→vO (row::env) p c acc (i:Nat)=some (ts,true)→∃ r,A2 (Ty c (row::env)) (p.items.drop i) r∧ts=acc++r:=by
    refine dU ?_ ?_
    · intro acc _ h
      rw [vO] at h
      simp at h
      exact ⟨[],by simpa using A2.nil,by simp [h]⟩
    · intro i hi ih acc ha h
      rw [vO] at h
      simp only [bV,hi,decide_true,if_true,bF hi,cK hi (by omega),QB,QA] at h
      cases hr:pR c (row::env) p.items[i] with
      | none=>simp [hr] at h
      | some r =>
        obtain ⟨y,ok⟩:=r
        cases ok with
        | false=>simp [hr] at h
        | true =>
          have ea:appG 8 acc [y]=some (acc++[y]):=by unfold appG; rw [if_pos (by simp; omega)]
          simp only [hr,ea,QA,QD,QC,if_false] at h
          obtain ⟨r,h1,h2⟩:=ih _ (by simp [ha]) h
          rw [QF hi]
          exact ⟨y::r,.cons hr h1,by simpa using h2⟩
  have odL:∀ i,i≤p.order.length→wH (row::env) p c (i:Nat)=some (ts,true)→(∀ k∈p.order.drop i,∃ t,Ty c (row::env) k.expr t)∧A2 (Ty c (row::env)) p.items ts:=by
    refine dU ?_ ?_
    · intro h
      rw [wH] at h
      simp only [bV,QU,decide_false,QC,if_false] at h
      obtain ⟨r,h1,h2⟩:=itL 0 (by omega) [] rfl (by simpa using h)
      refine ⟨by simp,?_⟩
      have:ts=r:=by simpa using h2
      subst this
      simpa using h1
    · intro i hi ih h
      rw [wH] at h
      simp only [bV,hi,decide_true,if_true,bF hi,cK hi (by omega),QB,QA] at h
      cases hr:pR c (row::env) p.order[i].expr with
      | none=>simp [hr] at h
      | some r =>
        obtain ⟨y,ok⟩:=r
        cases ok with
        | false=>simp [hr] at h
        | true =>
          simp only [hr,QA,QD,QC,if_false] at h
          obtain ⟨h1,h2⟩:=ih h
          rw [QF hi]
          refine ⟨fun k hk=>?_,h2⟩
          rcases QL.1 hk with rfl | hk
          · exact ⟨y,hr⟩
          · exact h1 k hk
  have onL:∀ i,i≤p.on_.length→yV env (row,true) p c (i:Nat)=some (ts,true)→(∀ (j:Nat) (h:j<p.on_.length),i≤j→∀ e∈p.on_[j],∃ t,Tru c ((eO c [] (p.tables.take (j+1))).1::env) e t)∧(∀ e∈p.where_,∃ t,Tru c (row::env) e t)∧(∀ k∈p.order,∃ t,Ty c (row::env) k.expr t)∧A2 (Ty c (row::env)) p.items ts:=by
    refine dU ?_ ?_
    · intro h
      rw [yV] at h
      simp only [bV,QU,decide_false,QC,if_false,w1,QB,QA] at h
      cases hw:yQ c (row::env) p.where_ with
      | none=>simp [hw] at h
      | some b =>
        cases b with
        | false=>simp [hw] at h
        | true =>
          simp only [hw,QA,QD,QC,if_false] at h
          obtain ⟨h1,h2⟩:=odL 0 (by omega) (by simpa using h)
          exact ⟨fun j hj h=>by omega,bGr (by omega) hw,by simpa using h1,h2⟩
    · intro i hi ih h
      obtain ⟨a3,_⟩:=H8 c hc (p.tables.take (i+1)) (by rw [WR]; omega)
      have hs:iP p.tables 0 ((i+1:Nat):Int)=some (p.tables.take (i+1)):=aI7 (by omega)
      obtain ⟨a6,_⟩:=aA0 (eO c [] (p.tables.take (i+1))).1 env (by omega)
      rw [yV] at h
      simp only [bV,hi,decide_true,if_true,bF hi,cK hi (by omega),hs,a3,a6,QB,QA] at h
      cases hw:yQ c ((eO c [] (p.tables.take (i+1))).1::env) p.on_[i] with
      | none=>simp [hw] at h
      | some b =>
        cases b with
        | false=>simp [hw] at h
        | true =>
          simp only [hw,QA,QD,QC,if_false] at h
          obtain ⟨h1,h2⟩:=ih h
          refine ⟨fun j hj h=>?_,h2⟩
          by_cases e:j=i
          · subst e
            exact bGr (by have:=hO1 _ (QE hi); omega) hw
          · exact h1 j hj (by omega)
  have h0:eO c [] p.tables=(row,true):=by rw [← hrow,← hr]
  rw [h0] at h
  obtain ⟨k1,k2,k3,k4⟩:=onL 0 (by omega) (by simpa using h)
  have ht:=(aVf c p.tables []).1 hr
  subst hrow
  exact ⟨hP,hO,hN,ht,fun i hi=>k1 i hi (by omega),k2,k3,k4⟩
theorem bZo {c:aP} (hs:wO c) {p:aQ} (hz:eF p≤1048576) (h:R9 c p=some true):aCj c=some true∧aDn c∧dP p≤24∧sP p≤200∧∃ ts,TyP c [] p ts:=by
  obtain ⟨a,a1,a2⟩:=aRz c hs
  obtain ⟨d1,d2,d3,d4,-⟩:=bGk p hz
  unfold R9 aJ5 at h
  simp only [a1,d1,d3,QB,QA] at h
  cases a with
  | false=>simp at h
  | true =>
  by_cases x:dP p≤24
  · by_cases y:sP p≤200
    · have y1:¬ 200<sP p:=by omega
      simp [x,y1] at h
      cases hp:yD c [] p with
      | none=>simp [hp] at h
      | some r =>
        obtain ⟨ts,ok⟩:=r
        cases ok with
        | false=>simp [hp] at h
        | true=>exact ⟨a1,a2.1 rfl,x,y,ts,hp⟩
    · have y1:200<sP p:=by omega
      simp [x,y1] at h
  · have x1:¬ dP p≤24:=x
    simp [x1] at h
theorem bAl (v:aA):jN v=true↔(v.kind=0∧v.num=0∧v.text=[])∨(v.kind=1∧v.text=[])∨(v.kind=2∧v.num=0∧v.text.length≤200)∨(v.kind=3∧(0≤v.num∧v.num≤1)∧v.text=[]):=by
  unfold jN kW
  simp only [aJx,pK,QB,QA]
  by_cases h0:v.kind=0
  · simp [h0]
  by_cases h1:v.kind=1
  · simp [h1]
  by_cases h2:v.kind=2
  · simp [h2]; omega
  by_cases h3:v.kind=3
  · simp [h3]
  simp [h0,h1,h2,h3]
def kT (v:aA) (t:Int):Prop:=jN v=true∧(v.kind=0∨v.kind=t)
def lVz (r:aA×Int) (t:Int):Prop:=(r.2=0→kT r.1 t)∧(r.2≠0→r.2=2∨r.2=3)
theorem tN {v:aA} {t:Int} (h:kT v t):lVz (v,0) t:=⟨fun _=>h,fun h=>absurd rfl h⟩
theorem aEg {v:aA} {e t:Int} (h:e=2∨e=3):lVz (v,e) t:=⟨fun h0=>by dsimp only at h0; omega,fun _=>h⟩
theorem aL3 (t:Int):kT ⟨0,0,[]⟩ t:=⟨by decide,.inl rfl⟩
theorem aUi (b:Bool):kT (vBl b) 3:=by cases b <;> exact ⟨by decide,.inr rfl⟩
theorem aEm {v:aA} (h:tri v):kT v 3:=by rcases h with rfl | rfl | rfl <;> exact ⟨by decide,by decide⟩
theorem bEk {v:aA} {t:Int} (h:kT v t) (ht:t=0∨t=3):tri v:=by
  obtain ⟨h1,h2⟩:=h
  obtain ⟨k,n,x⟩:=v
  have hv:=(bAl _).1 h1
  dsimp only at h2 hv
  rcases hv with ⟨a,b,c⟩ | ⟨a,_⟩ | ⟨a,_⟩ | ⟨a,b,c⟩
  · subst a b c; exact .inl rfl
  · omega
  · omega
  · subst a c
    have:n=0∨n=1:=by omega
    rcases this with rfl | rfl
    · exact .inr (.inl rfl)
    · exact .inr (.inr rfl)
theorem aSp {n:Int} (h:okI n):kT ⟨1,n,[]⟩ 1:=⟨(bAl _).2 (.inr (.inl ⟨rfl,rfl⟩)),.inr rfl⟩
theorem aM5 (n:Int):lVz (wF (nT n)) 1:=by
  unfold wF nT
  by_cases h:okI n
  · rw [if_pos h]
    exact tN (aSp h)
  · rw [if_neg h]
    exact aEg (.inl rfl)
theorem cDq {op a b:Int} (ha:okI a) (hb:okI b):lVz (arP op a b) 1:=by
  unfold arP
  split
  · exact aM5 _
  split
  · exact aM5 _
  split
  · exact aM5 _
  split
  · exact aEg (.inr rfl)
  rename_i h0
  split
  · refine tN (aSp ?_)
    have:=bF1 (op:=14) ha hb
    unfold arP at this
    rw [if_neg (by decide),if_neg (by decide),if_neg (by decide),if_neg h0,if_pos rfl] at this
    exact this
  split
  · exact aEg (.inl rfl)
  · rename_i h1
    exact tN (aSp (aNj ha h0 h1))
theorem bCn (a p q:Int):aA8 a p q=some ((decide (p=0)||decide (p=a))&&(decide (q=0)||decide (q=a))):=aZ2 a p q
theorem bIj (p:Int):wL p=some (decide (p=0)||decide (p=3)):=by unfold wL; simp only [orB,QB,QA]; 
theorem bCb {p q t:Int} (h:xQ p q=some (t,true)):(p=0∧t=q)∨(p≠0∧t=p∧(q=0∨q=p)):=by
  unfold xQ aEp at h
  simp only [pK,orB,QB,QA] at h
  rcases h1:(decide (0≤p)&&decide (p≤3)) with _ | _
  · simp [h1] at h
  rcases h2:(decide (0≤q)&&decide (q≤3)) with _ | _
  · simp [h1,h2] at h
  simp only [h1,h2,QD,beq_self_eq_true,QQ,if_true,QA,QZ,QC,if_false] at h
  by_cases p0:p=0
  · simp [p0] at h; exact .inl ⟨p0,h.symm⟩
  by_cases q0:q=0
  · simp [p0,q0] at h; exact .inr ⟨p0,h.symm,.inl q0⟩
  by_cases pq:p=q
  · have:¬ q=0:=q0
    simp [pq,this] at h; exact .inr ⟨p0,by omega,.inr pq.symm⟩
  · simp [p0,q0,pq] at h
theorem bNq {op s t:Int} (h:X5 op s=some (t,true)):(op=15∧t=3∧(s=0∨s=3))∨(op=16∧t=1∧(s=0∨s=1)):=by
  unfold X5 at h
  simp only [bCn,bIj,QB,QA] at h
  by_cases h5:op=15
  · by_cases s0:s=0
    · simp [h5,s0] at h; exact .inl ⟨h5,h.symm,.inl s0⟩
    by_cases s3:s=3
    · simp [h5,s3] at h; exact .inl ⟨h5,h.symm,.inr s3⟩
    simp [h5,s0,s3] at h
  by_cases h6:op=16
  · by_cases s0:s=0
    · simp [h6,s0] at h; exact .inr ⟨h6,h.symm,.inl s0⟩
    by_cases s1:s=1
    · simp [h6,s1] at h; exact .inr ⟨h6,h.symm,.inr s1⟩
    simp [h6,s0,s1] at h
  simp [h5,h6] at h
theorem cD3 {op p q t:Int} (h:R7 op p q=some (t,true)):(1≤op∧op≤14)∧((op≤2∧t=3∧(p=0∨p=3)∧(q=0∨q=3))∨(2<op∧op≤8∧t=3∧(p=0∨q=0∨p=q))∨(op=9∧t=2∧(p=0∨p=2)∧(q=0∨q=2))∨(10≤op∧t=1∧(p=0∨p=1)∧(q=0∨q=1))):=by
  unfold R7 I9 at h
  simp only [orB,pK,bCn,bIj,QB,QA] at h
  by_cases h1:op<1
  · simp [h1] at h
  by_cases h2:14<op
  · simp [h2] at h
  refine ⟨⟨by omega,by omega⟩,?_⟩
  by_cases h3:op≤2
  · rcases hp:(decide (p=0)||decide (p=3)) with _ | _
    · simp [h1,h2,h3,hp] at h
    rcases hq:(decide (q=0)||decide (q=3)) with _ | _
    · simp [h1,h2,h3,hp,hq] at h
    simp [h1,h2,h3,hp,hq] at h
    simp only [WK,decide_eq_true_eq] at hp hq
    exact .inl ⟨h3,h.symm,hp,hq⟩
  by_cases h4:op≤8
  · cases hm:xQ p q with
    | none=>simp [h1,h2,h3,h4,hm] at h
    | some r =>
      obtain ⟨m,b⟩:=r
      cases b with
      | false=>simp [h1,h2,h3,h4,hm] at h
      | true =>
        simp [h1,h2,h3,h4,hm] at h
        have:=bCb hm
        exact .inr (.inl ⟨by omega,h4,h.symm,by omega⟩)
  by_cases h5:op=9
  · rcases hp:((decide (p=0)||decide (p=2))&&(decide (q=0)||decide (q=2))) with _ | _
    · simp [h5,hp] at h
    simp [h5,hp] at h
    simp only [QG,WK,decide_eq_true_eq] at hp
    exact .inr (.inr (.inl ⟨h5,h.symm,hp.1,hp.2⟩))
  · rcases hp:((decide (p=0)||decide (p=1))&&(decide (q=0)||decide (q=1))) with _ | _
    · simp [h1,h2,h3,h4,h5,hp] at h
    simp [h1,h2,h3,h4,h5,hp] at h
    simp only [QG,WK,decide_eq_true_eq] at hp
    exact .inr (.inr (.inr ⟨by omega,h.symm,hp.1,hp.2⟩))
theorem bWb {l:List Int} (hl:l.length≤1048576):∀ i,i≤l.length→∀ m t:Int,xM l m (i:Nat)=some (t,true)→∃ m',(m=0∨m=m')∧∀ s∈l.drop i,s=0∨s=m':=by
  refine dU ?_ ?_
  · intro m t h
    exact ⟨m,.inr rfl,by simp⟩
  · intro i hi ih m t h
    rw [xM] at h
    simp only [bV,hi,decide_true,if_true,bF hi,cK hi (show l.length≤4611686018427387904 by omega),QB,QA] at h
    cases hm:xQ m l[i] with
    | none=>simp [hm] at h
    | some r =>
      obtain ⟨m2,b⟩:=r
      cases b with
      | false=>simp [hm] at h
      | true =>
        simp only [hm,QA,QD,QC,if_false] at h
        obtain ⟨m',k1,k2⟩:=ih m2 t h
        have:=bCb hm
        rw [QF hi]
        refine ⟨if m2=0 then (if m=0 then m' else m) else m',?_,?_⟩
        · split <;> (try split) <;> omega
        · intro s hs
          rcases QL.1 hs with rfl | hs
          · split <;> (try split) <;> omega
          · have:=k2 s hs
            split <;> (try split) <;> omega
theorem cBi {l:List Int} (hl:l.length≤1048576) {t:Int} (h:aAr l=some (t,true)):∃ m,∀ s∈l,s=0∨s=m:=by
  unfold aAr at h
  obtain ⟨m,_,h2⟩:=bWb hl 0 (by omega) 0 t (by simpa using h)
  exact ⟨m,by simpa using h2⟩
theorem bN2 {op:Int} {x y:aA} (hx:tri x) (hy:tri y):(uW op x y).2=0∧tri (uW op x y).1:=by
  have kx:x.kind=3∨x.kind=0:=by rcases hx with rfl | rfl | rfl <;> decide
  have ky:y.kind=3∨y.kind=0:=by rcases hy with rfl | rfl | rfl <;> decide
  unfold uW
  rw [if_pos ⟨kx,ky⟩]
  repeat' split
  all_goals first | exact ⟨rfl,.inl rfl⟩ | exact ⟨rfl,.inr (.inl rfl)⟩ | exact ⟨rfl,.inr (.inr rfl)⟩
theorem aLj {op:Int} {x y:aA} (h1:2<op) (h2:op≤8) (hx:jN x=true) (hy:jN y=true) (hk:x.kind=0∨y.kind=0∨x.kind=y.kind):(fT op x y).2=0∧tri (fT op x y).1:=by
  unfold fT
  rw [if_neg (by simp [hx,hy]; omega),if_neg (by omega)]
  have f:∀ v,rX op v=true:=fun v=>by unfold rX; simp [h2]
  have n:¬ 8<op:=by omega
  rw [if_neg (by simp only [f,WP,n,decide_false,WJ]; rcases hk with h | h | h <;> simp [h])]
  split
  · exact ⟨rfl,.inl rfl⟩
  · first | exact ⟨rfl,E5 _⟩ | (rw [if_pos h2]; exact ⟨rfl,E5 _⟩)
theorem aX4 {op:Int} {x y:aA} (h1:1≤op) (h2:op≤2) (hx:tri x) (hy:tri y):(fT op x y).2=0∧tri (fT op x y).1:=by
  have vx:jN x=true:=(aEm hx).1
  have vy:jN y=true:=(aEm hy).1
  unfold fT
  rw [if_neg (by simp [vx,vy]; omega),if_pos h2]
  exact bN2 hx hy
theorem bQa {op p q t:Int} {x y:aA} (h:R7 op p q=some (t,true)) (hx:kT x p) (hy:kT y q) (ox:okI x.num) (oy:okI y.num):lVz (fT op x y) t:=by
  obtain ⟨⟨o1,o2⟩,h⟩:=cD3 h
  rcases h with ⟨h2,rfl,hp,hq⟩ | ⟨h2,h8,rfl,hpq⟩ | ⟨rfl,rfl,hp,hq⟩ | ⟨h10,rfl,hp,hq⟩
  · obtain ⟨a,b⟩:=aX4 (op:=op) o1 h2 (bEk hx hp) (bEk hy hq)
    exact ⟨fun _=>aEm b,fun h=>absurd a h⟩
  · obtain ⟨a,b⟩:=aLj (op:=op) h2 h8 hx.1 hy.1 (by have:=hx.2; have:=hy.2; omega)
    exact ⟨fun _=>aEm b,fun h=>absurd a h⟩
  · have kx:x.kind=0∨x.kind=2:=by have:=hx.2; omega
    have ky:y.kind=0∨y.kind=2:=by have:=hy.2; omega
    unfold fT
    rw [if_neg (by simp [hx.1,hy.1]),if_neg (by omega)]
    rw [if_neg (by unfold rX; rcases kx with a | a <;> rcases ky with b | b <;> simp [a,b])]
    split
    · exact tN (aL3 _)
    rename_i hn
    rw [if_neg (by omega),if_pos rfl]
    split
    · exact aEg (.inl rfl)
    · rename_i hl
      refine tN ⟨(bAl _).2 (.inr (.inr (.inl ⟨rfl,rfl,?_⟩))),.inr rfl⟩
      simp only [QM]; omega
  · have kx:x.kind=0∨x.kind=1:=by have:=hx.2; omega
    have ky:y.kind=0∨y.kind=1:=by have:=hy.2; omega
    have n9:¬ op=9:=by omega
    unfold fT
    rw [if_neg (by simp [hx.1,hy.1]; omega),if_neg (by omega)]
    rw [if_neg (by unfold rX; have n : 8 < op := by omega
                   rcases kx with a | a <;> rcases ky with b | b <;> simp [a,b,n9,n])]
    split
    · exact tN (aL3 _)
    rw [if_neg (by omega)]
    exact cDq ox oy
theorem bEg {op s t:Int} {x:aA} (h:X5 op s=some (t,true)) (hx:kT x s) (_:okI x.num):lVz (unP op x) t:=by
  unfold unP
  rcases bNq h with ⟨rfl,rfl,hs⟩ | ⟨rfl,rfl,hs⟩
  · rw [if_neg (by simp [hx.1])]
    split
    · exact tN (aL3 _)
    rename_i h0
    have k:x.kind=3:=by have:=hx.2; omega
    rw [if_pos ⟨rfl,k⟩]
    exact tN (aUi _)
  · rw [if_neg (by simp [hx.1])]
    split
    · exact tN (aL3 _)
    rename_i h0
    have k:x.kind=1:=by have:=hx.2; omega
    rw [if_neg (by omega),if_pos ⟨rfl,k⟩]
    exact aM5 _
theorem aSj {e:aJ} {r:aA×Int} (h:r.2=0∧tri r.1):lVz (notP e r) 3:=by
  unfold notP
  rw [if_neg (by simp [h.1])]
  split
  · exact bEg (s:=3) (by decide) (aEm h.2) (aEc h.2)
  · exact tN (aEm h.2)
theorem bSs {x a b:aA} {m:Int} (hx:kT x m) (ha:kT a m) (hb:kT b m):(vF x a b).2=0∧tri (vF x a b).1:=by
  obtain ⟨a1,a2⟩:=aLj (op:=8) (by omega) (by omega) hx.1 ha.1 (by have:=hx.2; have:=ha.2; omega)
  obtain ⟨b1,b2⟩:=aLj (op:=6) (by omega) (by omega) hx.1 hb.1 (by have:=hx.2; have:=hb.2; omega)
  unfold vF
  rw [if_neg (by simp [a1]),if_neg (by simp [b1])]
  exact aX4 (by omega) (by omega) a2 b2
theorem aUo {x:aA} {m:Int} (hx:kT x m):∀ {l:Row1} {o:aA},(∀ y∈l,kT y m)→tri o→(nY x l o).2=0∧tri (nY x l o).1
  | [],o,_,ho=>⟨rfl,ho⟩
  | y::l,o,hl,ho=>by
    have hy:=hl y (by simp)
    obtain ⟨a1,a2⟩:=aLj (op:=3) (by omega) (by omega) hx.1 hy.1 (by have:=hx.2; have:=hy.2; omega)
    rw [nY,if_neg (by simp [a1])]
    exact aUo hx (fun y hy=>hl y (QO _ hy)) (aX4 (op:=1) (by omega) (by omega) ho a2).2
theorem bBz {m:Int}:∀ {rows:Rows},(∀ r∈rows,∃ v l,r=v::l∧kT v m)→(iM rows).2=0∧∀ v∈(iM rows).1,kT v m
  | [],_=>⟨rfl,by simp [iM]⟩
  | r::rows,h=>by
    obtain ⟨v,l,rfl,hv⟩:=h r (by simp)
    obtain ⟨h1,h2⟩:=bBz (rows:=rows) fun r hr=>h r (QO _ hr)
    rw [iM,if_neg (by simp [h1])]
    refine ⟨rfl,fun w hw=>?_⟩
    rcases QL.1 hw with rfl | hw
    · exact hv
    · exact h2 w hw
theorem aCr {v:aA} {s m:Int} (h:kT v s) (hs:s=0∨s=m):kT v m:=⟨h.1,by have:=h.2; omega⟩
theorem bEo {x:Option (Int×Bool)} {t:Int} (h:(x>>=fun (y:Int×Bool)=>some (y.1,y.2))=some (t,true)):x=some (t,true):=by
  cases x with
  | none=>simp at h
  | some y=>obtain ⟨a,b⟩:=y; simpa using h
theorem A2.mem {α β:Type} {R:α→β→Prop} {l:List α} {m:List β} (h:A2 R l m) {x:α} (hx:x∈l):∃ y∈m,R x y:=by
  induction h with
  | nil=>simp at hx
  | cons a _ ih =>
    rcases QL.1 hx with rfl | hx
    · exact ⟨_,by simp,a⟩
    · obtain ⟨y,h1,h2⟩:=ih hx
      exact ⟨y,QO _ h1,h2⟩
theorem aZr {ks st:List Int} (hk:ks.length≤1048576) (_:st.length≤1048576) {t:Int} (h:uX ks st false=some (t,true)) (hl:ks.length+st.length≤1048576:=by omega):t=3∧∃ m,∀ s∈ks++st,s=0∨s=m:=by
  unfold uX at h
  rw [bCl ks (by omega)] at h
  have ea:appG 8 ks st=some (ks++st):=nP (by omega)
  simp only [QC,if_false,QB,QA,ea] at h
  cases hm:aAr (ks++st) with
  | none=>simp [hm] at h
  | some r =>
    obtain ⟨a,b⟩:=r
    cases b with
    | false=>simp [hm] at h
    | true =>
      simp [hm] at h
      exact ⟨h.symm,cBi (by simp; omega) hm⟩
abbrev nW (r:Row1) (ts:List Int):Prop:=A2 kT r ts
theorem bAr {e:aJ} {kids:Row1} {ks st:List Int} {rows:Rows} {t:Int} (hf:aCa e) (h2:e.kind≠2) (hlit:e.kind=1→jN e.value=true) (hk:nW kids ks) (hkl:ks.length=e.kids.length) (hst:st.length≤1000000) (hks:∀ v∈kids,okI v.num)
    (h:qJ e ks st=some (t,true)) (h8:e.kind=8→st.length=1) (hr:∀ r∈rows,nW r st):lVz (aAa e kids rows) t:=by
  unfold qJ at h
  unfold aAa
  have kl:=hk.length
  rcases hf with ⟨k,l,_,_⟩ | ⟨k,_⟩ | ⟨k,l,_⟩ | ⟨k,l,_⟩ | ⟨k,l,_⟩ | ⟨k,l,_⟩ | ⟨k,l,_⟩ | ⟨k,l,_⟩ | ⟨k,l,_⟩
  · simp [k] at h
    simp only [k,if_true]
    exact tN ⟨hlit k,.inr h⟩
  · exact absurd k h2
  · obtain ⟨a,rfl⟩:=aJn (kl.trans (hkl.trans l))
    cases hk with | cons ha hn=>cases hn with | nil =>
    simp only [k,idx,show ¬ ((3:Int)=1) by decide,decide_false,decide_true,QC,if_false,if_true] at h ⊢
    have hu:=bEo h
    exact bEg hu ha (hks a (by simp))
  · obtain ⟨a,b,rfl⟩:=bHb (kl.trans (hkl.trans l))
    cases hk with | cons ha hn=>cases hn with | cons hb hn=>cases hn with | nil =>
    simp only [k,idx,show ¬ ((4:Int)=1) by decide,show ¬ ((4:Int)=3) by decide,decide_false,decide_true,QC,if_false,if_true] at h ⊢
    have hu:=bEo h
    exact bQa hu ha hb (hks a (by simp)) (hks b (by simp))
  · simp only [k,uX,show ¬ ((5:Int)=1) by decide,show ¬ ((5:Int)=3) by decide,show ¬ ((5:Int)=4) by decide,decide_false,decide_true,QC,if_false,if_true,WE,Prod.mk.injEq,and_true] at h ⊢
    subst h
    exact tN (aUi _)
  · obtain ⟨a,b,c,rfl⟩:=bBf (kl.trans (hkl.trans l))
    simp only [k,show ¬ ((6:Int)=1) by decide,show ¬ ((6:Int)=3) by decide,show ¬ ((6:Int)=4) by decide,show ¬ ((6:Int)=5) by decide,show ¬ ((6:Int)=9) by decide,decide_false,QC,if_false,if_true] at h ⊢
    obtain ⟨rfl,m,hm⟩:=aZr (by omega) (by omega) h
    cases hk with | cons ha hn=>cases hn with | cons hb hn=>cases hn with | cons hc hn=>cases hn with | nil =>
    exact aSj (bSs (aCr ha (hm _ (by simp))) (aCr hb (hm _ (by simp))) (aCr hc (hm _ (by simp))))
  · obtain ⟨a,vs,rfl⟩:∃ a vs,kids=a::vs:=by
      cases kids with
      | nil=>simp at kl; omega
      | cons a vs=>exact ⟨a,vs,rfl⟩
    simp only [k,show ¬ ((7:Int)=1) by decide,show ¬ ((7:Int)=3) by decide,show ¬ ((7:Int)=4) by decide,show ¬ ((7:Int)=5) by decide,show ¬ ((7:Int)=6) by decide,show ¬ ((7:Int)=9) by decide,decide_false,QC,if_false,if_true] at h ⊢
    obtain ⟨rfl,m,hm⟩:=aZr (by omega) (by omega) h
    cases hk with | cons ha hn =>
    refine aSj (aUo (aCr ha (hm _ (by simp))) (fun y hy=>?_) (E5 false))
    obtain ⟨s,hs,hf⟩:=A2.mem hn hy
    exact aCr hf (hm _ (by simp [hs]))
  · obtain ⟨a,rfl⟩:=aJn (kl.trans (hkl.trans l))
    simp only [k,show ¬ ((8:Int)=1) by decide,show ¬ ((8:Int)=3) by decide,show ¬ ((8:Int)=4) by decide,show ¬ ((8:Int)=5) by decide,show ¬ ((8:Int)=6) by decide,show ¬ ((8:Int)=7) by decide,show ¬ ((8:Int)=9) by decide,decide_false,QC,if_false,if_true] at h ⊢
    obtain ⟨rfl,m,hm⟩:=aZr (by omega) (by omega) h
    cases hk with | cons ha hn=>cases hn with | nil =>
    have h8:=h8 k
    match st,h8 with
    | [q],_ =>
      have hd:=bBz (m:=m) (rows:=rows) fun r hr'=>by
        have:=hr r hr'
        cases this with | cons hv hn=>cases hn with | nil=>exact ⟨_,_,rfl,aCr hv (hm _ (by simp))⟩
      unfold inP
      rw [if_neg (by simp [hd.1])]
      exact aSj (aUo (aCr ha (hm _ (by simp))) hd.2 (E5 false))
  · simp only [k,uX,show ¬ ((9:Int)=1) by decide,show ¬ ((9:Int)=3) by decide,show ¬ ((9:Int)=4) by decide,show ¬ ((9:Int)=5) by decide,show ¬ ((9:Int)=6) by decide,show ¬ ((9:Int)=7) by decide,decide_false,decide_true,QC,if_false,if_true,WE,Prod.mk.injEq,and_true] at h ⊢
    subst h
    exact tN (aUi _)
theorem bVk {e:aJ} (hs:K9 e=some true) (h1:e.kind=1) (hk:e.kids.length≤1048576) (hq:e.sub.length≤1048576):jN e.value=true:=by
  obtain ⟨b,s1,i1,_⟩:=aHm e hk hq
  rw [hs] at s1
  have s1:=Option.some.inj s1
  subst s1
  unfold aBo yM at i1
  simp only [h1,decide_true,if_true,QB,QA] at i1
  cases hl:G7 e.value with
  | none=>simp [hl] at i1
  | some b =>
    cases b with
    | true =>
      unfold G7 at hl
      rw [bA4] at hl
      cases hv:jN e.value with
      | true=>rfl
      | false=>simp [hv] at hl
    | false=>simp [hl] at i1
def aUu (env:Rows) (ts:List (List Int)):Prop:=A2 nW env ts
def aSq (x:Rows×Int) (ts:List Int):Prop:=(x.2=0→∀ r∈x.1,nW r ts)∧(x.2≠0→x.2=2∨x.2=3)
theorem aDy {α β:Type} {g:α→β×Int} {P:Int→Prop}:∀ {l:List α},(∀ x∈l,(g x).2≠0→P (g x).2)→(bC g l).2≠0→P (bC g l).2
  | [],_,h=>absurd rfl h
  | x::l,H,h=>by
    rw [bC] at h ⊢
    by_cases h1:(g x).2=0
    · rw [if_neg (by simp [h1])] at h ⊢
      by_cases h2:(bC g l).2=0
      · rw [if_neg (by simp [h2])] at h; exact absurd rfl h
      · rw [if_pos h2] at h ⊢
        exact aDy (fun y hy=>H y (QO _ hy)) h2
    · rw [if_pos h1] at h ⊢
      exact H x (by simp) h1
theorem aYi {α β γ:Type} {g:α→β×Int} {R:α→γ→Prop} {S:β→γ→Prop} (H:∀ x y,R x y→(g x).2=0→S (g x).1 y):∀ {l:List α} {m:List γ},A2 R l m→(bC g l).2=0→A2 S (bC g l).1 m
  | _,_,.nil,_=>.nil
  | _,_,.cons (a:=x) (l:=l) a r,h=>by
    rw [bC] at h ⊢
    by_cases h1:(g x).2=0
    · rw [if_neg (by simp [h1])] at h ⊢
      by_cases h2:(bC g l).2=0
      · rw [if_neg (by simp [h2])]
        exact .cons (H _ _ a h1) (aYi H r h2)
      · rw [if_pos h2] at h; exact absurd h h2
    · rw [if_pos h1] at h; exact absurd h h1
theorem bAy {g:Gf} {P:Int→Prop}:∀ {l:Rows},(∀ x∈l,(g x).2≠0→P (g x).2)→(iU g l).2≠0→P (iU g l).2
  | [],_,h=>absurd rfl h
  | x::l,H,h=>by
    rw [iU] at h ⊢
    by_cases h1:(g x).2=0
    · rw [if_neg (by simp [h1])] at h ⊢
      by_cases h2:(iU g l).2=0
      · rw [if_neg (by simp [h2])] at h; exact absurd rfl h
      · rw [if_pos h2] at h ⊢
        exact bAy (fun y hy=>H y (QO _ hy)) h2
    · rw [if_pos h1] at h ⊢
      exact H x (by simp) h1
theorem aXt {P:Int→Prop}:∀ {gs:List Gf} {l:Rows},(∀ g∈gs,∀ x∈l,(g x).2≠0→P (g x).2)→(whE gs l).2≠0→P (whE gs l).2
  | [],_,_,h=>absurd rfl h
  | g::gs,l,H,h=>by
    rw [whE] at h ⊢
    by_cases h1:(iU g l).2=0
    · rw [if_neg (by simp [h1])] at h ⊢
      exact aXt (fun g' hg x hx=>H g' (QO _ hg) x ((aDl g l).subset hx)) h
    · rw [if_pos h1]
      exact bAy (H g (by simp)) h1
section
variable {N R:Nat} {GE:aJ→Prop} {GP:aQ→Prop} {c:aP} {d:GDb}
def aIx (c:aP) (d:GDb):Prop:=d.tables.length=c.tables.length∧∀ (i:Nat) (h:i<d.tables.length) (h':i<c.tables.length),∀ r∈d.tables[i].rows,nW r (lZ c.tables[i])
theorem bEf (c:aP):∀ (l acc:List Int) (i:Int),(eO c acc l).2=true→0≤i∧i<(c.tables.length:Int)→eO c acc (l++[i])=((eO c acc l).1++lZ (c.tables[i.toNat]?.getD default),true)
  | [],acc,i,_,hi=>by simp [eO,hi]
  | j::l,acc,i,h,hi=>by
    rw [List.cons_append,eO]
    rw [eO] at h ⊢
    by_cases hj:0≤j∧j<(c.tables.length:Int)
    · rw [if_pos hj] at h ⊢
      rw [if_pos hj]
      exact bEf c l _ i h hi
    · rw [if_neg hj] at h; simp at h
theorem A2.append {α β:Type} {R:α→β→Prop} {l l':List α} {m m':List β} (h:A2 R l m) (k:A2 R l' m'):A2 R (l++l') (m++m'):=by
  induction h with
  | nil=>exact k
  | cons a _ ih=>exact .cons a ih
theorem cE9 (hD:aIx c d) {i:Int} (hi:0≤i∧i<(c.tables.length:Int)):∀ r∈rowsOf d i,nW r (lZ (c.tables[i.toNat]?.getD default)):=by
  obtain ⟨n,rfl⟩:∃ n:Nat,i=n:=⟨i.toNat,by omega⟩
  have hn:n<c.tables.length:=by omega
  have hn':n<d.tables.length:=by rw [hD.1]; exact hn
  unfold rowsOf
  simp only [WD,WS hn,WS hn',WN]
  exact hD.2 n hn' hn
theorem cDk (hD:aIx c d) {ev:aJ→Gf} {T:List Int} {O:List (List aJ)} (hT:∀ k∈T,0≤k∧k<(c.tables.length:Int)) (hl:O.length=T.length)
    (H:∀ (i:Nat) (h:i<O.length),∀ e∈O[i],∀ r,nW r (eO c [] (T.take (i+1))).1→eZ 3 r→∃ t,lVz (ev e r) t) (h3:T.length≤3) (hB:∀ k∈T,∀ r∈rowsOf d k,eZ 1 r) :
    ∀ (i:Nat),i≤T.length→∀ rows:Rows,(∀ r∈rows,nW r (eO c [] (T.take i)).1∧eZ i r) →
      ((joE (QK (fun t l=>(rowsOf d t,l.map ev)) (T.drop i) (O.drop i)) rows).2=0→∀ r∈(joE (QK (fun t l=>(rowsOf d t,l.map ev)) (T.drop i) (O.drop i)) rows).1,nW r (eO c [] T).1) ∧
      ((joE (QK (fun t l=>(rowsOf d t,l.map ev)) (T.drop i) (O.drop i)) rows).2≠0→(joE (QK (fun t l=>(rowsOf d t,l.map ev)) (T.drop i) (O.drop i)) rows).2=2∨(joE (QK (fun t l=>(rowsOf d t,l.map ev)) (T.drop i) (O.drop i)) rows).2=3):=by
  refine dU ?_ ?_
  · intro rows hr
    rw [QX,List.zipWith_nil_left,joE]
    refine ⟨fun _ r hr'=>?_,fun h=>absurd rfl h⟩
    have:=(hr r hr').1
    rwa [List.take_length] at this
  · intro i hi ih rows hr
    have hio:i<O.length:=by omega
    rw [QF hi,QF hio,WF,joE]
    have hti:=hT _ (QE hi)
    have hpre:(eO c [] (T.take i)).2=true:=(aVf c _ _).2 fun k hk=>hT k (XB _ _ hk)
    have et:T.take (i+1)=T.take i++[T[i]]:=by rw [List.take_add_one,WS hi]; rfl
    have esn:=bEf c (T.take i) [] T[i] hpre hti
    have hcr:∀ r∈kR rows (rowsOf d T[i]),nW r (eO c [] (T.take (i+1))).1∧eZ (i+1) r:=by
      intro r hr'
      refine ⟨?_,aPk (fun x hx=>(hr x hx).2) (hB _ (QE hi)) r hr'⟩
      unfold kR at hr'
      obtain ⟨a,ha,hr'⟩:=WH.1 hr'
      obtain ⟨b,hb,rfl⟩:=WC.1 hr'
      rw [et,esn]
      exact A2.append (hr a ha).1 (cE9 hD hti b hb)
    have hev:∀ g∈O[i].map ev,∀ x∈kR rows (rowsOf d T[i]),(g x).2≠0→(g x).2=2∨(g x).2=3:=by
      intro g hg x hx
      obtain ⟨e,he,rfl⟩:=WC.1 hg
      obtain ⟨t,ht⟩:=H i hio e he x (hcr x hx).1 (yK (by omega) (hcr x hx).2)
      exact ht.2
    by_cases h0:(whE (O[i].map ev) (kR rows (rowsOf d T[i]))).2=0
    · rw [if_neg (by simp [h0])]
      exact ih _ fun r hr'=>hcr r ((wV _ _).subset hr')
    · rw [if_pos h0]
      exact ⟨fun h=>absurd h h0,fun _=>aXt (P:=fun z=>z=2∨z=3) hev h0⟩
end
theorem bO3 {e:aJ} (h:aCa e):FK e.kind e.kids.length e.sub.length:=by
  unfold aCa at h
  unfold FK
  rcases h with h | h | h | h | h | h | h | h | h
  · exact .inl ⟨h.1,h.2.1,h.2.2.1⟩
  · exact .inr (.inl ⟨h.1,h.2.1,h.2.2⟩)
  · exact .inr (.inr (.inl ⟨h.1,h.2.1,h.2.2⟩))
  · exact .inr (.inr (.inr (.inl ⟨h.1,h.2.1,h.2.2⟩)))
  · exact .inr (.inr (.inr (.inr (.inl ⟨h.1,h.2.1,h.2.2⟩))))
  · exact .inr (.inr (.inr (.inr (.inr (.inl ⟨h.1,h.2.1,h.2.2⟩)))))
  · exact .inr (.inr (.inr (.inr (.inr (.inr (.inl ⟨h.1,by omega,by omega⟩))))))
  · exact .inr (.inr (.inr (.inr (.inr (.inr (.inr (.inl ⟨h.1,h.2.1,h.2.2⟩)))))))
  · exact .inr (.inr (.inr (.inr (.inr (.inr (.inr (.inr ⟨h.1,h.2.1,h.2.2⟩)))))))
theorem A2.cond {α β:Type} {R S:α→β→Prop} {l:List α} {m:List β} (h:A2 R l m) (k:∀ a b,a∈l→R a b→S a b):A2 S l m :=
  A2.of h.length fun i h1 h2=>k _ _ (QE h1) (h.get i h1 h2)
section
variable {N R:Nat} {GE:aJ→Prop} {GP:aQ→Prop} {c:aP} {d:GDb}
theorem cEk (hC:Closed N R GE GP) {env:Rows} {types:List (List Int)} (hB:Q4 env) (hl:env.length≤1048576) (hr:∀ r∈env,r.length≤1048576) {e:aJ} (he:GE e) {t:Int} (hT:Ty c types e t) (hF:aUu env types)
    (HK:∀ k∈e.kids,EvE c d env k) (HS:∀ p∈e.sub,EvP c d env p)
    (IK:∀ k∈e.kids,∀ s,Ty c types k s→lVz ((fH c d env k).getD (⟨0,0,[]⟩,0)) s)
    (IS:∀ p∈e.sub,∀ ts,TyP c types p ts→aSq ((tL c d env p).getD ([],0)) ts∧ts.length≤1000000):lVz ((fH c d env e).getD (⟨0,0,[]⟩,0)) t:=by
  obtain ⟨kl,sl⟩:=hC.len e he
  obtain ⟨_,ex,_⟩:=bEb (c:=c) (d:=d) hC hB hl hr he HK HS
  rw [ex,WN]
  obtain ⟨hs,hf⟩:=bV2 hT kl sl
  have hk:=bO3 hf
  unfold aKn
  rw [if_neg (by simp [hk])]
  by_cases h2:e.kind=2
  · rw [if_pos h2]
    obtain ⟨u,a,hu,ha,e1,e2,e3⟩:=cBu hT kl sl h2
    have hlen:=hF.length
    have hu':u<env.length:=by omega
    have hrow:=hF.get u hu' hu
    have hrl:=hrow.length
    have ha':a<env[u].length:=by omega
    have hv:=hrow.get a ha' ha
    unfold cellP
    rw [e1,e2,WD,WD,getElem!_pos env u hu',if_pos ⟨by omega,by omega,by omega,by omega⟩,getElem!_pos env[u] a ha',e3]
    exact tN hv
  rw [if_neg h2]
  obtain ⟨acc,hA,hL⟩:=bRl hT kl sl h2
  obtain ⟨st,hres,hsub⟩:=bL8 (cBn hf).1 hL
  have hA':A2 (fun k s=>lVz ((fH c d env k).getD (⟨0,0,[]⟩,0)) s) e.kids acc:=hA.cond fun k s hk hs=>IK k hk s hs
  by_cases h0:(qZ c d env e).2=0
  case neg =>
    rw [if_pos h0]
    refine aEg (aDy (P:=fun z=>z=2∨z=3) (fun k hk hne=>?_) h0)
    obtain ⟨s,_,hs⟩:=A2.mem hA' hk
    exact hs.2 hne
  rw [if_neg (by simp [h0])]
  have hfit:nW (qZ c d env e).1 acc:=aYi (S:=kT) (fun k s hks hz=>hks.1 hz) hA' h0
  have hkv:∀ v∈(qZ c d env e).1,okI v.num:=by
    intro v hv
    obtain ⟨k,hk,rfl,_⟩:=U5 hv
    obtain ⟨r,_,h2,h3⟩:=HK k hk
    rw [h2]; exact h3
  have hlit:e.kind=1→jN e.value=true:=fun h1=>bVk hs h1 kl sl
  rcases hsub with ⟨hs0,rfl⟩ | ⟨p,hs1,hp,h8⟩
  · rw [hs0]
    refine bAr hf h2 hlit hfit hA.length.symm (by simp) hkv hres (fun h8=>?_) (by simp)
    exfalso
    rw [hs0] at hk
    unfold FK at hk
    simp only [QT] at hk
    omega
  · rw [hs1]
    obtain ⟨⟨r0,re⟩,hl⟩:=IS p (by rw [hs1]; simp) st hp
    dsimp only
    by_cases hz:((tL c d env p).getD ([],0)).2=0
    · rw [if_neg (by simp [hz])]
      exact bAr hf h2 hlit hfit hA.length.symm hl hkv hres h8 (r0 hz)
    · rw [if_pos hz]
      exact aEg (re hz)
theorem bPo (hC:Closed N R GE GP) (hc:nZ c) (hD:aIx c d) (hd:DbB R d) {env:Rows} {types:List (List Int)} {p:aQ} (hp:GP p) (hl:types.length≤1048577) {ts:List Int} (hT:TyP c types p ts)
    (I:∀ e∈gD p,∀ (r:Row1) (row:List Int) t,eZ 3 r→nW r row→Ty c (row::types) e t→lVz (eG c d env e r) t):aSq (mQ d (eG c d env) p) ts:=by
  have hP:=hC.plan p hp
  have tp:=bB3 hc hl (hC.zp p hp) hT
  have hpB:=tp.pB
  unfold xJ at hpB
  simp only [QG,decide_eq_true_eq] at hpB
  have b1:1≤p.tables.length:=by omega
  have b2:p.tables.length≤3:=by omega
  have b3:p.on_.length=p.tables.length:=by omega
  clear hpB
  have hTb:mH d p.tables=true:=by
    unfold mH
    rw [WX]
    intro k hk
    have:=tp.tb k hk
    simp only [QG,decide_eq_true_eq]
    rw [hD.1]; exact this
  have Ion:∀ y∈p.on_,∀ e∈y,e∈gD p:=fun y hy e he=>by
    unfold gD
    simp only [QW,WH]
    exact .inl (.inl (.inl ⟨y,hy,he⟩))
  have Iwh:∀ e∈p.where_,e∈gD p:=fun e he=>by unfold gD; simp [he]
  have Ior:∀ k∈p.order,k.expr∈gD p:=fun k hk=>by
    unfold gD
    simp only [QW,WH]
    exact .inl (.inr ⟨k,hk,by simp⟩)
  have Iit:∀ e∈p.items,e∈gD p:=fun e he=>by unfold gD; simp [he]
  have hBr:∀ k∈p.tables,∀ r∈rowsOf d k,eZ 1 r:=fun k hk r hr=>by
    obtain ⟨x,hx,e⟩:=aJw hTb (WQ hk)
    rw [← e] at hr
    exact hd.row x hx r hr
  unfold mQ
  have hgood:¬ ((p.tables.length=0∨p.on_.length≠p.tables.length)∨mH d p.tables=false):=fun h=>by
    rcases h with (h | h) | h
    · omega
    · exact h b3
    · rw [hTb] at h; cases h
  rw [if_neg hgood]
  have jf:=cDk (ev:=eG c d env) hD tp.tb b3 (fun i h e he r hr hB=>by
    obtain ⟨t,ht⟩:=tp.on i h e he
    exact ⟨t,I e (Ion _ (QE h) e he) r _ t hB hr ht.1⟩) b2 hBr 0 (by omega) [[]] (fun r hr=>by
      simp at hr; subst hr
      exact ⟨by simpa [eO] using (A2.nil:A2 kT [] []),⟨by simp,by simp⟩⟩)
  simp only [QN] at jf
  have jB:=aKg (oH d (eG c d env) p) [[]] 0 (fun s hs=>by
    obtain ⟨a,ha,b,_,rfl⟩:=aKh _ _ _ _ hs
    exact hBr a ha) (fun r hr=>by simp at hr; subst hr; exact ⟨by simp,by simp⟩)
  have js:(oH d (eG c d env) p).length=p.tables.length:=by simp [oH,b3]
  rw [js,WM] at jB
  unfold J5 oJ
  dsimp only
  change (((joE (oH d (eG c d env) p) [[]]).2=0→∀ r∈(joE (oH d (eG c d env) p) [[]]).1,nW r (eO c [] p.tables).1)∧((joE (oH d (eG c d env) p) [[]]).2≠0→(joE (oH d (eG c d env) p) [[]]).2=2∨(joE (oH d (eG c d env) p) [[]]).2=3)) at jf
  generalize joE (oH d (eG c d env) p) [[]]=J at jf jB ⊢
  obtain ⟨J1,J2⟩:=J
  dsimp only at jf jB ⊢
  by_cases g0:J2=0
  case neg=>rw [if_pos g0]; exact ⟨fun h=>absurd h g0,fun _=>jf.2 g0⟩
  rw [if_neg (by simp [g0])]
  have hJ:=jf.1 g0
  by_cases g1:(whE (p.where_.map (eG c d env)) J1).2=0
  case neg =>
    rw [if_pos g1]
    refine ⟨fun h=>absurd h g1,fun _=>aXt (P:=fun z=>z=2∨z=3) (fun g hg x hx hne=>?_) g1⟩
    obtain ⟨e,he,rfl⟩:=WC.1 hg
    obtain ⟨t,ht⟩:=tp.wh e he
    exact (I e (Iwh e he) x _ t (yK b2 (jB x hx)) (hJ x hx) ht.1).2 hne
  rw [if_neg (by simp [g1])]
  have wS:∀ x∈(whE (p.where_.map (eG c d env)) J1).1,nW x (eO c [] p.tables).1∧eZ 3 x:=fun x hx=>⟨hJ x ((wV _ _).subset hx),yK b2 (jB x ((wV _ _).subset hx))⟩
  generalize (whE (p.where_.map (eG c d env)) J1).1=W at wS ⊢
  obtain ⟨sl,sm⟩:=aZd (ks:=p.order.map fun k=>(eG c d env k.expr,k.desc)) (r:=W)
  by_cases g2:(iG (p.order.map fun k=>(eG c d env k.expr,k.desc)) W).2=0
  case neg =>
    rw [if_pos g2]
    refine ⟨fun h=>absurd h g2,fun _=>?_⟩
    dsimp only
    unfold iG at g2 ⊢
    split at g2
    · rename_i hne
      rw [if_pos hne]
      refine aDy (P:=fun z=>z=2∨z=3) (fun x hx hn=>?_) hne
      refine aDy (P:=fun z=>z=2∨z=3) (fun k hk hn=>?_) hn
      obtain ⟨q,hq,rfl⟩:=WC.1 hk
      obtain ⟨t,ht⟩:=tp.od q hq
      exact (I q.expr (Ior q hq) x _ t (wS x hx).2 (wS x hx).1 ht).2 hn
    · exact absurd rfl g2
  rw [if_neg (by simp [g2])]
  have sS:∀ x∈(iG (p.order.map fun k=>(eG c d env k.expr,k.desc)) W).1,nW x (eO c [] p.tables).1∧eZ 3 x:=fun x hx=>wS x (sm x hx)
  generalize (iG (p.order.map fun k=>(eG c d env k.expr,k.desc)) W).1=S at sS ⊢
  have eI:mE (p.items.map (eG c d env)) S=bC (fun row=>bC (fun e=>eG c d env e row) p.items) S:=by
    unfold mE
    congr 1
    funext row
    rw [U3]
  rw [eI]
  have hit:∀ x∈S,A2 (fun e t=>lVz (eG c d env e x) t) p.items ts:=fun x hx=>tp.it.cond fun e t he ht=>I e (Iit e he) x _ t (sS x hx).2 (sS x hx).1 ht
  by_cases g3:(bC (fun row=>bC (fun e=>eG c d env e row) p.items) S).2=0
  case neg =>
    rw [if_pos g3]
    refine ⟨fun h=>absurd h g3,fun _=>aDy (P:=fun z=>z=2∨z=3) (fun x hx hn=>?_) g3⟩
    refine aDy (P:=fun z=>z=2∨z=3) (fun e he hn=>?_) hn
    obtain ⟨t,_,ht⟩:=A2.mem (hit x hx) he
    exact ht.2 hn
  rw [if_neg (by simp [g3])]
  refine ⟨fun _ r hr=>?_,fun h=>absurd rfl h⟩
  have hr:=bDu.1 r hr
  obtain ⟨x,hx,rfl,hz⟩:=U5 hr
  exact aYi (S:=kT) (fun e t h hz=>h.1 hz) (hit x hx) hz
theorem cDy (hC:Closed N R GE GP) (hS:P8 N) (hN:N≤1048576) (hc:nZ c) (hD:aIx c d) (hd:DbB R d) (hdl:d.tables.length≤1048576):∀ n:Nat,
    (∀ (e:aJ) (env:Rows) (types:List (List Int)) (t:Int),bH e<n→GE e→Q4 env→(∀ r∈env,r.length≤1048576)→env.length+n≤1048576→aUu env types→Ty c types e t→lVz ((fH c d env e).getD (⟨0,0,[]⟩,0)) t) ∧
    (∀ (p:aQ) (env:Rows) (types:List (List Int)) (ts:List Int),eF p<n→GP p→Q4 env→(∀ r∈env,r.length≤1048576)→env.length+n≤1048576→aUu env types→TyP c types p ts→aSq (mQ d (eG c d env) p) ts∧ts.length≤1000000):=by
  intro n
  induction n with
  | zero=>exact ⟨fun e env _ _ h=>by omega,fun p env _ _ h=>by omega⟩
  | succ n ih =>
    constructor
    · intro e env types t hz he hB hr hl hF hT
      have EA:=bCp (c:=c) hC hS hN hd hdl n
      refine cEk (c:=c) (d:=d) hC hB (by omega) hr he hT hF (fun k hk=>?_) (fun p hp=>?_) (fun k hk s hs=>?_) (fun p hp ts hs=>?_)
      · have:=aCx hk
        have:=QY hk
        exact EA.1 k env (by omega) (hC.kid e he k hk) hB hr (by omega)
      · have:=aCu hp
        have:=QY hp
        exact (EA.2 p env (by omega) (hC.sub e he p hp) hB hr (by omega)).1
      · have:=aCx hk
        have:=QY hk
        exact ih.1 k env types s (by omega) (hC.kid e he k hk) hB hr (by omega) hF hs
      · have:=aCu hp
        have:=QY hp
        obtain ⟨⟨r,e1,e2,_⟩,e3⟩:=EA.2 p env (by omega) (hC.sub e he p hp) hB hr (by omega)
        rw [e3] at e1
        have e1:=Option.some.inj e1
        subst e1
        rw [e2]
        exact ih.2 p env types ts (by omega) (hC.sub e he p hp) hB hr (by omega) hF hs
    · intro p env types ts hz hp hB hr hl hF hT
      have hlen:=hF.length
      refine ⟨bPo hC hc hD hd hp (by omega) hT fun e he r row t hrb hfr ht=>?_,?_⟩
      · have:=aGp he
        refine ih.1 e (r::env) (row::types) t (by omega) (hC.part p hp e he) (fun x hx=>?_) (fun x hx=>?_) (by simp only [QR]; omega) (.cons hfr hF) ht
        · rcases QL.1 hx with rfl | hx
          · exact hrb.2
          · exact hB x hx
        · rcases QL.1 hx with rfl | hx
          · have:=hrb.1; omega
          · exact hr x hx
      · have tp:=bB3 hc (by omega) (hC.zp p hp) hT
        have:=tp.it.length
        have hpB:=tp.pB
        unfold xJ at hpB
        simp only [QG,decide_eq_true_eq] at hpB
        omega
end
theorem bUp (v:aA) (t:Int):U6 v t=some (jN v&&(decide (v.kind=0)||decide (v.kind=t))):=by
  unfold U6
  rw [aF1]
  simp only [orB,pK,QB,QA]
  cases jN v <;> simp
theorem bBj {r:Row1} {ts:List Int} (hl:r.length≤1048576):∃ b,G9 r ts=some b∧aC4 r ts=some b∧(b=true↔nW r ts):=by
  obtain ⟨e1,b,e2⟩:=bAu r ts hl
  refine ⟨b,e2,by rw [e1,e2],?_⟩
  unfold G9 at e2
  by_cases he:r.length=ts.length
  case neg =>
    have hne:¬ (r.length:Int)=(ts.length:Int):=by omega
    rw [if_pos (by simp [hne])] at e2
    have:=Option.some.inj e2
    subst this
    exact ⟨fun h=>by simp at h,fun h=>absurd h.length he⟩
  have he':(r.length:Int)=(ts.length:Int):=by omega
  rw [if_neg (by simp [he'])] at e2
  have key:∀ i,i≤r.length→∀ b,wR r ts (i:Nat)=some b→(b=true↔A2 kT (r.drop i) (ts.drop i)):=by
    refine dU ?_ ?_
    · intro b h
      rw [wR] at h
      simp only [bV,QU,decide_false,QC,if_false,WE] at h
      subst h
      rw [QX,he,QX]
      exact ⟨fun _=>.nil,fun _=>rfl⟩
    · intro i hi ih b h
      have hi':i<ts.length:=by omega
      rw [wR] at h
      simp only [bV,hi,decide_true,if_true,bF hi,bF hi',bUp,QB,QA] at h
      rw [QF hi,QF hi']
      rcases hf:(jN r[i]&&(decide (r[i].kind=0)||decide (r[i].kind=ts[i]))) with _ | _
      · rw [hf] at h
        simp only [WO,if_true,WE] at h
        subst h
        refine ⟨fun h=>by simp at h,fun h=>?_⟩
        cases h with | cons a r =>
        obtain ⟨a1,a2⟩:=a
        rw [a1] at hf
        rcases a2 with a2 | a2 <;> simp [a2] at hf
      · rw [hf] at h
        simp only [QD,QC,if_false] at h
        rw [cK hi (by omega)] at h
        rw [ih b h]
        simp only [QG,WK,decide_eq_true_eq] at hf
        exact ⟨fun h=>.cons hf h,fun h=>by cases h with | cons _ r=>exact r⟩
  have:=key 0 (by omega) b e2
  simpa using this
theorem bXo {c:aP} {d:GDb} (hs:wO c) (hd:dbG 4 d) (h:wM c d=some true):aIx c d:=by
  have hdl:=hd.1
  unfold wM at h
  cases hc:aBz c with
  | none=>simp [hc] at h
  | some b =>
    cases b with
    | false=>simp [hc] at h
    | true =>
      simp only [hc,QD,QC,if_false,QB,QA] at h
      by_cases he:d.tables.length=c.tables.length
      case neg =>
        have:¬ (d.tables.length:Int)=(c.tables.length:Int):=by omega
        simp [this] at h
      have he':(d.tables.length:Int)=(c.tables.length:Int):=by omega
      simp only [he',decide_true,QD,QC,if_false] at h
      refine ⟨he,?_⟩
      have key:∀ i,i≤d.tables.length→yP c d (i:Nat)=some true→∀ (j:Nat) (h:j<d.tables.length) (h':j<c.tables.length),i≤j→∀ r∈d.tables[j].rows,nW r (lZ c.tables[j]):=by
        refine dU ?_ ?_
        · intro _ j h _ hij; omega
        · intro i hi ih h
          have hi':i<c.tables.length:=by omega
          have hg:=hd.2 _ (QE hi)
          obtain ⟨_,ty⟩:=bF8 c.tables[i] (hs.2 _ (QE hi'))
          rw [yP] at h
          simp only [bV,hi,decide_true,if_true,bF hi,QB,QA] at h
          by_cases h6:(6:Int)<(d.tables[i].rows.length:Int)
          · simp [h6] at h
          simp only [h6,decide_false,QC,if_false] at h
          have inner:∀ k,k≤d.tables[i].rows.length→uY (i:Int) c d (k:Nat)=some true→(∀ r∈d.tables[i].rows.drop k,nW r (lZ c.tables[i]))∧yP c d ((i+1:Nat):Int)=some true:=by
            refine dU ?_ ?_
            · intro h
              rw [uY] at h
              simp only [bF hi,bV,QU,decide_false,QC,if_false,QB,QA] at h
              rw [cK hi (by omega)] at h
              exact ⟨by simp,h⟩
            · intro k hk ihk h
              rw [uY] at h
              have hrl:=(hg.2 _ (QE hk)).1
              obtain ⟨b,f1,_,f3⟩:=bBj (r:=d.tables[i].rows[k]) (ts:=lZ c.tables[i]) (by omega)
              simp only [bF hi,bF hi',bF hk,bV,hk,decide_true,if_true,ty,f1,QB,QA] at h
              cases b with
              | false=>simp at h
              | true =>
                simp only [QD,QC,if_false] at h
                rw [cK hk (by omega)] at h
                obtain ⟨a1,a2⟩:=ihk h
                refine ⟨fun r hr=>?_,a2⟩
                rw [QF hk] at hr
                rcases QL.1 hr with rfl | hr
                · exact f3.1 rfl
                · exact a1 r hr
          obtain ⟨a1,a2⟩:=inner 0 (by omega) (by simpa using h)
          intro j hj hj' hij
          by_cases e:j=i
          · subst e; simpa using a1
          · exact ih a2 j hj hj' (by omega)
      exact fun i h1 h2=>key 0 (by omega) (by simpa using h) i h1 h2 (by omega)
theorem bLk {n:Int} (q:Rows) (h:0≤n):((aA2 n q).length:Int)≤n:=by
  unfold aA2
  by_cases hc:0≤n∧n<(q.length:Int)
  · rw [if_pos hc,WR]; omega
  · rw [if_neg hc]; omega
theorem bLj (p:List Int) (h:okL okU8 p):aJe p=some true:=by
  unfold aJe aMv
  simp only [QB,QA]
  by_cases hl:(1048576:Int)<(p.length:Int)
  · simp [hl]
  simp only [hl,decide_false,QC,if_false]
  have hl':p.length≤1048576:=by omega
  obtain ⟨⟨c,d,pl⟩,e,hW⟩:=bZ1 p hl'
  have hs:=bYn hW
  obtain ⟨hC,hd,hz⟩:=hW
  dsimp only at hC hd hz hs
  have R0:=bPv (c:=c) hs hd (p:=pl) (by omega)
  have W:=bK1 hs (p:=pl) (by omega)
  have D:=bGx hs hd (by omega)
  rw [e]
  simp only [QA]
  rw [R0.1,R0.2]
  by_cases hg:(wtB c pl&&dbB c d)=true
  case neg =>
    have r0:aB7 c d pl=([],4):=by unfold aB7; rw [if_neg hg]
    rw [r0,W.2,D.2]
    cases hw:wtB c pl <;> cases hb:dbB c d <;> simp_all
  have r0:aB7 c d pl=mQ d (eG c d []) pl:=by unfold aB7; rw [if_pos hg]
  rw [QG] at hg
  obtain ⟨hw,hb⟩:=hg
  have hDb:=D.2
  rw [hb] at hDb
  have hF:=bXo hs hd hDb
  have hWi:=W.1
  rw [hw] at hWi
  obtain ⟨_,hcP,_,_,ts,hT⟩:=bZo hs (by omega) hWi
  have hc:=bId hcP
  obtain ⟨⟨s0,s1⟩,hts⟩:=(cDy (c:=c) bJq bIy (by omega) hc hF (bBr hd) (by have:=hd.1; omega) (eF pl+1)).2 pl [] [] ts (WU _) (by show eF pl≤1048576; omega) (fun r hr=>by simp at hr) (fun r hr=>by simp at hr) (by simp; omega) .nil hT
  obtain ⟨r,pI,pS,_⟩:=bFz c hc pl [] (by omega) (by intro r hr; simp at hr) (by simp)
  unfold TyP at hT
  rw [hT] at pI
  have pI:=Option.some.inj pI
  subst pI
  obtain ⟨⟨R,b1,_,b3,b4⟩,b5⟩:=bHn (c:=c) hd (p:=pl) (by omega)
  rw [b5] at b1
  have b1:=Option.some.inj b1
  subst b1
  have hnil:=bW0 (d:=d) (ev:=eG c d []) (p:=pl)
  have hlim:(mQ d (eG c d []) pl).2=0→0≤pl.limit→((mQ d (eG c d []) pl).1.length:Int)≤pl.limit:=by
    intro h0 hlm
    unfold mQ at h0 ⊢
    split
    · rename_i hbad; rw [if_pos hbad] at h0; simp at h0
    rename_i hbad
    rw [if_neg hbad,bE7] at h0
    rw [bE7]
    split
    · simp; omega
    exact bLk _ hlm
  rw [r0,pS]
  generalize mQ d (eG c d []) pl=X at s0 s1 b3 b4 hnil hlim ⊢
  obtain ⟨X,b⟩:=X
  dsimp only at s0 s1 b3 b4 hnil hlim ⊢
  simp only [QA,decide_true,QD,QC,if_false]
  by_cases h0:b=0
  case neg =>
    have hx:=hnil h0
    subst hx
    rcases s1 h0 with rfl | rfl <;> simp
  subst h0
  have s0:=s0 rfl
  have hlim:=hlim rfl
  simp only [decide_true,QD,QC,if_false]
  have key:∀ i,i≤X.length→M0 (X,0) (ts,true) (c,d,pl) (i:Nat)=some true:=by
    refine dU ?_ ?_
    · rw [M0]
      simp only [bV,QU,decide_false,QC,if_false,QB,QA]
      by_cases hn:pl.limit<0
      · simp [hn]
      · have:=hlim (by omega)
        simp [hn,this]
    · intro i hi ih
      have hr:=s0 _ (QE hi)
      have hrl:=hr.length
      obtain ⟨b,f1,f2,f3⟩:=bBj (r:=X[i]) (ts:=ts) (by omega)
      have hbt:=f3.2 hr
      subst hbt
      rw [M0]
      simp only [bV,hi,decide_true,if_true,bF hi,f1,f2,QB,QA,QD,beq_self_eq_true,QQ,QZ,QC,if_false]
      rw [cK hi (by omega)]
      exact ih
  simpa using key 0 (by omega)
end Go.Ab
