/- What the functions compute,in plain Lean. -/
import Derived.Test.YthcemdafchcehacGreatLRunLimit0
namespace Go.Ab
open Go
open _root_.Option renaming bind_some→QA,bind_eq_bind→QB
open _root_.Bool renaming false_eq_true→QC,not_true→QG,and_eq_true→QH,eq_iff_iff→QI,and_self→QR,or_self→QY,false_or→WE,and_false→WL,not_false→WM,true_eq_false→WN
open _root_.List renaming length_singleton→QD,getElem_mem→QE,drop_eq_getElem_cons→QF,length_append→QK,drop_zero→QL,nil_append→QN,map_cons→QO,zipWith→QP,length_cons→QQ,length_nil→QT,append_assoc→QU,singleton_append→QV,drop_length→QW,mem_append→QX,mem_cons→QZ,map_nil→WA,mem_cons_of_mem→WB,zipWith_cons_cons→WC,sum_cons→WD,eq_nil_of_length_eq_zero→WF,append_nil→WG,length_pos_of_mem→WH,getElem_map→WO,map_append→WP,length_map→WQ,mem_map→WR,mem_flatMap→WS,mem_map_of_mem→WT,take_subset→WU,length_take→WV,set_cons_succ→WW,nodup_append→WX
open _root_.Nat renaming le_trans→QJ,lt_irrefl→QS,pow_le_pow_right→WJ,le_refl→WK,succ_mul→XA,one_mul→XB,zero_add→XC,lt_succ_self→XD
open Go.IntKind renaming wrap→QM
open _root_.Int renaming toNat_natCast→WI,lt_irrefl→WY,tmod_eq_emod_of_nonneg→WZ
section
variable {c:aQ} {d:GDb} {env:Rows} {ev:aJ→Gf}
theorem bA0 (r:Row1) (hl:env.length≤4194304):aC7 r env=some (r::env):=by
  unfold aC7
  rw [nP (by simp; omega)]; rfl
theorem bL4 {x4:List aJ} {x12:Int} {e:aJ} (he:idx x4 x12=some e) (hl:env.length≤4194304) {x3:Rows} (h3:x3.length≤1048576) (H:∀ r∈x3,fO c d (r::env) e=some (ev e r)) :
    ∀ i,i≤x3.length→∀ acc:Rows,acc.length≤i→aB4 env x3 x4 x12 c d (acc,(i:Nat))=if (jU (ev e) (x3.drop i)).2≠0 then some ([],(jU (ev e) (x3.drop i)).2) else O5 env x4 c d (acc++(jU (ev e) (x3.drop i)).1) (QM .i64 (x12+1)):=by
  refine dZ ?_ ?_
  · intro acc _
    rw [aB4]; simp [jU]
  · intro i hi ih acc ha
    rw [aB4,QF hi]
    simp only [bZ,hi,decide_true,if_true,bM hi,he,bA0 _ hl,QB,QA,H _ (QE hi),bL0,jU]
    by_cases h0:(ev e x3[i]).2=0
    · simp only [h0,decide_true,QG,QC,if_false,ne_eq,not_true_eq_false]
      by_cases ht:tru (ev e x3[i]).1=true
      · rw [if_pos ht,rX (by simp only [QD]; omega)]
        simp only [QA]
        rw [aD9,dI hi (by omega),ih _ (by simp only [QK,QD]; omega)]
        by_cases h1:(jU (ev e) (x3.drop (i+1))).2=0 <;> simp [h1,ht]
      · rw [if_neg ht,aD9,dI hi (by omega),ih _ (by show acc.length≤i+1; omega)]
        by_cases h1:(jU (ev e) (x3.drop (i+1))).2=0 <;> simp [h1,ht]
    · simp [h0]
theorem bAm {P:Row1→Prop} {l:List aJ} (he:env.length≤4194304) (hl:l.length≤1048576) (H:∀ e∈l,∀ r,P r→fO c d (r::env) e=some (ev e r)) (rows:Rows) (hr:rows.length≤1048576) (hP:∀ r∈rows,P r) :
    aBl c d env rows l=some (whE (l.map ev) rows):=by
  have key:∀ i,i≤l.length→∀ rows:Rows,rows.length≤1048576→(∀ r∈rows,P r)→O5 env l c d rows (i:Nat)=some (whE ((l.drop i).map ev) rows):=by
    refine dZ ?_ ?_
    · intro rows _ _
      rw [O5]; simp [whE]
    · intro i hi ih rows hr hP
      rw [O5,QF hi]
      simp only [bZ,hi,decide_true,if_true,QO,whE]
      have k:=bL4 (c:=c) (d:=d) (ev:=ev) (x4:=l) (x12:=(i:Int)) (bM hi) he hr (fun r hr=>H _ (QE hi) r (hP r hr)) 0 (by omega) [] (by simp)
      rw [show ((0:Nat):Int)=0 from rfl,QL,QN] at k
      rw [k,dI hi (by omega)]
      by_cases h1:(jU (ev l[i]) rows).2=0
      · simp only [h1,ne_eq,not_true_eq_false,if_false]
        exact ih _ (QJ (bHc _ _) hr) fun r hr=>hP r ((aFq _ _).subset hr)
      · simp [h1]
  rw [aBl]
  simpa using key 0 (by omega) rows hr hP
theorem bD5 (r:Row1) (h:r.length≤1048576):aBq r=some r:=by
  unfold aBq
  rw [nP (by simp only [QT]; omega)]
  rfl
theorem cCb {x10:Rows} {x11:Int} {t:fM} {i:Nat} {p:aP} (hi:i<x10.length) (ht:t.rows.length≤1048576) (ha:x10[i].length≤1048576) (hB:∀ x∈t.rows,x.length≤1048576) :
    ∀ j,j≤t.rows.length→∀ acc:Rows,acc.length+t.rows.length≤2097152+j→aBu env x10 x11 t (i:Int) c (d,p,acc,(j:Nat))=N9 env x10 x11 t c d (p,(acc++(t.rows.drop j).map fun b=>x10[i]++b,(QM .i64 ((i:Int)+1)))):=by
  refine dZ ?_ ?_
  · intro acc _
    rw [aBu]; simp
  · intro j hj ih acc hacc
    rw [aBu]
    simp only [bZ,hj,decide_true,if_true,bM hj,bM hi,bD5 _ ha,QB,QA]
    rw [nP (by have:=hB _ (QE hj); omega)]
    simp only [QA]
    rw [rX (by simp only [QD]; omega)]
    simp only [QA]
    rw [dI hj (by omega),ih _ (by simp only [QK,QD]; omega),QF hj]
    simp only [QO,QU,QV]
theorem cBu {x10:Rows} {x11:Int} {t:fM} {p:aP} (hx:x10.length * t.rows.length≤1048576) (hx4:x10.length≤1048576) (ht:t.rows.length≤1048576) (h4:∀ x∈x10,x.length≤1048576) (hB:∀ x∈t.rows,x.length≤1048576) :
    ∀ i,i≤x10.length→∀ acc:Rows,acc.length=i * t.rows.length→N9 env x10 x11 t c d (p,acc,(i:Nat))=((idx p.on_ x11)>>=fun (y4:List aJ)=>(aBl c d env (acc++mH (x10.drop i) t.rows) y4)>>=fun (y5:(List (List aA))×Int)=>if (!decide (y5.2=0))=true then (some (([]:List (List aA)),y5.2)) else (Z4 env c d p y5.1 (QM .i64 (x11+1)))):=by
  refine dZ ?_ ?_
  · intro acc _
    rw [N9]; simp [mH]
  · intro i hi ih acc ha
    rw [N9]
    simp only [bZ,hi,decide_true,if_true]
    have hm:(i+1) * t.rows.length≤x10.length * t.rows.length:=Nat.mul_le_mul_right _ hi
    rw [XA] at hm
    have:=cCb (c:=c) (d:=d) (env:=env) (x11:=x11) (p:=p) hi ht (h4 _ (QE hi)) hB 0 (by omega) acc (by omega)
    rw [show ((0:Nat):Int)=0 from rfl] at this
    rw [this,dI hi (by omega),ih _ (by simp [ha,XA]),QF hi]
    simp only [mH,List.flatMap_cons,QU,QL]
theorem bVh {p:aP} {R N:Nat} (hN:N≤1048576) (hd:DbB R d) (he:env.length≤4194304) (hp:aLt N R p) (hon:p.on_.length=p.tables.length) (hT:mV d p.tables=true)
    (H:∀ y∈p.on_,∀ e∈y,∀ r,fJ 3 r→fO c d (r::env) e=some (ev e r)) :
    ∀ i,i≤p.tables.length→∀ rows:Rows,rows.length≤R ^ i→(∀ r∈rows,fJ i r)→Z4 env c d p rows (i:Nat) =
      some (joE (QP (fun t l=>(rowsOf d t,l.map ev)) (p.tables.drop i) (p.on_.drop i)) rows):=by
  have R1:=hd.R1
  have t3:=hp.t3
  have pw:∀ i,i≤p.tables.length→R ^ i≤N:=fun i hi=>QJ (WJ R1 hi) hp.RN
  refine dZ ?_ ?_
  · intro rows hr hP
    rw [Z4]
    simp [joE]
  · intro i hi ih rows hr hP
    have hio:i<p.on_.length:=by omega
    have pi:=pw i (by omega)
    have ps:=pw (i+1) (by omega)
    have hti:=List.all_eq_true.1 hT _ (QE hi)
    simp only [QH,decide_eq_true_eq] at hti
    obtain ⟨t,e1,e2,e3⟩:=aWt hti.1 hti.2
    have ht:=hd.rows t e3
    have hcl:(mH rows t.rows).length≤R ^ (i+1):=by rw [aIf,Nat.pow_succ]; exact Nat.mul_le_mul hr ht
    have hRN1:R≤1048576:=QJ (QJ (by have:=WJ R1 (show 1≤i+1 by omega); simpa using this) ps) hN
    rw [Z4,bM hi]
    simp only [bZ,hi,decide_true,if_true,QB,QA,e1]
    have j1:=cBu (c:=c) (d:=d) (env:=env) (x11:=(i:Int)) (p:=p) (x10:=rows) (t:=t) (by rw [← aIf]; omega) (by omega) (by omega) (fun y hy=>by have:=(hP y hy).1; omega) (fun y hy=>by have:=(hd.row t e3 y hy).1; omega) 0 (by omega) [] (by simp)
    rw [show ((0:Nat):Int)=0 from rfl] at j1
    rw [j1,bM hio]
    simp only [QB,QA,QL,QN]
    have hcB:∀ r∈mH rows t.rows,fJ (i+1) r:=aXu hP (hd.row t e3)
    rw [bAm he (hp.on1 _ (QE hio)) (fun e he=>H _ (QE hio) e he) _ (by omega) (fun r hr=>aA8 (by omega) (hcB r hr))]
    simp only [QA]
    rw [QF hi,QF hio,WC,joE,← e2]
    by_cases h0:(whE (p.on_[i].map ev) (mH rows t.rows)).2=0
    · simp only [h0,decide_true,QG,QC,if_false,ne_eq,not_true_eq_false]
      rw [dI hi (by omega)]
      exact ih _ (QJ (aE7 _ _) hcl) fun r hr=>hcB r ((O1 _ _).subset hr)
    · simp [h0]
theorem bVl (ks:List cZ) (hk:ks.length≤1048576) {a b:Row1} (ha:a.length=ks.length) (hb:b.length=ks.length):aHc a b ks=some (rO (ks.map (·.desc)) a b):=by
  have key:∀ i,i≤ks.length→aB3 a b ks (i:Nat)=some (rO ((ks.map (·.desc)).drop i) (a.drop i) (b.drop i)):=by
    refine dZ ?_ ?_
    · rw [aB3,List.drop_of_length_le (l:=ks.map (·.desc)) (by simp)]; simp [rO]
    · intro i hi ih
      have ia:i<a.length:=by omega
      have ib:i<b.length:=by omega
      have id:i<(ks.map (·.desc)).length:=by simpa using hi
      rw [aB3]
      simp only [bZ,hi,decide_true,if_true,bM hi,bM ia,bM ib,QB,QA,aGn]
      rw [QF ia,QF ib,QF id,rO]
      have hr:=bAi a[i] b[i]
      generalize tN a[i] b[i]=o at hr ⊢
      rw [dR (n:=0 - o) (by omega) (by omega)]
      have J:∀ m:Int,aB9 a b ks (i:Int) m=some (if m≠0 then decide (m<0) else rO ((ks.map (·.desc)).drop (i+1)) (a.drop (i+1)) (b.drop (i+1))):=by
        intro m
        rw [aB9]
        by_cases hm:m=0
        · rw [if_neg (by simp [hm]),dI hi (by omega),ih,if_neg (by simp [hm])]
        · rw [if_pos (by simp [hm]),if_pos hm]
      simp only [WO,J]
      by_cases hd:ks[i].desc=true
      · simp only [hd,if_true]
        rw [Int.zero_sub]
      · simp only [hd,QC,if_false]
  unfold aHc
  simpa using key 0 (by omega)
end
section
variable {c:aQ} {d:GDb} {env:Rows} {ev:aJ→Gf}
theorem aRb {α:Type} {l:List α} {n:Nat} (h:n≤l.length):iM l (n:Int) (l.length:Int)=some (l.drop n):=by
  unfold iM
  rw [if_pos ⟨by omega,by omega,by omega⟩]
  simp
theorem bWj {ks:List cZ} (hk:ks.length≤1048576) {rows:Rows} {i:Nat} (hi:i<rows.length) (hr:rows.length≤1048576) {mine:Row1} (hm:mine.length=ks.length) (K:List aU) (hK:KL ks.length K) (hl:K.length≤1048576) :
    ∀ n,n≤K.length→K6 env rows ks (K.map (·.row)) (K.map (·.keys)) (i:Int) (mine,c,d,(n:Int)) =
      yA env rows ks c d ((K.take (lU (kLt (ks.map (·.desc))) ⟨rows[i],mine⟩ K n)++(⟨rows[i],mine⟩:aU)::K.drop (lU (kLt (ks.map (·.desc))) ⟨rows[i],mine⟩ K n)).map (·.row)) ((K.take (lU (kLt (ks.map (·.desc))) ⟨rows[i],mine⟩ K n)++(⟨rows[i],mine⟩:aU)::K.drop (lU (kLt (ks.map (·.desc))) ⟨rows[i],mine⟩ K n)).map (·.keys),(QM .i64 ((i:Int)+1))):=by
  have fin:∀ n,n≤K.length→((iM (K.map (·.row)) 0 (n:Int))>>=fun (y9:(List (List aA)))=>(appG 24 ([]:List (List aA)) y9)>>=fun (y10:List (List aA))=>(idx rows (i:Int))>>=fun (y11:(List aA))=>(appG 24 y10 ([y11]:List (List aA)))>>=fun (y12:List (List aA))=>(iM (K.map (·.row)) (n:Int) ((K.map (·.row)).length:Int))>>=fun (y13:(List (List aA)))=>(appG 24 y12 y13)>>=fun (y14:List (List aA))=>(iM (K.map (·.keys)) 0 (n:Int))>>=fun (y15:(List (List aA)))=>(appG 24 ([]:List (List aA)) y15)>>=fun (y16:List (List aA))=>(appG 24 y16 ([mine]:List (List aA)))>>=fun (y17:List (List aA))=>(iM (K.map (·.keys)) (n:Int) ((K.map (·.keys)).length:Int))>>=fun (y18:(List (List aA)))=>(appG 24 y17 y18)>>=fun (y19:List (List aA))=>yA env rows ks c d y14 (y19,(QM .i64 ((i:Int)+1)))) =
      yA env rows ks c d ((K.take n++(⟨rows[i],mine⟩:aU)::K.drop n).map (·.row)) ((K.take n++(⟨rows[i],mine⟩:aU)::K.drop n).map (·.keys),(QM .i64 ((i:Int)+1))):=by
    intro n hn
    have h1:n≤(K.map (·.row)).length:=by simpa using hn
    have h2:n≤(K.map (·.keys)).length:=by simpa using hn
    have l1:(K.map (·.row)).length=K.length:=by simp
    have l2:(K.map (·.keys)).length=K.length:=by simp
    rw [aHg h1,aRb h1,aHg h2,aRb h2,bM hi]
    simp only [QB,QA]
    have t1:((K.map (·.row)).take n).length≤K.length:=by simp; omega
    have t2:((K.map (·.keys)).take n).length≤K.length:=by simp; omega
    have d1:((K.map (·.row)).drop n).length≤K.length:=by simp
    have d2:((K.map (·.keys)).drop n).length≤K.length:=by simp
    rw [rX (by simp only [QT]; omega),rX (l:=[]) (by simp only [QT]; omega)]
    simp only [QA,QN]
    rw [rX (by simp only [QD]; omega)]
    simp only [QA]
    rw [rX (by simp only [QK,QD]; omega)]
    simp only [QA]
    rw [rX (by simp only [QD]; omega)]
    simp only [QA]
    rw [rX (by simp only [QK,QD]; omega)]
    simp only [QA,WP,QO,List.map_take,List.map_drop,QU,QV]
  intro n
  induction n with
  | zero =>
    intro hn
    rw [K6]
    have:=fin 0 hn
    simp only [QB] at this
    simp only [lU,show ((0:Nat):Int)=0 from rfl,WY,decide_false,WL,QC,if_false,QB,QA,beq_iff_eq] at this ⊢
    exact this
  | succ n ih =>
    intro hn
    have hn':n<K.length:=by omega
    have hn2:n<(K.map (·.keys)).length:=by simpa using hn'
    rw [K6]
    have hp:decide ((0:Int)<((n+1:Nat):Int))=true:=by rw [decide_eq_true_eq]; omega
    have ew:QM .i64 (((n+1:Nat):Int) - 1)=(n:Int):=by rw [dR] <;> omega
    have eb:=getElem!_pos K n hn'
    simp only [hp,beq_self_eq_true,QR,if_true,ew,bM hn2,QB,QA,WO]
    rw [bVl ks hk hm (hK _ (QE hn'))]
    simp only [QA]
    rw [lU,eb]
    have e:kLt (ks.map (·.desc)) ⟨rows[i],mine⟩ K[n]=rO (ks.map (·.desc)) mine K[n].keys:=rfl
    by_cases h:rO (ks.map (·.desc)) mine K[n].keys=true
    · rw [if_pos h,e,if_pos h]
      exact ih (by omega)
    · rw [if_neg h,e,if_neg h]
      have:=fin (n+1) hn
      simp only [QB] at this
      exact this
theorem bRn {ks:List cZ} (hk:ks.length≤1048576) (he:env.length≤4194304) {P:Row1→Prop} (H:∀ k∈ks,∀ r,P r→fO c d (r::env) k.expr=some (ev k.expr r)) {rows:Rows} (hr:rows.length≤1048576) (hP:∀ r∈rows,P r) :
    ∀ i,i≤rows.length→∀ K:List aU,K.length=i→KL ks.length K→yA env rows ks c d (K.map (·.row)) (K.map (·.keys),(i:Nat)) =
      if (bF (oH ev ks) (rows.drop i)).2≠0 then some ([],(bF (oH ev ks) (rows.drop i)).2)
      else some ((mJ (kLt (ks.map (·.desc))) K (QP aU.mk (rows.drop i) (bF (oH ev ks) (rows.drop i)).1)).map (·.row),0):=by
  refine dZ ?_ ?_
  · intro K _ _
    rw [yA]
    simp [bF,mJ]
  · intro i hi ih K hKl hK
    rw [yA,QF hi]
    simp only [bZ,hi,decide_true,if_true,bF]
    have hPr:=hP _ (QE hi)
    have m:=aB1 (p:=ks) (b:=32) (g:=fun k=>ev k.expr rows[i]) (F:=fun y3=>fO c d (rows[i]::env) y3.expr)
      (L:=fun acc j=>aEm env rows ks (K.map (·.row)) (K.map (·.keys)) (i:Int) (c,d,acc,j)) (E:=fun e=>([],e)) (K:=fun acc=>K6 env rows ks (K.map (·.row)) (K.map (·.keys)) (i:Int) (acc,c,d,((K.map (·.row)).length:Int)))
      hk (by omega) (fun k hk=>H k hk _ hPr) (fun j acc=>by
        rw [aEm]
        simp only [bM hi,bA0 _ he,QB,QA]) [] (by simp)
    rw [m]
    simp only [QN]
    by_cases h0:(bF (fun k:cZ=>ev k.expr rows[i]) ks).2=0
    · have hkl:=aI3 h0
      simp only [oH,h0,ne_eq,not_true_eq_false,if_false]
      have hl:(K.map (·.row)).length=K.length:=by simp
      rw [hl,bWj hk hi hr hkl K hK (by omega) K.length (WK _)]
      have ei:(K.take (lU (kLt (ks.map (·.desc))) ⟨rows[i],(bF (fun k:cZ=>ev k.expr rows[i]) ks).1⟩ K K.length)++(⟨rows[i],(bF (fun k:cZ=>ev k.expr rows[i]) ks).1⟩:aU)::K.drop (lU (kLt (ks.map (·.desc))) ⟨rows[i],(bF (fun k:cZ=>ev k.expr rows[i]) ks).1⟩ K K.length))=G9 (kLt (ks.map (·.desc))) ⟨rows[i],(bF (fun k:cZ=>ev k.expr rows[i]) ks).1⟩ K:=rfl
      rw [ei,dI hi (by omega),ih _ (by rw [bBv,hKl]) (fun k hk=>by
        have:=(aSa _ _ _).subset hk
        rcases QZ.1 this with rfl | hk
        · exact hkl
        · exact hK k hk)]
      by_cases h1:(bF (oH ev ks) (rows.drop (i+1))).2=0
      · simp only [h1,ne_eq,not_true_eq_false,if_false,WC,mJ]
      · simp [h1]
    · simp [h0,oH]
theorem cD8 (r:Rows):bF (oH ev []) r=(r.map fun _=>[],0):=by
  induction r with
  | nil=>rfl
  | cons x r ih=>rw [bF,ih]; simp [oH,bF]
theorem bPp (r:Rows):jF [] r=(r,0):=by
  unfold jF
  have e:(fun row:Row1=>bF (fun k:Gf×Bool=>k.1 row) [])=oH (fun _ _=>(⟨0,0,[]⟩,0)) []:=by
    funext row; rfl
  rw [e,cD8]
  simp only [ne_eq,not_true_eq_false,if_false,WA]
  rw [bDp _ (fun a b=>by simp [kLt,rO])]
  congr 1
  simp only [QN]
  induction r with
  | nil=>rfl
  | cons x r ih=>simp only [QO,WC,List.cons.injEq,true_and]; exact ih
theorem bMr {ks:List cZ} (hk:ks.length≤1048576) (he:env.length≤4194304) {P:Row1→Prop} (H:∀ k∈ks,∀ r,P r→fO c d (r::env) k.expr=some (ev k.expr r)) {rows:Rows} (hr:rows.length≤1048576) (hP:∀ r∈rows,P r) :
    aGb c d env rows ks=some (jF (ks.map fun k=>(ev k.expr,k.desc)) rows):=by
  have:=bRn (c:=c) (d:=d) hk he H hr hP 0 (by omega) [] rfl (fun k hk=>by simp at hk)
  rw [show ((0:Nat):Int)=0 from rfl,WA,WA] at this
  rw [aGb,this]
  unfold jF
  have e:(fun row:Row1=>bF (fun k:Gf×Bool=>k.1 row) (ks.map fun k=>(ev k.expr,k.desc)))=oH ev ks:=by
    funext row; rw [aBk]
  have e2:(ks.map fun k=>(ev k.expr,k.desc)).map (·.2)=ks.map (·.desc):=by rw [List.map_map]; rfl
  rw [e,e2,QL]
  split <;> rfl
end
section
variable {c:aQ} {d:GDb} {env:Rows} {ev:aJ→Gf}
theorem okS27 (p:aP) (ht:p.tables.length≤1048576) (hd:d.tables.length≤1048576):aJm d p=some (!(decide (p.tables.length=0)||!decide (p.on_.length=p.tables.length))&&mV d p.tables):=by
  have key:∀ i,i≤p.tables.length→Y4 d p (i:Nat)=some (mV d (p.tables.drop i)):=by
    refine dZ ?_ ?_
    · rw [Y4]; simp [mV]
    · intro i hi ih
      rw [Y4,QF hi]
      simp only [bZ,hi,decide_true,if_true,bM hi,QB,QA,aNt,dR (n:=(d.tables.length:Int) - 1) (by omega) (by omega)]
      have e:mV d (p.tables[i]::p.tables.drop (i+1))=((decide (0≤p.tables[i])&&decide (p.tables[i]<(d.tables.length:Int)))&&mV d (p.tables.drop (i+1))):=rfl
      have e2:decide (p.tables[i]≤(d.tables.length:Int) - 1)=decide (p.tables[i]<(d.tables.length:Int)):=by
        by_cases h:p.tables[i]<(d.tables.length:Int)
        · rw [decide_eq_true h,decide_eq_true (by omega)]
        · rw [decide_eq_false h,decide_eq_false (by omega)]
      rw [e,e2,dI hi (by omega),ih]
      rcases (decide (0≤p.tables[i])&&decide (p.tables[i]<(d.tables.length:Int))) with _ | _ <;> simp
  unfold aJm
  simp only [QB,QA,orB]
  by_cases h0:p.tables.length=0
  · simp [h0]
  by_cases h1:p.on_.length=p.tables.length
  · have e0:¬ (p.tables.length:Int)=0:=by omega
    have e1:(p.on_.length:Int)=(p.tables.length:Int):=by omega
    have k:=key 0 (by omega)
    rw [show ((0:Nat):Int)=0 from rfl,QL] at k
    simp only [e0,e1,h0,h1,decide_true,decide_false,QG,QY,QC,if_false,k,WM,Bool.true_and]
  · have e1:¬ (p.on_.length:Int)=(p.tables.length:Int):=by omega
    simp [h1,e1]
theorem bIv (a b:Row1) (ha:a.length≤1048576):aF6 a b=some (decide (a=b)):=by
  unfold aF6
  by_cases hl:a.length=b.length
  · have key:∀ i,i≤a.length→P6 a b (i:Nat)=some (decide (a.drop i=b.drop i)):=by
      refine dZ ?_ ?_
      · rw [P6]
        rw [QW,hl,QW]; simp
      · intro i hi ih
        have hb:i<b.length:=by omega
        rw [P6]
        simp only [bZ,hi,decide_true,if_true,bM hi,bM hb,QB,QA]
        rw [dI hi (by omega),ih,QF hi,QF hb]
        have e:=aRx a[i] b[i]
        unfold aP5 at e
        by_cases h:a[i]=b[i]
        · rw [if_neg (by rw [e.2 h]; decide),h]; simp only [List.cons.injEq,true_and]
        · rw [if_pos (by rw [Bool.eq_false_iff.2 (fun h'=>h (e.1 h'))]; rfl)]; simp only [List.cons.injEq,h,false_and,decide_false]
    have:=key 0 (by omega)
    simp only [QL] at this
    rw [if_neg (by simp; omega)]
    exact this
  · have:a≠b:=fun e=>hl (by rw [e])
    rw [if_pos (by simp; omega)]
    simp [this]
theorem bSl {p acc:Rows} {i:Nat} (hi:i<p.length) (ha:acc.length≤1048576) (hl:∀ y∈acc,y.length≤1048576) :
    ∀ j,j≤acc.length→∀ b:Bool,aCu p acc (i:Int) b (j:Nat)=if (b||decide (p[i]∈acc.drop j))=true then zO p (i:Int) acc else ((aBq p[i])>>=fun (y6:List aA)=>(appG 24 acc ([y6]:List (List aA)))>>=fun (y7:List (List aA))=>zO p (i:Int) y7):=by
  refine dZ ?_ ?_
  · intro b
    rw [aCu]
    cases b <;> simp [bM hi]
  · intro j hj ih b
    rw [aCu,QF hj]
    cases b with
    | true =>
      simp only [bZ,hj,decide_true,if_true,WN,beq_iff_eq,WL,QC,if_false,QB,QA,show (true==false)=false from rfl]
      rw [dI hj (by omega),ih]
      simp
    | false =>
      simp only [bZ,hj,decide_true,if_true,beq_self_eq_true,QR,QC,if_false,bM hj,bM hi,QB,QA,bIv _ p[i] (hl _ (QE hj))]
      rw [dI hj (by omega),ih]
      by_cases h:acc[j]=p[i]
      · rw [if_pos (by simp [h]),if_pos (by simp [h])]
      · have h':¬ p[i]=acc[j]:=fun e=>h e.symm
        have e:(false||decide (p[i]∈acc[j]::acc.drop (j+1)))=(decide (acc[j]=p[i])||decide (p[i]∈acc.drop (j+1))):=by simp [h,h',-List.getElem_cons_drop]
        rw [e]
        simp only [QB]
theorem bBc (p:Rows) (hp:p.length≤1048576) (hr:∀ y∈p,y.length≤1048576):aCm p=some (fV [] p):=by
  have key:∀ i,i≤p.length→∀ acc:Rows,acc.length≤i→(∀ y∈acc,y.length≤1048576)→aAf p acc (i:Nat)=some (fV acc (p.drop i)):=by
    refine dZ ?_ ?_
    · intro acc _ _
      rw [aAf]; simp [fV]
    · intro i hi ih acc ha hl
      have hy:=hr _ (QE hi)
      have k:=bSl hi (by omega) hl 0 (by omega) false
      rw [show ((0:Nat):Int)=0 from rfl,QL,WE] at k
      rw [aAf,QF hi,fV]
      simp only [bZ,hi,decide_true,if_true,k,decide_eq_true_eq]
      by_cases h:p[i]∈acc
      · rw [if_pos h,if_pos h,zO,dI hi (by omega)]
        exact ih acc (by omega) hl
      · rw [if_neg h,if_neg h,bD5 _ hy]
        simp only [QB,QA]
        rw [rX (by simp only [QD]; omega)]
        simp only [QA]
        rw [zO,dI hi (by omega)]
        exact ih _ (by simp only [QK,QD]; omega) (fun y hy'=>by
          rcases QX.1 hy' with h | h
          · exact hl y h
          · simp at h; subst h; exact hy)
  unfold aCm
  simpa using key 0 (by omega) [] (by simp) (by simp)
theorem bYz {l:List aJ} (hl:l.length≤1048576) (he:env.length≤4194304) {P:Row1→Prop} (H:∀ e∈l,∀ r,P r→fO c d (r::env) e=some (ev e r)) {rows:Rows} (hr:rows.length≤1048576) (hP:∀ r∈rows,P r) :
    aHp c d env rows l=some (mU (l.map ev) rows):=by
  have e:mU (l.map ev) rows=bF (fun row=>bF (fun e=>ev e row) l) rows:=by
    unfold mU
    congr 1
    funext row
    rw [aBk]
  have key:∀ i,i≤rows.length→∀ acc:Rows,acc.length≤i→Y3 env rows l c d acc (i:Nat)=if (bF (fun row=>bF (fun e=>ev e row) l) (rows.drop i)).2≠0 then some ([],(bF (fun row=>bF (fun e=>ev e row) l) (rows.drop i)).2) else some (acc++(bF (fun row=>bF (fun e=>ev e row) l) (rows.drop i)).1,0):=by
    refine dZ ?_ ?_
    · intro acc _
      rw [Y3]; simp [bF]
    · intro i hi ih acc ha
      have hPr:=hP _ (QE hi)
      rw [Y3,QF hi]
      simp only [bZ,hi,decide_true,if_true,bF]
      have m:=aB1 (p:=l) (b:=32) (g:=fun k=>ev k rows[i]) (F:=fun y3=>fO c d (rows[i]::env) y3)
        (L:=fun a j=>aBo env rows l acc (i:Int) c (d,a,j)) (E:=fun e=>([],e)) (K:=fun a=>(appG 24 acc ([a]:List (List aA)))>>=fun (y6:List (List aA))=>Y3 env rows l c d y6 (QM .i64 ((i:Int)+1)))
        hl (by omega) (fun k hk=>H k hk _ hPr) (fun j a=>by
          rw [aBo]
          simp only [bM hi,bA0 _ he,QB,QA]) [] (by simp)
      rw [m]
      simp only [QN]
      by_cases h0:(bF (fun k=>ev k rows[i]) l).2=0
      · simp only [h0,ne_eq,not_true_eq_false,if_false,QB]
        rw [rX (by simp only [QD]; omega)]
        simp only [QA]
        rw [dI hi (by omega),ih _ (by simp only [QK,QD]; omega)]
        by_cases h1:(bF (fun row=>bF (fun e=>ev e row) l) (rows.drop (i+1))).2=0
        · simp only [h1,ne_eq,not_true_eq_false,if_false,QU,QV]
        · simp [h1]
      · simp [h0]
  have k:=key 0 (by omega) [] (by simp)
  rw [show ((0:Nat):Int)=0 from rfl,QL,QN] at k
  rw [aHp,k,e]
  by_cases h0:(bF (fun row=>bF (fun e=>ev e row) l) rows).2=0
  · rw [if_neg (by simp [h0])]
    generalize bF (fun row=>bF (fun e=>ev e row) l) rows=M at h0 ⊢
    obtain ⟨a,b⟩:=M
    dsimp only at h0
    subst h0
    rfl
  · rw [if_pos h0]
    have e2:(bF (fun row=>bF (fun e=>ev e row) l) rows).1=[]:=by
      cases rows with
      | nil=>simp [bF] at h0
      | cons x rs =>
        rw [bF] at h0 ⊢
        split
        · rfl
        split
        · rfl
        · rename_i a b
          rw [if_neg a,if_neg b] at h0
          simp at h0
    rw [← e2]
theorem bYp {p:aP} (r:Rows) (hr:r.length≤1048576) (hl:∀ y∈r,y.length≤1048576):(if p.distinct=true then ((aCm r)>>=fun (y6:List (List aA))=>H9 p y6) else (H9 p r))=some (uQ p.distinct p.limit r,0):=by
  have J:∀ y:Rows,y.length≤1048576→H9 p y=some (xM p.limit y,0):=fun y hy=>by
    unfold H9 aGx
    exact bFh p.limit y hy
  unfold uQ
  by_cases hd:p.distinct=true
  · rw [if_pos hd,if_pos hd,bBc r hr hl]
    exact J _ (by have:=aAc r []; simp at this; omega)
  · rw [if_neg hd,if_neg hd]; exact J r hr
theorem aNs {α β γ:Type} (f:α→β→γ):∀ (A:List α) (B:List β) (z:γ),z∈QP f A B→∃ a∈A,∃ b∈B,z=f a b
  | [],B,z,h=>by simp at h
  | a::A,[],z,h=>by simp at h
  | a::A,b::B,z,h=>by
    rw [WC,QZ] at h
    rcases h with rfl | h
    · exact ⟨a,by simp,b,by simp,rfl⟩
    · obtain ⟨x,hx,y,hy,e⟩:=aNs f A B z h
      exact ⟨x,WB _ hx,y,WB _ hy,e⟩
theorem bG2 {ks:List (Gf×Bool)} {r:Rows}:(jF ks r).1.length≤r.length∧∀ x∈(jF ks r).1,x∈r:=by
  unfold jF
  split
  · simp
  · refine ⟨?_,fun x hx=>?_⟩
    · rw [WQ,(aEj _ _ _).length_eq]
      simp only [QN,List.length_zipWith]
      omega
    · obtain ⟨k,hk,rfl⟩:=WR.1 hx
      have hk2:=(aEj _ _ _).subset hk
      rw [QN] at hk2
      obtain ⟨a,ha,b,_,rfl⟩:=aNs _ _ _ _ hk2
      exact ha
theorem bUs {N R:Nat} (hN:N≤1048576) (hd:DbB R d) (hdl:d.tables.length≤1048576) (he:env.length≤4194304) {p:aP} (hp:aLt N R p)
    (H:∀ e∈iE p,∀ r,fJ 3 r→fO c d (r::env) e=some (ev e r)):uL c d env p=some (uB d ev p):=by
  have t3:=hp.t3
  have Hon:∀ y∈p.on_,∀ e∈y,∀ r,fJ 3 r→fO c d (r::env) e=some (ev e r):=fun y hy e he=>H e (by
    unfold iE
    simp only [QX,WS]
    exact .inl (.inl (.inl ⟨y,hy,he⟩)))
  have Hwh:∀ e∈p.where_,∀ r,fJ 3 r→fO c d (r::env) e=some (ev e r):=fun e he=>H e (by unfold iE; simp [he])
  have Hor:∀ k∈p.order,∀ r,fJ 3 r→fO c d (r::env) k.expr=some (ev k.expr r):=fun k hk=>H k.expr (by
    unfold iE
    simp only [QX,WS]
    exact .inl (.inr ⟨k,hk,by simp⟩))
  have Hit:∀ e∈p.items,∀ r,fJ 3 r→fO c d (r::env) e=some (ev e r):=fun e he=>H e (by unfold iE; simp [he])
  rw [uL,okS27 p (by omega) hdl]
  unfold uB
  simp only [QB,QA]
  by_cases h0:p.tables.length=0
  · simp [h0]
  by_cases h1:p.on_.length=p.tables.length
  case neg=>simp [h1]
  by_cases h2:mV d p.tables=true
  case neg=>simp [h2]
  simp only [h0,h1,h2,decide_true,decide_false,QG,QY,WM,QR,QC,if_false,ne_eq,not_true_eq_false,or_self,WN]
  have j:=bVh (c:=c) (env:=env) (ev:=ev) hN hd he hp h1 h2 Hon 0 (by omega) [[]] (by simp) (fun r hr=>by simp at hr; subst hr; exact ⟨by simp,by simp⟩)
  rw [show ((0:Nat):Int)=0 from rfl,QL,QL] at j
  rw [aN0,j]
  unfold aB0 jO Y9
  dsimp only
  have jm:∀ s∈QP (fun (t:Int) (l:List aJ)=>(rowsOf d t,l.map ev)) p.tables p.on_,∃ x∈d.tables,x.rows=s.1:=by
    intro s hs
    obtain ⟨a,ha,b,_,rfl⟩:=aNs _ _ _ _ hs
    exact aOf h2 (WT ha)
  have js:(QP (fun (t:Int) (l:List aJ)=>(rowsOf d t,l.map ev)) p.tables p.on_).length=p.tables.length:=by simp [h1]
  have jl:=aKo R (QP (fun (t:Int) (l:List aJ)=>(rowsOf d t,l.map ev)) p.tables p.on_) [[]] 1 (fun s hs=>by obtain ⟨x,hx,e⟩:=jm s hs; rw [← e]; exact hd.rows x hx) (by simp)
  have jB:=aPa (QP (fun (t:Int) (l:List aJ)=>(rowsOf d t,l.map ev)) p.tables p.on_) [[]] 0 (fun s hs=>by obtain ⟨x,hx,e⟩:=jm s hs; rw [← e]; exact hd.row x hx) (fun r hr=>by simp at hr; subst hr; exact ⟨by simp,by simp⟩)
  rw [js,XB] at jl
  rw [js,XC] at jB
  have RN:=hp.RN
  generalize joE (QP (fun (t:Int) (l:List aJ)=>(rowsOf d t,l.map ev)) p.tables p.on_) [[]]=J at jl jB ⊢
  obtain ⟨J1,J2⟩:=J
  dsimp only at jl jB ⊢
  by_cases g0:J2=0
  case neg=>simp [g0]
  subst g0
  simp only [decide_true,QG,QC,if_false,ne_eq,not_true_eq_false,QA]
  rw [bAm he hp.wh Hwh J1 (by omega) (fun r hr=>aA8 t3 (jB r hr))]
  simp only [QA]
  have wl:=aE7 (p.where_.map ev) J1
  have wB:∀ r∈(whE (p.where_.map ev) J1).1,fJ 3 r:=fun r hr=>aA8 t3 (jB r ((O1 _ _).subset hr))
  generalize whE (p.where_.map ev) J1=W at wl wB ⊢
  obtain ⟨W1,W2⟩:=W
  dsimp only at wl wB ⊢
  by_cases g1:W2=0
  case neg=>simp [g1]
  subst g1
  simp only [decide_true,QG,QC,if_false,ne_eq,not_true_eq_false]
  have Fin:∀ S1:Rows,S1.length≤1048576→(∀ r∈S1,fJ 3 r)→aDp env c d p S1=some (if (mU (p.items.map ev) S1).2≠0 then ([],(mU (p.items.map ev) S1).2) else (uQ p.distinct p.limit (mU (p.items.map ev) S1).1,0)):=by
    intro S1 sl sB
    rw [aDp,bYz hp.it he Hit sl sB]
    simp only [QB,QA]
    have ml:(mU (p.items.map ev) S1).1.length≤S1.length:=aD6 _
    have mm:∀ y∈(mU (p.items.map ev) S1).1,y.length≤1048576:=by
      intro y hy
      obtain ⟨r,_,rfl,_⟩:=aAb hy
      exact QJ (aD6 _) (by simpa using hp.it)
    generalize mU (p.items.map ev) S1=M at ml mm ⊢
    obtain ⟨M1,M2⟩:=M
    dsimp only at ml mm ⊢
    by_cases g3:M2=0
    case neg=>simp [g3]
    subst g3
    simp only [decide_true,QG,QC,if_false,ne_eq,not_true_eq_false]
    exact bYp M1 (by omega) mm
  by_cases go:(0:Int)<(p.order.length:Int)
  · rw [if_pos (by simpa using go),bMr hp.ord he Hor (by omega) wB]
    simp only [QA]
    obtain ⟨sl,sm⟩:=bG2 (ks:=p.order.map fun k=>(ev k.expr,k.desc)) (r:=W1)
    generalize jF (p.order.map fun k=>(ev k.expr,k.desc)) W1=S at sl sm ⊢
    obtain ⟨S1,S2⟩:=S
    dsimp only at sl sm ⊢
    by_cases g2:S2=0
    case neg=>simp [g2]
    subst g2
    simp only [decide_true,QG,QC,if_false,ne_eq,not_true_eq_false]
    exact Fin S1 (by omega) fun r hr=>wB r (sm r hr)
  · rw [if_neg (by simpa using go)]
    have:p.order=[]:=WF (by omega)
    rw [this,WA,bPp]
    simp only [ne_eq,not_true_eq_false,if_false]
    exact Fin W1 (by omega) wB
end
def FK (kind:Int) (k s:Nat):Prop:=(kind=1∧k=0∧s=0)∨(kind=2∧k=0∧s=0)∨(kind=3∧k=1∧s=0)∨(kind=4∧k=2∧s=0)∨(kind=5∧k=1∧s=0)∨(kind=6∧k=3∧s=0)∨(kind=7∧(2≤k∧k≤9)∧s=0)∨(kind=8∧k=1∧s=1)∨(kind=9∧k=0∧s=1)
instance (kind:Int) (k s:Nat):Decidable (FK kind k s):=by unfold FK; infer_instance
theorem aWx (kind:Int) (k s:Nat):aGa kind (k:Int) (s:Int)=some (decide (FK kind k s)):=by
  have v:aAq ⟨0,0,[]⟩=some true:=by decide
  have nm:qF [120]=some true:=by decide
  unfold aGa aPo aJz F5 FK
  simp only [v,nm,uI,QB,QA]
  by_cases h1:kind=1
  · subst h1; simp <;> (rw [QI]; simp only [QH,decide_eq_true_eq]; omega)
  by_cases h2:kind=2
  · subst h2; simp <;> (rw [QI]; simp only [QH,decide_eq_true_eq]; omega)
  by_cases h3:kind=3
  · subst h3; simp <;> (rw [QI]; simp only [QH,decide_eq_true_eq]; omega)
  by_cases h4:kind=4
  · subst h4; simp <;> (rw [QI]; simp only [QH,decide_eq_true_eq]; omega)
  by_cases h5:kind=5
  · subst h5; simp <;> (rw [QI]; simp only [QH,decide_eq_true_eq]; omega)
  by_cases h6:kind=6
  · subst h6; simp <;> (rw [QI]; simp only [QH,decide_eq_true_eq]; omega)
  by_cases h7:kind=7
  · subst h7; simp <;> (rw [QI]; simp only [QH,decide_eq_true_eq]; omega)
  by_cases h8:kind=8
  · subst h8; simp <;> (rw [QI]; simp only [QH,decide_eq_true_eq]; omega)
  by_cases h9:kind=9
  · subst h9; simp <;> (rw [QI]; simp only [QH,decide_eq_true_eq]; omega)
  simp [h1,h2,h3,h4,h5,h6,h7,h8,h9]
theorem aXs (e:aJ) (hk:e.kids.length≤1048576) (hs:e.sub.length≤1048576):aGi e=some (decide (FK e.kind e.kids.length e.sub.length)):=by
  unfold aGi aJf aKd FK
  simp only [uI,aNt,dR (n:=(e.kids.length:Int)+e.sub.length) (by omega) (by omega),QB,QA]
  generalize e.kids.length=k
  generalize e.sub.length=s
  generalize e.kind=kind
  by_cases h1:kind=1
  · subst h1; simp <;> (rw [QI]; simp only [QH,decide_eq_true_eq]; omega)
  by_cases h2:kind=2
  · subst h2; simp <;> (rw [QI]; simp only [QH,decide_eq_true_eq]; omega)
  by_cases h3:kind=3
  · subst h3; simp <;> (rw [QI]; simp only [QH,decide_eq_true_eq]; omega)
  by_cases h4:kind=4
  · subst h4; simp <;> (rw [QI]; simp only [QH,decide_eq_true_eq]; omega)
  by_cases h5:kind=5
  · subst h5; simp <;> (rw [QI]; simp only [QH,decide_eq_true_eq]; omega)
  by_cases h6:kind=6
  · subst h6; simp <;> (rw [QI]; simp only [QH,decide_eq_true_eq]; omega)
  by_cases h7:kind=7
  · subst h7; simp <;> (rw [QI]; simp only [QH,decide_eq_true_eq]; omega)
  by_cases h8:kind=8
  · subst h8; simp <;> (rw [QI]; simp only [QH,decide_eq_true_eq]; omega)
  by_cases h9:kind=9
  · subst h9; simp <;> (rw [QI]; simp only [QH,decide_eq_true_eq]; omega)
  simp [h1,h2,h3,h4,h5,h6,h7,h8,h9]
def notP (e:aJ) (r:aA×Int):aA×Int:=if r.2≠0 then (⟨0,0,[]⟩,r.2) else if e.not_=true then unP 15 r.1 else (r.1,0)
def jJ:Rows→Row1×Int
  | []=>([],0)
  | r::l=>match r with
    | []=>([],4)
    | v::_=>if (jJ l).2≠0 then ([],(jJ l).2) else (v::(jJ l).1,0)
def inP (x:aA) (rows:Rows):aA×Int:=if (jJ rows).2≠0 then (⟨0,0,[]⟩,(jJ rows).2) else qQ x (jJ rows).1 (vBl false)
def aEo (e:aJ) (kids:Row1) (rows:Rows):aA×Int :=
  if e.kind=1 then (e.value,0)
  else if e.kind=3 then unP e.op kids[0]!
  else if e.kind=4 then jI e.op kids[0]! kids[1]!
  else if e.kind=5 then (vBl (!((decide (kids[0]!.kind=0))==e.not_)),0)
  else if e.kind=6 then notP e (yT kids[0]! kids[1]! kids[2]!)
  else if e.kind=7 then notP e (qQ kids[0]! (kids.drop 1) (vBl false))
  else if e.kind=9 then (vBl (decide (0<rows.length)),0)
  else notP e (inP kids[0]! rows)
theorem bE0:∀ {rows:Rows},(∀ r∈rows,∀ v∈r,okI v.num)→∀ v∈(jJ rows).1,okI v.num
  | [],_,v,hv=>by simp [jJ] at hv
  | []::l,_,v,hv=>by simp [jJ] at hv
  | (x::r)::l,h,v,hv=>by
    rw [jJ] at hv
    split at hv
    · simp at hv
    · rcases QZ.1 hv with rfl | hv
      · exact h (v::r) (by simp) v (by simp)
      · exact bE0 (fun r hr=>h r (WB _ hr)) v hv
theorem aR7 (e:aJ) {r:aA×Int} (hr:okI r.1.num):(if (!decide (r.2=0))=true then (some ((aA.mk 0 0 []),r.2)) else (if e.not_=true then ((aAg 15 r.1)>>=fun (y10:aA×Int)=>some (y10.1,y10.2)) else (some (r.1,0))))=some (notP e r):=by
  unfold notP
  rw [unI hr]
  by_cases h:r.2=0
  · by_cases h2:e.not_=true <;> simp [h,h2]
  · simp [h]
theorem aL1 (e:aJ) {r:aA×Int} (hr:okI r.1.num):aCi e r.1 r.2=some (notP e r):=by
  unfold aCi notP
  rw [unS hr]
  by_cases h:r.2=0
  · by_cases h2:e.not_=true <;> simp [h,h2]
  · simp [h]
theorem cAz {n:nW} {x:aA} {ks:Row1} (hn:n.kids=x::ks) (hx:okI x.num) (hl:n.rows.length≤1048576) (hv:∀ r∈n.rows,∀ v∈r,okI v.num):zK n [] 0=some (inP x n.rows):=by
  have key:∀ i,i≤n.rows.length→∀ acc:Row1,acc.length≤i→(∀ v∈acc,okI v.num)→zK n acc (i:Nat)=some (if (jJ (n.rows.drop i)).2≠0 then (⟨0,0,[]⟩,(jJ (n.rows.drop i)).2) else qQ x (acc++(jJ (n.rows.drop i)).1) (vBl false)):=by
    refine dZ ?_ ?_
    · intro acc ha hva
      have h0:idx n.kids 0=some x:=by rw [hn]; rfl
      rw [zK]
      simp only [bZ,QS,decide_false,QC,if_false,h0,QB,QA,(aX0 (p:=acc) (by omega) hx hva).1,QW,jJ,ne_eq,not_true_eq_false,WG]
    · intro i hi ih acc ha hva
      rw [zK,QF hi]
      simp only [bZ,hi,decide_true,if_true,bM hi,QB,QA]
      have hvi:=hv _ (QE hi)
      generalize n.rows[i]=r at hvi ⊢
      cases r with
      | nil=>simp [jJ]
      | cons v r =>
        have i0:idx (v::r) 0=some v:=rfl
        have ne:¬ (((v::r).length:Int)=0):=by simp only [QQ]; omega
        simp only [ne,decide_false,QC,if_false,i0,QA]
        rw [nP (by simp only [QD]; omega)]
        simp only [QA]
        rw [dI hi (by omega),ih _ (by simp only [QK,QD]; omega) (fun w hw=>by
          rcases QX.1 hw with hw | hw
          · exact hva w hw
          · simp at hw; subst hw; exact hvi _ (by simp))]
        rw [jJ]
        by_cases h:(jJ (n.rows.drop (i+1))).2=0
        · simp only [h,ne_eq,not_true_eq_false,if_false,QU,QV]
        · simp [h]
  have:=key 0 (by omega) [] (by simp) (by simp)
  unfold inP
  simpa using this
theorem bW4 {e:aJ} {x:aA} {ks:Row1} {rows:Rows} (hx:okI x.num) (hl:rows.length≤1048576) (hv:∀ r∈rows,∀ v∈r,okI v.num):C9 (x::ks) rows e [] 0=some (notP e (inP x rows)):=by
  have key:∀ i,i≤rows.length→∀ acc:Row1,acc.length≤i→(∀ v∈acc,okI v.num)→C9 (x::ks) rows e acc (i:Nat)=some (if (jJ (rows.drop i)).2≠0 then (⟨0,0,[]⟩,(jJ (rows.drop i)).2) else notP e (qQ x (acc++(jJ (rows.drop i)).1) (vBl false))):=by
    refine dZ ?_ ?_
    · intro acc ha hva
      have h0:idx (x::ks) 0=some x:=rfl
      rw [C9]
      simp only [bZ,QS,decide_false,QC,if_false,h0,QB,QA,(aX0 (p:=acc) (by omega) hx hva).2,aL1 e (aH3 hx hva (aG1 false)),QW,jJ,ne_eq,not_true_eq_false,WG]
      rw [show (vBl false)=⟨3,if false=true then 1 else 0,[]⟩ from rfl,aL1 e (aH3 hx hva (aG1 false))]
      rfl
    · intro i hi ih acc ha hva
      rw [C9,QF hi]
      simp only [bZ,hi,decide_true,if_true,bM hi,QB,QA]
      have hvi:=hv _ (QE hi)
      generalize rows[i]=r at hvi ⊢
      cases r with
      | nil=>simp [jJ]
      | cons v r =>
        have i0:idx (v::r) 0=some v:=rfl
        have ne:¬ (((v::r).length:Int)=0):=by simp only [QQ]; omega
        simp only [ne,decide_false,QC,if_false,i0,QA]
        rw [nP (by simp only [QD]; omega)]
        simp only [QA]
        rw [dI hi (by omega),ih _ (by simp only [QK,QD]; omega) (fun w hw=>by
          rcases QX.1 hw with hw | hw
          · exact hva w hw
          · simp at hw; subst hw; exact hvi _ (by simp))]
        rw [jJ]
        by_cases h:(jJ (rows.drop (i+1))).2=0
        · simp only [h,ne_eq,not_true_eq_false,if_false,QU,QV]
        · simp [h]
  have:=key 0 (by omega) [] (by simp) (by simp)
  have e2:notP e (inP x rows)=if (jJ rows).2≠0 then (⟨0,0,[]⟩,(jJ rows).2) else notP e (qQ x (jJ rows).1 (vBl false)):=by
    unfold inP
    by_cases h:(jJ rows).2=0
    · simp [h]
    · rw [if_pos h,if_pos h]; unfold notP; simp [h]
  rw [e2]
  simpa using this
theorem bOw {x:aA} {rows:Rows} (hx:okI x.num) (hv:∀ r∈rows,∀ v∈r,okI v.num):okI (inP x rows).1.num:=by
  unfold inP
  split
  · exact ok0
  · exact aH3 hx (bE0 hv) (aG1 false)
theorem aYb {e:aJ} {r:aA×Int} (h:okI r.1.num):okI (notP e r).1.num:=by
  unfold notP
  split
  · exact ok0
  split
  · exact bEw h
  · exact h
theorem aZ2 {k:Row1} (h:k.length=1):∃ a,k=[a]:=by
  match k,h with
  | [a],_=>exact ⟨a,rfl⟩
theorem cAj {k:Row1} (h:k.length=2):∃ a b,k=[a,b]:=by
  match k,h with
  | [a,b],_=>exact ⟨a,b,rfl⟩
theorem bQu {k:Row1} (h:k.length=3):∃ a b c,k=[a,b,c]:=by
  match k,h with
  | [a,b,c],_=>exact ⟨a,b,c,rfl⟩
theorem bD9 {e:aJ} {env:Rows} {kids:Row1} {rows:Rows} {s:Nat} (hf:FK e.kind kids.length s) (h2:e.kind≠2) (hev:okI e.value.num) (hk:∀ v∈kids,okI v.num) (hl:rows.length≤1048576) (hv:∀ r∈rows,∀ v∈r,okI v.num) :
    aI8 (nW.mk e.kind e.op e.not_ e.value kids rows)=some (aEo e kids rows)∧uZ env kids e rows=some (aEo e kids rows)∧okI (aEo e kids rows).1.num:=by
  unfold aI8 uZ aEo
  rcases hf with ⟨k,_⟩ | ⟨k,_⟩ | ⟨k,hl1,_⟩ | ⟨k,hl1,_⟩ | ⟨k,hl1,_⟩ | ⟨k,hl1,_⟩ | ⟨k,hl1,_⟩ | ⟨k,hl1,_⟩ | ⟨k,hl1,_⟩
  · simp [k,hev]
  · exact absurd k h2
  · obtain ⟨a,rfl⟩:=aZ2 hl1
    have ha:=hk a (by simp)
    simp [k,idx,unI ha,unS ha,bEw ha]
  · obtain ⟨a,b,rfl⟩:=cAj hl1
    have ha:=hk a (by simp)
    have hb:=hk b (by simp)
    simp [k,idx,aDb ha hb,aCs ha hb,yF ha hb]
  · obtain ⟨a,rfl⟩:=aZ2 hl1
    simp only [k,idx,aA9,wO,vBl]
    refine ⟨rfl,rfl,?_⟩
    exact aNi _
  · obtain ⟨a,b,c,rfl⟩:=bQu hl1
    have ha:=hk a (by simp)
    have hb:=hk b (by simp)
    have hc:=hk c (by simp)
    have ni:=aR7 e (r:=yT a b c) (aWd ha hb hc)
    have ns:=aL1 e (r:=yT a b c) (aWd ha hb hc)
    unfold aDw
    simp [k,idx,bTn ha hb hc,bLe ha hb hc,ns,aYb (e:=e) (aWd ha hb hc)]
    simpa using ni
  · obtain ⟨a,ks,rfl⟩:∃ a ks,kids=a::ks:=by
      cases kids with
      | nil=>simp at hl1
      | cons a ks=>exact ⟨a,ks,rfl⟩
    have ha:=hk a (by simp)
    have hks:∀ v∈ks,okI v.num:=fun v hv=>hk v (by simp [hv])
    have hlk:ks.length≤1048576:=by simp at hl1; omega
    have w:=aX0 hlk ha hks
    have wo:okI (qQ a ks (vBl false)).1.num:=aH3 ha hks (aG1 false)
    have ni:=aR7 e wo
    have ns:=aL1 e wo
    have sb:iM (a::ks) 1 ((a::ks).length:Int)=some ks:=by
      have:=aRb (l:=a::ks) (n:=1) (by simp)
      simpa using this
    have i0:idx (a::ks) 0=some a:=rfl
    unfold aDw
    simp only [k,i0,sb,w.1,w.2,ns,QB,QA,show ¬ ((7:Int)=1) by decide,show ¬ ((7:Int)=2) by decide,show ¬ ((7:Int)=3) by decide,show ¬ ((7:Int)=4) by decide,show ¬ ((7:Int)=5) by decide,show ¬ ((7:Int)=6) by decide,show ¬ ((7:Int)=9) by decide,decide_false,decide_true,QC,if_false,if_true]
    exact ⟨ni,rfl,aYb wo⟩
  · obtain ⟨a,rfl⟩:=aZ2 hl1
    have ha:=hk a (by simp)
    have io:=bOw (rows:=rows) ha hv
    have ni:=aR7 e io
    have si:=cAz (n:=nW.mk e.kind e.op e.not_ e.value [a] rows) (x:=a) (ks:=[]) rfl ha hl hv
    have ss:=bW4 (e:=e) (x:=a) (ks:=[]) ha hl hv
    unfold aDw
    rw [k] at si
    simp only [k,si,ss,QB,QA,show ¬ ((8:Int)=1) by decide,show ¬ ((8:Int)=2) by decide,show ¬ ((8:Int)=3) by decide,show ¬ ((8:Int)=4) by decide,show ¬ ((8:Int)=5) by decide,show ¬ ((8:Int)=6) by decide,show ¬ ((8:Int)=7) by decide,show ¬ ((8:Int)=9) by decide,decide_false,decide_true,QC,if_false,if_true]
    exact ⟨ni,rfl,aYb io⟩
  · simp only [k,aA9,wO,QB,QA,show ¬ ((9:Int)=1) by decide,show ¬ ((9:Int)=2) by decide,show ¬ ((9:Int)=3) by decide,show ¬ ((9:Int)=4) by decide,show ¬ ((9:Int)=5) by decide,show ¬ ((9:Int)=6) by decide,show ¬ ((9:Int)=7) by decide,decide_false,decide_true,QC,if_false,if_true]
    have e1:decide ((0:Int)<(rows.length:Int))=decide (0<rows.length):=by simp
    rw [e1]
    exact ⟨rfl,rfl,aNi _⟩
structure Closed (N R:Nat) (GE:aJ→Prop) (GP:aP→Prop):Prop where
  val:∀ e,GE e→okI e.value.num
  kid:∀ e,GE e→∀ k∈e.kids,GE k
  sub:∀ e,GE e→∀ p∈e.sub,GP p
  plan:∀ p,GP p→aLt N R p
  part:∀ p,GP p→∀ e∈iE p,GE e
  len:∀ e,GE e→e.kids.length≤1048576∧e.sub.length≤1048576
  ze:∀ e,GE e→bG e≤1048576
  zp:∀ p,GP p→eF p≤1048576
def aIt (env:Rows):Prop:=∀ r∈env,∀ v∈r,okI v.num
def fC (c:aQ) (d:GDb) (env:Rows) (e:aJ):Gf:=fun r=>(fO c d (r::env) e).getD (⟨0,0,[]⟩,0)
def EvE (c:aQ) (d:GDb) (env:Rows) (e:aJ):Prop:=∃ r,vC c d env e=some r∧fO c d env e=some r∧okI r.1.num
def EvP (c:aQ) (d:GDb) (env:Rows) (p:aP):Prop:=∃ r,xP c d env p=some r∧uL c d env p=some r∧(∀ x∈r.1,∀ v∈x,okI v.num)∧r.1.length≤1048576
theorem aHh:∀ {l o:Rows} {x:Row1},x∈fV o l→x∈o∨x∈l
  | [],o,x,h=>by rw [fV] at h; exact .inl h
  | y::l,o,x,h=>by
    rw [fV] at h
    split at h
    · rcases aHh h with h | h
      · exact .inl h
      · exact .inr (WB _ h)
    · rcases aHh h with h | h
      · rcases QX.1 h with h | h
        · exact .inl h
        · simp at h; subst h; exact .inr (by simp)
      · exact .inr (WB _ h)
theorem bVz {dis:Bool} {lim:Int} {r:Rows}:(∀ x∈uQ dis lim r,x∈r)∧(uQ dis lim r).length≤r.length:=by
  have key:(∀ x∈(if dis=true then fV [] r else r),x∈r)∧(if dis=true then fV [] r else r).length≤r.length:=by
    split
    · refine ⟨fun x hx=>?_,by have:=aAc r []; simpa using this⟩
      rcases aHh hx with h | h
      · simp at h
      · exact h
    · exact ⟨fun x hx=>hx,WK _⟩
  unfold uQ
  generalize (if dis=true then fV [] r else r)=q at key ⊢
  unfold xM
  split
  · refine ⟨fun x hx=>key.1 x ((WU _ _) hx),?_⟩
    rw [WV]
    exact QJ (Nat.min_le_right _ _) key.2
  · exact key
section
variable {N R:Nat} {GE:aJ→Prop} {GP:aP→Prop} {c:aQ} {d:GDb}
theorem bRe (hC:Closed N R GE GP) (hS:aAl N) (hN:N≤1048576) (hd:DbB R d) (hdl:d.tables.length≤1048576) {env:Rows} (_:aIt env) (hl:env.length≤1048576) {p:aP} (hp:GP p)
    (H:∀ e∈iE p,∀ r,fJ 3 r→EvE c d (r::env) e):EvP c d env p∧xP c d env p=some (uB d (fC c d env) p):=by
  have hs:∀ e∈iE p,∀ r,fJ 3 r→fO c d (r::env) e=some (fC c d env e r)∧vC c d (r::env) e=some (fC c d env e r)∧okI (fC c d env e r).1.num:=by
    intro e he r hr
    obtain ⟨x,h1,h2,h3⟩:=H e he r hr
    unfold fC
    rw [h2]
    exact ⟨rfl,h1,h3⟩
  have hi:∀ e∈iE p,∀ r,fJ 3 r→nM r c d env e=some (fC c d env e r):=by
    intro e he r hr
    rw [nM,nP (by simp only [QD]; omega)]
    simp only [QV,QB,QA,(hs e he r hr).2.1]
  have pI:=bXk hS hN hd (hC.plan p hp) hi
  have pS:=bUs (c:=c) hN hd hdl (by omega) (hC.plan p hp) fun e he r hr=>(hs e he r hr).1
  refine ⟨⟨_,pI,pS,?_⟩,pI⟩
  unfold uB
  split
  · simp
  unfold aB0
  split
  · simp
  split
  · simp
  split
  · simp
  split
  · simp
  rename_i hg _ _ _ _
  dsimp only
  obtain ⟨e1,e2⟩:=bVz (dis:=(jO d (fC c d env) p).dis) (lim:=(jO d (fC c d env) p).lim) (r:=(mU (jO d (fC c d env) p).is (jF (jO d (fC c d env) p).ks (whE (jO d (fC c d env) p).wh (joE (jO d (fC c d env) p).st [[]]).1).1).1).1)
  have hP:=hC.plan p hp
  have hT:mV d p.tables=true:=by
    cases h:mV d p.tables with
    | true=>rfl
    | false=>exact absurd (.inr h) hg
  have h1:p.on_.length=p.tables.length:=Classical.not_not.1 fun h=>hg (.inl (.inr h))
  have jm:∀ s∈Y9 d (fC c d env) p,∃ x∈d.tables,x.rows=s.1:=by
    intro s hs
    obtain ⟨a,ha,b,_,rfl⟩:=aNs _ _ _ _ hs
    exact aOf hT (WT ha)
  have js:(Y9 d (fC c d env) p).length=p.tables.length:=by simp [Y9,h1]
  have jl:=aKo R (Y9 d (fC c d env) p) [[]] 1 (fun s hs=>by obtain ⟨x,hx,e⟩:=jm s hs; rw [← e]; exact hd.rows x hx) (by simp)
  have jB:=aPa (Y9 d (fC c d env) p) [[]] 0 (fun s hs=>by obtain ⟨x,hx,e⟩:=jm s hs; rw [← e]; exact hd.row x hx) (fun r hr=>by simp at hr; subst hr; exact ⟨by simp,by simp⟩)
  rw [js,XB] at jl
  rw [js,XC] at jB
  have RN:=hP.RN
  have wl:=aE7 (jO d (fC c d env) p).wh (joE (Y9 d (fC c d env) p) [[]]).1
  obtain ⟨sl,sm⟩:=bG2 (ks:=(jO d (fC c d env) p).ks) (r:=(whE (jO d (fC c d env) p).wh (joE (jO d (fC c d env) p).st [[]]).1).1)
  have ml:=aD6 (g:=fun row=>bF (fun g:Gf=>g row) (jO d (fC c d env) p).is) (jF (jO d (fC c d env) p).ks (whE (jO d (fC c d env) p).wh (joE (jO d (fC c d env) p).st [[]]).1).1).1
  constructor
  · intro x hx v hv
    have hx:=e1 x hx
    obtain ⟨r,hr,rfl,_⟩:=aAb hx
    obtain ⟨g,hg,rfl,_⟩:=aAb hv
    obtain ⟨e,he,rfl⟩:=WR.1 hg
    have hr3:fJ 3 r:=aA8 hP.t3 (jB r ((O1 _ _).subset (sm r hr)))
    exact (hs e (by unfold iE; simp [he]) r hr3).2.2
  · refine QJ e2 (QJ ml (QJ sl (QJ wl ?_)))
    exact QJ (QJ jl RN) hN
theorem cBq {α:Type} {l:List α} {i:Int} (h0:0≤i) (h1:i<(l.length:Int)):∃ x,idx l i=some x∧x∈l:=by
  obtain ⟨n,rfl⟩:∃ n:Nat,i=n:=⟨i.toNat,by omega⟩
  have hn:n<l.length:=by omega
  exact ⟨l[n],bM hn,QE hn⟩
def cellP (env:Rows) (e:aJ):aA×Int :=
  if 0≤e.up∧e.up<(env.length:Int)∧0≤e.at_∧e.at_<((env[e.up.toNat]!).length:Int) then ((env[e.up.toNat]!)[e.at_.toNat]!,0) else (⟨0,0,[]⟩,4)
theorem bJ5 {env:Rows} {e:aJ} (h2:e.kind=2) (hs:FK e.kind e.kids.length e.sub.length):vC c d env e=some (cellP env e):=by
  rw [vC,aWx]
  rw [h2] at hs
  simp only [hs,decide_true,QG,QC,if_false,h2,if_true,QB,QA,orB]
  unfold cellP
  by_cases a:e.up<0
  · have:¬ 0≤e.up:=by omega
    simp [a,this]
  by_cases b:(env.length:Int)≤e.up
  · have:¬ e.up<(env.length:Int):=by omega
    simp [b,this]
  by_cases g:e.at_<0
  · have:¬ 0≤e.at_:=by omega
    simp [g,this]
  obtain ⟨n,hn⟩:∃ n:Nat,e.up=n:=⟨e.up.toNat,by omega⟩
  obtain ⟨m,hm⟩:∃ m:Nat,e.at_=m:=⟨e.at_.toNat,by omega⟩
  have hnl:n<env.length:=by omega
  rw [hn,hm]
  have e1:=getElem!_pos env n hnl
  have n1:¬ ((n:Int)<0):=by omega
  have n2:¬ ((env.length:Int)≤n):=by omega
  have n3:¬ ((m:Int)<0):=by omega
  simp only [n1,n2,n3,decide_false,QY,WE,beq_self_eq_true,QR,if_true,bM hnl,QA,WI,e1]
  by_cases q:(env[n].length:Int)≤(m:Int)
  · have:¬ (m:Int)<(env[n].length:Int):=by omega
    simp [q,this]
  · have hml:m<env[n].length:=by omega
    have e2:=getElem!_pos env[n] m hml
    simp only [q,decide_false,QY,QC,if_false,bM hml,QA]
    have hc:(0:Int)≤n∧(n:Int)<(env.length:Int)∧(0:Int)≤m∧(m:Int)<(env[n].length:Int):=⟨by omega,by omega,by omega,by omega⟩
    rw [e2]
    simp only [hc,and_self,if_true]
theorem bO0 {env:Rows} {e:aJ} (h2:e.kind=2) (hl:env.length≤1048576) (hr:∀ r∈env,r.length≤1048576):uZ env [] e []=some (cellP env e):=by
  unfold uZ cellP
  simp only [h2,show ¬ ((2:Int)=1) by decide,decide_false,decide_true,QC,if_false,if_true,aNt,QB,QA,orB]
  rw [dR (n:=(env.length:Int) - 1) (by omega) (by omega)]
  by_cases a:0≤e.up
  case neg=>simp [a]
  by_cases b:e.up<(env.length:Int)
  case neg =>
    have:¬ e.up≤(env.length:Int) - 1:=by omega
    simp [b,this]
  have b':e.up≤(env.length:Int) - 1:=by omega
  obtain ⟨n,hn⟩:∃ n:Nat,e.up=n:=⟨e.up.toNat,by omega⟩
  have hnl:n<env.length:=by omega
  have e1:=getElem!_pos env n hnl
  rw [hn] at a b b' ⊢
  have hrl:=hr _ (QE hnl)
  simp only [a,b,b',decide_true,QR,QG,beq_self_eq_true,if_true,bM hnl,QA,WI,e1,WE]
  rw [dR (n:=(env[n].length:Int) - 1) (by omega) (by omega)]
  by_cases g:0≤e.at_
  case neg=>simp [g]
  by_cases q:e.at_<(env[n].length:Int)
  case neg =>
    have:¬ e.at_≤(env[n].length:Int) - 1:=by omega
    simp [q,this]
  have q':e.at_≤(env[n].length:Int) - 1:=by omega
  obtain ⟨m,hm⟩:∃ m:Nat,e.at_=m:=⟨e.at_.toNat,by omega⟩
  rw [hm] at g q q' ⊢
  have hml:m<env[n].length:=by omega
  have e2:=getElem!_pos env[n] m hml
  simp only [g,q',decide_true,QR,QG,QC,if_false,bM hml,QA]
  have hc:(0:Int)≤n∧(n:Int)<(env.length:Int)∧(0:Int)≤m∧(m:Int)<(env[n].length:Int):=⟨by omega,by omega,by omega,by omega⟩
  rw [WI,e2]
  simp only [hc,and_self,if_true]
theorem cAs {env:Rows} {e:aJ} (hB:aIt env):okI (cellP env e).1.num:=by
  unfold cellP
  split
  · rename_i h
    have hn:e.up.toNat<env.length:=by omega
    rw [getElem!_pos env _ hn] at h ⊢
    have hm:e.at_.toNat<env[e.up.toNat].length:=by omega
    rw [getElem!_pos env[e.up.toNat] _ hm]
    exact hB _ (QE hn) _ (QE hm)
  · exact ok0
end
section
variable {N R:Nat} {GE:aJ→Prop} {GP:aP→Prop} {c:aQ} {d:GDb}
theorem bNy {env:Rows} {e:aJ} (hk:e.kids.length≤1048576) (H:∀ k∈e.kids,EvE c d env k) :
    aAi env e c d 0 []=if (bF (fun k=>(fO c d env k).getD (⟨0,0,[]⟩,0)) e.kids).2≠0 then some (⟨0,0,[]⟩,(bF (fun k=>(fO c d env k).getD (⟨0,0,[]⟩,0)) e.kids).2) else yR env e c d (bF (fun k=>(fO c d env k).getD (⟨0,0,[]⟩,0)) e.kids).1 0 []:=by
  have m:=aB1 (p:=e.kids) (b:=32) (g:=fun k=>(fO c d env k).getD (⟨0,0,[]⟩,0)) (F:=fun k=>vC c d env k)
    (L:=fun acc j=>aAi env e c d j acc) (E:=fun x=>((⟨0,0,[]⟩:aA),x)) (K:=fun acc=>yR env e c d acc 0 [])
    hk (by omega) (fun k hk=>by obtain ⟨r,h1,h2,_⟩:=H k hk; rw [h1,h2]; rfl) (fun j acc=>by rw [aAi]) [] (by simp)
  simpa using m
theorem bCf {env:Rows} {e:aJ} (hk:e.kids.length≤1048576) (H:∀ k∈e.kids,EvE c d env k) :
    aCb env c d e [] 0=if (bF (fun k=>(fO c d env k).getD (⟨0,0,[]⟩,0)) e.kids).2≠0 then some (⟨0,0,[]⟩,(bF (fun k=>(fO c d env k).getD (⟨0,0,[]⟩,0)) e.kids).2)
    else (if (decide (0<(e.sub.length:Int)))=true then ((idx e.sub 0)>>=fun (y5:aP)=>(uL c d env y5)>>=fun (y6:(List (List aA))×Int)=>if (!decide (y6.2=0))=true then (some ((aA.mk 0 0 []),y6.2)) else (uZ env (bF (fun k=>(fO c d env k).getD (⟨0,0,[]⟩,0)) e.kids).1 e y6.1)) else (uZ env (bF (fun k=>(fO c d env k).getD (⟨0,0,[]⟩,0)) e.kids).1 e ([]:List (List aA)))):=by
  have m:=aB1 (p:=e.kids) (b:=32) (g:=fun k=>(fO c d env k).getD (⟨0,0,[]⟩,0)) (F:=fun k=>fO c d env k)
    (L:=fun acc j=>aCb env c d e acc j) (E:=fun x=>((⟨0,0,[]⟩:aA),x)) (K:=fun acc=>(if (decide (0<(e.sub.length:Int)))=true then ((idx e.sub 0)>>=fun (y5:aP)=>(uL c d env y5)>>=fun (y6:(List (List aA))×Int)=>if (!decide (y6.2=0))=true then (some ((aA.mk 0 0 []),y6.2)) else (uZ env acc e y6.1)) else (uZ env acc e ([]:List (List aA)))))
    hk (by omega) (fun k hk=>by obtain ⟨r,_,h2,_⟩:=H k hk; rw [h2]; rfl) (fun j acc=>by rw [aCb]) [] (by simp)
  simpa using m
def vM (c:aQ) (d:GDb) (env:Rows) (e:aJ):Row1×Int:=bF (fun k=>(fO c d env k).getD (⟨0,0,[]⟩,0)) e.kids
def aLw (c:aQ) (d:GDb) (env:Rows) (e:aJ):aA×Int :=
  if ¬ FK e.kind e.kids.length e.sub.length then (⟨0,0,[]⟩,4)
  else if e.kind=2 then cellP env e
  else if (vM c d env e).2≠0 then (⟨0,0,[]⟩,(vM c d env e).2)
  else match e.sub with
    | []=>aEo e (vM c d env e).1 []
    | p::_=>if ((uL c d env p).getD ([],0)).2≠0 then (⟨0,0,[]⟩,((uL c d env p).getD ([],0)).2) else aEo e (vM c d env e).1 ((uL c d env p).getD ([],0)).1
theorem bLy (hC:Closed N R GE GP) {env:Rows} (hB:aIt env) (hl:env.length≤1048576) (hr:∀ r∈env,r.length≤1048576) {e:aJ} (he:GE e) (HK:∀ k∈e.kids,EvE c d env k) (HS:∀ p∈e.sub,EvP c d env p) :
    vC c d env e=some (aLw c d env e)∧fO c d env e=some (aLw c d env e)∧okI (aLw c d env e).1.num:=by
  obtain ⟨kl,sl⟩:=hC.len e he
  unfold aLw
  by_cases hf:FK e.kind e.kids.length e.sub.length
  case neg =>
    rw [vC,aWx,fO,aXs e kl sl]
    simp [hf]; exact ok0
  rw [if_neg (by simp [hf])]
  by_cases h2:e.kind=2
  · rw [if_pos h2]
    refine ⟨bJ5 h2 hf,?_,cAs hB⟩
    have hk0:e.kids=[]:=by
      rcases hf with ⟨k,_⟩ | ⟨k,h,_⟩ | ⟨k,_⟩ | ⟨k,_⟩ | ⟨k,_⟩ | ⟨k,_⟩ | ⟨k,_⟩ | ⟨k,_⟩ | ⟨k,_⟩ <;> first | exact WF h | omega
    have hs0:e.sub=[]:=by
      rcases hf with ⟨k,_⟩ | ⟨k,_,h⟩ | ⟨k,_⟩ | ⟨k,_⟩ | ⟨k,_⟩ | ⟨k,_⟩ | ⟨k,_⟩ | ⟨k,_⟩ | ⟨k,_⟩ <;> first | exact WF h | omega
    rw [fO,aXs e kl sl]
    simp only [hf,decide_true,QG,QC,if_false,QB,QA]
    rw [bCf kl HK,hk0,hs0]
    simp only [bF,ne_eq,not_true_eq_false,if_false,QT]
    rw [if_neg (by simp)]
    exact bO0 h2 hl hr
  rw [if_neg h2,vC,aWx,fO,aXs e kl sl]
  simp only [hf,h2,decide_true,decide_false,QG,QC,if_false,QB,QA]
  rw [bNy kl HK,bCf kl HK]
  have hkv:∀ v∈(vM c d env e).1,okI v.num:=by
    intro v hv
    obtain ⟨k,hk,rfl,_⟩:=aAb hv
    obtain ⟨r,_,h2,h3⟩:=HK k hk
    rw [h2]; exact h3
  have hkl:=aI3 (g:=fun k=>(fO c d env k).getD (⟨0,0,[]⟩,0)) (l:=e.kids)
  show (if (vM c d env e).2≠0 then _ else _)=_∧(if (vM c d env e).2≠0 then _ else _)=_∧_
  change (vM c d env e).2=0→(vM c d env e).1.length=e.kids.length at hkl
  change _=_∧_=_∧_
  by_cases h0:(vM c d env e).2=0
  case neg =>
    rw [if_pos h0,if_pos h0,if_pos h0]
    exact ⟨rfl,rfl,ok0⟩
  rw [if_neg (by simp [h0]),if_neg (by simp [h0]),if_neg (by simp [h0])]
  have hkl:=hkl h0
  rw [← hkl] at hf
  have hev:=hC.val e he
  have fold:(bF (fun k=>(fO c d env k).getD (⟨0,0,[]⟩,0)) e.kids)=vM c d env e:=rfl
  rw [fold]
  generalize vM c d env e=K at hkv hf ⊢
  match hs:e.sub with
  | [] =>
    have n:=bD9 (env:=env) (rows:=[]) hf h2 hev hkv (by simp) (by simp)
    rw [yR,hs]
    simp only [QT,n.1,QB,QA,show ((0:Nat):Int)=0 from rfl,WY,decide_false,QC,if_false]
    exact ⟨trivial,n.2.1,n.2.2⟩
  | [p] =>
    obtain ⟨r,p1,p2,p3,p4⟩:=HS p (by rw [hs]; simp)
    have i0:idx [p] 0=some p:=rfl
    rw [yR,hs]
    simp only [QD,i0,p1,p2,QB,QA,Option.getD_some,show decide ((0:Int)<((1:Nat):Int))=true from rfl,if_true]
    by_cases hz:r.2=0
    case neg=>simp [hz]; exact ok0
    have n:=bD9 (env:=env) (rows:=r.1) hf h2 hev hkv p4 p3
    simp only [hz,decide_true,QG,QC,if_false,ne_eq,not_true_eq_false]
    rw [yR,hs]
    simp only [QD,show QM .i64 (0+1)=1 by decide,show decide ((1:Int)<((1:Nat):Int))=false from rfl,QC,if_false,n.1,QB,QA]
    exact ⟨trivial,n.2.1,n.2.2⟩
  | p::q::l =>
    exfalso
    rw [hs] at hf
    simp only [FK,QQ] at hf
    omega
theorem bMd (hC:Closed N R GE GP) (hS:aAl N) (hN:N≤1048576) (hd:DbB R d) (hdl:d.tables.length≤1048576):∀ n:Nat,
    (∀ (e:aJ) (env:Rows),bG e<n→GE e→aIt env→(∀ r∈env,r.length≤1048576)→env.length+n≤1048576→EvE c d env e) ∧
    (∀ (p:aP) (env:Rows),eF p<n→GP p→aIt env→(∀ r∈env,r.length≤1048576)→env.length+n≤1048576→EvP c d env p∧xP c d env p=some (uB d (fC c d env) p)):=by
  intro n
  induction n with
  | zero=>exact ⟨fun e env h=>by omega,fun p env h=>by omega⟩
  | succ n ih =>
    constructor
    · intro e env hz he hB hr hl
      have:=bLy (c:=c) (d:=d) hC hB (by omega) hr he (fun k hk=>by
        have:=aJo hk
        have:0<e.kids.length:=WH hk
        exact ih.1 k env (by omega) (hC.kid e he k hk) hB hr (by omega)) (fun p hp=>by
        have:=aGh hp
        have:0<e.sub.length:=WH hp
        exact (ih.2 p env (by omega) (hC.sub e he p hp) hB hr (by omega)).1)
      exact ⟨_,this⟩
    · intro p env hz hp hB hr hl
      refine bRe hC hS hN hd hdl hB (by omega) hp fun e he r hrb=>?_
      have:=aGs he
      refine ih.1 e (r::env) (by omega) (hC.part p hp e he) (fun x hx=>?_) (fun x hx=>?_) (by simp only [QQ]; omega)
      · rcases QZ.1 hx with rfl | hx
        · exact hrb.2
        · exact hB x hx
      · rcases QZ.1 hx with rfl | hx
        · have:=hrb.1; omega
        · exact hr x hx
end
theorem bWn:kX []:=fun r hr=>by simp at hr
theorem CR.small {c:aQ} (h:CR c):wQ c:=⟨by have:=h.1; omega,fun t ht=>by have:=(h.2 t ht).1; omega⟩
theorem cAf (p:List Int) (hp:p.length≤1048576):Yes (aIi p 4) fun r=>0<r∧r≤4:=by
  unfold aIi
  have e:Int.tdiv (p.length:Int) 20=(p.length:Int) / 20:=Int.tdiv_eq_ediv_of_nonneg (by omega)
  rw [e,dR (n:=(p.length:Int) / 20) (by omega) (by omega),dR (by omega) (by omega)]
  refine Yes.ite (fun _=>Yes.some ⟨by omega,by omega⟩) fun h=>Yes.some ⟨by omega,by simp at h; omega⟩
theorem bQh {l:List aJ}:∀ {k:Nat} {x y:aJ} {b:Nat},l[k]?=some x→bG y≤bG x+b→zL bG (l.set k y)≤zL bG l+b:=by
  induction l with
  | nil=>intro k x y b h; simp at h
  | cons z l ih =>
    intro k x y b h hb
    cases k with
    | zero=>simp at h; subst h; simp only [List.set_cons_zero,zL,QQ,QO,WD]; omega
    | succ k =>
      simp at h
      have:=ih (k:=k) h hb
      simp only [WW,zL,QQ,QO,WD] at this ⊢; omega
theorem bZo (y:aA×aL) (hy:okV 4 y):∀ n (t:List UInt8) (b:List Int) (i h:Int),400≤n+t.length→t.length≤810→okCur ⟨b,i,h⟩→Yes (P5 y t b i h) (okV 810):=by
  obtain ⟨⟨h1,h2,_⟩,_,_⟩:=hy
  intro n
  have fin:∀ (t:List UInt8) (b:List Int) (i h:Int),t.length≤810→okCur ⟨b,i,h⟩→Yes (wI y.1.kind y.1.num t b i h) (okV 810):=fun t b i h ht ho=>by
    unfold wI
    exact Yes.some (okV_mk h1 h2 ht (by omega) ho)
  induction n with
  | zero =>
    intro t b i h ht hl ho
    rw [P5]
    refine Yes.bind (kG _ _ ho) fun r k=>Yes.bind (Q:=fun q=>q=false) ⟨_,rfl,by split <;> simp; omega⟩ fun q hq=>?_
    subst hq
    exact fin _ _ _ _ hl k
  | succ n ih =>
    intro t b i h ht hl ho
    rw [P5]
    refine Yes.bind (kG _ _ ho) fun r k=>Yes.bind (Q:=fun q=>q=true→t.length<400) ⟨_,rfl,fun hq=>by cases hr:r.1 <;> simp [hr] at hq; omega⟩ fun q hq=>Yes.ite (fun hq2=>?_) fun _=>fin _ _ _ _ hl k
    have:=hq hq2
    refine Yes.bind (Q:=fun z=>z=t++t) ⟨_,aOt (by omega),rfl⟩ fun z hz=>?_
    subst hz
    refine Yes.bind (Q:=fun z=>z=(t++t)++[48,49,50,51,52,53,54,55,56,57]) ⟨_,aOt (by simp; omega),rfl⟩ fun z hz=>?_
    subst hz
    exact ih _ _ _ _ (by simp; omega) (by simp; omega) k
theorem bYl (c:aL) (h:okCur c):Yes (aG4 c) (okV 810):=by
  unfold aG4
  refine Yes.bind (bRl _ h) fun y hy=>?_
  have hy':=hy
  obtain ⟨⟨h1,h2,h3⟩,h4,k⟩:=hy
  refine Yes.bind (jW _ _ k) fun r ⟨_,_,k⟩=>Yes.ite (fun _=>?_) fun _=>Yes.ite (fun _=>?_) fun _=>Yes.ite (fun _=>?_) fun _=>?_
  · refine Yes.bind (jW _ _ k) fun r ⟨a0,a1,k⟩=>?_
    have:=a1 (by decide)
    unfold wI
    exact Yes.some (okV_mk (by rw [dR (by omega) (by omega)]; exact okI_small (by omega) (by omega)) h2 (by omega) (by omega) k)
  · refine Yes.bind (aBt _ k) fun r ⟨a0,k⟩=>?_
    unfold wI
    exact Yes.some (okV_mk h1 a0 (by omega) (by omega) k)
  · refine Yes.bind (aCk _ _ (by decide) k) fun r ⟨hm,k⟩=>?_
    have:∀ v∈([[120],[],[108,111,110,103]]:List (List UInt8)),v.length≤4:=by decide
    have:=this _ hm
    exact bZo y hy' 400 _ _ _ _ (by omega) (by omega) k
  · unfold wI
    exact Yes.some (okV_mk h1 h2 (by omega) (by omega) k)
theorem zP (q:aP):eF q=zTb q.tables+zL z0 q.tables+zL (zL bG) q.on_+zL bG q.where_+zL O3 q.order+zL bG q.items+zL List.length q.names:=by
  obtain ⟨a0,a1,a2,a3,a4,a5,a6,a7⟩:=q
  simp only [eF,aA5,aL9,aPb,zL]
def Ne4 (t:List Int) (o:List (List aJ)) (i:List aJ) (n:List (List UInt8)):Prop:=1≤t.length∧1≤o.length∧1≤i.length∧1≤n.length
def PZn (B:Nat) (r:aP×aL):Prop:=(eF r.1≤40+8 * B∧Ne4 r.1.tables r.1.on_ r.1.items r.1.names)∧okCur r.2
theorem cCs {B:Nat} {d:Int} {cat:aQ} (hc:rD cat) (env:List (List Int)) (hv:kX env) (hl:env.length≤1000) (types:List Int) (hty:types.length≤2) (hty1:1≤types.length)
    (H:∀ c ty env',kX env'→env'.length=env.length+1→okCur c→Yes (qE c cat env' ty d) (FZ B)) (c:aL) (h:okCur c):Yes (xO c cat env types d) (PZn B):=by
  have J4:∀ y1 (w:List aJ) n i o t b j g r,qL 1 B w→pN 2 n→qL 2 B i→qO 2 B o→t.length≤2→qK B r→Ne4 t o i n→okCur ⟨b,j,g⟩→Yes (X5 y1 w n i o t b j g r) (PZn B):=fun y1 w n i o t b j g r hw hn hi ho ht hr hne k=>by
    unfold X5 aEt
    refine Yes.bind (kG _ _ k) fun q k=>Yes.ite (fun _=>?_) fun _=>?_
    · exact Yes.bind (jW _ _ k) fun q ⟨_,_,k⟩=>Yes.some ⟨⟨aPd ht ho hw hr hi hn,hne⟩,k⟩
    · exact Yes.some ⟨⟨aPd ht ho hw hr hi hn,hne⟩,k⟩
  have J3:∀ env' y1 n i o t b j g (w:List aJ),kX env'→env'.length=env.length+1→qL 1 B w→pN 2 n→qL 2 B i→qO 2 B o→t.length≤2→Ne4 t o i n→okCur ⟨b,j,g⟩→Yes (I1 d env' cat y1 n i (o,t,b,j,g,w)) (PZn B):=fun env' y1 n i o t b j g w he hel hw hn hi ho ht hne k=>by
    rw [I1]
    refine Yes.bind (kG _ _ k) fun q k=>Yes.ite (fun _=>?_) fun _=>?_
    · refine Yes.bind (jW _ _ k) fun q ⟨_,_,k⟩=>Yes.bind (H _ _ _ he hel k) fun q ⟨hq,k⟩=>Yes.bind (kG _ _ k) fun q2 k=>Yes.bind (lH (by simp)) fun z hz=>?_
      subst hz
      exact J4 _ _ _ _ _ _ _ _ _ _ hw hn hi ho ht ⟨by simp,mem1 (p:=fun (k:cZ)=>bG k.expr≤B) hq⟩ hne k
    · exact J4 _ _ _ _ _ _ _ _ _ _ hw hn hi ho ht ⟨by simp,by simp⟩ hne k
  have L2:∀ env' y1 o t,kX env'→env'.length=env.length+1→qO 2 B o→t.length≤2→1≤t.length∧1≤o.length→∀ x,x≤types.length→∀ b j g n i,pN x n→qL x B i→x≤n.length∧x≤i.length→okCur ⟨b,j,g⟩→Yes (xL types d env' cat y1 o t ((x:Nat),b,j,g,n,i)) (PZn B):=by
    intro env' y1 o t he hel ho ht hto
    refine dZ ?_ ?_
    · intro b j g n i hn hi hx1 k
      have hne:Ne4 t o i n:=⟨hto.1,hto.2,by omega,by omega⟩
      rw [xL,if_neg (by simp)]
      have hn2:pN 2 n:=⟨by have:=hn.1; omega,hn.2⟩
      have hi2:qL 2 B i:=⟨by have:=hi.1; omega,hi.2⟩
      refine Yes.bind (kG _ _ k) fun q k=>Yes.ite (fun _=>?_) fun _=>?_
      · exact Yes.bind (H _ _ _ he hel k) fun q ⟨hq,k⟩=>J3 _ _ _ _ _ _ _ _ _ _ he hel ⟨by simp,mem1 hq⟩ hn2 hi2 ho ht hne k
      · exact J3 _ _ _ _ _ _ _ _ _ _ he hel ⟨by simp,by simp⟩ hn2 hi2 ho ht hne k
    · intro x hx ih b j g n i hn hi hx1 k
      rw [xL,if_pos (by simpa using hx)]
      have l1:=hn.1
      have l2:=hi.1
      simp only [bM hx,dI hx (by omega),QB,QA]
      refine Yes.bind (H _ _ _ he hel k) fun q ⟨hq,k⟩=>Yes.bind (lH (by simp; omega)) fun z hz=>Yes.bind (aCk _ _ (by decide) k) fun s ⟨hs,k⟩=>Yes.bind (lH (by simp; omega)) fun z2 hz2=>?_
      subst hz hz2
      have hs8:s.1.length≤8:=by
        have:∀ v∈([[97],[98],[99],[120],[121,32,122],[99,49]]:List (List UInt8)),v.length≤8:=by decide
        exact this _ hs
      exact ih _ _ _ _ _ ⟨by simp; omega,sV hn.2 hs8⟩ ⟨by simp; omega,sV hi.2 hq⟩ ⟨by simp; omega,by simp; omega⟩ k
  have L0:∀ (y2:Int×aL) y1,0≤y2.1→y2.1<2→∀ (m:Nat) (x:Int) b j g o (t:List Int),2≤m+x→0≤x→x≤2→qO x B o→(t.length:Int)≤x→x≤(o.length:Int)∧x≤(t.length:Int)→okCur ⟨b,j,g⟩→Yes (vG env types d y2 cat y1 (x,b,j,g,o,t)) (PZn B):=by
    intro y2 y1 y0 yl m
    have e0:QM .i64 (1+y2.1)=1+y2.1:=dR (by omega) (by omega)
    have fin:∀ (x:Int) b j g o (t:List Int),¬ x<1+y2.1→x≤2→qO x B o→(t.length:Int)≤x→x≤(o.length:Int)∧x≤(t.length:Int)→okCur ⟨b,j,g⟩→Yes (vG env types d y2 cat y1 (x,b,j,g,o,t)) (PZn B):=by
      intro x b j g o t hx h2 ho ht hx1 k
      rw [vG]
      dsimp only
      rw [e0,if_neg (by simpa using hx),(aB2 cat hc t (by omega)).2]
      simp only [QB,QA]
      rw [(aEq _ env (by omega)).2]
      simp only [QA]
      exact L2 _ y1 o t (aOb hc hv (by omega)) (by simp) ⟨by have:=ho.1; omega,ho.2⟩ (by omega) (by omega) 0 (by omega) _ _ _ _ _ ⟨by simp,by simp⟩ ⟨by simp,by simp⟩ (by simp) k
    induction m with
    | zero=>intro x b j g o t h1 h2 h3 ho ht hx1 k; exact fin x b j g o t (by omega) h3 ho ht hx1 k
    | succ m ih =>
      intro x b j g o t h1 h2 h3 ho ht hx1 k
      by_cases hx:x<1+y2.1
      · rw [vG]
        dsimp only
        rw [e0,if_pos (by simpa using hx)]
        have l1:=ho.1
        have J1:∀ (q:Int) (w:List aJ) b j g,w.length≤1→(∀ y∈w,bG y≤B)→okCur ⟨b,j,g⟩→Yes (R8 env types d y2 x cat y1 (t++[q],o,b,j,g,w)) (PZn B):=fun q w b j g hw1 hw2 k=>by
          rw [R8]
          refine Yes.bind (lH (by simp; omega)) fun z hz=>?_
          subst hz
          rw [dR (by omega) (by omega)]
          exact ih _ _ _ _ _ _ (by omega) (by omega) (by omega) ⟨by simp; omega,sV ho.2 ⟨hw1,hw2⟩⟩ (by simp; omega) (by simp; omega) k
        refine Yes.bind (jW _ _ k) fun q ⟨q0,q1,k⟩=>Yes.bind (lH (by simp; omega)) fun z hz=>?_
        subst hz
        rw [(aB2 cat hc (t++[q.1]) (by simp; omega)).2]
        simp only [QB,QA]
        refine Yes.bind (aFn _ _ _ _ k) fun q2 k=>?_
        refine Yes.ite (fun _=>?_) fun _=>?_
        · rw [(aEq _ env (by omega)).2]
          simp only [QA]
          refine Yes.bind (H _ _ _ (aOb hc hv (by simp; omega)) (by simp) k) fun e ⟨he,k⟩=>Yes.bind (lH (by simp)) fun z hz=>?_
          subst hz
          exact J1 _ _ _ _ _ (by simp) (mem1 he) k
        · exact J1 _ _ _ _ _ (by simp) (by simp) k
      · exact fin x b j g o t hx h3 ho ht hx1 k
  rw [xO]
  refine Yes.bind (kG _ _ h) fun y1 k=>Yes.bind (jW _ _ k) fun y2 ⟨q0,q1,k⟩=>?_
  exact L0 y2 y1 q0 (q1 (by decide)) 2 0 _ _ _ _ _ (by omega) (by omega) (by omega) ⟨by simp,by simp⟩ (by simp) (by simp) k
theorem cA2:∀ (n:Nat) (e:aJ) (c:aL),bG e<n→bG e≤400000→okCur c→Yes (aAp c e) (FZ (bG e+900)):=by
  intro n
  induction n with
  | zero=>intro e c h; omega
  | succ n ih =>
    intro e c hn hz h
    have hE:=aFl e
    have lk:e.kids.length≤zL bG e.kids:=by unfold zL; omega
    have ls:e.sub.length≤zL eF e.sub:=by unfold zL; omega
    have J:∀ a b q (v:aA) u t cb ci ch (ss:List aP),okCur ⟨cb,ci,ch⟩→xG v+zL bG e.kids+zL eF ss≤bG e+900→Yes (wL e a b q v.kind v.num v.text u t cb ci ch ss) (FZ (bG e+900)):=fun a b q v u t cb ci ch ss k hl=>by
      unfold wL
      refine Yes.some ⟨?_,k⟩
      show bG _≤_
      rw [aFg]; exact hl
    rw [aAp]
    refine Yes.bind (aFn _ _ _ _ h) fun r k=>Yes.bind (Q:=fun q=>q=true→0<(e.kids.length:Int)) ⟨_,rfl,?_⟩ fun q hq=>Yes.ite (fun hq2=>?_) fun _=>?_
    · intro h1
      by_cases h0:0<(e.kids.length:Int)
      · exact h0
      · rw [if_neg (by simpa using h0)] at h1; exact absurd h1 (by simp)
    · have h0:=hq hq2
      refine Yes.bind (jW _ _ k) fun r ⟨b0,b1,k⟩=>?_
      obtain ⟨v,hv0,hv⟩:=aQj (l:=e.kids) b0 (b1 h0)
      have hg:e.kids[r.1.toNat]?=some v:=by unfold idx at hv; rw [if_pos b0] at hv; exact hv
      have hl:=aMc (z:=bG) hv0
      refine Yes.bind (Q:=fun z=>z=v) ⟨v,hv,rfl⟩ fun z hz2=>?_
      subst hz2
      have hlen:e.kids.length+(e.kids.map bG).sum=zL bG e.kids:=rfl
      have hpos:=WH hv0
      refine Yes.bind (ih z _ (by omega) (by omega) k) fun r2 ⟨h5,k⟩=>Yes.some ⟨?_,k⟩
      have:=bQh (b:=900) hg h5
      show bG _≤_
      rw [aFg]; omega
    · refine Yes.bind (jW _ _ k) fun r ⟨_,_,k⟩=>Yes.ite (fun _=>?_) fun _=>Yes.ite (fun _=>?_) fun _=>Yes.ite (fun _=>?_) fun _=>Yes.ite (fun _=>?_) fun _=>Yes.ite (fun _=>?_) fun _=>Yes.ite (fun _=>?_) fun _=>?_
      · exact Yes.bind (aBt _ k) fun r ⟨hi,k⟩=>J _ _ _ e.value _ _ _ _ _ _ k (by omega)
      · exact Yes.bind (aBt _ k) fun r ⟨hi,k⟩=>J _ _ _ e.value _ _ _ _ _ _ k (by omega)
      · exact Yes.bind (aBt _ k) fun r ⟨hi,k⟩=>J _ _ _ e.value _ _ _ _ _ _ k (by omega)
      · exact Yes.bind (aBt _ k) fun r ⟨hi,k⟩=>J _ _ _ e.value _ _ _ _ _ _ k (by omega)
      · exact Yes.bind (bYl _ k) fun r hr=>J _ _ _ r.1 _ _ _ _ _ _ hr.2.2 (by have:=zV hr.2.1 hr.1.2.1; omega)
      · exact J _ _ _ e.value _ _ _ _ _ _ k (by omega)
      · refine Yes.bind (lH (by simp; omega)) fun y hy=>?_
        subst hy
        refine J _ _ _ e.value _ _ _ _ _ _ k ?_
        have:eF (aP.mk [] [] [] [] [] [] false 0)=0:=by simp [eF,G8,aF0,aF8,zL,zTb]
        simp only [zL,QK,QQ,QT,WP,QO,WA,List.sum_append,WD,List.sum_nil,this] at hE ⊢
        omega
theorem bVp {cat:aQ} (hc:rD cat) {d:Int} (hd0:0≤d) (hd:d<4) (env:List (List Int)) (hv:kX env) (hl:env.length≤10) (c:aL) (ty:Int) (h:okCur c):Yes (qE c cat env ty d) (FZ 25000) :=
  (bZq hc 3 d c ty env (by omega) (by omega) (by omega) hv (by omega) h).mono fun r hr=>⟨QJ hr.1 (by decide),hr.2⟩
def R20 (r:aQ×aP×aL):Prop:=(CR r.1∧eF r.2.1≤300000∧Ne4 r.2.1.tables r.2.1.on_ r.2.1.items r.2.1.names)∧okCur r.2.2
theorem cE4 (c:aL) {d:Int} (hd0:0≤d) (hd:d<4) (h:okCur c):Yes (aGw c d) R20:=by
  have J:∀ (y1:aQ×aL) (x7:List Int) b j g,CR y1.1→x7.length≤2→1≤x7.length→okCur ⟨b,j,g⟩→Yes (aFr d y1 x7 b j g) R20:=fun y1 x7 b j g hC hl hl1 k=>by
    unfold aFr
    exact Yes.bind (cCs (B:=25000) hC.cat [] bWn (by simp) x7 hl hl1 (fun c ty env' he hel k=>bVp hC.cat hd0 hd env' he (by simp at hel; omega) c ty k) _ k) fun r ⟨⟨hr,hn⟩,k⟩=>Yes.some ⟨⟨hC,by show eF r.1≤300000; omega,hn⟩,k⟩
  unfold aGw
  refine Yes.bind (bMo _ h) fun y1 ⟨hC,k⟩=>Yes.bind (jW _ _ k) fun y2 ⟨_,_,k⟩=>Yes.bind (kG _ _ k) fun y3 k=>Yes.ite (fun _=>?_) fun _=>J _ _ _ _ _ hC (by simp) (by simp) k
  refine Yes.bind (jW _ _ k) fun y4 ⟨_,_,k⟩=>Yes.bind (lH (by simp)) fun y e=>?_
  subst e
  exact J _ _ _ _ _ hC (by simp) (by simp) k
theorem bU2 {α:Type} {l:List α} (h:1≤l.length):∃ x,idx l 0=some x∧l[0]?=some x:=by
  refine ⟨l[0]'(by omega),?_,by simp⟩
  exact bM (i:=0) (by omega)
theorem bFs {α:Type} {z:α→Nat} {y:α}:∀ (l:List α) (k:Nat),zL z (l.set k y)≤zL z l+z y
  | [],_=>by simp [zL]
  | a::l,0=>by simp [zL]; omega
  | a::l,k+1=>by
    have:=bFs (z:=z) (y:=y) l k
    simp only [zL,WW,QQ,QO,WD] at this ⊢
    omega
theorem bSk (c:aL) (ty:Int) (h:okCur c):Yes (aHt c ty) fun r=>okI r.1.num∧okCur r.2:=by
  unfold aHt
  refine Yes.bind (aFn _ _ _ _ h) fun r k=>Yes.bind (Q:=fun _=>True) ⟨_,rfl,trivial⟩ fun q _=>Yes.ite (fun _=>?_) fun _=>?_
  · exact Yes.bind (jW _ _ k) fun r ⟨b0,b1,k⟩=>Yes.bind (Q:=fun v:aA=>okI v.num) ⟨_,rfl,okI_w⟩ fun v hv=>Yes.some ⟨hv,k⟩
  · exact Yes.bind (bC9 _ _ k) fun r ⟨⟨_,hn⟩,k⟩=>Yes.some ⟨hn,k⟩
def bCp (t:fM):Prop:=t.rows.length≤4∧∀ r∈t.rows,fJ 1 r
def dbG (n:Nat) (d:GDb):Prop:=d.tables.length≤n∧∀ t∈d.tables,bCp t
def okG (r:GDb×aL):Prop:=dbG 3 r.1∧okCur r.2
theorem bNd {cat:aQ} (hC:CR cat) (c:aL) (h:okCur c):Yes (aH7 c cat) okG:=by
  have hl:=hC.1.2
  have L0:∀ x,x≤cat.tables.length→∀ b i g (T:List fM),T.length=x→(∀ t∈T,bCp t)→okCur ⟨b,i,g⟩→Yes (aB8 cat (x:Nat) b i g T) okG:=by
    refine dZ ?_ ?_
    · intro b i g T hT hG k
      rw [aB8,if_neg (by simp)]
      exact Yes.some ⟨⟨by show T.length≤3; omega,hG⟩,k⟩
    · intro x hx ih b i g T hT hG k
      have hcl:=(hC.2 _ (QE hx)).1.2
      rw [aB8,if_pos (by simpa using hx)]
      refine Yes.bind (jW _ _ k) fun y1 ⟨y0,y5,k⟩=>?_
      have y5:=y5 (by decide)
      have L1:∀ (m:Nat) (n:Int) (rows:Rows) b i g,y1.1≤m+n→0≤n→n≤4→(rows.length:Int)=n→(∀ r∈rows,fJ 1 r)→okCur ⟨b,i,g⟩→Yes (V7 (x:Int) y1 cat T n rows (b,i,g)) okG:=by
        intro m
        have fin:∀ (n:Int) (rows:Rows) b i g,¬ n<y1.1→n≤4→(rows.length:Int)=n→(∀ r∈rows,fJ 1 r)→okCur ⟨b,i,g⟩→Yes (V7 (x:Int) y1 cat T n rows (b,i,g)) okG:=by
          intro n rows b i g hn h4 hr hB k
          rw [V7,if_neg (by simpa using hn)]
          refine Yes.bind (lH (by simp only [QD]; omega)) fun z hz=>?_
          subst hz
          rw [dI hx (by omega)]
          exact ih _ _ _ _ (by simp [hT]) (sV hG ⟨by show rows.length≤4; omega,hB⟩) k
        induction m with
        | zero=>intro n rows b i g h1 h0 h4 hr hB k; exact fin n rows b i g (by omega) h4 hr hB k
        | succ m ihm =>
          intro n rows b i g h1 h0 h4 hr hB k
          by_cases hn:n<y1.1
          case neg=>exact fin n rows b i g hn h4 hr hB k
          rw [V7,if_pos (by simpa using hn)]
          have L2:∀ j,j≤cat.tables[x].cols.length→∀ (row:Row1) b i g,row.length=j→(∀ v∈row,okI v.num)→okCur ⟨b,i,g⟩→Yes (I7 (x:Int) y1 n cat rows T row ((j:Nat),b,i,g)) okG:=by
            refine dZ ?_ ?_
            · intro row b i g hj hv k
              rw [I7]
              simp only [bM hx,bZ,QS,decide_false,QC,if_false,QB,QA]
              refine Yes.bind (lH (by simp only [QD]; omega)) fun z hz=>?_
              subst hz
              rw [dR (by omega) (by omega)]
              refine ihm (n+1) _ _ _ _ (by omega) (by omega) (by omega) (by simp only [QK,QD]; omega) (sV hB ⟨by omega,hv⟩) k
            · intro j hj ihj row b i g hrl hv k
              rw [I7]
              simp only [bM hx,bZ,hj,decide_true,if_true,bM hj,QB,QA]
              refine Yes.bind (bSk _ _ k) fun r ⟨hn,k⟩=>Yes.bind (lH (by simp only [QD]; omega)) fun z hz=>?_
              subst hz
              rw [dI hj (by omega)]
              exact ihj _ _ _ _ (by simp [hrl]) (sV hv hn) k
          have:=L2 0 (by omega) [] b i g rfl (by simp) k
          simpa using this
      have:=L1 y1.1.toNat 0 [] y1.2.b y1.2.i y1.2.h (by omega) (by omega) (by omega) rfl (by simp) k
      exact this
  unfold aH7
  have:=L0 0 (by omega) c.b c.i c.h [] rfl (by simp) h
  simpa using this
def okR (r:aL×aQ×GDb×aP):Prop:=okCur r.1∧CR r.2.1∧dbG 3 r.2.2.1∧eF r.2.2.2≤300000∧1≤r.2.2.2.items.length
theorem cE2 (p:List Int) (hp:p.length≤1048576):Yes (aI9 p) okR:=by
  unfold aI9
  obtain ⟨c,e,hc⟩:=cCz p hp
  rw [e]
  simp only [QB,QA]
  refine Yes.bind (cAf p hp) fun n ⟨n0,n3⟩=>Yes.bind (jW _ _ hc) fun y3 ⟨a0,a1,k⟩=>?_
  have a1:=a1 n0
  refine Yes.bind (cE4 _ a0 (by omega) k) fun y4 ⟨⟨hC,hS,hN⟩,k⟩=>Yes.bind (bNd hC _ k) fun y5 ⟨hG,k⟩=>Yes.some ⟨k,hC,hG,hS,hN.2.2.1⟩
def okW (r:aQ×GDb×aP):Prop:=CR r.1∧dbG 4 r.2.1∧eF r.2.2≤1000000
theorem cB4 (p:List Int) (hp:p.length≤1048576):Yes (aIy p) okW:=by
  unfold aIy
  refine Yes.bind (cE2 p hp) fun y1 ⟨k,hC,hG,hS,hI⟩=>Yes.bind (kG _ _ k) fun y2 k=>?_
  have J:∀ b i g (its:List aJ),eF (aP.mk y1.2.2.2.tables y1.2.2.2.on_ y1.2.2.2.where_ y1.2.2.2.order its y1.2.2.2.names y1.2.2.2.distinct y1.2.2.2.limit)≤1000000→okCur ⟨b,i,g⟩→Yes (aDg y1 b i g its) okW:=by
    intro b i g its hz k
    unfold aDg aGf
    refine Yes.bind (kG _ _ k) fun q k=>Yes.ite (fun _=>?_) fun _=>Yes.some ⟨hC,⟨QJ hG.1 (by omega),hG.2⟩,hz⟩
    refine Yes.bind (lH (by have:=hG.1; simp only [QD]; omega)) fun z hz2=>?_
    subst hz2
    exact Yes.some ⟨hC,⟨by have:=hG.1; simp only [QK,QD]; omega,sV hG.2 ⟨by simp,by simp⟩⟩,hz⟩
  refine Yes.ite (fun _=>?_) fun _=>J _ _ _ _ (by
    have e:(aP.mk y1.2.2.2.tables y1.2.2.2.on_ y1.2.2.2.where_ y1.2.2.2.order y1.2.2.2.items y1.2.2.2.names y1.2.2.2.distinct y1.2.2.2.limit)=y1.2.2.2:=by cases y1.2.2.2; rfl
    rw [e]; omega) k
  obtain ⟨x,x1,x2⟩:=bU2 hI
  refine Yes.bind (Q:=fun z=>z=x) ⟨x,x1,rfl⟩ fun z hz=>?_
  subst hz
  have hZ:=zP y1.2.2.2
  have hm:=U1 (z:=bG) (List.mem_of_getElem? x2)
  refine Yes.bind (cA2 _ _ _ (XD _) (by omega) k) fun q ⟨h1,k⟩=>J _ _ _ _ ?_ k
  rw [zP]
  have:=bFs (z:=bG) (y:=q.1) y1.2.2.2.items (0:Int).toNat
  dsimp only; omega
theorem bK8:Closed 19 4 (fun e=>bG e≤1048576) (fun p=>eF p≤1048576) where
  val e h:=by have:=aFl e; exact bLq (by omega)
  kid e h k hk:=by have:=aJo hk; omega
  sub e h p hp:=by have:=aGh hp; omega
  plan p h:=by
    have hz:=I4 p
    have hl:=aJt p
    have t2:p.tables.length≤2:=by
      have:zTb p.tables≤1048576:=by omega
      unfold zTb at this; omega
    refine ⟨by omega,?_,by omega,fun l hl2=>?_,by omega,by omega,by omega⟩
    · exact QJ (WJ (by omega) t2) (by decide)
    · have:=U1 (z:=zL bG) hl2
      have:=wS (z:=bG) l
      omega
  part p h e he:=by have:=aGs he; omega
  len e h:=by have:=aV5 e; omega
  ze e h:=h
  zp p h:=h
theorem bV2 {n:Nat} {d:GDb} (h:dbG n d):DbB 4 d:=⟨by omega,fun t ht=>(h.2 t ht).1,fun t ht=>(h.2 t ht).2⟩
theorem aSv {c:aQ} {d:GDb} {p:aP} (hd:dbG 4 d) (hp:eF p≤1048575):EvP c d [] p∧xP c d [] p=some (uB d (fC c d []) p):=by
  refine (bMd (c:=c) bK8 bQk (by omega) (bV2 hd) (by have:=hd.1; omega) (eF p+1)).2 p [] (XD _) (by omega) (fun r hr=>by simp at hr) (fun r hr=>by simp at hr) (by simp; omega)
theorem bR3 (x:aA):pX x=kY x∧∃ b,kY x=some b:=by
  unfold pX kY fE
  simp only [QB,QA]
  by_cases h0:x.kind=0
  · simp [h0]
  by_cases h1:x.kind=1
  · simp [h1]
  by_cases h2:x.kind=2
  · simp [h2]
  by_cases h3:x.kind=3
  · by_cases n0:x.num=0
    · simp [h3,n0]
    by_cases n1:x.num=1
    · simp [h3,n1]
    have e:(if decide (0≤x.num)=true then decide (x.num≤1) else false)=false:=by
      by_cases p:0≤x.num
      · simp [p]; omega
      · simp [p]
    rw [e]
    simp [h3,n0,n1]
  · simp [h0,h1,h2,h3]
theorem bP9 (x:aA) (t:Int):aHl x t=aF5 x t∧∃ b,aF5 x t=some b:=by
  obtain ⟨h1,b,h2⟩:=bR3 x
  unfold aHl aF5
  rw [h1,h2]
  cases b <;> exact ⟨rfl,_,rfl⟩
theorem cCf (r:List aA) (t:List Int) (hl:r.length≤1048576):aK4 r t=aD5 r t∧∃ b,aD5 r t=some b:=by
  unfold aK4 aD5
  by_cases he:(r.length:Int)=(t.length:Int)
  · simp only [he,decide_true,QG,QC,if_false]
    have:=aO1 (n:=r.length) (L:=fun i=>U7 t r i) (M:=fun i=>K5 r t i) ?_ ?_
    · obtain ⟨h1,b,h2⟩:=this
      rw [h1] at h2
      exact ⟨h1,b,h2⟩
    · intro i hi h1 h2
      try dsimp only at h1 h2 ⊢
      have hi':i<t.length:=by omega
      obtain ⟨f1,b,f2⟩:=bP9 r[i] t[i]
      rw [U7,K5]
      simp only [bZ,bM hi,bM hi',dI hi (by omega),hi,decide_true,if_true,f1,f2,QB,QA]
      cases b with
      | true=>simp only [QG,QC,if_false]; exact ⟨h1,h2⟩
      | false=>simp
    · try dsimp only
      rw [U7,K5]
      simp
  · simp [he]
theorem bOc (t:eD) (hl:t.cols.length≤1048576):O7 t=D5 t∧∃ r,D5 t=some r:=by
  unfold O7 D5
  have key:∀ i,i≤t.cols.length→∀ l:List Int,l.length≤i→wC t l (i:Nat)=vE t l (i:Nat)∧∃ r,vE t l (i:Nat)=some r:=by
    refine dZ ?_ ?_
    · intro l _
      rw [wC,vE]; simp
    · intro i hi ih l hl2
      rw [wC,vE]
      have ea:appG 8 l [t.cols[i].type]=some (l++[t.cols[i].type]):=by unfold appG; rw [if_pos (by simp; omega)]
      simp only [bZ,bM hi,dI hi (by omega),hi,decide_true,if_true,ea,QB,QA]
      exact ih _ (by simp; omega)
  exact key 0 (by omega) [] (by simp)
theorem bJf (c:aQ) (d:GDb) (hc:wQ c) (hd:d.tables.length≤1048576∧∀ t∈d.tables,t.rows.length≤1048576∧∀ r∈t.rows,r.length≤1048576):aDs c d=Q6 c d∧∃ b,Q6 c d=some b:=by
  unfold aDs Q6
  obtain ⟨b1,i1,i2⟩:=bC6 c hc
  obtain ⟨b2,s1,s2⟩:=aTs c hc
  have e:b1=b2:=bR2 i2 s2 Iff.rfl
  subst e
  simp only [i1,s1,QB,QA]
  cases b1 with
  | false=>simp
  | true =>
    by_cases he:(d.tables.length:Int)=(c.tables.length:Int)
    · simp only [he,decide_true,QG,QC,if_false]
      have:=aO1 (n:=d.tables.length) (L:=fun i=>yM d c i) (M:=fun i=>aCt c d i) ?_ ?_
      · obtain ⟨h1,b,h2⟩:=this
        rw [h1] at h2
        exact ⟨h1,b,h2⟩
      · intro i hi h1 h2
        try dsimp only at h1 h2 ⊢
        obtain ⟨r0,h2⟩:=h2
        have hi':i<c.tables.length:=by omega
        have hrows:=hd.2 _ (QE hi)
        obtain ⟨t1,ty,t2⟩:=bOc c.tables[i] (hc.2 _ (QE hi'))
        have:=hd.1
        rw [yM,aCt]
        simp only [bZ,bM hi,bM hi',dI hi (by omega),hi,decide_true,if_true,t1,t2,QB,QA]
        by_cases h6:(6:Int)<(d.tables[i].rows.length:Int)
        · simp [h6]
        · have scan:∀ j,j≤d.tables[i].rows.length→∃ k:Int,Q4 d.tables[i].rows ty (j:Nat)=some k∧((0≤k∧E5 (i:Int) c d (j:Nat)=some false)∨(k<0∧E5 (i:Int) c d (j:Nat)=some r0)):=by
            refine dZ ?_ ?_
            · rw [Q4,E5]
              simp only [bZ,bM hi,QS,decide_false,QC,if_false,QB,QA,dI hi (by omega)]
              exact ⟨-1,rfl,.inr ⟨by omega,by rw [← h1]; exact h2⟩⟩
            · intro j hj ih
              obtain ⟨f1,b,f2⟩:=cCf d.tables[i].rows[j] ty (hrows.2 _ (QE hj))
              rw [Q4,E5]
              simp only [bZ,bM hi,bM hi',bM hj,hj,decide_true,if_true,t2,f1,f2,aNl,QB,QA,dI hj (by omega)]
              cases b with
              | true=>simpa using ih
              | false=>exact ⟨(j:Int),by simp,.inl ⟨by omega,by simp⟩⟩
          obtain ⟨k,k1,k2⟩:=scan 0 (by omega)
          rw [show ((0:Nat):Int)=0 from rfl] at k1 k2
          simp only [h6,decide_false,QC,if_false,aGo,aOd,k1,QB,QA]
          rcases k2 with ⟨k0,k2⟩ | ⟨k0,k2⟩
          · simp [k0,k2]
          · have:¬ 0≤k:=by omega
            have h3:yM d c ((i:Int)+1)=some r0:=h2
            simp only [k2,this,decide_false]
            cases r0 <;> simp [h3]
      · try dsimp only
        rw [yM,aCt]
        simp
    · simp [he]
def wtB (c:aQ) (p:aP):Bool:=(J8 c p).getD false
def dbB (c:aQ) (d:GDb):Bool:=(Q6 c d).getD false
theorem bHa {c:aQ} (hs:wQ c) {p:aP} (hz:eF p≤1048576):aFt c p=some (wtB c p)∧J8 c p=some (wtB c p):=by
  obtain ⟨b,h1,h2⟩:=bS0 c hs p hz
  unfold wtB; rw [h2]; exact ⟨h1,rfl⟩
theorem bMe {c:aQ} {n:Nat} (hs:wQ c) {d:GDb} (hd:dbG n d) (hn:n≤1048576):aDs c d=some (dbB c d)∧Q6 c d=some (dbB c d):=by
  obtain ⟨h1,b,h2⟩:=bJf c d hs ⟨by have:=hd.1; omega,fun t ht=>⟨by have:=(hd.2 t ht).1; omega,fun r hr=>by have:=((hd.2 t ht).2 r hr).1; omega⟩⟩
  unfold dbB; rw [h1,h2]; exact ⟨rfl,rfl⟩
def tJ (c:aQ) (d:GDb) (p:aP):Rows×Int:=if (wtB c p&&dbB c d)=true then uB d (fC c d []) p else ([],4)
theorem aWj {c:aQ} (hs:wQ c) {d:GDb} (hd:dbG 4 d) {p:aP} (hz:eF p≤1048575):aCp c d p=some (tJ c d p)∧aHd c d p=some (tJ c d p):=by
  obtain ⟨w1,w2⟩:=bHa hs (p:=p) (by omega)
  obtain ⟨d1,d2⟩:=bMe hs hd (by omega)
  obtain ⟨⟨r,e1,e2,_,_⟩,e3⟩:=aSv (c:=c) hd hz
  rw [e3] at e1
  have e1:=Option.some.inj e1
  subst e1
  unfold aCp aHd tJ
  rw [w1,w2,d1,d2,e3,e2]
  simp only [QB,QA,orB]
  cases wtB c p
  · simp
  · cases dbB c d <;> simp
theorem bC4 {p:aP} (hz:eF p≤1048576):dP p=mx dE (iE p) 0∧sP p=((iE p).map sE).sum:=by
  obtain ⟨p1,p2⟩:=parts_eq p hz
  have hl:=aSn p
  have H:∀ e∈iE p,DsE e:=fun e he=>bSe e (by have:=aGs he; omega)
  have hs:=bCe (s:=sE) p fun y hy=>(H y hy).2.2.2.2.2
  obtain ⟨a1,a2⟩:=aZj _ (by omega) H 0
  obtain ⟨b1,b2⟩:=aRj _ (by omega) (by omega) H
  have e1:wJ p=some (mx dE (iE p) 0):=by rw [wJ,p1]; simp only [QB,QA,aAk,a1]
  have e2:vX p=some (((iE p).map sE).sum):=by rw [vX,p1]; simp only [QB,QA,b1]
  exact ⟨by unfold dP; rw [e1]; rfl,by unfold sP; rw [e2]; rfl⟩
theorem bCj {c:aQ} (hs:wQ c) {p:aP} (hz:eF p≤1048576):wtB c p=true↔aCz c∧dP p≤24∧sP p≤200∧∃ ts,wM c [] p=some (ts,true):=by
  obtain ⟨b,b1,b2⟩:=aTs c hs
  obtain ⟨d1,d2,d3,d4,-⟩:=bBl p hz
  have h:=(bHa hs hz).2
  unfold J8 at h
  rw [b1,d2,d4] at h
  simp only [QB,QA,orB] at h
  cases b with
  | false =>
    have he:wtB c p=false:=by simpa using h.symm
    rw [he]
    constructor
    · intro h; simp at h
    · rintro ⟨h,_⟩; have:=b2.2 h; simp at this
  | true =>
    obtain ⟨r,r1,r2,r3⟩:=bDz c (bBf (b2.1 rfl)) p [] hz (by intro r hr; simp at hr) (by simp)
    rw [r2] at h ⊢
    by_cases hd:dP p≤24
    · by_cases hS:sP p≤200
      · have n1:¬ 24<dP p:=by omega
        have n2:¬ 200<sP p:=by omega
        have he:wtB c p=r.2:=by simpa [n1,n2,hd,hS] using h.symm
        rw [he]
        obtain ⟨ts,b⟩:=r
        constructor
        · intro hb; exact ⟨b2.1 rfl,hd,hS,ts,by rw [show b=true from hb]⟩
        · rintro ⟨_,_,_,ts',e⟩
          simp only [Option.some.injEq,Prod.mk.injEq] at e
          exact e.2
      · have n1:¬ 24<dP p:=by omega
        have n2:200<sP p:=by omega
        have he:wtB c p=false:=by simpa [n1,n2,hd] using h.symm
        rw [he]
        exact ⟨fun h=>by simp at h,fun h=>absurd h.2.2.1 hS⟩
    · have n1:24<dP p:=by omega
      have he:wtB c p=false:=by simpa [n1,hd] using h.symm
      rw [he]
      exact ⟨fun h=>by simp at h,fun h=>absurd h.2.1 hd⟩
theorem bRu (c:aQ) (env:List (List Int)) (t:List Int) (o:List (List aJ)) (w:List aJ) (r:List cZ) (i:List aJ) (n:List (List UInt8)) {ds ds':Bool} {lm lm':Int} (h : -1≤lm) (h' : -1≤lm')
    (ho:o.length≤1048576) (hr:r.length≤1048576) (hi:i.length≤1048576) (hn:n.length≤1048576):wM c env (aP.mk t o w r i n ds lm)=wM c env (aP.mk t o w r i n ds' lm'):=by
  have B1:∀ k,k≤n.length→qP c (aP.mk t o w r i n ds lm) (k:Nat)=qP c (aP.mk t o w r i n ds' lm') (k:Nat):=by
    refine dZ ?_ ?_
    · conv=>lhs; rw [qP]
      conv=>rhs; rw [qP]
      simp
    · intro k hk ih
      conv=>lhs; rw [qP]
      conv=>rhs; rw [qP]
      simp only [dI hk (by omega),ih]
  have B0:∀ k,k≤o.length→qA c (aP.mk t o w r i n ds lm) (k:Nat)=qA c (aP.mk t o w r i n ds' lm') (k:Nat):=by
    refine dZ ?_ ?_
    · conv=>lhs; rw [qA]
      conv=>rhs; rw [qA]
      have:=B1 0 (by omega)
      rw [show ((0:Nat):Int)=0 from rfl] at this
      simp only [this,bZ,QS,decide_false,QC,if_false]
    · intro k hk ih
      conv=>lhs; rw [qA]
      conv=>rhs; rw [qA]
      simp only [dI hk (by omega),ih,bZ,hk,decide_true,if_true]
  have Bd:X4 c (aP.mk t o w r i n ds lm)=X4 c (aP.mk t o w r i n ds' lm'):=by
    unfold X4
    have:=B0 0 (by omega)
    rw [show ((0:Nat):Int)=0 from rfl] at this
    have n1:¬ lm < -1:=by omega
    have n2:¬ lm' < -1:=by omega
    simp only [this,n1,n2]
  have T2:∀ e k,k≤i.length→∀ acc,pY e c (aP.mk t o w r i n ds lm) acc (k:Nat)=pY e c (aP.mk t o w r i n ds' lm') acc (k:Nat):=by
    intro e
    refine dZ ?_ ?_
    · intro acc
      conv=>lhs; rw [pY]
      conv=>rhs; rw [pY]
      simp
    · intro k hk ih acc
      conv=>lhs; rw [pY]
      conv=>rhs; rw [pY]
      simp only [dI hk (by omega),ih]
  have T1:∀ e k,k≤r.length→rG e c (aP.mk t o w r i n ds lm) (k:Nat)=rG e c (aP.mk t o w r i n ds' lm') (k:Nat):=by
    intro e
    refine dZ ?_ ?_
    · conv=>lhs; rw [rG]
      conv=>rhs; rw [rG]
      have:=T2 e 0 (by omega) []
      rw [show ((0:Nat):Int)=0 from rfl] at this
      simp only [this,bZ,QS,decide_false,QC,if_false]
    · intro k hk ih
      conv=>lhs; rw [rG]
      conv=>rhs; rw [rG]
      simp only [dI hk (by omega),ih,bZ,hk,decide_true,if_true]
  have T0:∀ k,k≤o.length→uH env c (aP.mk t o w r i n ds lm) (k:Nat)=uH env c (aP.mk t o w r i n ds' lm') (k:Nat):=by
    refine dZ ?_ ?_
    · conv=>lhs; rw [uH]
      conv=>rhs; rw [uH]
      have:=fun e=>T1 e 0 (by omega)
      rw [show ((0:Nat):Int)=0 from rfl] at this
      simp only [this,bZ,QS,decide_false,QC,if_false]
    · intro k hk ih
      conv=>lhs; rw [uH]
      conv=>rhs; rw [uH]
      simp only [dI hk (by omega),ih,bZ,hk,decide_true,if_true]
  have:=T0 0 (by omega)
  rw [show ((0:Nat):Int)=0 from rfl] at this
  conv=>lhs; rw [wM,Bd,this]
  conv=>rhs; rw [wM]
theorem bEj {c:aQ} (hs:wQ c) {t:List Int} {o:List (List aJ)} {w:List aJ} {r:List cZ} {i:List aJ} {n:List (List UInt8)} {ds ds':Bool} {lm lm':Int} (h : -1≤lm) (h' : -1≤lm') (hz:eF (aP.mk t o w r i n ds lm)≤1048576):wtB c (aP.mk t o w r i n ds lm)=wtB c (aP.mk t o w r i n ds' lm'):=by
  have hz':eF (aP.mk t o w r i n ds' lm')≤1048576:=hz
  have hl:=aJt (aP.mk t o w r i n ds lm)
  dsimp only at hl
  have e1:=bC4 hz
  have e2:=bC4 hz'
  rw [QI,bCj hs hz,bCj hs hz',bRu c [] t o w r i n h h' (by omega) (by omega) (by omega) (by omega),e1.1,e1.2,e2.1,e2.2]
  exact Iff.rfl
theorem bEy (a b:Rows) (ha:a.length≤1048576) (hr:∀ y∈a,y.length≤1048576):aEg a b=some (decide (a=b)):=by
  unfold aEg
  by_cases hl:a.length=b.length
  · have key:∀ i,i≤a.length→Y0 a b (i:Nat)=some (decide (a.drop i=b.drop i)):=by
      refine dZ ?_ ?_
      · rw [Y0]
        rw [QW,hl,QW]; simp
      · intro i hi ih
        have hb:i<b.length:=by omega
        rw [Y0]
        simp only [bZ,hi,decide_true,if_true,bM hi,bM hb,QB,QA,bIv _ b[i] (hr _ (QE hi))]
        rw [dI hi (by omega),ih,QF hi,QF hb]
        by_cases h:a[i]=b[i]
        · rw [if_neg (by simp [h]),h]; simp only [List.cons.injEq,true_and]
        · rw [if_pos (by simp [h])]; simp only [List.cons.injEq,h,false_and,decide_false]
    have:=key 0 (by omega)
    simp only [QL] at this
    rw [if_neg (by simp; omega)]
    exact this
  · have:a≠b:=fun e=>hl (by rw [e])
    rw [if_pos (by simp; omega)]
    simp [this]
theorem aUi:∀ (l o:Rows),o.Nodup→(fV o l).Nodup
  | [],o,h=>by rw [fV]; exact h
  | x::l,o,h=>by
    rw [fV]
    split
    · exact aUi l o h
    · rename_i hx
      refine aUi l _ (WX.2 ⟨h,by simp,fun a ha b hb=>?_⟩)
      simp at hb; subst hb
      exact fun e=>hx (e ▸ ha)
theorem bHl:∀ (l o:Rows),(o++l).Nodup→fV o l=o++l
  | [],o,_=>by rw [fV,WG]
  | x::l,o,h=>by
    have hx:x∉o:=fun hx=>by
      have:=(WX.1 h).2.2 x hx x (by simp)
      exact this rfl
    rw [fV,if_neg hx,bHl l (o++[x]) (by simpa using h)]
    simp
theorem bZ4 (l:Rows):fV [] (fV [] l)=fV [] l:=by
  have:=bHl (fV [] l) [] (by simpa using aUi l [] List.nodup_nil)
  simpa using this
def zF (q:Qry):Rows×Int :=
  if (joE q.st [[]]).2≠0 then ([],(joE q.st [[]]).2) else if (whE q.wh (joE q.st [[]]).1).2≠0 then ([],(whE q.wh (joE q.st [[]]).1).2) else
  if (jF q.ks (whE q.wh (joE q.st [[]]).1).1).2≠0 then ([],(jF q.ks (whE q.wh (joE q.st [[]]).1).1).2) else
  if (mU q.is (jF q.ks (whE q.wh (joE q.st [[]]).1).1).1).2≠0 then ([],(mU q.is (jF q.ks (whE q.wh (joE q.st [[]]).1).1).1).2) else
  ((mU q.is (jF q.ks (whE q.wh (joE q.st [[]]).1).1).1).1,0)
theorem aNe (q:Qry):aB0 q=if (zF q).2≠0 then ([],(zF q).2) else (uQ q.dis q.lim (zF q).1,0):=by
  unfold aB0 zF
  by_cases h0:(joE q.st [[]]).2=0
  case neg=>simp [h0]
  by_cases h1:(whE q.wh (joE q.st [[]]).1).2=0
  case neg=>simp [h0,h1]
  by_cases h2:(jF q.ks (whE q.wh (joE q.st [[]]).1).1).2=0
  case neg=>simp [h0,h1,h2]
  by_cases h3:(mU q.is (jF q.ks (whE q.wh (joE q.st [[]]).1).1).1).2=0
  case neg=>simp [h0,h1,h2,h3]
  simp [h0,h1,h2,h3]
theorem bMz {r:aQ×GDb×aP} (h:okW r):wQ r.1:=h.1.small
theorem bJx (p:List Int) (hp:∀ x∈p,okU8 x) (hl:p.length≤1048576):∃ n,aGc p 1=some n∧0≤n:=by
  unfold aGc
  by_cases h:(1:Int)<(p.length:Int)
  · obtain ⟨x,e,hx⟩:=cBq (l:=p) (i:=1) (by omega) h
    obtain ⟨a,b⟩:=hp x hx
    refine ⟨x,?_,a⟩
    simp only [h,decide_true,if_true,e,QB,QA]
    rw [dR (by omega) (by omega)]
  · refine ⟨_,by rw [if_neg (by simpa using h)],?_⟩
    rw [dR (n:=1 * 7) (by omega) (by omega),dR (n:=1 * 7+(p.length:Int)) (by omega) (by omega)]
    have:=Int.emod_nonneg (1 * 7+(p.length:Int)) (show (256:Int)≠0 by omega)
    rw [WZ (by omega)]
    exact this
theorem bO6 (p:List Int) (h:okL okU8 p):aFy p=some true:=by
  unfold aFy aOq
  simp only [QB,QA]
  by_cases hl:(1048576:Int)<(p.length:Int)
  · simp [hl]
  simp only [hl,decide_false,QC,if_false]
  have hl':p.length≤1048576:=by omega
  obtain ⟨⟨c,d,pl⟩,e,hW⟩:=cB4 p hl'
  obtain ⟨a,ea,a0⟩:=bJx p h.2 hl'
  have hs:=bMz hW
  obtain ⟨hC,hd,hz⟩:=hW
  obtain ⟨t,o,w,r,i,n,ds,lm⟩:=pl
  dsimp only at hC hd hz hs
  have hn0:0≤a.tmod 4:=by rw [WZ a0]; omega
  have z:∀ ds lm,eF (aP.mk t o w r i n ds lm)≤1048575:=fun ds lm=>by
    have e:eF (aP.mk t o w r i n ds lm)=eF (aP.mk t o w r i n ds 0):=rfl
    have:eF (aP.mk t o w r i n ds lm)≤1000000:=hz
    omega
  have R1:=aWj (c:=c) hs hd (z ds (-1))
  have R2:=aWj (c:=c) hs hd (z ds (a.tmod 4))
  have R3:=aWj (c:=c) hs hd (z true (-1))
  rw [e,ea]
  simp only [QA]
  rw [R1.1,R1.2,R2.1,R3.1]
  simp only [QA,decide_true,QG,QC,if_false]
  have ew1:wtB c (aP.mk t o w r i n ds (a.tmod 4))=wtB c (aP.mk t o w r i n ds (-1)):=bEj hs (by omega) (by omega) (QJ (z _ _) (by omega))
  have ew2:wtB c (aP.mk t o w r i n true (-1))=wtB c (aP.mk t o w r i n ds (-1)):=bEj hs (by omega) (by omega) (QJ (z _ _) (by omega))
  by_cases hg:(wtB c (aP.mk t o w r i n ds (-1))&&dbB c d)=true
  case neg =>
    have r1:tJ c d (aP.mk t o w r i n ds (-1))=([],4):=by unfold tJ; rw [if_neg hg]
    have r2:tJ c d (aP.mk t o w r i n ds (a.tmod 4))=([],4):=by unfold tJ; rw [ew1,if_neg hg]
    rw [r1,r2]; simp
  have r1:tJ c d (aP.mk t o w r i n ds (-1))=uB d (fC c d []) (aP.mk t o w r i n ds (-1)):=by unfold tJ; rw [if_pos hg]
  have r2:tJ c d (aP.mk t o w r i n ds (a.tmod 4))=uB d (fC c d []) (aP.mk t o w r i n ds (a.tmod 4)):=by unfold tJ; rw [ew1,if_pos hg]
  have r3:tJ c d (aP.mk t o w r i n true (-1))=uB d (fC c d []) (aP.mk t o w r i n true (-1)):=by unfold tJ; rw [ew2,if_pos hg]
  have bnd:=(aSv (c:=c) hd (z false (-1))).1
  have bnd2:=(aSv (c:=c) hd (z false (-1))).2
  rw [r1,r2,r3]
  unfold uB at bnd2 ⊢
  dsimp only at bnd2 ⊢
  by_cases hb:(t.length=0∨o.length≠t.length)∨mV d t=false
  · simp only [hb,if_true]; simp
  simp only [hb,if_false] at bnd2 ⊢
  rw [aNe,aNe,aNe]
  rw [aNe] at bnd2
  have c1:∀ ds lm,zF (jO d (fC c d []) (aP.mk t o w r i n ds lm))=zF (jO d (fC c d []) (aP.mk t o w r i n false (-1))):=fun _ _=>rfl
  rw [c1 ds (-1),c1 ds (a.tmod 4),c1 true (-1)]
  obtain ⟨R,b1,_,_,b4⟩:=bnd
  rw [b1] at bnd2
  have bnd2:=Option.some.inj bnd2
  have hml:∀ y∈(zF (jO d (fC c d []) (aP.mk t o w r i n false (-1)))).1,y.length≤1048576:=by
    intro y hy
    have hli:=aJt (aP.mk t o w r i n false (-1))
    have hzi:=z false (-1)
    dsimp only at hli
    unfold zF at hy
    split at hy
    · simp at hy
    split at hy
    · simp at hy
    split at hy
    · simp at hy
    split at hy
    · simp at hy
    obtain ⟨x,_,rfl,_⟩:=aAb hy
    refine QJ (aD6 _) ?_
    show (i.map _).length≤_
    rw [WQ]; omega
  generalize zF (jO d (fC c d []) (aP.mk t o w r i n false (-1)))=X at bnd2 hml ⊢
  obtain ⟨X,b⟩:=X
  dsimp only at bnd2 hml ⊢
  by_cases h0:b=0
  case neg=>simp [h0]
  subst h0
  have l1:∀ l:Rows,xM (-1) l=l:=fun l=>by unfold xM; rw [if_neg (by omega)]
  have q1:(jO d (fC c d []) (aP.mk t o w r i n ds (-1))).dis=ds:=rfl
  have q2:(jO d (fC c d []) (aP.mk t o w r i n ds (-1))).lim = -1:=rfl
  have q3:(jO d (fC c d []) (aP.mk t o w r i n ds (a.tmod 4))).dis=ds:=rfl
  have q4:(jO d (fC c d []) (aP.mk t o w r i n ds (a.tmod 4))).lim=a.tmod 4:=rfl
  have q5:(jO d (fC c d []) (aP.mk t o w r i n true (-1))).dis=true:=rfl
  have q6:(jO d (fC c d []) (aP.mk t o w r i n true (-1))).lim = -1:=rfl
  have q7:(jO d (fC c d []) (aP.mk t o w r i n false (-1))).dis=false:=rfl
  have q8:(jO d (fC c d []) (aP.mk t o w r i n false (-1))).lim = -1:=rfl
  rw [q1,q2,q3,q4,q5,q6]
  have hX:R=(X,0):=by
    rw [q7,q8] at bnd2
    simp only [ne_eq,not_true_eq_false,if_false,uQ,l1,QC] at bnd2
    exact bnd2
  rw [hX] at b4
  dsimp only at b4
  simp only [ne_eq,not_true_eq_false,if_false,uQ,l1,if_true,decide_true,QG,QC,QY]
  have hA:(if ds=true then fV [] X else X).length≤1048576∧(∀ y∈(if ds=true then fV [] X else X),y.length≤1048576)∧fV [] X=fV [] (if ds=true then fV [] X else X):=by
    split
    · refine ⟨by have:=aAc X []; simp at this; omega,fun y hy=>?_,(bZ4 X).symm⟩
      rcases aHh hy with h | h
      · simp at h
      · exact hml y h
    · exact ⟨b4,hml,rfl⟩
  generalize (if ds=true then fV [] X else X)=A at hA ⊢
  obtain ⟨A1,A2,A3⟩:=hA
  rw [A3]
  have hlow:∃ m:Nat,aK7 (a.tmod 4) (A.length:Int)=some (m:Int)∧m≤A.length∧xM (a.tmod 4) A=A.take m:=by
    unfold aK7 xM
    by_cases h:a.tmod 4<(A.length:Int)
    · refine ⟨(a.tmod 4).toNat,?_,by omega,?_⟩
      · rw [if_pos (by simpa using h)]; congr 1; omega
      · rw [if_pos ⟨hn0,h⟩]
    · refine ⟨A.length,by rw [if_neg (by simpa using h)],WK _,?_⟩
      rw [if_neg (fun hc=>h hc.2),List.take_length]
  obtain ⟨m,m1,m2,m3⟩:=hlow
  rw [m1,m3]
  simp only [QA]
  rw [aHg m2]
  simp only [QA]
  have tl:(A.take m).length≤1048576:=by rw [WV]; omega
  rw [bEy _ _ tl (fun y hy=>A2 y (WU _ _ hy)),bBc A A1 A2]
  simp only [decide_true,QA,beq_self_eq_true,QR,if_true]
  have dl:(fV [] A).length≤1048576:=by have:=aAc A []; simp at this; omega
  rw [bEy _ _ dl (fun y hy=>by
    rcases aHh hy with h | h
    · simp at h
    · exact A2 y h)]
  simp
end Go.Ab
