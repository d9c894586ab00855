/- What the functions compute,in plain Lean. -/
import Derived.Test.YthcemdafchcehabGreatLRunTrue0
namespace Go.Ab
open Go
open _root_.Option renaming bind_some→QA,bind_eq_bind→QB
open _root_.Bool renaming false_eq_true→QC,not_true→QE,and_eq_true→QG,eq_iff_iff→QI,and_self→QU,or_self→WD,false_or→WG,and_false→WM,not_false→WN,true_eq_false→WO
open _root_.List renaming length_singleton→QD,getElem_mem→QF,drop_eq_getElem_cons→QH,length_append→QK,map_cons→QL,drop_zero→QM,nil_append→QO,map_nil→QP,length_nil→QQ,zipWith→QR,mem_append→QS,length_cons→QT,sum_cons→QV,append_assoc→QX,singleton_append→QY,drop_length→QZ,mem_cons→WA,mem_cons_of_mem→WB,sum_nil→WC,zipWith_cons_cons→WE,map_append→WF,eq_nil_of_length_eq_zero→WH,length_pos_of_mem→WI,sum_append→WJ,getElem_map→WP,length_map→WQ,mem_map→WR,mem_flatMap→WS,mem_map_of_mem→WT,append_nil→WU,set_cons_succ→WV,mem_singleton→WW
open _root_.Nat renaming le_trans→QJ,lt_irrefl→QW,pow_le_pow_right→WL,succ_mul→WY,le_refl→WZ,one_mul→XA,zero_add→XB,lt_succ_self→XC
open Go.IntKind renaming wrap→QN
open _root_.Int renaming toNat_natCast→WK,lt_irrefl→WX
section
variable {c:aQ} {d:GDb} {env:Rows} {ev:aJ→Gf}
theorem aX5 (r:Row1) (hl:env.length≤4194304):aBx r env=some (r::env):=by
  unfold aBx
  rw [nK (by simp; omega)]; rfl
theorem bO6 {x4:List aJ} {x12:Int} {e:aJ} (he:idx x4 x12=some e) (hl:env.length≤4194304) {x3:Rows} (h3:x3.length≤1048576) (H:∀ r∈x3,fE c d (r::env) e=some (ev e r)) :
    ∀ i,i≤x3.length→∀ acc:Rows,acc.length≤i→aBn env x3 x4 x12 c d (acc,(i:Nat))=if (iR (ev e) (x3.drop i)).2≠0 then some ([],(iR (ev e) (x3.drop i)).2) else R6 env x4 c d (acc++(iR (ev e) (x3.drop i)).1) (QN .i64 (x12+1)):=by
  refine dZ ?_ ?_
  · intro acc _
    rw [aBn]; simp [iR]
  · intro i hi ih acc ha
    rw [aBn,QH hi]
    simp only [bZ,hi,decide_true,if_true,bM hi,he,aX5 _ hl,QB,QA,H _ (QF hi),bZv,iR]
    by_cases h0:(ev e x3[i]).2=0
    · simp only [h0,decide_true,QE,QC,if_false,ne_eq,not_true_eq_false]
      by_cases ht:tru (ev e x3[i]).1=true
      · rw [if_pos ht,rJ (by simp only [QD]; omega)]
        simp only [QA]
        rw [aDo,dI hi (by omega),ih _ (by simp only [QK,QD]; omega)]
        by_cases h1:(iR (ev e) (x3.drop (i+1))).2=0 <;> simp [h1,ht]
      · rw [if_neg ht,aDo,dI hi (by omega),ih _ (by show acc.length≤i+1; omega)]
        by_cases h1:(iR (ev e) (x3.drop (i+1))).2=0 <;> simp [h1,ht]
    · simp [h0]
theorem bGw {P:Row1→Prop} {l:List aJ} (he:env.length≤4194304) (hl:l.length≤1048576) (H:∀ e∈l,∀ r,P r→fE c d (r::env) e=some (ev e r)) (rows:Rows) (hr:rows.length≤1048576) (hP:∀ r∈rows,P r) :
    aCl c d env rows l=some (whE (l.map ev) rows):=by
  have key:∀ i,i≤l.length→∀ rows:Rows,rows.length≤1048576→(∀ r∈rows,P r)→R6 env l c d rows (i:Nat)=some (whE ((l.drop i).map ev) rows):=by
    refine dZ ?_ ?_
    · intro rows _ _
      rw [R6]; simp [whE]
    · intro i hi ih rows hr hP
      rw [R6,QH hi]
      simp only [bZ,hi,decide_true,if_true,QL,whE]
      have k:=bO6 (c:=c) (d:=d) (ev:=ev) (x4:=l) (x12:=(i:Int)) (bM hi) he hr (fun r hr=>H _ (QF hi) r (hP r hr)) 0 (by omega) [] (by simp)
      rw [show ((0:Nat):Int)=0 from rfl,QM,QO] at k
      rw [k,dI hi (by omega)]
      by_cases h1:(iR (ev l[i]) rows).2=0
      · simp only [h1,ne_eq,not_true_eq_false,if_false]
        exact ih _ (QJ (bAo _ _) hr) fun r hr=>hP r ((aF6 _ _).subset hr)
      · simp [h1]
  rw [aCl]
  simpa using key 0 (by omega) rows hr hP
theorem bI5 (r:Row1) (h:r.length≤1048576):aAr r=some r:=by
  unfold aAr
  rw [nK (by simp only [QQ]; omega)]
  rfl
theorem bZj {x10:Rows} {x11:Int} {t:fJ} {i:Nat} {p:aP} (hi:i<x10.length) (ht:t.rows.length≤1048576) (ha:x10[i].length≤1048576) (hB:∀ x∈t.rows,x.length≤1048576) :
    ∀ j,j≤t.rows.length→∀ acc:Rows,acc.length+t.rows.length≤2097152+j→aBm env x10 x11 t (i:Int) c (d,p,acc,(j:Nat))=V5 env x10 x11 t c d (p,(acc++(t.rows.drop j).map fun b=>x10[i]++b,(QN .i64 ((i:Int)+1)))):=by
  refine dZ ?_ ?_
  · intro acc _
    rw [aBm]; simp
  · intro j hj ih acc hacc
    rw [aBm]
    simp only [bZ,hj,decide_true,if_true,bM hj,bM hi,bI5 _ ha,QB,QA]
    rw [nK (by have:=hB _ (QF hj); omega)]
    simp only [QA]
    rw [rJ (by simp only [QD]; omega)]
    simp only [QA]
    rw [dI hj (by omega),ih _ (by simp only [QK,QD]; omega),QH hj]
    simp only [QL,QX,QY]
theorem cB6 {x10:Rows} {x11:Int} {t:fJ} {p:aP} (hx:x10.length * t.rows.length≤1048576) (hx4:x10.length≤1048576) (ht:t.rows.length≤1048576) (h4:∀ x∈x10,x.length≤1048576) (hB:∀ x∈t.rows,x.length≤1048576) :
    ∀ i,i≤x10.length→∀ acc:Rows,acc.length=i * t.rows.length→V5 env x10 x11 t c d (p,acc,(i:Nat))=((idx p.on_ x11)>>=fun (y4:List aJ)=>(aCl c d env (acc++mM (x10.drop i) t.rows) y4)>>=fun (y5:(List (List aA))×Int)=>if (!decide (y5.2=0))=true then (some (([]:List (List aA)),y5.2)) else (Y7 env c d p y5.1 (QN .i64 (x11+1)))):=by
  refine dZ ?_ ?_
  · intro acc _
    rw [V5]; simp [mM]
  · intro i hi ih acc ha
    rw [V5]
    simp only [bZ,hi,decide_true,if_true]
    have hm:(i+1) * t.rows.length≤x10.length * t.rows.length:=Nat.mul_le_mul_right _ hi
    rw [WY] at hm
    have:=bZj (c:=c) (d:=d) (env:=env) (x11:=x11) (p:=p) hi ht (h4 _ (QF hi)) hB 0 (by omega) acc (by omega)
    rw [show ((0:Nat):Int)=0 from rfl] at this
    rw [this,dI hi (by omega),ih _ (by simp [ha,WY]),QH hi]
    simp only [mM,List.flatMap_cons,QX,QM]
theorem bY1 {p:aP} {R N:Nat} (hN:N≤1048576) (hd:DbB R d) (he:env.length≤4194304) (hp:aPn N R p) (hon:p.on_.length=p.tables.length) (hT:nP d p.tables=true)
    (H:∀ y∈p.on_,∀ e∈y,∀ r,fM 3 r→fE c d (r::env) e=some (ev e r)) :
    ∀ i,i≤p.tables.length→∀ rows:Rows,rows.length≤R ^ i→(∀ r∈rows,fM i r)→Y7 env c d p rows (i:Nat) =
      some (joE (QR (fun t l=>(rowsOf d t,l.map ev)) (p.tables.drop i) (p.on_.drop i)) rows):=by
  have R1:=hd.R1
  have t3:=hp.t3
  have pw:∀ i,i≤p.tables.length→R ^ i≤N:=fun i hi=>QJ (WL R1 hi) hp.RN
  refine dZ ?_ ?_
  · intro rows hr hP
    rw [Y7]
    simp [joE]
  · intro i hi ih rows hr hP
    have hio:i<p.on_.length:=by omega
    have pi:=pw i (by omega)
    have ps:=pw (i+1) (by omega)
    have hti:=List.all_eq_true.1 hT _ (QF hi)
    simp only [QG,decide_eq_true_eq] at hti
    obtain ⟨t,e1,e2,e3⟩:=aWi hti.1 hti.2
    have ht:=hd.rows t e3
    have hcl:(mM rows t.rows).length≤R ^ (i+1):=by rw [aJb,Nat.pow_succ]; exact Nat.mul_le_mul hr ht
    have hRN1:R≤1048576:=QJ (QJ (by have:=WL R1 (show 1≤i+1 by omega); simpa using this) ps) hN
    rw [Y7,bM hi]
    simp only [bZ,hi,decide_true,if_true,QB,QA,e1]
    have j1:=cB6 (c:=c) (d:=d) (env:=env) (x11:=(i:Int)) (p:=p) (x10:=rows) (t:=t) (by rw [← aJb]; omega) (by omega) (by omega) (fun y hy=>by have:=(hP y hy).1; omega) (fun y hy=>by have:=(hd.row t e3 y hy).1; omega) 0 (by omega) [] (by simp)
    rw [show ((0:Nat):Int)=0 from rfl] at j1
    rw [j1,bM hio]
    simp only [QB,QA,QM,QO]
    have hcB:∀ r∈mM rows t.rows,fM (i+1) r:=aQs hP (hd.row t e3)
    rw [bGw he (hp.on1 _ (QF hio)) (fun e he=>H _ (QF hio) e he) _ (by omega) (fun r hr=>aAt (by omega) (hcB r hr))]
    simp only [QA]
    rw [QH hi,QH hio,WE,joE,← e2]
    by_cases h0:(whE (p.on_[i].map ev) (mM rows t.rows)).2=0
    · simp only [h0,decide_true,QE,QC,if_false,ne_eq,not_true_eq_false]
      rw [dI hi (by omega)]
      exact ih _ (QJ (aD9 _ _) hcl) fun r hr=>hcB r ((L6 _ _).subset hr)
    · simp [h0]
theorem bR9 (ks:List dD) (hk:ks.length≤1048576) {a b:Row1} (ha:a.length=ks.length) (hb:b.length=ks.length):aH4 a b ks=some (sS (ks.map (·.desc)) a b):=by
  have key:∀ i,i≤ks.length→aBk a b ks (i:Nat)=some (sS ((ks.map (·.desc)).drop i) (a.drop i) (b.drop i)):=by
    refine dZ ?_ ?_
    · rw [aBk,List.drop_of_length_le (l:=ks.map (·.desc)) (by simp)]; simp [sS]
    · intro i hi ih
      have ia:i<a.length:=by omega
      have ib:i<b.length:=by omega
      have id:i<(ks.map (·.desc)).length:=by simpa using hi
      rw [aBk]
      simp only [bZ,hi,decide_true,if_true,bM hi,bM ia,bM ib,QB,QA,aI5]
      rw [QH ia,QH ib,QH id,sS]
      have hr:=bHc a[i] b[i]
      generalize tQ a[i] b[i]=o at hr ⊢
      rw [dX (n:=0 - o) (by omega) (by omega)]
      have J:∀ m:Int,aBe a b ks (i:Int) m=some (if m≠0 then decide (m<0) else sS ((ks.map (·.desc)).drop (i+1)) (a.drop (i+1)) (b.drop (i+1))):=by
        intro m
        rw [aBe]
        by_cases hm:m=0
        · rw [if_neg (by simp [hm]),dI hi (by omega),ih,if_neg (by simp [hm])]
        · rw [if_pos (by simp [hm]),if_pos hm]
      simp only [WP,J]
      by_cases hd:ks[i].desc=true
      · simp only [hd,if_true]
        rw [Int.zero_sub]
      · simp only [hd,QC,if_false]
  unfold aH4
  simpa using key 0 (by omega)
end
section
variable {c:aQ} {d:GDb} {env:Rows} {ev:aJ→Gf}
theorem aVr {α:Type} {l:List α} {n:Nat} (h:n≤l.length):iW l (n:Int) (l.length:Int)=some (l.drop n):=by
  unfold iW
  rw [if_pos ⟨by omega,by omega,by omega⟩]
  simp
theorem cB4 {ks:List dD} (hk:ks.length≤1048576) {rows:Rows} {i:Nat} (hi:i<rows.length) (hr:rows.length≤1048576) {mine:Row1} (hm:mine.length=ks.length) (K:List aU) (hK:KL ks.length K) (hl:K.length≤1048576) :
    ∀ n,n≤K.length→aA0 env rows ks (K.map (·.row)) (K.map (·.keys)) (i:Int) (mine,c,d,(n:Int)) =
      xH env rows ks c d ((K.take (lQ (kLt (ks.map (·.desc))) ⟨rows[i],mine⟩ K n)++(⟨rows[i],mine⟩:aU)::K.drop (lQ (kLt (ks.map (·.desc))) ⟨rows[i],mine⟩ K n)).map (·.row)) ((K.take (lQ (kLt (ks.map (·.desc))) ⟨rows[i],mine⟩ K n)++(⟨rows[i],mine⟩:aU)::K.drop (lQ (kLt (ks.map (·.desc))) ⟨rows[i],mine⟩ K n)).map (·.keys),(QN .i64 ((i:Int)+1))):=by
  have fin:∀ n,n≤K.length→((iW (K.map (·.row)) 0 (n:Int))>>=fun (y9:(List (List aA)))=>(appG 24 ([]:List (List aA)) y9)>>=fun (y10:List (List aA))=>(idx rows (i:Int))>>=fun (y11:(List aA))=>(appG 24 y10 ([y11]:List (List aA)))>>=fun (y12:List (List aA))=>(iW (K.map (·.row)) (n:Int) ((K.map (·.row)).length:Int))>>=fun (y13:(List (List aA)))=>(appG 24 y12 y13)>>=fun (y14:List (List aA))=>(iW (K.map (·.keys)) 0 (n:Int))>>=fun (y15:(List (List aA)))=>(appG 24 ([]:List (List aA)) y15)>>=fun (y16:List (List aA))=>(appG 24 y16 ([mine]:List (List aA)))>>=fun (y17:List (List aA))=>(iW (K.map (·.keys)) (n:Int) ((K.map (·.keys)).length:Int))>>=fun (y18:(List (List aA)))=>(appG 24 y17 y18)>>=fun (y19:List (List aA))=>xH env rows ks c d y14 (y19,(QN .i64 ((i:Int)+1)))) =
      xH env rows ks c d ((K.take n++(⟨rows[i],mine⟩:aU)::K.drop n).map (·.row)) ((K.take n++(⟨rows[i],mine⟩:aU)::K.drop n).map (·.keys),(QN .i64 ((i:Int)+1))):=by
    intro n hn
    have h1:n≤(K.map (·.row)).length:=by simpa using hn
    have h2:n≤(K.map (·.keys)).length:=by simpa using hn
    have l1:(K.map (·.row)).length=K.length:=by simp
    have l2:(K.map (·.keys)).length=K.length:=by simp
    rw [aPo h1,aVr h1,aPo h2,aVr h2,bM hi]
    simp only [QB,QA]
    have t1:((K.map (·.row)).take n).length≤K.length:=by simp; omega
    have t2:((K.map (·.keys)).take n).length≤K.length:=by simp; omega
    have d1:((K.map (·.row)).drop n).length≤K.length:=by simp
    have d2:((K.map (·.keys)).drop n).length≤K.length:=by simp
    rw [rJ (by simp only [QQ]; omega),rJ (l:=[]) (by simp only [QQ]; omega)]
    simp only [QA,QO]
    rw [rJ (by simp only [QD]; omega)]
    simp only [QA]
    rw [rJ (by simp only [QK,QD]; omega)]
    simp only [QA]
    rw [rJ (by simp only [QD]; omega)]
    simp only [QA]
    rw [rJ (by simp only [QK,QD]; omega)]
    simp only [QA,WF,QL,List.map_take,List.map_drop,QX,QY]
  intro n
  induction n with
  | zero =>
    intro hn
    rw [aA0]
    have:=fin 0 hn
    simp only [QB] at this
    simp only [lQ,show ((0:Nat):Int)=0 from rfl,WX,decide_false,WM,QC,if_false,QB,QA,beq_iff_eq] at this ⊢
    exact this
  | succ n ih =>
    intro hn
    have hn':n<K.length:=by omega
    have hn2:n<(K.map (·.keys)).length:=by simpa using hn'
    rw [aA0]
    have hp:decide ((0:Int)<((n+1:Nat):Int))=true:=by rw [decide_eq_true_eq]; omega
    have ew:QN .i64 (((n+1:Nat):Int) - 1)=(n:Int):=by rw [dX] <;> omega
    have eb:=getElem!_pos K n hn'
    simp only [hp,beq_self_eq_true,QU,if_true,ew,bM hn2,QB,QA,WP]
    rw [bR9 ks hk hm (hK _ (QF hn'))]
    simp only [QA]
    rw [lQ,eb]
    have e:kLt (ks.map (·.desc)) ⟨rows[i],mine⟩ K[n]=sS (ks.map (·.desc)) mine K[n].keys:=rfl
    by_cases h:sS (ks.map (·.desc)) mine K[n].keys=true
    · rw [if_pos h,e,if_pos h]
      exact ih (by omega)
    · rw [if_neg h,e,if_neg h]
      have:=fin (n+1) hn
      simp only [QB] at this
      exact this
theorem bMv {ks:List dD} (hk:ks.length≤1048576) (he:env.length≤4194304) {P:Row1→Prop} (H:∀ k∈ks,∀ r,P r→fE c d (r::env) k.expr=some (ev k.expr r)) {rows:Rows} (hr:rows.length≤1048576) (hP:∀ r∈rows,P r) :
    ∀ i,i≤rows.length→∀ K:List aU,K.length=i→KL ks.length K→xH env rows ks c d (K.map (·.row)) (K.map (·.keys),(i:Nat)) =
      if (bD (nU ev ks) (rows.drop i)).2≠0 then some ([],(bD (nU ev ks) (rows.drop i)).2)
      else some ((mF (kLt (ks.map (·.desc))) K (QR aU.mk (rows.drop i) (bD (nU ev ks) (rows.drop i)).1)).map (·.row),0):=by
  refine dZ ?_ ?_
  · intro K _ _
    rw [xH]
    simp [bD,mF]
  · intro i hi ih K hKl hK
    rw [xH,QH hi]
    simp only [bZ,hi,decide_true,if_true,bD]
    have hPr:=hP _ (QF hi)
    have m:=aCz (p:=ks) (b:=32) (g:=fun k=>ev k.expr rows[i]) (F:=fun y3=>fE c d (rows[i]::env) y3.expr)
      (L:=fun acc j=>aFv env rows ks (K.map (·.row)) (K.map (·.keys)) (i:Int) (c,d,acc,j)) (E:=fun e=>([],e)) (K:=fun acc=>aA0 env rows ks (K.map (·.row)) (K.map (·.keys)) (i:Int) (acc,c,d,((K.map (·.row)).length:Int)))
      hk (by omega) (fun k hk=>H k hk _ hPr) (fun j acc=>by
        rw [aFv]
        simp only [bM hi,aX5 _ he,QB,QA]) [] (by simp)
    rw [m]
    simp only [QO]
    by_cases h0:(bD (fun k:dD=>ev k.expr rows[i]) ks).2=0
    · have hkl:=aJs h0
      simp only [nU,h0,ne_eq,not_true_eq_false,if_false]
      have hl:(K.map (·.row)).length=K.length:=by simp
      rw [hl,cB4 hk hi hr hkl K hK (by omega) K.length (WZ _)]
      have ei:(K.take (lQ (kLt (ks.map (·.desc))) ⟨rows[i],(bD (fun k:dD=>ev k.expr rows[i]) ks).1⟩ K K.length)++(⟨rows[i],(bD (fun k:dD=>ev k.expr rows[i]) ks).1⟩:aU)::K.drop (lQ (kLt (ks.map (·.desc))) ⟨rows[i],(bD (fun k:dD=>ev k.expr rows[i]) ks).1⟩ K K.length))=G6 (kLt (ks.map (·.desc))) ⟨rows[i],(bD (fun k:dD=>ev k.expr rows[i]) ks).1⟩ K:=rfl
      rw [ei,dI hi (by omega),ih _ (by rw [bI0,hKl]) (fun k hk=>by
        have:=(aW6 _ _ _).subset hk
        rcases WA.1 this with rfl | hk
        · exact hkl
        · exact hK k hk)]
      by_cases h1:(bD (nU ev ks) (rows.drop (i+1))).2=0
      · simp only [h1,ne_eq,not_true_eq_false,if_false,WE,mF]
      · simp [h1]
    · simp [h0,nU]
theorem bJ7 (r:Rows):bD (nU ev []) r=(r.map fun _=>[],0):=by
  induction r with
  | nil=>rfl
  | cons x r ih=>rw [bD,ih]; simp [nU,bD]
theorem cCd (r:Rows):iZ [] r=(r,0):=by
  unfold iZ
  have e:(fun row:Row1=>bD (fun k:Gf×Bool=>k.1 row) [])=nU (fun _ _=>(⟨0,0,[]⟩,0)) []:=by
    funext row; rfl
  rw [e,bJ7]
  simp only [ne_eq,not_true_eq_false,if_false,QP]
  rw [bHm _ (fun a b=>by simp [kLt,sS])]
  congr 1
  simp only [QO]
  induction r with
  | nil=>rfl
  | cons x r ih=>simp only [QL,WE,List.cons.injEq,true_and]; exact ih
theorem bN9 {ks:List dD} (hk:ks.length≤1048576) (he:env.length≤4194304) {P:Row1→Prop} (H:∀ k∈ks,∀ r,P r→fE c d (r::env) k.expr=some (ev k.expr r)) {rows:Rows} (hr:rows.length≤1048576) (hP:∀ r∈rows,P r) :
    aIo c d env rows ks=some (iZ (ks.map fun k=>(ev k.expr,k.desc)) rows):=by
  have:=bMv (c:=c) (d:=d) hk he H hr hP 0 (by omega) [] rfl (fun k hk=>by simp at hk)
  rw [show ((0:Nat):Int)=0 from rfl,QP,QP] at this
  rw [aIo,this]
  unfold iZ
  have e:(fun row:Row1=>bD (fun k:Gf×Bool=>k.1 row) (ks.map fun k=>(ev k.expr,k.desc)))=nU ev ks:=by
    funext row; rw [aAm]
  have e2:(ks.map fun k=>(ev k.expr,k.desc)).map (·.2)=ks.map (·.desc):=by rw [List.map_map]; rfl
  rw [e,e2,QM]
  split <;> rfl
end
section
variable {c:aQ} {d:GDb} {env:Rows} {ev:aJ→Gf}
theorem okS27 (p:aP) (ht:p.tables.length≤1048576) (hd:d.tables.length≤1048576):aI8 d p=some (!(decide (p.tables.length=0)||!decide (p.on_.length=p.tables.length))&&nP d p.tables):=by
  have key:∀ i,i≤p.tables.length→aAa d p (i:Nat)=some (nP d (p.tables.drop i)):=by
    refine dZ ?_ ?_
    · rw [aAa]; simp [nP]
    · intro i hi ih
      rw [aAa,QH hi]
      simp only [bZ,hi,decide_true,if_true,bM hi,QB,QA,aMb,dX (n:=(d.tables.length:Int) - 1) (by omega) (by omega)]
      have e:nP d (p.tables[i]::p.tables.drop (i+1))=((decide (0≤p.tables[i])&&decide (p.tables[i]<(d.tables.length:Int)))&&nP d (p.tables.drop (i+1))):=rfl
      have e2:decide (p.tables[i]≤(d.tables.length:Int) - 1)=decide (p.tables[i]<(d.tables.length:Int)):=by
        by_cases h:p.tables[i]<(d.tables.length:Int)
        · rw [decide_eq_true h,decide_eq_true (by omega)]
        · rw [decide_eq_false h,decide_eq_false (by omega)]
      rw [e,e2,dI hi (by omega),ih]
      rcases (decide (0≤p.tables[i])&&decide (p.tables[i]<(d.tables.length:Int))) with _ | _ <;> simp
  unfold aI8
  simp only [QB,QA,orB]
  by_cases h0:p.tables.length=0
  · simp [h0]
  by_cases h1:p.on_.length=p.tables.length
  · have e0:¬ (p.tables.length:Int)=0:=by omega
    have e1:(p.on_.length:Int)=(p.tables.length:Int):=by omega
    have k:=key 0 (by omega)
    rw [show ((0:Nat):Int)=0 from rfl,QM] at k
    simp only [e0,e1,h0,h1,decide_true,decide_false,QE,WD,QC,if_false,k,WN,Bool.true_and]
  · have e1:¬ (p.on_.length:Int)=(p.tables.length:Int):=by omega
    simp [h1,e1]
theorem bI9 (a b:Row1) (ha:a.length≤1048576):aDm a b=some (decide (a=b)):=by
  unfold aDm
  by_cases hl:a.length=b.length
  · have key:∀ i,i≤a.length→U6 a b (i:Nat)=some (decide (a.drop i=b.drop i)):=by
      refine dZ ?_ ?_
      · rw [U6]
        rw [QZ,hl,QZ]; simp
      · intro i hi ih
        have hb:i<b.length:=by omega
        rw [U6]
        simp only [bZ,hi,decide_true,if_true,bM hi,bM hb,QB,QA]
        rw [dI hi (by omega),ih,QH hi,QH hb]
        have e:=aWa a[i] b[i]
        unfold aLz at e
        by_cases h:a[i]=b[i]
        · rw [if_neg (by rw [e.2 h]; decide),h]; simp only [List.cons.injEq,true_and]
        · rw [if_pos (by rw [Bool.eq_false_iff.2 (fun h'=>h (e.1 h'))]; rfl)]; simp only [List.cons.injEq,h,false_and,decide_false]
    have:=key 0 (by omega)
    simp only [QM] at this
    rw [if_neg (by simp; omega)]
    exact this
  · have:a≠b:=fun e=>hl (by rw [e])
    rw [if_pos (by simp; omega)]
    simp [this]
theorem bUc {p acc:Rows} {i:Nat} (hi:i<p.length) (ha:acc.length≤1048576) (hl:∀ y∈acc,y.length≤1048576) :
    ∀ j,j≤acc.length→∀ b:Bool,aCg p acc (i:Int) b (j:Nat)=if (b||decide (p[i]∈acc.drop j))=true then yR p (i:Int) acc else ((aAr p[i])>>=fun (y6:List aA)=>(appG 24 acc ([y6]:List (List aA)))>>=fun (y7:List (List aA))=>yR p (i:Int) y7):=by
  refine dZ ?_ ?_
  · intro b
    rw [aCg]
    cases b <;> simp [bM hi]
  · intro j hj ih b
    rw [aCg,QH hj]
    cases b with
    | true =>
      simp only [bZ,hj,decide_true,if_true,WO,beq_iff_eq,WM,QC,if_false,QB,QA,show (true==false)=false from rfl]
      rw [dI hj (by omega),ih]
      simp
    | false =>
      simp only [bZ,hj,decide_true,if_true,beq_self_eq_true,QU,QC,if_false,bM hj,bM hi,QB,QA,bI9 _ p[i] (hl _ (QF hj))]
      rw [dI hj (by omega),ih]
      by_cases h:acc[j]=p[i]
      · rw [if_pos (by simp [h]),if_pos (by simp [h])]
      · have h':¬ p[i]=acc[j]:=fun e=>h e.symm
        have e:(false||decide (p[i]∈acc[j]::acc.drop (j+1)))=(decide (acc[j]=p[i])||decide (p[i]∈acc.drop (j+1))):=by simp [h,h',-List.getElem_cons_drop]
        rw [e]
        simp only [QB]
theorem bU4 (p:Rows) (hp:p.length≤1048576) (hr:∀ y∈p,y.length≤1048576):aDd p=some (mE [] p):=by
  have key:∀ i,i≤p.length→∀ acc:Rows,acc.length≤i→(∀ y∈acc,y.length≤1048576)→aAk p acc (i:Nat)=some (mE acc (p.drop i)):=by
    refine dZ ?_ ?_
    · intro acc _ _
      rw [aAk]; simp [mE]
    · intro i hi ih acc ha hl
      have hy:=hr _ (QF hi)
      have k:=bUc hi (by omega) hl 0 (by omega) false
      rw [show ((0:Nat):Int)=0 from rfl,QM,WG] at k
      rw [aAk,QH hi,mE]
      simp only [bZ,hi,decide_true,if_true,k,decide_eq_true_eq]
      by_cases h:p[i]∈acc
      · rw [if_pos h,if_pos h,yR,dI hi (by omega)]
        exact ih acc (by omega) hl
      · rw [if_neg h,if_neg h,bI5 _ hy]
        simp only [QB,QA]
        rw [rJ (by simp only [QD]; omega)]
        simp only [QA]
        rw [yR,dI hi (by omega)]
        exact ih _ (by simp only [QK,QD]; omega) (fun y hy'=>by
          rcases QS.1 hy' with h | h
          · exact hl y h
          · simp at h; subst h; exact hy)
  unfold aDd
  simpa using key 0 (by omega) [] (by simp) (by simp)
theorem bTw {l:List aJ} (hl:l.length≤1048576) (he:env.length≤4194304) {P:Row1→Prop} (H:∀ e∈l,∀ r,P r→fE c d (r::env) e=some (ev e r)) {rows:Rows} (hr:rows.length≤1048576) (hP:∀ r∈rows,P r) :
    aGy c d env rows l=some (mI (l.map ev) rows):=by
  have e:mI (l.map ev) rows=bD (fun row=>bD (fun e=>ev e row) l) rows:=by
    unfold mI
    congr 1
    funext row
    rw [aAm]
  have key:∀ i,i≤rows.length→∀ acc:Rows,acc.length≤i→N8 env rows l c d acc (i:Nat)=if (bD (fun row=>bD (fun e=>ev e row) l) (rows.drop i)).2≠0 then some ([],(bD (fun row=>bD (fun e=>ev e row) l) (rows.drop i)).2) else some (acc++(bD (fun row=>bD (fun e=>ev e row) l) (rows.drop i)).1,0):=by
    refine dZ ?_ ?_
    · intro acc _
      rw [N8]; simp [bD]
    · intro i hi ih acc ha
      have hPr:=hP _ (QF hi)
      rw [N8,QH hi]
      simp only [bZ,hi,decide_true,if_true,bD]
      have m:=aCz (p:=l) (b:=32) (g:=fun k=>ev k rows[i]) (F:=fun y3=>fE c d (rows[i]::env) y3)
        (L:=fun a j=>aAj env rows l acc (i:Int) c (d,a,j)) (E:=fun e=>([],e)) (K:=fun a=>(appG 24 acc ([a]:List (List aA)))>>=fun (y6:List (List aA))=>N8 env rows l c d y6 (QN .i64 ((i:Int)+1)))
        hl (by omega) (fun k hk=>H k hk _ hPr) (fun j a=>by
          rw [aAj]
          simp only [bM hi,aX5 _ he,QB,QA]) [] (by simp)
      rw [m]
      simp only [QO]
      by_cases h0:(bD (fun k=>ev k rows[i]) l).2=0
      · simp only [h0,ne_eq,not_true_eq_false,if_false,QB]
        rw [rJ (by simp only [QD]; omega)]
        simp only [QA]
        rw [dI hi (by omega),ih _ (by simp only [QK,QD]; omega)]
        by_cases h1:(bD (fun row=>bD (fun e=>ev e row) l) (rows.drop (i+1))).2=0
        · simp only [h1,ne_eq,not_true_eq_false,if_false,QX,QY]
        · simp [h1]
      · simp [h0]
  have k:=key 0 (by omega) [] (by simp)
  rw [show ((0:Nat):Int)=0 from rfl,QM,QO] at k
  rw [aGy,k,e]
  by_cases h0:(bD (fun row=>bD (fun e=>ev e row) l) rows).2=0
  · rw [if_neg (by simp [h0])]
    generalize bD (fun row=>bD (fun e=>ev e row) l) rows=M at h0 ⊢
    obtain ⟨a,b⟩:=M
    dsimp only at h0
    subst h0
    rfl
  · rw [if_pos h0]
    have e2:(bD (fun row=>bD (fun e=>ev e row) l) rows).1=[]:=by
      cases rows with
      | nil=>simp [bD] at h0
      | cons x rs =>
        rw [bD] at h0 ⊢
        split
        · rfl
        split
        · rfl
        · rename_i a b
          rw [if_neg a,if_neg b] at h0
          simp at h0
    rw [← e2]
theorem bSy {p:aP} (r:Rows) (hr:r.length≤1048576) (hl:∀ y∈r,y.length≤1048576):(if p.distinct=true then ((aDd r)>>=fun (y6:List (List aA))=>R9 p y6) else (R9 p r))=some (uN p.distinct p.limit r,0):=by
  have J:∀ y:Rows,y.length≤1048576→R9 p y=some (aB2 p.limit y,0):=fun y hy=>by
    unfold R9 aK6
    exact bC2 p.limit y hy
  unfold uN
  by_cases hd:p.distinct=true
  · rw [if_pos hd,if_pos hd,bU4 r hr hl]
    exact J _ (by have:=aIs r []; simp at this; omega)
  · rw [if_neg hd,if_neg hd]; exact J r hr
theorem aNe {α β γ:Type} (f:α→β→γ):∀ (A:List α) (B:List β) (z:γ),z∈QR f A B→∃ a∈A,∃ b∈B,z=f a b
  | [],B,z,h=>by simp at h
  | a::A,[],z,h=>by simp at h
  | a::A,b::B,z,h=>by
    rw [WE,WA] at h
    rcases h with rfl | h
    · exact ⟨a,by simp,b,by simp,rfl⟩
    · obtain ⟨x,hx,y,hy,e⟩:=aNe f A B z h
      exact ⟨x,WB _ hx,y,WB _ hy,e⟩
theorem bDb {ks:List (Gf×Bool)} {r:Rows}:(iZ ks r).1.length≤r.length∧∀ x∈(iZ ks r).1,x∈r:=by
  unfold iZ
  split
  · simp
  · refine ⟨?_,fun x hx=>?_⟩
    · rw [WQ,(aE2 _ _ _).length_eq]
      simp only [QO,List.length_zipWith]
      omega
    · obtain ⟨k,hk,rfl⟩:=WR.1 hx
      have hk2:=(aE2 _ _ _).subset hk
      rw [QO] at hk2
      obtain ⟨a,ha,b,_,rfl⟩:=aNe _ _ _ _ hk2
      exact ha
theorem bN0 {N R:Nat} (hN:N≤1048576) (hd:DbB R d) (hdl:d.tables.length≤1048576) (he:env.length≤4194304) {p:aP} (hp:aPn N R p)
    (H:∀ e∈fP p,∀ r,fM 3 r→fE c d (r::env) e=some (ev e r)):uU c d env p=some (kS d ev p):=by
  have t3:=hp.t3
  have Hon:∀ y∈p.on_,∀ e∈y,∀ r,fM 3 r→fE c d (r::env) e=some (ev e r):=fun y hy e he=>H e (by
    unfold fP
    simp only [QS,WS]
    exact .inl (.inl (.inl ⟨y,hy,he⟩)))
  have Hwh:∀ e∈p.where_,∀ r,fM 3 r→fE c d (r::env) e=some (ev e r):=fun e he=>H e (by unfold fP; simp [he])
  have Hor:∀ k∈p.order,∀ r,fM 3 r→fE c d (r::env) k.expr=some (ev k.expr r):=fun k hk=>H k.expr (by
    unfold fP
    simp only [QS,WS]
    exact .inl (.inr ⟨k,hk,by simp⟩))
  have Hit:∀ e∈p.items,∀ r,fM 3 r→fE c d (r::env) e=some (ev e r):=fun e he=>H e (by unfold fP; simp [he])
  rw [uU,okS27 p (by omega) hdl]
  unfold kS
  simp only [QB,QA]
  by_cases h0:p.tables.length=0
  · simp [h0]
  by_cases h1:p.on_.length=p.tables.length
  case neg=>simp [h1]
  by_cases h2:nP d p.tables=true
  case neg=>simp [h2]
  simp only [h0,h1,h2,decide_true,decide_false,QE,WD,WN,QU,QC,if_false,ne_eq,not_true_eq_false,or_self,WO]
  have j:=bY1 (c:=c) (env:=env) (ev:=ev) hN hd he hp h1 h2 Hon 0 (by omega) [[]] (by simp) (fun r hr=>by simp at hr; subst hr; exact ⟨by simp,by simp⟩)
  rw [show ((0:Nat):Int)=0 from rfl,QM,QM] at j
  rw [aM1,j]
  unfold aC3 jH Y8
  dsimp only
  have jm:∀ s∈QR (fun (t:Int) (l:List aJ)=>(rowsOf d t,l.map ev)) p.tables p.on_,∃ x∈d.tables,x.rows=s.1:=by
    intro s hs
    obtain ⟨a,ha,b,_,rfl⟩:=aNe _ _ _ _ hs
    exact aMt h2 (WT ha)
  have js:(QR (fun (t:Int) (l:List aJ)=>(rowsOf d t,l.map ev)) p.tables p.on_).length=p.tables.length:=by simp [h1]
  have jl:=aOw R (QR (fun (t:Int) (l:List aJ)=>(rowsOf d t,l.map ev)) p.tables p.on_) [[]] 1 (fun s hs=>by obtain ⟨x,hx,e⟩:=jm s hs; rw [← e]; exact hd.rows x hx) (by simp)
  have jB:=aNz (QR (fun (t:Int) (l:List aJ)=>(rowsOf d t,l.map ev)) p.tables p.on_) [[]] 0 (fun s hs=>by obtain ⟨x,hx,e⟩:=jm s hs; rw [← e]; exact hd.row x hx) (fun r hr=>by simp at hr; subst hr; exact ⟨by simp,by simp⟩)
  rw [js,XA] at jl
  rw [js,XB] at jB
  have RN:=hp.RN
  generalize joE (QR (fun (t:Int) (l:List aJ)=>(rowsOf d t,l.map ev)) p.tables p.on_) [[]]=J at jl jB ⊢
  obtain ⟨J1,J2⟩:=J
  dsimp only at jl jB ⊢
  by_cases g0:J2=0
  case neg=>simp [g0]
  subst g0
  simp only [decide_true,QE,QC,if_false,ne_eq,not_true_eq_false,QA]
  rw [bGw he hp.wh Hwh J1 (by omega) (fun r hr=>aAt t3 (jB r hr))]
  simp only [QA]
  have wl:=aD9 (p.where_.map ev) J1
  have wB:∀ r∈(whE (p.where_.map ev) J1).1,fM 3 r:=fun r hr=>aAt t3 (jB r ((L6 _ _).subset hr))
  generalize whE (p.where_.map ev) J1=W at wl wB ⊢
  obtain ⟨W1,W2⟩:=W
  dsimp only at wl wB ⊢
  by_cases g1:W2=0
  case neg=>simp [g1]
  subst g1
  simp only [decide_true,QE,QC,if_false,ne_eq,not_true_eq_false]
  have Fin:∀ S1:Rows,S1.length≤1048576→(∀ r∈S1,fM 3 r)→aEm env c d p S1=some (if (mI (p.items.map ev) S1).2≠0 then ([],(mI (p.items.map ev) S1).2) else (uN p.distinct p.limit (mI (p.items.map ev) S1).1,0)):=by
    intro S1 sl sB
    rw [aEm,bTw hp.it he Hit sl sB]
    simp only [QB,QA]
    have ml:(mI (p.items.map ev) S1).1.length≤S1.length:=aDy _
    have mm:∀ y∈(mI (p.items.map ev) S1).1,y.length≤1048576:=by
      intro y hy
      obtain ⟨r,_,rfl,_⟩:=aCt hy
      exact QJ (aDy _) (by simpa using hp.it)
    generalize mI (p.items.map ev) S1=M at ml mm ⊢
    obtain ⟨M1,M2⟩:=M
    dsimp only at ml mm ⊢
    by_cases g3:M2=0
    case neg=>simp [g3]
    subst g3
    simp only [decide_true,QE,QC,if_false,ne_eq,not_true_eq_false]
    exact bSy M1 (by omega) mm
  by_cases go:(0:Int)<(p.order.length:Int)
  · rw [if_pos (by simpa using go),bN9 hp.ord he Hor (by omega) wB]
    simp only [QA]
    obtain ⟨sl,sm⟩:=bDb (ks:=p.order.map fun k=>(ev k.expr,k.desc)) (r:=W1)
    generalize iZ (p.order.map fun k=>(ev k.expr,k.desc)) W1=S at sl sm ⊢
    obtain ⟨S1,S2⟩:=S
    dsimp only at sl sm ⊢
    by_cases g2:S2=0
    case neg=>simp [g2]
    subst g2
    simp only [decide_true,QE,QC,if_false,ne_eq,not_true_eq_false]
    exact Fin S1 (by omega) fun r hr=>wB r (sm r hr)
  · rw [if_neg (by simpa using go)]
    have:p.order=[]:=WH (by omega)
    rw [this,QP,cCd]
    simp only [ne_eq,not_true_eq_false,if_false]
    exact Fin W1 (by omega) wB
end
def FK (kind:Int) (k s:Nat):Prop:=(kind=1∧k=0∧s=0)∨(kind=2∧k=0∧s=0)∨(kind=3∧k=1∧s=0)∨(kind=4∧k=2∧s=0)∨(kind=5∧k=1∧s=0)∨(kind=6∧k=3∧s=0)∨(kind=7∧(2≤k∧k≤9)∧s=0)∨(kind=8∧k=1∧s=1)∨(kind=9∧k=0∧s=1)
instance (kind:Int) (k s:Nat):Decidable (FK kind k s):=by unfold FK; infer_instance
theorem aRq (kind:Int) (k s:Nat):aJg kind (k:Int) (s:Int)=some (decide (FK kind k s)):=by
  have v:aCr ⟨0,0,[]⟩=some true:=by decide
  have nm:qX [120]=some true:=by decide
  unfold aJg aO1 aK1 zK FK
  simp only [v,nm,uK,QB,QA]
  by_cases h1:kind=1
  · subst h1; simp <;> (rw [QI]; simp only [QG,decide_eq_true_eq]; omega)
  by_cases h2:kind=2
  · subst h2; simp <;> (rw [QI]; simp only [QG,decide_eq_true_eq]; omega)
  by_cases h3:kind=3
  · subst h3; simp <;> (rw [QI]; simp only [QG,decide_eq_true_eq]; omega)
  by_cases h4:kind=4
  · subst h4; simp <;> (rw [QI]; simp only [QG,decide_eq_true_eq]; omega)
  by_cases h5:kind=5
  · subst h5; simp <;> (rw [QI]; simp only [QG,decide_eq_true_eq]; omega)
  by_cases h6:kind=6
  · subst h6; simp <;> (rw [QI]; simp only [QG,decide_eq_true_eq]; omega)
  by_cases h7:kind=7
  · subst h7; simp <;> (rw [QI]; simp only [QG,decide_eq_true_eq]; omega)
  by_cases h8:kind=8
  · subst h8; simp <;> (rw [QI]; simp only [QG,decide_eq_true_eq]; omega)
  by_cases h9:kind=9
  · subst h9; simp <;> (rw [QI]; simp only [QG,decide_eq_true_eq]; omega)
  simp [h1,h2,h3,h4,h5,h6,h7,h8,h9]
theorem aPa (e:aJ) (hk:e.kids.length≤1048576) (hs:e.sub.length≤1048576):aEg e=some (decide (FK e.kind e.kids.length e.sub.length)):=by
  unfold aEg aHg aIb FK
  simp only [uK,aMb,dX (n:=(e.kids.length:Int)+e.sub.length) (by omega) (by omega),QB,QA]
  generalize e.kids.length=k
  generalize e.sub.length=s
  generalize e.kind=kind
  by_cases h1:kind=1
  · subst h1; simp <;> (rw [QI]; simp only [QG,decide_eq_true_eq]; omega)
  by_cases h2:kind=2
  · subst h2; simp <;> (rw [QI]; simp only [QG,decide_eq_true_eq]; omega)
  by_cases h3:kind=3
  · subst h3; simp <;> (rw [QI]; simp only [QG,decide_eq_true_eq]; omega)
  by_cases h4:kind=4
  · subst h4; simp <;> (rw [QI]; simp only [QG,decide_eq_true_eq]; omega)
  by_cases h5:kind=5
  · subst h5; simp <;> (rw [QI]; simp only [QG,decide_eq_true_eq]; omega)
  by_cases h6:kind=6
  · subst h6; simp <;> (rw [QI]; simp only [QG,decide_eq_true_eq]; omega)
  by_cases h7:kind=7
  · subst h7; simp <;> (rw [QI]; simp only [QG,decide_eq_true_eq]; omega)
  by_cases h8:kind=8
  · subst h8; simp <;> (rw [QI]; simp only [QG,decide_eq_true_eq]; omega)
  by_cases h9:kind=9
  · subst h9; simp <;> (rw [QI]; simp only [QG,decide_eq_true_eq]; omega)
  simp [h1,h2,h3,h4,h5,h6,h7,h8,h9]
def notP (e:aJ) (r:aA×Int):aA×Int:=if r.2≠0 then (⟨0,0,[]⟩,r.2) else if e.not_=true then unP 15 r.1 else (r.1,0)
def jP:Rows→Row1×Int
  | []=>([],0)
  | r::l=>match r with
    | []=>([],4)
    | v::_=>if (jP l).2≠0 then ([],(jP l).2) else (v::(jP l).1,0)
def inP (x:aA) (rows:Rows):aA×Int:=if (jP rows).2≠0 then (⟨0,0,[]⟩,(jP rows).2) else qH x (jP rows).1 (vBl false)
def aDe (e:aJ) (kids:Row1) (rows:Rows):aA×Int :=
  if e.kind=1 then (e.value,0)
  else if e.kind=3 then unP e.op kids[0]!
  else if e.kind=4 then jF e.op kids[0]! kids[1]!
  else if e.kind=5 then (vBl (!((decide (kids[0]!.kind=0))==e.not_)),0)
  else if e.kind=6 then notP e (D6 kids[0]! kids[1]! kids[2]!)
  else if e.kind=7 then notP e (qH kids[0]! (kids.drop 1) (vBl false))
  else if e.kind=9 then (vBl (decide (0<rows.length)),0)
  else notP e (inP kids[0]! rows)
theorem bFt:∀ {rows:Rows},(∀ r∈rows,∀ v∈r,okI v.num)→∀ v∈(jP rows).1,okI v.num
  | [],_,v,hv=>by simp [jP] at hv
  | []::l,_,v,hv=>by simp [jP] at hv
  | (x::r)::l,h,v,hv=>by
    rw [jP] at hv
    split at hv
    · simp at hv
    · rcases WA.1 hv with rfl | hv
      · exact h (v::r) (by simp) v (by simp)
      · exact bFt (fun r hr=>h r (WB _ hr)) v hv
theorem aRh (e:aJ) {r:aA×Int} (hr:okI r.1.num):(if (!decide (r.2=0))=true then (some ((aA.mk 0 0 []),r.2)) else (if e.not_=true then ((aBd 15 r.1)>>=fun (y10:aA×Int)=>some (y10.1,y10.2)) else (some (r.1,0))))=some (notP e r):=by
  unfold notP
  rw [unI hr]
  by_cases h:r.2=0
  · by_cases h2:e.not_=true <;> simp [h,h2]
  · simp [h]
theorem aMo (e:aJ) {r:aA×Int} (hr:okI r.1.num):aBb e r.1 r.2=some (notP e r):=by
  unfold aBb notP
  rw [unS hr]
  by_cases h:r.2=0
  · by_cases h2:e.not_=true <;> simp [h,h2]
  · simp [h]
theorem bSs {n:oM} {x:aA} {ks:Row1} (hn:n.kids=x::ks) (hx:okI x.num) (hl:n.rows.length≤1048576) (hv:∀ r∈n.rows,∀ v∈r,okI v.num):zO n [] 0=some (inP x n.rows):=by
  have key:∀ i,i≤n.rows.length→∀ acc:Row1,acc.length≤i→(∀ v∈acc,okI v.num)→zO n acc (i:Nat)=some (if (jP (n.rows.drop i)).2≠0 then (⟨0,0,[]⟩,(jP (n.rows.drop i)).2) else qH x (acc++(jP (n.rows.drop i)).1) (vBl false)):=by
    refine dZ ?_ ?_
    · intro acc ha hva
      have h0:idx n.kids 0=some x:=by rw [hn]; rfl
      rw [zO]
      simp only [bZ,QW,decide_false,QC,if_false,h0,QB,QA,(aXj (p:=acc) (by omega) hx hva).1,QZ,jP,ne_eq,not_true_eq_false,WU]
    · intro i hi ih acc ha hva
      rw [zO,QH hi]
      simp only [bZ,hi,decide_true,if_true,bM hi,QB,QA]
      have hvi:=hv _ (QF hi)
      generalize n.rows[i]=r at hvi ⊢
      cases r with
      | nil=>simp [jP]
      | cons v r =>
        have i0:idx (v::r) 0=some v:=rfl
        have ne:¬ (((v::r).length:Int)=0):=by simp only [QT]; omega
        simp only [ne,decide_false,QC,if_false,i0,QA]
        rw [nK (by simp only [QD]; omega)]
        simp only [QA]
        rw [dI hi (by omega),ih _ (by simp only [QK,QD]; omega) (fun w hw=>by
          rcases QS.1 hw with hw | hw
          · exact hva w hw
          · simp at hw; subst hw; exact hvi _ (by simp))]
        rw [jP]
        by_cases h:(jP (n.rows.drop (i+1))).2=0
        · simp only [h,ne_eq,not_true_eq_false,if_false,QX,QY]
        · simp [h]
  have:=key 0 (by omega) [] (by simp) (by simp)
  unfold inP
  simpa using this
theorem bN2 {e:aJ} {x:aA} {ks:Row1} {rows:Rows} (hx:okI x.num) (hl:rows.length≤1048576) (hv:∀ r∈rows,∀ v∈r,okI v.num):yX (x::ks) rows e [] 0=some (notP e (inP x rows)):=by
  have key:∀ i,i≤rows.length→∀ acc:Row1,acc.length≤i→(∀ v∈acc,okI v.num)→yX (x::ks) rows e acc (i:Nat)=some (if (jP (rows.drop i)).2≠0 then (⟨0,0,[]⟩,(jP (rows.drop i)).2) else notP e (qH x (acc++(jP (rows.drop i)).1) (vBl false))):=by
    refine dZ ?_ ?_
    · intro acc ha hva
      have h0:idx (x::ks) 0=some x:=rfl
      rw [yX]
      simp only [bZ,QW,decide_false,QC,if_false,h0,QB,QA,(aXj (p:=acc) (by omega) hx hva).2,aMo e (aH0 hx hva (aIf false)),QZ,jP,ne_eq,not_true_eq_false,WU]
      rw [show (vBl false)=⟨3,if false=true then 1 else 0,[]⟩ from rfl,aMo e (aH0 hx hva (aIf false))]
      rfl
    · intro i hi ih acc ha hva
      rw [yX,QH hi]
      simp only [bZ,hi,decide_true,if_true,bM hi,QB,QA]
      have hvi:=hv _ (QF hi)
      generalize rows[i]=r at hvi ⊢
      cases r with
      | nil=>simp [jP]
      | cons v r =>
        have i0:idx (v::r) 0=some v:=rfl
        have ne:¬ (((v::r).length:Int)=0):=by simp only [QT]; omega
        simp only [ne,decide_false,QC,if_false,i0,QA]
        rw [nK (by simp only [QD]; omega)]
        simp only [QA]
        rw [dI hi (by omega),ih _ (by simp only [QK,QD]; omega) (fun w hw=>by
          rcases QS.1 hw with hw | hw
          · exact hva w hw
          · simp at hw; subst hw; exact hvi _ (by simp))]
        rw [jP]
        by_cases h:(jP (rows.drop (i+1))).2=0
        · simp only [h,ne_eq,not_true_eq_false,if_false,QX,QY]
        · simp [h]
  have:=key 0 (by omega) [] (by simp) (by simp)
  have e2:notP e (inP x rows)=if (jP rows).2≠0 then (⟨0,0,[]⟩,(jP rows).2) else notP e (qH x (jP rows).1 (vBl false)):=by
    unfold inP
    by_cases h:(jP rows).2=0
    · simp [h]
    · rw [if_pos h,if_pos h]; unfold notP; simp [h]
  rw [e2]
  simpa using this
theorem cAe {x:aA} {rows:Rows} (hx:okI x.num) (hv:∀ r∈rows,∀ v∈r,okI v.num):okI (inP x rows).1.num:=by
  unfold inP
  split
  · exact ok0
  · exact aH0 hx (bFt hv) (aIf false)
theorem aVb {e:aJ} {r:aA×Int} (h:okI r.1.num):okI (notP e r).1.num:=by
  unfold notP
  split
  · exact ok0
  split
  · exact bAl h
  · exact h
theorem aWf {k:Row1} (h:k.length=1):∃ a,k=[a]:=by
  match k,h with
  | [a],_=>exact ⟨a,rfl⟩
theorem bWi {k:Row1} (h:k.length=2):∃ a b,k=[a,b]:=by
  match k,h with
  | [a,b],_=>exact ⟨a,b,rfl⟩
theorem bWt {k:Row1} (h:k.length=3):∃ a b c,k=[a,b,c]:=by
  match k,h with
  | [a,b,c],_=>exact ⟨a,b,c,rfl⟩
theorem bEn {e:aJ} {env:Rows} {kids:Row1} {rows:Rows} {s:Nat} (hf:FK e.kind kids.length s) (h2:e.kind≠2) (hev:okI e.value.num) (hk:∀ v∈kids,okI v.num) (hl:rows.length≤1048576) (hv:∀ r∈rows,∀ v∈r,okI v.num) :
    aI2 (oM.mk e.kind e.op e.not_ e.value kids rows)=some (aDe e kids rows)∧uH env kids e rows=some (aDe e kids rows)∧okI (aDe e kids rows).1.num:=by
  unfold aI2 uH aDe
  rcases hf with ⟨k,_⟩ | ⟨k,_⟩ | ⟨k,hl1,_⟩ | ⟨k,hl1,_⟩ | ⟨k,hl1,_⟩ | ⟨k,hl1,_⟩ | ⟨k,hl1,_⟩ | ⟨k,hl1,_⟩ | ⟨k,hl1,_⟩
  · simp [k,hev]
  · exact absurd k h2
  · obtain ⟨a,rfl⟩:=aWf hl1
    have ha:=hk a (by simp)
    simp [k,idx,unI ha,unS ha,bAl ha]
  · obtain ⟨a,b,rfl⟩:=bWi hl1
    have ha:=hk a (by simp)
    have hb:=hk b (by simp)
    simp [k,idx,aFm ha hb,aCh ha hb,yP ha hb]
  · obtain ⟨a,rfl⟩:=aWf hl1
    simp only [k,idx,aCa,wS,vBl]
    refine ⟨rfl,rfl,?_⟩
    exact aPq _
  · obtain ⟨a,b,c,rfl⟩:=bWt hl1
    have ha:=hk a (by simp)
    have hb:=hk b (by simp)
    have hc:=hk c (by simp)
    have ni:=aRh e (r:=D6 a b c) (aY1 ha hb hc)
    have ns:=aMo e (r:=D6 a b c) (aY1 ha hb hc)
    unfold aEn
    simp [k,idx,bUu ha hb hc,bQd ha hb hc,ns,aVb (e:=e) (aY1 ha hb hc)]
    simpa using ni
  · obtain ⟨a,ks,rfl⟩:∃ a ks,kids=a::ks:=by
      cases kids with
      | nil=>simp at hl1
      | cons a ks=>exact ⟨a,ks,rfl⟩
    have ha:=hk a (by simp)
    have hks:∀ v∈ks,okI v.num:=fun v hv=>hk v (by simp [hv])
    have hlk:ks.length≤1048576:=by simp at hl1; omega
    have w:=aXj hlk ha hks
    have wo:okI (qH a ks (vBl false)).1.num:=aH0 ha hks (aIf false)
    have ni:=aRh e wo
    have ns:=aMo e wo
    have sb:iW (a::ks) 1 ((a::ks).length:Int)=some ks:=by
      have:=aVr (l:=a::ks) (n:=1) (by simp)
      simpa using this
    have i0:idx (a::ks) 0=some a:=rfl
    unfold aEn
    simp only [k,i0,sb,w.1,w.2,ns,QB,QA,show ¬ ((7:Int)=1) by decide,show ¬ ((7:Int)=2) by decide,show ¬ ((7:Int)=3) by decide,show ¬ ((7:Int)=4) by decide,show ¬ ((7:Int)=5) by decide,show ¬ ((7:Int)=6) by decide,show ¬ ((7:Int)=9) by decide,decide_false,decide_true,QC,if_false,if_true]
    exact ⟨ni,rfl,aVb wo⟩
  · obtain ⟨a,rfl⟩:=aWf hl1
    have ha:=hk a (by simp)
    have io:=cAe (rows:=rows) ha hv
    have ni:=aRh e io
    have si:=bSs (n:=oM.mk e.kind e.op e.not_ e.value [a] rows) (x:=a) (ks:=[]) rfl ha hl hv
    have ss:=bN2 (e:=e) (x:=a) (ks:=[]) ha hl hv
    unfold aEn
    rw [k] at si
    simp only [k,si,ss,QB,QA,show ¬ ((8:Int)=1) by decide,show ¬ ((8:Int)=2) by decide,show ¬ ((8:Int)=3) by decide,show ¬ ((8:Int)=4) by decide,show ¬ ((8:Int)=5) by decide,show ¬ ((8:Int)=6) by decide,show ¬ ((8:Int)=7) by decide,show ¬ ((8:Int)=9) by decide,decide_false,decide_true,QC,if_false,if_true]
    exact ⟨ni,rfl,aVb io⟩
  · simp only [k,aCa,wS,QB,QA,show ¬ ((9:Int)=1) by decide,show ¬ ((9:Int)=2) by decide,show ¬ ((9:Int)=3) by decide,show ¬ ((9:Int)=4) by decide,show ¬ ((9:Int)=5) by decide,show ¬ ((9:Int)=6) by decide,show ¬ ((9:Int)=7) by decide,decide_false,decide_true,QC,if_false,if_true]
    have e1:decide ((0:Int)<(rows.length:Int))=decide (0<rows.length):=by simp
    rw [e1]
    exact ⟨rfl,rfl,aPq _⟩
structure Closed (N R:Nat) (GE:aJ→Prop) (GP:aP→Prop):Prop where
  val:∀ e,GE e→okI e.value.num
  kid:∀ e,GE e→∀ k∈e.kids,GE k
  sub:∀ e,GE e→∀ p∈e.sub,GP p
  plan:∀ p,GP p→aPn N R p
  part:∀ p,GP p→∀ e∈fP p,GE e
  len:∀ e,GE e→e.kids.length≤1048576∧e.sub.length≤1048576
  ze:∀ e,GE e→bG e≤1048576
  zp:∀ p,GP p→eG p≤1048576
def aG4 (env:Rows):Prop:=∀ r∈env,∀ v∈r,okI v.num
def eF (c:aQ) (d:GDb) (env:Rows) (e:aJ):Gf:=fun r=>(fE c d (r::env) e).getD (⟨0,0,[]⟩,0)
def EvE (c:aQ) (d:GDb) (env:Rows) (e:aJ):Prop:=∃ r,uT c d env e=some r∧fE c d env e=some r∧okI r.1.num
def EvP (c:aQ) (d:GDb) (env:Rows) (p:aP):Prop:=∃ r,xX c d env p=some r∧uU c d env p=some r∧(∀ x∈r.1,∀ v∈x,okI v.num)∧r.1.length≤1048576
theorem aRe:∀ {l o:Rows} {x:Row1},x∈mE o l→x∈o∨x∈l
  | [],o,x,h=>by rw [mE] at h; exact .inl h
  | y::l,o,x,h=>by
    rw [mE] at h
    split at h
    · rcases aRe h with h | h
      · exact .inl h
      · exact .inr (WB _ h)
    · rcases aRe h with h | h
      · rcases QS.1 h with h | h
        · exact .inl h
        · simp at h; subst h; exact .inr (by simp)
      · exact .inr (WB _ h)
theorem bH2 {dis:Bool} {lim:Int} {r:Rows}:(∀ x∈uN dis lim r,x∈r)∧(uN dis lim r).length≤r.length:=by
  have key:(∀ x∈(if dis=true then mE [] r else r),x∈r)∧(if dis=true then mE [] r else r).length≤r.length:=by
    split
    · refine ⟨fun x hx=>?_,by have:=aIs r []; simpa using this⟩
      rcases aRe hx with h | h
      · simp at h
      · exact h
    · exact ⟨fun x hx=>hx,WZ _⟩
  unfold uN
  generalize (if dis=true then mE [] r else r)=q at key ⊢
  unfold aB2
  split
  · refine ⟨fun x hx=>key.1 x ((List.take_subset _ _) hx),?_⟩
    rw [List.length_take]
    exact QJ (Nat.min_le_right _ _) key.2
  · exact key
section
variable {N R:Nat} {GE:aJ→Prop} {GP:aP→Prop} {c:aQ} {d:GDb}
theorem bQl (hC:Closed N R GE GP) (hS:aB9 N) (hN:N≤1048576) (hd:DbB R d) (hdl:d.tables.length≤1048576) {env:Rows} (_:aG4 env) (hl:env.length≤1048576) {p:aP} (hp:GP p)
    (H:∀ e∈fP p,∀ r,fM 3 r→EvE c d (r::env) e):EvP c d env p∧xX c d env p=some (kS d (eF c d env) p):=by
  have hs:∀ e∈fP p,∀ r,fM 3 r→fE c d (r::env) e=some (eF c d env e r)∧uT c d (r::env) e=some (eF c d env e r)∧okI (eF c d env e r).1.num:=by
    intro e he r hr
    obtain ⟨x,h1,h2,h3⟩:=H e he r hr
    unfold eF
    rw [h2]
    exact ⟨rfl,h1,h3⟩
  have hi:∀ e∈fP p,∀ r,fM 3 r→nM r c d env e=some (eF c d env e r):=by
    intro e he r hr
    rw [nM,nK (by simp only [QD]; omega)]
    simp only [QY,QB,QA,(hs e he r hr).2.1]
  have pI:=bJe hS hN hd (hC.plan p hp) hi
  have pS:=bN0 (c:=c) hN hd hdl (by omega) (hC.plan p hp) fun e he r hr=>(hs e he r hr).1
  refine ⟨⟨_,pI,pS,?_⟩,pI⟩
  unfold kS
  split
  · simp
  unfold aC3
  split
  · simp
  split
  · simp
  split
  · simp
  split
  · simp
  rename_i hg _ _ _ _
  dsimp only
  obtain ⟨e1,e2⟩:=bH2 (dis:=(jH d (eF c d env) p).dis) (lim:=(jH d (eF c d env) p).lim) (r:=(mI (jH d (eF c d env) p).is (iZ (jH d (eF c d env) p).ks (whE (jH d (eF c d env) p).wh (joE (jH d (eF c d env) p).st [[]]).1).1).1).1)
  have hP:=hC.plan p hp
  have hT:nP d p.tables=true:=by
    cases h:nP d p.tables with
    | true=>rfl
    | false=>exact absurd (.inr h) hg
  have h1:p.on_.length=p.tables.length:=Classical.not_not.1 fun h=>hg (.inl (.inr h))
  have jm:∀ s∈Y8 d (eF c d env) p,∃ x∈d.tables,x.rows=s.1:=by
    intro s hs
    obtain ⟨a,ha,b,_,rfl⟩:=aNe _ _ _ _ hs
    exact aMt hT (WT ha)
  have js:(Y8 d (eF c d env) p).length=p.tables.length:=by simp [Y8,h1]
  have jl:=aOw R (Y8 d (eF c d env) p) [[]] 1 (fun s hs=>by obtain ⟨x,hx,e⟩:=jm s hs; rw [← e]; exact hd.rows x hx) (by simp)
  have jB:=aNz (Y8 d (eF c d env) p) [[]] 0 (fun s hs=>by obtain ⟨x,hx,e⟩:=jm s hs; rw [← e]; exact hd.row x hx) (fun r hr=>by simp at hr; subst hr; exact ⟨by simp,by simp⟩)
  rw [js,XA] at jl
  rw [js,XB] at jB
  have RN:=hP.RN
  have wl:=aD9 (jH d (eF c d env) p).wh (joE (Y8 d (eF c d env) p) [[]]).1
  obtain ⟨sl,sm⟩:=bDb (ks:=(jH d (eF c d env) p).ks) (r:=(whE (jH d (eF c d env) p).wh (joE (jH d (eF c d env) p).st [[]]).1).1)
  have ml:=aDy (g:=fun row=>bD (fun g:Gf=>g row) (jH d (eF c d env) p).is) (iZ (jH d (eF c d env) p).ks (whE (jH d (eF c d env) p).wh (joE (jH d (eF c d env) p).st [[]]).1).1).1
  constructor
  · intro x hx v hv
    have hx:=e1 x hx
    obtain ⟨r,hr,rfl,_⟩:=aCt hx
    obtain ⟨g,hg,rfl,_⟩:=aCt hv
    obtain ⟨e,he,rfl⟩:=WR.1 hg
    have hr3:fM 3 r:=aAt hP.t3 (jB r ((L6 _ _).subset (sm r hr)))
    exact (hs e (by unfold fP; simp [he]) r hr3).2.2
  · refine QJ e2 (QJ ml (QJ sl (QJ wl ?_)))
    exact QJ (QJ jl RN) hN
def cellP (env:Rows) (e:aJ):aA×Int :=
  if 0≤e.up∧e.up<(env.length:Int)∧0≤e.at_∧e.at_<((env[e.up.toNat]!).length:Int) then ((env[e.up.toNat]!)[e.at_.toNat]!,0) else (⟨0,0,[]⟩,4)
theorem bO8 {env:Rows} {e:aJ} (h2:e.kind=2) (hs:FK e.kind e.kids.length e.sub.length):uT c d env e=some (cellP env e):=by
  rw [uT,aRq]
  rw [h2] at hs
  simp only [hs,decide_true,QE,QC,if_false,h2,if_true,QB,QA,orB]
  unfold cellP
  by_cases a:e.up<0
  · have:¬ 0≤e.up:=by omega
    simp [a,this]
  by_cases b:(env.length:Int)≤e.up
  · have:¬ e.up<(env.length:Int):=by omega
    simp [b,this]
  by_cases g:e.at_<0
  · have:¬ 0≤e.at_:=by omega
    simp [g,this]
  obtain ⟨n,hn⟩:∃ n:Nat,e.up=n:=⟨e.up.toNat,by omega⟩
  obtain ⟨m,hm⟩:∃ m:Nat,e.at_=m:=⟨e.at_.toNat,by omega⟩
  have hnl:n<env.length:=by omega
  rw [hn,hm]
  have e1:=getElem!_pos env n hnl
  have n1:¬ ((n:Int)<0):=by omega
  have n2:¬ ((env.length:Int)≤n):=by omega
  have n3:¬ ((m:Int)<0):=by omega
  simp only [n1,n2,n3,decide_false,WD,WG,beq_self_eq_true,QU,if_true,bM hnl,QA,WK,e1]
  by_cases q:(env[n].length:Int)≤(m:Int)
  · have:¬ (m:Int)<(env[n].length:Int):=by omega
    simp [q,this]
  · have hml:m<env[n].length:=by omega
    have e2:=getElem!_pos env[n] m hml
    simp only [q,decide_false,WD,QC,if_false,bM hml,QA]
    have hc:(0:Int)≤n∧(n:Int)<(env.length:Int)∧(0:Int)≤m∧(m:Int)<(env[n].length:Int):=⟨by omega,by omega,by omega,by omega⟩
    rw [e2]
    simp only [hc,and_self,if_true]
theorem bO2 {env:Rows} {e:aJ} (h2:e.kind=2) (hl:env.length≤1048576) (hr:∀ r∈env,r.length≤1048576):uH env [] e []=some (cellP env e):=by
  unfold uH cellP
  simp only [h2,show ¬ ((2:Int)=1) by decide,decide_false,decide_true,QC,if_false,if_true,aMb,QB,QA,orB]
  rw [dX (n:=(env.length:Int) - 1) (by omega) (by omega)]
  by_cases a:0≤e.up
  case neg=>simp [a]
  by_cases b:e.up<(env.length:Int)
  case neg =>
    have:¬ e.up≤(env.length:Int) - 1:=by omega
    simp [b,this]
  have b':e.up≤(env.length:Int) - 1:=by omega
  obtain ⟨n,hn⟩:∃ n:Nat,e.up=n:=⟨e.up.toNat,by omega⟩
  have hnl:n<env.length:=by omega
  have e1:=getElem!_pos env n hnl
  rw [hn] at a b b' ⊢
  have hrl:=hr _ (QF hnl)
  simp only [a,b,b',decide_true,QU,QE,beq_self_eq_true,if_true,bM hnl,QA,WK,e1,WG]
  rw [dX (n:=(env[n].length:Int) - 1) (by omega) (by omega)]
  by_cases g:0≤e.at_
  case neg=>simp [g]
  by_cases q:e.at_<(env[n].length:Int)
  case neg =>
    have:¬ e.at_≤(env[n].length:Int) - 1:=by omega
    simp [q,this]
  have q':e.at_≤(env[n].length:Int) - 1:=by omega
  obtain ⟨m,hm⟩:∃ m:Nat,e.at_=m:=⟨e.at_.toNat,by omega⟩
  rw [hm] at g q q' ⊢
  have hml:m<env[n].length:=by omega
  have e2:=getElem!_pos env[n] m hml
  simp only [g,q',decide_true,QU,QE,QC,if_false,bM hml,QA]
  have hc:(0:Int)≤n∧(n:Int)<(env.length:Int)∧(0:Int)≤m∧(m:Int)<(env[n].length:Int):=⟨by omega,by omega,by omega,by omega⟩
  rw [WK,e2]
  simp only [hc,and_self,if_true]
theorem bQ3 {env:Rows} {e:aJ} (hB:aG4 env):okI (cellP env e).1.num:=by
  unfold cellP
  split
  · rename_i h
    have hn:e.up.toNat<env.length:=by omega
    rw [getElem!_pos env _ hn] at h ⊢
    have hm:e.at_.toNat<env[e.up.toNat].length:=by omega
    rw [getElem!_pos env[e.up.toNat] _ hm]
    exact hB _ (QF hn) _ (QF hm)
  · exact ok0
end
section
variable {N R:Nat} {GE:aJ→Prop} {GP:aP→Prop} {c:aQ} {d:GDb}
theorem bZi {env:Rows} {e:aJ} (hk:e.kids.length≤1048576) (H:∀ k∈e.kids,EvE c d env k) :
    aBg env e c d 0 []=if (bD (fun k=>(fE c d env k).getD (⟨0,0,[]⟩,0)) e.kids).2≠0 then some (⟨0,0,[]⟩,(bD (fun k=>(fE c d env k).getD (⟨0,0,[]⟩,0)) e.kids).2) else F7 env e c d (bD (fun k=>(fE c d env k).getD (⟨0,0,[]⟩,0)) e.kids).1 0 []:=by
  have m:=aCz (p:=e.kids) (b:=32) (g:=fun k=>(fE c d env k).getD (⟨0,0,[]⟩,0)) (F:=fun k=>uT c d env k)
    (L:=fun acc j=>aBg env e c d j acc) (E:=fun x=>((⟨0,0,[]⟩:aA),x)) (K:=fun acc=>F7 env e c d acc 0 [])
    hk (by omega) (fun k hk=>by obtain ⟨r,h1,h2,_⟩:=H k hk; rw [h1,h2]; rfl) (fun j acc=>by rw [aBg]) [] (by simp)
  simpa using m
theorem bFn {env:Rows} {e:aJ} (hk:e.kids.length≤1048576) (H:∀ k∈e.kids,EvE c d env k) :
    V6 env c d e [] 0=if (bD (fun k=>(fE c d env k).getD (⟨0,0,[]⟩,0)) e.kids).2≠0 then some (⟨0,0,[]⟩,(bD (fun k=>(fE c d env k).getD (⟨0,0,[]⟩,0)) e.kids).2)
    else (if (decide (0<(e.sub.length:Int)))=true then ((idx e.sub 0)>>=fun (y5:aP)=>(uU c d env y5)>>=fun (y6:(List (List aA))×Int)=>if (!decide (y6.2=0))=true then (some ((aA.mk 0 0 []),y6.2)) else (uH env (bD (fun k=>(fE c d env k).getD (⟨0,0,[]⟩,0)) e.kids).1 e y6.1)) else (uH env (bD (fun k=>(fE c d env k).getD (⟨0,0,[]⟩,0)) e.kids).1 e ([]:List (List aA)))):=by
  have m:=aCz (p:=e.kids) (b:=32) (g:=fun k=>(fE c d env k).getD (⟨0,0,[]⟩,0)) (F:=fun k=>fE c d env k)
    (L:=fun acc j=>V6 env c d e acc j) (E:=fun x=>((⟨0,0,[]⟩:aA),x)) (K:=fun acc=>(if (decide (0<(e.sub.length:Int)))=true then ((idx e.sub 0)>>=fun (y5:aP)=>(uU c d env y5)>>=fun (y6:(List (List aA))×Int)=>if (!decide (y6.2=0))=true then (some ((aA.mk 0 0 []),y6.2)) else (uH env acc e y6.1)) else (uH env acc e ([]:List (List aA)))))
    hk (by omega) (fun k hk=>by obtain ⟨r,_,h2,_⟩:=H k hk; rw [h2]; rfl) (fun j acc=>by rw [V6]) [] (by simp)
  simpa using m
def uZ (c:aQ) (d:GDb) (env:Rows) (e:aJ):Row1×Int:=bD (fun k=>(fE c d env k).getD (⟨0,0,[]⟩,0)) e.kids
def aKm (c:aQ) (d:GDb) (env:Rows) (e:aJ):aA×Int :=
  if ¬ FK e.kind e.kids.length e.sub.length then (⟨0,0,[]⟩,4)
  else if e.kind=2 then cellP env e
  else if (uZ c d env e).2≠0 then (⟨0,0,[]⟩,(uZ c d env e).2)
  else match e.sub with
    | []=>aDe e (uZ c d env e).1 []
    | p::_=>if ((uU c d env p).getD ([],0)).2≠0 then (⟨0,0,[]⟩,((uU c d env p).getD ([],0)).2) else aDe e (uZ c d env e).1 ((uU c d env p).getD ([],0)).1
theorem bQf (hC:Closed N R GE GP) {env:Rows} (hB:aG4 env) (hl:env.length≤1048576) (hr:∀ r∈env,r.length≤1048576) {e:aJ} (he:GE e) (HK:∀ k∈e.kids,EvE c d env k) (HS:∀ p∈e.sub,EvP c d env p) :
    uT c d env e=some (aKm c d env e)∧fE c d env e=some (aKm c d env e)∧okI (aKm c d env e).1.num:=by
  obtain ⟨kl,sl⟩:=hC.len e he
  unfold aKm
  by_cases hf:FK e.kind e.kids.length e.sub.length
  case neg =>
    rw [uT,aRq,fE,aPa e kl sl]
    simp [hf]; exact ok0
  rw [if_neg (by simp [hf])]
  by_cases h2:e.kind=2
  · rw [if_pos h2]
    refine ⟨bO8 h2 hf,?_,bQ3 hB⟩
    have hk0:e.kids=[]:=by
      rcases hf with ⟨k,_⟩ | ⟨k,h,_⟩ | ⟨k,_⟩ | ⟨k,_⟩ | ⟨k,_⟩ | ⟨k,_⟩ | ⟨k,_⟩ | ⟨k,_⟩ | ⟨k,_⟩ <;> first | exact WH h | omega
    have hs0:e.sub=[]:=by
      rcases hf with ⟨k,_⟩ | ⟨k,_,h⟩ | ⟨k,_⟩ | ⟨k,_⟩ | ⟨k,_⟩ | ⟨k,_⟩ | ⟨k,_⟩ | ⟨k,_⟩ | ⟨k,_⟩ <;> first | exact WH h | omega
    rw [fE,aPa e kl sl]
    simp only [hf,decide_true,QE,QC,if_false,QB,QA]
    rw [bFn kl HK,hk0,hs0]
    simp only [bD,ne_eq,not_true_eq_false,if_false,QQ]
    rw [if_neg (by simp)]
    exact bO2 h2 hl hr
  rw [if_neg h2,uT,aRq,fE,aPa e kl sl]
  simp only [hf,h2,decide_true,decide_false,QE,QC,if_false,QB,QA]
  rw [bZi kl HK,bFn kl HK]
  have hkv:∀ v∈(uZ c d env e).1,okI v.num:=by
    intro v hv
    obtain ⟨k,hk,rfl,_⟩:=aCt hv
    obtain ⟨r,_,h2,h3⟩:=HK k hk
    rw [h2]; exact h3
  have hkl:=aJs (g:=fun k=>(fE c d env k).getD (⟨0,0,[]⟩,0)) (l:=e.kids)
  show (if (uZ c d env e).2≠0 then _ else _)=_∧(if (uZ c d env e).2≠0 then _ else _)=_∧_
  change (uZ c d env e).2=0→(uZ c d env e).1.length=e.kids.length at hkl
  change _=_∧_=_∧_
  by_cases h0:(uZ c d env e).2=0
  case neg =>
    rw [if_pos h0,if_pos h0,if_pos h0]
    exact ⟨rfl,rfl,ok0⟩
  rw [if_neg (by simp [h0]),if_neg (by simp [h0]),if_neg (by simp [h0])]
  have hkl:=hkl h0
  rw [← hkl] at hf
  have hev:=hC.val e he
  have fold:(bD (fun k=>(fE c d env k).getD (⟨0,0,[]⟩,0)) e.kids)=uZ c d env e:=rfl
  rw [fold]
  generalize uZ c d env e=K at hkv hf ⊢
  match hs:e.sub with
  | [] =>
    have n:=bEn (env:=env) (rows:=[]) hf h2 hev hkv (by simp) (by simp)
    rw [F7,hs]
    simp only [QQ,n.1,QB,QA,show ((0:Nat):Int)=0 from rfl,WX,decide_false,QC,if_false]
    exact ⟨trivial,n.2.1,n.2.2⟩
  | [p] =>
    obtain ⟨r,p1,p2,p3,p4⟩:=HS p (by rw [hs]; simp)
    have i0:idx [p] 0=some p:=rfl
    rw [F7,hs]
    simp only [QD,i0,p1,p2,QB,QA,Option.getD_some,show decide ((0:Int)<((1:Nat):Int))=true from rfl,if_true]
    by_cases hz:r.2=0
    case neg=>simp [hz]; exact ok0
    have n:=bEn (env:=env) (rows:=r.1) hf h2 hev hkv p4 p3
    simp only [hz,decide_true,QE,QC,if_false,ne_eq,not_true_eq_false]
    rw [F7,hs]
    simp only [QD,show QN .i64 (0+1)=1 by decide,show decide ((1:Int)<((1:Nat):Int))=false from rfl,QC,if_false,n.1,QB,QA]
    exact ⟨trivial,n.2.1,n.2.2⟩
  | p::q::l =>
    exfalso
    rw [hs] at hf
    simp only [FK,QT] at hf
    omega
theorem bU8 (hC:Closed N R GE GP) (hS:aB9 N) (hN:N≤1048576) (hd:DbB R d) (hdl:d.tables.length≤1048576):∀ n:Nat,
    (∀ (e:aJ) (env:Rows),bG e<n→GE e→aG4 env→(∀ r∈env,r.length≤1048576)→env.length+n≤1048576→EvE c d env e) ∧
    (∀ (p:aP) (env:Rows),eG p<n→GP p→aG4 env→(∀ r∈env,r.length≤1048576)→env.length+n≤1048576→EvP c d env p∧xX c d env p=some (kS d (eF c d env) p)):=by
  intro n
  induction n with
  | zero=>exact ⟨fun e env h=>by omega,fun p env h=>by omega⟩
  | succ n ih =>
    constructor
    · intro e env hz he hB hr hl
      have:=bQf (c:=c) (d:=d) hC hB (by omega) hr he (fun k hk=>by
        have:=aJz hk
        have:0<e.kids.length:=WI hk
        exact ih.1 k env (by omega) (hC.kid e he k hk) hB hr (by omega)) (fun p hp=>by
        have:=aIr hp
        have:0<e.sub.length:=WI hp
        exact (ih.2 p env (by omega) (hC.sub e he p hp) hB hr (by omega)).1)
      exact ⟨_,this⟩
    · intro p env hz hp hB hr hl
      refine bQl hC hS hN hd hdl hB (by omega) hp fun e he r hrb=>?_
      have:=aI0 he
      refine ih.1 e (r::env) (by omega) (hC.part p hp e he) (fun x hx=>?_) (fun x hx=>?_) (by simp only [QT]; omega)
      · rcases WA.1 hx with rfl | hx
        · exact hrb.2
        · exact hB x hx
      · rcases WA.1 hx with rfl | hx
        · have:=hrb.1; omega
        · exact hr x hx
end
theorem cE2:kY []:=fun r hr=>by simp at hr
theorem CR.small {c:aQ} (h:CR c):xA c:=⟨by have:=h.1; omega,fun t ht=>by have:=(h.2 t ht).1; omega⟩
theorem bM1 (p:List Int) (hp:p.length≤1048576):Yes (aIv p 4) fun r=>0<r∧r≤4:=by
  unfold aIv
  have e:Int.tdiv (p.length:Int) 20=(p.length:Int) / 20:=Int.tdiv_eq_ediv_of_nonneg (by omega)
  rw [e,dX (n:=(p.length:Int) / 20) (by omega) (by omega),dX (by omega) (by omega)]
  refine Yes.ite (fun _=>Yes.some ⟨by omega,by omega⟩) fun h=>Yes.some ⟨by omega,by simp at h; omega⟩
theorem bUq {l:List aJ}:∀ {k:Nat} {x y:aJ} {b:Nat},l[k]?=some x→bG y≤bG x+b→zL bG (l.set k y)≤zL bG l+b:=by
  induction l with
  | nil=>intro k x y b h; simp at h
  | cons z l ih =>
    intro k x y b h hb
    cases k with
    | zero=>simp at h; subst h; simp only [List.set_cons_zero,zL,QT,QL,QV]; omega
    | succ k =>
      simp at h
      have:=ih (k:=k) h hb
      simp only [WV,zL,QT,QL,QV] at this ⊢; omega
theorem bOk (y:aA×aL) (hy:okV 4 y):∀ n (t:List UInt8) (b:List Int) (i h:Int),400≤n+t.length→t.length≤810→okCur ⟨b,i,h⟩→Yes (P5 y t b i h) (okV 810):=by
  obtain ⟨⟨h1,h2,_⟩,_,_⟩:=hy
  intro n
  have fin:∀ (t:List UInt8) (b:List Int) (i h:Int),t.length≤810→okCur ⟨b,i,h⟩→Yes (wP y.1.kind y.1.num t b i h) (okV 810):=fun t b i h ht ho=>by
    unfold wP
    exact Yes.some (okV_mk h1 h2 ht (by omega) ho)
  induction n with
  | zero =>
    intro t b i h ht hl ho
    rw [P5]
    refine Yes.bind (jZ _ _ ho) fun r k=>Yes.bind (Q:=fun q=>q=false) ⟨_,rfl,by split <;> simp; omega⟩ fun q hq=>?_
    subst hq
    exact fin _ _ _ _ hl k
  | succ n ih =>
    intro t b i h ht hl ho
    rw [P5]
    refine Yes.bind (jZ _ _ ho) fun r k=>Yes.bind (Q:=fun q=>q=true→t.length<400) ⟨_,rfl,fun hq=>by cases hr:r.1 <;> simp [hr] at hq; omega⟩ fun q hq=>Yes.ite (fun hq2=>?_) fun _=>fin _ _ _ _ hl k
    have:=hq hq2
    refine Yes.bind (Q:=fun z=>z=t++t) ⟨_,aOf (by omega),rfl⟩ fun z hz=>?_
    subst hz
    refine Yes.bind (Q:=fun z=>z=(t++t)++[48,49,50,51,52,53,54,55,56,57]) ⟨_,aOf (by simp; omega),rfl⟩ fun z hz=>?_
    subst hz
    exact ih _ _ _ _ (by simp; omega) (by simp; omega) k
theorem bNz (c:aL) (h:okCur c):Yes (aJ8 c) (okV 810):=by
  unfold aJ8
  refine Yes.bind (bRl _ h) fun y hy=>?_
  have hy':=hy
  obtain ⟨⟨h1,h2,h3⟩,h4,k⟩:=hy
  refine Yes.bind (jR _ _ k) fun r ⟨_,_,k⟩=>Yes.ite (fun _=>?_) fun _=>Yes.ite (fun _=>?_) fun _=>Yes.ite (fun _=>?_) fun _=>?_
  · refine Yes.bind (jR _ _ k) fun r ⟨a0,a1,k⟩=>?_
    have:=a1 (by decide)
    unfold wP
    exact Yes.some (okV_mk (by rw [dX (by omega) (by omega)]; exact okI_small (by omega) (by omega)) h2 (by omega) (by omega) k)
  · refine Yes.bind (aB4 _ k) fun r ⟨a0,k⟩=>?_
    unfold wP
    exact Yes.some (okV_mk h1 a0 (by omega) (by omega) k)
  · refine Yes.bind (aC7 _ _ (by decide) k) fun r ⟨hm,k⟩=>?_
    have:∀ v∈([[120],[],[108,111,110,103]]:List (List UInt8)),v.length≤4:=by decide
    have:=this _ hm
    exact bOk y hy' 400 _ _ _ _ (by omega) (by omega) k
  · unfold wP
    exact Yes.some (okV_mk h1 h2 (by omega) (by omega) k)
theorem zP (q:aP):eG q=zTb q.tables+zL z0 q.tables+zL (zL bG) q.on_+zL bG q.where_+zL U5 q.order+zL bG q.items+zL List.length q.names:=by
  obtain ⟨a0,a1,a2,a3,a4,a5,a6,a7⟩:=q
  simp only [eG,aCs,aOo,aLg,zL]
def Ne4 (t:List Int) (o:List (List aJ)) (i:List aJ) (n:List (List UInt8)):Prop:=1≤t.length∧1≤o.length∧1≤i.length∧1≤n.length
def PZn (B:Nat) (r:aP×aL):Prop:=(eG r.1≤40+8 * B∧Ne4 r.1.tables r.1.on_ r.1.items r.1.names)∧okCur r.2
theorem bKe {B:Nat} {d:Int} {cat:aQ} (hc:qE cat) (env:List (List Int)) (hv:kY env) (hl:env.length≤1000) (types:List Int) (hty:types.length≤2) (hty1:1≤types.length)
    (H:∀ c ty env',kY env'→env'.length=env.length+1→okCur c→Yes (qG c cat env' ty d) (FZ B)) (c:aL) (h:okCur c):Yes (xN c cat env types d) (PZn B):=by
  have J4:∀ y1 (w:List aJ) n i o t b j g r,qL 1 B w→pN 2 n→qL 2 B i→qO 2 B o→t.length≤2→qK B r→Ne4 t o i n→okCur ⟨b,j,g⟩→Yes (J7 y1 w n i o t b j g r) (PZn B):=fun y1 w n i o t b j g r hw hn hi ho ht hr hne k=>by
    unfold J7 aDw
    refine Yes.bind (jZ _ _ k) fun q k=>Yes.ite (fun _=>?_) fun _=>?_
    · exact Yes.bind (jR _ _ k) fun q ⟨_,_,k⟩=>Yes.some ⟨⟨aMi ht ho hw hr hi hn,hne⟩,k⟩
    · exact Yes.some ⟨⟨aMi ht ho hw hr hi hn,hne⟩,k⟩
  have J3:∀ env' y1 n i o t b j g (w:List aJ),kY env'→env'.length=env.length+1→qL 1 B w→pN 2 n→qL 2 B i→qO 2 B o→t.length≤2→Ne4 t o i n→okCur ⟨b,j,g⟩→Yes (Q8 d env' cat y1 n i (o,t,b,j,g,w)) (PZn B):=fun env' y1 n i o t b j g w he hel hw hn hi ho ht hne k=>by
    rw [Q8]
    refine Yes.bind (jZ _ _ k) fun q k=>Yes.ite (fun _=>?_) fun _=>?_
    · refine Yes.bind (jR _ _ k) fun q ⟨_,_,k⟩=>Yes.bind (H _ _ _ he hel k) fun q ⟨hq,k⟩=>Yes.bind (jZ _ _ k) fun q2 k=>Yes.bind (lJ (by simp)) fun z hz=>?_
      subst hz
      exact J4 _ _ _ _ _ _ _ _ _ _ hw hn hi ho ht ⟨by simp,mem1 (p:=fun (k:dD)=>bG k.expr≤B) hq⟩ hne k
    · exact J4 _ _ _ _ _ _ _ _ _ _ hw hn hi ho ht ⟨by simp,by simp⟩ hne k
  have L2:∀ env' y1 o t,kY env'→env'.length=env.length+1→qO 2 B o→t.length≤2→1≤t.length∧1≤o.length→∀ x,x≤types.length→∀ b j g n i,pN x n→qL x B i→x≤n.length∧x≤i.length→okCur ⟨b,j,g⟩→Yes (xB types d env' cat y1 o t ((x:Nat),b,j,g,n,i)) (PZn B):=by
    intro env' y1 o t he hel ho ht hto
    refine dZ ?_ ?_
    · intro b j g n i hn hi hx1 k
      have hne:Ne4 t o i n:=⟨hto.1,hto.2,by omega,by omega⟩
      rw [xB,if_neg (by simp)]
      have hn2:pN 2 n:=⟨by have:=hn.1; omega,hn.2⟩
      have hi2:qL 2 B i:=⟨by have:=hi.1; omega,hi.2⟩
      refine Yes.bind (jZ _ _ k) fun q k=>Yes.ite (fun _=>?_) fun _=>?_
      · exact Yes.bind (H _ _ _ he hel k) fun q ⟨hq,k⟩=>J3 _ _ _ _ _ _ _ _ _ _ he hel ⟨by simp,mem1 hq⟩ hn2 hi2 ho ht hne k
      · exact J3 _ _ _ _ _ _ _ _ _ _ he hel ⟨by simp,by simp⟩ hn2 hi2 ho ht hne k
    · intro x hx ih b j g n i hn hi hx1 k
      rw [xB,if_pos (by simpa using hx)]
      have l1:=hn.1
      have l2:=hi.1
      simp only [bM hx,dI hx (by omega),QB,QA]
      refine Yes.bind (H _ _ _ he hel k) fun q ⟨hq,k⟩=>Yes.bind (lJ (by simp; omega)) fun z hz=>Yes.bind (aC7 _ _ (by decide) k) fun s ⟨hs,k⟩=>Yes.bind (lJ (by simp; omega)) fun z2 hz2=>?_
      subst hz hz2
      have hs8:s.1.length≤8:=by
        have:∀ v∈([[97],[98],[99],[120],[121,32,122],[99,49]]:List (List UInt8)),v.length≤8:=by decide
        exact this _ hs
      exact ih _ _ _ _ _ ⟨by simp; omega,uA hn.2 hs8⟩ ⟨by simp; omega,uA hi.2 hq⟩ ⟨by simp; omega,by simp; omega⟩ k
  have L0:∀ (y2:Int×aL) y1,0≤y2.1→y2.1<2→∀ (m:Nat) (x:Int) b j g o (t:List Int),2≤m+x→0≤x→x≤2→qO x B o→(t.length:Int)≤x→x≤(o.length:Int)∧x≤(t.length:Int)→okCur ⟨b,j,g⟩→Yes (uQ env types d y2 cat y1 (x,b,j,g,o,t)) (PZn B):=by
    intro y2 y1 y0 yl m
    have e0:QN .i64 (1+y2.1)=1+y2.1:=dX (by omega) (by omega)
    have fin:∀ (x:Int) b j g o (t:List Int),¬ x<1+y2.1→x≤2→qO x B o→(t.length:Int)≤x→x≤(o.length:Int)∧x≤(t.length:Int)→okCur ⟨b,j,g⟩→Yes (uQ env types d y2 cat y1 (x,b,j,g,o,t)) (PZn B):=by
      intro x b j g o t hx h2 ho ht hx1 k
      rw [uQ]
      dsimp only
      rw [e0,if_neg (by simpa using hx),(aB7 cat hc t (by omega)).2]
      simp only [QB,QA]
      rw [(aF2 _ env (by omega)).2]
      simp only [QA]
      exact L2 _ y1 o t (aL8 hc hv (by omega)) (by simp) ⟨by have:=ho.1; omega,ho.2⟩ (by omega) (by omega) 0 (by omega) _ _ _ _ _ ⟨by simp,by simp⟩ ⟨by simp,by simp⟩ (by simp) k
    induction m with
    | zero=>intro x b j g o t h1 h2 h3 ho ht hx1 k; exact fin x b j g o t (by omega) h3 ho ht hx1 k
    | succ m ih =>
      intro x b j g o t h1 h2 h3 ho ht hx1 k
      by_cases hx:x<1+y2.1
      · rw [uQ]
        dsimp only
        rw [e0,if_pos (by simpa using hx)]
        have l1:=ho.1
        have J1:∀ (q:Int) (w:List aJ) b j g,w.length≤1→(∀ y∈w,bG y≤B)→okCur ⟨b,j,g⟩→Yes (M8 env types d y2 x cat y1 (t++[q],o,b,j,g,w)) (PZn B):=fun q w b j g hw1 hw2 k=>by
          rw [M8]
          refine Yes.bind (lJ (by simp; omega)) fun z hz=>?_
          subst hz
          rw [dX (by omega) (by omega)]
          exact ih _ _ _ _ _ _ (by omega) (by omega) (by omega) ⟨by simp; omega,uA ho.2 ⟨hw1,hw2⟩⟩ (by simp; omega) (by simp; omega) k
        refine Yes.bind (jR _ _ k) fun q ⟨q0,q1,k⟩=>Yes.bind (lJ (by simp; omega)) fun z hz=>?_
        subst hz
        rw [(aB7 cat hc (t++[q.1]) (by simp; omega)).2]
        simp only [QB,QA]
        refine Yes.bind (aFy _ _ _ _ k) fun q2 k=>?_
        refine Yes.ite (fun _=>?_) fun _=>?_
        · rw [(aF2 _ env (by omega)).2]
          simp only [QA]
          refine Yes.bind (H _ _ _ (aL8 hc hv (by simp; omega)) (by simp) k) fun e ⟨he,k⟩=>Yes.bind (lJ (by simp)) fun z hz=>?_
          subst hz
          exact J1 _ _ _ _ _ (by simp) (mem1 he) k
        · exact J1 _ _ _ _ _ (by simp) (by simp) k
      · exact fin x b j g o t hx h3 ho ht hx1 k
  rw [xN]
  refine Yes.bind (jZ _ _ h) fun y1 k=>Yes.bind (jR _ _ k) fun y2 ⟨q0,q1,k⟩=>?_
  exact L0 y2 y1 q0 (q1 (by decide)) 2 0 _ _ _ _ _ (by omega) (by omega) (by omega) ⟨by simp,by simp⟩ (by simp) (by simp) k
theorem bTx:∀ (n:Nat) (e:aJ) (c:aL),bG e<n→bG e≤400000→okCur c→Yes (aC8 c e) (FZ (bG e+900)):=by
  intro n
  induction n with
  | zero=>intro e c h; omega
  | succ n ih =>
    intro e c hn hz h
    have hE:=aEj e
    have lk:e.kids.length≤zL bG e.kids:=by unfold zL; omega
    have ls:e.sub.length≤zL eG e.sub:=by unfold zL; omega
    have J:∀ a b q (v:aA) u t cb ci ch (ss:List aP),okCur ⟨cb,ci,ch⟩→xI v+zL bG e.kids+zL eG ss≤bG e+900→Yes (wJ e a b q v.kind v.num v.text u t cb ci ch ss) (FZ (bG e+900)):=fun a b q v u t cb ci ch ss k hl=>by
      unfold wJ
      refine Yes.some ⟨?_,k⟩
      show bG _≤_
      rw [aDg]; exact hl
    rw [aC8]
    refine Yes.bind (aFy _ _ _ _ h) fun r k=>Yes.bind (Q:=fun q=>q=true→0<(e.kids.length:Int)) ⟨_,rfl,?_⟩ fun q hq=>Yes.ite (fun hq2=>?_) fun _=>?_
    · intro h1
      by_cases h0:0<(e.kids.length:Int)
      · exact h0
      · rw [if_neg (by simpa using h0)] at h1; exact absurd h1 (by simp)
    · have h0:=hq hq2
      refine Yes.bind (jR _ _ k) fun r ⟨b0,b1,k⟩=>?_
      obtain ⟨v,hv0,hv⟩:=aQd (l:=e.kids) b0 (b1 h0)
      have hg:e.kids[r.1.toNat]?=some v:=by unfold idx at hv; rw [if_pos b0] at hv; exact hv
      have hl:=aNg (z:=bG) hv0
      refine Yes.bind (Q:=fun z=>z=v) ⟨v,hv,rfl⟩ fun z hz2=>?_
      subst hz2
      have hlen:e.kids.length+(e.kids.map bG).sum=zL bG e.kids:=rfl
      have hpos:=WI hv0
      refine Yes.bind (ih z _ (by omega) (by omega) k) fun r2 ⟨h5,k⟩=>Yes.some ⟨?_,k⟩
      have:=bUq (b:=900) hg h5
      show bG _≤_
      rw [aDg]; omega
    · refine Yes.bind (jR _ _ k) fun r ⟨_,_,k⟩=>Yes.ite (fun _=>?_) fun _=>Yes.ite (fun _=>?_) fun _=>Yes.ite (fun _=>?_) fun _=>Yes.ite (fun _=>?_) fun _=>Yes.ite (fun _=>?_) fun _=>Yes.ite (fun _=>?_) fun _=>?_
      · exact Yes.bind (aB4 _ k) fun r ⟨hi,k⟩=>J _ _ _ e.value _ _ _ _ _ _ k (by omega)
      · exact Yes.bind (aB4 _ k) fun r ⟨hi,k⟩=>J _ _ _ e.value _ _ _ _ _ _ k (by omega)
      · exact Yes.bind (aB4 _ k) fun r ⟨hi,k⟩=>J _ _ _ e.value _ _ _ _ _ _ k (by omega)
      · exact Yes.bind (aB4 _ k) fun r ⟨hi,k⟩=>J _ _ _ e.value _ _ _ _ _ _ k (by omega)
      · exact Yes.bind (bNz _ k) fun r hr=>J _ _ _ r.1 _ _ _ _ _ _ hr.2.2 (by have:=zV hr.2.1 hr.1.2.1; omega)
      · exact J _ _ _ e.value _ _ _ _ _ _ k (by omega)
      · refine Yes.bind (lJ (by simp; omega)) fun y hy=>?_
        subst hy
        refine J _ _ _ e.value _ _ _ _ _ _ k ?_
        have:eG (aP.mk [] [] [] [] [] [] false 0)=0:=by simp [eG,C9,aE3,aF7,zL,zTb]
        simp only [zL,QK,QT,QQ,WF,QL,QP,WJ,QV,WC,this] at hE ⊢
        omega
theorem bUd {cat:aQ} (hc:qE cat) {d:Int} (hd0:0≤d) (hd:d<4) (env:List (List Int)) (hv:kY env) (hl:env.length≤10) (c:aL) (ty:Int) (h:okCur c):Yes (qG c cat env ty d) (FZ 25000) :=
  (bXh hc 3 d c ty env (by omega) (by omega) (by omega) hv (by omega) h).mono fun r hr=>⟨QJ hr.1 (by decide),hr.2⟩
def R20 (r:aQ×aP×aL):Prop:=(CR r.1∧eG r.2.1≤300000∧Ne4 r.2.1.tables r.2.1.on_ r.2.1.items r.2.1.names)∧okCur r.2.2
theorem bPp (c:aL) {d:Int} (hd0:0≤d) (hd:d<4) (h:okCur c):Yes (aJw c d) R20:=by
  have J:∀ (y1:aQ×aL) (x7:List Int) b j g,CR y1.1→x7.length≤2→1≤x7.length→okCur ⟨b,j,g⟩→Yes (aEw d y1 x7 b j g) R20:=fun y1 x7 b j g hC hl hl1 k=>by
    unfold aEw
    exact Yes.bind (bKe (B:=25000) hC.cat [] cE2 (by simp) x7 hl hl1 (fun c ty env' he hel k=>bUd hC.cat hd0 hd env' he (by simp at hel; omega) c ty k) _ k) fun r ⟨⟨hr,hn⟩,k⟩=>Yes.some ⟨⟨hC,by show eG r.1≤300000; omega,hn⟩,k⟩
  unfold aJw
  refine Yes.bind (bJd _ h) fun y1 ⟨hC,k⟩=>Yes.bind (jR _ _ k) fun y2 ⟨_,_,k⟩=>Yes.bind (jZ _ _ k) fun y3 k=>Yes.ite (fun _=>?_) fun _=>J _ _ _ _ _ hC (by simp) (by simp) k
  refine Yes.bind (jR _ _ k) fun y4 ⟨_,_,k⟩=>Yes.bind (lJ (by simp)) fun y e=>?_
  subst e
  exact J _ _ _ _ _ hC (by simp) (by simp) k
theorem cBf {α:Type} {l:List α} (h:1≤l.length):∃ x,idx l 0=some x∧l[0]?=some x:=by
  refine ⟨l[0]'(by omega),?_,by simp⟩
  exact bM (i:=0) (by omega)
theorem bGp {α:Type} {z:α→Nat} {y:α}:∀ (l:List α) (k:Nat),zL z (l.set k y)≤zL z l+z y
  | [],_=>by simp [zL]
  | a::l,0=>by simp [zL]; omega
  | a::l,k+1=>by
    have:=bGp (z:=z) (y:=y) l k
    simp only [zL,WV,QT,QL,QV] at this ⊢
    omega
theorem bXu (c:aL) (ty:Int) (h:okCur c):Yes (aGg c ty) fun r=>okI r.1.num∧okCur r.2:=by
  unfold aGg
  refine Yes.bind (aFy _ _ _ _ h) fun r k=>Yes.bind (Q:=fun _=>True) ⟨_,rfl,trivial⟩ fun q _=>Yes.ite (fun _=>?_) fun _=>?_
  · exact Yes.bind (jR _ _ k) fun r ⟨b0,b1,k⟩=>Yes.bind (Q:=fun v:aA=>okI v.num) ⟨_,rfl,okI_w⟩ fun v hv=>Yes.some ⟨hv,k⟩
  · exact Yes.bind (bEs _ _ k) fun r ⟨⟨_,hn⟩,k⟩=>Yes.some ⟨hn,k⟩
def bB7 (t:fJ):Prop:=t.rows.length≤4∧∀ r∈t.rows,fM 1 r
def dbG (n:Nat) (d:GDb):Prop:=d.tables.length≤n∧∀ t∈d.tables,bB7 t
def okG (r:GDb×aL):Prop:=dbG 3 r.1∧okCur r.2
theorem cDf {cat:aQ} (hC:CR cat) (c:aL) (h:okCur c):Yes (aGm c cat) okG:=by
  have hl:=hC.1.2
  have L0:∀ x,x≤cat.tables.length→∀ b i g (T:List fJ),T.length=x→(∀ t∈T,bB7 t)→okCur ⟨b,i,g⟩→Yes (aCe cat (x:Nat) b i g T) okG:=by
    refine dZ ?_ ?_
    · intro b i g T hT hG k
      rw [aCe,if_neg (by simp)]
      exact Yes.some ⟨⟨by show T.length≤3; omega,hG⟩,k⟩
    · intro x hx ih b i g T hT hG k
      have hcl:=(hC.2 _ (QF hx)).1.2
      rw [aCe,if_pos (by simpa using hx)]
      refine Yes.bind (jR _ _ k) fun y1 ⟨y0,y5,k⟩=>?_
      have y5:=y5 (by decide)
      have L1:∀ (m:Nat) (n:Int) (rows:Rows) b i g,y1.1≤m+n→0≤n→n≤4→(rows.length:Int)=n→(∀ r∈rows,fM 1 r)→okCur ⟨b,i,g⟩→Yes (J6 (x:Int) y1 cat T n rows (b,i,g)) okG:=by
        intro m
        have fin:∀ (n:Int) (rows:Rows) b i g,¬ n<y1.1→n≤4→(rows.length:Int)=n→(∀ r∈rows,fM 1 r)→okCur ⟨b,i,g⟩→Yes (J6 (x:Int) y1 cat T n rows (b,i,g)) okG:=by
          intro n rows b i g hn h4 hr hB k
          rw [J6,if_neg (by simpa using hn)]
          refine Yes.bind (lJ (by simp only [QD]; omega)) fun z hz=>?_
          subst hz
          rw [dI hx (by omega)]
          exact ih _ _ _ _ (by simp [hT]) (uA hG ⟨by show rows.length≤4; omega,hB⟩) k
        induction m with
        | zero=>intro n rows b i g h1 h0 h4 hr hB k; exact fin n rows b i g (by omega) h4 hr hB k
        | succ m ihm =>
          intro n rows b i g h1 h0 h4 hr hB k
          by_cases hn:n<y1.1
          case neg=>exact fin n rows b i g hn h4 hr hB k
          rw [J6,if_pos (by simpa using hn)]
          have L2:∀ j,j≤cat.tables[x].cols.length→∀ (row:Row1) b i g,row.length=j→(∀ v∈row,okI v.num)→okCur ⟨b,i,g⟩→Yes (Z7 (x:Int) y1 n cat rows T row ((j:Nat),b,i,g)) okG:=by
            refine dZ ?_ ?_
            · intro row b i g hj hv k
              rw [Z7]
              simp only [bM hx,bZ,QW,decide_false,QC,if_false,QB,QA]
              refine Yes.bind (lJ (by simp only [QD]; omega)) fun z hz=>?_
              subst hz
              rw [dX (by omega) (by omega)]
              refine ihm (n+1) _ _ _ _ (by omega) (by omega) (by omega) (by simp only [QK,QD]; omega) (uA hB ⟨by omega,hv⟩) k
            · intro j hj ihj row b i g hrl hv k
              rw [Z7]
              simp only [bM hx,bZ,hj,decide_true,if_true,bM hj,QB,QA]
              refine Yes.bind (bXu _ _ k) fun r ⟨hn,k⟩=>Yes.bind (lJ (by simp only [QD]; omega)) fun z hz=>?_
              subst hz
              rw [dI hj (by omega)]
              exact ihj _ _ _ _ (by simp [hrl]) (uA hv hn) k
          have:=L2 0 (by omega) [] b i g rfl (by simp) k
          simpa using this
      have:=L1 y1.1.toNat 0 [] y1.2.b y1.2.i y1.2.h (by omega) (by omega) (by omega) rfl (by simp) k
      exact this
  unfold aGm
  have:=L0 0 (by omega) c.b c.i c.h [] rfl (by simp) h
  simpa using this
def okR (r:aL×aQ×GDb×aP):Prop:=okCur r.1∧CR r.2.1∧dbG 3 r.2.2.1∧eG r.2.2.2≤300000∧1≤r.2.2.2.items.length
theorem bKc (p:List Int) (hp:p.length≤1048576):Yes (aJi p) okR:=by
  unfold aJi
  obtain ⟨c,e,hc⟩:=bUj p hp
  rw [e]
  simp only [QB,QA]
  refine Yes.bind (bM1 p hp) fun n ⟨n0,n3⟩=>Yes.bind (jR _ _ hc) fun y3 ⟨a0,a1,k⟩=>?_
  have a1:=a1 n0
  refine Yes.bind (bPp _ a0 (by omega) k) fun y4 ⟨⟨hC,hS,hN⟩,k⟩=>Yes.bind (cDf hC _ k) fun y5 ⟨hG,k⟩=>Yes.some ⟨k,hC,hG,hS,hN.2.2.1⟩
def okW (r:aQ×GDb×aP):Prop:=CR r.1∧dbG 4 r.2.1∧eG r.2.2≤1000000
theorem bPx (p:List Int) (hp:p.length≤1048576):Yes (aKb p) okW:=by
  unfold aKb
  refine Yes.bind (bKc p hp) fun y1 ⟨k,hC,hG,hS,hI⟩=>Yes.bind (jZ _ _ k) fun y2 k=>?_
  have J:∀ b i g (its:List aJ),eG (aP.mk y1.2.2.2.tables y1.2.2.2.on_ y1.2.2.2.where_ y1.2.2.2.order its y1.2.2.2.names y1.2.2.2.distinct y1.2.2.2.limit)≤1000000→okCur ⟨b,i,g⟩→Yes (aDp y1 b i g its) okW:=by
    intro b i g its hz k
    unfold aDp aG7
    refine Yes.bind (jZ _ _ k) fun q k=>Yes.ite (fun _=>?_) fun _=>Yes.some ⟨hC,⟨QJ hG.1 (by omega),hG.2⟩,hz⟩
    refine Yes.bind (lJ (by have:=hG.1; simp only [QD]; omega)) fun z hz2=>?_
    subst hz2
    exact Yes.some ⟨hC,⟨by have:=hG.1; simp only [QK,QD]; omega,uA hG.2 ⟨by simp,by simp⟩⟩,hz⟩
  refine Yes.ite (fun _=>?_) fun _=>J _ _ _ _ (by
    have e:(aP.mk y1.2.2.2.tables y1.2.2.2.on_ y1.2.2.2.where_ y1.2.2.2.order y1.2.2.2.items y1.2.2.2.names y1.2.2.2.distinct y1.2.2.2.limit)=y1.2.2.2:=by cases y1.2.2.2; rfl
    rw [e]; omega) k
  obtain ⟨x,x1,x2⟩:=cBf hI
  refine Yes.bind (Q:=fun z=>z=x) ⟨x,x1,rfl⟩ fun z hz=>?_
  subst hz
  have hZ:=zP y1.2.2.2
  have hm:=P9 (z:=bG) (List.mem_of_getElem? x2)
  refine Yes.bind (bTx _ _ _ (XC _) (by omega) k) fun q ⟨h1,k⟩=>J _ _ _ _ ?_ k
  rw [zP]
  have:=bGp (z:=bG) (y:=q.1) y1.2.2.2.items (0:Int).toNat
  dsimp only; omega
theorem bXm:Closed 19 4 (fun e=>bG e≤1048576) (fun p=>eG p≤1048576) where
  val e h:=by have:=aEj e; exact bMd (by omega)
  kid e h k hk:=by have:=aJz hk; omega
  sub e h p hp:=by have:=aIr hp; omega
  plan p h:=by
    have hz:=aA2 p
    have hl:=aM8 p
    have t2:p.tables.length≤2:=by
      have:zTb p.tables≤1048576:=by omega
      unfold zTb at this; omega
    refine ⟨by omega,?_,by omega,fun l hl2=>?_,by omega,by omega,by omega⟩
    · exact QJ (WL (by omega) t2) (by decide)
    · have:=P9 (z:=zL bG) hl2
      have:=vW (z:=bG) l
      omega
  part p h e he:=by have:=aI0 he; omega
  len e h:=by have:=aYm e; omega
  ze e h:=h
  zp p h:=h
theorem bQ9 {n:Nat} {d:GDb} (h:dbG n d):DbB 4 d:=⟨by omega,fun t ht=>(h.2 t ht).1,fun t ht=>(h.2 t ht).2⟩
theorem bG8 {c:aQ} {d:GDb} {p:aP} (hd:dbG 4 d) (hp:eG p≤1048575):EvP c d [] p∧xX c d [] p=some (kS d (eF c d []) p):=by
  refine (bU8 (c:=c) bXm bMt (by omega) (bQ9 hd) (by have:=hd.1; omega) (eG p+1)).2 p [] (XC _) (by omega) (fun r hr=>by simp at hr) (fun r hr=>by simp at hr) (by simp; omega)
theorem bK3 (x:aA):qI x=kW x∧∃ b,kW x=some b:=by
  unfold qI kW fI
  simp only [QB,QA]
  by_cases h0:x.kind=0
  · simp [h0]
  by_cases h1:x.kind=1
  · simp [h1]
  by_cases h2:x.kind=2
  · simp [h2]
  by_cases h3:x.kind=3
  · by_cases n0:x.num=0
    · simp [h3,n0]
    by_cases n1:x.num=1
    · simp [h3,n1]
    have e:(if decide (0≤x.num)=true then decide (x.num≤1) else false)=false:=by
      by_cases p:0≤x.num
      · simp [p]; omega
      · simp [p]
    rw [e]
    simp [h3,n0,n1]
  · simp [h0,h1,h2,h3]
theorem bQh (x:aA) (t:Int):aHv x t=aE5 x t∧∃ b,aE5 x t=some b:=by
  obtain ⟨h1,b,h2⟩:=bK3 x
  unfold aHv aE5
  rw [h1,h2]
  cases b <;> exact ⟨rfl,_,rfl⟩
theorem bK8 (r:List aA) (t:List Int) (hl:r.length≤1048576):aHu r t=aFl r t∧∃ b,aFl r t=some b:=by
  unfold aHu aFl
  by_cases he:(r.length:Int)=(t.length:Int)
  · simp only [he,decide_true,QE,QC,if_false]
    have:=aP8 (n:=r.length) (L:=fun i=>K6 t r i) (M:=fun i=>K7 r t i) ?_ ?_
    · obtain ⟨h1,b,h2⟩:=this
      rw [h1] at h2
      exact ⟨h1,b,h2⟩
    · intro i hi h1 h2
      try dsimp only at h1 h2 ⊢
      have hi':i<t.length:=by omega
      obtain ⟨f1,b,f2⟩:=bQh r[i] t[i]
      rw [K6,K7]
      simp only [bZ,bM hi,bM hi',dI hi (by omega),hi,decide_true,if_true,f1,f2,QB,QA]
      cases b with
      | true=>simp only [QE,QC,if_false]; exact ⟨h1,h2⟩
      | false=>simp
    · try dsimp only
      rw [K6,K7]
      simp
  · simp [he]
theorem bUe (t:eD) (hl:t.cols.length≤1048576):J5 t=A7 t∧∃ r,A7 t=some r:=by
  unfold J5 A7
  have key:∀ i,i≤t.cols.length→∀ l:List Int,l.length≤i→vV t l (i:Nat)=vU t l (i:Nat)∧∃ r,vU t l (i:Nat)=some r:=by
    refine dZ ?_ ?_
    · intro l _
      rw [vV,vU]; simp
    · intro i hi ih l hl2
      rw [vV,vU]
      have ea:appG 8 l [t.cols[i].type]=some (l++[t.cols[i].type]):=by unfold appG; rw [if_pos (by simp; omega)]
      simp only [bZ,bM hi,dI hi (by omega),hi,decide_true,if_true,ea,QB,QA]
      exact ih _ (by simp; omega)
  exact key 0 (by omega) [] (by simp)
theorem cBj (c:aQ) (d:GDb) (hc:xA c) (hd:d.tables.length≤1048576∧∀ t∈d.tables,t.rows.length≤1048576∧∀ r∈t.rows,r.length≤1048576):aE1 c d=H7 c d∧∃ b,H7 c d=some b:=by
  unfold aE1 H7
  obtain ⟨b1,i1,i2⟩:=bAv c hc
  obtain ⟨b2,s1,s2⟩:=aU4 c hc
  have e:b1=b2:=bZq i2 s2 Iff.rfl
  subst e
  simp only [i1,s1,QB,QA]
  cases b1 with
  | false=>simp
  | true =>
    by_cases he:(d.tables.length:Int)=(c.tables.length:Int)
    · simp only [he,decide_true,QE,QC,if_false]
      have:=aP8 (n:=d.tables.length) (L:=fun i=>H8 d c i) (M:=fun i=>aAc c d i) ?_ ?_
      · obtain ⟨h1,b,h2⟩:=this
        rw [h1] at h2
        exact ⟨h1,b,h2⟩
      · intro i hi h1 h2
        try dsimp only at h1 h2 ⊢
        obtain ⟨r0,h2⟩:=h2
        have hi':i<c.tables.length:=by omega
        have hrows:=hd.2 _ (QF hi)
        obtain ⟨t1,ty,t2⟩:=bUe c.tables[i] (hc.2 _ (QF hi'))
        have:=hd.1
        rw [H8,aAc]
        simp only [bZ,bM hi,bM hi',dI hi (by omega),hi,decide_true,if_true,t1,t2,QB,QA]
        by_cases h6:(6:Int)<(d.tables[i].rows.length:Int)
        · simp [h6]
        · have scan:∀ j,j≤d.tables[i].rows.length→∃ k:Int,W9 d.tables[i].rows ty (j:Nat)=some k∧((0≤k∧zF (i:Int) c d (j:Nat)=some false)∨(k<0∧zF (i:Int) c d (j:Nat)=some r0)):=by
            refine dZ ?_ ?_
            · rw [W9,zF]
              simp only [bZ,bM hi,QW,decide_false,QC,if_false,QB,QA,dI hi (by omega)]
              exact ⟨-1,rfl,.inr ⟨by omega,by rw [← h1]; exact h2⟩⟩
            · intro j hj ih
              obtain ⟨f1,b,f2⟩:=bK8 d.tables[i].rows[j] ty (hrows.2 _ (QF hj))
              rw [W9,zF]
              simp only [bZ,bM hi,bM hi',bM hj,hj,decide_true,if_true,t2,f1,f2,aKw,QB,QA,dI hj (by omega)]
              cases b with
              | true=>simpa using ih
              | false=>exact ⟨(j:Int),by simp,.inl ⟨by omega,by simp⟩⟩
          obtain ⟨k,k1,k2⟩:=scan 0 (by omega)
          rw [show ((0:Nat):Int)=0 from rfl] at k1 k2
          simp only [h6,decide_false,QC,if_false,aI3,aL1,k1,QB,QA]
          rcases k2 with ⟨k0,k2⟩ | ⟨k0,k2⟩
          · simp [k0,k2]
          · have:¬ 0≤k:=by omega
            have h3:H8 d c ((i:Int)+1)=some r0:=h2
            simp only [k2,this,decide_false]
            cases r0 <;> simp [h3]
      · try dsimp only
        rw [H8,aAc]
        simp
    · simp [he]
def wtB (c:aQ) (p:aP):Bool:=(xW c p).getD false
def dbB (c:aQ) (d:GDb):Bool:=(H7 c d).getD false
theorem aZ5 {c:aQ} (hs:xA c) {p:aP} (hz:eG p≤1048576):aF8 c p=some (wtB c p)∧xW c p=some (wtB c p):=by
  obtain ⟨b,h1,h2⟩:=bNg c hs p hz
  unfold wtB; rw [h2]; exact ⟨h1,rfl⟩
theorem bJ2 {c:aQ} {n:Nat} (hs:xA c) {d:GDb} (hd:dbG n d) (hn:n≤1048576):aE1 c d=some (dbB c d)∧H7 c d=some (dbB c d):=by
  obtain ⟨h1,b,h2⟩:=cBj c d hs ⟨by have:=hd.1; omega,fun t ht=>⟨by have:=(hd.2 t ht).1; omega,fun r hr=>by have:=((hd.2 t ht).2 r hr).1; omega⟩⟩
  unfold dbB; rw [h1,h2]; exact ⟨rfl,rfl⟩
def rH (c:aQ) (d:GDb) (p:aP):Rows×Int:=if (wtB c p&&dbB c d)=true then kS d (eF c d []) p else ([],4)
theorem aZ9 {c:aQ} (hs:xA c) {d:GDb} (hd:dbG 4 d) {p:aP} (hz:eG p≤1048575):aAv c d p=some (rH c d p)∧aK2 c d p=some (rH c d p):=by
  obtain ⟨w1,w2⟩:=aZ5 hs (p:=p) (by omega)
  obtain ⟨d1,d2⟩:=bJ2 hs hd (by omega)
  obtain ⟨⟨r,e1,e2,_,_⟩,e3⟩:=bG8 (c:=c) hd hz
  rw [e3] at e1
  have e1:=Option.some.inj e1
  subst e1
  unfold aAv aK2 rH
  rw [w1,w2,d1,d2,e3,e2]
  simp only [QB,QA,orB]
  cases wtB c p
  · simp
  · cases dbB c d <;> simp
theorem bFe {p:aP} (hz:eG p≤1048576):dP p=mx dE (fP p) 0∧sP p=((fP p).map sE).sum:=by
  obtain ⟨p1,p2⟩:=parts_eq p hz
  have hl:=aVj p
  have H:∀ e∈fP p,DsE e:=fun e he=>bZo e (by have:=aI0 he; omega)
  have hs:=bC7 (s:=sE) p fun y hy=>(H y hy).2.2.2.2.2
  obtain ⟨a1,a2⟩:=aVh _ (by omega) H 0
  obtain ⟨b1,b2⟩:=aPz _ (by omega) (by omega) H
  have e1:wT p=some (mx dE (fP p) 0):=by rw [wT,p1]; simp only [QB,QA,F5,a1]
  have e2:wN p=some (((fP p).map sE).sum):=by rw [wN,p1]; simp only [QB,QA,b1]
  exact ⟨by unfold dP; rw [e1]; rfl,by unfold sP; rw [e2]; rfl⟩
theorem bGo {c:aQ} (hs:xA c) {p:aP} (hz:eG p≤1048576):wtB c p=true↔R5 c∧dP p≤24∧sP p≤200∧∃ ts,uM c [] p=some (ts,true):=by
  obtain ⟨b,b1,b2⟩:=aU4 c hs
  obtain ⟨d1,d2,d3,d4,-⟩:=bE0 p hz
  have h:=(aZ5 hs hz).2
  unfold xW at h
  rw [b1,d2,d4] at h
  simp only [QB,QA,orB] at h
  cases b with
  | false =>
    have he:wtB c p=false:=by simpa using h.symm
    rw [he]
    constructor
    · intro h; simp at h
    · rintro ⟨h,_⟩; have:=b2.2 h; simp at this
  | true =>
    obtain ⟨r,r1,r2,r3⟩:=bHn c (bCu (b2.1 rfl)) p [] hz (by intro r hr; simp at hr) (by simp)
    rw [r2] at h ⊢
    by_cases hd:dP p≤24
    · by_cases hS:sP p≤200
      · have n1:¬ 24<dP p:=by omega
        have n2:¬ 200<sP p:=by omega
        have he:wtB c p=r.2:=by simpa [n1,n2,hd,hS] using h.symm
        rw [he]
        obtain ⟨ts,b⟩:=r
        constructor
        · intro hb; exact ⟨b2.1 rfl,hd,hS,ts,by rw [show b=true from hb]⟩
        · rintro ⟨_,_,_,ts',e⟩
          simp only [Option.some.injEq,Prod.mk.injEq] at e
          exact e.2
      · have n1:¬ 24<dP p:=by omega
        have n2:200<sP p:=by omega
        have he:wtB c p=false:=by simpa [n1,n2,hd] using h.symm
        rw [he]
        exact ⟨fun h=>by simp at h,fun h=>absurd h.2.2.1 hS⟩
    · have n1:24<dP p:=by omega
      have he:wtB c p=false:=by simpa [n1,hd] using h.symm
      rw [he]
      exact ⟨fun h=>by simp at h,fun h=>absurd h.2.1 hd⟩
def rP (q:Qry):Rows×Int :=
  if (joE q.st [[]]).2≠0 then ([],(joE q.st [[]]).2) else if (whE q.wh (joE q.st [[]]).1).2≠0 then ([],(whE q.wh (joE q.st [[]]).1).2) else
  if (iZ q.ks (whE q.wh (joE q.st [[]]).1).1).2≠0 then ([],(iZ q.ks (whE q.wh (joE q.st [[]]).1).1).2) else
  if (mI q.is (iZ q.ks (whE q.wh (joE q.st [[]]).1).1).1).2≠0 then ([],(mI q.is (iZ q.ks (whE q.wh (joE q.st [[]]).1).1).1).2) else
  ((mI q.is (iZ q.ks (whE q.wh (joE q.st [[]]).1).1).1).1,0)
theorem aFt (q:Qry):aC3 q=if (rP q).2≠0 then ([],(rP q).2) else (uN q.dis q.lim (rP q).1,0):=by
  unfold aC3 rP
  by_cases h0:(joE q.st [[]]).2=0
  case neg=>simp [h0]
  by_cases h1:(whE q.wh (joE q.st [[]]).1).2=0
  case neg=>simp [h0,h1]
  by_cases h2:(iZ q.ks (whE q.wh (joE q.st [[]]).1).1).2=0
  case neg=>simp [h0,h1,h2]
  by_cases h3:(mI q.is (iZ q.ks (whE q.wh (joE q.st [[]]).1).1).1).2=0
  case neg=>simp [h0,h1,h2,h3]
  simp [h0,h1,h2,h3]
theorem bXd {r:aQ×GDb×aP} (h:okW r):xA r.1:=h.1.small
theorem bMe (a b:Rows) (ha:a.length≤1048576) (hr:∀ y∈a,y.length≤1048576):aGb a b=some (decide (a=b)):=by
  unfold aGb
  by_cases hl:a.length=b.length
  · have key:∀ i,i≤a.length→O5 a b (i:Nat)=some (decide (a.drop i=b.drop i)):=by
      refine dZ ?_ ?_
      · rw [O5]
        rw [QZ,hl,QZ]; simp
      · intro i hi ih
        have hb:i<b.length:=by omega
        rw [O5]
        simp only [bZ,hi,decide_true,if_true,bM hi,bM hb,QB,QA,bI9 _ b[i] (hr _ (QF hi))]
        rw [dI hi (by omega),ih,QH hi,QH hb]
        by_cases h:a[i]=b[i]
        · rw [if_neg (by simp [h]),h]; simp only [List.cons.injEq,true_and]
        · rw [if_pos (by simp [h])]; simp only [List.cons.injEq,h,false_and,decide_false]
    have:=key 0 (by omega)
    simp only [QM] at this
    rw [if_neg (by simp; omega)]
    exact this
  · have:a≠b:=fun e=>hl (by rw [e])
    rw [if_pos (by simp; omega)]
    simp [this]
abbrev ltE (v:aA):aJ:=aJ.mk 1 0 false v 0 0 [] []
def ltV (v:aA):Prop:=v=⟨3,1,[]⟩∨v=⟨0,0,[]⟩
theorem bK0 (c:aQ) (env:List (List Int)) {v:aA} (hv:ltV v):yF c env (ltE v)=some (v.kind,true)∧yJ v.kind=some true:=by
  have hs:aAf (ltE v)=some true:=by rcases hv with rfl | rfl <;> decide
  refine ⟨?_,by rcases hv with rfl | rfl <;> decide⟩
  rw [yF,hs]
  simp only [QB,QA,QE,QC,if_false]
  rw [oV]
  simp
theorem bHq (c:aQ) (env:List (List Int)) {v:aA} (hv:ltV v):xJ c env [ltE v]=some true∧xJ c env []=some true:=by
  obtain ⟨t1,t2⟩:=bK0 c env hv
  have e:vK env [] c 0=some true:=by rw [vK]; simp
  have e1:vK env [ltE v] c 1=some true:=by rw [vK]; simp
  constructor
  · rw [xJ,vK]
    have i0:idx [ltE v] 0=some (ltE v):=rfl
    simp only [QD,i0,t1,t2,show decide ((0:Int)<((1:Nat):Int))=true from rfl,if_true,QB,QA,QE,beq_self_eq_true,QU,QC,if_false,show QN .i64 (0+1)=1 by decide,e1]
  · rw [xJ,e]
theorem aN7 {v:aA}:sE (ltE v)=1∧dE (ltE v)=1:=by
  have e1:F5 []=some 0:=by rw [F5,U7]; simp
  have e2:P7 []=some 0:=by rw [P7,aBf]; simp
  constructor
  · unfold sE
    rw [yE,e2]
    simp only [QB,QA]
    rw [Z5]
    simp; decide
  · unfold dE
    rw [yL,e1]
    simp only [QB,QA]
    rw [V4]
    simp; decide
theorem bS0 (c:aQ) (env:List (List Int)) (t:List Int) (o:List (List aJ)) (r:List dD) (i:List aJ) (n:List (List UInt8)) {ds:Bool} {lm:Int} {v:aA} (hv:ltV v)
    (ho:o.length≤1048576) (hr:r.length≤1048576) (hi:i.length≤1048576) (hn:n.length≤1048576):uM c env (aP.mk t o [ltE v] r i n ds lm)=uM c env (aP.mk t o [] r i n ds lm):=by
  have B1:∀ k,k≤n.length→qU c (aP.mk t o [ltE v] r i n ds lm) (k:Nat)=qU c (aP.mk t o [] r i n ds lm) (k:Nat):=by
    refine dZ ?_ ?_
    · conv=>lhs; rw [qU]
      conv=>rhs; rw [qU]
      simp
    · intro k hk ih
      conv=>lhs; rw [qU]
      conv=>rhs; rw [qU]
      simp only [dI hk (by omega),ih]
  have B0:∀ k,k≤o.length→rG c (aP.mk t o [ltE v] r i n ds lm) (k:Nat)=rG c (aP.mk t o [] r i n ds lm) (k:Nat):=by
    refine dZ ?_ ?_
    · conv=>lhs; rw [rG]
      conv=>rhs; rw [rG]
      have:=B1 0 (by omega)
      rw [show ((0:Nat):Int)=0 from rfl] at this
      simp only [this,bZ,QW,decide_false,QC,if_false]
    · intro k hk ih
      conv=>lhs; rw [rG]
      conv=>rhs; rw [rG]
      simp only [dI hk (by omega),ih,bZ,hk,decide_true,if_true]
  have Bd:I9 c (aP.mk t o [ltE v] r i n ds lm)=I9 c (aP.mk t o [] r i n ds lm):=by
    unfold I9
    have:=B0 0 (by omega)
    rw [show ((0:Nat):Int)=0 from rfl] at this
    have n1:¬ (1:Int)<(([ltE v]:List aJ).length:Int):=by simp
    have n2:¬ (1:Int)<(([]:List aJ).length:Int):=by simp
    simp only [this,n1,n2]
  have T2:∀ e k,k≤i.length→∀ acc,qP e c (aP.mk t o [ltE v] r i n ds lm) acc (k:Nat)=qP e c (aP.mk t o [] r i n ds lm) acc (k:Nat):=by
    intro e
    refine dZ ?_ ?_
    · intro acc
      conv=>lhs; rw [qP]
      conv=>rhs; rw [qP]
      simp
    · intro k hk ih acc
      conv=>lhs; rw [qP]
      conv=>rhs; rw [qP]
      simp only [dI hk (by omega),ih]
  have T1:∀ e k,k≤r.length→rY e c (aP.mk t o [ltE v] r i n ds lm) (k:Nat)=rY e c (aP.mk t o [] r i n ds lm) (k:Nat):=by
    intro e
    refine dZ ?_ ?_
    · conv=>lhs; rw [rY]
      conv=>rhs; rw [rY]
      have:=T2 e 0 (by omega) []
      rw [show ((0:Nat):Int)=0 from rfl] at this
      simp only [this,bZ,QW,decide_false,QC,if_false]
    · intro k hk ih
      conv=>lhs; rw [rY]
      conv=>rhs; rw [rY]
      simp only [dI hk (by omega),ih,bZ,hk,decide_true,if_true]
  have T0:∀ k,k≤o.length→tJ env c (aP.mk t o [ltE v] r i n ds lm) (k:Nat)=tJ env c (aP.mk t o [] r i n ds lm) (k:Nat):=by
    refine dZ ?_ ?_
    · conv=>lhs; rw [tJ]
      conv=>rhs; rw [tJ]
      have:=fun e=>T1 e 0 (by omega)
      rw [show ((0:Nat):Int)=0 from rfl] at this
      simp only [this,bZ,QW,decide_false,QC,if_false,fun e=>(bHq c e hv).1,fun e=>(bHq c e hv).2]
    · intro k hk ih
      conv=>lhs; rw [tJ]
      conv=>rhs; rw [tJ]
      simp only [dI hk (by omega),ih,bZ,hk,decide_true,if_true]
  have:=T0 0 (by omega)
  rw [show ((0:Nat):Int)=0 from rfl] at this
  conv=>lhs; rw [uM,Bd,this]
  conv=>rhs; rw [uM]
theorem bGm (c:aQ) (d:GDb) (v:aA) (r:Row1):eF c d [] (ltE v) r=(v,0):=by
  have hc:aEg (ltE v)=some true:=by rw [aPa _ (by simp) (by simp)]; rfl
  unfold eF
  rw [fE,hc]
  simp only [QB,QA,QE,QC,if_false]
  rw [V6]
  simp [uH]
theorem bFq {g:Gf} {v:aA} (hg:∀ r,g r=(v,0)) (ht:tru v=true):∀ r:Rows,iR g r=(r,0)
  | []=>rfl
  | x::r=>by rw [iR,hg,bFq hg ht r]; simp [ht]
theorem bGd {g:Gf} {v:aA} (hg:∀ r,g r=(v,0)) (ht:tru v=false):∀ r:Rows,iR g r=([],0)
  | []=>rfl
  | x::r=>by rw [iR,hg,bGd hg ht r]; simp [ht]
theorem bR2 (ks:List (Gf×Bool)):iZ ks []=([],0):=by unfold iZ; simp [bD,mF]
theorem bTo (ds:Bool) (lm:Int):uN ds lm []=[]:=by unfold uN aB2; cases ds <;> simp [mE]
theorem bJ9 (p:List Int) (h:okL okU8 p):aJe p=some true:=by
  unfold aJe aL6
  simp only [QB,QA]
  by_cases hl:(1048576:Int)<(p.length:Int)
  · simp [hl]
  simp only [hl,decide_false,QC,if_false]
  have hl':p.length≤1048576:=by omega
  obtain ⟨⟨c,d,pl⟩,e,hW⟩:=bPx p hl'
  have hs:=bXd hW
  obtain ⟨hC,hd,hz⟩:=hW
  obtain ⟨t,o,w,r,i,n,ds,lm⟩:=pl
  dsimp only at hC hd hz hs
  have hbv:oO true=some ⟨3,1,[]⟩:=rfl
  have z0:eG (aP.mk t o [] r i n ds lm)≤1000000:=by
    have a1:=zP (aP.mk t o [] r i n ds lm)
    have a2:=zP (aP.mk t o w r i n ds lm)
    simp only [zL,QQ,QP,WC] at a1 a2
    omega
  have z1:∀ v,ltV v→eG (aP.mk t o [ltE v] r i n ds lm)≤1000001:=fun v hv=>by
    have a1:=zP (aP.mk t o [ltE v] r i n ds lm)
    have a2:=zP (aP.mk t o [] r i n ds lm)
    have e:bG (ltE v)=0:=by rcases hv with rfl | rfl <;> decide
    simp only [zL,QQ,QD,QP,QL,WC,QV,e] at a1 a2
    omega
  have v1:ltV ⟨3,1,[]⟩:=.inl rfl
  have v2:ltV ⟨0,0,[]⟩:=.inr rfl
  have R0:=aZ9 (c:=c) hs hd (p:=aP.mk t o [] r i n ds lm) (by omega)
  have R1:=aZ9 (c:=c) hs hd (p:=aP.mk t o [ltE ⟨3,1,[]⟩] r i n ds lm) (by have:=z1 _ v1; omega)
  have R2:=aZ9 (c:=c) hs hd (p:=aP.mk t o [ltE ⟨0,0,[]⟩] r i n ds lm) (by have:=z1 _ v2; omega)
  have W2:=aZ5 hs (p:=aP.mk t o [ltE ⟨0,0,[]⟩] r i n ds lm) (by have:=z1 _ v2; omega)
  have D:=bJ2 hs hd (by omega)
  rw [e]
  simp only [QA,hbv]
  rw [R0.1,R0.2,R1.1,R2.1,W2.2,D.2]
  have hlen:=aM8 (aP.mk t o [] r i n ds lm)
  dsimp only at hlen
  -- what the three are worth
  have parts:∀ ws,fP (aP.mk t o ws r i n ds lm)=o.flatMap (fun l=>l)++ws++r.flatMap (fun k=>[k.expr])++i:=fun _=>rfl
  have wv:∀ v,ltV v→(wtB c (aP.mk t o [ltE v] r i n ds lm)=true↔R5 c∧mx dE (fP (aP.mk t o [ltE v] r i n ds lm)) 0≤24∧((fP (aP.mk t o [ltE v] r i n ds lm)).map sE).sum≤200∧∃ ts,uM c [] (aP.mk t o [] r i n ds lm)=some (ts,true)):=by
    intro v hv
    have zz:=z1 v hv
    have f:=bFe (p:=aP.mk t o [ltE v] r i n ds lm) (by omega)
    rw [bGo hs (by omega),f.1,f.2,bS0 c [] t o r i n hv (by omega) (by omega) (by omega) (by omega)]
  have w0:wtB c (aP.mk t o [] r i n ds lm)=true↔R5 c∧mx dE (fP (aP.mk t o [] r i n ds lm)) 0≤24∧((fP (aP.mk t o [] r i n ds lm)).map sE).sum≤200∧∃ ts,uM c [] (aP.mk t o [] r i n ds lm)=some (ts,true):=by
    have f:=bFe (p:=aP.mk t o [] r i n ds lm) (by omega)
    rw [bGo hs (by omega),f.1,f.2]
  have wsame:wtB c (aP.mk t o [ltE ⟨3,1,[]⟩] r i n ds lm)=wtB c (aP.mk t o [ltE ⟨0,0,[]⟩] r i n ds lm):=by
    rw [QI,wv _ v1,wv _ v2,parts,parts,aK9,aK9]
    simp only [WF,QL,QP,WJ,QV,WC,aN7.1,QS,WW]
    constructor
    · rintro ⟨a,⟨b1,b2⟩,c1,d1⟩
      refine ⟨a,⟨b1,fun y hy=>?_⟩,c1,d1⟩
      rcases hy with ((hy | rfl) | hy) | hy
      · exact b2 y (.inl (.inl (.inl hy)))
      · rw [aN7.2]; omega
      · exact b2 y (.inl (.inr hy))
      · exact b2 y (.inr hy)
    · rintro ⟨a,⟨b1,b2⟩,c1,d1⟩
      refine ⟨a,⟨b1,fun y hy=>?_⟩,c1,d1⟩
      rcases hy with ((hy | rfl) | hy) | hy
      · exact b2 y (.inl (.inl (.inl hy)))
      · rw [aN7.2]; omega
      · exact b2 y (.inl (.inr hy))
      · exact b2 y (.inr hy)
  have wimp:wtB c (aP.mk t o [ltE ⟨0,0,[]⟩] r i n ds lm)=true→wtB c (aP.mk t o [] r i n ds lm)=true:=by
    rw [wv _ v2,w0,parts,parts,aK9,aK9]
    simp only [WF,QL,QP,WJ,QV,WC,aN7.1,QS,WW]
    rintro ⟨a,⟨b1,b2⟩,c1,d1⟩
    refine ⟨a,⟨b1,fun y hy=>?_⟩,by omega,d1⟩
    rcases hy with ((hy | hy) | hy) | hy
    · exact b2 y (.inl (.inl (.inl hy)))
    · simp at hy
    · exact b2 y (.inl (.inr hy))
    · exact b2 y (.inr hy)
  by_cases hg:(wtB c (aP.mk t o [ltE ⟨0,0,[]⟩] r i n ds lm)&&dbB c d)=true
  case neg =>
    have r2:rH c d (aP.mk t o [ltE ⟨0,0,[]⟩] r i n ds lm)=([],4):=by unfold rH; rw [if_neg hg]
    rw [r2]
    simp only [QA,decide_true,QE,QC,if_false]
    cases hw:wtB c (aP.mk t o [ltE ⟨0,0,[]⟩] r i n ds lm) with
    | false=>simp
    | true =>
      have hdb:dbB c d=false:=by rw [hw] at hg; simpa using hg
      have r0:rH c d (aP.mk t o [] r i n ds lm)=([],4):=by unfold rH; rw [hdb]; simp
      have r1:rH c d (aP.mk t o [ltE ⟨3,1,[]⟩] r i n ds lm)=([],4):=by unfold rH; rw [hdb]; simp
      rw [r0,r1,hdb]
      simp
  have hg':=hg
  rw [QG] at hg'
  obtain ⟨hw,hdb⟩:=hg'
  have r0:rH c d (aP.mk t o [] r i n ds lm)=kS d (eF c d []) (aP.mk t o [] r i n ds lm):=by unfold rH; rw [wimp hw,hdb]; rfl
  have r1:rH c d (aP.mk t o [ltE ⟨3,1,[]⟩] r i n ds lm)=kS d (eF c d []) (aP.mk t o [ltE ⟨3,1,[]⟩] r i n ds lm):=by unfold rH; rw [wsame,hw,hdb]; rfl
  have r2:rH c d (aP.mk t o [ltE ⟨0,0,[]⟩] r i n ds lm)=kS d (eF c d []) (aP.mk t o [ltE ⟨0,0,[]⟩] r i n ds lm):=by unfold rH; rw [hw,hdb]; rfl
  have e1:kS d (eF c d []) (aP.mk t o [ltE ⟨3,1,[]⟩] r i n ds lm)=kS d (eF c d []) (aP.mk t o [] r i n ds lm):=by
    unfold kS
    dsimp only
    split
    · rfl
    · have hq:rP (jH d (eF c d []) (aP.mk t o [ltE ⟨3,1,[]⟩] r i n ds lm))=rP (jH d (eF c d []) (aP.mk t o [] r i n ds lm)):=by
        have hw:∀ R:Rows,whE (jH d (eF c d []) (aP.mk t o [ltE ⟨3,1,[]⟩] r i n ds lm)).wh R=whE (jH d (eF c d []) (aP.mk t o [] r i n ds lm)).wh R:=by
          intro R
          show whE [eF c d [] (ltE ⟨3,1,[]⟩)] R=whE [] R
          simp only [whE,bFq (bGm c d ⟨3,1,[]⟩) (show tru ⟨3,1,[]⟩=true by decide),ne_eq,not_true_eq_false,if_false]
        unfold rP
        simp only [hw]
        rfl
      rw [aFt,aFt,hq]
      rfl
  have e2:(kS d (eF c d []) (aP.mk t o [ltE ⟨0,0,[]⟩] r i n ds lm)).1=[]∧((kS d (eF c d []) (aP.mk t o [ltE ⟨0,0,[]⟩] r i n ds lm)).2=0∨(kS d (eF c d []) (aP.mk t o [ltE ⟨0,0,[]⟩] r i n ds lm)).2=(kS d (eF c d []) (aP.mk t o [] r i n ds lm)).2):=by
    unfold kS
    dsimp only
    split
    · exact ⟨rfl,.inr rfl⟩
    · have hst:(jH d (eF c d []) (aP.mk t o [ltE ⟨0,0,[]⟩] r i n ds lm)).st=(jH d (eF c d []) (aP.mk t o [] r i n ds lm)).st:=rfl
      have hw:∀ R:Rows,whE (jH d (eF c d []) (aP.mk t o [ltE ⟨0,0,[]⟩] r i n ds lm)).wh R=([],0):=by
        intro R
        show whE [eF c d [] (ltE ⟨0,0,[]⟩)] R=_
        rw [whE,bGd (bGm c d ⟨0,0,[]⟩) (by decide)]
        simp [whE]
      by_cases hj:(joE (jH d (eF c d []) (aP.mk t o [] r i n ds lm)).st [[]]).2=0
      · have hc:rP (jH d (eF c d []) (aP.mk t o [ltE ⟨0,0,[]⟩] r i n ds lm))=([],0):=by
          unfold rP
          rw [hst,hw,bR2]
          simp [hj,mI,bD]
        rw [aFt,hc]
        simp [bTo]
      · have hc:rP (jH d (eF c d []) (aP.mk t o [ltE ⟨0,0,[]⟩] r i n ds lm))=([],(joE (jH d (eF c d []) (aP.mk t o [] r i n ds lm)).st [[]]).2):=by
          unfold rP
          rw [hst]; simp [hj]
        have hc0:rP (jH d (eF c d []) (aP.mk t o [] r i n ds lm))=([],(joE (jH d (eF c d []) (aP.mk t o [] r i n ds lm)).st [[]]).2):=by
          unfold rP
          simp [hj]
        rw [aFt,aFt,hc,hc0]
        simp [hj]
  obtain ⟨⟨R,b1,_,b3,b4⟩,b5⟩:=bG8 (c:=c) hd (p:=aP.mk t o [] r i n ds lm) (by omega)
  rw [b5] at b1
  have b1:=Option.some.inj b1
  subst b1
  rw [r0,r1,r2,e1,hw,hdb]
  have hml:∀ y∈(kS d (eF c d []) (aP.mk t o [] r i n ds lm)).1,y.length≤1048576:=by
    intro y hy
    unfold kS at hy
    split at hy
    · simp at hy
    rw [aFt] at hy
    split at hy
    · simp at hy
    have hy:=(bH2).1 y hy
    unfold rP at hy
    split at hy
    · simp at hy
    split at hy
    · simp at hy
    split at hy
    · simp at hy
    split at hy
    · simp at hy
    obtain ⟨x,_,rfl,_⟩:=aCt hy
    refine QJ (aDy _) ?_
    show (i.map _).length≤_
    rw [WQ]; omega
  generalize kS d (eF c d []) (aP.mk t o [] r i n ds lm)=X at e2 b4 hml ⊢
  generalize kS d (eF c d []) (aP.mk t o [ltE ⟨0,0,[]⟩] r i n ds lm)=Y at e2 ⊢
  obtain ⟨X1,X2⟩:=X
  obtain ⟨Y1,Y2⟩:=Y
  dsimp only at e2 b4 hml ⊢
  obtain ⟨rfl,h2⟩:=e2
  simp only [QA,decide_true,QE,QC,if_false,bMe X1 X1 b4 hml]
  rcases h2 with rfl | rfl <;> simp
end Go.Ab
