/- Operations on trees. -/
import Derived.Test.YtcbkkemcgcdhdaaGreatAbT2
namespace Go.Ab
open Go Go.RowKit
open _root_.Nat renaming add_mul→QA,le_refl→QE,one_mul→QN,mul_le_mul_right→QY
open _root_.List renaming mem_append→QB,mem_cons→QC,length_append→QD,flatten_cons→QF,nodup_append→QG,replicate→QI,flatten_append→QJ,eq_nil_of_length_eq_zero→QK,nodup_cons→QL,length_take→QM,length_cons→QQ,take_of_length_le→QR,drop_drop→QS,append_nil→QT,length_drop→QU,replicate_succ→QV,take_left'→QW,nil_sublist→QX
open _root_.Array renaming length_toList→QH,toList_append→QZ
open _root_.Option renaming map_eq_some_iff→QO
open _root_.Bool renaming and_eq_true→QP
section
variable {E:Entry} {N:Nat} {κ:Ctx} {w:World} {a:Act} {s:St} {P:Program}
theorem aQe {vs us:List Value} (n:Nat) (h:n+us.length≤vs.length):(us.zipIdx n).foldl (fun cs p=>cs.set p.2 p.1) vs=vs.take n++us++vs.drop (n+us.length):=by
  induction us generalizing vs n with
  | nil=>simp
  | cons u us ih =>
    simp only [List.zipIdx_cons,List.foldl_cons,QQ] at h ⊢
    have hn:n<vs.length:=by omega
    have hset:vs.set n u=vs.take n++u::vs.drop (n+1):=by rw [List.set_eq_take_append_cons_drop,if_pos hn]
    have hlen:(vs.take n).length=n:=by simp; omega
    have e1:(vs.take n++u::vs.drop (n+1)).take (n+1)=vs.take n++[u]:=by
      rw [List.take_append,hlen,QR (l:=vs.take n) (by omega),show n+1 - n=1 by omega]
      rfl
    have e2:(vs.take n++u::vs.drop (n+1)).drop (n+1+us.length)=vs.drop (n+(us.length+1)):=by
      rw [List.drop_append,hlen,List.drop_eq_nil_of_le (as:=vs.take n) (by omega),List.nil_append,show n+1+us.length - n=us.length+1 by omega,List.drop_succ_cons,QS]
      congr 1; omega
    rw [ih (n+1) (by simp; omega),hset,e1,e2]
    simp
theorem cCa {v:Value} {x:V} (h:aR κ v x) (hs:x.one=true):v.oneCell'=true:=by
  cases h with
  | d h=>exact h.oneCell.1
  | osl _ h=>exact h.oneCell.1
  | agg _=>simp [V.one] at hs
  | agv _=>simp [V.one] at hs
  | top=>simp [V.one] at hs
  | und=>simp [V.one] at hs
  | yes=>simp [V.one] at hs
  | no=>simp [V.one] at hs
  | tup=>simp [V.one] at hs
  | _=>rfl
theorem bXg {vs:List Value} {xs:List V} (h:aZ κ vs xs) (hs:xs.all V.one=true):∀ u∈vs,u.oneCell'=true:=by
  induction xs generalizing vs with
  | nil=>cases h; intro u hu; simp at hu
  | cons x xs ih =>
    simp only [List.all_cons,QP] at hs
    cases h with
    | cons a r =>
      intro u hu
      rcases QC.1 hu with rfl | hu
      · exact cCa a hs.1
      · exact ih r hs.2 u hu
theorem cells_one {v:Value} {x:V} (h:aR κ v x) (hs:x.solid=true):∀ u∈v.cells.toList,u.oneCell'=true:=by
  cases h with
  | d h=>rw [h.oneCell.2]; simp [h.oneCell.1]
  | osl _ h=>rw [h.oneCell.2]; simp [h.oneCell.1]
  | agg h=>exact h.oneCell
  | top=>simp [V.solid] at hs
  | und=>simp [V.solid] at hs
  | yes=>simp [V.solid] at hs
  | no=>simp [V.solid] at hs
  | tup=>simp [V.solid] at hs
  | agv h=>exact bXg h hs
  | _=>simp [Value.cells,Value.oneCell']
theorem bMn {zl:List Value} {sz:Nat} (hz:zl.length=sz):∀ c:Nat,(List.range (c * sz)).map (fun i=>zl.toArray[i % sz]!)=(QI c zl).flatten
  | 0=>by simp
  | c+1=>by
    rw [QA,QN,List.range_add,List.map_append,bMn hz c,List.replicate_succ',QJ]
    congr 1
    rw [List.map_map]
    simp only [QF,List.flatten_nil,QT]
    apply List.ext_getElem
    · simp [hz]
    · intro i h1 h2
      simp only [List.length_map,List.length_range] at h1
      simp [Nat.mod_eq_of_lt h1,h2]
theorem bKc {bx:List (Nat×List V)}:∀ {cells:List V} {ds:List D} {dead:List Nat},pK bx cells=some (ds,dead)→ds.length=cells.length
  | [],ds,dead,h=>by simp [pK] at h; rw [h.1]; rfl
  | x::r,ds,dead,h=>by
    simp only [pK] at h
    split at h
    · simp at h
    · rename_i ds' N' he
      have ih:=bKc he
      cases x <;> simp only at h <;> first | (simp at h; done) | skip
      · split at h <;> simp at h
        obtain ⟨rfl,rfl⟩:=h; simp [ih]
      · simp at h; obtain ⟨rfl,rfl⟩:=h; simp [ih]
      · split at h <;> simp at h
        obtain ⟨rfl,rfl⟩:=h; simp [ih]
theorem bHh {h:Nat→Option Obj} {ts:List TypeId}:∀ {vs:List Value} {vl:List V} {ds:List D},uZ P ts vs=some vl→V.asDs vl=some ds→dZ h vs ds []:=by
  induction ts with
  | nil=>intro vs vl ds h1 h2; cases vs <;> simp [uZ] at h1; subst h1; simp [V.asDs] at h2; subst h2; exact .nil
  | cons t ts ih =>
    intro vs vl ds h1 h2
    cases vs with
    | nil=>simp [uZ] at h1
    | cons v vs =>
      simp only [uZ] at h1
      split at h1 <;> simp at h1
      rename_i x xs k1 k2
      subst h1
      simp only [V.asDs] at h2
      split at h2 <;> simp at h2
      rename_i y ys j1 j2
      subst h2
      refine dZ.cons (B:=[]) (C:=[]) ?_ (ih k2 j2)
      have hr:=aQ5 k1 ⟨fun _=>[],fun _=>(0,0,undef),fun _=>none,fun _=>[]⟩
      cases x with
      | d z =>
        simp [V.asD] at j1; subst j1
        cases hr with | d hr =>
        cases hr with
        | b x=>exact .b x
        | i k n h1 h2=>exact .i k n h1 h2
        | s x h=>exact .s x h
        | nil sz=>exact .nil sz
        | emp a cap sz h =>
          exfalso
          simp [oL] at k1
        | sl b off len cap sz l vs h1 h2 h3 h4 h5 =>
          exfalso
          simp [oL] at k1
        | fn =>
          exfalso
          simp [oL] at k1
        | rw =>
          exfalso
          unfold oL at k1
          repeat' split at k1
          all_goals simp at k1
      | nil sz =>
        simp [V.asD] at j1; subst j1
        cases hr; exact .nil sz
      | osl t e sz l =>
        cases hr with | osl h1 _=>simp at h1
      | fn f caps =>
        exfalso
        unfold oL at k1
        repeat' split at k1
        all_goals simp at k1
      | _=>simp [V.asD] at j1
def V8 (bx:List (Nat×List V)) (x:AO) (v:V):Option (List D×List Nat) :=
  match x with
  | .c (.agg ds)=>some (ds,[])
  | _=>pK bx v.cells
theorem aSl {bx:List (Nat×List V)} {x:AO} {v:V} {p:List D×List Nat} (h:V8 bx x v=some p):(∃ ds,x=.c (.agg ds)∧p=(ds,[]))∨pK bx v.cells=some p:=by
  unfold V8 at h
  split at h
  · simp at h; exact .inl ⟨_,rfl,h.symm⟩
  · exact .inr h
theorem cFz {s:St} {x:AO} {ds:List D} {dead:List Nat} (h:V8 s.bx x (ev s x)=some (ds,dead)):ds.length=(ev s x).cells.length:=by
  rcases aSl h with ⟨d,rfl,e⟩ | h
  · simp only [Prod.mk.injEq] at e
    obtain ⟨rfl,rfl⟩:=e
    simp [ev,V.cells]
  · exact bKc h
theorem bRd (hG:Good E κ w s.bx) {e:TypeId} {o:Operand} {x:AO} {ds:List D} {dead:List Nat} (hx:trO P e o=some x) (he:∀ n,aR κ (a.tmps.getD n undef) (lk s.env n)) (hs:(ev s x).solid=true) (h:V8 s.bx x (ev s x)=some (ds,dead)) :
    dZ (fun b=>w.heap[b]?) (a.eval o).cells.toList ds (dead.flatMap κ.bl)∧∀ n∈dead,(bget s.bx n).isSome=true:=by
  rcases aSl h with ⟨d,rfl,e1⟩ | h
  · simp only [Prod.mk.injEq] at e1
    obtain ⟨rfl,rfl⟩:=e1
    refine ⟨?_,by simp⟩
    cases o with
    | tmp t=>simp [trO] at hx
    | func f=>simp [trO] at hx
    | global g=>simp [trO] at hx
    | const v =>
      simp only [trO,QO] at hx
      obtain ⟨y,hy,h2⟩:=hx
      cases h2
      unfold trC at hy
      split at hy
      · split at hy
        · rename_i cs l hl
          obtain ⟨ds',hd,h3⟩:=QO.1 hy
          cases h3
          exact bHh hl hd
        · simp at hy
      · exfalso
        rename_i v hv
        have:=aQ5 hy ⟨fun _=>[],fun _=>(0,0,undef),fun _=>none,fun _=>[]⟩
        cases this with | agg _=>exact hv _ rfl
  · obtain ⟨j1,j2⟩:=bD1 hG h (Z0 (aCf hx he) hs)
    exact ⟨j1,fun n hn=>by obtain ⟨_,_,h⟩:=j2 n hn; simp [h]⟩
def tJ (s:St) (sz:Nat):List AO→Option (List (List D)×List Nat)
  | []=>some ([],[])
  | x::r=>if (ev s x).solid&&((ev s x).cells.length==sz) then match V8 s.bx x (ev s x),tJ s sz r with
    | some (ds,N),some (l,M)=>some (ds::l,N++M)
    | _,_=>none
    else none
theorem bFr (hG:Good E κ w s.bx) {e:TypeId} {sz:Nat}:∀ {n:Nat} {parts:List (Nat×Operand)} {xs:List AO} {l:List (List D)} {dead:List Nat},wL P e n parts=some xs→(∀ n,aR κ (a.tmps.getD n undef) (lk s.env n))→tJ s sz xs=some (l,dead) →
    ∃ cs,dZ (fun b=>w.heap[b]?) cs l.flatten (dead.flatMap κ.bl)∧(∀ n∈dead,(bget s.bx n).isSome=true)∧(∀ x∈l,x.length=sz)∧l.length=xs.length∧cs.length=xs.length * sz ∧
      ∀ pre rest:List Value,pre.length=n * sz→rest.length=xs.length * sz→Instr.fill (fun i=>some (i * sz,sz)) (pre++rest).toArray (parts.map fun (i,x)=>(i,a.eval x))=some (pre++cs).toArray
  | n,[],xs,l,dead,h,he,hv=>by
    simp [wL] at h; subst h
    simp [tJ] at hv
    obtain ⟨rfl,rfl⟩:=hv
    refine ⟨[],.nil,by simp,by simp,rfl,by simp,fun pre rest _ hr=>?_⟩
    have:rest=[]:=QK (by simpa using hr)
    subst this; rfl
  | n,(i,x)::r,xs,l,dead,h,he,hv=>by
    simp only [wL] at h
    split at h
    · rename_i hi; subst hi
      split at h <;> simp at h
      rename_i y ys hy hys
      subst h
      simp only [tJ] at hv
      split at hv
      · rename_i hc
        simp only [QP,beq_iff_eq] at hc
        split at hv <;> simp at hv
        rename_i ds N' l' M' h1 h2
        obtain ⟨rfl,rfl⟩:=hv
        obtain ⟨cs,k1,k2,k3,k4,k5,k6⟩:=bFr hG hys he h2
        have hcv:=Z0 (aCf hy he) hc.1
        obtain ⟨j1,j2⟩:=bRd hG hy he hc.1 h1
        have hdl:ds.length=sz:=by rw [cFz h1,hc.2]
        have hcl:(a.eval x).cells.toList.length=sz:=by rw [hcv.length,hc.2]
        refine ⟨(a.eval x).cells.toList++cs,by rw [QF,List.flatMap_append]; exact j1.append k1,fun m hm=>?_,?_,by simp [k4],?_,fun pre rest hpre hr=>?_⟩
        · rcases QB.1 hm with hm | hm
          · exact j2 m hm
          · exact k2 m hm
        · intro z hz
          rcases QC.1 hz with rfl | hz
          · exact hdl
          · exact k3 z hz
        · simp [k5,QA]; simp at hcl; omega
        · simp only [QQ,QA,QN] at hr
          have hcs:(a.eval x).cells.size=sz:=by simpa using hcl
          have hno:¬ (decide ((a.eval x).cells.size≠sz)||decide (i * sz+(a.eval x).cells.size>(pre++rest).toArray.size))=true:=by
            simp only [Bool.or_eq_true,decide_eq_true_eq]
            rintro (h | h)
            · exact h hcs
            · rw [hcs] at h; simp at h; omega
          simp only [List.map_cons,Instr.fill]
          rw [if_neg hno,aZd,aQe (i * sz) (by simp only [QD]; omega)]
          have e1:(pre++rest).take (i * sz)=pre:=by rw [← hpre]; exact List.take_left
          have e2:(pre++rest).drop (i * sz+(a.eval x).cells.toList.length)=rest.drop sz:=by rw [hcl,← hpre,← QS]; simp
          have:=k6 (pre++(a.eval x).cells.toList) (rest.drop sz) (by simp only [QD,hcl,hpre,QA,QN]) (by simp only [QU]; omega)
          simp only [e1,e2]
          rw [List.append_assoc] at this ⊢
          rw [this]; simp
      · simp at hv
    · simp at h
theorem fP.lt {v:Value} {x:D} {B:List Nat} (hr:fP (fun b=>w.heap[b]?) v x B):∀ b∈B,b<w.heap.size:=by
  have key:∀ b∈B,∃ cs T,Row (fun k=>w.heap[k]?) b cs T:=by
    intro b hb
    exact fP.rec (h:=fun b=>w.heap[b]?) (motive_1:=fun _ _ B _=>∀ b∈B,∃ cs T,Row (fun k=>w.heap[k]?) b cs T) (motive_2:=fun _ _ B _=>∀ b∈B,∃ cs T,Row (fun k=>w.heap[k]?) b cs T)
      (fun _ _ h=>by simp at h) (fun _ _ _ _ _ h=>by simp at h) (fun _ _ _ h=>by simp at h) (fun _ _ h=>by simp at h)
      (fun b len cap sz l B cs T h1 _ _ _ _ _ _ ih x hx=>by
        rcases QC.1 hx with rfl | hx
        · exact ⟨cs,T,h1⟩
        · exact ih x hx)
      (fun _ h=>by simp at h) (fun _ _ ih1 ih2 x hx=>(QB.1 hx).elim (ih1 x) (ih2 x)) hr b hb
  intro b hb
  obtain ⟨cs,T,hh⟩:=key b hb
  exact hh.lt
theorem Good.deadLt {bx:List (Nat×List V)} (g:Good E κ w bx) {dead:List Nat} (hd:∀ n∈dead,(bget bx n).isSome=true):∀ b∈dead.flatMap κ.bl,b<w.heap.size:=fun b hb=>by
  obtain ⟨n,hn,hb⟩:=List.mem_flatMap.1 hb
  exact ((g.blk n (hd n hn)).2 b hb).2.1
theorem Ok.newTree (h:Ok E N κ w a s) {d:Nat} (hd:d<N) (hfb:∀ n∈E.fb,N≤n∧n<NX) (hf:s.fresh d=true) {dead:List Nat} (hdead:∀ n∈dead,(bget s.bx n).isSome=true) (hdd:d∉dead) (hnd:dead.Nodup) {w':World} {cur:Array Value} {e:TypeId} {sz cap:Nat} {l:List (List D)} {C:List Nat}
    (hheap:w'.heap=w.heap.push (.cells cur e)) (hos:w'.os=w.os) (htape:w'.tape=w.tape) (hout:w'.output=w.output) (hcur:cur.size=cap * sz) (hlc:l.length≤cap) (hcm:cap≤maxLen) (hrow:∀ e∈l,e.length=sz)
    (hX:dZ (fun b=>w.heap[b]?) (cur.toList.take (l.length * sz)) l.flatten C) (hC:C.Sublist (dead.flatMap κ.bl)) :
    ∃ κ',Ok E N κ' w' (a.put (some d) (.slice (some ⟨w.heap.size,0,none⟩) l.length cap)) ⟨(d,.tre d)::s.env,(d,[.trc sz l])::kill s.bx dead⟩:=by
  have g:=h.good
  have hlt:=g.deadLt hdead
  have hold:∀ b,b<w.heap.size→w'.heap[b]?=w.heap[b]?:=fun b hb=>by rw [hheap,Array.getElem?_push,if_neg (by omega)]
  refine h.remake hd hfb hf hdead hdd (B:=w.heap.size::C) hos htape hout (by rw [hheap]; simp) (fun b hb _=>hold b hb) (.sl _ _ cap sz l C cur e (.of (by show w'.heap[w.heap.size]?=_; rw [hheap]; simp)) hcur rfl hlc hcm hrow (hX.frame fun b hb=>hold b (hlt b (hC.subset hb)))) ?_ ?_ ?_
  · simp only [QL]
    exact ⟨fun hb=>by have:=hlt _ (hC.subset hb); omega,hC.nodup (g.flatNodup hnd hdead)⟩
  · intro b hb
    rcases QC.1 hb with rfl | hb
    · exact .inr (QE _)
    · exact .inl (hC.subset hb)
  · intro b hb
    rw [hheap]; simp
    have:=hlt b hb; omega
theorem cCj {T e:TypeId} {len d:Nat} {parts:Array (Nat×Operand)} {xs:List AO} {ti:TypeInfo} {z:Value} {o:Oper} {K:St→Prop} {Q:Exit→Act→World→Prop} (ho:o.op=.buildSlice T len parts) (hd:o.dst=some d) (hdN:d<N) (hfb:∀ n∈E.fb,N≤n∧n<NX) (hT:P.underlying T=some (.slice e)) (hti:P.info? e=some ti)
    (hz:ti.zero=some z) (hxs:wL P e 0 parts.toList=some xs) (hlen:xs.length=len) (hsz:0<ti.size) (hsm:len * ti.size≤2 ^ 24) (h:Ok E N κ w a s)
    (hv:s.fresh d=true∧∃ l dead,tJ s ti.size xs=some (l,dead)∧dead.Nodup∧d∉dead∧K ⟨(d,.tre d)::s.env,(d,[.trc ti.size l])::kill s.bx dead⟩):o.wp P a w (KC E N K) Q:=by
  obtain ⟨hf,l,dead,hel,hnd,hdd,hK⟩:=hv
  obtain ⟨cs,h1,h1',h2,h3,h4,h6⟩:=bFr h.good hxs h.env hel
  have hmx:len≤maxLen:=by
    have:len * 1≤len * ti.size:=Nat.mul_le_mul_left _ hsz
    simp only [maxLen]; omega
  have hfill:∀ A:Array Value,A.size=len * ti.size→Instr.fill (fun i=>some (i * ti.size,ti.size)) A (parts.toList.map fun (i,x)=>(i,a.eval x))=some cs.toArray:=by
    intro A hA
    have:=h6 [] A.toList (by simp) (by simp [hA,hlen])
    simpa using this
  have hr:(execOp a.eval o).run P w=.ok (.value (.slice (some ⟨w.heap.size,0,none⟩) len len)) (w.alloc (.cells cs.toArray e)):=by
    unfold execOp; rw [ho]
    have hn:¬ len * ti.size>2 ^ 24:=by omega
    have hm:(Array.map (fun x=>match x with | (i,x)=>(i,a.eval x)) parts).toList=parts.toList.map fun (i,x)=>(i,a.eval x):=by simp
    simp only [Instr.buildSlice,Sem.run_bind,fJ hT,Result.andThen_ok,lU hti,if_neg hn,Sem.run_pure,Sem.run_ite,hm]
    by_cases h0:len * ti.size=0
    · simp only [h0,if_true,Result.andThen_ok]
      rw [hfill _ (by simp [h0])]
      simp [newRow]
    · simp only [if_neg h0,zeroValue,typeInfo,Sem.run_bind,run_program,Result.andThen_ok,hti,Sem.run_pure,hz]
      rw [hfill _ (by simp)]
      simp [newRow]
  unfold Oper.wp
  rw [hr,Oper.upon_value,hd]
  have hll:l.length=len:=by rw [h3,hlen]
  obtain ⟨κ',hok⟩:=h.newTree hdN hfb hf h1' hdd hnd (w':=w.alloc (.cells cs.toArray e)) (cur:=cs.toArray) (e:=e) (sz:=ti.size) (cap:=len) (l:=l) rfl rfl rfl rfl (by simp [h4,hlen]) (by omega) hmx h2
    (by rw [show cs.toArray.toList.take (l.length * ti.size)=cs by simp; rw [QR]; rw [h4,h3]; exact QE _]; exact h1) (List.Sublist.refl _)
  rw [hll] at hok
  exact ⟨κ',_,hK,hok⟩
theorem dZ.rows {h:Nat→Option Obj} {zl:List Value} {ds:List D} (hz:dZ h zl ds []):∀ c:Nat,dZ h (QI c zl).flatten (QI c ds).flatten []
  | 0=>.nil
  | c+1=>by
    rw [QV,QV,QF,QF]
    exact hz.append (dZ.rows hz c)
theorem bKs {w:World} {t tx ty e e0:TypeId} {i:TypeInfo} (ht:P.underlying t=some (.slice e)) (hi:P.info? e=some i)
    {g sLen sCap:Nat} {cur:Array Value} (hg:Row (fun k=>w.heap[k]?) g cur e0) {x:Value} {n:Nat} {news:List Value} (hs:vH P i.size tx x n news w)
    (hroom:sLen+n≤sCap) (hfit:sLen * i.size+news.length≤cur.size) :
    (Builtin.append_ #[t,tx] ty #[.slice (some ⟨g,0,none⟩) sLen sCap,x]).run P w =
      .ok (.slice (some ⟨g,0,none⟩) (sLen+n) sCap) (w.setRow g (cur.toList.take (sLen * i.size)++news++cur.toList.drop (sLen * i.size+news.length)).toArray):=by
  have hst:=Row.stores (P:=P) g (sLen * i.size) e0 news 0 cur w hg (by simpa using hfit) hs.one
  simp only [Nat.add_zero] at hst
  rcases hs.kind with ⟨e',hk⟩ | hk <;> simp [Builtin.append_,run_underlying ht,run_underlying hk,sizeOf,typeInfo,hi,hs.len,hroom,hs.cells,Addr.add_lit,hst]
theorem aGo {α:Type} (f:α→List Nat) (A B:List α):(A++B).flatMap f=A.flatMap f++B.flatMap f:=by simp
theorem Ok.appendT (h:Ok E N κ w a s) {d:Nat} (hdN:d<N) (hfb:∀ n∈E.fb,N≤n∧n<NX) (hf:s.fresh d=true) {ty e:TypeId} {ti:TypeInfo} {z:Value} (hty:P.underlying ty=some (.slice e)) (hi:P.info? e=some ti) (hz:ti.zero=some z) (hzs:z.cells.size=ti.size)
    {v u:Value} {l1 l2:List (List D)} {N1 N2:List Nat} {C2:List Nat} (hv:fP (fun b=>w.heap[b]?) v (.sl ti.size l1) (N1.flatMap κ.bl)) {tu:TypeId} {us:List Value} (hsr:vH P ti.size tu u l2.length us w) (hu:dZ (fun b=>w.heap[b]?) us l2.flatten C2) (hC2:C2.Sublist (N2.flatMap κ.bl))
    (hrow2:∀ x∈l2,x.length=ti.size) (hdead:∀ n∈N1++N2,(bget s.bx n).isSome=true) (hnd:(N1++N2).Nodup) (hdd:d∉N1++N2) (hmax:(l1.length+l2.length) * ti.bytes≤140737488355328) (hlen:l1.length+l2.length≤maxLen) (tr:TypeId) :
    ∃ v' w' κ',(Builtin.append_ #[ty,tu] tr #[v,u]).run P w=.ok v' w'∧Ok E N κ' w' (a.put (some d) v') ⟨(d,.tre d)::s.env,(d,[.trc ti.size (l1++l2)])::kill s.bx (N1++N2)⟩:=by
  have g:=h.good
  have hlt:=g.deadLt hdead
  have hnod:=g.flatNodup hnd hdead
  have h63:l1.length+l2.length≤9223372036854775807:=by simp only [maxLen] at hlen; omega
  have hu3:=hsr.newsLen
  rw [aGo] at hnod hlt
  have hn1:=(QG.1 hnod).1
  have hn2:=(QG.1 hnod).2.1
  have hn12:=(QG.1 hnod).2.2
  by_cases hm0:l2.length=0
  · have hy:l2=[]:=QK hm0
    subst hy
    have hus:us=[]:=QK (by simpa using hu3)
    subst hus
    have hrun:(Builtin.append_ #[ty,tu] tr #[v,u]).run P w=.ok v w:=by
      rcases hv.slice with ⟨rfl,_⟩ | ⟨q,rfl,_⟩ | ⟨b,cap,C,cs,T,rfl,_,_,_,h4,_⟩
      · exact aDc hty hi (QE _) hsr
      · exact aDc hty hi (QE _) hsr
      · exact aDc hty hi h4 hsr
    rw [QT]
    obtain ⟨κ',hok⟩:=h.remake hdN hfb hf hdead hdd (w':=w) (v':=v) rfl rfl rfl (QE _) (fun _ _ _=>rfl) hv hn1 (fun b hb=>.inl (by rw [aGo]; exact List.mem_append_left _ hb)) (fun b hb=>hlt b (by rw [aGo] at hb; exact hb))
    exact ⟨v,w,κ',hrun,hok⟩
  · have grow:∀ (base:Option Addr) (cap:Nat) (olds:List Value) (C1:List Nat),v=.slice base l1.length cap→(Builtin.firstCells ti.size l1.length (.slice base l1.length cap)).run P w.drew=.ok olds.toArray w.drew→olds.length=l1.length * ti.size→cap<l1.length+l2.length →
        dZ (fun b=>w.heap[b]?) olds l1.flatten C1→C1.Sublist (N1.flatMap κ.bl)→(∀ x∈l1,x.length=ti.size) →
        ∃ v' w' κ',(Builtin.append_ #[ty,tu] tr #[v,u]).run P w=.ok v' w'∧Ok E N κ' w' (a.put (some d) v') ⟨(d,.tre d)::s.env,(d,[.trc ti.size (l1++l2)])::kill s.bx (N1++N2)⟩:=by
      intro base cap olds C1 hvv hold hol hcap hx1 hC1 hrow1
      subst hvv
      have hr:=aP7 (P:=P) (w:=w) (ty:=tr) (olds:=olds) hty hi hz hold hsr hcap (by omega) (growslice_fits (by omega) hmax)
      have hgc:=aHk (w:=w) (need:=l1.length+l2.length) (old:=cap) (e:=e) hlen
      have hq1:(olds.toArray++us.toArray++Builtin.zeroCells z.cells (grownCap w (l1.length+l2.length) cap e - (l1.length+l2.length))).size=grownCap w (l1.length+l2.length) cap e * ti.size:=by
        simp only [Array.size_append,List.size_toArray,size_zeroCells,hzs,hol,hu3,← QA]
        congr 1; omega
      have hq2:(olds.toArray++us.toArray++Builtin.zeroCells z.cells (grownCap w (l1.length+l2.length) cap e - (l1.length+l2.length))).toList.take ((l1++l2).length * ti.size)=olds++us:=by
        rw [QZ,QZ]
        simp only [QD]
        exact QW (by simp [hol,hu3,QA])
      have hll:(l1++l2).length=l1.length+l2.length:=by simp
      obtain ⟨κ',hok⟩:=(h.ofHeap (w':=w.drew) rfl rfl rfl rfl).newTree hdN hfb hf hdead hdd hnd (w':=w.drew.alloc (.cells (olds.toArray++us.toArray++Builtin.zeroCells z.cells (grownCap w (l1.length+l2.length) cap e - (l1.length+l2.length))) e)) (sz:=ti.size) (l:=l1++l2) (C:=C1++C2)
        rfl rfl rfl rfl hq1 (by rw [hll]; exact hgc.1) hgc.2 (fun x hx=>(QB.1 hx).elim (hrow1 x) (hrow2 x)) (by rw [hq2,QJ]; exact hx1.append hu) (by rw [aGo]; exact hC1.append hC2)
      rw [hll] at hok
      exact ⟨_,_,κ',hr,hok⟩
    rcases hv.slice with ⟨rfl,rfl,hB⟩ | ⟨q,rfl,rfl,hB⟩ | ⟨b,cap,C,cs,T0,rfl,hB,hh,hcs,h4,h5,hrow1,hR⟩
    · exact grow none 0 [] [] rfl (by simp [Builtin.firstCells]) (by simp) (by simp; omega) .nil (QX _) (by simp)
    · exact grow (some q) 0 [] [] rfl (run_firstCells_some w.drew ti.size 0 q 0 0 [] (by simp) (by simp)) (by simp) (by simp; omega) .nil (QX _) (by simp)
    · by_cases hroom:l1.length+l2.length≤cap
      · have hfit:l1.length * ti.size+us.length≤cs.size:=by rw [hu3,hcs,← QA]; exact QY _ hroom
        have hr:=bKs (P:=P) (w:=w) (ty:=tr) hty hi hh hsr hroom hfit
        obtain ⟨cs',hcs'⟩:∃ c:Array Value,c=(cs.toList.take (l1.length * ti.size)++us++cs.toList.drop (l1.length * ti.size+us.length)).toArray:=⟨_,rfl⟩
        rw [← hcs'] at hr
        have hother:∀ k,k≠b→(w.setRow b cs').heap[k]?=w.heap[k]?:=fun k hk=>setRow_other w b k cs' hk
        rw [hB] at hn1 hn12
        simp only [QL] at hn1
        have hC:∀ x∈C,x≠b:=fun x hx e=>hn1.1 (e ▸ hx)
        have hC':∀ x∈C2,x≠b:=fun x hx e=>hn12 b (by simp) x (hC2.subset hx) e.symm
        have hll:(l1++l2).length=l1.length+l2.length:=by simp
        have hq:cs'.toList.take ((l1.length+l2.length) * ti.size)=cs.toList.take (l1.length * ti.size)++us:=by
          rw [hcs']
          exact QW (by simp only [QD,QM,QH,hu3,QA]; omega)
        have hsz':cs'.size=cap * ti.size:=by
          rw [← QH,hcs']
          simp only [QD,QM,QU,QH]
          omega
        have hh':Row (fun k=>(w.setRow b cs').heap[k]?) b cs' T0:=hh.set (hsz'.trans hcs.symm)
        have hX:fP (fun k=>(w.setRow b cs').heap[k]?) (.slice (some ⟨b,0,none⟩) (l1.length+l2.length) cap) (.sl ti.size (l1++l2)) (b::(C++C2)):=by
          refine .sl b _ cap ti.size _ _ cs' T0 hh' hsz' hll.symm hroom h5 (fun x hx=>(QB.1 hx).elim (hrow1 x) (hrow2 x)) ?_
          rw [hq,QJ]
          exact (hR.frame fun x hx=>hother x (hC x hx)).append (hu.frame fun x hx=>hother x (hC' x hx))
        have hsub:∀ x∈b::(C++C2),x∈(N1++N2).flatMap κ.bl:=fun x hx=>by
          rw [aGo,hB]
          simp only [QC,QB] at hx ⊢
          rcases hx with h | h | h
          · simp [h]
          · simp [h]
          · exact .inr (hC2.subset h)
        obtain ⟨κ',hok⟩:=h.remake hdN hfb hf hdead hdd (w':=w.setRow b cs') rfl rfl rfl (by simp) (fun x _ hx=>hother x fun e=>hx (e ▸ hsub b (by simp))) hX
          (by
            simp only [QL,QB,not_or]
            exact ⟨⟨hn1.1,fun hx=>hC' b hx rfl⟩,QG.2 ⟨hn1.2,hC2.nodup hn2,fun x hx y hy=>hn12 x (by simp [hx]) y (hC2.subset hy)⟩⟩) (fun x hx=>.inl (hsub x hx)) (fun x hx=>by simpa using hlt x (by rw [aGo] at hx; exact hx))
        exact ⟨_,_,κ',hr,hok⟩
      · have hcell:∀ j u,(cs.toList.take (l1.length * ti.size))[j]?=some u→w.cell? ((⟨b,0,none⟩:Addr).add j)=some u:=by
          intro j u hj
          have hadd:(⟨b,0,none⟩:Addr).add j=⟨b,0+j,none⟩:=by unfold Addr.add; split <;> simp_all
          rw [List.getElem?_take] at hj
          split at hj
          · obtain ⟨fr,hh1,_⟩:=hh
            have hh2:w.heap[b]?=some (.cells cs T0 fr):=hh1
            rw [hadd]
            simp only [Array.getElem?_toList] at hj
            simp [World.cell?,hh2,hj]
          · simp at hj
        have hol:(cs.toList.take (l1.length * ti.size)).length=l1.length * ti.size:=by
          have:=QY ti.size h4
          simp only [QM,QH,hcs]
          omega
        refine grow (some ⟨b,0,none⟩) cap _ C rfl (run_firstCells_some (P:=P) w.drew ti.size l1.length ⟨b,0,none⟩ l1.length cap _ hol (by simpa using hcell)) hol (by omega) hR ?_ hrow1
        rw [hB]; exact List.sublist_cons_self _ _
end
def rY (s:St) (sz:Nat):V→Option (List (List D)×List Nat)
  | .nil sz'=>if sz'=sz then some ([],[]) else none
  | .tre n=>match bget s.bx n with
    | some [.trc sz' l]=>if sz'=sz then some (l,[n]) else none
    | _=>none
  | _=>none
def aXy (s:St) (d sz bytes:Nat) (l1:List (List D)) (N1:List Nat) (l2:List (List D)) (N2:List Nat) (K:St→Prop):Prop :=
  (N1++N2).Nodup∧d∉N1++N2∧(l1.length+l2.length) * bytes≤140737488355328∧s.fresh d=true∧K ⟨(d,.tre d)::s.env,(d,[.trc sz (l1++l2)])::kill s.bx (N1++N2)⟩
def aWn (s:St) (d sz bytes:Nat) (x y:V) (K:St→Prop):Prop:=∃ l1 N1,rY s sz x=some (l1,N1) ∧
  ((∃ l2 N2,rY s sz y=some (l2,N2)∧aXy s d sz bytes l1 N1 l2 N2 K)∨srK y fun sz' ys=>sz'=sz∧(∀ r∈ys,r.all D.flat=true)∧aXy s d sz bytes l1 N1 ys [] K)
end Go.Ab
