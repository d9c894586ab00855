/- Rows of data that nobody else sees. -/
import Derived.Test.YtcbkkemcgcdhdaaGreatAbT3
namespace Go.Ab
open Go Go.RowKit
open _root_.Array renaming length_toList→QA,toList_append→QQ
open _root_.List renaming length_append→QB,length_take→QC,mem_singleton→QF,length_drop→QG,mem_flatMap→QH,flatten_cons→QJ,getElem?_take→QK,eq_nil_of_length_eq_zero→QL,take_left'→QM,mem_append→QN,flatten_append→QO
open _root_.Nat renaming add_mul→QD,mul_le_mul_right→QE,le_refl→QI,one_mul→QP
theorem bGa {sz:Nat}:∀ {l:List (List D)} {i off:Nat} {ds dv:List D},(∀ e∈l,e.length=sz)→l[i]?=some ds→off+dv.length≤ds.length →
    (l.set i (ds.take off++dv++ds.drop (off+dv.length))).flatten=l.flatten.take (i * sz+off)++dv++l.flatten.drop (i * sz+off+dv.length)
  | [],i,off,ds,dv,_,hi,_=>by simp at hi
  | x::l,0,off,ds,dv,hz,hi,hf=>by
    simp at hi; subst hi
    have h1:(x++l.flatten).take off=x.take off:=List.take_append_of_le_length (by omega)
    have h2:(x++l.flatten).drop (off+dv.length)=x.drop (off+dv.length)++l.flatten:=List.drop_append_of_le_length hf
    simp [h1,h2]
  | x::l,i+1,off,ds,dv,hz,hi,hf=>by
    have hx:x.length=sz:=hz x (by simp)
    have ih:=bGa (l:=l) (i:=i) (off:=off) (ds:=ds) (dv:=dv) (fun e he=>hz e (by simp [he])) (by simpa using hi) hf
    rw [List.set_cons_succ,QJ,ih,QJ]
    have e1:(i+1) * sz+off=x.length+(i * sz+off):=by rw [QD,QP,hx]; omega
    rw [e1,Nat.add_assoc x.length,List.take_length_add_append,List.drop_length_add_append]
    simp
section
variable {E:Entry} {N:Nat} {κ:Ctx} {w:World} {a:Act} {s:St} {P:Program}
theorem Ok.remakeS (h:Ok E N κ w a s) {d:Nat} (hd:d<N) (hfb:∀ n∈E.fb,N≤n∧n<NX) (hf:s.fresh d=true) {dead:List Nat} (hdead:∀ n∈dead,(bget s.bx n).isSome=true) (hdd:d∉dead) {w':World} {v':Value} {sz:Nat} {l:List (List D)} {B:List Nat}
    (hos:w'.os=w.os) (htape:w'.tape=w.tape) (hout:w'.output=w.output) (hsize:w.heap.size≤w'.heap.size) (hblock:∀ b,b<w.heap.size→b∉dead.flatMap κ.bl→w'.heap[b]?=w.heap[b]?)
    (hX:rX κ.S (fun b=>w'.heap[b]?) sz l v' B) (hBw:∀ b∈B,b∈dead.flatMap κ.bl∨w.heap.size≤b) (hmem:∀ b,b∈dead.flatMap κ.bl→b<w'.heap.size) :
    ∃ κ',Ok E N κ' w' (a.put (some d) v') ⟨(d,.tre d)::s.env,(d,[.trs sz l])::kill s.bx dead⟩:=by
  have g:=h.good
  obtain ⟨κ',hκ⟩:∃ k:Ctx,k=⟨κ.S,upd κ.mt d (oZ 0 v'),κ.o,fun m=>if m=d then B else if m∈dead then [] else κ.bl m⟩:=⟨_,rfl⟩
  have hS:κ'.S=κ.S:=by rw [hκ]
  have ho:∀ t,κ'.o t=κ.o t:=fun t=>by rw [hκ]
  have hm0:∀ k,k≠d→κ'.mt k=κ.mt k:=fun k hk=>by rw [hκ]; exact jI _ _ _ hk
  have hmd:κ'.mt d=oZ 0 v':=by rw [hκ]; exact upd_same _ _ _
  have hbn:κ'.bl d=B:=by rw [hκ]; exact if_pos rfl
  have hbd:∀ m∈dead,κ'.bl m=[]:=fun m hm=>by
    rw [hκ]
    show (if m=d then _ else if m∈dead then [] else κ.bl m)=_
    rw [if_neg fun e:m=d=>hdd (e ▸ hm),if_pos hm]
  have hb0:∀ m,m≠d→m∉dead→κ'.bl m=κ.bl m:=fun m h1 h2=>by
    rw [hκ]
    show (if m=d then _ else if m∈dead then [] else κ.bl m)=_
    rw [if_neg h1,if_neg h2]
  clear hκ
  have hle:κ.S.le κ'.S:=by rw [hS]; exact Mem.le_refl _
  have hbkD:∀ x∈dead.flatMap κ.bl,κ.S x=[]∧(E.may x∨E.w.heap.size≤x):=fun x hx=>by
    obtain ⟨m,hm,hx⟩:=QH.1 hx
    have:=(g.blk m (hdead m hm)).2 x hx
    exact ⟨this.1,this.2.2⟩
  have hv:κ'.hv d=v':=by show (κ'.mt d).2.2=v'; rw [hmd]; exact wM _ _
  refine ⟨κ',by simp [Act.put,h.size],h.defers,fun k=>?_,?_⟩
  · simp only [Act.put,lk]
    rw [aBy _ _ _ _ (by rw [h.size]; exact hd)]
    split
    · cases hX with
      | nil _=>exact .tre hv
      | sl _ _ _ _ _ _ _ _ _ _=>exact .tre hv
    · exact (h.env k).move hle (V.fits_m hm0 ho _ (s.fresh_env hf k).1)
  · refine g.patch (fun x=>w.heap.size≤x∨x∈dead.flatMap κ.bl) (fun m=>m=d∨m∈dead) (fun _=>False) hos htape hout hsize (fun x hx=>hx.elim (fun h=>.inr (Nat.le_trans g.frm.size h)) fun h=>(hbkD x h).2) (fun x hx=>?_) (fun x _=>by rw [hS]; exact g.frm.le x) (fun x _=>by rw [hS]; exact g.tab x)
      (fun x hx hn=>?_) (fun m hm=>hm0 m (by have:=(hfb m hm).1; omega)) ?_ ?_ ?_ (fun t o ht _=>?_) (fun _ _ _ h=>h.elim) (fun _ _ _ _ _ _ _ h=>h.elim)
    · simp only [not_or] at hx
      exact ⟨hblock x (by omega) hx.2,by rw [hS]⟩
    · rw [hS] at hn
      rcases hx with h1 | h1
      · exact absurd (g.memNew h1) hn
      · exact absurd (hbkD x h1).1 hn
    · intro m c hc hs
      simp only [not_or] at hs
      simp only [bget,if_neg hs.1] at hc
      rw [P9,if_neg hs.2] at hc
      refine ⟨c,hc,hm0 m hs.1,hb0 m hs.1 hs.2,Mv.fits hle (V.fitss_m hm0 ho _ (s.fresh_bx hf hc).1),fun x hx=>?_⟩
      rintro (h1 | h1)
      · have:=((g.blk m (by simp [hc])).2 x hx).2.1; omega
      · obtain ⟨k,hk,hx'⟩:=QH.1 h1
        exact hs.2 ((g.inj m k x (by simp [hc]) (hdead k hk) hx hx') ▸ hk)
    · intro m c hc hs
      by_cases hm:m=d
      · subst hm
        simp [bget] at hc
        subst hc
        refine ⟨.shallow hmd (by rw [hbn,hS]; exact hX),by rw [hbn]; cases hX <;> simp,fun x hx=>?_⟩
        rw [hbn] at hx
        refine ⟨(hBw x hx).symm,?_,?_⟩
        · rw [hS]; exact (hBw x hx).elim (fun h=>(hbkD x h).1) g.memNew
        · obtain ⟨cs,T,hh⟩:∃ cs T,Row (fun k=>w'.heap[k]?) x cs T:=by
            cases hX with
            | nil _=>simp at hx
            | sl b cap cs T h1 _ _ _ _ _=>rw [QF] at hx; subst hx; exact ⟨cs,T,h1⟩
          exact hh.lt
      · have hm':=hs.resolve_left hm
        simp only [bget,if_neg hm] at hc
        rw [P9,if_pos hm'] at hc
        obtain ⟨c0,_,rfl⟩:=Option.map_eq_some_iff.1 hc
        refine ⟨.dead (hbd m hm'),by rw [hbd m hm']; simp,fun x hx=>?_⟩
        rw [hbd m hm'] at hx; simp at hx
    · rintro m m' x _ _ hs hs' hx hx'
      by_cases hm:m=d <;> by_cases hm':m'=d
      · rw [hm,hm']
      · rw [hbd m' (hs'.resolve_left hm')] at hx'; simp at hx'
      · rw [hbd m (hs.resolve_left hm)] at hx; simp at hx
      · rw [hbd m (hs.resolve_left hm)] at hx; simp at hx
    · rw [ho] at ht
      refine ⟨ht,fun x hx=>?_⟩
      rintro (h1 | h1)
      · have:=(g.own t o ht).1.lt hx; omega
      · obtain ⟨k,hk,hx'⟩:=QH.1 h1
        exact ((g.own t o ht).2 x hx).2 k (hdead k hk) hx'
theorem Ok.storeS (h:Ok E N κ w a s) {n sz i off:Nat} {l:List (List D)} {ds dv:List D} (hb:bget s.bx n=some [.trs sz l]) (hi:l[i]?=some ds) {us:List Value} (hu:bP κ.S us dv) (hfit:off+dv.length≤ds.length) :
    ∃ (b:Nat) (cs:Array Value) (T:TypeId),κ.m n=b∧Row (fun k=>w.heap[k]?) b cs T∧i * sz+off+us.length≤cs.size ∧
      Ok E N κ (w.setRow b (cs.toList.take (i * sz+off)++us++cs.toList.drop (i * sz+off+us.length)).toArray) a ⟨s.env,fC s.bx n [.trs sz (l.set i (ds.take off++dv++ds.drop (off+dv.length)))]⟩:=by
  have g:=h.good
  obtain ⟨_,v0,T0,hmt,hX⟩:=(g.box n _ hb).toShallow
  have hbk:=(g.blk n (by simp [hb])).2
  have hul:=hu.length
  have hil:i<l.length:=(List.getElem?_eq_some_iff.1 hi).1
  generalize hB:κ.bl n=B at hX hbk
  cases hX with
  | nil e=>subst e; simp at hi
  | sl b cap cs T hh hsz hlc hcm hrow hX =>
    have hle1:(i+1) * sz≤cap * sz:=QE _ (by omega)
    have hle2:(i+1) * sz≤l.length * sz:=QE _ (by omega)
    have hlz:l.length * sz≤cap * sz:=QE _ hlc
    have hs1:(i+1) * sz=i * sz+sz:=by rw [QD,QP]
    have hdz:ds.length=sz:=hrow ds (List.mem_of_getElem? hi)
    have hfit2:i * sz+off+us.length≤cs.size:=by rw [hsz]; omega
    refine ⟨b,cs,T,by show (κ.mt n).1=b; rw [hmt]; rfl,hh,hfit2,?_⟩
    obtain ⟨cs',hcs'⟩:∃ c:Array Value,c=(cs.toList.take (i * sz+off)++us++cs.toList.drop (i * sz+off+us.length)).toArray:=⟨_,rfl⟩
    rw [← hcs']
    have hl':cs'.toList=cs.toList.take (i * sz+off)++us++cs.toList.drop (i * sz+off+us.length):=by rw [hcs']
    have hsz':cs'.size=cap * sz:=by
      rw [← QA,hl']
      simp only [QB,QC,QG,QA]
      omega
    have hh':Row (fun k=>(w.setRow b cs').heap[k]?) b cs' T:=hh.set (hsz'.trans hsz.symm)
    have hother:∀ k,k≠b→(w.setRow b cs').heap[k]?=w.heap[k]?:=fun k hk=>setRow_other w b k cs' hk
    have hll:(l.set i (ds.take off++dv++ds.drop (off+dv.length))).length=l.length:=List.length_set
    have hnl:(ds.take off++dv++ds.drop (off+dv.length)).length=sz:=by
      simp only [QB,QC,QG]; omega
    -- the cells
    have hflat:(l.set i (ds.take off++dv++ds.drop (off+dv.length))).flatten=l.flatten.take (i * sz+off)++dv++l.flatten.drop (i * sz+off+dv.length):=bGa hrow hi hfit
    have hcells:bP κ.S (cs'.toList.take (l.length * sz)) (l.set i (ds.take off++dv++ds.drop (off+dv.length))).flatten:=by
      rw [hflat]
      have e:cs'.toList.take (l.length * sz)=(cs.toList.take (l.length * sz)).take (i * sz+off)++us++(cs.toList.take (l.length * sz)).drop (i * sz+off+dv.length):=by
        rw [hl',← hul]
        apply List.ext_getElem?
        intro j
        simp only [QK,List.getElem?_drop,List.getElem?_append,QB,QC,QG,QA,hsz]
        have m1:min (i * sz+off) (min (l.length * sz) (cap * sz))=i * sz+off:=by omega
        have m2:min (i * sz+off) (cap * sz)=i * sz+off:=by omega
        rw [m1,m2]
        by_cases h1:j<l.length * sz
        · rw [if_pos h1]
          by_cases h3:j<i * sz+off+us.length
          · simp only [if_pos h3,if_pos h1]
          · rw [if_neg h3,if_neg h3,if_pos (by omega)]
        · rw [if_neg h1,if_neg (by omega),if_neg (by omega)]
      rw [e]
      exact ((hX.take _).append hu).append (hX.drop _)
    have hb1:b∈κ.bl n:=by rw [hB]; simp
    have hbb:=hbk b (by simp)
    refine ⟨h.size,h.defers,h.env,g.patch (fun x=>x=b) (fun m=>m=n) (fun _=>False) rfl rfl rfl (by simp) (fun x hx=>hx ▸ hbb.2.2) (fun x hx=>⟨hother x hx,rfl⟩) (fun x _=>g.frm.le x) (fun x _=>g.tab x)
      (fun x hx hn=>absurd (hx ▸ hbb.1) hn) (fun _ _=>rfl) ?_ ?_ (by rintro _ _ _ _ _ rfl rfl _ _; rfl) (fun t o ht _=>⟨ht,?_⟩) (fun _ _ _ h=>h.elim) (fun _ _ _ _ _ _ _ h=>h.elim)⟩
    · intro m c hc hs
      dsimp only at hc
      rw [tC,if_neg hs] at hc
      exact ⟨c,hc,rfl,rfl,Mv.refl _ _,fun x hx e=>hs (g.inj m n x (by simp [hc]) (by simp [hb]) hx (e ▸ hb1))⟩
    · rintro m c hc rfl
      dsimp only at hc
      rw [tC,if_pos rfl,hb] at hc
      simp only [Option.map_some,Option.some.injEq] at hc
      subst hc
      refine ⟨.shallow (v:=.slice (some ⟨b,0,none⟩) l.length cap) hmt ?_,(g.blk m (by simp [hb])).1,fun x hx=>?_⟩
      · rw [hB]
        have:=rX.sl (S:=κ.S) (h:=fun k=>(w.setRow b cs').heap[k]?) (sz:=sz) (l:=l.set i (ds.take off++dv++ds.drop (off+dv.length))) b cap cs' T hh' hsz' (by rw [hll]; exact hlc) hcm (fun e he=>by
          rcases List.mem_or_eq_of_mem_set he with he | he
          · exact hrow e he
          · rw [he]; exact hnl) (by rw [hll]; exact hcells)
        rwa [hll] at this
      · rw [hB,QF] at hx
        exact ⟨hx,hx ▸ hbb.1,by rw [hx]; simpa using hbb.2.1⟩
    · intro x hx hx'
      exact ((g.own t o ht).2 x hx).2 n (by simp [hb]) (hx' ▸ hb1)
theorem Ok.newRowS (h:Ok E N κ w a s) {d:Nat} (hd:d<N) (hfb:∀ n∈E.fb,N≤n∧n<NX) (hf:s.fresh d=true) {dead:List Nat} (hdead:∀ n∈dead,(bget s.bx n).isSome=true) (hdd:d∉dead) {w':World} {cur:Array Value} {e:TypeId} {sz cap:Nat} {l:List (List D)}
    (hheap:w'.heap=w.heap.push (.cells cur e)) (hos:w'.os=w.os) (htape:w'.tape=w.tape) (hout:w'.output=w.output) (hcur:cur.size=cap * sz) (hlc:l.length≤cap) (hcm:cap≤maxLen) (hrow:∀ e∈l,e.length=sz)
    (hX:bP κ.S (cur.toList.take (l.length * sz)) l.flatten) :
    ∃ κ',Ok E N κ' w' (a.put (some d) (.slice (some ⟨w.heap.size,0,none⟩) l.length cap)) ⟨(d,.tre d)::s.env,(d,[.trs sz l])::kill s.bx dead⟩:=by
  have g:=h.good
  have hlt:=g.deadLt hdead
  have hold:∀ b,b<w.heap.size→w'.heap[b]?=w.heap[b]?:=fun b hb=>by rw [hheap,Array.getElem?_push,if_neg (by omega)]
  refine h.remakeS hd hfb hf hdead hdd (B:=[w.heap.size]) hos htape hout (by rw [hheap]; simp) (fun b hb _=>hold b hb) (.sl _ cap cur e (.of (by show w'.heap[w.heap.size]?=_; rw [hheap]; simp)) hcur hlc hcm hrow hX) ?_ ?_
  · intro b hb
    rw [QF] at hb; subst hb
    exact .inr (QI _)
  · intro b hb
    rw [hheap]; simp
    have:=hlt b hb; omega
theorem Ok.appendS (h:Ok E N κ w a s) {d:Nat} (hdN:d<N) (hfb:∀ n∈E.fb,N≤n∧n<NX) (hf:s.fresh d=true) {ty e:TypeId} {ti:TypeInfo} {z:Value} (hty:P.underlying ty=some (.slice e)) (hi:P.info? e=some ti) (hz:ti.zero=some z) (hzs:z.cells.size=ti.size)
    {v u:Value} {l1 l2:List (List D)} {N1:List Nat} (hv:rX κ.S (fun b=>w.heap[b]?) ti.size l1 v (N1.flatMap κ.bl)) {tu:TypeId} {us:List Value} (hsr:vH P ti.size tu u l2.length us w) (hu:bP κ.S us l2.flatten)
    (hrow2:∀ x∈l2,x.length=ti.size) (hdead:∀ n∈N1,(bget s.bx n).isSome=true) (hdd:d∉N1) (hmax:(l1.length+l2.length) * ti.bytes≤140737488355328) (hlen:l1.length+l2.length≤maxLen) (tr:TypeId) :
    ∃ v' w' κ',(Builtin.append_ #[ty,tu] tr #[v,u]).run P w=.ok v' w'∧Ok E N κ' w' (a.put (some d) v') ⟨(d,.tre d)::s.env,(d,[.trs ti.size (l1++l2)])::kill s.bx N1⟩:=by
  have g:=h.good
  have hlt:=g.deadLt hdead
  have h63:l1.length+l2.length≤9223372036854775807:=by simp only [maxLen] at hlen; omega
  have hu3:=hsr.newsLen
  by_cases hm0:l2.length=0
  · have hy:l2=[]:=QL hm0
    subst hy
    have hus:us=[]:=QL (by simpa using hu3)
    subst hus
    have hrun:(Builtin.append_ #[ty,tu] tr #[v,u]).run P w=.ok v w:=by
      generalize N1.flatMap κ.bl=B at hv
      cases hv with
      | nil e=>subst e; exact aDc hty hi (QI _) hsr
      | sl b cap cs T _ _ h4 _ _ _=>exact aDc hty hi h4 hsr
    rw [List.append_nil]
    obtain ⟨κ',hok⟩:=h.remakeS hdN hfb hf hdead hdd (w':=w) (v':=v) rfl rfl rfl (QI _) (fun _ _ _=>rfl) hv (fun b hb=>.inl hb) (fun b hb=>hlt b hb)
    exact ⟨v,w,κ',hrun,hok⟩
  · have grow:∀ (base:Option Addr) (cap:Nat) (olds:List Value),v=.slice base l1.length cap→(Builtin.firstCells ti.size l1.length (.slice base l1.length cap)).run P w.drew=.ok olds.toArray w.drew→olds.length=l1.length * ti.size→cap<l1.length+l2.length →
        bP κ.S olds l1.flatten→(∀ x∈l1,x.length=ti.size) →
        ∃ v' w' κ',(Builtin.append_ #[ty,tu] tr #[v,u]).run P w=.ok v' w'∧Ok E N κ' w' (a.put (some d) v') ⟨(d,.tre d)::s.env,(d,[.trs ti.size (l1++l2)])::kill s.bx N1⟩:=by
      intro base cap olds hvv hold hol hcap hx1 hrow1
      subst hvv
      have hr:=aP7 (P:=P) (w:=w) (ty:=tr) (olds:=olds) hty hi hz hold hsr hcap (by omega) (growslice_fits (by omega) hmax)
      have hgc:=aHk (w:=w) (need:=l1.length+l2.length) (old:=cap) (e:=e) hlen
      have hq1:(olds.toArray++us.toArray++Builtin.zeroCells z.cells (grownCap w (l1.length+l2.length) cap e - (l1.length+l2.length))).size=grownCap w (l1.length+l2.length) cap e * ti.size:=by
        simp only [Array.size_append,List.size_toArray,size_zeroCells,hzs,hol,hu3,← QD]
        congr 1; omega
      have hq2:(olds.toArray++us.toArray++Builtin.zeroCells z.cells (grownCap w (l1.length+l2.length) cap e - (l1.length+l2.length))).toList.take ((l1++l2).length * ti.size)=olds++us:=by
        rw [QQ,QQ]
        simp only [QB]
        exact QM (by simp [hol,hu3,QD])
      have hll:(l1++l2).length=l1.length+l2.length:=by simp
      obtain ⟨κ',hok⟩:=(h.ofHeap (w':=w.drew) rfl rfl rfl rfl).newRowS hdN hfb hf hdead hdd (w':=w.drew.alloc (.cells (olds.toArray++us.toArray++Builtin.zeroCells z.cells (grownCap w (l1.length+l2.length) cap e - (l1.length+l2.length))) e)) (sz:=ti.size) (l:=l1++l2)
        rfl rfl rfl rfl hq1 (by rw [hll]; exact hgc.1) hgc.2 (fun x hx=>(QN.1 hx).elim (hrow1 x) (hrow2 x)) (by rw [hq2,QO]; exact hx1.append hu)
      rw [hll] at hok
      exact ⟨_,_,κ',hr,hok⟩
    generalize hB:N1.flatMap κ.bl=B at hv
    cases hv with
    | nil e=>subst e; exact grow none 0 [] rfl (by simp [Builtin.firstCells]) (by simp) (by simp; omega) .nil (by simp)
    | sl b cap cs T0 hh hcs h4 h5 hrow1 hR =>
      by_cases hroom:l1.length+l2.length≤cap
      · have hfit:l1.length * ti.size+us.length≤cs.size:=by rw [hu3,hcs,← QD]; exact QE _ hroom
        have hr:=bKs (P:=P) (w:=w) (ty:=tr) hty hi hh hsr hroom hfit
        obtain ⟨cs',hcs'⟩:∃ c:Array Value,c=(cs.toList.take (l1.length * ti.size)++us++cs.toList.drop (l1.length * ti.size+us.length)).toArray:=⟨_,rfl⟩
        rw [← hcs'] at hr
        have hother:∀ k,k≠b→(w.setRow b cs').heap[k]?=w.heap[k]?:=fun k hk=>setRow_other w b k cs' hk
        have hll:(l1++l2).length=l1.length+l2.length:=by simp
        have hq:cs'.toList.take ((l1.length+l2.length) * ti.size)=cs.toList.take (l1.length * ti.size)++us:=by
          rw [hcs']
          exact QM (by simp only [QB,QC,QA,hu3,QD]; omega)
        have hsz':cs'.size=cap * ti.size:=by
          rw [← QA,hcs']
          simp only [QB,QC,QG,QA]
          omega
        have hh':Row (fun k=>(w.setRow b cs').heap[k]?) b cs' T0:=hh.set (hsz'.trans hcs.symm)
        have hbN:b∈N1.flatMap κ.bl:=by rw [hB]; simp
        have hX:rX κ.S (fun k=>(w.setRow b cs').heap[k]?) ti.size (l1++l2) (.slice (some ⟨b,0,none⟩) (l1++l2).length cap) [b] :=
          .sl b cap cs' T0 hh' hsz' (by rw [hll]; exact hroom) h5 (fun x hx=>(QN.1 hx).elim (hrow1 x) (hrow2 x)) (by rw [hll,hq,QO]; exact hR.append hu)
        rw [hll] at hX
        obtain ⟨κ',hok⟩:=h.remakeS hdN hfb hf hdead hdd (w':=w.setRow b cs') rfl rfl rfl (by simp) (fun x _ hx=>hother x fun e=>hx (e ▸ hbN)) hX
          (fun x hx=>.inl (by rw [QF] at hx; exact hx ▸ hbN)) (fun x hx=>by simpa using hlt x hx)
        exact ⟨_,_,κ',hr,hok⟩
      · have hcell:∀ j u,(cs.toList.take (l1.length * ti.size))[j]?=some u→w.cell? ((⟨b,0,none⟩:Addr).add j)=some u:=by
          intro j u hj
          have hadd:(⟨b,0,none⟩:Addr).add j=⟨b,0+j,none⟩:=by unfold Addr.add; split <;> simp_all
          rw [QK] at hj
          split at hj
          · obtain ⟨fr,hh1,_⟩:=hh
            have hh2:w.heap[b]?=some (.cells cs T0 fr):=hh1
            rw [hadd]
            simp only [Array.getElem?_toList] at hj
            simp [World.cell?,hh2,hj]
          · simp at hj
        have hol:(cs.toList.take (l1.length * ti.size)).length=l1.length * ti.size:=by
          have:=QE ti.size h4
          simp only [QC,QA,hcs]
          omega
        exact grow (some ⟨b,0,none⟩) cap _ rfl (run_firstCells_some (P:=P) w.drew ti.size l1.length ⟨b,0,none⟩ l1.length cap _ hol (by simpa using hcell)) hol (by omega) hR hrow1
end
def xR (s:St) (sz:Nat):V→Option (List (List D)×List Nat)
  | .nil sz'=>if sz'=sz then some ([],[]) else none
  | .tre n=>match bget s.bx n with
    | some [.trs sz' l]=>if sz'=sz then some (l,[n]) else none
    | _=>none
  | _=>none
end Go.Ab
