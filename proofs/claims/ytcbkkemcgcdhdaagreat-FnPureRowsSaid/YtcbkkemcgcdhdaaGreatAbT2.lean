/- A row closed; new trees; stores into an open row. -/
import Derived.Test.YtcbkkemcgcdhdaaGreatAbT1
namespace Go.Ab
open Go Go.RowKit
open _root_.List renaming mem_flatMap→QA,mem_append→QB,mem_cons→QD,nodup_append→QE,length_take→QF,length_append→QG,nodup_cons→QH,length_drop→QI,drop_drop→QM,getElem?_drop→QN
open _root_.Array renaming length_toList→QC
open _root_.Option renaming map_eq_some_iff→QJ,map_some→QK,some.injEq→QL
open _root_.Nat renaming mul_le_mul_right→QO,add_mul→QP,one_mul→QQ
def pK (bx:List (Nat×List V)):List V→Option (List D×List Nat)
  | []=>some ([],[])
  | x::r=>match pK bx r with
    | none=>none
    | some (ds,N)=>match x with
      | .d y=>if y.flat then some (y::ds,N) else none
      | .nil sz=>some (.sl sz []::ds,N)
      | .tre n=>match bget bx n with
        | some [.trc sz l]=>some (.sl sz l::ds,n::N)
        | _=>none
      | _=>none
def kill (bx:List (Nat×List V)) (dead:List Nat):List (Nat×List V):=dead.foldl (fun l m=>fC l m [.trd]) bx
theorem P9:∀ {dead:List Nat} {bx:List (Nat×List V)} {m:Nat},bget (kill bx dead) m=if m∈dead then (bget bx m).map (fun _=>[.trd]) else bget bx m
  | [],bx,m=>by simp [kill]
  | d::dead,bx,m=>by
    show bget (kill (fC bx d [.trd]) dead) m=_
    rw [P9,tC]
    by_cases h1:m=d <;> by_cases h2:m∈dead
    · subst h1; cases bget bx m <;> simp [h2]
    · subst h1; simp [h2]
    · simp [h1,h2]
    · simp [h1,h2]
section
variable {E:Entry} {N:Nat} {κ:Ctx} {w:World} {a:Act} {s:St} {P:Program}
theorem bD1 {bx:List (Nat×List V)} (g:Good E κ w bx):∀ {cells:List V} {ds:List D} {dead:List Nat} {vs:List Value},pK bx cells=some (ds,dead)→aZ κ vs cells →
    dZ (fun b=>w.heap[b]?) vs ds (dead.flatMap κ.bl)∧∀ n∈dead,∃ sz l,bget bx n=some [.trc sz l]
  | [],ds,dead,vs,h,hr=>by
    simp [pK] at h
    obtain ⟨rfl,rfl⟩:=h
    cases hr; exact ⟨.nil,by simp⟩
  | x::r,ds,dead,vs,h,hr=>by
    cases hr with
    | cons a t =>
    simp only [pK] at h
    split at h
    · simp at h
    · rename_i ds' N' he
      obtain ⟨k1,k2⟩:=bD1 g he t
      cases x with
      | d y =>
        simp only at h
        split at h <;> simp at h
        rename_i hf
        obtain ⟨rfl,rfl⟩:=h
        refine ⟨dZ.cons (B:=[]) ?_ k1,k2⟩
        cases a with | d a =>
        cases a with
        | b x=>exact .b x
        | i k n h1 h2=>exact .i k n h1 h2
        | s x h=>exact .s x h
        | _=>simp [D.flat] at hf
      | nil sz =>
        simp at h
        obtain ⟨rfl,rfl⟩:=h
        cases a
        exact ⟨dZ.cons (B:=[]) (.nil sz) k1,k2⟩
      | tre n =>
        simp only at h
        split at h <;> simp at h
        rename_i sz l hb
        obtain ⟨rfl,rfl⟩:=h
        obtain ⟨_,v,T,h1,h2⟩:=(g.box n _ hb).toClosed
        have hv:κ.hv n=v:=by show (κ.mt n).2.2=v; rw [h1]; exact wM _ _
        cases a with | tre a =>
        rw [← a,hv]
        refine ⟨.cons h2 k1,fun m hm=>?_⟩
        rcases QD.1 hm with rfl | hm
        · exact ⟨sz,l,hb⟩
        · exact k2 m hm
      | _=>simp at h
theorem Good.flatNodup {bx:List (Nat×List V)} (g:Good E κ w bx):∀ {dead:List Nat},dead.Nodup→(∀ n∈dead,(bget bx n).isSome=true)→(dead.flatMap κ.bl).Nodup
  | [],_,_=>by simp
  | d::dead,h,hs=>by
    simp only [QH] at h
    simp only [List.flatMap_cons]
    refine QE.2 ⟨(g.blk d (hs d (by simp))).1,g.flatNodup h.2 fun n hn=>hs n (by simp [hn]),fun x hx y hy e=>?_⟩
    subst e
    obtain ⟨m,hm,hy⟩:=QA.1 hy
    exact h.1 ((g.inj d m x (hs d (by simp)) (hs m (by simp [hm])) hx hy) ▸ hm)
theorem Ok.closeRow (h:Ok E N κ w a s) {n sz i:Nat} {l:List (List D)} {cells:List V} {ds:List D} {dead:List Nat} (hb:bget s.bx n=some (.tro sz i l::cells)) (hc:pK s.bx cells=some (ds,dead)) (hd:dead.Nodup) (hl:ds.length=sz) :
    ∃ κ',Ok E N κ' w a ⟨s.env,kill (fC s.bx n [.trc sz (l.set i ds)]) dead⟩:=by
  have g:=h.good
  obtain ⟨b,cap,B1,B3,cs,T,T',hmt,hh,hsz,hlc,hcm,hrow,hil,r1,hcr,r3,hbl⟩:=(g.box n _ hb).toOpened
  obtain ⟨r2,hdead⟩:=bD1 g hc hcr
  have hdS:∀ m∈dead,(bget s.bx m).isSome=true:=fun m hm=>by obtain ⟨sz,l,h⟩:=hdead m hm; simp [h]
  have hnd:n∉dead:=fun hm=>by obtain ⟨_,_,h2⟩:=hdead n hm; rw [hb] at h2; simp at h2
  have hnodD:=g.flatNodup hd hdS
  have hcat:=r1.append (r2.append r3)
  have hle1:(i+1) * sz≤l.length * sz:=QO _ hil
  have hs1:(i+1) * sz=i * sz+sz:=by rw [QP,QQ]
  have e:cs.toList.take (i * sz)++((cs.toList.drop (i * sz)).take sz++(cs.toList.drop ((i+1) * sz)).take ((l.length - (i+1)) * sz))=cs.toList.take (l.length * sz):=by
    have e1:cs.toList.drop ((i+1) * sz)=(cs.toList.drop (i * sz)).drop sz:=by rw [QM,hs1]
    rw [e1]
    have e2:(cs.toList.drop (i * sz)).take sz++((cs.toList.drop (i * sz)).drop sz).take ((l.length - (i+1)) * sz)=(cs.toList.drop (i * sz)).take (sz+(l.length - (i+1)) * sz):=List.take_add.symm
    rw [e2]
    have e3:cs.toList.take (i * sz)++(cs.toList.drop (i * sz)).take (sz+(l.length - (i+1)) * sz)=cs.toList.take (i * sz+(sz+(l.length - (i+1)) * sz)):=List.take_add.symm
    rw [e3]; congr 1
    rw [Nat.sub_mul]; omega
  rw [e,← bYs hil] at hcat
  let κ':Ctx:=⟨κ.S,κ.mt,κ.o,fun m=>if m=n then b::(B1++(dead.flatMap κ.bl++B3)) else if m∈dead then [] else κ.bl m⟩
  have hle:κ.S.le κ'.S:=Mem.le_refl _
  have hbn:κ'.bl n=b::(B1++(dead.flatMap κ.bl++B3)):=if_pos rfl
  have hbd:∀ m∈dead,κ'.bl m=[]:=fun m hm=>by
    show (if m=n then _ else if m∈dead then [] else κ.bl m)=_
    rw [if_neg fun e:m=n=>hnd (e ▸ hm),if_pos hm]
  have hb0:∀ m,m≠n→m∉dead→κ'.bl m=κ.bl m:=fun m h1 h2=>by
    show (if m=n then _ else if m∈dead then [] else κ.bl m)=_
    rw [if_neg h1,if_neg h2]
  have hbk:=(g.blk n (by simp [hb])).2
  have hnod:=(g.blk n (by simp [hb])).1
  have hbkD:∀ x∈dead.flatMap κ.bl,κ.S x=[]∧x<w.heap.size∧(E.may x∨E.w.heap.size≤x)∧x∉κ.bl n:=fun x hx=>by
    obtain ⟨m,hm,hx⟩:=QA.1 hx
    have:=(g.blk m (hdS m hm)).2 x hx
    exact ⟨this.1,this.2.1,this.2.2,fun hn=>hnd ((g.inj n m x (by simp [hb]) (hdS m hm) hn hx) ▸ hm)⟩
  have hmv:∀ c,Mv κ κ' c c:=fun c=>Mv.fits hle (V.fitss_eq (κ:=κ) (κ':=κ') (fun _=>rfl) (fun _=>rfl) _)
  refine ⟨κ',h.size,h.defers,fun k=>(h.env k).move hle (V.fits_eq (κ:=κ) (κ':=κ') (fun _=>rfl) (fun _=>rfl) _),?_⟩
  refine g.patch (fun x=>x∈κ.bl n∨x∈dead.flatMap κ.bl) (fun m=>m=n∨m∈dead) (fun _=>False) rfl rfl rfl (Nat.le_refl _) (fun x hx=>hx.elim (fun h=>(hbk x h).2.2) fun h=>(hbkD x h).2.2.1) (fun _ _=>⟨rfl,rfl⟩) (fun x _=>g.frm.le x) (fun x _=>g.tab x) (fun x _ hx=>g.mem x hx)
    (fun _ _=>rfl) ?_ ?_ ?_ (fun t o ht _=>⟨ht,?_⟩) (fun _ _ _ h=>h.elim) (fun _ _ _ _ _ _ _ h=>h.elim)
  · intro m c hc hs
    simp only [not_or] at hs
    dsimp only at hc
    rw [P9,if_neg hs.2,tC,if_neg hs.1] at hc
    refine ⟨c,hc,rfl,hb0 m hs.1 hs.2,hmv c,fun x hx=>?_⟩
    rintro (h1 | h1)
    · exact hs.1 (g.inj m n x (by simp [hc]) (by simp [hb]) hx h1)
    · obtain ⟨k,hk,hx'⟩:=QA.1 h1
      exact hs.2 ((g.inj m k x (by simp [hc]) (hdS k hk) hx hx') ▸ hk)
  · intro m c hc hs
    dsimp only at hc
    by_cases hm:m∈dead
    · rw [P9,if_pos hm,tC,if_neg fun e:m=n=>hnd (e ▸ hm)] at hc
      obtain ⟨c0,_,rfl⟩:=QJ.1 hc
      refine ⟨.dead (hbd m hm),by rw [hbd m hm]; simp,fun x hx=>?_⟩
      rw [hbd m hm] at hx; simp at hx
    · obtain rfl:=hs.resolve_right hm
      rw [P9,if_neg hm,tC,if_pos rfl,hb] at hc
      simp only [QK,QL] at hc
      subst hc
      have hlen:(l.set i ds).length=l.length:=List.length_set
      refine ⟨.closed (v:=.slice (some ⟨b,0,none⟩) l.length cap) (T:=T') hmt ?_,?_,fun x hx=>?_⟩
      · rw [hbn]
        refine .sl b l.length cap sz _ _ cs T hh hsz hlen.symm hlc hcm (fun e he=>?_) hcat
        rcases List.mem_or_eq_of_mem_set he with h | rfl
        · exact hrow e h
        · exact hl
      · rw [hbn]
        rw [hbl] at hnod
        simp only [QH,QB,not_or] at hnod ⊢
        rw [QE] at hnod
        obtain ⟨n1,n2,n3,n4⟩:=hnod
        have dis:∀ x∈dead.flatMap κ.bl,x≠b∧x∉B1∧x∉B3:=fun x hx=>by
          have:=(hbkD x hx).2.2.2
          rw [hbl] at this
          simp only [QD,QB,not_or] at this
          exact this
        refine ⟨⟨n1.1,fun hx=>(dis b hx).1 rfl,n1.2⟩,QE.2 ⟨n2,QE.2 ⟨hnodD,n3,fun x hx y hy e=>(dis x hx).2.2 (e ▸ hy)⟩,fun x hx y hy e=>?_⟩⟩
        subst e
        rcases QB.1 hy with hy | hy
        · exact (dis x hy).2.1 hx
        · exact n4 x hx x hy rfl
      · rw [hbn] at hx
        have:x∈κ.bl m∨x∈dead.flatMap κ.bl:=by
          rw [hbl]
          simp only [QD,QB] at hx ⊢
          rcases hx with h | h | h | h <;> simp [h]
        rcases this with h | h
        · exact ⟨.inl h,(hbk x h).1,(hbk x h).2.1⟩
        · exact ⟨.inr h,(hbkD x h).1,(hbkD x h).2.1⟩
  · rintro m m' x _ _ hs hs' hx hx'
    by_cases hm:m∈dead
    · rw [hbd m hm] at hx; simp at hx
    · by_cases hm':m'∈dead
      · rw [hbd m' hm'] at hx'; simp at hx'
      · rw [hs.resolve_right hm,hs'.resolve_right hm']
  · intro x hx
    rintro (h1 | h1)
    · exact ((g.own t o ht).2 x hx).2 n (by simp [hb]) h1
    · obtain ⟨k,hk,hx'⟩:=QA.1 h1
      exact ((g.own t o ht).2 x hx).2 k (hdS k hk) hx'
theorem Ok.remake (h:Ok E N κ w a s) {d:Nat} (hd:d<N) (hfb:∀ n∈E.fb,N≤n∧n<NX) (hf:s.fresh d=true) {dead:List Nat} (hdead:∀ n∈dead,(bget s.bx n).isSome=true) (hdd:d∉dead) {w':World} {v':Value} {sz:Nat} {l:List (List D)} {B:List Nat}
    (hos:w'.os=w.os) (htape:w'.tape=w.tape) (hout:w'.output=w.output) (hsize:w.heap.size≤w'.heap.size) (hblock:∀ b,b<w.heap.size→b∉dead.flatMap κ.bl→w'.heap[b]?=w.heap[b]?)
    (hX:fP (fun b=>w'.heap[b]?) v' (.sl sz l) B) (hB:B.Nodup) (hBw:∀ b∈B,b∈dead.flatMap κ.bl∨w.heap.size≤b) (hmem:∀ b,b∈dead.flatMap κ.bl→b<w'.heap.size) :
    ∃ κ',Ok E N κ' w' (a.put (some d) v') ⟨(d,.tre d)::s.env,(d,[.trc sz l])::kill s.bx dead⟩:=by
  have g:=h.good
  obtain ⟨κ',hκ⟩:∃ k:Ctx,k=⟨κ.S,upd κ.mt d (oZ 0 v'),κ.o,fun m=>if m=d then B else if m∈dead then [] else κ.bl m⟩:=⟨_,rfl⟩
  have hS:κ'.S=κ.S:=by rw [hκ]
  have ho:∀ t,κ'.o t=κ.o t:=fun t=>by rw [hκ]
  have hm0:∀ k,k≠d→κ'.mt k=κ.mt k:=fun k hk=>by rw [hκ]; exact jI _ _ _ hk
  have hmd:κ'.mt d=oZ 0 v':=by rw [hκ]; exact upd_same _ _ _
  have hbn:κ'.bl d=B:=by rw [hκ]; exact if_pos rfl
  have hbd:∀ m∈dead,κ'.bl m=[]:=fun m hm=>by
    rw [hκ]
    show (if m=d then _ else if m∈dead then [] else κ.bl m)=_
    rw [if_neg fun e:m=d=>hdd (e ▸ hm),if_pos hm]
  have hb0:∀ m,m≠d→m∉dead→κ'.bl m=κ.bl m:=fun m h1 h2=>by
    rw [hκ]
    show (if m=d then _ else if m∈dead then [] else κ.bl m)=_
    rw [if_neg h1,if_neg h2]
  clear hκ
  have hle:κ.S.le κ'.S:=by rw [hS]; exact Mem.le_refl _
  have hbkD:∀ x∈dead.flatMap κ.bl,κ.S x=[]∧(E.may x∨E.w.heap.size≤x):=fun x hx=>by
    obtain ⟨m,hm,hx⟩:=QA.1 hx
    have:=(g.blk m (hdead m hm)).2 x hx
    exact ⟨this.1,this.2.2⟩
  have hv:κ'.hv d=v':=by show (κ'.mt d).2.2=v'; rw [hmd]; exact wM _ _
  refine ⟨κ',by simp [Act.put,h.size],h.defers,fun k=>?_,?_⟩
  · simp only [Act.put,lk]
    rw [aBy _ _ _ _ (by rw [h.size]; exact hd)]
    split
    · rcases hX.slice with ⟨rfl,_⟩ | ⟨q,rfl,_⟩ | ⟨b,cap,C,cs,T,rfl,_⟩ <;> exact .tre hv
    · exact (h.env k).move hle (V.fits_m hm0 ho _ (s.fresh_env hf k).1)
  · refine g.patch (fun x=>w.heap.size≤x∨x∈dead.flatMap κ.bl) (fun m=>m=d∨m∈dead) (fun _=>False) hos htape hout hsize (fun x hx=>hx.elim (fun h=>.inr (Nat.le_trans g.frm.size h)) fun h=>(hbkD x h).2) (fun x hx=>?_) (fun x _=>by rw [hS]; exact g.frm.le x) (fun x _=>by rw [hS]; exact g.tab x)
      (fun x hx hn=>?_) (fun m hm=>hm0 m (by have:=(hfb m hm).1; omega)) ?_ ?_ ?_ (fun t o ht _=>?_) (fun _ _ _ h=>h.elim) (fun _ _ _ _ _ _ _ h=>h.elim)
    · simp only [not_or] at hx
      exact ⟨hblock x (by omega) hx.2,by rw [hS]⟩
    · rw [hS] at hn
      rcases hx with h1 | h1
      · exact absurd (g.memNew h1) hn
      · exact absurd (hbkD x h1).1 hn
    · intro m c hc hs
      simp only [not_or] at hs
      simp only [bget,if_neg hs.1] at hc
      rw [P9,if_neg hs.2] at hc
      refine ⟨c,hc,hm0 m hs.1,hb0 m hs.1 hs.2,Mv.fits hle (V.fitss_m hm0 ho _ (s.fresh_bx hf hc).1),fun x hx=>?_⟩
      rintro (h1 | h1)
      · have:=((g.blk m (by simp [hc])).2 x hx).2.1; omega
      · obtain ⟨k,hk,hx'⟩:=QA.1 h1
        exact hs.2 ((g.inj m k x (by simp [hc]) (hdead k hk) hx hx') ▸ hk)
    · intro m c hc hs
      by_cases hm:m=d
      · subst hm
        simp [bget] at hc
        subst hc
        refine ⟨.closed hmd (by rw [hbn]; exact hX),by rw [hbn]; exact hB,fun x hx=>?_⟩
        rw [hbn] at hx
        refine ⟨(hBw x hx).symm,?_,?_⟩
        · rw [hS]; exact (hBw x hx).elim (fun h=>(hbkD x h).1) g.memNew
        · obtain ⟨cs,T,hh⟩:∃ cs T,Row (fun k=>w'.heap[k]?) x cs T:=by
            have key:∀ {v:Value} {y:D} {B:List Nat},fP (fun b=>w'.heap[b]?) v y B→∀ b∈B,∃ cs T,Row (fun k=>w'.heap[k]?) b cs T:=fun hr=>by
              intro b hb
              exact fP.rec (h:=fun b=>w'.heap[b]?) (motive_1:=fun _ _ B _=>∀ b∈B,∃ cs T,Row (fun k=>w'.heap[k]?) b cs T) (motive_2:=fun _ _ B _=>∀ b∈B,∃ cs T,Row (fun k=>w'.heap[k]?) b cs T)
                (fun _ _ h=>by simp at h) (fun _ _ _ _ _ h=>by simp at h) (fun _ _ _ h=>by simp at h) (fun _ _ h=>by simp at h)
                (fun b len cap sz l B cs T h1 _ _ _ _ _ _ ih x hx=>by
                  rcases QD.1 hx with rfl | hx
                  · exact ⟨cs,T,h1⟩
                  · exact ih x hx)
                (fun _ h=>by simp at h) (fun _ _ ih1 ih2 x hx=>(QB.1 hx).elim (ih1 x) (ih2 x)) hr b hb
            exact key hX x hx
          exact hh.lt
      · have hm':=hs.resolve_left hm
        simp only [bget,if_neg hm] at hc
        rw [P9,if_pos hm'] at hc
        obtain ⟨c0,_,rfl⟩:=QJ.1 hc
        refine ⟨.dead (hbd m hm'),by rw [hbd m hm']; simp,fun x hx=>?_⟩
        rw [hbd m hm'] at hx; simp at hx
    · rintro m m' x _ _ hs hs' hx hx'
      by_cases hm:m=d <;> by_cases hm':m'=d
      · rw [hm,hm']
      · rw [hbd m' (hs'.resolve_left hm')] at hx'; simp at hx'
      · rw [hbd m (hs.resolve_left hm)] at hx; simp at hx
      · rw [hbd m (hs.resolve_left hm)] at hx; simp at hx
    · rw [ho] at ht
      refine ⟨ht,fun x hx=>?_⟩
      rintro (h1 | h1)
      · have:=(g.own t o ht).1.lt hx; omega
      · obtain ⟨k,hk,hx'⟩:=QA.1 h1
        exact ((g.own t o ht).2 x hx).2 k (hdead k hk) hx'
theorem Ok.storeRow (h:Ok E N κ w a s) {n sz i off:Nat} {l:List (List D)} {cells cells':List V} (hb:bget s.bx n=some (.tro sz i l::cells)) {us:List Value} (hfit:off+us.length≤cells.length)
    (hr:∀ {cs:List Value},aZ κ cs cells→aZ κ (cs.take off++us++cs.drop (off+us.length)) cells') :
    ∃ (b:Nat) (cs:Array Value) (T:TypeId),κ.m n=b∧Row (fun k=>w.heap[k]?) b cs T∧i * sz+off+us.length≤cs.size ∧
      Ok E N κ (w.setRow b (cs.toList.take (i * sz+off)++us++cs.toList.drop (i * sz+off+us.length)).toArray) a ⟨s.env,fC s.bx n (.tro sz i l::cells')⟩:=by
  have g:=h.good
  obtain ⟨b,cap,B1,B3,cs,T,T',hmt,hh,hsz,hlc,hcm,hrow,hil,r1,hcr,r3,hbl⟩:=(g.box n _ hb).toOpened
  have hle1:(i+1) * sz≤cap * sz:=QO _ (by omega)
  have hs1:(i+1) * sz=i * sz+sz:=by rw [QP,QQ]
  have hcl:=hcr.length
  simp only [QF,QI,QC,hsz] at hcl
  have hcs:cells.length=sz:=by omega
  have hfit2:i * sz+off+us.length≤cs.size:=by rw [hsz]; omega
  refine ⟨b,cs,T,by show (κ.mt n).1=b; rw [hmt],hh,hfit2,?_⟩
  obtain ⟨cs',hcs'⟩:∃ c:Array Value,c=(cs.toList.take (i * sz+off)++us++cs.toList.drop (i * sz+off+us.length)).toArray:=⟨_,rfl⟩
  rw [← hcs']
  have hl':cs'.toList=cs.toList.take (i * sz+off)++us++cs.toList.drop (i * sz+off+us.length):=by rw [hcs']
  have hsz':cs'.size=cap * sz:=by
    rw [← QC,hl']
    simp only [QG,QF,QI,QC]
    omega
  have hh':Row (fun k=>(w.setRow b cs').heap[k]?) b cs' T:=hh.set (hsz'.trans hsz.symm)
  have hother:∀ k,k≠b→(w.setRow b cs').heap[k]?=w.heap[k]?:=fun k hk=>setRow_other w b k cs' hk
  have hlenA:(cs.toList.take (i * sz+off)).length=i * sz+off:=by simp only [QF,QC]; omega
  have t1:cs'.toList.take (i * sz)=cs.toList.take (i * sz):=by
    rw [hl',List.append_assoc,List.take_append_of_le_length (by omega),List.take_take]
    congr 1; omega
  have t2:(cs'.toList.drop (i * sz)).take sz=((cs.toList.drop (i * sz)).take sz).take off++us++((cs.toList.drop (i * sz)).take sz).drop (off+us.length):=by
    apply List.ext_getElem?
    intro j
    rw [hl']
    simp only [List.getElem?_take,QN,List.getElem?_append,QG,QF,QI,QC,QN]
    by_cases h1:j<sz
    · rw [if_pos h1]
      by_cases h2:j<off
      · rw [if_pos (by omega),if_pos (by omega),if_pos (by omega),if_pos (by omega),if_pos (by omega),if_pos h2,if_pos h1]
      · by_cases h3:j<off+us.length
        · rw [if_pos (by omega),if_neg (by omega),if_pos (by omega),if_neg (by omega)]
          congr 1; omega
        · rw [if_neg (by omega),if_neg (by omega)]
          rw [if_pos (by omega)]
          congr 1; omega
    · rw [if_neg h1]
      rw [if_neg (by omega),if_neg (by omega)]
  have t3:(cs'.toList.drop ((i+1) * sz))=(cs.toList.drop ((i+1) * sz)):=by
    rw [hl',List.drop_append,List.drop_eq_nil_of_le (by simp only [QG,hlenA]; omega),List.nil_append,QM]
    congr 1
    simp only [QG,hlenA]
    omega
  have hb1:b∈κ.bl n:=by rw [hbl]; simp
  have hbk:=(g.blk n (by simp [hb])).2
  have hnod:=(g.blk n (by simp [hb])).1
  have hbB:∀ x∈B1++B3,x≠b:=fun x hx e=>by
    rw [hbl] at hnod
    simp only [QH] at hnod
    exact hnod.1 (e ▸ hx)
  refine ⟨h.size,h.defers,h.env,g.patch (fun x=>x∈κ.bl n) (fun m=>m=n) (fun _=>False) rfl rfl rfl (by simp) (fun x hx=>(hbk _ hx).2.2) (fun x hx=>⟨hother x fun e=>hx (e ▸ hb1),rfl⟩) (fun x _=>g.frm.le x) (fun x _=>g.tab x)
    (fun x hx hn=>absurd (hbk _ hx).1 hn) (fun _ _=>rfl) ?_ ?_ (by rintro _ _ _ _ _ rfl rfl _ _; rfl) (fun t o ht _=>⟨ht,?_⟩) (fun _ _ _ h=>h.elim) (fun _ _ _ _ _ _ _ h=>h.elim)⟩
  · intro m c hc hs
    dsimp only at hc
    rw [tC,if_neg hs] at hc
    exact ⟨c,hc,rfl,rfl,Mv.refl _ _,fun x hx e=>hs (g.inj m n x (by simp [hc]) (by simp [hb]) hx e)⟩
  · rintro m c hc rfl
    dsimp only at hc
    rw [tC,if_pos rfl,hb] at hc
    simp only [QK,QL] at hc
    subst hc
    refine ⟨.opened hmt hh' hsz' rfl hlc hcm hrow hil (B:=B1) (C:=B3) ?_ ?_ ?_ hbl,hnod,fun x hx=>?_⟩
    · rw [t1]; exact r1.frame fun x hx=>hother x (hbB x (List.mem_append_left _ hx))
    · rw [t2]; exact hr hcr
    · rw [t3]; exact r3.frame fun x hx=>hother x (hbB x (List.mem_append_right _ hx))
    · exact ⟨hx,(hbk x hx).1,by simpa using (hbk x hx).2.1⟩
  · intro x hx hx'
    exact ((g.own t o ht).2 _ hx).2 n (by simp [hb]) hx'
end
end Go.Ab
