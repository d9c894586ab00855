/- How memory changes: a new box,a store into a box,a new owned row,an append. -/
import Derived.Test.YtcbkkemcgcdhdaaGreatAb2
namespace Go.Ab
open Go Go.RowKit
open _root_.Nat renaming le_refl→QA,le_trans→QB
open _root_.Array renaming getElem?_eq_some_iff→QC
section
variable {E:Entry} {N:Nat} {κ:Ctx} {w:World} {a:Act} {s:St}
theorem Good.memLt {bx} (g:Good E κ w bx) {b:Nat} (h:κ.S b≠[]):b<w.heap.size:=by
  obtain ⟨cs,T,fr,hb,_⟩:=g.mem b h
  exact (QC.1 hb).1
theorem Good.memNew {bx} (g:Good E κ w bx) {b:Nat} (h:w.heap.size≤b):κ.S b=[]:=by
  rcases hS:κ.S b with _ | ⟨v,l⟩
  · rfl
  · exact absurd (g.memLt (b:=b) (by simp [hS])) (by omega)
theorem Good.plain {bx} (g:Good E κ w bx) {n:Nat} {c:List V} (h:bget bx n=some c) (hp:nU c=true):∃ cs,w.heap[κ.m n]?=some (.cells cs (κ.ty n) (0,0))∧aZ κ cs.toList c∧κ.bl n=[κ.m n] ∧
    κ.S (κ.m n)=[]∧(E.may (κ.m n)∨E.w.heap.size≤κ.m n):=by
  obtain ⟨cs,h1,h2,h3⟩:=(g.box n c h).toPlain hp
  have:=(g.blk n (by simp [h])).2 (κ.m n) (by rw [h3]; simp)
  exact ⟨cs,h1,h2,h3,this.1,this.2.2⟩
theorem OwnAt.lt {o:Own} (h:OwnAt κ w o) {g:Nat} (hg:o.v.ownBlock=some g):g<w.heap.size:=by
  obtain ⟨k,xs,⟨_,hO⟩,_⟩:=h
  rcases hO with ⟨hv,_⟩ | ⟨g2,cap,cur,T,hv,hh,_⟩
  · rw [hv] at hg; simp [Value.ownBlock] at hg
  · rw [hv] at hg; simp [Value.ownBlock] at hg; subst hg
    exact hh.lt
theorem OwnAt.frame {κ':Ctx} {w':World} {o:Own} (h:OwnAt κ w o) (hf:∀ g,o.v.ownBlock=some g→w'.heap[g]?=w.heap[g]?∧κ'.S g=κ.S g):OwnAt κ' w' o:=by
  obtain ⟨k,xs,⟨hl,hO⟩,hx⟩:=h
  refine ⟨k,xs,⟨hl,?_⟩,fun g hg=>(hf g hg).2.trans (hx g hg)⟩
  rcases hO with hn | ⟨g2,cap,cur,T,hv,hh,hb2,r⟩
  · exact .inl hn
  · exact .inr ⟨g2,cap,cur,T,hv,hh.frame (hf g2 (by rw [hv]; rfl)).1,fun he=>(hf g2 (by rw [hv]; rfl)).1.trans (hb2 he),r⟩
theorem Good.patch {bx bx':List (Nat×List V)} {κ':Ctx} {w':World} (g:Good E κ w bx) (W:Nat→Prop) (src tk:Nat→Prop) (hos:w'.os=w.os) (htape:w'.tape=w.tape) (hout:w'.output=w.output) (hsize:w.heap.size≤w'.heap.size)
    (hW:∀ b,W b→E.may b∨E.w.heap.size≤b) (hOut:∀ b,¬ W b→w'.heap[b]?=w.heap[b]?∧κ'.S b=κ.S b) (hle:∀ b,W b→E.κ.S b <+: κ'.S b) (htab:∀ b,W b→bK2 b <+: κ'.S b)
    (hmem:∀ b,W b→κ'.S b≠[]→∃ cs T fr,w'.heap[b]?=some (.cells cs T fr)∧κ'.S b <+: cs.toList) (hnames:∀ n∈E.fb,κ'.mt n=κ.mt n)
    (hbo:∀ n c,bget bx' n=some c→¬ src n→∃ c0,bget bx n=some c0∧κ'.mt n=κ.mt n∧κ'.bl n=κ.bl n∧Mv κ κ' c0 c∧∀ b∈κ.bl n,¬ W b)
    (hbn:∀ n c,bget bx' n=some c→src n→mP κ' (fun b=>w'.heap[b]?) n c∧(κ'.bl n).Nodup∧∀ b∈κ'.bl n,W b∧κ'.S b=[]∧b<w'.heap.size)
    (hbi:∀ n n' b,(bget bx' n).isSome→(bget bx' n').isSome→src n→src n'→b∈κ'.bl n→b∈κ'.bl n'→n=n')
    (hoo:∀ t o,κ'.o t=some o→¬ tk t→κ.o t=some o∧∀ b,o.v.ownBlock=some b→¬ W b)
    (hon:∀ t o,κ'.o t=some o→tk t→OwnAt κ' w' o∧∀ b,o.v.ownBlock=some b→W b∧∀ n,(bget bx' n).isSome→src n→b∉κ'.bl n)
    (hoi:∀ t t' o o' b,κ'.o t=some o→κ'.o t'=some o'→tk t→tk t'→o.v.ownBlock=some b→o'.v.ownBlock=some b→t=t'):Good E κ' w' bx':=by
  have some_:∀ {n},(bget bx' n).isSome→∃ c,bget bx' n=some c:=fun h=>Option.isSome_iff_exists.1 h
  have bl_:∀ n,(bget bx' n).isSome→¬ src n→(bget bx n).isSome∧κ'.bl n=κ.bl n∧∀ b∈κ.bl n,¬ W b:=fun n hn hs=>by
    obtain ⟨c,hc⟩:=some_ hn
    obtain ⟨c0,h0,_,h2,_,h4⟩:=hbo n c hc hs
    exact ⟨by simp [h0],h2,h4⟩
  have lt_:∀ {b},b<w.heap.size→b<w'.heap.size:=fun h=>Nat.lt_of_lt_of_le h hsize
  refine ⟨⟨hos.trans g.frm.os,htape.trans g.frm.tape,hout.trans g.frm.output,QB g.frm.size hsize,fun b hb hn=>?_,fun b hb hn=>?_,fun n hn=>(hnames n hn).trans (g.frm.names n hn),fun b=>?_⟩,fun b hb=>?_,fun n c hc=>?_,fun n hn=>?_,fun n n' b hn hn' hb hb'=>?_,fun t o ho=>?_,fun t t' o o' b ho ho' hb hb'=>?_,fun b=>?_,g.tabx⟩
  · have:¬ W b:=fun h=>(hW b h).elim hn fun h=>by omega
    exact (hOut b this).2.trans (g.frm.mem b hb hn)
  · have:¬ W b:=fun h=>(hW b h).elim hn fun h=>by omega
    exact (hOut b this).1.trans (g.frm.block b hb hn)
  · by_cases h:W b
    · exact hle b h
    · rw [(hOut b h).2]; exact g.frm.le b
  · by_cases h:W b
    · exact hmem b h hb
    · rw [(hOut b h).2] at hb ⊢; rw [(hOut b h).1]; exact g.mem b hb
  · by_cases h:src n
    · exact (hbn n c hc h).1
    · obtain ⟨c0,h0,h1,h2,h3,h4⟩:=hbo n c hc h
      exact (g.box n c0 h0).mv h3 h1 h2 fun b hb=>(hOut b (h4 b hb)).1
  · by_cases h:src n
    · obtain ⟨c,hc⟩:=some_ hn
      obtain ⟨_,h1,h2⟩:=hbn n c hc h
      exact ⟨h1,fun b hb=>⟨(h2 b hb).2.1,(h2 b hb).2.2,hW b (h2 b hb).1⟩⟩
    · obtain ⟨h0,h2,h4⟩:=bl_ n hn h
      rw [h2]
      obtain ⟨k1,k2⟩:=g.blk n h0
      exact ⟨k1,fun b hb=>⟨(hOut b (h4 b hb)).2.trans (k2 b hb).1,lt_ (k2 b hb).2.1,(k2 b hb).2.2⟩⟩
  · by_cases h:src n <;> by_cases h':src n'
    · exact hbi n n' b hn hn' h h' hb hb'
    · obtain ⟨c,hc⟩:=some_ hn
      obtain ⟨k0,k2,k4⟩:=bl_ n' hn' h'
      exact absurd ((hbn n c hc h).2.2 b hb).1 (k4 b (k2 ▸ hb'))
    · obtain ⟨c,hc⟩:=some_ hn'
      obtain ⟨k0,k2,k4⟩:=bl_ n hn h
      exact absurd ((hbn n' c hc h').2.2 b hb').1 (k4 b (k2 ▸ hb))
    · obtain ⟨k0,k2,_⟩:=bl_ n hn h
      obtain ⟨j0,j2,_⟩:=bl_ n' hn' h'
      exact g.inj n n' b k0 j0 (k2 ▸ hb) (j2 ▸ hb')
  · by_cases h:tk t
    · obtain ⟨h1,h2⟩:=hon t o ho h
      refine ⟨h1,fun b hb=>⟨hW b (h2 b hb).1,fun n hn hm=>?_⟩⟩
      by_cases hs:src n
      · exact (h2 b hb).2 n hn hs hm
      · obtain ⟨_,k2,k4⟩:=bl_ n hn hs
        exact k4 b (k2 ▸ hm) (h2 b hb).1
    · obtain ⟨h1,h2⟩:=hoo t o ho h
      obtain ⟨k1,k2⟩:=g.own t o h1
      refine ⟨k1.frame fun b hb=>hOut b (h2 b hb),fun b hb=>⟨(k2 b hb).1,fun n hn hm=>?_⟩⟩
      by_cases hs:src n
      · obtain ⟨c,hc⟩:=some_ hn
        exact h2 b hb ((hbn n c hc hs).2.2 b hm).1
      · obtain ⟨j0,j2,_⟩:=bl_ n hn hs
        exact (k2 b hb).2 n j0 (j2 ▸ hm)
  · by_cases h:tk t <;> by_cases h':tk t'
    · exact hoi t t' o o' b ho ho' h h' hb hb'
    · exact absurd ((hon t o ho h).2 b hb).1 ((hoo t' o' ho' h').2 b hb')
    · exact absurd ((hon t' o' ho' h').2 b hb').1 ((hoo t o ho h).2 b hb)
    · exact g.ownInj t t' o o' b (hoo t o ho h).1 (hoo t' o' ho' h').1 hb hb'
  · by_cases h:W b
    · exact htab b h
    · rw [(hOut b h).2]; exact g.tab b
theorem Good.grow {bx bx'} (g:Good E κ w bx) {κ':Ctx} {w':World} {gb:Nat} {cells:List Value} {t d:Nat} {e:TypeId} {sz:Nat} {v':Value} {k:Nat}
    (hos:w'.os=w.os) (htape:w'.tape=w.tape) (hout:w'.output=w.output) (hsize:w.heap.size≤w'.heap.size)
    (hblock:∀ b,b<w.heap.size→b≠gb→w'.heap[b]?=w.heap[b]?)
    (hκ:κ'=⟨upd κ.S gb cells,κ.mt,upd (upd κ.o t none) d (some ⟨e,sz,v'⟩),κ.bl⟩)
    (hpre:κ.S gb <+: cells) (hbase:E.may gb∨E.w.heap.size≤gb) (hown:sI w' e sz v' k cells) (hvg:v'.ownBlock=some gb)
    (hbox:∀ n,(bget bx n).isSome→gb∉κ.bl n) (htok:∀ t' o,t'≠t→κ.o t'=some o→o.v.ownBlock≠some gb)
    (hbx:∀ n c,bget bx' n=some c→∃ c0,bget bx n=some c0∧Mv κ κ' c0 c):Good E κ' w' bx':=by
  have hgb:∃ cur T fr,w'.heap[gb]?=some (.cells cur T fr)∧cells <+: cur.toList:=by
    rcases hown.2 with ⟨hv,_⟩ | ⟨g',cap,cur,T,hv,⟨fr,hh,_⟩,_,_,_,_,ht⟩
    · rw [hv] at hvg; simp [Value.ownBlock] at hvg
    · rw [hv] at hvg; simp [Value.ownBlock] at hvg; subst hvg
      exact ⟨cur,T,fr,hh,by rw [← ht]; exact List.take_prefix _ _⟩
  subst hκ
  refine g.patch (fun b=>b=gb∨w.heap.size≤b) (fun _=>False) (fun t'=>t'=d) hos htape hout hsize ?_ ?_ ?_ ?_ ?_ (fun _ _=>rfl) ?_ (fun _ _ _ h=>h.elim) (fun _ _ _ _ _ h=>h.elim) ?_ ?_ ?_
  · rintro b (rfl | hb)
    · exact hbase
    · exact .inr (QB g.frm.size hb)
  · intro b hb
    exact ⟨hblock b (by have:=fun h=>hb (.inr h); omega) fun e=>hb (.inl e),jI _ _ _ fun e=>hb (.inl e)⟩
  · rintro b hb
    by_cases h:b=gb
    · subst h; show _ <+: upd κ.S b cells b; rw [upd_same]; exact (g.frm.le b).trans hpre
    · show _ <+: upd κ.S gb cells b; rw [jI _ _ _ h]; exact g.frm.le b
  · rintro b hb
    by_cases h:b=gb
    · subst h; show _ <+: upd κ.S b cells b; rw [upd_same]; exact (g.tab b).trans hpre
    · show _ <+: upd κ.S gb cells b; rw [jI _ _ _ h]; exact g.tab b
  · intro b hb hS
    by_cases h:b=gb
    · subst h
      obtain ⟨cur,T,fr,hh,hp⟩:=hgb
      exact ⟨cur,T,fr,hh,by show upd κ.S b cells b <+: _; rw [upd_same]; exact hp⟩
    · change upd κ.S gb cells b≠[] at hS
      rw [jI _ _ _ h] at hS
      have:=g.memLt hS
      rcases hb with hb | hb
      · exact absurd hb h
      · omega
  · intro n c hc _
    obtain ⟨c0,h0,hm⟩:=hbx n c hc
    refine ⟨c0,h0,rfl,rfl,hm,fun b hb=>?_⟩
    rintro (rfl | h)
    · exact hbox n (by simp [h0]) hb
    · have:=((g.blk n (by simp [h0])).2 b hb).2.1; omega
  · intro t' o ho hne
    simp only [upd,if_neg hne] at ho
    split at ho
    · simp at ho
    · rename_i h2
      refine ⟨ho,fun b hb=>?_⟩
      rintro (rfl | h)
      · exact htok t' o h2 ho hb
      · have:=(g.own t' o ho).1.lt hb; omega
  · rintro t' o ho rfl
    simp only [upd,if_true,Option.some.injEq] at ho
    subst ho
    refine ⟨⟨k,cells,hown,fun b hb=>?_⟩,fun b hb=>?_⟩
    all_goals (have e2:gb=b:=by have:=hvg.symm.trans hb; simpa using this)
    all_goals subst e2
    · exact upd_same _ _ _
    · exact ⟨.inl rfl,fun _ _ h=>h.elim⟩
  · rintro t1 t2 _ _ _ _ _ rfl rfl _ _
    rfl
theorem Good.ofHeap {bx} {w':World} (g:Good E κ w bx) (h1:w'.heap=w.heap) (h2:w'.os=w.os) (h3:w'.tape=w.tape) (h4:w'.output=w.output):Good E κ w' bx :=
  g.patch (fun _=>False) (fun _=>False) (fun _=>False) h2 h3 h4 (by rw [h1]; exact QA _) (fun _ h=>h.elim) (fun _ _=>⟨by rw [h1],rfl⟩) (fun _ h=>h.elim) (fun _ h=>h.elim) (fun _ h=>h.elim) (fun _ _=>rfl)
    (fun n c hc _=>⟨c,hc,rfl,rfl,Mv.refl _ _,fun _ _ h=>h⟩) (fun _ _ _ h=>h.elim) (fun _ _ _ _ _ h=>h.elim) (fun t o ho _=>⟨ho,fun _ _ h=>h⟩) (fun _ _ _ h=>h.elim) (fun _ _ _ _ _ _ _ h=>h.elim)
theorem Good.drew {bx} (g:Good E κ w bx):Good E κ w.drew bx:=g.ofHeap rfl rfl rfl rfl
theorem Ok.ofHeap {w':World} (h:Ok E N κ w a s) (h1:w'.heap=w.heap) (h2:w'.os=w.os) (h3:w'.tape=w.tape) (h4:w'.output=w.output):Ok E N κ w' a s :=
  ⟨h.size,h.defers,h.env,h.good.ofHeap h1 h2 h3 h4⟩
theorem Ok.allocB (h:Ok E N κ w a s) {d:Nat} (hd:d<N) (hfb:∀ n∈E.fb,N≤n∧n<NX) (hf:s.fresh d=true) (T:TypeId) {cs:Array Value} {cells:List V} (hc:∀ κ':Ctx,κ'.S=κ.S→(∀ k,k≠d→κ'.mt k=κ.mt k)→(∀ k,κ'.o k=κ.o k)→κ'.m d=w.heap.size→κ'.ty d=T→aZ κ' cs.toList cells) {v:Value} {x:V} (hv:∀ κ':Ctx,κ'.m d=w.heap.size→aR κ' v x):∃ κ',Ok E N κ' (w.alloc (.cells cs T)) (a.put (some d) v) ⟨(d,x)::s.env,(d,cells)::s.bx⟩:=by
  have g:=h.good
  obtain ⟨κ',hκ⟩:∃ k:Ctx,k=⟨κ.S,upd κ.mt d (w.heap.size,T,undef),κ.o,upd κ.bl d [w.heap.size]⟩:=⟨_,rfl⟩
  have hS:κ'.S=κ.S:=by rw [hκ]
  have hm:∀ k,k≠d→κ'.mt k=κ.mt k:=fun k hk=>by rw [hκ]; exact jI _ _ _ hk
  have hb0:∀ k,k≠d→κ'.bl k=κ.bl k:=fun k hk=>by rw [hκ]; exact jI _ _ _ hk
  have hbd:κ'.bl d=[w.heap.size]:=by rw [hκ]; exact upd_same _ _ _
  have ho:∀ k,κ'.o k=κ.o k:=fun k=>by rw [hκ]
  have hmt:κ'.mt d=(w.heap.size,T,undef):=by rw [hκ]; exact upd_same _ _ _
  have hmd:κ'.m d=w.heap.size:=congrArg Prod.fst hmt
  have hty:κ'.ty d=T:=congrArg (fun p=>p.2.1) hmt
  clear hκ
  have hle:κ.S.le κ'.S:=by rw [hS]; exact Mem.le_refl _
  have hnew:(w.alloc (.cells cs T)).heap[w.heap.size]?=some (.cells cs T (0,0)):=by show (w.heap.push _)[w.heap.size]?=_; simp
  refine ⟨κ',⟨by simp [Act.put,h.size],h.defers,fun n=>?_,?_⟩⟩
  · simp only [Act.put,lk]
    rw [aBy _ _ _ _ (by rw [h.size]; exact hd)]
    split
    · exact hv κ' hmd
    · exact (h.env n).move hle (V.fits_m hm ho _ (s.fresh_env hf n).1)
  · refine g.patch (fun b=>w.heap.size≤b) (fun n=>n=d) (fun _=>False) rfl rfl rfl (by simp) (fun b hb=>.inr (QB g.frm.size hb)) (fun b hb=>⟨Below.heap_alloc w _ b (by omega),by rw [hS]⟩)
      (fun b _=>by rw [hS]; exact g.frm.le b) (fun b _=>by rw [hS]; exact g.tab b) (fun b hb hn=>absurd (by rw [hS]; exact g.memNew hb) hn) (fun n hn=>hm n (by have:=(hfb n hn).1; omega)) ?_ ?_ ?_ (fun t o h _=>?_) (fun _ _ _ h=>h.elim) (fun _ _ _ _ _ _ _ h=>h.elim)
    · intro n c hc' hne
      simp only [bget,if_neg hne] at hc'
      exact ⟨c,hc',hm n hne,hb0 n hne,Mv.fits hle (V.fitss_m hm ho _ (s.fresh_bx hf hc').1),fun b hb=>by have:=((g.blk n (by simp [hc'])).2 b hb).2.1; omega⟩
    · rintro n c hc' rfl
      simp [bget] at hc'
      subst hc'
      refine ⟨.plain (cs:=cs) (by rw [hmd,hty]; exact hnew) (hc κ' hS hm ho hmd hty) (by rw [hbd,hmd]),by rw [hbd]; simp,fun b hb=>?_⟩
      rw [hbd] at hb
      simp at hb
      subst hb
      exact ⟨QA _,by rw [hS]; exact g.memNew (QA _),by simp⟩
    · rintro n n' b _ _ rfl rfl _ _
      rfl
    · rw [ho] at h
      exact ⟨h,fun b hb=>by have:=(g.own t o h).1.lt hb; omega⟩
theorem Ok.allocV (h:Ok E N κ w a s) {d:Nat} (hd:d<N) (hfb:∀ n∈E.fb,N≤n∧n<NX) (hf:s.fresh d=true) (T:TypeId) {cs:Array Value} {cells:List V} (hc:aZ κ cs.toList cells)
    (hcf:V.noPtrs d cells=true) {v:Value} {x:V} (hv:∀ κ':Ctx,κ'.m d=w.heap.size→aR κ' v x):∃ κ',Ok E N κ' (w.alloc (.cells cs T)) (a.put (some d) v) ⟨(d,x)::s.env,(d,cells)::s.bx⟩ :=
  h.allocB hd hfb hf T (fun κ' hS hm ho _ _=>aZ.move (by rw [hS]; exact Mem.le_refl _) hc (V.fitss_m hm ho _ hcf)) hv
theorem Ok.alloc (h:Ok E N κ w a s) {d:Nat} (hd:d<N) (hfb:∀ n∈E.fb,N≤n∧n<NX) (hf:s.fresh d=true) (T:TypeId) {cs:Array Value} {cells:List V} (hc:aZ κ cs.toList cells)
    (hcf:V.noPtrs d cells=true):∃ κ',Ok E N κ' (w.alloc (.cells cs T)) (a.put (some d) (.pointer (some ⟨w.heap.size,0,none⟩))) ⟨(d,.ptr d 0)::s.env,(d,cells)::s.bx⟩ :=
  h.allocV hd hfb hf T hc hcf fun κ' hm=>by
    have e:=aR.ptr (κ:=κ') d 0
    rwa [hm] at e
def kbp:Option V→V→V
  | some (.bp n U),.np=>.bp n U
  | _,v=>v
def putCells:List V→Nat→List V→List V
  | c,_,[]=>c
  | c,n,x::xs=>putCells (c.set n (kbp c[n]? x)) (n+1) xs
def fC (l:List (Nat×List V)) (n:Nat) (c:List V):List (Nat×List V) :=
  match l with
  | []=>[]
  | (m,v)::r=>if n=m then (m,c)::r else (m,v)::fC r n c
theorem tC (l:List (Nat×List V)) (n:Nat) (c:List V) (k:Nat):bget (fC l n c) k=if k=n then (bget l n).map (fun _=>c) else bget l k:=by
  induction l with
  | nil=>simp [fC,bget]
  | cons x l ih =>
    obtain ⟨m,v⟩:=x
    simp only [fC]
    by_cases h:n=m
    · subst h
      simp only [if_true,bget]
      by_cases hk:k=n <;> simp [hk]
    · simp only [if_neg h,bget,ih]
      by_cases hk:k=n
      · subst hk; simp [h]
      · simp [hk]
theorem Good.store {bx} (g:Good E κ w bx) {n:Nat} {c c':List V} (hc:bget bx n=some c) (hp:nU c=true) {cs':Array Value} (hr:aZ κ cs'.toList c') {w':World}
    (hw:w'.heap[κ.m n]?=some (.cells cs' (κ.ty n) (0,0)))
    (hos:w'.os=w.os) (htape:w'.tape=w.tape) (hout:w'.output=w.output) (hsize:w'.heap.size=w.heap.size) (hblock:∀ b,b≠κ.m n→w'.heap[b]?=w.heap[b]?) :
    Good E κ w' (fC bx n c'):=by
  obtain ⟨cs,hh,_,hbl,hS,hE⟩:=g.plain hc hp
  have hdom:∀ k,(bget (fC bx n c') k).isSome=(bget bx k).isSome:=by
    intro k; rw [tC]; split
    · rename_i e; subst e; simp
    · rfl
  refine g.patch (fun b=>b=κ.m n) (fun k=>k=n) (fun _=>False) hos htape hout (by rw [hsize]; exact QA _) (by rintro b rfl; exact hE) (fun b hb=>⟨hblock b hb,rfl⟩) (fun b _=>g.frm.le b) (fun b _=>g.tab b)
    (by rintro b rfl hn; exact absurd hS hn) (fun _ _=>rfl) ?_ ?_ (by rintro _ _ _ _ _ rfl rfl _ _; rfl) (fun t o ho _=>⟨ho,?_⟩) (fun _ _ _ h=>h.elim) (fun _ _ _ _ _ _ _ h=>h.elim)
  · intro k ck hk hne
    rw [tC,if_neg hne] at hk
    exact ⟨ck,hk,rfl,rfl,Mv.refl _ _,fun b hb e=>hne (g.inj k n b (by simp [hk]) (by simp [hc]) hb (by rw [hbl,e]; simp))⟩
  · rintro k ck hk rfl
    rw [tC,if_pos rfl,hc] at hk
    simp at hk
    subst hk
    refine ⟨.plain hw hr hbl,by rw [hbl]; simp,fun b hb=>?_⟩
    rw [hbl] at hb; simp at hb; subst hb
    exact ⟨rfl,hS,by rw [hsize]; exact (QC.1 hh).1⟩
  · rintro b hb rfl
    exact ((g.own t o ho).2 _ hb).2 n (by simp [hc]) (by rw [hbl]; simp)
theorem Ok.store (h:Ok E N κ w a s) {n:Nat} {c c':List V} (hc:bget s.bx n=some c) (hp:nU c=true) {cs':Array Value} (hr:aZ κ cs'.toList c') {w':World}
    (hw:w'.heap[κ.m n]?=some (.cells cs' (κ.ty n) (0,0)))
    (hos:w'.os=w.os) (htape:w'.tape=w.tape) (hout:w'.output=w.output) (hsize:w'.heap.size=w.heap.size) (hblock:∀ b,b≠κ.m n→w'.heap[b]?=w.heap[b]?) :
    Ok E N κ w' a ⟨s.env,fC s.bx n c'⟩:=⟨h.size,h.defers,h.env,h.good.store hc hp hr hw hos htape hout hsize hblock⟩
end
end Go.Ab
