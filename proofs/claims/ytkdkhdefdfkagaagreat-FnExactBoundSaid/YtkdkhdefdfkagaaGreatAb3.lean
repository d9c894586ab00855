/- How memory changes: a new box,a store into a box,a new owned row,an append. -/
import Derived.Test.YtkdkhdefdfkagaaGreatAb2
namespace Go.Ab
open Go Go.RowKit
section
variable {E:Entry} {N:Nat} {κ:Ctx} {w:World} {a:Act} {s:St}
theorem Good.memLt {bx} (g:Good E κ w bx) {b:Nat} (h:κ.S b≠[]):b<w.heap.size:=by
  obtain ⟨cs,T,fr,hb,_⟩:=g.mem b h
  exact (Array.getElem?_eq_some_iff.1 hb).1
theorem Good.memNew {bx} (g:Good E κ w bx) {b:Nat} (h:w.heap.size≤b):κ.S b=[]:=by
  rcases hS:κ.S b with _ | ⟨v,l⟩
  · rfl
  · exact absurd (g.memLt (b:=b) (by simp [hS])) (by omega)
theorem Good.boxLt {bx} (g:Good E κ w bx) {n:Nat} (h:(bget bx n).isSome):κ.m n<w.heap.size:=by
  obtain ⟨c,hc⟩:=Option.isSome_iff_exists.1 h
  obtain ⟨cs,T,hb,_⟩:=g.box n c hc
  exact (Array.getElem?_eq_some_iff.1 hb).1
theorem Good.grow {bx bx'} (g : Good E κ w bx) {κ' : Ctx} {w' : World} {gb : Nat} {cells : List Value} {t d : Nat} {e : TypeId} {sz : Nat} {v' : Value} {k : Nat}
    (hos:w'.os=w.os) (htape:w'.tape=w.tape) (hout:w'.output=w.output) (hsize:w.heap.size≤w'.heap.size)
    (hblock:∀ b,b<w.heap.size→b≠gb→w'.heap[b]?=w.heap[b]?)
    (hκ:κ'=⟨upd κ.S gb cells,κ.mt,upd (upd κ.o t none) d (some ⟨e,sz,v'⟩)⟩)
    (hpre:κ.S gb <+: cells) (hbase:E.may gb∨E.w.heap.size≤gb) (hown:w'.ownsRow 0 e sz v' k cells) (hvg:v'.ownBlock=some gb)
    (hbox:∀ n,(bget bx n).isSome→κ.m n≠gb) (htok:∀ t' o,t'≠t→κ.o t'=some o→o.v.ownBlock≠some gb)
    (hbx:∀ n c,bget bx' n=some c→∃ c0,bget bx n=some c0∧∀ cs,dF κ cs c0→dF κ' cs c):Good E κ' w' bx':=by
  have hdom:∀ n,(bget bx' n).isSome→(bget bx n).isSome:=by
    intro n hn
    obtain ⟨c,hc⟩:=Option.isSome_iff_exists.1 hn
    obtain ⟨c0,h0,_⟩:=hbx n c hc
    simp [h0]
  have hgb:∃ cur,w'.heap[gb]?=some (.cells cur e (0,0))∧cells <+: cur.toList:=by
    rcases hown.2 with ⟨hv,_⟩ | ⟨g',cap,cur,hv,_,hh,_,_,_,ht⟩
    · rw [hv] at hvg; simp [Value.ownBlock] at hvg
    · rw [hv] at hvg; simp [Value.ownBlock] at hvg; subst hvg
      exact ⟨cur,hh,by rw [← ht]; exact List.take_prefix _ _⟩
  have hb':∀ b,b≠gb→κ'.S b=κ.S b:=fun b hb=>by rw [hκ]; exact lM _ _ _ hb
  have hg':κ'.S gb=cells:=by rw [hκ]; exact upd_same _ _ _
  subst hκ
  refine ⟨⟨hos.trans g.frm.os,htape.trans g.frm.tape,hout.trans g.frm.output,Nat.le_trans g.frm.size hsize,fun b hb hn=>?_,fun b hb hn=>?_,g.frm.names,?_⟩,fun b hb=>?_,fun n c hc=>?_,fun n n' hn hn'=>g.inj n n' (hdom n hn) (hdom n' hn'),fun t' o ho=>?_,fun t1 t2 o1 o2 gg h1 h2 k1 k2=>?_⟩
  · rw [hb' b (by rintro rfl; rcases hbase with h | h; exact hn h; omega)]; exact g.frm.mem b hb hn
  · rw [hblock b (by have:=g.frm.size; omega) (by rintro rfl; rcases hbase with h | h; exact hn h; omega)]; exact g.frm.block b hb hn
  · refine Mem.le_trans g.frm.le fun b=>?_
    by_cases hb:b=gb
    · subst hb; rw [hg']; exact hpre
    · rw [hb' b hb]; exact List.prefix_refl _
  · by_cases hbg:b=gb
    · subst hbg
      obtain ⟨cur,hh,hp⟩:=hgb
      exact ⟨cur,e,(0,0),hh,by rw [hg']; exact hp⟩
    · rw [hb' b hbg] at hb ⊢
      obtain ⟨cs,T,fr,hh,hp⟩:=g.mem b hb
      exact ⟨cs,T,fr,(hblock b (g.memLt hb) hbg).trans hh,hp⟩
  · obtain ⟨c0,h0,hmv⟩:=hbx n c hc
    obtain ⟨cs,T,hh,hr,hS,hE⟩:=g.box n c0 h0
    have hne:κ.m n≠gb:=hbox n (by simp [h0])
    exact ⟨cs,T,(hblock _ (g.boxLt (by simp [h0])) hne).trans hh,hmv _ hr,(hb' _ hne).trans hS,hE⟩
  · simp only [upd] at ho
    split at ho
    · simp only [Option.some.injEq] at ho; subst ho
      refine ⟨k,cells,hown,fun g2 hg2=>?_⟩
      have e2:gb=g2:=by have:=hvg.symm.trans hg2; simpa using this
      subst e2
      exact ⟨hbase,hg',fun n hn=>hbox n (hdom n hn)⟩
    · split at ho
      · simp at ho
      · rename_i h1 h2
        obtain ⟨k',xs,hO,hx⟩:=g.own t' o ho
        have hne:o.v.ownBlock≠some gb:=htok t' o h2 ho
        refine ⟨k',xs,?_,fun g2 hg2=>?_⟩
        · obtain ⟨hl,hO2⟩:=hO
          refine ⟨hl,?_⟩
          rcases hO2 with hn | ⟨g2,cap,cur,hv,hb2,hh,r⟩
          · exact .inl hn
          · refine .inr ⟨g2,cap,cur,hv,hb2,?_,r⟩
            rw [hblock g2 (Array.getElem?_eq_some_iff.1 hh).1 (by rintro rfl; exact hne (by rw [hv]; rfl))]
            exact hh
        · obtain ⟨h0,h3,h4⟩:=hx g2 hg2
          refine ⟨h0,by rw [hb' g2 (by rintro rfl; exact hne hg2)]; exact h3,fun n hn=>h4 n (hdom n hn)⟩
  · have hcase : ∀ t' o', upd (upd κ.o t none) d (some ⟨e, sz, v'⟩) t' = some o' → o'.v.ownBlock = some gg → (t' = d ∧ gg = gb) ∨ (t' ≠ d ∧ t' ≠ t ∧ κ.o t' = some o' ∧ gg ≠ gb) := by
      intro t' o' ho' hg2
      simp only [upd] at ho'
      split at ho'
      · rename_i hd
        simp only [Option.some.injEq] at ho'; subst ho'
        refine .inl ⟨hd,?_⟩
        have:=hvg.symm.trans hg2; simpa using this.symm
      · split at ho'
        · simp at ho'
        · rename_i h5 h6
          exact .inr ⟨h5,h6,ho',by rintro rfl; exact htok t' o' h6 ho' hg2⟩
    rcases hcase t1 o1 h1 k1 with ⟨rfl,e1⟩ | ⟨a1,a2,a3,a4⟩ <;> rcases hcase t2 o2 h2 k2 with ⟨rfl,e2⟩ | ⟨b1,b2,b3,b4⟩
    · rfl
    · exact absurd e1 b4
    · exact absurd e2 a4
    · exact g.ownInj t1 t2 o1 o2 gg a3 b3 k1 k2
theorem Good.drew {bx} (g:Good E κ w bx):Good E κ w.drew bx :=
  ⟨⟨g.frm.os,g.frm.tape,g.frm.output,g.frm.size,g.frm.mem,g.frm.block,g.frm.names,g.frm.le⟩,g.mem,g.box,g.inj,g.own,g.ownInj⟩
theorem Good.ofHeap {bx} {w':World} (g:Good E κ w bx) (h1:w'.heap=w.heap) (h2:w'.os=w.os) (h3:w'.tape=w.tape) (h4:w'.output=w.output):Good E κ w' bx:=by
  refine ⟨⟨h2.trans g.frm.os,h3.trans g.frm.tape,h4.trans g.frm.output,by rw [h1]; exact g.frm.size,g.frm.mem,by rw [h1]; exact g.frm.block,g.frm.names,g.frm.le⟩,by rw [h1]; exact g.mem,by rw [h1]; exact g.box,g.inj,fun t o ho=>?_,g.ownInj⟩
  obtain ⟨k,xs,hO,r⟩:=g.own t o ho
  exact ⟨k,xs,⟨hO.1,by rw [h1]; exact hO.2⟩,r⟩
theorem Ok.ofHeap {w':World} (h:Ok E N κ w a s) (h1:w'.heap=w.heap) (h2:w'.os=w.os) (h3:w'.tape=w.tape) (h4:w'.output=w.output):Ok E N κ w' a s :=
  ⟨h.size,h.defers,h.env,h.good.ofHeap h1 h2 h3 h4⟩
theorem Ok.allocV (h : Ok E N κ w a s) {d : Nat} (hd : d < N) (hfb : ∀ n ∈ E.fb, N ≤ n) (hf : s.fresh d = true) (T : TypeId) {cs : Array Value} {cells : List V} (hc : dF κ cs.toList cells)
    (hcf:V.noPtrs d cells=true) {v:Value} {x:V} (hv:∀ κ':Ctx,κ'.m d=w.heap.size→bI κ' v x):∃ κ',Ok E N κ' (w.alloc (.cells cs T)) (a.put (some d) v) ⟨(d,x)::s.env,(d,cells)::s.bx⟩:=by
  have g:=h.good
  let κ':Ctx:=⟨κ.S,upd κ.mt d (w.heap.size,T),κ.o⟩
  have hm:∀ k,k≠d→κ'.mt k=κ.mt k:=fun k hk=>lM _ _ _ hk
  have hmm:∀ k,k≠d→κ'.m k=κ.m k:=fun k hk=>congrArg Prod.fst (hm k hk)
  have hmt:κ'.mt d=(w.heap.size,T):=upd_same _ _ _
  have hmd:κ'.m d=w.heap.size:=congrArg Prod.fst hmt
  have hold:∀ b,b<w.heap.size→(w.alloc (.cells cs T)).heap[b]?=w.heap[b]?:=fun b hb=>Below.heap_alloc w _ b hb
  have hnew:(w.alloc (.cells cs T)).heap[w.heap.size]?=some (.cells cs T (0,0)):=by show (w.heap.push _)[w.heap.size]?=_; simp
  refine ⟨κ',⟨by simp [Act.put,h.size],h.defers,fun n=>?_,?_⟩⟩
  · simp only [Act.put,lk]
    rw [aCk _ _ _ _ (by rw [h.size]; exact hd)]
    split
    · exact hv κ' hmd
    · exact (h.env n).move (show κ.S.le κ'.S from Mem.le_refl _) (V.fits_m hm (fun _=>rfl) _ (s.fresh_env hf n).1)
  · have hdom:∀ n,n≠d→bget ((d,cells)::s.bx) n=bget s.bx n:=fun n hn=>by simp [bget,hn]
    have hlt:∀ n,n≠d→(bget ((d,cells)::s.bx) n).isSome→κ'.m n<w.heap.size:=fun n hn hb=>by
      rw [hmm n hn]; rw [hdom n hn] at hb; exact g.boxLt hb
    refine ⟨⟨g.frm.os,g.frm.tape,g.frm.output,by simp only [World.size_alloc]; have:=g.frm.size; omega,g.frm.mem,fun b hb hn=>?_,fun n hn=>?_,g.frm.le⟩,fun b hb=>?_,fun n c hc'=>?_,fun n n' hn hn' he=>?_,fun t o ho=>?_,g.ownInj⟩
    · rw [hold b (by have:=g.frm.size; omega)]; exact g.frm.block b hb hn
    · rw [hm n (by have:=hfb n hn; omega)]; exact g.frm.names n hn
    · obtain ⟨c,T',fr,hh,hp⟩:=g.mem b hb
      exact ⟨c,T',fr,(hold b (g.memLt hb)).trans hh,hp⟩
    · by_cases hnd:n=d
      · subst hnd
        simp [bget] at hc'
        subst hc'
        refine ⟨cs,T,by rw [hmd]; exact hnew,dF.move (show κ.S.le κ'.S from Mem.le_refl _) hc (V.fitss_m hm (fun _=>rfl) _ hcf),by rw [hmd]; exact g.memNew (Nat.le_refl _),.inr (by rw [hmd]; exact g.frm.size),by rw [hmt]⟩
      · rw [hdom n hnd] at hc'
        obtain ⟨c',T',hh,hr,hS,hE⟩:=g.box n c hc'
        rw [hmm n hnd,hm n hnd]
        exact ⟨c',T',(hold _ (g.boxLt (by simp [hc']))).trans hh,hr.move (show κ.S.le κ'.S from Mem.le_refl _) (V.fitss_m hm (fun _=>rfl) _ (s.fresh_bx hf hc').1),hS,hE⟩
    · by_cases h1:n=d <;> by_cases h2:n'=d
      · rw [h1,h2]
      · have:=hlt n' h2 hn'; rw [h1,hmd] at he; omega
      · have:=hlt n h1 hn; rw [h2,hmd] at he; omega
      · rw [hmm n h1,hmm n' h2] at he
        exact g.inj n n' (by rw [← hdom n h1]; exact hn) (by rw [← hdom n' h2]; exact hn') he
    · obtain ⟨k,xs,hO,hx⟩:=g.own t o ho
      refine ⟨k,xs,?_,fun g2 hg2=>?_⟩
      · obtain ⟨hl,hO2⟩:=hO
        refine ⟨hl,?_⟩
        rcases hO2 with hn | ⟨g2,cap,cur,hv,hb2,hh,r⟩
        · exact .inl hn
        · exact .inr ⟨g2,cap,cur,hv,hb2,(hold g2 (Array.getElem?_eq_some_iff.1 hh).1).trans hh,r⟩
      · obtain ⟨h0,h3,h4⟩:=hx g2 hg2
        refine ⟨h0,h3,fun n hn=>?_⟩
        by_cases hnd:n=d
        · subst hnd
          rw [hmd]
          obtain ⟨hl,hO2⟩:=hO
          rcases hO2 with ⟨hv,_⟩ | ⟨g3,cap,cur,hv,hb2,hh,r⟩
          · rw [hv] at hg2; simp [Value.ownBlock] at hg2
          · rw [hv] at hg2; simp [Value.ownBlock] at hg2; subst hg2
            have:=(Array.getElem?_eq_some_iff.1 hh).1
            omega
        · rw [hmm n hnd]; exact h4 n (by rw [← hdom n hnd]; exact hn)
theorem Ok.allocB (h:Ok E N κ w a s) {d:Nat} (hd:d<N) (hfb:∀ n ∈ E.fb,N≤n) (hf:s.fresh d=true) (T:TypeId) {cs:Array Value} {cells:List V} (hc:∀ κ':Ctx,κ'.S=κ.S→(∀ k,k≠d→κ'.mt k=κ.mt k)→(∀ k,κ'.o k=κ.o k)→κ'.mt d=(w.heap.size,T)→dF κ' cs.toList cells) {v:Value} {x:V} (hv:∀ κ':Ctx,κ'.m d=w.heap.size→bI κ' v x):∃ κ',Ok E N κ' (w.alloc (.cells cs T)) (a.put (some d) v) ⟨(d,x)::s.env,(d,cells)::s.bx⟩:=by
  have g:=h.good
  let κ':Ctx:=⟨κ.S,upd κ.mt d (w.heap.size,T),κ.o⟩
  have hm:∀ k,k≠d→κ'.mt k=κ.mt k:=fun k hk=>lM _ _ _ hk
  have hmm:∀ k,k≠d→κ'.m k=κ.m k:=fun k hk=>congrArg Prod.fst (hm k hk)
  have hmt:κ'.mt d=(w.heap.size,T):=upd_same _ _ _
  have hmd:κ'.m d=w.heap.size:=congrArg Prod.fst hmt
  have hold:∀ b,b<w.heap.size→(w.alloc (.cells cs T)).heap[b]?=w.heap[b]?:=fun b hb=>Below.heap_alloc w _ b hb
  have hnew:(w.alloc (.cells cs T)).heap[w.heap.size]?=some (.cells cs T (0,0)):=by show (w.heap.push _)[w.heap.size]?=_; simp
  refine ⟨κ',⟨by simp [Act.put,h.size],h.defers,fun n=>?_,?_⟩⟩
  · simp only [Act.put,lk]
    rw [aCk _ _ _ _ (by rw [h.size]; exact hd)]
    split
    · exact hv κ' hmd
    · exact (h.env n).move (show κ.S.le κ'.S from Mem.le_refl _) (V.fits_m hm (fun _=>rfl) _ (s.fresh_env hf n).1)
  · have hdom:∀ n,n≠d→bget ((d,cells)::s.bx) n=bget s.bx n:=fun n hn=>by simp [bget,hn]
    have hlt:∀ n,n≠d→(bget ((d,cells)::s.bx) n).isSome→κ'.m n<w.heap.size:=fun n hn hb=>by
      rw [hmm n hn]; rw [hdom n hn] at hb; exact g.boxLt hb
    refine ⟨⟨g.frm.os,g.frm.tape,g.frm.output,by simp only [World.size_alloc]; have:=g.frm.size; omega,g.frm.mem,fun b hb hn=>?_,fun n hn=>?_,g.frm.le⟩,fun b hb=>?_,fun n c hc'=>?_,fun n n' hn hn' he=>?_,fun t o ho=>?_,g.ownInj⟩
    · rw [hold b (by have:=g.frm.size; omega)]; exact g.frm.block b hb hn
    · rw [hm n (by have:=hfb n hn; omega)]; exact g.frm.names n hn
    · obtain ⟨c,T',fr,hh,hp⟩:=g.mem b hb
      exact ⟨c,T',fr,(hold b (g.memLt hb)).trans hh,hp⟩
    · by_cases hnd:n=d
      · subst hnd
        simp [bget] at hc'
        subst hc'
        refine ⟨cs,T,by rw [hmd]; exact hnew,hc κ' rfl hm (fun _=>rfl) hmt,by rw [hmd]; exact g.memNew (Nat.le_refl _),.inr (by rw [hmd]; exact g.frm.size),by rw [hmt]⟩
      · rw [hdom n hnd] at hc'
        obtain ⟨c',T',hh,hr,hS,hE⟩:=g.box n c hc'
        rw [hmm n hnd,hm n hnd]
        exact ⟨c',T',(hold _ (g.boxLt (by simp [hc']))).trans hh,hr.move (show κ.S.le κ'.S from Mem.le_refl _) (V.fitss_m hm (fun _=>rfl) _ (s.fresh_bx hf hc').1),hS,hE⟩
    · by_cases h1:n=d <;> by_cases h2:n'=d
      · rw [h1,h2]
      · have:=hlt n' h2 hn'; rw [h1,hmd] at he; omega
      · have:=hlt n h1 hn; rw [h2,hmd] at he; omega
      · rw [hmm n h1,hmm n' h2] at he
        exact g.inj n n' (by rw [← hdom n h1]; exact hn) (by rw [← hdom n' h2]; exact hn') he
    · obtain ⟨k,xs,hO,hx⟩:=g.own t o ho
      refine ⟨k,xs,?_,fun g2 hg2=>?_⟩
      · obtain ⟨hl,hO2⟩:=hO
        refine ⟨hl,?_⟩
        rcases hO2 with hn | ⟨g2,cap,cur,hv,hb2,hh,r⟩
        · exact .inl hn
        · exact .inr ⟨g2,cap,cur,hv,hb2,(hold g2 (Array.getElem?_eq_some_iff.1 hh).1).trans hh,r⟩
      · obtain ⟨h0,h3,h4⟩:=hx g2 hg2
        refine ⟨h0,h3,fun n hn=>?_⟩
        by_cases hnd:n=d
        · subst hnd
          rw [hmd]
          obtain ⟨hl,hO2⟩:=hO
          rcases hO2 with ⟨hv,_⟩ | ⟨g3,cap,cur,hv,hb2,hh,r⟩
          · rw [hv] at hg2; simp [Value.ownBlock] at hg2
          · rw [hv] at hg2; simp [Value.ownBlock] at hg2; subst hg2
            have:=(Array.getElem?_eq_some_iff.1 hh).1
            omega
        · rw [hmm n hnd]; exact h4 n (by rw [← hdom n hnd]; exact hn)
theorem Ok.alloc (h : Ok E N κ w a s) {d : Nat} (hd : d < N) (hfb : ∀ n ∈ E.fb, N ≤ n) (hf : s.fresh d = true) (T : TypeId) {cs : Array Value} {cells : List V} (hc : dF κ cs.toList cells)
    (hcf:V.noPtrs d cells=true):∃ κ',Ok E N κ' (w.alloc (.cells cs T)) (a.put (some d) (.pointer (some ⟨w.heap.size,0,none⟩))) ⟨(d,.ptr d 0)::s.env,(d,cells)::s.bx⟩ :=
  h.allocV hd hfb hf T hc hcf fun κ' hm=>by
    have e:=bI.ptr (κ:=κ') d 0
    rwa [hm] at e
def kbp:Option V→V→V
  | some (.bp n U),.np=>.bp n U
  | _,v=>v
def putCells:List V→Nat→List V→List V
  | c,_,[]=>c
  | c,n,x::xs=>putCells (c.set n (kbp c[n]? x)) (n+1) xs
def jH (l:List (Nat×List V)) (n:Nat) (c:List V):List (Nat×List V) :=
  match l with
  | []=>[]
  | (m,v)::r=>if n=m then (m,c)::r else (m,v)::jH r n c
theorem aVm (l:List (Nat×List V)) (n:Nat) (c:List V) (k:Nat):bget (jH l n c) k=if k=n then (bget l n).map (fun _=>c) else bget l k:=by
  induction l with
  | nil=>simp [jH,bget]
  | cons x l ih =>
    obtain ⟨m,v⟩:=x
    simp only [jH]
    by_cases h:n=m
    · subst h
      simp only [if_true,bget]
      by_cases hk:k=n <;> simp [hk]
    · simp only [if_neg h,bget,ih]
      by_cases hk:k=n
      · subst hk; simp [h]
      · simp [hk]
theorem Ok.store (h : Ok E N κ w a s) {n : Nat} {c c' : List V} (hc : bget s.bx n = some c) {cs' : Array Value} (hr : dF κ cs'.toList c') {w' : World}
    (hw:∃ cs T,w.heap[κ.m n]?=some (.cells cs T (0,0))∧w'.heap[κ.m n]?=some (.cells cs' T (0,0)))
    (hos:w'.os=w.os) (htape:w'.tape=w.tape) (hout:w'.output=w.output) (hsize:w'.heap.size=w.heap.size) (hblock:∀ b,b≠κ.m n→w'.heap[b]?=w.heap[b]?) :
    Ok E N κ w' a ⟨s.env,jH s.bx n c'⟩:=by
  have g:=h.good
  obtain ⟨cs,T,hh,hh'⟩:=hw
  have hS:κ.S (κ.m n)=[]:=by obtain ⟨_,_,_,_,h1,_⟩:=g.box n c hc; exact h1
  have hdom:∀ k,(bget (jH s.bx n c') k).isSome=(bget s.bx k).isSome:=by
    intro k; rw [aVm]; split
    · rename_i e; subst e; simp
    · rfl
  refine ⟨h.size,h.defers,h.env,⟨⟨hos.trans g.frm.os,htape.trans g.frm.tape,hout.trans g.frm.output,by rw [hsize]; exact g.frm.size,g.frm.mem,fun b hb hn=>?_,g.frm.names,g.frm.le⟩,fun b hb=>?_,fun k ck hk=>?_,fun k k' hk hk'=>?_,fun t o ho=>?_,g.ownInj⟩⟩
  · have hne : b ≠ κ.m n := by
      obtain ⟨_,_,_,_,_,hE,_⟩:=g.box n c hc
      rintro rfl
      rcases hE with hE | hE
      · exact hn hE
      · omega
    rw [hblock b hne]; exact g.frm.block b hb hn
  · have hne:b≠κ.m n:=by rintro rfl; exact hb hS
    obtain ⟨c0,T',fr,h0,hp⟩:=g.mem b hb
    exact ⟨c0,T',fr,(hblock b hne).trans h0,hp⟩
  · dsimp only at hk
    rw [aVm] at hk
    split at hk
    · rename_i e; subst e
      rw [hc] at hk; simp at hk; subst hk
      obtain ⟨_,T0,h00,_,_,hE,hT0⟩:=g.box k c hc
      rw [hh] at h00
      simp only [Option.some.injEq,Obj.cells.injEq] at h00
      exact ⟨cs',T,hh',hr,hS,hE,hT0.trans h00.2.1.symm⟩
    · rename_i hne
      obtain ⟨c0,T',h0,hr0,hS0,hE⟩:=g.box k ck hk
      refine ⟨c0,T',(hblock _ fun e=>hne (g.inj k n (by simp [hk]) (by simp [hc]) e)).trans h0,hr0,hS0,hE⟩
  · dsimp only at hk hk'
    rw [hdom] at hk hk'; exact g.inj k k' hk hk'
  · obtain ⟨k,xs,hO,hx⟩:=g.own t o ho
    refine ⟨k,xs,?_,fun g2 hg2=>?_⟩
    · obtain ⟨hl,hO2⟩:=hO
      refine ⟨hl,?_⟩
      rcases hO2 with hn | ⟨g2,cap,cur,hv,hb2,h2,r⟩
      · exact .inl hn
      · have hne : g2 ≠ κ.m n := by
          have:=(hx g2 (by rw [hv]; rfl)).2.2 n (by simp [hc])
          exact fun e=>this e.symm
        exact .inr ⟨g2,cap,cur,hv,hb2,(hblock g2 hne).trans h2,r⟩
    · obtain ⟨h0,h3,h4⟩:=hx g2 hg2
      exact ⟨h0,h3,fun k hk=>h4 k (by dsimp only at hk; rw [hdom] at hk; exact hk)⟩
end
end Go.Ab
