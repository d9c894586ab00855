/- More of what a state may be taken for: nil for a tree without rows,trees forgotten,names of the dead. -/
import Derived.Test.YtcbkkemcgcdhdaaGreatAbT5
namespace Go.Ab
open Go Go.RowKit
open _root_.List renaming prefix_refl→QA,length_take→QF,drop_zero→QG,nil_prefix→QH
open _root_.Nat renaming le_refl→QB,mul_le_mul_right→QI
open _root_.Option renaming some.injEq→QC,map_eq_some_iff→QD
open _root_.Bool renaming and_eq_true→QE
open _root_.Array renaming length_toList→QJ
theorem set_self {α:Type}:∀ {l:List α} {j:Nat} {x:α},l[j]?=some x→l.set j x=l
  | [],_,_,h=>by simp at h
  | _::_,0,_,h=>by simp at h; simp [h]
  | _::_,j+1,_,h=>by simp at h; simp [set_self h]
def V.nl (j n:Nat):V→Option (Nat×V)
  | .nil sz=>some (sz,.tre n)
  | .agv l=>match l[j]? with
    | some (.nil sz)=>some (sz,.agv (l.set j (.tre n)))
    | _=>none
  | _=>none
theorem aR.nl {κ:Ctx} {n j sz:Nat} {v:Value} {x y:V} (hv:κ.hv n=.slice none 0 0) (r:aR κ v x) (h:x.nl j n=some (sz,y)):aR κ v y:=by
  cases x <;> simp only [V.nl,QC,reduceCtorEq] at h
  · cases r
    obtain ⟨_,rfl⟩:=h
    exact .tre hv
  · rename_i l
    split at h <;> simp at h
    rename_i hj
    obtain ⟨_,rfl⟩:=h
    cases r with
    | agv hr =>
      obtain ⟨u,h1,h2⟩:=hr.get hj
      have e:=h2.toNil
      subst e
      have:=hr.set j (aR.tre (κ:=κ) (n:=n) hv)
      rw [set_self h1] at this
      exact .agv this
theorem Mv.nl {κ:Ctx} {n sz:Nat} (hv:κ.hv n=.slice none 0 0):∀ {c:List V} {j:Nat},c[j]?=some (.nil sz)→Mv κ κ c (c.set j (.tre n))
  | [],_,h=>by simp at h
  | x::c,0,h=>by
    simp at h; subst h
    exact .cons ⟨fun h=>by simp [V.mark] at h,fun _ r=>by rw [r.toNil]; exact .tre hv⟩ (Mv.refl _ _)
  | x::c,j+1,h=>by
    simp at h
    exact .cons ⟨fun _=>⟨rfl,fun _=>Mem.le_refl _⟩,fun _ r=>r⟩ (Mv.nl hv h)
def nlM (sh:Bool) (sz:Nat):V:=match sh with
  | true=>.trs sz []
  | false=>.trc sz []
theorem Ok.addNil {E:Entry} {N:Nat} {κ:Ctx} {w:World} {a:Act} {s:St} (h:Ok E N κ w a s) {n:Nat} (sh:Bool) (sz:Nat) (hf:s.fresh n=true) (hn:n∉E.fb):∃ κ',κ'.hv n=.slice none 0 0∧Ok E N κ' w a ⟨s.env,(n,[nlM sh sz])::s.bx⟩:=by
  have g:=h.good
  let κ':Ctx:=⟨κ.S,fun m=>if m=n then oZ 0 (.slice none 0 0) else κ.mt m,κ.o,fun m=>if m=n then [] else κ.bl m⟩
  have hm:∀ m,m≠n→κ'.mt m=κ.mt m:=fun m e=>if_neg e
  have hb:∀ m,m≠n→κ'.bl m=κ.bl m:=fun m e=>if_neg e
  have hn1:κ'.mt n=oZ 0 (.slice none 0 0):=if_pos rfl
  have hb1:κ'.bl n=[]:=if_pos rfl
  have mv:∀ {v x},aR κ v x→x.noPtr n=true→aR κ' v x:=fun {v x} r hx=>aR.move (κ:=κ) (κ':=κ') (Mem.le_refl _) r (V.fits_nn (np:=[n]) (nt:=[]) (fun m hm'=>hm m (by simpa using hm')) (fun _ _=>rfl) x (fun m hm'=>by simp at hm'; subst hm'; exact hx) (fun _ h=>by simp at h))
  have mvs:∀ c:List V,V.noPtrs n c=true→Mv κ κ' c c:=fun c hc=>by
    induction c with
    | nil=>exact .nil
    | cons x c ih =>
      simp only [V.noPtrs,QE] at hc
      exact .cons ⟨fun _=>⟨rfl,fun _=>Mem.le_refl _⟩,fun _ r=>mv r hc.1⟩ (ih hc.2)
  refine ⟨κ',by show (κ'.mt n).2.2=_; rw [hn1]; rfl,h.size,h.defers,fun k=>mv (h.env k) (St.fresh_env hf k).1,?_⟩
  refine g.patch (fun _=>False) (fun m=>m=n) (fun _=>False) rfl rfl rfl (QB _) (fun _ h=>h.elim) (fun _ _=>⟨rfl,rfl⟩) (fun _ h=>h.elim) (fun _ h=>h.elim) (fun _ h=>h.elim) (fun m hm'=>hm m fun e=>hn (e ▸ hm'))
    (fun m c hc hs=>?_) (fun m c hc hs=>?_) (fun m m' b _ _ hs _ hb' _=>?_) (fun t o ho _=>⟨ho,fun _ _ h=>h⟩) (fun _ _ _ h=>h.elim) (fun _ _ _ _ _ _ _ h=>h.elim)
  · simp only [bget,if_neg hs] at hc
    exact ⟨c,hc,hm m hs,hb m hs,mvs c (St.fresh_bx hf hc).1,fun _ _ h=>h⟩
  · subst hs
    simp [bget] at hc; subst hc
    refine ⟨?_,by rw [hb1]; simp,fun b hb'=>by rw [hb1] at hb'; simp at hb'⟩
    cases sh
    · exact .closed hn1 (by rw [hb1]; exact .nil sz)
    · exact .shallow hn1 (by rw [hb1]; exact .nil rfl)
  · subst hs; rw [hb1] at hb'; simp at hb'
def aQm (s:St) (n:Nat):Bool:=s.fresh n&&Nat.ble NX n
theorem bKa {s:St} {n:Nat} (h:aQm s n=true):s.fresh n=true∧NX≤n:=by
  simp only [aQm,QE] at h
  exact ⟨h.1,Nat.le_of_ble_eq_true h.2⟩
def St.nlE (s:St) (t j n:Nat):St:=match aQm s n,(lk s.env t).nl j n with
  | true,some (sz,y)=>⟨(t,y)::s.env,(n,[.trc sz []])::s.bx⟩
  | _,_=>s
theorem cHp (s:St) (t j n:Nat):Wk s (s.nlE t j n):=by
  unfold St.nlE
  split
  · rename_i sz y h1 h2
    obtain ⟨hf,hn⟩:=bKa h1
    intro E N κ w a hfb h
    obtain ⟨κ',hv,h'⟩:=h.addNil false sz hf fun hm=>by have:=(hfb n hm).2; omega
    refine ⟨κ',h'.size,h'.defers,fun k=>?_,h'.good⟩
    simp only [lk]
    split
    · rename_i e; subst e
      exact aR.nl hv (h'.env k) h2
    · exact h'.env k
  · exact Wk.refl s
def St.nlB (s:St) (sh:Bool) (m j n:Nat):St:=match aQm s n,bget s.bx m with
  | true,some c=>match c[j]? with
    | some (.nil sz)=>⟨s.env,(n,[nlM sh sz])::fC s.bx m (c.set j (.tre n))⟩
    | _=>s
  | _,_=>s
theorem bHl (s:St) (sh:Bool) (m j n:Nat):Wk s (s.nlB sh m j n):=by
  unfold St.nlB
  split
  · rename_i c h1 h2
    split
    · rename_i sz hj
      obtain ⟨hf,hn⟩:=bKa h1
      intro E N κ w a hfb h
      obtain ⟨κ',hv,h'⟩:=h.addNil sh sz hf fun hm=>by have:=(hfb n hm).2; omega
      refine ⟨κ',h'.size,h'.defers,h'.env,?_⟩
      have hne:m≠n∨m=n:=by omega
      refine h'.good.patch (fun _=>False) (fun _=>False) (fun _=>False) rfl rfl rfl (QB _) (fun _ h=>h.elim) (fun _ _=>⟨rfl,rfl⟩) (fun _ h=>h.elim) (fun _ h=>h.elim) (fun _ h=>h.elim) (fun _ _=>rfl)
        (fun k d hd _=>?_) (fun _ _ _ h=>h.elim) (fun _ _ _ _ _ h=>h.elim) (fun t o ho _=>⟨ho,fun _ _ h=>h⟩) (fun _ _ _ h=>h.elim) (fun _ _ _ _ _ _ _ h=>h.elim)
      simp only [bget] at hd
      by_cases e:k=n
      · rw [if_pos e] at hd
        simp at hd; subst hd
        exact ⟨[nlM sh sz],by simp only [bget]; rw [if_pos e],rfl,rfl,Mv.refl _ _,fun _ _ h=>h⟩
      · rw [if_neg e] at hd
        rw [aKf] at hd
        by_cases e2:k=m
        · subst e2
          rw [if_pos rfl,h2] at hd
          simp at hd; subst hd
          exact ⟨c,by simp only [bget]; rw [if_neg e]; exact h2,rfl,rfl,Mv.nl hv hj,fun _ _ h=>h⟩
        · rw [if_neg e2] at hd
          exact ⟨d,by simp only [bget]; rw [if_neg e]; exact hd,rfl,rfl,Mv.refl _ _,fun _ _ h=>h⟩
    · exact Wk.refl s
  · exact Wk.refl s
def St.kl (s:St) (n:Nat):St:=⟨s.env,(n,[.trd])::s.bx⟩
theorem bT6 (s:St) (n:Nat):Wk s (s.kl n):=by
  intro E N κ w a hfb h
  have g:=h.good
  let κ':Ctx:=⟨κ.S,κ.mt,κ.o,fun m=>if m=n then [] else κ.bl m⟩
  have hb:∀ m,m≠n→κ'.bl m=κ.bl m:=fun m e=>if_neg e
  have hb1:κ'.bl n=[]:=if_pos rfl
  have mv:∀ {v x},aR κ v x→aR κ' v x:=fun {v x} r=>aR.move (κ:=κ) (κ':=κ') (Mem.le_refl _) r (V.fits_nn (κ:=κ) (κ':=κ') (np:=[]) (nt:=[]) (fun _ _=>rfl) (fun _ _=>rfl) x (fun _ h=>by simp at h) (fun _ h=>by simp at h))
  have mvs:∀ c:List V,Mv κ κ' c c:=fun c=>by
    induction c with
    | nil=>exact .nil
    | cons x c ih=>exact .cons ⟨fun _=>⟨rfl,fun _=>Mem.le_refl _⟩,fun _ r=>mv r⟩ ih
  refine ⟨κ',h.size,h.defers,fun k=>mv (h.env k),?_⟩
  refine g.patch (fun _=>False) (fun m=>m=n) (fun _=>False) rfl rfl rfl (QB _) (fun _ h=>h.elim) (fun _ _=>⟨rfl,rfl⟩) (fun _ h=>h.elim) (fun _ h=>h.elim) (fun _ h=>h.elim) (fun m hm'=>rfl)
    (fun m c hc hs=>?_) (fun m c hc hs=>?_) (fun m m' b _ _ hs _ hb' _=>?_) (fun t o ho _=>⟨ho,fun _ _ h=>h⟩) (fun _ _ _ h=>h.elim) (fun _ _ _ _ _ _ _ h=>h.elim)
  · simp only [St.kl,bget,if_neg hs] at hc
    exact ⟨c,hc,rfl,hb m hs,mvs c,fun _ _ h=>h⟩
  · subst hs
    simp [St.kl,bget] at hc; subst hc
    exact ⟨.dead hb1,by rw [hb1]; simp,fun b hb'=>by rw [hb1] at hb'; simp at hb'⟩
  · subst hs; rw [hb1] at hb'; simp at hb'
def V.ow1 (n sz:Nat) (l:List (List D)):V→V
  | .tre m=>if m=n then .osl n XE sz l else .tre m
  | v=>v
def V.ow (n sz:Nat) (l:List (List D)):V→V
  | .agv c=>.agv (c.map (V.ow1 n sz l))
  | .tup c=>.tup (c.map (V.ow1 n sz l))
  | v=>v.ow1 n sz l
theorem V.ow_mark {n sz:Nat} {l:List (List D)} {x:V} (h:x.mark=true):x.ow n sz l=x:=by cases x <;> first | rfl | simp [V.mark] at h
theorem aR.ow1 {κ:Ctx} {n sz:Nat} {l:List (List D)} (ho:κ.o n=some ⟨XE,sz,κ.hv n⟩) (hr:bR κ.S (κ.hv n) (.sl sz l)) {v:Value} {x:V} (h:aR κ v x):aR κ v (x.ow1 n sz l):=by
  cases x with
  | tre m =>
    simp only [V.ow1]
    split
    · rename_i e; subst e
      have hv:v=κ.hv m:=by cases h with | tre h=>exact h.symm
      subst hv
      exact .osl ho hr
    · exact h
  | _=>exact h
theorem aZ.ow1 {κ:Ctx} {n sz:Nat} {l:List (List D)} (ho:κ.o n=some ⟨XE,sz,κ.hv n⟩) (hr:bR κ.S (κ.hv n) (.sl sz l)):∀ {vs:List Value} {xs:List V},aZ κ vs xs→aZ κ vs (xs.map (V.ow1 n sz l))
  | _,_,.nil=>.nil
  | _,_,.cons a r=>.cons (a.ow1 ho hr) (aZ.ow1 ho hr r)
theorem aR.ow {κ:Ctx} {n sz:Nat} {l:List (List D)} (ho:κ.o n=some ⟨XE,sz,κ.hv n⟩) (hr:bR κ.S (κ.hv n) (.sl sz l)) {v:Value} {x:V} (h:aR κ v x):aR κ v (x.ow n sz l):=by
  cases x with
  | agv c=>cases h with | agv h=>exact .agv (h.ow1 ho hr)
  | tup c=>cases h with | tup h=>exact .tup (h.ow1 ho hr)
  | _=>exact h.ow1 ho hr
theorem Mv.ow {κ κ':Ctx} {n sz:Nat} {l:List (List D)} (ho:κ'.o n=some ⟨XE,sz,κ'.hv n⟩) (hr:bR κ'.S (κ'.hv n) (.sl sz l)):∀ {c:List V},Mv κ κ' c c→Mv κ κ' c (c.map (V.ow n sz l))
  | [],_=>.nil
  | _::_,.cons a r=>.cons ⟨fun q=>⟨V.ow_mark q,(a.1 q).2⟩,fun v h=>(a.2 v h).ow ho hr⟩ (Mv.ow ho hr r)
def St.ownL (s:St) (n sz:Nat) (l:List (List D)):St:=if s.clean n then ⟨s.env.map fun p=>(p.1,p.2.ow n sz l),s.bx.map fun p=>(p.1,if p.1=n then [.trd] else p.2.map (V.ow n sz l))⟩ else s
def St.own (s:St) (n:Nat):St:=match bget s.bx n with
  | some [.trc sz l]=>s.ownL n sz l
  | some [.trs sz l]=>s.ownL n sz l
  | _=>s
theorem bJk (s:St) (n sz:Nat) (l:List (List D)) (hb0:bget s.bx n=some [.trc sz l]∨bget s.bx n=some [.trs sz l]):Wk s (s.ownL n sz l):=by
  unfold St.ownL
  split
  rotate_left
  · exact Wk.refl s
  rename_i hcl
  obtain ⟨cc,hb⟩:∃ c,bget s.bx n=some c:=by rcases hb0 with h | h <;> exact ⟨_,h⟩
  intro E N κ w a _ h
  have g:=h.good
  have hbk:=g.blk n (by simp [hb])
  -- the top row,the blocks in it
  obtain ⟨v,T,xs,C,hmt,hxs,hsub,hnd,hcb,hrest⟩:∃ (v:Value) (T:TypeId) (xs:List Value) (C:List Nat),κ.mt n=oZ T v∧sI w XE sz v l.length xs∧(∀ b∈κ.bl n,v.ownBlock=some b∨b∈C)∧(∀ b∈C,v.ownBlock≠some b∧b∈κ.bl n)∧(∀ b∈C,∃ cs T fr,w.heap[b]?=some (.cells cs T fr))∧(∀ b,v.ownBlock=some b→b∈κ.bl n) ∧
      ∀ S:Mem,κ.S.le S→(∀ b∈C,S b=mW w b)→(∀ b,v.ownBlock=some b→S b=xs)→bR S v (.sl sz l):=by
    rcases hb0 with hb0 | hb0
    · obtain ⟨_,v,T,hmt,hX⟩:=(g.box n _ hb0).toClosed
      have hblk:∀ b∈κ.bl n,∃ cs T fr,w.heap[b]?=some (.cells cs T fr):=fun b hb'=>by
        obtain ⟨cs,T2,fr,hh',_⟩:=hX.blk b hb'
        exact ⟨cs,T2,fr,hh'⟩
      refine ⟨v,T,?_⟩
      generalize κ.bl n=B at hX hbk hblk
      cases hX with
      | nil=>exact ⟨[],[],hmt,sI.nil _ _ _,by simp,by simp,by simp,by simp [Value.ownBlock],fun S _ _ _=>.nil _⟩
      | sl b len cap _ _ B cs T h1 h2 h3 h4 h5 h6 h7 =>
        subst h3
        have hn:=hbk.1
        simp only [List.nodup_cons] at hn
        have hl:(cs.toList.take (l.length * sz)).length=l.length * sz:=by
          simp only [QF,QJ,h2]
          have:=QI sz h4
          omega
        refine ⟨_,B,hmt,⟨hl,.inr ⟨b,cap,cs,T,rfl,h1,fun h=>absurd rfl h,h4,h5,h2,rfl⟩⟩,fun k hk=>?_,fun k hk=>⟨fun e=>?_,by simp [hk]⟩,fun k hk=>hblk k (by simp [hk]),fun k hk=>?_,fun S _ hS hS0=>?_⟩
        · rcases List.mem_cons.1 hk with rfl | hk
          · exact .inl rfl
          · exact .inr hk
        · simp [Value.ownBlock] at e; subst e; exact hn.1 hk
        · simp [Value.ownBlock] at hk; subst hk; simp
        · refine .sl b 0 l.length cap sz l _ rfl h4 h5 hl ?_ h6 (dZ.toD h7 hS)
          rw [hS0 b rfl,QG]; exact QA _
    · obtain ⟨_,v,T,hmt,hX⟩:=(g.box n _ hb0).toShallow
      refine ⟨v,T,?_⟩
      generalize κ.bl n=B at hX hbk
      cases hX with
      | nil e=>subst e; exact ⟨[],[],hmt,sI.nil _ _ _,by simp,by simp,by simp,by simp [Value.ownBlock],fun S _ _ _=>.nil _⟩
      | sl b cap cs T hh hsz hlc hcm hrow hX =>
        have hl:(cs.toList.take (l.length * sz)).length=l.length * sz:=by
          simp only [QF,QJ,hsz]
          have:=QI sz hlc
          omega
        refine ⟨_,[],hmt,⟨hl,.inr ⟨b,cap,cs,T,rfl,hh,fun h=>absurd rfl h,hlc,hcm,hsz,rfl⟩⟩,fun k hk=>?_,by simp,by simp,fun k hk=>?_,fun S hle hS hS0=>?_⟩
        · rw [List.mem_singleton] at hk; subst hk; exact .inl rfl
        · simp [Value.ownBlock] at hk; subst hk; simp
        · refine .sl b 0 l.length cap sz l _ rfl hlc hcm hl ?_ hrow (hX.mono hle)
          rw [hS0 b rfl,QG]; exact QA _
  have hv:κ.hv n=v:=by show (κ.mt n).2.2=v; rw [hmt]; exact wM _ _
  obtain ⟨hin,hrep⟩:=hrest
  obtain ⟨κ',hκ⟩:∃ k:Ctx,k=⟨fun b=>if v.ownBlock=some b then xs else if b∈C then mW w b else κ.S b,κ.mt,upd κ.o n (some ⟨XE,sz,v⟩),fun m=>if m=n then [] else κ.bl m⟩:=⟨_,rfl⟩
  have hSt:∀ b,v.ownBlock=some b→κ'.S b=xs:=fun b h=>by rw [hκ]; exact if_pos h
  have hSc:∀ b∈C,κ'.S b=mW w b:=fun b h=>by rw [hκ]; show (if v.ownBlock=some b then xs else if b∈C then mW w b else κ.S b)=_; rw [if_neg (hnd b h).1,if_pos h]
  have hSo:∀ b,b∉κ.bl n→κ'.S b=κ.S b:=fun b h=>by
    rw [hκ]; show (if v.ownBlock=some b then xs else if b∈C then mW w b else κ.S b)=_
    rw [if_neg fun e=>h (hin b e),if_neg fun e=>h (hnd b e).2]
  have hm:∀ k,κ'.mt k=κ.mt k:=fun k=>by rw [hκ]
  have ho:∀ k,k≠n→κ'.o k=κ.o k:=fun k hk=>by rw [hκ]; exact jI _ _ _ hk
  have hon:κ'.o n=some ⟨XE,sz,v⟩:=by rw [hκ]; exact upd_same _ _ _
  have hbn:κ'.bl n=[]:=by rw [hκ]; exact if_pos rfl
  have hbo:∀ m,m≠n→κ'.bl m=κ.bl m:=fun m e=>by rw [hκ]; exact if_neg e
  clear hκ
  have hv':κ'.hv n=v:=(congrArg (fun p=>p.2.2) (hm n)).trans hv
  have hle:κ.S.le κ'.S:=fun b=>by
    by_cases hb':b∈κ.bl n
    · rw [(hbk.2 b hb').1]; exact QH
    · rw [hSo b hb']; exact QA _
  have hR:bR κ'.S (κ'.hv n) (.sl sz l):=by rw [hv']; exact hrep _ hle hSc hSt
  have hO:κ'.o n=some ⟨XE,sz,κ'.hv n⟩:=by rw [hv']; exact hon
  have mv:∀ {u:Value} {x:V},aR κ u x→x.noTok n=true→aR κ' u x:=fun hr hx=>hr.move hle (V.fits_o hm ho _ hx)
  refine ⟨κ',h.size,h.defers,fun k=>?_,?_⟩
  · show aR κ' _ (lk (s.env.map fun p=>(p.1,p.2.ow n sz l)) k)
    rw [aK9 (V.ow n sz l) rfl]
    exact (mv (h.env k) (St.clean_env hcl k)).ow hO hR
  · have hget:∀ {m c},bget (s.bx.map fun p=>(p.1,if p.1=n then [V.trd] else p.2.map (V.ow n sz l))) m=some c→∃ c0,bget s.bx m=some c0∧c=if m=n then [V.trd] else c0.map (V.ow n sz l):=fun {m c} hc=>by
      rw [aPv (fun m c=>if m=n then [V.trd] else c.map (V.ow n sz l))] at hc
      obtain ⟨c0,h0,rfl⟩:=QD.1 hc
      exact ⟨c0,h0,rfl⟩
    refine g.patch (fun b=>b∈κ.bl n) (fun m=>m=n) (fun t=>t=n) rfl rfl rfl (QB _) (fun b hb'=>(hbk.2 b hb').2.2) (fun b hb'=>⟨rfl,hSo b hb'⟩) (fun b _=>(g.frm.le b).trans (hle b)) (fun b _=>(g.tab b).trans (hle b))
      (fun b hb' hne=>?_) (fun _ _=>hm _) (fun m c hc hs=>?_) (fun m c hc hs=>?_) (fun m m' b _ _ hs _ hb' _=>?_) (fun t o ht hne=>⟨(ho t hne).symm.trans ht,fun b hbb hb'=>?_⟩) (fun t o ht hs=>?_) (fun t t' _ _ _ _ _ hs hs' _ _=>hs.trans hs'.symm)
    · rcases hsub b hb' with e | e
      · rw [hSt b e]
        obtain ⟨_,hO2⟩:=hxs
        rcases hO2 with ⟨h0,_⟩ | ⟨gg,cap,cur,T2,h0,⟨fr,hh,_⟩,_,_,_,_,ht⟩
        · rw [h0] at e; simp [Value.ownBlock] at e
        · rw [h0] at e; simp [Value.ownBlock] at e; subst e
          exact ⟨cur,T2,fr,hh,by rw [← ht]; exact List.take_prefix _ _⟩
      · rw [hSc b e]
        obtain ⟨cs,T2,fr,hh⟩:=hcb b e
        exact ⟨cs,T2,fr,hh,by simp only [mW,hh]; exact QA _⟩
    · obtain ⟨c0,h0,rfl⟩:=hget hc
      rw [if_neg hs]
      refine ⟨c0,h0,hm m,hbo m hs,Mv.ow hO hR (Mv.fits hle (V.fitss_o hm ho _ (St.clean_bx hcl h0))),fun b hb1 hb2=>hs (g.inj m n b (by simp [h0]) (by simp [hb]) hb1 hb2)⟩
    · subst hs
      obtain ⟨c0,h0,rfl⟩:=hget hc
      rw [if_pos rfl]
      exact ⟨.dead hbn,by rw [hbn]; simp,fun b hb'=>by rw [hbn] at hb'; simp at hb'⟩
    · subst hs; rw [hbn] at hb'; simp at hb'
    · exact ((g.own t o ((ho t hne).symm.trans ht)).2 b hbb).2 n (by simp [hb]) hb'
    · subst hs
      rw [hon] at ht
      simp only [QC] at ht
      subst ht
      refine ⟨⟨l.length,xs,hxs,fun b e=>hSt b e⟩,fun b e=>⟨hin b e,fun m _ hm' hbm=>?_⟩⟩
      subst hm'; rw [hbn] at hbm; simp at hbm
theorem cA7 (s:St) (n:Nat):Wk s (s.own n):=by
  unfold St.own
  split
  · rename_i h; exact bJk s n _ _ (.inl h)
  · rename_i h; exact bJk s n _ _ (.inr h)
  · exact Wk.refl s
mutual
def V.prp (n:Nat) (c:List D):V→V
  | .ptr m off=>if m=n then .rp (c.drop off) else .ptr m off
  | .agv l=>.agv (V.prps n c l)
  | .tup l=>.tup (V.prps n c l)
  | .fn f l=>.fn f (V.prps n c l)
  | v=>v
def V.prps (n:Nat) (c:List D):List V→List V
  | []=>[]
  | v::l=>v.prp n c::V.prps n c l
end
def St.fzb (s:St) (n:Nat):St:=match bget s.bx n with
  | some c=>match V.asDs c with
    | some ds=>if nU c then ⟨s.env.map fun p=>(p.1,p.2.prp n ds),s.bx.map fun p=>(p.1,if p.1=n then [.trd] else V.prps n ds p.2)⟩ else s
    | none=>s
  | none=>s
mutual
theorem aR.prp {κ κ':Ctx} {n:Nat} {c:List D} (hS:κ.S.le κ'.S) (hm:∀ k,κ'.mt k=κ.mt k) (ho:∀ k,κ'.o k=κ.o k) (hc:bP κ'.S (κ'.S (κ.m n)) c):∀ (x:V) {v:Value},aR κ v x→aR κ' v (x.prp n c)
  | .ptr m off,v,h=>by
    simp only [V.prp]
    split
    · rename_i e; subst e
      cases h with | ptr =>
      exact .rp (QA _) (hc.drop off)
    · exact h.move hS (V.fits_eq hm ho _)
  | .agv l,v,h=>by cases h with | agv h=>exact .agv (aZ.prp hS hm ho hc l h)
  | .tup l,v,h=>by cases h with | tup h=>exact .tup (aZ.prp hS hm ho hc l h)
  | .fn f l,v,h=>by
    cases h with
    | fn k h=>exact .fn k (aZ.prp hS hm ho hc l h)
    | fnm h=>exact .fnm (aZ.prp hS hm ho hc l h)
  | .top,_,h | .und,_,h | .d _,_,h | .agg _,_,h | .nil _,_,h | .osl ..,_,h | .tre _,_,h | .msl ..,_,h | .rp _,_,h | .np,_,h | .nf,_,h | .bp ..,_,h | .ite ..,_,h | .trp ..,_,h | .trc ..,_,h | .tro ..,_,h | .trd,_,h | .trs ..,_,h =>
    h.move hS (V.fits_eq hm ho _)
theorem aZ.prp {κ κ':Ctx} {n:Nat} {c:List D} (hS:κ.S.le κ'.S) (hm:∀ k,κ'.mt k=κ.mt k) (ho:∀ k,κ'.o k=κ.o k) (hc:bP κ'.S (κ'.S (κ.m n)) c):∀ (x:List V) {v:List Value},aZ κ v x→aZ κ' v (V.prps n c x)
  | [],_,h=>by cases h; exact .nil
  | x::l,_,h=>by cases h with | cons a r=>exact .cons (aR.prp hS hm ho hc x a) (aZ.prp hS hm ho hc l r)
end
theorem V.prp_mark {n:Nat} {c:List D} {x:V} (h:x.mark=true):x.prp n c=x:=by cases x <;> first | rfl | simp [V.mark] at h
theorem Mv.prp {κ κ':Ctx} {n:Nat} {d:List D} (hS:κ.S.le κ'.S) (hm:∀ k,κ'.mt k=κ.mt k) (ho:∀ k,κ'.o k=κ.o k) (hc:bP κ'.S (κ'.S (κ.m n)) d):∀ c:List V,Mv κ κ' c (V.prps n d c)
  | []=>.nil
  | x::c=>.cons ⟨fun q=>⟨V.prp_mark q,fun _=>hS⟩,fun _ h=>aR.prp hS hm ho hc x h⟩ (Mv.prp hS hm ho hc c)
theorem cJn (s:St) (n:Nat):Wk s (s.fzb n):=by
  unfold St.fzb
  split
  case h_2=>exact Wk.refl s
  rename_i c hb
  split
  case h_2=>exact Wk.refl s
  rename_i ds hd
  split
  case isFalse=>exact Wk.refl s
  rename_i hp
  intro E N κ w a _ h
  have g:=h.good
  obtain ⟨cs,hcs,hrep,hbl0⟩:=(g.box n c hb).toPlain hp
  have hbk:=(g.blk n (by simp [hb])).2 (κ.m n) (by rw [hbl0]; simp)
  obtain ⟨κ',hκ⟩:∃ k:Ctx,k=⟨fun b=>if b=κ.m n then cs.toList else κ.S b,κ.mt,κ.o,fun m=>if m=n then [] else κ.bl m⟩:=⟨_,rfl⟩
  have hSi:κ'.S (κ.m n)=cs.toList:=by rw [hκ]; exact if_pos rfl
  have hSo:∀ {b},b≠κ.m n→κ'.S b=κ.S b:=fun h=>by rw [hκ]; exact if_neg h
  have hm:∀ k,κ'.mt k=κ.mt k:=fun k=>by rw [hκ]
  have ho:∀ k,κ'.o k=κ.o k:=fun k=>by rw [hκ]
  have hbl:∀ m,κ'.bl m=if m=n then [] else κ.bl m:=fun m=>by rw [hκ]
  clear hκ
  have hle:κ.S.le κ'.S:=fun b=>by
    by_cases e:b=κ.m n
    · subst e; rw [hbk.1]; exact QH
    · rw [hSo e]; exact QA _
  have hc:bP κ'.S (κ'.S (κ.m n)) ds:=by rw [hSi]; exact (hrep.asDs hd).mono hle
  refine ⟨κ',h.size,h.defers,fun k=>?_,?_⟩
  · show aR κ' _ (lk (s.env.map fun p=>(p.1,p.2.prp n ds)) k)
    rw [aK9 (V.prp n ds) rfl]
    exact aR.prp hle hm ho hc _ (h.env k)
  · have hget:∀ {m d},bget (s.bx.map fun p=>(p.1,if p.1=n then [.trd] else V.prps n ds p.2)) m=some d→∃ c0,bget s.bx m=some c0∧d=if m=n then [.trd] else V.prps n ds c0:=fun {m d} hd=>by
      rw [aPv (fun m c=>if m=n then [.trd] else V.prps n ds c)] at hd
      obtain ⟨c0,h0,rfl⟩:=QD.1 hd
      exact ⟨c0,h0,rfl⟩
    refine g.patch (fun b=>b=κ.m n) (fun m=>m=n) (fun _=>False) rfl rfl rfl (QB _) (fun b hb=>by subst hb; exact hbk.2.2) (fun b hb=>⟨rfl,hSo hb⟩) (fun b _=>(g.frm.le b).trans (hle b)) (fun b _=>(g.tab b).trans (hle b))
      (fun b hb _=>?_) (fun n _=>hm n) (fun m d hd hs=>?_) (fun m d hd hs=>?_) (fun m m' b _ _ hs hs' hb _=>?_) (fun t o ht _=>⟨by rw [← ho]; exact ht,fun b hb hbb=>?_⟩) (fun _ _ _ h=>h.elim) (fun _ _ _ _ _ _ _ h=>h.elim)
    · subst hb
      exact ⟨cs,κ.ty n,(0,0),hcs,by rw [hSi]; exact QA _⟩
    · obtain ⟨c0,h0,rfl⟩:=hget hd
      rw [if_neg hs]
      refine ⟨c0,h0,hm m,by rw [hbl,if_neg hs],Mv.prp hle hm ho hc _,fun b hb' hbb=>?_⟩
      subst hbb
      exact hs (g.inj m n _ (by simp [h0]) (by simp [hb]) hb' (by rw [hbl0]; simp))
    · obtain ⟨c0,h0,rfl⟩:=hget hd
      rw [if_pos hs]
      subst hs
      have e:κ'.bl m=[]:=by rw [hbl,if_pos rfl]
      exact ⟨.dead e,by rw [e]; simp,fun b hb=>by rw [e] at hb; simp at hb⟩
    · rw [hbl,if_pos hs] at hb; simp at hb
    · subst hbb
      exact ((g.own t o (by rw [← ho]; exact ht)).2 _ hb).2 n (by simp [*]) (by rw [hbl0]; simp)
inductive Tw where
  | clo (n:Nat)
  | frz (br:List Nat)
  | rn (τ:List (Nat×Nat))
  | ne (t j n:Nat)
  | nb (m j n:Nat)
  | ns (m j n:Nat)
  | kl (n:Nat)
  | own (n:Nat)
  | fzb (n:Nat)
def St.tw (s:St):List Tw→St
  | []=>s
  | .clo n::l=>(s.clo n).tw l
  | .frz br::l=>(s.frz br).tw l
  | .rn τ::l=>(s.rnT τ).tw l
  | .ne t j n::l=>(s.nlE t j n).tw l
  | .nb m j n::l=>(s.nlB false m j n).tw l
  | .ns m j n::l=>(s.nlB true m j n).tw l
  | .kl n::l=>(s.kl n).tw l
  | .own n::l=>(s.own n).tw l
  | .fzb n::l=>(s.fzb n).tw l
theorem vE:∀ (l:List Tw) (s:St),Wk s (s.tw l)
  | [],s=>Wk.refl s
  | .clo n::l,s=>(cHt s n).trans (vE l _)
  | .frz br::l,s=>(cD5 s br).trans (vE l _)
  | .rn τ::l,s=>(bU5 s τ).trans (vE l _)
  | .ne t j n::l,s=>(cHp s t j n).trans (vE l _)
  | .nb m j n::l,s=>(bHl s false m j n).trans (vE l _)
  | .ns m j n::l,s=>(bHl s true m j n).trans (vE l _)
  | .kl n::l,s=>(bT6 s n).trans (vE l _)
  | .own n::l,s=>(cA7 s n).trans (vE l _)
  | .fzb n::l,s=>(cJn s n).trans (vE l _)
theorem tw {s s':St} (l:List Tw) (h:Wk (s.tw l) s'):Wk s s':=(vE l s).trans h
theorem bt_ {ρ:List (Nat×Tk)} {n sz:Nat} {s:St} {R R0:List (List D)} {l:List (Nat×List V)} (he:R0=R) (ht:bxR ρ s l) (h:bget s.bx n=some [.trc sz R0]:=by kernel_rfl):bxR ρ s ((n,[.trc sz R])::l):=by
  subst he
  exact bCl h rfl ht
theorem aDw {α:Type} {l:List α} {k:Nat} {x:α} {f g:α→List D} (hfg:∀ x,f x=g x):(l.map f).set k (g x)=(l.set k x).map f:=by rw [← hfg,List.map_set]
end Go.Ab
