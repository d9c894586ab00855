/- What a state may be taken for: rows closed,trees taken for data,boxes under other names. -/
import Derived.Test.YtcbkkemcgcdhdaaGreatAbT4
namespace Go.Ab
open Go Go.RowKit
open _root_.List renaming map_cons→QA,mem_map→QB,mem_flatMap→QE,mem_filter→QF,prefix_refl→QG
open _root_.Option renaming isSome_iff_exists→QC
open _root_.Bool renaming and_eq_true→QD
open _root_.Nat renaming le_refl→QH
def St.clo (s:St) (n:Nat):St:=match bget s.bx n with
  | some (.tro sz i l::cells)=>match pK s.bx cells with
    | some (ds,dead)=>if nodupB dead&&ds.length==sz then ⟨s.env,kill (fC s.bx n [.trc sz (l.set i ds)]) dead⟩ else s
    | none=>s
  | _=>s
theorem cHt (s:St) (n:Nat):Wk s (s.clo n):=by
  unfold St.clo
  split
  · rename_i sz i l cells hb
    split
    · rename_i ds dead hc
      split
      · rename_i h
        simp only [QD,beq_iff_eq] at h
        exact fun E N κ w a _ hok=>hok.closeRow hb hc (aJ5 h.1) h.2
      · exact Wk.refl s
    · exact Wk.refl s
  · exact Wk.refl s
def St.frz (s:St) (br:List Nat):St:=⟨s.env.map fun p=>(p.1,p.2.bor (lV s.bx br)),s.bx.map fun p=>(p.1,if (lV s.bx br p.1).isSome then [.trd] else V.bors (lV s.bx br) p.2)⟩
theorem aK9 (f:V→V) (hf:f .top=.top):∀ (l:List (Nat×V)) (n:Nat),lk (l.map fun p=>(p.1,f p.2)) n=f (lk l n)
  | [],n=>by simp [lk,hf]
  | (m,v)::l,n=>by
    simp only [QA,lk]
    split
    · rfl
    · exact aK9 f hf l n
theorem aPv (f:Nat→List V→List V):∀ (l:List (Nat×List V)) (n:Nat),bget (l.map fun p=>(p.1,f p.1 p.2)) n=(bget l n).map (f n)
  | [],n=>rfl
  | (m,v)::l,n=>by
    simp only [QA,bget]
    split
    · rename_i e; subst e; rfl
    · exact aPv f l n
theorem V.bor_mark {β:Nat→Option D} {x:V} (h:x.mark=true):x.bor β=x:=by cases x <;> first | rfl | simp [V.mark] at h
theorem Mv.bor {κ κ':Ctx} {β:Nat→Option D} (hS:κ.S.le κ'.S) (hm:∀ k,κ'.mt k=κ.mt k) (ho:∀ k,κ'.o k=κ.o k) (hβ:∀ n x,β n=some x→bR κ'.S (κ.hv n) x):∀ c:List V,Mv κ κ' c (V.bors β c)
  | []=>.nil
  | x::c=>.cons ⟨fun q=>⟨V.bor_mark q,fun _=>hS⟩,fun _ h=>aR.bor hS hm ho hβ x h⟩ (Mv.bor hS hm ho hβ c)
theorem cD5 (s:St) (br:List Nat):Wk s (s.frz br):=by
  intro E N κ w a _ h
  have g:=h.good
  have hb_:∀ {n x},lV s.bx br n=some x→n∈br∧∃ sz l cc,bget s.bx n=some cc∧(cc=[.trc sz l]∨cc=[.trs sz l])∧x=.sl sz l:=fun {n x} hx=>bNa hx
  let BB:List Nat:=(br.filter fun n=>(lV s.bx br n).isSome).flatMap κ.bl
  have hBB:∀ {b},b∈BB→∃ n sz l cc,(lV s.bx br n)=some (.sl sz l)∧bget s.bx n=some cc∧(cc=[.trc sz l]∨cc=[.trs sz l])∧b∈κ.bl n:=fun {b} hb=>by
    obtain ⟨n,hn,hb⟩:=QE.1 hb
    obtain ⟨x,hx⟩:=QC.1 (QF.1 hn).2
    obtain ⟨_,sz,l,cc,h1,hcc,rfl⟩:=hb_ hx
    exact ⟨n,sz,l,cc,hx,h1,hcc,hb⟩
  have hBB':∀ {n x b},lV s.bx br n=some x→b∈κ.bl n→b∈BB:=fun {n x b} hx hb=>QE.2 ⟨n,QF.2 ⟨(hb_ hx).1,by rw [hx]; rfl⟩,hb⟩
  obtain ⟨κ',hκ⟩:∃ k:Ctx,k=⟨fun b=>if b∈BB then mW w b else κ.S b,κ.mt,κ.o,fun m=>if (lV s.bx br m).isSome then [] else κ.bl m⟩:=⟨_,rfl⟩
  have hSi:∀ {b},b∈BB→κ'.S b=mW w b:=fun h=>by rw [hκ]; exact if_pos h
  have hSo:∀ {b},b∉BB→κ'.S b=κ.S b:=fun h=>by rw [hκ]; exact if_neg h
  have hm:∀ k,κ'.mt k=κ.mt k:=fun k=>by rw [hκ]
  have ho:∀ k,κ'.o k=κ.o k:=fun k=>by rw [hκ]
  have hbl:∀ m,κ'.bl m=if (lV s.bx br m).isSome then [] else κ.bl m:=fun m=>by rw [hκ]
  clear hκ
  have hS0:∀ {b},b∈BB→κ.S b=[]∧(E.may b∨E.w.heap.size≤b)∧∃ cs T,Row (fun k=>w.heap[k]?) b cs T:=fun {b} hb=>by
    obtain ⟨n,sz,l,cc,_,h2,hcc,h3⟩:=hBB hb
    have:=(g.blk n (by simp [h2])).2 b h3
    obtain ⟨v,T,_,h4,_⟩:=(g.box n _ h2).toTr hcc
    exact ⟨this.1,this.2.2,h4 b h3⟩
  have hle:κ.S.le κ'.S:=fun b=>by
    by_cases h:b∈BB
    · rw [(hS0 h).1]; exact List.nil_prefix
    · rw [hSo h]; exact QG _
  have hβ:∀ n x,lV s.bx br n=some x→bR κ'.S (κ.hv n) x:=fun n x hx=>by
    obtain ⟨_,sz,l,cc,h2,hcc,rfl⟩:=hb_ hx
    obtain ⟨v,T,h3,_,h4⟩:=(g.box n _ h2).toTr hcc
    have hv:κ.hv n=v:=by show (κ.mt n).2.2=v; rw [h3]; exact wM _ _
    rw [hv]
    exact h4 _ hle fun b hb=>hSi (hBB' hx hb)
  refine ⟨κ',h.size,h.defers,fun k=>?_,?_⟩
  · show aR κ' _ (lk (s.env.map fun p=>(p.1,p.2.bor (lV s.bx br))) k)
    rw [aK9 (V.bor (lV s.bx br)) rfl]
    exact aR.bor hle hm ho hβ _ (h.env k)
  · have hget:∀ {n c},bget (s.frz br).bx n=some c→∃ c0,bget s.bx n=some c0∧c=if (lV s.bx br n).isSome then [.trd] else V.bors (lV s.bx br) c0:=fun {n c} hc=>by
      simp only [St.frz] at hc
      rw [aPv (fun m c=>if (lV s.bx br m).isSome then [.trd] else V.bors (lV s.bx br) c)] at hc
      obtain ⟨c0,h0,rfl⟩:=Option.map_eq_some_iff.1 hc
      exact ⟨c0,h0,rfl⟩
    refine g.patch (fun b=>b∈BB) (fun n=>(lV s.bx br n).isSome=true) (fun _=>False) rfl rfl rfl (QH _) (fun b hb=>(hS0 hb).2.1) (fun b hb=>⟨rfl,hSo hb⟩) (fun b _=>(g.frm.le b).trans (hle b)) (fun b _=>(g.tab b).trans (hle b))
      (fun b hb _=>?_) (fun n _=>hm n) (fun n c hc hs=>?_) (fun n c hc hs=>?_) (fun n n' b _ _ hs hs' hb _=>?_) (fun t o ht _=>⟨by rw [← ho]; exact ht,fun b hb hbb=>?_⟩) (fun _ _ _ h=>h.elim) (fun _ _ _ _ _ _ _ h=>h.elim)
    · obtain ⟨cs,T,fr,hh',_⟩:=(hS0 hb).2.2
      have hh:w.heap[b]?=some (.cells cs T fr):=hh'
      exact ⟨cs,T,fr,hh,by rw [hSi hb]; simp only [mW,hh]; exact QG _⟩
    · obtain ⟨c0,h0,rfl⟩:=hget hc
      rw [if_neg hs]
      refine ⟨c0,h0,hm n,by rw [hbl,if_neg hs],Mv.bor hle hm ho hβ _,fun b hb hbb=>?_⟩
      obtain ⟨m,sz,l,cc,h1,h2,_,h3⟩:=hBB hbb
      have e:=g.inj n m b (by simp [h0]) (by simp [h2]) hb h3
      subst e
      rw [h1] at hs; exact hs rfl
    · obtain ⟨c0,h0,rfl⟩:=hget hc
      rw [if_pos hs]
      have e:κ'.bl n=[]:=by rw [hbl,if_pos hs]
      exact ⟨.dead e,by rw [e]; simp,fun b hb=>by rw [e] at hb; simp at hb⟩
    · rw [hbl,if_pos hs] at hb; simp at hb
    · obtain ⟨m,sz,l,cc,h1,h2,_,h3⟩:=hBB hbb
      exact ((g.own t o (by rw [← ho]; exact ht)).2 b hb).2 m (by simp [h2]) h3
def aVi:Option (List V)→Bool
  | some [.trd]=>true
  | _=>false
def St.live (s:St):List (Nat×List V):=s.bx.filter fun p=>!aVi (bget s.bx p.1)
def rnv (L:List Nat) (τ:List (Nat×Nat)) (v:V):V:=if v.ptrsIn L then v.rn (fwd τ) some else .top
def bFu (L:List Nat) (τ:List (Nat×Nat)):Bool:=nodupB (τ.map (·.1))&&(nodupB (τ.map (·.2))&&τ.all fun p=>Nat.ble NX p.2&&!L.contains p.2)
def St.rnT (s:St) (τ:List (Nat×Nat)):St:=if bFu (s.live.map (·.1)) τ then
  ⟨s.env.map fun p=>(p.1,rnv (s.live.map (·.1)) τ p.2),s.live.map fun p=>(fwd τ p.1,p.2.map (rnv (s.live.map (·.1)) τ))⟩ else s
theorem bNe (s:St) (n:Nat):bget s.live n=if !aVi (bget s.bx n) then bget s.bx n else none:=by
  have key:∀ (q:Nat→Bool) (l:List (Nat×List V)),bget (l.filter fun p=>q p.1) n=if q n then bget l n else none:=by
    intro q l
    induction l with
    | nil=>simp [bget]
    | cons x l ih =>
      obtain ⟨m,v⟩:=x
      simp only [List.filter_cons]
      by_cases hq:q m=true
      · rw [if_pos hq]
        simp only [bget]
        by_cases e:n=m
        · subst e; rw [if_pos rfl,if_pos hq,if_pos rfl]
        · rw [if_neg e,if_neg e]; exact ih
      · rw [if_neg hq,ih]
        by_cases e:n=m
        · subst e; rw [if_neg hq,if_neg hq]
        · simp only [bget,if_neg e]
  exact key (fun m=>!aVi (bget s.bx m)) s.bx
theorem bU5 (s:St) (τ:List (Nat×Nat)):Wk s (s.rnT τ):=by
  unfold St.rnT
  split
  rotate_left
  · exact Wk.refl s
  rename_i hok
  obtain ⟨L,hL⟩:∃ L,L=s.live.map (·.1):=⟨_,rfl⟩
  rw [← hL] at hok ⊢
  simp only [bFu,QD,List.all_eq_true,Bool.not_eq_true',List.contains_eq_mem,decide_eq_false_iff_not] at hok
  obtain ⟨h1,h2,h3⟩:=hok
  intro E N κ w a hfb h
  have g:=h.good
  let κ':Ctx:=⟨κ.S,fun m=>κ.mt (bwd τ m),κ.o,fun m=>κ.bl (bwd τ m)⟩
  have hle:κ.S.le κ'.S:=Mem.le_refl _
  have hbf:∀ n∈L,bwd τ (fwd τ n)=n:=fun n hn=>by
    by_cases hm:n∈τ.map (·.1)
    · have e1:=aGa hm
      have e2:=bC1 h1 h2 (n:=fwd τ n) (QB.2 ⟨_,e1,rfl⟩)
      exact aV7 h2 e2.2 hm e2.1
    · have e1:fwd τ n=n:=by
        clear h1 h2 h3 hle κ'
        induction τ with
        | nil=>rfl
        | cons p τ ih =>
          obtain ⟨x,y⟩:=p
          simp only [QA,List.mem_cons,not_or] at hm
          simp only [fwd,if_neg hm.1]
          exact ih hm.2
      rw [e1]
      refine aXg fun hm2=>?_
      obtain ⟨p,hp,rfl⟩:=QB.1 hm2
      exact (h3 p hp).2 hn
  have hmm:∀ n∈L,κ'.mt (fwd τ n)=κ.mt n:=fun n hn=>by show κ.mt (bwd τ (fwd τ n))=_; rw [hbf n hn]
  have hrv:∀ {v:Value} {x:V},aR κ v x→aR κ' v (rnv L τ x):=fun {v x} hr=>by
    unfold rnv
    split
    · rename_i hp; exact hr.rn (κ':=κ') hle hmm (fun t t' e _=>by simp at e; subst e; rfl) hp
    · exact .top _
  have hmk:∀ {x:V},x.mark=true→rnv L τ x=x:=fun {x} hx=>by
    have:x.ptrsIn L=true:=by cases x <;> first | rfl | simp [V.mark] at hx
    unfold rnv
    rw [if_pos this,V.rn_mark hx]
  have hmv:∀ c:List V,Mv κ κ' c (c.map (rnv L τ)):=fun c=>by
    induction c with
    | nil=>exact .nil
    | cons x c ih=>exact .cons ⟨fun q=>⟨hmk q,fun _=>hle⟩,fun _ h=>hrv h⟩ ih
  have hget:∀ {m c},bget (s.live.map fun p=>(fwd τ p.1,p.2.map (rnv L τ))) m=some c→∃ n c0,n∈L∧m=fwd τ n∧bget s.bx n=some c0∧c=c0.map (rnv L τ):=by
    intro m c hc
    have key:∀ (l:List (Nat×List V)),(∀ p∈l,p.1∈L)→bget (l.map fun p=>(fwd τ p.1,p.2.map (rnv L τ))) m=some c→∃ n c0,n∈L∧m=fwd τ n∧bget l n=some c0∧c=c0.map (rnv L τ):=by
      intro l
      induction l with
      | nil=>intro _ h; simp [bget] at h
      | cons p l ih =>
        obtain ⟨k,d⟩:=p
        intro hl hc
        simp only [QA,bget] at hc
        split at hc
        · rename_i e
          simp at hc
          exact ⟨k,d,hl (k,d) (by simp),e,by simp [bget],hc.symm⟩
        · rename_i e
          obtain ⟨n,c0,k1,k2,k3,k4⟩:=ih (fun p hp=>hl p (by simp [hp])) hc
          exact ⟨n,c0,k1,k2,by simp only [bget]; rw [if_neg fun e2=>e (by rw [k2,e2])]; exact k3,k4⟩
    obtain ⟨n,c0,k1,k2,k3,k4⟩:=key s.live (fun p hp=>by rw [hL]; exact QB.2 ⟨p,hp,rfl⟩) hc
    refine ⟨n,c0,k1,k2,?_,k4⟩
    rw [bNe] at k3
    split at k3
    · exact k3
    · simp at k3
  refine ⟨κ',h.size,h.defers,fun k=>?_,?_⟩
  · show aR κ' _ (lk (s.env.map fun p=>(p.1,rnv L τ p.2)) k)
    rw [aK9 (rnv L τ) (by unfold rnv; split <;> rfl)]
    exact hrv (h.env k)
  · refine g.patch (fun b=>∃ n,(bget s.bx n).isSome=true∧b∈κ.bl n) (fun _=>True) (fun _=>False) rfl rfl rfl (QH _) (fun b ⟨n,hn,hb⟩=>((g.blk n hn).2 b hb).2.2) (fun _ _=>⟨rfl,rfl⟩) (fun b _=>g.frm.le b) (fun b _=>g.tab b)
      (fun b _ hn=>g.mem b hn) (fun n hn=>?_) (fun _ _ _ h=>absurd trivial h) (fun m c hc _=>?_) (fun m m' b hm hm' _ _ hb hb'=>?_) (fun t o ht _=>⟨ht,fun b hb ⟨n,hn,hbn⟩=>((g.own t o ht).2 b hb).2 n hn hbn⟩) (fun _ _ _ h=>h.elim) (fun _ _ _ _ _ _ _ h=>h.elim)
    · show κ.mt (bwd τ n)=κ.mt n
      rw [aXg fun hm=>?_]
      obtain ⟨p,hp,rfl⟩:=QB.1 hm
      have:=Nat.le_of_ble_eq_true (h3 p hp).1
      have:=(hfb _ hn).2
      omega
    · obtain ⟨n,c0,k1,rfl,k3,rfl⟩:=hget hc
      have e:κ'.bl (fwd τ n)=κ.bl n:=by show κ.bl (bwd τ (fwd τ n))=_; rw [hbf n k1]
      obtain ⟨j1,j2⟩:=g.blk n (by simp [k3])
      refine ⟨(g.box n c0 k3).mv (hmv c0) (hmm n k1) e fun _ _=>rfl,by rw [e]; exact j1,fun b hb=>?_⟩
      rw [e] at hb
      exact ⟨⟨n,by simp [k3],hb⟩,(j2 b hb).1,(j2 b hb).2.1⟩
    · obtain ⟨c,hc⟩:=QC.1 hm
      obtain ⟨c',hc'⟩:=QC.1 hm'
      obtain ⟨n,c0,k1,rfl,k3,_⟩:=hget hc
      obtain ⟨n',c0',k1',rfl,k3',_⟩:=hget hc'
      have e:κ'.bl (fwd τ n)=κ.bl n:=by show κ.bl (bwd τ (fwd τ n))=_; rw [hbf n k1]
      have e':κ'.bl (fwd τ n')=κ.bl n':=by show κ.bl (bwd τ (fwd τ n'))=_; rw [hbf n' k1']
      rw [e] at hb
      rw [e'] at hb'
      rw [g.inj n n' b (by simp [k3]) (by simp [k3']) hb hb']
end Go.Ab
