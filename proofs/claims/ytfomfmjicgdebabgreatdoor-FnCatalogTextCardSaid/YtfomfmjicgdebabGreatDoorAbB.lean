/- The functions of strings.Builder: contracts over abstract values,out of what they do in memory. -/
import Derived.Test.YtfomfmjicgdebabGreatDoorAbC1
namespace Go.Ab
open Go Go.RowKit
theorem aPc {κ:Ctx} {cargs:List Value} {k:Nat} (h:aX κ cargs [.ptr k 0]):cargs.toArray=#[.pointer (some ⟨κ.m k,0,none⟩)]:=by
  cases h with | cons a r=>cases r; cases a; rfl
theorem bFj {P : Program} {f : FuncId} {U : TypeId} {n : Nat} (k : Nat) (rest : List V)
    (hused:∀ (b:Nat) (w:World),w.cell? ⟨b,0,none⟩=some (.pointer (some ⟨b,0,none⟩))→Calls P f #[.pointer (some ⟨b,0,none⟩)] w fun e w'=>e=.returned (.tuple #[])∧w'=w)
    (hfresh:∀ (b:Nat) (w:World) (cs:Array Value),w.heap[b]?=some (.cells cs U (0,0))→cs.size=n→cs[0]?=some (.pointer none) →
      Calls P f #[.pointer (some ⟨b,0,none⟩)] w fun e w'=>e=.returned (.tuple #[])∧w'=w.setCell ⟨b,0,none⟩ (.pointer (some ⟨b,0,none⟩)))
    (hn:rest.length+1=n):eX P f [.ptr k 0] [(k,.bp k U::rest)] fun x fb=>x=.tup []∧dI [(k,.bp k U::rest)] fb:=by
  intro κ w cargs may hg hrep
  rw [aPc hrep]
  have hk:bget [(k,.bp k U::rest)] k=some (.bp k U::rest):=by simp [bget]
  obtain ⟨cs,hh,hcs,hbl,hS,hE⟩:=hg.plain hk rfl
  have hsz:cs.size=n:=by rw [← hn,← Array.length_toList,hcs.length]; rfl
  obtain ⟨v0,hv0,hr0⟩:=hcs.get (n:=0) (x:=.bp k U) rfl
  have hv0':cs[0]?=some v0:=by simpa using hv0
  have hcell:w.cell? ⟨κ.m k,0,none⟩=cs[0]?:=cell_of_row w (κ.m k) 0 cs (κ.ty k) (0,0) hh
  have fin : ∀ w' : World, Good ⟨κ, w, [(k, .bp k U :: rest)].map (·.1), may⟩ κ w' [(k, .bp k U :: rest)] →
      ∃ v x κ' fb',Ending.returned (.tuple #[])=.returned v∧Good ⟨κ,w,[(k,.bp k U::rest)].map (·.1),may⟩ κ' w' fb'∧aL κ' v x∧(x=.tup []∧dI [(k,.bp k U::rest)] fb') :=
    fun w' g=>⟨_,.tup [],κ,_,rfl,g,.tup (cs:=[]) .nil,rfl,hk,trivial⟩
  cases hr0 with
  | bp0 hU =>
    refine (hfresh (κ.m k) w cs (by rw [hh,hU]) hsz hv0').mono ?_
    rintro e w' ⟨rfl,rfl⟩
    refine fin _ ?_
    have hlt:κ.m k<w.heap.size:=(Array.getElem?_eq_some_iff.1 hh).1
    have key:=hg.store (w':=w.setCell ⟨κ.m k,0,none⟩ (.pointer (some ⟨κ.m k,0,none⟩))) hk rfl (cs':=cs.setIfInBounds 0 (.pointer (some ⟨κ.m k,0,none⟩))) (c':=.bp k U::rest) ?_ ?_ rfl rfl rfl ?_ ?_
    · simpa [dY] using key
    · rw [Array.toList_setIfInBounds]
      have:=hcs.set 0 (aL.bp1 (κ:=κ) (n:=k) (U:=U) hU)
      exact this
    · simp [World.setCell,Array.getElem?_modify,hh]
    · simp [World.setCell]
    · intro b hb
      simp only [World.setCell,Array.getElem?_modify]
      rw [if_neg (fun e=>hb e.symm)]
  | bp1 hU =>
    refine (hused (κ.m k) w (by rw [hcell]; exact hv0')).mono ?_
    rintro e w' ⟨rfl,rfl⟩
    exact fin _ hg
structure nP (w w':World) (g:Option Nat):Prop where
  os:w'.os=w.os
  tape:w'.tape=w.tape
  output:w'.output=w.output
  size:w.heap.size≤w'.heap.size
  block:∀ b,b<w.heap.size→some b≠g→w'.heap[b]?=w.heap[b]?
  row:∀ b cs T fr,some b=g→w.heap[b]?=some (.cells cs T fr)→∃ fr',w'.heap[b]?=some (.cells cs T fr')
theorem bLo {l:List Int} {s:List UInt8} (h:ofBytes l=some s):l=s.map fun u=>(u.toNat:Int):=by
  unfold ofBytes at h
  split at h
  · rename_i h0
    simp at h; subst h
    rw [List.map_map]
    symm
    refine (List.map_congr_left (g:=id) fun n hn=>?_).trans (List.map_id l)
    have:=List.all_eq_true.1 h0 n hn
    simp at this
    simp [Function.comp]
    omega
  · simp at h
theorem aYi {S:Mem}:∀ {l:List UInt8} {vs:List Value},bJ S vs ((l.map fun u=>(u.toNat:Int)).map fun n=>[D.i .u8 n]).flatten→vs=l.map fun u=>Value.int .u8 u.toNat
  | [],_,h=>by cases h; rfl
  | u::l,_,h=>by
    cases h with
    | cons a r =>
      cases a
      rw [aYi r]; rfl
theorem bUt {P : Program} {f : FuncId} {U e : TypeId} (k t : Nat) (l : List Int) (s : List UInt8) (hl : ofBytes l = some s)
    (hs:∀ (b:Nat) (w:World) (cs:Array Value) (s:List UInt8) (v:Value),w.heap[b]?=some (.cells cs U (0,0))→cs.size=2→cs[1]?=some v→w.ownsRow 0 e 1 v s.length (s.map fun u=>Value.int .u8 u.toNat) →
      Calls P f #[.pointer (some ⟨b,0,none⟩)] w fun e w'=>e=.returned (.string ⟨s.toArray⟩)∧nP w w' v.ownBlock) (he:(e==XE)=false:=by rfl) :
    eX P f [.ptr k 0] [(k,[.bp k U,.osl t e 1 (l.map fun n=>[D.i .u8 n])])] fun x fb=>x=.d (.s (bs s))∧dI [(k,[.bp k U,.d (.sl 1 (l.map fun n=>[D.i .u8 n]))])] fb:=by
  intro κ w cargs may hg hrep
  rw [aPc hrep]
  have hl':=bLo hl
  generalize hL:(l.map fun n=>[D.i .u8 n])=L at hg ⊢
  have hk:bget [(k,[.bp k U,.osl t e 1 L])] k=some [.bp k U,.osl t e 1 L]:=by simp [bget]
  obtain ⟨cs,hh,hcs,hbl,hS,hE⟩:=hg.plain hk rfl
  have hsz:cs.size=2:=by rw [← Array.length_toList,hcs.length]; rfl
  obtain ⟨v0,hv0,hr0⟩:=hcs.get (n:=0) (x:=.bp k U) rfl
  obtain ⟨v,hv1,hr1⟩:=hcs.get (n:=1) (x:=.osl t e 1 L) rfl
  have hv1':cs[1]?=some v:=by simpa using hv1
  have hU:κ.ty k=U:=by cases hr0 <;> assumption
  rw [hU] at hh
  obtain ⟨ho,hrv⟩:κ.o t=some ⟨e,1,v⟩∧bH κ.S v (.sl 1 L):=by cases hr1; exact ⟨by assumption,by assumption⟩
  obtain ⟨⟨kk,xs,hO0,hxS⟩,hx0⟩:=hg.own t _ ho
  have hO:w.ownsRow 0 e 1 v kk xs:=hO0.to (by simpa using he)
  have hx:∀ b,v.ownBlock=some b→(may b∨w.heap.size≤b)∧κ.S b=xs∧∀ n,(bget [(k,[.bp k U,.osl t e 1 L])] n).isSome→b ∉ κ.bl n:=fun b hb=>⟨(hx0 b hb).1,hxS b hb,(hx0 b hb).2⟩
  have hrow:w.ownsRow 0 e 1 v s.length (s.map fun u=>Value.int .u8 u.toNat):=by
    have hlen:L.length=s.length:=by rw [← hL,hl']; simp
    have hxl:=hO.1
    rcases hrv.slice with ⟨h1,h2⟩ | ⟨a,cap,h1,h2,h3⟩ | ⟨b,off,cap,vs,h1,h2,h3,h4,h5,h6,h7⟩
    · subst h2
      have hs0:s=[]:=List.eq_nil_of_length_eq_zero (by simpa using hlen.symm)
      subst hs0
      rw [h1]; exact World.ownsRow_nil w 0 e 1
    · subst h2
      have hs0:s=[]:=List.eq_nil_of_length_eq_zero (by simpa using hlen.symm)
      subst hs0
      have hk0:kk=0:=by
        rcases hO.2 with ⟨_,h⟩ | ⟨g,c2,cur,hv,_⟩
        · exact h
        · rw [h1] at hv; simp at hv; exact hv.2.1.symm
      subst hk0
      have:xs=[]:=List.eq_nil_of_length_eq_zero (by simpa using hxl)
      subst this
      exact hO
    · have hob:v.ownBlock=some b:=by rw [h1]; rfl
      obtain ⟨_,hSb,_⟩:=hx b hob
      have hk0:kk=L.length∧off=0:=by
        rcases hO.2 with ⟨h,_⟩ | ⟨g,c2,cur,hv,_⟩
        · rw [h1] at h; simp at h
        · rw [h1] at hv; simp at hv; exact ⟨hv.2.1.symm,hv.1.2⟩
      obtain ⟨rfl,rfl⟩:=hk0
      have hvx:vs=xs:=by
        rw [List.drop_zero,hSb] at h5
        exact h5.eq_of_length (by rw [h4,hxl])
      subst hvx
      rw [← hL,hl'] at h7
      rw [aYi h7,hlen] at hO
      exact hO
  refine (hs (κ.m k) w cs s v hh hsz hv1' hrow).mono ?_
  rintro e' w' ⟨rfl,hF⟩
  let κ':Ctx:=⟨κ.S,κ.mt,upd κ.o t none,κ.bl⟩
  have hne:∀ t' o,κ'.o t'=some o→t'≠t∧κ.o t'=some o:=by
    intro t' o h
    by_cases e1:t'=t
    · subst e1; rw [show κ'.o t'=none from upd_same _ _ _] at h; simp at h
    · exact ⟨e1,by rw [← h]; exact (fT _ _ _ e1).symm⟩
  have hbn:some (κ.m k)≠v.ownBlock:=by
    intro hq
    exact (hx _ hq.symm).2.2 k (by simp [bget]) (by rw [hbl]; simp)
  have hsl:s.length≤maxLen:=by
    rcases hrow.2 with ⟨_,h⟩ | ⟨_,_,_,_,_,_,h1,h2,_⟩
    · rw [h]; exact Nat.zero_le _
    · exact Nat.le_trans h1 h2
  refine ⟨_,.d (.s (bs s)),κ',[(k,[.bp k U,.d (.sl 1 L)])],rfl,?_,.d (.s (bs s) (by show s.toArray.size≤_; simpa using hsl)),rfl,by simp [bget],trivial⟩
  have hdom:∀ n,(bget [(k,[V.bp k U,.d (.sl 1 L)])] n).isSome→n=k:=fun n hn=>by
    simp only [bget] at hn
    split at hn
    · rename_i h1; exact h1
    · simp at hn
  have hkS:(bget [(k,[V.bp k U,.osl t e 1 L])] k).isSome:=by simp [bget]
  refine ⟨⟨hF.os,hF.tape,hF.output,hF.size,fun _ _ _=>rfl,fun b hb hm=>?_,fun _ _=>rfl,Mem.le_refl _⟩,fun b hb=>?_,fun n c hc=>?_,fun n hn=>?_,fun n n' b hn hn' _ _=>(hdom n hn).trans (hdom n' hn').symm,fun t' o ho'=>?_,fun t1 t2 o1 o2 gg h1 h2 k1 k2=>?_,hg.tab,hg.tabx⟩
  · refine hF.block b hb fun hq=>?_
    rcases (hx b hq.symm).1 with h | h
    · exact hm h
    · exact absurd hb (Nat.not_lt.2 h)
  · obtain ⟨c,T',fr,h1,h2⟩:=hg.mem b hb
    by_cases hq:some b=v.ownBlock
    · obtain ⟨fr',h3⟩:=hF.row b c T' fr hq h1
      exact ⟨c,T',fr',h3,h2⟩
    · exact ⟨c,T',fr,(hF.block b (hg.memLt hb) hq).trans h1,h2⟩
  · have hn:=hdom n (by simp [hc])
    subst hn
    simp only [bget,if_true,Option.some.injEq] at hc
    subst hc
    refine .plain (cs:=cs) ?_ ?_ hbl
    · show w'.heap[κ.m n]?=some (.cells cs (κ.ty n) (0,0))
      rw [hU]
      exact (hF.block _ (Array.getElem?_eq_some_iff.1 hh).1 hbn).trans hh
    · revert hcs
      generalize cs.toList=cl
      intro hcs
      cases hcs with
      | cons a r =>
        cases r with
        | cons a2 r2 =>
          cases r2
          refine .cons ?_ (.cons ?_ .nil)
          · cases a with
            | bp0 h=>exact .bp0 h
            | bp1 h=>exact .bp1 (κ:=κ') h
          · cases a2; exact .d (by assumption)
  · have hn':=hdom n hn
    subst hn'
    obtain ⟨h1,h2⟩:=hg.blk n hkS
    exact ⟨h1,fun b hb=>⟨(h2 b hb).1,Nat.lt_of_lt_of_le (h2 b hb).2.1 hF.size,(h2 b hb).2.2⟩⟩
  · obtain ⟨hn,ho'⟩:=hne t' o ho'
    obtain ⟨⟨k',xs',hO',hxS'⟩,hx'⟩:=hg.own t' o ho'
    refine ⟨⟨k',xs',⟨hO'.1,?_⟩,hxS'⟩,fun g2 hg2=>⟨(hx' g2 hg2).1,fun n hn2=>(hx' g2 hg2).2 n ?_⟩⟩
    · rcases hO'.2 with h | ⟨g2,cap,cur,T2,hv,h2,hb2,r⟩
      · exact .inl h
      · have hbk:w'.heap[g2]?=w.heap[g2]?:=hF.block g2 h2.lt fun hq=>hn (hg.ownInj t' t o _ g2 ho' ho (by rw [hv]; rfl) hq.symm)
        exact .inr ⟨g2,cap,cur,T2,hv,h2.frame hbk,fun he=>hbk.trans (hb2 he),r⟩
    · rw [hdom n hn2]; exact hkS
  · exact hg.ownInj t1 t2 o1 o2 gg (hne t1 o1 h1).2 (hne t2 o2 h2).2 k1 k2
theorem nP.drew (w:World) (g:Option Nat):nP w w.drew g:=⟨rfl,rfl,rfl,Nat.le_refl _,fun _ _ _=>rfl,fun _ _ _ fr _ h=>⟨fr,h⟩⟩
theorem nP.freeze (w:World) (g n:Nat):nP w (w.drew.freeze ⟨g,0,none⟩ n) (some g):=by
  unfold World.freeze
  split
  · exact nP.drew w _
  · refine ⟨rfl,rfl,rfl,by simp,fun b hb hn=>?_,fun b cs T fr hb h=>?_⟩
    · have:g≠b:=fun e=>hn (by rw [e])
      simp only [Array.getElem?_modify,if_neg this]
      rfl
    · simp only [Option.some.injEq] at hb
      subst hb
      obtain ⟨lo,hi⟩:=fr
      have h':w.drew.heap[b]?=some (.cells cs T (lo,hi)):=h
      simp only [Array.getElem?_modify,if_true,h',Option.map_some]
      exact ⟨_,rfl⟩
theorem nP.view (w:World) (a:Addr) (e:TypeId) (g:Option Nat):nP w (w.drew.alloc (.view a e)) g :=
  ⟨rfl,rfl,rfl,by simp,fun b hb _=>Below.heap_alloc w.drew _ b hb,fun b cs T fr _ h=>⟨fr,(Below.heap_alloc w.drew _ b (Array.getElem?_eq_some_iff.1 h).1).trans h⟩⟩
theorem bF3 {P : Program} {f : FuncId} {e : TypeId} (U : TypeId)
    (hrow:∀ (b g cap:Nat) (cur:Array Value) (s:List UInt8) (w:World),w.cell? ⟨b,1,none⟩=some (.slice (some ⟨g,0,none⟩) s.length cap)→s≠[]→s.length≤cap→cap≤maxLen→cur.size=cap * 1 →
      w.heap[g]?=some (.cells cur e (0,0))→(∀ j x,s[j]?=some x→w.cell? ((⟨g,0,none⟩:Addr).add j)=some (.int .u8 x.toNat)) →
      Calls P f #[.pointer (some ⟨b,0,none⟩)] w fun e w'=>e=.returned (.string ⟨s.toArray⟩)∧w'=w.drew.freeze ⟨g,0,none⟩ s.length)
    (hnil:∀ (b:Nat) (w:World),w.cell? ⟨b,1,none⟩=some (.slice none 0 0)→Calls P f #[.pointer (some ⟨b,0,none⟩)] w fun e w'=>e=.returned (.string ⟨#[]⟩)∧w'=w.drew)
    (hnoroom:∀ (b g:Nat) (cur:Array Value) (w:World),w.cell? ⟨b,1,none⟩=some (.slice (some ⟨g,0,none⟩) 0 0)→b<w.heap.size→w.heap[g]?=some (.cells cur e (0,0)) →
      Calls P f #[.pointer (some ⟨b,0,none⟩)] w fun e' w'=>e'=.returned (.string ⟨#[]⟩)∧w'=w.drew.alloc (.view ⟨g,0,none⟩ e))
    (hroom:∀ (b g cap:Nat) (w:World),cap≠0→w.cell? ⟨b,1,none⟩=some (.slice (some ⟨g,0,none⟩) 0 cap)→Calls P f #[.pointer (some ⟨b,0,none⟩)] w fun e w'=>e=.returned (.string ⟨#[]⟩)∧w'=w.drew) :
    ∀ (b:Nat) (w:World) (cs:Array Value) (s:List UInt8) (v:Value),w.heap[b]?=some (.cells cs U (0,0))→cs.size=2→cs[1]?=some v→w.ownsRow 0 e 1 v s.length (s.map fun u=>Value.int .u8 u.toNat) →
      Calls P f #[.pointer (some ⟨b,0,none⟩)] w fun e w'=>e=.returned (.string ⟨s.toArray⟩)∧nP w w' v.ownBlock:=by
  intro b w cs s v hb hn hv hown
  have hcell:w.cell? ⟨b,1,none⟩=some v:=by rw [cell_of_row w b 1 cs U (0,0) hb]; exact hv
  rcases hown.2 with ⟨rfl,hs0⟩ | ⟨g,cap,cur,rfl,_,hg,hnc,hcm,hcs,htk⟩
  · have hs:s=[]:=List.eq_nil_of_length_eq_zero hs0
    subst hs
    refine (hnil b w hcell).mono ?_
    rintro e' w' ⟨rfl,rfl⟩
    exact ⟨rfl,nP.drew _ _⟩
  · by_cases hs:s=[]
    · subst hs
      by_cases hc:cap=0
      · subst hc
        refine (hnoroom b g cur w hcell (Array.getElem?_eq_some_iff.1 hb).1 hg).mono ?_
        rintro e' w' ⟨rfl,rfl⟩
        exact ⟨rfl,nP.view _ _ _ _⟩
      · refine (hroom b g cap w hc hcell).mono ?_
        rintro e' w' ⟨rfl,rfl⟩
        exact ⟨rfl,nP.drew _ _⟩
    · refine (hrow b g cap cur s w hcell hs hnc hcm hcs hg fun j x hx=>?_).mono ?_
      · exact hown.cells rfl j _ (by simp [hx])
      · rintro e' w' ⟨rfl,rfl⟩
        exact ⟨rfl,nP.freeze _ _ _⟩
end Go.Ab
