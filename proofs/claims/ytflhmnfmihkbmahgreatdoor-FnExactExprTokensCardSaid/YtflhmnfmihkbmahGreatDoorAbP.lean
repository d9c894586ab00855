/- Functions of the library that only compute: contracts over abstract values,out of the kit's contracts. -/
import Derived.Test.YtflhmnfmihkbmahGreatDoorAbC1
import Derived.Test.YtflhmnfmihkbmahGreatDoorAbF1
import Derived.Shelf.Strconv.Itoa3
import Derived.Shelf.Strings.SplitShaped
import Derived.Shelf.Strconv.ErrVarAll
import Derived.Shelf.Strconv.AtoiAll
import Derived.Shelf.Small.Strs
import Derived.Lib.ItoaLen
import Derived.Lib.IndexBytes
namespace Go.Ab
open Go Go.RowKit
structure oH (w w':World):Prop where
  os:w'.os=w.os
  tape:w'.tape=w.tape
  output:w'.output=w.output
  size:w.heap.size≤w'.heap.size
  block:∀ b,b<w.heap.size→w'.heap[b]?=w.heap[b]?
theorem oH.of_grow (w:World) (k:Nat) (os:Array Obj):oH w (Sort.grow (w.drewN k) os):=by
  have h:(w.drewN k).heap=w.heap∧(w.drewN k).os=w.os∧(w.drewN k).tape=w.tape∧(w.drewN k).output=w.output:=by
    induction k generalizing w with
    | zero=>exact ⟨rfl,rfl,rfl,rfl⟩
    | succ k ih =>
      have:=ih w.drew
      exact this
  obtain ⟨h1,h2,h3,h4⟩:=h
  refine ⟨h2,h3,h4,?_,fun b hb=>?_⟩
  · rw [Sort.size_grow,h1]; omega
  · rw [Sort.heap_grow_old _ _ (by rw [h1]; exact hb),h1]
theorem aUl {P : Program} {f : FuncId} {args : List V} {x : V}
    (h:∀ (κ:Ctx) (w:World) (cargs:List Value),bG κ cargs args→(∀ p ∈ GV,p.1<w.heap.size∧p.2 w.heap[p.1]?) →
      Calls P f cargs.toArray w fun e w'=>∃ v,e=.returned v∧(∀ κ':Ctx,aV κ' v x)∧oH w w'):aY P f args [] fun y _=>y=x:=by
  intro κ w cargs may g hrep
  refine (h κ w cargs hrep g.tabNow).mono ?_
  rintro e w' ⟨v,rfl,hv,hw⟩
  refine ⟨v,x,κ,[],rfl,?_,hv κ,rfl⟩
  refine g.patch (fun b=>w.heap.size≤b) (fun _=>False) (fun _=>False) hw.os hw.tape hw.output hw.size (fun b hb=>.inr hb) (fun b hb=>⟨hw.block b (by omega),rfl⟩) (fun b _=>g.frm.le b) (fun b _=>g.tab b)
    (fun b hb hn=>absurd (g.memNew hb) hn) (fun _ _=>rfl) (fun n c hc _=>by simp [bget] at hc) (fun n c hc _=>by simp [bget] at hc) (fun _ _ _ h=>by simp [bget] at h) (fun t o ho _=>⟨ho,fun b hb hb'=>?_⟩) (fun _ _ _ h=>h.elim) (fun _ _ _ _ _ _ _ h=>h.elim)
  have:=(g.own t o ho).1.lt hb
  omega
theorem cB4 {P : Program} {ρ : Shelf.Ren} (L : Proofs.LaysM.n171 P ρ) {f g : Nat} (hf : ρ.f 171 = f) (hg : ρ.g 17 = g) (ht : (g, aIw .u64 Lib.pow10Tab) ∈ GV) (n : Int) :
    aY P f [.d (.i .i64 n)] [] fun y _=>y=.d (.s (bs (Lib.itoa n))):=by
  refine aUl fun κ w cargs hrep htab=>?_
  obtain ⟨v,hc,hr⟩:∃ v,cargs=[v]∧bU κ.S v (.i .i64 n):=by
    cases hrep with | cons a r=>cases r; exact ⟨_,rfl,a.toD⟩
  subst hc
  obtain ⟨rfl,h0,h1⟩:=hr.toI
  have h0' : -9223372036854775808≤n:=h0
  have h1':n≤9223372036854775807:=h1
  subst hf
  refine (Proofs.Any.strconv_Itoa L n h0' h1' w ?_).mono ?_
  · have hm:=L.m17
    rw [hg] at hm
    obtain ⟨_,T,fr,hh⟩:=htab _ ht
    unfold Lib.TabIs World.var?
    rw [hm]
    simp only [Option.bind_some,hh]
  · rintro e w' ⟨rfl,k,os,rfl⟩
    refine ⟨_,rfl,fun κ'=>.d (.s _ ?_),oH.of_grow w k os⟩
    have:=Lib.itoa_length_le n h0' h1'
    show (Lib.itoa n).toArray.size≤maxLen
    simp only [List.size_toArray,maxLen]
    omega
theorem oH.refl (w:World):oH w w:=⟨rfl,rfl,rfl,Nat.le_refl _,fun _ _=>rfl⟩
theorem oH.of_below {w w':World} (h:Below w.heap.size w w'):oH w w':=⟨h.os,h.tape,h.output,h.size,h.block⟩
theorem qP (l:List UInt8):(bs l).size=l.length:=by simp [bs,ByteArray.size]
theorem zF (l:List UInt8):(bs l).data.toList=l:=by simp [bs]
theorem bU4 {κ:Ctx} {cargs:List Value} {x y:D} (h:bG κ cargs [.d x,.d y]):∃ u v,cargs=[u,v]∧bU κ.S u x∧bU κ.S v y:=by
  cases h with | cons a r=>cases r with | cons b r=>cases r; exact ⟨_,_,rfl,a.toD,b.toD⟩
theorem aZi {w:World} {g:Nat} {k:IntKind} (h:Y9 k w.heap[g]?):∃ m,w.cell? ⟨g,0,none⟩=some (.int k m):=by
  obtain ⟨m,cs,T,fr,hh,h0⟩:=h
  exact ⟨m,by simp only [World.cell?,hh]; exact h0⟩
theorem bJl {S:Mem} {l:List UInt8} (h:l.length≤1000000000000):bU S (.string ⟨l.toArray⟩) (.s (bs l)):=.s _ (by show l.toArray.size≤maxLen; simp only [List.size_toArray,maxLen]; omega)
theorem bGp {P : Program} {ρ : Shelf.Ren} (L : Proofs.Lays.n155 P ρ) (X : Proofs.Builder.Extra P ρ) {f g : Nat} (hf : ρ.f 155 = f) (hg : ρ.g 1 = g) (ht : (g, Y9 .i64) ∈ GV) (s old new r : List UInt8) (h : aKi s old new = some r) :
    aY P f [.d (.s (bs s)),.d (.s (bs old)),.d (.s (bs new))] [] fun y _=>y=.d (.s (bs r)):=by
  unfold aKi at h
  split at h
  · rename_i hc
    injection h with h
    subst h
    refine aUl fun κ w cargs hrep htab=>?_
    obtain ⟨v1,v2,v3,hcs,h1,h2,h3⟩:∃ v1 v2 v3,cargs=[v1,v2,v3]∧bU κ.S v1 (.s (bs s))∧bU κ.S v2 (.s (bs old))∧bU κ.S v3 (.s (bs new)):=by
      cases hrep with | cons a r=>cases r with | cons b r=>cases r with | cons c r=>cases r; exact ⟨_,_,_,rfl,a.toD,b.toD,c.toD⟩
    subst hcs
    obtain ⟨rfl,_⟩:=h1.toS
    obtain ⟨rfl,_⟩:=h2.toS
    obtain ⟨rfl,_⟩:=h3.toS
    obtain ⟨m,hm⟩:=aZi (htab _ ht).2
    subst hf hg
    have hcount:Lib.countB (bs s) (bs old)≤(bs s).size:=Lib.countB_le _ (by rw [qP]; exact hc.2.1) _ _ (Nat.le_refl _)
    have hmul:Lib.countB (bs s) (bs old) * (bs new).size≤2000000 * 2000000:=Nat.mul_le_mul (by rw [qP] at hcount; omega) (by rw [qP]; exact hc.2.2.1)
    refine (Proofs.Any.strings_ReplaceAll L X (bs s) (bs old) (bs new) m w (by rw [qP]; omega) hm (by rw [qP]; exact hc.2.1) (by rw [qP]; omega)).mono ?_
    rintro e w' ⟨rfl,hb⟩
    rw [zF,zF,zF]
    exact ⟨_,rfl,fun κ'=>.d (bJl hc.2.2.2),.of_below hb⟩
  · simp at h
theorem bIj {P : Program} {f : FuncId} {args : List V} {sz : Nat} {l : List (List D)} (hsz : ∀ e ∈ l, e.length = sz) (hlen : l.length ≤ maxLen)
    (h:∀ (κ:Ctx) (w:World) (cargs:List Value),bG κ cargs args→(∀ p ∈ GV,p.1<w.heap.size∧p.2 w.heap[p.1]?) →
      Calls P f cargs.toArray w fun e w'=>∃ vs T,e=.returned (.slice (some ⟨w.heap.size,0,none⟩) l.length l.length)∧w'=w.alloc (.cells (List.toArray vs) T)∧∀ S,bV S vs l.flatten):aY P f args [] fun y _=>y=.d (.sl sz l):=by
  intro κ w cargs may g hrep
  refine (h κ w cargs hrep g.tabNow).mono ?_
  rintro e w' ⟨vs,T,rfl,rfl,hr⟩
  obtain ⟨κ',hκ⟩:∃ k:Ctx,k=⟨upd κ.S w.heap.size vs,κ.mt,κ.o,κ.bl⟩:=⟨_,rfl⟩
  have hS:κ'.S w.heap.size=vs:=by rw [hκ]; exact upd_same _ _ _
  have hS0:∀ b,b≠w.heap.size→κ'.S b=κ.S b:=fun b hb=>by rw [hκ]; exact gK _ _ _ hb
  have ho:∀ t,κ'.o t=κ.o t:=fun t=>by rw [hκ]
  have hmt:∀ t,κ'.mt t=κ.mt t:=fun t=>by rw [hκ]
  clear hκ
  have hvl:vs.length=l.length * sz:=by rw [(hr κ.S).length,aLx hsz]
  have hold:∀ b,b<w.heap.size→(w.alloc (.cells vs.toArray T)).heap[b]?=w.heap[b]?:=fun b hb=>RowKit.Below.heap_alloc w _ b hb
  have hnew:(w.alloc (.cells vs.toArray T)).heap[w.heap.size]?=some (.cells vs.toArray T (0,0)):=by show (w.heap.push _)[w.heap.size]?=_; simp
  refine ⟨_,_,κ',[],rfl,?_,.d (.sl w.heap.size 0 l.length l.length sz l vs rfl (Nat.le_refl _) hlen hvl (by rw [hS]; exact List.prefix_refl _) hsz (hr _)),rfl⟩
  refine g.patch (fun b=>w.heap.size≤b) (fun _=>False) (fun _=>False) rfl rfl rfl (by simp) (fun b hb=>.inr hb) (fun b hb=>⟨hold b (by omega),hS0 b (by omega)⟩) (fun b hb=>by show κ.S b <+: _; rw [g.memNew hb]; exact List.nil_prefix) (fun b _=>List.nil_prefix)
    (fun b hb hn=>?_) (fun n _=>hmt n) (fun n c hc _=>by simp [bget] at hc) (fun n c hc _=>by simp [bget] at hc) (fun _ _ _ h=>by simp [bget] at h) (fun t o ht _=>⟨by rw [← ho]; exact ht,fun b hb hb'=>?_⟩) (fun _ _ _ h=>h.elim) (fun _ _ _ _ _ _ _ h=>h.elim)
  · by_cases e:b=w.heap.size
    · subst e
      exact ⟨_,T,(0,0),hnew,by rw [hS]; exact List.prefix_refl _⟩
    · rw [hS0 b e] at hn
      exact absurd (g.memNew hb) hn
  · have:=(g.own t o (by rw [← ho]; exact ht)).1.lt hb
    omega
theorem aRk (S:Mem):∀ l:List ByteArray,(∀ b ∈ l,b.size≤maxLen)→bV S (l.map Value.string) ((l.map (·.data.toList)).map fun b=>[D.s (bs b)]).flatten
  | [],_=>.nil
  | b::l,h=>by
    refine .cons ?_ (aRk S l fun b hb=>h b (List.mem_cons_of_mem _ hb))
    have:bs b.data.toList=b:=by simp [bs]
    rw [this]
    exact .s _ (h b (by simp))
theorem aS5 (sep:List UInt8):∀ (k:Nat) (s b:List UInt8),b ∈ Lib.splitK sep 0 k s→b.length≤s.length
  | 0,s,b,h=>by simp [Lib.splitK] at h; simp [h]
  | k+1,s,b,h=>by
    unfold Lib.splitK at h
    split at h
    · simp at h; simp [h]
    · rcases List.mem_cons.1 h with rfl | h
      · simp; omega
      · have:=aS5 sep k _ b h
        simp at this; omega
theorem bNe {P : Program} {ρ : Shelf.Ren} (L : Proofs.Lays.n146 P ρ) (hi9 : (P.info? (ρ.t 9)).map (fun i => (i.zero, i.size, i.bytes)) = some (some (.string ByteArray.empty), 1, 16)) {f g : Nat} (hf : ρ.f 146 = f) (hg : ρ.g 1 = g) (ht : (g, Y9 .i64) ∈ GV) (s sep : List UInt8) (r : List (List UInt8)) (h : G6 s sep = some r) :
    aY P f [.d (.s (bs s)),.d (.s (bs sep))] [] fun y _=>y=.d (.sl 1 (r.map fun b=>[.s (bs b)])):=by
  unfold G6 at h
  split at h
  · rename_i hc
    injection h with h
    have hdata:(Lib.splitB (bs sep) 0 (Lib.countB (bs s) (bs sep)) (bs s)).map (·.data.toList)=r:=by
      rw [Lib.splitB_data,zF,zF,← h]
      unfold Lib.split Lib.countB
      rw [zF,zF]
    have hall:=Lib.splitB_all (bs sep) (by rw [qP]; exact hc.2) 0 _ (bs s) rfl
    have hrl:r.length=Lib.countB (bs s) (bs sep)+1:=by rw [← hdata,List.length_map,hall]
    have hcount:Lib.countB (bs s) (bs sep)≤(bs s).size:=Lib.countB_le _ (by rw [qP]; exact hc.2) _ _ (Nat.le_refl _)
    rw [qP] at hcount
    refine bIj (fun e he=>by obtain ⟨b,_,rfl⟩:=List.mem_map.1 he; rfl) (by simp only [List.length_map,maxLen]; omega) fun κ w cargs hrep htab=>?_
    obtain ⟨u,v,rfl,h1,h2⟩:=bU4 hrep
    obtain ⟨rfl,_⟩:=h1.toS
    obtain ⟨rfl,_⟩:=h2.toS
    obtain ⟨m,hm⟩:=aZi (htab _ ht).2
    subst hf hg
    refine (Proofs.Any.strings_Split L hi9 (bs s) (bs sep) m w (by rw [qP]; omega) hm (by rw [qP]; exact hc.2)).mono ?_
    rintro e w' ⟨rfl,rfl⟩
    refine ⟨_,_,by rw [List.length_map,hrl],rfl,fun S=>?_⟩
    rw [← hdata]
    refine aRk S _ fun b hb=>?_
    have hb':b.data.toList ∈ Lib.splitK sep 0 (Lib.count s sep) s:=by
      have:=List.mem_map_of_mem (f:=(·.data.toList)) hb
      rw [hdata,← h] at this
      exact this
    have:=aS5 _ _ _ _ hb'
    have e2:b.size=b.data.toList.length:=by rw [Array.length_toList]; rfl
    rw [e2]; simp only [maxLen]; omega
  · simp at h
structure aOs (g15 g16 g17:Nat) (w:World):Prop where
  e15:aSr w.heap[g15]?
  e16:aSr w.heap[g16]?
  e17:aIw .u64 Lib.pow10Tab w.heap[g17]?
theorem aN2 {w:World} {g:Nat} {o:Obj} (h:w.heap[g]?=some o):g<w.heap.size:=(Array.getElem?_eq_some_iff.1 h).1
theorem aOs.grow {g15 g16 g17:Nat} {w w':World} (h:aOs g15 g16 g17 w) (hw:oH w w'):aOs g15 g16 g17 w':=by
  obtain ⟨h1,h2,h3⟩:=h
  refine ⟨?_,?_,?_⟩
  · obtain ⟨t,p,T,fr,e⟩:=h1
    exact ⟨t,p,T,fr,(hw.block _ (aN2 e)).trans e⟩
  · obtain ⟨t,p,T,fr,e⟩:=h2
    exact ⟨t,p,T,fr,(hw.block _ (aN2 e)).trans e⟩
  · obtain ⟨T,fr,e⟩:=h3
    exact ⟨T,fr,(hw.block _ (aN2 e)).trans e⟩
theorem oH.trans {w1 w2 w3:World} (a:oH w1 w2) (b:oH w2 w3):oH w1 w3 :=
  ⟨b.os.trans a.os,b.tape.trans a.tape,b.output.trans a.output,Nat.le_trans a.size b.size,fun k hk=>(b.block k (Nat.lt_of_lt_of_le hk a.size)).trans (a.block k hk)⟩
end Go.Ab
