/- Functions of the library that only compute: contracts over abstract values,out of the kit's contracts. -/
import Derived.Test.YtfomfmjicgdebabGreatDoorAbC1
import Derived.Test.YtfomfmjicgdebabGreatDoorAbF1
import Derived.Shelf.Strconv.Itoa3
import Derived.Shelf.Strings.SplitShaped
import Derived.Shelf.Strconv.ErrVarAll
import Derived.Shelf.Strconv.AtoiAll
import Derived.Shelf.Small.Strs
import Derived.Lib.ItoaLen
import Derived.Lib.IndexBytes
namespace Go.Ab
open Go Go.RowKit
structure iM (w w':World):Prop where
  os:w'.os=w.os
  tape:w'.tape=w.tape
  output:w'.output=w.output
  size:w.heap.size≤w'.heap.size
  block:∀ b,b<w.heap.size→w'.heap[b]?=w.heap[b]?
theorem iM.of_grow (w:World) (k:Nat) (os:Array Obj):iM w (Sort.grow (w.drewN k) os):=by
  have h:(w.drewN k).heap=w.heap∧(w.drewN k).os=w.os∧(w.drewN k).tape=w.tape∧(w.drewN k).output=w.output:=by
    induction k generalizing w with
    | zero=>exact ⟨rfl,rfl,rfl,rfl⟩
    | succ k ih =>
      have:=ih w.drew
      exact this
  obtain ⟨h1,h2,h3,h4⟩:=h
  refine ⟨h2,h3,h4,?_,fun b hb=>?_⟩
  · rw [Sort.size_grow,h1]; omega
  · rw [Sort.heap_grow_old _ _ (by rw [h1]; exact hb),h1]
theorem aG9 {P : Program} {f : FuncId} {args : List V} {x : V}
    (h:∀ (κ:Ctx) (w:World) (cargs:List Value),aX κ cargs args→(∀ p ∈ GV,p.1<w.heap.size∧p.2 w.heap[p.1]?) →
      Calls P f cargs.toArray w fun e w'=>∃ v,e=.returned v∧(∀ κ':Ctx,aL κ' v x)∧iM w w'):eX P f args [] fun y _=>y=x:=by
  intro κ w cargs may g hrep
  refine (h κ w cargs hrep g.tabNow).mono ?_
  rintro e w' ⟨v,rfl,hv,hw⟩
  refine ⟨v,x,κ,[],rfl,?_,hv κ,rfl⟩
  refine g.patch (fun b=>w.heap.size≤b) (fun _=>False) (fun _=>False) hw.os hw.tape hw.output hw.size (fun b hb=>.inr hb) (fun b hb=>⟨hw.block b (by omega),rfl⟩) (fun b _=>g.frm.le b) (fun b _=>g.tab b)
    (fun b hb hn=>absurd (g.memNew hb) hn) (fun _ _=>rfl) (fun n c hc _=>by simp [bget] at hc) (fun n c hc _=>by simp [bget] at hc) (fun _ _ _ h=>by simp [bget] at h) (fun t o ho _=>⟨ho,fun b hb hb'=>?_⟩) (fun _ _ _ h=>h.elim) (fun _ _ _ _ _ _ _ h=>h.elim)
  have:=(g.own t o ho).1.lt hb
  omega
theorem iM.refl (w:World):iM w w:=⟨rfl,rfl,rfl,Nat.le_refl _,fun _ _=>rfl⟩
theorem iM.of_below {w w':World} (h:Below w.heap.size w w'):iM w w':=⟨h.os,h.tape,h.output,h.size,h.block⟩
theorem nH (l:List UInt8):(bs l).size=l.length:=by simp [bs,ByteArray.size]
theorem pK (l:List UInt8):(bs l).data.toList=l:=by simp [bs]
theorem aIg {κ:Ctx} {cargs:List Value} {x y:D} (h:aX κ cargs [.d x,.d y]):∃ u v,cargs=[u,v]∧bH κ.S u x∧bH κ.S v y:=by
  cases h with | cons a r=>cases r with | cons b r=>cases r; exact ⟨_,_,rfl,a.toD,b.toD⟩
theorem aNr {w:World} {g:Nat} {k:IntKind} (h:J8 k w.heap[g]?):∃ m,w.cell? ⟨g,0,none⟩=some (.int k m):=by
  obtain ⟨m,cs,T,fr,hh,h0⟩:=h
  exact ⟨m,by simp only [World.cell?,hh]; exact h0⟩
theorem bX7 {S:Mem} {l:List UInt8} (h:l.length≤1000000000000):bH S (.string ⟨l.toArray⟩) (.s (bs l)):=.s _ (by show l.toArray.size≤maxLen; simp only [List.size_toArray,maxLen]; omega)
theorem bVv {P : Program} {ρ : Shelf.Ren} (L : Proofs.Lays.n155 P ρ) (X : Proofs.Builder.Extra P ρ) {f g : Nat} (hf : ρ.f 155 = f) (hg : ρ.g 1 = g) (ht : (g, J8 .i64) ∈ GV) (s old new r : List UInt8) (h : aDg s old new = some r) :
    eX P f [.d (.s (bs s)),.d (.s (bs old)),.d (.s (bs new))] [] fun y _=>y=.d (.s (bs r)):=by
  unfold aDg at h
  split at h
  · rename_i hc
    injection h with h
    subst h
    refine aG9 fun κ w cargs hrep htab=>?_
    obtain ⟨v1,v2,v3,hcs,h1,h2,h3⟩:∃ v1 v2 v3,cargs=[v1,v2,v3]∧bH κ.S v1 (.s (bs s))∧bH κ.S v2 (.s (bs old))∧bH κ.S v3 (.s (bs new)):=by
      cases hrep with | cons a r=>cases r with | cons b r=>cases r with | cons c r=>cases r; exact ⟨_,_,_,rfl,a.toD,b.toD,c.toD⟩
    subst hcs
    obtain ⟨rfl,_⟩:=h1.toS
    obtain ⟨rfl,_⟩:=h2.toS
    obtain ⟨rfl,_⟩:=h3.toS
    obtain ⟨m,hm⟩:=aNr (htab _ ht).2
    subst hf hg
    have hcount:Lib.countB (bs s) (bs old)≤(bs s).size:=Lib.countB_le _ (by rw [nH]; exact hc.2.1) _ _ (Nat.le_refl _)
    have hmul:Lib.countB (bs s) (bs old) * (bs new).size≤2000000 * 2000000:=Nat.mul_le_mul (by rw [nH] at hcount; omega) (by rw [nH]; exact hc.2.2.1)
    refine (Proofs.Any.strings_ReplaceAll L X (bs s) (bs old) (bs new) m w (by rw [nH]; omega) hm (by rw [nH]; exact hc.2.1) (by rw [nH]; omega)).mono ?_
    rintro e w' ⟨rfl,hb⟩
    rw [pK,pK,pK]
    exact ⟨_,rfl,fun κ'=>.d (bX7 hc.2.2.2),.of_below hb⟩
  · simp at h
theorem bQh {P : Program} {f : FuncId} {args : List V} {sz : Nat} {l : List (List D)} (hsz : ∀ e ∈ l, e.length = sz) (hlen : l.length ≤ maxLen)
    (h:∀ (κ:Ctx) (w:World) (cargs:List Value),aX κ cargs args→(∀ p ∈ GV,p.1<w.heap.size∧p.2 w.heap[p.1]?) →
      Calls P f cargs.toArray w fun e w'=>∃ vs T,e=.returned (.slice (some ⟨w.heap.size,0,none⟩) l.length l.length)∧w'=w.alloc (.cells (List.toArray vs) T)∧∀ S,bJ S vs l.flatten):eX P f args [] fun y _=>y=.d (.sl sz l):=by
  intro κ w cargs may g hrep
  refine (h κ w cargs hrep g.tabNow).mono ?_
  rintro e w' ⟨vs,T,rfl,rfl,hr⟩
  obtain ⟨κ',hκ⟩:∃ k:Ctx,k=⟨upd κ.S w.heap.size vs,κ.mt,κ.o,κ.bl⟩:=⟨_,rfl⟩
  have hS:κ'.S w.heap.size=vs:=by rw [hκ]; exact upd_same _ _ _
  have hS0:∀ b,b≠w.heap.size→κ'.S b=κ.S b:=fun b hb=>by rw [hκ]; exact fT _ _ _ hb
  have ho:∀ t,κ'.o t=κ.o t:=fun t=>by rw [hκ]
  have hmt:∀ t,κ'.mt t=κ.mt t:=fun t=>by rw [hκ]
  clear hκ
  have hvl:vs.length=l.length * sz:=by rw [(hr κ.S).length,aCp hsz]
  have hold:∀ b,b<w.heap.size→(w.alloc (.cells vs.toArray T)).heap[b]?=w.heap[b]?:=fun b hb=>RowKit.Below.heap_alloc w _ b hb
  have hnew:(w.alloc (.cells vs.toArray T)).heap[w.heap.size]?=some (.cells vs.toArray T (0,0)):=by show (w.heap.push _)[w.heap.size]?=_; simp
  refine ⟨_,_,κ',[],rfl,?_,.d (.sl w.heap.size 0 l.length l.length sz l vs rfl (Nat.le_refl _) hlen hvl (by rw [hS]; exact List.prefix_refl _) hsz (hr _)),rfl⟩
  refine g.patch (fun b=>w.heap.size≤b) (fun _=>False) (fun _=>False) rfl rfl rfl (by simp) (fun b hb=>.inr hb) (fun b hb=>⟨hold b (by omega),hS0 b (by omega)⟩) (fun b hb=>by show κ.S b <+: _; rw [g.memNew hb]; exact List.nil_prefix) (fun b _=>List.nil_prefix)
    (fun b hb hn=>?_) (fun n _=>hmt n) (fun n c hc _=>by simp [bget] at hc) (fun n c hc _=>by simp [bget] at hc) (fun _ _ _ h=>by simp [bget] at h) (fun t o ht _=>⟨by rw [← ho]; exact ht,fun b hb hb'=>?_⟩) (fun _ _ _ h=>h.elim) (fun _ _ _ _ _ _ _ h=>h.elim)
  · by_cases e:b=w.heap.size
    · subst e
      exact ⟨_,T,(0,0),hnew,by rw [hS]; exact List.prefix_refl _⟩
    · rw [hS0 b e] at hn
      exact absurd (g.memNew hb) hn
  · have:=(g.own t o (by rw [← ho]; exact ht)).1.lt hb
    omega
theorem aUs (S:Mem):∀ l:List ByteArray,(∀ b ∈ l,b.size≤maxLen)→bJ S (l.map Value.string) ((l.map (·.data.toList)).map fun b=>[D.s (bs b)]).flatten
  | [],_=>.nil
  | b::l,h=>by
    refine .cons ?_ (aUs S l fun b hb=>h b (List.mem_cons_of_mem _ hb))
    have:bs b.data.toList=b:=by simp [bs]
    rw [this]
    exact .s _ (h b (by simp))
theorem aWh (sep:List UInt8):∀ (k:Nat) (s b:List UInt8),b ∈ Lib.splitK sep 0 k s→b.length≤s.length
  | 0,s,b,h=>by simp [Lib.splitK] at h; simp [h]
  | k+1,s,b,h=>by
    unfold Lib.splitK at h
    split at h
    · simp at h; simp [h]
    · rcases List.mem_cons.1 h with rfl | h
      · simp; omega
      · have:=aWh sep k _ b h
        simp at this; omega
theorem bId {P : Program} {ρ : Shelf.Ren} (L : Proofs.Lays.n146 P ρ) (hi9 : (P.info? (ρ.t 9)).map (fun i => (i.zero, i.size, i.bytes)) = some (some (.string ByteArray.empty), 1, 16)) {f g : Nat} (hf : ρ.f 146 = f) (hg : ρ.g 1 = g) (ht : (g, J8 .i64) ∈ GV) (s sep : List UInt8) (r : List (List UInt8)) (h : aGt s sep = some r) :
    eX P f [.d (.s (bs s)),.d (.s (bs sep))] [] fun y _=>y=.d (.sl 1 (r.map fun b=>[.s (bs b)])):=by
  unfold aGt at h
  split at h
  · rename_i hc
    injection h with h
    have hdata:(Lib.splitB (bs sep) 0 (Lib.countB (bs s) (bs sep)) (bs s)).map (·.data.toList)=r:=by
      rw [Lib.splitB_data,pK,pK,← h]
      unfold Lib.split Lib.countB
      rw [pK,pK]
    have hall:=Lib.splitB_all (bs sep) (by rw [nH]; exact hc.2) 0 _ (bs s) rfl
    have hrl:r.length=Lib.countB (bs s) (bs sep)+1:=by rw [← hdata,List.length_map,hall]
    have hcount:Lib.countB (bs s) (bs sep)≤(bs s).size:=Lib.countB_le _ (by rw [nH]; exact hc.2) _ _ (Nat.le_refl _)
    rw [nH] at hcount
    refine bQh (fun e he=>by obtain ⟨b,_,rfl⟩:=List.mem_map.1 he; rfl) (by simp only [List.length_map,maxLen]; omega) fun κ w cargs hrep htab=>?_
    obtain ⟨u,v,rfl,h1,h2⟩:=aIg hrep
    obtain ⟨rfl,_⟩:=h1.toS
    obtain ⟨rfl,_⟩:=h2.toS
    obtain ⟨m,hm⟩:=aNr (htab _ ht).2
    subst hf hg
    refine (Proofs.Any.strings_Split L hi9 (bs s) (bs sep) m w (by rw [nH]; omega) hm (by rw [nH]; exact hc.2)).mono ?_
    rintro e w' ⟨rfl,rfl⟩
    refine ⟨_,_,by rw [List.length_map,hrl],rfl,fun S=>?_⟩
    rw [← hdata]
    refine aUs S _ fun b hb=>?_
    have hb':b.data.toList ∈ Lib.splitK sep 0 (Lib.count s sep) s:=by
      have:=List.mem_map_of_mem (f:=(·.data.toList)) hb
      rw [hdata,← h] at this
      exact this
    have:=aWh _ _ _ _ hb'
    have e2:b.size=b.data.toList.length:=by rw [Array.length_toList]; rfl
    rw [e2]; simp only [maxLen]; omega
  · simp at h
theorem bPz {P:Program} {ρ:Shelf.Ren} (L:Proofs.Lays.n137 P ρ) {f:Nat} (hf:ρ.f 137=f) (s:List UInt8) (c:Int):eX P f [.d (.s (bs s)),.d (.i .u8 c)] [] fun y _=>y=.d (.i .i64 (Lib.indexByte s c.toNat.toUInt8)):=by
  refine aG9 fun κ w cargs hrep htab=>?_
  obtain ⟨u,v,rfl,h1,h2⟩:=aIg hrep
  obtain ⟨rfl,hs⟩:=h1.toS
  obtain ⟨rfl,_,_⟩:=h2.toI
  subst hf
  refine (Proofs.Any.strings_IndexByte L (bs s) c w).mono ?_
  rintro e w' ⟨rfl,rfl⟩
  rw [pK]
  refine ⟨_,rfl,fun κ'=>.d (.i _ _ ?_ ?_),.refl w'⟩
  · have:=Lib.indexByte_ge s c.toNat.toUInt8
    show -9223372036854775808≤_
    omega
  · have:=Lib.index_le s [c.toNat.toUInt8]
    rw [Lib.index_one] at this
    rw [nH] at hs
    simp only [maxLen] at hs
    show _≤9223372036854775807
    omega
theorem bHk {P:Program} {ρ:Shelf.Ren} (L:Proofs.Lays.n143 P ρ) {f g:Nat} (hf:ρ.f 143=f) (hg:ρ.g 1=g) (ht:(g,J8 .i64) ∈ GV) (s sub:List UInt8) (r:Int) (h:aDr s sub=some r):eX P f [.d (.s (bs s)),.d (.s (bs sub))] [] fun y _=>y=.d (.i .i64 r):=by
  unfold aDr at h
  split at h
  · rename_i hc
    injection h with h
    subst h
    refine aG9 fun κ w cargs hrep htab=>?_
    obtain ⟨u,v,rfl,h1,h2⟩:=aIg hrep
    obtain ⟨rfl,_⟩:=h1.toS
    obtain ⟨rfl,_⟩:=h2.toS
    obtain ⟨m,hm⟩:=aNr (htab _ ht).2
    subst hf hg
    refine (Proofs.Any.strings_Index L (bs s) (bs sub) m w (by rw [nH]; omega) hm).mono ?_
    rintro e w' ⟨rfl,rfl⟩
    rw [pK,pK]
    refine ⟨_,rfl,fun κ'=>.d (.i _ _ ?_ ?_),.refl w'⟩
    · have:=Lib.index_ge s sub
      show -9223372036854775808≤_
      omega
    · have:=Lib.index_le s sub
      show _≤9223372036854775807
      omega
  · simp at h
structure yE (g15 g16 g17:Nat) (w:World):Prop where
  e15:rV w.heap[g15]?
  e16:rV w.heap[g16]?
  e17:U6 .u64 Lib.pow10Tab w.heap[g17]?
theorem aKr {w:World} {g:Nat} {o:Obj} (h:w.heap[g]?=some o):g<w.heap.size:=(Array.getElem?_eq_some_iff.1 h).1
theorem yE.grow {g15 g16 g17:Nat} {w w':World} (h:yE g15 g16 g17 w) (hw:iM w w'):yE g15 g16 g17 w':=by
  obtain ⟨h1,h2,h3⟩:=h
  refine ⟨?_,?_,?_⟩
  · obtain ⟨t,p,T,fr,e⟩:=h1
    exact ⟨t,p,T,fr,(hw.block _ (aKr e)).trans e⟩
  · obtain ⟨t,p,T,fr,e⟩:=h2
    exact ⟨t,p,T,fr,(hw.block _ (aKr e)).trans e⟩
  · obtain ⟨T,fr,e⟩:=h3
    exact ⟨T,fr,(hw.block _ (aKr e)).trans e⟩
theorem iM.trans {w1 w2 w3:World} (a:iM w1 w2) (b:iM w2 w3):iM w1 w3 :=
  ⟨b.os.trans a.os,b.tape.trans a.tape,b.output.trans a.output,Nat.le_trans a.size b.size,fun k hk=>(b.block k (Nat.lt_of_lt_of_le hk a.size)).trans (a.block k hk)⟩
theorem bEf {P : Program} {ρ : Shelf.Ren} (L : Proofs.LaysM.n171 P ρ) {g15 g16 : Nat} (n : Int) (h0 : -9223372036854775808 ≤ n) (h1 : n ≤ 9223372036854775807) (w : World) (hv : yE g15 g16 (ρ.g 17) w) :
    Calls P (ρ.f 171) #[.int .i64 n] w fun e w'=>e=.returned (.string ⟨(Lib.itoa n).toArray⟩)∧iM w w':=by
  refine (Proofs.Any.strconv_Itoa L n h0 h1 w ?_).mono ?_
  · have hm:=L.m17
    obtain ⟨T,fr,hh⟩:=hv.e17
    unfold Lib.TabIs World.var?
    rw [hm]
    simp only [Option.bind_some,hh]
  · rintro e w' ⟨rfl,k,os,rfl⟩
    exact ⟨rfl,iM.of_grow w k os⟩
theorem aLq {P : Program} {ρ : Shelf.Ren} (L : Proofs.LaysC.n172 P ρ) (s : ByteArray) (hs : s.size ≤ 2000000) (v : Int) (h : Lib.atoiAll s.data.toList = .ok v) (w : World) :
    Calls P (ρ.f 172) #[.string s] w fun e w'=>e=.returned (.tuple #[.int .i64 v,.nilIface])∧iM w w':=by
  have hs':s.size≤9223372036854775806:=by omega
  refine (Proofs.Any.strconv_Atoi_ok L s hs' v h w).mono ?_
  rintro e w' ⟨rfl,hw⟩
  refine ⟨rfl,?_⟩
  rcases hw with rfl | ⟨t,rfl⟩
  · exact iM.refl _
  · exact iM.of_below (Lib.bytesWorld_below _ _ _)
theorem aOs {w:World} {g:Nat} (h:rV w.heap[g]?):∃ ev,w.cell? ⟨g,0,none⟩=some ev∧(ev=.nilIface∨∃ te pe,ev=.iface te pe):=by
  obtain ⟨t,p,T,fr,e⟩:=h
  exact ⟨.iface t p,by simp [World.cell?,e],.inr ⟨t,p,rfl⟩⟩
theorem bHa {P : Program} {ρ : Shelf.Ren} (L : Proofs.LaysC.n172 P ρ) {g17 : Nat} (s : ByteArray) (hs : s.size ≤ 2000000) (h : ∀ v, Lib.atoiAll s.data.toList ≠ .ok v) (w : World) (hv : yE (ρ.g 15) (ρ.g 16) g17 w) :
    ∃ v:Int,Calls P (ρ.f 172) #[.string s] w fun e w'=>∃ t N,e=.returned (.tuple #[.int .i64 v,.iface t (.pointer (some ⟨N,0,none⟩))])∧iM w w':=by
  have hs':s.size≤281474976710656:=by omega
  rcases hc:Lib.atoiAll s.data.toList with v | _ | _
  · exact absurd hc (h v)
  · obtain ⟨ev,h1,h2⟩:=aOs hv.e15
    refine ⟨0,(Proofs.Any.strconv_Atoi_syntax L s hs' hc ev w h1 h2).mono ?_⟩
    rintro e w' ⟨N,rfl,_,_,hb⟩
    exact ⟨_,N,rfl,iM.of_below hb⟩
  · obtain ⟨ev,h1,h2⟩:=aOs hv.e16
    refine ⟨Lib.atoiSat s.data.toList,(Proofs.Any.strconv_Atoi_range L s hs' hc ev w h1 h2).mono ?_⟩
    rintro e w' ⟨N,rfl,_,_,hb⟩
    exact ⟨_,N,rfl,iM.of_below hb⟩
def aO5 (P:Program) (f g15 g16 g17:Nat):Prop:=∀ (s:ByteArray) (w:World),s.size≤2000000→yE g15 g16 g17 w →
  Calls P f #[.string s] w fun e w'=>e=.returned (.tuple #[.int .i64 (gN s.data.toList).1,.bool (gN s.data.toList).2])∧iM w w'
theorem bB0 (s:List UInt8) : -9223372036854775808≤(gN s).1∧(gN s).1≤9223372036854775807:=by
  unfold gN
  split
  · rename_i n hn
    have:=Lib.atoiAll_bounds hn
    split
    · exact ⟨by decide,by decide⟩
    · split
      · exact this
      · exact ⟨by decide,by decide⟩
  · exact ⟨by decide,by decide⟩
theorem bNx {P : Program} {f g15 g16 g17 : Nat} (walk : aO5 P f g15 g16 g17) (h15 : (g15, rV) ∈ GV) (h16 : (g16, rV) ∈ GV) (h17 : (g17, U6 .u64 Lib.pow10Tab) ∈ GV) (s : List UInt8) (hl : s.length ≤ 2000000) :
    eX P f [.d (.s (bs s))] [] fun y _=>y=.tup [.d (.i .i64 (gN s).1),.d (.b (gN s).2)]:=by
  refine aG9 fun κ w cargs hrep htab=>?_
  obtain ⟨v,hc,hr⟩:∃ v,cargs=[v]∧bH κ.S v (.s (bs s)):=by
    cases hrep with | cons a r=>cases r; exact ⟨_,rfl,a.toD⟩
  subst hc
  obtain rfl:v=.string (bs s):=by cases hr; rfl
  refine (walk (bs s) w (by rw [nH]; exact hl) ⟨(htab _ h15).2,(htab _ h16).2,(htab _ h17).2⟩).mono ?_
  rintro e w' ⟨rfl,hw⟩
  rw [pK]
  have hn:=bB0 s
  exact ⟨_,rfl,fun κ'=>.tup (cs:=[_,_]) (.cons (.d (bH.int .i64 hn)) (.cons (.d (.b _)) .nil)),hw⟩
theorem bGc {P : Program} {f g15 g16 g17 : Nat} (walk : aO5 P f g15 g16 g17) (h15 : (g15, rV) ∈ GV) (h16 : (g16, rV) ∈ GV) (h17 : (g17, U6 .u64 Lib.pow10Tab) ∈ GV) (s : List UInt8) (r : Int × Bool) (h : V4 s = some r) :
    eX P f [.d (.s (bs s))] [] fun y _=>y=.tup [.d (.i .i64 r.1),.d (.b r.2)]:=by
  unfold V4 at h
  split at h
  · rename_i hl
    injection h with h
    subst h
    exact bNx walk h15 h16 h17 s hl
  · simp at h
end Go.Ab
