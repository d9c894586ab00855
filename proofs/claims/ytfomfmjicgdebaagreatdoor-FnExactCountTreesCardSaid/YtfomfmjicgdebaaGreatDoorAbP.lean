/- Functions of the library that only compute: contracts over abstract values,out of the kit's contracts. -/
import Derived.Test.YtfomfmjicgdebaaGreatDoorAbC1
import Derived.Test.YtfomfmjicgdebaaGreatDoorAbF1
import Derived.Shelf.Strconv.Itoa3
import Derived.Shelf.Strings.SplitShaped
import Derived.Shelf.Strconv.ErrVarAll
import Derived.Shelf.Strconv.AtoiAll
import Derived.Shelf.Small.Strs
import Derived.Lib.ItoaLen
import Derived.Lib.IndexBytes
namespace Go.Ab
open Go Go.RowKit
structure iR (w w':World):Prop where
  os:w'.os=w.os
  tape:w'.tape=w.tape
  output:w'.output=w.output
  size:w.heap.size≤w'.heap.size
  block:∀ b,b<w.heap.size→w'.heap[b]?=w.heap[b]?
theorem iR.of_grow (w:World) (k:Nat) (os:Array Obj):iR w (Sort.grow (w.drewN k) os):=by
  have h:(w.drewN k).heap=w.heap∧(w.drewN k).os=w.os∧(w.drewN k).tape=w.tape∧(w.drewN k).output=w.output:=by
    induction k generalizing w with
    | zero=>exact ⟨rfl,rfl,rfl,rfl⟩
    | succ k ih =>
      have:=ih w.drew
      exact this
  obtain ⟨h1,h2,h3,h4⟩:=h
  refine ⟨h2,h3,h4,?_,fun b hb=>?_⟩
  · rw [Sort.size_grow,h1]; omega
  · rw [Sort.heap_grow_old _ _ (by rw [h1]; exact hb),h1]
theorem bGw {P : Program} {f : FuncId} {args : List V} {x : V}
    (h:∀ (κ:Ctx) (w:World) (cargs:List Value),aV κ cargs args→(∀ p ∈ GV,p.1<w.heap.size∧p.2 w.heap[p.1]?) →
      Calls P f cargs.toArray w fun e w'=>∃ v,e=.returned v∧(∀ κ':Ctx,aL κ' v x)∧iR w w'):bI P f args [] fun y _=>y=x:=by
  intro κ w cargs may g hrep
  refine (h κ w cargs hrep g.tabNow).mono ?_
  rintro e w' ⟨v,rfl,hv,hw⟩
  refine ⟨v,x,κ,[],rfl,?_,hv κ,rfl⟩
  refine g.patch (fun b=>w.heap.size≤b) (fun _=>False) (fun _=>False) hw.os hw.tape hw.output hw.size (fun b hb=>.inr hb) (fun b hb=>⟨hw.block b (by omega),rfl⟩) (fun b _=>g.frm.le b) (fun b _=>g.tab b)
    (fun b hb hn=>absurd (g.memNew hb) hn) (fun _ _=>rfl) (fun n c hc _=>by simp [bget] at hc) (fun n c hc _=>by simp [bget] at hc) (fun _ _ _ h=>by simp [bget] at h) (fun t o ho _=>⟨ho,fun b hb hb'=>?_⟩) (fun _ _ _ h=>h.elim) (fun _ _ _ _ _ _ _ h=>h.elim)
  have:=(g.own t o ho).1.lt hb
  omega
theorem iR.refl (w:World):iR w w:=⟨rfl,rfl,rfl,Nat.le_refl _,fun _ _=>rfl⟩
theorem iR.of_below {w w':World} (h:Below w.heap.size w w'):iR w w':=⟨h.os,h.tape,h.output,h.size,h.block⟩
theorem zV (l:List UInt8):(bs l).size=l.length:=by simp [bs,ByteArray.size]
theorem N7 (l:List UInt8):(bs l).data.toList=l:=by simp [bs]
theorem aY2 {κ:Ctx} {cargs:List Value} {x y:D} (h:aV κ cargs [.d x,.d y]):∃ u v,cargs=[u,v]∧bR κ.S u x∧bR κ.S v y:=by
  cases h with | cons a r=>cases r with | cons b r=>cases r; exact ⟨_,_,rfl,a.toD,b.toD⟩
theorem aS6 {w:World} {g:Nat} {k:IntKind} (h:aB8 k w.heap[g]?):∃ m,w.cell? ⟨g,0,none⟩=some (.int k m):=by
  obtain ⟨m,cs,T,fr,hh,h0⟩:=h
  exact ⟨m,by simp only [World.cell?,hh]; exact h0⟩
theorem bFz {P : Program} {f : FuncId} {args : List V} {sz : Nat} {l : List (List D)} (hsz : ∀ e ∈ l, e.length = sz) (hlen : l.length ≤ maxLen)
    (h:∀ (κ:Ctx) (w:World) (cargs:List Value),aV κ cargs args→(∀ p ∈ GV,p.1<w.heap.size∧p.2 w.heap[p.1]?) →
      Calls P f cargs.toArray w fun e w'=>∃ vs T,e=.returned (.slice (some ⟨w.heap.size,0,none⟩) l.length l.length)∧w'=w.alloc (.cells (List.toArray vs) T)∧∀ S,bV S vs l.flatten):bI P f args [] fun y _=>y=.d (.sl sz l):=by
  intro κ w cargs may g hrep
  refine (h κ w cargs hrep g.tabNow).mono ?_
  rintro e w' ⟨vs,T,rfl,rfl,hr⟩
  obtain ⟨κ',hκ⟩:∃ k:Ctx,k=⟨upd κ.S w.heap.size vs,κ.mt,κ.o,κ.bl⟩:=⟨_,rfl⟩
  have hS:κ'.S w.heap.size=vs:=by rw [hκ]; exact upd_same _ _ _
  have hS0:∀ b,b≠w.heap.size→κ'.S b=κ.S b:=fun b hb=>by rw [hκ]; exact fU _ _ _ hb
  have ho:∀ t,κ'.o t=κ.o t:=fun t=>by rw [hκ]
  have hmt:∀ t,κ'.mt t=κ.mt t:=fun t=>by rw [hκ]
  clear hκ
  have hvl:vs.length=l.length * sz:=by rw [(hr κ.S).length,aAg hsz]
  have hold:∀ b,b<w.heap.size→(w.alloc (.cells vs.toArray T)).heap[b]?=w.heap[b]?:=fun b hb=>RowKit.Below.heap_alloc w _ b hb
  have hnew:(w.alloc (.cells vs.toArray T)).heap[w.heap.size]?=some (.cells vs.toArray T (0,0)):=by show (w.heap.push _)[w.heap.size]?=_; simp
  refine ⟨_,_,κ',[],rfl,?_,.d (.sl w.heap.size 0 l.length l.length sz l vs rfl (Nat.le_refl _) hlen hvl (by rw [hS]; exact List.prefix_refl _) hsz (hr _)),rfl⟩
  refine g.patch (fun b=>w.heap.size≤b) (fun _=>False) (fun _=>False) rfl rfl rfl (by simp) (fun b hb=>.inr hb) (fun b hb=>⟨hold b (by omega),hS0 b (by omega)⟩) (fun b hb=>by show κ.S b <+: _; rw [g.memNew hb]; exact List.nil_prefix) (fun b _=>List.nil_prefix)
    (fun b hb hn=>?_) (fun n _=>hmt n) (fun n c hc _=>by simp [bget] at hc) (fun n c hc _=>by simp [bget] at hc) (fun _ _ _ h=>by simp [bget] at h) (fun t o ht _=>⟨by rw [← ho]; exact ht,fun b hb hb'=>?_⟩) (fun _ _ _ h=>h.elim) (fun _ _ _ _ _ _ _ h=>h.elim)
  · by_cases e:b=w.heap.size
    · subst e
      exact ⟨_,T,(0,0),hnew,by rw [hS]; exact List.prefix_refl _⟩
    · rw [hS0 b e] at hn
      exact absurd (g.memNew hb) hn
  · have:=(g.own t o (by rw [← ho]; exact ht)).1.lt hb
    omega
theorem aMg (S:Mem):∀ l:List ByteArray,(∀ b ∈ l,b.size≤maxLen)→bV S (l.map Value.string) ((l.map (·.data.toList)).map fun b=>[D.s (bs b)]).flatten
  | [],_=>.nil
  | b::l,h=>by
    refine .cons ?_ (aMg S l fun b hb=>h b (List.mem_cons_of_mem _ hb))
    have:bs b.data.toList=b:=by simp [bs]
    rw [this]
    exact .s _ (h b (by simp))
theorem aPv (sep:List UInt8):∀ (k:Nat) (s b:List UInt8),b ∈ Lib.splitK sep 0 k s→b.length≤s.length
  | 0,s,b,h=>by simp [Lib.splitK] at h; simp [h]
  | k+1,s,b,h=>by
    unfold Lib.splitK at h
    split at h
    · simp at h; simp [h]
    · rcases List.mem_cons.1 h with rfl | h
      · simp; omega
      · have:=aPv sep k _ b h
        simp at this; omega
theorem aU9 {P : Program} {ρ : Shelf.Ren} (L : Proofs.Lays.n146 P ρ) (hi9 : (P.info? (ρ.t 9)).map (fun i => (i.zero, i.size, i.bytes)) = some (some (.string ByteArray.empty), 1, 16)) {f g : Nat} (hf : ρ.f 146 = f) (hg : ρ.g 1 = g) (ht : (g, aB8 .i64) ∈ GV) (s sep : List UInt8) (r : List (List UInt8)) (h : aDz s sep = some r) :
    bI P f [.d (.s (bs s)),.d (.s (bs sep))] [] fun y _=>y=.d (.sl 1 (r.map fun b=>[.s (bs b)])):=by
  unfold aDz at h
  split at h
  · rename_i hc
    injection h with h
    have hdata:(Lib.splitB (bs sep) 0 (Lib.countB (bs s) (bs sep)) (bs s)).map (·.data.toList)=r:=by
      rw [Lib.splitB_data,N7,N7,← h]
      unfold Lib.split Lib.countB
      rw [N7,N7]
    have hall:=Lib.splitB_all (bs sep) (by rw [zV]; exact hc.2) 0 _ (bs s) rfl
    have hrl:r.length=Lib.countB (bs s) (bs sep)+1:=by rw [← hdata,List.length_map,hall]
    have hcount:Lib.countB (bs s) (bs sep)≤(bs s).size:=Lib.countB_le _ (by rw [zV]; exact hc.2) _ _ (Nat.le_refl _)
    rw [zV] at hcount
    refine bFz (fun e he=>by obtain ⟨b,_,rfl⟩:=List.mem_map.1 he; rfl) (by simp only [List.length_map,maxLen]; omega) fun κ w cargs hrep htab=>?_
    obtain ⟨u,v,rfl,h1,h2⟩:=aY2 hrep
    obtain ⟨rfl,_⟩:=h1.toS
    obtain ⟨rfl,_⟩:=h2.toS
    obtain ⟨m,hm⟩:=aS6 (htab _ ht).2
    subst hf hg
    refine (Proofs.Any.strings_Split L hi9 (bs s) (bs sep) m w (by rw [zV]; omega) hm (by rw [zV]; exact hc.2)).mono ?_
    rintro e w' ⟨rfl,rfl⟩
    refine ⟨_,_,by rw [List.length_map,hrl],rfl,fun S=>?_⟩
    rw [← hdata]
    refine aMg S _ fun b hb=>?_
    have hb':b.data.toList ∈ Lib.splitK sep 0 (Lib.count s sep) s:=by
      have:=List.mem_map_of_mem (f:=(·.data.toList)) hb
      rw [hdata,← h] at this
      exact this
    have:=aPv _ _ _ _ hb'
    have e2:b.size=b.data.toList.length:=by rw [Array.length_toList]; rfl
    rw [e2]; simp only [maxLen]; omega
  · simp at h
structure uT (g15 g16 g17:Nat) (w:World):Prop where
  e15:pE w.heap[g15]?
  e16:pE w.heap[g16]?
  e17:K9 .u64 Lib.pow10Tab w.heap[g17]?
theorem aFj {w:World} {g:Nat} {o:Obj} (h:w.heap[g]?=some o):g<w.heap.size:=(Array.getElem?_eq_some_iff.1 h).1
theorem uT.grow {g15 g16 g17:Nat} {w w':World} (h:uT g15 g16 g17 w) (hw:iR w w'):uT g15 g16 g17 w':=by
  obtain ⟨h1,h2,h3⟩:=h
  refine ⟨?_,?_,?_⟩
  · obtain ⟨t,p,T,fr,e⟩:=h1
    exact ⟨t,p,T,fr,(hw.block _ (aFj e)).trans e⟩
  · obtain ⟨t,p,T,fr,e⟩:=h2
    exact ⟨t,p,T,fr,(hw.block _ (aFj e)).trans e⟩
  · obtain ⟨T,fr,e⟩:=h3
    exact ⟨T,fr,(hw.block _ (aFj e)).trans e⟩
theorem iR.trans {w1 w2 w3:World} (a:iR w1 w2) (b:iR w2 w3):iR w1 w3 :=
  ⟨b.os.trans a.os,b.tape.trans a.tape,b.output.trans a.output,Nat.le_trans a.size b.size,fun k hk=>(b.block k (Nat.lt_of_lt_of_le hk a.size)).trans (a.block k hk)⟩
theorem aRi {P : Program} {ρ : Shelf.Ren} (L : Proofs.LaysM.n171 P ρ) {g15 g16 : Nat} (n : Int) (h0 : -9223372036854775808 ≤ n) (h1 : n ≤ 9223372036854775807) (w : World) (hv : uT g15 g16 (ρ.g 17) w) :
    Calls P (ρ.f 171) #[.int .i64 n] w fun e w'=>e=.returned (.string ⟨(Lib.itoa n).toArray⟩)∧iR w w':=by
  refine (Proofs.Any.strconv_Itoa L n h0 h1 w ?_).mono ?_
  · have hm:=L.m17
    obtain ⟨T,fr,hh⟩:=hv.e17
    unfold Lib.TabIs World.var?
    rw [hm]
    simp only [Option.bind_some,hh]
  · rintro e w' ⟨rfl,k,os,rfl⟩
    exact ⟨rfl,iR.of_grow w k os⟩
theorem aHy {P : Program} {ρ : Shelf.Ren} (L : Proofs.LaysC.n172 P ρ) (s : ByteArray) (hs : s.size ≤ 2000000) (v : Int) (h : Lib.atoiAll s.data.toList = .ok v) (w : World) :
    Calls P (ρ.f 172) #[.string s] w fun e w'=>e=.returned (.tuple #[.int .i64 v,.nilIface])∧iR w w':=by
  have hs':s.size≤9223372036854775806:=by omega
  refine (Proofs.Any.strconv_Atoi_ok L s hs' v h w).mono ?_
  rintro e w' ⟨rfl,hw⟩
  refine ⟨rfl,?_⟩
  rcases hw with rfl | ⟨t,rfl⟩
  · exact iR.refl _
  · exact iR.of_below (Lib.bytesWorld_below _ _ _)
theorem aIe {w:World} {g:Nat} (h:pE w.heap[g]?):∃ ev,w.cell? ⟨g,0,none⟩=some ev∧(ev=.nilIface∨∃ te pe,ev=.iface te pe):=by
  obtain ⟨t,p,T,fr,e⟩:=h
  exact ⟨.iface t p,by simp [World.cell?,e],.inr ⟨t,p,rfl⟩⟩
theorem aXv {P : Program} {ρ : Shelf.Ren} (L : Proofs.LaysC.n172 P ρ) {g17 : Nat} (s : ByteArray) (hs : s.size ≤ 2000000) (h : ∀ v, Lib.atoiAll s.data.toList ≠ .ok v) (w : World) (hv : uT (ρ.g 15) (ρ.g 16) g17 w) :
    ∃ v:Int,Calls P (ρ.f 172) #[.string s] w fun e w'=>∃ t N,e=.returned (.tuple #[.int .i64 v,.iface t (.pointer (some ⟨N,0,none⟩))])∧iR w w':=by
  have hs':s.size≤281474976710656:=by omega
  rcases hc:Lib.atoiAll s.data.toList with v | _ | _
  · exact absurd hc (h v)
  · obtain ⟨ev,h1,h2⟩:=aIe hv.e15
    refine ⟨0,(Proofs.Any.strconv_Atoi_syntax L s hs' hc ev w h1 h2).mono ?_⟩
    rintro e w' ⟨N,rfl,_,_,hb⟩
    exact ⟨_,N,rfl,iR.of_below hb⟩
  · obtain ⟨ev,h1,h2⟩:=aIe hv.e16
    refine ⟨Lib.atoiSat s.data.toList,(Proofs.Any.strconv_Atoi_range L s hs' hc ev w h1 h2).mono ?_⟩
    rintro e w' ⟨N,rfl,_,_,hb⟩
    exact ⟨_,N,rfl,iR.of_below hb⟩
def aE2 (P:Program) (f g15 g16 g17:Nat):Prop:=∀ (s:ByteArray) (w:World),s.size≤2000000→uT g15 g16 g17 w →
  Calls P f #[.string s] w fun e w'=>e=.returned (.tuple #[.int .i64 (iA s.data.toList).1,.bool (iA s.data.toList).2])∧iR w w'
theorem aXp (s:List UInt8) : -9223372036854775808≤(iA s).1∧(iA s).1≤9223372036854775807:=by
  unfold iA
  split
  · rename_i n hn
    have:=Lib.atoiAll_bounds hn
    split
    · exact ⟨by decide,by decide⟩
    · split
      · exact this
      · exact ⟨by decide,by decide⟩
  · exact ⟨by decide,by decide⟩
theorem bBe {P : Program} {f g15 g16 g17 : Nat} (walk : aE2 P f g15 g16 g17) (h15 : (g15, pE) ∈ GV) (h16 : (g16, pE) ∈ GV) (h17 : (g17, K9 .u64 Lib.pow10Tab) ∈ GV) (s : List UInt8) (hl : s.length ≤ 2000000) :
    bI P f [.d (.s (bs s))] [] fun y _=>y=.tup [.d (.i .i64 (iA s).1),.d (.b (iA s).2)]:=by
  refine bGw fun κ w cargs hrep htab=>?_
  obtain ⟨v,hc,hr⟩:∃ v,cargs=[v]∧bR κ.S v (.s (bs s)):=by
    cases hrep with | cons a r=>cases r; exact ⟨_,rfl,a.toD⟩
  subst hc
  obtain rfl:v=.string (bs s):=by cases hr; rfl
  refine (walk (bs s) w (by rw [zV]; exact hl) ⟨(htab _ h15).2,(htab _ h16).2,(htab _ h17).2⟩).mono ?_
  rintro e w' ⟨rfl,hw⟩
  rw [N7]
  have hn:=aXp s
  exact ⟨_,rfl,fun κ'=>.tup (cs:=[_,_]) (.cons (.d (bR.int .i64 hn)) (.cons (.d (.b _)) .nil)),hw⟩
theorem bFv {P : Program} {f g15 g16 g17 : Nat} (walk : aE2 P f g15 g16 g17) (h15 : (g15, pE) ∈ GV) (h16 : (g16, pE) ∈ GV) (h17 : (g17, K9 .u64 Lib.pow10Tab) ∈ GV) (s : List UInt8) (r : Int × Bool) (h : P5 s = some r) :
    bI P f [.d (.s (bs s))] [] fun y _=>y=.tup [.d (.i .i64 r.1),.d (.b r.2)]:=by
  unfold P5 at h
  split at h
  · rename_i hl
    injection h with h
    subst h
    exact bBe walk h15 h16 h17 s hl
  · simp at h
end Go.Ab
