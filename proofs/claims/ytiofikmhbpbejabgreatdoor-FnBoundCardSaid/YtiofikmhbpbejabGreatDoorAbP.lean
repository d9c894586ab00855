/- Functions of the library that only compute: contracts over abstract values,out of the kit's contracts. -/
import Derived.Test.YtiofikmhbpbejabGreatDoorAbC1
import Derived.Test.YtiofikmhbpbejabGreatDoorAbF1
import Derived.Shelf.Strconv.Itoa3
import Derived.Shelf.Strings.SplitShaped
import Derived.Shelf.Strconv.ErrVarAll
import Derived.Shelf.Strconv.AtoiAll
import Derived.Shelf.Small.Strs
import Derived.Lib.ItoaLen
import Derived.Lib.IndexBytes
namespace Go.Ab
open Go Go.RowKit
structure C9 (w w':World):Prop where
  os:w'.os=w.os
  tape:w'.tape=w.tape
  output:w'.output=w.output
  size:w.heap.size≤w'.heap.size
  block:∀ b,b<w.heap.size→w'.heap[b]?=w.heap[b]?
theorem C9.of_grow (w:World) (k:Nat) (os:Array Obj):C9 w (Sort.grow (w.drewN k) os):=by
  have h:(w.drewN k).heap=w.heap∧(w.drewN k).os=w.os∧(w.drewN k).tape=w.tape∧(w.drewN k).output=w.output:=by
    induction k generalizing w with
    | zero=>exact ⟨rfl,rfl,rfl,rfl⟩
    | succ k ih =>
      have:=ih w.drew
      exact this
  obtain ⟨h1,h2,h3,h4⟩:=h
  refine ⟨h2,h3,h4,?_,fun b hb=>?_⟩
  · rw [Sort.size_grow,h1]; omega
  · rw [Sort.heap_grow_old _ _ (by rw [h1]; exact hb),h1]
theorem bS4 {P:Program} {f:FuncId} {args:List V} {x:V}
    (h:∀ (κ:Ctx) (w:World) (cargs:List Value),bR κ cargs args→(∀ p∈GV,p.1<w.heap.size∧p.2 w.heap[p.1]?) →
      Calls P f cargs.toArray w fun e w'=>∃ v,e=.returned v∧(∀ κ':Ctx,aY κ' v x)∧C9 w w'):bJ P f args [] fun y _=>y=x:=by
  intro κ w cargs may g hrep
  refine (h κ w cargs hrep g.tabNow).mono ?_
  rintro e w' ⟨v,rfl,hv,hw⟩
  refine ⟨v,x,κ,[],rfl,?_,hv κ,rfl⟩
  refine g.patch (fun b=>w.heap.size≤b) (fun _=>False) (fun _=>False) hw.os hw.tape hw.output hw.size (fun b hb=>.inr hb) (fun b hb=>⟨hw.block b (by omega),rfl⟩) (fun b _=>g.frm.le b) (fun b _=>g.tab b)
    (fun b hb hn=>absurd (g.memNew hb) hn) (fun _ _=>rfl) (fun n c hc _=>by simp [bget] at hc) (fun n c hc _=>by simp [bget] at hc) (fun _ _ _ h=>by simp [bget] at h) (fun t o ho _=>⟨ho,fun b hb hb'=>?_⟩) (fun _ _ _ h=>h.elim) (fun _ _ _ _ _ _ _ h=>h.elim)
  have:=(g.own t o ho).1.lt hb
  omega
theorem bX2 {P:Program} {ρ:Shelf.Ren} (L:Proofs.LaysM.n171 P ρ) {f g:Nat} (hf:ρ.f 171=f) (hg:ρ.g 17=g) (ht:(g,aQn .u64 Lib.pow10Tab)∈GV) (n:Int) :
    bJ P f [.d (.i .i64 n)] [] fun y _=>y=.d (.s (bs (Lib.itoa n))):=by
  refine bS4 fun κ w cargs hrep htab=>?_
  obtain ⟨v,hc,hr⟩:∃ v,cargs=[v]∧eO κ.S v (.i .i64 n):=by
    cases hrep with | cons a r=>cases r; exact ⟨_,rfl,a.toD⟩
  subst hc
  obtain ⟨rfl,h0,h1⟩:=hr.toI
  have h0' : -9223372036854775808≤n:=h0
  have h1':n≤9223372036854775807:=h1
  subst hf
  refine (Proofs.Any.strconv_Itoa L n h0' h1' w ?_).mono ?_
  · have hm:=L.m17
    rw [hg] at hm
    obtain ⟨_,T,fr,hh⟩:=htab _ ht
    unfold Lib.TabIs World.var?
    rw [hm]
    simp only [Option.bind_some,hh]
  · rintro e w' ⟨rfl,k,os,rfl⟩
    refine ⟨_,rfl,fun κ'=>.d (.s _ ?_),C9.of_grow w k os⟩
    have:=Lib.itoa_length_le n h0' h1'
    show (Lib.itoa n).toArray.size≤maxLen
    simp only [List.size_toArray,maxLen]
    omega
theorem C9.refl (w:World):C9 w w:=⟨rfl,rfl,rfl,Nat.le_refl _,fun _ _=>rfl⟩
structure bA1 (g15 g16 g17:Nat) (w:World):Prop where
  e15:bJk w.heap[g15]?
  e16:bJk w.heap[g16]?
  e17:aQn .u64 Lib.pow10Tab w.heap[g17]?
theorem aX8 {w:World} {g:Nat} {o:Obj} (h:w.heap[g]?=some o):g<w.heap.size:=(Array.getElem?_eq_some_iff.1 h).1
theorem bA1.grow {g15 g16 g17:Nat} {w w':World} (h:bA1 g15 g16 g17 w) (hw:C9 w w'):bA1 g15 g16 g17 w':=by
  obtain ⟨h1,h2,h3⟩:=h
  refine ⟨?_,?_,?_⟩
  · obtain ⟨t,p,T,fr,e⟩:=h1
    exact ⟨t,p,T,fr,(hw.block _ (aX8 e)).trans e⟩
  · obtain ⟨t,p,T,fr,e⟩:=h2
    exact ⟨t,p,T,fr,(hw.block _ (aX8 e)).trans e⟩
  · obtain ⟨T,fr,e⟩:=h3
    exact ⟨T,fr,(hw.block _ (aX8 e)).trans e⟩
theorem C9.trans {w1 w2 w3:World} (a:C9 w1 w2) (b:C9 w2 w3):C9 w1 w3 :=
  ⟨b.os.trans a.os,b.tape.trans a.tape,b.output.trans a.output,Nat.le_trans a.size b.size,fun k hk=>(b.block k (Nat.lt_of_lt_of_le hk a.size)).trans (a.block k hk)⟩
end Go.Ab
