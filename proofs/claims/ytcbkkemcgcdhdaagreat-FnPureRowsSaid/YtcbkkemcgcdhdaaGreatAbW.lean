/- slices.Grow of an empty row that is handed over: the same row,with room. -/
import Derived.Test.YtcbkkemcgcdhdaaGreatAbS5
import Derived.Test.YtcbkkemcgcdhdaaGreatAbF2
import Derived.Shelf.Spec.SlicesGrow
namespace Go.Ab
open Go Go.RowKit
open _root_.Nat renaming zero_le→QA,le_refl→QB,beq→QC,zero_mul→QD
theorem bSk {P:Program} {ρ:Shelf.Ren} (L:Proofs.Lays8.n4 P ρ) {f e sz t t' k:Nat} {i0:TypeInfo} {z:Value} {α:Type} {c:α→List D} (hf:ρ.f 4=f) (he:ρ.t 25=e) (hi:P.info? e=some i0) (hz:i0.zero=some z) (hzs:z.cells.size=i0.size) (hs:i0.size=sz) (hp:0<sz) (hb:i0.bytes=k) (p:List α) (n:Int) :
    cO P f [.osl t e sz (p.map c),.d (.i .i64 n)] [] (fun y=>.osl t' e sz (y.map c)) (fun _=>[]) (aL9 k p n):=by
  intro r hr κ w cargs may g hrep
  unfold aL9 at hr
  split at hr
  · rename_i hc
    injection hr with hr
    subst hr
    obtain ⟨hp0,hn0,hn3,hn1⟩:=hc
    obtain rfl:=List.length_eq_zero_iff.1 hp0
    obtain ⟨v,u,rfl,hv,hu⟩:∃ v u,cargs=[v,u]∧aR κ v (.osl t e sz [])∧bR κ.S u (.i .i64 n):=by
      cases hrep with | cons a r=>cases r with | cons b r=>cases r; exact ⟨_,_,rfl,a,b.toD⟩
    obtain ⟨rfl,_,hn2⟩:=hu.toI
    obtain ⟨hvo,hvd⟩:κ.o t=some ⟨e,sz,v⟩∧bR κ.S v (.sl sz []):=by cases hv with | osl a b=>exact ⟨a,b⟩
    subst hf he hs hb
    obtain ⟨m,rfl⟩:∃ m:Nat,n=m:=⟨n.toNat,by omega⟩
    have hm:m * i0.bytes≤140737488355328:=by rw [← Int.natCast_mul] at hn1; omega
    have hm2:(m:Int)≤9223372036854775807:=hn2
    obtain ⟨j,xs,hO,hS⟩:=(g.own t _ hvo).1
    have hO2:=hO
    obtain ⟨base,cap,rfl,hcap,hbase⟩:∃ base cap,v=.slice base 0 cap∧cap≤maxLen∧((base=none∧cap=0)∨∃ gb cur T,base=some ⟨gb,0,none⟩∧Row (fun b=>w.heap[b]?) gb cur T∧cur.size=cap * i0.size):=by
      rcases hO.2 with ⟨rfl,_⟩ | ⟨gb,cap,cur,T,rfl,h1,_,h2,h3,h4,_⟩
      · exact ⟨none,0,rfl,QA _,.inl ⟨rfl,rfl⟩⟩
      · rcases hvd.slice with ⟨h,_⟩ | ⟨a,cp,h,_⟩ | ⟨b,off,cp,vs,h,_⟩
        · simp at h
        · injection h with _ h5 _; subst h5
          exact ⟨_,cap,rfl,h3,.inr ⟨gb,cur,T,rfl,h1,h4⟩⟩
        · injection h with _ h5 _; subst h5
          exact ⟨_,cap,rfl,h3,.inr ⟨gb,cur,T,rfl,h1,h4⟩⟩
    have hcap':cap≤9223372036854775807:=hcap
    by_cases hroom:m≤cap
    · refine (Proofs.Any8.slices_Grow_room L base 0 cap m w (QA _) hcap' (by omega) (by omega)).mono ?_
      rintro ex w' ⟨rfl,rfl⟩
      refine ⟨_,_,⟨κ.S,κ.mt,upd (upd κ.o t none) t' (some ⟨ρ.t 25,i0.size,.slice base 0 cap⟩),κ.bl⟩,[],rfl,?_,.osl (upd_same _ _ _) hvd,rfl,trivial⟩
      refine g.patch (fun b=>(Value.slice base 0 cap).ownBlock=some b) (fun _=>False) (fun u=>u=t') rfl rfl rfl (QB _) (fun b hb=>((g.own t _ hvo).2 b hb).1) (fun b hb=>⟨rfl,rfl⟩) (fun b _=>g.frm.le b) (fun b _=>g.tab b) (fun b _ h=>g.mem b h) (fun _ _=>rfl)
        (fun n c hc _=>by simp [bget] at hc) (fun n c hc _=>by simp [bget] at hc) (fun _ _ _ h=>by simp [bget] at h) (fun u o ho hne=>?_) ?_ ?_
      · simp only [upd,if_neg hne] at ho
        split at ho
        · simp at ho
        · rename_i h2
          exact ⟨ho,fun b hb hb'=>h2 (g.ownInj u t _ _ b ho hvo hb hb')⟩
      · rintro u o ho rfl
        simp only [upd,if_true,Option.some.injEq] at ho
        subst ho
        exact ⟨⟨j,xs,hO2,hS⟩,fun b hb=>⟨hb,fun n hn=>by simp [bget] at hn⟩⟩
      · rintro t1 t2 _ _ _ _ _ rfl rfl _ _
        rfl
    · obtain ⟨cs,hcl,hcs⟩:∃ cs:List Value,cs.length=cap * i0.size∧∀ a,base=some a→∀ j v,cs[j]?=some v→w.cell? (a.add j)=some v:=by
        rcases hbase with ⟨rfl,rfl⟩ | ⟨gb,cur,T,rfl,⟨fr,hh,_⟩,hsz⟩
        · exact ⟨[],by simp,fun a h=>by simp at h⟩
        · refine ⟨cur.toList,by simpa using hsz,fun a h j v hj=>?_⟩
          injection h with h; subst h
          have hadd:(⟨gb,0,none⟩:Addr).add j=⟨gb,j,none⟩:=by unfold Addr.add; split <;> simp_all
          rw [hadd]
          rw [Array.getElem?_toList] at hj
          simp [World.cell?,hh,hj]
      have hnil:base=none→cap=0:=fun h=>by
        rcases hbase with ⟨_,h2⟩ | ⟨gb,cur,T,h2,_⟩
        · exact h2
        · rw [h] at h2; simp at h2
      have hm63:m≤4611686018427387904:=by omega
      refine (Proofs.Any8.slices_Grow_grow L i0 z hi hz hp base 0 cap m cs w (QA _) (by omega) (by simpa using hm) (by omega) hcl hnil hcs).mono ?_
      rintro ex w' ⟨rfl,rfl⟩
      have hG:m≤grownCap w m cap (ρ.t 25):=grownCap_ge w _ _ _
      have hG2:grownCap w m cap (ρ.t 25)≤maxLen:=grownCap_le_maxLen w _ cap _ (by simp only [maxLen]; omega)
      simp only [Nat.zero_add]
      generalize hGg:grownCap w m cap (ρ.t 25)=G at hG hG2 ⊢
      refine ⟨_,_,⟨upd κ.S w.heap.size [],κ.mt,upd (upd κ.o t none) t' (some ⟨ρ.t 25,i0.size,.slice (some ⟨w.heap.size,0,none⟩) 0 G⟩),κ.bl⟩,[],rfl,?_,.osl (upd_same _ _ _) (.emp _ _ _ hG2),rfl,trivial⟩
      refine g.grow (gb:=w.heap.size) (cells:=[]) (t:=t) (d:=t') (e:=ρ.t 25) (sz:=i0.size) (v':=.slice (some ⟨w.heap.size,0,none⟩) 0 G) (k:=0) rfl rfl rfl (by show w.heap.size≤(w.heap.push _).size; rw [Array.size_push]; omega) (fun b hb _=>?_) rfl ?_ (.inr g.frm.size) ?_ rfl (fun n hn=>by simp [bget] at hn) (fun t' o _ ho'=>g.ownNe ho' (QB _)) (fun n c hc=>by simp [bget] at hc)
      · exact RowKit.Below.heap_alloc w.drew _ b hb
      · rw [g.memNew (QB _)]; exact List.nil_prefix
      · have hh:(w.drew.alloc (Obj.cells (cs.toArray++Builtin.zeroCells z.cells (m - cap)++Builtin.zeroCells z.cells (G - m)) (ρ.t 25))).heap[w.heap.size]?=some (Obj.cells (cs.toArray++Builtin.zeroCells z.cells (m - cap)++Builtin.zeroCells z.cells (G - m)) (ρ.t 25)):=by
          show (w.heap.push _)[w.heap.size]?=_
          simp
        refine ⟨(QD _).symm,.inr ⟨w.heap.size,G,_,ρ.t 25,rfl,.of hh,fun _=>hh,QA _,hG2,?_,by rw [QD]; rfl⟩⟩
        simp only [Array.size_append,List.size_toArray,size_zeroCells,hzs,hcl,← Nat.add_mul]
        congr 1
        omega
  · simp at hr
theorem cDg {P:Program} {ρ:Shelf.Ren} (L:Proofs.Lays8.n4 P ρ) {f e sz t t' k:Nat} {α:Type} {c:α→List D} {p:List α} {n:Int} (hf:ρ.f 4=f) (he:ρ.t 25=e)
    (h:(match P.info? e with | some i=>(match i.zero with | some z=>QC z.cells.size i.size&&QC i.size sz&&Nat.blt 0 sz&&QC i.bytes k | none=>false) | none=>false)=true:=by kernel_rfl) :
    cO P f [.osl t e sz (p.map c),.d (.i .i64 n)] [] (fun y=>.osl t' e sz (y.map c)) (fun _=>[]) (aL9 k p n):=by
  split at h
  · rename_i i hi
    split at h
    · rename_i z hz
      simp only [Bool.and_eq_true,Nat.beq_eq,Nat.blt_eq] at h
      exact bSk L hf he hi hz h.1.1.1 h.1.1.2 h.1.2 h.2 p n
    · simp at h
  · simp at h
end Go.Ab
