/- Soundness of the value operations: the last,and the theorem over all. -/
import Derived.Test.YtcbkkemcgcdhdaaGreatAb9
namespace Go.Ab
open Go Go.RowKit
open _root_.Option renaming map_eq_some_iff→QA
open _root_.Array renaming toArray_toList→QB,getElem?_toList→QF,ext'→QI
open _root_.List renaming getElem?_take→QC,getElem?_drop→QD,toArray→QE,length_map→QG,map_cons→QJ,map_toArray→QK,map_take→QL
open _root_.Nat renaming add_assoc→QH
section
variable {E:Entry} {N:Nat} {κ:Ctx} {w:World} {a:Act} {s:St} {P:Program} {C:V→Prop}
theorem cB9 (bs:List UInt8) (acc:ByteArray):(bs.map fun b=>(b.toNat:Int)).foldl (fun r n=>r.push (UInt8.ofNat n.toNat)) acc=⟨acc.data++bs.toArray⟩:=by
  induction bs generalizing acc with
  | nil=>simp
  | cons x l ih =>
    simp only [QJ,List.foldl_cons,ih]
    apply ByteArray.ext
    apply QI
    simp [ByteArray.push]
theorem bFk {S:Mem}:∀ {bs:List UInt8} {vs:List Value},bP S vs (bs.map (fun b=>[D.i .u8 b.toNat])).flatten→vs=(bs.map fun b=>(b.toNat:Int)).map (Value.int .u8)
  | [],vs,h=>by cases h; rfl
  | x::l,vs,h=>by
    simp only [QJ,List.flatten_cons,List.cons_append,List.nil_append] at h
    cases h with | cons a r=>rw [(a.toI).1,bFk r]; rfl
theorem bWp {e:TypeId} {x:Operand} {y:AO} {S T:TypeId} (hS:P.underlying S=some (.slice e)) (hT:P.underlying T=some .string) (hu8:P.underlying e=some (.int .u8)) (hx:trO P S x=some y) (he:∀ n,aR κ (a.tmps.getD n undef) (lk s.env n)) (hg:Good E κ w s.bx)
    (hv:use (ev s y) fun x=>slK x fun sz l=>sz=1∧∃ bs:List UInt8,l=bs.map (fun b=>[D.i .u8 b.toNat])∧C (.d (.s ⟨bs.toArray⟩))):Yields P κ w (do pure (.value (← convert S T (a.eval x)))) C:=by
  obtain ⟨p,hp,h1⟩:=opd hx he hv
  obtain ⟨sz,l,hr,rfl,bs,rfl,hC⟩:=aGy hp h1
  rcases hr.slice with ⟨hv,hl⟩ | ⟨aa,cap,hv,hl,_⟩ | ⟨b,off,cap,vs,hv,h4,h5,h6,h7,h8,h9⟩
  rotate_left
  · have:bs=[]:=by simpa using hl
    subst this
    refine yv (v:=.string .empty) ?_ (.d (.s _ (by simp [ByteArray.size,maxLen]))) hC
    rw [hv]
    simp [convert,fJ hS,fJ hT,fJ hu8,Conv.bytesToString,loadCells,loadCellsFrom]
  rotate_left
  · have:bs=[]:=by simpa using hl
    subst this
    refine yv (v:=.string .empty) ?_ (.d (.s _ (by simp [ByteArray.size,maxLen]))) hC
    rw [hv]
    simp [convert,fJ hS,fJ hT,fJ hu8,Conv.bytesToString]
  · have hvs:=bFk h9
    have hl:(loadCells ⟨b,off,none⟩ bs.length).run P w=.ok ((bs.map fun b=>(b.toNat:Int)).map (Value.int .u8)).toArray w:=by
      have:=run_loadCells_list (P:=P) w ⟨b,off,none⟩ vs (fun j u hu=>hg.cells h7 j u hu)
      rw [hvs] at this
      simpa using this
    refine yv (v:=.string ⟨bs.toArray⟩) ?_ (.d (.s _ ?_)) hC
    · rw [hv]
      simp only [QG]
      have h:=run_bytesToString (P:=P) w ⟨b,off,none⟩ bs.length cap _ hl
      rw [cB9,show (ByteArray.empty.data++bs.toArray)=bs.toArray by simp] at h
      simp only [convert,Sem.run_bind,fJ hS,fJ hT,fJ hu8,Result.andThen_ok,h]
    · simp only [QG] at h4
      simp only [ByteArray.size,List.size_toArray]
      omega
theorem bTr {T:TypeId} {c x y:Operand} {c' x' y':AO} (hc:trO P T c=some c') (hx:trO P T x=some x') (hy:trO P T y=some y') (he:∀ n,aR κ (a.tmps.getD n undef) (lk s.env n))
    (hv:use (ev s c') fun c=>dK c fun c=>match c with
    | .b b=>bK (ev s x') fun p u=>bK (ev s y') fun q v=>(b=true→p=true)∧(b=false→q=true)∧C (.d (.b (if b then u else v)))
    | _=>False) :
    Yields P κ w (do pure (.value (if ← asBool (a.eval c) then a.eval x else a.eval y))) C:=by
  obtain ⟨p,hp,h1⟩:=opd hc he hv
  obtain ⟨d,hd,h2⟩:=aNj hp h1
  split at h2
  · rename_i b
    have hb:=hd.toB
    obtain ⟨p,u,hpu,h3⟩:=bGp (aCf hx he) h2
    obtain ⟨q,v,hqv,h4,h5,hC⟩:=bGp (aCf hy he) h3
    refine ⟨if b then a.eval x else a.eval y,_,?_,?_,hC⟩
    · rw [hb]; cases b <;> simp [asBool]
    · cases b
      · simp only [Bool.false_eq_true,if_false]; rw [hqv (h5 rfl)]; exact .d (.b _)
      · simp only [if_true]; rw [hpu (h4 rfl)]; exact .d (.b _)
  · exact h2.elim
theorem bQx {T:TypeId} {fs:Array Field} {z:List V} {parts:List (Nat×Operand)} {ps:List (Nat×Nat×AO)} (hT:aL4 P T=some fs) (hz:M6 P T=some z) (hps:aCi P fs parts=some ps) (he:∀ n,aR κ (a.tmps.getD n undef) (lk s.env n))
    (hv:wS s ps z fun c=>∃ ds,V.asDs c=some ds∧C (.agg ds)):Yields P κ w (do pure (.value (← Instr.build T (parts.toArray.map fun (i,x)=>(i,a.eval x))))) C:=by
  unfold M6 at hz
  split at hz
  · rename_i ti hti
    split at hz
    · rename_i zv hzv
      unfold aL4 at hT
      split at hT
      · rename_i fs' hT'
        split at hT
        · rename_i hall
          simp at hT; subst hT
          obtain ⟨cs',c',h1,h2,ds,h3,h4⟩:=aY9 hps he (aI4 hz κ) hv
          refine yv ?_ (.agg (h2.asDs h3)) h4
          simp only [Instr.build,Sem.run_bind,zeroValue,typeInfo,run_program,Result.andThen_ok,hti,Sem.run_pure,hzv,fJ hT',bJf hall]
          rw [QB] at h1
          simp only [QK]
          rw [h1]
          rfl
        · simp at hT
      · simp at hT
    · simp at hz
  · simp at hz
theorem cDf {T:TypeId} {fs:Array Field} {z:List V} {parts:List (Nat×Operand)} {ps:List (Nat×Nat×AO)} (hT:aL4 P T=some fs) (hz:M6 P T=some z) (hps:aCi P fs parts=some ps) (he:∀ n,aR κ (a.tmps.getD n undef) (lk s.env n))
    (hv:wS s ps z fun c=>C (.agv c)):Yields P κ w (do pure (.value (← Instr.build T (parts.toArray.map fun (i,x)=>(i,a.eval x))))) C:=by
  unfold M6 at hz
  split at hz
  · rename_i ti hti
    split at hz
    · rename_i zv hzv
      unfold aL4 at hT
      split at hT
      · rename_i fs' hT'
        split at hT
        · rename_i hall
          simp at hT; subst hT
          obtain ⟨cs',c',h1,h2,h4⟩:=aY9 hps he (aI4 hz κ) hv
          refine yv ?_ (.agv h2) h4
          simp only [Instr.build,Sem.run_bind,zeroValue,typeInfo,run_program,Result.andThen_ok,hti,Sem.run_pure,hzv,fJ hT',bJf hall]
          rw [QB] at h1
          simp only [QK]
          rw [h1]
          rfl
        · simp at hT
      · simp at hT
    · simp at hz
  · simp at hz
theorem cC7 {T:TypeId} {x:Operand} {y:AO} (hx:trO P T x=some y) (hT:P.underlying T=some .string) (he:∀ n,aR κ (a.tmps.getD n undef) (lk s.env n)) (ty:TypeId)
    (hv:use (ev s y) fun x=>sK x fun b=>C (.d (.i .i64 b.size))):Yields P κ w (do pure (.value (← Builtin.len_ #[T] ty #[a.eval x]))) C:=by
  obtain ⟨p,hp,h1⟩:=opd hx he hv
  obtain ⟨b,hv,hb,hC⟩:=aRz hp h1
  refine yv ?_ (.d (bR.int .i64 (aL6 hb))) hC
  rw [hv]; simp [Builtin.len_,fJ hT,goInt]
theorem bWw {T e:TypeId} {x:Operand} {y:AO} (hx:trO P T x=some y) (hT:P.underlying T=some (.slice e)) (he:∀ n,aR κ (a.tmps.getD n undef) (lk s.env n)) (ty:TypeId)
    (hG:Good E κ w s.bx) (hv:use (ev s y) fun x=>match x with
    | .tre n=>trL s n fun l=>C (.d (.i .i64 l.length))
    | x=>O5 x C):Yields P κ w (do pure (.value (← Builtin.len_ #[T] ty #[a.eval x]))) C:=by
  obtain ⟨p,hp,h1⟩:=opd hx he hv
  split at h1
  · obtain ⟨l,q,cap,hC,h4,h2,h3,_⟩:=bLh hG h1
    have hv:a.eval x=.slice q l.length cap:=by
      generalize a.eval x=v at hp
      cases hp with | tre h=>rw [h4] at h; exact h.symm
    refine yv ?_ (.d (bR.int .i64 (aL6 (n:=l.length) (by omega)))) hC
    rw [hv]; simp [Builtin.len_,fJ hT,goInt]
  unfold O5 at h1
  split at h1
  · obtain ⟨hv,h2,h3⟩:=hp.toMsl
    refine yv ?_ (.d (bR.int .i64 (aL6 (n:=_) (by omega)))) h1
    rw [hv]; simp [Builtin.len_,fJ hT,goInt]
  obtain ⟨sz,l,hr,hC⟩:=aGy hp h1
  rcases hr.slice with ⟨hv,rfl⟩ | ⟨aa,cap,hv,rfl,_⟩ | ⟨b,off,cap,vs,hv,h2,h3,_⟩
  · refine yv (v:=.int .i64 0) ?_ (.d (bR.int .i64 (by decide))) hC
    rw [hv]; simp [Builtin.len_,fJ hT,goInt]
  · refine yv (v:=.int .i64 0) ?_ (.d (bR.int .i64 (by decide))) hC
    rw [hv]; simp [Builtin.len_,fJ hT,goInt]
  · refine yv ?_ (.d (bR.int .i64 (aL6 (n:=l.length) (by omega)))) hC
    rw [hv]; simp [Builtin.len_,fJ hT,goInt]
theorem bJz {T:TypeId} {ts:Array TypeId} {x y:Operand} {x' y':AO} (hxy:nV P ts.toList [x,y]=some [x',y']) (he:∀ n,aR κ (a.tmps.getD n undef) (lk s.env n)) :
    (∀ C:V→Prop,(use (ev s x') fun x=>use (ev s y') fun y=>match x,y with | .d (.i k a),.d (.i k' b)=>k=k'∧C (.d (.i k (if b>a then b else a))) | _,_=>False)→Yields P κ w (do pure (.value (← Builtin.max_ ts T #[a.eval x,a.eval y]))) C) ∧
    (∀ C:V→Prop,(use (ev s x') fun x=>use (ev s y') fun y=>match x,y with | .d (.i k a),.d (.i k' b)=>k=k'∧C (.d (.i k (if b<a then b else a))) | _,_=>False)→Yields P κ w (do pure (.value (← Builtin.min_ ts T #[a.eval x,a.eval y]))) C):=by
  have hs:=aH2 hxy he
  cases hs with | cons hx hs=>cases hs with | cons hy _ =>
  constructor
  · intro C hv
    obtain ⟨p,hp,h1⟩:=Q8 hx hv
    obtain ⟨q,hq,h2⟩:=Q8 hy h1
    split at h2
    · obtain ⟨rfl,hC⟩:=h2
      obtain ⟨h3,h4,h5⟩:=hp.toD.toI
      obtain ⟨h6,h7,h8⟩:=hq.toD.toI
      refine yv ?_ (.d (bR.int _ (by split <;> exact ⟨by assumption,by assumption⟩))) hC
      rw [h3,h6]; simp [Builtin.max_,Builtin.max2]
    · exact h2.elim
  · intro C hv
    obtain ⟨p,hp,h1⟩:=Q8 hx hv
    obtain ⟨q,hq,h2⟩:=Q8 hy h1
    split at h2
    · obtain ⟨rfl,hC⟩:=h2
      obtain ⟨h3,h4,h5⟩:=hp.toD.toI
      obtain ⟨h6,h7,h8⟩:=hq.toD.toI
      refine yv ?_ (.d (bR.int _ (by split <;> exact ⟨by assumption,by assumption⟩))) hC
      rw [h3,h6]; simp [Builtin.min_,Builtin.min2]
    · exact h2.elim
theorem cE6 (l:List D):V.asDs (l.map .d)=some l:=by
  induction l with
  | nil=>rfl
  | cons x l ih=>simp [V.asDs,V.asD,ih]
theorem aJm {T:TypeId} {ti:TypeInfo} {g:Bool} {b off:Nat} {cells:List V} {cs:List Value} (hti:P.info? T=some ti) (hg:X0 P T=some g) (hone:g=true∨ti.size=1)
    (hr:aZ κ cs cells) (hmem:∀ j u,cs[j]?=some u→w.cell? ((⟨b,off,none⟩:Addr).add j)=some u) (h:oV ti.size g cells C) :
    ∃ v x,(loadVar T ⟨b,off,none⟩).run P w=.ok v w∧aR κ v x∧C x:=by
  cases g with
  | true =>
    obtain ⟨h2,h3⟩:=h
    have hd:=hr.take ti.size
    refine ⟨_,_,?_,bI6 hd,h3⟩
    have hl:=run_loadCells_list (P:=P) w ⟨b,off,none⟩ (cs.take ti.size) (fun j u hu=>hmem j u (by
      rw [QC] at hu
      split at hu
      · exact hu
      · simp at hu))
    rw [hd.length,h2] at hl
    simp only [loadVar,Sem.run_bind,aNg hg,Result.andThen_ok,if_true,lU hti,hl,Sem.run_pure]
  | false =>
    obtain ⟨x,hx,hC⟩:=h
    have hx0:cells[0]?=some x:=by rw [← List.head?_eq_getElem?]; exact hx
    obtain ⟨v,hv,hrv⟩:=hr.get hx0
    have hm:=hmem 0 v hv
    have:(⟨b,off,none⟩:Addr).add 0=⟨b,off,none⟩:=rfl
    rw [this] at hm
    refine ⟨v,x,?_,hrv,hC⟩
    simp [loadVar,aNg hg,hm]
theorem dZ.drop {h:Nat→Option Obj}:∀ {vs:List Value} {xs:List D} {B:List Nat} (n:Nat),dZ h vs xs B→∃ B',dZ h (vs.drop n) (xs.drop n) B'
  | _,_,_,0,k=>⟨_,by simpa using k⟩
  | _,_,_,n+1,.nil=>⟨_,.nil⟩
  | _,_,_,n+1,.cons _ t=>by obtain ⟨B',k⟩:=t.drop n; exact ⟨B',by simpa using k⟩
theorem dZ.take {h:Nat→Option Obj}:∀ {vs:List Value} {xs:List D} {B:List Nat} (n:Nat),dZ h vs xs B→∃ B',dZ h (vs.take n) (xs.take n) B'
  | _,_,_,0,k=>⟨_,by simpa using dZ.nil⟩
  | _,_,_,n+1,.nil=>⟨_,.nil⟩
  | _,_,_,n+1,.cons a t=>by obtain ⟨B',k⟩:=t.take n; exact ⟨_,by simpa using dZ.cons a k⟩
theorem dZ.flatD {h:Nat→Option Obj} {S:Mem}:∀ {vs:List Value} {xs:List D} {B:List Nat},dZ h vs xs B→xs.all D.flat=true→bP S vs xs
  | _,_,_,.nil,_=>.nil
  | _,_,_,.cons a t,hx=>by
    simp only [List.all_cons,Bool.and_eq_true] at hx
    refine .cons ?_ (t.flatD hx.2)
    cases a with
    | b x=>exact .b x
    | i k n h1 h2=>exact .i k n h1 h2
    | s x h=>exact .s x h
    | _=>simp [D.flat] at hx
theorem bHp {T U:TypeId} {x:Operand} {y:AO} {ti:TypeInfo} {g:Bool} (hx:trO P U x=some y) (hti:P.info? T=some ti) (hg:X0 P T=some g) (hone:g=true∨ti.size=1) (he:∀ n,aR κ (a.tmps.getD n undef) (lk s.env n)) (hG:Good E κ w s.bx)
    (hv:use (ev s y) fun x=>match x with | .ptr b o=>∃ c,bget s.bx b=some c∧nU c=true∧oV ti.size g (c.drop o) C | .trp b sz i o=>(∃ l c,bget s.bx b=some (.tro sz i l::c)∧oV ti.size g (c.drop o) C)∨(∃ l ds,bget s.bx b=some [.trs sz l]∧l[i]?=some ds∧mU ti.size g (ds.drop o) C)∨(∃ l ds,bget s.bx b=some [.trc sz l]∧l[i]?=some ds∧((ds.drop o).take ti.size).all D.flat=true∧mU ti.size g ((ds.drop o).take ti.size) C) | .rp l=>mU ti.size g l C | _=>False) :
    Yields P κ w (do pure (.value (← Instr.loadAt T (a.eval x)))) C:=by
  have hvs:∀ {cs:List Value} {l:List D},bP κ.S cs l→aZ κ cs (l.map .d):=by
    intro cs l h
    induction l generalizing cs with
    | nil=>cases h; exact .nil
    | cons x l ih=>cases h with | cons a r=>exact .cons (.d a) (ih r)
  have h5':∀ l:List D,mU ti.size g l C→oV ti.size g (l.map V.d) C:=by
    intro l h1
    unfold mU at h1; unfold oV
    cases g with
    | true =>
      obtain ⟨h6,h7⟩:=h1
      refine ⟨by rw [← QL,QG]; exact h6,?_⟩
      have e:aG8 ((l.map V.d).take ti.size)=.agg (l.take ti.size):=by
        unfold aG8 K3
        rw [← QL,cE6,if_pos (by rw [List.all_map]; exact List.all_eq_true.2 fun _ _=>rfl)]
      rw [e]; exact h7
    | false =>
      obtain ⟨z,h6,h7⟩:=h1
      exact ⟨.d z,by simp [h6],h7⟩
  obtain ⟨p,hp,h1⟩:=opd hx he hv
  split at h1
  · rename_i n o
    obtain ⟨c,hc,hpl,h2⟩:=h1
    obtain ⟨cs,hh,hr,_⟩:=hG.plain hc hpl
    obtain ⟨v,z,h3,h4,h5⟩:=aJm (w:=w) (b:=κ.m n) (off:=o) hti hg hone (hr.drop o) (fun j u hu=>by
      rw [uI,World.cell?,hh]
      simp only [QD,QF] at hu
      simpa using hu) h2
    refine yv ?_ h4 h5
    rw [hp.toPtr]
    simpa [Instr.loadAt,Instr.sureAddr] using h3
  · rename_i n sz i o
    rcases h1 with ⟨l,c,hc,h2⟩ | ⟨l,ds,hc,hi,h2⟩ | ⟨l,ds,hc,hi,hfl,h2⟩
    case inr.inr =>
      obtain ⟨_,v0,T0,hmt,h3⟩:=(hG.box n _ hc).toClosed
      generalize κ.bl n=B at h3
      cases h3 with
      | nil=>simp at hi
      | sl b len cap _ _ B cs T hrw h4 hlen h5 h6 h7 h8 =>
        subst hlen
        obtain ⟨fr0,hh',_⟩:=hrw
        have hh:w.heap[b]?=some (.cells cs T fr0):=hh'
        have hex:a.eval x=.pointer (some ⟨b,i * sz+o,none⟩):=by
          generalize a.eval x=v at hp
          cases hp
          rw [show κ.m n=b by show (κ.mt n).1=b; rw [hmt]; rfl]
        obtain ⟨rest,hrest⟩:=bC2 h7 hi
        have hl:ds.length=sz:=h7 ds (List.mem_of_getElem? hi)
        obtain ⟨B1,r1⟩:=h8.drop (i * sz)
        obtain ⟨B2,r2⟩:=r1.take sz
        rw [hrest,List.take_left' hl] at r2
        obtain ⟨B3,r3⟩:=r2.drop o
        obtain ⟨B4,r4⟩:=r3.take ti.size
        have hr:=r4.flatD (S:=κ.S) hfl
        obtain ⟨v,z,j3,j4,j5⟩:=aJm (w:=w) (b:=b) (off:=i * sz+o) hti hg hone (hvs hr) (fun j u hu=>by
          rw [uI,World.cell?,hh]
          simp only [QD,QC] at hu
          split at hu
          · split at hu
            · split at hu
              · simp only [QF,← QH] at hu
                simpa using hu
              · simp at hu
            · simp at hu
          · simp at hu) (h5' _ h2)
        refine yv ?_ j4 j5
        rw [hex]
        simpa [Instr.loadAt,Instr.sureAddr] using j3
    case inr.inl =>
      obtain ⟨_,v0,T0,hmt,h3⟩:=(hG.box n _ hc).toShallow
      generalize κ.bl n=B at h3
      cases h3 with
      | nil e=>subst e; simp at hi
      | sl b cap cs T hrw h4 h5 h6 h7 h8 =>
        obtain ⟨fr0,hh',_⟩:=hrw
        have hh:w.heap[b]?=some (.cells cs T fr0):=hh'
        have hex:a.eval x=.pointer (some ⟨b,i * sz+o,none⟩):=by
          generalize a.eval x=v at hp
          cases hp
          rw [show κ.m n=b by show (κ.mt n).1=b; rw [hmt]; rfl]
        have hr:=h8.row h7 hi
        obtain ⟨v,z,j3,j4,j5⟩:=aJm (w:=w) (b:=b) (off:=i * sz+o) hti hg hone (hvs (hr.drop o)) (fun j u hu=>by
          rw [uI,World.cell?,hh]
          simp only [QD,QC] at hu
          split at hu
          · split at hu
            · simp only [QF,← QH] at hu
              simpa using hu
            · simp at hu
          · simp at hu) (h5' _ h2)
        refine yv ?_ j4 j5
        rw [hex]
        simpa [Instr.loadAt,Instr.sureAddr] using j3
    obtain ⟨b,cap,B,C',cs,T0,T',hmt,⟨fr0,hh',_⟩,_,_,_,_,_,_,hr,_⟩:=(hG.box n _ hc).toOpened
    have hh:w.heap[b]?=some (.cells cs T0 fr0):=hh'
    have hex:a.eval x=.pointer (some ⟨b,i * sz+o,none⟩):=by
      generalize a.eval x=v at hp
      cases hp
      rw [show κ.m n=b from congrArg Prod.fst hmt]
    obtain ⟨v,z,h3,h4,h5⟩:=aJm (w:=w) (b:=b) (off:=i * sz+o) hti hg hone (hr.drop o) (fun j u hu=>by
      rw [uI,World.cell?,hh]
      simp only [QD,QC] at hu
      split at hu
      · simp only [QF,← QH] at hu
        simpa using hu
      · simp at hu) h2
    refine yv ?_ h4 h5
    rw [hex]
    simpa [Instr.loadAt,Instr.sureAddr] using h3
  · obtain ⟨b,o,vs,h2,h3,h4⟩:=hp.toRp
    have hcells:=hG.cells h3
    obtain ⟨v,z,h6,h7,h8⟩:=aJm (w:=w) (b:=b) (off:=o) hti hg hone (hvs h4) hcells (h5' _ h1)
    refine yv ?_ h7 h8
    rw [h2]
    simpa [Instr.loadAt,Instr.sureAddr] using h6
  · exact h1.elim
theorem bFt {T:TypeId} {x:Operand} {y:AO} (hx:trO P T x=some y) (he:∀ n,aR κ (a.tmps.getD n undef) (lk s.env n)) :
    (∀ C:V→Prop,(use (ev s y) fun x=>dK x fun x=>match x with | .b b=>C (.d (.b (!b))) | _=>False)→Yields P κ w (do pure (.value (← Op.unary .not (a.eval x)))) C) ∧
    (∀ C:V→Prop,(use (ev s y) fun x=>dK x fun x=>match x with | .i k n=>C (.d (.i k (k.wrap (0 - n)))) | _=>False)→Yields P κ w (do pure (.value (← Op.unary .neg (a.eval x)))) C):=by
  constructor
  · intro C hv
    obtain ⟨p,hp,h1⟩:=opd hx he hv
    obtain ⟨d,hd,h2⟩:=aNj hp h1
    split at h2
    · refine yv ?_ (.d (.b _)) h2
      rw [hd.toB]; simp [Op.unary]
    · exact h2.elim
  · intro C hv
    obtain ⟨p,hp,h1⟩:=opd hx he hv
    obtain ⟨d,hd,h2⟩:=aNj hp h1
    split at h2
    · refine yv ?_ (.d (bR.int _ (aV3 _ _))) h2
      rw [(hd.toI).1]; simp [Op.unary,Op.intArith]
    · exact h2.elim
theorem cF3 {S T:TypeId} {k k0:IntKind} {x:Operand} {y:AO} (hS:P.underlying S=some (.int k0)) (hT:P.underlying T=some (.int k)) (hx:trO P S x=some y) (he:∀ n,aR κ (a.tmps.getD n undef) (lk s.env n))
    (hv:use (ev s y) fun x=>iK x fun n=>C (.d (.i k (k.wrap n)))):Yields P κ w (do pure (.value (← convert S T (a.eval x)))) C:=by
  obtain ⟨p,hp,h1⟩:=opd hx he hv
  obtain ⟨k',n,hn,_,_,hC⟩:=E5 hp h1
  refine yv ?_ (.d (bR.int _ (aV3 _ _))) hC
  rw [hn]; simp [convert,fJ hS,fJ hT,Conv.intToInt]
theorem bIa {ts:List TypeId} {xs:List Operand} {p q:AO} (h:nV P ts xs=some [p,q]):∃ x y,xs=[x,y]:=by
  have hl:∀ {ts:List TypeId} {xs:List Operand} {ys:List AO},nV P ts xs=some ys→xs.length=ys.length:=by
    intro ts
    induction ts with
    | nil=>intro xs ys h; cases xs <;> simp [nV] at h; subst h; rfl
    | cons t ts ih =>
      intro xs ys h
      cases xs with
      | nil=>simp [nV] at h
      | cons x xs =>
        simp only [nV] at h
        split at h <;> simp at h
        rename_i h2; subst h; simp [ih h2]
  have:=hl h
  match xs,this with
  | [x,y],_=>exact ⟨x,y,rfl⟩
theorem bI4 {o:Oper} {ao:AOp} (htr:eO P o=some ao) (he:∀ n,aR κ (a.tmps.getD n undef) (lk s.env n)) (hG:Good E κ w s.bx) (hv:vop s C ao) :
    (∃ d,o.dst=some d∧ao.dst=some d)∧Yields P κ w (execOp a.eval o) C:=by
  obtain ⟨dst,op,type,pos,after,guard⟩:=o
  cases op with
  | move x =>
    simp only [eO] at htr; split at htr <;> simp at htr; subst htr; rename_i h2
    obtain ⟨p,hp,hC⟩:=opd h2 he hv
    exact ⟨⟨_,rfl,rfl⟩,a.eval x,p,rfl,hp,hC⟩
  | assign x =>
    simp only [eO] at htr; split at htr <;> simp at htr; subst htr; rename_i h2
    obtain ⟨p,hp,hC⟩:=opd h2 he hv
    exact ⟨⟨_,rfl,rfl⟩,a.eval x,p,rfl,hp,hC⟩
  | pick c x y =>
    simp only [eO] at htr; split at htr <;> simp at htr; subst htr; rename_i h2 h3 h4
    exact ⟨⟨_,rfl,rfl⟩,bTr h2 h3 h4 he hv⟩
  | binOp op T x y U =>
    simp only [eO] at htr; split at htr
    · rename_i h2 h3
      split at htr
      · simp at htr; subst htr; exact ⟨⟨_,rfl,rfl⟩,bMs h2 h3 he hv⟩
      · simp at htr; subst htr; exact ⟨⟨_,rfl,rfl⟩,bMs h2 h3 he hv⟩
      · rename_i hT
        obtain ⟨n,hn,rfl⟩:=QA.1 htr
        exact ⟨⟨_,rfl,rfl⟩,bP3 hT hn h2 h3 he hv⟩
      · rename_i hT
        split at htr
        · rename_i hc
          split at htr <;> simp at htr
          rename_i h4 h5
          subst htr
          exact ⟨⟨_,rfl,rfl⟩,cJy hT hc.1 hc.2 h5 h4 h2 h3 he hv⟩
        · simp at htr
      · rename_i hT
        split at htr
        · rename_i hn
          obtain ⟨n,hn',rfl⟩:=QA.1 htr
          exact ⟨⟨_,rfl,rfl⟩,bYm hT hn' h2 hn he hG hv⟩
        · simp at htr
      · simp at htr
    · simp at htr
  | unOp op T x =>
    simp only [eO] at htr; split at htr
    · rename_i h2
      split at htr <;> simp at htr <;> subst htr
      · exact ⟨⟨_,rfl,rfl⟩,(bFt h2 he).1 _ hv⟩
      · exact ⟨⟨_,rfl,rfl⟩,(bFt h2 he).2 _ hv⟩
    · simp at htr
  | convert S T x =>
    simp only [eO] at htr; split at htr
    · rename_i h2
      split at htr
      · rename_i hS hT; simp at htr; subst htr; exact ⟨⟨_,rfl,rfl⟩,cF3 hS hT h2 he hv⟩
      · rename_i hS hT
        split at htr <;> simp at htr
        rename_i hu; subst htr; exact ⟨⟨_,rfl,rfl⟩,bWp hS hT hu h2 he hG hv⟩
      · split at htr <;> simp at htr
        subst htr; exact hv.elim
      · simp at htr
    · simp at htr
  | field T x i =>
    simp only [eO] at htr; split at htr
    · rename_i h2 h3
      split at htr
      · rename_i h4
        split at htr <;> simp at htr
        rename_i h5 h6; subst htr
        exact ⟨⟨_,rfl,rfl⟩,bTj h2 h3 h4 h5 h6 he hv⟩
      · simp at htr
    · simp at htr
  | fieldAddr T x i =>
    simp only [eO] at htr; split at htr
    · rename_i h2 h3
      split at htr
      · rename_i h4
        split at htr
        · rename_i h5
          split at htr <;> simp at htr
          rename_i h6; subst htr
          exact ⟨⟨_,rfl,rfl⟩,cI4 h2 h3 h4 h5 h6 he hv⟩
        · simp at htr
      · simp at htr
    · simp at htr
  | indexAddr T x i =>
    simp only [eO] at htr; split at htr
    · rename_i h2 h3 h4
      split at htr <;> simp at htr
      rename_i h5; subst htr
      exact ⟨⟨_,rfl,rfl⟩,cKi h2 h3 h4 h5 he hG hv⟩
    · simp at htr
  | index T x i =>
    simp only [eO] at htr; split at htr <;> simp at htr
    rename_i h2 h3 h4; subst htr
    exact ⟨⟨_,rfl,rfl⟩,bXy h2 h3 h4 he hv⟩
  | slice T x lo hi mx =>
    simp only [eO] at htr; split at htr
    · rename_i h2 h3 h4 h5
      split at htr
      · rename_i hT
        split at htr <;> simp at htr
        rename_i hn; subst htr
        rcases wQ h5 with ⟨rfl,rfl⟩ | ⟨o,z,rfl,rfl,_⟩
        · exact ⟨⟨_,rfl,rfl⟩,bSg hT h2 h3 h4 he hv⟩
        · simp at hn
      · rename_i hT
        split at htr <;> simp at htr
        rename_i h6; subst htr
        exact ⟨⟨_,rfl,rfl⟩,cC1 hT h6 h2 h3 h4 h5 he hv⟩
      · simp at htr
    · simp at htr
  | build T parts =>
    simp only [eO] at htr; split at htr
    · rename_i h2 h3
      obtain ⟨ps,h4,rfl⟩:=QA.1 htr
      exact ⟨⟨_,rfl,rfl⟩,bQx h2 h3 h4 he hv⟩
    · simp at htr
  | buildSlice T len parts =>
    simp only [eO] at htr; split at htr
    · split at htr
      · split at htr
        · split at htr <;> simp at htr
          subst htr; exact hv.elim
        · simp at htr
      · simp at htr
    · simp at htr
  | makeFunc fn first caps =>
    simp only [eO] at htr; split at htr
    · rename_i h1
      split at htr
      · rename_i hf
        obtain ⟨cs,h2,rfl⟩:=QA.1 htr
        refine ⟨⟨_,rfl,rfl⟩,.func (.func h1) #[] (caps.map a.eval),_,?_,?_,hv⟩
        · have:first=#[]:=by simpa using hf.1
          subst this
          simp [execOp,Instr.makeFunc]
        · have h3:=aH2 h2 he
          rw [show caps.map a.eval=(caps.toList.map a.eval).toArray by apply QI; simp]
          exact (aR.fn hf.2 h3).fnd
      · split at htr
        · rename_i hf
          obtain ⟨cs,h2,rfl⟩:=QA.1 htr
          refine ⟨⟨_,rfl,rfl⟩,.func (.func h1) (first.map a.eval) #[],_,?_,?_,hv⟩
          · have:caps=#[]:=by simpa using hf
            subst this
            simp [execOp,Instr.makeFunc]
          · have h3:=aH2 h2 he
            rw [show first.map a.eval=(first.toList.map a.eval).toArray by apply QI; simp]
            exact (aR.fnm h3).fnd
        · simp at htr
    · simp at htr
  | extract x i =>
    simp only [eO] at htr; split at htr <;> simp at htr
    rename_i h2; subst htr
    obtain ⟨p,hp,h3⟩:=opd h2 he hv
    refine ⟨⟨_,rfl,rfl⟩,?_⟩
    split at h3
    · obtain ⟨z,hz,hC⟩:=h3
      obtain ⟨cs,hex,hr⟩:=hp.toTup
      obtain ⟨v,hv',hrv⟩:=hr.get hz
      refine yv ?_ hrv hC
      rw [hex]; simp [Instr.extract,hv']
    · exact h3.elim
  | nilCheck x =>
    simp only [eO] at htr; split at htr <;> simp at htr
    rename_i h2; subst htr
    obtain ⟨p,hp,h3⟩:=opd h2 he hv
    refine ⟨⟨_,rfl,rfl⟩,a.eval x,p,?_,hp,?_⟩
    · split at h3
      · simp [execOp,hp.toPtr]
      · rename_i m sz i o
        have hex:a.eval x=.pointer (some ⟨κ.m m,i * sz+o,none⟩):=by
          generalize a.eval x=v at hp
          cases hp; rfl
        simp [execOp,hex]
      · obtain ⟨b,o,vs,h4,_⟩:=hp.toRp
        simp [execOp,h4]
      · obtain ⟨g,fs,cs,h4⟩:=hp.anyFn
        simp [execOp,h4]
      · exact h3.elim
    · split at h3
      · exact h3
      · exact h3
      · exact h3
      · exact h3
      · exact h3.elim
  | load T x =>
    simp only [eO] at htr; split at htr
    · rename_i h2 h3 h4
      split at htr <;> simp at htr
      rename_i h5; subst htr
      exact ⟨⟨_,rfl,rfl⟩,bHp h2 h3 h4 (by simpa using h5) he hG hv⟩
    · simp at htr
  | box T x =>
    simp only [eO] at htr; split at htr <;> simp at htr
    subst htr; exact hv.elim
  | makeSlice T l c =>
    simp only [eO] at htr; split at htr
    · split at htr
      · split at htr
        · split at htr
          · split at htr <;> simp at htr
            subst htr; exact hv.elim
          · simp at htr
        · simp at htr
      · simp at htr
    · simp at htr
  | alloc T =>
    simp only [eO] at htr; split at htr
    · split at htr <;> simp at htr
      subst htr; exact hv.elim
    · simp at htr
  | store T x y =>
    simp only [eO] at htr; split at htr <;> simp at htr
    subst htr; exact hv.elim
  | call c =>
    obtain ⟨callee,args,argTypes⟩:=c
    simp only [eO] at htr
    split at htr
    · split at htr
      · rename_i h2 h3
        have e2:=congrArg QE h2
        have e3:=congrArg QE h3
        simp only [QB] at e2 e3
        subst e2; subst e3
        split at htr <;> simp at htr
        · rename_i h4 h5; subst htr
          obtain ⟨v,z,h6,h7,h8⟩:=cC7 (w:=w) h4 h5 he type hv
          exact ⟨⟨_,rfl,rfl⟩,v,z,by simpa [execOp,resolve,invoke,builtin] using h6,h7,h8⟩
        · rename_i h4 h5; subst htr
          obtain ⟨v,z,h6,h7,h8⟩:=bWw (w:=w) h4 h5 he type hG hv
          exact ⟨⟨_,rfl,rfl⟩,v,z,by simpa [execOp,resolve,invoke,builtin] using h6,h7,h8⟩
      · simp at htr
    · split at htr <;> simp at htr
      rename_i h2; subst htr
      obtain ⟨x,y,hxy⟩:=bIa h2
      have e2:=congrArg QE hxy
      simp only [QB] at e2
      subst e2
      obtain ⟨v,z,h6,h7,h8⟩:=(bJz (w:=w) (T:=type) h2 he).1 C hv
      exact ⟨⟨_,rfl,rfl⟩,v,z,by simpa [execOp,resolve,invoke,builtin] using h6,h7,h8⟩
    · split at htr <;> simp at htr
      rename_i h2; subst htr
      obtain ⟨x,y,hxy⟩:=bIa h2
      have e2:=congrArg QE hxy
      simp only [QB] at e2
      subst e2
      obtain ⟨v,z,h6,h7,h8⟩:=(bJz (w:=w) (T:=type) h2 he).2 C hv
      exact ⟨⟨_,rfl,rfl⟩,v,z,by simpa [execOp,resolve,invoke,builtin] using h6,h7,h8⟩
    · split at htr
      · split at htr
        · split at htr
          · split at htr
            · split at htr <;> simp at htr
              subst htr; exact hv.elim
            · simp at htr
          · simp at htr
        · simp at htr
      · simp at htr
    · split at htr
      · split at htr
        · split at htr <;> simp at htr
          subst htr; exact hv.elim
        · simp at htr
      · simp at htr
    · split at htr <;> simp at htr
      subst htr; exact hv.elim
    · simp at htr
  | _=>simp [eO] at htr; subst htr; exact (cFx hv).elim
end
end Go.Ab
