/- From the statement's readings to represented data: what can be read is data of its type. -/
import Derived.Test.YtcbkkemcgcdhdaaGreatAbS3
import Derived.ProofKit
import Derived.OpenShut
import Derived.ChangeStays
namespace Go.Ab
open Go Go.RowKit
open _root_.Bool renaming and_eq_true→QA
open _root_.List renaming all_eq_true→QB,mem_cons_self→QC,contains_eq_mem→QD,mem_cons→QE,drop_eq_nil_of_le→QF,mem_append→QG
open _root_.Nat renaming le_refl→QH
def wH (w:World):Mem:=fun b=>match w.heap[b]? with
  | some (.cells cs _ _)=>cs.toList
  | _=>[]
theorem cDx {w:World} {b:Nat} {cs:Array Value} {T:TypeId} {fr:Nat×Nat} (h:w.heap[b]?=some (.cells cs T fr)):wH w b=cs.toList:=by
  simp only [wH,h]
def Q6 (w:World):Ctx:=⟨wH w,fun n=>(n,0,undef),fun _=>none,fun _=>[]⟩
theorem bX1 (w:World) (htabx:∀ p∈GV,p.1<w.heap.size∧p.2 w.heap[p.1]?):Good ⟨Q6 w,w,[],fun _=>False⟩ (Q6 w) w []:=by
  refine ⟨⟨rfl,rfl,rfl,QH _,fun _ _ _=>rfl,fun _ _ _=>rfl,fun _ h=>by simp at h,Mem.le_refl _⟩,fun b hb=>?_,fun n c hc=>by simp [bget] at hc,fun n hn=>by simp [bget] at hn,fun n n' b hn=>by simp [bget] at hn,fun t o ho=>by simp [Q6] at ho,fun t t' o o' gg ho=>by simp [Q6] at ho,fun _=>List.nil_prefix,fun b hb=>⟨fun h=>h,htabx b hb⟩⟩
  simp only [Q6,wH] at hb ⊢
  split at hb
  · rename_i cs T fr h
    exact ⟨cs,T,fr,h,List.prefix_refl _⟩
  · simp at hb
inductive WtC (P:Program):TypeId→List D→Prop
  | b {t:TypeId} (x:Bool):P.underlying t=some .bool→WtC P t [.b x]
  | i {t:TypeId} {k:IntKind} (n:Int):P.underlying t=some (.int k)→WtC P t [.i k n]
  | s {t:TypeId} (x:ByteArray):P.underlying t=some .string→WtC P t [.s x]
  | sl {t e:TypeId} (l:List (List D)):P.underlying t=some (.slice e)→(∀ x∈l,WtC P e x)→WtC P t [.sl (P.cellsOf e) l]
  | st {t:TypeId} {fs:Array Field} (l:List D):P.underlying t=some (.struct fs)→l.length=P.cellsOf t→(∀ f∈fs.toList,WtC P f.type ((l.drop f.offset).take (P.cellsOf f.type)))→WtC P t l
def xA (P:Program):Nat→List Field→Nat→Bool
  | n,[],m=>n==m
  | n,f::fs,m=>f.offset==n&&xA P (n+P.cellsOf f.type) fs m
def aB9 (P:Program) (ts:List TypeId):Bool:=ts.all fun t=>match P.underlying t with
  | some .bool | some (.int _) | some .string=>true
  | some (.slice e)=>ts.contains e&&decide (0<P.cellsOf e)
  | some (.struct fs)=>(fs.toList.all fun f=>ts.contains f.type)&&xA P 0 fs.toList (P.cellsOf t)
  | _=>false
section
variable {H:Type} {enc:TypeId×Value→H} {P:Program} {w:World} {base:Nat} {spare:Nat→Bool} {held:Bool} {ts:List TypeId}
theorem bP.take_drop {S:Mem} {vs:List Value} {xs:List D} (h:bP S vs xs) (a n:Nat):bP S ((vs.drop a).take n) ((xs.drop a).take n):=(h.drop a).take n
theorem bWm {α:Type} {f:Nat→Option α}:∀ {n:Nat} {l:List α},(List.range n).mapM f=some l→l.length=n∧∀ i,i<n→f i=l[i]?:=by
  intro n l h
  exact ⟨by simpa using mapM_some_length h,fun i hi=>mapM_some_get h i i (by simp [hi])⟩
theorem bHf {a:Addr} {n:Nat} {cs:List Value} (h:w.cells? base a n=some cs):cs.length=n∧∀ i,i<n→w.cell? (a.add i)=cs[i]?:=by
  unfold World.cells? at h
  split at h
  · exact bWm h
  · simp at h
theorem cell_spot {a:Addr} {u:Value} (h:w.cell? a=some u):a.spot=none∧(wH w a.block)[a.off]?=some u:=by
  unfold World.cell? at h
  split at h
  · rename_i c T fr hh
    split at h
    · simp at h
    · rename_i hs
      refine ⟨by simpa using hs,?_⟩
      rw [cDx hh]
      simpa using h
  · simp at h
theorem bF5 {a:Addr} (h:a.spot=none) (n:Nat):a.add n=⟨a.block,a.off+n,none⟩:=by
  unfold Addr.add
  split
  · rename_i h0; subst h0; cases a; simp_all
  · rfl
theorem bFf:∀ {n:Nat} {fs:List Field} {m:Nat},xA P n fs m=true→n≤m
  | n,[],m,h=>by simp [xA] at h; omega
  | n,f::fs,m,h=>by
    simp only [xA,QA,beq_iff_eq] at h
    have:=bFf h.2
    omega
theorem bGj {S:Mem} {cs:List Value}:∀ {n:Nat} {fs:List Field} {m:Nat},xA P n fs m=true→cs.length=m→(∀ f∈fs,∃ l,bP S ((cs.drop f.offset).take (P.cellsOf f.type)) l∧WtC P f.type l) →
    ∃ l,bP S (cs.drop n) l∧l.length=m - n∧∀ f∈fs,n≤f.offset∧WtC P f.type ((l.drop (f.offset - n)).take (P.cellsOf f.type))
  | n,[],m,h,hl,_=>by
    simp [xA] at h; subst h
    exact ⟨[],by rw [QF (by omega)]; exact .nil,by simp,by simp⟩
  | n,f::fs,m,h,hl,hf=>by
    simp only [xA,QA,beq_iff_eq] at h
    obtain ⟨h1,h2⟩:=h
    have hle:=bFf h2
    obtain ⟨l1,r1,w1⟩:=hf f (by simp)
    obtain ⟨l2,r2,k2,w2⟩:=bGj h2 hl (fun g hg=>hf g (by simp [hg]))
    have hl1:l1.length=P.cellsOf f.type:=by rw [← r1.length]; simp; omega
    refine ⟨l1++l2,?_,by simp [hl1,k2]; omega,fun g hg=>?_⟩
    · have:=r1.append r2
      rw [h1,← List.drop_drop] at this
      rw [← List.take_append_drop (P.cellsOf f.type) (cs.drop n)]
      exact this
    · rcases QE.1 hg with rfl | hg
      · refine ⟨by omega,?_⟩
        rw [h1,Nat.sub_self,List.drop_zero,← hl1,List.take_left]; exact w1
      · obtain ⟨h3,h4⟩:=w2 g hg
        refine ⟨by omega,?_⟩
        rw [List.drop_append,QF (by omega),List.nil_append,hl1,show g.offset - n - P.cellsOf f.type=g.offset - (n+P.cellsOf f.type) by omega]
        exact h4
theorem cBj (hp:aB9 P ts=true):∀ (fuel:Nat) (t:TypeId) (cs:List Value) (x:DataW H×List MemPlace),t∈ts→DataW.trod enc P w base spare held fuel t cs=some x→∃ l,bP (wH w) cs l∧WtC P t l:=by
  intro fuel
  induction fuel with
  | zero=>intro t cs x _ h; simp [DataW.trod] at h
  | succ fuel ih =>
    intro t cs x ht h
    have hpt:=QB.1 hp t ht
    split at hpt
    · rename_i hu
      obtain ⟨b,rfl,_⟩:=DataW.trod_bool hu h
      exact ⟨[.b b],.cons (.b b) .nil,.b b hu⟩
    · rename_i k hu
      obtain ⟨n,rfl,_,hn⟩:=DataW.trod_int hu h
      have:k.min≤n∧n≤k.max:=by simpa [Lit.wf] using hn
      exact ⟨[.i k n],.cons (.i k n this.1 this.2) .nil,.i n hu⟩
    · rename_i hu
      obtain ⟨s,rfl,_,hs⟩:=DataW.trod_string hu h
      exact ⟨[.s s],.cons (.s s hs) .nil,.s s hu⟩
    · rename_i e hu
      simp only [QA,QD,decide_eq_true_eq] at hpt
      obtain ⟨hte,hsz⟩:=hpt
      rcases DataW.trod_slice hu h with ⟨rfl,_⟩ | ⟨a,len,cap,elems,rest,n,hfu,rfl,_,_,hlc,hcm,hel,hget,_,_⟩
      · exact ⟨[.sl (P.cellsOf e) []],.cons (.nil _) .nil,.sl [] hu (by simp)⟩
      · have hn:n=fuel:=by omega
        subst hn
        by_cases h0:len=0
        · subst h0
          exact ⟨[.sl (P.cellsOf e) []],.cons (.emp a cap _ hcm) .nil,.sl [] hu (by simp)⟩
        · have each:∀ i,i<len→∃ cs,w.cells? base (a.add (i * P.cellsOf e)) (P.cellsOf e)=some cs∧∃ l,bP (wH w) cs l∧WtC P e l:=by
            intro i hi
            have hg:=hget i hi
            have:elems[i]?=some elems[i]:=by simp [hel,hi]
            rw [this] at hg
            obtain ⟨cs,hc,hy⟩:=Option.bind_eq_some_iff.1 hg
            exact ⟨cs,hc,ih e cs _ hte hy⟩
          have hsp:a.spot=none:=by
            obtain ⟨cs,hc,_⟩:=each 0 (by omega)
            obtain ⟨hl,hg⟩:=bHf hc
            have h1:=hg 0 hsz
            have h2:cs[0]?=some cs[0]:=by simp [hl,hsz]
            rw [h2] at h1
            have:=(cell_spot h1).1
            simpa [Addr.add] using this
          have build:∀ k,k≤len→∃ (ls:List (List D)) (vs:List Value),ls.length=k∧vs.length=k * P.cellsOf e∧bP (wH w) vs ls.flatten∧(∀ x∈ls,x.length=P.cellsOf e)∧(∀ x∈ls,WtC P e x)∧∀ j u,vs[j]?=some u→(wH w a.block)[a.off+j]?=some u:=by
            intro k
            induction k with
            | zero=>intro _; exact ⟨[],[],rfl,by simp,.nil,by simp,by simp,by simp⟩
            | succ k ihk =>
              intro hk
              obtain ⟨ls,vs,k1,k2,k3,k4,k5,k6⟩:=ihk (by omega)
              obtain ⟨cs,hc,l,hl,hw⟩:=each k (by omega)
              obtain ⟨hcl,hcg⟩:=bHf hc
              refine ⟨ls++[l],vs++cs,by simp [k1],by simp [k2,hcl,Nat.add_mul],?_,?_,?_,?_⟩
              · rw [List.flatten_append]; simpa using k3.append hl
              · intro x hx
                rcases QG.1 hx with h | h
                · exact k4 x h
                · simp at h; subst h; rw [← hl.length,hcl]
              · intro x hx
                rcases QG.1 hx with h | h
                · exact k5 x h
                · simp at h; subst h; exact hw
              · intro j u hu
                rw [List.getElem?_append] at hu
                split at hu
                · exact k6 j u hu
                · rename_i hj
                  have hju:j - vs.length<P.cellsOf e:=by rw [← hcl]; exact (List.getElem?_eq_some_iff.1 hu).1
                  have:=hcg (j - vs.length) hju
                  rw [hu,bF5 hsp,bF5 rfl] at this
                  have:=(cell_spot this).2
                  dsimp only at this
                  rw [show a.off+k * P.cellsOf e+(j - vs.length)=a.off+j by omega] at this
                  exact this
          obtain ⟨ls,vs,k1,k2,k3,k4,k5,k6⟩:=build len (QH _)
          refine ⟨[.sl (P.cellsOf e) ls],.cons ?_ .nil,.sl ls hu k5⟩
          obtain ⟨b,off,sp⟩:=a
          dsimp only at hsp k6
          subst hsp
          refine .sl b off len cap _ ls vs k1.symm hlc hcm k2 ?_ k4 k3
          rw [List.prefix_iff_getElem?]
          intro i hi
          rw [List.getElem?_drop]
          exact k6 i _ (by simp [hi])
    · rename_i fs hu
      obtain ⟨xs,n,hfu,_,hlen,hxl,hget⟩:=DataW.trod_struct hu h
      have hn:n=fuel:=by omega
      subst hn
      simp only [QA,QB,QD,decide_eq_true_eq] at hpt
      obtain ⟨l,h1,h2,h3⟩:=bGj (S:=wH w) (cs:=cs) hpt.2 hlen fun f hf=>by
        obtain ⟨i,hi,hfi⟩:=List.getElem_of_mem hf
        have hg:=hget i f (by rw [← Array.getElem?_toList]; simp only [hi,List.getElem?_eq_getElem]; rw [hfi])
        have hx:xs[i]?=some (xs[i]'(by rw [hxl]; simpa using hi)):=by simp [hxl]
        rw [hx] at hg
        exact ih f.type _ _ (hpt.1 f hf) hg
      exact ⟨l,by simpa using h1,.st l hu (by simpa using h2) fun f hf=>by simpa using (h3 f hf).2⟩
    · simp at hpt
inductive OkD:D→Prop
  | b (x:Bool):OkD (.b x)
  | i (k:IntKind) (n:Int):k.min≤n→n≤k.max→OkD (.i k n)
  | s (x:ByteArray):x.size≤maxLen→OkD (.s x)
  | sl (sz:Nat) (l:List (List D)):l.length≤maxLen→(∀ x∈l,∀ y∈x,OkD y)→OkD (.sl sz l)
  | fn (f:FuncId) (l:List (List D)):OkD (.fn f l)
  | rw (v:Value) (x:D):OkD (.rw v x)
mutual
theorem bR.ok {S:Mem}:∀ {v:Value} {x:D},bR S v x→OkD x
  | _,_,.b x=>.b x
  | _,_,.i k n h h'=>.i k n h h'
  | _,_,.s x h=>.s x h
  | _,_,.nil sz=>.sl sz [] (by simp) (by simp)
  | _,_,.emp a cap sz h=>.sl sz [] (by simp) (by simp)
  | _,_,.fn f cs l h1 h2=>.fn f l
  | _,_,.rw _=>.rw _ _
  | _,_,.sl b off len cap sz l vs h1 h2 h3 h4 h5 h6 h7=>have ih:=bP.ok h7; .sl sz l (by omega) fun x hx y hy=>ih y (List.mem_flatten.2 ⟨x,hx,hy⟩)
theorem bP.ok {S:Mem}:∀ {vs:List Value} {xs:List D},bP S vs xs→∀ x∈xs,OkD x
  | _,_,.nil=>by simp
  | _,_,.cons h t=>by
    have h1:=bR.ok h
    have h2:=bP.ok t
    intro x hx
    rcases QE.1 hx with rfl | hx
    · exact h1
    · exact h2 x hx
end
def aE0 (P:Program) (t:TypeId) (l:List D):V :=
  match P.underlying t with
  | some (.struct _)=>.agg l
  | _=>match l with
    | [x]=>.d x
    | _=>.top
def aIz (P:Program):List TypeId→List (List D)→List V
  | t::ts,l::ls=>aE0 P t l::aIz P ts ls
  | _,_=>[]
theorem cH4 (hp:aB9 P ts=true) {t:TypeId} (ht:t∈ts) {v:Value} {l:List D} {κ:Ctx} (hok:Value.okWide P w .any base t v) (h:bP κ.S v.cells.toList l):aR κ v (aE0 P t l):=by
  have hpt:=QB.1 hp t ht
  have one:∀ {u:Value},v=u→u.cells=#[u]→(∀ fs,P.underlying t≠some (.struct fs))→aR κ v (aE0 P t l):=by
    intro u hv hu hns
    subst hv
    rw [hu] at h
    cases h with | cons h1 h2 =>
    cases h2
    unfold aE0
    split
    · rename_i fs hfs; exact absurd hfs (hns fs)
    · exact .d h1
  unfold Value.okWide at hok
  split at hpt
  · rename_i hu
    rw [hu] at hok
    unfold Cell.okWide Cell.ok at hok
    rw [hu] at hok
    cases v <;> simp at hok <;> exact one rfl rfl (fun fs h=>by rw [hu] at h; simp at h)
  · rename_i k hu
    rw [hu] at hok
    unfold Cell.okWide Cell.ok at hok
    rw [hu] at hok
    cases v <;> simp at hok <;> exact one rfl rfl (fun fs h=>by rw [hu] at h; simp at h)
  · rename_i hu
    rw [hu] at hok
    unfold Cell.okWide Cell.ok at hok
    rw [hu] at hok
    cases v <;> simp at hok <;> exact one rfl rfl (fun fs h=>by rw [hu] at h; simp at h)
  · rename_i e hu
    rw [hu] at hok
    unfold Cell.okWide Cell.ok at hok
    rw [hu] at hok
    cases v <;> simp at hok <;> exact one rfl rfl (fun fs h=>by rw [hu] at h; simp at h)
  · rename_i fs hu
    rw [hu] at hok
    obtain ⟨cs,rfl,_,_⟩:=hok
    unfold aE0
    rw [hu]
    have:=aR.agg (κ:=κ) (cs:=cs.toList) (l:=l) h
    simpa using this
  · simp at hpt
inductive WtA (P:Program):List TypeId→List (List D)→Prop
  | nil:WtA P [] []
  | cons {t:TypeId} {l:List D} {ts:List TypeId} {ls:List (List D)}:WtC P t l→WtA P ts ls→WtA P (t::ts) (l::ls)
theorem bJg (hp:aB9 P ts=true) {κ:Ctx} (hS:κ.S=wH w):∀ {us:List TypeId} {vs:List Value} {ds:List (DataW H)} {ps:List MemPlace},(∀ t∈us,t∈ts)→(∀ (j:Nat) t v,us[j]?=some t→vs[j]?=some v→Value.okWide P w .any base t v) →
    DataW.TrodAll enc P w 0 (fun _=>true) true us vs ds ps→∃ ls,aZ κ vs (aIz P us ls)∧WtA P us ls∧∀ l∈ls,∀ x∈l,OkD x
  | [],[],[],_,_,_,_=>⟨[],.nil,.nil,by simp⟩
  | t::us,v::vs,d::ds,ps,hu,hok,⟨p,q,⟨fuel,hf⟩,h2,_⟩=>by
    obtain ⟨l,hl,hw⟩:=cBj hp fuel t _ _ (hu t (by simp)) hf
    obtain ⟨ls,k1,k2,k3⟩:=bJg hp hS (fun t ht=>hu t (by simp [ht])) (fun j t v h1 h2=>hok (j+1) t v (by simpa using h1) (by simpa using h2)) h2
    rw [← hS] at hl
    refine ⟨l::ls,.cons (cH4 hp (hu t (by simp)) (hok 0 t v rfl rfl) hl) k1,.cons hw k2,fun m hm=>?_⟩
    rcases QE.1 hm with rfl | hm
    · exact hl.ok
    · exact k3 m hm
theorem Frm.below {κ κ':Ctx} {w':World} {fb:List Nat} (h:Frm ⟨κ,w,fb,fun _=>False⟩ κ' w'):Below w.heap.size w w':=⟨h.os,h.tape,h.output,h.size,fun b hb=>h.block b hb (fun h=>h)⟩
theorem bXu (hp:aB9 P ts=true):Kids P (·∈ts):=by
  have key:=QB.1 hp
  have tile:∀ {n:Nat} {fs:List Field} {m:Nat},xA P n fs m=true→m=n+(fs.map fun f=>P.cellsOf f.type).sum∧∀ (j:Nat) f,fs[j]?=some f→f.offset=n+((fs.take j).map fun f=>P.cellsOf f.type).sum:=by
    intro n fs
    induction fs generalizing n with
    | nil=>intro m h; simp [xA] at h; subst h; exact ⟨by simp,fun j f h=>by simp at h⟩
    | cons g fs ih =>
      intro m h
      simp only [xA,QA,beq_iff_eq] at h
      obtain ⟨h1,h2⟩:=ih h.2
      refine ⟨by rw [h1]; simp; omega,fun j f hj=>?_⟩
      cases j with
      | zero=>simp at hj; subst hj; simpa using h.1
      | succ j=>rw [h2 j f (by simpa using hj)]; simp; omega
  refine ⟨fun {t e} ht hu=>?_,fun {t e} ht hu=>?_,fun {t e n} ht hu=>?_,fun {t fs} ht hu=>?_,fun {t k e} ht hu=>?_⟩
  all_goals have h:=key _ ht; rw [hu] at h
  · simp at h
  · simp only [QA,QD,decide_eq_true_eq] at h; exact h.1
  · simp at h
  · simp only [QA,QB,QD,decide_eq_true_eq] at h
    obtain ⟨h1,h2⟩:=tile h.2
    exact ⟨h.1,by omega,fun j f hj=>by have:=h2 j f hj; omega⟩
  · simp at h
theorem cEx {f:FuncId} {fn:Func} {s:ChangeSpec} {tb:TypeId} (hp:aB9 P ts=true) (hsz:∀ t∈ts,∀ e,P.underlying t=some (.slice e)→0<P.cellsOf e) (hpar:∀ t∈fn.params.toList,t∈ts) (hres:fn.resultTypes=#[tb]) (htb:P.underlying tb=some .bool) (hvars:s.vars=[])
    (hs:∀ ds:List (DataW H),ds.length=fn.params.toList.length→(s.fn H ds).results=[.lit (.bool true)]∧(s.fn H ds).args=ds∧(s.fn H ds).vars=[])
    (hcall:∀ ls,WtA P fn.params.toList ls→(∀ l∈ls,∀ x∈l,OkD x)→bF P f (aIz P fn.params.toList ls) [] fun x _=>x=.d (.b true))
    (W:World) (base:Nat) (args:Array Value) (ds gs:List (DataW H)) (before:List MemPlace)  (hval:∀ (j:Nat) t v,fn.params[j]?=some t→args[j]?=some v→Value.okWide P W .any base t v)
    (hW:DataW.Whole enc P fn.params.toList s.vars false W args.toList ds gs before) (htabx:∀ p∈GV,p.1<W.heap.size∧p.2 W.heap[p.1]?:=by exact fun _ h=>absurd h List.not_mem_nil) :
    Calls P f args W fun e W'=>∃ v,e=.returned v∧s.post enc P fn false true false false W args v W':=by
  have hW':=hW
  obtain ⟨p,q,hA,hV,hpq,hfz,hnd⟩:=hW
  rw [hvars] at hV
  obtain ⟨rfl,rfl⟩:=ChangeShapes.trodVars_none hV
  obtain ⟨ls,k1,k2,k3⟩:=bJg (κ:=Q6 W) hp rfl hpar (fun j t v h1 h2=>hval j t v (by simpa using h1) (by simpa using h2)) hA
  have hlen:ds.length=fn.params.toList.length:=by
    have:∀ {us:List TypeId} {vs:List Value} {ds:List (DataW H)} {ps:List MemPlace},DataW.TrodAll enc P W 0 (fun _=>true) true us vs ds ps→ds.length=us.length:=by
      intro us
      induction us with
      | nil=>intro vs ds ps h; cases vs <;> cases ds <;> simp_all [DataW.TrodAll]
      | cons t us ih =>
        intro vs ds ps h
        cases vs <;> cases ds <;> simp only [DataW.TrodAll] at h
        obtain ⟨_,_,_,h2,_⟩:=h
        simp [ih h2]
    exact this hA
  obtain ⟨s1,s2,s3⟩:=hs (ds++[]) (by simpa using hlen)
  have hc:=hcall ls k2 k3 (Q6 W) W args.toList (fun _=>False) (bX1 W htabx) k1
  have hc':Calls P f args W fun e w'=>∃ v x κ' fb',e=.returned v∧Good ⟨Q6 W,W,[],fun _=>False⟩ κ' w' fb'∧aR κ' v x∧x=.d (.b true):=by simpa using hc
  refine hc'.mono fun e W' ⟨v,x,κ',fb',he,hg,hx,hxe⟩=>?_
  subst he
  subst hxe
  have hb:=hg.frm.below
  have hv:v=.bool true:=hx.toD.toB
  subst hv
  have hlt:∀ m∈before,m.block<W.heap.size:=fun m hm=>hW'.lt m hm
  have hsame:∀ m∈before,W.sameAt W' m:=by
    intro m hm
    have hl:=hlt m hm
    cases m with
    | cell b off=>exact hb.cell (p:=⟨b,off,none⟩) hl
    | map b=>exact hb.block b hl
  have hstay:∀ sp:Nat→Bool,(∀ m∈before,sp m.block=true)→DataW.TrodAll enc P W' 0 sp true fn.params.toList args.toList ds p:=by
    intro sp hsp
    have hbp:before=p:=by rw [hpq]; simp
    rw [hbp] at hsame hsp
    have:∀ {us:List TypeId} {vs:List Value} {ds:List (DataW H)} {ps:List MemPlace},(∀ t∈us,t∈ts)→(∀ m∈ps,W.sameAt W' m)→(∀ m∈ps,sp m.block=true)→DataW.TrodAll enc P W 0 (fun _=>true) true us vs ds ps→DataW.TrodAll enc P W' 0 sp true us vs ds ps:=by
      intro us
      induction us with
      | nil=>intro vs ds ps _ _ _ h; cases vs <;> cases ds <;> simp_all [DataW.TrodAll]
      | cons t us ih =>
        intro vs ds ps hu h1 h2 h
        cases vs <;> cases ds <;> simp only [DataW.TrodAll] at h ⊢
        obtain ⟨p1,p2,⟨fuel,hf⟩,h4,rfl⟩:=h
        exact ⟨p1,p2,⟨fuel,DataW.trod_stays (bXu hp) (fun {t e} ht hu=>hsz t ht e hu) (by simp) (hu t (by simp)) hf (fun m hm=>h1 m (by simp [hm])) (fun m hm=>h2 m (by simp [hm]))⟩,ih (fun t ht=>hu t (by simp [ht])) (fun m hm=>h1 m (by simp [hm])) (fun m hm=>h2 m (by simp [hm])) h4,rfl⟩
    exact this hpar hsame hsp hA
  refine ⟨_,rfl,ds,[],before,[],p,[],hW',?_,?_,?_,World.keptBut_mono (fun m hm=>hm.elim) (hb.frame fun _=>False),fun h=>by simp at h⟩
  · rw [s1,hres]
    exact trodAll_cons_mk (shut_bool htb _) ChangeShapes.trodAll_mk0
  · rw [s2,List.append_nil]
    exact hstay _ fun m hm=>by simpa using hlt m hm
  · rw [s3,hvars]; rfl
end
section
variable {P:Program} {t:TypeId} {l:List D}
theorem cD9 {k:IntKind} (h:WtC P t l) (hu:P.underlying t=some (.int k)):∃ n:Int,l=[.i k n]:=by
  cases h with
  | i n h=>rw [h] at hu; simp at hu; subst hu; exact ⟨n,rfl⟩
  | b _ h=>rw [h] at hu; simp at hu
  | s _ h=>rw [h] at hu; simp at hu
  | sl _ h=>rw [h] at hu; simp at hu
  | st _ h=>rw [h] at hu; simp at hu
theorem bKd {α β:Type} {c:α→β}:∀ {l:List β},(∀ x∈l,∃ y,x=c y)→∃ ys:List α,l=ys.map c
  | [],_=>⟨[],rfl⟩
  | x::l,h=>by
    obtain ⟨y,rfl⟩:=h x (by simp)
    obtain ⟨ys,rfl⟩:=bKd (l:=l) fun z hz=>h z (by simp [hz])
    exact ⟨y::ys,rfl⟩
theorem bT7 {e:TypeId} {n:Nat} (h:WtC P t l) (hu:P.underlying t=some (.slice e)) (hn:P.cellsOf e=n):∃ ls,l=[.sl n ls]∧∀ x∈ls,WtC P e x:=by
  subst hn
  cases h with
  | sl ls h hx=>rw [h] at hu; simp at hu; subst hu; exact ⟨ls,rfl,hx⟩
  | b _ h=>rw [h] at hu; simp at hu
  | i _ h=>rw [h] at hu; simp at hu
  | s _ h=>rw [h] at hu; simp at hu
  | st _ h=>rw [h] at hu; simp at hu
theorem cJt {α:Type} {c:α→List D} {e:TypeId} {n:Nat} (h:WtC P t l) (hu:P.underlying t=some (.slice e)) (hn:P.cellsOf e=n) (hx:∀ x,WtC P e x→∃ y,x=c y):∃ ys:List α,l=[.sl n (ys.map c)]:=by
  obtain ⟨ls,rfl,hw⟩:=bT7 h hu hn
  obtain ⟨ys,rfl⟩:=bKd fun x h=>hx x (hw x h)
  exact ⟨ys,rfl⟩
end
theorem cFe {P:Program} {ts:List TypeId} (hp:aB9 P ts=true):∀ t∈ts,∀ e,P.underlying t=some (.slice e)→0<P.cellsOf e:=by
  intro t ht e hu
  have:=QB.1 hp t ht
  rw [hu] at this
  simp at this
  exact this.2
theorem all_in {l ts:List TypeId} (h:l.all (fun t=>ts.contains t)=true):∀ t∈l,t∈ts:=by
  intro t ht
  simpa using QB.1 h t ht
theorem nA (n:Int) (h:∀ d∈[D.i .i64 n],OkD d):okI n:=by
  cases h _ (QC) with
  | i _ _ h1 h2=>exact ⟨h1,h2⟩
theorem bEo (n:Int) (h:∀ d∈[D.i .u8 n],OkD d):okU8 n:=by
  cases h _ (QC) with
  | i _ _ h1 h2=>exact ⟨h1,h2⟩
theorem yD (x:List UInt8) (h:∀ d∈[D.s (bs x)],OkD d):okS x:=by
  cases h _ (QC) with
  | s _ h1=>simpa [bs,ByteArray.size,maxLen,okS] using h1
theorem mQ {α:Type} {n:Nat} {f:α→List D} {p:α→Prop} (l:List α) (hp:∀ x,(∀ d∈f x,OkD d)→p x) (h:∀ d∈[D.sl n (l.map f)],OkD d):okL p l:=by
  cases h _ (QC) with
  | sl _ _ h1 h2=>exact ⟨by simpa [maxLen] using h1,fun x hx=>hp x fun d hd=>h2 _ (List.mem_map_of_mem hx) d hd⟩
theorem dW {l:List D} (h:∀ d∈l,OkD d) (o n:Nat):∀ d∈(l.drop o).take n,OkD d:=fun d hd=>h d (List.mem_of_mem_drop (List.mem_of_mem_take hd))
theorem jQ {n:Nat} {l:List (List D)} (h:∀ d∈[D.sl n l],OkD d):l.length≤9223372036854775807∧∀ x∈l,∀ d∈x,OkD d:=by
  cases h _ (QC) with
  | sl _ _ h1 h2=>exact ⟨by simpa [maxLen] using h1,h2⟩
end Go.Ab
