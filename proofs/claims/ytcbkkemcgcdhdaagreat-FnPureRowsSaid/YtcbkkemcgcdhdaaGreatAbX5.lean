/- Rows of data that nobody else sees: steps. -/
import Derived.Test.YtcbkkemcgcdhdaaGreatAbX1
namespace Go.Ab
open Go Go.RowKit
open _root_.Bool renaming and_eq_true→QA
open _root_.List renaming getElem?_map→QB,map_append→QC
section
variable {P:Program} {K:St→Prop} {KD:List Ev→St→Prop} {rest:List AOp} {acc:List Ev} {s:St} {α β:Type} {r:β} {d:Nat}
theorem fB {n sz:Nat} {k:IntKind} {xo io:AO} {l:List α} {f:α→List D} {i:Int} {y:α} (hy:idx l i=some y) (hb:bget s.bx n=some [.trs sz (l.map f)]) (hn:(conds s [xo,io]).all id=true) (h1:(ev s xo).str=.tre n) (h2:(ev s io).str=.d (.i k i)) :
    vop s (fun v=>v=.trp n sz i.toNat 0) (.ia d sz xo io):=by
  obtain ⟨h0,hg⟩:=aCj hy
  simp only [vop]
  refine fH (jL hn) (fH (jL (sF hn)) ?_)
  rw [h1,h2]
  exact ⟨h0,.inr (.inl ⟨_,hb,by rw [List.length_map]; exact (List.getElem?_eq_some_iff.1 hg).1⟩),rfl⟩
theorem iL {n sz off m:Nat} {agg:Bool} {xo:AO} {l:List α} {f g:α→List D} {j:Int} {y:α} {v:V} (hy:idx l j=some y) (hfg:∀ x,f x=g x) (hb:bget s.bx n=some [.trs sz (l.map f)]) (hn:(conds s [xo]).all id=true) (hx:(ev s xo).str=.trp n sz j.toNat off) (hv:aIu m agg ((g y).drop off)=some v) :
    vop s (fun y=>y=v) (.ld d m agg xo):=by
  simp only [vop]
  refine fH (jL hn) ?_
  rw [hx]
  exact .inr (.inl ⟨_,_,hb,by rw [QB,(aCj hy).2]; rfl,by rw [hfg]; exact bBo hv rfl⟩)
theorem bW8 {n:Nat} {xo:AO} {l:List (List D)} {L:Nat} (hn:(conds s [xo]).all id=true) (hx:(ev s xo).str=.tre n) (hb:aRg s n=some l) (hl:l.length=L):vop s (fun y=>y=.d (.i .i64 L)) (.len d xo):=by
  subst hl
  simp only [vop]
  refine fH (jL hn) ?_
  rw [hx]
  show trL s n _
  unfold aRg at hb
  unfold trL
  split at hb <;> simp at hb
  · rename_i h; rw [h]; subst hb; rfl
  · rename_i h; rw [h]; subst hb; rfl
  · rename_i h; rw [h]; subst hb; rfl
theorem bT1 {l:List α} {f:α→List D} {j:Int} {v:α} {y:List α} {m:Nat} (h:jR l j v=some y) (hl:∀ x,(f x).length=m):∃ x,(l.map f)[j.toNat]?=some (f x)∧(l.map f).set j.toNat ((f x).take 0++f v++(f x).drop (0+m))=y.map f:=by
  unfold jR at h
  split at h
  · rename_i h0
    simp only [Option.some.injEq] at h
    subst h
    refine ⟨l[j.toNat]'h0.2,by rw [QB,List.getElem?_eq_getElem h0.2]; rfl,?_⟩
    rw [List.take_zero,List.nil_append,Nat.zero_add,List.drop_of_length_le (by rw [hl]; exact Nat.le_refl _),List.append_nil,List.map_set]
  · simp at h
theorem bPr {v:V} (h:v.solid=true) {C:V→Prop} (hC:C v):use v C:=by
  cases v <;> first | exact hC | simp [V.solid] at h
def aHv (s:St) (m:Nat) (x y:AO) (n sz:Nat) (l l':List (List D)):Ev:={ o:=.st m x y,rt:=oQ s (x.rd++y.rd),rb:=[(n,[.trs sz l])],wr:=[(n,[.trs sz l'])] }
theorem qE {n sz m:Nat} {xo yo:AO} {l:List α} {f:α→List D} {j:Int} {v:α} {kF:List α→Option β} {S':List α→St} (h:(jR l j v>>=kF)=some r) (hx:ev s xo=.trp n sz j.toNat 0) (hb:bget s.bx n=some [.trs sz (l.map f)]) (hl:∀ x,(f x).length=m) (hy:(ev s yo).solid=true)
    (hv:V.asDs (ev s yo).cells=some (f v)) (hS:∀ y:List α,eff (aHv s m xo yo n sz (l.map f) (y.map f)) s=S' y) (hk:∀ y,kF y=some r→dgo P KD rest (aHv s m xo yo n sz (l.map f) (y.map f)::acc) (S' y)):dgo P KD (.st m xo yo::rest) acc s:=by
  cases hm:jR l j v with
  | none=>rw [hm] at h; simp at h
  | some y =>
    rw [hm] at h
    obtain ⟨x,h1,h2⟩:=bT1 hm hl
    refine ⟨_,rfl,?_,⟨qH,fun p hp=>?_,fun p hp=>?_⟩,by rw [hS]; exact hk y h⟩
    · intro s' hrd hg
      have hag:Agree s s' (xo.rd++yo.rd) []:=⟨kN hrd.rt,fun p hp=>by simp at hp⟩
      show aop P s' _ (.st m xo yo)
      simp only [aop]
      rw [hag.l.ev,hag.r.ev,hx]
      exact bPr hy (.inr ⟨_,_,_,hrd.rb (n,_) (by simp [aHv]),h1,hy,hv,hl v,by rw [hl]; omega,by rw [h2]; rfl⟩)
    · simp [aHv] at hp; subst hp; exact hb
    · simp [aHv] at hp; subst hp; simp [hb]
theorem cBb {g:FuncId} {fo:AO} {caps args:List V} {xs:List AO} {v:V} (hfn:(ev s fo).vw=.fn g caps) (hgo:qD P g=true) (hg:bF P g args [] fun x _=>x=v) (hargs:weaks (xs.map (ev s)++caps)=args) (hcl:V.closeds args=true) (hv:v.closed=true) :
    nG P (evV s (.callv (some d) fo xs) v):=by
  intro s' hrd _
  have e:(fo::xs).map (ev s')=(fo::xs).map (ev s):=Agree.evs (B:=[]) ⟨kN hrd.rt,fun p hp=>by simp at hp⟩
  simp only [List.map_cons,List.cons.injEq] at e
  show aop P s' _ (.callv (some d) fo xs)
  simp only [aop,e.1,e.2]
  refine aN7 hfn ?_
  rw [hfn]
  refine .inl ⟨hgo,aCc hg hargs hcl fun x b hx=>?_⟩
  subst hx
  exact ⟨hv,by rw [nZ (d:=d) rfl]; rfl⟩
theorem aGc {g:FuncId} {fo:AO} {xs:List AO} {caps args:List V} {m:Option α} {v':α→V} {kF:α→Option β} (h:(m>>=kF)=some r) (hfn:(ev s fo).vw=.fn g caps) (hgo:qD P g=true) (hg:∀ y,m=some y→bF P g args [] fun x _=>x=v' y)
    (hargs:weaks (xs.map (ev s)++caps)=args) (hcl:V.closeds args=true) (hv:∀ y,(v' y).closed=true) (hk:∀ y,kF y=some r→dgo P KD rest (evV s (.callv (some d) fo xs) (v' y)::acc) (s.put d (v' y))):dgo P KD (.callv (some d) fo xs::rest) acc s:=by
  cases m with
  | none=>simp at h
  | some y=>exact ⟨_,rfl,cBb hfn hgo (hg y rfl) hargs hcl (hv y),zA,by rw [nZ (o:=.callv (some d) fo xs) rfl]; exact hk y h⟩
def aFx (s:St) (o:AOp) (d:Nat) (rd:List Nat) (sz:Nat) (l:List (List D)) (dead:List Nat):Ev:={ o:=o,d:=some d,r:=.tre d,rt:=oQ s rd,rb:=bKv s dead,wr:=dead.map fun m=>(m,[.trd]),nw:=[(d,[.trs sz l])],fr:=[d] }
theorem bVf {o:AOp} {rd:List Nat} {sz:Nat} {l:List (List D)} {dead:List Nat} (h:∀ m∈dead,(bget s.bx m).isSome=true):Rd (aFx s o d rd sz l dead) s:=by
  have:=aWu (o:=o) (d:=d) (rd:=rd) (sz:=sz) (l:=l) h
  exact ⟨this.rt,this.rb,this.wr⟩
theorem cBg {s':St} {o:AOp} {rd:List Nat} {sz:Nat} {l:List (List D)} {dead:List Nat}:(⟨(d,.tre d)::s'.env,(d,[.trs sz l])::kill s'.bx dead⟩:St)=eff (aFx s o d rd sz l dead) s':=by
  rw [← bCe]; rfl
theorem cHa {e sz:Nat} {xs:List AO} {l:List α} {f g:α→List D} {s':St} (hl:yI s sz xs=some (l.map g)) (hfg:∀ x,f x=g x) (hd:s.fresh d=true) (hS:(⟨(d,.tre d)::s.env,(d,[.trs sz (l.map f)])::s.bx⟩:St)=s')
    (hk:bN P K rest s'):bN P K (.bsl d e sz xs::rest) s:=by
  have:l.map g=l.map f:=List.map_congr_left fun x _=>(hfg x).symm
  rw [this] at hl
  exact .inr (.inr ⟨hd,aRp hl (by rw [hS]; exact hk)⟩)
theorem bK4 {sz:Nat} {x:V} {l:List (List D)} {N:List Nat} (h:xR s sz x=some (l,N)):∀ m∈N,(bget s.bx m).isSome=true:=by
  unfold xR at h
  split at h
  · split at h <;> simp at h
    rw [h.2]; simp
  · split at h
    · rename_i hb
      split at h <;> simp at h
      rw [← h.2]; simp [hb]
    · simp at h
  · simp at h
theorem cEp {s':St} {sz:Nat} {x:V} {l:List (List D)} {N:List Nat} (h:xR s sz x=some (l,N)) (hd:∀ m∈N,bget s'.bx m=bget s.bx m):xR s' sz x=some (l,N):=by
  unfold xR at h ⊢
  split at h
  · exact h
  · split at h
    · rename_i hb
      split at h <;> simp at h
      rename_i e
      obtain ⟨rfl,rfl⟩:=h
      rw [hd _ (by simp),hb]
      simp [e]
    · simp at h
  · simp at h
theorem aUf {e sz by':Nat} {xo yo:AO} {l m:List α} {f:α→List D} (N1:List Nat) {kF:List α→Option β} {S':List α→St} (h:(appG by' l m>>=kF)=some r) (hc:((ev s xo).cond.isEmpty&&(ev s yo).cond.isEmpty)=true) (hx:xR s sz (ev s xo)=some (l.map f,N1)) (hy:srV (ev s yo)=some (sz,m.map f))
    (hd:(s.fresh d&&xJ d N1)=true) (hS:∀ y:List α,(⟨(d,.tre d)::s.env,(d,[.trs sz (y.map f)])::kill s.bx N1⟩:St)=S' y) (hk:∀ y,kF y=some r→bN P K rest (S' y)):bN P K (.app d e sz by' xo yo::rest) s:=by
  unfold appG at h
  split at h
  · rename_i h0
    rw [QA] at hd hc
    obtain ⟨h1,h2⟩:=V7 hd.2
    show aop P s (bN P K rest) (.app d e sz by' xo yo)
    simp only [aop]
    exact nS hc.1 (nS hc.2 (.inr (.inr ⟨_,_,hx,aK8 hy ⟨rfl,h2,by simpa using h0,hd.1,by rw [← QC,hS]; exact hk _ h⟩⟩)))
  · simp at h
theorem bRu {e sz by':Nat} {xo yo:AO} {l m:List α} {f:α→List D} (N1:List Nat) {kF:List α→Option β} {S':List α→St} (h:(appG by' l m>>=kF)=some r) (hc:((ev s xo).cond.isEmpty&&(ev s yo).cond.isEmpty)=true) (hx:xR s sz (ev s xo)=some (l.map f,N1)) (hy:srV (ev s yo)=some (sz,m.map f))
    (hd:xJ d N1=true) (hS:∀ y:List α,eff (aFx s (.app d e sz by' xo yo) d (xo.rd++yo.rd) sz (y.map f) N1) s=S' y) (hk:∀ y,kF y=some r→dgo P KD rest (aFx s (.app d e sz by' xo yo) d (xo.rd++yo.rd) sz (y.map f) N1::acc) (S' y)):dgo P KD (.app d e sz by' xo yo::rest) acc s:=by
  unfold appG at h
  split at h
  · rename_i h0
    rw [QA] at hc
    obtain ⟨h1,h2⟩:=V7 hd
    refine ⟨aFx s (.app d e sz by' xo yo) d (xo.rd++yo.rd) sz ((l++m).map f) N1,rfl,?_,bVf (bK4 hx),by rw [hS]; exact hk _ h⟩
    intro s2 hrd hg
    have hag:Agree s s2 (xo.rd++yo.rd) []:=⟨kN hrd.rt,fun p hp=>by simp at hp⟩
    have hget:∀ m∈N1,bget s2.bx m=bget s.bx m:=bBn (o:=.app d e sz by' xo yo) (d:=d) (rd:=xo.rd++yo.rd) (sz:=sz) (l:=(l++m).map f) (bK4 hx) ⟨hrd.rt,hrd.rb,hrd.wr⟩
    show aop P s2 _ (.app d e sz by' xo yo)
    simp only [aop]
    rw [hag.l.ev,hag.r.ev]
    refine nS hc.1 (nS hc.2 (.inr (.inr ⟨_,_,cEp hx hget,aK8 hy ⟨rfl,h2,by simpa using h0,hg.fr d (by simp [aFx]),?_⟩⟩)))
    rw [← QC]; exact cBg
  · simp at h
end
end Go.Ab
