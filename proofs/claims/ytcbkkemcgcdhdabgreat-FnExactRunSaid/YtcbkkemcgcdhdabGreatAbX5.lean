/- Rows of data that nobody else sees: steps. -/
import Derived.Test.YtcbkkemcgcdhdabGreatAbX1
namespace Go.Ab
open Go Go.RowKit
open _root_.Bool renaming and_eq_true→QA
open _root_.List renaming getElem?_map→QB,map_append→QC
variable {sz n m e by':Nat} {xo yo fo:AO} {l:List (List D)} {j:Int} {v x:V} {xs:List AO} {s':St} {g:FuncId} {caps args:List V} {o:AOp} {rd dead N:List Nat}
section
variable {P:Program} {K:St→Prop} {KD:List Ev→St→Prop} {rest:List AOp} {acc:List Ev} {s:St} {α β:Type} {r:β} {d:Nat}
theorem jW {k:IntKind} {io:AO} {l:List α} {f:α→List D} {i:Int} {y:α} (hy:idx l i=some y) (hb:bget s.bx n=some [.trs sz (l.map f)]) (hn:(conds s [xo,io]).all id=true) (h1:(ev s xo).str=.tre n) (h2:(ev s io).str=.d (.i k i)) :
  vop s (fun v=>v=.trp n sz i.toNat 0) (.ia d sz xo io):=by
 obtain ⟨h0,hg⟩:=iG hy;simp only [vop];refine fE (iE hn) (fE (iE (oJ hn)) ?_);rw [h1,h2];exact ⟨h0,.inr (.inl ⟨_,hb,by rw [List.length_map]; exact (List.getElem?_eq_some_iff.1 hg).1⟩),rfl⟩
theorem oL {off:Nat} {agg:Bool} {l:List α} {f g:α→List D} {y:α} (hy:idx l j=some y) (hfg:∀ x,f x=g x) (hb:bget s.bx n=some [.trs sz (l.map f)]) (hn:(conds s [xo]).all id=true) (hx:(ev s xo).str=.trp n sz j.toNat off) (hv:aKj m agg ((g y).drop off)=some v) :
  vop s (fun y=>y=v) (.ld d m agg xo):=by
 simp only [vop];refine fE (iE hn) ?_;rw [hx];exact .inr (.inl ⟨_,_,hb,by rw [QB,(iG hy).2]; rfl,by rw [hfg]; exact bCz hv rfl⟩)
theorem cF0 {L:Nat} (hn:(conds s [xo]).all id=true) (hx:(ev s xo).str=.tre n) (hb:aQu s n=some l) (hl:l.length=L):vop s (fun y=>y=.d (.i .i64 L)) (.len d xo):=by
 subst hl;simp only [vop];refine fE (iE hn) ?_;rw [hx];show trL s n _;unfold aQu at hb;unfold trL;split at hb <;> simp at hb
 ·rename_i h; rw [h]; subst hb; rfl
 ·rename_i h; rw [h]; subst hb; rfl
 ·rename_i h; rw [h]; subst hb; rfl
theorem cHa {l:List α} {f:α→List D} {v:α} {y:List α} (h:iC l j v=some y) (hl:∀ x,(f x).length=m):∃ x,(l.map f)[j.toNat]?=some (f x)∧(l.map f).set j.toNat ((f x).take 0++f v++(f x).drop (0+m))=y.map f:=by
 unfold iC at h;split at h
 ·rename_i h0;simp only [Option.some.injEq] at h;subst h;refine ⟨l[j.toNat]'h0.2,by rw [QB,List.getElem?_eq_getElem h0.2]; rfl,?_⟩;rw [List.take_zero,List.nil_append,Nat.zero_add,List.drop_of_length_le (by rw [hl]; exact Nat.le_refl _),List.append_nil,List.map_set]
 ·simp at h
theorem bQe (h:v.solid=true) {C:V→Prop} (hC:C v):use v C:=by
 cases v <;> first | exact hC | simp [V.solid] at h
def aKx (s:St) (m:Nat) (x y:AO) (n sz:Nat) (l l':List (List D)):Ev:={ o:=.st m x y,rt:=rQ s (x.rd++y.rd),rb:=[(n,[.trs sz l])],wr:=[(n,[.trs sz l'])] }
theorem P5 {l:List α} {f:α→List D} {v:α} {kF:List α→Option β} {S':List α→St} (h:(iC l j v>>=kF)=some r) (hx:ev s xo=.trp n sz j.toNat 0) (hb:bget s.bx n=some [.trs sz (l.map f)]) (hl:∀ x,(f x).length=m) (hy:(ev s yo).solid=true)
  (hv:V.asDs (ev s yo).cells=some (f v)) (hS:∀ y:List α,eff (aKx s m xo yo n sz (l.map f) (y.map f)) s=S' y) (hk:∀ y,kF y=some r→dgo P KD rest (aKx s m xo yo n sz (l.map f) (y.map f)::acc) (S' y)):dgo P KD (.st m xo yo::rest) acc s:=by
 cases hm:iC l j v with
 | none=>rw [hm] at h; simp at h
 | some y =>
  rw [hm] at h;obtain ⟨x,h1,h2⟩:=cHa hm hl;refine ⟨_,rfl,?_,⟨vG,fun p hp=>?_,fun p hp=>?_⟩,by rw [hS]; exact hk y h⟩
  ·intro s' hrd hg;have hag:Agree s s' (xo.rd++yo.rd) []:=⟨lW hrd.rt,fun p hp=>by simp at hp⟩
   show aop P s' _ (.st m xo yo);simp only [aop];rw [hag.l.ev,hag.r.ev,hx];exact bQe hy (.inr ⟨_,_,_,hrd.rb (n,_) (by simp [aKx]),h1,hy,hv,hl v,by rw [hl]; omega,by rw [h2]; rfl⟩)
  ·simp [aKx] at hp; subst hp; exact hb
  ·simp [aKx] at hp; subst hp; simp [hb]
theorem cCy (hfn:(ev s fo).vw=.fn g caps) (hgo:pG P g=true) (hg:bF P g args [] fun x _=>x=v) (hargs:weaks (xs.map (ev s)++caps)=args) (hcl:V.closeds args=true) (hv:v.closed=true) :
  mG P (evV s (.callv (some d) fo xs) v):=by
 intro s' hrd _;have e:(fo::xs).map (ev s')=(fo::xs).map (ev s):=Agree.evs (B:=[]) ⟨lW hrd.rt,fun p hp=>by simp at hp⟩;simp only [List.map_cons,List.cons.injEq] at e;show aop P s' _ (.callv (some d) fo xs);simp only [aop,e.1,e.2];refine aN5 hfn ?_;rw [hfn];refine .inl ⟨hgo,aBn hg hargs hcl fun x b hx=>?_⟩;subst hx;exact ⟨hv,by rw [nI (d:=d) rfl]; rfl⟩
theorem aZm {m:Option α} {v':α→V} {kF:α→Option β} (h:(m>>=kF)=some r) (hfn:(ev s fo).vw=.fn g caps) (hgo:pG P g=true) (hg:∀ y,m=some y→bF P g args [] fun x _=>x=v' y)
  (hargs:weaks (xs.map (ev s)++caps)=args) (hcl:V.closeds args=true) (hv:∀ y,(v' y).closed=true) (hk:∀ y,kF y=some r→dgo P KD rest (evV s (.callv (some d) fo xs) (v' y)::acc) (s.put d (v' y))):dgo P KD (.callv (some d) fo xs::rest) acc s:=by
 cases m with
 | none=>simp at h
 | some y=>exact ⟨_,rfl,cCy hfn hgo (hg y rfl) hargs hcl (hv y),Y9,by rw [nI (o:=.callv (some d) fo xs) rfl]; exact hk y h⟩
def aEe (s:St) (o:AOp) (d:Nat) (rd:List Nat) (sz:Nat) (l:List (List D)) (dead:List Nat):Ev:={ o:=o,d:=some d,r:=.tre d,rt:=rQ s rd,rb:=bI7 s dead,wr:=dead.map fun m=>(m,[.trd]),nw:=[(d,[.trs sz l])],fr:=[d] }
theorem cM6 (h:∀ m∈dead,(bget s.bx m).isSome=true):Rd (aEe s o d rd sz l dead) s:=by
 have:=bSu (o:=o) (d:=d) (rd:=rd) (sz:=sz) (l:=l) h;exact ⟨this.rt,this.rb,this.wr⟩
theorem cKs:(⟨(d,.tre d)::s'.env,(d,[.trs sz l])::kill s'.bx dead⟩:St)=eff (aEe s o d rd sz l dead) s':=by
 rw [← bKs]; rfl
theorem bY9 {l:List α} {f g:α→List D} (hl:yF s sz xs=some (l.map g)) (hfg:∀ x,f x=g x) (hd:s.fresh d=true) (hS:(⟨(d,.tre d)::s.env,(d,[.trs sz (l.map f)])::s.bx⟩:St)=s')
  (hk:bM P K rest s'):bM P K (.bsl d e sz xs::rest) s:=by
 have:l.map g=l.map f:=List.map_congr_left fun x _=>(hfg x).symm;rw [this] at hl;exact .inr (.inr ⟨hd,aO4 hl (by rw [hS]; exact hk)⟩)
theorem bNn (h:yM s sz x=some (l,N)):∀ m∈N,(bget s.bx m).isSome=true:=by
 unfold yM at h;split at h
 ·split at h <;> simp at h;rw [h.2]; simp
 ·split at h
  ·rename_i hb;split at h <;> simp at h;rw [← h.2]; simp [hb]
  ·simp at h
 ·simp at h
theorem bVa (h:yM s sz x=some (l,N)) (hd:∀ m∈N,bget s'.bx m=bget s.bx m):yM s' sz x=some (l,N):=by
 unfold yM at h ⊢;split at h
 ·exact h
 ·split at h
  ·rename_i hb;split at h <;> simp at h;rename_i e;obtain ⟨rfl,rfl⟩:=h;rw [hd _ (by simp),hb];simp [e]
  ·simp at h
 ·simp at h
theorem cA7 {l m:List α} {f:α→List D} (N1:List Nat) {kF:List α→Option β} {S':List α→St} (h:(appG by' l m>>=kF)=some r) (hc:((ev s xo).cond.isEmpty&&(ev s yo).cond.isEmpty)=true) (hx:yM s sz (ev s xo)=some (l.map f,N1)) (hy:srV (ev s yo)=some (sz,m.map f))
  (hd:(s.fresh d&&N7 d N1)=true) (hS:∀ y:List α,(⟨(d,.tre d)::s.env,(d,[.trs sz (y.map f)])::kill s.bx N1⟩:St)=S' y) (hk:∀ y,kF y=some r→bM P K rest (S' y)):bM P K (.app d e sz by' xo yo::rest) s:=by
 unfold appG at h;split at h
 ·rename_i h0;rw [QA] at hd hc;obtain ⟨h1,h2⟩:=aGf hd.2;show aop P s (bM P K rest) (.app d e sz by' xo yo);simp only [aop];exact tF hc.1 (tF hc.2 (.inr (.inr ⟨_,_,hx,aJg hy ⟨rfl,h2,by simpa using h0,hd.1,by rw [← QC,hS]; exact hk _ h⟩⟩)))
 ·simp at h
theorem cCi {l m:List α} {f:α→List D} (N1:List Nat) {kF:List α→Option β} {S':List α→St} (h:(appG by' l m>>=kF)=some r) (hc:((ev s xo).cond.isEmpty&&(ev s yo).cond.isEmpty)=true) (hx:yM s sz (ev s xo)=some (l.map f,N1)) (hy:srV (ev s yo)=some (sz,m.map f))
  (hd:N7 d N1=true) (hS:∀ y:List α,eff (aEe s (.app d e sz by' xo yo) d (xo.rd++yo.rd) sz (y.map f) N1) s=S' y) (hk:∀ y,kF y=some r→dgo P KD rest (aEe s (.app d e sz by' xo yo) d (xo.rd++yo.rd) sz (y.map f) N1::acc) (S' y)):dgo P KD (.app d e sz by' xo yo::rest) acc s:=by
 unfold appG at h;split at h
 ·rename_i h0;rw [QA] at hc;obtain ⟨h1,h2⟩:=aGf hd;refine ⟨aEe s (.app d e sz by' xo yo) d (xo.rd++yo.rd) sz ((l++m).map f) N1,rfl,?_,cM6 (bNn hx),by rw [hS]; exact hk _ h⟩;intro s2 hrd hg;have hag:Agree s s2 (xo.rd++yo.rd) []:=⟨lW hrd.rt,fun p hp=>by simp at hp⟩
  have hget:∀ m∈N1,bget s2.bx m=bget s.bx m:=cMy (o:=.app d e sz by' xo yo) (d:=d) (rd:=xo.rd++yo.rd) (sz:=sz) (l:=(l++m).map f) (bNn hx) ⟨hrd.rt,hrd.rb,hrd.wr⟩;show aop P s2 _ (.app d e sz by' xo yo);simp only [aop];rw [hag.l.ev,hag.r.ev];refine tF hc.1 (tF hc.2 (.inr (.inr ⟨_,_,bVa hx hget,aJg hy ⟨rfl,h2,by simpa using h0,hg.fr d (by simp [aEe]),?_⟩⟩)));rw [← QC]; exact cKs
 ·simp at h
end
end Go.Ab
