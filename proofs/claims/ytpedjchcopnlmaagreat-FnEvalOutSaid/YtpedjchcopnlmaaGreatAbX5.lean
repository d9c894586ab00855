/- Rows of data that nobody else sees: steps. -/
import Derived.Test.YtpedjchcopnlmaaGreatAbX1
namespace Go.Ab
open Go Go.RowKit
open _root_.List renaming getElem?_map→QA
section
variable {P:Program} {K:St→Prop} {KD:List Ev→St→Prop} {rest:List AOp} {acc:List Ev} {s:St} {α β:Type} {r:β} {d:Nat}
theorem lF {n sz:Nat} {k:IntKind} {xo io:AO} {l:List α} {f:α→List D} {i:Int} {y:α} (hy:idx l i=some y) (hb:bget s.bx n=some [.trs sz (l.map f)]) (hn:(conds s [xo,io]).all id=true) (h1:(ev s xo).str=.tre n) (h2:(ev s io).str=.d (.i k i)) :
    vop s (fun v=>v=.trp n sz i.toNat 0) (.ia d sz xo io):=by
  obtain ⟨h0,hg⟩:=vY hy
  simp only [vop]
  refine fQ (lJ hn) (fQ (lJ (uE hn)) ?_)
  rw [h1,h2]
  exact ⟨h0,.inr (.inl ⟨_,hb,by rw [List.length_map]; exact (List.getElem?_eq_some_iff.1 hg).1⟩),rfl⟩
theorem qG {n sz off m:Nat} {agg:Bool} {xo:AO} {l:List α} {f g:α→List D} {j:Int} {y:α} {v:V} (hy:idx l j=some y) (hfg:∀ x,f x=g x) (hb:bget s.bx n=some [.trs sz (l.map f)]) (hn:(conds s [xo]).all id=true) (hx:(ev s xo).str=.trp n sz j.toNat off) (hv:aL8 m agg ((g y).drop off)=some v) :
    vop s (fun y=>y=v) (.ld d m agg xo):=by
  simp only [vop]
  refine fQ (lJ hn) ?_
  rw [hx]
  exact .inr (.inl ⟨_,_,hb,by rw [QA,(vY hy).2]; rfl,by rw [hfg]; exact aZ1 hv rfl⟩)
theorem bUx {l:List α} {f:α→List D} {j:Int} {v:α} {y:List α} {m:Nat} (h:qR l j v=some y) (hl:∀ x,(f x).length=m):∃ x,(l.map f)[j.toNat]?=some (f x)∧(l.map f).set j.toNat ((f x).take 0++f v++(f x).drop (0+m))=y.map f:=by
  unfold qR at h
  split at h
  · rename_i h0
    simp only [Option.some.injEq] at h
    subst h
    refine ⟨l[j.toNat]'h0.2,by rw [QA,List.getElem?_eq_getElem h0.2]; rfl,?_⟩
    rw [List.take_zero,List.nil_append,Nat.zero_add,List.drop_of_length_le (by rw [hl]; exact Nat.le_refl _),List.append_nil,List.map_set]
  · simp at h
theorem bW0 {v:V} (h:v.solid=true) {C:V→Prop} (hC:C v):use v C:=by
  cases v <;> first | exact hC | simp [V.solid] at h
def aJu (s:St) (m:Nat) (x y:AO) (n sz:Nat) (l l':List (List D)):Ev:={ o:=.st m x y,rt:=qA s (x.rd++y.rd),rb:=[(n,[.trs sz l])],wr:=[(n,[.trs sz l'])] }
theorem aAm {n sz m:Nat} {xo yo:AO} {l:List α} {f:α→List D} {j:Int} {v:α} {kF:List α→Option β} {S':List α→St} (h:(qR l j v>>=kF)=some r) (hx:ev s xo=.trp n sz j.toNat 0) (hb:bget s.bx n=some [.trs sz (l.map f)]) (hl:∀ x,(f x).length=m) (hy:(ev s yo).solid=true)
    (hv:V.asDs (ev s yo).cells=some (f v)) (hS:∀ y:List α,eff (aJu s m xo yo n sz (l.map f) (y.map f)) s=S' y) (hk:∀ y,kF y=some r→dgo P KD rest (aJu s m xo yo n sz (l.map f) (y.map f)::acc) (S' y)):dgo P KD (.st m xo yo::rest) acc s:=by
  cases hm:qR l j v with
  | none=>rw [hm] at h; simp at h
  | some y =>
    rw [hm] at h
    obtain ⟨x,h1,h2⟩:=bUx hm hl
    refine ⟨_,rfl,?_,⟨rF,fun p hp=>?_,fun p hp=>?_⟩,by rw [hS]; exact hk y h⟩
    · intro s' hrd hg
      have hag:Agree s s' (xo.rd++yo.rd) []:=⟨lD hrd.rt,fun p hp=>by simp at hp⟩
      show aop P s' _ (.st m xo yo)
      simp only [aop]
      rw [hag.l.ev,hag.r.ev,hx]
      exact bW0 hy (.inr ⟨_,_,_,hrd.rb (n,_) (by simp [aJu]),h1,hy,hv,hl v,by rw [hl]; omega,by rw [h2]; rfl⟩)
    · simp [aJu] at hp; subst hp; exact hb
    · simp [aJu] at hp; subst hp; simp [hb]
theorem bNq {g:FuncId} {fo:AO} {caps args:List V} {xs:List AO} {v:V} (hfn:(ev s fo).vw=.fn g caps) (hgo:qU P g=true) (hg:bU P g args [] fun x _=>x=v) (hargs:weaks (xs.map (ev s)++caps)=args) (hcl:V.closeds args=true) (hv:v.closed=true) :
    nC P (evV s (.callv (some d) fo xs) v):=by
  intro s' hrd _
  have e:(fo::xs).map (ev s')=(fo::xs).map (ev s):=Agree.evs (B:=[]) ⟨lD hrd.rt,fun p hp=>by simp at hp⟩
  simp only [List.map_cons,List.cons.injEq] at e
  show aop P s' _ (.callv (some d) fo xs)
  simp only [aop,e.1,e.2]
  refine aP2 hfn ?_
  rw [hfn]
  refine .inl ⟨hgo,aBq hg hargs hcl fun x b hx=>?_⟩
  subst hx
  exact ⟨hv,by rw [nY (d:=d) rfl]; rfl⟩
theorem aRa {g:FuncId} {fo:AO} {xs:List AO} {caps args:List V} {m:Option α} {v':α→V} {kF:α→Option β} (h:(m>>=kF)=some r) (hfn:(ev s fo).vw=.fn g caps) (hgo:qU P g=true) (hg:∀ y,m=some y→bU P g args [] fun x _=>x=v' y)
    (hargs:weaks (xs.map (ev s)++caps)=args) (hcl:V.closeds args=true) (hv:∀ y,(v' y).closed=true) (hk:∀ y,kF y=some r→dgo P KD rest (evV s (.callv (some d) fo xs) (v' y)::acc) (s.put d (v' y))):dgo P KD (.callv (some d) fo xs::rest) acc s:=by
  cases m with
  | none=>simp at h
  | some y=>exact ⟨_,rfl,bNq hfn hgo (hg y rfl) hargs hcl (hv y),D9,by rw [nY (o:=.callv (some d) fo xs) rfl]; exact hk y h⟩
theorem bLs {e sz:Nat} {xs:List AO} {l:List α} {f g:α→List D} {s':St} (hl:zQ s sz xs=some (l.map g)) (hfg:∀ x,f x=g x) (hd:s.fresh d=true) (hS:(⟨(d,.tre d)::s.env,(d,[.trs sz (l.map f)])::s.bx⟩:St)=s')
    (hk:cO P K rest s'):cO P K (.bsl d e sz xs::rest) s:=by
  have:l.map g=l.map f:=List.map_congr_left fun x _=>(hfg x).symm
  rw [this] at hl
  exact .inr (.inr ⟨hd,aNr hl (by rw [hS]; exact hk)⟩)
theorem bB3 {e sz by':Nat} {xo yo:AO} {l m:List α} {f:α→List D} (N1:List Nat) {kF:List α→Option β} {S':List α→St} (h:(appG by' l m>>=kF)=some r) (hc:((ev s xo).cond.isEmpty&&(ev s yo).cond.isEmpty)=true) (hx:aMl s sz (ev s xo)=some (l.map f,N1)) (hy:srV (ev s yo)=some (sz,m.map f))
    (hd:(s.fresh d&&Z4 d N1)=true) (hS:∀ y:List α,(⟨(d,.tre d)::s.env,(d,[.trs sz (y.map f)])::kill s.bx N1⟩:St)=S' y) (hk:∀ y,kF y=some r→cO P K rest (S' y)):cO P K (.app d e sz by' xo yo::rest) s:=by
  unfold appG at h
  split at h
  · rename_i h0
    rw [Bool.and_eq_true] at hd hc
    obtain ⟨h1,h2⟩:=aGh hd.2
    show aop P s (cO P K rest) (.app d e sz by' xo yo)
    simp only [aop]
    exact uN hc.1 (uN hc.2 (.inr (.inr ⟨_,_,hx,aQ7 hy ⟨rfl,h2,by simpa using h0,hd.1,by rw [← List.map_append,hS]; exact hk _ h⟩⟩)))
  · simp at h
end
end Go.Ab
