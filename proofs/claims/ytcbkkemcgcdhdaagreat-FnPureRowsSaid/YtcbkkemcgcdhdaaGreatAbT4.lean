/- Steps: operations on trees,in order or in an open order. -/
import Derived.Test.YtcbkkemcgcdhdaaGreatAbC3
namespace Go.Ab
open Go Go.RowKit
open _root_.Bool renaming and_eq_true→QA,not_eq_true'→QE
open _root_.List renaming mem_map→QB,contains_eq_mem→QF,map_append→QG,append_nil→QH,all_eq_true→QK,getElem?_map→QL,mem_append_left→QM,mem_append_right→QN,map_congr_left→QO,mem_append→QP
open _root_.Nat renaming ble→QC,le_of_ble_eq_true→QD
open _root_.Option renaming map_some→QI,isSome_iff_exists→QJ
theorem aJ5:∀ {l:List Nat},nodupB l=true→l.Nodup
  | [],_=>by simp
  | x::l,h=>by
    obtain ⟨h1,h2⟩:=nodup_cons h
    exact List.nodup_cons.2 ⟨h1,aJ5 h2⟩
theorem bCe:∀ (dead:List Nat) (bx:List (Nat×List V)),gG bx (dead.map fun m=>(m,[V.trd]))=kill bx dead
  | [],_=>rfl
  | m::dead,bx=>bCe dead (fC bx m [.trd])
theorem nS {x:V} {C:V→Prop} (hx:x.cond.isEmpty=true) (h:C x):use x C:=yK hx h
section
variable {P:Program} {K:St→Prop} {KD:List Ev→St→Prop} {rest:List AOp} {acc:List Ev} {s:St} {α β:Type} {r:β} {d:Nat}
def bHj (s:St) (n:Nat) (ns:List Nat):Bool:=nodupB ns&&(!ns.contains n&&ns.all fun m=>QC NX m&&s.fresh m)
def evI (s:St) (d sz:Nat) (x i:AO) (n k:Nat) (ns:List Nat) (l:List (List D)) (ds:List D):Ev :=
  { o:=.ia d sz x i,d:=some d,r:=.trp n sz k 0,rt:=oQ s (x.rd++i.rd),rb:=[(n,[.trc sz l])],wr:=[(n,.tro sz k l::(jO ns ds).1)],nw:=(jO ns ds).2,fr:=ns }
theorem bK1 {s:St} {n sz:Nat} {k:IntKind} {i:Int} {ns:List Nat} {l:List (List D)} {ds:List D} {K:St→Prop} (hb:bget s.bx n=some [.trc sz l]) (h0:0≤i) (hd:l[i.toNat]?=some ds) (h1:ns.Nodup) (h2:n∉ns) (h3:∀ m∈ns,NX≤m∧s.fresh m=true)
    (hK:K ⟨(d,.trp n sz i.toNat 0)::s.env,(jO ns ds).2++fC s.bx n (.tro sz i.toNat l::(jO ns ds).1)⟩):iaT s d sz (.tre n) (.d (.i k i)) K:=⟨h0,.inl ⟨l,ds,ns,hb,hd,h1,h2,h3,hK⟩⟩
theorem aCj {l:List α} {i:Int} {x:α} (h:idx l i=some x):0≤i∧l[i.toNat]?=some x:=by
  unfold idx at h
  split at h
  · rename_i h0; exact ⟨h0,h⟩
  · simp at h
theorem aN2 {n sz:Nat} {k:IntKind} {xo io:AO} {l:List α} {f g:α→List D} {i:Int} (ns:List Nat) {kF:α→Option β} {S':α→St} (h:(idx l i>>=kF)=some r) (hx:ev s xo=.tre n) (hi:ev s io=.d (.i k i)) (hb:bget s.bx n=some [.trc sz (l.map f)]) (hfg:∀ x,f x=g x)
    (hns:bHj s n ns=true) (hS:∀ y,(⟨(d,.trp n sz i.toNat 0)::s.env,(jO ns (g y)).2++fC s.bx n (.tro sz i.toNat (l.map f)::(jO ns (g y)).1)⟩:St)=S' y) (hk:∀ y,idx l i=some y→kF y=some r→bN P K rest (S' y)):bN P K (.ia d sz xo io::rest) s:=by
  cases hm:idx l i with
  | none=>rw [hm] at h; simp at h
  | some y =>
    rw [hm] at h
    obtain ⟨h0,hg⟩:=aCj hm
    show aop P s (bN P K rest) (.ia d sz xo io)
    simp only [bHj,QA,QE,QF,decide_eq_false_iff_not,QK] at hns
    refine .inr ?_
    rw [hx,hi]
    refine nS (x:=.tre n) rfl (nS (x:=.d (.i k i)) rfl (bK1 hb h0 (ds:=g y) (by rw [QL,hg,QI,hfg]) (aJ5 hns.1) hns.2.1 (fun m hm=>⟨QD (hns.2.2 m hm).1,(hns.2.2 m hm).2⟩) ?_))
    rw [hS]; exact hk y hm h
theorem bRq {n sz:Nat} {k:IntKind} {xo io:AO} {i:Int} {ns:List Nat} {l:List (List D)} {ds:List D} (hx:ev s xo=.tre n) (hi:ev s io=.d (.i k i)) (h0:0≤i) (hd:l[i.toNat]?=some ds) (h1:nodupB ns=true) (h2:n∉ns) (h3:∀ m∈ns,NX≤m):nG P (evI s d sz xo io n i.toNat ns l ds):=by
  intro s' hrd hg
  have hag:Agree s s' (xo.rd++io.rd) []:=⟨kN hrd.rt,fun p hp=>by simp at hp⟩
  show aop P s' _ (.ia d sz xo io)
  refine .inr ?_
  rw [hag.l.ev,hag.r.ev,hx,hi]
  exact nS (x:=.tre n) rfl (nS (x:=.d (.i k i)) rfl (bK1 (hrd.rb (n,[.trc sz l]) (by simp [evI])) h0 hd (aJ5 h1) h2 (fun m hm=>⟨h3 m hm,hg.fr m hm⟩) rfl))
theorem bKb {n sz:Nat} {k:IntKind} {xo io:AO} {l:List α} {f g:α→List D} {i:Int} (ns:List Nat) {kF:α→Option β} {S':α→St} (h:(idx l i>>=kF)=some r) (hx:ev s xo=.tre n) (hi:ev s io=.d (.i k i)) (hb:bget s.bx n=some [.trc sz (l.map f)]) (hfg:∀ x,f x=g x)
    (hns:(nodupB ns&&(!ns.contains n&&ns.all fun m=>QC NX m))=true) (hS:∀ y,eff (evI s d sz xo io n i.toNat ns (l.map f) (g y)) s=S' y) (hk:∀ y,idx l i=some y→kF y=some r→dgo P KD rest (evI s d sz xo io n i.toNat ns (l.map f) (g y)::acc) (S' y)):dgo P KD (.ia d sz xo io::rest) acc s:=by
  cases hm:idx l i with
  | none=>rw [hm] at h; simp at h
  | some y =>
    rw [hm] at h
    obtain ⟨h0,hg⟩:=aCj hm
    simp only [QA,QE,QF,decide_eq_false_iff_not,QK] at hns
    refine ⟨evI s d sz xo io n i.toNat ns (l.map f) (g y),rfl,bRq (l:=l.map f) (ds:=g y) hx hi h0 (by rw [QL,hg,QI,hfg]) hns.1 hns.2.1 fun m hm=>QD (hns.2.2 m hm),⟨qH,fun p hp=>?_,fun p hp=>?_⟩,by rw [hS]; exact hk y hm h⟩
    · simp [evI] at hp; subst hp; exact hb
    · simp [evI] at hp; subst hp; simp [hb]
theorem cJ9 {n sz:Nat} {k:IntKind} {xo io:AO} {i:Int} {l:List (List D)} {c:List V} (hx:ev s xo=.tre n) (hi:ev s io=.d (.i k i)) (h0:0≤i) (hb:bget s.bx n=some (.tro sz i.toNat l::c)) (hk:bN P K rest (s.put d (.trp n sz i.toNat 0))):bN P K (.ia d sz xo io::rest) s:=by
  show aop P s (bN P K rest) (.ia d sz xo io)
  refine .inr ?_
  rw [hx,hi]
  exact nS (x:=.tre n) rfl (nS (x:=.d (.i k i)) rfl ⟨h0,.inr ⟨l,c,hb,hk⟩⟩)
def evJ (s:St) (d sz:Nat) (x i:AO) (n k:Nat) (l:List (List D)) (c:List V):Ev:={ o:=.ia d sz x i,d:=some d,r:=.trp n sz k 0,rt:=oQ s (x.rd++i.rd),rb:=[(n,.tro sz k l::c)] }
theorem bMh {n sz:Nat} {k:IntKind} {xo io:AO} {i:Int} {l:List (List D)} {c:List V} {s':St} (hx:ev s xo=.tre n) (hi:ev s io=.d (.i k i)) (h0:0≤i) (hb:bget s.bx n=some (.tro sz i.toNat l::c)) (hS:eff (evJ s d sz xo io n i.toNat l c) s=s') (hk:dgo P KD rest (evJ s d sz xo io n i.toNat l c::acc) s'):dgo P KD (.ia d sz xo io::rest) acc s:=by
  refine ⟨_,rfl,?_,⟨qH,fun p hp=>?_,fun p hp=>?_⟩,by rw [hS]; exact hk⟩
  · intro s' hrd hg
    have hag:Agree s s' (xo.rd++io.rd) []:=⟨kN hrd.rt,fun p hp=>by simp at hp⟩
    show aop P s' _ (.ia d sz xo io)
    refine .inr ?_
    rw [hag.l.ev,hag.r.ev,hx,hi]
    exact nS (x:=.tre n) rfl (nS (x:=.d (.i k i)) rfl ⟨h0,.inr ⟨l,c,hrd.rb (n,_) (by simp [evJ]),rfl⟩⟩)
  · simp [evJ] at hp; subst hp; exact hb
  · simp [evJ] at hp
theorem aLh {n sz i off m:Nat} {agg:Bool} {xo:AO} {l:List (List D)} {c:List V} {v:V} (hx:ev s xo=.trp n sz i off) (hb:bget s.bx n=some (.tro sz i l::c)) (hv:aK2 m agg (c.drop off)=some v):vop s (fun y=>y=v) (.ld d m agg xo):=by
  simp only [vop]
  rw [hx]
  exact .inl ⟨l,c,hb,aYy hv rfl⟩
def aRg (s:St) (n:Nat):Option (List (List D)):=match bget s.bx n with
  | some (.trc _ l::_)=>some l
  | some (.tro _ _ l::_)=>some l
  | some [.trs _ l]=>some l
  | _=>none
theorem aA4 {n:Nat} {xo:AO} {l:List (List D)} {L:Nat} (hx:ev s xo=.tre n) (hb:aRg s n=some l) (hl:l.length=L):vop s (fun y=>y=.d (.i .i64 L)) (.len d xo):=by
  subst hl
  simp only [vop]
  rw [hx]
  show trL s n _
  unfold aRg at hb
  unfold trL
  split at hb <;> simp at hb
  · rename_i h; rw [h]; subst hb; rfl
  · rename_i h; rw [h]; subst hb; rfl
  · rename_i h; rw [h]; subst hb; rfl
theorem bIh {n sz i off m:Nat} {xo yo:AO} {l:List (List D)} {c:List V} {s':St} (hx:ev s xo=.trp n sz i off) (hb:bget s.bx n=some (.tro sz i l::c)) (hy:((ev s yo).solid&&((ev s yo).cells.length==m&&QC (off+m) c.length))=true)
    (hS:(⟨s.env,fC s.bx n (.tro sz i l::putCells c off (ev s yo).cells)⟩:St)=s') (hk:bN P K rest s'):bN P K (.st m xo yo::rest) s:=by
  simp only [QA,beq_iff_eq] at hy
  show aop P s (bN P K rest) (.st m xo yo)
  simp only [aop]
  rw [hx]
  have hu:∀ C:V→Prop,C (ev s yo)→use (ev s yo) C:=by
    intro C hC
    revert hy hC; generalize ev s yo=u; intro hy hC
    cases u <;> first | exact hC | simp [V.solid] at hy
  exact hu _ (.inl ⟨l,c,hb,hy.1,hy.2.1,QD hy.2.2,by rw [hS]; exact hk⟩)
def evT (s:St) (m:Nat) (x y:AO) (n sz i off:Nat) (l:List (List D)) (c:List V):Ev:={ o:=.st m x y,rt:=oQ s (x.rd++y.rd),rb:=[(n,.tro sz i l::c)],wr:=[(n,.tro sz i l::putCells c off (ev s y).cells)] }
theorem bIr {n sz i off m:Nat} {xo yo:AO} {l:List (List D)} {c:List V} {s':St} (hx:ev s xo=.trp n sz i off) (hb:bget s.bx n=some (.tro sz i l::c)) (hy:((ev s yo).solid&&((ev s yo).cells.length==m&&QC (off+m) c.length))=true)
    (hS:eff (evT s m xo yo n sz i off l c) s=s') (hk:dgo P KD rest (evT s m xo yo n sz i off l c::acc) s'):dgo P KD (.st m xo yo::rest) acc s:=by
  simp only [QA,beq_iff_eq] at hy
  refine ⟨_,rfl,?_,⟨qH,fun p hp=>?_,fun p hp=>?_⟩,by rw [hS]; exact hk⟩
  · intro s' hrd hg
    have hag:Agree s s' (xo.rd++yo.rd) []:=⟨kN hrd.rt,fun p hp=>by simp at hp⟩
    show aop P s' _ (.st m xo yo)
    simp only [aop]
    rw [hag.l.ev,hag.r.ev,hx]
    have hu:∀ C:V→Prop,C (ev s yo)→use (ev s yo) C:=by
      intro C hC
      clear hag hrd hg
      revert hy hC; generalize ev s yo=u; intro hy hC
      cases u <;> first | exact hC | simp [V.solid] at hy
    exact hu _ (.inl ⟨l,c,hrd.rb (n,_) (by simp [evT]),hy.1,hy.2.1,QD hy.2.2,rfl⟩)
  · simp [evT] at hp; subst hp; exact hb
  · simp [evT] at hp; subst hp; simp [hb]
theorem aQf {bx bx':List (Nat×List V)}:∀ {cells:List V} {ds:List D} {dead:List Nat},pK bx cells=some (ds,dead)→(∀ m∈dead,bget bx' m=bget bx m)→pK bx' cells=some (ds,dead)
  | [],_,_,h,_=>h
  | x::r,ds,dead,h,hd=>by
    simp only [pK] at h ⊢
    split at h
    · simp at h
    · rename_i ds' N' he
      cases x with
      | d y =>
        simp only at h
        split at h <;> simp at h
        rename_i hf
        obtain ⟨rfl,rfl⟩:=h
        rw [aQf he hd]; simp [hf]
      | nil sz =>
        simp at h
        obtain ⟨rfl,rfl⟩:=h
        rw [aQf he hd]
      | tre n =>
        simp only at h
        split at h <;> simp at h
        rename_i hb
        obtain ⟨rfl,rfl⟩:=h
        rw [aQf he fun m hm=>hd m (by simp [hm])]
        simp only
        rw [hd n (by simp),hb]
      | _=>simp at h
theorem cG4 {bx bx':List (Nat×List V)} {x:AO} {v:V} {ds:List D} {dead:List Nat} (h:V8 bx x v=some (ds,dead)) (hd:∀ m∈dead,bget bx' m=bget bx m):V8 bx' x v=some (ds,dead):=by
  unfold V8 at h ⊢
  split at h
  · exact h
  · exact aQf h hd
theorem bFq {s s':St} {sz:Nat}:∀ {xs:List AO} {l:List (List D)} {dead:List Nat},tJ s sz xs=some (l,dead)→xs.map (ev s')=xs.map (ev s)→(∀ m∈dead,bget s'.bx m=bget s.bx m)→tJ s' sz xs=some (l,dead)
  | [],_,_,h,_,_=>h
  | x::r,l,dead,h,he,hd=>by
    simp only [List.map_cons,List.cons.injEq] at he
    simp only [tJ] at h ⊢
    rw [he.1]
    split at h
    · rename_i hc
      rw [if_pos hc]
      split at h <;> simp at h
      rename_i ds N' l' M' h1 h2
      obtain ⟨rfl,rfl⟩:=h
      rw [cG4 h1 fun m hm=>hd m (QM _ hm),bFq h2 he.2 fun m hm=>hd m (QN _ hm)]
    · simp at h
def xJ (d:Nat) (dead:List Nat):Bool:=nodupB dead&&!dead.contains d
theorem V7 {d:Nat} {dead:List Nat} (h:xJ d dead=true):dead.Nodup∧d∉dead:=by
  simp only [xJ,QA,QE,QF,decide_eq_false_iff_not] at h
  exact ⟨aJ5 h.1,h.2⟩
theorem pU {e sz:Nat} {xs:List AO} {l:List α} {f g:α→List D} (dead:List Nat) {s':St} (hl:tJ s sz xs=some (l.map g,dead)) (hfg:∀ x,f x=g x) (hd:(s.fresh d&&xJ d dead)=true) (hS:(⟨(d,.tre d)::s.env,(d,[.trc sz (l.map f)])::kill s.bx dead⟩:St)=s')
    (hk:bN P K rest s'):bN P K (.bsl d e sz xs::rest) s:=by
  have:l.map g=l.map f:=QO fun x _=>(hfg x).symm
  rw [this] at hl
  rw [QA] at hd
  obtain ⟨h1,h2⟩:=V7 hd.2
  exact .inr (.inl ⟨hd.1,_,_,hl,h1,h2,by rw [hS]; exact hk⟩)
def bKv (s:St) (dead:List Nat):List (Nat×List V):=dead.map fun m=>(m,(bget s.bx m).getD [])
def evR (s:St) (o:AOp) (d:Nat) (rd:List Nat) (sz:Nat) (l:List (List D)) (dead:List Nat):Ev:={ o:=o,d:=some d,r:=.tre d,rt:=oQ s rd,rb:=bKv s dead,wr:=dead.map fun m=>(m,[.trd]),nw:=[(d,[.trc sz l])],fr:=[d] }
theorem aWu {o:AOp} {rd:List Nat} {sz:Nat} {l:List (List D)} {dead:List Nat} (h:∀ m∈dead,(bget s.bx m).isSome=true):Rd (evR s o d rd sz l dead) s:=by
  refine ⟨qH,fun p hp=>?_,fun p hp=>?_⟩
  · obtain ⟨m,hm,rfl⟩:=QB.1 hp
    obtain ⟨c,hc⟩:=QJ.1 (h m hm)
    simp [hc]
  · obtain ⟨m,hm,rfl⟩:=QB.1 hp
    exact h m hm
theorem bBn {s':St} {o:AOp} {rd:List Nat} {sz:Nat} {l:List (List D)} {dead:List Nat} (h:∀ m∈dead,(bget s.bx m).isSome=true) (hr:Rd (evR s o d rd sz l dead) s'):∀ m∈dead,bget s'.bx m=bget s.bx m:=fun m hm=>by
  have:=hr.rb (m,(bget s.bx m).getD []) (QB.2 ⟨m,hm,rfl⟩)
  obtain ⟨c,hc⟩:=QJ.1 (h m hm)
  rw [this,hc]; rfl
theorem bMt {s':St} {o:AOp} {rd:List Nat} {sz:Nat} {l:List (List D)} {dead:List Nat}:(⟨(d,.tre d)::s'.env,(d,[.trc sz l])::kill s'.bx dead⟩:St)=eff (evR s o d rd sz l dead) s':=by
  rw [← bCe]; rfl
theorem aYa {s:St} {sz:Nat}:∀ {xs:List AO} {l:List (List D)} {dead:List Nat},tJ s sz xs=some (l,dead)→∀ m∈dead,(bget s.bx m).isSome=true
  | [],l,dead,h=>by simp [tJ] at h; rw [h.2]; simp
  | x::r,l,dead,h=>by
    simp only [tJ] at h
    split at h
    · split at h <;> simp at h
      rename_i ds N' l' M' h1 h2
      obtain ⟨rfl,rfl⟩:=h
      intro m hm
      rcases QP.1 hm with hm | hm
      · rcases aSl h1 with ⟨_,_,e⟩ | h1
        · simp only [Prod.mk.injEq] at e; rw [e.2] at hm; simp at hm
        · exact closeC_dead h1 m hm
      · exact aYa h2 m hm
    · simp at h
where
  closeC_dead {bx:List (Nat×List V)}:∀ {cells:List V} {ds:List D} {dead:List Nat},pK bx cells=some (ds,dead)→∀ m∈dead,(bget bx m).isSome=true
  | [],_,_,h=>by simp [pK] at h; rw [h.2]; simp
  | x::r,ds,dead,h=>by
    simp only [pK] at h
    split at h
    · simp at h
    · rename_i ds' N' he
      have ih:=closeC_dead he
      cases x with
      | d y =>
        simp only at h
        split at h <;> simp at h
        obtain ⟨rfl,rfl⟩:=h; exact ih
      | nil sz =>
        simp at h
        obtain ⟨rfl,rfl⟩:=h; exact ih
      | tre n =>
        simp only at h
        split at h <;> simp at h
        rename_i hb
        obtain ⟨rfl,rfl⟩:=h
        intro m hm
        rcases List.mem_cons.1 hm with rfl | hm
        · simp [hb]
        · exact ih m hm
      | _=>simp at h
theorem aF0 {e sz:Nat} {xs:List AO} {l:List α} {f g:α→List D} (dead:List Nat) {s':St} (hl:tJ s sz xs=some (l.map g,dead)) (hfg:∀ x,f x=g x) (hd:xJ d dead=true) (hS:eff (evR s (.bsl d e sz xs) d (xs.flatMap AO.rd) sz (l.map f) dead) s=s')
    (hk:dgo P KD rest (evR s (.bsl d e sz xs) d (xs.flatMap AO.rd) sz (l.map f) dead::acc) s'):dgo P KD (.bsl d e sz xs::rest) acc s:=by
  have:l.map g=l.map f:=QO fun x _=>(hfg x).symm
  rw [this] at hl
  obtain ⟨h1,h2⟩:=V7 hd
  refine ⟨_,rfl,?_,aWu (aYa hl),by rw [hS]; exact hk⟩
  intro s2 hrd hg
  have e1:xs.map (ev s2)=xs.map (ev s):=Agree.evs (B:=[]) ⟨kN hrd.rt,fun p hp=>by simp at hp⟩
  exact .inr (.inl ⟨hg.fr d (by simp [evR]),_,_,bFq hl e1 (bBn (aYa hl) hrd),h1,h2,bMt⟩)
theorem bIk {sz:Nat} {x:V} {l:List (List D)} {N:List Nat} (h:rY s sz x=some (l,N)):∀ m∈N,(bget s.bx m).isSome=true:=by
  unfold rY at h
  split at h
  · split at h <;> simp at h
    rw [h.2]; simp
  · split at h
    · rename_i hb
      split at h <;> simp at h
      rw [← h.2]; simp [hb]
    · simp at h
  · simp at h
theorem bL2 {s':St} {sz:Nat} {x:V} {l:List (List D)} {N:List Nat} (h:rY s sz x=some (l,N)) (hd:∀ m∈N,bget s'.bx m=bget s.bx m):rY s' sz x=some (l,N):=by
  unfold rY at h ⊢
  split at h
  · exact h
  · split at h
    · rename_i hb
      split at h <;> simp at h
      rename_i e
      obtain ⟨rfl,rfl⟩:=h
      rw [hd _ (by simp),hb]
      simp [e]
    · simp at h
  · simp at h
theorem aDg {e sz by':Nat} {xo yo:AO} {l m:List α} {f:α→List D} (N1 N2:List Nat) {kF:List α→Option β} {S':List α→St} (h:(appG by' l m>>=kF)=some r) (hc:((ev s xo).cond.isEmpty&&(ev s yo).cond.isEmpty)=true) (hx:rY s sz (ev s xo)=some (l.map f,N1)) (hy:rY s sz (ev s yo)=some (m.map f,N2))
    (hd:(s.fresh d&&xJ d (N1++N2))=true) (hS:∀ y:List α,(⟨(d,.tre d)::s.env,(d,[.trc sz (y.map f)])::kill s.bx (N1++N2)⟩:St)=S' y) (hk:∀ y,kF y=some r→bN P K rest (S' y)):bN P K (.app d e sz by' xo yo::rest) s:=by
  unfold appG at h
  split at h
  · rename_i h0
    rw [QA] at hd hc
    obtain ⟨h1,h2⟩:=V7 hd.2
    show aop P s (bN P K rest) (.app d e sz by' xo yo)
    simp only [aop]
    exact nS hc.1 (nS hc.2 (.inr (.inl ⟨_,_,hx,.inl ⟨_,_,hy,h1,h2,by simpa using h0,hd.1,by rw [← QG,hS]; exact hk _ h⟩⟩)))
  · simp at h
theorem bOw {sz:Nat} {xo:AO} {hi':Option AO} {l:List α} {f:α→List D} {k:Int} (n:Nat) {kF:List α→Option β} {S':List α→St} (h:(iR l 0 k>>=kF)=some r) (hc:(ev s xo).cond.isEmpty=true) (hx:ev s xo=.tre n) (hb:bget s.bx n=some [.trc sz (l.map f)])
    (h2:aFh s hi' l.length k) (hd:(s.fresh d&&xJ d [n])=true) (hS:∀ y:List α,(⟨(d,.tre d)::s.env,(d,[.trc sz (y.map f)])::kill s.bx [n]⟩:St)=S' y) (hk:∀ y,kF y=some r→bN P K rest (S' y)):bN P K (.slc d sz xo none hi' none::rest) s:=by
  unfold iR at h
  split at h
  · rename_i h0
    rw [QA] at hd
    obtain ⟨_,h1⟩:=V7 hd.2
    show aop P s (bN P K rest) (.slc d sz xo none hi' none)
    simp only [aop]
    refine .inr ?_
    unfold aMd
    refine nS hc ?_
    rw [hx]
    have h:kF (l.take k.toNat)=some r:=by simpa using h
    exact ⟨l.map f,hb,rfl,rfl,aOu (by simpa using h2) ⟨by omega,by simp; omega,h1,hd.1,by rw [← List.map_take,hS]; exact hk _ h⟩⟩
  · simp at h
theorem aJu {e sz by':Nat} {xo yo:AO} {l m:List α} {f:α→List D} (N1 N2:List Nat) {kF:List α→Option β} {S':List α→St} (h:(appG by' l m>>=kF)=some r) (hc:((ev s xo).cond.isEmpty&&(ev s yo).cond.isEmpty)=true) (hx:rY s sz (ev s xo)=some (l.map f,N1)) (hy:rY s sz (ev s yo)=some (m.map f,N2))
    (hd:xJ d (N1++N2)=true) (hS:∀ y:List α,eff (evR s (.app d e sz by' xo yo) d (xo.rd++yo.rd) sz (y.map f) (N1++N2)) s=S' y) (hk:∀ y,kF y=some r→dgo P KD rest (evR s (.app d e sz by' xo yo) d (xo.rd++yo.rd) sz (y.map f) (N1++N2)::acc) (S' y)):dgo P KD (.app d e sz by' xo yo::rest) acc s:=by
  unfold appG at h
  split at h
  · rename_i h0
    rw [QA] at hc
    obtain ⟨h1,h2⟩:=V7 hd
    have hdd:∀ k∈N1++N2,(bget s.bx k).isSome=true:=fun k hk=>(QP.1 hk).elim (bIk hx k) (bIk hy k)
    refine ⟨evR s (.app d e sz by' xo yo) d (xo.rd++yo.rd) sz ((l++m).map f) (N1++N2),rfl,?_,aWu hdd,by rw [hS]; exact hk _ h⟩
    intro s2 hrd hg
    have hag:Agree s s2 (xo.rd++yo.rd) []:=⟨kN hrd.rt,fun p hp=>by simp at hp⟩
    have hget:=bBn hdd hrd
    show aop P s2 _ (.app d e sz by' xo yo)
    simp only [aop]
    rw [hag.l.ev,hag.r.ev]
    refine nS hc.1 (nS hc.2 (.inr (.inl ⟨_,_,bL2 hx fun k hk=>hget k (QM _ hk),.inl ⟨_,_,bL2 hy fun k hk=>hget k (QN _ hk),h1,h2,by simpa using h0,hg.fr d (by simp [evR]),?_⟩⟩)))
    rw [← QG]; exact bMt
  · simp at h
theorem bHa {e sz by':Nat} {xo yo:AO} {l m:List α} {f:α→List D} (N1:List Nat) {kF:List α→Option β} {S':List α→St} (h:(appG by' l m>>=kF)=some r) (hc:((ev s xo).cond.isEmpty&&(ev s yo).cond.isEmpty)=true) (hx:rY s sz (ev s xo)=some (l.map f,N1)) (hy:srV (ev s yo)=some (sz,m.map f)) (hfl:∀ x,(f x).all D.flat=true)
    (hd:(s.fresh d&&xJ d N1)=true) (hS:∀ y:List α,(⟨(d,.tre d)::s.env,(d,[.trc sz (y.map f)])::kill s.bx N1⟩:St)=S' y) (hk:∀ y,kF y=some r→bN P K rest (S' y)):bN P K (.app d e sz by' xo yo::rest) s:=by
  unfold appG at h
  split at h
  · rename_i h0
    rw [QA] at hd hc
    obtain ⟨h1,h2⟩:=V7 hd.2
    show aop P s (bN P K rest) (.app d e sz by' xo yo)
    simp only [aop]
    refine nS hc.1 (nS hc.2 (.inr (.inl ⟨_,_,hx,.inr (aK8 hy ?_)⟩)))
    refine ⟨rfl,fun r hr=>by obtain ⟨x,_,rfl⟩:=QB.1 hr; exact hfl x,by rw [QH]; exact h1,by rw [QH]; exact h2,by simpa using h0,hd.1,?_⟩
    rw [← QG,QH,hS]; exact hk _ h
  · simp at h
end
end Go.Ab
