/- Steps: operations on trees,in order or in an open order. -/
import Derived.Test.YtpedjchcopnlmaaGreatAbC3
namespace Go.Ab
open Go Go.RowKit
open _root_.Bool renaming and_eq_true→QA,not_eq_true'→QB
open _root_.List renaming contains_eq_mem→QC,mem_map→QD,all_eq_true→QI,getElem?_map→QJ,mem_append_left→QK,mem_append_right→QL,map_congr_left→QM,mem_append→QN,map_append→QO
open _root_.Nat renaming ble→QE,le_of_ble_eq_true→QF
open _root_.Option renaming map_some→QG,isSome_iff_exists→QH
theorem aIa:∀ {l:List Nat},nodupB l=true→l.Nodup
  | [],_=>by simp
  | x::l,h=>by
    obtain ⟨h1,h2⟩:=nodup_cons h
    exact List.nodup_cons.2 ⟨h1,aIa h2⟩
theorem bA8:∀ (dead:List Nat) (bx:List (Nat×List V)),gM bx (dead.map fun m=>(m,[V.trd]))=kill bx dead
  | [],_=>rfl
  | m::dead,bx=>bA8 dead (fD bx m [.trd])
theorem uN {x:V} {C:V→Prop} (hx:x.cond.isEmpty=true) (h:C x):use x C:=yS hx h
section
variable {P:Program} {K:St→Prop} {KD:List Ev→St→Prop} {rest:List AOp} {acc:List Ev} {s:St} {α β:Type} {r:β} {d:Nat}
def bDx (s:St) (n:Nat) (ns:List Nat):Bool:=nodupB ns&&(!ns.contains n&&ns.all fun m=>QE NX m&&s.fresh m)
def evI (s:St) (d sz:Nat) (x i:AO) (n k:Nat) (ns:List Nat) (l:List (List D)) (ds:List D):Ev :=
  { o:=.ia d sz x i,d:=some d,r:=.trp n sz k 0,rt:=qA s (x.rd++i.rd),rb:=[(n,[.trc sz l])],wr:=[(n,.tro sz k l::(kP ns ds).1)],nw:=(kP ns ds).2,fr:=ns }
theorem bHb {s:St} {n sz:Nat} {k:IntKind} {i:Int} {ns:List Nat} {l:List (List D)} {ds:List D} {K:St→Prop} (hb:bget s.bx n=some [.trc sz l]) (h0:0≤i) (hd:l[i.toNat]?=some ds) (h1:ns.Nodup) (h2:n∉ns) (h3:∀ m∈ns,NX≤m∧s.fresh m=true)
    (hK:K ⟨(d,.trp n sz i.toNat 0)::s.env,(kP ns ds).2++fD s.bx n (.tro sz i.toNat l::(kP ns ds).1)⟩):iaT s d sz (.tre n) (.d (.i k i)) K:=⟨h0,.inl ⟨l,ds,ns,hb,hd,h1,h2,h3,hK⟩⟩
theorem vY {l:List α} {i:Int} {x:α} (h:idx l i=some x):0≤i∧l[i.toNat]?=some x:=by
  unfold idx at h
  split at h
  · rename_i h0; exact ⟨h0,h⟩
  · simp at h
theorem bS3 {n sz:Nat} {k:IntKind} {xo io:AO} {l:List α} {f g:α→List D} {i:Int} (ns:List Nat) {kF:α→Option β} {S':α→St} (h:(idx l i>>=kF)=some r) (hx:ev s xo=.tre n) (hi:ev s io=.d (.i k i)) (hb:bget s.bx n=some [.trc sz (l.map f)]) (hfg:∀ x,f x=g x)
    (hns:bDx s n ns=true) (hS:∀ y,(⟨(d,.trp n sz i.toNat 0)::s.env,(kP ns (g y)).2++fD s.bx n (.tro sz i.toNat (l.map f)::(kP ns (g y)).1)⟩:St)=S' y) (hk:∀ y,idx l i=some y→kF y=some r→cO P K rest (S' y)):cO P K (.ia d sz xo io::rest) s:=by
  cases hm:idx l i with
  | none=>rw [hm] at h; simp at h
  | some y =>
    rw [hm] at h
    obtain ⟨h0,hg⟩:=vY hm
    show aop P s (cO P K rest) (.ia d sz xo io)
    simp only [bDx,QA,QB,QC,decide_eq_false_iff_not,QI] at hns
    refine .inr ?_
    rw [hx,hi]
    refine uN (x:=.tre n) rfl (uN (x:=.d (.i k i)) rfl (bHb hb h0 (ds:=g y) (by rw [QJ,hg,QG,hfg]) (aIa hns.1) hns.2.1 (fun m hm=>⟨QF (hns.2.2 m hm).1,(hns.2.2 m hm).2⟩) ?_))
    rw [hS]; exact hk y hm h
theorem cAe {n sz:Nat} {k:IntKind} {xo io:AO} {i:Int} {ns:List Nat} {l:List (List D)} {ds:List D} (hx:ev s xo=.tre n) (hi:ev s io=.d (.i k i)) (h0:0≤i) (hd:l[i.toNat]?=some ds) (h1:nodupB ns=true) (h2:n∉ns) (h3:∀ m∈ns,NX≤m):nC P (evI s d sz xo io n i.toNat ns l ds):=by
  intro s' hrd hg
  have hag:Agree s s' (xo.rd++io.rd) []:=⟨lD hrd.rt,fun p hp=>by simp at hp⟩
  show aop P s' _ (.ia d sz xo io)
  refine .inr ?_
  rw [hag.l.ev,hag.r.ev,hx,hi]
  exact uN (x:=.tre n) rfl (uN (x:=.d (.i k i)) rfl (bHb (hrd.rb (n,[.trc sz l]) (by simp [evI])) h0 hd (aIa h1) h2 (fun m hm=>⟨h3 m hm,hg.fr m hm⟩) rfl))
theorem aCa {n sz:Nat} {k:IntKind} {xo io:AO} {l:List α} {f g:α→List D} {i:Int} (ns:List Nat) {kF:α→Option β} {S':α→St} (h:(idx l i>>=kF)=some r) (hx:ev s xo=.tre n) (hi:ev s io=.d (.i k i)) (hb:bget s.bx n=some [.trc sz (l.map f)]) (hfg:∀ x,f x=g x)
    (hns:(nodupB ns&&(!ns.contains n&&ns.all fun m=>QE NX m))=true) (hS:∀ y,eff (evI s d sz xo io n i.toNat ns (l.map f) (g y)) s=S' y) (hk:∀ y,idx l i=some y→kF y=some r→dgo P KD rest (evI s d sz xo io n i.toNat ns (l.map f) (g y)::acc) (S' y)):dgo P KD (.ia d sz xo io::rest) acc s:=by
  cases hm:idx l i with
  | none=>rw [hm] at h; simp at h
  | some y =>
    rw [hm] at h
    obtain ⟨h0,hg⟩:=vY hm
    simp only [QA,QB,QC,decide_eq_false_iff_not,QI] at hns
    refine ⟨evI s d sz xo io n i.toNat ns (l.map f) (g y),rfl,cAe (l:=l.map f) (ds:=g y) hx hi h0 (by rw [QJ,hg,QG,hfg]) hns.1 hns.2.1 fun m hm=>QF (hns.2.2 m hm),⟨rF,fun p hp=>?_,fun p hp=>?_⟩,by rw [hS]; exact hk y hm h⟩
    · simp [evI] at hp; subst hp; exact hb
    · simp [evI] at hp; subst hp; simp [hb]
def evJ (s:St) (d sz:Nat) (x i:AO) (n k:Nat) (l:List (List D)) (c:List V):Ev:={ o:=.ia d sz x i,d:=some d,r:=.trp n sz k 0,rt:=qA s (x.rd++i.rd),rb:=[(n,.tro sz k l::c)] }
theorem H8 {n sz:Nat} {k:IntKind} {xo io:AO} {i:Int} {l:List (List D)} {c:List V} {s':St} (hx:ev s xo=.tre n) (hi:ev s io=.d (.i k i)) (h0:0≤i) (hb:bget s.bx n=some (.tro sz i.toNat l::c)) (hS:eff (evJ s d sz xo io n i.toNat l c) s=s') (hk:dgo P KD rest (evJ s d sz xo io n i.toNat l c::acc) s'):dgo P KD (.ia d sz xo io::rest) acc s:=by
  refine ⟨_,rfl,?_,⟨rF,fun p hp=>?_,fun p hp=>?_⟩,by rw [hS]; exact hk⟩
  · intro s' hrd hg
    have hag:Agree s s' (xo.rd++io.rd) []:=⟨lD hrd.rt,fun p hp=>by simp at hp⟩
    show aop P s' _ (.ia d sz xo io)
    refine .inr ?_
    rw [hag.l.ev,hag.r.ev,hx,hi]
    exact uN (x:=.tre n) rfl (uN (x:=.d (.i k i)) rfl ⟨h0,.inr ⟨l,c,hrd.rb (n,_) (by simp [evJ]),rfl⟩⟩)
  · simp [evJ] at hp; subst hp; exact hb
  · simp [evJ] at hp
theorem zH {n sz i off m:Nat} {agg:Bool} {xo:AO} {l:List (List D)} {c:List V} {v:V} (hx:ev s xo=.trp n sz i off) (hb:bget s.bx n=some (.tro sz i l::c)) (hv:aK3 m agg (c.drop off)=some v):vop s (fun y=>y=v) (.ld d m agg xo):=by
  simp only [vop]
  rw [hx]
  exact .inl ⟨l,c,hb,aU8 hv rfl⟩
def bAl (s:St) (n:Nat):Option (List (List D)):=match bget s.bx n with
  | some (.trc _ l::_)=>some l
  | some (.tro _ _ l::_)=>some l
  | some [.trs _ l]=>some l
  | _=>none
theorem xZ {n:Nat} {xo:AO} {l:List (List D)} {L:Nat} (hx:ev s xo=.tre n) (hb:bAl s n=some l) (hl:l.length=L):vop s (fun y=>y=.d (.i .i64 L)) (.len d xo):=by
  subst hl
  simp only [vop]
  rw [hx]
  show trL s n _
  unfold bAl at hb
  unfold trL
  split at hb <;> simp at hb
  · rename_i h; rw [h]; subst hb; rfl
  · rename_i h; rw [h]; subst hb; rfl
  · rename_i h; rw [h]; subst hb; rfl
def evT (s:St) (m:Nat) (x y:AO) (n sz i off:Nat) (l:List (List D)) (c:List V):Ev:={ o:=.st m x y,rt:=qA s (x.rd++y.rd),rb:=[(n,.tro sz i l::c)],wr:=[(n,.tro sz i l::putCells c off (ev s y).cells)] }
theorem aBx {n sz i off m:Nat} {xo yo:AO} {l:List (List D)} {c:List V} {s':St} (hx:ev s xo=.trp n sz i off) (hb:bget s.bx n=some (.tro sz i l::c)) (hy:((ev s yo).solid&&((ev s yo).cells.length==m&&QE (off+m) c.length))=true)
    (hS:eff (evT s m xo yo n sz i off l c) s=s') (hk:dgo P KD rest (evT s m xo yo n sz i off l c::acc) s'):dgo P KD (.st m xo yo::rest) acc s:=by
  simp only [QA,beq_iff_eq] at hy
  refine ⟨_,rfl,?_,⟨rF,fun p hp=>?_,fun p hp=>?_⟩,by rw [hS]; exact hk⟩
  · intro s' hrd hg
    have hag:Agree s s' (xo.rd++yo.rd) []:=⟨lD hrd.rt,fun p hp=>by simp at hp⟩
    show aop P s' _ (.st m xo yo)
    simp only [aop]
    rw [hag.l.ev,hag.r.ev,hx]
    have hu:∀ C:V→Prop,C (ev s yo)→use (ev s yo) C:=by
      intro C hC
      clear hag hrd hg
      revert hy hC; generalize ev s yo=u; intro hy hC
      cases u <;> first | exact hC | simp [V.solid] at hy
    exact hu _ (.inl ⟨l,c,hrd.rb (n,_) (by simp [evT]),hy.1,hy.2.1,QF hy.2.2,rfl⟩)
  · simp [evT] at hp; subst hp; exact hb
  · simp [evT] at hp; subst hp; simp [hb]
theorem aOm {bx bx':List (Nat×List V)}:∀ {cells:List V} {ds:List D} {dead:List Nat},qE bx cells=some (ds,dead)→(∀ m∈dead,bget bx' m=bget bx m)→qE bx' cells=some (ds,dead)
  | [],_,_,h,_=>h
  | x::r,ds,dead,h,hd=>by
    simp only [qE] at h ⊢
    split at h
    · simp at h
    · rename_i ds' N' he
      cases x with
      | d y =>
        simp only at h
        split at h <;> simp at h
        rename_i hf
        obtain ⟨rfl,rfl⟩:=h
        rw [aOm he hd]; simp [hf]
      | nil sz =>
        simp at h
        obtain ⟨rfl,rfl⟩:=h
        rw [aOm he hd]
      | tre n =>
        simp only at h
        split at h <;> simp at h
        rename_i hb
        obtain ⟨rfl,rfl⟩:=h
        rw [aOm he fun m hm=>hd m (by simp [hm])]
        simp only
        rw [hd n (by simp),hb]
      | _=>simp at h
theorem bPy {bx bx':List (Nat×List V)} {x:AO} {v:V} {ds:List D} {dead:List Nat} (h:aAu bx x v=some (ds,dead)) (hd:∀ m∈dead,bget bx' m=bget bx m):aAu bx' x v=some (ds,dead):=by
  unfold aAu at h ⊢
  split at h
  · exact h
  · exact aOm h hd
theorem bEl {s s':St} {sz:Nat}:∀ {xs:List AO} {l:List (List D)} {dead:List Nat},uH s sz xs=some (l,dead)→xs.map (ev s')=xs.map (ev s)→(∀ m∈dead,bget s'.bx m=bget s.bx m)→uH s' sz xs=some (l,dead)
  | [],_,_,h,_,_=>h
  | x::r,l,dead,h,he,hd=>by
    simp only [List.map_cons,List.cons.injEq] at he
    simp only [uH] at h ⊢
    rw [he.1]
    split at h
    · rename_i hc
      rw [if_pos hc]
      split at h <;> simp at h
      rename_i ds N' l' M' h1 h2
      obtain ⟨rfl,rfl⟩:=h
      rw [bPy h1 fun m hm=>hd m (QK _ hm),bEl h2 he.2 fun m hm=>hd m (QL _ hm)]
    · simp at h
def Z4 (d:Nat) (dead:List Nat):Bool:=nodupB dead&&!dead.contains d
theorem aGh {d:Nat} {dead:List Nat} (h:Z4 d dead=true):dead.Nodup∧d∉dead:=by
  simp only [Z4,QA,QB,QC,decide_eq_false_iff_not] at h
  exact ⟨aIa h.1,h.2⟩
theorem qP {e sz:Nat} {xs:List AO} {l:List α} {f g:α→List D} (dead:List Nat) {s':St} (hl:uH s sz xs=some (l.map g,dead)) (hfg:∀ x,f x=g x) (hd:(s.fresh d&&Z4 d dead)=true) (hS:(⟨(d,.tre d)::s.env,(d,[.trc sz (l.map f)])::kill s.bx dead⟩:St)=s')
    (hk:cO P K rest s'):cO P K (.bsl d e sz xs::rest) s:=by
  have:l.map g=l.map f:=QM fun x _=>(hfg x).symm
  rw [this] at hl
  rw [QA] at hd
  obtain ⟨h1,h2⟩:=aGh hd.2
  exact .inr (.inl ⟨hd.1,_,_,hl,h1,h2,by rw [hS]; exact hk⟩)
def cAp (s:St) (dead:List Nat):List (Nat×List V):=dead.map fun m=>(m,(bget s.bx m).getD [])
def evR (s:St) (o:AOp) (d:Nat) (rd:List Nat) (sz:Nat) (l:List (List D)) (dead:List Nat):Ev:={ o:=o,d:=some d,r:=.tre d,rt:=qA s rd,rb:=cAp s dead,wr:=dead.map fun m=>(m,[.trd]),nw:=[(d,[.trc sz l])],fr:=[d] }
theorem aSh {o:AOp} {rd:List Nat} {sz:Nat} {l:List (List D)} {dead:List Nat} (h:∀ m∈dead,(bget s.bx m).isSome=true):Rd (evR s o d rd sz l dead) s:=by
  refine ⟨rF,fun p hp=>?_,fun p hp=>?_⟩
  · obtain ⟨m,hm,rfl⟩:=QD.1 hp
    obtain ⟨c,hc⟩:=QH.1 (h m hm)
    simp [hc]
  · obtain ⟨m,hm,rfl⟩:=QD.1 hp
    exact h m hm
theorem aX9 {s':St} {o:AOp} {rd:List Nat} {sz:Nat} {l:List (List D)} {dead:List Nat} (h:∀ m∈dead,(bget s.bx m).isSome=true) (hr:Rd (evR s o d rd sz l dead) s'):∀ m∈dead,bget s'.bx m=bget s.bx m:=fun m hm=>by
  have:=hr.rb (m,(bget s.bx m).getD []) (QD.2 ⟨m,hm,rfl⟩)
  obtain ⟨c,hc⟩:=QH.1 (h m hm)
  rw [this,hc]; rfl
theorem aUu {s':St} {o:AOp} {rd:List Nat} {sz:Nat} {l:List (List D)} {dead:List Nat}:(⟨(d,.tre d)::s'.env,(d,[.trc sz l])::kill s'.bx dead⟩:St)=eff (evR s o d rd sz l dead) s':=by
  rw [← bA8]; rfl
theorem aYv {s:St} {sz:Nat}:∀ {xs:List AO} {l:List (List D)} {dead:List Nat},uH s sz xs=some (l,dead)→∀ m∈dead,(bget s.bx m).isSome=true
  | [],l,dead,h=>by simp [uH] at h; rw [h.2]; simp
  | x::r,l,dead,h=>by
    simp only [uH] at h
    split at h
    · split at h <;> simp at h
      rename_i ds N' l' M' h1 h2
      obtain ⟨rfl,rfl⟩:=h
      intro m hm
      rcases QN.1 hm with hm | hm
      · rcases aUo h1 with ⟨_,_,e⟩ | h1
        · simp only [Prod.mk.injEq] at e; rw [e.2] at hm; simp at hm
        · exact closeC_dead h1 m hm
      · exact aYv h2 m hm
    · simp at h
where
  closeC_dead {bx:List (Nat×List V)}:∀ {cells:List V} {ds:List D} {dead:List Nat},qE bx cells=some (ds,dead)→∀ m∈dead,(bget bx m).isSome=true
  | [],_,_,h=>by simp [qE] at h; rw [h.2]; simp
  | x::r,ds,dead,h=>by
    simp only [qE] at h
    split at h
    · simp at h
    · rename_i ds' N' he
      have ih:=closeC_dead he
      cases x with
      | d y =>
        simp only at h
        split at h <;> simp at h
        obtain ⟨rfl,rfl⟩:=h; exact ih
      | nil sz =>
        simp at h
        obtain ⟨rfl,rfl⟩:=h; exact ih
      | tre n =>
        simp only at h
        split at h <;> simp at h
        rename_i hb
        obtain ⟨rfl,rfl⟩:=h
        intro m hm
        rcases List.mem_cons.1 hm with rfl | hm
        · simp [hb]
        · exact ih m hm
      | _=>simp at h
theorem rY {e sz:Nat} {xs:List AO} {l:List α} {f g:α→List D} (dead:List Nat) {s':St} (hl:uH s sz xs=some (l.map g,dead)) (hfg:∀ x,f x=g x) (hd:Z4 d dead=true) (hS:eff (evR s (.bsl d e sz xs) d (xs.flatMap AO.rd) sz (l.map f) dead) s=s')
    (hk:dgo P KD rest (evR s (.bsl d e sz xs) d (xs.flatMap AO.rd) sz (l.map f) dead::acc) s'):dgo P KD (.bsl d e sz xs::rest) acc s:=by
  have:l.map g=l.map f:=QM fun x _=>(hfg x).symm
  rw [this] at hl
  obtain ⟨h1,h2⟩:=aGh hd
  refine ⟨_,rfl,?_,aSh (aYv hl),by rw [hS]; exact hk⟩
  intro s2 hrd hg
  have e1:xs.map (ev s2)=xs.map (ev s):=Agree.evs (B:=[]) ⟨lD hrd.rt,fun p hp=>by simp at hp⟩
  exact .inr (.inl ⟨hg.fr d (by simp [evR]),_,_,bEl hl e1 (aX9 (aYv hl) hrd),h1,h2,aUu⟩)
theorem aTl {sz:Nat} {x:V} {l:List (List D)} {N:List Nat} (h:uB s sz x=some (l,N)):∀ m∈N,(bget s.bx m).isSome=true:=by
  unfold uB at h
  split at h
  · split at h <;> simp at h
    rw [h.2]; simp
  · split at h
    · rename_i hb
      split at h <;> simp at h
      rw [← h.2]; simp [hb]
    · simp at h
  · simp at h
theorem aTx {s':St} {sz:Nat} {x:V} {l:List (List D)} {N:List Nat} (h:uB s sz x=some (l,N)) (hd:∀ m∈N,bget s'.bx m=bget s.bx m):uB s' sz x=some (l,N):=by
  unfold uB at h ⊢
  split at h
  · exact h
  · split at h
    · rename_i hb
      split at h <;> simp at h
      rename_i e
      obtain ⟨rfl,rfl⟩:=h
      rw [hd _ (by simp),hb]
      simp [e]
    · simp at h
  · simp at h
theorem aDe {e sz by':Nat} {xo yo:AO} {l m:List α} {f:α→List D} (N1 N2:List Nat) {kF:List α→Option β} {S':List α→St} (h:(appG by' l m>>=kF)=some r) (hc:((ev s xo).cond.isEmpty&&(ev s yo).cond.isEmpty)=true) (hx:uB s sz (ev s xo)=some (l.map f,N1)) (hy:uB s sz (ev s yo)=some (m.map f,N2))
    (hd:(s.fresh d&&Z4 d (N1++N2))=true) (hS:∀ y:List α,(⟨(d,.tre d)::s.env,(d,[.trc sz (y.map f)])::kill s.bx (N1++N2)⟩:St)=S' y) (hk:∀ y,kF y=some r→cO P K rest (S' y)):cO P K (.app d e sz by' xo yo::rest) s:=by
  unfold appG at h
  split at h
  · rename_i h0
    rw [QA] at hd hc
    obtain ⟨h1,h2⟩:=aGh hd.2
    show aop P s (cO P K rest) (.app d e sz by' xo yo)
    simp only [aop]
    exact uN hc.1 (uN hc.2 (.inr (.inl ⟨_,_,hx,.inl ⟨_,_,hy,h1,h2,by simpa using h0,hd.1,by rw [← QO,hS]; exact hk _ h⟩⟩)))
  · simp at h
theorem wH {e sz by':Nat} {xo yo:AO} {l m:List α} {f:α→List D} (N1 N2:List Nat) {kF:List α→Option β} {S':List α→St} (h:(appG by' l m>>=kF)=some r) (hc:((ev s xo).cond.isEmpty&&(ev s yo).cond.isEmpty)=true) (hx:uB s sz (ev s xo)=some (l.map f,N1)) (hy:uB s sz (ev s yo)=some (m.map f,N2))
    (hd:Z4 d (N1++N2)=true) (hS:∀ y:List α,eff (evR s (.app d e sz by' xo yo) d (xo.rd++yo.rd) sz (y.map f) (N1++N2)) s=S' y) (hk:∀ y,kF y=some r→dgo P KD rest (evR s (.app d e sz by' xo yo) d (xo.rd++yo.rd) sz (y.map f) (N1++N2)::acc) (S' y)):dgo P KD (.app d e sz by' xo yo::rest) acc s:=by
  unfold appG at h
  split at h
  · rename_i h0
    rw [QA] at hc
    obtain ⟨h1,h2⟩:=aGh hd
    have hdd:∀ k∈N1++N2,(bget s.bx k).isSome=true:=fun k hk=>(QN.1 hk).elim (aTl hx k) (aTl hy k)
    refine ⟨evR s (.app d e sz by' xo yo) d (xo.rd++yo.rd) sz ((l++m).map f) (N1++N2),rfl,?_,aSh hdd,by rw [hS]; exact hk _ h⟩
    intro s2 hrd hg
    have hag:Agree s s2 (xo.rd++yo.rd) []:=⟨lD hrd.rt,fun p hp=>by simp at hp⟩
    have hget:=aX9 hdd hrd
    show aop P s2 _ (.app d e sz by' xo yo)
    simp only [aop]
    rw [hag.l.ev,hag.r.ev]
    refine uN hc.1 (uN hc.2 (.inr (.inl ⟨_,_,aTx hx fun k hk=>hget k (QK _ hk),.inl ⟨_,_,aTx hy fun k hk=>hget k (QL _ hk),h1,h2,by simpa using h0,hg.fr d (by simp [evR]),?_⟩⟩)))
    rw [← QO]; exact aUu
  · simp at h
end
end Go.Ab
