/- Steps: operations on trees,in order or in an open order. -/
import Derived.Test.YthcemdafchcehabGreatAbC3
namespace Go.Ab
open Go Go.RowKit
open _root_.Bool renaming and_eq_true→QA,not_eq_true'→QD
open _root_.List renaming mem_map→QB,contains_eq_mem→QE,mem_append_left→QF,mem_append_right→QG,map_congr_left→QH,mem_append→QI,map_append→QJ
open _root_.Option renaming isSome_iff_exists→QC
open _root_.Nat renaming le_of_ble_eq_true→QK
theorem aNv:∀ {l:List Nat},nodupB l=true→l.Nodup
  | [],_=>by simp
  | x::l,h=>by
    obtain ⟨h1,h2⟩:=nodup_cons h
    exact List.nodup_cons.2 ⟨h1,aNv h2⟩
theorem bGs:∀ (dead:List Nat) (bx:List (Nat×List V)),fQ bx (dead.map fun m=>(m,[V.trd]))=kill bx dead
  | [],_=>rfl
  | m::dead,bx=>bGs dead (eY bx m [.trd])
theorem wW {x:V} {C:V→Prop} (hx:x.cond.isEmpty=true) (h:C x):use x C:=wV hx h
section
variable {P:Program} {K:St→Prop} {KD:List Ev→St→Prop} {rest:List AOp} {acc:List Ev} {s:St} {α β:Type} {r:β} {d:Nat}
def evI (s:St) (d sz:Nat) (x i:AO) (n k:Nat) (ns:List Nat) (l:List (List D)) (ds:List D):Ev :=
  { o:=.ia d sz x i,d:=some d,r:=.trp n sz k 0,rt:=oP s (x.rd++i.rd),rb:=[(n,[.trc sz l])],wr:=[(n,.tro sz k l::(jW ns ds).1)],nw:=(jW ns ds).2,fr:=ns }
theorem bL2 {s:St} {n sz:Nat} {k:IntKind} {i:Int} {ns:List Nat} {l:List (List D)} {ds:List D} {K:St→Prop} (hb:bget s.bx n=some [.trc sz l]) (h0:0≤i) (hd:l[i.toNat]?=some ds) (h1:ns.Nodup) (h2:n∉ns) (h3:∀ m∈ns,NX≤m∧s.fresh m=true)
    (hK:K ⟨(d,.trp n sz i.toNat 0)::s.env,(jW ns ds).2++eY s.bx n (.tro sz i.toNat l::(jW ns ds).1)⟩):iaT s d sz (.tre n) (.d (.i k i)) K:=⟨h0,.inl ⟨l,ds,ns,hb,hd,h1,h2,h3,hK⟩⟩
theorem aHe {l:List α} {i:Int} {x:α} (h:idx l i=some x):0≤i∧l[i.toNat]?=some x:=by
  unfold idx at h
  split at h
  · rename_i h0; exact ⟨h0,h⟩
  · simp at h
theorem cCu {n sz:Nat} {k:IntKind} {xo io:AO} {i:Int} {ns:List Nat} {l:List (List D)} {ds:List D} (hx:ev s xo=.tre n) (hi:ev s io=.d (.i k i)) (h0:0≤i) (hd:l[i.toNat]?=some ds) (h1:nodupB ns=true) (h2:n∉ns) (h3:∀ m∈ns,NX≤m):mP P (evI s d sz xo io n i.toNat ns l ds):=by
  intro s' hrd hg
  have hag:Agree s s' (xo.rd++io.rd) []:=⟨kE hrd.rt,fun p hp=>by simp at hp⟩
  show aop P s' _ (.ia d sz xo io)
  refine .inr ?_
  rw [hag.l.ev,hag.r.ev,hx,hi]
  exact wW (x:=.tre n) rfl (wW (x:=.d (.i k i)) rfl (bL2 (hrd.rb (n,[.trc sz l]) (by simp [evI])) h0 hd (aNv h1) h2 (fun m hm=>⟨h3 m hm,hg.fr m hm⟩) rfl))
theorem bC6 {n sz:Nat} {k:IntKind} {xo io:AO} {l:List α} {f g:α→List D} {i:Int} (ns:List Nat) {kF:α→Option β} {S':α→St} (h:(idx l i>>=kF)=some r) (hx:ev s xo=.tre n) (hi:ev s io=.d (.i k i)) (hb:bget s.bx n=some [.trc sz (l.map f)]) (hfg:∀ x,f x=g x)
    (hns:(nodupB ns&&(!ns.contains n&&ns.all fun m=>Nat.ble NX m))=true) (hS:∀ y,eff (evI s d sz xo io n i.toNat ns (l.map f) (g y)) s=S' y) (hk:∀ y,idx l i=some y→kF y=some r→dgo P KD rest (evI s d sz xo io n i.toNat ns (l.map f) (g y)::acc) (S' y)):dgo P KD (.ia d sz xo io::rest) acc s:=by
  cases hm:idx l i with
  | none=>rw [hm] at h; simp at h
  | some y =>
    rw [hm] at h
    obtain ⟨h0,hg⟩:=aHe hm
    simp only [QA,QD,QE,decide_eq_false_iff_not,List.all_eq_true] at hns
    refine ⟨evI s d sz xo io n i.toNat ns (l.map f) (g y),rfl,cCu (l:=l.map f) (ds:=g y) hx hi h0 (by rw [List.getElem?_map,hg,Option.map_some,hfg]) hns.1 hns.2.1 fun m hm=>QK (hns.2.2 m hm),⟨oW,fun p hp=>?_,fun p hp=>?_⟩,by rw [hS]; exact hk y hm h⟩
    · simp [evI] at hp; subst hp; exact hb
    · simp [evI] at hp; subst hp; simp [hb]
def evJ (s:St) (d sz:Nat) (x i:AO) (n k:Nat) (l:List (List D)) (c:List V):Ev:={ o:=.ia d sz x i,d:=some d,r:=.trp n sz k 0,rt:=oP s (x.rd++i.rd),rb:=[(n,.tro sz k l::c)] }
theorem bA9 {n sz:Nat} {k:IntKind} {xo io:AO} {i:Int} {l:List (List D)} {c:List V} {s':St} (hx:ev s xo=.tre n) (hi:ev s io=.d (.i k i)) (h0:0≤i) (hb:bget s.bx n=some (.tro sz i.toNat l::c)) (hS:eff (evJ s d sz xo io n i.toNat l c) s=s') (hk:dgo P KD rest (evJ s d sz xo io n i.toNat l c::acc) s'):dgo P KD (.ia d sz xo io::rest) acc s:=by
  refine ⟨_,rfl,?_,⟨oW,fun p hp=>?_,fun p hp=>?_⟩,by rw [hS]; exact hk⟩
  · intro s' hrd hg
    have hag:Agree s s' (xo.rd++io.rd) []:=⟨kE hrd.rt,fun p hp=>by simp at hp⟩
    show aop P s' _ (.ia d sz xo io)
    refine .inr ?_
    rw [hag.l.ev,hag.r.ev,hx,hi]
    exact wW (x:=.tre n) rfl (wW (x:=.d (.i k i)) rfl ⟨h0,.inr ⟨l,c,hrd.rb (n,_) (by simp [evJ]),rfl⟩⟩)
  · simp [evJ] at hp; subst hp; exact hb
  · simp [evJ] at hp
theorem bD4 {n sz i off m:Nat} {agg:Bool} {xo:AO} {l:List (List D)} {c:List V} {v:V} (hx:ev s xo=.trp n sz i off) (hb:bget s.bx n=some (.tro sz i l::c)) (hv:aK7 m agg (c.drop off)=some v):vop s (fun y=>y=v) (.ld d m agg xo):=by
  simp only [vop]
  rw [hx]
  exact .inl ⟨l,c,hb,aUv hv rfl⟩
def bIr (s:St) (n:Nat):Option (List (List D)):=match bget s.bx n with
  | some (.trc _ l::_)=>some l
  | some (.tro _ _ l::_)=>some l
  | some [.trs _ l]=>some l
  | _=>none
theorem aNs {n:Nat} {xo:AO} {l:List (List D)} {L:Nat} (hx:ev s xo=.tre n) (hb:bIr s n=some l) (hl:l.length=L):vop s (fun y=>y=.d (.i .i64 L)) (.len d xo):=by
  subst hl
  simp only [vop]
  rw [hx]
  show trL s n _
  unfold bIr at hb
  unfold trL
  split at hb <;> simp at hb
  · rename_i h; rw [h]; subst hb; rfl
  · rename_i h; rw [h]; subst hb; rfl
  · rename_i h; rw [h]; subst hb; rfl
def evT (s:St) (m:Nat) (x y:AO) (n sz i off:Nat) (l:List (List D)) (c:List V):Ev:={ o:=.st m x y,rt:=oP s (x.rd++y.rd),rb:=[(n,.tro sz i l::c)],wr:=[(n,.tro sz i l::putCells c off (ev s y).cells)] }
theorem bDx {n sz i off m:Nat} {xo yo:AO} {l:List (List D)} {c:List V} {s':St} (hx:ev s xo=.trp n sz i off) (hb:bget s.bx n=some (.tro sz i l::c)) (hy:((ev s yo).solid&&((ev s yo).cells.length==m&&Nat.ble (off+m) c.length))=true)
    (hS:eff (evT s m xo yo n sz i off l c) s=s') (hk:dgo P KD rest (evT s m xo yo n sz i off l c::acc) s'):dgo P KD (.st m xo yo::rest) acc s:=by
  simp only [QA,beq_iff_eq] at hy
  refine ⟨_,rfl,?_,⟨oW,fun p hp=>?_,fun p hp=>?_⟩,by rw [hS]; exact hk⟩
  · intro s' hrd hg
    have hag:Agree s s' (xo.rd++yo.rd) []:=⟨kE hrd.rt,fun p hp=>by simp at hp⟩
    show aop P s' _ (.st m xo yo)
    simp only [aop]
    rw [hag.l.ev,hag.r.ev,hx]
    have hu:∀ C:V→Prop,C (ev s yo)→use (ev s yo) C:=by
      intro C hC
      clear hag hrd hg
      revert hy hC; generalize ev s yo=u; intro hy hC
      cases u <;> first | exact hC | simp [V.solid] at hy
    exact hu _ (.inl ⟨l,c,hrd.rb (n,_) (by simp [evT]),hy.1,hy.2.1,QK hy.2.2,rfl⟩)
  · simp [evT] at hp; subst hp; exact hb
  · simp [evT] at hp; subst hp; simp [hb]
theorem aPd {bx bx':List (Nat×List V)}:∀ {cells:List V} {ds:List D} {dead:List Nat},oH bx cells=some (ds,dead)→(∀ m∈dead,bget bx' m=bget bx m)→oH bx' cells=some (ds,dead)
  | [],_,_,h,_=>h
  | x::r,ds,dead,h,hd=>by
    simp only [oH] at h ⊢
    split at h
    · simp at h
    · rename_i ds' N' he
      cases x with
      | d y =>
        simp only at h
        split at h <;> simp at h
        rename_i hf
        obtain ⟨rfl,rfl⟩:=h
        rw [aPd he hd]; simp [hf]
      | nil sz =>
        simp at h
        obtain ⟨rfl,rfl⟩:=h
        rw [aPd he hd]
      | tre n =>
        simp only at h
        split at h <;> simp at h
        rename_i hb
        obtain ⟨rfl,rfl⟩:=h
        rw [aPd he fun m hm=>hd m (by simp [hm])]
        simp only
        rw [hd n (by simp),hb]
      | _=>simp at h
theorem bT5 {bx bx':List (Nat×List V)} {x:AO} {v:V} {ds:List D} {dead:List Nat} (h:Z9 bx x v=some (ds,dead)) (hd:∀ m∈dead,bget bx' m=bget bx m):Z9 bx' x v=some (ds,dead):=by
  unfold Z9 at h ⊢
  split at h
  · exact h
  · exact aPd h hd
theorem bEf {s s':St} {sz:Nat}:∀ {xs:List AO} {l:List (List D)} {dead:List Nat},rZ s sz xs=some (l,dead)→xs.map (ev s')=xs.map (ev s)→(∀ m∈dead,bget s'.bx m=bget s.bx m)→rZ s' sz xs=some (l,dead)
  | [],_,_,h,_,_=>h
  | x::r,l,dead,h,he,hd=>by
    simp only [List.map_cons,List.cons.injEq] at he
    simp only [rZ] at h ⊢
    rw [he.1]
    split at h
    · rename_i hc
      rw [if_pos hc]
      split at h <;> simp at h
      rename_i ds N' l' M' h1 h2
      obtain ⟨rfl,rfl⟩:=h
      rw [bT5 h1 fun m hm=>hd m (QF _ hm),bEf h2 he.2 fun m hm=>hd m (QG _ hm)]
    · simp at h
def aC5 (d:Nat) (dead:List Nat):Bool:=nodupB dead&&!dead.contains d
theorem aK5 {d:Nat} {dead:List Nat} (h:aC5 d dead=true):dead.Nodup∧d∉dead:=by
  simp only [aC5,QA,QD,QE,decide_eq_false_iff_not] at h
  exact ⟨aNv h.1,h.2⟩
theorem aBt {e sz:Nat} {xs:List AO} {l:List α} {f g:α→List D} (dead:List Nat) {s':St} (hl:rZ s sz xs=some (l.map g,dead)) (hfg:∀ x,f x=g x) (hd:(s.fresh d&&aC5 d dead)=true) (hS:(⟨(d,.tre d)::s.env,(d,[.trc sz (l.map f)])::kill s.bx dead⟩:St)=s')
    (hk:cO P K rest s'):cO P K (.bsl d e sz xs::rest) s:=by
  have:l.map g=l.map f:=QH fun x _=>(hfg x).symm
  rw [this] at hl
  rw [QA] at hd
  obtain ⟨h1,h2⟩:=aK5 hd.2
  exact .inr (.inl ⟨hd.1,_,_,hl,h1,h2,by rw [hS]; exact hk⟩)
def cBy (s:St) (dead:List Nat):List (Nat×List V):=dead.map fun m=>(m,(bget s.bx m).getD [])
def evR (s:St) (o:AOp) (d:Nat) (rd:List Nat) (sz:Nat) (l:List (List D)) (dead:List Nat):Ev:={ o:=o,d:=some d,r:=.tre d,rt:=oP s rd,rb:=cBy s dead,wr:=dead.map fun m=>(m,[.trd]),nw:=[(d,[.trc sz l])],fr:=[d] }
theorem bH1 {o:AOp} {rd:List Nat} {sz:Nat} {l:List (List D)} {dead:List Nat} (h:∀ m∈dead,(bget s.bx m).isSome=true):Rd (evR s o d rd sz l dead) s:=by
  refine ⟨oW,fun p hp=>?_,fun p hp=>?_⟩
  · obtain ⟨m,hm,rfl⟩:=QB.1 hp
    obtain ⟨c,hc⟩:=QC.1 (h m hm)
    simp [hc]
  · obtain ⟨m,hm,rfl⟩:=QB.1 hp
    exact h m hm
theorem bD9 {s':St} {o:AOp} {rd:List Nat} {sz:Nat} {l:List (List D)} {dead:List Nat} (h:∀ m∈dead,(bget s.bx m).isSome=true) (hr:Rd (evR s o d rd sz l dead) s'):∀ m∈dead,bget s'.bx m=bget s.bx m:=fun m hm=>by
  have:=hr.rb (m,(bget s.bx m).getD []) (QB.2 ⟨m,hm,rfl⟩)
  obtain ⟨c,hc⟩:=QC.1 (h m hm)
  rw [this,hc]; rfl
theorem bFm {s':St} {o:AOp} {rd:List Nat} {sz:Nat} {l:List (List D)} {dead:List Nat}:(⟨(d,.tre d)::s'.env,(d,[.trc sz l])::kill s'.bx dead⟩:St)=eff (evR s o d rd sz l dead) s':=by
  rw [← bGs]; rfl
theorem bA4 {s:St} {sz:Nat}:∀ {xs:List AO} {l:List (List D)} {dead:List Nat},rZ s sz xs=some (l,dead)→∀ m∈dead,(bget s.bx m).isSome=true
  | [],l,dead,h=>by simp [rZ] at h; rw [h.2]; simp
  | x::r,l,dead,h=>by
    simp only [rZ] at h
    split at h
    · split at h <;> simp at h
      rename_i ds N' l' M' h1 h2
      obtain ⟨rfl,rfl⟩:=h
      intro m hm
      rcases QI.1 hm with hm | hm
      · rcases aTh h1 with ⟨_,_,e⟩ | h1
        · simp only [Prod.mk.injEq] at e; rw [e.2] at hm; simp at hm
        · exact closeC_dead h1 m hm
      · exact bA4 h2 m hm
    · simp at h
where
  closeC_dead {bx:List (Nat×List V)}:∀ {cells:List V} {ds:List D} {dead:List Nat},oH bx cells=some (ds,dead)→∀ m∈dead,(bget bx m).isSome=true
  | [],_,_,h=>by simp [oH] at h; rw [h.2]; simp
  | x::r,ds,dead,h=>by
    simp only [oH] at h
    split at h
    · simp at h
    · rename_i ds' N' he
      have ih:=closeC_dead he
      cases x with
      | d y =>
        simp only at h
        split at h <;> simp at h
        obtain ⟨rfl,rfl⟩:=h; exact ih
      | nil sz =>
        simp at h
        obtain ⟨rfl,rfl⟩:=h; exact ih
      | tre n =>
        simp only at h
        split at h <;> simp at h
        rename_i hb
        obtain ⟨rfl,rfl⟩:=h
        intro m hm
        rcases List.mem_cons.1 hm with rfl | hm
        · simp [hb]
        · exact ih m hm
      | _=>simp at h
theorem aF0 {e sz:Nat} {xs:List AO} {l:List α} {f g:α→List D} (dead:List Nat) {s':St} (hl:rZ s sz xs=some (l.map g,dead)) (hfg:∀ x,f x=g x) (hd:aC5 d dead=true) (hS:eff (evR s (.bsl d e sz xs) d (xs.flatMap AO.rd) sz (l.map f) dead) s=s')
    (hk:dgo P KD rest (evR s (.bsl d e sz xs) d (xs.flatMap AO.rd) sz (l.map f) dead::acc) s'):dgo P KD (.bsl d e sz xs::rest) acc s:=by
  have:l.map g=l.map f:=QH fun x _=>(hfg x).symm
  rw [this] at hl
  obtain ⟨h1,h2⟩:=aK5 hd
  refine ⟨_,rfl,?_,bH1 (bA4 hl),by rw [hS]; exact hk⟩
  intro s2 hrd hg
  have e1:xs.map (ev s2)=xs.map (ev s):=Agree.evs (B:=[]) ⟨kE hrd.rt,fun p hp=>by simp at hp⟩
  exact .inr (.inl ⟨hg.fr d (by simp [evR]),_,_,bEf hl e1 (bD9 (bA4 hl) hrd),h1,h2,bFm⟩)
theorem bCj {sz:Nat} {x:V} {l:List (List D)} {N:List Nat} (h:tK s sz x=some (l,N)):∀ m∈N,(bget s.bx m).isSome=true:=by
  unfold tK at h
  split at h
  · split at h <;> simp at h
    rw [h.2]; simp
  · split at h
    · rename_i hb
      split at h <;> simp at h
      rw [← h.2]; simp [hb]
    · simp at h
  · simp at h
theorem bGf {s':St} {sz:Nat} {x:V} {l:List (List D)} {N:List Nat} (h:tK s sz x=some (l,N)) (hd:∀ m∈N,bget s'.bx m=bget s.bx m):tK s' sz x=some (l,N):=by
  unfold tK at h ⊢
  split at h
  · exact h
  · split at h
    · rename_i hb
      split at h <;> simp at h
      rename_i e
      obtain ⟨rfl,rfl⟩:=h
      rw [hd _ (by simp),hb]
      simp [e]
    · simp at h
  · simp at h
theorem aS8 {e sz by':Nat} {xo yo:AO} {l m:List α} {f:α→List D} (N1 N2:List Nat) {kF:List α→Option β} {S':List α→St} (h:(appG by' l m>>=kF)=some r) (hc:((ev s xo).cond.isEmpty&&(ev s yo).cond.isEmpty)=true) (hx:tK s sz (ev s xo)=some (l.map f,N1)) (hy:tK s sz (ev s yo)=some (m.map f,N2))
    (hd:(s.fresh d&&aC5 d (N1++N2))=true) (hS:∀ y:List α,(⟨(d,.tre d)::s.env,(d,[.trc sz (y.map f)])::kill s.bx (N1++N2)⟩:St)=S' y) (hk:∀ y,kF y=some r→cO P K rest (S' y)):cO P K (.app d e sz by' xo yo::rest) s:=by
  unfold appG at h
  split at h
  · rename_i h0
    rw [QA] at hd hc
    obtain ⟨h1,h2⟩:=aK5 hd.2
    show aop P s (cO P K rest) (.app d e sz by' xo yo)
    simp only [aop]
    exact wW hc.1 (wW hc.2 (.inr (.inl ⟨_,_,hx,.inl ⟨_,_,hy,h1,h2,by simpa using h0,hd.1,by rw [← QJ,hS]; exact hk _ h⟩⟩)))
  · simp at h
theorem aG1 {e sz by':Nat} {xo yo:AO} {l m:List α} {f:α→List D} (N1 N2:List Nat) {kF:List α→Option β} {S':List α→St} (h:(appG by' l m>>=kF)=some r) (hc:((ev s xo).cond.isEmpty&&(ev s yo).cond.isEmpty)=true) (hx:tK s sz (ev s xo)=some (l.map f,N1)) (hy:tK s sz (ev s yo)=some (m.map f,N2))
    (hd:aC5 d (N1++N2)=true) (hS:∀ y:List α,eff (evR s (.app d e sz by' xo yo) d (xo.rd++yo.rd) sz (y.map f) (N1++N2)) s=S' y) (hk:∀ y,kF y=some r→dgo P KD rest (evR s (.app d e sz by' xo yo) d (xo.rd++yo.rd) sz (y.map f) (N1++N2)::acc) (S' y)):dgo P KD (.app d e sz by' xo yo::rest) acc s:=by
  unfold appG at h
  split at h
  · rename_i h0
    rw [QA] at hc
    obtain ⟨h1,h2⟩:=aK5 hd
    have hdd:∀ k∈N1++N2,(bget s.bx k).isSome=true:=fun k hk=>(QI.1 hk).elim (bCj hx k) (bCj hy k)
    refine ⟨evR s (.app d e sz by' xo yo) d (xo.rd++yo.rd) sz ((l++m).map f) (N1++N2),rfl,?_,bH1 hdd,by rw [hS]; exact hk _ h⟩
    intro s2 hrd hg
    have hag:Agree s s2 (xo.rd++yo.rd) []:=⟨kE hrd.rt,fun p hp=>by simp at hp⟩
    have hget:=bD9 hdd hrd
    show aop P s2 _ (.app d e sz by' xo yo)
    simp only [aop]
    rw [hag.l.ev,hag.r.ev]
    refine wW hc.1 (wW hc.2 (.inr (.inl ⟨_,_,bGf hx fun k hk=>hget k (QF _ hk),.inl ⟨_,_,bGf hy fun k hk=>hget k (QG _ hk),h1,h2,by simpa using h0,hg.fr d (by simp [evR]),?_⟩⟩)))
    rw [← QJ]; exact bFm
  · simp at h
end
end Go.Ab
