/- Steps: operations on trees,in order or in an open order. -/
import Derived.Test.YtdlidhpkelikhaaGreatDoorAbC3
namespace Go.Ab
open Go Go.RowKit
theorem aEp:∀ {l:List Nat},nodupB l=true→l.Nodup
  | [],_=>by simp
  | x::l,h=>by
    obtain ⟨h1,h2⟩:=nodup_cons h
    exact List.nodup_cons.2 ⟨h1,aEp h2⟩
theorem aX6:∀ (dead:List Nat) (bx:List (Nat×List V)),fV bx (dead.map fun m=>(m,[V.trd]))=kill bx dead
  | [],_=>rfl
  | m::dead,bx=>aX6 dead (fM bx m [.trd])
theorem rO {x:V} {C:V→Prop} (hx:x.cond.isEmpty=true) (h:C x):use x C:=qK hx h
section
variable {P:Program} {K:St→Prop} {KD:List Ev→St→Prop} {rest:List AOp} {acc:List Ev} {s:St} {α β:Type} {r:β} {d:Nat}
def aVr (s:St) (n:Nat) (ns:List Nat):Bool:=nodupB ns&&(!ns.contains n&&ns.all fun m=>Nat.ble NX m&&s.fresh m)
theorem bF2 {s : St} {n sz : Nat} {k : IntKind} {i : Int} {ns : List Nat} {l : List (List D)} {ds : List D} {K : St → Prop} (hb : bget s.bx n = some [.trc sz l]) (h0 : 0 ≤ i) (hd : l[i.toNat]? = some ds) (h1 : ns.Nodup) (h2 : n ∉ ns) (h3 : ∀ m ∈ ns, NX ≤ m ∧ s.fresh m = true)
    (hK:K ⟨(d,.trp n sz i.toNat 0)::s.env,(iP ns ds).2++fM s.bx n (.tro sz i.toNat l::(iP ns ds).1)⟩):iaT s d sz (.tre n) (.d (.i k i)) K:=⟨h0,.inl ⟨l,ds,ns,hb,hd,h1,h2,h3,hK⟩⟩
theorem aCa {l:List α} {i:Int} {x:α} (h:idx l i=some x):0≤i∧l[i.toNat]?=some x:=by
  unfold idx at h
  split at h
  · rename_i h0; exact ⟨h0,h⟩
  · simp at h
theorem aJp {n sz : Nat} {k : IntKind} {xo io : AO} {l : List α} {f g : α → List D} {i : Int} (ns : List Nat) {kF : α → Option β} {S' : α → St} (h : (idx l i >>= kF) = some r) (hx : ev s xo = .tre n) (hi : ev s io = .d (.i k i)) (hb : bget s.bx n = some [.trc sz (l.map f)]) (hfg : ∀ x, f x = g x)
    (hns:aVr s n ns=true) (hS:∀ y,(⟨(d,.trp n sz i.toNat 0)::s.env,(iP ns (g y)).2++fM s.bx n (.tro sz i.toNat (l.map f)::(iP ns (g y)).1)⟩:St)=S' y) (hk:∀ y,idx l i=some y→kF y=some r→cZ P K rest (S' y)):cZ P K (.ia d sz xo io::rest) s:=by
  cases hm:idx l i with
  | none=>rw [hm] at h; simp at h
  | some y =>
    rw [hm] at h
    obtain ⟨h0,hg⟩:=aCa hm
    show aop P s (cZ P K rest) (.ia d sz xo io)
    simp only [aVr,Bool.and_eq_true,Bool.not_eq_true',List.contains_eq_mem,decide_eq_false_iff_not,List.all_eq_true] at hns
    refine .inr ?_
    rw [hx,hi]
    refine rO (x:=.tre n) rfl (rO (x:=.d (.i k i)) rfl (bF2 hb h0 (ds:=g y) (by rw [List.getElem?_map,hg,Option.map_some,hfg]) (aEp hns.1) hns.2.1 (fun m hm=>⟨Nat.le_of_ble_eq_true (hns.2.2 m hm).1,(hns.2.2 m hm).2⟩) ?_))
    rw [hS]; exact hk y hm h
theorem aMu {n sz:Nat} {k:IntKind} {xo io:AO} {i:Int} {l:List (List D)} {c:List V} (hx:ev s xo=.tre n) (hi:ev s io=.d (.i k i)) (h0:0≤i) (hb:bget s.bx n=some (.tro sz i.toNat l::c)) (hk:cZ P K rest (s.put d (.trp n sz i.toNat 0))):cZ P K (.ia d sz xo io::rest) s:=by
  show aop P s (cZ P K rest) (.ia d sz xo io)
  refine .inr ?_
  rw [hx,hi]
  exact rO (x:=.tre n) rfl (rO (x:=.d (.i k i)) rfl ⟨h0,.inr ⟨l,c,hb,hk⟩⟩)
theorem aJq {n sz i off m:Nat} {agg:Bool} {xo:AO} {l:List (List D)} {c:List V} {v:V} (hx:ev s xo=.trp n sz i off) (hb:bget s.bx n=some (.tro sz i l::c)) (hv:V4 m agg (c.drop off)=some v):vop s (fun y=>y=v) (.ld d m agg xo):=by
  simp only [vop]
  rw [hx]
  exact ⟨l,c,hb,aEm hv rfl⟩
theorem bQz {n sz i off m:Nat} {agg:Bool} {xo:AO} {l:List (List D)} {c:List V} {v:V} (hn:(conds s [xo]).all id=true) (hx:(ev s xo).str=.trp n sz i off) (hb:bget s.bx n=some (.tro sz i l::c)) (hv:V4 m agg (c.drop off)=some v):vop s (fun y=>y=v) (.ld d m agg xo):=by
  simp only [vop]
  refine fU (jV hn) ?_
  rw [hx]
  exact ⟨l,c,hb,aEm hv rfl⟩
def aSa (s:St) (n:Nat):Option (List (List D)):=match bget s.bx n with
  | some (.trc _ l::_)=>some l
  | some (.tro _ _ l::_)=>some l
  | _=>none
theorem aA5 {n:Nat} {xo:AO} {l:List (List D)} {L:Nat} (hx:ev s xo=.tre n) (hb:aSa s n=some l) (hl:l.length=L):vop s (fun y=>y=.d (.i .i64 L)) (.len d xo):=by
  subst hl
  simp only [vop]
  rw [hx]
  show trL s n _
  unfold aSa at hb
  unfold trL
  split at hb <;> simp at hb
  · rename_i h; rw [h]; subst hb; rfl
  · rename_i h; rw [h]; subst hb; rfl
theorem aJw {n sz i off m : Nat} {xo yo : AO} {l : List (List D)} {c : List V} {s' : St} (hx : ev s xo = .trp n sz i off) (hb : bget s.bx n = some (.tro sz i l :: c)) (hy : ((ev s yo).solid && ((ev s yo).cells.length == m && Nat.ble (off + m) c.length)) = true)
    (hS:(⟨s.env,fM s.bx n (.tro sz i l::putCells c off (ev s yo).cells)⟩:St)=s') (hk:cZ P K rest s'):cZ P K (.st m xo yo::rest) s:=by
  simp only [Bool.and_eq_true,beq_iff_eq] at hy
  show aop P s (cZ P K rest) (.st m xo yo)
  simp only [aop]
  rw [hx]
  have hu:∀ C:V→Prop,C (ev s yo)→use (ev s yo) C:=by
    intro C hC
    revert hy hC; generalize ev s yo=u; intro hy hC
    cases u <;> first | exact hC | simp [V.solid] at hy
  exact hu _ ⟨l,c,hb,hy.1,hy.2.1,Nat.le_of_ble_eq_true hy.2.2,by rw [hS]; exact hk⟩
theorem aEe {bx bx':List (Nat×List V)}:∀ {cells:List V} {ds:List D} {dead:List Nat},lY bx cells=some (ds,dead)→(∀ m ∈ dead,bget bx' m=bget bx m)→lY bx' cells=some (ds,dead)
  | [],_,_,h,_=>h
  | x::r,ds,dead,h,hd=>by
    simp only [lY] at h ⊢
    split at h
    · simp at h
    · rename_i ds' N' he
      cases x with
      | d y =>
        simp only at h
        split at h <;> simp at h
        rename_i hf
        obtain ⟨rfl,rfl⟩:=h
        rw [aEe he hd]; simp [hf]
      | nil sz =>
        simp at h
        obtain ⟨rfl,rfl⟩:=h
        rw [aEe he hd]
      | tre n =>
        simp only at h
        split at h <;> simp at h
        rename_i hb
        obtain ⟨rfl,rfl⟩:=h
        rw [aEe he fun m hm=>hd m (by simp [hm])]
        simp only
        rw [hd n (by simp),hb]
      | _=>simp at h
theorem bHb {bx bx':List (Nat×List V)} {x:AO} {v:V} {ds:List D} {dead:List Nat} (h:yI bx x v=some (ds,dead)) (hd:∀ m ∈ dead,bget bx' m=bget bx m):yI bx' x v=some (ds,dead):=by
  unfold yI at h ⊢
  split at h
  · exact h
  · exact aEe h hd
theorem aQc {s s':St} {sz:Nat}:∀ {xs:List AO} {l:List (List D)} {dead:List Nat},nS s sz xs=some (l,dead)→xs.map (ev s')=xs.map (ev s)→(∀ m ∈ dead,bget s'.bx m=bget s.bx m)→nS s' sz xs=some (l,dead)
  | [],_,_,h,_,_=>h
  | x::r,l,dead,h,he,hd=>by
    simp only [List.map_cons,List.cons.injEq] at he
    simp only [nS] at h ⊢
    rw [he.1]
    split at h
    · rename_i hc
      rw [if_pos hc]
      split at h <;> simp at h
      rename_i ds N' l' M' h1 h2
      obtain ⟨rfl,rfl⟩:=h
      rw [bHb h1 fun m hm=>hd m (List.mem_append_left _ hm),aQc h2 he.2 fun m hm=>hd m (List.mem_append_right _ hm)]
    · simp at h
def K3 (d:Nat) (dead:List Nat):Bool:=nodupB dead&&!dead.contains d
theorem aC5 {d:Nat} {dead:List Nat} (h:K3 d dead=true):dead.Nodup∧d ∉ dead:=by
  simp only [K3,Bool.and_eq_true,Bool.not_eq_true',List.contains_eq_mem,decide_eq_false_iff_not] at h
  exact ⟨aEp h.1,h.2⟩
theorem bF6 {e sz : Nat} {xs : List AO} {l : List α} {f g : α → List D} (dead : List Nat) {s' : St} (hl : nS s sz xs = some (l.map g, dead)) (hfg : ∀ x, f x = g x) (hd : (s.fresh d && K3 d dead) = true) (hS : (⟨(d, .tre d) :: s.env, (d, [.trc sz (l.map f)]) :: kill s.bx dead⟩ : St) = s')
    (hk:cZ P K rest s'):cZ P K (.bsl d e sz xs::rest) s:=by
  have:l.map g=l.map f:=List.map_congr_left fun x _=>(hfg x).symm
  rw [this] at hl
  rw [Bool.and_eq_true] at hd
  obtain ⟨h1,h2⟩:=aC5 hd.2
  exact .inr ⟨hd.1,_,_,hl,h1,h2,by rw [hS]; exact hk⟩
def bHy (s:St) (dead:List Nat):List (Nat×List V):=dead.map fun m=>(m,(bget s.bx m).getD [])
def evR (s:St) (o:AOp) (d:Nat) (rd:List Nat) (sz:Nat) (l:List (List D)) (dead:List Nat):Ev:={ o:=o,d:=some d,r:=.tre d,rt:=pW s rd,rb:=bHy s dead,wr:=dead.map fun m=>(m,[.trd]),nw:=[(d,[.trc sz l])],fr:=[d] }
theorem aIx {o:AOp} {rd:List Nat} {sz:Nat} {l:List (List D)} {dead:List Nat} (h:∀ m ∈ dead,(bget s.bx m).isSome=true):Rd (evR s o d rd sz l dead) s:=by
  refine ⟨rY,fun p hp=>?_,fun p hp=>?_⟩
  · obtain ⟨m,hm,rfl⟩:=List.mem_map.1 hp
    obtain ⟨c,hc⟩:=Option.isSome_iff_exists.1 (h m hm)
    simp [hc]
  · obtain ⟨m,hm,rfl⟩:=List.mem_map.1 hp
    exact h m hm
theorem aLl {s':St} {o:AOp} {rd:List Nat} {sz:Nat} {l:List (List D)} {dead:List Nat} (h:∀ m ∈ dead,(bget s.bx m).isSome=true) (hr:Rd (evR s o d rd sz l dead) s'):∀ m ∈ dead,bget s'.bx m=bget s.bx m:=fun m hm=>by
  have:=hr.rb (m,(bget s.bx m).getD []) (List.mem_map.2 ⟨m,hm,rfl⟩)
  obtain ⟨c,hc⟩:=Option.isSome_iff_exists.1 (h m hm)
  rw [this,hc]; rfl
theorem aL7 {s':St} {o:AOp} {rd:List Nat} {sz:Nat} {l:List (List D)} {dead:List Nat}:(⟨(d,.tre d)::s'.env,(d,[.trc sz l])::kill s'.bx dead⟩:St)=eff (evR s o d rd sz l dead) s':=by
  rw [← aX6]; rfl
theorem aOb {s:St} {sz:Nat}:∀ {xs:List AO} {l:List (List D)} {dead:List Nat},nS s sz xs=some (l,dead)→∀ m ∈ dead,(bget s.bx m).isSome=true
  | [],l,dead,h=>by simp [nS] at h; rw [h.2]; simp
  | x::r,l,dead,h=>by
    simp only [nS] at h
    split at h
    · split at h <;> simp at h
      rename_i ds N' l' M' h1 h2
      obtain ⟨rfl,rfl⟩:=h
      intro m hm
      rcases List.mem_append.1 hm with hm | hm
      · rcases aN5 h1 with ⟨_,_,e⟩ | h1
        · simp only [Prod.mk.injEq] at e; rw [e.2] at hm; simp at hm
        · exact closeC_dead h1 m hm
      · exact aOb h2 m hm
    · simp at h
where
  closeC_dead {bx:List (Nat×List V)}:∀ {cells:List V} {ds:List D} {dead:List Nat},lY bx cells=some (ds,dead)→∀ m ∈ dead,(bget bx m).isSome=true
  | [],_,_,h=>by simp [lY] at h; rw [h.2]; simp
  | x::r,ds,dead,h=>by
    simp only [lY] at h
    split at h
    · simp at h
    · rename_i ds' N' he
      have ih:=closeC_dead he
      cases x with
      | d y =>
        simp only at h
        split at h <;> simp at h
        obtain ⟨rfl,rfl⟩:=h; exact ih
      | nil sz =>
        simp at h
        obtain ⟨rfl,rfl⟩:=h; exact ih
      | tre n =>
        simp only at h
        split at h <;> simp at h
        rename_i hb
        obtain ⟨rfl,rfl⟩:=h
        intro m hm
        rcases List.mem_cons.1 hm with rfl | hm
        · simp [hb]
        · exact ih m hm
      | _=>simp at h
theorem aNj {e sz : Nat} {xs : List AO} {l : List α} {f g : α → List D} (dead : List Nat) {s' : St} (hl : nS s sz xs = some (l.map g, dead)) (hfg : ∀ x, f x = g x) (hd : K3 d dead = true) (hS : eff (evR s (.bsl d e sz xs) d (xs.flatMap AO.rd) sz (l.map f) dead) s = s')
    (hk:dgo P KD rest (evR s (.bsl d e sz xs) d (xs.flatMap AO.rd) sz (l.map f) dead::acc) s'):dgo P KD (.bsl d e sz xs::rest) acc s:=by
  have:l.map g=l.map f:=List.map_congr_left fun x _=>(hfg x).symm
  rw [this] at hl
  obtain ⟨h1,h2⟩:=aC5 hd
  refine ⟨_,rfl,?_,aIx (aOb hl),by rw [hS]; exact hk⟩
  intro s2 hrd hg
  have e1:xs.map (ev s2)=xs.map (ev s):=Agree.evs (B:=[]) ⟨lH hrd.rt,fun p hp=>by simp at hp⟩
  exact .inr ⟨hg.fr d (by simp [evR]),_,_,aQc hl e1 (aLl (aOb hl) hrd),h1,h2,aL7⟩
theorem aKt {sz:Nat} {x:V} {l:List (List D)} {N:List Nat} (h:pO s sz x=some (l,N)):∀ m ∈ N,(bget s.bx m).isSome=true:=by
  unfold pO at h
  split at h
  · split at h <;> simp at h
    rw [h.2]; simp
  · split at h
    · rename_i hb
      split at h <;> simp at h
      rw [← h.2]; simp [hb]
    · simp at h
  · simp at h
theorem aLa {s':St} {sz:Nat} {x:V} {l:List (List D)} {N:List Nat} (h:pO s sz x=some (l,N)) (hd:∀ m ∈ N,bget s'.bx m=bget s.bx m):pO s' sz x=some (l,N):=by
  unfold pO at h ⊢
  split at h
  · exact h
  · split at h
    · rename_i hb
      split at h <;> simp at h
      rename_i e
      obtain ⟨rfl,rfl⟩:=h
      rw [hd _ (by simp),hb]
      simp [e]
    · simp at h
  · simp at h
theorem bK6 {e sz by' : Nat} {xo yo : AO} {l m : List α} {f : α → List D} (N1 N2 : List Nat) {kF : List α → Option β} {S' : List α → St} (h : (appG by' l m >>= kF) = some r) (hc : ((ev s xo).cond.isEmpty && (ev s yo).cond.isEmpty) = true) (hx : pO s sz (ev s xo) = some (l.map f, N1)) (hy : pO s sz (ev s yo) = some (m.map f, N2))
    (hd:K3 d (N1++N2)=true) (hS:∀ y:List α,eff (evR s (.app d e sz by' xo yo) d (xo.rd++yo.rd) sz (y.map f) (N1++N2)) s=S' y) (hk:∀ y,kF y=some r→dgo P KD rest (evR s (.app d e sz by' xo yo) d (xo.rd++yo.rd) sz (y.map f) (N1++N2)::acc) (S' y)):dgo P KD (.app d e sz by' xo yo::rest) acc s:=by
  unfold appG at h
  split at h
  · rename_i h0
    rw [Bool.and_eq_true] at hc
    obtain ⟨h1,h2⟩:=aC5 hd
    have hdd:∀ k ∈ N1++N2,(bget s.bx k).isSome=true:=fun k hk=>(List.mem_append.1 hk).elim (aKt hx k) (aKt hy k)
    refine ⟨evR s (.app d e sz by' xo yo) d (xo.rd++yo.rd) sz ((l++m).map f) (N1++N2),rfl,?_,aIx hdd,by rw [hS]; exact hk _ h⟩
    intro s2 hrd hg
    have hag:Agree s s2 (xo.rd++yo.rd) []:=⟨lH hrd.rt,fun p hp=>by simp at hp⟩
    have hget:=aLl hdd hrd
    show aop P s2 _ (.app d e sz by' xo yo)
    simp only [aop]
    rw [hag.l.ev,hag.r.ev]
    refine rO hc.1 (rO hc.2 (.inr ⟨_,_,aLa hx fun k hk=>hget k (List.mem_append_left _ hk),.inl ⟨_,_,aLa hy fun k hk=>hget k (List.mem_append_right _ hk),h1,h2,by simpa using h0,hg.fr d (by simp [evR]),?_⟩⟩))
    rw [← List.map_append]; exact aL7
  · simp at h
theorem bIm {e sz by' : Nat} {xo yo : AO} {l m : List α} {f : α → List D} (N1 : List Nat) {kF : List α → Option β} {S' : List α → St} (h : (appG by' l m >>= kF) = some r) (hc : ((ev s xo).cond.isEmpty && (ev s yo).cond.isEmpty) = true) (hx : pO s sz (ev s xo) = some (l.map f, N1)) (hy : srV (ev s yo) = some (sz, m.map f)) (hfl : ∀ x, (f x).all D.flat = true)
    (hd:(s.fresh d&&K3 d N1)=true) (hS:∀ y:List α,(⟨(d,.tre d)::s.env,(d,[.trc sz (y.map f)])::kill s.bx N1⟩:St)=S' y) (hk:∀ y,kF y=some r→cZ P K rest (S' y)):cZ P K (.app d e sz by' xo yo::rest) s:=by
  unfold appG at h
  split at h
  · rename_i h0
    rw [Bool.and_eq_true] at hd hc
    obtain ⟨h1,h2⟩:=aC5 hd.2
    show aop P s (cZ P K rest) (.app d e sz by' xo yo)
    simp only [aop]
    refine rO hc.1 (rO hc.2 (.inr ⟨_,_,hx,.inr (aAq hy ?_)⟩))
    refine ⟨rfl,fun r hr=>by obtain ⟨x,_,rfl⟩:=List.mem_map.1 hr; exact hfl x,by rw [List.append_nil]; exact h1,by rw [List.append_nil]; exact h2,by simpa using h0,hd.1,?_⟩
    rw [← List.map_append,List.append_nil,hS]; exact hk _ h
  · simp at h
theorem aWy {e:TypeId} {xo:AO} {b:List UInt8} {s':St} (h1:ev s xo=.d (.s (bs b))) (hf:s.fresh d=true) (hS:(⟨(d,.tre d)::s.env,(d,[.trc 1 ((jO b).map fun n=>[D.i .u8 n])])::s.bx⟩:St)=s') (hk:cZ P K rest s'):cZ P K (.csb d e xo::rest) s:=by
  show aop P s (cZ P K rest) (.csb d e xo)
  simp only [aop]
  rw [h1]
  refine ⟨hf,?_⟩
  rw [← hS] at hk
  have e1:((jO b).map fun n=>[D.i .u8 n])=(bs b).data.toList.map fun u=>[D.i .u8 u.toNat]:=by simp [jO,bs]
  rw [← e1]; exact hk
end
end Go.Ab
