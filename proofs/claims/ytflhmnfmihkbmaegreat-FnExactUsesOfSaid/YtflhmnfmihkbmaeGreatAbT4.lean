/- Steps: operations on trees,in order or in an open order. -/
import Derived.Test.YtflhmnfmihkbmaeGreatAbC3
namespace Go.Ab
open Go Go.RowKit
theorem aK0:∀ {l:List Nat},nodupB l=true→l.Nodup
  | [],_=>by simp
  | x::l,h=>by
    obtain ⟨h1,h2⟩:=nodup_cons h
    exact List.nodup_cons.2 ⟨h1,aK0 h2⟩
theorem aZk:∀ (dead:List Nat) (bx:List (Nat×List V)),gK bx (dead.map fun m=>(m,[V.trd]))=kill bx dead
  | [],_=>rfl
  | m::dead,bx=>aZk dead (eU bx m [.trd])
theorem V6 {x:V} {C:V→Prop} (hx:x.cond.isEmpty=true) (h:C x):use x C:=vG hx h
section
variable {P:Program} {K:St→Prop} {KD:List Ev→St→Prop} {rest:List AOp} {acc:List Ev} {s:St} {α β:Type} {r:β} {d:Nat}
def aYq (s:St) (n:Nat) (ns:List Nat):Bool:=nodupB ns&&(!ns.contains n&&ns.all fun m=>Nat.ble NX m&&s.fresh m)
theorem cCp {s : St} {n sz : Nat} {k : IntKind} {i : Int} {ns : List Nat} {l : List (List D)} {ds : List D} {K : St → Prop} (hb : bget s.bx n = some [.trc sz l]) (h0 : 0 ≤ i) (hd : l[i.toNat]? = some ds) (h1 : ns.Nodup) (h2 : n ∉ ns) (h3 : ∀ m ∈ ns, NX ≤ m ∧ s.fresh m = true)
    (hK:K ⟨(d,.trp n sz i.toNat 0)::s.env,(jI ns ds).2++eU s.bx n (.tro sz i.toNat l::(jI ns ds).1)⟩):iaT s d sz (.tre n) (.d (.i k i)) K:=⟨h0,.inl ⟨l,ds,ns,hb,hd,h1,h2,h3,hK⟩⟩
theorem fJ {l:List α} {i:Int} {x:α} (h:idx l i=some x):0≤i∧l[i.toNat]?=some x:=by
  unfold idx at h
  split at h
  · rename_i h0; exact ⟨h0,h⟩
  · simp at h
theorem pQ {n sz : Nat} {k : IntKind} {xo io : AO} {l : List α} {f g : α → List D} {i : Int} (ns : List Nat) {kF : α → Option β} {S' : α → St} (h : (idx l i >>= kF) = some r) (hx : ev s xo = .tre n) (hi : ev s io = .d (.i k i)) (hb : bget s.bx n = some [.trc sz (l.map f)]) (hfg : ∀ x, f x = g x)
    (hns:aYq s n ns=true) (hS:∀ y,(⟨(d,.trp n sz i.toNat 0)::s.env,(jI ns (g y)).2++eU s.bx n (.tro sz i.toNat (l.map f)::(jI ns (g y)).1)⟩:St)=S' y) (hk:∀ y,idx l i=some y→kF y=some r→bQ P K rest (S' y)):bQ P K (.ia d sz xo io::rest) s:=by
  cases hm:idx l i with
  | none=>rw [hm] at h; simp at h
  | some y =>
    rw [hm] at h
    obtain ⟨h0,hg⟩:=fJ hm
    show aop P s (bQ P K rest) (.ia d sz xo io)
    simp only [aYq,Bool.and_eq_true,Bool.not_eq_true',List.contains_eq_mem,decide_eq_false_iff_not,List.all_eq_true] at hns
    refine .inr ?_
    rw [hx,hi]
    refine V6 (x:=.tre n) rfl (V6 (x:=.d (.i k i)) rfl (cCp hb h0 (ds:=g y) (by rw [List.getElem?_map,hg,Option.map_some,hfg]) (aK0 hns.1) hns.2.1 (fun m hm=>⟨Nat.le_of_ble_eq_true (hns.2.2 m hm).1,(hns.2.2 m hm).2⟩) ?_))
    rw [hS]; exact hk y hm h
theorem fO {n sz:Nat} {k:IntKind} {xo io:AO} {i:Int} {l:List (List D)} {c:List V} (hx:ev s xo=.tre n) (hi:ev s io=.d (.i k i)) (h0:0≤i) (hb:bget s.bx n=some (.tro sz i.toNat l::c)) (hk:bQ P K rest (s.put d (.trp n sz i.toNat 0))):bQ P K (.ia d sz xo io::rest) s:=by
  show aop P s (bQ P K rest) (.ia d sz xo io)
  refine .inr ?_
  rw [hx,hi]
  exact V6 (x:=.tre n) rfl (V6 (x:=.d (.i k i)) rfl ⟨h0,.inr ⟨l,c,hb,hk⟩⟩)
theorem rP {n sz i off m:Nat} {agg:Bool} {xo:AO} {l:List (List D)} {c:List V} {v:V} (hx:ev s xo=.trp n sz i off) (hb:bget s.bx n=some (.tro sz i l::c)) (hv:aCx m agg (c.drop off)=some v):vop s (fun y=>y=v) (.ld d m agg xo):=by
  simp only [vop]
  rw [hx]
  exact ⟨l,c,hb,aW6 hv rfl⟩
def bJp (s:St) (n:Nat):Option (List (List D)):=match bget s.bx n with
  | some (.trc _ l::_)=>some l
  | some (.tro _ _ l::_)=>some l
  | _=>none
theorem yG {n:Nat} {xo:AO} {l:List (List D)} {L:Nat} (hx:ev s xo=.tre n) (hb:bJp s n=some l) (hl:l.length=L):vop s (fun y=>y=.d (.i .i64 L)) (.len d xo):=by
  subst hl
  simp only [vop]
  rw [hx]
  show trL s n _
  unfold bJp at hb
  unfold trL
  split at hb <;> simp at hb
  · rename_i h; rw [h]; subst hb; rfl
  · rename_i h; rw [h]; subst hb; rfl
theorem eY {n sz i off m : Nat} {xo yo : AO} {l : List (List D)} {c : List V} {s' : St} (hx : ev s xo = .trp n sz i off) (hb : bget s.bx n = some (.tro sz i l :: c)) (hy : ((ev s yo).solid && ((ev s yo).cells.length == m && Nat.ble (off + m) c.length)) = true)
    (hS:(⟨s.env,eU s.bx n (.tro sz i l::putCells c off (ev s yo).cells)⟩:St)=s') (hk:bQ P K rest s'):bQ P K (.st m xo yo::rest) s:=by
  simp only [Bool.and_eq_true,beq_iff_eq] at hy
  show aop P s (bQ P K rest) (.st m xo yo)
  simp only [aop]
  rw [hx]
  have hu:∀ C:V→Prop,C (ev s yo)→use (ev s yo) C:=by
    intro C hC
    revert hy hC; generalize ev s yo=u; intro hy hC
    cases u <;> first | exact hC | simp [V.solid] at hy
  exact hu _ ⟨l,c,hb,hy.1,hy.2.1,Nat.le_of_ble_eq_true hy.2.2,by rw [hS]; exact hk⟩
theorem aL9 {bx bx':List (Nat×List V)}:∀ {cells:List V} {ds:List D} {dead:List Nat},nJ bx cells=some (ds,dead)→(∀ m ∈ dead,bget bx' m=bget bx m)→nJ bx' cells=some (ds,dead)
  | [],_,_,h,_=>h
  | x::r,ds,dead,h,hd=>by
    simp only [nJ] at h ⊢
    split at h
    · simp at h
    · rename_i ds' N' he
      cases x with
      | d y =>
        simp only at h
        split at h <;> simp at h
        rename_i hf
        obtain ⟨rfl,rfl⟩:=h
        rw [aL9 he hd]; simp [hf]
      | nil sz =>
        simp at h
        obtain ⟨rfl,rfl⟩:=h
        rw [aL9 he hd]
      | tre n =>
        simp only at h
        split at h <;> simp at h
        rename_i hb
        obtain ⟨rfl,rfl⟩:=h
        rw [aL9 he fun m hm=>hd m (by simp [hm])]
        simp only
        rw [hd n (by simp),hb]
      | _=>simp at h
theorem cCo {bx bx':List (Nat×List V)} {x:AO} {v:V} {ds:List D} {dead:List Nat} (h:zP bx x v=some (ds,dead)) (hd:∀ m ∈ dead,bget bx' m=bget bx m):zP bx' x v=some (ds,dead):=by
  unfold zP at h ⊢
  split at h
  · exact h
  · exact aL9 h hd
theorem bHy {s s':St} {sz:Nat}:∀ {xs:List AO} {l:List (List D)} {dead:List Nat},qU s sz xs=some (l,dead)→xs.map (ev s')=xs.map (ev s)→(∀ m ∈ dead,bget s'.bx m=bget s.bx m)→qU s' sz xs=some (l,dead)
  | [],_,_,h,_,_=>h
  | x::r,l,dead,h,he,hd=>by
    simp only [List.map_cons,List.cons.injEq] at he
    simp only [qU] at h ⊢
    rw [he.1]
    split at h
    · rename_i hc
      rw [if_pos hc]
      split at h <;> simp at h
      rename_i ds N' l' M' h1 h2
      obtain ⟨rfl,rfl⟩:=h
      rw [cCo h1 fun m hm=>hd m (List.mem_append_left _ hm),bHy h2 he.2 fun m hm=>hd m (List.mem_append_right _ hm)]
    · simp at h
def aNr (d:Nat) (dead:List Nat):Bool:=nodupB dead&&!dead.contains d
theorem bK0 {d:Nat} {dead:List Nat} (h:aNr d dead=true):dead.Nodup∧d ∉ dead:=by
  simp only [aNr,Bool.and_eq_true,Bool.not_eq_true',List.contains_eq_mem,decide_eq_false_iff_not] at h
  exact ⟨aK0 h.1,h.2⟩
def bR4 (s:St) (dead:List Nat):List (Nat×List V):=dead.map fun m=>(m,(bget s.bx m).getD [])
def evR (s:St) (o:AOp) (d:Nat) (rd:List Nat) (sz:Nat) (l:List (List D)) (dead:List Nat):Ev:={ o:=o,d:=some d,r:=.tre d,rt:=tJ s rd,rb:=bR4 s dead,wr:=dead.map fun m=>(m,[.trd]),nw:=[(d,[.trc sz l])],fr:=[d] }
theorem bCd {o:AOp} {rd:List Nat} {sz:Nat} {l:List (List D)} {dead:List Nat} (h:∀ m ∈ dead,(bget s.bx m).isSome=true):Rd (evR s o d rd sz l dead) s:=by
  refine ⟨vK,fun p hp=>?_,fun p hp=>?_⟩
  · obtain ⟨m,hm,rfl⟩:=List.mem_map.1 hp
    obtain ⟨c,hc⟩:=Option.isSome_iff_exists.1 (h m hm)
    simp [hc]
  · obtain ⟨m,hm,rfl⟩:=List.mem_map.1 hp
    exact h m hm
theorem bGe {s':St} {o:AOp} {rd:List Nat} {sz:Nat} {l:List (List D)} {dead:List Nat} (h:∀ m ∈ dead,(bget s.bx m).isSome=true) (hr:Rd (evR s o d rd sz l dead) s'):∀ m ∈ dead,bget s'.bx m=bget s.bx m:=fun m hm=>by
  have:=hr.rb (m,(bget s.bx m).getD []) (List.mem_map.2 ⟨m,hm,rfl⟩)
  obtain ⟨c,hc⟩:=Option.isSome_iff_exists.1 (h m hm)
  rw [this,hc]; rfl
theorem bC5 {s':St} {o:AOp} {rd:List Nat} {sz:Nat} {l:List (List D)} {dead:List Nat}:(⟨(d,.tre d)::s'.env,(d,[.trc sz l])::kill s'.bx dead⟩:St)=eff (evR s o d rd sz l dead) s':=by
  rw [← aZk]; rfl
theorem aPy {s:St} {sz:Nat}:∀ {xs:List AO} {l:List (List D)} {dead:List Nat},qU s sz xs=some (l,dead)→∀ m ∈ dead,(bget s.bx m).isSome=true
  | [],l,dead,h=>by simp [qU] at h; rw [h.2]; simp
  | x::r,l,dead,h=>by
    simp only [qU] at h
    split at h
    · split at h <;> simp at h
      rename_i ds N' l' M' h1 h2
      obtain ⟨rfl,rfl⟩:=h
      intro m hm
      rcases List.mem_append.1 hm with hm | hm
      · rcases aS6 h1 with ⟨_,_,e⟩ | h1
        · simp only [Prod.mk.injEq] at e; rw [e.2] at hm; simp at hm
        · exact closeC_dead h1 m hm
      · exact aPy h2 m hm
    · simp at h
where
  closeC_dead {bx:List (Nat×List V)}:∀ {cells:List V} {ds:List D} {dead:List Nat},nJ bx cells=some (ds,dead)→∀ m ∈ dead,(bget bx m).isSome=true
  | [],_,_,h=>by simp [nJ] at h; rw [h.2]; simp
  | x::r,ds,dead,h=>by
    simp only [nJ] at h
    split at h
    · simp at h
    · rename_i ds' N' he
      have ih:=closeC_dead he
      cases x with
      | d y =>
        simp only at h
        split at h <;> simp at h
        obtain ⟨rfl,rfl⟩:=h; exact ih
      | nil sz =>
        simp at h
        obtain ⟨rfl,rfl⟩:=h; exact ih
      | tre n =>
        simp only at h
        split at h <;> simp at h
        rename_i hb
        obtain ⟨rfl,rfl⟩:=h
        intro m hm
        rcases List.mem_cons.1 hm with rfl | hm
        · simp [hb]
        · exact ih m hm
      | _=>simp at h
theorem aX2 {e sz : Nat} {xs : List AO} {l : List α} {f g : α → List D} (dead : List Nat) {s' : St} (hl : qU s sz xs = some (l.map g, dead)) (hfg : ∀ x, f x = g x) (hd : aNr d dead = true) (hS : eff (evR s (.bsl d e sz xs) d (xs.flatMap AO.rd) sz (l.map f) dead) s = s')
    (hk:dgo P KD rest (evR s (.bsl d e sz xs) d (xs.flatMap AO.rd) sz (l.map f) dead::acc) s'):dgo P KD (.bsl d e sz xs::rest) acc s:=by
  have:l.map g=l.map f:=List.map_congr_left fun x _=>(hfg x).symm
  rw [this] at hl
  obtain ⟨h1,h2⟩:=bK0 hd
  refine ⟨_,rfl,?_,bCd (aPy hl),by rw [hS]; exact hk⟩
  intro s2 hrd hg
  have e1:xs.map (ev s2)=xs.map (ev s):=Agree.evs (B:=[]) ⟨pG hrd.rt,fun p hp=>by simp at hp⟩
  exact .inr ⟨hg.fr d (by simp [evR]),_,_,bHy hl e1 (bGe (aPy hl) hrd),h1,h2,bC5⟩
theorem bJo {sz:Nat} {x:V} {l:List (List D)} {N:List Nat} (h:tC s sz x=some (l,N)):∀ m ∈ N,(bget s.bx m).isSome=true:=by
  unfold tC at h
  split at h
  · split at h <;> simp at h
    rw [h.2]; simp
  · split at h
    · rename_i hb
      split at h <;> simp at h
      rw [← h.2]; simp [hb]
    · simp at h
  · simp at h
theorem bJg {s':St} {sz:Nat} {x:V} {l:List (List D)} {N:List Nat} (h:tC s sz x=some (l,N)) (hd:∀ m ∈ N,bget s'.bx m=bget s.bx m):tC s' sz x=some (l,N):=by
  unfold tC at h ⊢
  split at h
  · exact h
  · split at h
    · rename_i hb
      split at h <;> simp at h
      rename_i e
      obtain ⟨rfl,rfl⟩:=h
      rw [hd _ (by simp),hb]
      simp [e]
    · simp at h
  · simp at h
theorem bCu {e sz by' : Nat} {xo yo : AO} {l m : List α} {f : α → List D} (N1 N2 : List Nat) {kF : List α → Option β} {S' : List α → St} (h : (appG by' l m >>= kF) = some r) (hc : ((ev s xo).cond.isEmpty && (ev s yo).cond.isEmpty) = true) (hx : tC s sz (ev s xo) = some (l.map f, N1)) (hy : tC s sz (ev s yo) = some (m.map f, N2))
    (hd:aNr d (N1++N2)=true) (hS:∀ y:List α,eff (evR s (.app d e sz by' xo yo) d (xo.rd++yo.rd) sz (y.map f) (N1++N2)) s=S' y) (hk:∀ y,kF y=some r→dgo P KD rest (evR s (.app d e sz by' xo yo) d (xo.rd++yo.rd) sz (y.map f) (N1++N2)::acc) (S' y)):dgo P KD (.app d e sz by' xo yo::rest) acc s:=by
  unfold appG at h
  split at h
  · rename_i h0
    rw [Bool.and_eq_true] at hc
    obtain ⟨h1,h2⟩:=bK0 hd
    have hdd:∀ k ∈ N1++N2,(bget s.bx k).isSome=true:=fun k hk=>(List.mem_append.1 hk).elim (bJo hx k) (bJo hy k)
    refine ⟨evR s (.app d e sz by' xo yo) d (xo.rd++yo.rd) sz ((l++m).map f) (N1++N2),rfl,?_,bCd hdd,by rw [hS]; exact hk _ h⟩
    intro s2 hrd hg
    have hag:Agree s s2 (xo.rd++yo.rd) []:=⟨pG hrd.rt,fun p hp=>by simp at hp⟩
    have hget:=bGe hdd hrd
    show aop P s2 _ (.app d e sz by' xo yo)
    simp only [aop]
    rw [hag.l.ev,hag.r.ev]
    refine V6 hc.1 (V6 hc.2 (.inr ⟨_,_,bJg hx fun k hk=>hget k (List.mem_append_left _ hk),.inl ⟨_,_,bJg hy fun k hk=>hget k (List.mem_append_right _ hk),h1,h2,by simpa using h0,hg.fr d (by simp [evR]),?_⟩⟩))
    rw [← List.map_append]; exact bC5
  · simp at h
theorem D8 {e sz by' : Nat} {k k' : IntKind} {zs : List D} {xo yo : AO} {n : Int} {z : α} {f : α → List D} {kF : List α → Option β} {S' : List α → St} (h : (mkG by' n z >>= kF) = some r) (hn : (conds s [xo, yo]).all id = true) (h1 : (ev s xo).str = .d (.i k n)) (h2 : (ev s yo).str = .d (.i k' n)) (hz : zs = f z) (hf : s.fresh d = true)
    (hS:∀ y:List α,(⟨(d,.tre d)::s.env,(d,[.trc sz (y.map f)])::s.bx⟩:St)=S' y) (hk:∀ y,kF y=some r→bQ P K rest (S' y)):bQ P K (.mks d e sz by' zs xo yo::rest) s:=by
  unfold mkG at h
  split at h
  · rename_i h0
    show aop P s (bQ P K rest) (.mks d e sz by' zs xo yo)
    simp only [aop]
    refine gL (kX hn) (gL (kX (uC hn)) ?_)
    rw [h1,h2]
    refine .inr ⟨rfl,h0.1,h0.2,hf,?_⟩
    have:=hk _ h
    rw [← hS] at this
    rw [hz]
    simpa using this
  · simp at h
end
end Go.Ab
