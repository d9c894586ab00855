/- Steps: operations on trees,in order or in an open order. -/
import Derived.Test.YtflhmnfmihkbmahGreatDoorAbC3
namespace Go.Ab
open Go Go.RowKit
theorem aGi:∀ {l:List Nat},nodupB l=true→l.Nodup
  | [],_=>by simp
  | x::l,h=>by
    obtain ⟨h1,h2⟩:=nodup_cons h
    exact List.nodup_cons.2 ⟨h1,aGi h2⟩
theorem G8 {x:V} {C:V→Prop} (hx:x.cond.isEmpty=true) (h:C x):use x C:=rU hx h
section
variable {P:Program} {K:St→Prop} {KD:List Ev→St→Prop} {rest:List AOp} {acc:List Ev} {s:St} {α β:Type} {r:β} {d:Nat}
def aR8 (s:St) (n:Nat) (ns:List Nat):Bool:=nodupB ns&&(!ns.contains n&&ns.all fun m=>Nat.ble NX m&&s.fresh m)
theorem bKk {s : St} {n sz : Nat} {k : IntKind} {i : Int} {ns : List Nat} {l : List (List D)} {ds : List D} {K : St → Prop} (hb : bget s.bx n = some [.trc sz l]) (h0 : 0 ≤ i) (hd : l[i.toNat]? = some ds) (h1 : ns.Nodup) (h2 : n ∉ ns) (h3 : ∀ m ∈ ns, NX ≤ m ∧ s.fresh m = true)
    (hK:K ⟨(d,.trp n sz i.toNat 0)::s.env,(gX ns ds).2++dY s.bx n (.tro sz i.toNat l::(gX ns ds).1)⟩):iaT s d sz (.tre n) (.d (.i k i)) K:=⟨h0,.inl ⟨l,ds,ns,hb,hd,h1,h2,h3,hK⟩⟩
theorem eX {l:List α} {i:Int} {x:α} (h:idx l i=some x):0≤i∧l[i.toNat]?=some x:=by
  unfold idx at h
  split at h
  · rename_i h0; exact ⟨h0,h⟩
  · simp at h
theorem qY {n sz : Nat} {k : IntKind} {xo io : AO} {l : List α} {f g : α → List D} {i : Int} (ns : List Nat) {kF : α → Option β} {S' : α → St} (h : (idx l i >>= kF) = some r) (hx : ev s xo = .tre n) (hi : ev s io = .d (.i k i)) (hb : bget s.bx n = some [.trc sz (l.map f)]) (hfg : ∀ x, f x = g x)
    (hns:aR8 s n ns=true) (hS:∀ y,(⟨(d,.trp n sz i.toNat 0)::s.env,(gX ns (g y)).2++dY s.bx n (.tro sz i.toNat (l.map f)::(gX ns (g y)).1)⟩:St)=S' y) (hk:∀ y,idx l i=some y→kF y=some r→bO P K rest (S' y)):bO P K (.ia d sz xo io::rest) s:=by
  cases hm:idx l i with
  | none=>rw [hm] at h; simp at h
  | some y =>
    rw [hm] at h
    obtain ⟨h0,hg⟩:=eX hm
    show aop P s (bO P K rest) (.ia d sz xo io)
    simp only [aR8,Bool.and_eq_true,Bool.not_eq_true',List.contains_eq_mem,decide_eq_false_iff_not,List.all_eq_true] at hns
    refine .inr ?_
    rw [hx,hi]
    refine G8 (x:=.tre n) rfl (G8 (x:=.d (.i k i)) rfl (bKk hb h0 (ds:=g y) (by rw [List.getElem?_map,hg,Option.map_some,hfg]) (aGi hns.1) hns.2.1 (fun m hm=>⟨Nat.le_of_ble_eq_true (hns.2.2 m hm).1,(hns.2.2 m hm).2⟩) ?_))
    rw [hS]; exact hk y hm h
theorem eZ {n sz:Nat} {k:IntKind} {xo io:AO} {i:Int} {l:List (List D)} {c:List V} (hx:ev s xo=.tre n) (hi:ev s io=.d (.i k i)) (h0:0≤i) (hb:bget s.bx n=some (.tro sz i.toNat l::c)) (hk:bO P K rest (s.put d (.trp n sz i.toNat 0))):bO P K (.ia d sz xo io::rest) s:=by
  show aop P s (bO P K rest) (.ia d sz xo io)
  refine .inr ?_
  rw [hx,hi]
  exact G8 (x:=.tre n) rfl (G8 (x:=.d (.i k i)) rfl ⟨h0,.inr ⟨l,c,hb,hk⟩⟩)
theorem qA {n sz i off m:Nat} {agg:Bool} {xo:AO} {l:List (List D)} {c:List V} {v:V} (hx:ev s xo=.trp n sz i off) (hb:bget s.bx n=some (.tro sz i l::c)) (hv:aB0 m agg (c.drop off)=some v):vop s (fun y=>y=v) (.ld d m agg xo):=by
  simp only [vop]
  rw [hx]
  exact ⟨l,c,hb,aQh hv rfl⟩
def bBg (s:St) (n:Nat):Option (List (List D)):=match bget s.bx n with
  | some (.trc _ l::_)=>some l
  | some (.tro _ _ l::_)=>some l
  | _=>none
theorem R5 {n:Nat} {xo:AO} {l:List (List D)} {L:Nat} (hx:ev s xo=.tre n) (hb:bBg s n=some l) (hl:l.length=L):vop s (fun y=>y=.d (.i .i64 L)) (.len d xo):=by
  subst hl
  simp only [vop]
  rw [hx]
  show trL s n _
  unfold bBg at hb
  unfold trL
  split at hb <;> simp at hb
  · rename_i h; rw [h]; subst hb; rfl
  · rename_i h; rw [h]; subst hb; rfl
theorem fB {n sz i off m : Nat} {xo yo : AO} {l : List (List D)} {c : List V} {s' : St} (hx : ev s xo = .trp n sz i off) (hb : bget s.bx n = some (.tro sz i l :: c)) (hy : ((ev s yo).solid && ((ev s yo).cells.length == m && Nat.ble (off + m) c.length)) = true)
    (hS:(⟨s.env,dY s.bx n (.tro sz i l::putCells c off (ev s yo).cells)⟩:St)=s') (hk:bO P K rest s'):bO P K (.st m xo yo::rest) s:=by
  simp only [Bool.and_eq_true,beq_iff_eq] at hy
  show aop P s (bO P K rest) (.st m xo yo)
  simp only [aop]
  rw [hx]
  have hu:∀ C:V→Prop,C (ev s yo)→use (ev s yo) C:=by
    intro C hC
    revert hy hC; generalize ev s yo=u; intro hy hC
    cases u <;> first | exact hC | simp [V.solid] at hy
  exact hu _ ⟨l,c,hb,hy.1,hy.2.1,Nat.le_of_ble_eq_true hy.2.2,by rw [hS]; exact hk⟩
def aHe (d:Nat) (dead:List Nat):Bool:=nodupB dead&&!dead.contains d
theorem aU9 {d:Nat} {dead:List Nat} (h:aHe d dead=true):dead.Nodup∧d ∉ dead:=by
  simp only [aHe,Bool.and_eq_true,Bool.not_eq_true',List.contains_eq_mem,decide_eq_false_iff_not] at h
  exact ⟨aGi h.1,h.2⟩
theorem bJj {e sz : Nat} {xs : List AO} {l : List α} {f g : α → List D} (dead : List Nat) {s' : St} (hl : yA s sz xs = some (l.map g, dead)) (hfg : ∀ x, f x = g x) (hd : (s.fresh d && aHe d dead) = true) (hS : (⟨(d, .tre d) :: s.env, (d, [.trc sz (l.map f)]) :: kill s.bx dead⟩ : St) = s')
    (hk:bO P K rest s'):bO P K (.bsl d e sz xs::rest) s:=by
  have:l.map g=l.map f:=List.map_congr_left fun x _=>(hfg x).symm
  rw [this] at hl
  rw [Bool.and_eq_true] at hd
  obtain ⟨h1,h2⟩:=aU9 hd.2
  exact .inr ⟨hd.1,_,_,hl,h1,h2,by rw [hS]; exact hk⟩
theorem bQt {e sz by' : Nat} {xo yo : AO} {l m : List α} {f : α → List D} (N1 N2 : List Nat) {kF : List α → Option β} {S' : List α → St} (h : (appG by' l m >>= kF) = some r) (hc : ((ev s xo).cond.isEmpty && (ev s yo).cond.isEmpty) = true) (hx : K3 s sz (ev s xo) = some (l.map f, N1)) (hy : K3 s sz (ev s yo) = some (m.map f, N2))
    (hd:(s.fresh d&&aHe d (N1++N2))=true) (hS:∀ y:List α,(⟨(d,.tre d)::s.env,(d,[.trc sz (y.map f)])::kill s.bx (N1++N2)⟩:St)=S' y) (hk:∀ y,kF y=some r→bO P K rest (S' y)):bO P K (.app d e sz by' xo yo::rest) s:=by
  unfold appG at h
  split at h
  · rename_i h0
    rw [Bool.and_eq_true] at hd hc
    obtain ⟨h1,h2⟩:=aU9 hd.2
    show aop P s (bO P K rest) (.app d e sz by' xo yo)
    simp only [aop]
    exact G8 hc.1 (G8 hc.2 (.inr ⟨_,_,hx,.inl ⟨_,_,hy,h1,h2,by simpa using h0,hd.1,by rw [← List.map_append,hS]; exact hk _ h⟩⟩))
  · simp at h
theorem X9 {e sz by' : Nat} {k k' : IntKind} {zs : List D} {xo yo : AO} {n : Int} {z : α} {f : α → List D} {kF : List α → Option β} {S' : List α → St} (h : (mkG by' n z >>= kF) = some r) (hn : (conds s [xo, yo]).all id = true) (h1 : (ev s xo).str = .d (.i k n)) (h2 : (ev s yo).str = .d (.i k' n)) (hz : zs = f z) (hf : s.fresh d = true)
    (hS:∀ y:List α,(⟨(d,.tre d)::s.env,(d,[.trc sz (y.map f)])::s.bx⟩:St)=S' y) (hk:∀ y,kF y=some r→bO P K rest (S' y)):bO P K (.mks d e sz by' zs xo yo::rest) s:=by
  unfold mkG at h
  split at h
  · rename_i h0
    show aop P s (bO P K rest) (.mks d e sz by' zs xo yo)
    simp only [aop]
    refine fK (jN hn) (fK (jN (qM hn)) ?_)
    rw [h1,h2]
    refine .inr ⟨rfl,h0.1,h0.2,hf,?_⟩
    have:=hk _ h
    rw [← hS] at this
    rw [hz]
    simpa using this
  · simp at h
end
end Go.Ab
