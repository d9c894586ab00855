/- Steps: operations on trees,in order or in an open order. -/
import Derived.Test.YtfomfmjicgdebaaGreatDoorAbC3
namespace Go.Ab
open Go Go.RowKit
theorem aFn:∀ {l:List Nat},nodupB l=true→l.Nodup
  | [],_=>by simp
  | x::l,h=>by
    obtain ⟨h1,h2⟩:=nodup_cons h
    exact List.nodup_cons.2 ⟨h1,aFn h2⟩
theorem V5 {x:V} {C:V→Prop} (hx:x.cond.isEmpty=true) (h:C x):use x C:=pO hx h
section
variable {P:Program} {K:St→Prop} {KD:List Ev→St→Prop} {rest:List AOp} {acc:List Ev} {s:St} {α β:Type} {r:β} {d:Nat}
def aKu (s:St) (n:Nat) (ns:List Nat):Bool:=nodupB ns&&(!ns.contains n&&ns.all fun m=>Nat.ble NX m&&s.fresh m)
theorem bEp {s : St} {n sz : Nat} {k : IntKind} {i : Int} {ns : List Nat} {l : List (List D)} {ds : List D} {K : St → Prop} (hb : bget s.bx n = some [.trc sz l]) (h0 : 0 ≤ i) (hd : l[i.toNat]? = some ds) (h1 : ns.Nodup) (h2 : n ∉ ns) (h3 : ∀ m ∈ ns, NX ≤ m ∧ s.fresh m = true)
    (hK:K ⟨(d,.trp n sz i.toNat 0)::s.env,(gJ ns ds).2++dU s.bx n (.tro sz i.toNat l::(gJ ns ds).1)⟩):iaT s d sz (.tre n) (.d (.i k i)) K:=⟨h0,.inl ⟨l,ds,ns,hb,hd,h1,h2,h3,hK⟩⟩
theorem I9 {l:List α} {i:Int} {x:α} (h:idx l i=some x):0≤i∧l[i.toNat]?=some x:=by
  unfold idx at h
  split at h
  · rename_i h0; exact ⟨h0,h⟩
  · simp at h
theorem aOm {n sz : Nat} {k : IntKind} {xo io : AO} {l : List α} {f g : α → List D} {i : Int} (ns : List Nat) {kF : α → Option β} {S' : α → St} (h : (idx l i >>= kF) = some r) (hx : ev s xo = .tre n) (hi : ev s io = .d (.i k i)) (hb : bget s.bx n = some [.trc sz (l.map f)]) (hfg : ∀ x, f x = g x)
    (hns:aKu s n ns=true) (hS:∀ y,(⟨(d,.trp n sz i.toNat 0)::s.env,(gJ ns (g y)).2++dU s.bx n (.tro sz i.toNat (l.map f)::(gJ ns (g y)).1)⟩:St)=S' y) (hk:∀ y,idx l i=some y→kF y=some r→aZ P K rest (S' y)):aZ P K (.ia d sz xo io::rest) s:=by
  cases hm:idx l i with
  | none=>rw [hm] at h; simp at h
  | some y =>
    rw [hm] at h
    obtain ⟨h0,hg⟩:=I9 hm
    show aop P s (aZ P K rest) (.ia d sz xo io)
    simp only [aKu,Bool.and_eq_true,Bool.not_eq_true',List.contains_eq_mem,decide_eq_false_iff_not,List.all_eq_true] at hns
    refine .inr ?_
    rw [hx,hi]
    refine V5 (x:=.tre n) rfl (V5 (x:=.d (.i k i)) rfl (bEp hb h0 (ds:=g y) (by rw [List.getElem?_map,hg,Option.map_some,hfg]) (aFn hns.1) hns.2.1 (fun m hm=>⟨Nat.le_of_ble_eq_true (hns.2.2 m hm).1,(hns.2.2 m hm).2⟩) ?_))
    rw [hS]; exact hk y hm h
theorem aGx {n sz:Nat} {k:IntKind} {xo io:AO} {i:Int} {l:List (List D)} {c:List V} (hx:ev s xo=.tre n) (hi:ev s io=.d (.i k i)) (h0:0≤i) (hb:bget s.bx n=some (.tro sz i.toNat l::c)) (hk:aZ P K rest (s.put d (.trp n sz i.toNat 0))):aZ P K (.ia d sz xo io::rest) s:=by
  show aop P s (aZ P K rest) (.ia d sz xo io)
  refine .inr ?_
  rw [hx,hi]
  exact V5 (x:=.tre n) rfl (V5 (x:=.d (.i k i)) rfl ⟨h0,.inr ⟨l,c,hb,hk⟩⟩)
theorem aDi {n sz i off m:Nat} {agg:Bool} {xo:AO} {l:List (List D)} {c:List V} {v:V} (hx:ev s xo=.trp n sz i off) (hb:bget s.bx n=some (.tro sz i l::c)) (hv:F6 m agg (c.drop off)=some v):vop s (fun y=>y=v) (.ld d m agg xo):=by
  simp only [vop]
  rw [hx]
  exact ⟨l,c,hb,aAz hv rfl⟩
theorem aSj {n sz i off m:Nat} {agg:Bool} {xo:AO} {l:List (List D)} {c:List V} {v:V} (hn:(conds s [xo]).all id=true) (hx:(ev s xo).str=.trp n sz i off) (hb:bget s.bx n=some (.tro sz i l::c)) (hv:F6 m agg (c.drop off)=some v):vop s (fun y=>y=v) (.ld d m agg xo):=by
  simp only [vop]
  refine eD (iI hn) ?_
  rw [hx]
  exact ⟨l,c,hb,aAz hv rfl⟩
def aJl (s:St) (n:Nat):Option (List (List D)):=match bget s.bx n with
  | some (.trc _ l::_)=>some l
  | some (.tro _ _ l::_)=>some l
  | _=>none
theorem aMw {n:Nat} {xo:AO} {l:List (List D)} {L:Nat} (hx:ev s xo=.tre n) (hb:aJl s n=some l) (hl:l.length=L):vop s (fun y=>y=.d (.i .i64 L)) (.len d xo):=by
  subst hl
  simp only [vop]
  rw [hx]
  show trL s n _
  unfold aJl at hb
  unfold trL
  split at hb <;> simp at hb
  · rename_i h; rw [h]; subst hb; rfl
  · rename_i h; rw [h]; subst hb; rfl
theorem aMd {n sz i off m : Nat} {xo yo : AO} {l : List (List D)} {c : List V} {s' : St} (hx : ev s xo = .trp n sz i off) (hb : bget s.bx n = some (.tro sz i l :: c)) (hy : ((ev s yo).solid && ((ev s yo).cells.length == m && Nat.ble (off + m) c.length)) = true)
    (hS:(⟨s.env,dU s.bx n (.tro sz i l::putCells c off (ev s yo).cells)⟩:St)=s') (hk:aZ P K rest s'):aZ P K (.st m xo yo::rest) s:=by
  simp only [Bool.and_eq_true,beq_iff_eq] at hy
  show aop P s (aZ P K rest) (.st m xo yo)
  simp only [aop]
  rw [hx]
  have hu:∀ C:V→Prop,C (ev s yo)→use (ev s yo) C:=by
    intro C hC
    revert hy hC; generalize ev s yo=u; intro hy hC
    cases u <;> first | exact hC | simp [V.solid] at hy
  exact hu _ ⟨l,c,hb,hy.1,hy.2.1,Nat.le_of_ble_eq_true hy.2.2,by rw [hS]; exact hk⟩
theorem aKs {e:TypeId} {xo:AO} {b:List UInt8} {s':St} (h1:ev s xo=.d (.s (bs b))) (hf:s.fresh d=true) (hS:(⟨(d,.tre d)::s.env,(d,[.trc 1 ((iV b).map fun n=>[D.i .u8 n])])::s.bx⟩:St)=s') (hk:aZ P K rest s'):aZ P K (.csb d e xo::rest) s:=by
  show aop P s (aZ P K rest) (.csb d e xo)
  simp only [aop]
  rw [h1]
  refine ⟨hf,?_⟩
  rw [← hS] at hk
  have e1:((iV b).map fun n=>[D.i .u8 n])=(bs b).data.toList.map fun u=>[D.i .u8 u.toNat]:=by simp [iV,bs]
  rw [← e1]; exact hk
end
end Go.Ab
