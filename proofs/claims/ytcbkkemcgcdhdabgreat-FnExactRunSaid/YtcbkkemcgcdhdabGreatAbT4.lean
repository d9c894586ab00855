/- Steps: operations on trees,in order or in an open order. -/
import Derived.Test.YtcbkkemcgcdhdabGreatAbC3
namespace Go.Ab
open Go Go.RowKit
open _root_.Bool renaming and_eq_true→QA,not_eq_true'→QE
open _root_.List renaming mem_map→QB,append_nil→QC,contains_eq_mem→QF,map_append→QG
open _root_.Option renaming isSome_iff_exists→QD
open _root_.Nat renaming le_of_ble_eq_true→QH
variable {sz n e by' off m:Nat} {xo yo io:AO} {l:List (List D)} {k:IntKind} {i:Int} {c:List V} {s':St} {dead rd:List Nat} {o:AOp}
theorem aO0:∀ {l:List Nat},nodupB l=true→l.Nodup
 | [],_=>by simp
 | x::l,h=>by
  obtain ⟨h1,h2⟩:=nodup_cons h;exact List.nodup_cons.2 ⟨h1,aO0 h2⟩
theorem bKs:∀ (dead:List Nat) (bx:List (Nat×List V)),gH bx (dead.map fun m=>(m,[V.trd]))=kill bx dead
 | [],_=>rfl
 | m::dead,bx=>bKs dead (fD bx m [.trd])
theorem tF {x:V} {C:V→Prop} (hx:x.cond.isEmpty=true) (h:C x):use x C:=yN hx h
section
variable {P:Program} {K:St→Prop} {KD:List Ev→St→Prop} {rest:List AOp} {acc:List Ev} {s:St} {α β:Type} {r:β} {d:Nat}
def bKd (s:St) (n:Nat) (ns:List Nat):Bool:=nodupB ns&&(!ns.contains n&&ns.all fun m=>Nat.ble NX m&&s.fresh m)
theorem cB9 {s:St} {ns:List Nat} {ds:List D} {K:St→Prop} (hb:bget s.bx n=some [.trc sz l]) (h0:0≤i) (hd:l[i.toNat]?=some ds) (h1:ns.Nodup) (h2:n∉ns) (h3:∀ m∈ns,NX≤m∧s.fresh m=true)
 (hK:K ⟨(d,.trp n sz i.toNat 0)::s.env,(jR ns ds).2++fD s.bx n (.tro sz i.toNat l::(jR ns ds).1)⟩):iaT s d sz (.tre n) (.d (.i k i)) K:=⟨h0,.inl ⟨l,ds,ns,hb,hd,h1,h2,h3,hK⟩⟩
theorem iG {l:List α} {x:α} (h:idx l i=some x):0≤i∧l[i.toNat]?=some x:=by
 unfold idx at h;split at h
 ·rename_i h0; exact ⟨h0,h⟩
 ·simp at h
theorem lC {l:List α} {f g:α→List D} (ns:List Nat) {kF:α→Option β} {S':α→St} (h:(idx l i>>=kF)=some r) (hx:ev s xo=.tre n) (hi:ev s io=.d (.i k i)) (hb:bget s.bx n=some [.trc sz (l.map f)]) (hfg:∀ x,f x=g x)
  (hns:bKd s n ns=true) (hS:∀ y,(⟨(d,.trp n sz i.toNat 0)::s.env,(jR ns (g y)).2++fD s.bx n (.tro sz i.toNat (l.map f)::(jR ns (g y)).1)⟩:St)=S' y) (hk:∀ y,idx l i=some y→kF y=some r→bM P K rest (S' y)):bM P K (.ia d sz xo io::rest) s:=by
 cases hm:idx l i with
 | none=>rw [hm] at h; simp at h
 | some y =>
  rw [hm] at h;obtain ⟨h0,hg⟩:=iG hm;show aop P s (bM P K rest) (.ia d sz xo io);simp only [bKd,QA,QE,QF,decide_eq_false_iff_not,List.all_eq_true] at hns;refine .inr ?_;rw [hx,hi];refine tF (x:=.tre n) rfl (tF (x:=.d (.i k i)) rfl (cB9 hb h0 (ds:=g y) (by rw [List.getElem?_map,hg,Option.map_some,hfg]) (aO0 hns.1) hns.2.1 (fun m hm=>⟨QH (hns.2.2 m hm).1,(hns.2.2 m hm).2⟩) ?_));rw [hS]; exact hk y hm h
theorem jC (hx:ev s xo=.tre n) (hi:ev s io=.d (.i k i)) (h0:0≤i) (hb:bget s.bx n=some (.tro sz i.toNat l::c)) (hk:bM P K rest (s.put d (.trp n sz i.toNat 0))):bM P K (.ia d sz xo io::rest) s:=by
 show aop P s (bM P K rest) (.ia d sz xo io);refine .inr ?_;rw [hx,hi];exact tF (x:=.tre n) rfl (tF (x:=.d (.i k i)) rfl ⟨h0,.inr ⟨l,c,hb,hk⟩⟩)
theorem rJ {i:Nat} {agg:Bool} {v:V} (hx:ev s xo=.trp n sz i off) (hb:bget s.bx n=some (.tro sz i l::c)) (hv:aKd m agg (c.drop off)=some v):vop s (fun y=>y=v) (.ld d m agg xo):=by
 simp only [vop];rw [hx];exact .inl ⟨l,c,hb,bAt hv rfl⟩
def aQu (s:St) (n:Nat):Option (List (List D)):=match bget s.bx n with
 | some (.trc _ l::_)=>some l
 | some (.tro _ _ l::_)=>some l
 | some [.trs _ l]=>some l
 | _=>none
theorem uB {L:Nat} (hx:ev s xo=.tre n) (hb:aQu s n=some l) (hl:l.length=L):vop s (fun y=>y=.d (.i .i64 L)) (.len d xo):=by
 subst hl;simp only [vop];rw [hx];show trL s n _;unfold aQu at hb;unfold trL;split at hb <;> simp at hb
 ·rename_i h; rw [h]; subst hb; rfl
 ·rename_i h; rw [h]; subst hb; rfl
 ·rename_i h; rw [h]; subst hb; rfl
theorem gI {i:Nat} (hx:ev s xo=.trp n sz i off) (hb:bget s.bx n=some (.tro sz i l::c)) (hy:((ev s yo).solid&&((ev s yo).cells.length==m&&Nat.ble (off+m) c.length))=true)
  (hS:(⟨s.env,fD s.bx n (.tro sz i l::putCells c off (ev s yo).cells)⟩:St)=s') (hk:bM P K rest s'):bM P K (.st m xo yo::rest) s:=by
 simp only [QA,beq_iff_eq] at hy;show aop P s (bM P K rest) (.st m xo yo);simp only [aop];rw [hx];have hu:∀ C:V→Prop,C (ev s yo)→use (ev s yo) C:=by
  intro C hC;revert hy hC; generalize ev s yo=u; intro hy hC;cases u <;> first | exact hC | simp [V.solid] at hy
 exact hu _ (.inl ⟨l,c,hb,hy.1,hy.2.1,QH hy.2.2,by rw [hS]; exact hk⟩)
def N7 (d:Nat) (dead:List Nat):Bool:=nodupB dead&&!dead.contains d
theorem aGf {d:Nat} (h:N7 d dead=true):dead.Nodup∧d∉dead:=by
 simp only [N7,QA,QE,QF,decide_eq_false_iff_not] at h;exact ⟨aO0 h.1,h.2⟩
theorem M3 {xs:List AO} {l:List α} {f g:α→List D} (dead:List Nat) (hl:aBs s sz xs=some (l.map g,dead)) (hfg:∀ x,f x=g x) (hd:(s.fresh d&&N7 d dead)=true) (hS:(⟨(d,.tre d)::s.env,(d,[.trc sz (l.map f)])::kill s.bx dead⟩:St)=s')
  (hk:bM P K rest s'):bM P K (.bsl d e sz xs::rest) s:=by
 have:l.map g=l.map f:=List.map_congr_left fun x _=>(hfg x).symm;rw [this] at hl;rw [QA] at hd;obtain ⟨h1,h2⟩:=aGf hd.2;exact .inr (.inl ⟨hd.1,_,_,hl,h1,h2,by rw [hS]; exact hk⟩)
def bI7 (s:St) (dead:List Nat):List (Nat×List V):=dead.map fun m=>(m,(bget s.bx m).getD [])
def evR (s:St) (o:AOp) (d:Nat) (rd:List Nat) (sz:Nat) (l:List (List D)) (dead:List Nat):Ev:={ o:=o,d:=some d,r:=.tre d,rt:=rQ s rd,rb:=bI7 s dead,wr:=dead.map fun m=>(m,[.trd]),nw:=[(d,[.trc sz l])],fr:=[d] }
theorem bSu (h:∀ m∈dead,(bget s.bx m).isSome=true):Rd (evR s o d rd sz l dead) s:=by
 refine ⟨vG,fun p hp=>?_,fun p hp=>?_⟩
 ·obtain ⟨m,hm,rfl⟩:=QB.1 hp;obtain ⟨c,hc⟩:=QD.1 (h m hm);simp [hc]
 ·obtain ⟨m,hm,rfl⟩:=QB.1 hp;exact h m hm
theorem cMy (h:∀ m∈dead,(bget s.bx m).isSome=true) (hr:Rd (evR s o d rd sz l dead) s'):∀ m∈dead,bget s'.bx m=bget s.bx m:=fun m hm=>by
 have:=hr.rb (m,(bget s.bx m).getD []) (QB.2 ⟨m,hm,rfl⟩);obtain ⟨c,hc⟩:=QD.1 (h m hm);rw [this,hc]; rfl
theorem aY7 {l m:List α} {f:α→List D} (N1 N2:List Nat) {kF:List α→Option β} {S':List α→St} (h:(appG by' l m>>=kF)=some r) (hc:((ev s xo).cond.isEmpty&&(ev s yo).cond.isEmpty)=true) (hx:aA2 s sz (ev s xo)=some (l.map f,N1)) (hy:aA2 s sz (ev s yo)=some (m.map f,N2))
  (hd:(s.fresh d&&N7 d (N1++N2))=true) (hS:∀ y:List α,(⟨(d,.tre d)::s.env,(d,[.trc sz (y.map f)])::kill s.bx (N1++N2)⟩:St)=S' y) (hk:∀ y,kF y=some r→bM P K rest (S' y)):bM P K (.app d e sz by' xo yo::rest) s:=by
 unfold appG at h;split at h
 ·rename_i h0;rw [QA] at hd hc;obtain ⟨h1,h2⟩:=aGf hd.2;show aop P s (bM P K rest) (.app d e sz by' xo yo);simp only [aop];exact tF hc.1 (tF hc.2 (.inr (.inl ⟨_,_,hx,.inl ⟨_,_,hy,h1,h2,by simpa using h0,hd.1,by rw [← QG,hS]; exact hk _ h⟩⟩)))
 ·simp at h
theorem bUu {hi':Option AO} {l:List α} {f:α→List D} {k:Int} (n:Nat) {kF:List α→Option β} {S':List α→St} (h:(gY l 0 k>>=kF)=some r) (hc:(ev s xo).cond.isEmpty=true) (hx:ev s xo=.tre n) (hb:bget s.bx n=some [.trc sz (l.map f)])
  (h2:aF3 s hi' l.length k) (hd:(s.fresh d&&N7 d [n])=true) (hS:∀ y:List α,(⟨(d,.tre d)::s.env,(d,[.trc sz (y.map f)])::kill s.bx [n]⟩:St)=S' y) (hk:∀ y,kF y=some r→bM P K rest (S' y)):bM P K (.slc d sz xo none hi' none::rest) s:=by
 unfold gY at h;split at h
 ·rename_i h0;rw [QA] at hd;obtain ⟨_,h1⟩:=aGf hd.2;show aop P s (bM P K rest) (.slc d sz xo none hi' none);simp only [aop];refine .inr ?_;unfold aRh;refine tF hc ?_;rw [hx];have h:kF (l.take k.toNat)=some r:=by simpa using h
  exact ⟨l.map f,hb,rfl,rfl,aSj (by simpa using h2) ⟨by omega,by simp; omega,h1,hd.1,by rw [← List.map_take,hS]; exact hk _ h⟩⟩
 ·simp at h
theorem bMn {l m:List α} {f:α→List D} (N1:List Nat) {kF:List α→Option β} {S':List α→St} (h:(appG by' l m>>=kF)=some r) (hc:((ev s xo).cond.isEmpty&&(ev s yo).cond.isEmpty)=true) (hx:aA2 s sz (ev s xo)=some (l.map f,N1)) (hy:srV (ev s yo)=some (sz,m.map f)) (hfl:∀ x,(f x).all D.flat=true)
  (hd:(s.fresh d&&N7 d N1)=true) (hS:∀ y:List α,(⟨(d,.tre d)::s.env,(d,[.trc sz (y.map f)])::kill s.bx N1⟩:St)=S' y) (hk:∀ y,kF y=some r→bM P K rest (S' y)):bM P K (.app d e sz by' xo yo::rest) s:=by
 unfold appG at h;split at h
 ·rename_i h0;rw [QA] at hd hc;obtain ⟨h1,h2⟩:=aGf hd.2;show aop P s (bM P K rest) (.app d e sz by' xo yo);simp only [aop];refine tF hc.1 (tF hc.2 (.inr (.inl ⟨_,_,hx,.inr (aJg hy ?_)⟩)));refine ⟨rfl,fun r hr=>by obtain ⟨x,_,rfl⟩:=QB.1 hr; exact hfl x,by rw [QC]; exact h1,by rw [QC]; exact h2,by simpa using h0,hd.1,?_⟩;rw [← QG,QC,hS]; exact hk _ h
 ·simp at h
theorem vY {k':IntKind} {zs:List D} {n:Int} {z:α} {f:α→List D} {kF:List α→Option β} {S':List α→St} (h:(mkG by' n z>>=kF)=some r) (hn:(conds s [xo,yo]).all id=true) (h1:(ev s xo).str=.d (.i k n)) (h2:(ev s yo).str=.d (.i k' n)) (hz:zs=f z) (hf:s.fresh d=true)
  (hS:∀ y:List α,(⟨(d,.tre d)::s.env,(d,[.trc sz (y.map f)])::s.bx⟩:St)=S' y) (hk:∀ y,kF y=some r→bM P K rest (S' y)):bM P K (.mks d e sz by' zs xo yo::rest) s:=by
 unfold mkG at h;split at h
 ·rename_i h0;show aop P s (bM P K rest) (.mks d e sz by' zs xo yo);simp only [aop];refine fE (iE hn) (fE (iE (oJ hn)) ?_);rw [h1,h2];refine .inr (.inl ⟨rfl,h0.1,h0.2,hf,?_⟩);have:=hk _ h;rw [← hS] at this;rw [hz];simpa using this
 ·simp at h
end
end Go.Ab
