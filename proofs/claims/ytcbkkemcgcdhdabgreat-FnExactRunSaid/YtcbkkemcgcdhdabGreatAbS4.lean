/- Steps: slices that are made,written,and then taken for plain data. -/
import Derived.Test.YtcbkkemcgcdhdabGreatAbS3
namespace Go.Ab
open Go Go.RowKit
open _root_.List renaming prefix_refl→QA,length_map→QC,length_append→QD,length_cons→QE,append_assoc→QF,mem_map→QG
open _root_.Nat renaming le_refl→QB,zero_add→QH
variable {n sz b:Nat} {xo yo:AO} {s' s:St} {i:Int} {R:List (List D)}
section
variable {P:Program} {K:St→Prop} {rest:List AOp} {s:St} {α β:Type} {d:Nat} {r:β} {k k':IntKind}
theorem aP5 {α:Type} {f:α→List D} (hl:∀ x,(f x).length=n):∀ l:List α,(eY (l.map f)).length=l.length * n
 | []=>by simp [eY]
 | x::l=>by
  have:=aP5 hl l;simp only [eY,QC,List.map_cons,List.flatten_cons,QD,hl,QE] at this ⊢;rw [this,Nat.add_mul]; omega
theorem bHo:∀ l:List D,V.stills (l.map V.d)=true
 | []=>rfl
 | x::l=>by simp [V.stills,V.still,bHo l]
def V.isBp:V→Bool
 | .bp ..=>true
 | _=>false
theorem cA0 {x:V} (h:x.isBp=false) (u:V):kbp (some x) u=u:=by
 cases x <;> first | rfl | simp [V.isBp] at h
theorem bP7:∀ (us a b c:List V),us.length=b.length→b.any V.isBp=false→putCells (a++b++c) a.length us=a++us++c
 | [],a,b,c,h,_=>by
  have:b=[]:=List.length_eq_zero_iff.1 (by simpa using h.symm);subst this; simp [putCells]
 | u::us,a,[],c,h,_=>by simp at h
 | u::us,a,x::b,c,h,hb=>by
  simp only [List.any_cons,Bool.or_eq_false_iff] at hb;simp only [putCells];have e0:(a++x::b++c)[a.length]?=some x:=by rw [QF,List.getElem?_append_right (QB _)]; simp
  rw [e0,cA0 hb.1];have e:(a++x::b++c).set a.length u=(a++[u])++b++c:=by
   rw [QF,List.set_append_right _ _ (QB _)];simp
  rw [e];have:=bP7 us (a++[u]) b c (by simpa using h) hb.2;simp only [QD,QE,List.length_nil] at this;simpa using this
theorem bZx {α:Type} {f:α→List D} (hl:∀ x,(f x).length=n) (l:List α) (i:Nat) (v:α) (hi:i<l.length):putCells (eY (l.map f)) (i * n) ((f v).map V.d)=eY ((l.set i v).map f):=by
 have e1:l=l.take i++l[i]::l.drop (i+1):=by rw [List.getElem_cons_drop hi,List.take_append_drop]
 have e2:l.set i v=l.take i++v::l.drop (i+1):=List.set_eq_take_append_cons_drop.trans (by simp [hi]);have e3:eY (l.map f)=eY ((l.take i).map f)++(f l[i]).map V.d++eY ((l.drop (i+1)).map f):=by
  have:∀ a:α,∀ p q:List α,eY ((p++a::q).map f)=eY (p.map f)++(f a).map V.d++eY (q.map f):=fun a p q=>by simp [eY]
  exact (congrArg (fun z=>eY (z.map f)) e1).trans (this _ _ _)
 have e4:eY ((l.set i v).map f)=eY ((l.take i).map f)++(f v).map V.d++eY ((l.drop (i+1)).map f):=by
  rw [e2]; simp [eY]
 have e5:i * n=(eY ((l.take i).map f)).length:=by rw [aP5 hl,List.length_take,Nat.min_eq_left (Nat.le_of_lt hi)]
 rw [e3,e4,e5];exact bP7 _ _ _ _ (by simp [hl]) (by rw [List.any_eq_false]; intro x hx; obtain ⟨y,_,rfl⟩:=QG.1 hx; simp [V.isBp])
theorem wL {e by':Nat} {zs:List D} {n:Int} {z:α} {f:α→List D} {kF:List α→Option β} {S':List α→St} (h:(mkG by' n z>>=kF)=some r) (hn:(conds s [xo,yo]).all id=true) (h1:(ev s xo).str=.d (.i k n)) (h2:(ev s yo).str=.d (.i k' n)) (hz:zs=f z) (hf:s.fresh d=true)
  (hS:∀ y:List α,(⟨(d,.msl d sz 0 y.length y.length)::s.env,(d,eY (y.map f))::s.bx⟩:St)=S' y) (hk:∀ y,kF y=some r→bM P K rest (S' y)):bM P K (.mks d e sz by' zs xo yo::rest) s:=by
 unfold mkG at h;split at h
 ·rename_i h0;show aop P s (bM P K rest) (.mks d e sz by' zs xo yo);simp only [aop];refine fE (iE hn) (fE (iE (oJ hn)) ?_);rw [h1,h2];refine .inl ⟨rfl,h0.1,h0.2,hf,?_⟩;have:=hk _ h;rw [← hS] at this;rw [hz];simpa using this
 ·simp at h
theorem wV {io:AO} {l:List α} {x:α} (hx:idx l i=some x) (hn:(conds s [xo,io]).all id=true) (h1:(ev s xo).str=.msl b sz 0 l.length l.length) (h2:(ev s io).str=.d (.i k i)) :
  vop s (fun v=>v=.ptr b ((0+i.toNat) * sz)) (.ia d sz xo io):=by
 unfold idx at hx;split at hx
 ·rename_i h0;exact cHy h0 (List.getElem?_eq_some_iff.1 hx).1 hn h1 h2
 ·simp at hx
theorem bFa (R:List (List D)):lZ (eY R)=true:=by
 unfold eY;cases R.flatten <;> rfl
theorem vQ {l:List α} {v:α} {f:α→List D} {u:V} {kF:List α→Option β} {T:List α→Nat→St} (h:(iC l i v>>=kF)=some r) (hx:ev s xo=.ptr b ((0+i.toNat) * n)) (hy:ev s yo=u) (hs:u.solid=true) (hc:u.cells=(f v).map V.d) (hl:∀ x,(f x).length=n)
  (hb:bget s.bx b=some (eY (l.map f))) (hT:∀ y:List α,(⟨s.env,fD s.bx b (eY (y.map f))⟩:St)=T y l.length) (hk:∀ y,kF y=some r→bM P K rest (T y y.length)):bM P K (.st n xo yo::rest) s:=by
 unfold iC at h;split at h
 ·rename_i h0;show aop P s (bM P K rest) (.st n xo yo);simp only [aop];rw [hx,hy];have hu:∀ C:V→Prop,C u→use u C:=by
   intro C hC;cases u <;> first | exact hC | simp [V.solid] at hs
  refine hu _ ⟨_,hb,bFa _,hs,by rw [hc]; simp [hl],?_,?_⟩
  ·rw [aP5 hl,QH];have:=Nat.mul_le_mul_right n (Nat.succ_le_of_lt h0.2);rw [Nat.succ_mul] at this; exact this
  ·have:=hk _ h;rw [List.length_set,← hT] at this;rw [hc,QH,bZx hl _ _ _ h0.2];exact this
 ·simp at h
def aQ1 (n sz:Nat) (R:List (List D)) (s:St):List (Nat×V)→Prop
 | []=>True
 | (k,v)::l=>((lk s.env k=v∧v.noPtr n=true)∨(∃ len cap,lk s.env k=.msl n sz 0 len cap∧len=R.length∧v=.d (.sl sz R)))∧aQ1 n sz R s l
def aR5 (n:Nat) (s:St):List (Nat×List V)→Prop
 | []=>True
 | (k,c)::l=>k≠n∧bget s.bx k=some c∧aR5 n s l
theorem bJ4:∀ {l:List (Nat×V)},aQ1 n sz R s l→∀ k,lk l k=.top∨((lk s.env k=lk l k∧(lk l k).noPtr n=true)∨(∃ len cap,lk s.env k=.msl n sz 0 len cap∧len=R.length∧lk l k=.d (.sl sz R)))
 | [],_,k=>.inl rfl
 | (m,v)::l,h,k=>by
  simp only [lk];split
  ·rename_i e; subst e; exact .inr h.1
  ·exact bJ4 h.2 k
theorem bP4:∀ {l:List (Nat×List V)},aR5 n s l→∀ {k c},bget l k=some c→k≠n∧bget s.bx k=some c
 | [],_,k,c,h=>by simp [bget] at h
 | (m,v)::l,hl,k,c,h=>by
  simp only [bget] at h;split at h
  ·rename_i e; subst e; simp at h; subst h; exact ⟨hl.1,hl.2.1⟩
  ·exact bP4 hl.2.2 h
theorem cOw (R:List (List D)):V.asDs (eY R)=some R.flatten:=bIw _
theorem bZ6 {l:List α} {f:α→List D} (hsz:0<sz) (hl:∀ x,(f x).length=sz) (hb:bget s.bx n=some (eY (l.map f))) (he:aQ1 n sz (l.map f) s s'.env) (hbx:aR5 n s s'.bx):Wk s s':=by
 intro E N κ w a _ h;have g:=h.good;obtain ⟨cs,hh,hr,hbl,hS0,hE⟩:=g.plain hb (bFa _);have hrd:bV κ.S cs.toList (l.map f).flatten:=hr.asDs (cOw _);let κ':Ctx:=⟨upd κ.S (κ.m n) cs.toList,κ.mt,κ.o,κ.bl⟩
 have hSn:κ'.S (κ.m n)=cs.toList:=upd_same _ _ _;have hSo:∀ b,b≠κ.m n→κ'.S b=κ.S b:=fun b hb=>jD _ _ _ hb;have hle:κ.S.le κ'.S:=by
  intro b;by_cases e:b=κ.m n
  ·subst e; rw [hS0]; exact List.nil_prefix
  ·rw [hSo b e]; exact QA _
 have hmv:∀ {v:Value} {x:V},aY κ v x→aY κ' v x:=fun hr=>hr.move hle (V.fits_eq (κ:=κ) (κ':=κ') (fun _=>rfl) (fun _=>rfl) _);have hrows:∀ x∈l.map f,x.length=sz:=by
  intro x hx;obtain ⟨y,_,rfl⟩:=QG.1 hx;exact hl y
 refine ⟨κ',h.size,h.defers,fun k=>?_,?_⟩
 ·rcases bJ4 he k with e | ⟨e,_⟩ | ⟨len,cap,e1,e2,e3⟩
  ·rw [e]; exact .top _
  ·rw [← e]; exact hmv (h.env k)
  ·rw [e3];have hk:=h.env k;rw [e1] at hk;obtain ⟨hv,h1,h2⟩:=hk.toMsl;rw [hv,e2];rw [e2] at h1;refine .d (.sl (κ.m n) (0 * sz) _ cap sz (l.map f) cs.toList rfl h1 h2 ?_ ?_ hrows (hrd.mono hle))
   ·rw [hrd.length];have:=aP5 hl l;simp only [eY,QC] at this ⊢;exact this
   ·rw [hSn,Nat.zero_mul,List.drop_zero]; exact QA _
 ·refine g.patch (fun b=>b=κ.m n) (fun _=>False) (fun _=>False) rfl rfl rfl (QB _) (by rintro b rfl; exact hE) (fun b hb=>⟨rfl,hSo b hb⟩) (fun b _=>(g.frm.le b).trans (hle b)) (fun b _=>(g.tab b).trans (hle b))
   (by rintro b rfl _; exact ⟨cs,κ.ty n,(0,0),hh,by rw [hSn]; exact QA _⟩) (fun _ _=>rfl) (fun k c hc _=>?_) (fun _ _ _ h=>h.elim) (fun _ _ _ _ _ h=>h.elim) (fun t o ho _=>⟨ho,?_⟩) (fun _ _ _ h=>h.elim) (fun _ _ _ _ _ _ _ h=>h.elim)
  ·obtain ⟨hkn,hc0⟩:=bP4 hbx hc;exact ⟨c,hc0,rfl,rfl,Mv.fits hle (V.fitss_eq (κ:=κ) (κ':=κ') (fun _=>rfl) (fun _=>rfl) _),fun b hb' e=>hkn (g.inj k n b (by simp [hc0]) (by simp [hb]) hb' (by rw [hbl,e]; simp))⟩
  ·rintro b hb' rfl;exact ((g.own t o ho).2 _ hb').2 n (by simp [hb]) (by rw [hbl]; simp)
end
theorem Wk.trans {s'':St} (h1:Wk s s') (h2:Wk s' s''):Wk s s'':=fun E N κ w a hfb h=>by
 obtain ⟨κ',h'⟩:=h1 E N κ w a hfb h;exact h2 E N κ' w a hfb h'
theorem vX {α:Type} {P:Program} {Q:Exit→St→Prop} {l:List α} {f:α→List D} (hsz:0<sz) (hl:∀ x,(f x).length=sz) (hb:bget s.bx n=some (eY (l.map f))) (he:aQ1 n sz (l.map f) s s'.env) (hbx:aR5 n s s'.bx) (h:avc P .ret Q s'):avc P .ret Q s:=by
 obtain ⟨s2,hw,h2⟩:=h;exact ⟨s2,(bZ6 hsz hl hb he hbx).trans hw,h2⟩
theorem lms {α β:Type} (l:List α) (f:α→β):l.length=(l.map f).length:=by simp
theorem kZ {ρ:List (Nat×Tk)} {l:List (Nat×List V)} (h:bget s.bx n=some (eY R)) (ht:bxR ρ s l):bxR ρ s ((n,eY R)::l):=aQ3 h (bHo _) ht
end Go.Ab
