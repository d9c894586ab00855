/- Soundness of the value operations: the rest,and the theorem over all. -/
import Derived.Test.YtcbkkemcgcdhdaaGreatAb8
namespace Go.Ab
open Go Go.RowKit
open _root_.List renaming drop_drop→QA,flatten_cons→QC,mem_of_mem_drop→QD,take_prefix→QF,mem_of_mem_take→QG
open _root_.Nat renaming add_mul→QB,one_mul→QE,add_comm→QH,not_lt_zero→QI
section
variable {E:Entry} {N:Nat} {κ:Ctx} {w:World} {a:Act} {s:St} {P:Program} {C:V→Prop}
theorem aNj {v:Value} {x:V} {C:D→Prop} (h:aR κ v x) (hu:dK x C):∃ y,bR κ.S v y∧C y:=by
  unfold dK at hu
  split at hu
  · exact ⟨_,h.toD,hu⟩
  · exact hu.elim
theorem aR.toAgv {cs:Array Value} {l:List V} (h:aR κ (.agg cs) (.agv l)):aZ κ cs.toList l:=by
  cases h with | agv h=>simpa using h
theorem cGx {ti:TypeInfo} {t:TypeId} {n off:Nat} {agg:Bool} {l:List V} {cs:Array Value} (h:oV n agg (l.drop off) C) (hr:aZ κ cs.toList l)
    (hn:P.info? t=some ti) (hsz:ti.size=n) (hagg:(isAgg t).run P w=.ok agg w):∃ v x,(part t cs off).run P w=.ok v w∧aR κ v x∧C x:=by
  cases agg with
  | true =>
    obtain ⟨hl,hC⟩:=h
    refine ⟨_,_,?_,bI6 ((hr.drop off).take n),hC⟩
    simp only [part,Sem.run_bind,hagg,Result.andThen_ok,if_true,sizeOf,typeInfo,run_program,hn,Sem.run_pure,hsz]
    congr 2
    apply Array.ext'
    simp [List.take_drop]
  | false =>
    obtain ⟨x,hx,hC⟩:=h
    have hx':l[off]?=some x:=by
      rw [List.head?_drop] at hx; exact hx
    obtain ⟨v,hv,hr'⟩:=hr.get hx'
    refine ⟨v,_,?_,hr',hC⟩
    simp only [Array.getElem?_toList] at hv
    simp [part,hagg,hv]
theorem bTj {T:TypeId} {x:Operand} {y:AO} {i:Nat} {fs:Array Field} {f:Field} {ti:TypeInfo} {g:Bool} (hx:trO P T x=some y) (hT:P.underlying T=some (.struct fs)) (hf:fs[i]?=some f) (hti:P.info? f.type=some ti)
    (hg:X0 P f.type=some g) (he:∀ n,aR κ (a.tmps.getD n undef) (lk s.env n))
    (hv:use (ev s y) fun x=>match x with | .agg l=>mU ti.size g (l.drop f.offset) C | .agv l=>oV ti.size g (l.drop f.offset) C | _=>False):Yields P κ w (do pure (.value (← Instr.field T (a.eval x) i))) C:=by
  obtain ⟨p,hp,h1⟩:=opd hx he hv
  split at h1
  · obtain ⟨cs,hex,hr⟩:=hp.toAgg
    obtain ⟨v,z,h2,h3,h4⟩:=bPl h1 hr hti rfl (aNg hg w)
    refine yv ?_ h3 h4
    rw [hex]
    simp [Instr.field,fJ hT,hf,asAgg,h2]
  · cases hex:a.eval x with
    | agg cs =>
      rw [hex] at hp
      obtain ⟨v,z,h2,h3,h4⟩:=cGx h1 hp.toAgv hti rfl (aNg hg w)
      refine yv ?_ h3 h4
      simp [Instr.field,fJ hT,hf,asAgg,h2]
    | _=>rw [hex] at hp; cases hp
  · exact h1.elim
theorem uI (b off n:Nat):(⟨b,off,none⟩:Addr).add n=⟨b,off+n,none⟩:=by
  unfold Addr.add; split <;> simp_all
theorem cI4 {T:TypeId} {x:Operand} {y:AO} {i:Nat} {fs:Array Field} {f:Field} {ti:TypeInfo} (hx:trO P T x=some y) (hT:P.underlying T=some (.struct fs)) (hf:fs[i]?=some f) (hti:P.info? f.type=some ti)
    (hsz:ti.size≠0) (he:∀ n,aR κ (a.tmps.getD n undef) (lk s.env n))
    (hv:use (ev s y) fun x=>match x with | .ptr b o=>C (.ptr b (o+f.offset)) | .trp b sz i o=>C (.trp b sz i (o+f.offset)) | .rp l=>C (.rp (l.drop f.offset)) | _=>False):Yields P κ w (do pure (.value (← Instr.fieldAt T (a.eval x) i))) C:=by
  obtain ⟨p,hp,h1⟩:=opd hx he hv
  have run:∀ b o,a.eval x=.pointer (some ⟨b,o,none⟩)→(Instr.fieldAt T (a.eval x) i).run P w=.ok (.pointer (some ⟨b,o+f.offset,none⟩)) w:=by
    intro b o h
    rw [h]
    simp [Instr.fieldAt,fJ hT,hf,Instr.sureAddr,fieldPlace,lU hti,hsz,uI]
  split at h1
  · exact yv (run _ _ hp.toPtr) (.ptr _ _) h1
  · rename_i b sz i o
    have hex:a.eval x=.pointer (some ⟨κ.m b,i * sz+o,none⟩):=by
      generalize a.eval x=v at hp
      cases hp; rfl
    have e:=aR.trp (κ:=κ) b sz i (o+f.offset)
    rw [← Nat.add_assoc] at e
    exact yv (run _ _ hex) e h1
  · obtain ⟨b,o,vs,h2,h3,h4⟩:=hp.toRp
    refine yv (run _ _ h2) (.rp (vs:=vs.drop f.offset) ?_ (h4.drop _)) h1
    rw [← QA]; exact aC0 h3 _
  · exact h1.elim
theorem bC2 {sz:Nat} {l:List (List D)} (h:∀ e∈l,e.length=sz) {i:Nat} {e:List D} (he:l[i]?=some e):∃ rest,(l.flatten.drop (i * sz))=e++rest:=by
  induction l generalizing i with
  | nil=>simp at he
  | cons x l ih =>
    cases i with
    | zero=>simp at he; subst he; exact ⟨l.flatten,by simp⟩
    | succ i =>
      obtain ⟨rest,hr⟩:=ih (fun e he=>h e (by simp [he])) (by simpa using he)
      refine ⟨rest,?_⟩
      rw [QC,QB,QE,QH,← QA]
      rw [show (x++l.flatten).drop sz=l.flatten by rw [← h x (by simp)]; simp]
      exact hr
theorem bP.row {S:Mem} {sz:Nat} {l:List (List D)} {vs:List Value} (h:bP S vs l.flatten) (hz:∀ e∈l,e.length=sz) {i:Nat} {ds:List D} (hi:l[i]?=some ds):bP S ((vs.drop (i * sz)).take sz) ds:=by
  obtain ⟨rest,hr⟩:=bC2 hz hi
  have h2:=(h.drop (i * sz)).take sz
  rw [hr] at h2
  have hl:ds.length=sz:=hz ds (List.mem_of_getElem? hi)
  rwa [List.take_left' hl] at h2
theorem cKi {T e:TypeId} {x i:Operand} {y j:AO} {ti:TypeInfo} (hx:trO P T x=some y) (hi:trO P 3 i=some j) (hT:P.underlying T=some (.slice e)) (hti:P.info? e=some ti) (he:∀ n,aR κ (a.tmps.getD n undef) (lk s.env n)) {E:Entry} (hG:Good E κ w s.bx)
    (hv:use (ev s y) fun x=>use (ev s j) fun i=>match x with
      | .tre n=>iaO s n ti.size i C
      | x=>iaK ti.size x i C):Yields P κ w (do pure (.value (← Instr.indexAt T (a.eval x) (a.eval i)))) C:=by
  obtain ⟨p,hp,h1⟩:=opd hx he hv
  obtain ⟨q,hq,h2⟩:=opd hi he h1
  split at h2
  · rename_i n
    obtain ⟨k,m,hm,_,_,h0,hbb,hC⟩:=E5 hq h2
    rcases hbb with ⟨l,c,hb⟩ | ⟨l,hb,hil⟩ | ⟨l,hb,hil⟩
    case inr.inr =>
      obtain ⟨_,v0,T0,hmt,h3⟩:=(hG.box n _ hb).toClosed
      generalize κ.bl n=B at h3
      cases h3 with
      | nil=>exact absurd hil (QI _)
      | sl b len cap _ _ B cs T _ _ hlen _ _ _ _ =>
        subst hlen
        have hex:a.eval x=.slice (some ⟨b,0,none⟩) l.length cap:=by
          generalize a.eval x=v at hp
          cases hp with | tre h=>rw [← h]; show (κ.mt n).2.2=_; rw [hmt]; rfl
        have r:=aR.trp (κ:=κ) n ti.size m.toNat 0
        rw [show κ.m n=b by show (κ.mt n).1=b; rw [hmt]; rfl] at r
        refine yv (v:=.pointer (some ⟨b,m.toNat * ti.size,none⟩)) ?_ (by simpa using r) hC
        rw [hex,hm]
        simp [Instr.indexAt,asIntOf,fJ hT,h0,show m<(l.length:Int) by omega,lU hti,uI]
    case inr.inl =>
      obtain ⟨_,v0,T0,hmt,h3⟩:=(hG.box n _ hb).toShallow
      generalize κ.bl n=B at h3
      cases h3 with
      | nil e=>subst e; exact absurd hil (QI _)
      | sl b cap cs T _ _ _ _ _ _ =>
        have hex:a.eval x=.slice (some ⟨b,0,none⟩) l.length cap:=by
          generalize a.eval x=v at hp
          cases hp with | tre h=>rw [← h]; show (κ.mt n).2.2=_; rw [hmt]; rfl
        have r:=aR.trp (κ:=κ) n ti.size m.toNat 0
        rw [show κ.m n=b by show (κ.mt n).1=b; rw [hmt]; rfl] at r
        refine yv (v:=.pointer (some ⟨b,m.toNat * ti.size,none⟩)) ?_ (by simpa using r) hC
        rw [hex,hm]
        simp [Instr.indexAt,asIntOf,fJ hT,h0,show m<(l.length:Int) by omega,lU hti,uI]
    obtain ⟨b,cap,B,C',cs,T0,T',hmt,hh,_,_,_,_,hil,_⟩:=(hG.box n _ hb).toOpened
    have hex:a.eval x=.slice (some ⟨b,0,none⟩) l.length cap:=by
      generalize a.eval x=v at hp
      cases hp with | tre h=>rw [← h]; show (κ.mt n).2.2=_; rw [hmt]
    have r:=aR.trp (κ:=κ) n ti.size m.toNat 0
    rw [show κ.m n=b from congrArg Prod.fst hmt] at r
    refine yv (v:=.pointer (some ⟨b,m.toNat * ti.size,none⟩)) ?_ (by simpa using r) hC
    rw [hex,hm]
    simp [Instr.indexAt,asIntOf,fJ hT,h0,show m<(l.length:Int) by omega,lU hti,uI]
  rename_i hne
  clear hne
  unfold iaK at h2
  split at h2
  · rename_i b sz' o len cap
    obtain ⟨k,n,hn,_,_,rfl,h0,hlt,hC⟩:=E5 hq h2
    obtain ⟨hv,_,_⟩:=hp.toMsl
    refine yv (v:=.pointer (some ⟨κ.m b,(o+n.toNat) * ti.size,none⟩)) ?_ (.ptr _ _) hC
    rw [hv,hn]
    have e:o * ti.size+n.toNat * ti.size=(o+n.toNat) * ti.size:=(QB _ _ _).symm
    simp [Instr.indexAt,asIntOf,fJ hT,h0,show n<(len:Int) by omega,lU hti,uI,e]
  obtain ⟨sz,l,hr,h3⟩:=aGy hp h2
  obtain ⟨k,n,hn,_,_,rfl,h0,el,hel,hC⟩:=E5 hq h3
  have hlt:n.toNat<l.length:=(List.getElem?_eq_some_iff.1 hel).1
  rcases hr.slice with ⟨_,rfl⟩ | ⟨_,_,_,rfl,_⟩ | ⟨b,off,cap,vs,hv,h4,h5,h6,h7,h8,h9⟩
  · simp at hlt
  · simp at hlt
  · obtain ⟨rest,hrest⟩:=bC2 h8 hel
    refine yv (v:=.pointer (some ⟨b,off+n.toNat * ti.size,none⟩)) ?_ (.rp (vs:=(vs.drop (n.toNat * ti.size)).take el.length) ?_ ?_) hC
    · rw [hv,hn]
      simp [Instr.indexAt,asIntOf,fJ hT,h0,show n<(l.length:Int) by omega,lU hti,uI]
    · refine (QF _ _).trans ?_
      rw [← QA]; exact aC0 h7 _
    · have:=(h9.drop (n.toNat * ti.size)).take el.length
      rw [hrest] at this
      simpa using this
theorem bXy {T:TypeId} {x i:Operand} {y j:AO} (hx:trO P T x=some y) (hi:trO P 3 i=some j) (hT:P.underlying T=some .string) (he:∀ n,aR κ (a.tmps.getD n undef) (lk s.env n))
    (hv:use (ev s y) fun x=>use (ev s j) fun i=>sK x fun b=>iK i fun n=>0≤n∧∃ u,b[n.toNat]?=some u∧C (.d (.i .u8 u.toNat))):Yields P κ w (do pure (.value (← Instr.index T (a.eval x) (a.eval i)))) C:=by
  obtain ⟨p,hp,h1⟩:=opd hx he hv
  obtain ⟨q,hq,h2⟩:=opd hi he h1
  obtain ⟨b,hb,_,h3⟩:=aRz hp h2
  obtain ⟨k,n,hn,_,_,h0,u,hu,hC⟩:=E5 hq h3
  refine yv ?_ (.d (bR.int .u8 (aM1 u))) hC
  rw [hb,hn]
  simp [Instr.index,asIntOf,fJ hT,h0,hu]
theorem wQ {T:TypeId} {x:Option Operand} {y:Option AO} (h:tN P T x=some y):(x=none∧y=none)∨∃ o z,x=some o∧y=some z∧trO P T o=some z:=by
  cases x with
  | none=>simp [tN] at h; exact .inl ⟨rfl,h.symm⟩
  | some o=>simp only [tN,Option.map_eq_some_iff] at h; obtain ⟨z,h1,h2⟩:=h; exact .inr ⟨o,z,rfl,h2.symm,h1⟩
theorem H6 {k:IntKind} {n:Int} {y:Nat} {code:BoundsCode} (h0:0≤n) (h1:n≤y) (w:World):(Instr.sliceBound (.int k n) y code).run P w=.ok n.toNat w:=by
  simp [Instr.sliceBound,asIntOf,h0,h1]
def Bd (a:Act) (x:Option Operand) (dflt n:Int):Prop:=(x=none∧n=dflt)∨∃ o k,x=some o∧a.eval o=.int k n
theorem aDy {isSlice:Bool} {len cap:Nat} {lo hi mx:Option Operand} {l h m:Int} (hl:Bd a lo 0 l) (hh:Bd a hi len h) (hm:Bd a mx cap m) (hmx:mx=none∨hi.isSome=true)
    (h0:0≤l) (h1:l≤h) (h2:h≤m) (h3:m≤cap) (w:World) :
    (Instr.sliceBounds isSlice len cap (lo.map a.eval) (hi.map a.eval) (mx.map a.eval)).run P w=.ok (l.toNat,h.toNat,m.toNat) w:=by
  have e2:0≤h:=by omega
  have e3:0≤m:=by omega
  have eh:((m.toNat:Nat):Int)=m:=by omega
  have el:((h.toNat:Nat):Int)=h:=by omega
  unfold Instr.sliceBounds
  rcases hm with ⟨rfl,rfl⟩ | ⟨om,km,rfl,em⟩
  · rcases hh with ⟨rfl,rfl⟩ | ⟨oh,kh,rfl,eh'⟩
    · rcases hl with ⟨rfl,rfl⟩ | ⟨ol,kl,rfl,el'⟩
      · simp
      · simp [el',H6 h0 (show l≤(len:Int) from h1)]
    · rcases hl with ⟨rfl,rfl⟩ | ⟨ol,kl,rfl,el'⟩
      · cases isSlice <;> simp [eh',H6 e2 (show h≤(cap:Int) from h2)]
      · cases isSlice <;> simp [eh',el',H6 e2 (show h≤(cap:Int) from h2),H6 (y:=h.toNat) h0 (by omega)]
  · rcases hh with ⟨rfl,rfl⟩ | ⟨oh,kh,rfl,eh'⟩
    · simp at hmx
    · rcases hl with ⟨rfl,rfl⟩ | ⟨ol,kl,rfl,el'⟩
      · cases isSlice <;> simp [em,eh',H6 e3 h3,H6 (y:=m.toNat) e2 (by omega)]
      · cases isSlice <;> simp [em,eh',el',H6 e3 h3,H6 (y:=m.toNat) e2 (by omega),H6 (y:=h.toNat) h0 (by omega)]
theorem bSg {T:TypeId} {x:Operand} {lo hi:Option Operand} {y:AO} {l h:Option AO} (hT:P.underlying T=some .string) (hx:trO P T x=some y) (hlo:tN P 3 lo=some l) (hhi:tN P 3 hi=some h) (he:∀ n,aR κ (a.tmps.getD n undef) (lk s.env n))
    (hv:use (ev s y) fun x=>sK x fun b=>lK s h b.size fun h=>lK s l 0 fun l=>0≤l∧l≤h∧h≤b.size∧C (.d (.s (b.extract l.toNat h.toNat)))) :
    Yields P κ w (do pure (.value (← Instr.sliceAt T (a.eval x) (lo.map a.eval) (hi.map a.eval) ((none:Option Operand).map a.eval)))) C:=by
  obtain ⟨p,hp,h1⟩:=opd hx he hv
  obtain ⟨b,hb,hbs,h2⟩:=aRz hp h1
  obtain ⟨hn,h3,bh⟩:=aFi (wQ hhi) he h2
  obtain ⟨ln,⟨h4,h5,h6,hC⟩,bl⟩:=aFi (wQ hlo) he h3
  refine yv ?_ (.d (.s _ ?_)) hC
  · have:=aDy (P:=P) (isSlice:=false) (mx:=none) (m:=b.size) bl bh (.inl ⟨rfl,rfl⟩) (.inl rfl) h4 h5 h6 (by omega) w
    rw [hb]
    simp only [Option.map_none] at this ⊢
    simp [Instr.sliceAt,Instr.slice,fJ hT,this]
  · rw [ByteArray.size_extract]; omega
theorem bHi {sz:Nat} {l:List (List D)} (h:∀ e∈l,e.length=sz) (n:Nat):l.flatten.drop (n * sz)=(l.drop n).flatten∧l.flatten.take (n * sz)=(l.take n).flatten:=by
  induction n generalizing l with
  | zero=>simp
  | succ n ih =>
    cases l with
    | nil=>simp
    | cons x l =>
      obtain ⟨h1,h2⟩:=ih (l:=l) (fun e he=>h e (List.mem_cons_of_mem _ he))
      have hx:x.length=sz:=h x (by simp)
      constructor
      · rw [QC,QB,QE,QH,← QA,show (x++l.flatten).drop sz=l.flatten by rw [← hx]; simp,h1]; simp
      · rw [QC,QB,QE,List.take_append,List.take_of_length_le (by omega),show n * sz+sz - x.length=n * sz by omega,h2]; simp
theorem cC1 {T e:TypeId} {ti:TypeInfo} {x:Operand} {lo hi mx:Option Operand} {y:AO} {l h m:Option AO} (hT:P.underlying T=some (.slice e)) (hti:P.info? e=some ti) (hx:trO P T x=some y) (hlo:tN P 3 lo=some l) (hhi:tN P 3 hi=some h) (hmx:tN P 3 mx=some m)
    (he:∀ n,aR κ (a.tmps.getD n undef) (lk s.env n))
    (hv:use (ev s y) fun x=>slK x fun sz' q=>lK s h q.length fun h'=>lK s m q.length fun m'=>lK s l 0 fun lo =>
      sz'=ti.size∧(m=none∨h.isSome=true)∧0≤lo∧lo≤h'∧h'≤m'∧m'≤q.length∧C (.d (.sl ti.size ((q.take h'.toNat).drop lo.toNat)))) :
    Yields P κ w (do pure (.value (← Instr.sliceAt T (a.eval x) (lo.map a.eval) (hi.map a.eval) (mx.map a.eval)))) C:=by
  obtain ⟨p,hp,h1⟩:=opd hx he hv
  obtain ⟨sz,q,hr,h2⟩:=aGy hp h1
  obtain ⟨hn,h3,bh⟩:=aFi (wQ hhi) he h2
  obtain ⟨mn,h4,bm⟩:=aFi (wQ hmx) he h3
  obtain ⟨ln,⟨rfl,h5,h6,h7,h8,h9,hC⟩,bl⟩:=aFi (wQ hlo) he h4
  have hmx':mx=none∨hi.isSome=true:=by
    rcases wQ hmx with ⟨rfl,rfl⟩ | ⟨o,z,rfl,rfl,_⟩
    · exact .inl rfl
    · rcases wQ hhi with ⟨rfl,rfl⟩ | ⟨o,z,rfl,rfl,_⟩
      · simp at h5
      · exact .inr rfl
  rcases hr.slice with ⟨hv,rfl⟩ | ⟨aa,cap,hv,rfl,hcm⟩ | ⟨b,off,cap,vs,hv,i1,i2,i3,i4,i5,i6⟩
  rotate_left
  · have hz:ln=0∧hn=0∧mn=0:=by simp at h9; omega
    obtain ⟨rfl,rfl,rfl⟩:=hz
    have hmc:∃ mc:Int,Bd a mx cap mc∧0≤mc∧mc≤cap:=by
      rcases bm with ⟨rfl,_⟩ | ⟨o,k,rfl,ho⟩
      · exact ⟨cap,.inl ⟨rfl,rfl⟩,by omega,by omega⟩
      · exact ⟨0,.inr ⟨o,k,rfl,ho⟩,by omega,by omega⟩
    obtain ⟨mc,bmc,h10,h11⟩:=hmc
    have:=aDy (P:=P) (isSlice:=true) (len:=0) (cap:=cap) bl bh bmc hmx' h6 h7 h10 h11 w
    refine yv (v:=.slice (some aa) 0 mc.toNat) ?_ (.d ?_) hC
    · rw [hv]
      simp [Instr.sliceAt,Instr.slice,fJ hT,this,lU hti,Addr.add]
    · simp; exact .emp _ _ _ (by simp only [maxLen] at hcm ⊢; omega)
  rotate_left
  · have hz:ln=0∧hn=0∧mn=0:=by simp at h9; omega
    obtain ⟨rfl,rfl,rfl⟩:=hz
    have:=aDy (P:=P) (isSlice:=true) (len:=0) (cap:=0) bl bh bm hmx' h6 h7 h8 (by simp) w
    refine yv (v:=.slice none 0 0) ?_ (.d ?_) hC
    · rw [hv]
      simp [Instr.sliceAt,Instr.slice,fJ hT,this,lU hti]
    · simp; exact .nil _
  · -- the capacity: where no third index is given it is the slice's own
    have hmc:∃ mc:Int,Bd a mx cap mc∧hn≤mc∧mc≤cap:=by
      rcases bm with ⟨rfl,rfl⟩ | ⟨o,k,rfl,ho⟩
      · exact ⟨cap,.inl ⟨rfl,rfl⟩,by omega,by omega⟩
      · exact ⟨mn,.inr ⟨o,k,rfl,ho⟩,h8,by omega⟩
    obtain ⟨mc,bmc,h10,h11⟩:=hmc
    have:=aDy (P:=P) (isSlice:=true) (len:=q.length) (cap:=cap) bl bh bmc hmx' h6 h7 h10 h11 w
    have hlq:hn.toNat≤q.length:=by omega
    have hsub:(vs.drop (ln.toNat * ti.size)).take ((hn.toNat - ln.toNat) * ti.size) <+: (κ.S b).drop (off+ln.toNat * ti.size):=by
      refine (QF _ _).trans ?_
      rw [← QA]; exact aC0 i4 _
    have hrep:bP κ.S ((vs.drop (ln.toNat * ti.size)).take ((hn.toNat - ln.toNat) * ti.size)) ((q.take hn.toNat).drop ln.toNat).flatten:=by
      have h12:=(i6.drop (ln.toNat * ti.size)).take ((hn.toNat - ln.toNat) * ti.size)
      rw [(bHi i5 _).1,(bHi (fun e he=>i5 e (QD he)) _).2] at h12
      rw [List.drop_take]
      exact h12
    have hlen:((q.take hn.toNat).drop ln.toNat).length=hn.toNat - ln.toNat:=by simp; omega
    have hRD:∀ bb oo,(κ.S bb).drop oo=(κ.S b).drop (off+ln.toNat * ti.size)∨hn.toNat - ln.toNat=0→bR κ.S (.slice (some ⟨bb,oo,none⟩) (hn.toNat - ln.toNat) (mc.toNat - ln.toNat)) (.sl ti.size ((q.take hn.toNat).drop ln.toNat)):=by
      intro bb oo hbo
      refine .sl bb oo _ _ ti.size _ ((vs.drop (ln.toNat * ti.size)).take ((hn.toNat - ln.toNat) * ti.size)) hlen.symm (by omega) (by simp only [maxLen] at i2 ⊢; omega) ?_ ?_ (fun e he=>i5 e (QG (QD he))) hrep
      · rw [hrep.length]
        have:∀ (l:List (List D)),(∀ e∈l,e.length=ti.size)→l.flatten.length=l.length * ti.size:=by
          intro l hl
          induction l with
          | nil=>simp
          | cons x l ih=>simp [QB,hl x (by simp),ih (fun e he=>hl e (by simp [he]))]; omega
        rw [this _ (fun e he=>i5 e (QG (QD he))),hlen]
      · rcases hbo with h | h
        · rw [h]; exact hsub
        · rw [h,Nat.zero_mul,List.take_zero]; exact List.nil_prefix
    by_cases hml:mc.toNat=ln.toNat
    · refine yv (v:=.slice (some ⟨b,off,none⟩) (hn.toNat - ln.toNat) (mc.toNat - ln.toNat)) ?_ (.d (hRD b off (.inr (by omega)))) hC
      rw [hv]
      simp [Instr.sliceAt,Instr.slice,fJ hT,this,lU hti,hml]
    · refine yv (v:=.slice (some ⟨b,off+ln.toNat * ti.size,none⟩) (hn.toNat - ln.toNat) (mc.toNat - ln.toNat)) ?_ (.d (hRD b _ (.inl rfl))) hC
      rw [hv]
      simp [Instr.sliceAt,Instr.slice,fJ hT,this,lU hti,hml,uI]
end
end Go.Ab
