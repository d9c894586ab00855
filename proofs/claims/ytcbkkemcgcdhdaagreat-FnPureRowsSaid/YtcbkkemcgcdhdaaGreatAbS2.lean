/- Steps of a proof that code computes a given function: one lemma for each kind of operation that needs more than computing; weakening of states; calls. -/
import Derived.Test.YtcbkkemcgcdhdaaGreatAbS1
import Derived.Test.YtcbkkemcgcdhdaaGreatAbF0
namespace Go.Ab
open Go Go.RowKit
open _root_.Bool renaming and_eq_true→QA,false_eq_true→QC,not_eq_true'→QD
open _root_.Option renaming some.injEq→QB
open _root_.List renaming map_congr_left→QE,contains_eq_mem→QF
def slV:V→Option (Nat×List (List D))
  | .d (.sl sz l)=>some (sz,l)
  | .osl _ _ sz l=>some (sz,l)
  | .nil sz=>some (sz,[])
  | _=>none
theorem aEa {x:V} {sz:Nat} {l:List (List D)} {C:Nat→List (List D)→Prop} (h:slV x=some (sz,l)) (hC:C sz l):slK x C:=by
  unfold slV at h
  split at h <;> simp at h <;> obtain ⟨rfl,rfl⟩:=h <;> exact hC
def srV:V→Option (Nat×List (List D))
  | .d (.s b)=>some (1,(b.data.toList.map fun u=>(u.toNat:Int)).map fun n=>[D.i .u8 n])
  | x=>slV x
theorem aK8 {x:V} {sz:Nat} {l:List (List D)} {C:Nat→List (List D)→Prop} (h:srV x=some (sz,l)) (hC:C sz l):srK x C:=by
  have sl:slV x=some (sz,l)→slK x C:=fun h=>aEa h hC
  cases x with
  | d y =>
    cases y with
    | s b =>
      simp only [srV,QB,Prod.mk.injEq] at h
      obtain ⟨rfl,rfl⟩:=h
      exact hC
    | _=>exact sl h
  | _=>exact sl h
def conds (s:St):List AO→List Bool
  | []=>[]
  | x::l=>(ev s x).cond++conds s l
theorem cJu {b:List UInt8} {n:Nat} {u:UInt8} (h:b[n]?=some u):(bs b)[n]?=some u:=by
  obtain ⟨hl,rfl⟩:=List.getElem?_eq_some_iff.1 h
  have:n<(bs b).size:=hl
  rw [getElem?_pos (bs b) n this]
  rfl
theorem qR {p b:Bool} (h:p=true) (hb:b=true):(p&&(b==true))=true:=by rw [h,hb]; rfl
theorem tY {p b:Bool} (h:p=true) (hb:b=false):(p&&(b==false))=true:=by rw [h,hb]; rfl
theorem dU {c:Bool} {l:List Bool} (h:c=true) (ht:l.all id=true):(c::l).all id=true:=by simp [h] at ht ⊢; exact ht
section vops
variable {s:St} {α:Type} {d sz:Nat} {xo yo io:AO} {k:IntKind}
theorem cD0 {x i:V} {n:Nat} {l:List (List D)} {C:V→Prop} (h:slV x=some (n,l)) (k:iK i fun m=>n=sz∧0≤m∧∃ e,l[m.toNat]?=some e∧C (.rp e)):iaK sz x i C:=by
  have this:slK x fun sz' l=>iK i fun m=>sz'=sz∧0≤m∧∃ e,l[m.toNat]?=some e∧C (.rp e):=aEa h k
  cases x <;> first | exact this | (simp [slV] at h; done)
theorem bQz {s:St} (x i:V) (n:Nat) (l:List (List D)) (C:V→Prop):slV x=some (n,l)→(iK i fun m=>n=sz∧0≤m∧∃ e,l[m.toNat]?=some e∧C (.rp e))→(match x with | .tre n=>iaO s n sz i C | x=>iaK sz x i C):=by
  intro h k
  split
  · simp [slV] at h
  · exact cD0 h k
theorem bSx {x:V} {n:Nat} {l:List (List D)} {C:V→Prop} (h:slV x=some (n,l)) (k:C (.d (.i .i64 l.length))):O5 x C:=by
  have this:slK x fun _ l=>C (.d (.i .i64 l.length)):=aEa h k
  cases x <;> first | exact this | (simp [slV] at h; done)
theorem xI {l:List α} {f g:α→List D} {i:Int} {x:α} (hx:idx l i=some x) (hfg:∀ x,f x=g x) (hn:(conds s [xo,io]).all id=true) (h1:slV (ev s xo).str=some (sz,l.map f)) (h2:(ev s io).str=.d (.i k i)) :
    vop s (fun v=>v=.rp (g x)) (.ia d sz xo io):=by
  simp only [vop]
  refine fH (jL hn) (fH (jL (sF hn)) (bQz _ _ _ _ (fun v=>v=.rp (g x)) h1 ?_))
  rw [h2]
  unfold idx at hx
  split at hx
  · rename_i h0
    refine ⟨rfl,h0,f x,?_,by rw [hfg]⟩
    rw [List.getElem?_map,hx]; rfl
  · simp at hx
theorem bMm {b:List UInt8} {i n:Int} (hx:aG5 b i=some n) (hn:(conds s [xo,io]).all id=true) (h1:(ev s xo).str=.d (.s (bs b))) (h2:(ev s io).str=.d (.i k i)) :
    vop s (fun v=>v=.d (.i .u8 n)) (.ix d xo io):=by
  simp only [vop]
  refine fH (jL hn) (fH (jL (sF hn)) ?_)
  rw [h1,h2]
  unfold aG5 at hx
  split at hx
  · rename_i h0
    obtain ⟨u,hu,rfl⟩:=Option.map_eq_some_iff.1 hx
    refine ⟨h0,u,?_,rfl⟩
    exact cJu hu
  · simp at hx
theorem bRa (x:V) (n:Nat) (l:List (List D)) (C:V→Prop):slV x=some (n,l)→C (.d (.i .i64 l.length))→(match x with | .tre n=>trL s n fun l=>C (.d (.i .i64 l.length)) | x=>O5 x C):=by
  intro h k
  split
  · simp [slV] at h
  · exact bSx h k
theorem aAf {l:List α} {f:α→List D} (hn:(conds s [xo]).all id=true) (h1:slV (ev s xo).str=some (sz,l.map f)):vop s (fun v=>v=.d (.i .i64 l.length)) (.len d xo):=by
  simp only [vop]
  exact fH (jL hn) (bRa _ _ _ (fun v=>v=.d (.i .i64 l.length)) h1 (by simp))
def aFh (s:St):Option AO→Int→Int→Prop
  | none,dflt,n=>n=dflt
  | some x,_,n=>(ev s x).cond.all id=true∧∃ k,(ev s x).str=.d (.i k n)
theorem aOu {x:Option AO} {dflt n:Int} {C:Int→Prop} (h:aFh s x dflt n) (hC:C n):lK s x dflt C:=by
  cases x with
  | none=>simp only [aFh] at h; subst h; exact hC
  | some y =>
    obtain ⟨h1,k,h2⟩:=h
    simp only [lK]
    refine fH h1 ?_
    rw [h2]; exact hC
theorem J5 {l m:List α} {f:α→List D} {lo hi:Int} {lo' hi':Option AO} (hm:iR l lo hi=some m) (hn:(conds s [xo]).all id=true) (h1:slV (ev s xo).str=some (sz,l.map f)) (h2:aFh s hi' l.length hi) (h3:aFh s lo' 0 lo) :
    vop s (fun v=>v=.d (.sl sz (m.map f))) (.slc d sz xo lo' hi' none):=by
  unfold iR at hm
  split at hm
  · rename_i h0
    simp at hm; subst hm
    simp only [vop]
    refine fH (jL hn) (aEa h1 (aOu (n:=hi) (by simpa using h2) (aOu (x:=none) (n:=l.length) (by simp [aFh]) (aOu h3 ?_))))
    refine ⟨rfl,.inl trivial,h0.1,h0.2.1,h0.2.2,by simp,?_⟩
    rw [List.map_drop,List.map_take]
  · simp at hm
theorem yJ {a b m:List UInt8} (hm:pW a b=some m) (hn:(conds s [xo,yo]).all id=true) (h1:(ev s xo).str=.d (.s (bs a))) (h2:(ev s yo).str=.d (.s (bs b))):vop s (fun v=>v=.d (.s (bs m))) (.bin d .add xo yo):=by
  unfold pW at hm
  split at hm
  · rename_i h0
    simp at hm; subst hm
    simp only [vop]
    refine fH (jL hn) (fH (jL (sF hn)) ?_)
    rw [h1,h2]
    refine ⟨h0,?_⟩
    have e:bs a++bs b=bs (a++b):=by
      apply ByteArray.ext
      simp [bs,ByteArray.data_append]
    rw [e]
  · simp at hm
theorem bP0 {co:AO} {b p u q v:Bool} (hn:(conds s [co]).all id=true) (hc:(ev s co).str=.d (.b b)) (hx:iW (ev s xo)=some (p,u)) (hy:iW (ev s yo)=some (q,v)) (hp:b=true→p=true) (hq:b=false→q=true) :
    vop s (fun w=>w=.d (.b (if b=true then u else v))) (.pick d co xo yo):=by
  simp only [vop]
  refine fH (jL hn) ?_
  rw [hc]
  exact xV (C:=fun p' u'=>bK (ev s yo) fun q v'=>(b=true→p'=true)∧(b=false→q=true)∧V.d (.b (if b=true then u' else v'))=V.d (.b (if b=true then u else v))) hx (xV (C:=fun q v'=>(b=true→p=true)∧(b=false→q=true)∧V.d (.b (if b=true then u else v'))=V.d (.b (if b=true then u else v))) hy ⟨hp,hq,rfl⟩)
theorem jP {co:AO} {b p u q v y:Bool} (hm:some (if b=true then u else v)=some y) (hn:(conds s [co]).all id=true) (hc:(ev s co).str=.d (.b b)) (hx:iW (ev s xo)=some (p,u)) (hy:iW (ev s yo)=some (q,v)) (hp:b=true→p=true) (hq:b=false→q=true) :
    vop s (fun w=>w=.d (.b y)) (.pick d co xo yo):=by
  cases hm
  exact bP0 hn hc hx hy hp hq
theorem bAz {o:AOp} {r:V} (hn:(needs s o).all id=true) (h:nD s o=some r):vop s (fun v=>v=r) o:=aEr (C:=fun v=>v=r) hn h rfl
theorem aS7 {a b n:Int} (hm:xZ k a b=some n) (hn:(conds s [xo,yo]).all id=true) (h1:(ev s xo).str=.d (.i k a)) (h2:(ev s yo).str=.d (.i k b)):vop s (fun v=>v=.d (.i k n)) (.bin d .quo xo yo):=by
  unfold xZ at hm
  split at hm
  · simp at hm
  · rename_i h0
    simp at hm; subst hm
    simp only [vop]
    refine fH (jL hn) (fH (jL (sF hn)) ?_)
    rw [h1,h2]
    exact ⟨.inl rfl,h0,rfl⟩
theorem aP8 {a b n:Int} (hm:yE a b=some n) (hn:(conds s [xo,yo]).all id=true) (h1:(ev s xo).str=.d (.i k a)) (h2:(ev s yo).str=.d (.i k b)):vop s (fun v=>v=.d (.i k n)) (.bin d .rem xo yo):=by
  unfold yE at hm
  split at hm
  · simp at hm
  · rename_i h0
    simp at hm; subst hm
    simp only [vop]
    refine fH (jL hn) (fH (jL (sF hn)) ?_)
    rw [h1,h2]
    exact ⟨.inl rfl,h0,rfl⟩
theorem aTt {l:List Int} {m:List UInt8} (hm:ofBytes l=some m) (hn:(conds s [xo]).all id=true) (h1:slV (ev s xo).str=some (1,l.map fun n=>[D.i .u8 n])):vop s (fun v=>v=.d (.s (bs m))) (.cbs d xo):=by
  unfold ofBytes at hm
  split at hm
  · rename_i h0
    simp at hm; subst hm
    simp only [vop]
    refine fH (jL hn) (aEa h1 ⟨rfl,_,?_,rfl⟩)
    rw [List.map_map]
    refine QE fun n hn=>?_
    have:=List.all_eq_true.1 h0 n hn
    simp at this
    simp [Function.comp]
    omega
  · simp at hm
end vops
theorem aTm {P:Program} {s:St} {K:St→Prop} {o:AOp} (h:o.val=true):∃ d,o.dst=some d∧(vop s (fun v=>K (s.put d v)) o→aop P s K o):=by
  cases o <;> simp only [AOp.val,QC] at h <;> first | exact ⟨_,rfl,fun h=>.inl h⟩ | exact ⟨_,rfl,fun h=>h⟩
theorem bGi {P:Program} {s:St} {K:St→Prop} {o:AOp} {j d:Nat} {want:Bool} (h:o.val=true) (hd:o.dst=some d) :
    aop P s K (.g j want o)=bK (lk s.env j) fun p b=>∃ r,((p&&(b==want))=true→vop s (fun v=>v=r) o)∧K (s.put d (.ite (p&&(b==want)) r)):=by
  cases o <;> simp only [AOp.val,QC] at h <;> simp only [AOp.dst,QB] at hd <;> subst hd <;> rfl
def strs:List V→List V
  | []=>[]
  | v::l=>v.str::strs l
theorem aR.str {κ:Ctx} {v:Value} {x:V} (h:aR κ v x) (hc:x.cond.all id=true):aR κ v x.str:=by
  cases h with
  | yes h=>exact h
  | no=>simp [V.cond] at hc
  | tre h=>exact .tre h
  | trp=>exact .trp _ _ _ _
  | top=>exact .top _
  | und=>exact .und
  | d h=>exact .d h
  | agg h=>exact .agg h
  | nil=>exact .nil _
  | osl h1 h2=>exact .osl h1 h2
  | ptr=>exact .ptr _ _
  | msl h1 h2=>exact .msl h1 h2
  | rp h1 h2=>exact .rp h1 h2
  | np=>exact .np
  | nf=>exact .nf
  | fn k h=>exact .fn k h
  | fnm h=>exact .fnm h
  | tup h=>exact .tup h
  | agv h=>exact .agv h
  | bp0 h=>exact .bp0 h
  | bp1 h=>exact .bp1 h
theorem aZ2 {P:Program} {s:St} {d:Option Nat} {f:FuncId} {xs:List AO} {K:V→St→Prop} (hn:(conds s xs).all id=true) (h:lJ P s d f (strs (xs.map (ev s))) K):lJ P s d f (xs.map (ev s)) K:=by
  intro E N κ w a cargs hfb hdN hok hrep
  refine h E N κ w a cargs hfb hdN hok ?_
  clear h
  induction xs generalizing cargs with
  | nil=>cases hrep; exact .nil
  | cons x xs ih =>
    cases hrep with | cons a r=>exact .cons (a.str (jL hn)) (ih (sF hn) _ r)
theorem cJ7 {caps:List V} {P:Program} {s:St} {d:Option Nat} {f:FuncId} {xs:List AO} {K:V→St→Prop} (hn:(conds s xs).all id=true) (h:lJ P s d f (strs (xs.map (ev s))++caps) K):lJ P s d f (xs.map (ev s)++caps) K:=by
  intro E N κ w a cargs hfb hdN hok hrep
  refine h E N κ w a cargs hfb hdN hok ?_
  clear h
  induction xs generalizing cargs with
  | nil=>exact hrep
  | cons x xs ih =>
    cases hrep with | cons a r=>exact .cons (a.str (jL hn)) (ih (sF hn) _ r)
section steps
variable {P:Program} {K:St→Prop} {s:St} {rest:List AOp} {o:AOp} {α β:Type} {r:β} {d:Nat}
theorem bBk {m:Option α} {v':α→V} {kF:α→Option β} (h:(m>>=kF)=some r) (hval:o.val=true) (hd:o.dst=some d) (hop:∀ y,m=some y→vop s (fun v=>v=v' y) o) (hk:∀ y,kF y=some r→bN P K rest (s.put d (v' y))):bN P K (o::rest) s:=by
  cases m with
  | none=>simp at h
  | some y =>
    have h2:=hk y h
    have h1:=hop y rfl
    show aop P s (bN P K rest) o
    obtain ⟨d',hd',e⟩:=aTm (P:=P) (s:=s) (K:=bN P K rest) hval
    rw [hd] at hd'; simp at hd'; subst hd'
    refine e ?_
    obtain ⟨z,hz,hT⟩:=bHe s o hval _ h1
    subst hz
    exact hT _ h2
theorem cBy {v':V} (hval:o.val=true) (hd:o.dst=some d) (hop:vop s (fun v=>v=v') o) (hk:bN P K rest (s.put d v')):bN P K (o::rest) s :=
  bBk (m:=some ()) (v':=fun _=>v') (kF:=fun _=>some ()) (r:=()) rfl hval hd (fun _ _=>hop) fun _ _=>hk
theorem aZu {j:Nat} {want p b:Bool} {m:Option α} {dflt:α} {v':α→V} {kF:α→Option β} (h:((if (p&&(b==want))=true then m else some dflt)>>=kF)=some r) (hb:iW (lk s.env j)=some (p,b)) (hval:o.val=true) (hd:o.dst=some d)
    (hop:∀ y,m=some y→(p&&(b==want))=true→vop s (fun v=>v=v' y) o) (hk:∀ y,kF y=some r→bN P K rest (s.put d (.ite (p&&(b==want)) (v' y)))):bN P K (.g j want o::rest) s:=by
  show aop P s (bN P K rest) (.g j want o)
  have key:∃ y,kF y=some r∧((p&&(b==want))=true→m=some y):=by
    by_cases hc:(p&&(b==want))=true
    · rw [if_pos hc] at h
      cases m with
      | none=>simp at h
      | some y=>exact ⟨y,h,fun _=>rfl⟩
    · rw [if_neg hc] at h
      exact ⟨dflt,h,fun h'=>absurd h' hc⟩
  obtain ⟨y,hy,hm⟩:=key
  rw [bGi hval hd]
  exact xV hb ⟨v' y,fun hc=>hop y (hm hc) hc,hk y hy⟩
theorem bGu {j:Nat} {want p b:Bool} {v':V} (hb:iW (lk s.env j)=some (p,b)) (hval:o.val=true) (hd:o.dst=some d) (hop:(p&&(b==want))=true→vop s (fun v=>v=v') o) (hk:bN P K rest (s.put d (.ite (p&&(b==want)) v'))) :
    bN P K (.g j want o::rest) s :=
  aZu (m:=some ()) (dflt:=()) (v':=fun _=>v') (kF:=fun _=>some ()) (r:=()) (by split <;> rfl) hb hval hd (fun _ _=>hop) fun _ _=>hk
theorem bLf {f:FuncId} {xs:List AO} {dd:Option Nat} {args:List V} {m:Option α} {v':α→V} {kF:α→Option β} (h:(m>>=kF)=some r) (hg:∀ y,m=some y→bF P f args [] fun x _=>x=v' y)
    (hargs:weaks (xs.map (ev s))=args) (hcl:V.closeds args=true) (hv:∀ y,(v' y).closed=true) (hk:∀ y,kF y=some r→bN P K rest (s.putO dd (v' y))):bN P K (.call dd f xs::rest) s:=by
  cases m with
  | none=>simp at h
  | some y=>exact aCc (hg y rfl) hargs hcl fun x b hx=>by obtain rfl:=hx; exact ⟨hv y,hk y h⟩
theorem aN7 {v:V} {f:FuncId} {caps:List V} {C:V→Prop} (h:v.vw=.fn f caps) (hC:C v):use v C:=by
  cases v <;> first | exact hC | simp [V.vw] at h
theorem aAz {g:FuncId} {fo:AO} {xs:List AO} {dd:Option Nat} {caps args:List V} {m:Option α} {v':α→V} {kF:α→Option β} (h:(m>>=kF)=some r) (hfn:(ev s fo).vw=.fn g caps) (hgo:qD P g=true)
    (hg:∀ y,m=some y→bF P g args [] fun x _=>x=v' y)
    (hargs:weaks (xs.map (ev s)++caps)=args) (hcl:V.closeds args=true) (hv:∀ y,(v' y).closed=true) (hk:∀ y,kF y=some r→bN P K rest (s.putO dd (v' y))):bN P K (.callv dd fo xs::rest) s:=by
  cases m with
  | none=>simp at h
  | some y =>
    show aop P s (bN P K rest) (.callv dd fo xs)
    refine aN7 hfn ?_
    rw [hfn]
    exact .inl ⟨hgo,aCc (hg y rfl) hargs hcl fun x b hx=>by obtain rfl:=hx; exact ⟨hv y,hk y h⟩⟩
theorem bLs {j d:Nat} {want p b:Bool} {f:FuncId} {xs:List AO} {args:List V} {m:Option α} {dflt:α} {v':α→V} {kF:α→Option β} (h:((if (p&&(b==want))=true then m else some dflt)>>=kF)=some r) (hb:iW (lk s.env j)=some (p,b))
    (hg:∀ y,m=some y→bF P f args [] fun x _=>x=v' y)
    (hargs:(p&&(b==want))=true→weaks (strs (xs.map (ev s)))=args) (hcl:V.closeds args=true) (hv:∀ y,(v' y).closed=true) (hn:(p&&(b==want))=true→(conds s xs).all id=true)
    (hk:∀ y,kF y=some r→bN P K rest (s.put d (.ite (p&&(b==want)) (v' y)))):bN P K (.g j want (.call (some d) f xs)::rest) s:=by
  show aop P s (bN P K rest) (.g j want (.call (some d) f xs))
  simp only [aop]
  have key:∃ y,kF y=some r∧((p&&(b==want))=true→m=some y):=by
    by_cases hc:(p&&(b==want))=true
    · rw [if_pos hc] at h
      cases m with
      | none=>simp at h
      | some y=>exact ⟨y,h,fun _=>rfl⟩
    · rw [if_neg hc] at h
      exact ⟨dflt,h,fun h'=>absurd h' hc⟩
  obtain ⟨y,hy,hm⟩:=key
  refine xV hb ⟨v' y,s,fun hc=>?_,fun _=>Wk.refl s,hk y hy⟩
  exact aZ2 (hn hc) (aCc (hg y (hm hc)) (hargs hc) hcl fun x b hx=>by obtain rfl:=hx; exact ⟨hv y,rfl,rfl⟩)
theorem cD1 {e sz by' t:Nat} {xo yo:AO} {l m:List α} {f:α→List D} {kF:List α→Option β} {S':List α→St} (h:(appG by' l m>>=kF)=some r) (hx:ev s xo=.osl t e sz (l.map f)) (hy0:(ev s yo).cond=[]) (hy:srV (ev s yo)=some (sz,m.map f))
    (hf:((s.dn t).fresh d&&(s.dn t).clean t)=true) (hS:∀ y:List α,(⟨(d,.osl d e sz (y.map f))::(s.dn t).env,(s.dn t).bx⟩:St)=S' y) (hk:∀ y,kF y=some r→bN P K rest (S' y)):bN P K (.app d e sz by' xo yo::rest) s:=by
  unfold appG at h
  split at h
  · rename_i h0
    show aop P s (bN P K rest) (.app d e sz by' xo yo)
    simp only [aop]
    rw [hx]
    simp only [use]
    refine fH (by rw [hy0]; rfl) ?_
    have hs:(ev s yo).str=ev s yo:=by
      revert hy0; generalize ev s yo=v; intro hy0; cases v <;> first | rfl | simp [V.cond] at hy0
    rw [hs]
    refine .inl (aK8 hy ?_)
    refine ⟨rfl,by simp,trivial,by simpa using h0,?_,?_,?_⟩
    · rw [QA] at hf; exact hf.1
    · rw [QA] at hf; exact hf.2
    · rw [← List.map_append,hS]; exact hk _ h
  · simp at h
def yI (s:St) (sz:Nat):List AO→Option (List (List D))
  | []=>some []
  | x :: r => if (ev s x).cond.isEmpty && (ev s x).solid then match V.asDs (ev s x).cells, yI s sz r with
      | some ds,some l=>if ds.length=sz then some (ds::l) else none
      | _,_=>none
    else none
theorem aRp {s:St} {sz:Nat}:∀ {xs:List AO} {l:List (List D)} {C:List (List D)→Prop},yI s sz xs=some l→C l→xL s sz xs C
  | [],l,C,h,hC=>by simp [yI] at h; subst h; exact hC
  | x::r,l,C,h,hC=>by
    simp only [yI] at h
    split at h
    · rename_i h0
      rw [QA] at h0
      split at h
      · rename_i h1 h2
        split at h <;> simp at h
        rename_i h3; subst h
        exact yK h0.1 ⟨h0.2,_,h1,h3,aRp h2 hC⟩
      · simp at h
    · simp at h
theorem bM {e sz:Nat} {xs:List AO} {l:List α} {f g:α→List D} (hl:yI s sz xs=some (l.map g)) (hfg:∀ x,f x=g x) (hf:s.fresh d=true) (hk:bN P K rest ⟨(d,.osl d e sz (l.map f))::s.env,s.bx⟩):bN P K (.bsl d e sz xs::rest) s:=by
  have:l.map g=l.map f:=QE fun x _=>(hfg x).symm
  rw [this] at hl
  exact .inl ⟨hf,aRp hl hk⟩
end steps
section code
variable {P:Program} {Q:Exit→St→Prop} {s:St} {x y:AC} {β:Type} {r:β}
theorem cBl {c:AO} {b:Bool} {X Y:Option β} (h:(if b=true then X else Y)=some r) (hc:ev s c=.d (.b b)) (hx:X=some r→avc P x Q s) (hy:Y=some r→avc P y Q s):avc P (.cond c x y) Q s:=by
  show use (ev s c) _
  rw [hc]
  refine ⟨fun hb=>hx ?_,fun hb=>hy ?_⟩
  · rw [if_pos hb] at h; exact h
  · rw [if_neg (by simp [hb])] at h; exact h
theorem nW {P:Program} {K:St→Prop} {s s':St} {d:Nat} {zero c:List V} {parts:List (Nat×Nat×AO)} {rest:List AOp} (hn:(parts.flatMap fun p=>(ev s p.2.2).cond).all id=true) (h:aB0 s parts zero=some c) (hs:s.put d (.agv c)=s') (hk:bN P K rest s') :
    bN P K (.bld d zero parts::rest) s:=by
  subst hs
  exact .inr (aNr (C:=fun c=>bN P K rest (s.put d (.agv c))) hn h hk)
theorem bM6 {id:Nat} (h:Q .normal s):tQ id Q (.exit id) s:=by simp only [tQ,if_true]; exact h
theorem bWb {id id':Nat} (hne:id'≠id) (h:Q (.exit id') s):tQ id Q (.exit id') s:=by simp only [tQ,if_neg hne]; exact h
theorem cIs (h:avc P x (uB (avc P (.loop x) Q) Q) s):avc P (.loop x) Q s:=O9.mk _ _ h fun _ hs=>hs
theorem bQ4 {s':St} (hw:Wk s s') (h:avc P (.loop x) Q s'):uB (avc P (.loop x) Q) Q .normal s:=O9.wk _ _ hw h
theorem cHq {s':St} (hw:Wk s s') (h:avc P (.loop x) Q s'):avc P (.loop x) Q s:=O9.wk _ _ hw h
inductive Tk where
  | old (t:Nat)
  | new (e:TypeId) (sz:Nat)
def lQ:List (Nat×Tk)→Nat→Option Tk
  | [],_=>none
  | (m,v)::l,n=>if n=m then some v else lQ l n
def vr (ρ:List (Nat×Tk)) (v v':V):Prop :=
  match v',v with
  | .osl t' e' sz' l',.osl t e sz l=>lQ ρ t'=some (.old t)∧e'=e∧sz'=sz∧l'=l
  | .osl t' e' sz' l',.nil sz=>lQ ρ t'=some (.new e' sz')∧sz'=sz∧l'=[]
  | v',v=>(v'=v∨v'=v.weak)∧v'.still=true
def vrs (ρ:List (Nat×Tk)):List V→List V→Prop
  | [],[]=>True
  | v::l,v'::l'=>vr ρ v v'∧vrs ρ l l'
  | _,_=>False
def qB (ρ:List (Nat×Tk)) (s:St):List (Nat×V)→Prop
  | []=>True
  | (n,v)::l=>vr ρ (lk s.env n) v∧qB ρ s l
def bxR (ρ:List (Nat×Tk)) (s:St):List (Nat×List V)→Prop
  | []=>True
  | (n,c)::l=>(∃ c0,bget s.bx n=some c0∧vrs ρ c0 c)∧bxR ρ s l
def olds:List (Nat×Tk)→List Nat
  | []=>[]
  | (_,.old t)::l=>t::olds l
  | _::l=>olds l
def inj:List Nat→Bool
  | []=>true
  | t::l=>!l.contains t&&inj l
section
variable {ρ:List (Nat×Tk)} {n:Nat} {v v0:V} {l:List (Nat×V)}
theorem eQ (h:v0=v) (hs:v.still=true):vr ρ v0 v:=by
  subst h; cases v0 <;> first | exact ⟨.inl rfl,hs⟩ | simp [V.still] at hs
theorem bYb (h:v0.weak=v) (hs:v.still=true):vr ρ v0 v:=by
  subst h
  revert hs
  cases v0 <;> intro hs <;> first
    | exact ⟨.inr rfl,hs⟩
    | (simp only [V.weak,K3] at hs ⊢; split <;> rename_i hq <;> simp only [hq] at hs <;> exact ⟨.inr (by simp only [V.weak,K3,hq]),hs⟩)
    | simp [V.weak,V.still] at hs
theorem lC {t t':Nat} {e:TypeId} {sz:Nat} {m:List (List D)} (h:v0=.osl t e sz m) (ht:lQ ρ t'=some (.old t)):vr ρ v0 (.osl t' e sz m):=by subst h; exact ⟨ht,rfl,rfl,rfl⟩
theorem aCq {t':Nat} {e:TypeId} {sz:Nat} (h:v0=.nil sz) (ht:lQ ρ t'=some (.new e sz)):vr ρ v0 (.osl t' e sz []):=by subst h; exact ⟨ht,rfl,rfl⟩
theorem kG {s:St}:qB ρ s []:=trivial
theorem aLv {s:St} (h:vr ρ (lk s.env n) v) (ht:qB ρ s l):qB ρ s ((n,v)::l):=⟨h,ht⟩
theorem bA {s:St}:bxR ρ s []:=trivial
theorem kM {s:St} {c0 c:List V} {l:List (Nat×List V)} (h:bget s.bx n=some c0) (hv:vrs ρ c0 c) (ht:bxR ρ s l):bxR ρ s ((n,c)::l):=⟨⟨c0,h,hv⟩,ht⟩
theorem kR:vrs ρ [] []:=trivial
theorem dF {c0 c:List V} (h:vr ρ v0 v) (ht:vrs ρ c0 c):vrs ρ (v0::c0) (v::c):=⟨h,ht⟩
theorem bLr:∀ {c0 c:List V},c0=c→V.stills c=true→vrs ρ c0 c
  | [],_,h,_=>by subst h; exact trivial
  | x::c0,_,h,hs=>by
    subst h
    simp only [V.stills,QA] at hs
    exact ⟨eQ rfl hs.1,bLr rfl hs.2⟩
theorem bCl {s:St} {c:List V} {l:List (Nat×List V)} (h:bget s.bx n=some c) (hs:V.stills c=true) (ht:bxR ρ s l):bxR ρ s ((n,c)::l):=⟨⟨c,h,bLr rfl hs⟩,ht⟩
end
theorem bJ5 {ρ:List (Nat×Tk)} {s:St}:∀ {l:List (Nat×V)},qB ρ s l→∀ n,lk l n=.top∨vr ρ (lk s.env n) (lk l n)
  | [],_,n=>.inl rfl
  | (m,v)::l,h,n=>by
    simp only [lk]
    split
    · rename_i e; subst e; exact .inr h.1
    · exact bJ5 h.2 n
theorem bIs {ρ:List (Nat×Tk)} {s:St}:∀ {l:List (Nat×List V)},bxR ρ s l→∀ n c,bget l n=some c→∃ c0,bget s.bx n=some c0∧vrs ρ c0 c
  | [],_,n,c,hc=>by simp [bget] at hc
  | (m,v)::l,h,n,c,hc=>by
    simp only [bget] at hc
    split at hc
    · rename_i e; subst e; simp at hc; subst hc; exact h.1
    · exact bIs h.2 n c hc
theorem bHy {ρ:List (Nat×Tk)} {t' t:Nat} (h:lQ ρ t'=some (.old t)):t∈olds ρ:=by
  induction ρ with
  | nil=>simp [lQ] at h
  | cons p ρ ih =>
    obtain ⟨m,k⟩:=p
    simp only [lQ] at h
    split at h
    · simp at h; subst h; simp [olds]
    · have:=ih h
      cases k <;> simp [olds,this]
theorem cDw {ρ:List (Nat×Tk)} (hi:inj (olds ρ)=true) {t1 t2 t:Nat} (h1:lQ ρ t1=some (.old t)) (h2:lQ ρ t2=some (.old t)):t1=t2:=by
  induction ρ with
  | nil=>simp [lQ] at h1
  | cons p ρ ih =>
    obtain ⟨m,k⟩:=p
    have hi':inj (olds ρ)=true:=by
      cases k with
      | old t=>simp only [olds,inj,QA] at hi; exact hi.2
      | new e sz=>exact hi
    simp only [lQ] at h1 h2
    split at h1 <;> split at h2
    · omega
    · simp at h1; subst h1
      have:=bHy h2
      simp only [olds,inj,QA,QD,QF,decide_eq_false_iff_not] at hi
      exact absurd this hi.1
    · simp at h2; subst h2
      have:=bHy h1
      simp only [olds,inj,QA,QD,QF,decide_eq_false_iff_not] at hi
      exact absurd this hi.1
    · exact ih hi' h1 h2
mutual
theorem V.fits_still {κ κ':Ctx} (hm:∀ k,κ'.mt k=κ.mt k):∀ v:V,v.still=true→v.fits κ κ'
  | .ptr k _,_=>hm k
  | .msl k _ _ _ _,_=>hm k
  | .osl ..,h=>by simp [V.still] at h
  | .fn _ l,h=>V.fitss_still hm l (by simpa [V.still] using h)
  | .tup l,h=>V.fitss_still hm l (by simpa [V.still] using h)
  | .agv l,h=>V.fitss_still hm l (by simpa [V.still] using h)
  | .bp k _,_=>hm k
  | .tre k,_=>hm k
  | .trp k _ _ _,_=>hm k
  | .ite _ v,h=>V.fits_still hm v (by simpa [V.still] using h)
  | .top,_ | .und,_ | .d _,_ | .agg _,_ | .nil _,_ | .rp _,_ | .np,_ | .nf,_ | .trc ..,_ | .trs ..,_ | .tro ..,_ | .trd,_=>trivial
theorem V.fitss_still {κ κ':Ctx} (hm:∀ k,κ'.mt k=κ.mt k):∀ l:List V,V.stills l=true→V.fitss κ κ' l
  | [],_=>trivial
  | v::l,h=>by
    simp only [V.stills,QA] at h
    exact ⟨V.fits_still hm v h.1,V.fitss_still hm l h.2⟩
end
theorem bQu (ρ:List (Nat×Tk)) {s s':St} (hi:inj (olds ρ)=true) (he:qB ρ s s'.env) (hb:bxR ρ s s'.bx):Wk s s':=by
  intro E N κ w a _ h
  have g:=h.good
  let κ':Ctx:=⟨κ.S,κ.mt,fun t'=>match lQ ρ t' with
    | some (.old t)=>κ.o t
    | some (.new e sz)=>some ⟨e,sz,.slice none 0 0⟩
    | none=>none,κ.bl⟩
  have ho1:∀ {t' t},lQ ρ t'=some (.old t)→κ'.o t'=κ.o t:=fun h=>by show (match lQ ρ _ with | some (.old t)=>κ.o t | some (.new e sz)=>some ⟨e,sz,.slice none 0 0⟩ | none=>none)=_; rw [h]
  have ho2:∀ {t' e sz},lQ ρ t'=some (.new e sz)→κ'.o t'=some ⟨e,sz,.slice none 0 0⟩:=fun h=>by show (match lQ ρ _ with | some (.old t)=>κ.o t | some (.new e sz)=>some ⟨e,sz,.slice none 0 0⟩ | none=>none)=_; rw [h]
  have hrep:∀ {u:Value} {v v':V},aR κ u v→vr ρ v v'→aR κ' u v':=by
    intro u v v' hu hv
    unfold vr at hv
    split at hv
    · obtain ⟨h1,rfl,rfl,rfl⟩:=hv
      cases hu with | osl k1 k2=>exact .osl (by rw [ho1 h1]; exact k1) k2
    · obtain ⟨h1,rfl,rfl⟩:=hv
      cases hu with | nil=>exact .osl (by rw [ho2 h1]) (.nil _)
    · obtain ⟨h1,h2⟩:=hv
      have:aR κ u v':=by
        rcases h1 with rfl | rfl
        · exact hu
        · exact hu.weak
      exact this.move (show κ.S.le κ'.S from Mem.le_refl _) (V.fits_still (κ:=κ) (κ':=κ') (fun _=>rfl) _ h2)
  have hmark:∀ {v v':V},vr ρ v v'→v.mark=true→v'=v:=by
    intro v v' hv hm
    unfold vr at hv
    split at hv
    · simp [V.mark] at hm
    · simp [V.mark] at hm
    · obtain ⟨h1 | h1,_⟩:=hv
      · exact h1
      · rw [h1]; cases v <;> first | rfl | simp [V.mark] at hm
  have hmv:∀ {vs vs':List V},vrs ρ vs vs'→Mv κ κ' vs vs':=by
    intro vs
    induction vs with
    | nil=>intro vs' hv; cases vs' with | nil=>exact .nil | cons _ _=>exact hv.elim
    | cons v vs ih =>
      intro vs' hv
      cases vs' with
      | nil=>exact hv.elim
      | cons v' vs'=>exact .cons ⟨fun hm=>⟨hmark hv.1 hm,fun _=>Mem.le_refl _⟩,fun _ hu=>hrep hu hv.1⟩ (ih hv.2)
  refine ⟨κ',h.size,h.defers,fun n=>?_,?_⟩
  · rcases bJ5 he n with e | e
    · rw [e]; exact .top _
    · exact hrep (h.env n) e
  · have hold:∀ {t' o b},κ'.o t'=some o→o.v.ownBlock=some b→∃ t,lQ ρ t'=some (.old t)∧κ.o t=some o:=by
      intro t' o b ht hb
      cases hk:lQ ρ t' with
      | none =>
        have:κ'.o t'=none:=by show (match lQ ρ _ with | some (.old t)=>κ.o t | some (.new e sz)=>some ⟨e,sz,.slice none 0 0⟩ | none=>none)=_; rw [hk]
        rw [this] at ht; simp at ht
      | some k =>
        cases k with
        | old t=>exact ⟨t,rfl,by rw [← ho1 hk]; exact ht⟩
        | new e sz=>rw [ho2 hk] at ht; simp at ht; subst ht; simp [Value.ownBlock] at hb
    have hat:∀ {t' o},κ'.o t'=some o→OwnAt κ w o:=by
      intro t' o ht
      cases hk:lQ ρ t' with
      | none =>
        have:κ'.o t'=none:=by show (match lQ ρ _ with | some (.old t)=>κ.o t | some (.new e sz)=>some ⟨e,sz,.slice none 0 0⟩ | none=>none)=_; rw [hk]
        rw [this] at ht; simp at ht
      | some k =>
        cases k with
        | old t=>rw [ho1 hk] at ht; exact (g.own t o ht).1
        | new e sz=>rw [ho2 hk] at ht; simp at ht; subst ht; exact ⟨0,[],sI.nil _ _ _,fun g2 hg2=>by simp [Value.ownBlock] at hg2⟩
    refine g.patch (fun b=>∃ t o,κ.o t=some o∧o.v.ownBlock=some b) (fun _=>False) (fun _=>True) rfl rfl rfl (Nat.le_refl _) (fun b ⟨t,o,ho,hb⟩=>((g.own t o ho).2 b hb).1) (fun _ _=>⟨rfl,rfl⟩) (fun b _=>g.frm.le b) (fun b _=>g.tab b) (fun b _ hn=>g.mem b hn) (fun _ _=>rfl)
      (fun n c hc _=>?_) (fun _ _ _ h=>h.elim) (fun _ _ _ _ _ h=>h.elim) (fun _ _ _ h=>absurd trivial h) (fun t' o ho _=>⟨hat ho,fun b hb=>⟨?_,fun _ _ h=>h.elim⟩⟩) (fun t1 t2 o1 o2 b h1 h2 _ _ k1 k2=>?_)
    · obtain ⟨c0,h0,hv⟩:=bIs hb n c hc
      exact ⟨c0,h0,rfl,rfl,hmv hv,fun b hb ⟨t,o,ho,hbo⟩=>((g.own t o ho).2 b hbo).2 n (by simp [h0]) hb⟩
    · obtain ⟨t,_,ht⟩:=hold ho hb
      exact ⟨t,o,ht,hb⟩
    · obtain ⟨u1,a1,b1⟩:=hold h1 k1
      obtain ⟨u2,a2,b2⟩:=hold h2 k2
      have:=g.ownInj u1 u2 o1 o2 b b1 b2 k1 k2
      subst this
      exact cDw hi a1 a2
def aFg (s:St):List AOp→Option (List V)
  | []=>some []
  | o::l=>match nD s o,aFg s l with
    | some v,some vs=>if (needs s o).all id then some (v::vs) else none
    | _,_=>none
theorem bEf {s:St}:∀ {rs:List AOp} {vs:List V} {C:List V→Prop},aFg s rs=some vs→C vs→aHj s rs C
  | [],vs,C,h,hC=>by simp [aFg] at h; subst h; exact hC
  | o::l,vs,C,h,hC=>by
    simp only [aFg] at h
    split at h
    · rename_i h1 h2
      split at h <;> simp at h
      rename_i h3; subst h
      exact aEr (C:=fun v=>aHj s l fun vs=>C (v::vs)) h3 h1 (bEf h2 hC)
    · simp at h
theorem aQa {o:AOp} {v:V} {R:V→List (Nat×List V)→Prop} (h:nD s o=some v) (hn:(needs s o).all id=true) (hR:R v s.bx):jH [o] R .ret s:=aEr (C:=fun x=>R x s.bx) hn h hR
theorem cBp {o1 o2:AOp} {os:List AOp} {vs:List V} {R:V→List (Nat×List V)→Prop} (h:aFg s (o1::o2::os)=some vs) (hR:R (.tup vs) s.bx):jH (o1::o2::os) R .ret s:=bEf (C:=fun vs=>R (.tup vs) s.bx) h hR
theorem cIf {rs:List AOp} {R:V→List (Nat×List V)→Prop} (h:jH rs R .ret s):jH rs R .normal s:=⟨s,Wk.refl s,h⟩
theorem bYx {R:V→List (Nat×List V)→Prop} (hR:R (.tup []) s.bx):jH [] R .ret s:=hR
end code
abbrev FOk {α:Type} (P:Program) (f:FuncId) (args:List V) (v:α→V) (m:Option α):Prop:=∀ y,m=some y→bF P f args [] fun x _=>x=v y
end Go.Ab
