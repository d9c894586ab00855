/- Value operations yield one value,which hangs on what they read alone. -/
import Derived.Test.YtcbkkemcgcdhdaaGreatAb13
namespace Go.Ab
open Go Go.RowKit
open _root_.List renaming mem_singleton→QA
open _root_.Bool renaming false_eq_true→QB
def Det {α:Type} (T:(α→Prop)→Prop):Prop:=∀ C,T C→∃ y,C y∧∀ C':α→Prop,C' y→T C'
theorem Det.bind {α β:Type} {T:(α→Prop)→Prop} {U:α→(β→Prop)→Prop} (h:Det T) (hU:∀ y,Det (U y)):Det fun C=>T fun y=>U y C:=by
  intro C hC
  obtain ⟨y,hy,hT⟩:=h _ hC
  obtain ⟨z,hz,hZ⟩:=hU y C hy
  exact ⟨z,hz,fun C' h'=>hT _ (hZ C' h')⟩
theorem Det.pure {α:Type} (y:α):Det fun C=>C y:=fun C h=>⟨y,h,fun _ h=>h⟩
theorem Det.map {α β:Type} (f:α→β) {T:(α→Prop)→Prop} (h:Det T):Det fun C=>T fun y=>C (f y):=h.bind fun y=>Det.pure (f y)
theorem Det.and {α:Type} {p:Prop} {T:(α→Prop)→Prop} (h:Det T):Det fun C=>p∧T C:=fun C ⟨hp,hc⟩=>(h C hc).imp fun _ ⟨h1,h2⟩=>⟨h1,fun C' h=>⟨hp,h2 C' h⟩⟩
theorem Det.ex {α β:Type} {T:α→(β→Prop)→Prop} (h:∀ x,Det (T x)):Det fun C=>∃ x,T x C:=fun C ⟨x,hc⟩=>(h x C hc).imp fun _ ⟨h1,h2⟩=>⟨h1,fun C' h=>⟨x,h2 C' h⟩⟩
theorem Det.no {α:Type}:Det fun _:α→Prop=>False:=fun _ h=>h.elim
theorem gX (x:V):Det (use x):=by
  intro C h
  cases x <;> first | exact ⟨_,h,fun _ h=>h⟩ | exact ⟨_,h.2,fun _ h'=>⟨h.1,h'⟩⟩
theorem aBj (x:V):Det (dK x):=by
  intro C h
  unfold dK at h
  split at h
  · exact ⟨_,h,fun _ h=>h⟩
  · exact h.elim
theorem aBb (x:V):Det (iK x):=by
  intro C h
  unfold iK at h
  split at h
  · exact ⟨_,h,fun _ h=>h⟩
  · exact h.elim
theorem aRa (x:V):Det (sK x):=by
  intro C h
  unfold sK at h
  split at h
  · exact ⟨_,h,fun _ h=>h⟩
  · exact h.elim
theorem bJm (x:V):Det fun C:Nat×List (List D)→Prop=>slK x fun n l=>C (n,l):=by
  intro C h
  unfold slK at h
  split at h
  · exact ⟨(_,_),h,fun _ h=>h⟩
  · exact ⟨(_,_),h,fun _ h=>h⟩
  · exact ⟨(_,_),h,fun _ h=>h⟩
  · exact h.elim
theorem cFv (x:V):Det fun C:Bool×Bool→Prop=>bK x fun p b=>C (p,b):=by
  intro C h
  unfold bK at h
  split at h
  · exact ⟨(_,_),h,fun _ h=>h⟩
  · exact ⟨(_,_),h,fun _ h=>h⟩
  · exact ⟨(_,_),h,fun _ h=>h⟩
  · exact h.elim
theorem Det.slK {β:Type} {x:V} {U:Nat→List (List D)→(β→Prop)→Prop} (h:∀ n l,Det (U n l)):Det fun C=>slK x fun n l=>U n l C:=(bJm x).bind fun p=>h p.1 p.2
theorem Det.bK {β:Type} {x:V} {U:Bool→Bool→(β→Prop)→Prop} (h:∀ n l,Det (U n l)):Det fun C=>bK x fun n l=>U n l C:=(cFv x).bind fun p=>h p.1 p.2
theorem X9 (s:St) (x:Option AO) (n:Int):Det (lK s x n):=by
  cases x with
  | none=>exact Det.pure n
  | some y=>exact (gX _).bind fun _=>aBb _
theorem aXu (n:Nat) (g:Bool) (c:List V):Det (oV n g c):=by
  cases g
  · exact Det.ex fun _=>Det.and (Det.pure _)
  · exact Det.and (Det.pure _)
theorem aMz (n:Nat) (g:Bool) (c:List D):Det (mU n g c):=by
  cases g
  · exact Det.ex fun _=>Det.and (Det.pure _)
  · exact Det.and (Det.pure _)
theorem cA5 (s:St) (n:Nat):Det (trL s n):=by
  intro C h
  unfold trL at h
  split at h
  · rename_i he; exact ⟨_,h,fun _ h=>by unfold trL; rw [he]; exact h⟩
  · rename_i he; exact ⟨_,h,fun _ h=>by unfold trL; rw [he]; exact h⟩
  · rename_i he; exact ⟨_,h,fun _ h=>by unfold trL; rw [he]; exact h⟩
  · exact h.elim
theorem cCm (sz:Nat) (x i:V):Det (iaK sz x i):=by
  have h:Det fun C=>slK x fun sz' l=>iK i fun n=>sz'=sz∧0≤n∧∃ e,l[n.toNat]?=some e∧C (V.rp e):=Det.slK fun _ _=>(aBb _).bind fun _=>Det.and (Det.and (Det.ex fun _=>Det.and (Det.pure _)))
  cases x <;> first | exact h | exact (aBb _).bind fun _=>Det.and (Det.and (Det.and (Det.pure _)))
theorem bYd (s:St) (n sz:Nat) (i:V):Det (iaO s n sz i):=by
  refine (aBb _).bind fun k=>Det.and ?_
  intro C h
  obtain ⟨hb,hC⟩:=h
  exact ⟨_,hC,fun D hD=>⟨hb,hD⟩⟩
theorem cBv (x:V):Det (O5 x):=by
  have h:Det fun C=>slK x fun _ l=>C (V.d (.i .i64 l.length)):=Det.slK fun _ _=>Det.pure _
  cases x <;> first | exact h | exact Det.pure _
theorem bZp (op:BinOp) (k:IntKind) (a b:Int):Det (bitsOf op k a b):=by
  cases op <;> first | exact Det.pure _ | exact Det.no
theorem bOz (op:BinOp) (k:IntKind) (a b:Int):Det (aJi op k a b):=by
  cases op <;> first | exact Det.pure _ | exact Det.and (Det.pure _) | exact (bZp _ _ _ _).map _
theorem cJf (op:BinOp) (a b:ByteArray):Det (aYd op a b):=by
  cases op <;> first | exact Det.pure _ | exact Det.and (Det.pure _) | exact Det.no
theorem cGm (op:BinOp) (x y:D):Det (aDd op x y):=by
  cases x <;> cases y <;> first | exact Det.no | exact Det.and (bOz _ _ _ _) | exact cJf _ _ _
theorem bM9 (s:St):∀ (p:List (Nat×Nat×AO)) (c:List V),Det (wS s p c)
  | [],c=>Det.pure c
  | (off,sz,x)::r,c=>(gX _).bind fun v=>Det.and (Det.and (Det.and (bM9 s r _)))
def AOp.val:AOp→Bool
  | .mv .. | .pick .. | .bin .. | .eqb .. | .eqv .. | .not .. | .neg .. | .cvi .. | .cbs .. | .fld .. | .fa .. | .ia .. | .ix .. | .sls .. | .slc .. | .bld .. | .len .. | .lns .. | .max .. | .min .. | .ext .. | .nck .. | .ld .. | .mkf ..=>true
  | _=>false
theorem bHe (s:St) (x:AOp) (h:x.val=true):Det fun C=>vop s C x:=by
  cases x <;> simp only [AOp.val,QB] at h <;> simp only [vop]
  case mv=>exact gX _
  case pick =>
    refine (gX _).bind fun c=>(aBj _).bind fun c=>?_
    cases c <;> first | exact Det.no | exact Det.bK fun _ _=>Det.bK fun _ _=>Det.and (Det.and (Det.pure _))
  case bin=>exact (gX _).bind fun _=>(gX _).bind fun _=>(aBj _).bind fun _=>(aBj _).bind fun _=>(cGm _ _ _).map _
  case eqb =>
    refine (gX _).bind fun _=>(gX _).bind fun _=>(aBj _).bind fun x=>(aBj _).bind fun y=>?_
    cases x <;> cases y <;> first | exact Det.no | exact Det.pure _
  case eqv =>
    refine (gX _).bind fun x=>(gX _).bind fun y=>?_
    cases x <;> cases y <;> first | exact Det.no | exact Det.ex fun _=>Det.and (Det.pure _)
  case not =>
    refine (gX _).bind fun _=>(aBj _).bind fun x=>?_
    cases x <;> first | exact Det.no | exact Det.pure _
  case neg =>
    refine (gX _).bind fun _=>(aBj _).bind fun x=>?_
    cases x <;> first | exact Det.no | exact Det.pure _
  case cvi=>exact (gX _).bind fun _=>(aBb _).map _
  case cbs=>exact (gX _).bind fun _=>Det.slK fun _ _=>Det.and (Det.ex fun _=>Det.and (Det.pure _))
  case fld =>
    refine (gX _).bind fun x=>?_
    cases x <;> first | exact Det.no | exact aMz _ _ _ | exact aXu _ _ _
  case fa =>
    refine (gX _).bind fun x=>?_
    cases x <;> first | exact Det.no | exact Det.pure _
  case ia =>
    refine (gX _).bind fun x=>(gX _).bind fun _=>?_
    cases x <;> first | exact cCm _ _ _ | exact bYd _ _ _ _
  case ix=>exact (gX _).bind fun _=>(gX _).bind fun _=>(aRa _).bind fun _=>(aBb _).bind fun _=>Det.and (Det.ex fun _=>Det.and (Det.pure _))
  case sls=>exact (gX _).bind fun _=>(aRa _).bind fun _=>(X9 _ _ _).bind fun _=>(X9 _ _ _).bind fun _=>Det.and (Det.and (Det.and (Det.pure _)))
  case slc=>exact (gX _).bind fun _=>Det.slK fun _ _=>(X9 _ _ _).bind fun _=>(X9 _ _ _).bind fun _=>(X9 _ _ _).bind fun _=>Det.and (Det.and (Det.and (Det.and (Det.and (Det.and (Det.pure _))))))
  case bld=>exact (bM9 _ _ _).bind fun _=>Det.ex fun _=>Det.and (Det.pure _)
  case mkf=>exact Det.pure _
  case len =>
    refine (gX _).bind fun x=>?_
    cases x <;> first | exact cBv _ | exact (cA5 _ _).map _
  case lns=>exact (gX _).bind fun _=>(aRa _).map _
  case max =>
    refine (gX _).bind fun x=>(gX _).bind fun y=>?_
    rcases x with _ | _ | (_ | _ | _ | _) | _ | _ | _ | _ | _ | _ | _ | _ | _ | _ | _ | _ | _ | _ | _ | _ <;> rcases y with _ | _ | (_ | _ | _ | _) | _ | _ | _ | _ | _ | _ | _ | _ | _ | _ | _ | _ | _ | _ | _ | _ <;> first | exact Det.no | exact Det.and (Det.pure _)
  case min =>
    refine (gX _).bind fun x=>(gX _).bind fun y=>?_
    rcases x with _ | _ | (_ | _ | _ | _) | _ | _ | _ | _ | _ | _ | _ | _ | _ | _ | _ | _ | _ | _ | _ | _ <;> rcases y with _ | _ | (_ | _ | _ | _) | _ | _ | _ | _ | _ | _ | _ | _ | _ | _ | _ | _ | _ | _ | _ | _ <;> first | exact Det.no | exact Det.and (Det.pure _)
  case ext =>
    refine (gX _).bind fun x=>?_
    cases x <;> first | exact Det.no | exact Det.ex fun _=>Det.and (Det.pure _)
  case nck =>
    refine (gX _).bind fun x=>?_
    cases x <;> first | exact Det.no | exact Det.pure _
  case ld =>
    refine (gX _).bind fun x=>?_
    have trp:∀ (n:Nat) (g:Bool) (b sz i o:Nat),Det fun C=>(∃ l c,bget s.bx b=some (.tro sz i l::c)∧oV n g (c.drop o) C)∨(∃ l ds,bget s.bx b=some [.trs sz l]∧l[i]?=some ds∧mU n g (ds.drop o) C)∨∃ l ds,bget s.bx b=some [.trc sz l]∧l[i]?=some ds∧((ds.drop o).take n).all D.flat=true∧mU n g ((ds.drop o).take n) C:=by
      intro n g b sz i o C h
      rcases h with ⟨l,c,hc,hl⟩ | ⟨l,ds,hc,hi,hl⟩ | ⟨l,ds,hc,hi,hf,hl⟩
      · obtain ⟨y,hy,hT⟩:=aXu _ _ _ _ hl
        exact ⟨y,hy,fun D hD=>.inl ⟨l,c,hc,hT _ hD⟩⟩
      · obtain ⟨y,hy,hT⟩:=aMz _ _ _ _ hl
        exact ⟨y,hy,fun D hD=>.inr (.inl ⟨l,ds,hc,hi,hT _ hD⟩)⟩
      · obtain ⟨y,hy,hT⟩:=aMz _ _ _ _ hl
        exact ⟨y,hy,fun D hD=>.inr (.inr ⟨l,ds,hc,hi,hf,hT _ hD⟩)⟩
    cases x <;> first | exact Det.no | exact aMz _ _ _ | exact Det.ex fun _=>Det.and (Det.and (aXu _ _ _)) | exact trp _ _ _ _ _ _
def AO.rd:AO→List Nat
  | .t n=>[n]
  | .c _=>[]
def aGh:Option AO→List Nat
  | some x=>x.rd
  | none=>[]
def AOp.rd:AOp→List Nat
  | .mv _ x | .asg _ x | .eqn _ _ x | .not _ x | .neg _ x | .cvi _ _ x | .cbs _ x | .fld _ _ _ _ x | .fa _ _ x | .len _ x | .lns _ x | .ext _ x _ | .nck _ x | .ld _ _ _ x | .box _ _ x | .csb _ _ x=>x.rd
  | .pick _ c x y=>c.rd++(x.rd++y.rd)
  | .bin _ _ x y | .eqb _ _ x y | .eqv _ _ _ x y | .ia _ _ x y | .ix _ x y | .max _ x y | .min _ x y | .st _ x y | .app _ _ _ _ x y | .mks _ _ _ _ _ x y=>x.rd++y.rd
  | .sls _ x l h=>x.rd++(aGh l++aGh h)
  | .slc _ _ x l h m=>x.rd++(aGh l++(aGh h++aGh m))
  | .bld _ _ ps=>ps.flatMap fun p=>p.2.2.rd
  | .mkf _ _ l | .bsl _ _ _ l | .call _ _ l=>l.flatMap AO.rd
  | .callv _ f l=>f.rd++l.flatMap AO.rd
  | .alc ..=>[]
  | .g j _ o=>j::o.rd
def rdV (s:St):V→List (Nat×List V)
  | .ptr b _ | .trp b _ _ _ | .tre b=>match bget s.bx b with
    | some c=>[(b,c)]
    | none=>[]
  | _=>[]
def rdB (s:St):AOp→List (Nat×List V)
  | .ld _ _ _ x | .len _ x | .ia _ _ x _=>rdV s (ev s x).str
  | .g _ _ (.ld _ _ _ x) | .g _ _ (.len _ x) | .g _ _ (.ia _ _ x _)=>rdV s (ev s x).str
  | _=>[]
structure Agree (s s':St) (l:List Nat) (B:List (Nat×List V)):Prop where
  env:∀ t∈l,lk s'.env t=lk s.env t
  bx:∀ p∈B,bget s'.bx p.1=some p.2
theorem Agree.l {s s':St} {l m:List Nat} {B:List (Nat×List V)} (h:Agree s s' (l++m) B):Agree s s' l B:=⟨fun t ht=>h.env t (List.mem_append_left _ ht),h.bx⟩
theorem Agree.r {s s':St} {l m:List Nat} {B:List (Nat×List V)} (h:Agree s s' (l++m) B):Agree s s' m B:=⟨fun t ht=>h.env t (List.mem_append_right _ ht),h.bx⟩
theorem Agree.ev {s s':St} {x:AO} {B:List (Nat×List V)} (h:Agree s s' x.rd B):ev s' x=ev s x:=by
  cases x with
  | t n=>exact h.env n (by simp [AO.rd])
  | c v=>rfl
theorem Agree.evs {s s':St} {l:List AO} {B:List (Nat×List V)} (h:Agree s s' (l.flatMap AO.rd) B):l.map (Go.Ab.ev s')=l.map (Go.Ab.ev s) :=
  List.map_congr_left fun x hx=>Agree.ev (B:=B) ⟨fun t ht=>h.env t (List.mem_flatMap.2 ⟨x,hx,ht⟩),h.bx⟩
theorem aLm {s s':St} {x:Option AO} {n:Int} {C:Int→Prop} {B:List (Nat×List V)} (h:Agree s s' (aGh x) B) (hv:lK s x n C):lK s' x n C:=by
  cases x with
  | none=>exact hv
  | some y=>simp only [lK] at hv ⊢; rw [Agree.ev h]; exact hv
theorem aXd {s s':St} {B:List (Nat×List V)}:∀ {p:List (Nat×Nat×AO)} {c:List V} {C:List V→Prop},Agree s s' (p.flatMap fun p=>p.2.2.rd) B→wS s p c C→wS s' p c C
  | [],c,C,h,hv=>hv
  | (off,sz,x)::r,c,C,h,hv=>by
    rw [List.flatMap_cons] at h
    simp only [wS] at hv ⊢
    rw [Agree.ev h.l]
    obtain ⟨y,hy,hT⟩:=gX _ _ hv
    exact hT _ ⟨hy.1,hy.2.1,hy.2.2.1,aXd h.r hy.2.2.2⟩
theorem bXd {x:V} {C C':V→Prop} (h:∀ v,C v→C' v) (hu:use x C):use x C':=by
  obtain ⟨y,hy,hT⟩:=gX _ _ hu
  exact hT _ (h _ hy)
theorem cFq {x:V} {C C':Int→Prop} (h:∀ v,C v→C' v) (hu:iK x C):iK x C':=by
  obtain ⟨y,hy,hT⟩:=aBb _ _ hu
  exact hT _ (h _ hy)
theorem bJi {s s':St} {C:V→Prop} {x:AOp} (hx:x.val=true) (h:Agree s s' x.rd (rdB s x)) (hv:vop s C x):vop s' C x:=by
  cases x <;> simp only [AOp.val,QB] at hx <;> simp only [AOp.rd] at h <;> simp only [vop] at hv ⊢
  case pick=>rw [Agree.ev h.l,Agree.ev h.r.l,Agree.ev h.r.r]; exact hv
  case sls =>
    rw [Agree.ev h.l]
    obtain ⟨y,hy,hT⟩:=gX _ _ hv
    refine hT _ ?_
    obtain ⟨b,hb,hS⟩:=aRa _ _ hy
    refine hS _ ?_
    refine aLm h.r.r ?_
    obtain ⟨n,hn,hN⟩:=X9 _ _ _ _ hb
    exact hN _ (aLm h.r.l hn)
  case slc =>
    rw [Agree.ev h.l]
    obtain ⟨y,hy,hT⟩:=gX _ _ hv
    refine hT _ ?_
    obtain ⟨⟨n,l⟩,hb,hS⟩:=bJm _ (fun p=>lK s _ (p.2.length:Int) fun h=>lK s _ (p.2.length:Int) fun m=>lK s _ 0 fun lo=>p.1=_∧_∧0≤lo∧lo≤h∧h≤m∧m≤(p.2.length:Int)∧C (.d (.sl _ ((p.2.take h.toNat).drop lo.toNat)))) hy
    refine hS (fun p=>lK s' _ (p.2.length:Int) fun h=>lK s' _ (p.2.length:Int) fun m=>lK s' _ 0 fun lo=>p.1=_∧_∧0≤lo∧lo≤h∧h≤m∧m≤(p.2.length:Int)∧C (.d (.sl _ ((p.2.take h.toNat).drop lo.toNat)))) ?_
    refine aLm h.r.r.l ?_
    obtain ⟨u,hu,hU⟩:=X9 _ _ _ _ hb
    refine hU _ (aLm h.r.r.r ?_)
    obtain ⟨u,hu,hU⟩:=X9 _ _ _ _ hu
    exact hU _ (aLm h.r.l hu)
  case bld=>exact aXd h hv
  case mkf=>rw [Agree.evs h]; exact hv
  case ld d n g xo =>
    rw [Agree.ev h]
    have hB:=h.bx
    simp only [rdB] at hB
    have key:∀ v:V,v=(ev s xo).str→(match v with
        | .ptr b o=>∃ c,bget s.bx b=some c∧nU c=true∧oV n g (c.drop o) C
        | .trp b sz i o=>(∃ l c,bget s.bx b=some (.tro sz i l::c)∧oV n g (c.drop o) C)∨(∃ l ds,bget s.bx b=some [.trs sz l]∧l[i]?=some ds∧mU n g (ds.drop o) C)∨∃ l ds,bget s.bx b=some [.trc sz l]∧l[i]?=some ds∧((ds.drop o).take n).all D.flat=true∧mU n g ((ds.drop o).take n) C
        | .rp l=>mU n g l C
        | _=>False)→(match v with
        | .ptr b o=>∃ c,bget s'.bx b=some c∧nU c=true∧oV n g (c.drop o) C
        | .trp b sz i o=>(∃ l c,bget s'.bx b=some (.tro sz i l::c)∧oV n g (c.drop o) C)∨(∃ l ds,bget s'.bx b=some [.trs sz l]∧l[i]?=some ds∧mU n g (ds.drop o) C)∨∃ l ds,bget s'.bx b=some [.trc sz l]∧l[i]?=some ds∧((ds.drop o).take n).all D.flat=true∧mU n g ((ds.drop o).take n) C
        | .rp l=>mU n g l C
        | _=>False):=by
      intro v hvs hv
      split at hv
      · obtain ⟨c,hc,hl⟩:=hv
        rw [← hvs] at hB
        simp only [rdV,hc] at hB
        exact ⟨c,hB (_,c) (by simp),hl⟩
      · rw [← hvs] at hB
        rcases hv with ⟨l,c,hc,hl⟩ | ⟨l,ds,hc,hl⟩ | ⟨l,ds,hc,hl⟩
        · simp only [rdV,hc] at hB
          exact .inl ⟨l,c,hB (_,_) (QA.2 rfl),hl⟩
        · simp only [rdV,hc] at hB
          exact .inr (.inl ⟨l,ds,hB (_,_) (QA.2 rfl),hl⟩)
        · simp only [rdV,hc] at hB
          exact .inr (.inr ⟨l,ds,hB (_,_) (QA.2 rfl),hl⟩)
      · exact hv
      · exact hv.elim
    revert hv key
    generalize ev s xo=v
    intro hv key
    cases v with
    | ite c v=>exact ⟨hv.1,key _ rfl hv.2⟩
    | _=>exact key _ rfl hv
  case len d xo =>
    rw [Agree.ev h]
    have hB:=h.bx
    simp only [rdB] at hB
    have key:∀ v:V,v=(ev s xo).str→(match v with
        | .tre n=>trL s n fun l=>C (.d (.i .i64 l.length))
        | x=>O5 x C)→(match v with
        | .tre n=>trL s' n fun l=>C (.d (.i .i64 l.length))
        | x=>O5 x C):=by
      intro v hvs hv
      split at hv
      · rename_i n
        rw [← hvs] at hB
        unfold trL at hv ⊢
        cases hc:bget s.bx n with
        | none=>rw [hc] at hv; exact hv.elim
        | some c =>
          simp only [rdV,hc] at hB
          rw [hc] at hv
          rw [hB (n,c) (QA.2 rfl)]
          exact hv
      · exact hv
    revert hv key
    generalize ev s xo=v
    intro hv key
    cases v with
    | ite c v=>exact ⟨hv.1,key _ rfl hv.2⟩
    | _=>exact key _ rfl hv
  case ia d sz xo io =>
    rw [Agree.ev h.l,Agree.ev h.r]
    have hB:=h.bx
    simp only [rdB] at hB
    have key:∀ v:V,v=(ev s xo).str→(use (ev s io) fun i=>match v with
        | .tre n=>iaO s n sz i C
        | x=>iaK sz x i C)→(use (ev s io) fun i=>match v with
        | .tre n=>iaO s' n sz i C
        | x=>iaK sz x i C):=by
      intro v hvs hv
      cases v with
      | tre n =>
        refine bXd ?_ hv
        intro i hi
        refine cFq ?_ hi
        rintro k ⟨h0,hb,hC⟩
        rw [← hvs] at hB
        rcases hb with ⟨l,c,hc⟩ | ⟨l,hc,hlt⟩ | ⟨l,hc,hlt⟩
        · simp only [rdV,hc] at hB
          exact ⟨h0,.inl ⟨l,c,hB (_,_) (QA.2 rfl)⟩,hC⟩
        · simp only [rdV,hc] at hB
          exact ⟨h0,.inr (.inl ⟨l,hB (_,_) (QA.2 rfl),hlt⟩),hC⟩
        · simp only [rdV,hc] at hB
          exact ⟨h0,.inr (.inr ⟨l,hB (_,_) (QA.2 rfl),hlt⟩),hC⟩
      | _=>exact hv
    revert hv key
    generalize ev s xo=v
    intro hv key
    cases v with
    | ite c v=>exact ⟨hv.1,key _ rfl hv.2⟩
    | _=>exact key _ rfl hv
  all_goals first
    | (rw [Agree.ev h]; exact hv)
    | (rw [Agree.ev h.l,Agree.ev h.r]; exact hv)
end Go.Ab
