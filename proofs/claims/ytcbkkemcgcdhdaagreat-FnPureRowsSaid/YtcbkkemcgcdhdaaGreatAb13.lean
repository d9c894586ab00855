/- Guards,lists of operations,code; soundness of the conditions that 'avc' generates. -/
import Derived.Test.YtcbkkemcgcdhdaaGreatAb12
namespace Go.Ab
open Go Go.RowKit
open _root_.Option renaming map_eq_some_iff→QA
open _root_.Bool renaming and_eq_true→QB
section
variable {E:Entry} {N:Nat} {κ:Ctx} {w:World} {a:Act} {s:St} {P:Program} {K:St→Prop} {Q:Exit→Act→World→Prop}
theorem bW7 {v:Value} {x:V} {C:Bool→Bool→Prop} (h:aR κ v x) (hu:bK x C):∃ p b,(p=true→v=.bool b)∧(p=false→v=undef)∧C p b:=by
  unfold bK at hu
  split at hu
  · exact ⟨true,_,fun _=>h.toD.toB,fun h=>by simp at h,hu⟩
  · cases h with
    | yes h=>exact ⟨true,_,fun _=>h.toD.toB,fun h=>by simp at h,hu⟩
    | no=>exact ⟨false,_,fun h=>by simp at h,fun _=>rfl,hu⟩
  · cases h; exact ⟨false,_,fun h=>by simp at h,fun _=>rfl,hu⟩
  · exact hu.elim
theorem bLq {o:Oper} {x:AOp} (h:eO P o=some x):o.dst=x.dst:=by
  obtain ⟨dst,op,type,pos,after,guard⟩:=o
  cases op <;> simp only [eO] at h <;> (repeat' split at h) <;> first | (simp at h; done) | (simp at h; subst h; rfl) | (simp at h; subst h; cases dst <;> rfl) | (obtain ⟨_,_,rfl⟩:=QA.1 h; rfl)
def aC1 (P:Program) (ops:Array Oper) (Q:Exit→Act→World→Prop) (o:Oper) (K':Act→World→Prop) (a:Act) (w:World):Prop :=
  if Region.wanted o (yielded ops a.tmps) then o.wp P a w K' Q∨(o.asks P a w∧LetsOut Q) else K' (a.put o.dst undef) w
theorem aO4 {o:Oper} {K1 K2:Act→World→Prop} (h1:o.wp P a w K1 Q) (hK:∀ a w,K1 a w→K2 a w):o.wp P a w K2 Q:=by
  unfold Oper.wp at h1 ⊢
  revert h1
  generalize (execOp a.eval o).run P w=r
  intro h1
  cases r with
  | ok n w' =>
    cases n with
    | enter f args =>
      simp only [Oper.upon_enter] at h1 ⊢
      refine h1.mono ?_
      intro e w'' he
      cases e with
      | returned v=>exact hK _ _ he
      | panicked c=>exact he
      | outgrown=>exact he
    | row r args=>exact Rows.mono h1 fun v w'' he=>hK _ _ he
    | value v=>exact hK _ _ h1
    | skip=>exact hK _ _ h1
    | defer d=>exact hK _ _ h1
    | _=>exact h1
  | halt hh w' =>
    cases hh with
    | panic v=>exact h1
    | _=>exact h1
theorem bYg {ops:Array Oper} {o:Oper} {x:AOp} {K':Act→World→Prop} (hg:o.guard=none) (htr:eO P o=some x) (hdN:∀ d,x.dst=some d→d<N) (hfb:∀ n∈E.fb,N≤n∧n<NX) (h:Ok E N κ w a s) (hv:aop P s K x)
    (hK:∀ a w,KC E N K a w→K' a w):aC1 P ops Q o K' a w:=by
  unfold aC1
  rw [if_pos (by simp [Region.wanted,hg])]
  exact .inl (aO4 (aI0 htr hdN hfb h hv) hK)
theorem cEd {ops:Array Oper} {o:Oper} {x:AOp} {K':Act→World→Prop} {j t d:Nat} {want:Bool} (hg:o.guard=some (j,want)) (ht:(ops[j]?).bind (·.dst)=some t) (ht':t<N) (htr:eO P o=some x) (hd:x.dst=some d) (hdN:d<N) (hfb:∀ n∈E.fb,N≤n∧n<NX) (h:Ok E N κ w a s)
    (hv:bK (lk s.env t) fun p b=>∃ r s1,((p&&(b==want))=true→o.wp P a w (KC E N fun s'=>s'=s1.put d r) Q)∧((p&&(b==want))=false→Wk s s1)∧K (s1.put d (.ite (p&&(b==want)) r)))
    (hK:∀ a w,KC E N K a w→K' a w):aC1 P ops Q o K' a w:=by
  have hod:=bLq htr
  have hy:yielded ops a.tmps j=match a.tmps.getD t undef with | .bool b=>some b | _=>none:=by
    unfold yielded
    rw [ht]
    have:a.tmps[t]?=some (a.tmps.getD t undef):=by
      rw [Array.getD_eq_getD_getElem?]
      have hlt:t<a.tmps.size:=by rw [h.size]; exact ht'
      simp [hlt]
    simp only [Option.bind_some,this]
    generalize a.tmps.getD t undef=v
    cases v <;> rfl
  obtain ⟨p,b,hp,hnp,r,s1,hr,hs1,hKr⟩:=bW7 (h.env t) hv
  have hw:Region.wanted o (yielded ops a.tmps)=(p&&(b==want)):=by
    unfold Region.wanted
    simp only [hg,hy]
    cases p with
    | true=>rw [hp rfl]; cases b <;> cases want <;> rfl
    | false=>rw [hnp rfl]; rfl
  unfold aC1
  cases hc:(p&&(b==want)) with
  | false =>
    rw [hc] at hw hKr
    obtain ⟨κ',h'⟩:=hs1 hc _ _ _ _ _ hfb h
    rw [hw]
    refine hK _ _ ?_
    rw [hod,hd]
    exact aWr h' hdN .no hKr
  | true =>
    rw [hc] at hw hKr
    rw [if_pos hw]
    refine .inl (aO4 (hr hc) ?_)
    rintro a' w' ⟨κ',s',rfl,hok⟩
    refine hK _ _ ⟨κ',s1.put d (.ite true r),hKr,⟨hok.size,hok.defers,fun n=>?_,hok.good⟩⟩
    have:=hok.env n
    simp only [St.put,lk] at this ⊢
    split
    · rename_i hn; rw [if_pos hn] at this; exact .yes this
    · rename_i hn; rw [if_neg hn] at this; exact this
theorem cFf {o:Oper} {x:AOp} {d:Nat} {r:V} (htr:eO P o=some x) (hd:x.dst=some d) (hdN:d<N) (h:Ok E N κ w a s) (hv:vop s (fun v=>v=r) x):o.wp P a w (KC E N fun s'=>s'=s.put d r) Q:=by
  obtain ⟨_,v,y,hr,hy,rfl⟩:=bI4 htr h.env h.good hv
  exact aUb (by rw [bLq htr,hd]) h hdN hr hy rfl
theorem bTg {o:Oper} {d:Nat} {f:FuncId} {args:List AO} {r:V} {s1:St} (htr:eO P o=some (.call (some d) f args)) (hdN:d<N) (hfb:∀ n∈E.fb,N≤n∧n<NX) (h:Ok E N κ w a s) (hv:lJ P s (some d) f (args.map (ev s)) fun y s'=>y=r∧s'=s1) :
    o.wp P a w (KC E N fun s'=>s'=s1.put d r) Q:=by
  refine aI0 htr (fun d' hd'=>by simp [AOp.dst] at hd'; omega) hfb h ?_
  intro E' N' κ' w' a' cargs hfb' hdN' hok hargs
  refine (hv E' N' κ' w' a' cargs hfb' hdN' hok hargs).mono ?_
  rintro e w'' ⟨v,y,κ'',s'',rfl,hok',hy',rfl,rfl⟩
  exact ⟨v,y,κ'',s'',rfl,hok',hy',rfl⟩
theorem bX8 {o:Oper} {d:Nat} {fo:AO} {args:List AO} {r:V} {s1:St} (htr:eO P o=some (.callv (some d) fo args)) (hdN:d<N) (hfb:∀ n∈E.fb,N≤n∧n<NX) (h:Ok E N κ w a s)
    (hv:use (ev s fo) fun f=>match f.vw with | .fn g caps=>qD P g=true∧lJ P s (some d) g (args.map (ev s)++caps) fun y s'=>y=r∧s'=s1 | _=>False):o.wp P a w (KC E N fun s'=>s'=s1.put d r) Q:=by
  refine aI0 htr (fun d' hd'=>by simp [AOp.dst] at hd'; omega) hfb h ?_
  have key:∀ f:V,(match f.vw with | .fn g caps=>qD P g=true∧lJ P s (some d) g (args.map (ev s)++caps) fun y s'=>y=r∧s'=s1 | _=>False) →
      (match f.vw with | .fn g caps=>(qD P g=true∧lJ P s (some d) g (args.map (ev s)++caps) fun x s'=>s'.putO (some d) x=s1.put d r)∨(∃ q,g=mvc q∧G8 P q=true∧lJ P s (some d) q (caps++args.map (ev s)) fun x s'=>s'.putO (some d) x=s1.put d r) | _=>False):=by
    intro f hf
    generalize f.vw=f at hf
    split at hf
    · refine .inl ⟨hf.1,fun E' N' κ' w' a' cargs hfb' hdN' hok hargs=>(hf.2 E' N' κ' w' a' cargs hfb' hdN' hok hargs).mono ?_⟩
      rintro e w'' ⟨v,y,κ'',s'',rfl,hok',hy',rfl,rfl⟩
      exact ⟨v,y,κ'',s'',rfl,hok',hy',rfl⟩
    · exact hf.elim
  have um:∀ {x:V} {C C':V→Prop},(∀ v,C v→C' v)→use x C→use x C':=fun {x C C'} h hu=>by cases x <;> first | exact h _ hu | exact ⟨hu.1,h _ hu.2⟩
  exact um key hv
theorem bE1 {sz:Nat}:∀ {xs:List AO} {C C':List (List D)→Prop},(∀ l,C l→C' l)→xL s sz xs C→xL s sz xs C'
  | [],_,_,hC,h=>hC _ h
  | x::r,C,C',hC,h=>by
    have um:∀ {x:V} {C C':V→Prop},(∀ v,C v→C' v)→use x C→use x C':=fun {x C C'} h hu=>by cases x <;> first | exact h _ hu | exact ⟨hu.1,h _ hu.2⟩
    exact um (fun v ⟨h1,ds,h2,h3,h4⟩=>⟨h1,ds,h2,h3,bE1 (fun l hl=>hC _ hl) h4⟩) h
theorem cJi {o:Oper} {d:Nat} {e:TypeId} {sz:Nat} {xs:List AO} {r:V} (htr:eO P o=some (.bsl d e sz xs)) (hdN:d<N) (hfb:∀ n∈E.fb,N≤n∧n<NX) (h:Ok E N κ w a s) (hv:s.fresh d=true∧xL s sz xs fun l=>r=.d (.sl sz l)) :
    o.wp P a w (KC E N fun s'=>s'=s.put d r) Q:=by
  refine aO4 (K1:=KC E N fun s'=>∃ l,r=.d (.sl sz l)∧s'=⟨(d,.osl d e sz l)::s.env,s.bx⟩) (aI0 htr (fun d' hd'=>by simp [AOp.dst] at hd'; omega) hfb h (.inl ⟨hv.1,bE1 (fun l hl=>⟨l,hl,rfl⟩) hv.2⟩)) ?_
  rintro a' w' ⟨κ',s',⟨l,rfl,rfl⟩,hok⟩
  refine ⟨κ',_,rfl,hok.size,hok.defers,fun n=>?_,hok.good⟩
  have:=hok.env n
  simp only [St.put,lk] at this ⊢
  split
  · rename_i hn
    rw [if_pos hn] at this
    have h2:=this.dn d
    simpa [V.dn,V.dn0,V.dn1] using h2
  · rename_i hn; rw [if_neg hn] at this; exact this
theorem cG1 (s:St) (t:Nat):Wk s (s.dn t):=by
  intro E N κ w a _ h
  have g:=h.good
  refine ⟨κ,h.size,h.defers,fun n=>?_,g.patch (fun _=>False) (fun _=>False) (fun _=>False) rfl rfl rfl (Nat.le_refl _) (fun _ h=>h.elim) (fun _ _=>⟨rfl,rfl⟩) (fun _ h=>h.elim) (fun _ h=>h.elim) (fun _ h=>h.elim) (fun _ _=>rfl)
    (fun n c hc _=>?_) (fun _ _ _ h=>h.elim) (fun _ _ _ _ _ h=>h.elim) (fun t o ho _=>⟨ho,fun _ _ h=>h⟩) (fun _ _ _ h=>h.elim) (fun _ _ _ _ _ _ _ h=>h.elim)⟩
  · show aR κ _ (lk (mI t s.env) n)
    rw [aM9]; exact (h.env n).dn t
  · change bget (kT t s.bx) n=some c at hc
    rw [aIm] at hc
    obtain ⟨c0,h0,rfl⟩:=QA.1 hc
    exact ⟨c0,h0,rfl,rfl,Mv.dn t c0,fun _ _ h=>h⟩
theorem cCq {x:V} {C C':Nat→List (List D)→Prop} (hC:∀ n l,C n l→C' n l) (h:srK x C):srK x C':=by
  unfold srK at h ⊢
  split at h
  · exact hC _ _ h
  · unfold slK at h ⊢
    split at h <;> first | exact hC _ _ h | exact h
theorem bXi {o:Oper} {d:Nat} {e e':TypeId} {sz by' t:Nat} {x y:AO} {xs:List (List D)} {r:V} (htr:eO P o=some (.app d e sz by' x y)) (hdN:d<N) (hfb:∀ n∈E.fb,N≤n∧n<NX) (h:Ok E N κ w a s) (hv:use (ev s x) fun x=>x=.osl t e' sz xs∧bLt s d e sz by' t e' xs (ev s y) r) :
    o.wp P a w (KC E N fun s'=>s'=(s.dn t).put d r) Q:=by
  have um:∀ {x:V} {C C':V→Prop},(∀ v,C v→C' v)→use x C→use x C':=fun {x C C'} h hu=>by cases x <;> first | exact h _ hu | exact ⟨hu.1,h _ hu.2⟩
  refine aO4 (K1:=KC E N fun s'=>∃ l,r=.d (.sl sz l)∧s'=⟨(d,.osl d e' sz l)::(s.dn t).env,(s.dn t).bx⟩) (aI0 htr (fun d' hd'=>by simp [AOp.dst] at hd'; omega) hfb h ?_) ?_
  · show use (ev s x) _
    refine um (x:=ev s x) (fun v hv=>?_) hv
    obtain ⟨rfl,hv⟩:=hv
    exact um (x:=ev s y) (fun v hv=>.inl (cCq (fun n l hh=>⟨hh.1,hh.2.1,rfl,hh.2.2.1,hh.2.2.2.1,hh.2.2.2.2.1,_,hh.2.2.2.2.2,rfl⟩) hv)) hv
  · rintro a' w' ⟨κ',s',⟨l,rfl,rfl⟩,hok⟩
    refine ⟨κ',_,rfl,hok.size,hok.defers,fun n=>?_,hok.good⟩
    have:=hok.env n
    simp only [St.put,lk] at this ⊢
    split
    · rename_i hn
      rw [if_pos hn] at this
      have h2:=this.dn d
      simpa [V.dn,V.dn0,V.dn1] using h2
    · rename_i hn; rw [if_neg hn] at this; exact this
theorem bFe {ops:Array Oper} {o:Oper} {ao:AOp} {K':Act→World→Prop} (htr:aG7 P (fun j=>(ops[j]?).bind (·.dst)) o=some ao) (hdN:∀ d,ao.dst=some d→d<N) (hgN:∀ t b x,ao=.g t b x→t<N) (hfb:∀ n∈E.fb,N≤n∧n<NX) (h:Ok E N κ w a s) (hv:aop P s K ao)
    (hrest:∀ a w,KC E N K a w→K' a w):aC1 P ops Q o K' a w:=by
  unfold aG7 at htr
  split at htr
  · rename_i hx hg
    simp at htr; subst htr
    exact bYg hg hx hdN hfb h hv hrest
  · rename_i x j want hx hg
    split at htr <;> simp at htr
    rename_i t ht
    dsimp only at ht
    subst htr
    have ht':t<N:=hgN t want x rfl
    simp only [aop] at hv
    have go:∀ d,x.dst=some d→(bK (lk s.env t) fun p b=>∃ r s1,((p&&(b==want))=true→o.wp P a w (KC E N fun s'=>s'=s1.put d r) Q)∧((p&&(b==want))=false→Wk s s1)∧K (s1.put d (.ite (p&&(b==want)) r)))→aC1 P ops Q o K' a w :=
      fun d hd hb=>cEd hg ht ht' hx hd (hdN d hd) hfb h hb hrest
    have bmono:∀ {C C':Bool→Bool→Prop},(∀ p b,C p b→C' p b)→bK (lk s.env t) C→bK (lk s.env t) C':=by
      intro C C' hCC hb
      unfold bK at hb ⊢
      split at hb <;> first | exact hCC _ _ hb | exact hb
    have goV:∀ d,x.dst=some d→(bK (lk s.env t) fun p b=>∃ r,((p&&(b==want))=true→vop s (fun v=>v=r) x)∧K (s.put d (.ite (p&&(b==want)) r)))→aC1 P ops Q o K' a w :=
      fun d hd hb=>go d hd (bmono (fun p b ⟨r,h1,h2⟩=>⟨r,s,fun hc=>cFf hx hd (hdN d hd) h (h1 hc),fun _=>Wk.refl s,h2⟩) hb)
    cases x with
    | call d f args =>
      cases d with
      | some d=>exact go d rfl (bmono (fun p b ⟨r,s1,h1,h0,h2⟩=>⟨r,s1,fun hc=>bTg hx (hdN d rfl) hfb h (h1 hc),h0,h2⟩) hv)
      | none =>
        exfalso
        unfold bK at hv
        split at hv <;> exact hv
    | callv d f args =>
      cases d with
      | some d=>exact go d rfl (bmono (fun p b ⟨r,s1,h1,h0,h2⟩=>⟨r,s1,fun hc=>bX8 hx (hdN d rfl) hfb h (h1 hc),h0,h2⟩) hv)
      | none =>
        exfalso
        unfold bK at hv
        split at hv <;> exact hv
    | app d e sz by' x y=>exact go d rfl (bmono (fun p b ⟨t,e',xs,r,h1,h2⟩=>⟨r,s.dn t,fun hc=>bXi hx (hdN d rfl) hfb h (h1 hc),fun _=>cG1 s t,h2⟩) hv)
    | bsl d e sz xs=>exact go d rfl (bmono (fun p b ⟨r,h1,h2⟩=>⟨r,s,fun hc=>cJi hx (hdN d rfl) hfb h (h1 hc),fun _=>Wk.refl s,h2⟩) hv)
    | st =>
      exfalso
      unfold bK at hv
      split at hv <;> exact hv
    | g j' w' x' => exact absurd hx (by
        intro hx
        have:∀ {o:Oper} {y:AOp},eO P o=some y→∀ a b c,y≠.g a b c:=by
          intro o y hy a b c he
          subst he
          obtain ⟨dst,op,type,pos,after,guard⟩:=o
          cases op <;> simp only [eO] at hy <;> (repeat' split at hy) <;> first | (simp at hy; done) | (cases dst <;> simp [aO1] at hy; done) | (obtain ⟨_,_,h⟩:=QA.1 hy; simp at h; done)
        exact this hx _ _ _ rfl)
    | _=>exact goV _ rfl hv
  · simp at htr
theorem bZh {ops:Array Oper} {o:Oper} {ao:AOp} {rest:List Oper} (htr:aG7 P (fun j=>(ops[j]?).bind (·.dst)) o=some ao) (hdN:∀ d,ao.dst=some d→d<N) (hgN:∀ t b x,ao=.g t b x→t<N) (hfb:∀ n∈E.fb,N≤n∧n<NX) (h:Ok E N κ w a s) (hv:aop P s K ao)
    (hrest:∀ a w,KC E N K a w→wpList P ops Q rest a w):wpList P ops Q (o::rest) a w :=
  bFe (K':=wpList P ops Q rest) htr hdN hgN hfb h hv hrest
end
def yA (P:Program) (gd:Nat→Option Nat):List Oper→Option (List AOp)
  | []=>some []
  | o::r=>match aG7 P gd o,yA P gd r with
    | some x,some xs=>some (x::xs)
    | _,_=>none
def AOp.fits (N:Nat):AOp→Bool
  | .g t _ o=>t<N&&o.fits N
  | o=>match o.dst with
    | some d=>d<N
    | none=>true
theorem AOp.fits_dst {N:Nat}:∀ {o:AOp},o.fits N=true→∀ d,o.dst=some d→d<N
  | .g t b o,h,d,hd=>by simp only [AOp.fits,QB] at h; exact AOp.fits_dst h.2 d hd
  | .mv ..,h,d,hd | .asg ..,h,d,hd | .pick ..,h,d,hd | .bin ..,h,d,hd | .eqb ..,h,d,hd | .eqv ..,h,d,hd | .eqn ..,h,d,hd | .not ..,h,d,hd | .neg ..,h,d,hd | .cvi ..,h,d,hd
  | .cbs ..,h,d,hd | .fld ..,h,d,hd | .fa ..,h,d,hd | .ia ..,h,d,hd | .ix ..,h,d,hd | .sls ..,h,d,hd | .slc ..,h,d,hd | .bld ..,h,d,hd | .len ..,h,d,hd | .lns ..,h,d,hd | .max ..,h,d,hd
  | .min ..,h,d,hd | .mkf ..,h,d,hd | .ext ..,h,d,hd | .nck ..,h,d,hd | .ld ..,h,d,hd | .box ..,h,d,hd | .alc ..,h,d,hd | .bsl ..,h,d,hd | .app ..,h,d,hd | .mks ..,h,d,hd | .csb ..,h,d,hd=>by
    simp [AOp.dst] at hd; subst hd; simpa [AOp.fits,AOp.dst] using h
  | .call ..,h,d,hd | .callv ..,h,d,hd=>by simp [AOp.dst] at hd; subst hd; simpa [AOp.fits,AOp.dst] using h
  | .st ..,_,d,hd=>by simp [AOp.dst] at hd
section
variable {E:Entry} {N:Nat} {κ:Ctx} {w:World} {a:Act} {s:St} {P:Program} {K:St→Prop} {Q:Exit→Act→World→Prop}
theorem bKj {ops:Array Oper}:∀ {l:List Oper} {al:List AOp} {κ:Ctx} {w:World} {a:Act} {s:St},yA P (fun j=>(ops[j]?).bind (·.dst)) l=some al→(al.all (·.fits N))=true→(∀ n∈E.fb,N≤n∧n<NX)→Ok E N κ w a s→bN P K al s →
    (∀ a w,KC E N K a w→Q .normal a w)→wpList P ops Q l a w
  | [],al,κ,w,a,s,htr,hN,hfb,h,hv,hQ=>by
    simp [yA] at htr; subst htr
    exact hQ _ _ ⟨κ,s,hv,h⟩
  | o::r,al,κ,w,a,s,htr,hN,hfb,h,hv,hQ=>by
    simp only [yA] at htr
    split at htr <;> simp at htr
    rename_i x xs hx hxs
    subst htr
    simp only [List.all_cons,QB] at hN
    refine bZh hx (AOp.fits_dst hN.1) (fun t b y hy=>by subst hy; have:=hN.1; simp only [AOp.fits,QB,decide_eq_true_eq] at this; exact this.1) hfb h hv ?_
    rintro a' w' ⟨κ',s',hK,hok⟩
    exact bKj hxs hN.2 hfb hok hK hQ
end
end Go.Ab
