/- Steps: calls that are handed boxes and rights and yield such,in order or in an open order. -/
import Derived.Test.YtcbkkemcgcdhdaaGreatAbC1
namespace Go.Ab
open Go Go.RowKit
open _root_.Bool renaming and_eq_true→QA
open _root_.List renaming all_eq_true→QB,mem_map→QC,map_cons→QD,mem_append_right→QE,mem_cons→QF,map_append→QG,mem_append_left→QH,mem_append→QI
theorem aSz {b b':List (Nat×List V)} {L0 T':List (Nat×Nat)}:∀ {L:List (Nat×Nat)},(∀ n∈L.map (·.1),bget b n=bget b' n)→outs b L0 T' L=outs b' L0 T' L
  | [],_=>rfl
  | (a,c)::l,h=>by
    simp only [outs,QD]
    rw [h a (by simp)]
    congr 1
    exact aSz (L0:=L0) (T':=T') (L:=l) fun n hn=>h n (by simp only [QD,QF]; exact .inr hn)
theorem cC8 {B b:List (Nat×List V)} {l ns:List Nat} (hB:vU B b) (h:uA B l ns=true):uA b l ns=true∧∀ n∈l,bget b n=bget B n:=by
  refine ⟨QB.2 fun n hn=>?_,fun n hn=>?_⟩
  · obtain ⟨c,hc,hp⟩:=yH h hn
    rw [aX7 hB hc]; exact hp
  · obtain ⟨c,hc,hp⟩:=yH h hn
    rw [aX7 hB hc,hc]
theorem bI.congr (c:bI) {B b:List (Nat×List V)} (h:∀ n∈c.L'.map (·.1),bget b n=bget B n):c.wr b=c.wr B∧c.news b=c.news B :=
  ⟨aSz fun n hn=>h n (by unfold bI.L'; rw [QG]; exact QE _ hn),aSz fun n hn=>h n (by unfold bI.L'; rw [QG]; exact QH _ hn)⟩
def bI.hin (c:bI) (s:St) (vs:List V):Bool:=V.ptrsIns (c.L.map (·.2)) (c.lent s.bx vs)&&(uA s.bx (c.L.map (·.2)) (c.L.map (·.2))&&(c.ok&&c.brOk s.bx))
def bI.hd (c:bI) (d:Option Nat):Bool:=c.nw.all fun p=>d==some p.2||Nat.ble NX p.2
def bI.hcl (c:bI) (s:St) (d:Option Nat):Bool:=(c.TT.all fun t=>(s.dnT c.TT).clean t)&&(c.hd d&&c.nw.all fun p=>(s.dnT c.TT).fresh p.2)
def bI.hout (c:bI) (x:V) (B:List (Nat×List V)):Bool:=x.ptrsIn (c.L'.map (·.1))&&(uA B (c.L'.map (·.1)) (c.L'.map (·.1))&&match c.br with
  | []=>true
  | _=>x.sfree&&(c.L'.map (·.1)).all fun n=>V.sfrees ((bget B n).getD []))
theorem bI.hd_ok {c:bI} {d:Option Nat} (h:c.hd d=true):∀ p∈c.nw,d=some p.2∨NX≤p.2:=fun p hp=>by
  have:=QB.1 h p hp
  simp only [Bool.or_eq_true,beq_iff_eq] at this
  exact this.imp id Nat.le_of_ble_eq_true
theorem bI.hout_ok {c:bI} {x:V} {B:List (Nat×List V)} (h:c.hout x B=true):x.ptrsIn (c.L'.map (·.1))=true∧uA B (c.L'.map (·.1)) (c.L'.map (·.1))=true∧(c.br=[]∨(x.sfree=true∧∀ n∈c.L'.map (·.1),V.sfrees ((bget B n).getD [])=true)):=by
  unfold bI.hout at h
  simp only [QA] at h
  refine ⟨h.1,h.2.1,?_⟩
  have h3:=h.2.2
  split at h3
  · rename_i e; exact .inl e
  · simp only [QA,QB] at h3
    exact .inr h3
def bI.st (c:bI) (s:St) (B:List (Nat×List V)):St:=⟨dnE c.TT s.env,c.news B++gG (dnB c.TT s.bx) (c.wr B)⟩
theorem aN0 {P:Program} {s:St} {d:Option Nat} {f:FuncId} {vs args:List V} {fb B:List (Nat×List V)} {v:V} {K:V→St→Prop} (c:bI) (h:bF P f args fb fun x b=>x=v∧vU B b)
    (hargs:c.args s.bx vs=args) (hfb:c.fb s.bx=fb) (hin:c.hin s vs=true) (hcl:c.hcl s d=true) (hout:c.hout v B=true) (hK:K (c.res v) (c.st s B)):lJ P s d f vs K:=by
  simp only [bI.hin,bI.hcl,QA,QB] at hin hcl
  obtain ⟨o1,o2,o3⟩:=bI.hout_ok hout
  refine bUj c h hargs hin.1 hfb hin.2.1 hin.2.2.1 hin.2.2.2 hcl.1 (fun p hp=>⟨bI.hd_ok hcl.2.1 p hp,hcl.2.2 p hp⟩) fun x b hx=>?_
  obtain ⟨rfl,hb⟩:=hx
  obtain ⟨h1,h2⟩:=cC8 hb o2
  obtain ⟨k1,k2⟩:=c.congr h2
  refine ⟨o3.imp id fun h=>⟨h.1,fun n hn=>by rw [h2 n hn]; exact h.2 n hn⟩,o1,h1,?_⟩
  rw [k1,k2]
  exact hK
theorem cDn (s:St) (T:List Nat):Wk s (s.dnT T):=by
  intro E N κ w a _ h
  have g:=h.good
  refine ⟨κ,h.size,h.defers,fun n=>?_,g.patch (fun _=>False) (fun _=>False) (fun _=>False) rfl rfl rfl (Nat.le_refl _) (fun _ h=>h.elim) (fun _ _=>⟨rfl,rfl⟩) (fun _ h=>h.elim) (fun _ h=>h.elim) (fun _ h=>h.elim) (fun _ _=>rfl)
    (fun n c hc _=>?_) (fun _ _ _ h=>h.elim) (fun _ _ _ _ _ h=>h.elim) (fun t o ho _=>⟨ho,fun _ _ h=>h⟩) (fun _ _ _ h=>h.elim) (fun _ _ _ _ _ _ _ h=>h.elim)⟩
  · show aR κ _ (lk (dnE T s.env) n)
    rw [aE3]; exact (h.env n).dnV
  · change bget (dnB T s.bx) n=some c at hc
    rw [aBx] at hc
    obtain ⟨c0,h0,rfl⟩:=Option.map_eq_some_iff.1 hc
    exact ⟨c0,h0,rfl,rfl,Mv.dnVs,fun _ _ h=>h⟩
def evK (c:bI) (s:St) (o:AOp) (d:Option Nat) (v:V) (B:List (Nat×List V)) (tt tb:List Nat):Ev :=
  { o:=o,d:=d,r:=c.res v,rt:=oQ s o.rd,rb:=(c.L.map (·.2)++c.br).map (fun n=>(n,(bget s.bx n).getD [])),T:=c.TT,tt:=tt,tb:=tb,wr:=c.wr B,nw:=c.news B,fr:=c.nw.map (·.2) }
theorem bIb {c:bI} {s:St} {o:AOp} {d:Option Nat} {v:V} {B:List (Nat×List V)} {tt tb:List Nat} (hin:uA s.bx (c.L.map (·.2)) (c.L.map (·.2))=true) (hbr:c.brOk s.bx=true):Rd (evK c s o d v B tt tb) s:=by
  refine ⟨qH,fun p hp=>?_,fun p hp=>?_⟩
  · obtain ⟨n,hn,rfl⟩:=QC.1 hp
    rcases QI.1 hn with hn | hn
    · obtain ⟨c1,hc1,_⟩:=yH hin hn
      simp [hc1]
    · obtain ⟨_,sz,l,cc,h2,_⟩:=c.brGet hbr hn
      simp [h2]
  · obtain ⟨q,hq,rfl⟩:=QC.1 hp
    obtain ⟨c1,hc1,_⟩:=yH hin (QC.2 ⟨q,hq,rfl⟩)
    simp [hc1]
theorem bI.eff (c:bI) {s s':St} {o:AOp} {d:Option Nat} {v:V} {B:List (Nat×List V)} {tt tb:List Nat}:(c.st s' B).putO d (c.res v)=Go.Ab.eff (evK c s o d v B tt tb) s':=by
  cases d <;> rfl
theorem bFy {bx bx':List (Nat×List V)} {L0 T:List (Nat×Nat)} {Z:List (Nat×TypeId×Nat)}:∀ {L:List (Nat×Nat)} {nb:List (List (Option Nat))},(∀ n∈L.map (·.2),bget bx' n=bget bx n)→bxG bx' L0 T Z L nb=bxG bx L0 T Z L nb
  | [],_,_=>rfl
  | (a,b)::l,nb,h=>by
    simp only [bxG]
    rw [h b (by simp),bFy fun n hn=>h n (by simp only [QD,QF]; exact .inr hn)]
theorem bPm {bx bx':List (Nat×List V)} {l ns:List Nat} (h:∀ n∈l,bget bx' n=bget bx n) (hi:uA bx l ns=true):uA bx' l ns=true :=
  QB.2 fun n hn=>by
    obtain ⟨c,hc,hp⟩:=yH hi hn
    rw [h n hn,hc]; exact hp
theorem bM7 {P:Program} {c:bI} {s:St} {o:AOp} {d:Option Nat} {f:FuncId} {vs args:List V} {fb B:List (Nat×List V)} {v:V} {tt tb:List Nat} (h:bF P f args fb fun x b=>x=v∧vU B b)
    (hop:∀ s' K,(∀ t∈o.rd,lk s'.env t=lk s.env t)→lJ P s' d f vs (fun x s''=>K (s''.putO d x))→aop P s' K o)
    (hargs:c.args s.bx vs=args) (hfb:c.fb s.bx=fb) (hin:c.hin s vs=true) (hd:c.hd d=true) (hout:c.hout v B=true):nG P (evK c s o d v B tt tb):=by
  intro s' hrd hgl
  simp only [bI.hin,QA] at hin
  refine hop s' _ (kN hrd.rt) ?_
  have hb:∀ n∈c.L.map (·.2)++c.br,bget s'.bx n=bget s.bx n:=fun n hn=>by
    have:=hrd.rb (n,(bget s.bx n).getD []) (QC.2 ⟨n,hn,rfl⟩)
    rcases QI.1 hn with hn | hn
    · obtain ⟨c1,hc1,_⟩:=yH hin.2.1 hn
      rw [hc1] at this
      rw [this,hc1]; rfl
    · obtain ⟨_,sz,l,cc,h2,_⟩:=c.brGet hin.2.2.2 hn
      rw [h2] at this
      rw [this,h2]; rfl
  have hbL:∀ n∈c.L.map (·.2),bget s'.bx n=bget s.bx n:=fun n hn=>hb n (QH _ hn)
  have hbm:lV s'.bx c.br=lV s.bx c.br:=by
    funext n
    unfold lV
    split
    · rename_i h
      rw [hb n (QE _ (by simpa using h))]
    · rfl
  have hl:c.lent s'.bx vs=c.lent s.bx vs:=by
    unfold bI.lent
    split
    · rfl
    · rw [hbm]
  refine aN0 c h (by unfold bI.args; rw [hl]; exact hargs) ((bFy hbL).trans hfb) ?_ ?_ hout c.eff
  · simp only [bI.hin,QA]
    refine ⟨by rw [hl]; exact hin.1,bPm hbL hin.2.1,hin.2.2.1,QB.2 fun n hn=>?_⟩
    rw [hb n (QE _ hn)]
    exact QB.1 hin.2.2.2 n hn
  · simp only [bI.hcl,QA,QB]
    exact ⟨hgl.cl,hd,fun p hp=>hgl.fr p.2 (QC.2 ⟨p,hp,rfl⟩)⟩
section
variable {P:Program} {K:St→Prop} {KD:List Ev→St→Prop} {rest:List AOp} {acc:List Ev} {s:St} {α β:Type} {r:β}
theorem bTk (c:bI) {f:FuncId} {xs:List AO} {dd:Option Nat} {args:List V} {fb:List (Nat×List V)} {m:Option α} {v:α→V} {B:α→List (Nat×List V)} {kF:α→Option β} {S':α→St} (h:(m>>=kF)=some r) (hg:cO P f args fb v B m)
    (hargs:c.args s.bx (xs.map (ev s))=args) (hfb:c.fb s.bx=fb) (hin:c.hin s (xs.map (ev s))=true) (hcl:c.hcl s dd=true) (hout:∀ y,c.hout (v y) (B y)=true)
    (hS:∀ y,(c.st s (B y)).putO dd (c.res (v y))=S' y) (hk:∀ y,kF y=some r→bN P K rest (S' y)):bN P K (.call dd f xs::rest) s:=by
  cases m with
  | none=>simp at h
  | some y=>exact aN0 c (hg y rfl) hargs hfb hin hcl (hout y) (by rw [hS]; exact hk y h)
theorem bNt (c:bI) {f:FuncId} {fo:AO} {caps:List V} {xs:List AO} {dd:Option Nat} {args:List V} {fb:List (Nat×List V)} {m:Option α} {v:α→V} {B:α→List (Nat×List V)} {kF:α→Option β} {S':α→St} (h:(m>>=kF)=some r) (hg:cO P f args fb v B m)
    (hfn:(ev s fo).vw=.fn f caps) (hgo:qD P f=true)
    (hargs:c.args s.bx (xs.map (ev s)++caps)=args) (hfb:c.fb s.bx=fb) (hin:c.hin s (xs.map (ev s)++caps)=true) (hcl:c.hcl s dd=true) (hout:∀ y,c.hout (v y) (B y)=true)
    (hS:∀ y,(c.st s (B y)).putO dd (c.res (v y))=S' y) (hk:∀ y,kF y=some r→bN P K rest (S' y)):bN P K (.callv dd fo xs::rest) s:=by
  cases m with
  | none=>simp at h
  | some y =>
    show aop P s (bN P K rest) (.callv dd fo xs)
    refine aN7 hfn ?_
    rw [hfn]
    exact .inl ⟨hgo,aN0 c (hg y rfl) hargs hfb hin hcl (hout y) (by rw [hS]; exact hk y h)⟩
theorem cA3 (c:bI) (tt tb:List Nat) {f:FuncId} {xs:List AO} {dd:Option Nat} {args:List V} {fb:List (Nat×List V)} {m:Option α} {v:α→V} {B:α→List (Nat×List V)} {kF:α→Option β} {S':α→St} (h:(m>>=kF)=some r) (hg:cO P f args fb v B m)
    (hargs:c.args s.bx (xs.map (ev s))=args) (hfb:c.fb s.bx=fb) (hin:c.hin s (xs.map (ev s))=true) (hd:c.hd dd=true) (hout:∀ y,c.hout (v y) (B y)=true)
    (hS:∀ y,eff (evK c s (.call dd f xs) dd (v y) (B y) tt tb) s=S' y) (hk:∀ y,kF y=some r→dgo P KD rest (evK c s (.call dd f xs) dd (v y) (B y) tt tb::acc) (S' y)):dgo P KD (.call dd f xs::rest) acc s:=by
  cases m with
  | none=>simp at h
  | some y =>
    refine ⟨_,rfl,bM7 (hg y rfl) (fun s' K' hrd hk'=>?_) hargs hfb hin hd (hout y),bIb (by simp only [bI.hin,QA] at hin; exact hin.2.1) (by simp only [bI.hin,QA] at hin; exact hin.2.2.2),by rw [hS]; exact hk y h⟩
    have e:xs.map (ev s')=xs.map (ev s):=Agree.evs (B:=[]) ⟨hrd,fun p hp=>by simp at hp⟩
    show lJ P s' dd f (xs.map (ev s')) fun x s''=>K' (s''.putO dd x)
    rw [e]; exact hk'
theorem bUw (c:bI) (tt tb:List Nat) {f:FuncId} {fo:AO} {caps:List V} {xs:List AO} {dd:Option Nat} {args:List V} {fb:List (Nat×List V)} {m:Option α} {v:α→V} {B:α→List (Nat×List V)} {kF:α→Option β} {S':α→St} (h:(m>>=kF)=some r) (hg:cO P f args fb v B m)
    (hfn:(ev s fo).vw=.fn f caps) (hgo:qD P f=true)
    (hargs:c.args s.bx (xs.map (ev s)++caps)=args) (hfb:c.fb s.bx=fb) (hin:c.hin s (xs.map (ev s)++caps)=true) (hd:c.hd dd=true) (hout:∀ y,c.hout (v y) (B y)=true)
    (hS:∀ y,eff (evK c s (.callv dd fo xs) dd (v y) (B y) tt tb) s=S' y) (hk:∀ y,kF y=some r→dgo P KD rest (evK c s (.callv dd fo xs) dd (v y) (B y) tt tb::acc) (S' y)):dgo P KD (.callv dd fo xs::rest) acc s:=by
  cases m with
  | none=>simp at h
  | some y =>
    refine ⟨_,rfl,bM7 (hg y rfl) (fun s' K' hrd hk'=>?_) hargs hfb hin hd (hout y),bIb (by simp only [bI.hin,QA] at hin; exact hin.2.1) (by simp only [bI.hin,QA] at hin; exact hin.2.2.2),by rw [hS]; exact hk y h⟩
    have e:(fo::xs).map (ev s')=(fo::xs).map (ev s):=Agree.evs (B:=[]) ⟨hrd,fun p hp=>by simp at hp⟩
    simp only [QD,List.cons.injEq] at e
    show aop P s' K' (.callv dd fo xs)
    simp only [aop,e.1,e.2]
    refine aN7 hfn ?_
    rw [hfn]
    exact .inl ⟨hgo,hk'⟩
theorem aKy (c:bI) {j d:Nat} {want p b:Bool} {f:FuncId} {xs:List AO} {args:List V} {fb:List (Nat×List V)} {m:Option α} {dflt:α} {v:α→V} {B:α→List (Nat×List V)} {kF:α→Option β} {S':α→St}
    (h:((if (p&&(b==want))=true then m else some dflt)>>=kF)=some r) (hb:iW (lk s.env j)=some (p,b)) (hg:cO P f args fb v B m)
    (hargs:(p&&(b==want))=true→c.args s.bx (strs (xs.map (ev s)))=args) (hfb:c.fb s.bx=fb) (hin:c.hin s (strs (xs.map (ev s)))=true) (hcl:c.hcl s (some d)=true) (hout:∀ y,c.hout (v y) (B y)=true)
    (hd0:c.st s (B dflt)=s.dnT c.TT) (hn:(p&&(b==want))=true→(conds s xs).all id=true)
    (hS:∀ y,(c.st s (B y)).put d (.ite (p&&(b==want)) (c.res (v y)))=S' y) (hk:∀ y,kF y=some r→bN P K rest (S' y)):bN P K (.g j want (.call (some d) f xs)::rest) s:=by
  show aop P s (bN P K rest) (.g j want (.call (some d) f xs))
  simp only [aop]
  have key:∃ y,kF y=some r∧((p&&(b==want))=true→m=some y)∧((p&&(b==want))=false→y=dflt):=by
    by_cases hc:(p&&(b==want))=true
    · rw [if_pos hc] at h
      cases m with
      | none=>simp at h
      | some y=>exact ⟨y,h,fun _=>rfl,fun h'=>by rw [hc] at h'; simp at h'⟩
    · rw [if_neg hc] at h
      exact ⟨dflt,h,fun h'=>absurd h' hc,fun _=>rfl⟩
  obtain ⟨y,hy,hm,hm0⟩:=key
  refine xV hb ⟨c.res (v y),c.st s (B y),fun hc=>?_,fun hc=>?_,?_⟩
  · exact aZ2 (hn hc) (aN0 c (hg y (hm hc)) (hargs hc) hfb hin hcl (hout y) ⟨rfl,rfl⟩)
  · obtain rfl:=hm0 hc
    rw [hd0]
    exact cDn s c.TT
  · have e:=hk y hy
    rw [← hS] at e
    exact e
end
end Go.Ab
