/- Steps: calls that are handed boxes and rights and yield such,in order or in an open order. -/
import Derived.Test.YtcbkkemcgcdhdabGreatAbC1
namespace Go.Ab
open Go Go.RowKit
open _root_.Bool renaming and_eq_true→QA
open _root_.List renaming all_eq_true→QB,mem_map→QC,map_cons→QD,mem_append_right→QE,mem_cons→QF,map_append→QG,mem_append_left→QH,mem_append→QI
variable {B fb b bx bx':List (Nat×List V)} {f:FuncId} {args vs caps:List V} {d dd:Option Nat} {xs:List AO} {c:bO} {s:St} {v:V} {o:AOp} {tt tb l ns:List Nat} {P:Program} {fo:AO}
theorem aVv {b b':List (Nat×List V)} {L0 T':List (Nat×Nat)}:∀ {L:List (Nat×Nat)},(∀ n∈L.map (·.1),bget b n=bget b' n)→outs b L0 T' L=outs b' L0 T' L
  | [],_=>rfl
  | (a,c)::l,h=>by
    simp only [outs,QD]
    rw [h a (by simp)]
    congr 1
    exact aVv (L0:=L0) (T':=T') (L:=l) fun n hn=>h n (by simp only [QD,QF]; exact .inr hn)
theorem cG4 (hB:F6 B b) (h:tV B l ns=true):tV b l ns=true∧∀ n∈l,bget b n=bget B n:=by
 refine ⟨QB.2 fun n hn=>?_,fun n hn=>?_⟩
 ·obtain ⟨c,hc,hp⟩:=xN h hn;rw [aYp hB hc]; exact hp
 ·obtain ⟨c,hc,hp⟩:=xN h hn;rw [aYp hB hc,hc]
theorem bO.congr (c:bO) (h:∀ n∈c.L'.map (·.1),bget b n=bget B n):c.wr b=c.wr B∧c.news b=c.news B :=
 ⟨aVv fun n hn=>h n (by unfold bO.L'; rw [QG]; exact QE _ hn),aVv fun n hn=>h n (by unfold bO.L'; rw [QG]; exact QH _ hn)⟩
def bO.hin (c:bO) (s:St) (vs:List V):Bool:=V.ptrsIns (c.L.map (·.2)) (c.lent s.bx vs)&&(tV s.bx (c.L.map (·.2)) (c.L.map (·.2))&&(c.ok&&c.brOk s.bx))
def bO.hd (c:bO) (d:Option Nat):Bool:=c.nw.all fun p=>d==some p.2||Nat.ble NX p.2
def bO.hcl (c:bO) (s:St) (d:Option Nat):Bool:=(c.TT.all fun t=>(s.dnT c.TT).clean t)&&(c.hd d&&c.nw.all fun p=>(s.dnT c.TT).fresh p.2)
def bO.hout (c:bO) (x:V) (B:List (Nat×List V)):Bool:=x.ptrsIn (c.L'.map (·.1))&&(tV B (c.L'.map (·.1)) (c.L'.map (·.1))&&match c.br with
 | []=>true
 | _=>x.sfree&&(c.L'.map (·.1)).all fun n=>V.sfrees ((bget B n).getD []))
theorem bO.hd_ok (h:c.hd d=true):∀ p∈c.nw,d=some p.2∨NX≤p.2:=fun p hp=>by
 have:=QB.1 h p hp;simp only [Bool.or_eq_true,beq_iff_eq] at this;exact this.imp id Nat.le_of_ble_eq_true
theorem bO.hout_ok {x:V} (h:c.hout x B=true):x.ptrsIn (c.L'.map (·.1))=true∧tV B (c.L'.map (·.1)) (c.L'.map (·.1))=true∧(c.br=[]∨(x.sfree=true∧∀ n∈c.L'.map (·.1),V.sfrees ((bget B n).getD [])=true)):=by
 unfold bO.hout at h;simp only [QA] at h;refine ⟨h.1,h.2.1,?_⟩;have h3:=h.2.2;split at h3
 ·rename_i e; exact .inl e
 ·simp only [QA,QB] at h3;exact .inr h3
def bO.st (c:bO) (s:St) (B:List (Nat×List V)):St:=⟨dnE c.TT s.env,c.news B++gH (dnB c.TT s.bx) (c.wr B)⟩
theorem aSd {K:V→St→Prop} (c:bO) (h:bF P f args fb fun x b=>x=v∧F6 B b)
  (hargs:c.args s.bx vs=args) (hfb:c.fb s.bx=fb) (hin:c.hin s vs=true) (hcl:c.hcl s d=true) (hout:c.hout v B=true) (hK:K (c.res v) (c.st s B)):kG P s d f vs K:=by
 simp only [bO.hin,bO.hcl,QA,QB] at hin hcl;obtain ⟨o1,o2,o3⟩:=bO.hout_ok hout;refine cGg c h hargs hin.1 hfb hin.2.1 hin.2.2.1 hin.2.2.2 hcl.1 (fun p hp=>⟨bO.hd_ok hcl.2.1 p hp,hcl.2.2 p hp⟩) fun x b hx=>?_;obtain ⟨rfl,hb⟩:=hx;obtain ⟨h1,h2⟩:=cG4 hb o2;obtain ⟨k1,k2⟩:=c.congr h2;refine ⟨o3.imp id fun h=>⟨h.1,fun n hn=>by rw [h2 n hn]; exact h.2 n hn⟩,o1,h1,?_⟩;rw [k1,k2];exact hK
theorem bW4 (s:St) (T:List Nat):Wk s (s.dnT T):=by
 intro E N κ w a _ h;have g:=h.good;refine ⟨κ,h.size,h.defers,fun n=>?_,g.patch (fun _=>False) (fun _=>False) (fun _=>False) rfl rfl rfl (Nat.le_refl _) (fun _ h=>h.elim) (fun _ _=>⟨rfl,rfl⟩) (fun _ h=>h.elim) (fun _ h=>h.elim) (fun _ h=>h.elim) (fun _ _=>rfl)
  (fun n c hc _=>?_) (fun _ _ _ h=>h.elim) (fun _ _ _ _ _ h=>h.elim) (fun t o ho _=>⟨ho,fun _ _ h=>h⟩) (fun _ _ _ h=>h.elim) (fun _ _ _ _ _ _ _ h=>h.elim)⟩
 ·show aY κ _ (lk (dnE T s.env) n);rw [aHr]; exact (h.env n).dnV
 ·change bget (dnB T s.bx) n=some c at hc;rw [aBk] at hc;obtain ⟨c0,h0,rfl⟩:=Option.map_eq_some_iff.1 hc;exact ⟨c0,h0,rfl,rfl,Mv.dnVs,fun _ _ h=>h⟩
def evK (c:bO) (s:St) (o:AOp) (d:Option Nat) (v:V) (B:List (Nat×List V)) (tt tb:List Nat):Ev :=
 { o:=o,d:=d,r:=c.res v,rt:=rQ s o.rd,rb:=(c.L.map (·.2)++c.br).map (fun n=>(n,(bget s.bx n).getD [])),T:=c.TT,tt:=tt,tb:=tb,wr:=c.wr B,nw:=c.news B,fr:=c.nw.map (·.2) }
theorem bOb (hin:tV s.bx (c.L.map (·.2)) (c.L.map (·.2))=true) (hbr:c.brOk s.bx=true):Rd (evK c s o d v B tt tb) s:=by
 refine ⟨vG,fun p hp=>?_,fun p hp=>?_⟩
 ·obtain ⟨n,hn,rfl⟩:=QC.1 hp;rcases QI.1 hn with hn | hn
  ·obtain ⟨c1,hc1,_⟩:=xN hin hn;simp [hc1]
  ·obtain ⟨_,sz,l,cc,h2,_⟩:=c.brGet hbr hn;simp [h2]
 ·obtain ⟨q,hq,rfl⟩:=QC.1 hp;obtain ⟨c1,hc1,_⟩:=xN hin (QC.2 ⟨q,hq,rfl⟩);simp [hc1]
theorem bO.eff (c:bO) {s':St}:(c.st s' B).putO d (c.res v)=Go.Ab.eff (evK c s o d v B tt tb) s':=by
 cases d <;> rfl
theorem bF4 {L0 T:List (Nat×Nat)} {Z:List (Nat×TypeId×Nat)}:∀ {L:List (Nat×Nat)} {nb:List (List (Option Nat))},(∀ n∈L.map (·.2),bget bx' n=bget bx n)→bxG bx' L0 T Z L nb=bxG bx L0 T Z L nb
 | [],_,_=>rfl
 | (a,b)::l,nb,h=>by
  simp only [bxG];rw [h b (by simp),bF4 fun n hn=>h n (by simp only [QD,QF]; exact .inr hn)]
theorem bZr (h:∀ n∈l,bget bx' n=bget bx n) (hi:tV bx l ns=true):tV bx' l ns=true :=
 QB.2 fun n hn=>by
  obtain ⟨c,hc,hp⟩:=xN hi hn;rw [h n hn,hc]; exact hp
theorem bI1 (h:bF P f args fb fun x b=>x=v∧F6 B b)
  (hop:∀ s' K,(∀ t∈o.rd,lk s'.env t=lk s.env t)→kG P s' d f vs (fun x s''=>K (s''.putO d x))→aop P s' K o)
  (hargs:c.args s.bx vs=args) (hfb:c.fb s.bx=fb) (hin:c.hin s vs=true) (hd:c.hd d=true) (hout:c.hout v B=true):mG P (evK c s o d v B tt tb):=by
 intro s' hrd hgl;simp only [bO.hin,QA] at hin;refine hop s' _ (lW hrd.rt) ?_;have hb:∀ n∈c.L.map (·.2)++c.br,bget s'.bx n=bget s.bx n:=fun n hn=>by
  have:=hrd.rb (n,(bget s.bx n).getD []) (QC.2 ⟨n,hn,rfl⟩);rcases QI.1 hn with hn | hn
  ·obtain ⟨c1,hc1,_⟩:=xN hin.2.1 hn;rw [hc1] at this;rw [this,hc1]; rfl
  ·obtain ⟨_,sz,l,cc,h2,_⟩:=c.brGet hin.2.2.2 hn;rw [h2] at this;rw [this,h2]; rfl
 have hbL:∀ n∈c.L.map (·.2),bget s'.bx n=bget s.bx n:=fun n hn=>hb n (QH _ hn);have hbm:kM s'.bx c.br=kM s.bx c.br:=by
  funext n;unfold kM;split
  ·rename_i h;rw [hb n (QE _ (by simpa using h))]
  ·rfl
 have hl:c.lent s'.bx vs=c.lent s.bx vs:=by
  unfold bO.lent;split
  ·rfl
  ·rw [hbm]
 refine aSd c h (by unfold bO.args; rw [hl]; exact hargs) ((bF4 hbL).trans hfb) ?_ ?_ hout c.eff
 ·simp only [bO.hin,QA];refine ⟨by rw [hl]; exact hin.1,bZr hbL hin.2.1,hin.2.2.1,QB.2 fun n hn=>?_⟩;rw [hb n (QE _ hn)];exact QB.1 hin.2.2.2 n hn
 ·simp only [bO.hcl,QA,QB];exact ⟨hgl.cl,hd,fun p hp=>hgl.fr p.2 (QC.2 ⟨p,hp,rfl⟩)⟩
section
variable {P:Program} {K:St→Prop} {KD:List Ev→St→Prop} {rest:List AOp} {acc:List Ev} {s:St} {α β:Type} {r:β}
theorem bUq (c:bO) {m:Option α} {v:α→V} {B:α→List (Nat×List V)} {kF:α→Option β} {S':α→St} (h:(m>>=kF)=some r) (hg:cO P f args fb v B m)
  (hargs:c.args s.bx (xs.map (ev s))=args) (hfb:c.fb s.bx=fb) (hin:c.hin s (xs.map (ev s))=true) (hcl:c.hcl s dd=true) (hout:∀ y,c.hout (v y) (B y)=true)
  (hS:∀ y,(c.st s (B y)).putO dd (c.res (v y))=S' y) (hk:∀ y,kF y=some r→bM P K rest (S' y)):bM P K (.call dd f xs::rest) s:=by
 cases m with
 | none=>simp at h
 | some y=>exact aSd c (hg y rfl) hargs hfb hin hcl (hout y) (by rw [hS]; exact hk y h)
theorem bW5 (c:bO) {m:Option α} {v:α→V} {B:α→List (Nat×List V)} {kF:α→Option β} {S':α→St} (h:(m>>=kF)=some r) (hg:cO P f args fb v B m)
  (hfn:(ev s fo).vw=.fn f caps) (hgo:pG P f=true)
  (hargs:c.args s.bx (xs.map (ev s)++caps)=args) (hfb:c.fb s.bx=fb) (hin:c.hin s (xs.map (ev s)++caps)=true) (hcl:c.hcl s dd=true) (hout:∀ y,c.hout (v y) (B y)=true)
  (hS:∀ y,(c.st s (B y)).putO dd (c.res (v y))=S' y) (hk:∀ y,kF y=some r→bM P K rest (S' y)):bM P K (.callv dd fo xs::rest) s:=by
 cases m with
 | none=>simp at h
 | some y =>
  show aop P s (bM P K rest) (.callv dd fo xs);refine aN5 hfn ?_;rw [hfn];exact .inl ⟨hgo,aSd c (hg y rfl) hargs hfb hin hcl (hout y) (by rw [hS]; exact hk y h)⟩
theorem bXp (c:bO) (tt tb:List Nat) {m:Option α} {v:α→V} {B:α→List (Nat×List V)} {kF:α→Option β} {S':α→St} (h:(m>>=kF)=some r) (hg:cO P f args fb v B m)
  (hargs:c.args s.bx (xs.map (ev s))=args) (hfb:c.fb s.bx=fb) (hin:c.hin s (xs.map (ev s))=true) (hd:c.hd dd=true) (hout:∀ y,c.hout (v y) (B y)=true)
  (hS:∀ y,eff (evK c s (.call dd f xs) dd (v y) (B y) tt tb) s=S' y) (hk:∀ y,kF y=some r→dgo P KD rest (evK c s (.call dd f xs) dd (v y) (B y) tt tb::acc) (S' y)):dgo P KD (.call dd f xs::rest) acc s:=by
 cases m with
 | none=>simp at h
 | some y =>
  refine ⟨_,rfl,bI1 (hg y rfl) (fun s' K' hrd hk'=>?_) hargs hfb hin hd (hout y),bOb (by simp only [bO.hin,QA] at hin; exact hin.2.1) (by simp only [bO.hin,QA] at hin; exact hin.2.2.2),by rw [hS]; exact hk y h⟩;have e:xs.map (ev s')=xs.map (ev s):=Agree.evs (B:=[]) ⟨hrd,fun p hp=>by simp at hp⟩;show kG P s' dd f (xs.map (ev s')) fun x s''=>K' (s''.putO dd x)
  rw [e]; exact hk'
theorem cCf (c:bO) (tt tb:List Nat) {m:Option α} {v:α→V} {B:α→List (Nat×List V)} {kF:α→Option β} {S':α→St} (h:(m>>=kF)=some r) (hg:cO P f args fb v B m)
  (hfn:(ev s fo).vw=.fn f caps) (hgo:pG P f=true)
  (hargs:c.args s.bx (xs.map (ev s)++caps)=args) (hfb:c.fb s.bx=fb) (hin:c.hin s (xs.map (ev s)++caps)=true) (hd:c.hd dd=true) (hout:∀ y,c.hout (v y) (B y)=true)
  (hS:∀ y,eff (evK c s (.callv dd fo xs) dd (v y) (B y) tt tb) s=S' y) (hk:∀ y,kF y=some r→dgo P KD rest (evK c s (.callv dd fo xs) dd (v y) (B y) tt tb::acc) (S' y)):dgo P KD (.callv dd fo xs::rest) acc s:=by
 cases m with
 | none=>simp at h
 | some y =>
  refine ⟨_,rfl,bI1 (hg y rfl) (fun s' K' hrd hk'=>?_) hargs hfb hin hd (hout y),bOb (by simp only [bO.hin,QA] at hin; exact hin.2.1) (by simp only [bO.hin,QA] at hin; exact hin.2.2.2),by rw [hS]; exact hk y h⟩;have e:(fo::xs).map (ev s')=(fo::xs).map (ev s):=Agree.evs (B:=[]) ⟨hrd,fun p hp=>by simp at hp⟩;simp only [QD,List.cons.injEq] at e;show aop P s' K' (.callv dd fo xs);simp only [aop,e.1,e.2];refine aN5 hfn ?_;rw [hfn];exact .inl ⟨hgo,hk'⟩
theorem bNc (c:bO) {j d:Nat} {want p b:Bool} {m:Option α} {dflt:α} {v:α→V} {B:α→List (Nat×List V)} {kF:α→Option β} {S':α→St}
  (h:((if (p&&(b==want))=true then m else some dflt)>>=kF)=some r) (hb:iP (lk s.env j)=some (p,b)) (hg:cO P f args fb v B m)
  (hargs:(p&&(b==want))=true→c.args s.bx (strs (xs.map (ev s)))=args) (hfb:c.fb s.bx=fb) (hin:c.hin s (strs (xs.map (ev s)))=true) (hcl:c.hcl s (some d)=true) (hout:∀ y,c.hout (v y) (B y)=true)
  (hd0:c.st s (B dflt)=s.dnT c.TT) (hn:(p&&(b==want))=true→(conds s xs).all id=true)
  (hS:∀ y,(c.st s (B y)).put d (.ite (p&&(b==want)) (c.res (v y)))=S' y) (hk:∀ y,kF y=some r→bM P K rest (S' y)):bM P K (.g j want (.call (some d) f xs)::rest) s:=by
 show aop P s (bM P K rest) (.g j want (.call (some d) f xs));simp only [aop];have key:∃ y,kF y=some r∧((p&&(b==want))=true→m=some y)∧((p&&(b==want))=false→y=dflt):=by
  by_cases hc:(p&&(b==want))=true
  ·rw [if_pos hc] at h;cases m with
   | none=>simp at h
   | some y=>exact ⟨y,h,fun _=>rfl,fun h'=>by rw [hc] at h'; simp at h'⟩
  ·rw [if_neg hc] at h;exact ⟨dflt,h,fun h'=>absurd h' hc,fun _=>rfl⟩
 obtain ⟨y,hy,hm,hm0⟩:=key;refine yD hb ⟨c.res (v y),c.st s (B y),fun hc=>?_,fun hc=>?_,?_⟩
 ·exact aU3 (hn hc) (aSd c (hg y (hm hc)) (hargs hc) hfb hin hcl (hout y) ⟨rfl,rfl⟩)
 ·obtain rfl:=hm0 hc;rw [hd0];exact bW4 s c.TT
 ·have e:=hk y hy;rw [← hS] at e;exact e
end
end Go.Ab
