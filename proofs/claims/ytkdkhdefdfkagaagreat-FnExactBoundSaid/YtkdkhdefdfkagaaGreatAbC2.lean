/- Steps: calls that are handed boxes and rights and yield such,in order or in an open order. -/
import Derived.Test.YtkdkhdefdfkagaaGreatAbC1
namespace Go.Ab
open Go Go.RowKit
abbrev gT (b:Bool):Bool:=true&&(b==true)
abbrev gF (b:Bool):Bool:=true&&(b==false)
theorem aOh {b b':List (Nat×List V)} {L0 T':List (Nat×Nat)}:∀ {L:List (Nat×Nat)},(∀ n ∈ L.map (·.1),bget b n=bget b' n)→outs b L0 T' L=outs b' L0 T' L
  | [],_=>rfl
  | (a,c)::l,h=>by
    simp only [outs,List.map_cons]
    rw [h a (by simp)]
    congr 1
    exact aOh (L0:=L0) (T':=T') (L:=l) fun n hn=>h n (by simp only [List.map_cons,List.mem_cons]; exact .inr hn)
theorem bGx {B b:List (Nat×List V)} {l ns:List Nat} (hB:iY B b) (h:rP B l ns=true):rP b l ns=true∧∀ n ∈ l,bget b n=bget B n:=by
  refine ⟨List.all_eq_true.2 fun n hn=>?_,fun n hn=>?_⟩
  · obtain ⟨c,hc,hp⟩:=vQ h hn
    rw [aY3 hB hc]; exact hp
  · obtain ⟨c,hc,hp⟩:=vQ h hn
    rw [aY3 hB hc,hc]
theorem fE.congr (c:fE) {B b:List (Nat×List V)} (h:∀ n ∈ c.L'.map (·.1),bget b n=bget B n):c.wr b=c.wr B∧c.news b=c.news B :=
  ⟨aOh fun n hn=>h n (by unfold fE.L'; rw [List.map_append]; exact List.mem_append_right _ hn),aOh fun n hn=>h n (by unfold fE.L'; rw [List.map_append]; exact List.mem_append_left _ hn)⟩
def fE.hin (c:fE) (s:St) (vs:List V):Bool:=V.ptrsIns (c.L.map (·.2)) vs&&(rP s.bx (c.L.map (·.2)) (c.L.map (·.2))&&c.ok)
def fE.hcl (c:fE) (s:St) (d:Option Nat):Bool:=(c.TT.all fun t=>(s.dnT c.TT).clean t)&&c.nw.all fun p=>d==some p.2&&(s.dnT c.TT).fresh p.2
def fE.hout (c:fE) (x:V) (B:List (Nat×List V)):Bool:=x.ptrsIn (c.L'.map (·.1))&&rP B (c.L'.map (·.1)) (c.L'.map (·.1))
def fE.st (c:fE) (s:St) (B:List (Nat×List V)):St:=⟨dnE c.TT s.env,c.news B++kJ (dnB c.TT s.bx) (c.wr B)⟩
theorem aVa {P : Program} {s : St} {d : Option Nat} {f : FuncId} {vs args : List V} {fb B : List (Nat × List V)} {v : V} {K : V → St → Prop} (c : fE) (h : bH P f args fb fun x b => x = v ∧ iY B b)
    (hargs:c.args vs=args) (hfb:c.fb s.bx=fb) (hin:c.hin s vs=true) (hcl:c.hcl s d=true) (hout:c.hout v B=true) (hK:K (c.res v) (c.st s B)):pG P s d f vs K:=by
  simp only [fE.hin,fE.hcl,fE.hout,Bool.and_eq_true,List.all_eq_true,beq_iff_eq] at hin hcl hout
  refine bTo c h hargs hin.1 hfb hin.2.1 hin.2.2 hcl.1 hcl.2 fun x b hx=>?_
  obtain ⟨rfl,hb⟩:=hx
  obtain ⟨h1,h2⟩:=bGx hb hout.2
  obtain ⟨k1,k2⟩:=c.congr h2
  refine ⟨hout.1,h1,?_⟩
  rw [k1,k2]
  exact hK
def fE.newO (c:fE) (B:List (Nat×List V)):Option (List V):=match c.nw with
  | []=>none
  | p::_=>some (V.rns (fwd c.L') (tf c.T') ((bget B p.1).getD []))
def evK (c:fE) (s:St) (o:AOp) (d:Option Nat) (v:V) (B:List (Nat×List V)) (tt tb:List Nat):Ev :=
  { o:=o,d:=d,r:=c.res v,rt:=uI s o.rd,rb:=c.L.map (fun p=>(p.2,(bget s.bx p.2).getD [])),T:=c.TT,tt:=tt,tb:=tb,wr:=c.wr B,nw:=c.newO B,fr:=true }
theorem bP7 {c:fE} {s:St} {o:AOp} {d:Option Nat} {v:V} {B:List (Nat×List V)} {tt tb:List Nat} (hin:rP s.bx (c.L.map (·.2)) (c.L.map (·.2))=true):Rd (evK c s o d v B tt tb) s:=by
  refine ⟨wE,fun p hp=>?_,fun p hp=>?_⟩
  · obtain ⟨q,hq,rfl⟩:=List.mem_map.1 hp
    obtain ⟨c1,hc1,_⟩:=vQ hin (List.mem_map.2 ⟨q,hq,rfl⟩)
    simp [hc1]
  · obtain ⟨q,hq,rfl⟩:=List.mem_map.1 hp
    obtain ⟨c1,hc1,_⟩:=vQ hin (List.mem_map.2 ⟨q,hq,rfl⟩)
    simp [hc1]
theorem fE.eff (c:fE) {s s':St} {o:AOp} {d:Option Nat} {v:V} {B:List (Nat×List V)} {tt tb:List Nat} (hd:(c.nw.all fun p=>d==some p.2)=true) (h1:c.nw.length≤1):(c.st s' B).putO d (c.res v)=Go.Ab.eff (evK c s o d v B tt tb) s':=by
  unfold fE.st fE.news Go.Ab.eff evK fE.newO
  cases hn:c.nw with
  | nil=>cases d <;> rfl
  | cons p l =>
    rw [hn] at hd h1
    simp only [List.length_cons] at h1
    have:l=[]:=List.eq_nil_of_length_eq_zero (by omega)
    subst this
    simp only [List.all_cons,List.all_nil,Bool.and_true,beq_iff_eq] at hd
    subst hd
    rfl
theorem bFc {bx bx':List (Nat×List V)} {L0 T:List (Nat×Nat)} {Z:List (Nat×TypeId×Nat)}:∀ {L:List (Nat×Nat)} {nb:List (List (Option Nat))},(∀ n ∈ L.map (·.2),bget bx' n=bget bx n)→bxG bx' L0 T Z L nb=bxG bx L0 T Z L nb
  | [],_,_=>rfl
  | (a,b)::l,nb,h=>by
    simp only [bxG]
    rw [h b (by simp),bFc fun n hn=>h n (by simp only [List.map_cons,List.mem_cons]; exact .inr hn)]
theorem bGq {bx bx':List (Nat×List V)} {l ns:List Nat} (h:∀ n ∈ l,bget bx' n=bget bx n) (hi:rP bx l ns=true):rP bx' l ns=true :=
  List.all_eq_true.2 fun n hn=>by
    obtain ⟨c,hc,hp⟩:=vQ hi hn
    rw [h n hn,hc]; exact hp
theorem bR1 {P : Program} {c : fE} {s : St} {o : AOp} {d : Option Nat} {f : FuncId} {vs args : List V} {fb B : List (Nat × List V)} {v : V} {tt tb : List Nat} (h : bH P f args fb fun x b => x = v ∧ iY B b)
    (hop:∀ s' K,(∀ t ∈ o.rd,lk s'.env t=lk s.env t)→pG P s' d f vs (fun x s''=>K (s''.putO d x))→aop P s' K o)
    (hargs:c.args vs=args) (hfb:c.fb s.bx=fb) (hin:c.hin s vs=true) (hd:(c.nw.all fun p=>d==some p.2)=true) (h1:decide (c.nw.length≤1)=true) (hout:c.hout v B=true):oQ P (evK c s o d v B tt tb):=by
  intro s' hrd hgl
  simp only [fE.hin,Bool.and_eq_true] at hin
  refine hop s' _ (qQ hrd.rt) ?_
  have hb:∀ n ∈ c.L.map (·.2),bget s'.bx n=bget s.bx n:=fun n hn=>by
    obtain ⟨q,hq,rfl⟩:=List.mem_map.1 hn
    obtain ⟨c1,hc1,_⟩:=vQ hin.2.1 hn
    have:=hrd.rb (q.2,(bget s.bx q.2).getD []) (List.mem_map.2 ⟨q,hq,rfl⟩)
    rw [hc1] at this
    rw [this,hc1]; rfl
  refine aVa c h hargs ((bFc hb).trans hfb) ?_ ?_ hout (c.eff hd (by simpa using h1))
  · simp only [fE.hin,Bool.and_eq_true]
    exact ⟨hin.1,bGq hb hin.2.1,hin.2.2⟩
  · simp only [fE.hcl,Bool.and_eq_true,List.all_eq_true]
    refine ⟨hgl.cl,fun p hp=>?_⟩
    have:=List.all_eq_true.1 hd p hp
    simp only [beq_iff_eq] at this
    exact ⟨by simpa using this,hgl.fr rfl p.2 this⟩
section
variable {P:Program} {K:St→Prop} {KD:List Ev→St→Prop} {rest:List AOp} {acc:List Ev} {s:St} {α β:Type} {r:β}
theorem kY (c : fE) {f : FuncId} {xs : List AO} {dd : Option Nat} {args : List V} {fb : List (Nat × List V)} {m : Option α} {v : α → V} {B : α → List (Nat × List V)} {kF : α → Option β} {S' : α → St} (h : (m >>= kF) = some r) (hg : lK P f args fb v B m)
    (hargs:c.args (xs.map (ev s))=args) (hfb:c.fb s.bx=fb) (hin:c.hin s (xs.map (ev s))=true) (hcl:c.hcl s dd=true) (hout:∀ y,c.hout (v y) (B y)=true)
    (hS:∀ y,(c.st s (B y)).putO dd (c.res (v y))=S' y) (hk:∀ y,kF y=some r→fV P K rest (S' y)):fV P K (.call dd f xs::rest) s:=by
  cases m with
  | none=>simp at h
  | some y=>exact aVa c (hg y rfl) hargs hfb hin hcl (hout y) (by rw [hS]; exact hk y h)
theorem bF3 (c : fE) {f : FuncId} {fo : AO} {caps : List V} {xs : List AO} {dd : Option Nat} {args : List V} {fb : List (Nat × List V)} {m : Option α} {v : α → V} {B : α → List (Nat × List V)} {kF : α → Option β} {S' : α → St} (h : (m >>= kF) = some r) (hg : lK P f args fb v B m)
    (hfn:ev s fo=.fn f caps) (hgo:wU P f=true)
    (hargs:c.args (xs.map (ev s)++caps)=args) (hfb:c.fb s.bx=fb) (hin:c.hin s (xs.map (ev s)++caps)=true) (hcl:c.hcl s dd=true) (hout:∀ y,c.hout (v y) (B y)=true)
    (hS:∀ y,(c.st s (B y)).putO dd (c.res (v y))=S' y) (hk:∀ y,kF y=some r→fV P K rest (S' y)):fV P K (.callv dd fo xs::rest) s:=by
  cases m with
  | none=>simp at h
  | some y =>
    show aop P s (fV P K rest) (.callv dd fo xs)
    simp only [aop,hfn]
    exact ⟨hgo,aVa c (hg y rfl) hargs hfb hin hcl (hout y) (by rw [hS]; exact hk y h)⟩
theorem nW (c : fE) (tt tb : List Nat) {f : FuncId} {xs : List AO} {dd : Option Nat} {args : List V} {fb : List (Nat × List V)} {m : Option α} {v : α → V} {B : α → List (Nat × List V)} {kF : α → Option β} {S' : α → St} (h : (m >>= kF) = some r) (hg : lK P f args fb v B m)
    (hargs:c.args (xs.map (ev s))=args) (hfb:c.fb s.bx=fb) (hin:c.hin s (xs.map (ev s))=true) (hd:(c.nw.all fun p=>dd==some p.2)=true) (h1:decide (c.nw.length≤1)=true) (hout:∀ y,c.hout (v y) (B y)=true)
    (hS:∀ y,eff (evK c s (.call dd f xs) dd (v y) (B y) tt tb) s=S' y) (hk:∀ y,kF y=some r→dgo P KD rest (evK c s (.call dd f xs) dd (v y) (B y) tt tb::acc) (S' y)):dgo P KD (.call dd f xs::rest) acc s:=by
  cases m with
  | none=>simp at h
  | some y =>
    refine ⟨_,rfl,bR1 (hg y rfl) (fun s' K' hrd hk'=>?_) hargs hfb hin hd h1 (hout y),bP7 (by simp only [fE.hin,Bool.and_eq_true] at hin; exact hin.2.1),by rw [hS]; exact hk y h⟩
    have e:xs.map (ev s')=xs.map (ev s):=Agree.evs (B:=[]) ⟨hrd,fun p hp=>by simp at hp⟩
    show pG P s' dd f (xs.map (ev s')) fun x s''=>K' (s''.putO dd x)
    rw [e]; exact hk'
end
end Go.Ab
