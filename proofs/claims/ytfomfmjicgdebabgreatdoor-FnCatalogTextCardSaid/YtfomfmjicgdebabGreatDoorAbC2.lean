/- Steps: calls that are handed boxes and rights and yield such,in order or in an open order. -/
import Derived.Test.YtfomfmjicgdebabGreatDoorAbC1
namespace Go.Ab
open Go Go.RowKit
abbrev gF (b:Bool):Bool:=true&&(b==false)
theorem aNp {b b':List (Nat×List V)} {L0 T':List (Nat×Nat)}:∀ {L:List (Nat×Nat)},(∀ n ∈ L.map (·.1),bget b n=bget b' n)→outs b L0 T' L=outs b' L0 T' L
  | [],_=>rfl
  | (a,c)::l,h=>by
    simp only [outs,List.map_cons]
    rw [h a (by simp)]
    congr 1
    exact aNp (L0:=L0) (T':=T') (L:=l) fun n hn=>h n (by simp only [List.map_cons,List.mem_cons]; exact .inr hn)
theorem bOp {B b:List (Nat×List V)} {l ns:List Nat} (hB:dI B b) (h:nW B l ns=true):nW b l ns=true∧∀ n ∈ l,bget b n=bget B n:=by
  refine ⟨List.all_eq_true.2 fun n hn=>?_,fun n hn=>?_⟩
  · obtain ⟨c,hc,hp⟩:=qU h hn
    rw [aK7 hB hc]; exact hp
  · obtain ⟨c,hc,hp⟩:=qU h hn
    rw [aK7 hB hc,hc]
theorem bC.congr (c:bC) {B b:List (Nat×List V)} (h:∀ n ∈ c.L'.map (·.1),bget b n=bget B n):c.wr b=c.wr B∧c.news b=c.news B :=
  ⟨aNp fun n hn=>h n (by unfold bC.L'; rw [List.map_append]; exact List.mem_append_right _ hn),aNp fun n hn=>h n (by unfold bC.L'; rw [List.map_append]; exact List.mem_append_left _ hn)⟩
def bC.hin (c:bC) (s:St) (vs:List V):Bool:=V.ptrsIns (c.L.map (·.2)) (c.lent s.bx vs)&&(nW s.bx (c.L.map (·.2)) (c.L.map (·.2))&&(c.ok&&c.brOk s.bx))
def bC.hd (c:bC) (d:Option Nat):Bool:=c.nw.all fun p=>d==some p.2||Nat.ble NX p.2
def bC.hcl (c:bC) (s:St) (d:Option Nat):Bool:=(c.TT.all fun t=>(s.dnT c.TT).clean t)&&(c.hd d&&c.nw.all fun p=>(s.dnT c.TT).fresh p.2)
def bC.hout (c:bC) (x:V) (B:List (Nat×List V)):Bool:=x.ptrsIn (c.L'.map (·.1))&&(nW B (c.L'.map (·.1)) (c.L'.map (·.1))&&match c.br with
  | []=>true
  | _=>x.sfree&&(c.L'.map (·.1)).all fun n=>V.sfrees ((bget B n).getD []))
theorem bC.hd_ok {c:bC} {d:Option Nat} (h:c.hd d=true):∀ p ∈ c.nw,d=some p.2∨NX≤p.2:=fun p hp=>by
  have:=List.all_eq_true.1 h p hp
  simp only [Bool.or_eq_true,beq_iff_eq] at this
  exact this.imp id Nat.le_of_ble_eq_true
theorem bC.hout_ok {c:bC} {x:V} {B:List (Nat×List V)} (h:c.hout x B=true):x.ptrsIn (c.L'.map (·.1))=true∧nW B (c.L'.map (·.1)) (c.L'.map (·.1))=true∧(c.br=[]∨(x.sfree=true∧∀ n ∈ c.L'.map (·.1),V.sfrees ((bget B n).getD [])=true)):=by
  unfold bC.hout at h
  simp only [Bool.and_eq_true] at h
  refine ⟨h.1,h.2.1,?_⟩
  have h3:=h.2.2
  split at h3
  · rename_i e; exact .inl e
  · simp only [Bool.and_eq_true,List.all_eq_true] at h3
    exact .inr h3
def bC.st (c:bC) (s:St) (B:List (Nat×List V)):St:=⟨dnE c.TT s.env,c.news B++eT (dnB c.TT s.bx) (c.wr B)⟩
theorem aJg {P : Program} {s : St} {d : Option Nat} {f : FuncId} {vs args : List V} {fb B : List (Nat × List V)} {v : V} {K : V → St → Prop} (c : bC) (h : eX P f args fb fun x b => x = v ∧ dI B b)
    (hargs:c.args s.bx vs=args) (hfb:c.fb s.bx=fb) (hin:c.hin s vs=true) (hcl:c.hcl s d=true) (hout:c.hout v B=true) (hK:K (c.res v) (c.st s B)):iJ P s d f vs K:=by
  simp only [bC.hin,bC.hcl,Bool.and_eq_true,List.all_eq_true] at hin hcl
  obtain ⟨o1,o2,o3⟩:=bC.hout_ok hout
  refine bQf c h hargs hin.1 hfb hin.2.1 hin.2.2.1 hin.2.2.2 hcl.1 (fun p hp=>⟨bC.hd_ok hcl.2.1 p hp,hcl.2.2 p hp⟩) fun x b hx=>?_
  obtain ⟨rfl,hb⟩:=hx
  obtain ⟨h1,h2⟩:=bOp hb o2
  obtain ⟨k1,k2⟩:=c.congr h2
  refine ⟨o3.imp id fun h=>⟨h.1,fun n hn=>by rw [h2 n hn]; exact h.2 n hn⟩,o1,h1,?_⟩
  rw [k1,k2]
  exact hK
def evK (c:bC) (s:St) (o:AOp) (d:Option Nat) (v:V) (B:List (Nat×List V)) (tt tb:List Nat):Ev :=
  { o:=o,d:=d,r:=c.res v,rt:=kW s o.rd,rb:=(c.L.map (·.2)++c.br).map (fun n=>(n,(bget s.bx n).getD [])),T:=c.TT,tt:=tt,tb:=tb,wr:=c.wr B,nw:=c.news B,fr:=c.nw.map (·.2) }
theorem bNn {c:bC} {s:St} {o:AOp} {d:Option Nat} {v:V} {B:List (Nat×List V)} {tt tb:List Nat} (hin:nW s.bx (c.L.map (·.2)) (c.L.map (·.2))=true) (hbr:c.brOk s.bx=true):Rd (evK c s o d v B tt tb) s:=by
  refine ⟨nG,fun p hp=>?_,fun p hp=>?_⟩
  · obtain ⟨n,hn,rfl⟩:=List.mem_map.1 hp
    rcases List.mem_append.1 hn with hn | hn
    · obtain ⟨c1,hc1,_⟩:=qU hin hn
      simp [hc1]
    · obtain ⟨_,sz,l,h2⟩:=c.brGet hbr hn
      simp [h2]
  · obtain ⟨q,hq,rfl⟩:=List.mem_map.1 hp
    obtain ⟨c1,hc1,_⟩:=qU hin (List.mem_map.2 ⟨q,hq,rfl⟩)
    simp [hc1]
theorem bC.eff (c:bC) {s s':St} {o:AOp} {d:Option Nat} {v:V} {B:List (Nat×List V)} {tt tb:List Nat}:(c.st s' B).putO d (c.res v)=Go.Ab.eff (evK c s o d v B tt tb) s':=by
  cases d <;> rfl
theorem aPg {bx bx':List (Nat×List V)} {L0 T:List (Nat×Nat)} {Z:List (Nat×TypeId×Nat)}:∀ {L:List (Nat×Nat)} {nb:List (List (Option Nat))},(∀ n ∈ L.map (·.2),bget bx' n=bget bx n)→bxG bx' L0 T Z L nb=bxG bx L0 T Z L nb
  | [],_,_=>rfl
  | (a,b)::l,nb,h=>by
    simp only [bxG]
    rw [h b (by simp),aPg fun n hn=>h n (by simp only [List.map_cons,List.mem_cons]; exact .inr hn)]
theorem bKn {bx bx':List (Nat×List V)} {l ns:List Nat} (h:∀ n ∈ l,bget bx' n=bget bx n) (hi:nW bx l ns=true):nW bx' l ns=true :=
  List.all_eq_true.2 fun n hn=>by
    obtain ⟨c,hc,hp⟩:=qU hi hn
    rw [h n hn,hc]; exact hp
theorem bQg {P : Program} {c : bC} {s : St} {o : AOp} {d : Option Nat} {f : FuncId} {vs args : List V} {fb B : List (Nat × List V)} {v : V} {tt tb : List Nat} (h : eX P f args fb fun x b => x = v ∧ dI B b)
    (hop:∀ s' K,(∀ t ∈ o.rd,lk s'.env t=lk s.env t)→iJ P s' d f vs (fun x s''=>K (s''.putO d x))→aop P s' K o)
    (hargs:c.args s.bx vs=args) (hfb:c.fb s.bx=fb) (hin:c.hin s vs=true) (hd:c.hd d=true) (hout:c.hout v B=true):jH P (evK c s o d v B tt tb):=by
  intro s' hrd hgl
  simp only [bC.hin,Bool.and_eq_true] at hin
  refine hop s' _ (gZ hrd.rt) ?_
  have hb:∀ n ∈ c.L.map (·.2)++c.br,bget s'.bx n=bget s.bx n:=fun n hn=>by
    have:=hrd.rb (n,(bget s.bx n).getD []) (List.mem_map.2 ⟨n,hn,rfl⟩)
    rcases List.mem_append.1 hn with hn | hn
    · obtain ⟨c1,hc1,_⟩:=qU hin.2.1 hn
      rw [hc1] at this
      rw [this,hc1]; rfl
    · obtain ⟨_,sz,l,h2⟩:=c.brGet hin.2.2.2 hn
      rw [h2] at this
      rw [this,h2]; rfl
  have hbL:∀ n ∈ c.L.map (·.2),bget s'.bx n=bget s.bx n:=fun n hn=>hb n (List.mem_append_left _ hn)
  have hbm:iC s'.bx c.br=iC s.bx c.br:=by
    funext n
    unfold iC
    split
    · rename_i h
      rw [hb n (List.mem_append_right _ (by simpa using h))]
    · rfl
  have hl:c.lent s'.bx vs=c.lent s.bx vs:=by
    unfold bC.lent
    split
    · rfl
    · rw [hbm]
  refine aJg c h (by unfold bC.args; rw [hl]; exact hargs) ((aPg hbL).trans hfb) ?_ ?_ hout c.eff
  · simp only [bC.hin,Bool.and_eq_true]
    refine ⟨by rw [hl]; exact hin.1,bKn hbL hin.2.1,hin.2.2.1,List.all_eq_true.2 fun n hn=>?_⟩
    rw [hb n (List.mem_append_right _ hn)]
    exact List.all_eq_true.1 hin.2.2.2 n hn
  · simp only [bC.hcl,Bool.and_eq_true,List.all_eq_true]
    exact ⟨hgl.cl,hd,fun p hp=>hgl.fr p.2 (List.mem_map.2 ⟨p,hp,rfl⟩)⟩
section
variable {P:Program} {K:St→Prop} {KD:List Ev→St→Prop} {rest:List AOp} {acc:List Ev} {s:St} {α β:Type} {r:β}
theorem bHf (c : bC) {f : FuncId} {xs : List AO} {dd : Option Nat} {args : List V} {fb : List (Nat × List V)} {m : Option α} {v : α → V} {B : α → List (Nat × List V)} {kF : α → Option β} {S' : α → St} (h : (m >>= kF) = some r) (hg : dU P f args fb v B m)
    (hargs:c.args s.bx (xs.map (ev s))=args) (hfb:c.fb s.bx=fb) (hin:c.hin s (xs.map (ev s))=true) (hcl:c.hcl s dd=true) (hout:∀ y,c.hout (v y) (B y)=true)
    (hS:∀ y,(c.st s (B y)).putO dd (c.res (v y))=S' y) (hk:∀ y,kF y=some r→bA P K rest (S' y)):bA P K (.call dd f xs::rest) s:=by
  cases m with
  | none=>simp at h
  | some y=>exact aJg c (hg y rfl) hargs hfb hin hcl (hout y) (by rw [hS]; exact hk y h)
theorem bO6 (c : bC) {f : FuncId} {fo : AO} {caps : List V} {xs : List AO} {dd : Option Nat} {args : List V} {fb : List (Nat × List V)} {m : Option α} {v : α → V} {B : α → List (Nat × List V)} {kF : α → Option β} {S' : α → St} (h : (m >>= kF) = some r) (hg : dU P f args fb v B m)
    (hfn:ev s fo=.fn f caps) (hgo:nV P f=true)
    (hargs:c.args s.bx (xs.map (ev s)++caps)=args) (hfb:c.fb s.bx=fb) (hin:c.hin s (xs.map (ev s)++caps)=true) (hcl:c.hcl s dd=true) (hout:∀ y,c.hout (v y) (B y)=true)
    (hS:∀ y,(c.st s (B y)).putO dd (c.res (v y))=S' y) (hk:∀ y,kF y=some r→bA P K rest (S' y)):bA P K (.callv dd fo xs::rest) s:=by
  cases m with
  | none=>simp at h
  | some y =>
    show aop P s (bA P K rest) (.callv dd fo xs)
    simp only [aop,hfn]
    exact .inl ⟨hgo,aJg c (hg y rfl) hargs hfb hin hcl (hout y) (by rw [hS]; exact hk y h)⟩
theorem bH6 (c : bC) (tt tb : List Nat) {f : FuncId} {xs : List AO} {dd : Option Nat} {args : List V} {fb : List (Nat × List V)} {m : Option α} {v : α → V} {B : α → List (Nat × List V)} {kF : α → Option β} {S' : α → St} (h : (m >>= kF) = some r) (hg : dU P f args fb v B m)
    (hargs:c.args s.bx (xs.map (ev s))=args) (hfb:c.fb s.bx=fb) (hin:c.hin s (xs.map (ev s))=true) (hd:c.hd dd=true) (hout:∀ y,c.hout (v y) (B y)=true)
    (hS:∀ y,eff (evK c s (.call dd f xs) dd (v y) (B y) tt tb) s=S' y) (hk:∀ y,kF y=some r→dgo P KD rest (evK c s (.call dd f xs) dd (v y) (B y) tt tb::acc) (S' y)):dgo P KD (.call dd f xs::rest) acc s:=by
  cases m with
  | none=>simp at h
  | some y =>
    refine ⟨_,rfl,bQg (hg y rfl) (fun s' K' hrd hk'=>?_) hargs hfb hin hd (hout y),bNn (by simp only [bC.hin,Bool.and_eq_true] at hin; exact hin.2.1) (by simp only [bC.hin,Bool.and_eq_true] at hin; exact hin.2.2.2),by rw [hS]; exact hk y h⟩
    have e:xs.map (ev s')=xs.map (ev s):=Agree.evs (B:=[]) ⟨hrd,fun p hp=>by simp at hp⟩
    show iJ P s' dd f (xs.map (ev s')) fun x s''=>K' (s''.putO dd x)
    rw [e]; exact hk'
end
end Go.Ab
