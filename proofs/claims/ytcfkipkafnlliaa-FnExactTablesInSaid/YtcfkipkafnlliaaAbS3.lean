/- Steps through regions whose order is drawn. -/
import Derived.Test.YtcfkipkafnlliaaAbS2
namespace Go.Ab
open Go Go.RowKit
def pW (s:St) (l:List Nat):List (Nat×V):=l.map fun t=>(t,lk s.env t)
def evV (s:St) (o:AOp) (r:V):Ev:={ o:=o,d:=o.dst,r:=r,rt:=pW s o.rd,rb:=rdB s o }
theorem vG {s:St} {l:List Nat}:∀ p ∈ pW s l,lk s.env p.1=p.2:=by
  intro p hp
  obtain ⟨t,_,rfl⟩:=List.mem_map.1 hp
  rfl
theorem rD {s s':St} {l:List Nat} (h:∀ p ∈ pW s l,lk s'.env p.1=p.2):∀ t ∈ l,lk s'.env t=lk s.env t:=fun t ht=>h (t,lk s.env t) (List.mem_map.2 ⟨t,ht,rfl⟩)
theorem aDb {s:St} {v:V}:∀ p ∈ rdV s v,bget s.bx p.1=some p.2:=by
  intro p hp
  unfold rdV at hp
  split at hp
  all_goals first
    | (split at hp
       · rename_i h; simp at hp; subst hp; exact h
       · simp at hp)
    | simp at hp
theorem aZa {s:St} {o:AOp}:∀ p ∈ rdB s o,bget s.bx p.1=some p.2:=by
  cases o
  case ld d n g x=>exact aDb
  case len d x=>exact aDb
  case g j w o =>
    cases o
    case ld d n g x=>exact aDb
    case len d x=>exact aDb
    all_goals intro p hp; simp [rdB] at hp
  all_goals intro p hp; simp [rdB] at hp
theorem aJo {s:St} {o:AOp} {r:V}:Rd (evV s o r) s:=⟨vG,aZa,fun p hp=>by simp [evV] at hp⟩
theorem aBx {s:St} {o:AOp} {r:V} {d:Nat} (hd:o.dst=some d):eff (evV s o r)=fun s'=>s'.put d r:=by
  funext s'
  simp only [eff,evV,hd,pY]
  rfl
theorem bBc {s s':St} {o:AOp} {r:V} (h:Rd (evV s o r) s'):Agree s s' o.rd (rdB s o):=⟨rD h.rt,h.rb⟩
theorem aO3 {P:Program} {s:St} {o:AOp} {r:V} (hval:o.val=true) (h:vop s (fun v=>v=r) o):lZ P (evV s o r):=by
  intro s' hrd _
  obtain ⟨d,hd,e⟩:=aOi (P:=P) (s:=s') (K:=fun s''=>s''=eff (evV s o r) s') hval
  show aop P s' _ o
  refine e ?_
  have h':=bEi hval (bBc hrd) h
  obtain ⟨z,hz,hT⟩:=aQ0 s' o hval _ h'
  subst hz
  exact hT _ (by rw [aBx hd])
theorem aWc {P : Program} {s : St} {d : Nat} {f : FuncId} {xs : List AO} {args : List V} {v : V} (hg : bL P f args [] fun x _ => x = v) (hargs : weaks (xs.map (ev s)) = args) (hcl : V.closeds args = true) (hv : v.closed = true) :
    lZ P (evV s (.call (some d) f xs) v):=by
  intro s' hrd _
  have e:xs.map (ev s')=xs.map (ev s):=Agree.evs (B:=[]) ⟨rD hrd.rt,fun p hp=>by simp at hp⟩
  show kE P s' (some d) f (xs.map (ev s')) fun x s''=>s''.putO (some d) x=eff _ s'
  rw [e]
  refine aGa hg hargs hcl fun x b hx=>?_
  subst hx
  exact ⟨hv,by rw [aBx (d:=d) rfl]; rfl⟩
def evA (d:Nat) (z:List V):Ev:={ o:=.alc d z,d:=some d,r:=.ptr d 0,nw:=[(d,z)],fr:=[d] }
theorem bCy {P:Program} {d:Nat} {z:List V}:lZ P (evA d z):=fun _ _ hg=>⟨hg.fr d (by simp [evA]),rfl⟩
theorem aUr {s:St} {d:Nat} {z:List V}:Rd (evA d z) s:=⟨fun p hp=>by simp [evA] at hp,fun p hp=>by simp [evA] at hp,fun p hp=>by simp [evA] at hp⟩
def evX (s:St) (d:Nat) (T:TypeId) (x:AO):Ev:={ o:=.box d T x,d:=some d,r:=.ptr d 0,nw:=[(d,(ev s x).cells.map (tL d T))],fr:=[d],rt:=pW s x.rd }
theorem bA9 {P:Program} {s:St} {d:Nat} {T:TypeId} {x:AO} (h1:(ev s x).cond.isEmpty=true) (h2:(ev s x).solid=true) (h3:V.noPtrs d (ev s x).cells=true):lZ P (evX s d T x):=by
  intro s' hrd hg
  have e:ev s' x=ev s x:=Agree.ev (B:=[]) ⟨rD hrd.rt,fun p hp=>by simp at hp⟩
  show use (ev s' x) _
  rw [e]
  exact pE h1 ⟨h2,hg.fr d (by simp [evX]),h3,rfl⟩
def evS (s:St) (n:Nat) (x y:AO) (b o:Nat) (c:List V):Ev:={ o:=.st n x y,rt:=pW s (x.rd++y.rd),rb:=[(b,c)],wr:=[(b,putCells c o (ev s y).cells)] }
theorem bF9 {P:Program} {s:St} {n:Nat} {x y:AO} {b o:Nat} {c:List V} (h1:ev s x=.ptr b o) (h2:(ev s y).cond.isEmpty=true) (h3:(ev s y).solid=true) (h4:(ev s y).cells.length=n) (h5:o+n≤c.length) (h6:jP c=true):lZ P (evS s n x y b o c):=by
  intro s' hrd _
  have hag:Agree s s' (x.rd++y.rd) []:=⟨rD hrd.rt,fun p hp=>by simp at hp⟩
  have e1:ev s' x=ev s x:=hag.l.ev
  have e2:ev s' y=ev s y:=hag.r.ev
  show use (ev s' x) _
  rw [e1,e2,h1]
  refine pE (x:=ev s y) h2 ⟨c,hrd.rb (b,c) (by simp [evS]),h6,h3,h4,h5,rfl⟩
theorem aTt {s:St} {n:Nat} {x y:AO} {b o:Nat} {c:List V} (h:bget s.bx b=some c):Rd (evS s n x y b o c) s :=
  ⟨vG,fun p hp=>by simp [evS] at hp; subst hp; exact h,fun p hp=>by simp [evS] at hp; subst hp; simp [h]⟩
def evN (s:St) (d:Nat) (x:AO):Ev:={ o:=.asg d x,d:=some d,r:=ev s x,rt:=pW s x.rd }
def V.isOsl:V→Bool
  | .osl ..=>true
  | _=>false
theorem bEp {P:Program} {s:St} {d:Nat} {x:AO} (h1:(ev s x).cond.isEmpty=true):lZ P (evN s d x):=by
  intro s' hrd _
  have e:ev s' x=ev s x:=Agree.ev (B:=[]) ⟨rD hrd.rt,fun p hp=>by simp at hp⟩
  show use (ev s' x) _
  rw [e]
  exact pE h1 (.inl rfl)
def evM (s:St) (d:Nat) (x:AO) (t:Nat) (e:TypeId) (sz:Nat) (l:List (List D)) (tt tb:List Nat):Ev:={ o:=.asg d x,d:=some d,r:=.osl d e sz l,rt:=pW s x.rd,T:=[t,d],tt:=tt,tb:=tb }
theorem bAb {P:Program} {s:St} {d:Nat} {x:AO} {t:Nat} {e:TypeId} {sz:Nat} {l:List (List D)} {tt tb:List Nat} (h1:ev s x=.osl t e sz l) (h2:t≠d):lZ P (evM s d x t e sz l tt tb):=by
  intro s' hrd hg
  have e1:ev s' x=ev s x:=Agree.ev (B:=[]) ⟨rD hrd.rt,fun p hp=>by simp at hp⟩
  show use (ev s' x) _
  rw [e1,h1]
  exact .inr ⟨h2,hg.cl t (by simp [evM]),hg.cl d (by simp [evM]),rfl⟩
def evB (s:St) (d:Nat) (e:TypeId) (sz:Nat) (xs:List AO) (l:List (List D)):Ev:={ o:=.bsl d e sz xs,d:=some d,r:=.osl d e sz l,rt:=pW s (xs.flatMap AO.rd),fr:=[d] }
theorem bFe {P:Program} {s:St} {d:Nat} {e:TypeId} {sz:Nat} {xs:List AO} {l:List (List D)} (h:oZ s sz xs=some l):lZ P (evB s d e sz xs l):=by
  intro s' hrd hg
  have e1:xs.map (ev s')=xs.map (ev s):=Agree.evs (B:=[]) ⟨rD hrd.rt,fun p hp=>by simp at hp⟩
  have h':oZ s' sz xs=some l:=by
    rw [← h]
    clear hrd hg h
    induction xs with
    | nil=>rfl
    | cons x xs ih =>
      simp only [List.map_cons,List.cons.injEq] at e1
      simp only [oZ,e1.1,ih e1.2]
  exact .inl ⟨hg.fr d (by simp [evB]),aKn h' rfl⟩
def dev (s:St) (o:AOp):Option Ev :=
  match o with
  | .asg d x=>if (ev s x).cond.isEmpty&&!(ev s x).isOsl then some (evN s d x) else none
  | .box d T x=>if (ev s x).cond.isEmpty&&((ev s x).solid&&V.noPtrs d (ev s x).cells) then some (evX s d T x) else none
  | .alc d z=>if V.noPtrs d z then some (evA d z) else none
  | .st n x y => if (ev s y).cond.isEmpty then match ev s x with
      | .ptr b o=>match bget s.bx b with
        | some c=>if jP c&&(ev s y).solid&&((ev s y).cells.length==n&&decide (o+n≤c.length)) then some (evS s n x y b o c) else none
        | none=>none
      | _=>none
    else none
  | o => if o.val && (needs s o).all id then match nQ s o with
      | some v=>some (evV s o v)
      | none=>none
    else none
theorem bDr {P:Program} {s:St} {o:AOp} {e:Ev} (h:dev s o=some e):e.o=o∧lZ P e∧Rd e s:=by
  cases o
  case asg d x =>
    simp only [dev] at h
    split at h <;> simp at h
    rename_i hc; subst h
    simp only [Bool.and_eq_true,Bool.not_eq_true'] at hc
    exact ⟨rfl,bEp hc.1,⟨vG,fun p hp=>by simp [evN] at hp,fun p hp=>by simp [evN] at hp⟩⟩
  case box d T x =>
    simp only [dev] at h
    split at h <;> simp at h
    rename_i hc; subst h
    simp only [Bool.and_eq_true] at hc
    exact ⟨rfl,bA9 hc.1 hc.2.1 hc.2.2,⟨vG,fun p hp=>by simp [evX] at hp,fun p hp=>by simp [evX] at hp⟩⟩
  case alc d z =>
    simp only [dev] at h
    split at h <;> simp at h
    rename_i hc; subst h
    exact ⟨rfl,bCy,aUr⟩
  case st n x y =>
    simp only [dev] at h
    split at h
    · rename_i hc
      split at h
      · rename_i h1
        split at h
        · rename_i h2
          split at h <;> simp at h
          rename_i h3; subst h
          simp only [Bool.and_eq_true,beq_iff_eq,decide_eq_true_eq] at h3
          exact ⟨rfl,bF9 h1 hc h3.1.2 h3.2.1 h3.2.2 h3.1.1,aTt h2⟩
        · simp at h
      · simp at h
    · simp at h
  all_goals
    simp only [dev] at h
    split at h
    · rename_i hc
      split at h <;> simp at h
      rename_i hv; subst h
      rw [Bool.and_eq_true] at hc
      exact ⟨rfl,aO3 hc.1 (aAn (C:=fun v=>v=_) hc.2 hv rfl),aJo⟩
    · simp at h
def U1:List AOp→St→Option St
  | [],s=>some s
  | o::l,s=>match dev s o with
    | some e=>U1 l (eff e s)
    | none=>none
def aIm:List AOp→List Ev→St→List Ev
  | [],acc,_=>acc
  | o::l,acc,s=>match dev s o with
    | some e=>aIm l (e::acc) (eff e s)
    | none=>acc
section
variable {P:Program} {K:List Ev→St→Prop} {s:St} {acc:List Ev} {rest:List AOp} {o:AOp} {α β:Type} {r:β} {d:Nat}
theorem fM (n:Nat) {l:List AOp} {s':St} (h:U1 (l.take n) s=some s') (hk:dgo P K (l.drop n) (aIm (l.take n) acc s) s'):dgo P K l acc s:=by
  induction n generalizing l s acc with
  | zero=>simp [U1] at h; subst h; exact hk
  | succ n ih =>
    cases l with
    | nil=>simp [U1] at h; subst h; exact hk
    | cons o l =>
      simp only [List.take_succ_cons,U1] at h
      simp only [List.take_succ_cons,aIm,List.drop_succ_cons] at hk
      cases he:dev s o with
      | none=>rw [he] at h; simp at h
      | some e =>
        rw [he] at h hk
        obtain ⟨h1,h2,h3⟩:=bDr (P:=P) he
        exact ⟨e,h1,h2,h3,ih h hk⟩
theorem kP {m:Option α} {v':α→V} {kF:α→Option β} (h:(m>>=kF)=some r) (hval:o.val=true) (hd:o.dst=some d) (hop:∀ y,m=some y→vop s (fun v=>v=v' y) o) (hk:∀ y,kF y=some r→dgo P K rest (evV s o (v' y)::acc) (s.put d (v' y))):dgo P K (o::rest) acc s:=by
  cases m with
  | none=>simp at h
  | some y=>exact ⟨_,rfl,aO3 hval (hop y rfl),aJo,by rw [aBx hd]; exact hk y h⟩
theorem rO {f : FuncId} {xs : List AO} {args : List V} {m : Option α} {v' : α → V} {kF : α → Option β} (h : (m >>= kF) = some r) (hg : ∀ y, m = some y → bL P f args [] fun x _ => x = v' y)
    (hargs:weaks (xs.map (ev s))=args) (hcl:V.closeds args=true) (hv:∀ y,(v' y).closed=true) (hk:∀ y,kF y=some r→dgo P K rest (evV s (.call (some d) f xs) (v' y)::acc) (s.put d (v' y))):dgo P K (.call (some d) f xs::rest) acc s:=by
  cases m with
  | none=>simp at h
  | some y=>exact ⟨_,rfl,aWc (hg y rfl) hargs hcl (hv y),aJo,by rw [aBx (o:=.call (some d) f xs) rfl]; exact hk y h⟩
theorem bA2 {e sz:Nat} {xs:List AO} {l:List α} {f g:α→List D} (hl:oZ s sz xs=some (l.map g)) (hfg:∀ x,f x=g x) (hk:dgo P K rest (evB s d e sz xs (l.map f)::acc) (s.put d (.osl d e sz (l.map f)))):dgo P K (.bsl d e sz xs::rest) acc s:=by
  have:l.map g=l.map f:=List.map_congr_left fun x _=>(hfg x).symm
  rw [this] at hl
  exact ⟨_,rfl,bFe hl,⟨vG,fun p hp=>by simp [evB] at hp,fun p hp=>by simp [evB] at hp⟩,hk⟩
theorem bFz {e sz t:Nat} {xo:AO} {l:List (List D)} (tt tb:List Nat) {s':St} (h1:ev s xo=.osl t e sz l) (h2:(t==d)=false) (hs:eff (evM s d xo t e sz l tt tb) s=s') (hk:dgo P K rest (evM s d xo t e sz l tt tb::acc) s'):dgo P K (.asg d xo::rest) acc s :=
  ⟨_,rfl,bAb h1 (by simpa using h2),⟨vG,fun p hp=>by simp [evM] at hp,fun p hp=>by simp [evM] at hp⟩,by rw [hs]; exact hk⟩
theorem oG {w:List (List Nat)} {s0:St} {Q:St→Prop} (h1:acc.reverse.all (glB s0)=true) (h2:aAb w (kM 0 acc.reverse)=true) (h:Q s):dgo P (aDj w s0 Q) [] acc s:=⟨h1,h2,h⟩
theorem oM {w:List (List Nat)} {Q:Exit→St→Prop} {l:List AOp} (h:dgo P (aDj w s (Q .normal)) l [] s):avc P (.dops w l) Q s:=h
end
end Go.Ab
