/- Short names for the steps; what can be seen by computing is filled in. -/
import Derived.Test.YtfomfmjicgdebabGreatDoorAbC2
import Derived.KernelRfl
namespace Go.Ab
open Go Go.RowKit
abbrev vI (n:Int):V:=.d (.i .i64 n)
abbrev vB (b:Bool):V:=.d (.b b)
abbrev vS (s:List UInt8):V:=.d (.s (bs s))
abbrev kI (n:Int):AO:=.c (.d (.i .i64 n))
abbrev kB (b:Bool):AO:=.c (.d (.b b))
abbrev St.p (s:St) (l:List (Nat×V)):St:=⟨l++s.env,s.bx⟩
section
variable {P:Program} {K:St→Prop} {Q:Exit→St→Prop} {s:St} {x y:AC} {rest:List AOp} {o:AOp} {α β:Type} {r:β} {d:Nat}
theorem oi {K:Exit→St→Prop} {l:List AOp} (h:bA P (K .normal) l s):avc P (.ops l) K s:=⟨s,Wk.refl s,h⟩
theorem si (h:avc P x (bG (wkK (avc P y Q)) Q) s):avc P (.seq x y) Q s:=h
theorem ni {K:St→Prop} (h:K s):bA P K [] s:=h
theorem xi {next:St→Prop} (h:next s):bG (wkK next) Q .normal s:=⟨s,Wk.refl s,h⟩
theorem ki (h:Q .normal s):avc P .skip Q s:=h
theorem ei {id:Nat} (h:Q (.exit id) s):avc P (.exit id) Q s:=h
theorem ri (h:Q .ret s):avc P .ret Q s:=⟨s,Wk.refl s,h⟩
theorem bi {id:Nat} (h:avc P x (bI id Q) s):avc P (.block id x) Q s:=h
theorem te {n:St→Prop} {id:Nat} (h:Q (.exit id) s):bG n Q (.exit id) s:=h
theorem tr {n:St→Prop} (h:Q .ret s):bG n Q .ret s:=h
theorem br {id:Nat} (h:Q .ret s):bI id Q .ret s:=h
theorem bn {id:Nat} (h:Q .normal s):bI id Q .normal s:=h
theorem bh {id:Nat} (h:Q .normal s):bI id Q (.exit id) s:=bCa h
theorem st (n:Nat) (s':St) {l:List AOp} (hk:bA P K (l.drop n) s') (h:sts (l.take n) s=some s':=by kernel_rfl):bA P K l s:=aNi n h hk
def stz (l:List AOp) (s:St):St:=match sts l s with
  | some s'=>s'
  | none=>s
theorem sx (n:Nat) {l:List AOp} (hk:bA P K (l.drop n) (stz (l.take n) s)) (h:(sts (l.take n) s).isSome=true:=by kernel_rfl):bA P K l s:=by
  cases e:sts (l.take n) s with
  | none=>simp [e] at h
  | some s'=>exact aNi n e (by simpa only [stz,e] using hk)
def aGj (l:List AOp) (s:St):St:=match wC l s with
  | some s'=>s'
  | none=>s
theorem dsx (n:Nat) {l:List AOp} {KD:List Ev→St→Prop} {acc:List Ev} (hk:dgo P KD (l.drop n) (aEv (l.take n) acc s) (aGj (l.take n) s)) (h:(wC (l.take n) s).isSome=true:=by kernel_rfl):dgo P KD l acc s:=by
  cases e:wC (l.take n) s with
  | none=>simp [e] at h
  | some s'=>exact aMg n e (by simpa only [aGj,e] using hk)
theorem cd {c:AO} {b:Bool} {X Y:Option β} (h:(if b=true then X else Y)=some r) (hx:X=some r→avc P x Q s) (hy:Y=some r→avc P y Q s) (hc:ev s c=.d (.b b):=by kernel_rfl):avc P (.cond c x y) Q s:=bT7 h hc hx hy
theorem vs {m:Option α} (v':α→V) {kF:α→Option β} (h:(m>>=kF)=some r) (hop:∀ y,m=some y→vop s (fun v=>v=v' y) o) (hk:∀ y,kF y=some r→bA P K rest (s.put d (v' y))) (hval:o.val=true:=by kernel_rfl) (hd:o.dst=some d:=by rfl):bA P K (o::rest) s:=aVv h hval hd hop hk
theorem ps (v':V) (hop:vop s (fun v=>v=v') o) (hk:bA P K rest (s.put d v')) (hval:o.val=true:=by kernel_rfl) (hd:o.dst=some d:=by rfl):bA P K (o::rest) s:=bRj hval hd hop hk
theorem gv {j : Nat} {want : Bool} (p b : Bool) {m : Option α} {dflt : α} (v' : α → V) {kF : α → Option β} (h : ((if (p && (b == want)) = true then m else some dflt) >>= kF) = some r)
    (hop:∀ y,m=some y→(p&&(b==want))=true→vop s (fun v=>v=v' y) o) (hk:∀ y,kF y=some r→bA P K rest (s.put d (.ite (p&&(b==want)) (v' y)))) (hb:eP (lk s.env j)=some (p,b):=by kernel_rfl) (hval:o.val=true:=by kernel_rfl) (hd:o.dst=some d:=by rfl):bA P K (.g j want o::rest) s:=aOi h hb hval hd hop hk
theorem gp {j : Nat} {want : Bool} (p b : Bool) (v' : V) (hop : (p && (b == want)) = true → vop s (fun v => v = v') o) (hk : bA P K rest (s.put d (.ite (p && (b == want)) v'))) (hb : eP (lk s.env j) = some (p, b) := by kernel_rfl) (hval : o.val = true := by kernel_rfl) (hd : o.dst = some d := by rfl) :
    bA P K (.g j want o::rest) s:=aNh hb hval hd hop hk
theorem vl {o:AOp} {v:V} (hn:(needs s o).all id=true:=by kernel_rfl) (h:jX s o=some v:=by kernel_rfl):vop s (fun x=>x=v) o:=aH1 hn h
theorem cs {f : FuncId} {xs : List AO} {dd : Option Nat} {args : List V} {m : Option α} {v' : α → V} {kF : α → Option β} (h : (m >>= kF) = some r) (hg : FOk P f args v' m) (hk : ∀ y, kF y = some r → bA P K rest (s.putO dd (v' y)))
    (hargs:weaks (xs.map (ev s))=args:=by kernel_rfl) (hcl:V.closeds args=true:=by kernel_rfl) (hv:∀ y,(v' y).closed=true:=by intro _; rfl):bA P K (.call dd f xs::rest) s:=bD8 h hg hargs hcl hv hk
end
instance (n:Nat):OfNat AO n:=⟨.t n⟩
abbrev ln {α:Type} (l:List α):Int:=l.length
theorem r1 {s:St} {o:AOp} {v:V} {R:V→List (Nat×List V)→Prop} (h:jX s o=some v:=by kernel_rfl) (hn:(needs s o).all id=true:=by kernel_rfl) (hR:R v s.bx:=by kernel_rfl):aV [o] R .ret s:=aNx h hn hR
section
variable {ρ:List (Nat×Tk)} {n:Nat} {v:V} {l:List (Nat×V)} {s:St}
theorem es (ht:kX ρ s l) (h:lk s.env n=v:=by kernel_rfl) (hs:v.still=true:=by kernel_rfl):kX ρ s ((n,v)::l):=aAt (bF h hs) ht
theorem ew (ht:kX ρ s l) (h:(lk s.env n).weak=v:=by kernel_rfl) (hs:v.still=true:=by kernel_rfl):kX ρ s ((n,v)::l):=aAt (yR h hs) ht
theorem eo (t:Nat) {t':Nat} {e:TypeId} {sz:Nat} {m:List (List D)} (ht:kX ρ s l) (h:lk s.env n=.osl t e sz m:=by kernel_rfl) (hq:iA ρ t'=some (.old t):=by kernel_rfl):kX ρ s ((n,.osl t' e sz m)::l):=aAt (dC h hq) ht
theorem en {t':Nat} {e:TypeId} {sz:Nat} (ht:kX ρ s l) (h:lk s.env n=.nil sz:=by kernel_rfl) (hq:iA ρ t'=some (.new e sz):=by kernel_rfl):kX ρ s ((n,.osl t' e sz [])::l):=aAt (zK h hq) ht
theorem eS (h:l.map (fun p=>(p.1,lk s.env p.1))=l:=by kernel_rfl) (hs:l.all (fun p=>p.2.still)=true:=by kernel_rfl):kX ρ s l:=by
  induction l with
  | nil=>exact lX
  | cons p l ih =>
    obtain ⟨n,v⟩:=p
    rw [List.map_cons,List.cons.injEq] at h
    rw [List.all_cons,Bool.and_eq_true] at hs
    exact aAt (bF (Prod.mk.inj h.1).2 hs.1) (ih h.2 hs.2)
theorem bS {l:List (Nat×List V)} (h:l.map (fun p=>(p.1,bget s.bx p.1))=l.map (fun p=>(p.1,some p.2)):=by kernel_rfl) (hs:l.all (fun p=>V.stills p.2)=true:=by kernel_rfl):bxR ρ s l:=by
  induction l with
  | nil=>exact aU
  | cons p l ih =>
    obtain ⟨n,v⟩:=p
    rw [List.map_cons,List.map_cons,List.cons.injEq] at h
    rw [List.all_cons,Bool.and_eq_true] at hs
    exact aJr (Prod.mk.inj h.1).2 hs.1 (ih h.2 hs.2)
theorem bs_ {c:List V} {l:List (Nat×List V)} (ht:bxR ρ s l) (h:bget s.bx n=some c:=by kernel_rfl) (hs:V.stills c=true:=by kernel_rfl):bxR ρ s ((n,c)::l):=aJr h hs ht
theorem wr (ρ:List (Nat×Tk)) {s s':St} (he:kX ρ s s'.env) (hb:bxR ρ s s'.bx) (hi:inj (olds ρ)=true:=by kernel_rfl):Wk s s':=bJy ρ hi he hb
end
end Go.Ab
