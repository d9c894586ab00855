/- Short names for the steps; what can be seen by computing is filled in. -/
import Derived.Test.YtiofikmhbpbejaaGreatDoorAbC2
import Derived.KernelRfl
namespace Go.Ab
open Go Go.RowKit
open _root_.List renaming map_cons→QA,all_cons→QC
open _root_.Bool renaming and_eq_true→QB
abbrev vI (n:Int):V:=.d (.i .i64 n)
abbrev vB (b:Bool):V:=.d (.b b)
abbrev vS (s:List UInt8):V:=.d (.s (bs s))
abbrev kI (n:Int):AO:=.c (.d (.i .i64 n))
abbrev kB (b:Bool):AO:=.c (.d (.b b))
abbrev St.p (s:St) (l:List (Nat×V)):St:=⟨l++s.env,s.bx⟩
section
variable {P:Program} {K:St→Prop} {Q:Exit→St→Prop} {s:St} {x y:AC} {rest:List AOp} {o:AOp} {α β:Type} {r:β} {d:Nat}
theorem oi {K:Exit→St→Prop} {l:List AOp} (h:dR P (K .normal) l s):avc P (.ops l) K s:=⟨s,Wk.refl s,h⟩
theorem xi {next:St→Prop} (h:next s):vZ (wkK next) Q .normal s:=⟨s,Wk.refl s,h⟩
theorem tr {n:St→Prop} (h:Q .ret s):vZ n Q .ret s:=h
theorem br {id:Nat} (h:Q .ret s):uN id Q .ret s:=h
theorem bn {id:Nat} (h:Q .normal s):uN id Q .normal s:=h
theorem bh {id:Nat} (h:Q .normal s):uN id Q (.exit id) s:=bE3 h
theorem st (n:Nat) (s':St) {l:List AOp} (hk:dR P K (l.drop n) s') (h:sts (l.take n) s=some s':=by kernel_rfl):dR P K l s:=bLh n h hk
def stz (l:List AOp) (s:St):St:=match sts l s with
  | some s'=>s'
  | none=>s
def aZi (l:List AOp) (s:St):St:=match bD7 l s with
  | some s'=>s'
  | none=>s
theorem vs {m:Option α} (v':α→V) {kF:α→Option β} (h:(m>>=kF)=some r) (hop:∀ y,m=some y→vop s (fun v=>v=v' y) o) (hk:∀ y,kF y=some r→dR P K rest (s.put d (v' y))) (hval:o.val=true:=by kernel_rfl) (hd:o.dst=some d:=by rfl):dR P K (o::rest) s:=aT8 h hval hd hop hk
theorem ps (v':V) (hop:vop s (fun v=>v=v') o) (hk:dR P K rest (s.put d v')) (hval:o.val=true:=by kernel_rfl) (hd:o.dst=some d:=by rfl):dR P K (o::rest) s:=bVl hval hd hop hk
theorem gv {j : Nat} {want : Bool} (p b : Bool) {m : Option α} {dflt : α} (v' : α → V) {kF : α → Option β} (h : ((if (p && (b == want)) = true then m else some dflt) >>= kF) = some r)
    (hop:∀ y,m=some y→(p&&(b==want))=true→vop s (fun v=>v=v' y) o) (hk:∀ y,kF y=some r→dR P K rest (s.put d (.ite (p&&(b==want)) (v' y)))) (hb:kM (lk s.env j)=some (p,b):=by kernel_rfl) (hval:o.val=true:=by kernel_rfl) (hd:o.dst=some d:=by rfl):dR P K (.g j want o::rest) s:=aV9 h hb hval hd hop hk
theorem gp {j : Nat} {want : Bool} (p b : Bool) (v' : V) (hop : (p && (b == want)) = true → vop s (fun v => v = v') o) (hk : dR P K rest (s.put d (.ite (p && (b == want)) v'))) (hb : kM (lk s.env j) = some (p, b) := by kernel_rfl) (hval : o.val = true := by kernel_rfl) (hd : o.dst = some d := by rfl) :
    dR P K (.g j want o::rest) s:=bG2 hb hval hd hop hk
theorem vl {o:AOp} {v:V} (hn:(needs s o).all id=true:=by kernel_rfl) (h:nP s o=some v:=by kernel_rfl):vop s (fun x=>x=v) o:=aYt hn h
theorem cs {f : FuncId} {xs : List AO} {dd : Option Nat} {args : List V} {m : Option α} {v' : α → V} {kF : α → Option β} (h : (m >>= kF) = some r) (hg : FOk P f args v' m) (hk : ∀ y, kF y = some r → dR P K rest (s.putO dd (v' y)))
    (hargs:weaks (xs.map (ev s))=args:=by kernel_rfl) (hcl:V.closeds args=true:=by kernel_rfl) (hv:∀ y,(v' y).closed=true:=by intro _; rfl):dR P K (.call dd f xs::rest) s:=bEy h hg hargs hcl hv hk
end
instance (n:Nat):OfNat AO n:=⟨.t n⟩
abbrev ln {α:Type} (l:List α):Int:=l.length
theorem r1 {s:St} {o:AOp} {v:V} {R:V→List (Nat×List V)→Prop} (h:nP s o=some v:=by kernel_rfl) (hn:(needs s o).all id=true:=by kernel_rfl) (hR:R v s.bx:=by kernel_rfl):kW [o] R .ret s:=aPw h hn hR
section
variable {ρ:List (Nat×Tk)} {n:Nat} {v:V} {l:List (Nat×V)} {s:St}
theorem es (ht:uJ ρ s l) (h:lk s.env n=v:=by kernel_rfl) (hs:v.still=true:=by kernel_rfl):uJ ρ s ((n,v)::l):=aOz (mG h hs) ht
theorem eo (t:Nat) {t':Nat} {e:TypeId} {sz:Nat} {m:List (List D)} (ht:uJ ρ s l) (h:lk s.env n=.osl t e sz m:=by kernel_rfl) (hq:mH ρ t'=some (.old t):=by kernel_rfl):uJ ρ s ((n,.osl t' e sz m)::l):=aOz (kU h hq) ht
theorem en {t':Nat} {e:TypeId} {sz:Nat} (ht:uJ ρ s l) (h:lk s.env n=.nil sz:=by kernel_rfl) (hq:mH ρ t'=some (.new e sz):=by kernel_rfl):uJ ρ s ((n,.osl t' e sz [])::l):=aOz (aO8 h hq) ht
theorem eS (h:l.map (fun p=>(p.1,lk s.env p.1))=l:=by kernel_rfl) (hs:l.all (fun p=>p.2.still)=true:=by kernel_rfl):uJ ρ s l:=by
  induction l with
  | nil=>exact jO
  | cons p l ih =>
    obtain ⟨n,v⟩:=p
    rw [QA,List.cons.injEq] at h
    rw [QC,QB] at hs
    exact aOz (mG (Prod.mk.inj h.1).2 hs.1) (ih h.2 hs.2)
theorem bS {l:List (Nat×List V)} (h:l.map (fun p=>(p.1,bget s.bx p.1))=l.map (fun p=>(p.1,some p.2)):=by kernel_rfl) (hs:l.all (fun p=>V.stills p.2)=true:=by kernel_rfl):bxR ρ s l:=by
  induction l with
  | nil=>exact bM
  | cons p l ih =>
    obtain ⟨n,v⟩:=p
    rw [QA,QA,List.cons.injEq] at h
    rw [QC,QB] at hs
    exact aW7 (Prod.mk.inj h.1).2 hs.1 (ih h.2 hs.2)
theorem bs_ {c:List V} {l:List (Nat×List V)} (ht:bxR ρ s l) (h:bget s.bx n=some c:=by kernel_rfl) (hs:V.stills c=true:=by kernel_rfl):bxR ρ s ((n,c)::l):=aW7 h hs ht
theorem wr (ρ:List (Nat×Tk)) {s s':St} (he:uJ ρ s s'.env) (hb:bxR ρ s s'.bx) (hi:inj (olds ρ)=true:=by kernel_rfl):Wk s s':=bUg ρ hi he hb
end
end Go.Ab
