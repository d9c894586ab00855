/- Short names for the steps; what can be seen by computing is filled in. -/
import Derived.Test.YtcbkkemcgcdhdaaGreatAbC2
import Derived.KernelRfl
namespace Go.Ab
open Go Go.RowKit
open _root_.List renaming map_cons→QA,all_cons→QC
open _root_.Bool renaming and_eq_true→QB
abbrev vI (n:Int):V:=.d (.i .i64 n)
abbrev vB (b:Bool):V:=.d (.b b)
abbrev vS (s:List UInt8):V:=.d (.s (bs s))
abbrev kI (n:Int):AO:=.c (.d (.i .i64 n))
abbrev kB (b:Bool):AO:=.c (.d (.b b))
abbrev St.p (s:St) (l:List (Nat×V)):St:=⟨l++s.env,s.bx⟩
section
variable {P:Program} {K:St→Prop} {Q:Exit→St→Prop} {s:St} {x y:AC} {rest:List AOp} {o:AOp} {α β:Type} {r:β} {d:Nat}
theorem oi {K:Exit→St→Prop} {l:List AOp} (h:bN P (K .normal) l s):avc P (.ops l) K s:=⟨s,Wk.refl s,h⟩
theorem si (h:avc P x (uB (wkK (avc P y Q)) Q) s):avc P (.seq x y) Q s:=h
theorem ni {K:St→Prop} (h:K s):bN P K [] s:=h
theorem ei {id:Nat} (h:Q (.exit id) s):avc P (.exit id) Q s:=h
theorem tr {n:St→Prop} (h:Q .ret s):uB n Q .ret s:=h
theorem br {id:Nat} (h:Q .ret s):tQ id Q .ret s:=h
theorem bn {id:Nat} (h:Q .normal s):tQ id Q .normal s:=h
theorem bh {id:Nat} (h:Q .normal s):tQ id Q (.exit id) s:=bM6 h
theorem st (n:Nat) (s':St) {l:List AOp} (hk:bN P K (l.drop n) s') (h:sts (l.take n) s=some s':=by kernel_rfl):bN P K l s:=bF0 n h hk
def stz (l:List AOp) (s:St):St:=match sts l s with
  | some s'=>s'
  | none=>s
def aYv (l:List AOp) (s:St):St:=match bEy l s with
  | some s'=>s'
  | none=>s
theorem vs {m:Option α} (v':α→V) {kF:α→Option β} (h:(m>>=kF)=some r) (hop:∀ y,m=some y→vop s (fun v=>v=v' y) o) (hk:∀ y,kF y=some r→bN P K rest (s.put d (v' y))) (hval:o.val=true:=by kernel_rfl) (hd:o.dst=some d:=by rfl):bN P K (o::rest) s:=bBk h hval hd hop hk
theorem ps (v':V) (hop:vop s (fun v=>v=v') o) (hk:bN P K rest (s.put d v')) (hval:o.val=true:=by kernel_rfl) (hd:o.dst=some d:=by rfl):bN P K (o::rest) s:=cBy hval hd hop hk
theorem gv {j:Nat} {want:Bool} (p b:Bool) {m:Option α} {dflt:α} (v':α→V) {kF:α→Option β} (h:((if (p&&(b==want))=true then m else some dflt)>>=kF)=some r)
    (hop:∀ y,m=some y→(p&&(b==want))=true→vop s (fun v=>v=v' y) o) (hk:∀ y,kF y=some r→bN P K rest (s.put d (.ite (p&&(b==want)) (v' y)))) (hb:iW (lk s.env j)=some (p,b):=by kernel_rfl) (hval:o.val=true:=by kernel_rfl) (hd:o.dst=some d:=by rfl):bN P K (.g j want o::rest) s:=aZu h hb hval hd hop hk
theorem gp {j:Nat} {want:Bool} (p b:Bool) (v':V) (hop:(p&&(b==want))=true→vop s (fun v=>v=v') o) (hk:bN P K rest (s.put d (.ite (p&&(b==want)) v'))) (hb:iW (lk s.env j)=some (p,b):=by kernel_rfl) (hval:o.val=true:=by kernel_rfl) (hd:o.dst=some d:=by rfl) :
    bN P K (.g j want o::rest) s:=bGu hb hval hd hop hk
theorem vl {o:AOp} {v:V} (hn:(needs s o).all id=true:=by kernel_rfl) (h:nD s o=some v:=by kernel_rfl):vop s (fun x=>x=v) o:=bAz hn h
theorem cs {f:FuncId} {xs:List AO} {dd:Option Nat} {args:List V} {m:Option α} {v':α→V} {kF:α→Option β} (h:(m>>=kF)=some r) (hg:FOk P f args v' m) (hk:∀ y,kF y=some r→bN P K rest (s.putO dd (v' y)))
    (hargs:weaks (xs.map (ev s))=args:=by kernel_rfl) (hcl:V.closeds args=true:=by kernel_rfl) (hv:∀ y,(v' y).closed=true:=by intro _; rfl):bN P K (.call dd f xs::rest) s:=bLf h hg hargs hcl hv hk
end
instance (n:Nat):OfNat AO n:=⟨.t n⟩
abbrev ln {α:Type} (l:List α):Int:=l.length
theorem r1 {s:St} {o:AOp} {v:V} {R:V→List (Nat×List V)→Prop} (h:nD s o=some v:=by kernel_rfl) (hn:(needs s o).all id=true:=by kernel_rfl) (hR:R v s.bx:=by kernel_rfl):jH [o] R .ret s:=aQa h hn hR
section
variable {ρ:List (Nat×Tk)} {n:Nat} {v:V} {l:List (Nat×V)} {s:St}
theorem es (ht:qB ρ s l) (h:lk s.env n=v:=by kernel_rfl) (hs:v.still=true:=by kernel_rfl):qB ρ s ((n,v)::l):=aLv (eQ h hs) ht
theorem ew (ht:qB ρ s l) (h:(lk s.env n).weak=v:=by kernel_rfl) (hs:v.still=true:=by kernel_rfl):qB ρ s ((n,v)::l):=aLv (bYb h hs) ht
theorem eo (t:Nat) {t':Nat} {e:TypeId} {sz:Nat} {m:List (List D)} (ht:qB ρ s l) (h:lk s.env n=.osl t e sz m:=by kernel_rfl) (hq:lQ ρ t'=some (.old t):=by kernel_rfl):qB ρ s ((n,.osl t' e sz m)::l):=aLv (lC h hq) ht
theorem en {t':Nat} {e:TypeId} {sz:Nat} (ht:qB ρ s l) (h:lk s.env n=.nil sz:=by kernel_rfl) (hq:lQ ρ t'=some (.new e sz):=by kernel_rfl):qB ρ s ((n,.osl t' e sz [])::l):=aLv (aCq h hq) ht
theorem eS (h:l.map (fun p=>(p.1,lk s.env p.1))=l:=by kernel_rfl) (hs:l.all (fun p=>p.2.still)=true:=by kernel_rfl):qB ρ s l:=by
  induction l with
  | nil=>exact kG
  | cons p l ih =>
    obtain ⟨n,v⟩:=p
    rw [QA,List.cons.injEq] at h
    rw [QC,QB] at hs
    exact aLv (eQ (Prod.mk.inj h.1).2 hs.1) (ih h.2 hs.2)
theorem bS {l:List (Nat×List V)} (h:l.map (fun p=>(p.1,bget s.bx p.1))=l.map (fun p=>(p.1,some p.2)):=by kernel_rfl) (hs:l.all (fun p=>V.stills p.2)=true:=by kernel_rfl):bxR ρ s l:=by
  induction l with
  | nil=>exact bA
  | cons p l ih =>
    obtain ⟨n,v⟩:=p
    rw [QA,QA,List.cons.injEq] at h
    rw [QC,QB] at hs
    exact bCl (Prod.mk.inj h.1).2 hs.1 (ih h.2 hs.2)
theorem bs_ {c:List V} {l:List (Nat×List V)} (ht:bxR ρ s l) (h:bget s.bx n=some c:=by kernel_rfl) (hs:V.stills c=true:=by kernel_rfl):bxR ρ s ((n,c)::l):=bCl h hs ht
theorem wr (ρ:List (Nat×Tk)) {s s':St} (he:qB ρ s s'.env) (hb:bxR ρ s s'.bx) (hi:inj (olds ρ)=true:=by kernel_rfl):Wk s s':=bQu ρ hi he hb
end
end Go.Ab
