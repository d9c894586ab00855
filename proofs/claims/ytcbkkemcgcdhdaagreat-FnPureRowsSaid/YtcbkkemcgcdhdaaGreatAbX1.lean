/- Steps in few words: what can be seen is filled in. -/
import Derived.Test.YtcbkkemcgcdhdaaGreatAbT7
namespace Go.Ab
open Go Go.RowKit
open _root_.List renaming replicate→QA
open _root_.Nat renaming le_of_ble_eq_true→QB
class Enc (α:Type) where
  f:α→List D
  g:α→List D
  e:∀ x,f x=g x
theorem aO6 {c:Bool} (n:Nat) (h:c=true):(QA n c).all id=true:=by
  subst h; simp
def gcV (s:St) (j:Nat) (want:Bool):Bool:=match iW (lk s.env j) with
  | some (p,b)=>p&&(b==want)
  | none=>false
def vR (s:St) (o:AOp):V:=match nD s o with
  | some v=>v
  | none=>.und
section
variable {P:Program} {K:St→Prop} {KD:List Ev→St→Prop} {Q:Exit→St→Prop} {rest:List AOp} {acc:List Ev} {s:St} {o:AOp} {α β:Type} {r:β} {d:Nat}
theorem gq (n:Nat) {j:Nat} {want:Bool} (hk:bN P K rest (s.put d (.ite (gcV s j want) (vR s o)))) (hval:o.val=true:=by kernel_rfl) (hd:o.dst=some d:=by rfl) (hb:(iW (lk s.env j)).isSome=true:=by kernel_rfl) (hv:(nD s o).isSome=true:=by kernel_rfl)
    (hn:(needs s o).all id=(QA n (gcV s j want)).all id:=by kernel_rfl):bN P K (.g j want o::rest) s:=by
  cases e:iW (lk s.env j) with
  | none=>rw [e] at hb; simp at hb
  | some q =>
    obtain ⟨p,b⟩:=q
    cases e2:nD s o with
    | none=>rw [e2] at hv; simp at hv
    | some v =>
      have e3:gcV s j want=(p&&(b==want)):=by simp only [gcV,e]
      have e4:vR s o=v:=by simp only [vR,e2]
      rw [e3] at hn hk
      rw [e4] at hk
      exact bGu e hval hd (fun hc=>bAz (hn.trans (aO6 n hc)) e2) hk
theorem dgq (n:Nat) {j:Nat} {want:Bool} (hk:dgo P KD rest (evV s (.g j want o) (.ite (gcV s j want) (vR s o))::acc) (s.put d (.ite (gcV s j want) (vR s o)))) (hval:o.val=true:=by kernel_rfl) (hd:o.dst=some d:=by rfl) (hb:(iW (lk s.env j)).isSome=true:=by kernel_rfl) (hv:(nD s o).isSome=true:=by kernel_rfl)
    (hn:(needs s o).all id=(QA n (gcV s j want)).all id:=by kernel_rfl):dgo P KD (.g j want o::rest) acc s:=by
  cases e:iW (lk s.env j) with
  | none=>rw [e] at hb; simp at hb
  | some q =>
    obtain ⟨p,b⟩:=q
    cases e2:nD s o with
    | none=>rw [e2] at hv; simp at hv
    | some v =>
      have e3:gcV s j want=(p&&(b==want)):=by simp only [gcV,e]
      have e4:vR s o=v:=by simp only [vR,e2]
      rw [e3] at hn hk
      rw [e4] at hk
      exact aDb e hval hd (fun hc=>bAz (hn.trans (aO6 n hc)) e2) hk
theorem gc (n:Nat) {j:Nat} {want p b:Bool} {f:FuncId} {xs:List AO} {args:List V} {m:Option α} {dflt:α} {v':α→V} {kF:α→Option β} (h:((if (p&&(b==want))=true then m else some dflt)>>=kF)=some r)
    (hg:∀ y,m=some y→bF P f args [] fun x _=>x=v' y) (hk:∀ y,kF y=some r→bN P K rest (s.put d (.ite (p&&(b==want)) (v' y)))) (hb:iW (lk s.env j)=some (p,b):=by kernel_rfl)
    (hargs:weaks (strs (xs.map (ev s)))=args:=by kernel_rfl) (hcl:V.closeds args=true:=by kernel_rfl) (hv:∀ y,(v' y).closed=true:=by intro _; rfl) (hn:(conds s xs).all id=(QA n (p&&(b==want))).all id:=by kernel_rfl):bN P K (.g j want (.call (some d) f xs)::rest) s :=
  bLs h hb hg (fun _=>hargs) hcl hv (fun hc=>hn.trans (aO6 n hc)) hk
theorem rp {o:AOp} {V0:V} (h:nD s o=some V0:=by kernel_rfl) (hn:(needs s o).all id=true:=by kernel_rfl):jH [o] (fun x _=>x=V0) .ret s:=aQa h hn rfl
theorem bxH:∀ {B b:List (Nat×List V)},B.map (fun p=>bget b p.1)=B.map (fun p=>some p.2)→vU B b
  | [],_,_=>trivial
  | (n,c)::l,b,h=>by
    simp only [List.map_cons,List.cons.injEq] at h
    exact ⟨h.1,bxH h.2⟩
theorem rb {o:AOp} {V0:V} {B0:List (Nat×List V)} (h:nD s o=some V0:=by kernel_rfl) (hn:(needs s o).all id=true:=by kernel_rfl) (hB:B0.map (fun p=>bget s.bx p.1)=B0.map (fun p=>some p.2):=by kernel_rfl):jH [o] (fun x b=>x=V0∧vU B0 b) .ret s:=aQa h hn ⟨rfl,bxH hB⟩
theorem ao {f:FuncId} {ac:AC} {rs:List AOp} {M:Nat} {args:List V} {fb:List (Nat×List V)} {R:V→List (Nat×List V)→Prop} (htr:aDs P f=some (ac,rs,M)) (hv:avc P ac (jH rs R) ⟨xU 0 args,fb⟩) (hargs:Nat.ble args.length M=true:=by rfl)
    (hfb:fb.all (fun p=>Nat.ble M p.1&&Nat.blt p.1 NX)=true:=by kernel_rfl):bF P f args fb R:=by
  refine cGf htr (QB hargs) (fun n hn=>?_) hv
  obtain ⟨p,hp,rfl⟩:=List.mem_map.1 hn
  have:=List.all_eq_true.1 hfb p hp
  simp only [Bool.and_eq_true] at this
  exact ⟨QB this.1,QB this.2⟩
end
end Go.Ab
