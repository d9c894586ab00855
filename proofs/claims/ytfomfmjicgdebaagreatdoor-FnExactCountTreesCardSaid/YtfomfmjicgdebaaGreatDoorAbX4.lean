/- Calls of method values: what they are bound to stands ahead of the arguments. -/
import Derived.Test.YtfomfmjicgdebaaGreatDoorAbX3
namespace Go.Ab
open Go
variable {P:Program} {K:St→Prop} {KD:List Ev→St→Prop} {rest:List AOp} {acc:List Ev} {s:St} {α β:Type} {r:β}
theorem cgm (c : bC) (caps : List V) {f : FuncId} {fo : AO} {xs : List AO} {dd : Option Nat} {args : List V} {fb : List (Nat × List V)} {m : Option α} {v : α → V} {B : α → List (Nat × List V)} {kF : α → Option β} (h : (m >>= kF) = some r) (hg : dV P f args fb v B m)
    (hk:∀ y,kF y=some r→aZ P K rest ((c.st s (B y)).putO dd (c.res (v y)))) (hfn:ev s fo=.fn (mvc f) caps:=by kernel_rfl) (hgo:oD P f=true:=by kernel_rfl) (hargs:c.args s.bx (caps++xs.map (ev s))=args:=by kernel_rfl) (hfb:c.fb s.bx=fb:=by kernel_rfl) (hin:c.hin s (caps++xs.map (ev s))=true:=by kernel_rfl) (hcl:c.hcl s dd=true:=by kernel_rfl)
    (hout:∀ y,c.hout (v y) (B y)=true:=by intro _; kernel_rfl):aZ P K (.callv dd fo xs::rest) s:=by
  cases m with
  | none=>simp at h
  | some y =>
    show aop P s (aZ P K rest) (.callv dd fo xs)
    simp only [aop,hfn]
    exact .inr ⟨f,rfl,hgo,aBy c (hg y rfl) hargs hfb hin hcl (hout y) (hk y h)⟩
theorem M4 (c : bC) (tt tb : List Nat) (caps : List V) {f : FuncId} {fo : AO} {xs : List AO} {dd : Option Nat} {args : List V} {fb : List (Nat × List V)} {m : Option α} {v : α → V} {B : α → List (Nat × List V)} {kF : α → Option β} (h : (m >>= kF) = some r) (hg : dV P f args fb v B m)
    (hk:∀ y,kF y=some r→dgo P KD rest (evK c s (.callv dd fo xs) dd (v y) (B y) tt tb::acc) (eff (evK c s (.callv dd fo xs) dd (v y) (B y) tt tb) s)) (hfn:ev s fo=.fn (mvc f) caps:=by kernel_rfl) (hgo:oD P f=true:=by kernel_rfl) (hargs:c.args s.bx (caps++xs.map (ev s))=args:=by kernel_rfl) (hfb:c.fb s.bx=fb:=by kernel_rfl) (hin:c.hin s (caps++xs.map (ev s))=true:=by kernel_rfl) (hd:c.hd dd=true:=by kernel_rfl)
    (hout:∀ y,c.hout (v y) (B y)=true:=by intro _; kernel_rfl):dgo P KD (.callv dd fo xs::rest) acc s:=by
  cases m with
  | none=>simp at h
  | some y =>
    refine ⟨_,rfl,aOo (hg y rfl) (fun s' K' hrd hk'=>?_) hargs hfb hin hd (hout y),aIs (by simp only [bC.hin,Bool.and_eq_true] at hin; exact hin.2.1) (by simp only [bC.hin,Bool.and_eq_true] at hin; exact hin.2.2.2),hk y h⟩
    have e:(fo::xs).map (ev s')=(fo::xs).map (ev s):=Agree.evs (B:=[]) ⟨hrd,fun p hp=>by simp at hp⟩
    simp only [List.map_cons,List.cons.injEq] at e
    show aop P s' K' (.callv dd fo xs)
    simp only [aop,e.1,e.2,hfn]
    exact .inr ⟨f,rfl,hgo,hk'⟩
end Go.Ab
