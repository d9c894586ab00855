/- Rows of plain cells are appended to a tree in a region whose order is left open. -/
import Derived.Test.YtfomfmjicgdebabGreatDoorAbX1
namespace Go.Ab
open Go
variable {P:Program} {s:St} {d:Nat} {acc:List Ev} {KD:List Ev→St→Prop} {rest:List AOp} {α β:Type} {r:β}
theorem aE6 {e sz by' : Nat} {xo yo : AO} {l m : List α} {f : α → List D} (N1 : List Nat) {kF : List α → Option β} {S' : List α → St} (h : (appG by' l m >>= kF) = some r) (hc : ((ev s xo).cond.isEmpty && (ev s yo).cond.isEmpty) = true) (hx : mI s sz (ev s xo) = some (l.map f, N1)) (hy : srV (ev s yo) = some (sz, m.map f)) (hfl : ∀ x, (f x).all D.flat = true)
    (hd:wJ d N1=true) (hS:∀ y:List α,eff (evR s (.app d e sz by' xo yo) d (xo.rd++yo.rd) sz (y.map f) N1) s=S' y) (hk:∀ y,kF y=some r→dgo P KD rest (evR s (.app d e sz by' xo yo) d (xo.rd++yo.rd) sz (y.map f) N1::acc) (S' y)):dgo P KD (.app d e sz by' xo yo::rest) acc s:=by
  unfold appG at h
  split at h
  · rename_i h0
    rw [Bool.and_eq_true] at hc
    obtain ⟨h1,h2⟩:=N7 hd
    have hdd:∀ k ∈ N1,(bget s.bx k).isSome=true:=fun k hk=>aI9 hx k hk
    refine ⟨evR s (.app d e sz by' xo yo) d (xo.rd++yo.rd) sz ((l++m).map f) N1,rfl,?_,aHq hdd,by rw [hS]; exact hk _ h⟩
    intro s2 hrd hg
    have hag:Agree s s2 (xo.rd++yo.rd) []:=⟨gZ hrd.rt,fun p hp=>by simp at hp⟩
    have hget:=aM2 hdd hrd
    show aop P s2 _ (.app d e sz by' xo yo)
    simp only [aop]
    rw [hag.l.ev,hag.r.ev]
    refine kT hc.1 (kT hc.2 (.inr ⟨_,_,aNc hx hget,.inr (W9 hy ?_)⟩))
    refine ⟨rfl,fun r hr=>by obtain ⟨x,_,rfl⟩:=List.mem_map.1 hr; exact hfl x,by rw [List.append_nil]; exact h1,by rw [List.append_nil]; exact h2,by simpa using h0,hg.fr d (by simp [evR]),?_⟩
    rw [← List.map_append,List.append_nil]; exact aNy
  · simp at h
end Go.Ab
