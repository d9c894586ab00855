/- Rows of plain cells are appended to a tree in a region whose order is left open. -/
import Derived.Test.YthgkmdkjegiaoabGreatAbX1
namespace Go.Ab
open Go
variable {P:Program} {s:St} {d:Nat} {acc:List Ev} {KD:List Ev→St→Prop} {rest:List AOp} {α β:Type} {r:β}
theorem aOj {e sz by' : Nat} {xo yo : AO} {l m : List α} {f : α → List D} (N1 : List Nat) {kF : List α → Option β} {S' : List α → St} (h : (appG by' l m >>= kF) = some r) (hc : ((ev s xo).cond.isEmpty && (ev s yo).cond.isEmpty) = true) (hx : oL s sz (ev s xo) = some (l.map f, N1)) (hy : srV (ev s yo) = some (sz, m.map f)) (hfl : ∀ x, (f x).all D.flat = true)
    (hd:N9 d N1=true) (hS:∀ y:List α,eff (evR s (.app d e sz by' xo yo) d (xo.rd++yo.rd) sz (y.map f) N1) s=S' y) (hk:∀ y,kF y=some r→dgo P KD rest (evR s (.app d e sz by' xo yo) d (xo.rd++yo.rd) sz (y.map f) N1::acc) (S' y)):dgo P KD (.app d e sz by' xo yo::rest) acc s:=by
  unfold appG at h
  split at h
  · rename_i h0
    rw [Bool.and_eq_true] at hc
    obtain ⟨h1,h2⟩:=aD5 hd
    have hdd:∀ k ∈ N1,(bget s.bx k).isSome=true:=fun k hk=>aTo hx k hk
    refine ⟨evR s (.app d e sz by' xo yo) d (xo.rd++yo.rd) sz ((l++m).map f) N1,rfl,?_,aS3 hdd,by rw [hS]; exact hk _ h⟩
    intro s2 hrd hg
    have hag:Agree s s2 (xo.rd++yo.rd) []:=⟨jG hrd.rt,fun p hp=>by simp at hp⟩
    have hget:=aOx hdd hrd
    show aop P s2 _ (.app d e sz by' xo yo)
    simp only [aop]
    rw [hag.l.ev,hag.r.ev]
    refine qM hc.1 (qM hc.2 (.inr ⟨_,_,aR8 hx hget,.inr (aHb hy ?_)⟩))
    refine ⟨rfl,fun r hr=>by obtain ⟨x,_,rfl⟩:=List.mem_map.1 hr; exact hfl x,by rw [List.append_nil]; exact h1,by rw [List.append_nil]; exact h2,by simpa using h0,hg.fr d (by simp [evR]),?_⟩
    rw [← List.map_append,List.append_nil]; exact aSg
  · simp at h
theorem bAc {f:α→List D} (hf:∀ x,(f x).all D.flat=true) (y:List α):((y.map f).all fun r=>r.all D.flat)=true:=by
  rw [List.all_eq_true]
  intro r hr
  obtain ⟨x,_,rfl⟩:=List.mem_map.1 hr
  exact hf x
theorem aNg {a b:Bool} (h1:a=true) (h2:b=true):(a&&b)=true:=by rw [h1,h2]; rfl
theorem bF8 {c:bN} {x:V} {B:List (Nat×List V)} (h1:x.ptrsIn (c.L'.map (·.1))=true) (h2:nZ B (c.L'.map (·.1)) (c.L'.map (·.1))=true) (h3:x.sfree=true) (h4:((c.L'.map (·.1)).all fun n=>V.sfrees ((bget B n).getD []))=true):c.hout x B=true:=by
  unfold bN.hout
  rw [h1,h2]
  split
  · rfl
  · rw [h3,h4]; rfl
end Go.Ab
