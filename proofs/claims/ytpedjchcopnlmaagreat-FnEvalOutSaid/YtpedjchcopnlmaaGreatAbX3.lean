/- Rows of plain cells are appended to a tree in a region whose order is left open. -/
import Derived.Test.YtpedjchcopnlmaaGreatAbX1
namespace Go.Ab
open Go
open _root_.List renaming append_nil→QA,mem_map→QB
variable {P:Program} {s:St} {d:Nat} {acc:List Ev} {KD:List Ev→St→Prop} {rest:List AOp} {α β:Type} {r:β}
theorem bIl {e sz by':Nat} {xo yo:AO} {l m:List α} {f:α→List D} (N1:List Nat) {kF:List α→Option β} {S':List α→St} (h:(appG by' l m>>=kF)=some r) (hc:((ev s xo).cond.isEmpty&&(ev s yo).cond.isEmpty)=true) (hx:uB s sz (ev s xo)=some (l.map f,N1)) (hy:srV (ev s yo)=some (sz,m.map f)) (hfl:∀ x,(f x).all D.flat=true)
    (hd:Z4 d N1=true) (hS:∀ y:List α,eff (evR s (.app d e sz by' xo yo) d (xo.rd++yo.rd) sz (y.map f) N1) s=S' y) (hk:∀ y,kF y=some r→dgo P KD rest (evR s (.app d e sz by' xo yo) d (xo.rd++yo.rd) sz (y.map f) N1::acc) (S' y)):dgo P KD (.app d e sz by' xo yo::rest) acc s:=by
  unfold appG at h
  split at h
  · rename_i h0
    rw [Bool.and_eq_true] at hc
    obtain ⟨h1,h2⟩:=aGh hd
    have hdd:∀ k∈N1,(bget s.bx k).isSome=true:=fun k hk=>aTl hx k hk
    refine ⟨evR s (.app d e sz by' xo yo) d (xo.rd++yo.rd) sz ((l++m).map f) N1,rfl,?_,aSh hdd,by rw [hS]; exact hk _ h⟩
    intro s2 hrd hg
    have hag:Agree s s2 (xo.rd++yo.rd) []:=⟨lD hrd.rt,fun p hp=>by simp at hp⟩
    have hget:=aX9 hdd hrd
    show aop P s2 _ (.app d e sz by' xo yo)
    simp only [aop]
    rw [hag.l.ev,hag.r.ev]
    refine uN hc.1 (uN hc.2 (.inr (.inl ⟨_,_,aTx hx hget,.inr (aQ7 hy ?_)⟩)))
    refine ⟨rfl,fun r hr=>by obtain ⟨x,_,rfl⟩:=QB.1 hr; exact hfl x,by rw [QA]; exact h1,by rw [QA]; exact h2,by simpa using h0,hg.fr d (by simp [evR]),?_⟩
    rw [← List.map_append,QA]; exact aUu
  · simp at h
theorem bCm {f:α→List D} (hf:∀ x,(f x).all D.flat=true) (y:List α):((y.map f).all fun r=>r.all D.flat)=true:=by
  rw [List.all_eq_true]
  intro r hr
  obtain ⟨x,_,rfl⟩:=QB.1 hr
  exact hf x
theorem aO6 {a b:Bool} (h1:a=true) (h2:b=true):(a&&b)=true:=by rw [h1,h2]; rfl
theorem aZx {c:bM} {x:V} {B:List (Nat×List V)} (h1:x.ptrsIn (c.L'.map (·.1))=true) (h2:uI B (c.L'.map (·.1)) (c.L'.map (·.1))=true) (h3:x.sfree=true) (h4:((c.L'.map (·.1)).all fun n=>V.sfrees ((bget B n).getD []))=true):c.hout x B=true:=by
  unfold bM.hout
  rw [h1,h2]
  split
  · rfl
  · rw [h3,h4]; rfl
end Go.Ab
