/- Calls that are handed pointers to boxes. -/
import Derived.Test.YtcbkkemcgcdhdaaGreatAbS4
namespace Go.Ab
open Go Go.RowKit
open _root_.List renaming map_cons→QA,mem_cons→QB,contains_eq_mem→QE,mem_map→QF
open _root_.Bool renaming and_eq_true→QC,not_eq_true'→QD
mutual
def V.ptrsIn (l:List Nat):V→Bool
  | .ptr n _=>l.contains n
  | .msl n _ _ _ _=>l.contains n
  | .fn _ vs=>V.ptrsIns l vs
  | .tup vs=>V.ptrsIns l vs
  | .agv vs=>V.ptrsIns l vs
  | .bp n _=>l.contains n
  | .tre n=>l.contains n
  | .trp n _ _ _=>l.contains n
  | .ite _ v=>v.ptrsIn l
  | _=>true
def V.ptrsIns (l:List Nat):List V→Bool
  | []=>true
  | v::vs=>v.ptrsIn l&&V.ptrsIns l vs
end
def fwd:List (Nat×Nat)→Nat→Nat
  | [],n=>n
  | (a,b)::l,n=>if n=a then b else fwd l n
def bwd:List (Nat×Nat)→Nat→Nat
  | [],n=>n
  | (a,b)::l,n=>if n=b then a else bwd l n
def nodupB:List Nat→Bool
  | []=>true
  | x::l=>!l.contains x&&nodupB l
theorem bC1:∀ {L:List (Nat×Nat)},nodupB (L.map (·.1))=true→nodupB (L.map (·.2))=true→∀ {n},n∈L.map (·.2)→fwd L (bwd L n)=n∧bwd L n∈L.map (·.1)
  | [],_,_,n,h=>by simp at h
  | (a,b)::l,h1,h2,n,h=>by
    simp only [QA,nodupB,QC,QD,QE,decide_eq_false_iff_not] at h1 h2
    simp only [bwd]
    split
    · rename_i e; subst e; simp [fwd]
    · rename_i e
      have hn:n∈l.map (·.2):=by
        simp only [QA,QB] at h
        exact h.resolve_left e
      obtain ⟨k1,k2⟩:=bC1 h1.2 h2.2 hn
      have:bwd l n≠a:=fun e=>h1.1 (e ▸ k2)
      simp only [fwd,if_neg this]
      exact ⟨k1,by simp only [QA,QB]; exact .inr k2⟩
theorem aGa:∀ {L:List (Nat×Nat)} {n},n∈L.map (·.1)→(n,fwd L n)∈L
  | [],n,h=>by simp at h
  | (a,b)::l,n,h=>by
    simp only [fwd]
    split
    · rename_i e; subst e; simp
    · rename_i e
      simp only [QA,QB] at h
      exact List.mem_cons_of_mem _ (aGa (h.resolve_left e))
theorem aV7:∀ {L:List (Nat×Nat)},nodupB (L.map (·.2))=true→∀ {n m},n∈L.map (·.1)→m∈L.map (·.1)→fwd L n=fwd L m→n=m
  | [],_,n,m,h,_,_=>by simp at h
  | (a,b)::l,hd,n,m,hn,hm,he=>by
    simp only [QA,nodupB,QC,QD,QE,decide_eq_false_iff_not] at hd
    simp only [QA,QB] at hn hm
    simp only [fwd] at he
    split at he <;> split at he
    · rename_i e1 e2; rw [e1,e2]
    · rename_i e1 e2
      have:=aGa (hm.resolve_left e2)
      rw [← he] at this
      exact absurd (QF.2 ⟨_,this,rfl⟩) hd.1
    · rename_i e1 e2
      have:=aGa (hn.resolve_left e1)
      rw [he] at this
      exact absurd (QF.2 ⟨_,this,rfl⟩) hd.1
    · rename_i e1 e2
      exact aV7 hd.2 (hn.resolve_left e1) (hm.resolve_left e2) he
def vU:List (Nat×List V)→List (Nat×List V)→Prop
  | [],_=>True
  | (n,c)::l,b=>bget b n=some c∧vU l b
theorem aX7 {b:List (Nat×List V)}:∀ {B:List (Nat×List V)},vU B b→∀ {n c},bget B n=some c→bget b n=some c
  | [],_,n,c,h=>by simp [bget] at h
  | (m,d)::l,hB,n,c,h=>by
    simp only [bget] at h
    split at h
    · rename_i e; subst e; simp at h; subst h; exact hB.1
    · exact aX7 hB.2 h
def cO {β:Type} (P:Program) (f:FuncId) (args:List V) (fb:List (Nat×List V)) (v:β→V) (B:β→List (Nat×List V)) (x:Option β):Prop :=
  ∀ r,x=some r→bF P f args fb fun y b=>y=v r∧vU (B r) b
section
variable {P:Program} {K:St→Prop} {rest:List AOp} {s:St} {α β:Type} {r:β}
end
end Go.Ab
