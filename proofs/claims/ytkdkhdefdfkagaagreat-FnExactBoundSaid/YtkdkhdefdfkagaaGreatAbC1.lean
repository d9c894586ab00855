/- Calls that are handed boxes and rights and yield such: one theorem for all. -/
import Derived.Test.YtkdkhdefdfkagaaGreatAbS5
namespace Go.Ab
open Go Go.RowKit
mutual
def V.rn (ρ:Nat→Nat) (τ:Nat→Option Nat):V→V
  | .ptr n o=>.ptr (ρ n) o
  | .msl n sz o l c=>.msl (ρ n) sz o l c
  | .osl t e sz l=>match τ t with
    | some t'=>.osl t' e sz l
    | none=>.d (.sl sz l)
  | .fn f l=>.fn f (V.rns ρ τ l)
  | .tup l=>.tup (V.rns ρ τ l)
  | .agv l=>.agv (V.rns ρ τ l)
  | .bp n U=>.bp (ρ n) U
  | .ite c v=>.ite c (v.rn ρ τ)
  | v=>v
def V.rns (ρ:Nat→Nat) (τ:Nat→Option Nat):List V→List V
  | []=>[]
  | v::l=>v.rn ρ τ::V.rns ρ τ l
end
mutual
theorem bI.rn {κ κ' : Ctx} {ρ : Nat → Nat} {τ : Nat → Option Nat} {l : List Nat} (hS : κ.S.le κ'.S) (hm : ∀ n ∈ l, κ'.mt (ρ n) = κ.mt n) (ht : ∀ t t', τ t = some t' → (κ.o t).isSome = true → κ'.o t' = κ.o t) :
    ∀ {v:Value} {x:V},bI κ v x→x.ptrsIn l=true→bI κ' v (x.rn ρ τ)
  | _,_,.top v,_=>.top v
  | _,_,.und,_=>.und
  | _,_,.d h,_=>.d (h.mono hS)
  | _,_,.agg h,_=>.agg (h.mono hS)
  | _,_,.nil sz,_=>.nil sz
  | _,_,.osl (t:=t) (e:=e) (sz:=sz) (l:=m) h1 h2,_=>by
    simp only [V.rn]
    cases hτ:τ t with
    | none=>exact .d (h2.mono hS)
    | some t'=>exact .osl ((ht t t' hτ (by rw [h1]; rfl)).trans h1) (h2.mono hS)
  | _,_,.ptr n off,hp=>by
    have e:κ'.m (ρ n)=κ.m n:=congrArg Prod.fst (hm n (by simpa [V.ptrsIn] using hp))
    have h:=bI.ptr (κ:=κ') (ρ n) off
    rw [e] at h
    exact h
  | _,_,.msl (n:=n) (sz:=sz) (o:=o) h1 h2,hp=>by
    have e:κ'.m (ρ n)=κ.m n:=congrArg Prod.fst (hm n (by simpa [V.ptrsIn] using hp))
    have h:=bI.msl (κ:=κ') (n:=ρ n) (sz:=sz) (o:=o) h1 h2
    rw [e] at h
    exact h
  | _,_,.rp h1 h2,_=>.rp (h1.trans (Z7 (hS _) _)) (h2.mono hS)
  | _,_,.np,_=>.np
  | _,_,.fn h,hp=>.fn (dF.rn hS hm ht h (by simpa [V.ptrsIn] using hp))
  | _,_,.tup h,hp=>.tup (dF.rn hS hm ht h (by simpa [V.ptrsIn] using hp))
  | _,_,.agv h,hp=>.agv (dF.rn hS hm ht h (by simpa [V.ptrsIn] using hp))
  | _,_,.bp0 (n:=n) h,hp=>.bp0 (by rw [hm n (by simpa [V.ptrsIn] using hp)]; exact h)
  | _,_,.bp1 (n:=n) (U:=U) h,hp=>by
    have e:=hm n (by simpa [V.ptrsIn] using hp)
    have k:=bI.bp1 (κ:=κ') (n:=ρ n) (U:=U) (by rw [e]; exact h)
    rw [show κ'.m (ρ n)=κ.m n from congrArg Prod.fst e] at k
    exact k
  | _,_,.yes h,hp=>.yes (bI.rn hS hm ht h (by simpa [V.ptrsIn] using hp))
  | _,_,.no,_=>.no
theorem dF.rn {κ κ' : Ctx} {ρ : Nat → Nat} {τ : Nat → Option Nat} {l : List Nat} (hS : κ.S.le κ'.S) (hm : ∀ n ∈ l, κ'.mt (ρ n) = κ.mt n) (ht : ∀ t t', τ t = some t' → (κ.o t).isSome = true → κ'.o t' = κ.o t) :
    ∀ {v:List Value} {x:List V},dF κ v x→V.ptrsIns l x=true→dF κ' v (V.rns ρ τ x)
  | _,_,.nil,_=>.nil
  | _,_,.cons h t,hp=>by
    simp only [V.ptrsIns,Bool.and_eq_true] at hp
    exact .cons (bI.rn hS hm ht h hp.1) (dF.rn hS hm ht t hp.2)
end
def tf:List (Nat×Nat)→Nat→Option Nat
  | [],_=>none
  | (a,b)::l,n=>if n=a then some b else tf l n
def tb:List (Nat×Nat)→Nat→Option Nat
  | [],_=>none
  | (a,b)::l,n=>if n=b then some a else tb l n
theorem aEg:∀ {T:List (Nat×Nat)} {c t:Nat},tf T c=some t→(c,t) ∈ T
  | [],c,t,h=>by simp [tf] at h
  | (a,b)::l,c,t,h=>by
    simp only [tf] at h
    split at h
    · rename_i e; subst e; simp at h; subst h; simp
    · exact List.mem_cons_of_mem _ (aEg h)
theorem tN:∀ {T:List (Nat×Nat)} {c t:Nat},tb T t=some c→(c,t) ∈ T
  | [],c,t,h=>by simp [tb] at h
  | (a,b)::l,c,t,h=>by
    simp only [tb] at h
    split at h
    · rename_i e; subst e; simp at h; subst h; simp
    · exact List.mem_cons_of_mem _ (tN h)
theorem nodup_cons {x:Nat} {l:List Nat} (h:nodupB (x::l)=true):x ∉ l∧nodupB l=true:=by
  simpa only [nodupB,Bool.and_eq_true,Bool.not_eq_true',List.contains_eq_mem,decide_eq_false_iff_not] using h
theorem R8:∀ {T:List (Nat×Nat)} {c t:Nat},nodupB (T.map (·.1))=true→(c,t) ∈ T→tf T c=some t
  | [],c,t,_,h=>by simp at h
  | (a,b)::l,c,t,hd,h=>by
    obtain ⟨h1,h2⟩:=nodup_cons hd
    simp only [tf]
    rcases List.mem_cons.1 h with h | h
    · simp at h; rw [if_pos h.1,h.2]
    · have hn:c≠a:=fun e=>h1 (List.mem_map.2 ⟨_,h,e⟩)
      rw [if_neg hn,R8 h2 h]
theorem aFn:∀ {T:List (Nat×Nat)} {c t:Nat},nodupB (T.map (·.2))=true→(c,t) ∈ T→tb T t=some c
  | [],c,t,_,h=>by simp at h
  | (a,b)::l,c,t,hd,h=>by
    obtain ⟨h1,h2⟩:=nodup_cons hd
    simp only [tb]
    rcases List.mem_cons.1 h with h | h
    · simp at h; rw [if_pos h.2,h.1]
    · have hn:t≠b:=fun e=>h1 (List.mem_map.2 ⟨_,h,e⟩)
      rw [if_neg hn,aFn h2 h]
def qF:List (Nat×TypeId×Nat)→Nat→Option (TypeId×Nat)
  | [],_=>none
  | (a,x)::l,n=>if n=a then some x else qF l n
def V.mkn (Z:List (Nat×TypeId×Nat)) (o:Option Nat):V→V
  | .nil sz=>match o with
    | some t=>match qF Z t with
      | some x=>.osl t x.1 x.2 []
      | none=>.d (.sl sz [])
    | none=>.d (.sl sz [])
  | v=>v
def mks (Z:List (Nat×TypeId×Nat)):List (Option Nat)→List V→List V
  | _,[]=>[]
  | [],v::l=>v.mkn Z none::mks Z [] l
  | o::os,v::l=>v.mkn Z o::mks Z os l
theorem bI.mkn {κ:Ctx} {Z:List (Nat×TypeId×Nat)} (hz:∀ t x,qF Z t=some x→κ.o t=some ⟨x.1,x.2,.slice none 0 0⟩) {v:Value} {x:V} (o:Option Nat) (h:bI κ v x):bI κ v (x.mkn Z o):=by
  cases h with
  | nil sz =>
    simp only [V.mkn]
    split
    · split
      · rename_i h; exact .osl (hz _ _ h) (.nil _)
      · exact .d (.nil _)
    · exact .d (.nil _)
  | top=>exact .top _
  | und=>exact .und
  | d h=>exact .d h
  | agg h=>exact .agg h
  | osl h1 h2=>exact .osl h1 h2
  | ptr=>exact .ptr _ _
  | msl h1 h2=>exact .msl h1 h2
  | rp h1 h2=>exact .rp h1 h2
  | np=>exact .np
  | fn h=>exact .fn h
  | tup h=>exact .tup h
  | agv h=>exact .agv h
  | bp0 h=>exact .bp0 h
  | bp1 h=>exact .bp1 h
  | yes h=>exact .yes h
  | no=>exact .no
theorem dF.mks {κ:Ctx} {Z:List (Nat×TypeId×Nat)} (hz:∀ t x,qF Z t=some x→κ.o t=some ⟨x.1,x.2,.slice none 0 0⟩):∀ {xs:List V} {os:List (Option Nat)} {vs:List Value},dF κ vs xs→dF κ vs (mks Z os xs)
  | [],os,vs,h=>by cases os <;> exact h
  | x::xs,os,vs,h=>by
    cases h with
    | cons a r =>
      cases os with
      | nil=>exact .cons (a.mkn hz none) (dF.mks hz r)
      | cons o os=>exact .cons (a.mkn hz o) (dF.mks hz r)
theorem bI.dnV {κ:Ctx} {v:Value}:∀ {T:List Nat} {x:V},bI κ v x→bI κ v (Go.Ab.dnV T x)
  | [],_,h=>h
  | t::T,_,h=>bI.dnV (T:=T) (h.dn t)
theorem dF.dnVs {κ:Ctx} {vs:List Value}:∀ {T:List Nat} {xs:List V},dF κ vs xs→dF κ vs (Go.Ab.dnVs T xs)
  | [],_,h=>h
  | t::T,_,h=>dF.dnVs (T:=T) (h.dn t)
mutual
theorem V.fits_nn {κ κ':Ctx} {np nt:List Nat} (hm:∀ n,n ∉ np→κ'.mt n=κ.mt n) (ho:∀ t,t ∉ nt→κ'.o t=κ.o t):∀ v:V,(∀ n ∈ np,v.noPtr n=true)→(∀ t ∈ nt,v.noTok t=true)→v.fits κ κ'
  | .ptr n _,h,_=>hm n fun hn=>by have:=h n hn; simp [V.noPtr] at this
  | .msl n _ _ _ _,h,_=>hm n fun hn=>by have:=h n hn; simp [V.noPtr] at this
  | .osl t _ _ _,_,h=>ho t fun hn=>by have:=h t hn; simp [V.noTok] at this
  | .fn _ l,h,k=>V.fitss_nn hm ho l (fun n hn=>by have:=h n hn; simpa [V.noPtr] using this) (fun n hn=>by have:=k n hn; simpa [V.noTok] using this)
  | .tup l,h,k=>V.fitss_nn hm ho l (fun n hn=>by have:=h n hn; simpa [V.noPtr] using this) (fun n hn=>by have:=k n hn; simpa [V.noTok] using this)
  | .agv l,h,k=>V.fitss_nn hm ho l (fun n hn=>by have:=h n hn; simpa [V.noPtr] using this) (fun n hn=>by have:=k n hn; simpa [V.noTok] using this)
  | .bp n _,h,_=>hm n fun hn=>by have:=h n hn; simp [V.noPtr] at this
  | .ite _ v,h,k=>V.fits_nn hm ho v (fun n hn=>by have:=h n hn; simpa [V.noPtr] using this) (fun n hn=>by have:=k n hn; simpa [V.noTok] using this)
  | .top,_,_ | .und,_,_ | .d _,_,_ | .agg _,_,_ | .nil _,_,_ | .rp _,_,_ | .np,_,_=>trivial
theorem V.fitss_nn {κ κ':Ctx} {np nt:List Nat} (hm:∀ n,n ∉ np→κ'.mt n=κ.mt n) (ho:∀ t,t ∉ nt→κ'.o t=κ.o t):∀ l:List V,(∀ n ∈ np,V.noPtrs n l=true)→(∀ t ∈ nt,V.noToks t l=true)→V.fitss κ κ' l
  | [],_,_=>trivial
  | v :: l, h, k => ⟨V.fits_nn hm ho v (fun n hn => by have := h n hn; simp [V.noPtrs] at this; exact this.1) (fun n hn => by have := k n hn; simp [V.noToks] at this; exact this.1),
      V.fitss_nn hm ho l (fun n hn=>by have:=h n hn; simp [V.noPtrs] at this; exact this.2) (fun n hn=>by have:=k n hn; simp [V.noToks] at this; exact this.2)⟩
end
def bxG (bx:List (Nat×List V)) (L0 T:List (Nat×Nat)) (Z:List (Nat×TypeId×Nat)):List (Nat×Nat)→List (List (Option Nat))→List (Nat×List V)
  | [],_=>[]
  | (a,b)::l,nb=>(a,mks Z (nb.headD []) (V.rns (bwd L0) (tb T) ((bget bx b).getD [])))::bxG bx L0 T Z l nb.tail
theorem bF4 (bx:List (Nat×List V)) (L0 T:List (Nat×Nat)) (Z:List (Nat×TypeId×Nat)):∀ (L:List (Nat×Nat)) (nb:List (List (Option Nat))),(bxG bx L0 T Z L nb).map (·.1)=L.map (·.1)
  | [],_=>rfl
  | (a,b)::l,nb=>by simp [bxG,bF4 bx L0 T Z l]
theorem aHe {bx : List (Nat × List V)} {L0 T : List (Nat × Nat)} {Z : List (Nat × TypeId × Nat)} : ∀ {L : List (Nat × Nat)} {nb : List (List (Option Nat))} {n : Nat} {c : List V}, bget (bxG bx L0 T Z L nb) n = some c →
    n ∈ L.map (·.1)∧∃ na,c=mks Z na (V.rns (bwd L0) (tb T) ((bget bx (fwd L n)).getD []))
  | [],nb,n,c,h=>by simp [bxG,bget] at h
  | (a,b)::l,nb,n,c,h=>by
    simp only [bxG,bget] at h
    simp only [fwd]
    split at h
    · rename_i e; subst e
      simp only [Option.some.injEq] at h; subst h
      exact ⟨by simp,_,by rw [if_pos rfl]⟩
    · rename_i e
      obtain ⟨h1,na,h2⟩:=aHe h
      exact ⟨by simp only [List.map_cons,List.mem_cons]; exact .inr h1,na,by rw [if_neg e]; exact h2⟩
def outs (b:List (Nat×List V)) (L0 T':List (Nat×Nat)) (L:List (Nat×Nat)):List (Nat×List V) :=
  L.map fun p=>(p.2,V.rns (fwd L0) (tf T') ((bget b p.1).getD []))
def rP (b:List (Nat×List V)) (l:List Nat) (ns:List Nat):Bool:=l.all fun n=>match bget b n with
  | some c=>V.ptrsIns ns c
  | none=>false
theorem vQ {b:List (Nat×List V)} {l ns:List Nat} (h:rP b l ns=true) {n:Nat} (hn:n ∈ l):∃ c,bget b n=some c∧V.ptrsIns ns c=true:=by
  have:=List.all_eq_true.1 h n hn
  split at this
  · rename_i c hc; exact ⟨c,hc,this⟩
  · simp at this
theorem bMq {l m : List (Nat × List V)} {n : Nat} : bget (l ++ m) n = match bget l n with
    | some c=>some c
    | none=>bget m n:=by
  induction l with
  | nil=>rfl
  | cons x l ih =>
    obtain ⟨a,c⟩:=x
    simp only [List.cons_append,bget]
    split
    · rfl
    · exact ih
theorem aVn {b:List (Nat×List V)} {L0 T':List (Nat×Nat)}:∀ {L:List (Nat×Nat)} {n:Nat},nodupB (L.map (·.2))=true→n ∈ L.map (·.2)→bget (outs b L0 T' L) n=some (V.rns (fwd L0) (tf T') ((bget b (bwd L n)).getD []))
  | [],n,_,h=>by simp at h
  | (a,c)::l,n,hd,h=>by
    obtain ⟨h1,h2⟩:=nodup_cons hd
    simp only [outs,List.map_cons,bget,bwd]
    by_cases e:n=c
    · rw [if_pos e,if_pos e]
    · rw [if_neg e,if_neg e]
      exact aVn h2 (by simp only [List.map_cons,List.mem_cons] at h; exact h.resolve_left e)
theorem aTq {b:List (Nat×List V)} {L0 T':List (Nat×Nat)}:∀ {L:List (Nat×Nat)} {n:Nat},n ∉ L.map (·.2)→bget (outs b L0 T' L) n=none∧named (outs b L0 T' L) n=false
  | [],n,_=>⟨rfl,rfl⟩
  | (a,c)::l,n,h=>by
    simp only [List.map_cons,List.mem_cons,not_or] at h
    obtain ⟨k1,k2⟩:=aTq (b:=b) (L0:=L0) (T':=T') (L:=l) h.2
    simp only [outs,List.map_cons,bget,if_neg h.1]
    refine ⟨k1,?_⟩
    simp only [named,List.any_cons,Bool.or_eq_false_iff,beq_eq_false_iff_ne,ne_eq]
    exact ⟨fun e=>h.1 e.symm,k2⟩
theorem bBm : ∀ {wr l : List (Nat × List V)} {k : Nat}, nodupB (wr.map (·.1)) = true → bget (kJ l wr) k = match bget wr k with
    | some c=>(bget l k).map fun _=>c
    | none=>bget l k
  | [],l,k,_=>rfl
  | (n,c)::wr,l,k,hd=>by
    obtain ⟨h1,h2⟩:=nodup_cons hd
    rw [uH,bBm h2,bA8]
    simp only [bget]
    by_cases e:k=n
    · subst e
      have:bget wr k=none:=by
        cases hc:bget wr k with
        | none=>rfl
        | some c=>exact absurd (List.mem_map.2 ⟨_,aTg hc,rfl⟩) h1
      rw [this]; simp
    · simp [e]
theorem bOn {L:List (Nat×Nat)} {a b:Nat} (hd:nodupB (L.map (·.1))=true) (h:(a,b) ∈ L):fwd L a=b:=by
  induction L with
  | nil=>simp at h
  | cons p l ih =>
    obtain ⟨c,d⟩:=p
    obtain ⟨h1,h2⟩:=nodup_cons hd
    simp only [fwd]
    rcases List.mem_cons.1 h with h | h
    · simp at h; rw [if_pos h.1,h.2]
    · have hn:a≠c:=fun e=>h1 (List.mem_map.2 ⟨_,h,e⟩)
      rw [if_neg hn,ih h2 h]
structure fE where
  L:List (Nat×Nat)
  T:List (Nat×Nat)
  Z:List (Nat×TypeId×Nat)
  na:List (Option Nat)
  nb:List (List (Option Nat))
  T':List (Nat×Nat)
  nw:List (Nat×Nat)
  TT:List Nat
def fE.args (c:fE) (vs:List V):List V:=mks c.Z c.na (V.rns (bwd c.L) (tb c.T) vs)
def fE.L' (c:fE):List (Nat×Nat):=c.nw++c.L
def fE.fb (c:fE) (bx:List (Nat×List V)):List (Nat×List V):=bxG bx c.L c.T c.Z c.L c.nb
def fE.res (c:fE) (x:V):V:=x.rn (fwd c.L') (tf c.T')
def fE.wr (c:fE) (b:List (Nat×List V)):List (Nat×List V):=outs b c.L' c.T' c.L
def fE.news (c:fE) (b:List (Nat×List V)):List (Nat×List V):=outs b c.L' c.T' c.nw
def fE.ok (c:fE):Bool :=
  nodupB (c.L'.map (·.1))&&(nodupB (c.L'.map (·.2))&&(nodupB (c.T.map (·.1))&&(nodupB (c.T.map (·.2))&&(nodupB (c.T'.map (·.1))&&(nodupB (c.T'.map (·.2)) &&
  ((c.Z.all fun z=>(tf c.T z.1).isNone)&&((c.T.all fun p=>c.TT.contains p.2)&&(c.T'.all fun p=>c.TT.contains p.2))))))))
theorem aK8:∀ {a b:List Nat},nodupB (a++b)=true→nodupB b=true
  | [],_,h=>h
  | _::a,_,h=>aK8 (a:=a) (nodup_cons (by simpa using h)).2
theorem bCz {T:List (Nat×Nat)}:∀ {Z:List (Nat×TypeId×Nat)} {t:Nat} {x:TypeId×Nat},(Z.all fun z=>(tf T z.1).isNone)=true→qF Z t=some x→tf T t=none
  | [],t,x,_,h=>by simp [qF] at h
  | (a,y)::l,t,x,hd,h=>by
    simp only [List.all_cons,Bool.and_eq_true,Option.isNone_iff_eq_none] at hd
    simp only [qF] at h
    split at h
    · rename_i e; subst e; exact hd.1
    · exact bCz hd.2 h
theorem bE8 {A B:List (Nat×Nat)} {b:Nat}:b ∈ A.map (·.2)→tb (A++B) b=tb A b:=by
  induction A with
  | nil=>intro h; simp at h
  | cons p A ih =>
    obtain ⟨p1,p2⟩:=p
    intro h
    simp only [List.cons_append,tb]
    split
    · rfl
    · rename_i hne
      exact ih (by simp only [List.map_cons,List.mem_cons] at h; exact h.resolve_left hne)
theorem bO8 {A B:List Nat}:nodupB (A++B)=true→nodupB A=true:=by
  induction A with
  | nil=>intro _; rfl
  | cons y A ih =>
    intro hd
    obtain ⟨q1,q2⟩:=nodup_cons (show nodupB (y::(A++B))=true from hd)
    simp only [nodupB,ih q2,Bool.and_true,Bool.not_eq_true',List.contains_eq_mem,decide_eq_false_iff_not]
    exact fun hm=>q1 (List.mem_append_left _ hm)
theorem Good.after {E Ec : Entry} {κ κ' κ2 : Ctx} {w w' : World} {bx b' bx2 : List (Nat × List V)} (g : Good E κ w bx) (hg' : Good Ec κ' w' b') (In : Nat → Prop) (src tk : Nat → Option Nat)
    (hS2:κ2.S=κ'.S) (hle:κ.S.le κ'.S) (hos:w'.os=w.os) (htape:w'.tape=w.tape) (hout:w'.output=w.output) (hsize:w.heap.size≤w'.heap.size)
    (hInE:∀ b,In b→E.may b∨E.w.heap.size≤b) (hOut:∀ b,¬ In b→w'.heap[b]?=w.heap[b]?∧κ'.S b=κ.S b)
    (hcin:∀ n c,bget b' n=some c→In (κ'.m n)) (hoin:∀ t o b,κ'.o t=some o→o.v.ownBlock=some b→In b)
    (hbx:∀ n cells,bget bx2 n=some cells→(∃ k c,src n=some k∧bget b' k=some c∧κ2.mt n=κ'.mt k∧∀ cs,dF κ' cs c→dF κ2 cs cells)∨(∃ c0,bget bx n=some c0∧κ2.mt n=κ.mt n∧¬ In (κ.m n)∧∀ cs,dF κ cs c0→dF κ2 cs cells))
    (hsrc:∀ n n' k,src n=some k→src n'=some k→n=n')
    (hocase:∀ t o,κ2.o t=some o→(∃ c,tk t=some c∧κ'.o c=some o)∨(κ.o t=some o∧∀ b,o.v.ownBlock=some b→¬ In b))
    (htk:∀ t t' c,tk t=some c→tk t'=some c→t=t') (hnames:∀ n ∈ E.fb,κ2.mt n=κ.mt n):Good E κ2 w' bx2:=by
  have hni:∀ b,b<E.w.heap.size→¬ E.may b→¬ In b:=fun b hb hn hi=>by
    rcases hInE b hi with h | h
    · exact hn h
    · omega
  refine ⟨⟨hos.trans g.frm.os,htape.trans g.frm.tape,hout.trans g.frm.output,Nat.le_trans g.frm.size hsize,fun b hb hn=>?_,fun b hb hn=>?_,fun n hn=>(hnames n hn).trans (g.frm.names n hn),?_⟩,fun b hb=>?_,fun n cells hc=>?_,fun n n' hn hn' he=>?_,fun t o ho=>?_,fun t t' o o' gg ho ho' hob hob'=>?_⟩
  · rw [hS2]; exact (hOut b (hni b hb hn)).2.trans (g.frm.mem b hb hn)
  · exact (hOut b (hni b hb hn)).1.trans (g.frm.block b hb hn)
  · rw [hS2]; exact Mem.le_trans g.frm.le hle
  · rw [hS2] at hb ⊢; exact hg'.mem b hb
  · rcases hbx n cells hc with ⟨k,c,_,hck,hm,hr⟩ | ⟨c0,hc0,hm,hi,hr⟩
    · obtain ⟨cs,T0,hh,hrep,hS,hE⟩:=hg'.box k c hck
      rw [Ctx.mm hm,hm,hS2]
      exact ⟨cs,T0,hh,hr _ hrep,hS,hInE _ (hcin k c hck),hE.2⟩
    · obtain ⟨cs,T0,hh,hrep,hS,hE⟩:=g.box n c0 hc0
      rw [Ctx.mm hm,hm,hS2]
      exact ⟨cs,T0,(hOut _ hi).1.trans hh,hr _ hrep,(hOut _ hi).2.trans hS,hE⟩
  · obtain ⟨c,hc⟩:=Option.isSome_iff_exists.1 hn
    obtain ⟨c',hc'⟩:=Option.isSome_iff_exists.1 hn'
    rcases hbx n c hc with ⟨k,c1,h1,hck,hm,_⟩ | ⟨c0,hc0,hm,hi,_⟩ <;> rcases hbx n' c' hc' with ⟨k',c1',h1',hck',hm',_⟩ | ⟨c0',hc0',hm',hi',_⟩
    · have:=hg'.inj k k' (by simp [hck]) (by simp [hck']) (by rw [← Ctx.mm hm,← Ctx.mm hm',he])
      subst this
      exact hsrc n n' k h1 h1'
    · rw [← Ctx.mm hm',← he,Ctx.mm hm] at hi'; exact absurd (hcin k c1 hck) hi'
    · rw [← Ctx.mm hm,he,Ctx.mm hm'] at hi; exact absurd (hcin k' c1' hck') hi
    · exact g.inj n n' (by simp [hc0]) (by simp [hc0']) (by rw [← Ctx.mm hm,← Ctx.mm hm',he])
  · have hb2 : ∀ n, (bget bx2 n).isSome = true → (∃ k c, bget b' k = some c ∧ κ2.mt n = κ'.mt k) ∨ ((bget bx n).isSome = true ∧ κ2.mt n = κ.mt n ∧ ¬ In (κ.m n)) := fun n hn => by
      obtain ⟨c,hc⟩:=Option.isSome_iff_exists.1 hn
      rcases hbx n c hc with ⟨k,c1,h1,hck,hm,_⟩ | ⟨c0,hc0,hm,hi,_⟩
      · exact .inl ⟨k,c1,hck,hm⟩
      · exact .inr ⟨by simp [hc0],hm,hi⟩
    rcases hocase t o ho with ⟨c,hcT,hco⟩ | ⟨hto,hni2⟩
    · obtain ⟨k,xs,hO,hx⟩:=hg'.own c o hco
      refine ⟨k,xs,hO,fun g2 hg2=>?_⟩
      obtain ⟨h1,h2,h3⟩:=hx g2 hg2
      rw [hS2]
      refine ⟨hInE _ (hoin c o g2 hco hg2),h2,fun n hn=>?_⟩
      rcases hb2 n hn with ⟨k,c,hck,hm⟩ | ⟨q1,q2,q3⟩
      · rw [Ctx.mm hm]; exact h3 k (by simp [hck])
      · rw [Ctx.mm q2]; intro e; exact q3 (e ▸ hoin c o g2 hco hg2)
    · obtain ⟨k,xs,hO,hx⟩:=g.own t o hto
      refine ⟨k,xs,?_,fun g2 hg2=>?_⟩
      · obtain ⟨hl,hO2⟩:=hO
        refine ⟨hl,?_⟩
        rcases hO2 with hn | ⟨g2,cap,cur,hv,hb2,hh,r⟩
        · exact .inl hn
        · exact .inr ⟨g2,cap,cur,hv,hb2,(hOut g2 (hni2 g2 (by rw [hv]; rfl))).1.trans hh,r⟩
      · obtain ⟨h1,h2,h3⟩:=hx g2 hg2
        have hi:=hni2 g2 hg2
        rw [hS2]
        refine ⟨h1,(hOut g2 hi).2.trans h2,fun n hn=>?_⟩
        rcases hb2 n hn with ⟨k,c,hck,hm⟩ | ⟨q1,q2,q3⟩
        · rw [Ctx.mm hm]; intro e; exact hi (e ▸ hcin k c hck)
        · rw [Ctx.mm q2]; exact h3 n q1
  · rcases hocase t o ho with ⟨c,hcT,hco⟩ | ⟨hto,hn⟩ <;> rcases hocase t' o' ho' with ⟨c',hcT',hco'⟩ | ⟨hto',hn'⟩
    · have:=hg'.ownInj c c' o o' gg hco hco' hob hob'
      subst this
      exact htk t t' c hcT hcT'
    · exact absurd (hoin c o gg hco hob) (hn' gg hob')
    · exact absurd (hoin c' o' gg hco' hob') (hn gg hob)
    · exact g.ownInj t t' o o' gg hto hto' hob hob'
def fE.ctx (c : fE) (κ : Ctx) : Ctx := ⟨κ.S, fun n => κ.mt (fwd c.L n), fun t => match qF c.Z t with
    | some x=>some ⟨x.1,x.2,.slice none 0 0⟩
    | none=>match tf c.T t with
      | some u=>κ.o u
      | none=>none⟩
def fE.may (c:fE) (κ:Ctx) (b:Nat):Prop:=(∃ n ∈ c.L.map (·.2),b=κ.m n)∨∃ t ∈ c.T.map (·.2),∃ o,κ.o t=some o∧o.v.ownBlock=some b
theorem fE.start (c : fE) {E : Entry} {κ : Ctx} {w : World} {bx : List (Nat × List V)} (g : Good E κ w bx) (hin : rP bx (c.L.map (·.2)) (c.L.map (·.2)) = true) (hl1 : nodupB (c.L.map (·.1)) = true) (hl2 : nodupB (c.L.map (·.2)) = true)
    (ht1:nodupB (c.T.map (·.1))=true) (ht2:nodupB (c.T.map (·.2))=true) (hzz:(c.Z.all fun z=>(tf c.T z.1).isNone)=true) :
    Good ⟨c.ctx κ,w,(c.fb bx).map (·.1),c.may κ⟩ (c.ctx κ) w (c.fb bx)∧∀ {cargs:List Value} {vs:List V},dF κ cargs vs→V.ptrsIns (c.L.map (·.2)) vs=true→dF (c.ctx κ) cargs (c.args vs):=by
  obtain ⟨L,T,Z,na,nb,T',nw,TT⟩:=c
  have hinL:∀ {n},n ∈ L.map (·.2)→∃ c,bget bx n=some c∧V.ptrsIns (L.map (·.2)) c=true:=fun hn=>vQ hin hn
  have hfwd:∀ {n},n ∈ L.map (·.1)→fwd L n ∈ L.map (·.2):=fun hn=>List.mem_map.2 ⟨_,aIs hn,rfl⟩
  obtain ⟨κc,hκ⟩:∃ k:Ctx,k=fE.ctx ⟨L,T,Z,na,nb,T',nw,TT⟩ κ:=⟨_,rfl⟩
  have hS:κ.S.le κc.S:=by rw [hκ]; exact Mem.le_refl _
  have hSe:κc.S=κ.S:=by rw [hκ]; rfl
  have hme:∀ n,κc.mt n=κ.mt (fwd L n):=fun n=>by rw [hκ]; rfl
  have hmf:∀ n,κc.m n=κ.m (fwd L n):=fun n=>Ctx.mm (hme n)
  have hcz:∀ t x,qF Z t=some x→κc.o t=some ⟨x.1,x.2,.slice none 0 0⟩:=fun t x hz=>by rw [hκ]; show (match qF Z t with | some x=>_ | none=>_)=_; rw [hz]
  have hct:∀ {t u},tf T t=some u→κc.o t=κ.o u:=fun {t u} ht=>by
    rw [hκ]
    show (match qF Z t with | some x=>_ | none=>_)=_
    cases hz:qF Z t with
    | some x=>rw [bCz hzz hz] at ht; simp at ht
    | none=>simp only [ht]
  have hcase:∀ {t o},κc.o t=some o→(o.v.ownBlock=none∧∃ x:TypeId×Nat,o=⟨x.1,x.2,.slice none 0 0⟩)∨∃ u,tf T t=some u∧κ.o u=some o:=fun {t o} ho=>by
    rw [hκ] at ho
    change (match qF Z t with | some x=>_ | none=>_)=_ at ho
    cases hz:qF Z t with
    | some x=>rw [hz] at ho; simp at ho; subst ho; exact .inl ⟨rfl,x,rfl⟩
    | none =>
      rw [hz] at ho
      cases hu:tf T t with
      | none=>simp [hu] at ho
      | some u=>simp only [hu] at ho; exact .inr ⟨u,rfl,ho⟩
  have hhand:∀ t t',tb T t=some t'→(κ.o t).isSome=true→κc.o t'=κ.o t:=fun t t' hb _=>hct (R8 ht1 (tN hb))
  have hmm:∀ n ∈ L.map (·.2),κc.mt (bwd L n)=κ.mt n:=fun n hn=>by rw [hme,(aZq hl1 hl2 hn).1]
  rw [← hκ]
  refine ⟨?_,fun hrep hpt=>(hrep.rn (κ':=κc) hS hmm hhand hpt).mks hcz⟩
  refine ⟨⟨rfl,rfl,rfl,Nat.le_refl _,fun _ _ _=>rfl,fun _ _ _=>rfl,fun _ _=>rfl,Mem.le_refl _⟩,fun b hb=>?_,fun n c hc=>?_,fun n n' hn hn' he=>?_,fun t o ho=>?_,fun t t' o o' gg ho ho' hg hg'=>?_⟩
  · rw [hSe] at hb ⊢; exact g.mem b hb
  · obtain ⟨h1,na',h2⟩:=aHe hc
    obtain ⟨c0,h3,h4⟩:=hinL (hfwd h1)
    rw [h3] at h2; subst h2
    obtain ⟨cs,T0,hh,hr,hS0,_,hT0⟩:=g.box _ _ h3
    rw [hmf,hme,hSe]
    exact ⟨cs,T0,hh,(hr.rn (κ':=κc) hS hmm hhand h4).mks hcz,hS0,.inl (.inl ⟨_,hfwd h1,rfl⟩),hT0⟩
  · obtain ⟨c,hc⟩:=Option.isSome_iff_exists.1 hn
    obtain ⟨c',hc'⟩:=Option.isSome_iff_exists.1 hn'
    have m1:=(aHe hc).1
    have m2:=(aHe hc').1
    obtain ⟨d1,k1,_⟩:=hinL (hfwd m1)
    obtain ⟨d2,k2,_⟩:=hinL (hfwd m2)
    rw [hmf,hmf] at he
    exact bC9 hl2 m1 m2 (g.inj _ _ (by simp [k1]) (by simp [k2]) he)
  · rcases hcase ho with ⟨_,x,rfl⟩ | ⟨u,hu,hou⟩
    · exact ⟨0,[],World.ownsRow_nil w 0 x.1 x.2,by simp [Value.ownBlock]⟩
    · obtain ⟨k,xs,hO,hx⟩:=g.own u o hou
      refine ⟨k,xs,hO,fun g2 hg2=>?_⟩
      obtain ⟨_,h2,h3⟩:=hx g2 hg2
      rw [hSe]
      refine ⟨.inl (.inr ⟨u,List.mem_map.2 ⟨_,aEg hu,rfl⟩,o,hou,hg2⟩),h2,fun n hn=>?_⟩
      obtain ⟨c,hc⟩:=Option.isSome_iff_exists.1 hn
      obtain ⟨d1,k1,_⟩:=hinL (hfwd (aHe hc).1)
      rw [hmf]
      exact h3 _ (by simp [k1])
  · rcases hcase ho with ⟨h0,_⟩ | ⟨u,hu,hou⟩
    · rw [h0] at hg; simp at hg
    rcases hcase ho' with ⟨h0,_⟩ | ⟨u',hu',hou'⟩
    · rw [h0] at hg'; simp at hg'
    have e:=g.ownInj u u' o o' gg hou hou' hg hg'
    subst e
    have e1:=aFn ht2 (aEg hu)
    rw [aFn ht2 (aEg hu')] at e1
    simpa using e1.symm
def fE.ctx2 (c : fE) (κ κ' : Ctx) : Ctx := ⟨κ'.S, fun n => match tb c.nw n with
    | some k=>κ'.mt k
    | none=>κ.mt n,fun t=>match tb c.T' t with
    | some k=>κ'.o k
    | none=>if c.TT.contains t then none else κ.o t⟩
theorem bBf {A:List (Nat×Nat)} {x:Nat} (h:x ∈ A.map (·.2)):tb A x=some (bwd A x):=by
  induction A with
  | nil=>simp at h
  | cons q A ih =>
    obtain ⟨q1,q2⟩:=q
    simp only [tb,bwd]
    split
    · rfl
    · rename_i e
      exact ih (by simp only [List.map_cons,List.mem_cons] at h; exact h.resolve_left e)
theorem bBv {A B:List (Nat×Nat)} {b:Nat} (h:b ∉ A.map (·.2)):tb (A++B) b=tb B b:=by
  induction A with
  | nil=>rfl
  | cons p A ih =>
    obtain ⟨p1,p2⟩:=p
    simp only [List.map_cons,List.mem_cons,not_or] at h
    simp only [List.cons_append,tb,if_neg h.1]
    exact ih h.2
theorem fE.bx2_get (c : fE) {bx b' : List (Nat × List V)} (hn2 : nodupB (c.L'.map (·.2)) = true) (hinL : ∀ n ∈ c.L.map (·.2), (bget bx n).isSome = true) {n : Nat} {cells : List V}
    (hc:bget (c.news b'++kJ (dnB c.TT bx) (c.wr b')) n=some cells) :
    (∃ k,tb c.L' n=some k∧cells=V.rns (fwd c.L') (tf c.T') ((bget b' k).getD []))∨(n ∉ c.L.map (·.2)∧n ∉ c.nw.map (·.2)∧∃ c0,bget bx n=some c0∧cells=dnVs c.TT c0):=by
  obtain ⟨L,T,Z,na,nb,T',nw,TT⟩:=c
  simp only [fE.wr,fE.news,fE.L'] at *
  rw [List.map_append] at hn2
  rw [bMq] at hc
  by_cases hn:n ∈ nw.map (·.2)
  · rw [aVn (bO8 hn2) hn] at hc
    simp only [Option.some.injEq] at hc
    exact .inl ⟨bwd nw n,by rw [bE8 hn]; exact bBf hn,hc.symm⟩
  · rw [(aTq hn).1] at hc
    simp only at hc
    have hl2:=aK8 hn2
    have hnd:nodupB ((outs b' (nw++L) T' L).map (·.1))=true:=by
      have:(outs b' (nw++L) T' L).map (·.1)=L.map (·.2):=by simp [outs,Function.comp]
      rw [this]; exact hl2
    rw [bBm hnd] at hc
    by_cases hL:n ∈ L.map (·.2)
    · rw [aVn hl2 hL] at hc
      obtain ⟨c0,hc0⟩:=Option.isSome_iff_exists.1 (hinL n hL)
      rw [aLk,hc0] at hc
      simp only [Option.map_some,Option.some.injEq] at hc
      exact .inl ⟨bwd L n,by rw [bBv hn]; exact bBf hL,hc.symm⟩
    · rw [(aTq hL).1,aLk] at hc
      simp only at hc
      obtain ⟨c0,hc0,rfl⟩:=Option.map_eq_some_iff.1 hc
      exact .inr ⟨hL,hn,c0,hc0,rfl⟩
theorem bTo {P : Program} {s : St} {d : Option Nat} {f : FuncId} {vs args : List V} {fb : List (Nat × List V)} {R : V → List (Nat × List V) → Prop} {K : V → St → Prop} (c : fE) (h : bH P f args fb R)
    (hargs:c.args vs=args) (hpt:V.ptrsIns (c.L.map (·.2)) vs=true) (hfb:c.fb s.bx=fb) (hin:rP s.bx (c.L.map (·.2)) (c.L.map (·.2))=true) (hc:c.ok=true)
    (hcl:∀ t ∈ c.TT,(s.dnT c.TT).clean t=true) (hfr:∀ p ∈ c.nw,d=some p.2∧(s.dnT c.TT).fresh p.2=true)
    (hK:∀ x b,R x b→x.ptrsIn (c.L'.map (·.1))=true∧rP b (c.L'.map (·.1)) (c.L'.map (·.1))=true∧K (c.res x) ⟨dnE c.TT s.env,c.news b++kJ (dnB c.TT s.bx) (c.wr b)⟩):pG P s d f vs K:=by
  intro E N κ w a cargs hfbN hdN hok hrep
  have g:=hok.good
  simp only [fE.ok,Bool.and_eq_true] at hc
  obtain ⟨hn1,hn2,ht1,ht2,ht1',ht2',hzz,hTT,hTT'⟩:=hc
  have hl1:nodupB (c.L.map (·.1))=true:=by have:=hn1; unfold fE.L' at this; rw [List.map_append] at this; exact aK8 this
  have hl2:nodupB (c.L.map (·.2))=true:=by have:=hn2; unfold fE.L' at this; rw [List.map_append] at this; exact aK8 this
  obtain ⟨hgc,hrc⟩:=c.start g hin hl1 hl2 ht1 ht2 hzz
  have hTm:∀ {a b},(a,b) ∈ c.T→b ∈ c.TT:=fun hm=>by simpa using List.all_eq_true.1 hTT _ hm
  have hTm':∀ {a b},(a,b) ∈ c.T'→b ∈ c.TT:=fun hm=>by simpa using List.all_eq_true.1 hTT' _ hm
  have hinL:∀ {n},n ∈ c.L.map (·.2)→∃ c1,bget s.bx n=some c1∧V.ptrsIns (c.L.map (·.2)) c1=true:=fun hn=>vQ hin hn
  have hnames:(c.fb s.bx).map (·.1)=c.L.map (·.1):=bF4 ..
  have hrepc:dF (c.ctx κ) cargs args:=by rw [← hargs]; exact hrc hrep hpt
  subst hfb
  refine (h (c.ctx κ) w cargs (c.may κ) hgc hrepc).mono ?_
  rintro e w' ⟨v,x,κ',b',rfl,hg',hx,hR⟩
  obtain ⟨hxp,hbi,hKx⟩:=hK x b' hR
  have hle:κ.S.le κ'.S:=hg'.frm.le
  have hcb:∀ {n},n ∈ c.L'.map (·.1)→∃ c1,bget b' n=some c1∧V.ptrsIns (c.L'.map (·.1)) c1=true:=fun hn=>vQ hbi hn
  obtain ⟨κ2,hκ2⟩:∃ k:Ctx,k=c.ctx2 κ κ':=⟨_,rfl⟩
  have hS2:κ2.S=κ'.S:=by rw [hκ2]; rfl
  have hle2:κ.S.le κ2.S:=by rw [hS2]; exact hle
  have hleS:κ'.S.le κ2.S:=by rw [hS2]; exact Mem.le_refl _
  have hm0:∀ n,n ∉ c.nw.map (·.2)→κ2.mt n=κ.mt n:=fun n hn=>by
    rw [hκ2]
    show (match tb c.nw n with | some k=>κ'.mt k | none=>κ.mt n)=κ.mt n
    cases hb:tb c.nw n with
    | none=>rfl
    | some k=>exact absurd (List.mem_map.2 ⟨_,tN hb,rfl⟩) hn
  have hmk:∀ n k,tb c.L' n=some k→κ2.mt n=κ'.mt k:=fun n k hk=>by
    by_cases hn:n ∈ c.nw.map (·.2)
    · unfold fE.L' at hk
      rw [bE8 hn] at hk
      rw [hκ2]
      show (match tb c.nw n with | some k=>κ'.mt k | none=>κ.mt n)=_
      rw [hk]
    · rw [hm0 n hn]
      unfold fE.L' at hk
      rw [bBv hn] at hk
      have hmem:=tN hk
      have:=hg'.frm.names k (by show k ∈ (c.fb s.bx).map (·.1); rw [hnames]; exact List.mem_map.2 ⟨_,hmem,rfl⟩)
      rw [this]
      show κ.mt n=κ.mt (fwd c.L k)
      rw [bOn hl1 hmem]
  have hm1:∀ n ∈ c.L'.map (·.1),κ2.mt (fwd c.L' n)=κ'.mt n:=fun n hn=>hmk _ _ (aFn hn2 (aIs hn))
  have ho1:∀ t t',tf c.T' t=some t'→(κ'.o t).isSome=true→κ2.o t'=κ'.o t:=fun t t' hf _=>by
    rw [hκ2]
    show (match tb c.T' t' with | some k=>κ'.o k | none=>_)=_
    rw [aFn ht2' (aEg hf)]
  have ho0:∀ t,t ∉ c.TT→κ2.o t=κ.o t:=fun t ht=>by
    rw [hκ2]
    show (match tb c.T' t with | some k=>κ'.o k | none=>if c.TT.contains t then none else κ.o t)=κ.o t
    cases hb:tb c.T' t with
    | some k=>exact absurd (hTm' (tN hb)) ht
    | none=>simp [ht]
  have hfr':∀ n ∈ c.nw.map (·.2),(s.dnT c.TT).fresh n=true:=fun n hn=>by
    obtain ⟨p,hp,rfl⟩:=List.mem_map.1 hn
    exact (hfr p hp).2
  have htOut:∀ t o b,κ.o t=some o→t ∉ c.TT→o.v.ownBlock=some b→¬ (c.may κ b∨w.heap.size≤b):=by
    rintro t o b ho ht hob ((⟨n,hn,rfl⟩ | ⟨t',ht',o',ho',hob'⟩) | hb)
    · obtain ⟨c1,hc1,_⟩:=hinL hn
      obtain ⟨_,_,_,hx⟩:=g.own t o ho
      exact (hx _ hob).2.2 n (by simp [hc1]) rfl
    · obtain ⟨p,hp,rfl⟩:=List.mem_map.1 ht'
      exact ht ((g.ownInj t p.2 o o' b ho ho' hob hob') ▸ hTm hp)
    · have:=g.ownLt ho hob; omega
  refine ⟨v,c.res x,κ2,_,rfl,⟨hok.size,hok.defers,fun n=>?_,?_⟩,hx.rn (κ':=κ2) hleS hm1 ho1 hxp,hKx⟩
  · show bI κ2 (a.tmps.getD n undef) (lk (dnE c.TT s.env) n)
    rw [aGi]
    refine ((hok.env n).dnV).move hle2 (V.fits_nn (np:=c.nw.map (·.2)) (nt:=c.TT) hm0 ho0 _ (fun k hk=>?_) (fun t ht=>?_))
    · have:=(St.fresh_env (hfr' k hk) n).1
      simp only [St.dnT,aGi] at this; exact this
    · have:=St.clean_env (hcl t ht) n
      simp only [St.dnT,aGi] at this; exact this
  · refine g.after hg' (fun b=>c.may κ b∨w.heap.size≤b) (tb c.L') (tb c.T') hS2 hle hg'.frm.os hg'.frm.tape hg'.frm.output hg'.frm.size ?_ ?_ ?_ ?_ ?_ ?_ ?_ ?_ ?_
    · rintro b ((⟨n,hn,rfl⟩ | ⟨t,ht,o,ho,hob⟩) | hb)
      · obtain ⟨c1,hc1,_⟩:=hinL hn
        obtain ⟨_,_,_,_,_,hE,_⟩:=g.box n c1 hc1
        exact hE
      · obtain ⟨_,_,_,hx⟩:=g.own t o ho
        exact (hx b hob).1
      · exact .inr (Nat.le_trans g.frm.size hb)
    · intro b hb
      have h1:¬ c.may κ b:=fun hm=>hb (.inl hm)
      have h2:b<w.heap.size:=by
        rcases Nat.lt_or_ge b w.heap.size with h | h
        · exact h
        · exact absurd (.inr h) hb
      exact ⟨hg'.frm.block b h2 h1,hg'.frm.mem b h2 h1⟩
    · intro n c1 hc1
      obtain ⟨_,_,_,_,_,hE,_⟩:=hg'.box _ _ hc1
      exact hE
    · intro t o b ho hob
      obtain ⟨_,_,_,hx⟩:=hg'.own _ _ ho
      exact (hx _ hob).1
    · intro n cells hcc
      rcases c.bx2_get hn2 (fun n hn=>by obtain ⟨c1,hc1,_⟩:=hinL hn; simp [hc1]) hcc with ⟨k,hk,rfl⟩ | ⟨h1,h2,c0,hc0,rfl⟩
      · obtain ⟨c1,hc1,hcp⟩:=hcb (List.mem_map.2 ⟨_,tN hk,rfl⟩)
        refine .inl ⟨k,c1,hk,hc1,hmk n k hk,fun cs hr=>?_⟩
        rw [hc1]
        exact hr.rn (κ':=κ2) hleS hm1 ho1 hcp
      · have hq:bget (s.dnT c.TT).bx n=some (dnVs c.TT c0):=by simp only [St.dnT,aLk,hc0,Option.map_some]
        refine .inr ⟨c0,hc0,hm0 n h2,?_,fun cs hr=>(hr.dnVs).move hle2 (V.fitss_nn (np:=c.nw.map (·.2)) (nt:=c.TT) hm0 ho0 _ (fun k hk=>(St.fresh_bx (hfr' k hk) hq).1) (fun t ht=>St.clean_bx (hcl t ht) hq))⟩
        rintro ((⟨n',hn',he⟩ | ⟨t,ht,o,ho,hob⟩) | hb)
        · obtain ⟨c',hc',_⟩:=hinL hn'
          exact h1 ((g.inj n n' (by simp [hc0]) (by simp [hc']) he) ▸ hn')
        · obtain ⟨_,_,_,hx⟩:=g.own t o ho
          exact (hx _ hob).2.2 n (by simp [hc0]) rfl
        · obtain ⟨cs,T0,hh,_⟩:=g.box n c0 hc0
          have:=(Array.getElem?_eq_some_iff.1 hh).1
          omega
    · intro n n' k h1 h2
      have e1:=R8 hn1 (tN h1)
      rw [R8 hn1 (tN h2)] at e1
      simpa using e1.symm
    · intro t o ho
      have ho2:=ho
      rw [hκ2] at ho2
      change (match tb c.T' t with | some k=>κ'.o k | none=>if c.TT.contains t then none else κ.o t)=some o at ho2
      cases hb:tb c.T' t with
      | some k=>rw [hb] at ho2; exact .inl ⟨k,rfl,ho2⟩
      | none =>
        rw [hb] at ho2
        by_cases hct:t ∈ c.TT
        · simp [hct] at ho2
        · simp only [List.contains_eq_mem,hct,decide_false,Bool.false_eq_true,if_false] at ho2
          exact .inr ⟨ho2,fun b hob=>htOut t o b ho2 hct hob⟩
    · intro t t' k h1 h2
      have e1:=R8 ht1' (tN h1)
      rw [R8 ht1' (tN h2)] at e1
      simpa using e1.symm
    · intro n hn
      refine hm0 n fun hm=>?_
      obtain ⟨p,hp,rfl⟩:=List.mem_map.1 hm
      have h1:=hdN _ (hfr p hp).1
      have h2:=hfbN _ hn
      omega
end Go.Ab
