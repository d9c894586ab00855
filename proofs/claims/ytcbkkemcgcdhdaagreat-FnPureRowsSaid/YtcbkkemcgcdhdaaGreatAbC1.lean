/- Calls that are handed boxes and rights and yield such: one theorem for all. -/
import Derived.Test.YtcbkkemcgcdhdaaGreatAbS5
namespace Go.Ab
open Go Go.RowKit
open _root_.List renaming mem_map→QA,mem_cons→QB,map_cons→QE,all_eq_true→QG,contains_eq_mem→QH,prefix_refl→QJ,map_append→QK,cons_append→QM,all_cons→QO,length_take→QP,drop_zero→QQ,take_prefix→QR,mem_append→QS,mem_cons_of_mem→QT,mem_flatMap→QU
open _root_.Option renaming isSome_iff_exists→QC,some.injEq→QL,map_some→QN
open _root_.Bool renaming and_eq_true→QD,not_eq_true'→QI
open _root_.Prod renaming fst→QF
open _root_.Nat renaming mul_le_mul_right→QV
open _root_.Array renaming length_toList→QW
mutual
def V.rn (ρ:Nat→Nat) (τ:Nat→Option Nat):V→V
  | .ptr n o=>.ptr (ρ n) o
  | .msl n sz o l c=>.msl (ρ n) sz o l c
  | .osl t e sz l=>match τ t with
    | some t'=>.osl t' e sz l
    | none=>.d (.sl sz l)
  | .fn f l=>.fn f (V.rns ρ τ l)
  | .tup l=>.tup (V.rns ρ τ l)
  | .agv l=>.agv (V.rns ρ τ l)
  | .bp n U=>.bp (ρ n) U
  | .tre n=>.tre (ρ n)
  | .trp n sz i o=>.trp (ρ n) sz i o
  | .ite c v=>.ite c (v.rn ρ τ)
  | v=>v
def V.rns (ρ:Nat→Nat) (τ:Nat→Option Nat):List V→List V
  | []=>[]
  | v::l=>v.rn ρ τ::V.rns ρ τ l
end
mutual
theorem aR.rn {κ κ':Ctx} {ρ:Nat→Nat} {τ:Nat→Option Nat} {l:List Nat} (hS:κ.S.le κ'.S) (hm:∀ n∈l,κ'.mt (ρ n)=κ.mt n) (ht:∀ t t',τ t=some t'→(κ.o t).isSome=true→κ'.o t'=κ.o t) :
    ∀ {v:Value} {x:V},aR κ v x→x.ptrsIn l=true→aR κ' v (x.rn ρ τ)
  | _,_,.top v,_=>.top v
  | _,_,.und,_=>.und
  | _,_,.d h,_=>.d (h.mono hS)
  | _,_,.agg h,_=>.agg (h.mono hS)
  | _,_,.nil sz,_=>.nil sz
  | _,_,.osl (t:=t) (e:=e) (sz:=sz) (l:=m) h1 h2,_=>by
    simp only [V.rn]
    cases hτ:τ t with
    | none=>exact .d (h2.mono hS)
    | some t'=>exact .osl ((ht t t' hτ (by rw [h1]; rfl)).trans h1) (h2.mono hS)
  | _,_,.ptr n off,hp=>by
    have e:κ'.m (ρ n)=κ.m n:=congrArg QF (hm n (by simpa [V.ptrsIn] using hp))
    have h:=aR.ptr (κ:=κ') (ρ n) off
    rw [e] at h
    exact h
  | _,_,.msl (n:=n) (sz:=sz) (o:=o) h1 h2,hp=>by
    have e:κ'.m (ρ n)=κ.m n:=congrArg QF (hm n (by simpa [V.ptrsIn] using hp))
    have h:=aR.msl (κ:=κ') (n:=ρ n) (sz:=sz) (o:=o) h1 h2
    rw [e] at h
    exact h
  | _,_,.rp h1 h2,_=>.rp (h1.trans (aC0 (hS _) _)) (h2.mono hS)
  | _,_,.np,_=>.np
  | _,_,.nf,_=>.nf
  | _,_,.fn k h,hp=>.fn k (aZ.rn hS hm ht h (by simpa [V.ptrsIn] using hp))
  | _,_,.fnm h,hp=>.fnm (aZ.rn hS hm ht h (by simpa [V.ptrsIn] using hp))
  | _,_,.tup h,hp=>.tup (aZ.rn hS hm ht h (by simpa [V.ptrsIn] using hp))
  | _,_,.agv h,hp=>.agv (aZ.rn hS hm ht h (by simpa [V.ptrsIn] using hp))
  | _,_,.bp0 (n:=n) h,hp=>.bp0 ((congrArg (fun p=>p.2.1) (hm n (by simpa [V.ptrsIn] using hp)):κ'.ty (ρ n)=κ.ty n).trans h)
  | _,_,.tre (n:=n) h,hp=>.tre ((congrArg (fun p=>p.2.2) (hm n (by simpa [V.ptrsIn] using hp)):κ'.hv (ρ n)=κ.hv n).trans h)
  | _,_,.trp n sz i o,hp=>by
    have h:=aR.trp (κ:=κ') (ρ n) sz i o
    rw [show κ'.m (ρ n)=κ.m n from congrArg QF (hm n (by simpa [V.ptrsIn] using hp))] at h
    exact h
  | _,_,.bp1 (n:=n) (U:=U) h,hp=>by
    have e:=hm n (by simpa [V.ptrsIn] using hp)
    have k:=aR.bp1 (κ:=κ') (n:=ρ n) (U:=U) ((congrArg (fun p=>p.2.1) e:κ'.ty (ρ n)=κ.ty n).trans h)
    rw [show κ'.m (ρ n)=κ.m n from congrArg QF e] at k
    exact k
  | _,_,.yes h,hp=>.yes (aR.rn hS hm ht h (by simpa [V.ptrsIn] using hp))
  | _,_,.no,_=>.no
theorem aZ.rn {κ κ':Ctx} {ρ:Nat→Nat} {τ:Nat→Option Nat} {l:List Nat} (hS:κ.S.le κ'.S) (hm:∀ n∈l,κ'.mt (ρ n)=κ.mt n) (ht:∀ t t',τ t=some t'→(κ.o t).isSome=true→κ'.o t'=κ.o t) :
    ∀ {v:List Value} {x:List V},aZ κ v x→V.ptrsIns l x=true→aZ κ' v (V.rns ρ τ x)
  | _,_,.nil,_=>.nil
  | _,_,.cons h t,hp=>by
    simp only [V.ptrsIns,QD] at hp
    exact .cons (aR.rn hS hm ht h hp.1) (aZ.rn hS hm ht t hp.2)
end
theorem V.rn_mark {ρ:Nat→Nat} {τ:Nat→Option Nat} {x:V} (h:x.mark=true):x.rn ρ τ=x:=by cases x <;> first | rfl | simp [V.mark] at h
theorem Mv.rn {κ κ':Ctx} {ρ:Nat→Nat} {τ:Nat→Option Nat} {l:List Nat} (hS:κ.S.le κ'.S) (hm:∀ n∈l,κ'.mt (ρ n)=κ.mt n) (ht:∀ t t',τ t=some t'→(κ.o t).isSome=true→κ'.o t'=κ.o t):∀ {c:List V},V.ptrsIns l c=true→Mv κ κ' c (V.rns ρ τ c)
  | [],_=>.nil
  | _::_,h=>by
    simp only [V.ptrsIns,QD] at h
    exact .cons ⟨fun q=>⟨V.rn_mark q,fun _=>hS⟩,fun _ hr=>hr.rn hS hm ht h.1⟩ (Mv.rn hS hm ht h.2)
mutual
def V.sfree:V→Bool
  | .d x=>x.flat
  | .agg l=>l.all D.flat
  | .osl _ _ _ l=>l.all fun r=>r.all D.flat
  | .rp _=>false
  | .trs _ _=>false
  | .fn _ l=>V.sfrees l
  | .tup l=>V.sfrees l
  | .agv l=>V.sfrees l
  | .ite _ v=>v.sfree
  | _=>true
def V.sfrees:List V→Bool
  | []=>true
  | v::l=>v.sfree&&V.sfrees l
end
theorem V.shal_sfree {x:V} (h:x.sfree=true):x.shal=false:=by cases x <;> first | rfl | simp [V.sfree] at h
theorem bR.flat {S S':Mem} {v:Value} {x:D} (h:bR S v x) (hx:x.flat=true):bR S' v x:=by
  cases h with
  | b x=>exact .b x
  | i k n h1 h2=>exact .i k n h1 h2
  | s x h=>exact .s x h
  | _=>simp [D.flat] at hx
theorem bP.flat {S S':Mem}:∀ {vs:List Value} {l:List D},bP S vs l→l.all D.flat=true→bP S' vs l
  | _,_,.nil,_=>.nil
  | _,_,.cons h t,hx=>by
    simp only [QO,QD] at hx
    exact .cons (h.flat hx.1) (t.flat hx.2)
theorem bR.flatOwn {S S':Mem} {v:Value} {sz:Nat} {l:List (List D)} (h:bR S v (.sl sz l)) (hf:(l.all fun r=>r.all D.flat)=true) (hS:∀ b,v.ownBlock=some b→S' b=S b):bR S' v (.sl sz l):=by
  cases h with
  | nil=>exact .nil sz
  | emp a cap _ h=>exact .emp a cap sz h
  | sl b off len cap _ _ vs h1 h2 h3 h4 h5 h6 h7 =>
    have e:=hS b rfl
    refine .sl b off len cap sz l vs h1 h2 h3 h4 (by rw [e]; exact h5) h6 (h7.flat ?_)
    rw [QG] at hf ⊢
    intro x hx
    obtain ⟨r,hr,hx⟩:=List.mem_flatten.1 hx
    exact QG.1 (hf r hr) x hx
mutual
theorem aR.rnF {κ κ':Ctx} {ρ:Nat→Nat} {τ:Nat→Option Nat} {l:List Nat} (hm:∀ n∈l,κ'.mt (ρ n)=κ.mt n) (ht:∀ t t',τ t=some t'→(κ.o t).isSome=true→κ'.o t'=κ.o t) (hO:∀ t o,κ.o t=some o→∀ b,o.v.ownBlock=some b→κ'.S b=κ.S b):∀ {v:Value} {x:V},aR κ v x→x.ptrsIn l=true→x.sfree=true→aR κ' v (x.rn ρ τ)
  | _,_,.top v,_,_=>.top v
  | _,_,.und,_,_=>.und
  | _,_,.d h,_,hs=>.d (h.flat hs)
  | _,_,.agg h,_,hs=>.agg (h.flat hs)
  | _,_,.nil sz,_,_=>.nil sz
  | _,_,.osl (t:=t) h1 h2,_,hs=>by
    simp only [V.rn]
    have h3:=h2.flatOwn hs (fun b hb=>hO t _ h1 b hb)
    cases hτ:τ t with
    | none=>exact .d h3
    | some t'=>exact .osl ((ht t t' hτ (by rw [h1]; rfl)).trans h1) h3
  | _,_,.ptr n off,hp,_=>by
    have e:κ'.m (ρ n)=κ.m n:=congrArg QF (hm n (by simpa [V.ptrsIn] using hp))
    have h:=aR.ptr (κ:=κ') (ρ n) off
    rw [e] at h
    exact h
  | _,_,.msl (n:=n) (sz:=sz) (o:=o) h1 h2,hp,_=>by
    have e:κ'.m (ρ n)=κ.m n:=congrArg QF (hm n (by simpa [V.ptrsIn] using hp))
    have h:=aR.msl (κ:=κ') (n:=ρ n) (sz:=sz) (o:=o) h1 h2
    rw [e] at h
    exact h
  | _,_,.rp ..,_,hs=>by simp [V.sfree] at hs
  | _,_,.np,_,_=>.np
  | _,_,.nf,_,_=>.nf
  | _,_,.fn k h,hp,hs=>.fn k (aZ.rnF hm ht hO h (by simpa [V.ptrsIn] using hp) (by simpa [V.sfree] using hs))
  | _,_,.fnm h,hp,hs=>.fnm (aZ.rnF hm ht hO h (by simpa [V.ptrsIn] using hp) (by simpa [V.sfree] using hs))
  | _,_,.tup h,hp,hs=>.tup (aZ.rnF hm ht hO h (by simpa [V.ptrsIn] using hp) (by simpa [V.sfree] using hs))
  | _,_,.agv h,hp,hs=>.agv (aZ.rnF hm ht hO h (by simpa [V.ptrsIn] using hp) (by simpa [V.sfree] using hs))
  | _,_,.bp0 (n:=n) h,hp,_=>.bp0 ((congrArg (fun p=>p.2.1) (hm n (by simpa [V.ptrsIn] using hp)):κ'.ty (ρ n)=κ.ty n).trans h)
  | _,_,.tre (n:=n) h,hp,_=>.tre ((congrArg (fun p=>p.2.2) (hm n (by simpa [V.ptrsIn] using hp)):κ'.hv (ρ n)=κ.hv n).trans h)
  | _,_,.trp n sz i o,hp,_=>by
    have h:=aR.trp (κ:=κ') (ρ n) sz i o
    rw [show κ'.m (ρ n)=κ.m n from congrArg QF (hm n (by simpa [V.ptrsIn] using hp))] at h
    exact h
  | _,_,.bp1 (n:=n) (U:=U) h,hp,_=>by
    have e:=hm n (by simpa [V.ptrsIn] using hp)
    have k:=aR.bp1 (κ:=κ') (n:=ρ n) (U:=U) ((congrArg (fun p=>p.2.1) e:κ'.ty (ρ n)=κ.ty n).trans h)
    rw [show κ'.m (ρ n)=κ.m n from congrArg QF e] at k
    exact k
  | _,_,.yes h,hp,hs=>.yes (aR.rnF hm ht hO h (by simpa [V.ptrsIn] using hp) (by simpa [V.sfree] using hs))
  | _,_,.no,_,_=>.no
theorem aZ.rnF {κ κ':Ctx} {ρ:Nat→Nat} {τ:Nat→Option Nat} {l:List Nat} (hm:∀ n∈l,κ'.mt (ρ n)=κ.mt n) (ht:∀ t t',τ t=some t'→(κ.o t).isSome=true→κ'.o t'=κ.o t) (hO:∀ t o,κ.o t=some o→∀ b,o.v.ownBlock=some b→κ'.S b=κ.S b):∀ {v:List Value} {x:List V},aZ κ v x→V.ptrsIns l x=true→V.sfrees x=true→aZ κ' v (V.rns ρ τ x)
  | _,_,.nil,_,_=>.nil
  | _,_,.cons h t,hp,hs=>by
    simp only [V.ptrsIns,QD] at hp
    simp only [V.sfrees,QD] at hs
    exact .cons (aR.rnF hm ht hO h hp.1 hs.1) (aZ.rnF hm ht hO t hp.2 hs.2)
end
theorem Mv.rnF {κ κ':Ctx} {ρ:Nat→Nat} {τ:Nat→Option Nat} {l:List Nat} (hm:∀ n∈l,κ'.mt (ρ n)=κ.mt n) (ht:∀ t t',τ t=some t'→(κ.o t).isSome=true→κ'.o t'=κ.o t) (hO:∀ t o,κ.o t=some o→∀ b,o.v.ownBlock=some b→κ'.S b=κ.S b):∀ {c:List V},V.ptrsIns l c=true→V.sfrees c=true→Mv κ κ' c (V.rns ρ τ c)
  | [],_,_=>.nil
  | _::_,h,hs=>by
    simp only [V.ptrsIns,QD] at h
    simp only [V.sfrees,QD] at hs
    exact .cons ⟨fun q=>⟨V.rn_mark q,fun q=>by rw [V.shal_sfree hs.1] at q; cases q⟩,fun _ hr=>hr.rnF hm ht hO h.1 hs.1⟩ (Mv.rnF hm ht hO h.2 hs.2)
def lV (bx : List (Nat × List V)) (br : List Nat) (n : Nat) : Option D := if br.contains n then match bget bx n with
    | some [.trc sz l]=>some (.sl sz l)
    | some [.trs sz l]=>some (.sl sz l)
    | _=>none
  else none
theorem bNa {bx:List (Nat×List V)} {br:List Nat} {n:Nat} {x:D} (hx:lV bx br n=some x):n∈br∧∃ sz l cc,bget bx n=some cc∧(cc=[.trc sz l]∨cc=[.trs sz l])∧x=.sl sz l:=by
  unfold lV at hx
  split at hx
  · rename_i hc
    refine ⟨by simpa using hc,?_⟩
    split at hx <;> simp at hx
    · rename_i sz l hb; exact ⟨sz,l,_,hb,.inl rfl,hx.symm⟩
    · rename_i sz l hb; exact ⟨sz,l,_,hb,.inr rfl,hx.symm⟩
  · simp at hx
mutual
def V.bor (β:Nat→Option D):V→V
  | .tre n=>match β n with
    | some x=>.d x
    | none=>.tre n
  | .agv l=>K3 (V.bors β l)
  | .tup l=>.tup (V.bors β l)
  | .fn f l=>.fn f (V.bors β l)
  | v=>v
def V.bors (β:Nat→Option D):List V→List V
  | []=>[]
  | v::l=>v.bor β::V.bors β l
end
mutual
theorem aR.bor {κ κ':Ctx} {β:Nat→Option D} (hS:κ.S.le κ'.S) (hm:∀ k,κ'.mt k=κ.mt k) (ho:∀ k,κ'.o k=κ.o k) (hβ:∀ n x,β n=some x→bR κ'.S (κ.hv n) x):∀ (x:V) {v:Value},aR κ v x→aR κ' v (x.bor β)
  | .tre n,v,h=>by
    cases h with | tre h =>
    simp only [V.bor]
    split
    · rename_i x hx; rw [← h]; exact .d (hβ n x hx)
    · exact .tre ((congrArg (fun p=>p.2.2) (hm n):κ'.hv n=κ.hv n).trans h)
  | .agv l,v,h=>by cases h with | agv h=>exact aN8 (aZ.bor hS hm ho hβ l h)
  | .tup l,v,h=>by cases h with | tup h=>exact .tup (aZ.bor hS hm ho hβ l h)
  | .fn f l,v,h=>by
    cases h with
    | fn k h=>exact .fn k (aZ.bor hS hm ho hβ l h)
    | fnm h=>exact .fnm (aZ.bor hS hm ho hβ l h)
  | .top,_,h | .und,_,h | .d _,_,h | .agg _,_,h | .nil _,_,h | .osl ..,_,h | .ptr ..,_,h | .msl ..,_,h | .rp _,_,h | .np,_,h | .nf,_,h | .bp ..,_,h | .ite ..,_,h | .trp ..,_,h | .trc ..,_,h | .trs ..,_,h | .tro ..,_,h | .trd,_,h =>
    h.move hS (V.fits_eq hm ho _)
theorem aZ.bor {κ κ':Ctx} {β:Nat→Option D} (hS:κ.S.le κ'.S) (hm:∀ k,κ'.mt k=κ.mt k) (ho:∀ k,κ'.o k=κ.o k) (hβ:∀ n x,β n=some x→bR κ'.S (κ.hv n) x):∀ (x:List V) {v:List Value},aZ κ v x→aZ κ' v (V.bors β x)
  | [],_,h=>by cases h; exact .nil
  | x::l,_,h=>by cases h with | cons a r=>exact .cons (aR.bor hS hm ho hβ x a) (aZ.bor hS hm ho hβ l r)
end
def mW (w:World):Mem:=fun b=>match w.heap[b]? with
  | some (.cells cs _ _)=>cs.toList
  | _=>[]
mutual
theorem fP.toD {w:World} {S:Mem}:∀ {v:Value} {x:D} {B:List Nat},fP (fun b=>w.heap[b]?) v x B→(∀ b∈B,S b=mW w b)→bR S v x
  | _,_,_,.b x,_=>.b x
  | _,_,_,.i k n h1 h2,_=>.i k n h1 h2
  | _,_,_,.s x h1,_=>.s x h1
  | _,_,_,.nil sz,_=>.nil sz
  | _,_,_,.sl b len cap sz l B cs T h1 h2 h3 h4 h5 h6 h7,hf=>by
    refine .sl b 0 len cap sz l _ h3 h4 h5 ?_ ?_ h6 (dZ.toD h7 fun k hk=>hf k (by simp [hk]))
    · simp only [QP,QW,h2]
      have:=QV sz h4
      omega
    · obtain ⟨fr,h1'',_⟩:=h1
      have h1':w.heap[b]?=some (.cells cs T fr):=h1''
      rw [hf b (by simp),QQ]
      simp only [mW,h1']
      exact QR _ _
theorem dZ.toD {w:World} {S:Mem}:∀ {v:List Value} {x:List D} {B:List Nat},dZ (fun b=>w.heap[b]?) v x B→(∀ b∈B,S b=mW w b)→bP S v x
  | _,_,_,.nil,_=>.nil
  | _,_,_,.cons h1 h2,hf=>.cons (fP.toD h1 fun k hk=>hf k (by simp [hk])) (dZ.toD h2 fun k hk=>hf k (by simp [hk]))
end
mutual
theorem fP.blk {h:Nat→Option Obj}:∀ {v:Value} {x:D} {B:List Nat},fP h v x B→∀ b∈B,∃ cs T,Row h b cs T
  | _,_,_,.b x,b,hb=>by simp at hb
  | _,_,_,.i k n h1 h2,b,hb=>by simp at hb
  | _,_,_,.s x h1,b,hb=>by simp at hb
  | _,_,_,.nil sz,b,hb=>by simp at hb
  | _,_,_,.sl b len cap sz l B cs T h1 h2 h3 h4 h5 h6 h7,k,hk=>by
    rcases QB.1 hk with rfl | hk
    · exact ⟨cs,T,h1⟩
    · exact dZ.blk h7 k hk
theorem dZ.blk {h:Nat→Option Obj}:∀ {v:List Value} {x:List D} {B:List Nat},dZ h v x B→∀ b∈B,∃ cs T,Row h b cs T
  | _,_,_,.nil,b,hb=>by simp at hb
  | _,_,_,.cons h1 h2,b,hb=>by
    rcases QS.1 hb with hb | hb
    · exact fP.blk h1 b hb
    · exact dZ.blk h2 b hb
end
def tf:List (Nat×Nat)→Nat→Option Nat
  | [],_=>none
  | (a,b)::l,n=>if n=a then some b else tf l n
def tb:List (Nat×Nat)→Nat→Option Nat
  | [],_=>none
  | (a,b)::l,n=>if n=b then some a else tb l n
theorem aLu:∀ {T:List (Nat×Nat)} {c t:Nat},tf T c=some t→(c,t)∈T
  | [],c,t,h=>by simp [tf] at h
  | (a,b)::l,c,t,h=>by
    simp only [tf] at h
    split at h
    · rename_i e; subst e; simp at h; subst h; simp
    · exact QT _ (aLu h)
theorem wR:∀ {T:List (Nat×Nat)} {c t:Nat},tb T t=some c→(c,t)∈T
  | [],c,t,h=>by simp [tb] at h
  | (a,b)::l,c,t,h=>by
    simp only [tb] at h
    split at h
    · rename_i e; subst e; simp at h; subst h; simp
    · exact QT _ (wR h)
theorem nodup_cons {x:Nat} {l:List Nat} (h:nodupB (x::l)=true):x∉l∧nodupB l=true:=by
  simpa only [nodupB,QD,QI,QH,decide_eq_false_iff_not] using h
theorem aGt:∀ {T:List (Nat×Nat)} {c t:Nat},nodupB (T.map (·.1))=true→(c,t)∈T→tf T c=some t
  | [],c,t,_,h=>by simp at h
  | (a,b)::l,c,t,hd,h=>by
    obtain ⟨h1,h2⟩:=nodup_cons hd
    simp only [tf]
    rcases QB.1 h with h | h
    · simp at h; rw [if_pos h.1,h.2]
    · have hn:c≠a:=fun e=>h1 (QA.2 ⟨_,h,e⟩)
      rw [if_neg hn,aGt h2 h]
theorem aLa:∀ {T:List (Nat×Nat)} {c t:Nat},nodupB (T.map (·.2))=true→(c,t)∈T→tb T t=some c
  | [],c,t,_,h=>by simp at h
  | (a,b)::l,c,t,hd,h=>by
    obtain ⟨h1,h2⟩:=nodup_cons hd
    simp only [tb]
    rcases QB.1 h with h | h
    · simp at h; rw [if_pos h.2,h.1]
    · have hn:t≠b:=fun e=>h1 (QA.2 ⟨_,h,e⟩)
      rw [if_neg hn,aLa h2 h]
def rU:List (Nat×TypeId×Nat)→Nat→Option (TypeId×Nat)
  | [],_=>none
  | (a,x)::l,n=>if n=a then some x else rU l n
def V.mkn (Z:List (Nat×TypeId×Nat)) (o:Option Nat):V→V
  | .nil sz=>match o with
    | some t=>match rU Z t with
      | some x=>.osl t x.1 x.2 []
      | none=>if t=0 then .nil sz else .d (.sl sz [])
    | none=>.d (.sl sz [])
  | .agv l=>match o with
    | some _=>.agv l
    | none=>K3 l
  | v=>v
def mks (Z:List (Nat×TypeId×Nat)):List (Option Nat)→List V→List V
  | _,[]=>[]
  | [],v::l=>v.mkn Z none::mks Z [] l
  | o::os,v::l=>v.mkn Z o::mks Z os l
theorem aR.mkn {κ:Ctx} {Z:List (Nat×TypeId×Nat)} (hz:∀ t x,rU Z t=some x→κ.o t=some ⟨x.1,x.2,.slice none 0 0⟩) {v:Value} {x:V} (o:Option Nat) (h:aR κ v x):aR κ v (x.mkn Z o):=by
  cases h with
  | nil sz =>
    simp only [V.mkn]
    split
    · split
      · rename_i h; exact .osl (hz _ _ h) (.nil _)
      · split
        · exact .nil _
        · exact .d (.nil _)
    · exact .d (.nil _)
  | top=>exact .top _
  | und=>exact .und
  | d h=>exact .d h
  | agg h=>exact .agg h
  | osl h1 h2=>exact .osl h1 h2
  | ptr=>exact .ptr _ _
  | msl h1 h2=>exact .msl h1 h2
  | rp h1 h2=>exact .rp h1 h2
  | np=>exact .np
  | nf=>exact .nf
  | fn k h=>exact .fn k h
  | fnm h=>exact .fnm h
  | tup h=>exact .tup h
  | agv h=>cases o with
    | none=>exact aN8 h
    | some _=>exact .agv h
  | bp0 h=>exact .bp0 h
  | bp1 h=>exact .bp1 h
  | yes h=>exact .yes h
  | no=>exact .no
  | tre h=>exact .tre h
  | trp=>exact .trp _ _ _ _
theorem V.mkn_mark {Z:List (Nat×TypeId×Nat)} {o:Option Nat} {x:V} (h:x.mark=true):x.mkn Z o=x:=by cases x <;> first | rfl | simp [V.mark] at h
theorem Mv.mks {κ:Ctx} {Z:List (Nat×TypeId×Nat)} (hz:∀ t x,rU Z t=some x→κ.o t=some ⟨x.1,x.2,.slice none 0 0⟩):∀ {xs:List V} {os:List (Option Nat)},Mv κ κ xs (mks Z os xs)
  | [],os=>by cases os <;> exact .nil
  | x::xs,os=>by
    cases os with
    | nil=>exact .cons ⟨fun q=>⟨V.mkn_mark q,fun _=>Mem.le_refl _⟩,fun _ a=>a.mkn hz none⟩ (Mv.mks hz)
    | cons o os=>exact .cons ⟨fun q=>⟨V.mkn_mark q,fun _=>Mem.le_refl _⟩,fun _ a=>a.mkn hz o⟩ (Mv.mks hz)
theorem aZ.mks {κ:Ctx} {Z:List (Nat×TypeId×Nat)} (hz:∀ t x,rU Z t=some x→κ.o t=some ⟨x.1,x.2,.slice none 0 0⟩):∀ {xs:List V} {os:List (Option Nat)} {vs:List Value},aZ κ vs xs→aZ κ vs (mks Z os xs)
  | [],os,vs,h=>by cases os <;> exact h
  | x::xs,os,vs,h=>by
    cases h with
    | cons a r =>
      cases os with
      | nil=>exact .cons (a.mkn hz none) (aZ.mks hz r)
      | cons o os=>exact .cons (a.mkn hz o) (aZ.mks hz r)
theorem aR.dnV {κ:Ctx} {v:Value}:∀ {T:List Nat} {x:V},aR κ v x→aR κ v (Go.Ab.dnV T x)
  | [],_,h=>h
  | t::T,_,h=>aR.dnV (T:=T) (h.dn t)
theorem Mv.dnVs {κ:Ctx}:∀ {T:List Nat} {xs:List V},Mv κ κ xs (Go.Ab.dnVs T xs)
  | [],_=>Mv.refl _ _
  | t::T,xs=>(Mv.dn t xs).trans (Mv.dnVs (T:=T))
theorem aZ.dnVs {κ:Ctx} {vs:List Value}:∀ {T:List Nat} {xs:List V},aZ κ vs xs→aZ κ vs (Go.Ab.dnVs T xs)
  | [],_,h=>h
  | t::T,_,h=>aZ.dnVs (T:=T) (h.dn t)
mutual
theorem V.fits_nn {κ κ':Ctx} {np nt:List Nat} (hm:∀ n,n∉np→κ'.mt n=κ.mt n) (ho:∀ t,t∉nt→κ'.o t=κ.o t):∀ v:V,(∀ n∈np,v.noPtr n=true)→(∀ t∈nt,v.noTok t=true)→v.fits κ κ'
  | .ptr n _,h,_=>hm n fun hn=>by have:=h n hn; simp [V.noPtr] at this
  | .msl n _ _ _ _,h,_=>hm n fun hn=>by have:=h n hn; simp [V.noPtr] at this
  | .osl t _ _ _,_,h=>ho t fun hn=>by have:=h t hn; simp [V.noTok] at this
  | .fn _ l,h,k=>V.fitss_nn hm ho l (fun n hn=>by have:=h n hn; simpa [V.noPtr] using this) (fun n hn=>by have:=k n hn; simpa [V.noTok] using this)
  | .tup l,h,k=>V.fitss_nn hm ho l (fun n hn=>by have:=h n hn; simpa [V.noPtr] using this) (fun n hn=>by have:=k n hn; simpa [V.noTok] using this)
  | .agv l,h,k=>V.fitss_nn hm ho l (fun n hn=>by have:=h n hn; simpa [V.noPtr] using this) (fun n hn=>by have:=k n hn; simpa [V.noTok] using this)
  | .bp n _,h,_=>hm n fun hn=>by have:=h n hn; simp [V.noPtr] at this
  | .tre n,h,_=>hm n fun hn=>by have:=h n hn; simp [V.noPtr] at this
  | .trp n _ _ _,h,_=>hm n fun hn=>by have:=h n hn; simp [V.noPtr] at this
  | .ite _ v,h,k=>V.fits_nn hm ho v (fun n hn=>by have:=h n hn; simpa [V.noPtr] using this) (fun n hn=>by have:=k n hn; simpa [V.noTok] using this)
  | .top,_,_ | .und,_,_ | .d _,_,_ | .agg _,_,_ | .nil _,_,_ | .rp _,_,_ | .np,_,_ | .nf,_,_ | .trc ..,_,_ | .trs ..,_,_ | .tro ..,_,_ | .trd,_,_=>trivial
theorem V.fitss_nn {κ κ':Ctx} {np nt:List Nat} (hm:∀ n,n∉np→κ'.mt n=κ.mt n) (ho:∀ t,t∉nt→κ'.o t=κ.o t):∀ l:List V,(∀ n∈np,V.noPtrs n l=true)→(∀ t∈nt,V.noToks t l=true)→V.fitss κ κ' l
  | [],_,_=>trivial
  | v :: l, h, k => ⟨V.fits_nn hm ho v (fun n hn => by have := h n hn; simp [V.noPtrs] at this; exact this.1) (fun n hn => by have := k n hn; simp [V.noToks] at this; exact this.1),
      V.fitss_nn hm ho l (fun n hn=>by have:=h n hn; simp [V.noPtrs] at this; exact this.2) (fun n hn=>by have:=k n hn; simp [V.noToks] at this; exact this.2)⟩
end
def bxG (bx:List (Nat×List V)) (L0 T:List (Nat×Nat)) (Z:List (Nat×TypeId×Nat)):List (Nat×Nat)→List (List (Option Nat))→List (Nat×List V)
  | [],_=>[]
  | (a,b)::l,nb=>(a,mks Z (nb.headD []) (V.rns (bwd L0) (tb T) ((bget bx b).getD [])))::bxG bx L0 T Z l nb.tail
theorem bMr (bx:List (Nat×List V)) (L0 T:List (Nat×Nat)) (Z:List (Nat×TypeId×Nat)):∀ (L:List (Nat×Nat)) (nb:List (List (Option Nat))),(bxG bx L0 T Z L nb).map (·.1)=L.map (·.1)
  | [],_=>rfl
  | (a,b)::l,nb=>by simp [bxG,bMr bx L0 T Z l]
theorem aE4 {bx:List (Nat×List V)} {L0 T:List (Nat×Nat)} {Z:List (Nat×TypeId×Nat)}:∀ {L:List (Nat×Nat)} {nb:List (List (Option Nat))} {n:Nat} {c:List V},bget (bxG bx L0 T Z L nb) n=some c →
    n∈L.map (·.1)∧∃ na,c=mks Z na (V.rns (bwd L0) (tb T) ((bget bx (fwd L n)).getD []))
  | [],nb,n,c,h=>by simp [bxG,bget] at h
  | (a,b)::l,nb,n,c,h=>by
    simp only [bxG,bget] at h
    simp only [fwd]
    split at h
    · rename_i e; subst e
      simp only [QL] at h; subst h
      exact ⟨by simp,_,by rw [if_pos rfl]⟩
    · rename_i e
      obtain ⟨h1,na,h2⟩:=aE4 h
      exact ⟨by simp only [QE,QB]; exact .inr h1,na,by rw [if_neg e]; exact h2⟩
def outs (b:List (Nat×List V)) (L0 T':List (Nat×Nat)) (L:List (Nat×Nat)):List (Nat×List V) :=
  L.map fun p=>(p.2,V.rns (fwd L0) (tf T') ((bget b p.1).getD []))
def uA (b:List (Nat×List V)) (l:List Nat) (ns:List Nat):Bool:=l.all fun n=>match bget b n with
  | some c=>V.ptrsIns ns c
  | none=>false
theorem yH {b:List (Nat×List V)} {l ns:List Nat} (h:uA b l ns=true) {n:Nat} (hn:n∈l):∃ c,bget b n=some c∧V.ptrsIns ns c=true:=by
  have:=QG.1 h n hn
  split at this
  · rename_i c hc; exact ⟨c,hc,this⟩
  · simp at this
theorem cEk {l m:List (Nat×List V)} {n:Nat}:bget (l++m) n=match bget l n with
    | some c=>some c
    | none=>bget m n:=by
  induction l with
  | nil=>rfl
  | cons x l ih =>
    obtain ⟨a,c⟩:=x
    simp only [QM,bget]
    split
    · rfl
    · exact ih
theorem aSh {b:List (Nat×List V)} {L0 T':List (Nat×Nat)}:∀ {L:List (Nat×Nat)} {n:Nat},nodupB (L.map (·.2))=true→n∈L.map (·.2)→bget (outs b L0 T' L) n=some (V.rns (fwd L0) (tf T') ((bget b (bwd L n)).getD []))
  | [],n,_,h=>by simp at h
  | (a,c)::l,n,hd,h=>by
    obtain ⟨h1,h2⟩:=nodup_cons hd
    simp only [outs,QE,bget,bwd]
    by_cases e:n=c
    · rw [if_pos e,if_pos e]
    · rw [if_neg e,if_neg e]
      exact aSh h2 (by simp only [QE,QB] at h; exact h.resolve_left e)
theorem bBs {b:List (Nat×List V)} {L0 T':List (Nat×Nat)}:∀ {L:List (Nat×Nat)} {n:Nat},n∉L.map (·.2)→bget (outs b L0 T' L) n=none∧named (outs b L0 T' L) n=false
  | [],n,_=>⟨rfl,rfl⟩
  | (a,c)::l,n,h=>by
    simp only [QE,QB,not_or] at h
    obtain ⟨k1,k2⟩:=bBs (b:=b) (L0:=L0) (T':=T') (L:=l) h.2
    simp only [outs,QE,bget,if_neg h.1]
    refine ⟨k1,?_⟩
    simp only [named,List.any_cons,Bool.or_eq_false_iff,beq_eq_false_iff_ne,ne_eq]
    exact ⟨fun e=>h.1 e.symm,k2⟩
theorem bHx:∀ {wr l:List (Nat×List V)} {k:Nat},nodupB (wr.map (·.1))=true→bget (gG l wr) k=match bget wr k with
    | some c=>(bget l k).map fun _=>c
    | none=>bget l k
  | [],l,k,_=>rfl
  | (n,c)::wr,l,k,hd=>by
    obtain ⟨h1,h2⟩:=nodup_cons hd
    rw [wG,bHx h2,aKf]
    simp only [bget]
    by_cases e:k=n
    · subst e
      have:bget wr k=none:=by
        cases hc:bget wr k with
        | none=>rfl
        | some c=>exact absurd (QA.2 ⟨_,bB1 hc,rfl⟩) h1
      rw [this]; simp
    · simp [e]
theorem aXg:∀ {L:List (Nat×Nat)} {n:Nat},n∉L.map (·.2)→bwd L n=n
  | [],n,_=>rfl
  | (a,b)::l,n,h=>by
    simp only [QE,QB,not_or] at h
    simp only [bwd,if_neg h.1,aXg h.2]
theorem cF7 {L:List (Nat×Nat)} {a b:Nat} (hd:nodupB (L.map (·.1))=true) (h:(a,b)∈L):fwd L a=b:=by
  induction L with
  | nil=>simp at h
  | cons p l ih =>
    obtain ⟨c,d⟩:=p
    obtain ⟨h1,h2⟩:=nodup_cons hd
    simp only [fwd]
    rcases QB.1 h with h | h
    · simp at h; rw [if_pos h.1,h.2]
    · have hn:a≠c:=fun e=>h1 (QA.2 ⟨_,h,e⟩)
      rw [if_neg hn,ih h2 h]
structure bI where
  L:List (Nat×Nat)
  T:List (Nat×Nat)
  Z:List (Nat×TypeId×Nat)
  na:List (Option Nat)
  nb:List (List (Option Nat))
  T':List (Nat×Nat)
  nw:List (Nat×Nat)
  TT:List Nat
  br:List Nat:=[]
abbrev c1_:bI:=⟨[(241,241)],[],[],[],[],[],[],[],[]⟩
def bI.lent (c:bI) (bx:List (Nat×List V)) (vs:List V):List V:=match c.br with
  | []=>vs
  | br=>V.bors (lV bx br) vs
def bI.args (c:bI) (bx:List (Nat×List V)) (vs:List V):List V:=mks c.Z c.na (V.rns (bwd c.L) (tb c.T) (c.lent bx vs))
def bI.brOk (c:bI) (bx:List (Nat×List V)):Bool:=c.br.all fun n=>match bget bx n with
  | some [.trc _ _]=>!(c.L.map (·.2)).contains n
  | some [.trs _ _]=>!(c.L.map (·.2)).contains n
  | _=>false
def bI.L' (c:bI):List (Nat×Nat):=c.nw++c.L
def bI.fb (c:bI) (bx:List (Nat×List V)):List (Nat×List V):=bxG bx c.L c.T c.Z c.L c.nb
def bI.res (c:bI) (x:V):V:=x.rn (fwd c.L') (tf c.T')
def bI.wr (c:bI) (b:List (Nat×List V)):List (Nat×List V):=outs b c.L' c.T' c.L
def bI.news (c:bI) (b:List (Nat×List V)):List (Nat×List V):=outs b c.L' c.T' c.nw
def bI.ok (c:bI):Bool :=
  nodupB (c.L'.map (·.1))&&(nodupB (c.L'.map (·.2))&&(nodupB (c.T.map (·.1))&&(nodupB (c.T.map (·.2))&&(nodupB (c.T'.map (·.1))&&(nodupB (c.T'.map (·.2)) &&
  ((c.Z.all fun z=>(tf c.T z.1).isNone)&&((c.T.all fun p=>c.TT.contains p.2)&&(c.T'.all fun p=>c.TT.contains p.2))))))))
theorem aRk:∀ {a b:List Nat},nodupB (a++b)=true→nodupB b=true
  | [],_,h=>h
  | _::a,_,h=>aRk (a:=a) (nodup_cons (by simpa using h)).2
theorem bGs {T:List (Nat×Nat)}:∀ {Z:List (Nat×TypeId×Nat)} {t:Nat} {x:TypeId×Nat},(Z.all fun z=>(tf T z.1).isNone)=true→rU Z t=some x→tf T t=none
  | [],t,x,_,h=>by simp [rU] at h
  | (a,y)::l,t,x,hd,h=>by
    simp only [QO,QD,Option.isNone_iff_eq_none] at hd
    simp only [rU] at h
    split at h
    · rename_i e; subst e; exact hd.1
    · exact bGs hd.2 h
theorem bKy {A B:List (Nat×Nat)} {b:Nat}:b∈A.map (·.2)→tb (A++B) b=tb A b:=by
  induction A with
  | nil=>intro h; simp at h
  | cons p A ih =>
    obtain ⟨p1,p2⟩:=p
    intro h
    simp only [QM,tb]
    split
    · rfl
    · rename_i hne
      exact ih (by simp only [QE,QB] at h; exact h.resolve_left hne)
theorem cH8 {A B:List Nat}:nodupB (A++B)=true→nodupB A=true:=by
  induction A with
  | nil=>intro _; rfl
  | cons y A ih =>
    intro hd
    obtain ⟨q1,q2⟩:=nodup_cons (show nodupB (y::(A++B))=true from hd)
    simp only [nodupB,ih q2,Bool.and_true,QI,QH,decide_eq_false_iff_not]
    exact fun hm=>q1 (List.mem_append_left _ hm)
theorem mP.toTr {κ:Ctx} {w:World} {n sz:Nat} {l:List (List D)} {cc:List V} (hb:mP κ (fun b=>w.heap[b]?) n cc) (hc:cc=[.trc sz l]∨cc=[.trs sz l]) :
    ∃ v T,κ.mt n=oZ T v∧(∀ b∈κ.bl n,∃ cs T,Row (fun b=>w.heap[b]?) b cs T)∧∀ S':Mem,κ.S.le S'→(∀ b∈κ.bl n,S' b=mW w b)→bR S' v (.sl sz l):=by
  rcases hc with rfl | rfl
  · obtain ⟨_,v,T,h1,h2⟩:=hb.toClosed
    exact ⟨v,T,h1,fun b hb=>h2.blk b hb,fun S' _ hS=>h2.toD hS⟩
  · obtain ⟨_,v,T,h1,h2⟩:=hb.toShallow
    refine ⟨v,T,h1,?_⟩
    generalize κ.bl n=B at h2
    cases h2 with
    | nil e=>subst e; exact ⟨by simp,fun S' _ _=>.nil _⟩
    | sl b cap cs T hh hsz hlc hcm hrow hX =>
      refine ⟨fun k hk=>by rw [List.mem_singleton] at hk; subst hk; exact ⟨cs,T,hh⟩,fun S' hle hS=>?_⟩
      obtain ⟨fr,h1'',_⟩:=hh
      have h1':w.heap[b]?=some (.cells cs T fr):=h1''
      refine .sl b 0 l.length cap sz l _ rfl hlc hcm ?_ ?_ hrow (hX.mono hle)
      · have:=QV sz hlc
        simp only [QP,QW,hsz]
        omega
      · rw [hS b (by simp),QQ]
        simp only [mW,h1']
        exact QR _ _
def bI.bb (c:bI) (κ:Ctx) (b:Nat):Prop:=b∈c.br.flatMap κ.bl
instance (c:bI) (κ:Ctx) (b:Nat):Decidable (c.bb κ b):=inferInstanceAs (Decidable (b∈c.br.flatMap κ.bl))
theorem bI.bb_ex {c:bI} {κ:Ctx} {b:Nat} (h:c.bb κ b):∃ n∈c.br,b∈κ.bl n:=QU.1 h
def bI.ctx (c : bI) (κ : Ctx) (w : World) : Ctx := ⟨fun b => if c.bb κ b then mW w b else κ.S b, fun n => κ.mt (fwd c.L n), fun t => match rU c.Z t with
    | some x=>some ⟨x.1,x.2,.slice none 0 0⟩
    | none=>match tf c.T t with
      | some u=>κ.o u
      | none=>none,fun n=>κ.bl (fwd c.L n)⟩
def bI.may (c:bI) (κ:Ctx) (b:Nat):Prop:=(∃ n∈c.L.map (·.2),b∈κ.bl n)∨∃ t∈c.T.map (·.2),∃ o,κ.o t=some o∧o.v.ownBlock=some b
theorem bI.brGet (c:bI) {bx:List (Nat×List V)} (hbr:c.brOk bx=true) {n:Nat} (hn:n∈c.br):n∉c.L.map (·.2)∧∃ sz l cc,bget bx n=some cc∧(cc=[.trc sz l]∨cc=[.trs sz l]):=by
  have:=QG.1 hbr n hn
  split at this
  · rename_i sz l h
    simp only [QI,QH,decide_eq_false_iff_not] at this
    exact ⟨this,sz,l,_,h,.inl rfl⟩
  · rename_i sz l h
    simp only [QI,QH,decide_eq_false_iff_not] at this
    exact ⟨this,sz,l,_,h,.inr rfl⟩
  · simp at this
theorem bI.bb_out (c:bI) {E:Entry} {κ:Ctx} {w:World} {bx:List (Nat×List V)} (g:Good E κ w bx) (hbr:c.brOk bx=true) (hin:uA bx (c.L.map (·.2)) (c.L.map (·.2))=true) {b:Nat} (hb:c.bb κ b):¬ (c.may κ b∨w.heap.size≤b):=by
  obtain ⟨n,hn,hbn⟩:=bI.bb_ex hb
  obtain ⟨h1,sz,l,cc,h2,_⟩:=c.brGet hbr hn
  rintro ((⟨m,hm,hbm⟩ | ⟨t,ht,o,ho,hob⟩) | h)
  · obtain ⟨c1,hc1,_⟩:=yH hin hm
    exact h1 ((g.inj n m b (by simp [h2]) (by simp [hc1]) hbn hbm) ▸ hm)
  · exact ((g.own t o ho).2 b hob).2 n (by simp [h2]) hbn
  · have:=((g.blk n (by simp [h2])).2 b hbn).2.1; omega
theorem bI.start (c:bI) {E:Entry} {κ:Ctx} {w:World} {bx:List (Nat×List V)} (g:Good E κ w bx) (hbr:c.brOk bx=true) (hin:uA bx (c.L.map (·.2)) (c.L.map (·.2))=true) (hl1:nodupB (c.L.map (·.1))=true) (hl2:nodupB (c.L.map (·.2))=true)
    (ht1:nodupB (c.T.map (·.1))=true) (ht2:nodupB (c.T.map (·.2))=true) (hzz:(c.Z.all fun z=>(tf c.T z.1).isNone)=true) :
    Good ⟨c.ctx κ w,w,(c.fb bx).map (·.1),c.may κ⟩ (c.ctx κ w) w (c.fb bx)∧κ.S.le (c.ctx κ w).S∧(∀ b,¬ c.bb κ b→(c.ctx κ w).S b=κ.S b) ∧
      ∀ {cargs:List Value} {vs:List V},aZ κ cargs vs→V.ptrsIns (c.L.map (·.2)) (c.lent bx vs)=true→aZ (c.ctx κ w) cargs (c.args bx vs):=by
  have hinL:∀ {n},n∈c.L.map (·.2)→∃ c1,bget bx n=some c1∧V.ptrsIns (c.L.map (·.2)) c1=true:=fun hn=>yH hin hn
  have hfwd:∀ {n},n∈c.L.map (·.1)→fwd c.L n∈c.L.map (·.2):=fun hn=>QA.2 ⟨_,aGa hn,rfl⟩
  have hout:=fun {b} hb=>c.bb_out (b:=b) g hbr hin hb
  obtain ⟨κc,hκ⟩:∃ k:Ctx,k=c.ctx κ w:=⟨_,rfl⟩
  have hSin:∀ {b},c.bb κ b→κc.S b=mW w b:=fun h=>by rw [hκ]; exact if_pos h
  have hSout:∀ b,¬ c.bb κ b→κc.S b=κ.S b:=fun b h=>by rw [hκ]; exact if_neg h
  have hbbS:∀ {b},c.bb κ b→κ.S b=[]∧∃ cs T,Row (fun k=>w.heap[k]?) b cs T:=fun {b} hb=>by
    obtain ⟨n,hn,hbn⟩:=bI.bb_ex hb
    obtain ⟨_,sz,l,cc,h2,hcc⟩:=c.brGet hbr hn
    obtain ⟨v,T,_,h4,_⟩:=(g.box n _ h2).toTr hcc
    exact ⟨((g.blk n (by simp [h2])).2 b hbn).1,h4 b hbn⟩
  have hS:κ.S.le κc.S:=fun b=>by
    by_cases h:c.bb κ b
    · rw [(hbbS h).1]; exact List.nil_prefix
    · rw [hSout b h]; exact QJ _
  have hme:∀ n,κc.mt n=κ.mt (fwd c.L n):=fun n=>by rw [hκ]; rfl
  have hbe:∀ n,κc.bl n=κ.bl (fwd c.L n):=fun n=>by rw [hκ]; rfl
  have hcz:∀ t x,rU c.Z t=some x→κc.o t=some ⟨x.1,x.2,.slice none 0 0⟩:=fun t x hz=>by rw [hκ]; show (match rU c.Z t with | some x=>_ | none=>_)=_; rw [hz]
  have hct:∀ {t u},tf c.T t=some u→κc.o t=κ.o u:=fun {t u} ht=>by
    rw [hκ]
    show (match rU c.Z t with | some x=>_ | none=>_)=_
    cases hz:rU c.Z t with
    | some x=>rw [bGs hzz hz] at ht; simp at ht
    | none=>simp only [ht]
  have hcase:∀ {t o},κc.o t=some o→(o.v.ownBlock=none∧∃ x:TypeId×Nat,o=⟨x.1,x.2,.slice none 0 0⟩)∨∃ u,tf c.T t=some u∧κ.o u=some o:=fun {t o} ho=>by
    rw [hκ] at ho
    change (match rU c.Z t with | some x=>_ | none=>_)=_ at ho
    cases hz:rU c.Z t with
    | some x=>rw [hz] at ho; simp at ho; subst ho; exact .inl ⟨rfl,x,rfl⟩
    | none =>
      rw [hz] at ho
      cases hu:tf c.T t with
      | none=>simp [hu] at ho
      | some u=>simp only [hu] at ho; exact .inr ⟨u,rfl,ho⟩
  rw [← hκ]
  have hhand:∀ t t',tb c.T t=some t'→(κ.o t).isSome=true→κc.o t'=κ.o t:=fun t t' hb _=>hct (aGt ht1 (wR hb))
  have hmm:∀ n∈c.L.map (·.2),κc.mt (bwd c.L n)=κ.mt n:=fun n hn=>by rw [hme,(bC1 hl1 hl2 hn).1]
  refine ⟨?_,hS,hSout,fun {cargs vs} hrep hpt=>?_⟩
  · refine ⟨⟨rfl,rfl,rfl,Nat.le_refl _,fun _ _ _=>rfl,fun _ _ _=>rfl,fun _ _=>rfl,Mem.le_refl _⟩,fun b hb=>?_,fun n c0 hc=>?_,fun n hn=>?_,fun n n' b hn hn' hb hb'=>?_,fun t o ho=>?_,fun t t' o o' gg ho ho' hg hg'=>?_,fun b=>(g.tab b).trans (hS b),fun p hp=>⟨fun hm=>g.gvNo hp (hm.elim (fun ⟨n,hn,hq⟩=>by obtain ⟨c1,h3,_⟩:=hinL hn; exact ((g.blk n (by simp [h3])).2 p.1 hq).2.2) fun ⟨t,_,o,ho,hq⟩=>((g.own t o ho).2 p.1 hq).1),g.tabNow p hp⟩⟩
    · by_cases h:c.bb κ b
      · obtain ⟨cs,T,fr,hh',_⟩:=(hbbS h).2
        have hh:w.heap[b]?=some (.cells cs T fr):=hh'
        rw [hSin h]
        exact ⟨cs,T,fr,hh,by simp only [mW,hh]; exact QJ _⟩
      · rw [hSout b h] at hb ⊢; exact g.mem b hb
    · obtain ⟨h1,na',h2⟩:=aE4 hc
      obtain ⟨c1,h3,h4⟩:=hinL (hfwd h1)
      rw [h3] at h2; subst h2
      exact (g.box _ _ h3).mv ((Mv.rn (κ':=κc) hS hmm hhand h4).trans (Mv.mks hcz)) (hme n) (hbe n) fun _ _=>rfl
    · obtain ⟨c0,hc⟩:=QC.1 hn
      have h1:=hfwd (aE4 hc).1
      obtain ⟨c1,h3,_⟩:=hinL h1
      obtain ⟨k1,k2⟩:=g.blk (fwd c.L n) (by simp [h3])
      rw [hbe]
      refine ⟨k1,fun b hb=>⟨?_,(k2 b hb).2.1,.inl (.inl ⟨_,h1,hb⟩)⟩⟩
      rw [hSout b fun h=>hout h (.inl (.inl ⟨_,h1,hb⟩))]; exact (k2 b hb).1
    · obtain ⟨c0,hc⟩:=QC.1 hn
      obtain ⟨c0',hc'⟩:=QC.1 hn'
      have m1:=(aE4 hc).1
      have m2:=(aE4 hc').1
      obtain ⟨d1,k1,_⟩:=hinL (hfwd m1)
      obtain ⟨d2,k2,_⟩:=hinL (hfwd m2)
      rw [hbe] at hb hb'
      exact aV7 hl2 m1 m2 (g.inj _ _ b (by simp [k1]) (by simp [k2]) hb hb')
    · rcases hcase ho with ⟨h0,x,rfl⟩ | ⟨u,hu,hou⟩
      · exact ⟨⟨0,[],sI.nil w x.1 x.2,by simp [Value.ownBlock]⟩,by simp [Value.ownBlock]⟩
      · obtain ⟨k1,k2⟩:=g.own u o hou
        have hmy:∀ b,o.v.ownBlock=some b→c.may κ b:=fun b hb=>.inr ⟨u,QA.2 ⟨_,aLu hu,rfl⟩,o,hou,hb⟩
        refine ⟨k1.frame fun b hb=>⟨rfl,hSout b fun h=>hout h (.inl (hmy b hb))⟩,fun b hb=>⟨.inl (hmy b hb),fun n hn hm=>?_⟩⟩
        obtain ⟨c0,hc⟩:=QC.1 hn
        obtain ⟨d1,j1,_⟩:=hinL (hfwd (aE4 hc).1)
        rw [hbe] at hm
        exact (k2 b hb).2 _ (by simp [j1]) hm
    · rcases hcase ho with ⟨h0,_⟩ | ⟨u,hu,hou⟩
      · rw [h0] at hg; simp at hg
      rcases hcase ho' with ⟨h0,_⟩ | ⟨u',hu',hou'⟩
      · rw [h0] at hg'; simp at hg'
      have e:=g.ownInj u u' o o' gg hou hou' hg hg'
      subst e
      have e1:=aLa ht2 (aLu hu)
      rw [aLa ht2 (aLu hu')] at e1
      simpa using e1.symm
  · obtain ⟨κl,hκl⟩:∃ k:Ctx,k=⟨κc.S,κ.mt,κ.o,κ.bl⟩:=⟨_,rfl⟩
    have lS:κl.S=κc.S:=by rw [hκl]
    have lm:∀ k,κl.mt k=κ.mt k:=fun k=>by rw [hκl]
    have lo:∀ k,κl.o k=κ.o k:=fun k=>by rw [hκl]
    have hSl:κ.S.le κl.S:=by rw [lS]; exact hS
    have hl:aZ κl cargs (c.lent bx vs):=by
      have e1:aZ κl cargs vs:=hrep.move hSl (V.fitss_eq lm lo _)
      unfold bI.lent
      split
      · exact e1
      · rename_i br hne
        refine aZ.bor (κ:=κ) (κ':=κl) hSl lm lo (fun n x hx=>?_) _ hrep
        obtain ⟨hn,sz,l,cc,h2,hcc,rfl⟩:=bNa hx
        obtain ⟨v,T,h3,_,h4⟩:=(g.box n _ h2).toTr hcc
        have hv:κ.hv n=v:=by show (κ.mt n).2.2=v; rw [h3]; exact wM _ _
        rw [hv]
        exact h4 _ hSl fun b hb=>by rw [lS]; exact hSin (QU.2 ⟨n,hn,hb⟩)
    exact (hl.rn (κ':=κc) (by rw [lS]; exact Mem.le_refl _) (fun n hn=>(hmm n hn).trans (lm n).symm) (fun t t' h1 h2=>by rw [lo] at h2; exact (hhand t t' h1 h2).trans (lo t).symm) hpt).mks hcz
def bI.ctx2 (c : bI) (κ κ' : Ctx) : Ctx := ⟨fun b => if c.bb κ b then κ.S b else κ'.S b, fun n => match tb c.nw n with
    | some k=>κ'.mt k
    | none=>κ.mt n,fun t=>match tb c.T' t with
    | some k=>κ'.o k
    | none=>if c.TT.contains t then none else κ.o t,fun n=>match tb c.L' n with
    | some k=>κ'.bl k
    | none=>κ.bl n⟩
theorem bEb {A:List (Nat×Nat)} {x:Nat} (h:x∈A.map (·.2)):tb A x=some (bwd A x):=by
  induction A with
  | nil=>simp at h
  | cons q A ih =>
    obtain ⟨q1,q2⟩:=q
    simp only [tb,bwd]
    split
    · rfl
    · rename_i e
      exact ih (by simp only [QE,QB] at h; exact h.resolve_left e)
theorem bG7 {A B:List (Nat×Nat)} {b:Nat} (h:b∉A.map (·.2)):tb (A++B) b=tb B b:=by
  induction A with
  | nil=>rfl
  | cons p A ih =>
    obtain ⟨p1,p2⟩:=p
    simp only [QE,QB,not_or] at h
    simp only [QM,tb,if_neg h.1]
    exact ih h.2
theorem bI.bx2_get (c:bI) {bx b':List (Nat×List V)} (hn2:nodupB (c.L'.map (·.2))=true) (hinL:∀ n∈c.L.map (·.2),(bget bx n).isSome=true) {n:Nat} {cells:List V}
    (hc:bget (c.news b'++gG (dnB c.TT bx) (c.wr b')) n=some cells) :
    (∃ k,tb c.L' n=some k∧cells=V.rns (fwd c.L') (tf c.T') ((bget b' k).getD []))∨(n∉c.L.map (·.2)∧n∉c.nw.map (·.2)∧∃ c0,bget bx n=some c0∧cells=dnVs c.TT c0):=by
  obtain ⟨L,T,Z,na,nb,T',nw,TT⟩:=c
  simp only [bI.wr,bI.news,bI.L'] at *
  rw [QK] at hn2
  rw [cEk] at hc
  by_cases hn:n∈nw.map (·.2)
  · rw [aSh (cH8 hn2) hn] at hc
    simp only [QL] at hc
    exact .inl ⟨bwd nw n,by rw [bKy hn]; exact bEb hn,hc.symm⟩
  · rw [(bBs hn).1] at hc
    simp only at hc
    have hl2:=aRk hn2
    have hnd:nodupB ((outs b' (nw++L) T' L).map (·.1))=true:=by
      have:(outs b' (nw++L) T' L).map (·.1)=L.map (·.2):=by simp [outs,Function.comp]
      rw [this]; exact hl2
    rw [bHx hnd] at hc
    by_cases hL:n∈L.map (·.2)
    · rw [aSh hl2 hL] at hc
      obtain ⟨c0,hc0⟩:=QC.1 (hinL n hL)
      rw [aBx,hc0] at hc
      simp only [QN,QL] at hc
      exact .inl ⟨bwd L n,by rw [bG7 hn]; exact bEb hL,hc.symm⟩
    · rw [(bBs hL).1,aBx] at hc
      simp only at hc
      obtain ⟨c0,hc0,rfl⟩:=Option.map_eq_some_iff.1 hc
      exact .inr ⟨hL,hn,c0,hc0,rfl⟩
theorem bUj {P:Program} {s:St} {d:Option Nat} {f:FuncId} {vs args:List V} {fb:List (Nat×List V)} {R:V→List (Nat×List V)→Prop} {K:V→St→Prop} (c:bI) (h:bF P f args fb R)
    (hargs:c.args s.bx vs=args) (hpt:V.ptrsIns (c.L.map (·.2)) (c.lent s.bx vs)=true) (hfb:c.fb s.bx=fb) (hin:uA s.bx (c.L.map (·.2)) (c.L.map (·.2))=true) (hc:c.ok=true) (hbr:c.brOk s.bx=true)
    (hcl:∀ t∈c.TT,(s.dnT c.TT).clean t=true) (hfr:∀ p∈c.nw,(d=some p.2∨NX≤p.2)∧(s.dnT c.TT).fresh p.2=true)
    (hK:∀ x b,R x b→(c.br=[]∨(x.sfree=true∧∀ n∈c.L'.map (·.1),V.sfrees ((bget b n).getD [])=true))∧x.ptrsIn (c.L'.map (·.1))=true∧uA b (c.L'.map (·.1)) (c.L'.map (·.1))=true∧K (c.res x) ⟨dnE c.TT s.env,c.news b++gG (dnB c.TT s.bx) (c.wr b)⟩):lJ P s d f vs K:=by
  intro E N κ w a cargs hfbN hdN hok hrep
  have g:=hok.good
  simp only [bI.ok,QD] at hc
  obtain ⟨hn1,hn2,ht1,ht2,ht1',ht2',hzz,hTT,hTT'⟩:=hc
  have hl1:nodupB (c.L.map (·.1))=true:=by have:=hn1; unfold bI.L' at this; rw [QK] at this; exact aRk this
  have hl2:nodupB (c.L.map (·.2))=true:=by have:=hn2; unfold bI.L' at this; rw [QK] at this; exact aRk this
  obtain ⟨hgc,hSle,hSout,hrc⟩:=c.start g hbr hin hl1 hl2 ht1 ht2 hzz
  have hbbo:=fun {b} hb=>c.bb_out (b:=b) g hbr hin hb
  have hTm:∀ {a b},(a,b)∈c.T→b∈c.TT:=fun hm=>by simpa using QG.1 hTT _ hm
  have hTm':∀ {a b},(a,b)∈c.T'→b∈c.TT:=fun hm=>by simpa using QG.1 hTT' _ hm
  have hinL:∀ {n},n∈c.L.map (·.2)→∃ c1,bget s.bx n=some c1∧V.ptrsIns (c.L.map (·.2)) c1=true:=fun hn=>yH hin hn
  have hnames:(c.fb s.bx).map (·.1)=c.L.map (·.1):=bMr ..
  have hrepc:aZ (c.ctx κ w) cargs args:=by rw [← hargs]; exact hrc hrep hpt
  subst hfb
  refine (h (c.ctx κ w) w cargs (c.may κ) hgc hrepc).mono ?_
  rintro e w' ⟨v,x,κ',b',rfl,hg',hx,hR⟩
  obtain ⟨hfree,hxp,hbi,hKx⟩:=hK x b' hR
  have hle:κ.S.le κ'.S:=Mem.le_trans hSle hg'.frm.le
  have hcb:∀ {n},n∈c.L'.map (·.1)→∃ c1,bget b' n=some c1∧V.ptrsIns (c.L'.map (·.1)) c1=true:=fun hn=>yH hbi hn
  obtain ⟨κ2,hκ2⟩:∃ k:Ctx,k=c.ctx2 κ κ':=⟨_,rfl⟩
  have hS2i:∀ {b},c.bb κ b→κ2.S b=κ.S b:=fun h=>by rw [hκ2]; exact if_pos h
  have hS2o:∀ {b},¬ c.bb κ b→κ2.S b=κ'.S b:=fun h=>by rw [hκ2]; exact if_neg h
  have hle2:κ.S.le κ2.S:=fun b=>by
    by_cases h:c.bb κ b
    · rw [hS2i h]; exact QJ _
    · rw [hS2o h]; exact hle b
  have hleS:c.br=[]→κ'.S.le κ2.S:=fun h b=>by
    have:¬ c.bb κ b:=fun hb=>by obtain ⟨n,hn,_⟩:=bI.bb_ex hb; rw [h] at hn; simp at hn
    rw [hS2o this]; exact QJ _
  have hm0:∀ n,n∉c.nw.map (·.2)→κ2.mt n=κ.mt n:=fun n hn=>by
    rw [hκ2]
    show (match tb c.nw n with | some k=>κ'.mt k | none=>κ.mt n)=κ.mt n
    cases hb:tb c.nw n with
    | none=>rfl
    | some k=>exact absurd (QA.2 ⟨_,wR hb,rfl⟩) hn
  have hmk:∀ n k,tb c.L' n=some k→κ2.mt n=κ'.mt k:=fun n k hk=>by
    by_cases hn:n∈c.nw.map (·.2)
    · unfold bI.L' at hk
      rw [bKy hn] at hk
      rw [hκ2]
      show (match tb c.nw n with | some k=>κ'.mt k | none=>κ.mt n)=_
      rw [hk]
    · rw [hm0 n hn]
      unfold bI.L' at hk
      rw [bG7 hn] at hk
      have hmem:=wR hk
      have:=hg'.frm.names k (by show k∈(c.fb s.bx).map (·.1); rw [hnames]; exact QA.2 ⟨_,hmem,rfl⟩)
      rw [this]
      show κ.mt n=κ.mt (fwd c.L k)
      rw [cF7 hl1 hmem]
  have hbk:∀ n k,tb c.L' n=some k→κ2.bl n=κ'.bl k:=fun n k hk=>by
    rw [hκ2]
    show (match tb c.L' n with | some k=>κ'.bl k | none=>κ.bl n)=_
    rw [hk]
  have hb0:∀ n,tb c.L' n=none→κ2.bl n=κ.bl n:=fun n hk=>by
    rw [hκ2]
    show (match tb c.L' n with | some k=>κ'.bl k | none=>κ.bl n)=_
    rw [hk]
  have hm1:∀ n∈c.L'.map (·.1),κ2.mt (fwd c.L' n)=κ'.mt n:=fun n hn=>hmk _ _ (aLa hn2 (aGa hn))
  have ho1:∀ t t',tf c.T' t=some t'→(κ'.o t).isSome=true→κ2.o t'=κ'.o t:=fun t t' hf _=>by
    rw [hκ2]
    show (match tb c.T' t' with | some k=>κ'.o k | none=>_)=_
    rw [aLa ht2' (aLu hf)]
  have ho0:∀ t,t∉c.TT→κ2.o t=κ.o t:=fun t ht=>by
    rw [hκ2]
    show (match tb c.T' t with | some k=>κ'.o k | none=>if c.TT.contains t then none else κ.o t)=κ.o t
    cases hb:tb c.T' t with
    | some k=>exact absurd (hTm' (wR hb)) ht
    | none=>simp [ht]
  have hfr':∀ n∈c.nw.map (·.2),(s.dnT c.TT).fresh n=true:=fun n hn=>by
    obtain ⟨p,hp,rfl⟩:=QA.1 hn
    exact (hfr p hp).2
  have htOut:∀ t o b,κ.o t=some o→t∉c.TT→o.v.ownBlock=some b→¬ (c.may κ b∨w.heap.size≤b):=by
    rintro t o b ho ht hob ((⟨n,hn,hb⟩ | ⟨t',ht',o',ho',hob'⟩) | hb)
    · obtain ⟨c1,hc1,_⟩:=hinL hn
      exact ((g.own t o ho).2 b hob).2 n (by simp [hc1]) hb
    · obtain ⟨p,hp,rfl⟩:=QA.1 ht'
      exact ht ((g.ownInj t p.2 o o' b ho ho' hob hob') ▸ hTm hp)
    · have:=(g.own t o ho).1.lt hob; omega
  have hO2:∀ t o,κ'.o t=some o→∀ b,o.v.ownBlock=some b→κ2.S b=κ'.S b:=fun t o ho b hb=>hS2o fun h=>hbbo h ((hg'.own t o ho).2 b hb).1
  have hxr:aR κ2 v (c.res x):=by
    rcases hfree with h | h
    · exact hx.rn (κ':=κ2) (hleS h) hm1 ho1 hxp
    · exact hx.rnF (κ':=κ2) hm1 ho1 hO2 hxp h.1
  have hcmv:∀ {n c1},n∈c.L'.map (·.1)→bget b' n=some c1→V.ptrsIns (c.L'.map (·.1)) c1=true→Mv κ' κ2 c1 (V.rns (fwd c.L') (tf c.T') c1):=fun {n c1} hn hc1 hp=>by
    rcases hfree with h | h
    · exact Mv.rn (hleS h) hm1 ho1 hp
    · exact Mv.rnF hm1 ho1 hO2 hp (by have:=h.2 n hn; rw [hc1] at this; exact this)
  have hbx2:=fun {n cells} hcc=>c.bx2_get (bx:=s.bx) (b':=b') (n:=n) (cells:=cells) hn2 (fun n hn=>by obtain ⟨c1,hc1,_⟩:=hinL hn; simp [hc1]) hcc
  refine ⟨v,c.res x,κ2,_,rfl,⟨hok.size,hok.defers,fun n=>?_,?_⟩,hxr,hKx⟩
  · show aR κ2 (a.tmps.getD n undef) (lk (dnE c.TT s.env) n)
    rw [aE3]
    refine ((hok.env n).dnV).move hle2 (V.fits_nn (np:=c.nw.map (·.2)) (nt:=c.TT) hm0 ho0 _ (fun k hk=>?_) (fun t ht=>?_))
    · have:=(St.fresh_env (hfr' k hk) n).1
      simp only [St.dnT,aE3] at this; exact this
    · have:=St.clean_env (hcl t ht) n
      simp only [St.dnT,aE3] at this; exact this
  · have hInBB:∀ {b},(c.may κ b∨w.heap.size≤b)→κ2.S b=κ'.S b:=fun h=>hS2o fun hb=>hbbo hb h
    have hsrc:∀ {n k},tb c.L' n=some k→n∈c.L'.map (·.2)∧k∈c.L'.map (·.1):=fun h=>⟨QA.2 ⟨_,wR h,rfl⟩,QA.2 ⟨_,wR h,rfl⟩⟩
    have hsplit:∀ n,(bget (c.news b'++gG (dnB c.TT s.bx) (c.wr b')) n).isSome=true→(tb c.L' n).isSome=true→∃ k c1,tb c.L' n=some k∧bget b' k=some c1∧V.ptrsIns (c.L'.map (·.1)) c1=true:=fun n _ hs=>by
      obtain ⟨k,hk⟩:=QC.1 hs
      obtain ⟨c1,hc1,hp⟩:=hcb (hsrc hk).2
      exact ⟨k,c1,hk,hc1,hp⟩
    refine g.patch (fun b=>c.may κ b∨w.heap.size≤b) (fun n=>(tb c.L' n).isSome=true) (fun t=>(tb c.T' t).isSome=true) hg'.frm.os hg'.frm.tape hg'.frm.output hg'.frm.size ?_ ?_ (fun b h=>by rw [hInBB h]; exact (g.frm.le b).trans (hle b)) (fun b h=>by rw [hInBB h]; exact (g.tab b).trans (hle b)) (fun b h hn=>?_) ?_ ?_ ?_ ?_ ?_ ?_ ?_
    · rintro b ((⟨n,hn,hb⟩ | ⟨t,ht,o,ho,hob⟩) | hb)
      · obtain ⟨c1,hc1,_⟩:=hinL hn
        exact ((g.blk n (by simp [hc1])).2 b hb).2.2
      · exact ((g.own t o ho).2 b hob).1
      · exact .inr (Nat.le_trans g.frm.size hb)
    · intro b hb
      have h1:¬ c.may κ b:=fun hm=>hb (.inl hm)
      have h2:b<w.heap.size:=by
        rcases Nat.lt_or_ge b w.heap.size with h | h
        · exact h
        · exact absurd (.inr h) hb
      refine ⟨hg'.frm.block b h2 h1,?_⟩
      by_cases h:c.bb κ b
      · exact hS2i h
      · rw [hS2o h]; exact (hg'.frm.mem b h2 h1).trans (hSout b h)
    · rw [hInBB h] at hn ⊢; exact hg'.mem b hn
    · intro n hn
      refine hm0 n fun hm=>?_
      obtain ⟨p,hp,rfl⟩:=QA.1 hm
      have h2:=hfbN _ hn
      rcases (hfr p hp).1 with h1 | h1
      · have h1:=hdN _ h1
        omega
      · omega
    · intro n cells hcc hs
      have hs':tb c.L' n=none:=by cases h:tb c.L' n with | none=>rfl | some k=>rw [h] at hs; exact absurd rfl hs
      rcases hbx2 hcc with ⟨k,hk,_⟩ | ⟨h1,h2,c0,hc0,rfl⟩
      · rw [hs'] at hk; simp at hk
      · have hq:bget (s.dnT c.TT).bx n=some (dnVs c.TT c0):=by simp only [St.dnT,aBx,hc0,QN]
        refine ⟨c0,hc0,hm0 n h2,hb0 n hs',Mv.dnVs.trans (Mv.fits hle2 (V.fitss_nn (np:=c.nw.map (·.2)) (nt:=c.TT) hm0 ho0 _ (fun k hk=>(St.fresh_bx (hfr' k hk) hq).1) (fun t ht=>St.clean_bx (hcl t ht) hq))),fun b hb=>?_⟩
        rintro ((⟨n',hn',he⟩ | ⟨t,ht,o,ho,hob⟩) | hb')
        · obtain ⟨c',hc',_⟩:=hinL hn'
          exact h1 ((g.inj n n' b (by simp [hc0]) (by simp [hc']) hb he) ▸ hn')
        · exact ((g.own t o ho).2 b hob).2 n (by simp [hc0]) hb
        · have:=((g.blk n (by simp [hc0])).2 b hb).2.1
          omega
    · intro n cells hcc hs
      rcases hbx2 hcc with ⟨k,hk,rfl⟩ | ⟨h1,h2,_⟩
      · obtain ⟨c1,hc1,hp⟩:=hcb (hsrc hk).2
        obtain ⟨k1,k2⟩:=hg'.blk k (by simp [hc1])
        rw [hc1,hbk n k hk]
        refine ⟨(hg'.box k c1 hc1).mv (hcmv (hsrc hk).2 hc1 hp) (hmk n k hk) (hbk n k hk) fun _ _=>rfl,k1,fun b hb=>⟨(k2 b hb).2.2,?_,(k2 b hb).2.1⟩⟩
        rw [hInBB (k2 b hb).2.2]; exact (k2 b hb).1
      · exfalso
        obtain ⟨k,hk⟩:=QC.1 hs
        have:=(hsrc hk).1
        unfold bI.L' at this
        rw [QK,QS] at this
        exact this.elim h2 h1
    · intro n n' b hn hn' hs hs' hb hb'
      obtain ⟨k,c1,hk,hc1,_⟩:=hsplit n hn hs
      obtain ⟨k',c1',hk',hc1',_⟩:=hsplit n' hn' hs'
      rw [hbk n k hk] at hb
      rw [hbk n' k' hk'] at hb'
      have e:=hg'.inj k k' b (by simp [hc1]) (by simp [hc1']) hb hb'
      subst e
      have e1:=aGt hn1 (wR hk)
      rw [aGt hn1 (wR hk')] at e1
      simpa using e1.symm
    · intro t o ho hs
      have ho2:=ho
      rw [hκ2] at ho2
      change (match tb c.T' t with | some k=>κ'.o k | none=>if c.TT.contains t then none else κ.o t)=some o at ho2
      cases hb:tb c.T' t with
      | some k=>rw [hb] at hs; exact absurd rfl hs
      | none =>
        rw [hb] at ho2
        by_cases hct:t∈c.TT
        · simp [hct] at ho2
        · simp only [QH,hct,decide_false,Bool.false_eq_true,if_false] at ho2
          exact ⟨ho2,fun b hob=>htOut t o b ho2 hct hob⟩
    · intro t o ho hs
      obtain ⟨k,hk⟩:=QC.1 hs
      have ho2:κ'.o k=some o:=by
        rw [hκ2] at ho
        change (match tb c.T' t with | some k=>κ'.o k | none=>if c.TT.contains t then none else κ.o t)=some o at ho
        rw [hk] at ho; exact ho
      obtain ⟨k1,k2⟩:=hg'.own k o ho2
      refine ⟨k1.frame fun b hb=>⟨rfl,hInBB (k2 b hb).1⟩,fun b hb=>⟨(k2 b hb).1,fun n hn hs' hm=>?_⟩⟩
      obtain ⟨k',c1',hk',hc1',_⟩:=hsplit n hn hs'
      rw [hbk n k' hk'] at hm
      exact (k2 b hb).2 k' (by simp [hc1']) hm
    · intro t t' o o' b ho ho' hs hs' hb hb'
      obtain ⟨k,hk⟩:=QC.1 hs
      obtain ⟨k',hk'⟩:=QC.1 hs'
      have e0:∀ {t k o},tb c.T' t=some k→κ2.o t=some o→κ'.o k=some o:=fun {t k o} hk ho=>by
        rw [hκ2] at ho
        change (match tb c.T' t with | some k=>κ'.o k | none=>if c.TT.contains t then none else κ.o t)=some o at ho
        rw [hk] at ho; exact ho
      have:=hg'.ownInj k k' o o' b (e0 hk ho) (e0 hk' ho') hb hb'
      subst this
      have e1:=aGt ht1' (wR hk)
      rw [aGt ht1' (wR hk')] at e1
      simpa using e1.symm
end Go.Ab
