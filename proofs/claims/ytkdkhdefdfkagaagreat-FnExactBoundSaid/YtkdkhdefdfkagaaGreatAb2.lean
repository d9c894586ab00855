/- Abstract states,what they say of the machine's state,and how both change together: a temporary,a new box,a store,a new row,an append. -/
import Derived.Test.YtkdkhdefdfkagaaGreatAb1
namespace Go.Ab
open Go Go.RowKit
structure St where
  env:List (Nat×V)
  bx:List (Nat×List V)
  deriving Inhabited
def lk:List (Nat×V)→Nat→V
  | [],_=>.top
  | (m,v)::l,n=>if n=m then v else lk l n
def bget:List (Nat×List V)→Nat→Option (List V)
  | [],_=>none
  | (m,v)::l,n=>if n=m then some v else bget l n
def St.put (s:St) (d:Nat) (v:V):St:=⟨(d,v)::s.env,s.bx⟩
structure Entry where
  κ:Ctx
  w:World
  fb:List Nat
  may:Nat→Prop
structure Frm (E:Entry) (κ:Ctx) (w:World):Prop where
  os:w.os=E.w.os
  tape:w.tape=E.w.tape
  output:w.output=E.w.output
  size:E.w.heap.size≤w.heap.size
  mem:∀ b,b<E.w.heap.size→¬ E.may b→κ.S b=E.κ.S b
  block:∀ b,b<E.w.heap.size→¬ E.may b→w.heap[b]?=E.w.heap[b]?
  names:∀ n ∈ E.fb,κ.mt n=E.κ.mt n
  le:E.κ.S.le κ.S
structure Good (E:Entry) (κ:Ctx) (w:World) (bx:List (Nat×List V)):Prop where
  frm:Frm E κ w
  mem:∀ b,κ.S b≠[]→∃ cs T fr,w.heap[b]?=some (.cells cs T fr)∧κ.S b <+: cs.toList
  box:∀ n cells,bget bx n=some cells→∃ cs T,w.heap[κ.m n]?=some (.cells cs T (0,0))∧dF κ cs.toList cells∧κ.S (κ.m n)=[]∧(E.may (κ.m n)∨E.w.heap.size≤κ.m n)∧(κ.mt n).2=T
  inj:∀ n n',(bget bx n).isSome→(bget bx n').isSome→κ.m n=κ.m n'→n=n'
  own:∀ t o,κ.o t=some o→∃ k xs,w.ownsRow 0 o.e o.sz o.v k xs∧∀ g,o.v.ownBlock=some g→(E.may g∨E.w.heap.size≤g)∧κ.S g=xs∧∀ n,(bget bx n).isSome→κ.m n≠g
  ownInj:∀ t t' o o' g,κ.o t=some o→κ.o t'=some o'→o.v.ownBlock=some g→o'.v.ownBlock=some g→t=t'
structure Ok (E:Entry) (N:Nat) (κ:Ctx) (w:World) (a:Act) (s:St):Prop where
  size:a.tmps.size=N
  defers:a.defers=[]
  env:∀ n,bI κ (a.tmps.getD n undef) (lk s.env n)
  good:Good E κ w s.bx
def KC (E:Entry) (N:Nat) (K:St→Prop):Act→World→Prop:=fun a w=>∃ κ s,K s∧Ok E N κ w a s
section
variable {E:Entry} {N:Nat} {κ:Ctx} {w:World} {a:Act} {s:St} {K:St→Prop}
theorem aCk (t:Array Value) (d n:Nat) (v:Value) (hd:d<t.size):(t.setIfInBounds d v).getD n undef=if n=d then v else t.getD n undef:=by
  simp only [Array.getD_eq_getD_getElem?,Array.getElem?_setIfInBounds]
  by_cases h:n=d
  · subst h; simp [hd]
  · rw [if_neg (fun e=>h e.symm),if_neg h]
theorem Ok.put (h:Ok E N κ w a s) {d:Nat} (hd:d<N) {v:Value} {x:V} (hv:bI κ v x):Ok E N κ w (a.put (some d) v) (s.put d x):=by
  refine ⟨by simp [Act.put,h.size],h.defers,fun n=>?_,h.good⟩
  simp only [Act.put,St.put,lk]
  rw [aCk _ _ _ _ (by rw [h.size]; exact hd)]
  split
  · exact hv
  · exact h.env n
theorem aQy (h:Ok E N κ w a s) {d:Nat} (hd:d<N) {v:Value} {x:V} (hv:bI κ v x) (hK:K (s.put d x)):KC E N K (a.put (some d) v) w :=
  ⟨κ,_,hK,h.put hd hv⟩
theorem aR0 {P : Program} {o : Oper} {Q : Exit → Act → World → Prop} {d : Nat} (hdst : o.dst = some d) (h : Ok E N κ w a s) (hd : d < N) {v : Value} {x : V}
    (hr:(execOp a.eval o).run P w=.ok (.value v) w) (hv:bI κ v x) (hK:K (s.put d x)):o.wp P a w (KC E N K) Q:=by
  unfold Oper.wp
  rw [hr,Oper.upon_value,hdst]
  exact aQy h hd hv hK
end
mutual
def V.noPtr (n:Nat):V→Bool
  | .ptr m _=>m != n
  | .msl m _ _ _ _=>m != n
  | .fn _ l=>V.noPtrs n l
  | .tup l=>V.noPtrs n l
  | .agv l=>V.noPtrs n l
  | .bp m _=>m != n
  | .ite _ v=>v.noPtr n
  | _=>true
def V.noPtrs (n:Nat):List V→Bool
  | []=>true
  | v::l=>v.noPtr n&&V.noPtrs n l
end
mutual
def V.noTok (t:Nat):V→Bool
  | .osl t' _ _ _=>t' != t
  | .fn _ l=>V.noToks t l
  | .tup l=>V.noToks t l
  | .agv l=>V.noToks t l
  | .ite _ v=>v.noTok t
  | _=>true
def V.noToks (t:Nat):List V→Bool
  | []=>true
  | v::l=>v.noTok t&&V.noToks t l
end
def V.dn1 (t:Nat):V→V
  | .osl t' e sz l=>if t'=t then .d (.sl sz l) else .osl t' e sz l
  | v=>v
def V.dn0 (t:Nat):V→V
  | .agv l=>.agv (l.map (V.dn1 t))
  | .tup l=>.tup (l.map (V.dn1 t))
  | v=>v.dn1 t
def V.dn (t:Nat):V→V
  | .ite c v=>.ite c (v.dn0 t)
  | v=>v.dn0 t
mutual
theorem V.fits_oo {κ κ':Ctx} {t u:Nat} (hm:∀ k,κ'.mt k=κ.mt k) (ho:∀ k,k≠t→k≠u→κ'.o k=κ.o k):∀ v:V,v.noTok t=true→v.noTok u=true→v.fits κ κ'
  | .ptr k _,_,_=>hm k
  | .msl k _ _ _ _,_,_=>hm k
  | .osl k _ _ _,h,h'=>ho k (by simpa [V.noTok] using h) (by simpa [V.noTok] using h')
  | .fn _ l,h,h'=>V.fitss_oo hm ho l (by simpa [V.noTok] using h) (by simpa [V.noTok] using h')
  | .tup l,h,h'=>V.fitss_oo hm ho l (by simpa [V.noTok] using h) (by simpa [V.noTok] using h')
  | .agv l,h,h'=>V.fitss_oo hm ho l (by simpa [V.noTok] using h) (by simpa [V.noTok] using h')
  | .bp k _,_,_=>hm k
  | .ite _ v,h,h'=>V.fits_oo hm ho v (by simpa [V.noTok] using h) (by simpa [V.noTok] using h')
  | .top,_,_ | .und,_,_ | .d _,_,_ | .agg _,_,_ | .nil _,_,_ | .rp _,_,_ | .np,_,_=>trivial
theorem V.fitss_oo {κ κ':Ctx} {t u:Nat} (hm:∀ k,κ'.mt k=κ.mt k) (ho:∀ k,k≠t→k≠u→κ'.o k=κ.o k):∀ l:List V,V.noToks t l=true→V.noToks u l=true→V.fitss κ κ' l
  | [],_,_=>trivial
  | v::l,h,h'=>by
    simp only [V.noToks,Bool.and_eq_true] at h h'
    exact ⟨V.fits_oo hm ho v h.1 h'.1,V.fitss_oo hm ho l h.2 h'.2⟩
end
mutual
theorem V.fits_m {κ κ':Ctx} {n:Nat} (hm:∀ k,k≠n→κ'.mt k=κ.mt k) (ho:∀ k,κ'.o k=κ.o k):∀ v:V,v.noPtr n=true→v.fits κ κ'
  | .ptr k _,h=>hm k (by simpa [V.noPtr] using h)
  | .msl k _ _ _ _,h=>hm k (by simpa [V.noPtr] using h)
  | .osl k _ _ _,_=>ho k
  | .fn _ l,h=>V.fitss_m hm ho l (by simpa [V.noPtr] using h)
  | .tup l,h=>V.fitss_m hm ho l (by simpa [V.noPtr] using h)
  | .agv l,h=>V.fitss_m hm ho l (by simpa [V.noPtr] using h)
  | .bp k _,h=>hm k (by simpa [V.noPtr] using h)
  | .ite _ v,h=>V.fits_m hm ho v (by simpa [V.noPtr] using h)
  | .top,_ | .und,_ | .d _,_ | .agg _,_ | .nil _,_ | .rp _,_ | .np,_=>trivial
theorem V.fitss_m {κ κ':Ctx} {n:Nat} (hm:∀ k,k≠n→κ'.mt k=κ.mt k) (ho:∀ k,κ'.o k=κ.o k):∀ l:List V,V.noPtrs n l=true→V.fitss κ κ' l
  | [],_=>trivial
  | v::l,h=>by
    simp only [V.noPtrs,Bool.and_eq_true] at h
    exact ⟨V.fits_m hm ho v h.1,V.fitss_m hm ho l h.2⟩
end
mutual
theorem V.fits_o {κ κ':Ctx} {t:Nat} (hm:∀ k,κ'.mt k=κ.mt k) (ho:∀ k,k≠t→κ'.o k=κ.o k):∀ v:V,v.noTok t=true→v.fits κ κ'
  | .ptr k _,_=>hm k
  | .msl k _ _ _ _,_=>hm k
  | .osl k _ _ _,h=>ho k (by simpa [V.noTok] using h)
  | .fn _ l,h=>V.fitss_o hm ho l (by simpa [V.noTok] using h)
  | .tup l,h=>V.fitss_o hm ho l (by simpa [V.noTok] using h)
  | .agv l,h=>V.fitss_o hm ho l (by simpa [V.noTok] using h)
  | .bp k _,_=>hm k
  | .ite _ v,h=>V.fits_o hm ho v (by simpa [V.noTok] using h)
  | .top,_ | .und,_ | .d _,_ | .agg _,_ | .nil _,_ | .rp _,_ | .np,_=>trivial
theorem V.fitss_o {κ κ':Ctx} {t:Nat} (hm:∀ k,κ'.mt k=κ.mt k) (ho:∀ k,k≠t→κ'.o k=κ.o k):∀ l:List V,V.noToks t l=true→V.fitss κ κ' l
  | [],_=>trivial
  | v::l,h=>by
    simp only [V.noToks,Bool.and_eq_true] at h
    exact ⟨V.fits_o hm ho v h.1,V.fitss_o hm ho l h.2⟩
end
mutual
theorem V.fits_eq {κ κ':Ctx} (hm:∀ k,κ'.mt k=κ.mt k) (ho:∀ k,κ'.o k=κ.o k):∀ v:V,v.fits κ κ'
  | .ptr k _=>hm k
  | .msl k _ _ _ _=>hm k
  | .osl k _ _ _=>ho k
  | .fn _ l=>V.fitss_eq hm ho l
  | .tup l=>V.fitss_eq hm ho l
  | .agv l=>V.fitss_eq hm ho l
  | .bp k _=>hm k
  | .ite _ v=>V.fits_eq hm ho v
  | .top | .und | .d _ | .agg _ | .nil _ | .rp _ | .np=>trivial
theorem V.fitss_eq {κ κ':Ctx} (hm:∀ k,κ'.mt k=κ.mt k) (ho:∀ k,κ'.o k=κ.o k):∀ l:List V,V.fitss κ κ' l
  | []=>trivial
  | v::l=>⟨V.fits_eq hm ho v,V.fitss_eq hm ho l⟩
end
def upd {α:Type} (f:Nat→α) (n:Nat) (x:α):Nat→α:=fun k=>if k=n then x else f k
theorem upd_same {α:Type} (f:Nat→α) (n:Nat) (x:α):upd f n x n=x:=by simp [upd]
theorem lM {α:Type} (f:Nat→α) (n:Nat) (x:α) {k:Nat} (h:k≠n):upd f n x k=f k:=by simp [upd,h]
def vT (p:V→Bool):List (Nat×V)→Bool
  | []=>true
  | (_,v)::l=>p v&&vT p l
def uM (p:V→Bool):List (Nat×List V)→Bool
  | []=>true
  | (_,l)::r=>l.all p&&uM p r
theorem bEb {p:V→Bool} (htop:p .top=true) {l:List (Nat×V)} (h:vT p l=true) (n:Nat):p (lk l n)=true:=by
  induction l with
  | nil=>exact htop
  | cons x l ih =>
    obtain ⟨m,v⟩:=x
    simp only [vT,Bool.and_eq_true] at h
    simp only [lk]
    split
    · exact h.1
    · exact ih h.2
theorem bC8 {p:V→Bool} {l:List (Nat×List V)} (h:uM p l=true) {n:Nat} {c:List V} (hc:bget l n=some c):c.all p=true:=by
  induction l with
  | nil=>simp [bget] at hc
  | cons x l ih =>
    obtain ⟨m,v⟩:=x
    simp only [uM,Bool.and_eq_true] at h
    simp only [bget] at hc
    split at hc
    · simp at hc; subst hc; exact h.1
    · exact ih h.2 hc
theorem aKc (n:Nat) (l:List V):V.noPtrs n l=l.all (V.noPtr n):=by
  induction l with
  | nil=>rfl
  | cons x l ih=>simp [V.noPtrs,ih]
theorem vV (n:Nat) (l:List V):V.noToks n l=l.all (V.noTok n):=by
  induction l with
  | nil=>rfl
  | cons x l ih=>simp [V.noToks,ih]
def St.fresh (s:St) (n:Nat):Bool:=vT (fun v=>v.noPtr n&&v.noTok n) s.env&&uM (fun v=>v.noPtr n&&v.noTok n) s.bx
theorem St.fresh_env {s:St} {n:Nat} (h:s.fresh n=true) (k:Nat):(lk s.env k).noPtr n=true∧(lk s.env k).noTok n=true:=by
  simp only [St.fresh,Bool.and_eq_true] at h
  have:=bEb (p:=fun v=>v.noPtr n&&v.noTok n) rfl h.1 k
  simpa using this
theorem St.fresh_bx {s:St} {n:Nat} (h:s.fresh n=true) {k:Nat} {c:List V} (hc:bget s.bx k=some c):V.noPtrs n c=true∧V.noToks n c=true:=by
  simp only [St.fresh,Bool.and_eq_true] at h
  have:=bC8 h.2 hc
  rw [aKc,vV,List.all_eq_true,List.all_eq_true]
  simp only [List.all_eq_true,Bool.and_eq_true] at this
  exact ⟨fun v hv=>(this v hv).1,fun v hv=>(this v hv).2⟩
def St.clean (s:St) (t:Nat):Bool:=vT (V.noTok t) s.env&&uM (V.noTok t) s.bx
theorem St.clean_env {s:St} {n:Nat} (h:s.clean n=true) (k:Nat):(lk s.env k).noTok n=true:=by
  simp only [St.clean,Bool.and_eq_true] at h
  exact bEb (p:=V.noTok n) rfl h.1 k
theorem St.clean_bx {s:St} {n:Nat} (h:s.clean n=true) {k:Nat} {c:List V} (hc:bget s.bx k=some c):V.noToks n c=true:=by
  simp only [St.clean,Bool.and_eq_true] at h
  rw [vV]
  exact bC8 h.2 hc
end Go.Ab
