/- Abstract data and values over the model's memory: definitions,and that what is represented stays represented when memory grows. -/
import Derived.WalkKit
import Derived.Lib.ItoaLen
import Derived.Lib.ConvBytes
namespace Go.Ab
open Go Go.RowKit
open _root_.Prod renaming fst→QA
open _root_.Nat renaming le_add_left→QB
inductive D where
  | b (x:Bool)
  | i (k:IntKind) (n:Int)
  | s (x:ByteArray)
  | sl (sz:Nat) (l:List (List D))
  deriving Inhabited
abbrev Mem:=Nat→List Value
def Mem.le (S S':Mem):Prop:=∀ b,S b <+: S' b
theorem Mem.le_refl (S:Mem):S.le S:=fun _=>List.prefix_refl _
theorem Mem.le_trans {A B C:Mem} (h:A.le B) (k:B.le C):A.le C:=fun b=>(h b).trans (k b)
mutual
inductive eO (S:Mem):Value→D→Prop
  | b (x:Bool):eO S (.bool x) (.b x)
  | i (k:IntKind) (n:Int):k.min≤n→n≤k.max→eO S (.int k n) (.i k n)
  | s (x:ByteArray):x.size≤maxLen→eO S (.string x) (.s x)
  | nil (sz:Nat):eO S (.slice none 0 0) (.sl sz [])
  | emp (a:Addr) (cap sz:Nat):cap≤maxLen→eO S (.slice (some a) 0 cap) (.sl sz [])
  | sl (b off len cap sz:Nat) (l:List (List D)) (vs:List Value):len=l.length→len≤cap→cap≤maxLen→vs.length=len * sz →
      vs <+: (S b).drop off→(∀ e∈l,e.length=sz)→dR S vs l.flatten→eO S (.slice (some ⟨b,off,none⟩) len cap) (.sl sz l)
inductive dR (S:Mem):List Value→List D→Prop
  | nil:dR S [] []
  | cons {v:Value} {x:D} {vs:List Value} {xs:List D}:eO S v x→dR S vs xs→dR S (v::vs) (x::xs)
end
theorem aI4 {α:Type} {a b:List α} (h:a <+: b) (n:Nat):a.drop n <+: b.drop n:=by
  obtain ⟨t,rfl⟩:=h
  rw [List.drop_append]
  exact List.prefix_append _ _
mutual
theorem eO.mono {S S':Mem} (hS:S.le S'):∀ {v:Value} {x:D},eO S v x→eO S' v x
  | _,_,.b x=>.b x
  | _,_,.i k n h h'=>.i k n h h'
  | _,_,.s x h=>.s x h
  | _,_,.nil sz=>.nil sz
  | _,_,.emp a cap sz h=>.emp a cap sz h
  | _,_,.sl b off len cap sz l vs h1 h2 h3 h4 h5 h6 h7=>.sl b off len cap sz l vs h1 h2 h3 h4 (h5.trans (aI4 (hS b) off)) h6 (dR.mono hS h7)
theorem dR.mono {S S':Mem} (hS:S.le S'):∀ {v:List Value} {x:List D},dR S v x→dR S' v x
  | _,_,.nil=>.nil
  | _,_,.cons h t=>.cons (eO.mono hS h) (dR.mono hS t)
end
section lists
variable {S:Mem}
theorem dR.length {vs:List Value} {xs:List D} (h:dR S vs xs):vs.length=xs.length:=by
  induction xs generalizing vs with
  | nil=>cases h; rfl
  | cons x xs ih=>cases h with | cons _ t=>simp [ih t]
theorem dR.append {vs us:List Value} {xs ys:List D} (h:dR S vs xs) (k:dR S us ys):dR S (vs++us) (xs++ys):=by
  induction xs generalizing vs with
  | nil=>cases h; exact k
  | cons x xs ih=>cases h with | cons a t=>exact .cons a (ih t)
theorem dR.drop {vs:List Value} {xs:List D} (h:dR S vs xs) (n:Nat):dR S (vs.drop n) (xs.drop n):=by
  induction n generalizing vs xs with
  | zero=>simpa using h
  | succ n ih=>cases h with | nil=>exact .nil | cons _ t=>exact ih t
theorem dR.take {vs:List Value} {xs:List D} (h:dR S vs xs) (n:Nat):dR S (vs.take n) (xs.take n):=by
  induction n generalizing vs xs with
  | zero=>simpa using dR.nil
  | succ n ih=>cases h with | nil=>exact .nil | cons a t=>exact .cons a (ih t)
theorem dR.get {vs:List Value} {xs:List D} (h:dR S vs xs) {n:Nat} {x:D} (hx:xs[n]?=some x):∃ v,vs[n]?=some v∧eO S v x:=by
  induction n generalizing vs xs with
  | zero=>cases h with | nil=>simp at hx | cons a t=>simp at hx; exact ⟨_,rfl,hx ▸ a⟩
  | succ n ih=>cases h with | nil=>simp at hx | cons a t=>simpa using ih t (by simpa using hx)
theorem dR.set {vs:List Value} {xs:List D} (h:dR S vs xs) (n:Nat) {v:Value} {x:D} (hv:eO S v x):dR S (vs.set n v) (xs.set n x):=by
  induction n generalizing vs xs with
  | zero=>cases h with | nil=>exact .nil | cons a t=>exact .cons hv t
  | succ n ih=>cases h with | nil=>exact .nil | cons a t=>exact .cons a (ih t)
theorem eO.oneCell {v:Value} {x:D} (h:eO S v x):v.oneCell'=true∧v.cells=#[v]:=by cases h <;> exact ⟨rfl,rfl⟩
theorem dR.oneCell {vs:List Value} {xs:List D} (h:dR S vs xs):∀ u∈vs,u.oneCell'=true:=by
  induction xs generalizing vs with
  | nil=>cases h; simp
  | cons x xs ih=>cases h with | cons a t=>intro u hu; rcases List.mem_cons.1 hu with rfl | hu; exact a.oneCell.1; exact ih t u hu
end lists
abbrev MVB:Nat:=1000000
def mvc (f:Nat):Nat:=f+MVB
def D.flat:D→Bool
  | .sl ..=>false
  | _=>true
inductive V where
  | top
  | und
  | d (x:D)
  | agg (l:List D)
  | nil (sz:Nat)
  | osl (t:Nat) (e:TypeId) (sz:Nat) (l:List (List D))
  | ptr (n off:Nat)
  | msl (n sz o len cap:Nat)
  | rp (l:List D)
  | np
  | fn (f:FuncId) (caps:List V)
  | tup (l:List V)
  | agv (l:List V)
  | bp (n:Nat) (U:TypeId)
  | ite (c:Bool) (v:V)
  | tre (n:Nat)
  | trp (n sz i off:Nat)
  | trc (sz:Nat) (l:List (List D))
  | tro (sz i:Nat) (l:List (List D))
  | trd
  | trs (sz:Nat) (l:List (List D))
  deriving Inhabited
structure Own where
  e:TypeId
  sz:Nat
  v:Value
structure Ctx where
  S:Mem
  mt:Nat→Nat×TypeId×Value
  o:Nat→Option Own
  bl:Nat→List Nat
abbrev Ctx.m (κ:Ctx) (n:Nat):Nat:=(κ.mt n).1
abbrev Ctx.ty (κ:Ctx) (n:Nat):TypeId:=(κ.mt n).2.1
abbrev Ctx.hv (κ:Ctx) (n:Nat):Value:=(κ.mt n).2.2
def V.one:V→Bool
  | .d _ | .nil _ | .osl .. | .ptr .. | .np | .bp .. | .rp _ | .fn .. | .msl .. | .trp .. | .tre _=>true
  | _=>false
def V.mark:V→Bool
  | .trc .. | .trs .. | .tro .. | .trd=>true
  | _=>false
mutual
def V.still:V→Bool
  | .osl ..=>false
  | .fn _ l=>V.stills l
  | .tup l=>V.stills l
  | .agv l=>V.stills l
  | .ite _ v=>v.still
  | _=>true
def V.stills:List V→Bool
  | []=>true
  | v::l=>v.still&&V.stills l
end
mutual
inductive aY (κ:Ctx):Value→V→Prop
  | top (v:Value):aY κ v .top
  | und:aY κ undef .und
  | d {v:Value} {x:D}:eO κ.S v x→aY κ v (.d x)
  | agg {cs:List Value} {l:List D}:dR κ.S cs l→aY κ (.agg cs.toArray) (.agg l)
  | nil (sz:Nat):aY κ (.slice none 0 0) (.nil sz)
  | osl {v:Value} {t:Nat} {e:TypeId} {sz:Nat} {l:List (List D)}:κ.o t=some ⟨e,sz,v⟩→eO κ.S v (.sl sz l)→aY κ v (.osl t e sz l)
  | ptr (n off:Nat):aY κ (.pointer (some ⟨κ.m n,off,none⟩)) (.ptr n off)
  | msl {n sz o len cap:Nat}:len≤cap→cap≤maxLen→aY κ (.slice (some ⟨κ.m n,o * sz,none⟩) len cap) (.msl n sz o len cap)
  | rp {b off:Nat} {vs:List Value} {l:List D}:vs <+: (κ.S b).drop off→dR κ.S vs l→aY κ (.pointer (some ⟨b,off,none⟩)) (.rp l)
  | np:aY κ (.pointer none) .np
  | fn {f:FuncId} {cs:List Value} {l:List V}:f<MVB→bR κ cs l→aY κ (.func (.func f) #[] cs.toArray) (.fn f l)
  | fnm {f:FuncId} {cs:List Value} {l:List V}:bR κ cs l→aY κ (.func (.func f) cs.toArray #[]) (.fn (mvc f) l)
  | tup {cs:List Value} {l:List V}:bR κ cs l→aY κ (.tuple cs.toArray) (.tup l)
  | agv {cs:List Value} {l:List V}:bR κ cs l→aY κ (.agg cs.toArray) (.agv l)
  | bp0 {n:Nat} {U:TypeId}:κ.ty n=U→aY κ (.pointer none) (.bp n U)
  | bp1 {n:Nat} {U:TypeId}:κ.ty n=U→aY κ (.pointer (some ⟨κ.m n,0,none⟩)) (.bp n U)
  | yes {v:Value} {x:V}:aY κ v x→aY κ v (.ite true x)
  | no {x:V}:aY κ undef (.ite false x)
  | tre {n:Nat} {p:Option Addr} {len cap:Nat}:κ.hv n=.slice p len cap→aY κ (.slice p len cap) (.tre n)
  | trp (n sz i off:Nat):aY κ (.pointer (some ⟨κ.m n,i * sz+off,none⟩)) (.trp n sz i off)
inductive bR (κ:Ctx):List Value→List V→Prop
  | nil:bR κ [] []
  | cons {v:Value} {x:V} {vs:List Value} {xs:List V}:aY κ v x→bR κ vs xs→bR κ (v::vs) (x::xs)
end
mutual
def V.fits (κ κ':Ctx):V→Prop
  | .ptr n _=>κ'.mt n=κ.mt n
  | .msl n _ _ _ _=>κ'.mt n=κ.mt n
  | .osl t _ _ _=>κ'.o t=κ.o t
  | .fn _ l=>V.fitss κ κ' l
  | .tup l=>V.fitss κ κ' l
  | .agv l=>V.fitss κ κ' l
  | .bp n _=>κ'.mt n=κ.mt n
  | .tre n=>κ'.mt n=κ.mt n
  | .trp n _ _ _=>κ'.mt n=κ.mt n
  | .ite _ v=>v.fits κ κ'
  | _=>True
def V.fitss (κ κ':Ctx):List V→Prop
  | []=>True
  | v::l=>v.fits κ κ'∧V.fitss κ κ' l
end
mutual
theorem aY.move {κ κ':Ctx} (hS:κ.S.le κ'.S):∀ {v:Value} {x:V},aY κ v x→x.fits κ κ'→aY κ' v x
  | _,_,.top v,_=>.top v
  | _,_,.und,_=>.und
  | _,_,.d h,_=>.d (h.mono hS)
  | _,_,.agg h,_=>.agg (h.mono hS)
  | _,_,.nil sz,_=>.nil sz
  | _,_,.osl (t:=t) h1 h2,hf=>by
      have e:κ'.o t=κ.o t:=hf
      exact .osl (e.trans h1) (h2.mono hS)
  | _,_,.ptr n off,hf=>by
      have h:=aY.ptr (κ:=κ') n off
      have e:κ'.m n=κ.m n:=congrArg QA hf
      rwa [e] at h
  | _,_,.msl (n:=n) (sz:=sz) (o:=o) h1 h2,hf=>by
      have h:=aY.msl (κ:=κ') (n:=n) (sz:=sz) (o:=o) h1 h2
      have e:κ'.m n=κ.m n:=congrArg QA hf
      rwa [e] at h
  | _,_,.rp h1 h2,_=>.rp (h1.trans (aI4 (hS _) _)) (h2.mono hS)
  | _,_,.np,_=>.np
  | _,_,.fn k h,hf=>.fn k (bR.move hS h hf)
  | _,_,.fnm h,hf=>.fnm (bR.move hS h hf)
  | _,_,.tup h,hf=>.tup (bR.move hS h hf)
  | _,_,.agv h,hf=>.agv (bR.move hS h hf)
  | _,_,.bp0 h,hf=>.bp0 (by rw [show κ'.ty _=κ.ty _ from congrArg (fun p=>p.2.1) hf]; exact h)
  | _,_,.bp1 (n:=n) (U:=U) h,hf=>by
    have k:=aY.bp1 (κ:=κ') (n:=n) (U:=U) (by rw [show κ'.ty n=κ.ty n from congrArg (fun p=>p.2.1) hf]; exact h)
    rw [show κ'.m n=κ.m n from congrArg QA hf] at k
    exact k
  | _,_,.yes h,hf=>.yes (aY.move hS h hf)
  | _,_,.no,_=>.no
  | _,_,.tre h,hf=>.tre ((congrArg (fun p=>p.2.2) hf:κ'.hv _=κ.hv _).trans h)
  | _,_,.trp n sz i off,hf=>by
    have h:=aY.trp (κ:=κ') n sz i off
    rw [show κ'.m n=κ.m n from congrArg QA hf] at h
    exact h
theorem bR.move {κ κ':Ctx} (hS:κ.S.le κ'.S):∀ {v:List Value} {x:List V},bR κ v x→V.fitss κ κ' x→bR κ' v x
  | _,_,.nil,_=>.nil
  | _,_,.cons h t,hf=>.cons (aY.move hS h hf.1) (bR.move hS t hf.2)
end
section
variable {κ:Ctx}
theorem bR.length {vs:List Value} {xs:List V} (h:bR κ vs xs):vs.length=xs.length:=by
  induction xs generalizing vs with
  | nil=>cases h; rfl
  | cons x xs ih=>cases h with | cons _ t=>simp [ih t]
theorem bR.append {vs us:List Value} {xs ys:List V} (h:bR κ vs xs) (k:bR κ us ys):bR κ (vs++us) (xs++ys):=by
  induction xs generalizing vs with
  | nil=>cases h; exact k
  | cons x xs ih=>cases h with | cons a t=>exact .cons a (ih t)
theorem bR.get {vs:List Value} {xs:List V} (h:bR κ vs xs) {n:Nat} {x:V} (hx:xs[n]?=some x):∃ v,vs[n]?=some v∧aY κ v x:=by
  induction n generalizing vs xs with
  | zero=>cases h with | nil=>simp at hx | cons a t=>simp at hx; exact ⟨_,rfl,hx ▸ a⟩
  | succ n ih=>cases h with | nil=>simp at hx | cons a t=>simpa using ih t (by simpa using hx)
theorem bR.set {vs:List Value} {xs:List V} (h:bR κ vs xs) (n:Nat) {v:Value} {x:V} (hv:aY κ v x):bR κ (vs.set n v) (xs.set n x):=by
  induction n generalizing vs xs with
  | zero=>cases h with | nil=>exact .nil | cons a t=>exact .cons hv t
  | succ n ih=>cases h with | nil=>exact .nil | cons a t=>exact .cons a (ih t)
theorem bR.drop {vs:List Value} {xs:List V} (h:bR κ vs xs) (n:Nat):bR κ (vs.drop n) (xs.drop n):=by
  induction n generalizing vs xs with
  | zero=>simpa using h
  | succ n ih=>cases h with | nil=>exact .nil | cons _ t=>exact ih t
theorem bR.take {vs:List Value} {xs:List V} (h:bR κ vs xs) (n:Nat):bR κ (vs.take n) (xs.take n):=by
  induction n generalizing vs xs with
  | zero=>simpa using bR.nil
  | succ n ih=>cases h with | nil=>exact .nil | cons a t=>exact .cons a (ih t)
end
def V.asD:V→Option D
  | .d x=>some x
  | .osl _ _ sz l=>some (.sl sz l)
  | .nil sz=>some (.sl sz [])
  | _=>none
theorem aY.asD {κ:Ctx} {v:Value} {x:V} {y:D} (h:aY κ v x) (hx:x.asD=some y):eO κ.S v y:=by
  cases h <;> simp [V.asD] at hx
  · subst hx; assumption
  · subst hx; exact .nil _
  · subst hx; assumption
theorem aY.toD {κ:Ctx} {v:Value} {x:D} (h:aY κ v (.d x)):eO κ.S v x:=by cases h; assumption
theorem aY.toAgg {κ:Ctx} {v:Value} {l:List D} (h:aY κ v (.agg l)):∃ cs:List Value,v=.agg cs.toArray∧dR κ.S cs l:=by cases h; exact ⟨_,rfl,by assumption⟩
theorem aY.toNil {κ:Ctx} {v:Value} {sz:Nat} (h:aY κ v (.nil sz)):v=.slice none 0 0:=by cases h; rfl
theorem aY.toPtr {κ:Ctx} {v:Value} {n off:Nat} (h:aY κ v (.ptr n off)):v=.pointer (some ⟨κ.m n,off,none⟩):=by cases h; rfl
theorem aY.toMsl {κ:Ctx} {v:Value} {n sz o len cap:Nat} (h:aY κ v (.msl n sz o len cap)):v=.slice (some ⟨κ.m n,o * sz,none⟩) len cap∧len≤cap∧cap≤maxLen:=by cases h; exact ⟨rfl,by assumption,by assumption⟩
theorem aY.toRp {κ:Ctx} {v:Value} {l:List D} (h:aY κ v (.rp l)):∃ b off vs,v=.pointer (some ⟨b,off,none⟩)∧vs <+: (κ.S b).drop off∧dR κ.S vs l:=by cases h; exact ⟨_,_,_,rfl,by assumption,by assumption⟩
theorem aY.toFn {κ:Ctx} {v:Value} {f:FuncId} {l:List V} (h:aY κ v (.fn f l)) (hf:f<MVB):∃ cs:List Value,v=.func (.func f) #[] cs.toArray∧bR κ cs l:=by
  cases h with
  | fn _ h=>exact ⟨_,rfl,h⟩
  | fnm h=>exact absurd hf (Nat.not_lt.2 (QB _ _))
theorem aY.toFnm {κ:Ctx} {v:Value} {f:FuncId} {l:List V} (h:aY κ v (.fn (mvc f) l)):∃ cs:List Value,v=.func (.func f) cs.toArray #[]∧bR κ cs l:=by
  generalize hg:mvc f=g at h
  cases h with
  | fn k _=>subst hg; exact absurd k (Nat.not_lt.2 (QB _ _))
  | fnm h =>
    have e:=Nat.add_right_cancel hg
    subst e
    exact ⟨_,rfl,h⟩
theorem aY.anyFn {κ:Ctx} {v:Value} {f:FuncId} {l:List V} (h:aY κ v (.fn f l)):∃ g fs cs,v=.func (.func g) fs cs:=by
  cases h with
  | fn _ _=>exact ⟨_,_,_,rfl⟩
  | fnm _=>exact ⟨_,_,_,rfl⟩
theorem aY.toTup {κ:Ctx} {v:Value} {l:List V} (h:aY κ v (.tup l)):∃ cs:List Value,v=.tuple cs.toArray∧bR κ cs l:=by cases h; exact ⟨_,rfl,by assumption⟩
theorem eO.toB {S:Mem} {v:Value} {x:Bool} (h:eO S v (.b x)):v=.bool x:=by cases h; rfl
theorem eO.toI {S:Mem} {v:Value} {k:IntKind} {n:Int} (h:eO S v (.i k n)):v=.int k n∧k.min≤n∧n≤k.max:=by cases h; exact ⟨rfl,by assumption,by assumption⟩
def V.asDs:List V→Option (List D)
  | []=>some []
  | v::l=>match v.asD,V.asDs l with
    | some x,some xs=>some (x::xs)
    | _,_=>none
theorem bR.asDs {κ:Ctx} {vs:List Value} {xs:List V} {ys:List D} (h:bR κ vs xs) (hx:V.asDs xs=some ys):dR κ.S vs ys:=by
  induction xs generalizing vs ys with
  | nil=>cases h; simp [V.asDs] at hx; subst hx; exact .nil
  | cons x xs ih =>
    cases h with | cons a t =>
    simp only [V.asDs] at hx
    split at hx
    · rename_i p q h1 h2; simp at hx; subst hx; exact .cons (a.asD h1) (ih t h2)
    · simp at hx
def Q3 (l:List V):V :=
  match V.asDs l with
  | some ds=>.agg ds
  | none=>.agv l
theorem aO7 {κ:Ctx} {cs:List Value} {l:List V} (h:bR κ cs l):aY κ (.agg cs.toArray) (Q3 l):=by
  unfold Q3
  split
  · rename_i h1; exact .agg (h.asDs h1)
  · exact .agv h
end Go.Ab
