/- Abstract data and values over the model's memory: definitions,and that what is represented stays represented when memory grows. -/
import Derived.WalkKit
import Derived.Lib.ConvBytes
namespace Go.Ab
open Go Go.RowKit
open _root_.Prod renaming fst→QA
open _root_.Nat renaming not_lt→QB,le_add_left→QC
variable {us:List Value}
inductive D where
 | b (x:Bool)
 | i (k:IntKind) (n:Int)
 | s (x:ByteArray)
 | sl (sz:Nat) (l:List (List D))
 | fn (f:FuncId) (caps:List (List D))
 deriving Inhabited
abbrev Mem:=Nat→List Value
def Mem.le (S S':Mem):Prop:=∀ b,S b <+: S' b
theorem Mem.le_refl (S:Mem):S.le S:=fun _=>List.prefix_refl _
theorem Mem.le_trans {A B C:Mem} (h:A.le B) (k:B.le C):A.le C:=fun b=>(h b).trans (k b)
mutual
inductive dF (S:Mem):Value→D→Prop
 | b (x:Bool):dF S (.bool x) (.b x)
 | i (k:IntKind) (n:Int):k.min≤n→n≤k.max→dF S (.int k n) (.i k n)
 | s (x:ByteArray):x.size≤maxLen→dF S (.string x) (.s x)
 | nil (sz:Nat):dF S (.slice none 0 0) (.sl sz [])
 | emp (a:Addr) (cap sz:Nat):cap≤maxLen→dF S (.slice (some a) 0 cap) (.sl sz [])
 | sl (b off len cap sz:Nat) (l:List (List D)) (vs:List Value):len=l.length→len≤cap→cap≤maxLen→vs.length=len * sz →
  vs <+: (S b).drop off→(∀ e∈l,e.length=sz)→bV S vs l.flatten→dF S (.slice (some ⟨b,off,none⟩) len cap) (.sl sz l)
 | fn (f:FuncId) (cs:List Value) (l:List (List D)):f<1000000→sV S cs l→dF S (.func (.func f) #[] cs.toArray) (.fn f l)
inductive sV (S:Mem):List Value→List (List D)→Prop
 | nil:sV S [] []
 | cons {b off:Nat} {vs:List Value} {x:List D} {cs:List Value} {l:List (List D)}:vs <+: (S b).drop off→bV S vs x→sV S cs l→sV S (.pointer (some ⟨b,off,none⟩)::cs) (x::l)
inductive bV (S:Mem):List Value→List D→Prop
 | nil:bV S [] []
 | cons {v:Value} {x:D} {vs:List Value} {xs:List D}:dF S v x→bV S vs xs→bV S (v::vs) (x::xs)
end
theorem aBx {α:Type} {a b:List α} (h:a <+: b) (n:Nat):a.drop n <+: b.drop n:=by
 obtain ⟨t,rfl⟩:=h;rw [List.drop_append];exact List.prefix_append _ _
mutual
theorem dF.mono {S S':Mem} (hS:S.le S'):∀ {v:Value} {x:D},dF S v x→dF S' v x
 | _,_,.b x=>.b x
 | _,_,.i k n h h'=>.i k n h h'
 | _,_,.s x h=>.s x h
 | _,_,.nil sz=>.nil sz
 | _,_,.emp a cap sz h=>.emp a cap sz h
 | _,_,.sl b off len cap sz l vs h1 h2 h3 h4 h5 h6 h7=>.sl b off len cap sz l vs h1 h2 h3 h4 (h5.trans (aBx (hS b) off)) h6 (bV.mono hS h7)
 | _,_,.fn f cs l h1 h2=>.fn f cs l h1 (sV.mono hS h2)
theorem sV.mono {S S':Mem} (hS:S.le S'):∀ {v:List Value} {x:List (List D)},sV S v x→sV S' v x
 | _,_,.nil=>.nil
 | _,_,.cons (b:=b) (off:=off) h1 h2 h3=>.cons (h1.trans (aBx (hS b) off)) (bV.mono hS h2) (sV.mono hS h3)
theorem bV.mono {S S':Mem} (hS:S.le S'):∀ {v:List Value} {x:List D},bV S v x→bV S' v x
 | _,_,.nil=>.nil
 | _,_,.cons h t=>.cons (dF.mono hS h) (bV.mono hS t)
end
section lists
variable {S:Mem}
theorem bV.length {vs:List Value} {xs:List D} (h:bV S vs xs):vs.length=xs.length:=by
 induction xs generalizing vs with
 | nil=>cases h; rfl
 | cons x xs ih=>cases h with | cons _ t=>simp [ih t]
theorem bV.append {vs:List Value} {xs ys:List D} (h:bV S vs xs) (k:bV S us ys):bV S (vs++us) (xs++ys):=by
 induction xs generalizing vs with
 | nil=>cases h; exact k
 | cons x xs ih=>cases h with | cons a t=>exact .cons a (ih t)
theorem bV.drop {vs:List Value} {xs:List D} (h:bV S vs xs) (n:Nat):bV S (vs.drop n) (xs.drop n):=by
 induction n generalizing vs xs with
 | zero=>simpa using h
 | succ n ih=>cases h with | nil=>exact .nil | cons _ t=>exact ih t
theorem bV.take {vs:List Value} {xs:List D} (h:bV S vs xs) (n:Nat):bV S (vs.take n) (xs.take n):=by
 induction n generalizing vs xs with
 | zero=>simpa using bV.nil
 | succ n ih=>cases h with | nil=>exact .nil | cons a t=>exact .cons a (ih t)
theorem bV.get {vs:List Value} {xs:List D} (h:bV S vs xs) {n:Nat} {x:D} (hx:xs[n]?=some x):∃ v,vs[n]?=some v∧dF S v x:=by
 induction n generalizing vs xs with
 | zero=>cases h with | nil=>simp at hx | cons a t=>simp at hx; exact ⟨_,rfl,hx ▸ a⟩
 | succ n ih=>cases h with | nil=>simp at hx | cons a t=>simpa using ih t (by simpa using hx)
theorem bV.set {vs:List Value} {xs:List D} (h:bV S vs xs) (n:Nat) {v:Value} {x:D} (hv:dF S v x):bV S (vs.set n v) (xs.set n x):=by
 induction n generalizing vs xs with
 | zero=>cases h with | nil=>exact .nil | cons a t=>exact .cons hv t
 | succ n ih=>cases h with | nil=>exact .nil | cons a t=>exact .cons a (ih t)
theorem dF.oneCell {v:Value} {x:D} (h:dF S v x):v.oneCell'=true∧v.cells=#[v]:=by cases h <;> exact ⟨rfl,rfl⟩
theorem bV.oneCell {vs:List Value} {xs:List D} (h:bV S vs xs):∀ u∈vs,u.oneCell'=true:=by
 induction xs generalizing vs with
 | nil=>cases h; simp
 | cons x xs ih=>cases h with | cons a t=>intro u hu; rcases List.mem_cons.1 hu with rfl | hu; exact a.oneCell.1; exact ih t u hu
end lists
abbrev MVB:Nat:=1000000
def mvc (f:Nat):Nat:=f+MVB
def D.flat:D→Bool
 | .sl ..=>false
 | .fn ..=>false
 | _=>true
inductive V where
 | top
 | und
 | d (x:D)
 | agg (l:List D)
 | nil (sz:Nat)
 | osl (t:Nat) (e:TypeId) (sz:Nat) (l:List (List D))
 | ptr (n off:Nat)
 | msl (n sz o len cap:Nat)
 | rp (l:List D)
 | np
 | nf
 | fn (f:FuncId) (caps:List V)
 | tup (l:List V)
 | agv (l:List V)
 | bp (n:Nat) (U:TypeId)
 | ite (c:Bool) (v:V)
 | tre (n:Nat)
 | trp (n sz i off:Nat)
 | trc (sz:Nat) (l:List (List D))
 | tro (sz i:Nat) (l:List (List D))
 | trd
 | trs (sz:Nat) (l:List (List D))
 deriving Inhabited
structure Own where
 e:TypeId
 sz:Nat
 v:Value
structure Ctx where
 S:Mem
 mt:Nat→Nat×TypeId×Value
 o:Nat→Option Own
 bl:Nat→List Nat
abbrev Ctx.m (κ:Ctx) (n:Nat):Nat:=(κ.mt n).1
abbrev Ctx.ty (κ:Ctx) (n:Nat):TypeId:=(κ.mt n).2.1
abbrev Ctx.hv (κ:Ctx) (n:Nat):Value:=(κ.mt n).2.2
theorem Ctx.mm {κ κ':Ctx} {n k:Nat} (h:κ'.mt n=κ.mt k):κ'.m n=κ.m k:=congrArg QA h
def V.one:V→Bool
 | .d _ | .nil _ | .osl .. | .ptr .. | .np | .nf | .bp .. | .rp _ | .fn .. | .msl .. | .trp .. | .tre _=>true
 | _=>false
def V.mark:V→Bool
 | .trc .. | .trs .. | .tro .. | .trd=>true
 | _=>false
mutual
def V.still:V→Bool
 | .osl ..=>false
 | .fn _ l=>V.stills l
 | .tup l=>V.stills l
 | .agv l=>V.stills l
 | .ite _ v=>v.still
 | _=>true
def V.stills:List V→Bool
 | []=>true
 | v::l=>v.still&&V.stills l
end
mutual
inductive aY (κ:Ctx):Value→V→Prop
 | top (v:Value):aY κ v .top
 | und:aY κ undef .und
 | d {v:Value} {x:D}:dF κ.S v x→aY κ v (.d x)
 | agg {cs:List Value} {l:List D}:bV κ.S cs l→aY κ (.agg cs.toArray) (.agg l)
 | nil (sz:Nat):aY κ (.slice none 0 0) (.nil sz)
 | osl {v:Value} {t:Nat} {e:TypeId} {sz:Nat} {l:List (List D)}:κ.o t=some ⟨e,sz,v⟩→dF κ.S v (.sl sz l)→aY κ v (.osl t e sz l)
 | ptr (n off:Nat):aY κ (.pointer (some ⟨κ.m n,off,none⟩)) (.ptr n off)
 | msl {n sz o len cap:Nat}:len≤cap→cap≤maxLen→aY κ (.slice (some ⟨κ.m n,o * sz,none⟩) len cap) (.msl n sz o len cap)
 | rp {b off:Nat} {vs:List Value} {l:List D}:vs <+: (κ.S b).drop off→bV κ.S vs l→aY κ (.pointer (some ⟨b,off,none⟩)) (.rp l)
 | np:aY κ (.pointer none) .np
 | nf:aY κ .nilFunc .nf
 | fn {f:FuncId} {cs:List Value} {l:List V}:f<MVB→bG κ cs l→aY κ (.func (.func f) #[] cs.toArray) (.fn f l)
 | fnm {f:FuncId} {cs:List Value} {l:List V}:bG κ cs l→aY κ (.func (.func f) cs.toArray #[]) (.fn (mvc f) l)
 | tup {cs:List Value} {l:List V}:bG κ cs l→aY κ (.tuple cs.toArray) (.tup l)
 | agv {cs:List Value} {l:List V}:bG κ cs l→aY κ (.agg cs.toArray) (.agv l)
 | bp0 {n:Nat} {U:TypeId}:κ.ty n=U→aY κ (.pointer none) (.bp n U)
 | bp1 {n:Nat} {U:TypeId}:κ.ty n=U→aY κ (.pointer (some ⟨κ.m n,0,none⟩)) (.bp n U)
 | yes {v:Value} {x:V}:aY κ v x→aY κ v (.ite true x)
 | no {x:V}:aY κ undef (.ite false x)
 | tre {n:Nat} {p:Option Addr} {len cap:Nat}:κ.hv n=.slice p len cap→aY κ (.slice p len cap) (.tre n)
 | trp (n sz i off:Nat):aY κ (.pointer (some ⟨κ.m n,i * sz+off,none⟩)) (.trp n sz i off)
inductive bG (κ:Ctx):List Value→List V→Prop
 | nil:bG κ [] []
 | cons {v:Value} {x:V} {vs:List Value} {xs:List V}:aY κ v x→bG κ vs xs→bG κ (v::vs) (x::xs)
end
mutual
def V.fits (κ κ':Ctx):V→Prop
 | .ptr n _=>κ'.mt n=κ.mt n
 | .msl n _ _ _ _=>κ'.mt n=κ.mt n
 | .osl t _ _ _=>κ'.o t=κ.o t
 | .fn _ l=>V.fitss κ κ' l
 | .tup l=>V.fitss κ κ' l
 | .agv l=>V.fitss κ κ' l
 | .bp n _=>κ'.mt n=κ.mt n
 | .tre n=>κ'.mt n=κ.mt n
 | .trp n _ _ _=>κ'.mt n=κ.mt n
 | .ite _ v=>v.fits κ κ'
 | _=>True
def V.fitss (κ κ':Ctx):List V→Prop
 | []=>True
 | v::l=>v.fits κ κ'∧V.fitss κ κ' l
end
mutual
theorem aY.move {κ κ':Ctx} (hS:κ.S.le κ'.S):∀ {v:Value} {x:V},aY κ v x→x.fits κ κ'→aY κ' v x
 | _,_,.top v,_=>.top v
 | _,_,.und,_=>.und
 | _,_,.d h,_=>.d (h.mono hS)
 | _,_,.agg h,_=>.agg (h.mono hS)
 | _,_,.nil sz,_=>.nil sz
 | _,_,.osl (t:=t) h1 h2,hf=>by
   have e:κ'.o t=κ.o t:=hf;exact .osl (e.trans h1) (h2.mono hS)
 | _,_,.ptr n off,hf=>by
   have h:=aY.ptr (κ:=κ') n off;have e:κ'.m n=κ.m n:=congrArg QA hf
   rwa [e] at h
 | _,_,.msl (n:=n) (sz:=sz) (o:=o) h1 h2,hf=>by
   have h:=aY.msl (κ:=κ') (n:=n) (sz:=sz) (o:=o) h1 h2;have e:κ'.m n=κ.m n:=congrArg QA hf
   rwa [e] at h
 | _,_,.rp h1 h2,_=>.rp (h1.trans (aBx (hS _) _)) (h2.mono hS)
 | _,_,.np,_=>.np
 | _,_,.nf,_=>.nf
 | _,_,.fn k h,hf=>.fn k (bG.move hS h hf)
 | _,_,.fnm h,hf=>.fnm (bG.move hS h hf)
 | _,_,.tup h,hf=>.tup (bG.move hS h hf)
 | _,_,.agv h,hf=>.agv (bG.move hS h hf)
 | _,_,.bp0 h,hf=>.bp0 (by rw [show κ'.ty _=κ.ty _ from congrArg (fun p=>p.2.1) hf]; exact h)
 | _,_,.bp1 (n:=n) (U:=U) h,hf=>by
  have k:=aY.bp1 (κ:=κ') (n:=n) (U:=U) (by rw [show κ'.ty n=κ.ty n from congrArg (fun p=>p.2.1) hf]; exact h);rw [show κ'.m n=κ.m n from congrArg QA hf] at k;exact k
 | _,_,.yes h,hf=>.yes (aY.move hS h hf)
 | _,_,.no,_=>.no
 | _,_,.tre h,hf=>.tre ((congrArg (fun p=>p.2.2) hf:κ'.hv _=κ.hv _).trans h)
 | _,_,.trp n sz i off,hf=>by
  have h:=aY.trp (κ:=κ') n sz i off;rw [show κ'.m n=κ.m n from congrArg QA hf] at h;exact h
theorem bG.move {κ κ':Ctx} (hS:κ.S.le κ'.S):∀ {v:List Value} {x:List V},bG κ v x→V.fitss κ κ' x→bG κ' v x
 | _,_,.nil,_=>.nil
 | _,_,.cons h t,hf=>.cons (aY.move hS h hf.1) (bG.move hS t hf.2)
end
section
variable {κ:Ctx}
theorem bG.length {vs:List Value} {xs:List V} (h:bG κ vs xs):vs.length=xs.length:=by
 induction xs generalizing vs with
 | nil=>cases h; rfl
 | cons x xs ih=>cases h with | cons _ t=>simp [ih t]
theorem bG.append {vs:List Value} {xs ys:List V} (h:bG κ vs xs) (k:bG κ us ys):bG κ (vs++us) (xs++ys):=by
 induction xs generalizing vs with
 | nil=>cases h; exact k
 | cons x xs ih=>cases h with | cons a t=>exact .cons a (ih t)
theorem bG.get {vs:List Value} {xs:List V} (h:bG κ vs xs) {n:Nat} {x:V} (hx:xs[n]?=some x):∃ v,vs[n]?=some v∧aY κ v x:=by
 induction n generalizing vs xs with
 | zero=>cases h with | nil=>simp at hx | cons a t=>simp at hx; exact ⟨_,rfl,hx ▸ a⟩
 | succ n ih=>cases h with | nil=>simp at hx | cons a t=>simpa using ih t (by simpa using hx)
theorem bG.set {vs:List Value} {xs:List V} (h:bG κ vs xs) (n:Nat) {v:Value} {x:V} (hv:aY κ v x):bG κ (vs.set n v) (xs.set n x):=by
 induction n generalizing vs xs with
 | zero=>cases h with | nil=>exact .nil | cons a t=>exact .cons hv t
 | succ n ih=>cases h with | nil=>exact .nil | cons a t=>exact .cons a (ih t)
theorem bG.drop {vs:List Value} {xs:List V} (h:bG κ vs xs) (n:Nat):bG κ (vs.drop n) (xs.drop n):=by
 induction n generalizing vs xs with
 | zero=>simpa using h
 | succ n ih=>cases h with | nil=>exact .nil | cons _ t=>exact ih t
theorem bG.take {vs:List Value} {xs:List V} (h:bG κ vs xs) (n:Nat):bG κ (vs.take n) (xs.take n):=by
 induction n generalizing vs xs with
 | zero=>simpa using bG.nil
 | succ n ih=>cases h with | nil=>exact .nil | cons a t=>exact .cons a (ih t)
end
def V.rps:List V→Option (List (List D))
 | []=>some []
 | .rp x::l=>(V.rps l).map (x::·)
 | _=>none
theorem bG.rps {κ:Ctx}:∀ {cs:List Value} {l:List V} {y:List (List D)},bG κ cs l→V.rps l=some y→sV κ.S cs y
 | _,[],_,h,e=>by cases h; simp [V.rps] at e; subst e; exact .nil
 | _,x::l,_,.cons h t,e=>by
  cases x <;> simp [V.rps] at e;obtain ⟨z,e,rfl⟩:=e;cases h with | rp h1 h2=>exact .cons h1 h2 (bG.rps t e)
def V.asD:V→Option D
 | .d x=>some x
 | .osl _ _ sz l=>some (.sl sz l)
 | .nil sz=>some (.sl sz [])
 | .fn f (x::l)=>if f<MVB then (V.rps (x::l)).map (.fn f) else none
 | _=>none
theorem aY.asD {κ:Ctx} {v:Value} {x:V} {y:D} (h:aY κ v x) (hx:x.asD=some y):dF κ.S v y:=by
 cases h <;> simp [V.asD] at hx
 ·subst hx; assumption
 ·subst hx; exact .nil _
 ·subst hx; assumption
 ·rename_i l _ h;cases l with
  | nil=>simp at hx
  | cons x l =>
   simp at hx;obtain ⟨hf,z,e,rfl⟩:=hx;exact .fn _ _ _ hf (h.rps e)
 ·rename_i l _;cases l with
  | nil=>simp at hx
  | cons x l=>simp at hx; exact absurd hx.1 (QB.2 (QC _ _))
def V.fnd:V→V
 | .fn f l=>match (V.fn f l).asD with
  | some x=>.d x
  | none=>.fn f l
 | v=>v
theorem aY.fnd {κ:Ctx} {v:Value} {x:V} (h:aY κ v x):aY κ v x.fnd:=by
 unfold V.fnd;split
 ·split
  ·rename_i hx; exact .d (h.asD hx)
  ·exact h
 ·exact h
def V.vw:V→V
 | .d (.fn f l)=>.fn f (l.map .rp)
 | v=>v
theorem sV.rp {κ:Ctx}:∀ {cs:List Value} {l:List (List D)},sV κ.S cs l→bG κ cs (l.map .rp)
 | _,_,.nil=>.nil
 | _,_,.cons h1 h2 h3=>.cons (.rp h1 h2) (sV.rp h3)
theorem aY.vw {κ:Ctx} {v:Value} {x:V} (h:aY κ v x):aY κ v x.vw:=by
 unfold V.vw;split
 ·cases h with | d h=>cases h with | fn _ _ _ h1 h2=>exact .fn h1 h2.rp
 ·exact h
theorem aY.toD {κ:Ctx} {v:Value} {x:D} (h:aY κ v (.d x)):dF κ.S v x:=by cases h; assumption
theorem aY.toAgg {κ:Ctx} {v:Value} {l:List D} (h:aY κ v (.agg l)):∃ cs:List Value,v=.agg cs.toArray∧bV κ.S cs l:=by cases h; exact ⟨_,rfl,by assumption⟩
theorem aY.toNil {κ:Ctx} {v:Value} {sz:Nat} (h:aY κ v (.nil sz)):v=.slice none 0 0:=by cases h; rfl
theorem aY.toPtr {κ:Ctx} {v:Value} {n off:Nat} (h:aY κ v (.ptr n off)):v=.pointer (some ⟨κ.m n,off,none⟩):=by cases h; rfl
theorem aY.toMsl {κ:Ctx} {v:Value} {n sz o len cap:Nat} (h:aY κ v (.msl n sz o len cap)):v=.slice (some ⟨κ.m n,o * sz,none⟩) len cap∧len≤cap∧cap≤maxLen:=by cases h; exact ⟨rfl,by assumption,by assumption⟩
theorem aY.toRp {κ:Ctx} {v:Value} {l:List D} (h:aY κ v (.rp l)):∃ b off vs,v=.pointer (some ⟨b,off,none⟩)∧vs <+: (κ.S b).drop off∧bV κ.S vs l:=by cases h; exact ⟨_,_,_,rfl,by assumption,by assumption⟩
theorem aY.toFn {κ:Ctx} {v:Value} {f:FuncId} {l:List V} (h:aY κ v (.fn f l)) (hf:f<MVB):∃ cs:List Value,v=.func (.func f) #[] cs.toArray∧bG κ cs l:=by
 cases h with
 | fn _ h=>exact ⟨_,rfl,h⟩
 | fnm h=>exact absurd hf (QB.2 (QC _ _))
theorem aY.toFnm {κ:Ctx} {v:Value} {f:FuncId} {l:List V} (h:aY κ v (.fn (mvc f) l)):∃ cs:List Value,v=.func (.func f) cs.toArray #[]∧bG κ cs l:=by
 generalize hg:mvc f=g at h;cases h with
 | fn k _=>subst hg; exact absurd k (QB.2 (QC _ _))
 | fnm h =>
  have e:=Nat.add_right_cancel hg;subst e;exact ⟨_,rfl,h⟩
theorem aY.anyFn {κ:Ctx} {v:Value} {f:FuncId} {l:List V} (h:aY κ v (.fn f l)):∃ g fs cs,v=.func (.func g) fs cs:=by
 cases h with
 | fn _ _=>exact ⟨_,_,_,rfl⟩
 | fnm _=>exact ⟨_,_,_,rfl⟩
theorem aY.toTup {κ:Ctx} {v:Value} {l:List V} (h:aY κ v (.tup l)):∃ cs:List Value,v=.tuple cs.toArray∧bG κ cs l:=by cases h; exact ⟨_,rfl,by assumption⟩
theorem dF.toB {S:Mem} {v:Value} {x:Bool} (h:dF S v (.b x)):v=.bool x:=by cases h; rfl
theorem dF.toI {S:Mem} {v:Value} {k:IntKind} {n:Int} (h:dF S v (.i k n)):v=.int k n∧k.min≤n∧n≤k.max:=by cases h; exact ⟨rfl,by assumption,by assumption⟩
def V.asDs:List V→Option (List D)
 | []=>some []
 | v::l=>match v.asD,V.asDs l with
  | some x,some xs=>some (x::xs)
  | _,_=>none
theorem bG.asDs {κ:Ctx} {vs:List Value} {xs:List V} {ys:List D} (h:bG κ vs xs) (hx:V.asDs xs=some ys):bV κ.S vs ys:=by
 induction xs generalizing vs ys with
 | nil=>cases h; simp [V.asDs] at hx; subst hx; exact .nil
 | cons x xs ih =>
  cases h with | cons a t =>
  simp only [V.asDs] at hx;split at hx
  ·rename_i p q h1 h2; simp at hx; subst hx; exact .cons (a.asD h1) (ih t h2)
  ·simp at hx
def zZ (l:List V):V :=
 match V.asDs l with
 | some ds=>.agg ds
 | none=>.agv l
theorem aQ0 {κ:Ctx} {cs:List Value} {l:List V} (h:bG κ cs l):aY κ (.agg cs.toArray) (zZ l):=by
 unfold zZ;split
 ·rename_i h1; exact .agg (h.asDs h1)
 ·exact .agv h
end Go.Ab
