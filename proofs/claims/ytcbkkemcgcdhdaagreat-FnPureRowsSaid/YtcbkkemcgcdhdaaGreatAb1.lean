/- Abstract data and values over the model's memory: definitions,and that what is represented stays represented when memory grows. -/
import Derived.WalkKit
import Derived.Lib.ConvBytes
namespace Go.Ab
open Go Go.RowKit
open _root_.Prod renaming fst→QA
open _root_.Nat renaming not_lt→QB,le_add_left→QC
inductive D where
  | b (x:Bool)
  | i (k:IntKind) (n:Int)
  | s (x:ByteArray)
  | sl (sz:Nat) (l:List (List D))
  | fn (f:FuncId) (caps:List (List D))
  | rw (v:Value) (x:D)
  deriving Inhabited
abbrev Mem:=Nat→List Value
def Mem.le (S S':Mem):Prop:=∀ b,S b <+: S' b
theorem Mem.le_refl (S:Mem):S.le S:=fun _=>List.prefix_refl _
theorem Mem.le_trans {A B C:Mem} (h:A.le B) (k:B.le C):A.le C:=fun b=>(h b).trans (k b)
mutual
inductive bR (S:Mem):Value→D→Prop
  | b (x:Bool):bR S (.bool x) (.b x)
  | i (k:IntKind) (n:Int):k.min≤n→n≤k.max→bR S (.int k n) (.i k n)
  | s (x:ByteArray):x.size≤maxLen→bR S (.string x) (.s x)
  | nil (sz:Nat):bR S (.slice none 0 0) (.sl sz [])
  | emp (a:Addr) (cap sz:Nat):cap≤maxLen→bR S (.slice (some a) 0 cap) (.sl sz [])
  | sl (b off len cap sz:Nat) (l:List (List D)) (vs:List Value):len=l.length→len≤cap→cap≤maxLen→vs.length=len * sz →
      vs <+: (S b).drop off→(∀ e∈l,e.length=sz)→bP S vs l.flatten→bR S (.slice (some ⟨b,off,none⟩) len cap) (.sl sz l)
  | fn (f:FuncId) (cs:List Value) (l:List (List D)):f<1000000→uJ S cs l→bR S (.func (.func f) #[] cs.toArray) (.fn f l)
  | rw {v:Value} {x:D}:bR S v x→bR S v (.rw v x)
inductive uJ (S:Mem):List Value→List (List D)→Prop
  | nil:uJ S [] []
  | cons {b off:Nat} {vs:List Value} {x:List D} {cs:List Value} {l:List (List D)}:vs <+: (S b).drop off→bP S vs x→uJ S cs l→uJ S (.pointer (some ⟨b,off,none⟩)::cs) (x::l)
inductive bP (S:Mem):List Value→List D→Prop
  | nil:bP S [] []
  | cons {v:Value} {x:D} {vs:List Value} {xs:List D}:bR S v x→bP S vs xs→bP S (v::vs) (x::xs)
end
theorem aC0 {α:Type} {a b:List α} (h:a <+: b) (n:Nat):a.drop n <+: b.drop n:=by
  obtain ⟨t,rfl⟩:=h
  rw [List.drop_append]
  exact List.prefix_append _ _
mutual
theorem bR.mono {S S':Mem} (hS:S.le S'):∀ {v:Value} {x:D},bR S v x→bR S' v x
  | _,_,.b x=>.b x
  | _,_,.i k n h h'=>.i k n h h'
  | _,_,.s x h=>.s x h
  | _,_,.nil sz=>.nil sz
  | _,_,.emp a cap sz h=>.emp a cap sz h
  | _,_,.sl b off len cap sz l vs h1 h2 h3 h4 h5 h6 h7=>.sl b off len cap sz l vs h1 h2 h3 h4 (h5.trans (aC0 (hS b) off)) h6 (bP.mono hS h7)
  | _,_,.fn f cs l h1 h2=>.fn f cs l h1 (uJ.mono hS h2)
  | _,_,.rw h=>.rw (bR.mono hS h)
theorem uJ.mono {S S':Mem} (hS:S.le S'):∀ {v:List Value} {x:List (List D)},uJ S v x→uJ S' v x
  | _,_,.nil=>.nil
  | _,_,.cons (b:=b) (off:=off) h1 h2 h3=>.cons (h1.trans (aC0 (hS b) off)) (bP.mono hS h2) (uJ.mono hS h3)
theorem bP.mono {S S':Mem} (hS:S.le S'):∀ {v:List Value} {x:List D},bP S v x→bP S' v x
  | _,_,.nil=>.nil
  | _,_,.cons h t=>.cons (bR.mono hS h) (bP.mono hS t)
end
section lists
variable {S:Mem}
theorem bP.length {vs:List Value} {xs:List D} (h:bP S vs xs):vs.length=xs.length:=by
  induction xs generalizing vs with
  | nil=>cases h; rfl
  | cons x xs ih=>cases h with | cons _ t=>simp [ih t]
theorem bP.append {vs us:List Value} {xs ys:List D} (h:bP S vs xs) (k:bP S us ys):bP S (vs++us) (xs++ys):=by
  induction xs generalizing vs with
  | nil=>cases h; exact k
  | cons x xs ih=>cases h with | cons a t=>exact .cons a (ih t)
theorem bP.drop {vs:List Value} {xs:List D} (h:bP S vs xs) (n:Nat):bP S (vs.drop n) (xs.drop n):=by
  induction n generalizing vs xs with
  | zero=>simpa using h
  | succ n ih=>cases h with | nil=>exact .nil | cons _ t=>exact ih t
theorem bP.take {vs:List Value} {xs:List D} (h:bP S vs xs) (n:Nat):bP S (vs.take n) (xs.take n):=by
  induction n generalizing vs xs with
  | zero=>simpa using bP.nil
  | succ n ih=>cases h with | nil=>exact .nil | cons a t=>exact .cons a (ih t)
theorem bP.get {vs:List Value} {xs:List D} (h:bP S vs xs) {n:Nat} {x:D} (hx:xs[n]?=some x):∃ v,vs[n]?=some v∧bR S v x:=by
  induction n generalizing vs xs with
  | zero=>cases h with | nil=>simp at hx | cons a t=>simp at hx; exact ⟨_,rfl,hx ▸ a⟩
  | succ n ih=>cases h with | nil=>simp at hx | cons a t=>simpa using ih t (by simpa using hx)
theorem bP.set {vs:List Value} {xs:List D} (h:bP S vs xs) (n:Nat) {v:Value} {x:D} (hv:bR S v x):bP S (vs.set n v) (xs.set n x):=by
  induction n generalizing vs xs with
  | zero=>cases h with | nil=>exact .nil | cons a t=>exact .cons hv t
  | succ n ih=>cases h with | nil=>exact .nil | cons a t=>exact .cons a (ih t)
theorem bR.oneCell {v:Value}:∀ {x:D},bR S v x→v.oneCell'=true∧v.cells=#[v]
  | .rw _ _,.rw h=>bR.oneCell h
  | .b _,.b _ | .i _ _,.i _ _ _ _ | .s _,.s _ _ | .sl _ _,.nil _ | .sl _ _,.emp _ _ _ _ | .sl _ _,.sl .. | .fn _ _,.fn ..=>⟨rfl,rfl⟩
theorem bR.noAgg {v:Value}:∀ {x:D},bR S v x→(∀ c,v≠.agg c)∧v≠.nilIface
  | .rw _ _,.rw h=>bR.noAgg h
  | .b _,.b _ | .i _ _,.i _ _ _ _ | .s _,.s _ _ | .sl _ _,.nil _ | .sl _ _,.emp _ _ _ _ | .sl _ _,.sl .. | .fn _ _,.fn ..=>⟨by simp,by simp⟩
theorem bP.oneCell {vs:List Value} {xs:List D} (h:bP S vs xs):∀ u∈vs,u.oneCell'=true:=by
  induction xs generalizing vs with
  | nil=>cases h; simp
  | cons x xs ih=>cases h with | cons a t=>intro u hu; rcases List.mem_cons.1 hu with rfl | hu; exact a.oneCell.1; exact ih t u hu
end lists
abbrev MVB:Nat:=1000000
def mvc (f:Nat):Nat:=f+MVB
def D.flat:D→Bool
  | .sl ..=>false
  | .fn ..=>false
  | .rw ..=>false
  | _=>true
inductive V where
  | top
  | und
  | d (x:D)
  | agg (l:List D)
  | nil (sz:Nat)
  | osl (t:Nat) (e:TypeId) (sz:Nat) (l:List (List D))
  | ptr (n off:Nat)
  | msl (n sz o len cap:Nat)
  | rp (l:List D)
  | np
  | nf
  | fn (f:FuncId) (caps:List V)
  | tup (l:List V)
  | agv (l:List V)
  | bp (n:Nat) (U:TypeId)
  | ite (c:Bool) (v:V)
  | tre (n:Nat)
  | trp (n sz i off:Nat)
  | trc (sz:Nat) (l:List (List D))
  | tro (sz i:Nat) (l:List (List D))
  | trd
  | trs (sz:Nat) (l:List (List D))
  deriving Inhabited
structure Own where
  e:TypeId
  sz:Nat
  v:Value
structure Ctx where
  S:Mem
  mt:Nat→Nat×TypeId×Value
  o:Nat→Option Own
  bl:Nat→List Nat
abbrev Ctx.m (κ:Ctx) (n:Nat):Nat:=(κ.mt n).1
abbrev Ctx.ty (κ:Ctx) (n:Nat):TypeId:=(κ.mt n).2.1
abbrev Ctx.hv (κ:Ctx) (n:Nat):Value:=(κ.mt n).2.2
theorem Ctx.mm {κ κ':Ctx} {n k:Nat} (h:κ'.mt n=κ.mt k):κ'.m n=κ.m k:=congrArg QA h
def V.one:V→Bool
  | .d _ | .nil _ | .osl .. | .ptr .. | .np | .nf | .bp .. | .rp _ | .fn .. | .msl .. | .trp .. | .tre _=>true
  | _=>false
def V.mark:V→Bool
  | .trc .. | .trs .. | .tro .. | .trd=>true
  | _=>false
mutual
def V.still:V→Bool
  | .osl ..=>false
  | .fn _ l=>V.stills l
  | .tup l=>V.stills l
  | .agv l=>V.stills l
  | .ite _ v=>v.still
  | _=>true
def V.stills:List V→Bool
  | []=>true
  | v::l=>v.still&&V.stills l
end
mutual
inductive aR (κ:Ctx):Value→V→Prop
  | top (v:Value):aR κ v .top
  | und:aR κ undef .und
  | d {v:Value} {x:D}:bR κ.S v x→aR κ v (.d x)
  | agg {cs:List Value} {l:List D}:bP κ.S cs l→aR κ (.agg cs.toArray) (.agg l)
  | nil (sz:Nat):aR κ (.slice none 0 0) (.nil sz)
  | osl {v:Value} {t:Nat} {e:TypeId} {sz:Nat} {l:List (List D)}:κ.o t=some ⟨e,sz,v⟩→bR κ.S v (.sl sz l)→aR κ v (.osl t e sz l)
  | ptr (n off:Nat):aR κ (.pointer (some ⟨κ.m n,off,none⟩)) (.ptr n off)
  | msl {n sz o len cap:Nat}:len≤cap→cap≤maxLen→aR κ (.slice (some ⟨κ.m n,o * sz,none⟩) len cap) (.msl n sz o len cap)
  | rp {b off:Nat} {vs:List Value} {l:List D}:vs <+: (κ.S b).drop off→bP κ.S vs l→aR κ (.pointer (some ⟨b,off,none⟩)) (.rp l)
  | np:aR κ (.pointer none) .np
  | nf:aR κ .nilFunc .nf
  | fn {f:FuncId} {cs:List Value} {l:List V}:f<MVB→aZ κ cs l→aR κ (.func (.func f) #[] cs.toArray) (.fn f l)
  | fnm {f:FuncId} {cs:List Value} {l:List V}:aZ κ cs l→aR κ (.func (.func f) cs.toArray #[]) (.fn (mvc f) l)
  | tup {cs:List Value} {l:List V}:aZ κ cs l→aR κ (.tuple cs.toArray) (.tup l)
  | agv {cs:List Value} {l:List V}:aZ κ cs l→aR κ (.agg cs.toArray) (.agv l)
  | bp0 {n:Nat} {U:TypeId}:κ.ty n=U→aR κ (.pointer none) (.bp n U)
  | bp1 {n:Nat} {U:TypeId}:κ.ty n=U→aR κ (.pointer (some ⟨κ.m n,0,none⟩)) (.bp n U)
  | yes {v:Value} {x:V}:aR κ v x→aR κ v (.ite true x)
  | no {x:V}:aR κ undef (.ite false x)
  | tre {n:Nat} {p:Option Addr} {len cap:Nat}:κ.hv n=.slice p len cap→aR κ (.slice p len cap) (.tre n)
  | trp (n sz i off:Nat):aR κ (.pointer (some ⟨κ.m n,i * sz+off,none⟩)) (.trp n sz i off)
inductive aZ (κ:Ctx):List Value→List V→Prop
  | nil:aZ κ [] []
  | cons {v:Value} {x:V} {vs:List Value} {xs:List V}:aR κ v x→aZ κ vs xs→aZ κ (v::vs) (x::xs)
end
mutual
def V.fits (κ κ':Ctx):V→Prop
  | .ptr n _=>κ'.mt n=κ.mt n
  | .msl n _ _ _ _=>κ'.mt n=κ.mt n
  | .osl t _ _ _=>κ'.o t=κ.o t
  | .fn _ l=>V.fitss κ κ' l
  | .tup l=>V.fitss κ κ' l
  | .agv l=>V.fitss κ κ' l
  | .bp n _=>κ'.mt n=κ.mt n
  | .tre n=>κ'.mt n=κ.mt n
  | .trp n _ _ _=>κ'.mt n=κ.mt n
  | .ite _ v=>v.fits κ κ'
  | _=>True
def V.fitss (κ κ':Ctx):List V→Prop
  | []=>True
  | v::l=>v.fits κ κ'∧V.fitss κ κ' l
end
mutual
theorem aR.move {κ κ':Ctx} (hS:κ.S.le κ'.S):∀ {v:Value} {x:V},aR κ v x→x.fits κ κ'→aR κ' v x
  | _,_,.top v,_=>.top v
  | _,_,.und,_=>.und
  | _,_,.d h,_=>.d (h.mono hS)
  | _,_,.agg h,_=>.agg (h.mono hS)
  | _,_,.nil sz,_=>.nil sz
  | _,_,.osl (t:=t) h1 h2,hf=>by
      have e:κ'.o t=κ.o t:=hf
      exact .osl (e.trans h1) (h2.mono hS)
  | _,_,.ptr n off,hf=>by
      have h:=aR.ptr (κ:=κ') n off
      have e:κ'.m n=κ.m n:=congrArg QA hf
      rwa [e] at h
  | _,_,.msl (n:=n) (sz:=sz) (o:=o) h1 h2,hf=>by
      have h:=aR.msl (κ:=κ') (n:=n) (sz:=sz) (o:=o) h1 h2
      have e:κ'.m n=κ.m n:=congrArg QA hf
      rwa [e] at h
  | _,_,.rp h1 h2,_=>.rp (h1.trans (aC0 (hS _) _)) (h2.mono hS)
  | _,_,.np,_=>.np
  | _,_,.nf,_=>.nf
  | _,_,.fn k h,hf=>.fn k (aZ.move hS h hf)
  | _,_,.fnm h,hf=>.fnm (aZ.move hS h hf)
  | _,_,.tup h,hf=>.tup (aZ.move hS h hf)
  | _,_,.agv h,hf=>.agv (aZ.move hS h hf)
  | _,_,.bp0 h,hf=>.bp0 (by rw [show κ'.ty _=κ.ty _ from congrArg (fun p=>p.2.1) hf]; exact h)
  | _,_,.bp1 (n:=n) (U:=U) h,hf=>by
    have k:=aR.bp1 (κ:=κ') (n:=n) (U:=U) (by rw [show κ'.ty n=κ.ty n from congrArg (fun p=>p.2.1) hf]; exact h)
    rw [show κ'.m n=κ.m n from congrArg QA hf] at k
    exact k
  | _,_,.yes h,hf=>.yes (aR.move hS h hf)
  | _,_,.no,_=>.no
  | _,_,.tre h,hf=>.tre ((congrArg (fun p=>p.2.2) hf:κ'.hv _=κ.hv _).trans h)
  | _,_,.trp n sz i off,hf=>by
    have h:=aR.trp (κ:=κ') n sz i off
    rw [show κ'.m n=κ.m n from congrArg QA hf] at h
    exact h
theorem aZ.move {κ κ':Ctx} (hS:κ.S.le κ'.S):∀ {v:List Value} {x:List V},aZ κ v x→V.fitss κ κ' x→aZ κ' v x
  | _,_,.nil,_=>.nil
  | _,_,.cons h t,hf=>.cons (aR.move hS h hf.1) (aZ.move hS t hf.2)
end
section
variable {κ:Ctx}
theorem aZ.length {vs:List Value} {xs:List V} (h:aZ κ vs xs):vs.length=xs.length:=by
  induction xs generalizing vs with
  | nil=>cases h; rfl
  | cons x xs ih=>cases h with | cons _ t=>simp [ih t]
theorem aZ.append {vs us:List Value} {xs ys:List V} (h:aZ κ vs xs) (k:aZ κ us ys):aZ κ (vs++us) (xs++ys):=by
  induction xs generalizing vs with
  | nil=>cases h; exact k
  | cons x xs ih=>cases h with | cons a t=>exact .cons a (ih t)
theorem aZ.get {vs:List Value} {xs:List V} (h:aZ κ vs xs) {n:Nat} {x:V} (hx:xs[n]?=some x):∃ v,vs[n]?=some v∧aR κ v x:=by
  induction n generalizing vs xs with
  | zero=>cases h with | nil=>simp at hx | cons a t=>simp at hx; exact ⟨_,rfl,hx ▸ a⟩
  | succ n ih=>cases h with | nil=>simp at hx | cons a t=>simpa using ih t (by simpa using hx)
theorem aZ.set {vs:List Value} {xs:List V} (h:aZ κ vs xs) (n:Nat) {v:Value} {x:V} (hv:aR κ v x):aZ κ (vs.set n v) (xs.set n x):=by
  induction n generalizing vs xs with
  | zero=>cases h with | nil=>exact .nil | cons a t=>exact .cons hv t
  | succ n ih=>cases h with | nil=>exact .nil | cons a t=>exact .cons a (ih t)
theorem aZ.drop {vs:List Value} {xs:List V} (h:aZ κ vs xs) (n:Nat):aZ κ (vs.drop n) (xs.drop n):=by
  induction n generalizing vs xs with
  | zero=>simpa using h
  | succ n ih=>cases h with | nil=>exact .nil | cons _ t=>exact ih t
theorem aZ.take {vs:List Value} {xs:List V} (h:aZ κ vs xs) (n:Nat):aZ κ (vs.take n) (xs.take n):=by
  induction n generalizing vs xs with
  | zero=>simpa using aZ.nil
  | succ n ih=>cases h with | nil=>exact .nil | cons a t=>exact .cons a (ih t)
end
def V.rps:List V→Option (List (List D))
  | []=>some []
  | .rp x::l=>(V.rps l).map (x::·)
  | _=>none
theorem aZ.rps {κ:Ctx}:∀ {cs:List Value} {l:List V} {y:List (List D)},aZ κ cs l→V.rps l=some y→uJ κ.S cs y
  | _,[],_,h,e=>by cases h; simp [V.rps] at e; subst e; exact .nil
  | _,x::l,_,.cons h t,e=>by
    cases x <;> simp [V.rps] at e
    obtain ⟨z,e,rfl⟩:=e
    cases h with | rp h1 h2=>exact .cons h1 h2 (aZ.rps t e)
def V.asD:V→Option D
  | .d x=>some x
  | .osl _ _ sz l=>some (.sl sz l)
  | .nil sz=>some (.sl sz [])
  | .fn f (x::l)=>if f<MVB then (V.rps (x::l)).map (.fn f) else none
  | _=>none
theorem aR.asD {κ:Ctx} {v:Value} {x:V} {y:D} (h:aR κ v x) (hx:x.asD=some y):bR κ.S v y:=by
  cases h <;> simp [V.asD] at hx
  · subst hx; assumption
  · subst hx; exact .nil _
  · subst hx; assumption
  · rename_i l _ h
    cases l with
    | nil=>simp at hx
    | cons x l =>
      simp at hx
      obtain ⟨hf,z,e,rfl⟩:=hx
      exact .fn _ _ _ hf (h.rps e)
  · rename_i l _
    cases l with
    | nil=>simp at hx
    | cons x l=>simp at hx; exact absurd hx.1 (QB.2 (QC _ _))
def V.fnd:V→V
  | .fn f l=>match (V.fn f l).asD with
    | some x=>.d x
    | none=>.fn f l
  | v=>v
theorem aR.fnd {κ:Ctx} {v:Value} {x:V} (h:aR κ v x):aR κ v x.fnd:=by
  unfold V.fnd
  split
  · split
    · rename_i hx; exact .d (h.asD hx)
    · exact h
  · exact h
def V.vw:V→V
  | .d (.fn f l)=>.fn f (l.map .rp)
  | v=>v
theorem uJ.rp {κ:Ctx}:∀ {cs:List Value} {l:List (List D)},uJ κ.S cs l→aZ κ cs (l.map .rp)
  | _,_,.nil=>.nil
  | _,_,.cons h1 h2 h3=>.cons (.rp h1 h2) (uJ.rp h3)
theorem aR.vw {κ:Ctx} {v:Value} {x:V} (h:aR κ v x):aR κ v x.vw:=by
  unfold V.vw
  split
  · cases h with | d h=>cases h with | fn _ _ _ h1 h2=>exact .fn h1 h2.rp
  · exact h
theorem aR.toD {κ:Ctx} {v:Value} {x:D} (h:aR κ v (.d x)):bR κ.S v x:=by cases h; assumption
theorem aR.toAgg {κ:Ctx} {v:Value} {l:List D} (h:aR κ v (.agg l)):∃ cs:List Value,v=.agg cs.toArray∧bP κ.S cs l:=by cases h; exact ⟨_,rfl,by assumption⟩
theorem aR.toNil {κ:Ctx} {v:Value} {sz:Nat} (h:aR κ v (.nil sz)):v=.slice none 0 0:=by cases h; rfl
theorem aR.toPtr {κ:Ctx} {v:Value} {n off:Nat} (h:aR κ v (.ptr n off)):v=.pointer (some ⟨κ.m n,off,none⟩):=by cases h; rfl
theorem aR.toMsl {κ:Ctx} {v:Value} {n sz o len cap:Nat} (h:aR κ v (.msl n sz o len cap)):v=.slice (some ⟨κ.m n,o * sz,none⟩) len cap∧len≤cap∧cap≤maxLen:=by cases h; exact ⟨rfl,by assumption,by assumption⟩
theorem aR.toRp {κ:Ctx} {v:Value} {l:List D} (h:aR κ v (.rp l)):∃ b off vs,v=.pointer (some ⟨b,off,none⟩)∧vs <+: (κ.S b).drop off∧bP κ.S vs l:=by cases h; exact ⟨_,_,_,rfl,by assumption,by assumption⟩
theorem aR.toFn {κ:Ctx} {v:Value} {f:FuncId} {l:List V} (h:aR κ v (.fn f l)) (hf:f<MVB):∃ cs:List Value,v=.func (.func f) #[] cs.toArray∧aZ κ cs l:=by
  cases h with
  | fn _ h=>exact ⟨_,rfl,h⟩
  | fnm h=>exact absurd hf (QB.2 (QC _ _))
theorem aR.toFnm {κ:Ctx} {v:Value} {f:FuncId} {l:List V} (h:aR κ v (.fn (mvc f) l)):∃ cs:List Value,v=.func (.func f) cs.toArray #[]∧aZ κ cs l:=by
  generalize hg:mvc f=g at h
  cases h with
  | fn k _=>subst hg; exact absurd k (QB.2 (QC _ _))
  | fnm h =>
    have e:=Nat.add_right_cancel hg
    subst e
    exact ⟨_,rfl,h⟩
theorem aR.anyFn {κ:Ctx} {v:Value} {f:FuncId} {l:List V} (h:aR κ v (.fn f l)):∃ g fs cs,v=.func (.func g) fs cs:=by
  cases h with
  | fn _ _=>exact ⟨_,_,_,rfl⟩
  | fnm _=>exact ⟨_,_,_,rfl⟩
theorem aR.toTup {κ:Ctx} {v:Value} {l:List V} (h:aR κ v (.tup l)):∃ cs:List Value,v=.tuple cs.toArray∧aZ κ cs l:=by cases h; exact ⟨_,rfl,by assumption⟩
theorem bR.toB {S:Mem} {v:Value} {x:Bool} (h:bR S v (.b x)):v=.bool x:=by cases h; rfl
theorem bR.toI {S:Mem} {v:Value} {k:IntKind} {n:Int} (h:bR S v (.i k n)):v=.int k n∧k.min≤n∧n≤k.max:=by cases h; exact ⟨rfl,by assumption,by assumption⟩
def V.asDs:List V→Option (List D)
  | []=>some []
  | v::l=>match v.asD,V.asDs l with
    | some x,some xs=>some (x::xs)
    | _,_=>none
theorem aZ.asDs {κ:Ctx} {vs:List Value} {xs:List V} {ys:List D} (h:aZ κ vs xs) (hx:V.asDs xs=some ys):bP κ.S vs ys:=by
  induction xs generalizing vs ys with
  | nil=>cases h; simp [V.asDs] at hx; subst hx; exact .nil
  | cons x xs ih =>
    cases h with | cons a t =>
    simp only [V.asDs] at hx
    split at hx
    · rename_i p q h1 h2; simp at hx; subst hx; exact .cons (a.asD h1) (ih t h2)
    · simp at hx
def K3 (l:List V):V :=
  match V.asDs l with
  | some ds=>.agg ds
  | none=>.agv l
theorem aN8 {κ:Ctx} {cs:List Value} {l:List V} (h:aZ κ cs l):aR κ (.agg cs.toArray) (K3 l):=by
  unfold K3
  split
  · rename_i h1; exact .agg (h.asDs h1)
  · exact .agv h
end Go.Ab
