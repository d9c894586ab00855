/- The operations that only compute or read,abstractly; the translation of operations; soundness. -/
import Derived.Test.YtcbkkemcgcdhdaaGreatAb4
namespace Go.Ab
open Go Go.RowKit
open _root_.Option renaming map_eq_some_iff→QA
inductive AO where
  | t (n:Nat)
  | c (v:V)
  deriving Inhabited
def ev (s:St):AO→V
  | .t n=>lk s.env n
  | .c v=>v
inductive AOp where
  | mv (d:Nat) (x:AO)
  | asg (d:Nat) (x:AO)
  | pick (d:Nat) (c x y:AO)
  | bin (d:Nat) (op:BinOp) (x y:AO)
  | eqb (d:Nat) (neg:Bool) (x y:AO)
  | eqv (d:Nat) (neg:Bool) (ks:List Nat) (x y:AO)
  | eqn (d:Nat) (neg:Bool) (x:AO)
  | not (d:Nat) (x:AO)
  | neg (d:Nat) (x:AO)
  | cvi (d:Nat) (k:IntKind) (x:AO)
  | cbs (d:Nat) (x:AO)
  | fld (d off n:Nat) (agg:Bool) (x:AO)
  | fa (d off:Nat) (x:AO)
  | ia (d sz:Nat) (x i:AO)
  | ix (d:Nat) (x i:AO)
  | sls (d:Nat) (x:AO) (lo hi:Option AO)
  | slc (d sz:Nat) (x:AO) (lo hi mx:Option AO)
  | bld (d:Nat) (zero:List V) (parts:List (Nat×Nat×AO))
  | len (d:Nat) (x:AO)
  | lns (d:Nat) (x:AO)
  | max (d:Nat) (x y:AO)
  | min (d:Nat) (x y:AO)
  | mkf (d:Nat) (f:FuncId) (caps:List AO)
  | ext (d:Nat) (x:AO) (i:Nat)
  | nck (d:Nat) (x:AO)
  | ld (d n:Nat) (agg:Bool) (x:AO)
  | box (d:Nat) (T:TypeId) (x:AO)
  | alc (d:Nat) (zero:List V)
  | st (n:Nat) (x y:AO)
  | bsl (d:Nat) (e:TypeId) (sz:Nat) (parts:List AO)
  | app (d:Nat) (e:TypeId) (sz bytes:Nat) (x y:AO)
  | call (d:Option Nat) (f:FuncId) (args:List AO)
  | callv (d:Option Nat) (f:AO) (args:List AO)
  | mks (d:Nat) (e:TypeId) (sz bytes:Nat) (zero:List D) (n c:AO)
  | csb (d:Nat) (e:TypeId) (x:AO)
  | g (j:Nat) (want:Bool) (o:AOp)
  deriving Inhabited
def use (x:V) (C:V→Prop):Prop :=
  match x with
  | .ite c v=>c=true∧C v
  | v=>C v
def dK (x:V) (C:D→Prop):Prop :=
  match x with
  | .d y=>C y
  | _=>False
def iK (x:V) (C:Int→Prop):Prop :=
  match x with
  | .d (.i _ n)=>C n
  | _=>False
def sK (x:V) (C:ByteArray→Prop):Prop :=
  match x with
  | .d (.s y)=>C y
  | _=>False
def slK (x:V) (C:Nat→List (List D)→Prop):Prop :=
  match x with
  | .d (.sl sz l)=>C sz l
  | .osl _ _ sz l=>C sz l
  | .nil sz=>C sz []
  | _=>False
def srK (x:V) (C:Nat→List (List D)→Prop):Prop :=
  match x with
  | .d (.s b)=>C 1 ((b.data.toList.map fun u=>(u.toNat:Int)).map fun n=>[D.i .u8 n])
  | x=>slK x C
def bK (x:V) (C:Bool→Bool→Prop):Prop :=
  match x with
  | .d (.b y)=>C true y
  | .ite c (.d (.b y))=>C c y
  | .und=>C false true
  | _=>False
def bitsOf (op:BinOp) (k:IntKind) (a b:Int) (C:Int→Prop):Prop :=
  match op with
  | .and=>C (k.wrap (BitVec.ofInt k.bits a &&& BitVec.ofInt k.bits b).toNat)
  | .or=>C (k.wrap (BitVec.ofInt k.bits a ||| BitVec.ofInt k.bits b).toNat)
  | .xor=>C (k.wrap (BitVec.ofInt k.bits a ^^^ BitVec.ofInt k.bits b).toNat)
  | .andNot=>C (k.wrap (BitVec.ofInt k.bits a &&& ~~~ BitVec.ofInt k.bits b).toNat)
  | _=>False
def aJi (op:BinOp) (k:IntKind) (a b:Int) (C:D→Prop):Prop :=
  match op with
  | .add=>C (.i k (k.wrap (a+b)))
  | .sub=>C (.i k (k.wrap (a - b)))
  | .mul=>C (.i k (k.wrap (a * b)))
  | .quo=>b≠0∧C (.i k (k.wrap (a.tdiv b)))
  | .rem=>b≠0∧C (.i k (a.tmod b))
  | .eql=>C (.b (a==b))
  | .neq=>C (.b (a != b))
  | .lss=>C (.b (decide (a<b)))
  | .leq=>C (.b (decide (a≤b)))
  | .gtr=>C (.b (decide (a>b)))
  | .geq=>C (.b (decide (a≥b)))
  | .shl=>0≤b∧C (.i k (k.wrap (a * 2 ^ (Nat.min b.toNat k.bits))))
  | .shr=>0≤b∧C (.i k (a.fdiv (2 ^ (Nat.min b.toNat k.bits))))
  | .and=>bitsOf .and k a b fun r=>C (.i k r)
  | .or=>bitsOf .or k a b fun r=>C (.i k r)
  | .xor=>bitsOf .xor k a b fun r=>C (.i k r)
  | .andNot=>bitsOf .andNot k a b fun r=>C (.i k r)
def aYd (op:BinOp) (a b:ByteArray) (C:D→Prop):Prop :=
  match op with
  | .add=>a.size+b.size≤maxLen∧C (.s (a++b))
  | .eql=>C (.b (decide (a=b)))
  | .neq=>C (.b (!decide (a=b)))
  | .lss=>C (.b (Op.bytesLess a.toList b.toList))
  | .leq=>C (.b (Op.bytesLess a.toList b.toList||decide (a=b)))
  | .gtr=>C (.b (!(Op.bytesLess a.toList b.toList||decide (a=b))))
  | .geq=>C (.b (!Op.bytesLess a.toList b.toList))
  | _=>False
def aDd (op:BinOp) (x y:D) (C:D→Prop):Prop :=
  match x,y with
  | .i k a,.i k' b=>(k=k'∨op=.shl∨op=.shr)∧aJi op k a b C
  | .s a,.s b=>aYd op a b C
  | _,_=>False
def nY:List Nat→List D→List D→Option Bool
  | [],[],[]=>some true
  | 0::ks,.i k a::l,.i k' b::m=>if k=k' then (nY ks l m).map fun r=>a==b&&r else none
  | 1::ks,.s a::l,.s b::m=>(nY ks l m).map fun r=>decide (a=b)&&r
  | 2::ks,.b a::l,.b b::m=>(nY ks l m).map fun r=>a==b&&r
  | _,_,_=>none
def V.cells:V→List V
  | .agg l=>l.map .d
  | .agv l=>l
  | v=>[v]
def V.solid:V→Bool
  | .top | .und | .ite .. | .tup _=>false
  | .agv l=>l.all V.one
  | _=>true
def V.hard:V→Bool
  | .d _ | .osl ..=>true
  | _=>false
def aG8 (l:List V):V:=if l.all V.hard then K3 l else .agv l
theorem bI6 {κ:Ctx} {cs:List Value} {l:List V} (h:aZ κ cs l):aR κ (.agg cs.toArray) (aG8 l):=by
  unfold aG8
  split
  · exact aN8 h
  · exact .agv h
def oV (n:Nat) (agg:Bool) (cells:List V) (C:V→Prop):Prop :=
  match agg with
  | true=>(cells.take n).length=n∧C (aG8 (cells.take n))
  | false=>∃ x,cells.head?=some x∧C x
def mU (n:Nat) (agg:Bool) (cells:List D) (C:V→Prop):Prop :=
  match agg with
  | true=>(cells.take n).length=n∧C (.agg (cells.take n))
  | false=>∃ x,cells.head?=some x∧C (.d x)
def wS (s:St):List (Nat×Nat×AO)→List V→(List V→Prop)→Prop
  | [],c,C=>C c
  | (off,sz,x)::r,c,C=>use (ev s x) fun v=>v.solid=true∧v.cells.length=sz∧off+sz≤c.length∧wS s r (putCells c off v.cells) C
def lK (s:St) (x:Option AO) (dflt:Int) (C:Int→Prop):Prop :=
  match x with
  | none=>C dflt
  | some y=>use (ev s y) fun v=>iK v C
def iaK (sz:Nat) (x i:V) (C:V→Prop):Prop :=
  match x with
  | .msl b sz' o len _=>iK i fun n=>sz'=sz∧0≤n∧n.toNat<len∧C (.ptr b ((o+n.toNat) * sz))
  | x=>slK x fun sz' l=>iK i fun n=>sz'=sz∧0≤n∧∃ e,l[n.toNat]?=some e∧C (.rp e)
def O5 (x:V) (C:V→Prop):Prop :=
  match x with
  | .msl _ _ _ len _=>C (.d (.i .i64 len))
  | x=>slK x fun _ l=>C (.d (.i .i64 l.length))
def trL (s:St) (n:Nat) (C:List (List D)→Prop):Prop :=
  match bget s.bx n with
  | some (.trc _ l::_)=>C l
  | some (.tro _ _ l::_)=>C l
  | some (.trs _ l::_)=>C l
  | _=>False
def iaO (s:St) (n sz:Nat) (i:V) (C:V→Prop):Prop:=iK i fun k=>0≤k∧((∃ l c,bget s.bx n=some (.tro sz k.toNat l::c))∨(∃ l,bget s.bx n=some [.trs sz l]∧k.toNat<l.length)∨∃ l,bget s.bx n=some [.trc sz l]∧k.toNat<l.length)∧C (.trp n sz k.toNat 0)
def vop (s:St) (C:V→Prop):AOp→Prop
  | .mv _ x | .asg _ x=>use (ev s x) C
  | .pick _ c x y=>use (ev s c) fun c=>dK c fun c=>match c with
    | .b b=>bK (ev s x) fun p u=>bK (ev s y) fun q v=>(b=true→p=true)∧(b=false→q=true)∧C (.d (.b (if b then u else v)))
    | _=>False
  | .bin _ op x y=>use (ev s x) fun x=>use (ev s y) fun y=>dK x fun x=>dK y fun y=>aDd op x y fun r=>C (.d r)
  | .eqb _ neg x y=>use (ev s x) fun x=>use (ev s y) fun y=>dK x fun x=>dK y fun y=>match x,y with
    | .b a,.b b=>C (.d (.b (neg ^^ (a==b))))
    | _,_=>False
  | .eqv _ neg ks x y=>use (ev s x) fun x=>use (ev s y) fun y=>match x,y with
    | .agg l,.agg m=>∃ r,nY ks l m=some r∧C (.d (.b (neg ^^ r)))
    | _,_=>False
  | .eqn _ neg x=>use (ev s x) fun x=>match x with
    | .nil _=>C (.d (.b (neg ^^ true)))
    | .tre n=>trL s n fun l=>(l≠[]→C (.d (.b (neg ^^ false))))∧(l=[]→∀ b,C (.d (.b b)))
    | x=>slK x fun _ l=>(l≠[]→C (.d (.b (neg ^^ false))))∧(l=[]→∀ b,C (.d (.b b)))
  | .not _ x=>use (ev s x) fun x=>dK x fun x=>match x with
    | .b b=>C (.d (.b (!b)))
    | _=>False
  | .neg _ x=>use (ev s x) fun x=>dK x fun x=>match x with
    | .i k n=>C (.d (.i k (k.wrap (0 - n))))
    | _=>False
  | .cvi _ k x=>use (ev s x) fun x=>iK x fun n=>C (.d (.i k (k.wrap n)))
  | .cbs _ x=>use (ev s x) fun x=>slK x fun sz l=>sz=1∧∃ bs:List UInt8,l=bs.map (fun b=>[D.i .u8 b.toNat])∧C (.d (.s ⟨bs.toArray⟩))
  | .fld _ off n agg x=>use (ev s x) fun x=>match x with
    | .agg l=>mU n agg (l.drop off) C
    | .agv l=>oV n agg (l.drop off) C
    | _=>False
  | .fa _ off x=>use (ev s x) fun x=>match x with
    | .ptr b o=>C (.ptr b (o+off))
    | .trp b sz i o=>C (.trp b sz i (o+off))
    | .rp l=>C (.rp (l.drop off))
    | _=>False
  | .ia _ sz x i=>use (ev s x) fun x=>use (ev s i) fun i=>match x with
    | .tre n=>iaO s n sz i C
    | x=>iaK sz x i C
  | .ix _ x i=>use (ev s x) fun x=>use (ev s i) fun i=>sK x fun b=>iK i fun n=>0≤n∧∃ u,b[n.toNat]?=some u∧C (.d (.i .u8 u.toNat))
  | .sls _ x lo hi=>use (ev s x) fun x=>sK x fun b=>lK s hi b.size fun h=>lK s lo 0 fun l =>
      0≤l∧l≤h∧h≤b.size∧C (.d (.s (b.extract l.toNat h.toNat)))
  | .slc _ sz x lo hi mx=>use (ev s x) fun x=>slK x fun sz' l=>lK s hi l.length fun h=>lK s mx l.length fun m=>lK s lo 0 fun lo =>
      sz'=sz∧(mx=none∨hi.isSome=true)∧0≤lo∧lo≤h∧h≤m∧m≤l.length∧C (.d (.sl sz ((l.take h.toNat).drop lo.toNat)))
  | .bld _ zero parts=>wS s parts zero fun c=>∃ ds,V.asDs c=some ds∧C (.agg ds)
  | .len _ x=>use (ev s x) fun x=>match x with
    | .tre n=>trL s n fun l=>C (.d (.i .i64 l.length))
    | x=>O5 x C
  | .lns _ x=>use (ev s x) fun x=>sK x fun b=>C (.d (.i .i64 b.size))
  | .max _ x y=>use (ev s x) fun x=>use (ev s y) fun y=>match x,y with
    | .d (.i k a),.d (.i k' b)=>k=k'∧C (.d (.i k (if b>a then b else a)))
    | _,_=>False
  | .min _ x y=>use (ev s x) fun x=>use (ev s y) fun y=>match x,y with
    | .d (.i k a),.d (.i k' b)=>k=k'∧C (.d (.i k (if b<a then b else a)))
    | _,_=>False
  | .mkf _ f caps=>C (V.fnd (.fn f (caps.map (ev s))))
  | .ext _ x i=>use (ev s x) fun x=>match x with
    | .tup l=>∃ v,l[i]?=some v∧C v
    | _=>False
  | .nck _ x=>use (ev s x) fun x=>match x with
    | .ptr b o=>C (.ptr b o)
    | .trp b sz i o=>C (.trp b sz i o)
    | .rp l=>C (.rp l)
    | .fn f l=>C (.fn f l)
    | _=>False
  | .ld _ n agg x=>use (ev s x) fun x=>match x with
    | .ptr b o=>∃ c,bget s.bx b=some c∧nU c=true∧oV n agg (c.drop o) C
    | .trp b sz i o=>(∃ l c,bget s.bx b=some (.tro sz i l::c)∧oV n agg (c.drop o) C)∨(∃ l ds,bget s.bx b=some [.trs sz l]∧l[i]?=some ds∧mU n agg (ds.drop o) C)∨∃ l ds,bget s.bx b=some [.trc sz l]∧l[i]?=some ds∧((ds.drop o).take n).all D.flat=true∧mU n agg ((ds.drop o).take n) C
    | .rp l=>mU n agg l C
    | _=>False
  | _=>False
def V.str:V→V
  | .ite _ v=>v
  | v=>v
def aLe (P:Program):Nat→TypeId→List TypeId
  | 0,_=>[]
  | n+1,t=>match P.underlying t with
    | some (.struct fs)=>fs.toList.flatMap fun f=>aLe P n f.type
    | _=>[t]
def oL (P:Program) (ty:TypeId):Value→Option V
  | .bool b=>some (.d (.b b))
  | .int k n=>if k.min≤n∧n≤k.max then some (.d (.i k n)) else none
  | .string s=>if s.size≤maxLen then some (.d (.s s)) else none
  | .slice none 0 0=>match P.underlying ty with
    | some (.slice e)=>some (.nil (P.cellsOf e))
    | _=>none
  | .pointer none=>some .np
  | .nilIface=>some .top
  | .nilFunc=>some .nf
  | _=>none
def uZ (P:Program):List TypeId→List Value→Option (List V)
  | [],[]=>some []
  | t::ts,v::vs=>match oL P t v,uZ P ts vs with
    | some x,some xs=>some (x::xs)
    | _,_=>none
  | _,_=>none
def trC (P:Program) (ty:TypeId) (v:Value):Option V :=
  match v with
  | .agg cs=>match uZ P (aLe P 20 ty) cs.toList with
    | some l=>(V.asDs l).map .agg
    | none=>none
  | v=>oL P ty v
def trO (P:Program) (ty:TypeId):Operand→Option AO
  | .tmp t=>some (.t t)
  | .func f=>if f<MVB then some (.c (.fn f [])) else none
  | .const v=>(trC P ty v).map .c
  | .global _=>none
section
variable {E:Entry} {N:Nat} {κ:Ctx} {w:World} {a:Act} {s:St} {P:Program}
theorem aQ5 {ty:TypeId} {v:Value} {x:V} (h:oL P ty v=some x) (κ:Ctx):aR κ v x:=by
  cases v with
  | bool b=>simp [oL] at h; subst h; exact .d (.b b)
  | int k n=>simp only [oL] at h; split at h <;> simp at h; rename_i hk; subst h; exact .d (.i k n hk.1 hk.2)
  | string s=>simp only [oL] at h; split at h <;> simp at h; rename_i hk; subst h; exact .d (.s s hk)
  | slice b l c =>
    rcases b with _ | b <;> rcases l with _ | l <;> rcases c with _ | c
    case none.zero.zero =>
      simp only [oL] at h
      split at h
      · simp at h; subst h; exact .nil _
      · simp at h
    all_goals simp [oL] at h
  | pointer b =>
    rcases b with _ | b
    · simp [oL] at h; subst h; exact .np
    · simp [oL] at h
  | nilIface=>simp [oL] at h; subst h; exact .top _
  | nilFunc=>simp [oL] at h; subst h; exact .nf
  | _=>simp [oL] at h
theorem aI4 {ts:List TypeId} {vs:List Value} {xs:List V} (h:uZ P ts vs=some xs) (κ:Ctx):aZ κ vs xs:=by
  induction ts generalizing vs xs with
  | nil=>cases vs <;> simp [uZ] at h; subst h; exact .nil
  | cons t ts ih =>
    cases vs with
    | nil=>simp [uZ] at h
    | cons v vs =>
      simp only [uZ] at h
      split at h <;> simp at h
      rename_i h1 h2
      subst h; exact .cons (aQ5 h1 κ) (ih h2)
theorem bZy {ty:TypeId} {v:Value} {x:V} (h:trC P ty v=some x) (κ:Ctx):aR κ v x:=by
  unfold trC at h
  split at h
  · split at h
    · rename_i cs l hl
      obtain ⟨ds,hd,rfl⟩:=QA.1 h
      exact .agg ((aI4 hl κ).asDs hd)
    · simp at h
  · exact aQ5 h κ
theorem aCf {ty:TypeId} {x:Operand} {y:AO} (h:trO P ty x=some y) (he:∀ n,aR κ (a.tmps.getD n undef) (lk s.env n)):aR κ (a.eval x) (ev s y):=by
  cases x with
  | tmp t=>simp [trO] at h; subst h; exact he t
  | func f =>
    simp only [trO] at h; split at h <;> simp at h
    rename_i k
    subst h; exact .fn (cs:=[]) k .nil
  | const v=>simp only [trO,QA] at h; obtain ⟨x,hx,rfl⟩:=h; exact bZy hx κ
  | global g=>simp [trO] at h
theorem Q8 {v:Value} {x:V} {C:V→Prop} (h:aR κ v x) (hu:use x C):∃ y,aR κ v y∧C y:=by
  cases x with
  | ite c y =>
    obtain ⟨rfl,hc⟩:=hu
    cases h with
    | yes h=>exact ⟨_,h,hc⟩
  | _=>exact ⟨_,h,hu⟩
theorem bGp {v:Value} {x:V} {C:Bool→Bool→Prop} (h:aR κ v x) (hu:bK x C):∃ p b,(p=true→v=.bool b)∧C p b:=by
  unfold bK at hu
  split at hu
  · cases h with | d h=>cases h with | b=>exact ⟨true,_,fun _=>rfl,hu⟩
  · cases h with
    | yes h=>cases h with | d h=>cases h with | b=>exact ⟨true,_,fun _=>rfl,hu⟩
    | no=>exact ⟨false,_,fun h=>by simp at h,hu⟩
  · exact ⟨false,_,fun h=>by simp at h,hu⟩
  · exact hu.elim
theorem E5 {v:Value} {x:V} {C:Int→Prop} (h:aR κ v x) (hu:iK x C):∃ k n,v=.int k n∧k.min≤n∧n≤k.max∧C n:=by
  unfold iK at hu
  split at hu
  · cases h with | d h=>cases h with | i _ _ h1 h2=>exact ⟨_,_,rfl,h1,h2,hu⟩
  · exact hu.elim
theorem aRz {v:Value} {x:V} {C:ByteArray→Prop} (h:aR κ v x) (hu:sK x C):∃ b,v=.string b∧b.size≤maxLen∧C b:=by
  unfold sK at hu
  split at hu
  · cases h with | d h=>cases h with | s _ hb=>exact ⟨_,rfl,hb,hu⟩
  · exact hu.elim
theorem aGy {v:Value} {x:V} {C:Nat→List (List D)→Prop} (h:aR κ v x) (hu:slK x C):∃ sz l,bR κ.S v (.sl sz l)∧C sz l:=by
  unfold slK at hu
  split at hu
  · cases h with | d h=>exact ⟨_,_,h,hu⟩
  · cases h with | osl h1 h2=>exact ⟨_,_,h2,hu⟩
  · cases h with | nil=>exact ⟨_,_,.nil _,hu⟩
  · exact hu.elim
theorem aFi {ty:TypeId} {x:Option Operand} {y:Option AO} {dflt:Int} {C:Int→Prop} (h:(x=none∧y=none)∨∃ o z,x=some o∧y=some z∧trO P ty o=some z)
    (he:∀ n,aR κ (a.tmps.getD n undef) (lk s.env n)) (hu:lK s y dflt C):∃ n,C n∧((x=none∧n=dflt)∨∃ o k,x=some o∧a.eval o=.int k n):=by
  rcases h with ⟨rfl,rfl⟩ | ⟨o,z,rfl,rfl,hz⟩
  · exact ⟨dflt,hu,.inl ⟨rfl,rfl⟩⟩
  · obtain ⟨y,hy,hC⟩:=Q8 (aCf hz he) hu
    obtain ⟨k,n,hv,_,_,hn⟩:=E5 hy hC
    exact ⟨n,hn,.inr ⟨o,k,rfl,hv⟩⟩
end
end Go.Ab
