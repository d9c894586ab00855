/- Evaluation of operations by computing: what an operation yields,as a function; and that it is right. -/
import Derived.Test.YtcbkkemcgcdhdaaGreatAb14
import Derived.Test.YtcbkkemcgcdhdaaGreatAbD1
namespace Go.Ab
open Go Go.RowKit
open _root_.Bool renaming and_eq_true→QA
open _root_.Option renaming some.injEq→QB,map_eq_some_iff→QC
open _root_.List renaming all_append→QD
def by8 (x:ByteArray):List UInt8:=x.data.toList
theorem bFi (x:ByteArray):bs (by8 x)=x:=by cases x; rfl
theorem aFf {x y:ByteArray}:(by8 x=by8 y)↔x=y:=⟨fun h=>by rw [← bFi x,h,bFi],fun h=>by rw [h]⟩
theorem cDb (x:ByteArray):x.toList=by8 x:=ByteArray.toList_eq x
def aJ6 (op:BinOp) (k:IntKind) (a b:Int):Option D :=
  match op with
  | .add=>some (.i k (k.wrap (a+b)))
  | .sub=>some (.i k (k.wrap (a - b)))
  | .mul=>some (.i k (k.wrap (a * b)))
  | .quo=>if b=0 then none else some (.i k (k.wrap (a.tdiv b)))
  | .rem=>if b=0 then none else some (.i k (a.tmod b))
  | .eql=>some (.b (decide (a=b)))
  | .neq=>some (.b (!decide (a=b)))
  | .lss=>some (.b (decide (a<b)))
  | .leq=>some (.b (decide (a≤b)))
  | .gtr=>some (.b (decide (b<a)))
  | .geq=>some (.b (decide (b≤a)))
  | .shl=>if 0≤b then some (.i k (k.wrap (a * 2 ^ (Nat.min b.toNat k.bits)))) else none
  | .shr=>if 0≤b then some (.i k (a.fdiv (2 ^ (Nat.min b.toNat k.bits)))) else none
  | .and=>some (.i k (k.wrap (BitVec.ofInt k.bits a &&& BitVec.ofInt k.bits b).toNat))
  | .or=>some (.i k (k.wrap (BitVec.ofInt k.bits a ||| BitVec.ofInt k.bits b).toNat))
  | .xor=>some (.i k (k.wrap (BitVec.ofInt k.bits a ^^^ BitVec.ofInt k.bits b).toNat))
  | .andNot=>some (.i k (k.wrap (BitVec.ofInt k.bits a &&& ~~~ BitVec.ofInt k.bits b).toNat))
def bFa (op:BinOp) (a b:List UInt8):Option D :=
  match op with
  | .eql=>some (.b (decide (a=b)))
  | .neq=>some (.b (!decide (a=b)))
  | .lss=>some (.b (Op.bytesLess a b))
  | .leq=>some (.b (Op.bytesLess a b||decide (a=b)))
  | .gtr=>some (.b (!(Op.bytesLess a b||decide (a=b))))
  | .geq=>some (.b (!Op.bytesLess a b))
  | _=>none
def aYw (op:BinOp) (x y:D):Option D :=
  match x,y with
  | .i k a,.i k' b=>if k=k' then aJ6 op k a b else match op with
    | .shl=>aJ6 .shl k a b
    | .shr=>aJ6 .shr k a b
    | _=>none
  | .s a,.s b=>bFa op (by8 a) (by8 b)
  | _,_=>none
theorem cEt {op:BinOp} {x y:D} {r:D} {C:D→Prop} (h:aYw op x y=some r) (hC:C r):aDd op x y C:=by
  have hi:∀ {k:IntKind} {a b:Int},aJ6 op k a b=some r→aJi op k a b C:=by
    intro k a b h
    cases op <;> simp only [aJ6] at h <;> (try (split at h)) <;> simp only [QB,reduceCtorEq] at h <;> subst h <;> simp only [aJi,bitsOf]
    case quo=>rename_i h0; exact ⟨h0,hC⟩
    case rem=>rename_i h0; exact ⟨h0,hC⟩
    case shl=>rename_i h0; exact ⟨h0,hC⟩
    case shr=>rename_i h0; exact ⟨h0,hC⟩
    case eql=>exact hC
    case neq=>exact hC
    all_goals exact hC
  unfold aYw at h
  split at h
  · split at h
    · rename_i e; exact ⟨.inl e,hi h⟩
    · split at h
      · exact ⟨.inr (.inl rfl),hi h⟩
      · exact ⟨.inr (.inr rfl),hi h⟩
      · simp at h
  · rename_i a b
    have e:∀ p:Bool,decide (by8 a=by8 b)=p→decide (a=b)=p:=fun p hp=>by simpa [aFf] using hp
    have e2:decide (by8 a=by8 b)=decide (a=b):=by simp [aFf]
    cases op <;> simp only [bFa,QB,reduceCtorEq] at h <;> subst h <;> simp only [aDd,aYd,cDb,← e2] <;> exact hC
  · simp at h
def J7:List Nat→List D→List D→Option Bool
  | [],[],[]=>some true
  | 0::ks,.i k a::l,.i k' b::m=>if k=k' then (J7 ks l m).map fun r=>decide (a=b)&&r else none
  | 1::ks,.s a::l,.s b::m=>(J7 ks l m).map fun r=>decide (by8 a=by8 b)&&r
  | 2::ks,.b a::l,.b b::m=>(J7 ks l m).map fun r=>a==b&&r
  | _,_,_=>none
theorem bSj:∀ (ks:List Nat) (l m:List D),J7 ks l m=nY ks l m:=by
  intro ks
  induction ks with
  | nil=>intro l m; cases l <;> cases m <;> rfl
  | cons k ks ih =>
    intro l m
    rcases k with _ | _ | _ | k <;> rcases l with _ | ⟨_ | _ | _ | _,l⟩ <;> rcases m with _ | ⟨_ | _ | _ | _,m⟩ <;> first | rfl | (simp only [J7,nY,ih,aFf]; done) | (simp only [J7,nY,ih,aFf]; rfl) | (simp [J7,nY,ih,aFf]; done) | (simp only [Nat.zero_add,Nat.reduceAdd,J7,nY,ih,aFf])
def V.cond:V→List Bool
  | .ite c _=>[c]
  | _=>[]
theorem fH {x:V} {C:V→Prop} (hn:x.cond.all id=true) (h:C x.str):use x C:=by
  cases x <;> first | exact h | exact ⟨by simpa [V.cond] using hn,h⟩
def iW:V→Option (Bool×Bool)
  | .d (.b y)=>some (true,y)
  | .ite c (.d (.b y))=>some (c,y)
  | .und=>some (false,true)
  | _=>none
theorem xV {x:V} {p:Bool×Bool} {C:Bool→Bool→Prop} (h:iW x=some p) (hC:C p.1 p.2):bK x C:=by
  unfold iW at h
  split at h <;> simp at h <;> subst h <;> exact hC
def aB0 (s:St):List (Nat×Nat×AO)→List V→Option (List V)
  | [],c=>some c
  | (off,sz,x)::r,c=>if (ev s x).str.solid&&((ev s x).str.cells.length==sz&&decide (off+sz≤c.length)) then aB0 s r (putCells c off (ev s x).str.cells) else none
def needs (s:St):AOp→List Bool
  | .mv _ x | .asg _ x | .not _ x | .neg _ x | .cvi _ _ x | .fld _ _ _ _ x | .fa _ _ x | .lns _ x | .ext _ x _ | .nck _ x | .ld _ _ _ x | .box _ _ x=>(ev s x).cond
  | .bin _ _ x y | .eqb _ _ x y | .eqv _ _ _ x y | .max _ x y | .min _ x y | .st _ x y=>(ev s x).cond++(ev s y).cond
  | .pick _ c _ _=>(ev s c).cond
  | .bld _ _ ps=>ps.flatMap fun p=>(ev s p.2.2).cond
  | _=>[]
def aK2 (n:Nat) (agg:Bool) (cells:List V):Option V :=
  match agg with
  | true=>if (cells.take n).length=n then some (aG8 (cells.take n)) else none
  | false=>cells.head?
def aIu (n:Nat) (agg:Bool) (cells:List D):Option V :=
  match agg with
  | true=>if (cells.take n).length=n then some (.agg (cells.take n)) else none
  | false=>cells.head?.map .d
def aYp (n r:Bool):Bool :=
  match n with
  | false=>r
  | true=>!r
def nD (s:St):AOp→Option V
  | .mv _ x=>some (ev s x).str
  | .pick _ c x y=>match (ev s c).str with
    | .d (.b b)=>match iW (ev s x),iW (ev s y) with
      | some u,some v=>if (!b||u.1)&&(b||v.1) then some (.d (.b (if b then u.2 else v.2))) else none
      | _,_=>none
    | _=>none
  | .bin _ op x y=>match (ev s x).str,(ev s y).str with
    | .d a,.d b=>(aYw op a b).map .d
    | _,_=>none
  | .eqb _ neg x y=>match (ev s x).str,(ev s y).str with
    | .d (.b a),.d (.b b)=>some (.d (.b (aYp neg (a==b))))
    | _,_=>none
  | .eqv _ neg ks x y=>match (ev s x).str,(ev s y).str with
    | .agg l,.agg m=>(J7 ks l m).map fun r=>.d (.b (aYp neg r))
    | _,_=>none
  | .not _ x=>match (ev s x).str with
    | .d (.b b)=>some (.d (.b (!b)))
    | _=>none
  | .neg _ x=>match (ev s x).str with
    | .d (.i k n)=>some (.d (.i k (k.wrap (0 - n))))
    | _=>none
  | .cvi _ k x=>match (ev s x).str with
    | .d (.i _ n)=>some (.d (.i k (k.wrap n)))
    | _=>none
  | .fld _ off n agg x=>match (ev s x).str with
    | .agg l=>aIu n agg (l.drop off)
    | .agv l=>aK2 n agg (l.drop off)
    | _=>none
  | .fa _ off x=>match (ev s x).str with
    | .ptr b o=>some (.ptr b (o+off))
    | .trp b sz i o=>some (.trp b sz i (o+off))
    | .rp l=>some (.rp (l.drop off))
    | _=>none
  | .bld _ zero parts=>match aB0 s parts zero with
    | some c=>(V.asDs c).map .agg
    | none=>none
  | .lns _ x=>match (ev s x).str with
    | .d (.s b)=>some (.d (.i .i64 (by8 b).length))
    | _=>none
  | .max _ x y=>match (ev s x).str,(ev s y).str with
    | .d (.i k a),.d (.i k' b)=>if k=k' then some (.d (.i k (if b>a then b else a))) else none
    | _,_=>none
  | .min _ x y=>match (ev s x).str,(ev s y).str with
    | .d (.i k a),.d (.i k' b)=>if k=k' then some (.d (.i k (if b<a then b else a))) else none
    | _,_=>none
  | .ext _ x i=>match (ev s x).str with
    | .tup l=>l[i]?
    | _=>none
  | .nck _ x=>match (ev s x).str with
    | .ptr b o=>some (.ptr b o)
    | .trp b sz i o=>some (.trp b sz i o)
    | .rp l=>some (.rp l)
    | .fn f l=>some (.fn f l)
    | _=>none
  | .ld _ n agg x=>match (ev s x).str with
    | .ptr b o=>match bget s.bx b with
      | some c=>if nU c then aK2 n agg (c.drop o) else none
      | none=>none
    | .rp l=>aIu n agg l
    | _=>none
  | .mkf _ f caps=>some (V.fnd (.fn f (caps.map (ev s))))
  | _=>none
theorem bJ4 (n r:Bool):aYp n r=(n ^^ r):=by cases n <;> cases r <;> rfl
theorem aYy {n:Nat} {agg:Bool} {cells:List V} {r:V} {C:V→Prop} (h:aK2 n agg cells=some r) (hC:C r):oV n agg cells C:=by
  unfold aK2 at h
  split at h
  · split at h <;> simp at h
    rename_i h1; subst h; exact ⟨h1,hC⟩
  · exact ⟨_,h,hC⟩
theorem bBo {n:Nat} {agg:Bool} {cells:List D} {r:V} {C:V→Prop} (h:aIu n agg cells=some r) (hC:C r):mU n agg cells C:=by
  unfold aIu at h
  split at h
  · split at h <;> simp at h
    rename_i h1; subst h; exact ⟨h1,hC⟩
  · obtain ⟨x,hx,rfl⟩:=QC.1 h
    exact ⟨x,hx,hC⟩
theorem aNr {s:St}:∀ {ps:List (Nat×Nat×AO)} {c r:List V} {C:List V→Prop},(ps.flatMap fun p=>(ev s p.2.2).cond).all id=true→aB0 s ps c=some r→C r→wS s ps c C
  | [],c,r,C,_,h,hC=>by simp [aB0] at h; subst h; exact hC
  | (off,sz,x)::ps,c,r,C,hn,h,hC=>by
    simp only [aB0] at h
    split at h
    · rename_i hc
      simp only [QA,beq_iff_eq,decide_eq_true_eq] at hc
      rw [List.flatMap_cons,QD,QA] at hn
      exact fH hn.1 ⟨hc.1,hc.2.1,hc.2.2,aNr hn.2 h hC⟩
    · simp at h
theorem jL {a b:List Bool} (h:(a++b).all id=true):a.all id=true:=by rw [QD,QA] at h; exact h.1
theorem sF {a b:List Bool} (h:(a++b).all id=true):b.all id=true:=by rw [QD,QA] at h; exact h.2
theorem aEr {s:St} {o:AOp} {r:V} {C:V→Prop} (hn:(needs s o).all id=true) (h:nD s o=some r) (hC:C r):vop s C o:=by
  cases o <;> simp only [nD,reduceCtorEq] at h <;> simp only [needs] at hn <;> simp only [vop]
  case mv=>simp at h; subst h; exact fH hn hC
  case pick =>
    refine fH hn ?_
    split at h
    · rename_i b hb
      rw [hb]
      split at h
      · rename_i u v hu hv
        split at h <;> simp at h
        rename_i hc
        subst h
        refine xV (C:=fun p u=>bK _ fun q v=>(b=true→p=true)∧(b=false→q=true)∧C (.d (.b (if b then u else v)))) hu (xV (C:=fun q w=>(b=true→u.1=true)∧(b=false→q=true)∧C (.d (.b (if b then u.2 else w)))) hv ?_)
        simp only [QA,Bool.or_eq_true,Bool.not_eq_true'] at hc
        refine ⟨fun h=>?_,fun h=>?_,hC⟩
        · rcases hc.1 with h' | h'
          · rw [h] at h'; simp at h'
          · exact h'
        · rcases hc.2 with h' | h'
          · rw [h] at h'; simp at h'
          · exact h'
      · simp at h
    · simp at h
  case bin =>
    refine fH (jL hn) (fH (sF hn) ?_)
    split at h
    · rename_i h1 h2
      rw [h1,h2]
      obtain ⟨x,hx,rfl⟩:=QC.1 h
      exact cEt hx hC
    · simp at h
  case eqb =>
    refine fH (jL hn) (fH (sF hn) ?_)
    split at h
    · rename_i h1 h2; simp at h; subst h; rw [h1,h2]; rw [bJ4] at hC; exact hC
    · simp at h
  case eqv =>
    refine fH (jL hn) (fH (sF hn) ?_)
    split at h
    · rename_i h1 h2
      obtain ⟨x,hx,rfl⟩:=QC.1 h
      rw [bSj] at hx
      rw [bJ4] at hC
      rw [h1,h2]; exact ⟨x,hx,hC⟩
    · simp at h
  case not =>
    refine fH hn ?_
    split at h
    · rename_i h1; simp at h; subst h; rw [h1]; exact hC
    · simp at h
  case neg =>
    refine fH hn ?_
    split at h
    · rename_i h1; simp only [QB] at h; subst h; rw [h1]; exact hC
    · simp at h
  case cvi =>
    refine fH hn ?_
    split at h
    · rename_i h1; simp at h; subst h; rw [h1]; exact hC
    · simp at h
  case fld =>
    refine fH hn ?_
    split at h
    · rename_i h1; rw [h1]; exact bBo h hC
    · rename_i h1; rw [h1]; exact aYy h hC
    · simp at h
  case fa =>
    refine fH hn ?_
    split at h
    · rename_i h1; simp at h; subst h; rw [h1]; exact hC
    · rename_i h1; simp at h; subst h; rw [h1]; exact hC
    · rename_i h1; simp at h; subst h; rw [h1]; exact hC
    · simp at h
  case bld =>
    split at h
    · rename_i h1
      obtain ⟨x,hx,rfl⟩:=QC.1 h
      exact aNr hn h1 ⟨x,hx,hC⟩
    · simp at h
  case lns =>
    refine fH hn ?_
    split at h
    · rename_i h1; simp at h; subst h; rw [h1]; exact hC
    · simp at h
  case max =>
    refine fH (jL hn) (fH (sF hn) ?_)
    split at h
    · rename_i h1 h2; split at h <;> simp at h; rename_i hk; subst h; rw [h1,h2]; exact ⟨hk,hC⟩
    · simp at h
  case min =>
    refine fH (jL hn) (fH (sF hn) ?_)
    split at h
    · rename_i h1 h2; split at h <;> simp at h; rename_i hk; subst h; rw [h1,h2]; exact ⟨hk,hC⟩
    · simp at h
  case ext =>
    refine fH hn ?_
    split at h
    · rename_i h1; rw [h1]; exact ⟨_,h,hC⟩
    · simp at h
  case nck =>
    refine fH hn ?_
    split at h
    · rename_i h1; simp at h; subst h; rw [h1]; exact hC
    · rename_i h1; simp at h; subst h; rw [h1]; exact hC
    · rename_i h1; simp at h; subst h; rw [h1]; exact hC
    · rename_i h1; simp at h; subst h; rw [h1]; exact hC
    · simp at h
  case ld =>
    refine fH hn ?_
    split at h
    · rename_i h1; rw [h1]
      split at h
      · rename_i h2
        split at h
        · rename_i h3; exact ⟨_,h2,h3,aYy h hC⟩
        · simp at h
      · simp at h
    · rename_i h1; rw [h1]; exact bBo h hC
    · simp at h
  case mkf=>simp at h; subst h; exact hC
def st1 (s:St) (o:AOp):Option St :=
  match o with
  | .asg d x=>if (ev s x).cond.isEmpty then match ev s x with
      | .osl t e sz l=>if t=d then some (s.put d (.osl t e sz l)) else if ((s.dn t).dn d).clean t&&((s.dn t).dn d).clean d then some (((s.dn t).dn d).put d (.osl d e sz l)) else none
      | v=>some (s.put d v)
    else none
  | .box d T x=>if (ev s x).cond.isEmpty&&((ev s x).solid&&(s.fresh d&&V.noPtrs d (ev s x).cells)) then some ⟨(d,.ptr d 0)::s.env,(d,(ev s x).cells.map (aAp d T))::s.bx⟩ else none
  | .alc d z=>if s.fresh d then some ⟨(d,.ptr d 0)::s.env,(d,z)::s.bx⟩ else none
  | .st n x y=>if (ev s x).cond.isEmpty&&(ev s y).cond.isEmpty then match ev s x with
      | .ptr b o=>match bget s.bx b with
        | some c=>if nU c&&(ev s y).solid&&((ev s y).cells.length==n&&decide (o+n≤c.length)) then some ⟨s.env,fC s.bx b (putCells c o (ev s y).cells)⟩ else none
        | none=>none
      | _=>none
    else none
  | o => if (needs s o).all id then match nD s o, o.dst with
      | some v,some d=>some (s.put d v)
      | _,_=>none
    else none
theorem yK {x:V} {C:V→Prop} (hn:x.cond.isEmpty=true) (h:C x):use x C:=by
  cases x <;> first | exact h | simp [V.cond] at hn
theorem bEk {P:Program} {s s':St} {o:AOp} {K:St→Prop} (h:st1 s o=some s') (hK:K s'):aop P s K o:=by
  cases o
  case asg d x =>
    simp only [st1] at h
    split at h
    · rename_i hc
      simp only [aop]
      refine yK hc ?_
      split at h
      · rename_i h1
        rw [h1]
        split at h
        · rename_i ht; simp at h; subst h; exact .inl hK
        · rename_i ht
          split at h <;> simp at h
          rename_i hcl; subst h
          rw [QA] at hcl
          exact .inr ⟨ht,hcl.1,hcl.2,hK⟩
      · rename_i hno
        simp at h; subst h
        exact .inl hK
    · simp at h
  case box d T x =>
    simp only [st1] at h
    split at h <;> simp at h
    rename_i hc; subst h
    simp only [QA] at hc
    exact yK hc.1 ⟨hc.2.1,hc.2.2.1,hc.2.2.2,hK⟩
  case alc d z =>
    simp only [st1] at h
    split at h <;> simp at h
    rename_i hc; subst h
    exact ⟨hc,hK⟩
  case st n x y =>
    simp only [st1] at h
    split at h
    · rename_i hc
      simp only [QA] at hc
      refine yK hc.1 (yK hc.2 ?_)
      split at h
      · rename_i h1
        split at h
        · rename_i h2
          split at h <;> simp at h
          rename_i h3; subst h
          simp only [QA,beq_iff_eq,decide_eq_true_eq] at h3
          rw [h1]
          exact ⟨_,h2,h3.1.1,h3.1.2,h3.2.1,h3.2.2,hK⟩
        · simp at h
      · simp at h
    · simp at h
  all_goals
    simp only [st1] at h
    split at h
    · rename_i hn
      split at h <;> simp at h
      rename_i v d hv hd; subst h
      first
        | (simp [nD] at hv; done)
        | (simp only [AOp.dst,QB] at hd; subst hd; exact aEr (C:=fun v=>K (s.put _ v)) hn hv hK)
        | (simp only [AOp.dst,QB] at hd; subst hd; exact .inl (aEr (C:=fun v=>K (s.put _ v)) hn hv hK))
    · simp at h
def sts:List AOp→St→Option St
  | [],s=>some s
  | o::l,s=>match st1 s o with
    | some s'=>sts l s'
    | none=>none
theorem bF0 {P:Program} {K:St→Prop}:∀ (n:Nat) {l:List AOp} {s s':St},sts (l.take n) s=some s'→bN P K (l.drop n) s'→bN P K l s
  | 0,l,s,s',h,hK=>by simp [sts] at h; subst h; exact hK
  | n+1,[],s,s',h,hK=>by simp [sts] at h; subst h; exact hK
  | n+1,o::l,s,s',h,hK=>by
    simp only [List.take_succ_cons,sts] at h
    split at h
    · rename_i h1; exact bEk h1 (bF0 n h hK)
    · simp at h
end Go.Ab
