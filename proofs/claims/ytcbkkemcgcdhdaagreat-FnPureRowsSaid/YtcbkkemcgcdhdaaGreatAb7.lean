/- The translation of operations,and that what changes no memory is told rightly. -/
import Derived.Test.YtcbkkemcgcdhdaaGreatAb6
import Derived.WalkSpells
namespace Go.Ab
open Go Go.RowKit
open _root_.Option renaming map_some→QA,getD_some→QB
open _root_.List renaming zipIdx_cons→QC,foldl_cons→QD,map_cons→QE
def X0 (P:Program) (t:TypeId):Option Bool :=
  match P.underlying t with
  | some (.struct _) | some (.array ..)=>some true
  | some _=>some false
  | none=>none
def nV (P:Program):List TypeId→List Operand→Option (List AO)
  | [],[]=>some []
  | t::ts,x::xs=>match trO P t x,nV P ts xs with
    | some y,some ys=>some (y::ys)
    | _,_=>none
  | _,_=>none
def tN (P:Program) (t:TypeId):Option Operand→Option (Option AO)
  | none=>some none
  | some x=>(trO P t x).map some
def aQo:Operand→Bool
  | .const (.slice none 0 0)=>true
  | _=>false
def I7:BinOp→Option Bool
  | .eql=>some false
  | .neq=>some true
  | _=>none
def M6 (P:Program) (t:TypeId):Option (List V) :=
  match P.info? t with
  | some i=>match i.zero with
    | some v=>uZ P (aLe P 20 t) v.cells.toList
    | none=>none
  | none=>none
def aCi (P:Program) (fs:Array Field):List (Nat×Operand)→Option (List (Nat×Nat×AO))
  | []=>some []
  | (i,x)::r=>match fs[i]? with
    | none=>none
    | some f=>match P.info? f.type,trO P f.type x,aCi P fs r with
      | some ti,some y,some ys=>some ((f.offset,ti.size,y)::ys)
      | _,_,_=>none
def wL (P:Program) (e:TypeId):Nat→List (Nat×Operand)→Option (List AO)
  | _,[]=>some []
  | n,(i,x)::r=>if i=n then match trO P e x,wL P e (n+1) r with
      | some y,some ys=>some (y::ys)
      | _,_=>none
    else none
def aL4 (P:Program) (t:TypeId):Option (Array Field) :=
  match P.underlying t with
  | some (.struct fs)=>if fs.all fun f=>(P.info? f.type).isSome then some fs else none
  | _=>none
def V.plain0:V→Bool
  | .d _ | .nil _ | .np | .nf | .top=>true
  | _=>false
def aAp (d:Nat) (T:TypeId):V→V
  | .np=>.bp d T
  | v=>v
def bAg (P:Program) (T:TypeId):Bool :=
  match P.underlying T with
  | some .string=>true
  | _=>false
theorem bY0 {P:Program} {T:TypeId} (h:bAg P T=true):P.underlying T=some .string:=by
  unfold bAg at h
  split at h
  · assumption
  · simp at h
def aO1:Option Nat→AOp
  | some d=>.nck d (.c .top)
  | none=>.st 0 (.c .top) (.c .top)
theorem cFx {s:St} {C:V→Prop}:∀ {d:Option Nat},¬ vop s C (aO1 d)
  | some _,h=>h
  | none,h=>h
def eO (P:Program) (o:Oper):Option AOp :=
  match o.op with
  | .move x=>match o.dst,trO P o.type x with | some d,some y=>some (.mv d y) | _,_=>none
  | .assign x=>match o.dst,trO P o.type x with | some d,some y=>some (.asg d y) | _,_=>none
  | .pick c x y=>match o.dst,trO P o.type c,trO P o.type x,trO P o.type y with | some d,some c,some x,some y=>some (.pick d c x y) | _,_,_,_=>none
  | .binOp op T x y U=>match o.dst,trO P T x,trO P U y with
    | some d,some x',some y'=>match P.underlying T with
      | some (.int _)=>some (.bin d op x' y')
      | some .string=>some (.bin d op x' y')
      | some .bool=>(I7 op).map fun n=>.eqb d n x' y'
      | some (.struct fs)=>if P.stoodInHeld T=false∧P.eqGuardType P.depth T=false then
          match I7 op,aC8 P 0 fs.toList with
          | some n,some ks=>some (.eqv d n ks x' y')
          | _,_=>none
        else none
      | some (.slice _)=>if aQo y then (I7 op).map fun n=>.eqn d n x' else none
      | _=>none
    | _,_,_=>none
  | .unOp op T x=>match o.dst,trO P T x with
    | some d,some y=>match op with | .not=>some (.not d y) | .neg=>some (.neg d y) | _=>none
    | _,_=>none
  | .convert S T x=>match o.dst,trO P S x with
    | some d,some y=>match P.underlying S,P.underlying T with
      | some (.int _),some (.int k)=>some (.cvi d k y)
      | some (.slice e),some .string=>match P.underlying e with | some (.int .u8)=>some (.cbs d y) | _=>none
      | some .string,some (.slice e)=>match P.underlying e with | some (.int .u8)=>some (.csb d e y) | _=>none
      | _,_=>none
    | _,_=>none
  | .field T x i=>match o.dst,trO P T x,P.underlying T with
    | some d,some y,some (.struct fs)=>match fs[i]? with
      | some f=>match P.info? f.type,X0 P f.type with
        | some ti,some g=>some (.fld d f.offset ti.size g y)
        | _,_=>none
      | none=>none
    | _,_,_=>none
  | .fieldAddr T x i=>match o.dst,trO P T x,P.underlying T with
    | some d,some y,some (.struct fs)=>match fs[i]? with
      | some f=>match P.info? f.type with
        | some ti=>if ti.size=0 then none else some (.fa d f.offset y)
        | none=>none
      | none=>none
    | _,_,_=>none
  | .indexAddr T x i=>match o.dst,trO P T x,trO P 3 i,P.underlying T with
    | some d,some y,some j,some (.slice e)=>match P.info? e with
      | some ti=>some (.ia d ti.size y j)
      | none=>none
    | _,_,_,_=>none
  | .index T x i=>match o.dst,trO P T x,trO P 3 i,P.underlying T with
    | some d,some y,some j,some .string=>some (.ix d y j)
    | _,_,_,_=>none
  | .slice T x lo hi mx=>match o.dst,trO P T x,tN P 3 lo,tN P 3 hi,tN P 3 mx with
    | some d,some y,some l,some h,some m=>match P.underlying T with
      | some .string=>if m.isNone then some (.sls d y l h) else none
      | some (.slice e)=>match P.info? e with
        | some ti=>some (.slc d ti.size y l h m)
        | none=>none
      | _=>none
    | _,_,_,_,_=>none
  | .build T parts=>match o.dst,aL4 P T,M6 P T with
    | some d,some fs,some z=>(aCi P fs parts.toList).map fun ps=>.bld d z ps
    | _,_,_=>none
  | .buildSlice T len parts=>match o.dst,P.underlying T with
    | some d,some (.slice e)=>match P.info? e,wL P e 0 parts.toList with
      | some ti,some xs=>match ti.zero with
        | some z=>if xs.length=len∧0<ti.size∧len * ti.size≤2 ^ 24 then some (.bsl d e ti.size xs) else none
        | none=>none
      | _,_=>none
    | _,_=>none
  | .call c=>match c.callee with
    | .builtin .len=>match o.dst,c.args.toList,c.argTypes.toList with
      | some d,[x],[T]=>match trO P T x,P.underlying T with
        | some y,some .string=>some (.lns d y)
        | some y,some (.slice _)=>some (.len d y)
        | _,_=>none
      | _,_,_=>none
    | .builtin .max=>match o.dst,nV P c.argTypes.toList c.args.toList with
      | some d,some [x,y]=>some (.max d x y)
      | _,_=>none
    | .builtin .min=>match o.dst,nV P c.argTypes.toList c.args.toList with
      | some d,some [x,y]=>some (.min d x y)
      | _,_=>none
    | .builtin .append=>match o.dst,c.args.toList,c.argTypes.toList with
      | some d,[x,y],[T,U]=>match trO P T x,trO P U y,P.underlying T with
        | some x',some y',some (.slice e)=>match P.info? e with
          | some ti=>match ti.zero with
            | some z=>if (T=U∨bAg P U=true)∧z.cells.size=ti.size∧0<ti.size∧0<ti.bytes then some (.app d e ti.size ti.bytes x' y') else none
            | none=>none
          | none=>none
        | _,_,_=>none
      | _,_,_=>none
    | .value (.func f)=>match nV P c.argTypes.toList c.args.toList with
      | some xs=>match P.funcs[f]? with
        | some fn=>if fn.body.isSome∧fn.name≠"runtime.NumGoroutine" then some (.call o.dst f xs) else none
        | none=>none
      | none=>none
    | .value (.tmp t)=>match nV P c.argTypes.toList c.args.toList with
      | some xs=>some (.callv o.dst (.t t) xs)
      | none=>none
    | _=>none
  | .makeFunc fn first caps=>match o.dst,fn with
    | some d,.func f=>if first.isEmpty=true∧f<MVB then (nV P (caps.toList.map fun _=>0) caps.toList).map fun cs=>.mkf d f cs else if caps.isEmpty then (nV P (first.toList.map fun _=>0) first.toList).map fun cs=>.mkf d (mvc f) cs else none
    | _,_=>none
  | .extract x i=>match o.dst,trO P o.type x with | some d,some y=>some (.ext d y i) | _,_=>none
  | .nilCheck x=>match o.dst,trO P o.type x with | some d,some y=>some (.nck d y) | _,_=>none
  | .load T x=>match o.dst,trO P o.type x,P.info? T,X0 P T with
    | some d,some y,some ti,some g=>if g∨ti.size=1 then some (.ld d ti.size g y) else none
    | _,_,_,_=>none
  | .makeSlice T l c=>match o.dst,trO P 3 l,trO P 3 c,P.underlying T with
    | some d,some x,some y,some (.slice e)=>match P.info? e with
      | some ti=>match ti.zero with
        | some z=>match (uZ P (aLe P 20 e) z.cells.toList).bind V.asDs with
          | some ds=>if ds.length=ti.size∧0<ti.size∧0<ti.bytes then some (.mks d e ti.size ti.bytes ds x y) else none
          | none=>none
        | none=>none
      | none=>none
    | _,_,_,_=>none
  | .box T x=>match o.dst,trO P T x with | some d,some y=>some (.box d T y) | _,_=>none
  | .alloc T=>match o.dst,M6 P T with | some d,some z=>if z.all V.plain0 then some (.alc d (z.map (aAp d T))) else none | _,_=>none
  | .store T x y=>match o.dst,trO P o.type x,trO P T y,P.info? T with
    | none,some x',some y',some ti=>some (.st ti.size x' y')
    | _,_,_,_=>none
  | _=>some (aO1 o.dst)
def AOp.dst:AOp→Option Nat
  | .mv d _ | .asg d _ | .pick d _ _ _ | .bin d _ _ _ | .eqb d _ _ _ | .eqv d _ _ _ _ | .eqn d _ _ | .not d _ | .neg d _ | .cvi d _ _ | .cbs d _ | .fld d _ _ _ _ | .fa d _ _ | .ia d _ _ _ | .ix d _ _
  | .sls d _ _ _ | .slc d _ _ _ _ _ | .bld d _ _ | .len d _ | .lns d _ | .max d _ _ | .min d _ _ | .mkf d _ _ | .ext d _ _ | .nck d _ | .ld d _ _ _ | .box d _ _ | .alc d _ | .bsl d _ _ _ | .app d _ _ _ _ _ | .mks d _ _ _ _ _ _ | .csb d _ _=>some d
  | .call d _ _ | .callv d _ _=>d
  | .st ..=>none
  | .g _ _ o=>o.dst
section
variable {E:Entry} {N:Nat} {κ:Ctx} {w:World} {a:Act} {s:St} {P:Program} {C:V→Prop}
theorem aNg {t:TypeId} {g:Bool} (h:X0 P t=some g) (w:World):(isAgg t).run P w=.ok g w:=by
  unfold X0 at h
  unfold isAgg
  split at h
  · rename_i hu; simp at h; subst h; simp [run_underlying hu]
  · rename_i hu; simp at h; subst h; simp [run_underlying hu]
  · rename_i u h1 h2 hu
    simp at h; subst h
    cases u <;> simp [run_underlying hu] <;> first | exact absurd rfl (h1 _) | exact absurd rfl (h2 _ _)
  · simp at h
theorem Z0 {v:Value} {x:V} (h:aR κ v x) (hs:x.solid=true):aZ κ v.cells.toList x.cells:=by
  cases h with
  | top=>simp [V.solid] at hs
  | und=>simp [V.solid] at hs
  | d h =>
    rw [h.oneCell.2]
    exact .cons (.d h) .nil
  | agg h =>
    simp only [Value.cells,V.cells]
    clear hs
    rename_i cs l
    induction l generalizing cs with
    | nil=>cases h; exact .nil
    | cons x l ih=>cases h with | cons a r=>exact .cons (.d a) (ih r)
  | nil=>exact .cons (.nil _) .nil
  | osl h1 h2 =>
    rw [h2.oneCell.2]
    exact .cons (.osl h1 h2) .nil
  | ptr=>exact .cons (.ptr _ _) .nil
  | msl h1 h2=>exact .cons (.msl h1 h2) .nil
  | rp h1 h2=>exact .cons (.rp h1 h2) .nil
  | np=>exact .cons .np .nil
  | nf=>exact .cons .nf .nil
  | fn k h=>exact .cons (.fn k h) .nil
  | fnm h=>exact .cons (.fnm h) .nil
  | tup h=>simp [V.solid] at hs
  | agv h=>exact h
  | bp0 h=>exact .cons (.bp0 h) .nil
  | bp1 h=>exact .cons (.bp1 h) .nil
  | yes=>simp [V.solid] at hs
  | no=>simp [V.solid] at hs
  | tre h=>exact .cons (.tre h) .nil
  | trp=>exact .cons (.trp _ _ _ _) .nil
theorem aH2 {ts:List TypeId} {xs:List Operand} {ys:List AO} (h:nV P ts xs=some ys) (he:∀ n,aR κ (a.tmps.getD n undef) (lk s.env n)):aZ κ (xs.map a.eval) (ys.map (ev s)):=by
  induction ts generalizing xs ys with
  | nil=>cases xs <;> simp [nV] at h; subst h; exact .nil
  | cons t ts ih =>
    cases xs with
    | nil=>simp [nV] at h
    | cons x xs =>
      simp only [nV] at h
      split at h <;> simp at h
      rename_i h1 h2
      subst h; exact .cons (aCf h1 he) (ih h2)
theorem opd {T:TypeId} {x:Operand} {y:AO} {C:V→Prop} (h:trO P T x=some y) (he:∀ n,aR κ (a.tmps.getD n undef) (lk s.env n)) (hu:use (ev s y) C):∃ z,aR κ (a.eval x) z∧C z :=
  Q8 (aCf h he) hu
theorem bQ2 {xs:List V} {vs:List Value} {n:Nat} {v:Value} {u:V} (h:aZ κ vs xs) (a:aR κ v u):aR κ v (kbp xs[n]? u):=by
  unfold kbp
  split
  · rename_i m U hx
    cases a
    obtain ⟨w,_,hw⟩:=h.get hx
    cases hw with
    | bp0 h=>exact .bp0 h
    | bp1 h=>exact .bp0 h
  · exact a
theorem aMe:∀ {xs us:List V} {vs ws:List Value} (n:Nat),aZ κ vs xs→aZ κ ws us→aZ κ ((ws.zipIdx n).foldl (fun cs p=>cs.set p.2 p.1) vs) (putCells xs n us)
  | xs,[],vs,ws,n,h,hu=>by cases hu; exact h
  | xs,u::us,vs,ws,n,h,hu=>by
    cases hu with | cons a r =>
    simp only [QC,QD,putCells]
    exact aMe (n+1) (h.set n (bQ2 h a)) r
theorem aZd (off:Nat) (cs:Array Value) (us:Array Value) :
    us.zipIdx.foldl (fun (cs:Array Value) (c,j)=>cs.setIfInBounds (off+j) c) cs=((us.toList.zipIdx off).foldl (fun (cs:List Value) p=>cs.set p.2 p.1) cs.toList).toArray:=by
  rw [← Array.foldl_toList,Array.toList_zipIdx]
  have:∀ (l:List Value) (k:Nat) (cs:Array Value),(l.zipIdx k).foldl (fun (cs:Array Value) (p:Value×Nat)=>cs.setIfInBounds (off+p.2) p.1) cs=((l.zipIdx (off+k)).foldl (fun (cs:List Value) p=>cs.set p.2 p.1) cs.toList).toArray:=by
    intro l
    induction l with
    | nil=>intro k cs; simp
    | cons x l ih =>
      intro k cs
      simp only [QC,QD]
      rw [ih (k+1)]
      rw [← Nat.add_assoc]
      simp
  exact this us.toList 0 cs
theorem aY9 {fs:Array Field}:∀ {parts:List (Nat×Operand)} {ps:List (Nat×Nat×AO)} {C:List V→Prop} {c:List V} {cs:List Value},aCi P fs parts=some ps→(∀ n,aR κ (a.tmps.getD n undef) (lk s.env n)) →
    aZ κ cs c→wS s ps c C→∃ cs' c',Instr.fill (((fs.map fun f=>(f.offset,((P.info? f.type).map (·.size)).getD 0)))[·]?) cs.toArray (parts.map fun (i,x)=>(i,a.eval x))=some cs'.toArray∧aZ κ cs' c'∧C c'
  | [],ps,C,c,cs,h,he,hr,hp=>by
    simp [aCi] at h; subst h
    exact ⟨cs,c,rfl,hr,hp⟩
  | (i,x)::r,ps,C,c,cs,h,he,hr,hp=>by
    simp only [aCi] at h
    split at h
    · simp at h
    · rename_i f hf
      split at h <;> simp at h
      rename_i ti y ys hti hy hys
      subst h
      obtain ⟨z,hz,hso,hlen,hle,hrest⟩:=opd hy he hp
      have hc:=Z0 hz hso
      have hsz:(a.eval x).cells.size=ti.size:=by rw [← hlen,← hc.length]; simp
      obtain ⟨cs',c',h1,h2,h3⟩:=aY9 (cs:=((a.eval x).cells.toList.zipIdx f.offset).foldl (fun cs p=>cs.set p.2 p.1) cs) hys he (aMe f.offset hr hc) hrest
      refine ⟨cs',c',?_,h2,h3⟩
      simp only [QE,Instr.fill,Array.getElem?_map,hf,QA,hti,QB]
      have hl:=hr.length
      have hno:¬ (decide ((a.eval x).cells.size≠ti.size)||decide (f.offset+(a.eval x).cells.size>cs.toArray.size))=true:=by
        simp only [Bool.or_eq_true,decide_eq_true_eq]
        rintro (h | h)
        · exact h hsz
        · rw [hsz] at h; simp at h; omega
      rw [if_neg hno]
      rw [aZd]
      simpa using h1
theorem lU {t:TypeId} {ti:TypeInfo} (h:P.info? t=some ti) (w:World):(sizeOf t).run P w=.ok ti.size w:=by simp [sizeOf,typeInfo,h]
theorem bJf {fs:Array Field} (h:(fs.all fun f=>(P.info? f.type).isSome)=true) (w:World) :
    (fs.mapM fun f=>do pure (f.offset,← sizeOf f.type):Sem (Array (Nat×Nat))).run P w=.ok (fs.map fun f=>(f.offset,((P.info? f.type).map (·.size)).getD 0)) w:=by
  obtain ⟨l⟩:=fs
  have key:∀ l:List Field,(∀ f∈l,(P.info? f.type).isSome=true)→(l.mapM fun f=>(do pure (f.offset,← sizeOf f.type):Sem (Nat×Nat))).run P w=.ok (l.map fun f=>(f.offset,((P.info? f.type).map (·.size)).getD 0)) w:=by
    intro l hl
    induction l with
    | nil=>rfl
    | cons f l ih =>
      obtain ⟨ti,hti⟩:=Option.isSome_iff_exists.1 (hl f (by simp))
      rw [List.mapM_cons]
      simp only [Sem.run_bind,lU hti,Result.andThen_ok,Sem.run_pure,ih (fun g hg=>hl g (by simp [hg])),QE,hti,QA,QB]
  have h2:∀ f∈l,(P.info? f.type).isSome=true:=by simpa using h
  rw [List.mapM_toArray]
  simp only [Sem.run_map,key l h2,Result.andThen_ok,List.map_toArray]
end
end Go.Ab
