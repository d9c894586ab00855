/- The operations that change the state; regions of operations. -/
import Derived.Test.YtcbkkemcgcdhdaaGreatAbT3s
namespace Go.Ab
open Go Go.RowKit
open _root_.List renaming replicate→QA,length_replicate→QC,take_of_length_le→QE,eq_of_mem_replicate→QF,flatten_cons→QI,mem_cons→QL,length_append→QM,mem_map→QN,nil_sublist→QO,length_take→QP,mem_of_mem_take→QQ,all_eq_true→QR,replicate_succ→QS
open _root_.Nat renaming le_refl→QB,mul_le_mul_left→QD,add_mul→QG,add_zero→QJ,one_mul→QT,mul_le_mul_right→QU
open _root_.Array renaming length_toList→QH,map→QV,range→QW
open _root_.Bool renaming and_eq_true→QK
def lJ (P:Program) (s:St) (d:Option Nat) (f:FuncId) (vs:List V) (K:V→St→Prop):Prop :=
  ∀ (E:Entry) (N:Nat) (κ:Ctx) (w:World) (a:Act) (cargs:List Value),(∀ n∈E.fb,N≤n∧n<NX)→(∀ n,d=some n→n<N)→Ok E N κ w a s→aZ κ cargs vs →
    Calls P f cargs.toArray w fun e w'=>∃ v x κ' s',e=.returned v∧Ok E N κ' w' a s'∧aR κ' v x∧K x s'
def St.putO (s:St) (d:Option Nat) (v:V):St :=
  match d with
  | some d=>s.put d v
  | none=>s
def xL (s:St) (sz:Nat):List AO→(List (List D)→Prop)→Prop
  | [],C=>C []
  | x::r,C=>use (ev s x) fun v=>v.solid=true∧∃ ds,V.asDs v.cells=some ds∧ds.length=sz∧xL s sz r fun l=>C (ds::l)
def G8 (P:Program) (f:FuncId):Bool :=
  match P.funcs[f]? with
  | some fn=>fn.body.isSome&&fn.name != "runtime.NumGoroutine"
  | none=>false
def qD (P:Program) (f:FuncId):Bool:=Nat.blt f MVB&&G8 P f
theorem bPe {P:Program} {f:FuncId} (h:qD P f=true):f<MVB∧G8 P f=true:=by
  unfold qD at h
  rw [QK] at h
  exact ⟨Nat.le_of_ble_eq_true h.1,h.2⟩
def aM7 (s:St) (d:Nat) (e:TypeId) (sz bytes:Nat) (t:Nat) (xs ys:List (List D)) (K:St→Prop):Prop :=
  (xs.length+ys.length) * bytes≤140737488355328∧(s.dn t).fresh d=true∧(s.dn t).clean t=true∧K ⟨(d,.osl d e sz (xs++ys))::(s.dn t).env,(s.dn t).bx⟩
def Wk (s s':St):Prop:=∀ E N κ w a,(∀ n∈E.fb,N≤n∧n<NX)→Ok E N κ w a s→∃ κ',Ok E N κ' w a s'
theorem Wk.refl (s:St):Wk s s:=fun _ _ κ _ _ _ h=>⟨κ,h⟩
def bR4 (P:Program) (s:St) (c:Bool) (d:Option Nat) (f:FuncId) (vs:List V) (C:V→St→Prop):Prop :=
  ∃ r s1,(c=true→lJ P s d f vs fun x s'=>x=r∧s'=s1)∧(c=false→Wk s s1)∧C r s1
def aMn (l:List (List D)):List V:=l.flatten.map V.d
def iaT (s:St) (d sz:Nat) (x i:V) (K:St→Prop):Prop :=
  match x with
  | .tre n=>iK i fun k=>0≤k∧((∃ l ds ns,bget s.bx n=some [.trc sz l]∧l[k.toNat]?=some ds∧ns.Nodup∧n∉ns∧(∀ m∈ns,NX≤m∧s.fresh m=true) ∧
      K ⟨(d,.trp n sz k.toNat 0)::s.env,(jO ns ds).2++fC s.bx n (.tro sz k.toNat l::(jO ns ds).1)⟩)∨∃ l c,bget s.bx n=some (.tro sz k.toNat l::c)∧K (s.put d (.trp n sz k.toNat 0)))
  | _=>False
def bOo (s:St) (d sz:Nat) (xs:List AO) (K:St→Prop):Prop:=s.fresh d=true∧∃ l dead,tJ s sz xs=some (l,dead)∧dead.Nodup∧d∉dead∧K ⟨(d,.tre d)::s.env,(d,[.trc sz l])::kill s.bx dead⟩
def bJd (s:St) (d sz:Nat) (xs:List AO) (K:St→Prop):Prop:=s.fresh d=true∧xL s sz xs fun l=>K ⟨(d,.tre d)::s.env,(d,[.trs sz l])::s.bx⟩
def aY4 (s:St) (d sz bytes:Nat) (x y:V) (K:St→Prop):Prop:=∃ l1 N1,xR s sz x=some (l1,N1) ∧
  srK y fun sz' ys=>sz'=sz∧d∉N1∧(l1.length+ys.length) * bytes≤140737488355328∧s.fresh d=true∧K ⟨(d,.tre d)::s.env,(d,[.trs sz (l1++ys)])::kill s.bx N1⟩
def stS (s:St) (b sz i o n:Nat) (y:V) (K:St→Prop):Prop:=∃ l ds dv,bget s.bx b=some [.trs sz l]∧l[i]?=some ds∧y.solid=true∧V.asDs y.cells=some dv∧dv.length=n∧o+n≤ds.length ∧
  K ⟨s.env,fC s.bx b [.trs sz (l.set i (ds.take o++dv++ds.drop (o+n)))]⟩
def bLt (s:St) (d:Nat) (e:TypeId) (sz bytes t:Nat) (e':TypeId) (xs:List (List D)) (y r:V):Prop :=
  use y fun y=>srK y fun sz' ys=>sz'=sz∧(e'=e∨e'=XE)∧(xs.length+ys.length) * bytes≤140737488355328∧(s.dn t).fresh d=true∧(s.dn t).clean t=true∧r=.d (.sl sz (xs++ys))
def bF2 (s:St) (d sz bytes:Nat) (z:List D) (x y:V) (K:St→Prop):Prop :=
  iK x fun n=>iK y fun m=>n=m∧0≤n∧n * bytes≤140737488355328∧s.fresh d=true∧K ⟨(d,.tre d)::s.env,(d,[.trc sz (QA n.toNat z)])::s.bx⟩
def bJ0 (s:St) (d:Nat) (e:TypeId) (sz bytes:Nat) (z:List D) (x y:V) (K:St→Prop):Prop :=
  iK x fun n=>iK y fun m=>n=m∧0≤n∧n * bytes≤140737488355328∧s.fresh d=true∧K ⟨(d,.osl d e sz (QA n.toNat z))::s.env,s.bx⟩
def aMd (s:St) (d sz:Nat) (x:AO) (lo hi mx:Option AO) (K:St→Prop):Prop:=use (ev s x) fun x=>match x with
  | .tre n=>∃ l,bget s.bx n=some [.trc sz l]∧lo=none∧mx=none∧lK s hi l.length fun h=>0≤h∧h≤l.length∧d∉[n]∧s.fresh d=true∧K ⟨(d,.tre d)::s.env,(d,[.trc sz (l.take h.toNat)])::kill s.bx [n]⟩
  | _=>False
def aop (P:Program) (s:St) (K:St→Prop):AOp→Prop
  | .slc d sz x lo hi mx=>vop s (fun v=>K (s.put d v)) (.slc d sz x lo hi mx)∨aMd s d sz x lo hi mx K
  | .mks d e sz bytes z x y=>use (ev s x) fun x=>use (ev s y) fun y=>(iK x fun n=>iK y fun m=>n=m∧0≤n∧n * bytes≤140737488355328∧s.fresh d=true∧K ⟨(d,.msl d sz 0 n.toNat n.toNat)::s.env,(d,aMn (QA n.toNat z))::s.bx⟩)∨bF2 s d sz bytes z x y K∨bJ0 s d e sz bytes z x y K
  | .csb d _ x=>use (ev s x) fun x=>sK x fun b=>s.fresh d=true∧K ⟨(d,.tre d)::s.env,(d,[.trc 1 (b.data.toList.map fun u=>[D.i .u8 u.toNat])])::s.bx⟩
  | .asg d x=>use (ev s x) fun v=>K (s.put d v)∨(match v with
    | .osl t e sz l=>t≠d∧((s.dn t).dn d).clean t=true∧((s.dn t).dn d).clean d=true∧K (((s.dn t).dn d).put d (.osl d e sz l))
    | _=>False)
  | .box d T x=>use (ev s x) fun v=>v.solid=true∧s.fresh d=true∧V.noPtrs d v.cells=true∧K ⟨(d,.ptr d 0)::s.env,(d,v.cells.map (aAp d T))::s.bx⟩
  | .bld d z ps=>vop s (fun v=>K (s.put d v)) (.bld d z ps)∨wS s ps z fun c=>K (s.put d (.agv c))
  | .alc d z=>s.fresh d=true∧K ⟨(d,.ptr d 0)::s.env,(d,z)::s.bx⟩
  | .st n x y=>use (ev s x) fun x=>use (ev s y) fun y=>match x with
    | .ptr b o=>∃ c,bget s.bx b=some c∧nU c=true∧y.solid=true∧y.cells.length=n∧o+n≤c.length∧K ⟨s.env,fC s.bx b (putCells c o y.cells)⟩
    | .trp b sz i o=>(∃ l c,bget s.bx b=some (.tro sz i l::c)∧y.solid=true∧y.cells.length=n∧o+n≤c.length∧K ⟨s.env,fC s.bx b (.tro sz i l::putCells c o y.cells)⟩)∨stS s b sz i o n y K
    | _=>False
  | .ia d sz x i=>vop s (fun v=>K (s.put d v)) (.ia d sz x i)∨use (ev s x) fun x=>use (ev s i) fun i=>iaT s d sz x i K
  | .bsl d e sz xs=>(s.fresh d=true∧xL s sz xs fun l=>K ⟨(d,.osl d e sz l)::s.env,s.bx⟩)∨bOo s d sz xs K∨bJd s d sz xs K
  | .app d e sz bytes x y=>use (ev s x) fun x=>use (ev s y) fun y=>(srK y fun sz' ys=>sz'=sz∧match x with
    | .nil _=>aM7 s d e sz bytes d [] ys K
    | .osl t e' sz'' xs=>(e'=e∨e'=XE)∧sz''=sz∧aM7 s d e' sz bytes t xs ys K
    | _=>False)∨aWn s d sz bytes x y K∨aY4 s d sz bytes x y K
  | .call d f args=>lJ P s d f (args.map (ev s)) fun x s'=>K (s'.putO d x)
  | .callv d f args=>use (ev s f) fun f=>match f.vw with
    | .fn g caps=>(qD P g=true∧lJ P s d g (args.map (ev s)++caps) fun x s'=>K (s'.putO d x))∨(∃ q,g=mvc q∧G8 P q=true∧lJ P s d q (caps++args.map (ev s)) fun x s'=>K (s'.putO d x))
    | _=>False
  | .g j want o=>bK (lk s.env j) fun p b=>match o with
    | .call (some d) f args=>bR4 P s (p&&(b==want)) (some d) f (args.map (ev s)) fun r s1=>K (s1.put d (.ite (p&&(b==want)) r))
    | .callv (some d) f args=>∃ r s1,((p&&(b==want))=true→use (ev s f) fun f=>match f.vw with
      | .fn g caps=>qD P g=true∧lJ P s (some d) g (args.map (ev s)++caps) fun x s'=>x=r∧s'=s1
      | _=>False)∧((p&&(b==want))=false→Wk s s1)∧K (s1.put d (.ite (p&&(b==want)) r))
    | .bsl d e sz xs=>∃ r,((p&&(b==want))=true→s.fresh d=true∧xL s sz xs fun l=>r=.d (.sl sz l))∧K (s.put d (.ite (p&&(b==want)) r))
    | .app d e sz bytes x y=>∃ t e' xs r,((p&&(b==want))=true→use (ev s x) fun x=>x=.osl t e' sz xs∧bLt s d e sz bytes t e' xs (ev s y) r)∧K ((s.dn t).put d (.ite (p&&(b==want)) r))
    | o=>match o.dst with
      | some d=>∃ r,((p&&(b==want))=true→vop s (fun v=>v=r) o)∧K (s.put d (.ite (p&&(b==want)) r))
      | none=>False
  | o=>match o.dst with
    | some d=>vop s (fun v=>K (s.put d v)) o
    | none=>False
def bN (P:Program) (K:St→Prop):List AOp→St→Prop
  | [],s=>K s
  | o::r,s=>aop P s (bN P K r) o
section
variable {E:Entry} {N:Nat} {κ:Ctx} {w:World} {a:Act} {s:St} {P:Program} {K:St→Prop} {Q:Exit→Act→World→Prop}
theorem cA9 {P:Program} {s:St} {K:St→Prop}:∀ {d:Option Nat},¬ aop P s K (aO1 d)
  | some _,h=>h
  | none,h=>h
theorem bI5 {d:Nat} {T:TypeId} (h2:κ.ty d=T) {vs:List Value} {xs:List V} (h:aZ κ vs xs):aZ κ vs (xs.map (aAp d T)):=by
  induction xs generalizing vs with
  | nil=>cases h; exact .nil
  | cons x xs ih =>
    cases h with
    | cons a r =>
      refine .cons ?_ (ih r)
      cases x with
      | np=>cases a; exact .bp0 h2
      | _=>exact a
theorem cJ4 {T:TypeId} {x:Operand} {y:AO} {d:Nat} {o:Oper} (ho:o.op=.box T x) (hd:o.dst=some d) (hdN:d<N) (hfb:∀ n∈E.fb,N≤n∧n<NX) (hx:trO P T x=some y) (h:Ok E N κ w a s)
    (hv:use (ev s y) fun v=>v.solid=true∧s.fresh d=true∧V.noPtrs d v.cells=true∧K ⟨(d,.ptr d 0)::s.env,(d,v.cells.map (aAp d T))::s.bx⟩):o.wp P a w (KC E N K) Q:=by
  obtain ⟨p,hp,h1,h2,h3,hK⟩:=opd hx h.env hv
  have hc:=Z0 hp h1
  obtain ⟨κ',hok⟩:=h.allocB hdN hfb h2 T (fun κ' hS hm ho _ hty=>bI5 hty (aZ.move (show κ.S.le κ'.S by rw [hS]; exact Mem.le_refl _) hc (V.fitss_m hm ho _ h3))) (v:=.pointer (some ⟨w.heap.size,0,none⟩)) (x:=.ptr d 0) fun κ' hm=>by
    have e:=aR.ptr (κ:=κ') d 0
    rwa [hm] at e
  unfold Oper.wp
  have hr:(execOp a.eval o).run P w=.ok (.value (.pointer (some ⟨w.heap.size,0,none⟩))) (w.alloc (.cells (a.eval x).cells T)):=by
    unfold execOp; rw [ho]; simp [Instr.box,newVar,newRow]
  rw [hr,Oper.upon_value,hd]
  exact ⟨κ',_,hK,hok⟩
theorem bX3 {T:TypeId} {z:List V} {d:Nat} {o:Oper} (ho:o.op=.alloc T) (hd:o.dst=some d) (hdN:d<N) (hfb:∀ n∈E.fb,N≤n∧n<NX) (hz:M6 P T=some z) (h:Ok E N κ w a s)
    (hv:s.fresh d=true∧K ⟨(d,.ptr d 0)::s.env,(d,z.map (aAp d T))::s.bx⟩):o.wp P a w (KC E N K) Q:=by
  unfold M6 at hz
  split at hz
  · rename_i ti hti
    split at hz
    · rename_i zv hzv
      obtain ⟨κ',hok⟩:=h.allocB hdN hfb hv.1 T (cs:=zv.cells) (cells:=z.map (aAp d T)) (fun κ' _ _ _ _ hty=>bI5 hty (aI4 hz κ')) (v:=.pointer (some ⟨w.heap.size,0,none⟩)) (x:=.ptr d 0) fun κ' hm=>by
        have e:=aR.ptr (κ:=κ') d 0
        rwa [hm] at e
      unfold Oper.wp
      have hr:(execOp a.eval o).run P w=.ok (.value (.pointer (some ⟨w.heap.size,0,none⟩))) (w.alloc (.cells zv.cells T)):=by
        unfold execOp; rw [ho]; simp [Instr.alloc,zeroValue,typeInfo,hti,hzv,newVar,newRow]
      rw [hr,Oper.upon_value,hd]
      exact ⟨κ',_,hv.2,hok⟩
    · simp at hz
  · simp at hz
theorem cCt {T U:TypeId} {x y:Operand} {x' y':AO} {ti:TypeInfo} {o:Oper} (ho:o.op=.store T x y) (hd:o.dst=none) (hx:trO P U x=some x') (hy:trO P T y=some y') (hti:P.info? T=some ti) (h:Ok E N κ w a s)
    (hv:use (ev s x') fun x=>use (ev s y') fun y=>match x with
    | .ptr b o=>∃ c,bget s.bx b=some c∧nU c=true∧y.solid=true∧y.cells.length=ti.size∧o+ti.size≤c.length∧K ⟨s.env,fC s.bx b (putCells c o y.cells)⟩
    | .trp b sz i o=>(∃ l c,bget s.bx b=some (.tro sz i l::c)∧y.solid=true∧y.cells.length=ti.size∧o+ti.size≤c.length∧K ⟨s.env,fC s.bx b (.tro sz i l::putCells c o y.cells)⟩)∨stS s b sz i o ti.size y K
    | _=>False):o.wp P a w (KC E N K) Q:=by
  obtain ⟨p,hp,h1⟩:=opd hx h.env hv
  obtain ⟨q,hq,h2⟩:=opd hy h.env h1
  split at h2
  · rename_i n off
    obtain ⟨c,hc,hpl,hs,hl,hle,hK⟩:=h2
    have hu:=Z0 hq hs
    obtain ⟨cs,hh,hr,_⟩:=h.good.plain hc hpl
    have hlen:(a.eval y).cells.size=ti.size:=by rw [← hl,← hu.length]; simp
    have hcl:cs.toList.length=c.length:=hr.length
    have hnew:=aMe off hr hu
    have hfit:off+(a.eval y).cells.toList.length≤cs.toList.length:=by simp only [QH] at hcl ⊢; omega
    rw [aQe off hfit] at hnew
    have h1c:=cells_one hq hs
    have hrun:=run_storeCells_at (P:=P) (κ.m n) off (κ.ty n) (a.eval y).cells.toList 0 cs w hh (by simp only [QH] at hfit ⊢; omega) h1c
    simp only [QJ] at hrun
    have hr':(execOp a.eval o).run P w=.ok .skip (w.setRow (κ.m n) (cs.toList.take off++(a.eval y).cells.toList++cs.toList.drop (off+(a.eval y).cells.toList.length)).toArray):=by
      unfold execOp; rw [ho]
      simp only [Instr.storeAt,hp.toPtr,Instr.sureAddr,storeVar]
      simp [lU hti,hlen,hrun]
    unfold Oper.wp
    rw [hr',Oper.upon_skip,hd]
    have hokk:=h.store hc hpl (cs':=(cs.toList.take off++(a.eval y).cells.toList++cs.toList.drop (off+(a.eval y).cells.toList.length)).toArray) (c':=putCells c off q.cells) (by simpa using hnew)
      (w':=w.setRow (κ.m n) (cs.toList.take off++(a.eval y).cells.toList++cs.toList.drop (off+(a.eval y).cells.toList.length)).toArray) (setRow_heap w (κ.m n) cs _ (κ.ty n) (0,0) hh) rfl rfl rfl (by simp) (fun b hb=>setRow_other w _ b _ hb)
    exact ⟨κ,_,hK,hokk⟩
  · rename_i n sz i off
    rcases h2 with ⟨l,c,hc,hs,hl,hle,hK⟩ | ⟨l,ds,dv,hc,hi,hs,hdv,hl,hle,hK⟩
    · have hu:=Z0 hq hs
      have hlen:(a.eval y).cells.size=ti.size:=by rw [← hl,← hu.length]; simp
      have h1c:=cells_one hq hs
      have hul:(a.eval y).cells.toList.length=ti.size:=by simpa using hlen
      obtain ⟨b,cs,T0,hm,hh,hfit,hokk⟩:=h.storeRow hc (off:=off) (us:=(a.eval y).cells.toList) (cells':=putCells c off q.cells) (by omega) (fun {cs} hr=>by
        have hnew:=aMe off hr hu
        rw [aQe off (by have:=hr.length; omega)] at hnew
        exact hnew)
      have hrun:=Row.stores (P:=P) b (i * sz+off) T0 (a.eval y).cells.toList 0 cs w hh (by omega) h1c
      simp only [QJ] at hrun
      have hex:a.eval x=.pointer (some ⟨b,i * sz+off,none⟩):=by
        generalize a.eval x=v at hp
        cases hp
        rw [hm]
      have hr':(execOp a.eval o).run P w=.ok .skip (w.setRow b (cs.toList.take (i * sz+off)++(a.eval y).cells.toList++cs.toList.drop (i * sz+off+(a.eval y).cells.toList.length)).toArray):=by
        unfold execOp; rw [ho]
        simp only [Instr.storeAt,hex,Instr.sureAddr,storeVar]
        simp [lU hti,hlen,hrun]
      unfold Oper.wp
      rw [hr',Oper.upon_skip,hd]
      exact ⟨κ,_,hK,hokk⟩
    · have hu:=(Z0 hq hs).asDs hdv
      have hlen:(a.eval y).cells.size=ti.size:=by rw [← hl,← hu.length]; simp
      have h1c:=cells_one hq hs
      have hul:(a.eval y).cells.toList.length=ti.size:=by simpa using hlen
      obtain ⟨b,cs,T0,hm,hh,hfit,hokk⟩:=h.storeS hc hi (off:=off) hu (by omega)
      have hrun:=Row.stores (P:=P) b (i * sz+off) T0 (a.eval y).cells.toList 0 cs w hh (by omega) h1c
      simp only [QJ] at hrun
      have hex:a.eval x=.pointer (some ⟨b,i * sz+off,none⟩):=by
        generalize a.eval x=v at hp
        cases hp
        rw [hm]
      have hr':(execOp a.eval o).run P w=.ok .skip (w.setRow b (cs.toList.take (i * sz+off)++(a.eval y).cells.toList++cs.toList.drop (i * sz+off+(a.eval y).cells.toList.length)).toArray):=by
        unfold execOp; rw [ho]
        simp only [Instr.storeAt,hex,Instr.sureAddr,storeVar]
        simp [lU hti,hlen,hrun]
      unfold Oper.wp
      rw [hr',Oper.upon_skip,hd]
      rw [hl] at hokk
      exact ⟨κ,_,hK,hokk⟩
  · exact h2.elim
theorem aWk {e:TypeId} {sz:Nat}:∀ {n:Nat} {parts:List (Nat×Operand)} {xs:List AO} {C:List (List D)→Prop},wL P e n parts=some xs→(∀ n,aR κ (a.tmps.getD n undef) (lk s.env n))→xL s sz xs C →
    ∃ l cs,bP κ.S cs l.flatten∧(∀ x∈l,x.length=sz)∧l.length=xs.length∧cs.length=xs.length * sz∧C l ∧
      ∀ pre rest:List Value,pre.length=n * sz→rest.length=xs.length * sz→Instr.fill (fun i=>some (i * sz,sz)) (pre++rest).toArray (parts.map fun (i,x)=>(i,a.eval x))=some (pre++cs).toArray
  | n,[],xs,C,h,he,hv=>by
    simp [wL] at h; subst h
    refine ⟨[],[],.nil,by simp,rfl,by simp,hv,fun pre rest _ hr=>?_⟩
    have:rest=[]:=List.eq_nil_of_length_eq_zero (by simpa using hr)
    subst this; rfl
  | n,(i,x)::r,xs,C,h,he,hv=>by
    simp only [wL] at h
    split at h
    · rename_i hi; subst hi
      split at h <;> simp at h
      rename_i y ys hy hys
      subst h
      obtain ⟨p,hp,hs,ds,hds,hdl,hrest⟩:=opd hy he hv
      obtain ⟨l,cs,h1,h2,h3,h4,h5,h6⟩:=aWk hys he hrest
      have hc:=(Z0 hp hs).asDs hds
      have hcl:(a.eval x).cells.toList.length=sz:=by rw [hc.length,hdl]
      refine ⟨ds::l,(a.eval x).cells.toList++cs,by rw [QI]; exact hc.append h1,?_,by simp [h3],?_,h5,fun pre rest hpre hr=>?_⟩
      · intro z hz
        rcases QL.1 hz with rfl | hz
        · exact hdl
        · exact h2 z hz
      · simp [h4,QG]; simp at hcl; omega
      · simp only [List.length_cons,QG,QT] at hr
        have hcs:(a.eval x).cells.size=sz:=by simpa using hcl
        have hno:¬ (decide ((a.eval x).cells.size≠sz)||decide (i * sz+(a.eval x).cells.size>(pre++rest).toArray.size))=true:=by
          simp only [Bool.or_eq_true,decide_eq_true_eq]
          rintro (h | h)
          · exact h hcs
          · rw [hcs] at h; simp at h; omega
        simp only [List.map_cons,Instr.fill]
        rw [if_neg hno,aZd,aQe (i * sz) (by simp only [QM]; omega)]
        have e1:(pre++rest).take (i * sz)=pre:=by rw [← hpre]; exact List.take_left
        have e2:(pre++rest).drop (i * sz+(a.eval x).cells.toList.length)=rest.drop sz:=by rw [hcl,← hpre,← List.drop_drop]; simp
        have:=h6 (pre++(a.eval x).cells.toList) (rest.drop sz) (by simp only [QM,hcl,hpre,QG,QT]) (by simp only [List.length_drop]; omega)
        simp only [e1,e2]
        rw [List.append_assoc] at this ⊢
        rw [this]; simp
    · simp at h
theorem bVd {T e:TypeId} {len d:Nat} {parts:Array (Nat×Operand)} {xs:List AO} {ti:TypeInfo} {z:Value} {o:Oper} (ho:o.op=.buildSlice T len parts) (hd:o.dst=some d) (hdN:d<N) (hT:P.underlying T=some (.slice e)) (hti:P.info? e=some ti)
    (hz:ti.zero=some z) (hxs:wL P e 0 parts.toList=some xs) (hlen:xs.length=len) (hsz:0<ti.size) (hsm:len * ti.size≤2 ^ 24) (h:Ok E N κ w a s)
    (hv:s.fresh d=true∧xL s ti.size xs fun l=>K ⟨(d,.osl d e ti.size l)::s.env,s.bx⟩):o.wp P a w (KC E N K) Q:=by
  obtain ⟨hf,hv⟩:=hv
  obtain ⟨l,cs,h1,h2,h3,h4,hK,h6⟩:=aWk hxs h.env hv
  have hmx:len≤maxLen:=by
    have:len * 1≤len * ti.size:=QD _ hsz
    simp only [maxLen]; omega
  have hfill:∀ A:Array Value,A.size=len * ti.size→Instr.fill (fun i=>some (i * ti.size,ti.size)) A (parts.toList.map fun (i,x)=>(i,a.eval x))=some cs.toArray:=by
    intro A hA
    have:=h6 [] A.toList (by simp) (by simp [hA,hlen])
    simpa using this
  have hr:(execOp a.eval o).run P w=.ok (.value (.slice (some ⟨w.heap.size,0,none⟩) len len)) (w.alloc (.cells cs.toArray e)):=by
    unfold execOp; rw [ho]
    have hn:¬ len * ti.size>2 ^ 24:=by omega
    have hm:(QV (fun x=>match x with | (i,x)=>(i,a.eval x)) parts).toList=parts.toList.map fun (i,x)=>(i,a.eval x):=by simp
    simp only [Instr.buildSlice,Sem.run_bind,fJ hT,Result.andThen_ok,lU hti,if_neg hn,Sem.run_pure,Sem.run_ite,hm]
    by_cases h0:len * ti.size=0
    · simp only [h0,if_true,Result.andThen_ok]
      rw [hfill _ (by simp [h0])]
      simp [newRow]
    · simp only [if_neg h0,zeroValue,typeInfo,Sem.run_bind,run_program,Result.andThen_ok,hti,Sem.run_pure,hz]
      rw [hfill _ (by simp)]
      simp [newRow]
  unfold Oper.wp
  rw [hr,Oper.upon_value,hd]
  obtain ⟨κ',hok⟩:=h.newrow hdN hf (e:=e) (sz:=ti.size) (n:=len) (cap:=len) (l:=l) (cs:=cs) (cur:=cs.toArray) h1 (by rw [h3,hlen]) h2 (QB _) hmx (by rw [h4,hlen]) (by simp [h4,hlen]) (by rw [show cs.toArray.toList=cs by simp]; exact QE (by rw [h4,hlen]; exact QB _))
    (w':=w.alloc (.cells cs.toArray e)) rfl rfl rfl rfl
  exact ⟨κ',_,hK,hok⟩
theorem bZt {T e:TypeId} {len d:Nat} {parts:Array (Nat×Operand)} {xs:List AO} {ti:TypeInfo} {z:Value} {o:Oper} (ho:o.op=.buildSlice T len parts) (hd:o.dst=some d) (hdN:d<N) (hfb:∀ n∈E.fb,N≤n∧n<NX) (hT:P.underlying T=some (.slice e)) (hti:P.info? e=some ti)
    (hz:ti.zero=some z) (hxs:wL P e 0 parts.toList=some xs) (hlen:xs.length=len) (hsz:0<ti.size) (hsm:len * ti.size≤2 ^ 24) (h:Ok E N κ w a s)
    (hv:bJd s d ti.size xs K):o.wp P a w (KC E N K) Q:=by
  obtain ⟨hf,hv⟩:=hv
  obtain ⟨l,cs,h1,h2,h3,h4,hK,h6⟩:=aWk hxs h.env hv
  have hmx:len≤maxLen:=by
    have:len * 1≤len * ti.size:=QD _ hsz
    simp only [maxLen]; omega
  have hfill:∀ A:Array Value,A.size=len * ti.size→Instr.fill (fun i=>some (i * ti.size,ti.size)) A (parts.toList.map fun (i,x)=>(i,a.eval x))=some cs.toArray:=by
    intro A hA
    have:=h6 [] A.toList (by simp) (by simp [hA,hlen])
    simpa using this
  have hr:(execOp a.eval o).run P w=.ok (.value (.slice (some ⟨w.heap.size,0,none⟩) len len)) (w.alloc (.cells cs.toArray e)):=by
    unfold execOp; rw [ho]
    have hn:¬ len * ti.size>2 ^ 24:=by omega
    have hm:(QV (fun x=>match x with | (i,x)=>(i,a.eval x)) parts).toList=parts.toList.map fun (i,x)=>(i,a.eval x):=by simp
    simp only [Instr.buildSlice,Sem.run_bind,fJ hT,Result.andThen_ok,lU hti,if_neg hn,Sem.run_pure,Sem.run_ite,hm]
    by_cases h0:len * ti.size=0
    · simp only [h0,if_true,Result.andThen_ok]
      rw [hfill _ (by simp [h0])]
      simp [newRow]
    · simp only [if_neg h0,zeroValue,typeInfo,Sem.run_bind,run_program,Result.andThen_ok,hti,Sem.run_pure,hz]
      rw [hfill _ (by simp)]
      simp [newRow]
  unfold Oper.wp
  rw [hr,Oper.upon_value,hd]
  have hll:l.length=len:=by rw [h3,hlen]
  obtain ⟨κ',hok⟩:=h.newRowS hdN hfb hf (dead:=[]) (by simp) (by simp) (w':=w.alloc (.cells cs.toArray e)) (cur:=cs.toArray) (e:=e) (sz:=ti.size) (cap:=len) (l:=l) rfl rfl rfl rfl (by simp [h4,hlen]) (by omega) hmx h2
    (by rw [show cs.toArray.toList.take (l.length * ti.size)=cs by simp; rw [QE]; rw [h4,h3]; exact QB _]; exact h1)
  rw [hll] at hok
  exact ⟨κ',_,hK,hok⟩
theorem cEm {T e:TypeId} {x i:Operand} {y j:AO} {ti:TypeInfo} {d:Nat} {o:Oper} (ho:o.op=.indexAddr T x i) (hd:o.dst=some d) (hdN:d<N) (hfb:∀ n∈E.fb,N≤n∧n<NX) (hx:trO P T x=some y) (hi:trO P 3 i=some j) (hT:P.underlying T=some (.slice e)) (hti:P.info? e=some ti) (h:Ok E N κ w a s)
    (hv:use (ev s y) fun x=>use (ev s j) fun i=>iaT s d ti.size x i K):o.wp P a w (KC E N K) Q:=by
  obtain ⟨p,hp,h1⟩:=opd hx h.env hv
  obtain ⟨q,hq,h2⟩:=opd hi h.env h1
  unfold iaT at h2
  split at h2
  · rename_i n
    obtain ⟨k,m,hm,_,_,h0,hK⟩:=E5 hq h2
    have run:∀ b len cap,a.eval x=.slice (some ⟨b,0,none⟩) len cap→m.toNat<len→(execOp a.eval o).run P w=.ok (.value (.pointer (some ⟨b,m.toNat * ti.size,none⟩))) w:=by
      intro b len cap hex hlt
      unfold execOp; rw [ho]
      simp only [hex,hm]
      simp [Instr.indexAt,asIntOf,fJ hT,h0,show m<(len:Int) by omega,lU hti,uI]
    have hex:a.eval x=κ.hv n:=by
      generalize a.eval x=v at hp
      cases hp with | tre h=>exact h.symm
    unfold Oper.wp
    rcases hK with ⟨l,ds,ns,k1,k2,k3,k4,k5,hK⟩ | ⟨l,c,k1,hK⟩
    · have hlt:=(List.getElem?_eq_some_iff.1 k2).1
      obtain ⟨⟨b,cap,e1,e2⟩,κ',e3,hok⟩:=h.openRow hfb k1 k2 k3 k4 (fun m hm=>(k5 m hm).1) (fun m hm=>(k5 m hm).2)
      rw [run b _ _ (hex.trans e1) hlt,Oper.upon_value,hd]
      refine ⟨κ',_,hK,hok.put hdN ?_⟩
      have r:=aR.trp (κ:=κ') n ti.size m.toNat 0
      rw [show κ'.m n=b from (congrArg Prod.fst e3).trans e2] at r
      exact r
    · obtain ⟨b,cap,B,C,cs,T0,T',hmt,hh,_,_,_,_,hil,_⟩:=(h.good.box n _ k1).toOpened
      rw [run b l.length cap (by rw [hex]; show (κ.mt n).2.2=_; rw [hmt]) hil,Oper.upon_value,hd]
      refine ⟨κ,_,hK,h.put hdN ?_⟩
      have r:=aR.trp (κ:=κ) n ti.size m.toNat 0
      rw [show κ.m n=b from congrArg Prod.fst hmt] at r
      exact r
  · exact h2.elim
theorem bB5 {bx} (g:Good E κ w bx) {U:TypeId} (hU:P.underlying U=some .string∨∃ e',P.underlying U=some (.slice e')) {v:Value} {x:V} {C:Nat→List (List D)→Prop} (h:aR κ v x) (hu:srK x C) :
    ∃ sz l us,vH P sz U v l.length us w∧bP κ.S us l.flatten∧(∀ y∈l,y.length=sz)∧C sz l:=by
  have sl:∀ {x:V},aR κ v x→slK x C→∃ sz l us,vH P sz U v l.length us w∧bP κ.S us l.flatten∧(∀ y∈l,y.length=sz)∧C sz l:=by
    intro x h hu
    obtain ⟨sz,l,hr,hC⟩:=aGy h hu
    refine ⟨sz,l,?_⟩
    rcases hr.slice with ⟨rfl,rfl⟩ | ⟨a,cap,rfl,rfl,_⟩ | ⟨b,off,cap,vs,rfl,h1,h2,h3,h4,h5,h6⟩
    · exact ⟨[],⟨hU.symm,fun _=>rfl,run_firstCells_none w sz 0 0 0,run_firstCells_none w.drew sz 0 0 0,by simp,by simp⟩,.nil,by simp,hC⟩
    · exact ⟨[],⟨hU.symm,fun _=>rfl,run_firstCells_some w sz 0 a 0 cap [] (by simp) (by simp),run_firstCells_some w.drew sz 0 a 0 cap [] (by simp) (by simp),by simp,by simp⟩,.nil,by simp,hC⟩
    · have hc:=g.cells h4
      exact ⟨vs,⟨hU.symm,fun _=>rfl,run_firstCells_some w sz _ _ _ cap vs h3 hc,run_firstCells_some w.drew sz _ _ _ cap vs h3 (by simpa using hc),h3,h6.oneCell⟩,h6,h5,hC⟩
  unfold srK at hu
  split at hu
  · rename_i b
    cases h with
    | d h =>
      cases h with
      | s _ hb =>
        refine ⟨1,_,b.data.toList.map fun u=>Value.int .u8 u.toNat,?_,?_,?_,hu⟩
        · have:=cKa (P:=P) (w:=w) hU b
          simpa using this
        · induction b.data.toList with
          | nil=>exact .nil
          | cons u r ih=>exact .cons (.i _ _ (aM1 u).1 (aM1 u).2) ih
        · intro y hy
          obtain ⟨n,_,rfl⟩:=QN.1 hy
          rfl
  · exact sl h hu
theorem aYt (g:Good E κ w s.bx) {sz:Nat} {v:Value} {x:V} {l:List (List D)} {N1:List Nat} (h:aR κ v x) (ht:rY s sz x=some (l,N1)):fP (fun b=>w.heap[b]?) v (.sl sz l) (N1.flatMap κ.bl)∧∀ n∈N1,(bget s.bx n).isSome=true:=by
  unfold rY at ht
  split at ht
  · split at ht <;> simp at ht
    rename_i e; subst e
    obtain ⟨rfl,rfl⟩:=ht
    cases h; exact ⟨.nil _,by simp⟩
  · rename_i n
    split at ht
    · rename_i sz' l' hb
      split at ht <;> simp at ht
      rename_i e; subst e
      obtain ⟨rfl,rfl⟩:=ht
      obtain ⟨_,v',T,h1,h2⟩:=(g.box n _ hb).toClosed
      have hv:κ.hv n=v':=by show (κ.mt n).2.2=v'; rw [h1]; exact wM _ _
      cases h with | tre h =>
      rw [← h,hv]
      refine ⟨by simpa using h2,fun m hm=>?_⟩
      simp at hm; subst hm; simp [hb]
    · simp at ht
  · simp at ht
theorem cCf {U:TypeId} (hU:P.underlying U=some .string∨∃ e',P.underlying U=some (.slice e')) {sz:Nat} {v:Value} {l:List (List D)} {B:List Nat} (hX:fP (fun b=>w.heap[b]?) v (.sl sz l) B):∃ us C,vH P sz U v l.length us w∧dZ (fun b=>w.heap[b]?) us l.flatten C∧C.Sublist B∧∀ x∈l,x.length=sz:=by
  have one:∀ {vs:List Value} {xs:List D} {C:List Nat},dZ (fun b=>w.heap[b]?) vs xs C→∀ u∈vs,u.oneCell'=true:=by
    intro vs xs
    induction xs generalizing vs with
    | nil=>intro C h; cases h; simp
    | cons x xs ih =>
      intro C h
      cases h with
      | cons a t =>
        intro u hu
        rcases QL.1 hu with rfl | hu
        · cases a <;> rfl
        · exact ih t u hu
  rcases hX.slice with ⟨rfl,rfl,_⟩ | ⟨q,rfl,rfl,_⟩ | ⟨b,cap,C,cs,T,rfl,hB,hh,hcs,h4,h5,hrow,hR⟩
  · exact ⟨[],[],⟨hU.symm,fun _=>rfl,run_firstCells_none w sz 0 0 0,run_firstCells_none w.drew sz 0 0 0,by simp,by simp⟩,.nil,QO _,by simp⟩
  · exact ⟨[],[],⟨hU.symm,fun _=>rfl,run_firstCells_some w sz 0 q 0 0 [] (by simp) (by simp),run_firstCells_some w.drew sz 0 q 0 0 [] (by simp) (by simp),by simp,by simp⟩,.nil,QO _,by simp⟩
  · have hcell:∀ j u,(cs.toList.take (l.length * sz))[j]?=some u→w.cell? ((⟨b,0,none⟩:Addr).add j)=some u:=by
      intro j u hj
      have hadd:(⟨b,0,none⟩:Addr).add j=⟨b,0+j,none⟩:=by unfold Addr.add; split <;> simp_all
      rw [List.getElem?_take] at hj
      split at hj
      · obtain ⟨fr,hh1,_⟩:=hh
        have hh2:w.heap[b]?=some (.cells cs T fr):=hh1
        rw [hadd]
        simp only [Array.getElem?_toList] at hj
        simp [World.cell?,hh2,hj]
      · simp at hj
    have hol:(cs.toList.take (l.length * sz)).length=l.length * sz:=by
      have:=QU sz h4
      simp only [QP,QH,hcs]
      omega
    exact ⟨_,C,⟨hU.symm,fun _=>rfl,run_firstCells_some w sz _ _ _ cap _ hol hcell,run_firstCells_some w.drew sz _ _ _ cap _ hol (by simpa using hcell),hol,one hR⟩,hR,by rw [hB]; exact List.sublist_cons_self _ _,hrow⟩
theorem bJe {h:Nat→Option Obj} {S:Mem}:∀ {vs:List Value} {xs:List D},bP S vs xs→xs.all D.flat=true→dZ h vs xs []
  | _,_,.nil,_=>.nil
  | _,_,.cons a t,hx=>by
    simp only [List.all_cons,QK] at hx
    refine dZ.cons (B:=[]) (C:=[]) ?_ (bJe t hx.2)
    cases a with
    | b x=>exact .b x
    | i k n h1 h2=>exact .i k n h1 h2
    | s x h=>exact .s x h
    | _=>simp [D.flat] at hx
theorem bWd {T e:TypeId} {ti:TypeInfo} {x:Operand} {lo hi mx:Option Operand} {y:AO} {l hh m:Option AO} {d:Nat} {o:Oper} (ho:o.op=.slice T x lo hi mx) (hd:o.dst=some d) (hdN:d<N) (hfb:∀ n∈E.fb,N≤n∧n<NX) (hT:P.underlying T=some (.slice e)) (hti:P.info? e=some ti)
    (hx:trO P T x=some y) (hlo:tN P 3 lo=some l) (hhi:tN P 3 hi=some hh) (hmx:tN P 3 mx=some m) (h:Ok E N κ w a s) (hv:aMd s d ti.size y l hh m K):o.wp P a w (KC E N K) Q:=by
  unfold aMd at hv
  obtain ⟨p,hp,h1⟩:=opd hx h.env hv
  split at h1
  case h_2=>exact h1.elim
  rename_i n
  obtain ⟨q,hb,rfl,rfl,h2⟩:=h1
  obtain ⟨hn,⟨h0,h3,hdn,hf,hK⟩,bh⟩:=aFi (wQ hhi) h.env h2
  have hlo':lo=none:=by
    rcases wQ hlo with ⟨a,_⟩ | ⟨o,z,_,e,_⟩
    · exact a
    · simp at e
  have hmx':mx=none:=by
    rcases wQ hmx with ⟨a,_⟩ | ⟨o,z,_,e,_⟩
    · exact a
    · simp at e
  subst hlo' hmx'
  obtain ⟨hX,hs⟩:=aYt (s:=s) h.good (sz:=ti.size) (l:=q) (N1:=[n]) hp (by simp [rY,hb])
  have nd:=h.good.flatNodup (dead:=[n]) (by simp) hs
  have lt:=h.good.deadLt (dead:=[n]) hs
  obtain ⟨v',B,hr,hX',hB⟩:∃ v' B,(Instr.sliceAt T (a.eval x) none (hi.map a.eval) none).run P w=.ok v' w∧fP (fun b=>w.heap[b]?) v' (.sl ti.size (q.take hn.toNat)) B∧B.Sublist ([n].flatMap κ.bl):=by
    generalize [n].flatMap κ.bl=B0 at hX
    generalize a.eval x=v0 at hX
    have hX0:=hX
    rcases hX.slice with ⟨hv,rfl,hB⟩ | ⟨aa,hv,rfl,hB⟩ | ⟨b,cap,C,cs,T',hv,hB,i1,i2,i3,i4,i5,i6⟩
    · have hz:hn=0:=by simp at h3; omega
      subst hz
      have:=aDy (P:=P) (a:=a) (isSlice:=true) (len:=0) (cap:=0) (lo:=none) (hi:=hi) (mx:=none) (l:=0) (h:=0) (m:=0) (.inl ⟨rfl,rfl⟩) bh (.inl ⟨rfl,rfl⟩) (.inl rfl) (by omega) (by omega) (by omega) (by simp) w
      refine ⟨v0,B0,?_,by simpa using hX0,List.Sublist.refl _⟩
      rw [hv]
      simp at this
      simp [Instr.sliceAt,Instr.slice,fJ hT,this,lU hti]
    · have hz:hn=0:=by simp at h3; omega
      subst hz
      have:=aDy (P:=P) (a:=a) (isSlice:=true) (len:=0) (cap:=0) (lo:=none) (hi:=hi) (mx:=none) (l:=0) (h:=0) (m:=0) (.inl ⟨rfl,rfl⟩) bh (.inl ⟨rfl,rfl⟩) (.inl rfl) (by omega) (by omega) (by omega) (by simp) w
      refine ⟨v0,B0,?_,by simpa using hX0,List.Sublist.refl _⟩
      rw [hv]
      simp at this
      simp [Instr.sliceAt,Instr.slice,fJ hT,this,lU hti,Addr.add]
    · have:=aDy (P:=P) (a:=a) (isSlice:=true) (len:=q.length) (cap:=cap) (lo:=none) (hi:=hi) (mx:=none) (l:=0) (h:=hn) (m:=cap) (.inl ⟨rfl,rfl⟩) bh (.inl ⟨rfl,rfl⟩) (.inl rfl) (by omega) (by omega) (by omega) (by omega) w
      have e1:q.flatten=(q.take hn.toNat).flatten++(q.drop hn.toNat).flatten:=by rw [← List.flatten_append,List.take_append_drop]
      rw [e1] at i6
      obtain ⟨B1,B2,hC,r1,_⟩:=i6.split
      have hl:∀ l:List (List D),(∀ e∈l,e.length=ti.size)→l.flatten.length=l.length * ti.size:=by
        intro l hl
        induction l with
        | nil=>simp
        | cons x l ih=>simp [QG,hl x (by simp),ih (fun e he=>hl e (by simp [he]))]; omega
      have e2:(q.take hn.toNat).length=hn.toNat:=by rw [QP]; omega
      rw [hl _ (fun e he=>i5 e (QQ he)),e2,List.take_take,Nat.min_eq_left (QU _ (by omega))] at r1
      refine ⟨.slice (some ⟨b,0,none⟩) hn.toNat cap,b::B1,?_,.sl b hn.toNat cap ti.size _ B1 cs T' i1 i2 e2.symm (by omega) i4 (fun e he=>i5 e (QQ he)) r1,?_⟩
      · rw [hv]
        by_cases hc0:cap=0
        · subst hc0
          simp at this
          simp [Instr.sliceAt,Instr.slice,fJ hT,this,lU hti]
        · simp at this
          simp [Instr.sliceAt,Instr.slice,fJ hT,this,lU hti,hc0,uI]
      · rw [hB,hC]; exact (List.sublist_append_left _ _).cons_cons _
  obtain ⟨κ',hok⟩:=h.remake hdN hfb hf hs hdn (w':=w) rfl rfl rfl (QB _) (fun _ _ _=>rfl) hX' (nd.sublist hB) (fun b hb=>.inl (hB.subset hb)) lt
  have hr':(execOp a.eval o).run P w=.ok (.value v') w:=by
    unfold execOp; rw [ho]
    simp [hr]
  unfold Oper.wp
  rw [hr',Oper.upon_value,hd]
  exact ⟨κ',_,hK,hok⟩
theorem bS0 {T U e:TypeId} {d bytes sz:Nat} {x y:Operand} {ti:TypeInfo} {z:Value} {o:Oper} (ho:o.op=.call { callee:=.builtin .append,args:=#[x,y],argTypes:=#[T,U] }) (hTU:T=U∨P.underlying U=some .string) (hd:o.dst=some d) (hdN:d<N) (hfb:∀ n∈E.fb,N≤n∧n<NX) (hT:P.underlying T=some (.slice e)) (hti:P.info? e=some ti)
    (hz:ti.zero=some z) (hzs:z.cells.size=ti.size) (hby:0<ti.bytes) {p q:V} (hp:aR κ (a.eval x) p) (hq:aR κ (a.eval y) q) (e1:sz=ti.size) (e2:bytes=ti.bytes) (h:Ok E N κ w a s)
    (hv:aWn s d sz bytes p q K):o.wp P a w (KC E N K) Q:=by
  subst e1; subst e2
  obtain ⟨l1,N1,t1,hv⟩:=hv
  obtain ⟨hX1,hd1⟩:=aYt h.good hp t1
  have hUU:P.underlying U=some .string∨∃ e',P.underlying U=some (.slice e'):=hTU.elim (fun q=>.inr ⟨e,q ▸ hT⟩) .inl
  have go:∀ (l2:List (List D)) (N2 C2:List Nat) (us:List Value),vH P ti.size U (a.eval y) l2.length us w→dZ (fun b=>w.heap[b]?) us l2.flatten C2→C2.Sublist (N2.flatMap κ.bl)→(∀ x∈l2,x.length=ti.size)→(∀ n∈N2,(bget s.bx n).isSome=true)→aXy s d ti.size ti.bytes l1 N1 l2 N2 K→o.wp P a w (KC E N K) Q:=by
    intro l2 N2 C2 us hsr hu hC hrow hd2 hK
    obtain ⟨k1,k2,k3,k4,hK⟩:=hK
    have hml:l1.length+l2.length≤maxLen:=by
      have:(l1.length+l2.length) * 1≤(l1.length+l2.length) * ti.bytes:=QD _ hby
      simp only [maxLen]; omega
    obtain ⟨v',w',κ',hrun,hok⟩:=h.appendT hdN hfb k4 hT hti hz hzs hX1 hsr hu hC hrow (fun n hn=>(List.mem_append.1 hn).elim (hd1 n) (hd2 n)) k1 k2 k3 hml o.type
    have hr':(execOp a.eval o).run P w=.ok (.value v') w':=by
      unfold execOp; rw [ho]
      simp [resolve,invoke,builtin,hrun]
    unfold Oper.wp
    rw [hr',Oper.upon_value,hd]
    exact ⟨κ',_,hK,hok⟩
  rcases hv with ⟨l2,N2,t2,hK⟩ | hK
  · obtain ⟨hX2,hd2⟩:=aYt h.good hq t2
    obtain ⟨us,C,h1,h2,h3,h4⟩:=cCf hUU hX2
    exact go l2 N2 C us h1 h2 h3 h4 hd2 hK
  · obtain ⟨sz',ys,us,hsr,hu6,hu5,rfl,hfl,hK⟩:=bB5 h.good hUU hq hK
    have hall:ys.flatten.all D.flat=true:=by
      rw [QR]
      intro z hz
      obtain ⟨r,hr,hz⟩:=List.mem_flatten.1 hz
      exact QR.1 (hfl r hr) z hz
    exact go ys [] [] us hsr (bJe hu6 hall) (List.Sublist.refl _) hu5 (by simp) hK
theorem cEl (g:Good E κ w s.bx) {sz:Nat} {v:Value} {x:V} {l:List (List D)} {N1:List Nat} (h:aR κ v x) (ht:xR s sz x=some (l,N1)):rX κ.S (fun b=>w.heap[b]?) sz l v (N1.flatMap κ.bl)∧∀ n∈N1,(bget s.bx n).isSome=true:=by
  unfold xR at ht
  split at ht
  · split at ht <;> simp at ht
    rename_i e; subst e
    obtain ⟨rfl,rfl⟩:=ht
    cases h; exact ⟨.nil rfl,by simp⟩
  · rename_i n
    split at ht
    · rename_i sz' l' hb
      split at ht <;> simp at ht
      rename_i e; subst e
      obtain ⟨rfl,rfl⟩:=ht
      obtain ⟨_,v',T,h1,h2⟩:=(g.box n _ hb).toShallow
      have hv:κ.hv n=v':=by show (κ.mt n).2.2=v'; rw [h1]; exact wM _ _
      cases h with | tre h =>
      rw [← h,hv]
      refine ⟨by simpa using h2,fun m hm=>?_⟩
      simp at hm; subst hm; simp [hb]
    · simp at ht
  · simp at ht
theorem cH2 {T U e:TypeId} {d bytes sz:Nat} {x y:Operand} {ti:TypeInfo} {z:Value} {o:Oper} (ho:o.op=.call { callee:=.builtin .append,args:=#[x,y],argTypes:=#[T,U] }) (hTU:T=U∨P.underlying U=some .string) (hd:o.dst=some d) (hdN:d<N) (hfb:∀ n∈E.fb,N≤n∧n<NX) (hT:P.underlying T=some (.slice e)) (hti:P.info? e=some ti)
    (hz:ti.zero=some z) (hzs:z.cells.size=ti.size) (hby:0<ti.bytes) {p q:V} (hp:aR κ (a.eval x) p) (hq:aR κ (a.eval y) q) (e1:sz=ti.size) (e2:bytes=ti.bytes) (h:Ok E N κ w a s)
    (hv:aY4 s d sz bytes p q K):o.wp P a w (KC E N K) Q:=by
  subst e1; subst e2
  obtain ⟨l1,N1,t1,hv⟩:=hv
  obtain ⟨hX1,hd1⟩:=cEl h.good hp t1
  have hUU:P.underlying U=some .string∨∃ e',P.underlying U=some (.slice e'):=hTU.elim (fun q=>.inr ⟨e,q ▸ hT⟩) .inl
  obtain ⟨sz',ys,us,hsr,hu6,hu5,rfl,k2,k3,k4,hK⟩:=bB5 h.good hUU hq hv
  have hml:l1.length+ys.length≤maxLen:=by
    have:(l1.length+ys.length) * 1≤(l1.length+ys.length) * ti.bytes:=QD _ hby
    simp only [maxLen]; omega
  obtain ⟨v',w',κ',hrun,hok⟩:=h.appendS hdN hfb k4 hT hti hz hzs hX1 hsr hu6 hu5 hd1 k2 k3 hml o.type
  have hr':(execOp a.eval o).run P w=.ok (.value v') w':=by
    unfold execOp; rw [ho]
    simp [resolve,invoke,builtin,hrun]
  unfold Oper.wp
  rw [hr',Oper.upon_value,hd]
  exact ⟨κ',_,hK,hok⟩
theorem bNg {T U e:TypeId} {d bytes sz:Nat} {x y:Operand} {x' y':AO} {ti:TypeInfo} {z:Value} {o:Oper} (ho:o.op=.call { callee:=.builtin .append,args:=#[x,y],argTypes:=#[T,U] }) (hTU:T=U∨P.underlying U=some .string) (hd:o.dst=some d) (hdN:d<N) (hT:P.underlying T=some (.slice e)) (hti:P.info? e=some ti)
    (hz:ti.zero=some z) (hzs:z.cells.size=ti.size) (hsz:0<ti.size) (hby:0<ti.bytes) (hx:trO P T x=some x') (hy:trO P U y=some y') (e1:sz=ti.size) (e2:bytes=ti.bytes) (h:Ok E N κ w a s)
    (hfb:∀ n∈E.fb,N≤n∧n<NX) (hv:use (ev s x') fun x=>use (ev s y') fun y=>(srK y fun sz' ys=>sz'=sz∧match x with
    | .nil _=>aM7 s d e sz bytes d [] ys K
    | .osl t e' sz'' xs=>(e'=e∨e'=XE)∧sz''=sz∧aM7 s d e' sz bytes t xs ys K
    | _=>False)∨aWn s d sz bytes x y K∨aY4 s d sz bytes x y K):o.wp P a w (KC E N K) Q:=by
  subst e1; subst e2
  obtain ⟨p,hp,h1⟩:=opd hx h.env hv
  obtain ⟨q,hq,h2⟩:=opd hy h.env h1
  rcases h2 with h2 | h2 | h2
  rotate_left
  · exact bS0 ho hTU hd hdN hfb hT hti hz hzs hby hp hq rfl rfl h h2
  · exact cH2 ho hTU hd hdN hfb hT hti hz hzs hby hp hq rfl rfl h h2
  obtain ⟨sz',ys,us,hsr,hu6,hu5,rfl,h3⟩:=bB5 h.good (hTU.elim (fun q=>.inr ⟨e,q ▸ hT⟩) .inl) hq h2
  have go:∀ (er:TypeId) (t:Nat) (xs:List (List D)),(er=e∨er=XE)→((a.eval x=.slice none 0 0∧xs=[])∨κ.o t=some ⟨er,ti.size,a.eval x⟩)→bR κ.S (a.eval x) (.sl ti.size xs)→aM7 s d er ti.size ti.bytes t xs ys K→o.wp P a w (KC E N K) Q:=by
    intro er t xs her hv hvr hK
    obtain ⟨hk1,hk2,hk3,hK⟩:=hK
    have hml:xs.length+ys.length≤maxLen:=by
      have:(xs.length+ys.length) * 1≤(xs.length+ys.length) * ti.bytes:=QD _ hby
      simp only [maxLen]; omega
    obtain ⟨v',w',κ',hrun,hok⟩:=h.append hdN hk2 hk3 hT hti hz rfl rfl hzs hsz hv her hvr hsr hu6 hu5 hk1 hml o.type
    have hr':(execOp a.eval o).run P w=.ok (.value v') w':=by
      unfold execOp; rw [ho]
      simp [resolve,invoke,builtin,hrun]
    unfold Oper.wp
    rw [hr',Oper.upon_value,hd]
    exact ⟨κ',_,hK,hok⟩
  split at h3
  · have:=hp.toNil
    exact go e d [] (.inl rfl) (.inl ⟨this,rfl⟩) (by rw [this]; exact .nil _) h3
  · obtain ⟨her,rfl,h4⟩:=h3
    generalize hex:a.eval x=vx at hp
    cases hp with
    | osl hp1 hp2=>exact go _ _ _ her (.inr (by rw [hex]; exact hp1)) (by rw [hex]; exact hp2) h4
  · exact h3.elim
theorem bWh (n:Nat) (l:List D):V.noPtrs n (l.map V.d)=true:=by
  induction l with
  | nil=>rfl
  | cons x l ih=>simp [V.noPtrs,V.noPtr,ih]
theorem bP.vs {κ:Ctx} {vs:List Value} {l:List D} (h:bP κ.S vs l):aZ κ vs (l.map V.d):=by
  induction l generalizing vs with
  | nil=>cases h; exact .nil
  | cons x l ih=>cases h with | cons a r=>exact .cons (.d a) (ih r)
theorem bP.rows {S:Mem} {zl:List Value} {ds:List D} (h:bP S zl ds):∀ c:Nat,bP S (QA c zl).flatten (QA c ds).flatten
  | 0=>.nil
  | c+1=>by
    rw [QS,QS,QI,QI]
    exact h.append (bP.rows h c)
theorem aEc {x:V} {C:Int→Prop} (h:iK x C):∃ n,C n∧∀ C':Int→Prop,C' n→iK x C':=by
  unfold iK at h
  split at h
  · exact ⟨_,h,fun _ h=>h⟩
  · exact h.elim
theorem bP2 {T e:TypeId} {d:Nat} {x y:Operand} {x' y':AO} {ti:TypeInfo} {z:Value} {ds:List D} {o:Oper} (ho:o.op=.makeSlice T x y) (hd:o.dst=some d) (hdN:d<N) (hfb:∀ n∈E.fb,N≤n∧n<NX) (hT:P.underlying T=some (.slice e)) (hti:P.info? e=some ti)
    (hz:ti.zero=some z) (hds:(uZ P (aLe P 20 e) z.cells.toList).bind V.asDs=some ds) (hlen:ds.length=ti.size) (hsz:0<ti.size) (hby:0<ti.bytes) (hx:trO P 3 x=some x') (hy:trO P 3 y=some y') (h:Ok E N κ w a s)
    (hv:use (ev s x') fun x=>use (ev s y') fun y=>(iK x fun n=>iK y fun m=>n=m∧0≤n∧n * ti.bytes≤140737488355328∧s.fresh d=true∧K ⟨(d,.msl d ti.size 0 n.toNat n.toNat)::s.env,(d,aMn (QA n.toNat ds))::s.bx⟩)∨bF2 s d ti.size ti.bytes ds x y K∨bJ0 s d e ti.size ti.bytes ds x y K):o.wp P a w (KC E N K) Q:=by
  obtain ⟨p,hp,h1⟩:=opd hx h.env hv
  obtain ⟨q,hq,h2⟩:=opd hy h.env h1
  have h2':iK p fun n=>iK q fun m=>n=m∧0≤n∧n * ti.bytes≤140737488355328∧s.fresh d=true∧(K ⟨(d,.msl d ti.size 0 n.toNat n.toNat)::s.env,(d,aMn (QA n.toNat ds))::s.bx⟩∨K ⟨(d,.tre d)::s.env,(d,[.trc ti.size (QA n.toNat ds)])::s.bx⟩∨K ⟨(d,.osl d e ti.size (QA n.toNat ds))::s.env,s.bx⟩):=by
    rcases h2 with h2 | h2 | h2
    · obtain ⟨n,hn,hT1⟩:=aEc h2
      refine hT1 _ ?_
      obtain ⟨m,hm,hT2⟩:=aEc hn
      exact hT2 _ ⟨hm.1,hm.2.1,hm.2.2.1,hm.2.2.2.1,.inl hm.2.2.2.2⟩
    · obtain ⟨n,hn,hT1⟩:=aEc h2
      refine hT1 _ ?_
      obtain ⟨m,hm,hT2⟩:=aEc hn
      exact hT2 _ ⟨hm.1,hm.2.1,hm.2.2.1,hm.2.2.2.1,.inr (.inl hm.2.2.2.2)⟩
    · obtain ⟨n,hn,hT1⟩:=aEc h2
      refine hT1 _ ?_
      obtain ⟨m,hm,hT2⟩:=aEc hn
      exact hT2 _ ⟨hm.1,hm.2.1,hm.2.2.1,hm.2.2.2.1,.inr (.inr hm.2.2.2.2)⟩
  obtain ⟨k,n,hn,_,_,h3⟩:=E5 hp h2'
  obtain ⟨k',m,hm,_,_,rfl,h0,hb,hf,hK⟩:=E5 hq h3
  obtain ⟨vl,hvl,hvd⟩:=Option.bind_eq_some_iff.1 hds
  have hc0:bP κ.S z.cells.toList ds:=(aI4 hvl κ).asDs hvd
  have hzl:z.cells.toList.length=ti.size:=by rw [hc0.length,hlen]
  have hle:n≤n * ti.bytes:=by
    have:n * 1≤n * (ti.bytes:Int):=Int.mul_le_mul_of_nonneg_left (by omega) h0
    omega
  have hmx:n.toNat≤maxLen:=by simp only [maxLen]; omega
  have hwr:IntKind.wrap .i64 n=n:=by
    rw [IntKind.wrap_i64]; omega
  have hcells:((QW (n.toNat * ti.size)).map fun i=>z.cells[i % z.cells.size]!)=(QA n.toNat z.cells.toList).flatten.toArray:=by
    apply Array.ext'
    have:=bMn hzl n.toNat
    have hs:z.cells.size=ti.size:=by simpa using hzl
    rw [hs]
    simpa using this
  have hr:(execOp a.eval o).run P w=.ok (.value (.slice (some ⟨w.heap.size,0,none⟩) n.toNat n.toNat)) (w.alloc (.cells (QA n.toNat z.cells.toList).flatten.toArray e)):=by
    have hty:(typeInfo e).run P w=.ok ti w:=by simp [typeInfo,hti]
    have hnl:¬ ((ti.bytes:Int) * n>2 ^ 48):=by rw [Int.mul_comm]; omega
    have hroom:(askRoom (n.toNat * ti.bytes)).run P w=.ok () w:=by
      have:¬ n.toNat * ti.bytes>roomBytes:=by
        have e1:((n.toNat * ti.bytes:Nat):Int)=n * ti.bytes:=by rw [Int.natCast_mul,Int.toNat_of_nonneg h0]
        simp only [roomBytes]
        omega
      simp [askRoom,this]
    have hlt:¬ (n<0):=by omega
    have hmk:(Instr.makeSlice T (.int k n) (.int k' n)).run P w=.ok (.slice (some ⟨w.heap.size,0,none⟩) n.toNat n.toNat) (w.alloc (.cells (QA n.toNat z.cells.toList).flatten.toArray e)):=by
      simp only [Instr.makeSlice,asInt,asIntOf,Sem.run_bind,fJ hT,Result.andThen_ok,hty,hwr,Sem.run_pure]
      have hcond:(decide (n<0)||decide ((ti.bytes:Int) * n>2 ^ 48))=false:=by simp [hnl,hlt]; omega
      have hcond2:((decide (n<0)||decide ((ti.bytes:Int) * n>2 ^ 48))||decide (n<0)||decide (n>n))=false:=by rw [hcond]; simp; omega
      simp only [hcond2,Bool.false_eq_true,if_false,Sem.run_bind,hroom,Result.andThen_ok,lU hti,newRow,Sem.run_pure]
      rw [← hcells]
      by_cases h00:n.toNat * ti.size=0
      · have hr0:QW 0=#[]:=rfl
        simp [h00,hr0]
      · have hzv:(zeroValue e).run P w=.ok z w:=by simp [zeroValue,typeInfo,hti,hz]
        simp [h00,hzv]
    unfold execOp; rw [ho]
    simp [hn,hm,hmk]
  unfold Oper.wp
  rw [hr,Oper.upon_value,hd]
  rcases hK with hK | hK | hK
  · obtain ⟨κ',hok⟩:=h.allocV hdN hfb hf e (cs:=(QA n.toNat z.cells.toList).flatten.toArray) (cells:=aMn (QA n.toNat ds)) (bP.vs (hc0.rows n.toNat)) (bWh _ _)
      (v:=.slice (some ⟨w.heap.size,0,none⟩) n.toNat n.toNat) (x:=.msl d ti.size 0 n.toNat n.toNat) fun κ' hm=>by
        have e:=aR.msl (κ:=κ') (n:=d) (sz:=ti.size) (o:=0) (QB n.toNat) hmx
        rwa [hm,Nat.zero_mul] at e
    exact ⟨κ',_,hK,hok⟩
  · have hX:dZ (fun b=>w.heap[b]?) z.cells.toList ds []:=bHh hvl hvd
    have hfl:(QA n.toNat z.cells.toList).flatten.length=n.toNat * ti.size:=by
      have:=(hX.rows n.toNat).length
      rw [this,bA9 (sz:=ti.size) (fun e he=>by rw [QF he,hlen]),QC]
    obtain ⟨κ',hok⟩:=h.newTree hdN hfb hf (dead:=[]) (by simp) (by simp) (by simp) (w':=w.alloc (.cells (QA n.toNat z.cells.toList).flatten.toArray e)) (sz:=ti.size) (cap:=n.toNat) (l:=QA n.toNat ds) (C:=[]) rfl rfl rfl rfl
      (by simpa using hfl) (by simp) hmx (fun x hx=>by rw [QF hx,hlen]) (by
        rw [QC,QE (by rw [show (QA n.toNat z.cells.toList).flatten.toArray.toList=(QA n.toNat z.cells.toList).flatten from rfl,hfl]; exact QB _)]
        exact hX.rows n.toNat) (by simp)
    rw [QC] at hok
    exact ⟨κ',_,hK,hok⟩
  · have hfl:(QA n.toNat z.cells.toList).flatten.length=n.toNat * ti.size:=by
      rw [(hc0.rows n.toNat).length,bA9 (sz:=ti.size) (fun e he=>by rw [QF he,hlen]),QC]
    obtain ⟨κ',hok⟩:=h.newrow hdN hf (e:=e) (sz:=ti.size) (n:=n.toNat) (cap:=n.toNat) (l:=QA n.toNat ds) (cs:=(QA n.toNat z.cells.toList).flatten) (cur:=(QA n.toNat z.cells.toList).flatten.toArray)
      (hc0.rows n.toNat) (by rw [QC]) (fun x hx=>by rw [QF hx,hlen]) (QB _) hmx hfl (by simpa using hfl) (QE (by rw [← hfl]; exact QB _))
      (w':=w.alloc (.cells (QA n.toNat z.cells.toList).flatten.toArray e)) rfl rfl rfl rfl
    exact ⟨κ',_,hK,hok⟩
theorem bJu {h:Nat→Option Obj}:∀ l:List UInt8,dZ h (l.map fun u=>Value.int .u8 u.toNat) (l.map fun u=>[D.i .u8 u.toNat]).flatten []
  | []=>.nil
  | u::l=>.cons (B:=[]) (.i _ _ (aM1 u).1 (aM1 u).2) (bJu l)
theorem cA0 {S T e:TypeId} {d:Nat} {x:Operand} {x':AO} {o:Oper} (ho:o.op=.convert S T x) (hd:o.dst=some d) (hdN:d<N) (hfb:∀ n∈E.fb,N≤n∧n<NX) (hS:P.underlying S=some .string) (hT:P.underlying T=some (.slice e)) (he:P.underlying e=some (.int .u8))
    (hx:trO P S x=some x') (h:Ok E N κ w a s) (hv:use (ev s x') fun x=>sK x fun b=>s.fresh d=true∧K ⟨(d,.tre d)::s.env,(d,[.trc 1 (b.data.toList.map fun u=>[D.i .u8 u.toNat])])::s.bx⟩):o.wp P a w (KC E N K) Q:=by
  obtain ⟨p,hp,h1⟩:=opd hx h.env hv
  obtain ⟨b,hb,hbm,hf,hK⟩:=aRz hp h1
  have hr:(execOp a.eval o).run P w=.ok (.value (.slice (some ⟨w.heap.size,0,none⟩) b.size (grownCap w b.size 0 e))) (Lib.bytesWorld w e b):=by
    have hc:=Lib.run_convert_string_bytes (P:=P) w S T e b hS hT he
    unfold execOp; rw [ho]
    simp [hb,hc]
  unfold Oper.wp
  rw [hr,Oper.upon_value,hd]
  have hcap:=aHk (w:=w) (need:=b.size) (old:=0) (e:=e) hbm
  have hbl:b.data.toList.length=b.size:=by rw [QH]; rfl
  have hsz:(Lib.bytesCells w e b).size=grownCap w b.size 0 e * 1:=by
    have h2:b.data.size=b.size:=rfl
    simp only [Lib.bytesCells,Array.size_append,Array.size_map,Array.size_replicate]
    omega
  have hX:fP (fun k=>(Lib.bytesWorld w e b).heap[k]?) (.slice (some ⟨w.heap.size,0,none⟩) b.size (grownCap w b.size 0 e)) (.sl 1 (b.data.toList.map fun u=>[D.i .u8 u.toNat])) [w.heap.size]:=by
    refine .sl w.heap.size b.size _ 1 _ [] (Lib.bytesCells w e b) e ⟨_,Lib.bytesWorld_at_new w e b,.inr (QB _)⟩ hsz (by simp [hbl]) hcap.1 hcap.2 (fun y hy=>by obtain ⟨u,_,rfl⟩:=QN.1 hy; rfl) ?_
    have e1:(Lib.bytesCells w e b).toList.take (b.size * 1)=b.data.toList.map fun u=>Value.int .u8 u.toNat:=by
      simp only [Lib.bytesCells,Array.toList_append,Array.toList_map,Nat.mul_one]
      exact List.take_left' (by simp [hbl])
    rw [e1]
    exact bJu _
  obtain ⟨κ',hok⟩:=h.remake hdN hfb hf (dead:=[]) (by simp) (by simp) (w':=Lib.bytesWorld w e b) rfl rfl rfl (by rw [Lib.bytesWorld_size]; omega) (fun k hk _=>Lib.bytesWorld_at_old w e b k hk) hX (by simp) (fun k hk=>.inr (by simp at hk; omega)) (by simp)
  exact ⟨κ',_,hK,hok⟩
theorem bTs {x:Operand} {y:AO} {T:TypeId} {d:Nat} {o:Oper} (ho:o.op=.assign x) (hd:o.dst=some d) (hdN:d<N) (hx:trO P T x=some y) (h:Ok E N κ w a s)
    (hv:use (ev s y) fun v=>K (s.put d v)∨(match v with
    | .osl t e sz l=>t≠d∧((s.dn t).dn d).clean t=true∧((s.dn t).dn d).clean d=true∧K (((s.dn t).dn d).put d (.osl d e sz l))
    | _=>False)):o.wp P a w (KC E N K) Q:=by
  obtain ⟨p,hp,h1⟩:=opd hx h.env hv
  have hr:(execOp a.eval o).run P w=.ok (.value (a.eval x)) w:=by unfold execOp; rw [ho]; rfl
  unfold Oper.wp
  rw [hr,Oper.upon_value,hd]
  rcases h1 with h1 | h1
  · exact aWr h hdN hp h1
  · split at h1
    · rename_i t e sz l
      obtain ⟨hne,hc1,hc2,hK⟩:=h1
      generalize hex:a.eval x=vx at hp
      cases hp with | osl hp1 hp2 =>
      let κ':Ctx:=⟨κ.S,κ.mt,upd (upd κ.o t none) d (some ⟨e,sz,vx⟩),κ.bl⟩
      have ho':∀ k,k≠t→k≠d→κ'.o k=κ.o k:=fun k h1 h2=>by show upd (upd κ.o t none) d _ k=_; rw [jI _ _ _ h2,jI _ _ _ h1]
      have g:=h.good
      have hle:κ.S.le κ'.S:=Mem.le_refl _
      refine ⟨κ',_,hK,⟨by simp [Act.put,h.size],h.defers,fun k=>?_,?_⟩⟩
      · simp only [Act.put,St.put,lk]
        rw [aBy _ _ _ _ (by rw [h.size]; exact hdN)]
        split
        · exact .osl (upd_same _ _ _) hp2
        · refine aR.move hle ?_ (V.fits_oo (κ:=κ) (κ':=κ') (fun _=>rfl) ho' _ (St.clean_env hc1 k) (St.clean_env hc2 k))
          have:=((h.env k).dn t).dn d
          rw [← aM9,← aM9] at this
          exact this
      · refine g.patch (fun b=>vx.ownBlock=some b) (fun _=>False) (fun t'=>t'=d) rfl rfl rfl (QB _) (fun b hb=>((g.own t _ hp1).2 b hb).1) (fun _ _=>⟨rfl,rfl⟩) (fun b _=>g.frm.le b) (fun b _=>g.tab b) (fun b _ hS=>g.mem b hS) (fun _ _=>rfl)
          (fun n c hc _=>?_) (fun _ _ _ h=>h.elim) (fun _ _ _ _ _ h=>h.elim) ?_ ?_ (by rintro t1 t2 _ _ _ _ _ rfl rfl _ _; rfl)
        · have hc':=hc
          simp only [St.put,St.dn,aIm] at hc'
          cases h0:bget s.bx n with
          | none=>rw [h0] at hc'; simp at hc'
          | some c0 =>
            rw [h0] at hc'; simp at hc'; subst hc'
            exact ⟨c0,rfl,rfl,rfl,((Mv.dn t c0).trans (Mv.dn d _)).trans (Mv.fits hle (V.fitss_oo (κ:=κ) (κ':=κ') (fun _=>rfl) ho' _ (St.clean_bx hc1 hc) (St.clean_bx hc2 hc))),fun b hb hv=>((g.own t _ hp1).2 b hv).2 n (by simp [h0]) hb⟩
        · intro t' o ho2 hne
          have e1:κ'.o t'=upd κ.o t none t':=jI _ _ _ hne
          rw [e1] at ho2
          by_cases ht:t'=t
          · rw [ht,upd_same] at ho2; simp at ho2
          · rw [jI _ _ _ ht] at ho2
            exact ⟨ho2,fun b hb hv=>ht (g.ownInj t' t _ _ b ho2 hp1 hb hv)⟩
        · rintro t' o ho2 rfl
          have e1:κ'.o t'=some ⟨e,sz,vx⟩:=upd_same _ _ _
          rw [e1] at ho2
          simp only [Option.some.injEq] at ho2
          subst ho2
          exact ⟨(g.own t _ hp1).1,fun b hb=>⟨hb,fun _ _ h=>h.elim⟩⟩
    · exact h1.elim
end
end Go.Ab
