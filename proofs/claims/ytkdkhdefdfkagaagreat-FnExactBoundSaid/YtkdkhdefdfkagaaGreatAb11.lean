/- The operations that change the state; regions of operations. -/
import Derived.Test.YtkdkhdefdfkagaaGreatAb10
namespace Go.Ab
open Go Go.RowKit
def pG (P:Program) (s:St) (d:Option Nat) (f:FuncId) (vs:List V) (K:V→St→Prop):Prop :=
  ∀ (E:Entry) (N:Nat) (κ:Ctx) (w:World) (a:Act) (cargs:List Value),(∀ n ∈ E.fb,N≤n)→(∀ n,d=some n→n<N)→Ok E N κ w a s→dF κ cargs vs →
    Calls P f cargs.toArray w fun e w'=>∃ v x κ' s',e=.returned v∧Ok E N κ' w' a s'∧bI κ' v x∧K x s'
def St.putO (s:St) (d:Option Nat) (v:V):St :=
  match d with
  | some d=>s.put d v
  | none=>s
def aIy (s:St) (sz:Nat):List AO→(List (List D)→Prop)→Prop
  | [],C=>C []
  | x::r,C=>use (ev s x) fun v=>v.solid=true∧∃ ds,V.asDs v.cells=some ds∧ds.length=sz∧aIy s sz r fun l=>C (ds::l)
def wU (P:Program) (f:FuncId):Bool :=
  match P.funcs[f]? with
  | some fn=>fn.body.isSome&&fn.name != "runtime.NumGoroutine"
  | none=>false
def aFk (s:St) (d:Nat) (e:TypeId) (sz bytes:Nat) (t:Nat) (xs ys:List (List D)) (K:St→Prop):Prop :=
  (xs.length+ys.length) * bytes≤140737488355328∧(s.dn t).fresh d=true∧(s.dn t).clean t=true∧K ⟨(d,.osl d e sz (xs++ys))::(s.dn t).env,(s.dn t).bx⟩
def Wk (s s':St):Prop:=∀ E N κ w a,Ok E N κ w a s→∃ κ',Ok E N κ' w a s'
theorem Wk.refl (s:St):Wk s s:=fun _ _ κ _ _ h=>⟨κ,h⟩
def bP5 (P:Program) (s:St) (c:Bool) (d:Option Nat) (f:FuncId) (vs:List V) (C:V→St→Prop):Prop :=
  ∃ r s1,(c=true→pG P s d f vs fun x s'=>x=r∧s'=s1)∧(c=false→Wk s s1)∧C r s1
def fK (l:List (List D)):List V:=l.flatten.map V.d
def aop (P:Program) (s:St) (K:St→Prop):AOp→Prop
  | .mks d _ sz bytes z x y=>use (ev s x) fun x=>use (ev s y) fun y=>iK x fun n=>iK y fun m=>n=m∧0≤n∧n * bytes≤140737488355328∧s.fresh d=true∧K ⟨(d,.msl d sz 0 n.toNat n.toNat)::s.env,(d,fK (List.replicate n.toNat z))::s.bx⟩
  | .asg d x=>use (ev s x) fun v=>K (s.put d v)∨(match v with
    | .osl t e sz l=>t≠d∧((s.dn t).dn d).clean t=true∧((s.dn t).dn d).clean d=true∧K (((s.dn t).dn d).put d (.osl d e sz l))
    | _=>False)
  | .box d T x=>use (ev s x) fun v=>v.solid=true∧s.fresh d=true∧V.noPtrs d v.cells=true∧K ⟨(d,.ptr d 0)::s.env,(d,v.cells.map (wX d T))::s.bx⟩
  | .bld d z ps=>vop s (fun v=>K (s.put d v)) (.bld d z ps)∨rZ s ps z fun c=>K (s.put d (.agv c))
  | .alc d z=>s.fresh d=true∧K ⟨(d,.ptr d 0)::s.env,(d,z)::s.bx⟩
  | .st n x y=>use (ev s x) fun x=>use (ev s y) fun y=>match x with
    | .ptr b o=>∃ c,bget s.bx b=some c∧y.solid=true∧y.cells.length=n∧o+n≤c.length∧K ⟨s.env,jH s.bx b (putCells c o y.cells)⟩
    | _=>False
  | .bsl d e sz xs=>s.fresh d=true∧aIy s sz xs fun l=>K ⟨(d,.osl d e sz l)::s.env,s.bx⟩
  | .app d e sz bytes x y=>use (ev s x) fun x=>use (ev s y) fun y=>srK y fun sz' ys=>sz'=sz∧match x with
    | .nil _=>aFk s d e sz bytes d [] ys K
    | .osl t e' sz'' xs=>e'=e∧sz''=sz∧aFk s d e sz bytes t xs ys K
    | _=>False
  | .call d f args=>pG P s d f (args.map (ev s)) fun x s'=>K (s'.putO d x)
  | .callv d f args=>use (ev s f) fun f=>match f with
    | .fn g caps=>wU P g=true∧pG P s d g (args.map (ev s)++caps) fun x s'=>K (s'.putO d x)
    | _=>False
  | .g j want o=>bK (lk s.env j) fun p b=>match o with
    | .call (some d) f args=>bP5 P s (p&&(b==want)) (some d) f (args.map (ev s)) fun r s1=>K (s1.put d (.ite (p&&(b==want)) r))
    | o=>match o.dst with
      | some d=>∃ r,((p&&(b==want))=true→vop s (fun v=>v=r) o)∧K (s.put d (.ite (p&&(b==want)) r))
      | none=>False
  | o=>match o.dst with
    | some d=>vop s (fun v=>K (s.put d v)) o
    | none=>False
def fV (P:Program) (K:St→Prop):List AOp→St→Prop
  | [],s=>K s
  | o::r,s=>aop P s (fV P K r) o
section
variable {E:Entry} {N:Nat} {κ:Ctx} {w:World} {a:Act} {s:St} {P:Program} {K:St→Prop} {Q:Exit→Act→World→Prop}
theorem bB9 {d:Nat} {T:TypeId} (h2:(κ.mt d).2=T) {vs:List Value} {xs:List V} (h:dF κ vs xs):dF κ vs (xs.map (wX d T)):=by
  induction xs generalizing vs with
  | nil=>cases h; exact .nil
  | cons x xs ih =>
    cases h with
    | cons a r =>
      refine .cons ?_ (ih r)
      cases x with
      | np=>cases a; exact .bp0 h2
      | _=>exact a
theorem bIz {T : TypeId} {x : Operand} {y : AO} {d : Nat} {o : Oper} (ho : o.op = .box T x) (hd : o.dst = some d) (hdN : d < N) (hfb : ∀ n ∈ E.fb, N ≤ n) (hx : trO P T x = some y) (h : Ok E N κ w a s)
    (hv:use (ev s y) fun v=>v.solid=true∧s.fresh d=true∧V.noPtrs d v.cells=true∧K ⟨(d,.ptr d 0)::s.env,(d,v.cells.map (wX d T))::s.bx⟩):o.wp P a w (KC E N K) Q:=by
  obtain ⟨p,hp,h1,h2,h3,hK⟩:=opd hx h.env hv
  have hc:=aMk hp h1
  obtain ⟨κ',hok⟩:=h.allocB hdN hfb h2 T (fun κ' hS hm ho hmt=>bB9 (by rw [hmt]) (dF.move (show κ.S.le κ'.S by rw [hS]; exact Mem.le_refl _) hc (V.fitss_m hm ho _ h3))) (v:=.pointer (some ⟨w.heap.size,0,none⟩)) (x:=.ptr d 0) fun κ' hm=>by
    have e:=bI.ptr (κ:=κ') d 0
    rwa [hm] at e
  unfold Oper.wp
  have hr:(execOp a.eval o).run P w=.ok (.value (.pointer (some ⟨w.heap.size,0,none⟩))) (w.alloc (.cells (a.eval x).cells T)):=by
    unfold execOp; rw [ho]; simp [Instr.box,newVar,newRow]
  rw [hr,Oper.upon_value,hd]
  exact ⟨κ',_,hK,hok⟩
theorem bJ5 {T : TypeId} {z : List V} {d : Nat} {o : Oper} (ho : o.op = .alloc T) (hd : o.dst = some d) (hdN : d < N) (hfb : ∀ n ∈ E.fb, N ≤ n) (hz : xB P T = some z) (h : Ok E N κ w a s)
    (hv:s.fresh d=true∧K ⟨(d,.ptr d 0)::s.env,(d,z.map (wX d T))::s.bx⟩):o.wp P a w (KC E N K) Q:=by
  unfold xB at hz
  split at hz
  · rename_i ti hti
    split at hz
    · rename_i zv hzv
      obtain ⟨κ',hok⟩:=h.allocB hdN hfb hv.1 T (cs:=zv.cells) (cells:=z.map (wX d T)) (fun κ' _ _ _ hmt=>bB9 (by rw [hmt]) (aH3 hz κ')) (v:=.pointer (some ⟨w.heap.size,0,none⟩)) (x:=.ptr d 0) fun κ' hm=>by
        have e:=bI.ptr (κ:=κ') d 0
        rwa [hm] at e
      unfold Oper.wp
      have hr:(execOp a.eval o).run P w=.ok (.value (.pointer (some ⟨w.heap.size,0,none⟩))) (w.alloc (.cells zv.cells T)):=by
        unfold execOp; rw [ho]; simp [Instr.alloc,zeroValue,typeInfo,hti,hzv,newVar,newRow]
      rw [hr,Oper.upon_value,hd]
      exact ⟨κ',_,hv.2,hok⟩
    · simp at hz
  · simp at hz
theorem bAc {vs us:List Value} (n:Nat) (h:n+us.length≤vs.length):(us.zipIdx n).foldl (fun cs p=>cs.set p.2 p.1) vs=vs.take n++us++vs.drop (n+us.length):=by
  induction us generalizing vs n with
  | nil=>simp
  | cons u us ih =>
    simp only [List.zipIdx_cons,List.foldl_cons,List.length_cons] at h ⊢
    have hn:n<vs.length:=by omega
    have hset:vs.set n u=vs.take n++u::vs.drop (n+1):=by rw [List.set_eq_take_append_cons_drop,if_pos hn]
    have hlen:(vs.take n).length=n:=by simp; omega
    have e1:(vs.take n++u::vs.drop (n+1)).take (n+1)=vs.take n++[u]:=by
      rw [List.take_append,hlen,List.take_of_length_le (l:=vs.take n) (by omega),show n+1 - n=1 by omega]
      rfl
    have e2:(vs.take n++u::vs.drop (n+1)).drop (n+1+us.length)=vs.drop (n+(us.length+1)):=by
      rw [List.drop_append,hlen,List.drop_eq_nil_of_le (as:=vs.take n) (by omega),List.nil_append,show n+1+us.length - n=us.length+1 by omega,List.drop_succ_cons,List.drop_drop]
      congr 1; omega
    rw [ih (n+1) (by simp; omega),hset,e1,e2]
    simp
theorem bX5 {v:Value} {x:V} (h:bI κ v x) (hs:x.one=true):v.oneCell'=true:=by
  cases h with
  | d h=>exact h.oneCell.1
  | osl _ h=>exact h.oneCell.1
  | agg _=>simp [V.one] at hs
  | agv _=>simp [V.one] at hs
  | top=>simp [V.one] at hs
  | und=>simp [V.one] at hs
  | yes=>simp [V.one] at hs
  | no=>simp [V.one] at hs
  | tup=>simp [V.one] at hs
  | _=>rfl
theorem bMn {vs:List Value} {xs:List V} (h:dF κ vs xs) (hs:xs.all V.one=true):∀ u ∈ vs,u.oneCell'=true:=by
  induction xs generalizing vs with
  | nil=>cases h; intro u hu; simp at hu
  | cons x xs ih =>
    simp only [List.all_cons,Bool.and_eq_true] at hs
    cases h with
    | cons a r =>
      intro u hu
      rcases List.mem_cons.1 hu with rfl | hu
      · exact bX5 a hs.1
      · exact ih r hs.2 u hu
theorem cells_one {v:Value} {x:V} (h:bI κ v x) (hs:x.solid=true):∀ u ∈ v.cells.toList,u.oneCell'=true:=by
  cases h with
  | d h=>rw [h.oneCell.2]; simp [h.oneCell.1]
  | osl _ h=>rw [h.oneCell.2]; simp [h.oneCell.1]
  | agg h=>exact h.oneCell
  | top=>simp [V.solid] at hs
  | und=>simp [V.solid] at hs
  | yes=>simp [V.solid] at hs
  | no=>simp [V.solid] at hs
  | tup=>simp [V.solid] at hs
  | agv h=>exact bMn h hs
  | _=>simp [Value.cells,Value.oneCell']
theorem bSu {T U : TypeId} {x y : Operand} {x' y' : AO} {ti : TypeInfo} {o : Oper} (ho : o.op = .store T x y) (hd : o.dst = none) (hx : trO P U x = some x') (hy : trO P T y = some y') (hti : P.info? T = some ti) (h : Ok E N κ w a s)
    (hv:use (ev s x') fun x=>use (ev s y') fun y=>match x with
    | .ptr b o=>∃ c,bget s.bx b=some c∧y.solid=true∧y.cells.length=ti.size∧o+ti.size≤c.length∧K ⟨s.env,jH s.bx b (putCells c o y.cells)⟩
    | _=>False):o.wp P a w (KC E N K) Q:=by
  obtain ⟨p,hp,h1⟩:=opd hx h.env hv
  obtain ⟨q,hq,h2⟩:=opd hy h.env h1
  split at h2
  · rename_i n off
    obtain ⟨c,hc,hs,hl,hle,hK⟩:=h2
    have hu:=aMk hq hs
    obtain ⟨cs,T',hh,hr,hS,hE⟩:=h.good.box n c hc
    have hlen:(a.eval y).cells.size=ti.size:=by rw [← hl,← hu.length]; simp
    have hcl:cs.toList.length=c.length:=hr.length
    have hnew:=aO4 off hr hu
    have hfit:off+(a.eval y).cells.toList.length≤cs.toList.length:=by simp only [Array.length_toList] at hcl ⊢; omega
    rw [bAc off hfit] at hnew
    have h1c:=cells_one hq hs
    have hrun:=run_storeCells_at (P:=P) (κ.m n) off T' (a.eval y).cells.toList 0 cs w hh (by simp only [Array.length_toList] at hfit ⊢; omega) h1c
    simp only [Nat.add_zero] at hrun
    have hr':(execOp a.eval o).run P w=.ok .skip (w.setRow (κ.m n) (cs.toList.take off++(a.eval y).cells.toList++cs.toList.drop (off+(a.eval y).cells.toList.length)).toArray):=by
      unfold execOp; rw [ho]
      simp only [Instr.storeAt,hp.toPtr,Instr.sureAddr,storeVar]
      simp [rG hti,hlen,hrun]
    unfold Oper.wp
    rw [hr',Oper.upon_skip,hd]
    have hokk:=h.store hc (cs':=(cs.toList.take off++(a.eval y).cells.toList++cs.toList.drop (off+(a.eval y).cells.toList.length)).toArray) (c':=putCells c off q.cells) (by simpa using hnew)
      (w':=w.setRow (κ.m n) (cs.toList.take off++(a.eval y).cells.toList++cs.toList.drop (off+(a.eval y).cells.toList.length)).toArray) ⟨cs,T',hh,setRow_heap w (κ.m n) cs _ T' (0,0) hh⟩ rfl rfl rfl (by simp) (fun b hb=>setRow_other w _ b _ hb)
    exact ⟨κ,_,hK,hokk⟩
  · exact h2.elim
theorem bFh {e : TypeId} {sz : Nat} : ∀ {n : Nat} {parts : List (Nat × Operand)} {xs : List AO} {C : List (List D) → Prop}, V9 P e n parts = some xs → (∀ n, bI κ (a.tmps.getD n undef) (lk s.env n)) → aIy s sz xs C →
    ∃ l cs,fB κ.S cs l.flatten∧(∀ x ∈ l,x.length=sz)∧l.length=xs.length∧cs.length=xs.length * sz∧C l ∧
      ∀ pre rest:List Value,pre.length=n * sz→rest.length=xs.length * sz→Instr.fill (fun i=>some (i * sz,sz)) (pre++rest).toArray (parts.map fun (i,x)=>(i,a.eval x))=some (pre++cs).toArray
  | n,[],xs,C,h,he,hv=>by
    simp [V9] at h; subst h
    refine ⟨[],[],.nil,by simp,rfl,by simp,hv,fun pre rest _ hr=>?_⟩
    have:rest=[]:=List.eq_nil_of_length_eq_zero (by simpa using hr)
    subst this; rfl
  | n,(i,x)::r,xs,C,h,he,hv=>by
    simp only [V9] at h
    split at h
    · rename_i hi; subst hi
      split at h <;> simp at h
      rename_i y ys hy hys
      subst h
      obtain ⟨p,hp,hs,ds,hds,hdl,hrest⟩:=opd hy he hv
      obtain ⟨l,cs,h1,h2,h3,h4,h5,h6⟩:=bFh hys he hrest
      have hc:=(aMk hp hs).asDs hds
      have hcl:(a.eval x).cells.toList.length=sz:=by rw [hc.length,hdl]
      refine ⟨ds::l,(a.eval x).cells.toList++cs,by rw [List.flatten_cons]; exact hc.append h1,?_,by simp [h3],?_,h5,fun pre rest hpre hr=>?_⟩
      · intro z hz
        rcases List.mem_cons.1 hz with rfl | hz
        · exact hdl
        · exact h2 z hz
      · simp [h4,Nat.add_mul]; simp at hcl; omega
      · simp only [List.length_cons,Nat.add_mul,Nat.one_mul] at hr
        have hcs:(a.eval x).cells.size=sz:=by simpa using hcl
        have hno:¬ (decide ((a.eval x).cells.size≠sz)||decide (i * sz+(a.eval x).cells.size > (pre++rest).toArray.size))=true:=by
          simp only [Bool.or_eq_true,decide_eq_true_eq]
          rintro (h | h)
          · exact h hcs
          · rw [hcs] at h; simp at h; omega
        simp only [List.map_cons,Instr.fill]
        rw [if_neg hno,aZ1,bAc (i * sz) (by simp only [List.length_append]; omega)]
        have e1:(pre++rest).take (i * sz)=pre:=by rw [← hpre]; exact List.take_left
        have e2:(pre++rest).drop (i * sz+(a.eval x).cells.toList.length)=rest.drop sz:=by rw [hcl,← hpre,← List.drop_drop]; simp
        have:=h6 (pre++(a.eval x).cells.toList) (rest.drop sz) (by simp only [List.length_append,hcl,hpre,Nat.add_mul,Nat.one_mul]) (by simp only [List.length_drop]; omega)
        simp only [e1,e2]
        rw [List.append_assoc] at this ⊢
        rw [this]; simp
    · simp at h
theorem bYx {T e : TypeId} {len d : Nat} {parts : Array (Nat × Operand)} {xs : List AO} {ti : TypeInfo} {z : Value} {o : Oper} (ho : o.op = .buildSlice T len parts) (hd : o.dst = some d) (hdN : d < N) (hT : P.underlying T = some (.slice e)) (hti : P.info? e = some ti)
    (hz:ti.zero=some z) (hxs:V9 P e 0 parts.toList=some xs) (hlen:xs.length=len) (hsz:0<ti.size) (hsm:len * ti.size≤2 ^ 24) (h:Ok E N κ w a s)
    (hv:s.fresh d=true∧aIy s ti.size xs fun l=>K ⟨(d,.osl d e ti.size l)::s.env,s.bx⟩):o.wp P a w (KC E N K) Q:=by
  obtain ⟨hf,hv⟩:=hv
  obtain ⟨l,cs,h1,h2,h3,h4,hK,h6⟩:=bFh hxs h.env hv
  have hmx:len≤maxLen:=by
    have:len * 1≤len * ti.size:=Nat.mul_le_mul_left _ hsz
    simp only [maxLen]; omega
  have hfill:∀ A:Array Value,A.size=len * ti.size→Instr.fill (fun i=>some (i * ti.size,ti.size)) A (parts.toList.map fun (i,x)=>(i,a.eval x))=some cs.toArray:=by
    intro A hA
    have:=h6 [] A.toList (by simp) (by simp [hA,hlen])
    simpa using this
  have hr:(execOp a.eval o).run P w=.ok (.value (.slice (some ⟨w.heap.size,0,none⟩) len len)) (w.alloc (.cells cs.toArray e)):=by
    unfold execOp; rw [ho]
    have hn:¬ len * ti.size > 2 ^ 24:=by omega
    have hm:(Array.map (fun x=>match x with | (i,x)=>(i,a.eval x)) parts).toList=parts.toList.map fun (i,x)=>(i,a.eval x):=by simp
    simp only [Instr.buildSlice,Sem.run_bind,jR hT,Result.andThen_ok,rG hti,if_neg hn,Sem.run_pure,Sem.run_ite,hm]
    by_cases h0:len * ti.size=0
    · simp only [h0,if_true,Result.andThen_ok]
      rw [hfill _ (by simp [h0])]
      simp [newRow]
    · simp only [if_neg h0,zeroValue,typeInfo,Sem.run_bind,run_program,Result.andThen_ok,hti,Sem.run_pure,hz]
      rw [hfill _ (by simp)]
      simp [newRow]
  unfold Oper.wp
  rw [hr,Oper.upon_value,hd]
  obtain ⟨κ',hok⟩:=h.newrow hdN hf (e:=e) (sz:=ti.size) (n:=len) (cap:=len) (l:=l) (cs:=cs) (cur:=cs.toArray) h1 (by rw [h3,hlen]) h2 (Nat.le_refl _) hmx (by rw [h4,hlen]) (by simp [h4,hlen]) (by rw [show cs.toArray.toList=cs by simp]; exact List.take_of_length_le (by rw [h4,hlen]; exact Nat.le_refl _))
    (w':=w.alloc (.cells cs.toArray e)) rfl rfl rfl rfl
  exact ⟨κ',_,hK,hok⟩
theorem bRr {bx} (g : Good E κ w bx) {U : TypeId} (hU : P.underlying U = some .string ∨ ∃ e', P.underlying U = some (.slice e')) {v : Value} {x : V} {C : Nat → List (List D) → Prop} (h : bI κ v x) (hu : srK x C) :
    ∃ sz l us,H6 P sz U v l.length us w∧fB κ.S us l.flatten∧(∀ y ∈ l,y.length=sz)∧C sz l:=by
  have sl:∀ {x:V},bI κ v x→slK x C→∃ sz l us,H6 P sz U v l.length us w∧fB κ.S us l.flatten∧(∀ y ∈ l,y.length=sz)∧C sz l:=by
    intro x h hu
    obtain ⟨sz,l,hr,hC⟩:=aB4 h hu
    refine ⟨sz,l,?_⟩
    rcases hr.slice with ⟨rfl,rfl⟩ | ⟨a,cap,rfl,rfl,_⟩ | ⟨b,off,cap,vs,rfl,h1,h2,h3,h4,h5,h6⟩
    · exact ⟨[],⟨hU.symm,fun _=>rfl,run_firstCells_none w sz 0 0 0,run_firstCells_none w.drew sz 0 0 0,by simp,by simp⟩,.nil,by simp,hC⟩
    · exact ⟨[],⟨hU.symm,fun _=>rfl,run_firstCells_some w sz 0 a 0 cap [] (by simp) (by simp),run_firstCells_some w.drew sz 0 a 0 cap [] (by simp) (by simp),by simp,by simp⟩,.nil,by simp,hC⟩
    · have hc:=g.cells h4
      exact ⟨vs,⟨hU.symm,fun _=>rfl,run_firstCells_some w sz _ _ _ cap vs h3 hc,run_firstCells_some w.drew sz _ _ _ cap vs h3 (by simpa using hc),h3,h6.oneCell⟩,h6,h5,hC⟩
  unfold srK at hu
  split at hu
  · rename_i b
    cases h with
    | d h =>
      cases h with
      | s _ hb =>
        refine ⟨1,_,b.data.toList.map fun u=>Value.int .u8 u.toNat,?_,?_,?_,hu⟩
        · have:=bN9 (P:=P) (w:=w) hU b
          simpa using this
        · induction b.data.toList with
          | nil=>exact .nil
          | cons u r ih=>exact .cons (.i _ _ (aQ5 u).1 (aQ5 u).2) ih
        · intro y hy
          obtain ⟨n,_,rfl⟩:=List.mem_map.1 hy
          rfl
  · exact sl h hu
theorem bLa {T U e : TypeId} {d bytes sz : Nat} {x y : Operand} {x' y' : AO} {ti : TypeInfo} {z : Value} {o : Oper} (ho : o.op = .call { callee := .builtin .append, args := #[x, y], argTypes := #[T, U] }) (hTU : T = U ∨ P.underlying U = some .string) (hd : o.dst = some d) (hdN : d < N) (hT : P.underlying T = some (.slice e)) (hti : P.info? e = some ti)
    (hz:ti.zero=some z) (hzs:z.cells.size=ti.size) (hsz:0<ti.size) (hby:0<ti.bytes) (hx:trO P T x=some x') (hy:trO P U y=some y') (e1:sz=ti.size) (e2:bytes=ti.bytes) (h:Ok E N κ w a s)
    (hv:use (ev s x') fun x=>use (ev s y') fun y=>srK y fun sz' ys=>sz'=sz∧match x with
    | .nil _=>aFk s d e sz bytes d [] ys K
    | .osl t e' sz'' xs=>e'=e∧sz''=sz∧aFk s d e sz bytes t xs ys K
    | _=>False):o.wp P a w (KC E N K) Q:=by
  subst e1; subst e2
  obtain ⟨p,hp,h1⟩:=opd hx h.env hv
  obtain ⟨q,hq,h2⟩:=opd hy h.env h1
  obtain ⟨sz',ys,us,hsr,hu6,hu5,rfl,h3⟩:=bRr h.good (hTU.elim (fun q=>.inr ⟨e,q ▸ hT⟩) .inl) hq h2
  have go:∀ (t:Nat) (xs:List (List D)),((a.eval x=.slice none 0 0∧xs=[])∨κ.o t=some ⟨e,ti.size,a.eval x⟩)→fU κ.S (a.eval x) (.sl ti.size xs)→aFk s d e ti.size ti.bytes t xs ys K→o.wp P a w (KC E N K) Q:=by
    intro t xs hv hvr hK
    obtain ⟨hk1,hk2,hk3,hK⟩:=hK
    have hml:xs.length+ys.length≤maxLen:=by
      have:(xs.length+ys.length) * 1≤(xs.length+ys.length) * ti.bytes:=Nat.mul_le_mul_left _ hby
      simp only [maxLen]; omega
    obtain ⟨v',w',κ',hrun,hok⟩:=h.append hdN hk2 hk3 hT hti hz rfl rfl hzs hsz hv hvr hsr hu6 hu5 hk1 hml o.type
    have hr':(execOp a.eval o).run P w=.ok (.value v') w':=by
      unfold execOp; rw [ho]
      simp [resolve,invoke,builtin,hrun]
    unfold Oper.wp
    rw [hr',Oper.upon_value,hd]
    exact ⟨κ',_,hK,hok⟩
  split at h3
  · have:=hp.toNil
    exact go d [] (.inl ⟨this,rfl⟩) (by rw [this]; exact .nil _) h3
  · obtain ⟨rfl,rfl,h4⟩:=h3
    generalize hex:a.eval x=vx at hp
    cases hp with
    | osl hp1 hp2=>exact go _ _ (.inr (by rw [hex]; exact hp1)) (by rw [hex]; exact hp2) h4
  · exact h3.elim
theorem bTc (n:Nat) (l:List D):V.noPtrs n (l.map V.d)=true:=by
  induction l with
  | nil=>rfl
  | cons x l ih=>simp [V.noPtrs,V.noPtr,ih]
theorem fB.vs {κ:Ctx} {vs:List Value} {l:List D} (h:fB κ.S vs l):dF κ vs (l.map V.d):=by
  induction l generalizing vs with
  | nil=>cases h; exact .nil
  | cons x l ih=>cases h with | cons a r=>exact .cons (.d a) (ih r)
theorem bFu {zl:List Value} {sz:Nat} (hz:zl.length=sz):∀ c:Nat,(List.range (c * sz)).map (fun i=>zl.toArray[i % sz]!)=(List.replicate c zl).flatten
  | 0=>by simp
  | c+1=>by
    rw [Nat.add_mul,Nat.one_mul,List.range_add,List.map_append,bFu hz c,List.replicate_succ',List.flatten_append]
    congr 1
    rw [List.map_map]
    simp only [List.flatten_cons,List.flatten_nil,List.append_nil]
    apply List.ext_getElem
    · simp [hz]
    · intro i h1 h2
      simp only [List.length_map,List.length_range] at h1
      simp [Nat.mod_eq_of_lt h1,h2]
theorem fB.rows {S:Mem} {zl:List Value} {ds:List D} (h:fB S zl ds):∀ c:Nat,fB S (List.replicate c zl).flatten (List.replicate c ds).flatten
  | 0=>.nil
  | c+1=>by
    rw [List.replicate_succ,List.replicate_succ,List.flatten_cons,List.flatten_cons]
    exact h.append (fB.rows h c)
theorem bPj {T e : TypeId} {d : Nat} {x y : Operand} {x' y' : AO} {ti : TypeInfo} {z : Value} {ds : List D} {o : Oper} (ho : o.op = .makeSlice T x y) (hd : o.dst = some d) (hdN : d < N) (hfb : ∀ n ∈ E.fb, N ≤ n) (hT : P.underlying T = some (.slice e)) (hti : P.info? e = some ti)
    (hz:ti.zero=some z) (hds:(uR P (aFf P 20 e) z.cells.toList).bind V.asDs=some ds) (hlen:ds.length=ti.size) (hsz:0<ti.size) (hby:0<ti.bytes) (hx:trO P 3 x=some x') (hy:trO P 3 y=some y') (h:Ok E N κ w a s)
    (hv:use (ev s x') fun x=>use (ev s y') fun y=>iK x fun n=>iK y fun m=>n=m∧0≤n∧n * ti.bytes≤140737488355328∧s.fresh d=true∧K ⟨(d,.msl d ti.size 0 n.toNat n.toNat)::s.env,(d,fK (List.replicate n.toNat ds))::s.bx⟩):o.wp P a w (KC E N K) Q:=by
  obtain ⟨p,hp,h1⟩:=opd hx h.env hv
  obtain ⟨q,hq,h2⟩:=opd hy h.env h1
  obtain ⟨k,n,hn,_,_,h3⟩:=zA hp h2
  obtain ⟨k',m,hm,_,_,rfl,h0,hb,hf,hK⟩:=zA hq h3
  obtain ⟨vl,hvl,hvd⟩:=Option.bind_eq_some_iff.1 hds
  have hc0:fB κ.S z.cells.toList ds:=(aH3 hvl κ).asDs hvd
  have hzl:z.cells.toList.length=ti.size:=by rw [hc0.length,hlen]
  have hle:n≤n * ti.bytes:=by
    have:n * 1≤n * (ti.bytes:Int):=Int.mul_le_mul_of_nonneg_left (by omega) h0
    omega
  have hmx:n.toNat≤maxLen:=by simp only [maxLen]; omega
  have hwr:IntKind.wrap .i64 n=n:=by
    rw [IntKind.wrap_i64]; omega
  have hcells:((Array.range (n.toNat * ti.size)).map fun i=>z.cells[i % z.cells.size]!)=(List.replicate n.toNat z.cells.toList).flatten.toArray:=by
    apply Array.ext'
    have:=bFu hzl n.toNat
    have hs:z.cells.size=ti.size:=by simpa using hzl
    rw [hs]
    simpa using this
  have hr:(execOp a.eval o).run P w=.ok (.value (.slice (some ⟨w.heap.size,0,none⟩) n.toNat n.toNat)) (w.alloc (.cells (List.replicate n.toNat z.cells.toList).flatten.toArray e)):=by
    have hty:(typeInfo e).run P w=.ok ti w:=by simp [typeInfo,hti]
    have hnl:¬ ((ti.bytes:Int) * n > 2 ^ 48):=by rw [Int.mul_comm]; omega
    have hroom:(askRoom (n.toNat * ti.bytes)).run P w=.ok () w:=by
      have:¬ n.toNat * ti.bytes > roomBytes:=by
        have e1:((n.toNat * ti.bytes:Nat):Int)=n * ti.bytes:=by rw [Int.natCast_mul,Int.toNat_of_nonneg h0]
        simp only [roomBytes]
        omega
      simp [askRoom,this]
    have hlt:¬ (n<0):=by omega
    have hmk:(Instr.makeSlice T (.int k n) (.int k' n)).run P w=.ok (.slice (some ⟨w.heap.size,0,none⟩) n.toNat n.toNat) (w.alloc (.cells (List.replicate n.toNat z.cells.toList).flatten.toArray e)):=by
      simp only [Instr.makeSlice,asInt,asIntOf,Sem.run_bind,jR hT,Result.andThen_ok,hty,hwr,Sem.run_pure]
      have hcond:(decide (n<0)||decide ((ti.bytes:Int) * n > 2 ^ 48))=false:=by simp [hnl,hlt]; omega
      have hcond2:((decide (n<0)||decide ((ti.bytes:Int) * n > 2 ^ 48))||decide (n<0)||decide (n > n))=false:=by rw [hcond]; simp; omega
      simp only [hcond2,Bool.false_eq_true,if_false,Sem.run_bind,hroom,Result.andThen_ok,rG hti,newRow,Sem.run_pure]
      rw [← hcells]
      by_cases h00:n.toNat * ti.size=0
      · have hr0:Array.range 0=#[]:=rfl
        simp [h00,hr0]
      · have hzv:(zeroValue e).run P w=.ok z w:=by simp [zeroValue,typeInfo,hti,hz]
        simp [h00,hzv]
    unfold execOp; rw [ho]
    simp [hn,hm,hmk]
  obtain ⟨κ',hok⟩:=h.allocV hdN hfb hf e (cs:=(List.replicate n.toNat z.cells.toList).flatten.toArray) (cells:=fK (List.replicate n.toNat ds)) (fB.vs (hc0.rows n.toNat)) (bTc _ _)
    (v:=.slice (some ⟨w.heap.size,0,none⟩) n.toNat n.toNat) (x:=.msl d ti.size 0 n.toNat n.toNat) fun κ' hm=>by
      have e:=bI.msl (κ:=κ') (n:=d) (sz:=ti.size) (o:=0) (Nat.le_refl n.toNat) hmx
      rwa [hm,Nat.zero_mul] at e
  unfold Oper.wp
  rw [hr,Oper.upon_value,hd]
  exact ⟨κ',_,hK,hok⟩
theorem bNd {x : Operand} {y : AO} {T : TypeId} {d : Nat} {o : Oper} (ho : o.op = .assign x) (hd : o.dst = some d) (hdN : d < N) (hx : trO P T x = some y) (h : Ok E N κ w a s)
    (hv:use (ev s y) fun v=>K (s.put d v)∨(match v with
    | .osl t e sz l=>t≠d∧((s.dn t).dn d).clean t=true∧((s.dn t).dn d).clean d=true∧K (((s.dn t).dn d).put d (.osl d e sz l))
    | _=>False)):o.wp P a w (KC E N K) Q:=by
  obtain ⟨p,hp,h1⟩:=opd hx h.env hv
  have hr:(execOp a.eval o).run P w=.ok (.value (a.eval x)) w:=by unfold execOp; rw [ho]; rfl
  unfold Oper.wp
  rw [hr,Oper.upon_value,hd]
  rcases h1 with h1 | h1
  · exact aQy h hdN hp h1
  · split at h1
    · rename_i t e sz l
      obtain ⟨hne,hc1,hc2,hK⟩:=h1
      generalize hex:a.eval x=vx at hp
      cases hp with | osl hp1 hp2 =>
      let κ':Ctx:=⟨κ.S,κ.mt,upd (upd κ.o t none) d (some ⟨e,sz,vx⟩)⟩
      have ho':∀ k,k≠t→k≠d→κ'.o k=κ.o k:=fun k h1 h2=>by show upd (upd κ.o t none) d _ k=_; rw [lM _ _ _ h2,lM _ _ _ h1]
      have g:=h.good
      have hsome:∀ t' o,κ'.o t'=some o→∃ t'',κ.o t''=some o∧(t'=d→t''=t)∧(t'≠d→t''=t'∧t'≠t):=by
        intro t' o ho2
        by_cases hd':t'=d
        · subst hd'
          have:κ'.o t'=some ⟨e,sz,vx⟩:=upd_same _ _ _
          rw [this] at ho2
          exact ⟨t,by rw [hp1]; exact ho2,fun _=>rfl,fun h=>absurd rfl h⟩
        · have e1:κ'.o t'=upd κ.o t none t':=lM _ _ _ hd'
          rw [e1] at ho2
          by_cases ht:t'=t
          · rw [ht,upd_same] at ho2; simp at ho2
          · rw [lM _ _ _ ht] at ho2
            exact ⟨t',ho2,fun h=>absurd h hd',fun _=>⟨rfl,ht⟩⟩
      have hdom:∀ n,(bget ((s.dn t).dn d).bx n).isSome→(bget s.bx n).isSome:=by
        intro n hn; simp only [St.dn,aHn,Option.isSome_map] at hn; exact hn
      refine ⟨κ',_,hK,⟨by simp [Act.put,h.size],h.defers,fun k=>?_,⟨⟨g.frm.os,g.frm.tape,g.frm.output,g.frm.size,g.frm.mem,g.frm.block,g.frm.names,g.frm.le⟩,g.mem,fun n c hc=>?_,fun n n' hn hn'=>g.inj n n' (hdom n hn) (hdom n' hn'),fun t' o ho2=>?_,fun t1 t2 o1 o2 gg k1 k2 b1 b2=>?_⟩⟩⟩
      · simp only [Act.put,St.put,lk]
        rw [aCk _ _ _ _ (by rw [h.size]; exact hdN)]
        split
        · exact .osl (upd_same _ _ _) hp2
        · refine bI.move (show κ.S.le κ'.S from Mem.le_refl _) ?_ (V.fits_oo (κ:=κ) (κ':=κ') (fun _=>rfl) ho' _ (St.clean_env hc1 k) (St.clean_env hc2 k))
          have:=((h.env k).dn t).dn d
          rw [← aJt,← aJt] at this
          exact this
      · have hc':=hc
        simp only [St.put,St.dn,aHn] at hc'
        cases h0:bget s.bx n with
        | none=>rw [h0] at hc'; simp at hc'
        | some c0 =>
          rw [h0] at hc'; simp at hc'; subst hc'
          obtain ⟨cs,T',hh,hr0,hS,hE⟩:=g.box n c0 h0
          exact ⟨cs,T',hh,((hr0.dn t).dn d).move (show κ.S.le κ'.S from Mem.le_refl _) (V.fitss_oo (κ:=κ) (κ':=κ') (fun _=>rfl) ho' _ (St.clean_bx hc1 hc) (St.clean_bx hc2 hc)),hS,hE⟩
      · obtain ⟨t'',h2,_,_⟩:=hsome t' o ho2
        obtain ⟨k,xs,hO,hx⟩:=g.own t'' o h2
        exact ⟨k,xs,hO,fun g2 hg2=>⟨(hx g2 hg2).1,(hx g2 hg2).2.1,fun n hn=>(hx g2 hg2).2.2 n (hdom n hn)⟩⟩
      · obtain ⟨u1,q1,r1,s1⟩:=hsome t1 o1 k1
        obtain ⟨u2,q2,r2,s2⟩:=hsome t2 o2 k2
        have hu:=g.ownInj u1 u2 o1 o2 gg q1 q2 b1 b2
        by_cases hd1:t1=d <;> by_cases hd2:t2=d
        · rw [hd1,hd2]
        · have:=r1 hd1; have:=s2 hd2; omega
        · have:=r2 hd2; have:=s1 hd1; omega
        · have:=s1 hd1; have:=s2 hd2; omega
    · exact h1.elim
end
end Go.Ab
