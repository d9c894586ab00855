/- Abstract states,what they say of the machine's state,and how both change together: a temporary,a new box,a store,a new row,an append. -/
import Derived.Test.YtcbkkemcgcdhdaaGreatAb1
namespace Go.Ab
open Go Go.RowKit
open _root_.Bool renaming and_eq_true→QA
open _root_.List renaming all_eq_true→QB
open _root_.Array renaming toList→QC
structure St where
  env:List (Nat×V)
  bx:List (Nat×List V)
  deriving Inhabited
abbrev NX:Nat:=261
def lk:List (Nat×V)→Nat→V
  | [],_=>.top
  | (m,v)::l,n=>if n=m then v else lk l n
def bget:List (Nat×List V)→Nat→Option (List V)
  | [],_=>none
  | (m,v)::l,n=>if n=m then some v else bget l n
def St.put (s:St) (d:Nat) (v:V):St:=⟨(d,v)::s.env,s.bx⟩
structure Entry where
  κ:Ctx
  w:World
  fb:List Nat
  may:Nat→Prop
structure Frm (E:Entry) (κ:Ctx) (w:World):Prop where
  os:w.os=E.w.os
  tape:w.tape=E.w.tape
  output:w.output=E.w.output
  size:E.w.heap.size≤w.heap.size
  mem:∀ b,b<E.w.heap.size→¬ E.may b→κ.S b=E.κ.S b
  block:∀ b,b<E.w.heap.size→¬ E.may b→w.heap[b]?=E.w.heap[b]?
  names:∀ n∈E.fb,κ.mt n=E.κ.mt n
  le:E.κ.S.le κ.S
def Row (h:Nat→Option Obj) (b:Nat) (cs:Array Value) (T:TypeId):Prop:=∃ fr,h b=some (.cells cs T fr)∧(fr.2=0∨cs.size≤fr.1)
theorem Row.of {h:Nat→Option Obj} {b:Nat} {cs:Array Value} {T:TypeId} (e:h b=some (.cells cs T (0,0))):Row h b cs T:=⟨_,e,.inl rfl⟩
theorem Row.frame {h h':Nat→Option Obj} {b:Nat} {cs:Array Value} {T:TypeId} (r:Row h b cs T) (e:h' b=h b):Row h' b cs T:=by obtain ⟨fr,h1,h2⟩:=r; exact ⟨fr,e.trans h1,h2⟩
theorem Row.lt {w:World} {b:Nat} {cs:Array Value} {T:TypeId} (r:Row (fun k=>w.heap[k]?) b cs T):b<w.heap.size:=by obtain ⟨fr,h1,_⟩:=r; exact (Array.getElem?_eq_some_iff.1 h1).1
theorem Row.set {w:World} {b:Nat} {cs cs':Array Value} {T:TypeId} (r:Row (fun k=>w.heap[k]?) b cs T) (hs:cs'.size=cs.size):Row (fun k=>(w.setRow b cs').heap[k]?) b cs' T:=by
  obtain ⟨fr,h1,h2⟩:=r
  exact ⟨fr,setRow_heap w b cs cs' T fr h1,by rw [hs]; exact h2⟩
theorem Row.stores {P:Program} (g o:Nat) (t:TypeId):∀ (vs:List Value) (i:Nat) (cur:Array Value) (w:World),Row (fun k=>w.heap[k]?) g cur t→o+i+vs.length≤cur.size→(∀ v∈vs,v.oneCell'=true) →
    (storeCells ⟨g,o,none⟩ vs i).run P w=.ok () (w.setRow g (cur.toList.take (o+i)++vs++cur.toList.drop (o+i+vs.length)).toArray)
  | [],i,cur,w,r,_,_=>by
    obtain ⟨fr,hg,_⟩:=r
    simp only [storeCells,List.append_nil,List.length_nil,Nat.add_zero,List.take_append_drop,Array.toArray_toList]
    rw [setRow_self w g cur t fr hg]
    rfl
  | v::vs,i,cur,w,r,hl,h1=>by
    have r':=r
    obtain ⟨fr,hg,hz⟩:=r
    have hg':w.heap[g]?=some (.cells cur t fr):=hg
    simp only [List.length_cons] at hl
    have hi:o+i<cur.size:=by omega
    have ha:(⟨g,o,none⟩:Addr).add i=⟨g,o+i,none⟩:=by unfold Addr.add; split <;> simp_all
    have hf:w.frozen? ⟨g,o+i,none⟩=false:=by
      simp only [World.frozen?,hg']
      rcases hz with hz | hz <;> simp <;> omega
    have hst:(store ((⟨g,o,none⟩:Addr).add i) v).run P w=.ok () (w.setRow g (cur.setIfInBounds (o+i) v)):=by
      rw [ha,run_store P w _ v _ (h1 v (by simp)),show w.cell? ⟨g,o+i,none⟩=some cur[o+i] by simp [World.cell?,hg',hi]]
      simp [hf,setCell_eq_setRow w g (o+i) cur t fr v hg']
    have ih:=Row.stores (P:=P) g o t vs (i+1) (cur.setIfInBounds (o+i) v) (w.setRow g (cur.setIfInBounds (o+i) v)) (r'.set (by simp)) (by simp; omega) (fun x hx=>h1 x (by simp [hx]))
    simp only [storeCells,Sem.run_bind,hst,Result.andThen_ok,ih,setRow_setRow]
    congr 3
    have e:=list_seg_step cur.toList (o+i) v vs (by simp; omega)
    simpa [Array.toList_setIfInBounds,Nat.add_assoc] using e
mutual
inductive fP (h:Nat→Option Obj):Value→D→List Nat→Prop
  | b (x:Bool):fP h (.bool x) (.b x) []
  | i (k:IntKind) (n:Int):k.min≤n→n≤k.max→fP h (.int k n) (.i k n) []
  | s (x:ByteArray):x.size≤maxLen→fP h (.string x) (.s x) []
  | nil (sz:Nat):fP h (.slice none 0 0) (.sl sz []) []
  | sl (b len cap sz:Nat) (l:List (List D)) (B:List Nat) (cs:Array Value) (T:TypeId):Row h b cs T→cs.size=cap * sz→len=l.length→len≤cap→cap≤maxLen →
      (∀ e∈l,e.length=sz)→dZ h (cs.toList.take (len * sz)) l.flatten B→fP h (.slice (some ⟨b,0,none⟩) len cap) (.sl sz l) (b::B)
inductive dZ (h:Nat→Option Obj):List Value→List D→List Nat→Prop
  | nil:dZ h [] [] []
  | cons {v:Value} {x:D} {vs:List Value} {xs:List D} {B C:List Nat}:fP h v x B→dZ h vs xs C→dZ h (v::vs) (x::xs) (B++C)
end
mutual
theorem fP.frame {h h':Nat→Option Obj}:∀ {v:Value} {x:D} {B:List Nat},fP h v x B→(∀ b∈B,h' b=h b)→fP h' v x B
  | _,_,_,.b x,_=>.b x
  | _,_,_,.i k n h1 h2,_=>.i k n h1 h2
  | _,_,_,.s x h1,_=>.s x h1
  | _,_,_,.nil sz,_=>.nil sz
  | _,_,_,.sl b len cap sz l B cs T h1 h2 h3 h4 h5 h6 h7,hf=>.sl b len cap sz l B cs T (h1.frame (hf b (by simp))) h2 h3 h4 h5 h6 (dZ.frame h7 fun k hk=>hf k (by simp [hk]))
theorem dZ.frame {h h':Nat→Option Obj}:∀ {v:List Value} {x:List D} {B:List Nat},dZ h v x B→(∀ b∈B,h' b=h b)→dZ h' v x B
  | _,_,_,.nil,_=>.nil
  | _,_,_,.cons h1 h2,hf=>.cons (fP.frame h1 fun k hk=>hf k (by simp [hk])) (dZ.frame h2 fun k hk=>hf k (by simp [hk]))
end
def oZ (T:TypeId):Value→Nat×TypeId×Value
  | .slice (some a) l c=>(a.block,T,.slice (some a) l c)
  | v=>(0,T,v)
theorem wM (T:TypeId) (v:Value):(oZ T v).2.2=v:=by unfold oZ; split <;> rfl
inductive rX (S:Mem) (h:Nat→Option Obj) (sz:Nat) (l:List (List D)):Value→List Nat→Prop
  | nil:l=[]→rX S h sz l (.slice none 0 0) []
  | sl (b cap:Nat) (cs:Array Value) (T:TypeId):Row h b cs T→cs.size=cap * sz→l.length≤cap→cap≤maxLen→(∀ e∈l,e.length=sz)→bP S (cs.toList.take (l.length * sz)) l.flatten→rX S h sz l (.slice (some ⟨b,0,none⟩) l.length cap) [b]
theorem rX.move {S S':Mem} {h h':Nat→Option Obj} {sz:Nat} {l:List (List D)} {v:Value} {B:List Nat} (r:rX S h sz l v B) (hS:S.le S') (hf:∀ b∈B,h' b=h b):rX S' h' sz l v B:=by
  cases r with
  | nil e=>exact .nil e
  | sl b cap cs T h1 h2 h3 h4 h5 h6=>exact .sl b cap cs T (h1.frame (hf b (by simp))) h2 h3 h4 h5 (h6.mono hS)
inductive mP (κ:Ctx) (h:Nat→Option Obj) (n:Nat):List V→Prop
  | plain {cs:Array Value} {cells:List V}:h (κ.m n)=some (.cells cs (κ.ty n) (0,0))→aZ κ cs.toList cells→κ.bl n=[κ.m n]→mP κ h n cells
  | closed {v:Value} {sz:Nat} {T:TypeId} {l:List (List D)}:κ.mt n=oZ T v→fP h v (.sl sz l) (κ.bl n)→mP κ h n [.trc sz l]
  | opened {b len cap sz i:Nat} {l:List (List D)} {B C:List Nat} {cs:Array Value} {T T':TypeId} {cells:List V}:κ.mt n=(b,T',.slice (some ⟨b,0,none⟩) len cap)→Row h b cs T→cs.size=cap * sz →
      len=l.length→len≤cap→cap≤maxLen→(∀ e∈l,e.length=sz)→i<len→dZ h (cs.toList.take (i * sz)) (l.take i).flatten B→aZ κ ((cs.toList.drop (i * sz)).take sz) cells →
      dZ h ((cs.toList.drop ((i+1) * sz)).take ((len - (i+1)) * sz)) (l.drop (i+1)).flatten C→κ.bl n=b::(B++C)→mP κ h n (.tro sz i l::cells)
  | dead:κ.bl n=[]→mP κ h n [.trd]
  | shallow {v:Value} {sz:Nat} {T:TypeId} {l:List (List D)}:κ.mt n=oZ T v→rX κ.S h sz l v (κ.bl n)→mP κ h n [.trs sz l]
def V.shal:V→Bool
  | .trs _ _=>true
  | _=>false
def MvV (κ κ':Ctx) (x y:V):Prop:=(x.mark=true→y=x∧(x.shal=true→κ.S.le κ'.S))∧∀ v,aR κ v x→aR κ' v y
inductive Mv (κ κ':Ctx):List V→List V→Prop
  | nil:Mv κ κ' [] []
  | cons {x y:V} {xs ys:List V}:MvV κ κ' x y→Mv κ κ' xs ys→Mv κ κ' (x::xs) (y::ys)
theorem Mv.reps {κ κ':Ctx}:∀ {xs ys:List V} {vs:List Value},Mv κ κ' xs ys→aZ κ vs xs→aZ κ' vs ys
  | _,_,_,.nil,h=>by cases h; exact .nil
  | _,_,_,.cons h t,hr=>by cases hr with | cons a r=>exact .cons (h.2 _ a) (t.reps r)
theorem mP.mv {κ κ':Ctx} {h h':Nat→Option Obj} {n k:Nat} {c d:List V} (hb:mP κ h n c) (hm:Mv κ κ' c d) (e:κ'.mt k=κ.mt n) (e2:κ'.bl k=κ.bl n) (hf:∀ b∈κ.bl n,h' b=h b):mP κ' h' k d:=by
  have em:κ'.m k=κ.m n:=congrArg Prod.fst e
  have et:κ'.ty k=κ.ty n:=congrArg (fun p=>p.2.1) e
  cases hb with
  | plain h1 h2 h3=>exact .plain (cs:=_) (by rw [em,et,hf _ (by rw [h3]; simp)]; exact h1) (hm.reps h2) (by rw [e2,h3,em])
  | closed h1 h2 =>
    cases hm with | cons a r =>
    cases r
    have:=(a.1 rfl).1; subst this
    exact .closed (e.trans h1) (by rw [e2]; exact h2.frame hf)
  | opened h1 h2 h3 h4 h5 h6 h7 h8 h9 h10 h11 h12 =>
    cases hm with | cons a r =>
    have:=(a.1 rfl).1; subst this
    rw [h12] at hf
    exact .opened (e.trans h1) (h2.frame (hf _ (by simp))) h3 h4 h5 h6 h7 h8 (h9.frame fun b hb=>hf b (by simp [hb])) (r.reps h10) (h11.frame fun b hb=>hf b (by simp [hb])) (e2.trans h12)
  | dead h1 =>
    cases hm with | cons a r =>
    cases r
    have:=(a.1 rfl).1; subst this
    exact .dead (e2.trans h1)
  | shallow h1 h2 =>
    cases hm with | cons a r =>
    cases r
    obtain ⟨e0,hS⟩:=a.1 rfl; subst e0; have hS:=hS rfl
    exact .shallow (e.trans h1) (by rw [e2]; exact h2.move hS hf)
def nU:List V→Bool
  | []=>true
  | x::_=>!x.mark
theorem mP.toPlain {κ:Ctx} {h:Nat→Option Obj} {n:Nat} {c:List V} (hb:mP κ h n c) (hc:nU c=true):∃ cs,h (κ.m n)=some (.cells cs (κ.ty n) (0,0))∧aZ κ cs.toList c∧κ.bl n=[κ.m n]:=by
  cases hb with
  | plain h1 h2 h3=>exact ⟨_,h1,h2,h3⟩
  | closed=>simp [nU,V.mark] at hc
  | opened=>simp [nU,V.mark] at hc
  | dead=>simp [nU,V.mark] at hc
  | shallow=>simp [nU,V.mark] at hc
theorem mP.toClosed {κ:Ctx} {h:Nat→Option Obj} {n sz:Nat} {l:List (List D)} {r:List V} (hb:mP κ h n (.trc sz l::r)):r=[]∧∃ v T,κ.mt n=oZ T v∧fP h v (.sl sz l) (κ.bl n):=by
  generalize hc:(V.trc sz l::r)=c at hb
  cases hb with
  | plain h1 h2 h3=>subst hc; generalize QC _=vs at h2; cases h2 with | cons a _=>cases a
  | closed h1 h2=>simp only [List.cons.injEq,V.trc.injEq] at hc; obtain ⟨⟨rfl,rfl⟩,rfl⟩:=hc; exact ⟨rfl,_,_,h1,h2⟩
  | opened=>simp at hc
  | dead=>simp at hc
  | shallow=>simp at hc
theorem mP.toShallow {κ:Ctx} {h:Nat→Option Obj} {n sz:Nat} {l:List (List D)} {r:List V} (hb:mP κ h n (.trs sz l::r)):r=[]∧∃ v T,κ.mt n=oZ T v∧rX κ.S h sz l v (κ.bl n):=by
  generalize hc:(V.trs sz l::r)=c at hb
  cases hb with
  | plain h1 h2 h3=>subst hc; generalize QC _=vs at h2; cases h2 with | cons a _=>cases a
  | closed h1 h2=>simp at hc
  | opened=>simp at hc
  | dead=>simp at hc
  | shallow h1 h2=>simp only [List.cons.injEq,V.trs.injEq] at hc; obtain ⟨⟨rfl,rfl⟩,rfl⟩:=hc; exact ⟨rfl,_,_,h1,h2⟩
theorem mP.toOpened {κ:Ctx} {h:Nat→Option Obj} {n sz i:Nat} {l:List (List D)} {cells:List V} (hb:mP κ h n (.tro sz i l::cells)):∃ (b cap:Nat) (B C:List Nat) (cs:Array Value) (T T':TypeId),κ.mt n=(b,T',.slice (some ⟨b,0,none⟩) l.length cap)∧Row h b cs T∧cs.size=cap * sz ∧
    l.length≤cap∧cap≤maxLen∧(∀ e∈l,e.length=sz)∧i<l.length∧dZ h (cs.toList.take (i * sz)) (l.take i).flatten B∧aZ κ ((cs.toList.drop (i * sz)).take sz) cells ∧
    dZ h ((cs.toList.drop ((i+1) * sz)).take ((l.length - (i+1)) * sz)) (l.drop (i+1)).flatten C∧κ.bl n=b::(B++C):=by
  generalize hc:(V.tro sz i l::cells)=c at hb
  cases hb with
  | plain h1 h2 h3=>subst hc; generalize QC _=vs at h2; cases h2 with | cons a _=>cases a
  | closed h1 h2=>simp at hc
  | opened h1 h2 h3 h4 h5 h6 h7 h8 h9 h10 h11 h12 =>
    simp only [List.cons.injEq,V.tro.injEq] at hc
    obtain ⟨⟨rfl,rfl,rfl⟩,rfl⟩:=hc
    subst h4
    exact ⟨_,_,_,_,_,_,_,h1,h2,h3,h5,h6,h7,h8,h9,h10,h11,h12⟩
  | dead=>simp at hc
  | shallow=>simp at hc
theorem fP.slice {h:Nat→Option Obj} {v:Value} {sz:Nat} {l:List (List D)} {B:List Nat} (hr:fP h v (.sl sz l) B):(v=.slice none 0 0∧l=[]∧B=[])∨(∃ a,v=.slice (some a) 0 0∧l=[]∧B=[]) ∨
    ∃ b cap C cs T,v=.slice (some ⟨b,0,none⟩) l.length cap∧B=b::C∧Row h b cs T∧cs.size=cap * sz∧l.length≤cap∧cap≤maxLen∧(∀ e∈l,e.length=sz)∧dZ h (cs.toList.take (l.length * sz)) l.flatten C:=by
  cases hr with
  | nil=>exact .inl ⟨rfl,rfl,rfl⟩
  | sl b len cap _ _ C cs T h1 h2 h3 h4 h5 h6 h7=>subst h3; exact .inr (.inr ⟨b,cap,C,cs,T,rfl,rfl,h1,h2,h4,h5,h6,h7⟩)
def bK2:Mem:=fun _=>[]
def GV:List (Nat×(Option Obj→Prop)):=[]
abbrev XE:TypeId:=1000000000
def sI (w:World) (e:TypeId) (sz:Nat) (v:Value) (n:Nat) (xs:List Value):Prop :=
  xs.length=n * sz∧((v=.slice none 0 0∧n=0)∨∃ g cap cur T,v=.slice (some ⟨g,0,none⟩) n cap∧Row (fun b=>w.heap[b]?) g cur T∧(e≠XE→w.heap[g]?=some (.cells cur e (0,0)))∧n≤cap∧cap≤maxLen∧cur.size=cap * sz∧cur.toList.take (n * sz)=xs)
theorem sI.nil (w:World) (e:TypeId) (sz:Nat):sI w e sz (.slice none 0 0) 0 []:=⟨by simp,.inl ⟨rfl,rfl⟩⟩
theorem sI.of {w:World} {e:TypeId} {sz n:Nat} {v:Value} {xs:List Value} (h:w.ownsRow 0 e sz v n xs):sI w e sz v n xs:=by
  obtain ⟨h1,h2 | ⟨g,cap,cur,h3,_,h4,h5,h6,h7,h8⟩⟩:=h
  · exact ⟨h1,.inl h2⟩
  · exact ⟨h1,.inr ⟨g,cap,cur,e,h3,.of h4,fun _=>h4,h5,h6,h7,h8⟩⟩
theorem sI.to {w:World} {e:TypeId} {sz n:Nat} {v:Value} {xs:List Value} (h:sI w e sz v n xs) (he:e≠XE):w.ownsRow 0 e sz v n xs:=by
  obtain ⟨h1,h2 | ⟨g,cap,cur,T,h3,_,h4,h5,h6,h7,h8⟩⟩:=h
  · exact ⟨h1,.inl h2⟩
  · exact ⟨h1,.inr ⟨g,cap,cur,h3,Nat.zero_le _,h4 he,h5,h6,h7,h8⟩⟩
def OwnAt (κ:Ctx) (w:World) (o:Own):Prop:=∃ k xs,sI w o.e o.sz o.v k xs∧∀ g,o.v.ownBlock=some g→κ.S g=xs
def cBw (E:Entry):Prop:=∀ p∈GV,¬ E.may p.1∧p.1<E.w.heap.size∧p.2 E.w.heap[p.1]?
structure Good (E:Entry) (κ:Ctx) (w:World) (bx:List (Nat×List V)):Prop where
  frm:Frm E κ w
  mem:∀ b,κ.S b≠[]→∃ cs T fr,w.heap[b]?=some (.cells cs T fr)∧κ.S b <+: cs.toList
  box:∀ n cells,bget bx n=some cells→mP κ (fun b=>w.heap[b]?) n cells
  blk:∀ n,(bget bx n).isSome→(κ.bl n).Nodup∧∀ b∈κ.bl n,κ.S b=[]∧b<w.heap.size∧(E.may b∨E.w.heap.size≤b)
  inj:∀ n n' b,(bget bx n).isSome→(bget bx n').isSome→b∈κ.bl n→b∈κ.bl n'→n=n'
  own:∀ t o,κ.o t=some o→OwnAt κ w o∧∀ g,o.v.ownBlock=some g→(E.may g∨E.w.heap.size≤g)∧∀ n,(bget bx n).isSome→g∉κ.bl n
  ownInj:∀ t t' o o' g,κ.o t=some o→κ.o t'=some o'→o.v.ownBlock=some g→o'.v.ownBlock=some g→t=t'
  tab:bK2.le κ.S
  tabx:cBw E
theorem Good.tabNow {E:Entry} {κ:Ctx} {w:World} {bx:List (Nat×List V)} (g:Good E κ w bx):∀ p∈GV,p.1<w.heap.size∧p.2 w.heap[p.1]?:=fun p hp=>by
  obtain ⟨h1,h2,h3⟩:=g.tabx p hp
  exact ⟨Nat.lt_of_lt_of_le h2 g.frm.size,by rw [g.frm.block p.1 h2 h1]; exact h3⟩
theorem Good.gvNo {E:Entry} {κ:Ctx} {w:World} {bx:List (Nat×List V)} (g:Good E κ w bx) {p:Nat×(Option Obj→Prop)} (hp:p∈GV) (h:E.may p.1∨E.w.heap.size≤p.1):False:=by
  obtain ⟨h1,h2,_⟩:=g.tabx p hp
  rcases h with h | h
  · exact h1 h
  · omega
structure Ok (E:Entry) (N:Nat) (κ:Ctx) (w:World) (a:Act) (s:St):Prop where
  size:a.tmps.size=N
  defers:a.defers=[]
  env:∀ n,aR κ (a.tmps.getD n undef) (lk s.env n)
  good:Good E κ w s.bx
def KC (E:Entry) (N:Nat) (K:St→Prop):Act→World→Prop:=fun a w=>∃ κ s,K s∧Ok E N κ w a s
section
variable {E:Entry} {N:Nat} {κ:Ctx} {w:World} {a:Act} {s:St} {K:St→Prop}
theorem aBy (t:Array Value) (d n:Nat) (v:Value) (hd:d<t.size):(t.setIfInBounds d v).getD n undef=if n=d then v else t.getD n undef:=by
  simp only [Array.getD_eq_getD_getElem?,Array.getElem?_setIfInBounds]
  by_cases h:n=d
  · subst h; simp [hd]
  · rw [if_neg (fun e=>h e.symm),if_neg h]
theorem Ok.put (h:Ok E N κ w a s) {d:Nat} (hd:d<N) {v:Value} {x:V} (hv:aR κ v x):Ok E N κ w (a.put (some d) v) (s.put d x):=by
  refine ⟨by simp [Act.put,h.size],h.defers,fun n=>?_,h.good⟩
  simp only [Act.put,St.put,lk]
  rw [aBy _ _ _ _ (by rw [h.size]; exact hd)]
  split
  · exact hv
  · exact h.env n
theorem aWr (h:Ok E N κ w a s) {d:Nat} (hd:d<N) {v:Value} {x:V} (hv:aR κ v x) (hK:K (s.put d x)):KC E N K (a.put (some d) v) w :=
  ⟨κ,_,hK,h.put hd hv⟩
theorem aUb {P:Program} {o:Oper} {Q:Exit→Act→World→Prop} {d:Nat} (hdst:o.dst=some d) (h:Ok E N κ w a s) (hd:d<N) {v:Value} {x:V}
    (hr:(execOp a.eval o).run P w=.ok (.value v) w) (hv:aR κ v x) (hK:K (s.put d x)):o.wp P a w (KC E N K) Q:=by
  unfold Oper.wp
  rw [hr,Oper.upon_value,hdst]
  exact aWr h hd hv hK
end
mutual
def V.noPtr (n:Nat):V→Bool
  | .ptr m _=>m != n
  | .msl m _ _ _ _=>m != n
  | .fn _ l=>V.noPtrs n l
  | .tup l=>V.noPtrs n l
  | .agv l=>V.noPtrs n l
  | .bp m _=>m != n
  | .tre m=>m != n
  | .trp m _ _ _=>m != n
  | .ite _ v=>v.noPtr n
  | _=>true
def V.noPtrs (n:Nat):List V→Bool
  | []=>true
  | v::l=>v.noPtr n&&V.noPtrs n l
end
mutual
def V.noTok (t:Nat):V→Bool
  | .osl t' _ _ _=>t' != t
  | .fn _ l=>V.noToks t l
  | .tup l=>V.noToks t l
  | .agv l=>V.noToks t l
  | .ite _ v=>v.noTok t
  | _=>true
def V.noToks (t:Nat):List V→Bool
  | []=>true
  | v::l=>v.noTok t&&V.noToks t l
end
def V.dn1 (t:Nat):V→V
  | .osl t' e sz l=>if t'=t then .d (.sl sz l) else .osl t' e sz l
  | v=>v
def V.dn0 (t:Nat):V→V
  | .agv l=>.agv (l.map (V.dn1 t))
  | .tup l=>.tup (l.map (V.dn1 t))
  | v=>v.dn1 t
def V.dn (t:Nat):V→V
  | .ite c v=>.ite c (v.dn0 t)
  | v=>v.dn0 t
mutual
theorem V.fits_refl (κ:Ctx):∀ v:V,v.fits κ κ
  | .ptr ..=>rfl
  | .msl ..=>rfl
  | .osl ..=>rfl
  | .fn _ l=>V.fitss_refl κ l
  | .tup l=>V.fitss_refl κ l
  | .agv l=>V.fitss_refl κ l
  | .bp ..=>rfl
  | .tre ..=>rfl
  | .trp ..=>rfl
  | .ite _ v=>V.fits_refl κ v
  | .top | .und | .d _ | .agg _ | .nil _ | .rp _ | .np | .nf | .trc .. | .trs .. | .tro .. | .trd=>trivial
theorem V.fitss_refl (κ:Ctx):∀ l:List V,V.fitss κ κ l
  | []=>trivial
  | v::l=>⟨V.fits_refl κ v,V.fitss_refl κ l⟩
end
mutual
theorem V.fits_oo {κ κ':Ctx} {t u:Nat} (hm:∀ k,κ'.mt k=κ.mt k) (ho:∀ k,k≠t→k≠u→κ'.o k=κ.o k):∀ v:V,v.noTok t=true→v.noTok u=true→v.fits κ κ'
  | .ptr k _,_,_=>hm k
  | .msl k _ _ _ _,_,_=>hm k
  | .osl k _ _ _,h,h'=>ho k (by simpa [V.noTok] using h) (by simpa [V.noTok] using h')
  | .fn _ l,h,h'=>V.fitss_oo hm ho l (by simpa [V.noTok] using h) (by simpa [V.noTok] using h')
  | .tup l,h,h'=>V.fitss_oo hm ho l (by simpa [V.noTok] using h) (by simpa [V.noTok] using h')
  | .agv l,h,h'=>V.fitss_oo hm ho l (by simpa [V.noTok] using h) (by simpa [V.noTok] using h')
  | .bp k _,_,_=>hm k
  | .tre k,_,_=>hm k
  | .trp k _ _ _,_,_=>hm k
  | .ite _ v,h,h'=>V.fits_oo hm ho v (by simpa [V.noTok] using h) (by simpa [V.noTok] using h')
  | .top,_,_ | .und,_,_ | .d _,_,_ | .agg _,_,_ | .nil _,_,_ | .rp _,_,_ | .np,_,_ | .nf,_,_ | .trc ..,_,_ | .trs ..,_,_ | .tro ..,_,_ | .trd,_,_=>trivial
theorem V.fitss_oo {κ κ':Ctx} {t u:Nat} (hm:∀ k,κ'.mt k=κ.mt k) (ho:∀ k,k≠t→k≠u→κ'.o k=κ.o k):∀ l:List V,V.noToks t l=true→V.noToks u l=true→V.fitss κ κ' l
  | [],_,_=>trivial
  | v::l,h,h'=>by
    simp only [V.noToks,QA] at h h'
    exact ⟨V.fits_oo hm ho v h.1 h'.1,V.fitss_oo hm ho l h.2 h'.2⟩
end
mutual
theorem V.fits_m {κ κ':Ctx} {n:Nat} (hm:∀ k,k≠n→κ'.mt k=κ.mt k) (ho:∀ k,κ'.o k=κ.o k):∀ v:V,v.noPtr n=true→v.fits κ κ'
  | .ptr k _,h=>hm k (by simpa [V.noPtr] using h)
  | .msl k _ _ _ _,h=>hm k (by simpa [V.noPtr] using h)
  | .osl k _ _ _,_=>ho k
  | .fn _ l,h=>V.fitss_m hm ho l (by simpa [V.noPtr] using h)
  | .tup l,h=>V.fitss_m hm ho l (by simpa [V.noPtr] using h)
  | .agv l,h=>V.fitss_m hm ho l (by simpa [V.noPtr] using h)
  | .bp k _,h=>hm k (by simpa [V.noPtr] using h)
  | .tre k,h=>hm k (by simpa [V.noPtr] using h)
  | .trp k _ _ _,h=>hm k (by simpa [V.noPtr] using h)
  | .ite _ v,h=>V.fits_m hm ho v (by simpa [V.noPtr] using h)
  | .top,_ | .und,_ | .d _,_ | .agg _,_ | .nil _,_ | .rp _,_ | .np,_ | .nf,_ | .trc ..,_ | .trs ..,_ | .tro ..,_ | .trd,_=>trivial
theorem V.fitss_m {κ κ':Ctx} {n:Nat} (hm:∀ k,k≠n→κ'.mt k=κ.mt k) (ho:∀ k,κ'.o k=κ.o k):∀ l:List V,V.noPtrs n l=true→V.fitss κ κ' l
  | [],_=>trivial
  | v::l,h=>by
    simp only [V.noPtrs,QA] at h
    exact ⟨V.fits_m hm ho v h.1,V.fitss_m hm ho l h.2⟩
end
mutual
theorem V.fits_o {κ κ':Ctx} {t:Nat} (hm:∀ k,κ'.mt k=κ.mt k) (ho:∀ k,k≠t→κ'.o k=κ.o k):∀ v:V,v.noTok t=true→v.fits κ κ'
  | .ptr k _,_=>hm k
  | .msl k _ _ _ _,_=>hm k
  | .osl k _ _ _,h=>ho k (by simpa [V.noTok] using h)
  | .fn _ l,h=>V.fitss_o hm ho l (by simpa [V.noTok] using h)
  | .tup l,h=>V.fitss_o hm ho l (by simpa [V.noTok] using h)
  | .agv l,h=>V.fitss_o hm ho l (by simpa [V.noTok] using h)
  | .bp k _,_=>hm k
  | .tre k,_=>hm k
  | .trp k _ _ _,_=>hm k
  | .ite _ v,h=>V.fits_o hm ho v (by simpa [V.noTok] using h)
  | .top,_ | .und,_ | .d _,_ | .agg _,_ | .nil _,_ | .rp _,_ | .np,_ | .nf,_ | .trc ..,_ | .trs ..,_ | .tro ..,_ | .trd,_=>trivial
theorem V.fitss_o {κ κ':Ctx} {t:Nat} (hm:∀ k,κ'.mt k=κ.mt k) (ho:∀ k,k≠t→κ'.o k=κ.o k):∀ l:List V,V.noToks t l=true→V.fitss κ κ' l
  | [],_=>trivial
  | v::l,h=>by
    simp only [V.noToks,QA] at h
    exact ⟨V.fits_o hm ho v h.1,V.fitss_o hm ho l h.2⟩
end
mutual
theorem V.fits_eq {κ κ':Ctx} (hm:∀ k,κ'.mt k=κ.mt k) (ho:∀ k,κ'.o k=κ.o k):∀ v:V,v.fits κ κ'
  | .ptr k _=>hm k
  | .msl k _ _ _ _=>hm k
  | .osl k _ _ _=>ho k
  | .fn _ l=>V.fitss_eq hm ho l
  | .tup l=>V.fitss_eq hm ho l
  | .agv l=>V.fitss_eq hm ho l
  | .bp k _=>hm k
  | .tre k=>hm k
  | .trp k _ _ _=>hm k
  | .ite _ v=>V.fits_eq hm ho v
  | .top | .und | .d _ | .agg _ | .nil _ | .rp _ | .np | .nf | .trc .. | .trs .. | .tro .. | .trd=>trivial
theorem V.fitss_eq {κ κ':Ctx} (hm:∀ k,κ'.mt k=κ.mt k) (ho:∀ k,κ'.o k=κ.o k):∀ l:List V,V.fitss κ κ' l
  | []=>trivial
  | v::l=>⟨V.fits_eq hm ho v,V.fitss_eq hm ho l⟩
end
theorem Mv.fits {κ κ':Ctx} (hS:κ.S.le κ'.S):∀ {c:List V},V.fitss κ κ' c→Mv κ κ' c c
  | [],_=>.nil
  | _::_,h=>.cons ⟨fun _=>⟨rfl,fun _=>hS⟩,fun _ hr=>hr.move hS h.1⟩ (Mv.fits hS h.2)
theorem Mv.refl (κ:Ctx) (c:List V):Mv κ κ c c:=Mv.fits (Mem.le_refl _) (V.fitss_refl κ c)
theorem Mv.trans {κ κ' κ2:Ctx}:∀ {a b c:List V},Mv κ κ' a b→Mv κ' κ2 b c→Mv κ κ2 a c
  | _,_,_,.nil,.nil=>.nil
  | _,_,_,.cons h t,.cons k u=>.cons ⟨fun hm=>by obtain ⟨e,h1⟩:=h.1 hm; subst e; obtain ⟨e2,h2⟩:=k.1 hm; exact ⟨e2,fun q=>Mem.le_trans (h1 q) (h2 q)⟩,fun v hr=>k.2 v (h.2 v hr)⟩ (Mv.trans t u)
def upd {α:Type} (f:Nat→α) (n:Nat) (x:α):Nat→α:=fun k=>if k=n then x else f k
theorem upd_same {α:Type} (f:Nat→α) (n:Nat) (x:α):upd f n x n=x:=by simp [upd]
theorem jI {α:Type} (f:Nat→α) (n:Nat) (x:α) {k:Nat} (h:k≠n):upd f n x k=f k:=by simp [upd,h]
def I5 (p:V→Bool):List (Nat×V)→Bool
  | []=>true
  | (_,v)::l=>p v&&I5 p l
def xW (p:V→Bool):List (Nat×List V)→Bool
  | []=>true
  | (_,l)::r=>l.all p&&xW p r
theorem bL8 {p:V→Bool} (htop:p .top=true) {l:List (Nat×V)} (h:I5 p l=true) (n:Nat):p (lk l n)=true:=by
  induction l with
  | nil=>exact htop
  | cons x l ih =>
    obtain ⟨m,v⟩:=x
    simp only [I5,QA] at h
    simp only [lk]
    split
    · exact h.1
    · exact ih h.2
theorem bKg {p:V→Bool} {l:List (Nat×List V)} (h:xW p l=true) {n:Nat} {c:List V} (hc:bget l n=some c):c.all p=true:=by
  induction l with
  | nil=>simp [bget] at hc
  | cons x l ih =>
    obtain ⟨m,v⟩:=x
    simp only [xW,QA] at h
    simp only [bget] at hc
    split at hc
    · simp at hc; subst hc; exact h.1
    · exact ih h.2 hc
theorem aPq (n:Nat) (l:List V):V.noPtrs n l=l.all (V.noPtr n):=by
  induction l with
  | nil=>rfl
  | cons x l ih=>simp [V.noPtrs,ih]
theorem D8 (n:Nat) (l:List V):V.noToks n l=l.all (V.noTok n):=by
  induction l with
  | nil=>rfl
  | cons x l ih=>simp [V.noToks,ih]
def St.fresh (s:St) (n:Nat):Bool:=I5 (fun v=>v.noPtr n&&v.noTok n) s.env&&xW (fun v=>v.noPtr n&&v.noTok n) s.bx
theorem St.fresh_env {s:St} {n:Nat} (h:s.fresh n=true) (k:Nat):(lk s.env k).noPtr n=true∧(lk s.env k).noTok n=true:=by
  simp only [St.fresh,QA] at h
  have:=bL8 (p:=fun v=>v.noPtr n&&v.noTok n) rfl h.1 k
  simpa using this
theorem St.fresh_bx {s:St} {n:Nat} (h:s.fresh n=true) {k:Nat} {c:List V} (hc:bget s.bx k=some c):V.noPtrs n c=true∧V.noToks n c=true:=by
  simp only [St.fresh,QA] at h
  have:=bKg h.2 hc
  rw [aPq,D8,QB,QB]
  simp only [QB,QA] at this
  exact ⟨fun v hv=>(this v hv).1,fun v hv=>(this v hv).2⟩
def St.clean (s:St) (t:Nat):Bool:=I5 (V.noTok t) s.env&&xW (V.noTok t) s.bx
theorem St.clean_env {s:St} {n:Nat} (h:s.clean n=true) (k:Nat):(lk s.env k).noTok n=true:=by
  simp only [St.clean,QA] at h
  exact bL8 (p:=V.noTok n) rfl h.1 k
theorem St.clean_bx {s:St} {n:Nat} (h:s.clean n=true) {k:Nat} {c:List V} (hc:bget s.bx k=some c):V.noToks n c=true:=by
  simp only [St.clean,QA] at h
  rw [D8]
  exact bKg h.2 hc
end Go.Ab
