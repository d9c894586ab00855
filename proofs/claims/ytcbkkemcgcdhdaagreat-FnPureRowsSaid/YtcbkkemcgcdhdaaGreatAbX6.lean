/- The walk by configurations: the code is computed,not written down. -/
import Derived.Test.YtcbkkemcgcdhdaaGreatAbX5
namespace Go.Ab
open Go Go.RowKit
open _root_.Prod renaming fst→QA,snd→QC
open _root_.Option renaming some.injEq→QB,map_some→QD,map_none→QK
open _root_.List renaming replicate→QE,map_append→QG,append_inj→QL
open _root_.Nat renaming ble→QF,beq→QI,blt→QJ
open _root_.Bool renaming and_eq_true→QH
inductive Kf where
  | c (x:AC)
  | b (id:Nat)
  | l (x:AC)
inductive Cf where
  | at (x:AC) (k:List Kf) (s:St)
  | os (l:List AOp) (k:List Kf) (s:St)
  | dr (w:List (List Nat)) (s0:St) (l:List AOp) (acc:List Ev) (k:List Kf) (s:St)
  | ex (e:Exit) (k:List Kf) (s:St)
def GQ (P:Program) (Q0:Exit→St→Prop):List Kf→Exit→St→Prop
  | []=>Q0
  | .c y::k=>uB (wkK (avc P y (GQ P Q0 k))) (GQ P Q0 k)
  | .b id::k=>tQ id (GQ P Q0 k)
  | .l x::k=>uB (avc P (.loop x) (GQ P Q0 k)) (GQ P Q0 k)
def Cf.ok (P:Program) (Q0:Exit→St→Prop):Cf→Prop
  | .at x k s=>avc P x (GQ P Q0 k) s
  | .os l k s=>bN P (GQ P Q0 k .normal) l s
  | .dr w s0 l acc k s=>dgo P (K5 w s0 (GQ P Q0 k .normal)) l acc s
  | .ex e k s=>GQ P Q0 k e s
def Cf.stt:Cf→St
  | .at _ _ s | .os _ _ s | .dr _ _ _ _ _ s | .ex _ _ s=>s
abbrev Ob:=List (Bool×Bool)
def obG (s:St) (j:Nat) (want:Bool) (o:AOp):Ob:=match needs s o with
  | []=>[]
  | n=>[(n.all id,(QE n.length (gcV s j want)).all id)]
def bXr:AOp→Bool
  | .pick ..=>true
  | _=>false
def aNd (s : St) (j : Nat) (want : Bool) (o : AOp) : Option V := if o.val && !bXr o then match iW (lk s.env j), nD s o with
    | some _,some v=>some (.ite (gcV s j want) v)
    | _,_=>none
  else none
def Cf.nxt:Cf→Option (Cf×Ob)
  | .at x k s=>match x with
    | .skip=>some (.ex .normal k s,[])
    | .ops l=>some (.os l k s,[])
    | .dops w l=>some (.dr w s l [] k s,[])
    | .seq x y=>some (.at x (.c y::k) s,[])
    | .block id x=>some (.at x (.b id::k) s,[])
    | .exit id=>some (.ex (.exit id) k s,[])
    | .ret=>some (.ex .ret k s,[])
    | _=>none
  | .os l k s=>match l with
    | []=>some (.ex .normal k s,[])
    | .g j want o::l=>match aNd s j want o with
      | some v=>some (.os l k (s.putO o.dst v),obG s j want o)
      | none=>none
    | .pick ..::_=>none
    | o::l=>match st1 s o with
      | some s'=>some (.os l k s',[])
      | none=>none
  | .dr w s0 l acc k s=>match l with
    | []=>if acc.reverse.all (glB s0)&&aGk w (qG 0 acc.reverse) then some (.ex .normal k s,[]) else none
    | .g j want o::l=>match aNd s j want o with
      | some v=>some (.dr w s0 l (evV s (.g j want o) v::acc) k (eff (evV s (.g j want o) v) s),obG s j want o)
      | none=>none
    | .pick ..::_=>none
    | o::l=>match dev s o with
      | some e=>some (.dr w s0 l (e::acc) k (eff e s),[])
      | none=>none
  | .ex e k s=>match k with
    | []=>none
    | .c y::k=>match e with
      | .normal=>some (.at y k s,[])
      | e=>some (.ex e k s,[])
    | .b id::k=>match e with
      | .exit id'=>if id'=id then some (.ex .normal k s,[]) else some (.ex (.exit id') k s,[])
      | e=>some (.ex e k s,[])
    | .l _::k=>match e with
      | .normal=>none
      | e=>some (.ex e k s,[])
theorem bFw {s:St} {j:Nat} {want:Bool} {o:AOp} (h:(obG s j want o).map QA=(obG s j want o).map QC):(needs s o).all id=(QE (needs s o).length (gcV s j want)).all id:=by
  unfold obG at h
  split at h
  · rename_i e; rw [e]; rfl
  · rename_i n hn
    simpa using h
theorem bGf {s:St} {j:Nat} {want:Bool} {o:AOp} {v:V} (h:aNd s j want o=some v):o.val=true∧(iW (lk s.env j)).isSome=true∧(nD s o).isSome=true∧v=.ite (gcV s j want) (vR s o):=by
  unfold aNd at h
  split at h
  · rename_i h1
    split at h <;> simp at h
    rename_i h2 h3
    subst h
    rw [QH] at h1
    exact ⟨h1.1,by rw [h2]; rfl,by rw [h3]; rfl,by simp only [vR,h3]⟩
  · simp at h
theorem aQd {o:AOp} (h:o.val=true):∃ d,o.dst=some d:=by cases o <;> first | exact ⟨_,rfl⟩ | simp [AOp.val] at h
theorem Cf.nxt_ok {P:Program} {Q0:Exit→St→Prop} {c c':Cf} {ob:Ob} (h:c.nxt=some (c',ob)) (hob:ob.map QA=ob.map QC) (hk:c'.ok P Q0):c.ok P Q0:=by
  cases c with
  | «at» x k s =>
    cases x <;> simp only [Cf.nxt,QB,Prod.mk.injEq,reduceCtorEq] at h <;> obtain ⟨rfl,rfl⟩:=h
    · exact hk
    · exact ⟨s,Wk.refl s,hk⟩
    · exact ⟨s,Wk.refl s,hk⟩
    · exact hk
    · exact hk
    · exact hk
    · exact ⟨s,Wk.refl s,hk⟩
  | os l k s =>
    unfold Cf.nxt at h
    dsimp only at h
    split at h
    · simp at h; obtain ⟨rfl,rfl⟩:=h; exact hk
    · rename_i j want o l
      split at h <;> simp at h
      rename_i v hv
      obtain ⟨rfl,rfl⟩:=h
      obtain ⟨h1,h2,h3,rfl⟩:=bGf hv
      obtain ⟨d,hd⟩:=aQd h1
      refine gq (d:=d) (needs s o).length ?_ h1 hd h2 h3 (bFw hob)
      rw [hd] at hk
      exact hk
    · simp at h
    · split at h <;> simp at h
      rename_i s' h1
      obtain ⟨rfl,rfl⟩:=h
      exact bEk h1 hk
  | dr w s0 l acc k s =>
    unfold Cf.nxt at h
    dsimp only at h
    split at h
    · split at h <;> simp at h
      rename_i h1
      rw [QH] at h1
      obtain ⟨rfl,rfl⟩:=h
      exact cGy (P:=P) h1.1 h1.2 hk
    · rename_i j want o l
      split at h <;> simp at h
      rename_i v hv
      obtain ⟨rfl,rfl⟩:=h
      obtain ⟨h1,h2,h3,rfl⟩:=bGf hv
      obtain ⟨d,hd⟩:=aQd h1
      refine dgq (d:=d) (needs s o).length ?_ h1 hd h2 h3 (bFw hob)
      have e:=nZ (s:=s) (o:=.g j want o) (r:=.ite (gcV s j want) (vR s o)) (d:=d) hd
      have hk':Cf.ok P Q0 (.dr w s0 l (evV s (.g j want o) (.ite (gcV s j want) (vR s o))::acc) k (eff (evV s (.g j want o) (.ite (gcV s j want) (vR s o))) s)):=hk
      rw [e] at hk'
      exact hk'
    · simp at h
    · split at h <;> simp at h
      rename_i e h1
      obtain ⟨rfl,rfl⟩:=h
      obtain ⟨k1,k2,k3⟩:=bWx (P:=P) h1
      exact ⟨e,k1,k2,k3,hk⟩
  | ex e k s =>
    cases k with
    | nil=>simp [Cf.nxt] at h
    | cons f k =>
      cases f with
      | c y =>
        simp only [Cf.nxt] at h
        split at h <;> simp at h <;> obtain ⟨rfl,rfl⟩:=h
        · exact ⟨s,Wk.refl s,hk⟩
        · rename_i e' hne
          show uB _ _ e s
          cases e <;> first | exact absurd rfl hne | exact hk
      | b id =>
        simp only [Cf.nxt] at h
        split at h
        · split at h <;> simp at h <;> obtain ⟨rfl,rfl⟩:=h
          · rename_i id' e; subst e; exact bM6 hk
          · rename_i id' hne; exact bWb hne hk
        · rename_i e' hne
          simp at h; obtain ⟨rfl,rfl⟩:=h
          show tQ id _ e s
          cases e <;> first | exact absurd rfl (hne _) | exact hk
      | l x =>
        simp only [Cf.nxt] at h
        split at h <;> simp at h
        obtain ⟨rfl,rfl⟩:=h
        rename_i hne
        show uB _ _ e s
        cases e <;> first | exact absurd rfl hne | exact hk
def Cf.run (stop:Cf→Bool):Nat→Cf→Ob→Cf×Ob
  | 0,c,ob=>(c,ob)
  | n+1,c,ob=>if stop c then (c,ob) else match c.nxt with
    | some (c',ob')=>c'.run stop n (ob'++ob)
    | none=>(c,ob)
theorem Cf.run_ok {P:Program} {Q0:Exit→St→Prop} {stop:Cf→Bool}:∀ {n:Nat} {c:Cf} {ob:Ob},(c.run stop n ob).2.map QA=(c.run stop n ob).2.map QC→(c.run stop n ob).1.ok P Q0→ob.map QA=ob.map QC∧c.ok P Q0
  | 0,_,_,ho,h=>⟨ho,h⟩
  | n+1,c,ob,ho,h=>by
    simp only [Cf.run] at h ho
    split at h
    · rename_i h0; rw [if_pos h0] at ho; exact ⟨ho,h⟩
    · rename_i h0
      rw [if_neg h0] at ho
      split at h
      · rename_i c' ob' h1
        rw [h1] at ho
        obtain ⟨k1,k2⟩:=Cf.run_ok ho h
        rw [QG,QG] at k1
        have:=QL k1 (by simp)
        exact ⟨this.2,Cf.nxt_ok h1 this.1 k2⟩
      · rename_i h1
        rw [h1] at ho
        exact ⟨ho,h⟩
def Cf.AO (c:Cf):Cf×Ob:=c.run (fun _=>false) 100000 []
def Cf.A (c:Cf):Cf:=c.AO.1
def Cf.W (c:Cf):Prop:=c.AO.2.map QA=c.AO.2.map QC
theorem Cf.A_ok {P:Program} {Q0:Exit→St→Prop} {c:Cf} (hw:c.W) (h:c.A.ok P Q0):c.ok P Q0:=(Cf.run_ok hw h).2
def Cf.hd (c:Cf):Option (AOp×St):=match c.A with
  | .os (o::_) _ s=>some (o,s)
  | .dr _ _ (o::_) _ _ s=>some (o,s)
  | _=>none
def Cf.put (c:Cf) (v:V):Cf:=match c.A with
  | .os (o::l) k s=>.os l k (s.putO o.dst v)
  | .dr w s0 (o::l) acc k s=>.dr w s0 l (evV s o v::acc) k (eff (evV s o v) s)
  | c=>c
section
variable {P:Program} {Q:Exit→St→Prop} {α β:Type} {r:β} {c:Cf} {o:AOp} {s:St}
theorem aOn (h:c.hd=some (o,s)):(∃ l k,c.A=.os (o::l) k s)∨∃ w s0 l acc k,c.A=.dr w s0 (o::l) acc k s:=by
  unfold Cf.hd at h
  split at h <;> simp at h
  · obtain ⟨rfl,rfl⟩:=h; exact .inl ⟨_,_,by assumption⟩
  · obtain ⟨rfl,rfl⟩:=h; exact .inr ⟨_,_,_,_,_,by assumption⟩
theorem aT6 (hw:c.W) {m:Option α} {v':α→V} {kF:α→Option β} (h:(m>>=kF)=some r) (hc:c.hd=some (o,s)) (hval:o.val=true) (hop:∀ y,m=some y→vop s (fun v=>v=v' y) o) (hk:∀ y,kF y=some r→(c.put (v' y)).ok P Q):c.ok P Q:=by
  obtain ⟨d,hd⟩:=aQd hval
  refine Cf.A_ok hw ?_
  rcases aOn hc with ⟨l,k,e⟩ | ⟨w,s0,l,acc,k,e⟩
  · rw [e]
    refine bBk (v':=v') h hval hd hop fun y hy=>?_
    have:=hk y hy
    simp only [Cf.put,e,hd] at this
    exact this
  · rw [e]
    refine dL (v':=v') h hval hd hop fun y hy=>?_
    have:=hk y hy
    simp only [Cf.put,e] at this
    rw [nZ hd] at this
    exact this
theorem bYi (hw:c.W) {v':V} (hc:c.hd=some (o,s)) (hval:o.val=true) (hop:vop s (fun v=>v=v') o) (hk:(c.put v').ok P Q):c.ok P Q :=
  aT6 hw (m:=some ()) (v':=fun _=>v') (kF:=fun _=>some ()) (r:=()) rfl hc hval (fun _ _=>hop) fun _ _=>hk
def Cf.ia (c:Cf):Option (List (List D)×Int):=match c.hd with
  | some (.ia _ sz x i,s)=>match conds s [x,i],slV (ev s x).str,(ev s i).str with
    | [],some (sz',l),.d (.i .i64 i)=>if sz'=sz then some (l,i) else none
    | _,_,_=>none
  | _=>none
theorem Iq (f:α→List D) (g:α→List D) (hfg:∀ x,f x=g x) {l:List α} {i:Int} {kF:α→Option β} (h:(idx l i>>=kF)=some r) (hk:∀ y,kF y=some r→(c.put (.rp (g y))).ok P Q) (hc:c.ia=some (l.map f,i):=by kernel_rfl) (hw:c.W:=by unfold Cf.W; kernel_rfl):c.ok P Q:=by
  unfold Cf.ia at hc
  split at hc
  · rename_i d sz x io s hh
    split at hc
    · rename_i h1 h2 h3
      split at hc <;> simp at hc
      rename_i e
      obtain ⟨rfl,rfl⟩:=hc
      subst e
      exact aT6 hw (v':=fun y=>.rp (g y)) h hh rfl (fun y hy=>xI hy hfg (by rw [h1]; rfl) h2 h3) hk
    · simp at hc
  · simp at hc
theorem iq' [Enc α] {l:List α} {i:Int} {kF:α→Option β} (h:(idx l i>>=kF)=some r) (hk:∀ y,kF y=some r→(c.put (.rp (Enc.g y))).ok P Q) (hc:c.ia=some (l.map Enc.f,i):=by kernel_rfl) (hw:c.W:=by unfold Cf.W; kernel_rfl):c.ok P Q:=Iq Enc.f Enc.g Enc.e h hk hc hw
def Cf.len (c:Cf):Option (List (List D)):=match c.hd with
  | some (.len _ x,s)=>match conds s [x],slV (ev s x).str with
    | [],some (_,l)=>some l
    | _,_=>none
  | _=>none
theorem Lq (f:α→List D) (l:List α) (hk:(c.put (.d (.i .i64 l.length))).ok P Q) (hc:c.len=some (l.map f):=by kernel_rfl) (hw:c.W:=by unfold Cf.W; kernel_rfl):c.ok P Q:=by
  unfold Cf.len at hc
  split at hc
  · rename_i d x s hh
    split at hc <;> simp at hc
    rename_i h1 h2
    subst hc
    exact bYi hw hh rfl (aAf (by rw [h1]; rfl) h2) hk
  · simp at hc
theorem lq' [Enc α] (l:List α) (hk:(c.put (.d (.i .i64 l.length))).ok P Q) (hc:c.len=some (l.map Enc.f):=by kernel_rfl) (hw:c.W:=by unfold Cf.W; kernel_rfl):c.ok P Q:=Lq Enc.f l hk hc hw
def Cf.cnd (c:Cf):Option Bool:=match c.A with
  | .at (.cond x _ _) _ s=>match ev s x with
    | .d (.b b)=>some b
    | _=>none
  | _=>none
def Cf.way (c:Cf) (b:Bool):Cf:=match c.A with
  | .at (.cond _ x y) k s=>.at (match b with | true=>x | false=>y) k s
  | c=>c
theorem cd' {b:Bool} {X Y:Option β} (h:(if b=true then X else Y)=some r) (hx:X=some r→(c.way true).ok P Q) (hy:Y=some r→(c.way false).ok P Q) (hc:c.cnd=some b:=by kernel_rfl) (hw:c.W:=by unfold Cf.W; kernel_rfl):c.ok P Q:=by
  unfold Cf.cnd at hc
  refine Cf.A_ok hw ?_
  split at hc
  · rename_i e
    split at hc <;> simp at hc
    rename_i h1
    subst hc
    rw [e]
    refine cBl h h1 (fun h=>?_) fun h=>?_
    · have:=hx h; simp only [Cf.way,e] at this; exact this
    · have:=hy h; simp only [Cf.way,e] at this; exact this
  · simp at hc
def Cf.call (c:Cf):Option (FuncId×List V):=match c.hd with
  | some (.call (some _) f xs,s)=>some (f,weaks (xs.map (ev s)))
  | _=>none
theorem cs' {f:FuncId} {args:List V} {m:Option α} {v':α→V} {kF:α→Option β} (h:(m>>=kF)=some r) (hg:FOk P f args v' m) (hk:∀ y,kF y=some r→(c.put (v' y)).ok P Q) (hc:c.call=some (f,args):=by kernel_rfl) (hw:c.W:=by unfold Cf.W; kernel_rfl) (hcl:V.closeds args=true:=by kernel_rfl) (hv:∀ y,(v' y).closed=true:=by intro _; rfl):c.ok P Q:=by
  unfold Cf.call at hc
  split at hc <;> simp at hc
  rename_i d f' xs s hh
  obtain ⟨rfl,rfl⟩:=hc
  refine Cf.A_ok hw ?_
  rcases aOn hh with ⟨l,k,e⟩ | ⟨w,s0,l,acc,k,e⟩
  · rw [e]
    refine bLf h hg rfl hcl hv fun y hy=>?_
    have:=hk y hy
    simp only [Cf.put,e] at this
    exact this
  · rw [e]
    refine cGj h hg rfl hcl hv fun y hy=>?_
    have:=hk y hy
    simp only [Cf.put,e] at this
    rw [nZ (d:=d) rfl] at this
    exact this
def aPt (s : St) (rs : List AOp) : Option (V × List (Nat × List V)) := match rs with
    | [o]=>match needs s o,nD s o with
      | [],some v=>some (v,s.bx)
      | _,_=>none
    | []=>some (.tup [],s.bx)
    | rs=>(aFg s rs).map fun vs=>(.tup vs,s.bx)
def Cf.res (c:Cf) (rs:List AOp):Option (V×List (Nat×List V)):=match c.A with
  | .ex .ret [] s=>aPt s rs
  | .ex .normal [] s=>aPt s rs
  | _=>none
theorem bMv {s:St} {rs:List AOp} {R:V→List (Nat×List V)→Prop} {v:V} {b:List (Nat×List V)} (hc:aPt s rs=some (v,b)) (hR:R v b):jH rs R .ret s:=by
  unfold aPt at hc
  split at hc
  · split at hc <;> simp at hc
    rename_i h1 h2
    obtain ⟨rfl,rfl⟩:=hc
    exact aQa h2 (by rw [h1]; rfl) hR
  · simp at hc
    obtain ⟨rfl,rfl⟩:=hc
    exact bYx hR
  · rename_i h1 h2
    obtain ⟨vs,h3,h4⟩:=Option.map_eq_some_iff.1 hc
    simp at h4
    obtain ⟨rfl,rfl⟩:=h4
    match rs,h1,h2 with
    | [],_,h2=>exact absurd rfl h2
    | [o],h1,_=>exact absurd rfl (h1 o)
    | o1::o2::os,_,_=>exact cBp h3 hR
theorem re' (hw:c.W) {rs:List AOp} {R:V→List (Nat×List V)→Prop} {v:V} {b:List (Nat×List V)} (hc:c.res rs=some (v,b)) (hR:R v b):c.ok P (jH rs R):=by
  unfold Cf.res at hc
  refine Cf.A_ok hw ?_
  split at hc
  · rename_i s e
    rw [e]
    exact bMv hc hR
  · rename_i s e
    rw [e]
    exact cIf (bMv hc hR)
  · simp at hc
def PQ (v:α→V) (r:α):V→List (Nat×List V)→Prop:=fun x _=>x=v r
def BQ (v:α→V) (B:α→List (Nat×List V)) (r:α):V→List (Nat×List V)→Prop:=fun x b=>x=v r∧vU (B r) b
theorem rp' {rs:List AOp} {v:α→V} {x r:α} (h:some x=some r) (hc:(c.res rs).map QA=some (v x):=by kernel_rfl) (hw:c.W:=by unfold Cf.W; kernel_rfl):c.ok P (jH rs (PQ v r)):=by
  cases h
  cases e:c.res rs with
  | none=>rw [e] at hc; simp at hc
  | some p =>
    obtain ⟨w,b⟩:=p
    rw [e] at hc
    simp at hc
    exact re' hw e hc
theorem rb' {rs:List AOp} {v:α→V} {B:α→List (Nat×List V)} {x r:α} (h:some x=some r) (hc:(c.res rs).map QA=some (v x):=by kernel_rfl) (hB:(c.res rs).map (fun q=>(B x).map fun p=>bget q.2 p.1)=some ((B x).map fun p=>some p.2):=by kernel_rfl) (hw:c.W:=by unfold Cf.W; kernel_rfl):c.ok P (jH rs (BQ v B r)):=by
  cases h
  cases e:c.res rs with
  | none=>rw [e] at hc; simp at hc
  | some p =>
    obtain ⟨w,b⟩:=p
    rw [e] at hc hB
    simp only [QD,QB] at hc hB
    exact re' hw e ⟨hc,bxH hB⟩
def Cf.isRet:Cf→Bool
  | .at .ret _ _=>true
  | .ex .normal [] _=>true
  | _=>false
def Cf.kr:Cf→List Kf
  | .at _ k _ | .os _ k _ | .dr _ _ _ _ k _ | .ex _ k _=>k
def Cf.isReg:Cf→Bool
  | .at (.ops _) _ _=>true
  | .at (.dops _ _) _ _=>true
  | _=>false
def Cf.to (stop:Cf→Bool) (c:Cf):Cf×Ob:=c.run stop 100000 []
def Cf.withS (c:Cf) (s:St):Cf:=match c with
  | .at x k _=>.at x k s
  | .os l k _=>.os l k s
  | .dr w s0 l acc k _=>.dr w s0 l acc k s
  | .ex e k _=>.ex e k s
theorem rw' {rs:List AOp} {R:V→List (Nat×List V)→Prop} {s':St} (hk:Wk (c.to Cf.isRet).1.stt s') (H:((c.to Cf.isRet).1.withS s').ok P (jH rs R)) (hc:(c.to Cf.isRet).1.isRet=true:=by kernel_rfl) (ho:(c.to Cf.isRet).2.map QA=(c.to Cf.isRet).2.map QC:=by kernel_rfl):c.ok P (jH rs R):=by
  refine (Cf.run_ok ho ?_).2
  change Cf.ok P _ (c.to Cf.isRet).1
  generalize (c.to Cf.isRet).1=d at hk H hc
  unfold Cf.isRet at hc
  split at hc
  · obtain ⟨s2,h1,h2⟩:=(H:wkK _ _)
    exact ⟨s2,hk.trans h1,h2⟩
  · obtain ⟨s2,h1,h2⟩:=(H:wkK _ _)
    exact ⟨s2,hk.trans h1,h2⟩
  · simp at hc
def Cf.reg:Nat→Cf→Ob→Cf×Ob
  | 0,c,ob=>c.run Cf.isReg 100000 ob
  | n+1,c,ob=>match c.run Cf.isReg 100000 ob with
    | (c',ob')=>match c'.nxt with
      | some (d,ob'')=>Cf.reg n d (ob''++ob')
      | none=>(c',ob')
theorem Cf.reg_ok {P:Program} {Q0:Exit→St→Prop}:∀ {n:Nat} {c:Cf} {ob:Ob},(Cf.reg n c ob).2.map QA=(Cf.reg n c ob).2.map QC→(Cf.reg n c ob).1.ok P Q0→ob.map QA=ob.map QC∧c.ok P Q0
  | 0,_,_,ho,h=>Cf.run_ok ho h
  | n+1,c,ob,ho,h=>by
    simp only [Cf.reg] at ho h
    cases e:(c.run Cf.isReg 100000 ob).1.nxt with
    | none =>
      rw [e] at ho h
      exact Cf.run_ok ho h
    | some q =>
      obtain ⟨d,ob''⟩:=q
      rw [e] at ho h
      obtain ⟨k1,k2⟩:=Cf.reg_ok ho h
      rw [QG,QG] at k1
      have:=QL k1 (by simp)
      exact Cf.run_ok this.2 (Cf.nxt_ok e this.1 k2)
theorem tw' (n:Nat) (l:List Tw) (H:((c.reg n []).1.withS ((c.reg n []).1.stt.tw l)).ok P Q) (hc:(c.reg n []).1.isReg=true:=by kernel_rfl) (ho:(c.reg n []).2.map QA=(c.reg n []).2.map QC:=by kernel_rfl):c.ok P Q:=by
  refine (Cf.reg_ok ho ?_).2
  generalize (c.reg n []).1=d at H hc
  unfold Cf.isReg at hc
  split at hc
  · exact cF6 l rfl H
  · exact cGa l rfl H
  · simp at hc
def bFn (o o':AOp):Bool:=match o,o' with
  | .st _ (.t a) _,.st _ (.t b) _=>QI a b
  | o,o'=>match o.dst,o'.dst with
    | some d,some e=>QI d e
    | _,_=>false
def Cf.atO (o:AOp):Cf→Bool
  | .os (o'::_) _ _=>bFn o o'
  | .dr _ _ (o'::_) _ _ _=>bFn o o'
  | _=>false
def Cf.z (c:Cf) (o:AOp):Cf:=(c.to (Cf.atO o)).1
def Cf.zW (c:Cf) (o:AOp):Prop:=(c.to (Cf.atO o)).2.map QA=(c.to (Cf.atO o)).2.map QC
theorem Cf.z_ok {o:AOp} (hw:c.zW o) (h:(c.z o).ok P Q):c.ok P Q:=(Cf.run_ok hw h).2
def Cf.ll:Cf→List AOp
  | .os (_::l) _ _=>l
  | .dr _ _ (_::l) _ _ _=>l
  | _=>[]
def Cf.os?:Cf→Option AOp
  | .os (o::_) _ _=>some o
  | _=>none
def Cf.dr?:Cf→Option AOp
  | .dr _ _ (o::_) _ _ _=>some o
  | _=>none
def Cf.dw:Cf→List (List Nat)×St×List Ev
  | .dr w s0 _ acc _ _=>(w,s0,acc)
  | _=>([],⟨[],[]⟩,[])
theorem aO (o:AOp) (H:bN P (GQ P Q (c.z o).kr .normal) (o::(c.z o).ll) (c.z o).stt) (hc:(c.z o).os?=some o:=by kernel_rfl) (hw:c.zW o:=by unfold Cf.zW; kernel_rfl):c.ok P Q:=by
  refine Cf.z_ok hw ?_
  generalize c.z o=d at H hc
  unfold Cf.os? at hc
  split at hc <;> simp at hc
  subst hc
  exact H
theorem oC {l:List AOp} {k:List Kf} (h:(Cf.os l k s).ok P Q):bN P (GQ P Q k .normal) l s:=h
theorem dO (o:AOp) (H:dgo P (K5 (c.z o).dw.1 (c.z o).dw.2.1 (GQ P Q (c.z o).kr .normal)) (o::(c.z o).ll) (c.z o).dw.2.2 (c.z o).stt) (hc:(c.z o).dr?=some o:=by kernel_rfl) (hw:c.zW o:=by unfold Cf.zW; kernel_rfl):c.ok P Q:=by
  refine Cf.z_ok hw ?_
  generalize c.z o=d at H hc
  unfold Cf.dr? at hc
  split at hc <;> simp at hc
  subst hc
  exact H
theorem dC {w:List (List Nat)} {s0:St} {l:List AOp} {acc:List Ev} {k:List Kf} (h:(Cf.dr w s0 l acc k s).ok P Q):dgo P (K5 w s0 (GQ P Q k .normal)) l acc s:=h
theorem iQ (f:α→List D) {l:List α} {i:Int} {kF:α→Option β} (h:(idx l i>>=kF)=some r) (hk:∀ y,kF y=some r→(c.put (.rp (f y))).ok P Q) (hc:c.ia=some (l.map f,i):=by kernel_rfl) (hw:c.W:=by unfold Cf.W; kernel_rfl):c.ok P Q:=Iq f f (fun _=>rfl) h hk hc hw
theorem kS (f:α→List D) (l:List α) (hk:(c.put (.d (.i .i64 l.length))).ok P Q) (hc:c.len=some (l.map f):=by kernel_rfl) (hw:c.W:=by unfold Cf.W; kernel_rfl):c.ok P Q:=Lq f l hk hc hw
def Cf.gd (c:Cf):Option (Bool×Bool×Bool×AOp×St):=match c.hd with
  | some (.g j want o,s)=>match iW (lk s.env j) with
    | some (p,b)=>some (p,b,want,o,s)
    | none=>none
  | _=>none
theorem bF8 {m:Option α} {dflt:α} {v':α→V} {kF:α→Option β} {p b want:Bool} (hw:c.W) (h:((if (p&&(b==want))=true then m else some dflt)>>=kF)=some r) (hc:c.gd=some (p,b,want,o,s)) (hval:o.val=true)
    (hop:∀ y,m=some y→(p&&(b==want))=true→vop s (fun v=>v=v' y) o) (hk:∀ y,kF y=some r→(c.put (.ite (p&&(b==want)) (v' y))).ok P Q):c.ok P Q:=by
  obtain ⟨d,hd⟩:=aQd hval
  unfold Cf.gd at hc
  split at hc
  · rename_i j want' o' s' hh
    split at hc <;> simp at hc
    rename_i hb
    obtain ⟨rfl,rfl,rfl,rfl,rfl⟩:=hc
    refine Cf.A_ok hw ?_
    rcases aOn hh with ⟨l,k,e⟩ | ⟨w,s0,l,acc,k,e⟩
    · rw [e]
      refine aZu (v':=v') h hb hval hd hop fun y hy=>?_
      have:=hk y hy
      simp only [Cf.put,e] at this
      simp only [AOp.dst,hd] at this
      exact this
    · rw [e]
      refine pG (v':=v') h hb hval hd hop fun y hy=>?_
      have:=hk y hy
      simp only [Cf.put,e] at this
      rw [nZ (o:=.g j want' o') hd] at this
      exact this
  · simp at hc
def Cf.gia (c:Cf):Option ((Bool×Bool×Bool)×(List (List D)×Int)×List Bool):=match c.gd with
  | some (p,b,want,.ia _ sz x i,s)=>match slV (ev s x).str,(ev s i).str with
    | some (sz',l),.d (.i .i64 i')=>if sz'=sz then some ((p,b,want),(l,i'),conds s [x,i]) else none
    | _,_=>none
  | _=>none
theorem aNu {c:Bool} {l:List Bool} (h:l=QE l.length c) (hc:c=true):l.all id=true:=by rw [h]; exact aO6 _ hc
theorem cHn (f g:α→List D) (hfg:∀ x,f x=g x) {p b want:Bool} {l:List α} {i:Int} {dflt:α} {kF:α→Option β} (h:((if (p&&(b==want))=true then idx l i else some dflt)>>=kF)=some r) (hk:∀ y,kF y=some r→(c.put (.ite (p&&(b==want)) (.rp (g y)))).ok P Q)
    (hc:c.gia.map (fun q=>(q.1,q.2.1))=some ((p,b,want),(l.map f,i))) (hn:c.gia.map (fun q=>q.2.2)=c.gia.map fun q=>QE q.2.2.length (p&&(b==want))) (hw:c.W):c.ok P Q:=by
  cases e:c.gia with
  | none=>rw [e] at hc; simp at hc
  | some q =>
    obtain ⟨q1,q2,q3⟩:=q
    rw [e] at hc hn
    simp only [QD,QB,Prod.mk.injEq] at hc hn
    obtain ⟨rfl,rfl⟩:=hc
    unfold Cf.gia at e
    split at e
    · rename_i p' b' want' d sz x io s hh
      split at e
      · rename_i h1 h2
        split at e <;> simp at e
        rename_i es
        obtain ⟨⟨rfl,rfl,rfl⟩,⟨rfl,rfl⟩,rfl⟩:=e
        subst es
        exact bF8 (v':=fun y=>.rp (g y)) hw h hh rfl (fun y hy hc=>xI hy hfg (aNu hn hc) h1 h2) hk
      · simp at e
    · simp at e
theorem bAp [Enc α] {p b want:Bool} {l:List α} {i:Int} {dflt:α} {kF:α→Option β} (h:((if (p&&(b==want))=true then idx l i else some dflt)>>=kF)=some r) (hk:∀ y,kF y=some r→(c.put (.ite (p&&(b==want)) (.rp (Enc.g y)))).ok P Q)
    (hc:c.gia.map (fun q=>(q.1,q.2.1))=some ((p,b,want),(l.map Enc.f,i)):=by kernel_rfl) (hn:c.gia.map (fun q=>q.2.2)=c.gia.map (fun q=>QE q.2.2.length (p&&(b==want))):=by kernel_rfl) (hw:c.W:=by unfold Cf.W; kernel_rfl):c.ok P Q:=cHn Enc.f Enc.g Enc.e h hk hc hn hw
def Cf.glen (c:Cf):Option ((Bool×Bool×Bool)×List (List D)×List Bool):=match c.gd with
  | some (p,b,want,.len _ x,s)=>match slV (ev s x).str with
    | some (_,l)=>some ((p,b,want),l,conds s [x])
    | none=>none
  | _=>none
def Cf.gc (c:Cf):Bool:=match c.gd with
  | some (p,b,want,_)=>p&&(b==want)
  | none=>false
theorem Y8 (f:α→List D) (l:List α) (hk:(c.put (.ite c.gc (.d (.i .i64 l.length)))).ok P Q) (hc:c.glen.map (fun q=>q.2.1)=some (l.map f):=by kernel_rfl) (hn:c.glen.map (fun q=>q.2.2)=c.glen.map (fun q=>QE q.2.2.length c.gc):=by kernel_rfl) (hw:c.W:=by unfold Cf.W; kernel_rfl):c.ok P Q:=by
  cases e:c.glen with
  | none=>rw [e] at hc; simp at hc
  | some q =>
    obtain ⟨q1,q2,q3⟩:=q
    rw [e] at hc hn
    simp only [QD,QB] at hc hn
    subst hc
    unfold Cf.glen at e
    split at e
    · rename_i p b want d x s hh
      split at e <;> simp at e
      rename_i h1
      obtain ⟨rfl,rfl,rfl⟩:=e
      have eg:c.gc=(p&&(b==want)):=by unfold Cf.gc; rw [hh]
      rw [eg] at hk hn
      exact bF8 (m:=some ()) (dflt:=()) (v':=fun _=>.d (.i .i64 l.length)) (kF:=fun _=>some ()) (r:=()) hw (by split <;> rfl) hh rfl (fun _ _ hc=>aAf (aNu hn hc) h1) fun _ _=>hk
    · simp at e
theorem jM [Enc α] (l:List α) (hk:(c.put (.ite c.gc (.d (.i .i64 l.length)))).ok P Q) (hc:c.glen.map (fun q=>q.2.1)=some (l.map Enc.f):=by kernel_rfl) (hn:c.glen.map (fun q=>q.2.2)=c.glen.map (fun q=>QE q.2.2.length c.gc):=by kernel_rfl) (hw:c.W:=by unfold Cf.W; kernel_rfl):c.ok P Q:=Y8 Enc.f l hk hc hn hw
def Cf.pck (c:Cf):Option (Bool×(Bool×Bool)×Bool×Bool):=match c.hd with
  | some (.pick _ co x y,s)=>match conds s [co],(ev s co).str,iW (ev s x),iW (ev s y) with
    | [],.d (.b b),some u,some v=>some (b,u,v)
    | _,_,_,_=>none
  | _=>none
theorem bGe {b u v p q:Bool} {kF:Bool→Option β} (h:(some (if b=true then u else v)>>=kF)=some r) (hk:∀ y,kF y=some r→(c.put (.d (.b y))).ok P Q) (hp:b=true→p=true) (hq:b=false→q=true) (hc:c.pck=some (b,(p,u),(q,v))) (hw:c.W):c.ok P Q:=by
  unfold Cf.pck at hc
  split at hc
  · rename_i d co x y s hh
    split at hc <;> simp at hc
    rename_i h1 h2 h3 h4
    obtain ⟨rfl,rfl,rfl⟩:=hc
    exact aT6 (v':=fun y=>.d (.b y)) hw h hh rfl (fun _ hm=>jP hm (by rw [h1]; rfl) h2 h3 h4 hp hq) hk
  · simp at hc
theorem bU {b u v:Bool} {kF:Bool→Option β} (h:(some (if b=true then u else v)>>=kF)=some r) (hk:∀ y,kF y=some r→(c.put (.d (.b y))).ok P Q) (hc:c.pck=some (b,(true&&(b==true),u),(true,v)):=by kernel_rfl) (hw:c.W:=by unfold Cf.W; kernel_rfl):c.ok P Q:=bGe h hk (fun hb=>qR rfl hb) (fun _=>rfl) hc hw
theorem cK {b u v:Bool} {kF:Bool→Option β} (h:(some (if b=true then u else v)>>=kF)=some r) (hk:∀ y,kF y=some r→(c.put (.d (.b y))).ok P Q) (hc:c.pck=some (b,(true,u),(true&&(b==false),v)):=by kernel_rfl) (hw:c.W:=by unfold Cf.W; kernel_rfl):c.ok P Q:=bGe h hk (fun _=>rfl) (fun hb=>tY rfl hb) hc hw
def Cf.lp (c:Cf):Option (AC×List Kf):=match c.A with
  | .at (.loop x) k _=>some (x,k)
  | .ex .normal (.l x::k) _=>some (x,k)
  | _=>none
theorem lg' {x:AC} {k:List Kf} {s':St} (H:(Cf.at (.loop x) k s').ok P Q) (hk:Wk c.A.stt s') (hc:c.lp=some (x,k):=by kernel_rfl) (hw:c.W:=by unfold Cf.W; kernel_rfl):c.ok P Q:=by
  unfold Cf.lp at hc
  refine Cf.A_ok hw ?_
  split at hc <;> simp at hc
  · rename_i e
    obtain ⟨rfl,rfl⟩:=hc
    rw [e] at hk ⊢
    exact cHq hk H
  · rename_i e
    obtain ⟨rfl,rfl⟩:=hc
    rw [e] at hk ⊢
    exact bQ4 hk H
def xP (P:Program) (f:FuncId):AC:=match aDs P f with
  | some (ac,_,_)=>ac
  | none=>.skip
def rF (P:Program) (f:FuncId):List AOp:=match aDs P f with
  | some (_,rs,_)=>rs
  | none=>[]
def mOf (P:Program) (f:FuncId):Option Nat:=match aDs P f with
  | some (_,_,M)=>some M
  | none=>none
theorem ao' {f:FuncId} {args:List V} {fb:List (Nat×List V)} {R:V→List (Nat×List V)→Prop} (hv:(Cf.at (xP P f) [] ⟨xU 0 args,fb⟩).ok P (jH (rF P f) R))
    (hM:(match mOf P f with | some M=>QF args.length M&&fb.all (fun p=>QF M p.1&&QJ p.1 NX) | none=>false)=true:=by kernel_rfl):bF P f args fb R:=by
  cases e:aDs P f with
  | none=>simp only [mOf,e] at hM; simp at hM
  | some q =>
    obtain ⟨ac,rs,M⟩:=q
    simp only [mOf,e,QH] at hM
    have e1:xP P f=ac:=by simp only [xP,e]
    have e2:rF P f=rs:=by simp only [rF,e]
    rw [e1,e2] at hv
    exact ao e hv hM.1 hM.2
theorem aoP {f:FuncId} {args:List V} {v:α→V} {m:Option α} (hv:∀ r,m=some r→(Cf.at (xP P f) [] ⟨xU 0 args,[]⟩).ok P (jH (rF P f) (PQ v r)))
    (hM:(match mOf P f with | some M=>QF args.length M&&([]:List (Nat×List V)).all (fun p=>QF M p.1&&QJ p.1 NX) | none=>false)=true:=by kernel_rfl):FOk P f args v m:=fun r h=>ao' (hv r h) hM
theorem aoB {f:FuncId} {args:List V} {fb:List (Nat×List V)} {v:α→V} {B:α→List (Nat×List V)} {m:Option α} (hv:∀ r,m=some r→(Cf.at (xP P f) [] ⟨xU 0 args,fb⟩).ok P (jH (rF P f) (BQ v B r)))
    (hM:(match mOf P f with | some M=>QF args.length M&&fb.all (fun p=>QF M p.1&&QJ p.1 NX) | none=>false)=true:=by kernel_rfl):cO P f args fb v B m:=fun r h=>ao' (hv r h) hM
def AC.lps:AC→List Kf→List (AC×List Kf)
  | .seq x y,k=>AC.lps x (.c y::k)++AC.lps y k
  | .cond _ x y,k=>AC.lps x k++AC.lps y k
  | .block id x,k=>AC.lps x (.b id::k)
  | .loop x,k=>(x,k)::AC.lps x (.l x::k)
  | _,_=>[]
def F3 (P:Program) (f:FuncId) (i:Nat):AC×List Kf:=((AC.lps (xP P f) [])[i]?).getD (.skip,[])
def Lok (P:Program) (f:FuncId) (i:Nat) (R:V→List (Nat×List V)→Prop) (s:St):Prop:=(Cf.at (.loop (F3 P f i).1) (F3 P f i).2 s).ok P (jH (rF P f) R)
theorem Lok.un {f:FuncId} {i:Nat} {R:V→List (Nat×List V)→Prop} (h:(Cf.at (F3 P f i).1 (.l (F3 P f i).1::(F3 P f i).2) s).ok P (jH (rF P f) R)):Lok P f i R s:=cIs h
theorem lb' {f:FuncId} {i:Nat} {R:V→List (Nat×List V)→Prop} {s':St} (H:Lok P f i R s') (hk:Wk c.A.stt s') (hc:c.lp=some (F3 P f i):=by kernel_rfl) (hw:c.W:=by unfold Cf.W; kernel_rfl):c.ok P (jH (rF P f) R):=lg' H hk hc hw
def Cf.ho (c:Cf):AOp:=match c.hd with
  | some (o,_)=>o
  | none=>.mkf 0 0 []
def Cf.putS (c:Cf) (s':St):Cf:=match c.A with
  | .os (_::l) k _=>.os l k s'
  | c=>c
def Cf.putD (c:Cf) (e:Ev):Cf:=match c.A with
  | .dr w s0 (_::l) acc k s=>.dr w s0 l (e::acc) k (eff e s)
  | c=>c
def I6:AOp→Option Nat
  | .call d _ _ | .callv d _ _=>d
  | _=>none
def K6 (s:St):AOp→Option (FuncId×List V)
  | .call _ f xs=>some (f,xs.map (ev s))
  | .callv _ fo xs=>match (ev s fo).vw with
    | .fn g caps=>some (g,xs.map (ev s)++caps)
    | _=>none
  | _=>none
def cGo (P:Program):AOp→FuncId→Bool
  | .callv _ _ _,f=>qD P f
  | _,_=>true
def cVs (s:St) (o:AOp):List V:=match K6 s o with
  | some (_,l)=>l
  | none=>[]
theorem bW1 (cn:bI) {f:FuncId} {args:List V} {fb:List (Nat×List V)} {m:Option α} {v:α→V} {B:α→List (Nat×List V)} {kF:α→Option β} {K:St→Prop} {l:List AOp} (h:(m>>=kF)=some r) (hg:cO P f args fb v B m)
    (hwho:(K6 s o).map QA=some f) (hgo:cGo P o f=true) (hargs:cn.args s.bx (cVs s o)=args) (hfb:cn.fb s.bx=fb) (hin:cn.hin s (cVs s o)=true) (hcl:cn.hcl s (I6 o)=true) (hout:∀ y,cn.hout (v y) (B y)=true)
    (hk:∀ y,kF y=some r→bN P K l ((cn.st s (B y)).putO (I6 o) (cn.res (v y)))):bN P K (o::l) s:=by
  cases o <;> simp only [K6,QK,reduceCtorEq] at hwho
  case call d g xs =>
    simp only [QD,QB] at hwho
    subst hwho
    exact bTk cn h hg hargs hfb hin hcl hout (fun _=>rfl) hk
  case callv d fo xs =>
    cases e:(ev s fo).vw with
    | fn g caps =>
      rw [e] at hwho
      simp only [QD,QB] at hwho
      subst hwho
      have ev_:cVs s (.callv d fo xs)=xs.map (ev s)++caps:=by simp only [cVs,K6,e]
      rw [ev_] at hargs hin
      exact bNt cn h hg e hgo hargs hfb hin hcl hout (fun _=>rfl) hk
    | _=>rw [e] at hwho; simp at hwho
theorem bT8 (cn:bI) (tt tb:List Nat) {f:FuncId} {args:List V} {fb:List (Nat×List V)} {m:Option α} {v:α→V} {B:α→List (Nat×List V)} {kF:α→Option β} {KD:List Ev→St→Prop} {l:List AOp} {acc:List Ev} (h:(m>>=kF)=some r) (hg:cO P f args fb v B m)
    (hwho:(K6 s o).map QA=some f) (hgo:cGo P o f=true) (hargs:cn.args s.bx (cVs s o)=args) (hfb:cn.fb s.bx=fb) (hin:cn.hin s (cVs s o)=true) (hd:cn.hd (I6 o)=true) (hout:∀ y,cn.hout (v y) (B y)=true)
    (hk:∀ y,kF y=some r→dgo P KD l (evK cn s o (I6 o) (v y) (B y) tt tb::acc) (eff (evK cn s o (I6 o) (v y) (B y) tt tb) s)):dgo P KD (o::l) acc s:=by
  cases o <;> simp only [K6,QK,reduceCtorEq] at hwho
  case call d g xs =>
    simp only [QD,QB] at hwho
    subst hwho
    exact cA3 cn tt tb h hg hargs hfb hin hd hout (fun _=>rfl) hk
  case callv d fo xs =>
    cases e:(ev s fo).vw with
    | fn g caps =>
      rw [e] at hwho
      simp only [QD,QB] at hwho
      subst hwho
      have ev_:cVs s (.callv d fo xs)=xs.map (ev s)++caps:=by simp only [cVs,K6,e]
      rw [ev_] at hargs hin
      exact bUw cn tt tb h hg e hgo hargs hfb hin hd hout (fun _=>rfl) hk
    | _=>rw [e] at hwho; simp at hwho
def Cf.isO (c:Cf):Bool:=match c.A with
  | .os (_::_) _ _=>true
  | _=>false
def Cf.isD (c:Cf):Bool:=match c.A with
  | .dr _ _ (_::_) _ _ _=>true
  | _=>false
theorem bEa (h:c.isO=true):∃ o l k s,c.A=.os (o::l) k s:=by
  unfold Cf.isO at h
  split at h
  · exact ⟨_,_,_,_,by assumption⟩
  · simp at h
theorem bH1 (h:c.isD=true):∃ w s0 o l acc k s,c.A=.dr w s0 (o::l) acc k s:=by
  unfold Cf.isD at h
  split at h
  · exact ⟨_,_,_,_,_,_,_,by assumption⟩
  · simp at h
theorem cg' (cn:bI) {f:FuncId} {args:List V} {fb:List (Nat×List V)} {m:Option α} {v:α→V} {B:α→List (Nat×List V)} {kF:α→Option β} (h:(m>>=kF)=some r) (hg:cO P f args fb v B m)
    (hk:∀ y,kF y=some r→(c.putS ((cn.st c.A.stt (B y)).putO (I6 c.ho) (cn.res (v y)))).ok P Q) (hO:c.isO=true:=by kernel_rfl) (hwho:(K6 c.A.stt c.ho).map QA=some f:=by kernel_rfl) (hgo:cGo P c.ho f=true:=by kernel_rfl) (hargs:cn.args c.A.stt.bx (cVs c.A.stt c.ho)=args:=by kernel_rfl)
    (hfb:cn.fb c.A.stt.bx=fb:=by kernel_rfl) (hin:cn.hin c.A.stt (cVs c.A.stt c.ho)=true:=by kernel_rfl) (hcl:cn.hcl c.A.stt (I6 c.ho)=true:=by kernel_rfl) (hout:∀ y,cn.hout (v y) (B y)=true:=by intro _; kernel_rfl) (hw:c.W:=by unfold Cf.W; kernel_rfl):c.ok P Q:=by
  obtain ⟨o,l,k,s,e⟩:=bEa hO
  have eo:c.ho=o:=by simp only [Cf.ho,Cf.hd,e]
  have es:c.A.stt=s:=by rw [e]; rfl
  rw [eo,es] at hk hwho hargs hin hcl
  rw [eo] at hgo
  rw [es] at hfb
  refine Cf.A_ok hw ?_
  rw [e]
  refine bW1 cn h hg hwho hgo hargs hfb hin hcl hout fun y hy=>?_
  have:=hk y hy
  simp only [Cf.putS,e] at this
  exact this
theorem iB (cn:bI) (tt tb:List Nat) {f:FuncId} {args:List V} {fb:List (Nat×List V)} {m:Option α} {v:α→V} {B:α→List (Nat×List V)} {kF:α→Option β} (h:(m>>=kF)=some r) (hg:cO P f args fb v B m)
    (hk:∀ y,kF y=some r→(c.putD (evK cn c.A.stt c.ho (I6 c.ho) (v y) (B y) tt tb)).ok P Q) (hO:c.isD=true:=by kernel_rfl) (hwho:(K6 c.A.stt c.ho).map QA=some f:=by kernel_rfl) (hgo:cGo P c.ho f=true:=by kernel_rfl) (hargs:cn.args c.A.stt.bx (cVs c.A.stt c.ho)=args:=by kernel_rfl)
    (hfb:cn.fb c.A.stt.bx=fb:=by kernel_rfl) (hin:cn.hin c.A.stt (cVs c.A.stt c.ho)=true:=by kernel_rfl) (hd:cn.hd (I6 c.ho)=true:=by kernel_rfl) (hout:∀ y,cn.hout (v y) (B y)=true:=by intro _; kernel_rfl) (hw:c.W:=by unfold Cf.W; kernel_rfl):c.ok P Q:=by
  obtain ⟨w,s0,o,l,acc,k,s,e⟩:=bH1 hO
  have eo:c.ho=o:=by simp only [Cf.ho,Cf.hd,e]
  have es:c.A.stt=s:=by rw [e]; rfl
  rw [eo,es] at hk hwho hargs hin
  rw [eo] at hgo hd
  rw [es] at hfb
  refine Cf.A_ok hw ?_
  rw [e]
  refine bT8 cn tt tb h hg hwho hgo hargs hfb hin hd hout fun y hy=>?_
  have:=hk y hy
  simp only [Cf.putD,e] at this
  exact this
def Cf.gcl (c:Cf):Option ((Bool×Bool×Bool)×(FuncId×List V)×List Bool):=match c.gd with
  | some (p,b,want,.call (some _) f xs,s)=>some ((p,b,want),(f,weaks (strs (xs.map (ev s)))),conds s xs)
  | _=>none
theorem gc' {p b want:Bool} {f:FuncId} {args:List V} {m:Option α} {dflt:α} {v':α→V} {kF:α→Option β} (h:((if (p&&(b==want))=true then m else some dflt)>>=kF)=some r) (hg:FOk P f args v' m) (hk:∀ y,kF y=some r→(c.put (.ite (p&&(b==want)) (v' y))).ok P Q)
    (hc:c.gcl.map (fun q=>(q.1,q.2.1))=some ((p,b,want),(f,args)):=by kernel_rfl) (hn:c.gcl.map (fun q=>q.2.2)=c.gcl.map (fun q=>QE q.2.2.length (p&&(b==want))):=by kernel_rfl) (hcl:V.closeds args=true:=by kernel_rfl) (hv:∀ y,(v' y).closed=true:=by intro _; rfl) (hw:c.W:=by unfold Cf.W; kernel_rfl):c.ok P Q:=by
  cases e:c.gcl with
  | none=>rw [e] at hc; simp at hc
  | some q =>
    obtain ⟨q1,q2,q3⟩:=q
    rw [e] at hc hn
    simp only [QD,QB,Prod.mk.injEq] at hc hn
    obtain ⟨rfl,rfl⟩:=hc
    unfold Cf.gcl at e
    split at e <;> simp at e
    rename_i p' b' want' d f' xs s hh
    obtain ⟨⟨rfl,rfl,rfl⟩,⟨rfl,rfl⟩,rfl⟩:=e
    unfold Cf.gd at hh
    split at hh
    · rename_i j w2 o' s' h3
      split at hh <;> simp at hh
      rename_i hb
      obtain ⟨rfl,rfl,rfl,rfl,rfl⟩:=hh
      refine Cf.A_ok hw ?_
      rcases aOn h3 with ⟨l,k,e⟩ | ⟨w,s0,l,acc,k,e⟩
      · rw [e]
        refine bLs h hb hg (fun _=>rfl) hcl hv (fun hc=>aNu hn hc) fun y hy=>?_
        have:=hk y hy
        simp only [Cf.put,e] at this
        exact this
      · rw [e]
        refine bVk h hb hg (fun _=>rfl) hcl hv (fun hc=>aNu hn hc) fun y hy=>?_
        have:=hk y hy
        simp only [Cf.put,e] at this
        rw [nZ (o:=.g j w2 (.call (some d) f' xs)) (d:=d) rfl] at this
        exact this
    · simp at hh
def apX (s:St) (o:AOp):V:=match o with
  | .app _ _ _ _ x _=>ev s x
  | _=>.top
def apY (s:St) (o:AOp):V:=match o with
  | .app _ _ _ _ _ y=>ev s y
  | _=>.top
def apB (o:AOp):Option Nat:=match o with
  | .app _ _ _ by' _ _=>some by'
  | _=>none
def apT (o:AOp):TypeId:=match o with
  | .app _ e _ _ _ _=>e
  | _=>0
def apZ (o:AOp):Nat:=match o with
  | .app _ _ sz _ _ _=>sz
  | _=>0
def apS (s:St) (t:Nat) (o:AOp) (l:List (List D)):St:=match o with
  | .app d e sz _ _ _=>⟨(d,.osl d e sz l)::(s.dn t).env,(s.dn t).bx⟩
  | _=>s
def apE (s:St) (t:Nat) (o:AOp) (l:List (List D)) (tt tb:List Nat):Ev:=match o with
  | .app d e sz by' x y=>evP s d e sz by' x y t l tt tb
  | o=>evV s o .und
def apF (s:St) (t:Nat) (o:AOp):Bool:=match o with
  | .app d _ _ _ _ _=>(s.dn t).fresh d&&(s.dn t).clean t
  | _=>false
theorem aq' (t:Nat) {by':Nat} {l m:List α} (f:α→List D) {kF:List α→Option β} (h:(appG by' l m>>=kF)=some r) (hk:∀ y,kF y=some r→(c.putS (apS c.A.stt t c.ho (y.map f))).ok P Q) (hO:c.isO=true:=by kernel_rfl) (hp:apB c.ho=some by':=by kernel_rfl)
    (hx:apX c.A.stt c.ho=.osl t (apT c.ho) (apZ c.ho) (l.map f):=by kernel_rfl) (hy0:(apY c.A.stt c.ho).cond=[]:=by kernel_rfl) (hy:srV (apY c.A.stt c.ho)=some (apZ c.ho,m.map f):=by kernel_rfl) (hf:apF c.A.stt t c.ho=true:=by kernel_rfl) (hw:c.W:=by unfold Cf.W; kernel_rfl):c.ok P Q:=by
  obtain ⟨o,q,k,s,e'⟩:=bEa hO
  have eo:c.ho=o:=by simp only [Cf.ho,Cf.hd,e']
  have es:c.A.stt=s:=by rw [e']; rfl
  rw [eo,es] at hk hx hy0 hy hf
  rw [eo] at hp
  refine Cf.A_ok hw ?_
  rw [e']
  cases o <;> simp only [apB,reduceCtorEq,QB] at hp
  subst hp
  refine cD1 h hx hy0 hy hf (fun _=>rfl) fun y hy=>?_
  have:=hk y hy
  simp only [Cf.putS,e'] at this
  exact this
theorem vW (t:Nat) (tt tb:List Nat) {by':Nat} {l m:List α} (f:α→List D) {kF:List α→Option β} (h:(appG by' l m>>=kF)=some r) (hk:∀ y,kF y=some r→(c.putD (apE c.A.stt t c.ho (y.map f) tt tb)).ok P Q) (hO:c.isD=true:=by kernel_rfl) (hp:apB c.ho=some by':=by kernel_rfl)
    (hx:apX c.A.stt c.ho=.osl t (apT c.ho) (apZ c.ho) (l.map f):=by kernel_rfl) (hy0:(apY c.A.stt c.ho).cond=[]:=by kernel_rfl) (hy:srV (apY c.A.stt c.ho)=some (apZ c.ho,m.map f):=by kernel_rfl) (hw:c.W:=by unfold Cf.W; kernel_rfl):c.ok P Q:=by
  obtain ⟨w,s0,o,q,acc,k,s,e'⟩:=bH1 hO
  have eo:c.ho=o:=by simp only [Cf.ho,Cf.hd,e']
  have es:c.A.stt=s:=by rw [e']; rfl
  rw [eo,es] at hk hx hy0 hy
  rw [eo] at hp
  refine Cf.A_ok hw ?_
  rw [e']
  cases o <;> simp only [apB,reduceCtorEq,QB] at hp
  subst hp
  refine cGr tt tb h hx hy0 hy (fun _=>rfl) fun y hy=>?_
  have:=hk y hy
  simp only [Cf.putD,e'] at this
  exact this
theorem aOv (H:(c.way false).ok P Q) (hc:c.cnd=some false:=by kernel_rfl) (hw:c.W:=by unfold Cf.W; kernel_rfl):c.ok P Q :=
  cd' (X:=none (α:=Unit)) (Y:=some ()) (b:=false) (r:=()) rfl (fun h=>by simp at h) (fun _=>H) hc hw
theorem bGc (H:(c.way true).ok P Q) (hc:c.cnd=some true:=by kernel_rfl) (hw:c.W:=by unfold Cf.W; kernel_rfl):c.ok P Q :=
  cd' (X:=some ()) (Y:=none (α:=Unit)) (b:=true) (r:=()) rfl (fun _=>H) (fun h=>by simp at h) hc hw
def AC.jns:AC→List Kf→List (AC×List Kf)
  | .seq x y,k=>(y,k)::(AC.jns x (.c y::k)++AC.jns y k)
  | .cond _ x y,k=>AC.jns x k++AC.jns y k
  | .block id x,k=>AC.jns x (.b id::k)
  | .loop x,k=>AC.jns x (.l x::k)
  | _,_=>[]
def uC (P:Program) (f:FuncId) (i:Nat):AC×List Kf:=((AC.jns (xP P f) [])[i]?).getD (.skip,[])
def Jok (P:Program) (f:FuncId) (i:Nat) (R:V→List (Nat×List V)→Prop) (s:St):Prop:=(Cf.at (uC P f i).1 (uC P f i).2 s).ok P (jH (rF P f) R)
theorem Jok.un {f:FuncId} {i:Nat} {R:V→List (Nat×List V)→Prop} (h:(Cf.at (uC P f i).1 (uC P f i).2 s).ok P (jH (rF P f) R)):Jok P f i R s:=h
def Cf.isJn (n:Nat):Cf→Bool
  | .ex .normal (.c _::k) _=>QI k.length n
  | _=>false
def Cf.jn (n:Nat) (c:Cf):Option (AC×List Kf):=match (c.to (Cf.isJn n)).1 with
  | .ex .normal (.c y::k) _=>some (y,k)
  | _=>none
theorem jn' {f:FuncId} {i:Nat} {R:V→List (Nat×List V)→Prop} {s':St} (H:Jok P f i R s') (hk:Wk (c.to (Cf.isJn (uC P f i).2.length)).1.stt s') (hc:c.jn (uC P f i).2.length=some (uC P f i):=by kernel_rfl)
    (ho:(c.to (Cf.isJn (uC P f i).2.length)).2.map QA=(c.to (Cf.isJn (uC P f i).2.length)).2.map QC:=by kernel_rfl):c.ok P (jH (rF P f) R):=by
  unfold Jok at H
  refine (Cf.run_ok ho ?_).2
  change Cf.ok P _ (c.to (Cf.isJn (uC P f i).2.length)).1
  unfold Cf.jn at hc
  split at hc <;> simp at hc
  rename_i y k s e
  rw [e] at hk ⊢
  rw [← hc] at H
  exact (⟨s',hk,H⟩:wkK (avc P y (GQ P (jH (rF P f) R) k)) s)
end
end Go.Ab
