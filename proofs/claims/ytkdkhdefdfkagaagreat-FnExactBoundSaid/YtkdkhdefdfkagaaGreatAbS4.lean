/- Steps: slices that are made,written,and then taken for plain data. -/
import Derived.Test.YtkdkhdefdfkagaaGreatAbS3
namespace Go.Ab
open Go Go.RowKit
section
variable {P:Program} {K:St→Prop} {rest:List AOp} {s:St} {α β:Type} {d:Nat} {r:β} {k k':IntKind}
theorem aMj {α:Type} {n:Nat} {f:α→List D} (hl:∀ x,(f x).length=n):∀ l:List α,(fK (l.map f)).length=l.length * n
  | []=>by simp [fK]
  | x::l=>by
    have:=aMj hl l
    simp only [fK,List.length_map,List.map_cons,List.flatten_cons,List.length_append,hl,List.length_cons] at this ⊢
    rw [this,Nat.add_mul]; omega
theorem bDh:∀ l:List D,V.stills (l.map V.d)=true
  | []=>rfl
  | x::l=>by simp [V.stills,V.still,bDh l]
def V.isBp:V→Bool
  | .bp ..=>true
  | _=>false
theorem bR8 {x:V} (h:x.isBp=false) (u:V):kbp (some x) u=u:=by
  cases x <;> first | rfl | simp [V.isBp] at h
theorem aZ4:∀ (us a b c:List V),us.length=b.length→b.any V.isBp=false→putCells (a++b++c) a.length us=a++us++c
  | [],a,b,c,h,_=>by
    have:b=[]:=List.length_eq_zero_iff.1 (by simpa using h.symm)
    subst this; simp [putCells]
  | u::us,a,[],c,h,_=>by simp at h
  | u::us,a,x::b,c,h,hb=>by
    simp only [List.any_cons,Bool.or_eq_false_iff] at hb
    simp only [putCells]
    have e0:(a++x::b++c)[a.length]?=some x:=by rw [List.append_assoc,List.getElem?_append_right (Nat.le_refl _)]; simp
    rw [e0,bR8 hb.1]
    have e:(a++x::b++c).set a.length u=(a++[u])++b++c:=by
      rw [List.append_assoc,List.set_append_right _ _ (Nat.le_refl _)]
      simp
    rw [e]
    have:=aZ4 us (a++[u]) b c (by simpa using h) hb.2
    simp only [List.length_append,List.length_cons,List.length_nil] at this
    simpa using this
theorem bQb {α:Type} {n:Nat} {f:α→List D} (hl:∀ x,(f x).length=n) (l:List α) (i:Nat) (v:α) (hi:i<l.length):putCells (fK (l.map f)) (i * n) ((f v).map V.d)=fK ((l.set i v).map f):=by
  have e1:l=l.take i++l[i]::l.drop (i+1):=by rw [List.getElem_cons_drop hi,List.take_append_drop]
  have e2:l.set i v=l.take i++v::l.drop (i+1):=List.set_eq_take_append_cons_drop.trans (by simp [hi])
  have e3:fK (l.map f)=fK ((l.take i).map f)++(f l[i]).map V.d++fK ((l.drop (i+1)).map f):=by
    have:∀ a:α,∀ p q:List α,fK ((p++a::q).map f)=fK (p.map f)++(f a).map V.d++fK (q.map f):=fun a p q=>by simp [fK]
    exact (congrArg (fun z=>fK (z.map f)) e1).trans (this _ _ _)
  have e4:fK ((l.set i v).map f)=fK ((l.take i).map f)++(f v).map V.d++fK ((l.drop (i+1)).map f):=by
    rw [e2]; simp [fK]
  have e5:i * n=(fK ((l.take i).map f)).length:=by rw [aMj hl,List.length_take,Nat.min_eq_left (Nat.le_of_lt hi)]
  rw [e3,e4,e5]
  exact aZ4 _ _ _ _ (by simp [hl]) (by rw [List.any_eq_false]; intro x hx; obtain ⟨y,_,rfl⟩:=List.mem_map.1 hx; simp [V.isBp])
theorem I7 {e sz by' : Nat} {zs : List D} {xo yo : AO} {n : Int} {z : α} {f : α → List D} {kF : List α → Option β} {S' : List α → St} (h : (mkG by' n z >>= kF) = some r) (hn : (conds s [xo, yo]).all id = true) (h1 : (ev s xo).str = .d (.i k n)) (h2 : (ev s yo).str = .d (.i k' n)) (hz : zs = f z) (hf : s.fresh d = true)
    (hS:∀ y:List α,(⟨(d,.msl d sz 0 y.length y.length)::s.env,(d,fK (y.map f))::s.bx⟩:St)=S' y) (hk:∀ y,kF y=some r→fV P K rest (S' y)):fV P K (.mks d e sz by' zs xo yo::rest) s:=by
  unfold mkG at h
  split at h
  · rename_i h0
    show aop P s (fV P K rest) (.mks d e sz by' zs xo yo)
    simp only [aop]
    refine jJ (pM hn) (jJ (pM (vY hn)) ?_)
    rw [h1,h2]
    refine ⟨rfl,h0.1,h0.2,hf,?_⟩
    have:=hk _ h
    rw [← hS] at this
    rw [hz]
    simpa using this
  · simp at h
theorem yT {sz b : Nat} {xo io : AO} {l : List α} {i : Int} {x : α} (hx : idx l i = some x) (hn : (conds s [xo, io]).all id = true) (h1 : (ev s xo).str = .msl b sz 0 l.length l.length) (h2 : (ev s io).str = .d (.i k i)) :
    vop s (fun v=>v=.ptr b ((0+i.toNat) * sz)) (.ia d sz xo io):=by
  unfold idx at hx
  split at hx
  · rename_i h0
    exact bVz h0 (List.getElem?_eq_some_iff.1 hx).1 hn h1 h2
  · simp at hx
theorem zB {n b : Nat} {i : Int} {l : List α} {v : α} {f : α → List D} {xo yo : AO} {u : V} {kF : List α → Option β} {T : List α → Nat → St} (h : (qM l i v >>= kF) = some r) (hx : ev s xo = .ptr b ((0 + i.toNat) * n)) (hy : ev s yo = u) (hs : u.solid = true) (hc : u.cells = (f v).map V.d) (hl : ∀ x, (f x).length = n)
    (hb:bget s.bx b=some (fK (l.map f))) (hT:∀ y:List α,(⟨s.env,jH s.bx b (fK (y.map f))⟩:St)=T y l.length) (hk:∀ y,kF y=some r→fV P K rest (T y y.length)):fV P K (.st n xo yo::rest) s:=by
  unfold qM at h
  split at h
  · rename_i h0
    show aop P s (fV P K rest) (.st n xo yo)
    simp only [aop]
    rw [hx,hy]
    have hu:∀ C:V→Prop,C u→use u C:=by
      intro C hC
      cases u <;> first | exact hC | simp [V.solid] at hs
    refine hu _ ⟨_,hb,hs,by rw [hc]; simp [hl],?_,?_⟩
    · rw [aMj hl,Nat.zero_add]
      have:=Nat.mul_le_mul_right n (Nat.succ_le_of_lt h0.2)
      rw [Nat.succ_mul] at this; exact this
    · have:=hk _ h
      rw [List.length_set,← hT] at this
      rw [hc,Nat.zero_add,bQb hl _ _ _ h0.2]
      exact this
  · simp at h
def aMx (n sz:Nat) (R:List (List D)) (s:St):List (Nat×V)→Prop
  | []=>True
  | (k,v)::l=>((lk s.env k=v∧v.noPtr n=true)∨(∃ len cap,lk s.env k=.msl n sz 0 len cap∧len=R.length∧v=.d (.sl sz R)))∧aMx n sz R s l
def aJh (n:Nat) (s:St):List (Nat×List V)→Prop
  | []=>True
  | (k,c)::l=>k≠n∧bget s.bx k=some c∧aJh n s l
theorem bBi {n sz:Nat} {R:List (List D)}:∀ {l:List (Nat×V)},aMx n sz R s l→∀ k,lk l k=.top∨((lk s.env k=lk l k∧(lk l k).noPtr n=true)∨(∃ len cap,lk s.env k=.msl n sz 0 len cap∧len=R.length∧lk l k=.d (.sl sz R)))
  | [],_,k=>.inl rfl
  | (m,v)::l,h,k=>by
    simp only [lk]
    split
    · rename_i e; subst e; exact .inr h.1
    · exact bBi h.2 k
theorem aTs {n:Nat}:∀ {l:List (Nat×List V)},aJh n s l→∀ {k c},bget l k=some c→k≠n∧bget s.bx k=some c
  | [],_,k,c,h=>by simp [bget] at h
  | (m,v)::l,hl,k,c,h=>by
    simp only [bget] at h
    split at h
    · rename_i e; subst e; simp at h; subst h; exact ⟨hl.1,hl.2.1⟩
    · exact aTs hl.2.2 h
theorem bHk (R:List (List D)):V.asDs (fK R)=some R.flatten:=aZc _
theorem bRs {s':St} {n sz:Nat} {l:List α} {f:α→List D} (hsz:0<sz) (hl:∀ x,(f x).length=sz) (hb:bget s.bx n=some (fK (l.map f))) (he:aMx n sz (l.map f) s s'.env) (hbx:aJh n s s'.bx):Wk s s':=by
  intro E N κ w a h
  have g:=h.good
  obtain ⟨cs,T,hh,hr,hS0,hE⟩:=g.box n _ hb
  have hrd:fB κ.S cs.toList (l.map f).flatten:=hr.asDs (bHk _)
  let κ':Ctx:=⟨upd κ.S (κ.m n) cs.toList,κ.mt,κ.o⟩
  have hSn:κ'.S (κ.m n)=cs.toList:=upd_same _ _ _
  have hSo:∀ b,b≠κ.m n→κ'.S b=κ.S b:=fun b hb=>lM _ _ _ hb
  have hle:κ.S.le κ'.S:=by
    intro b
    by_cases e:b=κ.m n
    · subst e; rw [hS0]; exact List.nil_prefix
    · rw [hSo b e]; exact List.prefix_refl _
  have hmv:∀ {v:Value} {x:V},bI κ v x→bI κ' v x:=fun hr=>hr.move hle (V.fits_eq (κ:=κ) (κ':=κ') (fun _=>rfl) (fun _=>rfl) _)
  have hmvs:∀ {v:List Value} {x:List V},dF κ v x→dF κ' v x:=fun hr=>hr.move hle (V.fitss_eq (κ:=κ) (κ':=κ') (fun _=>rfl) (fun _=>rfl) _)
  have hrows:∀ x ∈ l.map f,x.length=sz:=by
    intro x hx
    obtain ⟨y,_,rfl⟩:=List.mem_map.1 hx
    exact hl y
  refine ⟨κ',h.size,h.defers,fun k=>?_,?_⟩
  · rcases bBi he k with e | ⟨e,_⟩ | ⟨len,cap,e1,e2,e3⟩
    · rw [e]; exact .top _
    · rw [← e]; exact hmv (h.env k)
    · rw [e3]
      have hk:=h.env k
      rw [e1] at hk
      obtain ⟨hv,h1,h2⟩:=hk.toMsl
      rw [hv,e2]
      rw [e2] at h1
      refine .d (.sl (κ.m n) (0 * sz) _ cap sz (l.map f) cs.toList rfl h1 h2 ?_ ?_ hrows (hrd.mono hle))
      · rw [hrd.length]
        have:=aMj hl l
        simp only [fK,List.length_map] at this ⊢
        exact this
      · rw [hSn,Nat.zero_mul,List.drop_zero]; exact List.prefix_refl _
  · have hsome : ∀ k, (bget s'.bx k).isSome → (bget s.bx k).isSome := by
      intro k hk
      obtain ⟨c,hc⟩:=Option.isSome_iff_exists.1 hk
      simp [(aTs hbx hc).2]
    refine ⟨⟨g.frm.os,g.frm.tape,g.frm.output,g.frm.size,fun b hb hn=>?_,g.frm.block,g.frm.names,Mem.le_trans g.frm.le hle⟩,fun b hb'=>?_,fun k c hc=>?_,fun k k' hk hk'=>g.inj k k' (hsome k hk) (hsome k' hk'),fun t o ho=>?_,g.ownInj⟩
    · rw [hSo b ?_]
      · exact g.frm.mem b hb hn
      · rintro rfl
        rcases hE with hE | hE
        · exact hn hE
        · omega
    · by_cases e:b=κ.m n
      · subst e
        exact ⟨cs,T,(0,0),hh,by rw [hSn]; exact List.prefix_refl _⟩
      · rw [hSo b e] at hb' ⊢
        exact g.mem b hb'
    · obtain ⟨hkn,hc0⟩:=aTs hbx hc
      obtain ⟨cs2,T2,h2,hr2,hS2,hE2⟩:=g.box k c hc0
      have hne:κ.m k≠κ.m n:=fun e=>hkn (g.inj k n (by simp [hc0]) (by simp [hb]) e)
      exact ⟨cs2,T2,h2,hmvs hr2,by rw [hSo _ hne]; exact hS2,hE2⟩
    · obtain ⟨k,xs,hO,hx⟩:=g.own t o ho
      refine ⟨k,xs,hO,fun g2 hg2=>⟨(hx g2 hg2).1,?_,fun m hm=>(hx g2 hg2).2.2 m (hsome m hm)⟩⟩
      rw [hSo g2 (fun e=>(hx g2 hg2).2.2 n (by simp [hb]) e.symm)]
      exact (hx g2 hg2).2.1
end
theorem Wk.trans {s s' s'':St} (h1:Wk s s') (h2:Wk s' s''):Wk s s'':=fun E N κ w a h=>by
  obtain ⟨κ',h'⟩:=h1 E N κ w a h
  exact h2 E N κ' w a h'
theorem zP {α:Type} {P:Program} {Q:Exit→St→Prop} {s s':St} {n sz:Nat} {l:List α} {f:α→List D} (hsz:0<sz) (hl:∀ x,(f x).length=sz) (hb:bget s.bx n=some (fK (l.map f))) (he:aMx n sz (l.map f) s s'.env) (hbx:aJh n s s'.bx) (h:avc P .ret Q s'):avc P .ret Q s:=by
  obtain ⟨s2,hw,h2⟩:=h
  exact ⟨s2,(bRs hsz hl hb he hbx).trans hw,h2⟩
theorem lms {α β:Type} (l:List α) (f:α→β):l.length=(l.map f).length:=by simp
theorem qH {ρ:List (Nat×Tk)} {n:Nat} {s:St} {R:List (List D)} {l:List (Nat×List V)} (h:bget s.bx n=some (fK R)) (ht:bxR ρ s l):bxR ρ s ((n,fK R)::l):=bF0 h (bDh _) ht
end Go.Ab
