/- New rows and appends,over the abstract state. -/
import Derived.Test.YtcbkkemcgcdhdaaGreatAb3
namespace Go.Ab
open Go Go.RowKit
open _root_.Nat renaming le_refl→QA,add_mul→QB,zero_add→QH,zero_le→QU
open _root_.List renaming prefix_refl→QC,nil_prefix→QD,size_toArray→QE,append_nil→QG,getElem?_append_left→QJ,getElem?_eq_some_iff→QK,mem_append→QL,flatten_append→QM,take_left→QN,eq_nil_of_length_eq_zero→QO,length_nil→QP,prefix_append→QQ,length_append→QR,length_take→QS,length_drop→QT
open _root_.Array renaming length_toList→QF,ext'→QV,toList_append→QW,size_append→QX
open _root_.Option renaming some.injEq→QI
def mI (t:Nat):List (Nat×V)→List (Nat×V)
  | []=>[]
  | (n,v)::l=>(n,v.dn t)::mI t l
def tV (t:Nat):List V→List V
  | []=>[]
  | v::l=>v.dn t::tV t l
def kT (t:Nat):List (Nat×List V)→List (Nat×List V)
  | []=>[]
  | (n,c)::l=>(n,tV t c)::kT t l
def St.dn (s:St) (t:Nat):St:=⟨mI t s.env,kT t s.bx⟩
theorem aM9 (t:Nat) (l:List (Nat×V)) (n:Nat):lk (mI t l) n=(lk l n).dn t:=by
  induction l with
  | nil=>rfl
  | cons x l ih=>obtain ⟨m,v⟩:=x; simp only [mI,lk]; split <;> simp [ih]
theorem aIm (t:Nat) (l:List (Nat×List V)) (n:Nat):bget (kT t l) n=(bget l n).map (tV t):=by
  induction l with
  | nil=>rfl
  | cons x l ih=>obtain ⟨m,v⟩:=x; simp only [kT,bget]; split <;> simp [ih]
theorem aR.dn1 {κ:Ctx} {v:Value} {x:V} (t:Nat) (h:aR κ v x):aR κ v (x.dn1 t):=by
  cases x with
  | osl t' e sz l => simp only [V.dn1]; split; · cases h with | osl h1 h2 => exact .d h2
                     · exact h
  | _=>exact h
theorem aZ.dn1 {κ:Ctx} {vs:List Value} {xs:List V} (t:Nat) (h:aZ κ vs xs):aZ κ vs (xs.map (V.dn1 t)):=by
  induction xs generalizing vs with
  | nil=>cases h; exact .nil
  | cons x xs ih=>cases h with | cons a r=>exact .cons (a.dn1 t) (ih r)
theorem aR.dn0 {κ:Ctx} {v:Value} {x:V} (t:Nat) (h:aR κ v x):aR κ v (x.dn0 t):=by
  cases x with
  | agv l=>cases h with | agv h=>exact .agv (h.dn1 t)
  | tup l=>cases h with | tup h=>exact .tup (h.dn1 t)
  | _=>exact h.dn1 t
theorem aR.dn {κ:Ctx} {v:Value} {x:V} (t:Nat) (h:aR κ v x):aR κ v (x.dn t):=by
  cases x with
  | ite c x =>
    cases h with
    | yes h=>exact .yes (h.dn0 t)
    | no=>exact .no
  | _=>exact h.dn0 t
theorem aZ.dn {κ:Ctx} {vs:List Value} {xs:List V} (t:Nat) (h:aZ κ vs xs):aZ κ vs (tV t xs):=by
  induction xs generalizing vs with
  | nil=>cases h; exact .nil
  | cons x xs ih=>cases h with | cons a r=>exact .cons (a.dn t) (ih r)
theorem V.dn_mark {t:Nat} {x:V} (h:x.mark=true):x.dn t=x:=by cases x <;> first | rfl | simp [V.mark] at h
theorem Mv.dn {κ:Ctx} (t:Nat):∀ c:List V,Mv κ κ c (tV t c)
  | []=>.nil
  | _::c=>.cons ⟨fun h=>⟨V.dn_mark h,fun _=>Mem.le_refl _⟩,fun _ hr=>hr.dn t⟩ (Mv.dn t c)
section
variable {E:Entry} {N:Nat} {κ:Ctx} {w:World} {a:Act} {s:St} {P:Program}
theorem Good.blNe {bx} (g:Good E κ w bx) {n b:Nat} (hn:(bget bx n).isSome) (hb:w.heap.size≤b):b∉κ.bl n:=fun h=>by
  have:=((g.blk n hn).2 b h).2.1; omega
theorem Good.ownNe {bx} (g:Good E κ w bx) {t b:Nat} {o:Own} (ho:κ.o t=some o) (hb:w.heap.size≤b):o.v.ownBlock≠some b:=fun h=>by
  have:=(g.own t o ho).1.lt h; omega
theorem Ok.newrow (h:Ok E N κ w a s) {d:Nat} (hd:d<N) (hf:s.fresh d=true) {e:TypeId} {sz n cap:Nat} {l:List (List D)} {cs:List Value} {cur:Array Value}
    (hrep:bP κ.S cs l.flatten) (hn:n=l.length) (hsz:∀ x∈l,x.length=sz) (hcap:n≤cap) (hmax:cap≤maxLen) (hcs:cs.length=n * sz)
    (hcur:cur.size=cap * sz) (htake:cur.toList.take (n * sz)=cs) {w':World} (hheap:w'.heap=w.heap.push (.cells cur e)) (hos:w'.os=w.os) (htape:w'.tape=w.tape) (hout:w'.output=w.output) :
    ∃ κ',Ok E N κ' w' (a.put (some d) (.slice (some ⟨w.heap.size,0,none⟩) n cap)) ⟨(d,.osl d e sz l)::s.env,s.bx⟩:=by
  have g:=h.good
  let κ':Ctx:=⟨upd κ.S w.heap.size cs,κ.mt,upd (upd κ.o d none) d (some ⟨e,sz,.slice (some ⟨w.heap.size,0,none⟩) n cap⟩),κ.bl⟩
  have hSnew:κ.S w.heap.size=[]:=g.memNew (QA _)
  have hle:κ.S.le κ'.S:=fun b=>by
    by_cases hb:b=w.heap.size
    · subst hb; rw [hSnew]; exact QD
    · show κ.S b <+: upd κ.S w.heap.size cs b; rw [jI _ _ _ hb]; exact QC _
  have ho:∀ k,k≠d→κ'.o k=κ.o k:=fun k hk=>by show upd (upd κ.o d none) d _ k=_; rw [jI _ _ _ hk,jI _ _ _ hk]
  have hmove:∀ {v:Value} {x:V},aR κ v x→x.noTok d=true→aR κ' v x:=fun hr hx=>hr.move hle (V.fits_o (κ:=κ) (κ':=κ') (fun _=>rfl) ho _ hx)
  have hRd:bR κ'.S (.slice (some ⟨w.heap.size,0,none⟩) n cap) (.sl sz l):=by
    refine .sl _ 0 n cap sz l cs hn hcap hmax hcs ?_ hsz (hrep.mono hle)
    show cs <+: (upd κ.S w.heap.size cs w.heap.size).drop 0
    rw [upd_same]; exact QC _
  refine ⟨κ',⟨by simp [Act.put,h.size],h.defers,fun k=>?_,?_⟩⟩
  · simp only [Act.put,lk]
    rw [aBy _ _ _ _ (by rw [h.size]; exact hd)]
    split
    · exact .osl (upd_same _ _ _) hRd
    · exact hmove (h.env k) (s.fresh_env hf k).2
  · refine g.grow (gb:=w.heap.size) (cells:=cs) (t:=d) (d:=d) (e:=e) (sz:=sz) (v':=.slice (some ⟨w.heap.size,0,none⟩) n cap) (k:=n) hos htape hout (by rw [hheap]; simp) (fun b hb _=>?_) rfl ?_ (.inr g.frm.size) ?_ rfl (fun n hn=>?_) (fun t' o _ ho'=>?_) (fun n c hc=>?_)
    · rw [hheap,Array.getElem?_push,if_neg (by omega)]
    · rw [hSnew]; exact QD
    · exact .of ⟨hcs,.inr ⟨w.heap.size,cap,cur,rfl,QU _,by rw [hheap]; simp,hcap,hmax,hcur,htake⟩⟩
    · exact g.blNe hn (QA _)
    · exact g.ownNe ho' (QA _)
    · exact ⟨c,hc,Mv.fits hle (V.fitss_o (κ:=κ) (κ':=κ') (fun _=>rfl) ho _ (s.fresh_bx hf hc).2)⟩
theorem Good.cells {bx} (g:Good E κ w bx) {b off:Nat} {vs:List Value} (hp:vs <+: (κ.S b).drop off):∀ (j:Nat) (u:Value),vs[j]?=some u→w.cell? ((⟨b,off,none⟩:Addr).add j)=some u:=by
  intro j u hu
  have hj:((κ.S b).drop off)[j]?=some u:=by
    obtain ⟨t,ht⟩:=hp
    rw [← ht,QJ (QK.1 hu).1]; exact hu
  rw [List.getElem?_drop] at hj
  have hne:κ.S b≠[]:=by rintro e; rw [e] at hj; simp at hj
  obtain ⟨cs,T,fr,hh,hpre⟩:=g.mem b hne
  have hc:cs[off+j]?=some u:=by
    obtain ⟨t,ht⟩:=hpre
    have:=Array.getElem?_toList (xs:=cs) (i:=off+j)
    rw [← this,← ht,QJ (QK.1 hj).1]; exact hj
  have hadd:(⟨b,off,none⟩:Addr).add j=⟨b,off+j,none⟩:=by unfold Addr.add; split <;> simp_all
  rw [hadd]
  simp [World.cell?,hh,hc]
theorem bR.slice {S:Mem} {v:Value} {sz:Nat} {l:List (List D)} (h:bR S v (.sl sz l)) :
    (v=.slice none 0 0∧l=[])∨(∃ a cap,v=.slice (some a) 0 cap∧l=[]∧cap≤maxLen)∨∃ b off cap vs,v=.slice (some ⟨b,off,none⟩) l.length cap∧l.length≤cap∧cap≤maxLen∧vs.length=l.length * sz∧vs <+: (S b).drop off∧(∀ e∈l,e.length=sz)∧bP S vs l.flatten:=by
  cases h with
  | nil=>exact .inl ⟨rfl,rfl⟩
  | emp a cap sz h=>exact .inr (.inl ⟨a,cap,rfl,rfl,h⟩)
  | sl b off len cap sz l vs h1 h2 h3 h4 h5 h6 h7=>subst h1; exact .inr (.inr ⟨b,off,cap,vs,rfl,h2,h3,h4,h5,h6,h7⟩)
theorem aHk {w:World} {need old:Nat} {e:TypeId} (h:need≤maxLen):need≤grownCap w need old e∧grownCap w need old e≤maxLen :=
  ⟨grownCap_ge w need old e,grownCap_le_maxLen w need old e h⟩
structure vH (P:Program) (size:Nat) (tx:TypeId) (x:Value) (n:Nat) (news:List Value) (w:World):Prop where
  kind:(∃ e',P.underlying tx=some (.slice e'))∨P.underlying tx=some .string
  len:∀ w':World,(Builtin.lenOf x).run P w'=.ok n w'
  cells:(Builtin.firstCells size n x).run P w=.ok news.toArray w
  cellsD:(Builtin.firstCells size n x).run P w.drew=.ok news.toArray w.drew
  newsLen:news.length=n * size
  one:∀ u∈news,u.oneCell'=true
theorem aDc {P:Program} {w:World} {t tx ty e:TypeId} {i:TypeInfo} (ht:P.underlying t=some (.slice e)) (hi:P.info? e=some i) {base:Option Addr} {sLen sCap:Nat} (hle:sLen≤sCap) {x:Value} (hs:vH P i.size tx x 0 [] w) :
    (Builtin.append_ #[t,tx] ty #[.slice base sLen sCap,x]).run P w=.ok (.slice base sLen sCap) w:=by
  rcases hs.kind with ⟨e',hk⟩ | hk <;> cases base <;> simp [Builtin.append_,run_underlying ht,run_underlying hk,sizeOf,typeInfo,hi,hs.len,hle,hs.cells,storeCells]
theorem bYv {P:Program} {w:World} {t tx ty e e0:TypeId} {i:TypeInfo} (ht:P.underlying t=some (.slice e)) (hi:P.info? e=some i)
    {g sLen sCap:Nat} {cur:Array Value} (hg:Row (fun k=>w.heap[k]?) g cur e0) {x:Value} {n:Nat} {news:List Value} (hs:vH P i.size tx x n news w)
    (hroom:sLen+n≤sCap) (hfit:sLen * i.size+news.length≤cur.size) :
    (Builtin.append_ #[t,tx] ty #[.slice (some ⟨g,0,none⟩) sLen sCap,x]).run P w =
      .ok (.slice (some ⟨g,0,none⟩) (sLen+n) sCap) (w.setRow g (cur.toList.take (sLen * i.size)++news++cur.toList.drop (sLen * i.size+news.length)).toArray):=by
  have hst:=Row.stores (P:=P) g (sLen * i.size) e0 news 0 cur w hg (by simpa using hfit) hs.one
  simp only [Nat.add_zero] at hst
  rcases hs.kind with ⟨e',hk⟩ | hk <;> simp [Builtin.append_,run_underlying ht,run_underlying hk,sizeOf,typeInfo,hi,hs.len,hroom,hs.cells,Addr.add_lit,hst]
theorem aP7 {P:Program} {w:World} {t tx ty e:TypeId} {i:TypeInfo} {z:Value} (ht:P.underlying t=some (.slice e)) (hi:P.info? e=some i) (hz:i.zero=some z) {base:Option Addr} {sLen sCap:Nat} {olds:List Value}
    (hold:(Builtin.firstCells i.size sLen (.slice base sLen sCap)).run P w.drew=.ok olds.toArray w.drew) {x:Value} {n:Nat} {news:List Value} (hs:vH P i.size tx x n news w)
    (hg:sCap<sLen+n) (h63:((sLen+n:Nat):Int)≤9223372036854775807) (hfit:Builtin.nextslicecap (sLen+n) sCap * i.bytes≤281474976710656) :
    (Builtin.append_ #[t,tx] ty #[.slice base sLen sCap,x]).run P w =
      .ok (.slice (some ⟨w.heap.size,0,none⟩) (sLen+n) (grownCap w (sLen+n) sCap e))
        (w.drew.alloc (.cells (olds.toArray++news.toArray++Builtin.zeroCells z.cells (grownCap w (sLen+n) sCap e - (sLen+n))) e)):=by
  have hn:¬ (sLen+n≤sCap):=by omega
  have h63':¬ (9223372036854775807<((sLen:Int)+(n:Int))):=by omega
  have h48':¬ (281474976710656<Builtin.nextslicecap (sLen+n) sCap * i.bytes):=by omega
  rcases hs.kind with ⟨e',hk⟩ | hk <;>
    (simp [Builtin.append_,run_underlying ht,run_underlying hk,sizeOf,typeInfo,zeroValue,hi,hz,hs.len,hn,h63',h48',Question.forced,hs.cellsD,hold,newRow,grownCap]
     congr 2
     apply QV
     simp [List.append_assoc])
theorem cKa {P:Program} {w:World} {tx:TypeId} (hk:P.underlying tx=some .string∨∃ e',P.underlying tx=some (.slice e')) (s:ByteArray) :
    vH P 1 tx (.string s) s.data.toList.length (s.data.toList.map fun b=>Value.int .u8 b.toNat) w:=by
  have hc:∀ w':World,(Builtin.firstCells 1 s.data.toList.length (.string s)).run P w'=.ok (s.data.toList.map fun b=>Value.int .u8 b.toNat).toArray w':=by
    intro w'
    have:s.data.toList.length=s.size:=by rw [QF]; rfl
    rw [this]
    simp [Builtin.firstCells]
    apply QV
    simp
  refine ⟨hk.symm,fun w'=>?_,hc w,hc w.drew,by simp,fun u hu=>?_⟩
  · rw [QF]; rfl
  · obtain ⟨_,_,rfl⟩:=List.mem_map.1 hu; rfl
theorem Ok.append (h:Ok E N κ w a s) {er:TypeId} {d t:Nat} (hd:d<N) (hf:(s.dn t).fresh d=true) (hct:(s.dn t).clean t=true) {e ty:TypeId} {ti:TypeInfo} {z:Value} {sz bytes:Nat} {xs ys:List (List D)}
    (hty:P.underlying ty=some (.slice e)) (hi:P.info? e=some ti) (hz:ti.zero=some z) (hsize:ti.size=sz) (hby:ti.bytes=bytes) (hzs:z.cells.size=sz) (hsz:0<sz)
    {v u:Value} (hv:(v=.slice none 0 0∧xs=[])∨κ.o t=some ⟨er,sz,v⟩) (her:er=e∨er=XE) (hvr:bR κ.S v (.sl sz xs)) {tu:TypeId} {us:List Value} (hsr:vH P ti.size tu u ys.length us w) (hu6:bP κ.S us ys.flatten) (hu5:∀ y∈ys,y.length=ti.size)
    (hmax:(xs.length+ys.length) * bytes≤140737488355328) (hlen:xs.length+ys.length≤maxLen) (tr:TypeId) :
    ∃ v' w' κ',(Builtin.append_ #[ty,tu] tr #[v,u]).run P w=.ok v' w'∧Ok E N κ' w' (a.put (some d) v') ⟨(d,.osl d er sz (xs++ys))::(s.dn t).env,(s.dn t).bx⟩:=by
  have g:=h.good
  subst hsize; subst hby
  have h63:xs.length+ys.length≤9223372036854775807:=by simp only [maxLen] at hlen; omega
  -- the state behind,out of the context behind
  have fin:∀ (κ':Ctx) (v':Value) (w':World),κ.S.le κ'.S→(∀ k,κ'.mt k=κ.mt k)→(∀ k,k≠t→k≠d→κ'.o k=κ.o k)→κ'.o d=some ⟨er,ti.size,v'⟩→bR κ'.S v' (.sl ti.size (xs++ys)) →
      ((∀ n c,bget (s.dn t).bx n=some c→∃ c0,bget s.bx n=some c0∧Mv κ κ' c0 c)→Good E κ' w' (s.dn t).bx) →
      Ok E N κ' w' (a.put (some d) v') ⟨(d,.osl d er ti.size (xs++ys))::(s.dn t).env,(s.dn t).bx⟩:=by
    intro κ' v' w' hle hm ho hod hR hg
    refine ⟨by simp [Act.put,h.size],h.defers,fun k=>?_,hg fun n c hc=>?_⟩
    · simp only [Act.put,lk]
      rw [aBy _ _ _ _ (by rw [h.size]; exact hd)]
      split
      · exact .osl hod hR
      · refine aR.move hle ?_ (V.fits_oo hm ho _ (St.clean_env hct k) (St.fresh_env hf k).2)
        have:=(h.env k).dn t
        rw [← aM9] at this
        exact this
    · have hc':=hc
      simp only [St.dn,aIm] at hc'
      cases h0:bget s.bx n with
      | none=>rw [h0] at hc'; simp at hc'
      | some c0 =>
        rw [h0] at hc'; simp at hc'; subst hc'
        exact ⟨c0,rfl,(Mv.dn t c0).trans (Mv.fits hle (V.fitss_oo hm ho _ (St.clean_bx hct hc) (St.fresh_bx hf hc).2))⟩
  have hdomS:∀ n,(bget (s.dn t).bx n).isSome→(bget s.bx n).isSome:=by
    intro n hn; simp only [St.dn,aIm,Option.isSome_map] at hn; exact hn
  -- where nothing is appended to nil
  have keep:∀ κ':Ctx,κ'=⟨κ.S,κ.mt,upd (upd κ.o t none) d (some ⟨er,ti.size,.slice none 0 0⟩),κ.bl⟩→(∀ n c,bget (s.dn t).bx n=some c→∃ c0,bget s.bx n=some c0∧Mv κ κ' c0 c)→Good E κ' w (s.dn t).bx:=by
    rintro κ' rfl hbx
    refine g.patch (fun _=>False) (fun _=>False) (fun t'=>t'=d) rfl rfl rfl (QA _) (fun _ h=>h.elim) (fun _ _=>⟨rfl,rfl⟩) (fun _ h=>h.elim) (fun _ h=>h.elim) (fun _ h=>h.elim) (fun _ _=>rfl)
      (fun n c hc _=>?_) (fun _ _ _ h=>h.elim) (fun _ _ _ _ _ h=>h.elim) ?_ ?_ ?_
    · obtain ⟨c0,h0,hm⟩:=hbx n c hc
      exact ⟨c0,h0,rfl,rfl,hm,fun _ _ h=>h⟩
    · intro t' o ho hne
      simp only [upd,if_neg hne] at ho
      split at ho
      · simp at ho
      · exact ⟨ho,fun _ _ h=>h⟩
    · rintro t' o ho rfl
      simp only [upd,if_true,QI] at ho
      subst ho
      exact ⟨⟨0,[],sI.nil w er ti.size,by simp [Value.ownBlock]⟩,by simp [Value.ownBlock]⟩
    · rintro t1 t2 _ _ _ _ _ rfl rfl _ _
      rfl
  have hSlt:∀ t' o,κ.o t'=some o→o.v.ownBlock≠some w.heap.size:=fun t' o ho=>g.ownNe ho (QA _)
  let κn:Ctx:=⟨κ.S,κ.mt,upd (upd κ.o t none) d (some ⟨er,ti.size,.slice none 0 0⟩),κ.bl⟩
  -- where a new row is made: 'old' and 'news' are the cells
  have make:∀ (old news:List Value) (cap:Nat) (cur:Array Value) (w':World),bP κ.S old xs.flatten→bP κ.S news ys.flatten→old.length=xs.length * ti.size→news.length=ys.length * ti.size →
      (∀ x∈xs,x.length=ti.size)→(∀ x∈ys,x.length=ti.size) →
      xs.length+ys.length≤cap→cap≤maxLen→cur.size=cap * ti.size→cur.toList.take ((xs.length+ys.length) * ti.size)=old++news→w'=w.drew.alloc (.cells cur e) →
      ∃ κ',Ok E N κ' w' (a.put (some d) (.slice (some ⟨w.heap.size,0,none⟩) (xs.length+ys.length) cap)) ⟨(d,.osl d er ti.size (xs++ys))::(s.dn t).env,(s.dn t).bx⟩:=by
    intro old news cap cur w' ho hnw hol hnl hx1 hy1 hc1 hc2 hc3 hc4 hw'
    subst hw'
    let κ':Ctx:=⟨upd κ.S w.heap.size (old++news),κ.mt,upd (upd κ.o t none) d (some ⟨er,ti.size,.slice (some ⟨w.heap.size,0,none⟩) (xs.length+ys.length) cap⟩),κ.bl⟩
    have hSnew:κ.S w.heap.size=[]:=g.memNew (QA _)
    have hle:κ.S.le κ'.S:=fun b=>by
      by_cases hb:b=w.heap.size
      · subst hb; rw [hSnew]; exact QD
      · show κ.S b <+: upd κ.S w.heap.size _ b; rw [jI _ _ _ hb]; exact QC _
    refine ⟨κ',fin κ' _ _ hle (fun _=>rfl) (fun k h1 h2=>by show upd (upd κ.o t none) d _ k=_; rw [jI _ _ _ h2,jI _ _ _ h1]) (upd_same _ _ _) ?_ fun hbx=>?_⟩
    · refine .sl _ 0 _ cap ti.size (xs++ys) (old++news) (by simp) hc1 hc2 (by simp [hol,hnl,QB]) ?_ (fun x hx=>?_) ?_
      · show old++news <+: (upd κ.S w.heap.size _ w.heap.size).drop 0
        rw [upd_same]; exact QC _
      · rcases QL.1 hx with hx | hx
        · exact hx1 x hx
        · exact hy1 x hx
      · rw [QM]; exact (ho.append hnw).mono hle
    · refine g.grow (gb:=w.heap.size) (cells:=old++news) (t:=t) (d:=d) (e:=er) (sz:=ti.size) (v':=.slice (some ⟨w.heap.size,0,none⟩) (xs.length+ys.length) cap) (k:=xs.length+ys.length) rfl rfl rfl (by simp) (fun b hb _=>Below.heap_alloc w.drew _ b hb) rfl ?_ (.inr g.frm.size) ?_ rfl (fun n hn=>?_) (fun t' o _ ho'=>hSlt t' o ho') hbx
      · rw [hSnew]; exact QD
      · have hnw':(w.drew.alloc (.cells cur e)).heap[w.heap.size]?=some (.cells cur e (0,0)):=by show (w.heap.push _)[w.heap.size]?=_; simp
        exact ⟨by simp [hol,hnl,QB],.inr ⟨w.heap.size,cap,cur,e,rfl,.of hnw',fun he=>by rw [her.resolve_right he]; exact hnw',hc1,hc2,hc3,hc4⟩⟩
      · exact g.blNe hn (QA _)
  -- the appended cells
  have takes:∀ (A B:Array Value) (C:List Value) (n:Nat),A.toList++B.toList=C→C.length=n→∀ Z:Array Value,(A++B++Z).toList.take n=C:=by
    intro A B C n h1 h2 Z
    rw [QW,QW,h1,← h2]; exact QN
  have vown:∀ a c,v=.slice (some a) 0 c→κ.o t=some ⟨er,ti.size,v⟩→∃ b,a=⟨b,0,none⟩:=by
    intro a c hva ho
    obtain ⟨⟨k,xc,hO,_⟩,_⟩:=g.own t _ ho
    rcases hO.2 with ⟨h0,_⟩ | ⟨g2,c2,cur2,T2,h0,_⟩
    · rw [hva] at h0; simp at h0
    · rw [hva] at h0; simp at h0; exact ⟨g2,h0.1⟩
  have hvr0:=hvr
  have vslice:(v=.slice none 0 0∧xs=[])∨∃ b off cap vs,v=.slice (some ⟨b,off,none⟩) xs.length cap∧xs.length≤cap∧cap≤maxLen∧vs.length=xs.length * ti.size∧vs <+: (κ.S b).drop off∧(∀ e∈xs,e.length=ti.size)∧bP κ.S vs xs.flatten:=by
    rcases hvr.slice with h | ⟨a,cap,h1,h2,h3⟩ | h
    · exact .inl h
    · subst h2
      rcases hv with ⟨h0,_⟩ | ho
      · rw [h1] at h0; simp at h0
      · obtain ⟨b,rfl⟩:=vown a cap h1 ho
        exact .inr ⟨b,0,cap,[],h1,QU _,h3,by simp,QD,by simp,.nil⟩
    · exact .inr h
  have hu3:=hsr.newsLen
  clear hvr
  have hvr:=hvr0
  by_cases hm0:ys.length=0
  · -- nothing is appended
    have hy:ys=[]:=QO hm0
    subst hy
    have hus:us=[]:=QO (by simpa using hu3)
    subst hus
    have hrun:(Builtin.append_ #[ty,tu] tr #[v,u]).run P w=.ok v w:=by
      rcases vslice with ⟨rfl,_⟩ | ⟨b,off,cap,vs,rfl,h1,_⟩
      · exact aDc hty hi (QA _) hsr
      · exact aDc hty hi h1 hsr
    rcases hv with ⟨rfl,rfl⟩ | hv
    · exact ⟨_,w,κn,hrun,fin κn _ w (show κ.S.le κn.S from Mem.le_refl _) (fun _=>rfl) (fun k h1 h2=>by show upd (upd κ.o t none) d _ k=_; rw [jI _ _ _ h2,jI _ _ _ h1]) (upd_same _ _ _) (.nil _) (keep κn rfl)⟩
    · rcases vslice with ⟨rfl,rfl⟩ | ⟨b,off,cap,vs,rfl,h1,h2,h3,h4,h5,h6⟩
      · exact ⟨_,w,κn,hrun,fin κn _ w (show κ.S.le κn.S from Mem.le_refl _) (fun _=>rfl) (fun k h1 h2=>by show upd (upd κ.o t none) d _ k=_; rw [jI _ _ _ h2,jI _ _ _ h1]) (upd_same _ _ _) (.nil _) (keep κn rfl)⟩
      · obtain ⟨⟨k,xc,hO,hSx⟩,hx⟩:=g.own t _ hv
        obtain ⟨he,hb⟩:=hx b rfl; have hS:=hSx b rfl
        let κ':Ctx:=⟨upd κ.S b (κ.S b),κ.mt,upd (upd κ.o t none) d (some ⟨er,ti.size,.slice (some ⟨b,off,none⟩) xs.length cap⟩),κ.bl⟩
        have hSS:∀ k,κ'.S k=κ.S k:=fun k=>by show upd κ.S b (κ.S b) k=_; by_cases hk:k=b; subst hk; rw [upd_same]; rw [jI _ _ _ hk]
        have hle:κ.S.le κ'.S:=fun k=>by rw [hSS]; exact QC _
        rw [QG]
        have fin':=fin κ' (.slice (some ⟨b,off,none⟩) xs.length cap) w hle (fun _=>rfl) (fun k h1 h2=>by show upd (upd κ.o t none) d _ k=_; rw [jI _ _ _ h2,jI _ _ _ h1]) (upd_same _ _ _) (by rw [QG]; exact hvr.mono hle) (fun hbx=>g.grow (gb:=b) (cells:=κ.S b) (k:=k) rfl rfl rfl (QA _) (fun _ _ _=>rfl) rfl (QC _) he (by rw [hS]; exact hO) rfl hb (fun t' o hne ho' he'=>hne (g.ownInj t' t o _ b ho' hv he' rfl)) hbx)
        rw [QG] at fin'
        exact ⟨_,w,κ',hrun,fin'⟩
  · rcases vslice with ⟨rfl,rfl⟩ | ⟨b,off,cap,vs,rfl,h1,h2,h3,h4,h5,h6⟩
    · · have hr := aP7 (P := P) (w := w) (ty := tr) (olds := []) hty hi hz (base := none) (sLen := 0) (sCap := 0) (by simp [Builtin.firstCells]) hsr (by omega) (by omega) (growslice_fits (by omega) (by simpa using hmax))
        rw [QH] at hr
        have hgc:=aHk (w:=w) (need:=ys.length) (old:=0) (e:=e) (by simpa using hlen)
        have hq1:(([]:List Value).toArray++us.toArray++Builtin.zeroCells z.cells (grownCap w ys.length 0 e - ys.length)).size=grownCap w ys.length 0 e * ti.size:=by
          simp only [QX,QE,size_zeroCells,hzs,hu3,QP,QH,← QB]
          congr 1; omega
        have hq2:(([]:List Value).toArray++us.toArray++Builtin.zeroCells z.cells (grownCap w ys.length 0 e - ys.length)).toList.take ((([]:List (List D)).length+ys.length) * ti.size)=[]++us:=by
          have:=takes #[] us.toArray us (ys.length * ti.size) (by simp) hu3 (Builtin.zeroCells z.cells (grownCap w ys.length 0 e - ys.length))
          simpa using this
        obtain ⟨κ',hκ⟩:=make [] us (grownCap w ys.length 0 e) _ _ .nil hu6 (by simp) hu3 (by simp) hu5 (by simpa using hgc.1) hgc.2 hq1 hq2 rfl
        rw [QP,QH] at hκ
        exact ⟨_,_,κ',hr,hκ⟩
    · rcases hv with ⟨hv,_⟩ | hv
      · simp at hv
      obtain ⟨⟨k,xc,hO,hSx⟩,hx⟩:=g.own t _ hv
      obtain ⟨he,hb⟩:=hx b rfl; have hS:=hSx b rfl
      obtain ⟨hxl,hO2⟩:=hO
      rcases hO2 with ⟨hv0,_⟩ | ⟨g2,cap2,cur,T2,hv2,hhR,hh,_,hcm,hcs,htk⟩
      · simp at hv0
      simp only [Value.slice.injEq,QI,Addr.mk.injEq,and_true] at hv2
      obtain ⟨⟨rfl,rfl⟩,rfl,rfl⟩:=hv2
      dsimp only at hxl hcs htk
      have hvs:vs=xc:=by
        rw [List.drop_zero,hS] at h4
        exact h4.eq_of_length (by rw [h3,hxl])
      subst hvs
      by_cases hroom:xs.length+ys.length≤cap
      · have hfit:xs.length * ti.size+us.length≤cur.size:=by rw [hu3,hcs,← QB]; exact Nat.mul_le_mul_right _ hroom
        have hr:=bYv (P:=P) (w:=w) (ty:=tr) hty hi hhR hsr hroom hfit
        let κ':Ctx:=⟨upd κ.S b (vs++us),κ.mt,upd (upd κ.o t none) d (some ⟨er,ti.size,.slice (some ⟨b,0,none⟩) (xs.length+ys.length) cap⟩),κ.bl⟩
        have hle:κ.S.le κ'.S:=fun k=>by
          by_cases hk:k=b
          · subst hk; show κ.S k <+: upd κ.S k _ k; rw [upd_same,hS]; exact QQ _ _
          · show κ.S k <+: upd κ.S b _ k; rw [jI _ _ _ hk]; exact QC _
        refine ⟨_,_,κ',hr,fin κ' _ _ hle (fun _=>rfl) (fun k h1 h2=>by show upd (upd κ.o t none) d _ k=_; rw [jI _ _ _ h2,jI _ _ _ h1]) (upd_same _ _ _) ?_ fun hbx=>?_⟩
        · refine .sl _ 0 _ cap ti.size (xs++ys) (vs++us) (by simp) hroom hcm (by simp [h3,hu3,QB]) ?_ (fun x hx=>?_) ?_
          · show vs++us <+: (upd κ.S b _ b).drop 0
            rw [upd_same]; exact QC _
          · rcases QL.1 hx with hx | hx
            · exact h5 x hx
            · exact hu5 x hx
          · rw [QM]; exact (h6.append hu6).mono hle
        · refine g.grow (gb:=b) (cells:=vs++us) (k:=xs.length+ys.length) rfl rfl rfl (by simp) (fun k _ hk=>setRow_other w b k _ hk) rfl (by rw [hS]; exact QQ _ _) he ?_ rfl hb (fun t' o hne ho' he'=>hne (g.ownInj t' t o _ b ho' hv he' rfl)) hbx
          have hsz':(cur.toList.take (xs.length * ti.size)++us++cur.toList.drop (xs.length * ti.size+us.length)).toArray.size=cur.size:=by
            simp only [QE,QR,QS,QT,QF]
            omega
          refine ⟨by simp [h3,hu3,QB],.inr ⟨b,cap,_,T2,rfl,hhR.set hsz',fun he=>setRow_heap w b cur _ er _ (hh he),hroom,hcm,?_,?_⟩⟩
          · simp only [QE,QR,QS,QT,QF]
            omega
          · rw [htk]
            have:(vs++us).length=(xs.length+ys.length) * ti.size:=by simp [h3,hu3,QB]
            rw [← this]; exact QN
      · have holds:∀ j u,vs[j]?=some u→w.cell? ((⟨b,0,none⟩:Addr).add j)=some u:=g.cells h4
        have hr:=aP7 (P:=P) (w:=w) (ty:=tr) (olds:=vs) hty hi hz (run_firstCells_some (P:=P) w.drew ti.size xs.length ⟨b,0,none⟩ xs.length cap vs h3 (by simpa using holds)) hsr (by omega) (by omega) (growslice_fits (by omega) hmax)
        have hgc:=aHk (w:=w) (need:=xs.length+ys.length) (old:=cap) (e:=e) hlen
        have hq1:(vs.toArray++us.toArray++Builtin.zeroCells z.cells (grownCap w (xs.length+ys.length) cap e - (xs.length+ys.length))).size=grownCap w (xs.length+ys.length) cap e * ti.size:=by
          simp only [QX,QE,size_zeroCells,hzs,h3,hu3,← QB]
          congr 1; omega
        have hq2:=takes vs.toArray us.toArray (vs++us) ((xs.length+ys.length) * ti.size) (by simp) (by simp [h3,hu3,QB]) (Builtin.zeroCells z.cells (grownCap w (xs.length+ys.length) cap e - (xs.length+ys.length)))
        obtain ⟨κ',hκ⟩:=make vs us (grownCap w (xs.length+ys.length) cap e) _ _ h6 hu6 h3 hu3 h5 hu5 hgc.1 hgc.2 hq1 hq2 rfl
        exact ⟨_,_,κ',hr,hκ⟩
end
end Go.Ab
