/- Soundness of the operations that change no memory,one by one. -/
import Derived.Test.YtcbkkemcgcdhdaaGreatAb5
namespace Go.Ab
open Go Go.RowKit
open _root_.Option renaming map_eq_some_iff→QA
open _root_.Int renaming mul_nonneg→QB,tmod_nonneg→QI,tmod_eq_emod_of_nonneg→QJ,emod_nonneg→QK,mul_ediv_add_emod→QL,lt_or_gt_of_ne→QM,ediv_nonpos_of_nonneg_of_nonpos→QN,mul_nonneg_of_nonpos_of_nonpos→QO,ediv_nonneg→QP
open Go.IntKind renaming min→QC,max→QD,signed→QE,bits→QF
open _root_.Bool renaming false_eq_true→QG
open _root_.List renaming drop_drop→QH
open _root_.Array renaming ext'→QQ
section
variable {E:Entry} {N:Nat} {κ:Ctx} {w:World} {a:Act} {s:St} {P:Program} {C:V→Prop}
def Yields (P:Program) (κ:Ctx) (w:World) (r:Sem Next) (C:V→Prop):Prop:=∃ v x,r.run P w=.ok (.value v) w∧aR κ v x∧C x
theorem Yields.val {r:Sem Value} {v:Value} {x:V} (h:r.run P w=.ok v w) (hr:aR κ v x) (hC:C x):Yields P κ w (do pure (.value (← r))) C :=
  ⟨v,x,by simp [h],hr,hC⟩
theorem aV3 (k:IntKind) (n:Int):k.min≤k.wrap n∧k.wrap n≤k.max:=by
  have key:∀ (c:Prop) [Decidable c] (x y lo hi:Int),(c→lo≤x∧x≤hi)→(¬ c→lo≤y∧y≤hi)→lo≤(if c then x else y)∧(if c then x else y)≤hi:=by
    intro c _ x y lo hi h1 h2
    split
    · exact h1 ‹_›
    · exact h2 ‹_›
  cases k <;> simp only [QC,QD,IntKind.wrap,QE,QF] <;> refine key _ _ _ _ _ (fun h=>?_) (fun h=>?_) <;> simp at h ⊢ <;> omega
theorem aL6 {n:Nat} (h:n≤maxLen):IntKind.i64.min≤(n:Int)∧(n:Int)≤IntKind.i64.max:=by
  simp only [maxLen] at h
  simp only [QC,QD,QE,QF,if_true]
  omega
theorem aM1 (u:UInt8):IntKind.u8.min≤(u.toNat:Int)∧(u.toNat:Int)≤IntKind.u8.max:=by
  have:=u.toNat_lt
  simp only [QC,QD,QE,QF,QG,if_false]
  omega
theorem bR.int (k:IntKind) {n:Int} (h:k.min≤n∧n≤k.max):bR κ.S (.int k n) (.i k n):=.i k n h.1 h.2
theorem cGp {k:IntKind} {a b:Int} (h1:k.min≤a) (h2:a≤k.max):k.min≤a.tmod b∧a.tmod b≤k.max:=by
  have hmin:k.min≤0:=by cases k <;> decide
  have hmax:0≤k.max:=by cases k <;> decide
  by_cases ha:0≤a
  · have:=QI b ha
    have h3:a.tmod b≤a:=by
      rw [QJ ha]
      by_cases hb:b=0
      · subst hb; simp
      · have:=QK a hb
        have hd:=QL a b
        have hq:0≤b * (a / b):=by
          rcases QM hb with h | h
          · have:=QN ha (by omega:b≤0)
            exact QO (by omega) this
          · exact QB (by omega) (QP ha (by omega))
        omega
    omega
  · have h0:(-a).tmod b = -(a.tmod b):=Int.neg_tmod a b
    have hn:0 ≤ -a:=by omega
    have:=QI b hn
    have h3:(-a).tmod b ≤ -a:=by
      rw [QJ hn]
      by_cases hb:b=0
      · subst hb; simp
      · have:=QK (-a) hb
        have hd:=QL (-a) b
        have hq:0≤b * (-a / b):=by
          rcases QM hb with h | h
          · have:=QN hn (by omega:b≤0)
            exact QO (by omega) this
          · exact QB (by omega) (QP hn (by omega))
        omega
    omega
theorem bTh {k:IntKind} {a:Int} (m:Nat) (h1:k.min≤a) (h2:a≤k.max):k.min≤a.fdiv (2 ^ m)∧a.fdiv (2 ^ m)≤k.max:=by
  have hp:(0:Int)<2 ^ m:=Int.pow_pos (by decide)
  have hmin:k.min≤0:=by cases k <;> decide
  have hmax:0≤k.max:=by cases k <;> decide
  rw [Int.fdiv_eq_ediv_of_nonneg _ (by omega)]
  constructor
  · have:k.min≤a / 2 ^ m:=by
      rw [Int.le_ediv_iff_mul_le hp]
      have h:0≤(-k.min) * (2 ^ m - 1):=QB (by omega) (by omega)
      rw [Int.mul_sub,Int.mul_one,Int.neg_mul] at h
      omega
    exact this
  · by_cases h:a<0
    · have:=Int.ediv_neg_of_neg_of_pos h hp; omega
    · have:=Int.ediv_le_self (2 ^ m) (by omega:0≤a); omega
theorem cI2 {op:BinOp} {k k':IntKind} {x y:Int} {C:D→Prop} (T:TypeId) (hk:k=k'∨op=.shl∨op=.shr) (h1:k.min≤x) (h2:x≤k.max) (h:aJi op k x y C) :
    ∃ v d,(binOp op T (.int k x) (.int k' y)).run P w=.ok v w∧bR κ.S v d∧C d:=by
  have fin:∀ n,C (.i k (k.wrap n))→∃ v d,(.ok (.int k (k.wrap n)) w:Result Value)=.ok v w∧bR κ.S v d∧C d:=fun n hn=>⟨_,_,rfl,bR.int k (aV3 k n),hn⟩
  have finb:∀ b,C (.b b)→∃ v d,(.ok (.bool b) w:Result Value)=.ok v w∧bR κ.S v d∧C d:=fun b hb=>⟨_,_,rfl,.b b,hb⟩
  cases op with
  | shl =>
    obtain ⟨h0,hC⟩:=h
    simp only [binOp,Op.shift,if_neg (show ¬ y<0 by omega),Sem.run_pure]
    exact fin _ hC
  | shr =>
    obtain ⟨h0,hC⟩:=h
    simp only [binOp,Op.shift,if_neg (show ¬ y<0 by omega),Sem.run_pure]
    exact ⟨_,_,rfl,bR.int k (bTh _ h1 h2),hC⟩
  | quo =>
    obtain ⟨h0,hC⟩:=h
    obtain rfl:k=k':=by simpa using hk
    simp only [binOp,Op.intDiv,if_neg h0,Sem.run_pure,ne_eq,not_true_eq_false,if_false]
    exact fin _ hC
  | rem =>
    obtain ⟨h0,hC⟩:=h
    obtain rfl:k=k':=by simpa using hk
    simp only [binOp,Op.intDiv,if_neg h0,Sem.run_pure,ne_eq,not_true_eq_false,if_false]
    exact ⟨_,_,rfl,bR.int k (cGp h1 h2),hC⟩
  | add | sub | mul =>
    obtain rfl:k=k':=by simpa using hk
    simp only [binOp,Op.intArith,Sem.run_pure,ne_eq,not_true_eq_false,if_false]
    exact fin _ h
  | and | or | xor | andNot =>
    obtain rfl:k=k':=by simpa using hk
    simp only [binOp,Op.intBits,Sem.run_pure,ne_eq,not_true_eq_false,if_false]
    exact fin _ h
  | eql | neq | lss | leq | gtr | geq =>
    obtain rfl:k=k':=by simpa using hk
    simp only [binOp,Op.intCmp,Sem.run_pure,ne_eq,not_true_eq_false,if_false]
    exact finb _ h
theorem bIz (x y:ByteArray):(x.toList==y.toList)=decide (x=y):=by
  by_cases h:x=y
  · subst h; simp
  · rw [decide_eq_false h,beq_eq_false_iff_ne]
    intro e
    rw [ByteArray.toList_eq,ByteArray.toList_eq] at e
    exact h (ByteArray.ext (QQ e))
theorem cFb {op:BinOp} {x y:Value} {p q:D} {C:D→Prop} (T:TypeId) (hx:bR κ.S x p) (hy:bR κ.S y q) (h:aDd op p q C) :
    ∃ v d,(binOp op T x y).run P w=.ok v w∧bR κ.S v d∧C d:=by
  unfold aDd at h
  split at h
  · cases hx with | i _ _ h1 h2=>cases hy with | i _ _ h3 h4=>exact cI2 T h.1 h1 h2 h.2
  · cases hx with | s _ h1=>cases hy with | s _ h2 =>
    have finb:∀ b,C (.b b)→∃ v d,(.ok (.bool b) w:Result Value)=.ok v w∧bR κ.S v d∧C d:=fun b hb=>⟨_,_,rfl,.b b,hb⟩
    cases op with
    | add =>
      obtain ⟨h3,hC⟩:=h
      refine ⟨_,_,?_,.s _ (by rw [ByteArray.size_append]; exact h3),hC⟩
      rename_i s1 s2
      have hn:¬ (((s1.size+s2.size:Nat):Int)>IntKind.i64.max):=by have:=(aL6 h3).2; omega
      simp only [binOp,Op.stringOp,if_neg hn,Sem.run_pure]
    | eql | neq | lss | leq | gtr | geq =>
      simp only [binOp,Op.stringOp,Sem.run_pure,bIz]
      exact finb _ h
    | _=>exact h.elim
  · exact h.elim
theorem bRh {T:TypeId} (hT:P.underlying T=some .bool) (x y:Bool) :
    ((binOp .eql T (.bool x) (.bool y)).run P w=.ok (.bool (x==y)) w)∧((binOp .neq T (.bool x) (.bool y)).run P w=.ok (.bool (!(x==y))) w):=by
  have h:=run_equal_bool (P:=P) w T x y hT
  constructor
  · simp only [binOp]; simp [h]
  · simp only [binOp]; simp [h]
theorem aT8 {op:BinOp} {T:TypeId} {x y:Operand} {u v:Value} (h:∀ c,u≠.agg c) (h':u≠.nilIface):(eqGuard op T x y u v).run P w=.ok () w:=by
  unfold eqGuard
  cases u with
  | agg c=>exact absurd rfl (h c)
  | nilIface=>exact absurd rfl h'
  | _=>cases op <;> rfl
def aC8 (P:Program):Nat→List Field→Option (List Nat)
  | _,[]=>some []
  | n,f::fs =>
    if f.name != "_"&&f.offset==n then
      match P.underlying f.type,aC8 P (n+1) fs with
      | some (.int _),some l=>some (0::l)
      | some .string,some l=>some (1::l)
      | some .bool,some l=>some (2::l)
      | _,_=>none
    else none
theorem bIi {d:Nat} {fs:List Field} {n:Nat} {ks:List Nat} (hf:aC8 P n fs=some ks) {xs ys:List Value} {l m:List D} {r:Bool} (hx:bP κ.S (xs.drop n) l) (hy:bP κ.S (ys.drop n) m)
    (h:nY ks l m=some r):(Op.eqFields (d+1) xs.toArray ys.toArray fs).run P w=.ok r w:=by
  induction fs generalizing n l m r ks with
  | nil =>
    simp [aC8] at hf; subst hf
    cases l <;> cases m <;> simp [nY] at h
    subst h; rfl
  | cons f fs ih =>
    simp only [aC8] at hf
    split at hf
    case isFalse=>simp at hf
    rename_i hno
    simp only [Bool.and_eq_true,bne_iff_ne,ne_eq,beq_iff_eq] at hno
    obtain ⟨hname,hoff⟩:=hno
    have main:∀ (p q:D) (l' m':List D) (kk:List Nat),l=p::l'→m=q::m'→aC8 P (n+1) fs=some kk→(isAgg f.type).run P w=.ok false w→∃ u v,bR κ.S u p∧bR κ.S v q ∧
        ∀ b r',(Op.equalIn (d+1) f.type u v).run P w=.ok b w→nY kk l' m'=some r'→(Op.eqFields (d+1) xs.toArray ys.toArray (f::fs)).run P w=.ok (b&&r') w:=by
      rintro p q l' m' kk rfl rfl hkk hna
      obtain ⟨u,hu,hur⟩:=hx.get (n:=0) (x:=p) rfl
      obtain ⟨v,hv,hvr⟩:=hy.get (n:=0) (x:=q) rfl
      simp only [List.getElem?_drop,Nat.add_zero] at hu hv
      refine ⟨u,v,hur,hvr,fun b r' hb hr'=>?_⟩
      have hx':bP κ.S (xs.drop (n+1)) l':=by have:=hx.drop 1; simpa [QH] using this
      have hy':bP κ.S (ys.drop (n+1)) m':=by have:=hy.drop 1; simpa [QH] using this
      have hp1:(part f.type xs.toArray f.offset).run P w=.ok u w:=by simp [part,hna,hoff,hu]
      have hp2:(part f.type ys.toArray f.offset).run P w=.ok v w:=by simp [part,hna,hoff,hv]
      simp only [Op.eqFields,ne_eq,hname,not_false_eq_true,if_true,Sem.run_bind,hp1,hp2,Result.andThen_ok,hb,Sem.run_ite]
      cases b
      · simp
      · simp only [Bool.not_true,QG,if_false,Bool.true_and]
        exact ih hkk hx' hy' hr'
    have agg:∀ t,P.underlying f.type=some t→(∀ fs,t≠.struct fs)→(∀ n e,t≠.array n e)→(isAgg f.type).run P w=.ok false w:=by
      intro t ht h1 h2
      unfold isAgg
      cases t <;> simp [run_underlying ht] <;> first | exact absurd rfl (h1 _) | exact absurd rfl (h2 _ _)
    split at hf
    · rename_i k' kk hu hkk
      simp at hf; subst hf
      rcases l with _ | ⟨p,l'⟩ <;> rcases m with _ | ⟨q,m'⟩ <;> try (simp [nY] at h; done)
      · obtain ⟨u,v,hur,hvr,hstep⟩:=main p q l' m' kk rfl rfl hkk (agg _ hu (by simp) (by simp))
        cases p <;> cases q <;> simp only [nY,reduceCtorEq] at h
        split at h
        · rename_i hk; subst hk
          obtain ⟨r',hr',rfl⟩:=QA.1 h
          cases hur; cases hvr
          exact hstep _ _ (run_equalIn_int w d _ _ _ _ _ hu) hr'
        · simp at h
    · rename_i kk hu hkk
      simp at hf; subst hf
      rcases l with _ | ⟨p,l'⟩ <;> rcases m with _ | ⟨q,m'⟩ <;> try (simp [nY] at h; done)
      · obtain ⟨u,v,hur,hvr,hstep⟩:=main p q l' m' kk rfl rfl hkk (agg _ hu (by simp) (by simp))
        cases p <;> cases q <;> simp only [nY,reduceCtorEq] at h
        obtain ⟨r',hr',rfl⟩:=QA.1 h
        cases hur; cases hvr
        rw [← bIz]
        exact hstep _ _ (run_equalIn_string w d _ _ _ hu) hr'
    · rename_i kk hu hkk
      simp at hf; subst hf
      rcases l with _ | ⟨p,l'⟩ <;> rcases m with _ | ⟨q,m'⟩ <;> try (simp [nY] at h; done)
      · obtain ⟨u,v,hur,hvr,hstep⟩:=main p q l' m' kk rfl rfl hkk (agg _ hu (by simp) (by simp))
        cases p <;> cases q <;> simp only [nY,reduceCtorEq] at h
        obtain ⟨r',hr',rfl⟩:=QA.1 h
        cases hur; cases hvr
        exact hstep _ _ (run_equalIn_bool w d _ _ _ hu) hr'
    · simp at hf
theorem bPl {ti:TypeInfo} {t:TypeId} {n off:Nat} {agg:Bool} {l:List D} {cs:List Value} (h:mU n agg (l.drop off) C) (hr:bP κ.S cs l)
    (hn:P.info? t=some ti) (hsz:ti.size=n) (hagg:(isAgg t).run P w=.ok agg w):∃ v x,(part t cs.toArray off).run P w=.ok v w∧aR κ v x∧C x:=by
  cases agg with
  | true =>
    obtain ⟨hl,hC⟩:=h
    refine ⟨_,_,?_,.agg ((hr.drop off).take n),hC⟩
    simp only [part,Sem.run_bind,hagg,Result.andThen_ok,if_true,sizeOf,typeInfo,run_program,hn,Sem.run_pure,hsz]
    congr 2
    apply QQ
    simp [List.take_drop]
  | false =>
    obtain ⟨x,hx,hC⟩:=h
    have hx':l[off]?=some x:=by
      rw [List.head?_drop] at hx; exact hx
    obtain ⟨v,hv,hr'⟩:=hr.get hx'
    refine ⟨v,_,?_,.d hr',hC⟩
    simp [part,hagg,hv]
end
end Go.Ab
