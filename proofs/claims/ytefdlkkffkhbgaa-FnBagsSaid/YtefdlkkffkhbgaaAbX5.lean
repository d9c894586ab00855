/- Rows of data that nobody else sees: steps. -/
import Derived.Test.YtefdlkkffkhbgaaAbX1
namespace Go.Ab
open Go Go.RowKit
section
variable {P : Program} {K : St → Prop} {KD : List Ev → St → Prop} {rest : List AOp} {acc : List Ev} {s : St} {α β : Type} {r : β} {d : Nat}
theorem vop_iaS {n sz : Nat} {k : IntKind} {xo io : AO} {l : List α} {f : α → List D} {i : Int} {y : α} (hy : idx l i = some y) (hb : bget s.bx n = some [.trs sz (l.map f)]) (hn : (conds s [xo, io]).all id = true) (h1 : (ev s xo).str = .tre n) (h2 : (ev s io).str = .d (.i k i)) :
    vop s (fun v => v = .trp n sz i.toNat 0) (.ia d sz xo io) := by
  obtain ⟨h0, hg⟩ := idx_get hy
  simp only [vop]
  refine use_str (all_l hn) (use_str (all_l (all_r hn)) ?_)
  rw [h1, h2]
  exact ⟨h0, .inr ⟨_, hb, by rw [List.length_map]; exact (List.getElem?_eq_some_iff.1 hg).1⟩, rfl⟩
theorem vop_ldS {n sz off m : Nat} {agg : Bool} {xo : AO} {l : List α} {f g : α → List D} {j : Int} {y : α} {v : V} (hy : idx l j = some y) (hfg : ∀ x, f x = g x) (hb : bget s.bx n = some [.trs sz (l.map f)]) (hn : (conds s [xo]).all id = true) (hx : (ev s xo).str = .trp n sz j.toNat off) (hv : loadDE m agg ((g y).drop off) = some v) :
    vop s (fun y => y = v) (.ld d m agg xo) := by
  simp only [vop]
  refine use_str (all_l hn) ?_
  rw [hx]
  exact .inr ⟨_, _, hb, by rw [List.getElem?_map, (idx_get hy).2]; rfl, by rw [hfg]; exact loadDE_ok hv rfl⟩
theorem setS {l : List α} {f : α → List D} {j : Int} {v : α} {y : List α} {m : Nat} (h : setG l j v = some y) (hl : ∀ x, (f x).length = m) : ∃ x, (l.map f)[j.toNat]? = some (f x) ∧ (l.map f).set j.toNat ((f x).take 0 ++ f v ++ (f x).drop (0 + m)) = y.map f := by
  unfold setG at h
  split at h
  · rename_i h0
    simp only [Option.some.injEq] at h
    subst h
    refine ⟨l[j.toNat]'h0.2, by rw [List.getElem?_map, List.getElem?_eq_getElem h0.2]; rfl, ?_⟩
    rw [List.take_zero, List.nil_append, Nat.zero_add, List.drop_of_length_le (by rw [hl]; exact Nat.le_refl _), List.append_nil, List.map_set]
  · simp at h
theorem solid_use {v : V} (h : v.solid = true) {C : V → Prop} (hC : C v) : use v C := by
  cases v <;> first | exact hC | simp [V.solid] at h
theorem stS_step {n sz m : Nat} {xo yo : AO} {l : List α} {f : α → List D} {j : Int} {v : α} {kF : List α → Option β} {S' : List α → St} (h : (setG l j v >>= kF) = some r) (hx : ev s xo = .trp n sz j.toNat 0) (hb : bget s.bx n = some [.trs sz (l.map f)]) (hl : ∀ x, (f x).length = m) (hy : (ev s yo).solid = true)
    (hv : V.asDs (ev s yo).cells = some (f v)) (hS : ∀ y : List α, (⟨s.env, setBox s.bx n [.trs sz (y.map f)]⟩ : St) = S' y) (hk : ∀ y, kF y = some r → aops P K rest (S' y)) : aops P K (.st m xo yo :: rest) s := by
  cases hm : setG l j v with
  | none => rw [hm] at h; simp at h
  | some y =>
    rw [hm] at h
    obtain ⟨x, h1, h2⟩ := setS hm hl
    show aop P s (aops P K rest) (.st m xo yo)
    simp only [aop]
    rw [hx]
    exact solid_use hy (.inr ⟨_, _, _, hb, h1, hy, hv, hl v, by rw [hl]; omega, by rw [h2, hS]; exact hk y h⟩)
def evTS (s : St) (m : Nat) (x y : AO) (n sz : Nat) (l l' : List (List D)) : Ev := { o := .st m x y, rt := valsOf s (x.rd ++ y.rd), rb := [(n, [.trs sz l])], wr := [(n, [.trs sz l'])] }
theorem dstS_step {n sz m : Nat} {xo yo : AO} {l : List α} {f : α → List D} {j : Int} {v : α} {kF : List α → Option β} {S' : List α → St} (h : (setG l j v >>= kF) = some r) (hx : ev s xo = .trp n sz j.toNat 0) (hb : bget s.bx n = some [.trs sz (l.map f)]) (hl : ∀ x, (f x).length = m) (hy : (ev s yo).solid = true)
    (hv : V.asDs (ev s yo).cells = some (f v)) (hS : ∀ y : List α, eff (evTS s m xo yo n sz (l.map f) (y.map f)) s = S' y) (hk : ∀ y, kF y = some r → dgo P KD rest (evTS s m xo yo n sz (l.map f) (y.map f) :: acc) (S' y)) : dgo P KD (.st m xo yo :: rest) acc s := by
  cases hm : setG l j v with
  | none => rw [hm] at h; simp at h
  | some y =>
    rw [hm] at h
    obtain ⟨x, h1, h2⟩ := setS hm hl
    refine ⟨_, rfl, ?_, ⟨rt_rd, fun p hp => ?_, fun p hp => ?_⟩, by rw [hS]; exact hk y h⟩
    · intro s' hrd hg
      have hag : Agree s s' (xo.rd ++ yo.rd) [] := ⟨rt_of hrd.rt, fun p hp => by simp at hp⟩
      show aop P s' _ (.st m xo yo)
      simp only [aop]
      rw [hag.l.ev, hag.r.ev, hx]
      exact solid_use hy (.inr ⟨_, _, _, hrd.rb (n, _) (by simp [evTS]), h1, hy, hv, hl v, by rw [hl]; omega, by rw [h2]; rfl⟩)
    · simp [evTS] at hp; subst hp; exact hb
    · simp [evTS] at hp; subst hp; simp [hb]
/-! a function value is called, plain, in an open order -/
theorem evCv_ok {g : FuncId} {fo : AO} {caps args : List V} {xs : List AO} {v : V} (hfn : ev s fo = .fn g caps) (hgo : goFc P g = true) (hg : ACalls P g args [] fun x _ => x = v) (hargs : weaks (xs.map (ev s) ++ caps) = args) (hcl : V.closeds args = true) (hv : v.closed = true) :
    EvOk P (evV s (.callv (some d) fo xs) v) := by
  intro s' hrd _
  have e : (fo :: xs).map (ev s') = (fo :: xs).map (ev s) := Agree.evs (B := []) ⟨rt_of hrd.rt, fun p hp => by simp at hp⟩
  simp only [List.map_cons, List.cons.injEq] at e
  show aop P s' _ (.callv (some d) fo xs)
  simp only [aop, e.1, e.2, hfn]
  refine .inl ⟨hgo, callK_pure hg hargs hcl fun x b hx => ?_⟩
  subst hx
  exact ⟨hv, by rw [evV_eff (d := d) rfl]; rfl⟩
theorem dcallv_step {g : FuncId} {fo : AO} {xs : List AO} {caps args : List V} {m : Option α} {v' : α → V} {kF : α → Option β} (h : (m >>= kF) = some r) (hfn : ev s fo = .fn g caps) (hgo : goFc P g = true) (hg : ∀ y, m = some y → ACalls P g args [] fun x _ => x = v' y)
    (hargs : weaks (xs.map (ev s) ++ caps) = args) (hcl : V.closeds args = true) (hv : ∀ y, (v' y).closed = true) (hk : ∀ y, kF y = some r → dgo P KD rest (evV s (.callv (some d) fo xs) (v' y) :: acc) (s.put d (v' y))) : dgo P KD (.callv (some d) fo xs :: rest) acc s := by
  cases m with
  | none => simp at h
  | some y => exact ⟨_, rfl, evCv_ok hfn hgo (hg y rfl) hargs hcl (hv y), evV_rd, by rw [evV_eff (o := .callv (some d) fo xs) rfl]; exact hk y h⟩
/-! append under a guard: what comes of it is data -/
theorem gapp_step {j : Nat} {want p b : Bool} {e e' : TypeId} {sz by' t : Nat} {xo yo : AO} {l m : List α} {f : α → List D} {dflt : List α} {kF : List α → Option β} (h : ((if (p && (b == want)) = true then appG by' l m else some dflt) >>= kF) = some r) (hb : bval (lk s.env j) = some (p, b))
    (hx : (ev s xo).str = .osl t e' sz (l.map f)) (he : (e' == e || e' == XE) = true) (hy : srV (ev s yo).str = some (sz, m.map f)) (hn : (p && (b == want)) = true → (conds s [xo, yo]).all id = true) (hf : ((s.dn t).fresh d && (s.dn t).clean t) = true)
    (hk : ∀ y, kF y = some r → aops P K rest ((s.dn t).put d (.ite (p && (b == want)) (.d (.sl sz (y.map f)))))) : aops P K (.g j want (.app d e sz by' xo yo) :: rest) s := by
  obtain ⟨y, hy', hm⟩ := guard_cases h
  show aop P s (aops P K rest) (.g j want (.app d e sz by' xo yo))
  simp only [aop]
  refine bval_ok hb ⟨t, e', l.map f, .d (.sl sz (y.map f)), fun hc => ?_, hk y hy'⟩
  have h1 := hm hc
  unfold appG at h1
  split at h1
  · rename_i h0
    simp only [Option.some.injEq] at h1
    subst h1
    rw [Bool.and_eq_true] at hf
    rw [Bool.or_eq_true, beq_iff_eq, beq_iff_eq] at he
    exact use_str (all_l (hn hc)) ⟨hx, use_str (all_l (all_r (hn hc))) (srV_ok hy ⟨rfl, he, by simpa using h0, hf.1, hf.2, by rw [List.map_append]⟩)⟩
  · simp at h1
def evGA (s : St) (o : AOp) (d t : Nat) (r : V) (tt tb : List Nat) : Ev := { o := o, d := some d, r := r, rt := valsOf s o.rd, T := [t], tt := tt, tb := tb, fr := [d] }
theorem dgapp_step {j : Nat} {want p b : Bool} {e e' : TypeId} {sz by' t : Nat} {xo yo : AO} {l m : List α} {f : α → List D} {dflt : List α} {kF : List α → Option β} {S' : List α → St} (tt tb : List Nat) (h : ((if (p && (b == want)) = true then appG by' l m else some dflt) >>= kF) = some r) (hb : bval (lk s.env j) = some (p, b))
    (hx : (ev s xo).str = .osl t e' sz (l.map f)) (he : (e' == e || e' == XE) = true) (hy : srV (ev s yo).str = some (sz, m.map f)) (hn : (p && (b == want)) = true → (conds s [xo, yo]).all id = true)
    (hS : ∀ y : List α, eff (evGA s (.g j want (.app d e sz by' xo yo)) d t (.ite (p && (b == want)) (.d (.sl sz (y.map f)))) tt tb) s = S' y)
    (hk : ∀ y, kF y = some r → dgo P KD rest (evGA s (.g j want (.app d e sz by' xo yo)) d t (.ite (p && (b == want)) (.d (.sl sz (y.map f)))) tt tb :: acc) (S' y)) : dgo P KD (.g j want (.app d e sz by' xo yo) :: rest) acc s := by
  obtain ⟨y, hy', hm⟩ := guard_cases h
  refine ⟨evGA s (.g j want (.app d e sz by' xo yo)) d t (.ite (p && (b == want)) (.d (.sl sz (y.map f)))) tt tb, rfl, ?_, ⟨rt_rd, fun p hp => by simp [evGA] at hp, fun p hp => by simp [evGA] at hp⟩, by rw [hS]; exact hk y hy'⟩
  intro s' hrd hg
  have hag : Agree s s' (xo.rd ++ yo.rd) [] := ⟨fun t ht => rt_of hrd.rt t (by simp only [AOp.rd, List.mem_cons]; exact .inr ht), fun p hp => by simp at hp⟩
  have hj : lk s'.env j = lk s.env j := rt_of hrd.rt j (by simp [AOp.rd])
  show aop P s' _ (.g j want (.app d e sz by' xo yo))
  simp only [aop]
  rw [hj, hag.l.ev, hag.r.ev]
  refine bval_ok hb ⟨t, e', l.map f, .d (.sl sz (y.map f)), fun hc => ?_, rfl⟩
  have h1 := hm hc
  unfold appG at h1
  split at h1
  · rename_i h0
    simp only [Option.some.injEq] at h1
    subst h1
    rw [Bool.or_eq_true, beq_iff_eq, beq_iff_eq] at he
    exact use_str (all_l (hn hc)) ⟨hx, use_str (all_l (all_r (hn hc))) (srV_ok hy ⟨rfl, he, by simpa using h0, hg.fr d (by simp [evGA]), hg.cl t (by simp [evGA]), by rw [List.map_append]⟩)⟩
  · simp at h1
/-- a new row of data of the name d -/
def evRS (s : St) (o : AOp) (d : Nat) (rd : List Nat) (sz : Nat) (l : List (List D)) (dead : List Nat) : Ev := { o := o, d := some d, r := .tre d, rt := valsOf s rd, rb := rbOf s dead, wr := dead.map fun m => (m, [.trd]), nw := [(d, [.trs sz l])], fr := [d] }
theorem evRS_rd {o : AOp} {rd : List Nat} {sz : Nat} {l : List (List D)} {dead : List Nat} (h : ∀ m ∈ dead, (bget s.bx m).isSome = true) : Rd (evRS s o d rd sz l dead) s := by
  have := evR_rd (o := o) (d := d) (rd := rd) (sz := sz) (l := l) h
  exact ⟨this.rt, this.rb, this.wr⟩
theorem evRS_eff {s' : St} {o : AOp} {rd : List Nat} {sz : Nat} {l : List (List D)} {dead : List Nat} : (⟨(d, .tre d) :: s'.env, (d, [.trs sz l]) :: kill s'.bx dead⟩ : St) = eff (evRS s o d rd sz l dead) s' := by
  rw [← kill_setBs]; rfl
theorem elemsE_congr {s s' : St} {sz : Nat} : ∀ {xs : List AO} {l : List (List D)}, elemsE s sz xs = some l → xs.map (ev s') = xs.map (ev s) → elemsE s' sz xs = some l
  | [], _, h, _ => h
  | x :: r, l, h, he => by
    simp only [List.map_cons, List.cons.injEq] at he
    simp only [elemsE] at h ⊢
    rw [he.1]
    split at h
    · rename_i hc
      rw [if_pos hc]
      split at h
      · rename_i h1 h2
        rw [h1, elemsE_congr h2 he.2]
        exact h
      · simp at h
    · simp at h
theorem bslS_step {e sz : Nat} {xs : List AO} {l : List α} {f g : α → List D} {s' : St} (hl : elemsE s sz xs = some (l.map g)) (hfg : ∀ x, f x = g x) (hd : s.fresh d = true) (hS : (⟨(d, .tre d) :: s.env, (d, [.trs sz (l.map f)]) :: s.bx⟩ : St) = s')
    (hk : aops P K rest s') : aops P K (.bsl d e sz xs :: rest) s := by
  have : l.map g = l.map f := List.map_congr_left fun x _ => (hfg x).symm
  rw [this] at hl
  exact .inr (.inr ⟨hd, elemsE_ok hl (by rw [hS]; exact hk)⟩)
theorem dbslS_step {e sz : Nat} {xs : List AO} {l : List α} {f g : α → List D} {s' : St} (hl : elemsE s sz xs = some (l.map g)) (hfg : ∀ x, f x = g x) (hS : eff (evRS s (.bsl d e sz xs) d (xs.flatMap AO.rd) sz (l.map f) []) s = s')
    (hk : dgo P KD rest (evRS s (.bsl d e sz xs) d (xs.flatMap AO.rd) sz (l.map f) [] :: acc) s') : dgo P KD (.bsl d e sz xs :: rest) acc s := by
  have : l.map g = l.map f := List.map_congr_left fun x _ => (hfg x).symm
  rw [this] at hl
  refine ⟨evRS s (.bsl d e sz xs) d (xs.flatMap AO.rd) sz (l.map f) [], rfl, ?_, evRS_rd (fun m hm => absurd hm List.not_mem_nil), by rw [hS]; exact hk⟩
  intro s2 hrd hg
  have e1 : xs.map (ev s2) = xs.map (ev s) := Agree.evs (B := []) ⟨rt_of hrd.rt, fun p hp => by simp at hp⟩
  exact .inr (.inr ⟨hg.fr d (by simp [evRS]), elemsE_ok (elemsE_congr hl e1) (evRS_eff (dead := []) (rd := xs.flatMap AO.rd) : (⟨(d, .tre d) :: s2.env, (d, [.trs sz (l.map f)]) :: s2.bx⟩ : St) = _)⟩)
theorem ssrc_dead {sz : Nat} {x : V} {l : List (List D)} {N : List Nat} (h : ssrc s sz x = some (l, N)) : ∀ m ∈ N, (bget s.bx m).isSome = true := by
  unfold ssrc at h
  split at h
  · split at h <;> simp at h
    rw [h.2]; simp
  · split at h
    · rename_i hb
      split at h <;> simp at h
      rw [← h.2]; simp [hb]
    · simp at h
  · simp at h
theorem ssrc_congr {s' : St} {sz : Nat} {x : V} {l : List (List D)} {N : List Nat} (h : ssrc s sz x = some (l, N)) (hd : ∀ m ∈ N, bget s'.bx m = bget s.bx m) : ssrc s' sz x = some (l, N) := by
  unfold ssrc at h ⊢
  split at h
  · exact h
  · split at h
    · rename_i hb
      split at h <;> simp at h
      rename_i e
      obtain ⟨rfl, rfl⟩ := h
      rw [hd _ (by simp), hb]
      simp [e]
    · simp at h
  · simp at h
theorem appS_step {e sz by' : Nat} {xo yo : AO} {l m : List α} {f : α → List D} (N1 : List Nat) {kF : List α → Option β} {S' : List α → St} (h : (appG by' l m >>= kF) = some r) (hc : ((ev s xo).cond.isEmpty && (ev s yo).cond.isEmpty) = true) (hx : ssrc s sz (ev s xo) = some (l.map f, N1)) (hy : srV (ev s yo) = some (sz, m.map f))
    (hd : (s.fresh d && deadOk d N1) = true) (hS : ∀ y : List α, (⟨(d, .tre d) :: s.env, (d, [.trs sz (y.map f)]) :: kill s.bx N1⟩ : St) = S' y) (hk : ∀ y, kF y = some r → aops P K rest (S' y)) : aops P K (.app d e sz by' xo yo :: rest) s := by
  unfold appG at h
  split at h
  · rename_i h0
    rw [Bool.and_eq_true] at hd hc
    obtain ⟨h1, h2⟩ := deadOk_ok hd.2
    show aop P s (aops P K rest) (.app d e sz by' xo yo)
    simp only [aop]
    exact use_self hc.1 (use_self hc.2 (.inr (.inr ⟨_, _, hx, srV_ok hy ⟨rfl, h2, by simpa using h0, hd.1, by rw [← List.map_append, hS]; exact hk _ h⟩⟩)))
  · simp at h
theorem dappS_step {e sz by' : Nat} {xo yo : AO} {l m : List α} {f : α → List D} (N1 : List Nat) {kF : List α → Option β} {S' : List α → St} (h : (appG by' l m >>= kF) = some r) (hc : ((ev s xo).cond.isEmpty && (ev s yo).cond.isEmpty) = true) (hx : ssrc s sz (ev s xo) = some (l.map f, N1)) (hy : srV (ev s yo) = some (sz, m.map f))
    (hd : deadOk d N1 = true) (hS : ∀ y : List α, eff (evRS s (.app d e sz by' xo yo) d (xo.rd ++ yo.rd) sz (y.map f) N1) s = S' y) (hk : ∀ y, kF y = some r → dgo P KD rest (evRS s (.app d e sz by' xo yo) d (xo.rd ++ yo.rd) sz (y.map f) N1 :: acc) (S' y)) : dgo P KD (.app d e sz by' xo yo :: rest) acc s := by
  unfold appG at h
  split at h
  · rename_i h0
    rw [Bool.and_eq_true] at hc
    obtain ⟨h1, h2⟩ := deadOk_ok hd
    refine ⟨evRS s (.app d e sz by' xo yo) d (xo.rd ++ yo.rd) sz ((l ++ m).map f) N1, rfl, ?_, evRS_rd (ssrc_dead hx), by rw [hS]; exact hk _ h⟩
    intro s2 hrd hg
    have hag : Agree s s2 (xo.rd ++ yo.rd) [] := ⟨rt_of hrd.rt, fun p hp => by simp at hp⟩
    have hget : ∀ m ∈ N1, bget s2.bx m = bget s.bx m := evR_get (o := .app d e sz by' xo yo) (d := d) (rd := xo.rd ++ yo.rd) (sz := sz) (l := (l ++ m).map f) (ssrc_dead hx) ⟨hrd.rt, hrd.rb, hrd.wr⟩
    show aop P s2 _ (.app d e sz by' xo yo)
    simp only [aop]
    rw [hag.l.ev, hag.r.ev]
    refine use_self hc.1 (use_self hc.2 (.inr (.inr ⟨_, _, ssrc_congr hx hget, srV_ok hy ⟨rfl, h2, by simpa using h0, hg.fr d (by simp [evRS]), ?_⟩⟩)))
    rw [← List.map_append]; exact evRS_eff
  · simp at h
end
end Go.Ab
