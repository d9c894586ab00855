/- Steps: operations on trees, in order or in an open order. -/
import Derived.Test.YtefdlkkffkhbgaaAbC3
namespace Go.Ab
open Go Go.RowKit

theorem nodupB_ok : ∀ {l : List Nat}, nodupB l = true → l.Nodup
  | [], _ => by simp
  | x :: l, h => by
    obtain ⟨h1, h2⟩ := nodup_cons h
    exact List.nodup_cons.2 ⟨h1, nodupB_ok h2⟩
theorem kill_setBs : ∀ (dead : List Nat) (bx : List (Nat × List V)), setBs bx (dead.map fun m => (m, [V.trd])) = kill bx dead
  | [], _ => rfl
  | m :: dead, bx => kill_setBs dead (setBox bx m [.trd])
theorem use_self {x : V} {C : V → Prop} (hx : x.cond.isEmpty = true) (h : C x) : use x C := use_plain hx h
section
variable {P : Program} {K : St → Prop} {KD : List Ev → St → Prop} {rest : List AOp} {acc : List Ev} {s : St} {α β : Type} {r : β} {d : Nat}
/-! an element -/
def iaNs (s : St) (n : Nat) (ns : List Nat) : Bool := nodupB ns && (!ns.contains n && ns.all fun m => Nat.ble NX m && s.fresh m)
def evI (s : St) (d sz : Nat) (x i : AO) (n k : Nat) (ns : List Nat) (l : List (List D)) (ds : List D) : Ev :=
  { o := .ia d sz x i, d := some d, r := .trp n sz k 0, rt := valsOf s (x.rd ++ i.rd), rb := [(n, [.trc sz l])], wr := [(n, .tro sz k l :: (openC ns ds).1)], nw := (openC ns ds).2, fr := ns }
theorem iaT_of {s : St} {n sz : Nat} {k : IntKind} {i : Int} {ns : List Nat} {l : List (List D)} {ds : List D} {K : St → Prop} (hb : bget s.bx n = some [.trc sz l]) (h0 : 0 ≤ i) (hd : l[i.toNat]? = some ds) (h1 : ns.Nodup) (h2 : n ∉ ns) (h3 : ∀ m ∈ ns, NX ≤ m ∧ s.fresh m = true)
    (hK : K ⟨(d, .trp n sz i.toNat 0) :: s.env, (openC ns ds).2 ++ setBox s.bx n (.tro sz i.toNat l :: (openC ns ds).1)⟩) : iaT s d sz (.tre n) (.d (.i k i)) K := ⟨h0, .inl ⟨l, ds, ns, hb, hd, h1, h2, h3, hK⟩⟩
theorem idx_get {l : List α} {i : Int} {x : α} (h : idx l i = some x) : 0 ≤ i ∧ l[i.toNat]? = some x := by
  unfold idx at h
  split at h
  · rename_i h0; exact ⟨h0, h⟩
  · simp at h
theorem iat_step {n sz : Nat} {k : IntKind} {xo io : AO} {l : List α} {f g : α → List D} {i : Int} (ns : List Nat) {kF : α → Option β} {S' : α → St} (h : (idx l i >>= kF) = some r) (hx : ev s xo = .tre n) (hi : ev s io = .d (.i k i)) (hb : bget s.bx n = some [.trc sz (l.map f)]) (hfg : ∀ x, f x = g x)
    (hns : iaNs s n ns = true) (hS : ∀ y, (⟨(d, .trp n sz i.toNat 0) :: s.env, (openC ns (g y)).2 ++ setBox s.bx n (.tro sz i.toNat (l.map f) :: (openC ns (g y)).1)⟩ : St) = S' y) (hk : ∀ y, idx l i = some y → kF y = some r → aops P K rest (S' y)) : aops P K (.ia d sz xo io :: rest) s := by
  cases hm : idx l i with
  | none => rw [hm] at h; simp at h
  | some y =>
    rw [hm] at h
    obtain ⟨h0, hg⟩ := idx_get hm
    show aop P s (aops P K rest) (.ia d sz xo io)
    simp only [iaNs, Bool.and_eq_true, Bool.not_eq_true', List.contains_eq_mem, decide_eq_false_iff_not, List.all_eq_true] at hns
    refine .inr ?_
    rw [hx, hi]
    refine use_self (x := .tre n) rfl (use_self (x := .d (.i k i)) rfl (iaT_of hb h0 (ds := g y) (by rw [List.getElem?_map, hg, Option.map_some, hfg]) (nodupB_ok hns.1) hns.2.1 (fun m hm => ⟨Nat.le_of_ble_eq_true (hns.2.2 m hm).1, (hns.2.2 m hm).2⟩) ?_))
    rw [hS]; exact hk y hm h
theorem evI_ok {n sz : Nat} {k : IntKind} {xo io : AO} {i : Int} {ns : List Nat} {l : List (List D)} {ds : List D} (hx : ev s xo = .tre n) (hi : ev s io = .d (.i k i)) (h0 : 0 ≤ i) (hd : l[i.toNat]? = some ds) (h1 : nodupB ns = true) (h2 : n ∉ ns) (h3 : ∀ m ∈ ns, NX ≤ m) : EvOk P (evI s d sz xo io n i.toNat ns l ds) := by
  intro s' hrd hg
  have hag : Agree s s' (xo.rd ++ io.rd) [] := ⟨rt_of hrd.rt, fun p hp => by simp at hp⟩
  show aop P s' _ (.ia d sz xo io)
  refine .inr ?_
  rw [hag.l.ev, hag.r.ev, hx, hi]
  exact use_self (x := .tre n) rfl (use_self (x := .d (.i k i)) rfl (iaT_of (hrd.rb (n, [.trc sz l]) (by simp [evI])) h0 hd (nodupB_ok h1) h2 (fun m hm => ⟨h3 m hm, hg.fr m hm⟩) rfl))
theorem diat_step {n sz : Nat} {k : IntKind} {xo io : AO} {l : List α} {f g : α → List D} {i : Int} (ns : List Nat) {kF : α → Option β} {S' : α → St} (h : (idx l i >>= kF) = some r) (hx : ev s xo = .tre n) (hi : ev s io = .d (.i k i)) (hb : bget s.bx n = some [.trc sz (l.map f)]) (hfg : ∀ x, f x = g x)
    (hns : (nodupB ns && (!ns.contains n && ns.all fun m => Nat.ble NX m)) = true) (hS : ∀ y, eff (evI s d sz xo io n i.toNat ns (l.map f) (g y)) s = S' y) (hk : ∀ y, idx l i = some y → kF y = some r → dgo P KD rest (evI s d sz xo io n i.toNat ns (l.map f) (g y) :: acc) (S' y)) : dgo P KD (.ia d sz xo io :: rest) acc s := by
  cases hm : idx l i with
  | none => rw [hm] at h; simp at h
  | some y =>
    rw [hm] at h
    obtain ⟨h0, hg⟩ := idx_get hm
    simp only [Bool.and_eq_true, Bool.not_eq_true', List.contains_eq_mem, decide_eq_false_iff_not, List.all_eq_true] at hns
    refine ⟨evI s d sz xo io n i.toNat ns (l.map f) (g y), rfl, evI_ok (l := l.map f) (ds := g y) hx hi h0 (by rw [List.getElem?_map, hg, Option.map_some, hfg]) hns.1 hns.2.1 fun m hm => Nat.le_of_ble_eq_true (hns.2.2 m hm), ⟨rt_rd, fun p hp => ?_, fun p hp => ?_⟩, by rw [hS]; exact hk y hm h⟩
    · simp [evI] at hp; subst hp; exact hb
    · simp [evI] at hp; subst hp; simp [hb]
/-- the row is open already -/
theorem iao_step {n sz : Nat} {k : IntKind} {xo io : AO} {i : Int} {l : List (List D)} {c : List V} (hx : ev s xo = .tre n) (hi : ev s io = .d (.i k i)) (h0 : 0 ≤ i) (hb : bget s.bx n = some (.tro sz i.toNat l :: c)) (hk : aops P K rest (s.put d (.trp n sz i.toNat 0))) : aops P K (.ia d sz xo io :: rest) s := by
  show aop P s (aops P K rest) (.ia d sz xo io)
  refine .inr ?_
  rw [hx, hi]
  exact use_self (x := .tre n) rfl (use_self (x := .d (.i k i)) rfl ⟨h0, .inr ⟨l, c, hb, hk⟩⟩)
def evJ (s : St) (d sz : Nat) (x i : AO) (n k : Nat) (l : List (List D)) (c : List V) : Ev := { o := .ia d sz x i, d := some d, r := .trp n sz k 0, rt := valsOf s (x.rd ++ i.rd), rb := [(n, .tro sz k l :: c)] }
theorem diao_step {n sz : Nat} {k : IntKind} {xo io : AO} {i : Int} {l : List (List D)} {c : List V} {s' : St} (hx : ev s xo = .tre n) (hi : ev s io = .d (.i k i)) (h0 : 0 ≤ i) (hb : bget s.bx n = some (.tro sz i.toNat l :: c)) (hS : eff (evJ s d sz xo io n i.toNat l c) s = s') (hk : dgo P KD rest (evJ s d sz xo io n i.toNat l c :: acc) s') : dgo P KD (.ia d sz xo io :: rest) acc s := by
  refine ⟨_, rfl, ?_, ⟨rt_rd, fun p hp => ?_, fun p hp => ?_⟩, by rw [hS]; exact hk⟩
  · intro s' hrd hg
    have hag : Agree s s' (xo.rd ++ io.rd) [] := ⟨rt_of hrd.rt, fun p hp => by simp at hp⟩
    show aop P s' _ (.ia d sz xo io)
    refine .inr ?_
    rw [hag.l.ev, hag.r.ev, hx, hi]
    exact use_self (x := .tre n) rfl (use_self (x := .d (.i k i)) rfl ⟨h0, .inr ⟨l, c, hrd.rb (n, _) (by simp [evJ]), rfl⟩⟩)
  · simp [evJ] at hp; subst hp; exact hb
  · simp [evJ] at hp
/-! reading -/
theorem vop_ldT {n sz i off m : Nat} {agg : Bool} {xo : AO} {l : List (List D)} {c : List V} {v : V} (hx : ev s xo = .trp n sz i off) (hb : bget s.bx n = some (.tro sz i l :: c)) (hv : loadE m agg (c.drop off) = some v) : vop s (fun y => y = v) (.ld d m agg xo) := by
  simp only [vop]
  rw [hx]
  exact .inl ⟨l, c, hb, loadE_ok hv rfl⟩
theorem vop_ldTg {n sz i off m : Nat} {agg : Bool} {xo : AO} {l : List (List D)} {c : List V} {v : V} (hn : (conds s [xo]).all id = true) (hx : (ev s xo).str = .trp n sz i off) (hb : bget s.bx n = some (.tro sz i l :: c)) (hv : loadE m agg (c.drop off) = some v) : vop s (fun y => y = v) (.ld d m agg xo) := by
  simp only [vop]
  refine use_str (all_l hn) ?_
  rw [hx]
  exact .inl ⟨l, c, hb, loadE_ok hv rfl⟩
def trRows (s : St) (n : Nat) : Option (List (List D)) := match bget s.bx n with
  | some (.trc _ l :: _) => some l
  | some (.tro _ _ l :: _) => some l
  | some [.trs _ l] => some l
  | _ => none
theorem vop_lenT {n : Nat} {xo : AO} {l : List (List D)} {L : Nat} (hx : ev s xo = .tre n) (hb : trRows s n = some l) (hl : l.length = L) : vop s (fun y => y = .d (.i .i64 L)) (.len d xo) := by
  subst hl
  simp only [vop]
  rw [hx]
  show trL s n _
  unfold trRows at hb
  unfold trL
  split at hb <;> simp at hb
  · rename_i h; rw [h]; subst hb; rfl
  · rename_i h; rw [h]; subst hb; rfl
  · rename_i h; rw [h]; subst hb; rfl
/-! a store -/
theorem stt_step {n sz i off m : Nat} {xo yo : AO} {l : List (List D)} {c : List V} {s' : St} (hx : ev s xo = .trp n sz i off) (hb : bget s.bx n = some (.tro sz i l :: c)) (hy : ((ev s yo).solid && ((ev s yo).cells.length == m && Nat.ble (off + m) c.length)) = true)
    (hS : (⟨s.env, setBox s.bx n (.tro sz i l :: putCells c off (ev s yo).cells)⟩ : St) = s') (hk : aops P K rest s') : aops P K (.st m xo yo :: rest) s := by
  simp only [Bool.and_eq_true, beq_iff_eq] at hy
  show aop P s (aops P K rest) (.st m xo yo)
  simp only [aop]
  rw [hx]
  have hu : ∀ C : V → Prop, C (ev s yo) → use (ev s yo) C := by
    intro C hC
    revert hy hC; generalize ev s yo = u; intro hy hC
    cases u <;> first | exact hC | simp [V.solid] at hy
  exact hu _ (.inl ⟨l, c, hb, hy.1, hy.2.1, Nat.le_of_ble_eq_true hy.2.2, by rw [hS]; exact hk⟩)
def evT (s : St) (m : Nat) (x y : AO) (n sz i off : Nat) (l : List (List D)) (c : List V) : Ev := { o := .st m x y, rt := valsOf s (x.rd ++ y.rd), rb := [(n, .tro sz i l :: c)], wr := [(n, .tro sz i l :: putCells c off (ev s y).cells)] }
theorem dstt_step {n sz i off m : Nat} {xo yo : AO} {l : List (List D)} {c : List V} {s' : St} (hx : ev s xo = .trp n sz i off) (hb : bget s.bx n = some (.tro sz i l :: c)) (hy : ((ev s yo).solid && ((ev s yo).cells.length == m && Nat.ble (off + m) c.length)) = true)
    (hS : eff (evT s m xo yo n sz i off l c) s = s') (hk : dgo P KD rest (evT s m xo yo n sz i off l c :: acc) s') : dgo P KD (.st m xo yo :: rest) acc s := by
  simp only [Bool.and_eq_true, beq_iff_eq] at hy
  refine ⟨_, rfl, ?_, ⟨rt_rd, fun p hp => ?_, fun p hp => ?_⟩, by rw [hS]; exact hk⟩
  · intro s' hrd hg
    have hag : Agree s s' (xo.rd ++ yo.rd) [] := ⟨rt_of hrd.rt, fun p hp => by simp at hp⟩
    show aop P s' _ (.st m xo yo)
    simp only [aop]
    rw [hag.l.ev, hag.r.ev, hx]
    have hu : ∀ C : V → Prop, C (ev s yo) → use (ev s yo) C := by
      intro C hC
      clear hag hrd hg
      revert hy hC; generalize ev s yo = u; intro hy hC
      cases u <;> first | exact hC | simp [V.solid] at hy
    exact hu _ (.inl ⟨l, c, hrd.rb (n, _) (by simp [evT]), hy.1, hy.2.1, Nat.le_of_ble_eq_true hy.2.2, rfl⟩)
  · simp [evT] at hp; subst hp; exact hb
  · simp [evT] at hp; subst hp; simp [hb]
/-! new trees -/
theorem closeC_congr {bx bx' : List (Nat × List V)} : ∀ {cells : List V} {ds : List D} {dead : List Nat}, closeC bx cells = some (ds, dead) → (∀ m ∈ dead, bget bx' m = bget bx m) → closeC bx' cells = some (ds, dead)
  | [], _, _, h, _ => h
  | x :: r, ds, dead, h, hd => by
    simp only [closeC] at h ⊢
    split at h
    · simp at h
    · rename_i ds' N' he
      cases x with
      | d y =>
        simp only at h
        split at h <;> simp at h
        rename_i hf
        obtain ⟨rfl, rfl⟩ := h
        rw [closeC_congr he hd]; simp [hf]
      | nil sz =>
        simp at h
        obtain ⟨rfl, rfl⟩ := h
        rw [closeC_congr he hd]
      | tre n =>
        simp only at h
        split at h <;> simp at h
        rename_i hb
        obtain ⟨rfl, rfl⟩ := h
        rw [closeC_congr he fun m hm => hd m (by simp [hm])]
        simp only
        rw [hd n (by simp), hb]
      | _ => simp at h
theorem rowT_congr {bx bx' : List (Nat × List V)} {x : AO} {v : V} {ds : List D} {dead : List Nat} (h : rowT bx x v = some (ds, dead)) (hd : ∀ m ∈ dead, bget bx' m = bget bx m) : rowT bx' x v = some (ds, dead) := by
  unfold rowT at h ⊢
  split at h
  · exact h
  · exact closeC_congr h hd
theorem elemsT_congr {s s' : St} {sz : Nat} : ∀ {xs : List AO} {l : List (List D)} {dead : List Nat}, elemsT s sz xs = some (l, dead) → xs.map (ev s') = xs.map (ev s) → (∀ m ∈ dead, bget s'.bx m = bget s.bx m) → elemsT s' sz xs = some (l, dead)
  | [], _, _, h, _, _ => h
  | x :: r, l, dead, h, he, hd => by
    simp only [List.map_cons, List.cons.injEq] at he
    simp only [elemsT] at h ⊢
    rw [he.1]
    split at h
    · rename_i hc
      rw [if_pos hc]
      split at h <;> simp at h
      rename_i ds N' l' M' h1 h2
      obtain ⟨rfl, rfl⟩ := h
      rw [rowT_congr h1 fun m hm => hd m (List.mem_append_left _ hm), elemsT_congr h2 he.2 fun m hm => hd m (List.mem_append_right _ hm)]
    · simp at h
/-- the trees that go in are there, each once -/
def deadOk (d : Nat) (dead : List Nat) : Bool := nodupB dead && !dead.contains d
theorem deadOk_ok {d : Nat} {dead : List Nat} (h : deadOk d dead = true) : dead.Nodup ∧ d ∉ dead := by
  simp only [deadOk, Bool.and_eq_true, Bool.not_eq_true', List.contains_eq_mem, decide_eq_false_iff_not] at h
  exact ⟨nodupB_ok h.1, h.2⟩
theorem bslT_step {e sz : Nat} {xs : List AO} {l : List α} {f g : α → List D} (dead : List Nat) {s' : St} (hl : elemsT s sz xs = some (l.map g, dead)) (hfg : ∀ x, f x = g x) (hd : (s.fresh d && deadOk d dead) = true) (hS : (⟨(d, .tre d) :: s.env, (d, [.trc sz (l.map f)]) :: kill s.bx dead⟩ : St) = s')
    (hk : aops P K rest s') : aops P K (.bsl d e sz xs :: rest) s := by
  have : l.map g = l.map f := List.map_congr_left fun x _ => (hfg x).symm
  rw [this] at hl
  rw [Bool.and_eq_true] at hd
  obtain ⟨h1, h2⟩ := deadOk_ok hd.2
  exact .inr (.inl ⟨hd.1, _, _, hl, h1, h2, by rw [hS]; exact hk⟩)
def rbOf (s : St) (dead : List Nat) : List (Nat × List V) := dead.map fun m => (m, (bget s.bx m).getD [])
/-- a new tree of the name d -/
def evR (s : St) (o : AOp) (d : Nat) (rd : List Nat) (sz : Nat) (l : List (List D)) (dead : List Nat) : Ev := { o := o, d := some d, r := .tre d, rt := valsOf s rd, rb := rbOf s dead, wr := dead.map fun m => (m, [.trd]), nw := [(d, [.trc sz l])], fr := [d] }
theorem evR_rd {o : AOp} {rd : List Nat} {sz : Nat} {l : List (List D)} {dead : List Nat} (h : ∀ m ∈ dead, (bget s.bx m).isSome = true) : Rd (evR s o d rd sz l dead) s := by
  refine ⟨rt_rd, fun p hp => ?_, fun p hp => ?_⟩
  · obtain ⟨m, hm, rfl⟩ := List.mem_map.1 hp
    obtain ⟨c, hc⟩ := Option.isSome_iff_exists.1 (h m hm)
    simp [hc]
  · obtain ⟨m, hm, rfl⟩ := List.mem_map.1 hp
    exact h m hm
theorem evR_get {s' : St} {o : AOp} {rd : List Nat} {sz : Nat} {l : List (List D)} {dead : List Nat} (h : ∀ m ∈ dead, (bget s.bx m).isSome = true) (hr : Rd (evR s o d rd sz l dead) s') : ∀ m ∈ dead, bget s'.bx m = bget s.bx m := fun m hm => by
  have := hr.rb (m, (bget s.bx m).getD []) (List.mem_map.2 ⟨m, hm, rfl⟩)
  obtain ⟨c, hc⟩ := Option.isSome_iff_exists.1 (h m hm)
  rw [this, hc]; rfl
theorem evR_eff {s' : St} {o : AOp} {rd : List Nat} {sz : Nat} {l : List (List D)} {dead : List Nat} : (⟨(d, .tre d) :: s'.env, (d, [.trc sz l]) :: kill s'.bx dead⟩ : St) = eff (evR s o d rd sz l dead) s' := by
  rw [← kill_setBs]; rfl
theorem elemsT_dead {s : St} {sz : Nat} : ∀ {xs : List AO} {l : List (List D)} {dead : List Nat}, elemsT s sz xs = some (l, dead) → ∀ m ∈ dead, (bget s.bx m).isSome = true
  | [], l, dead, h => by simp [elemsT] at h; rw [h.2]; simp
  | x :: r, l, dead, h => by
    simp only [elemsT] at h
    split at h
    · split at h <;> simp at h
      rename_i ds N' l' M' h1 h2
      obtain ⟨rfl, rfl⟩ := h
      intro m hm
      rcases List.mem_append.1 hm with hm | hm
      · rcases rowT_other h1 with ⟨_, _, e⟩ | h1
        · simp only [Prod.mk.injEq] at e; rw [e.2] at hm; simp at hm
        · exact closeC_dead h1 m hm
      · exact elemsT_dead h2 m hm
    · simp at h
where
  closeC_dead {bx : List (Nat × List V)} : ∀ {cells : List V} {ds : List D} {dead : List Nat}, closeC bx cells = some (ds, dead) → ∀ m ∈ dead, (bget bx m).isSome = true
  | [], _, _, h => by simp [closeC] at h; rw [h.2]; simp
  | x :: r, ds, dead, h => by
    simp only [closeC] at h
    split at h
    · simp at h
    · rename_i ds' N' he
      have ih := closeC_dead he
      cases x with
      | d y =>
        simp only at h
        split at h <;> simp at h
        obtain ⟨rfl, rfl⟩ := h; exact ih
      | nil sz =>
        simp at h
        obtain ⟨rfl, rfl⟩ := h; exact ih
      | tre n =>
        simp only at h
        split at h <;> simp at h
        rename_i hb
        obtain ⟨rfl, rfl⟩ := h
        intro m hm
        rcases List.mem_cons.1 hm with rfl | hm
        · simp [hb]
        · exact ih m hm
      | _ => simp at h
theorem dbslT_step {e sz : Nat} {xs : List AO} {l : List α} {f g : α → List D} (dead : List Nat) {s' : St} (hl : elemsT s sz xs = some (l.map g, dead)) (hfg : ∀ x, f x = g x) (hd : deadOk d dead = true) (hS : eff (evR s (.bsl d e sz xs) d (xs.flatMap AO.rd) sz (l.map f) dead) s = s')
    (hk : dgo P KD rest (evR s (.bsl d e sz xs) d (xs.flatMap AO.rd) sz (l.map f) dead :: acc) s') : dgo P KD (.bsl d e sz xs :: rest) acc s := by
  have : l.map g = l.map f := List.map_congr_left fun x _ => (hfg x).symm
  rw [this] at hl
  obtain ⟨h1, h2⟩ := deadOk_ok hd
  refine ⟨_, rfl, ?_, evR_rd (elemsT_dead hl), by rw [hS]; exact hk⟩
  intro s2 hrd hg
  have e1 : xs.map (ev s2) = xs.map (ev s) := Agree.evs (B := []) ⟨rt_of hrd.rt, fun p hp => by simp at hp⟩
  exact .inr (.inl ⟨hg.fr d (by simp [evR]), _, _, elemsT_congr hl e1 (evR_get (elemsT_dead hl) hrd), h1, h2, evR_eff⟩)
/-! appends -/
theorem tsrc_dead {sz : Nat} {x : V} {l : List (List D)} {N : List Nat} (h : tsrc s sz x = some (l, N)) : ∀ m ∈ N, (bget s.bx m).isSome = true := by
  unfold tsrc at h
  split at h
  · split at h <;> simp at h
    rw [h.2]; simp
  · split at h
    · rename_i hb
      split at h <;> simp at h
      rw [← h.2]; simp [hb]
    · simp at h
  · simp at h
theorem tsrc_congr {s' : St} {sz : Nat} {x : V} {l : List (List D)} {N : List Nat} (h : tsrc s sz x = some (l, N)) (hd : ∀ m ∈ N, bget s'.bx m = bget s.bx m) : tsrc s' sz x = some (l, N) := by
  unfold tsrc at h ⊢
  split at h
  · exact h
  · split at h
    · rename_i hb
      split at h <;> simp at h
      rename_i e
      obtain ⟨rfl, rfl⟩ := h
      rw [hd _ (by simp), hb]
      simp [e]
    · simp at h
  · simp at h
theorem appTT_step {e sz by' : Nat} {xo yo : AO} {l m : List α} {f : α → List D} (N1 N2 : List Nat) {kF : List α → Option β} {S' : List α → St} (h : (appG by' l m >>= kF) = some r) (hc : ((ev s xo).cond.isEmpty && (ev s yo).cond.isEmpty) = true) (hx : tsrc s sz (ev s xo) = some (l.map f, N1)) (hy : tsrc s sz (ev s yo) = some (m.map f, N2))
    (hd : (s.fresh d && deadOk d (N1 ++ N2)) = true) (hS : ∀ y : List α, (⟨(d, .tre d) :: s.env, (d, [.trc sz (y.map f)]) :: kill s.bx (N1 ++ N2)⟩ : St) = S' y) (hk : ∀ y, kF y = some r → aops P K rest (S' y)) : aops P K (.app d e sz by' xo yo :: rest) s := by
  unfold appG at h
  split at h
  · rename_i h0
    rw [Bool.and_eq_true] at hd hc
    obtain ⟨h1, h2⟩ := deadOk_ok hd.2
    show aop P s (aops P K rest) (.app d e sz by' xo yo)
    simp only [aop]
    exact use_self hc.1 (use_self hc.2 (.inr (.inl ⟨_, _, hx, .inl ⟨_, _, hy, h1, h2, by simpa using h0, hd.1, by rw [← List.map_append, hS]; exact hk _ h⟩⟩)))
  · simp at h
theorem dappTT_step {e sz by' : Nat} {xo yo : AO} {l m : List α} {f : α → List D} (N1 N2 : List Nat) {kF : List α → Option β} {S' : List α → St} (h : (appG by' l m >>= kF) = some r) (hc : ((ev s xo).cond.isEmpty && (ev s yo).cond.isEmpty) = true) (hx : tsrc s sz (ev s xo) = some (l.map f, N1)) (hy : tsrc s sz (ev s yo) = some (m.map f, N2))
    (hd : deadOk d (N1 ++ N2) = true) (hS : ∀ y : List α, eff (evR s (.app d e sz by' xo yo) d (xo.rd ++ yo.rd) sz (y.map f) (N1 ++ N2)) s = S' y) (hk : ∀ y, kF y = some r → dgo P KD rest (evR s (.app d e sz by' xo yo) d (xo.rd ++ yo.rd) sz (y.map f) (N1 ++ N2) :: acc) (S' y)) : dgo P KD (.app d e sz by' xo yo :: rest) acc s := by
  unfold appG at h
  split at h
  · rename_i h0
    rw [Bool.and_eq_true] at hc
    obtain ⟨h1, h2⟩ := deadOk_ok hd
    have hdd : ∀ k ∈ N1 ++ N2, (bget s.bx k).isSome = true := fun k hk => (List.mem_append.1 hk).elim (tsrc_dead hx k) (tsrc_dead hy k)
    refine ⟨evR s (.app d e sz by' xo yo) d (xo.rd ++ yo.rd) sz ((l ++ m).map f) (N1 ++ N2), rfl, ?_, evR_rd hdd, by rw [hS]; exact hk _ h⟩
    intro s2 hrd hg
    have hag : Agree s s2 (xo.rd ++ yo.rd) [] := ⟨rt_of hrd.rt, fun p hp => by simp at hp⟩
    have hget := evR_get hdd hrd
    show aop P s2 _ (.app d e sz by' xo yo)
    simp only [aop]
    rw [hag.l.ev, hag.r.ev]
    refine use_self hc.1 (use_self hc.2 (.inr (.inl ⟨_, _, tsrc_congr hx fun k hk => hget k (List.mem_append_left _ hk), .inl ⟨_, _, tsrc_congr hy fun k hk => hget k (List.mem_append_right _ hk), h1, h2, by simpa using h0, hg.fr d (by simp [evR]), ?_⟩⟩)))
    rw [← List.map_append]; exact evR_eff
  · simp at h
/-- rows of plain cells are appended to a tree -/
theorem appTF_step {e sz by' : Nat} {xo yo : AO} {l m : List α} {f : α → List D} (N1 : List Nat) {kF : List α → Option β} {S' : List α → St} (h : (appG by' l m >>= kF) = some r) (hc : ((ev s xo).cond.isEmpty && (ev s yo).cond.isEmpty) = true) (hx : tsrc s sz (ev s xo) = some (l.map f, N1)) (hy : srV (ev s yo) = some (sz, m.map f)) (hfl : ∀ x, (f x).all D.flat = true)
    (hd : (s.fresh d && deadOk d N1) = true) (hS : ∀ y : List α, (⟨(d, .tre d) :: s.env, (d, [.trc sz (y.map f)]) :: kill s.bx N1⟩ : St) = S' y) (hk : ∀ y, kF y = some r → aops P K rest (S' y)) : aops P K (.app d e sz by' xo yo :: rest) s := by
  unfold appG at h
  split at h
  · rename_i h0
    rw [Bool.and_eq_true] at hd hc
    obtain ⟨h1, h2⟩ := deadOk_ok hd.2
    show aop P s (aops P K rest) (.app d e sz by' xo yo)
    simp only [aop]
    refine use_self hc.1 (use_self hc.2 (.inr (.inl ⟨_, _, hx, .inr (srV_ok hy ?_)⟩)))
    refine ⟨rfl, fun r hr => by obtain ⟨x, _, rfl⟩ := List.mem_map.1 hr; exact hfl x, by rw [List.append_nil]; exact h1, by rw [List.append_nil]; exact h2, by simpa using h0, hd.1, ?_⟩
    rw [← List.map_append, List.append_nil, hS]; exact hk _ h
  · simp at h
theorem mksT_step {e sz by' : Nat} {k k' : IntKind} {zs : List D} {xo yo : AO} {n : Int} {z : α} {f : α → List D} {kF : List α → Option β} {S' : List α → St} (h : (mkG by' n z >>= kF) = some r) (hn : (conds s [xo, yo]).all id = true) (h1 : (ev s xo).str = .d (.i k n)) (h2 : (ev s yo).str = .d (.i k' n)) (hz : zs = f z) (hf : s.fresh d = true)
    (hS : ∀ y : List α, (⟨(d, .tre d) :: s.env, (d, [.trc sz (y.map f)]) :: s.bx⟩ : St) = S' y) (hk : ∀ y, kF y = some r → aops P K rest (S' y)) : aops P K (.mks d e sz by' zs xo yo :: rest) s := by
  unfold mkG at h
  split at h
  · rename_i h0
    show aop P s (aops P K rest) (.mks d e sz by' zs xo yo)
    simp only [aop]
    refine use_str (all_l hn) (use_str (all_l (all_r hn)) ?_)
    rw [h1, h2]
    refine .inr (.inl ⟨rfl, h0.1, h0.2, hf, ?_⟩)
    have := hk _ h
    rw [← hS] at this
    rw [hz]
    simpa using this
  · simp at h
theorem csb_step {e : TypeId} {xo : AO} {b : List UInt8} {s' : St} (h1 : ev s xo = .d (.s (bs b))) (hf : s.fresh d = true) (hS : (⟨(d, .tre d) :: s.env, (d, [.trc 1 ((toBytes b).map fun n => [D.i .u8 n])]) :: s.bx⟩ : St) = s') (hk : aops P K rest s') : aops P K (.csb d e xo :: rest) s := by
  show aop P s (aops P K rest) (.csb d e xo)
  simp only [aop]
  rw [h1]
  refine ⟨hf, ?_⟩
  rw [← hS] at hk
  have e1 : ((toBytes b).map fun n => [D.i .u8 n]) = (bs b).data.toList.map fun u => [D.i .u8 u.toNat] := by simp [toBytes, bs]
  rw [← e1]; exact hk
end
end Go.Ab
