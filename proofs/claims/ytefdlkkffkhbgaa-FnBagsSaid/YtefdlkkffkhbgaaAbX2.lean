/- A made slice in a region whose order is left open; a built slice under a guard. -/
import Derived.Test.YtefdlkkffkhbgaaAbX1
namespace Go.Ab
open Go
variable {P : Program} {s : St} {d : Nat} {acc : List Ev} {K : List Ev → St → Prop} {rest : List AOp} {α β : Type} {r : β} {k k' : IntKind}
def evZ (s : St) (d : Nat) (e : TypeId) (sz by' : Nat) (zs : List D) (x y : AO) (n : Nat) (l : List (List D)) : Ev := { o := .mks d e sz by' zs x y, d := some d, r := .msl d sz 0 n n, rt := valsOf s (x.rd ++ y.rd), nw := [(d, rowsV l)], fr := [d] }
theorem evZ_ok {e : TypeId} {sz by' : Nat} {zs : List D} {x y : AO} {n : Int} (hn : (conds s [x, y]).all id = true) (h1 : (ev s x).str = .d (.i k n)) (h2 : (ev s y).str = .d (.i k' n)) (h0 : 0 ≤ n ∧ n * by' ≤ 140737488355328) : EvOk P (evZ s d e sz by' zs x y n.toNat (List.replicate n.toNat zs)) := by
  intro s' hrd hg
  have hag : Agree s s' (x.rd ++ y.rd) [] := ⟨rt_of hrd.rt, fun p hp => by simp at hp⟩
  have e1 : ev s' x = ev s x := hag.l.ev
  have e2 : ev s' y = ev s y := hag.r.ev
  show use (ev s' x) _
  rw [e1]
  refine use_str (all_l hn) ?_
  show use (ev s' y) _
  rw [e2]
  refine use_str (all_l (all_r hn)) ?_
  rw [h1, h2]
  exact .inl ⟨rfl, h0.1, h0.2, hg.fr d (by simp [evZ]), rfl⟩
theorem dmks_step {e sz by' : Nat} {zs : List D} {xo yo : AO} {n : Int} {z : α} {f : α → List D} {kF : List α → Option β} {S' : List α → St} (h : (mkG by' n z >>= kF) = some r) (hn : (conds s [xo, yo]).all id = true) (h1 : (ev s xo).str = .d (.i k n)) (h2 : (ev s yo).str = .d (.i k' n)) (hz : zs = f z)
    (hS : ∀ y : List α, eff (evZ s d e sz by' zs xo yo y.length (y.map f)) s = S' y) (hk : ∀ y, kF y = some r → dgo P K rest (evZ s d e sz by' zs xo yo y.length (y.map f) :: acc) (S' y)) : dgo P K (.mks d e sz by' zs xo yo :: rest) acc s := by
  unfold mkG at h
  split at h
  · rename_i h0
    have := hk _ h
    rw [List.length_replicate, List.map_replicate, ← hz] at this
    have hS2 := hS (List.replicate n.toNat z)
    rw [List.length_replicate, List.map_replicate, ← hz] at hS2
    refine ⟨evZ s d e sz by' zs xo yo n.toNat (List.replicate n.toNat zs), rfl, evZ_ok hn h1 h2 h0, ⟨rt_rd, fun p hp => by simp [evZ] at hp, fun p hp => by simp [evZ] at hp⟩, ?_⟩
    rw [hS2]; exact this
  · simp at h
/-- the elements of a slice that is built under a guard -/
def elemsG (s : St) (sz : Nat) : List AO → Option (List (List D))
  | [] => some []
  | x :: r => if (ev s x).str.solid then match V.asDs (ev s x).str.cells, elemsG s sz r with
      | some ds, some l => if ds.length = sz then some (ds :: l) else none
      | _, _ => none
    else none
theorem elemsG_ok {s : St} {sz : Nat} : ∀ {xs : List AO} {l : List (List D)} {C : List (List D) → Prop}, (conds s xs).all id = true → elemsG s sz xs = some l → C l → elemsIn s sz xs C
  | [], l, C, _, h, hC => by simp [elemsG] at h; subst h; exact hC
  | x :: r, l, C, hn, h, hC => by
    simp only [elemsG] at h
    split at h
    · rename_i h0
      split at h
      · rename_i h1 h2
        split at h <;> simp at h
        rename_i h3; subst h
        exact use_str (all_l hn) ⟨h0, _, h1, h3, elemsG_ok (all_r hn) h2 hC⟩
      · simp at h
    · simp at h
theorem gbsl_step {Q : St → Prop} {j : Nat} {want p b : Bool} {e sz : Nat} {xs : List AO} {l : List (List D)} (hb : bval (lk s.env j) = some (p, b)) (hf : s.fresh d = true) (hn : (p && (b == want)) = true → (conds s xs).all id = true) (he : elemsG s sz xs = some l)
    (hk : aops P Q rest (s.put d (.ite (p && (b == want)) (.d (.sl sz l))))) : aops P Q (.g j want (.bsl d e sz xs) :: rest) s := by
  show aop P s (aops P Q rest) (.g j want (.bsl d e sz xs))
  simp only [aop]
  exact bval_ok hb ⟨_, fun hc => ⟨hf, elemsG_ok (hn hc) he rfl⟩, hk⟩
def evGB (s : St) (o : AOp) (d : Nat) (r : V) : Ev := { o := o, d := some d, r := r, rt := valsOf s o.rd, fr := [d] }
theorem dgbsl_step {j : Nat} {want p b : Bool} {e sz : Nat} {xs : List AO} {l : List (List D)} (hb : bval (lk s.env j) = some (p, b)) (hn : (p && (b == want)) = true → (conds s xs).all id = true) (he : elemsG s sz xs = some l)
    (hk : dgo P K rest (evGB s (.g j want (.bsl d e sz xs)) d (.ite (p && (b == want)) (.d (.sl sz l))) :: acc) (s.put d (.ite (p && (b == want)) (.d (.sl sz l))))) : dgo P K (.g j want (.bsl d e sz xs) :: rest) acc s := by
  refine ⟨evGB s (.g j want (.bsl d e sz xs)) d (.ite (p && (b == want)) (.d (.sl sz l))), rfl, ?_, ⟨rt_rd, fun p hp => by simp [evGB] at hp, fun p hp => by simp [evGB] at hp⟩, hk⟩
  intro s' hrd hg
  have e1 : xs.map (ev s') = xs.map (ev s) := Agree.evs (B := []) ⟨fun t ht => rt_of hrd.rt t (by simp only [AOp.rd, List.mem_cons]; exact .inr ht), fun p hp => by simp at hp⟩
  have hj : lk s'.env j = lk s.env j := rt_of hrd.rt j (by simp [AOp.rd])
  have h2 : conds s' xs = conds s xs ∧ elemsG s' sz xs = elemsG s sz xs := by
    clear hn he hrd hg hk
    induction xs with
    | nil => exact ⟨rfl, rfl⟩
    | cons x xs ih =>
      simp only [List.map_cons, List.cons.injEq] at e1
      obtain ⟨i1, i2⟩ := ih e1.2
      exact ⟨by simp only [conds, e1.1, i1], by simp only [elemsG, e1.1, i2]⟩
  show aop P s' _ (.g j want (.bsl d e sz xs))
  simp only [aop]
  rw [hj]
  exact bval_ok hb ⟨_, fun hc => ⟨hg.fr d (by simp [evGB]), elemsG_ok (by rw [h2.1]; exact hn hc) (by rw [h2.2]; exact he) rfl⟩, rfl⟩
/-! made as an owned slice -/
theorem mksO_step {Q : St → Prop} {e sz by' : Nat} {zs : List D} {xo yo : AO} {n : Int} {z : α} {f : α → List D} {kF : List α → Option β} {S' : List α → St} (h : (mkG by' n z >>= kF) = some r) (hn : (conds s [xo, yo]).all id = true) (h1 : (ev s xo).str = .d (.i k n)) (h2 : (ev s yo).str = .d (.i k' n)) (hz : zs = f z) (hf : s.fresh d = true)
    (hS : ∀ y : List α, (⟨(d, .osl d e sz (y.map f)) :: s.env, s.bx⟩ : St) = S' y) (hk : ∀ y, kF y = some r → aops P Q rest (S' y)) : aops P Q (.mks d e sz by' zs xo yo :: rest) s := by
  unfold mkG at h
  split at h
  · rename_i h0
    show aop P s (aops P Q rest) (.mks d e sz by' zs xo yo)
    simp only [aop]
    refine use_str (all_l hn) (use_str (all_l (all_r hn)) ?_)
    rw [h1, h2]
    refine .inr (.inr ⟨rfl, h0.1, h0.2, hf, ?_⟩)
    have := hk _ h
    rw [← hS] at this
    rw [hz]
    simpa using this
  · simp at h
def evO (s : St) (d : Nat) (e : TypeId) (sz by' : Nat) (zs : List D) (x y : AO) (l : List (List D)) : Ev := { o := .mks d e sz by' zs x y, d := some d, r := .osl d e sz l, rt := valsOf s (x.rd ++ y.rd), fr := [d] }
theorem evO_ok {e : TypeId} {sz by' : Nat} {zs : List D} {x y : AO} {n : Int} (hn : (conds s [x, y]).all id = true) (h1 : (ev s x).str = .d (.i k n)) (h2 : (ev s y).str = .d (.i k' n)) (h0 : 0 ≤ n ∧ n * by' ≤ 140737488355328) : EvOk P (evO s d e sz by' zs x y (List.replicate n.toNat zs)) := by
  intro s' hrd hg
  have hag : Agree s s' (x.rd ++ y.rd) [] := ⟨rt_of hrd.rt, fun p hp => by simp at hp⟩
  have e1 : ev s' x = ev s x := hag.l.ev
  have e2 : ev s' y = ev s y := hag.r.ev
  show use (ev s' x) _
  rw [e1]
  refine use_str (all_l hn) ?_
  show use (ev s' y) _
  rw [e2]
  refine use_str (all_l (all_r hn)) ?_
  rw [h1, h2]
  exact .inr (.inr ⟨rfl, h0.1, h0.2, hg.fr d (by simp [evO]), rfl⟩)
theorem dmksO_step {e sz by' : Nat} {zs : List D} {xo yo : AO} {n : Int} {z : α} {f : α → List D} {kF : List α → Option β} {S' : List α → St} (h : (mkG by' n z >>= kF) = some r) (hn : (conds s [xo, yo]).all id = true) (h1 : (ev s xo).str = .d (.i k n)) (h2 : (ev s yo).str = .d (.i k' n)) (hz : zs = f z)
    (hS : ∀ y : List α, eff (evO s d e sz by' zs xo yo (y.map f)) s = S' y) (hk : ∀ y, kF y = some r → dgo P K rest (evO s d e sz by' zs xo yo (y.map f) :: acc) (S' y)) : dgo P K (.mks d e sz by' zs xo yo :: rest) acc s := by
  unfold mkG at h
  split at h
  · rename_i h0
    have := hk _ h
    rw [List.map_replicate, ← hz] at this
    have hS2 := hS (List.replicate n.toNat z)
    rw [List.map_replicate, ← hz] at hS2
    refine ⟨evO s d e sz by' zs xo yo (List.replicate n.toNat zs), rfl, evO_ok hn h1 h2 h0, ⟨rt_rd, fun p hp => by simp [evO] at hp, fun p hp => by simp [evO] at hp⟩, ?_⟩
    rw [hS2]; exact this
  · simp at h
end Go.Ab
