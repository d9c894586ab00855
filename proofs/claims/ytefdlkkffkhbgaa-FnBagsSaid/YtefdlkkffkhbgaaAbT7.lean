/- Steps: structs cell by cell in an open order; calls without boxes among calls with trees; trees read and closed by computing. -/
import Derived.Test.YtefdlkkffkhbgaaAbT6
import Derived.KernelRfl
namespace Go.Ab
open Go Go.RowKit

theorem FOk.toB {β : Type} {P : Program} {f : FuncId} {args : List V} {v : β → V} {x : Option β} (h : FOk P f args v x) : FOkB P f args [] v (fun _ => []) x := fun r hr => (h r hr).mono fun _ _ e => ⟨e, trivial⟩
section
variable {P : Program} {K : List Ev → St → Prop} {rest : List AOp} {acc : List Ev} {s : St} {d : Nat}
def evW (s : St) (d : Nat) (zero : List V) (parts : List (Nat × Nat × AO)) (c : List V) : Ev := { o := .bld d zero parts, d := some d, r := .agv c, rt := valsOf s (parts.flatMap fun p => p.2.2.rd) }
theorem dbldv_step {s' : St} {zero c : List V} {parts : List (Nat × Nat × AO)} (hn : (parts.flatMap fun p => (ev s p.2.2).cond).all id = true) (h : partsE s parts zero = some c) (hs : eff (evW s d zero parts c) s = s') (hk : dgo P K rest (evW s d zero parts c :: acc) s') :
    dgo P K (.bld d zero parts :: rest) acc s := by
  refine ⟨_, rfl, ?_, ⟨rt_rd, fun p hp => absurd (show p ∈ ([] : List (Nat × List V)) from hp) (by simp), fun p hp => absurd (show p ∈ ([] : List (Nat × List V)) from hp) (by simp)⟩, by rw [hs]; exact hk⟩
  intro s2 hrd _
  exact .inr (parts_congr (B := []) ⟨rt_of hrd.rt, fun p hp => by simp at hp⟩ (partsE_ok (s := s) (C := fun c' => (s2.put d (.agv c')) = eff (evW s d zero parts c) s2) hn h rfl))
end
section
variable {P : Program} {K : St → Prop} {Q : Exit → St → Prop} {rest : List AOp} {s : St} {d : Nat}
theorem nil_split {α β : Type} {l : List α} {X Y : Option β} {r : β} {A B : Prop} (h : (if (decide ((l.length : Int) = 0)) = true then X else Y) = some r) (h0 : l ≠ [] → Y = some r → A) (hk : l = [] → X = some r → A ∧ B) : A ∧ (l = [] → B) := by
  by_cases e : l = []
  · rw [if_pos (by simp [e])] at h
    exact ⟨(hk e h).1, fun _ => (hk e h).2⟩
  · rw [if_neg (by simp [e])] at h
    exact ⟨h0 e h, fun e' => absurd e' e⟩
/-- a slice against nil: where it has no rows, both answers must do -/
theorem eqn_step {α β : Type} {r : β} {X Y : Option β} {neg : Bool} {sz : Nat} {xo : AO} {l : List α} {f : α → List D} (h : (if (decide ((l.length : Int) = 0)) = true then X else Y) = some r) (hn : (conds s [xo]).all id = true) (h1 : slV (ev s xo).str = some (sz, l.map f))
    (h0 : l ≠ [] → Y = some r → aops P K rest (s.put d (.d (.b (neg ^^ false))))) (hk : l = [] → X = some r → aops P K rest (s.put d (.d (.b (neg ^^ false)))) ∧ aops P K rest (s.put d (.d (.b (neg ^^ true))))) : aops P K (.eqn d neg xo :: rest) s := by
  obtain ⟨h0, hk⟩ := nil_split h h0 hk
  show aop P s (aops P K rest) (.eqn d neg xo)
  have both : l.map f = [] → ∀ b, aops P K rest (s.put d (.d (.b b))) := fun e b => by
    have e' : l = [] := by simpa using e
    have := hk e'
    cases neg <;> cases b <;> first | exact h0 | exact this
  simp only [aop, vop]
  refine use_str (all_l hn) ?_
  revert h1
  generalize (ev s xo).str = x
  intro h1
  split
  · simp [slV] at h1
    exact both (by simp [h1]) _
  · simp [slV] at h1
  · exact slV_ok h1 ⟨fun _ => h0, both⟩
theorem eqnT_step {α β : Type} {r : β} {X Y : Option β} {neg : Bool} {n : Nat} {xo : AO} {l : List α} {f : α → List D} (h : (if (decide ((l.length : Int) = 0)) = true then X else Y) = some r) (h1 : ev s xo = .tre n) (hb : trRows s n = some (l.map f))
    (h0 : l ≠ [] → Y = some r → aops P K rest (s.put d (.d (.b (neg ^^ false))))) (hk : l = [] → X = some r → aops P K rest (s.put d (.d (.b (neg ^^ false)))) ∧ aops P K rest (s.put d (.d (.b (neg ^^ true))))) : aops P K (.eqn d neg xo :: rest) s := by
  obtain ⟨h0, hk⟩ := nil_split h h0 hk
  show aop P s (aops P K rest) (.eqn d neg xo)
  have both : l.map f = [] → ∀ b, aops P K rest (s.put d (.d (.b b))) := fun e b => by
    have e' : l = [] := by simpa using e
    have := hk e'
    cases neg <;> cases b <;> first | exact h0 | exact this
  simp only [aop, vop]
  rw [h1]
  show trL s n _
  unfold trRows at hb
  unfold trL
  split at hb <;> simp at hb
  · rename_i h; rw [h]; subst hb; exact ⟨fun _ => h0, both⟩
  · rename_i h; rw [h]; subst hb; exact ⟨fun _ => h0, both⟩
  · rename_i h; rw [h]; subst hb; exact ⟨fun _ => h0, both⟩
/-- append to a row whose block's type is not known -/
theorem appx_step {α β : Type} {r : β} {e sz by' t : Nat} {xo yo : AO} {l m : List α} {f : α → List D} {kF : List α → Option β} {S' : List α → St} (h : (appG by' l m >>= kF) = some r) (hx : ev s xo = .osl t XE sz (l.map f)) (hy0 : (ev s yo).cond = []) (hy : srV (ev s yo) = some (sz, m.map f))
    (hf : ((s.dn t).fresh d && (s.dn t).clean t) = true) (hS : ∀ y : List α, (⟨(d, .osl d XE sz (y.map f)) :: (s.dn t).env, (s.dn t).bx⟩ : St) = S' y) (hk : ∀ y, kF y = some r → aops P K rest (S' y)) : aops P K (.app d e sz by' xo yo :: rest) s := by
  unfold appG at h
  split at h
  · rename_i h0
    show aop P s (aops P K rest) (.app d e sz by' xo yo)
    simp only [aop]
    rw [hx]
    simp only [use]
    refine use_str (by rw [hy0]; rfl) ?_
    have hs : (ev s yo).str = ev s yo := by
      revert hy0; generalize ev s yo = v; intro hy0; cases v <;> first | rfl | simp [V.cond] at hy0
    rw [hs]
    refine .inl (srV_ok hy ?_)
    refine ⟨rfl, by simp, trivial, by simpa using h0, ?_, ?_, ?_⟩
    · rw [Bool.and_eq_true] at hf; exact hf.1
    · rw [Bool.and_eq_true] at hf; exact hf.2
    · rw [← List.map_append, hS]; exact hk _ h
  · simp at h
/-- what a state is taken for where a region begins -/
theorem ops_tw (l : List Tw) {k : List AOp} {s' : St} (hs : s.tw l = s') (h : avc P (.ops k) Q s') : avc P (.ops k) Q s := by
  subst hs
  obtain ⟨s2, h1, h2⟩ := h
  exact ⟨s2, (wk_tw l s).trans h1, h2⟩
theorem dops_tw (l : List Tw) {w : List (List Nat)} {k : List AOp} {s' : St} (hs : s.tw l = s') (h : avc P (.dops w k) Q s') : avc P (.dops w k) Q s := by
  subst hs
  obtain ⟨s2, h1, h2⟩ := h
  exact ⟨s2, (wk_tw l s).trans h1, h2⟩
theorem cdf {c : AO} {x y : AC} (hy : avc P y Q s) (hc : ev s c = .d (.b false) := by kernel_rfl) : avc P (.cond c x y) Q s := by
  show use (ev s c) _
  rw [hc]
  exact ⟨fun h => by simp at h, fun _ => hy⟩
theorem cdt {c : AO} {x y : AC} (hx : avc P x Q s) (hc : ev s c = .d (.b true) := by kernel_rfl) : avc P (.cond c x y) Q s := by
  show use (ev s c) _
  rw [hc]
  exact ⟨fun _ => hx, fun h => by simp at h⟩
end
end Go.Ab
