/- What the functions compute, in plain Lean. -/
import Derived.Test.YtlohdmekmmjjlaaFExactWithin
namespace Go.Ab
open Go
/-! base -/

theorem wrap_ok {n : Int} (h1 : -9223372036854775808 ≤ n) (h2 : n ≤ 9223372036854775807) : IntKind.wrap .i64 n = n := by rw [IntKind.wrap_i64]; omega
/-- the next round of a loop over a list -/
theorem wrap_next {i n : Nat} (h : i < n) (hn : n ≤ 4611686018427387904) : IntKind.wrap .i64 ((i : Int) + 1) = ((i + 1 : Nat) : Int) := by rw [wrap_ok] <;> omega
theorem lt_dec (i n : Nat) : decide ((i : Int) < (n : Int)) = decide (i < n) := by simp
theorem idx_nat {α : Type} (l : List α) (i : Nat) : idx l (i : Int) = l[i]? := by simp [idx]
theorem idx_lt {α : Type} {l : List α} {i : Nat} (h : i < l.length) : idx l (i : Int) = some l[i] := by rw [idx_nat]; simp [h]
/-- from the last round backwards -/
theorem back_ind {M : Nat → Prop} {n : Nat} (h0 : M n) (h : ∀ i, i < n → M (i + 1) → M i) : ∀ i, i ≤ n → M i := by
  have : ∀ k i, i + k = n → M i := by
    intro k
    induction k with
    | zero => intro i hi; have : i = n := by omega
              subst this; exact h0
    | succ k ih => intro i hi; exact h i (by omega) (ih (i + 1) (by omega))
  exact fun i hi => this (n - i) i (by omega)
/-- A loop that copies a list element by element into a made one. -/
theorem copy_all {α : Type} {p : List α} {F : Int → List α → Option (List α)} (hn : p.length ≤ 4611686018427387904)
    (hF : ∀ (i : Nat) b, b.length = p.length → F i b = if i < p.length then (idx p i >>= fun v => setG b i v >>= fun c => F (IntKind.wrap .i64 ((i : Int) + 1)) c) else some b) :
    ∀ b, b.length = p.length → F 0 b = some p := by
  have key : ∀ i, i ≤ p.length → ∀ b, b.length = p.length → b.take i = p.take i → F (i : Nat) b = some p := by
    refine back_ind ?_ ?_
    · intro b hb ht
      rw [hF _ _ hb, if_neg (by omega)]
      rw [← hb, List.take_length] at ht
      rw [ht, hb, List.take_length]
    · intro i hi ih b hb ht
      rw [hF _ _ hb, if_pos hi, idx_lt hi]
      have hs : setG b i p[i] = some (b.set i p[i]) := by
        unfold setG; rw [if_pos ⟨by omega, by simp; omega⟩]; simp
      simp only [Option.bind_eq_bind, Option.bind_some, hs, wrap_next hi hn]
      refine ih _ (by simp [hb]) ?_
      rw [List.take_add_one, List.take_add_one]
      have e1 : (b.set i p[i]).take i = b.take i := by rw [List.take_set_of_le (Nat.le_refl _)]
      rw [e1, ht]
      simp [hb, hi]
  intro b hb
  exact key 0 (by omega) b hb (by simp)
theorem mkG_ok {α : Type} {by' : Nat} {n : Nat} {z : α} (h : (n : Int) * by' ≤ 140737488355328) : mkG by' (n : Int) z = some (List.replicate n z) := by
  unfold mkG; rw [if_pos ⟨by omega, h⟩]; simp

/-! calc -/
theorem iBoolValue_s (b : Bool) : iBoolValue b = sBoolValue b := by
  cases b <;> rfl
theorem sBoolValue_def (b : Bool) : sBoolValue b = some ⟨3, if b then 1 else 0, []⟩ := by
  cases b <;> rfl
theorem valueOk_eq (x : GValue) : iValueOk x = sValueOk x := by
  unfold iValueOk sValueOk sL1In
  simp only [Option.bind_eq_bind, Option.bind_some]
  split
  · rfl
  split
  · rfl
  split
  · rfl
  split
  · congr 1
    have : (if (decide (x.num = 0)) = true then true else (decide (x.num = 1))) = (if (decide (0 ≤ x.num)) = true then (decide (x.num ≤ 1)) else false) := by
      simp only [decide_eq_true_eq, Bool.if_true_left, Bool.if_false_right, Bool.decide_eq_true]
      by_cases h0 : x.num = 0
      · simp [h0]
      · by_cases h1 : x.num = 1
        · simp [h1]
        · simp [h0, h1]; omega
    rw [this]
  · rfl
theorem or3 (a b c : Int) : gCmp_Or_int [a, b, c] = some (if a ≠ 0 then a else if b ≠ 0 then b else c) := by
  have w1 : IntKind.wrap .i64 (0 + 1) = 1 := by decide
  have w2 : IntKind.wrap .i64 (1 + 1) = 2 := by decide
  have w3 : IntKind.wrap .i64 (2 + 1) = 3 := by decide
  unfold gCmp_Or_int
  rw [gCmp_Or_int_L0]
  rw [w1, gCmp_Or_int_L0]
  rw [w2, gCmp_Or_int_L0]
  rw [w3, gCmp_Or_int_L0]
  simp only [idx]
  by_cases ha : a = 0 <;> by_cases hb : b = 0 <;> by_cases hc : c = 0 <;> simp [ha, hb, hc]
theorem cmpI_def (a b : Int) : gCmp_Compare_int a b = some (if a < b then -1 else if b < a then 1 else 0) := by
  unfold gCmp_Compare_int gCmp_isNaN_int
  simp only [Option.bind_eq_bind, Option.bind_some, decide_true, Bool.not_true, Bool.false_eq_true, if_false, decide_eq_true_eq]
  split
  · rfl
  · split <;> rfl
theorem cmpS_def (a b : List UInt8) : gCmp_Compare_string a b = some (if Op.bytesLess a b = true then -1 else if (!(Op.bytesLess a b || decide (a = b))) = true then 1 else 0) := by
  unfold gCmp_Compare_string gCmp_isNaN_string
  simp only [Option.bind_eq_bind, Option.bind_some, decide_true, Bool.not_true, Bool.false_eq_true, if_false]
  split
  · rfl
  · split <;> rfl
theorem order_eq (x y : GValue) : iOrder x y = sOrder x y := by
  unfold iOrder sOrder
  simp only [Option.bind_eq_bind, cmpI_def, cmpS_def, or3, Option.bind_some, decide_eq_true_eq]
  by_cases h1 : x.kind < y.kind
  · simp [h1]
  by_cases h2 : y.kind < x.kind
  · simp [h1, h2]
  by_cases h3 : x.num < y.num
  · simp [h1, h2, h3]
  by_cases h4 : y.num < x.num
  · simp [h1, h2, h3, h4]
  simp only [h1, h2, h3, h4, if_false, ne_eq, not_true_eq_false]
  split
  · rfl
  · split <;> rfl
theorem fitsOp_le (k : Int) (hk : k ≤ 8) (x : GValue) : iFitsOp k x = some true := by
  unfold iFitsOp
  simp [hk]
theorem null_def (x : GValue) : sL6Null x = some (decide (x.kind = 0)) := rfl
theorem is_def (x : GValue) (k : Int) : sL6Is x k = some (decide (x.kind = k) || decide (x.kind = 0)) := by
  unfold sL6Is
  simp only [null_def]
  by_cases h : x.kind = k <;> simp [h]
theorem valueOk_some (x : GValue) : ∃ b, sValueOk x = some b := by
  rw [← valueOk_eq]
  unfold iValueOk
  repeat (split; exact ⟨_, rfl⟩)
  exact ⟨_, rfl⟩
theorem order_some (x y : GValue) : ∃ b, sOrder x y = some b := by
  unfold sOrder
  repeat (split; exact ⟨_, rfl⟩)
  exact ⟨_, rfl⟩
def gvE (x u : GValue) : Bool := (decide (x.kind = u.kind)) && ((decide (x.num = u.num)) && ((decide (x.text = u.text)) && true))
theorem gvE_def (x u : GValue) : ((decide (x.kind = u.kind)) && ((decide (x.num = u.num)) && ((decide (x.text = u.text)) && true))) = gvE x u := by rw [gvE]
/-- the logic of two values -/
def logicP (k : Int) (x y : GValue) : GValue × Int :=
  if (x.kind = 3 ∨ x.kind = 0) ∧ (y.kind = 3 ∨ y.kind = 0) then
    if gvE x ⟨3, if decide (k = 1) then 1 else 0, []⟩ || gvE y ⟨3, if decide (k = 1) then 1 else 0, []⟩ then (⟨3, if decide (k = 1) then 1 else 0, []⟩, 0) else if x.kind = 0 ∨ y.kind = 0 then (⟨0, 0, []⟩, 0) else (⟨3, if decide (k = 2) then 1 else 0, []⟩, 0)
  else (⟨0, 0, []⟩, 1)
theorem sLogic_def (k : Int) (x y : GValue) : sL6Logic k x y = some (logicP k x y) := by
  unfold sL6Logic logicP
  simp only [is_def, null_def, sBoolValue_def, Option.bind_eq_bind, Option.bind_some, gvE_def]
  have n1 : ∀ u, gvE x u = false ∨ gvE x u = true := fun u => by cases gvE x u <;> simp
  have n2 : ∀ u, gvE y u = false ∨ gvE y u = true := fun u => by cases gvE y u <;> simp
  rcases n1 ⟨3, if decide (k = 1) = true then 1 else 0, []⟩ with e1 | e1 <;> rcases n2 ⟨3, if decide (k = 1) = true then 1 else 0, []⟩ with e2 | e2 <;> rw [e1, e2] <;> clear n1 n2 e1 e2
  all_goals
    by_cases a : x.kind = 3 <;> by_cases b : x.kind = 0 <;> by_cases c : y.kind = 3 <;> by_cases d : y.kind = 0 <;> simp_all
theorem iLogic_def (k : Int) (x y : GValue) : iLogic k x y = some (logicP k x y) := by
  have w1 : IntKind.wrap .i64 (0 + 1) = 1 := by decide
  have w2 : IntKind.wrap .i64 (1 + 1) = 2 := by decide
  unfold iLogic logicP
  rw [iLogic_L0, w1, iLogic_L0, w2, iLogic_L0]
  simp only [iBoolValue_s, sBoolValue_def, Option.bind_eq_bind, Option.bind_some, gvE_def, idx]
  have n1 : ∀ u, gvE x u = false ∨ gvE x u = true := fun u => by cases gvE x u <;> simp
  have n2 : ∀ u, gvE y u = false ∨ gvE y u = true := fun u => by cases gvE y u <;> simp
  rcases n1 ⟨3, if decide (k = 1) = true then 1 else 0, []⟩ with e1 | e1 <;> rcases n2 ⟨3, if decide (k = 1) = true then 1 else 0, []⟩ with e2 | e2 <;> rw [e1, e2] <;> clear n1 n2 e1 e2
  all_goals
    by_cases a : x.kind = 3 <;> by_cases b : x.kind = 0 <;> by_cases c : y.kind = 3 <;> by_cases d : y.kind = 0 <;> simp_all
def cmpP (k o : Int) : Bool := if k = 3 then decide (o = 0) else if k = 6 then decide (o ≤ 0) else decide (0 ≤ o)
theorem iCompared_def (k : Int) (hk : k = 3 ∨ k = 6 ∨ k = 8) (x y : GValue) (o : Int) (ho : sOrder x y = some o) : iCompared k x y = some ⟨3, if cmpP k o then 1 else 0, []⟩ := by
  unfold iCompared
  rw [order_eq, ho]
  rcases hk with rfl | rfl | rfl <;> simp [iBoolValue_s, sBoolValue_def, cmpP]
theorem sCompared_def (k : Int) (hk : k = 3 ∨ k = 6 ∨ k = 8) (o : Int) : sL6Compare k o = some (cmpP k o) := by
  unfold sL6Compare
  rcases hk with rfl | rfl | rfl <;> simp [cmpP]
/-- true, false or null -/
def tri (v : GValue) : Prop := v = ⟨0, 0, []⟩ ∨ v = ⟨3, 0, []⟩ ∨ v = ⟨3, 1, []⟩
theorem tri_bool (b : Bool) : tri ⟨3, if b then 1 else 0, []⟩ := by cases b <;> simp [tri]
theorem calc_cmp (k : Int) (hk : k = 3 ∨ k = 6 ∨ k = 8) (x y : GValue) : ∃ r, sCalc k x y = some r ∧ iCalc k x y = some r ∧ (r.2 = 0 → tri r.1) := by
  obtain ⟨a, ha⟩ := valueOk_some x
  obtain ⟨b, hb⟩ := valueOk_some y
  obtain ⟨o, ho⟩ := order_some x y
  have hk8 : k ≤ 8 := by omega
  have h1 : ¬ k < 1 := by omega
  have h14 : ¬ 14 < k := by omega
  have h2 : ¬ k ≤ 2 := by omega
  have h9 : k ≠ 9 := by omega
  have h10 : k ≠ 10 := by omega
  have h11 : k ≠ 11 := by omega
  have h12 : k ≠ 12 := by omega
  have h13 : k ≠ 13 := by omega
  have h14' : k ≠ 14 := by omega
  have h10' : ¬ 10 ≤ k := by omega
  have g1 : 1 ≤ k := by omega
  have g14 : k ≤ 14 := by omega
  unfold sCalc iCalc sCalc_J0 sL1In sL6Types
  simp only [valueOk_eq, ha, hb, ho, null_def, fitsOp_le k hk8, iCompared_def k hk x y o ho, sCompared_def k hk, sBoolValue_def, Option.bind_eq_bind, Option.bind_some, h1, h14, h2, h9, h10, h11, h12, h13, h14', h10', g1, g14, hk8]
  have hb := tri_bool (cmpP k o)
  have ht : tri ⟨0, 0, []⟩ := .inl rfl
  by_cases e : x.kind = y.kind <;> by_cases c : x.kind = 0 <;> by_cases d : y.kind = 0 <;> cases a <;> cases b <;> simp_all
theorem calc_logic (k : Int) (hk : k = 1 ∨ k = 2) (x y : GValue) : ∃ r, sCalc k x y = some r ∧ iCalc k x y = some r := by
  obtain ⟨a, ha⟩ := valueOk_some x
  obtain ⟨b, hb⟩ := valueOk_some y
  unfold sCalc iCalc sL1In
  simp only [valueOk_eq, ha, hb, sLogic_def, iLogic_def, Option.bind_eq_bind, Option.bind_some]
  rcases hk with rfl | rfl <;> cases a <;> cases b <;> simp
theorem tri_ok {x : GValue} (h : tri x) : sValueOk x = some true := by rcases h with rfl | rfl | rfl <;> decide
theorem calc_or (x y : GValue) (hx : tri x) (hy : tri y) : ∃ r, sCalc 1 x y = some r ∧ iCalc 1 x y = some r ∧ r.2 = 0 ∧ tri r.1 := by
  unfold sCalc iCalc sL1In
  simp only [valueOk_eq, tri_ok hx, tri_ok hy, sLogic_def, iLogic_def, Option.bind_eq_bind, Option.bind_some]
  refine ⟨logicP 1 x y, by simp, by simp, ?_⟩
  rcases hx with rfl | rfl | rfl <;> rcases hy with rfl | rfl | rfl <;> simp [logicP, gvE, tri]

/-! values0 -/
theorem eqValue_self (x : GValue) : wEqValue x x = some true := by
  simp [wEqValue]

/-! values -/
theorem toValueS_id (p : List GValue) (h : p.length ≤ 1048576) : wToValueS p = some p := by
  unfold wToValueS
  rw [mkG_ok (by omega)]
  simp only [Option.bind_eq_bind, Option.bind_some]
  refine copy_all (F := wToValueS_L0 p) (by omega) (fun i b hb => ?_) _ (by simp)
  rw [wToValueS_L0]
  simp only [lt_dec, decide_eq_true_eq, wToValue, Option.bind_eq_bind, Option.bind_some]
  split
  · rename_i hi
    have e : idx b (i : Int) = some b[i] := idx_lt (by omega)
    simp only [e, Option.bind_some]
  · rfl
theorem eqValueS_self (p : List GValue) (h : p.length ≤ 1048576) : wEqValueS p p = some true := by
  unfold wEqValueS
  have key : ∀ i, i ≤ p.length → wEqValueS_L0 p p (i : Nat) = some true := by
    refine back_ind ?_ ?_
    · rw [wEqValueS_L0]; simp
    · intro i hi ih
      rw [wEqValueS_L0]
      simp only [lt_dec, idx_lt hi, wrap_next hi (by omega), eqValue_self, Option.bind_eq_bind, Option.bind_some, ih]
      simp
  simpa using key 0 (by omega)
theorem szValue_some (x : GValue) (n : Int) (hx : x.text.length ≤ 9223372036854775807) (h0 : 0 ≤ n) (h1 : n ≤ 1048576) : ∃ m, wSzValue x n = some m ∧ m ≤ n := by
  unfold wSzValue
  rw [wrap_ok (by omega) (by omega)]
  split
  · exact ⟨_, rfl, by omega⟩
  · exact ⟨_, rfl, by omega⟩
theorem szValueS_some (p : List GValue) (n : Int) (hx : ∀ x ∈ p, x.text.length ≤ 9223372036854775807) (hp : p.length ≤ 9223372036854775807) (h0 : 0 ≤ n) (h1 : n ≤ 1048576) : ∃ m, wSzValueS p n = some m ∧ m ≤ n ∧ (0 ≤ m → (p.length : Int) ≤ n) := by
  unfold wSzValueS
  rw [wrap_ok (by omega) (by omega)]
  have key : p.length ≤ 1048576 → ∀ i, i ≤ p.length → ∀ m : Int, 0 ≤ m → m ≤ 1048576 → ∃ r, wSzValueS_L0 p m (i : Nat) = some r ∧ r ≤ m := by
    intro hp2
    refine back_ind ?_ ?_
    · intro m _ _; rw [wSzValueS_L0]; simp
    · intro i hi ih m hm0 hm1
      rw [wSzValueS_L0]
      obtain ⟨r, hr, hrm⟩ := szValue_some p[i] m (hx _ (List.getElem_mem hi)) hm0 hm1
      simp only [lt_dec, idx_lt hi, wrap_next hi (by omega), hr, Option.bind_eq_bind, Option.bind_some]
      by_cases h2 : r < 0
      · exact ⟨-1, by simp [hi, h2], by omega⟩
      · obtain ⟨r', h3, h4⟩ := ih r (by omega) (by omega)
        refine ⟨r', ?_, by omega⟩
        simp only [Int.natCast_add, Int.cast_ofNat_Int] at h3
        simpa [hi, h2] using h3
  split
  · rename_i hlt
    simp at hlt
    exact ⟨-1, rfl, by omega, by omega⟩
  · rename_i hlt
    simp at hlt
    obtain ⟨r, hr, hrm⟩ := key (by omega) 0 (by omega) ((n : Int) - p.length) (by omega) (by omega)
    exact ⟨r, hr, by omega, by omega⟩

/-! FnExactWithin -/
theorem within_loop (p : List GValue) (x : GValue) (hp : p.length ≤ 1048576) : ∀ i, i ≤ p.length → ∀ a b c, tri ⟨a, b, c⟩ → ∃ r, sWithin_L0 p x (i : Nat) a b c = some r ∧ iWithin_L0 p x (i : Nat) a b c = some r := by
  refine back_ind ?_ ?_
  · intro a b c _
    rw [sWithin_L0, iWithin_L0]
    simp
  · intro i hi ih a b c ht
    rw [sWithin_L0, iWithin_L0]
    obtain ⟨r1, h1, h2, h3⟩ := calc_cmp 3 (by simp) x p[i]
    simp only [lt_dec, idx_lt hi, wrap_next hi (by omega), h1, h2, hi, decide_true, if_true, Option.bind_eq_bind, Option.bind_some]
    by_cases hz : r1.2 = 0
    · obtain ⟨r2, k1, k2, k3, k4⟩ := calc_or ⟨a, b, c⟩ r1.1 ht (h3 hz)
      simp only [hz, k1, k2, k3, decide_true, Bool.not_true, Bool.false_eq_true, if_false, Option.bind_some]
      exact ih _ _ _ k4
    · simp [hz]
theorem within_eq (x : GValue) (p : List GValue) (hp : p.length ≤ 1048576) : ∃ r, sWithin x p = some r ∧ iWithin x p = some r := by
  unfold sWithin iWithin
  rw [iBoolValue_s, sBoolValue_def]
  simp only [Option.bind_eq_bind, Option.bind_some]
  exact within_loop p x hp 0 (by omega) _ _ _ (by simp [tri])
theorem fnExactWithin_true (x : GValue) (ox : okGValue x) (p : List GValue) (op : okL okGValue p) : wFnExactWithin x p = some true := by
  have hx : x.text.length ≤ 9223372036854775807 := ox.2.2
  have hp : ∀ v ∈ p, v.text.length ≤ 9223372036854775807 := fun v hv => (op.2 v hv).2.2
  have hl := op.1
  obtain ⟨m, h1, h2⟩ := szValue_some x 1048576 hx (by omega) (by omega)
  unfold wFnExactWithin
  simp only [h1, Option.bind_eq_bind, Option.bind_some]
  by_cases hm : m < 0
  · simp [hm]
  obtain ⟨k, k1, k2, k3⟩ := szValueS_some p m hp hl (by omega) (by omega)
  simp only [hm, decide_false, Bool.false_eq_true, if_false, k1, Option.bind_some]
  by_cases hk : k < 0
  · simp [hk]
  have hlen : p.length ≤ 1048576 := by have := k3 (by omega); omega
  obtain ⟨r, e1, e2⟩ := within_eq x p hlen
  simp only [hk, decide_false, Bool.false_eq_true, if_false, wToValue, toValueS_id p hlen, e1, e2, eqValue_self, eqValueS_self p hlen, Option.bind_some]
  simp

end Go.Ab
