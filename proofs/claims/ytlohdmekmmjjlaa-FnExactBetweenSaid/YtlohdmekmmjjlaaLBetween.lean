/- The law of Between: what the functions compute, in plain Lean. -/
import Derived.Test.YtlohdmekmmjjlaaFnB
namespace Go.Ab
open Go
theorem iBoolValue_s (b : Bool) : iBoolValue b = sBoolValue b := by
  cases b <;> rfl
theorem sBoolValue_def (b : Bool) : sBoolValue b = some ⟨3, if b then 1 else 0, []⟩ := by
  cases b <;> rfl
theorem valueOk_eq (x : GValue) : iValueOk x = sValueOk x := by
  unfold iValueOk sValueOk sL1In
  simp only [Option.bind_eq_bind, Option.bind_some]
  split
  · rfl
  split
  · rfl
  split
  · rfl
  split
  · congr 1
    have : (if (decide (x.num = 0)) = true then true else (decide (x.num = 1))) = (if (decide (0 ≤ x.num)) = true then (decide (x.num ≤ 1)) else false) := by
      simp only [decide_eq_true_eq, Bool.if_true_left, Bool.if_false_right, Bool.decide_eq_true]
      by_cases h0 : x.num = 0
      · simp [h0]
      · by_cases h1 : x.num = 1
        · simp [h1]
        · simp [h0, h1]; omega
    rw [this]
  · rfl
theorem or3 (a b c : Int) : gCmp_Or_int [a, b, c] = some (if a ≠ 0 then a else if b ≠ 0 then b else c) := by
  have w1 : IntKind.wrap .i64 (0 + 1) = 1 := by decide
  have w2 : IntKind.wrap .i64 (1 + 1) = 2 := by decide
  have w3 : IntKind.wrap .i64 (2 + 1) = 3 := by decide
  unfold gCmp_Or_int
  rw [gCmp_Or_int_L0]
  rw [w1, gCmp_Or_int_L0]
  rw [w2, gCmp_Or_int_L0]
  rw [w3, gCmp_Or_int_L0]
  simp only [idx]
  by_cases ha : a = 0 <;> by_cases hb : b = 0 <;> by_cases hc : c = 0 <;> simp [ha, hb, hc]
theorem cmpI_def (a b : Int) : gCmp_Compare_int a b = some (if a < b then -1 else if b < a then 1 else 0) := by
  unfold gCmp_Compare_int gCmp_isNaN_int
  simp only [Option.bind_eq_bind, Option.bind_some, decide_true, Bool.not_true, Bool.false_eq_true, if_false, decide_eq_true_eq]
  split
  · rfl
  · split <;> rfl
theorem cmpS_def (a b : List UInt8) : gCmp_Compare_string a b = some (if Op.bytesLess a b = true then -1 else if (!(Op.bytesLess a b || decide (a = b))) = true then 1 else 0) := by
  unfold gCmp_Compare_string gCmp_isNaN_string
  simp only [Option.bind_eq_bind, Option.bind_some, decide_true, Bool.not_true, Bool.false_eq_true, if_false]
  split
  · rfl
  · split <;> rfl
theorem order_eq (x y : GValue) : iOrder x y = sOrder x y := by
  unfold iOrder sOrder
  simp only [Option.bind_eq_bind, cmpI_def, cmpS_def, or3, Option.bind_some, decide_eq_true_eq]
  by_cases h1 : x.kind < y.kind
  · simp [h1]
  by_cases h2 : y.kind < x.kind
  · simp [h1, h2]
  by_cases h3 : x.num < y.num
  · simp [h1, h2, h3]
  by_cases h4 : y.num < x.num
  · simp [h1, h2, h3, h4]
  simp only [h1, h2, h3, h4, if_false, ne_eq, not_true_eq_false]
  split
  · rfl
  · split <;> rfl
theorem fitsOp_le (k : Int) (hk : k ≤ 8) (x : GValue) : iFitsOp k x = some true := by
  unfold iFitsOp
  simp [hk]
theorem null_def (x : GValue) : sL6Null x = some (decide (x.kind = 0)) := rfl
theorem is_def (x : GValue) (k : Int) : sL6Is x k = some (decide (x.kind = k) || decide (x.kind = 0)) := by
  unfold sL6Is
  simp only [null_def]
  by_cases h : x.kind = k <;> simp [h]
theorem valueOk_some (x : GValue) : ∃ b, sValueOk x = some b := by
  rw [← valueOk_eq]
  unfold iValueOk
  repeat (split; exact ⟨_, rfl⟩)
  exact ⟨_, rfl⟩
theorem order_some (x y : GValue) : ∃ b, sOrder x y = some b := by
  unfold sOrder
  repeat (split; exact ⟨_, rfl⟩)
  exact ⟨_, rfl⟩
def gvE (x u : GValue) : Bool := (decide (x.kind = u.kind)) && ((decide (x.num = u.num)) && ((decide (x.text = u.text)) && true))
theorem gvE_def (x u : GValue) : ((decide (x.kind = u.kind)) && ((decide (x.num = u.num)) && ((decide (x.text = u.text)) && true))) = gvE x u := by rw [gvE]
/-- the logic of two values -/
def logicP (k : Int) (x y : GValue) : GValue × Int :=
  if (x.kind = 3 ∨ x.kind = 0) ∧ (y.kind = 3 ∨ y.kind = 0) then
    if gvE x ⟨3, if decide (k = 1) then 1 else 0, []⟩ || gvE y ⟨3, if decide (k = 1) then 1 else 0, []⟩ then (⟨3, if decide (k = 1) then 1 else 0, []⟩, 0) else if x.kind = 0 ∨ y.kind = 0 then (⟨0, 0, []⟩, 0) else (⟨3, if decide (k = 2) then 1 else 0, []⟩, 0)
  else (⟨0, 0, []⟩, 1)
theorem sLogic_def (k : Int) (x y : GValue) : sL6Logic k x y = some (logicP k x y) := by
  unfold sL6Logic logicP
  simp only [is_def, null_def, sBoolValue_def, Option.bind_eq_bind, Option.bind_some, gvE_def]
  have n1 : ∀ u, gvE x u = false ∨ gvE x u = true := fun u => by cases gvE x u <;> simp
  have n2 : ∀ u, gvE y u = false ∨ gvE y u = true := fun u => by cases gvE y u <;> simp
  rcases n1 ⟨3, if decide (k = 1) = true then 1 else 0, []⟩ with e1 | e1 <;> rcases n2 ⟨3, if decide (k = 1) = true then 1 else 0, []⟩ with e2 | e2 <;> rw [e1, e2] <;> clear n1 n2 e1 e2
  all_goals
    by_cases a : x.kind = 3 <;> by_cases b : x.kind = 0 <;> by_cases c : y.kind = 3 <;> by_cases d : y.kind = 0 <;> simp_all
theorem iLogic_def (k : Int) (x y : GValue) : iLogic k x y = some (logicP k x y) := by
  have w1 : IntKind.wrap .i64 (0 + 1) = 1 := by decide
  have w2 : IntKind.wrap .i64 (1 + 1) = 2 := by decide
  unfold iLogic logicP
  rw [iLogic_L0, w1, iLogic_L0, w2, iLogic_L0]
  simp only [iBoolValue_s, sBoolValue_def, Option.bind_eq_bind, Option.bind_some, gvE_def, idx]
  have n1 : ∀ u, gvE x u = false ∨ gvE x u = true := fun u => by cases gvE x u <;> simp
  have n2 : ∀ u, gvE y u = false ∨ gvE y u = true := fun u => by cases gvE y u <;> simp
  rcases n1 ⟨3, if decide (k = 1) = true then 1 else 0, []⟩ with e1 | e1 <;> rcases n2 ⟨3, if decide (k = 1) = true then 1 else 0, []⟩ with e2 | e2 <;> rw [e1, e2] <;> clear n1 n2 e1 e2
  all_goals
    by_cases a : x.kind = 3 <;> by_cases b : x.kind = 0 <;> by_cases c : y.kind = 3 <;> by_cases d : y.kind = 0 <;> simp_all
def cmpP (k o : Int) : Bool := if k = 6 then decide (o ≤ 0) else decide (0 ≤ o)
theorem iCompared_def (k : Int) (hk : k = 6 ∨ k = 8) (x y : GValue) (o : Int) (ho : sOrder x y = some o) : iCompared k x y = some ⟨3, if cmpP k o then 1 else 0, []⟩ := by
  unfold iCompared
  rw [order_eq, ho]
  rcases hk with rfl | rfl <;> simp [iBoolValue_s, sBoolValue_def, cmpP]
theorem sCompared_def (k : Int) (hk : k = 6 ∨ k = 8) (o : Int) : sL6Compare k o = some (cmpP k o) := by
  unfold sL6Compare
  rcases hk with rfl | rfl <;> simp [cmpP]
theorem calc_cmp (k : Int) (hk : k = 6 ∨ k = 8) (x y : GValue) : ∃ r, sCalc k x y = some r ∧ iCalc k x y = some r := by
  obtain ⟨a, ha⟩ := valueOk_some x
  obtain ⟨b, hb⟩ := valueOk_some y
  obtain ⟨o, ho⟩ := order_some x y
  have hk8 : k ≤ 8 := by omega
  have h1 : ¬ k < 1 := by omega
  have h14 : ¬ 14 < k := by omega
  have h2 : ¬ k ≤ 2 := by omega
  have h9 : k ≠ 9 := by omega
  have h10 : k ≠ 10 := by omega
  have h11 : k ≠ 11 := by omega
  have h12 : k ≠ 12 := by omega
  have h13 : k ≠ 13 := by omega
  have h14' : k ≠ 14 := by omega
  have h10' : ¬ 10 ≤ k := by omega
  have g1 : 1 ≤ k := by omega
  have g14 : k ≤ 14 := by omega
  unfold sCalc iCalc sCalc_J0 sL1In sL6Types
  simp only [valueOk_eq, ha, hb, ho, null_def, fitsOp_le k hk8, iCompared_def k hk x y o ho, sCompared_def k hk, sBoolValue_def, Option.bind_eq_bind, Option.bind_some, h1, h14, h2, h9, h10, h11, h12, h13, h14', h10', g1, g14, hk8]
  by_cases e : x.kind = y.kind <;> by_cases c : x.kind = 0 <;> by_cases d : y.kind = 0 <;> cases a <;> cases b <;> simp_all
theorem calc_and (x y : GValue) : ∃ r, sCalc 2 x y = some r ∧ iCalc 2 x y = some r := by
  obtain ⟨a, ha⟩ := valueOk_some x
  obtain ⟨b, hb⟩ := valueOk_some y
  unfold sCalc iCalc sL1In
  simp only [valueOk_eq, ha, hb, sLogic_def, iLogic_def, Option.bind_eq_bind, Option.bind_some]
  cases a <;> cases b <;> simp
theorem between_eq (x y z : GValue) : ∃ r, sBetween x y z = some r ∧ iBetween x y z = some r := by
  obtain ⟨r1, a1, b1⟩ := calc_cmp 8 (by simp) x y
  obtain ⟨r2, a2, b2⟩ := calc_cmp 6 (by simp) x z
  obtain ⟨r3, a3, b3⟩ := calc_and r1.1 r2.1
  unfold sBetween iBetween
  simp only [a1, b1, a2, b2, a3, b3, Option.bind_eq_bind, Option.bind_some]
  split
  · exact ⟨_, rfl, rfl⟩
  split
  · exact ⟨_, rfl, rfl⟩
  exact ⟨_, rfl, rfl⟩
theorem eqValue_self (x : GValue) : wEqValue x x = some true := by
  simp [wEqValue]
theorem fnExactBetween_true (x y z : GValue) : wFnExactBetween x y z = some true := by
  have sz : ∀ (a : GValue) n, ∃ r, wSzValue a n = some r := by
    intro a n
    unfold wSzValue
    split <;> exact ⟨_, rfl⟩
  obtain ⟨r, h1, h2⟩ := between_eq x y z
  obtain ⟨y1, k1⟩ := sz x 1048576
  obtain ⟨y2, k2⟩ := sz y y1
  obtain ⟨y3, k3⟩ := sz z y2
  unfold wFnExactBetween
  simp only [wToValue, k1, k2, k3, h1, h2, eqValue_self, Option.bind_eq_bind, Option.bind_some]
  simp
end Go.Ab
