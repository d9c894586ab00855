/- What the functions compute, in plain Lean. -/
import Derived.Test.YtlohdmekmmjjlaaFWithin
namespace Go.Ab
open Go
/-! base -/

theorem wrap_ok {n : Int} (h1 : -9223372036854775808 ≤ n) (h2 : n ≤ 9223372036854775807) : IntKind.wrap .i64 n = n := by rw [IntKind.wrap_i64]; omega
/-- the next round of a loop over a list -/
theorem wrap_next {i n : Nat} (h : i < n) (hn : n ≤ 4611686018427387904) : IntKind.wrap .i64 ((i : Int) + 1) = ((i + 1 : Nat) : Int) := by rw [wrap_ok] <;> omega
theorem lt_dec (i n : Nat) : decide ((i : Int) < (n : Int)) = decide (i < n) := by simp
theorem idx_nat {α : Type} (l : List α) (i : Nat) : idx l (i : Int) = l[i]? := by simp [idx]
theorem idx_lt {α : Type} {l : List α} {i : Nat} (h : i < l.length) : idx l (i : Int) = some l[i] := by rw [idx_nat]; simp [h]
/-- from the last round backwards -/
theorem back_ind {M : Nat → Prop} {n : Nat} (h0 : M n) (h : ∀ i, i < n → M (i + 1) → M i) : ∀ i, i ≤ n → M i := by
  have : ∀ k i, i + k = n → M i := by
    intro k
    induction k with
    | zero => intro i hi; have : i = n := by omega
              subst this; exact h0
    | succ k ih => intro i hi; exact h i (by omega) (ih (i + 1) (by omega))
  exact fun i hi => this (n - i) i (by omega)
/-- A loop that copies a list element by element into a made one. -/
theorem copy_all {α : Type} {p : List α} {F : Int → List α → Option (List α)} (hn : p.length ≤ 4611686018427387904)
    (hF : ∀ (i : Nat) b, b.length = p.length → F i b = if i < p.length then (idx p i >>= fun v => setG b i v >>= fun c => F (IntKind.wrap .i64 ((i : Int) + 1)) c) else some b) :
    ∀ b, b.length = p.length → F 0 b = some p := by
  have key : ∀ i, i ≤ p.length → ∀ b, b.length = p.length → b.take i = p.take i → F (i : Nat) b = some p := by
    refine back_ind ?_ ?_
    · intro b hb ht
      rw [hF _ _ hb, if_neg (by omega)]
      rw [← hb, List.take_length] at ht
      rw [ht, hb, List.take_length]
    · intro i hi ih b hb ht
      rw [hF _ _ hb, if_pos hi, idx_lt hi]
      have hs : setG b i p[i] = some (b.set i p[i]) := by
        unfold setG; rw [if_pos ⟨by omega, by simp; omega⟩]; simp
      simp only [Option.bind_eq_bind, Option.bind_some, hs, wrap_next hi hn]
      refine ih _ (by simp [hb]) ?_
      rw [List.take_add_one, List.take_add_one]
      have e1 : (b.set i p[i]).take i = b.take i := by rw [List.take_set_of_le (Nat.le_refl _)]
      rw [e1, ht]
      simp [hb, hi]
  intro b hb
  exact key 0 (by omega) b hb (by simp)
theorem mkG_ok {α : Type} {by' : Nat} {n : Nat} {z : α} (h : (n : Int) * by' ≤ 140737488355328) : mkG by' (n : Int) z = some (List.replicate n z) := by
  unfold mkG; rw [if_pos ⟨by omega, h⟩]; simp

/-! calc -/
theorem iBoolValue_s (b : Bool) : iBoolValue b = sBoolValue b := by
  cases b <;> rfl
theorem sBoolValue_def (b : Bool) : sBoolValue b = some ⟨3, if b then 1 else 0, []⟩ := by
  cases b <;> rfl
theorem valueOk_eq (x : GValue) : iValueOk x = sValueOk x := by
  unfold iValueOk sValueOk sL1In
  simp only [Option.bind_eq_bind, Option.bind_some]
  split
  · rfl
  split
  · rfl
  split
  · rfl
  split
  · congr 1
    have : (if (decide (x.num = 0)) = true then true else (decide (x.num = 1))) = (if (decide (0 ≤ x.num)) = true then (decide (x.num ≤ 1)) else false) := by
      simp only [decide_eq_true_eq, Bool.if_true_left, Bool.if_false_right, Bool.decide_eq_true]
      by_cases h0 : x.num = 0
      · simp [h0]
      · by_cases h1 : x.num = 1
        · simp [h1]
        · simp [h0, h1]; omega
    rw [this]
  · rfl
theorem or3 (a b c : Int) : gCmp_Or_int [a, b, c] = some (if a ≠ 0 then a else if b ≠ 0 then b else c) := by
  have w1 : IntKind.wrap .i64 (0 + 1) = 1 := by decide
  have w2 : IntKind.wrap .i64 (1 + 1) = 2 := by decide
  have w3 : IntKind.wrap .i64 (2 + 1) = 3 := by decide
  unfold gCmp_Or_int
  rw [gCmp_Or_int_L0]
  rw [w1, gCmp_Or_int_L0]
  rw [w2, gCmp_Or_int_L0]
  rw [w3, gCmp_Or_int_L0]
  simp only [idx]
  by_cases ha : a = 0 <;> by_cases hb : b = 0 <;> by_cases hc : c = 0 <;> simp [ha, hb, hc]
theorem cmpI_def (a b : Int) : gCmp_Compare_int a b = some (if a < b then -1 else if b < a then 1 else 0) := by
  unfold gCmp_Compare_int gCmp_isNaN_int
  simp only [Option.bind_eq_bind, Option.bind_some, decide_true, Bool.not_true, Bool.false_eq_true, if_false, decide_eq_true_eq]
  split
  · rfl
  · split <;> rfl
theorem cmpS_def (a b : List UInt8) : gCmp_Compare_string a b = some (if Op.bytesLess a b = true then -1 else if (!(Op.bytesLess a b || decide (a = b))) = true then 1 else 0) := by
  unfold gCmp_Compare_string gCmp_isNaN_string
  simp only [Option.bind_eq_bind, Option.bind_some, decide_true, Bool.not_true, Bool.false_eq_true, if_false]
  split
  · rfl
  · split <;> rfl
theorem order_eq (x y : GValue) : iOrder x y = sOrder x y := by
  unfold iOrder sOrder
  simp only [Option.bind_eq_bind, cmpI_def, cmpS_def, or3, Option.bind_some, decide_eq_true_eq]
  by_cases h1 : x.kind < y.kind
  · simp [h1]
  by_cases h2 : y.kind < x.kind
  · simp [h1, h2]
  by_cases h3 : x.num < y.num
  · simp [h1, h2, h3]
  by_cases h4 : y.num < x.num
  · simp [h1, h2, h3, h4]
  simp only [h1, h2, h3, h4, if_false, ne_eq, not_true_eq_false]
  split
  · rfl
  · split <;> rfl
theorem fitsOp_le (k : Int) (hk : k ≤ 8) (x : GValue) : iFitsOp k x = some true := by
  unfold iFitsOp
  simp [hk]
theorem null_def (x : GValue) : sL6Null x = some (decide (x.kind = 0)) := rfl
theorem is_def (x : GValue) (k : Int) : sL6Is x k = some (decide (x.kind = k) || decide (x.kind = 0)) := by
  unfold sL6Is
  simp only [null_def]
  by_cases h : x.kind = k <;> simp [h]
theorem valueOk_some (x : GValue) : ∃ b, sValueOk x = some b := by
  rw [← valueOk_eq]
  unfold iValueOk
  repeat (split; exact ⟨_, rfl⟩)
  exact ⟨_, rfl⟩
theorem order_some (x y : GValue) : ∃ b, sOrder x y = some b := by
  unfold sOrder
  repeat (split; exact ⟨_, rfl⟩)
  exact ⟨_, rfl⟩
def gvE (x u : GValue) : Bool := (decide (x.kind = u.kind)) && ((decide (x.num = u.num)) && ((decide (x.text = u.text)) && true))
theorem gvE_def (x u : GValue) : ((decide (x.kind = u.kind)) && ((decide (x.num = u.num)) && ((decide (x.text = u.text)) && true))) = gvE x u := by rw [gvE]
/-- the logic of two values -/
def logicP (k : Int) (x y : GValue) : GValue × Int :=
  if (x.kind = 3 ∨ x.kind = 0) ∧ (y.kind = 3 ∨ y.kind = 0) then
    if gvE x ⟨3, if decide (k = 1) then 1 else 0, []⟩ || gvE y ⟨3, if decide (k = 1) then 1 else 0, []⟩ then (⟨3, if decide (k = 1) then 1 else 0, []⟩, 0) else if x.kind = 0 ∨ y.kind = 0 then (⟨0, 0, []⟩, 0) else (⟨3, if decide (k = 2) then 1 else 0, []⟩, 0)
  else (⟨0, 0, []⟩, 1)
theorem sLogic_def (k : Int) (x y : GValue) : sL6Logic k x y = some (logicP k x y) := by
  unfold sL6Logic logicP
  simp only [is_def, null_def, sBoolValue_def, Option.bind_eq_bind, Option.bind_some, gvE_def]
  have n1 : ∀ u, gvE x u = false ∨ gvE x u = true := fun u => by cases gvE x u <;> simp
  have n2 : ∀ u, gvE y u = false ∨ gvE y u = true := fun u => by cases gvE y u <;> simp
  rcases n1 ⟨3, if decide (k = 1) = true then 1 else 0, []⟩ with e1 | e1 <;> rcases n2 ⟨3, if decide (k = 1) = true then 1 else 0, []⟩ with e2 | e2 <;> rw [e1, e2] <;> clear n1 n2 e1 e2
  all_goals
    by_cases a : x.kind = 3 <;> by_cases b : x.kind = 0 <;> by_cases c : y.kind = 3 <;> by_cases d : y.kind = 0 <;> simp_all
theorem iLogic_def (k : Int) (x y : GValue) : iLogic k x y = some (logicP k x y) := by
  have w1 : IntKind.wrap .i64 (0 + 1) = 1 := by decide
  have w2 : IntKind.wrap .i64 (1 + 1) = 2 := by decide
  unfold iLogic logicP
  rw [iLogic_L0, w1, iLogic_L0, w2, iLogic_L0]
  simp only [iBoolValue_s, sBoolValue_def, Option.bind_eq_bind, Option.bind_some, gvE_def, idx]
  have n1 : ∀ u, gvE x u = false ∨ gvE x u = true := fun u => by cases gvE x u <;> simp
  have n2 : ∀ u, gvE y u = false ∨ gvE y u = true := fun u => by cases gvE y u <;> simp
  rcases n1 ⟨3, if decide (k = 1) = true then 1 else 0, []⟩ with e1 | e1 <;> rcases n2 ⟨3, if decide (k = 1) = true then 1 else 0, []⟩ with e2 | e2 <;> rw [e1, e2] <;> clear n1 n2 e1 e2
  all_goals
    by_cases a : x.kind = 3 <;> by_cases b : x.kind = 0 <;> by_cases c : y.kind = 3 <;> by_cases d : y.kind = 0 <;> simp_all
def cmpP (k o : Int) : Bool := if k = 3 then decide (o = 0) else if k = 6 then decide (o ≤ 0) else decide (0 ≤ o)
theorem iCompared_def (k : Int) (hk : k = 3 ∨ k = 6 ∨ k = 8) (x y : GValue) (o : Int) (ho : sOrder x y = some o) : iCompared k x y = some ⟨3, if cmpP k o then 1 else 0, []⟩ := by
  unfold iCompared
  rw [order_eq, ho]
  rcases hk with rfl | rfl | rfl <;> simp [iBoolValue_s, sBoolValue_def, cmpP]
theorem sCompared_def (k : Int) (hk : k = 3 ∨ k = 6 ∨ k = 8) (o : Int) : sL6Compare k o = some (cmpP k o) := by
  unfold sL6Compare
  rcases hk with rfl | rfl | rfl <;> simp [cmpP]
/-- true, false or null -/
def tri (v : GValue) : Prop := v = ⟨0, 0, []⟩ ∨ v = ⟨3, 0, []⟩ ∨ v = ⟨3, 1, []⟩
theorem tri_bool (b : Bool) : tri ⟨3, if b then 1 else 0, []⟩ := by cases b <;> simp [tri]
theorem calc_cmp (k : Int) (hk : k = 3 ∨ k = 6 ∨ k = 8) (x y : GValue) : ∃ r, sCalc k x y = some r ∧ iCalc k x y = some r ∧ (r.2 = 0 → tri r.1) := by
  obtain ⟨a, ha⟩ := valueOk_some x
  obtain ⟨b, hb⟩ := valueOk_some y
  obtain ⟨o, ho⟩ := order_some x y
  have hk8 : k ≤ 8 := by omega
  have h1 : ¬ k < 1 := by omega
  have h14 : ¬ 14 < k := by omega
  have h2 : ¬ k ≤ 2 := by omega
  have h9 : k ≠ 9 := by omega
  have h10 : k ≠ 10 := by omega
  have h11 : k ≠ 11 := by omega
  have h12 : k ≠ 12 := by omega
  have h13 : k ≠ 13 := by omega
  have h14' : k ≠ 14 := by omega
  have h10' : ¬ 10 ≤ k := by omega
  have g1 : 1 ≤ k := by omega
  have g14 : k ≤ 14 := by omega
  unfold sCalc iCalc sCalc_J0 sL1In sL6Types
  simp only [valueOk_eq, ha, hb, ho, null_def, fitsOp_le k hk8, iCompared_def k hk x y o ho, sCompared_def k hk, sBoolValue_def, Option.bind_eq_bind, Option.bind_some, h1, h14, h2, h9, h10, h11, h12, h13, h14', h10', g1, g14, hk8]
  have hb := tri_bool (cmpP k o)
  have ht : tri ⟨0, 0, []⟩ := .inl rfl
  by_cases e : x.kind = y.kind <;> by_cases c : x.kind = 0 <;> by_cases d : y.kind = 0 <;> cases a <;> cases b <;> simp_all
theorem calc_logic (k : Int) (hk : k = 1 ∨ k = 2) (x y : GValue) : ∃ r, sCalc k x y = some r ∧ iCalc k x y = some r := by
  obtain ⟨a, ha⟩ := valueOk_some x
  obtain ⟨b, hb⟩ := valueOk_some y
  unfold sCalc iCalc sL1In
  simp only [valueOk_eq, ha, hb, sLogic_def, iLogic_def, Option.bind_eq_bind, Option.bind_some]
  rcases hk with rfl | rfl <;> cases a <;> cases b <;> simp
theorem tri_ok {x : GValue} (h : tri x) : sValueOk x = some true := by rcases h with rfl | rfl | rfl <;> decide
theorem calc_or (x y : GValue) (hx : tri x) (hy : tri y) : ∃ r, sCalc 1 x y = some r ∧ iCalc 1 x y = some r ∧ r.2 = 0 ∧ tri r.1 := by
  unfold sCalc iCalc sL1In
  simp only [valueOk_eq, tri_ok hx, tri_ok hy, sLogic_def, iLogic_def, Option.bind_eq_bind, Option.bind_some]
  refine ⟨logicP 1 x y, by simp, by simp, ?_⟩
  rcases hx with rfl | rfl | rfl <;> rcases hy with rfl | rfl | rfl <;> simp [logicP, gvE, tri]

/-! between2 -/
/-- what a comparison yields -/
theorem calc_res (k : Int) (hk : k = 3 ∨ k = 6 ∨ k = 8) (x y : GValue) (o : Int) (ho : sOrder x y = some o) : ∃ r, sCalc k x y = some r ∧ iCalc k x y = some r ∧
    ((r.2 ≠ 0 ∧ r.1 = ⟨0, 0, []⟩) ∨ (r.2 = 0 ∧ (x.kind = 0 ∨ y.kind = 0) ∧ r.1 = ⟨0, 0, []⟩) ∨ (r.2 = 0 ∧ x.kind ≠ 0 ∧ y.kind ≠ 0 ∧ r.1 = ⟨3, if cmpP k o then 1 else 0, []⟩)) := by
  obtain ⟨a, ha⟩ := valueOk_some x
  obtain ⟨b, hb⟩ := valueOk_some y
  have hk8 : k ≤ 8 := by omega
  have h1 : ¬ k < 1 := by omega
  have h14 : ¬ 14 < k := by omega
  have h2 : ¬ k ≤ 2 := by omega
  have h9 : k ≠ 9 := by omega
  have h10 : k ≠ 10 := by omega
  have h11 : k ≠ 11 := by omega
  have h12 : k ≠ 12 := by omega
  have h13 : k ≠ 13 := by omega
  have h14' : k ≠ 14 := by omega
  have h10' : ¬ 10 ≤ k := by omega
  have g1 : 1 ≤ k := by omega
  have g14 : k ≤ 14 := by omega
  unfold sCalc iCalc sCalc_J0 sL1In sL6Types
  simp only [valueOk_eq, ha, hb, ho, null_def, fitsOp_le k hk8, iCompared_def k hk x y o ho, sCompared_def k hk, sBoolValue_def, Option.bind_eq_bind, Option.bind_some, h1, h14, h2, h9, h10, h11, h12, h13, h14', h10', g1, g14, hk8]
  by_cases e : x.kind = y.kind <;> by_cases c : x.kind = 0 <;> by_cases d : y.kind = 0 <;> cases a <;> cases b <;> simp_all

/-! draw -/
theorem and255 (a : Int) : 0 ≤ IntKind.wrap .i64 ((BitVec.ofInt (IntKind.bits .i64) a &&& BitVec.ofInt (IntKind.bits .i64) 255).toNat : Int) ∧ IntKind.wrap .i64 ((BitVec.ofInt (IntKind.bits .i64) a &&& BitVec.ofInt (IntKind.bits .i64) 255).toNat : Int) ≤ 255 := by
  have h : (BitVec.ofInt (IntKind.bits .i64) a &&& BitVec.ofInt (IntKind.bits .i64) 255).toNat ≤ 255 := by
    rw [BitVec.toNat_and]
    exact Nat.le_trans Nat.and_le_right (by decide)
  rw [wrap_ok (by omega) (by omega)]
  omega
/-- a cursor within its bytes -/
def okCur (c : GL1Cur) : Prop := 0 ≤ c.i ∧ c.i ≤ (c.b.length : Int) ∧ c.b.length ≤ 1048576
theorem l1Byte_ok (c : GL1Cur) (h : okCur c) : ∃ x c', sL1Byte c = some (x, c') ∧ 0 ≤ x ∧ x ≤ 255 ∧ okCur c' := by
  obtain ⟨h1, h2, h3⟩ := h
  unfold sL1Byte sL1Byte_J0
  by_cases hi : c.i < (c.b.length : Int)
  · have e : ∃ v, idx c.b c.i = some v := by
      unfold idx
      rw [if_pos h1]
      exact ⟨_, List.getElem?_eq_getElem (by omega)⟩
    obtain ⟨v, hv⟩ := e
    rw [if_pos (by simpa using hi), hv]
    simp only [Option.bind_eq_bind, Option.bind_some]
    refine ⟨_, _, rfl, (and255 _).1, (and255 _).2, ?_⟩
    refine ⟨?_, ?_, h3⟩
    · show 0 ≤ IntKind.wrap .i64 (c.i + 1); rw [wrap_ok (by omega) (by omega)]; omega
    · show IntKind.wrap .i64 (c.i + 1) ≤ (c.b.length : Int); rw [wrap_ok (by omega) (by omega)]; omega
  · rw [if_neg (by simpa using hi)]
    exact ⟨_, _, rfl, (and255 _).1, (and255 _).2, h1, h2, h3⟩
theorem remG_ok {a b : Int} (h0 : 0 ≤ a) (hb : 0 < b) : ∃ r, remG a b = some r ∧ 0 ≤ r ∧ r < b := by
  unfold remG
  rw [if_neg (by omega)]
  exact ⟨_, rfl, Int.tmod_nonneg _ h0, Int.tmod_lt_of_pos _ hb⟩
theorem l1Below_ok (c : GL1Cur) (n : Int) (h : okCur c) : ∃ x c', sL1Below c n = some (x, c') ∧ 0 ≤ x ∧ (0 < n → x < n) ∧ okCur c' := by
  unfold sL1Below
  by_cases h0 : n ≤ 0
  · rw [if_pos (by simpa using h0)]; exact ⟨0, c, rfl, by omega, by omega, h⟩
  rw [if_neg (by simpa using h0)]
  by_cases h1 : n ≤ 256
  · rw [if_pos (by simpa using h1)]
    obtain ⟨x, c1, e1, a1, b1, o1⟩ := l1Byte_ok c h
    obtain ⟨r, er, r0, r1⟩ := remG_ok a1 (b := n) (by omega)
    simp only [e1, Option.bind_eq_bind, Option.bind_some, er]
    exact ⟨r, c1, rfl, r0, fun _ => r1, o1⟩
  · rw [if_neg (by simpa using h1)]
    obtain ⟨x1, c1, e1, a1, b1, o1⟩ := l1Byte_ok c h
    obtain ⟨x2, c2, e2, a2, b2, o2⟩ := l1Byte_ok c1 o1
    obtain ⟨x3, c3, e3, a3, b3, o3⟩ := l1Byte_ok c2 o2
    obtain ⟨x4, c4, e4, a4, b4, o4⟩ := l1Byte_ok c3 o3
    simp only [e1, e2, e3, e4, Option.bind_eq_bind, Option.bind_some]
    rw [wrap_ok (n := x1 * 16777216) (by omega) (by omega), wrap_ok (n := x2 * 65536) (by omega) (by omega), wrap_ok (n := x3 * 256) (by omega) (by omega), wrap_ok (n := x1 * 16777216 + x2 * 65536) (by omega) (by omega), wrap_ok (n := x1 * 16777216 + x2 * 65536 + x3 * 256) (by omega) (by omega), wrap_ok (n := x1 * 16777216 + x2 * 65536 + x3 * 256 + x4) (by omega) (by omega)]
    obtain ⟨r, er, r0, r1⟩ := remG_ok (a := x1 * 16777216 + x2 * 65536 + x3 * 256 + x4) (by omega) (b := n) (by omega)
    rw [er]
    exact ⟨r, c4, rfl, r0, fun _ => r1, o4⟩
theorem l1Once_ok (c : GL1Cur) (n : Int) (h : okCur c) : ∃ x c', sL1Once c n = some (x, c') ∧ okCur c' := by
  obtain ⟨x, c1, e1, _, _, o1⟩ := l1Below_ok c n h
  unfold sL1Once
  simp only [e1, Option.bind_eq_bind, Option.bind_some]
  exact ⟨_, _, rfl, o1⟩
theorem pick_idx {α : Type} {l : List α} {x : Int} (h0 : 0 ≤ x) (h1 : x < (l.length : Int)) : ∃ v, v ∈ l ∧ idx l x = some v := by
  unfold idx
  rw [if_pos h0]
  exact ⟨_, List.getElem_mem (by omega), List.getElem?_eq_getElem (by omega)⟩
theorem l1Pick_ok (c : GL1Cur) (l : List (List UInt8)) (hl : 0 < l.length) (h : okCur c) : ∃ x c', sL1Pick c l = some (x, c') ∧ x ∈ l ∧ okCur c' := by
  obtain ⟨x, c1, e1, h0, h1, o1⟩ := l1Below_ok c l.length h
  obtain ⟨v, hv, ev⟩ := pick_idx h0 (h1 (by omega))
  unfold sL1Pick
  simp only [e1, ev, Option.bind_eq_bind, Option.bind_some]
  exact ⟨_, _, rfl, hv, o1⟩
theorem l1PickInt_ok (c : GL1Cur) (l : List Int) (hl : 0 < l.length) (h : okCur c) : ∃ x c', sL1PickInt c l = some (x, c') ∧ x ∈ l ∧ okCur c' := by
  obtain ⟨x, c1, e1, h0, h1, o1⟩ := l1Below_ok c l.length h
  obtain ⟨v, hv, ev⟩ := pick_idx h0 (h1 (by omega))
  unfold sL1PickInt
  simp only [e1, ev, Option.bind_eq_bind, Option.bind_some]
  exact ⟨_, _, rfl, hv, o1⟩
theorem l1Whole_ok (c : GL1Cur) (h : okCur c) : ∃ x c', sL1Whole c = some (x, c') ∧ okCur c' := by
  obtain ⟨x, c1, e1, _, _, o1⟩ := l1Below_ok c 3 h
  obtain ⟨y, c2, e2, _, o2⟩ := l1PickInt_ok c1 [0, 1, (-1), 63, 64, (-64), (-65), 127, 128, 16383, 16384, 9223372036854775807, (-9223372036854775808), 4611686018427387904] (by decide) o1
  obtain ⟨z, c3, e3, _, _, o3⟩ := l1Below_ok c1 1000000 o1
  obtain ⟨w, c4, e4, _, _, o4⟩ := l1Below_ok c1 20 o1
  unfold sL1Whole
  simp only [e1, e2, e3, e4, Option.bind_eq_bind, Option.bind_some]
  split
  · exact ⟨_, _, rfl, o2⟩
  split
  · exact ⟨_, _, rfl, o3⟩
  · exact ⟨_, _, rfl, o4⟩

/-! draw2 -/
theorem l1New_ok (p : List Int) (hp : p.length ≤ 1048576) : ∃ c, sL1New p = some c ∧ okCur c := by
  unfold sL1New
  have key : ∀ i, i ≤ p.length → ∀ h, ∃ c, sL1New_L0 p h (i : Nat) = some c ∧ okCur c := by
    refine back_ind ?_ ?_
    · intro h
      rw [sL1New_L0]
      refine ⟨⟨p, 0, h⟩, by simp, ?_⟩
      exact ⟨by show (0:Int) ≤ 0; omega, by show (0:Int) ≤ (p.length : Int); omega, hp⟩
    · intro i hi ih h
      rw [sL1New_L0]
      by_cases h4 : (i : Int) < 4000
      · simp only [lt_dec, hi, h4, decide_true, if_true, idx_lt hi, wrap_next hi (by omega), Option.bind_eq_bind, Option.bind_some]
        exact ih _
      · simp only [lt_dec, hi, h4, decide_true, decide_false, if_true, Bool.false_eq_true, if_false]
        exact ⟨⟨p, 0, h⟩, rfl, by show (0:Int) ≤ 0; omega, by show (0:Int) ≤ (p.length : Int); omega, hp⟩
  exact key 0 (by omega) _
theorem l6Typed_ok (c : GL1Cur) (t : Int) (h : okCur c) : ∃ x c', sL6Typed c t = some (x, c') ∧ okCur c' := by
  obtain ⟨b, c1, e1, o1⟩ := l1Once_ok c 6 h
  obtain ⟨s, c2, e2, _, o2⟩ := l1Pick_ok c1 [[], [97], [98], [97, 98]] (by decide) o1
  obtain ⟨b3, c3, e3, o3⟩ := l1Once_ok c1 2 o1
  obtain ⟨w, c4, e4, o4⟩ := l1Whole_ok c1 o1
  have hb : ∃ v, sBoolValue b3 = some v := by cases b3 <;> exact ⟨_, rfl⟩
  obtain ⟨v, hv⟩ := hb
  unfold sL6Typed
  simp only [e1, e2, e3, e4, hv, sTextValue, sIntValue, Option.bind_eq_bind, Option.bind_some]
  repeat' split
  all_goals first | exact ⟨_, _, rfl, o1⟩ | exact ⟨_, _, rfl, o2⟩ | exact ⟨_, _, rfl, o3⟩ | exact ⟨_, _, rfl, o4⟩
theorem l26Value_ok (c : GL1Cur) (t : Int) (h : okCur c) : ∃ x c', sL26Value c t = some (x, c') ∧ okCur c' := by
  have hs : ∃ b c1, (if (true && ((decide (t = 1)) == true)) = true then sL1Once c 12 else some ((default : Bool), c)) = some (b, c1) ∧ okCur c1 := by
    split
    · exact l1Once_ok c 12 h
    · exact ⟨_, _, rfl, h⟩
  obtain ⟨b, c1, e1, o1⟩ := hs
  obtain ⟨y, c2, e2, _, _, o2⟩ := l1Below_ok c1 5 o1
  obtain ⟨w, c4, e4, o4⟩ := l6Typed_ok c1 t o1
  unfold sL26Value
  rw [e1]
  simp only [e2, e4, sIntValue, Option.bind_eq_bind, Option.bind_some]
  by_cases hq : (if (decide (t = 1)) = true then (!b) else false) = true
  · rw [if_pos hq]; exact ⟨_, _, rfl, o2⟩
  · rw [if_neg hq]; exact ⟨_, _, rfl, o4⟩

/-! draw3 -/
theorem boolValue_some (b : Bool) : ∃ v, sBoolValue b = some v := by cases b <;> exact ⟨_, rfl⟩
theorem l5Right_ok (c : GL1Cur) (h : okCur c) : ∃ x c', sL5Right c = some (x, c') ∧ okCur c' := by
  obtain ⟨b, c1, e1, _, _, o1⟩ := l1Below_ok c 6 h
  obtain ⟨s, c2, e2, _, o2⟩ := l1Pick_ok c1 [[], [97], [98], [105, 116, 39, 115], [97, 98], [255]] (by decide) o1
  obtain ⟨b3, c3, e3, o3⟩ := l1Once_ok c1 2 o1
  obtain ⟨w, c4, e4, o4⟩ := l1Whole_ok c1 o1
  obtain ⟨z, c5, e5, _, _, o5⟩ := l1Below_ok c1 7 o1
  obtain ⟨v, hv⟩ := boolValue_some b3
  unfold sL5Right
  simp only [e1, e2, e3, e4, e5, hv, sTextValue, sIntValue, Option.bind_eq_bind, Option.bind_some]
  repeat' split
  all_goals first | exact ⟨_, _, rfl, o1⟩ | exact ⟨_, _, rfl, o2⟩ | exact ⟨_, _, rfl, o3⟩ | exact ⟨_, _, rfl, o4⟩ | exact ⟨_, _, rfl, o5⟩
theorem catS_ok {a b : List UInt8} (h : a.length + b.length ≤ 1048576) : catS a b = some (a ++ b) := by unfold catS; rw [if_pos (by simp only [maxLen]; omega)]
theorem l5Bent_L1_ok (y : GValue × GL1Cur) : ∀ n (t : List UInt8) (b : List Int) (i h : Int), 400 ≤ n + t.length → okCur ⟨b, i, h⟩ → ∃ x c', sL5Bent_L1 y t b i h = some (x, c') ∧ okCur c' := by
  intro n
  induction n with
  | zero =>
    intro t b i h ht ho
    obtain ⟨q, c1, e1, o1⟩ := l1Once_ok _ 2 ho
    rw [sL5Bent_L1]
    simp only [e1, Option.bind_eq_bind, Option.bind_some, sL5Bent_J0]
    rw [if_neg (by split <;> simp; omega)]
    exact ⟨_, _, rfl, o1⟩
  | succ n ih =>
    intro t b i h ht ho
    obtain ⟨q, c1, e1, o1⟩ := l1Once_ok _ 2 ho
    rw [sL5Bent_L1]
    simp only [e1, Option.bind_eq_bind, Option.bind_some, sL5Bent_J0]
    by_cases hq : (if q = true then (decide ((t.length : Int) < 400)) else false) = true
    · rw [if_pos hq]
      have hl : t.length < 400 := by cases q <;> simp at hq; omega
      rw [catS_ok (by omega)]
      simp only [Option.bind_some]
      rw [catS_ok (by simp; omega)]
      simp only [Option.bind_some]
      exact ih _ _ _ _ (by simp; omega) o1
    · rw [if_neg hq]; exact ⟨_, _, rfl, o1⟩
theorem l5Bent_ok (c : GL1Cur) (h : okCur c) : ∃ x c', sL5Bent c = some (x, c') ∧ okCur c' := by
  obtain ⟨x, c1, e1, o1⟩ := l5Right_ok c h
  obtain ⟨b, c2, e2, _, _, o2⟩ := l1Below_ok c1 14 o1
  obtain ⟨z, c3, e3, _, _, o3⟩ := l1Below_ok c2 6 o2
  obtain ⟨w, c4, e4, o4⟩ := l1Whole_ok c2 o2
  obtain ⟨s, c5, e5, _, o5⟩ := l1Pick_ok c2 [[120], [], [108, 111, 110, 103]] (by decide) o2
  obtain ⟨u, c6, e6, o6⟩ := l5Bent_L1_ok (x, c1) 400 s c5.b c5.i c5.h (by omega) o5
  unfold sL5Bent
  simp only [e1, e2, e3, e4, e5, e6, sL5Bent_J0, Option.bind_eq_bind, Option.bind_some]
  repeat' split
  all_goals first | exact ⟨_, _, rfl, o2⟩ | exact ⟨_, _, rfl, o3⟩ | exact ⟨_, _, rfl, o4⟩ | exact ⟨_, _, rfl, o5⟩ | exact ⟨_, _, rfl, o6⟩

/-! FnWithin -/
instance : DecidableEq GValue := fun x y => if h : x.kind = y.kind ∧ x.num = y.num ∧ x.text = y.text then isTrue (by cases x; cases y; simp_all) else isFalse (by rintro rfl; simp at h)
theorem bytesLess_irr : ∀ l : List UInt8, Op.bytesLess l l = false := by
  intro l
  induction l with
  | nil => rfl
  | cons x l ih => simp [Op.bytesLess, ih]
theorem order_zero (x y : GValue) (o : Int) (h : sOrder x y = some o) : o = 0 ↔ x = y := by
  unfold sOrder at h
  constructor
  · rintro rfl
    repeat (split at h; simp at h)
    rename_i h1 h2 h3 h4 h5 h6
    simp only [decide_eq_true_eq, Bool.not_eq_true', Bool.or_eq_false_iff, not_and, Bool.not_eq_true] at h1 h2 h3 h4 h5 h6
    obtain ⟨a, b, c⟩ := x
    obtain ⟨a', b', c'⟩ := y
    dsimp only at h1 h2 h3 h4 h5 h6
    have e1 : a = a' := by omega
    have e2 : b = b' := by omega
    have e3 : c = c' := by
      have := h6 h5
      simpa using this
    subst e1 e2 e3; rfl
  · rintro rfl
    simp [bytesLess_irr] at h
    exact h.symm
/-- what has been found so far -/
def accW (m n : Bool) : GValue := ⟨if m then 3 else if n then 0 else 3, if m then 1 else 0, []⟩
theorem accW_tri (m n : Bool) : tri (accW m n) := by cases m <;> cases n <;> simp [accW, tri]
theorem calc_or_tri (x y : GValue) (hx : tri x) (hy : tri y) : sCalc 1 x y = some (logicP 1 x y) ∧ iCalc 1 x y = some (logicP 1 x y) := by
  unfold sCalc iCalc sL1In
  simp only [valueOk_eq, tri_ok hx, tri_ok hy, sLogic_def, iLogic_def, Option.bind_eq_bind, Option.bind_some]
  simp
theorem orW_null (m n : Bool) : logicP 1 (accW m n) ⟨0, 0, []⟩ = (accW m true, 0) := by cases m <;> cases n <;> simp [logicP, accW, gvE]
theorem orW_bool (m n b : Bool) : logicP 1 (accW m n) ⟨3, if b then 1 else 0, []⟩ = (accW (m || b) n, 0) := by cases m <;> cases n <;> cases b <;> simp [logicP, accW, gvE]
theorem within_law (p : List GValue) (x : GValue) (hp : p.length ≤ 1048576) : ∀ i, i ≤ p.length → ∀ m n, ∃ r, sWithin_L0 p x (i : Nat) (accW m n).kind (accW m n).num (accW m n).text = some r ∧ iWithin_L0 p x (i : Nat) (accW m n).kind (accW m n).num (accW m n).text = some r ∧
    ((r.2 ≠ 0 ∧ r.1 = ⟨0, 0, []⟩) ∨ (r.2 = 0 ∧ wFnWithin_L0 (x, p) r m n (i : Nat) = some true)) := by
  refine back_ind ?_ ?_
  · intro m n
    rw [sWithin_L0, iWithin_L0]
    refine ⟨(accW m n, 0), by simp, by simp, .inr ⟨rfl, ?_⟩⟩
    rw [wFnWithin_L0]
    simp only [lt_dec, Nat.lt_irrefl, decide_false, Bool.false_eq_true, if_false, sBoolValue_def, Option.bind_eq_bind]
    cases m <;> cases n <;> simp [accW]
  · intro i hi ih m n
    obtain ⟨o, ho⟩ := order_some x p[i]
    obtain ⟨r1, h1, h2, c1⟩ := calc_res 3 (by simp) x p[i] o ho
    rw [sWithin_L0, iWithin_L0]
    have hx : ∀ r, wFnWithin_L0 (x, p) r m n (i : Nat) = wFnWithin_L0 (x, p) r (m || (decide (p[i] = x) && !decide (x.kind = 0))) (n || decide (p[i].kind = 0) || decide (x.kind = 0)) ((i + 1 : Nat) : Int) := by
      intro r
      rw [wFnWithin_L0]
      have e : ∀ u v : GValue, ((decide (u.kind = v.kind)) && ((decide (u.num = v.num)) && ((decide (u.text = v.text)) && true))) = decide (u = v) := by
        rintro ⟨a, b, c⟩ ⟨a', b', c'⟩
        simp [Bool.decide_and]
      simp only [lt_dec, idx_lt hi, wrap_next hi (by omega), hi, decide_true, if_true, e]
      cases m <;> cases n <;> simp [Bool.decide_and] <;> cases decide (p[i] = x) <;> simp
    simp only [lt_dec, idx_lt hi, wrap_next hi (by omega), h1, h2, hi, decide_true, if_true, Option.bind_eq_bind, Option.bind_some]
    rcases c1 with ⟨n1, z1⟩ | ⟨n1, k1, z1⟩ | ⟨n1, k1, k2, z1⟩
    · simp only [n1, decide_false, Bool.not_false, if_true]
      exact ⟨_, rfl, rfl, .inl ⟨n1, rfl⟩⟩
    · obtain ⟨q1, q2⟩ := calc_or_tri (accW m n) ⟨0, 0, []⟩ (accW_tri m n) (.inl rfl)
      obtain ⟨r, s1, s2, s3⟩ := ih m true
      refine ⟨r, ?_, ?_, ?_⟩
      · simp only [n1, z1, decide_true, Bool.not_true, Bool.false_eq_true, if_false]
        rw [show (⟨(accW m n).kind, (accW m n).num, (accW m n).text⟩ : GValue) = accW m n from rfl, q1, orW_null]
        exact s1
      · simp only [n1, z1, decide_true, Bool.not_true, Bool.false_eq_true, if_false]
        rw [show (⟨(accW m n).kind, (accW m n).num, (accW m n).text⟩ : GValue) = accW m n from rfl, q2, orW_null]
        exact s2
      · rcases s3 with s3 | ⟨s3, s4⟩
        · exact .inl s3
        · refine .inr ⟨s3, ?_⟩
          rw [hx]
          have e1 : (n || decide (p[i].kind = 0) || decide (x.kind = 0)) = true := by rcases k1 with k1 | k1 <;> simp [k1]
          have e2 : (decide (p[i] = x) && !decide (x.kind = 0)) = false := by
            by_cases hpx : p[i] = x
            · rw [hpx] at k1
              have k0 : x.kind = 0 := k1.elim id id
              simp [k0]
            · simp [hpx]
          rw [e1, e2, Bool.or_false]
          exact s4
    · obtain ⟨q1, q2⟩ := calc_or_tri (accW m n) ⟨3, if cmpP 3 o then 1 else 0, []⟩ (accW_tri m n) (tri_bool _)
      obtain ⟨r, s1, s2, s3⟩ := ih (m || cmpP 3 o) n
      refine ⟨r, ?_, ?_, ?_⟩
      · simp only [n1, z1, decide_true, Bool.not_true, Bool.false_eq_true, if_false]
        rw [show (⟨(accW m n).kind, (accW m n).num, (accW m n).text⟩ : GValue) = accW m n from rfl, q1, orW_bool]
        exact s1
      · simp only [n1, z1, decide_true, Bool.not_true, Bool.false_eq_true, if_false]
        rw [show (⟨(accW m n).kind, (accW m n).num, (accW m n).text⟩ : GValue) = accW m n from rfl, q2, orW_bool]
        exact s2
      · rcases s3 with s3 | ⟨s3, s4⟩
        · exact .inl s3
        · refine .inr ⟨s3, ?_⟩
          rw [hx]
          have e1 : (n || decide (p[i].kind = 0) || decide (x.kind = 0)) = n := by simp [k1, k2]
          have e2 : (decide (p[i] = x) && !decide (x.kind = 0)) = cmpP 3 o := by
            have := order_zero x p[i] o ho
            simp only [cmpP, if_true, k1, decide_false, Bool.not_false, Bool.and_true]
            by_cases hpx : x = p[i]
            · rw [decide_eq_true (this.2 hpx), decide_eq_true hpx.symm]
            · rw [decide_eq_false (fun h => hpx (this.1 h)), decide_eq_false (fun h => hpx h.symm)]
          rw [e1, e2]
          exact s4
/-- a list of values, drawn -/
theorem drawWithin_L0_ok (y2 y3 : Int × GL1Cur) (h3 : y3.1 ≤ 5) : ∀ k (i : Nat), k = y3.1.toNat - i → ∀ (l : List GValue) b c d, l.length ≤ i → (i : Int) ≤ 5 → okCur ⟨b, c, d⟩ → ∃ r, sDrawWithin_L0 y2 y3 l (i : Nat) b c d = some r ∧ r.2.length ≤ 7 := by
  have fin : ∀ (l : List GValue) b c d, l.length ≤ 5 → okCur ⟨b, c, d⟩ → ∃ r, ((sL1Once ⟨b, c, d⟩ 6) >>= fun (y6 : Bool × GL1Cur) => if y6.1 = true then ((sL5Bent y6.2) >>= fun (y7 : GValue × GL1Cur) => (appG 32 l ([y7.1] : List GValue)) >>= fun (y8 : List GValue) => sDrawWithin_J1 y2 y8 y7.2.b y7.2.i y7.2.h) else (sDrawWithin_J1 y2 l y6.2.b y6.2.i y6.2.h)) = some r ∧ r.2.length ≤ 7 := by
    intro l b c d hl ho
    obtain ⟨q, c1, e1, o1⟩ := l1Once_ok _ 6 ho
    obtain ⟨x, c2, e2, o2⟩ := l5Bent_ok c1 o1
    obtain ⟨u, c3, e3, o3⟩ := l26Value_ok c1 (IntKind.wrap .i64 (1 + y2.1)) o1
    obtain ⟨w, c4, e4, o4⟩ := l26Value_ok c2 (IntKind.wrap .i64 (1 + y2.1)) o2
    have ea : appG 32 l [x] = some (l ++ [x]) := by unfold appG; rw [if_pos (by simp; omega)]
    simp only [e1, e2, ea, Option.bind_eq_bind, Option.bind_some]
    unfold sDrawWithin_J1
    simp only [e3, e4, Option.bind_eq_bind, Option.bind_some]
    split
    · exact ⟨_, rfl, by simp; omega⟩
    · exact ⟨_, rfl, by simp; omega⟩
  intro k
  induction k with
  | zero =>
    intro i hk l b c d hl hi ho
    rw [sDrawWithin_L0, if_neg (by simp; omega)]
    exact fin l b c d (by omega) ho
  | succ k ih =>
    intro i hk l b c d hl hi ho
    rw [sDrawWithin_L0, if_pos (by simp; omega)]
    obtain ⟨u, c3, e3, o3⟩ := l26Value_ok _ (IntKind.wrap .i64 (1 + y2.1)) ho
    have ea : appG 32 l [u] = some (l ++ [u]) := by unfold appG; rw [if_pos (by simp; omega)]
    simp only [e3, ea, Option.bind_eq_bind, Option.bind_some]
    rw [wrap_ok (n := (i : Int) + 1) (by omega) (by omega), show ((i : Int) + 1) = ((i + 1 : Nat) : Int) by omega]
    exact ih (i + 1) (by omega) _ _ _ _ (by simp; omega) (by omega) o3
theorem drawWithin_ok (p : List Int) (hp : p.length ≤ 1048576) : ∃ r, sDrawWithin p = some r ∧ r.2.length ≤ 7 := by
  obtain ⟨c, e0, o0⟩ := l1New_ok p hp
  obtain ⟨b, c1, e1, _, _, o1⟩ := l1Below_ok c 3 o0
  obtain ⟨n, c2, e2, n0, n1, o2⟩ := l1Below_ok c1 5 o1
  unfold sDrawWithin
  simp only [e0, e1, e2, Option.bind_eq_bind, Option.bind_some]
  exact drawWithin_L0_ok (b, c1) (n, c2) (by have := n1 (by omega); simp; omega) _ 0 rfl [] _ _ _ (by simp) (by omega) o2
theorem fnWithin_true (p : List Int) (op : okL okU8 p) : wFnWithin p = some true := by
  unfold wFnWithin wBig
  simp only [Option.bind_eq_bind, Option.bind_some]
  by_cases hb : (1048576 : Int) < (p.length : Int)
  · rw [if_pos (by simpa using hb)]
  rw [if_neg (by simpa using hb)]
  obtain ⟨⟨x, l⟩, hd, hl⟩ := drawWithin_ok p (by omega)
  simp only [hd, Option.bind_some]
  obtain ⟨r, s1, s2, s3⟩ := within_law l x (by dsimp only at hl; omega) 0 (by omega) false false
  unfold iWithin sWithin
  simp only [iBoolValue_s, sBoolValue_def, Option.bind_eq_bind, Option.bind_some]
  have s1' : sWithin_L0 l x 0 3 0 [] = some r := s1
  have s2' : iWithin_L0 l x 0 3 0 [] = some r := s2
  simp only [Bool.false_eq_true, if_false, s1', s2', Option.bind_some, decide_true, Bool.not_true]
  rcases s3 with ⟨s3, s4⟩ | ⟨s3, s4⟩
  · simp [s3, s4]
  · simp only [s3, decide_true, Bool.not_true, Bool.false_eq_true, if_false]
    exact s4

end Go.Ab
