/- What the functions compute, in plain Lean. -/
import Derived.Test.YtefdlkkffkhbgaaFBags
namespace Go.Ab
open Go
/-! bagB -/

theorem wrap_ok {n : Int} (h1 : -9223372036854775808 ≤ n) (h2 : n ≤ 9223372036854775807) : IntKind.wrap .i64 n = n := by rw [IntKind.wrap_i64]; omega
/-- the next round of a loop over a list -/
theorem wrap_next {i n : Nat} (h : i < n) (hn : n ≤ 4611686018427387904) : IntKind.wrap .i64 ((i : Int) + 1) = ((i + 1 : Nat) : Int) := by rw [wrap_ok] <;> omega
theorem lt_dec (i n : Nat) : decide ((i : Int) < (n : Int)) = decide (i < n) := by simp
theorem idx_nat {α : Type} (l : List α) (i : Nat) : idx l (i : Int) = l[i]? := by simp [idx]
theorem idx_lt {α : Type} {l : List α} {i : Nat} (h : i < l.length) : idx l (i : Int) = some l[i] := by rw [idx_nat]; simp [h]
/-- from the last round backwards -/
theorem back_ind {M : Nat → Prop} {n : Nat} (h0 : M n) (h : ∀ i, i < n → M (i + 1) → M i) : ∀ i, i ≤ n → M i := by
  have : ∀ k i, i + k = n → M i := by
    intro k
    induction k with
    | zero => intro i hi; have : i = n := by omega
              subst this; exact h0
    | succ k ih => intro i hi; exact h i (by omega) (ih (i + 1) (by omega))
  exact fun i hi => this (n - i) i (by omega)
/-- A loop that copies a list element by element into a made one. -/
theorem copy_all {α : Type} {p : List α} {F : Int → List α → Option (List α)} (hn : p.length ≤ 4611686018427387904)
    (hF : ∀ (i : Nat) b, b.length = p.length → F i b = if i < p.length then (idx p i >>= fun v => setG b i v >>= fun c => F (IntKind.wrap .i64 ((i : Int) + 1)) c) else some b) :
    ∀ b, b.length = p.length → F 0 b = some p := by
  have key : ∀ i, i ≤ p.length → ∀ b, b.length = p.length → b.take i = p.take i → F (i : Nat) b = some p := by
    refine back_ind ?_ ?_
    · intro b hb ht
      rw [hF _ _ hb, if_neg (by omega)]
      rw [← hb, List.take_length] at ht
      rw [ht, hb, List.take_length]
    · intro i hi ih b hb ht
      rw [hF _ _ hb, if_pos hi, idx_lt hi]
      have hs : setG b i p[i] = some (b.set i p[i]) := by
        unfold setG; rw [if_pos ⟨by omega, by simp; omega⟩]; simp
      simp only [Option.bind_eq_bind, Option.bind_some, hs, wrap_next hi hn]
      refine ih _ (by simp [hb]) ?_
      rw [List.take_add_one, List.take_add_one]
      have e1 : (b.set i p[i]).take i = b.take i := by rw [List.take_set_of_le (Nat.le_refl _)]
      rw [e1, ht]
      simp [hb, hi]
  intro b hb
  exact key 0 (by omega) b hb (by simp)
theorem mkG_ok {α : Type} {by' : Nat} {n : Nat} {z : α} (h : (n : Int) * by' ≤ 140737488355328) : mkG by' (n : Int) z = some (List.replicate n z) := by
  unfold mkG; rw [if_pos ⟨by omega, h⟩]; simp
theorem appG_ok {α : Type} {b : Nat} {l m : List α} (h : (l.length + m.length) * b ≤ 140737488355328) : appG b l m = some (l ++ m) := by unfold appG; rw [if_pos h]
/-- A loop that gathers. -/
theorem gather {α β γ : Type} {p : List α} {f : α → List β} {G : α → List β → Option (List β)} {L : List β → Int → Option γ} {K : List β → Option γ} {c : Nat} (hp : p.length ≤ 4194304)
    (hG : ∀ y ∈ p, ∀ acc : List β, acc.length + (f y).length ≤ c → G y acc = some (acc ++ f y))
    (hL : ∀ (i : Nat) acc, L acc (i : Int) = if (decide ((i : Int) < (p.length : Int))) = true then ((idx p (i : Int)) >>= fun y => (G y acc) >>= fun z => L z (IntKind.wrap .i64 ((i : Int) + 1))) else K acc) :
    ∀ acc : List β, acc.length + (p.flatMap f).length ≤ c → L acc 0 = K (acc ++ p.flatMap f) := by
  have key : ∀ i, i ≤ p.length → ∀ acc : List β, acc.length + ((p.drop i).flatMap f).length ≤ c → L acc (i : Nat) = K (acc ++ (p.drop i).flatMap f) := by
    refine back_ind ?_ ?_
    · intro acc _
      rw [hL]; simp
    · intro i hi ih acc ha
      rw [List.drop_eq_getElem_cons hi, List.flatMap_cons, List.length_append] at ha
      rw [hL, idx_lt hi, wrap_next hi (by omega)]
      simp only [lt_dec, hi, decide_true, if_true, Option.bind_eq_bind, Option.bind_some, hG _ (List.getElem_mem hi) acc (by omega)]
      rw [ih _ (by rw [List.length_append]; omega), List.drop_eq_getElem_cons hi, List.flatMap_cons, List.append_assoc]
  intro acc ha
  simpa using key 0 (by omega) acc (by simpa using ha)
/-- A loop that folds. -/
theorem folded {α β γ : Type} {p : List α} {g : α → β → Option β} {h : α → β → β} {L : β → Int → Option γ} {K : β → Option γ} (hp : p.length ≤ 1048576)
    (hg : ∀ y ∈ p, ∀ b, g y b = some (h y b))
    (hL : ∀ (i : Nat) b, L b (i : Int) = if (decide ((i : Int) < (p.length : Int))) = true then ((idx p (i : Int)) >>= fun y => (g y b) >>= fun z => L z (IntKind.wrap .i64 ((i : Int) + 1))) else K b) :
    ∀ b, L b 0 = K (p.foldl (fun b y => h y b) b) := by
  have key : ∀ i, i ≤ p.length → ∀ b, L b (i : Nat) = K ((p.drop i).foldl (fun b y => h y b) b) := by
    refine back_ind ?_ ?_
    · intro b; rw [hL]; simp
    · intro i hi ih b
      rw [hL, idx_lt hi, wrap_next hi (by omega)]
      simp only [lt_dec, hi, decide_true, if_true, Option.bind_eq_bind, Option.bind_some, hg _ (List.getElem_mem hi)]
      rw [ih, List.drop_eq_getElem_cons hi, List.foldl_cons]
  intro b
  simpa using key 0 (by omega) b
theorem sBoolValue_def (b : Bool) : sBoolValue b = some ⟨3, if b then 1 else 0, []⟩ := by
  cases b <;> rfl
theorem or3 (a b c : Int) : gCmp_Or_int [a, b, c] = some (if a ≠ 0 then a else if b ≠ 0 then b else c) := by
  have w1 : IntKind.wrap .i64 (0 + 1) = 1 := by decide
  have w2 : IntKind.wrap .i64 (1 + 1) = 2 := by decide
  have w3 : IntKind.wrap .i64 (2 + 1) = 3 := by decide
  unfold gCmp_Or_int
  rw [gCmp_Or_int_L0]
  rw [w1, gCmp_Or_int_L0]
  rw [w2, gCmp_Or_int_L0]
  rw [w3, gCmp_Or_int_L0]
  simp only [idx]
  by_cases ha : a = 0 <;> by_cases hb : b = 0 <;> by_cases hc : c = 0 <;> simp [ha, hb, hc]
theorem cmpI_def (a b : Int) : gCmp_Compare_int a b = some (if a < b then -1 else if b < a then 1 else 0) := by
  unfold gCmp_Compare_int gCmp_isNaN_int
  simp only [Option.bind_eq_bind, Option.bind_some, decide_true, Bool.not_true, Bool.false_eq_true, if_false, decide_eq_true_eq]
  split
  · rfl
  · split <;> rfl
theorem cmpS_def (a b : List UInt8) : gCmp_Compare_string a b = some (if Op.bytesLess a b = true then -1 else if (!(Op.bytesLess a b || decide (a = b))) = true then 1 else 0) := by
  unfold gCmp_Compare_string gCmp_isNaN_string
  simp only [Option.bind_eq_bind, Option.bind_some, decide_true, Bool.not_true, Bool.false_eq_true, if_false]
  split
  · rfl
  · split <;> rfl
theorem order_eq (x y : GValue) : iOrder x y = sOrder x y := by
  unfold iOrder sOrder
  simp only [Option.bind_eq_bind, cmpI_def, cmpS_def, or3, Option.bind_some, decide_eq_true_eq]
  by_cases h1 : x.kind < y.kind
  · simp [h1]
  by_cases h2 : y.kind < x.kind
  · simp [h1, h2]
  by_cases h3 : x.num < y.num
  · simp [h1, h2, h3]
  by_cases h4 : y.num < x.num
  · simp [h1, h2, h3, h4]
  simp only [h1, h2, h3, h4, if_false, ne_eq, not_true_eq_false]
  split
  · rfl
  · split <;> rfl
theorem order_some (x y : GValue) : ∃ b, sOrder x y = some b := by
  unfold sOrder
  repeat (split; exact ⟨_, rfl⟩)
  exact ⟨_, rfl⟩
def gvE (x u : GValue) : Bool := (decide (x.kind = u.kind)) && ((decide (x.num = u.num)) && ((decide (x.text = u.text)) && true))
theorem gvE_def (x u : GValue) : ((decide (x.kind = u.kind)) && ((decide (x.num = u.num)) && ((decide (x.text = u.text)) && true))) = gvE x u := by rw [gvE]
/-- the logic of two values -/
def logicP (k : Int) (x y : GValue) : GValue × Int :=
  if (x.kind = 3 ∨ x.kind = 0) ∧ (y.kind = 3 ∨ y.kind = 0) then
    if gvE x ⟨3, if decide (k = 1) then 1 else 0, []⟩ || gvE y ⟨3, if decide (k = 1) then 1 else 0, []⟩ then (⟨3, if decide (k = 1) then 1 else 0, []⟩, 0) else if x.kind = 0 ∨ y.kind = 0 then (⟨0, 0, []⟩, 0) else (⟨3, if decide (k = 2) then 1 else 0, []⟩, 0)
  else (⟨0, 0, []⟩, 1)
def cmpP (k o : Int) : Bool := if k = 3 then decide (o = 0) else if k = 6 then decide (o ≤ 0) else decide (0 ≤ o)
/-- true, false or null -/
def tri (v : GValue) : Prop := v = ⟨0, 0, []⟩ ∨ v = ⟨3, 0, []⟩ ∨ v = ⟨3, 1, []⟩
theorem tri_bool (b : Bool) : tri ⟨3, if b then 1 else 0, []⟩ := by cases b <;> simp [tri]
theorem and255 (a : Int) : 0 ≤ IntKind.wrap .i64 ((BitVec.ofInt (IntKind.bits .i64) a &&& BitVec.ofInt (IntKind.bits .i64) 255).toNat : Int) ∧ IntKind.wrap .i64 ((BitVec.ofInt (IntKind.bits .i64) a &&& BitVec.ofInt (IntKind.bits .i64) 255).toNat : Int) ≤ 255 := by
  have h : (BitVec.ofInt (IntKind.bits .i64) a &&& BitVec.ofInt (IntKind.bits .i64) 255).toNat ≤ 255 := by
    rw [BitVec.toNat_and]
    exact Nat.le_trans Nat.and_le_right (by decide)
  rw [wrap_ok (by omega) (by omega)]
  omega
/-- a cursor within its bytes -/
def okCur (c : GL1Cur) : Prop := 0 ≤ c.i ∧ c.i ≤ (c.b.length : Int) ∧ c.b.length ≤ 1048576
theorem l1Byte_ok (c : GL1Cur) (h : okCur c) : ∃ x c', sL1Byte c = some (x, c') ∧ 0 ≤ x ∧ x ≤ 255 ∧ okCur c' := by
  obtain ⟨h1, h2, h3⟩ := h
  unfold sL1Byte sL1Byte_J0
  by_cases hi : c.i < (c.b.length : Int)
  · have e : ∃ v, idx c.b c.i = some v := by
      unfold idx
      rw [if_pos h1]
      exact ⟨_, List.getElem?_eq_getElem (by omega)⟩
    obtain ⟨v, hv⟩ := e
    rw [if_pos (by simpa using hi), hv]
    simp only [Option.bind_eq_bind, Option.bind_some]
    refine ⟨_, _, rfl, (and255 _).1, (and255 _).2, ?_⟩
    refine ⟨?_, ?_, h3⟩
    · show 0 ≤ IntKind.wrap .i64 (c.i + 1); rw [wrap_ok (by omega) (by omega)]; omega
    · show IntKind.wrap .i64 (c.i + 1) ≤ (c.b.length : Int); rw [wrap_ok (by omega) (by omega)]; omega
  · rw [if_neg (by simpa using hi)]
    exact ⟨_, _, rfl, (and255 _).1, (and255 _).2, h1, h2, h3⟩
theorem remG_ok {a b : Int} (h0 : 0 ≤ a) (hb : 0 < b) : ∃ r, remG a b = some r ∧ 0 ≤ r ∧ r < b := by
  unfold remG
  rw [if_neg (by omega)]
  exact ⟨_, rfl, Int.tmod_nonneg _ h0, Int.tmod_lt_of_pos _ hb⟩
theorem l1Below_ok (c : GL1Cur) (n : Int) (h : okCur c) : ∃ x c', sL1Below c n = some (x, c') ∧ 0 ≤ x ∧ (0 < n → x < n) ∧ okCur c' := by
  unfold sL1Below
  by_cases h0 : n ≤ 0
  · rw [if_pos (by simpa using h0)]; exact ⟨0, c, rfl, by omega, by omega, h⟩
  rw [if_neg (by simpa using h0)]
  by_cases h1 : n ≤ 256
  · rw [if_pos (by simpa using h1)]
    obtain ⟨x, c1, e1, a1, b1, o1⟩ := l1Byte_ok c h
    obtain ⟨r, er, r0, r1⟩ := remG_ok a1 (b := n) (by omega)
    simp only [e1, Option.bind_eq_bind, Option.bind_some, er]
    exact ⟨r, c1, rfl, r0, fun _ => r1, o1⟩
  · rw [if_neg (by simpa using h1)]
    obtain ⟨x1, c1, e1, a1, b1, o1⟩ := l1Byte_ok c h
    obtain ⟨x2, c2, e2, a2, b2, o2⟩ := l1Byte_ok c1 o1
    obtain ⟨x3, c3, e3, a3, b3, o3⟩ := l1Byte_ok c2 o2
    obtain ⟨x4, c4, e4, a4, b4, o4⟩ := l1Byte_ok c3 o3
    simp only [e1, e2, e3, e4, Option.bind_eq_bind, Option.bind_some]
    rw [wrap_ok (n := x1 * 16777216) (by omega) (by omega), wrap_ok (n := x2 * 65536) (by omega) (by omega), wrap_ok (n := x3 * 256) (by omega) (by omega), wrap_ok (n := x1 * 16777216 + x2 * 65536) (by omega) (by omega), wrap_ok (n := x1 * 16777216 + x2 * 65536 + x3 * 256) (by omega) (by omega), wrap_ok (n := x1 * 16777216 + x2 * 65536 + x3 * 256 + x4) (by omega) (by omega)]
    obtain ⟨r, er, r0, r1⟩ := remG_ok (a := x1 * 16777216 + x2 * 65536 + x3 * 256 + x4) (by omega) (b := n) (by omega)
    rw [er]
    exact ⟨r, c4, rfl, r0, fun _ => r1, o4⟩
theorem l1Once_ok (c : GL1Cur) (n : Int) (h : okCur c) : ∃ x c', sL1Once c n = some (x, c') ∧ okCur c' := by
  obtain ⟨x, c1, e1, _, _, o1⟩ := l1Below_ok c n h
  unfold sL1Once
  simp only [e1, Option.bind_eq_bind, Option.bind_some]
  exact ⟨_, _, rfl, o1⟩
theorem pick_idx {α : Type} {l : List α} {x : Int} (h0 : 0 ≤ x) (h1 : x < (l.length : Int)) : ∃ v, v ∈ l ∧ idx l x = some v := by
  unfold idx
  rw [if_pos h0]
  exact ⟨_, List.getElem_mem (by omega), List.getElem?_eq_getElem (by omega)⟩
theorem l1Pick_ok (c : GL1Cur) (l : List (List UInt8)) (hl : 0 < l.length) (h : okCur c) : ∃ x c', sL1Pick c l = some (x, c') ∧ x ∈ l ∧ okCur c' := by
  obtain ⟨x, c1, e1, h0, h1, o1⟩ := l1Below_ok c l.length h
  obtain ⟨v, hv, ev⟩ := pick_idx h0 (h1 (by omega))
  unfold sL1Pick
  simp only [e1, ev, Option.bind_eq_bind, Option.bind_some]
  exact ⟨_, _, rfl, hv, o1⟩
theorem l1PickInt_ok (c : GL1Cur) (l : List Int) (hl : 0 < l.length) (h : okCur c) : ∃ x c', sL1PickInt c l = some (x, c') ∧ x ∈ l ∧ okCur c' := by
  obtain ⟨x, c1, e1, h0, h1, o1⟩ := l1Below_ok c l.length h
  obtain ⟨v, hv, ev⟩ := pick_idx h0 (h1 (by omega))
  unfold sL1PickInt
  simp only [e1, ev, Option.bind_eq_bind, Option.bind_some]
  exact ⟨_, _, rfl, hv, o1⟩
theorem l1Whole_ok (c : GL1Cur) (h : okCur c) : ∃ x c', sL1Whole c = some (x, c') ∧ okCur c' := by
  obtain ⟨x, c1, e1, _, _, o1⟩ := l1Below_ok c 3 h
  obtain ⟨y, c2, e2, _, o2⟩ := l1PickInt_ok c1 [0, 1, (-1), 63, 64, (-64), (-65), 127, 128, 16383, 16384, 9223372036854775807, (-9223372036854775808), 4611686018427387904] (by decide) o1
  obtain ⟨z, c3, e3, _, _, o3⟩ := l1Below_ok c1 1000000 o1
  obtain ⟨w, c4, e4, _, _, o4⟩ := l1Below_ok c1 20 o1
  unfold sL1Whole
  simp only [e1, e2, e3, e4, Option.bind_eq_bind, Option.bind_some]
  split
  · exact ⟨_, _, rfl, o2⟩
  split
  · exact ⟨_, _, rfl, o3⟩
  · exact ⟨_, _, rfl, o4⟩
theorem l1New_ok (p : List Int) (hp : p.length ≤ 1048576) : ∃ c, sL1New p = some c ∧ okCur c := by
  unfold sL1New
  have key : ∀ i, i ≤ p.length → ∀ h, ∃ c, sL1New_L0 p h (i : Nat) = some c ∧ okCur c := by
    refine back_ind ?_ ?_
    · intro h
      rw [sL1New_L0]
      refine ⟨⟨p, 0, h⟩, by simp, ?_⟩
      exact ⟨by show (0:Int) ≤ 0; omega, by show (0:Int) ≤ (p.length : Int); omega, hp⟩
    · intro i hi ih h
      rw [sL1New_L0]
      by_cases h4 : (i : Int) < 4000
      · simp only [lt_dec, hi, h4, decide_true, if_true, idx_lt hi, wrap_next hi (by omega), Option.bind_eq_bind, Option.bind_some]
        exact ih _
      · simp only [lt_dec, hi, h4, decide_true, decide_false, if_true, Bool.false_eq_true, if_false]
        exact ⟨⟨p, 0, h⟩, rfl, by show (0:Int) ≤ 0; omega, by show (0:Int) ≤ (p.length : Int); omega, hp⟩
  exact key 0 (by omega) _
theorem l6Typed_ok (c : GL1Cur) (t : Int) (h : okCur c) : ∃ x c', sL6Typed c t = some (x, c') ∧ okCur c' := by
  obtain ⟨b, c1, e1, o1⟩ := l1Once_ok c 6 h
  obtain ⟨s, c2, e2, _, o2⟩ := l1Pick_ok c1 [[], [97], [98], [97, 98]] (by decide) o1
  obtain ⟨b3, c3, e3, o3⟩ := l1Once_ok c1 2 o1
  obtain ⟨w, c4, e4, o4⟩ := l1Whole_ok c1 o1
  have hb : ∃ v, sBoolValue b3 = some v := by cases b3 <;> exact ⟨_, rfl⟩
  obtain ⟨v, hv⟩ := hb
  unfold sL6Typed
  simp only [e1, e2, e3, e4, hv, sTextValue, sIntValue, Option.bind_eq_bind, Option.bind_some]
  repeat' split
  all_goals first | exact ⟨_, _, rfl, o1⟩ | exact ⟨_, _, rfl, o2⟩ | exact ⟨_, _, rfl, o3⟩ | exact ⟨_, _, rfl, o4⟩
theorem ofBytes_ok (l : List Int) (h : ∀ v ∈ l, 0 ≤ v ∧ v < 256) : ∃ s, ofBytes l = some s := by
  unfold ofBytes
  rw [if_pos (by simpa using h)]
  exact ⟨_, rfl⟩
/-- it answers, and well -/
def Yes {α : Type} (m : Option α) (Q : α → Prop) : Prop := ∃ r, m = some r ∧ Q r
theorem Yes.bind {α β : Type} {m : Option α} {k : α → Option β} {Q : α → Prop} {R : β → Prop} (h : Yes m Q) (hk : ∀ x, Q x → Yes (k x) R) : Yes (m >>= k) R := by
  obtain ⟨x, e, hx⟩ := h
  obtain ⟨r, e2, hr⟩ := hk x hx
  exact ⟨r, by rw [e]; exact e2, hr⟩
theorem Yes.some {α : Type} {x : α} {Q : α → Prop} (h : Q x) : Yes (some x) Q := ⟨x, rfl, h⟩
theorem Yes.mono {α : Type} {m : Option α} {Q R : α → Prop} (h : Yes m Q) (hk : ∀ x, Q x → R x) : Yes m R := by
  obtain ⟨x, e, hx⟩ := h; exact ⟨x, e, hk x hx⟩
theorem Yes.ite {α : Type} {c : Prop} [Decidable c] {m m' : Option α} {Q : α → Prop} (h : c → Yes m Q) (h' : ¬ c → Yes m' Q) : Yes (if c then m else m') Q := by
  split
  · exact h (by assumption)
  · exact h' (by assumption)
theorem below_y (c : GL1Cur) (n : Int) (h : okCur c) : Yes (sL1Below c n) fun r => 0 ≤ r.1 ∧ (0 < n → r.1 < n) ∧ okCur r.2 := by
  obtain ⟨x, c', e, h1, h2, h3⟩ := l1Below_ok c n h; exact ⟨_, e, h1, h2, h3⟩
theorem once_y (c : GL1Cur) (n : Int) (h : okCur c) : Yes (sL1Once c n) fun r => okCur r.2 := by
  obtain ⟨x, c', e, h1⟩ := l1Once_ok c n h; exact ⟨_, e, h1⟩
theorem once_g (p : Bool) (b : Bool) (c : GL1Cur) (n : Int) (h : okCur c) : Yes (if (true && (p == b)) = true then sL1Once c n else some ((default : Bool), c)) fun r => okCur r.2 := Yes.ite (fun _ => once_y c n h) fun _ => Yes.some h
theorem pick_y (c : GL1Cur) (l : List (List UInt8)) (hl : 0 < l.length) (h : okCur c) : Yes (sL1Pick c l) fun r => okCur r.2 := by
  obtain ⟨x, c', e, _, h1⟩ := l1Pick_ok c l hl h; exact ⟨_, e, h1⟩
theorem pickI_y (c : GL1Cur) (l : List Int) (hl : 0 < l.length) (h : okCur c) : Yes (sL1PickInt c l) fun r => okCur r.2 := by
  obtain ⟨x, c', e, _, h1⟩ := l1PickInt_ok c l hl h; exact ⟨_, e, h1⟩
theorem app_y {α : Type} {b : Nat} {l m : List α} (h : (l.length + m.length) * b ≤ 140737488355328) : Yes (appG b l m) fun r => r = l ++ m := ⟨_, appG_ok h, rfl⟩
theorem pickM_y (c : GL1Cur) (l : List (List UInt8)) (hl : 0 < l.length) (h : okCur c) : Yes (sL1Pick c l) fun r => r.1 ∈ l ∧ okCur r.2 := by
  obtain ⟨x, c', e, h0, h1⟩ := l1Pick_ok c l hl h; exact ⟨_, e, h0, h1⟩
/-- A loop that ends with false at the first element that is not good. -/
theorem loopP {n : Nat} {L : Int → Option Bool} {good : Nat → Prop} {KP : Prop}
    (hstep : ∀ i, i < n → (good i → L (i : Nat) = L ((i + 1 : Nat) : Int)) ∧ (¬ good i → L (i : Nat) = some false))
    (hend : ∃ b, L (n : Nat) = some b ∧ (b = true ↔ KP)) : ∃ b, L 0 = some b ∧ (b = true ↔ (∀ i, i < n → good i) ∧ KP) := by
  have key : ∀ i, i ≤ n → ∃ b, L (i : Nat) = some b ∧ (b = true ↔ (∀ k, i ≤ k → k < n → good k) ∧ KP) := by
    refine back_ind ?_ ?_
    · obtain ⟨b, h1, h2⟩ := hend
      exact ⟨b, h1, h2.trans ⟨fun h => ⟨fun k h1 h2 => by omega, h⟩, fun h => h.2⟩⟩
    · intro i hi ih
      obtain ⟨b, h1, h2⟩ := ih
      obtain ⟨s1, s2⟩ := hstep i hi
      by_cases hg : good i
      · refine ⟨b, (s1 hg).trans h1, h2.trans ⟨fun h => ⟨fun k k1 k2 => ?_, h.2⟩, fun h => ⟨fun k k1 k2 => h.1 k (by omega) k2, h.2⟩⟩⟩
        by_cases e : k = i
        · subst e; exact hg
        · exact h.1 k (by omega) k2
      · refine ⟨false, s2 hg, ?_⟩
        simp only [Bool.false_eq_true, false_iff, not_and]
        intro h
        exact absurd (h i (by omega) hi) hg
  obtain ⟨b, h1, h2⟩ := key 0 (by omega)
  exact ⟨b, h1, h2.trans ⟨fun h => ⟨fun k hk => h.1 k (by omega) hk, h.2⟩, fun h => ⟨fun k _ hk => h.1 k hk, h.2⟩⟩⟩
theorem iff_eq {a b : Bool} {P Q : Prop} (h1 : a = true ↔ P) (h2 : b = true ↔ Q) (h : P ↔ Q) : a = b := by
  rw [Bool.eq_iff_iff]; exact h1.trans (h.trans h2.symm)
/-- two loops that do the same -/
theorem loop_same {γ : Type} {n : Nat} {L M : Int → Option γ} (hstep : ∀ i, i < n → L ((i + 1 : Nat) : Int) = M ((i + 1 : Nat) : Int) → (∃ r, L ((i + 1 : Nat) : Int) = some r) → L (i : Nat) = M (i : Nat) ∧ ∃ r, L (i : Nat) = some r)
    (hend : L (n : Nat) = M (n : Nat) ∧ ∃ r, L (n : Nat) = some r) : L 0 = M 0 ∧ ∃ r, L 0 = some r := by
  have key : ∀ i, i ≤ n → L (i : Nat) = M (i : Nat) ∧ ∃ r, L (i : Nat) = some r :=
    back_ind hend fun i hi ih => hstep i hi ih.1 ih.2
  exact key 0 (by omega)

/-! bagO -/
/-! orders -/
structure Ord3 {α : Type} (c : α → α → Int) : Prop where
  neg : ∀ a b, c b a = - c a b
  tr : ∀ a b d, c a b ≤ 0 → c b d ≤ 0 → c a d ≤ 0
theorem Ord3.lt {α : Type} {c : α → α → Int} (h : Ord3 c) {a b d : α} (h1 : c a b < 0) (h2 : c b d ≤ 0) : c a d < 0 := by
  by_cases h3 : c a d < 0
  · exact h3
  · have e1 := h.neg a d
    have e2 := h.tr b d a h2 (by omega)
    have e3 := h.neg a b
    omega
theorem Ord3.lt' {α : Type} {c : α → α → Int} (h : Ord3 c) {a b d : α} (h1 : c a b ≤ 0) (h2 : c b d < 0) : c a d < 0 := by
  by_cases h3 : c a d < 0
  · exact h3
  · have e1 := h.neg a d
    have e2 := h.tr d a b (by omega) h1
    have e3 := h.neg b d
    omega
theorem Ord3.self {α : Type} {c : α → α → Int} (h : Ord3 c) (a : α) : c a a = 0 := by have := h.neg a a; omega
theorem Ord3.both {α : Type} {c d : α → α → Int} (h : Ord3 c) (k : Ord3 d) : Ord3 fun a b => if c a b ≠ 0 then c a b else d a b := by
  refine ⟨fun a b => ?_, fun a b e => ?_⟩
  · have := h.neg a b
    have := k.neg a b
    split <;> split <;> omega
  · intro h1 h2
    have t1 := h.tr a b e
    have t2 := k.tr a b e
    by_cases e1 : c a b = 0
    · by_cases e2 : c b e = 0
      · have hn1 := h.neg a b
        have hn2 := h.neg b e
        have hn3 := h.neg a e
        have t3 := h.tr e b a (by omega) (by omega)
        have e3 : c a e = 0 := by have := t1 (by omega) (by omega); omega
        rw [if_neg (by omega)] at h1 h2 ⊢
        exact t2 h1 h2
      · rw [if_pos e2] at h2
        have := h.lt' (a := a) (b := b) (d := e) (by omega) (by omega)
        rw [if_pos (by omega)]; omega
    · rw [if_pos e1] at h1
      have h2' : c b e ≤ 0 := by
        split at h2 <;> omega
      have := h.lt (a := a) (b := b) (d := e) (by omega) h2'
      rw [if_pos (by omega)]; omega
def ic (a b : Int) : Int := if a < b then -1 else if b < a then 1 else 0
theorem ic_ord {α : Type} (f : α → Int) : Ord3 fun a b => ic (f a) (f b) := by
  refine ⟨fun a b => ?_, fun a b d => ?_⟩
  · simp only [ic]; (repeat' split) <;> omega
  · simp only [ic]; (repeat' split) <;> omega
theorem bl_irr : ∀ l : List UInt8, Op.bytesLess l l = false
  | [] => rfl
  | x :: l => by simp [Op.bytesLess, bl_irr l]
theorem bl_asym : ∀ {a b : List UInt8}, Op.bytesLess a b = true → Op.bytesLess b a = false
  | [], [], h => by simp [Op.bytesLess] at h
  | [], _ :: _, _ => by simp [Op.bytesLess]
  | _ :: _, [], h => by simp [Op.bytesLess] at h
  | x :: a, y :: b, h => by
    simp only [Op.bytesLess, Bool.or_eq_true, decide_eq_true_eq, Bool.and_eq_true, beq_iff_eq] at h
    simp only [Op.bytesLess, Bool.or_eq_false_iff, decide_eq_false_iff_not, Bool.and_eq_false_iff]
    rcases h with h | ⟨rfl, h⟩
    · refine ⟨by simp only [UInt8.lt_iff_toNat_lt] at h ⊢; omega, .inl ?_⟩
      have : y ≠ x := fun e => by subst e; simp [UInt8.lt_iff_toNat_lt] at h
      simpa using this
    · exact ⟨by simp [UInt8.lt_iff_toNat_lt], .inr (bl_asym h)⟩
theorem bl_tri : ∀ {a b : List UInt8}, Op.bytesLess a b = false → Op.bytesLess b a = false → a = b
  | [], [], _, _ => rfl
  | [], _ :: _, h, _ => by simp [Op.bytesLess] at h
  | _ :: _, [], _, h => by simp [Op.bytesLess] at h
  | x :: a, y :: b, h, k => by
    simp only [Op.bytesLess, Bool.or_eq_false_iff, decide_eq_false_iff_not, UInt8.lt_iff_toNat_lt] at h k
    have e : x = y := UInt8.toNat_inj.1 (by omega)
    subst e
    simp only [beq_self_eq_true, Bool.true_and] at h k
    rw [bl_tri h.2 k.2]
theorem bl_trans : ∀ {a b d : List UInt8}, Op.bytesLess a b = true → Op.bytesLess b d = true → Op.bytesLess a d = true
  | [], _, [], _, k => by simp [Op.bytesLess] at k
  | [], _, _ :: _, _, _ => by simp [Op.bytesLess]
  | _ :: _, [], _, h, _ => by simp [Op.bytesLess] at h
  | _ :: _, _ :: _, [], _, k => by simp [Op.bytesLess] at k
  | x :: a, y :: b, z :: d, h, k => by
    simp only [Op.bytesLess, Bool.or_eq_true, decide_eq_true_eq, Bool.and_eq_true, beq_iff_eq, UInt8.lt_iff_toNat_lt] at h k ⊢
    rcases h with h | ⟨rfl, h⟩
    · rcases k with k | ⟨rfl, k⟩
      · exact .inl (by omega)
      · exact .inl h
    · rcases k with k | ⟨rfl, k⟩
      · exact .inl k
      · exact .inr ⟨rfl, bl_trans h k⟩
def tc (a b : List UInt8) : Int := if Op.bytesLess a b = true then -1 else if a = b then 0 else 1
theorem tc_le {a b : List UInt8} : tc a b ≤ 0 ↔ Op.bytesLess a b = true ∨ a = b := by
  unfold tc
  split
  · rename_i h; simp [h]
  · rename_i h
    split
    · rename_i e; simp [e]
    · rename_i e; simp [h, e]
theorem tc_ord {α : Type} (f : α → List UInt8) : Ord3 fun a b => tc (f a) (f b) := by
  refine ⟨fun a b => ?_, fun a b d h k => ?_⟩
  · generalize f a = x
    generalize f b = y
    unfold tc
    by_cases h : Op.bytesLess x y = true
    · have h2 := bl_asym h
      have h3 : y ≠ x := fun e => by subst e; rw [h] at h2; simp at h2
      rw [if_pos h, if_neg (by simp [h2]), if_neg h3]; rfl
    · by_cases h2 : Op.bytesLess y x = true
      · have h3 : x ≠ y := fun e => by subst e; exact h h2
        rw [if_neg h, if_pos h2, if_neg h3]
      · have := bl_tri (by simpa using h) (by simpa using h2)
        subst this
        simp [h]
  · rw [tc_le] at h k ⊢
    rcases h with h | h
    · rcases k with k | k
      · exact .inl (bl_trans h k)
      · exact .inl (k ▸ h)
    · rw [h]; exact k
/-- the order of two values; of two rows -/
def vo (x y : GValue) : Int := if ic x.kind y.kind ≠ 0 then ic x.kind y.kind else if ic x.num y.num ≠ 0 then ic x.num y.num else tc x.text y.text
theorem vo_ord : Ord3 vo := (ic_ord GValue.kind).both ((ic_ord GValue.num).both (tc_ord GValue.text))
theorem vo_zero {x y : GValue} (h : vo x y = 0) : x = y := by
  unfold vo at h
  split at h
  · rename_i h1; exact absurd h h1
  · split at h
    · rename_i h1; exact absurd h h1
    · rename_i h1 h2
      obtain ⟨a, b, c⟩ := x
      obtain ⟨a', b', c'⟩ := y
      dsimp only at h h1 h2
      have e1 : a = a' := by unfold ic at h1; (repeat' split at h1) <;> omega
      have e2 : b = b' := by unfold ic at h2; (repeat' split at h2) <;> omega
      have e3 : c = c' := by
        unfold tc at h
        split at h
        · omega
        · split at h
          · assumption
          · omega
      subst e1 e2 e3; rfl
theorem sOrder_vo (x y : GValue) : sOrder x y = some (vo x y) := by
  unfold sOrder vo ic tc
  simp only [decide_eq_true_eq]
  by_cases h1 : x.kind < y.kind
  · simp [h1]
  by_cases h2 : y.kind < x.kind
  · simp [h1, h2]
  by_cases h3 : x.num < y.num
  · simp [h1, h2, h3]
  by_cases h4 : y.num < x.num
  · simp [h1, h2, h3, h4]
  simp only [h1, h2, h3, h4, if_false, ne_eq, not_true_eq_false]
  by_cases h5 : Op.bytesLess x.text y.text = true
  · simp [h5]
  · by_cases h6 : x.text = y.text
    · simp [h6, bl_irr]
    · simp [h5, h6]
def ro : List GValue → List GValue → Int
  | [], [] => 0
  | [], _ :: _ => -1
  | _ :: _, [] => 1
  | x :: a, y :: b => if vo x y ≠ 0 then vo x y else ro a b
theorem ro_neg : ∀ a b, ro b a = - ro a b
  | [], [] => rfl
  | [], _ :: _ => rfl
  | _ :: _, [] => rfl
  | x :: a, y :: b => by
    have h1 := vo_ord.neg x y
    have h2 := ro_neg a b
    simp only [ro]
    split <;> split <;> omega
theorem ro_zero : ∀ {a b}, ro a b = 0 → a = b
  | [], [], _ => rfl
  | [], _ :: _, h => by simp [ro] at h
  | _ :: _, [], h => by simp [ro] at h
  | x :: a, y :: b, h => by
    simp only [ro] at h
    split at h
    · rename_i h1; exact absurd h h1
    · rename_i h1
      rw [vo_zero (x := x) (y := y) (by omega), ro_zero h]
theorem ro_tr : ∀ a b d, ro a b ≤ 0 → ro b d ≤ 0 → ro a d ≤ 0
  | [], _, [], _, _ => by simp [ro]
  | [], _, _ :: _, _, _ => by simp [ro]
  | _ :: _, [], _, h, _ => by simp [ro] at h
  | _ :: _, _ :: _, [], _, k => by simp [ro] at k
  | x :: a, y :: b, z :: d, h1, h2 => by
    simp only [ro] at h1 h2 ⊢
    have t2 := ro_tr a b d
    by_cases e1 : vo x y = 0
    · have e1' := vo_zero e1
      subst e1'
      rw [if_neg (by omega)] at h1
      split at h2
      · rename_i h3; rw [if_pos h3]; exact h2
      · rename_i h3; rw [if_neg h3]; exact t2 h1 h2
    · rw [if_pos e1] at h1
      have h2' : vo y z ≤ 0 := by split at h2 <;> omega
      have := vo_ord.lt (a := x) (b := y) (d := z) (by omega) h2'
      rw [if_pos (by omega)]; omega
theorem ro_ord : Ord3 ro := ⟨ro_neg, ro_tr⟩
/-- the rows ascend -/
def Srt (l : List (List GValue)) : Prop := l.Pairwise fun a b => ro a b ≤ 0
theorem srt_uniq : ∀ {l m : List (List GValue)}, Srt l → Srt m → l.Perm m → l = m
  | [], m, _, _, h => by rw [List.nil_perm] at h; exact h.symm
  | x :: l, [], _, _, h => by rw [List.perm_nil] at h; exact h
  | x :: l, y :: m, h1, h2, h => by
    have a1 := List.pairwise_cons.1 h1
    have a2 := List.pairwise_cons.1 h2
    have e : x = y := by
      have hx : x ∈ y :: m := h.subset (by simp)
      have hy : y ∈ x :: l := h.symm.subset (by simp)
      rcases List.mem_cons.1 hx with e | hx
      · exact e
      rcases List.mem_cons.1 hy with e | hy
      · exact e.symm
      have b1 := a1.1 y hy
      have b2 := a2.1 x hx
      have b3 := ro_neg x y
      exact ro_zero (by omega)
    subst e
    rw [srt_uniq a1.2 a2.2 h.cons_inv]

/-! bagS -/
/-! the functions that compare, and the two sorts -/
def smallR (l : List (List GValue)) : Prop := ∀ r ∈ l, r.length ≤ 1000
theorem rowI {a b : List GValue} (ha : a.length ≤ 1000) : iOrderRow a b = some (ro a b) := by
  unfold iOrderRow gSlices_CompareFunc_Simpl_Value_Simpl_Value_impl_Value_impl_Value_iOrder
  have key : ∀ i, i ≤ a.length → i ≤ b.length → gSlices_CompareFunc_Simpl_Value_Simpl_Value_impl_Value_impl_Value_iOrder_L0 a b (i : Nat) = some (ro (a.drop i) (b.drop i)) := by
    refine back_ind ?_ ?_
    · intro hb
      rw [gSlices_CompareFunc_Simpl_Value_Simpl_Value_impl_Value_impl_Value_iOrder_L0, List.drop_length]
      simp only [lt_dec, Nat.lt_irrefl, decide_false, Bool.false_eq_true, if_false, decide_eq_true_eq]
      cases hd : b.drop a.length with
      | nil =>
        have : b.length ≤ a.length := List.drop_eq_nil_iff.1 hd
        rw [if_neg (by omega)]; rfl
      | cons y t =>
        have : a.length < b.length := by
          have := congrArg List.length hd
          simp at this; omega
        rw [if_pos (by omega)]; rfl
    · intro i hi ih hb
      rw [gSlices_CompareFunc_Simpl_Value_Simpl_Value_impl_Value_impl_Value_iOrder_L0]
      simp only [lt_dec, hi, decide_true, if_true, idx_lt hi, Option.bind_eq_bind, Option.bind_some, decide_eq_true_eq]
      rw [List.drop_eq_getElem_cons hi]
      by_cases h2 : i < b.length
      · rw [if_neg (by omega), idx_lt h2, wrap_next hi (by omega), List.drop_eq_getElem_cons h2]
        simp only [Option.bind_some, order_eq, sOrder_vo, Bool.not_eq_true', decide_eq_false_iff_not, ro]
        split
        · rfl
        · exact ih h2
      · have e : b.drop i = [] := List.drop_of_length_le (by omega)
        rw [if_pos (by omega), e]; rfl
  simpa using key 0 (by omega) (by omega)
theorem rowS {a b : List GValue} (ha : a.length ≤ 1000) : sOrderRow a b = some (ro a b) := by
  unfold sOrderRow
  have key : ∀ i, i ≤ a.length → i ≤ b.length → sOrderRow_L0 a b (i : Nat) = some (ro (a.drop i) (b.drop i)) := by
    refine back_ind ?_ ?_
    · intro hb
      rw [sOrderRow_L0, List.drop_length]
      simp only [lt_dec, Nat.lt_irrefl, decide_false, Bool.false_eq_true, if_false, decide_eq_true_eq, Option.bind_eq_bind, Option.bind_some]
      cases hd : b.drop a.length with
      | nil =>
        have : b.length ≤ a.length := List.drop_eq_nil_iff.1 hd
        rw [if_neg (by omega), if_neg (by omega)]; rfl
      | cons y t =>
        have : a.length < b.length := by
          have := congrArg List.length hd
          simp at this; omega
        rw [if_pos (by omega)]; rfl
    · intro i hi ih hb
      rw [sOrderRow_L0]
      simp only [lt_dec, hi, decide_true, if_true, Option.bind_eq_bind, Option.bind_some, decide_eq_true_eq]
      rw [List.drop_eq_getElem_cons hi]
      by_cases h2 : i < b.length
      · rw [if_pos h2, idx_lt hi, idx_lt h2, wrap_next hi (by omega), List.drop_eq_getElem_cons h2]
        simp only [Option.bind_some, sOrder_vo, Bool.not_eq_true', decide_eq_false_iff_not, ro]
        split
        · rfl
        · exact ih h2
      · have e : b.drop i = [] := List.drop_of_length_le (by omega)
        rw [if_neg h2, if_neg (by omega), if_pos (by omega), e]; rfl
  simpa using key 0 (by omega) (by omega)
theorem idx_app {α : Type} (A : List α) (x : α) (Z : List α) : idx (A ++ x :: Z) (A.length : Int) = some x := by rw [idx_nat]; simp
theorem setG_app {α : Type} (A : List α) (x y : α) (Z : List α) : setG (A ++ x :: Z) (A.length : Int) y = some (A ++ y :: Z) := by
  unfold setG; rw [if_pos ⟨by omega, by simp⟩]; simp
theorem srt_ins {A B : List (List GValue)} {u v : List GValue} (h : Srt ((A ++ [u]) ++ B)) (hu : ro u v ≤ 0) (hB : ∀ b ∈ B, ro v b ≤ 0) : Srt ((A ++ [u]) ++ v :: B) := by
  unfold Srt at *
  rw [List.pairwise_append] at h ⊢
  refine ⟨h.1, List.pairwise_cons.2 ⟨hB, h.2.1⟩, fun a ha b hb => ?_⟩
  rcases List.mem_cons.1 hb with rfl | hb
  · rcases List.mem_append.1 ha with ha | ha
    · exact ro_tr _ _ _ ((List.pairwise_append.1 h.1).2.2 a ha u (by simp)) hu
    · simp at ha; subst ha; exact hu
  · exact h.2.2 a ha b hb
theorem insL1 (n x8 : Int) (v : List GValue) (hv : v.length ≤ 1000) : ∀ (k : Nat) (A B C : List (List GValue)), A.length = k → k ≤ 1000 → smallR A → Srt (A ++ B) → (∀ b ∈ B, ro v b ≤ 0) →
    ∃ R, R.Perm (A ++ v :: B) ∧ Srt R ∧ gSlices_insertionSortCmpFunc_Simpl_Value_iOrderRow_L1 0 n x8 (k : Int) (A ++ v :: (B ++ C)) = gSlices_insertionSortCmpFunc_Simpl_Value_iOrderRow_L0 0 n (IntKind.wrap .i64 (x8 + 1)) (R ++ C)
  | 0, A, B, C, hk, _, _, hs, hB => by
    have : A = [] := List.eq_nil_of_length_eq_zero hk
    subst this
    refine ⟨v :: B, List.Perm.refl _, List.pairwise_cons.2 ⟨hB, hs⟩, ?_⟩
    rw [gSlices_insertionSortCmpFunc_Simpl_Value_iOrderRow_L1]
    simp
  | k + 1, A, B, C, hk, hk2, hA, hs, hB => by
    rcases List.eq_nil_or_concat A with rfl | ⟨A', u, rfl⟩
    · simp at hk
    rw [List.concat_eq_append] at *
    have hl : A'.length = k := by simpa using hk
    have hu : u.length ≤ 1000 := hA u (by simp)
    have e0 : ((k + 1 : Nat) : Int) = ((A' ++ [u]).length : Int) := by rw [hk]
    have ew : IntKind.wrap .i64 (((k + 1 : Nat) : Int) - 1) = (A'.length : Int) := by rw [wrap_ok] <;> omega
    have i1 : idx ((A' ++ [u]) ++ v :: (B ++ C)) ((k + 1 : Nat) : Int) = some v := by rw [e0]; exact idx_app _ _ _
    have i2 : idx ((A' ++ [u]) ++ v :: (B ++ C)) (A'.length : Int) = some u := by rw [List.append_assoc]; exact idx_app _ _ _
    rw [gSlices_insertionSortCmpFunc_Simpl_Value_iOrderRow_L1]
    have hp : decide ((0 : Int) < ((k + 1 : Nat) : Int)) = true := by rw [decide_eq_true_eq]; omega
    simp only [hp, beq_self_eq_true, Bool.and_self, if_true, ew, i1, i2, Option.bind_eq_bind, Option.bind_some, rowI hv, decide_eq_true_eq]
    by_cases hr : ro v u < 0
    · rw [if_pos hr]
      have s1 : setG ((A' ++ [u]) ++ v :: (B ++ C)) ((k + 1 : Nat) : Int) u = some ((A' ++ [u]) ++ u :: (B ++ C)) := by rw [e0]; exact setG_app _ _ _ _
      have s2 : idx ((A' ++ [u]) ++ u :: (B ++ C)) (A'.length : Int) = some u := by rw [List.append_assoc]; exact idx_app _ _ _
      have s3 : setG ((A' ++ [u]) ++ u :: (B ++ C)) (A'.length : Int) v = some (A' ++ v :: ((u :: B) ++ C)) := by rw [List.append_assoc]; exact setG_app _ _ _ _
      simp only [s1, s2, s3, Option.bind_some]
      obtain ⟨R, h1, h2, h3⟩ := insL1 n x8 v hv k A' (u :: B) C hl (by omega) (fun r hr => hA r (by simp [hr])) (by simpa using hs) (fun b hb => by
        rcases List.mem_cons.1 hb with rfl | hb
        · omega
        · exact hB b hb)
      refine ⟨R, h1.trans ?_, h2, by rw [hl]; exact h3⟩
      rw [List.append_assoc]
      exact List.Perm.append_left _ (List.Perm.swap _ _ _)
    · rw [if_neg hr]
      have := ro_neg v u
      exact ⟨(A' ++ [u]) ++ v :: B, List.Perm.refl _, srt_ins hs (by omega) hB, by simp⟩
theorem insL0 (n : Nat) : ∀ (Z S : List (List GValue)), S.length + Z.length = n → n ≤ 1000 → smallR (S ++ Z) → Srt S → ∃ R, gSlices_insertionSortCmpFunc_Simpl_Value_iOrderRow_L0 0 (n : Int) (S.length : Int) (S ++ Z) = some R ∧ R.Perm (S ++ Z) ∧ Srt R
  | [], S, hn, _, _, hs => by
    refine ⟨S, ?_, by simp, hs⟩
    rw [gSlices_insertionSortCmpFunc_Simpl_Value_iOrderRow_L0]
    simp at hn
    simp [hn]
  | v :: Z, S, hn, h2, hm, hs => by
    simp only [List.length_cons] at hn
    rw [gSlices_insertionSortCmpFunc_Simpl_Value_iOrderRow_L0]
    have hlt : S.length < n := by omega
    simp only [lt_dec, hlt, decide_true, if_true]
    obtain ⟨R, r1, r2, r3⟩ := insL1 n S.length v (hm v (by simp)) S.length S [] Z rfl (by omega) (fun r hr => hm r (by simp [hr])) (by simpa using hs) (by simp)
    have hR : R.length = S.length + 1 := by simpa using r1.length_eq
    rw [List.nil_append] at r3
    rw [r3, wrap_next hlt (by omega), ← hR]
    obtain ⟨R2, q1, q2, q3⟩ := insL0 n Z R (by omega) h2 (fun r hr => by
      rcases List.mem_append.1 hr with hr | hr
      · have := r1.subset hr
        exact hm r (by simp at this ⊢; rcases this with h | h <;> simp [h])
      · exact hm r (by simp [hr])) r2
    refine ⟨R2, q1, q2.trans ?_, q3⟩
    have := r1.append_right Z
    simpa using this
theorem insAll (l : List (List GValue)) (h : l.length ≤ 1000) (hm : smallR l) : ∃ R, gSlices_insertionSortCmpFunc_Simpl_Value_iOrderRow l 0 (l.length : Int) = some R ∧ R.Perm l ∧ Srt R := by
  unfold gSlices_insertionSortCmpFunc_Simpl_Value_iOrderRow
  have e : IntKind.wrap .i64 (0 + 1) = 1 := by decide
  rw [e]
  cases l with
  | nil =>
    refine ⟨[], ?_, List.Perm.refl _, List.Pairwise.nil⟩
    rw [gSlices_insertionSortCmpFunc_Simpl_Value_iOrderRow_L0]; simp
  | cons x l => exact insL0 (l.length + 1) l [x] (by simp; omega) (by simpa using h) hm (List.pairwise_singleton _ _)
theorem stable_ok (l : List (List GValue)) (h : l.length < 20) (hm : smallR l) : ∃ R, gSlices_SortStableFunc_SSimpl_Value_Simpl_Value_iOrderRow l = some R ∧ R.Perm l ∧ Srt R := by
  obtain ⟨R, h1, h2, h3⟩ := insAll l (by omega) hm
  refine ⟨R, ?_, h2, h3⟩
  unfold gSlices_SortStableFunc_SSimpl_Value_Simpl_Value_iOrderRow gSlices_stableCmpFunc_Simpl_Value_iOrderRow
  rw [gSlices_stableCmpFunc_Simpl_Value_iOrderRow_L0]
  have c1 : decide ((20 : Int) ≤ (l.length : Int)) = false := by rw [decide_eq_false_iff_not]; omega
  have c2 : decide ((20 : Int) < (l.length : Int)) = false := by rw [decide_eq_false_iff_not]; omega
  simp only [c1, Bool.false_eq_true, if_false, h1, Option.bind_eq_bind, Option.bind_some]
  rw [gSlices_stableCmpFunc_Simpl_Value_iOrderRow_L1]
  simp only [c2, Bool.false_eq_true, if_false, Option.bind_some]
theorem clone_id (r : List GValue) (h : r.length ≤ 1000) : gSlices_Clone_Simpl_Value_impl_Value r = some r := by
  unfold gSlices_Clone_Simpl_Value_impl_Value
  split
  · rename_i e
    simp only [decide_eq_true_eq] at e
    have : r = [] := List.eq_nil_of_length_eq_zero (by omega)
    rw [this]
  · rw [appG_ok (by simp; omega)]; rfl
theorem copyRows_id (l : List (List GValue)) (h : l.length ≤ 1000) (hm : smallR l) : iCopyRows_X l = some l := by
  unfold iCopyRows_X
  have := gather (p := l) (f := fun y => [y]) (G := fun y acc => gSlices_Clone_Simpl_Value_impl_Value y >>= fun y2 => appG 24 acc ([y2] : List (List GValue)) >>= fun z => some z) (L := fun acc i => iCopyRows_X_L0 l i acc) (K := some) (c := 1000000) (by omega)
    (fun y hy acc ha => by
      rw [clone_id y (hm y hy)]
      simp only [List.length_singleton] at ha
      simp only [Option.bind_eq_bind, Option.bind_some]
      rw [appG_ok (by simp; omega)]; rfl)
    (fun i acc => by rw [iCopyRows_X_L0]; simp only [Option.bind_eq_bind, Option.bind_assoc, Option.bind_some])
    [] (by
      have : (l.flatMap fun y => [y]) = l := by simp
      rw [this]; simp; omega)
  rw [this]
  simp
theorem sortI (l : List (List GValue)) (h : l.length < 20) (hm : smallR l) : ∃ R, iSortRows l = some R ∧ R.Perm l ∧ Srt R := by
  obtain ⟨R, h1, h2, h3⟩ := stable_ok l h hm
  refine ⟨R, ?_, h2, h3⟩
  unfold iSortRows
  simp only [copyRows_id l (by omega) hm, h1, Option.bind_eq_bind, Option.bind_some]

/-! bagT -/
theorem sRow_id (r : List GValue) (h : r.length ≤ 1000) : sL5Row r = some r := by
  unfold sL5Row
  rw [appG_ok (by simp; omega)]; rfl
theorem sRows_id (l : List (List GValue)) (h : l.length ≤ 1000) (hm : smallR l) : sL5Rows_X l = some l := by
  unfold sL5Rows_X
  have := gather (p := l) (f := fun y => [y]) (G := fun y acc => sL5Row y >>= fun y2 => appG 24 acc ([y2] : List (List GValue)) >>= fun z => some z) (L := fun acc i => sL5Rows_X_L0 l i acc) (K := some) (c := 1000000) (by omega)
    (fun y hy acc ha => by
      rw [sRow_id y (hm y hy)]
      simp only [List.length_singleton] at ha
      simp only [Option.bind_eq_bind, Option.bind_some]
      rw [appG_ok (by simp; omega)]; rfl)
    (fun i acc => by rw [sL5Rows_X_L0]; simp only [Option.bind_eq_bind, Option.bind_assoc, Option.bind_some])
    [] (by
      have : (l.flatMap fun y => [y]) = l := by simp
      rw [this]; simp; omega)
  rw [this]
  simp
theorem subl_app {α : Type} (A B : List α) : subl (A ++ B) 0 (A.length : Int) = some A := by
  unfold subl; rw [if_pos ⟨by omega, by omega, by simp; omega⟩]; simp
theorem subl_app' {α : Type} (A B : List α) : subl (A ++ B) (A.length : Int) ((A ++ B).length : Int) = some B := by
  unfold subl; rw [if_pos ⟨by omega, by simp; omega, by omega⟩, Int.toNat_natCast, Int.toNat_natCast, List.take_length, List.drop_left]
theorem srtL1 (p : List (List GValue)) (i : Nat) (hi : i < p.length) (hp : p.length ≤ 1000) (hv : p[i].length ≤ 1000) : ∀ (k : Nat) (A B : List (List GValue)), A.length = k → (A ++ B).length ≤ 1000 → smallR A → Srt (A ++ B) → (∀ b ∈ B, ro p[i] b ≤ 0) →
    ∃ R, R.Perm (p[i] :: (A ++ B)) ∧ Srt R ∧ sSortRows_L1 p (A ++ B) (i : Int) (k : Int) = sSortRows_L0 p R ((i + 1 : Nat) : Int) := by
  have fin : ∀ (A B : List (List GValue)), (A ++ B).length ≤ 1000 → (subl (A ++ B) 0 (A.length : Int) >>= fun y5 => appG 24 ([] : List (List GValue)) y5 >>= fun y6 => idx p (i : Int) >>= fun y7 => sL5Row y7 >>= fun y8 => appG 24 y6 ([y8] : List (List GValue)) >>= fun y9 => subl (A ++ B) (A.length : Int) ((A ++ B).length : Int) >>= fun y10 => appG 24 y9 y10 >>= fun y11 => sSortRows_L0 p y11 (IntKind.wrap .i64 ((i : Int) + 1))) = sSortRows_L0 p (A ++ p[i] :: B) ((i + 1 : Nat) : Int) := by
    intro A B hl
    have hl' : A.length + B.length ≤ 1000 := by simpa using hl
    rw [subl_app, subl_app', idx_lt hi, wrap_next hi (by omega)]
    simp only [Option.bind_eq_bind, Option.bind_some, sRow_id _ hv]
    rw [appG_ok (by simp; omega)]
    simp only [Option.bind_some, List.nil_append]
    rw [appG_ok (by simp; omega)]
    simp only [Option.bind_some]
    rw [appG_ok (by simp; omega)]
    simp
  intro k
  induction k with
  | zero =>
    intro A B hk hl hA hs hB
    have : A = [] := List.eq_nil_of_length_eq_zero hk
    subst this
    refine ⟨p[i] :: B, List.Perm.refl _, List.pairwise_cons.2 ⟨hB, hs⟩, ?_⟩
    have := fin [] B hl
    simp only [List.length_nil, List.nil_append] at this ⊢
    rw [sSortRows_L1, ← this]
    simp
  | succ k ih =>
    intro A B hk hl hA hs hB
    rcases List.eq_nil_or_concat A with rfl | ⟨A', u, rfl⟩
    · simp at hk
    rw [List.concat_eq_append] at *
    have hlk : A'.length = k := by simpa using hk
    have hu : u.length ≤ 1000 := hA u (by simp)
    have hll : A'.length + 1 + B.length ≤ 1000 := by simp at hl; omega
    have ew : IntKind.wrap .i64 (((k + 1 : Nat) : Int) - 1) = (A'.length : Int) := by rw [wrap_ok] <;> omega
    have i2 : idx ((A' ++ [u]) ++ B) (A'.length : Int) = some u := by rw [List.append_assoc]; exact idx_app _ _ _
    have hp : decide ((0 : Int) < ((k + 1 : Nat) : Int)) = true := by rw [decide_eq_true_eq]; omega
    rw [sSortRows_L1]
    simp only [hp, beq_self_eq_true, Bool.and_self, if_true, ew, i2, idx_lt hi, Option.bind_some, Option.bind_eq_bind, rowS hu, decide_eq_true_eq]
    by_cases hr : 0 < ro u p[i]
    · rw [if_pos hr]
      have hn := ro_neg u p[i]
      obtain ⟨R, h1, h2, h3⟩ := ih A' (u :: B) hlk (by simp; omega) (fun r hr => hA r (by simp [hr])) (by simpa using hs) (fun b hb => by
        rcases List.mem_cons.1 hb with rfl | hb
        · omega
        · exact hB b hb)
      have ea : A' ++ [u] ++ B = A' ++ u :: B := by simp
      rw [ea, hlk]
      exact ⟨R, h1, h2, h3⟩
    · rw [if_neg hr]
      refine ⟨(A' ++ [u]) ++ p[i] :: B, List.perm_middle, srt_ins hs (by omega) hB, ?_⟩
      have := fin (A' ++ [u]) B hl
      rw [hk] at this
      simp only [Option.bind_eq_bind] at this
      rw [idx_lt hi] at this
      simp only [Option.bind_some] at this
      exact this
theorem sortS (l : List (List GValue)) (h : l.length < 20) (hm : smallR l) : ∃ R, sSortRows l = some R ∧ R.Perm l ∧ Srt R := by
  unfold sSortRows
  have key : ∀ i, i ≤ l.length → ∀ acc, acc.Perm (l.take i) → Srt acc → ∃ R, sSortRows_L0 l acc (i : Nat) = some R ∧ R.Perm l ∧ Srt R := by
    refine back_ind ?_ ?_
    · intro acc hp hs
      refine ⟨acc, ?_, by simpa using hp, hs⟩
      rw [sSortRows_L0]; simp
    · intro i hi ih acc hp hs
      rw [sSortRows_L0]
      simp only [lt_dec, hi, decide_true, if_true]
      have hal : acc.length = i := by have := hp.length_eq; simp at this; omega
      obtain ⟨R, h1, h2, h3⟩ := srtL1 l i hi (by omega) (hm _ (List.getElem_mem hi)) acc.length acc [] rfl (by simp; omega) (fun r hr => hm r (List.mem_of_mem_take (hp.subset hr))) (by simpa using hs) (by simp)
      rw [List.append_nil] at h3 h1
      rw [h3]
      refine ih R (h1.trans ?_) h2
      rw [List.take_add_one, List.getElem?_eq_getElem hi]
      simp only [Option.toList_some]
      exact (List.Perm.cons _ hp).trans (List.perm_append_singleton _ _).symm
  exact key 0 (by omega) [] (by simp) List.Pairwise.nil
/-! the same rows -/
theorem eqL {α : Type} {p q : List α} (hl : p.length = q.length) (hp : p.length ≤ 1000) {L : Int → Option Bool} {E : α → α → Option Bool} (hE : ∀ x ∈ p, ∀ y ∈ q, ∃ b, E x y = some b ∧ (b = true ↔ x = y))
    (hL : ∀ i : Nat, L (i : Int) = if (decide ((i : Int) < (p.length : Int))) = true then (idx p (i : Int) >>= fun x => idx q (i : Int) >>= fun y => E x y >>= fun b => if (!b) = true then some false else L (IntKind.wrap .i64 ((i : Int) + 1))) else some true) :
    ∃ b, L 0 = some b ∧ (b = true ↔ p = q) := by
  have key : ∀ i, i ≤ p.length → ∃ b, L (i : Nat) = some b ∧ (b = true ↔ p.drop i = q.drop i) := by
    refine back_ind ?_ ?_
    · refine ⟨true, ?_, ?_⟩
      · rw [hL]; simp
      · rw [List.drop_length, List.drop_of_length_le (by omega)]; simp
    · intro i hi ih
      have hi2 : i < q.length := by omega
      obtain ⟨b, h1, h2⟩ := ih
      obtain ⟨c, e1, e2⟩ := hE p[i] (List.getElem_mem hi) q[i] (List.getElem_mem hi2)
      rw [hL]
      simp only [lt_dec, hi, decide_true, if_true, idx_lt hi, idx_lt hi2, Option.bind_eq_bind, Option.bind_some, e1, wrap_next hi (by omega)]
      rw [List.drop_eq_getElem_cons hi, List.drop_eq_getElem_cons hi2]
      cases c with
      | false =>
        refine ⟨false, by simp, ?_⟩
        have : p[i] ≠ q[i] := fun e => by have := e2.2 e; simp at this
        exact ⟨fun h => by simp at h, fun h => absurd (List.cons.inj h).1 this⟩
      | true =>
        refine ⟨b, by simpa using h1, ?_⟩
        rw [h2]
        exact ⟨fun h => by rw [e2.1 rfl, h], fun h => (List.cons.inj h).2⟩
  simpa using key 0 (by omega)
theorem lenNe {α : Type} {p q : List α} (h : ¬ p.length = q.length) : p ≠ q := fun e => h (e ▸ rfl)
theorem gvQ (x y : GValue) : ((!((decide (x.kind = y.kind)) && ((decide (x.num = y.num)) && ((decide (x.text = y.text)) && true)))) = true) ↔ ¬ x = y := by
  obtain ⟨a, b, c⟩ := x
  obtain ⟨a', b', c'⟩ := y
  by_cases h1 : a = a' <;> by_cases h2 : b = b' <;> by_cases h3 : c = c' <;> simp [h1, h2, h3]
theorem eqRow {L0 : List GValue → List GValue → Int → Option Bool} (hL : ∀ p q i, L0 p q i = if (decide (i < (p.length : Int))) = true then ((idx p i) >>= fun y1 => (idx q i) >>= fun y2 => if (!((decide (y1.kind = y2.kind)) && ((decide (y1.num = y2.num)) && ((decide (y1.text = y2.text)) && true)))) = true then (some false) else (L0 p q (IntKind.wrap .i64 (i + 1)))) else (some true))
    (p q : List GValue) (hp : p.length ≤ 1000) : ∃ b, (if (!decide ((p.length : Int) = (q.length : Int))) = true then (some false) else L0 p q 0) = some b ∧ (b = true ↔ p = q) := by
  by_cases hl : p.length = q.length
  · have e : (decide ((p.length : Int) = (q.length : Int))) = true := by rw [decide_eq_true_eq]; omega
    rw [e]
    simp only [Bool.not_true, Bool.false_eq_true, if_false]
    classical
    refine eqL hl hp (E := fun x y => some (decide (x = y))) (fun x _ y _ => ⟨_, rfl, by simp⟩) (fun i => ?_)
    rw [hL]
    congr 1
    simp only [Option.bind_eq_bind, Option.bind_some]
    congr 1; funext x; congr 1; funext y
    by_cases hxy : x = y
    · rw [if_neg (fun h => (gvQ x y).1 h hxy)]; simp [hxy]
    · rw [if_pos ((gvQ x y).2 hxy)]; simp [hxy]
  · have e : (decide ((p.length : Int) = (q.length : Int))) = false := by rw [decide_eq_false_iff_not]; omega
    rw [e]
    exact ⟨false, rfl, by simp [lenNe hl]⟩
theorem rowEqI (p q : List GValue) (hp : p.length ≤ 1000) : ∃ b, gSlices_Equal_Simpl_Value_impl_Value p q = some b ∧ (b = true ↔ p = q) := by
  unfold gSlices_Equal_Simpl_Value_impl_Value
  exact eqRow (L0 := gSlices_Equal_Simpl_Value_impl_Value_L0) (fun p q i => by rw [gSlices_Equal_Simpl_Value_impl_Value_L0]) p q hp
theorem rowEqS (p q : List GValue) (hp : p.length ≤ 1000) : ∃ b, sL5SameRow p q = some b ∧ (b = true ↔ p = q) := by
  unfold sL5SameRow
  exact eqRow (L0 := sL5SameRow_L0) (fun p q i => by rw [sL5SameRow_L0]) p q hp
theorem sameI (p q : List (List GValue)) (hp : p.length ≤ 1000) (hm : smallR p) : ∃ b, iSameRows p q = some b ∧ (b = true ↔ p = q) := by
  unfold iSameRows gSlices_EqualFunc_SSimpl_Value_SSimpl_Value_Simpl_Value_Simpl_Value_gSlices_Equal_Simpl_Value_impl_Value
  by_cases hl : p.length = q.length
  · have e : (decide ((p.length : Int) = (q.length : Int))) = true := by rw [decide_eq_true_eq]; omega
    rw [e]
    simp only [Bool.not_true, Bool.false_eq_true, if_false]
    obtain ⟨b, h1, h2⟩ := eqL hl hp (L := fun i => gSlices_EqualFunc_SSimpl_Value_SSimpl_Value_Simpl_Value_Simpl_Value_gSlices_Equal_Simpl_Value_impl_Value_L0 q p i) (E := gSlices_Equal_Simpl_Value_impl_Value) (fun x hx y _ => rowEqI x y (hm x hx)) (fun i => by rw [gSlices_EqualFunc_SSimpl_Value_SSimpl_Value_Simpl_Value_Simpl_Value_gSlices_Equal_Simpl_Value_impl_Value_L0])
    exact ⟨b, by rw [h1]; rfl, h2⟩
  · have e : (decide ((p.length : Int) = (q.length : Int))) = false := by rw [decide_eq_false_iff_not]; omega
    rw [e]
    exact ⟨false, rfl, by simp [lenNe hl]⟩
theorem sameS (p q : List (List GValue)) (hp : p.length ≤ 1000) (hm : smallR p) : ∃ b, sSameRows p q = some b ∧ (b = true ↔ p = q) := by
  unfold sSameRows
  by_cases hl : p.length = q.length
  · have e : (decide ((p.length : Int) = (q.length : Int))) = true := by rw [decide_eq_true_eq]; omega
    rw [e]
    simp only [Bool.not_true, Bool.false_eq_true, if_false]
    exact eqL hl hp (L := fun i => sSameRows_L0 p q i) (E := sL5SameRow) (fun x hx y _ => rowEqS x y (hm x hx)) (fun i => by rw [sSameRows_L0])
  · have e : (decide ((p.length : Int) = (q.length : Int))) = false := by rw [decide_eq_false_iff_not]; omega
    rw [e]
    exact ⟨false, rfl, by simp [lenNe hl]⟩
def Few (l : List (List GValue)) : Prop := l.length ≤ 5 ∧ ∀ r ∈ l, r.length ≤ 2
theorem smallR_of {l : List (List GValue)} (h : ∀ r ∈ l, r.length ≤ 2) : smallR l := fun r hr => by have := h r hr; omega
theorem perm_small {l m : List (List GValue)} (h : l.Perm m) (hm : smallR m) : smallR l := fun r hr => hm r (h.subset hr)
theorem bagI (a b : List (List GValue)) (ha : a.length < 20) (hb : b.length < 20) (ma : smallR a) (mb : smallR b) : ∃ c, iSameBag a b = some c ∧ (c = true ↔ a.Perm b) := by
  obtain ⟨r, r1, r2, r3⟩ := sortI a ha ma
  obtain ⟨q, q1, q2, q3⟩ := sortI b hb mb
  obtain ⟨c, c1, c2⟩ := sameI r q (by rw [r2.length_eq]; omega) (perm_small r2 ma)
  refine ⟨c, by unfold iSameBag; simp only [r1, q1, c1, Option.bind_eq_bind, Option.bind_some], c2.trans ⟨fun e => ?_, fun e => ?_⟩⟩
  · subst e; exact r2.symm.trans q2
  · exact srt_uniq r3 q3 (r2.trans (e.trans q2.symm))
theorem bagS' (a b : List (List GValue)) (ha : a.length < 20) (hb : b.length < 20) (ma : smallR a) (mb : smallR b) : ∃ c, sSameBag a b = some c ∧ (c = true ↔ a.Perm b) := by
  obtain ⟨r, r1, r2, r3⟩ := sortS a ha ma
  obtain ⟨q, q1, q2, q3⟩ := sortS b hb mb
  obtain ⟨c, c1, c2⟩ := sameS r q (by rw [r2.length_eq]; omega) (perm_small r2 ma)
  refine ⟨c, by unfold sSameBag; simp only [r1, q1, c1, Option.bind_eq_bind, Option.bind_some], c2.trans ⟨fun e => ?_, fun e => ?_⟩⟩
  · subst e; exact r2.symm.trans q2
  · exact srt_uniq r3 q3 (r2.trans (e.trans q2.symm))

/-! FnBags -/
theorem typed_y (c : GL1Cur) (t : Int) (h : okCur c) : Yes (sL6Typed c t) fun r => okCur r.2 := by
  obtain ⟨x, c', e, k⟩ := l6Typed_ok c t h; exact ⟨_, e, k⟩
theorem rows_y (c : GL1Cur) (h : okCur c) : Yes (sL26Rows c) fun r => Few r.1 ∧ okCur r.2 := by
  unfold sL26Rows
  refine Yes.bind (below_y c 6 h) fun y1 ⟨h0, h1, ho⟩ => ?_
  have h6 := h1 (by decide)
  obtain ⟨n, hn⟩ : ∃ n : Nat, y1.1 = (n : Int) := ⟨y1.1.toNat, by omega⟩
  have key : ∀ i, i ≤ n → ∀ (acc : List (List GValue)) (c : GL1Cur), acc.length = i → (∀ r ∈ acc, r.length ≤ 2) → okCur c → Yes (sL26Rows_L0 y1 acc (i : Nat) c.b c.i c.h) fun r => Few r.1 ∧ okCur r.2 := by
    refine back_ind ?_ ?_
    · intro acc c hl hr ho
      rw [sL26Rows_L0, hn]
      simp only [lt_dec, Nat.lt_irrefl, decide_false, Bool.false_eq_true, if_false]
      exact Yes.some ⟨⟨by show acc.length ≤ 5; omega, hr⟩, ho⟩
    · intro i hi ih acc c hl hr ho
      rw [sL26Rows_L0, hn]
      simp only [lt_dec, hi, decide_true, if_true]
      refine Yes.bind (below_y _ 3 (show okCur ⟨c.b, c.i, c.h⟩ from ho)) fun y2 ⟨_, _, o2⟩ => ?_
      refine Yes.bind (Yes.some (Q := fun _ => True) trivial) fun y3 _ => ?_
      refine Yes.bind (below_y _ 3 o2) fun y4 ⟨_, _, o4⟩ => ?_
      refine Yes.bind (typed_y _ _ o4) fun y5 o5 => ?_
      refine Yes.bind (below_y _ 2 o5) fun y6 ⟨a6, b6, o6⟩ => ?_
      have b6 := b6 (by decide)
      have ew : IntKind.wrap .i64 (1 + y6.1) = 1 + y6.1 := by rw [wrap_ok] <;> omega
      rw [ew]
      have hs : subl ([y3, y5.1] : List GValue) 0 (1 + y6.1) = some (([y3, y5.1] : List GValue).take (1 + y6.1).toNat) := by
        unfold subl
        rw [if_pos ⟨by omega, by omega, by simp; omega⟩]; simp
      rw [hs]
      refine Yes.bind (Yes.some (Q := fun x => x.length ≤ 2) (by simp; omega)) fun y7 h7 => ?_
      refine Yes.bind (app_y (by simp; omega)) fun y8 h8 => ?_
      subst h8
      rw [wrap_next hi (by omega)]
      exact ih _ y6.2 (by simp [hl]) (fun r hr' => by
        rcases List.mem_append.1 hr' with h | h
        · exact hr r h
        · simp at h; subst h; exact h7) o6
  exact key 0 (by omega) [] y1.2 rfl (by simp) ho
theorem two_y (p : List Int) (hp : p.length ≤ 1048576) : Yes (sDrawSameBag p) fun r => Few r.1 ∧ Few r.2 := by
  unfold sDrawSameBag sL26Two
  refine Yes.bind (Q := fun r => Few r.1 ∧ Few r.2) ?_ fun y h => Yes.some h
  obtain ⟨c, e, ho⟩ := l1New_ok p hp
  rw [e]
  refine Yes.bind (Yes.some (Q := okCur) ho) fun c ho => ?_
  refine Yes.bind (rows_y c ho) fun y2 ⟨f2, o2⟩ => ?_
  have fm : ∀ {l : List (List GValue)}, Few l → smallR l ∧ l.length < 20 := fun h => ⟨smallR_of h.2, by have := h.1; omega⟩
  rw [sRows_id _ (by have := (fm f2).2; omega) (fm f2).1]
  refine Yes.bind (Yes.some (Q := fun y => y = y2.1) rfl) fun y3 h3 => ?_
  subst h3
  have jo : ∀ b : List (List GValue), Few b → Yes (sL26Two_J0 y2 b) fun r => Few r.1 ∧ Few r.2 := fun b hb => Yes.some ⟨f2, hb⟩
  refine Yes.bind (below_y _ 4 o2) fun y4 ⟨_, _, o4⟩ => ?_
  refine Yes.ite (fun _ => ?_) fun _ => Yes.ite (fun _ => ?_) fun _ => Yes.ite (fun _ => ?_) fun _ => jo _ f2
  · exact Yes.bind (rows_y _ o4) fun y5 ⟨f5, _⟩ => jo _ f5
  · obtain ⟨R, r1, r2, _⟩ := sortS y2.1 (fm f2).2 (fm f2).1
    rw [r1]
    refine Yes.bind (Yes.some (Q := fun y => y = R) rfl) fun y h => ?_
    subst h
    exact jo _ ⟨by rw [r2.length_eq]; exact f2.1, fun r hr => f2.2 r (r2.subset hr)⟩
  · refine Yes.ite (fun h1 => ?_) fun _ => jo _ f2
    simp only [decide_eq_true_eq] at h1
    have h1' : 1 < y2.1.length := by omega
    have i1 : idx y2.1 1 = some y2.1[1] := idx_lt h1'
    have i0 : idx y2.1 0 = some y2.1[0] := idx_lt (i := 0) (by omega)
    have s0 : setG y2.1 0 y2.1[1] = some (y2.1.set 0 y2.1[1]) := by
      unfold setG; rw [if_pos ⟨by omega, by simp; omega⟩]; rfl
    simp only [i1, i0, s0, Option.bind_eq_bind, Option.bind_some]
    refine jo _ ⟨by rw [List.length_set]; exact f2.1, fun r hr => ?_⟩
    rcases List.mem_or_eq_of_mem_set hr with h | h
    · exact f2.2 r h
    · rw [h]; exact f2.2 _ (List.getElem_mem h1')
theorem back_l (a b : List (List GValue)) (fa : Few a) : ∀ k, k ≤ a.length → wFnBags_L0 (a, b) (a.drop k).reverse ((k : Int) - 1) = some true := by
  have sm := smallR_of fa.2
  have hl := fa.1
  intro k
  induction k with
  | zero =>
    intro _
    rw [wFnBags_L0]
    have c0 : decide ((0 : Int) ≤ ((0 : Nat) : Int) - 1) = false := by rw [decide_eq_false_iff_not]; omega
    simp only [c0, Bool.false_eq_true, if_false, List.drop_zero]
    obtain ⟨y, y1, y2⟩ := bagI a a.reverse (by omega) (by simp; omega) sm (fun r hr => sm r (by simpa using hr))
    have hy : y = true := y2.2 (List.reverse_perm a).symm
    subst hy
    cases a with
    | nil =>
      have y1' : iSameBag [] [] = some true := y1
      simp [y1']
    | cons x l =>
      have hz : smallR ((x :: l).reverse ++ [x]) := fun r hr => sm r (by
        rcases List.mem_append.1 hr with h | h
        · exact List.mem_reverse.1 h
        · simp at h; simp [h])
      obtain ⟨z, z1, z2⟩ := bagI (x :: l) ((x :: l).reverse ++ [x]) (by simp at hl ⊢; omega) (by simp at hl ⊢; omega) sm hz
      have hz2 : z = false := by
        cases z with
        | false => rfl
        | true => have := (z2.1 rfl).length_eq; simp at this
      subst hz2
      have i0 : idx (x :: l) 0 = some x := by simp [idx]
      have ap : appG 24 (x :: l).reverse ([x] : List (List GValue)) = some ((x :: l).reverse ++ [x]) := appG_ok (by simp at hl ⊢; omega)
      have c1 : decide (((x :: l).length : Int) = 0) = false := by rw [decide_eq_false_iff_not]; simp; omega
      simp only [y1, Option.bind_eq_bind, Option.bind_some, c1, beq_self_eq_true, Bool.and_self, if_true, i0, ap, z1, Bool.false_eq_true, if_false, Bool.not_false]
  | succ k ih =>
    intro hk
    rw [wFnBags_L0]
    have c0 : decide ((0 : Int) ≤ ((k + 1 : Nat) : Int) - 1) = true := by rw [decide_eq_true_eq]; omega
    have e : ((k + 1 : Nat) : Int) - 1 = (k : Int) := by omega
    have ew : IntKind.wrap .i64 ((k : Int) - 1) = (k : Int) - 1 := by rw [wrap_ok] <;> omega
    rw [c0, e, ew]
    simp only [if_true, idx_lt (show k < a.length by omega), Option.bind_eq_bind, Option.bind_some]
    rw [appG_ok (by simp; omega)]
    simp only [Option.bind_some]
    have hd : (a.drop (k + 1)).reverse ++ [a[k]] = (a.drop k).reverse := by
      rw [List.drop_eq_getElem_cons (show k < a.length by omega), List.reverse_cons]
    rw [hd]
    exact ih (by omega)
theorem fnBags_true (p : List Int) (_ : okL okU8 p) : wFnBags p = some true := by
  unfold wFnBags wBig
  simp only [Option.bind_eq_bind, Option.bind_some]
  by_cases hb : (1048576 : Int) < (p.length : Int)
  · rw [if_pos (by simpa using hb)]
  rw [if_neg (by simpa using hb)]
  obtain ⟨⟨a, b⟩, e, fa, fb⟩ := two_y p (by omega)
  have sa := smallR_of fa.2
  have sb := smallR_of fb.2
  have la := fa.1
  have lb := fb.1
  rw [e]
  simp only [Option.bind_some]
  dsimp only at sa sb la lb
  obtain ⟨y3, h3, k3⟩ := bagI a b (by omega) (by omega) sa sb
  obtain ⟨y4, h4, k4⟩ := bagS' a b (by omega) (by omega) sa sb
  obtain ⟨y5, h5, k5⟩ := bagI b a (by omega) (by omega) sb sa
  obtain ⟨y7, h7, k7⟩ := sameI a b (by omega) sa
  have e4 : y4 = y3 := iff_eq k4 k3 Iff.rfl
  have e5 : y5 = y3 := iff_eq k5 k3 ⟨List.Perm.symm, List.Perm.symm⟩
  subst e4 e5
  have e7 : (if y7 = true then (!y5) else false) = false := by
    cases y7 with
    | false => rfl
    | true =>
      have : a = b := k7.1 rfl
      subst this
      rw [k3.2 (List.Perm.refl _)]; rfl
  have fin := back_l a b fa a.length (Nat.le_refl _)
  rw [List.drop_length, List.reverse_nil] at fin
  have ew : IntKind.wrap .i64 ((a.length : Int) - 1) = (a.length : Int) - 1 := by rw [wrap_ok] <;> omega
  simp only [h3, h4, h5, h7, Option.bind_some, beq_self_eq_true, Bool.not_true, Bool.true_and, if_true, Bool.false_eq_true, if_false, e7, ew, fin]

end Go.Ab
