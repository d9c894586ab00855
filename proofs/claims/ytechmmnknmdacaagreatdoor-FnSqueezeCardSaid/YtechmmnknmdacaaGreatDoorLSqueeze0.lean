/- What the functions compute, in plain Lean. -/
import Derived.Test.YtechmmnknmdacaaGreatDoorFSqueeze
namespace Go.Ab
open Go
/-! base -/

theorem wrap_ok {n : Int} (h1 : -9223372036854775808 ≤ n) (h2 : n ≤ 9223372036854775807) : IntKind.wrap .i64 n = n := by rw [IntKind.wrap_i64]; omega
/-- the next round of a loop over a list -/
theorem wrap_next {i n : Nat} (h : i < n) (hn : n ≤ 4611686018427387904) : IntKind.wrap .i64 ((i : Int) + 1) = ((i + 1 : Nat) : Int) := by rw [wrap_ok] <;> omega
theorem lt_dec (i n : Nat) : decide ((i : Int) < (n : Int)) = decide (i < n) := by simp
theorem idx_nat {α : Type} (l : List α) (i : Nat) : idx l (i : Int) = l[i]? := by simp [idx]
theorem idx_lt {α : Type} {l : List α} {i : Nat} (h : i < l.length) : idx l (i : Int) = some l[i] := by rw [idx_nat]; simp [h]
/-- from the last round backwards -/
theorem back_ind {M : Nat → Prop} {n : Nat} (h0 : M n) (h : ∀ i, i < n → M (i + 1) → M i) : ∀ i, i ≤ n → M i := by
  have : ∀ k i, i + k = n → M i := by
    intro k
    induction k with
    | zero => intro i hi; have : i = n := by omega
              subst this; exact h0
    | succ k ih => intro i hi; exact h i (by omega) (ih (i + 1) (by omega))
  exact fun i hi => this (n - i) i (by omega)
/-- A loop that copies a list element by element into a made one. -/
theorem copy_all {α : Type} {p : List α} {F : Int → List α → Option (List α)} (hn : p.length ≤ 4611686018427387904)
    (hF : ∀ (i : Nat) b, b.length = p.length → F i b = if i < p.length then (idx p i >>= fun v => setG b i v >>= fun c => F (IntKind.wrap .i64 ((i : Int) + 1)) c) else some b) :
    ∀ b, b.length = p.length → F 0 b = some p := by
  have key : ∀ i, i ≤ p.length → ∀ b, b.length = p.length → b.take i = p.take i → F (i : Nat) b = some p := by
    refine back_ind ?_ ?_
    · intro b hb ht
      rw [hF _ _ hb, if_neg (by omega)]
      rw [← hb, List.take_length] at ht
      rw [ht, hb, List.take_length]
    · intro i hi ih b hb ht
      rw [hF _ _ hb, if_pos hi, idx_lt hi]
      have hs : setG b i p[i] = some (b.set i p[i]) := by
        unfold setG; rw [if_pos ⟨by omega, by simp; omega⟩]; simp
      simp only [Option.bind_eq_bind, Option.bind_some, hs, wrap_next hi hn]
      refine ih _ (by simp [hb]) ?_
      rw [List.take_add_one, List.take_add_one]
      have e1 : (b.set i p[i]).take i = b.take i := by rw [List.take_set_of_le (Nat.le_refl _)]
      rw [e1, ht]
      simp [hb, hi]
  intro b hb
  exact key 0 (by omega) b hb (by simp)
theorem mkG_ok {α : Type} {by' : Nat} {n : Nat} {z : α} (h : (n : Int) * by' ≤ 140737488355328) : mkG by' (n : Int) z = some (List.replicate n z) := by
  unfold mkG; rw [if_pos ⟨by omega, h⟩]; simp

/-! draw -/
theorem and255 (a : Int) : 0 ≤ IntKind.wrap .i64 ((BitVec.ofInt (IntKind.bits .i64) a &&& BitVec.ofInt (IntKind.bits .i64) 255).toNat : Int) ∧ IntKind.wrap .i64 ((BitVec.ofInt (IntKind.bits .i64) a &&& BitVec.ofInt (IntKind.bits .i64) 255).toNat : Int) ≤ 255 := by
  have h : (BitVec.ofInt (IntKind.bits .i64) a &&& BitVec.ofInt (IntKind.bits .i64) 255).toNat ≤ 255 := by
    rw [BitVec.toNat_and]
    exact Nat.le_trans Nat.and_le_right (by decide)
  rw [wrap_ok (by omega) (by omega)]
  omega
/-- a cursor within its bytes -/
def okCur (c : GL1Cur) : Prop := 0 ≤ c.i ∧ c.i ≤ (c.b.length : Int) ∧ c.b.length ≤ 1048576
theorem l1Byte_ok (c : GL1Cur) (h : okCur c) : ∃ x c', sL1Byte c = some (x, c') ∧ 0 ≤ x ∧ x ≤ 255 ∧ okCur c' := by
  obtain ⟨h1, h2, h3⟩ := h
  unfold sL1Byte sL1Byte_J0
  by_cases hi : c.i < (c.b.length : Int)
  · have e : ∃ v, idx c.b c.i = some v := by
      unfold idx
      rw [if_pos h1]
      exact ⟨_, List.getElem?_eq_getElem (by omega)⟩
    obtain ⟨v, hv⟩ := e
    rw [if_pos (by simpa using hi), hv]
    simp only [Option.bind_eq_bind, Option.bind_some]
    refine ⟨_, _, rfl, (and255 _).1, (and255 _).2, ?_⟩
    refine ⟨?_, ?_, h3⟩
    · show 0 ≤ IntKind.wrap .i64 (c.i + 1); rw [wrap_ok (by omega) (by omega)]; omega
    · show IntKind.wrap .i64 (c.i + 1) ≤ (c.b.length : Int); rw [wrap_ok (by omega) (by omega)]; omega
  · rw [if_neg (by simpa using hi)]
    exact ⟨_, _, rfl, (and255 _).1, (and255 _).2, h1, h2, h3⟩
theorem remG_ok {a b : Int} (h0 : 0 ≤ a) (hb : 0 < b) : ∃ r, remG a b = some r ∧ 0 ≤ r ∧ r < b := by
  unfold remG
  rw [if_neg (by omega)]
  exact ⟨_, rfl, Int.tmod_nonneg _ h0, Int.tmod_lt_of_pos _ hb⟩
theorem l1Below_ok (c : GL1Cur) (n : Int) (h : okCur c) : ∃ x c', sL1Below c n = some (x, c') ∧ 0 ≤ x ∧ (0 < n → x < n) ∧ okCur c' := by
  unfold sL1Below
  by_cases h0 : n ≤ 0
  · rw [if_pos (by simpa using h0)]; exact ⟨0, c, rfl, by omega, by omega, h⟩
  rw [if_neg (by simpa using h0)]
  by_cases h1 : n ≤ 256
  · rw [if_pos (by simpa using h1)]
    obtain ⟨x, c1, e1, a1, b1, o1⟩ := l1Byte_ok c h
    obtain ⟨r, er, r0, r1⟩ := remG_ok a1 (b := n) (by omega)
    simp only [e1, Option.bind_eq_bind, Option.bind_some, er]
    exact ⟨r, c1, rfl, r0, fun _ => r1, o1⟩
  · rw [if_neg (by simpa using h1)]
    obtain ⟨x1, c1, e1, a1, b1, o1⟩ := l1Byte_ok c h
    obtain ⟨x2, c2, e2, a2, b2, o2⟩ := l1Byte_ok c1 o1
    obtain ⟨x3, c3, e3, a3, b3, o3⟩ := l1Byte_ok c2 o2
    obtain ⟨x4, c4, e4, a4, b4, o4⟩ := l1Byte_ok c3 o3
    simp only [e1, e2, e3, e4, Option.bind_eq_bind, Option.bind_some]
    rw [wrap_ok (n := x1 * 16777216) (by omega) (by omega), wrap_ok (n := x2 * 65536) (by omega) (by omega), wrap_ok (n := x3 * 256) (by omega) (by omega), wrap_ok (n := x1 * 16777216 + x2 * 65536) (by omega) (by omega), wrap_ok (n := x1 * 16777216 + x2 * 65536 + x3 * 256) (by omega) (by omega), wrap_ok (n := x1 * 16777216 + x2 * 65536 + x3 * 256 + x4) (by omega) (by omega)]
    obtain ⟨r, er, r0, r1⟩ := remG_ok (a := x1 * 16777216 + x2 * 65536 + x3 * 256 + x4) (by omega) (b := n) (by omega)
    rw [er]
    exact ⟨r, c4, rfl, r0, fun _ => r1, o4⟩
theorem l1Once_ok (c : GL1Cur) (n : Int) (h : okCur c) : ∃ x c', sL1Once c n = some (x, c') ∧ okCur c' := by
  obtain ⟨x, c1, e1, _, _, o1⟩ := l1Below_ok c n h
  unfold sL1Once
  simp only [e1, Option.bind_eq_bind, Option.bind_some]
  exact ⟨_, _, rfl, o1⟩
theorem pick_idx {α : Type} {l : List α} {x : Int} (h0 : 0 ≤ x) (h1 : x < (l.length : Int)) : ∃ v, v ∈ l ∧ idx l x = some v := by
  unfold idx
  rw [if_pos h0]
  exact ⟨_, List.getElem_mem (by omega), List.getElem?_eq_getElem (by omega)⟩
theorem l1Pick_ok (c : GL1Cur) (l : List (List UInt8)) (hl : 0 < l.length) (h : okCur c) : ∃ x c', sL1Pick c l = some (x, c') ∧ x ∈ l ∧ okCur c' := by
  obtain ⟨x, c1, e1, h0, h1, o1⟩ := l1Below_ok c l.length h
  obtain ⟨v, hv, ev⟩ := pick_idx h0 (h1 (by omega))
  unfold sL1Pick
  simp only [e1, ev, Option.bind_eq_bind, Option.bind_some]
  exact ⟨_, _, rfl, hv, o1⟩
theorem l1PickInt_ok (c : GL1Cur) (l : List Int) (hl : 0 < l.length) (h : okCur c) : ∃ x c', sL1PickInt c l = some (x, c') ∧ x ∈ l ∧ okCur c' := by
  obtain ⟨x, c1, e1, h0, h1, o1⟩ := l1Below_ok c l.length h
  obtain ⟨v, hv, ev⟩ := pick_idx h0 (h1 (by omega))
  unfold sL1PickInt
  simp only [e1, ev, Option.bind_eq_bind, Option.bind_some]
  exact ⟨_, _, rfl, hv, o1⟩
theorem l1Whole_ok (c : GL1Cur) (h : okCur c) : ∃ x c', sL1Whole c = some (x, c') ∧ okCur c' := by
  obtain ⟨x, c1, e1, _, _, o1⟩ := l1Below_ok c 3 h
  obtain ⟨y, c2, e2, _, o2⟩ := l1PickInt_ok c1 [0, 1, (-1), 63, 64, (-64), (-65), 127, 128, 16383, 16384, 9223372036854775807, (-9223372036854775808), 4611686018427387904] (by decide) o1
  obtain ⟨z, c3, e3, _, _, o3⟩ := l1Below_ok c1 1000000 o1
  obtain ⟨w, c4, e4, _, _, o4⟩ := l1Below_ok c1 20 o1
  unfold sL1Whole
  simp only [e1, e2, e3, e4, Option.bind_eq_bind, Option.bind_some]
  split
  · exact ⟨_, _, rfl, o2⟩
  split
  · exact ⟨_, _, rfl, o3⟩
  · exact ⟨_, _, rfl, o4⟩

/-! drawT -/
theorem l1New_ok (p : List Int) (hp : p.length ≤ 1048576) : ∃ c, sL1New p = some c ∧ okCur c := by
  unfold sL1New
  have key : ∀ i, i ≤ p.length → ∀ h, ∃ c, sL1New_L0 p h (i : Nat) = some c ∧ okCur c := by
    refine back_ind ?_ ?_
    · intro h
      rw [sL1New_L0]
      refine ⟨⟨p, 0, h⟩, by simp, ?_⟩
      exact ⟨by show (0:Int) ≤ 0; omega, by show (0:Int) ≤ (p.length : Int); omega, hp⟩
    · intro i hi ih h
      rw [sL1New_L0]
      by_cases h4 : (i : Int) < 4000
      · simp only [lt_dec, hi, h4, decide_true, if_true, idx_lt hi, wrap_next hi (by omega), Option.bind_eq_bind, Option.bind_some]
        exact ih _
      · simp only [lt_dec, hi, h4, decide_true, decide_false, if_true, Bool.false_eq_true, if_false]
        exact ⟨⟨p, 0, h⟩, rfl, by show (0:Int) ≤ 0; omega, by show (0:Int) ≤ (p.length : Int); omega, hp⟩
  exact key 0 (by omega) _
theorem ofBytes_ok (l : List Int) (h : ∀ v ∈ l, 0 ≤ v ∧ v < 256) : ∃ s, ofBytes l = some s := by
  unfold ofBytes
  rw [if_pos (by simpa using h)]
  exact ⟨_, rfl⟩
/-- it answers, and well -/
def Yes {α : Type} (m : Option α) (Q : α → Prop) : Prop := ∃ r, m = some r ∧ Q r
theorem Yes.bind {α β : Type} {m : Option α} {k : α → Option β} {Q : α → Prop} {R : β → Prop} (h : Yes m Q) (hk : ∀ x, Q x → Yes (k x) R) : Yes (m >>= k) R := by
  obtain ⟨x, e, hx⟩ := h
  obtain ⟨r, e2, hr⟩ := hk x hx
  exact ⟨r, by rw [e]; exact e2, hr⟩
theorem Yes.some {α : Type} {x : α} {Q : α → Prop} (h : Q x) : Yes (some x) Q := ⟨x, rfl, h⟩
theorem Yes.mono {α : Type} {m : Option α} {Q R : α → Prop} (h : Yes m Q) (hk : ∀ x, Q x → R x) : Yes m R := by
  obtain ⟨x, e, hx⟩ := h; exact ⟨x, e, hk x hx⟩
theorem Yes.ite {α : Type} {c : Prop} [Decidable c] {m m' : Option α} {Q : α → Prop} (h : c → Yes m Q) (h' : ¬ c → Yes m' Q) : Yes (if c then m else m') Q := by
  split
  · exact h (by assumption)
  · exact h' (by assumption)
theorem below_y (c : GL1Cur) (n : Int) (h : okCur c) : Yes (sL1Below c n) fun r => 0 ≤ r.1 ∧ (0 < n → r.1 < n) ∧ okCur r.2 := by
  obtain ⟨x, c', e, h1, h2, h3⟩ := l1Below_ok c n h; exact ⟨_, e, h1, h2, h3⟩
theorem once_y (c : GL1Cur) (n : Int) (h : okCur c) : Yes (sL1Once c n) fun r => okCur r.2 := by
  obtain ⟨x, c', e, h1⟩ := l1Once_ok c n h; exact ⟨_, e, h1⟩
theorem once_g (p : Bool) (b : Bool) (c : GL1Cur) (n : Int) (h : okCur c) : Yes (if (true && (p == b)) = true then sL1Once c n else some ((default : Bool), c)) fun r => okCur r.2 := Yes.ite (fun _ => once_y c n h) fun _ => Yes.some h
theorem pick_y (c : GL1Cur) (l : List (List UInt8)) (hl : 0 < l.length) (h : okCur c) : Yes (sL1Pick c l) fun r => okCur r.2 := by
  obtain ⟨x, c', e, _, h1⟩ := l1Pick_ok c l hl h; exact ⟨_, e, h1⟩
theorem pickI_y (c : GL1Cur) (l : List Int) (hl : 0 < l.length) (h : okCur c) : Yes (sL1PickInt c l) fun r => okCur r.2 := by
  obtain ⟨x, c', e, _, h1⟩ := l1PickInt_ok c l hl h; exact ⟨_, e, h1⟩
theorem appG_ok {α : Type} {b : Nat} {l m : List α} (h : (l.length + m.length) * b ≤ 140737488355328) : appG b l m = some (l ++ m) := by unfold appG; rw [if_pos h]
theorem app_y {α : Type} {b : Nat} {l m : List α} (h : (l.length + m.length) * b ≤ 140737488355328) : Yes (appG b l m) fun r => r = l ++ m := ⟨_, appG_ok h, rfl⟩
theorem whole_i (c : GL1Cur) (h : okCur c) : Yes (sL1Whole c) fun r => okI r.1 ∧ okCur r.2 := by
  obtain ⟨x, c1, e1, _, _, o1⟩ := l1Below_ok c 3 h
  obtain ⟨y, c2, e2, hy, o2⟩ := l1PickInt_ok c1 [0, 1, (-1), 63, 64, (-64), (-65), 127, 128, 16383, 16384, 9223372036854775807, (-9223372036854775808), 4611686018427387904] (by decide) o1
  obtain ⟨z, c3, e3, z0, z1, o3⟩ := l1Below_ok c1 1000000 o1
  obtain ⟨w, c4, e4, w0, w1, o4⟩ := l1Below_ok c1 20 o1
  have hyI : okI y := by
    have : ∀ v ∈ ([0, 1, (-1), 63, 64, (-64), (-65), 127, 128, 16383, 16384, 9223372036854775807, (-9223372036854775808), 4611686018427387904] : List Int), -9223372036854775808 ≤ v ∧ v ≤ 9223372036854775807 := by decide
    exact this y hy
  have hz := z1 (by decide)
  have hw := w1 (by decide)
  unfold sL1Whole
  simp only [e1, e2, e3, e4, Option.bind_eq_bind, Option.bind_some]
  split
  · exact ⟨_, rfl, hyI, o2⟩
  split
  · refine ⟨_, rfl, ?_, o3⟩
    unfold okI; dsimp only; rw [wrap_ok (by omega) (by omega)]; omega
  · refine ⟨_, rfl, ?_, o4⟩
    unfold okI; dsimp only; omega
theorem pickM_y (c : GL1Cur) (l : List (List UInt8)) (hl : 0 < l.length) (h : okCur c) : Yes (sL1Pick c l) fun r => r.1 ∈ l ∧ okCur r.2 := by
  obtain ⟨x, c', e, h0, h1⟩ := l1Pick_ok c l hl h; exact ⟨_, e, h0, h1⟩
theorem name_z (c : GL1Cur) (h : okCur c) : Yes (sL2Name c) fun r => r.1.length ≤ 8 ∧ okCur r.2 := by
  unfold sL2Name
  refine Yes.bind (once_y _ _ h) fun r k => Yes.ite (fun _ => ?_) fun _ => ?_
  · refine Yes.bind (pickM_y _ _ (by decide) k) fun r ⟨hm, k⟩ => Yes.some ⟨?_, k⟩
    have : ∀ v ∈ ([[97, 32, 98], [102, 114, 111, 109], [83, 101, 108, 101, 99, 116], [49, 120], [113, 34, 113], [0], [34], [105, 116, 39, 115], [120, 46, 121], [45]] : List (List UInt8)), v.length ≤ 8 := by decide
    exact this _ hm
  · refine Yes.bind (pickM_y _ _ (by decide) k) fun r ⟨hm, k⟩ => Yes.some ⟨?_, k⟩
    have : ∀ v ∈ ([[97], [98], [99], [116], [117], [118], [105, 100], [110, 97, 109, 101], [65], [95, 120, 49]] : List (List UInt8)), v.length ≤ 8 := by decide
    exact this _ hm

/-! digits -/
theorem catS_ok {a b : List UInt8} (h : a.length + b.length ≤ 1073741824) : catS a b = some (a ++ b) := by
  unfold catS; rw [if_pos (Nat.le_trans h (by decide))]
theorem byte_digit {d : Nat} (h : d < 10) (x4 : List UInt8) : ofBytes ([(IntKind.wrap .u8 (IntKind.wrap .i64 (48 + (d : Int))))] : List Int) = some [UInt8.ofNat (48 + d)] := by
  match d, h with
  | 0, _ => rfl
  | 1, _ => rfl
  | 2, _ => rfl
  | 3, _ => rfl
  | 4, _ => rfl
  | 5, _ => rfl
  | 6, _ => rfl
  | 7, _ => rfl
  | 8, _ => rfl
  | 9, _ => rfl
theorem sDigits_loop (p0 : Int) : ∀ n : Nat, n ≤ 9223372036854775808 → ∀ out : List UInt8, out.length + Lib.nDigits n ≤ 1000 → ∀ x0 : Int, (x0 = n ∨ x0 = -(n : Int)) →
    sDigits_L0 p0 x0 out = some ((if p0 < 0 then [45] else []) ++ ((if n = 0 then [] else Lib.decDigits n) ++ out)) := by
  intro n
  induction n using Nat.strongRecOn with
  | ind n ih =>
    intro hn out ho x0 hx
    rw [sDigits_L0]
    by_cases h0 : n = 0
    · subst h0
      have : x0 = 0 := by omega
      subst this
      have hc : catS [45] out = some (45 :: out) := catS_ok (by simp; omega)
      by_cases hp : p0 < 0 <;> simp [hp, hc]
    · have hx0 : x0 ≠ 0 := by omega
      have hdiv : Int.tdiv x0 10 = ((n / 10 : Nat) : Int) ∨ Int.tdiv x0 10 = -((n / 10 : Nat) : Int) := by
        rcases hx with rfl | rfl
        · left; simp [Int.tdiv]
        · right; rw [Int.neg_tdiv]; simp [Int.tdiv]
      have hdd : IntKind.wrap .i64 (Int.tdiv x0 10) = Int.tdiv x0 10 := wrap_ok (by omega) (by omega)
      have hm : Int.tmod x0 10 = ((n % 10 : Nat) : Int) ∨ Int.tmod x0 10 = -((n % 10 : Nat) : Int) := by
        rcases hx with rfl | rfl
        · left; simp [Int.tmod]
        · right; rw [Int.neg_tmod]; simp [Int.tmod]
      have hlt : n % 10 < 10 := Nat.mod_lt _ (by omega)
      have hnd : Lib.nDigits (n / 10) ≤ Lib.nDigits n := by
        by_cases hs : n < 10
        · have : n / 10 = 0 := by omega
          rw [this, Lib.nDigits_small (by omega)]; exact Lib.nDigits_pos _
        · rw [Lib.nDigits_big hs]; omega
      have hnd1 : n / 10 ≠ 0 → Lib.nDigits (n / 10) + 1 = Lib.nDigits n := fun h => by rw [← Lib.nDigits_big (u := n) (by omega)]
      have hpos := Lib.nDigits_pos n
      have key : sDigits_J1 x0 p0 out ((n % 10 : Nat) : Int) = some ((if p0 < 0 then [45] else []) ++ (Lib.decDigits n ++ out)) := by
        rw [sDigits_J1, byte_digit hlt out]
        simp only [Option.bind_eq_bind, Option.bind_some]
        rw [catS_ok (by simp; omega)]
        simp only [Option.bind_some]
        rw [hdd]
        by_cases hs : n / 10 = 0
        · have hz : Int.tdiv x0 10 = 0 := by omega
          have hn10 : n < 10 := by omega
          rw [hz, sDigits_L0]
          have hmod : n % 10 = n := Nat.mod_eq_of_lt hn10
          have hc : catS [45] ([UInt8.ofNat (48 + n % 10)] ++ out) = some (45 :: ([UInt8.ofNat (48 + n % 10)] ++ out)) := catS_ok (by simp; omega)
          rw [Lib.decDigits_one hn10]
          by_cases hp : p0 < 0
          · simp [hp, hmod] at hc ⊢
            rw [hc]
          · simp [hp, hmod]
        · rw [ih (n / 10) (by omega) (by omega) _ (by have := hnd1 hs; simp; omega) _ hdiv, if_neg hs]
          conv => rhs; rw [Lib.decDigits, dif_neg (by omega)]
          simp
      rw [if_pos (by simp [hx0]), if_neg h0]
      by_cases hneg : Int.tmod x0 10 < 0
      · rw [if_pos (by simp [hneg])]
        have e : IntKind.wrap .i64 (0 - Int.tmod x0 10) = ((n % 10 : Nat) : Int) := by rw [wrap_ok (by omega) (by omega)]; omega
        rw [e, key]
      · rw [if_neg (by simp [hneg])]
        have e : Int.tmod x0 10 = ((n % 10 : Nat) : Int) := by omega
        rw [e, key]
/-- the reference's numeral is the library's -/
theorem sDigits_itoa (n : Int) (h1 : -9223372036854775808 ≤ n) (h2 : n ≤ 9223372036854775807) : sDigits n = some (Lib.itoa n) := by
  unfold sDigits
  by_cases h0 : n = 0
  · subst h0; simp; rw [Lib.itoa]; simp; rw [Lib.decDigits_one (by omega)]; rfl
  · have hl : Lib.nDigits n.natAbs ≤ 20 := Lib.nDigits_le20 _ (by omega)
    rw [if_neg (by simp [h0]), sDigits_loop n n.natAbs (by omega) [] (by simp; omega) n (by omega), if_neg (show ¬ n.natAbs = 0 by omega)]
    unfold Lib.itoa
    by_cases hn : n < 0
    · simp [hn]
    · have : n.natAbs = n.toNat := by omega
      simp [hn, this]

/-! quote -/
/-- each of a byte's places doubled -/
def dbl (q : UInt8) (s : List UInt8) : List UInt8 := s.flatMap fun c => if c = q then [q, q] else [c]
theorem index_cons1 (q b : UInt8) (l : List UInt8) : Lib.index (b :: l) [q] = if b = q then 0 else if Lib.index l [q] = -1 then -1 else Lib.index l [q] + 1 := by
  by_cases h : b = q
  · subst h; simp [Lib.index, List.isPrefixOf]
  · have : ¬ q = b := fun e => h e.symm
    simp [Lib.index, List.isPrefixOf, h, this]
theorem replaceK_cons_ne {q b : UInt8} (h : b ≠ q) (new l : List UInt8) : ∀ k, Lib.replaceK [q] new k (b :: l) = b :: Lib.replaceK [q] new k l
  | 0 => rfl
  | k + 1 => by
    have hge := Lib.index_ge l [q]
    rw [Lib.replaceK, Lib.replaceK, index_cons1, if_neg h]
    by_cases hi : Lib.index l [q] = -1
    · simp [hi]
    · have e : (Lib.index l [q] + 1).toNat = (Lib.index l [q]).toNat + 1 := by omega
      have e2 : ¬ Lib.index l [q] + 1 = -1 := by omega
      simp only [hi, if_false, beq_iff_eq, e2, e, List.length_cons, List.length_nil]
      rw [show (Lib.index l [q]).toNat + 1 + (0 + 1) = ((Lib.index l [q]).toNat + (0 + 1)) + 1 by omega, List.drop_succ_cons, List.take_succ_cons]
      rfl
theorem replaceAll_dbl (q : UInt8) (s : List UInt8) : Lib.replaceAll s [q] [q, q] = dbl q s := by
  unfold Lib.replaceAll Lib.replace Lib.replaceNum
  rw [if_neg (by simp), if_pos (by omega)]
  induction s with
  | nil => rfl
  | cons b l ih =>
    by_cases h : b = q
    · subst h
      rw [Lib.count_cons_eq, Nat.add_comm, Lib.replaceK_hit _ _ _ _ 0 (by rw [index_cons1, if_pos rfl]; rfl)]
      simp only [List.take_zero, List.nil_append, List.length_cons, List.length_nil, Nat.zero_add, List.drop_succ_cons, List.drop_zero]
      rw [ih]
      simp [dbl]
    · rw [Lib.count_cons_ne _ _ _ h, replaceK_cons_ne h, ih]
      simp [dbl, h]
theorem dbl_len (q : UInt8) (s : List UInt8) : (dbl q s).length ≤ 2 * s.length := by
  induction s with
  | nil => simp [dbl]
  | cons b l ih =>
    have : dbl q (b :: l) = (if b = q then [q, q] else [b]) ++ dbl q l := rfl
    rw [this, List.length_append, List.length_cons]
    split <;> simp <;> omega
def quoteT (q : UInt8) (s : List UInt8) : List UInt8 := [q] ++ dbl q s ++ [q]
theorem quoteT_len (q : UInt8) (s : List UInt8) : (quoteT q s).length ≤ 2 * s.length + 2 := by
  have := dbl_len q s
  simp [quoteT]; omega
theorem iQuoted_ok (s : List UInt8) (q : UInt8) (hs : s.length ≤ 2000000) : iQuoted s [q] = some (quoteT q s) := by
  have hl := dbl_len q s
  unfold iQuoted gStrings_ReplaceAll replG
  rw [catS_ok (by simp)]
  simp only [Option.bind_eq_bind, Option.bind_some, List.cons_append, List.nil_append]
  rw [replaceAll_dbl, if_pos ⟨hs, by simp, by simp, by omega⟩]
  simp only [Option.bind_some]
  rw [catS_ok (by simp; omega)]
  simp only [Option.bind_some]
  rw [catS_ok (by simp; omega)]
  simp [quoteT]
theorem toBytes_append (a b : List UInt8) : toBytes (a ++ b) = toBytes a ++ toBytes b := by simp [toBytes]
theorem toBytes_len (a : List UInt8) : (toBytes a).length = a.length := by simp [toBytes]
theorem ofBytes_toBytes (a : List UInt8) : ofBytes (toBytes a) = some a := by
  unfold ofBytes toBytes
  rw [if_pos]
  · rw [List.map_map]
    congr 1
    refine (List.map_congr_left (g := id) fun u _ => ?_).trans (List.map_id a)
    simp [Function.comp]
  · refine List.all_eq_true.2 fun n hn => ?_
    obtain ⟨u, _, rfl⟩ := List.mem_map.1 hn
    have := u.toNat_lt
    simp; omega
theorem appB_ok {a : List UInt8} {l : List Int} (b : List UInt8) (hl : l = toBytes b) (h : a.length + b.length ≤ 1073741824) : appG 1 (toBytes a) l = some (toBytes (a ++ b)) := by
  subst hl
  unfold appG
  rw [if_pos (by rw [toBytes_len, toBytes_len]; omega), toBytes_append]
theorem appB1 {a : List UInt8} (q : UInt8) (h : a.length + 1 ≤ 1073741824) : appG 1 (toBytes a) [(q.toNat : Int)] = some (toBytes (a ++ [q])) := appB_ok [q] rfl (by simpa using h)
theorem appC {a : List UInt8} (n : Int) (u : UInt8) (hu : n = u.toNat) (h : a.length + 1 ≤ 1073741824) : appG 1 (toBytes a) [n] = some (toBytes (a ++ [u])) := by subst hu; exact appB1 u h
theorem sL2Quote_loop (s : List UInt8) (q : UInt8) (hs : s.length ≤ 2000000) : ∀ i, i ≤ s.length → ∀ a : List UInt8, a.length + 2 * (s.length - i) + 2 ≤ 1073741824 →
    sL2Quote_L0 s (q.toNat : Int) (toBytes a) (i : Nat) = some (a ++ dbl q (s.drop i) ++ [q]) := by
  refine back_ind ?_ ?_
  · intro a ha
    rw [sL2Quote_L0]
    simp only [lt_dec, Nat.lt_irrefl, decide_false, Bool.false_eq_true, if_false, Option.bind_eq_bind]
    rw [appB1 q (by simp; omega)]
    simp only [Option.bind_some, ofBytes_toBytes]
    simp [dbl]
  · intro i hi ih a ha
    have e : idxS s (i : Int) = some (s[i].toNat : Int) := by simp [idxS, hi]
    rw [sL2Quote_L0]
    simp only [lt_dec, hi, decide_true, if_true, e, Option.bind_eq_bind, Option.bind_some]
    have hd : dbl q (s.drop i) = (if s[i] = q then [q, q] else [s[i]]) ++ dbl q (s.drop (i + 1)) := by
      rw [List.drop_eq_getElem_cons hi]; rfl
    rw [hd]
    by_cases hq : s[i] = q
    · rw [if_pos (by simp [hq]), appB1 q (by simp; omega)]
      simp only [Option.bind_some]
      rw [sL2Quote_J1]
      simp only [e, Option.bind_eq_bind, Option.bind_some]
      rw [hq, appB1 q (by simp; omega), Option.bind_some, wrap_next hi (by omega), ih _ (by simp; omega)]
      simp
    · have hne : ¬ ((s[i].toNat : Int) = (q.toNat : Int)) := fun h => hq (UInt8.toNat_inj.1 (by omega))
      rw [if_neg (by simpa using hne), sL2Quote_J1]
      simp only [e, Option.bind_eq_bind, Option.bind_some]
      rw [appB1 s[i] (by simp; omega), Option.bind_some, wrap_next hi (by omega), ih _ (by simp; omega)]
      simp [hq]
theorem sL2Quote_ok (s : List UInt8) (q : UInt8) (hs : s.length ≤ 2000000) : sL2Quote s (q.toNat : Int) = some (quoteT q s) := by
  unfold sL2Quote
  have := sL2Quote_loop s q hs 0 (Nat.zero_le _) [q] (by simp; omega)
  simpa [toBytes, quoteT] using this

/-! fold -/
/-- a letter in upper case -/
def fb (b : UInt8) : UInt8 := if 97 ≤ b.toNat ∧ b.toNat ≤ 122 then UInt8.ofNat (b.toNat - 32) else b
theorem fb_up {b : UInt8} (h : 97 ≤ b.toNat ∧ b.toNat ≤ 122) : ((fb b).toNat : Int) = (b.toNat : Int) - 32 := by
  unfold fb; rw [if_pos h, UInt8.toNat_ofNat']; omega
theorem fb_id {b : UInt8} (h : ¬ (97 ≤ b.toNat ∧ b.toNat ≤ 122)) : fb b = b := by unfold fb; rw [if_neg h]
theorem wrap_u8 {n : Int} (h0 : 0 ≤ n) (h1 : n < 256) : IntKind.wrap .u8 n = n := by
  unfold IntKind.wrap; simp [IntKind.signed, IntKind.bits]; omega
/-- the row between the rounds -/
def foldAt (s : List UInt8) (i : Nat) : List UInt8 := (s.take i).map fb ++ s.drop i
theorem foldAt_len (s : List UInt8) (i : Nat) : (foldAt s i).length = s.length := by simp [foldAt]; omega
theorem foldAt_get {s : List UInt8} {i : Nat} (h : i < s.length) : (foldAt s i)[i]? = some s[i] := by
  unfold foldAt
  rw [List.getElem?_append_right (by simp; omega)]
  simp [Nat.min_eq_left (Nat.le_of_lt h), h]
theorem foldAt_set {s : List UInt8} {i : Nat} (h : i < s.length) : (foldAt s i).set i (fb s[i]) = foldAt s (i + 1) := by
  unfold foldAt
  have hd := List.drop_eq_getElem_cons h
  rw [List.set_append_right _ _ (by simp; omega), List.take_succ_eq_append_getElem h, List.map_append]
  simp [Nat.min_eq_left (Nat.le_of_lt h)]
  rw [hd]; rfl
theorem foldAt_all (s : List UInt8) : foldAt s s.length = s.map fb := by simp [foldAt]
theorem idx_toBytes {l : List UInt8} {i : Nat} {b : UInt8} (h : l[i]? = some b) : idx (toBytes l) (i : Int) = some (b.toNat : Int) := by
  rw [idx_nat]; simp [toBytes, h]
theorem toBytes_set (l : List UInt8) (i : Nat) (b : UInt8) : (toBytes l).set i (b.toNat : Int) = toBytes (l.set i b) := by simp [toBytes, List.map_set]
theorem iFold_loop (s : List UInt8) (hs : s.length ≤ 1073741824) : ∀ i, i ≤ s.length → iFold_L0 s (i : Nat) (toBytes (foldAt s i)) = some (s.map fb) := by
  refine back_ind ?_ ?_
  · rw [iFold_L0]
    simp only [toBytes_len, lt_dec, Nat.lt_irrefl, decide_false, Bool.false_eq_true, if_false]
    rw [iFold_J2, foldAt_all]
    simp [ofBytes_toBytes]
  · intro i hi ih
    rw [iFold_L0]
    simp only [toBytes_len, lt_dec, hi, decide_true, if_true, idx_toBytes (foldAt_get hi), Option.bind_eq_bind, Option.bind_some, Int.toNat_natCast]
    have hb := s[i].toNat_lt
    by_cases h : 97 ≤ s[i].toNat ∧ s[i].toNat ≤ 122
    · have e : IntKind.wrap .u8 (IntKind.wrap .u8 ((s[i].toNat : Int) - 97) + 65) = ((fb s[i]).toNat : Int) := by
        rw [fb_up h, wrap_u8 (n := (s[i].toNat : Int) - 97) (by omega) (by omega), wrap_u8 (by omega) (by omega)]; omega
      rw [if_pos (by simp; omega), iFold_J1, e, toBytes_set, foldAt_set hi, wrap_next hi (by omega)]
      exact ih
    · rw [if_neg (by simp; omega), iFold_J1]
      have e2 : (s[i].toNat : Int) = ((fb s[i]).toNat : Int) := by rw [fb_id h]
      rw [e2, toBytes_set, foldAt_set hi, wrap_next hi (by omega)]
      exact ih
theorem sFold_loop (s : List UInt8) (hs : s.length ≤ 1073741824) : ∀ i, i ≤ s.length → sFold_L0 (i : Nat) (toBytes (foldAt s i)) = some (s.map fb) := by
  refine back_ind ?_ ?_
  · rw [sFold_L0]
    simp only [toBytes_len, foldAt_len, lt_dec, Nat.lt_irrefl, decide_false, Bool.false_eq_true, if_false]
    rw [sFold_J2, foldAt_all]
    simp [ofBytes_toBytes]
  · intro i hi ih
    rw [sFold_L0]
    simp only [toBytes_len, foldAt_len, lt_dec, hi, decide_true, if_true, idx_toBytes (foldAt_get hi), Option.bind_eq_bind, Option.bind_some, Int.toNat_natCast]
    have hb := s[i].toNat_lt
    by_cases h : 97 ≤ s[i].toNat ∧ s[i].toNat ≤ 122
    · have e : IntKind.wrap .u8 ((s[i].toNat : Int) - 32) = ((fb s[i]).toNat : Int) := by
        rw [fb_up h, wrap_u8 (by omega) (by omega)]
      rw [if_pos (by simp; omega), sFold_J1, e, toBytes_set, foldAt_set hi, wrap_next hi (by omega)]
      exact ih
    · rw [if_neg (by simp; omega), sFold_J1]
      have e2 : (s[i].toNat : Int) = ((fb s[i]).toNat : Int) := by rw [fb_id h]
      rw [e2, toBytes_set, foldAt_set hi, wrap_next hi (by omega)]
      exact ih
theorem iFold_ok (s : List UInt8) (hs : s.length ≤ 1073741824) : iFold s = some (s.map fb) := by
  unfold iFold
  have := iFold_loop s hs 0 (Nat.zero_le _)
  simpa [foldAt] using this
theorem sFold_ok (s : List UInt8) (hs : s.length ≤ 1073741824) : sFold s = some (s.map fb) := by
  unfold sFold
  have := sFold_loop s hs 0 (Nat.zero_le _)
  simpa [foldAt] using this

/-! number -/
/-- what digits spell -/
def valF (acc : Nat) (l : List UInt8) : Nat := l.foldl (fun a c => a * 10 + (c.toNat - 48)) acc
theorem valF_nil (acc : Nat) : valF acc [] = acc := rfl
theorem valF_cons (acc : Nat) (c : UInt8) (r : List UInt8) : valF acc (c :: r) = valF (acc * 10 + (c.toNat - 48)) r := by unfold valF; rw [List.foldl_cons]
def digP (l : List UInt8) : Prop := ∀ c ∈ l, 48 ≤ c.toNat ∧ c.toNat ≤ 57
theorem valF_ge (l : List UInt8) : ∀ acc : Nat, acc ≤ valF acc l := by
  induction l with
  | nil => intro acc; rw [valF_nil]; exact Nat.le_refl _
  | cons c r ih =>
    intro acc
    have := ih (acc * 10 + (c.toNat - 48))
    rw [valF_cons]; omega
theorem valF_append (l m : List UInt8) (acc : Nat) : valF acc (l ++ m) = valF (valF acc l) m := List.foldl_append
theorem decDigits_dig (u : Nat) : digP (Lib.decDigits u) ∧ valF 0 (Lib.decDigits u) = u := by
  induction u using Nat.strongRecOn with
  | ind u ih =>
    rw [Lib.decDigits]
    have hb : ∀ d, d < 10 → (UInt8.ofNat (48 + d)).toNat = 48 + d := fun d hd => by
      rw [UInt8.toNat_ofNat']; omega
    by_cases h : u < 10
    · rw [dif_pos h]
      refine ⟨fun c hc => ?_, ?_⟩
      · rw [List.mem_singleton] at hc
        subst hc; rw [hb u h]; omega
      · rw [valF_cons, valF_nil, hb u h]; omega
    · rw [dif_neg h]
      obtain ⟨h1, h2⟩ := ih (u / 10) (by omega)
      have hm : u % 10 < 10 := Nat.mod_lt _ (by omega)
      refine ⟨fun c hc => ?_, ?_⟩
      · rcases List.mem_append.1 hc with h3 | h3
        · exact h1 c h3
        · rw [List.mem_singleton] at h3
          subst h3; rw [hb _ hm]; omega
      · rw [valF_append, h2]
        rw [valF_cons, valF_nil, hb _ hm]; omega
theorem parseUint10_val : ∀ (l : List UInt8) (acc : Nat), digP l → valF acc l ≤ 9223372036854775807 → Lib.parseUint10 acc l = .ok (valF acc l)
  | [], acc, _, _ => rfl
  | c :: r, acc, hd, hv => by
    have hc := hd c List.mem_cons_self
    have hg := valF_ge r (acc * 10 + (c.toNat - 48))
    rw [valF_cons] at hv ⊢
    rw [Lib.parseUint10, if_pos hc, if_neg (by omega), if_neg (by omega)]
    exact parseUint10_val r _ (fun x hx => hd x (List.mem_cons_of_mem _ hx)) hv
theorem decDigits_ne (u : Nat) : Lib.decDigits u ≠ [] := fun h => by
  have := Lib.decDigits_length u
  rw [h] at this
  have := Lib.nDigits_pos u
  simp at *
  omega
theorem atoiAll_itoa (n : Nat) (hn : n ≤ 9223372036854775807) : Lib.atoiAll (Lib.itoa (n : Int)) = .ok (n : Int) := by
  rw [Lib.itoa_nonneg]
  obtain ⟨h1, h2⟩ := decDigits_dig n
  have hne := decDigits_ne n
  generalize hl : Lib.decDigits n = l at *
  cases l with
  | nil => exact absurd rfl hne
  | cons c r =>
    have hc := h1 c List.mem_cons_self
    have hp := parseUint10_val (c :: r) 0 h1 (by omega)
    rw [Lib.atoiAll_plain c r (by omega) (by omega)]
    unfold Lib.parseMag
    rw [if_neg (by simp), hp, h2]
    unfold Lib.signless
    simp only
    rw [if_neg (by omega)]
/-- the library's way: the number whose numeral the text is, if there is one -/
theorem numG_of (s : List UInt8) (m : Nat) (hm : m ≤ 9223372036854775807) (h : Lib.itoa (m : Int) = s) : numG s = ((m : Int), true) := by
  unfold numG
  rw [← h, atoiAll_itoa m hm]
  simp only
  rw [if_neg (by omega), if_pos trivial]
theorem numG_none (s : List UInt8) (h : ∀ m : Nat, m ≤ 9223372036854775807 → Lib.itoa (m : Int) ≠ s) : numG s = (0, false) := by
  unfold numG
  split
  · rename_i n hn
    have hb := Lib.atoiAll_bounds hn
    by_cases h0 : n < 0
    · rw [if_pos h0]
    · rw [if_neg h0]
      obtain ⟨m, rfl⟩ : ∃ m : Nat, n = m := ⟨n.toNat, by omega⟩
      rw [if_neg (h m (by omega))]
  · rfl
theorem nDigits_lt : ∀ (k u : Nat), u < 10 ^ (k + 1) → Lib.nDigits u ≤ k + 1
  | 0, u, h => by rw [Lib.nDigits_small (by simpa using h)]; omega
  | k + 1, u, h => by
    by_cases h1 : u < 10
    · rw [Lib.nDigits_small h1]; omega
    · rw [Lib.nDigits_big h1]
      have := nDigits_lt k (u / 10) (by rw [Nat.pow_succ] at h; omega)
      omega

/-! number2 -/
theorem idxS_at {s : List UInt8} {i : Nat} (h : i < s.length) : idxS s (i : Int) = some (s[i].toNat : Int) := by simp [idxS, h]
theorem sNumber_loop (s : List UInt8) (hs : s.length ≤ 19) : ∀ i, i ≤ s.length → ∀ n : Nat, n ≤ 9223372036854775807 →
    ∃ r, sNumber_L0 s (n : Int) (i : Nat) = some r ∧ (r = (0, false) ∨ ∃ m : Nat, m ≤ 9223372036854775807 ∧ Lib.itoa (m : Int) = s ∧ r = ((m : Int), true)) ∧
      (digP (s.drop i) → valF n (s.drop i) ≤ 9223372036854775807 → Lib.itoa (valF n (s.drop i) : Int) = s → r = ((valF n (s.drop i) : Int), true)) := by
  refine back_ind ?_ ?_
  · intro n hn
    rw [sNumber_L0]
    simp only [lt_dec, Nat.lt_irrefl, decide_false, Bool.false_eq_true, if_false, List.drop_length, valF_nil, Option.bind_eq_bind]
    rw [sDigits_itoa n (by omega) (by omega), Option.bind_some]
    by_cases h : Lib.itoa (n : Int) = s
    · rw [if_neg (by simp [h])]
      exact ⟨_, rfl, .inr ⟨n, hn, h, rfl⟩, fun _ _ _ => rfl⟩
    · rw [if_pos (by simp [h])]
      exact ⟨_, rfl, .inl rfl, fun _ _ h2 => absurd h2 h⟩
  · intro i hi ih n hn
    rw [sNumber_L0]
    have hb := s[i].toNat_lt
    simp only [lt_dec, hi, decide_true, if_true, idxS_at hi, Option.bind_eq_bind, Option.bind_some]
    have hdrop : s.drop i = s[i] :: s.drop (i + 1) := List.drop_eq_getElem_cons hi
    by_cases hd : 48 ≤ s[i].toNat ∧ s[i].toNat ≤ 57
    · obtain ⟨d, hd1⟩ : ∃ d, s[i].toNat = d + 48 := ⟨s[i].toNat - 48, by omega⟩
      have c1 : decide ((s[i].toNat : Int) < 48) = false := by simp; omega
      have c2 : decide (57 < (s[i].toNat : Int)) = false := by simp; omega
      simp only [c1, c2, Bool.and_self, Bool.true_and, beq_self_eq_true, if_true, Option.bind_some, Bool.false_eq_true, if_false]
      have e1 : IntKind.wrap .i64 (IntKind.wrap .i64 (s[i].toNat : Int) - 48) = (d : Int) := by
        rw [wrap_ok (n := (s[i].toNat : Int)) (by omega) (by omega), wrap_ok (by omega) (by omega)]; omega
      have e2 : IntKind.wrap .i64 (9223372036854775807 - (d : Int)) = ((9223372036854775807 - d : Nat) : Int) := by rw [wrap_ok (by omega) (by omega)]; omega
      have e3 : IntKind.wrap .i64 (Int.tdiv ((9223372036854775807 - d : Nat) : Int) 10) = (((9223372036854775807 - d) / 10 : Nat) : Int) := by
        have : Int.tdiv ((9223372036854775807 - d : Nat) : Int) 10 = (((9223372036854775807 - d) / 10 : Nat) : Int) := by simp [Int.tdiv]
        rw [this, wrap_ok (by omega) (by omega)]
      rw [e1, e2, e3]
      have hv : valF n (s.drop i) = valF (n * 10 + d) (s.drop (i + 1)) := by rw [hdrop, valF_cons, hd1]; simp
      by_cases ho : (9223372036854775807 - d) / 10 < n
      · rw [if_pos (decide_eq_true (by omega))]
        refine ⟨_, rfl, .inl rfl, fun _ h2 _ => ?_⟩
        have := valF_ge (s.drop (i + 1)) (n * 10 + d)
        omega
      · rw [if_neg (by rw [decide_eq_true_eq]; omega)]
        have e4 : IntKind.wrap .i64 (10 * (n : Int)) = ((10 * n : Nat) : Int) := by rw [wrap_ok (by omega) (by omega)]; omega
        have e5 : IntKind.wrap .i64 (((10 * n : Nat) : Int) + (d : Int)) = ((n * 10 + d : Nat) : Int) := by rw [wrap_ok (by omega) (by omega)]; omega
        rw [e4, e5, wrap_next hi (by omega), hv]
        obtain ⟨r, r1, r2, r3⟩ := ih (n * 10 + d) (by omega)
        refine ⟨r, r1, r2, fun h1 => r3 fun c hc => h1 c ?_⟩
        rw [hdrop]; exact List.mem_cons_of_mem _ hc
    · have hno : ¬ digP (s.drop i) := fun h => hd (h _ (by rw [hdrop]; exact List.mem_cons_self))
      refine ⟨(0, false), ?_, .inl rfl, fun h1 => absurd h1 hno⟩
      by_cases h1 : s[i].toNat < 48
      · have c1 : decide ((s[i].toNat : Int) < 48) = true := by simp; omega
        simp [c1]
      · have c1 : decide ((s[i].toNat : Int) < 48) = false := by simp; omega
        have c2 : decide (57 < (s[i].toNat : Int)) = true := by simp; omega
        simp only [c1, c2, Bool.and_self, Bool.true_and, beq_self_eq_true, if_true, Option.bind_some, Bool.false_eq_true, if_false]
/-- both ways to read a number -/
theorem sNumber_ok (s : List UInt8) : sNumber s = some (numG s) := by
  by_cases hm : ∃ m : Nat, m ≤ 9223372036854775807 ∧ Lib.itoa (m : Int) = s
  · obtain ⟨m, hm, rfl⟩ := hm
    rw [numG_of _ m hm rfl, Lib.itoa_nonneg]
    obtain ⟨d1, d2⟩ := decDigits_dig m
    have hl : Lib.nDigits m ≤ 19 := nDigits_lt 18 m (by omega)
    have hp := Lib.nDigits_pos m
    have hlen := Lib.decDigits_length m
    unfold sNumber
    simp only [Option.bind_eq_bind, Option.bind_some]
    have c1 : decide (((Lib.decDigits m).length : Int) < 1) = false := by simp; omega
    have c2 : decide (19 < ((Lib.decDigits m).length : Int)) = false := by simp; omega
    rw [c1, c2]
    simp only [Bool.false_eq_true, if_false]
    obtain ⟨r, r1, _, r3⟩ := sNumber_loop (Lib.decDigits m) (by omega) 0 (Nat.zero_le _) 0 (by omega)
    rw [List.drop_zero] at r3
    have := r3 d1 (by omega) (by rw [d2, Lib.itoa_nonneg])
    rw [d2] at this
    subst this
    exact r1
  · have hno : ∀ m : Nat, m ≤ 9223372036854775807 → Lib.itoa (m : Int) ≠ s := fun m h e => hm ⟨m, h, e⟩
    rw [numG_none s hno]
    unfold sNumber
    simp only [Option.bind_eq_bind, Option.bind_some]
    by_cases c : 1 ≤ s.length ∧ s.length ≤ 19
    · have c1 : decide ((s.length : Int) < 1) = false := by simp; omega
      have c2 : decide (19 < (s.length : Int)) = false := by simp; omega
      rw [c1, c2]
      simp only [Bool.false_eq_true, if_false]
      obtain ⟨r, r1, r2, _⟩ := sNumber_loop s c.2 0 (Nat.zero_le _) 0 (by omega)
      rcases r2 with rfl | ⟨m, h1, h2, _⟩
      · exact r1
      · exact absurd h2 (hno m h1)
    · have : (if decide ((s.length : Int) < 1) = true then true else decide (19 < (s.length : Int))) = true := by
        by_cases h : s.length < 1
        · simp; omega
        · simp; omega
      rw [this]; rfl

/-! words -/
def words : List (List UInt8) := [[83, 69, 76, 69, 67, 84], [68, 73, 83, 84, 73, 78, 67, 84], [70, 82, 79, 77], [74, 79, 73, 78], [79, 78], [87, 72, 69, 82, 69], [79, 82, 68, 69, 82], [66, 89], [65, 83, 67], [68, 69, 83, 67], [76, 73, 77, 73, 84], [65, 83], [65, 78, 68], [79, 82], [78, 79, 84], [73, 83], [73, 78], [66, 69, 84, 87, 69, 69, 78], [69, 88, 73, 83, 84, 83], [78, 85, 76, 76], [84, 82, 85, 69], [70, 65, 76, 83, 69], [73, 78, 83, 69, 82, 84], [73, 78, 84, 79], [86, 65, 76, 85, 69, 83], [85, 80, 68, 65, 84, 69], [83, 69, 84], [68, 69, 76, 69, 84, 69]]
theorem iKeywords_ok : iKeywords = some words := by decide +kernel
theorem sL2Words_ok : sL2Words = some ([] :: words) := rfl
theorem words_len : words.length = 28 := rfl
theorem words_short : ∀ w ∈ words, w.length ≤ 8 := by decide
/-- where the word stands: one more than its place, or 0 -/
theorem key_loop (f : List UInt8) : ∀ i, i ≤ 28 → ∃ k : Int, gSlices_Index_Sstring_string_L0 words f (i : Nat) = some k ∧ -1 ≤ k ∧ k ≤ 27 ∧ sKeyOf_L0 f ([] :: words) ((i + 1 : Nat) : Int) = some (k + 1) ∧ (8 < f.length → k = -1) := by
  refine back_ind ?_ ?_
  · refine ⟨-1, ?_, by omega, by omega, ?_, fun _ => rfl⟩
    · rw [gSlices_Index_Sstring_string_L0]; rfl
    · rw [sKeyOf_L0]; rfl
  · intro i hi ih
    obtain ⟨k, h1, h2, h3, h4, h5⟩ := ih
    have hi' : i < words.length := hi
    have hi2 : i + 1 < ([] :: words : List (List UInt8)).length := by simp only [List.length_cons, words_len]; omega
    rw [gSlices_Index_Sstring_string_L0, sKeyOf_L0]
    simp only [lt_dec, hi', hi2, decide_true, if_true, idx_lt hi', idx_lt hi2, Option.bind_eq_bind, Option.bind_some, List.getElem_cons_succ]
    by_cases he : f = words[i]
    · subst he
      rw [if_pos (by simp), if_pos (by simp)]
      refine ⟨i, rfl, by omega, by omega, rfl, fun h => ?_⟩
      have := words_short _ (List.getElem_mem hi')
      omega
    · rw [if_neg (by simpa using he), if_neg (by simpa using fun e => he e.symm), wrap_next hi' (by rw [words_len]; omega), wrap_ok (by omega) (by omega)]
      exact ⟨k, h1, h2, h3, h4, h5⟩
theorem keyOf_eq (s : List UInt8) (hs : s.length ≤ 1073741824) : ∃ k : Int, iKeyOf s = some k ∧ sKeyOf s = some k ∧ 0 ≤ k ∧ k ≤ 28 ∧ (8 < s.length → k = 0) := by
  obtain ⟨k, h1, h2, h3, h4, h5⟩ := key_loop (s.map fb) 0 (by omega)
  have hi : iKeyOf s = some (k + 1) := by
    unfold iKeyOf gSlices_Index_Sstring_string
    rw [iKeywords_ok, iFold_ok s hs]
    have h1' : gSlices_Index_Sstring_string_L0 words (s.map fb) 0 = some k := h1
    simp only [Option.bind_eq_bind, Option.bind_some, h1']
    rw [wrap_ok (by omega) (by omega)]
  refine ⟨k + 1, hi, ?_, by omega, by omega, fun h => by rw [h5 (by simpa using h)]; rfl⟩
  unfold sKeyOf
  by_cases h8 : 8 < s.length
  · rw [if_pos (decide_eq_true (by omega)), h5 (by simpa using h8)]; rfl
  · rw [if_neg (by rw [decide_eq_true_eq]; omega), sFold_ok s hs, sL2Words_ok]
    simp only [Option.bind_eq_bind, Option.bind_some]
    exact h4
theorem part_eq (n : Int) : ∃ b f, sL2Letter n = some b ∧ iIsStart n = some b ∧ sL2Figure n = some f ∧ iIsDigit n = some f ∧ iIsPart n = some (b || f) := by
  have hd : ∃ b, sL2Letter n = some b := by
    unfold sL2Letter
    simp only [Option.bind_eq_bind, Option.bind_some]
    generalize (if decide (97 ≤ n) = true then decide (n ≤ 122) else false) = y1
    cases y1 <;> exact ⟨_, rfl⟩
  obtain ⟨b, hb⟩ := hd
  have hs : iIsStart n = some b := hb
  have hf : ∃ f, sL2Figure n = some f := ⟨_, rfl⟩
  obtain ⟨f, hf⟩ := hf
  have hg : iIsDigit n = some f := hf
  refine ⟨b, f, hb, hs, hf, hg, ?_⟩
  unfold iIsPart
  rw [hs, hg]
  cases b <;> cases f <;> rfl
theorem nameOk_eqT (s : List UInt8) : iNameOk s = sNameOk s ∧ ∃ b, sNameOk s = some b ∧ (b = true ↔ 1 ≤ s.length ∧ s.length ≤ 20) := by
  unfold iNameOk sNameOk sL1In
  simp only [Option.bind_eq_bind, Option.bind_some]
  refine ⟨by simp, _, rfl, ?_⟩
  by_cases h1 : (1 : Int) ≤ (s.length : Int)
  · simp [h1]; omega
  · simp [h1]; omega
theorem plain_loop (s : List UInt8) (hs : s.length ≤ 1073741824) : ∀ i, i ≤ s.length → ∃ b, iPlainName_L0 s (i : Nat) = some b ∧ sPlainName_L0 s (i : Nat) = some b := by
  refine back_ind ?_ ?_
  · rw [iPlainName_L0, sPlainName_L0]
    simp
  · intro i hi ih
    obtain ⟨c, h1, h2⟩ := ih
    rw [iPlainName_L0, sPlainName_L0]
    obtain ⟨b, f, e1, _, e3, _, e5⟩ := part_eq (s[i].toNat : Int)
    simp only [lt_dec, hi, decide_true, if_true, idxS_at hi, e1, e5, Option.bind_eq_bind, Option.bind_some, wrap_next hi (by omega)]
    push_cast at h1 h2
    cases b <;> cases f <;> simp [e3, h1, h2]
theorem plainName_eq (s : List UInt8) (hs : s.length ≤ 1073741824) : ∃ b, iPlainName s = some b ∧ sPlainName s = some b := by
  obtain ⟨n1, nb, n2, n3⟩ := nameOk_eqT s
  obtain ⟨k, k1, k2, k3, k4, _⟩ := keyOf_eq s hs
  obtain ⟨c, c1, c2⟩ := plain_loop s hs 0 (Nat.zero_le _)
  have c1' : iPlainName_L0 s 0 = some c := c1
  have c2' : sPlainName_L0 s 0 = some c := c2
  unfold iPlainName sPlainName
  rw [n1, n2]
  cases nb with
  | false => exact ⟨false, by simp, by simp⟩
  | true =>
    have hl := (n3.1 rfl).1
    have h0 : 0 < s.length := by omega
    have hi : idxS s 0 = some (s[0].toNat : Int) := idxS_at h0
    obtain ⟨_, f, _, _, e3, e4, _⟩ := part_eq (s[0].toNat : Int)
    cases f with
    | true => exact ⟨false, by simp [hi, e4], by simp [hi, e3]⟩
    | false =>
      by_cases hk : k = 0
      · exact ⟨c, by simp [hi, e4, k1, hk, c1'], by simp [hi, e3, k2, hk, c2']⟩
      · have : 0 < k := by omega
        exact ⟨false, by simp [hi, e4, k1, hk], by simp [hi, e3, k2, this]⟩
theorem nameText_eq (s : List UInt8) (hs : s.length ≤ 1048576) : ∃ t, iNameText s = some t ∧ sNameText s = some t ∧ t.length ≤ 42 := by
  obtain ⟨n1, nb, n2, n3⟩ := nameOk_eqT s
  obtain ⟨b, p1, p2⟩ := plainName_eq s (by omega)
  unfold iNameText sNameText
  rw [n1, n2, p1, p2]
  cases nb with
  | false => exact ⟨[], by simp, by simp, by simp⟩
  | true =>
    have hl := n3.1 rfl
    cases b with
    | true => exact ⟨s, by simp, by simp, by omega⟩
    | false =>
      have hq := quoteT_len 34 s
      have h1 := iQuoted_ok s 34 (by omega)
      have h2 := sL2Quote_ok s 34 (by omega)
      have e : ((34 : UInt8).toNat : Int) = 34 := rfl
      rw [e] at h2
      exact ⟨quoteT 34 s, by simp [h1], by simp [h2], by omega⟩
theorem quoteText_eq (s : List UInt8) (hs : s.length ≤ 1048576) : iQuoteText s = some (quoteT 39 s) ∧ sQuoteText s = some (quoteT 39 s) := by
  have h1 := iQuoted_ok s 39 (by omega)
  have h2 := sL2Quote_ok s 39 (by omega)
  have e : ((39 : UInt8).toNat : Int) = 39 := rfl
  rw [e] at h2
  unfold iQuoteText sQuoteText
  exact ⟨by simp [h1], by simp [h2]⟩

/-! drawTok -/
theorem max_ok (n : Int) : sL1Max 0 n = some (if n < 0 then 0 else n) := by
  unfold sL1Max
  by_cases h : n < 0
  · rw [if_pos (decide_eq_true h), if_pos h]
  · rw [if_neg (by rw [decide_eq_true_eq]; exact h), if_neg h]
/-- a token that is drawn is short -/
theorem token_y (c : GL1Cur) (h : okCur c) : Yes (sL3Token c) fun r => r.1.text.length ≤ 50 ∧ okCur r.2 := by
  unfold sL3Token
  refine Yes.bind (below_y _ _ h) fun r ⟨_, _, k⟩ => Yes.ite (fun _ => ?_) fun _ => Yes.ite (fun _ => ?_) fun _ => Yes.ite (fun _ => ?_) fun _ => Yes.ite (fun _ => ?_) fun _ => ?_
  · rw [sL2Words_ok]
    simp only [Option.bind_eq_bind, Option.bind_some]
    refine Yes.bind (below_y _ _ k) fun r ⟨h0, h1, k⟩ => ?_
    have h2 := h1 (by omega)
    obtain ⟨j, hj⟩ : ∃ j : Nat, r.1 = j := ⟨r.1.toNat, by omega⟩
    rw [hj] at h2 ⊢
    have hl : ([] :: words : List (List UInt8)).length = 29 := rfl
    have e : IntKind.wrap .i64 (1 + (j : Int)) = ((j + 1 : Nat) : Int) := by rw [wrap_ok (by omega) (by omega)]; omega
    have hlt : j + 1 < ([] :: words : List (List UInt8)).length := by rw [hl]; omega
    rw [e, idx_lt hlt]
    simp only [Option.bind_some]
    refine Yes.some ⟨?_, k⟩
    have hm : ([] :: words : List (List UInt8))[j + 1] ∈ ([] :: words : List (List UInt8)) := List.getElem_mem hlt
    have : ∀ w ∈ ([] :: words : List (List UInt8)), w.length ≤ 50 := by decide
    exact this _ hm
  · exact Yes.bind (name_z _ k) fun r ⟨h1, k⟩ => Yes.some ⟨by dsimp only; omega, k⟩
  · refine Yes.bind (whole_i _ k) fun r ⟨hi, k⟩ => ?_
    rw [max_ok]
    simp only [Option.bind_eq_bind, Option.bind_some]
    have hb : -9223372036854775808 ≤ (if r.1 < 0 then 0 else r.1) ∧ (if r.1 < 0 then 0 else r.1) ≤ 9223372036854775807 := by
      have := hi.1; have := hi.2
      split <;> constructor <;> omega
    rw [sDigits_itoa _ hb.1 hb.2]
    simp only [Option.bind_some]
    have := Lib.itoa_length_le _ hb.1 hb.2
    exact Yes.some ⟨by dsimp only; omega, k⟩
  · refine Yes.bind (pickM_y _ _ (by decide) k) fun r ⟨hm, k⟩ => Yes.some ⟨?_, k⟩
    have : ∀ v ∈ ([[], [120], [105, 116, 39, 115], [39, 39], [116, 119, 111, 32, 119, 111, 114, 100, 115], [34], [45, 45], [0, 255]] : List (List UInt8)), v.length ≤ 50 := by decide
    exact this _ hm
  · unfold sL3Sign
    refine Yes.bind (Yes.bind (pickM_y _ _ (by decide) k) fun r ⟨hm, k⟩ => Yes.some (Q := fun (r : List UInt8 × GL1Cur) => r.1.length ≤ 50 ∧ okCur r.2) ⟨?_, k⟩) fun r ⟨h1, k⟩ => Yes.some ⟨h1, k⟩
    have : ∀ v ∈ ([[40], [41], [44], [46], [42], [43], [45], [47], [37], [61], [60, 62], [60], [60, 61], [62], [62, 61], [124, 124]] : List (List UInt8)), v.length ≤ 50 := by decide
    exact this _ hm

/-! tokens -/
def signsL : List (List UInt8) := [[40], [41], [44], [46], [42], [43], [45], [47], [37], [61], [60, 62], [60], [60, 61], [62], [62, 61], [124, 124]]
theorem index_loop (l : List (List UInt8)) (p : List UInt8) (hl : l.length ≤ 1048576) : ∀ i, i ≤ l.length → ∃ k : Int, gSlices_Index_Sstring_string_L0 l p (i : Nat) = some k ∧ (0 ≤ k ↔ p ∈ l.drop i) := by
  refine back_ind ?_ ?_
  · rw [gSlices_Index_Sstring_string_L0]
    exact ⟨-1, by simp, by simp⟩
  · intro i hi ih
    obtain ⟨k, h1, h2⟩ := ih
    rw [gSlices_Index_Sstring_string_L0, List.drop_eq_getElem_cons hi]
    simp only [lt_dec, hi, decide_true, if_true, idx_lt hi, Option.bind_eq_bind, Option.bind_some, wrap_next hi (by omega), List.mem_cons]
    by_cases he : p = l[i]
    · rw [if_pos (by simpa using he)]
      exact ⟨i, rfl, fun _ => .inl he, fun _ => by omega⟩
    · rw [if_neg (by simpa using he)]
      exact ⟨k, h1, h2.trans ⟨.inr, fun h => h.resolve_left he⟩⟩
theorem iSignOk_ok (p : List UInt8) : iSignOk p = some (decide (p ∈ signsL)) := by
  obtain ⟨k, h1, h2⟩ := index_loop signsL p (by decide) 0 (Nat.zero_le _)
  have h1' : gSlices_Index_Sstring_string_L0 signsL p 0 = some k := h1
  have e : iSigns = some signsL := rfl
  unfold iSignOk gSlices_Contains_Sstring_string gSlices_Index_Sstring_string
  rw [e]
  simp only [Option.bind_eq_bind, Option.bind_some, h1']
  rw [List.drop_zero] at h2
  rw [Option.some.injEq]
  exact decide_eq_decide.2 h2
theorem sSignOk_ok (p : List UInt8) : sSignOk p = some (decide (p ∈ signsL)) := by
  by_cases h1 : p = [40]
  · subst h1; rfl
  by_cases h2 : p = [41]
  · subst h2; rfl
  by_cases h3 : p = [44]
  · subst h3; rfl
  by_cases h4 : p = [46]
  · subst h4; rfl
  by_cases h5 : p = [42]
  · subst h5; rfl
  by_cases h6 : p = [43]
  · subst h6; rfl
  by_cases h7 : p = [45]
  · subst h7; rfl
  by_cases h8 : p = [47]
  · subst h8; rfl
  by_cases h9 : p = [37]
  · subst h9; rfl
  by_cases h10 : p = [61]
  · subst h10; rfl
  by_cases h11 : p = [60, 62]
  · subst h11; rfl
  by_cases h12 : p = [60]
  · subst h12; rfl
  by_cases h13 : p = [60, 61]
  · subst h13; rfl
  by_cases h14 : p = [62]
  · subst h14; rfl
  by_cases h15 : p = [62, 61]
  · subst h15; rfl
  have hm : p ∈ signsL ↔ p = [124, 124] := by
    constructor
    · intro h
      rcases List.mem_cons.1 h with h | h
      · exact absurd h h1
      rcases List.mem_cons.1 h with h | h
      · exact absurd h h2
      rcases List.mem_cons.1 h with h | h
      · exact absurd h h3
      rcases List.mem_cons.1 h with h | h
      · exact absurd h h4
      rcases List.mem_cons.1 h with h | h
      · exact absurd h h5
      rcases List.mem_cons.1 h with h | h
      · exact absurd h h6
      rcases List.mem_cons.1 h with h | h
      · exact absurd h h7
      rcases List.mem_cons.1 h with h | h
      · exact absurd h h8
      rcases List.mem_cons.1 h with h | h
      · exact absurd h h9
      rcases List.mem_cons.1 h with h | h
      · exact absurd h h10
      rcases List.mem_cons.1 h with h | h
      · exact absurd h h11
      rcases List.mem_cons.1 h with h | h
      · exact absurd h h12
      rcases List.mem_cons.1 h with h | h
      · exact absurd h h13
      rcases List.mem_cons.1 h with h | h
      · exact absurd h h14
      rcases List.mem_cons.1 h with h | h
      · exact absurd h h15
      exact List.mem_singleton.1 h
    · intro h; rw [h]; decide
  rw [decide_eq_decide.2 hm]
  unfold sSignOk
  rw [if_neg (by rw [decide_eq_true_eq]; exact h1), if_neg (by rw [decide_eq_true_eq]; exact h2), if_neg (by rw [decide_eq_true_eq]; exact h3), if_neg (by rw [decide_eq_true_eq]; exact h4), if_neg (by rw [decide_eq_true_eq]; exact h5), if_neg (by rw [decide_eq_true_eq]; exact h6), if_neg (by rw [decide_eq_true_eq]; exact h7), if_neg (by rw [decide_eq_true_eq]; exact h8), if_neg (by rw [decide_eq_true_eq]; exact h9), if_neg (by rw [decide_eq_true_eq]; exact h10), if_neg (by rw [decide_eq_true_eq]; exact h11), if_neg (by rw [decide_eq_true_eq]; exact h12), if_neg (by rw [decide_eq_true_eq]; exact h13), if_neg (by rw [decide_eq_true_eq]; exact h14), if_neg (by rw [decide_eq_true_eq]; exact h15)]
  unfold sSignOk_J0
  cases decide (p = [124, 124]) <;> rfl
def okT (x : GToken) : Bool := (sTokenOk x).getD false
theorem tokenOk_eq (x : GToken) (hx : x.text.length ≤ 1048576) : iTokenOk x = some (okT x) ∧ sTokenOk x = some (okT x) := by
  suffices h : ∃ b, iTokenOk x = some b ∧ sTokenOk x = some b by
    obtain ⟨b, h1, h2⟩ := h
    have : okT x = b := by simp [okT, h2]
    rw [this]; exact ⟨h1, h2⟩
  unfold iTokenOk sTokenOk
  by_cases k1 : x.kind = 1
  · obtain ⟨k, e1, e2, e3, _, _⟩ := keyOf_eq x.text (by omega)
    simp only [k1, decide_true, if_true, e1, e2, iFold_ok x.text (by omega), sFold_ok x.text (by omega), Option.bind_eq_bind, Option.bind_some]
    by_cases hk : k = 0
    · exact ⟨false, by simp [hk], by simp [hk]⟩
    · have : 0 < k := by omega
      exact ⟨decide (x.text.map fb = x.text), by simp [hk], by simp [this]⟩
  by_cases k2 : x.kind = 2
  · obtain ⟨n1, nb, n2, _⟩ := nameOk_eqT x.text
    exact ⟨nb, by simp [k2, n1, n2], by simp [k2, n2]⟩
  by_cases k3 : x.kind = 3
  · have hn : iNumber x.text = some (numG x.text) := by unfold iNumber numO; rw [if_pos (by omega)]
    exact ⟨(numG x.text).2, by simp [k3, hn], by simp [k3, sNumber_ok]⟩
  by_cases k4 : x.kind = 4
  · exact ⟨decide ((x.text.length : Int) ≤ 40), by simp [k4], by simp [k4]⟩
  by_cases k5 : x.kind = 5
  · exact ⟨decide (x.text ∈ signsL), by simp [k5, iSignOk_ok], by simp [k5, sSignOk_ok]⟩
  · exact ⟨false, by simp [k1, k2, k3, k4, k5], by simp [k1, k2, k3, k4, k5]⟩
def tt (x : GToken) : List UInt8 := (sTokenText x).getD []
theorem tokenText_eq (x : GToken) (hx : x.text.length ≤ 1048576) : iTokenText x = some (tt x) ∧ sTokenText x = some (tt x) ∧ (tt x).length ≤ 2 * x.text.length + 42 := by
  suffices h : ∃ t, iTokenText x = some t ∧ sTokenText x = some t ∧ t.length ≤ 2 * x.text.length + 42 by
    obtain ⟨t, h1, h2, h3⟩ := h
    have : tt x = t := by simp [tt, h2]
    rw [this]; exact ⟨h1, h2, h3⟩
  obtain ⟨o1, o2⟩ := tokenOk_eq x hx
  unfold iTokenText sTokenText
  rw [o1, o2]
  cases okT x with
  | false => exact ⟨[], by simp, by simp, by simp⟩
  | true =>
    by_cases k2 : x.kind = 2
    · obtain ⟨t, h1, h2, h3⟩ := nameText_eq x.text hx
      exact ⟨t, by simp [k2, h1], by simp [k2, h2], by omega⟩
    by_cases k4 : x.kind = 4
    · obtain ⟨h1, h2⟩ := quoteText_eq x.text hx
      have := quoteT_len 39 x.text
      exact ⟨quoteT 39 x.text, by simp [k4, h1], by simp [k4, h2], by omega⟩
    · exact ⟨x.text, by simp [k2, k4], by simp [k2, k4], by omega⟩

/-! joined -/
/-- tokens' texts, with a gap where it is told; none where a token is not right -/
def joinF (gap : GToken → GToken → Bool) : Option GToken → List GToken → Option (List UInt8)
  | _, [] => some []
  | prev, x :: l => if okT x = true then (joinF gap (some x) l).map fun r => (match prev with | some y => (if gap y x = true then [32] else []) | none => []) ++ tt x ++ r else none
def joinEnd (a : List UInt8) : Option (List UInt8) → List UInt8
  | none => []
  | some t => if 2000 < (a ++ t).length then [] else a ++ t
def joinT (gap : GToken → GToken → Bool) (p : List GToken) : List UInt8 := joinEnd [] (joinF gap none p)
theorem joinEnd_app (a b : List UInt8) (o : Option (List UInt8)) : joinEnd a (o.map fun r => b ++ r) = joinEnd (a ++ b) o := by
  cases o <;> simp [joinEnd]
theorem le_sumT {l : List GToken} {x : GToken} (h : x ∈ l) : x.text.length ≤ (l.map fun x => x.text.length).sum := by
  induction l with
  | nil => simp at h
  | cons y l ih =>
    simp only [List.map_cons, List.sum_cons]
    rcases List.mem_cons.1 h with rfl | h
    · omega
    · have := ih h; omega
/-- room for the texts -/
def zJ (p : List GToken) : Nat := (p.map fun x => 2 * x.text.length + 43).sum
theorem zJ_drop {p : List GToken} {i : Nat} (hi : i < p.length) : zJ (p.drop i) = 2 * p[i].text.length + 43 + zJ (p.drop (i + 1)) := by
  unfold zJ; rw [List.drop_eq_getElem_cons hi, List.map_cons, List.sum_cons]
def prevT (p : List GToken) (i : Nat) : Option GToken := if 0 < i then p[i - 1]? else none
theorem joinF_drop (gap : GToken → GToken → Bool) {p : List GToken} {i : Nat} (hi : i < p.length) : joinF gap (prevT p i) (p.drop i) =
    if okT p[i] = true then (joinF gap (prevT p (i + 1)) (p.drop (i + 1))).map fun r => (match prevT p i with | some y => (if gap y p[i] = true then [32] else []) | none => []) ++ tt p[i] ++ r else none := by
  have e : prevT p (i + 1) = some p[i] := by unfold prevT; rw [if_pos (by omega)]; simp [hi]
  rw [List.drop_eq_getElem_cons hi, e]; rfl
theorem zJ_le {p : List GToken} (hp : p.length ≤ 1048576) (hz : (p.map fun x => x.text.length).sum ≤ 1048576) : zJ p ≤ 1073741824 := by
  have : ∀ q : List GToken, zJ q = 2 * (q.map fun x => x.text.length).sum + 43 * q.length := by
    intro q
    induction q with
    | nil => rfl
    | cons x q ih => unfold zJ at ih ⊢; simp only [List.map_cons, List.sum_cons, List.length_cons]; omega
  rw [this]; omega

/-! gaps -/
def signGap (a b : GToken) : Option Bool :=
  (some (if (!decide (a.kind = 5)) = true then true else (!decide (b.kind = 5)))) >>= fun (y13 : Bool) => if y13 = true then (some false) else (if (decide (a.text = [45])) = true then (some (decide (b.text = [45]))) else (if (decide (a.text = [47])) = true then (some (decide (b.text = [42]))) else (if (decide (a.text = [60])) = true then ((idxS b.text 0) >>= fun (y14 : Int) => (if (true && ((decide (y14 = 61)) == false)) = true then idxS b.text 0 else some default) >>= fun (y15 : Int) => (some (if (decide (y14 = 61)) = true then true else (decide (y15 = 62)))) >>= fun (y16 : Bool) => some y16) else (if (decide (a.text = [62])) = true then ((idxS b.text 0) >>= fun (y17 : Int) => some (decide (y17 = 61))) else (some false)))))
theorem okT_sign {x : GToken} (hk : x.kind = 5) (h : okT x = true) : x.text ∈ signsL := by
  have e : sTokenOk x = some (decide (x.text ∈ signsL)) := by unfold sTokenOk; simp [hk, sSignOk_ok]
  unfold okT at h
  rw [e] at h
  exact of_decide_eq_true h
theorem signGap_ok (a b : GToken) (hb : okT b = true) : ∃ g, signGap a b = some g := by
  unfold signGap
  simp only [Option.bind_eq_bind, Option.bind_some]
  by_cases k5 : b.kind = 5
  · have hm := okT_sign k5 hb
    have hne : b.text ≠ [] := fun e => by rw [e] at hm; revert hm; decide
    obtain ⟨c, r, hc⟩ : ∃ c r, b.text = c :: r := by
      cases h : b.text with
      | nil => exact absurd h hne
      | cons c r => exact ⟨c, r, rfl⟩
    have hi : idxS b.text 0 = some (c.toNat : Int) := by rw [hc]; rfl
    rw [hi]
    generalize (if (!decide (a.kind = 5)) = true then true else (!decide (b.kind = 5))) = E0
    cases E0 with
    | true => exact ⟨false, rfl⟩
    | false =>
      simp only [Bool.false_eq_true, if_false]
      by_cases t1 : a.text = [45]
      · rw [if_pos (decide_eq_true t1)]; exact ⟨_, rfl⟩
      rw [if_neg (by rw [decide_eq_true_eq]; exact t1)]
      by_cases t2 : a.text = [47]
      · rw [if_pos (decide_eq_true t2)]; exact ⟨_, rfl⟩
      rw [if_neg (by rw [decide_eq_true_eq]; exact t2)]
      by_cases t3 : a.text = [60]
      · rw [if_pos (decide_eq_true t3)]
        by_cases h : (c.toNat : Int) = 61
        · exact ⟨true, by simp [h]⟩
        · exact ⟨decide ((c.toNat : Int) = 62), by simp [h]⟩
      rw [if_neg (by rw [decide_eq_true_eq]; exact t3)]
      by_cases t4 : a.text = [62]
      · rw [if_pos (decide_eq_true t4)]; exact ⟨_, rfl⟩
      rw [if_neg (by rw [decide_eq_true_eq]; exact t4)]
      exact ⟨_, rfl⟩
  · have : (if (!decide (a.kind = 5)) = true then true else (!decide (b.kind = 5))) = true := by
      split <;> simp [k5]
    rw [this]; exact ⟨false, rfl⟩
theorem word_eq (x : GToken) (hx : x.text.length ≤ 1048576) : ∃ w q, iIsWord x = some w ∧ sL4Word x = some w ∧ iIsQuotedName x = some q ∧ sL4Quoted x = some q := by
  obtain ⟨b, p1, p2⟩ := plainName_eq x.text (by omega)
  unfold iIsWord sL4Word iIsQuotedName sL4Quoted
  by_cases k2 : x.kind = 2
  · exact ⟨b, !b, by simp [k2, p1], by simp [k2, p2], by simp [k2, p1], by simp [k2, p2]⟩
  · by_cases h : (if decide (x.kind = 1) = true then true else decide (x.kind = 3)) = true
    · exact ⟨true, false, by rw [h]; simp [k2], by rw [h]; simp [k2], by simp [k2], by simp [k2]⟩
    · rw [Bool.not_eq_true] at h
      exact ⟨false, false, by rw [h]; simp [k2], by rw [h]; simp [k2], by simp [k2], by simp [k2]⟩
def gapN (a b : GToken) : Bool := (sNeedsGap a b).getD false
theorem needsGap_eq (a b : GToken) (ha : a.text.length ≤ 1048576) (hb : b.text.length ≤ 1048576) : iNeedsGap a b = some (gapN a b) ∧ sNeedsGap a b = some (gapN a b) := by
  suffices h : ∃ g, iNeedsGap a b = some g ∧ sNeedsGap a b = some g by
    obtain ⟨g, h1, h2⟩ := h
    have : gapN a b = g := by simp [gapN, h2]
    rw [this]; exact ⟨h1, h2⟩
  obtain ⟨oa1, oa2⟩ := tokenOk_eq a ha
  obtain ⟨ob1, ob2⟩ := tokenOk_eq b hb
  obtain ⟨wa, qa, a1, a2, a3, a4⟩ := word_eq a ha
  obtain ⟨wb, qb, b1, b2, b3, b4⟩ := word_eq b hb
  have hg := signGap_ok a b
  have eI : iNeedsGap a b = (if okT a = true ∧ okT b = true then (if (wa && wb || (qa && qb) || (decide (a.kind = 4) && decide (b.kind = 4))) = true then some true else signGap a b) else some false) := by
    unfold iNeedsGap
    rw [oa1, ob1, a1, b1, a3, b3]
    show _ = ite _ _ _
    unfold signGap
    generalize okT a = oa
    generalize okT b = ob
    generalize (some (if (!decide (a.kind = 5)) = true then true else (!decide (b.kind = 5)))) >>= _ = E
    generalize decide (a.kind = 4) = ka
    generalize decide (b.kind = 4) = kb
    cases oa <;> cases ob <;> cases wa <;> cases wb <;> cases qa <;> cases qb <;> cases ka <;> cases kb <;> rfl
  have eS : sNeedsGap a b = (if okT a = true ∧ okT b = true then (if (wa && wb || (qa && qb) || (decide (a.kind = 4) && decide (b.kind = 4))) = true then some true else signGap a b) else some false) := by
    unfold sNeedsGap
    rw [oa2, ob2, a2, b2, a4, b4]
    show _ = ite _ _ _
    unfold signGap
    generalize okT a = oa
    generalize okT b = ob
    generalize (some (if (!decide (a.kind = 5)) = true then true else (!decide (b.kind = 5)))) >>= _ = E
    generalize decide (a.kind = 4) = ka
    generalize decide (b.kind = 4) = kb
    cases oa <;> cases ob <;> cases wa <;> cases wb <;> cases qa <;> cases qb <;> cases ka <;> cases kb <;> rfl
  rw [eI, eS]
  by_cases h : okT a = true ∧ okT b = true
  · rw [if_pos h]
    obtain ⟨g, hg⟩ := hg h.2
    split
    · exact ⟨_, rfl, rfl⟩
    · exact ⟨g, hg, hg⟩
  · rw [if_neg h]; exact ⟨_, rfl, rfl⟩

/-! spaced -/
theorem iSpaced_loop (p : List GToken) (hp : p.length ≤ 1048576) (hr : ∀ x ∈ p, x.text.length ≤ 1048576) : ∀ i, i ≤ p.length → ∀ a : List UInt8, a.length + zJ (p.drop i) ≤ 1073741824 →
    iJoined_iNeedsGap_L0 p (i : Nat) (toBytes a) = some (joinEnd a (joinF gapN (prevT p i) (p.drop i))) := by
  refine back_ind ?_ ?_
  · intro a _
    rw [iJoined_iNeedsGap_L0]
    unfold gStrings_Builder_Len_x gStrings_Builder_String_x
    simp only [lt_dec, Nat.lt_irrefl, decide_false, Bool.false_eq_true, if_false, Option.bind_eq_bind, Option.bind_some, ofBytes_toBytes, List.drop_length, joinF, joinEnd, List.append_nil, toBytes_len]
    by_cases h : 2000 < a.length
    · rw [if_pos (decide_eq_true (by omega)), if_pos h]
    · rw [if_neg (by rw [decide_eq_true_eq]; omega), if_neg h]
  · intro i hi ih a ha
    have hx := hr p[i] (List.getElem_mem hi)
    obtain ⟨o1, _⟩ := tokenOk_eq p[i] hx
    obtain ⟨t1, _, t3⟩ := tokenText_eq p[i] hx
    rw [zJ_drop hi] at ha
    rw [iJoined_iNeedsGap_L0, joinF_drop gapN hi]
    simp only [lt_dec, hi, decide_true, if_true, idx_lt hi, o1, Option.bind_eq_bind, Option.bind_some]
    cases ho : okT p[i] with
    | false => simp [joinEnd]
    | true =>
      simp only [Bool.not_true, Bool.false_eq_true, if_false, if_true]
      have J : ∀ b : List UInt8, b.length ≤ a.length + 1 → iJoined_iNeedsGap_J1 p (i : Nat) p[i] (toBytes b) = some (joinEnd b ((joinF gapN (prevT p (i + 1)) (p.drop (i + 1))).map fun r => tt p[i] ++ r)) := by
        intro b hb
        rw [iJoined_iNeedsGap_J1]
        unfold gStrings_Builder_WriteString_x gStrings_Builder_copyCheck_x
        simp only [t1, Option.bind_eq_bind, Option.bind_some]
        rw [appB_ok (tt p[i]) rfl (by omega)]
        simp only [Option.bind_some]
        rw [wrap_next hi (by omega), ih _ (by rw [List.length_append]; omega), joinEnd_app]
      by_cases h0 : 0 < i
      · have e0 : decide (0 < (i : Int)) = true := decide_eq_true (by omega)
        have e1 : IntKind.wrap .i64 ((i : Int) - 1) = ((i - 1 : Nat) : Int) := by rw [wrap_ok (by omega) (by omega)]; omega
        have e2 : idx p ((i - 1 : Nat) : Int) = some p[i - 1] := idx_lt (by omega)
        have e3 : prevT p i = some p[i - 1] := by unfold prevT; rw [if_pos h0]; simp [show i - 1 < p.length by omega]
        have e4 := (needsGap_eq p[i - 1] p[i] (hr _ (List.getElem_mem _)) hx).1
        simp only [e0, e1, e2, e4, Bool.true_and, beq_self_eq_true, if_true, Option.bind_some]
        cases hg : gapN p[i - 1] p[i] with
        | true =>
          rw [if_pos rfl]
          unfold gStrings_Builder_WriteString_x gStrings_Builder_copyCheck_x
          simp only [Option.bind_eq_bind, Option.bind_some]
          rw [appB_ok [32] rfl (by simp; omega)]
          simp only [Option.bind_some]
          rw [J _ (by simp), e3]
          have : (joinF gapN (prevT p (i + 1)) (p.drop (i + 1))).map (fun r => (match (some p[i - 1] : Option GToken) with | some y => (if gapN y p[i] = true then [32] else []) | none => []) ++ tt p[i] ++ r)
              = ((joinF gapN (prevT p (i + 1)) (p.drop (i + 1))).map fun r => tt p[i] ++ r).map fun r => [32] ++ r := by
            cases joinF gapN (prevT p (i + 1)) (p.drop (i + 1)) <;> simp [hg]
          rw [this, joinEnd_app a [32]]
        | false =>
          rw [if_neg (by simp), J _ (by omega), e3]
          simp [hg]
      · have hi0 : i = 0 := by omega
        have e0 : decide (0 < (i : Int)) = false := decide_eq_false (by omega)
        have e3 : prevT p i = none := by unfold prevT; rw [if_neg h0]
        simp only [e0, Bool.true_and, Bool.false_eq_true, beq_iff_eq, reduceCtorEq, if_false, Option.bind_some]
        rw [J _ (by omega), e3]
        simp
theorem sSpaced_loop (p : List GToken) (hp : p.length ≤ 1048576) (hr : ∀ x ∈ p, x.text.length ≤ 1048576) : ∀ i, i ≤ p.length → ∀ a : List UInt8, a.length + zJ (p.drop i) ≤ 1073741824 →
    sL4Join_L0 p false (toBytes a) (i : Nat) = some (joinEnd a (joinF gapN (prevT p i) (p.drop i))) := by
  refine back_ind ?_ ?_
  · intro a _
    rw [sL4Join_L0]
    simp only [lt_dec, Nat.lt_irrefl, decide_false, Bool.false_eq_true, if_false, Option.bind_eq_bind, Option.bind_some, ofBytes_toBytes, List.drop_length, joinF, joinEnd, List.append_nil, toBytes_len]
    by_cases h : 2000 < a.length
    · rw [if_pos (decide_eq_true (by omega)), if_pos h]
    · rw [if_neg (by rw [decide_eq_true_eq]; omega), if_neg h]
  · intro i hi ih a ha
    have hx := hr p[i] (List.getElem_mem hi)
    obtain ⟨_, o1⟩ := tokenOk_eq p[i] hx
    obtain ⟨_, t1, t3⟩ := tokenText_eq p[i] hx
    rw [zJ_drop hi] at ha
    rw [sL4Join_L0, joinF_drop gapN hi]
    simp only [lt_dec, hi, decide_true, if_true, idx_lt hi, o1, Option.bind_eq_bind, Option.bind_some]
    cases ho : okT p[i] with
    | false => simp [joinEnd]
    | true =>
      simp only [Bool.not_true, Bool.false_eq_true, if_false, if_true]
      have J : ∀ b : List UInt8, b.length ≤ a.length + 1 → sL4Join_J1 p false (i : Nat) (toBytes b) = some (joinEnd b ((joinF gapN (prevT p (i + 1)) (p.drop (i + 1))).map fun r => tt p[i] ++ r)) := by
        intro b hb
        rw [sL4Join_J1]
        simp only [idx_lt hi, t1, Option.bind_eq_bind, Option.bind_some]
        rw [appB_ok (tt p[i]) rfl (by omega)]
        simp only [Option.bind_some]
        rw [wrap_next hi (by omega), ih _ (by rw [List.length_append]; omega), joinEnd_app]
      by_cases h0 : 0 < i
      · have e0 : decide (0 < (i : Int)) = true := decide_eq_true (by omega)
        have e3 : prevT p i = some p[i - 1] := by unfold prevT; rw [if_pos h0]; simp [show i - 1 < p.length by omega]
        have e1 : IntKind.wrap .i64 ((i : Int) - 1) = ((i - 1 : Nat) : Int) := by rw [wrap_ok (by omega) (by omega)]; omega
        have e2 : idx p ((i - 1 : Nat) : Int) = some p[i - 1] := idx_lt (by omega)
        have e4 := (needsGap_eq p[i - 1] p[i] (hr _ (List.getElem_mem _)) hx).2
        simp only [e0, e1, e2, e4, Bool.true_and, Bool.and_true, beq_self_eq_true, Bool.false_eq_true, if_true, if_false, Option.bind_some]
        cases hg : gapN p[i - 1] p[i] with
        | true =>
          rw [if_pos rfl, appC 32 32 rfl (by omega)]
          simp only [Option.bind_some]
          rw [J _ (by simp), e3]
          have : (joinF gapN (prevT p (i + 1)) (p.drop (i + 1))).map (fun r => (match (some p[i - 1] : Option GToken) with | some y => (if gapN y p[i] = true then [32] else []) | none => []) ++ tt p[i] ++ r)
              = ((joinF gapN (prevT p (i + 1)) (p.drop (i + 1))).map fun r => tt p[i] ++ r).map fun r => [32] ++ r := by
            cases joinF gapN (prevT p (i + 1)) (p.drop (i + 1)) <;> simp [hg]
          rw [this, joinEnd_app a [32]]
        | false =>
          rw [if_neg (by simp), J _ (by omega), e3]
          simp [hg]
      · have hi0 : i = 0 := by omega
        have e0 : decide (0 < (i : Int)) = false := decide_eq_false (by omega)
        have e3 : prevT p i = none := by unfold prevT; rw [if_neg h0]
        simp only [e0, Bool.true_and, Bool.false_and, Bool.false_eq_true, beq_iff_eq, reduceCtorEq, if_false, Option.bind_some]
        rw [J _ (by omega), e3]
        simp
theorem spaced_eq (p : List GToken) (hp : p.length ≤ 1048576) (hz : (p.map fun x => x.text.length).sum ≤ 1048576) : iSpaced p = some (joinT gapN p) ∧ sSpaced p = some (joinT gapN p) := by
  have hr : ∀ x ∈ p, x.text.length ≤ 1048576 := fun x hx => Nat.le_trans (le_sumT hx) hz
  have hJ := zJ_le hp hz
  have h1 := iSpaced_loop p hp hr 0 (Nat.zero_le _) [] (by simpa using hJ)
  have h2 := sSpaced_loop p hp hr 0 (Nat.zero_le _) [] (by simpa using hJ)
  have e : prevT p 0 = none := rfl
  rw [e, List.drop_zero] at h1 h2
  constructor
  · unfold iSpaced iJoined_iNeedsGap
    have h1' : iJoined_iNeedsGap_L0 p 0 [] = some (joinT gapN p) := h1
    rw [h1']; rfl
  · unfold sSpaced sL4Join
    have h2' : sL4Join_L0 p false [] 0 = some (joinT gapN p) := h2
    rw [h2']; rfl

/-! lexbase -/
theorem sub_rest {s : List UInt8} {i : Nat} (h : i ≤ s.length) : subl s (i : Int) (s.length : Int) = some (s.drop i) := by
  unfold subl; rw [if_pos ⟨by omega, by omega, by omega⟩]; simp
theorem sub_two {s : List UInt8} {i j : Nat} (h : i ≤ j) (h2 : j ≤ s.length) : subl s (i : Int) (j : Int) = some ((s.drop i).take (j - i)) := by
  unfold subl; rw [if_pos ⟨by omega, by omega, by omega⟩]
  simp [List.drop_take]
theorem prefix_ok (s p : List UInt8) : gStrings_HasPrefix s p = some (decide (s.take p.length = p)) := by
  unfold gStrings_HasPrefix gInternal_stringslite_HasPrefix
  by_cases h : p.length ≤ s.length
  · have c : decide ((p.length : Int) ≤ (s.length : Int)) = true := decide_eq_true (by omega)
    have e : subl s 0 (p.length : Int) = some (s.take p.length) := by
      have := sub_two (s := s) (i := 0) (j := p.length) (Nat.zero_le _) h
      simpa using this
    simp only [c, e, Bool.true_and, beq_self_eq_true, if_true, Option.bind_eq_bind, Option.bind_some]
  · have c : decide ((p.length : Int) ≤ (s.length : Int)) = false := decide_eq_false (by omega)
    have hne : s.take p.length ≠ p := fun e => by
      have := congrArg List.length e
      rw [List.length_take] at this; omega
    simp only [c, Bool.true_and, Bool.false_eq_true, beq_iff_eq, reduceCtorEq, if_false, Option.bind_eq_bind, Option.bind_some]
    rw [decide_eq_false hne]
theorem byte_back (u : UInt8) : ((u.toNat : Int)).toNat.toUInt8 = u := by simp
theorem indexByte_cons (b c : UInt8) (l : List UInt8) : Lib.indexByte (b :: l) c = if b = c then 0 else if Lib.indexByte l c = -1 then -1 else Lib.indexByte l c + 1 := by
  rw [Lib.indexByte]
  by_cases h : b = c
  · simp [h]
  · simp [h]
theorem indexByte_ge (c : UInt8) : ∀ l, -1 ≤ Lib.indexByte l c
  | [] => by rw [Lib.indexByte]; omega
  | b :: l => by
    have := indexByte_ge c l
    rw [indexByte_cons]
    split
    · omega
    · split <;> omega
def white (u : UInt8) : Bool := decide (u = 32) || decide (u = 9) || decide (u = 10) || decide (u = 13)
theorem white_index (u : UInt8) : decide (0 ≤ Lib.indexByte [32, 9, 10, 13] u) = white u := by
  unfold white
  have h0 : Lib.indexByte [] u = -1 := rfl
  by_cases a : u = 32
  · subst a; rfl
  by_cases b : u = 9
  · subst b; rfl
  by_cases c : u = 10
  · subst c; rfl
  by_cases d : u = 13
  · subst d; rfl
  have k13 : Lib.indexByte [13] u = -1 := by rw [indexByte_cons, h0, if_neg (fun e => d e.symm), if_pos rfl]
  have k10 : Lib.indexByte [10, 13] u = -1 := by rw [indexByte_cons, k13, if_neg (fun e => c e.symm), if_pos rfl]
  have k9 : Lib.indexByte [9, 10, 13] u = -1 := by rw [indexByte_cons, k10, if_neg (fun e => b e.symm), if_pos rfl]
  have k32 : Lib.indexByte [32, 9, 10, 13] u = -1 := by rw [indexByte_cons, k9, if_neg (fun e => a e.symm), if_pos rfl]
  rw [k32, decide_eq_false a, decide_eq_false b, decide_eq_false c, decide_eq_false d]
  rfl
theorem u8_eq (u : UInt8) (n : Nat) (hn : n < 256) : decide ((u.toNat : Int) = (n : Int)) = decide (u = UInt8.ofNat n) := by
  refine decide_eq_decide.2 ⟨fun h => ?_, fun h => ?_⟩
  · refine UInt8.toNat_inj.1 ?_
    rw [UInt8.toNat_ofNat']; omega
  · rw [h, UInt8.toNat_ofNat']; omega
def wordEnd (s : List UInt8) (p1 y1 x8 : Int) : Option (GToken × Int × Bool) :=
  (subl s p1 x8) >>= fun (y11 : (List UInt8)) => (iIsDigit y1) >>= fun (y12 : Bool) => if y12 = true then (iReadToken_J1 p1 x8 3 y11) else ((iKeyOf y11) >>= fun (y13 : Int) => if (!decide (y13 = 0)) = true then ((iFold y11) >>= fun (y14 : (List UInt8)) => iReadToken_J1 p1 x8 1 y14) else (iReadToken_J1 p1 x8 2 y11))
def partB (u : UInt8) : Bool := (iIsPart (u.toNat : Int)).getD false
/-- the longest sign that stands there -/
def bestF (rest : List UInt8) : List (List UInt8) → List UInt8 → List UInt8
  | [], cur => cur
  | w :: l, cur => bestF rest l (if (decide (rest.take w.length = w) && decide (cur.length < w.length)) = true then w else cur)
theorem best_loop (s : List UInt8) (hs : s.length ≤ 1048576) (p : Nat) (hp : p ≤ s.length) : ∀ i, i ≤ signsL.length → ∀ cur, iReadToken_L2 s (p : Int) signsL (i : Nat) cur = iReadToken_J1 (p : Int) (IntKind.wrap .i64 ((p : Int) + ((bestF (s.drop p) (signsL.drop i) cur).length : Int))) 5 (bestF (s.drop p) (signsL.drop i) cur) := by
  refine back_ind ?_ ?_
  · intro cur
    rw [iReadToken_L2]
    simp only [lt_dec, Nat.lt_irrefl, decide_false, Bool.false_eq_true, if_false, List.drop_length, bestF]
  · intro i hi ih cur
    rw [iReadToken_L2, List.drop_eq_getElem_cons hi]
    have hl : signsL.length = 16 := rfl
    simp only [lt_dec, hi, decide_true, if_true, idx_lt hi, sub_rest hp, prefix_ok, Option.bind_eq_bind, Option.bind_some, bestF]
    have e : (if decide ((s.drop p).take signsL[i].length = signsL[i]) = true then decide (cur.length < signsL[i].length) else false) = (decide ((s.drop p).take signsL[i].length = signsL[i]) && decide (cur.length < signsL[i].length)) := by
      cases decide ((s.drop p).take signsL[i].length = signsL[i]) <;> rfl
    rw [e]
    cases hc : (decide ((s.drop p).take signsL[i].length = signsL[i]) && decide (cur.length < signsL[i].length)) with
    | true =>
      simp only [if_true]
      rw [iReadToken_J3, wrap_next hi (by omega)]
      exact ih _
    | false =>
      simp only [Bool.false_eq_true, if_false]
      rw [iReadToken_J3, wrap_next hi (by omega)]
      exact ih _
/-- two bytes, or one -/
def signAns (rest : List UInt8) : List UInt8 := if 2 ≤ rest.length ∧ rest.take 2 ∈ signsL then rest.take 2 else if rest.take 1 ∈ signsL then rest.take 1 else []
theorem best_props (rest : List UInt8) : ∀ (l : List (List UInt8)) (cur : List UInt8), rest.take cur.length = cur →
    rest.take (bestF rest l cur).length = bestF rest l cur ∧ (bestF rest l cur = cur ∨ bestF rest l cur ∈ l) ∧ cur.length ≤ (bestF rest l cur).length ∧ ∀ w ∈ l, rest.take w.length = w → w.length ≤ (bestF rest l cur).length
  | [], cur, h => ⟨h, .inl rfl, Nat.le_refl _, fun _ h => absurd h List.not_mem_nil⟩
  | w :: l, cur, h => by
    simp only [bestF]
    by_cases hw : rest.take w.length = w ∧ cur.length < w.length
    · have e : (decide (rest.take w.length = w) && decide (cur.length < w.length)) = true := by simp [hw.1, hw.2]
      rw [e, if_pos rfl]
      obtain ⟨a1, a2, a3, a4⟩ := best_props rest l w hw.1
      refine ⟨a1, .inr ?_, by omega, fun v hv hp => ?_⟩
      · rcases a2 with a2 | a2
        · rw [a2]; exact List.mem_cons_self
        · exact List.mem_cons_of_mem _ a2
      · rcases List.mem_cons.1 hv with rfl | hv
        · exact a3
        · exact a4 v hv hp
    · have e : (decide (rest.take w.length = w) && decide (cur.length < w.length)) = false := by
        rw [Bool.and_eq_false_iff]
        by_cases h1 : rest.take w.length = w
        · exact .inr (decide_eq_false fun h2 => hw ⟨h1, h2⟩)
        · exact .inl (decide_eq_false h1)
      rw [e, if_neg (by simp)]
      obtain ⟨a1, a2, a3, a4⟩ := best_props rest l cur h
      refine ⟨a1, a2.imp id (List.mem_cons_of_mem _), a3, fun v hv hp => ?_⟩
      rcases List.mem_cons.1 hv with rfl | hv
      · have : ¬ cur.length < v.length := fun h2 => hw ⟨hp, h2⟩
        omega
      · exact a4 v hv hp
theorem signs_len : ∀ w ∈ signsL, w.length = 1 ∨ w.length = 2 := by decide
theorem best_ans (c : UInt8) (r : List UInt8) : bestF (c :: r) signsL [] = signAns (c :: r) := by
  obtain ⟨a1, a2, _, a4⟩ := best_props (c :: r) signsL [] rfl
  generalize bestF (c :: r) signsL [] = R at a1 a2 a4
  unfold signAns
  have two : R.length = 2 → 2 ≤ (c :: r).length ∧ (c :: r).take 2 = R := fun h => by
    rw [h] at a1
    have := congrArg List.length a1
    rw [List.length_take] at this
    exact ⟨by omega, a1⟩
  by_cases h2 : 2 ≤ (c :: r).length ∧ (c :: r).take 2 ∈ signsL
  · rw [if_pos h2]
    have hl : ((c :: r).take 2).length = 2 := by rw [List.length_take]; omega
    have := a4 _ h2.2 (by rw [hl])
    rw [hl] at this
    rcases a2 with e | hm
    · rw [e] at this; simp at this
    · rcases signs_len R hm with e | e
      · omega
      · exact (two e).2.symm
  · rw [if_neg h2]
    have no2 : R.length ≠ 2 := fun e => by
      obtain ⟨b1, b2⟩ := two e
      rcases a2 with e2 | hm
      · rw [e2] at e; simp at e
      · exact h2 ⟨b1, by rw [b2]; exact hm⟩
    by_cases h1 : (c :: r).take 1 ∈ signsL
    · rw [if_pos h1]
      have := a4 _ h1 rfl
      simp only [List.take_succ_cons, List.take_zero, List.length_cons, List.length_nil] at this
      rcases a2 with e | hm
      · rw [e] at this; simp at this
      · rcases signs_len R hm with e | e
        · rw [e] at a1; exact a1.symm
        · exact absurd e no2
    · rw [if_neg h1]
      rcases a2 with e | hm
      · exact e
      · rcases signs_len R hm with e | e
        · rw [e] at a1; rw [← a1] at hm; exact absurd hm h1
        · exact absurd e no2
theorem okT_len {x : GToken} (hx : x.text.length ≤ 1048576) (h : okT x = true) : x.text.length ≤ 40 := by
  have ho := (tokenOk_eq x hx).2
  rw [h] at ho
  unfold sTokenOk at ho
  by_cases k1 : x.kind = 1
  · obtain ⟨k, _, e2, e3, _, e5⟩ := keyOf_eq x.text (by omega)
    by_cases h8 : 8 < x.text.length
    · rw [e5 h8] at e2
      simp [k1, e2] at ho
    · omega
  by_cases k2 : x.kind = 2
  · obtain ⟨_, nb, n2, n3⟩ := nameOk_eqT x.text
    simp [k2, n2] at ho
    have := n3.1 ho
    omega
  by_cases k3 : x.kind = 3
  · simp [k3, sNumber_ok] at ho
    by_cases hm : ∃ m : Nat, m ≤ 9223372036854775807 ∧ Lib.itoa (m : Int) = x.text
    · obtain ⟨m, h1, h2⟩ := hm
      have := Lib.itoa_length_le (m : Int) (by omega) (by omega)
      rw [h2] at this; omega
    · rw [numG_none _ fun m h e => hm ⟨m, h, e⟩] at ho
      simp at ho
  by_cases k4 : x.kind = 4
  · simp [k4] at ho; omega
  by_cases k5 : x.kind = 5
  · have := signs_len _ (okT_sign k5 h)
    omega
  · simp [k1, k2, k3, k4, k5] at ho
theorem fig_of_letter (n : Int) (h : sL2Letter n = some true) : sL2Figure n = some false := by
  unfold sL2Figure
  by_cases hn : 48 ≤ n ∧ n ≤ 57
  · exfalso
    have c1 : decide (97 ≤ n) = false := decide_eq_false (by omega)
    have c2 : decide (65 ≤ n) = false := decide_eq_false (by omega)
    have c3 : decide (n = 95) = false := decide_eq_false (by omega)
    unfold sL2Letter at h
    simp [c1, c2, c3] at h
  · by_cases h1 : 48 ≤ n
    · have : decide (n ≤ 57) = false := decide_eq_false (by omega)
      simp [h1, this]
    · simp [h1]
theorem fin_i (p e k : Int) (w : List UInt8) (hw : w.length ≤ 1048576) : iReadToken_J1 p e k w = some (GToken.mk k w p, e, okT (GToken.mk k w p)) := by
  unfold iReadToken_J1
  rw [(tokenOk_eq (GToken.mk k w p) hw).1]; rfl

/-! ilex -/
theorem iSkip_end (s : List UInt8) : iSkip_L0 s (s.length : Nat) = some ((s.length : Int), true) := by
  rw [iSkip_L0]; simp
theorem iSkip_at (s : List UInt8) (hs : s.length ≤ 1048576) {i : Nat} (hi : i < s.length) : (white s[i] = true → iSkip_L0 s (i : Nat) = iSkip_L0 s ((i + 1 : Nat) : Int)) ∧
    (white s[i] = false → (s.drop i).take 2 ≠ [45, 45] → (s.drop i).take 2 ≠ [47, 42] → iSkip_L0 s (i : Nat) = some ((i : Int), true)) := by
  have hrest := sub_rest (s := s) (i := i) (by omega)
  have ew : gStrings_IndexByte [32, 9, 10, 13] (s[i].toNat : Int) = some (Lib.indexByte [32, 9, 10, 13] s[i]) := by unfold gStrings_IndexByte; rw [byte_back]
  have p1 : gStrings_HasPrefix (s.drop i) [45, 45] = some (decide ((s.drop i).take 2 = [45, 45])) := prefix_ok (s.drop i) [45, 45]
  have p2 : gStrings_HasPrefix (s.drop i) [47, 42] = some (decide ((s.drop i).take 2 = [47, 42])) := prefix_ok (s.drop i) [47, 42]
  constructor
  · intro hw
    rw [iSkip_L0]
    simp only [lt_dec, hi, decide_true, if_true, hrest, idxS_at hi, ew, white_index, hw, Option.bind_eq_bind, Option.bind_some, wrap_next hi (by omega)]
  · intro hw h1 h2
    rw [iSkip_L0]
    simp only [lt_dec, hi, decide_true, if_true, hrest, idxS_at hi, ew, white_index, hw, p1, p2, h1, h2, decide_false, Bool.false_eq_true, if_false, Option.bind_eq_bind, Option.bind_some]
theorem idxS_app {s pre l : List UInt8} {c : UInt8} (hs : s = pre ++ c :: l) : idxS s (pre.length : Int) = some (c.toNat : Int) := by
  subst hs; simp [idxS]
theorem part_is (c : UInt8) : iIsPart (c.toNat : Int) = some (partB c) := by
  obtain ⟨b, f, _, _, _, _, p⟩ := part_eq (c.toNat : Int)
  unfold partB; rw [p]; rfl
theorem run_word {s post : List UInt8} (p1 y1 : Int) (hl : s.length ≤ 1048576) (hf : ∀ c r, post = c :: r → partB c = false) : ∀ (w pre : List UInt8), s = pre ++ (w ++ post) → (∀ c ∈ w, partB c = true) →
    iReadToken_L0 s p1 y1 (pre.length : Int) = wordEnd s p1 y1 ((pre.length + w.length : Nat) : Int)
  | [], pre, hs, _ => by
    rw [iReadToken_L0]
    cases hp : post with
    | nil =>
      have e : s.length = pre.length := by rw [hs, hp]; simp
      simp only [lt_dec, e, Nat.lt_irrefl, decide_false, Bool.true_and, Bool.false_eq_true, beq_iff_eq, reduceCtorEq, if_false, Option.bind_eq_bind, Option.bind_some]
      rfl
    | cons c r =>
      have hs' : s = pre ++ c :: r := by rw [hs, hp]; rfl
      have hlt : pre.length < s.length := by rw [hs']; simp
      simp only [lt_dec, hlt, decide_true, idxS_app hs', part_is, hf c r hp, Bool.true_and, beq_self_eq_true, if_true, Bool.false_eq_true, if_false, Option.bind_eq_bind, Option.bind_some]
      rfl
  | c :: w, pre, hs, hw => by
    have hs' : s = pre ++ c :: (w ++ post) := hs
    have hlt : pre.length < s.length := by rw [hs']; simp
    have hn : s = (pre ++ [c]) ++ (w ++ post) := by rw [hs']; simp
    have ih := run_word p1 y1 hl hf w (pre ++ [c]) hn fun d hd => hw d (List.mem_cons_of_mem _ hd)
    rw [iReadToken_L0]
    simp only [lt_dec, hlt, decide_true, idxS_app hs', part_is, hw c List.mem_cons_self, Bool.true_and, beq_self_eq_true, if_true, Option.bind_eq_bind, Option.bind_some]
    rw [wrap_next hlt (by omega)]
    have e : ((pre ++ [c]).length : Int) = ((pre.length + 1 : Nat) : Int) := by simp
    rw [e] at ih
    rw [ih]
    congr 2
    simp
    omega
theorem sub_mid {s pre w post : List UInt8} (hs : s = pre ++ (w ++ post)) : subl s (pre.length : Int) ((pre.length + w.length : Nat) : Int) = some w := by
  have := sub_two (s := s) (i := pre.length) (j := pre.length + w.length) (by omega) (by rw [hs]; simp)
  rw [this, hs]
  simp
theorem okT_at (k : Int) (w : List UInt8) (p q : Int) : okT (GToken.mk k w p) = okT (GToken.mk k w q) := rfl
/-- what tells a word -/
def WordK (x : GToken) : Prop := ∃ c r, x.text = c :: r ∧ (∀ d ∈ x.text, partB d = true) ∧
  ((x.kind = 3 ∧ iIsDigit (c.toNat : Int) = some true) ∨ (x.kind = 1 ∧ iIsDigit (c.toNat : Int) = some false ∧ ∃ k, iKeyOf x.text = some k ∧ k ≠ 0 ∧ x.text.map fb = x.text) ∨ (x.kind = 2 ∧ iIsDigit (c.toNat : Int) = some false ∧ iKeyOf x.text = some 0))
def Same (x y : GToken) : Prop := x.kind = y.kind ∧ x.text = y.text
theorem word_tok {s pre post : List UInt8} {x : GToken} (hl : s.length ≤ 1048576) (hs : s = pre ++ (x.text ++ post)) (hk : WordK x) (ho : okT x = true) (hf : ∀ c r, post = c :: r → partB c = false) :
    iReadToken s (pre.length : Int) = some (GToken.mk x.kind x.text (pre.length : Int), ((pre.length + x.text.length : Nat) : Int), true) := by
  obtain ⟨c, r, hc, hp, h3⟩ := hk
  have hs' : s = pre ++ c :: (r ++ post) := by rw [hs, hc]; rfl
  have hlen : x.text.length ≤ 1048576 := by rw [hs] at hl; simp at hl; omega
  have hrun := run_word (pre.length : Int) (c.toNat : Int) hl hf x.text pre hs hp
  have hfin : ∀ e : Int, iReadToken_J1 (pre.length : Int) e x.kind x.text = some (GToken.mk x.kind x.text (pre.length : Int), e, true) := by
    intro e
    rw [fin_i _ _ _ _ hlen]
    have : okT (GToken.mk x.kind x.text (pre.length : Int)) = okT x := rfl
    rw [this, ho]
  unfold iReadToken
  simp only [idxS_app hs', part_is, hp c (by rw [hc]; exact List.mem_cons_self), if_true, Option.bind_eq_bind, Option.bind_some]
  rw [hrun]
  unfold wordEnd
  rw [sub_mid hs]
  simp only [Option.bind_eq_bind, Option.bind_some]
  rcases h3 with ⟨k, d⟩ | ⟨k, d, n, n1, n2, n3⟩ | ⟨k, d, n1⟩
  · rw [d]
    simp only [Option.bind_some, if_true]
    rw [← k]; exact hfin _
  · rw [d, n1, iFold_ok x.text (by omega), n3]
    simp only [Option.bind_some, Bool.false_eq_true, if_false]
    rw [if_pos (by simp [n2]), ← k]; exact hfin _
  · rw [d, n1]
    simp only [Option.bind_some, Bool.false_eq_true, if_false]
    rw [if_neg (by simp), ← k]; exact hfin _
theorem quoted_run {s post : List UInt8} (q : UInt8) (hl : s.length ≤ 1048576) (hf : ∀ c r, post = c :: r → c ≠ q) : ∀ (w pre a : List UInt8), s = pre ++ (dbl q w ++ q :: post) → a.length ≤ pre.length →
    iReadQuoted_L0 s (q.toNat : Int) (toBytes a) (pre.length : Int) = some (a ++ w, ((pre.length + (dbl q w).length + 1 : Nat) : Int), true)
  | [], pre, a, hs, ha => by
    have hs' : s = pre ++ q :: post := hs
    have hlt : pre.length < s.length := by rw [hs']; simp
    rw [iReadQuoted_L0]
    simp only [lt_dec, hlt, decide_true, if_true, idxS_app hs', Option.bind_eq_bind, Option.bind_some, wrap_next hlt (by omega)]
    cases hp : post with
    | nil =>
      have e : s.length = pre.length + 1 := by rw [hs', hp]; simp
      have c1 : decide (((pre.length + 1 : Nat) : Int) = (s.length : Int)) = true := decide_eq_true (by omega)
      simp only [c1, Bool.true_and, beq_iff_eq, Bool.true_eq_false, reduceCtorEq, if_false, if_true, Option.bind_some, ofBytes_toBytes]
      simp [dbl]
    | cons c r =>
      have e : s.length ≠ pre.length + 1 := by rw [hs', hp]; simp
      have c1 : decide (((pre.length + 1 : Nat) : Int) = (s.length : Int)) = false := decide_eq_false (by omega)
      have hs2 : s = (pre ++ [q]) ++ c :: r := by rw [hs', hp]; simp
      have h2 := idxS_app hs2
      have e2 : ((pre ++ [q]).length : Int) = ((pre.length + 1 : Nat) : Int) := by simp
      rw [e2] at h2
      have hne : decide ((c.toNat : Int) = (q.toNat : Int)) = false := decide_eq_false fun h => hf c r hp (UInt8.toNat_inj.1 (by omega))
      simp only [c1, h2, hne, Bool.true_and, beq_self_eq_true, Bool.not_false, Bool.false_eq_true, if_false, if_true, Option.bind_some, ofBytes_toBytes]
      simp [dbl]
  | c :: w, pre, a, hs, ha => by
    by_cases hc : c = q
    · subst hc
      have hd : dbl c (c :: w) = c :: c :: dbl c w := by simp [dbl]
      have hs' : s = pre ++ c :: (c :: (dbl c w ++ c :: post)) := by rw [hs, hd]; rfl
      have hs2 : s = (pre ++ [c]) ++ c :: (dbl c w ++ c :: post) := by rw [hs']; simp
      have hs3 : s = (pre ++ [c, c]) ++ (dbl c w ++ c :: post) := by rw [hs']; simp
      have hlt : pre.length < s.length := by rw [hs']; simp
      have hlt2 : pre.length + 1 < s.length := by rw [hs']; simp
      have ih := quoted_run c hl hf w (pre ++ [c, c]) (a ++ [c]) hs3 (by simp; omega)
      have h2 := idxS_app hs2
      have e2 : ((pre ++ [c]).length : Int) = ((pre.length + 1 : Nat) : Int) := by simp
      have e3 : ((pre ++ [c, c]).length : Int) = ((pre.length + 1 + 1 : Nat) : Int) := by simp; omega
      rw [e2] at h2
      rw [e3] at ih
      have c1 : decide (((pre.length + 1 : Nat) : Int) = (s.length : Int)) = false := decide_eq_false (by omega)
      rw [iReadQuoted_L0]
      simp only [lt_dec, hlt, decide_true, if_true, idxS_app hs', Option.bind_eq_bind, Option.bind_some, wrap_next hlt (by omega), c1, h2, Bool.true_and, beq_self_eq_true, Bool.not_true, Bool.false_eq_true, if_false]
      rw [iReadQuoted_J1]
      simp only [h2, Option.bind_eq_bind, Option.bind_some]
      rw [appC _ c rfl (by omega)]
      simp only [Option.bind_some]
      rw [wrap_next hlt2 (by omega), ih, hd]
      simp
      omega
    · have hd : dbl q (c :: w) = c :: dbl q w := by simp [dbl, hc]
      have hs' : s = pre ++ c :: (dbl q w ++ q :: post) := by rw [hs, hd]; rfl
      have hs3 : s = (pre ++ [c]) ++ (dbl q w ++ q :: post) := by rw [hs']; simp
      have hlt : pre.length < s.length := by rw [hs']; simp
      have ih := quoted_run q hl hf w (pre ++ [c]) (a ++ [c]) hs3 (by simp; omega)
      have e3 : ((pre ++ [c]).length : Int) = ((pre.length + 1 : Nat) : Int) := by simp
      rw [e3] at ih
      have hne : decide ((c.toNat : Int) = (q.toNat : Int)) = false := decide_eq_false fun h => hc (UInt8.toNat_inj.1 (by omega))
      rw [iReadQuoted_L0]
      simp only [lt_dec, hlt, decide_true, if_true, idxS_app hs', Option.bind_eq_bind, Option.bind_some, hne, Bool.false_eq_true, if_false]
      rw [iReadQuoted_J1]
      simp only [idxS_app hs', Option.bind_eq_bind, Option.bind_some]
      rw [appC _ c rfl (by omega)]
      simp only [Option.bind_some]
      rw [wrap_next hlt (by omega), ih, hd]
      simp
      omega

/-! ilex2 -/
theorem quote_head (q : UInt8) (w : List UInt8) : quoteT q w = q :: (dbl q w ++ [q]) := rfl
theorem part_34 : partB 34 = false := by decide +kernel
theorem part_39 : partB 39 = false := by decide +kernel
theorem quoted_tok {s pre post : List UInt8} {x : GToken} (q : UInt8) (hq : (q = 34 ∧ x.kind = 2) ∨ (q = 39 ∧ x.kind = 4)) (hl : s.length ≤ 1048576) (hs : s = pre ++ (quoteT q x.text ++ post)) (ho : okT x = true) (hf : ∀ c r, post = c :: r → c ≠ q) :
    iReadToken s (pre.length : Int) = some (GToken.mk x.kind x.text (pre.length : Int), ((pre.length + (quoteT q x.text).length : Nat) : Int), true) := by
  have hs' : s = pre ++ q :: (dbl q x.text ++ q :: post) := by rw [hs, quote_head]; simp
  have hlt : pre.length < s.length := by rw [hs']; simp
  have hs2 : s = (pre ++ [q]) ++ (dbl q x.text ++ q :: post) := by rw [hs']; simp
  have hrun := quoted_run q hl hf x.text (pre ++ [q]) [] hs2 (by simp)
  have e1 : ((pre ++ [q]).length : Int) = ((pre.length + 1 : Nat) : Int) := by simp
  have e0 : toBytes [] = ([] : List Int) := rfl
  rw [e1, e0] at hrun
  have hrq : iReadQuoted s (pre.length : Int) = some (x.text, ((pre.length + (quoteT q x.text).length : Nat) : Int), true) := by
    unfold iReadQuoted
    simp only [idxS_app hs', Option.bind_eq_bind, Option.bind_some]
    rw [wrap_next hlt (by omega), hrun, quote_head]
    simp
    omega
  have hlen : x.text.length ≤ 1048576 := by
    have := congrArg List.length hs'
    have h2 : x.text.length ≤ (dbl q x.text).length := by
      generalize x.text = w
      induction w with
      | nil => simp
      | cons c w ih =>
        have : dbl q (c :: w) = (if c = q then [q, q] else [c]) ++ dbl q w := rfl
        rw [this, List.length_append, List.length_cons]
        split <;> simp <;> omega
    simp at this
    omega
  have hfin : ∀ e : Int, iReadToken_J1 (pre.length : Int) e x.kind x.text = some (GToken.mk x.kind x.text (pre.length : Int), e, true) := by
    intro e
    rw [fin_i _ _ _ _ hlen]
    have : okT (GToken.mk x.kind x.text (pre.length : Int)) = okT x := rfl
    rw [this, ho]
  have hp : partB q = false := by rcases hq with ⟨rfl, _⟩ | ⟨rfl, _⟩ <;> first | exact part_34 | exact part_39
  unfold iReadToken
  simp only [idxS_app hs', part_is, hp, Bool.false_eq_true, if_false, Option.bind_eq_bind, Option.bind_some]
  rcases hq with ⟨rfl, hk⟩ | ⟨rfl, hk⟩
  · have c1 : decide (((34 : UInt8).toNat : Int) = 34) = true := rfl
    have c2 : decide (((34 : UInt8).toNat : Int) = 39) = false := rfl
    simp only [c1, c2, hrq, if_true, Option.bind_some, Bool.not_true, Bool.false_eq_true, if_false]
    rw [← hk]; exact hfin _
  · have c1 : decide (((39 : UInt8).toNat : Int) = 34) = false := rfl
    have c2 : decide (((39 : UInt8).toNat : Int) = 39) = true := rfl
    simp only [c1, c2, hrq, if_true, Option.bind_some, Bool.not_true, Bool.false_eq_true, if_false]
    rw [← hk]; exact hfin _
theorem signs_head : ∀ w ∈ signsL, ∃ c r, w = c :: r ∧ partB c = false ∧ c ≠ 34 ∧ c ≠ 39 ∧ white c = false := by
  have h : (signsL.all fun w => match w with | c :: _ => !partB c && !decide (c = 34) && !decide (c = 39) && !white c | [] => false) = true := by decide +kernel
  intro w hw
  have := List.all_eq_true.1 h w hw
  cases w with
  | nil => simp at this
  | cons c r =>
    simp only [Bool.and_eq_true, Bool.not_eq_true', decide_eq_false_iff_not] at this
    exact ⟨c, r, rfl, this.1.1.1, this.1.1.2, this.1.2, this.2⟩
theorem okT_mk5 {w : List UInt8} (hw : w ∈ signsL) (p : Int) : okT (GToken.mk 5 w p) = true := by
  have e : sTokenOk (GToken.mk 5 w p) = some (decide (w ∈ signsL)) := by unfold sTokenOk; simp [sSignOk_ok]
  unfold okT
  rw [e]; simp [hw]
theorem sign_tok {s pre post w : List UInt8} (hl : s.length ≤ 1048576) (hs : s = pre ++ (w ++ post)) (hw : w ∈ signsL) (hf : signAns (w ++ post) = w) :
    iReadToken s (pre.length : Int) = some (GToken.mk 5 w (pre.length : Int), ((pre.length + w.length : Nat) : Int), true) := by
  obtain ⟨c, r, hc, hp, h34, h39, _⟩ := signs_head w hw
  have hs' : s = pre ++ c :: (r ++ post) := by rw [hs, hc]; rfl
  have hle : pre.length ≤ s.length := by rw [hs]; simp
  have hwl : w.length ≤ 1048576 := by rcases signs_len w hw with e | e <;> omega
  have q34 : decide ((c.toNat : Int) = 34) = false := decide_eq_false fun h => h34 (UInt8.toNat_inj.1 (by simpa using (by omega : c.toNat = 34)))
  have q39 : decide ((c.toNat : Int) = 39) = false := decide_eq_false fun h => h39 (UInt8.toNat_inj.1 (by simpa using (by omega : c.toNat = 39)))
  have hsg : iSigns = some signsL := rfl
  have hb := best_loop s hl pre.length hle 0 (Nat.zero_le _) []
  have hdrop : s.drop pre.length = w ++ post := by rw [hs]; simp
  rw [hdrop, List.drop_zero] at hb
  have hbest : bestF (w ++ post) signsL [] = w := by
    have := best_ans c (r ++ post)
    rw [show c :: (r ++ post) = w ++ post by rw [hc]; rfl] at this
    rw [this, hf]
  rw [hbest] at hb
  unfold iReadToken
  simp only [idxS_app hs', part_is, hp, q34, q39, hsg, Bool.false_eq_true, if_false, Option.bind_eq_bind, Option.bind_some]
  have hb' : iReadToken_L2 s (pre.length : Int) signsL 0 [] = _ := hb
  rw [hb', fin_i _ _ _ _ hwl, okT_mk5 hw]
  have : s.length = pre.length + w.length + post.length := by rw [hs]; simp; omega
  rw [wrap_ok (by omega) (by omega)]
  simp
/-- what may stand behind a sign -/
theorem sign_follow {w : List UInt8} (hw : w ∈ signsL) (post : List UInt8) (h : ∀ d r, post = d :: r → w.length = 1 → w ++ [d] ∉ signsL ∧ w ++ [d] ≠ [45, 45] ∧ w ++ [d] ≠ [47, 42]) :
    signAns (w ++ post) = w ∧ (w ++ post).take 2 ≠ [45, 45] ∧ (w ++ post).take 2 ≠ [47, 42] := by
  have hno : ([45, 45] : List UInt8) ∉ signsL ∧ ([47, 42] : List UInt8) ∉ signsL := by decide
  rcases signs_len w hw with e | e
  · obtain ⟨c, rfl⟩ : ∃ c, w = [c] := List.length_eq_one_iff.1 e
    cases post with
    | nil =>
      refine ⟨?_, by simp, by simp⟩
      unfold signAns
      rw [if_neg (by simp), if_pos (by simpa using hw)]
      rfl
    | cons d r =>
      obtain ⟨h1, h2, h3⟩ := h d r rfl rfl
      refine ⟨?_, by simpa using h2, by simpa using h3⟩
      unfold signAns
      have : ([c] ++ d :: r).take 2 = [c] ++ [d] := rfl
      rw [this, if_neg (fun h => h1 h.2), if_pos (by simpa using hw)]
      rfl
  · have ht : (w ++ post).take 2 = w := by rw [← e]; simp
    rw [ht]
    refine ⟨?_, fun h => hno.1 (h ▸ hw), fun h => hno.2 (h ▸ hw)⟩
    unfold signAns
    rw [ht, if_pos ⟨by simp; omega, hw⟩]

/-! ilex3 -/
theorem iGap_form (a b : GToken) {wa qa wb qb : Bool} (oa1 : iTokenOk a = some (okT a)) (ob1 : iTokenOk b = some (okT b)) (a1 : iIsWord a = some wa) (b1 : iIsWord b = some wb) (a3 : iIsQuotedName a = some qa) (b3 : iIsQuotedName b = some qb) :
    iNeedsGap a b = (if okT a = true ∧ okT b = true then (if (wa && wb || (qa && qb) || (decide (a.kind = 4) && decide (b.kind = 4))) = true then some true else signGap a b) else some false) := by
  unfold iNeedsGap
  rw [oa1, ob1, a1, b1, a3, b3]
  show _ = ite _ _ _
  unfold signGap
  generalize okT a = oa
  generalize okT b = ob
  generalize (some (if (!decide (a.kind = 5)) = true then true else (!decide (b.kind = 5)))) >>= _ = E
  generalize decide (a.kind = 4) = ka
  generalize decide (b.kind = 4) = kb
  cases oa <;> cases ob <;> cases wa <;> cases wb <;> cases qa <;> cases qb <;> cases ka <;> cases kb <;> rfl
theorem words_all : ∀ w ∈ words, (∃ c r, w = c :: r ∧ iIsDigit (c.toNat : Int) = some false) ∧ ∀ d ∈ w, partB d = true := by
  have h : (words.all fun w => (match w with | c :: _ => decide (iIsDigit (c.toNat : Int) = some false) | [] => false) && w.all partB) = true := by decide +kernel
  intro w hw
  have := List.all_eq_true.1 h w hw
  rw [Bool.and_eq_true] at this
  refine ⟨?_, fun d hd => List.all_eq_true.1 this.2 d hd⟩
  cases w with
  | nil => simp at this
  | cons c r => exact ⟨c, r, rfl, of_decide_eq_true this.1⟩
theorem plain_all (s : List UInt8) (hs : s.length ≤ 1048576) : ∀ i, i ≤ s.length → iPlainName_L0 s (i : Nat) = some true → ∀ d ∈ s.drop i, partB d = true := by
  refine back_ind ?_ ?_
  · intro _ d hd; simp at hd
  · intro i hi ih h d hd
    rw [iPlainName_L0] at h
    simp only [lt_dec, hi, decide_true, if_true, idxS_at hi, part_is, Option.bind_eq_bind, Option.bind_some, wrap_next hi (by omega)] at h
    cases hp : partB s[i] with
    | false => rw [hp] at h; simp at h
    | true =>
      rw [hp] at h
      simp only [Bool.not_true, Bool.false_eq_true, if_false] at h
      rw [List.drop_eq_getElem_cons hi] at hd
      rcases List.mem_cons.1 hd with rfl | hd
      · exact hp
      · exact ih h d hd
theorem plain_true (s : List UInt8) (hs : s.length ≤ 1048576) (h : iPlainName s = some true) : ∃ c r, s = c :: r ∧ (∀ d ∈ s, partB d = true) ∧ iIsDigit (c.toNat : Int) = some false ∧ iKeyOf s = some 0 := by
  obtain ⟨n1, nb, n2, n3⟩ := nameOk_eqT s
  obtain ⟨k, k1, _, k3, k4, _⟩ := keyOf_eq s (by omega)
  unfold iPlainName at h
  rw [n1, n2, k1] at h
  cases nb with
  | false => simp at h
  | true =>
    have hl := (n3.1 rfl).1
    cases hs2 : s with
    | nil => rw [hs2] at hl; simp at hl
    | cons c r =>
      have hi : idxS s 0 = some (c.toNat : Int) := by rw [hs2]; rfl
      obtain ⟨_, f, _, _, _, e4, _⟩ := part_eq (c.toNat : Int)
      rw [hi] at h
      simp only [Bool.not_true, Bool.true_and, beq_self_eq_true, if_true, Option.bind_eq_bind, Option.bind_some, e4, Bool.false_eq_true, if_false] at h
      cases f with
      | true => simp at h
      | false =>
        simp only [Bool.true_and, beq_self_eq_true, if_true, Option.bind_some, Bool.false_eq_true, if_false] at h
        by_cases hk : k = 0
        · subst hk
          simp only [decide_true, Bool.not_true, Bool.false_eq_true, if_false] at h
          have ha := plain_all s hs 0 (Nat.zero_le _) h
          rw [List.drop_zero] at ha
          refine ⟨c, r, rfl, ?_, e4, ?_⟩
          · rw [← hs2]; exact ha
          · rw [← hs2]; exact k1
        · have : decide (k = 0) = false := decide_eq_false hk
          rw [this] at h
          simp at h
theorem dig_part (c : UInt8) (h : 48 ≤ c.toNat ∧ c.toNat ≤ 57) : partB c = true ∧ iIsDigit (c.toNat : Int) = some true := by
  have hd : iIsDigit (c.toNat : Int) = some true := by
    unfold iIsDigit
    have c1 : decide (48 ≤ (c.toNat : Int)) = true := decide_eq_true (by omega)
    have c2 : decide ((c.toNat : Int) ≤ 57) = true := decide_eq_true (by omega)
    simp [c1, c2]
  refine ⟨?_, hd⟩
  obtain ⟨b, f, _, _, _, e4, p⟩ := part_eq (c.toNat : Int)
  rw [hd] at e4
  injection e4 with e4
  unfold partB
  rw [p, ← e4]
  cases b <;> rfl
/-- what a right token is, and how it is written -/
theorem tok_cases (x : GToken) (hx : x.text.length ≤ 1048576) (ho : okT x = true) :
    (WordK x ∧ tt x = x.text ∧ iIsWord x = some true ∧ iIsQuotedName x = some false ∧ x.kind ≠ 4 ∧ x.kind ≠ 5) ∨
    (x.kind = 2 ∧ tt x = quoteT 34 x.text ∧ iIsWord x = some false ∧ iIsQuotedName x = some true) ∨
    (x.kind = 4 ∧ tt x = quoteT 39 x.text ∧ iIsWord x = some false ∧ iIsQuotedName x = some false) ∨
    (x.kind = 5 ∧ tt x = x.text ∧ x.text ∈ signsL ∧ iIsWord x = some false ∧ iIsQuotedName x = some false) := by
  obtain ⟨o1, o2⟩ := tokenOk_eq x hx
  obtain ⟨t1, _, _⟩ := tokenText_eq x hx
  rw [ho] at o1 o2
  unfold iTokenText at t1
  rw [o1] at t1
  simp only [Option.bind_eq_bind, Option.bind_some, Bool.not_true, Bool.false_eq_true, if_false] at t1
  unfold iTokenOk at o1
  by_cases k1 : x.kind = 1
  · left
    have ht : tt x = x.text := by simp [k1] at t1; exact t1.symm
    obtain ⟨j, j1, j2⟩ := index_loop words (x.text.map fb) (by decide) 0 (Nat.zero_le _)
    have j1' : gSlices_Index_Sstring_string_L0 words (x.text.map fb) 0 = some j := j1
    have hkey : iKeyOf x.text = some (IntKind.wrap .i64 (j + 1)) := by
      unfold iKeyOf gSlices_Index_Sstring_string
      rw [iKeywords_ok, iFold_ok x.text (by omega)]
      simp only [Option.bind_eq_bind, Option.bind_some, j1']
    obtain ⟨k, e1, _, e3, e4, _⟩ := keyOf_eq x.text (by omega)
    have hk : k ≠ 0 ∧ x.text.map fb = x.text := by
      simp only [k1, decide_true, if_true, e1, iFold_ok x.text (by omega), Option.bind_eq_bind, Option.bind_some] at o1
      by_cases hk : k = 0
      · simp [hk] at o1
      · have hd : decide (k = 0) = false := decide_eq_false hk
        simp [hd] at o1
        exact ⟨hk, o1⟩
    obtain ⟨i, m1, m2, m3, _, _⟩ := key_loop (x.text.map fb) 0 (by omega)
    have hji : j = i := by
      have m1' : gSlices_Index_Sstring_string_L0 words (x.text.map fb) 0 = some i := m1
      rw [j1'] at m1'; injection m1'
    rw [e1] at hkey
    injection hkey with hkey
    rw [wrap_ok (by omega) (by omega)] at hkey
    have hmem : x.text ∈ words := by
      have := j2.1 (by have := hk.1; omega)
      rw [List.drop_zero, hk.2] at this
      exact this
    obtain ⟨⟨c, r, hc, hd⟩, hp⟩ := words_all _ hmem
    refine ⟨⟨c, r, hc, hp, .inr (.inl ⟨k1, hd, k, e1, hk.1, hk.2⟩)⟩, ht, ?_, ?_, by omega, by omega⟩
    · unfold iIsWord; simp [k1]
    · unfold iIsQuotedName; simp [k1]
  by_cases k2 : x.kind = 2
  · obtain ⟨n1, nb, n2, n3⟩ := nameOk_eqT x.text
    have hnb : nb = true := by simp [k2, n1, n2] at o1; exact o1
    subst hnb
    obtain ⟨b, p1, _⟩ := plainName_eq x.text (by omega)
    cases b with
    | true =>
      left
      obtain ⟨c, r, hc, hp, hd, hk⟩ := plain_true x.text hx p1
      have ht : tt x = x.text := by
        simp only [k2] at t1
        unfold iNameText at t1
        rw [n1, n2, p1] at t1
        simpa using t1.symm
      refine ⟨⟨c, r, hc, hp, .inr (.inr ⟨k2, hd, hk⟩)⟩, ht, ?_, ?_, by omega, by omega⟩
      · unfold iIsWord; simp [k2, p1]
      · unfold iIsQuotedName; simp [k2, p1]
    | false =>
      right; left
      have ht : tt x = quoteT 34 x.text := by
        simp only [k2] at t1
        unfold iNameText at t1
        rw [n1, n2, p1, iQuoted_ok x.text 34 (by omega)] at t1
        simpa using t1.symm
      refine ⟨k2, ht, ?_, ?_⟩
      · unfold iIsWord; simp [k2, p1]
      · unfold iIsQuotedName; simp [k2, p1]
  by_cases k3 : x.kind = 3
  · left
    have ht : tt x = x.text := by simp [k3] at t1; exact t1.symm
    have hn : iNumber x.text = some (numG x.text) := by unfold iNumber numO; rw [if_pos (by omega)]
    have h2 : (numG x.text).2 = true := by simp [k3, hn] at o1; exact o1
    by_cases hm : ∃ m : Nat, m ≤ 9223372036854775807 ∧ Lib.itoa (m : Int) = x.text
    · obtain ⟨m, _, hm⟩ := hm
      rw [Lib.itoa_nonneg] at hm
      obtain ⟨d1, _⟩ := decDigits_dig m
      have hne := decDigits_ne m
      rw [hm] at d1 hne
      obtain ⟨c, r, hc⟩ : ∃ c r, x.text = c :: r := by
        cases h : x.text with
        | nil => exact absurd h hne
        | cons c r => exact ⟨c, r, rfl⟩
      refine ⟨⟨c, r, hc, fun d hd => (dig_part d (d1 d hd)).1, .inl ⟨k3, (dig_part c (d1 c (by rw [hc]; exact List.mem_cons_self))).2⟩⟩, ht, ?_, ?_, by omega, by omega⟩
      · unfold iIsWord; simp [k3]
      · unfold iIsQuotedName; simp [k3]
    · rw [numG_none _ fun m h e => hm ⟨m, h, e⟩] at h2
      simp at h2
  by_cases k4 : x.kind = 4
  · right; right; left
    have ht : tt x = quoteT 39 x.text := by
      simp only [k4] at t1
      rw [(quoteText_eq x.text hx).1] at t1
      simpa using t1.symm
    refine ⟨k4, ht, ?_, ?_⟩
    · unfold iIsWord; simp [k4]
    · unfold iIsQuotedName; simp [k4]
  by_cases k5 : x.kind = 5
  · right; right; right
    have ht : tt x = x.text := by simp [k5] at t1; exact t1.symm
    refine ⟨k5, ht, okT_sign k5 ho, ?_, ?_⟩
    · unfold iIsWord; simp [k5]
    · unfold iIsQuotedName; simp [k5]
  · simp [k1, k2, k3, k4, k5] at o1

/-! relex -/
theorem part_not (d : UInt8) (h : partB d = true) : white d = false ∧ d ≠ 34 ∧ d ≠ 39 ∧ d ≠ 45 ∧ d ≠ 47 ∧ d ≠ 42 ∧ d ≠ 32 := by
  have h1 : (([32, 9, 10, 13, 34, 39, 45, 47, 42] : List UInt8).all fun u => !partB u) = true := by decide +kernel
  have no : ∀ u ∈ ([32, 9, 10, 13, 34, 39, 45, 47, 42] : List UInt8), d ≠ u := fun u hu e => by
    have := List.all_eq_true.1 h1 u hu
    rw [← e, h] at this; simp at this
  refine ⟨?_, no _ (by decide), no _ (by decide), no _ (by decide), no _ (by decide), no _ (by decide), no _ (by decide)⟩
  unfold white
  rw [decide_eq_false (no 32 (by decide)), decide_eq_false (no 9 (by decide)), decide_eq_false (no 10 (by decide)), decide_eq_false (no 13 (by decide))]
  rfl
def HeadOk (x : GToken) (d : UInt8) : Prop := (iIsWord x = some true → partB d = false) ∧ (iIsQuotedName x = some true → d ≠ 34) ∧ (x.kind = 4 → d ≠ 39) ∧
  (x.kind = 5 → x.text.length = 1 → x.text ++ [d] ∉ signsL ∧ x.text ++ [d] ≠ [45, 45] ∧ x.text ++ [d] ≠ [47, 42])
/-- no sign, and no comment's begin, ends with such a byte -/
theorem no_sign {w : List UInt8} (hw : w ∈ signsL) {d : UInt8} (h : d ≠ 62 ∧ d ≠ 61 ∧ d ≠ 124 ∧ d ≠ 45 ∧ d ≠ 42) : w.length = 1 → w ++ [d] ∉ signsL ∧ w ++ [d] ≠ [45, 45] ∧ w ++ [d] ≠ [47, 42] := by
  intro hl
  obtain ⟨c, rfl⟩ : ∃ c, w = [c] := List.length_eq_one_iff.1 hl
  have h2 : (signsL.all fun v => match v with | [_, e] => decide (e = 62) || decide (e = 61) || decide (e = 124) | _ => true) = true := by decide +kernel
  refine ⟨fun hm => ?_, fun e => ?_, fun e => ?_⟩
  · have := List.all_eq_true.1 h2 _ hm
    simp [h.1, h.2.1, h.2.2.1] at this
  · injection e with _ e; injection e with e; exact h.2.2.2.1 e
  · injection e with _ e; injection e with e; exact h.2.2.2.2 e
theorem head_32 {x : GToken} (hs : x.kind = 5 → x.text ∈ signsL) : HeadOk x 32 :=
  ⟨fun _ => by decide +kernel, fun _ => by decide, fun _ => by decide, fun k => no_sign (hs k) (by decide)⟩
theorem part_sign (d : UInt8) (h : partB d = true) : d ≠ 62 ∧ d ≠ 61 ∧ d ≠ 124 ∧ d ≠ 45 ∧ d ≠ 42 := by
  have h1 : (([62, 61, 124, 45, 42] : List UInt8).all fun u => !partB u) = true := by decide +kernel
  have no : ∀ u ∈ ([62, 61, 124, 45, 42] : List UInt8), d ≠ u := fun u hu e => by
    have := List.all_eq_true.1 h1 u hu
    rw [← e, h] at this; simp at this
  exact ⟨no _ (by decide), no _ (by decide), no _ (by decide), no _ (by decide), no _ (by decide)⟩
theorem sign_pairs : ∀ w ∈ signsL, ∀ v ∈ signsL, signGap (GToken.mk 5 w 0) (GToken.mk 5 v 0) = some false → ∀ d r, v = d :: r → w.length = 1 → w ++ [d] ∉ signsL ∧ w ++ [d] ≠ [45, 45] ∧ w ++ [d] ≠ [47, 42] := by
  have h : (signsL.all fun w => signsL.all fun v => match v with
      | d :: _ => !decide (signGap (GToken.mk 5 w 0) (GToken.mk 5 v 0) = some false) || !decide (w.length = 1) || (decide (w ++ [d] ∉ signsL) && decide (w ++ [d] ≠ [45, 45]) && decide (w ++ [d] ≠ [47, 42]))
      | [] => true) = true := by decide +kernel
  intro w hw v hv hg d r hd hl
  have := List.all_eq_true.1 (List.all_eq_true.1 h w hw) v hv
  subst hd
  simp only [hg, decide_true, Bool.not_true, hl, Bool.false_or, Bool.and_eq_true, decide_eq_true_eq] at this
  exact ⟨this.1.1, this.1.2, this.2⟩
theorem tt_head (x : GToken) (hx : x.text.length ≤ 1048576) (ho : okT x = true) : ∃ d r, tt x = d :: r ∧ white d = false := by
  rcases tok_cases x hx ho with ⟨⟨c, r, hc, hp, _⟩, ht, _⟩ | ⟨_, ht, _⟩ | ⟨_, ht, _⟩ | ⟨_, ht, hm, _⟩
  · exact ⟨c, r, by rw [ht, hc], (part_not c (hp c (by rw [hc]; exact List.mem_cons_self))).1⟩
  · exact ⟨34, _, by rw [ht, quote_head], by decide⟩
  · exact ⟨39, _, by rw [ht, quote_head], by decide⟩
  · obtain ⟨c, r, hc, _, _, _, hw⟩ := signs_head _ hm
    exact ⟨c, r, by rw [ht, hc], hw⟩
theorem signGap_at (a b : GToken) (ha : a.kind = 5) (hb : b.kind = 5) : signGap a b = signGap (GToken.mk 5 a.text 0) (GToken.mk 5 b.text 0) := by
  unfold signGap
  simp [ha, hb]
theorem head_next (a b : GToken) (ha : a.text.length ≤ 1048576) (hb : b.text.length ≤ 1048576) (oa : okT a = true) (ob : okT b = true) (hg : gapN a b = false) : ∀ d r, tt b = d :: r → HeadOk a d := by
  intro d r hd
  have hform : ∀ {wa qa wb qb : Bool}, iIsWord a = some wa → iIsWord b = some wb → iIsQuotedName a = some qa → iIsQuotedName b = some qb → (wa && wb || (qa && qb) || (decide (a.kind = 4) && decide (b.kind = 4))) = false ∧ signGap a b = some false := by
    intro wa qa wb qb h1 h2 h3 h4
    have := iGap_form a b (tokenOk_eq a ha).1 (tokenOk_eq b hb).1 h1 h2 h3 h4
    rw [(needsGap_eq a b ha hb).1, hg, if_pos ⟨oa, ob⟩] at this
    cases hc : (wa && wb || (qa && qb) || (decide (a.kind = 4) && decide (b.kind = 4))) with
    | true => rw [hc] at this; simp at this
    | false => rw [hc] at this; simp at this; exact ⟨rfl, this.symm⟩
  have ssign : a.kind = 5 → a.text ∈ signsL := fun k => okT_sign k oa
  rcases tok_cases b hb ob with ⟨⟨c, r2, hc, hp, _⟩, ht, wb, qb, _⟩ | ⟨kb, ht, wb, qb⟩ | ⟨kb, ht, wb, qb⟩ | ⟨kb, ht, hm, wb, qb⟩
  · -- a word behind
    have hdc : d = c := by rw [ht, hc] at hd; injection hd with h _; exact h.symm
    have hpd : partB d = true := by rw [hdc]; exact hp c (by rw [hc]; exact List.mem_cons_self)
    obtain ⟨_, n34, n39, _⟩ := part_not d hpd
    refine ⟨fun wa => ?_, fun _ => n34, fun _ => n39, fun k => no_sign (ssign k) (part_sign d hpd)⟩
    obtain ⟨_, qa, _, _, q3, _⟩ := word_eq a ha
    have := (hform wa wb q3 qb).1
    simp at this
  · have hdc : d = 34 := by rw [ht, quote_head] at hd; injection hd with h _; exact h.symm
    subst hdc
    refine ⟨fun _ => part_34, fun qa => ?_, fun _ => by decide, fun k => no_sign (ssign k) (by decide)⟩
    obtain ⟨wa, _, w1, _⟩ := word_eq a ha
    have := (hform w1 wb qa qb).1
    simp at this
  · have hdc : d = 39 := by rw [ht, quote_head] at hd; injection hd with h _; exact h.symm
    subst hdc
    refine ⟨fun _ => part_39, fun _ => by decide, fun ka => ?_, fun k => no_sign (ssign k) (by decide)⟩
    obtain ⟨wa, qa, w1, _, q1, _⟩ := word_eq a ha
    have := (hform w1 wb q1 qb).1
    simp [ka, kb] at this
  · obtain ⟨c, r2, hc, hp, h34, h39, _⟩ := signs_head _ hm
    have hdc : d = c := by rw [ht, hc] at hd; injection hd with h _; exact h.symm
    subst hdc
    refine ⟨fun _ => hp, fun _ => h34, fun _ => h39, fun k => ?_⟩
    obtain ⟨wa, qa, w1, _, q1, _⟩ := word_eq a ha
    have hs := (hform w1 wb q1 qb).2
    rw [signGap_at a b k kb] at hs
    exact sign_pairs a.text (ssign k) b.text hm hs d r2 hc
theorem tok_at {s pre post : List UInt8} {x : GToken} (hl : s.length ≤ 1048576) (hs : s = pre ++ (tt x ++ post)) (hx : x.text.length ≤ 1048576) (ho : okT x = true) (hf : ∀ d r, post = d :: r → HeadOk x d) :
    iSkip_L0 s (pre.length : Nat) = some ((pre.length : Int), true) ∧ iReadToken s (pre.length : Int) = some (GToken.mk x.kind x.text (pre.length : Int), ((pre.length + (tt x).length : Nat) : Int), true) ∧ pre.length < s.length ∧ 0 < (tt x).length := by
  obtain ⟨d, r, hd, hw⟩ := tt_head x hx ho
  have hlt : pre.length < s.length := by rw [hs, hd]; simp
  have hget : s[pre.length] = d := by simp [hs, hd]
  have hdrop : s.drop pre.length = tt x ++ post := by rw [hs]; simp
  have hskip : (tt x ++ post).take 2 ≠ [45, 45] → (tt x ++ post).take 2 ≠ [47, 42] → iSkip_L0 s (pre.length : Nat) = some ((pre.length : Int), true) := fun h1 h2 =>
    (iSkip_at s hl hlt).2 (by rw [hget]; exact hw) (by rw [hdrop]; exact h1) (by rw [hdrop]; exact h2)
  have hhead : d ≠ 45 → d ≠ 47 → iSkip_L0 s (pre.length : Nat) = some ((pre.length : Int), true) := fun h1 h2 => by
    refine hskip (fun e => ?_) (fun e => ?_)
    · rw [hd, List.cons_append, List.take_succ_cons] at e; injection e with e _; exact h1 e
    · rw [hd, List.cons_append, List.take_succ_cons] at e; injection e with e _; exact h2 e
  have hpos : 0 < (tt x).length := by rw [hd]; simp
  rcases tok_cases x hx ho with ⟨hk, ht, hwd, _⟩ | ⟨k, ht, _, hq⟩ | ⟨k, ht, _⟩ | ⟨k, ht, hm, _⟩
  · have hk' := hk
    obtain ⟨c, r2, hc, hp, _⟩ := hk'
    have hdc : d = c := by rw [ht, hc] at hd; injection hd with h _; exact h.symm
    obtain ⟨_, _, _, n45, n47, _⟩ := part_not d (by rw [hdc]; exact hp c (by rw [hc]; exact List.mem_cons_self))
    refine ⟨hhead n45 n47, ?_, hlt, hpos⟩
    rw [ht] at hs ⊢
    exact word_tok hl hs hk ho fun c r e => (hf c r e).1 hwd
  · have hdc : d = 34 := by rw [ht, quote_head] at hd; injection hd with h _; exact h.symm
    refine ⟨hhead (by rw [hdc]; decide) (by rw [hdc]; decide), ?_, hlt, hpos⟩
    rw [ht] at hs ⊢
    exact quoted_tok 34 (.inl ⟨rfl, k⟩) hl hs ho fun c r e => (hf c r e).2.1 hq
  · have hdc : d = 39 := by rw [ht, quote_head] at hd; injection hd with h _; exact h.symm
    refine ⟨hhead (by rw [hdc]; decide) (by rw [hdc]; decide), ?_, hlt, hpos⟩
    rw [ht] at hs ⊢
    exact quoted_tok 39 (.inr ⟨rfl, k⟩) hl hs ho fun c r e => (hf c r e).2.2.1 k
  · obtain ⟨f1, f2, f3⟩ := sign_follow hm post fun d r e => (hf d r e).2.2.2 k
    rw [ht] at hskip
    refine ⟨hskip f2 f3, ?_, hlt, hpos⟩
    rw [ht] at hs ⊢
    have := sign_tok hl hs hm f1
    rw [k]; exact this
def keyT (x : GToken) : Int × List UInt8 := (x.kind, x.text)
theorem relex (gap : GToken → GToken → Bool) (hgap : ∀ a b, gap a b = false → gapN a b = false) {s : List UInt8} (hl : s.length ≤ 2000) : ∀ (l : List GToken) (prev : Option GToken) (pre J : List UInt8) (acc : List GToken),
    (∀ x ∈ l, okT x = true ∧ x.text.length ≤ 1048576) → joinF gap prev l = some J → s = pre ++ J → acc.length ≤ pre.length →
    ∃ l', iLex_L0 s acc (pre.length : Int) = some (acc ++ l', -1) ∧ l'.map keyT = l.map keyT
  | [], prev, pre, J, acc, _, hJ, hs, _ => by
    simp only [joinF, Option.some.injEq] at hJ
    subst hJ
    rw [List.append_nil] at hs
    subst hs
    refine ⟨[], ?_, rfl⟩
    rw [iLex_L0]
    unfold iSkip
    rw [iSkip_end s]
    simp
  | x :: l, prev, pre, J, acc, hall, hJ, hs, hacc => by
    obtain ⟨ho, hx⟩ := hall x List.mem_cons_self
    have hall' : ∀ y ∈ l, okT y = true ∧ y.text.length ≤ 1048576 := fun y hy => hall y (List.mem_cons_of_mem _ hy)
    simp only [joinF, ho, if_true] at hJ
    obtain ⟨R, hR, hJ⟩ := Option.map_eq_some_iff.1 hJ
    have hfol : ∀ d r, R = d :: r → HeadOk x d := by
      intro d r hd
      cases l with
      | nil => simp only [joinF, Option.some.injEq] at hR; rw [← hR] at hd; simp at hd
      | cons b l2 =>
        obtain ⟨hob, hb⟩ := hall' b List.mem_cons_self
        simp only [joinF, hob, if_true] at hR
        obtain ⟨R2, _, hR⟩ := Option.map_eq_some_iff.1 hR
        obtain ⟨e, r2, he, _⟩ := tt_head b hb hob
        cases hg : gap x b with
        | true =>
          rw [hg] at hR
          simp only [if_true] at hR
          rw [← hR] at hd
          injection hd with h _
          rw [← h]
          exact head_32 fun k => okT_sign k ho
        | false =>
          rw [hg] at hR
          simp only [Bool.false_eq_true, if_false, List.nil_append] at hR
          rw [← hR, he] at hd
          injection hd with h _
          rw [← h]
          exact head_next x b hx hb ho hob (hgap x b hg) e r2 he
    have main : ∀ pre1 : List UInt8, s = pre1 ++ (tt x ++ R) → acc.length ≤ pre1.length → iSkip_L0 s (pre.length : Int) = iSkip_L0 s (pre1.length : Int) →
        ∃ l', iLex_L0 s acc (pre.length : Int) = some (acc ++ l', -1) ∧ l'.map keyT = (x :: l).map keyT := by
      intro pre1 hs1 hac hsk
      obtain ⟨g1, g2, g3, g4⟩ := tok_at (by omega) hs1 hx ho hfol
      have hs2 : s = (pre1 ++ tt x) ++ R := by rw [hs1]; simp
      obtain ⟨l', i1, i2⟩ := relex gap hgap hl l (some x) (pre1 ++ tt x) R (acc ++ [GToken.mk x.kind x.text (pre1.length : Int)]) hall' hR hs2 (by simp; omega)
      refine ⟨GToken.mk x.kind x.text (pre1.length : Int) :: l', ?_, by simp [i2, keyT]⟩
      rw [iLex_L0]
      unfold iSkip
      rw [hsk, g1]
      simp only [Option.bind_eq_bind, Option.bind_some, Bool.not_true, Bool.false_eq_true, if_false]
      rw [if_neg (by rw [decide_eq_true_eq]; omega), g2]
      simp only [Option.bind_some, Bool.not_true, Bool.false_eq_true, if_false]
      have ap : appG 32 acc [GToken.mk x.kind x.text (pre1.length : Int)] = some (acc ++ [GToken.mk x.kind x.text (pre1.length : Int)]) := by unfold appG; rw [if_pos (by simp only [List.length_cons, List.length_nil]; omega)]
      rw [ap]
      simp only [Option.bind_some]
      have e : (((pre1 ++ tt x).length : Nat) : Int) = ((pre1.length + (tt x).length : Nat) : Int) := by rw [List.length_append]
      rw [← e, i1]
      simp
    by_cases hgp : ∃ y, prev = some y ∧ gap y x = true
    · obtain ⟨y, rfl, hy⟩ := hgp
      simp only [hy, if_true] at hJ
      have hs1 : s = (pre ++ [32]) ++ (tt x ++ R) := by rw [hs, ← hJ]; simp
      have hlt : pre.length < s.length := by rw [hs1]; simp
      have hget : s[pre.length] = 32 := by simp [hs1]
      refine main (pre ++ [32]) hs1 (by simp; omega) ?_
      have := (iSkip_at s (by omega) hlt).1 (by rw [hget]; rfl)
      rw [this]
      congr 1
      simp
    · have hs1 : s = pre ++ (tt x ++ R) := by
        rw [hs, ← hJ]
        cases prev with
        | none => simp
        | some y =>
          have : gap y x = false := by
            cases h : gap y x with
            | false => rfl
            | true => exact absurd ⟨y, rfl, h⟩ hgp
          simp [this]
      exact main pre hs1 hacc rfl

/-! skip -/
theorem sL1Min_ok (a b : Nat) : sL1Min (a : Int) (b : Int) = some ((min a b : Nat) : Int) := by
  unfold sL1Min
  by_cases h : a < b
  · rw [if_pos (decide_eq_true (by omega)), Nat.min_eq_left (by omega)]
  · rw [if_neg (by rw [decide_eq_true_eq]; omega), Nat.min_eq_right (by omega)]
/-- at most two bytes from a place on -/
theorem two_ok {s : List UInt8} {i : Nat} (h : i ≤ s.length) (hs : s.length ≤ 1048576) : (sL1Min (s.length : Int) (IntKind.wrap .i64 ((i : Int) + 2)) >>= fun y => subl s (i : Int) y) = some ((s.drop i).take 2) := by
  have e : IntKind.wrap .i64 ((i : Int) + 2) = ((i + 2 : Nat) : Int) := by rw [wrap_ok (by omega) (by omega)]; omega
  rw [e, sL1Min_ok]
  simp only [Option.bind_eq_bind, Option.bind_some]
  rw [sub_two (by omega) (by omega)]
  by_cases h2 : s.length ≤ i + 2
  · rw [Nat.min_eq_left h2, List.take_of_length_le (by simp), List.take_of_length_le (by simp; omega)]
  · rw [Nat.min_eq_right (by omega)]; congr 2; omega
theorem idxS_last (s : List UInt8) : idxS s (s.length : Int) = none := by simp [idxS]
/-- a line's end -/
theorem pass_line (s : List UInt8) (hs : s.length ≤ 1048576) : ∀ i, i ≤ s.length → sL3Pass_L1 s (i : Nat) = (if Lib.indexByte (s.drop i) 10 < 0 then sL3Pass_L0 s (s.length : Nat) else sL3Pass_L0 s ((i + (Lib.indexByte (s.drop i) 10).toNat : Nat) : Int)) := by
  refine back_ind ?_ ?_
  · rw [sL3Pass_L1, List.drop_length]
    have h0 : Lib.indexByte [] 10 = -1 := rfl
    simp only [lt_dec, Nat.lt_irrefl, decide_false, Bool.true_and, Bool.false_eq_true, beq_iff_eq, reduceCtorEq, if_false, Option.bind_eq_bind, Option.bind_some]
    rw [h0, if_pos (show (-1 : Int) < 0 by omega)]
  · intro i hi ih
    have hge := indexByte_ge 10 (s.drop (i + 1))
    rw [sL3Pass_L1, List.drop_eq_getElem_cons hi, indexByte_cons]
    have e := u8_eq s[i] 10 (by omega)
    simp only [lt_dec, hi, decide_true, idxS_at hi, Bool.true_and, beq_self_eq_true, if_true, Option.bind_eq_bind, Option.bind_some]
    rw [show ((10 : Nat) : Int) = 10 from rfl] at e
    rw [e]
    by_cases hb : s[i] = 10
    · rw [if_pos hb, if_neg (show ¬ (0 : Int) < 0 by omega), if_neg (by simp [hb])]
      simp
    · rw [if_neg hb, if_pos (by simpa using hb), wrap_next hi (by omega), ih]
      by_cases hm : Lib.indexByte (s.drop (i + 1)) 10 = -1
      · rw [hm]; rfl
      · rw [if_neg hm, if_neg (by omega), if_neg (by omega)]
        congr 1
        omega
theorem index_two (b : UInt8) (l : List UInt8) : Lib.index (b :: l) [42, 47] = if (b :: l).take 2 = [42, 47] then 0 else if Lib.index l [42, 47] = -1 then -1 else Lib.index l [42, 47] + 1 := by
  rw [Lib.index]
  have : ([42, 47] : List UInt8).isPrefixOf (b :: l) = decide ((b :: l).take 2 = [42, 47]) := by
    cases l with
    | nil => simp [List.isPrefixOf]
    | cons c l =>
      simp only [List.isPrefixOf, List.take_succ_cons, List.take_zero]
      by_cases h1 : b = 42
      · by_cases h2 : c = 47
        · subst h1; subst h2; rfl
        · subst h1
          have : ¬ 47 = c := fun e => h2 e.symm
          simp [h2, this]
      · have : ¬ 42 = b := fun e => h1 e.symm
        simp [h1, this]
  rw [this]
  by_cases h : (b :: l).take 2 = [42, 47]
  · simp [h]
  · simp [h]
/-- a comment's end -/
theorem pass_comment (s : List UInt8) (hs : s.length ≤ 1048576) (x : Nat) (hx : x ≤ 1048576) : ∀ i, i ≤ s.length → sL3Pass_L2 s (x : Int) (i : Nat) = (if Lib.index (s.drop i) [42, 47] < 0 then some (-(x : Int) - 1) else sL3Pass_L0 s ((i + (Lib.index (s.drop i) [42, 47]).toNat + 2 : Nat) : Int)) := by
  refine back_ind ?_ ?_
  · rw [sL3Pass_L2, List.drop_length]
    have h0 : Lib.index [] [42, 47] = -1 := rfl
    have e : IntKind.wrap .i64 (IntKind.wrap .i64 (0 - (x : Int)) - 1) = -(x : Int) - 1 := by rw [wrap_ok (n := 0 - (x : Int)) (by omega) (by omega), wrap_ok (by omega) (by omega)]; omega
    simp only [lt_dec, Nat.lt_irrefl, decide_false, Bool.true_and, Bool.false_eq_true, beq_iff_eq, reduceCtorEq, if_false, Option.bind_eq_bind, Option.bind_some]
    rw [h0, if_pos (show (-1 : Int) < 0 by omega), e, if_pos (decide_eq_true (by omega))]
  · intro i hi ih
    have hge := Lib.index_ge (s.drop (i + 1)) [42, 47]
    have h2 := two_ok (s := s) (i := i) (by omega) hs
    rw [sL3Pass_L2, List.drop_eq_getElem_cons hi, index_two, ← List.drop_eq_getElem_cons hi]
    obtain ⟨y, y1⟩ : ∃ y, sL1Min (s.length : Int) (IntKind.wrap .i64 ((i : Int) + 2)) = some y := by unfold sL1Min; split <;> exact ⟨_, rfl⟩
    rw [y1] at h2
    have h2' : subl s (i : Int) y = some ((s.drop i).take 2) := h2
    simp only [lt_dec, hi, decide_true, y1, h2', Bool.true_and, beq_self_eq_true, if_true, Option.bind_eq_bind, Option.bind_some]
    by_cases hb : (s.drop i).take 2 = [42, 47]
    · have e2 : IntKind.wrap .i64 ((i : Int) + 2) = ((i + 2 : Nat) : Int) := by rw [wrap_ok (by omega) (by omega)]; omega
      rw [if_pos hb, if_neg (show ¬ (0 : Int) < 0 by omega), if_neg (by simp [hb]), if_neg (by rw [decide_eq_true_eq]; omega), e2]
      simp
    · rw [if_neg hb, if_pos (by simpa using hb), wrap_next hi (by omega), ih]
      by_cases hm : Lib.index (s.drop (i + 1)) [42, 47] = -1
      · rw [hm]; rfl
      · rw [if_neg hm, if_neg (by omega), if_neg (by omega)]
        congr 1
        omega

/-! skip2 -/
theorem index_room : ∀ l : List UInt8, Lib.index l [42, 47] = -1 ∨ (0 ≤ Lib.index l [42, 47] ∧ (Lib.index l [42, 47]).toNat + 2 ≤ l.length)
  | [] => .inl rfl
  | b :: l => by
    have ih := index_room l
    rw [index_two]
    by_cases h : (b :: l).take 2 = [42, 47]
    · rw [if_pos h]
      have := congrArg List.length h
      rw [List.length_take] at this
      simp only [List.length_cons, List.length_nil] at this ⊢
      exact .inr ⟨by omega, by omega⟩
    · rw [if_neg h]
      simp only [List.length_cons]
      rcases ih with ih | ih
      · rw [if_pos ih]; exact .inl rfl
      · rw [if_neg (by omega)]; exact .inr ⟨by omega, by omega⟩
theorem white_chain {β : Type} (n : Int) (A B : Option β) : ((if (true && decide (n = 32) == false) = true then some n else some default).bind fun y4 =>
      (if (true && (if decide (n = 32) = true then true else decide (y4 = 9)) == false) = true then some n else some default).bind fun y6 =>
        (if (true && (if (if decide (n = 32) = true then true else decide (y4 = 9)) = true then true else decide (y6 = 10)) == false) = true then some n else some default).bind fun y8 =>
          if (if (if (if decide (n = 32) = true then true else decide (y4 = 9)) = true then true else decide (y6 = 10)) = true then true else decide (y8 = 13)) = true then A else B) =
    if (decide (n = 32) || decide (n = 9) || decide (n = 10) || decide (n = 13)) = true then A else B := by
  by_cases h32 : n = 32
  · subst h32; rfl
  by_cases h9 : n = 9
  · subst h9; rfl
  by_cases h10 : n = 10
  · subst h10; rfl
  by_cases h13 : n = 13
  · subst h13; rfl
  · simp [h32, h9, h10, h13]
theorem spec_white (s : List UInt8) (hs : s.length ≤ 1048576) {i : Nat} (hi : i < s.length) : sL3Pass_L0 s (i : Nat) =
    (if white s[i] = true then sL3Pass_L0 s ((i + 1 : Nat) : Int) else if (s.drop i).take 2 = [45, 45] then sL3Pass_L1 s (i : Nat) else if (s.drop i).take 2 = [47, 42] then sL3Pass_L2 s (i : Nat) ((i + 2 : Nat) : Int) else some (i : Int)) := by
  have h2 := two_ok (s := s) (i := i) (by omega) hs
  obtain ⟨y, y1⟩ : ∃ y, sL1Min (s.length : Int) (IntKind.wrap .i64 ((i : Int) + 2)) = some y := by unfold sL1Min; split <;> exact ⟨_, rfl⟩
  rw [y1] at h2
  have h2' : subl s (i : Int) y = some ((s.drop i).take 2) := h2
  have e32 : decide ((s[i].toNat : Int) = 32) = decide (s[i] = 32) := u8_eq s[i] 32 (by omega)
  have e9 : decide ((s[i].toNat : Int) = 9) = decide (s[i] = 9) := u8_eq s[i] 9 (by omega)
  have e10 : decide ((s[i].toNat : Int) = 10) = decide (s[i] = 10) := u8_eq s[i] 10 (by omega)
  have e13 : decide ((s[i].toNat : Int) = 13) = decide (s[i] = 13) := u8_eq s[i] 13 (by omega)
  have e2 : IntKind.wrap .i64 ((i : Int) + 2) = ((i + 2 : Nat) : Int) := by rw [wrap_ok (by omega) (by omega)]; omega
  conv => lhs; rw [sL3Pass_L0]
  simp only [lt_dec, hi, decide_true, if_true, y1, h2', idxS_at hi, Option.bind_eq_bind, Option.bind_some, wrap_next hi (by omega)]
  refine (white_chain (s[i].toNat : Int) _ _).trans ?_
  rw [e32, e9, e10, e13, e2]
  unfold white
  simp only [decide_eq_true_eq]
theorem skip_eq (s : List UInt8) (hs : s.length ≤ 1048576) : ∀ n at', s.length - at' ≤ n → at' ≤ s.length → ∃ (m : Nat) (ok : Bool), iSkip_L0 s (at' : Nat) = some ((m : Int), ok) ∧ at' ≤ m ∧ m ≤ s.length ∧ sL3Pass_L0 s (at' : Nat) = some (if ok = true then (m : Int) else -(m : Int) - 1) := by
  intro n
  induction n with
  | zero =>
    intro i h1 h2
    have : i = s.length := by omega
    subst this
    refine ⟨s.length, true, ?_, Nat.le_refl _, Nat.le_refl _, ?_⟩
    · rw [iSkip_L0]; simp
    · rw [sL3Pass_L0]; simp
  | succ n ih =>
    intro i h1 h2
    by_cases hi : i < s.length
    · have hrest := sub_rest (s := s) (i := i) (by omega)
      rw [spec_white s hs hi, iSkip_L0]
      have ew : gStrings_IndexByte [32, 9, 10, 13] (s[i].toNat : Int) = some (Lib.indexByte [32, 9, 10, 13] s[i]) := by unfold gStrings_IndexByte; rw [byte_back]
      have p1 := prefix_ok (s.drop i) [45, 45]
      have p2 := prefix_ok (s.drop i) [47, 42]
      simp only [List.length_cons, List.length_nil, Nat.zero_add] at p1 p2
      have p1' : gStrings_HasPrefix (s.drop i) [45, 45] = some (decide ((s.drop i).take 2 = [45, 45])) := p1
      have p2' : gStrings_HasPrefix (s.drop i) [47, 42] = some (decide ((s.drop i).take 2 = [47, 42])) := p2
      simp only [lt_dec, hi, decide_true, if_true, hrest, idxS_at hi, ew, p1', p2', white_index, Option.bind_eq_bind, Option.bind_some, wrap_next hi (by omega)]
      cases hw : white s[i] with
      | true =>
        simp only [if_true]
        obtain ⟨m, ok, a1, a2, a3, a4⟩ := ih (i + 1) (by omega) (by omega)
        exact ⟨m, ok, a1, by omega, a3, a4⟩
      | false =>
        simp only [Bool.false_eq_true, if_false]
        by_cases hl : (s.drop i).take 2 = [45, 45]
        · rw [if_pos (decide_eq_true hl), if_pos hl, pass_line s hs i (by omega)]
          have eb : gStrings_IndexByte (s.drop i) 10 = some (Lib.indexByte (s.drop i) 10) := rfl
          rw [eb]
          simp only [Option.bind_some]
          have hge := indexByte_ge 10 (s.drop i)
          by_cases hn : Lib.indexByte (s.drop i) 10 < 0
          · rw [if_pos (decide_eq_true hn), if_pos hn]
            refine ⟨s.length, true, rfl, by omega, Nat.le_refl _, ?_⟩
            rw [sL3Pass_L0]; simp
          · rw [if_neg (show ¬ decide (Lib.indexByte (s.drop i) 10 < 0) = true by rw [decide_eq_true_eq]; exact hn), if_neg hn]
            obtain ⟨o, ho⟩ : ∃ o : Nat, Lib.indexByte (s.drop i) 10 = o := ⟨(Lib.indexByte (s.drop i) 10).toNat, by omega⟩
            obtain ⟨q1, _⟩ := Lib.indexByte_some ho
            rw [List.getElem?_drop] at q1
            have hlt : i + o < s.length := (List.getElem?_eq_some_iff.1 q1).1
            have hv : s[i + o] = 10 := (List.getElem?_eq_some_iff.1 q1).2
            have hw10 : white s[i + o] = true := by rw [hv]; rfl
            rw [ho, Int.toNat_natCast, spec_white s hs hlt, if_pos hw10]
            have e1 : IntKind.wrap .i64 ((o : Int) + 1) = ((o + 1 : Nat) : Int) := by rw [wrap_ok (by omega) (by omega)]; omega
            have e2 : IntKind.wrap .i64 ((i : Int) + ((o + 1 : Nat) : Int)) = ((i + o + 1 : Nat) : Int) := by rw [wrap_ok (by omega) (by omega)]; omega
            rw [e1, e2]
            obtain ⟨m, ok, a1, a2, a3, a4⟩ := ih (i + o + 1) (by omega) (by omega)
            exact ⟨m, ok, a1, by omega, a3, a4⟩
        · rw [if_neg (by rw [decide_eq_true_eq]; exact hl), if_neg hl]
          by_cases hc : (s.drop i).take 2 = [47, 42]
          · rw [if_pos (decide_eq_true hc), if_pos hc]
            have hl2 : 2 ≤ s.length - i := by
              have := congrArg List.length hc
              rw [List.length_take, List.length_drop] at this
              simp only [List.length_cons, List.length_nil] at this
              omega
            have hsub : subl (s.drop i) 2 ((s.drop i).length : Int) = some (s.drop (i + 2)) := by
              have := sub_rest (s := s.drop i) (i := 2) (by rw [List.length_drop]; omega)
              rw [List.drop_drop] at this
              exact this
            have hidx : gStrings_Index (s.drop (i + 2)) [42, 47] = some (Lib.index (s.drop (i + 2)) [42, 47]) := by
              unfold gStrings_Index indexG; rw [if_pos (by rw [List.length_drop]; omega)]
            rw [hsub]
            simp only [Option.bind_some]
            rw [hidx, pass_comment s hs i (by omega) (i + 2) (by omega)]
            simp only [Option.bind_some]
            rcases index_room (s.drop (i + 2)) with hr | ⟨hr1, hr2⟩
            · rw [hr, if_pos (decide_eq_true (show (-1 : Int) < 0 by omega)), if_pos (show (-1 : Int) < 0 by omega)]
              exact ⟨i, false, rfl, Nat.le_refl _, by omega, by simp⟩
            · rw [if_neg (show ¬ decide (Lib.index (s.drop (i + 2)) [42, 47] < 0) = true by rw [decide_eq_true_eq]; omega), if_neg (show ¬ Lib.index (s.drop (i + 2)) [42, 47] < 0 by omega)]
              obtain ⟨o, ho⟩ : ∃ o : Nat, Lib.index (s.drop (i + 2)) [42, 47] = o := ⟨(Lib.index (s.drop (i + 2)) [42, 47]).toNat, by omega⟩
              rw [ho, Int.toNat_natCast] at hr2 ⊢
              rw [List.length_drop] at hr2
              have e1 : IntKind.wrap .i64 ((o : Int) + 4) = ((o + 4 : Nat) : Int) := by rw [wrap_ok (by omega) (by omega)]; omega
              have e2 : IntKind.wrap .i64 ((i : Int) + ((o + 4 : Nat) : Int)) = ((i + o + 4 : Nat) : Int) := by rw [wrap_ok (by omega) (by omega)]; omega
              rw [e1, e2, show i + 2 + o + 2 = i + o + 4 by omega]
              obtain ⟨m, ok, a1, a2, a3, a4⟩ := ih (i + o + 4) (by omega) (by omega)
              exact ⟨m, ok, a1, by omega, a3, a4⟩
          · rw [if_neg (by rw [decide_eq_true_eq]; exact hc), if_neg hc]
            exact ⟨i, true, rfl, Nat.le_refl _, by omega, by simp⟩
    · have : i = s.length := by omega
      subst this
      refine ⟨s.length, true, ?_, Nat.le_refl _, Nat.le_refl _, ?_⟩
      · rw [iSkip_L0]; simp
      · rw [sL3Pass_L0]; simp

/-! lexone -/
/-- words end at the same place -/
theorem run_eq (s : List UInt8) (hs : s.length ≤ 1048576) (p1 y1 : Int) : ∀ i, i ≤ s.length → ∃ e : Nat, i ≤ e ∧ e ≤ s.length ∧ sL3Run_L0 s (i : Nat) = some (e : Int) ∧ iReadToken_L0 s p1 y1 (i : Nat) = wordEnd s p1 y1 (e : Int) ∧
    (∀ h : i < s.length, partB s[i] = true → i < e) := by
  refine back_ind ?_ ?_
  · refine ⟨s.length, Nat.le_refl _, Nat.le_refl _, ?_, ?_, fun h => absurd h (Nat.lt_irrefl _)⟩
    · rw [sL3Run_L0]; simp
    · rw [iReadToken_L0]
      simp only [lt_dec, Nat.lt_irrefl, decide_false, Bool.true_and, Bool.false_eq_true, beq_iff_eq, reduceCtorEq, if_false, Option.bind_eq_bind, Option.bind_some]
      rfl
  · intro i hi ih
    obtain ⟨e, e1, e2, e3, e4, _⟩ := ih
    obtain ⟨b, f, l1, _, f1, _, p⟩ := part_eq (s[i].toNat : Int)
    have hp : partB s[i] = (b || f) := by unfold partB; rw [p]; rfl
    rw [sL3Run_L0, iReadToken_L0]
    simp only [lt_dec, hi, decide_true, idxS_at hi, l1, p, Bool.true_and, beq_self_eq_true, if_true, Option.bind_eq_bind, Option.bind_some, wrap_next hi (by omega)]
    cases b with
    | true =>
      simp only [Bool.true_or, beq_iff_eq, Bool.true_eq_false, if_false, if_true, Option.bind_some]
      exact ⟨e, by omega, e2, e3, e4, fun _ _ => by omega⟩
    | false =>
      simp only [Bool.false_or, beq_self_eq_true, if_true, Option.bind_some, f1, Bool.false_eq_true, if_false]
      cases f with
      | true => simp only [if_true]; exact ⟨e, by omega, e2, e3, e4, fun _ _ => by omega⟩
      | false => simp only [Bool.false_eq_true, if_false]; exact ⟨i, Nat.le_refl _, by omega, rfl, rfl, fun _ h => by rw [hp] at h; simp at h⟩
/-- what stands in quotes -/
theorem quoted_eq (s : List UInt8) (hs : s.length ≤ 1048576) (q : UInt8) : ∀ n i, s.length - i ≤ n → i ≤ s.length → ∀ a : List UInt8, a.length ≤ i →
    (iReadQuoted_L0 s (q.toNat : Int) (toBytes a) (i : Nat) = some ([], 0, false) ∧ sL3Quoted_L0 s (q.toNat : Int) (toBytes a) (i : Nat) = some ([], -1)) ∨
    ∃ (t : List UInt8) (m : Nat), i < m ∧ m ≤ s.length ∧ t.length ≤ s.length ∧ iReadQuoted_L0 s (q.toNat : Int) (toBytes a) (i : Nat) = some (t, (m : Int), true) ∧ sL3Quoted_L0 s (q.toNat : Int) (toBytes a) (i : Nat) = some (t, (m : Int)) := by
  have hend : ∀ a : List UInt8, iReadQuoted_L0 s (q.toNat : Int) (toBytes a) (s.length : Nat) = some ([], 0, false) ∧ sL3Quoted_L0 s (q.toNat : Int) (toBytes a) (s.length : Nat) = some ([], -1) := by
    intro a
    rw [iReadQuoted_L0, sL3Quoted_L0]
    simp
  intro n
  induction n with
  | zero =>
    intro i h1 h2 a _
    have : i = s.length := by omega
    subst this
    exact .inl (hend a)
  | succ n ih =>
    intro i h1 h2 a ha
    by_cases hi : i < s.length
    · have e1 : IntKind.wrap .i64 ((i : Int) + 1) = ((i + 1 : Nat) : Int) := wrap_next hi (by omega)
      have eq : decide ((s[i].toNat : Int) = (q.toNat : Int)) = decide (s[i] = q) := decide_eq_decide.2 ⟨fun h => UInt8.toNat_inj.1 (by omega), fun h => by rw [h]⟩
      rw [iReadQuoted_L0, sL3Quoted_L0]
      simp only [lt_dec, hi, decide_true, if_true, idxS_at hi, Option.bind_eq_bind, Option.bind_some, eq, e1]
      by_cases hq : s[i] = q
      · simp only [hq, decide_true, if_true, Bool.not_true, Bool.false_eq_true, if_false]
        by_cases hl : i + 1 = s.length
        · have c1 : decide (((i + 1 : Nat) : Int) = (s.length : Int)) = true := decide_eq_true (by omega)
          have c2 : decide ((s.length : Int) ≤ ((i + 1 : Nat) : Int)) = true := decide_eq_true (by omega)
          simp only [c1, c2, Bool.true_and, beq_iff_eq, Bool.true_eq_false, reduceCtorEq, if_false, if_true, Option.bind_some, ofBytes_toBytes]
          exact .inr ⟨a, i + 1, by omega, by omega, by omega, rfl, rfl⟩
        · have hi1 : i + 1 < s.length := by omega
          have c1 : decide (((i + 1 : Nat) : Int) = (s.length : Int)) = false := decide_eq_false (by omega)
          have c2 : decide ((s.length : Int) ≤ ((i + 1 : Nat) : Int)) = false := decide_eq_false (by omega)
          have eq2 : decide ((s[i + 1].toNat : Int) = (q.toNat : Int)) = decide (s[i + 1] = q) := decide_eq_decide.2 ⟨fun h => UInt8.toNat_inj.1 (by omega), fun h => by rw [h]⟩
          simp only [c1, c2, Bool.true_and, beq_self_eq_true, Bool.false_eq_true, if_false, if_true, Option.bind_some, idxS_at hi1, eq2]
          by_cases hq2 : s[i + 1] = q
          · simp only [hq2, decide_true, Bool.not_true, Bool.false_eq_true, if_false]
            rw [iReadQuoted_J1]
            simp only [idxS_at hi1, hq2, Option.bind_eq_bind, Option.bind_some]
            rw [appC _ q rfl (by omega)]
            simp only [Option.bind_some]
            rw [sL3Quoted_J1, wrap_next hi1 (by omega)]
            rcases ih (i + 1 + 1) (by omega) (by omega) (a ++ [q]) (by simp; omega) with h | ⟨t, m, h1, h2, h3, h4, h5⟩
            · exact .inl h
            · exact .inr ⟨t, m, by omega, h2, h3, h4, h5⟩
          · simp only [hq2, decide_false, Bool.not_false, if_true, ofBytes_toBytes, Option.bind_some]
            exact .inr ⟨a, i + 1, by omega, by omega, by omega, rfl, rfl⟩
      · simp only [hq, decide_false, Bool.false_eq_true, if_false, Bool.not_false, if_true]
        rw [iReadQuoted_J1]
        simp only [idxS_at hi, Option.bind_eq_bind, Option.bind_some]
        rw [appC _ s[i] rfl (by omega)]
        simp only [Option.bind_some]
        rw [sL3Quoted_J1, wrap_next hi (by omega)]
        rcases ih (i + 1) (by omega) (by omega) (a ++ [s[i]]) (by simp; omega) with h | ⟨t, m, h1, h2, h3, h4, h5⟩
        · exact .inl h
        · exact .inr ⟨t, m, by omega, h2, h3, h4, h5⟩
    · have : i = s.length := by omega
      subst this
      exact .inl (hend a)

/-! lex -/
theorem fin_s (p : Int) (e : Nat) (k : Int) (w : List UInt8) (hw : w.length ≤ 1048576) : sL3One_J0 p (e : Int) k w = some (if okT (GToken.mk k w p) = true then (GToken.mk k w p, (e : Int)) else (GToken.mk k w p, -1)) := by
  unfold sL3One_J0
  have c : decide ((e : Int) < 0) = false := decide_eq_false (by omega)
  rw [c]
  simp only [Bool.true_and, beq_self_eq_true, if_true, Bool.false_eq_true, if_false, (tokenOk_eq (GToken.mk k w p) hw).2, Option.bind_eq_bind, Option.bind_some]
  cases okT (GToken.mk k w p) <;> simp
/-- one token, both ways -/
def OneR (s : List UInt8) (i : Nat) (x : Option (GToken × Int × Bool)) (y : Option (GToken × Int)) : Prop :=
  (∃ (t : GToken) (e : Nat), i < e ∧ e ≤ s.length ∧ okT t = true ∧ t.text.length ≤ s.length ∧ x = some (t, (e : Int), true) ∧ y = some (t, (e : Int))) ∨ ∃ t e t', x = some (t, e, false) ∧ y = some (t', -1)
theorem one_fin {s : List UInt8} {i e : Nat} (k : Int) {w : List UInt8} (hs : s.length ≤ 1048576) (hw : w.length ≤ s.length) (h1 : i < e) (h2 : e ≤ s.length) : OneR s i (iReadToken_J1 (i : Int) (e : Int) k w) (sL3One_J0 (i : Int) (e : Int) k w) := by
  rw [fin_i _ _ _ _ (by omega), fin_s _ _ _ _ (by omega)]
  cases ho : okT (GToken.mk k w (i : Int)) with
  | true => exact .inl ⟨_, e, h1, h2, ho, hw, rfl, rfl⟩
  | false => exact .inr ⟨_, _, _, rfl, rfl⟩
theorem one_eq (s : List UInt8) (hs : s.length ≤ 1048576) {i : Nat} (hi : i < s.length) : OneR s i (iReadToken s (i : Int)) (sL3One s (i : Int)) := by
  obtain ⟨b, f, l1, _, f1, f2, p⟩ := part_eq (s[i].toNat : Int)
  obtain ⟨e, e1, e2, e3, e4, e5⟩ := run_eq s hs (i : Int) (s[i].toNat : Int) i (by omega)
  have hp : partB s[i] = (b || f) := by unfold partB; rw [p]; rfl
  have hsub := sub_two (s := s) (i := i) (j := e) e1 e2
  have hlen : ((s.drop i).take (e - i)).length ≤ s.length := by rw [List.length_take, List.length_drop]; omega
  generalize hw : (s.drop i).take (e - i) = w at hsub hlen
  unfold iReadToken sL3One sL3Run
  simp only [idxS_at hi, p, l1, f1, Option.bind_eq_bind, Option.bind_some]
  cases b with
  | true =>
    have hf := fig_of_letter _ l1
    rw [f1] at hf
    have hff : f = false := by simpa using hf
    subst hff
    have hlt := e5 hi (by rw [hp]; rfl)
    simp only [Bool.true_or, if_true, e3, e4, Option.bind_some, hsub]
    unfold wordEnd
    obtain ⟨k, k1, k2, k3, _, _⟩ := keyOf_eq w (by omega)
    simp only [hsub, f2, k1, k2, iFold_ok w (by omega), sFold_ok w (by omega), Option.bind_eq_bind, Option.bind_some, Bool.false_eq_true, if_false]
    by_cases hk : k = 0
    · rw [if_neg (by simp [hk]), if_neg (by rw [decide_eq_true_eq]; omega)]
      exact one_fin 2 hs hlen hlt e2
    · rw [if_pos (by simp [hk]), if_pos (decide_eq_true (by omega))]
      exact one_fin 1 hs (by simpa using hlen) hlt e2
  | false =>
    simp only [Bool.false_or, Bool.false_eq_true, if_false]
    cases f with
    | true =>
      have hlt := e5 hi (by rw [hp]; rfl)
      simp only [if_true, e3, e4, Option.bind_some, hsub]
      unfold wordEnd
      simp only [hsub, f2, Option.bind_eq_bind, Option.bind_some, if_true]
      exact one_fin 3 hs hlen hlt e2
    | false =>
      simp only [Bool.false_eq_true, if_false]
      have q34 : decide ((s[i].toNat : Int) = 34) = decide (s[i] = 34) := u8_eq s[i] 34 (by omega)
      have q39 : decide ((s[i].toNat : Int) = 39) = decide (s[i] = 39) := u8_eq s[i] 39 (by omega)
      rw [q34, q39]
      have hq : ∀ k : Int, OneR s i ((iReadQuoted s (i : Int)) >>= fun (y4 : (List UInt8) × Int × Bool) => if (!y4.2.2) = true then (some ((GToken.mk 0 [] 0), 0, false)) else iReadToken_J1 (i : Int) y4.2.1 k y4.1) ((sL3Quoted s (i : Int)) >>= fun (y12 : (List UInt8) × Int) => sL3One_J0 (i : Int) y12.2 k y12.1) := by
        intro k
        unfold iReadQuoted sL3Quoted
        simp only [idxS_at hi, Option.bind_eq_bind, Option.bind_some, wrap_next hi (by omega)]
        have hquo := quoted_eq s hs s[i] (s.length - (i + 1)) (i + 1) (Nat.le_refl _) (by omega) [] (by simp)
        have e0 : toBytes [] = ([] : List Int) := rfl
        rw [e0] at hquo
        rcases hquo with ⟨h1, h2⟩ | ⟨t, m, h1, h2, h3, h4, h5⟩
        · rw [h1, h2]
          refine .inr ⟨_, _, GToken.mk k [] (i : Int), rfl, ?_⟩
          simp only [Option.bind_some]
          unfold sL3One_J0
          rfl
        · rw [h4, h5]
          simp only [Option.bind_some, Bool.not_true, Bool.false_eq_true, if_false]
          exact one_fin k hs h3 (by omega) h2
      by_cases c34 : s[i] = 34
      · have c39 : ¬ s[i] = 39 := by rw [c34]; decide
        have d34 : decide (s[i] = 34) = true := decide_eq_true c34
        have d39 : decide (s[i] = 39) = false := decide_eq_false c39
        simp only [d34, d39, Bool.false_eq_true, if_false, if_true]
        exact hq 2
      by_cases c39 : s[i] = 39
      · have d34 : decide (s[i] = 34) = false := decide_eq_false c34
        have d39 : decide (s[i] = 39) = true := decide_eq_true c39
        simp only [d34, d39, Bool.false_eq_true, if_false, if_true]
        exact hq 4
      have d34 : decide (s[i] = 34) = false := decide_eq_false c34
      have d39 : decide (s[i] = 39) = false := decide_eq_false c39
      simp only [d34, d39, Bool.false_eq_true, if_false]
      have hsg : iSigns = some signsL := rfl
      rw [hsg]
      simp only [Option.bind_some]
      have hb := best_loop s hs i (by omega) 0 (Nat.zero_le _) []
      have hb' : iReadToken_L2 s (i : Int) signsL 0 [] = _ := hb
      rw [hb', List.drop_zero]
      have hd : s.drop i = s[i] :: s.drop (i + 1) := List.drop_eq_getElem_cons hi
      rw [hd, best_ans, ← hd]
      have e2' : IntKind.wrap .i64 ((i : Int) + 2) = ((i + 2 : Nat) : Int) := by rw [wrap_ok (by omega) (by omega)]; omega
      have e1' : IntKind.wrap .i64 ((i : Int) + 1) = ((i + 1 : Nat) : Int) := wrap_next hi (by omega)
      have one : sL3One_J1 s (i : Int) ((i + 1 : Nat) : Int) = sL3One_J0 (i : Int) ((i + 1 : Nat) : Int) 5 ((s.drop i).take 1) := by
        unfold sL3One_J1
        rw [sub_two (by omega) (by omega), show i + 1 - i = 1 by omega]; rfl
      have l1 : ((s.drop i).take 1).length = 1 := by rw [hd]; rfl
      have fail : ¬ (s.drop i).take 1 ∈ signsL → OneR s i (iReadToken_J1 (i : Int) (IntKind.wrap .i64 ((i : Int) + (([] : List UInt8).length : Int))) 5 []) (sL3One_J0 (i : Int) ((i + 1 : Nat) : Int) 5 ((s.drop i).take 1)) := by
        intro hno
        rw [fin_i _ _ _ _ (by simp), fin_s _ _ _ _ (by omega)]
        have o1 : okT (GToken.mk 5 [] (i : Int)) = false := by
          cases h : okT (GToken.mk 5 [] (i : Int)) with
          | false => rfl
          | true => exact absurd (okT_sign rfl h) (by show ¬ ([] : List UInt8) ∈ signsL; decide)
        have o2 : okT (GToken.mk 5 ((s.drop i).take 1) (i : Int)) = false := by
          cases h : okT (GToken.mk 5 ((s.drop i).take 1) (i : Int)) with
          | false => rfl
          | true => exact absurd (okT_sign rfl h) hno
        rw [o1, o2]
        exact .inr ⟨_, _, _, rfl, rfl⟩
      have short : ¬ (2 ≤ (s.drop i).length ∧ (s.drop i).take 2 ∈ signsL) → OneR s i (iReadToken_J1 (i : Int) (IntKind.wrap .i64 ((i : Int) + ((signAns (s.drop i)).length : Int))) 5 (signAns (s.drop i))) (sL3One_J1 s (i : Int) ((i + 1 : Nat) : Int)) := by
        intro hno
        rw [one]
        unfold signAns
        rw [if_neg hno]
        by_cases h1 : (s.drop i).take 1 ∈ signsL
        · rw [if_pos h1, l1]
          have : IntKind.wrap .i64 ((i : Int) + ((1 : Nat) : Int)) = ((i + 1 : Nat) : Int) := e1'
          rw [this]
          exact one_fin 5 hs (by omega) (by omega) (by omega)
        · rw [if_neg h1]
          exact fail h1
      rw [e2', e1']
      by_cases h2 : i + 2 ≤ s.length
      · have c : decide (((i + 2 : Nat) : Int) ≤ (s.length : Int)) = true := decide_eq_true (by omega)
        have hs2 : subl s (i : Int) ((i + 2 : Nat) : Int) = some ((s.drop i).take 2) := by
          have := sub_two (s := s) (i := i) (j := i + 2) (by omega) h2
          rw [show i + 2 - i = 2 by omega] at this
          exact this
        simp only [c, Bool.true_and, beq_self_eq_true, if_true, hs2, sSignOk_ok, Option.bind_some]
        by_cases hm : (s.drop i).take 2 ∈ signsL
        · rw [if_pos (decide_eq_true hm)]
          have hl : ((s.drop i).take 2).length = 2 := by rw [List.length_take, List.length_drop]; omega
          have ha : signAns (s.drop i) = (s.drop i).take 2 := by unfold signAns; rw [if_pos ⟨by rw [List.length_drop]; omega, hm⟩]
          have ht : sL3One_J1 s (i : Int) ((i + 2 : Nat) : Int) = sL3One_J0 (i : Int) ((i + 2 : Nat) : Int) 5 ((s.drop i).take 2) := by
            unfold sL3One_J1; rw [hs2]; rfl
          rw [ha, ht, hl]
          have : IntKind.wrap .i64 ((i : Int) + ((2 : Nat) : Int)) = ((i + 2 : Nat) : Int) := e2'
          rw [this]
          exact one_fin 5 hs (by omega) (by omega) h2
        · rw [if_neg (by rw [decide_eq_true_eq]; exact hm)]
          exact short fun h => hm h.2
      · have c : decide (((i + 2 : Nat) : Int) ≤ (s.length : Int)) = false := decide_eq_false (by omega)
        simp only [c, Bool.true_and, Bool.false_eq_true, beq_iff_eq, reduceCtorEq, if_false, Option.bind_some]
        refine short fun h => ?_
        have := h.1
        rw [List.length_drop] at this
        omega
theorem lex_loop (s : List UInt8) (hs : s.length ≤ 2000) : ∀ n i, s.length - i ≤ n → i ≤ s.length → ∀ acc : List GToken, acc.length ≤ i → (∀ x ∈ acc, okT x = true ∧ x.text.length ≤ 2000) →
    ∃ (l : List GToken) (b : Int), iLex_L0 s acc (i : Nat) = some (l, b) ∧ sLex_L0 s acc (i : Nat) = some (l, b) ∧ l.length ≤ 2000 ∧ (∀ x ∈ l, okT x = true ∧ x.text.length ≤ 2000) ∧ -1 ≤ b := by
  intro n
  induction n with
  | zero =>
    intro i h1 h2 acc ha hx
    have : i = s.length := by omega
    subst this
    refine ⟨acc, -1, ?_, ?_, by omega, hx, by omega⟩
    · rw [iLex_L0]
      have : iSkip s (s.length : Int) = some ((s.length : Int), true) := by unfold iSkip; rw [iSkip_L0]; simp
      rw [this]; simp
    · rw [sLex_L0]
      have : sL3Pass s (s.length : Int) = some (s.length : Int) := by unfold sL3Pass; rw [sL3Pass_L0]; simp
      rw [this]
      simp only [Option.bind_eq_bind, Option.bind_some]
      rw [if_neg (by rw [decide_eq_true_eq]; omega), if_pos (by simp)]
  | succ n ih =>
    intro i h1 h2 acc ha hx
    obtain ⟨m, ok, s1, s2, s3, s4⟩ := skip_eq s (by omega) (s.length - i) i (Nat.le_refl _) h2
    rw [iLex_L0, sLex_L0]
    unfold iSkip sL3Pass
    rw [s1, s4]
    simp only [Option.bind_eq_bind, Option.bind_some]
    cases ok with
    | false =>
      simp only [Bool.not_false, if_true, Bool.false_eq_true, if_false]
      rw [if_pos (decide_eq_true (by omega))]
      have e : IntKind.wrap .i64 (IntKind.wrap .i64 (0 - (-(m : Int) - 1)) - 1) = (m : Int) := by
        rw [wrap_ok (n := 0 - (-(m : Int) - 1)) (by omega) (by omega), wrap_ok (by omega) (by omega)]; omega
      rw [e]
      exact ⟨[], m, rfl, rfl, by simp, by simp, by omega⟩
    | true =>
      simp only [Bool.not_true, Bool.false_eq_true, if_false, if_true]
      rw [if_neg (show ¬ decide ((m : Int) < 0) = true by rw [decide_eq_true_eq]; omega)]
      by_cases hm : m = s.length
      · rw [if_pos (show decide ((m : Int) = (s.length : Int)) = true from decide_eq_true (by omega)), if_pos (show decide ((s.length : Int) ≤ (m : Int)) = true from decide_eq_true (by omega))]
        exact ⟨acc, -1, rfl, rfl, by omega, hx, by omega⟩
      · rw [if_neg (show ¬ decide ((m : Int) = (s.length : Int)) = true by rw [decide_eq_true_eq]; omega), if_neg (show ¬ decide ((s.length : Int) ≤ (m : Int)) = true by rw [decide_eq_true_eq]; omega)]
        have hlt : m < s.length := by omega
        rcases one_eq s (by omega) hlt with ⟨t, e, g1, g2, g3, g4, g5, g6⟩ | ⟨t, e, t', g1, g2⟩
        · rw [g5, g6]
          simp only [Option.bind_some, Bool.not_true, Bool.false_eq_true, if_false]
          rw [if_neg (show ¬ decide ((e : Int) < 0) = true by rw [decide_eq_true_eq]; omega)]
          have ap : appG 32 acc [t] = some (acc ++ [t]) := by unfold appG; rw [if_pos (by simp only [List.length_cons, List.length_nil]; omega)]
          rw [ap]
          simp only [Option.bind_some]
          refine ih e (by omega) g2 (acc ++ [t]) (by simp; omega) fun x hx' => ?_
          rcases List.mem_append.1 hx' with h | h
          · exact hx x h
          · rw [List.mem_singleton] at h; subst h; exact ⟨g3, by omega⟩
        · rw [g1, g2]
          simp only [Option.bind_some, Bool.not_false, if_true]
          rw [if_pos (show decide ((-1 : Int) < 0) = true from rfl)]
          exact ⟨[], m, rfl, rfl, by simp, by simp, by omega⟩
theorem lex_eq (s : List UInt8) (hs : s.length ≤ 1048576) : ∃ (l : List GToken) (b : Int), iLex s = some (l, b) ∧ sLex s = some (l, b) ∧ l.length ≤ 2000 ∧ (∀ x ∈ l, okT x = true ∧ x.text.length ≤ 40) ∧ -1 ≤ b := by
  unfold iLex sLex
  by_cases h : 2000 < s.length
  · rw [if_pos (decide_eq_true (by omega)), if_pos (decide_eq_true (by omega))]
    exact ⟨[], 2000, rfl, rfl, by simp, by simp, by omega⟩
  · rw [if_neg (by rw [decide_eq_true_eq]; omega), if_neg (by rw [decide_eq_true_eq]; omega)]
    obtain ⟨l, b, h1, h2, h3, h4, h5⟩ := lex_loop s (by omega) s.length 0 (by omega) (Nat.zero_le _) [] (by simp) (by simp)
    exact ⟨l, b, h1, h2, h3, fun x hx => ⟨(h4 x hx).1, okT_len (by have := (h4 x hx).2; omega) (h4 x hx).1⟩, h5⟩

/-! sqlen -/
/-- reading quotes back: where it ends -/
theorem quoted_inv {s : List UInt8} (q : UInt8) (hl : s.length ≤ 1048576) : ∀ n i, s.length - i ≤ n → i ≤ s.length → ∀ a r e, a.length ≤ i → iReadQuoted_L0 s (q.toNat : Int) (toBytes a) (i : Nat) = some (r, e, true) →
    ∃ (w : List UInt8) (m : Nat), r = a ++ w ∧ e = (m : Int) ∧ m = i + (dbl q w).length + 1 ∧ m ≤ s.length ∧ ∀ h : m < s.length, s[m] ≠ q := by
  intro n
  induction n with
  | zero =>
    intro i h1 h2 a r e _ h
    have : i = s.length := by omega
    subst this
    rw [iReadQuoted_L0] at h
    simp at h
  | succ n ih =>
    intro i h1 h2 a r e ha h
    by_cases hi : i < s.length
    · have e1 : IntKind.wrap .i64 ((i : Int) + 1) = ((i + 1 : Nat) : Int) := wrap_next hi (by omega)
      have eq : decide ((s[i].toNat : Int) = (q.toNat : Int)) = decide (s[i] = q) := decide_eq_decide.2 ⟨fun h => UInt8.toNat_inj.1 (by omega), fun h => by rw [h]⟩
      rw [iReadQuoted_L0] at h
      simp only [lt_dec, hi, decide_true, if_true, idxS_at hi, Option.bind_eq_bind, Option.bind_some, eq, e1] at h
      by_cases hq : s[i] = q
      · simp only [hq, decide_true, if_true] at h
        by_cases hl2 : i + 1 = s.length
        · have c1 : decide (((i + 1 : Nat) : Int) = (s.length : Int)) = true := decide_eq_true (by omega)
          simp only [c1, Bool.true_and, beq_iff_eq, Bool.true_eq_false, if_false, if_true, Option.bind_some, ofBytes_toBytes, Option.some.injEq, Prod.mk.injEq, and_true] at h
          obtain ⟨h3, h4⟩ := h
          exact ⟨[], i + 1, by simp [h3], h4.symm, by simp [dbl], by omega, fun h => absurd h (by omega)⟩
        · have hi1 : i + 1 < s.length := by omega
          have c1 : decide (((i + 1 : Nat) : Int) = (s.length : Int)) = false := decide_eq_false (by omega)
          have eq2 : decide ((s[i + 1].toNat : Int) = (q.toNat : Int)) = decide (s[i + 1] = q) := decide_eq_decide.2 ⟨fun h => UInt8.toNat_inj.1 (by omega), fun h => by rw [h]⟩
          simp only [c1, Bool.true_and, beq_self_eq_true, Bool.false_eq_true, if_false, if_true, Option.bind_some, idxS_at hi1, eq2] at h
          by_cases hq2 : s[i + 1] = q
          · simp only [hq2, decide_true, Bool.not_true, Bool.false_eq_true, if_false] at h
            rw [iReadQuoted_J1] at h
            simp only [idxS_at hi1, hq2, Option.bind_eq_bind, Option.bind_some] at h
            rw [appC _ q rfl (by omega)] at h
            simp only [Option.bind_some] at h
            rw [wrap_next hi1 (by omega)] at h
            obtain ⟨w, m, g1, g2, g3, g4, g5⟩ := ih (i + 1 + 1) (by omega) (by omega) (a ++ [q]) r e (by simp; omega) h
            refine ⟨q :: w, m, by rw [g1]; simp, g2, ?_, g4, g5⟩
            have : dbl q (q :: w) = q :: q :: dbl q w := by simp [dbl]
            rw [this, g3]; simp only [List.length_cons]; omega
          · simp only [hq2, decide_false, Bool.not_false, if_true, ofBytes_toBytes, Option.bind_some, Option.some.injEq, Prod.mk.injEq, and_true] at h
            obtain ⟨h3, h4⟩ := h
            exact ⟨[], i + 1, by simp [h3], h4.symm, by simp [dbl], by omega, fun _ => hq2⟩
      · simp only [hq, decide_false, Bool.false_eq_true, if_false] at h
        rw [iReadQuoted_J1] at h
        simp only [idxS_at hi, Option.bind_eq_bind, Option.bind_some] at h
        rw [appC _ s[i] rfl (by omega)] at h
        simp only [Option.bind_some] at h
        rw [wrap_next hi (by omega)] at h
        obtain ⟨w, m, g1, g2, g3, g4, g5⟩ := ih (i + 1) (by omega) (by omega) (a ++ [s[i]]) r e (by simp; omega) h
        refine ⟨s[i] :: w, m, by rw [g1]; simp, g2, ?_, g4, g5⟩
        have : dbl q (s[i] :: w) = s[i] :: dbl q w := by simp [dbl, hq]
        rw [this, g3]; simp only [List.length_cons]; omega
    · have : i = s.length := by omega
      subst this
      rw [iReadQuoted_L0] at h
      simp at h
/-- where a word ends -/
theorem run_inv {s : List UInt8} (hs : s.length ≤ 1048576) (p1 y1 : Int) : ∀ i, i ≤ s.length → ∃ e : Nat, i ≤ e ∧ e ≤ s.length ∧ iReadToken_L0 s p1 y1 (i : Nat) = wordEnd s p1 y1 (e : Int) ∧ (∀ h : e < s.length, partB s[e] = false) ∧
    (∀ h : i < s.length, partB s[i] = true → i < e) ∧ ∀ d ∈ (s.drop i).take (e - i), partB d = true := by
  refine back_ind ?_ ?_
  · refine ⟨s.length, Nat.le_refl _, Nat.le_refl _, ?_, fun h => absurd h (Nat.lt_irrefl _), fun h => absurd h (Nat.lt_irrefl _), fun d hd => by simp at hd⟩
    rw [iReadToken_L0]
    simp only [lt_dec, Nat.lt_irrefl, decide_false, Bool.true_and, Bool.false_eq_true, beq_iff_eq, reduceCtorEq, if_false, Option.bind_eq_bind, Option.bind_some]
    rfl
  · intro i hi ih
    obtain ⟨e, e1, e2, e3, e4, _, e6⟩ := ih
    rw [iReadToken_L0]
    simp only [lt_dec, hi, decide_true, idxS_at hi, part_is, Bool.true_and, beq_self_eq_true, if_true, Option.bind_eq_bind, Option.bind_some, wrap_next hi (by omega)]
    cases hp : partB s[i] with
    | true =>
      simp only [if_true]
      refine ⟨e, by omega, e2, e3, e4, fun _ _ => by omega, fun d hd => ?_⟩
      rw [List.drop_eq_getElem_cons hi, show e - i = (e - (i + 1)) + 1 by omega, List.take_succ_cons] at hd
      rcases List.mem_cons.1 hd with rfl | hd
      · exact hp
      · exact e6 d hd
    | false =>
      simp only [Bool.false_eq_true, if_false]
      exact ⟨i, Nat.le_refl _, by omega, rfl, fun _ => hp, fun _ h => absurd (hp.symm.trans h) (by decide), fun d hd => by simp at hd⟩
/-- what is known of a token that was read from m to e -/
def ReadR (s : List UInt8) (m e : Nat) (t : GToken) : Prop :=
  (iIsWord t = some true ∧ (tt t).length + m = e ∧ (∀ h : m < s.length, partB s[m] = true) ∧ ∀ h : e < s.length, partB s[e] = false) ∨
  (iIsWord t = some true ∧ (tt t).length + m + 2 ≤ e) ∨
  (iIsQuotedName t = some true ∧ iIsWord t = some false ∧ t.kind = 2 ∧ (tt t).length + m = e ∧ (∀ h : m < s.length, s[m] = 34) ∧ ∀ h : e < s.length, s[e] ≠ 34) ∨
  (t.kind = 4 ∧ (tt t).length + m = e ∧ (∀ h : m < s.length, s[m] = 39) ∧ ∀ h : e < s.length, s[e] ≠ 39) ∨
  (t.kind = 5 ∧ t.text ∈ signsL ∧ (tt t).length + m = e ∧ t.text = signAns (s.drop m))
theorem dbl_ge (q : UInt8) (w : List UInt8) : w.length ≤ (dbl q w).length := by
  induction w with
  | nil => simp
  | cons c w ih =>
    have : dbl q (c :: w) = (if c = q then [q, q] else [c]) ++ dbl q w := rfl
    rw [this, List.length_append, List.length_cons]
    split <;> simp <;> omega
theorem quote_len (q : UInt8) (w : List UInt8) : (quoteT q w).length = (dbl q w).length + 2 := by simp [quoteT]
theorem j1_inv {p e k : Int} {w : List UInt8} {t : GToken} {e' : Int} (hw : w.length ≤ 1048576) (h : iReadToken_J1 p e k w = some (t, e', true)) : t = GToken.mk k w p ∧ e' = e ∧ okT t = true := by
  rw [fin_i _ _ _ _ hw] at h
  simp only [Option.some.injEq, Prod.mk.injEq] at h
  obtain ⟨h1, h2, h3⟩ := h
  refine ⟨h1.symm, h2.symm, ?_⟩
  rw [← h1]; exact h3
theorem plain_loop_all (s : List UInt8) (hs : s.length ≤ 1048576) (h : ∀ d ∈ s, partB d = true) : ∀ i, i ≤ s.length → iPlainName_L0 s (i : Nat) = some true := by
  refine back_ind ?_ ?_
  · rw [iPlainName_L0]; simp
  · intro i hi ih
    rw [iPlainName_L0]
    simp only [lt_dec, hi, decide_true, if_true, idxS_at hi, part_is, h _ (List.getElem_mem hi), Option.bind_eq_bind, Option.bind_some, wrap_next hi (by omega), Bool.not_true, Bool.false_eq_true, if_false]
    exact ih
theorem plain_of {w : List UInt8} {c : UInt8} {r : List UInt8} (hw : w.length ≤ 1048576) (hc : w = c :: r) (hp : ∀ d ∈ w, partB d = true) (hd : iIsDigit (c.toNat : Int) = some false) (hk : iKeyOf w = some 0) (hn : sNameOk w = some true) : iPlainName w = some true := by
  have hi : idxS w 0 = some (c.toNat : Int) := by rw [hc]; rfl
  have hl := plain_loop_all w hw hp 0 (Nat.zero_le _)
  have hl' : iPlainName_L0 w 0 = some true := hl
  unfold iPlainName
  rw [(nameOk_eqT w).1, hn, hk, hi]
  simp [hd, hl']
theorem read_inv {s : List UInt8} (hs : s.length ≤ 1048576) {m : Nat} (hm : m < s.length) {t : GToken} {e : Int} (h : iReadToken s (m : Int) = some (t, e, true)) : ∃ n : Nat, e = (n : Int) ∧ ReadR s m n t := by
  unfold iReadToken at h
  simp only [idxS_at hm, part_is, Option.bind_eq_bind, Option.bind_some] at h
  by_cases hp : partB s[m] = true
  · rw [if_pos hp] at h
    obtain ⟨n, n1, n2, n3, n4, n5, n6⟩ := run_inv hs (m : Int) (s[m].toNat : Int) m (by omega)
    have hlt := n5 hm hp
    rw [n3] at h
    unfold wordEnd at h
    have hsub := sub_two (s := s) (i := m) (j := n) n1 n2
    have hlen : ((s.drop m).take (n - m)).length = n - m := by rw [List.length_take, List.length_drop]; omega
    have hhead : ∃ r, (s.drop m).take (n - m) = s[m] :: r := by
      rw [List.drop_eq_getElem_cons hm, show n - m = (n - m - 1) + 1 by omega, List.take_succ_cons]; exact ⟨_, rfl⟩
    obtain ⟨r0, hhead⟩ := hhead
    generalize hw : (s.drop m).take (n - m) = w at hsub hlen n6 hhead
    rw [hsub] at h
    simp only [Option.bind_eq_bind, Option.bind_some] at h
    have fin : ∀ k, (k = 1 ∨ k = 3 ∨ (k = 2 ∧ (sNameOk w = some true → iPlainName w = some true))) → ∀ w2 : List UInt8, w2.length = n - m → (k = 2 → w2 = w) → iReadToken_J1 (m : Int) (n : Int) k w2 = some (t, e, true) → ∃ n : Nat, e = (n : Int) ∧ ReadR s m n t := by
      intro k hk w2 hw2 hww h
      obtain ⟨rfl, rfl, ho⟩ := j1_inv (by omega) h
      refine ⟨n, rfl, ?_⟩
      have hlw : (GToken.mk k w2 (m : Int)).text.length ≤ 1048576 := by show w2.length ≤ _; omega
      rcases tok_cases _ hlw ho with ⟨_, ht, hwd, _⟩ | ⟨k2, ht, wd, qn⟩ | ⟨k4, _⟩ | ⟨k5, _⟩
      · left
        refine ⟨hwd, ?_, fun _ => hp, n4⟩
        rw [ht]; show w2.length + m = n; omega
      · exfalso
        have k2' : k = 2 := k2
        have hwe := hww k2'
        subst hwe
        rcases hk with rfl | rfl | ⟨_, hpl⟩
        · cases k2'
        · cases k2'
        · have hno : sNameOk w2 = some true := by
            have := (tokenOk_eq _ hlw).2
            rw [ho] at this
            unfold sTokenOk at this
            subst k2'
            obtain ⟨b, hb, _⟩ := (nameOk_eqT w2).2
            simp [hb] at this
            rw [hb, this]
          have := hpl hno
          unfold iIsQuotedName at qn
          subst k2'
          simp [this] at qn
      · have k4' : k = 4 := k4
        rcases hk with rfl | rfl | ⟨rfl, _⟩ <;> cases k4'
      · have k5' : k = 5 := k5
        rcases hk with rfl | rfl | ⟨rfl, _⟩ <;> cases k5'
    obtain ⟨_, f, _, _, _, e4, _⟩ := part_eq (s[m].toNat : Int)
    rw [e4] at h
    simp only [Option.bind_some] at h
    cases f with
    | true =>
      rw [if_pos rfl] at h
      exact fin 3 (.inr (.inl rfl)) w hlen (fun h => by cases h) h
    | false =>
      rw [if_neg (by simp)] at h
      obtain ⟨k, k1, _⟩ := keyOf_eq w (by omega)
      rw [k1] at h
      simp only [Option.bind_some] at h
      by_cases hk : k = 0
      · rw [if_neg (by simp [hk])] at h
        subst hk
        exact fin 2 (.inr (.inr ⟨rfl, fun hn => plain_of (by omega) hhead n6 e4 k1 hn⟩)) w hlen (fun _ => rfl) h
      · rw [if_pos (by simp [hk]), iFold_ok w (by omega)] at h
        simp only [Option.bind_some] at h
        exact fin 1 (.inl rfl) (w.map fb) (by simpa using hlen) (fun h => by cases h) h
  · rw [if_neg hp] at h
    have hpf : partB s[m] = false := by simpa using hp
    have q34 : decide ((s[m].toNat : Int) = 34) = decide (s[m] = 34) := u8_eq s[m] 34 (by omega)
    have q39 : decide ((s[m].toNat : Int) = 39) = decide (s[m] = 39) := u8_eq s[m] 39 (by omega)
    rw [q34, q39] at h
    have hq : ∀ q : UInt8, s[m] = q → (q = 34 ∨ q = 39) → ∀ k : Int, ((q = 34 ∧ k = 2) ∨ (q = 39 ∧ k = 4)) → ((iReadQuoted s (m : Int)) >>= fun (y4 : (List UInt8) × Int × Bool) => if (!y4.2.2) = true then (some ((GToken.mk 0 [] 0), 0, false)) else iReadToken_J1 (m : Int) y4.2.1 k y4.1) = some (t, e, true) → ∃ n : Nat, e = (n : Int) ∧ ReadR s m n t := by
      intro q hsq hq2 k hk h
      obtain ⟨y4, g1, g2⟩ := Option.bind_eq_some_iff.1 h
      obtain ⟨r, e0, b⟩ := y4
      cases b with
      | false => simp at g2
      | true =>
        simp only [Bool.not_true, Bool.false_eq_true, if_false] at g2
        unfold iReadQuoted at g1
        simp only [idxS_at hm, Option.bind_eq_bind, Option.bind_some, wrap_next hm (by omega), hsq] at g1
        have e0' : ([] : List Int) = toBytes [] := rfl
        rw [e0'] at g1
        obtain ⟨w, n, w1, w2, w3, w4, w5⟩ := quoted_inv q hs (s.length - (m + 1)) (m + 1) (Nat.le_refl _) (by omega) [] r e0 (by simp) g1
        rw [List.nil_append] at w1
        subst w1
        have hge := dbl_ge q r
        obtain ⟨rfl, rfl, ho⟩ := j1_inv (by omega) g2
        refine ⟨n, w2, ?_⟩
        have hlw : (GToken.mk k r (m : Int)).text.length ≤ 1048576 := by show r.length ≤ _; omega
        rcases tok_cases _ hlw ho with ⟨_, ht, hwd, k4, _⟩ | ⟨k2, ht, wd, qn⟩ | ⟨k4, ht, _⟩ | ⟨k5, _⟩
        · right; left
          refine ⟨hwd, ?_⟩
          rw [ht]; show r.length + m + 2 ≤ n; omega
        · right; right; left
          have : q = 34 := by
            rcases hk with ⟨h, _⟩ | ⟨_, h⟩
            · exact h
            · rw [h] at k2; cases k2
          subst this
          refine ⟨qn, wd, k2, ?_, fun _ => hsq, w5⟩
          rw [ht, quote_len]; show (dbl 34 r).length + 2 + m = n; omega
        · right; right; right; left
          have : q = 39 := by
            rcases hk with ⟨_, h⟩ | ⟨h, _⟩
            · rw [h] at k4; cases k4
            · exact h
          subst this
          refine ⟨k4, ?_, fun _ => hsq, w5⟩
          rw [ht, quote_len]; show (dbl 39 r).length + 2 + m = n; omega
        · exfalso
          rcases hk with ⟨_, h⟩ | ⟨_, h⟩
          · rw [h] at k5; cases k5
          · rw [h] at k5; cases k5
    by_cases c34 : s[m] = 34
    · have c39 : decide (s[m] = 39) = false := by rw [c34]; decide
      rw [decide_eq_true c34, c39] at h
      simp only [if_true, Bool.false_eq_true, if_false, Option.bind_some] at h
      exact hq 34 c34 (.inl rfl) 2 (.inl ⟨rfl, rfl⟩) h
    by_cases c39 : s[m] = 39
    · rw [decide_eq_false c34, decide_eq_true c39] at h
      simp only [if_true, Bool.false_eq_true, if_false, Option.bind_some] at h
      exact hq 39 c39 (.inr rfl) 4 (.inr ⟨rfl, rfl⟩) h
    rw [decide_eq_false c34, decide_eq_false c39] at h
    have hsg : iSigns = some signsL := rfl
    rw [hsg] at h
    simp only [Bool.false_eq_true, if_false, Option.bind_some] at h
    have hb := best_loop s hs m (by omega) 0 (Nat.zero_le _) []
    have hb' : iReadToken_L2 s (m : Int) signsL 0 [] = _ := hb
    rw [hb', List.drop_zero] at h
    have hd : s.drop m = s[m] :: s.drop (m + 1) := List.drop_eq_getElem_cons hm
    rw [hd, best_ans, ← hd] at h
    have hsl : (signAns (s.drop m)).length ≤ 2 := by
      unfold signAns
      split
      · rw [List.length_take]; omega
      · split
        · rw [List.length_take]; omega
        · simp
    obtain ⟨rfl, rfl, ho⟩ := j1_inv (by omega) h
    have hsm : signAns (s.drop m) ∈ signsL := okT_sign rfl ho
    refine ⟨m + (signAns (s.drop m)).length, ?_, ?_⟩
    · rw [wrap_ok (by omega) (by omega)]; omega
    · right; right; right; right
      refine ⟨rfl, hsm, ?_, rfl⟩
      have hlw : (GToken.mk 5 (signAns (s.drop m)) (m : Int)).text.length ≤ 1048576 := by show (signAns (s.drop m)).length ≤ _; omega
      rcases tok_cases _ hlw ho with ⟨_, _, _, _, _, k5⟩ | ⟨k2, _⟩ | ⟨k4, _⟩ | ⟨_, ht, _⟩
      · exact absurd rfl k5
      · cases k2
      · cases k4
      · rw [ht]; show (signAns (s.drop m)).length + m = _; omega

/-! sqlen2 -/
def lastT : List GToken → Option GToken
  | [] => none
  | [x] => some x
  | _ :: y :: l => lastT (y :: l)
theorem lastT_app (a : List GToken) (t : GToken) : lastT (a ++ [t]) = some t := by
  induction a with
  | nil => rfl
  | cons x a ih =>
    cases a with
    | nil => rfl
    | cons y a => exact ih
def g01 (p : Option GToken) (x : GToken) : Nat := match p with
  | some y => if gapN y x = true then 1 else 0
  | none => 0
/-- how long the joined texts are -/
def jl (p : Option GToken) : List GToken → Nat
  | [] => 0
  | x :: l => g01 p x + (tt x).length + jl (some x) l
def lastOr (p : Option GToken) (a : List GToken) : Option GToken := match lastT a with
  | some y => some y
  | none => p
theorem lastOr_cons (p : Option GToken) (x : GToken) (a : List GToken) : lastOr p (x :: a) = lastOr (some x) a := by
  cases a with
  | nil => rfl
  | cons y a =>
    have hl : ∀ (y : GToken) (a : List GToken), ∃ z, lastT (y :: a) = some z := by
      intro y a
      induction a generalizing y with
      | nil => exact ⟨y, rfl⟩
      | cons z a ih => exact ih z
    obtain ⟨z, hz⟩ := hl y a
    have hz2 : lastT (x :: y :: a) = some z := hz
    unfold lastOr
    rw [hz, hz2]
theorem jl_app (t : GToken) : ∀ (a : List GToken) (p : Option GToken), jl p (a ++ [t]) = jl p a + g01 (lastOr p a) t + (tt t).length
  | [], p => by simp [jl, lastOr, lastT]
  | x :: a, p => by
    have ih := jl_app t a (some x)
    rw [lastOr_cons, List.cons_append]
    simp only [jl]
    rw [ih]; omega
theorem joinF_jl : ∀ (l : List GToken) (p : Option GToken) (J : List UInt8), joinF gapN p l = some J → J.length = jl p l
  | [], _, J, h => by simp only [joinF, Option.some.injEq] at h; subst h; rfl
  | x :: l, p, J, h => by
    cases ho : okT x with
    | false => simp [joinF, ho] at h
    | true =>
      simp only [joinF, ho, if_true] at h
      obtain ⟨R, hR, hJ⟩ := Option.map_eq_some_iff.1 h
      have hlen := joinF_jl l _ R hR
      clear h
      subst hJ
      simp only [jl, List.length_append, hlen]
      congr 2
      cases p with
      | none => rfl
      | some y =>
        show (if gapN y x = true then [(32 : UInt8)] else []).length = if gapN y x = true then 1 else 0
        cases gapN y x <;> rfl
/-- the edge behind the last token -/
def Edge (s : List UInt8) (i : Nat) (acc : List GToken) : Prop := jl none acc + 1 ≤ i ∨ ∀ y, lastT acc = some y → ∀ h : i < s.length, HeadOk y s[i]
theorem sign_edge {s : List UInt8} {m e : Nat} {t : GToken} (hm : m < s.length) (h5 : t.kind = 5) (hsg : t.text ∈ signsL) (hwd : iIsWord t = some false) (hq : iIsQuotedName t = some false) (he : t.text.length + m = e) (hr : t.text = signAns (s.drop m))
    (hno : (s.drop m).take 2 ≠ [45, 45] ∧ (s.drop m).take 2 ≠ [47, 42]) (h : e < s.length) : HeadOk t s[e] := by
  refine ⟨fun hw => (by rw [hwd] at hw; simp at hw), fun hw => (by rw [hq] at hw; simp at hw), fun hk => (by rw [h5] at hk; cases hk), fun _ hl => ?_⟩
  obtain ⟨c, hc⟩ : ∃ c, t.text = [c] := List.length_eq_one_iff.1 hl
  have he1 : e = m + 1 := by omega
  subst he1
  have hd : s.drop m = s[m] :: s[m + 1] :: s.drop (m + 1 + 1) := by rw [List.drop_eq_getElem_cons hm, List.drop_eq_getElem_cons h]
  have ht2 : (s.drop m).take 2 = [s[m], s[m + 1]] := by rw [hd]; rfl
  rw [ht2] at hno
  have hlen : 2 ≤ (s.drop m).length := by rw [List.length_drop]; omega
  have hno2 : [s[m], s[m + 1]] ∉ signsL := by
    intro hm2
    unfold signAns at hr
    rw [ht2, if_pos ⟨hlen, hm2⟩] at hr
    rw [hc] at hr
    have := congrArg List.length hr
    simp at this
  have hcm : c = s[m] := by
    unfold signAns at hr
    rw [ht2, if_neg (fun h => hno2 h.2)] at hr
    have h1 : (s.drop m).take 1 = [s[m]] := by rw [hd]; rfl
    rw [h1] at hr
    split at hr
    · rw [hc] at hr; injection hr
    · rw [hc] at hr; simp at hr
  rw [hc, hcm]
  exact ⟨hno2, hno.1, hno.2⟩
theorem sign_pairs2 : ∀ w ∈ signsL, ∀ v ∈ signsL, signGap (GToken.mk 5 w 0) (GToken.mk 5 v 0) = some true → ∀ d r, v = d :: r → ¬ (w.length = 1 → w ++ [d] ∉ signsL ∧ w ++ [d] ≠ [45, 45] ∧ w ++ [d] ≠ [47, 42]) := by
  have h : (signsL.all fun w => signsL.all fun v => match v with
      | d :: _ => !decide (signGap (GToken.mk 5 w 0) (GToken.mk 5 v 0) = some true) || (decide (w.length = 1) && !(decide (w ++ [d] ∉ signsL) && decide (w ++ [d] ≠ [45, 45]) && decide (w ++ [d] ≠ [47, 42])))
      | [] => true) = true := by decide +kernel
  intro w hw v hv hg d r hd hall
  have := List.all_eq_true.1 (List.all_eq_true.1 h w hw) v hv
  subst hd
  simp only [hg, decide_true, Bool.not_true, Bool.false_or, Bool.and_eq_true, decide_eq_true_eq] at this
  obtain ⟨l1, l2⟩ := this
  obtain ⟨g1, g2, g3⟩ := hall l1
  rw [decide_eq_true g1, decide_eq_true g2, decide_eq_true g3] at l2
  simp at l2
theorem gap_save {y t : GToken} (hy : y.text.length ≤ 1048576) (hx : t.text.length ≤ 1048576) (oy : okT y = true) (ot : okT t = true) {s : List UInt8} {m e : Nat} (hm : m < s.length) (hR : ReadR s m e t) (hh : HeadOk y s[m]) (hg : gapN y t = true) : (tt t).length + m + 2 ≤ e := by
  obtain ⟨wa, qa, a1, _, a3, _⟩ := word_eq y hy
  obtain ⟨wb, qb, b1, _, b3, _⟩ := word_eq t hx
  have hform := iGap_form y t (tokenOk_eq y hy).1 (tokenOk_eq t hx).1 a1 b1 a3 b3
  rw [(needsGap_eq y t hy hx).1, hg, if_pos ⟨oy, ot⟩] at hform
  have hcond : wa = true ∧ wb = true ∨ qa = true ∧ qb = true ∨ y.kind = 4 ∧ t.kind = 4 ∨ signGap y t = some true := by
    by_cases hc : (wa && wb || (qa && qb) || (decide (y.kind = 4) && decide (t.kind = 4))) = true
    · simp only [Bool.or_eq_true, Bool.and_eq_true, decide_eq_true_eq] at hc
      rcases hc with (h | h) | h
      · exact .inl h
      · exact .inr (.inl h)
      · exact .inr (.inr (.inl h))
    · rw [if_neg hc] at hform
      exact .inr (.inr (.inr hform.symm))
  obtain ⟨h1, h2, h3, h4⟩ := hh
  have sg5 : signGap y t = some true → y.kind = 5 ∧ t.kind = 5 := by
    intro h
    unfold signGap at h
    by_cases k1 : y.kind = 5
    · by_cases k2 : t.kind = 5
      · exact ⟨k1, k2⟩
      · simp [k1, k2] at h
    · simp [k1] at h
  rcases hR with ⟨rw1, _, rp, _⟩ | ⟨_, hlen⟩ | ⟨rq, rw1, rk, _, r34, _⟩ | ⟨rk, _, r39, _⟩ | ⟨rk, rs, rl, ra⟩
  · exfalso
    have hp := rp hm
    rcases hcond with ⟨w1, _⟩ | ⟨_, q1⟩ | ⟨_, k⟩ | hsg
    · subst w1
      have := h1 a1
      rw [hp] at this; cases this
    · subst q1
      rcases tok_cases t hx ot with ⟨_, _, _, q, _⟩ | ⟨_, _, w, _⟩ | ⟨_, _, w, _⟩ | ⟨_, _, _, w, _⟩
      · rw [b3] at q; cases q
      · rw [rw1] at w; cases w
      · rw [rw1] at w; cases w
      · rw [rw1] at w; cases w
    · rcases tok_cases t hx ot with ⟨_, _, _, _, k4, _⟩ | ⟨_, _, w, _⟩ | ⟨_, _, w, _⟩ | ⟨_, _, _, w, _⟩
      · exact k4 k
      · rw [rw1] at w; cases w
      · rw [rw1] at w; cases w
      · rw [rw1] at w; cases w
    · rcases tok_cases t hx ot with ⟨_, _, _, _, _, k5⟩ | ⟨_, _, w, _⟩ | ⟨_, _, w, _⟩ | ⟨_, _, _, w, _⟩
      · exact k5 (sg5 hsg).2
      · rw [rw1] at w; cases w
      · rw [rw1] at w; cases w
      · rw [rw1] at w; cases w
  · exact hlen
  · exfalso
    rcases hcond with ⟨_, w1⟩ | ⟨q1, _⟩ | ⟨_, k⟩ | hsg
    · subst w1; rw [b1] at rw1; cases rw1
    · subst q1; exact h2 a3 (r34 hm)
    · rw [rk] at k; cases k
    · have := (sg5 hsg).2; rw [rk] at this; cases this
  · exfalso
    rcases tok_cases t hx ot with ⟨_, _, _, _, k4, _⟩ | ⟨k2, _⟩ | ⟨_, _, w, q⟩ | ⟨k5, _⟩
    · exact k4 rk
    · rw [rk] at k2; cases k2
    · rcases hcond with ⟨_, w1⟩ | ⟨_, q1⟩ | ⟨k, _⟩ | hsg
      · subst w1; rw [b1] at w; cases w
      · subst q1; rw [b3] at q; cases q
      · exact h3 k (r39 hm)
      · have := (sg5 hsg).2; rw [rk] at this; cases this
    · rw [rk] at k5; cases k5
  · exfalso
    rcases tok_cases t hx ot with ⟨_, _, _, _, _, k5⟩ | ⟨k2, _⟩ | ⟨k4, _⟩ | ⟨_, _, _, w, q⟩
    · exact k5 rk
    · rw [rk] at k2; cases k2
    · rw [rk] at k4; cases k4
    · rcases hcond with ⟨_, w1⟩ | ⟨_, q1⟩ | ⟨_, k⟩ | hsg
      · subst w1; rw [b1] at w; cases w
      · subst q1; rw [b3] at q; cases q
      · rw [rk] at k; cases k
      · obtain ⟨k5, _⟩ := sg5 hsg
        have hys := okT_sign k5 oy
        rw [signGap_at y t k5 rk] at hsg
        have htake : t.text = s[m] :: (t.text.drop 1) := by
          rw [ra]
          have hd : s.drop m = s[m] :: s.drop (m + 1) := List.drop_eq_getElem_cons hm
          unfold signAns
          rw [ra] at rs
          unfold signAns at rs
          split at rs
          · rw [if_pos (by assumption), hd]; rfl
          · rename_i hn
            rw [if_neg hn]
            split at rs
            · rw [if_pos (by assumption), hd]; rfl
            · exact absurd rs (by decide)
        exact sign_pairs2 y.text hys t.text rs hsg s[m] _ htake (h4 k5)

/-! FnSqueeze -/
theorem iSkip_stop (s : List UInt8) (hs : s.length ≤ 1048576) : ∀ n i, s.length - i ≤ n → i ≤ s.length → ∀ m : Nat, iSkip_L0 s (i : Nat) = some ((m : Int), true) → m < s.length → (s.drop m).take 2 ≠ [45, 45] ∧ (s.drop m).take 2 ≠ [47, 42] := by
  intro n
  induction n with
  | zero =>
    intro i h1 h2 m h hm
    have : i = s.length := by omega
    subst this
    rw [iSkip_L0] at h
    simp at h
    omega
  | succ n ih =>
    intro i h1 h2 m h hm
    by_cases hi : i < s.length
    · have hrest := sub_rest (s := s) (i := i) (by omega)
      rw [iSkip_L0] at h
      have ew : gStrings_IndexByte [32, 9, 10, 13] (s[i].toNat : Int) = some (Lib.indexByte [32, 9, 10, 13] s[i]) := by unfold gStrings_IndexByte; rw [byte_back]
      have p1' : gStrings_HasPrefix (s.drop i) [45, 45] = some (decide ((s.drop i).take 2 = [45, 45])) := prefix_ok (s.drop i) [45, 45]
      have p2' : gStrings_HasPrefix (s.drop i) [47, 42] = some (decide ((s.drop i).take 2 = [47, 42])) := prefix_ok (s.drop i) [47, 42]
      simp only [lt_dec, hi, decide_true, if_true, hrest, idxS_at hi, ew, p1', p2', white_index, Option.bind_eq_bind, Option.bind_some, wrap_next hi (by omega)] at h
      by_cases hw : white s[i] = true
      · rw [if_pos hw] at h
        exact ih (i + 1) (by omega) (by omega) m h hm
      rw [if_neg hw] at h
      by_cases hl : (s.drop i).take 2 = [45, 45]
      · rw [if_pos (decide_eq_true hl)] at h
        have eb : gStrings_IndexByte (s.drop i) 10 = some (Lib.indexByte (s.drop i) 10) := rfl
        rw [eb] at h
        simp only [Option.bind_some] at h
        have hge := indexByte_ge 10 (s.drop i)
        by_cases hn : Lib.indexByte (s.drop i) 10 < 0
        · rw [if_pos (decide_eq_true hn)] at h
          simp only [Option.some.injEq, Prod.mk.injEq, and_true] at h
          omega
        · rw [if_neg (by rw [decide_eq_true_eq]; exact hn)] at h
          obtain ⟨o, ho⟩ : ∃ o : Nat, Lib.indexByte (s.drop i) 10 = o := ⟨(Lib.indexByte (s.drop i) 10).toNat, by omega⟩
          obtain ⟨q1, _⟩ := Lib.indexByte_some ho
          rw [List.getElem?_drop] at q1
          have hlt : i + o < s.length := (List.getElem?_eq_some_iff.1 q1).1
          have e1 : IntKind.wrap .i64 ((o : Int) + 1) = ((o + 1 : Nat) : Int) := by rw [wrap_ok (by omega) (by omega)]; omega
          have e2 : IntKind.wrap .i64 ((i : Int) + ((o + 1 : Nat) : Int)) = ((i + o + 1 : Nat) : Int) := by rw [wrap_ok (by omega) (by omega)]; omega
          rw [ho, e1, e2] at h
          exact ih (i + o + 1) (by omega) (by omega) m h hm
      rw [if_neg (by rw [decide_eq_true_eq]; exact hl)] at h
      by_cases hc : (s.drop i).take 2 = [47, 42]
      · rw [if_pos (decide_eq_true hc)] at h
        have hl2 : 2 ≤ s.length - i := by
          have := congrArg List.length hc
          rw [List.length_take, List.length_drop] at this
          simp only [List.length_cons, List.length_nil] at this
          omega
        have hsub : subl (s.drop i) 2 ((s.drop i).length : Int) = some (s.drop (i + 2)) := by
          have := sub_rest (s := s.drop i) (i := 2) (by rw [List.length_drop]; omega)
          rw [List.drop_drop] at this
          exact this
        have hidx : gStrings_Index (s.drop (i + 2)) [42, 47] = some (Lib.index (s.drop (i + 2)) [42, 47]) := by
          unfold gStrings_Index indexG; rw [if_pos (by rw [List.length_drop]; omega)]
        rw [hsub] at h
        simp only [Option.bind_some] at h
        rw [hidx] at h
        simp only [Option.bind_some] at h
        rcases index_room (s.drop (i + 2)) with hr | ⟨hr1, hr2⟩
        · rw [hr, if_pos (decide_eq_true (show (-1 : Int) < 0 by omega))] at h
          simp at h
        · rw [if_neg (by rw [decide_eq_true_eq]; omega)] at h
          obtain ⟨o, ho⟩ : ∃ o : Nat, Lib.index (s.drop (i + 2)) [42, 47] = o := ⟨(Lib.index (s.drop (i + 2)) [42, 47]).toNat, by omega⟩
          rw [ho, Int.toNat_natCast] at hr2
          rw [List.length_drop] at hr2
          have e1 : IntKind.wrap .i64 ((o : Int) + 4) = ((o + 4 : Nat) : Int) := by rw [wrap_ok (by omega) (by omega)]; omega
          have e2 : IntKind.wrap .i64 ((i : Int) + ((o + 4 : Nat) : Int)) = ((i + o + 4 : Nat) : Int) := by rw [wrap_ok (by omega) (by omega)]; omega
          rw [ho, e1, e2] at h
          exact ih (i + o + 4) (by omega) (by omega) m h hm
      · rw [if_neg (by rw [decide_eq_true_eq]; exact hc)] at h
        simp only [Option.some.injEq, Prod.mk.injEq, and_true] at h
        have : m = i := by omega
        subst this
        exact ⟨hl, hc⟩
    · have : i = s.length := by omega
      subst this
      rw [iSkip_L0] at h
      simp at h
      omega
theorem iSkip_inv (s : List UInt8) (hs : s.length ≤ 1048576) {i m : Nat} (hi : i ≤ s.length) (h : iSkip_L0 s (i : Nat) = some ((m : Int), true)) (hm : m < s.length) : (s.drop m).take 2 ≠ [45, 45] ∧ (s.drop m).take 2 ≠ [47, 42] :=
  iSkip_stop s hs (s.length - i) i (Nat.le_refl _) hi m h hm
/-- what was lexed is no longer when it is joined -/
theorem lex_len (s : List UInt8) (hs : s.length ≤ 2000) : ∀ n i, s.length - i ≤ n → i ≤ s.length → ∀ acc l : List GToken, (∀ x ∈ acc, okT x = true ∧ x.text.length ≤ 2000) → jl none acc ≤ i → Edge s i acc → acc.length ≤ i →
    iLex_L0 s acc (i : Nat) = some (l, -1) → jl none l ≤ s.length := by
  intro n
  induction n with
  | zero =>
    intro i h1 h2 acc l _ hj _ _ h
    have : i = s.length := by omega
    subst this
    rw [iLex_L0] at h
    have hk : iSkip s (s.length : Int) = some ((s.length : Int), true) := by unfold iSkip; rw [iSkip_L0]; simp
    rw [hk] at h
    simp at h
    rw [← h]; exact hj
  | succ n ih =>
    intro i h1 h2 acc l hall hj hedge hacc h
    obtain ⟨m, ok, s1, s2, s3, _⟩ := skip_eq s (by omega) (s.length - i) i (Nat.le_refl _) h2
    rw [iLex_L0] at h
    unfold iSkip at h
    rw [s1] at h
    simp only [Option.bind_eq_bind, Option.bind_some] at h
    cases ok with
    | false =>
      simp only [Bool.not_false, if_true, Option.some.injEq, Prod.mk.injEq] at h
      omega
    | true =>
      simp only [Bool.not_true, Bool.false_eq_true, if_false] at h
      by_cases hm : m = s.length
      · rw [if_pos (decide_eq_true (by omega))] at h
        simp only [Option.some.injEq, Prod.mk.injEq, and_true] at h
        rw [← h]; omega
      · rw [if_neg (by rw [decide_eq_true_eq]; omega)] at h
        have hlt : m < s.length := by omega
        have hno := iSkip_inv s (by omega) h2 s1 hlt
        rcases one_eq s (by omega) hlt with ⟨t, e, g1, g2, g3, g4, g5, _⟩ | ⟨t, e, t', g1, _⟩
        · rw [g5] at h
          simp only [Option.bind_some, Bool.not_true, Bool.false_eq_true, if_false] at h
          have ap : appG 32 acc [t] = some (acc ++ [t]) := by unfold appG; rw [if_pos (by simp only [List.length_cons, List.length_nil]; omega)]
          rw [ap] at h
          simp only [Option.bind_some] at h
          obtain ⟨e2, he2, hR⟩ := read_inv (by omega) hlt g5
          have hee : e2 = e := by omega
          subst hee
          have htl : t.text.length ≤ 1048576 := by omega
          have hall' : ∀ x ∈ acc ++ [t], okT x = true ∧ x.text.length ≤ 2000 := fun x hx' => by
            rcases List.mem_append.1 hx' with h | h
            · exact hall x h
            · rw [List.mem_singleton] at h; subst h; exact ⟨g3, by omega⟩
          have hlo : lastOr none acc = lastT acc := by unfold lastOr; cases lastT acc <;> rfl
          have hja := jl_app t acc none
          rw [hlo] at hja
          have hg1 : g01 (lastT acc) t ≤ 1 := by
            unfold g01; split
            · split <;> omega
            · omega
          have hspan : (tt t).length + m ≤ e2 := by
            rcases hR with ⟨_, h, _⟩ | ⟨_, h⟩ | ⟨_, _, _, h, _⟩ | ⟨_, h, _⟩ | ⟨_, _, h, _⟩ <;> omega
          have hlast : ∀ y, lastT acc = some y → y ∈ acc := by
            have : ∀ (a : List GToken) y, lastT a = some y → y ∈ a := by
              intro a
              induction a with
              | nil => intro y h; simp [lastT] at h
              | cons x a ih =>
                intro y h
                cases a with
                | nil => simp [lastT] at h; subst h; exact List.mem_cons_self
                | cons z a => exact List.mem_cons_of_mem _ (ih y h)
            exact this acc
          have hj2 : jl none acc + g01 (lastT acc) t + (tt t).length ≤ e2 := by
            by_cases hmi : m = i
            · subst hmi
              rcases hedge with hE | hE
              · omega
              · cases hla : lastT acc with
                | none => simp only [g01]; omega
                | some y =>
                  cases hgp : gapN y t with
                  | false => simp only [g01, hgp]; simp; omega
                  | true =>
                    obtain ⟨oy, hy⟩ := hall y (hlast y hla)
                    have := gap_save (by omega) htl oy g3 hlt hR (hE y hla hlt) hgp
                    simp only [g01, hgp, if_true]; omega
            · omega
          have hedge2 : Edge s e2 (acc ++ [t]) := by
            unfold Edge
            rw [hja]
            have head : (∀ h : e2 < s.length, HeadOk t s[e2]) → (jl none acc + g01 (lastT acc) t + (tt t).length + 1 ≤ e2 ∨ ∀ y, lastT (acc ++ [t]) = some y → ∀ h : e2 < s.length, HeadOk y s[e2]) := by
              intro hh
              refine .inr fun y hy h => ?_
              rw [lastT_app] at hy
              injection hy with hy
              subst hy
              exact hh h
            have hR' := hR
            rcases hR with ⟨w1, r2, _, r4⟩ | ⟨_, r2⟩ | ⟨q1, w1, k2, r2, _, r4⟩ | ⟨k4, r2, _, r4⟩ | ⟨k5, rs, r2, ra⟩
            · refine head fun h => ⟨fun _ => r4 h, fun q => ?_, fun k => ?_, fun k => ?_⟩
              all_goals
                rcases tok_cases t htl g3 with ⟨_, _, _, q2, k4, k5⟩ | ⟨_, _, w, _⟩ | ⟨_, _, w, _⟩ | ⟨_, _, _, w, _⟩
                · first | (rw [q2] at q; cases q) | exact absurd k k4 | exact absurd k k5
                all_goals (rw [w1] at w; cases w)
            · left; omega
            · refine head fun h => ⟨fun w => ?_, fun _ => r4 h, fun k => ?_, fun k => ?_⟩
              · rw [w1] at w; cases w
              · rw [k2] at k; cases k
              · rw [k2] at k; cases k
            · rcases tok_cases t htl g3 with ⟨_, _, _, _, k, _⟩ | ⟨k2, _⟩ | ⟨_, _, w, q⟩ | ⟨k5, _⟩
              · exact absurd k4 k
              · rw [k4] at k2; cases k2
              · refine head fun h => ⟨fun w' => ?_, fun q' => ?_, fun _ => r4 h, fun k => ?_⟩
                · rw [w] at w'; cases w'
                · rw [q] at q'; cases q'
                · rw [k4] at k; cases k
              · rw [k4] at k5; cases k5
            · rcases tok_cases t htl g3 with ⟨_, _, _, _, _, k⟩ | ⟨k2, _⟩ | ⟨k4, _⟩ | ⟨_, ht, _, w, q⟩
              · exact absurd k5 k
              · rw [k5] at k2; cases k2
              · rw [k5] at k4; cases k4
              · exact head fun h => sign_edge hlt k5 rs w q (by rw [← ht]; exact r2) ra hno h
          exact ih e2 (by omega) g2 (acc ++ [t]) l hall' (by rw [hja]; exact hj2) hedge2 (by simp; omega) h
        · rw [g1] at h
          simp only [Option.bind_some, Bool.not_false, if_true, Option.some.injEq, Prod.mk.injEq] at h
          omega
theorem gapN_key (a b c d : GToken) (h1 : keyT a = keyT c) (h2 : keyT b = keyT d) : gapN a b = gapN c d := by
  obtain ⟨ka, ta, pa⟩ := a
  obtain ⟨kb, tb, pb⟩ := b
  obtain ⟨kc, tc, pc⟩ := c
  obtain ⟨kd, td, pd⟩ := d
  simp only [keyT, Prod.mk.injEq] at h1 h2
  obtain ⟨rfl, rfl⟩ := h1
  obtain ⟨rfl, rfl⟩ := h2
  rfl
theorem tt_key (a c : GToken) (h1 : keyT a = keyT c) : tt a = tt c ∧ okT a = okT c := by
  obtain ⟨ka, ta, pa⟩ := a
  obtain ⟨kc, tc, pc⟩ := c
  simp only [keyT, Prod.mk.injEq] at h1
  obtain ⟨rfl, rfl⟩ := h1
  exact ⟨rfl, rfl⟩
theorem joinF_key : ∀ (l m : List GToken) (p q : Option GToken), p.map keyT = q.map keyT → l.map keyT = m.map keyT → joinF gapN p l = joinF gapN q m
  | [], [], _, _, _, _ => rfl
  | [], _ :: _, _, _, _, h => by simp at h
  | _ :: _, [], _, _, _, h => by simp at h
  | x :: l, y :: m, p, q, hp, h => by
    simp only [List.map_cons, List.cons.injEq] at h
    obtain ⟨h1, h2⟩ := h
    obtain ⟨e1, e2⟩ := tt_key x y h1
    have ih := joinF_key l m (some x) (some y) (by simp [h1]) h2
    simp only [joinF]
    rw [e1, e2, ih]
    cases p with
    | none =>
      cases q with
      | none => rfl
      | some b => simp at hp
    | some a =>
      cases q with
      | none => simp at hp
      | some b =>
        have hab : keyT a = keyT b := by simpa using hp
        simp only [gapN_key a x b y hab h1]
theorem lex_nil : iLex [] = some ([], -1) := by
  unfold iLex
  rw [if_neg (by decide), iLex_L0]
  unfold iSkip
  have : iSkip_L0 [] 0 = some (0, true) := iSkip_end []
  rw [this]; rfl
theorem sum_text {l : List GToken} (h : ∀ x ∈ l, okT x = true ∧ x.text.length ≤ 40) : (l.map fun x => x.text.length).sum ≤ 40 * l.length := by
  induction l with
  | nil => simp
  | cons x l ih =>
    have h1 := (h x List.mem_cons_self).2
    have h2 := ih fun y hy => h y (List.mem_cons_of_mem _ hy)
    simp only [List.map_cons, List.sum_cons, List.length_cons]; omega
/-- squeezed twice is squeezed once, and no longer -/
theorem squeeze_all (s : List UInt8) (hs : s.length ≤ 1048576) : ∃ (t : List UInt8) (b : Int), iSqueeze s = some (t, b) ∧ sSqueeze s = some (t, b) ∧ (0 ≤ b → t = []) ∧ (b < 0 → iSqueeze t = some (t, -1) ∧ t.length ≤ s.length) := by
  obtain ⟨l, b, h1, h2, h3, h4, h5⟩ := lex_eq s hs
  by_cases hb : 0 ≤ b
  · refine ⟨[], b, ?_, ?_, fun _ => rfl, fun h => by omega⟩
    · unfold iSqueeze; rw [h1]; simp [hb]
    · unfold sSqueeze; rw [h2]; simp [hb]
  · have hsum := sum_text h4
    obtain ⟨g1, g2⟩ := spaced_eq l (by omega) (by omega)
    have hd : decide (0 ≤ b) = false := decide_eq_false hb
    refine ⟨joinT gapN l, -1, ?_, ?_, fun h => absurd h (by decide), fun _ => ?_⟩
    · unfold iSqueeze; rw [h1]; simp only [hd, Option.bind_eq_bind, Option.bind_some, Bool.false_eq_true, if_false, g1]
    · unfold sSqueeze; rw [h2]; simp only [hd, Option.bind_eq_bind, Option.bind_some, Bool.false_eq_true, if_false, g2]
    · have hb1 : b = -1 := by omega
      subst hb1
      have h2000 : s.length ≤ 2000 := by
        by_cases h : 2000 < s.length
        · unfold iLex at h1
          rw [if_pos (decide_eq_true (by omega))] at h1
          simp at h1
        · omega
      have hL : iLex_L0 s [] 0 = some (l, -1) := by
        unfold iLex at h1
        rw [if_neg (by rw [decide_eq_true_eq]; omega)] at h1
        exact h1
      have hjl := lex_len s h2000 s.length 0 (by omega) (Nat.zero_le _) [] l (by simp) (by simp [jl]) (.inr fun y hy => by simp [lastT] at hy) (by simp) hL
      obtain ⟨J, hJ⟩ : ∃ J, joinF gapN none l = some J := by
        have : ∀ (l : List GToken) (p : Option GToken), (∀ x ∈ l, okT x = true) → ∃ J, joinF gapN p l = some J := by
          intro l
          induction l with
          | nil => exact fun p _ => ⟨[], rfl⟩
          | cons x l ih =>
            intro p h
            obtain ⟨J, hJ⟩ := ih (some x) fun y hy => h y (List.mem_cons_of_mem _ hy)
            simp only [joinF, h x List.mem_cons_self, if_true, hJ]
            exact ⟨_, rfl⟩
        exact this l none fun x hx => (h4 x hx).1
      have hlen := joinF_jl l none J hJ
      have hJt : joinT gapN l = J := by
        unfold joinT; rw [hJ]; simp only [joinEnd, List.nil_append]; rw [if_neg (by omega)]
      rw [hJt]
      refine ⟨?_, by omega⟩
      obtain ⟨l', r1, r2⟩ := relex gapN (fun _ _ h => h) (s := J) (by omega) l none [] J [] (fun x hx => ⟨(h4 x hx).1, by have := (h4 x hx).2; omega⟩) hJ rfl (by simp)
      have hlex : iLex J = some (l', -1) := by
        unfold iLex
        rw [if_neg (by rw [decide_eq_true_eq]; omega)]
        simpa using r1
      have hmem : ∀ x ∈ l', okT x = true ∧ x.text.length ≤ 40 := by
        intro x hx
        have : keyT x ∈ l.map keyT := by rw [← r2]; exact List.mem_map_of_mem hx
        obtain ⟨y, hy, hk⟩ := List.mem_map.1 this
        obtain ⟨o, hl⟩ := h4 y hy
        refine ⟨by rw [← (tt_key y x hk).2]; exact o, ?_⟩
        have : y.text = x.text := congrArg Prod.snd hk
        rw [← this]; exact hl
      have hsum' := sum_text hmem
      have hll : l'.length = l.length := by simpa using congrArg List.length r2
      obtain ⟨g3, _⟩ := spaced_eq l' (by omega) (by omega)
      have hjk := joinF_key l' l none none rfl r2
      have hJ2 : joinT gapN l' = J := by unfold joinT; rw [hjk]; exact hJt
      unfold iSqueeze
      rw [hlex]
      have hd2 : decide ((0 : Int) ≤ -1) = false := rfl
      simp only [hd2, Option.bind_eq_bind, Option.bind_some, Bool.false_eq_true, if_false, g3, hJ2]
/-! the draw -/
theorem cat_y {a b : List UInt8} (h : a.length + b.length ≤ 1073741824) : Yes (catS a b) fun r => r = a ++ b := ⟨_, catS_ok h, rfl⟩
theorem tokText_y (x : GToken) (h : x.text.length ≤ 50) : Yes (sTokenText x) fun r => r.length ≤ 200 := by
  obtain ⟨_, h2, h3⟩ := tokenText_eq x (by omega)
  exact ⟨_, h2, by omega⟩
theorem longE_y (y : Bool × GL1Cur) (hy : okCur y.2) (x : List UInt8) (h1 : 2001 ≤ x.length) (h2 : x.length ≤ 10000) : Yes (sL3Source_L2 y x) fun r => r.1.length ≤ 20000 ∧ okCur r.2 := by
  have c : decide ((x.length : Int) < 2001) = false := decide_eq_false (by omega)
  rw [sL3Source_L2.eq_def, c]
  rw [if_neg (by simp)]
  refine Yes.bind (below_y _ _ hy) fun r ⟨r0, r1, k⟩ => ?_
  have hr := r1 (by omega)
  obtain ⟨N, hN⟩ : ∃ N : Nat, (N : Int) = 2000 + r.1 := ⟨(2000 + r.1).toNat, by omega⟩
  have e : IntKind.wrap .i64 (2000 + r.1) = (N : Int) := by rw [wrap_ok (by omega) (by omega)]; omega
  have hNl : N ≤ x.length := by omega
  rw [e]
  clear e hN
  have hs := sub_two (s := x) (i := 0) (j := N) (by omega) hNl
  have hs' : subl x 0 (N : Int) = some ((x.drop 0).take (N - 0)) := hs
  rw [hs']
  simp only [Option.bind_eq_bind, Option.bind_some]
  unfold sL3Source_J3
  refine Yes.some ⟨?_, k⟩
  simp only [List.length_take, List.length_drop]; omega
theorem longS_y (y : Bool × GL1Cur) (hy : okCur y.2) (M : Nat) (hM : M = 2001) : ∀ n (x : List UInt8), M ≤ n + x.length → x.length ≤ 10000 → Yes (sL3Source_L2 y x) fun r => r.1.length ≤ 20000 ∧ okCur r.2 := by
  intro n
  induction n with
  | zero =>
    intro x h1 h2
    exact longE_y y hy x (by omega) h2
  | succ n ih =>
    intro x h1 h2
    by_cases hx : x.length < M
    · have c : decide ((x.length : Int) < 2001) = true := decide_eq_true (by omega)
      rw [sL3Source_L2.eq_def, c, if_pos rfl]
      refine Yes.bind (cat_y (by simp only [List.length_cons, List.length_nil]; omega)) fun r e => ?_
      subst e
      exact ih _ (by simp; omega) (by simp; omega)
    · exact longE_y y hy x (by omega) h2
theorem srcJ1_y (x : List UInt8) (hx : x.length ≤ 10000) (b : List Int) (j h : Int) (hc : okCur ⟨b, j, h⟩) : Yes (sL3Source_J1 x b j h) fun r => r.1.length ≤ 20000 ∧ okCur r.2 := by
  unfold sL3Source_J1
  refine Yes.bind (once_y _ _ hc) fun r k => Yes.ite (fun _ => ?_) fun _ => ?_
  · exact longS_y r k 2001 rfl 2001 x (by omega) hx
  · unfold sL3Source_J3
    exact Yes.some ⟨by dsimp only; omega, k⟩
theorem bytes1_y (c : GL1Cur) (h : okCur c) : Yes (sL1Bytes c 1) fun r => (∀ v ∈ r.1, 0 ≤ v ∧ v < 256) ∧ r.1.length ≤ 1 ∧ okCur r.2 := by
  obtain ⟨b, j, h0⟩ := c
  unfold sL1Bytes
  rw [sL1Bytes_L0]
  obtain ⟨v, c', e1, v0, v1, e4⟩ := l1Byte_ok ⟨b, j, h0⟩ h
  simp only [show decide ((0 : Int) < 1) = true from rfl, if_true, e1, Option.bind_eq_bind, Option.bind_some]
  refine Yes.bind (app_y (by simp)) fun l e => ?_
  subst e
  have ew : IntKind.wrap .i64 (0 + 1) = 1 := rfl
  rw [ew, sL1Bytes_L0]
  simp only [show decide ((1 : Int) < 1) = false from rfl, Bool.false_eq_true, if_false]
  refine Yes.some ⟨fun u hu => ?_, by simp, e4⟩
  have : u = IntKind.wrap .u8 v := by simpa using hu
  rw [this, wrap_u8 v0 (by omega)]
  exact ⟨v0, by omega⟩
theorem ofBytes_len {l : List Int} {s : List UInt8} (h : ofBytes l = some s) : s.length = l.length := by
  unfold ofBytes at h
  split at h
  · simp at h; rw [← h]; simp
  · simp at h
theorem src_y (y : Int × GL1Cur) (hy : y.1 ≤ 8) : ∀ (n i : Nat), 8 ≤ n + i → i ≤ 8 → ∀ (x : List UInt8), x.length ≤ 300 * i → ∀ b j h, okCur ⟨b, j, h⟩ → Yes (sL3Source_L0 y x (i : Int) b j h) fun r => r.1.length ≤ 20000 ∧ okCur r.2 := by
  have fin : ∀ (i : Nat), i ≤ 8 → y.1 ≤ (i : Int) → ∀ (x : List UInt8), x.length ≤ 300 * i → ∀ b j h, okCur ⟨b, j, h⟩ → Yes (sL3Source_L0 y x (i : Int) b j h) fun r => r.1.length ≤ 20000 ∧ okCur r.2 := by
    intro i hi hyi x hx b j h hc
    rw [sL3Source_L0, if_neg (by rw [decide_eq_true_eq]; omega)]
    refine Yes.bind (below_y _ _ hc) fun r7 ⟨_, _, k⟩ => Yes.ite (fun _ => ?_) fun _ => Yes.ite (fun _ => ?_) fun _ => Yes.ite (fun _ => ?_) fun _ => ?_
    · refine Yes.bind (pickM_y _ _ (by decide) k) fun r8 ⟨hm, k⟩ => ?_
      have : ∀ v ∈ ([[39], [34], [47, 42], [47, 42, 47], [45, 45], [124], [34, 34], [49, 50, 120], [48, 49], [33], [195, 169], [0]] : List (List UInt8)), v.length ≤ 50 := by decide
      have hl := this _ hm
      refine Yes.bind (cat_y (by omega)) fun r e => ?_
      subst e
      exact srcJ1_y _ (by simp; omega) _ _ _ k
    · have e1 : IntKind.wrap .i64 ((x.length : Int) + 1) = ((x.length + 1 : Nat) : Int) := by rw [wrap_ok (by omega) (by omega)]; omega
      rw [e1]
      refine Yes.bind (below_y _ _ k) fun r14 ⟨h0, h1, k⟩ => ?_
      have h2 := h1 (by omega)
      obtain ⟨a, ha⟩ : ∃ a : Nat, r14.1 = a := ⟨r14.1.toNat, by omega⟩
      rw [ha] at h2 ⊢
      have s1 := sub_two (s := x) (i := 0) (j := a) (by omega) (by omega)
      have s1' : subl x 0 (a : Int) = _ := s1
      have s2 := sub_rest (s := x) (i := a) (by omega)
      rw [s1', s2]
      simp only [Option.bind_eq_bind, Option.bind_some]
      refine Yes.bind (bytes1_y _ k) fun r16 ⟨v, vl, k⟩ => ?_
      obtain ⟨w, hw⟩ := ofBytes_ok r16.1 v
      have hwl := ofBytes_len hw
      rw [hw]
      simp only [Option.bind_some]
      refine Yes.bind (cat_y (by simp only [List.length_take, List.length_drop]; omega)) fun r e => ?_
      subst e
      refine Yes.bind (cat_y (by simp only [List.length_append, List.length_take, List.length_drop]; omega)) fun r e => ?_
      subst e
      exact srcJ1_y _ (by simp only [List.length_append, List.length_take, List.length_drop]; omega) _ _ _ k
    · rw [sFold_ok x (by omega)]
      simp only [Option.bind_eq_bind, Option.bind_some]
      exact srcJ1_y _ (by simp; omega) _ _ _ k
    · exact srcJ1_y _ (by omega) _ _ _ k
  intro n
  induction n with
  | zero =>
    intro i h1 h2 x hx b j h hc
    exact fin i h2 (by omega) x hx b j h hc
  | succ n ih =>
    intro i h1 h2 x hx b j h hc
    by_cases hi : (i : Int) < y.1
    · rw [sL3Source_L0, if_pos (decide_eq_true hi)]
      refine Yes.bind (pickM_y _ _ (by decide) hc) fun r2 ⟨hm, k⟩ => ?_
      have : ∀ v ∈ ([[], [32], [10], [9], [45, 45, 32, 120, 10], [47, 42, 32, 121, 32, 42, 47], [47, 42, 42, 47], [32]] : List (List UInt8)), v.length ≤ 50 := by decide
      have hl := this _ hm
      refine Yes.bind (cat_y (by omega)) fun r e => ?_
      subst e
      refine Yes.bind (token_y _ k) fun r4 ⟨t, k⟩ => ?_
      refine Yes.bind (tokText_y _ t) fun r5 h5 => ?_
      refine Yes.bind (cat_y (by simp only [List.length_append]; omega)) fun r e => ?_
      subst e
      have e : IntKind.wrap .i64 ((i : Int) + 1) = ((i + 1 : Nat) : Int) := by rw [wrap_ok (by omega) (by omega)]; omega
      rw [e]
      exact ih (i + 1) (by omega) (by omega) _ (by simp only [List.length_append]; omega) _ _ _ k
    · exact fin i h2 (by omega) x hx b j h hc
theorem draw_y (p : List Int) (hp : p.length ≤ 1048576) : Yes (sDrawSqueeze p) fun r => r.length ≤ 20000 := by
  unfold sDrawSqueeze sL3Source
  obtain ⟨c, e, hc⟩ := l1New_ok p hp
  rw [e]
  simp only [Option.bind_eq_bind, Option.bind_some]
  refine Yes.bind (Q := fun (r : List UInt8 × GL1Cur) => r.1.length ≤ 20000 ∧ okCur r.2) ?_ fun r ⟨h, _⟩ => Yes.some h
  refine Yes.bind (below_y _ _ hc) fun r ⟨_, h1, k⟩ => ?_
  have hr := h1 (by omega)
  exact src_y r (by omega) 8 0 (by omega) (by omega) [] (by simp) _ _ _ k
theorem fnSqueeze_true (p : List Int) (_ : okL okU8 p) : wFnSqueeze p = some true := by
  unfold wFnSqueeze wBig
  simp only [Option.bind_eq_bind, Option.bind_some]
  by_cases hp : 1048576 < p.length
  · rw [if_pos (decide_eq_true (by omega))]
  rw [if_neg (by rw [decide_eq_true_eq]; omega)]
  obtain ⟨s, e, hs⟩ := draw_y p (by omega)
  rw [e]
  obtain ⟨t, b, h1, h2, h3, h4⟩ := squeeze_all s (by omega)
  simp only [Option.bind_some, h1, h2, decide_true, Bool.not_true, Bool.false_eq_true, if_false]
  by_cases hb : 0 ≤ b
  · rw [if_pos (decide_eq_true hb), h3 hb]; rfl
  · rw [if_neg (by rw [decide_eq_true_eq]; exact hb)]
    obtain ⟨g1, g2⟩ := h4 (by omega)
    have ew : IntKind.wrap .i64 ((s.length : Int) + 20) = ((s.length + 20 : Nat) : Int) := by rw [wrap_ok (by omega) (by omega)]; omega
    have hd : decide ((t.length : Int) ≤ ((s.length + 20 : Nat) : Int)) = true := decide_eq_true (by omega)
    rw [g1, ew]
    simp only [Option.bind_some, decide_true, if_true, hd]

end Go.Ab
