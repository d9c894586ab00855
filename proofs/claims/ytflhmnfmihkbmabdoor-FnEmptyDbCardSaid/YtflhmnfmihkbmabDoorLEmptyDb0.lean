/- What the functions compute, in plain Lean. -/
import Derived.Test.YtflhmnfmihkbmabDoorFEmptyDb
namespace Go.Ab
open Go
/-! base -/

theorem wrap_ok {n : Int} (h1 : -9223372036854775808 ≤ n) (h2 : n ≤ 9223372036854775807) : IntKind.wrap .i64 n = n := by rw [IntKind.wrap_i64]; omega
/-- the next round of a loop over a list -/
theorem wrap_next {i n : Nat} (h : i < n) (hn : n ≤ 4611686018427387904) : IntKind.wrap .i64 ((i : Int) + 1) = ((i + 1 : Nat) : Int) := by rw [wrap_ok] <;> omega
theorem lt_dec (i n : Nat) : decide ((i : Int) < (n : Int)) = decide (i < n) := by simp
theorem idx_nat {α : Type} (l : List α) (i : Nat) : idx l (i : Int) = l[i]? := by simp [idx]
theorem idx_lt {α : Type} {l : List α} {i : Nat} (h : i < l.length) : idx l (i : Int) = some l[i] := by rw [idx_nat]; simp [h]
/-- from the last round backwards -/
theorem back_ind {M : Nat → Prop} {n : Nat} (h0 : M n) (h : ∀ i, i < n → M (i + 1) → M i) : ∀ i, i ≤ n → M i := by
  have : ∀ k i, i + k = n → M i := by
    intro k
    induction k with
    | zero => intro i hi; have : i = n := by omega
              subst this; exact h0
    | succ k ih => intro i hi; exact h i (by omega) (ih (i + 1) (by omega))
  exact fun i hi => this (n - i) i (by omega)
/-- A loop that copies a list element by element into a made one. -/
theorem copy_all {α : Type} {p : List α} {F : Int → List α → Option (List α)} (hn : p.length ≤ 4611686018427387904)
    (hF : ∀ (i : Nat) b, b.length = p.length → F i b = if i < p.length then (idx p i >>= fun v => setG b i v >>= fun c => F (IntKind.wrap .i64 ((i : Int) + 1)) c) else some b) :
    ∀ b, b.length = p.length → F 0 b = some p := by
  have key : ∀ i, i ≤ p.length → ∀ b, b.length = p.length → b.take i = p.take i → F (i : Nat) b = some p := by
    refine back_ind ?_ ?_
    · intro b hb ht
      rw [hF _ _ hb, if_neg (by omega)]
      rw [← hb, List.take_length] at ht
      rw [ht, hb, List.take_length]
    · intro i hi ih b hb ht
      rw [hF _ _ hb, if_pos hi, idx_lt hi]
      have hs : setG b i p[i] = some (b.set i p[i]) := by
        unfold setG; rw [if_pos ⟨by omega, by simp; omega⟩]; simp
      simp only [Option.bind_eq_bind, Option.bind_some, hs, wrap_next hi hn]
      refine ih _ (by simp [hb]) ?_
      rw [List.take_add_one, List.take_add_one]
      have e1 : (b.set i p[i]).take i = b.take i := by rw [List.take_set_of_le (Nat.le_refl _)]
      rw [e1, ht]
      simp [hb, hi]
  intro b hb
  exact key 0 (by omega) b hb (by simp)
theorem mkG_ok {α : Type} {by' : Nat} {n : Nat} {z : α} (h : (n : Int) * by' ≤ 140737488355328) : mkG by' (n : Int) z = some (List.replicate n z) := by
  unfold mkG; rw [if_pos ⟨by omega, h⟩]; simp

/-! drawB -/
theorem and255 (a : Int) : 0 ≤ IntKind.wrap .i64 ((BitVec.ofInt (IntKind.bits .i64) a &&& BitVec.ofInt (IntKind.bits .i64) 255).toNat : Int) ∧ IntKind.wrap .i64 ((BitVec.ofInt (IntKind.bits .i64) a &&& BitVec.ofInt (IntKind.bits .i64) 255).toNat : Int) ≤ 255 := by
  have h : (BitVec.ofInt (IntKind.bits .i64) a &&& BitVec.ofInt (IntKind.bits .i64) 255).toNat ≤ 255 := by
    rw [BitVec.toNat_and]
    exact Nat.le_trans Nat.and_le_right (by decide)
  rw [wrap_ok (by omega) (by omega)]
  omega
/-- a cursor within its bytes -/
def okCur (c : GL1Cur) : Prop := 0 ≤ c.i ∧ c.i ≤ (c.b.length : Int) ∧ c.b.length ≤ 1048576
theorem l1Byte_ok (c : GL1Cur) (h : okCur c) : ∃ x c', sL1Byte c = some (x, c') ∧ 0 ≤ x ∧ x ≤ 255 ∧ okCur c' := by
  obtain ⟨h1, h2, h3⟩ := h
  unfold sL1Byte sL1Byte_J0
  by_cases hi : c.i < (c.b.length : Int)
  · have e : ∃ v, idx c.b c.i = some v := by
      unfold idx
      rw [if_pos h1]
      exact ⟨_, List.getElem?_eq_getElem (by omega)⟩
    obtain ⟨v, hv⟩ := e
    rw [if_pos (by simpa using hi), hv]
    simp only [Option.bind_eq_bind, Option.bind_some]
    refine ⟨_, _, rfl, (and255 _).1, (and255 _).2, ?_⟩
    refine ⟨?_, ?_, h3⟩
    · show 0 ≤ IntKind.wrap .i64 (c.i + 1); rw [wrap_ok (by omega) (by omega)]; omega
    · show IntKind.wrap .i64 (c.i + 1) ≤ (c.b.length : Int); rw [wrap_ok (by omega) (by omega)]; omega
  · rw [if_neg (by simpa using hi)]
    exact ⟨_, _, rfl, (and255 _).1, (and255 _).2, h1, h2, h3⟩
theorem remG_ok {a b : Int} (h0 : 0 ≤ a) (hb : 0 < b) : ∃ r, remG a b = some r ∧ 0 ≤ r ∧ r < b := by
  unfold remG
  rw [if_neg (by omega)]
  exact ⟨_, rfl, Int.tmod_nonneg _ h0, Int.tmod_lt_of_pos _ hb⟩
theorem l1Below_ok (c : GL1Cur) (n : Int) (h : okCur c) : ∃ x c', sL1Below c n = some (x, c') ∧ 0 ≤ x ∧ (0 < n → x < n) ∧ okCur c' := by
  unfold sL1Below
  by_cases h0 : n ≤ 0
  · rw [if_pos (by simpa using h0)]; exact ⟨0, c, rfl, by omega, by omega, h⟩
  rw [if_neg (by simpa using h0)]
  by_cases h1 : n ≤ 256
  · rw [if_pos (by simpa using h1)]
    obtain ⟨x, c1, e1, a1, b1, o1⟩ := l1Byte_ok c h
    obtain ⟨r, er, r0, r1⟩ := remG_ok a1 (b := n) (by omega)
    simp only [e1, Option.bind_eq_bind, Option.bind_some, er]
    exact ⟨r, c1, rfl, r0, fun _ => r1, o1⟩
  · rw [if_neg (by simpa using h1)]
    obtain ⟨x1, c1, e1, a1, b1, o1⟩ := l1Byte_ok c h
    obtain ⟨x2, c2, e2, a2, b2, o2⟩ := l1Byte_ok c1 o1
    obtain ⟨x3, c3, e3, a3, b3, o3⟩ := l1Byte_ok c2 o2
    obtain ⟨x4, c4, e4, a4, b4, o4⟩ := l1Byte_ok c3 o3
    simp only [e1, e2, e3, e4, Option.bind_eq_bind, Option.bind_some]
    rw [wrap_ok (n := x1 * 16777216) (by omega) (by omega), wrap_ok (n := x2 * 65536) (by omega) (by omega), wrap_ok (n := x3 * 256) (by omega) (by omega), wrap_ok (n := x1 * 16777216 + x2 * 65536) (by omega) (by omega), wrap_ok (n := x1 * 16777216 + x2 * 65536 + x3 * 256) (by omega) (by omega), wrap_ok (n := x1 * 16777216 + x2 * 65536 + x3 * 256 + x4) (by omega) (by omega)]
    obtain ⟨r, er, r0, r1⟩ := remG_ok (a := x1 * 16777216 + x2 * 65536 + x3 * 256 + x4) (by omega) (b := n) (by omega)
    rw [er]
    exact ⟨r, c4, rfl, r0, fun _ => r1, o4⟩
theorem l1Once_ok (c : GL1Cur) (n : Int) (h : okCur c) : ∃ x c', sL1Once c n = some (x, c') ∧ okCur c' := by
  obtain ⟨x, c1, e1, _, _, o1⟩ := l1Below_ok c n h
  unfold sL1Once
  simp only [e1, Option.bind_eq_bind, Option.bind_some]
  exact ⟨_, _, rfl, o1⟩
theorem pick_idx {α : Type} {l : List α} {x : Int} (h0 : 0 ≤ x) (h1 : x < (l.length : Int)) : ∃ v, v ∈ l ∧ idx l x = some v := by
  unfold idx
  rw [if_pos h0]
  exact ⟨_, List.getElem_mem (by omega), List.getElem?_eq_getElem (by omega)⟩
theorem l1Pick_ok (c : GL1Cur) (l : List (List UInt8)) (hl : 0 < l.length) (h : okCur c) : ∃ x c', sL1Pick c l = some (x, c') ∧ x ∈ l ∧ okCur c' := by
  obtain ⟨x, c1, e1, h0, h1, o1⟩ := l1Below_ok c l.length h
  obtain ⟨v, hv, ev⟩ := pick_idx h0 (h1 (by omega))
  unfold sL1Pick
  simp only [e1, ev, Option.bind_eq_bind, Option.bind_some]
  exact ⟨_, _, rfl, hv, o1⟩
theorem l1PickInt_ok (c : GL1Cur) (l : List Int) (hl : 0 < l.length) (h : okCur c) : ∃ x c', sL1PickInt c l = some (x, c') ∧ x ∈ l ∧ okCur c' := by
  obtain ⟨x, c1, e1, h0, h1, o1⟩ := l1Below_ok c l.length h
  obtain ⟨v, hv, ev⟩ := pick_idx h0 (h1 (by omega))
  unfold sL1PickInt
  simp only [e1, ev, Option.bind_eq_bind, Option.bind_some]
  exact ⟨_, _, rfl, hv, o1⟩

/-! yes -/
theorem l1New_ok (p : List Int) (hp : p.length ≤ 1048576) : ∃ c, sL1New p = some c ∧ okCur c := by
  unfold sL1New
  have key : ∀ i, i ≤ p.length → ∀ h, ∃ c, sL1New_L0 p h (i : Nat) = some c ∧ okCur c := by
    refine back_ind ?_ ?_
    · intro h
      rw [sL1New_L0]
      refine ⟨⟨p, 0, h⟩, by simp, ?_⟩
      exact ⟨by show (0:Int) ≤ 0; omega, by show (0:Int) ≤ (p.length : Int); omega, hp⟩
    · intro i hi ih h
      rw [sL1New_L0]
      by_cases h4 : (i : Int) < 4000
      · simp only [lt_dec, hi, h4, decide_true, if_true, idx_lt hi, wrap_next hi (by omega), Option.bind_eq_bind, Option.bind_some]
        exact ih _
      · simp only [lt_dec, hi, h4, decide_true, decide_false, if_true, Bool.false_eq_true, if_false]
        exact ⟨⟨p, 0, h⟩, rfl, by show (0:Int) ≤ 0; omega, by show (0:Int) ≤ (p.length : Int); omega, hp⟩
  exact key 0 (by omega) _
theorem ofBytes_ok (l : List Int) (h : ∀ v ∈ l, 0 ≤ v ∧ v < 256) : ∃ s, ofBytes l = some s := by
  unfold ofBytes
  rw [if_pos (by simpa using h)]
  exact ⟨_, rfl⟩
/-- it answers, and well -/
def Yes {α : Type} (m : Option α) (Q : α → Prop) : Prop := ∃ r, m = some r ∧ Q r
theorem Yes.bind {α β : Type} {m : Option α} {k : α → Option β} {Q : α → Prop} {R : β → Prop} (h : Yes m Q) (hk : ∀ x, Q x → Yes (k x) R) : Yes (m >>= k) R := by
  obtain ⟨x, e, hx⟩ := h
  obtain ⟨r, e2, hr⟩ := hk x hx
  exact ⟨r, by rw [e]; exact e2, hr⟩
theorem Yes.some {α : Type} {x : α} {Q : α → Prop} (h : Q x) : Yes (some x) Q := ⟨x, rfl, h⟩
theorem Yes.mono {α : Type} {m : Option α} {Q R : α → Prop} (h : Yes m Q) (hk : ∀ x, Q x → R x) : Yes m R := by
  obtain ⟨x, e, hx⟩ := h; exact ⟨x, e, hk x hx⟩
theorem Yes.ite {α : Type} {c : Prop} [Decidable c] {m m' : Option α} {Q : α → Prop} (h : c → Yes m Q) (h' : ¬ c → Yes m' Q) : Yes (if c then m else m') Q := by
  split
  · exact h (by assumption)
  · exact h' (by assumption)
theorem below_y (c : GL1Cur) (n : Int) (h : okCur c) : Yes (sL1Below c n) fun r => 0 ≤ r.1 ∧ (0 < n → r.1 < n) ∧ okCur r.2 := by
  obtain ⟨x, c', e, h1, h2, h3⟩ := l1Below_ok c n h; exact ⟨_, e, h1, h2, h3⟩
theorem once_y (c : GL1Cur) (n : Int) (h : okCur c) : Yes (sL1Once c n) fun r => okCur r.2 := by
  obtain ⟨x, c', e, h1⟩ := l1Once_ok c n h; exact ⟨_, e, h1⟩
theorem once_g (p : Bool) (b : Bool) (c : GL1Cur) (n : Int) (h : okCur c) : Yes (if (true && (p == b)) = true then sL1Once c n else some ((default : Bool), c)) fun r => okCur r.2 := Yes.ite (fun _ => once_y c n h) fun _ => Yes.some h
theorem pick_y (c : GL1Cur) (l : List (List UInt8)) (hl : 0 < l.length) (h : okCur c) : Yes (sL1Pick c l) fun r => okCur r.2 := by
  obtain ⟨x, c', e, _, h1⟩ := l1Pick_ok c l hl h; exact ⟨_, e, h1⟩
theorem pickI_y (c : GL1Cur) (l : List Int) (hl : 0 < l.length) (h : okCur c) : Yes (sL1PickInt c l) fun r => okCur r.2 := by
  obtain ⟨x, c', e, _, h1⟩ := l1PickInt_ok c l hl h; exact ⟨_, e, h1⟩
theorem appG_ok {α : Type} {b : Nat} {l m : List α} (h : (l.length + m.length) * b ≤ 140737488355328) : appG b l m = some (l ++ m) := by unfold appG; rw [if_pos h]
theorem app_y {α : Type} {b : Nat} {l m : List α} (h : (l.length + m.length) * b ≤ 140737488355328) : Yes (appG b l m) fun r => r = l ++ m := ⟨_, appG_ok h, rfl⟩
theorem pickM_y (c : GL1Cur) (l : List (List UInt8)) (hl : 0 < l.length) (h : okCur c) : Yes (sL1Pick c l) fun r => r.1 ∈ l ∧ okCur r.2 := by
  obtain ⟨x, c', e, h0, h1⟩ := l1Pick_ok c l hl h; exact ⟨_, e, h0, h1⟩
theorem name_z (c : GL1Cur) (h : okCur c) : Yes (sL2Name c) fun r => r.1.length ≤ 8 ∧ okCur r.2 := by
  unfold sL2Name
  refine Yes.bind (once_y _ _ h) fun r k => Yes.ite (fun _ => ?_) fun _ => ?_
  · refine Yes.bind (pickM_y _ _ (by decide) k) fun r ⟨hm, k⟩ => Yes.some ⟨?_, k⟩
    have : ∀ v ∈ ([[97, 32, 98], [102, 114, 111, 109], [83, 101, 108, 101, 99, 116], [49, 120], [113, 34, 113], [0], [34], [105, 116, 39, 115], [120, 46, 121], [45]] : List (List UInt8)), v.length ≤ 8 := by decide
    exact this _ hm
  · refine Yes.bind (pickM_y _ _ (by decide) k) fun r ⟨hm, k⟩ => Yes.some ⟨?_, k⟩
    have : ∀ v ∈ ([[97], [98], [99], [116], [117], [118], [105, 100], [110, 97, 109, 101], [65], [95, 120, 49]] : List (List UInt8)), v.length ≤ 8 := by decide
    exact this _ hm

/-! anyY -/
theorem l1Bytes_ok (p : Int) (hp : p ≤ 1000) : ∀ (n : Nat) (x : List Int) (i : Int) (b : List Int) (j h : Int), p ≤ n + i → 0 ≤ i → x.length = i.toNat → i ≤ 1000 → (∀ v ∈ x, 0 ≤ v ∧ v < 256) → okCur ⟨b, j, h⟩ → ∃ y c', sL1Bytes_L0 p x i b j h = some (y, c') ∧ (∀ v ∈ y, 0 ≤ v ∧ v < 256) ∧ okCur c' := by
  intro n
  induction n with
  | zero =>
    intro x i b j h h1 h2 h3 _ h5 h4
    rw [sL1Bytes_L0, if_neg (by simp; omega)]
    exact ⟨_, _, rfl, h5, h4⟩
  | succ n ih =>
    intro x i b j h h1 h2 h3 hi0 h5 h4
    rw [sL1Bytes_L0]
    by_cases hi : i < p
    · rw [if_pos (by simpa using hi)]
      obtain ⟨v, c', e1, _, _, e4⟩ := l1Byte_ok ⟨b, j, h⟩ h4
      simp only [e1, Option.bind_eq_bind, Option.bind_some]
      rw [appG_ok (by simp; omega), wrap_ok (by omega) (by omega)]
      simp only [Option.bind_some]
      refine ih (x ++ [IntKind.wrap .u8 v]) (i + 1) c'.b c'.i c'.h (by omega) (by omega) (by simp [h3]; omega) (by omega) ?_ e4
      intro u hu
      rcases List.mem_append.1 hu with hu | hu
      · exact h5 u hu
      · have : u = IntKind.wrap .u8 v := by simpa using hu
        rw [this]; simp [IntKind.wrap, IntKind.bits, IntKind.signed]; omega
    · rw [if_neg (by simpa using hi)]
      exact ⟨_, _, rfl, h5, h4⟩
theorem name_y (c : GL1Cur) (h : okCur c) : Yes (sL2Name c) fun r => okCur r.2 := (name_z c h).mono fun _ k => k.2
theorem any_y (c : GL1Cur) (h : okCur c) : Yes (sL2Any c) fun r => okCur r.2 := by
  unfold sL2Any
  refine Yes.bind (below_y _ _ h) fun r ⟨_, _, k⟩ => Yes.ite (fun _ => ?_) fun _ => Yes.ite (fun _ => ?_) fun _ => Yes.ite (fun _ => ?_) fun _ => ?_
  · exact Yes.bind (pick_y _ _ (by decide) k) fun r k => Yes.some k
  · refine Yes.bind (Q := fun l : List (List UInt8) => l.length = 29) ⟨_, rfl, by decide⟩ fun l hl => Yes.bind (below_y _ _ k) fun r ⟨h0, h1, k⟩ => ?_
    obtain ⟨v, _, hv⟩ := pick_idx (l := l) h0 (by rw [hl]; exact h1 (by decide))
    exact Yes.bind (Q := fun _ => True) ⟨v, hv, trivial⟩ fun _ _ => Yes.some k
  · refine Yes.bind (below_y _ _ k) fun r ⟨h0, h1, k⟩ => ?_
    have h1' := h1 (by decide)
    obtain ⟨y, c3, e3, l3, k3⟩ := l1Bytes_ok r.1 (by omega) 5 [] 0 r.2.b r.2.i r.2.h (by omega) (by omega) rfl (by omega) (by simp) k
    obtain ⟨s, hs⟩ := ofBytes_ok y l3
    exact Yes.bind (Q := fun z => z = (y, c3)) ⟨_, e3, rfl⟩ fun z hz => Yes.bind (Q := fun _ => True) ⟨s, by rw [hz]; exact hs, trivial⟩ fun _ _ => Yes.some (by rw [hz]; exact k3)
  · exact Yes.bind (name_y _ k) fun r k => Yes.some k

/-! digits -/
theorem catS_ok {a b : List UInt8} (h : a.length + b.length ≤ 1073741824) : catS a b = some (a ++ b) := by
  unfold catS; rw [if_pos (Nat.le_trans h (by decide))]
theorem byte_digit {d : Nat} (h : d < 10) (x4 : List UInt8) : ofBytes ([(IntKind.wrap .u8 (IntKind.wrap .i64 (48 + (d : Int))))] : List Int) = some [UInt8.ofNat (48 + d)] := by
  match d, h with
  | 0, _ => rfl
  | 1, _ => rfl
  | 2, _ => rfl
  | 3, _ => rfl
  | 4, _ => rfl
  | 5, _ => rfl
  | 6, _ => rfl
  | 7, _ => rfl
  | 8, _ => rfl
  | 9, _ => rfl
theorem sDigits_loop (p0 : Int) : ∀ n : Nat, n ≤ 9223372036854775808 → ∀ out : List UInt8, out.length + Lib.nDigits n ≤ 1000 → ∀ x0 : Int, (x0 = n ∨ x0 = -(n : Int)) →
    sDigits_L0 p0 x0 out = some ((if p0 < 0 then [45] else []) ++ ((if n = 0 then [] else Lib.decDigits n) ++ out)) := by
  intro n
  induction n using Nat.strongRecOn with
  | ind n ih =>
    intro hn out ho x0 hx
    rw [sDigits_L0]
    by_cases h0 : n = 0
    · subst h0
      have : x0 = 0 := by omega
      subst this
      have hc : catS [45] out = some (45 :: out) := catS_ok (by simp; omega)
      by_cases hp : p0 < 0 <;> simp [hp, hc]
    · have hx0 : x0 ≠ 0 := by omega
      have hdiv : Int.tdiv x0 10 = ((n / 10 : Nat) : Int) ∨ Int.tdiv x0 10 = -((n / 10 : Nat) : Int) := by
        rcases hx with rfl | rfl
        · left; simp [Int.tdiv]
        · right; rw [Int.neg_tdiv]; simp [Int.tdiv]
      have hdd : IntKind.wrap .i64 (Int.tdiv x0 10) = Int.tdiv x0 10 := wrap_ok (by omega) (by omega)
      have hm : Int.tmod x0 10 = ((n % 10 : Nat) : Int) ∨ Int.tmod x0 10 = -((n % 10 : Nat) : Int) := by
        rcases hx with rfl | rfl
        · left; simp [Int.tmod]
        · right; rw [Int.neg_tmod]; simp [Int.tmod]
      have hlt : n % 10 < 10 := Nat.mod_lt _ (by omega)
      have hnd : Lib.nDigits (n / 10) ≤ Lib.nDigits n := by
        by_cases hs : n < 10
        · have : n / 10 = 0 := by omega
          rw [this, Lib.nDigits_small (by omega)]; exact Lib.nDigits_pos _
        · rw [Lib.nDigits_big hs]; omega
      have hnd1 : n / 10 ≠ 0 → Lib.nDigits (n / 10) + 1 = Lib.nDigits n := fun h => by rw [← Lib.nDigits_big (u := n) (by omega)]
      have hpos := Lib.nDigits_pos n
      have key : sDigits_J1 x0 p0 out ((n % 10 : Nat) : Int) = some ((if p0 < 0 then [45] else []) ++ (Lib.decDigits n ++ out)) := by
        rw [sDigits_J1, byte_digit hlt out]
        simp only [Option.bind_eq_bind, Option.bind_some]
        rw [catS_ok (by simp; omega)]
        simp only [Option.bind_some]
        rw [hdd]
        by_cases hs : n / 10 = 0
        · have hz : Int.tdiv x0 10 = 0 := by omega
          have hn10 : n < 10 := by omega
          rw [hz, sDigits_L0]
          have hmod : n % 10 = n := Nat.mod_eq_of_lt hn10
          have hc : catS [45] ([UInt8.ofNat (48 + n % 10)] ++ out) = some (45 :: ([UInt8.ofNat (48 + n % 10)] ++ out)) := catS_ok (by simp; omega)
          rw [Lib.decDigits_one hn10]
          by_cases hp : p0 < 0
          · simp [hp, hmod] at hc ⊢
            rw [hc]
          · simp [hp, hmod]
        · rw [ih (n / 10) (by omega) (by omega) _ (by have := hnd1 hs; simp; omega) _ hdiv, if_neg hs]
          conv => rhs; rw [Lib.decDigits, dif_neg (by omega)]
          simp
      rw [if_pos (by simp [hx0]), if_neg h0]
      by_cases hneg : Int.tmod x0 10 < 0
      · rw [if_pos (by simp [hneg])]
        have e : IntKind.wrap .i64 (0 - Int.tmod x0 10) = ((n % 10 : Nat) : Int) := by rw [wrap_ok (by omega) (by omega)]; omega
        rw [e, key]
      · rw [if_neg (by simp [hneg])]
        have e : Int.tmod x0 10 = ((n % 10 : Nat) : Int) := by omega
        rw [e, key]
/-- the reference's numeral is the library's -/
theorem sDigits_itoa (n : Int) (h1 : -9223372036854775808 ≤ n) (h2 : n ≤ 9223372036854775807) : sDigits n = some (Lib.itoa n) := by
  unfold sDigits
  by_cases h0 : n = 0
  · subst h0; simp; rw [Lib.itoa]; simp; rw [Lib.decDigits_one (by omega)]; rfl
  · have hl : Lib.nDigits n.natAbs ≤ 20 := Lib.nDigits_le20 _ (by omega)
    rw [if_neg (by simp [h0]), sDigits_loop n n.natAbs (by omega) [] (by simp; omega) n (by omega), if_neg (show ¬ n.natAbs = 0 by omega)]
    unfold Lib.itoa
    by_cases hn : n < 0
    · simp [hn]
    · have : n.natAbs = n.toNat := by omega
      simp [hn, this]

/-! loopP -/
/-- A loop that ends with false at the first element that is not good. -/
theorem loopP {n : Nat} {L : Int → Option Bool} {good : Nat → Prop} {KP : Prop}
    (hstep : ∀ i, i < n → (good i → L (i : Nat) = L ((i + 1 : Nat) : Int)) ∧ (¬ good i → L (i : Nat) = some false))
    (hend : ∃ b, L (n : Nat) = some b ∧ (b = true ↔ KP)) : ∃ b, L 0 = some b ∧ (b = true ↔ (∀ i, i < n → good i) ∧ KP) := by
  have key : ∀ i, i ≤ n → ∃ b, L (i : Nat) = some b ∧ (b = true ↔ (∀ k, i ≤ k → k < n → good k) ∧ KP) := by
    refine back_ind ?_ ?_
    · obtain ⟨b, h1, h2⟩ := hend
      exact ⟨b, h1, h2.trans ⟨fun h => ⟨fun k h1 h2 => by omega, h⟩, fun h => h.2⟩⟩
    · intro i hi ih
      obtain ⟨b, h1, h2⟩ := ih
      obtain ⟨s1, s2⟩ := hstep i hi
      by_cases hg : good i
      · refine ⟨b, (s1 hg).trans h1, h2.trans ⟨fun h => ⟨fun k k1 k2 => ?_, h.2⟩, fun h => ⟨fun k k1 k2 => h.1 k (by omega) k2, h.2⟩⟩⟩
        by_cases e : k = i
        · subst e; exact hg
        · exact h.1 k (by omega) k2
      · refine ⟨false, s2 hg, ?_⟩
        simp only [Bool.false_eq_true, false_iff, not_and]
        intro h
        exact absurd (h i (by omega) hi) hg
  obtain ⟨b, h1, h2⟩ := key 0 (by omega)
  exact ⟨b, h1, h2.trans ⟨fun h => ⟨fun k hk => h.1 k (by omega) hk, h.2⟩, fun h => ⟨fun k _ hk => h.1 k hk, h.2⟩⟩⟩
theorem iff_eq {a b : Bool} {P Q : Prop} (h1 : a = true ↔ P) (h2 : b = true ↔ Q) (h : P ↔ Q) : a = b := by
  rw [Bool.eq_iff_iff]; exact h1.trans (h.trans h2.symm)
/-- two loops that do the same -/
theorem loop_same {γ : Type} {n : Nat} {L M : Int → Option γ} (hstep : ∀ i, i < n → L ((i + 1 : Nat) : Int) = M ((i + 1 : Nat) : Int) → (∃ r, L ((i + 1 : Nat) : Int) = some r) → L (i : Nat) = M (i : Nat) ∧ ∃ r, L (i : Nat) = some r)
    (hend : L (n : Nat) = M (n : Nat) ∧ ∃ r, L (n : Nat) = some r) : L 0 = M 0 ∧ ∃ r, L 0 = some r := by
  have key : ∀ i, i ≤ n → L (i : Nat) = M (i : Nat) ∧ ∃ r, L (i : Nat) = some r :=
    back_ind hend fun i hi ih => hstep i hi ih.1 ih.2
  exact key 0 (by omega)

/-! catalog -/
theorem nameOk_iff (s : List UInt8) : iNameOk s = sNameOk s ∧ ∃ b, sNameOk s = some b ∧ (b = true ↔ 1 ≤ s.length ∧ s.length ≤ 20) := by
  unfold iNameOk sNameOk sL1In
  simp only [Option.bind_eq_bind, Option.bind_some]
  refine ⟨by simp, _, rfl, ?_⟩
  by_cases h1 : (1 : Int) ≤ (s.length : Int)
  · simp [h1]; omega
  · simp [h1]; omega
theorem colAt_eq (t : GTable) (s : List UInt8) (hl : t.cols.length ≤ 1048576) : iColAt t s = sColAt t s ∧ ∃ r, sColAt t s = some r := by
  have := loop_same (n := t.cols.length) (L := fun i => gSlices_IndexFunc_Simpl_Col_impl_Col_iColAt_1_L0 t.cols s i) (M := fun i => sColAt_L0 s t i) ?_ ?_
  · unfold iColAt gSlices_IndexFunc_Simpl_Col_impl_Col_iColAt_1 sColAt
    obtain ⟨h1, r, h2⟩ := this
    try simp only at h1 h2
    rw [← h1, h2]
    exact ⟨rfl, r, rfl⟩
  · intro i hi h1 h2
    try dsimp only at h1 h2 ⊢
    rw [gSlices_IndexFunc_Simpl_Col_impl_Col_iColAt_1_L0, sColAt_L0]
    simp only [lt_dec, idx_lt hi, wrap_next hi (by omega), hi, decide_true, if_true, iColAt_1_x, Option.bind_eq_bind, Option.bind_some]
    by_cases hc : t.cols[i].name = s
    · simp [hc]
    · simp only [hc, decide_false, Bool.false_eq_true, if_false]
      exact ⟨h1, h2⟩
  · try dsimp only
    rw [gSlices_IndexFunc_Simpl_Col_impl_Col_iColAt_1_L0, sColAt_L0]
    simp
theorem tableAt_eq (c : GCatalog) (s : List UInt8) (hl : c.tables.length ≤ 1048576) : iTableAt c s = sTableAt c s ∧ ∃ r, sTableAt c s = some r := by
  have := loop_same (n := c.tables.length) (L := fun i => gSlices_IndexFunc_Simpl_Table_impl_Table_iTableAt_1_L0 c.tables s i) (M := fun i => sTableAt_L0 s c i) ?_ ?_
  · unfold iTableAt gSlices_IndexFunc_Simpl_Table_impl_Table_iTableAt_1 sTableAt
    obtain ⟨h1, r, h2⟩ := this
    try simp only at h1 h2
    rw [← h1, h2]
    exact ⟨rfl, r, rfl⟩
  · intro i hi h1 h2
    try dsimp only at h1 h2 ⊢
    rw [gSlices_IndexFunc_Simpl_Table_impl_Table_iTableAt_1_L0, sTableAt_L0]
    simp only [lt_dec, idx_lt hi, wrap_next hi (by omega), hi, decide_true, if_true, iTableAt_1_x, Option.bind_eq_bind, Option.bind_some]
    by_cases hc : c.tables[i].name = s
    · simp [hc]
    · simp only [hc, decide_false, Bool.false_eq_true, if_false]
      exact ⟨h1, h2⟩
  · try dsimp only
    rw [gSlices_IndexFunc_Simpl_Table_impl_Table_iTableAt_1_L0, sTableAt_L0]
    simp
/-- a column that is right -/
def colP (t : GTable) (j : Nat) : Prop := ∃ c, t.cols[j]? = some c ∧ (1 ≤ c.name.length ∧ c.name.length ≤ 20) ∧ (1 ≤ c.type ∧ c.type ≤ 3) ∧ sColAt t c.name = some (j : Int)
def tableP (t : GTable) : Prop := (∀ j, j < t.cols.length → colP t j) ∧ ((1 ≤ t.name.length ∧ t.name.length ≤ 20) ∧ 1 ≤ t.cols.length ∧ t.cols.length ≤ 4)
theorem isTable_iff (t : GTable) (hl : t.cols.length ≤ 1048576) : ∃ b, iIsTable t = some b ∧ (b = true ↔ tableP t) := by
  unfold iIsTable tableP
  refine loopP (n := t.cols.length) (L := fun i => iIsTable_L0 t i) (good := colP t) ?_ ?_
  · intro i hi
    try dsimp only
    rw [iIsTable_L0]
    obtain ⟨n1, b, n2, n3⟩ := nameOk_iff t.cols[i].name
    obtain ⟨c1, k, c2⟩ := colAt_eq t t.cols[i].name hl
    simp only [lt_dec, idx_lt hi, wrap_next hi (by omega), hi, decide_true, if_true, n1, n2, c1, c2, Option.bind_eq_bind, Option.bind_some]
    have hP : colP t i ↔ (1 ≤ t.cols[i].name.length ∧ t.cols[i].name.length ≤ 20) ∧ (1 ≤ t.cols[i].type ∧ t.cols[i].type ≤ 3) ∧ k = (i : Int) := by
      unfold colP
      constructor
      · rintro ⟨c, h1, h2, h3, h4⟩
        rw [List.getElem?_eq_getElem hi] at h1
        simp only [Option.some.injEq] at h1; subst h1
        rw [c2] at h4
        exact ⟨h2, h3, by simpa using h4⟩
      · rintro ⟨h2, h3, h4⟩
        exact ⟨_, List.getElem?_eq_getElem hi, h2, h3, by rw [c2, h4]⟩
    rw [hP, ← n3]
    cases b with
    | false => simp
    | true =>
      by_cases t1 : t.cols[i].type < 1
      · simp [t1] <;> omega
      by_cases t3 : 3 < t.cols[i].type
      · simp [t1, t3] <;> omega
      by_cases hk : k = (i : Int)
      · simp [t1, t3, hk] <;> omega
      · simp [t1, t3, hk]
  · try dsimp only
    rw [iIsTable_L0]
    obtain ⟨n1, b, n2, n3⟩ := nameOk_iff t.name
    simp only [lt_dec, Nat.lt_irrefl, decide_false, Bool.false_eq_true, if_false, n1, n2, Option.bind_eq_bind, Option.bind_some]
    refine ⟨_, rfl, ?_⟩
    rw [← n3]
    cases b with
    | false => simp
    | true =>
      by_cases l1 : (1 : Int) ≤ (t.cols.length : Int)
      · simp [l1] <;> omega
      · simp [l1] <;> omega
def catP (c : GCatalog) : Prop := (∀ i, i < c.tables.length → ∃ t, c.tables[i]? = some t ∧ tableP t ∧ sTableAt c t.name = some (i : Int)) ∧ c.tables.length ≤ 4
/-- what the size of a catalog bounds -/
def catSmall (c : GCatalog) : Prop := c.tables.length ≤ 1048576 ∧ ∀ t ∈ c.tables, t.cols.length ≤ 1048576
theorem iCatalogOk_iff (c : GCatalog) (hs : catSmall c) : ∃ b, iCatalogOk c = some b ∧ (b = true ↔ catP c) := by
  unfold iCatalogOk catP
  refine loopP (n := c.tables.length) (L := fun i => iCatalogOk_L0 c i) (good := fun i => ∃ t, c.tables[i]? = some t ∧ tableP t ∧ sTableAt c t.name = some (i : Int)) ?_ ?_
  · intro i hi
    try dsimp only
    rw [iCatalogOk_L0]
    obtain ⟨b, n2, n3⟩ := isTable_iff c.tables[i] (hs.2 _ (List.getElem_mem hi))
    obtain ⟨c1, k, c2⟩ := tableAt_eq c c.tables[i].name hs.1
    have := hs.1
    simp only [lt_dec, idx_lt hi, wrap_next hi (by omega), hi, decide_true, if_true, n2, c1, c2, Option.bind_eq_bind, Option.bind_some]
    have hP : (∃ t, c.tables[i]? = some t ∧ tableP t ∧ sTableAt c t.name = some (i : Int)) ↔ tableP c.tables[i] ∧ k = (i : Int) := by
      constructor
      · rintro ⟨t, h1, h2, h3⟩
        rw [List.getElem?_eq_getElem hi] at h1
        simp only [Option.some.injEq] at h1; subst h1
        rw [c2] at h3
        exact ⟨h2, by simpa using h3⟩
      · rintro ⟨h2, h3⟩
        exact ⟨_, List.getElem?_eq_getElem hi, h2, by rw [c2, h3]⟩
    rw [hP, ← n3]
    cases b with
    | false => simp
    | true =>
      by_cases hk : k = (i : Int)
      · simp [hk]
      · simp [hk]
  · try dsimp only
    rw [iCatalogOk_L0]
    refine ⟨decide ((c.tables.length : Int) ≤ 4), by simp, ?_⟩
    simp only [decide_eq_true_eq]; omega
theorem sCatalogOk_iff (c : GCatalog) (hs : catSmall c) : ∃ b, sCatalogOk c = some b ∧ (b = true ↔ catP c) := by
  unfold sCatalogOk
  by_cases h4 : (4 : Int) < (c.tables.length : Int)
  · rw [if_pos (by simpa using h4)]
    refine ⟨false, rfl, ?_⟩
    unfold catP
    simp only [Bool.false_eq_true, false_iff, not_and]
    intro _; omega
  rw [if_neg (by simpa using h4)]
  have := loopP (n := c.tables.length) (L := fun i => sCatalogOk_L0 c i) (good := fun i => ∃ t, c.tables[i]? = some t ∧ tableP t ∧ sTableAt c t.name = some (i : Int)) (KP := True) ?_ ?_
  · obtain ⟨b, h1, h2⟩ := this
    exact ⟨b, h1, h2.trans ⟨fun h => ⟨h.1, by omega⟩, fun h => ⟨h.1, trivial⟩⟩⟩
  · intro i hi
    try dsimp only
    rw [sCatalogOk_L0]
    obtain ⟨n1, b, n2, n3⟩ := nameOk_iff c.tables[i].name
    obtain ⟨c1, k, c2⟩ := tableAt_eq c c.tables[i].name hs.1
    have := hs.1
    have hcl := hs.2 _ (List.getElem_mem hi)
    have inner : ∀ (j : Nat), j ≤ c.tables[i].cols.length → ((∀ m, j ≤ m → m < c.tables[i].cols.length → colP c.tables[i] m) → sCatalogOk_L1 (i : Int) c c.tables[i] (j : Nat) = sCatalogOk_L0 c ((i + 1 : Nat) : Int)) ∧ (¬ (∀ m, j ≤ m → m < c.tables[i].cols.length → colP c.tables[i] m) → sCatalogOk_L1 (i : Int) c c.tables[i] (j : Nat) = some false) := by
      refine back_ind ?_ ?_
      · rw [sCatalogOk_L1]
        simp only [lt_dec, Nat.lt_irrefl, decide_false, Bool.false_eq_true, if_false, wrap_next hi (by omega)]
        refine ⟨fun _ => trivial, fun h => absurd (fun m h1 h2 => by omega) h⟩
      · intro j hj ih
        rw [sCatalogOk_L1]
        obtain ⟨_, b', m2, m3⟩ := nameOk_iff c.tables[i].cols[j].name
        obtain ⟨_, k', d2⟩ := colAt_eq c.tables[i] c.tables[i].cols[j].name hcl
        simp only [lt_dec, idx_lt hj, wrap_next hj (by omega), hj, decide_true, if_true, m2, d2, sL1In, Option.bind_eq_bind, Option.bind_some]
        have hP : colP c.tables[i] j ↔ b' = true ∧ (1 ≤ c.tables[i].cols[j].type ∧ c.tables[i].cols[j].type ≤ 3) ∧ k' = (j : Int) := by
          unfold colP
          constructor
          · rintro ⟨c', h1, h2, h3, h4⟩
            rw [List.getElem?_eq_getElem hj] at h1
            simp only [Option.some.injEq] at h1; subst h1
            rw [d2] at h4
            exact ⟨m3.2 h2, h3, by simpa using h4⟩
          · rintro ⟨h2, h3, h4⟩
            exact ⟨_, List.getElem?_eq_getElem hj, m3.1 h2, h3, by rw [d2, h4]⟩
        have hall : (∀ m, j ≤ m → m < c.tables[i].cols.length → colP c.tables[i] m) ↔ colP c.tables[i] j ∧ ∀ m, j + 1 ≤ m → m < c.tables[i].cols.length → colP c.tables[i] m := by
          constructor
          · intro h; exact ⟨h j (by omega) hj, fun m h1 h2 => h m (by omega) h2⟩
          · rintro ⟨h1, h2⟩ m h3 h4
            by_cases e : m = j
            · subst e; exact h1
            · exact h2 m (by omega) h4
        rw [hall, hP]
        cases b' with
        | false => simp
        | true =>
          by_cases hk : k' = (j : Int)
          · by_cases t1 : 1 ≤ c.tables[i].cols[j].type
            · by_cases t3 : c.tables[i].cols[j].type ≤ 3
              · have t3' : ¬ 3 < c.tables[i].cols[j].type := by omega
                simpa [hk, t1, t3, t3', d2] using ih
              · simp [hk, t1, t3, d2]
            · simp [hk, t1, d2]
          · simp [hk, d2]
    obtain ⟨i1, i2⟩ := inner 0 (by omega)
    rw [show ((0 : Nat) : Int) = 0 from rfl] at i1 i2
    simp only [lt_dec, idx_lt hi, wrap_next hi (by omega), hi, decide_true, if_true, n2, c2, sL1In, Option.bind_eq_bind, Option.bind_some]
    have hP : (∃ t, c.tables[i]? = some t ∧ tableP t ∧ sTableAt c t.name = some (i : Int)) ↔ tableP c.tables[i] ∧ k = (i : Int) := by
      constructor
      · rintro ⟨t, h1, h2, h3⟩
        rw [List.getElem?_eq_getElem hi] at h1
        simp only [Option.some.injEq] at h1; subst h1
        rw [c2] at h3
        exact ⟨h2, by simpa using h3⟩
      · rintro ⟨h2, h3⟩
        exact ⟨_, List.getElem?_eq_getElem hi, h2, by rw [c2, h3]⟩
    rw [hP]
    unfold tableP
    rw [← n3]
    cases b with
    | false => simp
    | true =>
      by_cases hk : k = (i : Int)
      · by_cases l1 : (1 : Int) ≤ (c.tables[i].cols.length : Int)
        · by_cases l4 : (c.tables[i].cols.length : Int) ≤ 4
          · have l1' : 1 ≤ c.tables[i].cols.length := by omega
            have l4' : c.tables[i].cols.length ≤ 4 := by omega
            simp only [hk, l1, l4, l1', l4']
            simp only [Nat.zero_le, true_implies] at i1 i2
            simpa using And.intro i1 (fun (x : Nat) (hx : x < c.tables[i].cols.length) (hn : ¬ colP c.tables[i] x) => i2 fun h => hn (h x hx))
          · have l4' : ¬ c.tables[i].cols.length ≤ 4 := by omega
            simp [hk, l1, l4, l4']
        · have l1' : ¬ 1 ≤ c.tables[i].cols.length := by omega
          simp [hk, l1, l1']
      · simp [hk]
  · try dsimp only
    rw [sCatalogOk_L0]
    exact ⟨true, by simp, by simp⟩

/-! drawCat -/
/-- a catalog that is drawn -/
def okC (r : GCatalog × GL1Cur) : Prop := (1 ≤ r.1.tables.length ∧ r.1.tables.length ≤ 3 ∧ ∀ t ∈ r.1.tables, t.cols.length ≤ 3) ∧ okCur r.2
def okD (r : GCatalog × GL1Cur) : Prop := (r.1.tables.length ≤ 5 ∧ ∀ t ∈ r.1.tables, t.cols.length ≤ 4) ∧ okCur r.2
theorem wrap1 {i : Nat} (h : i ≤ 1000) : IntKind.wrap .i64 ((i : Int) + 1) = ((i + 1 : Nat) : Int) := by rw [wrap_ok (by omega) (by omega)]; omega
theorem right16_L0 (y1 : Int × GL1Cur) (h0 : 0 ≤ y1.1) (h3 : y1.1 < 3) : ∀ (k i : Nat) b j h (T : List GTable), 3 ≤ k + i → i ≤ 3 → T.length = i → (∀ t ∈ T, t.cols.length ≤ 3) → okCur ⟨b, j, h⟩ → Yes (sL16Right_X_L0 y1 i b j h T) okC := by
  intro k
  induction k with
  | zero =>
    intro i b j h T h1 h2 hT hC hc
    rw [sL16Right_X_L0, if_neg (by rw [decide_eq_true_eq, wrap_ok (by omega) (by omega)]; omega)]
    exact Yes.some ⟨⟨by dsimp only; omega, by dsimp only; omega, hC⟩, hc⟩
  | succ k ih =>
    intro i b j h T h1 h2 hT hC hc
    rw [sL16Right_X_L0]
    by_cases hi : (i : Int) < IntKind.wrap .i64 (1 + y1.1)
    case neg =>
      rw [if_neg (by rw [decide_eq_true_eq]; exact hi)]
      rw [wrap_ok (by omega) (by omega)] at hi
      exact Yes.some ⟨⟨by dsimp only; omega, by dsimp only; omega, hC⟩, hc⟩
    rw [if_pos (decide_eq_true hi)]
    rw [wrap_ok (by omega) (by omega)] at hi
    have hi3 : i < ([[116], [117], [118]] : List (List UInt8)).length := by show i < 3; omega
    rw [idx_lt hi3]
    simp only [Option.bind_eq_bind, Option.bind_some]
    refine Yes.bind (below_y _ _ hc) fun y3 ⟨k0, k1, hc3⟩ => ?_
    have k1 := k1 (by omega)
    generalize ([[116], [117], [118]] : List (List UInt8))[i] = y2
    have fin : ∀ b j h (C : List GCol), C.length ≤ 3 → okCur ⟨b, j, h⟩ → Yes (appG 40 T ([(GTable.mk y2 C)] : List GTable) >>= fun y14 => sL16Right_X_L0 y1 (IntKind.wrap .i64 ((i : Int) + 1)) b j h y14) okC := by
      intro b j h C hl hc
      refine Yes.bind (app_y (by simp; omega)) fun y e => ?_
      subst e
      rw [wrap1 (by omega)]
      refine ih (i + 1) _ _ _ _ (by omega) (by omega) (by simp; omega) (fun t ht => ?_) hc
      rcases List.mem_append.1 ht with ht | ht
      · exact hC t ht
      · rw [List.mem_singleton] at ht; subst ht; exact hl
    have inner : ∀ (m x : Nat) b j h (C : List GCol), 3 ≤ m + x → x ≤ 3 → C.length ≤ x → okCur ⟨b, j, h⟩ → Yes (sL16Right_X_L1 y1 i y3 y2 T x (b, (j, (h, C)))) okC := by
      intro m
      induction m with
      | zero =>
        intro x b j h C m1 m2 hl hc
        rw [sL16Right_X_L1, if_neg (by rw [decide_eq_true_eq, wrap_ok (by omega) (by omega)]; omega)]
        exact fin b j h C (by omega) hc
      | succ m ihm =>
        intro x b j h C m1 m2 hl hc
        rw [sL16Right_X_L1]
        by_cases hx : (x : Int) < IntKind.wrap .i64 (1 + y3.1)
        case neg =>
          rw [if_neg (by rw [decide_eq_true_eq]; exact hx)]
          exact fin b j h C (by omega) hc
        rw [if_pos (decide_eq_true hx)]
        rw [wrap_ok (by omega) (by omega)] at hx
        have J3 : ∀ b j h (C : List GCol), C.length ≤ x + 1 → okCur ⟨b, j, h⟩ → Yes (sL16Right_X_J3 y1 i y3 x y2 b (j, (h, (T, C)))) okC := by
          intro b j h C hl hc
          rw [sL16Right_X_J3, wrap1 (by omega)]
          exact ihm (x + 1) _ _ _ _ (by omega) (by omega) hl hc
        have J2 : ∀ (y8 : Int × GL1Cur) (nm : List UInt8) b j h, okCur ⟨b, j, h⟩ → Yes (sL16Right_X_J2 y1 i y3 x y2 y8 C (T, (nm, (b, (j, h))))) okC := by
          intro y8 nm b j h hc
          rw [sL16Right_X_J2]
          obtain ⟨_, r, hr⟩ := colAt_eq ⟨y2, C⟩ nm (by dsimp only; omega)
          rw [hr]
          simp only [Option.bind_eq_bind, Option.bind_some]
          refine Yes.ite (fun _ => ?_) fun _ => J3 _ _ _ _ (by omega) hc
          refine Yes.bind (app_y (by simp; omega)) fun y e => ?_
          subst e
          exact J3 _ _ _ _ (by simp; omega) hc
        refine Yes.bind (pick_y _ _ (by decide) hc) fun y7 hc => ?_
        refine Yes.bind (pickI_y _ _ (by decide) hc) fun y8 hc => ?_
        refine Yes.bind (once_y _ _ hc) fun y9 hc => ?_
        refine Yes.ite (fun _ => ?_) fun _ => J2 _ _ _ _ _ hc
        exact Yes.bind (name_y _ hc) fun y10 hc => J2 _ _ _ _ _ hc
    exact inner 3 0 _ _ _ _ (by omega) (by omega) (by simp) hc3
theorem right16_y (c : GL1Cur) (h : okCur c) : Yes (sL16Right_X c) okC := by
  unfold sL16Right_X
  refine Yes.bind (below_y _ _ h) fun y1 ⟨k0, k1, hc⟩ => ?_
  exact right16_L0 y1 k0 (k1 (by omega)) 3 0 _ _ _ _ (by omega) (by omega) rfl (by simp) hc
theorem draw16_L1 : ∀ (k : Nat) b j h (T : List GTable), 5 ≤ k + T.length → T.length ≤ 5 → (∀ t ∈ T, t.cols.length ≤ 4) → okCur ⟨b, j, h⟩ → Yes (sL16Draw_L1 b j h T) okD := by
  intro k
  induction k with
  | zero =>
    intro b j h T h1 h2 hC hc
    rw [sL16Draw_L1]
    refine Yes.bind (below_y _ _ hc) fun y ⟨k0, k1, hc⟩ => ?_
    have k1 := k1 (by omega)
    rw [if_neg (by rw [decide_eq_true_eq, wrap_ok (by omega) (by omega)]; omega)]
    exact Yes.some ⟨⟨h2, hC⟩, hc⟩
  | succ k ih =>
    intro b j h T h1 h2 hC hc
    rw [sL16Draw_L1]
    refine Yes.bind (below_y _ _ hc) fun y ⟨k0, k1, hc⟩ => ?_
    have k1 := k1 (by omega)
    by_cases hi : (T.length : Int) < IntKind.wrap .i64 (4 + y.1)
    case neg =>
      rw [if_neg (by rw [decide_eq_true_eq]; exact hi)]
      exact Yes.some ⟨⟨h2, hC⟩, hc⟩
    rw [if_pos (decide_eq_true hi)]
    rw [wrap_ok (by omega) (by omega)] at hi
    have hl := Lib.itoa_length_le (T.length : Int) (by omega) (by omega)
    rw [sDigits_itoa _ (by omega) (by omega)]
    simp only [Option.bind_eq_bind, Option.bind_some]
    rw [catS_ok (by simp; omega)]
    simp only [Option.bind_some]
    rw [appG_ok (by simp; omega)]
    simp only [Option.bind_some]
    refine ih _ _ _ _ (by simp; omega) (by simp; omega) (fun t ht => ?_) hc
    rcases List.mem_append.1 ht with ht | ht
    · exact hC t ht
    · rw [List.mem_singleton] at ht; subst ht; simp
theorem set_cols {T : List GTable} {x : GTable} {n : Nat} (hT : ∀ t ∈ T, t.cols.length ≤ 4) (hx : x.cols.length ≤ 4) : ∀ t ∈ T.set n x, t.cols.length ≤ 4 := fun t ht => by
  rcases List.mem_or_eq_of_mem_set ht with h | h
  · exact hT t h
  · subst h; exact hx
theorem draw16_y (c : GL1Cur) (h : okCur c) : Yes (sL16Draw c) okD := by
  have J0 : ∀ b j h (T : List GTable), T.length ≤ 5 → (∀ t ∈ T, t.cols.length ≤ 4) → okCur ⟨b, j, h⟩ → Yes (sL16Draw_J0 T b j h) okD := fun b j h T h1 h2 hc => Yes.some ⟨⟨h1, h2⟩, hc⟩
  unfold sL16Draw
  refine Yes.bind (right16_y _ h) fun y1 ⟨⟨l1, l3, lc⟩, hc⟩ => ?_
  have lc4 : ∀ t ∈ y1.1.tables, t.cols.length ≤ 4 := fun t ht => Nat.le_trans (lc t ht) (by omega)
  have e0 : idx y1.1.tables 0 = some y1.1.tables[0] := idx_lt (i := 0) (by omega)
  have h0 : y1.1.tables[0].cols.length ≤ 3 := lc _ (List.getElem_mem (by omega))
  refine Yes.bind (below_y _ _ hc) fun y2 ⟨_, _, hc⟩ => Yes.ite (fun _ => ?_) fun _ => Yes.ite (fun _ => ?_) fun _ => Yes.ite (fun _ => ?_) fun _ => Yes.ite (fun _ => ?_) fun _ => Yes.ite (fun _ => ?_) fun _ => Yes.ite (fun _ => ?_) fun _ => ?_
  · rw [e0]
    simp only [Option.bind_eq_bind, Option.bind_some]
    rw [appG_ok (by simp; omega)]
    simp only [Option.bind_some]
    refine J0 _ _ _ _ (by simp; omega) (fun t ht => ?_) hc
    rcases List.mem_append.1 ht with ht | ht
    · exact lc4 t ht
    · rw [List.mem_singleton] at ht; subst ht; omega
  · rw [e0]
    simp only [Option.bind_eq_bind, Option.bind_some]
    refine Yes.bind (any_y _ hc) fun y6 hc => Yes.bind (below_y _ _ hc) fun y7 ⟨_, _, hc⟩ => ?_
    rw [appG_ok (by simp; omega)]
    simp only [Option.bind_eq_bind, Option.bind_some]
    exact J0 _ _ _ _ (by simp; omega) (set_cols lc4 (by simp; omega)) hc
  · refine Yes.bind (any_y _ hc) fun y9 hc => ?_
    rw [e0]
    simp only [Option.bind_eq_bind, Option.bind_some]
    exact J0 _ _ _ _ (by simp; omega) (set_cols lc4 (by simp; omega)) hc
  · rw [e0]
    simp only [Option.bind_eq_bind, Option.bind_some]
    exact J0 _ _ _ _ (by simp; omega) (set_cols lc4 (by simp)) hc
  · exact J0 _ _ _ _ (by simp) (by simp) hc
  · exact draw16_L1 5 _ _ _ _ (by omega) (by omega) lc4 hc
  · exact J0 _ _ _ _ (by omega) lc4 hc

/-! FnEmptyDb -/
theorem typesOf_ok (t : GTable) (hl : t.cols.length ≤ 1048576) : ∃ r, iTypesOf t = some r := by
  unfold iTypesOf
  have key : ∀ i, i ≤ t.cols.length → ∀ l : List Int, l.length ≤ i → ∃ r, iTypesOf_L0 t l (i : Nat) = some r := by
    refine back_ind ?_ ?_
    · intro l _
      rw [iTypesOf_L0]; simp
    · intro i hi ih l hl2
      rw [iTypesOf_L0]
      have ea : appG 8 l [t.cols[i].type] = some (l ++ [t.cols[i].type]) := by unfold appG; rw [if_pos (by simp; omega)]
      simp only [lt_dec, idx_lt hi, wrap_next hi (by omega), hi, decide_true, if_true, ea, Option.bind_eq_bind, Option.bind_some]
      exact ih _ (by simp; omega)
  exact key 0 (by omega) [] (by simp)
theorem emptyOk (c : GCatalog) (hc : catSmall c) : iDbOk c ⟨List.replicate c.tables.length ⟨[]⟩⟩ = sCatalogOk c := by
  obtain ⟨b1, i1, i2⟩ := iCatalogOk_iff c hc
  obtain ⟨b2, s1, s2⟩ := sCatalogOk_iff c hc
  have e : b1 = b2 := iff_eq i2 s2 Iff.rfl
  subst e
  unfold iDbOk
  rw [i1, s1]
  have h0 := hc.1
  cases b1 with
  | false => simp
  | true =>
    have key : ∀ i, i ≤ c.tables.length → iDbOk_L0 ⟨List.replicate c.tables.length ⟨[]⟩⟩ c (i : Nat) = some true := by
      refine back_ind ?_ ?_
      · rw [iDbOk_L0]; simp
      · intro i hi ih
        obtain ⟨r, hr⟩ := typesOf_ok c.tables[i] (hc.2 _ (List.getElem_mem hi))
        rw [iDbOk_L0]
        have hi' : i < (List.replicate c.tables.length (GData.mk [])).length := by simp; exact hi
        have e1 : gSlices_ContainsFunc_SSimpl_Value_Simpl_Value_iDbOk_1 [] r = some false := by
          unfold gSlices_ContainsFunc_SSimpl_Value_Simpl_Value_iDbOk_1 gSlices_IndexFunc_SSimpl_Value_Simpl_Value_iDbOk_1
          rw [gSlices_IndexFunc_SSimpl_Value_Simpl_Value_iDbOk_1_L0]; simp
        simp only [lt_dec, idx_lt hi', idx_lt hi, List.getElem_replicate, hr, wrap_next hi (by omega), ih, e1, Option.bind_eq_bind, Option.bind_some]
        simp [hi]
    simpa using key 0 (by omega)
theorem sameRows_nil : iSameRows [] [] = some true := by
  unfold iSameRows gSlices_EqualFunc_SSimpl_Value_SSimpl_Value_Simpl_Value_Simpl_Value_gSlices_Equal_Simpl_Value_impl_Value
  rw [gSlices_EqualFunc_SSimpl_Value_SSimpl_Value_Simpl_Value_Simpl_Value_gSlices_Equal_Simpl_Value_impl_Value_L0]; simp
theorem sameDb_empty (n : Nat) (hn : n ≤ 1048576) : iSameDb ⟨List.replicate n ⟨[]⟩⟩ ⟨List.replicate n ⟨[]⟩⟩ = some true := by
  unfold iSameDb gSlices_EqualFunc_Simpl_Data_Simpl_Data_impl_Data_impl_Data_iSameDb_1
  have key : ∀ i, i ≤ n → gSlices_EqualFunc_Simpl_Data_Simpl_Data_impl_Data_impl_Data_iSameDb_1_L0 (List.replicate n ⟨[]⟩) (List.replicate n ⟨[]⟩) (i : Nat) = some true := by
    refine back_ind ?_ ?_
    · rw [gSlices_EqualFunc_Simpl_Data_Simpl_Data_impl_Data_impl_Data_iSameDb_1_L0]; simp
    · intro i hi ih
      have hi' : i < (List.replicate n (GData.mk [])).length := by simp; exact hi
      rw [gSlices_EqualFunc_Simpl_Data_Simpl_Data_impl_Data_impl_Data_iSameDb_1_L0]
      simp only [lt_dec, idx_lt hi', List.getElem_replicate, iSameDb_1, sameRows_nil, wrap_next hi (by omega), ih, Option.bind_eq_bind, Option.bind_some]
      simp [hi]
  have := key 0 (by omega)
  simpa using this
theorem fnEmptyDb_true (p : List Int) (_ : okL okU8 p) : wFnEmptyDb p = some true := by
  unfold wFnEmptyDb wBig
  simp only [Option.bind_eq_bind, Option.bind_some]
  by_cases hb : (1048576 : Int) < (p.length : Int)
  · simp [hb]
  rw [if_neg (by simpa using hb)]
  obtain ⟨c0, e0, k0⟩ := l1New_ok p (by omega)
  obtain ⟨r, e1, ⟨⟨h5, h4⟩, _⟩⟩ := draw16_y c0 k0
  obtain ⟨c, c1⟩ := r
  dsimp only at h5 h4
  have hc : catSmall c := ⟨by omega, fun t ht => by have := h4 t ht; omega⟩
  obtain ⟨b, hb2, _⟩ := sCatalogOk_iff c hc
  have em : iEmptyDb c = some ⟨List.replicate c.tables.length ⟨[]⟩⟩ := by
    unfold iEmptyDb
    rw [mkG_ok (by omega)]; simp
  have er : iRowsText [] = some [] := by
    unfold iRowsText; rw [iRowsText_L0]; simp [gStrings_Builder_String_x, ofBytes]
  have hk := emptyOk c hc
  have hs := sameDb_empty c.tables.length (by omega)
  unfold sDrawEmptyDb
  simp only [e0, e1, em, hk, hb2, hs, er, Option.bind_eq_bind, Option.bind_some]
  simp

end Go.Ab
