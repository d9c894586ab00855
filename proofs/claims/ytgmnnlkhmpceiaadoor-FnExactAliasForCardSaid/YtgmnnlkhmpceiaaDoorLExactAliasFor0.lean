/- What the functions compute, in plain Lean. -/
import Derived.Test.YtgmnnlkhmpceiaaDoorFExactAliasFor
namespace Go.Ab
open Go
/-! base -/

theorem wrap_ok {n : Int} (h1 : -9223372036854775808 ≤ n) (h2 : n ≤ 9223372036854775807) : IntKind.wrap .i64 n = n := by rw [IntKind.wrap_i64]; omega
/-- the next round of a loop over a list -/
theorem wrap_next {i n : Nat} (h : i < n) (hn : n ≤ 4611686018427387904) : IntKind.wrap .i64 ((i : Int) + 1) = ((i + 1 : Nat) : Int) := by rw [wrap_ok] <;> omega
theorem lt_dec (i n : Nat) : decide ((i : Int) < (n : Int)) = decide (i < n) := by simp
theorem idx_nat {α : Type} (l : List α) (i : Nat) : idx l (i : Int) = l[i]? := by simp [idx]
theorem idx_lt {α : Type} {l : List α} {i : Nat} (h : i < l.length) : idx l (i : Int) = some l[i] := by rw [idx_nat]; simp [h]
/-- from the last round backwards -/
theorem back_ind {M : Nat → Prop} {n : Nat} (h0 : M n) (h : ∀ i, i < n → M (i + 1) → M i) : ∀ i, i ≤ n → M i := by
  have : ∀ k i, i + k = n → M i := by
    intro k
    induction k with
    | zero => intro i hi; have : i = n := by omega
              subst this; exact h0
    | succ k ih => intro i hi; exact h i (by omega) (ih (i + 1) (by omega))
  exact fun i hi => this (n - i) i (by omega)
/-- A loop that copies a list element by element into a made one. -/
theorem copy_all {α : Type} {p : List α} {F : Int → List α → Option (List α)} (hn : p.length ≤ 4611686018427387904)
    (hF : ∀ (i : Nat) b, b.length = p.length → F i b = if i < p.length then (idx p i >>= fun v => setG b i v >>= fun c => F (IntKind.wrap .i64 ((i : Int) + 1)) c) else some b) :
    ∀ b, b.length = p.length → F 0 b = some p := by
  have key : ∀ i, i ≤ p.length → ∀ b, b.length = p.length → b.take i = p.take i → F (i : Nat) b = some p := by
    refine back_ind ?_ ?_
    · intro b hb ht
      rw [hF _ _ hb, if_neg (by omega)]
      rw [← hb, List.take_length] at ht
      rw [ht, hb, List.take_length]
    · intro i hi ih b hb ht
      rw [hF _ _ hb, if_pos hi, idx_lt hi]
      have hs : setG b i p[i] = some (b.set i p[i]) := by
        unfold setG; rw [if_pos ⟨by omega, by simp; omega⟩]; simp
      simp only [Option.bind_eq_bind, Option.bind_some, hs, wrap_next hi hn]
      refine ih _ (by simp [hb]) ?_
      rw [List.take_add_one, List.take_add_one]
      have e1 : (b.set i p[i]).take i = b.take i := by rw [List.take_set_of_le (Nat.le_refl _)]
      rw [e1, ht]
      simp [hb, hi]
  intro b hb
  exact key 0 (by omega) b hb (by simp)
theorem mkG_ok {α : Type} {by' : Nat} {n : Nat} {z : α} (h : (n : Int) * by' ≤ 140737488355328) : mkG by' (n : Int) z = some (List.replicate n z) := by
  unfold mkG; rw [if_pos ⟨by omega, h⟩]; simp

/-! digits -/
theorem catS_ok {a b : List UInt8} (h : a.length + b.length ≤ 1073741824) : catS a b = some (a ++ b) := by
  unfold catS; rw [if_pos (Nat.le_trans h (by decide))]
theorem byte_digit {d : Nat} (h : d < 10) (x4 : List UInt8) : ofBytes ([(IntKind.wrap .u8 (IntKind.wrap .i64 (48 + (d : Int))))] : List Int) = some [UInt8.ofNat (48 + d)] := by
  match d, h with
  | 0, _ => rfl
  | 1, _ => rfl
  | 2, _ => rfl
  | 3, _ => rfl
  | 4, _ => rfl
  | 5, _ => rfl
  | 6, _ => rfl
  | 7, _ => rfl
  | 8, _ => rfl
  | 9, _ => rfl
theorem sDigits_loop (p0 : Int) : ∀ n : Nat, n ≤ 9223372036854775808 → ∀ out : List UInt8, out.length + Lib.nDigits n ≤ 1000 → ∀ x0 : Int, (x0 = n ∨ x0 = -(n : Int)) →
    sDigits_L0 p0 x0 out = some ((if p0 < 0 then [45] else []) ++ ((if n = 0 then [] else Lib.decDigits n) ++ out)) := by
  intro n
  induction n using Nat.strongRecOn with
  | ind n ih =>
    intro hn out ho x0 hx
    rw [sDigits_L0]
    by_cases h0 : n = 0
    · subst h0
      have : x0 = 0 := by omega
      subst this
      have hc : catS [45] out = some (45 :: out) := catS_ok (by simp; omega)
      by_cases hp : p0 < 0 <;> simp [hp, hc]
    · have hx0 : x0 ≠ 0 := by omega
      have hdiv : Int.tdiv x0 10 = ((n / 10 : Nat) : Int) ∨ Int.tdiv x0 10 = -((n / 10 : Nat) : Int) := by
        rcases hx with rfl | rfl
        · left; simp [Int.tdiv]
        · right; rw [Int.neg_tdiv]; simp [Int.tdiv]
      have hdd : IntKind.wrap .i64 (Int.tdiv x0 10) = Int.tdiv x0 10 := wrap_ok (by omega) (by omega)
      have hm : Int.tmod x0 10 = ((n % 10 : Nat) : Int) ∨ Int.tmod x0 10 = -((n % 10 : Nat) : Int) := by
        rcases hx with rfl | rfl
        · left; simp [Int.tmod]
        · right; rw [Int.neg_tmod]; simp [Int.tmod]
      have hlt : n % 10 < 10 := Nat.mod_lt _ (by omega)
      have hnd : Lib.nDigits (n / 10) ≤ Lib.nDigits n := by
        by_cases hs : n < 10
        · have : n / 10 = 0 := by omega
          rw [this, Lib.nDigits_small (by omega)]; exact Lib.nDigits_pos _
        · rw [Lib.nDigits_big hs]; omega
      have hnd1 : n / 10 ≠ 0 → Lib.nDigits (n / 10) + 1 = Lib.nDigits n := fun h => by rw [← Lib.nDigits_big (u := n) (by omega)]
      have hpos := Lib.nDigits_pos n
      have key : sDigits_J1 x0 p0 out ((n % 10 : Nat) : Int) = some ((if p0 < 0 then [45] else []) ++ (Lib.decDigits n ++ out)) := by
        rw [sDigits_J1, byte_digit hlt out]
        simp only [Option.bind_eq_bind, Option.bind_some]
        rw [catS_ok (by simp; omega)]
        simp only [Option.bind_some]
        rw [hdd]
        by_cases hs : n / 10 = 0
        · have hz : Int.tdiv x0 10 = 0 := by omega
          have hn10 : n < 10 := by omega
          rw [hz, sDigits_L0]
          have hmod : n % 10 = n := Nat.mod_eq_of_lt hn10
          have hc : catS [45] ([UInt8.ofNat (48 + n % 10)] ++ out) = some (45 :: ([UInt8.ofNat (48 + n % 10)] ++ out)) := catS_ok (by simp; omega)
          rw [Lib.decDigits_one hn10]
          by_cases hp : p0 < 0
          · simp [hp, hmod] at hc ⊢
            rw [hc]
          · simp [hp, hmod]
        · rw [ih (n / 10) (by omega) (by omega) _ (by have := hnd1 hs; simp; omega) _ hdiv, if_neg hs]
          conv => rhs; rw [Lib.decDigits, dif_neg (by omega)]
          simp
      rw [if_pos (by simp [hx0]), if_neg h0]
      by_cases hneg : Int.tmod x0 10 < 0
      · rw [if_pos (by simp [hneg])]
        have e : IntKind.wrap .i64 (0 - Int.tmod x0 10) = ((n % 10 : Nat) : Int) := by rw [wrap_ok (by omega) (by omega)]; omega
        rw [e, key]
      · rw [if_neg (by simp [hneg])]
        have e : Int.tmod x0 10 = ((n % 10 : Nat) : Int) := by omega
        rw [e, key]
/-- the reference's numeral is the library's -/
theorem sDigits_itoa (n : Int) (h1 : -9223372036854775808 ≤ n) (h2 : n ≤ 9223372036854775807) : sDigits n = some (Lib.itoa n) := by
  unfold sDigits
  by_cases h0 : n = 0
  · subst h0; simp; rw [Lib.itoa]; simp; rw [Lib.decDigits_one (by omega)]; rfl
  · have hl : Lib.nDigits n.natAbs ≤ 20 := Lib.nDigits_le20 _ (by omega)
    rw [if_neg (by simp [h0]), sDigits_loop n n.natAbs (by omega) [] (by simp; omega) n (by omega), if_neg (show ¬ n.natAbs = 0 by omega)]
    unfold Lib.itoa
    by_cases hn : n < 0
    · simp [hn]
    · have : n.natAbs = n.toNat := by omega
      simp [hn, this]

/-! FnExactAliasFor -/
theorem sAliasFor_ok (a b : Int) (ha : okI a) (hb : okI b) : sAliasFor a b = iAliasFor a b := by
  unfold sAliasFor iAliasFor iDigits gStrconv_Itoa
  rw [sDigits_itoa a ha.1 ha.2, sDigits_itoa b hb.1 hb.2]
  simp
theorem fnExactAliasFor_true (a : Int) (ha : okI a) (b : Int) (hb : okI b) : wFnExactAliasFor a b = some true := by
  unfold wFnExactAliasFor
  rw [sAliasFor_ok a b ha hb]
  have h1 := Lib.itoa_length_le a ha.1 ha.2
  have h2 := Lib.itoa_length_le b hb.1 hb.2
  have : ∃ y, iAliasFor a b = some y := by
    unfold iAliasFor iDigits gStrconv_Itoa
    simp only [Option.bind_eq_bind, Option.bind_some]
    rw [catS_ok (by simp; omega)]
    simp only [Option.bind_some]
    rw [catS_ok (by simp; omega)]
    simp only [Option.bind_some]
    rw [catS_ok (by simp; omega)]
    exact ⟨_, rfl⟩
  obtain ⟨y, hy⟩ := this
  simp [hy]

end Go.Ab
