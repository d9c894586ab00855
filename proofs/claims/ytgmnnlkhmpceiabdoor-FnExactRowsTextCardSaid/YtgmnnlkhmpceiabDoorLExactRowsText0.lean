/- What the functions compute, in plain Lean. -/
import Derived.Test.YtgmnnlkhmpceiabDoorFExactRowsText
namespace Go.Ab
open Go
/-! base -/

theorem wrap_ok {n : Int} (h1 : -9223372036854775808 ≤ n) (h2 : n ≤ 9223372036854775807) : IntKind.wrap .i64 n = n := by rw [IntKind.wrap_i64]; omega
/-- the next round of a loop over a list -/
theorem wrap_next {i n : Nat} (h : i < n) (hn : n ≤ 4611686018427387904) : IntKind.wrap .i64 ((i : Int) + 1) = ((i + 1 : Nat) : Int) := by rw [wrap_ok] <;> omega
theorem lt_dec (i n : Nat) : decide ((i : Int) < (n : Int)) = decide (i < n) := by simp
theorem idx_nat {α : Type} (l : List α) (i : Nat) : idx l (i : Int) = l[i]? := by simp [idx]
theorem idx_lt {α : Type} {l : List α} {i : Nat} (h : i < l.length) : idx l (i : Int) = some l[i] := by rw [idx_nat]; simp [h]
/-- from the last round backwards -/
theorem back_ind {M : Nat → Prop} {n : Nat} (h0 : M n) (h : ∀ i, i < n → M (i + 1) → M i) : ∀ i, i ≤ n → M i := by
  have : ∀ k i, i + k = n → M i := by
    intro k
    induction k with
    | zero => intro i hi; have : i = n := by omega
              subst this; exact h0
    | succ k ih => intro i hi; exact h i (by omega) (ih (i + 1) (by omega))
  exact fun i hi => this (n - i) i (by omega)
/-- A loop that copies a list element by element into a made one. -/
theorem copy_all {α : Type} {p : List α} {F : Int → List α → Option (List α)} (hn : p.length ≤ 4611686018427387904)
    (hF : ∀ (i : Nat) b, b.length = p.length → F i b = if i < p.length then (idx p i >>= fun v => setG b i v >>= fun c => F (IntKind.wrap .i64 ((i : Int) + 1)) c) else some b) :
    ∀ b, b.length = p.length → F 0 b = some p := by
  have key : ∀ i, i ≤ p.length → ∀ b, b.length = p.length → b.take i = p.take i → F (i : Nat) b = some p := by
    refine back_ind ?_ ?_
    · intro b hb ht
      rw [hF _ _ hb, if_neg (by omega)]
      rw [← hb, List.take_length] at ht
      rw [ht, hb, List.take_length]
    · intro i hi ih b hb ht
      rw [hF _ _ hb, if_pos hi, idx_lt hi]
      have hs : setG b i p[i] = some (b.set i p[i]) := by
        unfold setG; rw [if_pos ⟨by omega, by simp; omega⟩]; simp
      simp only [Option.bind_eq_bind, Option.bind_some, hs, wrap_next hi hn]
      refine ih _ (by simp [hb]) ?_
      rw [List.take_add_one, List.take_add_one]
      have e1 : (b.set i p[i]).take i = b.take i := by rw [List.take_set_of_le (Nat.le_refl _)]
      rw [e1, ht]
      simp [hb, hi]
  intro b hb
  exact key 0 (by omega) b hb (by simp)
theorem mkG_ok {α : Type} {by' : Nat} {n : Nat} {z : α} (h : (n : Int) * by' ≤ 140737488355328) : mkG by' (n : Int) z = some (List.replicate n z) := by
  unfold mkG; rw [if_pos ⟨by omega, h⟩]; simp

/-! trees0 -/
/-- how much a list holds -/
def zL {α : Type} (z : α → Nat) (l : List α) : Nat := l.length + (l.map z).sum
def z0 {α : Type} (_ : α) : Nat := 0
/-- the size of a value, taken off what is left -/
def SzOk {α : Type} (F : α → Int → Option Int) (z : α → Nat) (x : α) : Prop := ∀ n : Int, 0 ≤ n → n ≤ 1048576 → F x n = some (if (z x : Int) ≤ n then n - (z x : Int) else -1)
theorem sum_map_cons {α : Type} (z : α → Nat) (x : α) (l : List α) : ((x :: l).map z).sum = z x + (l.map z).sum := by simp
theorem szLoop_ok {α : Type} {p : List α} {F : α → Int → Option Int} {z : α → Nat} {L : Int → Int → Option Int} (hp : p.length ≤ 1048576)
    (hL : ∀ (i : Nat) (x : Int), L x (i : Int) = if (decide ((i : Int) < (p.length : Int))) = true then ((idx p (i : Int)) >>= fun y => (F y x) >>= fun r => if (decide (r < 0)) = true then (some (-1)) else L r (IntKind.wrap .i64 ((i : Int) + 1))) else some x)
    (H : ∀ y ∈ p, SzOk F z y) : ∀ n : Int, 0 ≤ n → n ≤ 1048576 → L n 0 = some (if ((p.map z).sum : Int) ≤ n then n - ((p.map z).sum : Int) else -1) := by
  have key : ∀ i, i ≤ p.length → ∀ n : Int, 0 ≤ n → n ≤ 1048576 → L n (i : Nat) = some (if (((p.drop i).map z).sum : Int) ≤ n then n - (((p.drop i).map z).sum : Int) else -1) := by
    refine back_ind ?_ ?_
    · intro n h0 h1
      rw [hL]; simp [h0]
    · intro i hi ih n h0 h1
      rw [hL, idx_lt hi, wrap_next hi (by omega)]
      rw [List.drop_eq_getElem_cons hi, sum_map_cons]
      simp only [Option.bind_eq_bind, Option.bind_some, lt_dec, hi, decide_true, if_true, H _ (List.getElem_mem hi) n h0 h1]
      by_cases hz : (z p[i] : Int) ≤ n
      · rw [if_pos hz, if_neg (by simp; omega), ih _ (by omega) (by omega)]
        congr 1
        by_cases hr : (((p.drop (i + 1)).map z).sum : Int) ≤ n - z p[i]
        · rw [if_pos hr, if_pos (by omega)]; omega
        · rw [if_neg hr, if_neg (by omega)]
      · rw [if_neg hz, if_pos (by decide), if_neg (by omega)]
  intro n h0 h1
  have := key 0 (by omega) n h0 h1
  simpa using this
theorem szS_ok {α : Type} {p : List α} {F : α → Int → Option Int} {z : α → Nat} {L : Int → Int → Option Int} {S : List α → Int → Option Int} (hp : p.length ≤ 9223372036854775807)
    (hS : ∀ n, S p n = if (decide ((IntKind.wrap .i64 (n - (p.length : Int))) < 0)) = true then (some (-1)) else L (IntKind.wrap .i64 (n - (p.length : Int))) 0)
    (hL : ∀ (i : Nat) (x : Int), L x (i : Int) = if (decide ((i : Int) < (p.length : Int))) = true then ((idx p (i : Int)) >>= fun y => (F y x) >>= fun r => if (decide (r < 0)) = true then (some (-1)) else L r (IntKind.wrap .i64 ((i : Int) + 1))) else some x)
    (H : ∀ y ∈ p, SzOk F z y) : SzOk S (zL z) p := by
  intro n h0 h1
  have hz : ((zL z p : Nat) : Int) = (p.length : Int) + ((p.map z).sum : Int) := by unfold zL; omega
  rw [hS, wrap_ok (by omega) (by omega), hz]
  by_cases hl : n - (p.length : Int) < 0
  · rw [if_pos (by simpa using hl), if_neg (by omega)]
  · rw [if_neg (by simpa using hl), szLoop_ok (by omega) hL H _ (by omega) (by omega)]
    congr 1
    by_cases hr : ((p.map z).sum : Int) ≤ n - p.length
    · rw [if_pos hr, if_pos (by omega)]; omega
    · rw [if_neg hr, if_neg (by omega)]
theorem szInts_ok {α : Type} {p : List α} {S : List α → Int → Option Int} (hp : p.length ≤ 9223372036854775807)
    (hS : ∀ n, S p n = if (decide ((IntKind.wrap .i64 (n - (p.length : Int))) < 0)) = true then (some (-1)) else (some (IntKind.wrap .i64 (n - (p.length : Int))))) : SzOk S (zL z0) p := by
  intro n h0 h1
  have hs : (p.map z0).sum = 0 := by
    clear hS hp
    induction p with
    | nil => rfl
    | cons x p ih => rw [sum_map_cons, ih]; rfl
  have hz : ((zL z0 p : Nat) : Int) = (p.length : Int) := by unfold zL; omega
  rw [hS, wrap_ok (by omega) (by omega), hz]
  by_cases hl : n - (p.length : Int) < 0
  · rw [if_pos (by simpa using hl), if_neg (by omega)]
  · rw [if_neg (by simpa using hl), if_pos (by omega)]
/-- the size of a string -/
def szStr (y : List UInt8) (n : Int) : Option Int := if (decide ((IntKind.wrap .i64 (n - (y.length : Int))) < 0)) = true then (some (-1)) else (some (IntKind.wrap .i64 (n - (y.length : Int))))
theorem szStr_ok (y : List UInt8) (hy : y.length ≤ 9223372036854775807) : SzOk szStr List.length y := by
  intro n h0 h1
  unfold szStr
  rw [wrap_ok (by omega) (by omega)]
  by_cases hl : n - (y.length : Int) < 0
  · rw [if_pos (by simpa using hl), if_neg (by omega)]
  · rw [if_neg (by simpa using hl), if_pos (by omega)]
theorem szStr_bind (y : List UInt8) (x : Int) (K : Int → Option Int) : (if (decide ((IntKind.wrap .i64 (x - (y.length : Int))) < 0)) = true then (some (-1)) else K (IntKind.wrap .i64 (x - (y.length : Int)))) = ((szStr y x) >>= fun r => if (decide (r < 0)) = true then (some (-1)) else K r) := by
  unfold szStr
  by_cases h : (IntKind.wrap .i64 (x - (y.length : Int))) < 0
  · rw [if_pos (by simpa using h), if_pos (by simpa using h)]; rfl
  · rw [if_neg (by simpa using h), if_neg (by simpa using h)]
    simp only [Option.bind_eq_bind, Option.bind_some]
    rw [if_neg (by simpa using h)]
/-- a copy -/
theorem toS_ok {α : Type} {p : List α} {W : α → Option α} {by' : Nat} {d : α} {L : Int → List α → Option (List α)} {S : Option (List α)} (hp : p.length ≤ 1048576) (hby : by' ≤ 134217728)
    (hS : S = (mkG by' (p.length : Int) d >>= fun y => L 0 y))
    (hL : ∀ (i : Nat) b, L (i : Int) b = if (decide ((i : Int) < (p.length : Int))) = true then ((idx p (i : Int)) >>= fun y2 => (W y2) >>= fun y3 => (idx b (i : Int)) >>= fun _ => (setG b (i : Int) y3) >>= fun y5 => L (IntKind.wrap .i64 ((i : Int) + 1)) y5) else some b)
    (H : ∀ y ∈ p, W y = some y) : S = some p := by
  have hm : (p.length : Int) * by' ≤ 140737488355328 := by
    have : (p.length : Int) * by' ≤ 1048576 * 134217728 := Int.mul_le_mul (by omega) (by omega) (by omega) (by omega)
    omega
  rw [hS, mkG_ok hm]
  simp only [Option.bind_eq_bind, Option.bind_some]
  refine copy_all (F := L) (by omega) (fun i b hb => ?_) _ (by simp)
  rw [hL]
  simp only [lt_dec, decide_eq_true_eq, Option.bind_eq_bind]
  split
  · rename_i hi
    have e : idx b (i : Int) = some b[i] := idx_lt (by omega)
    rw [idx_lt hi]
    simp only [Option.bind_some, H _ (List.getElem_mem hi), e]
  · rfl
/-- equal to itself -/
theorem eqS_ok {α : Type} {p : List α} {E : α → α → Option Bool} {L : Int → Option Bool} {S : List α → List α → Option Bool} (hp : p.length ≤ 1048576)
    (hS : S p p = if (!decide ((p.length : Int) = (p.length : Int))) = true then (some false) else L 0)
    (hL : ∀ i : Nat, L (i : Int) = if (decide ((i : Int) < (p.length : Int))) = true then ((idx p (i : Int)) >>= fun y1 => (idx p (i : Int)) >>= fun y2 => (E y1 y2) >>= fun y3 => if (!y3) = true then (some false) else L (IntKind.wrap .i64 ((i : Int) + 1))) else some true)
    (H : ∀ y ∈ p, E y y = some true) : S p p = some true := by
  have key : ∀ i, i ≤ p.length → L (i : Nat) = some true := by
    refine back_ind ?_ ?_
    · rw [hL]; simp
    · intro i hi ih
      rw [hL]
      simp only [lt_dec, idx_lt hi, wrap_next hi (by omega), H _ (List.getElem_mem hi), Option.bind_eq_bind, Option.bind_some, ih]
      simp
  rw [hS]
  have := key 0 (by omega)
  simpa using this
theorem le_sum {α : Type} {z : α → Nat} : ∀ {p : List α} {y : α}, y ∈ p → z y ≤ (p.map z).sum
  | x :: p, y, h => by
    rw [sum_map_cons]
    rcases List.mem_cons.1 h with rfl | h
    · omega
    · have := le_sum (z := z) h; omega

/-! trees -/
def zGValue : GValue → Nat
  | ⟨a0, a1, a2⟩ => a2.length
theorem szGValue_ok : ∀ x : GValue, okGValue x → SzOk wSzValue zGValue x
  | ⟨a0, a1, a2⟩, h => by
    simp only [okGValue] at h
    obtain ⟨o0, o1, o2⟩ := h
    intro n h0 h1
    have b2 : a2.length ≤ 9223372036854775807 := o2
    have hz : ((zGValue ⟨a0, a1, a2⟩ : Nat) : Int) = (a2.length : Int) := by simp only [zGValue] <;> omega
    rw [hz, wSzValue]
    dsimp only
    rw [wrap_ok (n := n - (a2.length : Int)) (by omega) (by omega)]
    by_cases r2 : n - (a2.length : Int) < 0
    · rw [if_pos (by simpa using r2), if_neg (by omega)]
    rw [if_neg (by simpa using r2)]
    first | done | (rw [if_pos (by omega)]; done) | (rw [if_pos (by omega)]; congr 1 <;> omega) | (congr 1 <;> omega)
theorem toGValue_ok : ∀ x : GValue, zGValue x ≤ 1048576 → wToValue x = some x
  | ⟨a0, a1, a2⟩, hz => by
    simp only [zGValue] at hz
    rw [wToValue]
theorem eqGValue_ok : ∀ x : GValue, zGValue x ≤ 1048576 → wEqValue x x = some true
  | ⟨a0, a1, a2⟩, hz => by
    simp only [zGValue] at hz
    rw [wEqValue]
    simp
theorem szGValueS_ok (p : (List GValue)) (h : (okL okGValue) p) : SzOk wSzValueS (zL zGValue) p := szS_ok (F := wSzValue) h.1 (fun n => by rw [wSzValueS]) (fun i x => by rw [wSzValueS_L0]) (fun y hy => szGValue_ok y (h.2 y hy))
theorem toGValueS_ok (p : (List GValue)) (hz : (zL zGValue) p ≤ 1048576) : wToValueS p = some p := toS_ok (by' := 32) (W := wToValue) (by unfold zL at hz; omega) (by omega) (by rw [wToValueS]) (fun i b => by rw [wToValueS_L0]) (fun y hy => toGValue_ok y (by have h1 := le_sum (z := zGValue) hy; have h2 : zL zGValue p = p.length + (p.map zGValue).sum := rfl; omega))
theorem eqGValueS_ok (p : (List GValue)) (hz : (zL zGValue) p ≤ 1048576) : wEqValueS p p = some true := eqS_ok (E := wEqValue) (by unfold zL at hz; omega) (by rw [wEqValueS]) (fun i => by rw [wEqValueS_L0]) (fun y hy => eqGValue_ok y (by have h1 := le_sum (z := zGValue) hy; have h2 : zL zGValue p = p.length + (p.map zGValue).sum := rfl; omega))
theorem szGValueSS_ok (p : (List (List GValue))) (h : (okL (okL okGValue)) p) : SzOk wSzValueSS (zL (zL zGValue)) p := szS_ok (F := wSzValueS) h.1 (fun n => by rw [wSzValueSS]) (fun i x => by rw [wSzValueSS_L0]) (fun y hy => szGValueS_ok y (h.2 y hy))
theorem toGValueSS_ok (p : (List (List GValue))) (hz : (zL (zL zGValue)) p ≤ 1048576) : wToValueSS p = some p := toS_ok (by' := 24) (W := wToValueS) (by unfold zL at hz; omega) (by omega) (by rw [wToValueSS]) (fun i b => by rw [wToValueSS_L0]) (fun y hy => toGValueS_ok y (by have h1 := le_sum (z := (zL zGValue)) hy; have h2 : zL (zL zGValue) p = p.length + (p.map (zL zGValue)).sum := rfl; omega))
theorem eqGValueSS_ok (p : (List (List GValue))) (hz : (zL (zL zGValue)) p ≤ 1048576) : wEqValueSS p p = some true := eqS_ok (E := wEqValueS) (by unfold zL at hz; omega) (by rw [wEqValueSS]) (fun i => by rw [wEqValueSS_L0]) (fun y hy => eqGValueS_ok y (by have h1 := le_sum (z := (zL zGValue)) hy; have h2 : zL (zL zGValue) p = p.length + (p.map (zL zGValue)).sum := rfl; omega))

/-! digits -/
theorem catS_ok {a b : List UInt8} (h : a.length + b.length ≤ 1073741824) : catS a b = some (a ++ b) := by
  unfold catS; rw [if_pos (Nat.le_trans h (by decide))]
theorem byte_digit {d : Nat} (h : d < 10) (x4 : List UInt8) : ofBytes ([(IntKind.wrap .u8 (IntKind.wrap .i64 (48 + (d : Int))))] : List Int) = some [UInt8.ofNat (48 + d)] := by
  match d, h with
  | 0, _ => rfl
  | 1, _ => rfl
  | 2, _ => rfl
  | 3, _ => rfl
  | 4, _ => rfl
  | 5, _ => rfl
  | 6, _ => rfl
  | 7, _ => rfl
  | 8, _ => rfl
  | 9, _ => rfl
theorem sDigits_loop (p0 : Int) : ∀ n : Nat, n ≤ 9223372036854775808 → ∀ out : List UInt8, out.length + Lib.nDigits n ≤ 1000 → ∀ x0 : Int, (x0 = n ∨ x0 = -(n : Int)) →
    sDigits_L0 p0 x0 out = some ((if p0 < 0 then [45] else []) ++ ((if n = 0 then [] else Lib.decDigits n) ++ out)) := by
  intro n
  induction n using Nat.strongRecOn with
  | ind n ih =>
    intro hn out ho x0 hx
    rw [sDigits_L0]
    by_cases h0 : n = 0
    · subst h0
      have : x0 = 0 := by omega
      subst this
      have hc : catS [45] out = some (45 :: out) := catS_ok (by simp; omega)
      by_cases hp : p0 < 0 <;> simp [hp, hc]
    · have hx0 : x0 ≠ 0 := by omega
      have hdiv : Int.tdiv x0 10 = ((n / 10 : Nat) : Int) ∨ Int.tdiv x0 10 = -((n / 10 : Nat) : Int) := by
        rcases hx with rfl | rfl
        · left; simp [Int.tdiv]
        · right; rw [Int.neg_tdiv]; simp [Int.tdiv]
      have hdd : IntKind.wrap .i64 (Int.tdiv x0 10) = Int.tdiv x0 10 := wrap_ok (by omega) (by omega)
      have hm : Int.tmod x0 10 = ((n % 10 : Nat) : Int) ∨ Int.tmod x0 10 = -((n % 10 : Nat) : Int) := by
        rcases hx with rfl | rfl
        · left; simp [Int.tmod]
        · right; rw [Int.neg_tmod]; simp [Int.tmod]
      have hlt : n % 10 < 10 := Nat.mod_lt _ (by omega)
      have hnd : Lib.nDigits (n / 10) ≤ Lib.nDigits n := by
        by_cases hs : n < 10
        · have : n / 10 = 0 := by omega
          rw [this, Lib.nDigits_small (by omega)]; exact Lib.nDigits_pos _
        · rw [Lib.nDigits_big hs]; omega
      have hnd1 : n / 10 ≠ 0 → Lib.nDigits (n / 10) + 1 = Lib.nDigits n := fun h => by rw [← Lib.nDigits_big (u := n) (by omega)]
      have hpos := Lib.nDigits_pos n
      have key : sDigits_J1 x0 p0 out ((n % 10 : Nat) : Int) = some ((if p0 < 0 then [45] else []) ++ (Lib.decDigits n ++ out)) := by
        rw [sDigits_J1, byte_digit hlt out]
        simp only [Option.bind_eq_bind, Option.bind_some]
        rw [catS_ok (by simp; omega)]
        simp only [Option.bind_some]
        rw [hdd]
        by_cases hs : n / 10 = 0
        · have hz : Int.tdiv x0 10 = 0 := by omega
          have hn10 : n < 10 := by omega
          rw [hz, sDigits_L0]
          have hmod : n % 10 = n := Nat.mod_eq_of_lt hn10
          have hc : catS [45] ([UInt8.ofNat (48 + n % 10)] ++ out) = some (45 :: ([UInt8.ofNat (48 + n % 10)] ++ out)) := catS_ok (by simp; omega)
          rw [Lib.decDigits_one hn10]
          by_cases hp : p0 < 0
          · simp [hp, hmod] at hc ⊢
            rw [hc]
          · simp [hp, hmod]
        · rw [ih (n / 10) (by omega) (by omega) _ (by have := hnd1 hs; simp; omega) _ hdiv, if_neg hs]
          conv => rhs; rw [Lib.decDigits, dif_neg (by omega)]
          simp
      rw [if_pos (by simp [hx0]), if_neg h0]
      by_cases hneg : Int.tmod x0 10 < 0
      · rw [if_pos (by simp [hneg])]
        have e : IntKind.wrap .i64 (0 - Int.tmod x0 10) = ((n % 10 : Nat) : Int) := by rw [wrap_ok (by omega) (by omega)]; omega
        rw [e, key]
      · rw [if_neg (by simp [hneg])]
        have e : Int.tmod x0 10 = ((n % 10 : Nat) : Int) := by omega
        rw [e, key]
/-- the reference's numeral is the library's -/
theorem sDigits_itoa (n : Int) (h1 : -9223372036854775808 ≤ n) (h2 : n ≤ 9223372036854775807) : sDigits n = some (Lib.itoa n) := by
  unfold sDigits
  by_cases h0 : n = 0
  · subst h0; simp; rw [Lib.itoa]; simp; rw [Lib.decDigits_one (by omega)]; rfl
  · have hl : Lib.nDigits n.natAbs ≤ 20 := Lib.nDigits_le20 _ (by omega)
    rw [if_neg (by simp [h0]), sDigits_loop n n.natAbs (by omega) [] (by simp; omega) n (by omega), if_neg (show ¬ n.natAbs = 0 by omega)]
    unfold Lib.itoa
    by_cases hn : n < 0
    · simp [hn]
    · have : n.natAbs = n.toNat := by omega
      simp [hn, this]

/-! quote -/
/-- each of a byte's places doubled -/
def dbl (q : UInt8) (s : List UInt8) : List UInt8 := s.flatMap fun c => if c = q then [q, q] else [c]
theorem index_cons1 (q b : UInt8) (l : List UInt8) : Lib.index (b :: l) [q] = if b = q then 0 else if Lib.index l [q] = -1 then -1 else Lib.index l [q] + 1 := by
  by_cases h : b = q
  · subst h; simp [Lib.index, List.isPrefixOf]
  · have : ¬ q = b := fun e => h e.symm
    simp [Lib.index, List.isPrefixOf, h, this]
theorem replaceK_cons_ne {q b : UInt8} (h : b ≠ q) (new l : List UInt8) : ∀ k, Lib.replaceK [q] new k (b :: l) = b :: Lib.replaceK [q] new k l
  | 0 => rfl
  | k + 1 => by
    have hge := Lib.index_ge l [q]
    rw [Lib.replaceK, Lib.replaceK, index_cons1, if_neg h]
    by_cases hi : Lib.index l [q] = -1
    · simp [hi]
    · have e : (Lib.index l [q] + 1).toNat = (Lib.index l [q]).toNat + 1 := by omega
      have e2 : ¬ Lib.index l [q] + 1 = -1 := by omega
      simp only [hi, if_false, beq_iff_eq, e2, e, List.length_cons, List.length_nil]
      rw [show (Lib.index l [q]).toNat + 1 + (0 + 1) = ((Lib.index l [q]).toNat + (0 + 1)) + 1 by omega, List.drop_succ_cons, List.take_succ_cons]
      rfl
theorem replaceAll_dbl (q : UInt8) (s : List UInt8) : Lib.replaceAll s [q] [q, q] = dbl q s := by
  unfold Lib.replaceAll Lib.replace Lib.replaceNum
  rw [if_neg (by simp), if_pos (by omega)]
  induction s with
  | nil => rfl
  | cons b l ih =>
    by_cases h : b = q
    · subst h
      rw [Lib.count_cons_eq, Nat.add_comm, Lib.replaceK_hit _ _ _ _ 0 (by rw [index_cons1, if_pos rfl]; rfl)]
      simp only [List.take_zero, List.nil_append, List.length_cons, List.length_nil, Nat.zero_add, List.drop_succ_cons, List.drop_zero]
      rw [ih]
      simp [dbl]
    · rw [Lib.count_cons_ne _ _ _ h, replaceK_cons_ne h, ih]
      simp [dbl, h]
theorem dbl_len (q : UInt8) (s : List UInt8) : (dbl q s).length ≤ 2 * s.length := by
  induction s with
  | nil => simp [dbl]
  | cons b l ih =>
    have : dbl q (b :: l) = (if b = q then [q, q] else [b]) ++ dbl q l := rfl
    rw [this, List.length_append, List.length_cons]
    split <;> simp <;> omega
def quoteT (q : UInt8) (s : List UInt8) : List UInt8 := [q] ++ dbl q s ++ [q]
theorem quoteT_len (q : UInt8) (s : List UInt8) : (quoteT q s).length ≤ 2 * s.length + 2 := by
  have := dbl_len q s
  simp [quoteT]; omega
theorem iQuoted_ok (s : List UInt8) (q : UInt8) (hs : s.length ≤ 2000000) : iQuoted s [q] = some (quoteT q s) := by
  have hl := dbl_len q s
  unfold iQuoted gStrings_ReplaceAll replG
  rw [catS_ok (by simp)]
  simp only [Option.bind_eq_bind, Option.bind_some, List.cons_append, List.nil_append]
  rw [replaceAll_dbl, if_pos ⟨hs, by simp, by simp, by omega⟩]
  simp only [Option.bind_some]
  rw [catS_ok (by simp; omega)]
  simp only [Option.bind_some]
  rw [catS_ok (by simp; omega)]
  simp [quoteT]
theorem toBytes_append (a b : List UInt8) : toBytes (a ++ b) = toBytes a ++ toBytes b := by simp [toBytes]
theorem toBytes_len (a : List UInt8) : (toBytes a).length = a.length := by simp [toBytes]
theorem ofBytes_toBytes (a : List UInt8) : ofBytes (toBytes a) = some a := by
  unfold ofBytes toBytes
  rw [if_pos]
  · rw [List.map_map]
    congr 1
    refine (List.map_congr_left (g := id) fun u _ => ?_).trans (List.map_id a)
    simp [Function.comp]
  · refine List.all_eq_true.2 fun n hn => ?_
    obtain ⟨u, _, rfl⟩ := List.mem_map.1 hn
    have := u.toNat_lt
    simp; omega
theorem appB_ok {a : List UInt8} {l : List Int} (b : List UInt8) (hl : l = toBytes b) (h : a.length + b.length ≤ 1073741824) : appG 1 (toBytes a) l = some (toBytes (a ++ b)) := by
  subst hl
  unfold appG
  rw [if_pos (by rw [toBytes_len, toBytes_len]; omega), toBytes_append]
theorem appB1 {a : List UInt8} (q : UInt8) (h : a.length + 1 ≤ 1073741824) : appG 1 (toBytes a) [(q.toNat : Int)] = some (toBytes (a ++ [q])) := appB_ok [q] rfl (by simpa using h)
theorem sL2Quote_loop (s : List UInt8) (q : UInt8) (hs : s.length ≤ 2000000) : ∀ i, i ≤ s.length → ∀ a : List UInt8, a.length + 2 * (s.length - i) + 2 ≤ 1073741824 →
    sL2Quote_L0 s (q.toNat : Int) (toBytes a) (i : Nat) = some (a ++ dbl q (s.drop i) ++ [q]) := by
  refine back_ind ?_ ?_
  · intro a ha
    rw [sL2Quote_L0]
    simp only [lt_dec, Nat.lt_irrefl, decide_false, Bool.false_eq_true, if_false, Option.bind_eq_bind]
    rw [appB1 q (by simp; omega)]
    simp only [Option.bind_some, ofBytes_toBytes]
    simp [dbl]
  · intro i hi ih a ha
    have e : idxS s (i : Int) = some (s[i].toNat : Int) := by simp [idxS, hi]
    rw [sL2Quote_L0]
    simp only [lt_dec, hi, decide_true, if_true, e, Option.bind_eq_bind, Option.bind_some]
    have hd : dbl q (s.drop i) = (if s[i] = q then [q, q] else [s[i]]) ++ dbl q (s.drop (i + 1)) := by
      rw [List.drop_eq_getElem_cons hi]; rfl
    rw [hd]
    by_cases hq : s[i] = q
    · rw [if_pos (by simp [hq]), appB1 q (by simp; omega)]
      simp only [Option.bind_some]
      rw [sL2Quote_J1]
      simp only [e, Option.bind_eq_bind, Option.bind_some]
      rw [hq, appB1 q (by simp; omega), Option.bind_some, wrap_next hi (by omega), ih _ (by simp; omega)]
      simp
    · have hne : ¬ ((s[i].toNat : Int) = (q.toNat : Int)) := fun h => hq (UInt8.toNat_inj.1 (by omega))
      rw [if_neg (by simpa using hne), sL2Quote_J1]
      simp only [e, Option.bind_eq_bind, Option.bind_some]
      rw [appB1 s[i] (by simp; omega), Option.bind_some, wrap_next hi (by omega), ih _ (by simp; omega)]
      simp [hq]
theorem sL2Quote_ok (s : List UInt8) (q : UInt8) (hs : s.length ≤ 2000000) : sL2Quote s (q.toNat : Int) = some (quoteT q s) := by
  unfold sL2Quote
  have := sL2Quote_loop s q hs 0 (Nat.zero_le _) [q] (by simp; omega)
  simpa [toBytes, quoteT] using this

/-! valtext -/
theorem valueOk_eqD (x : GValue) : iValueOk x = sValueOk x ∧ ∃ b, sValueOk x = some b ∧ (b = true → x.kind = 2 → x.text.length ≤ 200) := by
  unfold iValueOk sValueOk sL1In
  simp only [Option.bind_eq_bind, Option.bind_some]
  by_cases h0 : x.kind = 0
  · simp [h0]
  by_cases h1 : x.kind = 1
  · simp [h1]
  by_cases h2 : x.kind = 2
  · by_cases n0 : x.num = 0
    · simp [h2, n0]; omega
    · simp [h2, n0]
  by_cases h3 : x.kind = 3
  · by_cases n0 : x.num = 0
    · simp [h3, n0]
    by_cases n1 : x.num = 1
    · simp [h3, n1]
    have e : (if decide (0 ≤ x.num) = true then decide (x.num ≤ 1) else false) = false := by
      by_cases p : 0 ≤ x.num
      · simp [p]; omega
      · simp [p]
    rw [e]
    simp [h3, n0, n1]
  · simp [h0, h1, h2, h3]
/-- the text of a value: the same for both, and short -/
theorem valueText_eq (x : GValue) (hn : okI x.num) : ∃ t, iValueText x = some t ∧ sValueText x = some t ∧ t.length ≤ 402 := by
  obtain ⟨h1, b, h2, h3⟩ := valueOk_eqD x
  unfold iValueText sValueText
  rw [h1, h2]
  simp only [Option.bind_eq_bind, Option.bind_some]
  cases b with
  | false => exact ⟨[63], rfl, rfl, by simp⟩
  | true =>
    simp only [Bool.not_true, Bool.false_eq_true, if_false]
    by_cases k1 : x.kind = 1
    · have hl := Lib.itoa_length_le x.num hn.1 hn.2
      refine ⟨Lib.itoa x.num, ?_, ?_, by omega⟩
      · simp [k1, iDigits, gStrconv_Itoa]
      · simp [k1, sDigits_itoa x.num hn.1 hn.2]
    by_cases k2 : x.kind = 2
    · have hl := h3 rfl k2
      have hq := quoteT_len 39 x.text
      refine ⟨quoteT 39 x.text, ?_, ?_, by omega⟩
      · simp [k2, iQuoteText, iQuoted_ok x.text 39 (by omega)]
      · have := sL2Quote_ok x.text 39 (by omega)
        have e : ((39 : UInt8).toNat : Int) = 39 := rfl
        rw [e] at this
        simp [k2, sQuoteText, this]
    by_cases k3 : x.kind = 3
    · by_cases n1 : x.num = 1
      · exact ⟨[84, 82, 85, 69], by simp [k3, n1], by simp [k3, n1], by simp⟩
      · exact ⟨[70, 65, 76, 83, 69], by simp [k3, n1], by simp [k3, n1], by simp⟩
    · exact ⟨[78, 85, 76, 76], by simp [k1, k2, k3], by simp [k1, k2, k3], by simp⟩

/-! rowstext -/
/-- what a row's text is: the values' texts, parted by bars -/
def vt (x : GValue) : List UInt8 := (iValueText x).getD []
theorem vt_eq (x : GValue) (hn : okI x.num) : iValueText x = some (vt x) ∧ sValueText x = some (vt x) ∧ (vt x).length ≤ 402 := by
  obtain ⟨t, h1, h2, h3⟩ := valueText_eq x hn
  have : vt x = t := by simp [vt, h1]
  rw [this]; exact ⟨h1, h2, h3⟩
def barT (k : Nat) : List GValue → List UInt8
  | [] => []
  | x :: l => (if 0 < k then [124] else []) ++ vt x ++ barT (k + 1) l
def rowsT : List (List GValue) → List UInt8
  | [] => []
  | r :: l => barT 0 r ++ [10] ++ rowsT l
theorem barT_len : ∀ (r : List GValue) (k : Nat), (∀ x ∈ r, okI x.num) → (barT k r).length ≤ 403 * r.length
  | [], _, _ => by simp [barT]
  | x :: l, k, h => by
    have := barT_len l (k + 1) fun y hy => h y (List.mem_cons_of_mem _ hy)
    have h2 := (vt_eq x (h x List.mem_cons_self)).2.2
    have h3 : (if 0 < k then [(124 : UInt8)] else []).length ≤ 1 := by split <;> simp
    simp only [barT, List.length_append, List.length_cons]
    omega
/-- room for rows -/
def zR (p : List (List GValue)) : Nat := (p.map fun r => 403 * r.length + 1).sum
theorem appC {a : List UInt8} (n : Int) (u : UInt8) (hu : n = u.toNat) (h : a.length + 1 ≤ 1073741824) : appG 1 (toBytes a) [n] = some (toBytes (a ++ [u])) := by subst hu; exact appB1 u h
theorem iBar (p : List (List GValue)) (i : Nat) (r : List GValue) (hr : r.length ≤ 1048576) (hn : ∀ x ∈ r, okI x.num) : ∀ k, k ≤ r.length → ∀ a : List UInt8, a.length + 403 * (r.length - k) + 1 ≤ 1073741824 →
    iRowsText_L1 p i r (k : Nat) (toBytes a) = iRowsText_L0 p (IntKind.wrap .i64 ((i : Int) + 1)) (toBytes (a ++ barT k (r.drop k) ++ [10])) := by
  refine back_ind ?_ ?_
  · intro a ha
    rw [iRowsText_L1]
    unfold gStrings_Builder_WriteString_x gStrings_Builder_copyCheck_x
    simp only [lt_dec, Nat.lt_irrefl, decide_false, Bool.false_eq_true, if_false, Option.bind_eq_bind, Option.bind_some]
    rw [appB_ok [10] rfl (by simp; omega)]
    simp [barT]
  · intro k hk ih a ha
    have hx := hn r[k] (List.getElem_mem hk)
    obtain ⟨v1, _, v3⟩ := vt_eq r[k] hx
    rw [iRowsText_L1]
    unfold gStrings_Builder_WriteString_x gStrings_Builder_copyCheck_x
    simp only [lt_dec, hk, idx_lt hk, decide_true, if_true, Option.bind_eq_bind, Option.bind_some]
    have hd : barT k (r.drop k) = (if 0 < k then [124] else []) ++ vt r[k] ++ barT (k + 1) (r.drop (k + 1)) := by
      rw [List.drop_eq_getElem_cons hk]; rfl
    rw [hd]
    by_cases h0 : 0 < k
    · rw [if_pos (by simp; omega), appB_ok [124] rfl (by simp; omega)]
      simp only [Option.bind_some]
      rw [iRowsText_J2]
      unfold gStrings_Builder_WriteString_x gStrings_Builder_copyCheck_x
      simp only [v1, Option.bind_eq_bind, Option.bind_some]
      rw [appB_ok (vt r[k]) rfl (by simp; omega)]
      simp only [Option.bind_some]
      rw [wrap_next hk (by omega), ih _ (by simp; omega)]
      simp [h0]
    · rw [if_neg (by simp; omega), iRowsText_J2]
      unfold gStrings_Builder_WriteString_x gStrings_Builder_copyCheck_x
      simp only [v1, Option.bind_eq_bind, Option.bind_some]
      rw [appB_ok (vt r[k]) rfl (by omega)]
      simp only [Option.bind_some]
      rw [wrap_next hk (by omega), ih _ (by simp; omega)]
      simp [h0]
theorem sBar (p : List (List GValue)) (i : Nat) (r : List GValue) (hir : idx p (i : Int) = some r) (hr : r.length ≤ 1048576) (hn : ∀ x ∈ r, okI x.num) : ∀ k, k ≤ r.length → ∀ a : List UInt8, a.length + 403 * (r.length - k) + 1 ≤ 1073741824 →
    sRowsText_L1 p i (toBytes a) (k : Nat) = sRowsText_L0 p (toBytes (a ++ barT k (r.drop k) ++ [10])) (IntKind.wrap .i64 ((i : Int) + 1)) := by
  refine back_ind ?_ ?_
  · intro a ha
    rw [sRowsText_L1]
    simp only [hir, lt_dec, Nat.lt_irrefl, decide_false, Bool.false_eq_true, if_false, Option.bind_eq_bind, Option.bind_some]
    rw [appC 10 10 rfl (by simp; omega)]
    simp [barT]
  · intro k hk ih a ha
    have hx := hn r[k] (List.getElem_mem hk)
    obtain ⟨_, v2, v3⟩ := vt_eq r[k] hx
    rw [sRowsText_L1]
    simp only [hir, lt_dec, hk, decide_true, if_true, Option.bind_eq_bind, Option.bind_some]
    have hd : barT k (r.drop k) = (if 0 < k then [124] else []) ++ vt r[k] ++ barT (k + 1) (r.drop (k + 1)) := by
      rw [List.drop_eq_getElem_cons hk]; rfl
    rw [hd]
    by_cases h0 : 0 < k
    · rw [if_pos (by simp; omega), appC 124 124 rfl (by simp; omega)]
      simp only [Option.bind_some]
      rw [sRowsText_J2]
      simp only [hir, idx_lt hk, v2, Option.bind_eq_bind, Option.bind_some]
      rw [appB_ok (vt r[k]) rfl (by simp; omega)]
      simp only [Option.bind_some]
      rw [wrap_next hk (by omega), ih _ (by simp; omega)]
      simp [h0]
    · rw [if_neg (by simp; omega), sRowsText_J2]
      simp only [hir, idx_lt hk, v2, Option.bind_eq_bind, Option.bind_some]
      rw [appB_ok (vt r[k]) rfl (by omega)]
      simp only [Option.bind_some]
      rw [wrap_next hk (by omega), ih _ (by simp; omega)]
      simp [h0]
theorem rows_loop (p : List (List GValue)) (hp : p.length ≤ 1048576) (hr : ∀ r ∈ p, r.length ≤ 1048576 ∧ ∀ x ∈ r, okI x.num) : ∀ i, i ≤ p.length → ∀ a : List UInt8, a.length + zR (p.drop i) ≤ 1073741824 →
    iRowsText_L0 p (i : Nat) (toBytes a) = some (a ++ rowsT (p.drop i)) ∧ sRowsText_L0 p (toBytes a) (i : Nat) = some (a ++ rowsT (p.drop i)) := by
  refine back_ind ?_ ?_
  · intro a _
    rw [iRowsText_L0, sRowsText_L0]
    unfold gStrings_Builder_String_x
    simp [ofBytes_toBytes, rowsT]
  · intro i hi ih a ha
    obtain ⟨h1, h2⟩ := hr _ (List.getElem_mem hi)
    have hz : zR (p.drop i) = 403 * p[i].length + 1 + zR (p.drop (i + 1)) := by
      unfold zR; rw [List.drop_eq_getElem_cons hi, List.map_cons, List.sum_cons]
    have hb := barT_len p[i] 0 h2
    rw [hz] at ha
    have hd : rowsT (p.drop i) = barT 0 p[i] ++ [10] ++ rowsT (p.drop (i + 1)) := by
      rw [List.drop_eq_getElem_cons hi]; rfl
    have hI := iBar p i p[i] h1 h2 0 (Nat.zero_le _) a (by omega)
    have hS := sBar p i p[i] (idx_lt hi) h1 h2 0 (Nat.zero_le _) a (by omega)
    rw [iRowsText_L0, sRowsText_L0]
    simp only [lt_dec, hi, idx_lt hi, decide_true, if_true, Option.bind_eq_bind, Option.bind_some]
    rw [show (0 : Int) = ((0 : Nat) : Int) from rfl, hI, hS, wrap_next hi (by omega), List.drop_zero, hd]
    obtain ⟨e1, e2⟩ := ih (a ++ barT 0 p[i] ++ [10]) (by simp; omega)
    rw [e1, e2]
    simp

/-! FnExactRowsText -/
theorem zR_le : ∀ p : List (List GValue), zR p ≤ 404 * zL (zL zGValue) p
  | [] => by simp [zR]
  | r :: p => by
    have h := zR_le p
    have e1 : zR (r :: p) = 403 * r.length + 1 + zR p := by simp [zR]
    have e2 : zL (zL zGValue) (r :: p) = 1 + zL zGValue r + zL (zL zGValue) p := by simp [zL]; omega
    have e3 : r.length ≤ zL zGValue r := by unfold zL; omega
    omega
theorem fnExactRowsText_true (p : List (List GValue)) (op : okL (okL okGValue) p) : wFnExactRowsText p = some true := by
  unfold wFnExactRowsText
  rw [szGValueSS_ok p op 1048576 (by omega) (by omega)]
  simp only [Option.bind_eq_bind, Option.bind_some]
  by_cases hz : (zL (zL zGValue) p : Int) ≤ 1048576
  · have hz' : zL (zL zGValue) p ≤ 1048576 := by omega
    have hR := zR_le p
    have hp : p.length ≤ 1048576 := by unfold zL at hz'; omega
    have hr : ∀ r ∈ p, r.length ≤ 1048576 ∧ ∀ x ∈ r, okI x.num := fun r hr => by
      have h1 := le_sum (z := zL zGValue) hr
      have h2 : zL (zL zGValue) p = p.length + (p.map (zL zGValue)).sum := rfl
      have h3 : r.length ≤ zL zGValue r := by unfold zL; omega
      exact ⟨by omega, fun x hx => ((op.2 r hr).2 x hx).2.1⟩
    obtain ⟨h1, h2⟩ := rows_loop p hp hr 0 (Nat.zero_le _) [] (by simp; omega)
    have i1 : iRowsText p = some (rowsT p) := by unfold iRowsText; simpa [toBytes] using h1
    have i2 : sRowsText p = some (rowsT p) := by unfold sRowsText; simpa [toBytes] using h2
    rw [if_pos hz, if_neg (by simp; omega), toGValueSS_ok p hz']
    simp [i1, i2, toGValueSS_ok p hz', eqGValueSS_ok p hz']
  · rw [if_neg hz]; simp

end Go.Ab
