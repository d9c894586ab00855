/- What the functions compute, in plain Lean. -/
import Derived.Test.YtkdkhdefdfkagaaFExactPutPExpr
namespace Go.Ab
open Go
/-! base -/

theorem wrap_ok {n : Int} (h1 : -9223372036854775808 ≤ n) (h2 : n ≤ 9223372036854775807) : IntKind.wrap .i64 n = n := by rw [IntKind.wrap_i64]; omega
/-- the next round of a loop over a list -/
theorem wrap_next {i n : Nat} (h : i < n) (hn : n ≤ 4611686018427387904) : IntKind.wrap .i64 ((i : Int) + 1) = ((i + 1 : Nat) : Int) := by rw [wrap_ok] <;> omega
theorem lt_dec (i n : Nat) : decide ((i : Int) < (n : Int)) = decide (i < n) := by simp
theorem idx_nat {α : Type} (l : List α) (i : Nat) : idx l (i : Int) = l[i]? := by simp [idx]
theorem idx_lt {α : Type} {l : List α} {i : Nat} (h : i < l.length) : idx l (i : Int) = some l[i] := by rw [idx_nat]; simp [h]
/-- from the last round backwards -/
theorem back_ind {M : Nat → Prop} {n : Nat} (h0 : M n) (h : ∀ i, i < n → M (i + 1) → M i) : ∀ i, i ≤ n → M i := by
  have : ∀ k i, i + k = n → M i := by
    intro k
    induction k with
    | zero => intro i hi; have : i = n := by omega
              subst this; exact h0
    | succ k ih => intro i hi; exact h i (by omega) (ih (i + 1) (by omega))
  exact fun i hi => this (n - i) i (by omega)
/-- A loop that copies a list element by element into a made one. -/
theorem copy_all {α : Type} {p : List α} {F : Int → List α → Option (List α)} (hn : p.length ≤ 4611686018427387904)
    (hF : ∀ (i : Nat) b, b.length = p.length → F i b = if i < p.length then (idx p i >>= fun v => setG b i v >>= fun c => F (IntKind.wrap .i64 ((i : Int) + 1)) c) else some b) :
    ∀ b, b.length = p.length → F 0 b = some p := by
  have key : ∀ i, i ≤ p.length → ∀ b, b.length = p.length → b.take i = p.take i → F (i : Nat) b = some p := by
    refine back_ind ?_ ?_
    · intro b hb ht
      rw [hF _ _ hb, if_neg (by omega)]
      rw [← hb, List.take_length] at ht
      rw [ht, hb, List.take_length]
    · intro i hi ih b hb ht
      rw [hF _ _ hb, if_pos hi, idx_lt hi]
      have hs : setG b i p[i] = some (b.set i p[i]) := by
        unfold setG; rw [if_pos ⟨by omega, by simp; omega⟩]; simp
      simp only [Option.bind_eq_bind, Option.bind_some, hs, wrap_next hi hn]
      refine ih _ (by simp [hb]) ?_
      rw [List.take_add_one, List.take_add_one]
      have e1 : (b.set i p[i]).take i = b.take i := by rw [List.take_set_of_le (Nat.le_refl _)]
      rw [e1, ht]
      simp [hb, hi]
  intro b hb
  exact key 0 (by omega) b hb (by simp)
theorem mkG_ok {α : Type} {by' : Nat} {n : Nat} {z : α} (h : (n : Int) * by' ≤ 140737488355328) : mkG by' (n : Int) z = some (List.replicate n z) := by
  unfold mkG; rw [if_pos ⟨by omega, h⟩]; simp

/-! trees0 -/
/-- how much a list holds -/
def zL {α : Type} (z : α → Nat) (l : List α) : Nat := l.length + (l.map z).sum
def z0 {α : Type} (_ : α) : Nat := 0
/-- the size of a value, taken off what is left -/
def SzOk {α : Type} (F : α → Int → Option Int) (z : α → Nat) (x : α) : Prop := ∀ n : Int, 0 ≤ n → n ≤ 1048576 → F x n = some (if (z x : Int) ≤ n then n - (z x : Int) else -1)
theorem sum_map_cons {α : Type} (z : α → Nat) (x : α) (l : List α) : ((x :: l).map z).sum = z x + (l.map z).sum := by simp
theorem szLoop_ok {α : Type} {p : List α} {F : α → Int → Option Int} {z : α → Nat} {L : Int → Int → Option Int} (hp : p.length ≤ 1048576)
    (hL : ∀ (i : Nat) (x : Int), L x (i : Int) = if (decide ((i : Int) < (p.length : Int))) = true then ((idx p (i : Int)) >>= fun y => (F y x) >>= fun r => if (decide (r < 0)) = true then (some (-1)) else L r (IntKind.wrap .i64 ((i : Int) + 1))) else some x)
    (H : ∀ y ∈ p, SzOk F z y) : ∀ n : Int, 0 ≤ n → n ≤ 1048576 → L n 0 = some (if ((p.map z).sum : Int) ≤ n then n - ((p.map z).sum : Int) else -1) := by
  have key : ∀ i, i ≤ p.length → ∀ n : Int, 0 ≤ n → n ≤ 1048576 → L n (i : Nat) = some (if (((p.drop i).map z).sum : Int) ≤ n then n - (((p.drop i).map z).sum : Int) else -1) := by
    refine back_ind ?_ ?_
    · intro n h0 h1
      rw [hL]; simp [h0]
    · intro i hi ih n h0 h1
      rw [hL, idx_lt hi, wrap_next hi (by omega)]
      rw [List.drop_eq_getElem_cons hi, sum_map_cons]
      simp only [Option.bind_eq_bind, Option.bind_some, lt_dec, hi, decide_true, if_true, H _ (List.getElem_mem hi) n h0 h1]
      by_cases hz : (z p[i] : Int) ≤ n
      · rw [if_pos hz, if_neg (by simp; omega), ih _ (by omega) (by omega)]
        congr 1
        by_cases hr : (((p.drop (i + 1)).map z).sum : Int) ≤ n - z p[i]
        · rw [if_pos hr, if_pos (by omega)]; omega
        · rw [if_neg hr, if_neg (by omega)]
      · rw [if_neg hz, if_pos (by decide), if_neg (by omega)]
  intro n h0 h1
  have := key 0 (by omega) n h0 h1
  simpa using this
theorem szS_ok {α : Type} {p : List α} {F : α → Int → Option Int} {z : α → Nat} {L : Int → Int → Option Int} {S : List α → Int → Option Int} (hp : p.length ≤ 9223372036854775807)
    (hS : ∀ n, S p n = if (decide ((IntKind.wrap .i64 (n - (p.length : Int))) < 0)) = true then (some (-1)) else L (IntKind.wrap .i64 (n - (p.length : Int))) 0)
    (hL : ∀ (i : Nat) (x : Int), L x (i : Int) = if (decide ((i : Int) < (p.length : Int))) = true then ((idx p (i : Int)) >>= fun y => (F y x) >>= fun r => if (decide (r < 0)) = true then (some (-1)) else L r (IntKind.wrap .i64 ((i : Int) + 1))) else some x)
    (H : ∀ y ∈ p, SzOk F z y) : SzOk S (zL z) p := by
  intro n h0 h1
  have hz : ((zL z p : Nat) : Int) = (p.length : Int) + ((p.map z).sum : Int) := by unfold zL; omega
  rw [hS, wrap_ok (by omega) (by omega), hz]
  by_cases hl : n - (p.length : Int) < 0
  · rw [if_pos (by simpa using hl), if_neg (by omega)]
  · rw [if_neg (by simpa using hl), szLoop_ok (by omega) hL H _ (by omega) (by omega)]
    congr 1
    by_cases hr : ((p.map z).sum : Int) ≤ n - p.length
    · rw [if_pos hr, if_pos (by omega)]; omega
    · rw [if_neg hr, if_neg (by omega)]
theorem szInts_ok {α : Type} {p : List α} {S : List α → Int → Option Int} (hp : p.length ≤ 9223372036854775807)
    (hS : ∀ n, S p n = if (decide ((IntKind.wrap .i64 (n - (p.length : Int))) < 0)) = true then (some (-1)) else (some (IntKind.wrap .i64 (n - (p.length : Int))))) : SzOk S (zL z0) p := by
  intro n h0 h1
  have hs : (p.map z0).sum = 0 := by
    clear hS hp
    induction p with
    | nil => rfl
    | cons x p ih => rw [sum_map_cons, ih]; rfl
  have hz : ((zL z0 p : Nat) : Int) = (p.length : Int) := by unfold zL; omega
  rw [hS, wrap_ok (by omega) (by omega), hz]
  by_cases hl : n - (p.length : Int) < 0
  · rw [if_pos (by simpa using hl), if_neg (by omega)]
  · rw [if_neg (by simpa using hl), if_pos (by omega)]
/-- the size of a string -/
def szStr (y : List UInt8) (n : Int) : Option Int := if (decide ((IntKind.wrap .i64 (n - (y.length : Int))) < 0)) = true then (some (-1)) else (some (IntKind.wrap .i64 (n - (y.length : Int))))
theorem szStr_ok (y : List UInt8) (hy : y.length ≤ 9223372036854775807) : SzOk szStr List.length y := by
  intro n h0 h1
  unfold szStr
  rw [wrap_ok (by omega) (by omega)]
  by_cases hl : n - (y.length : Int) < 0
  · rw [if_pos (by simpa using hl), if_neg (by omega)]
  · rw [if_neg (by simpa using hl), if_pos (by omega)]
theorem szStr_bind (y : List UInt8) (x : Int) (K : Int → Option Int) : (if (decide ((IntKind.wrap .i64 (x - (y.length : Int))) < 0)) = true then (some (-1)) else K (IntKind.wrap .i64 (x - (y.length : Int)))) = ((szStr y x) >>= fun r => if (decide (r < 0)) = true then (some (-1)) else K r) := by
  unfold szStr
  by_cases h : (IntKind.wrap .i64 (x - (y.length : Int))) < 0
  · rw [if_pos (by simpa using h), if_pos (by simpa using h)]; rfl
  · rw [if_neg (by simpa using h), if_neg (by simpa using h)]
    simp only [Option.bind_eq_bind, Option.bind_some]
    rw [if_neg (by simpa using h)]
/-- a copy -/
theorem toS_ok {α : Type} {p : List α} {W : α → Option α} {by' : Nat} {d : α} {L : Int → List α → Option (List α)} {S : Option (List α)} (hp : p.length ≤ 1048576) (hby : by' ≤ 134217728)
    (hS : S = (mkG by' (p.length : Int) d >>= fun y => L 0 y))
    (hL : ∀ (i : Nat) b, L (i : Int) b = if (decide ((i : Int) < (p.length : Int))) = true then ((idx p (i : Int)) >>= fun y2 => (W y2) >>= fun y3 => (idx b (i : Int)) >>= fun _ => (setG b (i : Int) y3) >>= fun y5 => L (IntKind.wrap .i64 ((i : Int) + 1)) y5) else some b)
    (H : ∀ y ∈ p, W y = some y) : S = some p := by
  have hm : (p.length : Int) * by' ≤ 140737488355328 := by
    have : (p.length : Int) * by' ≤ 1048576 * 134217728 := Int.mul_le_mul (by omega) (by omega) (by omega) (by omega)
    omega
  rw [hS, mkG_ok hm]
  simp only [Option.bind_eq_bind, Option.bind_some]
  refine copy_all (F := L) (by omega) (fun i b hb => ?_) _ (by simp)
  rw [hL]
  simp only [lt_dec, decide_eq_true_eq, Option.bind_eq_bind]
  split
  · rename_i hi
    have e : idx b (i : Int) = some b[i] := idx_lt (by omega)
    rw [idx_lt hi]
    simp only [Option.bind_some, H _ (List.getElem_mem hi), e]
  · rfl
/-- equal to itself -/
theorem eqS_ok {α : Type} {p : List α} {E : α → α → Option Bool} {L : Int → Option Bool} {S : List α → List α → Option Bool} (hp : p.length ≤ 1048576)
    (hS : S p p = if (!decide ((p.length : Int) = (p.length : Int))) = true then (some false) else L 0)
    (hL : ∀ i : Nat, L (i : Int) = if (decide ((i : Int) < (p.length : Int))) = true then ((idx p (i : Int)) >>= fun y1 => (idx p (i : Int)) >>= fun y2 => (E y1 y2) >>= fun y3 => if (!y3) = true then (some false) else L (IntKind.wrap .i64 ((i : Int) + 1))) else some true)
    (H : ∀ y ∈ p, E y y = some true) : S p p = some true := by
  have key : ∀ i, i ≤ p.length → L (i : Nat) = some true := by
    refine back_ind ?_ ?_
    · rw [hL]; simp
    · intro i hi ih
      rw [hL]
      simp only [lt_dec, idx_lt hi, wrap_next hi (by omega), H _ (List.getElem_mem hi), Option.bind_eq_bind, Option.bind_some, ih]
      simp
  rw [hS]
  have := key 0 (by omega)
  simpa using this
theorem le_sum {α : Type} {z : α → Nat} : ∀ {p : List α} {y : α}, y ∈ p → z y ≤ (p.map z).sum
  | x :: p, y, h => by
    rw [sum_map_cons]
    rcases List.mem_cons.1 h with rfl | h
    · omega
    · have := le_sum (z := z) h; omega

/-! trees -/
def zGValue : GValue → Nat
  | ⟨a0, a1, a2⟩ => a2.length
theorem szGValue_ok : ∀ x : GValue, okGValue x → SzOk wSzValue zGValue x
  | ⟨a0, a1, a2⟩, h => by
    simp only [okGValue] at h
    obtain ⟨o0, o1, o2⟩ := h
    intro n h0 h1
    have b2 : a2.length ≤ 9223372036854775807 := o2
    have hz : ((zGValue ⟨a0, a1, a2⟩ : Nat) : Int) = (a2.length : Int) := by simp only [zGValue] <;> omega
    rw [hz, wSzValue]
    dsimp only
    rw [wrap_ok (n := n - (a2.length : Int)) (by omega) (by omega)]
    by_cases r2 : n - (a2.length : Int) < 0
    · rw [if_pos (by simpa using r2), if_neg (by omega)]
    rw [if_neg (by simpa using r2)]
    first | done | (rw [if_pos (by omega)]; done) | (rw [if_pos (by omega)]; congr 1 <;> omega) | (congr 1 <;> omega)
theorem toGValue_ok : ∀ x : GValue, zGValue x ≤ 1048576 → wToValue x = some x
  | ⟨a0, a1, a2⟩, hz => by
    simp only [zGValue] at hz
    rw [wToValue]
theorem eqGValue_ok : ∀ x : GValue, zGValue x ≤ 1048576 → wEqValue x x = some true
  | ⟨a0, a1, a2⟩, hz => by
    simp only [zGValue] at hz
    rw [wEqValue]
    simp
theorem szIntS_ok (p : (List Int)) (h : (okL okI) p) : SzOk wSzIntS (zL z0) p := szInts_ok h.1 (fun n => by rw [wSzIntS])
theorem toIntS_ok (p : (List Int)) (hz : (zL z0) p ≤ 1048576) : wToIntS p = some p := toS_ok (by' := 8) (W := some) (by unfold zL at hz; omega) (by omega) (by rw [wToIntS]) (fun i b => by rw [wToIntS_L0]; rfl) (fun y hy => rfl)
theorem eqIntS_ok (p : (List Int)) (hz : (zL z0) p ≤ 1048576) : wEqIntS p p = some true := eqS_ok (E := fun a b => some (decide (a = b))) (by unfold zL at hz; omega) (by rw [wEqIntS]) (fun i => by rw [wEqIntS_L0]; rfl) (fun y hy => by simp)
theorem szStrS_ok (p : (List (List UInt8))) (h : (okL okS) p) : SzOk wSzStringS (zL List.length) p := szS_ok (F := szStr) h.1 (fun n => by rw [wSzStringS]) (fun i x => by rw [wSzStringS_L0]; simp only [fun y => szStr_bind y x (fun r => wSzStringS_L0 p r (IntKind.wrap .i64 ((i : Int) + 1)))]) (fun y hy => szStr_ok y (h.2 y hy))
theorem toStrS_ok (p : (List (List UInt8))) (hz : (zL List.length) p ≤ 1048576) : wToStringS p = some p := toS_ok (by' := 16) (W := some) (by unfold zL at hz; omega) (by omega) (by rw [wToStringS]) (fun i b => by rw [wToStringS_L0]; rfl) (fun y hy => rfl)
theorem eqStrS_ok (p : (List (List UInt8))) (hz : (zL List.length) p ≤ 1048576) : wEqStringS p p = some true := eqS_ok (E := fun a b => some (decide (a = b))) (by unfold zL at hz; omega) (by rw [wEqStringS]) (fun i => by rw [wEqStringS_L0]; rfl) (fun y hy => by simp)
mutual
def zGPSort : GPSort → Nat
  | ⟨a0, a1⟩ => zGPExpr a0
def zGPlan : GPlan → Nat
  | ⟨a0, a1, a2, a3, a4, a5, a6, a7⟩ => (zL z0) a0 + (a1.length + zLLGPExpr a1) + (a2.length + zLGPExpr a2) + (a3.length + zLGPSort a3) + (a4.length + zLGPExpr a4) + (zL List.length) a5
def zGPExpr : GPExpr → Nat
  | ⟨a0, a1, a2, a3, a4, a5, a6, a7⟩ => zGValue a3 + (a6.length + zLGPExpr a6) + (a7.length + zLGPlan a7)
def zLGPExpr : List GPExpr → Nat
  | [] => 0
  | x :: l => zGPExpr x + zLGPExpr l
def zLGPlan : List GPlan → Nat
  | [] => 0
  | x :: l => zGPlan x + zLGPlan l
def zLGPSort : List GPSort → Nat
  | [] => 0
  | x :: l => zGPSort x + zLGPSort l
def zLLGPExpr : List (List GPExpr) → Nat
  | [] => 0
  | x :: l => (x.length + zLGPExpr x) + zLLGPExpr l
end
theorem zLGPExpr_eq : ∀ l : List GPExpr, zLGPExpr l = (l.map zGPExpr).sum
  | [] => by simp [zLGPExpr]
  | x :: l => by rw [sum_map_cons, ← zLGPExpr_eq l]; simp only [zLGPExpr]
theorem zLGPlan_eq : ∀ l : List GPlan, zLGPlan l = (l.map zGPlan).sum
  | [] => by simp [zLGPlan]
  | x :: l => by rw [sum_map_cons, ← zLGPlan_eq l]; simp only [zLGPlan]
theorem zLGPSort_eq : ∀ l : List GPSort, zLGPSort l = (l.map zGPSort).sum
  | [] => by simp [zLGPSort]
  | x :: l => by rw [sum_map_cons, ← zLGPSort_eq l]; simp only [zLGPSort]
theorem zLLGPExpr_eq : ∀ l : List (List GPExpr), zLLGPExpr l = (l.map (zL zGPExpr)).sum
  | [] => by simp [zLLGPExpr]
  | x :: l => by rw [sum_map_cons, ← zLLGPExpr_eq l]; simp only [zLLGPExpr, zL, zLGPExpr_eq]
mutual
theorem szGPSort_ok : ∀ x : GPSort, okGPSort x → SzOk wSzPSort zGPSort x
  | ⟨a0, a1⟩, h => by
    simp only [okGPSort] at h
    obtain ⟨o0, o1⟩ := h
    intro n h0 h1
    have e0 : SzOk wSzPExpr zGPExpr a0 := szGPExpr_ok a0 o0
    have hz : ((zGPSort ⟨a0, a1⟩ : Nat) : Int) = ((zGPExpr a0 : Nat) : Int) := by simp only [zGPSort] <;> omega
    rw [hz, wSzPSort]
    dsimp only
    rw [e0 n (by omega) (by omega)]
    simp only [Option.bind_eq_bind, Option.bind_some]
    rcases (Decidable.em (((zGPExpr a0 : Nat) : Int) ≤ n)).symm with r0 | r0
    · rw [if_neg r0, if_pos (by decide)]; first | done | rw [if_neg (by omega)]
    rw [if_pos r0, if_neg (by simp; omega)]
    first | done | (rw [if_pos (by omega)]; done) | (rw [if_pos (by omega)]; congr 1 <;> omega) | (congr 1 <;> omega)
theorem szGPlan_ok : ∀ x : GPlan, okGPlan x → SzOk wSzPlan zGPlan x
  | ⟨a0, a1, a2, a3, a4, a5, a6, a7⟩, h => by
    simp only [okGPlan] at h
    obtain ⟨o0, o1, o2, o3, o4, o5, o6, o7⟩ := h
    intro n h0 h1
    have e0 : SzOk wSzIntS (zL z0) a0 := szIntS_ok a0 o0
    have q1 : (zL (zL zGPExpr)) a1 = a1.length + zLLGPExpr a1 := by rw [zLLGPExpr_eq, zL]
    have e1 : SzOk wSzPExprSS (zL (zL zGPExpr)) a1 := szS_ok (F := wSzPExprS) o1.1 (fun n => by rw [wSzPExprSS]) (fun i x => by rw [wSzPExprSS_L0]) (szLLGPExpr_ok a1 o1.2)
    have q2 : (zL zGPExpr) a2 = a2.length + zLGPExpr a2 := by unfold zL; rw [zLGPExpr_eq]
    have e2 : SzOk wSzPExprS (zL zGPExpr) a2 := szS_ok (F := wSzPExpr) o2.1 (fun n => by rw [wSzPExprS]) (fun i x => by rw [wSzPExprS_L0]) (szLGPExpr_ok a2 o2.2)
    have q3 : (zL zGPSort) a3 = a3.length + zLGPSort a3 := by unfold zL; rw [zLGPSort_eq]
    have e3 : SzOk wSzPSortS (zL zGPSort) a3 := szS_ok (F := wSzPSort) o3.1 (fun n => by rw [wSzPSortS]) (fun i x => by rw [wSzPSortS_L0]) (szLGPSort_ok a3 o3.2)
    have q4 : (zL zGPExpr) a4 = a4.length + zLGPExpr a4 := by unfold zL; rw [zLGPExpr_eq]
    have e4 : SzOk wSzPExprS (zL zGPExpr) a4 := szS_ok (F := wSzPExpr) o4.1 (fun n => by rw [wSzPExprS]) (fun i x => by rw [wSzPExprS_L0]) (szLGPExpr_ok a4 o4.2)
    have e5 : SzOk wSzStringS (zL List.length) a5 := szStrS_ok a5 o5
    have hz : ((zGPlan ⟨a0, a1, a2, a3, a4, a5, a6, a7⟩ : Nat) : Int) = (((zL z0) a0 : Nat) : Int) + (((zL (zL zGPExpr)) a1 : Nat) : Int) + (((zL zGPExpr) a2 : Nat) : Int) + (((zL zGPSort) a3 : Nat) : Int) + (((zL zGPExpr) a4 : Nat) : Int) + (((zL List.length) a5 : Nat) : Int) := by simp only [zGPlan] <;> omega
    rw [hz, wSzPlan]
    dsimp only
    rw [e0 n (by omega) (by omega)]
    simp only [Option.bind_eq_bind, Option.bind_some]
    rcases (Decidable.em ((((zL z0) a0 : Nat) : Int) ≤ n)).symm with r0 | r0
    · rw [if_neg r0, if_pos (by decide)]; first | done | rw [if_neg (by omega)]
    rw [if_pos r0, if_neg (by simp; omega)]
    rw [e1 (n - (((zL z0) a0 : Nat) : Int)) (by omega) (by omega)]
    simp only [Option.bind_eq_bind, Option.bind_some]
    rcases (Decidable.em ((((zL (zL zGPExpr)) a1 : Nat) : Int) ≤ (n - (((zL z0) a0 : Nat) : Int)))).symm with r1 | r1
    · rw [if_neg r1, if_pos (by decide)]; first | done | rw [if_neg (by omega)]
    rw [if_pos r1, if_neg (by simp; omega)]
    rw [e2 ((n - (((zL z0) a0 : Nat) : Int)) - (((zL (zL zGPExpr)) a1 : Nat) : Int)) (by omega) (by omega)]
    simp only [Option.bind_eq_bind, Option.bind_some]
    rcases (Decidable.em ((((zL zGPExpr) a2 : Nat) : Int) ≤ ((n - (((zL z0) a0 : Nat) : Int)) - (((zL (zL zGPExpr)) a1 : Nat) : Int)))).symm with r2 | r2
    · rw [if_neg r2, if_pos (by decide)]; first | done | rw [if_neg (by omega)]
    rw [if_pos r2, if_neg (by simp; omega)]
    rw [e3 (((n - (((zL z0) a0 : Nat) : Int)) - (((zL (zL zGPExpr)) a1 : Nat) : Int)) - (((zL zGPExpr) a2 : Nat) : Int)) (by omega) (by omega)]
    simp only [Option.bind_eq_bind, Option.bind_some]
    rcases (Decidable.em ((((zL zGPSort) a3 : Nat) : Int) ≤ (((n - (((zL z0) a0 : Nat) : Int)) - (((zL (zL zGPExpr)) a1 : Nat) : Int)) - (((zL zGPExpr) a2 : Nat) : Int)))).symm with r3 | r3
    · rw [if_neg r3, if_pos (by decide)]; first | done | rw [if_neg (by omega)]
    rw [if_pos r3, if_neg (by simp; omega)]
    rw [e4 ((((n - (((zL z0) a0 : Nat) : Int)) - (((zL (zL zGPExpr)) a1 : Nat) : Int)) - (((zL zGPExpr) a2 : Nat) : Int)) - (((zL zGPSort) a3 : Nat) : Int)) (by omega) (by omega)]
    simp only [Option.bind_eq_bind, Option.bind_some]
    rcases (Decidable.em ((((zL zGPExpr) a4 : Nat) : Int) ≤ ((((n - (((zL z0) a0 : Nat) : Int)) - (((zL (zL zGPExpr)) a1 : Nat) : Int)) - (((zL zGPExpr) a2 : Nat) : Int)) - (((zL zGPSort) a3 : Nat) : Int)))).symm with r4 | r4
    · rw [if_neg r4, if_pos (by decide)]; first | done | rw [if_neg (by omega)]
    rw [if_pos r4, if_neg (by simp; omega)]
    rw [e5 (((((n - (((zL z0) a0 : Nat) : Int)) - (((zL (zL zGPExpr)) a1 : Nat) : Int)) - (((zL zGPExpr) a2 : Nat) : Int)) - (((zL zGPSort) a3 : Nat) : Int)) - (((zL zGPExpr) a4 : Nat) : Int)) (by omega) (by omega)]
    simp only [Option.bind_eq_bind, Option.bind_some]
    rcases (Decidable.em ((((zL List.length) a5 : Nat) : Int) ≤ (((((n - (((zL z0) a0 : Nat) : Int)) - (((zL (zL zGPExpr)) a1 : Nat) : Int)) - (((zL zGPExpr) a2 : Nat) : Int)) - (((zL zGPSort) a3 : Nat) : Int)) - (((zL zGPExpr) a4 : Nat) : Int)))).symm with r5 | r5
    · rw [if_neg r5, if_pos (by decide)]; first | done | rw [if_neg (by omega)]
    rw [if_pos r5, if_neg (by simp; omega)]
    first | done | (rw [if_pos (by omega)]; done) | (rw [if_pos (by omega)]; congr 1 <;> omega) | (congr 1 <;> omega)
theorem szGPExpr_ok : ∀ x : GPExpr, okGPExpr x → SzOk wSzPExpr zGPExpr x
  | ⟨a0, a1, a2, a3, a4, a5, a6, a7⟩, h => by
    simp only [okGPExpr] at h
    obtain ⟨o0, o1, o2, o3, o4, o5, o6, o7⟩ := h
    intro n h0 h1
    have e3 : SzOk wSzValue zGValue a3 := szGValue_ok a3 o3
    have q6 : (zL zGPExpr) a6 = a6.length + zLGPExpr a6 := by unfold zL; rw [zLGPExpr_eq]
    have e6 : SzOk wSzPExprS (zL zGPExpr) a6 := szS_ok (F := wSzPExpr) o6.1 (fun n => by rw [wSzPExprS]) (fun i x => by rw [wSzPExprS_L0]) (szLGPExpr_ok a6 o6.2)
    have q7 : (zL zGPlan) a7 = a7.length + zLGPlan a7 := by unfold zL; rw [zLGPlan_eq]
    have e7 : SzOk wSzPlanS (zL zGPlan) a7 := szS_ok (F := wSzPlan) o7.1 (fun n => by rw [wSzPlanS]) (fun i x => by rw [wSzPlanS_L0]) (szLGPlan_ok a7 o7.2)
    have hz : ((zGPExpr ⟨a0, a1, a2, a3, a4, a5, a6, a7⟩ : Nat) : Int) = ((zGValue a3 : Nat) : Int) + (((zL zGPExpr) a6 : Nat) : Int) + (((zL zGPlan) a7 : Nat) : Int) := by simp only [zGPExpr] <;> omega
    rw [hz, wSzPExpr]
    dsimp only
    rw [e3 n (by omega) (by omega)]
    simp only [Option.bind_eq_bind, Option.bind_some]
    rcases (Decidable.em (((zGValue a3 : Nat) : Int) ≤ n)).symm with r3 | r3
    · rw [if_neg r3, if_pos (by decide)]; first | done | rw [if_neg (by omega)]
    rw [if_pos r3, if_neg (by simp; omega)]
    rw [e6 (n - ((zGValue a3 : Nat) : Int)) (by omega) (by omega)]
    simp only [Option.bind_eq_bind, Option.bind_some]
    rcases (Decidable.em ((((zL zGPExpr) a6 : Nat) : Int) ≤ (n - ((zGValue a3 : Nat) : Int)))).symm with r6 | r6
    · rw [if_neg r6, if_pos (by decide)]; first | done | rw [if_neg (by omega)]
    rw [if_pos r6, if_neg (by simp; omega)]
    rw [e7 ((n - ((zGValue a3 : Nat) : Int)) - (((zL zGPExpr) a6 : Nat) : Int)) (by omega) (by omega)]
    simp only [Option.bind_eq_bind, Option.bind_some]
    rcases (Decidable.em ((((zL zGPlan) a7 : Nat) : Int) ≤ ((n - ((zGValue a3 : Nat) : Int)) - (((zL zGPExpr) a6 : Nat) : Int)))).symm with r7 | r7
    · rw [if_neg r7, if_pos (by decide)]; first | done | rw [if_neg (by omega)]
    rw [if_pos r7, if_neg (by simp; omega)]
    first | done | (rw [if_pos (by omega)]; done) | (rw [if_pos (by omega)]; congr 1 <;> omega) | (congr 1 <;> omega)
theorem szLGPExpr_ok : ∀ l : List GPExpr, okLGPExpr l → ∀ y ∈ l, SzOk wSzPExpr zGPExpr y
  | [], _ => fun y hy => by simp at hy
  | x :: l, h => by
    simp only [okLGPExpr] at h
    intro y hy
    rcases List.mem_cons.1 hy with r | hy
    · rw [r]; exact szGPExpr_ok x h.1
    · exact szLGPExpr_ok l h.2 y hy
theorem szLGPlan_ok : ∀ l : List GPlan, okLGPlan l → ∀ y ∈ l, SzOk wSzPlan zGPlan y
  | [], _ => fun y hy => by simp at hy
  | x :: l, h => by
    simp only [okLGPlan] at h
    intro y hy
    rcases List.mem_cons.1 hy with r | hy
    · rw [r]; exact szGPlan_ok x h.1
    · exact szLGPlan_ok l h.2 y hy
theorem szLGPSort_ok : ∀ l : List GPSort, okLGPSort l → ∀ y ∈ l, SzOk wSzPSort zGPSort y
  | [], _ => fun y hy => by simp at hy
  | x :: l, h => by
    simp only [okLGPSort] at h
    intro y hy
    rcases List.mem_cons.1 hy with r | hy
    · rw [r]; exact szGPSort_ok x h.1
    · exact szLGPSort_ok l h.2 y hy
theorem szLLGPExpr_ok : ∀ l : List (List GPExpr), okLLGPExpr l → ∀ y ∈ l, SzOk wSzPExprS (zL zGPExpr) y
  | [], _ => fun y hy => by simp at hy
  | x :: l, h => by
    simp only [okLLGPExpr] at h
    intro y hy
    rcases List.mem_cons.1 hy with r | hy
    · rw [r]; exact szS_ok (F := wSzPExpr) h.1.1 (fun n => by rw [wSzPExprS]) (fun i x => by rw [wSzPExprS_L0]) (szLGPExpr_ok x h.1.2)
    · exact szLLGPExpr_ok l h.2 y hy
end
mutual
theorem toGPSort_ok : ∀ x : GPSort, zGPSort x ≤ 1048576 → wToPSort x = some x
  | ⟨a0, a1⟩, hz => by
    simp only [zGPSort] at hz
    have e0 : wToPExpr a0 = some a0 := toGPExpr_ok a0 (by omega)
    rw [wToPSort]
    simp only [e0, Option.bind_eq_bind, Option.bind_some]
theorem toGPlan_ok : ∀ x : GPlan, zGPlan x ≤ 1048576 → wToPlan x = some x
  | ⟨a0, a1, a2, a3, a4, a5, a6, a7⟩, hz => by
    simp only [zGPlan] at hz
    have e0 : wToIntS a0 = some a0 := toIntS_ok a0 (by omega)
    have e1 : wToPExprSS a1 = some a1 := toS_ok (by' := 24) (W := wToPExprS) (by omega) (by omega) (by rw [wToPExprSS]) (fun i b => by rw [wToPExprSS_L0]) (toLLGPExpr_ok a1 (by omega))
    have e2 : wToPExprS a2 = some a2 := toS_ok (by' := 120) (W := wToPExpr) (by omega) (by omega) (by rw [wToPExprS]) (fun i b => by rw [wToPExprS_L0]) (toLGPExpr_ok a2 (by omega))
    have e3 : wToPSortS a3 = some a3 := toS_ok (by' := 128) (W := wToPSort) (by omega) (by omega) (by rw [wToPSortS]) (fun i b => by rw [wToPSortS_L0]) (toLGPSort_ok a3 (by omega))
    have e4 : wToPExprS a4 = some a4 := toS_ok (by' := 120) (W := wToPExpr) (by omega) (by omega) (by rw [wToPExprS]) (fun i b => by rw [wToPExprS_L0]) (toLGPExpr_ok a4 (by omega))
    have e5 : wToStringS a5 = some a5 := toStrS_ok a5 (by omega)
    rw [wToPlan]
    simp only [e0, e1, e2, e3, e4, e5, Option.bind_eq_bind, Option.bind_some]
theorem toGPExpr_ok : ∀ x : GPExpr, zGPExpr x ≤ 1048576 → wToPExpr x = some x
  | ⟨a0, a1, a2, a3, a4, a5, a6, a7⟩, hz => by
    simp only [zGPExpr] at hz
    have e3 : wToValue a3 = some a3 := toGValue_ok a3 (by omega)
    have e6 : wToPExprS a6 = some a6 := toS_ok (by' := 120) (W := wToPExpr) (by omega) (by omega) (by rw [wToPExprS]) (fun i b => by rw [wToPExprS_L0]) (toLGPExpr_ok a6 (by omega))
    have e7 : wToPlanS a7 = some a7 := toS_ok (by' := 160) (W := wToPlan) (by omega) (by omega) (by rw [wToPlanS]) (fun i b => by rw [wToPlanS_L0]) (toLGPlan_ok a7 (by omega))
    rw [wToPExpr]
    simp only [e3, e6, e7, Option.bind_eq_bind, Option.bind_some]
theorem toLGPExpr_ok : ∀ l : List GPExpr, zLGPExpr l ≤ 1048576 → ∀ y ∈ l, wToPExpr y = some y
  | [], _ => fun y hy => by simp at hy
  | x :: l, hz => by
    simp only [zLGPExpr] at hz
    intro y hy
    rcases List.mem_cons.1 hy with r | hy
    · rw [r]; exact toGPExpr_ok x (by omega)
    · exact toLGPExpr_ok l (by omega) y hy
theorem toLGPlan_ok : ∀ l : List GPlan, zLGPlan l ≤ 1048576 → ∀ y ∈ l, wToPlan y = some y
  | [], _ => fun y hy => by simp at hy
  | x :: l, hz => by
    simp only [zLGPlan] at hz
    intro y hy
    rcases List.mem_cons.1 hy with r | hy
    · rw [r]; exact toGPlan_ok x (by omega)
    · exact toLGPlan_ok l (by omega) y hy
theorem toLGPSort_ok : ∀ l : List GPSort, zLGPSort l ≤ 1048576 → ∀ y ∈ l, wToPSort y = some y
  | [], _ => fun y hy => by simp at hy
  | x :: l, hz => by
    simp only [zLGPSort] at hz
    intro y hy
    rcases List.mem_cons.1 hy with r | hy
    · rw [r]; exact toGPSort_ok x (by omega)
    · exact toLGPSort_ok l (by omega) y hy
theorem toLLGPExpr_ok : ∀ l : List (List GPExpr), zLLGPExpr l ≤ 1048576 → ∀ y ∈ l, wToPExprS y = some y
  | [], _ => fun y hy => by simp at hy
  | x :: l, hz => by
    simp only [zLLGPExpr] at hz
    intro y hy
    rcases List.mem_cons.1 hy with r | hy
    · rw [r]; exact toS_ok (by' := 120) (W := wToPExpr) (by omega) (by omega) (by rw [wToPExprS]) (fun i b => by rw [wToPExprS_L0]) (toLGPExpr_ok x (by omega))
    · exact toLLGPExpr_ok l (by omega) y hy
end
mutual
theorem eqGPSort_ok : ∀ x : GPSort, zGPSort x ≤ 1048576 → wEqPSort x x = some true
  | ⟨a0, a1⟩, hz => by
    simp only [zGPSort] at hz
    have e0 : wEqPExpr a0 a0 = some true := eqGPExpr_ok a0 (by omega)
    rw [wEqPSort]
    simp [e0]
theorem eqGPlan_ok : ∀ x : GPlan, zGPlan x ≤ 1048576 → wEqPlan x x = some true
  | ⟨a0, a1, a2, a3, a4, a5, a6, a7⟩, hz => by
    simp only [zGPlan] at hz
    have e0 : wEqIntS a0 a0 = some true := eqIntS_ok a0 (by omega)
    have e1 : wEqPExprSS a1 a1 = some true := eqS_ok (E := wEqPExprS) (by omega) (by rw [wEqPExprSS]) (fun i => by rw [wEqPExprSS_L0]) (eqLLGPExpr_ok a1 (by omega))
    have e2 : wEqPExprS a2 a2 = some true := eqS_ok (E := wEqPExpr) (by omega) (by rw [wEqPExprS]) (fun i => by rw [wEqPExprS_L0]) (eqLGPExpr_ok a2 (by omega))
    have e3 : wEqPSortS a3 a3 = some true := eqS_ok (E := wEqPSort) (by omega) (by rw [wEqPSortS]) (fun i => by rw [wEqPSortS_L0]) (eqLGPSort_ok a3 (by omega))
    have e4 : wEqPExprS a4 a4 = some true := eqS_ok (E := wEqPExpr) (by omega) (by rw [wEqPExprS]) (fun i => by rw [wEqPExprS_L0]) (eqLGPExpr_ok a4 (by omega))
    have e5 : wEqStringS a5 a5 = some true := eqStrS_ok a5 (by omega)
    rw [wEqPlan]
    simp [e0, e1, e2, e3, e4, e5]
theorem eqGPExpr_ok : ∀ x : GPExpr, zGPExpr x ≤ 1048576 → wEqPExpr x x = some true
  | ⟨a0, a1, a2, a3, a4, a5, a6, a7⟩, hz => by
    simp only [zGPExpr] at hz
    have e3 : wEqValue a3 a3 = some true := eqGValue_ok a3 (by omega)
    have e6 : wEqPExprS a6 a6 = some true := eqS_ok (E := wEqPExpr) (by omega) (by rw [wEqPExprS]) (fun i => by rw [wEqPExprS_L0]) (eqLGPExpr_ok a6 (by omega))
    have e7 : wEqPlanS a7 a7 = some true := eqS_ok (E := wEqPlan) (by omega) (by rw [wEqPlanS]) (fun i => by rw [wEqPlanS_L0]) (eqLGPlan_ok a7 (by omega))
    rw [wEqPExpr]
    simp [e3, e6, e7]
theorem eqLGPExpr_ok : ∀ l : List GPExpr, zLGPExpr l ≤ 1048576 → ∀ y ∈ l, wEqPExpr y y = some true
  | [], _ => fun y hy => by simp at hy
  | x :: l, hz => by
    simp only [zLGPExpr] at hz
    intro y hy
    rcases List.mem_cons.1 hy with r | hy
    · rw [r]; exact eqGPExpr_ok x (by omega)
    · exact eqLGPExpr_ok l (by omega) y hy
theorem eqLGPlan_ok : ∀ l : List GPlan, zLGPlan l ≤ 1048576 → ∀ y ∈ l, wEqPlan y y = some true
  | [], _ => fun y hy => by simp at hy
  | x :: l, hz => by
    simp only [zLGPlan] at hz
    intro y hy
    rcases List.mem_cons.1 hy with r | hy
    · rw [r]; exact eqGPlan_ok x (by omega)
    · exact eqLGPlan_ok l (by omega) y hy
theorem eqLGPSort_ok : ∀ l : List GPSort, zLGPSort l ≤ 1048576 → ∀ y ∈ l, wEqPSort y y = some true
  | [], _ => fun y hy => by simp at hy
  | x :: l, hz => by
    simp only [zLGPSort] at hz
    intro y hy
    rcases List.mem_cons.1 hy with r | hy
    · rw [r]; exact eqGPSort_ok x (by omega)
    · exact eqLGPSort_ok l (by omega) y hy
theorem eqLLGPExpr_ok : ∀ l : List (List GPExpr), zLLGPExpr l ≤ 1048576 → ∀ y ∈ l, wEqPExprS y y = some true
  | [], _ => fun y hy => by simp at hy
  | x :: l, hz => by
    simp only [zLLGPExpr] at hz
    intro y hy
    rcases List.mem_cons.1 hy with r | hy
    · rw [r]; exact eqS_ok (E := wEqPExpr) (by omega) (by rw [wEqPExprS]) (fun i => by rw [wEqPExprS_L0]) (eqLGPExpr_ok x (by omega))
    · exact eqLLGPExpr_ok l (by omega) y hy
end
theorem szGPExprS_ok (p : (List GPExpr)) (h : (okL okGPExpr) p) : SzOk wSzPExprS (zL zGPExpr) p := szS_ok (F := wSzPExpr) h.1 (fun n => by rw [wSzPExprS]) (fun i x => by rw [wSzPExprS_L0]) (fun y hy => szGPExpr_ok y (h.2 y hy))
theorem toGPExprS_ok (p : (List GPExpr)) (hz : (zL zGPExpr) p ≤ 1048576) : wToPExprS p = some p := by
  have q : (zL zGPExpr) p = p.length + zLGPExpr p := by unfold zL; rw [zLGPExpr_eq]
  exact toS_ok (by' := 120) (W := wToPExpr) (by omega) (by omega) (by rw [wToPExprS]) (fun i b => by rw [wToPExprS_L0]) (toLGPExpr_ok p (by omega))
theorem eqGPExprS_ok (p : (List GPExpr)) (hz : (zL zGPExpr) p ≤ 1048576) : wEqPExprS p p = some true := by
  have q : (zL zGPExpr) p = p.length + zLGPExpr p := by unfold zL; rw [zLGPExpr_eq]
  exact eqS_ok (E := wEqPExpr) (by omega) (by rw [wEqPExprS]) (fun i => by rw [wEqPExprS_L0]) (eqLGPExpr_ok p (by omega))
theorem szGPlanS_ok (p : (List GPlan)) (h : (okL okGPlan) p) : SzOk wSzPlanS (zL zGPlan) p := szS_ok (F := wSzPlan) h.1 (fun n => by rw [wSzPlanS]) (fun i x => by rw [wSzPlanS_L0]) (fun y hy => szGPlan_ok y (h.2 y hy))
theorem toGPlanS_ok (p : (List GPlan)) (hz : (zL zGPlan) p ≤ 1048576) : wToPlanS p = some p := by
  have q : (zL zGPlan) p = p.length + zLGPlan p := by unfold zL; rw [zLGPlan_eq]
  exact toS_ok (by' := 160) (W := wToPlan) (by omega) (by omega) (by rw [wToPlanS]) (fun i b => by rw [wToPlanS_L0]) (toLGPlan_ok p (by omega))
theorem eqGPlanS_ok (p : (List GPlan)) (hz : (zL zGPlan) p ≤ 1048576) : wEqPlanS p p = some true := by
  have q : (zL zGPlan) p = p.length + zLGPlan p := by unfold zL; rw [zLGPlan_eq]
  exact eqS_ok (E := wEqPlan) (by omega) (by rw [wEqPlanS]) (fun i => by rw [wEqPlanS_L0]) (eqLGPlan_ok p (by omega))
theorem szGPSortS_ok (p : (List GPSort)) (h : (okL okGPSort) p) : SzOk wSzPSortS (zL zGPSort) p := szS_ok (F := wSzPSort) h.1 (fun n => by rw [wSzPSortS]) (fun i x => by rw [wSzPSortS_L0]) (fun y hy => szGPSort_ok y (h.2 y hy))
theorem toGPSortS_ok (p : (List GPSort)) (hz : (zL zGPSort) p ≤ 1048576) : wToPSortS p = some p := by
  have q : (zL zGPSort) p = p.length + zLGPSort p := by unfold zL; rw [zLGPSort_eq]
  exact toS_ok (by' := 128) (W := wToPSort) (by omega) (by omega) (by rw [wToPSortS]) (fun i b => by rw [wToPSortS_L0]) (toLGPSort_ok p (by omega))
theorem eqGPSortS_ok (p : (List GPSort)) (hz : (zL zGPSort) p ≤ 1048576) : wEqPSortS p p = some true := by
  have q : (zL zGPSort) p = p.length + zLGPSort p := by unfold zL; rw [zLGPSort_eq]
  exact eqS_ok (E := wEqPSort) (by omega) (by rw [wEqPSortS]) (fun i => by rw [wEqPSortS_L0]) (eqLGPSort_ok p (by omega))
theorem szGPExprSS_ok (p : (List (List GPExpr))) (h : (okL (okL okGPExpr)) p) : SzOk wSzPExprSS (zL (zL zGPExpr)) p := szS_ok (F := wSzPExprS) h.1 (fun n => by rw [wSzPExprSS]) (fun i x => by rw [wSzPExprSS_L0]) (fun y hy => szGPExprS_ok y (h.2 y hy))
theorem toGPExprSS_ok (p : (List (List GPExpr))) (hz : (zL (zL zGPExpr)) p ≤ 1048576) : wToPExprSS p = some p := by
  have q : (zL (zL zGPExpr)) p = p.length + zLLGPExpr p := by rw [zLLGPExpr_eq, zL]
  exact toS_ok (by' := 24) (W := wToPExprS) (by omega) (by omega) (by rw [wToPExprSS]) (fun i b => by rw [wToPExprSS_L0]) (toLLGPExpr_ok p (by omega))
theorem eqGPExprSS_ok (p : (List (List GPExpr))) (hz : (zL (zL zGPExpr)) p ≤ 1048576) : wEqPExprSS p p = some true := by
  have q : (zL (zL zGPExpr)) p = p.length + zLLGPExpr p := by rw [zLLGPExpr_eq, zL]
  exact eqS_ok (E := wEqPExprS) (by omega) (by rw [wEqPExprSS]) (fun i => by rw [wEqPExprSS_L0]) (eqLLGPExpr_ok p (by omega))

/-! loops -/
theorem appG_ok {α : Type} {b : Nat} {l m : List α} (h : (l.length + m.length) * b ≤ 140737488355328) : appG b l m = some (l ++ m) := by unfold appG; rw [if_pos h]
/-- A loop that gathers. -/
theorem gather {α β γ : Type} {p : List α} {f : α → List β} {G : α → List β → Option (List β)} {L : List β → Int → Option γ} {K : List β → Option γ} {c : Nat} (hp : p.length ≤ 1048576)
    (hG : ∀ y ∈ p, ∀ acc : List β, acc.length + (f y).length ≤ c → G y acc = some (acc ++ f y))
    (hL : ∀ (i : Nat) acc, L acc (i : Int) = if (decide ((i : Int) < (p.length : Int))) = true then ((idx p (i : Int)) >>= fun y => (G y acc) >>= fun z => L z (IntKind.wrap .i64 ((i : Int) + 1))) else K acc) :
    ∀ acc : List β, acc.length + (p.flatMap f).length ≤ c → L acc 0 = K (acc ++ p.flatMap f) := by
  have key : ∀ i, i ≤ p.length → ∀ acc : List β, acc.length + ((p.drop i).flatMap f).length ≤ c → L acc (i : Nat) = K (acc ++ (p.drop i).flatMap f) := by
    refine back_ind ?_ ?_
    · intro acc _
      rw [hL]; simp
    · intro i hi ih acc ha
      rw [List.drop_eq_getElem_cons hi, List.flatMap_cons, List.length_append] at ha
      rw [hL, idx_lt hi, wrap_next hi (by omega)]
      simp only [lt_dec, hi, decide_true, if_true, Option.bind_eq_bind, Option.bind_some, hG _ (List.getElem_mem hi) acc (by omega)]
      rw [ih _ (by rw [List.length_append]; omega), List.drop_eq_getElem_cons hi, List.flatMap_cons, List.append_assoc]
  intro acc ha
  simpa using key 0 (by omega) acc (by simpa using ha)
/-- A loop that folds. -/
theorem folded {α β γ : Type} {p : List α} {g : α → β → Option β} {h : α → β → β} {L : β → Int → Option γ} {K : β → Option γ} (hp : p.length ≤ 1048576)
    (hg : ∀ y ∈ p, ∀ b, g y b = some (h y b))
    (hL : ∀ (i : Nat) b, L b (i : Int) = if (decide ((i : Int) < (p.length : Int))) = true then ((idx p (i : Int)) >>= fun y => (g y b) >>= fun z => L z (IntKind.wrap .i64 ((i : Int) + 1))) else K b) :
    ∀ b, L b 0 = K (p.foldl (fun b y => h y b) b) := by
  have key : ∀ i, i ≤ p.length → ∀ b, L b (i : Nat) = K ((p.drop i).foldl (fun b y => h y b) b) := by
    refine back_ind ?_ ?_
    · intro b; rw [hL]; simp
    · intro i hi ih b
      rw [hL, idx_lt hi, wrap_next hi (by omega)]
      simp only [lt_dec, hi, decide_true, if_true, Option.bind_eq_bind, Option.bind_some, hg _ (List.getElem_mem hi)]
      rw [ih, List.drop_eq_getElem_cons hi, List.foldl_cons]
  intro b
  simpa using key 0 (by omega) b

/-! codes0 -/
theorem wrap8 (n : Int) : IntKind.wrap .u8 n = n % 256 := rfl
theorem wrap64 (n : Int) : IntKind.wrap .u64 n = n % 18446744073709551616 := rfl
theorem or128 : ∀ b : BitVec 8, (b ||| 128#8).toNat = b.toNat % 128 + 128 := by decide
theorem byte_or (x : Int) (h : 0 ≤ x) : IntKind.wrap .u8 ((BitVec.ofInt (IntKind.bits .u8) (IntKind.wrap .u8 x) ||| BitVec.ofInt (IntKind.bits .u8) 128).toNat : Int) = x % 128 + 128 := by
  show IntKind.wrap .u8 (((BitVec.ofInt 8 (IntKind.wrap .u8 x) ||| 128#8).toNat : Nat) : Int) = _
  rw [or128, BitVec.toNat_ofInt, wrap8, wrap8]
  omega
theorem zig_eq (n : Int) (h1 : -9223372036854775808 ≤ n) (h2 : n ≤ 9223372036854775807) : ∃ u : Int, iZig n = some u ∧ sZig n = some u ∧ 0 ≤ u ∧ u < 18446744073709551616 := by
  have x0 : ∀ b : BitVec 64, b ^^^ 0#64 = b := fun b => by simp
  have x1 : ∀ b : BitVec 64, b ^^^ BitVec.ofInt 64 18446744073709551615 = ~~~b := fun b => by
    have : BitVec.ofInt 64 18446744073709551615 = BitVec.allOnes 64 := by decide
    rw [this, BitVec.xor_allOnes]
  by_cases hn : n < 0
  · have hs : Int.fdiv n (2 ^ 63) = -1 := by
      rw [Int.fdiv_eq_ediv_of_nonneg _ (by omega)]
      omega
    have hi : iZig n = some (2 * (-(n + 1)) + 1) := by
      unfold iZig
      rw [hs]
      show some (IntKind.wrap .u64 (((BitVec.ofInt 64 _ ^^^ BitVec.ofInt 64 (IntKind.wrap .u64 (-1))).toNat : Nat) : Int)) = _
      rw [show IntKind.wrap .u64 (-1) = 18446744073709551615 from rfl, x1, BitVec.toNat_not, BitVec.toNat_ofInt]
      simp only [wrap64]
      congr 1
      omega
    refine ⟨_, hi, ?_, by omega, by omega⟩
    unfold sZig
    rw [if_pos (by simpa using hn)]
    simp only [wrap64]
    rw [wrap_ok (n := n + 1) (by omega) (by omega), wrap_ok (by omega) (by omega)]
    congr 1
    omega
  · have hs : Int.fdiv n (2 ^ 63) = 0 := by
      rw [Int.fdiv_eq_ediv_of_nonneg _ (by omega)]
      omega
    have hi : iZig n = some (2 * n) := by
      unfold iZig
      rw [hs]
      show some (IntKind.wrap .u64 (((BitVec.ofInt 64 _ ^^^ BitVec.ofInt 64 (IntKind.wrap .u64 0)).toNat : Nat) : Int)) = _
      rw [show BitVec.ofInt 64 (IntKind.wrap .u64 0) = 0#64 from rfl, x0, BitVec.toNat_ofInt]
      simp only [wrap64]
      congr 1
      omega
    refine ⟨_, hi, ?_, by omega, by omega⟩
    unfold sZig
    rw [if_neg (by simpa using hn)]
    simp only [wrap64]
    congr 1
    omega
/-- bytes -/
def Byt (l : List Int) : Prop := ∀ y ∈ l, 0 ≤ y ∧ y < 256
theorem byt_app {a b : List Int} (ha : Byt a) (hb : Byt b) : Byt (a ++ b) := fun y hy => by
  rcases List.mem_append.1 hy with h | h
  · exact ha y h
  · exact hb y h
theorem byt_ofBytes {l : List Int} (h : Byt l) : ofBytes l = some (l.map fun n => UInt8.ofNat n.toNat) := by
  unfold ofBytes
  rw [if_pos]
  rw [List.all_eq_true]
  intro y hy
  have := h y hy
  simp; omega
theorem byt_to (s : List UInt8) : Byt (toBytes s) := fun y hy => by
  obtain ⟨u, _, rfl⟩ := List.mem_map.1 hy
  have := u.toNat_lt
  omega
theorem to_of {l : List Int} (h : Byt l) : toBytes (l.map fun n => UInt8.ofNat n.toNat) = l := by
  unfold toBytes
  rw [List.map_map]
  refine (List.map_congr_left (g := id) fun n hn => ?_).trans (List.map_id l)
  have := h n hn
  simp [Function.comp]
  omega
theorem putVar_ok : ∀ (k : Nat) (x : Int), 0 ≤ x → x < 128 ^ (k + 1) → x < 18446744073709551616 → ∃ b : List Int, Byt b ∧ b.length ≤ k + 1 ∧ ∀ acc : List Int, Byt acc → acc.length + k + 1 ≤ 1048576 →
    iPutVar_L0 x acc = some ((acc ++ b).map fun n => UInt8.ofNat n.toNat) ∧ sPutVar_L0 x acc = some ((acc ++ b).map fun n => UInt8.ofNat n.toNat)
  | k, x, h0, hk, h64 => by
    by_cases hx : x < 128
    · refine ⟨[x], fun y hy => by simp at hy; omega, by simp, fun acc ha hl => ?_⟩
      have hb : Byt (acc ++ [x]) := byt_app ha fun y hy => by simp at hy; omega
      have e1 : IntKind.wrap .u8 x = x := by rw [wrap8]; omega
      constructor
      · rw [iPutVar_L0, if_neg (by simp; omega), e1, appG_ok (by simp; omega)]
        simp only [Option.bind_eq_bind, Option.bind_some, byt_ofBytes hb]
      · rw [sPutVar_L0, if_neg (by simp; omega), e1, appG_ok (by simp; omega)]
        simp only [Option.bind_eq_bind, Option.bind_some, byt_ofBytes hb]
    · match k, hk with
      | 0, hk => omega
      | k + 1, hk =>
        have hp : (128 : Int) ^ (k + 1 + 1) = 128 ^ (k + 1) * 128 := Int.pow_succ ..
        obtain ⟨b, hb, hbl, H⟩ := putVar_ok k (x / 128) (by omega) (by omega) (by omega)
        have hd : 0 ≤ x % 128 + 128 ∧ x % 128 + 128 < 256 := by omega
        refine ⟨(x % 128 + 128) :: b, fun y hy => ?_, by simp; omega, fun acc ha hl => ?_⟩
        · rcases List.mem_cons.1 hy with rfl | hy
          · exact hd
          · exact hb y hy
        have hb2 : Byt (acc ++ [x % 128 + 128]) := byt_app ha fun y hy => by simp at hy; omega
        obtain ⟨H1, H2⟩ := H (acc ++ [x % 128 + 128]) hb2 (by simp; omega)
        have e3 : acc ++ (x % 128 + 128) :: b = acc ++ [x % 128 + 128] ++ b := by simp
        constructor
        · rw [iPutVar_L0, if_pos (by simp; omega), byte_or x h0, appG_ok (by simp; omega)]
          simp only [Option.bind_eq_bind, Option.bind_some]
          rw [show Int.fdiv x (2 ^ 7) = x / 128 by rw [Int.fdiv_eq_ediv_of_nonneg _ (by omega)]; rfl, H1, e3]
        · have e2 : IntKind.wrap .u8 (IntKind.wrap .u64 ((Int.tmod x 128) + 128)) = x % 128 + 128 := by
            rw [wrap8, wrap64, Int.tmod_eq_emod_of_nonneg h0]; omega
          rw [sPutVar_L0, if_pos (by simp; omega), e2, appG_ok (by simp; omega)]
          simp only [Option.bind_eq_bind, Option.bind_some]
          rw [show IntKind.wrap .u64 (Int.tdiv x 128) = x / 128 by rw [wrap64, Int.tdiv_eq_ediv_of_nonneg h0]; omega, H2, e3]
/-- what is written: the same on both sides, at the end -/
def Wr (F G : List Int → Option (List Int)) (e : List Int) : Prop := Byt e ∧ ∀ acc : List Int, acc.length + e.length ≤ 140737488355328 → F acc = some (acc ++ e) ∧ G acc = some (acc ++ e)
theorem num_ok (n : Int) (h : okI n) : ∃ e, e.length ≤ 10 ∧ Wr (fun acc => iWriter_number_x acc n) (fun acc => sL24Num_x acc n) e := by
  obtain ⟨u, hi, hs, h0, h1⟩ := zig_eq n h.1 h.2
  obtain ⟨b, hb, hbl, H⟩ := putVar_ok 9 u h0 (by omega) h1
  obtain ⟨H1, H2⟩ := H [] (fun y hy => by simp at hy) (by simp)
  refine ⟨b, hbl, hb, fun acc hacc => ?_⟩
  rw [List.nil_append] at H1 H2
  have hto := to_of hb
  constructor
  · show iWriter_number_x acc n = _
    rw [iWriter_number_x, hi]
    simp only [Option.bind_eq_bind, Option.bind_some]
    rw [iPutVar, H1]
    simp only [Option.bind_some, gStrings_Builder_WriteString_x, gStrings_Builder_copyCheck_x, Option.bind_eq_bind, hto, appG_ok (b := 1) (l := acc) (m := b) (by omega)]
  · show sL24Num_x acc n = _
    rw [sL24Num_x, hs]
    simp only [Option.bind_eq_bind, Option.bind_some]
    rw [sPutVar, H2]
    simp only [Option.bind_some, hto, appG_ok (b := 1) (l := acc) (m := b) (by omega)]

/-! codes -/
theorem Wr.seq {F G F' G' : List Int → Option (List Int)} {e e' : List Int} (h : Wr F G e) (h' : Wr F' G' e') : Wr (fun acc => F acc >>= F') (fun acc => G acc >>= G') (e ++ e') := by
  refine ⟨byt_app h.1 h'.1, fun acc hl => ?_⟩
  rw [List.length_append] at hl
  obtain ⟨h1, h2⟩ := h.2 acc (by omega)
  obtain ⟨h3, h4⟩ := h'.2 (acc ++ e) (by rw [List.length_append]; omega)
  simp only [h1, h2, Option.bind_eq_bind, Option.bind_some, h3, h4, List.append_assoc, and_self]
theorem Wr.congr {F G F' G' : List Int → Option (List Int)} {e : List Int} (h : Wr F G e) (hF : ∀ acc, F' acc = F acc) (hG : ∀ acc, G' acc = G acc) : Wr F' G' e :=
  ⟨h.1, fun acc hl => by rw [hF, hG]; exact h.2 acc hl⟩
theorem Wr.id : Wr (fun acc => some acc) (fun acc => some acc) [] := ⟨fun y hy => by simp at hy, fun acc _ => by simp⟩
theorem wr_loop {α : Type} {p : List α} {f : α → List Int} {GI GS : α → List Int → Option (List Int)} {LI LS : List Int → Int → Option (List Int)} {KI KS : List Int → Option (List Int)} {e : List Int} (hp : p.length ≤ 1048576)
    (H : ∀ y ∈ p, Wr (GI y) (GS y) (f y)) (hK : Wr KI KS e)
    (hI : ∀ (i : Nat) acc, LI acc (i : Int) = if (decide ((i : Int) < (p.length : Int))) = true then ((idx p (i : Int)) >>= fun y => (GI y acc) >>= fun z => LI z (IntKind.wrap .i64 ((i : Int) + 1))) else KI acc)
    (hS : ∀ (i : Nat) acc, LS acc (i : Int) = if (decide ((i : Int) < (p.length : Int))) = true then ((idx p (i : Int)) >>= fun y => (GS y acc) >>= fun z => LS z (IntKind.wrap .i64 ((i : Int) + 1))) else KS acc) :
    Wr (fun acc => LI acc 0) (fun acc => LS acc 0) (p.flatMap f ++ e) := by
  refine ⟨byt_app (fun y hy => ?_) hK.1, fun acc hl => ?_⟩
  · obtain ⟨x, hx, hy⟩ := List.mem_flatMap.1 hy
    exact (H x hx).1 y hy
  · rw [List.length_append] at hl
    have g1 := gather (c := 140737488355328) hp (fun y hy acc h => ((H y hy).2 acc h).1) hI acc (by omega)
    have g2 := gather (c := 140737488355328) hp (fun y hy acc h => ((H y hy).2 acc h).2) hS acc (by omega)
    obtain ⟨k1, k2⟩ := hK.2 (acc ++ p.flatMap f) (by rw [List.length_append]; omega)
    exact ⟨by show LI acc 0 = _; rw [g1, k1, List.append_assoc], by show LS acc 0 = _; rw [g2, k2, List.append_assoc]⟩
theorem flatMap_len {α : Type} {f : α → List Int} {z : α → Nat} {c : Nat} : ∀ {p : List α}, (∀ y ∈ p, (f y).length ≤ c * (1 + z y)) → (p.flatMap f).length ≤ c * (p.length + (p.map z).sum)
  | [], _ => by simp
  | x :: l, h => by
    have h1 := h x (by simp)
    have h2 := flatMap_len (p := l) fun y hy => h y (List.mem_cons_of_mem _ hy)
    simp only [List.flatMap_cons, List.length_append, List.length_cons, List.map_cons, List.sum_cons]
    have e : c * (l.length + 1 + (z x + (l.map z).sum)) = c * (1 + z x) + c * (l.length + (l.map z).sum) := by rw [← Nat.mul_add]; congr 1; omega
    omega
theorem okI_len {n : Nat} (h : n ≤ 1048576) : okI (n : Int) := by unfold okI; omega
theorem flag_ok (b : Bool) : ∃ e, e.length ≤ 10 ∧ Wr (fun acc => iWriter_flag_x acc b) (fun acc => sL24Flag_x acc b) e := by
  obtain ⟨e, hl, h⟩ := num_ok (if b then 1 else 0) (by unfold okI; split <;> omega)
  refine ⟨e, hl, h.congr (fun acc => ?_) (fun acc => ?_)⟩ <;> cases b <;> simp [iWriter_flag_x, sL24Flag_x]
theorem text_ok (s : List UInt8) (h : s.length ≤ 1048576) : ∃ e, e.length ≤ 10 + s.length ∧ Wr (fun acc => iWriter_text_x acc s) (fun acc => sL24Text_x acc s) e := by
  obtain ⟨e, hl, hw⟩ := num_ok (s.length : Int) (okI_len h)
  have hs : (toBytes s).length = s.length := by simp [toBytes]
  have h2 : Wr (fun acc => (gStrings_Builder_WriteString_x acc s) >>= fun y => some y.2) (fun acc => (appG 1 acc (toBytes s)) >>= fun y => some y) (toBytes s) := by
    refine ⟨byt_to s, fun acc ha => ?_⟩
    simp only [gStrings_Builder_WriteString_x, gStrings_Builder_copyCheck_x, Option.bind_eq_bind, Option.bind_some, appG_ok (b := 1) (l := acc) (m := toBytes s) (by omega), and_self]
  exact ⟨e ++ toBytes s, by simp only [List.length_append]; omega, (hw.seq h2).congr (fun acc => by rw [iWriter_text_x]) (fun acc => by rw [sL24Text_x])⟩
theorem okLGPExpr_mem : ∀ {l : List GPExpr}, okLGPExpr l → ∀ y ∈ l, okGPExpr y
  | [], _, y, hy => by simp at hy
  | x :: l, h, y, hy => by
    unfold okLGPExpr at h
    rcases List.mem_cons.1 hy with rfl | hy
    · exact h.1
    · exact okLGPExpr_mem h.2 y hy
theorem okLGPlan_mem : ∀ {l : List GPlan}, okLGPlan l → ∀ y ∈ l, okGPlan y
  | [], _, y, hy => by simp at hy
  | x :: l, h, y, hy => by
    unfold okLGPlan at h
    rcases List.mem_cons.1 hy with rfl | hy
    · exact h.1
    · exact okLGPlan_mem h.2 y hy
theorem okLGPSort_mem : ∀ {l : List GPSort}, okLGPSort l → ∀ y ∈ l, okGPSort y
  | [], _, y, hy => by simp at hy
  | x :: l, h, y, hy => by
    unfold okLGPSort at h
    rcases List.mem_cons.1 hy with rfl | hy
    · exact h.1
    · exact okLGPSort_mem h.2 y hy
theorem okLLGPExpr_mem : ∀ {l : List (List GPExpr)}, okLLGPExpr l → ∀ y ∈ l, ∀ x ∈ y, okGPExpr x
  | [], _, y, hy => by simp at hy
  | x :: l, h, y, hy => by
    unfold okLLGPExpr at h
    rcases List.mem_cons.1 hy with rfl | hy
    · exact okLGPExpr_mem h.1.2
    · exact okLLGPExpr_mem h.2 y hy
/-- code of an expression, a plan -/
def eX (x : GPExpr) : List Int := (sL24Expr_x [] x).getD []
def eP (q : GPlan) : List Int := (sL24Plan_x [] q).getD []
def OkX (x : GPExpr) : Prop := (eX x).length ≤ 300 + 400 * zGPExpr x ∧ Wr (fun acc => iWriter_expr_x acc x) (fun acc => sL24Expr_x acc x) (eX x)
def OkP (q : GPlan) : Prop := (eP q).length ≤ 300 + 400 * zGPlan q ∧ Wr (fun acc => iWriter_plan_x acc q) (fun acc => sL24Plan_x acc q) (eP q)
theorem getX {x : GPExpr} {e : List Int} (hl : e.length ≤ 300 + 400 * zGPExpr x) (hz : zGPExpr x ≤ 1048576) (h : Wr (fun acc => iWriter_expr_x acc x) (fun acc => sL24Expr_x acc x) e) : OkX x := by
  have : eX x = e := by unfold eX; rw [show sL24Expr_x [] x = _ from (h.2 [] (by simp; omega)).2]; simp
  exact ⟨by rw [this]; exact hl, by rw [this]; exact h⟩
theorem getP {x : GPlan} {e : List Int} (hl : e.length ≤ 300 + 400 * zGPlan x) (hz : zGPlan x ≤ 1048576) (h : Wr (fun acc => iWriter_plan_x acc x) (fun acc => sL24Plan_x acc x) e) : OkP x := by
  have : eP x = e := by unfold eP; rw [show sL24Plan_x [] x = _ from (h.2 [] (by simp; omega)).2]; simp
  exact ⟨by rw [this]; exact hl, by rw [this]; exact h⟩
theorem exprs_ok (p : List GPExpr) (hz : zL zGPExpr p ≤ 1048576) (H : ∀ y ∈ p, OkX y) : ∃ e, e.length ≤ 10 + 400 * zL zGPExpr p ∧ Wr (fun acc => iWriter_exprs_x acc p) (fun acc => sL24Exprs_x acc p) e := by
  unfold zL at *
  obtain ⟨e, hl, hw⟩ := num_ok (p.length : Int) (okI_len (by omega))
  have hloop := wr_loop (p := p) (f := eX) (GI := fun y acc => iWriter_expr_x acc y) (GS := fun y acc => sL24Expr_x acc y) (LI := fun acc i => iWriter_exprs_x_L0 p i acc) (LS := fun acc i => sL24Exprs_x_L0 p acc i) (KI := fun acc => some acc) (KS := fun acc => some acc) (by omega) (fun y hy => (H y hy).2) .id
    (fun i acc => by rw [iWriter_exprs_x_L0]) (fun i acc => by rw [sL24Exprs_x_L0])
  have hfl := flatMap_len (z := zGPExpr) (c := 400) (f := eX) (p := p) fun y hy => by have := (H y hy).1; omega
  exact ⟨_, by simp only [List.length_append, List.length_nil]; omega, (hw.seq hloop).congr (fun acc => by rw [iWriter_exprs_x]) (fun acc => by rw [sL24Exprs_x])⟩

theorem exprZ (x : GPExpr) : zGPExpr x = x.value.text.length + (x.kids.length + (x.kids.map zGPExpr).sum) + (x.sub.length + (x.sub.map zGPlan).sum) := by
  obtain ⟨a0, a1, a2, ⟨b0, b1, b2⟩, a4, a5, a6, a7⟩ := x
  simp only [zGPExpr, zGValue, zLGPExpr_eq, zLGPlan_eq]
theorem planZ (q : GPlan) : zGPlan q = zL z0 q.tables + (q.on_.length + (q.on_.map (zL zGPExpr)).sum) + (q.where_.length + (q.where_.map zGPExpr).sum) + (q.order.length + (q.order.map fun k => zGPExpr k.expr).sum) + (q.items.length + (q.items.map zGPExpr).sum) + zL List.length q.names := by
  obtain ⟨a0, a1, a2, a3, a4, a5, a6, a7⟩ := q
  simp only [zGPlan, zLGPExpr_eq, zLGPSort_eq, zLLGPExpr_eq]
  have : (a3.map zGPSort) = a3.map fun k => zGPExpr k.expr := List.map_congr_left fun k _ => by obtain ⟨k0, k1⟩ := k; simp only [zGPSort]
  rw [this]
theorem expr_code (x : GPExpr) (ox : okGPExpr x) (hz : zGPExpr x ≤ 1048576) (HX : ∀ y ∈ x.kids, OkX y) (HP : ∀ y ∈ x.sub, OkP y) : OkX x := by
  have hZ := exprZ x
  have ho : okI x.kind ∧ okI x.op ∧ okGValue x.value ∧ okI x.up ∧ okI x.at_ := by
    obtain ⟨a0, a1, a2, a3, a4, a5, a6, a7⟩ := x
    unfold okGPExpr at ox
    exact ⟨ox.1, ox.2.1, ox.2.2.2.1, ox.2.2.2.2.1, ox.2.2.2.2.2.1⟩
  obtain ⟨o1, o2, ⟨o3, o4, _⟩, o5, o6⟩ := ho
  obtain ⟨e1, l1, w1⟩ := num_ok _ o1
  obtain ⟨e2, l2, w2⟩ := num_ok _ o2
  obtain ⟨e3, l3, w3⟩ := flag_ok x.not_
  obtain ⟨e4, l4, w4⟩ := num_ok _ o3
  obtain ⟨e5, l5, w5⟩ := num_ok _ o4
  obtain ⟨e6, l6, w6⟩ := text_ok x.value.text (by omega)
  obtain ⟨e7, l7, w7⟩ := num_ok _ o5
  obtain ⟨e8, l8, w8⟩ := num_ok _ o6
  obtain ⟨e9, l9, w9⟩ := exprs_ok x.kids (by unfold zL; omega) HX
  obtain ⟨e10, l10, w10⟩ := num_ok (x.sub.length : Int) (okI_len (by omega))
  have hloop := wr_loop (p := x.sub) (f := eP) (GI := fun y acc => iWriter_plan_x acc y) (GS := fun y acc => sL24Plan_x acc y) (LI := fun acc i => iWriter_expr_x_L0 x i acc) (LS := fun acc i => sL24Expr_x_L0 x acc i) (KI := fun acc => some acc) (KS := fun acc => some acc) (by omega) (fun y hy => (HP y hy).2) .id
    (fun i acc => by rw [iWriter_expr_x_L0]) (fun i acc => by rw [sL24Expr_x_L0])
  have hfl := flatMap_len (z := zGPlan) (c := 400) (f := eP) (p := x.sub) fun y hy => by have := (HP y hy).1; omega
  unfold zL at l9
  refine getX ?_ hz (((w1.seq (w2.seq (w3.seq (w4.seq (w5.seq (w6.seq (w7.seq (w8.seq (w9.seq (w10.seq hloop))))))))))).congr (fun acc => by rw [iWriter_expr_x]) (fun acc => by rw [sL24Expr_x]))
  simp only [List.length_append, List.length_nil]
  omega
theorem plan_code (q : GPlan) (oq : okGPlan q) (hz : zGPlan q ≤ 1048576) (HO : ∀ l ∈ q.on_, ∀ y ∈ l, OkX y) (HW : ∀ y ∈ q.where_, OkX y) (HR : ∀ k ∈ q.order, OkX k.expr) (HI : ∀ y ∈ q.items, OkX y) : OkP q := by
  have hZ := planZ q
  have ho : (∀ n ∈ q.tables, okI n) ∧ okI q.limit := by
    obtain ⟨a0, a1, a2, a3, a4, a5, a6, a7⟩ := q
    unfold okGPlan at oq
    exact ⟨oq.1.2, oq.2.2.2.2.2.2.2⟩
  obtain ⟨o1, o2⟩ := ho
  have hzt : q.tables.length ≤ zL z0 q.tables := by unfold zL; omega
  have hzn : q.names.length + (q.names.map List.length).sum = zL List.length q.names := rfl
  let eN : Int → List Int := fun n => (sL24Num_x [] n).getD []
  have HN : ∀ n ∈ q.tables, (eN n).length ≤ 10 * (1 + z0 n) ∧ Wr (fun acc => iWriter_number_x acc n) (fun acc => sL24Num_x acc n) (eN n) := by
    intro n hn
    obtain ⟨e, hl, h⟩ := num_ok n (o1 n hn)
    have : eN n = e := by show (sL24Num_x [] n).getD [] = e; rw [show sL24Num_x [] n = _ from (h.2 [] (by simp; omega)).2]; simp
    rw [this]; exact ⟨by simp only [z0]; omega, h⟩
  let eL : List GPExpr → List Int := fun l => (sL24Exprs_x [] l).getD []
  have HL : ∀ l ∈ q.on_, (eL l).length ≤ 400 * (1 + zL zGPExpr l) ∧ Wr (fun acc => iWriter_exprs_x acc l) (fun acc => sL24Exprs_x acc l) (eL l) := by
    intro l hl
    have := le_sum (z := zL zGPExpr) hl
    obtain ⟨e, hle, h⟩ := exprs_ok l (by omega) (HO l hl)
    have : eL l = e := by show (sL24Exprs_x [] l).getD [] = e; rw [show sL24Exprs_x [] l = _ from (h.2 [] (by simp; omega)).2]; simp
    rw [this]; exact ⟨by omega, h⟩
  let eK : GPSort → List Int := fun k => ((sL24Expr_x [] k.expr) >>= fun y => sL24Flag_x y k.desc).getD []
  have HK : ∀ k ∈ q.order, (eK k).length ≤ 400 * (1 + zGPExpr k.expr) ∧ Wr (fun acc => (iWriter_expr_x acc k.expr) >>= fun y => iWriter_flag_x y k.desc) (fun acc => (sL24Expr_x acc k.expr) >>= fun y => sL24Flag_x y k.desc) (eK k) := by
    intro k hk
    have := le_sum (z := fun k : GPSort => zGPExpr k.expr) hk
    obtain ⟨e, hle, h⟩ := flag_ok k.desc
    have hs := (HR k hk).2.seq h
    have hb := (HR k hk).1
    have e1 : eK k = eX k.expr ++ e := by show (Option.getD _ []) = _; rw [show (sL24Expr_x [] k.expr) >>= (fun y => sL24Flag_x y k.desc) = _ from (hs.2 [] (by simp only [List.length_append, List.length_nil]; omega)).2]; simp
    rw [e1]; exact ⟨by simp only [List.length_append]; omega, hs⟩
  let eT : List UInt8 → List Int := fun s => (sL24Text_x [] s).getD []
  have HT : ∀ s ∈ q.names, (eT s).length ≤ 10 * (1 + s.length) ∧ Wr (fun acc => iWriter_text_x acc s) (fun acc => sL24Text_x acc s) (eT s) := by
    intro s hs
    have := le_sum (z := List.length) hs
    obtain ⟨e, hle, h⟩ := text_ok s (by omega)
    have : eT s = e := by show (sL24Text_x [] s).getD [] = e; rw [show sL24Text_x [] s = _ from (h.2 [] (by simp; omega)).2]; simp
    rw [this]; exact ⟨by omega, h⟩
  have f1 := flatMap_len fun n hn => (HN n hn).1
  have f2 := flatMap_len fun n hn => (HL n hn).1
  have f3 := flatMap_len fun n hn => (HK n hn).1
  have f4 := flatMap_len (z := List.length) fun n hn => (HT n hn).1
  obtain ⟨e1, l1, w1⟩ := num_ok (q.tables.length : Int) (okI_len (by omega))
  obtain ⟨e2, l2, w2⟩ := num_ok (q.on_.length : Int) (okI_len (by omega))
  obtain ⟨e3, l3, w3⟩ := exprs_ok q.where_ (by unfold zL; omega) HW
  obtain ⟨e4, l4, w4⟩ := num_ok (q.order.length : Int) (okI_len (by omega))
  obtain ⟨e5, l5, w5⟩ := exprs_ok q.items (by unfold zL; omega) HI
  obtain ⟨e6, l6, w6⟩ := num_ok (q.names.length : Int) (okI_len (by omega))
  obtain ⟨e7, l7, w7⟩ := flag_ok q.distinct
  obtain ⟨e8, l8, w8⟩ := num_ok q.limit o2
  have g3 := wr_loop (p := q.names) (f := eT) (GI := fun y acc => iWriter_text_x acc y) (GS := fun y acc => sL24Text_x acc y) (LI := fun acc i => iWriter_plan_x_L3 q i acc) (LS := fun acc i => sL24Plan_x_L3 q acc i) (by omega) (fun y hy => (HT y hy).2) (w7.seq w8)
    (fun i acc => by rw [iWriter_plan_x_L3]; simp only [Option.bind_eq_bind, Option.bind_some, Option.bind_assoc, Option.bind_fun_some]) (fun i acc => by rw [sL24Plan_x_L3]; simp only [Option.bind_eq_bind, Option.bind_some, Option.bind_assoc, Option.bind_fun_some])
  have g2 := wr_loop (p := q.order) (f := eK) (GI := fun k acc => (iWriter_expr_x acc k.expr) >>= fun y => iWriter_flag_x y k.desc) (GS := fun k acc => (sL24Expr_x acc k.expr) >>= fun y => sL24Flag_x y k.desc) (LI := fun acc i => iWriter_plan_x_L2 q i acc) (LS := fun acc i => sL24Plan_x_L2 q acc i) (by omega) (fun y hy => (HK y hy).2) (w5.seq (w6.seq g3))
    (fun i acc => by rw [iWriter_plan_x_L2]; simp only [Option.bind_eq_bind, Option.bind_assoc]) (fun i acc => by
      rw [sL24Plan_x_L2]
      by_cases h : i < q.order.length
      · simp only [lt_dec, h, decide_true, if_true, idx_lt h, Option.bind_eq_bind, Option.bind_some, Option.bind_assoc]
      · simp only [lt_dec, h, decide_false, Bool.false_eq_true, if_false])
  have g1 := wr_loop (p := q.on_) (f := eL) (GI := fun y acc => iWriter_exprs_x acc y) (GS := fun y acc => sL24Exprs_x acc y) (LI := fun acc i => iWriter_plan_x_L1 q i acc) (LS := fun acc i => sL24Plan_x_L1 q acc i) (by omega) (fun y hy => (HL y hy).2) (w3.seq (w4.seq g2))
    (fun i acc => by rw [iWriter_plan_x_L1]) (fun i acc => by rw [sL24Plan_x_L1])
  have g0 := wr_loop (p := q.tables) (f := eN) (GI := fun y acc => iWriter_number_x acc y) (GS := fun y acc => sL24Num_x acc y) (LI := fun acc i => iWriter_plan_x_L0 q i acc) (LS := fun acc i => sL24Plan_x_L0 q acc i) (by omega) (fun y hy => (HN y hy).2) (w2.seq g1)
    (fun i acc => by rw [iWriter_plan_x_L0]) (fun i acc => by rw [sL24Plan_x_L0])
  unfold zL at l3 l5 hZ hzt f2 f4
  refine getP ?_ hz ((w1.seq g0).congr (fun acc => by rw [iWriter_plan_x]) (fun acc => by rw [sL24Plan_x]))
  simp only [List.length_append, List.length_nil]
  unfold zL at *
  omega
theorem code_ok : ∀ n : Nat, (∀ x : GPExpr, okGPExpr x → zGPExpr x < n → zGPExpr x ≤ 1048576 → OkX x) ∧ (∀ q : GPlan, okGPlan q → zGPlan q < n → zGPlan q ≤ 1048576 → OkP q) := by
  intro n
  induction n with
  | zero => exact ⟨fun x _ h _ => by omega, fun q _ h _ => by omega⟩
  | succ n ih =>
    refine ⟨fun x ox hn hz => ?_, fun q oq hn hz => ?_⟩
    · have hZ := exprZ x
      have ok : okLGPExpr x.kids ∧ okLGPlan x.sub := by
        obtain ⟨a0, a1, a2, a3, a4, a5, a6, a7⟩ := x
        unfold okGPExpr at ox
        exact ⟨ox.2.2.2.2.2.2.1.2, ox.2.2.2.2.2.2.2.2⟩
      refine expr_code x ox hz (fun y hy => ?_) (fun y hy => ?_)
      · have := le_sum (z := zGPExpr) hy
        have := List.length_pos_of_mem hy
        exact ih.1 y (okLGPExpr_mem ok.1 y hy) (by omega) (by omega)
      · have := le_sum (z := zGPlan) hy
        have := List.length_pos_of_mem hy
        exact ih.2 y (okLGPlan_mem ok.2 y hy) (by omega) (by omega)
    · have hZ := planZ q
      have ok : okLLGPExpr q.on_ ∧ okLGPExpr q.where_ ∧ okLGPSort q.order ∧ okLGPExpr q.items := by
        obtain ⟨a0, a1, a2, a3, a4, a5, a6, a7⟩ := q
        unfold okGPlan at oq
        exact ⟨oq.2.1.2, oq.2.2.1.2, oq.2.2.2.1.2, oq.2.2.2.2.1.2⟩
      refine plan_code q oq hz (fun l hl y hy => ?_) (fun y hy => ?_) (fun k hk => ?_) (fun y hy => ?_)
      · have h1 := le_sum (z := zL zGPExpr) hl
        have h2 := le_sum (z := zGPExpr) hy
        have h3 := List.length_pos_of_mem hl
        unfold zL at h1 hZ
        exact ih.1 y (okLLGPExpr_mem ok.1 l hl y hy) (by omega) (by omega)
      · have := le_sum (z := zGPExpr) hy
        have := List.length_pos_of_mem hy
        exact ih.1 y (okLGPExpr_mem ok.2.1 y hy) (by omega) (by omega)
      · have := le_sum (z := fun k : GPSort => zGPExpr k.expr) hk
        have := List.length_pos_of_mem hk
        have h4 := okLGPSort_mem ok.2.2.1 k hk
        have h5 : okGPExpr k.expr := by obtain ⟨k0, k1⟩ := k; unfold okGPSort at h4; exact h4.1
        exact ih.1 k.expr h5 (by omega) (by omega)
      · have := le_sum (z := zGPExpr) hy
        have := List.length_pos_of_mem hy
        exact ih.1 y (okLGPExpr_mem ok.2.2.2 y hy) (by omega) (by omega)

/-! FnExactPutPExpr -/
theorem fnExactPutPExpr_true (x : GPExpr) (ox : okGPExpr x) : wFnExactPutPExpr x = some true := by
  unfold wFnExactPutPExpr
  rw [szGPExpr_ok x ox 1048576 (by omega) (by omega)]
  simp only [Option.bind_eq_bind, Option.bind_some]
  by_cases hz : (zGPExpr x : Int) ≤ 1048576
  · obtain ⟨hl, hw⟩ := (code_ok _).1 x ox (Nat.lt_succ_self _) (by omega)
    obtain ⟨h1, h2⟩ := hw.2 [] (by simp; omega)
    have e1 : iPutPExpr x = some ((eX x).map fun n => UInt8.ofNat n.toNat) := by
      rw [iPutPExpr, show iWriter_expr_x [] x = _ from h1]
      simp only [Option.bind_eq_bind, Option.bind_some, gStrings_Builder_String_x, List.nil_append, byt_ofBytes hw.1]
    have e2 : sPutPExpr x = some ((eX x).map fun n => UInt8.ofNat n.toNat) := by
      rw [sPutPExpr, show sL24Expr_x [] x = _ from h2]
      simp only [Option.bind_eq_bind, Option.bind_some, List.nil_append, byt_ofBytes hw.1]
    rw [if_pos hz, if_neg (by simp; omega), toGPExpr_ok x (by omega)]
    simp [e1, e2, toGPExpr_ok x (by omega), eqGPExpr_ok x (by omega)]
  · rw [if_neg hz]; simp

end Go.Ab
