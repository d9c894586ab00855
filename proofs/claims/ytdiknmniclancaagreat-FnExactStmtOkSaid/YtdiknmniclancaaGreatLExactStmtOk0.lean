/- What the functions compute, in plain Lean. -/
import Derived.Test.YtdiknmniclancaaGreatFExactStmtOk
namespace Go.Ab
open Go
theorem wrap_ok {n : Int} (h1 : -9223372036854775808 ≤ n) (h2 : n ≤ 9223372036854775807) : IntKind.wrap .i64 n = n := by rw [IntKind.wrap_i64]; omega
theorem wrap_next {i n : Nat} (h : i < n) (hn : n ≤ 4611686018427387904) : IntKind.wrap .i64 ((i : Int) + 1) = ((i + 1 : Nat) : Int) := by rw [wrap_ok] <;> omega
theorem lt_dec (i n : Nat) : decide ((i : Int) < (n : Int)) = decide (i < n) := by simp
theorem idx_nat {α : Type} (l : List α) (i : Nat) : idx l (i : Int) = l[i]? := by simp [idx]
theorem idx_lt {α : Type} {l : List α} {i : Nat} (h : i < l.length) : idx l (i : Int) = some l[i] := by rw [idx_nat]; simp [h]
theorem back_ind {M : Nat → Prop} {n : Nat} (h0 : M n) (h : ∀ i, i < n → M (i + 1) → M i) : ∀ i, i ≤ n → M i := by
  have : ∀ k i, i + k = n → M i := by
    intro k
    induction k with
    | zero => intro i hi; have : i = n := by omega
              subst this; exact h0
    | succ k ih => intro i hi; exact h i (by omega) (ih (i + 1) (by omega))
  exact fun i hi => this (n - i) i (by omega)
theorem copy_all {α : Type} {p : List α} {F : Int → List α → Option (List α)} (hn : p.length ≤ 4611686018427387904)
    (hF : ∀ (i : Nat) b, b.length = p.length → F i b = if i < p.length then (idx p i >>= fun v => setG b i v >>= fun c => F (IntKind.wrap .i64 ((i : Int) + 1)) c) else some b) :
    ∀ b, b.length = p.length → F 0 b = some p := by
  have key : ∀ i, i ≤ p.length → ∀ b, b.length = p.length → b.take i = p.take i → F (i : Nat) b = some p := by
    refine back_ind ?_ ?_
    · intro b hb ht
      rw [hF _ _ hb, if_neg (by omega)]
      rw [← hb, List.take_length] at ht
      rw [ht, hb, List.take_length]
    · intro i hi ih b hb ht
      rw [hF _ _ hb, if_pos hi, idx_lt hi]
      have hs : setG b i p[i] = some (b.set i p[i]) := by
        unfold setG; rw [if_pos ⟨by omega, by simp; omega⟩]; simp
      simp only [Option.bind_eq_bind, Option.bind_some, hs, wrap_next hi hn]
      refine ih _ (by simp [hb]) ?_
      rw [List.take_add_one, List.take_add_one]
      have e1 : (b.set i p[i]).take i = b.take i := by rw [List.take_set_of_le (Nat.le_refl _)]
      rw [e1, ht]
      simp [hb, hi]
  intro b hb
  exact key 0 (by omega) b hb (by simp)
theorem mkG_ok {α : Type} {by' : Nat} {n : Nat} {z : α} (h : (n : Int) * by' ≤ 140737488355328) : mkG by' (n : Int) z = some (List.replicate n z) := by
  unfold mkG; rw [if_pos ⟨by omega, h⟩]; simp
theorem appG_ok {α : Type} {b : Nat} {l m : List α} (h : (l.length + m.length) * b ≤ 140737488355328) : appG b l m = some (l ++ m) := by unfold appG; rw [if_pos h]
theorem gather {α β γ : Type} {p : List α} {f : α → List β} {G : α → List β → Option (List β)} {L : List β → Int → Option γ} {K : List β → Option γ} {c : Nat} (hp : p.length ≤ 1048576)
    (hG : ∀ y ∈ p, ∀ acc : List β, acc.length + (f y).length ≤ c → G y acc = some (acc ++ f y))
    (hL : ∀ (i : Nat) acc, L acc (i : Int) = if (decide ((i : Int) < (p.length : Int))) = true then ((idx p (i : Int)) >>= fun y => (G y acc) >>= fun z => L z (IntKind.wrap .i64 ((i : Int) + 1))) else K acc) :
    ∀ acc : List β, acc.length + (p.flatMap f).length ≤ c → L acc 0 = K (acc ++ p.flatMap f) := by
  have key : ∀ i, i ≤ p.length → ∀ acc : List β, acc.length + ((p.drop i).flatMap f).length ≤ c → L acc (i : Nat) = K (acc ++ (p.drop i).flatMap f) := by
    refine back_ind ?_ ?_
    · intro acc _
      rw [hL]; simp
    · intro i hi ih acc ha
      rw [List.drop_eq_getElem_cons hi, List.flatMap_cons, List.length_append] at ha
      rw [hL, idx_lt hi, wrap_next hi (by omega)]
      simp only [lt_dec, hi, decide_true, if_true, Option.bind_eq_bind, Option.bind_some, hG _ (List.getElem_mem hi) acc (by omega)]
      rw [ih _ (by rw [List.length_append]; omega), List.drop_eq_getElem_cons hi, List.flatMap_cons, List.append_assoc]
  intro acc ha
  simpa using key 0 (by omega) acc (by simpa using ha)
theorem folded {α β γ : Type} {p : List α} {g : α → β → Option β} {h : α → β → β} {L : β → Int → Option γ} {K : β → Option γ} (hp : p.length ≤ 1048576)
    (hg : ∀ y ∈ p, ∀ b, g y b = some (h y b))
    (hL : ∀ (i : Nat) b, L b (i : Int) = if (decide ((i : Int) < (p.length : Int))) = true then ((idx p (i : Int)) >>= fun y => (g y b) >>= fun z => L z (IntKind.wrap .i64 ((i : Int) + 1))) else K b) :
    ∀ b, L b 0 = K (p.foldl (fun b y => h y b) b) := by
  have key : ∀ i, i ≤ p.length → ∀ b, L b (i : Nat) = K ((p.drop i).foldl (fun b y => h y b) b) := by
    refine back_ind ?_ ?_
    · intro b; rw [hL]; simp
    · intro i hi ih b
      rw [hL, idx_lt hi, wrap_next hi (by omega)]
      simp only [lt_dec, hi, decide_true, if_true, Option.bind_eq_bind, Option.bind_some, hg _ (List.getElem_mem hi)]
      rw [ih, List.drop_eq_getElem_cons hi, List.foldl_cons]
  intro b
  simpa using key 0 (by omega) b
def zL {α : Type} (z : α → Nat) (l : List α) : Nat := l.length + (l.map z).sum
def SzOk {α : Type} (F : α → Int → Option Int) (z : α → Nat) (x : α) : Prop := ∀ n : Int, 0 ≤ n → n ≤ 1048576 → F x n = some (if (z x : Int) ≤ n then n - (z x : Int) else -1)
theorem sum_map_cons {α : Type} (z : α → Nat) (x : α) (l : List α) : ((x :: l).map z).sum = z x + (l.map z).sum := by simp
theorem szLoop_ok {α : Type} {p : List α} {F : α → Int → Option Int} {z : α → Nat} {L : Int → Int → Option Int} (hp : p.length ≤ 1048576)
    (hL : ∀ (i : Nat) (x : Int), L x (i : Int) = if (decide ((i : Int) < (p.length : Int))) = true then ((idx p (i : Int)) >>= fun y => (F y x) >>= fun r => if (decide (r < 0)) = true then (some (-1)) else L r (IntKind.wrap .i64 ((i : Int) + 1))) else some x)
    (H : ∀ y ∈ p, SzOk F z y) : ∀ n : Int, 0 ≤ n → n ≤ 1048576 → L n 0 = some (if ((p.map z).sum : Int) ≤ n then n - ((p.map z).sum : Int) else -1) := by
  have key : ∀ i, i ≤ p.length → ∀ n : Int, 0 ≤ n → n ≤ 1048576 → L n (i : Nat) = some (if (((p.drop i).map z).sum : Int) ≤ n then n - (((p.drop i).map z).sum : Int) else -1) := by
    refine back_ind ?_ ?_
    · intro n h0 h1
      rw [hL]; simp [h0]
    · intro i hi ih n h0 h1
      rw [hL, idx_lt hi, wrap_next hi (by omega)]
      rw [List.drop_eq_getElem_cons hi, sum_map_cons]
      simp only [Option.bind_eq_bind, Option.bind_some, lt_dec, hi, decide_true, if_true, H _ (List.getElem_mem hi) n h0 h1]
      by_cases hz : (z p[i] : Int) ≤ n
      · rw [if_pos hz, if_neg (by simp; omega), ih _ (by omega) (by omega)]
        congr 1
        by_cases hr : (((p.drop (i + 1)).map z).sum : Int) ≤ n - z p[i]
        · rw [if_pos hr, if_pos (by omega)]; omega
        · rw [if_neg hr, if_neg (by omega)]
      · rw [if_neg hz, if_pos (by decide), if_neg (by omega)]
  intro n h0 h1
  have := key 0 (by omega) n h0 h1
  simpa using this
theorem szS_ok {α : Type} {p : List α} {F : α → Int → Option Int} {z : α → Nat} {L : Int → Int → Option Int} {S : List α → Int → Option Int} (hp : p.length ≤ 9223372036854775807)
    (hS : ∀ n, S p n = if (decide ((IntKind.wrap .i64 (n - (p.length : Int))) < 0)) = true then (some (-1)) else L (IntKind.wrap .i64 (n - (p.length : Int))) 0)
    (hL : ∀ (i : Nat) (x : Int), L x (i : Int) = if (decide ((i : Int) < (p.length : Int))) = true then ((idx p (i : Int)) >>= fun y => (F y x) >>= fun r => if (decide (r < 0)) = true then (some (-1)) else L r (IntKind.wrap .i64 ((i : Int) + 1))) else some x)
    (H : ∀ y ∈ p, SzOk F z y) : SzOk S (zL z) p := by
  intro n h0 h1
  have hz : ((zL z p : Nat) : Int) = (p.length : Int) + ((p.map z).sum : Int) := by unfold zL; omega
  rw [hS, wrap_ok (by omega) (by omega), hz]
  by_cases hl : n - (p.length : Int) < 0
  · rw [if_pos (by simpa using hl), if_neg (by omega)]
  · rw [if_neg (by simpa using hl), szLoop_ok (by omega) hL H _ (by omega) (by omega)]
    congr 1
    by_cases hr : ((p.map z).sum : Int) ≤ n - p.length
    · rw [if_pos hr, if_pos (by omega)]; omega
    · rw [if_neg hr, if_neg (by omega)]
def szStr (y : List UInt8) (n : Int) : Option Int := if (decide ((IntKind.wrap .i64 (n - (y.length : Int))) < 0)) = true then (some (-1)) else (some (IntKind.wrap .i64 (n - (y.length : Int))))
theorem szStr_ok (y : List UInt8) (hy : y.length ≤ 9223372036854775807) : SzOk szStr List.length y := by
  intro n h0 h1
  unfold szStr
  rw [wrap_ok (by omega) (by omega)]
  by_cases hl : n - (y.length : Int) < 0
  · rw [if_pos (by simpa using hl), if_neg (by omega)]
  · rw [if_neg (by simpa using hl), if_pos (by omega)]
theorem szStr_bind (y : List UInt8) (x : Int) (K : Int → Option Int) : (if (decide ((IntKind.wrap .i64 (x - (y.length : Int))) < 0)) = true then (some (-1)) else K (IntKind.wrap .i64 (x - (y.length : Int)))) = ((szStr y x) >>= fun r => if (decide (r < 0)) = true then (some (-1)) else K r) := by
  unfold szStr
  by_cases h : (IntKind.wrap .i64 (x - (y.length : Int))) < 0
  · rw [if_pos (by simpa using h), if_pos (by simpa using h)]; rfl
  · rw [if_neg (by simpa using h), if_neg (by simpa using h)]
    simp only [Option.bind_eq_bind, Option.bind_some]
    rw [if_neg (by simpa using h)]
theorem toS_ok {α : Type} {p : List α} {W : α → Option α} {by' : Nat} {d : α} {L : Int → List α → Option (List α)} {S : Option (List α)} (hp : p.length ≤ 1048576) (hby : by' ≤ 134217728)
    (hS : S = (mkG by' (p.length : Int) d >>= fun y => L 0 y))
    (hL : ∀ (i : Nat) b, L (i : Int) b = if (decide ((i : Int) < (p.length : Int))) = true then ((idx p (i : Int)) >>= fun y2 => (W y2) >>= fun y3 => (idx b (i : Int)) >>= fun _ => (setG b (i : Int) y3) >>= fun y5 => L (IntKind.wrap .i64 ((i : Int) + 1)) y5) else some b)
    (H : ∀ y ∈ p, W y = some y) : S = some p := by
  have hm : (p.length : Int) * by' ≤ 140737488355328 := by
    have : (p.length : Int) * by' ≤ 1048576 * 134217728 := Int.mul_le_mul (by omega) (by omega) (by omega) (by omega)
    omega
  rw [hS, mkG_ok hm]
  simp only [Option.bind_eq_bind, Option.bind_some]
  refine copy_all (F := L) (by omega) (fun i b hb => ?_) _ (by simp)
  rw [hL]
  simp only [lt_dec, decide_eq_true_eq, Option.bind_eq_bind]
  split
  · rename_i hi
    have e : idx b (i : Int) = some b[i] := idx_lt (by omega)
    rw [idx_lt hi]
    simp only [Option.bind_some, H _ (List.getElem_mem hi), e]
  · rfl
theorem eqS_ok {α : Type} {p : List α} {E : α → α → Option Bool} {L : Int → Option Bool} {S : List α → List α → Option Bool} (hp : p.length ≤ 1048576)
    (hS : S p p = if (!decide ((p.length : Int) = (p.length : Int))) = true then (some false) else L 0)
    (hL : ∀ i : Nat, L (i : Int) = if (decide ((i : Int) < (p.length : Int))) = true then ((idx p (i : Int)) >>= fun y1 => (idx p (i : Int)) >>= fun y2 => (E y1 y2) >>= fun y3 => if (!y3) = true then (some false) else L (IntKind.wrap .i64 ((i : Int) + 1))) else some true)
    (H : ∀ y ∈ p, E y y = some true) : S p p = some true := by
  have key : ∀ i, i ≤ p.length → L (i : Nat) = some true := by
    refine back_ind ?_ ?_
    · rw [hL]; simp
    · intro i hi ih
      rw [hL]
      simp only [lt_dec, idx_lt hi, wrap_next hi (by omega), H _ (List.getElem_mem hi), Option.bind_eq_bind, Option.bind_some, ih]
      simp
  rw [hS]
  have := key 0 (by omega)
  simpa using this
theorem le_sum {α : Type} {z : α → Nat} : ∀ {p : List α} {y : α}, y ∈ p → z y ≤ (p.map z).sum
  | x :: p, y, h => by
    rw [sum_map_cons]
    rcases List.mem_cons.1 h with rfl | h
    · omega
    · have := le_sum (z := z) h; omega
def zGValue : GValue → Nat
  | ⟨a0, a1, a2⟩ => a2.length
theorem szGValue_ok : ∀ x : GValue, okGValue x → SzOk wSzValue zGValue x
  | ⟨a0, a1, a2⟩, h => by
    simp only [okGValue] at h
    obtain ⟨o0, o1, o2⟩ := h
    intro n h0 h1
    have b2 : a2.length ≤ 9223372036854775807 := o2
    have hz : ((zGValue ⟨a0, a1, a2⟩ : Nat) : Int) = (a2.length : Int) := by simp only [zGValue] <;> omega
    rw [hz, wSzValue]
    dsimp only
    rw [wrap_ok (n := n - (a2.length : Int)) (by omega) (by omega)]
    by_cases r2 : n - (a2.length : Int) < 0
    · rw [if_pos (by simpa using r2), if_neg (by omega)]
    rw [if_neg (by simpa using r2)]
    first | done | (rw [if_pos (by omega)]; done) | (rw [if_pos (by omega)]; congr 1 <;> omega) | (congr 1 <;> omega)
theorem toGValue_ok : ∀ x : GValue, zGValue x ≤ 1048576 → wToValue x = some x
  | ⟨a0, a1, a2⟩, hz => by
    simp only [zGValue] at hz
    rw [wToValue]
theorem eqGValue_ok : ∀ x : GValue, zGValue x ≤ 1048576 → wEqValue x x = some true
  | ⟨a0, a1, a2⟩, hz => by
    simp only [zGValue] at hz
    rw [wEqValue]
    simp
mutual
def zGSortKey : GSortKey → Nat
  | ⟨a0, a1⟩ => zGExpr a0
def zGSource : GSource → Nat
  | ⟨a0, a1, a2⟩ => a0.length + a1.length + (a2.length + zLGExpr a2)
def zGQuery : GQuery → Nat
  | ⟨a0, a1, a2, a3, a4, a5⟩ => (a1.length + zLGItem a1) + (a2.length + zLGSource a2) + (a3.length + zLGExpr a3) + (a4.length + zLGSortKey a4)
def zGExpr : GExpr → Nat
  | ⟨a0, a1, a2, a3, a4, a5, a6, a7⟩ => zGValue a3 + a4.length + a5.length + (a6.length + zLGExpr a6) + (a7.length + zLGQuery a7)
def zGItem : GItem → Nat
  | ⟨a0, a1, a2, a3⟩ => a1.length + zGExpr a2 + a3.length
def zLGQuery : List GQuery → Nat
  | [] => 0
  | x :: l => zGQuery x + zLGQuery l
def zLGExpr : List GExpr → Nat
  | [] => 0
  | x :: l => zGExpr x + zLGExpr l
def zLGItem : List GItem → Nat
  | [] => 0
  | x :: l => zGItem x + zLGItem l
def zLGSource : List GSource → Nat
  | [] => 0
  | x :: l => zGSource x + zLGSource l
def zLGSortKey : List GSortKey → Nat
  | [] => 0
  | x :: l => zGSortKey x + zLGSortKey l
end
theorem zLGQuery_eq : ∀ l : List GQuery, zLGQuery l = (l.map zGQuery).sum
  | [] => by simp [zLGQuery]
  | x :: l => by rw [sum_map_cons, ← zLGQuery_eq l]; simp only [zLGQuery]
theorem zLGExpr_eq : ∀ l : List GExpr, zLGExpr l = (l.map zGExpr).sum
  | [] => by simp [zLGExpr]
  | x :: l => by rw [sum_map_cons, ← zLGExpr_eq l]; simp only [zLGExpr]
theorem zLGItem_eq : ∀ l : List GItem, zLGItem l = (l.map zGItem).sum
  | [] => by simp [zLGItem]
  | x :: l => by rw [sum_map_cons, ← zLGItem_eq l]; simp only [zLGItem]
theorem zLGSource_eq : ∀ l : List GSource, zLGSource l = (l.map zGSource).sum
  | [] => by simp [zLGSource]
  | x :: l => by rw [sum_map_cons, ← zLGSource_eq l]; simp only [zLGSource]
theorem zLGSortKey_eq : ∀ l : List GSortKey, zLGSortKey l = (l.map zGSortKey).sum
  | [] => by simp [zLGSortKey]
  | x :: l => by rw [sum_map_cons, ← zLGSortKey_eq l]; simp only [zLGSortKey]
mutual
theorem szGSortKey_ok : ∀ x : GSortKey, okGSortKey x → SzOk wSzSortKey zGSortKey x
  | ⟨a0, a1⟩, h => by
    simp only [okGSortKey] at h
    obtain ⟨o0, o1⟩ := h
    intro n h0 h1
    have e0 : SzOk wSzExpr zGExpr a0 := szGExpr_ok a0 o0
    have hz : ((zGSortKey ⟨a0, a1⟩ : Nat) : Int) = ((zGExpr a0 : Nat) : Int) := by simp only [zGSortKey] <;> omega
    rw [hz, wSzSortKey]
    dsimp only
    rw [e0 n (by omega) (by omega)]
    simp only [Option.bind_eq_bind, Option.bind_some]
    rcases (Decidable.em (((zGExpr a0 : Nat) : Int) ≤ n)).symm with r0 | r0
    · rw [if_neg r0, if_pos (by decide)]; first | done | rw [if_neg (by omega)]
    rw [if_pos r0, if_neg (by simp; omega)]
    first | done | (rw [if_pos (by omega)]; done) | (rw [if_pos (by omega)]; congr 1 <;> omega) | (congr 1 <;> omega)
theorem szGSource_ok : ∀ x : GSource, okGSource x → SzOk wSzSource zGSource x
  | ⟨a0, a1, a2⟩, h => by
    simp only [okGSource] at h
    obtain ⟨o0, o1, o2⟩ := h
    intro n h0 h1
    have b0 : a0.length ≤ 9223372036854775807 := o0
    have b1 : a1.length ≤ 9223372036854775807 := o1
    have q2 : (zL zGExpr) a2 = a2.length + zLGExpr a2 := by unfold zL; rw [zLGExpr_eq]
    have e2 : SzOk wSzExprS (zL zGExpr) a2 := szS_ok (F := wSzExpr) o2.1 (fun n => by rw [wSzExprS]) (fun i x => by rw [wSzExprS_L0]) (szLGExpr_ok a2 o2.2)
    have hz : ((zGSource ⟨a0, a1, a2⟩ : Nat) : Int) = (a0.length : Int) + (a1.length : Int) + (((zL zGExpr) a2 : Nat) : Int) := by simp only [zGSource] <;> omega
    rw [hz, wSzSource]
    dsimp only
    rw [wrap_ok (n := n - (a0.length : Int)) (by omega) (by omega)]
    by_cases r0 : n - (a0.length : Int) < 0
    · rw [if_pos (by simpa using r0), if_neg (by omega)]
    rw [if_neg (by simpa using r0)]
    rw [wrap_ok (n := (n - (a0.length : Int)) - (a1.length : Int)) (by omega) (by omega)]
    by_cases r1 : (n - (a0.length : Int)) - (a1.length : Int) < 0
    · rw [if_pos (by simpa using r1), if_neg (by omega)]
    rw [if_neg (by simpa using r1)]
    rw [e2 ((n - (a0.length : Int)) - (a1.length : Int)) (by omega) (by omega)]
    simp only [Option.bind_eq_bind, Option.bind_some]
    rcases (Decidable.em ((((zL zGExpr) a2 : Nat) : Int) ≤ ((n - (a0.length : Int)) - (a1.length : Int)))).symm with r2 | r2
    · rw [if_neg r2, if_pos (by decide)]; first | done | rw [if_neg (by omega)]
    rw [if_pos r2, if_neg (by simp; omega)]
    first | done | (rw [if_pos (by omega)]; done) | (rw [if_pos (by omega)]; congr 1 <;> omega) | (congr 1 <;> omega)
theorem szGQuery_ok : ∀ x : GQuery, okGQuery x → SzOk wSzQuery zGQuery x
  | ⟨a0, a1, a2, a3, a4, a5⟩, h => by
    simp only [okGQuery] at h
    obtain ⟨o0, o1, o2, o3, o4, o5⟩ := h
    intro n h0 h1
    have q1 : (zL zGItem) a1 = a1.length + zLGItem a1 := by unfold zL; rw [zLGItem_eq]
    have e1 : SzOk wSzItemS (zL zGItem) a1 := szS_ok (F := wSzItem) o1.1 (fun n => by rw [wSzItemS]) (fun i x => by rw [wSzItemS_L0]) (szLGItem_ok a1 o1.2)
    have q2 : (zL zGSource) a2 = a2.length + zLGSource a2 := by unfold zL; rw [zLGSource_eq]
    have e2 : SzOk wSzSourceS (zL zGSource) a2 := szS_ok (F := wSzSource) o2.1 (fun n => by rw [wSzSourceS]) (fun i x => by rw [wSzSourceS_L0]) (szLGSource_ok a2 o2.2)
    have q3 : (zL zGExpr) a3 = a3.length + zLGExpr a3 := by unfold zL; rw [zLGExpr_eq]
    have e3 : SzOk wSzExprS (zL zGExpr) a3 := szS_ok (F := wSzExpr) o3.1 (fun n => by rw [wSzExprS]) (fun i x => by rw [wSzExprS_L0]) (szLGExpr_ok a3 o3.2)
    have q4 : (zL zGSortKey) a4 = a4.length + zLGSortKey a4 := by unfold zL; rw [zLGSortKey_eq]
    have e4 : SzOk wSzSortKeyS (zL zGSortKey) a4 := szS_ok (F := wSzSortKey) o4.1 (fun n => by rw [wSzSortKeyS]) (fun i x => by rw [wSzSortKeyS_L0]) (szLGSortKey_ok a4 o4.2)
    have hz : ((zGQuery ⟨a0, a1, a2, a3, a4, a5⟩ : Nat) : Int) = (((zL zGItem) a1 : Nat) : Int) + (((zL zGSource) a2 : Nat) : Int) + (((zL zGExpr) a3 : Nat) : Int) + (((zL zGSortKey) a4 : Nat) : Int) := by simp only [zGQuery] <;> omega
    rw [hz, wSzQuery]
    dsimp only
    rw [e1 n (by omega) (by omega)]
    simp only [Option.bind_eq_bind, Option.bind_some]
    rcases (Decidable.em ((((zL zGItem) a1 : Nat) : Int) ≤ n)).symm with r1 | r1
    · rw [if_neg r1, if_pos (by decide)]; first | done | rw [if_neg (by omega)]
    rw [if_pos r1, if_neg (by simp; omega)]
    rw [e2 (n - (((zL zGItem) a1 : Nat) : Int)) (by omega) (by omega)]
    simp only [Option.bind_eq_bind, Option.bind_some]
    rcases (Decidable.em ((((zL zGSource) a2 : Nat) : Int) ≤ (n - (((zL zGItem) a1 : Nat) : Int)))).symm with r2 | r2
    · rw [if_neg r2, if_pos (by decide)]; first | done | rw [if_neg (by omega)]
    rw [if_pos r2, if_neg (by simp; omega)]
    rw [e3 ((n - (((zL zGItem) a1 : Nat) : Int)) - (((zL zGSource) a2 : Nat) : Int)) (by omega) (by omega)]
    simp only [Option.bind_eq_bind, Option.bind_some]
    rcases (Decidable.em ((((zL zGExpr) a3 : Nat) : Int) ≤ ((n - (((zL zGItem) a1 : Nat) : Int)) - (((zL zGSource) a2 : Nat) : Int)))).symm with r3 | r3
    · rw [if_neg r3, if_pos (by decide)]; first | done | rw [if_neg (by omega)]
    rw [if_pos r3, if_neg (by simp; omega)]
    rw [e4 (((n - (((zL zGItem) a1 : Nat) : Int)) - (((zL zGSource) a2 : Nat) : Int)) - (((zL zGExpr) a3 : Nat) : Int)) (by omega) (by omega)]
    simp only [Option.bind_eq_bind, Option.bind_some]
    rcases (Decidable.em ((((zL zGSortKey) a4 : Nat) : Int) ≤ (((n - (((zL zGItem) a1 : Nat) : Int)) - (((zL zGSource) a2 : Nat) : Int)) - (((zL zGExpr) a3 : Nat) : Int)))).symm with r4 | r4
    · rw [if_neg r4, if_pos (by decide)]; first | done | rw [if_neg (by omega)]
    rw [if_pos r4, if_neg (by simp; omega)]
    first | done | (rw [if_pos (by omega)]; done) | (rw [if_pos (by omega)]; congr 1 <;> omega) | (congr 1 <;> omega)
theorem szGExpr_ok : ∀ x : GExpr, okGExpr x → SzOk wSzExpr zGExpr x
  | ⟨a0, a1, a2, a3, a4, a5, a6, a7⟩, h => by
    simp only [okGExpr] at h
    obtain ⟨o0, o1, o2, o3, o4, o5, o6, o7⟩ := h
    intro n h0 h1
    have e3 : SzOk wSzValue zGValue a3 := szGValue_ok a3 o3
    have b4 : a4.length ≤ 9223372036854775807 := o4
    have b5 : a5.length ≤ 9223372036854775807 := o5
    have q6 : (zL zGExpr) a6 = a6.length + zLGExpr a6 := by unfold zL; rw [zLGExpr_eq]
    have e6 : SzOk wSzExprS (zL zGExpr) a6 := szS_ok (F := wSzExpr) o6.1 (fun n => by rw [wSzExprS]) (fun i x => by rw [wSzExprS_L0]) (szLGExpr_ok a6 o6.2)
    have q7 : (zL zGQuery) a7 = a7.length + zLGQuery a7 := by unfold zL; rw [zLGQuery_eq]
    have e7 : SzOk wSzQueryS (zL zGQuery) a7 := szS_ok (F := wSzQuery) o7.1 (fun n => by rw [wSzQueryS]) (fun i x => by rw [wSzQueryS_L0]) (szLGQuery_ok a7 o7.2)
    have hz : ((zGExpr ⟨a0, a1, a2, a3, a4, a5, a6, a7⟩ : Nat) : Int) = ((zGValue a3 : Nat) : Int) + (a4.length : Int) + (a5.length : Int) + (((zL zGExpr) a6 : Nat) : Int) + (((zL zGQuery) a7 : Nat) : Int) := by simp only [zGExpr] <;> omega
    rw [hz, wSzExpr]
    dsimp only
    rw [e3 n (by omega) (by omega)]
    simp only [Option.bind_eq_bind, Option.bind_some]
    rcases (Decidable.em (((zGValue a3 : Nat) : Int) ≤ n)).symm with r3 | r3
    · rw [if_neg r3, if_pos (by decide)]; first | done | rw [if_neg (by omega)]
    rw [if_pos r3, if_neg (by simp; omega)]
    rw [wrap_ok (n := (n - ((zGValue a3 : Nat) : Int)) - (a4.length : Int)) (by omega) (by omega)]
    by_cases r4 : (n - ((zGValue a3 : Nat) : Int)) - (a4.length : Int) < 0
    · rw [if_pos (by simpa using r4), if_neg (by omega)]
    rw [if_neg (by simpa using r4)]
    rw [wrap_ok (n := ((n - ((zGValue a3 : Nat) : Int)) - (a4.length : Int)) - (a5.length : Int)) (by omega) (by omega)]
    by_cases r5 : ((n - ((zGValue a3 : Nat) : Int)) - (a4.length : Int)) - (a5.length : Int) < 0
    · rw [if_pos (by simpa using r5), if_neg (by omega)]
    rw [if_neg (by simpa using r5)]
    rw [e6 (((n - ((zGValue a3 : Nat) : Int)) - (a4.length : Int)) - (a5.length : Int)) (by omega) (by omega)]
    simp only [Option.bind_eq_bind, Option.bind_some]
    rcases (Decidable.em ((((zL zGExpr) a6 : Nat) : Int) ≤ (((n - ((zGValue a3 : Nat) : Int)) - (a4.length : Int)) - (a5.length : Int)))).symm with r6 | r6
    · rw [if_neg r6, if_pos (by decide)]; first | done | rw [if_neg (by omega)]
    rw [if_pos r6, if_neg (by simp; omega)]
    rw [e7 ((((n - ((zGValue a3 : Nat) : Int)) - (a4.length : Int)) - (a5.length : Int)) - (((zL zGExpr) a6 : Nat) : Int)) (by omega) (by omega)]
    simp only [Option.bind_eq_bind, Option.bind_some]
    rcases (Decidable.em ((((zL zGQuery) a7 : Nat) : Int) ≤ ((((n - ((zGValue a3 : Nat) : Int)) - (a4.length : Int)) - (a5.length : Int)) - (((zL zGExpr) a6 : Nat) : Int)))).symm with r7 | r7
    · rw [if_neg r7, if_pos (by decide)]; first | done | rw [if_neg (by omega)]
    rw [if_pos r7, if_neg (by simp; omega)]
    first | done | (rw [if_pos (by omega)]; done) | (rw [if_pos (by omega)]; congr 1 <;> omega) | (congr 1 <;> omega)
theorem szGItem_ok : ∀ x : GItem, okGItem x → SzOk wSzItem zGItem x
  | ⟨a0, a1, a2, a3⟩, h => by
    simp only [okGItem] at h
    obtain ⟨o0, o1, o2, o3⟩ := h
    intro n h0 h1
    have b1 : a1.length ≤ 9223372036854775807 := o1
    have e2 : SzOk wSzExpr zGExpr a2 := szGExpr_ok a2 o2
    have b3 : a3.length ≤ 9223372036854775807 := o3
    have hz : ((zGItem ⟨a0, a1, a2, a3⟩ : Nat) : Int) = (a1.length : Int) + ((zGExpr a2 : Nat) : Int) + (a3.length : Int) := by simp only [zGItem] <;> omega
    rw [hz, wSzItem]
    dsimp only
    rw [wrap_ok (n := n - (a1.length : Int)) (by omega) (by omega)]
    by_cases r1 : n - (a1.length : Int) < 0
    · rw [if_pos (by simpa using r1), if_neg (by omega)]
    rw [if_neg (by simpa using r1)]
    rw [e2 (n - (a1.length : Int)) (by omega) (by omega)]
    simp only [Option.bind_eq_bind, Option.bind_some]
    rcases (Decidable.em (((zGExpr a2 : Nat) : Int) ≤ (n - (a1.length : Int)))).symm with r2 | r2
    · rw [if_neg r2, if_pos (by decide)]; first | done | rw [if_neg (by omega)]
    rw [if_pos r2, if_neg (by simp; omega)]
    rw [wrap_ok (n := ((n - (a1.length : Int)) - ((zGExpr a2 : Nat) : Int)) - (a3.length : Int)) (by omega) (by omega)]
    by_cases r3 : ((n - (a1.length : Int)) - ((zGExpr a2 : Nat) : Int)) - (a3.length : Int) < 0
    · rw [if_pos (by simpa using r3), if_neg (by omega)]
    rw [if_neg (by simpa using r3)]
    first | done | (rw [if_pos (by omega)]; done) | (rw [if_pos (by omega)]; congr 1 <;> omega) | (congr 1 <;> omega)
theorem szLGQuery_ok : ∀ l : List GQuery, okLGQuery l → ∀ y ∈ l, SzOk wSzQuery zGQuery y
  | [], _ => fun y hy => by simp at hy
  | x :: l, h => by
    simp only [okLGQuery] at h
    intro y hy
    rcases List.mem_cons.1 hy with r | hy
    · rw [r]; exact szGQuery_ok x h.1
    · exact szLGQuery_ok l h.2 y hy
theorem szLGExpr_ok : ∀ l : List GExpr, okLGExpr l → ∀ y ∈ l, SzOk wSzExpr zGExpr y
  | [], _ => fun y hy => by simp at hy
  | x :: l, h => by
    simp only [okLGExpr] at h
    intro y hy
    rcases List.mem_cons.1 hy with r | hy
    · rw [r]; exact szGExpr_ok x h.1
    · exact szLGExpr_ok l h.2 y hy
theorem szLGItem_ok : ∀ l : List GItem, okLGItem l → ∀ y ∈ l, SzOk wSzItem zGItem y
  | [], _ => fun y hy => by simp at hy
  | x :: l, h => by
    simp only [okLGItem] at h
    intro y hy
    rcases List.mem_cons.1 hy with r | hy
    · rw [r]; exact szGItem_ok x h.1
    · exact szLGItem_ok l h.2 y hy
theorem szLGSource_ok : ∀ l : List GSource, okLGSource l → ∀ y ∈ l, SzOk wSzSource zGSource y
  | [], _ => fun y hy => by simp at hy
  | x :: l, h => by
    simp only [okLGSource] at h
    intro y hy
    rcases List.mem_cons.1 hy with r | hy
    · rw [r]; exact szGSource_ok x h.1
    · exact szLGSource_ok l h.2 y hy
theorem szLGSortKey_ok : ∀ l : List GSortKey, okLGSortKey l → ∀ y ∈ l, SzOk wSzSortKey zGSortKey y
  | [], _ => fun y hy => by simp at hy
  | x :: l, h => by
    simp only [okLGSortKey] at h
    intro y hy
    rcases List.mem_cons.1 hy with r | hy
    · rw [r]; exact szGSortKey_ok x h.1
    · exact szLGSortKey_ok l h.2 y hy
end
mutual
theorem toGSortKey_ok : ∀ x : GSortKey, zGSortKey x ≤ 1048576 → wToSortKey x = some x
  | ⟨a0, a1⟩, hz => by
    simp only [zGSortKey] at hz
    have e0 : wToExpr a0 = some a0 := toGExpr_ok a0 (by omega)
    rw [wToSortKey]
    simp only [e0, Option.bind_eq_bind, Option.bind_some]
theorem toGSource_ok : ∀ x : GSource, zGSource x ≤ 1048576 → wToSource x = some x
  | ⟨a0, a1, a2⟩, hz => by
    simp only [zGSource] at hz
    have e2 : wToExprS a2 = some a2 := toS_ok (by' := 136) (W := wToExpr) (by omega) (by omega) (by rw [wToExprS]) (fun i b => by rw [wToExprS_L0]) (toLGExpr_ok a2 (by omega))
    rw [wToSource]
    simp only [e2, Option.bind_eq_bind, Option.bind_some]
theorem toGQuery_ok : ∀ x : GQuery, zGQuery x ≤ 1048576 → wToQuery x = some x
  | ⟨a0, a1, a2, a3, a4, a5⟩, hz => by
    simp only [zGQuery] at hz
    have e1 : wToItemS a1 = some a1 := toS_ok (by' := 176) (W := wToItem) (by omega) (by omega) (by rw [wToItemS]) (fun i b => by rw [wToItemS_L0]) (toLGItem_ok a1 (by omega))
    have e2 : wToSourceS a2 = some a2 := toS_ok (by' := 56) (W := wToSource) (by omega) (by omega) (by rw [wToSourceS]) (fun i b => by rw [wToSourceS_L0]) (toLGSource_ok a2 (by omega))
    have e3 : wToExprS a3 = some a3 := toS_ok (by' := 136) (W := wToExpr) (by omega) (by omega) (by rw [wToExprS]) (fun i b => by rw [wToExprS_L0]) (toLGExpr_ok a3 (by omega))
    have e4 : wToSortKeyS a4 = some a4 := toS_ok (by' := 144) (W := wToSortKey) (by omega) (by omega) (by rw [wToSortKeyS]) (fun i b => by rw [wToSortKeyS_L0]) (toLGSortKey_ok a4 (by omega))
    rw [wToQuery]
    simp only [e1, e2, e3, e4, Option.bind_eq_bind, Option.bind_some]
theorem toGExpr_ok : ∀ x : GExpr, zGExpr x ≤ 1048576 → wToExpr x = some x
  | ⟨a0, a1, a2, a3, a4, a5, a6, a7⟩, hz => by
    simp only [zGExpr] at hz
    have e3 : wToValue a3 = some a3 := toGValue_ok a3 (by omega)
    have e6 : wToExprS a6 = some a6 := toS_ok (by' := 136) (W := wToExpr) (by omega) (by omega) (by rw [wToExprS]) (fun i b => by rw [wToExprS_L0]) (toLGExpr_ok a6 (by omega))
    have e7 : wToQueryS a7 = some a7 := toS_ok (by' := 112) (W := wToQuery) (by omega) (by omega) (by rw [wToQueryS]) (fun i b => by rw [wToQueryS_L0]) (toLGQuery_ok a7 (by omega))
    rw [wToExpr]
    simp only [e3, e6, e7, Option.bind_eq_bind, Option.bind_some]
theorem toGItem_ok : ∀ x : GItem, zGItem x ≤ 1048576 → wToItem x = some x
  | ⟨a0, a1, a2, a3⟩, hz => by
    simp only [zGItem] at hz
    have e2 : wToExpr a2 = some a2 := toGExpr_ok a2 (by omega)
    rw [wToItem]
    simp only [e2, Option.bind_eq_bind, Option.bind_some]
theorem toLGQuery_ok : ∀ l : List GQuery, zLGQuery l ≤ 1048576 → ∀ y ∈ l, wToQuery y = some y
  | [], _ => fun y hy => by simp at hy
  | x :: l, hz => by
    simp only [zLGQuery] at hz
    intro y hy
    rcases List.mem_cons.1 hy with r | hy
    · rw [r]; exact toGQuery_ok x (by omega)
    · exact toLGQuery_ok l (by omega) y hy
theorem toLGExpr_ok : ∀ l : List GExpr, zLGExpr l ≤ 1048576 → ∀ y ∈ l, wToExpr y = some y
  | [], _ => fun y hy => by simp at hy
  | x :: l, hz => by
    simp only [zLGExpr] at hz
    intro y hy
    rcases List.mem_cons.1 hy with r | hy
    · rw [r]; exact toGExpr_ok x (by omega)
    · exact toLGExpr_ok l (by omega) y hy
theorem toLGItem_ok : ∀ l : List GItem, zLGItem l ≤ 1048576 → ∀ y ∈ l, wToItem y = some y
  | [], _ => fun y hy => by simp at hy
  | x :: l, hz => by
    simp only [zLGItem] at hz
    intro y hy
    rcases List.mem_cons.1 hy with r | hy
    · rw [r]; exact toGItem_ok x (by omega)
    · exact toLGItem_ok l (by omega) y hy
theorem toLGSource_ok : ∀ l : List GSource, zLGSource l ≤ 1048576 → ∀ y ∈ l, wToSource y = some y
  | [], _ => fun y hy => by simp at hy
  | x :: l, hz => by
    simp only [zLGSource] at hz
    intro y hy
    rcases List.mem_cons.1 hy with r | hy
    · rw [r]; exact toGSource_ok x (by omega)
    · exact toLGSource_ok l (by omega) y hy
theorem toLGSortKey_ok : ∀ l : List GSortKey, zLGSortKey l ≤ 1048576 → ∀ y ∈ l, wToSortKey y = some y
  | [], _ => fun y hy => by simp at hy
  | x :: l, hz => by
    simp only [zLGSortKey] at hz
    intro y hy
    rcases List.mem_cons.1 hy with r | hy
    · rw [r]; exact toGSortKey_ok x (by omega)
    · exact toLGSortKey_ok l (by omega) y hy
end
mutual
theorem eqGSortKey_ok : ∀ x : GSortKey, zGSortKey x ≤ 1048576 → wEqSortKey x x = some true
  | ⟨a0, a1⟩, hz => by
    simp only [zGSortKey] at hz
    have e0 : wEqExpr a0 a0 = some true := eqGExpr_ok a0 (by omega)
    rw [wEqSortKey]
    simp [e0]
theorem eqGSource_ok : ∀ x : GSource, zGSource x ≤ 1048576 → wEqSource x x = some true
  | ⟨a0, a1, a2⟩, hz => by
    simp only [zGSource] at hz
    have e2 : wEqExprS a2 a2 = some true := eqS_ok (E := wEqExpr) (by omega) (by rw [wEqExprS]) (fun i => by rw [wEqExprS_L0]) (eqLGExpr_ok a2 (by omega))
    rw [wEqSource]
    simp [e2]
theorem eqGQuery_ok : ∀ x : GQuery, zGQuery x ≤ 1048576 → wEqQuery x x = some true
  | ⟨a0, a1, a2, a3, a4, a5⟩, hz => by
    simp only [zGQuery] at hz
    have e1 : wEqItemS a1 a1 = some true := eqS_ok (E := wEqItem) (by omega) (by rw [wEqItemS]) (fun i => by rw [wEqItemS_L0]) (eqLGItem_ok a1 (by omega))
    have e2 : wEqSourceS a2 a2 = some true := eqS_ok (E := wEqSource) (by omega) (by rw [wEqSourceS]) (fun i => by rw [wEqSourceS_L0]) (eqLGSource_ok a2 (by omega))
    have e3 : wEqExprS a3 a3 = some true := eqS_ok (E := wEqExpr) (by omega) (by rw [wEqExprS]) (fun i => by rw [wEqExprS_L0]) (eqLGExpr_ok a3 (by omega))
    have e4 : wEqSortKeyS a4 a4 = some true := eqS_ok (E := wEqSortKey) (by omega) (by rw [wEqSortKeyS]) (fun i => by rw [wEqSortKeyS_L0]) (eqLGSortKey_ok a4 (by omega))
    rw [wEqQuery]
    simp [e1, e2, e3, e4]
theorem eqGExpr_ok : ∀ x : GExpr, zGExpr x ≤ 1048576 → wEqExpr x x = some true
  | ⟨a0, a1, a2, a3, a4, a5, a6, a7⟩, hz => by
    simp only [zGExpr] at hz
    have e3 : wEqValue a3 a3 = some true := eqGValue_ok a3 (by omega)
    have e6 : wEqExprS a6 a6 = some true := eqS_ok (E := wEqExpr) (by omega) (by rw [wEqExprS]) (fun i => by rw [wEqExprS_L0]) (eqLGExpr_ok a6 (by omega))
    have e7 : wEqQueryS a7 a7 = some true := eqS_ok (E := wEqQuery) (by omega) (by rw [wEqQueryS]) (fun i => by rw [wEqQueryS_L0]) (eqLGQuery_ok a7 (by omega))
    rw [wEqExpr]
    simp [e3, e6, e7]
theorem eqGItem_ok : ∀ x : GItem, zGItem x ≤ 1048576 → wEqItem x x = some true
  | ⟨a0, a1, a2, a3⟩, hz => by
    simp only [zGItem] at hz
    have e2 : wEqExpr a2 a2 = some true := eqGExpr_ok a2 (by omega)
    rw [wEqItem]
    simp [e2]
theorem eqLGQuery_ok : ∀ l : List GQuery, zLGQuery l ≤ 1048576 → ∀ y ∈ l, wEqQuery y y = some true
  | [], _ => fun y hy => by simp at hy
  | x :: l, hz => by
    simp only [zLGQuery] at hz
    intro y hy
    rcases List.mem_cons.1 hy with r | hy
    · rw [r]; exact eqGQuery_ok x (by omega)
    · exact eqLGQuery_ok l (by omega) y hy
theorem eqLGExpr_ok : ∀ l : List GExpr, zLGExpr l ≤ 1048576 → ∀ y ∈ l, wEqExpr y y = some true
  | [], _ => fun y hy => by simp at hy
  | x :: l, hz => by
    simp only [zLGExpr] at hz
    intro y hy
    rcases List.mem_cons.1 hy with r | hy
    · rw [r]; exact eqGExpr_ok x (by omega)
    · exact eqLGExpr_ok l (by omega) y hy
theorem eqLGItem_ok : ∀ l : List GItem, zLGItem l ≤ 1048576 → ∀ y ∈ l, wEqItem y y = some true
  | [], _ => fun y hy => by simp at hy
  | x :: l, hz => by
    simp only [zLGItem] at hz
    intro y hy
    rcases List.mem_cons.1 hy with r | hy
    · rw [r]; exact eqGItem_ok x (by omega)
    · exact eqLGItem_ok l (by omega) y hy
theorem eqLGSource_ok : ∀ l : List GSource, zLGSource l ≤ 1048576 → ∀ y ∈ l, wEqSource y y = some true
  | [], _ => fun y hy => by simp at hy
  | x :: l, hz => by
    simp only [zLGSource] at hz
    intro y hy
    rcases List.mem_cons.1 hy with r | hy
    · rw [r]; exact eqGSource_ok x (by omega)
    · exact eqLGSource_ok l (by omega) y hy
theorem eqLGSortKey_ok : ∀ l : List GSortKey, zLGSortKey l ≤ 1048576 → ∀ y ∈ l, wEqSortKey y y = some true
  | [], _ => fun y hy => by simp at hy
  | x :: l, hz => by
    simp only [zLGSortKey] at hz
    intro y hy
    rcases List.mem_cons.1 hy with r | hy
    · rw [r]; exact eqGSortKey_ok x (by omega)
    · exact eqLGSortKey_ok l (by omega) y hy
end
theorem szGExprS_ok (p : (List GExpr)) (h : (okL okGExpr) p) : SzOk wSzExprS (zL zGExpr) p := szS_ok (F := wSzExpr) h.1 (fun n => by rw [wSzExprS]) (fun i x => by rw [wSzExprS_L0]) (fun y hy => szGExpr_ok y (h.2 y hy))
theorem toGExprS_ok (p : (List GExpr)) (hz : (zL zGExpr) p ≤ 1048576) : wToExprS p = some p := by
  have q : (zL zGExpr) p = p.length + zLGExpr p := by unfold zL; rw [zLGExpr_eq]
  exact toS_ok (by' := 136) (W := wToExpr) (by omega) (by omega) (by rw [wToExprS]) (fun i b => by rw [wToExprS_L0]) (toLGExpr_ok p (by omega))
theorem eqGExprS_ok (p : (List GExpr)) (hz : (zL zGExpr) p ≤ 1048576) : wEqExprS p p = some true := by
  have q : (zL zGExpr) p = p.length + zLGExpr p := by unfold zL; rw [zLGExpr_eq]
  exact eqS_ok (E := wEqExpr) (by omega) (by rw [wEqExprS]) (fun i => by rw [wEqExprS_L0]) (eqLGExpr_ok p (by omega))
theorem szGExprSS_ok (p : (List (List GExpr))) (h : (okL (okL okGExpr)) p) : SzOk wSzExprSS (zL (zL zGExpr)) p := szS_ok (F := wSzExprS) h.1 (fun n => by rw [wSzExprSS]) (fun i x => by rw [wSzExprSS_L0]) (fun y hy => szGExprS_ok y (h.2 y hy))
theorem toGExprSS_ok (p : (List (List GExpr))) (hz : (zL (zL zGExpr)) p ≤ 1048576) : wToExprSS p = some p := toS_ok (by' := 24) (W := wToExprS) (by unfold zL at hz; omega) (by omega) (by rw [wToExprSS]) (fun i b => by rw [wToExprSS_L0]) (fun y hy => toGExprS_ok y (by have h1 := le_sum (z := (zL zGExpr)) hy; have h2 : zL (zL zGExpr) p = p.length + (p.map (zL zGExpr)).sum := rfl; omega))
theorem eqGExprSS_ok (p : (List (List GExpr))) (hz : (zL (zL zGExpr)) p ≤ 1048576) : wEqExprSS p p = some true := eqS_ok (E := wEqExprS) (by unfold zL at hz; omega) (by rw [wEqExprSS]) (fun i => by rw [wEqExprSS_L0]) (fun y hy => eqGExprS_ok y (by have h1 := le_sum (z := (zL zGExpr)) hy; have h2 : zL (zL zGExpr) p = p.length + (p.map (zL zGExpr)).sum := rfl; omega))
theorem szStrS_ok (p : (List (List UInt8))) (h : (okL okS) p) : SzOk wSzStringS (zL List.length) p := szS_ok (F := szStr) h.1 (fun n => by rw [wSzStringS]) (fun i x => by rw [wSzStringS_L0]; simp only [fun y => szStr_bind y x (fun r => wSzStringS_L0 p r (IntKind.wrap .i64 ((i : Int) + 1)))]) (fun y hy => szStr_ok y (h.2 y hy))
theorem toStrS_ok (p : (List (List UInt8))) (hz : (zL List.length) p ≤ 1048576) : wToStringS p = some p := toS_ok (by' := 16) (W := some) (by unfold zL at hz; omega) (by omega) (by rw [wToStringS]) (fun i b => by rw [wToStringS_L0]; rfl) (fun y hy => rfl)
theorem eqStrS_ok (p : (List (List UInt8))) (hz : (zL List.length) p ≤ 1048576) : wEqStringS p p = some true := eqS_ok (E := fun a b => some (decide (a = b))) (by unfold zL at hz; omega) (by rw [wEqStringS]) (fun i => by rw [wEqStringS_L0]; rfl) (fun y hy => by simp)
def zGStmt : GStmt → Nat
  | ⟨a0, a1, a2, a3, a4, a5, a6⟩ => zGQuery a1 + a2.length + (zL (zL zGExpr)) a3 + (zL List.length) a4 + (zL zGExpr) a5 + (zL zGExpr) a6
theorem szGStmt_ok : ∀ x : GStmt, okGStmt x → SzOk wSzStmt zGStmt x
  | ⟨a0, a1, a2, a3, a4, a5, a6⟩, h => by
    simp only [okGStmt] at h
    obtain ⟨o0, o1, o2, o3, o4, o5, o6⟩ := h
    intro n h0 h1
    have e1 : SzOk wSzQuery zGQuery a1 := szGQuery_ok a1 o1
    have b2 : a2.length ≤ 9223372036854775807 := o2
    have e3 : SzOk wSzExprSS (zL (zL zGExpr)) a3 := szGExprSS_ok a3 o3
    have e4 : SzOk wSzStringS (zL List.length) a4 := szStrS_ok a4 o4
    have e5 : SzOk wSzExprS (zL zGExpr) a5 := szGExprS_ok a5 o5
    have e6 : SzOk wSzExprS (zL zGExpr) a6 := szGExprS_ok a6 o6
    have hz : ((zGStmt ⟨a0, a1, a2, a3, a4, a5, a6⟩ : Nat) : Int) = ((zGQuery a1 : Nat) : Int) + (a2.length : Int) + (((zL (zL zGExpr)) a3 : Nat) : Int) + (((zL List.length) a4 : Nat) : Int) + (((zL zGExpr) a5 : Nat) : Int) + (((zL zGExpr) a6 : Nat) : Int) := by simp only [zGStmt] <;> omega
    rw [hz, wSzStmt]
    dsimp only
    rw [e1 n (by omega) (by omega)]
    simp only [Option.bind_eq_bind, Option.bind_some]
    rcases (Decidable.em (((zGQuery a1 : Nat) : Int) ≤ n)).symm with r1 | r1
    · rw [if_neg r1, if_pos (by decide)]; first | done | rw [if_neg (by omega)]
    rw [if_pos r1, if_neg (by simp; omega)]
    rw [wrap_ok (n := (n - ((zGQuery a1 : Nat) : Int)) - (a2.length : Int)) (by omega) (by omega)]
    by_cases r2 : (n - ((zGQuery a1 : Nat) : Int)) - (a2.length : Int) < 0
    · rw [if_pos (by simpa using r2), if_neg (by omega)]
    rw [if_neg (by simpa using r2)]
    rw [e3 ((n - ((zGQuery a1 : Nat) : Int)) - (a2.length : Int)) (by omega) (by omega)]
    simp only [Option.bind_eq_bind, Option.bind_some]
    rcases (Decidable.em ((((zL (zL zGExpr)) a3 : Nat) : Int) ≤ ((n - ((zGQuery a1 : Nat) : Int)) - (a2.length : Int)))).symm with r3 | r3
    · rw [if_neg r3, if_pos (by decide)]; first | done | rw [if_neg (by omega)]
    rw [if_pos r3, if_neg (by simp; omega)]
    rw [e4 (((n - ((zGQuery a1 : Nat) : Int)) - (a2.length : Int)) - (((zL (zL zGExpr)) a3 : Nat) : Int)) (by omega) (by omega)]
    simp only [Option.bind_eq_bind, Option.bind_some]
    rcases (Decidable.em ((((zL List.length) a4 : Nat) : Int) ≤ (((n - ((zGQuery a1 : Nat) : Int)) - (a2.length : Int)) - (((zL (zL zGExpr)) a3 : Nat) : Int)))).symm with r4 | r4
    · rw [if_neg r4, if_pos (by decide)]; first | done | rw [if_neg (by omega)]
    rw [if_pos r4, if_neg (by simp; omega)]
    rw [e5 ((((n - ((zGQuery a1 : Nat) : Int)) - (a2.length : Int)) - (((zL (zL zGExpr)) a3 : Nat) : Int)) - (((zL List.length) a4 : Nat) : Int)) (by omega) (by omega)]
    simp only [Option.bind_eq_bind, Option.bind_some]
    rcases (Decidable.em ((((zL zGExpr) a5 : Nat) : Int) ≤ ((((n - ((zGQuery a1 : Nat) : Int)) - (a2.length : Int)) - (((zL (zL zGExpr)) a3 : Nat) : Int)) - (((zL List.length) a4 : Nat) : Int)))).symm with r5 | r5
    · rw [if_neg r5, if_pos (by decide)]; first | done | rw [if_neg (by omega)]
    rw [if_pos r5, if_neg (by simp; omega)]
    rw [e6 (((((n - ((zGQuery a1 : Nat) : Int)) - (a2.length : Int)) - (((zL (zL zGExpr)) a3 : Nat) : Int)) - (((zL List.length) a4 : Nat) : Int)) - (((zL zGExpr) a5 : Nat) : Int)) (by omega) (by omega)]
    simp only [Option.bind_eq_bind, Option.bind_some]
    rcases (Decidable.em ((((zL zGExpr) a6 : Nat) : Int) ≤ (((((n - ((zGQuery a1 : Nat) : Int)) - (a2.length : Int)) - (((zL (zL zGExpr)) a3 : Nat) : Int)) - (((zL List.length) a4 : Nat) : Int)) - (((zL zGExpr) a5 : Nat) : Int)))).symm with r6 | r6
    · rw [if_neg r6, if_pos (by decide)]; first | done | rw [if_neg (by omega)]
    rw [if_pos r6, if_neg (by simp; omega)]
    first | done | (rw [if_pos (by omega)]; done) | (rw [if_pos (by omega)]; congr 1 <;> omega) | (congr 1 <;> omega)
theorem toGStmt_ok : ∀ x : GStmt, zGStmt x ≤ 1048576 → wToStmt x = some x
  | ⟨a0, a1, a2, a3, a4, a5, a6⟩, hz => by
    simp only [zGStmt] at hz
    have e1 : wToQuery a1 = some a1 := toGQuery_ok a1 (by omega)
    have e3 : wToExprSS a3 = some a3 := toGExprSS_ok a3 (by omega)
    have e4 : wToStringS a4 = some a4 := toStrS_ok a4 (by omega)
    have e5 : wToExprS a5 = some a5 := toGExprS_ok a5 (by omega)
    have e6 : wToExprS a6 = some a6 := toGExprS_ok a6 (by omega)
    rw [wToStmt]
    simp only [e1, e3, e4, e5, e6, Option.bind_eq_bind, Option.bind_some]
theorem eqGStmt_ok : ∀ x : GStmt, zGStmt x ≤ 1048576 → wEqStmt x x = some true
  | ⟨a0, a1, a2, a3, a4, a5, a6⟩, hz => by
    simp only [zGStmt] at hz
    have e1 : wEqQuery a1 a1 = some true := eqGQuery_ok a1 (by omega)
    have e3 : wEqExprSS a3 a3 = some true := eqGExprSS_ok a3 (by omega)
    have e4 : wEqStringS a4 a4 = some true := eqStrS_ok a4 (by omega)
    have e5 : wEqExprS a5 a5 = some true := eqGExprS_ok a5 (by omega)
    have e6 : wEqExprS a6 a6 = some true := eqGExprS_ok a6 (by omega)
    rw [wEqStmt]
    simp [e1, e3, e4, e5, e6]
def exprsOf (q : GQuery) : List GExpr := q.items.flatMap (fun i => if i.star then [] else [i.expr]) ++ q.from_.flatMap (fun s => s.on_) ++ q.where_ ++ q.order.flatMap (fun k => [k.expr])
theorem zQ (q : GQuery) : zGQuery q = (q.items.length + zLGItem q.items) + (q.from_.length + zLGSource q.from_) + (q.where_.length + zLGExpr q.where_) + (q.order.length + zLGSortKey q.order) := by
  cases q; simp only [zGQuery]
theorem zE (x : GExpr) : zGExpr x = zGValue x.value + x.qual.length + x.name.length + (x.kids.length + zLGExpr x.kids) + (x.sub.length + zLGQuery x.sub) := by
  cases x; simp only [zGExpr]
theorem items_len : ∀ l : List GItem, (l.flatMap (fun i => if i.star then [] else [i.expr])).length ≤ l.length
  | [] => by simp
  | x :: l => by
    have := items_len l
    rw [List.flatMap_cons, List.length_append]
    have h1 : (if x.star = true then [] else [x.expr]).length ≤ 1 := by cases x.star <;> simp
    simp only [List.length_cons]; omega
theorem ons_len : ∀ l : List GSource, (l.flatMap (fun s => s.on_)).length ≤ zLGSource l
  | [] => by simp
  | ⟨a, b, c⟩ :: l => by
    have := ons_len l
    rw [List.flatMap_cons, List.length_append]
    simp only [zLGSource, zGSource]; omega
theorem order_len : ∀ l : List GSortKey, (l.flatMap (fun k => [k.expr])).length = l.length
  | [] => by simp
  | x :: l => by rw [List.flatMap_cons, List.length_append, order_len l]; simp; omega
theorem iExprs_ok (q : GQuery) (hz : zGQuery q ≤ 1048576) : iQuery_exprs q = some (exprsOf q) := by
  have h := zQ q
  have h1 := items_len q.items
  have h2 := ons_len q.from_
  have h3 := order_len q.order
  have app : ∀ {l m : List GExpr}, l.length + m.length ≤ 1048576 → appG 136 l m = some (l ++ m) := fun h => appG_ok (by omega)
  unfold iQuery_exprs
  rw [gather (p := q.items) (f := fun i => if i.star then [] else [i.expr]) (c := 1048576) (G := fun y acc => if (!y.star) = true then appG 136 acc [y.expr] else some acc) (L := fun acc i => iQuery_exprs_L0 q acc i) (K := fun acc => iQuery_exprs_L2 q acc 0) (by omega) ?_ ?_ [] (by simp only [List.length_nil, Nat.zero_add]; omega)]
  rw [gather (p := q.from_) (f := fun s => s.on_) (c := 1048576) (G := fun y acc => appG 136 acc y.on_) (L := fun acc i => iQuery_exprs_L2 q acc i) (K := fun acc => (appG 136 acc q.where_) >>= fun y7 => iQuery_exprs_L3 q y7 0) (by omega) ?_ ?_ _ (by simp only [List.length_append, List.length_nil]; omega)]
  rw [app (by simp only [List.length_append, List.length_nil]; omega)]
  simp only [Option.bind_eq_bind, Option.bind_some]
  rw [gather (p := q.order) (f := fun k => [k.expr]) (c := 1048576) (G := fun y acc => appG 136 acc [y.expr]) (L := fun acc i => iQuery_exprs_L3 q acc i) (K := fun acc => some acc) (by omega) ?_ ?_ _ (by simp only [List.length_append, List.length_nil]; omega)]
  · simp [exprsOf]
  · intro y _ acc ha; exact app ha
  · intro i acc; rw [iQuery_exprs_L3]
  · intro y _ acc ha; exact app ha
  · intro i acc; rw [iQuery_exprs_L2]
  · intro y _ acc ha
    cases hs : y.star
    · simp only [hs, Bool.not_false, if_true] at ha ⊢; exact app ha
    · simp
  · intro i acc
    rw [iQuery_exprs_L0]
    simp only [iQuery_exprs_J1]
    split
    · simp only [Option.bind_eq_bind]
      cases idx q.items (i : Int) with
      | none => rfl
      | some y => by_cases hs : y.star = true <;> simp [hs]
    · rfl
theorem sExprs_ok (q : GQuery) (hz : zGQuery q ≤ 1048576) : sL7Exprs q = some (exprsOf q) := by
  have h := zQ q
  have h1 := items_len q.items
  have h2 := ons_len q.from_
  have h3 := order_len q.order
  have app : ∀ {l m : List GExpr}, l.length + m.length ≤ 1048576 → appG 136 l m = some (l ++ m) := fun h => appG_ok (by omega)
  unfold sL7Exprs
  rw [gather (p := q.items) (f := fun i => if i.star then [] else [i.expr]) (c := 1048576) (G := fun y acc => if (!y.star) = true then appG 136 acc [y.expr] else some acc) (L := fun acc i => sL7Exprs_L0 q acc i) (K := fun acc => sL7Exprs_L2 q acc 0) (by omega) ?_ ?_ [] (by simp only [List.length_nil, Nat.zero_add]; omega)]
  rw [gather (p := q.from_) (f := fun s => s.on_) (c := 1048576) (G := fun y acc => appG 136 acc y.on_) (L := fun acc i => sL7Exprs_L2 q acc i) (K := fun acc => (appG 136 acc q.where_) >>= fun y7 => sL7Exprs_L3 q y7 0) (by omega) ?_ ?_ _ (by simp only [List.length_append, List.length_nil]; omega)]
  rw [app (by simp only [List.length_append, List.length_nil]; omega)]
  simp only [Option.bind_eq_bind, Option.bind_some]
  rw [gather (p := q.order) (f := fun k => [k.expr]) (c := 1048576) (G := fun y acc => appG 136 acc [y.expr]) (L := fun acc i => sL7Exprs_L3 q acc i) (K := fun acc => some acc) (by omega) ?_ ?_ _ (by simp only [List.length_append, List.length_nil]; omega)]
  · simp [exprsOf]
  · intro y _ acc ha; exact app ha
  · intro i acc; rw [sL7Exprs_L3]
  · intro y _ acc ha; exact app ha
  · intro i acc; rw [sL7Exprs_L2]
  · intro y _ acc ha
    cases hs : y.star
    · simp only [hs, Bool.not_false, if_true] at ha ⊢; exact app ha
    · simp
  · intro i acc
    rw [sL7Exprs_L0]
    simp only [sL7Exprs_J1]
    split
    · simp only [Option.bind_eq_bind]
      cases idx q.items (i : Int) with
      | none => rfl
      | some y => by_cases hs : y.star = true <;> simp [hs]
    · rfl
theorem memL_lt {x : GExpr} : ∀ {l : List GExpr}, x ∈ l → zGExpr x < l.length + zLGExpr l
  | y :: l, h => by
    simp only [zLGExpr, List.length_cons]
    rcases List.mem_cons.1 h with rfl | h
    · omega
    · have := memL_lt h; omega
theorem memQ_lt {x : GQuery} : ∀ {l : List GQuery}, x ∈ l → zGQuery x < l.length + zLGQuery l
  | y :: l, h => by
    simp only [zLGQuery, List.length_cons]
    rcases List.mem_cons.1 h with rfl | h
    · omega
    · have := memQ_lt h; omega
theorem memI_lt {x : GItem} : ∀ {l : List GItem}, x ∈ l → zGItem x < l.length + zLGItem l
  | y :: l, h => by
    simp only [zLGItem, List.length_cons]
    rcases List.mem_cons.1 h with rfl | h
    · omega
    · have := memI_lt h; omega
theorem memS_lt {x : GSource} : ∀ {l : List GSource}, x ∈ l → zGSource x < l.length + zLGSource l
  | y :: l, h => by
    simp only [zLGSource, List.length_cons]
    rcases List.mem_cons.1 h with rfl | h
    · omega
    · have := memS_lt h; omega
theorem memK_lt {x : GSortKey} : ∀ {l : List GSortKey}, x ∈ l → zGSortKey x < l.length + zLGSortKey l
  | y :: l, h => by
    simp only [zLGSortKey, List.length_cons]
    rcases List.mem_cons.1 h with rfl | h
    · omega
    · have := memK_lt h; omega
theorem exprsOf_len (q : GQuery) : (exprsOf q).length ≤ zGQuery q := by
  have h := zQ q
  have h1 := items_len q.items
  have h2 := ons_len q.from_
  have h3 := order_len q.order
  simp only [exprsOf, List.length_append]; omega
theorem exprsOf_lt {q : GQuery} {x : GExpr} (hx : x ∈ exprsOf q) : zGExpr x < zGQuery q := by
  have h := zQ q
  simp only [exprsOf, List.mem_append, List.mem_flatMap] at hx
  rcases hx with ((⟨i, hi, hx⟩ | ⟨s, hs, hx⟩) | hx) | ⟨k, hk, hx⟩
  · have h1 := memI_lt hi
    have : x = i.expr := by
      cases hst : i.star <;> simp [hst] at hx
      exact hx
    subst this
    have : zGExpr i.expr ≤ zGItem i := by obtain ⟨a, b, c, d⟩ := i; simp only [zGItem]; omega
    omega
  · have h1 := memS_lt hs
    have h2 := memL_lt hx
    have : s.on_.length + zLGExpr s.on_ ≤ zGSource s := by obtain ⟨a, b, c⟩ := s; simp only [zGSource]; omega
    omega
  · have h2 := memL_lt hx
    omega
  · have h1 := memK_lt hk
    have : x = k.expr := by simpa using hx
    subst this
    have : zGExpr k.expr ≤ zGSortKey k := by obtain ⟨a, b⟩ := k; simp only [zGSortKey]; omega
    omega
theorem sum_app {α : Type} (z : α → Nat) (l m : List α) : ((l ++ m).map z).sum = (l.map z).sum + (m.map z).sum := by simp
theorem exprs_sum (q : GQuery) : (exprsOf q).length + ((exprsOf q).map zGExpr).sum ≤ zGQuery q := by
  have h := zQ q
  have h1 : ∀ l : List GItem, (l.flatMap (fun i => if i.star then [] else [i.expr])).length + ((l.flatMap (fun i => if i.star then [] else [i.expr])).map zGExpr).sum ≤ l.length + zLGItem l := by
    intro l
    induction l with
    | nil => simp
    | cons x l ih =>
      rw [List.flatMap_cons, List.length_append, sum_app]
      have h1 : (if x.star = true then [] else [x.expr]).length + ((if x.star = true then [] else [x.expr]).map zGExpr).sum ≤ 1 + zGItem x := by
        obtain ⟨a, b, c, d⟩ := x
        cases a <;> simp [zGItem] <;> omega
      simp only [List.length_cons, zLGItem]; omega
  have h2 : ∀ l : List GSource, (l.flatMap (fun s => s.on_)).length + ((l.flatMap (fun s => s.on_)).map zGExpr).sum ≤ l.length + zLGSource l := by
    intro l
    induction l with
    | nil => simp
    | cons x l ih =>
      rw [List.flatMap_cons, List.length_append, sum_app]
      obtain ⟨a, b, c⟩ := x
      simp only [List.length_cons, zLGSource, zGSource, zLGExpr_eq]; omega
  have h3 : ∀ l : List GSortKey, (l.flatMap (fun k => [k.expr])).length + ((l.flatMap (fun k => [k.expr])).map zGExpr).sum ≤ l.length + zLGSortKey l := by
    intro l
    induction l with
    | nil => simp
    | cons x l ih =>
      rw [List.flatMap_cons, List.length_append, sum_app]
      obtain ⟨a, b⟩ := x
      simp only [List.length_cons, List.length_nil, List.map_cons, List.map_nil, List.sum_cons, List.sum_nil, zLGSortKey, zGSortKey]; omega
  have k1 := h1 q.items
  have k2 := h2 q.from_
  have k3 := h3 q.order
  have k4 := zLGExpr_eq q.where_
  simp only [exprsOf, List.length_append, sum_app]
  omega
theorem fold_add {α : Type} {d : α → Int} : ∀ {p : List α} {b : Int}, 0 ≤ b → (∀ y ∈ p, 0 ≤ d y) → b + (p.map d).sum ≤ 4611686018427387904 → p.foldl (fun b y => IntKind.wrap .i64 (b + d y)) b = b + (p.map d).sum
  | [], b, _, _, _ => by simp
  | x :: p, b, h0, h1, h2 => by
    simp only [List.map_cons, List.sum_cons] at h2 ⊢
    have hx := h1 x (by simp)
    have hs : 0 ≤ (p.map d).sum := by
      have : ∀ l : List α, (∀ y ∈ l, 0 ≤ d y) → 0 ≤ (l.map d).sum := by
        intro l
        induction l with
        | nil => intro _; simp
        | cons a l ih => intro h; simp only [List.map_cons, List.sum_cons]; have := h a (by simp); have := ih fun y hy => h y (by simp [hy]); omega
      exact this p fun y hy => h1 y (by simp [hy])
    rw [List.foldl_cons, wrap_ok (by omega) (by omega), fold_add (by omega) (fun y hy => h1 y (by simp [hy])) (by omega)]
    omega
theorem sum_le {α : Type} {d : α → Int} {z : α → Nat} : ∀ {p : List α}, (∀ y ∈ p, 0 ≤ d y ∧ d y ≤ 1 + z y) → 0 ≤ (p.map d).sum ∧ (p.map d).sum ≤ p.length + (p.map z).sum
  | [], _ => by simp
  | x :: p, h => by
    have h1 := h x (by simp)
    have h2 := sum_le (p := p) fun y hy => h y (by simp [hy])
    simp only [List.map_cons, List.sum_cons, List.length_cons]; omega
theorem sum_le0 {α : Type} {d : α → Int} {z : α → Nat} : ∀ {p : List α}, (∀ y ∈ p, 0 ≤ d y ∧ d y ≤ z y) → 0 ≤ (p.map d).sum ∧ (p.map d).sum ≤ (p.map z).sum
  | [], _ => by simp
  | x :: p, h => by
    have h1 := h x (by simp)
    have h2 := sum_le0 (p := p) fun y hy => h y (by simp [hy])
    simp only [List.map_cons, List.sum_cons]; omega
theorem nameOk_sE (s : List UInt8) : ∃ b, sNameOk s = some b ∧ iNameOk s = some b := by
  unfold iNameOk sNameOk sL1In
  exact ⟨_, rfl, rfl⟩
theorem maybe_sE (s : List UInt8) : ∃ b, sL7Maybe s = some b ∧ iIsAs s = some b := by
  obtain ⟨b, h1, h2⟩ := nameOk_sE s
  unfold sL7Maybe iIsAs
  by_cases h : s = []
  · simp [h]
  · simp [h, h1, h2]
theorem valueOk_sE (x : GValue) : iValueOk x = sValueOk x ∧ ∃ b, sValueOk x = some b := by
  unfold iValueOk sValueOk sL1In
  simp only [Option.bind_eq_bind, Option.bind_some]
  by_cases h0 : x.kind = 0
  · simp [h0]
  by_cases h1 : x.kind = 1
  · simp [h1]
  by_cases h2 : x.kind = 2
  · simp [h2]
  by_cases h3 : x.kind = 3
  · by_cases n0 : x.num = 0
    · simp [h3, n0]
    by_cases n1 : x.num = 1
    · simp [h3, n1]
    have e : (if decide (0 ≤ x.num) = true then decide (x.num ≤ 1) else false) = false := by
      by_cases p : 0 ≤ x.num
      · simp [p]; omega
      · simp [p]
    rw [e]
    simp [h3, n0, n1]
  · simp [h0, h1, h2, h3]
theorem lit_sE (x : GValue) : ∃ b, sL7Lit x = some b ∧ iIsLit x = some b := by
  obtain ⟨h1, b, h2⟩ := valueOk_sE x
  unfold sL7Lit iIsLit
  rw [h1, h2]
  cases b <;> simp
def iRest (x : GExpr) : Option Bool := (iAreFormed x.kids) >>= fun (y13 : Bool) => (if (true && (y13 == true)) = true then gZ5 x.sub else some default) >>= fun (y14 : Bool) => (some (if y13 = true then (!y14) else false)) >>= fun (y15 : Bool) => some y15
theorem orM {β : Type} {b : Bool} {m : Option Bool} {K : Bool → Option β} : ((if (true && (b == false)) = true then m else some (default : Bool)).bind fun y => (some (if b = true then true else y)).bind K) = ((if b = true then some true else m).bind K) := by cases b <;> cases m <;> rfl
theorem orS (b c : Bool) : (if b = true then some true else some c) = some (b || c) := by cases b <;> rfl
theorem orB (b c : Bool) : (if b = true then true else c) = (b || c) := by cases b <;> rfl
theorem andB (b c : Bool) : (if b = true then c else false) = (b && c) := by cases b <;> rfl
theorem isFormed_E (x : GExpr) (f : GForm) (ok : Bool) (hf : iFormOf x = some (f, ok)) : iIsFormed x =
    if (ok && !(!f.op && !decide (x.op = 0)) && !(!f.not_ && x.not_) && !(!f.value && !((decide (x.value.kind = 0)) && ((decide (x.value.num = 0)) && ((decide (x.value.text = [])) && true)))) && !(!f.name && (!decide (x.qual = []) || !decide (x.name = []))) && !(decide ((x.kids.length : Int) < f.least) || decide (f.most < (x.kids.length : Int)) || !decide ((x.sub.length : Int) = f.subs))) = true then iRest x else some false := by
  rw [iIsFormed, hf]
  simp only [Option.bind_eq_bind]
  rw [show ∀ K : GForm × Bool → Option Bool, (some (f, ok)).bind K = K (f, ok) from fun _ => rfl]
  simp only [orM]
  simp only [andB, orB, orS]
  simp only [Option.bind_some, iRest, Option.bind_eq_bind]
  generalize ((decide (x.value.kind = 0)) && ((decide (x.value.num = 0)) && ((decide (x.value.text = [])) && true))) = zv
  generalize (!f.op && !decide (x.op = 0)) = p1
  generalize (!f.not_ && x.not_) = p2
  generalize (!f.value && !zv) = p3
  generalize (!decide (x.qual = []) || !decide (x.name = [])) = p4
  generalize f.name = fm
  generalize (decide ((x.kids.length : Int) < f.least) || decide (f.most < (x.kids.length : Int)) || !decide ((x.sub.length : Int) = f.subs)) = l3
  cases ok <;> cases p1 <;> cases p2 <;> cases p3 <;> cases fm <;> cases p4 <;> cases l3 <;> simp
def zvE (x : GExpr) : Bool := ((decide (x.value.kind = 0)) && ((decide (x.value.num = 0)) && ((decide (x.value.text = [])) && true)))
theorem shape_pre (x : GExpr) : sL7Shape x = (if ((!decide (x.kind = 2) && (!decide (x.qual = []) || !decide (x.name = []))) || (!decide (x.kind = 1) && !zvE x)) = true then some false else
    if ((!decide (x.kind = 3) && !decide (x.kind = 4)) && !decide (x.op = 0) || (x.not_ && !(decide (5 ≤ x.kind) && decide (x.kind ≤ 8)))) = true then some false else
    (if (decide (x.kind = 1)) = true then ((sL7Lit x.value) >>= fun (y10 : Bool) => some (y10 && decide ((IntKind.wrap .i64 ((x.kids.length : Int) + (x.sub.length : Int))) = 0)))
     else if (decide (x.kind = 2)) = true then ((sNameOk x.name) >>= fun (y12 : Bool) => (if y12 = true then sL7Maybe x.qual else some false) >>= fun (y14 : Bool) => some (y14 && decide ((IntKind.wrap .i64 ((x.kids.length : Int) + (x.sub.length : Int))) = 0)))
     else some (if x.kind = 3 then (decide (x.op = 15) || decide (x.op = 16)) && decide ((x.kids.length : Int) = 1) && decide ((x.sub.length : Int) = 0)
      else if x.kind = 4 then (decide (1 ≤ x.op) && decide (x.op ≤ 14)) && decide ((x.kids.length : Int) = 2) && decide ((x.sub.length : Int) = 0)
      else if x.kind = 5 then decide ((x.kids.length : Int) = 1) && decide ((x.sub.length : Int) = 0)
      else if x.kind = 6 then decide ((x.kids.length : Int) = 3) && decide ((x.sub.length : Int) = 0)
      else if x.kind = 7 then (decide (2 ≤ (x.kids.length : Int)) && decide ((x.kids.length : Int) ≤ 9)) && decide ((x.sub.length : Int) = 0)
      else if x.kind = 8 then decide ((x.kids.length : Int) = 1) && decide ((x.sub.length : Int) = 1)
      else if x.kind = 9 then decide ((x.kids.length : Int) = 0) && decide ((x.sub.length : Int) = 1)
      else false))) := by
  unfold sL7Shape sL1In
  simp only [Option.bind_eq_bind]
  simp only [Option.bind_some]
  simp only [andB, orB]
  obtain ⟨k, o, no, v, q, nm, ks, sb⟩ := x
  obtain ⟨bl, l1, l2⟩ := lit_sE v
  obtain ⟨bn, n1, n2⟩ := nameOk_sE nm
  obtain ⟨bq, q1, q2⟩ := maybe_sE q
  have hz : zvE ⟨k, o, no, v, q, nm, ks, sb⟩ = ((decide (v.kind = 0)) && ((decide (v.num = 0)) && ((decide (v.text = [])) && true))) := rfl
  simp only [l1, n1, q1, hz, Option.bind_some]
  generalize ((decide (v.kind = 0)) && ((decide (v.num = 0)) && ((decide (v.text = [])) && true))) = zv
  generalize decide (q = []) = q0
  generalize decide (nm = []) = n0
  by_cases k1 : k = 1
  · subst k1; cases q0 <;> cases n0 <;> cases no <;> by_cases o0 : o = 0 <;> cases bl <;> simp [o0]
  by_cases k2 : k = 2
  · subst k2; cases zv <;> cases no <;> by_cases o0 : o = 0 <;> cases bn <;> simp [o0]
  by_cases k3 : k = 3
  · subst k3; cases q0 <;> cases n0 <;> cases zv <;> cases no <;> simp
  by_cases k4 : k = 4
  · subst k4; cases q0 <;> cases n0 <;> cases zv <;> cases no <;> simp
  have kk : ¬ (k = 3 ∨ k = 4) := by omega
  by_cases k5 : k = 5
  · subst k5; cases q0 <;> cases n0 <;> cases zv <;> cases no <;> by_cases o0 : o = 0 <;> simp [o0]
  by_cases k6 : k = 6
  · subst k6; cases q0 <;> cases n0 <;> cases zv <;> cases no <;> by_cases o0 : o = 0 <;> simp [o0]
  by_cases k7 : k = 7
  · subst k7; cases q0 <;> cases n0 <;> cases zv <;> cases no <;> by_cases o0 : o = 0 <;> simp [o0]
  by_cases k8 : k = 8
  · subst k8; cases q0 <;> cases n0 <;> cases zv <;> cases no <;> by_cases o0 : o = 0 <;> simp [o0]
  by_cases k9 : k = 9
  · subst k9; cases q0 <;> cases n0 <;> cases zv <;> cases no <;> by_cases o0 : o = 0 <;> simp [o0]
  have kr : (decide (5 ≤ k) && decide (k ≤ 8)) = false := by
    by_cases h : 5 ≤ k
    · have : ¬ k ≤ 8 := by omega
      simp [this]
    · simp [h]
  cases q0 <;> cases n0 <;> cases zv <;> cases no <;> by_cases o0 : o = 0 <;> simp [o0, k1, k2, k3, k4, k5, k6, k7, k8, k9]
theorem formOf_E (x : GExpr) (bl bc : Bool) (h1 : iIsLit x.value = some bl) (h2 : (sNameOk x.name >>= fun (y12 : Bool) => (if y12 = true then sL7Maybe x.qual else some false)) = some bc) : iFormOf x = some (
    if x.kind = 1 then (⟨false, false, true, false, 0, 0, 0⟩, bl)
    else if x.kind = 2 then (⟨false, false, false, true, 0, 0, 0⟩, bc)
    else if x.kind = 3 then (⟨true, false, false, false, 1, 1, 0⟩, decide (x.op = 15) || decide (x.op = 16))
    else if x.kind = 4 then (⟨true, false, false, false, 2, 2, 0⟩, decide (1 ≤ x.op) && decide (x.op ≤ 14))
    else if x.kind = 5 then (⟨false, true, false, false, 1, 1, 0⟩, true)
    else if x.kind = 6 then (⟨false, true, false, false, 3, 3, 0⟩, true)
    else if x.kind = 7 then (⟨false, true, false, false, 2, 9, 0⟩, true)
    else if x.kind = 8 then (⟨false, true, false, false, 1, 1, 1⟩, true)
    else if x.kind = 9 then (⟨false, false, false, false, 0, 0, 1⟩, true)
    else (⟨false, false, false, false, 0, 0, 0⟩, false)) := by
  obtain ⟨k, o, no, v, q, nm, ks, sb⟩ := x
  obtain ⟨bn, n1, n2⟩ := nameOk_sE nm
  obtain ⟨bo, o1, o2⟩ := nameOk_sE q
  unfold iFormOf
  dsimp only at h1 h2 ⊢
  have h3 : ((if ((true && (bn == true)) && ((decide (q = [])) == false)) = true then iNameOk q else some default).bind fun (y3 : Bool) => (if (true && (bn == true)) = true then some (if (decide (q = [])) = true then true else y3) else some default).bind fun (y4 : Bool) => (some (if bn = true then y4 else false)).bind fun y5 => some ((GForm.mk false false false true 0 0 0), y5)) = some ((GForm.mk false false false true 0 0 0), bc) := by
    unfold sL7Maybe at h2
    rw [n1, o1] at h2
    rw [o2]
    cases bn
    · simp at h2; simp [h2]
    · by_cases q0 : q = []
      · simp [q0] at h2; simp [q0, h2]
      · simp [q0] at h2; simp [q0, h2]
  simp only [h1, n2, Option.bind_eq_bind, Option.bind_some]
  by_cases k1 : k = 1
  · simp [k1]
  by_cases k2 : k = 2
  · subst k2; simp only [Option.bind_some] at h3; simpa using h3
  by_cases k3 : k = 3
  · simp [k3]
  by_cases k4 : k = 4
  · simp [k4]
  by_cases k5 : k = 5
  · simp [k5]
  by_cases k6 : k = 6
  · simp [k6]
  by_cases k7 : k = 7
  · simp [k7]
  by_cases k8 : k = 8
  · simp [k8]
  by_cases k9 : k = 9
  · simp [k9]
  simp [k1, k2, k3, k4, k5, k6, k7, k8, k9]
theorem shape_E (x : GExpr) (hk : x.kids.length ≤ 1048576) (hs : x.sub.length ≤ 1048576) : ∃ b, sL7Shape x = some b ∧ (iIsFormed x = if b = true then iRest x else some false) ∧ (b = true → x.sub.length ≤ 1) := by
  obtain ⟨bl, l1, l2⟩ := lit_sE x.value
  obtain ⟨bn, n1, n2⟩ := nameOk_sE x.name
  obtain ⟨bq, q1, q2⟩ := maybe_sE x.qual
  have hc : (sNameOk x.name >>= fun (y12 : Bool) => (if y12 = true then sL7Maybe x.qual else some false)) = some (bn && bq) := by
    rw [n1, q1]; cases bn <;> rfl
  have hw : IntKind.wrap .i64 ((x.kids.length : Int) + (x.sub.length : Int)) = (x.kids.length : Int) + (x.sub.length : Int) := wrap_ok (by omega) (by omega)
  have hF := formOf_E x bl (bn && bq) l2 hc
  obtain ⟨f, ok, hfo⟩ : ∃ f ok, iFormOf x = some (f, ok) := ⟨_, _, hF⟩
  have hi := isFormed_E x f ok hfo
  rw [hfo] at hF
  have hp := shape_pre x
  rw [l1, hw] at hp
  have hc2 : ((sNameOk x.name) >>= fun (y12 : Bool) => (if y12 = true then sL7Maybe x.qual else some false) >>= fun (y14 : Bool) => some (y14 && decide ((x.kids.length : Int) + (x.sub.length : Int) = 0))) = some ((bn && bq) && decide ((x.kids.length : Int) + (x.sub.length : Int) = 0)) := by
    rw [n1, q1]; cases bn <;> rfl
  rw [hc2] at hp
  rw [hp, hi]
  have hz : ((decide (x.value.kind = 0)) && ((decide (x.value.num = 0)) && ((decide (x.value.text = [])) && true))) = zvE x := rfl
  rw [hz]
  obtain ⟨k, o, no, v, q, nm, ks, sb⟩ := x
  generalize zvE ⟨k, o, no, v, q, nm, ks, sb⟩ = zv
  dsimp only at hk hs hF ⊢
  generalize decide (q = []) = q0
  generalize decide (nm = []) = n0
  generalize (bn && bq) = bc at hF ⊢
  clear hi hp hc hc2 hw hz l1 l2 n1 n2 q1 q2 hfo
  generalize iRest _ = R
  have b2i : ∀ (a b : Bool), a = b → ∀ (c : Prop), (a = true → c) → ∃ b', (some a : Option Bool) = some b' ∧ (if b = true then R else some false) = (if b' = true then R else some false) ∧ (b' = true → c) := by
    rintro a b rfl c h; exact ⟨a, rfl, rfl, h⟩
  have lt0 : decide ((ks.length : Int) < 0) = false := by simp
  have hif : ∀ (a b : Bool) (X : Bool), (if a = true then some false else if b = true then some false else some X) = some (!a && (!b && X)) := by intro a b X; cases a <;> cases b <;> rfl
  have e2 : (decide ((0 : Int) < (ks.length : Int)) || !decide ((sb.length : Int) = 0)) = !decide ((ks.length : Int) + (sb.length : Int) = 0) := by rw [Bool.eq_iff_iff]; simp only [Bool.or_eq_true, Bool.not_eq_true', decide_eq_true_eq, decide_eq_false_iff_not]; omega
  have eN : ∀ n : Int, (decide ((ks.length : Int) < n) || decide (n < (ks.length : Int))) = !decide ((ks.length : Int) = n) := fun n => by rw [Bool.eq_iff_iff]; simp only [Bool.or_eq_true, Bool.not_eq_true', decide_eq_true_eq, decide_eq_false_iff_not]; omega
  have e4 : (decide ((ks.length : Int) < 2) || decide ((9 : Int) < (ks.length : Int))) = !(decide (2 ≤ (ks.length : Int)) && decide ((ks.length : Int) ≤ 9)) := by rw [Bool.eq_iff_iff]; simp only [Bool.or_eq_true, Bool.not_eq_true', Bool.and_eq_false_iff, decide_eq_true_eq, decide_eq_false_iff_not]; omega
  have e0 : decide ((0 : Int) < (ks.length : Int)) = !decide ((ks.length : Int) = 0) := by rw [Bool.eq_iff_iff]; simp only [Bool.not_eq_true', decide_eq_true_eq, decide_eq_false_iff_not]; omega
  by_cases k1 : k = 1
  · subst k1
    simp only [Int.reduceEq, if_true, if_false, Option.some.injEq, Prod.mk.injEq] at hF
    obtain ⟨rfl, hok⟩ := hF
    rw [hok]
    simp only [Int.reduceEq, decide_true, decide_false, Bool.not_false, Bool.not_true, Bool.true_and, Bool.false_and, Bool.and_true, if_true, if_false, Bool.false_eq_true, Bool.or_false, Option.bind_eq_bind, Option.bind_some, Int.reduceLE]
    try dsimp only
    try simp only [Int.reduceEq, decide_true, decide_false, Bool.not_false, Bool.not_true, Bool.true_and, Bool.false_and, Bool.and_true, Bool.and_false, if_true, if_false, Bool.false_eq_true, Bool.or_false, Bool.false_or, Bool.true_or, Bool.or_true, reduceIte, Option.bind_eq_bind, Option.bind_some, Int.reduceLE, Int.reduceLT]
    simp only [lt0, Bool.false_or, e2, hif]
    try simp only [e0]
    refine b2i _ _ ?_ _ ?_
    · generalize decide ((ks.length : Int) + (sb.length : Int) = 0) = t0
      generalize decide ((sb.length : Int) = 0) = s0
      generalize decide ((sb.length : Int) = 1) = s1
      generalize decide (o = 0) = o0
      generalize decide (o = 15) = o15
      generalize decide (o = 16) = o16
      generalize decide (1 ≤ o) = oa
      generalize decide (o ≤ 14) = ob
      generalize decide ((ks.length : Int) = 0) = c0
      generalize decide ((ks.length : Int) = 1) = c1
      generalize decide ((ks.length : Int) = 2) = c2
      generalize decide ((ks.length : Int) = 3) = c3
      generalize (decide (2 ≤ (ks.length : Int)) && decide ((ks.length : Int) ≤ 9)) = c29
      cases q0 <;> cases n0 <;> cases o0 <;> cases no <;> cases bl <;> cases t0 <;> rfl
    · intro h
      simp only [Bool.and_eq_true, decide_eq_true_eq] at h
      omega
  by_cases k2 : k = 2
  · subst k2
    simp only [Int.reduceEq, if_true, if_false, Option.some.injEq, Prod.mk.injEq] at hF
    obtain ⟨rfl, hok⟩ := hF
    rw [hok]
    simp only [Int.reduceEq, decide_true, decide_false, Bool.not_false, Bool.not_true, Bool.true_and, Bool.false_and, Bool.and_true, if_true, if_false, Bool.false_eq_true, Bool.false_or, Option.bind_eq_bind, Option.bind_some, Int.reduceLE]
    try dsimp only
    try simp only [Int.reduceEq, decide_true, decide_false, Bool.not_false, Bool.not_true, Bool.true_and, Bool.false_and, Bool.and_true, Bool.and_false, if_true, if_false, Bool.false_eq_true, Bool.or_false, Bool.false_or, Bool.true_or, Bool.or_true, reduceIte, Option.bind_eq_bind, Option.bind_some, Int.reduceLE, Int.reduceLT]
    simp only [lt0, Bool.false_or, e2, hif]
    try simp only [e0]
    refine b2i _ _ ?_ _ ?_
    · generalize decide ((ks.length : Int) + (sb.length : Int) = 0) = t0
      generalize decide ((sb.length : Int) = 0) = s0
      generalize decide ((sb.length : Int) = 1) = s1
      generalize decide (o = 0) = o0
      generalize decide (o = 15) = o15
      generalize decide (o = 16) = o16
      generalize decide (1 ≤ o) = oa
      generalize decide (o ≤ 14) = ob
      generalize decide ((ks.length : Int) = 0) = c0
      generalize decide ((ks.length : Int) = 1) = c1
      generalize decide ((ks.length : Int) = 2) = c2
      generalize decide ((ks.length : Int) = 3) = c3
      generalize (decide (2 ≤ (ks.length : Int)) && decide ((ks.length : Int) ≤ 9)) = c29
      cases zv <;> cases o0 <;> cases no <;> cases bc <;> cases t0 <;> rfl
    · intro h
      simp only [Bool.and_eq_true, decide_eq_true_eq] at h
      omega
  by_cases k3 : k = 3
  · subst k3
    simp only [Int.reduceEq, if_true, if_false, Option.some.injEq, Prod.mk.injEq] at hF
    obtain ⟨rfl, hok⟩ := hF
    rw [hok]
    simp only [Int.reduceEq, decide_true, decide_false, Bool.not_false, Bool.not_true, Bool.true_and, Bool.false_and, Bool.and_true, if_true, if_false, Bool.false_eq_true, Bool.false_or, Option.bind_eq_bind, Option.bind_some, Int.reduceLE]
    try dsimp only
    try simp only [Int.reduceEq, decide_true, decide_false, Bool.not_false, Bool.not_true, Bool.true_and, Bool.false_and, Bool.and_true, Bool.and_false, if_true, if_false, Bool.false_eq_true, Bool.or_false, Bool.false_or, Bool.true_or, Bool.or_true, reduceIte, Option.bind_eq_bind, Option.bind_some, Int.reduceLE, Int.reduceLT]
    simp only [eN, hif]
    try simp only [e0]
    refine b2i _ _ ?_ _ ?_
    · generalize decide ((ks.length : Int) + (sb.length : Int) = 0) = t0
      generalize decide ((sb.length : Int) = 0) = s0
      generalize decide ((sb.length : Int) = 1) = s1
      generalize decide (o = 0) = o0
      generalize decide (o = 15) = o15
      generalize decide (o = 16) = o16
      generalize decide (1 ≤ o) = oa
      generalize decide (o ≤ 14) = ob
      generalize decide ((ks.length : Int) = 0) = c0
      generalize decide ((ks.length : Int) = 1) = c1
      generalize decide ((ks.length : Int) = 2) = c2
      generalize decide ((ks.length : Int) = 3) = c3
      generalize (decide (2 ≤ (ks.length : Int)) && decide ((ks.length : Int) ≤ 9)) = c29
      cases q0 <;> cases n0 <;> cases zv <;> cases no <;> cases o15 <;> cases o16 <;> cases c1 <;> cases s0 <;> rfl
    · intro h
      simp only [Bool.and_eq_true, decide_eq_true_eq] at h
      omega
  by_cases k4 : k = 4
  · subst k4
    simp only [Int.reduceEq, if_true, if_false, Option.some.injEq, Prod.mk.injEq] at hF
    obtain ⟨rfl, hok⟩ := hF
    rw [hok]
    simp only [Int.reduceEq, decide_true, decide_false, Bool.not_false, Bool.not_true, Bool.true_and, Bool.false_and, Bool.and_true, Bool.and_false, if_true, if_false, Bool.false_eq_true, Bool.false_or, Option.bind_eq_bind, Option.bind_some, Int.reduceLE]
    try dsimp only
    try simp only [Int.reduceEq, decide_true, decide_false, Bool.not_false, Bool.not_true, Bool.true_and, Bool.false_and, Bool.and_true, Bool.and_false, if_true, if_false, Bool.false_eq_true, Bool.or_false, Bool.false_or, Bool.true_or, Bool.or_true, reduceIte, Option.bind_eq_bind, Option.bind_some, Int.reduceLE, Int.reduceLT]
    simp only [eN, hif]
    try simp only [e0]
    refine b2i _ _ ?_ _ ?_
    · generalize decide ((ks.length : Int) + (sb.length : Int) = 0) = t0
      generalize decide ((sb.length : Int) = 0) = s0
      generalize decide ((sb.length : Int) = 1) = s1
      generalize decide (o = 0) = o0
      generalize decide (o = 15) = o15
      generalize decide (o = 16) = o16
      generalize decide (1 ≤ o) = oa
      generalize decide (o ≤ 14) = ob
      generalize decide ((ks.length : Int) = 0) = c0
      generalize decide ((ks.length : Int) = 1) = c1
      generalize decide ((ks.length : Int) = 2) = c2
      generalize decide ((ks.length : Int) = 3) = c3
      generalize (decide (2 ≤ (ks.length : Int)) && decide ((ks.length : Int) ≤ 9)) = c29
      cases q0 <;> cases n0 <;> cases zv <;> cases no <;> cases oa <;> cases ob <;> cases c2 <;> cases s0 <;> rfl
    · intro h
      simp only [Bool.and_eq_true, decide_eq_true_eq] at h
      omega
  by_cases k5 : k = 5
  · subst k5
    simp only [Int.reduceEq, if_true, if_false, Option.some.injEq, Prod.mk.injEq] at hF
    obtain ⟨rfl, hok⟩ := hF
    rw [hok]
    simp only [Int.reduceEq, decide_true, decide_false, Bool.not_false, Bool.not_true, Bool.true_and, Bool.false_and, Bool.and_true, Bool.and_false, if_true, if_false, Bool.false_eq_true, Bool.or_false, Option.bind_eq_bind, Option.bind_some, Int.reduceLE]
    try dsimp only
    try simp only [Int.reduceEq, decide_true, decide_false, Bool.not_false, Bool.not_true, Bool.true_and, Bool.false_and, Bool.and_true, Bool.and_false, if_true, if_false, Bool.false_eq_true, Bool.or_false, Bool.false_or, Bool.true_or, Bool.or_true, reduceIte, Option.bind_eq_bind, Option.bind_some, Int.reduceLE, Int.reduceLT]
    simp only [eN, hif]
    try simp only [e0]
    refine b2i _ _ ?_ _ ?_
    · generalize decide ((ks.length : Int) + (sb.length : Int) = 0) = t0
      generalize decide ((sb.length : Int) = 0) = s0
      generalize decide ((sb.length : Int) = 1) = s1
      generalize decide (o = 0) = o0
      generalize decide (o = 15) = o15
      generalize decide (o = 16) = o16
      generalize decide (1 ≤ o) = oa
      generalize decide (o ≤ 14) = ob
      generalize decide ((ks.length : Int) = 0) = c0
      generalize decide ((ks.length : Int) = 1) = c1
      generalize decide ((ks.length : Int) = 2) = c2
      generalize decide ((ks.length : Int) = 3) = c3
      generalize (decide (2 ≤ (ks.length : Int)) && decide ((ks.length : Int) ≤ 9)) = c29
      cases q0 <;> cases n0 <;> cases zv <;> cases no <;> cases o0 <;> cases c1 <;> cases s0 <;> rfl
    · intro h
      simp only [Bool.and_eq_true, decide_eq_true_eq] at h
      omega
  by_cases k6 : k = 6
  · subst k6
    simp only [Int.reduceEq, if_true, if_false, Option.some.injEq, Prod.mk.injEq] at hF
    obtain ⟨rfl, hok⟩ := hF
    rw [hok]
    simp only [Int.reduceEq, decide_true, decide_false, Bool.not_false, Bool.not_true, Bool.true_and, Bool.false_and, Bool.and_true, Bool.and_false, if_true, if_false, Bool.false_eq_true, Bool.or_false, Option.bind_eq_bind, Option.bind_some, Int.reduceLE]
    try dsimp only
    try simp only [Int.reduceEq, decide_true, decide_false, Bool.not_false, Bool.not_true, Bool.true_and, Bool.false_and, Bool.and_true, Bool.and_false, if_true, if_false, Bool.false_eq_true, Bool.or_false, Bool.false_or, Bool.true_or, Bool.or_true, reduceIte, Option.bind_eq_bind, Option.bind_some, Int.reduceLE, Int.reduceLT]
    simp only [eN, hif]
    try simp only [e0]
    refine b2i _ _ ?_ _ ?_
    · generalize decide ((ks.length : Int) + (sb.length : Int) = 0) = t0
      generalize decide ((sb.length : Int) = 0) = s0
      generalize decide ((sb.length : Int) = 1) = s1
      generalize decide (o = 0) = o0
      generalize decide (o = 15) = o15
      generalize decide (o = 16) = o16
      generalize decide (1 ≤ o) = oa
      generalize decide (o ≤ 14) = ob
      generalize decide ((ks.length : Int) = 0) = c0
      generalize decide ((ks.length : Int) = 1) = c1
      generalize decide ((ks.length : Int) = 2) = c2
      generalize decide ((ks.length : Int) = 3) = c3
      generalize (decide (2 ≤ (ks.length : Int)) && decide ((ks.length : Int) ≤ 9)) = c29
      cases q0 <;> cases n0 <;> cases zv <;> cases no <;> cases o0 <;> cases c3 <;> cases s0 <;> rfl
    · intro h
      simp only [Bool.and_eq_true, decide_eq_true_eq] at h
      omega
  by_cases k7 : k = 7
  · subst k7
    simp only [Int.reduceEq, if_true, if_false, Option.some.injEq, Prod.mk.injEq] at hF
    obtain ⟨rfl, hok⟩ := hF
    rw [hok]
    simp only [Int.reduceEq, decide_true, decide_false, Bool.not_false, Bool.not_true, Bool.true_and, Bool.false_and, Bool.and_true, Bool.and_false, if_true, if_false, Bool.false_eq_true, Bool.or_false, Option.bind_eq_bind, Option.bind_some, Int.reduceLE]
    try dsimp only
    try simp only [Int.reduceEq, decide_true, decide_false, Bool.not_false, Bool.not_true, Bool.true_and, Bool.false_and, Bool.and_true, Bool.and_false, if_true, if_false, Bool.false_eq_true, Bool.or_false, Bool.false_or, Bool.true_or, Bool.or_true, reduceIte, Option.bind_eq_bind, Option.bind_some, Int.reduceLE, Int.reduceLT]
    simp only [e4, hif]
    try simp only [e0]
    refine b2i _ _ ?_ _ ?_
    · generalize decide ((ks.length : Int) + (sb.length : Int) = 0) = t0
      generalize decide ((sb.length : Int) = 0) = s0
      generalize decide ((sb.length : Int) = 1) = s1
      generalize decide (o = 0) = o0
      generalize decide (o = 15) = o15
      generalize decide (o = 16) = o16
      generalize decide (1 ≤ o) = oa
      generalize decide (o ≤ 14) = ob
      generalize decide ((ks.length : Int) = 0) = c0
      generalize decide ((ks.length : Int) = 1) = c1
      generalize decide ((ks.length : Int) = 2) = c2
      generalize decide ((ks.length : Int) = 3) = c3
      generalize (decide (2 ≤ (ks.length : Int)) && decide ((ks.length : Int) ≤ 9)) = c29
      cases q0 <;> cases n0 <;> cases zv <;> cases no <;> cases o0 <;> cases c29 <;> cases s0 <;> rfl
    · intro h
      simp only [Bool.and_eq_true, decide_eq_true_eq] at h
      omega
  by_cases k8 : k = 8
  · subst k8
    simp only [Int.reduceEq, if_true, if_false, Option.some.injEq, Prod.mk.injEq] at hF
    obtain ⟨rfl, hok⟩ := hF
    rw [hok]
    simp only [Int.reduceEq, decide_true, decide_false, Bool.not_false, Bool.not_true, Bool.true_and, Bool.false_and, Bool.and_true, Bool.and_false, if_true, if_false, Bool.false_eq_true, Bool.or_false, Option.bind_eq_bind, Option.bind_some, Int.reduceLE]
    try dsimp only
    try simp only [Int.reduceEq, decide_true, decide_false, Bool.not_false, Bool.not_true, Bool.true_and, Bool.false_and, Bool.and_true, Bool.and_false, if_true, if_false, Bool.false_eq_true, Bool.or_false, Bool.false_or, Bool.true_or, Bool.or_true, reduceIte, Option.bind_eq_bind, Option.bind_some, Int.reduceLE, Int.reduceLT]
    simp only [eN, hif]
    try simp only [e0]
    refine b2i _ _ ?_ _ ?_
    · generalize decide ((ks.length : Int) + (sb.length : Int) = 0) = t0
      generalize decide ((sb.length : Int) = 0) = s0
      generalize decide ((sb.length : Int) = 1) = s1
      generalize decide (o = 0) = o0
      generalize decide (o = 15) = o15
      generalize decide (o = 16) = o16
      generalize decide (1 ≤ o) = oa
      generalize decide (o ≤ 14) = ob
      generalize decide ((ks.length : Int) = 0) = c0
      generalize decide ((ks.length : Int) = 1) = c1
      generalize decide ((ks.length : Int) = 2) = c2
      generalize decide ((ks.length : Int) = 3) = c3
      generalize (decide (2 ≤ (ks.length : Int)) && decide ((ks.length : Int) ≤ 9)) = c29
      cases q0 <;> cases n0 <;> cases zv <;> cases no <;> cases o0 <;> cases c1 <;> cases s1 <;> rfl
    · intro h
      simp only [Bool.and_eq_true, decide_eq_true_eq] at h
      omega
  by_cases k9 : k = 9
  · subst k9
    simp only [Int.reduceEq, if_true, if_false, Option.some.injEq, Prod.mk.injEq] at hF
    obtain ⟨rfl, hok⟩ := hF
    rw [hok]
    simp only [Int.reduceEq, decide_true, decide_false, Bool.not_false, Bool.true_and, Bool.and_true, Bool.and_false, if_true, if_false, Bool.false_eq_true, Option.bind_eq_bind, Option.bind_some, Int.reduceLE]
    try dsimp only
    try simp only [Int.reduceEq, decide_true, decide_false, Bool.not_false, Bool.not_true, Bool.true_and, Bool.false_and, Bool.and_true, Bool.and_false, if_true, if_false, Bool.false_eq_true, Bool.or_false, Bool.false_or, Bool.true_or, Bool.or_true, reduceIte, Option.bind_eq_bind, Option.bind_some, Int.reduceLE, Int.reduceLT]
    simp only [lt0, Bool.false_or, hif]
    try simp only [e0]
    refine b2i _ _ ?_ _ ?_
    · generalize decide ((ks.length : Int) + (sb.length : Int) = 0) = t0
      generalize decide ((sb.length : Int) = 0) = s0
      generalize decide ((sb.length : Int) = 1) = s1
      generalize decide (o = 0) = o0
      generalize decide (o = 15) = o15
      generalize decide (o = 16) = o16
      generalize decide (1 ≤ o) = oa
      generalize decide (o ≤ 14) = ob
      generalize decide ((ks.length : Int) = 0) = c0
      generalize decide ((ks.length : Int) = 1) = c1
      generalize decide ((ks.length : Int) = 2) = c2
      generalize decide ((ks.length : Int) = 3) = c3
      generalize (decide (2 ≤ (ks.length : Int)) && decide ((ks.length : Int) ≤ 9)) = c29
      cases q0 <;> cases n0 <;> cases zv <;> cases no <;> cases o0 <;> cases c0 <;> cases s1 <;> rfl
    · intro h
      simp only [Bool.and_eq_true, decide_eq_true_eq] at h
      omega
  simp only [k1, k2, k3, k4, k5, k6, k7, k8, k9, if_false, Option.some.injEq, Prod.mk.injEq] at hF
  obtain ⟨rfl, hok⟩ := hF
  rw [hok]
  simp only [k1, k2, k3, k4, k5, k6, k7, k8, k9, decide_false, Bool.not_false, Bool.true_and, Bool.false_eq_true, if_false, ite_self, Bool.false_and]
  exact ⟨false, rfl, by simp, by simp⟩
theorem nameOk_fn : iNameOk = sNameOk := by
  funext s
  obtain ⟨b, h1, h2⟩ := nameOk_sE s
  rw [h1, h2]
theorem isAs_fn : iIsAs = sL7Maybe := by
  funext s
  obtain ⟨b, h1, h2⟩ := maybe_sE s
  rw [h1, h2]
theorem isZero_E (x : GExpr) : iIsZero x = sSameExpr x (GExpr.mk 0 0 false (GValue.mk 0 0 []) [] [] [] []) ∧ ∃ b, sSameExpr x (GExpr.mk 0 0 false (GValue.mk 0 0 []) [] [] [] []) = some b := by
  unfold iIsZero
  rw [iSameExpr, sSameExpr]
  have ek : iSameExprs x.kids [] = some (decide (x.kids = [])) := by
    rw [iSameExprs, gZ4]
    by_cases h : x.kids = []
    · rw [h, gZ4_L0]; simp
    · have : ¬ (x.kids.length : Int) = 0 := by
        have := List.length_pos_iff.2 h; omega
      simp [h]
  have es : gZ2 x.sub [] = some (decide (x.sub = [])) := by
    rw [gZ2]
    by_cases h : x.sub = []
    · rw [h, gZ2_L0]; simp
    · simp [h]
  have fk : sL7Same x.kids [] = some (decide (x.kids = [])) := by
    rw [sL7Same]
    by_cases h : x.kids = []
    · rw [h, sL7Same_L0]; simp
    · simp [h]
  simp only [ek, es, fk, Option.bind_eq_bind, Option.bind_some]
  have hz : ((decide (x.value.kind = 0)) && ((decide (x.value.num = 0)) && ((decide (x.value.text = [])) && true))) = zvE x := rfl
  rw [hz]
  have l0 : x.sub = [] → sSameExpr_L0 x (GExpr.mk 0 0 false (GValue.mk 0 0 []) [] [] [] []) 0 = some true := by
    intro h; rw [sSameExpr_L0]; simp [h]
  have hl : decide ((x.sub.length : Int) = (([] : List GQuery).length : Int)) = decide (x.sub = []) := by
    by_cases h : x.sub = []
    · simp [h]
    · simp [h]
  rw [hl]
  by_cases hs : x.sub = []
  · rw [l0 hs]
    simp only [hs, decide_true]
    generalize zvE x = zv
    generalize decide (x.kind = 0) = b1
    generalize decide (x.op = 0) = b2
    generalize decide (x.qual = []) = b3
    generalize decide (x.name = []) = b4
    generalize decide (x.kids = []) = b5
    generalize x.not_ = b6
    cases b1 <;> cases b2 <;> cases b6 <;> cases zv <;> cases b3 <;> cases b4 <;> cases b5 <;> simp
  · simp only [hs, decide_false]
    generalize zvE x = zv
    generalize decide (x.kind = 0) = b1
    generalize decide (x.op = 0) = b2
    generalize decide (x.qual = []) = b3
    generalize decide (x.name = []) = b4
    generalize decide (x.kids = []) = b5
    generalize x.not_ = b6
    cases b1 <;> cases b2 <;> cases b6 <;> cases zv <;> cases b3 <;> cases b4 <;> cases b5 <;> simp
theorem isZero_fn : iIsZero = fun x => sSameExpr x (GExpr.mk 0 0 false (GValue.mk 0 0 []) [] [] [] []) := funext fun x => (isZero_E x).1
theorem areFormed_ok (l : List GExpr) (d : GExpr → Bool) (hl : l.length ≤ 1048576) (H : ∀ y ∈ l, iIsFormed y = some (d y)) : iAreFormed l = some (l.all d) := by
  have key : ∀ i, i ≤ l.length → ∃ k : Int, gZ9_L0 l (i : Nat) = some k ∧ (!decide (0 ≤ k)) = (l.drop i).all d := by
    refine back_ind ?_ ?_
    · rw [gZ9_L0]
      exact ⟨-1, by simp, by simp⟩
    · intro i hi ih
      rw [gZ9_L0, List.drop_eq_getElem_cons hi]
      simp only [lt_dec, idx_lt hi, wrap_next hi (by omega), hi, decide_true, if_true, iAreFormed_1, H _ (List.getElem_mem hi), Option.bind_eq_bind, Option.bind_some, List.all_cons]
      cases hd : d l[i] with
      | true => simpa using ih
      | false => exact ⟨(i : Int), by simp, by simp⟩
  obtain ⟨k, h1, h2⟩ := key 0 (by omega)
  rw [show ((0 : Nat) : Int) = 0 from rfl] at h1
  rw [iAreFormed, gZ6, gZ9, h1]
  simpa using h2
theorem rightL2_ok (l : List GExpr) (d : GExpr → Bool) (hl : l.length ≤ 1048576) (H : ∀ y ∈ l, sL7Right y = some (d y)) : sL7RightQuery_L2 l 0 = some (l.all d) := by
  have key : ∀ i, i ≤ l.length → sL7RightQuery_L2 l (i : Nat) = some ((l.drop i).all d) := by
    refine back_ind ?_ ?_
    · rw [sL7RightQuery_L2]; simp
    · intro i hi ih
      rw [sL7RightQuery_L2, List.drop_eq_getElem_cons hi]
      simp only [lt_dec, idx_lt hi, wrap_next hi (by omega), hi, decide_true, if_true, H _ (List.getElem_mem hi), Option.bind_eq_bind, Option.bind_some, List.all_cons]
      cases hd : d l[i] with
      | true => simpa using ih
      | false => simp
  simpa using key 0 (by omega)
theorem query_E (q : GQuery) (d : GExpr → Bool) (hz : zGQuery q ≤ 1048576) (H : ∀ y ∈ exprsOf q, sL7Right y = some (d y) ∧ iIsFormed y = some (d y)) : iIsFormedQuery q = sL7RightQuery q ∧ ∃ b, sL7RightQuery q = some b := by
  have hq := zQ q
  have hle := exprsOf_len q
  have e2 : ∃ b, sL7RightQuery_L2 (exprsOf q) 0 = some b ∧ iAreFormed (exprsOf q) = some b := ⟨_, rightL2_ok _ d (by omega) fun y hy => (H y hy).1, areFormed_ok _ d (by omega) fun y hy => (H y hy).2⟩
  obtain ⟨b2, r2, f2⟩ := e2
  have e1 : ∀ i, i ≤ q.from_.length → iIsFormedQuery_L1 q (i : Nat) = sL7RightQuery_L1 q (i : Nat) ∧ ∃ b, sL7RightQuery_L1 q (i : Nat) = some b := by
    refine back_ind ?_ ?_
    · rw [iIsFormedQuery_L1, sL7RightQuery_L1]
      simp [iExprs_ok q hz, sExprs_ok q hz, r2, f2]
    · intro i hi ih
      obtain ⟨ih1, b, ih2⟩ := ih
      rw [iIsFormedQuery_L1, sL7RightQuery_L1]
      obtain ⟨bn, n1, _⟩ := nameOk_sE q.from_[i].table
      obtain ⟨ba, m1, _⟩ := maybe_sE q.from_[i].as_
      simp only [nameOk_fn, isAs_fn, lt_dec, idx_lt hi, wrap_next hi (by omega), hi, decide_true, if_true, n1, m1, ih1, ih2, Option.bind_eq_bind, Option.bind_some]
      refine ⟨trivial, ?_⟩
      generalize decide ((1 : Int) < (q.from_[i].on_.length : Int)) = c1
      generalize decide ((i : Int) = 0) = c2
      generalize decide ((0 : Int) < (q.from_[i].on_.length : Int)) = c3
      cases bn <;> cases ba <;> cases c1 <;> cases c2 <;> cases c3 <;> exact ⟨_, rfl⟩
  have e0 : ∀ i, i ≤ q.items.length → iIsFormedQuery_L0 q (i : Nat) = sL7RightQuery_L0 q (i : Nat) ∧ ∃ b, sL7RightQuery_L0 q (i : Nat) = some b := by
    refine back_ind ?_ ?_
    · rw [iIsFormedQuery_L0, sL7RightQuery_L0]
      simpa using e1 0 (by omega)
    · intro i hi ih
      obtain ⟨ih1, b, ih2⟩ := ih
      rw [iIsFormedQuery_L0, sL7RightQuery_L0]
      obtain ⟨bq, m1, _⟩ := maybe_sE q.items[i].qual
      obtain ⟨ba, m2, _⟩ := maybe_sE q.items[i].as_
      obtain ⟨_, bz, m3⟩ := isZero_E q.items[i].expr
      simp only [isZero_fn, isAs_fn, lt_dec, idx_lt hi, wrap_next hi (by omega), hi, decide_true, if_true, m1, m2, m3, ih1, ih2, Option.bind_eq_bind, Option.bind_some]
      refine ⟨trivial, ?_⟩
      generalize q.items[i].star = s
      cases s <;> cases bq <;> cases ba <;> cases bz <;> by_cases g1 : q.items[i].as_ = [] <;> by_cases g2 : q.items[i].qual = [] <;> simp [g1, g2]
  obtain ⟨k1, b, k2⟩ := e0 0 (by omega)
  rw [show ((0 : Nat) : Int) = 0 from rfl] at k1 k2
  rw [iIsFormedQuery, sL7RightQuery, k1, k2]
  unfold sL1In
  simp only [Option.bind_eq_bind, Option.bind_some]
  by_cases a1 : (1 : Int) ≤ (q.items.length : Int)
  · have a1' : ¬ (q.items.length : Int) < 1 := by omega
    by_cases a2 : (q.items.length : Int) ≤ 12
    · have a2' : ¬ (12 : Int) < (q.items.length : Int) := by omega
      by_cases a3 : (1 : Int) ≤ (q.from_.length : Int)
      · have a3' : ¬ (q.from_.length : Int) < 1 := by omega
        by_cases a4 : (q.from_.length : Int) ≤ 3
        · have a4' : ¬ (3 : Int) < (q.from_.length : Int) := by omega
          simp only [a1, a1', a2, a2', a3, a3', a4, a4', decide_true, decide_false]
          by_cases a5 : (1 : Int) < (q.where_.length : Int) <;> by_cases a6 : (12 : Int) < (q.order.length : Int) <;> by_cases a7 : q.limit < -1 <;> simp [a5, a6, a7]
        · have a4' : (3 : Int) < (q.from_.length : Int) := by omega
          simp only [a1, a1', a2, a2', a3, a3', a4, a4', decide_true, decide_false]; simp
      · have a3' : (q.from_.length : Int) < 1 := by omega
        simp only [a1, a1', a2, a2', a3, a3', decide_true, decide_false]; simp
    · have a2' : (12 : Int) < (q.items.length : Int) := by omega
      simp only [a1, a1', a2, a2', decide_true, decide_false]; simp
  · have a1' : (q.items.length : Int) < 1 := by omega
    simp only [a1, a1', decide_true, decide_false]; simp
theorem right_eq : ∀ n : Nat, ∀ x : GExpr, zGExpr x < n → zGExpr x ≤ 1048576 → ∃ b, sL7Right x = some b ∧ iIsFormed x = some b := by
  intro n
  induction n with
  | zero => intro x h _; omega
  | succ n ih =>
    intro x hx hz
    have hE := zE x
    let d : GExpr → Bool := fun y => (sL7Right y).getD false
    have H : ∀ y, zGExpr y < zGExpr x → sL7Right y = some (d y) ∧ iIsFormed y = some (d y) := by
      intro y hy
      obtain ⟨r, h1, h2⟩ := ih y (by omega) (by omega)
      simp only [d, h1, h2, Option.getD_some, and_self]
    have HK : ∀ y ∈ x.kids, sL7Right y = some (d y) ∧ iIsFormed y = some (d y) := fun y hy => H y (by have := memL_lt hy; omega)
    have HQ : ∀ q ∈ x.sub, iIsFormedQuery q = sL7RightQuery q ∧ ∃ b, sL7RightQuery q = some b := by
      intro q hq
      have h1 := memQ_lt hq
      exact query_E q d (by omega) fun y hy => H y (by have := exprsOf_lt hy; omega)
    obtain ⟨b, s1, s2, s3⟩ := shape_E x (by omega) (by omega)
    rw [sL7Right, s1, s2]
    cases b with
    | false => exact ⟨false, by simp, by simp⟩
    | true =>
      have hsl := s3 rfl
      have hall := areFormed_ok x.kids d (by omega) fun y hy => (HK y hy).2
      -- the one query below
      have tail : ∃ t, (∀ c : Bool, ((if (true && (c == true)) = true then gZ5 x.sub else some default) >>= fun (y14 : Bool) => (some (if c = true then (!y14) else false)) >>= fun (y15 : Bool) => some y15) = some (c && t)) ∧
          ((if (true && ((decide ((x.sub.length : Int) = 0)) == false)) = true then idx x.sub 0 else some default) >>= fun (y4 : GQuery) => (if (true && ((decide ((x.sub.length : Int) = 0)) == false)) = true then sL7RightQuery y4 else some default) >>= fun (y5 : Bool) => (some (if (decide ((x.sub.length : Int) = 0)) = true then true else y5)) >>= fun (y6 : Bool) => some y6) = some t := by
        cases hsub : x.sub with
        | nil =>
          refine ⟨true, ?_, by simp⟩
          intro c
          rw [gZ5, gZ8, gZ8_L0]
          cases c <;> simp
        | cons q l =>
          have hl : l = [] := by
            rw [hsub] at hsl; simp only [List.length_cons] at hsl
            exact List.eq_nil_of_length_eq_zero (by omega)
          subst hl
          obtain ⟨g1, t, g2⟩ := HQ q (by rw [hsub]; simp)
          have w1 : IntKind.wrap .i64 (0 + 1) = 1 := by decide
          refine ⟨t, ?_, by simp [idx, g2]⟩
          intro c
          rw [gZ5, gZ8, gZ8_L0, w1, gZ8_L0]
          cases c <;> cases t <;> simp [idx, iIsFormed_1, g1, g2]
      obtain ⟨t, t1, t2⟩ := tail
      refine ⟨x.kids.all d && t, ?_, ?_⟩
      · have key : ∀ i, i ≤ x.kids.length → sL7Right_L0 x (i : Nat) = some ((x.kids.drop i).all d && t) := by
          refine back_ind ?_ ?_
          · rw [sL7Right_L0]
            simp only [lt_dec, Nat.lt_irrefl, decide_false, Bool.false_eq_true, if_false, t2]
            simp
          · intro i hi ih
            rw [sL7Right_L0, List.drop_eq_getElem_cons hi]
            simp only [lt_dec, idx_lt hi, wrap_next hi (by omega), hi, decide_true, if_true, (HK _ (List.getElem_mem hi)).1, Option.bind_eq_bind, Option.bind_some, List.all_cons]
            cases hd : d x.kids[i] with
            | true => simpa using ih
            | false => simp
        simpa using key 0 (by omega)
      · simp only [if_true, iRest, hall, Option.bind_eq_bind, Option.bind_some]
        exact t1 _
theorem iSizeOfAll_ok (p : List GExpr) (d : GExpr → Int) (hz : p.length + (p.map zGExpr).sum ≤ 1048576) (H : ∀ y ∈ p, iSizeOf y = some (d y) ∧ 0 ≤ d y ∧ d y ≤ 1 + zGExpr y) : iSizeOfAll p = some (p.map d).sum := by
  have hs := sum_le (z := zGExpr) (d := d) (p := p) fun y hy => (H y hy).2
  rw [iSizeOfAll]
  rw [folded (p := p) (g := fun y b => (iSizeOf y) >>= fun r => some (IntKind.wrap .i64 (b + r))) (h := fun y b => IntKind.wrap .i64 (b + d y)) (L := fun b i => iSizeOfAll_L0 p b i) (K := fun b => some b) (by omega) ?_ ?_ 0]
  · rw [fold_add (by omega) (fun y hy => (H y hy).2.1) (by omega)]; simp
  · intro y hy b; simp only [(H y hy).1, Option.bind_eq_bind, Option.bind_some]
  · intro i b; rw [iSizeOfAll_L0]; simp only [Option.bind_eq_bind, Option.bind_assoc, Option.bind_some]
theorem iQuerySize_ok (q : GQuery) (d : GExpr → Int) (hz : zGQuery q ≤ 1048576) (H : ∀ y ∈ exprsOf q, iSizeOf y = some (d y) ∧ 0 ≤ d y ∧ d y ≤ 1 + zGExpr y) : iQuerySize q = some ((exprsOf q).map d).sum := by
  have hl := exprs_sum q
  rw [iQuerySize, iExprs_ok q hz]
  simp only [Option.bind_eq_bind, Option.bind_some]
  rw [iSizeOfAll_ok _ d (by omega) H]; rfl
def LeftP (left S r : Int) : Prop := (S ≤ left ∧ r = left - S) ∨ (left < S ∧ r < 0)
theorem left_L1neg (x : GExpr) (l : Int) (h : l < 0) (i : Int) : sL7Left_L1 x l i = some l := by
  rw [sL7Left_L1]
  have : ¬ 0 ≤ l := by omega
  simp [this]
theorem sum_nn {α : Type} {d : α → Int} : ∀ {l : List α}, (∀ y ∈ l, 0 ≤ d y) → 0 ≤ (l.map d).sum
  | [], _ => by simp
  | a :: l, h => by
    have := h a (by simp)
    have := sum_nn (l := l) fun y hy => h y (by simp [hy])
    simp only [List.map_cons, List.sum_cons]; omega
theorem left_eq : ∀ n : Nat, ∀ x : GExpr, zGExpr x < n → zGExpr x ≤ 1048576 → ∃ d : Int, iSizeOf x = some d ∧ 0 ≤ d ∧ d ≤ 1 + zGExpr x ∧ ∀ left : Int, 0 ≤ left → left ≤ 1048576 → ∃ r, sL7Left x left = some r ∧ LeftP left d r := by
  intro n
  induction n with
  | zero => intro x h _; omega
  | succ n ih =>
    intro x hx hz
    have hE := zE x
    let d : GExpr → Int := fun y => (iSizeOf y).getD 0
    have H : ∀ y, zGExpr y < zGExpr x → iSizeOf y = some (d y) ∧ (0 ≤ d y ∧ d y ≤ 1 + zGExpr y) ∧ ∀ left : Int, 0 ≤ left → left ≤ 1048576 → ∃ r, sL7Left y left = some r ∧ LeftP left (d y) r := by
      intro y hy
      obtain ⟨r, h1, h2, h3, h4⟩ := ih y (by omega) (by omega)
      simp only [d, h1, Option.getD_some, true_and]
      exact ⟨⟨h2, h3⟩, h4⟩
    let e : GQuery → Int := fun q => ((exprsOf q).map d).sum
    have HQ : ∀ q ∈ x.sub, iQuerySize q = some (e q) ∧ (0 ≤ e q ∧ e q ≤ zGQuery q) ∧ zGQuery q ≤ 1048576 ∧ ∀ y ∈ exprsOf q, zGExpr y < zGExpr x := by
      intro q hq
      have h1 := memQ_lt hq
      have h2 : ∀ y ∈ exprsOf q, zGExpr y < zGExpr x := fun y hy => by have := exprsOf_lt hy; omega
      have h3 := sum_le (z := zGExpr) (d := d) (p := exprsOf q) fun y hy => (H y (h2 y hy)).2.1
      have h4 := exprs_sum q
      exact ⟨iQuerySize_ok q d (by omega) fun y hy => ⟨(H y (h2 y hy)).1, (H y (h2 y hy)).2.1⟩, ⟨h3.1, by show ((exprsOf q).map d).sum ≤ _; omega⟩, by omega, h2⟩
    have HK : ∀ y ∈ x.kids, zGExpr y < zGExpr x := fun y hy => by have := memL_lt hy; omega
    have hk := sum_le (z := zGExpr) (d := d) (p := x.kids) fun y hy => (H y (HK y hy)).2.1
    have hq := sum_le0 (z := zGQuery) (d := e) (p := x.sub) fun y hy => (HQ y hy).2.1
    have hk' := zLGExpr_eq x.kids
    have hq' := zLGQuery_eq x.sub
    have enn : ∀ l : List GQuery, (∀ q ∈ l, q ∈ x.sub) → 0 ≤ (l.map e).sum := fun l hl => sum_nn fun q hq => (HQ q (hl q hq)).2.1.1
    have L1 : ∀ i, i ≤ x.sub.length → ∀ left : Int, left ≤ 1048576 → ∃ r, sL7Left_L1 x left (i : Nat) = some r ∧ LeftP left ((x.sub.drop i).map e).sum r := by
      refine back_ind ?_ ?_
      · intro left hl
        rw [sL7Left_L1]
        refine ⟨left, by simp, ?_⟩
        simp only [List.drop_length, List.map_nil, List.sum_nil, LeftP]
        omega
      · intro i hi ihi left hl
        have hmem := List.getElem_mem hi
        obtain ⟨_, q2, q3, q4⟩ := HQ _ hmem
        have hrest := enn (x.sub.drop (i + 1)) fun q hq => List.mem_of_mem_drop hq
        rw [List.drop_eq_getElem_cons hi, List.map_cons, List.sum_cons]
        by_cases h0 : 0 ≤ left
        · have hle := exprsOf_len x.sub[i]
          have L2 : ∀ j, j ≤ (exprsOf x.sub[i]).length → ∀ left : Int, left ≤ 1048576 → ∃ r, sL7Left_L2 (i : Int) (exprsOf x.sub[i]) x left (j : Nat) = some r ∧ LeftP left ((((exprsOf x.sub[i]).drop j).map d).sum + ((x.sub.drop (i + 1)).map e).sum) r := by
            refine back_ind ?_ ?_
            · intro left hl
              rw [sL7Left_L2]
              obtain ⟨r, h1, h2⟩ := ihi left hl
              have w := wrap_next hi (by omega)
              refine ⟨r, by simp [w]; simpa using h1, ?_⟩
              simpa using h2
            · intro j hj ihj left hl
              have hy := List.getElem_mem hj
              obtain ⟨_, y2, y3⟩ := H _ (q4 _ hy)
              have hnn : 0 ≤ (((exprsOf x.sub[i]).drop (j + 1)).map d).sum := sum_nn fun y hy => (H y (q4 y (List.mem_of_mem_drop hy))).2.1.1
              rw [List.drop_eq_getElem_cons hj, List.map_cons, List.sum_cons]
              rw [sL7Left_L2]
              by_cases h0 : 0 ≤ left
              · obtain ⟨r', r1, r2⟩ := y3 left h0 hl
                have hr' : r' ≤ 1048576 := by rcases r2 with r2 | r2 <;> omega
                obtain ⟨r, s1, s2⟩ := ihj r' hr'
                refine ⟨r, ?_, ?_⟩
                · simp only [lt_dec, idx_lt hj, wrap_next hj (by omega), hj, h0, decide_true, if_true, r1, Option.bind_eq_bind, Option.bind_some]
                  exact s1
                · unfold LeftP at *
                  omega
              · refine ⟨left, ?_, ?_⟩
                · simp only [h0, decide_false, Option.bind_eq_bind, Option.bind_some]
                  rw [left_L1neg x left (by omega)]
                  simp
                · unfold LeftP; omega
          obtain ⟨r, s1, s2⟩ := L2 0 (by omega) left hl
          rw [sL7Left_L1]
          refine ⟨r, ?_, ?_⟩
          · simp only [lt_dec, idx_lt hi, hi, h0, decide_true, if_true, sExprs_ok _ q3, Option.bind_eq_bind, Option.bind_some]
            exact s1
          · simpa using s2
        · refine ⟨left, left_L1neg x left (by omega) _, ?_⟩
          unfold LeftP
          have := q2.1
          omega
    have L0 : ∀ i, i ≤ x.kids.length → ∀ left : Int, left ≤ 1048576 → ∃ r, sL7Left_L0 x left (i : Nat) = some r ∧ LeftP left (((x.kids.drop i).map d).sum + (x.sub.map e).sum) r := by
      have hsub := enn x.sub fun _ h => h
      refine back_ind ?_ ?_
      · intro left hl
        rw [sL7Left_L0]
        obtain ⟨r, h1, h2⟩ := L1 0 (by omega) left hl
        refine ⟨r, by simpa using h1, by simpa using h2⟩
      · intro i hi ihi left hl
        have hy := List.getElem_mem hi
        obtain ⟨_, y2, y3⟩ := H _ (HK _ hy)
        have hnn : 0 ≤ ((x.kids.drop (i + 1)).map d).sum := sum_nn fun y hy => (H y (HK y (List.mem_of_mem_drop hy))).2.1.1
        rw [List.drop_eq_getElem_cons hi, List.map_cons, List.sum_cons]
        rw [sL7Left_L0]
        by_cases h0 : 0 ≤ left
        · obtain ⟨r', r1, r2⟩ := y3 left h0 hl
          have hr' : r' ≤ 1048576 := by rcases r2 with r2 | r2 <;> omega
          obtain ⟨r, s1, s2⟩ := ihi r' hr'
          refine ⟨r, ?_, ?_⟩
          · simp only [lt_dec, idx_lt hi, wrap_next hi (by omega), hi, h0, decide_true, if_true, r1, Option.bind_eq_bind, Option.bind_some]
            exact s1
          · unfold LeftP at *
            omega
        · refine ⟨left, ?_, ?_⟩
          · simp only [h0, decide_false, Option.bind_eq_bind, Option.bind_some]
            rw [left_L1neg x left (by omega)]
            simp
          · unfold LeftP; omega
    refine ⟨1 + (x.kids.map d).sum + (x.sub.map e).sum, ?_, by omega, by omega, ?_⟩
    · rw [iSizeOf, iSizeOfAll_ok x.kids d (by omega) fun y hy => ⟨(H y (HK y hy)).1, (H y (HK y hy)).2.1⟩]
      simp only [Option.bind_eq_bind, Option.bind_some]
      rw [wrap_ok (by omega) (by omega)]
      rw [folded (p := x.sub) (g := fun y b => (iQuerySize y) >>= fun r => some (IntKind.wrap .i64 (b + r))) (h := fun y b => IntKind.wrap .i64 (b + e y)) (L := fun b i => iSizeOf_L0 x b i) (K := fun b => some b) (by omega) ?_ ?_ _]
      · rw [fold_add (by omega) (fun y hy => (HQ y hy).2.1.1) (by omega)]
      · intro y hy b; simp only [(HQ y hy).1, Option.bind_eq_bind, Option.bind_some]
      · intro i b; rw [iSizeOf_L0]; simp only [Option.bind_eq_bind, Option.bind_assoc, Option.bind_some]
    · intro left h0 h1
      rw [sL7Left, wrap_ok (by omega) (by omega)]
      obtain ⟨r, s1, s2⟩ := L0 0 (by omega) (left - 1) (by omega)
      refine ⟨r, s1, ?_⟩
      simp only [List.drop_zero] at s2
      unfold LeftP at *
      omega
def stmtExprs (s : GStmt) : List GExpr := exprsOf s.query ++ s.rows.flatMap id ++ s.sets ++ s.where_
theorem rows_sum (l : List (List GExpr)) : (l.flatMap id).length + ((l.flatMap id).map zGExpr).sum ≤ zL (zL zGExpr) l := by
  have e : ∀ l : List (List GExpr), zL (zL zGExpr) l = l.length + (l.map (zL zGExpr)).sum := fun _ => rfl
  have e2 : ∀ l : List GExpr, zL zGExpr l = l.length + (l.map zGExpr).sum := fun _ => rfl
  induction l with
  | nil => simp [e]
  | cons x l ih =>
    rw [e] at ih ⊢
    rw [List.flatMap_cons, List.length_append, sum_app, List.map_cons, List.sum_cons, List.length_cons, e2]
    simp only [id]
    omega
theorem stmt_sum (s : GStmt) : (stmtExprs s).length + ((stmtExprs s).map zGExpr).sum ≤ zGStmt s := by
  obtain ⟨k, q, t, r, c, se, w⟩ := s
  have e2 : ∀ l : List GExpr, zL zGExpr l = l.length + (l.map zGExpr).sum := fun _ => rfl
  have h1 := exprs_sum q
  have h2 := rows_sum r
  have h3 := e2 se
  have h4 := e2 w
  simp only [stmtExprs, List.length_append, sum_app, zGStmt]
  omega
theorem stmt_rows (s : GStmt) : s.rows.length ≤ zGStmt s ∧ zGQuery s.query ≤ zGStmt s := by
  obtain ⟨k, q, t, r, c, se, w⟩ := s
  have e : zL (zL zGExpr) r = r.length + (r.map (zL zGExpr)).sum := rfl
  simp only [zGStmt]
  omega
theorem stmtExprs_mem {s : GStmt} {y : GExpr} (h : y ∈ stmtExprs s) : zGExpr y < zGStmt s := by
  have h1 := stmt_sum s
  have h2 := le_sum (z := zGExpr) h
  have h3 : 0 < (stmtExprs s).length := List.length_pos_of_mem h
  omega
theorem sStmtExprs_ok (s : GStmt) (hz : zGStmt s ≤ 1048576) : sL8Exprs s = some (stmtExprs s) := by
  have h1 := stmt_sum s
  obtain ⟨h2, h3⟩ := stmt_rows s
  have app : ∀ {l m : List GExpr}, l.length + m.length ≤ 1048576 → appG 136 l m = some (l ++ m) := fun h => appG_ok (by omega)
  simp only [stmtExprs, List.length_append] at h1
  unfold sL8Exprs
  rw [sExprs_ok s.query (by omega)]
  simp only [Option.bind_eq_bind, Option.bind_some]
  rw [gather (p := s.rows) (f := id) (c := 1048576) (G := fun y acc => appG 136 acc y) (L := fun acc i => sL8Exprs_L0 s acc i) (K := fun acc => (appG 136 acc s.sets) >>= fun y4 => (appG 136 y4 s.where_) >>= fun y5 => some y5) (by omega) ?_ ?_ _ (by omega)]
  · simp only [Option.bind_eq_bind]
    rw [app (by simp only [List.length_append]; omega)]
    simp only [Option.bind_some]
    rw [app (by simp only [List.length_append]; omega)]
    rfl
  · intro y _ acc ha; exact app ha
  · intro i acc; rw [sL8Exprs_L0]
theorem iStmtExprs_ok (s : GStmt) (hz : zGStmt s ≤ 1048576) : iStmt_exprs s = some (stmtExprs s) := by
  have h1 := stmt_sum s
  obtain ⟨h2, h3⟩ := stmt_rows s
  have app : ∀ {l m : List GExpr}, l.length + m.length ≤ 1048576 → appG 136 l m = some (l ++ m) := fun h => appG_ok (by omega)
  simp only [stmtExprs, List.length_append] at h1
  unfold iStmt_exprs
  rw [iExprs_ok s.query (by omega)]
  simp only [Option.bind_eq_bind, Option.bind_some]
  rw [gather (p := s.rows) (f := id) (c := 1048576) (G := fun y acc => appG 136 acc y) (L := fun acc i => iStmt_exprs_L0 s acc i) (K := fun acc => (appG 136 acc s.sets) >>= fun y4 => (appG 136 y4 s.where_) >>= fun y5 => some y5) (by omega) ?_ ?_ _ (by omega)]
  · simp only [Option.bind_eq_bind]
    rw [app (by simp only [List.length_append]; omega)]
    simp only [Option.bind_some]
    rw [app (by simp only [List.length_append]; omega)]
    rfl
  · intro y _ acc ha; exact app ha
  · intro i acc; rw [iStmt_exprs_L0]
theorem sQuerySize_ok (q : GQuery) (d : GExpr → Int) (hz : zGQuery q ≤ 1048576) (H : ∀ y ∈ exprsOf q, sSizeOf y = some (d y) ∧ 0 ≤ d y ∧ d y ≤ 1 + zGExpr y) : sQuerySize q = some ((exprsOf q).map d).sum := by
  have hl := exprs_sum q
  have hs := sum_le (z := zGExpr) (d := d) (p := exprsOf q) fun y hy => (H y hy).2
  rw [sQuerySize, sExprs_ok q hz]
  simp only [Option.bind_eq_bind, Option.bind_some]
  rw [folded (p := exprsOf q) (g := fun y b => (sSizeOf y) >>= fun r => some (IntKind.wrap .i64 (b + r))) (h := fun y b => IntKind.wrap .i64 (b + d y)) (L := fun b i => sQuerySize_L0 (exprsOf q) b i) (K := fun b => some b) (by omega) ?_ ?_ 0]
  · rw [fold_add (by omega) (fun y hy => (H y hy).2.1) (by omega)]; simp
  · intro y hy b; simp only [(H y hy).1, Option.bind_eq_bind, Option.bind_some]
  · intro i b; rw [sQuerySize_L0]; simp only [Option.bind_eq_bind, Option.bind_assoc, Option.bind_some]
theorem size_eq : ∀ n : Nat, ∀ x : GExpr, zGExpr x < n → zGExpr x ≤ 1048576 → ∃ d, sSizeOf x = some d ∧ iSizeOf x = some d ∧ 0 ≤ d ∧ d ≤ 1 + zGExpr x := by
  intro n
  induction n with
  | zero => intro x h _; omega
  | succ n ih =>
    intro x hx hz
    have hE := zE x
    let d : GExpr → Int := fun y => (sSizeOf y).getD 0
    have H : ∀ y, zGExpr y < zGExpr x → sSizeOf y = some (d y) ∧ iSizeOf y = some (d y) ∧ 0 ≤ d y ∧ d y ≤ 1 + zGExpr y := by
      intro y hy
      obtain ⟨r, h1, h2, h3, h4⟩ := ih y (by omega) (by omega)
      simp only [d, h1, h2, Option.getD_some, true_and]
      exact ⟨h3, h4⟩
    let e : GQuery → Int := fun q => ((exprsOf q).map d).sum
    have HQ : ∀ q ∈ x.sub, sQuerySize q = some (e q) ∧ iQuerySize q = some (e q) ∧ 0 ≤ e q ∧ e q ≤ zGQuery q := by
      intro q hq
      have h1 := memQ_lt hq
      have h2 : ∀ y ∈ exprsOf q, zGExpr y < zGExpr x := fun y hy => by have := exprsOf_lt hy; omega
      have h3 := sum_le (z := zGExpr) (d := d) (p := exprsOf q) fun y hy => (H y (h2 y hy)).2.2
      have h4 := exprs_sum q
      exact ⟨sQuerySize_ok q d (by omega) fun y hy => ⟨(H y (h2 y hy)).1, (H y (h2 y hy)).2.2⟩, iQuerySize_ok q d (by omega) fun y hy => (H y (h2 y hy)).2, h3.1, by show ((exprsOf q).map d).sum ≤ _; omega⟩
    have HK : ∀ y ∈ x.kids, sSizeOf y = some (d y) ∧ iSizeOf y = some (d y) ∧ 0 ≤ d y ∧ d y ≤ 1 + zGExpr y := fun y hy => H y (by have := memL_lt hy; omega)
    have hk := sum_le (z := zGExpr) (d := d) (p := x.kids) fun y hy => (HK y hy).2.2
    have hq := sum_le0 (z := zGQuery) (d := e) (p := x.sub) fun y hy => (HQ y hy).2.2
    have hk' := zLGExpr_eq x.kids
    have hq' := zLGQuery_eq x.sub
    refine ⟨1 + (x.kids.map d).sum + (x.sub.map e).sum, ?_, ?_, by omega, by omega⟩
    · rw [sSizeOf]
      rw [folded (p := x.kids) (g := fun y b => (sSizeOf y) >>= fun r => some (IntKind.wrap .i64 (b + r))) (h := fun y b => IntKind.wrap .i64 (b + d y)) (L := fun b i => sSizeOf_L0 x b i) (K := fun b => sSizeOf_L1 x b 0) (by omega) ?_ ?_ 1]
      · rw [fold_add (by omega) (fun y hy => (HK y hy).2.2.1) (by omega)]
        rw [folded (p := x.sub) (g := fun y b => (sQuerySize y) >>= fun r => some (IntKind.wrap .i64 (b + r))) (h := fun y b => IntKind.wrap .i64 (b + e y)) (L := fun b i => sSizeOf_L1 x b i) (K := fun b => some b) (by omega) ?_ ?_ _]
        · rw [fold_add (by omega) (fun y hy => (HQ y hy).2.2.1) (by omega)]
        · intro y hy b; simp only [(HQ y hy).1, Option.bind_eq_bind, Option.bind_some]
        · intro i b; rw [sSizeOf_L1]; simp only [Option.bind_eq_bind, Option.bind_assoc, Option.bind_some]
      · intro y hy b; simp only [(HK y hy).1, Option.bind_eq_bind, Option.bind_some]
      · intro i b; rw [sSizeOf_L0]; simp only [Option.bind_eq_bind, Option.bind_assoc, Option.bind_some]
    · rw [iSizeOf, iSizeOfAll_ok x.kids d (by omega) fun y hy => (HK y hy).2]
      simp only [Option.bind_eq_bind, Option.bind_some]
      rw [wrap_ok (by omega) (by omega)]
      rw [folded (p := x.sub) (g := fun y b => (iQuerySize y) >>= fun r => some (IntKind.wrap .i64 (b + r))) (h := fun y b => IntKind.wrap .i64 (b + e y)) (L := fun b i => iSizeOf_L0 x b i) (K := fun b => some b) (by omega) ?_ ?_ _]
      · rw [fold_add (by omega) (fun y hy => (HQ y hy).2.2.1) (by omega)]
      · intro y hy b; simp only [(HQ y hy).2.1, Option.bind_eq_bind, Option.bind_some]
      · intro i b; rw [iSizeOf_L0]; simp only [Option.bind_eq_bind, Option.bind_assoc, Option.bind_some]
theorem sL1Max_eq (a b : Int) : sL1Max a b = some (if b > a then b else a) := by
  unfold sL1Max
  by_cases h : b < a
  · simp [h]; omega
  · by_cases h2 : b > a
    · simp [h, h2]
    · simp [h, h2]; omega
def mx (b r : Int) : Int := if r > b then r else b
theorem sQueryDepth_ok (q : GQuery) (d : GExpr → Int) (hz : zGQuery q ≤ 1048576) (H : ∀ y ∈ exprsOf q, sDepthOf y = some (d y)) : sQueryDepth q = some ((exprsOf q).foldl (fun b y => mx b (d y)) 0) := by
  have hl := exprsOf_len q
  rw [sQueryDepth, sExprs_ok q hz]
  simp only [Option.bind_eq_bind, Option.bind_some]
  refine folded (p := exprsOf q) (g := fun y b => (sDepthOf y) >>= fun r => sL1Max b r) (h := fun y b => mx b (d y)) (L := fun b i => sQueryDepth_L0 (exprsOf q) b i) (K := fun b => some b) (by omega) ?_ ?_ 0
  · intro y hy b; simp only [H y hy, Option.bind_eq_bind, Option.bind_some, sL1Max_eq, mx]
  · intro i b; rw [sQueryDepth_L0]; simp only [Option.bind_eq_bind, Option.bind_assoc]
theorem iQueryDepth_ok (q : GQuery) (d : GExpr → Int) (hz : zGQuery q ≤ 1048576) (H : ∀ y ∈ exprsOf q, iDepthOf y = some (d y)) : iQueryDepth q = some ((exprsOf q).foldl (fun b y => mx b (d y)) 0) := by
  have hl := exprsOf_len q
  rw [iQueryDepth, iExprs_ok q hz]
  simp only [Option.bind_eq_bind, Option.bind_some]
  rw [iDeepestOf]
  rw [folded (p := exprsOf q) (g := fun y b => (iDepthOf y) >>= fun r => some (mx b r)) (h := fun y b => mx b (d y)) (L := fun b i => iDeepestOf_L0 (exprsOf q) b i) (K := fun b => some b) (by omega) ?_ ?_ 0]
  · rfl
  · intro y hy b; simp only [H y hy, Option.bind_eq_bind, Option.bind_some]
  · intro i b; rw [iDeepestOf_L0]; simp only [Option.bind_eq_bind, Option.bind_assoc, Option.bind_some, mx]
theorem depth_eq : ∀ n : Nat, ∀ x : GExpr, zGExpr x < n → zGExpr x ≤ 1048576 → ∃ d, sDepthOf x = some d ∧ iDepthOf x = some d := by
  intro n
  induction n with
  | zero => intro x h _; omega
  | succ n ih =>
    intro x hx hz
    have hE := zE x
    let d : GExpr → Int := fun y => (sDepthOf y).getD 0
    have H : ∀ y, zGExpr y < zGExpr x → sDepthOf y = some (d y) ∧ iDepthOf y = some (d y) := by
      intro y hy
      obtain ⟨r, h1, h2⟩ := ih y (by omega) (by omega)
      simp only [d, h1, h2, Option.getD_some, and_self]
    let e : GQuery → Int := fun q => (exprsOf q).foldl (fun b y => mx b (d y)) 0
    have HQ : ∀ q ∈ x.sub, sQueryDepth q = some (e q) ∧ iQueryDepth q = some (e q) := by
      intro q hq
      have h1 := memQ_lt hq
      exact ⟨sQueryDepth_ok q d (by omega) fun y hy => (H y (by have := exprsOf_lt hy; omega)).1, iQueryDepth_ok q d (by omega) fun y hy => (H y (by have := exprsOf_lt hy; omega)).2⟩
    have HK : ∀ y ∈ x.kids, sDepthOf y = some (d y) ∧ iDepthOf y = some (d y) := fun y hy => H y (by have := memL_lt hy; omega)
    refine ⟨IntKind.wrap .i64 (x.sub.foldl (fun b y => mx b (e y)) (x.kids.foldl (fun b y => mx b (d y)) 0) + 1), ?_, ?_⟩
    · rw [sDepthOf]
      rw [folded (p := x.kids) (g := fun y b => (sDepthOf y) >>= fun r => sL1Max b r) (h := fun y b => mx b (d y)) (L := fun b i => sDepthOf_L0 x b i) (K := fun b => sDepthOf_L1 x b 0) (by omega) ?_ ?_ 0]
      · rw [folded (p := x.sub) (g := fun y b => (sQueryDepth y) >>= fun r => sL1Max b r) (h := fun y b => mx b (e y)) (L := fun b i => sDepthOf_L1 x b i) (K := fun b => some (IntKind.wrap .i64 (b + 1))) (by omega) ?_ ?_ _]
        · intro y hy b; simp only [(HQ y hy).1, Option.bind_eq_bind, Option.bind_some, sL1Max_eq, mx]
        · intro i b; rw [sDepthOf_L1]; simp only [Option.bind_eq_bind, Option.bind_assoc]
      · intro y hy b; simp only [(HK y hy).1, Option.bind_eq_bind, Option.bind_some, sL1Max_eq, mx]
      · intro i b; rw [sDepthOf_L0]; simp only [Option.bind_eq_bind, Option.bind_assoc]
    · rw [iDepthOf]
      rw [folded (p := x.kids) (g := fun y b => (iDepthOf y) >>= fun r => some (mx b r)) (h := fun y b => mx b (d y)) (L := fun b i => iDepthOf_L0 x b i) (K := fun b => iDepthOf_L1 x b 0) (by omega) ?_ ?_ 0]
      · rw [folded (p := x.sub) (g := fun y b => (iQueryDepth y) >>= fun r => some (mx b r)) (h := fun y b => mx b (e y)) (L := fun b i => iDepthOf_L1 x b i) (K := fun b => some (IntKind.wrap .i64 (1 + b))) (by omega) ?_ ?_ _]
        · rw [Int.add_comm]
        · intro y hy b; simp only [(HQ y hy).2, Option.bind_eq_bind, Option.bind_some]
        · intro i b; rw [iDepthOf_L1]; simp only [Option.bind_eq_bind, Option.bind_assoc, Option.bind_some, mx]
      · intro y hy b; simp only [(HK y hy).2, Option.bind_eq_bind, Option.bind_some]
      · intro i b; rw [iDepthOf_L0]; simp only [Option.bind_eq_bind, Option.bind_assoc, Option.bind_some, mx]
theorem all8 (l : List GExpr) (f : GExpr → Bool) (hl : l.length ≤ 1048576) (H : ∀ y ∈ l, sExprOk y = some (f y)) : sL8All l = some (l.all f) := by
  have key : ∀ i, i ≤ l.length → sL8All_L0 l (i : Nat) = some ((l.drop i).all f) := by
    refine back_ind ?_ ?_
    · rw [sL8All_L0]; simp
    · intro i hi ih
      rw [sL8All_L0, List.drop_eq_getElem_cons hi]
      simp only [lt_dec, idx_lt hi, wrap_next hi (by omega), hi, decide_true, if_true, H _ (List.getElem_mem hi), Option.bind_eq_bind, Option.bind_some, List.all_cons]
      cases f l[i] with
      | true => simpa using ih
      | false => simp
  simpa [sL8All] using key 0 (by omega)
theorem containsNot {α : Type} {l : List α} {f : α → Bool} {L : Int → Option Int} (hl : l.length ≤ 1048576)
    (hL : ∀ i (hi : i < l.length), L (i : Nat) = if f l[i] = true then L ((i + 1 : Nat) : Int) else some (i : Int)) (hend : L (l.length : Nat) = some (-1)) : ∃ k, L 0 = some k ∧ decide (0 ≤ k) = !l.all f := by
  have key : ∀ i, i ≤ l.length → ∃ k, L (i : Nat) = some k ∧ decide (0 ≤ k) = !(l.drop i).all f := by
    refine back_ind ⟨-1, hend, by simp⟩ ?_
    intro i hi ih
    rw [hL i hi, List.drop_eq_getElem_cons hi, List.all_cons]
    cases hf : f l[i] with
    | true => simpa using ih
    | false => exact ⟨(i : Int), by simp, by simp⟩
  simpa using key 0 (by omega)
def rowP (r : List GExpr) : Bool := decide (1 ≤ (r.length : Int)) && decide ((r.length : Int) ≤ 12)
theorem rows_contains (l : List (List GExpr)) (hl : l.length ≤ 1048576) : gZ7 l = some (!l.all rowP) := by
  have hL : ∀ i (hi : i < l.length), gZ10_L0 l (i : Nat) = if rowP l[i] = true then gZ10_L0 l ((i + 1 : Nat) : Int) else some (i : Int) := by
    intro i hi
    rw [gZ10_L0]
    simp only [lt_dec, idx_lt hi, wrap_next hi (by omega), hi, decide_true, if_true, iStmtOk_1, Option.bind_eq_bind, Option.bind_some, rowP]
    by_cases a1 : (l[i].length : Int) < 1
    · have : ¬ 1 ≤ (l[i].length : Int) := by omega
      simp only [a1, this, decide_true, decide_false]; simp
    · have a1' : 1 ≤ (l[i].length : Int) := by omega
      by_cases a2 : (l[i].length : Int) ≤ 12
      · have a2' : ¬ 12 < (l[i].length : Int) := by omega
        simp only [a1, a1', a2, a2', decide_true, decide_false]; simp
      · have a2' : 12 < (l[i].length : Int) := by omega
        simp only [a1, a1', a2, a2', decide_true, decide_false]; simp
  have hend : gZ10_L0 l (l.length : Nat) = some (-1) := by
    rw [gZ10_L0]; simp
  obtain ⟨k, h1, h2⟩ := containsNot (l := l) (f := rowP) (L := fun i => gZ10_L0 l i) hl hL hend
  rw [gZ7, gZ10, h1]
  simp only [Option.bind_eq_bind, Option.bind_some, h2]
def nameB (s : List UInt8) : Bool := (sNameOk s).getD false
theorem nameB_s (s : List UInt8) : sNameOk s = some (nameB s) := by
  obtain ⟨b, h, _⟩ := nameOk_sE s
  simp [nameB, h]
theorem cols_contains (l : List (List UInt8)) (hl : l.length ≤ 1048576) : gZ11 l = some (!l.all nameB) := by
  have hL : ∀ i (hi : i < l.length), gZ12_L0 l (i : Nat) = if nameB l[i] = true then gZ12_L0 l ((i + 1 : Nat) : Int) else some (i : Int) := by
    intro i hi
    rw [gZ12_L0]
    simp only [lt_dec, idx_lt hi, wrap_next hi (by omega), hi, decide_true, if_true, iStmtOk_2, nameOk_fn, nameB_s, Option.bind_eq_bind, Option.bind_some]
    cases nameB l[i] <;> simp
  have hend : gZ12_L0 l (l.length : Nat) = some (-1) := by
    rw [gZ12_L0]; simp
  obtain ⟨k, h1, h2⟩ := containsNot (l := l) (f := nameB) (L := fun i => gZ12_L0 l i) hl hL hend
  rw [gZ11, gZ12, h1]
  simp only [Option.bind_eq_bind, Option.bind_some, h2]
theorem sameQ0 (q : GQuery) : ∃ b, sSameQuery q (GQuery.mk false [] [] [] [] 0) = some b ∧ iSameQuery q (GQuery.mk false [] [] [] [] 0) = some b ∧ (b = true → exprsOf q = []) := by
  have len0 : ∀ {α : Type} (l : List α), decide ((l.length : Int) = (([] : List α).length : Int)) = decide (l = []) := by
    intro α l
    by_cases h : l = []
    · simp [h]
    · simp [h]
  have fk : sL7Same q.where_ [] = some (decide (q.where_ = [])) := by
    rw [sL7Same]
    by_cases h : q.where_ = []
    · rw [h, sL7Same_L0]; simp
    · simp [h]
  have ek : iSameExprs q.where_ [] = some (decide (q.where_ = [])) := by
    rw [iSameExprs, gZ4]
    by_cases h : q.where_ = []
    · rw [h, gZ4_L0]; simp
    · simp [h]
  have e1 : gZ3 q.items [] = some (decide (q.items = [])) := by
    rw [gZ3]
    by_cases h : q.items = []
    · rw [h, gZ3_L0]; simp
    · simp [h]
  have e2 : gZ1 q.from_ [] = some (decide (q.from_ = [])) := by
    rw [gZ1]
    by_cases h : q.from_ = []
    · rw [h, gZ1_L0]; simp
    · simp [h]
  have e3 : gZ0 q.order [] = some (decide (q.order = [])) := by
    rw [gZ0]
    by_cases h : q.order = []
    · rw [h, gZ0_L0]; simp
    · simp [h]
  refine ⟨(q.distinct == false) && decide (q.limit = 0) && decide (q.items = []) && decide (q.from_ = []) && decide (q.order = []) && decide (q.where_ = []), ?_, ?_, ?_⟩
  · rw [sSameQuery]
    simp only [len0, fk, Option.bind_eq_bind, Option.bind_some]
    by_cases i0 : q.items = []
    case neg => simp [i0]
    by_cases f0 : q.from_ = []
    case neg => simp [i0, f0]
    by_cases o0 : q.order = []
    case neg => simp [i0, f0, o0]
    have hL : sSameQuery_L0 q (GQuery.mk false [] [] [] [] 0) 0 = some true := by
      rw [sSameQuery_L0, sSameQuery_L1, sSameQuery_L2]; simp [i0, f0, o0]
    rw [hL]
    cases q.distinct <;> by_cases l0 : q.limit = 0 <;> by_cases w0 : q.where_ = [] <;> simp [i0, f0, o0, l0, w0]
  · rw [iSameQuery]
    simp only [e1, e2, e3, ek, Option.bind_eq_bind, Option.bind_some]
    cases q.distinct <;> by_cases l0 : q.limit = 0 <;> by_cases i0 : q.items = [] <;> by_cases f0 : q.from_ = [] <;> by_cases o0 : q.order = [] <;> by_cases w0 : q.where_ = [] <;> simp [i0, f0, o0, l0, w0]
  · intro h
    simp only [Bool.and_eq_true, decide_eq_true_eq] at h
    obtain ⟨⟨⟨⟨_, h1⟩, h2⟩, h3⟩, h4⟩ := h
    simp [exprsOf, h1, h2, h3, h4]
theorem exprOk_val (y : GExpr) (hz : zGExpr y ≤ 1048576) : ∃ b t s : _, sL7Right y = some b ∧ iIsFormed y = some b ∧ sDepthOf y = some t ∧ iDepthOf y = some t ∧ sSizeOf y = some s ∧ iSizeOf y = some s ∧ 0 ≤ s ∧ s ≤ 1 + zGExpr y ∧ sExprOk y = some (b && (decide (t ≤ 24) && decide (s ≤ 200))) := by
  obtain ⟨b, h1, h2⟩ := right_eq _ y (Nat.lt_succ_self _) hz
  obtain ⟨s, s1, s2, s3, s4⟩ := left_eq _ y (Nat.lt_succ_self _) hz
  obtain ⟨r, r1, r2⟩ := s4 200 (by omega) (by omega)
  obtain ⟨t, t1, t2⟩ := depth_eq _ y (Nat.lt_succ_self _) hz
  obtain ⟨s', q1, q2, q3, q4⟩ := size_eq _ y (Nat.lt_succ_self _) hz
  have es : s' = s := by rw [s1] at q2; simpa using q2.symm
  subst es
  refine ⟨b, t, s', h1, h2, t1, t2, q1, q2, q3, q4, ?_⟩
  rw [sExprOk]
  simp only [h1, r1, t1, Option.bind_eq_bind, Option.bind_some]
  have hr : decide (0 ≤ r) = decide (s' ≤ 200) := by
    rcases r2 with ⟨a1, a2⟩ | ⟨a1, a2⟩
    · have p1 : 0 ≤ r := by omega
      simp [p1, a1]
    · have p1 : ¬ 0 ≤ r := by omega
      have p2 : ¬ s' ≤ 200 := by omega
      simp [p1, p2]
  rw [hr]
  by_cases p : s' ≤ 200 <;> by_cases q : t ≤ 24 <;> cases b <;> simp [p, q]
theorem le_mx {d : GExpr → Int} : ∀ (l : List GExpr) (b : Int), b ≤ l.foldl (fun b y => mx b (d y)) b ∧ ∀ y ∈ l, d y ≤ l.foldl (fun b y => mx b (d y)) b
  | [], b => by simp
  | x :: l, b => by
    obtain ⟨h1, h2⟩ := le_mx (d := d) l (mx b (d x))
    have h3 : b ≤ mx b (d x) ∧ d x ≤ mx b (d x) := by unfold mx; split <;> omega
    simp only [List.foldl_cons]
    refine ⟨by omega, fun y hy => ?_⟩
    rcases List.mem_cons.1 hy with rfl | hy
    · omega
    · exact h2 y hy
theorem le_sumI {d : GExpr → Int} : ∀ {l : List GExpr}, (∀ y ∈ l, 0 ≤ d y) → ∀ y ∈ l, d y ≤ (l.map d).sum
  | x :: l, h, y, hy => by
    have h0 := h x (by simp)
    have h1 := sum_nn (d := d) (l := l) fun y hy => h y (by simp [hy])
    simp only [List.map_cons, List.sum_cons]
    rcases List.mem_cons.1 hy with rfl | hy
    · omega
    · have := le_sumI (l := l) (fun y hy => h y (by simp [hy])) y hy
      omega
theorem shape0_ok (s : GStmt) (f : GExpr → Bool) (y1 y2 : Bool) (hr : s.rows.length ≤ 1048576) (hc : s.cols.length ≤ 1048576) (hse : s.sets.length ≤ 1048576) (hw : s.where_.length ≤ 1048576) (H : ∀ r ∈ s.rows, sL8All r = some (r.all f)) :
    sL8Shape_L0 y1 y2 s 0 = some (s.rows.all (fun r => rowP r && r.all f) && (y1 && y2 && (decide (1 ≤ (s.rows.length : Int)) && decide ((s.rows.length : Int) ≤ 5)) && (decide (s.cols = []) && decide (s.sets = []) && decide (s.where_ = [])))) := by
  have hsum : IntKind.wrap .i64 ((IntKind.wrap .i64 ((s.cols.length : Int) + (s.sets.length : Int))) + (s.where_.length : Int)) = (s.cols.length : Int) + (s.sets.length : Int) + (s.where_.length : Int) := by
    rw [wrap_ok (n := (s.cols.length : Int) + (s.sets.length : Int)) (by omega) (by omega), wrap_ok (by omega) (by omega)]
  have hs0 : decide ((s.cols.length : Int) + (s.sets.length : Int) + (s.where_.length : Int) = 0) = (decide (s.cols = []) && decide (s.sets = []) && decide (s.where_ = [])) := by
    have l0 : ∀ {α : Type} (l : List α), (l = []) ↔ l.length = 0 := fun l => List.length_eq_zero_iff.symm
    rw [Bool.eq_iff_iff]
    simp only [Bool.and_eq_true, decide_eq_true_eq, l0]
    omega
  have key : ∀ i, i ≤ s.rows.length → sL8Shape_L0 y1 y2 s (i : Nat) = some ((s.rows.drop i).all (fun r => rowP r && r.all f) && (y1 && y2 && (decide (1 ≤ (s.rows.length : Int)) && decide ((s.rows.length : Int) ≤ 5)) && (decide (s.cols = []) && decide (s.sets = []) && decide (s.where_ = [])))) := by
    refine back_ind ?_ ?_
    · rw [sL8Shape_L0]
      simp only [lt_dec, Nat.lt_irrefl, decide_false, Bool.false_eq_true, if_false, hsum, hs0, sL1In, Option.bind_eq_bind, Option.bind_some, List.drop_length, List.all_nil, Bool.true_and, andB]
      cases y1 <;> cases y2 <;> simp
    · intro i hi ih
      rw [sL8Shape_L0, List.drop_eq_getElem_cons hi, List.all_cons]
      simp only [lt_dec, idx_lt hi, wrap_next hi (by omega), hi, decide_true, if_true, sL1In, H _ (List.getElem_mem hi), ih, Option.bind_eq_bind, Option.bind_some, andB]
      have : (decide (1 ≤ (s.rows[i].length : Int)) && decide ((s.rows[i].length : Int) ≤ 12)) = rowP s.rows[i] := rfl
      rw [this]
      have hH := H _ (List.getElem_mem hi)
      generalize s.rows[i].all f = af at hH ⊢
      cases rowP s.rows[i] <;> cases af <;> simp [hH]
  simpa using key 0 (by omega)
theorem shape1_ok (s : GStmt) (f : GExpr → Bool) (y1 y2 : Bool) (hc : s.cols.length ≤ 1048576) (H1 : sL8All s.sets = some (s.sets.all f)) (H2 : sL8All s.where_ = some (s.where_.all f)) :
    sL8Shape_L1 y1 y2 s 0 = some (s.cols.all nameB && (y1 && y2 && decide ((s.rows.length : Int) = 0) && (decide (1 ≤ (s.cols.length : Int)) && decide ((s.cols.length : Int) ≤ 12)) && decide ((s.sets.length : Int) = (s.cols.length : Int)) && decide ((s.where_.length : Int) ≤ 1) && s.sets.all f && s.where_.all f)) := by
  have key : ∀ i, i ≤ s.cols.length → sL8Shape_L1 y1 y2 s (i : Nat) = some ((s.cols.drop i).all nameB && (y1 && y2 && decide ((s.rows.length : Int) = 0) && (decide (1 ≤ (s.cols.length : Int)) && decide ((s.cols.length : Int) ≤ 12)) && decide ((s.sets.length : Int) = (s.cols.length : Int)) && decide ((s.where_.length : Int) ≤ 1) && s.sets.all f && s.where_.all f)) := by
    refine back_ind ?_ ?_
    · rw [sL8Shape_L1]
      simp only [lt_dec, Nat.lt_irrefl, decide_false, Bool.false_eq_true, if_false, H1, H2, sL1In, Option.bind_eq_bind, Option.bind_some, List.drop_length, List.all_nil, Bool.true_and, andB]
      generalize decide ((s.rows.length : Int) = 0) = a
      generalize (decide (1 ≤ (s.cols.length : Int)) && decide ((s.cols.length : Int) ≤ 12)) = b
      generalize decide ((s.sets.length : Int) = (s.cols.length : Int)) = c
      generalize decide ((s.where_.length : Int) ≤ 1) = e
      generalize s.sets.all f = g
      generalize s.where_.all f = k
      cases y1 <;> cases y2 <;> cases a <;> cases b <;> cases c <;> cases e <;> cases g <;> cases k <;> rfl
    · intro i hi ih
      rw [sL8Shape_L1, List.drop_eq_getElem_cons hi, List.all_cons]
      simp only [lt_dec, idx_lt hi, wrap_next hi (by omega), hi, decide_true, if_true, nameB_s, ih, Option.bind_eq_bind, Option.bind_some]
      cases nameB s.cols[i] <;> simp
  simpa using key 0 (by omega)
theorem all_and {α : Type} (l : List α) (p q : α → Bool) : l.all (fun x => p x && q x) = (l.all p && l.all q) := by
  induction l with
  | nil => rfl
  | cons x l ih =>
    simp only [List.all_cons, ih]
    cases p x <;> cases q x <;> cases l.all p <;> cases l.all q <;> rfl
theorem all_flat {α : Type} (l : List (List α)) (q : α → Bool) : l.all (fun x => x.all q) = (l.flatMap id).all q := by
  induction l with
  | nil => rfl
  | cons x l ih => simp only [List.all_cons, ih, List.flatMap_cons, List.all_append, id]
theorem fnExactStmtOk_true (s : GStmt) (os : okGStmt s) : wFnExactStmtOk s = some true := by
  unfold wFnExactStmtOk
  rw [szGStmt_ok s os 1048576 (by omega) (by omega)]
  simp only [Option.bind_eq_bind, Option.bind_some]
  by_cases hz : (zGStmt s : Int) ≤ 1048576
  case neg => rw [if_neg hz]; simp
  have hz' : zGStmt s ≤ 1048576 := by omega
  have hsum := stmt_sum s
  obtain ⟨hrows, hq⟩ := stmt_rows s
  have hlens : s.cols.length ≤ 1048576 ∧ s.sets.length ≤ 1048576 ∧ s.where_.length ≤ 1048576 := by
    obtain ⟨k, q, t, r, c, se, w⟩ := s
    have e1 : zL List.length c = c.length + (c.map List.length).sum := rfl
    have e2 : ∀ l : List GExpr, zL zGExpr l = l.length + (l.map zGExpr).sum := fun _ => rfl
    have e3 := e2 se
    have e4 := e2 w
    simp only [zGStmt] at hz'
    dsimp only
    omega
  let d : GExpr → Bool := fun y => (sL7Right y).getD false
  let dd : GExpr → Int := fun y => (sDepthOf y).getD 0
  let ds : GExpr → Int := fun y => (sSizeOf y).getD 0
  have HV : ∀ y, zGExpr y ≤ 1048576 → sL7Right y = some (d y) ∧ iIsFormed y = some (d y) ∧ sDepthOf y = some (dd y) ∧ iDepthOf y = some (dd y) ∧ sSizeOf y = some (ds y) ∧ iSizeOf y = some (ds y) ∧ 0 ≤ ds y ∧ ds y ≤ 1 + zGExpr y ∧ sExprOk y = some (d y && (decide (dd y ≤ 24) && decide (ds y ≤ 200))) := by
    intro y hy
    obtain ⟨b, t, z, h1, h2, h3, h4, h5, h6, h7, h8, h9⟩ := exprOk_val y hy
    simp only [d, dd, ds, h1, h2, h3, h4, h5, h6, h9, Option.getD_some, true_and, and_true]
    exact ⟨h7, h8⟩
  have HS : ∀ y ∈ stmtExprs s, zGExpr y ≤ 1048576 := fun y hy => by have := stmtExprs_mem hy; omega
  let f : GExpr → Bool := fun y => d y && (decide (dd y ≤ 24) && decide (ds y ≤ 200))
  have hm := sum_le (d := ds) (z := zGExpr) (p := stmtExprs s) fun y hy => ⟨(HV y (HS y hy)).2.2.2.2.2.2.1, (HV y (HS y hy)).2.2.2.2.2.2.2.1⟩
  have D1 : sStmtDepth s = some ((stmtExprs s).foldl (fun b y => mx b (dd y)) 0) := by
    unfold sStmtDepth
    rw [sStmtExprs_ok s hz']
    simp only [Option.bind_eq_bind, Option.bind_some]
    rw [folded (p := stmtExprs s) (g := fun y b => (sDepthOf y) >>= fun r => sL1Max b r) (h := fun y b => mx b (dd y)) (L := fun b i => sStmtDepth_L0 (stmtExprs s) b i) (K := fun b => some b) (by omega) ?_ ?_ 0]
    · intro y hy b; simp only [(HV y (HS y hy)).2.2.1, Option.bind_eq_bind, Option.bind_some, sL1Max_eq, mx]
    · intro i b; rw [sStmtDepth_L0]; simp only [Option.bind_eq_bind, Option.bind_assoc]
  have D2 : iStmtDepth s = some ((stmtExprs s).foldl (fun b y => mx b (dd y)) 0) := by
    unfold iStmtDepth
    rw [iStmtExprs_ok s hz']
    simp only [Option.bind_eq_bind, Option.bind_some]
    rw [iDeepestOf]
    rw [folded (p := stmtExprs s) (g := fun y b => (iDepthOf y) >>= fun r => some (mx b r)) (h := fun y b => mx b (dd y)) (L := fun b i => iDeepestOf_L0 (stmtExprs s) b i) (K := fun b => some b) (by omega) ?_ ?_ 0]
    · rfl
    · intro y hy b; simp only [(HV y (HS y hy)).2.2.2.1, Option.bind_eq_bind, Option.bind_some]
    · intro i b; rw [iDeepestOf_L0]; simp only [Option.bind_eq_bind, Option.bind_assoc, Option.bind_some, mx]
  have S1 : sStmtSize s = some ((stmtExprs s).map ds).sum := by
    unfold sStmtSize
    rw [sStmtExprs_ok s hz']
    simp only [Option.bind_eq_bind, Option.bind_some]
    rw [folded (p := stmtExprs s) (g := fun y b => (sSizeOf y) >>= fun r => some (IntKind.wrap .i64 (b + r))) (h := fun y b => IntKind.wrap .i64 (b + ds y)) (L := fun b i => sStmtSize_L0 (stmtExprs s) b i) (K := fun b => some b) (by omega) ?_ ?_ 0]
    · rw [fold_add (by omega) (fun y hy => (HV y (HS y hy)).2.2.2.2.2.2.1) (by omega)]; simp
    · intro y hy b; simp only [(HV y (HS y hy)).2.2.2.2.1, Option.bind_eq_bind, Option.bind_some]
    · intro i b; rw [sStmtSize_L0]; simp only [Option.bind_eq_bind, Option.bind_assoc, Option.bind_some]
  have S2 : iStmtSize s = some ((stmtExprs s).map ds).sum := by
    unfold iStmtSize
    rw [iStmtExprs_ok s hz']
    simp only [Option.bind_eq_bind, Option.bind_some, iSizeOfAll_ok (stmtExprs s) ds (by omega) fun y hy => ⟨(HV y (HS y hy)).2.2.2.2.2.1, (HV y (HS y hy)).2.2.2.2.2.2.1, (HV y (HS y hy)).2.2.2.2.2.2.2.1⟩]
  -- under the bounds
  have hlm := le_mx (d := dd) (stmtExprs s) 0
  have hls := le_sumI (d := ds) (l := stmtExprs s) fun y hy => (HV y (HS y hy)).2.2.2.2.2.2.1
  have hall := areFormed_ok (stmtExprs s) d (by omega) fun y hy => (HV y (HS y hy)).2.1
  have hEX := iStmtExprs_ok s hz'
  have hE : stmtExprs s = exprsOf s.query ++ s.rows.flatMap id ++ s.sets ++ s.where_ := rfl
  have A8 : ∀ l : List GExpr, (∀ y ∈ l, y ∈ stmtExprs s) → l.length ≤ 1048576 → sL8All l = some (l.all f) := fun l hl hn => all8 l f hn fun y hy => (HV y (HS y (hl y hy))).2.2.2.2.2.2.2.2
  have mR : ∀ r ∈ s.rows, ∀ y ∈ r, y ∈ stmtExprs s := fun r hr y hy => by
    rw [hE]; simp only [List.mem_append, List.mem_flatMap, id]; exact .inl (.inl (.inr ⟨r, hr, hy⟩))
  have mS : ∀ y ∈ s.sets, y ∈ stmtExprs s := fun y hy => by rw [hE]; simp [hy]
  have mW : ∀ y ∈ s.where_, y ∈ stmtExprs s := fun y hy => by rw [hE]; simp [hy]
  have lR : ∀ r ∈ s.rows, r.length ≤ 1048576 := fun r hr => by
    have h1 := rows_sum s.rows
    have h2 : r.length ≤ (s.rows.flatMap id).length := by
      clear h1
      have : ∀ l : List (List GExpr), r ∈ l → r.length ≤ (l.flatMap id).length := by
        intro l
        induction l with
        | nil => intro h; simp at h
        | cons x l ih =>
          intro h
          rw [List.flatMap_cons, List.length_append]
          rcases List.mem_cons.1 h with rfl | h
          · simp only [id]; omega
          · have := ih h; omega
      exact this s.rows hr
    have h3 : (s.rows.flatMap id).length ≤ (stmtExprs s).length := by rw [hE]; simp only [List.length_append]; omega
    omega
  obtain ⟨b0, z1, z2, z3⟩ := sameQ0 s.query
  have K0 := shape0_ok s f b0 (nameB s.table) (by omega) hlens.1 hlens.2.1 hlens.2.2 fun r hr => A8 r (mR r hr) (lR r hr)
  have K1 := shape1_ok s f b0 (nameB s.table) hlens.1 (A8 s.sets mS hlens.2.1) (A8 s.where_ mW hlens.2.2)
  have KW := A8 s.where_ mW hlens.2.2
  -- the query's own check
  have HQ : ∀ y ∈ exprsOf s.query, y ∈ stmtExprs s := fun y hy => by rw [hE]; simp [hy]
  obtain ⟨g1, rb, g2⟩ := query_E s.query d (by omega) fun y hy => ⟨(HV y (HS y (HQ y hy))).1, (HV y (HS y (HQ y hy))).2.1⟩
  have qd := sQueryDepth_ok s.query dd (by omega) fun y hy => (HV y (HS y (HQ y hy))).2.2.1
  have qs := sQuerySize_ok s.query ds (by omega) fun y hy => ⟨(HV y (HS y (HQ y hy))).2.2.2.2.1, (HV y (HS y (HQ y hy))).2.2.2.2.2.2.1, (HV y (HS y (HQ y hy))).2.2.2.2.2.2.2.1⟩
  have qok : sQueryOk s.query = some (rb && decide ((exprsOf s.query).foldl (fun b y => mx b (dd y)) 0 ≤ 24) && decide (((exprsOf s.query).map ds).sum ≤ 200)) := by
    rw [sQueryOk]
    simp only [g2, Option.bind_eq_bind, Option.bind_some]
    cases rb
    · simp
    · by_cases u : (exprsOf s.query).foldl (fun b y => mx b (dd y)) 0 ≤ 24 <;> by_cases v : ((exprsOf s.query).map ds).sum ≤ 200 <;> simp [qd, qs, u, v]
  have e : ∃ c, sStmtOk s = some c ∧ iStmtOk s = some c := by
    have hfd : (stmtExprs s).foldl (fun b y => mx b (dd y)) 0 ≤ 24 → ((stmtExprs s).map ds).sum ≤ 200 → ∀ l : List GExpr, (∀ y ∈ l, y ∈ stmtExprs s) → l.all f = l.all d := by
      intro h1 h2 l hl
      induction l with
      | nil => rfl
      | cons y l ih =>
        have p1 := hlm.2 y (hl y (by simp))
        have p2 := hls y (hl y (by simp))
        have q1 : dd y ≤ 24 := by omega
        have q2 : ds y ≤ 200 := by omega
        simp only [List.all_cons, ih fun z hz => hl z (by simp [hz])]
        simp [f, q1, q2]
    have key : ∃ sh, sL8Shape s = some sh ∧ ((stmtExprs s).foldl (fun b y => mx b (dd y)) 0 ≤ 24 → ((stmtExprs s).map ds).sum ≤ 200 → iStmtOk s = some sh) := by
      have hb : b0 = true → stmtExprs s = s.rows.flatMap id ++ s.sets ++ s.where_ := fun h => by rw [hE, z3 h]; simp
      have w1 : IntKind.wrap .i64 ((IntKind.wrap .i64 ((s.rows.length : Int) + (s.cols.length : Int))) + (s.sets.length : Int)) = (s.rows.length : Int) + s.cols.length + s.sets.length := by
        rw [wrap_ok (n := (s.rows.length : Int) + (s.cols.length : Int)) (by omega) (by omega), wrap_ok (by omega) (by omega)]
      have w2 : IntKind.wrap .i64 ((s.rows.length : Int) + s.cols.length + s.sets.length + (s.where_.length : Int)) = (s.rows.length : Int) + s.cols.length + s.sets.length + s.where_.length := wrap_ok (by omega) (by omega)
      have l0 : ∀ {α : Type} (l : List α), ((l.length : Int) = 0) = (l = []) := fun l => by simp
      have n0 : ∀ {α : Type} (l : List α), l ≠ [] → 0 < (l.length : Int) := fun l h => by cases l with | nil => exact absurd rfl h | cons x l => simp only [List.length_cons]; omega
      have dn : ∀ {α : Type} (l : List α), (decide ((l.length : Int) = 0)) = l.isEmpty := fun l => by cases l <;> simp; omega
      have big : s.rows ≠ [] ∨ s.cols ≠ [] ∨ s.sets ≠ [] → ¬ ((s.rows.length : Int) + s.cols.length + s.sets.length = 0) := fun h => by
        rcases h with h | h | h <;> have := n0 _ h <;> omega
      have big2 : s.rows ≠ [] ∨ s.cols ≠ [] ∨ s.sets ≠ [] ∨ s.where_ ≠ [] → ¬ ((s.rows.length : Int) + s.cols.length + s.sets.length + s.where_.length = 0) := fun h => by
        rcases h with h | h | h | h <;> have := n0 _ h <;> omega
      have sm : ∀ u v : Int, u ≤ 24 → v ≤ 200 → iIsSmall u v = some true := fun u v h1 h2 => by simp [iIsSmall, h1, h2]
      by_cases k1 : s.kind = 1
      · refine ⟨(rb && decide ((exprsOf s.query).foldl (fun b y => mx b (dd y)) 0 ≤ 24) && decide (((exprsOf s.query).map ds).sum ≤ 200)) && decide (s.table = []) && (s.rows.isEmpty && s.cols.isEmpty && s.sets.isEmpty && s.where_.isEmpty), ?_, fun u v => ?_⟩
        · rw [sL8Shape]
          simp only [z1, nameB_s, qok, w1, w2, k1, decide_true, if_true, Option.bind_eq_bind, Option.bind_some]
          by_cases ha : s.rows = [] ∧ s.cols = [] ∧ s.sets = [] ∧ s.where_ = []
          · obtain ⟨r0, c0, s0, w0⟩ := ha
            simp [r0, c0, s0, w0]
            try cases rb <;> simp
          · have hne := big2 (by
              by_cases r0 : s.rows = []
              · by_cases c0 : s.cols = []
                · by_cases s0 : s.sets = []
                  · exact .inr (.inr (.inr fun w0 => ha ⟨r0, c0, s0, w0⟩))
                  · exact .inr (.inr (.inl s0))
                · exact .inr (.inl c0)
              · exact .inl r0)
            have hem : (s.rows.isEmpty && s.cols.isEmpty && s.sets.isEmpty && s.where_.isEmpty) = false := by
              rw [Bool.eq_false_iff]
              intro h
              simp only [Bool.and_eq_true, List.isEmpty_iff] at h
              exact ha ⟨h.1.1.1, h.1.1.2, h.1.2, h.2⟩
            simp [hne, hem]
        · rw [iStmtOk]
          simp only [D2, S2, sm _ _ u v, k1, decide_true, if_true, dn, Option.bind_eq_bind, Option.bind_some, Bool.not_true, Bool.false_eq_true, if_false, g1, g2]
          by_cases r0 : s.rows = []
          case neg => simp [r0]
          by_cases c0 : s.cols = []
          case neg => simp [r0, c0]
          by_cases s0 : s.sets = []
          case neg => simp [r0, c0, s0]
          by_cases w0 : s.where_ = []
          case neg => simp [r0, c0, s0, w0]
          have e0 : stmtExprs s = exprsOf s.query := by rw [hE, r0, s0, w0]; simp
          rw [e0] at u v
          by_cases t0 : s.table = []
          · cases rb <;> simp [r0, c0, s0, w0, u, v, t0]
          · simp [r0, c0, s0, w0, t0]
      -- the three that change the data
      have pre : ∀ (rest : Option Bool) (sh : Bool), (b0 = true → nameB s.table = true → (stmtExprs s).all d = true → rest = some sh) → (¬ (b0 = true ∧ nameB s.table = true ∧ (stmtExprs s).all d = true) → sh = false) →
          ((iSameQuery s.query (GQuery.mk false [] [] [] [] 0)) >>= fun (y10 : Bool) => (if (true && ((!y10) == false)) = true then iNameOk s.table else some default) >>= fun (y11 : Bool) => (some (if (!y10) = true then true else (!y11))) >>= fun (y12 : Bool) => (if (true && (y12 == false)) = true then iStmt_exprs s else some (default : (List GExpr))) >>= fun (y13 : (List GExpr)) => (if (true && (y12 == false)) = true then iAreFormed y13 else some default) >>= fun (y14 : Bool) => (some (if y12 = true then true else (!y14))) >>= fun (y15 : Bool) => if y15 = true then (some false) else rest) = some sh := by
        intro rest sh h1 h2
        simp only [z2, nameOk_fn, nameB_s, Option.bind_eq_bind, Option.bind_some]
        by_cases hb0 : b0 = true
        case neg => simp [hb0, h2 fun h => hb0 h.1]
        by_cases hnb : nameB s.table = true
        case neg => simp [hb0, hnb, h2 fun h => hnb h.2.1]
        by_cases hal : (stmtExprs s).all d = true
        case neg => simp only [Bool.not_eq_true] at hal; rw [hal] at hall; simp [hb0, hnb, hEX, hall, h2 fun h => by simp [hal] at h]
        rw [hal] at hall
        simp [hb0, hnb, hEX, hall, h1 hb0 hnb hal]
      have pos0 : ∀ {α : Type} (l : List α), decide ((l.length : Int) = 0) = decide (l = []) := fun l => by cases l <;> simp; omega
      have rw0 : s.rows.all (fun r => rowP r && r.all f) = (s.rows.all rowP && (s.rows.flatMap id).all f) := by rw [all_and, all_flat]
      have part : (stmtExprs s).foldl (fun b y => mx b (dd y)) 0 ≤ 24 → ((stmtExprs s).map ds).sum ≤ 200 → b0 = true → (stmtExprs s).all d = ((s.rows.flatMap id).all f && s.sets.all f && s.where_.all f) := fun u v h => by
        rw [← hfd u v (stmtExprs s) fun y hy => hy, hb h, List.all_append, List.all_append]
      by_cases k2 : s.kind = 2
      · refine ⟨_, by rw [sL8Shape]; simp only [z1, nameB_s, k2, Option.bind_eq_bind, Option.bind_some]; exact K0, fun u v => ?_⟩
        rw [iStmtOk]
        simp only [D2, S2, sm _ _ u v, k2, Option.bind_eq_bind, Option.bind_some, Bool.not_true, Bool.false_eq_true, if_false]
        refine Eq.trans (if_neg (by simp)) (pre _ _ (fun h1 h2 h3 => ?_) fun h => ?_)
        · rw [if_pos (by simp)]
          simp only [rows_contains s.rows (by omega), pos0, Option.bind_eq_bind, Option.bind_some]
          rw [part u v h1] at h3
          simp only [Bool.and_eq_true] at h3
          rw [rw0, h3.1.1, h1, h2]
          generalize s.rows.all rowP = a1
          generalize decide (1 ≤ (s.rows.length : Int)) = a2
          generalize decide ((s.rows.length : Int) ≤ 5) = a3
          generalize decide (s.cols = []) = a4
          generalize decide (s.sets = []) = a5
          generalize decide (s.where_ = []) = a6
          cases a1 <;> cases a2 <;> cases a3 <;> cases a4 <;> cases a5 <;> cases a6 <;> rfl
        · rw [rw0]
          by_cases h1 : b0 = true
          case neg => simp [h1]
          by_cases h2 : nameB s.table = true
          case neg => simp [h2]
          have h3 : ¬ (stmtExprs s).all d = true := fun e => h ⟨h1, h2, e⟩
          rw [part u v h1] at h3
          by_cases s0 : s.sets = []
          case neg => simp [s0]
          by_cases w0 : s.where_ = []
          case neg => simp [w0]
          rw [s0, w0] at h3
          simp only [List.all_nil, Bool.and_true, Bool.not_eq_true] at h3
          rw [h3]; simp
      by_cases k3 : s.kind = 3
      · refine ⟨_, by rw [sL8Shape]; simp only [z1, nameB_s, k3, Option.bind_eq_bind, Option.bind_some]; exact K1, fun u v => ?_⟩
        rw [iStmtOk]
        simp only [D2, S2, sm _ _ u v, k3, Option.bind_eq_bind, Option.bind_some, Bool.not_true, Bool.false_eq_true, if_false]
        refine Eq.trans (if_neg (by simp)) (pre _ _ (fun h1 h2 h3 => ?_) fun h => ?_)
        · rw [if_neg (by simp), if_pos (by simp)]
          simp only [cols_contains s.cols hlens.1, Option.bind_eq_bind, Option.bind_some]
          rw [part u v h1] at h3
          simp only [Bool.and_eq_true] at h3
          rw [h3.1.2, h3.2, h1, h2]
          generalize s.cols.all nameB = a1
          generalize decide ((s.rows.length : Int) = 0) = a2
          generalize decide (1 ≤ (s.cols.length : Int)) = a3
          generalize decide ((s.cols.length : Int) ≤ 12) = a4
          generalize decide ((s.sets.length : Int) = (s.cols.length : Int)) = a5
          generalize decide ((s.where_.length : Int) ≤ 1) = a6
          cases a1 <;> cases a2 <;> cases a3 <;> cases a4 <;> cases a5 <;> cases a6 <;> rfl
        · by_cases h1 : b0 = true
          case neg => simp [h1]
          by_cases h2 : nameB s.table = true
          case neg => simp [h2]
          have h3 : ¬ (stmtExprs s).all d = true := fun e => h ⟨h1, h2, e⟩
          rw [part u v h1] at h3
          by_cases r0 : s.rows = []
          case neg =>
            have : ¬ (s.rows.length : Int) = 0 := by have := n0 _ r0; omega
            simp [this]
            try simp [r0]
          rw [r0] at h3
          simp only [List.flatMap_nil, List.all_nil, Bool.true_and, Bool.not_eq_true] at h3
          rw [h1, h2, Bool.and_assoc, h3]; simp
      by_cases k4 : s.kind = 4
      · refine ⟨b0 && nameB s.table && (decide (s.rows = []) && decide (s.cols = []) && decide (s.sets = [])) && decide ((s.where_.length : Int) ≤ 1) && s.where_.all f, ?_, fun u v => ?_⟩
        · rw [sL8Shape]
          simp only [z1, nameB_s, k4, w1, Option.bind_eq_bind, Option.bind_some]
          rw [if_neg (by simp), if_neg (by simp), if_neg (by simp), if_pos (by simp), KW]
          have hs0 : decide ((s.rows.length : Int) + (s.cols.length : Int) + (s.sets.length : Int) = 0) = (decide (s.rows = []) && decide (s.cols = []) && decide (s.sets = [])) := by
            have l1 : ∀ {α : Type} (l : List α), (l = []) ↔ l.length = 0 := fun l => List.length_eq_zero_iff.symm
            rw [Bool.eq_iff_iff]
            simp only [Bool.and_eq_true, decide_eq_true_eq, l1]
            omega
          rw [hs0]
          generalize s.where_.all f = a1
          generalize nameB s.table = a2
          generalize decide (s.rows = []) = a3
          generalize decide (s.cols = []) = a4
          generalize decide (s.sets = []) = a5
          generalize decide ((s.where_.length : Int) ≤ 1) = a6
          clear z3 hb part pre K0 K1 z1 z2
          cases b0 <;> cases a1 <;> cases a2 <;> cases a3 <;> cases a4 <;> cases a5 <;> cases a6 <;> rfl
        · rw [iStmtOk]
          simp only [D2, S2, sm _ _ u v, k4, Option.bind_eq_bind, Option.bind_some, Bool.not_true, Bool.false_eq_true, if_false]
          refine Eq.trans (if_neg (by simp)) (pre _ _ (fun h1 h2 h3 => ?_) fun h => ?_)
          · rw [if_neg (by simp), if_neg (by simp), if_pos (by simp)]
            simp only [pos0, Option.bind_eq_bind, Option.bind_some]
            rw [part u v h1] at h3
            simp only [Bool.and_eq_true] at h3
            rw [h3.2, h1, h2]
            generalize decide (s.rows = []) = a3
            generalize decide (s.cols = []) = a4
            generalize decide (s.sets = []) = a5
            generalize decide ((s.where_.length : Int) ≤ 1) = a6
            cases a3 <;> cases a4 <;> cases a5 <;> cases a6 <;> rfl
          · by_cases h1 : b0 = true
            case neg => simp [h1]
            by_cases h2 : nameB s.table = true
            case neg => simp [h2]
            have h3 : ¬ (stmtExprs s).all d = true := fun e => h ⟨h1, h2, e⟩
            rw [part u v h1] at h3
            by_cases r0 : s.rows = []
            case neg => simp [r0]
            by_cases s0 : s.sets = []
            case neg => simp [s0]
            rw [r0, s0] at h3
            simp only [List.flatMap_nil, List.all_nil, Bool.true_and, Bool.not_eq_true] at h3
            rw [h3]; simp
      refine ⟨false, ?_, fun u v => ?_⟩
      · rw [sL8Shape]
        simp only [z1, nameB_s, k1, k2, k3, k4, decide_false, Bool.false_eq_true, if_false, Option.bind_eq_bind, Option.bind_some]
      · rw [iStmtOk]
        simp only [D2, S2, sm _ _ u v, k1, k2, k3, k4, decide_false, Option.bind_eq_bind, Option.bind_some, Bool.not_true, Bool.false_eq_true, if_false]
        exact pre _ _ (fun _ _ _ => rfl) fun _ => rfl
    obtain ⟨sh, k1, k2⟩ := key
    refine ⟨sh && (decide ((stmtExprs s).foldl (fun b y => mx b (dd y)) 0 ≤ 24) && decide (((stmtExprs s).map ds).sum ≤ 200)), ?_, ?_⟩
    · rw [sStmtOk]
      simp only [k1, Option.bind_eq_bind, Option.bind_some]
      cases sh
      · simp
      · by_cases u : (stmtExprs s).foldl (fun b y => mx b (dd y)) 0 ≤ 24 <;> by_cases v : ((stmtExprs s).map ds).sum ≤ 200 <;> simp [D1, S1, u, v]
    · by_cases u : (stmtExprs s).foldl (fun b y => mx b (dd y)) 0 ≤ 24
      · by_cases v : ((stmtExprs s).map ds).sum ≤ 200
        · rw [k2 u v]; simp [u, v]
        · rw [iStmtOk]; simp [D2, S2, iIsSmall, u, v]
      · rw [iStmtOk]; simp [D2, S2, iIsSmall, u]
  obtain ⟨c, e1, e2⟩ := e
  rw [if_pos hz, if_neg (by simp; omega), toGStmt_ok s (by omega)]
  simp [e1, e2, toGStmt_ok s (by omega), eqGStmt_ok s (by omega)]
end Go.Ab
