/- What the functions compute, in plain Lean. -/
import Derived.Test.YtlohdmekmmjjlaaFExactDbOk
namespace Go.Ab
open Go
/-! base -/

theorem wrap_ok {n : Int} (h1 : -9223372036854775808 ≤ n) (h2 : n ≤ 9223372036854775807) : IntKind.wrap .i64 n = n := by rw [IntKind.wrap_i64]; omega
/-- the next round of a loop over a list -/
theorem wrap_next {i n : Nat} (h : i < n) (hn : n ≤ 4611686018427387904) : IntKind.wrap .i64 ((i : Int) + 1) = ((i + 1 : Nat) : Int) := by rw [wrap_ok] <;> omega
theorem lt_dec (i n : Nat) : decide ((i : Int) < (n : Int)) = decide (i < n) := by simp
theorem idx_nat {α : Type} (l : List α) (i : Nat) : idx l (i : Int) = l[i]? := by simp [idx]
theorem idx_lt {α : Type} {l : List α} {i : Nat} (h : i < l.length) : idx l (i : Int) = some l[i] := by rw [idx_nat]; simp [h]
/-- from the last round backwards -/
theorem back_ind {M : Nat → Prop} {n : Nat} (h0 : M n) (h : ∀ i, i < n → M (i + 1) → M i) : ∀ i, i ≤ n → M i := by
  have : ∀ k i, i + k = n → M i := by
    intro k
    induction k with
    | zero => intro i hi; have : i = n := by omega
              subst this; exact h0
    | succ k ih => intro i hi; exact h i (by omega) (ih (i + 1) (by omega))
  exact fun i hi => this (n - i) i (by omega)
/-- A loop that copies a list element by element into a made one. -/
theorem copy_all {α : Type} {p : List α} {F : Int → List α → Option (List α)} (hn : p.length ≤ 4611686018427387904)
    (hF : ∀ (i : Nat) b, b.length = p.length → F i b = if i < p.length then (idx p i >>= fun v => setG b i v >>= fun c => F (IntKind.wrap .i64 ((i : Int) + 1)) c) else some b) :
    ∀ b, b.length = p.length → F 0 b = some p := by
  have key : ∀ i, i ≤ p.length → ∀ b, b.length = p.length → b.take i = p.take i → F (i : Nat) b = some p := by
    refine back_ind ?_ ?_
    · intro b hb ht
      rw [hF _ _ hb, if_neg (by omega)]
      rw [← hb, List.take_length] at ht
      rw [ht, hb, List.take_length]
    · intro i hi ih b hb ht
      rw [hF _ _ hb, if_pos hi, idx_lt hi]
      have hs : setG b i p[i] = some (b.set i p[i]) := by
        unfold setG; rw [if_pos ⟨by omega, by simp; omega⟩]; simp
      simp only [Option.bind_eq_bind, Option.bind_some, hs, wrap_next hi hn]
      refine ih _ (by simp [hb]) ?_
      rw [List.take_add_one, List.take_add_one]
      have e1 : (b.set i p[i]).take i = b.take i := by rw [List.take_set_of_le (Nat.le_refl _)]
      rw [e1, ht]
      simp [hb, hi]
  intro b hb
  exact key 0 (by omega) b hb (by simp)
theorem mkG_ok {α : Type} {by' : Nat} {n : Nat} {z : α} (h : (n : Int) * by' ≤ 140737488355328) : mkG by' (n : Int) z = some (List.replicate n z) := by
  unfold mkG; rw [if_pos ⟨by omega, h⟩]; simp

/-! loopP -/
/-- A loop that ends with false at the first element that is not good. -/
theorem loopP {n : Nat} {L : Int → Option Bool} {good : Nat → Prop} {KP : Prop}
    (hstep : ∀ i, i < n → (good i → L (i : Nat) = L ((i + 1 : Nat) : Int)) ∧ (¬ good i → L (i : Nat) = some false))
    (hend : ∃ b, L (n : Nat) = some b ∧ (b = true ↔ KP)) : ∃ b, L 0 = some b ∧ (b = true ↔ (∀ i, i < n → good i) ∧ KP) := by
  have key : ∀ i, i ≤ n → ∃ b, L (i : Nat) = some b ∧ (b = true ↔ (∀ k, i ≤ k → k < n → good k) ∧ KP) := by
    refine back_ind ?_ ?_
    · obtain ⟨b, h1, h2⟩ := hend
      exact ⟨b, h1, h2.trans ⟨fun h => ⟨fun k h1 h2 => by omega, h⟩, fun h => h.2⟩⟩
    · intro i hi ih
      obtain ⟨b, h1, h2⟩ := ih
      obtain ⟨s1, s2⟩ := hstep i hi
      by_cases hg : good i
      · refine ⟨b, (s1 hg).trans h1, h2.trans ⟨fun h => ⟨fun k k1 k2 => ?_, h.2⟩, fun h => ⟨fun k k1 k2 => h.1 k (by omega) k2, h.2⟩⟩⟩
        by_cases e : k = i
        · subst e; exact hg
        · exact h.1 k (by omega) k2
      · refine ⟨false, s2 hg, ?_⟩
        simp only [Bool.false_eq_true, false_iff, not_and]
        intro h
        exact absurd (h i (by omega) hi) hg
  obtain ⟨b, h1, h2⟩ := key 0 (by omega)
  exact ⟨b, h1, h2.trans ⟨fun h => ⟨fun k hk => h.1 k (by omega) hk, h.2⟩, fun h => ⟨fun k _ hk => h.1 k hk, h.2⟩⟩⟩
theorem iff_eq {a b : Bool} {P Q : Prop} (h1 : a = true ↔ P) (h2 : b = true ↔ Q) (h : P ↔ Q) : a = b := by
  rw [Bool.eq_iff_iff]; exact h1.trans (h.trans h2.symm)
/-- two loops that do the same -/
theorem loop_same {γ : Type} {n : Nat} {L M : Int → Option γ} (hstep : ∀ i, i < n → L ((i + 1 : Nat) : Int) = M ((i + 1 : Nat) : Int) → (∃ r, L ((i + 1 : Nat) : Int) = some r) → L (i : Nat) = M (i : Nat) ∧ ∃ r, L (i : Nat) = some r)
    (hend : L (n : Nat) = M (n : Nat) ∧ ∃ r, L (n : Nat) = some r) : L 0 = M 0 ∧ ∃ r, L 0 = some r := by
  have key : ∀ i, i ≤ n → L (i : Nat) = M (i : Nat) ∧ ∃ r, L (i : Nat) = some r :=
    back_ind hend fun i hi ih => hstep i hi ih.1 ih.2
  exact key 0 (by omega)

/-! catalog -/
theorem nameOk_iff (s : List UInt8) : iNameOk s = sNameOk s ∧ ∃ b, sNameOk s = some b ∧ (b = true ↔ 1 ≤ s.length ∧ s.length ≤ 20) := by
  unfold iNameOk sNameOk sL1In
  simp only [Option.bind_eq_bind, Option.bind_some]
  refine ⟨by simp, _, rfl, ?_⟩
  by_cases h1 : (1 : Int) ≤ (s.length : Int)
  · simp [h1]; omega
  · simp [h1]; omega
theorem colAt_eq (t : GTable) (s : List UInt8) (hl : t.cols.length ≤ 1048576) : iColAt t s = sColAt t s ∧ ∃ r, sColAt t s = some r := by
  have := loop_same (n := t.cols.length) (L := fun i => gSlices_IndexFunc_impl_Col_impl_Col_x0_L0 t.cols s i) (M := fun i => sColAt_L0 s t i) ?_ ?_
  · unfold iColAt gSlices_IndexFunc_impl_Col_impl_Col_x0 sColAt
    obtain ⟨h1, r, h2⟩ := this
    try simp only at h1 h2
    rw [← h1, h2]
    exact ⟨rfl, r, rfl⟩
  · intro i hi h1 h2
    try dsimp only at h1 h2 ⊢
    rw [gSlices_IndexFunc_impl_Col_impl_Col_x0_L0, sColAt_L0]
    simp only [lt_dec, idx_lt hi, wrap_next hi (by omega), hi, decide_true, if_true, iColAt_1_x0, Option.bind_eq_bind, Option.bind_some]
    by_cases hc : t.cols[i].name = s
    · simp [hc]
    · simp only [hc, decide_false, Bool.false_eq_true, if_false]
      exact ⟨h1, h2⟩
  · try dsimp only
    rw [gSlices_IndexFunc_impl_Col_impl_Col_x0_L0, sColAt_L0]
    simp
theorem tableAt_eq (c : GCatalog) (s : List UInt8) (hl : c.tables.length ≤ 1048576) : iTableAt c s = sTableAt c s ∧ ∃ r, sTableAt c s = some r := by
  have := loop_same (n := c.tables.length) (L := fun i => gSlices_IndexFunc_impl_Table_impl_Table_x0_L0 c.tables s i) (M := fun i => sTableAt_L0 s c i) ?_ ?_
  · unfold iTableAt gSlices_IndexFunc_impl_Table_impl_Table_x0 sTableAt
    obtain ⟨h1, r, h2⟩ := this
    try simp only at h1 h2
    rw [← h1, h2]
    exact ⟨rfl, r, rfl⟩
  · intro i hi h1 h2
    try dsimp only at h1 h2 ⊢
    rw [gSlices_IndexFunc_impl_Table_impl_Table_x0_L0, sTableAt_L0]
    simp only [lt_dec, idx_lt hi, wrap_next hi (by omega), hi, decide_true, if_true, iTableAt_1_x0, Option.bind_eq_bind, Option.bind_some]
    by_cases hc : c.tables[i].name = s
    · simp [hc]
    · simp only [hc, decide_false, Bool.false_eq_true, if_false]
      exact ⟨h1, h2⟩
  · try dsimp only
    rw [gSlices_IndexFunc_impl_Table_impl_Table_x0_L0, sTableAt_L0]
    simp
/-- a column that is right -/
def colP (t : GTable) (j : Nat) : Prop := ∃ c, t.cols[j]? = some c ∧ (1 ≤ c.name.length ∧ c.name.length ≤ 20) ∧ (1 ≤ c.type ∧ c.type ≤ 3) ∧ sColAt t c.name = some (j : Int)
def tableP (t : GTable) : Prop := (∀ j, j < t.cols.length → colP t j) ∧ ((1 ≤ t.name.length ∧ t.name.length ≤ 20) ∧ 1 ≤ t.cols.length ∧ t.cols.length ≤ 4)
theorem isTable_iff (t : GTable) (hl : t.cols.length ≤ 1048576) : ∃ b, iIsTable t = some b ∧ (b = true ↔ tableP t) := by
  unfold iIsTable tableP
  refine loopP (n := t.cols.length) (L := fun i => iIsTable_L0 t i) (good := colP t) ?_ ?_
  · intro i hi
    try dsimp only
    rw [iIsTable_L0]
    obtain ⟨n1, b, n2, n3⟩ := nameOk_iff t.cols[i].name
    obtain ⟨c1, k, c2⟩ := colAt_eq t t.cols[i].name hl
    simp only [lt_dec, idx_lt hi, wrap_next hi (by omega), hi, decide_true, if_true, n1, n2, c1, c2, Option.bind_eq_bind, Option.bind_some]
    have hP : colP t i ↔ (1 ≤ t.cols[i].name.length ∧ t.cols[i].name.length ≤ 20) ∧ (1 ≤ t.cols[i].type ∧ t.cols[i].type ≤ 3) ∧ k = (i : Int) := by
      unfold colP
      constructor
      · rintro ⟨c, h1, h2, h3, h4⟩
        rw [List.getElem?_eq_getElem hi] at h1
        simp only [Option.some.injEq] at h1; subst h1
        rw [c2] at h4
        exact ⟨h2, h3, by simpa using h4⟩
      · rintro ⟨h2, h3, h4⟩
        exact ⟨_, List.getElem?_eq_getElem hi, h2, h3, by rw [c2, h4]⟩
    rw [hP, ← n3]
    cases b with
    | false => simp
    | true =>
      by_cases t1 : t.cols[i].type < 1
      · simp [t1] <;> omega
      by_cases t3 : 3 < t.cols[i].type
      · simp [t1, t3] <;> omega
      by_cases hk : k = (i : Int)
      · simp [t1, t3, hk] <;> omega
      · simp [t1, t3, hk]
  · try dsimp only
    rw [iIsTable_L0]
    obtain ⟨n1, b, n2, n3⟩ := nameOk_iff t.name
    simp only [lt_dec, Nat.lt_irrefl, decide_false, Bool.false_eq_true, if_false, n1, n2, Option.bind_eq_bind, Option.bind_some]
    refine ⟨_, rfl, ?_⟩
    rw [← n3]
    cases b with
    | false => simp
    | true =>
      by_cases l1 : (1 : Int) ≤ (t.cols.length : Int)
      · simp [l1] <;> omega
      · simp [l1] <;> omega
def catP (c : GCatalog) : Prop := (∀ i, i < c.tables.length → ∃ t, c.tables[i]? = some t ∧ tableP t ∧ sTableAt c t.name = some (i : Int)) ∧ c.tables.length ≤ 4
/-- what the size of a catalog bounds -/
def catSmall (c : GCatalog) : Prop := c.tables.length ≤ 1048576 ∧ ∀ t ∈ c.tables, t.cols.length ≤ 1048576
theorem iCatalogOk_iff (c : GCatalog) (hs : catSmall c) : ∃ b, iCatalogOk c = some b ∧ (b = true ↔ catP c) := by
  unfold iCatalogOk catP
  refine loopP (n := c.tables.length) (L := fun i => iCatalogOk_L0 c i) (good := fun i => ∃ t, c.tables[i]? = some t ∧ tableP t ∧ sTableAt c t.name = some (i : Int)) ?_ ?_
  · intro i hi
    try dsimp only
    rw [iCatalogOk_L0]
    obtain ⟨b, n2, n3⟩ := isTable_iff c.tables[i] (hs.2 _ (List.getElem_mem hi))
    obtain ⟨c1, k, c2⟩ := tableAt_eq c c.tables[i].name hs.1
    have := hs.1
    simp only [lt_dec, idx_lt hi, wrap_next hi (by omega), hi, decide_true, if_true, n2, c1, c2, Option.bind_eq_bind, Option.bind_some]
    have hP : (∃ t, c.tables[i]? = some t ∧ tableP t ∧ sTableAt c t.name = some (i : Int)) ↔ tableP c.tables[i] ∧ k = (i : Int) := by
      constructor
      · rintro ⟨t, h1, h2, h3⟩
        rw [List.getElem?_eq_getElem hi] at h1
        simp only [Option.some.injEq] at h1; subst h1
        rw [c2] at h3
        exact ⟨h2, by simpa using h3⟩
      · rintro ⟨h2, h3⟩
        exact ⟨_, List.getElem?_eq_getElem hi, h2, by rw [c2, h3]⟩
    rw [hP, ← n3]
    cases b with
    | false => simp
    | true =>
      by_cases hk : k = (i : Int)
      · simp [hk]
      · simp [hk]
  · try dsimp only
    rw [iCatalogOk_L0]
    refine ⟨decide ((c.tables.length : Int) ≤ 4), by simp, ?_⟩
    simp only [decide_eq_true_eq]; omega
theorem sCatalogOk_iff (c : GCatalog) (hs : catSmall c) : ∃ b, sCatalogOk c = some b ∧ (b = true ↔ catP c) := by
  unfold sCatalogOk
  by_cases h4 : (4 : Int) < (c.tables.length : Int)
  · rw [if_pos (by simpa using h4)]
    refine ⟨false, rfl, ?_⟩
    unfold catP
    simp only [Bool.false_eq_true, false_iff, not_and]
    intro _; omega
  rw [if_neg (by simpa using h4)]
  have := loopP (n := c.tables.length) (L := fun i => sCatalogOk_L0 c i) (good := fun i => ∃ t, c.tables[i]? = some t ∧ tableP t ∧ sTableAt c t.name = some (i : Int)) (KP := True) ?_ ?_
  · obtain ⟨b, h1, h2⟩ := this
    exact ⟨b, h1, h2.trans ⟨fun h => ⟨h.1, by omega⟩, fun h => ⟨h.1, trivial⟩⟩⟩
  · intro i hi
    try dsimp only
    rw [sCatalogOk_L0]
    obtain ⟨n1, b, n2, n3⟩ := nameOk_iff c.tables[i].name
    obtain ⟨c1, k, c2⟩ := tableAt_eq c c.tables[i].name hs.1
    have := hs.1
    have hcl := hs.2 _ (List.getElem_mem hi)
    have inner : ∀ (j : Nat), j ≤ c.tables[i].cols.length → ((∀ m, j ≤ m → m < c.tables[i].cols.length → colP c.tables[i] m) → sCatalogOk_L1 (i : Int) c c.tables[i] (j : Nat) = sCatalogOk_L0 c ((i + 1 : Nat) : Int)) ∧ (¬ (∀ m, j ≤ m → m < c.tables[i].cols.length → colP c.tables[i] m) → sCatalogOk_L1 (i : Int) c c.tables[i] (j : Nat) = some false) := by
      refine back_ind ?_ ?_
      · rw [sCatalogOk_L1]
        simp only [lt_dec, Nat.lt_irrefl, decide_false, Bool.false_eq_true, if_false, wrap_next hi (by omega)]
        refine ⟨fun _ => trivial, fun h => absurd (fun m h1 h2 => by omega) h⟩
      · intro j hj ih
        rw [sCatalogOk_L1]
        obtain ⟨_, b', m2, m3⟩ := nameOk_iff c.tables[i].cols[j].name
        obtain ⟨_, k', d2⟩ := colAt_eq c.tables[i] c.tables[i].cols[j].name hcl
        simp only [lt_dec, idx_lt hj, wrap_next hj (by omega), hj, decide_true, if_true, m2, d2, sL1In, Option.bind_eq_bind, Option.bind_some]
        have hP : colP c.tables[i] j ↔ b' = true ∧ (1 ≤ c.tables[i].cols[j].type ∧ c.tables[i].cols[j].type ≤ 3) ∧ k' = (j : Int) := by
          unfold colP
          constructor
          · rintro ⟨c', h1, h2, h3, h4⟩
            rw [List.getElem?_eq_getElem hj] at h1
            simp only [Option.some.injEq] at h1; subst h1
            rw [d2] at h4
            exact ⟨m3.2 h2, h3, by simpa using h4⟩
          · rintro ⟨h2, h3, h4⟩
            exact ⟨_, List.getElem?_eq_getElem hj, m3.1 h2, h3, by rw [d2, h4]⟩
        have hall : (∀ m, j ≤ m → m < c.tables[i].cols.length → colP c.tables[i] m) ↔ colP c.tables[i] j ∧ ∀ m, j + 1 ≤ m → m < c.tables[i].cols.length → colP c.tables[i] m := by
          constructor
          · intro h; exact ⟨h j (by omega) hj, fun m h1 h2 => h m (by omega) h2⟩
          · rintro ⟨h1, h2⟩ m h3 h4
            by_cases e : m = j
            · subst e; exact h1
            · exact h2 m (by omega) h4
        rw [hall, hP]
        cases b' with
        | false => simp
        | true =>
          by_cases hk : k' = (j : Int)
          · by_cases t1 : 1 ≤ c.tables[i].cols[j].type
            · by_cases t3 : c.tables[i].cols[j].type ≤ 3
              · have t3' : ¬ 3 < c.tables[i].cols[j].type := by omega
                simpa [hk, t1, t3, t3', d2] using ih
              · simp [hk, t1, t3, d2]
            · simp [hk, t1, d2]
          · simp [hk, d2]
    obtain ⟨i1, i2⟩ := inner 0 (by omega)
    rw [show ((0 : Nat) : Int) = 0 from rfl] at i1 i2
    simp only [lt_dec, idx_lt hi, wrap_next hi (by omega), hi, decide_true, if_true, n2, c2, sL1In, Option.bind_eq_bind, Option.bind_some]
    have hP : (∃ t, c.tables[i]? = some t ∧ tableP t ∧ sTableAt c t.name = some (i : Int)) ↔ tableP c.tables[i] ∧ k = (i : Int) := by
      constructor
      · rintro ⟨t, h1, h2, h3⟩
        rw [List.getElem?_eq_getElem hi] at h1
        simp only [Option.some.injEq] at h1; subst h1
        rw [c2] at h3
        exact ⟨h2, by simpa using h3⟩
      · rintro ⟨h2, h3⟩
        exact ⟨_, List.getElem?_eq_getElem hi, h2, by rw [c2, h3]⟩
    rw [hP]
    unfold tableP
    rw [← n3]
    cases b with
    | false => simp
    | true =>
      by_cases hk : k = (i : Int)
      · by_cases l1 : (1 : Int) ≤ (c.tables[i].cols.length : Int)
        · by_cases l4 : (c.tables[i].cols.length : Int) ≤ 4
          · have l1' : 1 ≤ c.tables[i].cols.length := by omega
            have l4' : c.tables[i].cols.length ≤ 4 := by omega
            simp only [hk, l1, l4, l1', l4']
            simp only [Nat.zero_le, true_implies] at i1 i2
            simpa using And.intro i1 (fun (x : Nat) (hx : x < c.tables[i].cols.length) (hn : ¬ colP c.tables[i] x) => i2 fun h => hn (h x hx))
          · have l4' : ¬ c.tables[i].cols.length ≤ 4 := by omega
            simp [hk, l1, l4, l4']
        · have l1' : ¬ 1 ≤ c.tables[i].cols.length := by omega
          simp [hk, l1, l1']
      · simp [hk]
  · try dsimp only
    rw [sCatalogOk_L0]
    exact ⟨true, by simp, by simp⟩

/-! trees0 -/
/-- how much a list holds -/
def zL {α : Type} (z : α → Nat) (l : List α) : Nat := l.length + (l.map z).sum
def z0 {α : Type} (_ : α) : Nat := 0
/-- the size of a value, taken off what is left -/
def SzOk {α : Type} (F : α → Int → Option Int) (z : α → Nat) (x : α) : Prop := ∀ n : Int, 0 ≤ n → n ≤ 1048576 → F x n = some (if (z x : Int) ≤ n then n - (z x : Int) else -1)
theorem sum_map_cons {α : Type} (z : α → Nat) (x : α) (l : List α) : ((x :: l).map z).sum = z x + (l.map z).sum := by simp
theorem szLoop_ok {α : Type} {p : List α} {F : α → Int → Option Int} {z : α → Nat} {L : Int → Int → Option Int} (hp : p.length ≤ 1048576)
    (hL : ∀ (i : Nat) (x : Int), L x (i : Int) = if (decide ((i : Int) < (p.length : Int))) = true then ((idx p (i : Int)) >>= fun y => (F y x) >>= fun r => if (decide (r < 0)) = true then (some (-1)) else L r (IntKind.wrap .i64 ((i : Int) + 1))) else some x)
    (H : ∀ y ∈ p, SzOk F z y) : ∀ n : Int, 0 ≤ n → n ≤ 1048576 → L n 0 = some (if ((p.map z).sum : Int) ≤ n then n - ((p.map z).sum : Int) else -1) := by
  have key : ∀ i, i ≤ p.length → ∀ n : Int, 0 ≤ n → n ≤ 1048576 → L n (i : Nat) = some (if (((p.drop i).map z).sum : Int) ≤ n then n - (((p.drop i).map z).sum : Int) else -1) := by
    refine back_ind ?_ ?_
    · intro n h0 h1
      rw [hL]; simp [h0]
    · intro i hi ih n h0 h1
      rw [hL, idx_lt hi, wrap_next hi (by omega)]
      rw [List.drop_eq_getElem_cons hi, sum_map_cons]
      simp only [Option.bind_eq_bind, Option.bind_some, lt_dec, hi, decide_true, if_true, H _ (List.getElem_mem hi) n h0 h1]
      by_cases hz : (z p[i] : Int) ≤ n
      · rw [if_pos hz, if_neg (by simp; omega), ih _ (by omega) (by omega)]
        congr 1
        by_cases hr : (((p.drop (i + 1)).map z).sum : Int) ≤ n - z p[i]
        · rw [if_pos hr, if_pos (by omega)]; omega
        · rw [if_neg hr, if_neg (by omega)]
      · rw [if_neg hz, if_pos (by decide), if_neg (by omega)]
  intro n h0 h1
  have := key 0 (by omega) n h0 h1
  simpa using this
theorem szS_ok {α : Type} {p : List α} {F : α → Int → Option Int} {z : α → Nat} {L : Int → Int → Option Int} {S : List α → Int → Option Int} (hp : p.length ≤ 9223372036854775807)
    (hS : ∀ n, S p n = if (decide ((IntKind.wrap .i64 (n - (p.length : Int))) < 0)) = true then (some (-1)) else L (IntKind.wrap .i64 (n - (p.length : Int))) 0)
    (hL : ∀ (i : Nat) (x : Int), L x (i : Int) = if (decide ((i : Int) < (p.length : Int))) = true then ((idx p (i : Int)) >>= fun y => (F y x) >>= fun r => if (decide (r < 0)) = true then (some (-1)) else L r (IntKind.wrap .i64 ((i : Int) + 1))) else some x)
    (H : ∀ y ∈ p, SzOk F z y) : SzOk S (zL z) p := by
  intro n h0 h1
  have hz : ((zL z p : Nat) : Int) = (p.length : Int) + ((p.map z).sum : Int) := by unfold zL; omega
  rw [hS, wrap_ok (by omega) (by omega), hz]
  by_cases hl : n - (p.length : Int) < 0
  · rw [if_pos (by simpa using hl), if_neg (by omega)]
  · rw [if_neg (by simpa using hl), szLoop_ok (by omega) hL H _ (by omega) (by omega)]
    congr 1
    by_cases hr : ((p.map z).sum : Int) ≤ n - p.length
    · rw [if_pos hr, if_pos (by omega)]; omega
    · rw [if_neg hr, if_neg (by omega)]
theorem szInts_ok {α : Type} {p : List α} {S : List α → Int → Option Int} (hp : p.length ≤ 9223372036854775807)
    (hS : ∀ n, S p n = if (decide ((IntKind.wrap .i64 (n - (p.length : Int))) < 0)) = true then (some (-1)) else (some (IntKind.wrap .i64 (n - (p.length : Int))))) : SzOk S (zL z0) p := by
  intro n h0 h1
  have hs : (p.map z0).sum = 0 := by
    clear hS hp
    induction p with
    | nil => rfl
    | cons x p ih => rw [sum_map_cons, ih]; rfl
  have hz : ((zL z0 p : Nat) : Int) = (p.length : Int) := by unfold zL; omega
  rw [hS, wrap_ok (by omega) (by omega), hz]
  by_cases hl : n - (p.length : Int) < 0
  · rw [if_pos (by simpa using hl), if_neg (by omega)]
  · rw [if_neg (by simpa using hl), if_pos (by omega)]
/-- the size of a string -/
def szStr (y : List UInt8) (n : Int) : Option Int := if (decide ((IntKind.wrap .i64 (n - (y.length : Int))) < 0)) = true then (some (-1)) else (some (IntKind.wrap .i64 (n - (y.length : Int))))
theorem szStr_ok (y : List UInt8) (hy : y.length ≤ 9223372036854775807) : SzOk szStr List.length y := by
  intro n h0 h1
  unfold szStr
  rw [wrap_ok (by omega) (by omega)]
  by_cases hl : n - (y.length : Int) < 0
  · rw [if_pos (by simpa using hl), if_neg (by omega)]
  · rw [if_neg (by simpa using hl), if_pos (by omega)]
theorem szStr_bind (y : List UInt8) (x : Int) (K : Int → Option Int) : (if (decide ((IntKind.wrap .i64 (x - (y.length : Int))) < 0)) = true then (some (-1)) else K (IntKind.wrap .i64 (x - (y.length : Int)))) = ((szStr y x) >>= fun r => if (decide (r < 0)) = true then (some (-1)) else K r) := by
  unfold szStr
  by_cases h : (IntKind.wrap .i64 (x - (y.length : Int))) < 0
  · rw [if_pos (by simpa using h), if_pos (by simpa using h)]; rfl
  · rw [if_neg (by simpa using h), if_neg (by simpa using h)]
    simp only [Option.bind_eq_bind, Option.bind_some]
    rw [if_neg (by simpa using h)]
/-- a copy -/
theorem toS_ok {α : Type} {p : List α} {W : α → Option α} {by' : Nat} {d : α} {L : Int → List α → Option (List α)} {S : Option (List α)} (hp : p.length ≤ 1048576) (hby : by' ≤ 134217728)
    (hS : S = (mkG by' (p.length : Int) d >>= fun y => L 0 y))
    (hL : ∀ (i : Nat) b, L (i : Int) b = if (decide ((i : Int) < (p.length : Int))) = true then ((idx p (i : Int)) >>= fun y2 => (W y2) >>= fun y3 => (idx b (i : Int)) >>= fun _ => (setG b (i : Int) y3) >>= fun y5 => L (IntKind.wrap .i64 ((i : Int) + 1)) y5) else some b)
    (H : ∀ y ∈ p, W y = some y) : S = some p := by
  have hm : (p.length : Int) * by' ≤ 140737488355328 := by
    have : (p.length : Int) * by' ≤ 1048576 * 134217728 := Int.mul_le_mul (by omega) (by omega) (by omega) (by omega)
    omega
  rw [hS, mkG_ok hm]
  simp only [Option.bind_eq_bind, Option.bind_some]
  refine copy_all (F := L) (by omega) (fun i b hb => ?_) _ (by simp)
  rw [hL]
  simp only [lt_dec, decide_eq_true_eq, Option.bind_eq_bind]
  split
  · rename_i hi
    have e : idx b (i : Int) = some b[i] := idx_lt (by omega)
    rw [idx_lt hi]
    simp only [Option.bind_some, H _ (List.getElem_mem hi), e]
  · rfl
/-- equal to itself -/
theorem eqS_ok {α : Type} {p : List α} {E : α → α → Option Bool} {L : Int → Option Bool} {S : List α → List α → Option Bool} (hp : p.length ≤ 1048576)
    (hS : S p p = if (!decide ((p.length : Int) = (p.length : Int))) = true then (some false) else L 0)
    (hL : ∀ i : Nat, L (i : Int) = if (decide ((i : Int) < (p.length : Int))) = true then ((idx p (i : Int)) >>= fun y1 => (idx p (i : Int)) >>= fun y2 => (E y1 y2) >>= fun y3 => if (!y3) = true then (some false) else L (IntKind.wrap .i64 ((i : Int) + 1))) else some true)
    (H : ∀ y ∈ p, E y y = some true) : S p p = some true := by
  have key : ∀ i, i ≤ p.length → L (i : Nat) = some true := by
    refine back_ind ?_ ?_
    · rw [hL]; simp
    · intro i hi ih
      rw [hL]
      simp only [lt_dec, idx_lt hi, wrap_next hi (by omega), H _ (List.getElem_mem hi), Option.bind_eq_bind, Option.bind_some, ih]
      simp
  rw [hS]
  have := key 0 (by omega)
  simpa using this
theorem le_sum {α : Type} {z : α → Nat} : ∀ {p : List α} {y : α}, y ∈ p → z y ≤ (p.map z).sum
  | x :: p, y, h => by
    rw [sum_map_cons]
    rcases List.mem_cons.1 h with rfl | h
    · omega
    · have := le_sum (z := z) h; omega

/-! trees -/
def zGValue : GValue → Nat
  | ⟨a0, a1, a2⟩ => a2.length
theorem szGValue_ok : ∀ x : GValue, okGValue x → SzOk wSzValue zGValue x
  | ⟨a0, a1, a2⟩, h => by
    simp only [okGValue] at h
    obtain ⟨o0, o1, o2⟩ := h
    intro n h0 h1
    have b2 : a2.length ≤ 9223372036854775807 := o2
    have hz : ((zGValue ⟨a0, a1, a2⟩ : Nat) : Int) = (a2.length : Int) := by simp only [zGValue] <;> omega
    rw [hz, wSzValue]
    dsimp only
    rw [wrap_ok (n := n - (a2.length : Int)) (by omega) (by omega)]
    by_cases r2 : n - (a2.length : Int) < 0
    · rw [if_pos (by simpa using r2), if_neg (by omega)]
    rw [if_neg (by simpa using r2)]
    first | done | (rw [if_pos (by omega)]; done) | (rw [if_pos (by omega)]; congr 1 <;> omega) | (congr 1 <;> omega)
theorem toGValue_ok : ∀ x : GValue, zGValue x ≤ 1048576 → wToValue x = some x
  | ⟨a0, a1, a2⟩, hz => by
    simp only [zGValue] at hz
    rw [wToValue]
theorem eqGValue_ok : ∀ x : GValue, zGValue x ≤ 1048576 → wEqValue x x = some true
  | ⟨a0, a1, a2⟩, hz => by
    simp only [zGValue] at hz
    rw [wEqValue]
    simp
theorem szGValueS_ok (p : (List GValue)) (h : (okL okGValue) p) : SzOk wSzValueS (zL zGValue) p := szS_ok (F := wSzValue) h.1 (fun n => by rw [wSzValueS]) (fun i x => by rw [wSzValueS_L0]) (fun y hy => szGValue_ok y (h.2 y hy))
theorem toGValueS_ok (p : (List GValue)) (hz : (zL zGValue) p ≤ 1048576) : wToValueS p = some p := toS_ok (by' := 32) (W := wToValue) (by unfold zL at hz; omega) (by omega) (by rw [wToValueS]) (fun i b => by rw [wToValueS_L0]) (fun y hy => toGValue_ok y (by have h1 := le_sum (z := zGValue) hy; have h2 : zL zGValue p = p.length + (p.map zGValue).sum := rfl; omega))
theorem eqGValueS_ok (p : (List GValue)) (hz : (zL zGValue) p ≤ 1048576) : wEqValueS p p = some true := eqS_ok (E := wEqValue) (by unfold zL at hz; omega) (by rw [wEqValueS]) (fun i => by rw [wEqValueS_L0]) (fun y hy => eqGValue_ok y (by have h1 := le_sum (z := zGValue) hy; have h2 : zL zGValue p = p.length + (p.map zGValue).sum := rfl; omega))
theorem szGValueSS_ok (p : (List (List GValue))) (h : (okL (okL okGValue)) p) : SzOk wSzValueSS (zL (zL zGValue)) p := szS_ok (F := wSzValueS) h.1 (fun n => by rw [wSzValueSS]) (fun i x => by rw [wSzValueSS_L0]) (fun y hy => szGValueS_ok y (h.2 y hy))
theorem toGValueSS_ok (p : (List (List GValue))) (hz : (zL (zL zGValue)) p ≤ 1048576) : wToValueSS p = some p := toS_ok (by' := 24) (W := wToValueS) (by unfold zL at hz; omega) (by omega) (by rw [wToValueSS]) (fun i b => by rw [wToValueSS_L0]) (fun y hy => toGValueS_ok y (by have h1 := le_sum (z := (zL zGValue)) hy; have h2 : zL (zL zGValue) p = p.length + (p.map (zL zGValue)).sum := rfl; omega))
theorem eqGValueSS_ok (p : (List (List GValue))) (hz : (zL (zL zGValue)) p ≤ 1048576) : wEqValueSS p p = some true := eqS_ok (E := wEqValueS) (by unfold zL at hz; omega) (by rw [wEqValueSS]) (fun i => by rw [wEqValueSS_L0]) (fun y hy => eqGValueS_ok y (by have h1 := le_sum (z := (zL zGValue)) hy; have h2 : zL (zL zGValue) p = p.length + (p.map (zL zGValue)).sum := rfl; omega))
def zGCol : GCol → Nat
  | ⟨a0, a1⟩ => a0.length
theorem szGCol_ok : ∀ x : GCol, okGCol x → SzOk wSzCol zGCol x
  | ⟨a0, a1⟩, h => by
    simp only [okGCol] at h
    obtain ⟨o0, o1⟩ := h
    intro n h0 h1
    have b0 : a0.length ≤ 9223372036854775807 := o0
    have hz : ((zGCol ⟨a0, a1⟩ : Nat) : Int) = (a0.length : Int) := by simp only [zGCol] <;> omega
    rw [hz, wSzCol]
    dsimp only
    rw [wrap_ok (n := n - (a0.length : Int)) (by omega) (by omega)]
    by_cases r0 : n - (a0.length : Int) < 0
    · rw [if_pos (by simpa using r0), if_neg (by omega)]
    rw [if_neg (by simpa using r0)]
    first | done | (rw [if_pos (by omega)]; done) | (rw [if_pos (by omega)]; congr 1 <;> omega) | (congr 1 <;> omega)
theorem toGCol_ok : ∀ x : GCol, zGCol x ≤ 1048576 → wToCol x = some x
  | ⟨a0, a1⟩, hz => by
    simp only [zGCol] at hz
    rw [wToCol]
theorem eqGCol_ok : ∀ x : GCol, zGCol x ≤ 1048576 → wEqCol x x = some true
  | ⟨a0, a1⟩, hz => by
    simp only [zGCol] at hz
    rw [wEqCol]
    simp
theorem szGColS_ok (p : (List GCol)) (h : (okL okGCol) p) : SzOk wSzColS (zL zGCol) p := szS_ok (F := wSzCol) h.1 (fun n => by rw [wSzColS]) (fun i x => by rw [wSzColS_L0]) (fun y hy => szGCol_ok y (h.2 y hy))
theorem toGColS_ok (p : (List GCol)) (hz : (zL zGCol) p ≤ 1048576) : wToColS p = some p := toS_ok (by' := 24) (W := wToCol) (by unfold zL at hz; omega) (by omega) (by rw [wToColS]) (fun i b => by rw [wToColS_L0]) (fun y hy => toGCol_ok y (by have h1 := le_sum (z := zGCol) hy; have h2 : zL zGCol p = p.length + (p.map zGCol).sum := rfl; omega))
theorem eqGColS_ok (p : (List GCol)) (hz : (zL zGCol) p ≤ 1048576) : wEqColS p p = some true := eqS_ok (E := wEqCol) (by unfold zL at hz; omega) (by rw [wEqColS]) (fun i => by rw [wEqColS_L0]) (fun y hy => eqGCol_ok y (by have h1 := le_sum (z := zGCol) hy; have h2 : zL zGCol p = p.length + (p.map zGCol).sum := rfl; omega))
def zGTable : GTable → Nat
  | ⟨a0, a1⟩ => a0.length + (zL zGCol) a1
theorem szGTable_ok : ∀ x : GTable, okGTable x → SzOk wSzTable zGTable x
  | ⟨a0, a1⟩, h => by
    simp only [okGTable] at h
    obtain ⟨o0, o1⟩ := h
    intro n h0 h1
    have b0 : a0.length ≤ 9223372036854775807 := o0
    have e1 : SzOk wSzColS (zL zGCol) a1 := szGColS_ok a1 o1
    have hz : ((zGTable ⟨a0, a1⟩ : Nat) : Int) = (a0.length : Int) + (((zL zGCol) a1 : Nat) : Int) := by simp only [zGTable] <;> omega
    rw [hz, wSzTable]
    dsimp only
    rw [wrap_ok (n := n - (a0.length : Int)) (by omega) (by omega)]
    by_cases r0 : n - (a0.length : Int) < 0
    · rw [if_pos (by simpa using r0), if_neg (by omega)]
    rw [if_neg (by simpa using r0)]
    rw [e1 (n - (a0.length : Int)) (by omega) (by omega)]
    simp only [Option.bind_eq_bind, Option.bind_some]
    rcases (Decidable.em ((((zL zGCol) a1 : Nat) : Int) ≤ (n - (a0.length : Int)))).symm with r1 | r1
    · rw [if_neg r1, if_pos (by decide)]; first | done | rw [if_neg (by omega)]
    rw [if_pos r1, if_neg (by simp; omega)]
    first | done | (rw [if_pos (by omega)]; done) | (rw [if_pos (by omega)]; congr 1 <;> omega) | (congr 1 <;> omega)
theorem toGTable_ok : ∀ x : GTable, zGTable x ≤ 1048576 → wToTable x = some x
  | ⟨a0, a1⟩, hz => by
    simp only [zGTable] at hz
    have e1 : wToColS a1 = some a1 := toGColS_ok a1 (by omega)
    rw [wToTable]
    simp only [e1, Option.bind_eq_bind, Option.bind_some]
theorem eqGTable_ok : ∀ x : GTable, zGTable x ≤ 1048576 → wEqTable x x = some true
  | ⟨a0, a1⟩, hz => by
    simp only [zGTable] at hz
    have e1 : wEqColS a1 a1 = some true := eqGColS_ok a1 (by omega)
    rw [wEqTable]
    simp [e1]
theorem szGTableS_ok (p : (List GTable)) (h : (okL okGTable) p) : SzOk wSzTableS (zL zGTable) p := szS_ok (F := wSzTable) h.1 (fun n => by rw [wSzTableS]) (fun i x => by rw [wSzTableS_L0]) (fun y hy => szGTable_ok y (h.2 y hy))
theorem toGTableS_ok (p : (List GTable)) (hz : (zL zGTable) p ≤ 1048576) : wToTableS p = some p := toS_ok (by' := 40) (W := wToTable) (by unfold zL at hz; omega) (by omega) (by rw [wToTableS]) (fun i b => by rw [wToTableS_L0]) (fun y hy => toGTable_ok y (by have h1 := le_sum (z := zGTable) hy; have h2 : zL zGTable p = p.length + (p.map zGTable).sum := rfl; omega))
theorem eqGTableS_ok (p : (List GTable)) (hz : (zL zGTable) p ≤ 1048576) : wEqTableS p p = some true := eqS_ok (E := wEqTable) (by unfold zL at hz; omega) (by rw [wEqTableS]) (fun i => by rw [wEqTableS_L0]) (fun y hy => eqGTable_ok y (by have h1 := le_sum (z := zGTable) hy; have h2 : zL zGTable p = p.length + (p.map zGTable).sum := rfl; omega))
def zGCatalog : GCatalog → Nat
  | ⟨a0⟩ => (zL zGTable) a0
theorem szGCatalog_ok : ∀ x : GCatalog, okGCatalog x → SzOk wSzCatalog zGCatalog x
  | ⟨a0⟩, h => by
    simp only [okGCatalog] at h
    have o0 := h
    intro n h0 h1
    have e0 : SzOk wSzTableS (zL zGTable) a0 := szGTableS_ok a0 o0
    have hz : ((zGCatalog ⟨a0⟩ : Nat) : Int) = (((zL zGTable) a0 : Nat) : Int) := by simp only [zGCatalog] <;> omega
    rw [hz, wSzCatalog]
    dsimp only
    rw [e0 n (by omega) (by omega)]
    simp only [Option.bind_eq_bind, Option.bind_some]
    rcases (Decidable.em ((((zL zGTable) a0 : Nat) : Int) ≤ n)).symm with r0 | r0
    · rw [if_neg r0, if_pos (by decide)]; first | done | rw [if_neg (by omega)]
    rw [if_pos r0, if_neg (by simp; omega)]
    first | done | (rw [if_pos (by omega)]; done) | (rw [if_pos (by omega)]; congr 1 <;> omega) | (congr 1 <;> omega)
theorem toGCatalog_ok : ∀ x : GCatalog, zGCatalog x ≤ 1048576 → wToCatalog x = some x
  | ⟨a0⟩, hz => by
    simp only [zGCatalog] at hz
    have e0 : wToTableS a0 = some a0 := toGTableS_ok a0 (by omega)
    rw [wToCatalog]
    simp only [e0, Option.bind_eq_bind, Option.bind_some]
theorem eqGCatalog_ok : ∀ x : GCatalog, zGCatalog x ≤ 1048576 → wEqCatalog x x = some true
  | ⟨a0⟩, hz => by
    simp only [zGCatalog] at hz
    have e0 : wEqTableS a0 a0 = some true := eqGTableS_ok a0 (by omega)
    rw [wEqCatalog]
    simp [e0]
def zGData : GData → Nat
  | ⟨a0⟩ => (zL (zL zGValue)) a0
theorem szGData_ok : ∀ x : GData, okGData x → SzOk wSzData zGData x
  | ⟨a0⟩, h => by
    simp only [okGData] at h
    have o0 := h
    intro n h0 h1
    have e0 : SzOk wSzValueSS (zL (zL zGValue)) a0 := szGValueSS_ok a0 o0
    have hz : ((zGData ⟨a0⟩ : Nat) : Int) = (((zL (zL zGValue)) a0 : Nat) : Int) := by simp only [zGData] <;> omega
    rw [hz, wSzData]
    dsimp only
    rw [e0 n (by omega) (by omega)]
    simp only [Option.bind_eq_bind, Option.bind_some]
    rcases (Decidable.em ((((zL (zL zGValue)) a0 : Nat) : Int) ≤ n)).symm with r0 | r0
    · rw [if_neg r0, if_pos (by decide)]; first | done | rw [if_neg (by omega)]
    rw [if_pos r0, if_neg (by simp; omega)]
    first | done | (rw [if_pos (by omega)]; done) | (rw [if_pos (by omega)]; congr 1 <;> omega) | (congr 1 <;> omega)
theorem toGData_ok : ∀ x : GData, zGData x ≤ 1048576 → wToData x = some x
  | ⟨a0⟩, hz => by
    simp only [zGData] at hz
    have e0 : wToValueSS a0 = some a0 := toGValueSS_ok a0 (by omega)
    rw [wToData]
    simp only [e0, Option.bind_eq_bind, Option.bind_some]
theorem eqGData_ok : ∀ x : GData, zGData x ≤ 1048576 → wEqData x x = some true
  | ⟨a0⟩, hz => by
    simp only [zGData] at hz
    have e0 : wEqValueSS a0 a0 = some true := eqGValueSS_ok a0 (by omega)
    rw [wEqData]
    simp [e0]
theorem szGDataS_ok (p : (List GData)) (h : (okL okGData) p) : SzOk wSzDataS (zL zGData) p := szS_ok (F := wSzData) h.1 (fun n => by rw [wSzDataS]) (fun i x => by rw [wSzDataS_L0]) (fun y hy => szGData_ok y (h.2 y hy))
theorem toGDataS_ok (p : (List GData)) (hz : (zL zGData) p ≤ 1048576) : wToDataS p = some p := toS_ok (by' := 24) (W := wToData) (by unfold zL at hz; omega) (by omega) (by rw [wToDataS]) (fun i b => by rw [wToDataS_L0]) (fun y hy => toGData_ok y (by have h1 := le_sum (z := zGData) hy; have h2 : zL zGData p = p.length + (p.map zGData).sum := rfl; omega))
theorem eqGDataS_ok (p : (List GData)) (hz : (zL zGData) p ≤ 1048576) : wEqDataS p p = some true := eqS_ok (E := wEqData) (by unfold zL at hz; omega) (by rw [wEqDataS]) (fun i => by rw [wEqDataS_L0]) (fun y hy => eqGData_ok y (by have h1 := le_sum (z := zGData) hy; have h2 : zL zGData p = p.length + (p.map zGData).sum := rfl; omega))
def zGDb : GDb → Nat
  | ⟨a0⟩ => (zL zGData) a0
theorem szGDb_ok : ∀ x : GDb, okGDb x → SzOk wSzDb zGDb x
  | ⟨a0⟩, h => by
    simp only [okGDb] at h
    have o0 := h
    intro n h0 h1
    have e0 : SzOk wSzDataS (zL zGData) a0 := szGDataS_ok a0 o0
    have hz : ((zGDb ⟨a0⟩ : Nat) : Int) = (((zL zGData) a0 : Nat) : Int) := by simp only [zGDb] <;> omega
    rw [hz, wSzDb]
    dsimp only
    rw [e0 n (by omega) (by omega)]
    simp only [Option.bind_eq_bind, Option.bind_some]
    rcases (Decidable.em ((((zL zGData) a0 : Nat) : Int) ≤ n)).symm with r0 | r0
    · rw [if_neg r0, if_pos (by decide)]; first | done | rw [if_neg (by omega)]
    rw [if_pos r0, if_neg (by simp; omega)]
    first | done | (rw [if_pos (by omega)]; done) | (rw [if_pos (by omega)]; congr 1 <;> omega) | (congr 1 <;> omega)
theorem toGDb_ok : ∀ x : GDb, zGDb x ≤ 1048576 → wToDb x = some x
  | ⟨a0⟩, hz => by
    simp only [zGDb] at hz
    have e0 : wToDataS a0 = some a0 := toGDataS_ok a0 (by omega)
    rw [wToDb]
    simp only [e0, Option.bind_eq_bind, Option.bind_some]
theorem eqGDb_ok : ∀ x : GDb, zGDb x ≤ 1048576 → wEqDb x x = some true
  | ⟨a0⟩, hz => by
    simp only [zGDb] at hz
    have e0 : wEqDataS a0 a0 = some true := eqGDataS_ok a0 (by omega)
    rw [wEqDb]
    simp [e0]

/-! FnExactDbOk -/
theorem valueOk_eqD (x : GValue) : iValueOk x = sValueOk x ∧ ∃ b, sValueOk x = some b := by
  unfold iValueOk sValueOk sL1In
  simp only [Option.bind_eq_bind, Option.bind_some]
  by_cases h0 : x.kind = 0
  · simp [h0]
  by_cases h1 : x.kind = 1
  · simp [h1]
  by_cases h2 : x.kind = 2
  · simp [h2]
  by_cases h3 : x.kind = 3
  · by_cases n0 : x.num = 0
    · simp [h3, n0]
    by_cases n1 : x.num = 1
    · simp [h3, n1]
    have e : (if decide (0 ≤ x.num) = true then decide (x.num ≤ 1) else false) = false := by
      by_cases p : 0 ≤ x.num
      · simp [p]; omega
      · simp [p]
    rw [e]
    simp [h3, n0, n1]
  · simp [h0, h1, h2, h3]
theorem fitsType_eqD (x : GValue) (t : Int) : iFitsType x t = sFitsType x t ∧ ∃ b, sFitsType x t = some b := by
  obtain ⟨h1, b, h2⟩ := valueOk_eqD x
  unfold iFitsType sFitsType
  rw [h1, h2]
  exact ⟨rfl, _, rfl⟩
theorem rowFits_eqD (r : List GValue) (t : List Int) (hl : r.length ≤ 1048576) : iRowFits r t = sRowFits r t ∧ ∃ b, sRowFits r t = some b := by
  unfold iRowFits sRowFits
  by_cases he : (r.length : Int) = (t.length : Int)
  · simp only [he, decide_true, Bool.not_true, Bool.false_eq_true, if_false]
    have := loop_same (n := r.length) (L := fun i => iRowFits_L0 t r i) (M := fun i => sRowFits_L0 r t i) ?_ ?_
    · obtain ⟨h1, b, h2⟩ := this
      rw [h1] at h2
      exact ⟨h1, b, h2⟩
    · intro i hi h1 h2
      try dsimp only at h1 h2 ⊢
      have hi' : i < t.length := by omega
      obtain ⟨f1, b, f2⟩ := fitsType_eqD r[i] t[i]
      rw [iRowFits_L0, sRowFits_L0]
      simp only [lt_dec, idx_lt hi, idx_lt hi', wrap_next hi (by omega), hi, decide_true, if_true, f1, f2, Option.bind_eq_bind, Option.bind_some]
      cases b with
      | true => simp only [Bool.not_true, Bool.false_eq_true, if_false]; exact ⟨h1, h2⟩
      | false => simp
    · try dsimp only
      rw [iRowFits_L0, sRowFits_L0]
      simp
  · simp [he]
theorem typesOf_eqD (t : GTable) (hl : t.cols.length ≤ 1048576) : iTypesOf t = sTypesOf t ∧ ∃ r, sTypesOf t = some r := by
  unfold iTypesOf sTypesOf
  have key : ∀ i, i ≤ t.cols.length → ∀ l : List Int, l.length ≤ i → iTypesOf_L0 t l (i : Nat) = sTypesOf_L0 t l (i : Nat) ∧ ∃ r, sTypesOf_L0 t l (i : Nat) = some r := by
    refine back_ind ?_ ?_
    · intro l _
      rw [iTypesOf_L0, sTypesOf_L0]; simp
    · intro i hi ih l hl2
      rw [iTypesOf_L0, sTypesOf_L0]
      have ea : appG 8 l [t.cols[i].type] = some (l ++ [t.cols[i].type]) := by unfold appG; rw [if_pos (by simp; omega)]
      simp only [lt_dec, idx_lt hi, wrap_next hi (by omega), hi, decide_true, if_true, ea, Option.bind_eq_bind, Option.bind_some]
      exact ih _ (by simp; omega)
  exact key 0 (by omega) [] (by simp)
theorem dbOk_eqD (c : GCatalog) (d : GDb) (hc : catSmall c) (hd : d.tables.length ≤ 1048576 ∧ ∀ t ∈ d.tables, t.rows.length ≤ 1048576 ∧ ∀ r ∈ t.rows, r.length ≤ 1048576) : iDbOk c d = sDbOk c d ∧ ∃ b, sDbOk c d = some b := by
  unfold iDbOk sDbOk
  obtain ⟨b1, i1, i2⟩ := iCatalogOk_iff c hc
  obtain ⟨b2, s1, s2⟩ := sCatalogOk_iff c hc
  have e : b1 = b2 := iff_eq i2 s2 Iff.rfl
  subst e
  simp only [i1, s1, Option.bind_eq_bind, Option.bind_some]
  cases b1 with
  | false => simp
  | true =>
    by_cases he : (d.tables.length : Int) = (c.tables.length : Int)
    · simp only [he, decide_true, Bool.not_true, Bool.false_eq_true, if_false]
      have := loop_same (n := d.tables.length) (L := fun i => iDbOk_L0 d c i) (M := fun i => sDbOk_L0 c d i) ?_ ?_
      · obtain ⟨h1, b, h2⟩ := this
        rw [h1] at h2
        exact ⟨h1, b, h2⟩
      · intro i hi h1 h2
        try dsimp only at h1 h2 ⊢
        obtain ⟨r0, h2⟩ := h2
        have hi' : i < c.tables.length := by omega
        have hrows := hd.2 _ (List.getElem_mem hi)
        obtain ⟨t1, ty, t2⟩ := typesOf_eqD c.tables[i] (hc.2 _ (List.getElem_mem hi'))
        have := hd.1
        rw [iDbOk_L0, sDbOk_L0]
        simp only [lt_dec, idx_lt hi, idx_lt hi', wrap_next hi (by omega), hi, decide_true, if_true, t1, t2, Option.bind_eq_bind, Option.bind_some]
        by_cases h6 : (6 : Int) < (d.tables[i].rows.length : Int)
        · simp [h6]
        · have scan : ∀ j, j ≤ d.tables[i].rows.length → ∃ k : Int, gSlices_IndexFunc_impl_Value_impl_Value_x0_L0 d.tables[i].rows ty (j : Nat) = some k ∧ ((0 ≤ k ∧ sDbOk_L1 (i : Int) c d (j : Nat) = some false) ∨ (k < 0 ∧ sDbOk_L1 (i : Int) c d (j : Nat) = some r0)) := by
            refine back_ind ?_ ?_
            · rw [gSlices_IndexFunc_impl_Value_impl_Value_x0_L0, sDbOk_L1]
              simp only [lt_dec, idx_lt hi, Nat.lt_irrefl, decide_false, Bool.false_eq_true, if_false, Option.bind_eq_bind, Option.bind_some, wrap_next hi (by omega)]
              exact ⟨-1, rfl, .inr ⟨by omega, by rw [← h1]; exact h2⟩⟩
            · intro j hj ih
              obtain ⟨f1, b, f2⟩ := rowFits_eqD d.tables[i].rows[j] ty (hrows.2 _ (List.getElem_mem hj))
              rw [gSlices_IndexFunc_impl_Value_impl_Value_x0_L0, sDbOk_L1]
              simp only [lt_dec, idx_lt hi, idx_lt hi', idx_lt hj, hj, decide_true, if_true, t2, f1, f2, iDbOk_1_x0, Option.bind_eq_bind, Option.bind_some, wrap_next hj (by omega)]
              cases b with
              | true => simpa using ih
              | false => exact ⟨(j : Int), by simp, .inl ⟨by omega, by simp⟩⟩
          obtain ⟨k, k1, k2⟩ := scan 0 (by omega)
          rw [show ((0 : Nat) : Int) = 0 from rfl] at k1 k2
          simp only [h6, decide_false, Bool.false_eq_true, if_false, gSlices_ContainsFunc_impl_Value_impl_Value_x0, gSlices_IndexFunc_impl_Value_impl_Value_x0, k1, Option.bind_eq_bind, Option.bind_some]
          rcases k2 with ⟨k0, k2⟩ | ⟨k0, k2⟩
          · simp [k0, k2]
          · have : ¬ 0 ≤ k := by omega
            have h3 : iDbOk_L0 d c ((i : Int) + 1) = some r0 := h2
            simp only [k2, this, decide_false]
            cases r0 <;> simp [h3]
      · try dsimp only
        rw [iDbOk_L0, sDbOk_L0]
        simp
    · simp [he]
theorem mem_z {α : Type} {z : α → Nat} {l : List α} {x : α} (h : x ∈ l) : z x + l.length ≤ zL z l := by
  have := le_sum (z := z) h
  unfold zL; omega
theorem fnExactDbOk_true (c : GCatalog) (oc : okGCatalog c) (d : GDb) (od : okGDb d) : wFnExactDbOk c d = some true := by
  unfold wFnExactDbOk
  rw [szGCatalog_ok c oc 1048576 (by omega) (by omega)]
  simp only [Option.bind_eq_bind, Option.bind_some]
  by_cases hz : (zGCatalog c : Int) ≤ 1048576
  case neg => rw [if_neg hz]; simp
  rw [if_pos hz, if_neg (by simp; omega)]
  rw [szGDb_ok d od _ (by omega) (by omega)]
  simp only [Option.bind_some]
  by_cases hz2 : (zGDb d : Int) ≤ 1048576 - (zGCatalog c : Int)
  case neg => rw [if_neg hz2]; simp
  rw [if_pos hz2, if_neg (by simp; omega), toGCatalog_ok c (by omega), toGDb_ok d (by omega)]
  have hc : catSmall c := by
    obtain ⟨ts⟩ := c
    simp only [zGCatalog] at hz
    refine ⟨by dsimp only; unfold zL at hz; omega, fun t ht => ?_⟩
    have := mem_z (z := zGTable) ht
    obtain ⟨n, cs⟩ := t
    simp only [zGTable] at this
    unfold zL at *; dsimp only; omega
  have hd : d.tables.length ≤ 1048576 ∧ ∀ t ∈ d.tables, t.rows.length ≤ 1048576 ∧ ∀ r ∈ t.rows, r.length ≤ 1048576 := by
    obtain ⟨ts⟩ := d
    simp only [zGDb] at hz2
    refine ⟨by dsimp only; unfold zL at hz2; omega, fun t ht => ?_⟩
    have h1 := mem_z (z := zGData) ht
    obtain ⟨rs⟩ := t
    simp only [zGData] at h1
    refine ⟨by unfold zL at *; dsimp only; omega, fun r hr => ?_⟩
    have h2 : zL zGValue r + rs.length ≤ zL (zL zGValue) rs := mem_z (z := zL zGValue) hr
    have h3 : zL zGValue r = r.length + (r.map zGValue).sum := rfl
    have h4 : zL zGData ts = ts.length + (ts.map zGData).sum := rfl
    omega
  obtain ⟨e1, b, e2⟩ := dbOk_eqD c d hc hd
  simp [e1, e2, toGCatalog_ok c (by omega), toGDb_ok d (by omega), eqGCatalog_ok c (by omega), eqGDb_ok d (by omega)]

end Go.Ab
