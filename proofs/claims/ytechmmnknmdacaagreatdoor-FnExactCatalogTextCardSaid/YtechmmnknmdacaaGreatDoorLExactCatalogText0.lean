/- What the functions compute, in plain Lean. -/
import Derived.Test.YtechmmnknmdacaaGreatDoorFExactCatalogText
namespace Go.Ab
open Go
/-! base -/

theorem wrap_ok {n : Int} (h1 : -9223372036854775808 ≤ n) (h2 : n ≤ 9223372036854775807) : IntKind.wrap .i64 n = n := by rw [IntKind.wrap_i64]; omega
/-- the next round of a loop over a list -/
theorem wrap_next {i n : Nat} (h : i < n) (hn : n ≤ 4611686018427387904) : IntKind.wrap .i64 ((i : Int) + 1) = ((i + 1 : Nat) : Int) := by rw [wrap_ok] <;> omega
theorem lt_dec (i n : Nat) : decide ((i : Int) < (n : Int)) = decide (i < n) := by simp
theorem idx_nat {α : Type} (l : List α) (i : Nat) : idx l (i : Int) = l[i]? := by simp [idx]
theorem idx_lt {α : Type} {l : List α} {i : Nat} (h : i < l.length) : idx l (i : Int) = some l[i] := by rw [idx_nat]; simp [h]
/-- from the last round backwards -/
theorem back_ind {M : Nat → Prop} {n : Nat} (h0 : M n) (h : ∀ i, i < n → M (i + 1) → M i) : ∀ i, i ≤ n → M i := by
  have : ∀ k i, i + k = n → M i := by
    intro k
    induction k with
    | zero => intro i hi; have : i = n := by omega
              subst this; exact h0
    | succ k ih => intro i hi; exact h i (by omega) (ih (i + 1) (by omega))
  exact fun i hi => this (n - i) i (by omega)
/-- A loop that copies a list element by element into a made one. -/
theorem copy_all {α : Type} {p : List α} {F : Int → List α → Option (List α)} (hn : p.length ≤ 4611686018427387904)
    (hF : ∀ (i : Nat) b, b.length = p.length → F i b = if i < p.length then (idx p i >>= fun v => setG b i v >>= fun c => F (IntKind.wrap .i64 ((i : Int) + 1)) c) else some b) :
    ∀ b, b.length = p.length → F 0 b = some p := by
  have key : ∀ i, i ≤ p.length → ∀ b, b.length = p.length → b.take i = p.take i → F (i : Nat) b = some p := by
    refine back_ind ?_ ?_
    · intro b hb ht
      rw [hF _ _ hb, if_neg (by omega)]
      rw [← hb, List.take_length] at ht
      rw [ht, hb, List.take_length]
    · intro i hi ih b hb ht
      rw [hF _ _ hb, if_pos hi, idx_lt hi]
      have hs : setG b i p[i] = some (b.set i p[i]) := by
        unfold setG; rw [if_pos ⟨by omega, by simp; omega⟩]; simp
      simp only [Option.bind_eq_bind, Option.bind_some, hs, wrap_next hi hn]
      refine ih _ (by simp [hb]) ?_
      rw [List.take_add_one, List.take_add_one]
      have e1 : (b.set i p[i]).take i = b.take i := by rw [List.take_set_of_le (Nat.le_refl _)]
      rw [e1, ht]
      simp [hb, hi]
  intro b hb
  exact key 0 (by omega) b hb (by simp)
theorem mkG_ok {α : Type} {by' : Nat} {n : Nat} {z : α} (h : (n : Int) * by' ≤ 140737488355328) : mkG by' (n : Int) z = some (List.replicate n z) := by
  unfold mkG; rw [if_pos ⟨by omega, h⟩]; simp

/-! loopP -/
/-- A loop that ends with false at the first element that is not good. -/
theorem loopP {n : Nat} {L : Int → Option Bool} {good : Nat → Prop} {KP : Prop}
    (hstep : ∀ i, i < n → (good i → L (i : Nat) = L ((i + 1 : Nat) : Int)) ∧ (¬ good i → L (i : Nat) = some false))
    (hend : ∃ b, L (n : Nat) = some b ∧ (b = true ↔ KP)) : ∃ b, L 0 = some b ∧ (b = true ↔ (∀ i, i < n → good i) ∧ KP) := by
  have key : ∀ i, i ≤ n → ∃ b, L (i : Nat) = some b ∧ (b = true ↔ (∀ k, i ≤ k → k < n → good k) ∧ KP) := by
    refine back_ind ?_ ?_
    · obtain ⟨b, h1, h2⟩ := hend
      exact ⟨b, h1, h2.trans ⟨fun h => ⟨fun k h1 h2 => by omega, h⟩, fun h => h.2⟩⟩
    · intro i hi ih
      obtain ⟨b, h1, h2⟩ := ih
      obtain ⟨s1, s2⟩ := hstep i hi
      by_cases hg : good i
      · refine ⟨b, (s1 hg).trans h1, h2.trans ⟨fun h => ⟨fun k k1 k2 => ?_, h.2⟩, fun h => ⟨fun k k1 k2 => h.1 k (by omega) k2, h.2⟩⟩⟩
        by_cases e : k = i
        · subst e; exact hg
        · exact h.1 k (by omega) k2
      · refine ⟨false, s2 hg, ?_⟩
        simp only [Bool.false_eq_true, false_iff, not_and]
        intro h
        exact absurd (h i (by omega) hi) hg
  obtain ⟨b, h1, h2⟩ := key 0 (by omega)
  exact ⟨b, h1, h2.trans ⟨fun h => ⟨fun k hk => h.1 k (by omega) hk, h.2⟩, fun h => ⟨fun k _ hk => h.1 k hk, h.2⟩⟩⟩
theorem iff_eq {a b : Bool} {P Q : Prop} (h1 : a = true ↔ P) (h2 : b = true ↔ Q) (h : P ↔ Q) : a = b := by
  rw [Bool.eq_iff_iff]; exact h1.trans (h.trans h2.symm)
/-- two loops that do the same -/
theorem loop_same {γ : Type} {n : Nat} {L M : Int → Option γ} (hstep : ∀ i, i < n → L ((i + 1 : Nat) : Int) = M ((i + 1 : Nat) : Int) → (∃ r, L ((i + 1 : Nat) : Int) = some r) → L (i : Nat) = M (i : Nat) ∧ ∃ r, L (i : Nat) = some r)
    (hend : L (n : Nat) = M (n : Nat) ∧ ∃ r, L (n : Nat) = some r) : L 0 = M 0 ∧ ∃ r, L 0 = some r := by
  have key : ∀ i, i ≤ n → L (i : Nat) = M (i : Nat) ∧ ∃ r, L (i : Nat) = some r :=
    back_ind hend fun i hi ih => hstep i hi ih.1 ih.2
  exact key 0 (by omega)

/-! catalog -/
theorem nameOk_iff (s : List UInt8) : iNameOk s = sNameOk s ∧ ∃ b, sNameOk s = some b ∧ (b = true ↔ 1 ≤ s.length ∧ s.length ≤ 20) := by
  unfold iNameOk sNameOk sL1In
  simp only [Option.bind_eq_bind, Option.bind_some]
  refine ⟨by simp, _, rfl, ?_⟩
  by_cases h1 : (1 : Int) ≤ (s.length : Int)
  · simp [h1]; omega
  · simp [h1]; omega
theorem colAt_eq (t : GTable) (s : List UInt8) (hl : t.cols.length ≤ 1048576) : iColAt t s = sColAt t s ∧ ∃ r, sColAt t s = some r := by
  have := loop_same (n := t.cols.length) (L := fun i => gSlices_IndexFunc_Simpl_Col_impl_Col_iColAt_1_L0 t.cols s i) (M := fun i => sColAt_L0 s t i) ?_ ?_
  · unfold iColAt gSlices_IndexFunc_Simpl_Col_impl_Col_iColAt_1 sColAt
    obtain ⟨h1, r, h2⟩ := this
    try simp only at h1 h2
    rw [← h1, h2]
    exact ⟨rfl, r, rfl⟩
  · intro i hi h1 h2
    try dsimp only at h1 h2 ⊢
    rw [gSlices_IndexFunc_Simpl_Col_impl_Col_iColAt_1_L0, sColAt_L0]
    simp only [lt_dec, idx_lt hi, wrap_next hi (by omega), hi, decide_true, if_true, iColAt_1_x, Option.bind_eq_bind, Option.bind_some]
    by_cases hc : t.cols[i].name = s
    · simp [hc]
    · simp only [hc, decide_false, Bool.false_eq_true, if_false]
      exact ⟨h1, h2⟩
  · try dsimp only
    rw [gSlices_IndexFunc_Simpl_Col_impl_Col_iColAt_1_L0, sColAt_L0]
    simp
theorem tableAt_eq (c : GCatalog) (s : List UInt8) (hl : c.tables.length ≤ 1048576) : iTableAt c s = sTableAt c s ∧ ∃ r, sTableAt c s = some r := by
  have := loop_same (n := c.tables.length) (L := fun i => gSlices_IndexFunc_Simpl_Table_impl_Table_iTableAt_1_L0 c.tables s i) (M := fun i => sTableAt_L0 s c i) ?_ ?_
  · unfold iTableAt gSlices_IndexFunc_Simpl_Table_impl_Table_iTableAt_1 sTableAt
    obtain ⟨h1, r, h2⟩ := this
    try simp only at h1 h2
    rw [← h1, h2]
    exact ⟨rfl, r, rfl⟩
  · intro i hi h1 h2
    try dsimp only at h1 h2 ⊢
    rw [gSlices_IndexFunc_Simpl_Table_impl_Table_iTableAt_1_L0, sTableAt_L0]
    simp only [lt_dec, idx_lt hi, wrap_next hi (by omega), hi, decide_true, if_true, iTableAt_1_x, Option.bind_eq_bind, Option.bind_some]
    by_cases hc : c.tables[i].name = s
    · simp [hc]
    · simp only [hc, decide_false, Bool.false_eq_true, if_false]
      exact ⟨h1, h2⟩
  · try dsimp only
    rw [gSlices_IndexFunc_Simpl_Table_impl_Table_iTableAt_1_L0, sTableAt_L0]
    simp
/-- a column that is right -/
def colP (t : GTable) (j : Nat) : Prop := ∃ c, t.cols[j]? = some c ∧ (1 ≤ c.name.length ∧ c.name.length ≤ 20) ∧ (1 ≤ c.type ∧ c.type ≤ 3) ∧ sColAt t c.name = some (j : Int)
def tableP (t : GTable) : Prop := (∀ j, j < t.cols.length → colP t j) ∧ ((1 ≤ t.name.length ∧ t.name.length ≤ 20) ∧ 1 ≤ t.cols.length ∧ t.cols.length ≤ 4)
theorem isTable_iff (t : GTable) (hl : t.cols.length ≤ 1048576) : ∃ b, iIsTable t = some b ∧ (b = true ↔ tableP t) := by
  unfold iIsTable tableP
  refine loopP (n := t.cols.length) (L := fun i => iIsTable_L0 t i) (good := colP t) ?_ ?_
  · intro i hi
    try dsimp only
    rw [iIsTable_L0]
    obtain ⟨n1, b, n2, n3⟩ := nameOk_iff t.cols[i].name
    obtain ⟨c1, k, c2⟩ := colAt_eq t t.cols[i].name hl
    simp only [lt_dec, idx_lt hi, wrap_next hi (by omega), hi, decide_true, if_true, n1, n2, c1, c2, Option.bind_eq_bind, Option.bind_some]
    have hP : colP t i ↔ (1 ≤ t.cols[i].name.length ∧ t.cols[i].name.length ≤ 20) ∧ (1 ≤ t.cols[i].type ∧ t.cols[i].type ≤ 3) ∧ k = (i : Int) := by
      unfold colP
      constructor
      · rintro ⟨c, h1, h2, h3, h4⟩
        rw [List.getElem?_eq_getElem hi] at h1
        simp only [Option.some.injEq] at h1; subst h1
        rw [c2] at h4
        exact ⟨h2, h3, by simpa using h4⟩
      · rintro ⟨h2, h3, h4⟩
        exact ⟨_, List.getElem?_eq_getElem hi, h2, h3, by rw [c2, h4]⟩
    rw [hP, ← n3]
    cases b with
    | false => simp
    | true =>
      by_cases t1 : t.cols[i].type < 1
      · simp [t1] <;> omega
      by_cases t3 : 3 < t.cols[i].type
      · simp [t1, t3] <;> omega
      by_cases hk : k = (i : Int)
      · simp [t1, t3, hk] <;> omega
      · simp [t1, t3, hk]
  · try dsimp only
    rw [iIsTable_L0]
    obtain ⟨n1, b, n2, n3⟩ := nameOk_iff t.name
    simp only [lt_dec, Nat.lt_irrefl, decide_false, Bool.false_eq_true, if_false, n1, n2, Option.bind_eq_bind, Option.bind_some]
    refine ⟨_, rfl, ?_⟩
    rw [← n3]
    cases b with
    | false => simp
    | true =>
      by_cases l1 : (1 : Int) ≤ (t.cols.length : Int)
      · simp [l1] <;> omega
      · simp [l1] <;> omega
def catP (c : GCatalog) : Prop := (∀ i, i < c.tables.length → ∃ t, c.tables[i]? = some t ∧ tableP t ∧ sTableAt c t.name = some (i : Int)) ∧ c.tables.length ≤ 4
/-- what the size of a catalog bounds -/
def catSmall (c : GCatalog) : Prop := c.tables.length ≤ 1048576 ∧ ∀ t ∈ c.tables, t.cols.length ≤ 1048576
theorem iCatalogOk_iff (c : GCatalog) (hs : catSmall c) : ∃ b, iCatalogOk c = some b ∧ (b = true ↔ catP c) := by
  unfold iCatalogOk catP
  refine loopP (n := c.tables.length) (L := fun i => iCatalogOk_L0 c i) (good := fun i => ∃ t, c.tables[i]? = some t ∧ tableP t ∧ sTableAt c t.name = some (i : Int)) ?_ ?_
  · intro i hi
    try dsimp only
    rw [iCatalogOk_L0]
    obtain ⟨b, n2, n3⟩ := isTable_iff c.tables[i] (hs.2 _ (List.getElem_mem hi))
    obtain ⟨c1, k, c2⟩ := tableAt_eq c c.tables[i].name hs.1
    have := hs.1
    simp only [lt_dec, idx_lt hi, wrap_next hi (by omega), hi, decide_true, if_true, n2, c1, c2, Option.bind_eq_bind, Option.bind_some]
    have hP : (∃ t, c.tables[i]? = some t ∧ tableP t ∧ sTableAt c t.name = some (i : Int)) ↔ tableP c.tables[i] ∧ k = (i : Int) := by
      constructor
      · rintro ⟨t, h1, h2, h3⟩
        rw [List.getElem?_eq_getElem hi] at h1
        simp only [Option.some.injEq] at h1; subst h1
        rw [c2] at h3
        exact ⟨h2, by simpa using h3⟩
      · rintro ⟨h2, h3⟩
        exact ⟨_, List.getElem?_eq_getElem hi, h2, by rw [c2, h3]⟩
    rw [hP, ← n3]
    cases b with
    | false => simp
    | true =>
      by_cases hk : k = (i : Int)
      · simp [hk]
      · simp [hk]
  · try dsimp only
    rw [iCatalogOk_L0]
    refine ⟨decide ((c.tables.length : Int) ≤ 4), by simp, ?_⟩
    simp only [decide_eq_true_eq]; omega
theorem sCatalogOk_iff (c : GCatalog) (hs : catSmall c) : ∃ b, sCatalogOk c = some b ∧ (b = true ↔ catP c) := by
  unfold sCatalogOk
  by_cases h4 : (4 : Int) < (c.tables.length : Int)
  · rw [if_pos (by simpa using h4)]
    refine ⟨false, rfl, ?_⟩
    unfold catP
    simp only [Bool.false_eq_true, false_iff, not_and]
    intro _; omega
  rw [if_neg (by simpa using h4)]
  have := loopP (n := c.tables.length) (L := fun i => sCatalogOk_L0 c i) (good := fun i => ∃ t, c.tables[i]? = some t ∧ tableP t ∧ sTableAt c t.name = some (i : Int)) (KP := True) ?_ ?_
  · obtain ⟨b, h1, h2⟩ := this
    exact ⟨b, h1, h2.trans ⟨fun h => ⟨h.1, by omega⟩, fun h => ⟨h.1, trivial⟩⟩⟩
  · intro i hi
    try dsimp only
    rw [sCatalogOk_L0]
    obtain ⟨n1, b, n2, n3⟩ := nameOk_iff c.tables[i].name
    obtain ⟨c1, k, c2⟩ := tableAt_eq c c.tables[i].name hs.1
    have := hs.1
    have hcl := hs.2 _ (List.getElem_mem hi)
    have inner : ∀ (j : Nat), j ≤ c.tables[i].cols.length → ((∀ m, j ≤ m → m < c.tables[i].cols.length → colP c.tables[i] m) → sCatalogOk_L1 (i : Int) c c.tables[i] (j : Nat) = sCatalogOk_L0 c ((i + 1 : Nat) : Int)) ∧ (¬ (∀ m, j ≤ m → m < c.tables[i].cols.length → colP c.tables[i] m) → sCatalogOk_L1 (i : Int) c c.tables[i] (j : Nat) = some false) := by
      refine back_ind ?_ ?_
      · rw [sCatalogOk_L1]
        simp only [lt_dec, Nat.lt_irrefl, decide_false, Bool.false_eq_true, if_false, wrap_next hi (by omega)]
        refine ⟨fun _ => trivial, fun h => absurd (fun m h1 h2 => by omega) h⟩
      · intro j hj ih
        rw [sCatalogOk_L1]
        obtain ⟨_, b', m2, m3⟩ := nameOk_iff c.tables[i].cols[j].name
        obtain ⟨_, k', d2⟩ := colAt_eq c.tables[i] c.tables[i].cols[j].name hcl
        simp only [lt_dec, idx_lt hj, wrap_next hj (by omega), hj, decide_true, if_true, m2, d2, sL1In, Option.bind_eq_bind, Option.bind_some]
        have hP : colP c.tables[i] j ↔ b' = true ∧ (1 ≤ c.tables[i].cols[j].type ∧ c.tables[i].cols[j].type ≤ 3) ∧ k' = (j : Int) := by
          unfold colP
          constructor
          · rintro ⟨c', h1, h2, h3, h4⟩
            rw [List.getElem?_eq_getElem hj] at h1
            simp only [Option.some.injEq] at h1; subst h1
            rw [d2] at h4
            exact ⟨m3.2 h2, h3, by simpa using h4⟩
          · rintro ⟨h2, h3, h4⟩
            exact ⟨_, List.getElem?_eq_getElem hj, m3.1 h2, h3, by rw [d2, h4]⟩
        have hall : (∀ m, j ≤ m → m < c.tables[i].cols.length → colP c.tables[i] m) ↔ colP c.tables[i] j ∧ ∀ m, j + 1 ≤ m → m < c.tables[i].cols.length → colP c.tables[i] m := by
          constructor
          · intro h; exact ⟨h j (by omega) hj, fun m h1 h2 => h m (by omega) h2⟩
          · rintro ⟨h1, h2⟩ m h3 h4
            by_cases e : m = j
            · subst e; exact h1
            · exact h2 m (by omega) h4
        rw [hall, hP]
        cases b' with
        | false => simp
        | true =>
          by_cases hk : k' = (j : Int)
          · by_cases t1 : 1 ≤ c.tables[i].cols[j].type
            · by_cases t3 : c.tables[i].cols[j].type ≤ 3
              · have t3' : ¬ 3 < c.tables[i].cols[j].type := by omega
                simpa [hk, t1, t3, t3', d2] using ih
              · simp [hk, t1, t3, d2]
            · simp [hk, t1, d2]
          · simp [hk, d2]
    obtain ⟨i1, i2⟩ := inner 0 (by omega)
    rw [show ((0 : Nat) : Int) = 0 from rfl] at i1 i2
    simp only [lt_dec, idx_lt hi, wrap_next hi (by omega), hi, decide_true, if_true, n2, c2, sL1In, Option.bind_eq_bind, Option.bind_some]
    have hP : (∃ t, c.tables[i]? = some t ∧ tableP t ∧ sTableAt c t.name = some (i : Int)) ↔ tableP c.tables[i] ∧ k = (i : Int) := by
      constructor
      · rintro ⟨t, h1, h2, h3⟩
        rw [List.getElem?_eq_getElem hi] at h1
        simp only [Option.some.injEq] at h1; subst h1
        rw [c2] at h3
        exact ⟨h2, by simpa using h3⟩
      · rintro ⟨h2, h3⟩
        exact ⟨_, List.getElem?_eq_getElem hi, h2, by rw [c2, h3]⟩
    rw [hP]
    unfold tableP
    rw [← n3]
    cases b with
    | false => simp
    | true =>
      by_cases hk : k = (i : Int)
      · by_cases l1 : (1 : Int) ≤ (c.tables[i].cols.length : Int)
        · by_cases l4 : (c.tables[i].cols.length : Int) ≤ 4
          · have l1' : 1 ≤ c.tables[i].cols.length := by omega
            have l4' : c.tables[i].cols.length ≤ 4 := by omega
            simp only [hk, l1, l4, l1', l4']
            simp only [Nat.zero_le, true_implies] at i1 i2
            simpa using And.intro i1 (fun (x : Nat) (hx : x < c.tables[i].cols.length) (hn : ¬ colP c.tables[i] x) => i2 fun h => hn (h x hx))
          · have l4' : ¬ c.tables[i].cols.length ≤ 4 := by omega
            simp [hk, l1, l4, l4']
        · have l1' : ¬ 1 ≤ c.tables[i].cols.length := by omega
          simp [hk, l1, l1']
      · simp [hk]
  · try dsimp only
    rw [sCatalogOk_L0]
    exact ⟨true, by simp, by simp⟩

/-! trees0 -/
/-- how much a list holds -/
def zL {α : Type} (z : α → Nat) (l : List α) : Nat := l.length + (l.map z).sum
def z0 {α : Type} (_ : α) : Nat := 0
/-- the size of a value, taken off what is left -/
def SzOk {α : Type} (F : α → Int → Option Int) (z : α → Nat) (x : α) : Prop := ∀ n : Int, 0 ≤ n → n ≤ 1048576 → F x n = some (if (z x : Int) ≤ n then n - (z x : Int) else -1)
theorem sum_map_cons {α : Type} (z : α → Nat) (x : α) (l : List α) : ((x :: l).map z).sum = z x + (l.map z).sum := by simp
theorem szLoop_ok {α : Type} {p : List α} {F : α → Int → Option Int} {z : α → Nat} {L : Int → Int → Option Int} (hp : p.length ≤ 1048576)
    (hL : ∀ (i : Nat) (x : Int), L x (i : Int) = if (decide ((i : Int) < (p.length : Int))) = true then ((idx p (i : Int)) >>= fun y => (F y x) >>= fun r => if (decide (r < 0)) = true then (some (-1)) else L r (IntKind.wrap .i64 ((i : Int) + 1))) else some x)
    (H : ∀ y ∈ p, SzOk F z y) : ∀ n : Int, 0 ≤ n → n ≤ 1048576 → L n 0 = some (if ((p.map z).sum : Int) ≤ n then n - ((p.map z).sum : Int) else -1) := by
  have key : ∀ i, i ≤ p.length → ∀ n : Int, 0 ≤ n → n ≤ 1048576 → L n (i : Nat) = some (if (((p.drop i).map z).sum : Int) ≤ n then n - (((p.drop i).map z).sum : Int) else -1) := by
    refine back_ind ?_ ?_
    · intro n h0 h1
      rw [hL]; simp [h0]
    · intro i hi ih n h0 h1
      rw [hL, idx_lt hi, wrap_next hi (by omega)]
      rw [List.drop_eq_getElem_cons hi, sum_map_cons]
      simp only [Option.bind_eq_bind, Option.bind_some, lt_dec, hi, decide_true, if_true, H _ (List.getElem_mem hi) n h0 h1]
      by_cases hz : (z p[i] : Int) ≤ n
      · rw [if_pos hz, if_neg (by simp; omega), ih _ (by omega) (by omega)]
        congr 1
        by_cases hr : (((p.drop (i + 1)).map z).sum : Int) ≤ n - z p[i]
        · rw [if_pos hr, if_pos (by omega)]; omega
        · rw [if_neg hr, if_neg (by omega)]
      · rw [if_neg hz, if_pos (by decide), if_neg (by omega)]
  intro n h0 h1
  have := key 0 (by omega) n h0 h1
  simpa using this
theorem szS_ok {α : Type} {p : List α} {F : α → Int → Option Int} {z : α → Nat} {L : Int → Int → Option Int} {S : List α → Int → Option Int} (hp : p.length ≤ 9223372036854775807)
    (hS : ∀ n, S p n = if (decide ((IntKind.wrap .i64 (n - (p.length : Int))) < 0)) = true then (some (-1)) else L (IntKind.wrap .i64 (n - (p.length : Int))) 0)
    (hL : ∀ (i : Nat) (x : Int), L x (i : Int) = if (decide ((i : Int) < (p.length : Int))) = true then ((idx p (i : Int)) >>= fun y => (F y x) >>= fun r => if (decide (r < 0)) = true then (some (-1)) else L r (IntKind.wrap .i64 ((i : Int) + 1))) else some x)
    (H : ∀ y ∈ p, SzOk F z y) : SzOk S (zL z) p := by
  intro n h0 h1
  have hz : ((zL z p : Nat) : Int) = (p.length : Int) + ((p.map z).sum : Int) := by unfold zL; omega
  rw [hS, wrap_ok (by omega) (by omega), hz]
  by_cases hl : n - (p.length : Int) < 0
  · rw [if_pos (by simpa using hl), if_neg (by omega)]
  · rw [if_neg (by simpa using hl), szLoop_ok (by omega) hL H _ (by omega) (by omega)]
    congr 1
    by_cases hr : ((p.map z).sum : Int) ≤ n - p.length
    · rw [if_pos hr, if_pos (by omega)]; omega
    · rw [if_neg hr, if_neg (by omega)]
theorem szInts_ok {α : Type} {p : List α} {S : List α → Int → Option Int} (hp : p.length ≤ 9223372036854775807)
    (hS : ∀ n, S p n = if (decide ((IntKind.wrap .i64 (n - (p.length : Int))) < 0)) = true then (some (-1)) else (some (IntKind.wrap .i64 (n - (p.length : Int))))) : SzOk S (zL z0) p := by
  intro n h0 h1
  have hs : (p.map z0).sum = 0 := by
    clear hS hp
    induction p with
    | nil => rfl
    | cons x p ih => rw [sum_map_cons, ih]; rfl
  have hz : ((zL z0 p : Nat) : Int) = (p.length : Int) := by unfold zL; omega
  rw [hS, wrap_ok (by omega) (by omega), hz]
  by_cases hl : n - (p.length : Int) < 0
  · rw [if_pos (by simpa using hl), if_neg (by omega)]
  · rw [if_neg (by simpa using hl), if_pos (by omega)]
/-- the size of a string -/
def szStr (y : List UInt8) (n : Int) : Option Int := if (decide ((IntKind.wrap .i64 (n - (y.length : Int))) < 0)) = true then (some (-1)) else (some (IntKind.wrap .i64 (n - (y.length : Int))))
theorem szStr_ok (y : List UInt8) (hy : y.length ≤ 9223372036854775807) : SzOk szStr List.length y := by
  intro n h0 h1
  unfold szStr
  rw [wrap_ok (by omega) (by omega)]
  by_cases hl : n - (y.length : Int) < 0
  · rw [if_pos (by simpa using hl), if_neg (by omega)]
  · rw [if_neg (by simpa using hl), if_pos (by omega)]
theorem szStr_bind (y : List UInt8) (x : Int) (K : Int → Option Int) : (if (decide ((IntKind.wrap .i64 (x - (y.length : Int))) < 0)) = true then (some (-1)) else K (IntKind.wrap .i64 (x - (y.length : Int)))) = ((szStr y x) >>= fun r => if (decide (r < 0)) = true then (some (-1)) else K r) := by
  unfold szStr
  by_cases h : (IntKind.wrap .i64 (x - (y.length : Int))) < 0
  · rw [if_pos (by simpa using h), if_pos (by simpa using h)]; rfl
  · rw [if_neg (by simpa using h), if_neg (by simpa using h)]
    simp only [Option.bind_eq_bind, Option.bind_some]
    rw [if_neg (by simpa using h)]
/-- a copy -/
theorem toS_ok {α : Type} {p : List α} {W : α → Option α} {by' : Nat} {d : α} {L : Int → List α → Option (List α)} {S : Option (List α)} (hp : p.length ≤ 1048576) (hby : by' ≤ 134217728)
    (hS : S = (mkG by' (p.length : Int) d >>= fun y => L 0 y))
    (hL : ∀ (i : Nat) b, L (i : Int) b = if (decide ((i : Int) < (p.length : Int))) = true then ((idx p (i : Int)) >>= fun y2 => (W y2) >>= fun y3 => (idx b (i : Int)) >>= fun _ => (setG b (i : Int) y3) >>= fun y5 => L (IntKind.wrap .i64 ((i : Int) + 1)) y5) else some b)
    (H : ∀ y ∈ p, W y = some y) : S = some p := by
  have hm : (p.length : Int) * by' ≤ 140737488355328 := by
    have : (p.length : Int) * by' ≤ 1048576 * 134217728 := Int.mul_le_mul (by omega) (by omega) (by omega) (by omega)
    omega
  rw [hS, mkG_ok hm]
  simp only [Option.bind_eq_bind, Option.bind_some]
  refine copy_all (F := L) (by omega) (fun i b hb => ?_) _ (by simp)
  rw [hL]
  simp only [lt_dec, decide_eq_true_eq, Option.bind_eq_bind]
  split
  · rename_i hi
    have e : idx b (i : Int) = some b[i] := idx_lt (by omega)
    rw [idx_lt hi]
    simp only [Option.bind_some, H _ (List.getElem_mem hi), e]
  · rfl
/-- equal to itself -/
theorem eqS_ok {α : Type} {p : List α} {E : α → α → Option Bool} {L : Int → Option Bool} {S : List α → List α → Option Bool} (hp : p.length ≤ 1048576)
    (hS : S p p = if (!decide ((p.length : Int) = (p.length : Int))) = true then (some false) else L 0)
    (hL : ∀ i : Nat, L (i : Int) = if (decide ((i : Int) < (p.length : Int))) = true then ((idx p (i : Int)) >>= fun y1 => (idx p (i : Int)) >>= fun y2 => (E y1 y2) >>= fun y3 => if (!y3) = true then (some false) else L (IntKind.wrap .i64 ((i : Int) + 1))) else some true)
    (H : ∀ y ∈ p, E y y = some true) : S p p = some true := by
  have key : ∀ i, i ≤ p.length → L (i : Nat) = some true := by
    refine back_ind ?_ ?_
    · rw [hL]; simp
    · intro i hi ih
      rw [hL]
      simp only [lt_dec, idx_lt hi, wrap_next hi (by omega), H _ (List.getElem_mem hi), Option.bind_eq_bind, Option.bind_some, ih]
      simp
  rw [hS]
  have := key 0 (by omega)
  simpa using this
theorem le_sum {α : Type} {z : α → Nat} : ∀ {p : List α} {y : α}, y ∈ p → z y ≤ (p.map z).sum
  | x :: p, y, h => by
    rw [sum_map_cons]
    rcases List.mem_cons.1 h with rfl | h
    · omega
    · have := le_sum (z := z) h; omega

/-! trees -/
def zGCol : GCol → Nat
  | ⟨a0, a1⟩ => a0.length
theorem szGCol_ok : ∀ x : GCol, okGCol x → SzOk wSzCol zGCol x
  | ⟨a0, a1⟩, h => by
    simp only [okGCol] at h
    obtain ⟨o0, o1⟩ := h
    intro n h0 h1
    have b0 : a0.length ≤ 9223372036854775807 := o0
    have hz : ((zGCol ⟨a0, a1⟩ : Nat) : Int) = (a0.length : Int) := by simp only [zGCol] <;> omega
    rw [hz, wSzCol]
    dsimp only
    rw [wrap_ok (n := n - (a0.length : Int)) (by omega) (by omega)]
    by_cases r0 : n - (a0.length : Int) < 0
    · rw [if_pos (by simpa using r0), if_neg (by omega)]
    rw [if_neg (by simpa using r0)]
    first | done | (rw [if_pos (by omega)]; done) | (rw [if_pos (by omega)]; congr 1 <;> omega) | (congr 1 <;> omega)
theorem toGCol_ok : ∀ x : GCol, zGCol x ≤ 1048576 → wToCol x = some x
  | ⟨a0, a1⟩, hz => by
    simp only [zGCol] at hz
    rw [wToCol]
theorem eqGCol_ok : ∀ x : GCol, zGCol x ≤ 1048576 → wEqCol x x = some true
  | ⟨a0, a1⟩, hz => by
    simp only [zGCol] at hz
    rw [wEqCol]
    simp
theorem szGColS_ok (p : (List GCol)) (h : (okL okGCol) p) : SzOk wSzColS (zL zGCol) p := szS_ok (F := wSzCol) h.1 (fun n => by rw [wSzColS]) (fun i x => by rw [wSzColS_L0]) (fun y hy => szGCol_ok y (h.2 y hy))
theorem toGColS_ok (p : (List GCol)) (hz : (zL zGCol) p ≤ 1048576) : wToColS p = some p := toS_ok (by' := 24) (W := wToCol) (by unfold zL at hz; omega) (by omega) (by rw [wToColS]) (fun i b => by rw [wToColS_L0]) (fun y hy => toGCol_ok y (by have h1 := le_sum (z := zGCol) hy; have h2 : zL zGCol p = p.length + (p.map zGCol).sum := rfl; omega))
theorem eqGColS_ok (p : (List GCol)) (hz : (zL zGCol) p ≤ 1048576) : wEqColS p p = some true := eqS_ok (E := wEqCol) (by unfold zL at hz; omega) (by rw [wEqColS]) (fun i => by rw [wEqColS_L0]) (fun y hy => eqGCol_ok y (by have h1 := le_sum (z := zGCol) hy; have h2 : zL zGCol p = p.length + (p.map zGCol).sum := rfl; omega))
def zGTable : GTable → Nat
  | ⟨a0, a1⟩ => a0.length + (zL zGCol) a1
theorem szGTable_ok : ∀ x : GTable, okGTable x → SzOk wSzTable zGTable x
  | ⟨a0, a1⟩, h => by
    simp only [okGTable] at h
    obtain ⟨o0, o1⟩ := h
    intro n h0 h1
    have b0 : a0.length ≤ 9223372036854775807 := o0
    have e1 : SzOk wSzColS (zL zGCol) a1 := szGColS_ok a1 o1
    have hz : ((zGTable ⟨a0, a1⟩ : Nat) : Int) = (a0.length : Int) + (((zL zGCol) a1 : Nat) : Int) := by simp only [zGTable] <;> omega
    rw [hz, wSzTable]
    dsimp only
    rw [wrap_ok (n := n - (a0.length : Int)) (by omega) (by omega)]
    by_cases r0 : n - (a0.length : Int) < 0
    · rw [if_pos (by simpa using r0), if_neg (by omega)]
    rw [if_neg (by simpa using r0)]
    rw [e1 (n - (a0.length : Int)) (by omega) (by omega)]
    simp only [Option.bind_eq_bind, Option.bind_some]
    rcases (Decidable.em ((((zL zGCol) a1 : Nat) : Int) ≤ (n - (a0.length : Int)))).symm with r1 | r1
    · rw [if_neg r1, if_pos (by decide)]; first | done | rw [if_neg (by omega)]
    rw [if_pos r1, if_neg (by simp; omega)]
    first | done | (rw [if_pos (by omega)]; done) | (rw [if_pos (by omega)]; congr 1 <;> omega) | (congr 1 <;> omega)
theorem toGTable_ok : ∀ x : GTable, zGTable x ≤ 1048576 → wToTable x = some x
  | ⟨a0, a1⟩, hz => by
    simp only [zGTable] at hz
    have e1 : wToColS a1 = some a1 := toGColS_ok a1 (by omega)
    rw [wToTable]
    simp only [e1, Option.bind_eq_bind, Option.bind_some]
theorem eqGTable_ok : ∀ x : GTable, zGTable x ≤ 1048576 → wEqTable x x = some true
  | ⟨a0, a1⟩, hz => by
    simp only [zGTable] at hz
    have e1 : wEqColS a1 a1 = some true := eqGColS_ok a1 (by omega)
    rw [wEqTable]
    simp [e1]
theorem szGTableS_ok (p : (List GTable)) (h : (okL okGTable) p) : SzOk wSzTableS (zL zGTable) p := szS_ok (F := wSzTable) h.1 (fun n => by rw [wSzTableS]) (fun i x => by rw [wSzTableS_L0]) (fun y hy => szGTable_ok y (h.2 y hy))
theorem toGTableS_ok (p : (List GTable)) (hz : (zL zGTable) p ≤ 1048576) : wToTableS p = some p := toS_ok (by' := 40) (W := wToTable) (by unfold zL at hz; omega) (by omega) (by rw [wToTableS]) (fun i b => by rw [wToTableS_L0]) (fun y hy => toGTable_ok y (by have h1 := le_sum (z := zGTable) hy; have h2 : zL zGTable p = p.length + (p.map zGTable).sum := rfl; omega))
theorem eqGTableS_ok (p : (List GTable)) (hz : (zL zGTable) p ≤ 1048576) : wEqTableS p p = some true := eqS_ok (E := wEqTable) (by unfold zL at hz; omega) (by rw [wEqTableS]) (fun i => by rw [wEqTableS_L0]) (fun y hy => eqGTable_ok y (by have h1 := le_sum (z := zGTable) hy; have h2 : zL zGTable p = p.length + (p.map zGTable).sum := rfl; omega))
def zGCatalog : GCatalog → Nat
  | ⟨a0⟩ => (zL zGTable) a0
theorem szGCatalog_ok : ∀ x : GCatalog, okGCatalog x → SzOk wSzCatalog zGCatalog x
  | ⟨a0⟩, h => by
    simp only [okGCatalog] at h
    have o0 := h
    intro n h0 h1
    have e0 : SzOk wSzTableS (zL zGTable) a0 := szGTableS_ok a0 o0
    have hz : ((zGCatalog ⟨a0⟩ : Nat) : Int) = (((zL zGTable) a0 : Nat) : Int) := by simp only [zGCatalog] <;> omega
    rw [hz, wSzCatalog]
    dsimp only
    rw [e0 n (by omega) (by omega)]
    simp only [Option.bind_eq_bind, Option.bind_some]
    rcases (Decidable.em ((((zL zGTable) a0 : Nat) : Int) ≤ n)).symm with r0 | r0
    · rw [if_neg r0, if_pos (by decide)]; first | done | rw [if_neg (by omega)]
    rw [if_pos r0, if_neg (by simp; omega)]
    first | done | (rw [if_pos (by omega)]; done) | (rw [if_pos (by omega)]; congr 1 <;> omega) | (congr 1 <;> omega)
theorem toGCatalog_ok : ∀ x : GCatalog, zGCatalog x ≤ 1048576 → wToCatalog x = some x
  | ⟨a0⟩, hz => by
    simp only [zGCatalog] at hz
    have e0 : wToTableS a0 = some a0 := toGTableS_ok a0 (by omega)
    rw [wToCatalog]
    simp only [e0, Option.bind_eq_bind, Option.bind_some]
theorem eqGCatalog_ok : ∀ x : GCatalog, zGCatalog x ≤ 1048576 → wEqCatalog x x = some true
  | ⟨a0⟩, hz => by
    simp only [zGCatalog] at hz
    have e0 : wEqTableS a0 a0 = some true := eqGTableS_ok a0 (by omega)
    rw [wEqCatalog]
    simp [e0]

/-! digits -/
theorem catS_ok {a b : List UInt8} (h : a.length + b.length ≤ 1073741824) : catS a b = some (a ++ b) := by
  unfold catS; rw [if_pos (Nat.le_trans h (by decide))]
theorem byte_digit {d : Nat} (h : d < 10) (x4 : List UInt8) : ofBytes ([(IntKind.wrap .u8 (IntKind.wrap .i64 (48 + (d : Int))))] : List Int) = some [UInt8.ofNat (48 + d)] := by
  match d, h with
  | 0, _ => rfl
  | 1, _ => rfl
  | 2, _ => rfl
  | 3, _ => rfl
  | 4, _ => rfl
  | 5, _ => rfl
  | 6, _ => rfl
  | 7, _ => rfl
  | 8, _ => rfl
  | 9, _ => rfl
theorem sDigits_loop (p0 : Int) : ∀ n : Nat, n ≤ 9223372036854775808 → ∀ out : List UInt8, out.length + Lib.nDigits n ≤ 1000 → ∀ x0 : Int, (x0 = n ∨ x0 = -(n : Int)) →
    sDigits_L0 p0 x0 out = some ((if p0 < 0 then [45] else []) ++ ((if n = 0 then [] else Lib.decDigits n) ++ out)) := by
  intro n
  induction n using Nat.strongRecOn with
  | ind n ih =>
    intro hn out ho x0 hx
    rw [sDigits_L0]
    by_cases h0 : n = 0
    · subst h0
      have : x0 = 0 := by omega
      subst this
      have hc : catS [45] out = some (45 :: out) := catS_ok (by simp; omega)
      by_cases hp : p0 < 0 <;> simp [hp, hc]
    · have hx0 : x0 ≠ 0 := by omega
      have hdiv : Int.tdiv x0 10 = ((n / 10 : Nat) : Int) ∨ Int.tdiv x0 10 = -((n / 10 : Nat) : Int) := by
        rcases hx with rfl | rfl
        · left; simp [Int.tdiv]
        · right; rw [Int.neg_tdiv]; simp [Int.tdiv]
      have hdd : IntKind.wrap .i64 (Int.tdiv x0 10) = Int.tdiv x0 10 := wrap_ok (by omega) (by omega)
      have hm : Int.tmod x0 10 = ((n % 10 : Nat) : Int) ∨ Int.tmod x0 10 = -((n % 10 : Nat) : Int) := by
        rcases hx with rfl | rfl
        · left; simp [Int.tmod]
        · right; rw [Int.neg_tmod]; simp [Int.tmod]
      have hlt : n % 10 < 10 := Nat.mod_lt _ (by omega)
      have hnd : Lib.nDigits (n / 10) ≤ Lib.nDigits n := by
        by_cases hs : n < 10
        · have : n / 10 = 0 := by omega
          rw [this, Lib.nDigits_small (by omega)]; exact Lib.nDigits_pos _
        · rw [Lib.nDigits_big hs]; omega
      have hnd1 : n / 10 ≠ 0 → Lib.nDigits (n / 10) + 1 = Lib.nDigits n := fun h => by rw [← Lib.nDigits_big (u := n) (by omega)]
      have hpos := Lib.nDigits_pos n
      have key : sDigits_J1 x0 p0 out ((n % 10 : Nat) : Int) = some ((if p0 < 0 then [45] else []) ++ (Lib.decDigits n ++ out)) := by
        rw [sDigits_J1, byte_digit hlt out]
        simp only [Option.bind_eq_bind, Option.bind_some]
        rw [catS_ok (by simp; omega)]
        simp only [Option.bind_some]
        rw [hdd]
        by_cases hs : n / 10 = 0
        · have hz : Int.tdiv x0 10 = 0 := by omega
          have hn10 : n < 10 := by omega
          rw [hz, sDigits_L0]
          have hmod : n % 10 = n := Nat.mod_eq_of_lt hn10
          have hc : catS [45] ([UInt8.ofNat (48 + n % 10)] ++ out) = some (45 :: ([UInt8.ofNat (48 + n % 10)] ++ out)) := catS_ok (by simp; omega)
          rw [Lib.decDigits_one hn10]
          by_cases hp : p0 < 0
          · simp [hp, hmod] at hc ⊢
            rw [hc]
          · simp [hp, hmod]
        · rw [ih (n / 10) (by omega) (by omega) _ (by have := hnd1 hs; simp; omega) _ hdiv, if_neg hs]
          conv => rhs; rw [Lib.decDigits, dif_neg (by omega)]
          simp
      rw [if_pos (by simp [hx0]), if_neg h0]
      by_cases hneg : Int.tmod x0 10 < 0
      · rw [if_pos (by simp [hneg])]
        have e : IntKind.wrap .i64 (0 - Int.tmod x0 10) = ((n % 10 : Nat) : Int) := by rw [wrap_ok (by omega) (by omega)]; omega
        rw [e, key]
      · rw [if_neg (by simp [hneg])]
        have e : Int.tmod x0 10 = ((n % 10 : Nat) : Int) := by omega
        rw [e, key]
/-- the reference's numeral is the library's -/
theorem sDigits_itoa (n : Int) (h1 : -9223372036854775808 ≤ n) (h2 : n ≤ 9223372036854775807) : sDigits n = some (Lib.itoa n) := by
  unfold sDigits
  by_cases h0 : n = 0
  · subst h0; simp; rw [Lib.itoa]; simp; rw [Lib.decDigits_one (by omega)]; rfl
  · have hl : Lib.nDigits n.natAbs ≤ 20 := Lib.nDigits_le20 _ (by omega)
    rw [if_neg (by simp [h0]), sDigits_loop n n.natAbs (by omega) [] (by simp; omega) n (by omega), if_neg (show ¬ n.natAbs = 0 by omega)]
    unfold Lib.itoa
    by_cases hn : n < 0
    · simp [hn]
    · have : n.natAbs = n.toNat := by omega
      simp [hn, this]

/-! quote -/
/-- each of a byte's places doubled -/
def dbl (q : UInt8) (s : List UInt8) : List UInt8 := s.flatMap fun c => if c = q then [q, q] else [c]
theorem index_cons1 (q b : UInt8) (l : List UInt8) : Lib.index (b :: l) [q] = if b = q then 0 else if Lib.index l [q] = -1 then -1 else Lib.index l [q] + 1 := by
  by_cases h : b = q
  · subst h; simp [Lib.index, List.isPrefixOf]
  · have : ¬ q = b := fun e => h e.symm
    simp [Lib.index, List.isPrefixOf, h, this]
theorem replaceK_cons_ne {q b : UInt8} (h : b ≠ q) (new l : List UInt8) : ∀ k, Lib.replaceK [q] new k (b :: l) = b :: Lib.replaceK [q] new k l
  | 0 => rfl
  | k + 1 => by
    have hge := Lib.index_ge l [q]
    rw [Lib.replaceK, Lib.replaceK, index_cons1, if_neg h]
    by_cases hi : Lib.index l [q] = -1
    · simp [hi]
    · have e : (Lib.index l [q] + 1).toNat = (Lib.index l [q]).toNat + 1 := by omega
      have e2 : ¬ Lib.index l [q] + 1 = -1 := by omega
      simp only [hi, if_false, beq_iff_eq, e2, e, List.length_cons, List.length_nil]
      rw [show (Lib.index l [q]).toNat + 1 + (0 + 1) = ((Lib.index l [q]).toNat + (0 + 1)) + 1 by omega, List.drop_succ_cons, List.take_succ_cons]
      rfl
theorem replaceAll_dbl (q : UInt8) (s : List UInt8) : Lib.replaceAll s [q] [q, q] = dbl q s := by
  unfold Lib.replaceAll Lib.replace Lib.replaceNum
  rw [if_neg (by simp), if_pos (by omega)]
  induction s with
  | nil => rfl
  | cons b l ih =>
    by_cases h : b = q
    · subst h
      rw [Lib.count_cons_eq, Nat.add_comm, Lib.replaceK_hit _ _ _ _ 0 (by rw [index_cons1, if_pos rfl]; rfl)]
      simp only [List.take_zero, List.nil_append, List.length_cons, List.length_nil, Nat.zero_add, List.drop_succ_cons, List.drop_zero]
      rw [ih]
      simp [dbl]
    · rw [Lib.count_cons_ne _ _ _ h, replaceK_cons_ne h, ih]
      simp [dbl, h]
theorem dbl_len (q : UInt8) (s : List UInt8) : (dbl q s).length ≤ 2 * s.length := by
  induction s with
  | nil => simp [dbl]
  | cons b l ih =>
    have : dbl q (b :: l) = (if b = q then [q, q] else [b]) ++ dbl q l := rfl
    rw [this, List.length_append, List.length_cons]
    split <;> simp <;> omega
def quoteT (q : UInt8) (s : List UInt8) : List UInt8 := [q] ++ dbl q s ++ [q]
theorem quoteT_len (q : UInt8) (s : List UInt8) : (quoteT q s).length ≤ 2 * s.length + 2 := by
  have := dbl_len q s
  simp [quoteT]; omega
theorem iQuoted_ok (s : List UInt8) (q : UInt8) (hs : s.length ≤ 2000000) : iQuoted s [q] = some (quoteT q s) := by
  have hl := dbl_len q s
  unfold iQuoted gStrings_ReplaceAll replG
  rw [catS_ok (by simp)]
  simp only [Option.bind_eq_bind, Option.bind_some, List.cons_append, List.nil_append]
  rw [replaceAll_dbl, if_pos ⟨hs, by simp, by simp, by omega⟩]
  simp only [Option.bind_some]
  rw [catS_ok (by simp; omega)]
  simp only [Option.bind_some]
  rw [catS_ok (by simp; omega)]
  simp [quoteT]
theorem toBytes_append (a b : List UInt8) : toBytes (a ++ b) = toBytes a ++ toBytes b := by simp [toBytes]
theorem toBytes_len (a : List UInt8) : (toBytes a).length = a.length := by simp [toBytes]
theorem ofBytes_toBytes (a : List UInt8) : ofBytes (toBytes a) = some a := by
  unfold ofBytes toBytes
  rw [if_pos]
  · rw [List.map_map]
    congr 1
    refine (List.map_congr_left (g := id) fun u _ => ?_).trans (List.map_id a)
    simp [Function.comp]
  · refine List.all_eq_true.2 fun n hn => ?_
    obtain ⟨u, _, rfl⟩ := List.mem_map.1 hn
    have := u.toNat_lt
    simp; omega
theorem appB_ok {a : List UInt8} {l : List Int} (b : List UInt8) (hl : l = toBytes b) (h : a.length + b.length ≤ 1073741824) : appG 1 (toBytes a) l = some (toBytes (a ++ b)) := by
  subst hl
  unfold appG
  rw [if_pos (by rw [toBytes_len, toBytes_len]; omega), toBytes_append]
theorem appB1 {a : List UInt8} (q : UInt8) (h : a.length + 1 ≤ 1073741824) : appG 1 (toBytes a) [(q.toNat : Int)] = some (toBytes (a ++ [q])) := appB_ok [q] rfl (by simpa using h)
theorem appC {a : List UInt8} (n : Int) (u : UInt8) (hu : n = u.toNat) (h : a.length + 1 ≤ 1073741824) : appG 1 (toBytes a) [n] = some (toBytes (a ++ [u])) := by subst hu; exact appB1 u h
theorem sL2Quote_loop (s : List UInt8) (q : UInt8) (hs : s.length ≤ 2000000) : ∀ i, i ≤ s.length → ∀ a : List UInt8, a.length + 2 * (s.length - i) + 2 ≤ 1073741824 →
    sL2Quote_L0 s (q.toNat : Int) (toBytes a) (i : Nat) = some (a ++ dbl q (s.drop i) ++ [q]) := by
  refine back_ind ?_ ?_
  · intro a ha
    rw [sL2Quote_L0]
    simp only [lt_dec, Nat.lt_irrefl, decide_false, Bool.false_eq_true, if_false, Option.bind_eq_bind]
    rw [appB1 q (by simp; omega)]
    simp only [Option.bind_some, ofBytes_toBytes]
    simp [dbl]
  · intro i hi ih a ha
    have e : idxS s (i : Int) = some (s[i].toNat : Int) := by simp [idxS, hi]
    rw [sL2Quote_L0]
    simp only [lt_dec, hi, decide_true, if_true, e, Option.bind_eq_bind, Option.bind_some]
    have hd : dbl q (s.drop i) = (if s[i] = q then [q, q] else [s[i]]) ++ dbl q (s.drop (i + 1)) := by
      rw [List.drop_eq_getElem_cons hi]; rfl
    rw [hd]
    by_cases hq : s[i] = q
    · rw [if_pos (by simp [hq]), appB1 q (by simp; omega)]
      simp only [Option.bind_some]
      rw [sL2Quote_J1]
      simp only [e, Option.bind_eq_bind, Option.bind_some]
      rw [hq, appB1 q (by simp; omega), Option.bind_some, wrap_next hi (by omega), ih _ (by simp; omega)]
      simp
    · have hne : ¬ ((s[i].toNat : Int) = (q.toNat : Int)) := fun h => hq (UInt8.toNat_inj.1 (by omega))
      rw [if_neg (by simpa using hne), sL2Quote_J1]
      simp only [e, Option.bind_eq_bind, Option.bind_some]
      rw [appB1 s[i] (by simp; omega), Option.bind_some, wrap_next hi (by omega), ih _ (by simp; omega)]
      simp [hq]
theorem sL2Quote_ok (s : List UInt8) (q : UInt8) (hs : s.length ≤ 2000000) : sL2Quote s (q.toNat : Int) = some (quoteT q s) := by
  unfold sL2Quote
  have := sL2Quote_loop s q hs 0 (Nat.zero_le _) [q] (by simp; omega)
  simpa [toBytes, quoteT] using this

/-! fold -/
/-- a letter in upper case -/
def fb (b : UInt8) : UInt8 := if 97 ≤ b.toNat ∧ b.toNat ≤ 122 then UInt8.ofNat (b.toNat - 32) else b
theorem fb_up {b : UInt8} (h : 97 ≤ b.toNat ∧ b.toNat ≤ 122) : ((fb b).toNat : Int) = (b.toNat : Int) - 32 := by
  unfold fb; rw [if_pos h, UInt8.toNat_ofNat']; omega
theorem fb_id {b : UInt8} (h : ¬ (97 ≤ b.toNat ∧ b.toNat ≤ 122)) : fb b = b := by unfold fb; rw [if_neg h]
theorem wrap_u8 {n : Int} (h0 : 0 ≤ n) (h1 : n < 256) : IntKind.wrap .u8 n = n := by
  unfold IntKind.wrap; simp [IntKind.signed, IntKind.bits]; omega
/-- the row between the rounds -/
def foldAt (s : List UInt8) (i : Nat) : List UInt8 := (s.take i).map fb ++ s.drop i
theorem foldAt_len (s : List UInt8) (i : Nat) : (foldAt s i).length = s.length := by simp [foldAt]; omega
theorem foldAt_get {s : List UInt8} {i : Nat} (h : i < s.length) : (foldAt s i)[i]? = some s[i] := by
  unfold foldAt
  rw [List.getElem?_append_right (by simp; omega)]
  simp [Nat.min_eq_left (Nat.le_of_lt h), h]
theorem foldAt_set {s : List UInt8} {i : Nat} (h : i < s.length) : (foldAt s i).set i (fb s[i]) = foldAt s (i + 1) := by
  unfold foldAt
  have hd := List.drop_eq_getElem_cons h
  rw [List.set_append_right _ _ (by simp; omega), List.take_succ_eq_append_getElem h, List.map_append]
  simp [Nat.min_eq_left (Nat.le_of_lt h)]
  rw [hd]; rfl
theorem foldAt_all (s : List UInt8) : foldAt s s.length = s.map fb := by simp [foldAt]
theorem idx_toBytes {l : List UInt8} {i : Nat} {b : UInt8} (h : l[i]? = some b) : idx (toBytes l) (i : Int) = some (b.toNat : Int) := by
  rw [idx_nat]; simp [toBytes, h]
theorem toBytes_set (l : List UInt8) (i : Nat) (b : UInt8) : (toBytes l).set i (b.toNat : Int) = toBytes (l.set i b) := by simp [toBytes, List.map_set]
theorem iFold_loop (s : List UInt8) (hs : s.length ≤ 1073741824) : ∀ i, i ≤ s.length → iFold_L0 s (i : Nat) (toBytes (foldAt s i)) = some (s.map fb) := by
  refine back_ind ?_ ?_
  · rw [iFold_L0]
    simp only [toBytes_len, lt_dec, Nat.lt_irrefl, decide_false, Bool.false_eq_true, if_false]
    rw [iFold_J2, foldAt_all]
    simp [ofBytes_toBytes]
  · intro i hi ih
    rw [iFold_L0]
    simp only [toBytes_len, lt_dec, hi, decide_true, if_true, idx_toBytes (foldAt_get hi), Option.bind_eq_bind, Option.bind_some, Int.toNat_natCast]
    have hb := s[i].toNat_lt
    by_cases h : 97 ≤ s[i].toNat ∧ s[i].toNat ≤ 122
    · have e : IntKind.wrap .u8 (IntKind.wrap .u8 ((s[i].toNat : Int) - 97) + 65) = ((fb s[i]).toNat : Int) := by
        rw [fb_up h, wrap_u8 (n := (s[i].toNat : Int) - 97) (by omega) (by omega), wrap_u8 (by omega) (by omega)]; omega
      rw [if_pos (by simp; omega), iFold_J1, e, toBytes_set, foldAt_set hi, wrap_next hi (by omega)]
      exact ih
    · rw [if_neg (by simp; omega), iFold_J1]
      have e2 : (s[i].toNat : Int) = ((fb s[i]).toNat : Int) := by rw [fb_id h]
      rw [e2, toBytes_set, foldAt_set hi, wrap_next hi (by omega)]
      exact ih
theorem sFold_loop (s : List UInt8) (hs : s.length ≤ 1073741824) : ∀ i, i ≤ s.length → sFold_L0 (i : Nat) (toBytes (foldAt s i)) = some (s.map fb) := by
  refine back_ind ?_ ?_
  · rw [sFold_L0]
    simp only [toBytes_len, foldAt_len, lt_dec, Nat.lt_irrefl, decide_false, Bool.false_eq_true, if_false]
    rw [sFold_J2, foldAt_all]
    simp [ofBytes_toBytes]
  · intro i hi ih
    rw [sFold_L0]
    simp only [toBytes_len, foldAt_len, lt_dec, hi, decide_true, if_true, idx_toBytes (foldAt_get hi), Option.bind_eq_bind, Option.bind_some, Int.toNat_natCast]
    have hb := s[i].toNat_lt
    by_cases h : 97 ≤ s[i].toNat ∧ s[i].toNat ≤ 122
    · have e : IntKind.wrap .u8 ((s[i].toNat : Int) - 32) = ((fb s[i]).toNat : Int) := by
        rw [fb_up h, wrap_u8 (by omega) (by omega)]
      rw [if_pos (by simp; omega), sFold_J1, e, toBytes_set, foldAt_set hi, wrap_next hi (by omega)]
      exact ih
    · rw [if_neg (by simp; omega), sFold_J1]
      have e2 : (s[i].toNat : Int) = ((fb s[i]).toNat : Int) := by rw [fb_id h]
      rw [e2, toBytes_set, foldAt_set hi, wrap_next hi (by omega)]
      exact ih
theorem iFold_ok (s : List UInt8) (hs : s.length ≤ 1073741824) : iFold s = some (s.map fb) := by
  unfold iFold
  have := iFold_loop s hs 0 (Nat.zero_le _)
  simpa [foldAt] using this
theorem sFold_ok (s : List UInt8) (hs : s.length ≤ 1073741824) : sFold s = some (s.map fb) := by
  unfold sFold
  have := sFold_loop s hs 0 (Nat.zero_le _)
  simpa [foldAt] using this

/-! number -/
/-- what digits spell -/
def valF (acc : Nat) (l : List UInt8) : Nat := l.foldl (fun a c => a * 10 + (c.toNat - 48)) acc
theorem valF_nil (acc : Nat) : valF acc [] = acc := rfl
theorem valF_cons (acc : Nat) (c : UInt8) (r : List UInt8) : valF acc (c :: r) = valF (acc * 10 + (c.toNat - 48)) r := by unfold valF; rw [List.foldl_cons]
def digP (l : List UInt8) : Prop := ∀ c ∈ l, 48 ≤ c.toNat ∧ c.toNat ≤ 57
theorem valF_ge (l : List UInt8) : ∀ acc : Nat, acc ≤ valF acc l := by
  induction l with
  | nil => intro acc; rw [valF_nil]; exact Nat.le_refl _
  | cons c r ih =>
    intro acc
    have := ih (acc * 10 + (c.toNat - 48))
    rw [valF_cons]; omega
theorem valF_append (l m : List UInt8) (acc : Nat) : valF acc (l ++ m) = valF (valF acc l) m := List.foldl_append
theorem decDigits_dig (u : Nat) : digP (Lib.decDigits u) ∧ valF 0 (Lib.decDigits u) = u := by
  induction u using Nat.strongRecOn with
  | ind u ih =>
    rw [Lib.decDigits]
    have hb : ∀ d, d < 10 → (UInt8.ofNat (48 + d)).toNat = 48 + d := fun d hd => by
      rw [UInt8.toNat_ofNat']; omega
    by_cases h : u < 10
    · rw [dif_pos h]
      refine ⟨fun c hc => ?_, ?_⟩
      · rw [List.mem_singleton] at hc
        subst hc; rw [hb u h]; omega
      · rw [valF_cons, valF_nil, hb u h]; omega
    · rw [dif_neg h]
      obtain ⟨h1, h2⟩ := ih (u / 10) (by omega)
      have hm : u % 10 < 10 := Nat.mod_lt _ (by omega)
      refine ⟨fun c hc => ?_, ?_⟩
      · rcases List.mem_append.1 hc with h3 | h3
        · exact h1 c h3
        · rw [List.mem_singleton] at h3
          subst h3; rw [hb _ hm]; omega
      · rw [valF_append, h2]
        rw [valF_cons, valF_nil, hb _ hm]; omega
theorem parseUint10_val : ∀ (l : List UInt8) (acc : Nat), digP l → valF acc l ≤ 9223372036854775807 → Lib.parseUint10 acc l = .ok (valF acc l)
  | [], acc, _, _ => rfl
  | c :: r, acc, hd, hv => by
    have hc := hd c List.mem_cons_self
    have hg := valF_ge r (acc * 10 + (c.toNat - 48))
    rw [valF_cons] at hv ⊢
    rw [Lib.parseUint10, if_pos hc, if_neg (by omega), if_neg (by omega)]
    exact parseUint10_val r _ (fun x hx => hd x (List.mem_cons_of_mem _ hx)) hv
theorem decDigits_ne (u : Nat) : Lib.decDigits u ≠ [] := fun h => by
  have := Lib.decDigits_length u
  rw [h] at this
  have := Lib.nDigits_pos u
  simp at *
  omega
theorem atoiAll_itoa (n : Nat) (hn : n ≤ 9223372036854775807) : Lib.atoiAll (Lib.itoa (n : Int)) = .ok (n : Int) := by
  rw [Lib.itoa_nonneg]
  obtain ⟨h1, h2⟩ := decDigits_dig n
  have hne := decDigits_ne n
  generalize hl : Lib.decDigits n = l at *
  cases l with
  | nil => exact absurd rfl hne
  | cons c r =>
    have hc := h1 c List.mem_cons_self
    have hp := parseUint10_val (c :: r) 0 h1 (by omega)
    rw [Lib.atoiAll_plain c r (by omega) (by omega)]
    unfold Lib.parseMag
    rw [if_neg (by simp), hp, h2]
    unfold Lib.signless
    simp only
    rw [if_neg (by omega)]
/-- the library's way: the number whose numeral the text is, if there is one -/
theorem numG_of (s : List UInt8) (m : Nat) (hm : m ≤ 9223372036854775807) (h : Lib.itoa (m : Int) = s) : numG s = ((m : Int), true) := by
  unfold numG
  rw [← h, atoiAll_itoa m hm]
  simp only
  rw [if_neg (by omega), if_pos trivial]
theorem numG_none (s : List UInt8) (h : ∀ m : Nat, m ≤ 9223372036854775807 → Lib.itoa (m : Int) ≠ s) : numG s = (0, false) := by
  unfold numG
  split
  · rename_i n hn
    have hb := Lib.atoiAll_bounds hn
    by_cases h0 : n < 0
    · rw [if_pos h0]
    · rw [if_neg h0]
      obtain ⟨m, rfl⟩ : ∃ m : Nat, n = m := ⟨n.toNat, by omega⟩
      rw [if_neg (h m (by omega))]
  · rfl
theorem nDigits_lt : ∀ (k u : Nat), u < 10 ^ (k + 1) → Lib.nDigits u ≤ k + 1
  | 0, u, h => by rw [Lib.nDigits_small (by simpa using h)]; omega
  | k + 1, u, h => by
    by_cases h1 : u < 10
    · rw [Lib.nDigits_small h1]; omega
    · rw [Lib.nDigits_big h1]
      have := nDigits_lt k (u / 10) (by rw [Nat.pow_succ] at h; omega)
      omega

/-! number2 -/
theorem idxS_at {s : List UInt8} {i : Nat} (h : i < s.length) : idxS s (i : Int) = some (s[i].toNat : Int) := by simp [idxS, h]
theorem sNumber_loop (s : List UInt8) (hs : s.length ≤ 19) : ∀ i, i ≤ s.length → ∀ n : Nat, n ≤ 9223372036854775807 →
    ∃ r, sNumber_L0 s (n : Int) (i : Nat) = some r ∧ (r = (0, false) ∨ ∃ m : Nat, m ≤ 9223372036854775807 ∧ Lib.itoa (m : Int) = s ∧ r = ((m : Int), true)) ∧
      (digP (s.drop i) → valF n (s.drop i) ≤ 9223372036854775807 → Lib.itoa (valF n (s.drop i) : Int) = s → r = ((valF n (s.drop i) : Int), true)) := by
  refine back_ind ?_ ?_
  · intro n hn
    rw [sNumber_L0]
    simp only [lt_dec, Nat.lt_irrefl, decide_false, Bool.false_eq_true, if_false, List.drop_length, valF_nil, Option.bind_eq_bind]
    rw [sDigits_itoa n (by omega) (by omega), Option.bind_some]
    by_cases h : Lib.itoa (n : Int) = s
    · rw [if_neg (by simp [h])]
      exact ⟨_, rfl, .inr ⟨n, hn, h, rfl⟩, fun _ _ _ => rfl⟩
    · rw [if_pos (by simp [h])]
      exact ⟨_, rfl, .inl rfl, fun _ _ h2 => absurd h2 h⟩
  · intro i hi ih n hn
    rw [sNumber_L0]
    have hb := s[i].toNat_lt
    simp only [lt_dec, hi, decide_true, if_true, idxS_at hi, Option.bind_eq_bind, Option.bind_some]
    have hdrop : s.drop i = s[i] :: s.drop (i + 1) := List.drop_eq_getElem_cons hi
    by_cases hd : 48 ≤ s[i].toNat ∧ s[i].toNat ≤ 57
    · obtain ⟨d, hd1⟩ : ∃ d, s[i].toNat = d + 48 := ⟨s[i].toNat - 48, by omega⟩
      have c1 : decide ((s[i].toNat : Int) < 48) = false := by simp; omega
      have c2 : decide (57 < (s[i].toNat : Int)) = false := by simp; omega
      simp only [c1, c2, Bool.and_self, Bool.true_and, beq_self_eq_true, if_true, Option.bind_some, Bool.false_eq_true, if_false]
      have e1 : IntKind.wrap .i64 (IntKind.wrap .i64 (s[i].toNat : Int) - 48) = (d : Int) := by
        rw [wrap_ok (n := (s[i].toNat : Int)) (by omega) (by omega), wrap_ok (by omega) (by omega)]; omega
      have e2 : IntKind.wrap .i64 (9223372036854775807 - (d : Int)) = ((9223372036854775807 - d : Nat) : Int) := by rw [wrap_ok (by omega) (by omega)]; omega
      have e3 : IntKind.wrap .i64 (Int.tdiv ((9223372036854775807 - d : Nat) : Int) 10) = (((9223372036854775807 - d) / 10 : Nat) : Int) := by
        have : Int.tdiv ((9223372036854775807 - d : Nat) : Int) 10 = (((9223372036854775807 - d) / 10 : Nat) : Int) := by simp [Int.tdiv]
        rw [this, wrap_ok (by omega) (by omega)]
      rw [e1, e2, e3]
      have hv : valF n (s.drop i) = valF (n * 10 + d) (s.drop (i + 1)) := by rw [hdrop, valF_cons, hd1]; simp
      by_cases ho : (9223372036854775807 - d) / 10 < n
      · rw [if_pos (decide_eq_true (by omega))]
        refine ⟨_, rfl, .inl rfl, fun _ h2 _ => ?_⟩
        have := valF_ge (s.drop (i + 1)) (n * 10 + d)
        omega
      · rw [if_neg (by rw [decide_eq_true_eq]; omega)]
        have e4 : IntKind.wrap .i64 (10 * (n : Int)) = ((10 * n : Nat) : Int) := by rw [wrap_ok (by omega) (by omega)]; omega
        have e5 : IntKind.wrap .i64 (((10 * n : Nat) : Int) + (d : Int)) = ((n * 10 + d : Nat) : Int) := by rw [wrap_ok (by omega) (by omega)]; omega
        rw [e4, e5, wrap_next hi (by omega), hv]
        obtain ⟨r, r1, r2, r3⟩ := ih (n * 10 + d) (by omega)
        refine ⟨r, r1, r2, fun h1 => r3 fun c hc => h1 c ?_⟩
        rw [hdrop]; exact List.mem_cons_of_mem _ hc
    · have hno : ¬ digP (s.drop i) := fun h => hd (h _ (by rw [hdrop]; exact List.mem_cons_self))
      refine ⟨(0, false), ?_, .inl rfl, fun h1 => absurd h1 hno⟩
      by_cases h1 : s[i].toNat < 48
      · have c1 : decide ((s[i].toNat : Int) < 48) = true := by simp; omega
        simp [c1]
      · have c1 : decide ((s[i].toNat : Int) < 48) = false := by simp; omega
        have c2 : decide (57 < (s[i].toNat : Int)) = true := by simp; omega
        simp only [c1, c2, Bool.and_self, Bool.true_and, beq_self_eq_true, if_true, Option.bind_some, Bool.false_eq_true, if_false]
/-- both ways to read a number -/
theorem sNumber_ok (s : List UInt8) : sNumber s = some (numG s) := by
  by_cases hm : ∃ m : Nat, m ≤ 9223372036854775807 ∧ Lib.itoa (m : Int) = s
  · obtain ⟨m, hm, rfl⟩ := hm
    rw [numG_of _ m hm rfl, Lib.itoa_nonneg]
    obtain ⟨d1, d2⟩ := decDigits_dig m
    have hl : Lib.nDigits m ≤ 19 := nDigits_lt 18 m (by omega)
    have hp := Lib.nDigits_pos m
    have hlen := Lib.decDigits_length m
    unfold sNumber
    simp only [Option.bind_eq_bind, Option.bind_some]
    have c1 : decide (((Lib.decDigits m).length : Int) < 1) = false := by simp; omega
    have c2 : decide (19 < ((Lib.decDigits m).length : Int)) = false := by simp; omega
    rw [c1, c2]
    simp only [Bool.false_eq_true, if_false]
    obtain ⟨r, r1, _, r3⟩ := sNumber_loop (Lib.decDigits m) (by omega) 0 (Nat.zero_le _) 0 (by omega)
    rw [List.drop_zero] at r3
    have := r3 d1 (by omega) (by rw [d2, Lib.itoa_nonneg])
    rw [d2] at this
    subst this
    exact r1
  · have hno : ∀ m : Nat, m ≤ 9223372036854775807 → Lib.itoa (m : Int) ≠ s := fun m h e => hm ⟨m, h, e⟩
    rw [numG_none s hno]
    unfold sNumber
    simp only [Option.bind_eq_bind, Option.bind_some]
    by_cases c : 1 ≤ s.length ∧ s.length ≤ 19
    · have c1 : decide ((s.length : Int) < 1) = false := by simp; omega
      have c2 : decide (19 < (s.length : Int)) = false := by simp; omega
      rw [c1, c2]
      simp only [Bool.false_eq_true, if_false]
      obtain ⟨r, r1, r2, _⟩ := sNumber_loop s c.2 0 (Nat.zero_le _) 0 (by omega)
      rcases r2 with rfl | ⟨m, h1, h2, _⟩
      · exact r1
      · exact absurd h2 (hno m h1)
    · have : (if decide ((s.length : Int) < 1) = true then true else decide (19 < (s.length : Int))) = true := by
        by_cases h : s.length < 1
        · simp; omega
        · simp; omega
      rw [this]; rfl

/-! words -/
def words : List (List UInt8) := [[83, 69, 76, 69, 67, 84], [68, 73, 83, 84, 73, 78, 67, 84], [70, 82, 79, 77], [74, 79, 73, 78], [79, 78], [87, 72, 69, 82, 69], [79, 82, 68, 69, 82], [66, 89], [65, 83, 67], [68, 69, 83, 67], [76, 73, 77, 73, 84], [65, 83], [65, 78, 68], [79, 82], [78, 79, 84], [73, 83], [73, 78], [66, 69, 84, 87, 69, 69, 78], [69, 88, 73, 83, 84, 83], [78, 85, 76, 76], [84, 82, 85, 69], [70, 65, 76, 83, 69], [73, 78, 83, 69, 82, 84], [73, 78, 84, 79], [86, 65, 76, 85, 69, 83], [85, 80, 68, 65, 84, 69], [83, 69, 84], [68, 69, 76, 69, 84, 69]]
theorem iKeywords_ok : iKeywords = some words := by decide +kernel
theorem sL2Words_ok : sL2Words = some ([] :: words) := rfl
theorem words_len : words.length = 28 := rfl
theorem words_short : ∀ w ∈ words, w.length ≤ 8 := by decide
/-- where the word stands: one more than its place, or 0 -/
theorem key_loop (f : List UInt8) : ∀ i, i ≤ 28 → ∃ k : Int, gSlices_Index_Sstring_string_L0 words f (i : Nat) = some k ∧ -1 ≤ k ∧ k ≤ 27 ∧ sKeyOf_L0 f ([] :: words) ((i + 1 : Nat) : Int) = some (k + 1) ∧ (8 < f.length → k = -1) := by
  refine back_ind ?_ ?_
  · refine ⟨-1, ?_, by omega, by omega, ?_, fun _ => rfl⟩
    · rw [gSlices_Index_Sstring_string_L0]; rfl
    · rw [sKeyOf_L0]; rfl
  · intro i hi ih
    obtain ⟨k, h1, h2, h3, h4, h5⟩ := ih
    have hi' : i < words.length := hi
    have hi2 : i + 1 < ([] :: words : List (List UInt8)).length := by simp only [List.length_cons, words_len]; omega
    rw [gSlices_Index_Sstring_string_L0, sKeyOf_L0]
    simp only [lt_dec, hi', hi2, decide_true, if_true, idx_lt hi', idx_lt hi2, Option.bind_eq_bind, Option.bind_some, List.getElem_cons_succ]
    by_cases he : f = words[i]
    · subst he
      rw [if_pos (by simp), if_pos (by simp)]
      refine ⟨i, rfl, by omega, by omega, rfl, fun h => ?_⟩
      have := words_short _ (List.getElem_mem hi')
      omega
    · rw [if_neg (by simpa using he), if_neg (by simpa using fun e => he e.symm), wrap_next hi' (by rw [words_len]; omega), wrap_ok (by omega) (by omega)]
      exact ⟨k, h1, h2, h3, h4, h5⟩
theorem keyOf_eq (s : List UInt8) (hs : s.length ≤ 1073741824) : ∃ k : Int, iKeyOf s = some k ∧ sKeyOf s = some k ∧ 0 ≤ k ∧ k ≤ 28 ∧ (8 < s.length → k = 0) := by
  obtain ⟨k, h1, h2, h3, h4, h5⟩ := key_loop (s.map fb) 0 (by omega)
  have hi : iKeyOf s = some (k + 1) := by
    unfold iKeyOf gSlices_Index_Sstring_string
    rw [iKeywords_ok, iFold_ok s hs]
    have h1' : gSlices_Index_Sstring_string_L0 words (s.map fb) 0 = some k := h1
    simp only [Option.bind_eq_bind, Option.bind_some, h1']
    rw [wrap_ok (by omega) (by omega)]
  refine ⟨k + 1, hi, ?_, by omega, by omega, fun h => by rw [h5 (by simpa using h)]; rfl⟩
  unfold sKeyOf
  by_cases h8 : 8 < s.length
  · rw [if_pos (decide_eq_true (by omega)), h5 (by simpa using h8)]; rfl
  · rw [if_neg (by rw [decide_eq_true_eq]; omega), sFold_ok s hs, sL2Words_ok]
    simp only [Option.bind_eq_bind, Option.bind_some]
    exact h4
theorem part_eq (n : Int) : ∃ b f, sL2Letter n = some b ∧ iIsStart n = some b ∧ sL2Figure n = some f ∧ iIsDigit n = some f ∧ iIsPart n = some (b || f) := by
  have hd : ∃ b, sL2Letter n = some b := by
    unfold sL2Letter
    simp only [Option.bind_eq_bind, Option.bind_some]
    generalize (if decide (97 ≤ n) = true then decide (n ≤ 122) else false) = y1
    cases y1 <;> exact ⟨_, rfl⟩
  obtain ⟨b, hb⟩ := hd
  have hs : iIsStart n = some b := hb
  have hf : ∃ f, sL2Figure n = some f := ⟨_, rfl⟩
  obtain ⟨f, hf⟩ := hf
  have hg : iIsDigit n = some f := hf
  refine ⟨b, f, hb, hs, hf, hg, ?_⟩
  unfold iIsPart
  rw [hs, hg]
  cases b <;> cases f <;> rfl
theorem nameOk_eqT (s : List UInt8) : iNameOk s = sNameOk s ∧ ∃ b, sNameOk s = some b ∧ (b = true ↔ 1 ≤ s.length ∧ s.length ≤ 20) := by
  unfold iNameOk sNameOk sL1In
  simp only [Option.bind_eq_bind, Option.bind_some]
  refine ⟨by simp, _, rfl, ?_⟩
  by_cases h1 : (1 : Int) ≤ (s.length : Int)
  · simp [h1]; omega
  · simp [h1]; omega
theorem plain_loop (s : List UInt8) (hs : s.length ≤ 1073741824) : ∀ i, i ≤ s.length → ∃ b, iPlainName_L0 s (i : Nat) = some b ∧ sPlainName_L0 s (i : Nat) = some b := by
  refine back_ind ?_ ?_
  · rw [iPlainName_L0, sPlainName_L0]
    simp
  · intro i hi ih
    obtain ⟨c, h1, h2⟩ := ih
    rw [iPlainName_L0, sPlainName_L0]
    obtain ⟨b, f, e1, _, e3, _, e5⟩ := part_eq (s[i].toNat : Int)
    simp only [lt_dec, hi, decide_true, if_true, idxS_at hi, e1, e5, Option.bind_eq_bind, Option.bind_some, wrap_next hi (by omega)]
    push_cast at h1 h2
    cases b <;> cases f <;> simp [e3, h1, h2]
theorem plainName_eq (s : List UInt8) (hs : s.length ≤ 1073741824) : ∃ b, iPlainName s = some b ∧ sPlainName s = some b := by
  obtain ⟨n1, nb, n2, n3⟩ := nameOk_eqT s
  obtain ⟨k, k1, k2, k3, k4, _⟩ := keyOf_eq s hs
  obtain ⟨c, c1, c2⟩ := plain_loop s hs 0 (Nat.zero_le _)
  have c1' : iPlainName_L0 s 0 = some c := c1
  have c2' : sPlainName_L0 s 0 = some c := c2
  unfold iPlainName sPlainName
  rw [n1, n2]
  cases nb with
  | false => exact ⟨false, by simp, by simp⟩
  | true =>
    have hl := (n3.1 rfl).1
    have h0 : 0 < s.length := by omega
    have hi : idxS s 0 = some (s[0].toNat : Int) := idxS_at h0
    obtain ⟨_, f, _, _, e3, e4, _⟩ := part_eq (s[0].toNat : Int)
    cases f with
    | true => exact ⟨false, by simp [hi, e4], by simp [hi, e3]⟩
    | false =>
      by_cases hk : k = 0
      · exact ⟨c, by simp [hi, e4, k1, hk, c1'], by simp [hi, e3, k2, hk, c2']⟩
      · have : 0 < k := by omega
        exact ⟨false, by simp [hi, e4, k1, hk], by simp [hi, e3, k2, this]⟩
theorem nameText_eq (s : List UInt8) (hs : s.length ≤ 1048576) : ∃ t, iNameText s = some t ∧ sNameText s = some t ∧ t.length ≤ 42 := by
  obtain ⟨n1, nb, n2, n3⟩ := nameOk_eqT s
  obtain ⟨b, p1, p2⟩ := plainName_eq s (by omega)
  unfold iNameText sNameText
  rw [n1, n2, p1, p2]
  cases nb with
  | false => exact ⟨[], by simp, by simp, by simp⟩
  | true =>
    have hl := n3.1 rfl
    cases b with
    | true => exact ⟨s, by simp, by simp, by omega⟩
    | false =>
      have hq := quoteT_len 34 s
      have h1 := iQuoted_ok s 34 (by omega)
      have h2 := sL2Quote_ok s 34 (by omega)
      have e : ((34 : UInt8).toNat : Int) = 34 := rfl
      rw [e] at h2
      exact ⟨quoteT 34 s, by simp [h1], by simp [h2], by omega⟩
theorem quoteText_eq (s : List UInt8) (hs : s.length ≤ 1048576) : iQuoteText s = some (quoteT 39 s) ∧ sQuoteText s = some (quoteT 39 s) := by
  have h1 := iQuoted_ok s 39 (by omega)
  have h2 := sL2Quote_ok s 39 (by omega)
  have e : ((39 : UInt8).toNat : Int) = 39 := rfl
  rw [e] at h2
  unfold iQuoteText sQuoteText
  exact ⟨by simp [h1], by simp [h2]⟩

/-! tokens -/
def signsL : List (List UInt8) := [[40], [41], [44], [46], [42], [43], [45], [47], [37], [61], [60, 62], [60], [60, 61], [62], [62, 61], [124, 124]]
theorem index_loop (l : List (List UInt8)) (p : List UInt8) (hl : l.length ≤ 1048576) : ∀ i, i ≤ l.length → ∃ k : Int, gSlices_Index_Sstring_string_L0 l p (i : Nat) = some k ∧ (0 ≤ k ↔ p ∈ l.drop i) := by
  refine back_ind ?_ ?_
  · rw [gSlices_Index_Sstring_string_L0]
    exact ⟨-1, by simp, by simp⟩
  · intro i hi ih
    obtain ⟨k, h1, h2⟩ := ih
    rw [gSlices_Index_Sstring_string_L0, List.drop_eq_getElem_cons hi]
    simp only [lt_dec, hi, decide_true, if_true, idx_lt hi, Option.bind_eq_bind, Option.bind_some, wrap_next hi (by omega), List.mem_cons]
    by_cases he : p = l[i]
    · rw [if_pos (by simpa using he)]
      exact ⟨i, rfl, fun _ => .inl he, fun _ => by omega⟩
    · rw [if_neg (by simpa using he)]
      exact ⟨k, h1, h2.trans ⟨.inr, fun h => h.resolve_left he⟩⟩
theorem iSignOk_ok (p : List UInt8) : iSignOk p = some (decide (p ∈ signsL)) := by
  obtain ⟨k, h1, h2⟩ := index_loop signsL p (by decide) 0 (Nat.zero_le _)
  have h1' : gSlices_Index_Sstring_string_L0 signsL p 0 = some k := h1
  have e : iSigns = some signsL := rfl
  unfold iSignOk gSlices_Contains_Sstring_string gSlices_Index_Sstring_string
  rw [e]
  simp only [Option.bind_eq_bind, Option.bind_some, h1']
  rw [List.drop_zero] at h2
  rw [Option.some.injEq]
  exact decide_eq_decide.2 h2
theorem sSignOk_ok (p : List UInt8) : sSignOk p = some (decide (p ∈ signsL)) := by
  by_cases h1 : p = [40]
  · subst h1; rfl
  by_cases h2 : p = [41]
  · subst h2; rfl
  by_cases h3 : p = [44]
  · subst h3; rfl
  by_cases h4 : p = [46]
  · subst h4; rfl
  by_cases h5 : p = [42]
  · subst h5; rfl
  by_cases h6 : p = [43]
  · subst h6; rfl
  by_cases h7 : p = [45]
  · subst h7; rfl
  by_cases h8 : p = [47]
  · subst h8; rfl
  by_cases h9 : p = [37]
  · subst h9; rfl
  by_cases h10 : p = [61]
  · subst h10; rfl
  by_cases h11 : p = [60, 62]
  · subst h11; rfl
  by_cases h12 : p = [60]
  · subst h12; rfl
  by_cases h13 : p = [60, 61]
  · subst h13; rfl
  by_cases h14 : p = [62]
  · subst h14; rfl
  by_cases h15 : p = [62, 61]
  · subst h15; rfl
  have hm : p ∈ signsL ↔ p = [124, 124] := by
    constructor
    · intro h
      rcases List.mem_cons.1 h with h | h
      · exact absurd h h1
      rcases List.mem_cons.1 h with h | h
      · exact absurd h h2
      rcases List.mem_cons.1 h with h | h
      · exact absurd h h3
      rcases List.mem_cons.1 h with h | h
      · exact absurd h h4
      rcases List.mem_cons.1 h with h | h
      · exact absurd h h5
      rcases List.mem_cons.1 h with h | h
      · exact absurd h h6
      rcases List.mem_cons.1 h with h | h
      · exact absurd h h7
      rcases List.mem_cons.1 h with h | h
      · exact absurd h h8
      rcases List.mem_cons.1 h with h | h
      · exact absurd h h9
      rcases List.mem_cons.1 h with h | h
      · exact absurd h h10
      rcases List.mem_cons.1 h with h | h
      · exact absurd h h11
      rcases List.mem_cons.1 h with h | h
      · exact absurd h h12
      rcases List.mem_cons.1 h with h | h
      · exact absurd h h13
      rcases List.mem_cons.1 h with h | h
      · exact absurd h h14
      rcases List.mem_cons.1 h with h | h
      · exact absurd h h15
      exact List.mem_singleton.1 h
    · intro h; rw [h]; decide
  rw [decide_eq_decide.2 hm]
  unfold sSignOk
  rw [if_neg (by rw [decide_eq_true_eq]; exact h1), if_neg (by rw [decide_eq_true_eq]; exact h2), if_neg (by rw [decide_eq_true_eq]; exact h3), if_neg (by rw [decide_eq_true_eq]; exact h4), if_neg (by rw [decide_eq_true_eq]; exact h5), if_neg (by rw [decide_eq_true_eq]; exact h6), if_neg (by rw [decide_eq_true_eq]; exact h7), if_neg (by rw [decide_eq_true_eq]; exact h8), if_neg (by rw [decide_eq_true_eq]; exact h9), if_neg (by rw [decide_eq_true_eq]; exact h10), if_neg (by rw [decide_eq_true_eq]; exact h11), if_neg (by rw [decide_eq_true_eq]; exact h12), if_neg (by rw [decide_eq_true_eq]; exact h13), if_neg (by rw [decide_eq_true_eq]; exact h14), if_neg (by rw [decide_eq_true_eq]; exact h15)]
  unfold sSignOk_J0
  cases decide (p = [124, 124]) <;> rfl
def okT (x : GToken) : Bool := (sTokenOk x).getD false
theorem tokenOk_eq (x : GToken) (hx : x.text.length ≤ 1048576) : iTokenOk x = some (okT x) ∧ sTokenOk x = some (okT x) := by
  suffices h : ∃ b, iTokenOk x = some b ∧ sTokenOk x = some b by
    obtain ⟨b, h1, h2⟩ := h
    have : okT x = b := by simp [okT, h2]
    rw [this]; exact ⟨h1, h2⟩
  unfold iTokenOk sTokenOk
  by_cases k1 : x.kind = 1
  · obtain ⟨k, e1, e2, e3, _, _⟩ := keyOf_eq x.text (by omega)
    simp only [k1, decide_true, if_true, e1, e2, iFold_ok x.text (by omega), sFold_ok x.text (by omega), Option.bind_eq_bind, Option.bind_some]
    by_cases hk : k = 0
    · exact ⟨false, by simp [hk], by simp [hk]⟩
    · have : 0 < k := by omega
      exact ⟨decide (x.text.map fb = x.text), by simp [hk], by simp [this]⟩
  by_cases k2 : x.kind = 2
  · obtain ⟨n1, nb, n2, _⟩ := nameOk_eqT x.text
    exact ⟨nb, by simp [k2, n1, n2], by simp [k2, n2]⟩
  by_cases k3 : x.kind = 3
  · have hn : iNumber x.text = some (numG x.text) := by unfold iNumber numO; rw [if_pos (by omega)]
    exact ⟨(numG x.text).2, by simp [k3, hn], by simp [k3, sNumber_ok]⟩
  by_cases k4 : x.kind = 4
  · exact ⟨decide ((x.text.length : Int) ≤ 40), by simp [k4], by simp [k4]⟩
  by_cases k5 : x.kind = 5
  · exact ⟨decide (x.text ∈ signsL), by simp [k5, iSignOk_ok], by simp [k5, sSignOk_ok]⟩
  · exact ⟨false, by simp [k1, k2, k3, k4, k5], by simp [k1, k2, k3, k4, k5]⟩
def tt (x : GToken) : List UInt8 := (sTokenText x).getD []
theorem tokenText_eq (x : GToken) (hx : x.text.length ≤ 1048576) : iTokenText x = some (tt x) ∧ sTokenText x = some (tt x) ∧ (tt x).length ≤ 2 * x.text.length + 42 := by
  suffices h : ∃ t, iTokenText x = some t ∧ sTokenText x = some t ∧ t.length ≤ 2 * x.text.length + 42 by
    obtain ⟨t, h1, h2, h3⟩ := h
    have : tt x = t := by simp [tt, h2]
    rw [this]; exact ⟨h1, h2, h3⟩
  obtain ⟨o1, o2⟩ := tokenOk_eq x hx
  unfold iTokenText sTokenText
  rw [o1, o2]
  cases okT x with
  | false => exact ⟨[], by simp, by simp, by simp⟩
  | true =>
    by_cases k2 : x.kind = 2
    · obtain ⟨t, h1, h2, h3⟩ := nameText_eq x.text hx
      exact ⟨t, by simp [k2, h1], by simp [k2, h2], by omega⟩
    by_cases k4 : x.kind = 4
    · obtain ⟨h1, h2⟩ := quoteText_eq x.text hx
      have := quoteT_len 39 x.text
      exact ⟨quoteT 39 x.text, by simp [k4, h1], by simp [k4, h2], by omega⟩
    · exact ⟨x.text, by simp [k2, k4], by simp [k2, k4], by omega⟩

/-! joined -/
/-- tokens' texts, with a gap where it is told; none where a token is not right -/
def joinF (gap : GToken → GToken → Bool) : Option GToken → List GToken → Option (List UInt8)
  | _, [] => some []
  | prev, x :: l => if okT x = true then (joinF gap (some x) l).map fun r => (match prev with | some y => (if gap y x = true then [32] else []) | none => []) ++ tt x ++ r else none
def joinEnd (a : List UInt8) : Option (List UInt8) → List UInt8
  | none => []
  | some t => if 2000 < (a ++ t).length then [] else a ++ t
def joinT (gap : GToken → GToken → Bool) (p : List GToken) : List UInt8 := joinEnd [] (joinF gap none p)
theorem joinEnd_app (a b : List UInt8) (o : Option (List UInt8)) : joinEnd a (o.map fun r => b ++ r) = joinEnd (a ++ b) o := by
  cases o <;> simp [joinEnd]
theorem le_sumT {l : List GToken} {x : GToken} (h : x ∈ l) : x.text.length ≤ (l.map fun x => x.text.length).sum := by
  induction l with
  | nil => simp at h
  | cons y l ih =>
    simp only [List.map_cons, List.sum_cons]
    rcases List.mem_cons.1 h with rfl | h
    · omega
    · have := ih h; omega
/-- room for the texts -/
def zJ (p : List GToken) : Nat := (p.map fun x => 2 * x.text.length + 43).sum
theorem zJ_drop {p : List GToken} {i : Nat} (hi : i < p.length) : zJ (p.drop i) = 2 * p[i].text.length + 43 + zJ (p.drop (i + 1)) := by
  unfold zJ; rw [List.drop_eq_getElem_cons hi, List.map_cons, List.sum_cons]
def prevT (p : List GToken) (i : Nat) : Option GToken := if 0 < i then p[i - 1]? else none
theorem joinF_drop (gap : GToken → GToken → Bool) {p : List GToken} {i : Nat} (hi : i < p.length) : joinF gap (prevT p i) (p.drop i) =
    if okT p[i] = true then (joinF gap (prevT p (i + 1)) (p.drop (i + 1))).map fun r => (match prevT p i with | some y => (if gap y p[i] = true then [32] else []) | none => []) ++ tt p[i] ++ r else none := by
  have e : prevT p (i + 1) = some p[i] := by unfold prevT; rw [if_pos (by omega)]; simp [hi]
  rw [List.drop_eq_getElem_cons hi, e]; rfl
theorem zJ_le {p : List GToken} (hp : p.length ≤ 1048576) (hz : (p.map fun x => x.text.length).sum ≤ 1048576) : zJ p ≤ 1073741824 := by
  have : ∀ q : List GToken, zJ q = 2 * (q.map fun x => x.text.length).sum + 43 * q.length := by
    intro q
    induction q with
    | nil => rfl
    | cons x q ih => unfold zJ at ih ⊢; simp only [List.map_cons, List.sum_cons, List.length_cons]; omega
  rw [this]; omega

/-! gaps -/
def signGap (a b : GToken) : Option Bool :=
  (some (if (!decide (a.kind = 5)) = true then true else (!decide (b.kind = 5)))) >>= fun (y13 : Bool) => if y13 = true then (some false) else (if (decide (a.text = [45])) = true then (some (decide (b.text = [45]))) else (if (decide (a.text = [47])) = true then (some (decide (b.text = [42]))) else (if (decide (a.text = [60])) = true then ((idxS b.text 0) >>= fun (y14 : Int) => (if (true && ((decide (y14 = 61)) == false)) = true then idxS b.text 0 else some default) >>= fun (y15 : Int) => (some (if (decide (y14 = 61)) = true then true else (decide (y15 = 62)))) >>= fun (y16 : Bool) => some y16) else (if (decide (a.text = [62])) = true then ((idxS b.text 0) >>= fun (y17 : Int) => some (decide (y17 = 61))) else (some false)))))
theorem okT_sign {x : GToken} (hk : x.kind = 5) (h : okT x = true) : x.text ∈ signsL := by
  have e : sTokenOk x = some (decide (x.text ∈ signsL)) := by unfold sTokenOk; simp [hk, sSignOk_ok]
  unfold okT at h
  rw [e] at h
  exact of_decide_eq_true h
theorem signGap_ok (a b : GToken) (hb : okT b = true) : ∃ g, signGap a b = some g := by
  unfold signGap
  simp only [Option.bind_eq_bind, Option.bind_some]
  by_cases k5 : b.kind = 5
  · have hm := okT_sign k5 hb
    have hne : b.text ≠ [] := fun e => by rw [e] at hm; revert hm; decide
    obtain ⟨c, r, hc⟩ : ∃ c r, b.text = c :: r := by
      cases h : b.text with
      | nil => exact absurd h hne
      | cons c r => exact ⟨c, r, rfl⟩
    have hi : idxS b.text 0 = some (c.toNat : Int) := by rw [hc]; rfl
    rw [hi]
    generalize (if (!decide (a.kind = 5)) = true then true else (!decide (b.kind = 5))) = E0
    cases E0 with
    | true => exact ⟨false, rfl⟩
    | false =>
      simp only [Bool.false_eq_true, if_false]
      by_cases t1 : a.text = [45]
      · rw [if_pos (decide_eq_true t1)]; exact ⟨_, rfl⟩
      rw [if_neg (by rw [decide_eq_true_eq]; exact t1)]
      by_cases t2 : a.text = [47]
      · rw [if_pos (decide_eq_true t2)]; exact ⟨_, rfl⟩
      rw [if_neg (by rw [decide_eq_true_eq]; exact t2)]
      by_cases t3 : a.text = [60]
      · rw [if_pos (decide_eq_true t3)]
        by_cases h : (c.toNat : Int) = 61
        · exact ⟨true, by simp [h]⟩
        · exact ⟨decide ((c.toNat : Int) = 62), by simp [h]⟩
      rw [if_neg (by rw [decide_eq_true_eq]; exact t3)]
      by_cases t4 : a.text = [62]
      · rw [if_pos (decide_eq_true t4)]; exact ⟨_, rfl⟩
      rw [if_neg (by rw [decide_eq_true_eq]; exact t4)]
      exact ⟨_, rfl⟩
  · have : (if (!decide (a.kind = 5)) = true then true else (!decide (b.kind = 5))) = true := by
      split <;> simp [k5]
    rw [this]; exact ⟨false, rfl⟩
theorem word_eq (x : GToken) (hx : x.text.length ≤ 1048576) : ∃ w q, iIsWord x = some w ∧ sL4Word x = some w ∧ iIsQuotedName x = some q ∧ sL4Quoted x = some q := by
  obtain ⟨b, p1, p2⟩ := plainName_eq x.text (by omega)
  unfold iIsWord sL4Word iIsQuotedName sL4Quoted
  by_cases k2 : x.kind = 2
  · exact ⟨b, !b, by simp [k2, p1], by simp [k2, p2], by simp [k2, p1], by simp [k2, p2]⟩
  · by_cases h : (if decide (x.kind = 1) = true then true else decide (x.kind = 3)) = true
    · exact ⟨true, false, by rw [h]; simp [k2], by rw [h]; simp [k2], by simp [k2], by simp [k2]⟩
    · rw [Bool.not_eq_true] at h
      exact ⟨false, false, by rw [h]; simp [k2], by rw [h]; simp [k2], by simp [k2], by simp [k2]⟩
def gapN (a b : GToken) : Bool := (sNeedsGap a b).getD false
theorem needsGap_eq (a b : GToken) (ha : a.text.length ≤ 1048576) (hb : b.text.length ≤ 1048576) : iNeedsGap a b = some (gapN a b) ∧ sNeedsGap a b = some (gapN a b) := by
  suffices h : ∃ g, iNeedsGap a b = some g ∧ sNeedsGap a b = some g by
    obtain ⟨g, h1, h2⟩ := h
    have : gapN a b = g := by simp [gapN, h2]
    rw [this]; exact ⟨h1, h2⟩
  obtain ⟨oa1, oa2⟩ := tokenOk_eq a ha
  obtain ⟨ob1, ob2⟩ := tokenOk_eq b hb
  obtain ⟨wa, qa, a1, a2, a3, a4⟩ := word_eq a ha
  obtain ⟨wb, qb, b1, b2, b3, b4⟩ := word_eq b hb
  have hg := signGap_ok a b
  have eI : iNeedsGap a b = (if okT a = true ∧ okT b = true then (if (wa && wb || (qa && qb) || (decide (a.kind = 4) && decide (b.kind = 4))) = true then some true else signGap a b) else some false) := by
    unfold iNeedsGap
    rw [oa1, ob1, a1, b1, a3, b3]
    show _ = ite _ _ _
    unfold signGap
    generalize okT a = oa
    generalize okT b = ob
    generalize (some (if (!decide (a.kind = 5)) = true then true else (!decide (b.kind = 5)))) >>= _ = E
    generalize decide (a.kind = 4) = ka
    generalize decide (b.kind = 4) = kb
    cases oa <;> cases ob <;> cases wa <;> cases wb <;> cases qa <;> cases qb <;> cases ka <;> cases kb <;> rfl
  have eS : sNeedsGap a b = (if okT a = true ∧ okT b = true then (if (wa && wb || (qa && qb) || (decide (a.kind = 4) && decide (b.kind = 4))) = true then some true else signGap a b) else some false) := by
    unfold sNeedsGap
    rw [oa2, ob2, a2, b2, a4, b4]
    show _ = ite _ _ _
    unfold signGap
    generalize okT a = oa
    generalize okT b = ob
    generalize (some (if (!decide (a.kind = 5)) = true then true else (!decide (b.kind = 5)))) >>= _ = E
    generalize decide (a.kind = 4) = ka
    generalize decide (b.kind = 4) = kb
    cases oa <;> cases ob <;> cases wa <;> cases wb <;> cases qa <;> cases qb <;> cases ka <;> cases kb <;> rfl
  rw [eI, eS]
  by_cases h : okT a = true ∧ okT b = true
  · rw [if_pos h]
    obtain ⟨g, hg⟩ := hg h.2
    split
    · exact ⟨_, rfl, rfl⟩
    · exact ⟨g, hg, hg⟩
  · rw [if_neg h]; exact ⟨_, rfl, rfl⟩

/-! spaced -/
theorem iSpaced_loop (p : List GToken) (hp : p.length ≤ 1048576) (hr : ∀ x ∈ p, x.text.length ≤ 1048576) : ∀ i, i ≤ p.length → ∀ a : List UInt8, a.length + zJ (p.drop i) ≤ 1073741824 →
    iJoined_iNeedsGap_L0 p (i : Nat) (toBytes a) = some (joinEnd a (joinF gapN (prevT p i) (p.drop i))) := by
  refine back_ind ?_ ?_
  · intro a _
    rw [iJoined_iNeedsGap_L0]
    unfold gStrings_Builder_Len_x gStrings_Builder_String_x
    simp only [lt_dec, Nat.lt_irrefl, decide_false, Bool.false_eq_true, if_false, Option.bind_eq_bind, Option.bind_some, ofBytes_toBytes, List.drop_length, joinF, joinEnd, List.append_nil, toBytes_len]
    by_cases h : 2000 < a.length
    · rw [if_pos (decide_eq_true (by omega)), if_pos h]
    · rw [if_neg (by rw [decide_eq_true_eq]; omega), if_neg h]
  · intro i hi ih a ha
    have hx := hr p[i] (List.getElem_mem hi)
    obtain ⟨o1, _⟩ := tokenOk_eq p[i] hx
    obtain ⟨t1, _, t3⟩ := tokenText_eq p[i] hx
    rw [zJ_drop hi] at ha
    rw [iJoined_iNeedsGap_L0, joinF_drop gapN hi]
    simp only [lt_dec, hi, decide_true, if_true, idx_lt hi, o1, Option.bind_eq_bind, Option.bind_some]
    cases ho : okT p[i] with
    | false => simp [joinEnd]
    | true =>
      simp only [Bool.not_true, Bool.false_eq_true, if_false, if_true]
      have J : ∀ b : List UInt8, b.length ≤ a.length + 1 → iJoined_iNeedsGap_J1 p (i : Nat) p[i] (toBytes b) = some (joinEnd b ((joinF gapN (prevT p (i + 1)) (p.drop (i + 1))).map fun r => tt p[i] ++ r)) := by
        intro b hb
        rw [iJoined_iNeedsGap_J1]
        unfold gStrings_Builder_WriteString_x gStrings_Builder_copyCheck_x
        simp only [t1, Option.bind_eq_bind, Option.bind_some]
        rw [appB_ok (tt p[i]) rfl (by omega)]
        simp only [Option.bind_some]
        rw [wrap_next hi (by omega), ih _ (by rw [List.length_append]; omega), joinEnd_app]
      by_cases h0 : 0 < i
      · have e0 : decide (0 < (i : Int)) = true := decide_eq_true (by omega)
        have e1 : IntKind.wrap .i64 ((i : Int) - 1) = ((i - 1 : Nat) : Int) := by rw [wrap_ok (by omega) (by omega)]; omega
        have e2 : idx p ((i - 1 : Nat) : Int) = some p[i - 1] := idx_lt (by omega)
        have e3 : prevT p i = some p[i - 1] := by unfold prevT; rw [if_pos h0]; simp [show i - 1 < p.length by omega]
        have e4 := (needsGap_eq p[i - 1] p[i] (hr _ (List.getElem_mem _)) hx).1
        simp only [e0, e1, e2, e4, Bool.true_and, beq_self_eq_true, if_true, Option.bind_some]
        cases hg : gapN p[i - 1] p[i] with
        | true =>
          rw [if_pos rfl]
          unfold gStrings_Builder_WriteString_x gStrings_Builder_copyCheck_x
          simp only [Option.bind_eq_bind, Option.bind_some]
          rw [appB_ok [32] rfl (by simp; omega)]
          simp only [Option.bind_some]
          rw [J _ (by simp), e3]
          have : (joinF gapN (prevT p (i + 1)) (p.drop (i + 1))).map (fun r => (match (some p[i - 1] : Option GToken) with | some y => (if gapN y p[i] = true then [32] else []) | none => []) ++ tt p[i] ++ r)
              = ((joinF gapN (prevT p (i + 1)) (p.drop (i + 1))).map fun r => tt p[i] ++ r).map fun r => [32] ++ r := by
            cases joinF gapN (prevT p (i + 1)) (p.drop (i + 1)) <;> simp [hg]
          rw [this, joinEnd_app a [32]]
        | false =>
          rw [if_neg (by simp), J _ (by omega), e3]
          simp [hg]
      · have hi0 : i = 0 := by omega
        have e0 : decide (0 < (i : Int)) = false := decide_eq_false (by omega)
        have e3 : prevT p i = none := by unfold prevT; rw [if_neg h0]
        simp only [e0, Bool.true_and, Bool.false_eq_true, beq_iff_eq, reduceCtorEq, if_false, Option.bind_some]
        rw [J _ (by omega), e3]
        simp
theorem sSpaced_loop (p : List GToken) (hp : p.length ≤ 1048576) (hr : ∀ x ∈ p, x.text.length ≤ 1048576) : ∀ i, i ≤ p.length → ∀ a : List UInt8, a.length + zJ (p.drop i) ≤ 1073741824 →
    sL4Join_L0 p false (toBytes a) (i : Nat) = some (joinEnd a (joinF gapN (prevT p i) (p.drop i))) := by
  refine back_ind ?_ ?_
  · intro a _
    rw [sL4Join_L0]
    simp only [lt_dec, Nat.lt_irrefl, decide_false, Bool.false_eq_true, if_false, Option.bind_eq_bind, Option.bind_some, ofBytes_toBytes, List.drop_length, joinF, joinEnd, List.append_nil, toBytes_len]
    by_cases h : 2000 < a.length
    · rw [if_pos (decide_eq_true (by omega)), if_pos h]
    · rw [if_neg (by rw [decide_eq_true_eq]; omega), if_neg h]
  · intro i hi ih a ha
    have hx := hr p[i] (List.getElem_mem hi)
    obtain ⟨_, o1⟩ := tokenOk_eq p[i] hx
    obtain ⟨_, t1, t3⟩ := tokenText_eq p[i] hx
    rw [zJ_drop hi] at ha
    rw [sL4Join_L0, joinF_drop gapN hi]
    simp only [lt_dec, hi, decide_true, if_true, idx_lt hi, o1, Option.bind_eq_bind, Option.bind_some]
    cases ho : okT p[i] with
    | false => simp [joinEnd]
    | true =>
      simp only [Bool.not_true, Bool.false_eq_true, if_false, if_true]
      have J : ∀ b : List UInt8, b.length ≤ a.length + 1 → sL4Join_J1 p false (i : Nat) (toBytes b) = some (joinEnd b ((joinF gapN (prevT p (i + 1)) (p.drop (i + 1))).map fun r => tt p[i] ++ r)) := by
        intro b hb
        rw [sL4Join_J1]
        simp only [idx_lt hi, t1, Option.bind_eq_bind, Option.bind_some]
        rw [appB_ok (tt p[i]) rfl (by omega)]
        simp only [Option.bind_some]
        rw [wrap_next hi (by omega), ih _ (by rw [List.length_append]; omega), joinEnd_app]
      by_cases h0 : 0 < i
      · have e0 : decide (0 < (i : Int)) = true := decide_eq_true (by omega)
        have e3 : prevT p i = some p[i - 1] := by unfold prevT; rw [if_pos h0]; simp [show i - 1 < p.length by omega]
        have e1 : IntKind.wrap .i64 ((i : Int) - 1) = ((i - 1 : Nat) : Int) := by rw [wrap_ok (by omega) (by omega)]; omega
        have e2 : idx p ((i - 1 : Nat) : Int) = some p[i - 1] := idx_lt (by omega)
        have e4 := (needsGap_eq p[i - 1] p[i] (hr _ (List.getElem_mem _)) hx).2
        simp only [e0, e1, e2, e4, Bool.true_and, Bool.and_true, beq_self_eq_true, Bool.false_eq_true, if_true, if_false, Option.bind_some]
        cases hg : gapN p[i - 1] p[i] with
        | true =>
          rw [if_pos rfl, appC 32 32 rfl (by omega)]
          simp only [Option.bind_some]
          rw [J _ (by simp), e3]
          have : (joinF gapN (prevT p (i + 1)) (p.drop (i + 1))).map (fun r => (match (some p[i - 1] : Option GToken) with | some y => (if gapN y p[i] = true then [32] else []) | none => []) ++ tt p[i] ++ r)
              = ((joinF gapN (prevT p (i + 1)) (p.drop (i + 1))).map fun r => tt p[i] ++ r).map fun r => [32] ++ r := by
            cases joinF gapN (prevT p (i + 1)) (p.drop (i + 1)) <;> simp [hg]
          rw [this, joinEnd_app a [32]]
        | false =>
          rw [if_neg (by simp), J _ (by omega), e3]
          simp [hg]
      · have hi0 : i = 0 := by omega
        have e0 : decide (0 < (i : Int)) = false := decide_eq_false (by omega)
        have e3 : prevT p i = none := by unfold prevT; rw [if_neg h0]
        simp only [e0, Bool.true_and, Bool.false_and, Bool.false_eq_true, beq_iff_eq, reduceCtorEq, if_false, Option.bind_some]
        rw [J _ (by omega), e3]
        simp
theorem spaced_eq (p : List GToken) (hp : p.length ≤ 1048576) (hz : (p.map fun x => x.text.length).sum ≤ 1048576) : iSpaced p = some (joinT gapN p) ∧ sSpaced p = some (joinT gapN p) := by
  have hr : ∀ x ∈ p, x.text.length ≤ 1048576 := fun x hx => Nat.le_trans (le_sumT hx) hz
  have hJ := zJ_le hp hz
  have h1 := iSpaced_loop p hp hr 0 (Nat.zero_le _) [] (by simpa using hJ)
  have h2 := sSpaced_loop p hp hr 0 (Nat.zero_le _) [] (by simpa using hJ)
  have e : prevT p 0 = none := rfl
  rw [e, List.drop_zero] at h1 h2
  constructor
  · unfold iSpaced iJoined_iNeedsGap
    have h1' : iJoined_iNeedsGap_L0 p 0 [] = some (joinT gapN p) := h1
    rw [h1']; rfl
  · unfold sSpaced sL4Join
    have h2' : sL4Join_L0 p false [] 0 = some (joinT gapN p) := h2
    rw [h2']; rfl

/-! FnExactCatalogText -/
theorem typ_ok (t : Int) : ∃ w, iTypeText t = some w ∧ sTypeText t = some w ∧ w.length ≤ 4 := by
  by_cases h : 0 ≤ t ∧ t ≤ 3
  · have h4 : t = 0 ∨ t = 1 ∨ t = 2 ∨ t = 3 := by omega
    rcases h4 with rfl | rfl | rfl | rfl
    · exact ⟨[65, 78, 89], rfl, rfl, by decide⟩
    · exact ⟨[73, 78, 84], rfl, rfl, by decide⟩
    · exact ⟨[84, 69, 88, 84], rfl, rfl, by decide⟩
    · exact ⟨[66, 79, 79, 76], rfl, rfl, by decide⟩
  · refine ⟨[], ?_, ?_, by decide⟩
    · unfold iTypeText
      by_cases h0 : t < 0
      · simp [h0]
      · have : 3 < t := by omega
        simp [this]
    · unfold sTypeText sL1In
      by_cases h0 : 0 ≤ t
      · have : ¬ t ≤ 3 := by omega
        simp [h0, this]
      · simp [h0]
def typT (t : Int) : List UInt8 := (iTypeText t).getD []
theorem typT_ok (t : Int) : iTypeText t = some (typT t) ∧ sTypeText t = some (typT t) ∧ (typT t).length ≤ 4 := by
  obtain ⟨w, h1, h2, h3⟩ := typ_ok t
  have : typT t = w := by simp [typT, h1]
  rw [this]; exact ⟨h1, h2, h3⟩
def sg (u : UInt8) : GToken := GToken.mk 5 [u] 0
def nmT (s : List UInt8) : GToken := GToken.mk 2 s 0
def colsK : Nat → List GCol → List GToken
  | _, [] => []
  | k, c :: l => (if 0 < k then [sg 44] else []) ++ [nmT c.name, nmT (typT c.type)] ++ colsK (k + 1) l
def tabsK : Nat → List GTable → List GToken
  | _, [] => []
  | i, t :: l => (if 0 < i then [sg 44] else []) ++ [nmT t.name, sg 40] ++ colsK 0 t.cols ++ [sg 41] ++ tabsK (i + 1) l
theorem app32 {a m : List GToken} (h : a.length + m.length ≤ 1000000) : appG 32 a m = some (a ++ m) := by
  unfold appG; rw [if_pos (by omega)]
theorem put_ok {a : List GToken} {f : Bool} (k : Int) (w : List UInt8) (h : a.length + 1 ≤ 1000000) : iPrinter_put_x (GPrinter.mk a f) k w = some (GPrinter.mk (a ++ [GToken.mk k w 0]) f) := by
  unfold iPrinter_put_x
  rw [app32 (by simpa using h)]; rfl
theorem colsK_len : ∀ (l : List GCol) (k : Nat), (colsK k l).length ≤ 3 * l.length
  | [], _ => by simp [colsK]
  | c :: l, k => by
    have := colsK_len l (k + 1)
    have h2 : (if 0 < k then [sg 44] else []).length ≤ 1 := by split <;> simp
    simp only [colsK, List.length_append, List.length_cons, List.length_nil]
    omega
theorem iCols (c : GCatalog) (i : Nat) (t : GTable) (f : Bool) (ht : t.cols.length ≤ 1000) : ∀ k, k ≤ t.cols.length → ∀ a : List GToken, a.length + 3 * (t.cols.length - k) + 1 ≤ 1000000 →
    iCatalogTokens_L1 c (i : Int) t (k : Nat) a f = iCatalogTokens_L0 c (IntKind.wrap .i64 ((i : Int) + 1)) (a ++ colsK k (t.cols.drop k) ++ [sg 41]) f := by
  refine back_ind ?_ ?_
  · intro a ha
    rw [iCatalogTokens_L1]
    unfold iPrinter_sign_x
    simp only [lt_dec, Nat.lt_irrefl, decide_false, Bool.false_eq_true, if_false, Option.bind_eq_bind]
    rw [put_ok 5 [41] (by omega)]
    simp [colsK, sg]
  · intro k hk ih a ha
    obtain ⟨y1, _, _⟩ := typT_ok t.cols[k].type
    rw [iCatalogTokens_L1]
    unfold iPrinter_comma_x iPrinter_sign_x iPrinter_name_x
    simp only [lt_dec, hk, decide_true, if_true, idx_lt hk, y1, Option.bind_eq_bind, Option.bind_some]
    have hd : colsK k (t.cols.drop k) = (if 0 < k then [sg 44] else []) ++ [nmT t.cols[k].name, nmT (typT t.cols[k].type)] ++ colsK (k + 1) (t.cols.drop (k + 1)) := by
      rw [List.drop_eq_getElem_cons hk]; rfl
    rw [hd]
    by_cases h0 : 0 < k
    · rw [if_pos (decide_eq_true (by omega)), put_ok 5 [44] (by omega)]
      simp only [Option.bind_some]
      rw [put_ok 2 _ (by simp; omega)]
      simp only [Option.bind_some]
      rw [put_ok 2 _ (by simp; omega)]
      simp only [Option.bind_some]
      rw [wrap_next hk (by omega), ih _ (by simp; omega), if_pos h0]
      simp [sg, nmT]
    · rw [if_neg (by rw [decide_eq_true_eq]; omega)]
      simp only [Option.bind_some]
      rw [put_ok 2 _ (by omega)]
      simp only [Option.bind_some]
      rw [put_ok 2 _ (by simp; omega)]
      simp only [Option.bind_some]
      rw [wrap_next hk (by omega), ih _ (by simp; omega), if_neg h0]
      simp [nmT]
theorem iTabs (c : GCatalog) (f : Bool) (hc : c.tables.length ≤ 4) (ht : ∀ t ∈ c.tables, t.cols.length ≤ 4) : ∀ i, i ≤ c.tables.length → ∀ a : List GToken, a.length ≤ 16 * i →
    iCatalogTokens_L0 c (i : Nat) a f = some (a ++ tabsK i (c.tables.drop i)) := by
  refine back_ind ?_ ?_
  · intro a _
    rw [iCatalogTokens_L0]
    simp [tabsK]
  · intro i hi ih a ha
    have htc := ht _ (List.getElem_mem hi)
    have hcl := colsK_len c.tables[i].cols 0
    have hcol := iCols c i c.tables[i] f (by omega) 0 (Nat.zero_le _)
    rw [List.drop_zero] at hcol
    rw [iCatalogTokens_L0]
    unfold iPrinter_comma_x iPrinter_sign_x iPrinter_name_x
    simp only [lt_dec, hi, decide_true, if_true, idx_lt hi, Option.bind_eq_bind, Option.bind_some]
    have hd : tabsK i (c.tables.drop i) = (if 0 < i then [sg 44] else []) ++ [nmT c.tables[i].name, sg 40] ++ colsK 0 c.tables[i].cols ++ [sg 41] ++ tabsK (i + 1) (c.tables.drop (i + 1)) := by
      rw [List.drop_eq_getElem_cons hi]; rfl
    rw [hd]
    by_cases h0 : 0 < i
    · rw [if_pos (decide_eq_true (by omega)), put_ok 5 [44] (by omega)]
      simp only [Option.bind_some]
      rw [put_ok 2 _ (by simp; omega)]
      simp only [Option.bind_some]
      rw [put_ok 5 _ (by simp; omega)]
      simp only [Option.bind_some]
      have := hcol (a ++ [GToken.mk 5 [44] 0] ++ [GToken.mk 2 c.tables[i].name 0] ++ [GToken.mk 5 [40] 0]) (by simp; omega)
      rw [show ((0 : Nat) : Int) = 0 from rfl] at this
      rw [this, wrap_next hi (by omega), ih _ (by simp; omega), if_pos h0]
      simp [sg, nmT]
    · rw [if_neg (by rw [decide_eq_true_eq]; omega)]
      simp only [Option.bind_some]
      rw [put_ok 2 _ (by omega)]
      simp only [Option.bind_some]
      rw [put_ok 5 _ (by simp; omega)]
      simp only [Option.bind_some]
      have := hcol (a ++ [GToken.mk 2 c.tables[i].name 0] ++ [GToken.mk 5 [40] 0]) (by simp; omega)
      rw [show ((0 : Nat) : Int) = 0 from rfl] at this
      rw [this, wrap_next hi (by omega), ih _ (by simp; omega), if_neg h0]
      simp [sg, nmT]
theorem sCols (c : GCatalog) (i : Nat) (t : GTable) (hit : idx c.tables (i : Int) = some t) (ht : t.cols.length ≤ 1000) : ∀ k, k ≤ t.cols.length → ∀ a : List GToken, a.length + 3 * (t.cols.length - k) + 1 ≤ 1000000 →
    sL16Tokens_L2 (i : Int) c a (k : Nat) = sL16Tokens_L0 c (a ++ colsK k (t.cols.drop k) ++ [sg 41]) (IntKind.wrap .i64 ((i : Int) + 1)) := by
  refine back_ind ?_ ?_
  · intro a ha
    rw [sL16Tokens_L2]
    unfold sL10Sign
    simp only [hit, lt_dec, Nat.lt_irrefl, decide_false, Bool.false_eq_true, if_false, Option.bind_eq_bind, Option.bind_some]
    rw [app32 (by simp; omega)]
    simp [colsK, sg]
  · intro k hk ih a ha
    obtain ⟨_, y1, _⟩ := typT_ok t.cols[k].type
    have J : ∀ b : List GToken, b.length ≤ a.length + 1 → sL16Tokens_J3 (i : Int) (k : Int) c b = sL16Tokens_L0 c (b ++ [nmT t.cols[k].name, nmT (typT t.cols[k].type)] ++ colsK (k + 1) (t.cols.drop (k + 1)) ++ [sg 41]) (IntKind.wrap .i64 ((i : Int) + 1)) := by
      intro b hb
      rw [sL16Tokens_J3]
      unfold sL10Name
      simp only [hit, idx_lt hk, y1, Option.bind_eq_bind, Option.bind_some]
      rw [app32 (by simp only [List.length_cons, List.length_nil]; omega)]
      simp only [Option.bind_some]
      rw [wrap_next hk (by omega), ih _ (by simp; omega)]
      rfl
    rw [sL16Tokens_L2]
    unfold sL10Sign
    simp only [hit, lt_dec, hk, decide_true, if_true, Option.bind_eq_bind, Option.bind_some]
    have hd : colsK k (t.cols.drop k) = (if 0 < k then [sg 44] else []) ++ [nmT t.cols[k].name, nmT (typT t.cols[k].type)] ++ colsK (k + 1) (t.cols.drop (k + 1)) := by
      rw [List.drop_eq_getElem_cons hk]; rfl
    rw [hd]
    by_cases h0 : 0 < k
    · rw [if_pos (decide_eq_true (by omega)), app32 (by simp; omega)]
      simp only [Option.bind_some]
      rw [J _ (by simp), if_pos h0]
      simp [sg, nmT]
    · rw [if_neg (by rw [decide_eq_true_eq]; omega), J _ (by omega), if_neg h0]
      simp
theorem sTabs (c : GCatalog) (hc : c.tables.length ≤ 4) (ht : ∀ t ∈ c.tables, t.cols.length ≤ 4) : ∀ i, i ≤ c.tables.length → ∀ a : List GToken, a.length ≤ 16 * i →
    sL16Tokens_L0 c a (i : Nat) = some (a ++ tabsK i (c.tables.drop i)) := by
  refine back_ind ?_ ?_
  · intro a _
    rw [sL16Tokens_L0]
    simp [tabsK]
  · intro i hi ih a ha
    have htc := ht _ (List.getElem_mem hi)
    have hcl := colsK_len c.tables[i].cols 0
    have hcol := sCols c i c.tables[i] (idx_lt hi) (by omega) 0 (Nat.zero_le _)
    rw [List.drop_zero] at hcol
    have hd : tabsK i (c.tables.drop i) = (if 0 < i then [sg 44] else []) ++ [nmT c.tables[i].name, sg 40] ++ colsK 0 c.tables[i].cols ++ [sg 41] ++ tabsK (i + 1) (c.tables.drop (i + 1)) := by
      rw [List.drop_eq_getElem_cons hi]; rfl
    have J : ∀ b : List GToken, b.length ≤ a.length + 1 → sL16Tokens_J1 (i : Int) c b = some (b ++ [nmT c.tables[i].name, sg 40] ++ colsK 0 c.tables[i].cols ++ [sg 41] ++ tabsK (i + 1) (c.tables.drop (i + 1))) := by
      intro b hb
      rw [sL16Tokens_J1]
      unfold sL10Name sL10Sign
      simp only [idx_lt hi, Option.bind_eq_bind, Option.bind_some]
      rw [app32 (by simp only [List.length_cons, List.length_nil]; omega)]
      simp only [Option.bind_some]
      have := hcol (b ++ [GToken.mk 2 c.tables[i].name 0, GToken.mk 5 [40] 0]) (by simp; omega)
      rw [show ((0 : Nat) : Int) = 0 from rfl] at this
      rw [this, wrap_next hi (by omega), ih _ (by simp; omega)]
      simp [sg, nmT]
    rw [sL16Tokens_L0]
    unfold sL10Sign
    simp only [lt_dec, hi, decide_true, if_true, Option.bind_eq_bind, Option.bind_some]
    rw [hd]
    by_cases h0 : 0 < i
    · rw [if_pos (decide_eq_true (by omega)), app32 (by simp; omega)]
      simp only [Option.bind_some]
      rw [J _ (by simp), if_pos h0]
      simp [sg, nmT]
    · rw [if_neg (by rw [decide_eq_true_eq]; omega), J _ (by omega), if_neg h0]
      simp
def shortP (x : GToken) : Prop := x.text.length ≤ 20
theorem colsK_short : ∀ (l : List GCol) (k : Nat), (∀ c ∈ l, c.name.length ≤ 20) → ∀ x ∈ colsK k l, shortP x
  | [], _, _ => fun x hx => by simp [colsK] at hx
  | c :: l, k, h => fun x hx => by
    simp only [colsK, List.mem_append, List.mem_cons, List.not_mem_nil, or_false] at hx
    rcases hx with (h1 | rfl | rfl) | h2
    · split at h1
      · rw [List.mem_singleton] at h1; subst h1; show [(44 : UInt8)].length ≤ 20; decide
      · simp at h1
    · exact h c List.mem_cons_self
    · show (typT c.type).length ≤ 20; have := (typT_ok c.type).2.2; omega
    · exact colsK_short l (k + 1) (fun d hd => h d (List.mem_cons_of_mem _ hd)) x h2
theorem tabsK_short : ∀ (l : List GTable) (i : Nat), (∀ t ∈ l, t.name.length ≤ 20 ∧ t.cols.length ≤ 4 ∧ ∀ c ∈ t.cols, c.name.length ≤ 20) → (tabsK i l).length ≤ 16 * l.length ∧ ∀ x ∈ tabsK i l, shortP x
  | [], _, _ => ⟨by simp [tabsK], fun x hx => by simp [tabsK] at hx⟩
  | t :: l, i, h => by
    obtain ⟨h1, h2, h3⟩ := h t List.mem_cons_self
    obtain ⟨r1, r2⟩ := tabsK_short l (i + 1) fun d hd => h d (List.mem_cons_of_mem _ hd)
    have hl := colsK_len t.cols 0
    have h0 : (if 0 < i then [sg 44] else []).length ≤ 1 := by split <;> simp
    refine ⟨?_, fun x hx => ?_⟩
    · simp only [tabsK, List.length_append, List.length_cons, List.length_nil]; omega
    · simp only [tabsK, List.mem_append, List.mem_cons, List.not_mem_nil, or_false] at hx
      rcases hx with (((g | rfl | rfl) | g) | rfl) | g
      · split at g
        · rw [List.mem_singleton] at g; subst g; show [(44 : UInt8)].length ≤ 20; decide
        · simp at g
      · exact h1
      · show [(40 : UInt8)].length ≤ 20; decide
      · exact colsK_short t.cols 0 h3 x g
      · show [(41 : UInt8)].length ≤ 20; decide
      · exact r2 x g
theorem sum_short {l : List GToken} (h : ∀ x ∈ l, shortP x) : (l.map fun x => x.text.length).sum ≤ 20 * l.length := by
  induction l with
  | nil => simp
  | cons x l ih =>
    have h1 : x.text.length ≤ 20 := h x List.mem_cons_self
    have h2 := ih fun y hy => h y (List.mem_cons_of_mem _ hy)
    simp only [List.map_cons, List.sum_cons, List.length_cons]; omega
theorem catText_eq (c : GCatalog) (hs : catSmall c) : ∃ t, iCatalogText c = some t ∧ sCatalogText c = some t := by
  obtain ⟨b, i1, i2⟩ := iCatalogOk_iff c hs
  obtain ⟨b', s1, s2⟩ := sCatalogOk_iff c hs
  have hbb : b' = b := by
    rw [← Bool.coe_iff_coe, s2, i2]
  subst hbb
  unfold iCatalogText sCatalogText
  rw [i1, s1]
  cases b' with
  | false => exact ⟨[], rfl, rfl⟩
  | true =>
    obtain ⟨hp, h4⟩ := i2.1 rfl
    have hall : ∀ t ∈ c.tables, t.name.length ≤ 20 ∧ t.cols.length ≤ 4 ∧ ∀ d ∈ t.cols, d.name.length ≤ 20 := by
      intro t ht
      obtain ⟨i, hi, rfl⟩ := List.mem_iff_getElem.1 ht
      obtain ⟨t', e, hP, _⟩ := hp i hi
      rw [List.getElem?_eq_getElem hi] at e
      injection e with e
      subst e
      refine ⟨hP.2.1.2, hP.2.2.2, fun d hd => ?_⟩
      obtain ⟨j, hj, rfl⟩ := List.mem_iff_getElem.1 hd
      obtain ⟨d', e2, hn, _⟩ := hP.1 j hj
      rw [List.getElem?_eq_getElem hj] at e2
      injection e2 with e2
      subst e2
      exact hn.2
    have g1 := iTabs c false h4 (fun t ht => (hall t ht).2.1) 0 (Nat.zero_le _) [] (by simp)
    have g2 := sTabs c h4 (fun t ht => (hall t ht).2.1) 0 (Nat.zero_le _) [] (by simp)
    rw [List.drop_zero, List.nil_append] at g1 g2
    obtain ⟨l1, l2⟩ := tabsK_short c.tables 0 hall
    have hsum := sum_short l2
    obtain ⟨p1, p2⟩ := spaced_eq (tabsK 0 c.tables) (by omega) (by omega)
    have g1' : iCatalogTokens c = some (tabsK 0 c.tables) := g1
    have g2' : sL16Tokens c = some (tabsK 0 c.tables) := g2
    refine ⟨joinT gapN (tabsK 0 c.tables), ?_, ?_⟩
    · simp only [Bool.not_true, Bool.false_eq_true, if_false, Option.bind_eq_bind, Option.bind_some, g1', p1]
    · simp only [Bool.not_true, Bool.false_eq_true, if_false, Option.bind_eq_bind, Option.bind_some, g2', p2]
theorem fnExactCatalogText_true (p : GCatalog) (op : okGCatalog p) : wFnExactCatalogText p = some true := by
  unfold wFnExactCatalogText
  rw [szGCatalog_ok p op 1048576 (by omega) (by omega)]
  simp only [Option.bind_eq_bind, Option.bind_some]
  by_cases hz : (zGCatalog p : Int) ≤ 1048576
  · have hz' : zGCatalog p ≤ 1048576 := by omega
    have hs : catSmall p := by
      obtain ⟨ts⟩ := p
      simp only [zGCatalog] at hz'
      refine ⟨by dsimp only; unfold zL at hz'; omega, fun t ht => ?_⟩
      have h1 := le_sum (z := zGTable) ht
      obtain ⟨n, cs⟩ := t
      simp only [zGTable] at h1
      unfold zL at *; dsimp only; omega
    obtain ⟨t, h1, h2⟩ := catText_eq p hs
    rw [if_pos hz, if_neg (by simp; omega), toGCatalog_ok p hz']
    simp [h1, h2, toGCatalog_ok p hz', eqGCatalog_ok p hz']
  · rw [if_neg hz]; simp

end Go.Ab
