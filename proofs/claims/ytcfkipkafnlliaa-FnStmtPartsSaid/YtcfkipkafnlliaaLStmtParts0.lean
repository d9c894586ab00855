/- What the functions compute, in plain Lean. -/
import Derived.Test.YtcfkipkafnlliaaFStmtParts
namespace Go.Ab
open Go
theorem wrap_ok {n : Int} (h1 : -9223372036854775808 ≤ n) (h2 : n ≤ 9223372036854775807) : IntKind.wrap .i64 n = n := by rw [IntKind.wrap_i64]; omega
theorem wrap_next {i n : Nat} (h : i < n) (hn : n ≤ 4611686018427387904) : IntKind.wrap .i64 ((i : Int) + 1) = ((i + 1 : Nat) : Int) := by rw [wrap_ok] <;> omega
theorem lt_dec (i n : Nat) : decide ((i : Int) < (n : Int)) = decide (i < n) := by simp
theorem idx_nat {α : Type} (l : List α) (i : Nat) : idx l (i : Int) = l[i]? := by simp [idx]
theorem idx_lt {α : Type} {l : List α} {i : Nat} (h : i < l.length) : idx l (i : Int) = some l[i] := by rw [idx_nat]; simp [h]
theorem back_ind {M : Nat → Prop} {n : Nat} (h0 : M n) (h : ∀ i, i < n → M (i + 1) → M i) : ∀ i, i ≤ n → M i := by
  have : ∀ k i, i + k = n → M i := by
    intro k
    induction k with
    | zero => intro i hi; have : i = n := by omega
              subst this; exact h0
    | succ k ih => intro i hi; exact h i (by omega) (ih (i + 1) (by omega))
  exact fun i hi => this (n - i) i (by omega)
theorem appG_ok {α : Type} {b : Nat} {l m : List α} (h : (l.length + m.length) * b ≤ 140737488355328) : appG b l m = some (l ++ m) := by unfold appG; rw [if_pos h]
theorem gather {α β γ : Type} {p : List α} {f : α → List β} {G : α → List β → Option (List β)} {L : List β → Int → Option γ} {K : List β → Option γ} {c : Nat} (hp : p.length ≤ 4194304)
    (hG : ∀ y ∈ p, ∀ acc : List β, acc.length + (f y).length ≤ c → G y acc = some (acc ++ f y))
    (hL : ∀ (i : Nat) acc, L acc (i : Int) = if (decide ((i : Int) < (p.length : Int))) = true then ((idx p (i : Int)) >>= fun y => (G y acc) >>= fun z => L z (IntKind.wrap .i64 ((i : Int) + 1))) else K acc) :
    ∀ acc : List β, acc.length + (p.flatMap f).length ≤ c → L acc 0 = K (acc ++ p.flatMap f) := by
  have key : ∀ i, i ≤ p.length → ∀ acc : List β, acc.length + ((p.drop i).flatMap f).length ≤ c → L acc (i : Nat) = K (acc ++ (p.drop i).flatMap f) := by
    refine back_ind ?_ ?_
    · intro acc _
      rw [hL]; simp
    · intro i hi ih acc ha
      rw [List.drop_eq_getElem_cons hi, List.flatMap_cons, List.length_append] at ha
      rw [hL, idx_lt hi, wrap_next hi (by omega)]
      simp only [lt_dec, hi, decide_true, if_true, Option.bind_eq_bind, Option.bind_some, hG _ (List.getElem_mem hi) acc (by omega)]
      rw [ih _ (by rw [List.length_append]; omega), List.drop_eq_getElem_cons hi, List.flatMap_cons, List.append_assoc]
  intro acc ha
  simpa using key 0 (by omega) acc (by simpa using ha)
theorem folded {α β γ : Type} {p : List α} {g : α → β → Option β} {h : α → β → β} {L : β → Int → Option γ} {K : β → Option γ} (hp : p.length ≤ 1048576)
    (hg : ∀ y ∈ p, ∀ b, g y b = some (h y b))
    (hL : ∀ (i : Nat) b, L b (i : Int) = if (decide ((i : Int) < (p.length : Int))) = true then ((idx p (i : Int)) >>= fun y => (g y b) >>= fun z => L z (IntKind.wrap .i64 ((i : Int) + 1))) else K b) :
    ∀ b, L b 0 = K (p.foldl (fun b y => h y b) b) := by
  have key : ∀ i, i ≤ p.length → ∀ b, L b (i : Nat) = K ((p.drop i).foldl (fun b y => h y b) b) := by
    refine back_ind ?_ ?_
    · intro b; rw [hL]; simp
    · intro i hi ih b
      rw [hL, idx_lt hi, wrap_next hi (by omega)]
      simp only [lt_dec, hi, decide_true, if_true, Option.bind_eq_bind, Option.bind_some, hg _ (List.getElem_mem hi)]
      rw [ih, List.drop_eq_getElem_cons hi, List.foldl_cons]
  intro b
  simpa using key 0 (by omega) b
def zL {α : Type} (z : α → Nat) (l : List α) : Nat := l.length + (l.map z).sum
theorem sum_map_cons {α : Type} (z : α → Nat) (x : α) (l : List α) : ((x :: l).map z).sum = z x + (l.map z).sum := by simp
theorem le_sum {α : Type} {z : α → Nat} : ∀ {p : List α} {y : α}, y ∈ p → z y ≤ (p.map z).sum
  | x :: p, y, h => by
    rw [sum_map_cons]
    rcases List.mem_cons.1 h with rfl | h
    · omega
    · have := le_sum (z := z) h; omega
mutual
def zGExpr : GExpr → Nat
  | ⟨_, _, _, _, _, _, a6, a7⟩ => (a6.length + zLGExpr a6) + (a7.length + zLGQuery a7)
def zGItem : GItem → Nat
  | ⟨_, _, a2, _⟩ => zGExpr a2
def zGQuery : GQuery → Nat
  | ⟨_, a1, a2, a3, a4, _⟩ => (a1.length + zLGItem a1) + (a2.length + zLGSource a2) + (a3.length + zLGExpr a3) + (a4.length + zLGSortKey a4)
def zGSortKey : GSortKey → Nat
  | ⟨a0, _⟩ => zGExpr a0
def zGSource : GSource → Nat
  | ⟨_, _, a2⟩ => a2.length + zLGExpr a2
def zLGExpr : List GExpr → Nat
  | [] => 0
  | x :: l => zGExpr x + zLGExpr l
def zLGItem : List GItem → Nat
  | [] => 0
  | x :: l => zGItem x + zLGItem l
def zLGQuery : List GQuery → Nat
  | [] => 0
  | x :: l => zGQuery x + zLGQuery l
def zLGSortKey : List GSortKey → Nat
  | [] => 0
  | x :: l => zGSortKey x + zLGSortKey l
def zLGSource : List GSource → Nat
  | [] => 0
  | x :: l => zGSource x + zLGSource l
end
theorem zLGExpr_eq : ∀ l : List GExpr, zLGExpr l = (l.map zGExpr).sum
  | [] => by simp [zLGExpr]
  | x :: l => by simp [zLGExpr, zLGExpr_eq l]
theorem zLGQuery_eq : ∀ l : List GQuery, zLGQuery l = (l.map zGQuery).sum
  | [] => by simp [zLGQuery]
  | x :: l => by simp [zLGQuery, zLGQuery_eq l]
theorem zLGExpr_app : ∀ l m : List GExpr, zLGExpr (l ++ m) = zLGExpr l + zLGExpr m
  | [], m => by simp [zLGExpr]
  | x :: l, m => by simp [zLGExpr, zLGExpr_app l m]; omega
theorem zLGQuery_app : ∀ l m : List GQuery, zLGQuery (l ++ m) = zLGQuery l + zLGQuery m
  | [], m => by simp [zLGQuery]
  | x :: l, m => by simp [zLGQuery, zLGQuery_app l m]; omega
theorem zLGItem_app : ∀ l m : List GItem, zLGItem (l ++ m) = zLGItem l + zLGItem m
  | [], m => by simp [zLGItem]
  | x :: l, m => by simp [zLGItem, zLGItem_app l m]; omega
theorem zLGSource_app : ∀ l m : List GSource, zLGSource (l ++ m) = zLGSource l + zLGSource m
  | [], m => by simp [zLGSource]
  | x :: l, m => by simp [zLGSource, zLGSource_app l m]; omega
theorem zLGExpr_set : ∀ {l : List GExpr} {k : Nat} {x y : GExpr} {b : Nat}, l[k]? = some x → zGExpr y ≤ zGExpr x + b → zLGExpr (l.set k y) ≤ zLGExpr l + b
  | [], _, _, _, _, h, _ => by simp at h
  | z :: l, 0, x, y, b, h, hb => by simp at h; subst h; simp [zLGExpr]; omega
  | z :: l, k + 1, x, y, b, h, hb => by
    simp at h
    have := zLGExpr_set (l := l) (k := k) h hb
    simp [zLGExpr]; omega
theorem zLGExpr_get : ∀ {l : List GExpr} {k : Nat} {x : GExpr}, l[k]? = some x → zGExpr x ≤ zLGExpr l
  | [], _, _, h => by simp at h
  | z :: l, 0, x, h => by simp at h; subst h; simp [zLGExpr]
  | z :: l, k + 1, x, h => by
    simp at h
    have := zLGExpr_get (l := l) (k := k) h
    simp [zLGExpr]; omega
def exprsOf (q : GQuery) : List GExpr := q.items.flatMap (fun i => if i.star then [] else [i.expr]) ++ q.from_.flatMap (fun s => s.on_) ++ q.where_ ++ q.order.flatMap (fun k => [k.expr])
theorem zQ (q : GQuery) : zGQuery q = (q.items.length + zLGItem q.items) + (q.from_.length + zLGSource q.from_) + (q.where_.length + zLGExpr q.where_) + (q.order.length + zLGSortKey q.order) := by
  cases q; simp only [zGQuery]
theorem zE (x : GExpr) : zGExpr x = (x.kids.length + zLGExpr x.kids) + (x.sub.length + zLGQuery x.sub) := by
  cases x; simp only [zGExpr]
theorem items_len : ∀ l : List GItem, (l.flatMap (fun i => if i.star then [] else [i.expr])).length ≤ l.length
  | [] => by simp
  | x :: l => by
    have := items_len l
    rw [List.flatMap_cons, List.length_append]
    have h1 : (if x.star = true then [] else [x.expr]).length ≤ 1 := by cases x.star <;> simp
    simp only [List.length_cons]; omega
theorem ons_len : ∀ l : List GSource, (l.flatMap (fun s => s.on_)).length ≤ zLGSource l
  | [] => by simp
  | ⟨a, b, c⟩ :: l => by
    have := ons_len l
    rw [List.flatMap_cons, List.length_append]
    simp only [zLGSource, zGSource]; omega
theorem order_len : ∀ l : List GSortKey, (l.flatMap (fun k => [k.expr])).length = l.length
  | [] => by simp
  | x :: l => by rw [List.flatMap_cons, List.length_append, order_len l]; simp; omega
theorem iExprs_ok (q : GQuery) (hz : zGQuery q ≤ 1048576) : iQuery_exprs q = some (exprsOf q) := by
  have h := zQ q
  have h1 := items_len q.items
  have h2 := ons_len q.from_
  have h3 := order_len q.order
  have app : ∀ {l m : List GExpr}, l.length + m.length ≤ 1048576 → appG 136 l m = some (l ++ m) := fun h => appG_ok (by omega)
  unfold iQuery_exprs
  rw [gather (p := q.items) (f := fun i => if i.star then [] else [i.expr]) (c := 1048576) (G := fun y acc => if (!y.star) = true then appG 136 acc [y.expr] else some acc) (L := fun acc i => iQuery_exprs_L0 q acc i) (K := fun acc => iQuery_exprs_L2 q acc 0) (by omega) ?_ ?_ [] (by simp only [List.length_nil, Nat.zero_add]; omega)]
  rw [gather (p := q.from_) (f := fun s => s.on_) (c := 1048576) (G := fun y acc => appG 136 acc y.on_) (L := fun acc i => iQuery_exprs_L2 q acc i) (K := fun acc => (appG 136 acc q.where_) >>= fun y7 => iQuery_exprs_L3 q y7 0) (by omega) ?_ ?_ _ (by simp only [List.length_append, List.length_nil]; omega)]
  rw [app (by simp only [List.length_append, List.length_nil]; omega)]
  simp only [Option.bind_eq_bind, Option.bind_some]
  rw [gather (p := q.order) (f := fun k => [k.expr]) (c := 1048576) (G := fun y acc => appG 136 acc [y.expr]) (L := fun acc i => iQuery_exprs_L3 q acc i) (K := fun acc => some acc) (by omega) ?_ ?_ _ (by simp only [List.length_append, List.length_nil]; omega)]
  · simp [exprsOf]
  · intro y _ acc ha; exact app ha
  · intro i acc; rw [iQuery_exprs_L3]
  · intro y _ acc ha; exact app ha
  · intro i acc; rw [iQuery_exprs_L2]
  · intro y _ acc ha
    cases hs : y.star
    · simp only [hs, Bool.not_false, if_true] at ha ⊢; exact app ha
    · simp
  · intro i acc
    rw [iQuery_exprs_L0]
    simp only [iQuery_exprs_J1]
    split
    · simp only [Option.bind_eq_bind]
      cases idx q.items (i : Int) with
      | none => rfl
      | some y => by_cases hs : y.star = true <;> simp [hs]
    · rfl
theorem sExprs_ok (q : GQuery) (hz : zGQuery q ≤ 1048576) : sL7Exprs q = some (exprsOf q) := by
  have h := zQ q
  have h1 := items_len q.items
  have h2 := ons_len q.from_
  have h3 := order_len q.order
  have app : ∀ {l m : List GExpr}, l.length + m.length ≤ 1048576 → appG 136 l m = some (l ++ m) := fun h => appG_ok (by omega)
  unfold sL7Exprs
  rw [gather (p := q.items) (f := fun i => if i.star then [] else [i.expr]) (c := 1048576) (G := fun y acc => if (!y.star) = true then appG 136 acc [y.expr] else some acc) (L := fun acc i => sL7Exprs_L0 q acc i) (K := fun acc => sL7Exprs_L2 q acc 0) (by omega) ?_ ?_ [] (by simp only [List.length_nil, Nat.zero_add]; omega)]
  rw [gather (p := q.from_) (f := fun s => s.on_) (c := 1048576) (G := fun y acc => appG 136 acc y.on_) (L := fun acc i => sL7Exprs_L2 q acc i) (K := fun acc => (appG 136 acc q.where_) >>= fun y7 => sL7Exprs_L3 q y7 0) (by omega) ?_ ?_ _ (by simp only [List.length_append, List.length_nil]; omega)]
  rw [app (by simp only [List.length_append, List.length_nil]; omega)]
  simp only [Option.bind_eq_bind, Option.bind_some]
  rw [gather (p := q.order) (f := fun k => [k.expr]) (c := 1048576) (G := fun y acc => appG 136 acc [y.expr]) (L := fun acc i => sL7Exprs_L3 q acc i) (K := fun acc => some acc) (by omega) ?_ ?_ _ (by simp only [List.length_append, List.length_nil]; omega)]
  · simp [exprsOf]
  · intro y _ acc ha; exact app ha
  · intro i acc; rw [sL7Exprs_L3]
  · intro y _ acc ha; exact app ha
  · intro i acc; rw [sL7Exprs_L2]
  · intro y _ acc ha
    cases hs : y.star
    · simp only [hs, Bool.not_false, if_true] at ha ⊢; exact app ha
    · simp
  · intro i acc
    rw [sL7Exprs_L0]
    simp only [sL7Exprs_J1]
    split
    · simp only [Option.bind_eq_bind]
      cases idx q.items (i : Int) with
      | none => rfl
      | some y => by_cases hs : y.star = true <;> simp [hs]
    · rfl
theorem and255 (a : Int) : 0 ≤ IntKind.wrap .i64 ((BitVec.ofInt (IntKind.bits .i64) a &&& BitVec.ofInt (IntKind.bits .i64) 255).toNat : Int) ∧ IntKind.wrap .i64 ((BitVec.ofInt (IntKind.bits .i64) a &&& BitVec.ofInt (IntKind.bits .i64) 255).toNat : Int) ≤ 255 := by
  have h : (BitVec.ofInt (IntKind.bits .i64) a &&& BitVec.ofInt (IntKind.bits .i64) 255).toNat ≤ 255 := by
    rw [BitVec.toNat_and]
    exact Nat.le_trans Nat.and_le_right (by decide)
  rw [wrap_ok (by omega) (by omega)]
  omega
def okCur (c : GL1Cur) : Prop := 0 ≤ c.i ∧ c.i ≤ (c.b.length : Int) ∧ c.b.length ≤ 1048576
theorem l1Byte_ok (c : GL1Cur) (h : okCur c) : ∃ x c', sL1Byte c = some (x, c') ∧ 0 ≤ x ∧ x ≤ 255 ∧ okCur c' := by
  obtain ⟨h1, h2, h3⟩ := h
  unfold sL1Byte sL1Byte_J0
  by_cases hi : c.i < (c.b.length : Int)
  · have e : ∃ v, idx c.b c.i = some v := by
      unfold idx
      rw [if_pos h1]
      exact ⟨_, List.getElem?_eq_getElem (by omega)⟩
    obtain ⟨v, hv⟩ := e
    rw [if_pos (by simpa using hi), hv]
    simp only [Option.bind_eq_bind, Option.bind_some]
    refine ⟨_, _, rfl, (and255 _).1, (and255 _).2, ?_⟩
    refine ⟨?_, ?_, h3⟩
    · show 0 ≤ IntKind.wrap .i64 (c.i + 1); rw [wrap_ok (by omega) (by omega)]; omega
    · show IntKind.wrap .i64 (c.i + 1) ≤ (c.b.length : Int); rw [wrap_ok (by omega) (by omega)]; omega
  · rw [if_neg (by simpa using hi)]
    exact ⟨_, _, rfl, (and255 _).1, (and255 _).2, h1, h2, h3⟩
theorem remG_ok {a b : Int} (h0 : 0 ≤ a) (hb : 0 < b) : ∃ r, remG a b = some r ∧ 0 ≤ r ∧ r < b := by
  unfold remG
  rw [if_neg (by omega)]
  exact ⟨_, rfl, Int.tmod_nonneg _ h0, Int.tmod_lt_of_pos _ hb⟩
theorem l1Below_ok (c : GL1Cur) (n : Int) (h : okCur c) : ∃ x c', sL1Below c n = some (x, c') ∧ 0 ≤ x ∧ (0 < n → x < n) ∧ okCur c' := by
  unfold sL1Below
  by_cases h0 : n ≤ 0
  · rw [if_pos (by simpa using h0)]; exact ⟨0, c, rfl, by omega, by omega, h⟩
  rw [if_neg (by simpa using h0)]
  by_cases h1 : n ≤ 256
  · rw [if_pos (by simpa using h1)]
    obtain ⟨x, c1, e1, a1, b1, o1⟩ := l1Byte_ok c h
    obtain ⟨r, er, r0, r1⟩ := remG_ok a1 (b := n) (by omega)
    simp only [e1, Option.bind_eq_bind, Option.bind_some, er]
    exact ⟨r, c1, rfl, r0, fun _ => r1, o1⟩
  · rw [if_neg (by simpa using h1)]
    obtain ⟨x1, c1, e1, a1, b1, o1⟩ := l1Byte_ok c h
    obtain ⟨x2, c2, e2, a2, b2, o2⟩ := l1Byte_ok c1 o1
    obtain ⟨x3, c3, e3, a3, b3, o3⟩ := l1Byte_ok c2 o2
    obtain ⟨x4, c4, e4, a4, b4, o4⟩ := l1Byte_ok c3 o3
    simp only [e1, e2, e3, e4, Option.bind_eq_bind, Option.bind_some]
    rw [wrap_ok (n := x1 * 16777216) (by omega) (by omega), wrap_ok (n := x2 * 65536) (by omega) (by omega), wrap_ok (n := x3 * 256) (by omega) (by omega), wrap_ok (n := x1 * 16777216 + x2 * 65536) (by omega) (by omega), wrap_ok (n := x1 * 16777216 + x2 * 65536 + x3 * 256) (by omega) (by omega), wrap_ok (n := x1 * 16777216 + x2 * 65536 + x3 * 256 + x4) (by omega) (by omega)]
    obtain ⟨r, er, r0, r1⟩ := remG_ok (a := x1 * 16777216 + x2 * 65536 + x3 * 256 + x4) (by omega) (b := n) (by omega)
    rw [er]
    exact ⟨r, c4, rfl, r0, fun _ => r1, o4⟩
theorem l1Once_ok (c : GL1Cur) (n : Int) (h : okCur c) : ∃ x c', sL1Once c n = some (x, c') ∧ okCur c' := by
  obtain ⟨x, c1, e1, _, _, o1⟩ := l1Below_ok c n h
  unfold sL1Once
  simp only [e1, Option.bind_eq_bind, Option.bind_some]
  exact ⟨_, _, rfl, o1⟩
theorem pick_idx {α : Type} {l : List α} {x : Int} (h0 : 0 ≤ x) (h1 : x < (l.length : Int)) : ∃ v, v ∈ l ∧ idx l x = some v := by
  unfold idx
  rw [if_pos h0]
  exact ⟨_, List.getElem_mem (by omega), List.getElem?_eq_getElem (by omega)⟩
theorem l1Pick_ok (c : GL1Cur) (l : List (List UInt8)) (hl : 0 < l.length) (h : okCur c) : ∃ x c', sL1Pick c l = some (x, c') ∧ x ∈ l ∧ okCur c' := by
  obtain ⟨x, c1, e1, h0, h1, o1⟩ := l1Below_ok c l.length h
  obtain ⟨v, hv, ev⟩ := pick_idx h0 (h1 (by omega))
  unfold sL1Pick
  simp only [e1, ev, Option.bind_eq_bind, Option.bind_some]
  exact ⟨_, _, rfl, hv, o1⟩
theorem l1PickInt_ok (c : GL1Cur) (l : List Int) (hl : 0 < l.length) (h : okCur c) : ∃ x c', sL1PickInt c l = some (x, c') ∧ x ∈ l ∧ okCur c' := by
  obtain ⟨x, c1, e1, h0, h1, o1⟩ := l1Below_ok c l.length h
  obtain ⟨v, hv, ev⟩ := pick_idx h0 (h1 (by omega))
  unfold sL1PickInt
  simp only [e1, ev, Option.bind_eq_bind, Option.bind_some]
  exact ⟨_, _, rfl, hv, o1⟩
theorem l1Whole_ok (c : GL1Cur) (h : okCur c) : ∃ x c', sL1Whole c = some (x, c') ∧ okCur c' := by
  obtain ⟨x, c1, e1, _, _, o1⟩ := l1Below_ok c 3 h
  obtain ⟨y, c2, e2, _, o2⟩ := l1PickInt_ok c1 [0, 1, (-1), 63, 64, (-64), (-65), 127, 128, 16383, 16384, 9223372036854775807, (-9223372036854775808), 4611686018427387904] (by decide) o1
  obtain ⟨z, c3, e3, _, _, o3⟩ := l1Below_ok c1 1000000 o1
  obtain ⟨w, c4, e4, _, _, o4⟩ := l1Below_ok c1 20 o1
  unfold sL1Whole
  simp only [e1, e2, e3, e4, Option.bind_eq_bind, Option.bind_some]
  split
  · exact ⟨_, _, rfl, o2⟩
  split
  · exact ⟨_, _, rfl, o3⟩
  · exact ⟨_, _, rfl, o4⟩
theorem l1New_ok (p : List Int) (hp : p.length ≤ 1048576) : ∃ c, sL1New p = some c ∧ okCur c := by
  unfold sL1New
  have key : ∀ i, i ≤ p.length → ∀ h, ∃ c, sL1New_L0 p h (i : Nat) = some c ∧ okCur c := by
    refine back_ind ?_ ?_
    · intro h
      rw [sL1New_L0]
      refine ⟨⟨p, 0, h⟩, by simp, ?_⟩
      exact ⟨by show (0:Int) ≤ 0; omega, by show (0:Int) ≤ (p.length : Int); omega, hp⟩
    · intro i hi ih h
      rw [sL1New_L0]
      by_cases h4 : (i : Int) < 4000
      · simp only [lt_dec, hi, h4, decide_true, if_true, idx_lt hi, wrap_next hi (by omega), Option.bind_eq_bind, Option.bind_some]
        exact ih _
      · simp only [lt_dec, hi, h4, decide_true, decide_false, if_true, Bool.false_eq_true, if_false]
        exact ⟨⟨p, 0, h⟩, rfl, by show (0:Int) ≤ 0; omega, by show (0:Int) ≤ (p.length : Int); omega, hp⟩
  exact key 0 (by omega) _
theorem boolValue_some (b : Bool) : ∃ v, sBoolValue b = some v := by cases b <;> exact ⟨_, rfl⟩
theorem l5Right_ok (c : GL1Cur) (h : okCur c) : ∃ x c', sL5Right c = some (x, c') ∧ okCur c' := by
  obtain ⟨b, c1, e1, _, _, o1⟩ := l1Below_ok c 6 h
  obtain ⟨s, c2, e2, _, o2⟩ := l1Pick_ok c1 [[], [97], [98], [105, 116, 39, 115], [97, 98], [255]] (by decide) o1
  obtain ⟨b3, c3, e3, o3⟩ := l1Once_ok c1 2 o1
  obtain ⟨w, c4, e4, o4⟩ := l1Whole_ok c1 o1
  obtain ⟨z, c5, e5, _, _, o5⟩ := l1Below_ok c1 7 o1
  obtain ⟨v, hv⟩ := boolValue_some b3
  unfold sL5Right
  simp only [e1, e2, e3, e4, e5, hv, sTextValue, sIntValue, Option.bind_eq_bind, Option.bind_some]
  repeat' split
  all_goals first | exact ⟨_, _, rfl, o1⟩ | exact ⟨_, _, rfl, o2⟩ | exact ⟨_, _, rfl, o3⟩ | exact ⟨_, _, rfl, o4⟩ | exact ⟨_, _, rfl, o5⟩
theorem catS_ok {a b : List UInt8} (h : a.length + b.length ≤ 1048576) : catS a b = some (a ++ b) := by unfold catS; rw [if_pos (by simp only [maxLen]; omega)]
theorem l5Bent_L1_ok (y : GValue × GL1Cur) : ∀ n (t : List UInt8) (b : List Int) (i h : Int), 400 ≤ n + t.length → okCur ⟨b, i, h⟩ → ∃ x c', sL5Bent_L1 y t b i h = some (x, c') ∧ okCur c' := by
  intro n
  induction n with
  | zero =>
    intro t b i h ht ho
    obtain ⟨q, c1, e1, o1⟩ := l1Once_ok _ 2 ho
    rw [sL5Bent_L1]
    simp only [e1, Option.bind_eq_bind, Option.bind_some, sL5Bent_J0]
    rw [if_neg (by split <;> simp; omega)]
    exact ⟨_, _, rfl, o1⟩
  | succ n ih =>
    intro t b i h ht ho
    obtain ⟨q, c1, e1, o1⟩ := l1Once_ok _ 2 ho
    rw [sL5Bent_L1]
    simp only [e1, Option.bind_eq_bind, Option.bind_some, sL5Bent_J0]
    by_cases hq : (if q = true then (decide ((t.length : Int) < 400)) else false) = true
    · rw [if_pos hq]
      have hl : t.length < 400 := by cases q <;> simp at hq; omega
      rw [catS_ok (by omega)]
      simp only [Option.bind_some]
      rw [catS_ok (by simp; omega)]
      simp only [Option.bind_some]
      exact ih _ _ _ _ (by simp; omega) o1
    · rw [if_neg hq]; exact ⟨_, _, rfl, o1⟩
theorem l5Bent_ok (c : GL1Cur) (h : okCur c) : ∃ x c', sL5Bent c = some (x, c') ∧ okCur c' := by
  obtain ⟨x, c1, e1, o1⟩ := l5Right_ok c h
  obtain ⟨b, c2, e2, _, _, o2⟩ := l1Below_ok c1 14 o1
  obtain ⟨z, c3, e3, _, _, o3⟩ := l1Below_ok c2 6 o2
  obtain ⟨w, c4, e4, o4⟩ := l1Whole_ok c2 o2
  obtain ⟨s, c5, e5, _, o5⟩ := l1Pick_ok c2 [[120], [], [108, 111, 110, 103]] (by decide) o2
  obtain ⟨u, c6, e6, o6⟩ := l5Bent_L1_ok (x, c1) 400 s c5.b c5.i c5.h (by omega) o5
  unfold sL5Bent
  simp only [e1, e2, e3, e4, e5, e6, sL5Bent_J0, Option.bind_eq_bind, Option.bind_some]
  repeat' split
  all_goals first | exact ⟨_, _, rfl, o2⟩ | exact ⟨_, _, rfl, o3⟩ | exact ⟨_, _, rfl, o4⟩ | exact ⟨_, _, rfl, o5⟩ | exact ⟨_, _, rfl, o6⟩
theorem l1Bytes_ok (p : Int) (hp : p ≤ 1000) : ∀ (n : Nat) (x : List Int) (i : Int) (b : List Int) (j h : Int), p ≤ n + i → 0 ≤ i → x.length = i.toNat → i ≤ 1000 → (∀ v ∈ x, 0 ≤ v ∧ v < 256) → okCur ⟨b, j, h⟩ → ∃ y c', sL1Bytes_L0 p x i b j h = some (y, c') ∧ (∀ v ∈ y, 0 ≤ v ∧ v < 256) ∧ okCur c' := by
  intro n
  induction n with
  | zero =>
    intro x i b j h h1 h2 h3 _ h5 h4
    rw [sL1Bytes_L0, if_neg (by simp; omega)]
    exact ⟨_, _, rfl, h5, h4⟩
  | succ n ih =>
    intro x i b j h h1 h2 h3 hi0 h5 h4
    rw [sL1Bytes_L0]
    by_cases hi : i < p
    · rw [if_pos (by simpa using hi)]
      obtain ⟨v, c', e1, _, _, e4⟩ := l1Byte_ok ⟨b, j, h⟩ h4
      simp only [e1, Option.bind_eq_bind, Option.bind_some]
      rw [appG_ok (by simp; omega), wrap_ok (by omega) (by omega)]
      simp only [Option.bind_some]
      refine ih (x ++ [IntKind.wrap .u8 v]) (i + 1) c'.b c'.i c'.h (by omega) (by omega) (by simp [h3]; omega) (by omega) ?_ e4
      intro u hu
      rcases List.mem_append.1 hu with hu | hu
      · exact h5 u hu
      · have : u = IntKind.wrap .u8 v := by simpa using hu
        rw [this]; simp [IntKind.wrap, IntKind.bits, IntKind.signed]; omega
    · rw [if_neg (by simpa using hi)]
      exact ⟨_, _, rfl, h5, h4⟩
theorem ofBytes_ok (l : List Int) (h : ∀ v ∈ l, 0 ≤ v ∧ v < 256) : ∃ s, ofBytes l = some s := by
  unfold ofBytes
  rw [if_pos (by simpa using h)]
  exact ⟨_, rfl⟩
def Yes {α : Type} (m : Option α) (Q : α → Prop) : Prop := ∃ r, m = some r ∧ Q r
theorem Yes.bind {α β : Type} {m : Option α} {k : α → Option β} {Q : α → Prop} {R : β → Prop} (h : Yes m Q) (hk : ∀ x, Q x → Yes (k x) R) : Yes (m >>= k) R := by
  obtain ⟨x, e, hx⟩ := h
  obtain ⟨r, e2, hr⟩ := hk x hx
  exact ⟨r, by rw [e]; exact e2, hr⟩
theorem Yes.some {α : Type} {x : α} {Q : α → Prop} (h : Q x) : Yes (some x) Q := ⟨x, rfl, h⟩
theorem Yes.mono {α : Type} {m : Option α} {Q R : α → Prop} (h : Yes m Q) (hk : ∀ x, Q x → R x) : Yes m R := by
  obtain ⟨x, e, hx⟩ := h; exact ⟨x, e, hk x hx⟩
theorem Yes.ite {α : Type} {c : Prop} [Decidable c] {m m' : Option α} {Q : α → Prop} (h : c → Yes m Q) (h' : ¬ c → Yes m' Q) : Yes (if c then m else m') Q := by
  split
  · exact h (by assumption)
  · exact h' (by assumption)
theorem below_y (c : GL1Cur) (n : Int) (h : okCur c) : Yes (sL1Below c n) fun r => 0 ≤ r.1 ∧ (0 < n → r.1 < n) ∧ okCur r.2 := by
  obtain ⟨x, c', e, h1, h2, h3⟩ := l1Below_ok c n h; exact ⟨_, e, h1, h2, h3⟩
theorem once_y (c : GL1Cur) (n : Int) (h : okCur c) : Yes (sL1Once c n) fun r => okCur r.2 := by
  obtain ⟨x, c', e, h1⟩ := l1Once_ok c n h; exact ⟨_, e, h1⟩
theorem once_g (p : Bool) (b : Bool) (c : GL1Cur) (n : Int) (h : okCur c) : Yes (if (true && (p == b)) = true then sL1Once c n else some ((default : Bool), c)) fun r => okCur r.2 := Yes.ite (fun _ => once_y c n h) fun _ => Yes.some h
theorem pick_y (c : GL1Cur) (l : List (List UInt8)) (hl : 0 < l.length) (h : okCur c) : Yes (sL1Pick c l) fun r => okCur r.2 := by
  obtain ⟨x, c', e, _, h1⟩ := l1Pick_ok c l hl h; exact ⟨_, e, h1⟩
theorem pickI_y (c : GL1Cur) (l : List Int) (hl : 0 < l.length) (h : okCur c) : Yes (sL1PickInt c l) fun r => okCur r.2 := by
  obtain ⟨x, c', e, _, h1⟩ := l1PickInt_ok c l hl h; exact ⟨_, e, h1⟩
theorem bent5_y (c : GL1Cur) (h : okCur c) : Yes (sL5Bent c) fun r => okCur r.2 := by
  obtain ⟨x, c', e, h1⟩ := l5Bent_ok c h; exact ⟨_, e, h1⟩
theorem right5_y (c : GL1Cur) (h : okCur c) : Yes (sL5Right c) fun r => okCur r.2 := by
  obtain ⟨x, c', e, h1⟩ := l5Right_ok c h; exact ⟨_, e, h1⟩
theorem app_y {α : Type} {b : Nat} {l m : List α} (h : (l.length + m.length) * b ≤ 140737488355328) : Yes (appG b l m) fun r => r = l ++ m := ⟨_, appG_ok h, rfl⟩
theorem name_y (c : GL1Cur) (h : okCur c) : Yes (sL2Name c) fun r => okCur r.2 := by
  unfold sL2Name
  refine Yes.bind (once_y _ _ h) fun r k => Yes.ite (fun _ => ?_) fun _ => ?_
  · exact Yes.bind (pick_y _ _ (by decide) k) fun r k => Yes.some k
  · exact Yes.bind (pick_y _ _ (by decide) k) fun r k => Yes.some k
theorem any_y (c : GL1Cur) (h : okCur c) : Yes (sL2Any c) fun r => okCur r.2 := by
  unfold sL2Any
  refine Yes.bind (below_y _ _ h) fun r ⟨_, _, k⟩ => Yes.ite (fun _ => ?_) fun _ => Yes.ite (fun _ => ?_) fun _ => Yes.ite (fun _ => ?_) fun _ => ?_
  · exact Yes.bind (pick_y _ _ (by decide) k) fun r k => Yes.some k
  · refine Yes.bind (Q := fun l : List (List UInt8) => l.length = 29) ⟨_, rfl, by decide⟩ fun l hl => Yes.bind (below_y _ _ k) fun r ⟨h0, h1, k⟩ => ?_
    obtain ⟨v, _, hv⟩ := pick_idx (l := l) h0 (by rw [hl]; exact h1 (by decide))
    exact Yes.bind (Q := fun _ => True) ⟨v, hv, trivial⟩ fun _ _ => Yes.some k
  · refine Yes.bind (below_y _ _ k) fun r ⟨h0, h1, k⟩ => ?_
    have h1' := h1 (by decide)
    obtain ⟨y, c3, e3, l3, k3⟩ := l1Bytes_ok r.1 (by omega) 5 [] 0 r.2.b r.2.i r.2.h (by omega) (by omega) rfl (by omega) (by simp) k
    obtain ⟨s, hs⟩ := ofBytes_ok y l3
    exact Yes.bind (Q := fun z => z = (y, c3)) ⟨_, e3, rfl⟩ fun z hz => Yes.bind (Q := fun _ => True) ⟨s, by rw [hz]; exact hs, trivial⟩ fun _ _ => Yes.some (by rw [hz]; exact k3)
  · exact Yes.bind (name_y _ k) fun r k => Yes.some k
theorem col_y (c : GL1Cur) (h : okCur c) : Yes (sL7Col_X c) fun r => r.1.kids = [] ∧ r.1.sub = [] ∧ okCur r.2 := by
  have J1 : ∀ a b c i j, okCur ⟨c, i, j⟩ → Yes (sL7Col_X_J1 a b c i j) fun r => r.1.kids = [] ∧ r.1.sub = [] ∧ okCur r.2 := fun a b c i j k => Yes.some ⟨rfl, rfl, k⟩
  have J0 : ∀ y a c i j, okCur ⟨c, i, j⟩ → Yes (sL7Col_X_J0 y a c i j) fun r => r.1.kids = [] ∧ r.1.sub = [] ∧ okCur r.2 := fun y a c i j k => by
    unfold sL7Col_X_J0
    exact Yes.bind (once_y _ _ k) fun r k => Yes.ite (fun _ => Yes.bind (name_y _ k) fun r k => J1 _ _ _ _ _ k) fun _ => J1 _ _ _ _ _ k
  unfold sL7Col_X
  exact Yes.bind (pick_y _ _ (by decide) h) fun r k => Yes.bind (once_y _ _ k) fun r k => Yes.ite (fun _ => Yes.bind (pick_y _ _ (by decide) k) fun r k => J0 _ _ _ _ _ k) fun _ => J0 _ _ _ _ _ k
theorem value7_y (c : GL1Cur) (h : okCur c) : Yes (sL7Value c) fun r => okCur r.2 := by
  unfold sL7Value sL7Value_J0
  exact Yes.bind (right5_y _ h) fun r k => Yes.bind (Q := fun _ => True) ⟨_, rfl, trivial⟩ fun b _ => Yes.ite (fun _ => Yes.some k) fun _ => Yes.some k
def okE (B : Nat) (r : GExpr × GL1Cur) : Prop := zGExpr r.1 ≤ B ∧ okCur r.2
def Zb : Nat → Nat
  | 0 => 0
  | n + 1 => 12 + 9 * Zb n
theorem kids_y (B : Nat) (d : Int) (m : Int) (hm : m ≤ 3) (H : ∀ c, okCur c → Yes (sL7Expr_X c (IntKind.wrap .i64 (d - 1))) (okE B)) :
    ∀ (k : Nat) (i : Int) b j h (l : List GExpr), m ≤ k + i → 0 ≤ i → i ≤ 3 → (l.length : Int) ≤ i → zLGExpr l ≤ l.length * B → okCur ⟨b, j, h⟩ → Yes (sL7Kids_X_L0 d m i b j h l) fun r => r.1.length ≤ 3 ∧ zLGExpr r.1 ≤ r.1.length * B ∧ okCur r.2 := by
  intro k
  induction k with
  | zero =>
    intro i b j h l h1 h2 h3 h4 h5 h6
    rw [sL7Kids_X_L0, if_neg (by simp; omega)]
    exact Yes.some ⟨by show l.length ≤ 3; omega, h5, h6⟩
  | succ k ih =>
    intro i b j h l h1 h2 h3 h4 h5 h6
    rw [sL7Kids_X_L0]
    refine Yes.ite (fun hi => ?_) fun _ => Yes.some ⟨by show l.length ≤ 3; omega, h5, h6⟩
    have hi' : i < m := by simpa using hi
    refine Yes.bind (H _ h6) fun r ⟨hz, hr⟩ => Yes.bind (app_y (by simp; omega)) fun y hy => ?_
    subst hy
    rw [wrap_ok (by omega) (by omega)]
    refine ih _ _ _ _ _ (by omega) (by omega) (by omega) (by simp; omega) ?_ hr
    rw [zLGExpr_app, List.length_append, Nat.add_mul]
    simp [zLGExpr]; omega
theorem kids_x (B : Nat) (d : Int) (m : Int) (hm : m ≤ 3) (H : ∀ c, okCur c → Yes (sL7Expr_X c (IntKind.wrap .i64 (d - 1))) (okE B)) (c : GL1Cur) (h : okCur c) : Yes (sL7Kids_X c d m) fun r => r.1.length ≤ 3 ∧ zLGExpr r.1 ≤ 3 * B ∧ okCur r.2 := by
  rw [sL7Kids_X]
  refine (kids_y B d m hm H m.toNat 0 c.b c.i c.h [] (by omega) (by omega) (by omega) (by simp) (by simp [zLGExpr]) h).mono fun r ⟨h1, h2, h3⟩ => ⟨h1, Nat.le_trans h2 (Nat.mul_le_mul_right _ h1), h3⟩
def qOk (B : Nat) (r : GQuery × GL1Cur) : Prop := zGQuery r.1 ≤ 8 + 6 * B ∧ okCur r.2
section
variable {B : Nat} {d : Int} (H : ∀ c, okCur c → Yes (sL7Expr_X c d) (okE B))
theorem q8_y {y1 : Bool × GL1Cur} {o : List GSortKey} {w : List GExpr} {f : List GSource} {it : List GItem} {lim : Int} {b : List Int} {i j : Int} (h1 : it.length + zLGItem it ≤ 2 + 2 * B) (h2 : f.length + zLGSource f ≤ 4 + 2 * B) (h3 : w.length + zLGExpr w ≤ 1 + B) (h4 : o.length + zLGSortKey o ≤ 1 + B)
    (k : okCur ⟨b, i, j⟩) : Yes (sL7Query_X_J8 y1 o w f it lim b i j) (qOk B) := Yes.some ⟨by simp only [zGQuery]; omega, k⟩
theorem q7_y {y1 : Bool × GL1Cur} {o : List GSortKey} {w : List GExpr} {f : List GSource} {it : List GItem} {b : List Int} {i j : Int} (h1 : it.length + zLGItem it ≤ 2 + 2 * B) (h2 : f.length + zLGSource f ≤ 4 + 2 * B) (h3 : w.length + zLGExpr w ≤ 1 + B) (h4 : o.length + zLGSortKey o ≤ 1 + B)
    (k : okCur ⟨b, i, j⟩) : Yes (sL7Query_X_J7 y1 f it b i j o w) (qOk B) := by
  unfold sL7Query_X_J7
  exact Yes.bind (once_y _ _ k) fun r k => Yes.ite (fun _ => Yes.bind (pickI_y _ _ (by decide) k) fun r k => q8_y h1 h2 h3 h4 k) fun _ => q8_y h1 h2 h3 h4 k
include H
theorem q5_y {y1 : Bool × GL1Cur} {w : List GExpr} {f : List GSource} {it : List GItem} {b : List Int} {i j : Int} (h1 : it.length + zLGItem it ≤ 2 + 2 * B) (h2 : f.length + zLGSource f ≤ 4 + 2 * B) (h3 : w.length + zLGExpr w ≤ 1 + B)
    (k : okCur ⟨b, i, j⟩) : Yes (sL7Query_X_J5 d y1 it b i j (w, f)) (qOk B) := by
  rw [sL7Query_X_J5]
  refine Yes.bind (once_y _ _ k) fun r k => Yes.ite (fun _ => ?_) fun _ => q7_y h1 h2 h3 (by simp [zLGSortKey]) k
  refine Yes.bind (H _ k) fun r ⟨hz, k⟩ => Yes.bind (once_y _ _ k) fun r2 k => Yes.bind (app_y (by simp)) fun y hy => ?_
  subst hy
  exact q7_y h1 h2 h3 (by simp [zLGSortKey, zGSortKey]; omega) k
theorem q3_y {y1 y16 : Bool × GL1Cur} {y : Int × GL1Cur} (hy : y.1 < 2) (hy0 : 0 ≤ y.1) {it : List GItem} (h1 : it.length + zLGItem it ≤ 2 + 2 * B) : ∀ (n : Nat) (x : Int) (b : List Int) (i j : Int) (f : List GSource), 1 + y.1 ≤ n + x → 0 ≤ x → (f.length : Int) ≤ x → x ≤ 2 → f.length + zLGSource f ≤ f.length * (2 + B) → okCur ⟨b, i, j⟩ →
    Yes (sL7Query_X_L3 d y y1 it x b (i, (j, f))) (qOk B) := by
  have e0 : IntKind.wrap .i64 (1 + y.1) = 1 + y.1 := wrap_ok (by omega) (by omega)
  have fin : ∀ (x : Int) (b : List Int) (i j : Int) (f : List GSource), ¬ x < 1 + y.1 → (f.length : Int) ≤ x → x ≤ 2 → f.length + zLGSource f ≤ f.length * (2 + B) → okCur ⟨b, i, j⟩ → Yes (sL7Query_X_L3 d y y1 it x b (i, (j, f))) (qOk B) := by
    intro x b i j f hx hl h2 hf k
    have hm : f.length * (2 + B) ≤ 2 * (2 + B) := Nat.mul_le_mul_right _ (by omega)
    have hF : f.length + zLGSource f ≤ 4 + 2 * B := by omega
    rw [sL7Query_X_L3, e0, if_neg (by simpa using hx)]
    refine Yes.bind (once_y _ _ k) fun r k => Yes.ite (fun _ => ?_) fun _ => q5_y H h1 hF (by simp [zLGExpr]) k
    exact Yes.bind (H _ k) fun r ⟨hz, k⟩ => q5_y H h1 hF (by simp [zLGExpr]; omega) k
  intro n
  induction n with
  | zero => intro x b i j f hn h0 hl h2 hf k; exact fin x b i j f (by omega) hl h2 hf k
  | succ n ih =>
    intro x b i j f hn h0 hl h2 hf k
    by_cases hx : x < 1 + y.1
    · have J6 : ∀ (t : List UInt8 × GL1Cur) (s : List UInt8) (b : List Int) (i j : Int) (on : List GExpr), on.length + zLGExpr on ≤ 1 + B → okCur ⟨b, i, j⟩ → Yes (sL7Query_X_J6 d y x y1 t s (it, (b, (i, (j, (on, f)))))) (qOk B) := by
        intro t s b i j on ho k
        rw [sL7Query_X_J6]
        refine Yes.bind (app_y (by simp; omega)) fun z hz => ?_
        subst hz
        rw [wrap_ok (by omega) (by omega)]
        refine ih _ _ _ _ _ (by omega) (by omega) (by simp; omega) (by omega) ?_ k
        rw [zLGSource_app, List.length_append, Nat.add_mul]
        simp only [List.length_cons, List.length_nil, zLGSource, zGSource]; omega
      have J4 : ∀ (t : List UInt8 × GL1Cur) (s : List UInt8) (b : List Int) (i j : Int), okCur ⟨b, i, j⟩ → Yes (sL7Query_X_J4 d y x y1 t f (it, (s, (b, (i, j))))) (qOk B) := by
        intro t s b i j k
        rw [sL7Query_X_J4]
        refine Yes.bind (once_g _ _ _ _ k) fun r k => Yes.bind (Q := fun _ => True) ⟨_, rfl, trivial⟩ fun q _ => Yes.ite (fun _ => ?_) fun _ => J6 _ _ _ _ _ _ (by simp [zLGExpr]) k
        exact Yes.bind (H _ k) fun r ⟨hz, k⟩ => J6 _ _ _ _ _ _ (by simp [zLGExpr]; omega) k
      rw [sL7Query_X_L3, e0, if_pos (by simpa using hx)]
      exact Yes.bind (pick_y _ _ (by decide) k) fun r k => Yes.bind (once_y _ _ k) fun r2 k => Yes.ite (fun _ => Yes.bind (name_y _ k) fun r3 k => J4 _ _ _ _ _ k) fun _ => J4 _ _ _ _ _ k
    · exact fin x b i j f hx hl h2 hf k
theorem q0_y {y1 : Bool × GL1Cur} {y : Int × GL1Cur} (hy : y.1 < 2) (hy0 : 0 ≤ y.1) : ∀ (n : Nat) (x : Int) (b : List Int) (i j : Int) (f : List GItem), 1 + y.1 ≤ n + x → 0 ≤ x → (f.length : Int) ≤ x → x ≤ 2 → f.length + zLGItem f ≤ f.length * (1 + B) → okCur ⟨b, i, j⟩ →
    Yes (sL7Query_X_L0 d y y1 x b i (j, f)) (qOk B) := by
  have e0 : IntKind.wrap .i64 (1 + y.1) = 1 + y.1 := wrap_ok (by omega) (by omega)
  have fin : ∀ (x : Int) (b : List Int) (i j : Int) (f : List GItem), ¬ x < 1 + y.1 → (f.length : Int) ≤ x → x ≤ 2 → f.length + zLGItem f ≤ f.length * (1 + B) → okCur ⟨b, i, j⟩ → Yes (sL7Query_X_L0 d y y1 x b i (j, f)) (qOk B) := by
    intro x b i j f hx hl h2 hf k
    have hm : f.length * (1 + B) ≤ 2 * (1 + B) := Nat.mul_le_mul_right _ (by omega)
    have hI : f.length + zLGItem f ≤ 2 + 2 * B := by omega
    rw [sL7Query_X_L0, e0, if_neg (by simpa using hx)]
    refine Yes.bind (below_y _ _ k) fun r ⟨r0, r1, k⟩ => ?_
    exact q3_y (y16 := y1) H (r1 (by decide)) r0 hI 2 0 _ _ _ _ (by have := r1 (by decide); omega) (by omega) (by simp) (by omega) (by simp [zLGSource]) k
  intro n
  induction n with
  | zero => intro x b i j f hn h0 hl h2 hf k; exact fin x b i j f (by omega) hl h2 hf k
  | succ n ih =>
    intro x b i j f hn h0 hl h2 hf k
    by_cases hx : x < 1 + y.1
    · have J1 : ∀ (b : List Int) (i j : Int) (it : GItem), zGItem it ≤ B → okCur ⟨b, i, j⟩ → Yes (sL7Query_X_J1 d y x y1 b i (j, f ++ [it])) (qOk B) := by
        intro b i j it ho k
        rw [sL7Query_X_J1, wrap_ok (by omega) (by omega)]
        refine ih _ _ _ _ _ (by omega) (by omega) (by simp; omega) (by omega) ?_ k
        rw [zLGItem_app, List.length_append, Nat.add_mul]
        simp only [List.length_cons, List.length_nil, zLGItem]; omega
      have J2 : ∀ (t : GExpr × GL1Cur) (s : List UInt8) (b : List Int) (i j : Int), zGExpr t.1 ≤ B → okCur ⟨b, i, j⟩ → Yes (sL7Query_X_J2 d y x y1 t f (s, (b, (i, j)))) (qOk B) := by
        intro t s b i j hz k
        rw [sL7Query_X_J2]
        refine Yes.bind (app_y (by simp; omega)) fun z hz => ?_
        subst hz
        exact J1 _ _ _ _ (by simpa [zGItem] using by assumption) k
      rw [sL7Query_X_L0, e0, if_pos (by simpa using hx)]
      refine Yes.bind (below_y _ _ k) fun r ⟨_, _, k⟩ => Yes.ite (fun _ => ?_) fun _ => Yes.ite (fun _ => ?_) fun _ => ?_
      · refine Yes.bind (app_y (by simp; omega)) fun z hz => ?_
        subst hz
        exact J1 _ _ _ _ (by simp [zGItem, zGExpr, zLGExpr, zLGQuery]) k
      · refine Yes.bind (pick_y _ _ (by decide) k) fun r k => Yes.bind (app_y (by simp; omega)) fun z hz => ?_
        subst hz
        exact J1 _ _ _ _ (by simp [zGItem, zGExpr, zLGExpr, zLGQuery]) k
      · exact Yes.bind (H _ k) fun r ⟨hz, k⟩ => Yes.bind (once_y _ _ k) fun r2 k => Yes.ite (fun _ => Yes.bind (name_y _ k) fun r3 k => J2 _ _ _ _ _ hz k) fun _ => J2 _ _ _ _ _ hz k
    · exact fin x b i j f hx hl h2 hf k
theorem query_y (c : GL1Cur) (k : okCur c) : Yes (sL7Query_X c d) (qOk B) := by
  rw [sL7Query_X]
  exact Yes.bind (once_y _ _ k) fun r k => Yes.bind (below_y _ _ k) fun r2 ⟨r0, r1, k⟩ => q0_y H (r1 (by decide)) r0 2 0 _ _ _ _ (by have := r1 (by decide); omega) (by omega) (by simp) (by omega) (by simp [zLGItem]) k
end
theorem expr_y : ∀ (n : Nat) (d : Int) (c : GL1Cur), d ≤ n → n ≤ 100 → okCur c → Yes (sL7Expr_X c d) (okE (Zb n)) := by
  intro n
  induction n with
  | zero =>
    intro d c hd _ h
    rw [sL7Expr_X]
    refine Yes.bind (once_g _ _ _ _ h) fun r k => Yes.bind (Q := fun q => q = true) ⟨_, rfl, by rw [if_pos (by simpa using hd)]⟩ fun q hq => ?_
    rw [if_pos hq]
    refine Yes.bind (once_y _ _ k) fun r k => Yes.ite (fun _ => Yes.bind (col_y _ k) fun r ⟨h1, h2, k⟩ => Yes.some ⟨?_, k⟩) fun _ => Yes.bind (value7_y _ k) fun r k => Yes.some ⟨by simp [zGExpr, zLGExpr, zLGQuery], k⟩
    show zGExpr r.1 ≤ 0
    rw [zE]; simp [h1, h2, zLGExpr, zLGQuery]
  | succ n ih =>
    intro d c hd hn h
    have hB : Zb (n + 1) = 12 + 9 * Zb n := rfl
    rw [sL7Expr_X]
    refine Yes.bind (once_g _ _ _ _ h) fun r k => Yes.bind (Q := fun q => q = true ∨ 0 < d) ⟨_, rfl, ?_⟩ fun q hq => Yes.ite (fun _ => ?_) fun hq2 => ?_
    · by_cases h0 : d ≤ 0
      · exact .inl (by rw [if_pos (by simpa using h0)])
      · exact .inr (by omega)
    · refine Yes.bind (once_y _ _ k) fun r k => Yes.ite (fun _ => Yes.bind (col_y _ k) fun r ⟨h1, h2, k⟩ => Yes.some ⟨?_, k⟩) fun _ => Yes.bind (value7_y _ k) fun r k => Yes.some ⟨by simp [zGExpr, zLGExpr, zLGQuery], k⟩
      show zGExpr r.1 ≤ _
      rw [zE]; simp [h1, h2, zLGExpr, zLGQuery]
    · have h0 : 0 < d := hq.resolve_left hq2
      have e1 : IntKind.wrap .i64 (d - 1) = d - 1 := wrap_ok (by omega) (by omega)
      have H1 : ∀ c, okCur c → Yes (sL7Expr_X c (IntKind.wrap .i64 (d - 1))) (okE (Zb n)) := fun c k => ih _ c (by omega) (by omega) k
      have K : ∀ m c, m ≤ 3 → okCur c → Yes (sL7Kids_X c d m) fun r => r.1.length ≤ 3 ∧ zLGExpr r.1 ≤ 3 * Zb n ∧ okCur r.2 := fun m c hm k => kids_x (Zb n) d m hm H1 c k
      have Q2 : ∀ c, 1 < d → okCur c → Yes (sL7Query_X c (IntKind.wrap .i64 (d - 2))) (qOk (Zb n)) := fun c h2 k => query_y (fun c k => ih _ c (by rw [wrap_ok (by omega) (by omega)]; omega) (by omega) k) c k
      have J0 : ∀ y : Int × GL1Cur, okCur y.2 → Yes (sL7Expr_X_J0 d y) (okE (Zb (n + 1))) := fun y k => by
        rw [sL7Expr_X_J0]
        exact Yes.bind (below_y _ _ k) fun r ⟨_, _, k⟩ => Yes.bind (K 2 _ (by omega) k) fun r ⟨h1, h2, k⟩ => Yes.some ⟨by simp only [zGExpr, zLGQuery, List.length_nil]; omega, k⟩
      refine Yes.bind (below_y _ _ k) fun r ⟨_, _, k⟩ => Yes.ite (fun _ => ?_) fun _ => Yes.ite (fun _ => ?_) fun _ => Yes.ite (fun _ => ?_) fun _ => Yes.ite (fun _ => ?_) fun _ => Yes.ite (fun _ => ?_) fun _ => Yes.ite (fun _ => ?_) fun _ => Yes.ite (fun _ => ?_) fun _ => J0 _ k
      · exact Yes.bind (K 1 _ (by omega) k) fun r ⟨h1, h2, k⟩ => Yes.some ⟨by simp only [zGExpr, zLGQuery, List.length_nil]; omega, k⟩
      · exact Yes.bind (K 1 _ (by omega) k) fun r ⟨h1, h2, k⟩ => Yes.some ⟨by simp only [zGExpr, zLGQuery, List.length_nil]; omega, k⟩
      · exact Yes.bind (once_y _ _ k) fun r k => Yes.bind (K 1 _ (by omega) k) fun r ⟨h1, h2, k⟩ => Yes.some ⟨by simp only [zGExpr, zLGQuery, List.length_nil]; omega, k⟩
      · exact Yes.bind (once_y _ _ k) fun r k => Yes.bind (K 3 _ (by omega) k) fun r ⟨h1, h2, k⟩ => Yes.some ⟨by simp only [zGExpr, zLGQuery, List.length_nil]; omega, k⟩
      · exact Yes.bind (once_y _ _ k) fun r k => Yes.bind (below_y _ _ k) fun r ⟨b0, b1, k⟩ => Yes.bind (K _ _ (by have := b1 (by decide); rw [wrap_ok (by omega) (by omega)]; omega) k) fun r ⟨h1, h2, k⟩ => Yes.some ⟨by simp only [zGExpr, zLGQuery, List.length_nil]; omega, k⟩
      · refine Yes.ite (fun h2 => ?_) fun _ => J0 _ k
        exact Yes.bind (once_y _ _ k) fun r k => Yes.bind (K 1 _ (by omega) k) fun r ⟨h1, h3, k⟩ => Yes.bind (Q2 _ (by simpa using h2) k) fun r2 ⟨h4, k⟩ => Yes.some ⟨by simp only [zGExpr, zLGQuery, List.length_nil, List.length_cons]; omega, k⟩
      · refine Yes.ite (fun h2 => ?_) fun _ => J0 _ k
        exact Yes.bind (Q2 _ (by simpa using h2) k) fun r2 ⟨h4, k⟩ => Yes.some ⟨by simp only [zGExpr, zLGExpr, zLGQuery, List.length_nil, List.length_cons]; omega, k⟩
theorem deep_y (c : GL1Cur) (h : okCur c) : Yes (sL7Deep_X c) (okE 24) := by
  have L : ∀ (y : Int × GL1Cur), okCur y.2 → 0 ≤ y.1 → y.1 < 3 → ∀ (n : Nat) (x : Int) (a b : Int) (q : Bool) (v w : Int) (t s u : List UInt8) (ks : List GExpr) (ss : List GQuery), 22 + y.1 ≤ n + x → 0 ≤ x → x ≤ 24 → (((ks.length + zLGExpr ks) + (ss.length + zLGQuery ss) : Nat) : Int) ≤ x →
      Yes (sL7Deep_X_L0 y x a b q v w (t, (s, (u, (ks, ss))))) (okE 24) := by
    intro y k y0 y1 n
    have e0 : IntKind.wrap .i64 (22 + y.1) = 22 + y.1 := wrap_ok (by omega) (by omega)
    have fin : ∀ (x : Int) (a b : Int) (q : Bool) (v w : Int) (t s u : List UInt8) (ks : List GExpr) (ss : List GQuery), ¬ x < 22 + y.1 → x ≤ 24 → (((ks.length + zLGExpr ks) + (ss.length + zLGQuery ss) : Nat) : Int) ≤ x → Yes (sL7Deep_X_L0 y x a b q v w (t, (s, (u, (ks, ss))))) (okE 24) := by
      intro x a b q v w t s u ks ss hx h2 hz
      rw [sL7Deep_X_L0, e0, if_neg (by simpa using hx)]
      exact Yes.some ⟨by simp only [zGExpr]; omega, k⟩
    induction n with
    | zero => intro x a b q v w t s u ks ss hn h0 h2 hz; exact fin x a b q v w t s u ks ss (by omega) h2 hz
    | succ n ih =>
      intro x a b q v w t s u ks ss hn h0 h2 hz
      by_cases hx : x < 22 + y.1
      · rw [sL7Deep_X_L0, e0, if_pos (by simpa using hx), wrap_ok (by omega) (by omega)]
        refine ih _ _ _ _ _ _ _ _ _ _ _ (by omega) (by omega) (by omega) ?_
        simp only [zGExpr, zLGExpr, zLGQuery, List.length_cons, List.length_nil]; omega
      · exact fin x a b q v w t s u ks ss hx h2 hz
  rw [sL7Deep_X]
  refine Yes.bind (col_y _ h) fun r ⟨h1, h2, k⟩ => Yes.bind (below_y _ _ k) fun r2 ⟨b0, b1, k⟩ => ?_
  have := b1 (by decide)
  exact L r2 k b0 this 24 0 _ _ _ _ _ _ _ _ _ _ (by omega) (by omega) (by omega) (by rw [h1, h2]; simp [zLGExpr, zLGQuery])
theorem bent_y : ∀ (n : Nat) (e : GExpr) (c : GL1Cur), zGExpr e < n → zGExpr e ≤ 100000 → okCur c → Yes (sL7Bent_X c e) (okE (zGExpr e + 1)) := by
  intro n
  induction n with
  | zero => intro e c h _ _; omega
  | succ n ih =>
    intro e c hn hz h
    have hE := zE e
    have J : ∀ a b q v w t s u cb ci ch ks ss, okCur ⟨cb, ci, ch⟩ → (ks.length + zLGExpr ks) + (ss.length + zLGQuery ss) ≤ zGExpr e + 1 → Yes (sL7Bent_X_J0 a b q v w t s u cb ci ch ks ss) (okE (zGExpr e + 1)) := fun a b q v w t s u cb ci ch ks ss k hl => Yes.some ⟨by simp only [zGExpr]; omega, k⟩
    rw [sL7Bent_X]
    refine Yes.bind (once_g _ _ _ _ h) fun r k => Yes.bind (Q := fun q => q = true → 0 < (e.kids.length : Int)) ⟨_, rfl, ?_⟩ fun q hq => Yes.ite (fun hq2 => ?_) fun _ => ?_
    · intro h1
      by_cases h0 : 0 < (e.kids.length : Int)
      · exact h0
      · rw [if_neg (by simpa using h0)] at h1; exact absurd h1 (by simp)
    · have h0 := hq hq2
      refine Yes.bind (below_y _ _ k) fun r ⟨b0, b1, k⟩ => ?_
      obtain ⟨v, _, hv⟩ := pick_idx (l := e.kids) b0 (b1 h0)
      have hg : e.kids[r.1.toNat]? = some v := by unfold idx at hv; rw [if_pos b0] at hv; exact hv
      have hl := zLGExpr_get hg
      refine Yes.bind (Q := fun z => z = v) ⟨v, hv, rfl⟩ fun z hz2 => ?_
      subst hz2
      refine Yes.bind (ih z _ (by omega) (by omega) k) fun r2 ⟨h4, k⟩ => Yes.some ⟨?_, k⟩
      have := zLGExpr_set (b := 1) hg h4
      simp only [zGExpr, List.length_set]; omega
    · refine Yes.bind (below_y _ _ k) fun r ⟨_, _, k⟩ => Yes.ite (fun _ => ?_) fun _ => Yes.ite (fun _ => ?_) fun _ => Yes.ite (fun _ => ?_) fun _ => Yes.ite (fun _ => ?_) fun _ => Yes.ite (fun _ => ?_) fun _ => Yes.ite (fun _ => ?_) fun _ => Yes.ite (fun _ => ?_) fun _ => ?_
      · exact Yes.bind (below_y _ _ k) fun r ⟨_, _, k⟩ => J _ _ _ _ _ _ _ _ _ _ _ _ _ k (by omega)
      · exact Yes.bind (pickI_y _ _ (by decide) k) fun r k => J _ _ _ _ _ _ _ _ _ _ _ _ _ k (by omega)
      · exact J _ _ _ _ _ _ _ _ _ _ _ _ _ k (by omega)
      · exact Yes.bind (bent5_y _ k) fun r k => J _ _ _ _ _ _ _ _ _ _ _ _ _ k (by omega)
      · exact Yes.bind (any_y _ k) fun r k => J _ _ _ _ _ _ _ _ _ _ _ _ _ k (by omega)
      · exact Yes.bind (any_y _ k) fun r k => J _ _ _ _ _ _ _ _ _ _ _ _ _ k (by omega)
      · refine Yes.bind (col_y _ k) fun r ⟨h1, h2, k⟩ => Yes.bind (app_y (by simp; omega)) fun y hy => J _ _ _ _ _ _ _ _ _ _ _ _ _ k ?_
        have h3 := zE r.1
        rw [h1, h2] at h3
        simp only [zLGExpr, zLGQuery, List.length_nil] at h3
        rw [hy, zLGExpr_app, List.length_append]
        simp only [zLGExpr, List.length_cons, List.length_nil]; omega
      · refine Yes.bind (app_y (by simp; omega)) fun y hy => J _ _ _ _ _ _ _ _ _ _ _ _ _ k ?_
        rw [hy, zLGQuery_app, List.length_append]
        simp only [zLGExpr, zLGItem, zLGSource, zLGSortKey, zLGQuery, zGQuery, List.length_cons, List.length_nil]; omega
def zGStmt : GStmt → Nat
  | ⟨_, q, _, r, _, se, w⟩ => zGQuery q + zL (zL zGExpr) r + zL zGExpr se + zL zGExpr w
theorem zL_eq (l : List GExpr) : zL zGExpr l = l.length + zLGExpr l := by rw [zLGExpr_eq]; rfl
theorem zLL_app (l m : List (List GExpr)) : zL (zL zGExpr) (l ++ m) = zL (zL zGExpr) l + zL (zL zGExpr) m := by simp [zL]; omega
theorem zL_app (l m : List GExpr) : zL zGExpr (l ++ m) = zL zGExpr l + zL zGExpr m := by simp [zL]; omega
def okSt (s : GStmt) : Prop := zGQuery s.query ≤ 6560 ∧ (s.rows.length ≤ 2 ∧ zL (zL zGExpr) s.rows ≤ 728) ∧ zL zGExpr s.sets ≤ 363 ∧ zL zGExpr s.where_ ≤ 363 ∧ s.cols.length ≤ 2
theorem kids8_y (d : Int) (h0 : 1 ≤ d) (h3 : d ≤ 3) (m : Int) (hm : m ≤ 3) (c : GL1Cur) (k : okCur c) : Yes (sL7Kids_X c d m) fun r => zL zGExpr r.1 ≤ 363 ∧ okCur r.2 := by
  have hB : Zb 2 = 120 := rfl
  refine (kids_x (Zb 2) d m hm (fun c k => ?_) c k).mono fun r ⟨h1, h2, h3⟩ => ⟨by rw [zL_eq]; omega, h3⟩
  rw [wrap_ok (by omega) (by omega)]
  exact expr_y 2 _ c (by omega) (by omega) k
theorem query8_y (d : Int) (h3 : d ≤ 3) (c : GL1Cur) (k : okCur c) : Yes (sL7Query_X c d) fun r => zGQuery r.1 ≤ 6560 ∧ okCur r.2 := by
  have hB : Zb 3 = 1092 := rfl
  exact (query_y (B := Zb 3) (fun c k => expr_y 3 _ c (by omega) (by omega) k) c k).mono fun r ⟨h1, h2⟩ => ⟨by omega, h2⟩
section
variable {d : Int} (h0 : 1 ≤ d) (h3 : d ≤ 3)
include h0 h3
theorem right2_y {kd : Int} {cols : List (List UInt8)} {sets : List GExpr} {rows : List (List GExpr)} {b : List Int} {i j : Int} (h1 : cols.length ≤ 2) (h2 : zL zGExpr sets ≤ 363) (h4 : rows.length ≤ 2) (h5 : zL (zL zGExpr) rows ≤ 728) (k : okCur ⟨b, i, j⟩) :
    Yes (sL8Right_X_J2 d kd cols b i j sets rows) fun r => okSt r.1 ∧ okCur r.2 := by
  have J3 : ∀ (t : List UInt8 × GL1Cur) (w : List GExpr) (b : List Int) (i j : Int), zL zGExpr w ≤ 363 → okCur ⟨b, i, j⟩ → Yes (sL8Right_X_J3 kd t cols sets rows b i j w) fun r => okSt r.1 ∧ okCur r.2 := fun t w b i j hw k =>
    Yes.some ⟨⟨by simp [zGQuery, zLGItem, zLGSource, zLGExpr, zLGSortKey], ⟨h4, h5⟩, h2, hw, h1⟩, k⟩
  unfold sL8Right_X_J2
  refine Yes.bind (name_y _ k) fun r k => Yes.bind (once_g _ _ _ _ k) fun r2 k => Yes.bind (Q := fun _ => True) ⟨_, rfl, trivial⟩ fun q _ => Yes.ite (fun _ => ?_) fun _ => J3 _ _ _ _ _ (by simp [zL]) k
  exact Yes.bind (kids8_y d h0 h3 1 (by omega) _ k) fun r ⟨hz, k⟩ => J3 _ _ _ _ _ hz k
theorem right0_y {y : Int × GL1Cur} (y0 : 0 ≤ y.1) (y1 : y.1 < 2) : ∀ (n : Nat) (x : Int) (b : List Int) (i j : Int) (f : List (List GExpr)), 1 + y.1 ≤ n + x → 0 ≤ x → (f.length : Int) ≤ x → x ≤ 2 → zL (zL zGExpr) f ≤ f.length * 364 → okCur ⟨b, i, j⟩ →
    Yes (sL8Right_X_L0 d y x b i j f) fun r => okSt r.1 ∧ okCur r.2 := by
  have e0 : IntKind.wrap .i64 (1 + y.1) = 1 + y.1 := wrap_ok (by omega) (by omega)
  have fin : ∀ (x : Int) (b : List Int) (i j : Int) (f : List (List GExpr)), ¬ x < 1 + y.1 → (f.length : Int) ≤ x → x ≤ 2 → zL (zL zGExpr) f ≤ f.length * 364 → okCur ⟨b, i, j⟩ → Yes (sL8Right_X_L0 d y x b i j f) fun r => okSt r.1 ∧ okCur r.2 := by
    intro x b i j f hx hl h2 hf k
    rw [sL8Right_X_L0, e0, if_neg (by simpa using hx)]
    exact right2_y h0 h3 (by simp) (by simp [zL]) (by omega) (by omega) k
  intro n
  induction n with
  | zero => intro x b i j f hn h0 hl h2 hf k; exact fin x b i j f (by omega) hl h2 hf k
  | succ n ih =>
    intro x b i j f hn hx0 hl h2 hf k
    by_cases hx : x < 1 + y.1
    · rw [sL8Right_X_L0, e0, if_pos (by simpa using hx)]
      refine Yes.bind (below_y _ _ k) fun r ⟨r0, r1, k⟩ => Yes.bind (kids8_y d h0 h3 _ (by have := r1 (by decide); rw [wrap_ok (by omega) (by omega)]; omega) _ k) fun r2 ⟨hz, k⟩ => Yes.bind (app_y (by simp; omega)) fun z hz2 => ?_
      subst hz2
      rw [wrap_ok (by omega) (by omega)]
      refine ih _ _ _ _ _ (by omega) (by omega) (by simp; omega) (by omega) ?_ k
      rw [zLL_app, List.length_append]
      have : zL (zL zGExpr) [r2.1] = 1 + zL zGExpr r2.1 := by simp [zL]
      simp only [List.length_cons, List.length_nil]; omega
    · exact fin x b i j f hx hl h2 hf k
theorem right1_y {y : Int × GL1Cur} (y0 : 0 ≤ y.1) (y1 : y.1 < 2) : ∀ (n : Nat) (x : Int) (f : List (List UInt8)) (b : List Int) (i j : Int), 1 + y.1 ≤ n + x → 0 ≤ x → (f.length : Int) ≤ x → x ≤ 2 → okCur ⟨b, i, j⟩ →
    Yes (sL8Right_X_L1 d y x f b i j) fun r => okSt r.1 ∧ okCur r.2 := by
  have e0 : IntKind.wrap .i64 (1 + y.1) = 1 + y.1 := wrap_ok (by omega) (by omega)
  have fin : ∀ (x : Int) (f : List (List UInt8)) (b : List Int) (i j : Int), ¬ x < 1 + y.1 → (f.length : Int) ≤ x → x ≤ 2 → okCur ⟨b, i, j⟩ → Yes (sL8Right_X_L1 d y x f b i j) fun r => okSt r.1 ∧ okCur r.2 := by
    intro x f b i j hx hl h2 k
    rw [sL8Right_X_L1, e0, if_neg (by simpa using hx)]
    exact Yes.bind (kids8_y d h0 h3 _ (by omega) _ k) fun r ⟨hz, k⟩ => right2_y h0 h3 (by omega) hz (by simp) (by simp [zL]) k
  intro n
  induction n with
  | zero => intro x f b i j hn h0 hl h2 k; exact fin x f b i j (by omega) hl h2 k
  | succ n ih =>
    intro x f b i j hn hx0 hl h2 k
    by_cases hx : x < 1 + y.1
    · rw [sL8Right_X_L1, e0, if_pos (by simpa using hx)]
      refine Yes.bind (name_y _ k) fun r k => Yes.bind (app_y (by simp; omega)) fun z hz2 => ?_
      subst hz2
      rw [wrap_ok (by omega) (by omega)]
      exact ih _ _ _ _ _ (by omega) (by omega) (by simp; omega) (by omega) k
    · exact fin x f b i j hx hl h2 k
theorem right8_y (c : GL1Cur) (k : okCur c) : Yes (sL8Right_X c d) fun r => okSt r.1 ∧ okCur r.2 := by
  unfold sL8Right_X
  refine Yes.bind (below_y _ _ k) fun r ⟨_, _, k⟩ => Yes.ite (fun _ => ?_) fun _ => Yes.ite (fun _ => ?_) fun _ => Yes.ite (fun _ => ?_) fun _ => ?_
  · exact Yes.bind (below_y _ _ k) fun r ⟨r0, r1, k⟩ => right0_y h0 h3 r0 (r1 (by decide)) 2 0 _ _ _ _ (by have := r1 (by decide); omega) (by omega) (by simp) (by omega) (by simp [zL]) k
  · exact Yes.bind (below_y _ _ k) fun r ⟨r0, r1, k⟩ => right1_y h0 h3 r0 (r1 (by decide)) 2 0 _ _ _ _ (by have := r1 (by decide); omega) (by omega) (by simp) (by omega) k
  · exact right2_y h0 h3 (by simp) (by simp [zL]) (by simp) (by simp [zL]) k
  · exact Yes.bind (query8_y d h3 _ k) fun r ⟨hz, k⟩ => Yes.some ⟨⟨hz, by simp [zL], by simp [zL], by simp [zL], by simp⟩, k⟩
end
theorem size3_y (p : List Int) (hp : p.length ≤ 1048576) : Yes (sL1Size p 3) fun r => 0 < r ∧ r ≤ 3 := by
  unfold sL1Size
  have e : Int.tdiv (p.length : Int) 20 = (p.length : Int) / 20 := Int.tdiv_eq_ediv_of_nonneg (by omega)
  rw [e, wrap_ok (n := (p.length : Int) / 20) (by omega) (by omega), wrap_ok (by omega) (by omega)]
  exact Yes.ite (fun _ => Yes.some (by omega)) fun h => Yes.some (by simp at h; omega)
theorem draw8_y (p : List Int) (hp : p.length ≤ 1048576) : Yes (sL8Draw p) fun s => zGStmt s ≤ 10000 := by
  have hZ : Zb 1 = 12 := rfl
  unfold sL8Draw
  obtain ⟨c, e0, o0⟩ := l1New_ok p hp
  refine Yes.bind ⟨c, e0, o0⟩ fun c k => Yes.bind (size3_y p hp) fun s ⟨s0, s1⟩ => Yes.bind (below_y _ _ k) fun r ⟨b0, b1, k⟩ => ?_
  have hb := b1 s0
  refine Yes.bind (right8_y (by rw [wrap_ok (by omega) (by omega)]; omega) (by rw [wrap_ok (by omega) (by omega)]; omega) _ k) fun r ⟨⟨h1, h2, h3, h4, h5⟩, k⟩ => ?_
  have hq := zQ r.1.query
  have J : ∀ kd lim t cols rows sets wh, zL (zL zGExpr) rows ≤ 1000 → zL zGExpr sets ≤ 1000 → zL zGExpr wh ≤ 1000 → Yes (sL8Draw_J0 r kd lim t cols rows sets wh) fun s => zGStmt s ≤ 10000 := fun kd lim t cols rows sets wh a b c => Yes.some (by
    simp only [zGStmt, zGQuery]; omega)
  refine Yes.bind (below_y _ _ k) fun r2 ⟨_, _, k⟩ => Yes.ite (fun _ => ?_) fun _ => Yes.ite (fun _ => ?_) fun _ => Yes.ite (fun _ => ?_) fun _ => Yes.ite (fun _ => ?_) fun _ => Yes.ite (fun _ => ?_) fun _ => Yes.ite (fun _ => ?_) fun _ => Yes.ite (fun _ => ?_) fun _ => ?_
  · exact Yes.bind (below_y _ _ k) fun _ _ => J _ _ _ _ _ _ _ (by omega) (by omega) (by omega)
  · exact Yes.bind (any_y _ k) fun _ _ => J _ _ _ _ _ _ _ (by omega) (by omega) (by omega)
  · refine Yes.bind (expr_y 1 _ _ (by omega) (by omega) k) fun r3 ⟨hz, k⟩ => Yes.bind (bent_y _ r3.1 _ (Nat.lt_succ_self _) (by omega) k) fun r4 ⟨hz4, k⟩ => Yes.bind (app_y (by rw [zL_eq] at h4; simp; omega)) fun z hz2 => J _ _ _ _ _ _ _ (by omega) (by omega) ?_
    rw [hz2, zL_app]
    have : zL zGExpr [r4.1] = 1 + zGExpr r4.1 := by simp [zL]
    omega
  · exact Yes.bind (any_y _ k) fun _ _ => Yes.bind (app_y (by simp; omega)) fun _ _ => J _ _ _ _ _ _ _ (by omega) (by omega) (by omega)
  · refine Yes.bind (app_y (by simp; omega)) fun z hz2 => J _ _ _ _ _ _ _ ?_ (by omega) (by omega)
    rw [hz2, zLL_app]
    have : zL (zL zGExpr) [([] : List GExpr)] = 1 := by simp [zL]
    omega
  · exact Yes.bind (below_y _ _ k) fun _ _ => J _ _ _ _ _ _ _ (by omega) (by omega) (by omega)
  · refine Yes.bind (deep_y _ k) fun r3 ⟨hz, k⟩ => Yes.bind (app_y (by rw [zL_eq] at h3; simp; omega)) fun z hz2 => J _ _ _ _ _ _ _ (by omega) ?_ (by omega)
    rw [hz2, zL_app]
    have : zL zGExpr [r3.1] = 1 + zGExpr r3.1 := by simp [zL]
    omega
  · exact J _ _ _ _ _ _ _ (by omega) (by omega) (by omega)
theorem memL_lt {x : GExpr} : ∀ {l : List GExpr}, x ∈ l → zGExpr x < l.length + zLGExpr l
  | y :: l, h => by
    simp only [zLGExpr, List.length_cons]
    rcases List.mem_cons.1 h with rfl | h
    · omega
    · have := memL_lt h; omega
theorem memQ_lt {x : GQuery} : ∀ {l : List GQuery}, x ∈ l → zGQuery x < l.length + zLGQuery l
  | y :: l, h => by
    simp only [zLGQuery, List.length_cons]
    rcases List.mem_cons.1 h with rfl | h
    · omega
    · have := memQ_lt h; omega
theorem memI_lt {x : GItem} : ∀ {l : List GItem}, x ∈ l → zGItem x < l.length + zLGItem l
  | y :: l, h => by
    simp only [zLGItem, List.length_cons]
    rcases List.mem_cons.1 h with rfl | h
    · omega
    · have := memI_lt h; omega
theorem memS_lt {x : GSource} : ∀ {l : List GSource}, x ∈ l → zGSource x < l.length + zLGSource l
  | y :: l, h => by
    simp only [zLGSource, List.length_cons]
    rcases List.mem_cons.1 h with rfl | h
    · omega
    · have := memS_lt h; omega
theorem memK_lt {x : GSortKey} : ∀ {l : List GSortKey}, x ∈ l → zGSortKey x < l.length + zLGSortKey l
  | y :: l, h => by
    simp only [zLGSortKey, List.length_cons]
    rcases List.mem_cons.1 h with rfl | h
    · omega
    · have := memK_lt h; omega
theorem exprsOf_len (q : GQuery) : (exprsOf q).length ≤ zGQuery q := by
  have h := zQ q
  have h1 := items_len q.items
  have h2 := ons_len q.from_
  have h3 := order_len q.order
  simp only [exprsOf, List.length_append]; omega
theorem exprsOf_lt {q : GQuery} {x : GExpr} (hx : x ∈ exprsOf q) : zGExpr x < zGQuery q := by
  have h := zQ q
  simp only [exprsOf, List.mem_append, List.mem_flatMap] at hx
  rcases hx with ((⟨i, hi, hx⟩ | ⟨s, hs, hx⟩) | hx) | ⟨k, hk, hx⟩
  · have h1 := memI_lt hi
    have : x = i.expr := by
      cases hst : i.star <;> simp [hst] at hx
      exact hx
    subst this
    have : zGExpr i.expr ≤ zGItem i := by obtain ⟨a, b, c, d⟩ := i; simp only [zGItem]; omega
    omega
  · have h1 := memS_lt hs
    have h2 := memL_lt hx
    have : s.on_.length + zLGExpr s.on_ ≤ zGSource s := by obtain ⟨a, b, c⟩ := s; simp only [zGSource]; omega
    omega
  · have h2 := memL_lt hx
    omega
  · have h1 := memK_lt hk
    have : x = k.expr := by simpa using hx
    subst this
    have : zGExpr k.expr ≤ zGSortKey k := by obtain ⟨a, b⟩ := k; simp only [zGSortKey]; omega
    omega
theorem sum_app {α : Type} (z : α → Nat) (l m : List α) : ((l ++ m).map z).sum = (l.map z).sum + (m.map z).sum := by simp
theorem exprs_sum (q : GQuery) : (exprsOf q).length + ((exprsOf q).map zGExpr).sum ≤ zGQuery q := by
  have h := zQ q
  have h1 : ∀ l : List GItem, (l.flatMap (fun i => if i.star then [] else [i.expr])).length + ((l.flatMap (fun i => if i.star then [] else [i.expr])).map zGExpr).sum ≤ l.length + zLGItem l := by
    intro l
    induction l with
    | nil => simp
    | cons x l ih =>
      rw [List.flatMap_cons, List.length_append, sum_app]
      have h1 : (if x.star = true then [] else [x.expr]).length + ((if x.star = true then [] else [x.expr]).map zGExpr).sum ≤ 1 + zGItem x := by
        obtain ⟨a, b, c, d⟩ := x
        cases a <;> simp [zGItem] <;> omega
      simp only [List.length_cons, zLGItem]; omega
  have h2 : ∀ l : List GSource, (l.flatMap (fun s => s.on_)).length + ((l.flatMap (fun s => s.on_)).map zGExpr).sum ≤ l.length + zLGSource l := by
    intro l
    induction l with
    | nil => simp
    | cons x l ih =>
      rw [List.flatMap_cons, List.length_append, sum_app]
      obtain ⟨a, b, c⟩ := x
      simp only [List.length_cons, zLGSource, zGSource, zLGExpr_eq]; omega
  have h3 : ∀ l : List GSortKey, (l.flatMap (fun k => [k.expr])).length + ((l.flatMap (fun k => [k.expr])).map zGExpr).sum ≤ l.length + zLGSortKey l := by
    intro l
    induction l with
    | nil => simp
    | cons x l ih =>
      rw [List.flatMap_cons, List.length_append, sum_app]
      obtain ⟨a, b⟩ := x
      simp only [List.length_cons, List.length_nil, List.map_cons, List.map_nil, List.sum_cons, List.sum_nil, zLGSortKey, zGSortKey]; omega
  have k1 := h1 q.items
  have k2 := h2 q.from_
  have k3 := h3 q.order
  have k4 := zLGExpr_eq q.where_
  simp only [exprsOf, List.length_append, sum_app]
  omega
theorem fold_add {α : Type} {d : α → Int} : ∀ {p : List α} {b : Int}, 0 ≤ b → (∀ y ∈ p, 0 ≤ d y) → b + (p.map d).sum ≤ 4611686018427387904 → p.foldl (fun b y => IntKind.wrap .i64 (b + d y)) b = b + (p.map d).sum
  | [], b, _, _, _ => by simp
  | x :: p, b, h0, h1, h2 => by
    simp only [List.map_cons, List.sum_cons] at h2 ⊢
    have hx := h1 x (by simp)
    have hs : 0 ≤ (p.map d).sum := by
      have : ∀ l : List α, (∀ y ∈ l, 0 ≤ d y) → 0 ≤ (l.map d).sum := by
        intro l
        induction l with
        | nil => intro _; simp
        | cons a l ih => intro h; simp only [List.map_cons, List.sum_cons]; have := h a (by simp); have := ih fun y hy => h y (by simp [hy]); omega
      exact this p fun y hy => h1 y (by simp [hy])
    rw [List.foldl_cons, wrap_ok (by omega) (by omega), fold_add (by omega) (fun y hy => h1 y (by simp [hy])) (by omega)]
    omega
theorem sum_le {α : Type} {d : α → Int} {z : α → Nat} : ∀ {p : List α}, (∀ y ∈ p, 0 ≤ d y ∧ d y ≤ 1 + z y) → 0 ≤ (p.map d).sum ∧ (p.map d).sum ≤ p.length + (p.map z).sum
  | [], _ => by simp
  | x :: p, h => by
    have h1 := h x (by simp)
    have h2 := sum_le (p := p) fun y hy => h y (by simp [hy])
    simp only [List.map_cons, List.sum_cons, List.length_cons]; omega
theorem sum_le0 {α : Type} {d : α → Int} {z : α → Nat} : ∀ {p : List α}, (∀ y ∈ p, 0 ≤ d y ∧ d y ≤ z y) → 0 ≤ (p.map d).sum ∧ (p.map d).sum ≤ (p.map z).sum
  | [], _ => by simp
  | x :: p, h => by
    have h1 := h x (by simp)
    have h2 := sum_le0 (p := p) fun y hy => h y (by simp [hy])
    simp only [List.map_cons, List.sum_cons]; omega
def stmtExprs (s : GStmt) : List GExpr := exprsOf s.query ++ s.rows.flatMap id ++ s.sets ++ s.where_
theorem rows_sum (l : List (List GExpr)) : (l.flatMap id).length + ((l.flatMap id).map zGExpr).sum ≤ zL (zL zGExpr) l := by
  have e : ∀ l : List (List GExpr), zL (zL zGExpr) l = l.length + (l.map (zL zGExpr)).sum := fun _ => rfl
  have e2 : ∀ l : List GExpr, zL zGExpr l = l.length + (l.map zGExpr).sum := fun _ => rfl
  induction l with
  | nil => simp [e]
  | cons x l ih =>
    rw [e] at ih ⊢
    rw [List.flatMap_cons, List.length_append, sum_app, List.map_cons, List.sum_cons, List.length_cons, e2]
    simp only [id]
    omega
theorem stmt_sum (s : GStmt) : (stmtExprs s).length + ((stmtExprs s).map zGExpr).sum ≤ zGStmt s := by
  obtain ⟨k, q, t, r, c, se, w⟩ := s
  have e2 : ∀ l : List GExpr, zL zGExpr l = l.length + (l.map zGExpr).sum := fun _ => rfl
  have h1 := exprs_sum q
  have h2 := rows_sum r
  have h3 := e2 se
  have h4 := e2 w
  simp only [stmtExprs, List.length_append, sum_app, zGStmt]
  omega
theorem stmt_rows (s : GStmt) : s.rows.length ≤ zGStmt s ∧ zGQuery s.query ≤ zGStmt s := by
  obtain ⟨k, q, t, r, c, se, w⟩ := s
  have e : zL (zL zGExpr) r = r.length + (r.map (zL zGExpr)).sum := rfl
  simp only [zGStmt]
  omega
theorem stmtExprs_mem {s : GStmt} {y : GExpr} (h : y ∈ stmtExprs s) : zGExpr y < zGStmt s := by
  have h1 := stmt_sum s
  have h2 := le_sum (z := zGExpr) h
  have h3 : 0 < (stmtExprs s).length := List.length_pos_of_mem h
  omega
theorem sStmtExprs_ok (s : GStmt) (hz : zGStmt s ≤ 1048576) : sL8Exprs s = some (stmtExprs s) := by
  have h1 := stmt_sum s
  obtain ⟨h2, h3⟩ := stmt_rows s
  have app : ∀ {l m : List GExpr}, l.length + m.length ≤ 1048576 → appG 136 l m = some (l ++ m) := fun h => appG_ok (by omega)
  simp only [stmtExprs, List.length_append] at h1
  unfold sL8Exprs
  rw [sExprs_ok s.query (by omega)]
  simp only [Option.bind_eq_bind, Option.bind_some]
  rw [gather (p := s.rows) (f := id) (c := 1048576) (G := fun y acc => appG 136 acc y) (L := fun acc i => sL8Exprs_L0 s acc i) (K := fun acc => (appG 136 acc s.sets) >>= fun y4 => (appG 136 y4 s.where_) >>= fun y5 => some y5) (by omega) ?_ ?_ _ (by omega)]
  · simp only [Option.bind_eq_bind]
    rw [app (by simp only [List.length_append]; omega)]
    simp only [Option.bind_some]
    rw [app (by simp only [List.length_append]; omega)]
    rfl
  · intro y _ acc ha; exact app ha
  · intro i acc; rw [sL8Exprs_L0]
theorem iStmtExprs_ok (s : GStmt) (hz : zGStmt s ≤ 1048576) : iStmt_exprs s = some (stmtExprs s) := by
  have h1 := stmt_sum s
  obtain ⟨h2, h3⟩ := stmt_rows s
  have app : ∀ {l m : List GExpr}, l.length + m.length ≤ 1048576 → appG 136 l m = some (l ++ m) := fun h => appG_ok (by omega)
  simp only [stmtExprs, List.length_append] at h1
  unfold iStmt_exprs
  rw [iExprs_ok s.query (by omega)]
  simp only [Option.bind_eq_bind, Option.bind_some]
  rw [gather (p := s.rows) (f := id) (c := 1048576) (G := fun y acc => appG 136 acc y) (L := fun acc i => iStmt_exprs_L0 s acc i) (K := fun acc => (appG 136 acc s.sets) >>= fun y4 => (appG 136 y4 s.where_) >>= fun y5 => some y5) (by omega) ?_ ?_ _ (by omega)]
  · simp only [Option.bind_eq_bind]
    rw [app (by simp only [List.length_append]; omega)]
    simp only [Option.bind_some]
    rw [app (by simp only [List.length_append]; omega)]
    rfl
  · intro y _ acc ha; exact app ha
  · intro i acc; rw [iStmt_exprs_L0]
theorem iSizeOfAll_ok (p : List GExpr) (d : GExpr → Int) (hz : p.length + (p.map zGExpr).sum ≤ 1048576) (H : ∀ y ∈ p, iSizeOf y = some (d y) ∧ 0 ≤ d y ∧ d y ≤ 1 + zGExpr y) : iSizeOfAll p = some (p.map d).sum := by
  have hs := sum_le (z := zGExpr) (d := d) (p := p) fun y hy => (H y hy).2
  rw [iSizeOfAll]
  rw [folded (p := p) (g := fun y b => (iSizeOf y) >>= fun r => some (IntKind.wrap .i64 (b + r))) (h := fun y b => IntKind.wrap .i64 (b + d y)) (L := fun b i => iSizeOfAll_L0 p b i) (K := fun b => some b) (by omega) ?_ ?_ 0]
  · rw [fold_add (by omega) (fun y hy => (H y hy).2.1) (by omega)]; simp
  · intro y hy b; simp only [(H y hy).1, Option.bind_eq_bind, Option.bind_some]
  · intro i b; rw [iSizeOfAll_L0]; simp only [Option.bind_eq_bind, Option.bind_assoc, Option.bind_some]
theorem iQuerySize_ok (q : GQuery) (d : GExpr → Int) (hz : zGQuery q ≤ 1048576) (H : ∀ y ∈ exprsOf q, iSizeOf y = some (d y) ∧ 0 ≤ d y ∧ d y ≤ 1 + zGExpr y) : iQuerySize q = some ((exprsOf q).map d).sum := by
  have hl := exprs_sum q
  rw [iQuerySize, iExprs_ok q hz]
  simp only [Option.bind_eq_bind, Option.bind_some]
  rw [iSizeOfAll_ok _ d (by omega) H]; rfl
def mx (b r : Int) : Int := if r > b then r else b
theorem mx_le {α : Type} {d s : α → Int} : ∀ {p : List α} {b c : Int}, (∀ y ∈ p, d y ≤ s y ∧ 0 ≤ s y) → b ≤ c → 0 ≤ b → 0 ≤ c → p.foldl (fun b y => mx b (d y)) b ≤ c + (p.map s).sum ∧ b ≤ p.foldl (fun b y => mx b (d y)) b
  | [], b, c, _, h, _, _ => by simp; exact h
  | x :: p, b, c, H, h, hb, hc => by
    have h1 := H x (by simp)
    have hm : b ≤ mx b (d x) ∧ mx b (d x) ≤ c + s x := by unfold mx; split <;> omega
    have h2 := mx_le (p := p) (b := mx b (d x)) (c := c + s x) (fun y hy => H y (by simp [hy])) hm.2 (by omega) (by omega)
    simp only [List.foldl_cons, List.map_cons, List.sum_cons]; omega
theorem iQueryDepth_ok (q : GQuery) (d : GExpr → Int) (hz : zGQuery q ≤ 1048576) (H : ∀ y ∈ exprsOf q, iDepthOf y = some (d y)) : iQueryDepth q = some ((exprsOf q).foldl (fun b y => mx b (d y)) 0) := by
  have hl := exprsOf_len q
  rw [iQueryDepth, iExprs_ok q hz]
  simp only [Option.bind_eq_bind, Option.bind_some]
  rw [iDeepestOf]
  rw [folded (p := exprsOf q) (g := fun y b => (iDepthOf y) >>= fun r => some (mx b r)) (h := fun y b => mx b (d y)) (L := fun b i => iDeepestOf_L0 (exprsOf q) b i) (K := fun b => some b) (by omega) ?_ ?_ 0]
  · rfl
  · intro y hy b; simp only [H y hy, Option.bind_eq_bind, Option.bind_some]
  · intro i b; rw [iDeepestOf_L0]; simp only [Option.bind_eq_bind, Option.bind_assoc, Option.bind_some, mx]
def dI (y : GExpr) : Int := (iDepthOf y).getD 0
def sI (y : GExpr) : Int := (iSizeOf y).getD 0
def dQ (q : GQuery) : Int := (exprsOf q).foldl (fun b y => mx b (dI y)) 0
def sQ (q : GQuery) : Int := ((exprsOf q).map sI).sum
def goodE (y : GExpr) : Prop := iDepthOf y = some (dI y) ∧ iSizeOf y = some (sI y) ∧ 1 ≤ dI y ∧ dI y ≤ sI y ∧ sI y ≤ 1 + zGExpr y
def goodQ (q : GQuery) : Prop := iQueryDepth q = some (dQ q) ∧ iQuerySize q = some (sQ q) ∧ 0 ≤ dQ q ∧ dQ q ≤ sQ q ∧ sQ q ≤ zGQuery q
theorem goodQ_of {q : GQuery} (hz : zGQuery q ≤ 1048576) (H : ∀ y ∈ exprsOf q, goodE y) : goodQ q := by
  have h3 := sum_le (z := zGExpr) (d := sI) (p := exprsOf q) fun y hy => by obtain ⟨_, _, a, b, c⟩ := H y hy; exact ⟨by omega, c⟩
  have h4 := exprs_sum q
  have h5 := mx_le (d := dI) (s := sI) (p := exprsOf q) (b := 0) (c := 0) (fun y hy => by obtain ⟨_, _, a, b, c⟩ := H y hy; exact ⟨b, by omega⟩) (by omega) (by omega) (by omega)
  refine ⟨iQueryDepth_ok q dI hz fun y hy => (H y hy).1, iQuerySize_ok q sI hz fun y hy => ?_, h5.2, by simp only [dQ, sQ]; omega, by simp only [sQ]; omega⟩
  obtain ⟨_, e, a, b, c⟩ := H y hy
  exact ⟨e, by omega, c⟩
theorem goodE_of {x : GExpr} (hz : zGExpr x ≤ 1048576) (HK : ∀ y ∈ x.kids, goodE y) (HQ : ∀ q ∈ x.sub, goodQ q) :
    let D := x.sub.foldl (fun b y => mx b (dQ y)) (x.kids.foldl (fun b y => mx b (dI y)) 0)
    let S := 1 + (x.kids.map sI).sum + (x.sub.map sQ).sum
    iDepthOf x = some (D + 1) ∧ iSizeOf x = some S ∧ 0 ≤ D ∧ D < S ∧ S ≤ 1 + zGExpr x := by
  intro D S
  have hE := zE x
  have hk := sum_le (z := zGExpr) (d := sI) (p := x.kids) fun y hy => by obtain ⟨_, _, a, b, c⟩ := HK y hy; exact ⟨by omega, c⟩
  have hq := sum_le0 (z := zGQuery) (d := sQ) (p := x.sub) fun y hy => by obtain ⟨_, _, a, b, c⟩ := HQ y hy; exact ⟨by omega, c⟩
  have hk' := zLGExpr_eq x.kids
  have hq' := zLGQuery_eq x.sub
  have m1 := mx_le (d := dI) (s := sI) (p := x.kids) (b := 0) (c := 0) (fun y hy => by obtain ⟨_, _, a, b, c⟩ := HK y hy; exact ⟨b, by omega⟩) (by omega) (by omega) (by omega)
  have m2 := mx_le (d := dQ) (s := sQ) (p := x.sub) (b := x.kids.foldl (fun b y => mx b (dI y)) 0) (c := (x.kids.map sI).sum) (fun y hy => by obtain ⟨_, _, a, b, c⟩ := HQ y hy; exact ⟨b, by omega⟩) (by omega) (by omega) (by omega)
  have hS : S ≤ 1 + zGExpr x := by simp only [S]; omega
  have hD0 : 0 ≤ D := by simp only [D]; omega
  have hDS : D < S := by simp only [D, S]; omega
  refine ⟨?_, ?_, hD0, hDS, hS⟩
  · rw [iDepthOf]
    rw [folded (p := x.kids) (g := fun y b => (iDepthOf y) >>= fun r => some (mx b r)) (h := fun y b => mx b (dI y)) (L := fun b i => iDepthOf_L0 x b i) (K := fun b => iDepthOf_L1 x b 0) (by omega) ?_ ?_ 0]
    · rw [folded (p := x.sub) (g := fun y b => (iQueryDepth y) >>= fun r => some (mx b r)) (h := fun y b => mx b (dQ y)) (L := fun b i => iDepthOf_L1 x b i) (K := fun b => some (IntKind.wrap .i64 (1 + b))) (by omega) ?_ ?_ _]
      · rw [wrap_ok (by show _ ≤ 1 + D; omega) (by show 1 + D ≤ _; omega), Int.add_comm]
      · intro y hy b; simp only [(HQ y hy).1, Option.bind_eq_bind, Option.bind_some]
      · intro i b; rw [iDepthOf_L1]; simp only [Option.bind_eq_bind, Option.bind_assoc, Option.bind_some, mx]
    · intro y hy b; simp only [(HK y hy).1, Option.bind_eq_bind, Option.bind_some]
    · intro i b; rw [iDepthOf_L0]; simp only [Option.bind_eq_bind, Option.bind_assoc, Option.bind_some, mx]
  · rw [iSizeOf, iSizeOfAll_ok x.kids sI (by omega) fun y hy => by obtain ⟨_, e, a, b, c⟩ := HK y hy; exact ⟨e, by omega, c⟩]
    simp only [Option.bind_eq_bind, Option.bind_some]
    rw [wrap_ok (by omega) (by omega)]
    rw [folded (p := x.sub) (g := fun y b => (iQuerySize y) >>= fun r => some (IntKind.wrap .i64 (b + r))) (h := fun y b => IntKind.wrap .i64 (b + sQ y)) (L := fun b i => iSizeOf_L0 x b i) (K := fun b => some b) (by omega) ?_ ?_ _]
    · rw [fold_add (by omega) (fun y hy => by obtain ⟨_, _, a, b, c⟩ := HQ y hy; omega) (by omega)]
    · intro y hy b; simp only [(HQ y hy).2.1, Option.bind_eq_bind, Option.bind_some]
    · intro i b; rw [iSizeOf_L0]; simp only [Option.bind_eq_bind, Option.bind_assoc, Option.bind_some]
theorem getD_of {m : Option Int} {a : Int} (h : m = some a) : m.getD 0 = a := by rw [h]; rfl
theorem good_all : ∀ (n : Nat) (x : GExpr), zGExpr x < n → zGExpr x ≤ 1048576 → goodE x := by
  intro n
  induction n with
  | zero => intro x h _; omega
  | succ n ih =>
    intro x hx hz
    have hE := zE x
    have HK : ∀ y ∈ x.kids, goodE y := fun y hy => by have := memL_lt hy; exact ih y (by omega) (by omega)
    have HQ : ∀ q ∈ x.sub, goodQ q := fun q hq => by
      have := memQ_lt hq
      exact goodQ_of (by omega) fun y hy => by have := exprsOf_lt hy; exact ih y (by omega) (by omega)
    obtain ⟨h1, h2, h3, h4, h5⟩ := goodE_of hz HK HQ
    have e1 : dI x = _ := getD_of h1
    have e2 : sI x = _ := getD_of h2
    unfold goodE
    rw [e1, e2]
    exact ⟨h1, h2, by omega, by omega, h5⟩
theorem wLow_eq (a b : Int) : wLow a b = some (if a < b then a else b) := by
  unfold wLow
  by_cases h : a < b <;> simp [h]
def lawH {α : Type} (d s : α → Int) (y : α) (b : Int × Int) : Int × Int := (IntKind.wrap .i64 (0 - (if IntKind.wrap .i64 (0 - b.1) < IntKind.wrap .i64 (0 - d y) then IntKind.wrap .i64 (0 - b.1) else IntKind.wrap .i64 (0 - d y))), IntKind.wrap .i64 (b.2 + s y))
theorem lawH_eq {α : Type} {d s : α → Int} : ∀ {p : List α} {b c : Int}, (∀ y ∈ p, 0 ≤ d y ∧ d y ≤ s y) → 0 ≤ b → b ≤ 1048577 → 0 ≤ c → c + (p.map s).sum ≤ 1048577 → p.foldl (fun b y => lawH d s y b) (b, c) = (p.foldl (fun b y => mx b (d y)) b, c + (p.map s).sum)
  | [], b, c, _, _, _, _, _ => by simp
  | x :: p, b, c, H, h0, h1, h2, h3 => by
    have hx := H x (by simp)
    have hs : 0 ≤ (p.map s).sum := by
      have : ∀ l : List α, (∀ y ∈ l, 0 ≤ s y) → 0 ≤ (l.map s).sum := by
        intro l
        induction l with
        | nil => intro _; simp
        | cons a l ih => intro h; simp only [List.map_cons, List.sum_cons]; have := h a (by simp); have := ih fun y hy => h y (by simp [hy]); omega
      exact this p fun y hy => by have := H y (by simp [hy]); omega
    simp only [List.map_cons, List.sum_cons] at h3
    have e : lawH d s x (b, c) = (mx b (d x), c + s x) := by
      simp only [lawH]
      rw [wrap_ok (n := 0 - d x) (by omega) (by omega), wrap_ok (n := 0 - b) (by omega) (by omega), wrap_ok (n := c + s x) (by omega) (by omega)]
      unfold mx
      by_cases hd : d x > b
      · rw [if_neg (by omega), if_pos hd, wrap_ok (by omega) (by omega)]; congr 1; omega
      · by_cases he : 0 - b < 0 - d x
        · rw [if_pos he, if_neg hd, wrap_ok (by omega) (by omega)]; congr 1; omega
        · rw [if_neg he, if_neg hd, wrap_ok (by omega) (by omega)]; congr 1; omega
    have hm : 0 ≤ mx b (d x) ∧ mx b (d x) ≤ 1048577 := by unfold mx; split <;> omega
    rw [List.foldl_cons, e, lawH_eq (fun y hy => H y (by simp [hy])) hm.1 hm.2 (by omega) (by omega)]
    simp only [List.foldl_cons, List.map_cons, List.sum_cons, Prod.mk.injEq, true_and]; omega
theorem fm_id {α : Type} (l : List α) : l.flatMap (fun y => [y]) = l := by simp
theorem etaE (x : GExpr) : GExpr.mk x.kind x.op x.not_ x.value x.qual x.name x.kids x.sub = x := by cases x; rfl
theorem etaQ (q : GQuery) : GQuery.mk q.distinct q.items q.from_ q.where_ q.order q.limit = q := by cases q; rfl
theorem etaI (i : GItem) : GItem.mk i.star i.qual i.expr i.as_ = i := by cases i; rfl
theorem etaS (s : GSource) : GSource.mk s.table s.as_ s.on_ = s := by cases s; rfl
theorem etaK (k : GSortKey) : GSortKey.mk k.expr k.desc = k := by cases k; rfl
theorem copyL {c : GExpr → Option GExpr} {L : List GExpr → Int → Option (List GExpr)} {p : List GExpr} (hp : p.length ≤ 1048576) (H : ∀ y ∈ p, c y = some y)
    (hL : ∀ (i : Nat) acc, L acc (i : Int) = if (decide ((i : Int) < (p.length : Int))) = true then ((idx p (i : Int)) >>= fun y => (c y) >>= fun y2 => (appG 136 acc ([y2] : List GExpr)) >>= fun z => L z (IntKind.wrap .i64 ((i : Int) + 1))) else some acc) : L [] 0 = some p := by
  have := gather (p := p) (f := fun y => [y]) (c := 1048576) (G := fun y acc => (c y) >>= fun y2 => appG 136 acc ([y2] : List GExpr)) (L := L) (K := fun acc => some acc) (by omega) ?_ ?_ [] (by rw [fm_id]; simpa using hp)
  · rw [this, fm_id]; rfl
  · intro y hy acc ha
    simp only [H y hy, Option.bind_eq_bind, Option.bind_some]
    exact appG_ok (by simp at ha ⊢; omega)
  · intro i acc; rw [hL]; simp only [Option.bind_eq_bind, Option.bind_assoc]
theorem copy_all7 : ∀ (n : Nat) (x : GExpr), zGExpr x < n → zGExpr x ≤ 1048576 → sL7Copy_X x = some x ∧ iCopyExpr_X x = some x := by
  intro n
  induction n with
  | zero => intro x h _; omega
  | succ n ih =>
    intro x hx hz
    have hE := zE x
    have LS : ∀ l : List GExpr, l.length ≤ 1048576 → (∀ y ∈ l, zGExpr y < zGExpr x) → sL7Copies_X l = some l := by
      intro l hl h
      rw [sL7Copies_X]
      exact copyL (c := sL7Copy_X) (L := fun acc i => sL7Copies_X_L0 l i acc) hl (fun y hy => (ih y (by have := h y hy; omega) (by have := h y hy; omega)).1) fun i acc => by rw [sL7Copies_X_L0]
    have LI : ∀ l : List GExpr, l.length ≤ 1048576 → (∀ y ∈ l, zGExpr y < zGExpr x) → iCopyExprs_X l = some l := by
      intro l hl h
      rw [iCopyExprs_X]
      by_cases h0 : l = []
      · subst h0; simp
      · rw [if_neg (by simp [h0])]
        exact copyL (c := iCopyExpr_X) (L := fun acc i => iCopyExprs_X_L0 l i acc) hl (fun y hy => (ih y (by have := h y hy; omega) (by have := h y hy; omega)).2) fun i acc => by rw [iCopyExprs_X_L0]
    have app : ∀ {α : Type} (b : Nat) {l : List α} {y : α}, b ≤ 1000 → l.length + 1 ≤ 1048576 → appG b l [y] = some (l ++ [y]) := fun {α} b {l y} hb h => appG_ok (by
      have : (l.length + [y].length) * b ≤ 1048576 * 1000 := Nat.mul_le_mul (by simpa using h) hb
      omega)
    have Q : ∀ q : GQuery, zGQuery q < zGExpr x → sL7CopyQuery_X q = some q ∧ iCopyQuery_X q = some q := by
      intro q hq
      have hQ := zQ q
      have hI : ∀ i ∈ q.items, zGExpr i.expr < zGExpr x := fun i hi => by
        have h1 := memI_lt hi
        have : zGExpr i.expr ≤ zGItem i := by obtain ⟨a, b, c, d⟩ := i; simp only [zGItem]; omega
        omega
      have hO : ∀ i ∈ q.order, zGExpr i.expr < zGExpr x := fun i hi => by
        have h1 := memK_lt hi
        have : zGExpr i.expr ≤ zGSortKey i := by obtain ⟨a, b⟩ := i; simp only [zGSortKey]; omega
        omega
      have hS : ∀ s ∈ q.from_, s.on_.length ≤ 1048576 ∧ ∀ y ∈ s.on_, zGExpr y < zGExpr x := fun s hs => by
        have h1 := memS_lt hs
        have : s.on_.length + zLGExpr s.on_ ≤ zGSource s := by obtain ⟨a, b, c⟩ := s; simp only [zGSource]; omega
        exact ⟨by omega, fun y hy => by have := memL_lt hy; omega⟩
      have hW : ∀ y ∈ q.where_, zGExpr y < zGExpr x := fun y hy => by have := memL_lt hy; omega
      constructor
      · rw [sL7CopyQuery_X, LS q.where_ (by omega) hW]
        simp only [Option.bind_eq_bind, Option.bind_some]
        rw [gather (p := q.items) (f := fun i => [i]) (c := 1048576) (G := fun i acc => (sL7Copy_X i.expr) >>= fun y3 => appG 176 acc ([(GItem.mk i.star i.qual y3 i.as_)] : List GItem)) (L := fun acc i => sL7CopyQuery_X_L0 q q.where_ i acc) (K := fun acc => sL7CopyQuery_X_L1 q acc q.where_ 0 []) (by omega) ?_ ?_ [] (by rw [fm_id]; simp; omega)]
        · rw [fm_id, List.nil_append]
          rw [gather (p := q.from_) (f := fun i => [i]) (c := 1048576) (G := fun s acc => (sL7Copies_X s.on_) >>= fun y3 => appG 56 acc ([(GSource.mk s.table s.as_ y3)] : List GSource)) (L := fun acc i => sL7CopyQuery_X_L1 q q.items q.where_ i acc) (K := fun acc => sL7CopyQuery_X_L2 q acc q.items q.where_ 0 []) (by omega) ?_ ?_ [] (by rw [fm_id]; simp; omega)]
          · rw [fm_id, List.nil_append]
            rw [gather (p := q.order) (f := fun i => [i]) (c := 1048576) (G := fun s acc => (sL7Copy_X s.expr) >>= fun y3 => appG 144 acc ([(GSortKey.mk y3 s.desc)] : List GSortKey)) (L := fun acc i => sL7CopyQuery_X_L2 q q.from_ q.items q.where_ i acc) (K := fun acc => some (GQuery.mk q.distinct q.items q.from_ q.where_ acc q.limit)) (by omega) ?_ ?_ [] (by rw [fm_id]; simp; omega)]
            · rw [fm_id, List.nil_append, etaQ]
            · intro i hi acc ha
              simp only [(ih i.expr (by have := hO i hi; omega) (by have := hO i hi; omega)).1, Option.bind_eq_bind, Option.bind_some, etaK]
              exact app 144 (by omega) (by simpa using ha)
            · intro i acc
              rw [sL7CopyQuery_X_L2]
              cases idx q.order (i : Int) <;> simp only [Option.bind_eq_bind, Option.bind_assoc, Option.bind_some, Option.bind_none]
          · intro s hs acc ha
            simp only [LS s.on_ (hS s hs).1 (hS s hs).2, Option.bind_eq_bind, Option.bind_some, etaS]
            exact app 56 (by omega) (by simpa using ha)
          · intro i acc
            rw [sL7CopyQuery_X_L1]
            cases idx q.from_ (i : Int) <;> simp only [Option.bind_eq_bind, Option.bind_assoc, Option.bind_some, Option.bind_none]
        · intro i hi acc ha
          simp only [(ih i.expr (by have := hI i hi; omega) (by have := hI i hi; omega)).1, Option.bind_eq_bind, Option.bind_some, etaI]
          exact app 176 (by omega) (by simpa using ha)
        · intro i acc; rw [sL7CopyQuery_X_L0]; simp only [Option.bind_eq_bind, Option.bind_assoc]
      · rw [iCopyQuery_X, LI q.where_ (by omega) hW]
        simp only [Option.bind_eq_bind, Option.bind_some]
        rw [gather (p := q.items) (f := fun i => [i]) (c := 1048576) (G := fun i acc => (iCopyExpr_X i.expr) >>= fun y3 => appG 176 acc ([(GItem.mk i.star i.qual y3 i.as_)] : List GItem)) (L := fun acc i => iCopyQuery_X_L0 q q.where_ i acc) (K := fun acc => iCopyQuery_X_L1 q acc q.where_ 0 []) (by omega) ?_ ?_ [] (by rw [fm_id]; simp; omega)]
        · rw [fm_id, List.nil_append]
          rw [gather (p := q.from_) (f := fun i => [i]) (c := 1048576) (G := fun s acc => (iCopyExprs_X s.on_) >>= fun y3 => appG 56 acc ([(GSource.mk s.table s.as_ y3)] : List GSource)) (L := fun acc i => iCopyQuery_X_L1 q q.items q.where_ i acc) (K := fun acc => iCopyQuery_X_L2 q acc q.items q.where_ 0 []) (by omega) ?_ ?_ [] (by rw [fm_id]; simp; omega)]
          · rw [fm_id, List.nil_append]
            rw [gather (p := q.order) (f := fun i => [i]) (c := 1048576) (G := fun s acc => (iCopyExpr_X s.expr) >>= fun y3 => appG 144 acc ([(GSortKey.mk y3 s.desc)] : List GSortKey)) (L := fun acc i => iCopyQuery_X_L2 q q.from_ q.items q.where_ i acc) (K := fun acc => some (GQuery.mk q.distinct q.items q.from_ q.where_ acc q.limit)) (by omega) ?_ ?_ [] (by rw [fm_id]; simp; omega)]
            · rw [fm_id, List.nil_append, etaQ]
            · intro i hi acc ha
              simp only [(ih i.expr (by have := hO i hi; omega) (by have := hO i hi; omega)).2, Option.bind_eq_bind, Option.bind_some, etaK]
              exact app 144 (by omega) (by simpa using ha)
            · intro i acc; rw [iCopyQuery_X_L2]; simp only [Option.bind_eq_bind, Option.bind_assoc]
          · intro s hs acc ha
            simp only [LI s.on_ (hS s hs).1 (hS s hs).2, Option.bind_eq_bind, Option.bind_some, etaS]
            exact app 56 (by omega) (by simpa using ha)
          · intro i acc; rw [iCopyQuery_X_L1]; simp only [Option.bind_eq_bind, Option.bind_assoc]
        · intro i hi acc ha
          simp only [(ih i.expr (by have := hI i hi; omega) (by have := hI i hi; omega)).2, Option.bind_eq_bind, Option.bind_some, etaI]
          exact app 176 (by omega) (by simpa using ha)
        · intro i acc; rw [iCopyQuery_X_L0]; simp only [Option.bind_eq_bind, Option.bind_assoc]
    have hK : ∀ y ∈ x.kids, zGExpr y < zGExpr x := fun y hy => by have := memL_lt hy; omega
    constructor
    · rw [sL7Copy_X, LS x.kids (by omega) hK]
      simp only [Option.bind_eq_bind, Option.bind_some]
      rw [gather (p := x.sub) (f := fun i => [i]) (c := 1048576) (G := fun q acc => (sL7CopyQuery_X q) >>= fun y3 => appG 112 acc ([y3] : List GQuery)) (L := fun acc i => sL7Copy_X_L0 x x.kids i acc) (K := fun acc => some (GExpr.mk x.kind x.op x.not_ x.value x.qual x.name x.kids acc)) (by omega) ?_ ?_ [] (by rw [fm_id]; simp; omega)]
      · rw [fm_id, List.nil_append, etaE]
      · intro q hq acc ha
        simp only [(Q q (by have := memQ_lt hq; omega)).1, Option.bind_eq_bind, Option.bind_some]
        exact app 112 (by omega) (by simpa using ha)
      · intro i acc; rw [sL7Copy_X_L0]; simp only [Option.bind_eq_bind, Option.bind_assoc]
    · rw [iCopyExpr_X, LI x.kids (by omega) hK]
      simp only [Option.bind_eq_bind, Option.bind_some]
      rw [gather (p := x.sub) (f := fun i => [i]) (c := 1048576) (G := fun q acc => (iCopyQuery_X q) >>= fun y3 => appG 112 acc ([y3] : List GQuery)) (L := fun acc i => iCopyExpr_X_L0 x x.kids i acc) (K := fun acc => some (GExpr.mk x.kind x.op x.not_ x.value x.qual x.name x.kids acc)) (by omega) ?_ ?_ [] (by rw [fm_id]; simp; omega)]
      · rw [fm_id, List.nil_append, etaE]
      · intro q hq acc ha
        simp only [(Q q (by have := memQ_lt hq; omega)).2, Option.bind_eq_bind, Option.bind_some]
        exact app 112 (by omega) (by simpa using ha)
      · intro i acc; rw [iCopyExpr_X_L0]; simp only [Option.bind_eq_bind, Option.bind_assoc]
theorem sCopies_ok {l : List GExpr} (hl : l.length ≤ 1048576) (h : ∀ y ∈ l, zGExpr y ≤ 1048576) : sL7Copies l = some l := by
  rw [sL7Copies]
  exact copyL (c := sL7Copy_X) (L := fun acc i => sL7Copies_L0 l i acc) hl (fun y hy => (copy_all7 _ y (Nat.lt_succ_self _) (h y hy)).1) fun i acc => by rw [sL7Copies_L0]
theorem iCopies_ok {l : List GExpr} (hl : l.length ≤ 1048576) (h : ∀ y ∈ l, zGExpr y ≤ 1048576) : iCopyExprs l = some l := by
  rw [iCopyExprs]
  by_cases h0 : l = []
  · subst h0; simp
  · rw [if_neg (by simp [h0])]
    exact copyL (c := iCopyExpr_X) (L := fun acc i => iCopyExprs_L0 l i acc) hl (fun y hy => (copy_all7 _ y (Nat.lt_succ_self _) (h y hy)).2) fun i acc => by rw [iCopyExprs_L0]
theorem iExprsOf_ok (s : GStmt) (hz : zGStmt s ≤ 1048576) : iExprsOf s = some (stmtExprs s) := by
  have h0 := iStmtExprs_ok s hz
  have hs := stmt_sum s
  have key : ∀ (n : Nat) (x3 : List GExpr) (i : Nat), s.rows.length ≤ n + i → iExprsOf_L0 s x3 (i : Int) = (iStmt_exprs_L0 s x3 (i : Int)) >>= fun y => iCopyExprs y := by
    intro n
    induction n with
    | zero =>
      intro x3 i hi
      rw [iExprsOf_L0, iStmt_exprs_L0, if_neg (by simp; omega), if_neg (by simp; omega)]
      simp only [Option.bind_eq_bind, Option.bind_assoc, Option.bind_some]
      simp
    | succ n ih =>
      intro x3 i hi
      rw [iExprsOf_L0, iStmt_exprs_L0]
      by_cases h : i < s.rows.length
      · rw [if_pos (by simpa using h), if_pos (by simpa using h), idx_lt h, wrap_next h (by have := (stmt_rows s).1; omega)]
        simp only [Option.bind_eq_bind, Option.bind_assoc, Option.bind_some]
        cases appG 136 x3 s.rows[i] with
        | none => rfl
        | some z => exact ih z (i + 1) (by omega)
      · rw [if_neg (by simpa using h), if_neg (by simpa using h)]
        simp only [Option.bind_eq_bind, Option.bind_assoc, Option.bind_some]
        simp
  rw [iExprsOf]
  rw [iStmt_exprs] at h0
  cases hq : iQuery_exprs s.query with
  | none => rw [hq] at h0; simp at h0
  | some y =>
    rw [hq] at h0
    simp only [Option.bind_eq_bind, Option.bind_some] at h0 ⊢
    have k := key s.rows.length y 0 (by omega)
    rw [show ((0 : Nat) : Int) = 0 from rfl] at k
    rw [k, h0]
    exact iCopies_ok (by omega) fun y hy => by have := stmtExprs_mem hy; omega
theorem fnStmtParts_law (s : GStmt) (hz : zGStmt s ≤ 10000) : wFnStmtParts_L0 (stmtExprs s) s 0 0 0 = some true := by
  have hs := stmt_sum s
  have HK : ∀ y ∈ stmtExprs s, goodE y := fun y hy => by have := stmtExprs_mem hy; exact good_all _ y (Nat.lt_succ_self _) (by omega)
  have hk := sum_le (z := zGExpr) (d := sI) (p := stmtExprs s) fun y hy => by obtain ⟨_, _, a, b, c⟩ := HK y hy; exact ⟨by omega, c⟩
  have h1 : iStmtDepth s = some ((stmtExprs s).foldl (fun b y => mx b (dI y)) 0) := by
    unfold iStmtDepth
    rw [iStmtExprs_ok s (by omega)]
    simp only [Option.bind_eq_bind, Option.bind_some]
    rw [iDeepestOf]
    rw [folded (p := stmtExprs s) (g := fun y b => (iDepthOf y) >>= fun r => some (mx b r)) (h := fun y b => mx b (dI y)) (L := fun b i => iDeepestOf_L0 (stmtExprs s) b i) (K := fun b => some b) (by omega) ?_ ?_ 0]
    · rfl
    · intro y hy b; simp only [(HK y hy).1, Option.bind_eq_bind, Option.bind_some]
    · intro i b; rw [iDeepestOf_L0]; simp only [Option.bind_eq_bind, Option.bind_assoc, Option.bind_some, mx]
  have h2 : iStmtSize s = some ((stmtExprs s).map sI).sum := by
    unfold iStmtSize
    rw [iStmtExprs_ok s (by omega)]
    simp only [Option.bind_eq_bind, Option.bind_some, iSizeOfAll_ok (stmtExprs s) sI (by omega) fun y hy => by obtain ⟨_, e, a, b, c⟩ := HK y hy; exact ⟨e, by omega, c⟩]
  have h3 : sExprsOf s = some (stmtExprs s) := by
    unfold sExprsOf
    rw [sStmtExprs_ok s (by omega)]
    simp only [Option.bind_eq_bind, Option.bind_some]
    rw [sCopies_ok (by omega) fun y hy => by have := stmtExprs_mem hy; omega]; rfl
  refine (folded (p := stmtExprs s) (g := fun y (b : Int × Int) => (iDepthOf y) >>= fun r => (wLow (IntKind.wrap .i64 (0 - b.1)) (IntKind.wrap .i64 (0 - r))) >>= fun u => (iSizeOf y) >>= fun v => some ((IntKind.wrap .i64 (0 - u), IntKind.wrap .i64 (b.2 + v)) : Int × Int))
    (h := lawH dI sI) (L := fun b i => wFnStmtParts_L0 (stmtExprs s) s b.1 b.2 i)
    (K := fun b => (sExprsOf s) >>= fun (y9 : (List GExpr)) => (if (true && ((decide (((stmtExprs s).length : Int) = (y9.length : Int))) == true)) = true then iStmtDepth s else some default) >>= fun (y10 : Int) => (some (if (decide (((stmtExprs s).length : Int) = (y9.length : Int))) = true then (decide (y10 = b.1)) else false)) >>= fun (y11 : Bool) => (if (true && (y11 == true)) = true then iStmtSize s else some default) >>= fun (y12 : Int) => (some (if y11 = true then (decide (y12 = b.2)) else false)) >>= fun (y13 : Bool) => some y13) (by omega) ?_ ?_ (0, 0)).trans ?_
  · intro y hy b
    simp only [(HK y hy).1, (HK y hy).2.1, Option.bind_eq_bind, Option.bind_some, wLow_eq, lawH]
  · intro i b
    rw [wFnStmtParts_L0]
    cases hi : idx (stmtExprs s) (i : Int) with
    | none => simp
    | some y => simp only [Option.bind_eq_bind, Option.bind_assoc, Option.bind_some]
  · rw [lawH_eq (fun y hy => by obtain ⟨_, _, a, b, c⟩ := HK y hy; exact ⟨by omega, b⟩) (by omega) (by omega) (by omega) (by omega)]
    simp [h1, h2, h3]
theorem fnStmtParts_true (p : List Int) (_ : okL okU8 p) : wFnStmtParts p = some true := by
  unfold wFnStmtParts wBig
  simp only [Option.bind_eq_bind, Option.bind_some]
  by_cases hb : (1048576 : Int) < (p.length : Int)
  · rw [if_pos (by simpa using hb)]
  rw [if_neg (by simpa using hb)]
  obtain ⟨s, h1, h2⟩ := draw8_y p (by omega)
  unfold sDrawStmtDepth
  simp only [h1, Option.bind_eq_bind, Option.bind_some, iExprsOf_ok s (by omega)]
  exact fnStmtParts_law s h2
end Go.Ab
