/- Operations in an open order: what an operation reads and changes; when two may be exchanged. -/
import Derived.Test.YtefdlkkffkhbgaaAb5
namespace Go.Ab
open Go Go.RowKit

structure Ev where
  o : AOp
  d : Option Nat := none
  r : V := .und
  /-- what it reads of temporaries, of boxes -/
  rt : List (Nat × V) := []
  rb : List (Nat × List V) := []
  /-- the rights that are given up -/
  T : List Nat := []
  /-- the temporaries, the boxes that may bear them -/
  tt : List Nat := []
  tb : List Nat := []
  /-- boxes written, new boxes; names that must be new -/
  wr : List (Nat × List V) := []
  nw : List (Nat × List V) := []
  fr : List Nat := []

def dnE (T : List Nat) (l : List (Nat × V)) : List (Nat × V) := T.foldl (fun l t => dnEnv t l) l
def dnB (T : List Nat) (l : List (Nat × List V)) : List (Nat × List V) := T.foldl (fun l t => dnBx t l) l
def setBs (l : List (Nat × List V)) (wr : List (Nat × List V)) : List (Nat × List V) := wr.foldl (fun l p => setBox l p.1 p.2) l
def St.dnT (s : St) (T : List Nat) : St := ⟨dnE T s.env, dnB T s.bx⟩
def consO (d : Option Nat) (r : V) (l : List (Nat × V)) : List (Nat × V) :=
  match d with
  | some d => (d, r) :: l
  | none => l
def eff (e : Ev) (s : St) : St := ⟨consO e.d e.r (dnE e.T s.env), e.nw ++ setBs (dnB e.T s.bx) e.wr⟩
/-- what it reads is there -/
structure Rd (e : Ev) (s : St) : Prop where
  rt : ∀ p ∈ e.rt, lk s.env p.1 = p.2
  rb : ∀ p ∈ e.rb, bget s.bx p.1 = some p.2
  wr : ∀ p ∈ e.wr, (bget s.bx p.1).isSome = true
/-- its name is new; the rights that it gives up lie where it says -/
structure Gl (e : Ev) (s : St) : Prop where
  fr : ∀ d ∈ e.fr, (s.dnT e.T).fresh d = true
  cl : ∀ t ∈ e.T, (s.dnT e.T).clean t = true
  tt : ∀ t ∈ e.T, ∀ p ∈ s.env, e.tt.contains p.1 = false → p.2.noTok t = true
  tb : ∀ t ∈ e.T, ∀ p ∈ s.bx, e.tb.contains p.1 = false → V.noToks t p.2 = true

/-- two states that tell the same -/
structure Eqv (s s' : St) : Prop where
  lk : ∀ n, lk s.env n = lk s'.env n
  env : ∀ p, p ∈ s.env ↔ p ∈ s'.env
  bx : ∀ n, bget s.bx n = bget s'.bx n
theorem Eqv.refl (s : St) : Eqv s s := ⟨fun _ => rfl, fun _ => .rfl, fun _ => rfl⟩
theorem Eqv.symm {s s' : St} (h : Eqv s s') : Eqv s' s := ⟨fun n => (h.lk n).symm, fun p => (h.env p).symm, fun n => (h.bx n).symm⟩
theorem Eqv.trans {a b c : St} (h : Eqv a b) (k : Eqv b c) : Eqv a c := ⟨fun n => (h.lk n).trans (k.lk n), fun p => (h.env p).trans (k.env p), fun n => (h.bx n).trans (k.bx n)⟩

theorem dnEnv_mem {t : Nat} {l : List (Nat × V)} {p : Nat × V} : p ∈ dnEnv t l ↔ ∃ q ∈ l, p = (q.1, q.2.dn t) := by
  induction l with
  | nil => simp [dnEnv]
  | cons q l ih => obtain ⟨m, v⟩ := q; simp [dnEnv, ih]
theorem dnBx_mem {t : Nat} {l : List (Nat × List V)} {p : Nat × List V} : p ∈ dnBx t l ↔ ∃ q ∈ l, p = (q.1, dnCells t q.2) := by
  induction l with
  | nil => simp [dnBx]
  | cons q l ih => obtain ⟨m, v⟩ := q; simp [dnBx, ih]
/-- the rights given up, of one value -/
def dnV (T : List Nat) (v : V) : V := T.foldl (fun v t => v.dn t) v
def dnVs (T : List Nat) (l : List V) : List V := T.foldl (fun l t => dnCells t l) l
theorem dnE_lk (T : List Nat) : ∀ (l : List (Nat × V)) (n : Nat), lk (dnE T l) n = dnV T (lk l n) := by
  induction T with
  | nil => intro l n; rfl
  | cons t T ih => intro l n; simp only [dnE, List.foldl_cons] at ih ⊢; rw [ih, lk_dn]; rfl
theorem dnE_mem (T : List Nat) : ∀ {l : List (Nat × V)} {p : Nat × V}, p ∈ dnE T l ↔ ∃ q ∈ l, p = (q.1, dnV T q.2) := by
  induction T with
  | nil => intro l p; simp [dnE, dnV]
  | cons t T ih =>
    intro l p
    simp only [dnE, List.foldl_cons, dnV] at ih ⊢
    rw [ih]
    constructor
    · rintro ⟨q, hq, rfl⟩
      obtain ⟨q', hq', rfl⟩ := dnEnv_mem.1 hq
      exact ⟨q', hq', rfl⟩
    · rintro ⟨q, hq, rfl⟩
      exact ⟨_, dnEnv_mem.2 ⟨q, hq, rfl⟩, rfl⟩
theorem dnB_get (T : List Nat) : ∀ (l : List (Nat × List V)) (n : Nat), bget (dnB T l) n = (bget l n).map (dnVs T) := by
  induction T with
  | nil => intro l n; cases h : bget l n <;> simp [dnB, dnVs, h]
  | cons t T ih => intro l n; simp only [dnB, List.foldl_cons] at ih ⊢; rw [ih, blk_dn]; cases bget l n <;> rfl
theorem dnB_mem (T : List Nat) : ∀ {l : List (Nat × List V)} {p : Nat × List V}, p ∈ dnB T l ↔ ∃ q ∈ l, p = (q.1, dnVs T q.2) := by
  induction T with
  | nil => intro l p; simp [dnB, dnVs]
  | cons t T ih =>
    intro l p
    simp only [dnB, List.foldl_cons, dnVs] at ih ⊢
    rw [ih]
    constructor
    · rintro ⟨q, hq, rfl⟩
      obtain ⟨q', hq', rfl⟩ := dnBx_mem.1 hq
      exact ⟨q', hq', rfl⟩
    · rintro ⟨q, hq, rfl⟩
      exact ⟨_, dnBx_mem.2 ⟨q, hq, rfl⟩, rfl⟩


theorem dn1_noTok {t : Nat} {v : V} (h : v.noTok t = true) : v.dn1 t = v := by
  cases v <;> first | rfl | skip
  case osl t' e sz l =>
    simp only [V.noTok, bne_iff_ne, ne_eq] at h
    simp [V.dn1, h]
theorem dn1s_noTok {t : Nat} : ∀ {l : List V}, V.noToks t l = true → l.map (V.dn1 t) = l
  | [], _ => rfl
  | v :: l, h => by
    simp only [V.noToks, Bool.and_eq_true] at h
    rw [List.map_cons, dn1_noTok h.1, dn1s_noTok h.2]
theorem dn0_noTok {t : Nat} {v : V} (h : v.noTok t = true) : v.dn0 t = v := by
  cases v with
  | tup l => exact congrArg V.tup (dn1s_noTok (by simpa [V.noTok] using h))
  | agv l => exact congrArg V.agv (dn1s_noTok (by simpa [V.noTok] using h))
  | osl w e sz l => exact dn1_noTok (v := .osl w e sz l) h
  | _ => rfl
theorem dn_noTok {t : Nat} {v : V} (h : v.noTok t = true) : v.dn t = v := by
  cases v <;> first | exact dn0_noTok h | exact congrArg _ (dn0_noTok (by simpa [V.noTok] using h))
theorem dnV_noTok : ∀ {T : List Nat} {v : V}, (∀ t ∈ T, v.noTok t = true) → dnV T v = v
  | [], v, _ => rfl
  | t :: T, v, h => by
    simp only [dnV, List.foldl_cons, dn_noTok (h t (by simp))]
    exact dnV_noTok fun u hu => h u (by simp [hu])
theorem dnCells_map (t : Nat) (l : List V) : dnCells t l = l.map (V.dn t) := by
  induction l with
  | nil => rfl
  | cons v l ih => simp [dnCells, ih]
theorem dnVs_map (T : List Nat) : ∀ l : List V, dnVs T l = l.map (dnV T) := by
  induction T with
  | nil => intro l; exact (List.map_id l).symm
  | cons t T ih => intro l; simp only [dnVs, List.foldl_cons] at ih ⊢; rw [ih, dnCells_map, List.map_map]; rfl
theorem dnVs_noTok {T : List Nat} {l : List V} (h : ∀ t ∈ T, V.noToks t l = true) : dnVs T l = l := by
  rw [dnVs_map]
  have : ∀ v ∈ l, dnV T v = v := fun v hv => dnV_noTok fun t ht => by
    have := h t ht
    rw [noToks_all, List.all_eq_true] at this
    exact this v hv
  exact (List.map_congr_left this).trans (by simp)
theorem noPtr_dn1 {t n : Nat} {v : V} : (v.dn1 t).noPtr n = v.noPtr n := by
  cases v <;> first | rfl | skip
  simp only [V.dn1]; split <;> rfl
theorem noPtr_dn1s {t n : Nat} : ∀ {l : List V}, V.noPtrs n (l.map (V.dn1 t)) = V.noPtrs n l
  | [] => rfl
  | v :: l => by simp only [List.map_cons, V.noPtrs, noPtr_dn1, noPtr_dn1s (l := l)]
theorem noPtr_dn0 {t n : Nat} {v : V} : (v.dn0 t).noPtr n = v.noPtr n := by
  cases v with
  | tup l => simp only [V.dn0, V.noPtr]; exact noPtr_dn1s
  | agv l => simp only [V.dn0, V.noPtr]; exact noPtr_dn1s
  | osl w e sz l => exact noPtr_dn1 (v := .osl w e sz l)
  | _ => rfl
theorem noPtr_dn {t n : Nat} {v : V} : (v.dn t).noPtr n = v.noPtr n := by
  cases v <;> first | exact noPtr_dn0 | (simp only [V.dn, V.noPtr]; exact noPtr_dn0)
theorem noTok_dn1 {t n : Nat} {v : V} (h : v.noTok n = true) : (v.dn1 t).noTok n = true := by
  cases v <;> first | exact h | skip
  simp only [V.dn1]; split
  · rfl
  · exact h
theorem noTok_dn1s {t n : Nat} : ∀ {l : List V}, V.noToks n l = true → V.noToks n (l.map (V.dn1 t)) = true
  | [], _ => rfl
  | v :: l, h => by
    simp only [V.noToks, Bool.and_eq_true] at h
    simp only [List.map_cons, V.noToks, Bool.and_eq_true]
    exact ⟨noTok_dn1 h.1, noTok_dn1s h.2⟩
theorem noTok_dn0 {t n : Nat} {v : V} (h : v.noTok n = true) : (v.dn0 t).noTok n = true := by
  cases v with
  | tup l => simp only [V.dn0, V.noTok] at h ⊢; exact noTok_dn1s h
  | agv l => simp only [V.dn0, V.noTok] at h ⊢; exact noTok_dn1s h
  | osl w e sz l => exact noTok_dn1 (v := .osl w e sz l) h
  | _ => exact h
theorem noTok_dn {t n : Nat} {v : V} (h : v.noTok n = true) : (v.dn t).noTok n = true := by
  cases v <;> first | exact noTok_dn0 (t := t) h | (rename_i c v; exact noTok_dn0 (t := t) (v := v) h)
theorem noTok_dn1' {t n : Nat} {v : V} (hn : n ≠ t) (h : (v.dn1 t).noTok n = true) : v.noTok n = true := by
  cases v <;> first | exact h | skip
  case osl t' e sz l =>
    simp only [V.dn1] at h
    split at h
    · rename_i e; subst e; simp [V.noTok, Ne.symm hn]
    · exact h
theorem noTok_dn1s' {t n : Nat} (hn : n ≠ t) : ∀ {l : List V}, V.noToks n (l.map (V.dn1 t)) = true → V.noToks n l = true
  | [], _ => rfl
  | v :: l, h => by
    simp only [List.map_cons, V.noToks, Bool.and_eq_true] at h
    simp only [V.noToks, Bool.and_eq_true]
    exact ⟨noTok_dn1' hn h.1, noTok_dn1s' hn h.2⟩
theorem noTok_dn0' {t n : Nat} {v : V} (hn : n ≠ t) (h : (v.dn0 t).noTok n = true) : v.noTok n = true := by
  cases v with
  | tup l => simp only [V.dn0, V.noTok] at h ⊢; exact noTok_dn1s' hn h
  | agv l => simp only [V.dn0, V.noTok] at h ⊢; exact noTok_dn1s' hn h
  | osl w e sz l => exact noTok_dn1' (v := .osl w e sz l) hn h
  | _ => exact h
theorem noTok_dn' {t n : Nat} {v : V} (hn : n ≠ t) (h : (v.dn t).noTok n = true) : v.noTok n = true := by
  cases v <;> first | exact noTok_dn0' (t := t) hn h | (rename_i c v; exact noTok_dn0' (t := t) (v := v) hn h)
theorem noPtr_dnV {n : Nat} : ∀ {T : List Nat} {v : V}, (dnV T v).noPtr n = v.noPtr n
  | [], v => rfl
  | t :: T, v => by simp only [dnV, List.foldl_cons]; exact (noPtr_dnV (T := T)).trans noPtr_dn
theorem noTok_dnV {n : Nat} : ∀ {T : List Nat} {v : V}, v.noTok n = true → (dnV T v).noTok n = true
  | [], v, h => h
  | t :: T, v, h => by simp only [dnV, List.foldl_cons]; exact noTok_dnV (T := T) (noTok_dn h)
theorem noTok_dnV' {n : Nat} : ∀ {T : List Nat} {v : V}, n ∉ T → (dnV T v).noTok n = true → v.noTok n = true
  | [], v, _, h => h
  | t :: T, v, hn, h => by
    simp only [dnV, List.foldl_cons] at h
    exact noTok_dn' (fun e => hn (by simp [e])) (noTok_dnV' (T := T) (fun e => hn (by simp [e])) h)
theorem dn1_comm {t u : Nat} {v : V} : (v.dn1 t).dn1 u = (v.dn1 u).dn1 t := by
  cases v <;> first | rfl | skip
  case osl w e sz l =>
    simp only [V.dn1]
    by_cases h1 : w = t <;> by_cases h2 : w = u <;> simp [h1, h2]
    all_goals first | (subst h1; simp_all) | (subst h2; simp_all) | skip
theorem dn1s_comm {t u : Nat} {l : List V} : (l.map (V.dn1 t)).map (V.dn1 u) = (l.map (V.dn1 u)).map (V.dn1 t) := by
  rw [List.map_map, List.map_map]
  exact List.map_congr_left fun v _ => dn1_comm
theorem dn1_osl {t w : Nat} {e : TypeId} {sz : Nat} {l : List (List D)} : (V.osl w e sz l).dn1 t = .d (.sl sz l) ∨ (V.osl w e sz l).dn1 t = .osl w e sz l := by
  simp only [V.dn1]; split
  · exact .inl rfl
  · exact .inr rfl
theorem dn0_comm {t u : Nat} {v : V} : (v.dn0 t).dn0 u = (v.dn0 u).dn0 t := by
  cases v with
  | tup l => exact congrArg V.tup dn1s_comm
  | agv l => exact congrArg V.agv dn1s_comm
  | osl w e sz l =>
    have h := dn1_comm (t := t) (u := u) (v := .osl w e sz l)
    show ((V.osl w e sz l).dn1 t).dn0 u = ((V.osl w e sz l).dn1 u).dn0 t
    have k : ∀ (t u : Nat), ((V.osl w e sz l).dn1 t).dn0 u = ((V.osl w e sz l).dn1 t).dn1 u := by
      intro t u
      rcases dn1_osl (t := t) (w := w) (e := e) (sz := sz) (l := l) with h | h <;> rw [h] <;> rfl
    rw [k, k, h]
  | _ => rfl
theorem dn_comm {t u : Nat} {v : V} : (v.dn t).dn u = (v.dn u).dn t := by
  have plain : ∀ v : V, (∀ c x, v ≠ .ite c x) → ∀ t, v.dn t = v.dn0 t ∧ ∀ c x, v.dn0 t ≠ .ite c x := by
    intro v hv t
    cases v
    case osl => exact ⟨rfl, fun c x h => by simp only [V.dn0, V.dn1] at h; split at h <;> simp at h⟩
    case ite c x => exact absurd rfl (hv c x)
    all_goals exact ⟨rfl, fun c x h => by simp [V.dn0, V.dn1] at h⟩
  by_cases hv : ∃ c x, v = .ite c x
  · obtain ⟨c, x, rfl⟩ := hv
    simp only [V.dn, dn0_comm (t := t) (u := u)]
  · have hv' : ∀ c x, v ≠ .ite c x := fun c x e => hv ⟨c, x, e⟩
    rw [(plain v hv' t).1, (plain v hv' u).1, (plain _ (plain v hv' t).2 u).1, (plain _ (plain v hv' u).2 t).1, dn0_comm]
theorem dnV_dn {u : Nat} : ∀ {T : List Nat} {v : V}, dnV T (v.dn u) = (dnV T v).dn u
  | [], v => rfl
  | t :: T, v => by simp only [dnV, List.foldl_cons]; rw [dn_comm]; exact dnV_dn (T := T)
theorem dnV_comm {T : List Nat} : ∀ {U : List Nat} {v : V}, dnV T (dnV U v) = dnV U (dnV T v)
  | [], v => rfl
  | u :: U, v => by
    have h1 : dnV (u :: U) v = dnV U (v.dn u) := rfl
    have h2 : dnV (u :: U) (dnV T v) = dnV U ((dnV T v).dn u) := rfl
    rw [h1, h2, dnV_comm (U := U), dnV_dn]

/-! boxes written -/
def named (l : List (Nat × List V)) (n : Nat) : Bool := l.any fun p => p.1 == n
theorem setBox_get (l : List (Nat × List V)) (n : Nat) (c : List V) (k : Nat) : bget (setBox l n c) k = if k = n then (bget l n).map (fun _ => c) else bget l k := box_setBox l n c k
theorem setBs_other : ∀ {wr l : List (Nat × List V)} {k : Nat}, named wr k = false → bget (setBs l wr) k = bget l k
  | [], l, k, _ => rfl
  | p :: wr, l, k, h => by
    simp only [named, List.any_cons, Bool.or_eq_false_iff, beq_eq_false_iff_ne] at h
    simp only [setBs, List.foldl_cons]
    have := setBs_other (wr := wr) (l := setBox l p.1 p.2) (k := k) h.2
    simp only [setBs] at this
    rw [this, setBox_get, if_neg (fun e => h.1 e.symm)]
theorem setBox_some {l : List (Nat × List V)} {n k : Nat} {c : List V} : (bget (setBox l n c) k).isSome = (bget l k).isSome := by
  rw [setBox_get]; split
  · rename_i e; subst e; simp
  · rfl
theorem setBs_some : ∀ {wr l : List (Nat × List V)} {k : Nat}, (bget (setBs l wr) k).isSome = (bget l k).isSome
  | [], l, k => rfl
  | p :: wr, l, k => by
    simp only [setBs, List.foldl_cons]
    have := setBs_some (wr := wr) (l := setBox l p.1 p.2) (k := k)
    simp only [setBs] at this
    rw [this, setBox_some]
theorem setBox_comm {n m : Nat} {c c' : List V} (h : n ≠ m) : ∀ l : List (Nat × List V), setBox (setBox l n c) m c' = setBox (setBox l m c') n c
  | [] => rfl
  | (k, v) :: l => by
    by_cases h1 : n = k <;> by_cases h2 : m = k <;> simp [setBox, h1, h2]
    · omega
    · exact setBox_comm h l
theorem setBs_cons (p : Nat × List V) (wr l : List (Nat × List V)) : setBs l (p :: wr) = setBs (setBox l p.1 p.2) wr := rfl
theorem setBs_setBox {n : Nat} {c : List V} : ∀ {wr l : List (Nat × List V)}, named wr n = false → setBs (setBox l n c) wr = setBox (setBs l wr) n c
  | [], l, _ => rfl
  | p :: wr, l, h => by
    simp only [named, List.any_cons, Bool.or_eq_false_iff, beq_eq_false_iff_ne] at h
    rw [setBs_cons, setBs_cons, setBox_comm (fun e => h.1 e.symm), setBs_setBox h.2]
theorem setBs_comm : ∀ {wr wr' l : List (Nat × List V)}, (∀ p ∈ wr, named wr' p.1 = false) → setBs (setBs l wr) wr' = setBs (setBs l wr') wr
  | [], wr', l, _ => rfl
  | p :: wr, wr', l, h => by
    rw [setBs_cons, setBs_cons, setBs_comm (fun q hq => h q (by simp [hq])), setBs_setBox (h p (by simp))]
theorem setBs_new {d : Nat} {c : List V} : ∀ {wr l : List (Nat × List V)}, named wr d = false → setBs ((d, c) :: l) wr = (d, c) :: setBs l wr
  | [], l, _ => rfl
  | p :: wr, l, h => by
    simp only [named, List.any_cons, Bool.or_eq_false_iff, beq_eq_false_iff_ne] at h
    rw [setBs_cons, setBs_cons, show setBox ((d, c) :: l) p.1 p.2 = (d, c) :: setBox l p.1 p.2 by simp [setBox, h.1], setBs_new h.2]
theorem dnBx_setBox {t n : Nat} {c : List V} : ∀ {l : List (Nat × List V)}, dnBx t (setBox l n c) = setBox (dnBx t l) n (dnCells t c)
  | [] => rfl
  | (k, v) :: l => by
    by_cases h1 : n = k <;> simp [setBox, dnBx, h1]
    exact dnBx_setBox
theorem dnB_setBox {n : Nat} : ∀ {T : List Nat} {c : List V} {l : List (Nat × List V)}, dnB T (setBox l n c) = setBox (dnB T l) n (dnVs T c)
  | [], c, l => rfl
  | t :: T, c, l => by
    show dnB T (dnBx t (setBox l n c)) = _
    rw [dnBx_setBox, dnB_setBox]; rfl
theorem dnB_setBs {T : List Nat} : ∀ {wr l : List (Nat × List V)}, (∀ p ∈ wr, dnVs T p.2 = p.2) → dnB T (setBs l wr) = setBs (dnB T l) wr
  | [], l, _ => rfl
  | p :: wr, l, h => by rw [setBs_cons, setBs_cons, dnB_setBs (fun q hq => h q (by simp [hq])), dnB_setBox, h p (by simp)]
theorem dnB_cons {T : List Nat} {d : Nat} {c : List V} {l : List (Nat × List V)} : dnB T ((d, c) :: l) = (d, dnVs T c) :: dnB T l := by
  induction T generalizing c l with
  | nil => rfl
  | cons t T ih => exact ih
theorem dnE_cons {T : List Nat} {d : Nat} {v : V} {l : List (Nat × V)} : dnE T ((d, v) :: l) = (d, dnV T v) :: dnE T l := by
  induction T generalizing v l with
  | nil => rfl
  | cons t T ih => exact ih
theorem dnEnv_comm {t u : Nat} : ∀ {l : List (Nat × V)}, dnEnv t (dnEnv u l) = dnEnv u (dnEnv t l)
  | [] => rfl
  | (n, v) :: l => by simp only [dnEnv, dnEnv_comm (l := l), dn_comm (v := v)]
theorem dnE_dn {u : Nat} : ∀ {T : List Nat} {l : List (Nat × V)}, dnE T (dnEnv u l) = dnEnv u (dnE T l)
  | [], l => rfl
  | t :: T, l => by
    show dnE T (dnEnv t (dnEnv u l)) = dnEnv u (dnE T (dnEnv t l))
    rw [dnEnv_comm, dnE_dn]
theorem dnE_comm {T : List Nat} : ∀ {U : List Nat} {l : List (Nat × V)}, dnE T (dnE U l) = dnE U (dnE T l)
  | [], l => rfl
  | u :: U, l => by
    show dnE T (dnE U (dnEnv u l)) = dnE U (dnEnv u (dnE T l))
    rw [dnE_comm (U := U), dnE_dn]
theorem dnCells_comm {t u : Nat} (l : List V) : dnCells t (dnCells u l) = dnCells u (dnCells t l) := by
  rw [dnCells_map, dnCells_map, dnCells_map, dnCells_map, List.map_map, List.map_map]
  exact List.map_congr_left fun v _ => dn_comm
theorem dnBx_comm {t u : Nat} : ∀ {l : List (Nat × List V)}, dnBx t (dnBx u l) = dnBx u (dnBx t l)
  | [] => rfl
  | (n, v) :: l => by simp only [dnBx, dnBx_comm (l := l), dnCells_comm v]
theorem dnB_dn {u : Nat} : ∀ {T : List Nat} {l : List (Nat × List V)}, dnB T (dnBx u l) = dnBx u (dnB T l)
  | [], l => rfl
  | t :: T, l => by
    show dnB T (dnBx t (dnBx u l)) = dnBx u (dnB T (dnBx t l))
    rw [dnBx_comm, dnB_dn]
theorem dnB_comm {T : List Nat} : ∀ {U : List Nat} {l : List (Nat × List V)}, dnB T (dnB U l) = dnB U (dnB T l)
  | [], l => rfl
  | u :: U, l => by
    show dnB T (dnB U (dnBx u l)) = dnB U (dnBx u (dnB T l))
    rw [dnB_comm (U := U), dnB_dn]

/-! exchange -/
/-- a touches nothing that b reads or writes -/
structure Apart (a b : Ev) : Prop where
  d : ∀ x, a.d = some x → b.d ≠ some x
  rt : ∀ p ∈ b.rt, a.d ≠ some p.1
  rb : ∀ p ∈ b.rb, named a.wr p.1 = false ∧ named a.nw p.1 = false
  wr : ∀ p ∈ b.wr, named a.wr p.1 = false ∧ named a.nw p.1 = false
  tt : ∀ t ∈ a.T, (∀ p ∈ b.rt, a.tt.contains p.1 = false) ∧ (∀ p ∈ b.rb, a.tb.contains p.1 = false)
  tok : ∀ t ∈ a.T, b.r.noTok t = true ∧ (∀ p ∈ b.wr, V.noToks t p.2 = true) ∧ ∀ p ∈ b.nw, V.noToks t p.2 = true
def apart (a b : Ev) : Bool :=
  (match a.d with | some x => b.d != some x | none => true) && ((b.rt.all fun p => a.d != some p.1) && ((b.rb.all fun p => !named a.wr p.1 && !named a.nw p.1) && ((b.wr.all fun p => !named a.wr p.1 && !named a.nw p.1) &&
  ((a.T.all fun _ => (b.rt.all fun p => !a.tt.contains p.1) && b.rb.all fun p => !a.tb.contains p.1) &&
  (a.T.all fun t => b.r.noTok t && ((b.wr.all fun p => V.noToks t p.2) && b.nw.all fun p => V.noToks t p.2))))))
theorem apart_ok {a b : Ev} (h : apart a b = true) : Apart a b := by
  simp only [apart, Bool.and_eq_true, List.all_eq_true, Bool.not_eq_true', bne_iff_ne, ne_eq] at h
  obtain ⟨h1, h2, h3, h4, h5, h7⟩ := h
  refine ⟨fun x hx => ?_, h2, h3, h4, h5, h7⟩
  rw [hx] at h1; simpa using h1
/-- what e leaves does not spoil what b asks for -/
structure Pres (e b : Ev) : Prop where
  fr : ∀ x ∈ b.fr, (e.r.noPtr x = true ∧ (dnV b.T e.r).noTok x = true) ∧ (∀ p ∈ e.wr, V.noPtrs x p.2 = true ∧ V.noToks x (dnVs b.T p.2) = true) ∧ ∀ p ∈ e.nw, V.noPtrs x p.2 = true ∧ V.noToks x p.2 = true
  cl : ∀ t ∈ b.T, (dnV b.T e.r).noTok t = true ∧ (∀ p ∈ e.wr, V.noToks t (dnVs b.T p.2) = true) ∧ ∀ p ∈ e.nw, V.noToks t p.2 = true
  tt : ∀ t ∈ b.T, ∀ x, e.d = some x → b.tt.contains x = true ∨ e.r.noTok t = true
  tb : ∀ t ∈ b.T, ∀ p ∈ e.wr, b.tb.contains p.1 = true ∨ V.noToks t p.2 = true
def pres (e b : Ev) : Bool :=
  (b.fr.all fun x => (e.r.noPtr x && (dnV b.T e.r).noTok x) && ((e.wr.all fun p => V.noPtrs x p.2 && V.noToks x (dnVs b.T p.2)) && e.nw.all fun p => V.noPtrs x p.2 && V.noToks x p.2)) &&
  ((b.T.all fun t => (dnV b.T e.r).noTok t && ((e.wr.all fun p => V.noToks t (dnVs b.T p.2)) && e.nw.all fun p => V.noToks t p.2)) &&
  ((b.T.all fun t => match e.d with | some x => b.tt.contains x || e.r.noTok t | none => true) && b.T.all fun t => e.wr.all fun p => b.tb.contains p.1 || V.noToks t p.2))
theorem pres_ok {e b : Ev} (h : pres e b = true) : Pres e b := by
  simp only [pres, Bool.and_eq_true, List.all_eq_true] at h
  obtain ⟨h1, h2, h3, h4⟩ := h
  refine ⟨h1, h2, fun t ht x hx => ?_, fun t ht p hp => by simpa using h4 t ht p hp⟩
  have := h3 t ht
  rw [hx] at this
  simpa using this
theorem lk_mem : ∀ (l : List (Nat × V)) (n : Nat), lk l n = .top ∨ (n, lk l n) ∈ l
  | [], n => .inl rfl
  | (m, v) :: l, n => by
    simp only [lk]
    split
    · rename_i e; subst e; exact .inr (by simp)
    · rcases lk_mem l n with h | h
      · exact .inl h
      · exact .inr (by simp [h])
theorem bget_mem : ∀ {l : List (Nat × List V)} {n : Nat} {c : List V}, bget l n = some c → (n, c) ∈ l
  | [], n, c, h => by simp [bget] at h
  | (m, v) :: l, n, c, h => by
    simp only [bget] at h
    split at h
    · rename_i e; subst e; simp at h; subst h; simp
    · simp [bget_mem h]
theorem envAll_iff {p : V → Bool} : ∀ {l : List (Nat × V)}, envAll p l = true ↔ ∀ e ∈ l, p e.2 = true
  | [] => by simp [envAll]
  | (m, v) :: l => by simp [envAll, envAll_iff (l := l)]
theorem bxAll_iff {p : V → Bool} : ∀ {l : List (Nat × List V)}, bxAll p l = true ↔ ∀ e ∈ l, e.2.all p = true
  | [] => by simp [bxAll]
  | (m, v) :: l => by simp [bxAll, bxAll_iff (l := l)]
theorem mem_setBox {n : Nat} {c : List V} {q : Nat × List V} : ∀ {l : List (Nat × List V)}, q ∈ setBox l n c → q ∈ l ∨ q = (n, c)
  | [], h => by simp [setBox] at h
  | (m, v) :: l, h => by
    simp only [setBox] at h
    split at h
    · rename_i e
      subst e
      rcases List.mem_cons.1 h with rfl | h
      · exact .inr rfl
      · exact .inl (by simp [h])
    · rcases List.mem_cons.1 h with rfl | h
      · exact .inl (by simp)
      · rcases mem_setBox h with h | h
        · exact .inl (by simp [h])
        · exact .inr h
theorem mem_setBs {q : Nat × List V} : ∀ {wr l : List (Nat × List V)}, q ∈ setBs l wr → q ∈ l ∨ q ∈ wr
  | [], l, h => .inl h
  | p :: wr, l, h => by
    rw [setBs_cons] at h
    rcases mem_setBs h with h | h
    · rcases mem_setBox h with h | h
      · exact .inl h
      · exact .inr (by simp [h])
    · exact .inr (by simp [h])
theorem mem_eff_env {e : Ev} {s : St} {p : Nat × V} (h : p ∈ (eff e s).env) : (e.d = some p.1 ∧ p.2 = e.r) ∨ ∃ q ∈ s.env, p = (q.1, dnV e.T q.2) := by
  have h' : p ∈ dnE e.T s.env → ∃ q ∈ s.env, p = (q.1, dnV e.T q.2) := dnE_mem e.T |>.1
  simp only [eff, consO] at h
  split at h
  · rename_i d hd
    rcases List.mem_cons.1 h with rfl | h
    · exact .inl ⟨hd, rfl⟩
    · exact .inr (h' h)
  · exact .inr (h' h)
theorem mem_eff_bx {e : Ev} {s : St} {p : Nat × List V} (h : p ∈ (eff e s).bx) : p ∈ e.nw ∨ p ∈ e.wr ∨ ∃ q ∈ s.bx, p = (q.1, dnVs e.T q.2) := by
  rcases List.mem_append.1 h with h | h
  · exact .inl h
  · rcases mem_setBs h with h | h
    · exact .inr (.inr ((dnB_mem e.T).1 h))
    · exact .inr (.inl h)
theorem noToks_dnVs {T : List Nat} {n : Nat} {l : List V} (h : V.noToks n l = true) : V.noToks n (dnVs T l) = true := by
  rw [noToks_all, List.all_eq_true] at h
  rw [dnVs_map, noToks_all, List.all_eq_true]
  intro v hv
  obtain ⟨u, hu, rfl⟩ := List.mem_map.1 hv
  exact noTok_dnV (h u hu)
theorem noPtrs_dnVs {T : List Nat} {n : Nat} {l : List V} : V.noPtrs n (dnVs T l) = V.noPtrs n l := by
  rw [dnVs_map, noPtrs_all, noPtrs_all, List.all_map]
  congr 1
  funext v
  exact noPtr_dnV
theorem dnV_dnV_noTok {T U : List Nat} {t : Nat} {v : V} (h : (dnV T v).noTok t = true) : (dnV T (dnV U v)).noTok t = true := by rw [dnV_comm]; exact noTok_dnV h
theorem dnVs_dnVs_noTok {T U : List Nat} {t : Nat} {l : List V} (h : V.noToks t (dnVs T l) = true) : V.noToks t (dnVs T (dnVs U l)) = true := by
  rw [dnVs_map, noToks_all, List.all_map, List.all_eq_true] at h
  rw [dnVs_map, dnVs_map, noToks_all, List.all_map, List.all_map, List.all_eq_true]
  exact fun v hv => dnV_dnV_noTok (h v hv)

/-- What is asked for goes on to hold. -/
theorem Gl.step {e b : Ev} {s : St} (h : Gl b s) (hp : Pres e b) : Gl b (eff e s) := by
  have fr1 : ∀ d (l : List (Nat × V)) , envAll (fun v => v.noPtr d && v.noTok d) l = true ↔ ∀ p ∈ l, p.2.noPtr d = true ∧ p.2.noTok d = true := fun d l => by
    rw [envAll_iff]; simp
  have fr2 : ∀ d (l : List (Nat × List V)) , bxAll (fun v => v.noPtr d && v.noTok d) l = true ↔ ∀ p ∈ l, V.noPtrs d p.2 = true ∧ V.noToks d p.2 = true := fun d l => by
    rw [bxAll_iff]
    refine forall_congr' fun p => forall_congr' fun _ => ?_
    rw [noPtrs_all, noToks_all]
    simp only [List.all_eq_true, Bool.and_eq_true]
    exact ⟨fun h => ⟨fun v hv => (h v hv).1, fun v hv => (h v hv).2⟩, fun h v hv => ⟨h.1 v hv, h.2 v hv⟩⟩
  have cl2 : ∀ t (l : List (Nat × List V)) , bxAll (V.noTok t) l = true ↔ ∀ p ∈ l, V.noToks t p.2 = true := fun t l => by
    rw [bxAll_iff]
    refine forall_congr' fun p => forall_congr' fun _ => ?_
    rw [noToks_all]
  refine ⟨fun d hd => ?_, fun t ht => ?_, fun t ht p hp' hn => ?_, fun t ht p hp' hn => ?_⟩
  · have h0 := h.fr d hd
    obtain ⟨⟨k1, k2⟩, k3, k4⟩ := hp.fr d hd
    simp only [St.fresh, St.dnT, Bool.and_eq_true, fr1, fr2] at h0 ⊢
    refine ⟨fun p hp => ?_, fun p hp => ?_⟩
    · obtain ⟨q, hq, rfl⟩ := (dnE_mem b.T).1 hp
      rcases mem_eff_env hq with ⟨_, e2⟩ | ⟨q', hq', rfl⟩
      · rw [e2]; exact ⟨noPtr_dnV.trans k1, k2⟩
      · have := h0.1 _ ((dnE_mem b.T).2 ⟨q', hq', rfl⟩)
        exact ⟨by rw [noPtr_dnV, noPtr_dnV]; simpa [noPtr_dnV] using this.1, dnV_dnV_noTok this.2⟩
    · obtain ⟨q, hq, rfl⟩ := (dnB_mem b.T).1 hp
      rcases mem_eff_bx hq with hw | hw | ⟨q', hq', rfl⟩
      · exact ⟨noPtrs_dnVs.trans (k4 q hw).1, noToks_dnVs (k4 q hw).2⟩
      · exact ⟨noPtrs_dnVs.trans (k3 q hw).1, (k3 q hw).2⟩
      · have := h0.2 _ ((dnB_mem b.T).2 ⟨q', hq', rfl⟩)
        exact ⟨by rw [noPtrs_dnVs, noPtrs_dnVs]; simpa [noPtrs_dnVs] using this.1, dnVs_dnVs_noTok this.2⟩
  · have h0 := h.cl t ht
    obtain ⟨k1, k2, k3⟩ := hp.cl t ht
    simp only [St.clean, St.dnT, Bool.and_eq_true, envAll_iff, cl2] at h0 ⊢
    refine ⟨fun p hp => ?_, fun p hp => ?_⟩
    · obtain ⟨q, hq, rfl⟩ := (dnE_mem b.T).1 hp
      rcases mem_eff_env hq with ⟨_, e2⟩ | ⟨q', hq', rfl⟩
      · rw [e2]; exact k1
      · exact dnV_dnV_noTok (h0.1 _ ((dnE_mem b.T).2 ⟨q', hq', rfl⟩))
    · obtain ⟨q, hq, rfl⟩ := (dnB_mem b.T).1 hp
      rcases mem_eff_bx hq with hw | hw | ⟨q', hq', rfl⟩
      · exact noToks_dnVs (k3 q hw)
      · exact k2 q hw
      · exact dnVs_dnVs_noTok (h0.2 _ ((dnB_mem b.T).2 ⟨q', hq', rfl⟩))
  · rcases mem_eff_env hp' with ⟨e1, e2⟩ | ⟨q', hq', rfl⟩
    · rcases hp.tt t ht p.1 e1 with h1 | h1
      · rw [h1] at hn; simp at hn
      · rw [e2]; exact h1
    · exact noTok_dnV (h.tt t ht q' hq' hn)
  · rcases mem_eff_bx hp' with hw | hw | ⟨q', hq', rfl⟩
    · exact (hp.cl t ht).2.2 p hw
    · rcases hp.tb t ht p hw with h1 | h1
      · rw [h1] at hn; simp at hn
      · exact h1
    · exact noToks_dnVs (h.tb t ht q' hq' hn)

theorem lk_eff {e : Ev} {s : St} {n : Nat} (h : e.d ≠ some n) : lk (eff e s).env n = dnV e.T (lk s.env n) := by
  simp only [eff, consO]
  split
  · rename_i d hd
    rw [hd] at h
    simp only [lk]
    rw [if_neg (fun e => h (by rw [e]))]
    exact dnE_lk _ _ _
  · exact dnE_lk _ _ _
theorem bget_app : ∀ {l m : List (Nat × List V)} {n : Nat}, named l n = false → bget (l ++ m) n = bget m n
  | [], _, _, _ => rfl
  | (k, c) :: l, m, n, h => by
    simp only [named, List.any_cons, Bool.or_eq_false_iff, beq_eq_false_iff_ne, ne_eq] at h
    simp only [List.cons_append, Go.Ab.bget, if_neg (fun e : n = k => h.1 e.symm)]
    exact bget_app h.2
theorem bget_eff {e : Ev} {s : St} {n : Nat} (h : named e.nw n = false) (hw : named e.wr n = false) : bget (eff e s).bx n = (bget s.bx n).map (dnVs e.T) := by
  show bget (e.nw ++ setBs (dnB e.T s.bx) e.wr) n = _
  rw [bget_app h, setBs_other hw]; exact dnB_get _ _ _
/-- what b reads, a does not turn -/
theorem Apart.lk {a b : Ev} {s : St} (h : Apart a b) (hg : Gl a s) {p : Nat × V} (hp : p ∈ b.rt) : Go.Ab.lk (eff a s).env p.1 = Go.Ab.lk s.env p.1 := by
  rw [lk_eff (h.rt p hp)]
  refine dnV_noTok fun t ht => ?_
  rcases lk_mem s.env p.1 with e | e
  · rw [e]; rfl
  · exact hg.tt t ht _ e ((h.tt t ht).1 p hp)
theorem Apart.bget {a b : Ev} {s : St} (h : Apart a b) (hg : Gl a s) {p : Nat × List V} (hp : p ∈ b.rb) : Go.Ab.bget (eff a s).bx p.1 = Go.Ab.bget s.bx p.1 := by
  rw [bget_eff (h.rb p hp).2 (h.rb p hp).1]
  cases hb : Go.Ab.bget s.bx p.1 with
  | none => rfl
  | some c =>
    rw [Option.map_some, dnVs_noTok fun t ht => hg.tb t ht _ (bget_mem hb) ((h.tt t ht).2 p hp)]
theorem Apart.rd {a b : Ev} {s : St} (h : Apart a b) (hg : Gl a s) : Rd b (eff a s) ↔ Rd b s := by
  have hw : ∀ p ∈ b.wr, (Go.Ab.bget (eff a s).bx p.1).isSome = (Go.Ab.bget s.bx p.1).isSome := fun p hp => by
    rw [bget_eff (h.wr p hp).2 (h.wr p hp).1]; simp
  constructor
  · exact fun k => ⟨fun p hp => (h.lk hg hp).symm.trans (k.rt p hp), fun p hp => (h.bget hg hp).symm.trans (k.rb p hp), fun p hp => (hw p hp).symm.trans (k.wr p hp)⟩
  · exact fun k => ⟨fun p hp => (h.lk hg hp).trans (k.rt p hp), fun p hp => (h.bget hg hp).trans (k.rb p hp), fun p hp => (hw p hp).trans (k.wr p hp)⟩
theorem Rd.eqv {e : Ev} {s s' : St} (h : Eqv s s') (k : Rd e s) : Rd e s' := ⟨fun p hp => (h.lk p.1).symm.trans (k.rt p hp), fun p hp => (h.bx p.1).symm.trans (k.rb p hp), fun p hp => by rw [← h.bx]; exact k.wr p hp⟩
theorem bget_app3 : ∀ {l m : List (Nat × List V)} {n : Nat}, bget (l ++ m) n = match bget l n with
    | some c => some c
    | none => bget m n
  | [], _, _ => rfl
  | (a, c) :: l, m, n => by
    simp only [List.cons_append, bget]
    split
    · rfl
    · exact bget_app3
theorem setBs_congr : ∀ {wr l l' : List (Nat × List V)}, (∀ n, bget l n = bget l' n) → ∀ n, bget (setBs l wr) n = bget (setBs l' wr) n
  | [], _, _, h, n => h n
  | p :: wr, l, l', h, n => by
    rw [setBs_cons, setBs_cons]
    exact setBs_congr (fun m => by rw [setBox_get, setBox_get, h, h]) n
theorem bget_named : ∀ {l : List (Nat × List V)} {n : Nat} {c : List V}, bget l n = some c → ∃ p ∈ l, p.1 = n
  | (a, d) :: l, n, c, h => by
    simp only [bget] at h
    split at h
    · rename_i e; exact ⟨(a, d), by simp, e.symm⟩
    · obtain ⟨p, hp, e⟩ := bget_named h; exact ⟨p, by simp [hp], e⟩
theorem eff_eqv {e : Ev} {s s' : St} (h : Eqv s s') : Eqv (eff e s) (eff e s') := by
  refine ⟨fun n => ?_, fun p => ?_, fun n => by
    simp only [eff]
    rw [bget_app3, bget_app3, setBs_congr (l := dnB e.T s.bx) (l' := dnB e.T s'.bx) (fun m => by rw [dnB_get, dnB_get, h.bx]) n]⟩
  · by_cases hd : e.d = some n
    · simp [eff, consO, hd, Go.Ab.lk]
    · rw [lk_eff hd, lk_eff hd, h.lk]
  · have hm : p ∈ dnE e.T s.env ↔ p ∈ dnE e.T s'.env := by
      rw [dnE_mem, dnE_mem]
      exact ⟨fun ⟨q, hq, e⟩ => ⟨q, (h.env q).1 hq, e⟩, fun ⟨q, hq, e⟩ => ⟨q, (h.env q).2 hq, e⟩⟩
    cases hd : e.d <;> simp [eff, consO, hd, hm]
theorem setBox_app {n : Nat} {c : List V} : ∀ {l m : List (Nat × List V)}, named l n = false → setBox (l ++ m) n c = l ++ setBox m n c
  | [], _, _ => rfl
  | (k, d) :: l, m, h => by
    simp only [named, List.any_cons, Bool.or_eq_false_iff, beq_eq_false_iff_ne, ne_eq] at h
    simp only [List.cons_append, setBox, if_neg (fun e : n = k => h.1 e.symm)]
    rw [setBox_app h.2]
theorem setBs_app : ∀ {wr l m : List (Nat × List V)}, (∀ p ∈ wr, named l p.1 = false) → setBs (l ++ m) wr = l ++ setBs m wr
  | [], _, _, _ => rfl
  | p :: wr, l, m, h => by rw [setBs_cons, setBs_cons, setBox_app (h p (by simp)), setBs_app fun q hq => h q (by simp [hq])]
theorem dnB_nil : ∀ {T : List Nat}, dnB T [] = []
  | [] => rfl
  | _ :: T => dnB_nil (T := T)
theorem dnB_app {T : List Nat} : ∀ {l m : List (Nat × List V)}, dnB T (l ++ m) = dnB T l ++ dnB T m
  | [], m => by rw [dnB_nil]; rfl
  | (k, d) :: l, m => by rw [List.cons_append, dnB_cons, dnB_cons, dnB_app]; rfl
theorem dnB_noTok {T : List Nat} : ∀ {l : List (Nat × List V)}, (∀ p ∈ l, ∀ t ∈ T, V.noToks t p.2 = true) → dnB T l = l
  | [], _ => dnB_nil
  | (k, d) :: l, h => by rw [dnB_cons, dnVs_noTok fun t ht => h (k, d) (by simp) t ht, dnB_noTok fun p hp => h p (by simp [hp])]
/-- the order of two makes no difference -/
theorem eff_swap {a b : Ev} (h : Apart a b) (k : Apart b a) (hn : ∀ p ∈ a.nw, named b.nw p.1 = false) (s : St) : Eqv (eff b (eff a s)) (eff a (eff b s)) := by
  have ra : dnV b.T a.r = a.r := dnV_noTok fun t ht => (k.tok t ht).1
  have rb : dnV a.T b.r = b.r := dnV_noTok fun t ht => (h.tok t ht).1
  have wa : ∀ p ∈ a.wr, dnVs b.T p.2 = p.2 := fun p hp => dnVs_noTok fun t ht => (k.tok t ht).2.1 p hp
  have wb : ∀ p ∈ b.wr, dnVs a.T p.2 = p.2 := fun p hp => dnVs_noTok fun t ht => (h.tok t ht).2.1 p hp
  refine ⟨fun n => ?_, fun p => ?_, ?_⟩
  · by_cases ha : a.d = some n
    · have hb : b.d ≠ some n := h.d n ha
      rw [lk_eff hb]
      simp only [eff, consO, ha, Go.Ab.lk, if_true, ra]
    · by_cases hb : b.d = some n
      · rw [lk_eff ha]
        simp only [eff, consO, hb, Go.Ab.lk, if_true, rb]
      · rw [lk_eff hb, lk_eff ha, lk_eff ha, lk_eff hb, dnV_comm]
  · cases ha : a.d <;> cases hb : b.d <;> simp only [eff, consO, ha, hb, dnE_cons, ra, rb, List.mem_cons, dnE_comm (T := a.T) (U := b.T)]
    exact ⟨fun h => by rcases h with h | h | h <;> simp [h], fun h => by rcases h with h | h | h <;> simp [h]⟩
  · have hwa : ∀ p ∈ a.wr, named b.wr p.1 = false := fun p hp => (k.wr p hp).1
    have core : setBs (dnB b.T (setBs (dnB a.T s.bx) a.wr)) b.wr = setBs (dnB a.T (setBs (dnB b.T s.bx) b.wr)) a.wr := by
      rw [dnB_setBs wa, dnB_setBs wb, dnB_comm, setBs_comm hwa]
    have e1 : (eff b (eff a s)).bx = b.nw ++ (a.nw ++ setBs (dnB a.T (setBs (dnB b.T s.bx) b.wr)) a.wr) := by
      show b.nw ++ setBs (dnB b.T (a.nw ++ setBs (dnB a.T s.bx) a.wr)) b.wr = _
      rw [dnB_app, dnB_noTok (T := b.T) fun p hp t ht => (k.tok t ht).2.2 p hp, setBs_app fun p hp => (h.wr p hp).2, core]
    have e2 : (eff a (eff b s)).bx = a.nw ++ (b.nw ++ setBs (dnB a.T (setBs (dnB b.T s.bx) b.wr)) a.wr) := by
      show a.nw ++ setBs (dnB a.T (b.nw ++ setBs (dnB b.T s.bx) b.wr)) a.wr = _
      rw [dnB_app, dnB_noTok (T := a.T) fun p hp t ht => (h.tok t ht).2.2 p hp, setBs_app fun p hp => (k.wr p hp).2]
    intro n
    rw [e1, e2, bget_app3, bget_app3, bget_app3 (l := a.nw), bget_app3 (l := b.nw)]
    cases ha : bget a.nw n with
    | none => rfl
    | some c =>
      cases hb : bget b.nw n with
      | none => rfl
      | some d =>
        exfalso
        obtain ⟨p, hp, e⟩ := bget_named ha
        obtain ⟨q, hq, e'⟩ := bget_named hb
        have := hn p hp
        simp only [named, List.any_eq_false, beq_iff_eq] at this
        exact this q hq (by rw [e, e'])

/-! a list of events -/
def Seq : List Ev → St → Prop
  | [], _ => True
  | e :: l, s => Rd e s ∧ Seq l (eff e s)
def fin : List Ev → St → St
  | [], s => s
  | e :: l, s => fin l (eff e s)
theorem Seq.eqv : ∀ {l : List Ev} {s s' : St}, Eqv s s' → Seq l s → Seq l s'
  | [], _, _, _, _ => trivial
  | _ :: _, _, _, h, k => ⟨k.1.eqv h, k.2.eqv (eff_eqv h)⟩
theorem fin_eqv : ∀ {l : List Ev} {s s' : St}, Eqv s s' → Eqv (fin l s) (fin l s')
  | [], _, _, h => h
  | _ :: l, _, _, h => fin_eqv (l := l) (eff_eqv h)
def Comm (a b : Ev) : Prop := Apart a b ∧ Apart b a ∧ ∀ p ∈ a.nw, named b.nw p.1 = false
/-- an event that floats over all before it may come first -/
theorem Seq.front : ∀ {l1 l2 : List Ev} {e : Ev} {s : St}, Seq (l1 ++ e :: l2) s → (∀ f ∈ l1, Comm f e) → Gl e s → (∀ f ∈ l1, Gl f s) → (∀ f ∈ l1, Pres f e) → l1.Pairwise Pres →
    Rd e s ∧ Seq (l1 ++ l2) (eff e s) ∧ Eqv (fin (l1 ++ e :: l2) s) (fin (l1 ++ l2) (eff e s)) := by
  intro l1
  induction l1 with
  | nil => exact fun h _ _ _ _ _ => ⟨h.1, h.2, Eqv.refl _⟩
  | cons f l1 ih =>
    intro l2 e s h hc hg hgs hp hpw
    obtain ⟨c1, c2, c3⟩ := hc f (by simp)
    rw [List.pairwise_cons] at hpw
    obtain ⟨r1, r2, r3⟩ := ih (l2 := l2) (e := e) h.2 (fun g hg => hc g (by simp [hg])) (hg.step (hp f (by simp))) (fun g hg' => (hgs g (by simp [hg'])).step (hpw.1 g hg')) (fun g hg' => hp g (by simp [hg'])) hpw.2
    have hf := hgs f (by simp)
    have e1 : Rd e s := (c1.rd hf).1 r1
    have sw := eff_swap c1 c2 c3 s
    exact ⟨e1, ⟨(c2.rd hg).2 h.1, r2.eqv sw⟩, r3.trans (fin_eqv sw)⟩
end Go.Ab
