/- What the functions compute, in plain Lean. -/
import Derived.Test.YtjmoiaegaicojaaGreatDoorFExactBegins
namespace Go.Ab
open Go
/-! tokP -/

theorem wrap_ok {n : Int} (h1 : -9223372036854775808 ≤ n) (h2 : n ≤ 9223372036854775807) : IntKind.wrap .i64 n = n := by rw [IntKind.wrap_i64]; omega
/-- the next round of a loop over a list -/
theorem wrap_next {i n : Nat} (h : i < n) (hn : n ≤ 4611686018427387904) : IntKind.wrap .i64 ((i : Int) + 1) = ((i + 1 : Nat) : Int) := by rw [wrap_ok] <;> omega
theorem lt_dec (i n : Nat) : decide ((i : Int) < (n : Int)) = decide (i < n) := by simp
theorem idx_nat {α : Type} (l : List α) (i : Nat) : idx l (i : Int) = l[i]? := by simp [idx]
theorem idx_lt {α : Type} {l : List α} {i : Nat} (h : i < l.length) : idx l (i : Int) = some l[i] := by rw [idx_nat]; simp [h]
/-- from the last round backwards -/
theorem back_ind {M : Nat → Prop} {n : Nat} (h0 : M n) (h : ∀ i, i < n → M (i + 1) → M i) : ∀ i, i ≤ n → M i := by
  have : ∀ k i, i + k = n → M i := by
    intro k
    induction k with
    | zero => intro i hi; have : i = n := by omega
              subst this; exact h0
    | succ k ih => intro i hi; exact h i (by omega) (ih (i + 1) (by omega))
  exact fun i hi => this (n - i) i (by omega)
/-- A loop that copies a list element by element into a made one. -/
theorem copy_all {α : Type} {p : List α} {F : Int → List α → Option (List α)} (hn : p.length ≤ 4611686018427387904)
    (hF : ∀ (i : Nat) b, b.length = p.length → F i b = if i < p.length then (idx p i >>= fun v => setG b i v >>= fun c => F (IntKind.wrap .i64 ((i : Int) + 1)) c) else some b) :
    ∀ b, b.length = p.length → F 0 b = some p := by
  have key : ∀ i, i ≤ p.length → ∀ b, b.length = p.length → b.take i = p.take i → F (i : Nat) b = some p := by
    refine back_ind ?_ ?_
    · intro b hb ht
      rw [hF _ _ hb, if_neg (by omega)]
      rw [← hb, List.take_length] at ht
      rw [ht, hb, List.take_length]
    · intro i hi ih b hb ht
      rw [hF _ _ hb, if_pos hi, idx_lt hi]
      have hs : setG b i p[i] = some (b.set i p[i]) := by
        unfold setG; rw [if_pos ⟨by omega, by simp; omega⟩]; simp
      simp only [Option.bind_eq_bind, Option.bind_some, hs, wrap_next hi hn]
      refine ih _ (by simp [hb]) ?_
      rw [List.take_add_one, List.take_add_one]
      have e1 : (b.set i p[i]).take i = b.take i := by rw [List.take_set_of_le (Nat.le_refl _)]
      rw [e1, ht]
      simp [hb, hi]
  intro b hb
  exact key 0 (by omega) b hb (by simp)
theorem mkG_ok {α : Type} {by' : Nat} {n : Nat} {z : α} (h : (n : Int) * by' ≤ 140737488355328) : mkG by' (n : Int) z = some (List.replicate n z) := by
  unfold mkG; rw [if_pos ⟨by omega, h⟩]; simp
theorem catS_ok {a b : List UInt8} (h : a.length + b.length ≤ 1073741824) : catS a b = some (a ++ b) := by
  unfold catS; rw [if_pos (Nat.le_trans h (by decide))]
theorem byte_digit {d : Nat} (h : d < 10) (x4 : List UInt8) : ofBytes ([(IntKind.wrap .u8 (IntKind.wrap .i64 (48 + (d : Int))))] : List Int) = some [UInt8.ofNat (48 + d)] := by
  match d, h with
  | 0, _ => rfl
  | 1, _ => rfl
  | 2, _ => rfl
  | 3, _ => rfl
  | 4, _ => rfl
  | 5, _ => rfl
  | 6, _ => rfl
  | 7, _ => rfl
  | 8, _ => rfl
  | 9, _ => rfl
theorem sDigits_loop (p0 : Int) : ∀ n : Nat, n ≤ 9223372036854775808 → ∀ out : List UInt8, out.length + Lib.nDigits n ≤ 1000 → ∀ x0 : Int, (x0 = n ∨ x0 = -(n : Int)) →
    sDigits_L0 p0 x0 out = some ((if p0 < 0 then [45] else []) ++ ((if n = 0 then [] else Lib.decDigits n) ++ out)) := by
  intro n
  induction n using Nat.strongRecOn with
  | ind n ih =>
    intro hn out ho x0 hx
    rw [sDigits_L0]
    by_cases h0 : n = 0
    · subst h0
      have : x0 = 0 := by omega
      subst this
      have hc : catS [45] out = some (45 :: out) := catS_ok (by simp; omega)
      by_cases hp : p0 < 0 <;> simp [hp, hc]
    · have hx0 : x0 ≠ 0 := by omega
      have hdiv : Int.tdiv x0 10 = ((n / 10 : Nat) : Int) ∨ Int.tdiv x0 10 = -((n / 10 : Nat) : Int) := by
        rcases hx with rfl | rfl
        · left; simp [Int.tdiv]
        · right; rw [Int.neg_tdiv]; simp [Int.tdiv]
      have hdd : IntKind.wrap .i64 (Int.tdiv x0 10) = Int.tdiv x0 10 := wrap_ok (by omega) (by omega)
      have hm : Int.tmod x0 10 = ((n % 10 : Nat) : Int) ∨ Int.tmod x0 10 = -((n % 10 : Nat) : Int) := by
        rcases hx with rfl | rfl
        · left; simp [Int.tmod]
        · right; rw [Int.neg_tmod]; simp [Int.tmod]
      have hlt : n % 10 < 10 := Nat.mod_lt _ (by omega)
      have hnd : Lib.nDigits (n / 10) ≤ Lib.nDigits n := by
        by_cases hs : n < 10
        · have : n / 10 = 0 := by omega
          rw [this, Lib.nDigits_small (by omega)]; exact Lib.nDigits_pos _
        · rw [Lib.nDigits_big hs]; omega
      have hnd1 : n / 10 ≠ 0 → Lib.nDigits (n / 10) + 1 = Lib.nDigits n := fun h => by rw [← Lib.nDigits_big (u := n) (by omega)]
      have hpos := Lib.nDigits_pos n
      have key : sDigits_J1 x0 p0 out ((n % 10 : Nat) : Int) = some ((if p0 < 0 then [45] else []) ++ (Lib.decDigits n ++ out)) := by
        rw [sDigits_J1, byte_digit hlt out]
        simp only [Option.bind_eq_bind, Option.bind_some]
        rw [catS_ok (by simp; omega)]
        simp only [Option.bind_some]
        rw [hdd]
        by_cases hs : n / 10 = 0
        · have hz : Int.tdiv x0 10 = 0 := by omega
          have hn10 : n < 10 := by omega
          rw [hz, sDigits_L0]
          have hmod : n % 10 = n := Nat.mod_eq_of_lt hn10
          have hc : catS [45] ([UInt8.ofNat (48 + n % 10)] ++ out) = some (45 :: ([UInt8.ofNat (48 + n % 10)] ++ out)) := catS_ok (by simp; omega)
          rw [Lib.decDigits_one hn10]
          by_cases hp : p0 < 0
          · simp [hp, hmod] at hc ⊢
            rw [hc]
          · simp [hp, hmod]
        · rw [ih (n / 10) (by omega) (by omega) _ (by have := hnd1 hs; simp; omega) _ hdiv, if_neg hs]
          conv => rhs; rw [Lib.decDigits, dif_neg (by omega)]
          simp
      rw [if_pos (by simp [hx0]), if_neg h0]
      by_cases hneg : Int.tmod x0 10 < 0
      · rw [if_pos (by simp [hneg])]
        have e : IntKind.wrap .i64 (0 - Int.tmod x0 10) = ((n % 10 : Nat) : Int) := by rw [wrap_ok (by omega) (by omega)]; omega
        rw [e, key]
      · rw [if_neg (by simp [hneg])]
        have e : Int.tmod x0 10 = ((n % 10 : Nat) : Int) := by omega
        rw [e, key]
/-- the reference's numeral is the library's -/
theorem sDigits_itoa (n : Int) (h1 : -9223372036854775808 ≤ n) (h2 : n ≤ 9223372036854775807) : sDigits n = some (Lib.itoa n) := by
  unfold sDigits
  by_cases h0 : n = 0
  · subst h0; simp; rw [Lib.itoa]; simp; rw [Lib.decDigits_one (by omega)]; rfl
  · have hl : Lib.nDigits n.natAbs ≤ 20 := Lib.nDigits_le20 _ (by omega)
    rw [if_neg (by simp [h0]), sDigits_loop n n.natAbs (by omega) [] (by simp; omega) n (by omega), if_neg (show ¬ n.natAbs = 0 by omega)]
    unfold Lib.itoa
    by_cases hn : n < 0
    · simp [hn]
    · have : n.natAbs = n.toNat := by omega
      simp [hn, this]
/-- each of a byte's places doubled -/
def dbl (q : UInt8) (s : List UInt8) : List UInt8 := s.flatMap fun c => if c = q then [q, q] else [c]
theorem index_cons1 (q b : UInt8) (l : List UInt8) : Lib.index (b :: l) [q] = if b = q then 0 else if Lib.index l [q] = -1 then -1 else Lib.index l [q] + 1 := by
  by_cases h : b = q
  · subst h; simp [Lib.index, List.isPrefixOf]
  · have : ¬ q = b := fun e => h e.symm
    simp [Lib.index, List.isPrefixOf, h, this]
theorem replaceK_cons_ne {q b : UInt8} (h : b ≠ q) (new l : List UInt8) : ∀ k, Lib.replaceK [q] new k (b :: l) = b :: Lib.replaceK [q] new k l
  | 0 => rfl
  | k + 1 => by
    have hge := Lib.index_ge l [q]
    rw [Lib.replaceK, Lib.replaceK, index_cons1, if_neg h]
    by_cases hi : Lib.index l [q] = -1
    · simp [hi]
    · have e : (Lib.index l [q] + 1).toNat = (Lib.index l [q]).toNat + 1 := by omega
      have e2 : ¬ Lib.index l [q] + 1 = -1 := by omega
      simp only [hi, if_false, beq_iff_eq, e2, e, List.length_cons, List.length_nil]
      rw [show (Lib.index l [q]).toNat + 1 + (0 + 1) = ((Lib.index l [q]).toNat + (0 + 1)) + 1 by omega, List.drop_succ_cons, List.take_succ_cons]
      rfl
theorem replaceAll_dbl (q : UInt8) (s : List UInt8) : Lib.replaceAll s [q] [q, q] = dbl q s := by
  unfold Lib.replaceAll Lib.replace Lib.replaceNum
  rw [if_neg (by simp), if_pos (by omega)]
  induction s with
  | nil => rfl
  | cons b l ih =>
    by_cases h : b = q
    · subst h
      rw [Lib.count_cons_eq, Nat.add_comm, Lib.replaceK_hit _ _ _ _ 0 (by rw [index_cons1, if_pos rfl]; rfl)]
      simp only [List.take_zero, List.nil_append, List.length_cons, List.length_nil, Nat.zero_add, List.drop_succ_cons, List.drop_zero]
      rw [ih]
      simp [dbl]
    · rw [Lib.count_cons_ne _ _ _ h, replaceK_cons_ne h, ih]
      simp [dbl, h]
theorem dbl_len (q : UInt8) (s : List UInt8) : (dbl q s).length ≤ 2 * s.length := by
  induction s with
  | nil => simp [dbl]
  | cons b l ih =>
    have : dbl q (b :: l) = (if b = q then [q, q] else [b]) ++ dbl q l := rfl
    rw [this, List.length_append, List.length_cons]
    split <;> simp <;> omega
def quoteT (q : UInt8) (s : List UInt8) : List UInt8 := [q] ++ dbl q s ++ [q]
theorem quoteT_len (q : UInt8) (s : List UInt8) : (quoteT q s).length ≤ 2 * s.length + 2 := by
  have := dbl_len q s
  simp [quoteT]; omega
theorem toBytes_append (a b : List UInt8) : toBytes (a ++ b) = toBytes a ++ toBytes b := by simp [toBytes]
theorem toBytes_len (a : List UInt8) : (toBytes a).length = a.length := by simp [toBytes]
theorem ofBytes_toBytes (a : List UInt8) : ofBytes (toBytes a) = some a := by
  unfold ofBytes toBytes
  rw [if_pos]
  · rw [List.map_map]
    congr 1
    refine (List.map_congr_left (g := id) fun u _ => ?_).trans (List.map_id a)
    simp [Function.comp]
  · refine List.all_eq_true.2 fun n hn => ?_
    obtain ⟨u, _, rfl⟩ := List.mem_map.1 hn
    have := u.toNat_lt
    simp; omega
theorem appB_ok {a : List UInt8} {l : List Int} (b : List UInt8) (hl : l = toBytes b) (h : a.length + b.length ≤ 1073741824) : appG 1 (toBytes a) l = some (toBytes (a ++ b)) := by
  subst hl
  unfold appG
  rw [if_pos (by rw [toBytes_len, toBytes_len]; omega), toBytes_append]
theorem appB1 {a : List UInt8} (q : UInt8) (h : a.length + 1 ≤ 1073741824) : appG 1 (toBytes a) [(q.toNat : Int)] = some (toBytes (a ++ [q])) := appB_ok [q] rfl (by simpa using h)
theorem appC {a : List UInt8} (n : Int) (u : UInt8) (hu : n = u.toNat) (h : a.length + 1 ≤ 1073741824) : appG 1 (toBytes a) [n] = some (toBytes (a ++ [u])) := by subst hu; exact appB1 u h
/-- a letter in upper case -/
def fb (b : UInt8) : UInt8 := if 97 ≤ b.toNat ∧ b.toNat ≤ 122 then UInt8.ofNat (b.toNat - 32) else b
theorem fb_up {b : UInt8} (h : 97 ≤ b.toNat ∧ b.toNat ≤ 122) : ((fb b).toNat : Int) = (b.toNat : Int) - 32 := by
  unfold fb; rw [if_pos h, UInt8.toNat_ofNat']; omega
theorem fb_id {b : UInt8} (h : ¬ (97 ≤ b.toNat ∧ b.toNat ≤ 122)) : fb b = b := by unfold fb; rw [if_neg h]
theorem wrap_u8 {n : Int} (h0 : 0 ≤ n) (h1 : n < 256) : IntKind.wrap .u8 n = n := by
  unfold IntKind.wrap; simp [IntKind.signed, IntKind.bits]; omega
/-- the row between the rounds -/
def foldAt (s : List UInt8) (i : Nat) : List UInt8 := (s.take i).map fb ++ s.drop i
theorem foldAt_len (s : List UInt8) (i : Nat) : (foldAt s i).length = s.length := by simp [foldAt]; omega
theorem foldAt_get {s : List UInt8} {i : Nat} (h : i < s.length) : (foldAt s i)[i]? = some s[i] := by
  unfold foldAt
  rw [List.getElem?_append_right (by simp; omega)]
  simp [Nat.min_eq_left (Nat.le_of_lt h), h]
theorem foldAt_set {s : List UInt8} {i : Nat} (h : i < s.length) : (foldAt s i).set i (fb s[i]) = foldAt s (i + 1) := by
  unfold foldAt
  have hd := List.drop_eq_getElem_cons h
  rw [List.set_append_right _ _ (by simp; omega), List.take_succ_eq_append_getElem h, List.map_append]
  simp [Nat.min_eq_left (Nat.le_of_lt h)]
  rw [hd]; rfl
theorem foldAt_all (s : List UInt8) : foldAt s s.length = s.map fb := by simp [foldAt]
theorem idx_toBytes {l : List UInt8} {i : Nat} {b : UInt8} (h : l[i]? = some b) : idx (toBytes l) (i : Int) = some (b.toNat : Int) := by
  rw [idx_nat]; simp [toBytes, h]
theorem toBytes_set (l : List UInt8) (i : Nat) (b : UInt8) : (toBytes l).set i (b.toNat : Int) = toBytes (l.set i b) := by simp [toBytes, List.map_set]
theorem iFold_loop (s : List UInt8) (hs : s.length ≤ 1073741824) : ∀ i, i ≤ s.length → iFold_L0 s (i : Nat) (toBytes (foldAt s i)) = some (s.map fb) := by
  refine back_ind ?_ ?_
  · rw [iFold_L0]
    simp only [toBytes_len, lt_dec, Nat.lt_irrefl, decide_false, Bool.false_eq_true, if_false]
    rw [iFold_J2, foldAt_all]
    simp [ofBytes_toBytes]
  · intro i hi ih
    rw [iFold_L0]
    simp only [toBytes_len, lt_dec, hi, decide_true, if_true, idx_toBytes (foldAt_get hi), Option.bind_eq_bind, Option.bind_some, Int.toNat_natCast]
    have hb := s[i].toNat_lt
    by_cases h : 97 ≤ s[i].toNat ∧ s[i].toNat ≤ 122
    · have e : IntKind.wrap .u8 (IntKind.wrap .u8 ((s[i].toNat : Int) - 97) + 65) = ((fb s[i]).toNat : Int) := by
        rw [fb_up h, wrap_u8 (n := (s[i].toNat : Int) - 97) (by omega) (by omega), wrap_u8 (by omega) (by omega)]; omega
      rw [if_pos (by simp; omega), iFold_J1, e, toBytes_set, foldAt_set hi, wrap_next hi (by omega)]
      exact ih
    · rw [if_neg (by simp; omega), iFold_J1]
      have e2 : (s[i].toNat : Int) = ((fb s[i]).toNat : Int) := by rw [fb_id h]
      rw [e2, toBytes_set, foldAt_set hi, wrap_next hi (by omega)]
      exact ih
theorem sFold_loop (s : List UInt8) (hs : s.length ≤ 1073741824) : ∀ i, i ≤ s.length → sFold_L0 (i : Nat) (toBytes (foldAt s i)) = some (s.map fb) := by
  refine back_ind ?_ ?_
  · rw [sFold_L0]
    simp only [toBytes_len, foldAt_len, lt_dec, Nat.lt_irrefl, decide_false, Bool.false_eq_true, if_false]
    rw [sFold_J2, foldAt_all]
    simp [ofBytes_toBytes]
  · intro i hi ih
    rw [sFold_L0]
    simp only [toBytes_len, foldAt_len, lt_dec, hi, decide_true, if_true, idx_toBytes (foldAt_get hi), Option.bind_eq_bind, Option.bind_some, Int.toNat_natCast]
    have hb := s[i].toNat_lt
    by_cases h : 97 ≤ s[i].toNat ∧ s[i].toNat ≤ 122
    · have e : IntKind.wrap .u8 ((s[i].toNat : Int) - 32) = ((fb s[i]).toNat : Int) := by
        rw [fb_up h, wrap_u8 (by omega) (by omega)]
      rw [if_pos (by simp; omega), sFold_J1, e, toBytes_set, foldAt_set hi, wrap_next hi (by omega)]
      exact ih
    · rw [if_neg (by simp; omega), sFold_J1]
      have e2 : (s[i].toNat : Int) = ((fb s[i]).toNat : Int) := by rw [fb_id h]
      rw [e2, toBytes_set, foldAt_set hi, wrap_next hi (by omega)]
      exact ih
theorem iFold_ok (s : List UInt8) (hs : s.length ≤ 1073741824) : iFold s = some (s.map fb) := by
  unfold iFold
  have := iFold_loop s hs 0 (Nat.zero_le _)
  simpa [foldAt] using this
theorem sFold_ok (s : List UInt8) (hs : s.length ≤ 1073741824) : sFold s = some (s.map fb) := by
  unfold sFold
  have := sFold_loop s hs 0 (Nat.zero_le _)
  simpa [foldAt] using this
/-- what digits spell -/
def valF (acc : Nat) (l : List UInt8) : Nat := l.foldl (fun a c => a * 10 + (c.toNat - 48)) acc
theorem valF_nil (acc : Nat) : valF acc [] = acc := rfl
theorem valF_cons (acc : Nat) (c : UInt8) (r : List UInt8) : valF acc (c :: r) = valF (acc * 10 + (c.toNat - 48)) r := by unfold valF; rw [List.foldl_cons]
def digP (l : List UInt8) : Prop := ∀ c ∈ l, 48 ≤ c.toNat ∧ c.toNat ≤ 57
theorem valF_ge (l : List UInt8) : ∀ acc : Nat, acc ≤ valF acc l := by
  induction l with
  | nil => intro acc; rw [valF_nil]; exact Nat.le_refl _
  | cons c r ih =>
    intro acc
    have := ih (acc * 10 + (c.toNat - 48))
    rw [valF_cons]; omega
theorem valF_append (l m : List UInt8) (acc : Nat) : valF acc (l ++ m) = valF (valF acc l) m := List.foldl_append
theorem decDigits_dig (u : Nat) : digP (Lib.decDigits u) ∧ valF 0 (Lib.decDigits u) = u := by
  induction u using Nat.strongRecOn with
  | ind u ih =>
    rw [Lib.decDigits]
    have hb : ∀ d, d < 10 → (UInt8.ofNat (48 + d)).toNat = 48 + d := fun d hd => by
      rw [UInt8.toNat_ofNat']; omega
    by_cases h : u < 10
    · rw [dif_pos h]
      refine ⟨fun c hc => ?_, ?_⟩
      · rw [List.mem_singleton] at hc
        subst hc; rw [hb u h]; omega
      · rw [valF_cons, valF_nil, hb u h]; omega
    · rw [dif_neg h]
      obtain ⟨h1, h2⟩ := ih (u / 10) (by omega)
      have hm : u % 10 < 10 := Nat.mod_lt _ (by omega)
      refine ⟨fun c hc => ?_, ?_⟩
      · rcases List.mem_append.1 hc with h3 | h3
        · exact h1 c h3
        · rw [List.mem_singleton] at h3
          subst h3; rw [hb _ hm]; omega
      · rw [valF_append, h2]
        rw [valF_cons, valF_nil, hb _ hm]; omega
theorem parseUint10_val : ∀ (l : List UInt8) (acc : Nat), digP l → valF acc l ≤ 9223372036854775807 → Lib.parseUint10 acc l = .ok (valF acc l)
  | [], acc, _, _ => rfl
  | c :: r, acc, hd, hv => by
    have hc := hd c List.mem_cons_self
    have hg := valF_ge r (acc * 10 + (c.toNat - 48))
    rw [valF_cons] at hv ⊢
    rw [Lib.parseUint10, if_pos hc, if_neg (by omega), if_neg (by omega)]
    exact parseUint10_val r _ (fun x hx => hd x (List.mem_cons_of_mem _ hx)) hv
theorem decDigits_ne (u : Nat) : Lib.decDigits u ≠ [] := fun h => by
  have := Lib.decDigits_length u
  rw [h] at this
  have := Lib.nDigits_pos u
  simp at *
  omega
theorem atoiAll_itoa (n : Nat) (hn : n ≤ 9223372036854775807) : Lib.atoiAll (Lib.itoa (n : Int)) = .ok (n : Int) := by
  rw [Lib.itoa_nonneg]
  obtain ⟨h1, h2⟩ := decDigits_dig n
  have hne := decDigits_ne n
  generalize hl : Lib.decDigits n = l at *
  cases l with
  | nil => exact absurd rfl hne
  | cons c r =>
    have hc := h1 c List.mem_cons_self
    have hp := parseUint10_val (c :: r) 0 h1 (by omega)
    rw [Lib.atoiAll_plain c r (by omega) (by omega)]
    unfold Lib.parseMag
    rw [if_neg (by simp), hp, h2]
    unfold Lib.signless
    simp only
    rw [if_neg (by omega)]
/-- the library's way: the number whose numeral the text is, if there is one -/
theorem numG_of (s : List UInt8) (m : Nat) (hm : m ≤ 9223372036854775807) (h : Lib.itoa (m : Int) = s) : numG s = ((m : Int), true) := by
  unfold numG
  rw [← h, atoiAll_itoa m hm]
  simp only
  rw [if_neg (by omega), if_pos trivial]
theorem numG_none (s : List UInt8) (h : ∀ m : Nat, m ≤ 9223372036854775807 → Lib.itoa (m : Int) ≠ s) : numG s = (0, false) := by
  unfold numG
  split
  · rename_i n hn
    have hb := Lib.atoiAll_bounds hn
    by_cases h0 : n < 0
    · rw [if_pos h0]
    · rw [if_neg h0]
      obtain ⟨m, rfl⟩ : ∃ m : Nat, n = m := ⟨n.toNat, by omega⟩
      rw [if_neg (h m (by omega))]
  · rfl
theorem nDigits_lt : ∀ (k u : Nat), u < 10 ^ (k + 1) → Lib.nDigits u ≤ k + 1
  | 0, u, h => by rw [Lib.nDigits_small (by simpa using h)]; omega
  | k + 1, u, h => by
    by_cases h1 : u < 10
    · rw [Lib.nDigits_small h1]; omega
    · rw [Lib.nDigits_big h1]
      have := nDigits_lt k (u / 10) (by rw [Nat.pow_succ] at h; omega)
      omega
theorem idxS_at {s : List UInt8} {i : Nat} (h : i < s.length) : idxS s (i : Int) = some (s[i].toNat : Int) := by simp [idxS, h]
theorem sNumber_loop (s : List UInt8) (hs : s.length ≤ 19) : ∀ i, i ≤ s.length → ∀ n : Nat, n ≤ 9223372036854775807 →
    ∃ r, sNumber_L0 s (n : Int) (i : Nat) = some r ∧ (r = (0, false) ∨ ∃ m : Nat, m ≤ 9223372036854775807 ∧ Lib.itoa (m : Int) = s ∧ r = ((m : Int), true)) ∧
      (digP (s.drop i) → valF n (s.drop i) ≤ 9223372036854775807 → Lib.itoa (valF n (s.drop i) : Int) = s → r = ((valF n (s.drop i) : Int), true)) := by
  refine back_ind ?_ ?_
  · intro n hn
    rw [sNumber_L0]
    simp only [lt_dec, Nat.lt_irrefl, decide_false, Bool.false_eq_true, if_false, List.drop_length, valF_nil, Option.bind_eq_bind]
    rw [sDigits_itoa n (by omega) (by omega), Option.bind_some]
    by_cases h : Lib.itoa (n : Int) = s
    · rw [if_neg (by simp [h])]
      exact ⟨_, rfl, .inr ⟨n, hn, h, rfl⟩, fun _ _ _ => rfl⟩
    · rw [if_pos (by simp [h])]
      exact ⟨_, rfl, .inl rfl, fun _ _ h2 => absurd h2 h⟩
  · intro i hi ih n hn
    rw [sNumber_L0]
    have hb := s[i].toNat_lt
    simp only [lt_dec, hi, decide_true, if_true, idxS_at hi, Option.bind_eq_bind, Option.bind_some]
    have hdrop : s.drop i = s[i] :: s.drop (i + 1) := List.drop_eq_getElem_cons hi
    by_cases hd : 48 ≤ s[i].toNat ∧ s[i].toNat ≤ 57
    · obtain ⟨d, hd1⟩ : ∃ d, s[i].toNat = d + 48 := ⟨s[i].toNat - 48, by omega⟩
      have c1 : decide ((s[i].toNat : Int) < 48) = false := by simp; omega
      have c2 : decide (57 < (s[i].toNat : Int)) = false := by simp; omega
      simp only [c1, c2, Bool.and_self, Bool.true_and, beq_self_eq_true, if_true, Option.bind_some, Bool.false_eq_true, if_false]
      have e1 : IntKind.wrap .i64 (IntKind.wrap .i64 (s[i].toNat : Int) - 48) = (d : Int) := by
        rw [wrap_ok (n := (s[i].toNat : Int)) (by omega) (by omega), wrap_ok (by omega) (by omega)]; omega
      have e2 : IntKind.wrap .i64 (9223372036854775807 - (d : Int)) = ((9223372036854775807 - d : Nat) : Int) := by rw [wrap_ok (by omega) (by omega)]; omega
      have e3 : IntKind.wrap .i64 (Int.tdiv ((9223372036854775807 - d : Nat) : Int) 10) = (((9223372036854775807 - d) / 10 : Nat) : Int) := by
        have : Int.tdiv ((9223372036854775807 - d : Nat) : Int) 10 = (((9223372036854775807 - d) / 10 : Nat) : Int) := by simp [Int.tdiv]
        rw [this, wrap_ok (by omega) (by omega)]
      rw [e1, e2, e3]
      have hv : valF n (s.drop i) = valF (n * 10 + d) (s.drop (i + 1)) := by rw [hdrop, valF_cons, hd1]; simp
      by_cases ho : (9223372036854775807 - d) / 10 < n
      · rw [if_pos (decide_eq_true (by omega))]
        refine ⟨_, rfl, .inl rfl, fun _ h2 _ => ?_⟩
        have := valF_ge (s.drop (i + 1)) (n * 10 + d)
        omega
      · rw [if_neg (by rw [decide_eq_true_eq]; omega)]
        have e4 : IntKind.wrap .i64 (10 * (n : Int)) = ((10 * n : Nat) : Int) := by rw [wrap_ok (by omega) (by omega)]; omega
        have e5 : IntKind.wrap .i64 (((10 * n : Nat) : Int) + (d : Int)) = ((n * 10 + d : Nat) : Int) := by rw [wrap_ok (by omega) (by omega)]; omega
        rw [e4, e5, wrap_next hi (by omega), hv]
        obtain ⟨r, r1, r2, r3⟩ := ih (n * 10 + d) (by omega)
        refine ⟨r, r1, r2, fun h1 => r3 fun c hc => h1 c ?_⟩
        rw [hdrop]; exact List.mem_cons_of_mem _ hc
    · have hno : ¬ digP (s.drop i) := fun h => hd (h _ (by rw [hdrop]; exact List.mem_cons_self))
      refine ⟨(0, false), ?_, .inl rfl, fun h1 => absurd h1 hno⟩
      by_cases h1 : s[i].toNat < 48
      · have c1 : decide ((s[i].toNat : Int) < 48) = true := by simp; omega
        simp [c1]
      · have c1 : decide ((s[i].toNat : Int) < 48) = false := by simp; omega
        have c2 : decide (57 < (s[i].toNat : Int)) = true := by simp; omega
        simp only [c1, c2, Bool.and_self, Bool.true_and, beq_self_eq_true, if_true, Option.bind_some, Bool.false_eq_true, if_false]
/-- both ways to read a number -/
theorem sNumber_ok (s : List UInt8) : sNumber s = some (numG s) := by
  by_cases hm : ∃ m : Nat, m ≤ 9223372036854775807 ∧ Lib.itoa (m : Int) = s
  · obtain ⟨m, hm, rfl⟩ := hm
    rw [numG_of _ m hm rfl, Lib.itoa_nonneg]
    obtain ⟨d1, d2⟩ := decDigits_dig m
    have hl : Lib.nDigits m ≤ 19 := nDigits_lt 18 m (by omega)
    have hp := Lib.nDigits_pos m
    have hlen := Lib.decDigits_length m
    unfold sNumber
    simp only [Option.bind_eq_bind, Option.bind_some]
    have c1 : decide (((Lib.decDigits m).length : Int) < 1) = false := by simp; omega
    have c2 : decide (19 < ((Lib.decDigits m).length : Int)) = false := by simp; omega
    rw [c1, c2]
    simp only [Bool.false_eq_true, if_false]
    obtain ⟨r, r1, _, r3⟩ := sNumber_loop (Lib.decDigits m) (by omega) 0 (Nat.zero_le _) 0 (by omega)
    rw [List.drop_zero] at r3
    have := r3 d1 (by omega) (by rw [d2, Lib.itoa_nonneg])
    rw [d2] at this
    subst this
    exact r1
  · have hno : ∀ m : Nat, m ≤ 9223372036854775807 → Lib.itoa (m : Int) ≠ s := fun m h e => hm ⟨m, h, e⟩
    rw [numG_none s hno]
    unfold sNumber
    simp only [Option.bind_eq_bind, Option.bind_some]
    by_cases c : 1 ≤ s.length ∧ s.length ≤ 19
    · have c1 : decide ((s.length : Int) < 1) = false := by simp; omega
      have c2 : decide (19 < (s.length : Int)) = false := by simp; omega
      rw [c1, c2]
      simp only [Bool.false_eq_true, if_false]
      obtain ⟨r, r1, r2, _⟩ := sNumber_loop s c.2 0 (Nat.zero_le _) 0 (by omega)
      rcases r2 with rfl | ⟨m, h1, h2, _⟩
      · exact r1
      · exact absurd h2 (hno m h1)
    · have : (if decide ((s.length : Int) < 1) = true then true else decide (19 < (s.length : Int))) = true := by
        by_cases h : s.length < 1
        · simp; omega
        · simp; omega
      rw [this]; rfl
def words : List (List UInt8) := [[83, 69, 76, 69, 67, 84], [68, 73, 83, 84, 73, 78, 67, 84], [70, 82, 79, 77], [74, 79, 73, 78], [79, 78], [87, 72, 69, 82, 69], [79, 82, 68, 69, 82], [66, 89], [65, 83, 67], [68, 69, 83, 67], [76, 73, 77, 73, 84], [65, 83], [65, 78, 68], [79, 82], [78, 79, 84], [73, 83], [73, 78], [66, 69, 84, 87, 69, 69, 78], [69, 88, 73, 83, 84, 83], [78, 85, 76, 76], [84, 82, 85, 69], [70, 65, 76, 83, 69], [73, 78, 83, 69, 82, 84], [73, 78, 84, 79], [86, 65, 76, 85, 69, 83], [85, 80, 68, 65, 84, 69], [83, 69, 84], [68, 69, 76, 69, 84, 69]]
theorem iKeywords_ok : iKeywords = some words := by decide +kernel
theorem sL2Words_ok : sL2Words = some ([] :: words) := rfl
theorem words_len : words.length = 28 := rfl
theorem words_short : ∀ w ∈ words, w.length ≤ 8 := by decide
/-- where the word stands: one more than its place, or 0 -/
theorem key_loop (f : List UInt8) : ∀ i, i ≤ 28 → ∃ k : Int, gSlices_Index_Sstring_string_L0 words f (i : Nat) = some k ∧ -1 ≤ k ∧ k ≤ 27 ∧ sKeyOf_L0 f ([] :: words) ((i + 1 : Nat) : Int) = some (k + 1) ∧ (8 < f.length → k = -1) := by
  refine back_ind ?_ ?_
  · refine ⟨-1, ?_, by omega, by omega, ?_, fun _ => rfl⟩
    · rw [gSlices_Index_Sstring_string_L0]; rfl
    · rw [sKeyOf_L0]; rfl
  · intro i hi ih
    obtain ⟨k, h1, h2, h3, h4, h5⟩ := ih
    have hi' : i < words.length := hi
    have hi2 : i + 1 < ([] :: words : List (List UInt8)).length := by simp only [List.length_cons, words_len]; omega
    rw [gSlices_Index_Sstring_string_L0, sKeyOf_L0]
    simp only [lt_dec, hi', hi2, decide_true, if_true, idx_lt hi', idx_lt hi2, Option.bind_eq_bind, Option.bind_some, List.getElem_cons_succ]
    by_cases he : f = words[i]
    · subst he
      rw [if_pos (by simp), if_pos (by simp)]
      refine ⟨i, rfl, by omega, by omega, rfl, fun h => ?_⟩
      have := words_short _ (List.getElem_mem hi')
      omega
    · rw [if_neg (by simpa using he), if_neg (by simpa using fun e => he e.symm), wrap_next hi' (by rw [words_len]; omega), wrap_ok (by omega) (by omega)]
      exact ⟨k, h1, h2, h3, h4, h5⟩
theorem keyOf_eq (s : List UInt8) (hs : s.length ≤ 1073741824) : ∃ k : Int, iKeyOf s = some k ∧ sKeyOf s = some k ∧ 0 ≤ k ∧ k ≤ 28 ∧ (8 < s.length → k = 0) := by
  obtain ⟨k, h1, h2, h3, h4, h5⟩ := key_loop (s.map fb) 0 (by omega)
  have hi : iKeyOf s = some (k + 1) := by
    unfold iKeyOf gSlices_Index_Sstring_string
    rw [iKeywords_ok, iFold_ok s hs]
    have h1' : gSlices_Index_Sstring_string_L0 words (s.map fb) 0 = some k := h1
    simp only [Option.bind_eq_bind, Option.bind_some, h1']
    rw [wrap_ok (by omega) (by omega)]
  refine ⟨k + 1, hi, ?_, by omega, by omega, fun h => by rw [h5 (by simpa using h)]; rfl⟩
  unfold sKeyOf
  by_cases h8 : 8 < s.length
  · rw [if_pos (decide_eq_true (by omega)), h5 (by simpa using h8)]; rfl
  · rw [if_neg (by rw [decide_eq_true_eq]; omega), sFold_ok s hs, sL2Words_ok]
    simp only [Option.bind_eq_bind, Option.bind_some]
    exact h4
theorem nameOk_eqT (s : List UInt8) : iNameOk s = sNameOk s ∧ ∃ b, sNameOk s = some b ∧ (b = true ↔ 1 ≤ s.length ∧ s.length ≤ 20) := by
  unfold iNameOk sNameOk sL1In
  simp only [Option.bind_eq_bind, Option.bind_some]
  refine ⟨by simp, _, rfl, ?_⟩
  by_cases h1 : (1 : Int) ≤ (s.length : Int)
  · simp [h1]; omega
  · simp [h1]; omega
def signsL : List (List UInt8) := [[40], [41], [44], [46], [42], [43], [45], [47], [37], [61], [60, 62], [60], [60, 61], [62], [62, 61], [124, 124]]
theorem index_loop (l : List (List UInt8)) (p : List UInt8) (hl : l.length ≤ 1048576) : ∀ i, i ≤ l.length → ∃ k : Int, gSlices_Index_Sstring_string_L0 l p (i : Nat) = some k ∧ (0 ≤ k ↔ p ∈ l.drop i) := by
  refine back_ind ?_ ?_
  · rw [gSlices_Index_Sstring_string_L0]
    exact ⟨-1, by simp, by simp⟩
  · intro i hi ih
    obtain ⟨k, h1, h2⟩ := ih
    rw [gSlices_Index_Sstring_string_L0, List.drop_eq_getElem_cons hi]
    simp only [lt_dec, hi, decide_true, if_true, idx_lt hi, Option.bind_eq_bind, Option.bind_some, wrap_next hi (by omega), List.mem_cons]
    by_cases he : p = l[i]
    · rw [if_pos (by simpa using he)]
      exact ⟨i, rfl, fun _ => .inl he, fun _ => by omega⟩
    · rw [if_neg (by simpa using he)]
      exact ⟨k, h1, h2.trans ⟨.inr, fun h => h.resolve_left he⟩⟩
theorem iSignOk_ok (p : List UInt8) : iSignOk p = some (decide (p ∈ signsL)) := by
  obtain ⟨k, h1, h2⟩ := index_loop signsL p (by decide) 0 (Nat.zero_le _)
  have h1' : gSlices_Index_Sstring_string_L0 signsL p 0 = some k := h1
  have e : iSigns = some signsL := rfl
  unfold iSignOk gSlices_Contains_Sstring_string gSlices_Index_Sstring_string
  rw [e]
  simp only [Option.bind_eq_bind, Option.bind_some, h1']
  rw [List.drop_zero] at h2
  rw [Option.some.injEq]
  exact decide_eq_decide.2 h2
theorem sSignOk_ok (p : List UInt8) : sSignOk p = some (decide (p ∈ signsL)) := by
  by_cases h1 : p = [40]
  · subst h1; rfl
  by_cases h2 : p = [41]
  · subst h2; rfl
  by_cases h3 : p = [44]
  · subst h3; rfl
  by_cases h4 : p = [46]
  · subst h4; rfl
  by_cases h5 : p = [42]
  · subst h5; rfl
  by_cases h6 : p = [43]
  · subst h6; rfl
  by_cases h7 : p = [45]
  · subst h7; rfl
  by_cases h8 : p = [47]
  · subst h8; rfl
  by_cases h9 : p = [37]
  · subst h9; rfl
  by_cases h10 : p = [61]
  · subst h10; rfl
  by_cases h11 : p = [60, 62]
  · subst h11; rfl
  by_cases h12 : p = [60]
  · subst h12; rfl
  by_cases h13 : p = [60, 61]
  · subst h13; rfl
  by_cases h14 : p = [62]
  · subst h14; rfl
  by_cases h15 : p = [62, 61]
  · subst h15; rfl
  have hm : p ∈ signsL ↔ p = [124, 124] := by
    constructor
    · intro h
      rcases List.mem_cons.1 h with h | h
      · exact absurd h h1
      rcases List.mem_cons.1 h with h | h
      · exact absurd h h2
      rcases List.mem_cons.1 h with h | h
      · exact absurd h h3
      rcases List.mem_cons.1 h with h | h
      · exact absurd h h4
      rcases List.mem_cons.1 h with h | h
      · exact absurd h h5
      rcases List.mem_cons.1 h with h | h
      · exact absurd h h6
      rcases List.mem_cons.1 h with h | h
      · exact absurd h h7
      rcases List.mem_cons.1 h with h | h
      · exact absurd h h8
      rcases List.mem_cons.1 h with h | h
      · exact absurd h h9
      rcases List.mem_cons.1 h with h | h
      · exact absurd h h10
      rcases List.mem_cons.1 h with h | h
      · exact absurd h h11
      rcases List.mem_cons.1 h with h | h
      · exact absurd h h12
      rcases List.mem_cons.1 h with h | h
      · exact absurd h h13
      rcases List.mem_cons.1 h with h | h
      · exact absurd h h14
      rcases List.mem_cons.1 h with h | h
      · exact absurd h h15
      exact List.mem_singleton.1 h
    · intro h; rw [h]; decide
  rw [decide_eq_decide.2 hm]
  unfold sSignOk
  rw [if_neg (by rw [decide_eq_true_eq]; exact h1), if_neg (by rw [decide_eq_true_eq]; exact h2), if_neg (by rw [decide_eq_true_eq]; exact h3), if_neg (by rw [decide_eq_true_eq]; exact h4), if_neg (by rw [decide_eq_true_eq]; exact h5), if_neg (by rw [decide_eq_true_eq]; exact h6), if_neg (by rw [decide_eq_true_eq]; exact h7), if_neg (by rw [decide_eq_true_eq]; exact h8), if_neg (by rw [decide_eq_true_eq]; exact h9), if_neg (by rw [decide_eq_true_eq]; exact h10), if_neg (by rw [decide_eq_true_eq]; exact h11), if_neg (by rw [decide_eq_true_eq]; exact h12), if_neg (by rw [decide_eq_true_eq]; exact h13), if_neg (by rw [decide_eq_true_eq]; exact h14), if_neg (by rw [decide_eq_true_eq]; exact h15)]
  unfold sSignOk_J0
  cases decide (p = [124, 124]) <;> rfl
def okT (x : GToken) : Bool := (sTokenOk x).getD false
theorem tokenOk_eq (x : GToken) (hx : x.text.length ≤ 1048576) : iTokenOk x = some (okT x) ∧ sTokenOk x = some (okT x) := by
  suffices h : ∃ b, iTokenOk x = some b ∧ sTokenOk x = some b by
    obtain ⟨b, h1, h2⟩ := h
    have : okT x = b := by simp [okT, h2]
    rw [this]; exact ⟨h1, h2⟩
  unfold iTokenOk sTokenOk
  by_cases k1 : x.kind = 1
  · obtain ⟨k, e1, e2, e3, _, _⟩ := keyOf_eq x.text (by omega)
    simp only [k1, decide_true, if_true, e1, e2, iFold_ok x.text (by omega), sFold_ok x.text (by omega), Option.bind_eq_bind, Option.bind_some]
    by_cases hk : k = 0
    · exact ⟨false, by simp [hk], by simp [hk]⟩
    · have : 0 < k := by omega
      exact ⟨decide (x.text.map fb = x.text), by simp [hk], by simp [this]⟩
  by_cases k2 : x.kind = 2
  · obtain ⟨n1, nb, n2, _⟩ := nameOk_eqT x.text
    exact ⟨nb, by simp [k2, n1, n2], by simp [k2, n2]⟩
  by_cases k3 : x.kind = 3
  · have hn : iNumber x.text = some (numG x.text) := by unfold iNumber numO; rw [if_pos (by omega)]
    exact ⟨(numG x.text).2, by simp [k3, hn], by simp [k3, sNumber_ok]⟩
  by_cases k4 : x.kind = 4
  · exact ⟨decide ((x.text.length : Int) ≤ 40), by simp [k4], by simp [k4]⟩
  by_cases k5 : x.kind = 5
  · exact ⟨decide (x.text ∈ signsL), by simp [k5, iSignOk_ok], by simp [k5, sSignOk_ok]⟩
  · exact ⟨false, by simp [k1, k2, k3, k4, k5], by simp [k1, k2, k3, k4, k5]⟩
theorem appG_ok {α : Type} {b : Nat} {l m : List α} (h : (l.length + m.length) * b ≤ 140737488355328) : appG b l m = some (l ++ m) := by unfold appG; rw [if_pos h]
/-- A loop that gathers. -/
theorem gather {α β γ : Type} {p : List α} {f : α → List β} {G : α → List β → Option (List β)} {L : List β → Int → Option γ} {K : List β → Option γ} {c : Nat} (hp : p.length ≤ 4194304)
    (hG : ∀ y ∈ p, ∀ acc : List β, acc.length + (f y).length ≤ c → G y acc = some (acc ++ f y))
    (hL : ∀ (i : Nat) acc, L acc (i : Int) = if (decide ((i : Int) < (p.length : Int))) = true then ((idx p (i : Int)) >>= fun y => (G y acc) >>= fun z => L z (IntKind.wrap .i64 ((i : Int) + 1))) else K acc) :
    ∀ acc : List β, acc.length + (p.flatMap f).length ≤ c → L acc 0 = K (acc ++ p.flatMap f) := by
  have key : ∀ i, i ≤ p.length → ∀ acc : List β, acc.length + ((p.drop i).flatMap f).length ≤ c → L acc (i : Nat) = K (acc ++ (p.drop i).flatMap f) := by
    refine back_ind ?_ ?_
    · intro acc _
      rw [hL]; simp
    · intro i hi ih acc ha
      rw [List.drop_eq_getElem_cons hi, List.flatMap_cons, List.length_append] at ha
      rw [hL, idx_lt hi, wrap_next hi (by omega)]
      simp only [lt_dec, hi, decide_true, if_true, Option.bind_eq_bind, Option.bind_some, hG _ (List.getElem_mem hi) acc (by omega)]
      rw [ih _ (by rw [List.length_append]; omega), List.drop_eq_getElem_cons hi, List.flatMap_cons, List.append_assoc]
  intro acc ha
  simpa using key 0 (by omega) acc (by simpa using ha)
/-- A loop that folds. -/
theorem folded {α β γ : Type} {p : List α} {g : α → β → Option β} {h : α → β → β} {L : β → Int → Option γ} {K : β → Option γ} (hp : p.length ≤ 1048576)
    (hg : ∀ y ∈ p, ∀ b, g y b = some (h y b))
    (hL : ∀ (i : Nat) b, L b (i : Int) = if (decide ((i : Int) < (p.length : Int))) = true then ((idx p (i : Int)) >>= fun y => (g y b) >>= fun z => L z (IntKind.wrap .i64 ((i : Int) + 1))) else K b) :
    ∀ b, L b 0 = K (p.foldl (fun b y => h y b) b) := by
  have key : ∀ i, i ≤ p.length → ∀ b, L b (i : Nat) = K ((p.drop i).foldl (fun b y => h y b) b) := by
    refine back_ind ?_ ?_
    · intro b; rw [hL]; simp
    · intro i hi ih b
      rw [hL, idx_lt hi, wrap_next hi (by omega)]
      simp only [lt_dec, hi, decide_true, if_true, Option.bind_eq_bind, Option.bind_some, hg _ (List.getElem_mem hi)]
      rw [ih, List.drop_eq_getElem_cons hi, List.foldl_cons]
  intro b
  simpa using key 0 (by omega) b

/-! parA -/
/-- where a reader of tokens stands: the place, whether it failed -/
structure Ps where
  at_ : Nat
  f : Bool
abbrev PI (T : List GToken) (s : Ps) : GParser := GParser.mk T (s.at_ : Int) s.f
abbrev PR (T : List GToken) (s : Ps) : GL12In := GL12In.mk T (s.at_ : Int) s.f
def adv (s : Ps) : Ps := ⟨s.at_ + 1, s.f⟩
def bad (s : Ps) : Ps := ⟨s.at_, true⟩
/-- does the token that comes next meet the test? -/
def cur (T : List GToken) (c : GToken → Bool) (s : Ps) : Bool := !s.f && (match T[s.at_]? with | some t => c t | none => false)
def tk (T : List GToken) (c : GToken → Bool) (s : Ps) : Ps := if cur T c s = true then adv s else s
def mu (T : List GToken) (c : GToken → Bool) (s : Ps) : Ps := if cur T c s = true then adv s else bad s
def isT (k : Int) (w : List UInt8) (t : GToken) : Bool := decide (t.kind = k) && decide (t.text = w)
abbrev keyT (w : List UInt8) : GToken → Bool := isT 1 w
abbrev signT (w : List UInt8) : GToken → Bool := isT 5 w
def kindT (k : Int) (t : GToken) : Bool := decide (t.kind = k) && okT t
def Tok (T : List GToken) : Prop := T.length ≤ 1048576 ∧ ∀ t ∈ T, t.text.length ≤ 1048576
def In (T : List GToken) (s : Ps) : Prop := s.at_ ≤ T.length
theorem cur_f {T : List GToken} {c : GToken → Bool} {s : Ps} (h : s.f = true) : cur T c s = false := by unfold cur; rw [h]; rfl
theorem cur_end {T : List GToken} {c : GToken → Bool} {s : Ps} (h : T.length ≤ s.at_) : cur T c s = false := by
  unfold cur; rw [List.getElem?_eq_none h]; simp
theorem cur_lt {T : List GToken} {c : GToken → Bool} {s : Ps} (h : cur T c s = true) : s.at_ < T.length ∧ s.f = false := by
  by_cases h0 : s.at_ < T.length
  · refine ⟨h0, ?_⟩
    cases hf : s.f with
    | false => rfl
    | true => rw [cur_f hf] at h; exact absurd h (by simp)
  · rw [cur_end (by omega)] at h; exact absurd h (by simp)
theorem cur_at {T : List GToken} {c : GToken → Bool} {s : Ps} (h : s.at_ < T.length) (hf : s.f = false) : cur T c s = c T[s.at_] := by
  unfold cur; rw [hf, List.getElem?_eq_getElem h]; rfl
variable {T : List GToken}
/-! the program's -/
theorem is_ok (hT : Tok T) {s : Ps} (h : In T s) (d : Nat) (hd : d ≤ 10) (k : Int) (w : List UInt8) : iParser_is (PI T s) d k w = some (cur T (isT k w) ⟨s.at_ + d, s.f⟩) := by
  unfold iParser_is
  have h1 := hT.1
  have h2 : s.at_ ≤ T.length := h
  have e : IntKind.wrap .i64 ((s.at_ : Int) + (d : Int)) = ((s.at_ + d : Nat) : Int) := by rw [wrap_ok (by omega) (by omega)]; omega
  simp only [e, lt_dec, Option.bind_eq_bind, Option.bind_some]
  cases hf : s.f with
  | true => rw [cur_f (s := ⟨s.at_ + d, true⟩) rfl]; simp
  | false =>
    by_cases hl : s.at_ + d < T.length
    · rw [cur_at (s := ⟨s.at_ + d, false⟩) hl rfl, idx_lt hl]
      unfold isT
      by_cases hk : T[s.at_ + d].kind = k
      · simp [hl, hk]
      · simp [hl, hk]
    · rw [cur_end (by dsimp only; omega)]
      simp [hl]
theorem isKey_ok (hT : Tok T) {s : Ps} (h : In T s) (w : List UInt8) : iParser_isKey (PI T s) w = some (cur T (keyT w) s) := by
  unfold iParser_isKey
  rw [show (0 : Int) = ((0 : Nat) : Int) from rfl, is_ok hT h 0 (by omega)]; rfl
theorem isSign_ok (hT : Tok T) {s : Ps} (h : In T s) (w : List UInt8) : iParser_isSign (PI T s) w = some (cur T (signT w) s) := by
  unfold iParser_isSign
  rw [show (0 : Int) = ((0 : Nat) : Int) from rfl, is_ok hT h 0 (by omega)]; rfl
theorem wrapA (hT : Tok T) {s : Ps} (h : s.at_ < T.length) : IntKind.wrap .i64 ((s.at_ : Int) + 1) = ((s.at_ + 1 : Nat) : Int) := by
  have h1 := hT.1
  rw [wrap_ok (by omega) (by omega)]; omega
theorem takeKey_ok (hT : Tok T) {s : Ps} (h : In T s) (w : List UInt8) : iParser_takeKey (PI T s) w = some (cur T (keyT w) s, PI T (tk T (keyT w) s)) := by
  unfold iParser_takeKey iParser_takeKey_J0 tk
  rw [isKey_ok hT h]
  simp only [Option.bind_eq_bind, Option.bind_some]
  cases hc : cur T (keyT w) s with
  | true => simp only [if_true]; rw [wrapA hT (cur_lt hc).1]; rfl
  | false => rfl
theorem takeSign_ok (hT : Tok T) {s : Ps} (h : In T s) (w : List UInt8) : iParser_takeSign (PI T s) w = some (cur T (signT w) s, PI T (tk T (signT w) s)) := by
  unfold iParser_takeSign iParser_takeSign_J0 tk
  rw [isSign_ok hT h]
  simp only [Option.bind_eq_bind, Option.bind_some]
  cases hc : cur T (signT w) s with
  | true => simp only [if_true]; rw [wrapA hT (cur_lt hc).1]; rfl
  | false => rfl
theorem mustKey_ok (hT : Tok T) {s : Ps} (h : In T s) (w : List UInt8) : iParser_mustKey (PI T s) w = some (PI T (mu T (keyT w) s)) := by
  unfold iParser_mustKey mu
  rw [takeKey_ok hT h]
  unfold tk
  cases hc : cur T (keyT w) s <;> rfl
theorem mustSign_ok (hT : Tok T) {s : Ps} (h : In T s) (w : List UInt8) : iParser_mustSign (PI T s) w = some (PI T (mu T (signT w) s)) := by
  unfold iParser_mustSign mu
  rw [takeSign_ok hT h]
  unfold tk
  cases hc : cur T (signT w) s <;> rfl
theorem isKind_ok (hT : Tok T) {s : Ps} (h : In T s) (k : Int) : iParser_isKind (PI T s) k = some (cur T (kindT k) s) := by
  unfold iParser_isKind
  cases hf : s.f with
  | true => rw [cur_f hf]; simp [hf]
  | false =>
    simp only [lt_dec, Option.bind_eq_bind, Option.bind_some]
    by_cases hl : s.at_ < T.length
    · obtain ⟨o1, _⟩ := tokenOk_eq T[s.at_] (hT.2 _ (List.getElem_mem hl))
      rw [cur_at hl hf, idx_lt hl]
      unfold kindT
      by_cases hk : T[s.at_].kind = k
      · simp [hf, hl, hk, o1]
      · simp [hf, hl, hk]
    · rw [cur_end (by omega)]
      simp [hf, hl]
theorem mustKind_ok (hT : Tok T) {s : Ps} (h : In T s) (k : Int) : ∃ x, iParser_mustKind (PI T s) k = some (x, PI T (mu T (kindT k) s)) ∧ x.length ≤ 1048576 := by
  unfold iParser_mustKind mu
  rw [isKind_ok hT h]
  simp only [Option.bind_eq_bind, Option.bind_some]
  cases hc : cur T (kindT k) s with
  | false => exact ⟨[], rfl, by simp⟩
  | true =>
    have hl := (cur_lt hc).1
    have h1 := hT.1
    have e : IntKind.wrap .i64 ((s.at_ : Int) + 1 - 1) = ((s.at_ : Nat) : Int) := by rw [wrap_ok (by omega) (by omega)]; omega
    simp only [Bool.not_true, Bool.false_eq_true, if_false, if_true]
    rw [wrapA hT hl]
    rw [show IntKind.wrap .i64 (((s.at_ + 1 : Nat) : Int) - 1) = ((s.at_ : Nat) : Int) by rw [wrap_ok (by omega) (by omega)]; omega, idx_lt hl]
    exact ⟨_, rfl, hT.2 _ (List.getElem_mem hl)⟩
theorem mustNumber_ok (hT : Tok T) {s : Ps} (h : In T s) : ∃ x, iParser_mustNumber (PI T s) = some (x, PI T (mu T (kindT 3) s)) := by
  unfold iParser_mustNumber
  obtain ⟨x, e, hx⟩ := mustKind_ok hT h 3
  have hv : iNumber x = some (numG x) := by unfold iNumber numO; rw [if_pos (by omega)]
  rw [e]
  simp only [Option.bind_eq_bind, Option.bind_some, hv]
  exact ⟨_, rfl⟩
/-- one of some operators -/
def opT (l : List Int) (t : GToken) : Bool := l.any fun o => isT (if o = 1 ∨ o = 2 then 1 else 5) ((iOpText o).getD []) t
theorem opText_tot (o : Int) : ∃ t, iOpText o = some t := by
  unfold iOpText
  by_cases h1 : o < 1
  · exact ⟨[], by simp [h1]⟩
  by_cases h2 : 16 < o
  · exact ⟨[], by simp [h2]⟩
  have e : IntKind.wrap .i64 (o - 1) = ((o - 1).toNat : Int) := by rw [wrap_ok (by omega) (by omega)]; omega
  have hl : (o - 1).toNat < ([[79, 82], [65, 78, 68], [61], [60, 62], [60], [60, 61], [62], [62, 61], [124, 124], [43], [45], [42], [47], [37], [78, 79, 84], [45]] : List (List UInt8)).length := by show (o - 1).toNat < 16; omega
  rw [e, idx_lt hl]
  exact ⟨_, by simp [h1, h2]; rfl⟩
theorem any_cons {α : Type} {p : α → Bool} {x : α} {l : List α} : (x :: l).any p = (p x || l.any p) := rfl
theorem takeOp_ok (hT : Tok T) {s : Ps} (h : In T s) (l : List Int) (hl : l.length ≤ 100) (h0 : ∀ o ∈ l, o ≠ 0) : ∃ op, iParser_takeOp (PI T s) l = some (op, PI T (tk T (opT l) s)) ∧ (op = 0 ↔ cur T (opT l) s = false) := by
  have key : ∀ i, i ≤ l.length → ∃ op, iParser_takeOp_L0 l (PI T s) (i : Nat) = some (op, PI T (tk T (opT (l.drop i)) s)) ∧ (op = 0 ↔ cur T (opT (l.drop i)) s = false) := by
    refine back_ind ?_ ?_
    · rw [iParser_takeOp_L0, List.drop_length]
      have : cur T (opT []) s = false := by unfold cur opT; cases T[s.at_]? <;> simp
      exact ⟨0, by unfold tk; rw [this]; simp, by simp [this]⟩
    · intro i hi ih
      obtain ⟨t, ht⟩ := opText_tot l[i]
      rw [iParser_takeOp_L0, List.drop_eq_getElem_cons hi]
      simp only [lt_dec, hi, decide_true, if_true, idx_lt hi, Option.bind_eq_bind, Option.bind_some]
      have J : ∀ k : Int, k = (if l[i] = 1 ∨ l[i] = 2 then 1 else 5) → ∃ op, iParser_takeOp_J1 l[i] l (i : Nat) (PI T s) k = some (op, PI T (tk T (opT (l[i] :: l.drop (i + 1))) s)) ∧ (op = 0 ↔ cur T (opT (l[i] :: l.drop (i + 1))) s = false) := by
        intro k hk
        have hc : cur T (opT (l[i] :: l.drop (i + 1))) s = (cur T (isT k t) s || cur T (opT (l.drop (i + 1))) s) := by
          unfold cur opT
          cases T[s.at_]? with
          | none => simp
          | some x => simp only [any_cons, ht, Option.getD_some, ← hk]; cases s.f <;> simp
        rw [iParser_takeOp_J1, ht]
        simp only [Option.bind_eq_bind, Option.bind_some]
        rw [show (0 : Int) = ((0 : Nat) : Int) from rfl, is_ok hT h 0 (by omega)]
        simp only [Option.bind_some, Nat.add_zero]
        unfold tk
        rw [hc]
        cases hx : cur T (isT k t) s with
        | true =>
          simp only [if_true, Bool.true_or]
          rw [wrapA hT (cur_lt hx).1]
          exact ⟨l[i], rfl, by simp [h0 _ (List.getElem_mem hi)]⟩
        | false =>
          simp only [Bool.false_or, Bool.false_eq_true, if_false]
          rw [wrap_next hi (by omega)]
          exact ih
      by_cases h1 : l[i] = 1
      · rw [h1] at J ⊢; simp only [decide_true, if_true]; exact J 1 (by simp)
      · by_cases h2 : l[i] = 2
        · rw [h2] at J ⊢; simpa using J 1 (by simp)
        · simpa [h1, h2] using J 5 (by simp [h1, h2])
  simpa [iParser_takeOp] using key 0 (by omega)

/-! parB -/
variable {T : List GToken}
/-! the reference's -/
def nxt (T : List GToken) (s : Ps) : GToken := if s.f = true then ⟨0, [], 0⟩ else T[s.at_]?.getD ⟨0, [], 0⟩
theorem next_ok (hT : Tok T) {s : Ps} (h : In T s) (d : Nat) (hd : d ≤ 10) : sL12Next (PR T s) d = some (nxt T ⟨s.at_ + d, s.f⟩) := by
  unfold sL12Next nxt
  have h1 := hT.1
  have h2 : s.at_ ≤ T.length := h
  have e : IntKind.wrap .i64 ((s.at_ : Int) + (d : Int)) = ((s.at_ + d : Nat) : Int) := by rw [wrap_ok (by omega) (by omega)]; omega
  simp only [e, Option.bind_eq_bind, Option.bind_some]
  cases hf : s.f with
  | true => simp
  | false =>
    by_cases hl : s.at_ + d < T.length
    · have h3 : ¬ (T.length : Int) ≤ ((s.at_ + d : Nat) : Int) := by omega
      rw [idx_lt hl]
      simp only [h3, decide_false, Bool.false_eq_true, if_false, Option.bind_some, List.getElem?_eq_getElem hl, Option.getD_some]
    · have h3 : (T.length : Int) ≤ ((s.at_ + d : Nat) : Int) := by omega
      rw [List.getElem?_eq_none (by omega)]
      simp only [h3, decide_true, Bool.false_eq_true, if_false, if_true, Option.getD_none]
theorem nxt_cur (c : GToken → Bool) (hc : c ⟨0, [], 0⟩ = false) (s : Ps) : c (nxt T s) = cur T c s := by
  unfold nxt cur
  cases s.f with
  | true => simp [hc]
  | false =>
    cases T[s.at_]? with
    | none => simp [hc]
    | some t => simp
theorem next0 (hT : Tok T) {s : Ps} (h : In T s) : sL12Next (PR T s) 0 = some (nxt T s) := by
  have := next_ok hT h 0 (by omega)
  simpa using this
theorem isT0 (k : Int) (w : List UInt8) (hk : k ≠ 0) : isT k w ⟨0, [], 0⟩ = false := by unfold isT; simp [Ne.symm hk]
theorem nxt_len (hT : Tok T) (s : Ps) : (nxt T s).text.length ≤ 1048576 := by
  unfold nxt
  split
  · simp
  · cases h : T[s.at_]? with
    | none => simp
    | some t => exact hT.2 t (List.mem_of_getElem? h)
theorem key_s (hT : Tok T) {s : Ps} (h : In T s) (k : Int) (w : List UInt8) (hk : sKeyText k = some w) : sL12Key (PR T s) k = some (cur T (keyT w) s) := by
  unfold sL12Key
  rw [next0 hT h, ← nxt_cur (keyT w) (isT0 1 w (by decide)), hk]
  simp only [Option.bind_eq_bind, Option.bind_some]
  unfold keyT isT
  by_cases h1 : (nxt T s).kind = 1 <;> simp [h1]
theorem sign_s (hT : Tok T) {s : Ps} (h : In T s) (w : List UInt8) : sL12Sign (PR T s) w = some (cur T (signT w) s) := by
  unfold sL12Sign
  rw [next0 hT h, ← nxt_cur (signT w) (isT0 5 w (by decide))]
  simp only [Option.bind_eq_bind, Option.bind_some]
  unfold signT isT
  by_cases h1 : (nxt T s).kind = 5 <;> simp [h1]
theorem kind_s (hT : Tok T) {s : Ps} (h : In T s) (k : Int) (hk : k ≠ 0) : sL12Kind (PR T s) k = some (cur T (kindT k) s) := by
  unfold sL12Kind
  have h0 : kindT k ⟨0, [], 0⟩ = false := by unfold kindT; simp [Ne.symm hk]
  obtain ⟨_, o2⟩ := tokenOk_eq (nxt T s) (nxt_len hT s)
  rw [next0 hT h, ← nxt_cur (kindT k) h0]
  simp only [Option.bind_eq_bind, Option.bind_some, o2]
  unfold kindT
  by_cases h1 : (nxt T s).kind = k <;> simp [h1]
theorem step_cur (hT : Tok T) {s : Ps} (c : GToken → Bool) : sL12Step (PR T s) (cur T c s) = some (PR T (mu T c s)) := by
  unfold sL12Step mu
  cases hc : cur T c s with
  | false => rfl
  | true =>
    obtain ⟨hl, hf⟩ := cur_lt hc
    simp only [hf, Bool.not_true, Bool.false_eq_true, if_false, if_true, Option.bind_eq_bind, Option.bind_some]
    rw [wrapA hT hl]
    unfold adv PR
    rw [hf]
theorem step_true (hT : Tok T) {s : Ps} {c : GToken → Bool} (hc : cur T c s = true) : sL12Step (PR T s) true = some (PR T (adv s)) := by
  have := step_cur hT (s := s) c
  rw [hc] at this
  rw [this]; unfold mu; rw [hc]; rfl
theorem step_bad {s : Ps} (h : s.f = true) (b : Bool) : sL12Step (PR T s) b = some (PR T s) := by
  unfold sL12Step PR
  rw [h]
  cases b <;> rfl
theorem maybe_ok (hT : Tok T) {s : Ps} (h : In T s) (k : Int) (w : List UInt8) (hk : sKeyText k = some w) : sL12Maybe (PR T s) k = some (cur T (keyT w) s, PR T (tk T (keyT w) s)) := by
  unfold sL12Maybe sL12Maybe_J0 tk
  rw [key_s hT h k w hk]
  simp only [Option.bind_eq_bind, Option.bind_some]
  cases hc : cur T (keyT w) s with
  | false => rfl
  | true => simp only [if_true]; rw [step_true hT hc]; rfl
theorem text_s (hT : Tok T) {s : Ps} (h : In T s) (k : Int) (hk : k ≠ 0) : ∃ x, sL12Text (PR T s) k = some (x, PR T (mu T (kindT k) s)) := by
  unfold sL12Text
  rw [next0 hT h, kind_s hT h k hk]
  simp only [Option.bind_eq_bind, Option.bind_some]
  rw [step_cur hT]
  simp only [Option.bind_some]
  by_cases hb : (mu T (kindT k) s).f = true
  · exact ⟨[], by rw [if_pos hb]⟩
  · exact ⟨_, by rw [if_neg hb]⟩
theorem isT_op0 (l : List Int) : opT l ⟨0, [], 0⟩ = false := by
  unfold opT
  rw [List.any_eq_false]
  intro o _
  unfold isT
  by_cases h : o = 1 ∨ o = 2 <;> simp [h]
def opsOf (lv : Int) (l : List Nat) : List Int := l.filterMap fun (o : Nat) => if (([0, 1, 2, 4, 4, 4, 4, 4, 4, 5, 6, 6, 7, 7, 7] : List Int)[o]?.getD 0) = lv then some (o : Int) else none
theorem opsOf_cons (lv : Int) (o : Nat) (l : List Nat) : opsOf lv (o :: l) = if (([0, 1, 2, 4, 4, 4, 4, 4, 4, 5, 6, 6, 7, 7, 7] : List Int)[o]?.getD 0) = lv then (o : Int) :: opsOf lv l else opsOf lv l := by
  unfold opsOf
  rw [List.filterMap_cons]
  split <;> rename_i h <;> split at h <;> simp_all
theorem op_s (hT : Tok T) {s : Ps} (h : In T s) (lv : Int) (l : List Int) (hl : (lv, l) ∈ ([(1, [1]), (2, [2]), (4, [3, 4, 5, 6, 7, 8]), (5, [9]), (6, [10, 11]), (7, [12, 13, 14])] : List (Int × List Int))) : ∃ op, sL12Op (PR T s) lv = some op ∧ 0 ≤ op ∧ (op = 0 ↔ cur T (opT l) s = false) := by
  have lev : ∀ o : Nat, 1 ≤ o → o ≤ 14 → sLevelOf (GExpr.mk 4 (o : Int) false (GValue.mk 0 0 []) [] [] [] []) = some (([0, 1, 2, 4, 4, 4, 4, 4, 4, 5, 6, 6, 7, 7, 7] : List Int)[o]?.getD 0) := by
    intro o h1 h2
    have : o = 1 ∨ o = 2 ∨ o = 3 ∨ o = 4 ∨ o = 5 ∨ o = 6 ∨ o = 7 ∨ o = 8 ∨ o = 9 ∨ o = 10 ∨ o = 11 ∨ o = 12 ∨ o = 13 ∨ o = 14 := by omega
    rcases this with h | h | h | h | h | h | h | h | h | h | h | h | h | h <;> subst h <;> rfl
  have tok : ∀ o : Nat, 1 ≤ o → o ≤ 14 → ∃ x, sL10Op (o : Int) = some ⟨if (o : Int) = 1 ∨ (o : Int) = 2 then 1 else 5, x, 0⟩ ∧ (iOpText (o : Int)).getD [] = x := by
    intro o h1 h2
    have : o = 1 ∨ o = 2 ∨ o = 3 ∨ o = 4 ∨ o = 5 ∨ o = 6 ∨ o = 7 ∨ o = 8 ∨ o = 9 ∨ o = 10 ∨ o = 11 ∨ o = 12 ∨ o = 13 ∨ o = 14 := by omega
    rcases this with h | h | h | h | h | h | h | h | h | h | h | h | h | h <;> subst h <;> exact ⟨_, rfl, rfl⟩
  have key : ∀ i, i ≤ 14 → ∃ op, sL12Op_L0 lv (PR T s) ((i + 1 : Nat) : Int) = some op ∧ 0 ≤ op ∧ (op = 0 ↔ cur T (opT (opsOf lv (([1, 2, 3, 4, 5, 6, 7, 8, 9, 10, 11, 12, 13, 14] : List Nat).drop i))) s = false) := by
    refine back_ind ?_ ?_
    · rw [sL12Op_L0]
      refine ⟨0, by simp, by omega, ?_⟩
      have : ∀ x : Ps, cur T (opT []) x = false := by intro x; unfold cur opT; cases T[x.at_]? <;> simp
      simpa [opsOf] using this s
    · intro i hi ih
      have hlt : i < ([1, 2, 3, 4, 5, 6, 7, 8, 9, 10, 11, 12, 13, 14] : List Nat).length := hi
      have hget : ([1, 2, 3, 4, 5, 6, 7, 8, 9, 10, 11, 12, 13, 14] : List Nat)[i] = i + 1 := by
        have : i = 0 ∨ i = 1 ∨ i = 2 ∨ i = 3 ∨ i = 4 ∨ i = 5 ∨ i = 6 ∨ i = 7 ∨ i = 8 ∨ i = 9 ∨ i = 10 ∨ i = 11 ∨ i = 12 ∨ i = 13 := by omega
        rcases this with h | h | h | h | h | h | h | h | h | h | h | h | h | h <;> subst h <;> rfl
      have hle : ((i + 1 : Nat) : Int) ≤ 14 := by omega
      have hw : IntKind.wrap .i64 (((i + 1 : Nat) : Int) + 1) = ((i + 1 + 1 : Nat) : Int) := by rw [wrap_ok (by omega) (by omega)]; omega
      obtain ⟨x, t1, t2⟩ := tok (i + 1) (by omega) (by omega)
      rw [sL12Op_L0, List.drop_eq_getElem_cons hlt, hget, opsOf_cons]
      simp only [hle, decide_true, if_true, lev (i + 1) (by omega) (by omega), Option.bind_eq_bind, Option.bind_some, sL12Op_J1, hw]
      generalize ([0, 1, 2, 4, 4, 4, 4, 4, 4, 5, 6, 6, 7, 7, 7] : List Int)[i + 1]?.getD 0 = q
      by_cases hq : q = lv
      · simp only [hq, decide_true, Bool.not_true, Bool.false_eq_true, if_false, if_true, t1, next0 hT h, Option.bind_some]
        have hc := nxt_cur (T := T) (isT (if ((i + 1 : Nat) : Int) = 1 ∨ ((i + 1 : Nat) : Int) = 2 then 1 else 5) x) (isT0 _ x (by split <;> decide)) s
        have hb : (if decide ((nxt T s).kind = (if ((i + 1 : Nat) : Int) = 1 ∨ ((i + 1 : Nat) : Int) = 2 then 1 else 5)) = true then decide ((nxt T s).text = x) else false) = isT (if ((i + 1 : Nat) : Int) = 1 ∨ ((i + 1 : Nat) : Int) = 2 then 1 else 5) x (nxt T s) := by
          unfold isT
          cases decide ((nxt T s).kind = (if ((i + 1 : Nat) : Int) = 1 ∨ ((i + 1 : Nat) : Int) = 2 then 1 else 5)) <;> rfl
        rw [hb, hc]
        have hcc : ∀ r : List Int, cur T (opT (((i + 1 : Nat) : Int) :: r)) s = (cur T (isT (if ((i + 1 : Nat) : Int) = 1 ∨ ((i + 1 : Nat) : Int) = 2 then 1 else 5) x) s || cur T (opT r) s) := by
          intro r
          unfold cur opT
          cases T[s.at_]? with
          | none => simp
          | some y => simp only [any_cons, t2]; cases s.f <;> simp
        rw [hcc]
        cases cur T (isT (if ((i + 1 : Nat) : Int) = 1 ∨ ((i + 1 : Nat) : Int) = 2 then 1 else 5) x) s with
        | true => exact ⟨((i + 1 : Nat) : Int), rfl, by omega, by simp; omega⟩
        | false => simpa only [Bool.false_or, Bool.false_eq_true, if_false] using ih
      · simp only [hq, decide_false, Bool.not_false, if_true, if_false]
        exact ih
  have := key 0 (by omega)
  rw [sL12Op]
  obtain ⟨op, h1, h2, h3⟩ := this
  refine ⟨op, h1, h2, ?_⟩
  have e : opsOf lv (([1, 2, 3, 4, 5, 6, 7, 8, 9, 10, 11, 12, 13, 14] : List Nat).drop 0) = l := by
    simp only [List.mem_cons, Prod.mk.injEq, List.not_mem_nil, or_false] at hl
    rcases hl with ⟨rfl, rfl⟩ | ⟨rfl, rfl⟩ | ⟨rfl, rfl⟩ | ⟨rfl, rfl⟩ | ⟨rfl, rfl⟩ | ⟨rfl, rfl⟩ <;> decide
  rw [e] at h3
  exact h3

/-! parC -/
/-- what a reader does, told plainly -/
inductive Pr where
  | nop
  | bd
  | mst (c : GToken → Bool)
  | ite (c : GToken → Bool) (a b : Pr)
  | tst (c : GToken → Bool) (a b : Pr)
  | seq (a b : Pr)
  | call (k : Nat)
  | lp (c : GToken → Bool) (a : Pr)
  | lp2 (c : GToken → Bool) (a : Pr) (c2 : GToken → Bool) (a2 : Pr)
  | st3
/-- a name, a dot and a star come next -/
def star3 (T : List GToken) (s : Ps) : Bool := cur T (kindT 2) s && cur T (signT [46]) ⟨s.at_ + 1, s.f⟩ && cur T (signT [42]) ⟨s.at_ + 2, s.f⟩
def pAs : Pr := .ite (keyT [65, 83]) (.mst (kindT 2)) .nop
def pSource : Pr := .seq (.mst (kindT 2)) pAs
def pSources : Pr := .seq pSource (.lp2 (signT [44]) pSource (keyT [74, 79, 73, 78]) (.seq pSource (.seq (.mst (keyT [79, 78])) (.call 8))))
def pWhere : Pr := .ite (keyT [87, 72, 69, 82, 69]) (.call 8) .nop
def pKey : Pr := .seq (.call 8) (.ite (keyT [65, 83, 67]) .nop (.ite (keyT [68, 69, 83, 67]) .nop .nop))
def pOrs : Pr := .seq (.call 8) (.lp (signT [44]) (.call 8))
def pIn : Pr := .seq (.mst (signT [40])) (.seq (.tst (keyT [83, 69, 76, 69, 67, 84]) (.call 9) pOrs) (.mst (signT [41])))
def pX (n : Bool) : Pr := .ite (keyT [66, 69, 84, 87, 69, 69, 78]) (.seq (.call 4) (.seq (.mst (keyT [65, 78, 68])) (.call 4))) (.ite (keyT [73, 78]) pIn (if n = true then .bd else .nop))
def body : Nat → Pr
  | 0 => .ite (kindT 3) .nop (.ite (kindT 4) .nop (.ite (keyT [78, 85, 76, 76]) .nop (.ite (keyT [84, 82, 85, 69]) .nop (.ite (keyT [70, 65, 76, 83, 69]) .nop (.ite (kindT 2) (.ite (signT [46]) (.mst (kindT 2)) .nop)
      (.ite (signT [40]) (.seq (.call 8) (.mst (signT [41]))) (.ite (keyT [69, 88, 73, 83, 84, 83]) (.seq (.mst (signT [40])) (.seq (.call 9) (.mst (signT [41])))) .bd)))))))
  | 1 => .ite (signT [45]) (.call 1) (.call 0)
  | 2 => .seq (.call 1) (.lp (opT [12, 13, 14]) (.call 1))
  | 3 => .seq (.call 2) (.lp (opT [10, 11]) (.call 2))
  | 4 => .seq (.call 3) (.lp (opT [9]) (.call 3))
  | 5 => .seq (.call 4) (.ite (opT [3, 4, 5, 6, 7, 8]) (.call 4) (.ite (keyT [73, 83]) (.seq (.ite (keyT [78, 79, 84]) .nop .nop) (.mst (keyT [78, 85, 76, 76]))) (.ite (keyT [78, 79, 84]) (pX true) (pX false))))
  | 6 => .ite (keyT [78, 79, 84]) (.call 6) (.call 5)
  | 7 => .seq (.call 6) (.lp (opT [2]) (.call 6))
  | 8 => .seq (.call 7) (.lp (opT [1]) (.call 7))
  | 9 => .seq (.mst (keyT [83, 69, 76, 69, 67, 84])) (.seq (.ite (keyT [68, 73, 83, 84, 73, 78, 67, 84]) .nop .nop) (.seq (.call 10) (.seq (.lp (signT [44]) (.call 10)) (.seq (.mst (keyT [70, 82, 79, 77])) (.seq pSources (.seq pWhere
      (.seq (.ite (keyT [79, 82, 68, 69, 82]) (.seq (.mst (keyT [66, 89])) (.seq pKey (.lp (signT [44]) pKey))) .nop) (.ite (keyT [76, 73, 77, 73, 84]) (.mst (kindT 3)) .nop))))))))
  | _ => .ite (signT [42]) .nop .st3
inductive Evp (T : List GToken) : Pr → Ps → Ps → Prop
  | nop {s} : Evp T .nop s s
  | bd {s} : Evp T .bd s (bad s)
  | mst {c s} : Evp T (.mst c) s (mu T c s)
  | iteT {c a b s s'} : cur T c s = true → Evp T a (adv s) s' → Evp T (.ite c a b) s s'
  | iteF {c a b s s'} : cur T c s = false → Evp T b s s' → Evp T (.ite c a b) s s'
  | tstT {c a b s s'} : cur T c s = true → Evp T a s s' → Evp T (.tst c a b) s s'
  | tstF {c a b s s'} : cur T c s = false → Evp T b s s' → Evp T (.tst c a b) s s'
  | seq {a b s s1 s2} : Evp T a s s1 → Evp T b s1 s2 → Evp T (.seq a b) s s2
  | call {k s s'} : Evp T (body k) s s' → Evp T (.call k) s s'
  | lpT {c a s s1 s2} : cur T c s = true → Evp T a (adv s) s1 → Evp T (.lp c a) s1 s2 → Evp T (.lp c a) s s2
  | lpF {c a s} : cur T c s = false → Evp T (.lp c a) s s
  | lp2A {c a c2 a2 s s1 s2} : cur T c s = true → Evp T a (adv s) s1 → Evp T (.lp2 c a c2 a2) s1 s2 → Evp T (.lp2 c a c2 a2) s s2
  | lp2B {c a c2 a2 s s1 s2} : cur T c s = false → cur T c2 s = true → Evp T a2 (adv s) s1 → Evp T (.lp2 c a c2 a2) s1 s2 → Evp T (.lp2 c a c2 a2) s s2
  | lp2F {c a c2 a2 s} : cur T c s = false → cur T c2 s = false → Evp T (.lp2 c a c2 a2) s s
  | st3T {s} : star3 T s = true → Evp T .st3 s ⟨s.at_ + 3, s.f⟩
  | st3F {s s'} : star3 T s = false → Evp T (.seq (.call 8) pAs) s s' → Evp T .st3 s s'
variable {T : List GToken}
theorem bad_f {s : Ps} (h : s.f = true) : bad s = s := by obtain ⟨a, f⟩ := s; dsimp only at h; subst h; rfl
/-- a reader goes on, and stays within; one that has failed does nothing -/
theorem Evp.mono {p : Pr} {s s' : Ps} (h : Evp T p s s') : In T s → s.at_ ≤ s'.at_ ∧ In T s' ∧ (s.f = true → s' = s) := by
  have hadv : ∀ {c s}, cur T c s = true → In T (adv s) ∧ (adv s).at_ = s.at_ + 1 ∧ s.f = false := fun {c s} h => by
    obtain ⟨h1, h2⟩ := cur_lt h
    exact ⟨h1, rfl, h2⟩
  have no : ∀ {s : Ps} {q : Prop}, s.f = false → s.f = true → q := fun {s q} h1 h2 => by rw [h1] at h2; exact absurd h2 (by simp)
  induction h with
  | nop => intro hi; exact ⟨Nat.le_refl _, hi, fun _ => rfl⟩
  | bd => intro hi; exact ⟨Nat.le_refl _, hi, fun h => bad_f h⟩
  | @mst c s =>
    intro hi
    unfold mu
    cases hc : cur T c s with
    | true => obtain ⟨a, b, d⟩ := hadv hc; exact ⟨by simp only [if_true]; omega, by simpa using a, fun h => no d h⟩
    | false => exact ⟨Nat.le_refl _, hi, fun h => bad_f h⟩
  | iteT hc _ ih => intro hi; obtain ⟨a, b, d⟩ := hadv hc; obtain ⟨h1, h2, h3⟩ := ih a; exact ⟨by omega, h2, fun h => no d h⟩
  | iteF hc _ ih => exact ih
  | tstT hc _ ih => exact ih
  | tstF hc _ ih => exact ih
  | seq _ _ ih1 ih2 =>
    intro hi
    obtain ⟨a1, a2, a3⟩ := ih1 hi
    obtain ⟨b1, b2, b3⟩ := ih2 a2
    exact ⟨by omega, b2, fun h => by have e := a3 h; rw [← e] at h; rw [b3 h, e]⟩
  | call _ ih => exact ih
  | lpT hc _ _ ih1 ih2 => intro hi; obtain ⟨a, b, d⟩ := hadv hc; obtain ⟨h1, h2, h3⟩ := ih1 a; obtain ⟨k1, k2, k3⟩ := ih2 h2; exact ⟨by omega, k2, fun h => no d h⟩
  | lpF hc => intro hi; exact ⟨Nat.le_refl _, hi, fun _ => rfl⟩
  | lp2A hc _ _ ih1 ih2 => intro hi; obtain ⟨a, b, d⟩ := hadv hc; obtain ⟨h1, h2, h3⟩ := ih1 a; obtain ⟨k1, k2, k3⟩ := ih2 h2; exact ⟨by omega, k2, fun h => no d h⟩
  | lp2B _ hc _ _ ih1 ih2 => intro hi; obtain ⟨a, b, d⟩ := hadv hc; obtain ⟨h1, h2, h3⟩ := ih1 a; obtain ⟨k1, k2, k3⟩ := ih2 h2; exact ⟨by omega, k2, fun h => no d h⟩
  | lp2F _ hc => intro hi; exact ⟨Nat.le_refl _, hi, fun _ => rfl⟩
  | @st3T s hc =>
    intro hi
    unfold star3 at hc
    simp only [Bool.and_eq_true] at hc
    obtain ⟨h1, h2⟩ := cur_lt hc.2
    exact ⟨by dsimp only; omega, by show s.at_ + 3 ≤ T.length; dsimp only at h1; omega, fun h => no h2 h⟩
  | st3F hc _ ih => exact ih
/-- how much is left to read -/
def rem (T : List GToken) (s : Ps) : Nat := if s.f = true then 0 else T.length - s.at_ + 1
theorem rem_adv {c : GToken → Bool} {s : Ps} (h : cur T c s = true) : rem T (adv s) < rem T s ∧ In T (adv s) := by
  obtain ⟨h1, h2⟩ := cur_lt h
  unfold rem adv
  rw [h2]
  exact ⟨by simp; omega, h1⟩
theorem Evp.rem_le {p : Pr} {s s' : Ps} (h : Evp T p s s') (hi : In T s) : rem T s' ≤ rem T s ∧ In T s' ∧ s.at_ ≤ s'.at_ := by
  obtain ⟨h1, h2, h3⟩ := h.mono hi
  refine ⟨?_, h2, h1⟩
  cases hf : s.f with
  | true => rw [h3 hf]; exact Nat.le_refl _
  | false =>
    unfold rem
    rw [hf]
    split <;> simp <;> omega
/-- both readers do what is told -/
def Both (T : List GToken) (k : Nat) (I : GParser → Option (GExpr × GParser)) (S : GL12In → Option (GExpr × GL12In)) (s : Ps) : Prop :=
  ∃ s', Evp T (.call k) s s' ∧ (∃ e, I (PI T s) = some (e, PI T s')) ∧ ∃ e, S (PR T s) = some (e, PR T s')
abbrev Tup (γ : Type) := List UInt8 × List UInt8 × List UInt8 × List GExpr × List GQuery × List GToken × Int × Bool
theorem chain_of (hT : Tok T) {m : Nat} {A I : GParser → Option (GExpr × GParser)} {C : GParser → List Int → Option (GExpr × GParser)} {L : List Int → Int → Int → Bool → Int → Int → (List UInt8 × (List UInt8 × (List UInt8 × (List GExpr × (List GQuery × (List GToken × (Int × Bool))))))) → Option (GExpr × GParser)} {ops : List Int} {lv : Int} {kA k : Nat}
    (hI : ∀ p, I p = (C p ops >>= fun (y1 : GExpr × GParser) => some (y1.1, y1.2)))
    (hC : ∀ p, C p ops = (A p >>= fun (y1 : GExpr × GParser) => L ops y1.1.kind y1.1.op y1.1.not_ y1.1.value.kind y1.1.value.num (y1.1.value.text, (y1.1.qual, (y1.1.name, (y1.1.kids, (y1.1.sub, (y1.2.list, (y1.2.at_, y1.2.failed)))))))))
    (hL : ∀ b0 b1 b2 b3 b4 q, L ops b0 b1 b2 b3 b4 q = ((iParser_takeOp (GParser.mk q.2.2.2.2.2.1 q.2.2.2.2.2.2.1 q.2.2.2.2.2.2.2) ops) >>= fun (y2 : Int × GParser) => if (decide (y2.1 = 0)) = true then (some ((GExpr.mk b0 b1 b2 (GValue.mk b3 b4 q.1) q.2.1 q.2.2.1 q.2.2.2.1 q.2.2.2.2.1), y2.2)) else ((A y2.2) >>= fun (y3 : GExpr × GParser) => (iBin y2.1 (GExpr.mk b0 b1 b2 (GValue.mk b3 b4 q.1) q.2.1 q.2.2.1 q.2.2.2.1 q.2.2.2.2.1) y3.1) >>= fun (y4 : GExpr) => L ops y4.kind y4.op y4.not_ y4.value.kind y4.value.num (y4.value.text, (y4.qual, (y4.name, (y4.kids, (y4.sub, (y3.2.list, (y3.2.at_, y3.2.failed)))))))))) 
    (hlv : (lv, ops) ∈ ([(1, [1]), (2, [2]), (4, [3, 4, 5, 6, 7, 8]), (5, [9]), (6, [10, 11]), (7, [12, 13, 14])] : List (Int × List Int))) (h4 : lv ≠ 4)
    (hb : body k = .seq (.call kA) (.lp (opT ops) (.call kA)))
    (H : ∀ s, In T s → rem T s ≤ m → Both T kA A (fun r => sL12Expr r (lv + 1)) s) : ∀ s, In T s → rem T s ≤ m → Both T k I (fun r => sL12Expr r lv) s := by
  have hops : ops.length ≤ 100 ∧ (∀ o ∈ ops, o ≠ 0) ∧ lv ≠ 3 ∧ lv ≠ 8 ∧ IntKind.wrap .i64 (lv + 1) = lv + 1 := by
    simp only [List.mem_cons, Prod.mk.injEq, List.not_mem_nil, or_false] at hlv
    rcases hlv with ⟨rfl, rfl⟩ | ⟨rfl, rfl⟩ | ⟨rfl, rfl⟩ | ⟨rfl, rfl⟩ | ⟨rfl, rfl⟩ | ⟨rfl, rfl⟩ <;> decide
  obtain ⟨o1, o2, o3, o8, ow⟩ := hops
  have loop : ∀ n, n ≤ m → ∀ s, In T s → rem T s ≤ n → ∃ s', Evp T (.lp (opT ops) (.call kA)) s s' ∧ (∀ b0 b1 b2 b3 b4 t q nm ks ss, ∃ e, L ops b0 b1 b2 b3 b4 (t, (q, (nm, (ks, (ss, (T, ((s.at_ : Int), s.f))))))) = some (e, PI T s')) ∧
      ∀ b0 b1 b2 b3 b4 t q nm ks ss, ∃ e, sL12Expr_L0 lv b0 b1 b2 b3 b4 (t, (q, (nm, (ks, (ss, (T, ((s.at_ : Int), s.f))))))) = some (e, PR T s') := by
    intro n
    induction n with
    | zero =>
      intro _ s hi hr
      have hf : s.f = true := by
        cases hf : s.f with
        | true => rfl
        | false => unfold rem at hr; rw [hf] at hr; simp at hr
      have hc := cur_f (T := T) (c := opT ops) hf
      refine ⟨s, .lpF hc, fun b0 b1 b2 b3 b4 t q nm ks ss => ?_, fun b0 b1 b2 b3 b4 t q nm ks ss => ?_⟩
      · obtain ⟨op, e1, e2⟩ := takeOp_ok hT hi ops o1 o2
        have h0 := e2.2 hc
        rw [hL, show iParser_takeOp (GParser.mk T (s.at_ : Int) s.f) ops = _ from e1]
        unfold tk
        rw [hc]
        simp only [h0, decide_true, if_true, Option.bind_eq_bind, Option.bind_some, Bool.false_eq_true, if_false]
        exact ⟨_, rfl⟩
      · rw [sL12Expr_L0]
        dsimp only
        rw [hf]
        exact ⟨_, by unfold PR; rw [hf]; rfl⟩
    | succ n ih =>
      intro hm s hi hr
      obtain ⟨op, e1, e2⟩ := takeOp_ok hT hi ops o1 o2
      obtain ⟨op', f1, f0, f2⟩ := op_s hT hi lv ops hlv
      cases hc : cur T (opT ops) s with
      | false =>
        have h0 := e2.2 hc
        have h0' := f2.2 hc
        refine ⟨s, .lpF hc, fun b0 b1 b2 b3 b4 t q nm ks ss => ?_, fun b0 b1 b2 b3 b4 t q nm ks ss => ?_⟩
        · rw [hL, show iParser_takeOp (GParser.mk T (s.at_ : Int) s.f) ops = _ from e1]
          unfold tk
          rw [hc]
          simp only [h0, decide_true, if_true, Option.bind_eq_bind, Option.bind_some, Bool.false_eq_true, if_false]
          exact ⟨_, rfl⟩
        · rw [sL12Expr_L0]
          dsimp only
          rw [show sL12Op (GL12In.mk T (s.at_ : Int) s.f) lv = _ from f1]
          simp only [h0', decide_true, if_true, Option.bind_eq_bind, Option.bind_some, sL12Expr_J1]
          cases hf : s.f <;> exact ⟨_, by unfold PR; rw [hf]; rfl⟩
      | true =>
        have hn0 : op ≠ 0 := fun h => by rw [e2.1 h] at hc; exact absurd hc (by simp)
        have hn0' : op' ≠ 0 := fun h => by rw [f2.1 h] at hc; exact absurd hc (by simp)
        obtain ⟨hr1, hi1⟩ := rem_adv hc
        obtain ⟨s1, v1, ⟨x1, p1⟩, x2, p2⟩ := H (adv s) hi1 (by omega)
        obtain ⟨r1, i1, _⟩ := v1.rem_le hi1
        obtain ⟨s2, v2, q1, q2⟩ := ih (by omega) s1 i1 (by omega)
        have hf := (cur_lt hc).2
        refine ⟨s2, .lpT hc v1 v2, fun b0 b1 b2 b3 b4 t q nm ks ss => ?_, fun b0 b1 b2 b3 b4 t q nm ks ss => ?_⟩
        · rw [hL, show iParser_takeOp (GParser.mk T (s.at_ : Int) s.f) ops = _ from e1]
          unfold tk
          rw [hc]
          simp only [hn0, decide_false, if_true, Option.bind_eq_bind, Option.bind_some, Bool.false_eq_true, if_false, p1, iBin]
          exact q1 _ _ _ _ _ _ _ _ _ _
        · rw [sL12Expr_L0]
          dsimp only
          rw [show sL12Op (GL12In.mk T (s.at_ : Int) s.f) lv = _ from f1, show sL12Step (GL12In.mk T (s.at_ : Int) s.f) true = _ from step_true hT hc, hf]
          simp only [hn0', decide_false, if_true, Option.bind_eq_bind, Option.bind_some, Bool.false_eq_true, if_false, Bool.not_false, ow, p2]
          exact q2 _ _ _ _ _ _ _ _ _ _
  intro s hi hr
  obtain ⟨s1, v1, ⟨x1, p1⟩, x2, p2⟩ := H s hi hr
  obtain ⟨r1, i1, _⟩ := v1.rem_le hi
  obtain ⟨s2, v2, q1, q2⟩ := loop m (Nat.le_refl _) s1 i1 (by omega)
  refine ⟨s2, .call (by rw [hb]; exact .seq v1 v2), ?_, ?_⟩
  · rw [hI, hC, p1]
    simp only [Option.bind_eq_bind, Option.bind_some]
    obtain ⟨e, he⟩ := q1 x1.kind x1.op x1.not_ x1.value.kind x1.value.num x1.value.text x1.qual x1.name x1.kids x1.sub
    rw [he]
    exact ⟨_, rfl⟩
  · dsimp only at p2 ⊢
    rw [sL12Expr]
    simp only [o3, h4, o8, decide_false, Bool.false_eq_true, if_false, ow, p2, Option.bind_eq_bind, Option.bind_some]
    exact q2 _ _ _ _ _ _ _ _ _ _

/-! parD -/
variable {T : List GToken}
theorem tk_t {c : GToken → Bool} {s : Ps} (h : cur T c s = true) : tk T c s = adv s := by unfold tk; rw [h]; rfl
theorem tk_f {c : GToken → Bool} {s : Ps} (h : cur T c s = false) : tk T c s = s := by unfold tk; rw [h]; rfl
theorem mu_in {c : GToken → Bool} {s : Ps} (h : In T s) : In T (mu T c s) ∧ rem T (mu T c s) ≤ rem T s ∧ (rem T s ≠ 0 → rem T (mu T c s) < rem T s) := by
  have v : Evp T (.mst c) s (mu T c s) := .mst
  obtain ⟨a, b, _⟩ := v.rem_le h
  refine ⟨b, a, fun h0 => ?_⟩
  unfold mu
  cases hc : cur T c s with
  | true => exact (rem_adv hc).1
  | false =>
    have e : rem T (bad s) = 0 := by unfold rem bad; rfl
    show rem T (bad s) < rem T s
    rw [e]; exact Nat.pos_of_ne_zero h0
theorem tk_in {c : GToken → Bool} {s : Ps} (h : In T s) : In T (tk T c s) ∧ rem T (tk T c s) ≤ rem T s := by
  cases hc : cur T c s with
  | true => rw [tk_t hc]; have := rem_adv hc; exact ⟨this.2, by omega⟩
  | false => rw [tk_f hc]; exact ⟨h, Nat.le_refl _⟩
theorem ev_opt {c : GToken → Bool} {s : Ps} : Evp T (.ite c .nop .nop) s (tk T c s) := by
  cases hc : cur T c s with
  | true => rw [tk_t hc]; exact .iteT hc .nop
  | false => rw [tk_f hc]; exact .iteF hc .nop
theorem neg_of (hT : Tok T) : ∀ m, (∀ s, In T s → rem T s ≤ m → Both T 0 iParser_prim sL12Prim s) → ∀ s, In T s → rem T s ≤ m → Both T 1 iParser_neg (fun r => sL12Expr r 8) s := by
  intro m
  induction m with
  | zero =>
    intro H s hi hr
    obtain ⟨s', v, ⟨x, p⟩, y, q⟩ := H s hi hr
    have hc : cur T (signT [45]) s = false := by
      cases h : cur T (signT [45]) s with
      | false => rfl
      | true => have := (rem_adv h).1; omega
    refine ⟨s', .call (.iteF hc v), ?_, ?_⟩
    · rw [iParser_neg, takeSign_ok hT hi, hc, tk_f hc]
      simp only [Option.bind_eq_bind, Option.bind_some, Bool.false_eq_true, if_false, p]
      exact ⟨_, rfl⟩
    · dsimp only
      rw [sL12Expr, sign_s hT hi, hc]
      simp only [Int.reduceEq, decide_false, decide_true, if_true, Option.bind_eq_bind, Option.bind_some, Bool.false_eq_true, if_false, q]
      exact ⟨_, rfl⟩
  | succ m ih =>
    intro H s hi hr
    cases hc : cur T (signT [45]) s with
    | false =>
      obtain ⟨s', v, ⟨x, p⟩, y, q⟩ := H s hi hr
      refine ⟨s', .call (.iteF hc v), ?_, ?_⟩
      · rw [iParser_neg, takeSign_ok hT hi, hc, tk_f hc]
        simp only [Option.bind_eq_bind, Option.bind_some, Bool.false_eq_true, if_false, p]
        exact ⟨_, rfl⟩
      · dsimp only
        rw [sL12Expr, sign_s hT hi, hc]
        simp only [Int.reduceEq, decide_false, decide_true, if_true, Option.bind_eq_bind, Option.bind_some, Bool.false_eq_true, if_false, q]
        exact ⟨_, rfl⟩
    | true =>
      obtain ⟨r1, i1⟩ := rem_adv hc
      obtain ⟨s', v, ⟨x, p⟩, y, q⟩ := ih (fun s hi hr => H s hi (by omega)) (adv s) i1 (by omega)
      refine ⟨s', .call (.iteT hc v), ?_, ?_⟩
      · rw [iParser_neg, takeSign_ok hT hi, hc, tk_t hc]
        simp only [Option.bind_eq_bind, Option.bind_some, if_true, p]
        exact ⟨_, rfl⟩
      · dsimp only at q ⊢
        rw [sL12Expr, sign_s hT hi, hc]
        simp only [Int.reduceEq, decide_false, decide_true, if_true, Option.bind_eq_bind, Option.bind_some, Bool.false_eq_true, if_false]
        rw [step_true hT hc]
        simp only [Option.bind_some, q]
        exact ⟨_, rfl⟩
theorem not_of (hT : Tok T) : ∀ m, (∀ s, In T s → rem T s ≤ m → Both T 5 iParser_cmp (fun r => sL12Expr r 4) s) → ∀ s, In T s → rem T s ≤ m → Both T 6 iParser_not (fun r => sL12Expr r 3) s := by
  have kt : sKeyText 15 = some [78, 79, 84] := rfl
  have low : ∀ s, In T s → cur T (keyT [78, 79, 84]) s = false → Both T 5 iParser_cmp (fun r => sL12Expr r 4) s → Both T 6 iParser_not (fun r => sL12Expr r 3) s := by
    rintro s hi hc ⟨s', v, ⟨x, p⟩, y, q⟩
    refine ⟨s', .call (.iteF hc v), ?_, ?_⟩
    · rw [iParser_not, takeKey_ok hT hi, hc, tk_f hc]
      simp only [Option.bind_eq_bind, Option.bind_some, Bool.false_eq_true, if_false, p]
      exact ⟨_, rfl⟩
    · dsimp only at q ⊢
      rw [sL12Expr, maybe_ok hT hi 15 _ kt, hc, tk_f hc]
      simp only [decide_true, if_true, Option.bind_eq_bind, Option.bind_some, Bool.false_eq_true, if_false, q]
      exact ⟨_, rfl⟩
  intro m
  induction m with
  | zero =>
    intro H s hi hr
    refine low s hi ?_ (H s hi hr)
    cases h : cur T (keyT [78, 79, 84]) s with
    | false => rfl
    | true => have := (rem_adv h).1; omega
  | succ m ih =>
    intro H s hi hr
    cases hc : cur T (keyT [78, 79, 84]) s with
    | false => exact low s hi hc (H s hi hr)
    | true =>
      obtain ⟨r1, i1⟩ := rem_adv hc
      obtain ⟨s', v, ⟨x, p⟩, y, q⟩ := ih (fun s hi hr => H s hi (by omega)) (adv s) i1 (by omega)
      refine ⟨s', .call (.iteT hc v), ?_, ?_⟩
      · rw [iParser_not, takeKey_ok hT hi, hc, tk_t hc]
        simp only [Option.bind_eq_bind, Option.bind_some, if_true, p]
        exact ⟨_, rfl⟩
      · dsimp only at q ⊢
        rw [sL12Expr, maybe_ok hT hi 15 _ kt, hc, tk_t hc]
        simp only [decide_true, if_true, Option.bind_eq_bind, Option.bind_some, Bool.false_eq_true, if_false, q]
        exact ⟨_, rfl⟩
/-- both readers of what is no expression -/
def BothG {α β : Type} (T : List GToken) (p : Pr) (I : GParser → Option (α × GParser)) (S : GL12In → Option (β × GL12In)) (s : Ps) : Prop :=
  ∃ s', Evp T p s s' ∧ (∃ e, I (PI T s) = some (e, PI T s')) ∧ ∃ e, S (PR T s) = some (e, PR T s')
theorem as_of (hT : Tok T) (s : Ps) (hi : In T s) : BothG T pAs iParser_as sL12As s := by
  have kt : sKeyText 12 = some [65, 83] := rfl
  unfold BothG pAs
  rw [iParser_as, sL12As, takeKey_ok hT hi, maybe_ok hT hi 12 _ kt]
  cases hc : cur T (keyT [65, 83]) s with
  | false => rw [tk_f hc]; exact ⟨s, .iteF hc .nop, ⟨_, rfl⟩, _, rfl⟩
  | true =>
    rw [tk_t hc]
    obtain ⟨_, i1⟩ := rem_adv hc
    obtain ⟨x, p, _⟩ := mustKind_ok hT i1 2
    obtain ⟨y, q⟩ := text_s hT i1 2 (by decide)
    refine ⟨_, .iteT hc .mst, ?_, ?_⟩
    · simp only [Option.bind_eq_bind, Option.bind_some, if_true, p]; exact ⟨_, rfl⟩
    · simp only [Option.bind_eq_bind, Option.bind_some, if_true, q]; exact ⟨_, rfl⟩
theorem source_of (hT : Tok T) (s : Ps) (hi : In T s) : BothG T pSource iParser_source sL12Source s := by
  unfold BothG pSource
  obtain ⟨x, p, _⟩ := mustKind_ok hT hi 2
  obtain ⟨y, q⟩ := text_s hT hi 2 (by decide)
  obtain ⟨i1, _, _⟩ := mu_in (c := kindT 2) hi
  obtain ⟨s', v, ⟨a, pa⟩, b, qb⟩ := as_of hT _ i1
  rw [iParser_source, sL12Source, p, q]
  simp only [Option.bind_eq_bind, Option.bind_some, pa, qb]
  exact ⟨s', .seq .mst v, ⟨_, rfl⟩, _, rfl⟩
theorem where_of (hT : Tok T) {m : Nat} (H : ∀ s, In T s → rem T s ≤ m → Both T 8 iParser_or (fun r => sL12Expr r 1) s) (s : Ps) (hi : In T s) (hr : rem T s ≤ m) : BothG T pWhere iParser_where sL12Where s := by
  have kt : sKeyText 6 = some [87, 72, 69, 82, 69] := rfl
  unfold BothG pWhere
  rw [iParser_where, sL12Where, takeKey_ok hT hi, maybe_ok hT hi 6 _ kt]
  cases hc : cur T (keyT [87, 72, 69, 82, 69]) s with
  | false => rw [tk_f hc]; exact ⟨s, .iteF hc .nop, ⟨_, rfl⟩, _, rfl⟩
  | true =>
    rw [tk_t hc]
    obtain ⟨r1, i1⟩ := rem_adv hc
    obtain ⟨s', v, ⟨x, p⟩, y, q⟩ := H _ i1 (by omega)
    dsimp only at q
    refine ⟨s', .iteT hc v, ?_, ?_⟩
    · simp only [Option.bind_eq_bind, Option.bind_some, if_true, p]; exact ⟨_, rfl⟩
    · simp only [Option.bind_eq_bind, Option.bind_some, if_true, q]; exact ⟨_, rfl⟩
theorem cur_ne {c c2 : GToken → Bool} {s : Ps} (h : cur T c s = true) (hd : ∀ t, c t = true → c2 t = false) : cur T c2 s = false := by
  obtain ⟨h1, h2⟩ := cur_lt h
  rw [cur_at h1 h2] at h ⊢
  exact hd _ h
theorem key_ne {k k2 : Int} {w w2 : List UInt8} (h : k ≠ k2 ∨ w ≠ w2) : ∀ t, isT k w t = true → isT k2 w2 t = false := by
  intro t ht
  unfold isT at *
  simp only [Bool.and_eq_true, decide_eq_true_eq] at ht
  obtain ⟨rfl, rfl⟩ := ht
  rcases h with h | h <;> simp [h]
theorem key_of (hT : Tok T) {m : Nat} (H : ∀ s, In T s → rem T s ≤ m → Both T 8 iParser_or (fun r => sL12Expr r 1) s) (s : Ps) (hi : In T s) (hr : rem T s ≤ m) : BothG T pKey iParser_key sL12Sort s := by
  have kd : sKeyText 10 = some [68, 69, 83, 67] := rfl
  have ka : sKeyText 9 = some [65, 83, 67] := rfl
  unfold BothG pKey
  obtain ⟨s1, v, ⟨x, p⟩, y, q⟩ := H s hi hr
  dsimp only at q
  obtain ⟨_, i1, _⟩ := v.rem_le hi
  rw [iParser_key, sL12Sort, p, q]
  simp only [Option.bind_eq_bind, Option.bind_some]
  rw [takeKey_ok hT i1, maybe_ok hT i1 10 _ kd]
  simp only [Option.bind_some, iParser_key_J0]
  cases ha : cur T (keyT [65, 83, 67]) s1 with
  | true =>
    have hd : cur T (keyT [68, 69, 83, 67]) s1 = false := cur_ne ha (key_ne (.inr (by decide)))
    rw [tk_t ha, hd, tk_f hd]
    simp only [Bool.not_true, Bool.false_eq_true, if_false]
    rw [maybe_ok hT i1 9 _ ka, ha, tk_t ha]
    exact ⟨adv s1, .seq v (.iteT ha .nop), ⟨_, rfl⟩, _, rfl⟩
  | false =>
    rw [tk_f ha]
    simp only [Bool.not_false, if_true]
    rw [takeKey_ok hT i1]
    cases hd : cur T (keyT [68, 69, 83, 67]) s1 with
    | true =>
      rw [tk_t hd]
      exact ⟨adv s1, .seq v (.iteF ha (.iteT hd .nop)), ⟨_, rfl⟩, _, rfl⟩
    | false =>
      rw [tk_f hd]
      simp only [Bool.false_eq_true, if_false]
      rw [maybe_ok hT i1 9 _ ka, ha, tk_f ha]
      exact ⟨s1, .seq v (.iteF ha (.iteF hd .nop)), ⟨_, rfl⟩, _, rfl⟩

/-! parE -/
variable {T : List GToken}
theorem rem0_cur {c : GToken → Bool} {s : Ps} (h : rem T s ≤ 0) : cur T c s = false := by
  cases hc : cur T c s with
  | false => rfl
  | true => have := (rem_adv hc).1; omega
theorem comma_loop (hT : Tok T) {m : Nat} {α β γ δ : Type} {pX : Pr} {I : GParser → Option (α × GParser)} {S : GL12In → Option (β × GL12In)} {bi bs : Nat} {FI : List α → List GToken → Int → Bool → Option γ} {FS : List β → List GToken → Int → Bool → Option δ}
    (hFI : ∀ (l : List α) (s : Ps), In T s → l.length ≤ s.at_ + 1 → cur T (signT [44]) s = true → FI l T (s.at_ : Int) s.f = (I (PI T (adv s)) >>= fun (y : α × GParser) => (appG bi l ([y.1] : List α)) >>= fun l' => FI l' y.2.list y.2.at_ y.2.failed))
    (hFS : ∀ (l : List β) (s : Ps), In T s → l.length ≤ s.at_ + 1 → cur T (signT [44]) s = true → FS l T (s.at_ : Int) s.f = (S (PR T (adv s)) >>= fun (y : β × GL12In) => (appG bs l ([y.1] : List β)) >>= fun l' => FS l' y.2.t y.2.at_ y.2.bad))
    (hbi : bi ≤ 1000) (hbs : bs ≤ 1000) (H : ∀ s, In T s → rem T s ≤ m → BothG T pX I S s) :
    ∀ n, n ≤ m → ∀ s, In T s → rem T s ≤ n → ∃ s', Evp T (.lp (signT [44]) pX) s s' ∧ cur T (signT [44]) s' = false ∧ (∀ l : List α, l.length ≤ s.at_ + 1 → ∃ l' : List α, l'.length ≤ s'.at_ + 1 ∧ FI l T (s.at_ : Int) s.f = FI l' T (s'.at_ : Int) s'.f) ∧
      ∀ l : List β, l.length ≤ s.at_ + 1 → ∃ l' : List β, l'.length ≤ s'.at_ + 1 ∧ FS l T (s.at_ : Int) s.f = FS l' T (s'.at_ : Int) s'.f := by
  have room : ∀ {α : Type} {b : Nat} (l : List α) (x : α) (s : Ps), In T s → b ≤ 1000 → l.length ≤ s.at_ + 1 → appG b l [x] = some (l ++ [x]) := by
    intro α b l x s hi hb hl
    have h1 := hT.1
    have h2 : s.at_ ≤ T.length := hi
    refine appG_ok ?_
    have : (l.length + [x].length) * b ≤ 1048578 * 1000 := Nat.mul_le_mul (by simp; omega) hb
    omega
  intro n
  induction n with
  | zero =>
    intro _ s hi hr
    have hc := rem0_cur (T := T) (c := signT [44]) hr
    exact ⟨s, .lpF hc, hc, fun l hl => ⟨l, hl, rfl⟩, fun l hl => ⟨l, hl, rfl⟩⟩
  | succ n ih =>
    intro hm s hi hr
    cases hc : cur T (signT [44]) s with
    | false => exact ⟨s, .lpF hc, hc, fun l hl => ⟨l, hl, rfl⟩, fun l hl => ⟨l, hl, rfl⟩⟩
    | true =>
      obtain ⟨r1, i1⟩ := rem_adv hc
      obtain ⟨s1, v1, ⟨x, p⟩, y, q⟩ := H (adv s) i1 (by omega)
      obtain ⟨r2, i2, a2⟩ := v1.rem_le i1
      have a3 : s.at_ + 1 ≤ s1.at_ := a2
      obtain ⟨s2, v2, c2, f1, f2⟩ := ih (by omega) s1 i2 (by omega)
      refine ⟨s2, .lpT hc v1 v2, c2, fun l hl => ?_, fun l hl => ?_⟩
      · obtain ⟨l', k1, k2⟩ := f1 (l ++ [x]) (by simp; omega)
        refine ⟨l', k1, ?_⟩
        rw [hFI l s hi hl hc, p]
        simp only [Option.bind_eq_bind, Option.bind_some]
        rw [room l x s hi hbi hl]
        exact k2
      · obtain ⟨l', k1, k2⟩ := f2 (l ++ [y]) (by simp; omega)
        refine ⟨l', k1, ?_⟩
        rw [hFS l s hi hl hc, q]
        simp only [Option.bind_eq_bind, Option.bind_some]
        rw [room l y s hi hbs hl]
        exact k2
theorem both_g {k : Nat} {I : GParser → Option (GExpr × GParser)} {S : GL12In → Option (GExpr × GL12In)} {s : Ps} (h : Both T k I S s) : BothG T (.call k) I S s := h
theorem item_of (hT : Tok T) {m : Nat} (H : ∀ s, In T s → rem T s ≤ m → Both T 8 iParser_or (fun r => sL12Expr r 1) s) (s : Ps) (hi : In T s) (hr : rem T s ≤ m) : BothG T (.call 10) iParser_item sL12Item s := by
  unfold BothG
  rw [iParser_item, sL12Item, takeSign_ok hT hi]
  have n1 : sL12Next (PR T s) 1 = some (nxt T ⟨s.at_ + 1, s.f⟩) := next_ok hT hi 1 (by omega)
  have n2 : sL12Next (PR T s) 2 = some (nxt T ⟨s.at_ + 2, s.f⟩) := next_ok hT hi 2 (by omega)
  have j1 : iParser_is (PI T s) 1 5 [46] = some (cur T (isT 5 [46]) ⟨s.at_ + 1, s.f⟩) := is_ok hT hi 1 (by omega) 5 [46]
  have j2 : iParser_is (PI T s) 2 5 [42] = some (cur T (isT 5 [42]) ⟨s.at_ + 2, s.f⟩) := is_ok hT hi 2 (by omega) 5 [42]
  rw [n1, n2]
  simp only [Option.bind_eq_bind, Option.bind_some]
  rw [sign_s hT hi]
  cases hs : cur T (signT [42]) s with
  | true =>
    rw [tk_t hs]
    simp only [if_true, Option.bind_some]
    rw [step_true hT hs]
    exact ⟨adv s, .call (.iteT hs .nop), ⟨_, rfl⟩, _, rfl⟩
  | false =>
    rw [tk_f hs]
    simp only [Bool.false_eq_true, if_false, Option.bind_some]
    rw [isKind_ok hT hi, kind_s hT hi _ (by decide), j1, j2]
    simp only [Option.bind_some]
    have e1 : ∀ (w : List UInt8) (d : Nat), (decide ((nxt T ⟨s.at_ + d, s.f⟩).kind = 5) && decide ((nxt T ⟨s.at_ + d, s.f⟩).text = w)) = cur T (signT w) ⟨s.at_ + d, s.f⟩ := fun w d => nxt_cur (signT w) (isT0 5 w (by decide)) ⟨s.at_ + d, s.f⟩
    have d1 := e1 [46] 1
    have d2 := e1 [42] 2
    have hs3 : star3 T s = (cur T (kindT 2) s && cur T (isT 5 [46]) ⟨s.at_ + 1, s.f⟩ && cur T (isT 5 [42]) ⟨s.at_ + 2, s.f⟩) := rfl
    have d1 : (decide ((nxt T ⟨s.at_ + 1, s.f⟩).kind = 5) && decide ((nxt T ⟨s.at_ + 1, s.f⟩).text = [46])) = cur T (isT 5 [46]) ⟨s.at_ + 1, s.f⟩ := d1
    have d2 : (decide ((nxt T ⟨s.at_ + 2, s.f⟩).kind = 5) && decide ((nxt T ⟨s.at_ + 2, s.f⟩).text = [42])) = cur T (isT 5 [42]) ⟨s.at_ + 2, s.f⟩ := d2
    have key : ∀ (A B : Prop), (star3 T s = true → A) → (star3 T s = false → A) → A := fun A _ h1 h2 => by cases h : star3 T s; exact h2 h; exact h1 h
    cases hst : star3 T s with
    | true =>
      rw [hs3] at hst
      simp only [Bool.and_eq_true] at hst
      obtain ⟨⟨c0, c1⟩, c2⟩ := hst
      have hst : star3 T s = true := by rw [hs3, c0, c1, c2]; rfl
      rw [c1] at d1
      rw [c2] at d2
      simp only [Bool.and_eq_true, decide_eq_true_eq] at d1 d2
      obtain ⟨x, p, _⟩ := mustKind_ok hT hi 2
      obtain ⟨y, q⟩ := text_s hT hi 2 (by decide)
      have hm : mu T (kindT 2) s = adv s := by unfold mu; rw [c0]; rfl
      rw [hm] at p q
      obtain ⟨l2, hf⟩ := cur_lt c2
      have h1 := hT.1
      dsimp only at l2
      have c1' : cur T (isT 5 [46]) (adv s) = true := c1
      have c2' : cur T (isT 5 [42]) (adv (adv s)) = true := c2
      refine ⟨⟨s.at_ + 3, s.f⟩, .call (.iteF hs (.st3T hst)), ?_, ?_⟩
      · simp only [c0, c1, c2, Bool.true_and, beq_self_eq_true, if_true, Option.bind_some, Bool.and_self]
        rw [p]
        simp only [Option.bind_some]
        have : IntKind.wrap .i64 (((adv s).at_ : Int) + 2) = ((s.at_ + 3 : Nat) : Int) := by show IntKind.wrap .i64 (((s.at_ + 1 : Nat) : Int) + 2) = _; rw [wrap_ok (by omega) (by omega)]; omega
        rw [this]
        exact ⟨_, rfl⟩
      · simp only [c0, d1.1, d1.2, d2.1, d2.2, decide_true, if_true]
        rw [q]
        simp only [Option.bind_some]
        rw [step_true hT c1']
        simp only [Option.bind_some]
        rw [step_true hT c2']
        exact ⟨_, rfl⟩
    | false =>
      obtain ⟨s1, v1, ⟨x, p⟩, y, q⟩ := H s hi hr
      dsimp only at q
      obtain ⟨r1, i1, _⟩ := v1.rem_le hi
      obtain ⟨s2, v2, ⟨a, pa⟩, b, qb⟩ := as_of hT s1 i1
      refine ⟨s2, .call (.iteF hs (.st3F hst (.seq v1 v2))), ?_, ?_⟩
      · have : ∀ (b0 b1 b2 : Bool) (X Y : Option (GItem × GParser)), (b0 && b1 && b2) = false → ((if (true && (b0 == true)) = true then some b1 else some (default : Bool)).bind fun y3 => (if (true && ((if b0 = true then y3 else false) == true)) = true then some b2 else some (default : Bool)).bind fun y5 => if (if (if b0 = true then y3 else false) = true then y5 else false) = true then X else Y) = Y := by
          intro b0 b1 b2 X Y h; cases b0 <;> cases b1 <;> cases b2 <;> first | rfl | simp at h
        rw [this _ _ _ _ _ (by rw [← hs3]; exact hst), p]
        simp only [Option.bind_some, pa]
        exact ⟨_, rfl⟩
      · have : ∀ (b0 k1 t1 k2 t2 : Bool) (X Y : Option (GItem × GL12In)), (b0 && (k1 && t1) && (k2 && t2)) = false → (if (if (if (if (if b0 = true then k1 else false) = true then t1 else false) = true then k2 else false) = true then t2 else false) = true then X else Y) = Y := by
          intro b0 k1 t1 k2 t2 X Y h; cases b0 <;> cases k1 <;> cases t1 <;> cases k2 <;> cases t2 <;> first | rfl | simp at h
        rw [this _ _ _ _ _ _ _ (by rw [d1, d2, ← hs3]; exact hst)]
        rw [q]
        simp only [Option.bind_some, qb]
        exact ⟨_, rfl⟩

/-! parF -/
variable {T : List GToken}
def InOk (T : List GToken) (s : Ps) : Prop := ∀ (x y : GExpr) (n : Bool), ∃ s', Evp T pIn s s' ∧ (∃ e, iParser_in (PI T s) x n = some (e, PI T s')) ∧ ∃ e, sL12Within (PR T s) y n = some (e, PR T s')
theorem in_of (hT : Tok T) {m : Nat} (H : ∀ s, In T s → rem T s ≤ m → Both T 8 iParser_or (fun r => sL12Expr r 1) s) (HQ : ∀ s, In T s → rem T s ≤ m → BothG T (.call 9) iParser_query sL12Query s) (s : Ps) (hi : In T s) (hr : rem T s ≤ m) : InOk T s := by
  intro x0 y0 n
  have kS : sKeyText 1 = some [83, 69, 76, 69, 67, 84] := rfl
  obtain ⟨i1, r1, _⟩ := mu_in (c := signT [40]) hi
  rw [iParser_in, sL12Within, mustSign_ok hT hi, sign_s hT hi]
  simp only [Option.bind_eq_bind, Option.bind_some]
  rw [step_cur hT]
  simp only [Option.bind_some]
  rw [isKey_ok hT i1, key_s hT i1 1 _ kS]
  simp only [Option.bind_some]
  cases hc : cur T (keyT [83, 69, 76, 69, 67, 84]) (mu T (signT [40]) s) with
  | true =>
    obtain ⟨s2, v2, ⟨q, pq⟩, q', pq'⟩ := HQ _ i1 (by omega)
    obtain ⟨r2, i2, _⟩ := v2.rem_le i1
    simp only [if_true, pq, pq', Option.bind_some, iParser_in_J0]
    rw [mustSign_ok hT i2, sign_s hT i2]
    simp only [Option.bind_eq_bind, Option.bind_some]
    rw [step_cur hT]
    exact ⟨_, .seq .mst (.seq (.tstT hc v2) .mst), ⟨_, rfl⟩, _, rfl⟩
  | false =>
    obtain ⟨s2, v2, ⟨e, pe⟩, e', pe'⟩ := H _ i1 (by omega)
    dsimp only at pe'
    obtain ⟨r2, i2, a2⟩ := v2.rem_le i1
    have hlen := hT.1
    obtain ⟨s3, v3, c3, f1, f2⟩ := comma_loop hT (m := m) (pX := .call 8) (I := iParser_or) (S := fun r => sL12Expr r 1) (bi := 136) (bs := 136) (FI := iParser_ors_L0) (FS := fun l t a f => sL12Within_L0 n (y0 :: l) t a f)
      (fun l s hi hl hc => by
        rw [iParser_ors_L0, takeSign_ok hT hi, hc, tk_t hc]
        simp only [Option.bind_eq_bind, Option.bind_some, if_true])
      (fun l s hi hl hc => by
        rw [sL12Within_L0, sign_s hT hi, hc]
        simp only [Option.bind_eq_bind, Option.bind_some, if_true]
        rw [step_true hT hc]
        simp only [Option.bind_some]
        have h1 := hT.1
        have h2 : s.at_ ≤ T.length := hi
        refine congrArg (Option.bind (sL12Expr (PR T (adv s)) 1)) (funext fun z => ?_)
        have a1 : appG 136 l [z.1] = some (l ++ [z.1]) := appG_ok (by simp; omega)
        have a2 : appG 136 (y0 :: l) [z.1] = some (y0 :: (l ++ [z.1])) := by rw [appG_ok (by simp; omega), List.cons_append]
        rw [a1, a2, Option.bind_some, Option.bind_some])
      (by omega) (by omega) (fun s hi hr => H s hi hr) m (Nat.le_refl _) s2 i2 (by omega)
    obtain ⟨r3, i3, a3⟩ := v3.rem_le i2
    obtain ⟨l1, k1, g1⟩ := f1 [e] (by simp)
    obtain ⟨l2, k2, g2⟩ := f2 [e'] (by simp)
    have i3' : s3.at_ ≤ T.length := i3
    refine ⟨mu T (signT [41]) s3, .seq .mst (.seq (.tstF hc (.seq v2 v3)) .mst), ?_, ?_⟩
    · simp only [Bool.false_eq_true, if_false, Option.bind_some]
      rw [iParser_ors, pe]
      simp only [Option.bind_eq_bind, Option.bind_some]
      rw [g1, iParser_ors_L0, takeSign_ok hT i3, c3, tk_f c3]
      simp only [Option.bind_eq_bind, Option.bind_some, Bool.false_eq_true, if_false]
      have ap : appG 136 [x0] l1 = some ([x0] ++ l1) := appG_ok (by simp; omega)
      rw [ap]
      simp only [Option.bind_some, iParser_in_J0]
      rw [mustSign_ok hT i3]
      exact ⟨_, rfl⟩
    · simp only [Bool.false_eq_true, if_false, pe', Option.bind_some]
      rw [g2, sL12Within_L0, sign_s hT i3, c3]
      simp only [Option.bind_eq_bind, Option.bind_some, Bool.false_eq_true, if_false]
      rw [sign_s hT i3]
      simp only [Option.bind_some]
      rw [step_cur hT]
      exact ⟨_, rfl⟩
theorem app56 (hT : Tok T) {s : Ps} (hi : In T s) (l : List GSource) (x : GSource) (hl : l.length ≤ s.at_ + 1) : appG 56 l [x] = some (l ++ [x]) := by
  have h1 := hT.1
  have h2 : s.at_ ≤ T.length := hi
  exact appG_ok (by simp; omega)
theorem sources_of (hT : Tok T) {m : Nat} (H : ∀ s, In T s → rem T s ≤ m → Both T 8 iParser_or (fun r => sL12Expr r 1) s) (y3 : Bool × GL12In) (its : List GItem) :
    ∀ n, n ≤ m → ∀ s, In T s → rem T s ≤ n → ∃ s', Evp T (.lp2 (signT [44]) pSource (keyT [74, 79, 73, 78]) (.seq pSource (.seq (.mst (keyT [79, 78])) (.call 8)))) s s' ∧ cur T (signT [44]) s' = false ∧ cur T (keyT [74, 79, 73, 78]) s' = false ∧
      (∀ l : List GSource, l.length ≤ s.at_ + 1 → ∃ l', iParser_sources_L0 l T (s.at_ : Int) s.f = some (l', PI T s')) ∧ ∀ l : List GSource, l.length ≤ s.at_ + 1 → ∃ l', sL12Query_L1 y3 its l T (s.at_ : Int) s.f = sL12Query_L1 y3 its l' T (s'.at_ : Int) s'.f := by
  have kJ : sKeyText 4 = some [74, 79, 73, 78] := rfl
  have kO : sKeyText 5 = some [79, 78] := rfl
  have stop : ∀ s, In T s → cur T (signT [44]) s = false → cur T (keyT [74, 79, 73, 78]) s = false → ∃ s', Evp T (.lp2 (signT [44]) pSource (keyT [74, 79, 73, 78]) (.seq pSource (.seq (.mst (keyT [79, 78])) (.call 8)))) s s' ∧ cur T (signT [44]) s' = false ∧ cur T (keyT [74, 79, 73, 78]) s' = false ∧
      (∀ l : List GSource, l.length ≤ s.at_ + 1 → ∃ l', iParser_sources_L0 l T (s.at_ : Int) s.f = some (l', PI T s')) ∧ ∀ l : List GSource, l.length ≤ s.at_ + 1 → ∃ l', sL12Query_L1 y3 its l T (s.at_ : Int) s.f = sL12Query_L1 y3 its l' T (s'.at_ : Int) s'.f := by
    intro s hi h1 h2
    refine ⟨s, .lp2F h1 h2, h1, h2, fun l _ => ?_, fun l _ => ⟨l, rfl⟩⟩
    rw [iParser_sources_L0, takeSign_ok hT hi, h1, tk_f h1]
    simp only [Option.bind_eq_bind, Option.bind_some, Bool.false_eq_true, if_false]
    rw [takeKey_ok hT hi, h2, tk_f h2]
    exact ⟨_, rfl⟩
  intro n
  induction n with
  | zero => intro _ s hi hr; exact stop s hi (rem0_cur hr) (rem0_cur hr)
  | succ n ih =>
    intro hm s hi hr
    cases hc : cur T (signT [44]) s with
    | true =>
      have hj : cur T (keyT [74, 79, 73, 78]) s = false := cur_ne hc (key_ne (.inl (by decide)))
      obtain ⟨r1, i1⟩ := rem_adv hc
      obtain ⟨s1, v1, ⟨x, p⟩, y, q⟩ := source_of hT (adv s) i1
      obtain ⟨r2, i2, a2⟩ := v1.rem_le i1
      have a2 : s.at_ + 1 ≤ s1.at_ := a2
      obtain ⟨s2, v2, c1, c2, f1, f2⟩ := ih (by omega) s1 i2 (by omega)
      refine ⟨s2, .lp2A hc v1 v2, c1, c2, fun l hl => ?_, fun l hl => ?_⟩
      · obtain ⟨l', e⟩ := f1 (l ++ [x]) (by simp; omega)
        rw [iParser_sources_L0, takeSign_ok hT hi, hc, tk_t hc]
        simp only [Option.bind_eq_bind, Option.bind_some, if_true, p]
        rw [app56 hT hi l x hl]
        exact ⟨l', e⟩
      · obtain ⟨l', e⟩ := f2 (l ++ [GSource.mk y.table y.as_ y.on_]) (by simp; omega)
        refine ⟨l', ?_⟩
        rw [sL12Query_L1, sign_s hT hi, hc]
        simp only [Option.bind_eq_bind, Option.bind_some, if_true, Bool.true_and, beq_iff_eq, Bool.true_eq_false, if_false]
        rw [key_s hT hi 4 _ kJ, hj]
        simp only [Option.bind_some]
        rw [step_true hT hc]
        simp only [Option.bind_some, q, Bool.false_eq_true, if_false, sL12Query_J2]
        rw [app56 hT hi l _ hl]
        exact e
    | false =>
      cases hj : cur T (keyT [74, 79, 73, 78]) s with
      | false => exact stop s hi hc hj
      | true =>
        obtain ⟨r1, i1⟩ := rem_adv hj
        obtain ⟨s1, v1, ⟨x, p⟩, y, q⟩ := source_of hT (adv s) i1
        obtain ⟨r2, i2, a2⟩ := v1.rem_le i1
        have a2 : s.at_ + 1 ≤ s1.at_ := a2
        obtain ⟨i3, r3, _⟩ := mu_in (c := keyT [79, 78]) i2
        have a3 : s1.at_ ≤ (mu T (keyT [79, 78]) s1).at_ := (Evp.mono (.mst (c := keyT [79, 78])) i2).1
        obtain ⟨s4, v4, ⟨x4, p4⟩, y4, q4⟩ := H _ i3 (by omega)
        dsimp only at q4
        obtain ⟨r4, i4, a4⟩ := v4.rem_le i3
        obtain ⟨s5, v5, c1, c2, f1, f2⟩ := ih (by omega) s4 i4 (by omega)
        refine ⟨s5, .lp2B hc hj (.seq v1 (.seq .mst v4)) v5, c1, c2, fun l hl => ?_, fun l hl => ?_⟩
        · obtain ⟨l', e⟩ := f1 (l ++ [GSource.mk x.table x.as_ [x4]]) (by simp; omega)
          rw [iParser_sources_L0, takeSign_ok hT hi, hc, tk_f hc]
          simp only [Option.bind_eq_bind, Option.bind_some, Bool.false_eq_true, if_false]
          rw [takeKey_ok hT hi, hj, tk_t hj]
          simp only [Option.bind_some, if_true, p]
          rw [mustKey_ok hT i2]
          simp only [Option.bind_some, p4]
          rw [app56 hT hi l _ hl]
          exact ⟨l', e⟩
        · obtain ⟨l', e⟩ := f2 (l ++ [GSource.mk y.table y.as_ [y4]]) (by simp; omega)
          refine ⟨l', ?_⟩
          rw [sL12Query_L1, sign_s hT hi, hc]
          simp only [Option.bind_eq_bind, Option.bind_some, if_true, Bool.true_and, beq_self_eq_true, Bool.and_self]
          rw [key_s hT hi 4 _ kJ, hj]
          simp only [Option.bind_some, Bool.false_eq_true, if_false, if_true]
          rw [step_true hT hj]
          simp only [Option.bind_some, q, if_true]
          rw [key_s hT i2 5 _ kO]
          simp only [Option.bind_some]
          rw [step_cur hT]
          simp only [Option.bind_some, q4, sL12Query_J2]
          rw [app56 hT hi l _ hl]
          exact e

/-! parG -/
variable {T : List GToken}
theorem query_of (hT : Tok T) {m : Nat} (H : ∀ s, In T s → rem T s ≤ m → Both T 8 iParser_or (fun r => sL12Expr r 1) s) (s : Ps) (hi : In T s) (hr : rem T s ≤ m) : BothG T (.call 9) iParser_query sL12Query s := by
  have kS : sKeyText 1 = some [83, 69, 76, 69, 67, 84] := rfl
  have kD : sKeyText 2 = some [68, 73, 83, 84, 73, 78, 67, 84] := rfl
  have kF : sKeyText 3 = some [70, 82, 79, 77] := rfl
  have kO : sKeyText 7 = some [79, 82, 68, 69, 82] := rfl
  have kB : sKeyText 8 = some [66, 89] := rfl
  have kL : sKeyText 11 = some [76, 73, 77, 73, 84] := rfl
  have kJ : sKeyText 4 = some [74, 79, 73, 78] := rfl
  unfold BothG
  obtain ⟨i1, r1, _⟩ := mu_in (c := keyT [83, 69, 76, 69, 67, 84]) hi
  obtain ⟨i2, r2⟩ := tk_in (c := keyT [68, 73, 83, 84, 73, 78, 67, 84]) i1
  obtain ⟨s3, v3, ⟨x3, p3⟩, y3, q3⟩ := item_of hT H _ i2 (by omega)
  obtain ⟨r3, i3, a3⟩ := v3.rem_le i2
  rw [iParser_query, sL12Query, mustKey_ok hT hi, key_s hT hi 1 _ kS]
  simp only [Option.bind_eq_bind, Option.bind_some]
  rw [step_cur hT, takeKey_ok hT i1]
  simp only [Option.bind_some]
  rw [maybe_ok hT i1 2 _ kD]
  simp only [Option.bind_some, p3, q3]
  have a0 : ∀ {α : Type} (b : Nat) (x : α), b ≤ 1000 → appG b [] [x] = some [x] := fun b x hb => by rw [appG_ok (by simp; omega)]; rfl
  rw [a0 176 y3 (by omega)]
  simp only [Option.bind_some]
  generalize hyd : (cur T (keyT [68, 73, 83, 84, 73, 78, 67, 84]) (mu T (keyT [83, 69, 76, 69, 67, 84]) s), PI T (tk T (keyT [68, 73, 83, 84, 73, 78, 67, 84]) (mu T (keyT [83, 69, 76, 69, 67, 84]) s))) = yd
  generalize hye : (cur T (keyT [68, 73, 83, 84, 73, 78, 67, 84]) (mu T (keyT [83, 69, 76, 69, 67, 84]) s), PR T (tk T (keyT [68, 73, 83, 84, 73, 78, 67, 84]) (mu T (keyT [83, 69, 76, 69, 67, 84]) s))) = ye
  obtain ⟨s4, v4, c4, f1, f2⟩ := comma_loop hT (m := m) (pX := .call 10) (I := iParser_item) (S := sL12Item) (bi := 176) (bs := 176) (FI := fun l t a f => iParser_query_L0 yd l t a f) (FS := fun l t a f => sL12Query_L0 ye l t a f)
    (fun l s hi hl hc => by
      rw [iParser_query_L0, takeSign_ok hT hi, hc, tk_t hc]
      simp only [Option.bind_eq_bind, Option.bind_some, if_true])
    (fun l s hi hl hc => by
      rw [sL12Query_L0, sign_s hT hi, hc]
      simp only [Option.bind_eq_bind, Option.bind_some, if_true]
      rw [step_true hT hc]
      simp only [Option.bind_some])
    (by omega) (by omega) (fun s hi hr => item_of hT H s hi hr) m (Nat.le_refl _) s3 i3 (by omega)
  obtain ⟨r4, i4, a4⟩ := v4.rem_le i3
  obtain ⟨l1, k1, g1⟩ := f1 [x3] (by simp)
  obtain ⟨l2, k2, g2⟩ := f2 [y3] (by simp)
  have g1 : iParser_query_L0 yd [x3] T (s3.at_ : Int) s3.f = iParser_query_L0 yd l1 T (s4.at_ : Int) s4.f := g1
  have g2 : sL12Query_L0 ye [y3] T (s3.at_ : Int) s3.f = sL12Query_L0 ye l2 T (s4.at_ : Int) s4.f := g2
  rw [g1, g2, iParser_query_L0, sL12Query_L0, takeSign_ok hT i4, sign_s hT i4, c4, tk_f c4]
  simp only [Option.bind_eq_bind, Option.bind_some, Bool.false_eq_true, if_false]
  obtain ⟨i5, r5, _⟩ := mu_in (c := keyT [70, 82, 79, 77]) i4
  rw [mustKey_ok hT i4, key_s hT i4 3 _ kF]
  simp only [Option.bind_some]
  rw [step_cur hT]
  simp only [Option.bind_some]
  obtain ⟨s6, v6, ⟨x6, p6⟩, y6, q6⟩ := source_of hT _ i5
  obtain ⟨r6, i6, a6⟩ := v6.rem_le i5
  rw [iParser_sources, p6, q6]
  simp only [Option.bind_eq_bind, Option.bind_some]
  rw [a0 56 y6 (by omega)]
  simp only [Option.bind_some]
  obtain ⟨s7, v7, c7, c7', h1, h2⟩ := sources_of hT H ye l2 m (Nat.le_refl _) s6 i6 (by omega)
  obtain ⟨r7, i7, a7⟩ := v7.rem_le i6
  obtain ⟨L1, e1⟩ := h1 [x6] (by simp)
  obtain ⟨L2, e2⟩ := h2 [y6] (by simp)
  rw [e1, e2, sL12Query_L1, sign_s hT i7, c7]
  simp only [Option.bind_eq_bind, Option.bind_some, Bool.true_and, beq_self_eq_true, if_true, Bool.false_eq_true, if_false]
  rw [key_s hT i7 4 _ kJ, c7']
  simp only [Option.bind_some, Bool.false_eq_true, if_false]
  obtain ⟨s8, v8, ⟨x8, p8⟩, y8, q8⟩ := where_of hT H s7 i7 (by omega)
  obtain ⟨r8, i8, a8⟩ := v8.rem_le i7
  rw [p8, q8]
  simp only [Option.bind_some]
  rw [takeKey_ok hT i8, maybe_ok hT i8 7 _ kO]
  simp only [Option.bind_some]
  have pre : ∀ {q s'}, Evp T q s8 s' → Evp T (.call 9) s s' → Evp T (.call 9) s s' := fun _ h => h
  -- the end: LIMIT
  have lim : ∀ (s9 : Ps), In T s9 → ∀ (o1 : List GSortKey) (o2 : List GSortKey), ∃ s', Evp T (.ite (keyT [76, 73, 77, 73, 84]) (.mst (kindT 3)) .nop) s9 s' ∧ (∃ e, iParser_query_J2 yd l1 (L1, PI T s7) (x8, PI T s8) o1 T (s9.at_ : Int) s9.f = some (e, PI T s')) ∧ ∃ e, sL12Query_J4 ye l2 L2 (y8, PR T s8) o2 T (s9.at_ : Int) s9.f = some (e, PR T s') := by
    intro s9 i9 o1 o2
    unfold iParser_query_J2 sL12Query_J4
    rw [takeKey_ok hT i9, maybe_ok hT i9 11 _ kL]
    simp only [Option.bind_eq_bind, Option.bind_some]
    cases hc : cur T (keyT [76, 73, 77, 73, 84]) s9 with
    | false =>
      rw [tk_f hc]
      exact ⟨s9, .iteF hc .nop, ⟨_, rfl⟩, _, rfl⟩
    | true =>
      rw [tk_t hc]
      obtain ⟨_, i10⟩ := rem_adv hc
      obtain ⟨x, p⟩ := mustNumber_ok hT i10
      obtain ⟨y, q⟩ := text_s hT i10 3 (by decide)
      simp only [if_true, p, q, Option.bind_some, sNumber_ok]
      exact ⟨_, .iteT hc .mst, ⟨_, rfl⟩, _, rfl⟩
  have fin : ∀ {s9 s'}, Evp T (.ite (keyT [79, 82, 68, 69, 82]) (.seq (.mst (keyT [66, 89])) (.seq pKey (.lp (signT [44]) pKey))) .nop) s8 s9 → Evp T (.ite (keyT [76, 73, 77, 73, 84]) (.mst (kindT 3)) .nop) s9 s' → Evp T (.call 9) s s' := fun h9 h10 =>
    .call (.seq .mst (.seq ev_opt (.seq v3 (.seq v4 (.seq .mst (.seq (.seq v6 v7) (.seq v8 (.seq h9 h10))))))))
  cases hc : cur T (keyT [79, 82, 68, 69, 82]) s8 with
  | false =>
    rw [tk_f hc]
    obtain ⟨s', w, ⟨e, pe⟩, e', pe'⟩ := lim s8 i8 [] []
    simp only [Bool.false_eq_true, if_false, pe, pe']
    exact ⟨s', fin (.iteF hc .nop) w, ⟨_, rfl⟩, _, rfl⟩
  | true =>
    rw [tk_t hc]
    obtain ⟨r9, i9⟩ := rem_adv hc
    obtain ⟨i10, r10, _⟩ := mu_in (c := keyT [66, 89]) i9
    obtain ⟨s11, v11, ⟨x11, p11⟩, y11, q11⟩ := key_of hT H _ i10 (by omega)
    obtain ⟨r11, i11, a11⟩ := v11.rem_le i10
    simp only [if_true]
    rw [mustKey_ok hT i9, key_s hT i9 8 _ kB]
    simp only [Option.bind_some]
    rw [step_cur hT]
    simp only [Option.bind_some, p11, q11]
    rw [a0 144 y11 (by omega)]
    simp only [Option.bind_some]
    obtain ⟨s12, v12, c12, f1, f2⟩ := comma_loop hT (m := m) (pX := pKey) (I := iParser_key) (S := sL12Sort) (bi := 144) (bs := 144) (FI := fun l t a f => iParser_query_L1 yd l1 (L1, PI T s7) (x8, PI T s8) l t (a, f)) (FS := fun l t a f => sL12Query_L3 ye l2 L2 (y8, PR T s8) l t (a, f))
      (fun l s hi hl hc => by
        rw [iParser_query_L1, takeSign_ok hT hi, hc, tk_t hc]
        simp only [Option.bind_eq_bind, Option.bind_some, if_true])
      (fun l s hi hl hc => by
        rw [sL12Query_L3, sign_s hT hi, hc]
        simp only [Option.bind_eq_bind, Option.bind_some, if_true]
        rw [step_true hT hc]
        simp only [Option.bind_some])
      (by omega) (by omega) (fun s hi hr => key_of hT H s hi hr) m (Nat.le_refl _) s11 i11 (by omega)
    obtain ⟨r12, i12, a12⟩ := v12.rem_le i11
    obtain ⟨o1, _, g1⟩ := f1 [x11] (by simp)
    obtain ⟨o2, _, g2⟩ := f2 [y11] (by simp)
    have g1 : iParser_query_L1 yd l1 (L1, PI T s7) (x8, PI T s8) [x11] T ((s11.at_ : Int), s11.f) = iParser_query_L1 yd l1 (L1, PI T s7) (x8, PI T s8) o1 T ((s12.at_ : Int), s12.f) := g1
    have g2 : sL12Query_L3 ye l2 L2 (y8, PR T s8) [y11] T ((s11.at_ : Int), s11.f) = sL12Query_L3 ye l2 L2 (y8, PR T s8) o2 T ((s12.at_ : Int), s12.f) := g2
    obtain ⟨s', w, ⟨e, pe⟩, e', pe'⟩ := lim s12 i12 o1 o2
    rw [g1, g2, iParser_query_L1, sL12Query_L3, takeSign_ok hT i12, sign_s hT i12, c12, tk_f c12]
    simp only [Option.bind_eq_bind, Option.bind_some, Bool.false_eq_true, if_false, pe, pe']
    exact ⟨s', fin (.iteT hc (.seq .mst (.seq v11 v12))) w, ⟨_, rfl⟩, _, rfl⟩

/-! parH -/
variable {T : List GToken}
theorem mu_t {c : GToken → Bool} {s : Ps} (h : cur T c s = true) : mu T c s = adv s := by unfold mu; rw [h]; rfl
theorem mu_f {c : GToken → Bool} {s : Ps} (h : cur T c s = false) : mu T c s = bad s := by unfold mu; rw [h]; rfl
theorem prim_of (hT : Tok T) {m : Nat} (H : ∀ s, In T s → rem T s < m → Both T 8 iParser_or (fun r => sL12Expr r 1) s ∧ BothG T (.call 9) iParser_query sL12Query s) (s : Ps) (hi : In T s) (hr : rem T s ≤ m) : Both T 0 iParser_prim sL12Prim s := by
  have k20 : sKeyText 20 = some [78, 85, 76, 76] := rfl
  have k21 : sKeyText 21 = some [84, 82, 85, 69] := rfl
  have k22 : sKeyText 22 = some [70, 65, 76, 83, 69] := rfl
  have k19 : sKeyText 19 = some [69, 88, 73, 83, 84, 83] := rfl
  unfold Both
  rw [iParser_prim, sL12Prim, isKind_ok hT hi, kind_s hT hi 3 (by decide)]
  simp only [Option.bind_eq_bind, Option.bind_some]
  cases c3 : cur T (kindT 3) s with
  | true =>
    obtain ⟨x, p⟩ := mustNumber_ok hT hi
    obtain ⟨y, q⟩ := text_s hT hi 3 (by decide)
    rw [mu_t c3] at p q
    simp only [if_true, p, q, Option.bind_some, iIntValue, iLit, sNumber_ok]
    exact ⟨adv s, .call (.iteT c3 .nop), ⟨_, rfl⟩, _, rfl⟩
  | false =>
  simp only [Bool.false_eq_true, if_false]
  rw [isKind_ok hT hi, kind_s hT hi 4 (by decide)]
  simp only [Option.bind_some]
  cases c4 : cur T (kindT 4) s with
  | true =>
    obtain ⟨x, p, _⟩ := mustKind_ok hT hi 4
    obtain ⟨y, q⟩ := text_s hT hi 4 (by decide)
    rw [mu_t c4] at p q
    simp only [if_true, p, q, Option.bind_some, iTextValue, sTextValue, iLit]
    exact ⟨adv s, .call (.iteF c3 (.iteT c4 .nop)), ⟨_, rfl⟩, _, rfl⟩
  | false =>
  simp only [Bool.false_eq_true, if_false]
  rw [takeKey_ok hT hi, maybe_ok hT hi 20 _ k20]
  simp only [Option.bind_some]
  cases cn : cur T (keyT [78, 85, 76, 76]) s with
  | true =>
    rw [tk_t cn]
    simp only [if_true, Option.bind_some, iLit]
    exact ⟨adv s, .call (.iteF c3 (.iteF c4 (.iteT cn .nop))), ⟨_, rfl⟩, _, rfl⟩
  | false =>
  rw [tk_f cn]
  simp only [Bool.false_eq_true, if_false]
  rw [takeKey_ok hT hi, maybe_ok hT hi 21 _ k21]
  simp only [Option.bind_some]
  cases ct : cur T (keyT [84, 82, 85, 69]) s with
  | true =>
    rw [tk_t ct]
    simp only [if_true, Option.bind_some, iLit, iBoolValue, sBoolValue]
    exact ⟨adv s, .call (.iteF c3 (.iteF c4 (.iteF cn (.iteT ct .nop)))), ⟨_, rfl⟩, _, rfl⟩
  | false =>
  rw [tk_f ct]
  simp only [Bool.false_eq_true, if_false]
  rw [takeKey_ok hT hi, maybe_ok hT hi 22 _ k22]
  simp only [Option.bind_some]
  cases cf : cur T (keyT [70, 65, 76, 83, 69]) s with
  | true =>
    rw [tk_t cf]
    simp only [if_true, Option.bind_some, iLit, iBoolValue, sBoolValue, Bool.false_eq_true, if_false]
    exact ⟨adv s, .call (.iteF c3 (.iteF c4 (.iteF cn (.iteF ct (.iteT cf .nop))))), ⟨_, rfl⟩, _, rfl⟩
  | false =>
  rw [tk_f cf]
  simp only [Bool.false_eq_true, if_false]
  rw [isKind_ok hT hi, kind_s hT hi 2 (by decide)]
  simp only [Option.bind_some]
  have up : ∀ {q : Pr} {s'}, Evp T q s s' → (∀ {s'}, Evp T q s s' → Evp T (.ite (kindT 2) (.ite (signT [46]) (.mst (kindT 2)) .nop)
      (.ite (signT [40]) (.seq (.call 8) (.mst (signT [41]))) (.ite (keyT [69, 88, 73, 83, 84, 83]) (.seq (.mst (signT [40])) (.seq (.call 9) (.mst (signT [41])))) .bd))) s s') → Evp T (.call 0) s s' := fun v h =>
    .call (.iteF c3 (.iteF c4 (.iteF cn (.iteF ct (.iteF cf (h v))))))
  cases c2 : cur T (kindT 2) s with
  | true =>
    obtain ⟨x, p, _⟩ := mustKind_ok hT hi 2
    obtain ⟨y, q⟩ := text_s hT hi 2 (by decide)
    rw [mu_t c2] at p q
    obtain ⟨r1, i1⟩ := rem_adv c2
    simp only [if_true, p, q, Option.bind_some]
    rw [takeSign_ok hT i1, sign_s hT i1]
    simp only [Option.bind_some]
    cases cd : cur T (signT [46]) (adv s) with
    | true =>
      rw [tk_t cd]
      obtain ⟨r2, i2⟩ := rem_adv cd
      obtain ⟨x2, p2, _⟩ := mustKind_ok hT i2 2
      obtain ⟨y2, q2⟩ := text_s hT i2 2 (by decide)
      simp only [if_true, p2, Option.bind_some]
      rw [step_true hT cd]
      simp only [Option.bind_some, q2, sL12Prim_J0]
      exact ⟨_, .call (.iteF c3 (.iteF c4 (.iteF cn (.iteF ct (.iteF cf (.iteT c2 (.iteT cd .mst))))))), ⟨_, rfl⟩, _, rfl⟩
    | false =>
      rw [tk_f cd]
      simp only [Bool.false_eq_true, if_false, sL12Prim_J0]
      exact ⟨_, .call (.iteF c3 (.iteF c4 (.iteF cn (.iteF ct (.iteF cf (.iteT c2 (.iteF cd .nop))))))), ⟨_, rfl⟩, _, rfl⟩
  | false =>
  simp only [Bool.false_eq_true, if_false]
  rw [takeSign_ok hT hi, maybe_ok hT hi 19 _ k19]
  simp only [Option.bind_some]
  cases co : cur T (signT [40]) s with
  | true =>
    have ce : cur T (keyT [69, 88, 73, 83, 84, 83]) s = false := cur_ne co (key_ne (.inl (by decide)))
    rw [tk_t co, ce, tk_f ce]
    obtain ⟨r1, i1⟩ := rem_adv co
    obtain ⟨⟨s2, v2, ⟨x, p⟩, y, q⟩, _⟩ := H (adv s) i1 (by omega)
    dsimp only at q
    obtain ⟨r2, i2, _⟩ := v2.rem_le i1
    simp only [if_true, p, Option.bind_some, Bool.false_eq_true, if_false]
    rw [mustSign_ok hT i2, sign_s hT hi, co]
    simp only [Option.bind_some]
    rw [step_true hT co]
    have hb : (adv s).f = false := (cur_lt co).2
    simp only [Option.bind_some, q, hb, Bool.false_eq_true, if_false]
    rw [sign_s hT i2]
    simp only [Option.bind_some]
    rw [step_cur hT]
    exact ⟨_, .call (.iteF c3 (.iteF c4 (.iteF cn (.iteF ct (.iteF cf (.iteF c2 (.iteT co (.seq v2 .mst)))))))), ⟨_, rfl⟩, _, rfl⟩
  | false =>
  rw [tk_f co]
  simp only [Bool.false_eq_true, if_false]
  rw [takeKey_ok hT hi]
  simp only [Option.bind_some]
  cases ce : cur T (keyT [69, 88, 73, 83, 84, 83]) s with
  | true =>
    rw [tk_t ce]
    obtain ⟨r1, i1⟩ := rem_adv ce
    obtain ⟨i2, r2, _⟩ := mu_in (c := signT [40]) i1
    obtain ⟨_, ⟨s3, v3, ⟨x, p⟩, y, q⟩⟩ := H _ i2 (by omega)
    obtain ⟨r3, i3, _⟩ := v3.rem_le i2
    simp only [if_true]
    rw [mustSign_ok hT i1, sign_s hT i1]
    simp only [Option.bind_some, p]
    rw [step_cur hT, mustSign_ok hT i3]
    simp only [Option.bind_some, q]
    rw [sign_s hT i3]
    simp only [Option.bind_some]
    rw [step_cur hT]
    exact ⟨_, .call (.iteF c3 (.iteF c4 (.iteF cn (.iteF ct (.iteF cf (.iteF c2 (.iteF co (.iteT ce (.seq .mst (.seq v3 .mst)))))))))), ⟨_, rfl⟩, _, rfl⟩
  | false =>
    rw [tk_f ce]
    simp only [Bool.false_eq_true, if_false]
    rw [sign_s hT hi, co]
    simp only [Option.bind_some]
    have := step_cur hT (s := s) (signT [40])
    rw [co, mu_f co] at this
    rw [this]
    have hb : (bad s).f = true := rfl
    simp only [Option.bind_some, hb, if_true]
    exact ⟨bad s, .call (.iteF c3 (.iteF c4 (.iteF cn (.iteF ct (.iteF cf (.iteF c2 (.iteF co (.iteF ce .bd)))))))), ⟨_, rfl⟩, _, rfl⟩
theorem cmp_of (hT : Tok T) {m : Nat} (HC : ∀ s, In T s → rem T s ≤ m → Both T 4 iParser_cat (fun r => sL12Expr r 5) s) (HI : ∀ s, In T s → rem T s < m → InOk T s) (s : Ps) (hi : In T s) (hr : rem T s ≤ m) : Both T 5 iParser_cmp (fun r => sL12Expr r 4) s := by
  have k16 : sKeyText 16 = some [73, 83] := rfl
  have k15 : sKeyText 15 = some [78, 79, 84] := rfl
  have k20 : sKeyText 20 = some [78, 85, 76, 76] := rfl
  have k18 : sKeyText 18 = some [66, 69, 84, 87, 69, 69, 78] := rfl
  have k13 : sKeyText 13 = some [65, 78, 68] := rfl
  have k17 : sKeyText 17 = some [73, 78] := rfl
  obtain ⟨s1, v1, ⟨x, p⟩, y, q⟩ := HC s hi hr
  dsimp only at q
  obtain ⟨r1, i1, _⟩ := v1.rem_le hi
  obtain ⟨op, e1, e2⟩ := takeOp_ok hT i1 [3, 4, 5, 6, 7, 8] (by decide) (by decide)
  obtain ⟨op', f1, f0, f2⟩ := op_s hT i1 4 [3, 4, 5, 6, 7, 8] (by simp)
  unfold Both
  dsimp only
  rw [sL12Expr]
  simp only [Int.reduceEq, decide_false, decide_true, Bool.false_eq_true, if_false, if_true]
  rw [iParser_cmp, sL12Cmp, p, q]
  simp only [Option.bind_eq_bind, Option.bind_some]
  rw [e1, f1]
  simp only [Option.bind_some]
  cases co : cur T (opT [3, 4, 5, 6, 7, 8]) s1 with
  | true =>
    have h1 : op ≠ 0 := fun h => by rw [e2.1 h] at co; exact absurd co (by simp)
    have h2 : op' ≠ 0 := fun h => by rw [f2.1 h] at co; exact absurd co (by simp)
    have h3 : 0 < op' := by omega
    rw [tk_t co]
    obtain ⟨r2, i2⟩ := rem_adv co
    obtain ⟨s3, v3, ⟨x3, p3⟩, y3, q3⟩ := HC (adv s1) i2 (by omega)
    dsimp only at q3
    simp only [h1, h3, decide_false, decide_true, Bool.not_false, if_true, p3, Option.bind_some, iBin]
    rw [step_true hT co]
    simp only [Option.bind_some, q3]
    exact ⟨s3, .call (.seq v1 (.iteT co v3)), ⟨_, rfl⟩, _, rfl⟩
  | false =>
  have h1 := e2.2 co
  have h2 := f2.2 co
  rw [tk_f co]
  simp only [h1, h2, decide_true, Bool.not_true, Bool.false_eq_true, if_false, Int.lt_irrefl, decide_false]
  rw [takeKey_ok hT i1, maybe_ok hT i1 16 _ k16]
  simp only [Option.bind_some]
  cases cs : cur T (keyT [73, 83]) s1 with
  | true =>
    rw [tk_t cs]
    obtain ⟨r2, i2⟩ := rem_adv cs
    obtain ⟨i3, r3⟩ := tk_in (c := keyT [78, 79, 84]) i2
    simp only [if_true]
    rw [takeKey_ok hT i2, maybe_ok hT i2 15 _ k15]
    simp only [Option.bind_some]
    rw [mustKey_ok hT i3, key_s hT i3 20 _ k20]
    simp only [Option.bind_some]
    rw [step_cur hT]
    exact ⟨_, .call (.seq v1 (.iteF co (.iteT cs (.seq ev_opt .mst)))), ⟨_, rfl⟩, _, rfl⟩
  | false =>
  rw [tk_f cs]
  simp only [Bool.false_eq_true, if_false]
  rw [takeKey_ok hT i1, maybe_ok hT i1 15 _ k15]
  simp only [Option.bind_some]
  obtain ⟨i2, r2⟩ := tk_in (c := keyT [78, 79, 84]) i1
  have up : ∀ {s'}, Evp T (pX (cur T (keyT [78, 79, 84]) s1)) (tk T (keyT [78, 79, 84]) s1) s' → Evp T (.call 5) s s' := by
    intro s' v
    refine .call (.seq v1 (.iteF co (.iteF cs ?_)))
    cases cn : cur T (keyT [78, 79, 84]) s1 with
    | true => rw [tk_t cn, cn] at v; exact .iteT cn v
    | false => rw [tk_f cn, cn] at v; exact .iteF cn v
  generalize cur T (keyT [78, 79, 84]) s1 = n at up ⊢
  generalize tk T (keyT [78, 79, 84]) s1 = s2 at up i2 r2 ⊢
  rw [takeKey_ok hT i2, maybe_ok hT i2 18 _ k18]
  simp only [Option.bind_some]
  cases cb : cur T (keyT [66, 69, 84, 87, 69, 69, 78]) s2 with
  | true =>
    rw [tk_t cb]
    obtain ⟨r3, i3⟩ := rem_adv cb
    obtain ⟨s4, v4, ⟨x4, p4⟩, y4, q4⟩ := HC _ i3 (by omega)
    dsimp only at q4
    obtain ⟨r4, i4, _⟩ := v4.rem_le i3
    obtain ⟨i5, r5, _⟩ := mu_in (c := keyT [65, 78, 68]) i4
    obtain ⟨s6, v6, ⟨x6, p6⟩, y6, q6⟩ := HC _ i5 (by omega)
    dsimp only at q6
    simp only [if_true, p4, q4, Option.bind_some]
    rw [mustKey_ok hT i4, key_s hT i4 13 _ k13]
    simp only [Option.bind_some, p6]
    rw [step_cur hT]
    simp only [Option.bind_some, q6]
    exact ⟨_, up (.iteT cb (.seq v4 (.seq .mst v6))), ⟨_, rfl⟩, _, rfl⟩
  | false =>
  rw [tk_f cb]
  simp only [Bool.false_eq_true, if_false]
  rw [takeKey_ok hT i2, maybe_ok hT i2 17 _ k17]
  simp only [Option.bind_some]
  cases ci : cur T (keyT [73, 78]) s2 with
  | true =>
    rw [tk_t ci]
    obtain ⟨r3, i3⟩ := rem_adv ci
    obtain ⟨s4, v4, ⟨x4, p4⟩, y4, q4⟩ := HI _ i3 (by omega) x y n
    simp only [if_true, p4, q4, Option.bind_some]
    exact ⟨_, up (.iteF cb (.iteT ci v4)), ⟨_, rfl⟩, _, rfl⟩
  | false =>
    rw [tk_f ci]
    simp only [Bool.false_eq_true, if_false, Option.bind_some, sL12Cmp_J0]
    cases n with
    | true =>
      refine ⟨bad s2, up (.iteF cb (.iteF ci .bd)), ?_, _, rfl⟩
      have : (if s2.f = true then true else true) = true := by cases s2.f <;> rfl
      rw [this]
      exact ⟨_, rfl⟩
    | false =>
      refine ⟨s2, up (.iteF cb (.iteF ci .nop)), ?_, _, rfl⟩
      have : (if s2.f = true then true else false) = s2.f := by cases s2.f <;> rfl
      rw [this]
      exact ⟨_, rfl⟩
/-- the whole grammar -/
theorem both_all (hT : Tok T) : ∀ m s, In T s → rem T s < m → Both T 8 iParser_or (fun r => sL12Expr r 1) s ∧ BothG T (.call 9) iParser_query sL12Query s := by
  intro m
  induction m with
  | zero => intro s _ h; omega
  | succ m ih =>
    have h0 : ∀ s, In T s → rem T s ≤ m → Both T 0 iParser_prim sL12Prim s := fun s hi hr => prim_of hT ih s hi hr
    have h1 := neg_of hT m h0
    have h2 : ∀ s, In T s → rem T s ≤ m → Both T 2 iParser_prod (fun r => sL12Expr r 7) s :=
      chain_of hT (A := iParser_neg) (C := iParser_chain_iParser_neg) (L := iParser_chain_iParser_neg_L0) (ops := [12, 13, 14]) (lv := 7) (kA := 1) (k := 2) (fun p => by rw [iParser_prod]) (fun p => by rw [iParser_chain_iParser_neg]) (fun _ _ _ _ _ _ => by rw [iParser_chain_iParser_neg_L0]) (by simp) (by decide) rfl h1
    have h3 : ∀ s, In T s → rem T s ≤ m → Both T 3 iParser_sum (fun r => sL12Expr r 6) s :=
      chain_of hT (A := iParser_prod) (C := iParser_chain_iParser_prod) (L := iParser_chain_iParser_prod_L0) (ops := [10, 11]) (lv := 6) (kA := 2) (k := 3) (fun p => by rw [iParser_sum]) (fun p => by rw [iParser_chain_iParser_prod]) (fun _ _ _ _ _ _ => by rw [iParser_chain_iParser_prod_L0]) (by simp) (by decide) rfl h2
    have h4 : ∀ s, In T s → rem T s ≤ m → Both T 4 iParser_cat (fun r => sL12Expr r 5) s :=
      chain_of hT (A := iParser_sum) (C := iParser_chain_iParser_sum) (L := iParser_chain_iParser_sum_L0) (ops := [9]) (lv := 5) (kA := 3) (k := 4) (fun p => by rw [iParser_cat]) (fun p => by rw [iParser_chain_iParser_sum]) (fun _ _ _ _ _ _ => by rw [iParser_chain_iParser_sum_L0]) (by simp) (by decide) rfl h3
    have hI : ∀ s, In T s → rem T s < m → InOk T s := fun s hi hr =>
      in_of hT (m := m - 1) (fun s hi hr => (ih s hi (by omega)).1) (fun s hi hr => (ih s hi (by omega)).2) s hi (by omega)
    have h5 : ∀ s, In T s → rem T s ≤ m → Both T 5 iParser_cmp (fun r => sL12Expr r 4) s := fun s hi hr => cmp_of hT h4 hI s hi hr
    have h6 := not_of hT m h5
    have h7 : ∀ s, In T s → rem T s ≤ m → Both T 7 iParser_and (fun r => sL12Expr r 2) s :=
      chain_of hT (A := iParser_not) (C := iParser_chain_iParser_not) (L := iParser_chain_iParser_not_L0) (ops := [2]) (lv := 2) (kA := 6) (k := 7) (fun p => by rw [iParser_and]) (fun p => by rw [iParser_chain_iParser_not]) (fun _ _ _ _ _ _ => by rw [iParser_chain_iParser_not_L0]) (by simp) (by decide) rfl h6
    have h8 : ∀ s, In T s → rem T s ≤ m → Both T 8 iParser_or (fun r => sL12Expr r 1) s :=
      chain_of hT (A := iParser_and) (C := iParser_chain_iParser_and) (L := iParser_chain_iParser_and_L0) (ops := [1]) (lv := 1) (kA := 7) (k := 8) (fun p => by rw [iParser_or]) (fun p => by rw [iParser_chain_iParser_and]) (fun _ _ _ _ _ _ => by rw [iParser_chain_iParser_and_L0]) (by simp) (by decide) rfl h7
    exact fun s hi hr => ⟨h8 s hi (by omega), query_of hT h8 s hi (by omega)⟩
theorem endI (hT : Tok T) (s : Ps) (hi : In T s) : iParser_end (PI T s) = some (if s.f = false ∧ s.at_ = T.length then -1 else (s.at_ : Int)) ∧ sL12End (PR T s) = some (if s.f = false ∧ s.at_ = T.length then -1 else (s.at_ : Int)) := by
  have h1 : s.at_ ≤ T.length := hi
  have e : (s.at_ : Int) = (T.length : Int) ↔ s.at_ = T.length := by omega
  constructor
  · unfold iParser_end
    cases hf : s.f <;> by_cases h : s.at_ = T.length <;> simp [hf, h]
    all_goals omega
  · unfold sL12End
    cases hf : s.f <;> by_cases h : s.at_ = T.length <;> simp [hf, h]
    all_goals omega
theorem takeExpr_eq (hT : Tok T) : ∃ a b w, iTakeExpr T = some (a, w) ∧ sTakeExpr T = some (b, w) := by
  have hi : In T ⟨0, false⟩ := Nat.zero_le _
  obtain ⟨⟨s, v, ⟨x, p⟩, y, q⟩, _⟩ := both_all hT _ ⟨0, false⟩ hi (Nat.lt_succ_self _)
  dsimp only at q
  obtain ⟨_, i1, _⟩ := v.rem_le hi
  obtain ⟨e1, e2⟩ := endI hT s i1
  have p : iParser_or (GParser.mk T 0 false) = some (x, PI T s) := p
  have q : sL12Expr (GL12In.mk T 0 false) 1 = some (y, PR T s) := q
  unfold iTakeExpr sTakeExpr
  rw [p, q]
  simp only [Option.bind_eq_bind, Option.bind_some]
  rw [e1, e2]
  simp only [Option.bind_some]
  split
  · exact ⟨_, _, _, rfl, rfl⟩
  · exact ⟨_, _, _, rfl, rfl⟩
theorem begins_eq (hT : Tok T) : ∃ r, iBegins T = some r ∧ sBegins T = some r := by
  obtain ⟨a, b, w, h1, h2⟩ := takeExpr_eq hT
  unfold iBegins sBegins
  rw [h1, h2]
  exact ⟨_, rfl, rfl⟩

/-! trees0 -/
/-- how much a list holds -/
def zL {α : Type} (z : α → Nat) (l : List α) : Nat := l.length + (l.map z).sum
def z0 {α : Type} (_ : α) : Nat := 0
/-- the size of a value, taken off what is left -/
def SzOk {α : Type} (F : α → Int → Option Int) (z : α → Nat) (x : α) : Prop := ∀ n : Int, 0 ≤ n → n ≤ 1048576 → F x n = some (if (z x : Int) ≤ n then n - (z x : Int) else -1)
theorem sum_map_cons {α : Type} (z : α → Nat) (x : α) (l : List α) : ((x :: l).map z).sum = z x + (l.map z).sum := by simp
theorem szLoop_ok {α : Type} {p : List α} {F : α → Int → Option Int} {z : α → Nat} {L : Int → Int → Option Int} (hp : p.length ≤ 1048576)
    (hL : ∀ (i : Nat) (x : Int), L x (i : Int) = if (decide ((i : Int) < (p.length : Int))) = true then ((idx p (i : Int)) >>= fun y => (F y x) >>= fun r => if (decide (r < 0)) = true then (some (-1)) else L r (IntKind.wrap .i64 ((i : Int) + 1))) else some x)
    (H : ∀ y ∈ p, SzOk F z y) : ∀ n : Int, 0 ≤ n → n ≤ 1048576 → L n 0 = some (if ((p.map z).sum : Int) ≤ n then n - ((p.map z).sum : Int) else -1) := by
  have key : ∀ i, i ≤ p.length → ∀ n : Int, 0 ≤ n → n ≤ 1048576 → L n (i : Nat) = some (if (((p.drop i).map z).sum : Int) ≤ n then n - (((p.drop i).map z).sum : Int) else -1) := by
    refine back_ind ?_ ?_
    · intro n h0 h1
      rw [hL]; simp [h0]
    · intro i hi ih n h0 h1
      rw [hL, idx_lt hi, wrap_next hi (by omega)]
      rw [List.drop_eq_getElem_cons hi, sum_map_cons]
      simp only [Option.bind_eq_bind, Option.bind_some, lt_dec, hi, decide_true, if_true, H _ (List.getElem_mem hi) n h0 h1]
      by_cases hz : (z p[i] : Int) ≤ n
      · rw [if_pos hz, if_neg (by simp; omega), ih _ (by omega) (by omega)]
        congr 1
        by_cases hr : (((p.drop (i + 1)).map z).sum : Int) ≤ n - z p[i]
        · rw [if_pos hr, if_pos (by omega)]; omega
        · rw [if_neg hr, if_neg (by omega)]
      · rw [if_neg hz, if_pos (by decide), if_neg (by omega)]
  intro n h0 h1
  have := key 0 (by omega) n h0 h1
  simpa using this
theorem szS_ok {α : Type} {p : List α} {F : α → Int → Option Int} {z : α → Nat} {L : Int → Int → Option Int} {S : List α → Int → Option Int} (hp : p.length ≤ 9223372036854775807)
    (hS : ∀ n, S p n = if (decide ((IntKind.wrap .i64 (n - (p.length : Int))) < 0)) = true then (some (-1)) else L (IntKind.wrap .i64 (n - (p.length : Int))) 0)
    (hL : ∀ (i : Nat) (x : Int), L x (i : Int) = if (decide ((i : Int) < (p.length : Int))) = true then ((idx p (i : Int)) >>= fun y => (F y x) >>= fun r => if (decide (r < 0)) = true then (some (-1)) else L r (IntKind.wrap .i64 ((i : Int) + 1))) else some x)
    (H : ∀ y ∈ p, SzOk F z y) : SzOk S (zL z) p := by
  intro n h0 h1
  have hz : ((zL z p : Nat) : Int) = (p.length : Int) + ((p.map z).sum : Int) := by unfold zL; omega
  rw [hS, wrap_ok (by omega) (by omega), hz]
  by_cases hl : n - (p.length : Int) < 0
  · rw [if_pos (by simpa using hl), if_neg (by omega)]
  · rw [if_neg (by simpa using hl), szLoop_ok (by omega) hL H _ (by omega) (by omega)]
    congr 1
    by_cases hr : ((p.map z).sum : Int) ≤ n - p.length
    · rw [if_pos hr, if_pos (by omega)]; omega
    · rw [if_neg hr, if_neg (by omega)]
theorem szInts_ok {α : Type} {p : List α} {S : List α → Int → Option Int} (hp : p.length ≤ 9223372036854775807)
    (hS : ∀ n, S p n = if (decide ((IntKind.wrap .i64 (n - (p.length : Int))) < 0)) = true then (some (-1)) else (some (IntKind.wrap .i64 (n - (p.length : Int))))) : SzOk S (zL z0) p := by
  intro n h0 h1
  have hs : (p.map z0).sum = 0 := by
    clear hS hp
    induction p with
    | nil => rfl
    | cons x p ih => rw [sum_map_cons, ih]; rfl
  have hz : ((zL z0 p : Nat) : Int) = (p.length : Int) := by unfold zL; omega
  rw [hS, wrap_ok (by omega) (by omega), hz]
  by_cases hl : n - (p.length : Int) < 0
  · rw [if_pos (by simpa using hl), if_neg (by omega)]
  · rw [if_neg (by simpa using hl), if_pos (by omega)]
/-- the size of a string -/
def szStr (y : List UInt8) (n : Int) : Option Int := if (decide ((IntKind.wrap .i64 (n - (y.length : Int))) < 0)) = true then (some (-1)) else (some (IntKind.wrap .i64 (n - (y.length : Int))))
theorem szStr_ok (y : List UInt8) (hy : y.length ≤ 9223372036854775807) : SzOk szStr List.length y := by
  intro n h0 h1
  unfold szStr
  rw [wrap_ok (by omega) (by omega)]
  by_cases hl : n - (y.length : Int) < 0
  · rw [if_pos (by simpa using hl), if_neg (by omega)]
  · rw [if_neg (by simpa using hl), if_pos (by omega)]
theorem szStr_bind (y : List UInt8) (x : Int) (K : Int → Option Int) : (if (decide ((IntKind.wrap .i64 (x - (y.length : Int))) < 0)) = true then (some (-1)) else K (IntKind.wrap .i64 (x - (y.length : Int)))) = ((szStr y x) >>= fun r => if (decide (r < 0)) = true then (some (-1)) else K r) := by
  unfold szStr
  by_cases h : (IntKind.wrap .i64 (x - (y.length : Int))) < 0
  · rw [if_pos (by simpa using h), if_pos (by simpa using h)]; rfl
  · rw [if_neg (by simpa using h), if_neg (by simpa using h)]
    simp only [Option.bind_eq_bind, Option.bind_some]
    rw [if_neg (by simpa using h)]
/-- a copy -/
theorem toS_ok {α : Type} {p : List α} {W : α → Option α} {by' : Nat} {d : α} {L : Int → List α → Option (List α)} {S : Option (List α)} (hp : p.length ≤ 1048576) (hby : by' ≤ 134217728)
    (hS : S = (mkG by' (p.length : Int) d >>= fun y => L 0 y))
    (hL : ∀ (i : Nat) b, L (i : Int) b = if (decide ((i : Int) < (p.length : Int))) = true then ((idx p (i : Int)) >>= fun y2 => (W y2) >>= fun y3 => (idx b (i : Int)) >>= fun _ => (setG b (i : Int) y3) >>= fun y5 => L (IntKind.wrap .i64 ((i : Int) + 1)) y5) else some b)
    (H : ∀ y ∈ p, W y = some y) : S = some p := by
  have hm : (p.length : Int) * by' ≤ 140737488355328 := by
    have : (p.length : Int) * by' ≤ 1048576 * 134217728 := Int.mul_le_mul (by omega) (by omega) (by omega) (by omega)
    omega
  rw [hS, mkG_ok hm]
  simp only [Option.bind_eq_bind, Option.bind_some]
  refine copy_all (F := L) (by omega) (fun i b hb => ?_) _ (by simp)
  rw [hL]
  simp only [lt_dec, decide_eq_true_eq, Option.bind_eq_bind]
  split
  · rename_i hi
    have e : idx b (i : Int) = some b[i] := idx_lt (by omega)
    rw [idx_lt hi]
    simp only [Option.bind_some, H _ (List.getElem_mem hi), e]
  · rfl
/-- equal to itself -/
theorem eqS_ok {α : Type} {p : List α} {E : α → α → Option Bool} {L : Int → Option Bool} {S : List α → List α → Option Bool} (hp : p.length ≤ 1048576)
    (hS : S p p = if (!decide ((p.length : Int) = (p.length : Int))) = true then (some false) else L 0)
    (hL : ∀ i : Nat, L (i : Int) = if (decide ((i : Int) < (p.length : Int))) = true then ((idx p (i : Int)) >>= fun y1 => (idx p (i : Int)) >>= fun y2 => (E y1 y2) >>= fun y3 => if (!y3) = true then (some false) else L (IntKind.wrap .i64 ((i : Int) + 1))) else some true)
    (H : ∀ y ∈ p, E y y = some true) : S p p = some true := by
  have key : ∀ i, i ≤ p.length → L (i : Nat) = some true := by
    refine back_ind ?_ ?_
    · rw [hL]; simp
    · intro i hi ih
      rw [hL]
      simp only [lt_dec, idx_lt hi, wrap_next hi (by omega), H _ (List.getElem_mem hi), Option.bind_eq_bind, Option.bind_some, ih]
      simp
  rw [hS]
  have := key 0 (by omega)
  simpa using this
theorem le_sum {α : Type} {z : α → Nat} : ∀ {p : List α} {y : α}, y ∈ p → z y ≤ (p.map z).sum
  | x :: p, y, h => by
    rw [sum_map_cons]
    rcases List.mem_cons.1 h with rfl | h
    · omega
    · have := le_sum (z := z) h; omega

/-! trees -/
def zGToken : GToken → Nat
  | ⟨a0, a1, a2⟩ => a1.length
theorem szGToken_ok : ∀ x : GToken, okGToken x → SzOk wSzToken zGToken x
  | ⟨a0, a1, a2⟩, h => by
    simp only [okGToken] at h
    obtain ⟨o0, o1, o2⟩ := h
    intro n h0 h1
    have b1 : a1.length ≤ 9223372036854775807 := o1
    have hz : ((zGToken ⟨a0, a1, a2⟩ : Nat) : Int) = (a1.length : Int) := by simp only [zGToken] <;> omega
    rw [hz, wSzToken]
    dsimp only
    rw [wrap_ok (n := n - (a1.length : Int)) (by omega) (by omega)]
    by_cases r1 : n - (a1.length : Int) < 0
    · rw [if_pos (by simpa using r1), if_neg (by omega)]
    rw [if_neg (by simpa using r1)]
    first | done | (rw [if_pos (by omega)]; done) | (rw [if_pos (by omega)]; congr 1 <;> omega) | (congr 1 <;> omega)
theorem toGToken_ok : ∀ x : GToken, zGToken x ≤ 1048576 → wToToken x = some x
  | ⟨a0, a1, a2⟩, hz => by
    simp only [zGToken] at hz
    rw [wToToken]
theorem eqGToken_ok : ∀ x : GToken, zGToken x ≤ 1048576 → wEqToken x x = some true
  | ⟨a0, a1, a2⟩, hz => by
    simp only [zGToken] at hz
    rw [wEqToken]
    simp
theorem szGTokenS_ok (p : (List GToken)) (h : (okL okGToken) p) : SzOk wSzTokenS (zL zGToken) p := szS_ok (F := wSzToken) h.1 (fun n => by rw [wSzTokenS]) (fun i x => by rw [wSzTokenS_L0]) (fun y hy => szGToken_ok y (h.2 y hy))
theorem toGTokenS_ok (p : (List GToken)) (hz : (zL zGToken) p ≤ 1048576) : wToTokenS p = some p := toS_ok (by' := 32) (W := wToToken) (by unfold zL at hz; omega) (by omega) (by rw [wToTokenS]) (fun i b => by rw [wToTokenS_L0]) (fun y hy => toGToken_ok y (by have h1 := le_sum (z := zGToken) hy; have h2 : zL zGToken p = p.length + (p.map zGToken).sum := rfl; omega))
theorem eqGTokenS_ok (p : (List GToken)) (hz : (zL zGToken) p ≤ 1048576) : wEqTokenS p p = some true := eqS_ok (E := wEqToken) (by unfold zL at hz; omega) (by rw [wEqTokenS]) (fun i => by rw [wEqTokenS_L0]) (fun y hy => eqGToken_ok y (by have h1 := le_sum (z := zGToken) hy; have h2 : zL zGToken p = p.length + (p.map zGToken).sum := rfl; omega))

/-! FnExactBegins -/
theorem memZ' {α : Type} {z : α → Nat} {l : List α} {x : α} (h : x ∈ l) : z x + l.length ≤ zL z l := by
  have h1 := le_sum (z := z) h
  have h2 : zL z l = l.length + (l.map z).sum := rfl
  omega
theorem fnExactBegins_true (t : List GToken) (ot : okL okGToken t) : wFnExactBegins t = some true := by
  unfold wFnExactBegins
  rw [szGTokenS_ok t ot 1048576 (by omega) (by omega)]
  simp only [Option.bind_eq_bind, Option.bind_some]
  by_cases hz : (zL zGToken t : Int) ≤ 1048576
  case neg => rw [if_neg hz]; simp
  rw [if_pos hz, if_neg (by simp; omega)]
  have hT : Tok t := by
    refine ⟨by have h2 : zL zGToken t = t.length + (t.map zGToken).sum := rfl; omega, fun x hx => ?_⟩
    have h1 := memZ' (z := zGToken) hx
    have h2 : x.text.length = zGToken x := by obtain ⟨a, b, c⟩ := x; rfl
    omega
  obtain ⟨r, b1, b2⟩ := begins_eq hT
  simp only [toGTokenS_ok t (by omega), b1, b2, eqGTokenS_ok t (by omega), Option.bind_some]
  simp

end Go.Ab
