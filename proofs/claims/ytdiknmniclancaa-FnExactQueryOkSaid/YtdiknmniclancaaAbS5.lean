/- Calls that are handed pointers to boxes. -/
import Derived.Test.YtdiknmniclancaaAbS4
namespace Go.Ab
open Go Go.RowKit

/- the boxes renamed -/
mutual
def V.ren (ρ : Nat → Nat) : V → V
  | .ptr n o => .ptr (ρ n) o
  | .msl n sz o l c => .msl (ρ n) sz o l c
  | .fn f l => .fn f (V.rens ρ l)
  | .tup l => .tup (V.rens ρ l)
  | .ite c v => .ite c (v.ren ρ)
  | v => v
def V.rens (ρ : Nat → Nat) : List V → List V
  | [] => []
  | v :: l => v.ren ρ :: V.rens ρ l
end
/- all boxes that are pointed to are of these -/
mutual
def V.ptrsIn (l : List Nat) : V → Bool
  | .ptr n _ => l.contains n
  | .msl n _ _ _ _ => l.contains n
  | .fn _ vs => V.ptrsIns l vs
  | .tup vs => V.ptrsIns l vs
  | .ite _ v => v.ptrsIn l
  | _ => true
def V.ptrsIns (l : List Nat) : List V → Bool
  | [] => true
  | v :: vs => v.ptrsIn l && V.ptrsIns l vs
end
mutual
theorem RepV.renm {κ κ' : Ctx} {ρ : Nat → Nat} {l : List Nat} (hS : κ.S.le κ'.S) (hm : ∀ n ∈ l, κ'.m (ρ n) = κ.m n) : ∀ {v : Value} {x : V}, RepV κ v x → x.still = true → x.ptrsIn l = true → RepV κ' v (x.ren ρ)
  | _, _, .top v, _, _ => .top v
  | _, _, .und, _, _ => .und
  | _, _, .d h, _, _ => .d (h.mono hS)
  | _, _, .agg h, _, _ => .agg (h.mono hS)
  | _, _, .nil sz, _, _ => .nil sz
  | _, _, .osl .., h, _ => by simp [V.still] at h
  | _, _, .ptr n off, _, hp => by
    have e := hm n (by simpa [V.ptrsIn] using hp)
    have h := RepV.ptr (κ := κ') (ρ n) off
    rw [e] at h
    exact h
  | _, _, .msl (n := n) (sz := sz) (o := o) h1 h2, _, hp => by
    have e := hm n (by simpa [V.ptrsIn] using hp)
    have h := RepV.msl (κ := κ') (n := ρ n) (sz := sz) (o := o) h1 h2
    rw [e] at h
    exact h
  | _, _, .rp h1 h2, _, _ => .rp (h1.trans (prefix_drop (hS _) _)) (h2.mono hS)
  | _, _, .np, _, _ => .np
  | _, _, .fn h, hs, hp => .fn (RepVs.renm hS hm h (by simpa [V.still] using hs) (by simpa [V.ptrsIn] using hp))
  | _, _, .tup h, hs, hp => .tup (RepVs.renm hS hm h (by simpa [V.still] using hs) (by simpa [V.ptrsIn] using hp))
  | _, _, .yes h, hs, hp => .yes (RepV.renm hS hm h (by simpa [V.still] using hs) (by simpa [V.ptrsIn] using hp))
  | _, _, .no, _, _ => .no
theorem RepVs.renm {κ κ' : Ctx} {ρ : Nat → Nat} {l : List Nat} (hS : κ.S.le κ'.S) (hm : ∀ n ∈ l, κ'.m (ρ n) = κ.m n) : ∀ {v : List Value} {x : List V}, RepVs κ v x → V.stills x = true → V.ptrsIns l x = true → RepVs κ' v (V.rens ρ x)
  | _, _, .nil, _, _ => .nil
  | _, _, .cons h t, hs, hp => by
    simp only [V.stills, V.ptrsIns, Bool.and_eq_true] at hs hp
    exact .cons (RepV.renm hS hm h hs.1 hp.1) (RepVs.renm hS hm t hs.2 hp.2)
end
/-- the caller's name of a callee's box, and back -/
def fwd : List (Nat × Nat) → Nat → Nat
  | [], n => n
  | (a, b) :: l, n => if n = a then b else fwd l n
def bwd : List (Nat × Nat) → Nat → Nat
  | [], n => n
  | (a, b) :: l, n => if n = b then a else bwd l n
def nodupB : List Nat → Bool
  | [] => true
  | x :: l => !l.contains x && nodupB l
theorem bwd_fwd : ∀ {L : List (Nat × Nat)}, nodupB (L.map (·.1)) = true → nodupB (L.map (·.2)) = true → ∀ {n}, n ∈ L.map (·.2) → fwd L (bwd L n) = n ∧ bwd L n ∈ L.map (·.1)
  | [], _, _, n, h => by simp at h
  | (a, b) :: l, h1, h2, n, h => by
    simp only [List.map_cons, nodupB, Bool.and_eq_true, Bool.not_eq_true', List.contains_eq_mem, decide_eq_false_iff_not] at h1 h2
    simp only [bwd]
    split
    · rename_i e; subst e; simp [fwd]
    · rename_i e
      have hn : n ∈ l.map (·.2) := by
        simp only [List.map_cons, List.mem_cons] at h
        exact h.resolve_left e
      obtain ⟨k1, k2⟩ := bwd_fwd h1.2 h2.2 hn
      have : bwd l n ≠ a := fun e => h1.1 (e ▸ k2)
      simp only [fwd, if_neg this]
      exact ⟨k1, by simp only [List.map_cons, List.mem_cons]; exact .inr k2⟩
theorem fwd_mem : ∀ {L : List (Nat × Nat)} {n}, n ∈ L.map (·.1) → (n, fwd L n) ∈ L
  | [], n, h => by simp at h
  | (a, b) :: l, n, h => by
    simp only [fwd]
    split
    · rename_i e; subst e; simp
    · rename_i e
      simp only [List.map_cons, List.mem_cons] at h
      exact List.mem_cons_of_mem _ (fwd_mem (h.resolve_left e))
theorem fwd_inj : ∀ {L : List (Nat × Nat)}, nodupB (L.map (·.2)) = true → ∀ {n m}, n ∈ L.map (·.1) → m ∈ L.map (·.1) → fwd L n = fwd L m → n = m
  | [], _, n, m, h, _, _ => by simp at h
  | (a, b) :: l, hd, n, m, hn, hm, he => by
    simp only [List.map_cons, nodupB, Bool.and_eq_true, Bool.not_eq_true', List.contains_eq_mem, decide_eq_false_iff_not] at hd
    simp only [List.map_cons, List.mem_cons] at hn hm
    simp only [fwd] at he
    split at he <;> split at he
    · rename_i e1 e2; rw [e1, e2]
    · rename_i e1 e2
      have := fwd_mem (hm.resolve_left e2)
      rw [← he] at this
      exact absurd (List.mem_map.2 ⟨_, this, rfl⟩) hd.1
    · rename_i e1 e2
      have := fwd_mem (hn.resolve_left e1)
      rw [he] at this
      exact absurd (List.mem_map.2 ⟨_, this, rfl⟩) hd.1
    · rename_i e1 e2
      exact fwd_inj hd.2 (hn.resolve_left e1) (hm.resolve_left e2) he

/-- the boxes that are handed over -/
def bxIn (bx : List (Nat × List V)) : List (Nat × Nat) → List (Nat × List V)
  | [] => []
  | (a, b) :: l => (a, (bget bx b).getD []) :: bxIn bx l
/-- the caller's boxes behind the call -/
def bxOut (fb : List (Nat × List V)) : List (Nat × Nat) → List (Nat × List V) → List (Nat × List V)
  | [], bx => bx
  | (a, b) :: l, bx => bxOut fb l (setBox bx b ((bget fb a).getD []))
def bxFine (bx : List (Nat × List V)) (l : List Nat) : Bool := l.all fun n => match bget bx n with
  | some c => V.closeds c
  | none => false
theorem bxIn_names (bx : List (Nat × List V)) : ∀ L : List (Nat × Nat), (bxIn bx L).map (·.1) = L.map (·.1)
  | [] => rfl
  | (a, b) :: l => by simp [bxIn, bxIn_names bx l]
theorem bxIn_get {bx : List (Nat × List V)} : ∀ {L : List (Nat × Nat)} {n : Nat} {c : List V}, bget (bxIn bx L) n = some c → n ∈ L.map (·.1) ∧ c = (bget bx (fwd L n)).getD []
  | [], n, c, h => by simp [bxIn, bget] at h
  | (a, b) :: l, n, c, h => by
    simp only [bxIn, bget] at h
    simp only [fwd]
    split at h
    · rename_i e; subst e
      simp at h; subst h
      simp
    · rename_i e
      obtain ⟨h1, h2⟩ := bxIn_get h
      exact ⟨by simp only [List.map_cons, List.mem_cons]; exact .inr h1, by rw [if_neg e]; exact h2⟩
theorem bxOut_get {fb : List (Nat × List V)} : ∀ {L : List (Nat × Nat)} {bx : List (Nat × List V)} {k : Nat}, nodupB (L.map (·.2)) = true → bget (bxOut fb L bx) k = if k ∈ L.map (·.2) then (bget bx k).map (fun _ => (bget fb (bwd L k)).getD []) else bget bx k
  | [], bx, k, _ => by simp [bxOut]
  | (a, b) :: l, bx, k, h => by
    simp only [List.map_cons, nodupB, Bool.and_eq_true, Bool.not_eq_true', List.contains_eq_mem, decide_eq_false_iff_not] at h
    simp only [bxOut]
    rw [bxOut_get h.2, box_setBox]
    simp only [List.map_cons, List.mem_cons, bwd]
    by_cases e : k = b
    · subst e
      rw [if_neg h.1]
      simp
    · simp only [e, false_or, if_false]

/-- A call that is handed boxes. -/
theorem callK_box {P : Program} {s : St} {d : Option Nat} {f : FuncId} {vs args : List V} {fb : List (Nat × List V)} {R : V → List (Nat × List V) → Prop} {K : V → St → Prop} (L : List (Nat × Nat)) (h : ACalls P f args fb R)
    (hargs : V.rens (bwd L) (weaks vs) = args) (hst : V.stills (weaks vs) = true) (hpt : V.ptrsIns (L.map (·.2)) (weaks vs) = true) (hfb : bxIn s.bx L = fb) (hfine : bxFine s.bx (L.map (·.2)) = true) (hnd : (nodupB (L.map (·.1)) && nodupB (L.map (·.2))) = true)
    (hK : ∀ x b, R x b → bxFine b (L.map (·.1)) = true ∧ x.closed = true ∧ K x ⟨s.env, bxOut b L s.bx⟩) : callK P s d f vs K := by
  intro E N κ w a cargs hfbN _ hok hrep
  have g := hok.good
  rw [Bool.and_eq_true] at hnd
  obtain ⟨hn1, hn2⟩ := hnd
  have hin : ∀ n ∈ L.map (·.2), ∃ c, bget s.bx n = some c ∧ V.closeds c = true := by
    intro n hn
    have := List.all_eq_true.1 hfine n hn
    split at this
    · rename_i c hc; exact ⟨c, hc, this⟩
    · simp at this
  have hfwd : ∀ n ∈ L.map (·.1), fwd L n ∈ L.map (·.2) := fun n hn => List.mem_map.2 ⟨_, fwd_mem hn, rfl⟩
  let κc : Ctx := ⟨κ.S, fun n => κ.m (fwd L n), fun _ => none⟩
  let may : Nat → Prop := fun b => ∃ n ∈ L.map (·.2), b = κ.m n
  subst hfb
  have hgc : Good ⟨κc, w, (bxIn s.bx L).map (·.1), may⟩ κc w (bxIn s.bx L) := by
    refine ⟨⟨rfl, rfl, rfl, Nat.le_refl _, fun _ _ _ => rfl, fun _ _ _ => rfl, fun _ _ => rfl, Mem.le_refl _⟩, g.mem, fun n c hc => ?_, fun n n' hn hn' he => ?_, fun t o ho => by simp [κc] at ho, fun t t' o o' gg ho => by simp [κc] at ho⟩
    · obtain ⟨h1, h2⟩ := bxIn_get hc
      obtain ⟨c0, h3, h4⟩ := hin _ (hfwd n h1)
      rw [h3] at h2; simp at h2; subst h2
      obtain ⟨cs, T, hh, hr, hS, _⟩ := g.box _ _ h3
      exact ⟨cs, T, hh, hr.move (show κ.S.le κc.S from Mem.le_refl _) (V.fitss_closed _ _ _ h4), hS, .inl ⟨_, hfwd n h1, rfl⟩⟩
    · obtain ⟨c, hc⟩ := Option.isSome_iff_exists.1 hn
      obtain ⟨c', hc'⟩ := Option.isSome_iff_exists.1 hn'
      have m1 := (bxIn_get hc).1
      have m2 := (bxIn_get hc').1
      obtain ⟨d1, k1, _⟩ := hin _ (hfwd n m1)
      obtain ⟨d2, k2, _⟩ := hin _ (hfwd n' m2)
      exact fwd_inj hn2 m1 m2 (g.inj _ _ (by simp [k1]) (by simp [k2]) he)
  have hrepc : RepVs κc cargs args := by
    rw [← hargs]
    refine RepVs.renm (show κ.S.le κc.S from Mem.le_refl _) (fun n hn => ?_) hrep.weaks hst hpt
    show κ.m (fwd L (bwd L n)) = κ.m n
    rw [(bwd_fwd hn1 hn2 hn).1]
  refine (h κc w cargs may hgc hrepc).mono ?_
  rintro e w' ⟨v, x, κ', fb', rfl, hg', hx, hR⟩
  obtain ⟨hfin', hxc, hKx⟩ := hK x fb' hR
  have hout : ∀ n ∈ L.map (·.1), ∃ c, bget fb' n = some c ∧ V.closeds c = true := by
    intro n hn
    have := List.all_eq_true.1 hfin' n hn
    split at this
    · rename_i c hc; exact ⟨c, hc, this⟩
    · simp at this
  have hnames : ∀ n ∈ L.map (·.1), κ'.m n = κ.m (fwd L n) := fun n hn => hg'.frm.names n (by show n ∈ (bxIn s.bx L).map (·.1); rw [bxIn_names]; exact hn)
  let κ2 : Ctx := ⟨κ'.S, κ.m, κ.o⟩
  have hle : κ.S.le κ2.S := hg'.frm.le
  have hnm : ∀ b, ¬ may b → b < w.heap.size → w'.heap[b]? = w.heap[b]? ∧ κ'.S b = κ.S b := fun b hb hlt => ⟨hg'.frm.block b hlt hb, hg'.frm.mem b hlt hb⟩
  have hmv : ∀ {v : Value} {x : V}, RepV κ v x → RepV κ2 v x := fun hr => hr.move hle (V.fits_eq (κ := κ) (κ' := κ2) (fun _ => rfl) (fun _ => rfl) _)
  have hmayE : ∀ b, may b → b < E.w.heap.size → E.may b := by
    rintro b ⟨n, hn, rfl⟩ hlt
    obtain ⟨c, hc, _⟩ := hin n hn
    obtain ⟨_, _, _, _, _, hE⟩ := g.box n c hc
    rcases hE with hE | hE
    · exact hE
    · omega
  have hsome : ∀ k, (bget (bxOut fb' L s.bx) k).isSome = (bget s.bx k).isSome := by
    intro k
    rw [bxOut_get hn2]
    split
    · cases bget s.bx k <;> rfl
    · rfl
  refine ⟨v, x, κ2, ⟨s.env, bxOut fb' L s.bx⟩, rfl, ⟨hok.size, hok.defers, fun n => hmv (hok.env n), ?_⟩, hx.move (show κ'.S.le κ2.S from Mem.le_refl _) (V.fits_closed _ _ _ hxc), hKx⟩
  refine ⟨⟨hg'.frm.os.trans g.frm.os, hg'.frm.tape.trans g.frm.tape, hg'.frm.output.trans g.frm.output, Nat.le_trans g.frm.size hg'.frm.size, fun b hb hn => ?_, fun b hb hn => ?_, g.frm.names, Mem.le_trans g.frm.le hle⟩, hg'.mem, fun k c hc => ?_, fun k k' hk hk' => g.inj k k' (by rw [← hsome]; exact hk) (by rw [← hsome]; exact hk'), fun t o ho => ?_, g.ownInj⟩
  · exact ((hnm b (fun hm => hn (hmayE b hm hb)) (by have := g.frm.size; omega)).2).trans (g.frm.mem b hb hn)
  · exact ((hnm b (fun hm => hn (hmayE b hm hb)) (by have := g.frm.size; omega)).1).trans (g.frm.block b hb hn)
  · dsimp only at hc
    rw [bxOut_get hn2] at hc
    split at hc
    · rename_i hkm
      obtain ⟨c0, h0, _⟩ := hin k hkm
      obtain ⟨hb1, hb2⟩ := bwd_fwd hn1 hn2 hkm
      obtain ⟨c1, h1, hcl⟩ := hout _ hb2
      rw [h0, h1] at hc
      simp at hc; subst hc
      obtain ⟨cs, T, hh, hr, hS, _⟩ := hg'.box _ _ h1
      obtain ⟨_, _, _, _, _, hE⟩ := g.box k c0 h0
      rw [hnames _ hb2, hb1] at hh hS
      exact ⟨cs, T, hh, hr.move (show κ'.S.le κ2.S from Mem.le_refl _) (V.fitss_closed _ _ _ hcl), hS, hE⟩
    · rename_i hkm
      obtain ⟨cs, T, hh, hr, hS, hE⟩ := g.box k c hc
      have hnk : ¬ may (κ.m k) := by
        rintro ⟨n, hn, he⟩
        obtain ⟨c0, h0, _⟩ := hin n hn
        have := g.inj k n (by simp [hc]) (by simp [h0]) he
        exact hkm (this ▸ hn)
      have hlt := (Array.getElem?_eq_some_iff.1 hh).1
      obtain ⟨q1, q2⟩ := hnm _ hnk hlt
      exact ⟨cs, T, q1.trans hh, hr.move hle (V.fitss_eq (κ := κ) (κ' := κ2) (fun _ => rfl) (fun _ => rfl) _), q2.trans hS, hE⟩
  · obtain ⟨k, xs, hO, hx⟩ := g.own t o ho
    have hnot : ∀ g2, o.v.ownBlock = some g2 → ¬ may g2 := by
      rintro g2 hg2 ⟨n, hn, he⟩
      obtain ⟨c0, h0, _⟩ := hin n hn
      exact (hx g2 hg2).2.2 n (by simp [h0]) he.symm
    refine ⟨k, xs, ?_, fun g2 hg2 => ?_⟩
    · obtain ⟨hl, hO2⟩ := hO
      refine ⟨hl, ?_⟩
      rcases hO2 with hn | ⟨g2, cap, cur, hv, hb2, hh, r⟩
      · exact .inl hn
      · exact .inr ⟨g2, cap, cur, hv, hb2, ((hnm g2 (hnot g2 (by rw [hv]; rfl)) (Array.getElem?_eq_some_iff.1 hh).1).1).trans hh, r⟩
    · obtain ⟨h1, h2, h3⟩ := hx g2 hg2
      exact ⟨h1, ((hnm g2 (hnot g2 hg2) (g.ownLt ho hg2)).2).trans h2, fun n hn => h3 n (by rw [← hsome]; exact hn)⟩
/-- A call that is handed plain values alone and yields a pointer to a new box. -/
theorem callK_new {P : Program} {s : St} {d : Nat} {f : FuncId} {vs args : List V} {R : V → List (Nat × List V) → Prop} {K : V → St → Prop} (h : ACalls P f args [] R) (hargs : weaks vs = args) (hcl : V.closeds args = true) (hf : s.fresh d = true)
    (hK : ∀ x b, R x b → ∃ k c, x = .ptr k 0 ∧ bget b k = some c ∧ V.closeds c = true ∧ K (.ptr d 0) ⟨s.env, (d, c) :: s.bx⟩) : callK P s (some d) f vs K := by
  intro E N κ w a cargs hfbN hdN hok hrep
  have g := hok.good
  have hd : d < N := hdN d rfl
  let κc : Ctx := ⟨κ.S, κ.m, fun _ => none⟩
  have hgc : Good ⟨κc, w, [], fun _ => False⟩ κc w [] :=
    ⟨⟨rfl, rfl, rfl, Nat.le_refl _, fun _ _ _ => rfl, fun _ _ _ => rfl, fun _ h => by simp at h, Mem.le_refl _⟩, g.mem, fun n c hc => by simp [bget] at hc, fun n n' hn => by simp [bget] at hn, fun t o ho => by simp [κc] at ho, fun t t' o o' gg ho => by simp [κc] at ho⟩
  have hrepc : RepVs κc cargs args := by
    rw [← hargs] at hcl ⊢
    exact hrep.weaks.move (show κ.S.le κc.S from Mem.le_refl _) (V.fitss_closed _ _ _ hcl)
  refine (h κc w cargs (fun _ => False) hgc hrepc).mono ?_
  rintro e w' ⟨v, x, κ', fb', rfl, hg', hx, hR⟩
  obtain ⟨k, c, rfl, hck, hcc, hKx⟩ := hK x fb' hR
  obtain ⟨csn, Tn, hhn, hrn, hSn, hEn⟩ := hg'.box k c hck
  have hnew : w.heap.size ≤ κ'.m k := by rcases hEn with h | h; exact h.elim; exact h
  let κ2 : Ctx := ⟨κ'.S, upd κ.m d (κ'.m k), κ.o⟩
  have hm : ∀ n, n ≠ d → κ2.m n = κ.m n := fun n hn => upd_other _ _ _ hn
  have hmd : κ2.m d = κ'.m k := upd_same _ _ _
  have hle : κ.S.le κ2.S := hg'.frm.le
  have hblk : ∀ b, b < w.heap.size → w'.heap[b]? = w.heap[b]? := fun b hb => hg'.frm.block b hb (fun h => h)
  have hS : ∀ b, b < w.heap.size → κ'.S b = κ.S b := fun b hb => hg'.frm.mem b hb (fun h => h)
  have hlt : ∀ n c, bget s.bx n = some c → κ.m n < w.heap.size := fun n c hc => by
    obtain ⟨_, _, hh, _⟩ := g.box n c hc
    exact (Array.getElem?_eq_some_iff.1 hh).1
  have hdom : ∀ n, n ≠ d → bget ((d, c) :: s.bx) n = bget s.bx n := fun n hn => by simp [bget, hn]
  refine ⟨v, .ptr d 0, κ2, ⟨s.env, (d, c) :: s.bx⟩, rfl, ⟨hok.size, hok.defers, fun n => (hok.env n).move hle (V.fits_m hm (fun _ => rfl) _ (s.fresh_env hf n).1), ?_⟩, ?_, hKx⟩
  · refine ⟨⟨hg'.frm.os.trans g.frm.os, hg'.frm.tape.trans g.frm.tape, hg'.frm.output.trans g.frm.output, Nat.le_trans g.frm.size hg'.frm.size, fun b hb hn => ?_, fun b hb hn => ?_, fun n hn => ?_, Mem.le_trans g.frm.le hle⟩, hg'.mem, fun n cn hc => ?_, fun n n' hn hn' he => ?_, fun t o ho => ?_, g.ownInj⟩
    · exact (hS b (by have := g.frm.size; omega)).trans (g.frm.mem b hb hn)
    · exact (hblk b (by have := g.frm.size; omega)).trans (g.frm.block b hb hn)
    · rw [hm n (by have := hfbN n hn; omega)]; exact g.frm.names n hn
    · by_cases hnd : n = d
      · subst hnd
        simp [bget] at hc; subst hc
        exact ⟨csn, Tn, by rw [hmd]; exact hhn, hrn.move (show κ'.S.le κ2.S from Mem.le_refl _) (V.fitss_closed _ _ _ hcc), by rw [hmd]; exact hSn, .inr (by rw [hmd]; have := g.frm.size; omega)⟩
      · have hc' : bget s.bx n = some cn := by rw [← hdom n hnd]; exact hc
        obtain ⟨cs, T, hh, hr, hSn', hE⟩ := g.box n cn hc'
        rw [hm n hnd]
        exact ⟨cs, T, (hblk _ (hlt n cn hc')).trans hh, hr.move hle (V.fitss_m hm (fun _ => rfl) _ (s.fresh_bx hf hc').1), (hS _ (hlt n cn hc')).trans hSn', hE⟩
    · by_cases h1 : n = d <;> by_cases h2 : n' = d
      · rw [h1, h2]
      · obtain ⟨c', hc'⟩ := Option.isSome_iff_exists.1 hn'
        dsimp only at hc'
        rw [hdom n' h2] at hc'
        have := hlt n' c' hc'
        rw [h1, hmd, hm n' h2] at he; omega
      · obtain ⟨c', hc'⟩ := Option.isSome_iff_exists.1 hn
        dsimp only at hc'
        rw [hdom n h1] at hc'
        have := hlt n c' hc'
        rw [h2, hmd, hm n h1] at he; omega
      · rw [hm n h1, hm n' h2] at he
        exact g.inj n n' (by rw [← hdom n h1]; exact hn) (by rw [← hdom n' h2]; exact hn') he
    · obtain ⟨kk, xs, hO, hx⟩ := g.own t o ho
      refine ⟨kk, xs, ?_, fun g2 hg2 => ?_⟩
      · obtain ⟨hl, hO2⟩ := hO
        refine ⟨hl, ?_⟩
        rcases hO2 with hn | ⟨g2, cap, cur, hv, hb2, hh, r⟩
        · exact .inl hn
        · exact .inr ⟨g2, cap, cur, hv, hb2, (hblk g2 (Array.getElem?_eq_some_iff.1 hh).1).trans hh, r⟩
      · obtain ⟨h1, h2, h3⟩ := hx g2 hg2
        refine ⟨h1, (hS g2 (g.ownLt ho hg2)).trans h2, fun n hn => ?_⟩
        by_cases hnd : n = d
        · subst hnd; rw [hmd]; have := g.ownLt ho hg2; omega
        · rw [hm n hnd]; exact h3 n (by rw [← hdom n hnd]; exact hn)
  · have e := RepV.ptr (κ := κ2) d 0
    rw [hmd] at e
    rw [hx.toPtr]
    exact e
/-- these boxes are there -/
def bxHas : List (Nat × List V) → List (Nat × List V) → Prop
  | [], _ => True
  | (n, c) :: l, b => bget b n = some c ∧ bxHas l b
theorem bxHas_get {b : List (Nat × List V)} : ∀ {B : List (Nat × List V)}, bxHas B b → ∀ {n c}, bget B n = some c → bget b n = some c
  | [], _, n, c, h => by simp [bget] at h
  | (m, d) :: l, hB, n, c, h => by
    simp only [bget] at h
    split at h
    · rename_i e; subst e; simp at h; subst h; exact hB.1
    · exact bxHas_get hB.2 h
/-- the contract of a function that is handed boxes -/
def FOkB {β : Type} (P : Program) (f : FuncId) (args : List V) (fb : List (Nat × List V)) (v : β → V) (B : β → List (Nat × List V)) (x : Option β) : Prop :=
  ∀ r, x = some r → ACalls P f args fb fun y b => y = v r ∧ bxHas (B r) b
/-- the contract of a function that yields a pointer to a new box -/
def FOkN {β : Type} (P : Program) (f : FuncId) (args : List V) (Bc : β → List V) (x : Option β) : Prop :=
  ∀ r, x = some r → ACalls P f args [] fun y b => ∃ k, y = .ptr k 0 ∧ bget b k = some (Bc r)
theorem bxOut_congr {b b' : List (Nat × List V)} : ∀ {L : List (Nat × Nat)} {bx : List (Nat × List V)}, (∀ n ∈ L.map (·.1), bget b n = bget b' n) → bxOut b L bx = bxOut b' L bx
  | [], _, _ => rfl
  | (a, c) :: l, bx, h => by
    simp only [bxOut]
    rw [h a (by simp), bxOut_congr fun n hn => h n (by simp only [List.map_cons, List.mem_cons]; exact .inr hn)]
theorem bxFine_has {B b : List (Nat × List V)} {l : List Nat} (hB : bxHas B b) (h : bxFine B l = true) : bxFine b l = true ∧ ∀ n ∈ l, bget b n = bget B n := by
  have key := List.all_eq_true.1 h
  refine ⟨List.all_eq_true.2 fun n hn => ?_, fun n hn => ?_⟩
  · have := key n hn
    split at this
    · rename_i c hc; rw [bxHas_get hB hc]; exact this
    · simp at this
  · have := key n hn
    split at this
    · rename_i c hc; rw [bxHas_get hB hc, hc]
    · simp at this
section
variable {P : Program} {K : St → Prop} {rest : List AOp} {s : St} {α β : Type} {r : β}
/-- a call that is handed boxes -/
theorem callb_step {f : FuncId} {xs : List AO} {dd : Option Nat} {args : List V} {fb : List (Nat × List V)} {m : Option α} {v' : α → V} {B : α → List (Nat × List V)} {kF : α → Option β} {S' : α → St} (L : List (Nat × Nat)) (h : (m >>= kF) = some r) (hg : FOkB P f args fb v' B m)
    (hargs : V.rens (bwd L) (weaks (xs.map (ev s))) = args) (hst : V.stills (weaks (xs.map (ev s))) = true) (hpt : V.ptrsIns (L.map (·.2)) (weaks (xs.map (ev s))) = true) (hfb : bxIn s.bx L = fb) (hfine : bxFine s.bx (L.map (·.2)) = true) (hnd : (nodupB (L.map (·.1)) && nodupB (L.map (·.2))) = true)
    (hB : ∀ y, bxFine (B y) (L.map (·.1)) = true) (hv : ∀ y, (v' y).closed = true) (hS : ∀ y, (⟨s.env, bxOut (B y) L s.bx⟩ : St).putO dd (v' y) = S' y) (hk : ∀ y, kF y = some r → aops P K rest (S' y)) : aops P K (.call dd f xs :: rest) s := by
  cases m with
  | none => simp at h
  | some y =>
    refine callK_box L (hg y rfl) hargs hst hpt hfb hfine hnd fun x b hx => ?_
    obtain ⟨rfl, hb⟩ := hx
    obtain ⟨h1, h2⟩ := bxFine_has hb (hB y)
    refine ⟨h1, hv y, ?_⟩
    rw [bxOut_congr h2, hS]
    exact hk y h
/-- a call under a condition that is handed boxes: where it is passed over, the boxes are as they were -/
theorem gcallb_step {j d : Nat} {want p b : Bool} {f : FuncId} {xs : List AO} {args : List V} {fb : List (Nat × List V)} {m : Option α} {dflt : α} {v' : α → V} {B : α → List (Nat × List V)} {kF : α → Option β} {S' : α → St} (L : List (Nat × Nat))
    (h : ((if (p && (b == want)) = true then m else some dflt) >>= kF) = some r) (hb : bval (lk s.env j) = some (p, b)) (hg : FOkB P f args fb v' B m)
    (hargs : (p && (b == want)) = true → V.rens (bwd L) (weaks (strs (xs.map (ev s)))) = args) (hst : V.stills (weaks (strs (xs.map (ev s)))) = true) (hpt : V.ptrsIns (L.map (·.2)) (weaks (strs (xs.map (ev s)))) = true) (hfb : bxIn s.bx L = fb) (hfine : bxFine s.bx (L.map (·.2)) = true) (hnd : (nodupB (L.map (·.1)) && nodupB (L.map (·.2))) = true)
    (hB : ∀ y, bxFine (B y) (L.map (·.1)) = true) (hd0 : bxOut (B dflt) L s.bx = s.bx) (hv : ∀ y, (v' y).closed = true) (hn : (p && (b == want)) = true → (conds s xs).all id = true)
    (hS : ∀ y, (⟨s.env, bxOut (B y) L s.bx⟩ : St).put d (.ite (p && (b == want)) (v' y)) = S' y) (hk : ∀ y, kF y = some r → aops P K rest (S' y)) : aops P K (.g j want (.call (some d) f xs) :: rest) s := by
  show aop P s (aops P K rest) (.g j want (.call (some d) f xs))
  simp only [aop]
  have key : ∃ y, kF y = some r ∧ ((p && (b == want)) = true → m = some y) ∧ ((p && (b == want)) = false → y = dflt) := by
    by_cases hc : (p && (b == want)) = true
    · rw [if_pos hc] at h
      cases m with
      | none => simp at h
      | some y => exact ⟨y, h, fun _ => rfl, fun h' => by rw [hc] at h'; simp at h'⟩
    · rw [if_neg hc] at h
      exact ⟨dflt, h, fun h' => absurd h' hc, fun _ => rfl⟩
  obtain ⟨y, hy, hm, hm0⟩ := key
  refine bval_ok hb ⟨v' y, ⟨s.env, bxOut (B y) L s.bx⟩, fun hc => ?_, fun hc => ?_, ?_⟩
  · refine callK_str (hn hc) (callK_box L (hg y (hm hc)) (hargs hc) hst hpt hfb hfine hnd fun x b hx => ?_)
    obtain ⟨rfl, hbb⟩ := hx
    obtain ⟨h1, h2⟩ := bxFine_has hbb (hB y)
    exact ⟨h1, hv y, rfl, by rw [bxOut_congr h2]⟩
  · obtain rfl := hm0 hc
    rw [hd0]
    exact Wk.refl s
  · have e := hk y hy
    rw [← hS] at e
    exact e
/-- a call that yields a pointer to a new box -/
theorem calln_step {d : Nat} {f : FuncId} {xs : List AO} {args : List V} {m : Option α} {Bc : α → List V} {kF : α → Option β} {S' : α → St} (h : (m >>= kF) = some r) (hg : FOkN P f args Bc m)
    (hargs : weaks (xs.map (ev s)) = args) (hcl : V.closeds args = true) (hf : s.fresh d = true) (hBc : ∀ y, V.closeds (Bc y) = true)
    (hS : ∀ y, (⟨(d, .ptr d 0) :: s.env, (d, Bc y) :: s.bx⟩ : St) = S' y) (hk : ∀ y, kF y = some r → aops P K rest (S' y)) : aops P K (.call (some d) f xs :: rest) s := by
  cases m with
  | none => simp at h
  | some y =>
    refine callK_new (hg y rfl) hargs hcl hf fun x b hx => ?_
    obtain ⟨k, rfl, hb⟩ := hx
    refine ⟨k, _, rfl, hb, hBc y, ?_⟩
    have e := hk y h
    rw [← hS] at e
    exact e
end
end Go.Ab
