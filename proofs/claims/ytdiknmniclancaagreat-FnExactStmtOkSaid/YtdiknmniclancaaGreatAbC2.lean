/- Steps: calls that are handed boxes and rights and yield such, in order or in an open order. -/
import Derived.Test.YtdiknmniclancaaGreatAbC1
namespace Go.Ab
open Go Go.RowKit
abbrev gT (b : Bool) : Bool := true && (b == true)
abbrev gF (b : Bool) : Bool := true && (b == false)
theorem outs_congr {b b' : List (Nat × List V)} {L0 T' : List (Nat × Nat)} : ∀ {L : List (Nat × Nat)}, (∀ n ∈ L.map (·.1), bget b n = bget b' n) → outs b L0 T' L = outs b' L0 T' L
  | [], _ => rfl
  | (a, c) :: l, h => by
    simp only [outs, List.map_cons]
    rw [h a (by simp)]
    congr 1
    exact outs_congr (L0 := L0) (T' := T') (L := l) fun n hn => h n (by simp only [List.map_cons, List.mem_cons]; exact .inr hn)
theorem bxIns_has {B b : List (Nat × List V)} {l ns : List Nat} (hB : bxHas B b) (h : bxIns B l ns = true) : bxIns b l ns = true ∧ ∀ n ∈ l, bget b n = bget B n := by
  refine ⟨List.all_eq_true.2 fun n hn => ?_, fun n hn => ?_⟩
  · obtain ⟨c, hc, hp⟩ := bxIns_get h hn
    rw [bxHas_get hB hc]; exact hp
  · obtain ⟨c, hc, hp⟩ := bxIns_get h hn
    rw [bxHas_get hB hc, hc]
theorem CallN.congr (c : CallN) {B b : List (Nat × List V)} (h : ∀ n ∈ c.L'.map (·.1), bget b n = bget B n) : c.wr b = c.wr B ∧ c.news b = c.news B :=
  ⟨outs_congr fun n hn => h n (by unfold CallN.L'; rw [List.map_append]; exact List.mem_append_right _ hn), outs_congr fun n hn => h n (by unfold CallN.L'; rw [List.map_append]; exact List.mem_append_left _ hn)⟩
def CallN.hin (c : CallN) (s : St) (vs : List V) : Bool := V.ptrsIns (c.L.map (·.2)) vs && (bxIns s.bx (c.L.map (·.2)) (c.L.map (·.2)) && c.ok)
def CallN.hcl (c : CallN) (s : St) (d : Option Nat) : Bool := (c.TT.all fun t => (s.dnT c.TT).clean t) && c.nw.all fun p => d == some p.2 && (s.dnT c.TT).fresh p.2
def CallN.hout (c : CallN) (x : V) (B : List (Nat × List V)) : Bool := x.ptrsIn (c.L'.map (·.1)) && bxIns B (c.L'.map (·.1)) (c.L'.map (·.1))
def CallN.st (c : CallN) (s : St) (B : List (Nat × List V)) : St := ⟨dnE c.TT s.env, c.news B ++ setBs (dnB c.TT s.bx) (c.wr B)⟩
theorem callK_genS {P : Program} {s : St} {d : Option Nat} {f : FuncId} {vs args : List V} {fb B : List (Nat × List V)} {v : V} {K : V → St → Prop} (c : CallN) (h : ACalls P f args fb fun x b => x = v ∧ bxHas B b)
    (hargs : c.args vs = args) (hfb : c.fb s.bx = fb) (hin : c.hin s vs = true) (hcl : c.hcl s d = true) (hout : c.hout v B = true) (hK : K (c.res v) (c.st s B)) : callK P s d f vs K := by
  simp only [CallN.hin, CallN.hcl, CallN.hout, Bool.and_eq_true, List.all_eq_true, beq_iff_eq] at hin hcl hout
  refine callK_gen c h hargs hin.1 hfb hin.2.1 hin.2.2 hcl.1 hcl.2 fun x b hx => ?_
  obtain ⟨rfl, hb⟩ := hx
  obtain ⟨h1, h2⟩ := bxIns_has hb hout.2
  obtain ⟨k1, k2⟩ := c.congr h2
  refine ⟨hout.1, h1, ?_⟩
  rw [k1, k2]
  exact hK
theorem wk_dnT (s : St) (T : List Nat) : Wk s (s.dnT T) := by
  intro E N κ w a h
  have g := h.good
  have hget : ∀ {n c}, bget (dnB T s.bx) n = some c → ∃ c0, bget s.bx n = some c0 ∧ c = dnVs T c0 := fun {n c} hc => by
    rw [dnB_get] at hc
    obtain ⟨c0, h0, rfl⟩ := Option.map_eq_some_iff.1 hc
    exact ⟨c0, h0, rfl⟩
  have hs : ∀ {n}, (bget (dnB T s.bx) n).isSome = true → (bget s.bx n).isSome = true := fun hn => by rw [dnB_get] at hn; simpa using hn
  refine ⟨κ, h.size, h.defers, fun n => ?_, g.frm, g.mem, fun n c hc => ?_, fun n n' hn hn' => g.inj n n' (hs hn) (hs hn'), fun t o ho => ?_, g.ownInj⟩
  · show RepV κ _ (lk (dnE T s.env) n)
    rw [dnE_lk]; exact (h.env n).dnV
  · obtain ⟨c0, h0, rfl⟩ := hget hc
    obtain ⟨cs, T0, hh, hr, hS, hE⟩ := g.box n c0 h0
    exact ⟨cs, T0, hh, hr.dnVs, hS, hE⟩
  · obtain ⟨k, xs, hO, hx⟩ := g.own t o ho
    exact ⟨k, xs, hO, fun g2 hg2 => ⟨(hx g2 hg2).1, (hx g2 hg2).2.1, fun n hn => (hx g2 hg2).2.2 n (hs hn)⟩⟩
def CallN.newO (c : CallN) (B : List (Nat × List V)) : Option (List V) := match c.nw with
  | [] => none
  | p :: _ => some (V.rns (fwd c.L') (tf c.T') ((bget B p.1).getD []))
def evK (c : CallN) (s : St) (o : AOp) (d : Option Nat) (v : V) (B : List (Nat × List V)) (tt tb : List Nat) : Ev :=
  { o := o, d := d, r := c.res v, rt := valsOf s o.rd, rb := c.L.map (fun p => (p.2, (bget s.bx p.2).getD [])), T := c.TT, tt := tt, tb := tb, wr := c.wr B, nw := c.newO B, fr := true }
theorem CallN.eff (c : CallN) {s s' : St} {o : AOp} {d : Option Nat} {v : V} {B : List (Nat × List V)} {tt tb : List Nat} (hd : (c.nw.all fun p => d == some p.2) = true) (h1 : c.nw.length ≤ 1) : (c.st s' B).putO d (c.res v) = Go.Ab.eff (evK c s o d v B tt tb) s' := by
  unfold CallN.st CallN.news Go.Ab.eff evK CallN.newO
  cases hn : c.nw with
  | nil => cases d <;> rfl
  | cons p l =>
    rw [hn] at hd h1
    simp only [List.length_cons] at h1
    have : l = [] := List.eq_nil_of_length_eq_zero (by omega)
    subst this
    simp only [List.all_cons, List.all_nil, Bool.and_true, beq_iff_eq] at hd
    subst hd
    rfl
section
variable {P : Program} {K : St → Prop} {KD : List Ev → St → Prop} {rest : List AOp} {acc : List Ev} {s : St} {α β : Type} {r : β}
theorem callg_step (c : CallN) {f : FuncId} {xs : List AO} {dd : Option Nat} {args : List V} {fb : List (Nat × List V)} {m : Option α} {v : α → V} {B : α → List (Nat × List V)} {kF : α → Option β} {S' : α → St} (h : (m >>= kF) = some r) (hg : FOkB P f args fb v B m)
    (hargs : c.args (xs.map (ev s)) = args) (hfb : c.fb s.bx = fb) (hin : c.hin s (xs.map (ev s)) = true) (hcl : c.hcl s dd = true) (hout : ∀ y, c.hout (v y) (B y) = true)
    (hS : ∀ y, (c.st s (B y)).putO dd (c.res (v y)) = S' y) (hk : ∀ y, kF y = some r → aops P K rest (S' y)) : aops P K (.call dd f xs :: rest) s := by
  cases m with
  | none => simp at h
  | some y => exact callK_genS c (hg y rfl) hargs hfb hin hcl (hout y) (by rw [hS]; exact hk y h)
theorem gcallg_step (c : CallN) {j d : Nat} {want p b : Bool} {f : FuncId} {xs : List AO} {args : List V} {fb : List (Nat × List V)} {m : Option α} {dflt : α} {v : α → V} {B : α → List (Nat × List V)} {kF : α → Option β} {S' : α → St}
    (h : ((if (p && (b == want)) = true then m else some dflt) >>= kF) = some r) (hb : bval (lk s.env j) = some (p, b)) (hg : FOkB P f args fb v B m)
    (hargs : (p && (b == want)) = true → c.args (strs (xs.map (ev s))) = args) (hfb : c.fb s.bx = fb) (hin : c.hin s (strs (xs.map (ev s))) = true) (hcl : c.hcl s (some d) = true) (hout : ∀ y, c.hout (v y) (B y) = true)
    (hd0 : c.st s (B dflt) = s.dnT c.TT) (hn : (p && (b == want)) = true → (conds s xs).all id = true)
    (hS : ∀ y, (c.st s (B y)).put d (.ite (p && (b == want)) (c.res (v y))) = S' y) (hk : ∀ y, kF y = some r → aops P K rest (S' y)) : aops P K (.g j want (.call (some d) f xs) :: rest) s := by
  show aop P s (aops P K rest) (.g j want (.call (some d) f xs))
  simp only [aop]
  have key : ∃ y, kF y = some r ∧ ((p && (b == want)) = true → m = some y) ∧ ((p && (b == want)) = false → y = dflt) := by
    by_cases hc : (p && (b == want)) = true
    · rw [if_pos hc] at h
      cases m with
      | none => simp at h
      | some y => exact ⟨y, h, fun _ => rfl, fun h' => by rw [hc] at h'; simp at h'⟩
    · rw [if_neg hc] at h
      exact ⟨dflt, h, fun h' => absurd h' hc, fun _ => rfl⟩
  obtain ⟨y, hy, hm, hm0⟩ := key
  refine bval_ok hb ⟨c.res (v y), c.st s (B y), fun hc => ?_, fun hc => ?_, ?_⟩
  · exact callK_str (hn hc) (callK_genS c (hg y (hm hc)) (hargs hc) hfb hin hcl (hout y) ⟨rfl, rfl⟩)
  · obtain rfl := hm0 hc
    rw [hd0]
    exact wk_dnT s c.TT
  · have e := hk y hy
    rw [← hS] at e
    exact e
end
end Go.Ab
