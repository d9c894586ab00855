/- Short names for the steps; what can be seen by computing is filled in. -/
import Derived.Test.YtefdlkkffkhbgaaAbC2
import Derived.KernelRfl
namespace Go.Ab
open Go Go.RowKit

abbrev vI (n : Int) : V := .d (.i .i64 n)
abbrev vB (b : Bool) : V := .d (.b b)
abbrev vS (s : List UInt8) : V := .d (.s (bs s))
abbrev kI (n : Int) : AO := .c (.d (.i .i64 n))
abbrev kB (b : Bool) : AO := .c (.d (.b b))
/-- a state with more in front -/
abbrev St.p (s : St) (l : List (Nat × V)) : St := ⟨l ++ s.env, s.bx⟩
section
variable {P : Program} {K : St → Prop} {Q : Exit → St → Prop} {s : St} {x y : AC} {rest : List AOp} {o : AOp} {α β : Type} {r : β} {d : Nat}
theorem so {l : List AOp} (h : aops P (wkK (avc P y Q)) l s) : avc P (.seq (.ops l) y) Q s := ⟨s, Wk.refl s, h⟩
theorem oi {K : Exit → St → Prop} {l : List AOp} (h : aops P (K .normal) l s) : avc P (.ops l) K s := ⟨s, Wk.refl s, h⟩
theorem si (h : avc P x (thenK (wkK (avc P y Q)) Q) s) : avc P (.seq x y) Q s := h
theorem nx {next : St → Prop} (h : next s) : aops P (wkK next) [] s := ⟨s, Wk.refl s, h⟩
theorem ni {K : St → Prop} (h : K s) : aops P K [] s := h
theorem xi {next : St → Prop} (h : next s) : thenK (wkK next) Q .normal s := ⟨s, Wk.refl s, h⟩
theorem ki (h : Q .normal s) : avc P .skip Q s := h
theorem ei {id : Nat} (h : Q (.exit id) s) : avc P (.exit id) Q s := h
theorem ri (h : Q .ret s) : avc P .ret Q s := ⟨s, Wk.refl s, h⟩
theorem bi {id : Nat} (h : avc P x (blockK id Q) s) : avc P (.block id x) Q s := h
theorem te {n : St → Prop} {id : Nat} (h : Q (.exit id) s) : thenK n Q (.exit id) s := h
theorem tr {n : St → Prop} (h : Q .ret s) : thenK n Q .ret s := h
theorem br {id : Nat} (h : Q .ret s) : blockK id Q .ret s := h
theorem bn {id : Nat} (h : Q .normal s) : blockK id Q .normal s := h
theorem bh {id : Nat} (h : Q .normal s) : blockK id Q (.exit id) s := blockK_here h
theorem st (n : Nat) (s' : St) {l : List AOp} (hk : aops P K (l.drop n) s') (h : sts (l.take n) s = some s' := by kernel_rfl) : aops P K l s := sts_ok n h hk
/-- a state that is left as it is written -/
def stz (l : List AOp) (s : St) : St := match sts l s with
  | some s' => s'
  | none => s
theorem sx (n : Nat) {l : List AOp} (hk : aops P K (l.drop n) (stz (l.take n) s)) (h : (sts (l.take n) s).isSome = true := by kernel_rfl) : aops P K l s := by
  cases e : sts (l.take n) s with
  | none => simp [e] at h
  | some s' => exact sts_ok n e (by simpa only [stz, e] using hk)
def dstz (l : List AOp) (s : St) : St := match dsts l s with
  | some s' => s'
  | none => s
theorem dsx (n : Nat) {l : List AOp} {KD : List Ev → St → Prop} {acc : List Ev} (hk : dgo P KD (l.drop n) (dacc (l.take n) acc s) (dstz (l.take n) s)) (h : (dsts (l.take n) s).isSome = true := by kernel_rfl) : dgo P KD l acc s := by
  cases e : dsts (l.take n) s with
  | none => simp [e] at h
  | some s' => exact dsts_ok n e (by simpa only [dstz, e] using hk)
theorem cd {c : AO} {b : Bool} {X Y : Option β} (h : (if b = true then X else Y) = some r) (hx : X = some r → avc P x Q s) (hy : Y = some r → avc P y Q s) (hc : ev s c = .d (.b b) := by kernel_rfl) : avc P (.cond c x y) Q s := cond_step h hc hx hy
theorem vs {m : Option α} (v' : α → V) {kF : α → Option β} (h : (m >>= kF) = some r) (hop : ∀ y, m = some y → vop s (fun v => v = v' y) o) (hk : ∀ y, kF y = some r → aops P K rest (s.put d (v' y))) (hval : o.val = true := by kernel_rfl) (hd : o.dst = some d := by rfl) : aops P K (o :: rest) s := v_step h hval hd hop hk
theorem ps (v' : V) (hop : vop s (fun v => v = v') o) (hk : aops P K rest (s.put d v')) (hval : o.val = true := by kernel_rfl) (hd : o.dst = some d := by rfl) : aops P K (o :: rest) s := p_step hval hd hop hk
theorem gv {j : Nat} {want : Bool} (p b : Bool) {m : Option α} {dflt : α} (v' : α → V) {kF : α → Option β} (h : ((if (p && (b == want)) = true then m else some dflt) >>= kF) = some r)
    (hop : ∀ y, m = some y → (p && (b == want)) = true → vop s (fun v => v = v' y) o) (hk : ∀ y, kF y = some r → aops P K rest (s.put d (.ite (p && (b == want)) (v' y)))) (hb : bval (lk s.env j) = some (p, b) := by kernel_rfl) (hval : o.val = true := by kernel_rfl) (hd : o.dst = some d := by rfl) : aops P K (.g j want o :: rest) s := gv_step h hb hval hd hop hk
theorem gp {j : Nat} {want : Bool} (p b : Bool) (v' : V) (hop : (p && (b == want)) = true → vop s (fun v => v = v') o) (hk : aops P K rest (s.put d (.ite (p && (b == want)) v'))) (hb : bval (lk s.env j) = some (p, b) := by kernel_rfl) (hval : o.val = true := by kernel_rfl) (hd : o.dst = some d := by rfl) :
    aops P K (.g j want o :: rest) s := gp_step hb hval hd hop hk
theorem vl {o : AOp} {v : V} (hn : (needs s o).all id = true := by kernel_rfl) (h : val1 s o = some v := by kernel_rfl) : vop s (fun x => x = v) o := vop_val1 hn h
/-- of a value that is there under the guard's own condition -/
theorem vg {o : AOp} {v : V} {c : Bool} (hc : c = true) (hn : (needs s o).all id = (c && true) := by kernel_rfl) (h : val1 s o = some v := by kernel_rfl) : vop s (fun x => x = v) o := vop_val1 (by rw [hn, hc]; rfl) h
theorem cs {f : FuncId} {xs : List AO} {dd : Option Nat} {args : List V} {m : Option α} {v' : α → V} {kF : α → Option β} (h : (m >>= kF) = some r) (hg : FOk P f args v' m) (hk : ∀ y, kF y = some r → aops P K rest (s.putO dd (v' y)))
    (hargs : weaks (xs.map (ev s)) = args := by kernel_rfl) (hcl : V.closeds args = true := by kernel_rfl) (hv : ∀ y, (v' y).closed = true := by intro _; rfl) : aops P K (.call dd f xs :: rest) s := call_step h hg hargs hcl hv hk
end
instance (n : Nat) : OfNat AO n := ⟨.t n⟩
abbrev ln {α : Type} (l : List α) : Int := l.length
theorem vln {α : Type} {s : St} {d sz : Nat} {xo : AO} {l : List α} {f : α → List D} (hn : (conds s [xo]).all id = true := by kernel_rfl) (h1 : slV (ev s xo).str = some (sz, l.map f) := by kernel_rfl) : vop s (fun v => v = .d (.i .i64 l.length)) (.len d xo) := vop_len hn h1
theorem via {α : Type} {s : St} {d sz : Nat} {xo io : AO} {k : IntKind} {l : List α} {f g : α → List D} {i : Int} {x : α} (hx : idx l i = some x) (hfg : ∀ x, f x = g x) (hn : (conds s [xo, io]).all id = true := by kernel_rfl) (h1 : slV (ev s xo).str = some (sz, l.map f) := by kernel_rfl) (h2 : (ev s io).str = .d (.i k i) := by kernel_rfl) :
    vop s (fun v => v = .rp (g x)) (.ia d sz xo io) := vop_ia hx hfg hn h1 h2
theorem r1 {s : St} {o : AOp} {v : V} {R : V → List (Nat × List V) → Prop} (h : val1 s o = some v := by kernel_rfl) (hn : (needs s o).all id = true := by kernel_rfl) (hR : R v s.bx := by kernel_rfl) : retQ [o] R .ret s := ret1_step h hn hR
theorem aof {P : Program} {f : FuncId} {ac : AC} {rs : List AOp} {M : Nat} {args : List V} {R : V → List (Nat × List V) → Prop} (htr : trFn P f = some (ac, rs, M)) (hv : avc P ac (retQ rs R) ⟨argEnv 0 args, []⟩) (hargs : Nat.ble args.length M = true := by rfl) : ACalls P f args [] R :=
  acalls_of_fn htr (Nat.le_of_ble_eq_true hargs) (by simp) hv
section
variable {ρ : List (Nat × Tk)} {n : Nat} {v : V} {l : List (Nat × V)} {s : St}
theorem es (ht : envR ρ s l) (h : lk s.env n = v := by kernel_rfl) (hs : v.still = true := by kernel_rfl) : envR ρ s ((n, v) :: l) := er_cons (vr_same h hs) ht
theorem ew (ht : envR ρ s l) (h : (lk s.env n).weak = v := by kernel_rfl) (hs : v.still = true := by kernel_rfl) : envR ρ s ((n, v) :: l) := er_cons (vr_weak h hs) ht
theorem eo (t : Nat) {t' : Nat} {e : TypeId} {sz : Nat} {m : List (List D)} (ht : envR ρ s l) (h : lk s.env n = .osl t e sz m := by kernel_rfl) (hq : tget ρ t' = some (.old t) := by kernel_rfl) : envR ρ s ((n, .osl t' e sz m) :: l) := er_cons (vr_old h hq) ht
theorem en {t' : Nat} {e : TypeId} {sz : Nat} (ht : envR ρ s l) (h : lk s.env n = .nil sz := by kernel_rfl) (hq : tget ρ t' = some (.new e sz) := by kernel_rfl) : envR ρ s ((n, .osl t' e sz []) :: l) := er_cons (vr_new h hq) ht
theorem eS (h : l.map (fun p => (p.1, lk s.env p.1)) = l := by kernel_rfl) (hs : l.all (fun p => p.2.still) = true := by kernel_rfl) : envR ρ s l := by
  induction l with
  | nil => exact er_nil
  | cons p l ih =>
    obtain ⟨n, v⟩ := p
    rw [List.map_cons, List.cons.injEq] at h
    rw [List.all_cons, Bool.and_eq_true] at hs
    exact er_cons (vr_same (Prod.mk.inj h.1).2 hs.1) (ih h.2 hs.2)
theorem bS {l : List (Nat × List V)} (h : l.map (fun p => (p.1, bget s.bx p.1)) = l.map (fun p => (p.1, some p.2)) := by kernel_rfl) (hs : l.all (fun p => V.stills p.2) = true := by kernel_rfl) : bxR ρ s l := by
  induction l with
  | nil => exact br_nil
  | cons p l ih =>
    obtain ⟨n, v⟩ := p
    rw [List.map_cons, List.map_cons, List.cons.injEq] at h
    rw [List.all_cons, Bool.and_eq_true] at hs
    exact br_same (Prod.mk.inj h.1).2 hs.1 (ih h.2 hs.2)
theorem bs_ {c : List V} {l : List (Nat × List V)} (ht : bxR ρ s l) (h : bget s.bx n = some c := by kernel_rfl) (hs : V.stills c = true := by kernel_rfl) : bxR ρ s ((n, c) :: l) := br_same h hs ht
theorem wr (ρ : List (Nat × Tk)) {s s' : St} (he : envR ρ s s'.env) (hb : bxR ρ s s'.bx) (hi : inj (olds ρ) = true := by kernel_rfl) : Wk s s' := wk_ren ρ hi he hb
end
end Go.Ab
