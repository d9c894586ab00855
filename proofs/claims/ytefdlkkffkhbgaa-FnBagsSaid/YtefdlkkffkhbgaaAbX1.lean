/- Steps in few words: what can be seen is filled in. -/
import Derived.Test.YtefdlkkffkhbgaaAbT7
namespace Go.Ab
open Go Go.RowKit

/-- how the elements of a slice lie in cells -/
class Enc (α : Type) where
  f : α → List D
  g : α → List D
  e : ∀ x, f x = g x
theorem slV_snd {v : V} {l : List (List D)} (h : (slV v).map Prod.snd = some l) : ∃ sz, slV v = some (sz, l) := by
  cases e : slV v with
  | none => rw [e] at h; simp at h
  | some p =>
    rw [e] at h
    simp at h
    subst h
    exact ⟨p.1, rfl⟩
theorem rep_id {c : Bool} (n : Nat) (h : c = true) : (List.replicate n c).all id = true := by
  subst h; simp
def gcV (s : St) (j : Nat) (want : Bool) : Bool := match bval (lk s.env j) with
  | some (p, b) => p && (b == want)
  | none => false
def valV (s : St) (o : AOp) : V := match val1 s o with
  | some v => v
  | none => .und
section
variable {P : Program} {K : St → Prop} {KD : List Ev → St → Prop} {Q : Exit → St → Prop} {rest : List AOp} {acc : List Ev} {s : St} {o : AOp} {α β : Type} {r : β} {d : Nat}
/-! an element, a length -/
theorem iq [Enc α] {sz : Nat} {xo io : AO} {l : List α} {i : Int} {kF : α → Option β} (h : (idx l i >>= kF) = some r) (hk : ∀ y, kF y = some r → aops P K rest (s.put d (.rp (Enc.g y)))) (hn : (conds s [xo, io]).all id = true := by kernel_rfl)
    (h1 : slV (ev s xo).str = some (sz, l.map Enc.f) := by kernel_rfl) (h2 : (ev s io).str = .d (.i .i64 i) := by kernel_rfl) : aops P K (.ia d sz xo io :: rest) s :=
  vs (fun y => .rp (Enc.g y)) h (fun _ hy => vop_ia hy Enc.e hn h1 h2) hk
theorem iqf (f : α → List D) {sz : Nat} {xo io : AO} {l : List α} {i : Int} {kF : α → Option β} (h : (idx l i >>= kF) = some r) (hk : ∀ y, kF y = some r → aops P K rest (s.put d (.rp (f y)))) (hn : (conds s [xo, io]).all id = true := by kernel_rfl)
    (h1 : slV (ev s xo).str = some (sz, l.map f) := by kernel_rfl) (h2 : (ev s io).str = .d (.i .i64 i) := by kernel_rfl) : aops P K (.ia d sz xo io :: rest) s :=
  vs (fun y => .rp (f y)) h (fun _ hy => vop_ia hy (fun _ => rfl) hn h1 h2) hk
theorem diq [Enc α] {sz : Nat} {xo io : AO} {l : List α} {i : Int} {kF : α → Option β} (h : (idx l i >>= kF) = some r) (hk : ∀ y, kF y = some r → dgo P KD rest (evV s (.ia d sz xo io) (.rp (Enc.g y)) :: acc) (s.put d (.rp (Enc.g y)))) (hn : (conds s [xo, io]).all id = true := by kernel_rfl)
    (h1 : slV (ev s xo).str = some (sz, l.map Enc.f) := by kernel_rfl) (h2 : (ev s io).str = .d (.i .i64 i) := by kernel_rfl) : dgo P KD (.ia d sz xo io :: rest) acc s :=
  dv_step (v' := fun y => .rp (Enc.g y)) h rfl rfl (fun _ hy => vop_ia hy Enc.e hn h1 h2) hk
theorem diqf (f : α → List D) {sz : Nat} {xo io : AO} {l : List α} {i : Int} {kF : α → Option β} (h : (idx l i >>= kF) = some r) (hk : ∀ y, kF y = some r → dgo P KD rest (evV s (.ia d sz xo io) (.rp (f y)) :: acc) (s.put d (.rp (f y)))) (hn : (conds s [xo, io]).all id = true := by kernel_rfl)
    (h1 : slV (ev s xo).str = some (sz, l.map f) := by kernel_rfl) (h2 : (ev s io).str = .d (.i .i64 i) := by kernel_rfl) : dgo P KD (.ia d sz xo io :: rest) acc s :=
  dv_step (v' := fun y => .rp (f y)) h rfl rfl (fun _ hy => vop_ia hy (fun _ => rfl) hn h1 h2) hk
theorem lqf (f : α → List D) (l : List α) {xo : AO} (hk : aops P K rest (s.put d (.d (.i .i64 l.length)))) (hn : (conds s [xo]).all id = true := by kernel_rfl) (h1 : (slV (ev s xo).str).map Prod.snd = some (l.map f) := by kernel_rfl) : aops P K (.len d xo :: rest) s := by
  obtain ⟨sz, h⟩ := slV_snd h1
  exact ps _ (vop_len hn h) hk
theorem lq [Enc α] (l : List α) {xo : AO} (hk : aops P K rest (s.put d (.d (.i .i64 l.length)))) (hn : (conds s [xo]).all id = true := by kernel_rfl) (h1 : (slV (ev s xo).str).map Prod.snd = some (l.map Enc.f) := by kernel_rfl) : aops P K (.len d xo :: rest) s := lqf Enc.f l hk hn h1
theorem dlqf (f : α → List D) (l : List α) {xo : AO} (hk : dgo P KD rest (evV s (.len d xo) (.d (.i .i64 l.length)) :: acc) (s.put d (.d (.i .i64 l.length)))) (hn : (conds s [xo]).all id = true := by kernel_rfl) (h1 : (slV (ev s xo).str).map Prod.snd = some (l.map f) := by kernel_rfl) : dgo P KD (.len d xo :: rest) acc s := by
  obtain ⟨sz, h⟩ := slV_snd h1
  exact dp_step rfl rfl (vop_len hn h) hk
theorem dlq [Enc α] (l : List α) {xo : AO} (hk : dgo P KD rest (evV s (.len d xo) (.d (.i .i64 l.length)) :: acc) (s.put d (.d (.i .i64 l.length)))) (hn : (conds s [xo]).all id = true := by kernel_rfl) (h1 : (slV (ev s xo).str).map Prod.snd = some (l.map Enc.f) := by kernel_rfl) : dgo P KD (.len d xo :: rest) acc s := dlqf Enc.f l hk hn h1
/-! under a guard: n of the operands bear its condition -/
theorem gq (n : Nat) {j : Nat} {want : Bool} (hk : aops P K rest (s.put d (.ite (gcV s j want) (valV s o)))) (hval : o.val = true := by kernel_rfl) (hd : o.dst = some d := by rfl) (hb : (bval (lk s.env j)).isSome = true := by kernel_rfl) (hv : (val1 s o).isSome = true := by kernel_rfl)
    (hn : (needs s o).all id = (List.replicate n (gcV s j want)).all id := by kernel_rfl) : aops P K (.g j want o :: rest) s := by
  cases e : bval (lk s.env j) with
  | none => rw [e] at hb; simp at hb
  | some q =>
    obtain ⟨p, b⟩ := q
    cases e2 : val1 s o with
    | none => rw [e2] at hv; simp at hv
    | some v =>
      have e3 : gcV s j want = (p && (b == want)) := by simp only [gcV, e]
      have e4 : valV s o = v := by simp only [valV, e2]
      rw [e3] at hn hk
      rw [e4] at hk
      exact gp_step e hval hd (fun hc => vop_val1 (hn.trans (rep_id n hc)) e2) hk
theorem dgq (n : Nat) {j : Nat} {want : Bool} (hk : dgo P KD rest (evV s (.g j want o) (.ite (gcV s j want) (valV s o)) :: acc) (s.put d (.ite (gcV s j want) (valV s o)))) (hval : o.val = true := by kernel_rfl) (hd : o.dst = some d := by rfl) (hb : (bval (lk s.env j)).isSome = true := by kernel_rfl) (hv : (val1 s o).isSome = true := by kernel_rfl)
    (hn : (needs s o).all id = (List.replicate n (gcV s j want)).all id := by kernel_rfl) : dgo P KD (.g j want o :: rest) acc s := by
  cases e : bval (lk s.env j) with
  | none => rw [e] at hb; simp at hb
  | some q =>
    obtain ⟨p, b⟩ := q
    cases e2 : val1 s o with
    | none => rw [e2] at hv; simp at hv
    | some v =>
      have e3 : gcV s j want = (p && (b == want)) := by simp only [gcV, e]
      have e4 : valV s o = v := by simp only [valV, e2]
      rw [e3] at hn hk
      rw [e4] at hk
      exact dgp_step e hval hd (fun hc => vop_val1 (hn.trans (rep_id n hc)) e2) hk
theorem glqf (n : Nat) (f : α → List D) (l : List α) {j : Nat} {want : Bool} {xo : AO} (hk : aops P K rest (s.put d (.ite (gcV s j want) (.d (.i .i64 l.length))))) (hb : (bval (lk s.env j)).isSome = true := by kernel_rfl)
    (hn : (conds s [xo]).all id = (List.replicate n (gcV s j want)).all id := by kernel_rfl) (h1 : (slV (ev s xo).str).map Prod.snd = some (l.map f) := by kernel_rfl) : aops P K (.g j want (.len d xo) :: rest) s := by
  cases e : bval (lk s.env j) with
  | none => rw [e] at hb; simp at hb
  | some q =>
    obtain ⟨p, b⟩ := q
    have e3 : gcV s j want = (p && (b == want)) := by simp only [gcV, e]
    rw [e3] at hn hk
    obtain ⟨sz, h⟩ := slV_snd h1
    exact gp_step e rfl rfl (fun hc => vop_len (hn.trans (rep_id n hc)) h) hk
theorem glq (n : Nat) [Enc α] (l : List α) {j : Nat} {want : Bool} {xo : AO} (hk : aops P K rest (s.put d (.ite (gcV s j want) (.d (.i .i64 l.length))))) (hb : (bval (lk s.env j)).isSome = true := by kernel_rfl)
    (hn : (conds s [xo]).all id = (List.replicate n (gcV s j want)).all id := by kernel_rfl) (h1 : (slV (ev s xo).str).map Prod.snd = some (l.map Enc.f) := by kernel_rfl) : aops P K (.g j want (.len d xo) :: rest) s := glqf n Enc.f l hk hb hn h1
theorem giqf (n : Nat) (f : α → List D) {j : Nat} {want p b : Bool} {sz : Nat} {xo io : AO} {l : List α} {i : Int} {dflt : α} {kF : α → Option β} (h : ((if (p && (b == want)) = true then idx l i else some dflt) >>= kF) = some r)
    (hk : ∀ y, kF y = some r → aops P K rest (s.put d (.ite (p && (b == want)) (.rp (f y))))) (hb : bval (lk s.env j) = some (p, b) := by kernel_rfl) (hn : (conds s [xo, io]).all id = (List.replicate n (p && (b == want))).all id := by kernel_rfl)
    (h1 : slV (ev s xo).str = some (sz, l.map f) := by kernel_rfl) (h2 : (ev s io).str = .d (.i .i64 i) := by kernel_rfl) : aops P K (.g j want (.ia d sz xo io) :: rest) s :=
  gv_step (v' := fun y => .rp (f y)) h hb rfl rfl (fun _ hy hc => vop_ia hy (fun _ => rfl) (hn.trans (rep_id n hc)) h1 h2) hk
theorem giq (n : Nat) [Enc α] {j : Nat} {want p b : Bool} {sz : Nat} {xo io : AO} {l : List α} {i : Int} {dflt : α} {kF : α → Option β} (h : ((if (p && (b == want)) = true then idx l i else some dflt) >>= kF) = some r)
    (hk : ∀ y, kF y = some r → aops P K rest (s.put d (.ite (p && (b == want)) (.rp (Enc.g y))))) (hb : bval (lk s.env j) = some (p, b) := by kernel_rfl) (hn : (conds s [xo, io]).all id = (List.replicate n (p && (b == want))).all id := by kernel_rfl)
    (h1 : slV (ev s xo).str = some (sz, l.map Enc.f) := by kernel_rfl) (h2 : (ev s io).str = .d (.i .i64 i) := by kernel_rfl) : aops P K (.g j want (.ia d sz xo io) :: rest) s :=
  gv_step (v' := fun y => .rp (Enc.g y)) h hb rfl rfl (fun _ hy hc => vop_ia hy Enc.e (hn.trans (rep_id n hc)) h1 h2) hk
/-! both ways of a condition -/
theorem pkA {co xo yo : AO} {b u v : Bool} {kF : Bool → Option β} (h : (some (if b = true then u else v) >>= kF) = some r) (hk : ∀ y, kF y = some r → aops P K rest (s.put d (.d (.b y)))) (hn : (conds s [co]).all id = true := by kernel_rfl) (hc : (ev s co).str = .d (.b b) := by kernel_rfl)
    (hx : bval (ev s xo) = some (true && (b == true), u) := by kernel_rfl) (hy : bval (ev s yo) = some (true, v) := by kernel_rfl) : aops P K (.pick d co xo yo :: rest) s :=
  vs (fun y => .d (.b y)) h (fun _ hm => vop_pickV hm hn hc hx hy (fun hb => gc_t rfl hb) fun _ => rfl) hk
theorem pkO {co xo yo : AO} {b u v : Bool} {kF : Bool → Option β} (h : (some (if b = true then u else v) >>= kF) = some r) (hk : ∀ y, kF y = some r → aops P K rest (s.put d (.d (.b y)))) (hn : (conds s [co]).all id = true := by kernel_rfl) (hc : (ev s co).str = .d (.b b) := by kernel_rfl)
    (hx : bval (ev s xo) = some (true, u) := by kernel_rfl) (hy : bval (ev s yo) = some (true && (b == false), v) := by kernel_rfl) : aops P K (.pick d co xo yo :: rest) s :=
  vs (fun y => .d (.b y)) h (fun _ hm => vop_pickV hm hn hc hx hy (fun _ => rfl) fun hb => gc_f rfl hb) hk
theorem dpkA {co xo yo : AO} {b u v : Bool} {kF : Bool → Option β} (h : (some (if b = true then u else v) >>= kF) = some r) (hk : ∀ y, kF y = some r → dgo P KD rest (evV s (.pick d co xo yo) (.d (.b y)) :: acc) (s.put d (.d (.b y)))) (hn : (conds s [co]).all id = true := by kernel_rfl) (hc : (ev s co).str = .d (.b b) := by kernel_rfl)
    (hx : bval (ev s xo) = some (true && (b == true), u) := by kernel_rfl) (hy : bval (ev s yo) = some (true, v) := by kernel_rfl) : dgo P KD (.pick d co xo yo :: rest) acc s :=
  dv_step (v' := fun y => .d (.b y)) h rfl rfl (fun _ hm => vop_pickV hm hn hc hx hy (fun hb => gc_t rfl hb) fun _ => rfl) hk
theorem dpkO {co xo yo : AO} {b u v : Bool} {kF : Bool → Option β} (h : (some (if b = true then u else v) >>= kF) = some r) (hk : ∀ y, kF y = some r → dgo P KD rest (evV s (.pick d co xo yo) (.d (.b y)) :: acc) (s.put d (.d (.b y)))) (hn : (conds s [co]).all id = true := by kernel_rfl) (hc : (ev s co).str = .d (.b b) := by kernel_rfl)
    (hx : bval (ev s xo) = some (true, u) := by kernel_rfl) (hy : bval (ev s yo) = some (true && (b == false), v) := by kernel_rfl) : dgo P KD (.pick d co xo yo :: rest) acc s :=
  dv_step (v' := fun y => .d (.b y)) h rfl rfl (fun _ hm => vop_pickV hm hn hc hx hy (fun _ => rfl) fun hb => gc_f rfl hb) hk
/-! calls -/
theorem dcs {f : FuncId} {xs : List AO} {args : List V} {m : Option α} {v' : α → V} {kF : α → Option β} (h : (m >>= kF) = some r) (hg : ∀ y, m = some y → ACalls P f args [] fun x _ => x = v' y)
    (hk : ∀ y, kF y = some r → dgo P KD rest (evV s (.call (some d) f xs) (v' y) :: acc) (s.put d (v' y))) (hargs : weaks (xs.map (ev s)) = args := by kernel_rfl) (hcl : V.closeds args = true := by kernel_rfl) (hv : ∀ y, (v' y).closed = true := by intro _; rfl) : dgo P KD (.call (some d) f xs :: rest) acc s :=
  dcall_step h hg hargs hcl hv hk
theorem gc (n : Nat) {j : Nat} {want p b : Bool} {f : FuncId} {xs : List AO} {args : List V} {m : Option α} {dflt : α} {v' : α → V} {kF : α → Option β} (h : ((if (p && (b == want)) = true then m else some dflt) >>= kF) = some r)
    (hg : ∀ y, m = some y → ACalls P f args [] fun x _ => x = v' y) (hk : ∀ y, kF y = some r → aops P K rest (s.put d (.ite (p && (b == want)) (v' y)))) (hb : bval (lk s.env j) = some (p, b) := by kernel_rfl)
    (hargs : weaks (strs (xs.map (ev s))) = args := by kernel_rfl) (hcl : V.closeds args = true := by kernel_rfl) (hv : ∀ y, (v' y).closed = true := by intro _; rfl) (hn : (conds s xs).all id = (List.replicate n (p && (b == want))).all id := by kernel_rfl) : aops P K (.g j want (.call (some d) f xs) :: rest) s :=
  gcall_step h hb hg (fun _ => hargs) hcl hv (fun hc => hn.trans (rep_id n hc)) hk
theorem dgc (n : Nat) {j : Nat} {want p b : Bool} {f : FuncId} {xs : List AO} {args : List V} {m : Option α} {dflt : α} {v' : α → V} {kF : α → Option β} (h : ((if (p && (b == want)) = true then m else some dflt) >>= kF) = some r)
    (hg : ∀ y, m = some y → ACalls P f args [] fun x _ => x = v' y) (hk : ∀ y, kF y = some r → dgo P KD rest (evV s (.g j want (.call (some d) f xs)) (.ite (p && (b == want)) (v' y)) :: acc) (s.put d (.ite (p && (b == want)) (v' y)))) (hb : bval (lk s.env j) = some (p, b) := by kernel_rfl)
    (hargs : weaks (strs (xs.map (ev s))) = args := by kernel_rfl) (hcl : V.closeds args = true := by kernel_rfl) (hv : ∀ y, (v' y).closed = true := by intro _; rfl) (hn : (conds s xs).all id = (List.replicate n (p && (b == want))).all id := by kernel_rfl) : dgo P KD (.g j want (.call (some d) f xs) :: rest) acc s :=
  dgcall_step h hb hg (fun _ => hargs) hcl hv (fun hc => hn.trans (rep_id n hc)) hk
theorem cg (c : CallN) {f : FuncId} {xs : List AO} {dd : Option Nat} {args : List V} {fb : List (Nat × List V)} {m : Option α} {v : α → V} {B : α → List (Nat × List V)} {kF : α → Option β} (h : (m >>= kF) = some r) (hg : FOkB P f args fb v B m)
    (hk : ∀ y, kF y = some r → aops P K rest ((c.st s (B y)).putO dd (c.res (v y)))) (hargs : c.args s.bx (xs.map (ev s)) = args := by kernel_rfl) (hfb : c.fb s.bx = fb := by kernel_rfl) (hin : c.hin s (xs.map (ev s)) = true := by kernel_rfl) (hcl : c.hcl s dd = true := by kernel_rfl)
    (hout : ∀ y, c.hout (v y) (B y) = true := by intro _; kernel_rfl) : aops P K (.call dd f xs :: rest) s := callg_step c h hg hargs hfb hin hcl hout (fun _ => rfl) hk
theorem cgv (c : CallN) (caps : List V) {f : FuncId} {fo : AO} {xs : List AO} {dd : Option Nat} {args : List V} {fb : List (Nat × List V)} {m : Option α} {v : α → V} {B : α → List (Nat × List V)} {kF : α → Option β} (h : (m >>= kF) = some r) (hg : FOkB P f args fb v B m)
    (hk : ∀ y, kF y = some r → aops P K rest ((c.st s (B y)).putO dd (c.res (v y)))) (hfn : ev s fo = .fn f caps := by kernel_rfl) (hgo : goFc P f = true := by kernel_rfl) (hargs : c.args s.bx (xs.map (ev s) ++ caps) = args := by kernel_rfl) (hfb : c.fb s.bx = fb := by kernel_rfl) (hin : c.hin s (xs.map (ev s) ++ caps) = true := by kernel_rfl) (hcl : c.hcl s dd = true := by kernel_rfl)
    (hout : ∀ y, c.hout (v y) (B y) = true := by intro _; kernel_rfl) : aops P K (.callv dd fo xs :: rest) s := callvg_step c h hg hfn hgo hargs hfb hin hcl hout (fun _ => rfl) hk
theorem dcg (c : CallN) (tt tb : List Nat) {f : FuncId} {xs : List AO} {dd : Option Nat} {args : List V} {fb : List (Nat × List V)} {m : Option α} {v : α → V} {B : α → List (Nat × List V)} {kF : α → Option β} (h : (m >>= kF) = some r) (hg : FOkB P f args fb v B m)
    (hk : ∀ y, kF y = some r → dgo P KD rest (evK c s (.call dd f xs) dd (v y) (B y) tt tb :: acc) (eff (evK c s (.call dd f xs) dd (v y) (B y) tt tb) s)) (hargs : c.args s.bx (xs.map (ev s)) = args := by kernel_rfl) (hfb : c.fb s.bx = fb := by kernel_rfl) (hin : c.hin s (xs.map (ev s)) = true := by kernel_rfl) (hd : c.hd dd = true := by kernel_rfl)
    (hout : ∀ y, c.hout (v y) (B y) = true := by intro _; kernel_rfl) : dgo P KD (.call dd f xs :: rest) acc s := dcallg_step c tt tb h hg hargs hfb hin hd hout (fun _ => rfl) hk
theorem dcgv (c : CallN) (tt tb : List Nat) (caps : List V) {f : FuncId} {fo : AO} {xs : List AO} {dd : Option Nat} {args : List V} {fb : List (Nat × List V)} {m : Option α} {v : α → V} {B : α → List (Nat × List V)} {kF : α → Option β} (h : (m >>= kF) = some r) (hg : FOkB P f args fb v B m)
    (hk : ∀ y, kF y = some r → dgo P KD rest (evK c s (.callv dd fo xs) dd (v y) (B y) tt tb :: acc) (eff (evK c s (.callv dd fo xs) dd (v y) (B y) tt tb) s)) (hfn : ev s fo = .fn f caps := by kernel_rfl) (hgo : goFc P f = true := by kernel_rfl) (hargs : c.args s.bx (xs.map (ev s) ++ caps) = args := by kernel_rfl) (hfb : c.fb s.bx = fb := by kernel_rfl) (hin : c.hin s (xs.map (ev s) ++ caps) = true := by kernel_rfl) (hd : c.hd dd = true := by kernel_rfl)
    (hout : ∀ y, c.hout (v y) (B y) = true := by intro _; kernel_rfl) : dgo P KD (.callv dd fo xs :: rest) acc s := dcallvg_step c tt tb h hg hfn hgo hargs hfb hin hd hout (fun _ => rfl) hk
/-! append, a row of these -/
theorem aq (t : Nat) {e sz by' : Nat} {xo yo : AO} {l m : List α} (f : α → List D) {kF : List α → Option β} (h : (appG by' l m >>= kF) = some r) (hk : ∀ y, kF y = some r → aops P K rest ⟨(d, .osl d e sz (y.map f)) :: (s.dn t).env, (s.dn t).bx⟩)
    (hx : ev s xo = .osl t e sz (l.map f) := by kernel_rfl) (hy0 : (ev s yo).cond = [] := by kernel_rfl) (hy : srV (ev s yo) = some (sz, m.map f) := by kernel_rfl) (hf : ((s.dn t).fresh d && (s.dn t).clean t) = true := by kernel_rfl) : aops P K (.app d e sz by' xo yo :: rest) s :=
  app_step h hx hy0 hy hf (fun _ => rfl) hk
theorem daq (t : Nat) (tt tb : List Nat) {e sz by' : Nat} {xo yo : AO} {l m : List α} (f : α → List D) {kF : List α → Option β} (h : (appG by' l m >>= kF) = some r) (hk : ∀ y, kF y = some r → dgo P KD rest (evP s d e sz by' xo yo t (y.map f) tt tb :: acc) (eff (evP s d e sz by' xo yo t (y.map f) tt tb) s))
    (hx : ev s xo = .osl t e sz (l.map f) := by kernel_rfl) (hy0 : (ev s yo).cond = [] := by kernel_rfl) (hy : srV (ev s yo) = some (sz, m.map f) := by kernel_rfl) : dgo P KD (.app d e sz by' xo yo :: rest) acc s :=
  dapp_step tt tb h hx hy0 hy (fun _ => rfl) hk
/-! ends and seams -/
theorem rp {o : AOp} {V0 : V} (h : val1 s o = some V0 := by kernel_rfl) (hn : (needs s o).all id = true := by kernel_rfl) : retQ [o] (fun x _ => x = V0) .ret s := ret1_step h hn rfl
theorem bxH : ∀ {B b : List (Nat × List V)}, B.map (fun p => bget b p.1) = B.map (fun p => some p.2) → bxHas B b
  | [], _, _ => trivial
  | (n, c) :: l, b, h => by
    simp only [List.map_cons, List.cons.injEq] at h
    exact ⟨h.1, bxH h.2⟩
theorem rb {o : AOp} {V0 : V} {B0 : List (Nat × List V)} (h : val1 s o = some V0 := by kernel_rfl) (hn : (needs s o).all id = true := by kernel_rfl) (hB : B0.map (fun p => bget s.bx p.1) = B0.map (fun p => some p.2) := by kernel_rfl) : retQ [o] (fun x b => x = V0 ∧ bxHas B0 b) .ret s := ret1_step h hn ⟨rfl, bxH hB⟩
theorem resE_tup {rs : List AOp} {V0 : V} (h : (resE s rs).map V.tup = some V0) : ∃ vs, resE s rs = some vs ∧ V.tup vs = V0 := by
  cases e : resE s rs with
  | none => rw [e] at h; simp at h
  | some vs => rw [e] at h; exact ⟨vs, rfl, by simpa using h⟩
theorem rnp {o1 o2 : AOp} {os : List AOp} {V0 : V} (h : (resE s (o1 :: o2 :: os)).map V.tup = some V0 := by kernel_rfl) : retQ (o1 :: o2 :: os) (fun x _ => x = V0) .ret s := by
  obtain ⟨vs, h1, h2⟩ := resE_tup h
  exact retn_step h1 h2
theorem rnb {o1 o2 : AOp} {os : List AOp} {V0 : V} {B0 : List (Nat × List V)} (h : (resE s (o1 :: o2 :: os)).map V.tup = some V0 := by kernel_rfl) (hB : B0.map (fun p => bget s.bx p.1) = B0.map (fun p => some p.2) := by kernel_rfl) : retQ (o1 :: o2 :: os) (fun x b => x = V0 ∧ bxHas B0 b) .ret s := by
  obtain ⟨vs, h1, h2⟩ := resE_tup h
  exact retn_step h1 ⟨h2, bxH hB⟩
theorem r0b {B0 : List (Nat × List V)} (hB : B0.map (fun p => bget s.bx p.1) = B0.map (fun p => some p.2) := by kernel_rfl) : retQ [] (fun x b => x = .tup [] ∧ bxHas B0 b) .ret s := ret0_step ⟨rfl, bxH hB⟩
theorem nxs {next : St → Prop} {s' : St} (h : next s') (hw : Wk s s') : thenK (wkK next) Q .normal s := next_step hw h
theorem lbs {x : AC} {s' : St} (h : avc P (.loop x) Q s') (hw : Wk s s') : thenK (avc P (.loop x) Q) Q .normal s := loop_back hw h
theorem lgs {x : AC} {s' : St} (h : avc P (.loop x) Q s') (hw : Wk s s') : avc P (.loop x) Q s := loop_go hw h
theorem ao {f : FuncId} {ac : AC} {rs : List AOp} {M : Nat} {args : List V} {fb : List (Nat × List V)} {R : V → List (Nat × List V) → Prop} (htr : trFn P f = some (ac, rs, M)) (hv : avc P ac (retQ rs R) ⟨argEnv 0 args, fb⟩) (hargs : Nat.ble args.length M = true := by rfl)
    (hfb : fb.all (fun p => Nat.ble M p.1 && Nat.blt p.1 NX) = true := by kernel_rfl) : ACalls P f args fb R := by
  refine acalls_of_fn htr (Nat.le_of_ble_eq_true hargs) (fun n hn => ?_) hv
  obtain ⟨p, hp, rfl⟩ := List.mem_map.1 hn
  have := List.all_eq_true.1 hfb p hp
  simp only [Bool.and_eq_true] at this
  exact ⟨Nat.le_of_ble_eq_true this.1, Nat.le_of_ble_eq_true this.2⟩
end
end Go.Ab
