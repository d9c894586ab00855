/- Calls, guards; lists of operations; regions. -/
import Derived.Test.YtefdlkkffkhbgaaAb11
namespace Go.Ab
open Go Go.RowKit

section
variable {E : Entry} {N : Nat} {κ : Ctx} {w : World} {a : Act} {s : St} {P : Program} {K : St → Prop} {Q : Exit → Act → World → Prop}

theorem Ok.putO (h : Ok E N κ w a s) {d : Option Nat} (hd : ∀ n, d = some n → n < N) {v : Value} {x : V} (hv : RepV κ v x) : Ok E N κ w (a.put d v) (s.putO d x) := by
  cases d with
  | none => exact h
  | some d => exact h.put (hd d rfl) hv

theorem callFunc_run {f : FuncId} (hf : goFn P f = true) (args : Array Value) (w : World) : (callFunc f args).run P w = .ok (.enter f args) w := by
  unfold goFn at hf
  split at hf
  · rename_i fn hfn
    simp only [Bool.and_eq_true, bne_iff_ne, ne_eq] at hf
    have h1 : (fn.name == "runtime.NumGoroutine") = false := by simpa using hf.2
    have h2 : fn.body.isNone = false := by cases h : fn.body <;> simp [h] at hf ⊢
    simp only [callFunc, Sem.run_bind, run_program, Result.andThen_ok, hfn, h1, h2, Bool.false_eq_true, if_false, Sem.run_pure]
  · simp at hf

theorem enter_sound {o : Oper} {f : FuncId} {cargs : List Value} {vs : List V} (hr : (execOp a.eval o).run P w = .ok (.enter f cargs.toArray) w) (hfb : ∀ n ∈ E.fb, N ≤ n ∧ n < NX) (hd : ∀ n, o.dst = some n → n < N) (h : Ok E N κ w a s)
    (hargs : RepVs κ cargs vs) (hv : callK P s o.dst f vs fun x s' => K (s'.putO o.dst x)) : o.wp P a w (KC E N K) Q := by
  unfold Oper.wp
  rw [hr, Oper.upon_enter]
  refine (hv E N κ w a cargs hfb hd h hargs).mono ?_
  rintro e w' ⟨v, x, κ', s', rfl, hok, hx, hK⟩
  exact ⟨κ', _, hK, hok.putO hd hx⟩

theorem call_sound {f : FuncId} {args : Array Operand} {ts : Array TypeId} {xs : List AO} {o : Oper} (ho : o.op = .call { callee := .value (.func f), args := args, argTypes := ts }) (hf : goFn P f = true) (hfb : ∀ n ∈ E.fb, N ≤ n ∧ n < NX) (hd : ∀ n, o.dst = some n → n < N)
    (hxs : trOs P ts.toList args.toList = some xs) (h : Ok E N κ w a s) (hv : callK P s o.dst f (xs.map (ev s)) fun x s' => K (s'.putO o.dst x)) : o.wp P a w (KC E N K) Q := by
  refine enter_sound (f := f) (cargs := args.toList.map a.eval) ?_ hfb hd h (trOs_sound hxs h.env) hv
  unfold execOp; rw [ho]
  have e : args.map a.eval = (args.toList.map a.eval).toArray := by apply Array.ext'; simp
  simp only [resolve, Act.eval, Deferred.ofValue, Sem.run_bind, Sem.run_pure, Result.andThen_ok, invoke]
  rw [callFunc_run hf]
  simp [← e]

theorem callv_sound {t : Nat} {args : Array Operand} {ts : Array TypeId} {xs : List AO} {o : Oper} (ho : o.op = .call { callee := .value (.tmp t), args := args, argTypes := ts }) (hfb : ∀ n ∈ E.fb, N ≤ n ∧ n < NX) (hd : ∀ n, o.dst = some n → n < N)
    (hxs : trOs P ts.toList args.toList = some xs) (h : Ok E N κ w a s)
    (hv : use (lk s.env t) fun f => match f with
    | .fn g caps => (goFc P g = true ∧ callK P s o.dst g (xs.map (ev s) ++ caps) fun x s' => K (s'.putO o.dst x)) ∨ (∃ q, g = mvc q ∧ goFn P q = true ∧ callK P s o.dst q (caps ++ xs.map (ev s)) fun x s' => K (s'.putO o.dst x))
    | _ => False) : o.wp P a w (KC E N K) Q := by
  obtain ⟨p, hp, h1⟩ := use_sound (h.env t) hv
  split at h1
  · rename_i g caps
    rcases h1 with ⟨hg, h2⟩ | ⟨q, hq, hg, h2⟩
    case inr =>
      subst hq
      obtain ⟨cs, hex, hcs⟩ := hp.toFnm
      refine enter_sound (f := q) (cargs := cs ++ args.toList.map a.eval) ?_ hfb hd h (hcs.append (trOs_sound hxs h.env)) h2
      unfold execOp; rw [ho]
      have e : args.map a.eval = (args.toList.map a.eval).toArray := by apply Array.ext'; simp
      have hex' : a.eval (.tmp t) = .func (.func q) cs.toArray #[] := hex
      simp only [resolve, hex', Deferred.ofValue, Sem.run_bind, Sem.run_pure, Result.andThen_ok, invoke]
      rw [callFunc_run hg]
      simp [← e]
    obtain ⟨hg0, hg⟩ := goFc_ok hg
    obtain ⟨cs, hex, hcs⟩ := hp.toFn hg0
    refine enter_sound (f := g) (cargs := args.toList.map a.eval ++ cs) ?_ hfb hd h ((trOs_sound hxs h.env).append hcs) h2
    unfold execOp; rw [ho]
    have e : args.map a.eval = (args.toList.map a.eval).toArray := by apply Array.ext'; simp
    have hex' : a.eval (.tmp t) = .func (.func g) #[] cs.toArray := hex
    simp only [resolve, hex', Deferred.ofValue, Sem.run_bind, Sem.run_pure, Result.andThen_ok, invoke]
    rw [callFunc_run hg]
    simp [← e]
  · exact h1.elim

/-- the translation of an operation of a region, its guard with it -/
def trOp (P : Program) (gd : Nat → Option Nat) (o : Oper) : Option AOp :=
  match trOp0 P o, o.guard with
  | some x, none => some x
  | some x, some (j, want) => match gd j with
    | some t => some (.g t want x)
    | none => none
  | none, _ => none

theorem vcase {o : Oper} {ao : AOp} (htr : trOp0 P o = some ao) (hdN : ∀ d, ao.dst = some d → d < N) (h : Ok E N κ w a s) (hv : ∃ d, ao.dst = some d ∧ vop s (fun v => K (s.put d v)) ao) : o.wp P a w (KC E N K) Q := by
  obtain ⟨d, hd, hv⟩ := hv
  obtain ⟨⟨d', h1, h2⟩, v, x, hr, hx, hK⟩ := vop_sound htr h.env h.good hv
  obtain rfl : d = d' := by rw [hd] at h2; simpa using h2
  exact wp_pure h1 h (hdN d hd) hr hx hK

/-- An operation. -/
theorem aop_sound {o : Oper} {ao : AOp} (htr : trOp0 P o = some ao) (hdN : ∀ d, ao.dst = some d → d < N) (hfb : ∀ n ∈ E.fb, N ≤ n ∧ n < NX) (h : Ok E N κ w a s) (hv : aop P s K ao) : o.wp P a w (KC E N K) Q := by
  obtain ⟨dst, op, type, pos, after, guard⟩ := o
  have htr0 := htr
  cases op with
  | move x =>
    simp only [trOp0] at htr; split at htr <;> simp at htr; subst htr
    exact vcase htr0 hdN h ⟨_, rfl, hv⟩
  | assign x =>
    simp only [trOp0] at htr; split at htr <;> simp at htr; subst htr; rename_i h2
    exact asg_sound rfl rfl (hdN _ rfl) h2 h hv
  | pick c x y =>
    simp only [trOp0] at htr; split at htr <;> simp at htr; subst htr
    exact vcase htr0 hdN h ⟨_, rfl, hv⟩
  | binOp op T x y U =>
    simp only [trOp0] at htr; split at htr
    · split at htr
      · simp at htr; subst htr; exact vcase htr0 hdN h ⟨_, rfl, hv⟩
      · simp at htr; subst htr; exact vcase htr0 hdN h ⟨_, rfl, hv⟩
      · obtain ⟨n, hn, rfl⟩ := Option.map_eq_some_iff.1 htr
        exact vcase htr0 hdN h ⟨_, rfl, hv⟩
      · split at htr
        · split at htr <;> simp at htr
          subst htr
          exact vcase htr0 hdN h ⟨_, rfl, hv⟩
        · simp at htr
      · split at htr
        · obtain ⟨n, hn', rfl⟩ := Option.map_eq_some_iff.1 htr
          exact vcase htr0 hdN h ⟨_, rfl, hv⟩
        · simp at htr
      · simp at htr
    · simp at htr
  | unOp op T x =>
    simp only [trOp0] at htr; split at htr
    · split at htr <;> simp at htr <;> subst htr <;> exact vcase htr0 hdN h ⟨_, rfl, hv⟩
    · simp at htr
  | convert S T x =>
    simp only [trOp0] at htr; split at htr
    · split at htr
      · simp at htr; subst htr; exact vcase htr0 hdN h ⟨_, rfl, hv⟩
      · split at htr <;> simp at htr
        subst htr; exact vcase htr0 hdN h ⟨_, rfl, hv⟩
      · rename_i hs ht
        split at htr <;> simp at htr
        rename_i he
        subst htr; exact csb_sound rfl rfl (hdN _ rfl) hfb hs ht he (by assumption) h hv
      · simp at htr
    · simp at htr
  | field T x i =>
    simp only [trOp0] at htr; split at htr
    · split at htr
      · split at htr <;> simp at htr
        subst htr
        exact vcase htr0 hdN h ⟨_, rfl, hv⟩
      · simp at htr
    · simp at htr
  | fieldAddr T x i =>
    simp only [trOp0] at htr; split at htr
    · split at htr
      · split at htr
        · split at htr <;> simp at htr
          subst htr
          exact vcase htr0 hdN h ⟨_, rfl, hv⟩
        · simp at htr
      · simp at htr
    · simp at htr
  | indexAddr T x i =>
    simp only [trOp0] at htr; split at htr
    · rename_i h2 h3 h4
      split at htr <;> simp at htr
      rename_i h5
      subst htr
      rcases hv with hv | hv
      · exact vcase htr0 hdN h ⟨_, rfl, hv⟩
      · exact iaT_sound rfl rfl (hdN _ rfl) hfb h2 h3 h4 h5 h hv
    · simp at htr
  | index T x i =>
    simp only [trOp0] at htr; split at htr <;> simp at htr
    subst htr
    exact vcase htr0 hdN h ⟨_, rfl, hv⟩
  | slice T x lo hi mx =>
    simp only [trOp0] at htr; split at htr
    · split at htr
      · split at htr <;> simp at htr
        subst htr
        exact vcase htr0 hdN h ⟨_, rfl, hv⟩
      · split at htr <;> simp at htr
        subst htr
        exact vcase htr0 hdN h ⟨_, rfl, hv⟩
      · simp at htr
    · simp at htr
  | build T parts =>
    simp only [trOp0] at htr; split at htr
    · rename_i h2 h3 h3'
      obtain ⟨ps, h4, rfl⟩ := Option.map_eq_some_iff.1 htr
      rcases hv with hv | hv
      · exact vcase htr0 hdN h ⟨_, rfl, hv⟩
      · obtain ⟨v, x, hr, hx, hK⟩ := bldv_yields (C := fun v => K (s.put _ v)) (parts := parts.toList) h3 h3' h4 h.env hv
        rw [Array.toArray_toList] at hr
        exact wp_pure (d := _) rfl h (hdN _ rfl) hr hx hK
    · simp at htr
  | buildSlice T len parts =>
    simp only [trOp0] at htr; split at htr
    · rename_i hT
      split at htr
      · rename_i hti hxs
        split at htr
        · rename_i hz
          split at htr <;> simp at htr
          rename_i hc
          subst htr
          rcases hv with hv | hv | hv
          · exact bsl_sound rfl rfl (hdN _ rfl) hT hti hz hxs hc.1 hc.2.1 hc.2.2 h hv
          · exact bslT_sound rfl rfl (hdN _ rfl) hfb hT hti hz hxs hc.1 hc.2.1 hc.2.2 h hv
          · exact bslS_sound rfl rfl (hdN _ rfl) hfb hT hti hz hxs hc.1 hc.2.1 hc.2.2 h hv
        · simp at htr
      · simp at htr
    · simp at htr
  | makeFunc fn first caps =>
    simp only [trOp0] at htr; split at htr
    · split at htr
      · obtain ⟨cs, h2, rfl⟩ := Option.map_eq_some_iff.1 htr
        exact vcase htr0 hdN h ⟨_, rfl, hv⟩
      · split at htr
        · obtain ⟨cs, h2, rfl⟩ := Option.map_eq_some_iff.1 htr
          exact vcase htr0 hdN h ⟨_, rfl, hv⟩
        · simp at htr
    · simp at htr
  | extract x i =>
    simp only [trOp0] at htr; split at htr <;> simp at htr
    subst htr
    exact vcase htr0 hdN h ⟨_, rfl, hv⟩
  | nilCheck x =>
    simp only [trOp0] at htr; split at htr <;> simp at htr
    subst htr
    exact vcase htr0 hdN h ⟨_, rfl, hv⟩
  | load T x =>
    simp only [trOp0] at htr; split at htr
    · split at htr <;> simp at htr
      subst htr
      exact vcase htr0 hdN h ⟨_, rfl, hv⟩
    · simp at htr
  | box T x =>
    simp only [trOp0] at htr; split at htr <;> simp at htr
    rename_i h2
    subst htr
    exact box_sound rfl rfl (hdN _ rfl) hfb h2 h hv
  | makeSlice T l c =>
    simp only [trOp0] at htr; split at htr
    · rename_i h2 h3 hT
      split at htr
      · rename_i hti
        split at htr
        · rename_i hz
          split at htr
          · rename_i hds
            split at htr <;> simp at htr
            rename_i hc
            subst htr
            exact mks_sound rfl rfl (hdN _ rfl) hfb hT hti hz hds hc.1 hc.2.1 hc.2.2 h2 h3 h hv
          · simp at htr
        · simp at htr
      · simp at htr
    · simp at htr
  | alloc T =>
    simp only [trOp0] at htr; split at htr
    · rename_i h1 h2
      split at htr <;> simp at htr
      subst htr
      exact alc_sound rfl rfl (hdN _ rfl) hfb h2 h hv
    · simp at htr
  | store T x y =>
    simp only [trOp0] at htr; split at htr <;> simp at htr
    rename_i h2 h3 h4
    subst htr
    exact st_sound rfl rfl h2 h3 h4 h hv
  | call c =>
    obtain ⟨callee, args, argTypes⟩ := c
    simp only [trOp0] at htr
    split at htr
    · split at htr
      · split at htr <;> simp at htr <;> subst htr <;> exact vcase htr0 hdN h ⟨_, rfl, hv⟩
      · simp at htr
    · split at htr <;> simp at htr
      subst htr; exact vcase htr0 hdN h ⟨_, rfl, hv⟩
    · split at htr <;> simp at htr
      subst htr; exact vcase htr0 hdN h ⟨_, rfl, hv⟩
    · split at htr
      · rename_i h2 h3
        have e2 := congrArg List.toArray h2
        have e3 := congrArg List.toArray h3
        simp only [Array.toArray_toList] at e2 e3
        subst e2; subst e3
        split at htr
        · rename_i hx hy hT
          split at htr
          · rename_i hti
            split at htr
            · rename_i hz
              split at htr <;> simp at htr
              rename_i hc
              obtain ⟨h4, h5, h6, h7⟩ := hc
              subst htr
              exact app_sound rfl (h4.imp_right isStrT_ok) rfl (hdN _ rfl) hT hti hz h5 h6 h7 hx hy rfl rfl h hfb hv
            · simp at htr
          · simp at htr
        · simp at htr
      · simp at htr
    · split at htr
      · rename_i hxs
        split at htr
        · rename_i hfn
          split at htr <;> simp at htr
          rename_i hc
          subst htr
          exact call_sound rfl (by simp only [goFn, hfn]; simpa using hc) hfb hdN hxs h hv
        · simp at htr
      · simp at htr
    · split at htr <;> simp at htr
      rename_i hxs
      subst htr
      exact callv_sound rfl hfb hdN hxs h hv
    · simp at htr
  | _ => simp [trOp0] at htr
end
end Go.Ab
