/- Code; soundness of the conditions that 'avc' generates. -/
import Derived.Test.YtcbkkemcgcdhdaaGreatAbE2
namespace Go.Ab
open Go Go.RowKit
open _root_.Option renaming map_eq_some_iff→QA
inductive AC where
  | skip
  | ops (l:List AOp)
  | dops (w:List (List Nat)) (l:List AOp)
  | seq (x y:AC)
  | cond (c:AO) (x y:AC)
  | block (id:Nat) (x:AC)
  | loop (x:AC)
  | exit (id:Nat)
  | ret
  deriving Inhabited
def lZ (P:Program) (N:Nat):Code→Option AC
  | .skip=>some .skip
  | .region _ ops false=>match yA P (fun j=>(ops[j]?).bind (·.dst)) ops.toList with
    | some l=>if l.all (·.fits N) then some (.ops l) else none
    | none=>none
  | .region _ ops true=>match yA P (fun j=>(ops[j]?).bind (·.dst)) ops.toList with
    | some l=>if l.all (·.fits N)∧P.follows .mixedOrders=true∧aK4 [] 0 (D5 ops)=true then some (.dops (D5 ops) l) else none
    | none=>none
  | .seq x y=>match lZ P N x,lZ P N y with
    | some x,some y=>some (.seq x y)
    | _,_=>none
  | .cond c x y=>match trO P 0 c,lZ P N x,lZ P N y with
    | some c,some x,some y=>some (.cond c x y)
    | _,_,_=>none
  | .block id x=>(lZ P N x).map (.block id)
  | .loop x=>(lZ P N x).map .loop
  | .exit id=>some (.exit id)
  | .ret=>some .ret
  | _=>none
def uB (next:St→Prop) (Q:Exit→St→Prop):Exit→St→Prop
  | .normal,s=>next s
  | e,s=>Q e s
def tQ (id:Nat) (Q:Exit→St→Prop):Exit→St→Prop
  | .exit id',s=>if id'=id then Q .normal s else Q (.exit id') s
  | e,s=>Q e s
def wkK (next:St→Prop) (s:St):Prop:=∃ s',Wk s s'∧next s'
inductive O9 (body:(St→Prop)→St→Prop):St→Prop
  | mk (K:St→Prop) (s:St):body K s→(∀ s',K s'→O9 body s')→O9 body s
  | wk (s s':St):Wk s s'→O9 body s'→O9 body s
def avc (P:Program):AC→(Exit→St→Prop)→St→Prop
  | .skip,Q,s=>Q .normal s
  | .ops l,Q,s=>wkK (bN P (Q .normal) l) s
  | .dops w l,Q,s=>wkK (fun s=>dgo P (K5 w s (Q .normal)) l [] s) s
  | .seq x y,Q,s=>avc P x (uB (wkK (avc P y Q)) Q) s
  | .cond c x y,Q,s=>use (ev s c) fun c=>dK c fun c=>match c with
    | .b b=>(b=true→avc P x Q s)∧(b=false→avc P y Q s)
    | _=>False
  | .block id x,Q,s=>avc P x (tQ id Q) s
  | .loop x,Q,s=>O9 (fun K s=>avc P x (uB K Q) s) s
  | .exit id,Q,s=>Q (.exit id) s
  | .ret,Q,s=>wkK (Q .ret) s
def KQ (E:Entry) (N:Nat) (Q:Exit→St→Prop):Exit→Act→World→Prop
  | .normal,a,w=>KC E N (Q .normal) a w
  | .exit id,a,w=>KC E N (Q (.exit id)) a w
  | .ret,a,w=>KC E N (Q .ret) a w
  | _,_,_=>False
inductive aZl (P:Program) (c:Code) (Q:Exit→Act→World→Prop):Act→World→Prop
  | mk (K:Act→World→Prop) (a:Act) (w:World):c.wp P (Exit.then K Q) a w→(∀ a' w',K a' w'→aZl P c Q a' w')→aZl P c Q a w
theorem wp_loop_rounds {P:Program} {c:Code} {Q:Exit→Act→World→Prop} {a:Act} {w:World} (h:aZl P c Q a w):(Code.loop c).wp P Q a w:=by
  intro b k cs
  have key:∃ e a' w',Q e a' w'∧Arrives P (lone (b.at a (.code c::.inLoop c::k)) cs w) b k cs e a' w':=by
    induction h with
    | mk K a w hb _ ih =>
      obtain ⟨e,a₁,w₁,hq,harr⟩:=hb b (.inLoop c::k) cs
      cases e with
      | normal =>
        obtain ⟨e₂,a₂,w₂,hq₂,harr₂⟩:=ih a₁ w₁ hq
        exact ⟨e₂,a₂,w₂,hq₂,.of_steps (Steps.trans harr (.one step_inLoop)) harr₂⟩
      | exit id=>exact ⟨_,a₁,w₁,hq,.pass (x:=.inLoop c) rfl (fun _ _=>.inl (by simp)) harr⟩
      | goto l=>exact ⟨_,a₁,w₁,hq,.pass (x:=.inLoop c) rfl (fun _ _=>.inl (by simp)) harr⟩
      | ret=>exact ⟨_,a₁,w₁,hq,.pass (x:=.inLoop c) rfl (fun _ _=>.inl (by simp)) harr⟩
      | panic ch=>exact ⟨_,a₁,w₁,hq,.pass (x:=.inLoop c) rfl (fun _ _=>.inl (by simp)) harr⟩
      | outgrown=>exact ⟨_,a₁,w₁,hq,.pass (x:=.inLoop c) rfl (fun _ _=>.inl (by simp)) harr⟩
  obtain ⟨e,a',w',hq,harr⟩:=key
  exact ⟨e,a',w',hq,.of_steps (.one step_loop) harr⟩
section
variable {E:Entry} {N:Nat} {P:Program}
theorem aBv (hfb:∀ n∈E.fb,N≤n∧n<NX):∀ {c:Code} {ac:AC} {Q:Exit→St→Prop} {κ:Ctx} {w:World} {a:Act} {s:St},lZ P N c=some ac→Ok E N κ w a s→avc P ac Q s→c.wp P (KQ E N Q) a w
  | .skip,ac,Q,κ,w,a,s,htr,h,hv=>by
    simp [lZ] at htr; subst htr
    exact wp_skip ⟨κ,s,hv,h⟩
  | .region id ops false,ac,Q,κ,w,a,s,htr,h,hv=>by
    simp only [lZ] at htr
    split at htr
    · rename_i l hl
      split at htr <;> simp at htr
      rename_i hN
      subst htr
      obtain ⟨s',hw,hv⟩:=hv
      obtain ⟨κ',h⟩:=hw E N κ w a hfb h
      exact wp_region_list (bKj hl hN hfb h hv fun a w hk=>hk)
    · simp at htr
  | .region id ops true,ac,Q,κ,w,a,s,htr,h,hv=>by
    simp only [lZ] at htr
    split at htr
    · rename_i l hl
      split at htr <;> simp at htr
      rename_i hN
      subst htr
      obtain ⟨s',hw,hv⟩:=hv
      obtain ⟨κ',h⟩:=hw E N κ w a hfb h
      exact cKu hfb hN.2.1 hN.2.2 hl hN.1 h hv fun κ a w s hq hok=>⟨κ,s,hq,hok⟩
    · simp at htr
  | .seq x y,ac,Q,κ,w,a,s,htr,h,hv=>by
    simp only [lZ] at htr
    split at htr <;> simp at htr
    rename_i x' y' hx hy
    subst htr
    refine wp_seq (Code.wp_mono ?_ (aBv hfb hx h hv))
    intro e a' w' hq
    cases e with
    | normal =>
      obtain ⟨κ',s',⟨s'',hwk,hv'⟩,hok⟩:=hq
      obtain ⟨κ'',hok'⟩:=hwk E N κ' w' a' hfb hok
      exact aBv hfb hy hok' hv'
    | exit id=>exact hq
    | ret=>exact hq
    | _=>exact hq.elim
  | .cond c x y,ac,Q,κ,w,a,s,htr,h,hv=>by
    simp only [lZ] at htr
    split at htr <;> simp at htr
    rename_i c' x' y' hc hx hy
    subst htr
    obtain ⟨p,hp,h1⟩:=opd hc h.env hv
    obtain ⟨d,hd,h2⟩:=aNj hp h1
    split at h2
    · exact wp_cond_split hd.toB (fun hb=>aBv hfb hx h (h2.1 hb)) (fun hb=>aBv hfb hy h (h2.2 hb))
    · exact h2.elim
  | .block id x,ac,Q,κ,w,a,s,htr,h,hv=>by
    simp only [lZ,QA] at htr
    obtain ⟨x',hx,rfl⟩:=htr
    refine wp_block (Code.wp_mono ?_ (aBv hfb hx h hv))
    intro e a' w' hq
    cases e with
    | normal=>exact hq
    | exit id' =>
      obtain ⟨κ',s',hv',hok⟩:=hq
      simp only [tQ] at hv'
      simp only [Exit.inBlock]
      split
      · rename_i he; rw [if_pos he] at hv'; exact ⟨κ',s',hv',hok⟩
      · rename_i he; rw [if_neg he] at hv'; exact ⟨κ',s',hv',hok⟩
    | ret=>exact hq
    | _=>exact hq.elim
  | .loop x,ac,Q,κ,w,a,s,htr,h,hv=>by
    simp only [lZ,QA] at htr
    obtain ⟨x',hx,rfl⟩:=htr
    refine wp_loop_rounds ?_
    simp only [avc] at hv
    revert κ w a
    induction hv with
    | mk K s hb hK ih =>
      intro κ w a h
      refine .mk (KC E N K) _ _ ?_ ?_
      · refine Code.wp_mono ?_ (aBv hfb hx h hb)
        intro e a' w' hq
        cases e <;> exact hq
      · rintro a' w' ⟨κ',s',hs',hok⟩
        exact ih s' hs' κ' w' a' hok
    | wk s s' hw _ ih =>
      intro κ w a h
      obtain ⟨κ',hok⟩:=hw E N κ w a hfb h
      exact ih κ' w a hok
  | .exit id,ac,Q,κ,w,a,s,htr,h,hv=>by
    simp [lZ] at htr; subst htr
    exact wp_exit ⟨κ,s,hv,h⟩
  | .ret,ac,Q,κ,w,a,s,htr,h,hv=>by
    simp [lZ] at htr; subst htr
    obtain ⟨s',hw,hv'⟩:=hv
    obtain ⟨κ',h'⟩:=hw E N κ w a hfb h
    exact wp_ret ⟨κ',s',hv',h'⟩
  | .rangeFunc ..,ac,Q,κ,w,a,s,htr,h,hv=>by simp [lZ] at htr
  | .scope ..,ac,Q,κ,w,a,s,htr,h,hv=>by simp [lZ] at htr
  | .label ..,ac,Q,κ,w,a,s,htr,h,hv=>by simp [lZ] at htr
  | .goto ..,ac,Q,κ,w,a,s,htr,h,hv=>by simp [lZ] at htr
  | .refuse ..,ac,Q,κ,w,a,s,htr,h,hv=>by simp [lZ] at htr
end
end Go.Ab
