/- That the code computes these functions (printed by a program). -/
import Derived.Test.YtgmnnlkhmpceiaaDoorAbP
import Derived.Test.YtgmnnlkhmpceiaaDoorAbQ
import Derived.KernelRfl
import Derived.Test.YtgmnnlkhmpceiaaDoorAbG2
import Derived.Test.YtgmnnlkhmpceiaaDoorAbC3
import Derived.Test.YtgmnnlkhmpceiaaDoorAbT7
import Derived.Test.YtgmnnlkhmpceiaaDoorFExactAliasFor
import Derived.Test.YtgmnnlkhmpceiaaDoorProg
namespace Go.Proofs.YtgmnnlkhmpceiaaDoor
open Go Go.RowKit Go.Ab
def cI (n : Int) : List D := [.i .i64 n]
def cU8 (n : Int) : List D := [.i .u8 n]
def cU64 (n : Int) : List D := [.i .u64 n]
def cI32 (n : Int) : List D := [.i .i32 n]
def cU32 (n : Int) : List D := [.i .u32 n]
def cB (b : Bool) : List D := [.b b]
def cStr (s : List UInt8) : List D := [.s (bs s)]
def cSl {α : Type} (sz : Nat) (f : α → List D) (l : List α) : List D := [.sl sz (l.map f)]

def acwFnExactAliasFor : AC := (.seq (.ops [.asg 4 (kB false)]) (.seq (.ops [.mv 7 0, .mv 8 1, .call (some 9) 4 [7, 8], .asg 5 9]) (.seq (.ops [.mv 10 0, .mv 11 1, .call (some 12) 5 [10, 11], .asg 6 12]) (.seq (.seq (.ops [.mv 13 6, .mv 14 5, .bin 15 .neq 13 14]) (.cond 15 (.seq (.ops [.asg 4 (kB false)]) .ret) .skip)) (.seq (.ops [.asg 4 (kB true)]) .ret)))))
theorem trwFnExactAliasFor : trFn Tryd.prog 3 = some (acwFnExactAliasFor, [.mv 0 4], 16) := by kernel_rfl
def qwFnExactAliasFor (r : Bool) : Exit → St → Prop := retQ [.mv 0 4] fun x _ => x = (fun y => (vB y)) r
def aciAliasFor : AC := (.seq (.ops [.asg 4 (.c (.d (.s (bs []))))]) (.seq (.ops [.mv 5 0, .call (some 6) 7 [5], .bin 7 .add (.c (.d (.s (bs [113])))) 6, .bin 8 .add 7 (.c (.d (.s (bs [95])))), .mv 9 1, .call (some 10) 7 [9], .bin 11 .add 8 10, .asg 4 11]) .ret))
theorem triAliasFor : trFn Tryd.prog 5 = some (aciAliasFor, [.mv 0 4], 12) := by kernel_rfl
def qiAliasFor (r : (List UInt8)) : Exit → St → Prop := retQ [.mv 0 4] fun x _ => x = (fun y => (vS y)) r
def aciDigits : AC := (.seq (.ops [.asg 2 (.c (.d (.s (bs []))))]) (.seq (.ops [.mv 3 0, .call (some 4) 8 [3], .asg 2 4]) .ret))
theorem triDigits : trFn Tryd.prog 7 = some (aciDigits, [.mv 0 2], 5) := by kernel_rfl
def qiDigits (r : (List UInt8)) : Exit → St → Prop := retQ [.mv 0 2] fun x _ => x = (fun y => (vS y)) r

def acsAliasFor : AC := (.seq (.ops [.asg 4 (.c (.d (.s (bs []))))]) (.seq (.ops [.mv 5 0, .call (some 6) 6 [5], .bin 7 .add (.c (.d (.s (bs [113])))) 6, .bin 8 .add 7 (.c (.d (.s (bs [95])))), .mv 9 1, .call (some 10) 6 [9], .bin 11 .add 8 10, .asg 4 11]) .ret))
theorem trsAliasFor : trFn Tryd.prog 4 = some (acsAliasFor, [.mv 0 4], 12) := by kernel_rfl
def qsAliasFor (r : (List UInt8)) : Exit → St → Prop := retQ [.mv 0 4] fun x _ => x = (fun y => (vS y)) r
def acsDigits_J1 : AC := (.seq (.ops [.mv 18 5, .bin 19 .add (kI 48) 18, .cvi 20 .u8 19, .bsl 21 5 1 [20], .cbs 22 21, .mv 23 4, .bin 24 .add 22 23, .asg 4 24]) (.ops [.mv 25 0, .bin 26 .quo 25 (kI 10), .asg 0 26]))
def acsDigits_L0 : AC := (.loop (.seq (.seq (.ops [.mv 10 0, .bin 11 .neq 10 (kI 0)]) (.cond 11 .skip (.exit 0))) (.block 1 (.seq (.ops [.mv 12 0, .bin 13 .rem 12 (kI 10), .asg 5 13]) (.seq (.seq (.ops [.mv 14 5, .bin 15 .lss 14 (kI 0)]) (.cond 15 (.ops [.mv 16 5, .bin 17 .sub (kI 0) 16, .asg 5 17]) .skip)) acsDigits_J1)))))
def acsDigits : AC := (.seq (.ops [.asg 2 (.c (.d (.s (bs []))))]) (.seq (.seq (.ops [.mv 6 0, .bin 7 .eql 6 (kI 0)]) (.cond 7 (.seq (.ops [.asg 2 (.c (.d (.s (bs [48]))))]) .ret) .skip)) (.seq (.ops [.mv 8 0, .bin 9 .lss 8 (kI 0), .asg 3 9]) (.seq (.ops [.asg 4 (.c (.d (.s (bs []))))]) (.seq (.block 0 acsDigits_L0) (.seq (.seq (.ops [.mv 27 3]) (.cond 27 (.seq (.ops [.mv 28 4, .bin 29 .add (.c (.d (.s (bs [45])))) 28, .asg 2 29]) .ret) .skip)) (.seq (.ops [.mv 30 4, .asg 2 30]) .ret)))))))
theorem trsDigits : trFn Tryd.prog 6 = some (acsDigits, [.mv 0 2], 31) := by kernel_rfl
def qsDigits (r : (List UInt8)) : Exit → St → Prop := retQ [.mv 0 2] fun x _ => x = (fun y => (vS y)) r
def qsDigits_0 (r : (List UInt8)) : Exit → St → Prop := (thenK (wkK (avc Tryd.prog (.seq (.seq (.ops [.mv 27 3]) (.cond 27 (.seq (.ops [.mv 28 4, .bin 29 .add (.c (.d (.s (bs [45])))) 28, .asg 2 29]) .ret) .skip)) (.seq (.ops [.mv 30 4, .asg 2 30]) .ret)) (qsDigits r))) (qsDigits r))
def qsDigits_1 (r : (List UInt8)) : Exit → St → Prop := (blockK 0 (qsDigits_0 r))
def qsDigits_2 (r : (List UInt8)) : Exit → St → Prop := (thenK (avc Tryd.prog acsDigits_L0 (qsDigits_1 r)) (qsDigits_1 r))
def qsDigits_3 (r : (List UInt8)) : Exit → St → Prop := (blockK 1 (qsDigits_2 r))
def stsDigits_L0 (p0 : Int) (x0 : Int) (x4 : (List UInt8)) : St := ⟨[(0, (vI x0)), (3, (vB (decide (p0 < 0)))), (4, (vS x4))], []⟩
def stsDigits_J1 (x0 : Int) (p0 : Int) (x4 : (List UInt8)) (x5 : Int) : St := ⟨[(0, (vI x0)), (3, (vB (decide (p0 < 0)))), (4, (vS x4)), (5, (vI x5))], []⟩
theorem de3 {l : List D} (h : WtC Tryd.prog 3 l) : ∃ x : Int, l = cI x := (wt_i h (k := .i64) (by kernel_rfl))
theorem OK_gStrconv_Itoa (p0 : Int) : FOk Tryd.prog 8 [(vI p0)] (fun y => (vS y)) (gStrconv_Itoa p0) := by
 intro r h
 rw [gStrconv_Itoa] at h
 injection h with h
 subst h
 exact acalls_itoa (ρ := sh171_ren) sh171 (by kernel_rfl) (by kernel_rfl) (.head _) p0
theorem OK_iDigits (p0 : Int) : FOk Tryd.prog 7 [(vI p0)] (fun y => (vS y)) (iDigits p0) := by
 intro r h
 rw [iDigits] at h
 refine aof triDigits ?_
 show avc Tryd.prog aciDigits (qiDigits _) ⟨[(0, (vI p0))], []⟩
 delta aciDigits
 refine so ?_
 let a0 : St := ⟨[(2, (vS [])), (0, (vI p0))], []⟩
 refine st 1 a0 (nx (so ?_))
 let a1 : St := a0.p [(3, (vI p0))]
 refine st 1 a1 (cs h (OK_gStrconv_Itoa p0) fun y1 h => ?_)
 let a2 : St := a1.p [(2, (vS y1)), (4, (vS y1))]
 refine st 1 a2 (nx (ri ?_))
 injection h with h; subst h
 exact r1 (v := (vS y1))
theorem OK_iAliasFor (p0 : Int) (p1 : Int) : FOk Tryd.prog 5 [(vI p0), (vI p1)] (fun y => (vS y)) (iAliasFor p0 p1) := by
 intro r h
 rw [iAliasFor] at h
 refine aof triAliasFor ?_
 show avc Tryd.prog aciAliasFor (qiAliasFor _) ⟨[(0, (vI p0)), (1, (vI p1))], []⟩
 delta aciAliasFor
 refine so ?_
 let a0 : St := ⟨[(4, (vS [])), (0, (vI p0)), (1, (vI p1))], []⟩
 refine st 1 a0 (nx (so ?_))
 let a1 : St := a0.p [(5, (vI p0))]
 refine st 1 a1 (cs h (OK_iDigits p0) fun y1 h => (vs (fun (y : (List UInt8)) => (vS y)) h (fun y hy => vop_cat (a := [113]) (b := y1) hy (by kernel_rfl) (by kernel_rfl) (by kernel_rfl)) fun y2 h => (vs (fun (y : (List UInt8)) => (vS y)) h (fun y hy => vop_cat (a := y2) (b := [95]) hy (by kernel_rfl) (by kernel_rfl) (by kernel_rfl)) fun y3 h => ?_)))
 let a2 : St := a1.p [(9, (vI p1)), (8, (vS y3)), (7, (vS y2)), (6, (vS y1))]
 refine st 1 a2 (cs h (OK_iDigits p1) fun y4 h => (vs (fun (y : (List UInt8)) => (vS y)) h (fun y hy => vop_cat (a := y3) (b := y4) hy (by kernel_rfl) (by kernel_rfl) (by kernel_rfl)) fun y5 h => ?_))
 let a3 : St := a2.p [(4, (vS y5)), (11, (vS y5)), (10, (vS y4))]
 refine st 1 a3 (nx (ri ?_))
 injection h with h; subst h
 exact r1 (v := (vS y5))
theorem OKs_sDigits_J1 (p0 : Int) : (∀ (x0 : Int) (x4 : (List UInt8)) (x5 : Int) (r : (List UInt8)), sDigits_J1 x0 p0 x4 x5 = some r → avc Tryd.prog acsDigits_J1 (qsDigits_3 r) (stsDigits_J1 x0 p0 x4 x5)) ∧ (∀ (x0 : Int) (x4 : (List UInt8)) (r : (List UInt8)), sDigits_L0 p0 x0 x4 = some r → avc Tryd.prog acsDigits_L0 (qsDigits_1 r) (stsDigits_L0 p0 x0 x4)) := by
 refine sDigits_J1.mutual_partial_correctness p0 (fun x0 x4 x5 r => avc Tryd.prog acsDigits_J1 (qsDigits_3 r) (stsDigits_J1 x0 p0 x4 x5)) (fun x0 x4 r => avc Tryd.prog acsDigits_L0 (qsDigits_1 r) (stsDigits_L0 p0 x0 x4)) ?_ ?_
 · intro F_sDigits_L0 OK_sDigits_L0 x0 x4 x5 r h
   delta acsDigits_J1
   refine so ?_
   let a13 : St := (stsDigits_J1 x0 p0 x4 x5).p [(20, (.d (.i .u8 (IntKind.wrap .u8 (IntKind.wrap .i64 (48 + x5)))))), (19, (vI (IntKind.wrap .i64 (48 + x5)))), (18, (vI x5))]
   refine st 3 a13 (bsl_step (l := ([(IntKind.wrap .u8 (IntKind.wrap .i64 (48 + x5)))] : List Int)) (f := cU8) (g := cU8) (by kernel_rfl) (fun _ => rfl) (by kernel_rfl) (vs (fun (y : (List UInt8)) => (vS y)) h (fun y hy => vop_cbs (l := ([(IntKind.wrap .u8 (IntKind.wrap .i64 (48 + x5)))] : List Int)) hy (by kernel_rfl) (by kernel_rfl)) fun y2 h => ?_))
   let a14 : St := a13.p [(23, (vS x4)), (22, (vS y2)), (21, (.osl 21 5 1 (([(IntKind.wrap .u8 (IntKind.wrap .i64 (48 + x5)))] : List Int).map cU8)))]
   refine st 1 a14 (vs (fun (y : (List UInt8)) => (vS y)) h (fun y hy => vop_cat (a := y2) (b := x4) hy (by kernel_rfl) (by kernel_rfl) (by kernel_rfl)) fun y3 h => ?_)
   let a15 : St := a14.p [(4, (vS y3)), (24, (vS y3))]
   refine st 1 a15 (nx (oi ?_))
   let a16 : St := a15.p [(0, (vI (IntKind.wrap .i64 (Int.tdiv x0 10)))), (26, (vI (IntKind.wrap .i64 (Int.tdiv x0 10)))), (25, (vI x0))]
   exact st 3 a16 (ni (bn (loop_back (s' := stsDigits_L0 p0 (IntKind.wrap .i64 (Int.tdiv x0 10)) y3) (wr [] (es (es (es er_nil))) br_nil) (OK_sDigits_L0 (IntKind.wrap .i64 (Int.tdiv x0 10)) y3 _ h))))
 · intro F_sDigits_J1 OK_sDigits_J1 x0 x4 r h
   delta acsDigits_L0
   refine loop_unroll (si (so ?_))
   let a5 : St := (stsDigits_L0 p0 x0 x4).p [(11, (vB (!decide (x0 = 0)))), (10, (vI x0))]
   refine st 2 a5 (nx ?_)
   refine cd h (fun h => ?_) fun h => ?_
   refine ki (xi (bi (so ?_)))
   let a6 : St := a5.p [(5, (vI (Int.tmod x0 10))), (13, (vI (Int.tmod x0 10))), (12, (vI x0))]
   refine st 3 a6 (nx (si (so ?_)))
   let a7 : St := a6.p [(15, (vB (decide ((Int.tmod x0 10) < 0)))), (14, (vI (Int.tmod x0 10)))]
   refine st 2 a7 (nx ?_)
   refine cd h (fun h => ?_) fun h => ?_
   refine oi ?_
   let a8 : St := a7.p [(5, (vI (IntKind.wrap .i64 (0 - (Int.tmod x0 10))))), (17, (vI (IntKind.wrap .i64 (0 - (Int.tmod x0 10))))), (16, (vI (Int.tmod x0 10)))]
   exact st 3 a8 (ni (next_step (s' := stsDigits_J1 x0 p0 x4 (IntKind.wrap .i64 (0 - (Int.tmod x0 10)))) (wr [] (es (es (es (es er_nil)))) br_nil) (OK_sDigits_J1 x0 x4 (IntKind.wrap .i64 (0 - (Int.tmod x0 10))) _ h)))
   exact ki (next_step (s' := stsDigits_J1 x0 p0 x4 (Int.tmod x0 10)) (wr [] (es (es (es (es er_nil)))) br_nil) (OK_sDigits_J1 x0 x4 (Int.tmod x0 10) _ h))
   refine ei (te (te (bh (xi (si (so ?_))))))
   let a9 : St := a5.p [(27, (vB (decide (p0 < 0))))]
   refine st 1 a9 (nx ?_)
   refine cd h (fun h => ?_) fun h => ?_
   refine so ?_
   let a10 : St := a9.p [(28, (vS x4))]
   refine st 1 a10 (vs (fun (y : (List UInt8)) => (vS y)) h (fun y hy => vop_cat (a := [45]) (b := x4) hy (by kernel_rfl) (by kernel_rfl) (by kernel_rfl)) fun y1 h => ?_)
   let a11 : St := a10.p [(2, (vS y1)), (29, (vS y1))]
   refine st 1 a11 (nx (ri (tr ?_)))
   injection h with h; subst h
   exact r1 (v := (vS y1))
   refine ki (xi (so ?_))
   let a12 : St := a9.p [(2, (vS x4)), (30, (vS x4))]
   refine st 2 a12 (nx (ri ?_))
   injection h with h; subst h
   exact r1 (v := (vS x4))
theorem OK_sDigits_J1 (x0 : Int) (p0 : Int) (x4 : (List UInt8)) (x5 : Int) (r : (List UInt8)) (h : sDigits_J1 x0 p0 x4 x5 = some r) : avc Tryd.prog acsDigits_J1 (qsDigits_3 r) (stsDigits_J1 x0 p0 x4 x5) := (OKs_sDigits_J1 p0).1 x0 x4 x5 r h
theorem OK_sDigits_L0 (p0 : Int) (x0 : Int) (x4 : (List UInt8)) (r : (List UInt8)) (h : sDigits_L0 p0 x0 x4 = some r) : avc Tryd.prog acsDigits_L0 (qsDigits_1 r) (stsDigits_L0 p0 x0 x4) := (OKs_sDigits_J1 p0).2 x0 x4 r h
theorem OK_sDigits (p0 : Int) : FOk Tryd.prog 6 [(vI p0)] (fun y => (vS y)) (sDigits p0) := by
 intro r h
 rw [sDigits] at h
 refine aof trsDigits ?_
 show avc Tryd.prog acsDigits (qsDigits _) ⟨[(0, (vI p0))], []⟩
 delta acsDigits
 refine so ?_
 let a0 : St := ⟨[(2, (vS [])), (0, (vI p0))], []⟩
 refine st 1 a0 (nx (si (so ?_)))
 let a1 : St := a0.p [(7, (vB (decide (p0 = 0)))), (6, (vI p0))]
 refine st 2 a1 (nx ?_)
 refine cd h (fun h => ?_) fun h => ?_
 refine so ?_
 let a2 : St := a1.p [(2, (vS [48]))]
 refine st 1 a2 (nx (ri (tr ?_)))
 injection h with h; subst h
 exact r1 (v := (vS [48]))
 refine ki (xi (so ?_))
 let a3 : St := a1.p [(3, (vB (decide (p0 < 0)))), (9, (vB (decide (p0 < 0)))), (8, (vI p0))]
 refine st 3 a3 (nx (so ?_))
 let a4 : St := a3.p [(4, (vS []))]
 exact st 1 a4 (nx (si (bi (loop_go (s' := stsDigits_L0 p0 p0 []) (wr [] (es (es (es er_nil))) br_nil) (OK_sDigits_L0 p0 p0 [] _ h)))))
theorem OK_sAliasFor (p0 : Int) (p1 : Int) : FOk Tryd.prog 4 [(vI p0), (vI p1)] (fun y => (vS y)) (sAliasFor p0 p1) := by
 intro r h
 rw [sAliasFor] at h
 refine aof trsAliasFor ?_
 show avc Tryd.prog acsAliasFor (qsAliasFor _) ⟨[(0, (vI p0)), (1, (vI p1))], []⟩
 delta acsAliasFor
 refine so ?_
 let a0 : St := ⟨[(4, (vS [])), (0, (vI p0)), (1, (vI p1))], []⟩
 refine st 1 a0 (nx (so ?_))
 let a1 : St := a0.p [(5, (vI p0))]
 refine st 1 a1 (cs h (OK_sDigits p0) fun y1 h => (vs (fun (y : (List UInt8)) => (vS y)) h (fun y hy => vop_cat (a := [113]) (b := y1) hy (by kernel_rfl) (by kernel_rfl) (by kernel_rfl)) fun y2 h => (vs (fun (y : (List UInt8)) => (vS y)) h (fun y hy => vop_cat (a := y2) (b := [95]) hy (by kernel_rfl) (by kernel_rfl) (by kernel_rfl)) fun y3 h => ?_)))
 let a2 : St := a1.p [(9, (vI p1)), (8, (vS y3)), (7, (vS y2)), (6, (vS y1))]
 refine st 1 a2 (cs h (OK_sDigits p1) fun y4 h => (vs (fun (y : (List UInt8)) => (vS y)) h (fun y hy => vop_cat (a := y3) (b := y4) hy (by kernel_rfl) (by kernel_rfl) (by kernel_rfl)) fun y5 h => ?_))
 let a3 : St := a2.p [(4, (vS y5)), (11, (vS y5)), (10, (vS y4))]
 refine st 1 a3 (nx (ri ?_))
 injection h with h; subst h
 exact r1 (v := (vS y5))
theorem OK_wFnExactAliasFor (p0 : Int) (p1 : Int) : FOk Tryd.prog 3 [(vI p0), (vI p1)] (fun y => (vB y)) (wFnExactAliasFor p0 p1) := by
 intro r h
 rw [wFnExactAliasFor] at h
 refine aof trwFnExactAliasFor ?_
 show avc Tryd.prog acwFnExactAliasFor (qwFnExactAliasFor _) ⟨[(0, (vI p0)), (1, (vI p1))], []⟩
 delta acwFnExactAliasFor
 refine so ?_
 let a0 : St := ⟨[(4, (vB false)), (0, (vI p0)), (1, (vI p1))], []⟩
 refine st 1 a0 (nx (so ?_))
 let a1 : St := a0.p [(8, (vI p1)), (7, (vI p0))]
 refine st 2 a1 (cs h (OK_sAliasFor p0 p1) fun y1 h => ?_)
 let a2 : St := a1.p [(5, (vS y1)), (9, (vS y1))]
 refine st 1 a2 (nx (so ?_))
 let a3 : St := a2.p [(11, (vI p1)), (10, (vI p0))]
 refine st 2 a3 (cs h (OK_iAliasFor p0 p1) fun y2 h => ?_)
 let a4 : St := a3.p [(6, (vS y2)), (12, (vS y2))]
 refine st 1 a4 (nx (si (so ?_)))
 let a5 : St := a4.p [(15, (vB (!decide (y2 = y1)))), (14, (vS y1)), (13, (vS y2))]
 refine st 3 a5 (nx ?_)
 refine cd h (fun h => ?_) fun h => ?_
 refine so ?_
 let a6 : St := a5.p [(4, (vB false))]
 refine st 1 a6 (nx (ri (tr ?_)))
 injection h with h; subst h
 exact r1 (v := (vB false))
 refine ki (xi (so ?_))
 let a7 : St := a5.p [(4, (vB true))]
 refine st 1 a7 (nx (ri ?_))
 injection h with h; subst h
 exact r1 (v := (vB true))
theorem law_wFnExactAliasFor (hp : ∀ (x0 : Int) (_ : okI x0) (x1 : Int) (_ : okI x1), wFnExactAliasFor x0 x1 = some true) (ls : List (List D)) (hw : WtA Tryd.prog [3, 3] ls) (hok : ∀ l ∈ ls, ∀ x ∈ l, OkD x) : ACalls Tryd.prog 3 (argsV Tryd.prog [3, 3] ls) [] fun x _ => x = .d (.b true) := by
  rcases hw with _ | ⟨h0, hw⟩
  rcases hw with _ | ⟨h1, hw⟩
  cases hw
  obtain ⟨x0, rfl⟩ := de3 h0
  obtain ⟨x1, rfl⟩ := de3 h1
  have a0 : argV Tryd.prog 3 (cI x0) = (vI x0) := by kernel_rfl
  have a1 : argV Tryd.prog 3 (cI x1) = (vI x1) := by kernel_rfl
  have k0 : ∀ d ∈ cI x0, OkD d := hok _ (by simp)
  have k1 : ∀ d ∈ cI x1, OkD d := hok _ (by simp)
  simp only [argsV, a0, a1]
  exact OK_wFnExactAliasFor x0 x1 true (hp x0 (ko_i _ k0) x1 (ko_i _ k1))
end Go.Proofs.YtgmnnlkhmpceiaaDoor
