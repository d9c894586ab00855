/- That the code computes these functions (printed by a program). -/
import Derived.Lib.Builder
import Derived.Lib.UnsafeStr
import Derived.Test.YtkdkhdefdfkagaaAbB
import Derived.KernelRfl
import Derived.Test.YtkdkhdefdfkagaaAbG2
import Derived.Test.YtkdkhdefdfkagaaAbC3
import Derived.Test.YtkdkhdefdfkagaaFExactPutPExpr
import Derived.Test.YtkdkhdefdfkagaaProg
namespace Go.Proofs.Ytkdkhdefdfkagaa
open Go Go.RowKit Go.Ab
def cI (n : Int) : List D := [.i .i64 n]
def cU8 (n : Int) : List D := [.i .u8 n]
def cU64 (n : Int) : List D := [.i .u64 n]
def cI32 (n : Int) : List D := [.i .i32 n]
def cU32 (n : Int) : List D := [.i .u32 n]
def cB (b : Bool) : List D := [.b b]
def cStr (s : List UInt8) : List D := [.s (bs s)]
def cSl {α : Type} (sz : Nat) (f : α → List D) (l : List α) : List D := [.sl sz (l.map f)]
def cGValue (x : GValue) : List D := [(.i .i64 x.kind), (.i .i64 x.num), (.s (bs x.text))]
def vGValue (x : GValue) : V := .agg (cGValue x)
def bGValue (x : GValue) : List V := (cGValue x).map V.d
mutual
def cGPExpr : GPExpr → List D
  | ⟨a0, a1, a2, a3, a4, a5, a6, a7⟩ => [(.i .i64 a0)] ++ [(.i .i64 a1)] ++ [(.b a2)] ++ cGValue a3 ++ [(.i .i64 a4)] ++ [(.i .i64 a5)] ++ [.sl 10 (cLGPExpr a6)] ++ [.sl 8 (cLGPlan a7)]
def cGPSort : GPSort → List D
  | ⟨a0, a1⟩ => cGPExpr a0 ++ [(.b a1)]
def cGPlan : GPlan → List D
  | ⟨a0, a1, a2, a3, a4, a5, a6, a7⟩ => [(.sl 1 (a0.map cI))] ++ [.sl 1 (cLLGPExpr a1)] ++ [.sl 10 (cLGPExpr a2)] ++ [.sl 11 (cLGPSort a3)] ++ [.sl 10 (cLGPExpr a4)] ++ [(.sl 1 (a5.map cStr))] ++ [(.b a6)] ++ [(.i .i64 a7)]
def cLGPExpr : List GPExpr → List (List D)
  | [] => []
  | x :: l => cGPExpr x :: cLGPExpr l
def cLGPSort : List GPSort → List (List D)
  | [] => []
  | x :: l => cGPSort x :: cLGPSort l
def cLGPlan : List GPlan → List (List D)
  | [] => []
  | x :: l => cGPlan x :: cLGPlan l
def cLLGPExpr : List (List GPExpr) → List (List D)
  | [] => []
  | x :: l => [.sl 10 (cLGPExpr x)] :: cLLGPExpr l
end
theorem cLGPExpr_eq : ∀ l : List GPExpr, cLGPExpr l = l.map cGPExpr
  | [] => by simp only [cLGPExpr, List.map_nil]
  | x :: l => by simp only [cLGPExpr, List.map_cons, cLGPExpr_eq l]
theorem cLGPSort_eq : ∀ l : List GPSort, cLGPSort l = l.map cGPSort
  | [] => by simp only [cLGPSort, List.map_nil]
  | x :: l => by simp only [cLGPSort, List.map_cons, cLGPSort_eq l]
theorem cLGPlan_eq : ∀ l : List GPlan, cLGPlan l = l.map cGPlan
  | [] => by simp only [cLGPlan, List.map_nil]
  | x :: l => by simp only [cLGPlan, List.map_cons, cLGPlan_eq l]
theorem cLLGPExpr_eq : ∀ l : List (List GPExpr), cLLGPExpr l = l.map (cSl 10 cGPExpr)
  | [] => by simp only [cLLGPExpr, List.map_nil]
  | x :: l => by simp only [cLLGPExpr, List.map_cons, cLLGPExpr_eq l, cSl, cLGPExpr_eq]
def oGPExpr (x : GPExpr) : List D := [(.i .i64 x.kind), (.i .i64 x.op), (.b x.not_), (.i .i64 x.value.kind), (.i .i64 x.value.num), (.s (bs x.value.text)), (.i .i64 x.up), (.i .i64 x.at_), (.sl 10 (x.kids.map cGPExpr)), (.sl 8 (x.sub.map cGPlan))]
def oGPSort (x : GPSort) : List D := [(.i .i64 x.expr.kind), (.i .i64 x.expr.op), (.b x.expr.not_), (.i .i64 x.expr.value.kind), (.i .i64 x.expr.value.num), (.s (bs x.expr.value.text)), (.i .i64 x.expr.up), (.i .i64 x.expr.at_), (.sl 10 (x.expr.kids.map cGPExpr)), (.sl 8 (x.expr.sub.map cGPlan)), (.b x.desc)]
def oGPlan (x : GPlan) : List D := [(.sl 1 (x.tables.map cI)), (.sl 1 (x.on_.map (cSl 10 cGPExpr))), (.sl 10 (x.where_.map cGPExpr)), (.sl 11 (x.order.map cGPSort)), (.sl 10 (x.items.map cGPExpr)), (.sl 1 (x.names.map cStr)), (.b x.distinct), (.i .i64 x.limit)]
theorem cGPExpr_eq (x : GPExpr) : cGPExpr x = oGPExpr x := by
  obtain ⟨a0, a1, a2, a3, a4, a5, a6, a7⟩ := x
  simp only [cGPExpr, oGPExpr, cLGPExpr_eq, cLGPSort_eq, cLGPlan_eq, cLLGPExpr_eq, List.cons_append, List.nil_append, cGValue]
theorem cGPSort_eq (x : GPSort) : cGPSort x = oGPSort x := by
  obtain ⟨a0, a1⟩ := x
  simp only [cGPSort, oGPSort, cLGPExpr_eq, cLGPSort_eq, cLGPlan_eq, cLLGPExpr_eq, cGPExpr_eq, oGPExpr, List.cons_append, List.nil_append]
theorem cGPlan_eq (x : GPlan) : cGPlan x = oGPlan x := by
  obtain ⟨a0, a1, a2, a3, a4, a5, a6, a7⟩ := x
  simp only [cGPlan, oGPlan, cLGPExpr_eq, cLGPSort_eq, cLGPlan_eq, cLLGPExpr_eq, List.cons_append, List.nil_append]
def vGPExpr (x : GPExpr) : V := .agg (oGPExpr x)
def bGPExpr (x : GPExpr) : List V := (oGPExpr x).map V.d
def vGPSort (x : GPSort) : V := .agg (oGPSort x)
def bGPSort (x : GPSort) : List V := (oGPSort x).map V.d
def vGPlan (x : GPlan) : V := .agg (oGPlan x)
def bGPlan (x : GPlan) : List V := (oGPlan x).map V.d
def acwFnExactPutPExpr : AC := (.seq (.ops [.box 1 27 (.t 0), .asg 2 (kB false)]) (.seq (.ops [.asg 3 (kI 1048576)]) (.seq (.ops [.ld 7 10 true (.t 1), .mv 8 (.t 3), .call (some 9) 5 [(.t 7), (.t 8)], .asg 3 (.t 9)]) (.seq (.seq (.ops [.mv 10 (.t 3), .bin 11 .lss (.t 10) (kI 0)]) (.cond (.t 11) (.seq (.ops [.asg 2 (kB true)]) .ret) .skip)) (.seq (.ops [.ld 12 10 true (.t 1), .call (some 13) 7 [(.t 12)], .call (some 14) 6 [(.t 13)], .asg 4 (.t 14)]) (.seq (.ops [.ld 15 10 true (.t 1), .call (some 16) 7 [(.t 15)], .alc 5 [(.d (.i .i64 0)), (.d (.i .i64 0)), (.d (.b false)), (.d (.i .i64 0)), (.d (.i .i64 0)), (.d (.s (bs []))), (.d (.i .i64 0)), (.d (.i .i64 0)), (.nil 10), (.nil 8)], .st 10 (.t 5) (.t 16)]) (.seq (.ops [.ld 17 10 true (.t 5), .call (some 18) 8 [(.t 17)], .asg 6 (.t 18)]) (.seq (.seq (.ops [.mv 19 (.t 6), .mv 20 (.t 4), .bin 21 .neq (.t 19) (.t 20)]) (.cond (.t 21) (.seq (.ops [.asg 2 (kB false)]) .ret) .skip)) (.seq (.seq (.dops [[], [], [1], [0, 2, 2], [3]] [.ld 22 10 true (.t 5), .ld 23 10 true (.t 1), .call (some 24) 7 [(.t 23)], .call (some 25) 9 [(.t 22), (.t 24)], .not 26 (.t 25)]) (.cond (.t 26) (.seq (.ops [.asg 2 (kB false)]) .ret) .skip)) (.seq (.ops [.asg 2 (kB true)]) .ret))))))))))
theorem trwFnExactPutPExpr : trFn Try.prog 3 = some (acwFnExactPutPExpr, [.mv 0 (.t 2)], 27) := by kernel_rfl
def qwFnExactPutPExpr (r : Bool) : Exit → St → Prop := retQ [.mv 0 (.t 2)] fun x _ => x = (fun y => (vB y)) r
def acsPutPExpr : AC := (.seq (.ops [.box 1 34 (.t 0), .asg 2 (.c (.d (.s (bs []))))]) (.seq (.ops [.bsl 3 5 1 [], .ld 4 10 true (.t 1), .call (some 5) 18 [(.t 3), (.t 4)], .cbs 6 (.t 5), .asg 2 (.t 6)]) .ret))
theorem trsPutPExpr : trFn Try.prog 6 = some (acsPutPExpr, [.mv 0 (.t 2)], 7) := by kernel_rfl
def qsPutPExpr (r : (List UInt8)) : Exit → St → Prop := retQ [.mv 0 (.t 2)] fun x _ => x = (fun y => (vS y)) r
def acsZig : AC := (.seq (.ops [.asg 2 (.c (.d (.i .u64 0)))]) (.seq (.seq (.ops [.mv 3 (.t 0), .bin 4 .lss (.t 3) (kI 0)]) (.cond (.t 4) (.seq (.ops [.mv 5 (.t 0), .bin 6 .add (.t 5) (kI 1), .neg 7 (.t 6), .cvi 8 .u64 (.t 7), .bin 9 .mul (.c (.d (.i .u64 2))) (.t 8), .bin 10 .add (.t 9) (.c (.d (.i .u64 1))), .asg 2 (.t 10)]) .ret) .skip)) (.seq (.ops [.mv 11 (.t 0), .cvi 12 .u64 (.t 11), .bin 13 .mul (.c (.d (.i .u64 2))) (.t 12), .asg 2 (.t 13)]) .ret)))
theorem trsZig : trFn Try.prog 53 = some (acsZig, [.mv 0 (.t 2)], 14) := by kernel_rfl
def qsZig (r : Int) : Exit → St → Prop := retQ [.mv 0 (.t 2)] fun x _ => x = (fun y => (.d (.i .u64 y))) r
def acsPutVar_L0 : AC := (.loop (.seq (.seq (.ops [.mv 5 (.t 0), .bin 6 .gtr (.t 5) (.c (.d (.i .u64 127)))]) (.cond (.t 6) .skip (.exit 0))) (.block 1 (.seq (.ops [.mv 7 (.t 3), .mv 8 (.t 0), .bin 9 .rem (.t 8) (.c (.d (.i .u64 128))), .bin 10 .add (.t 9) (.c (.d (.i .u64 128))), .cvi 11 .u8 (.t 10), .bsl 12 5 1 [(.t 11)], .app 13 5 1 1 (.t 7) (.t 12), .asg 3 (.t 13)]) (.ops [.mv 14 (.t 0), .bin 15 .quo (.t 14) (.c (.d (.i .u64 128))), .asg 0 (.t 15)])))))
def acsPutVar : AC := (.seq (.ops [.asg 2 (.c (.d (.s (bs []))))]) (.seq (.ops [.bsl 4 5 1 [], .asg 3 (.t 4)]) (.seq (.block 0 acsPutVar_L0) (.seq (.ops [.mv 16 (.t 3), .mv 17 (.t 0), .cvi 18 .u8 (.t 17), .bsl 19 5 1 [(.t 18)], .app 20 5 1 1 (.t 16) (.t 19), .cbs 21 (.t 20), .asg 2 (.t 21)]) .ret))))
theorem trsPutVar : trFn Try.prog 52 = some (acsPutVar, [.mv 0 (.t 2)], 22) := by kernel_rfl
def qsPutVar (r : (List UInt8)) : Exit → St → Prop := retQ [.mv 0 (.t 2)] fun x _ => x = (fun y => (vS y)) r
def qsPutVar_0 (r : (List UInt8)) : Exit → St → Prop := (thenK (wkK (avc Try.prog (.seq (.ops [.mv 16 (.t 3), .mv 17 (.t 0), .cvi 18 .u8 (.t 17), .bsl 19 5 1 [(.t 18)], .app 20 5 1 1 (.t 16) (.t 19), .cbs 21 (.t 20), .asg 2 (.t 21)]) .ret) (qsPutVar r))) (qsPutVar r))
def qsPutVar_1 (r : (List UInt8)) : Exit → St → Prop := (blockK 0 (qsPutVar_0 r))
def stsPutVar_L0 (x0 : Int) (x3 : (List Int)) : St := ⟨[(0, (.d (.i .u64 x0))), (3, (.osl 3 5 1 (x3.map cU8)))], []⟩
def acsL24Num_x : AC := (.seq (.ops [.asg 4 (.c (.nil 1))]) (.seq (.ops [.mv 5 (.t 0), .mv 6 (.t 1), .call (some 7) 53 [(.t 6)], .call (some 8) 52 [(.t 7)], .app 9 5 1 1 (.t 5) (.t 8), .asg 4 (.t 9)]) .ret))
theorem trsL24Num_x : trFn Try.prog 42 = some (acsL24Num_x, [.mv 0 (.t 4)], 10) := by kernel_rfl
def qsL24Num_x (r : (List Int)) : Exit → St → Prop := retQ [.mv 0 (.t 4)] fun x b => x = (fun (y : (List Int)) => (.osl 2000000 5 1 (y.map cU8))) r ∧ bxHas ((fun (y : (List Int)) => []) r) b
def acwSzPExpr : AC := (.seq (.ops [.box 2 27 (.t 0), .asg 4 (kI 0)]) (.seq (.ops [.fa 5 3 (.t 2), .ld 6 3 true (.t 5), .mv 7 (.t 1), .call (some 8) 15 [(.t 6), (.t 7)], .asg 1 (.t 8)]) (.seq (.seq (.ops [.mv 9 (.t 1), .bin 10 .lss (.t 9) (kI 0)]) (.cond (.t 10) (.seq (.ops [.asg 4 (kI (-1))]) .ret) .skip)) (.seq (.ops [.fa 11 8 (.t 2), .ld 12 1 false (.t 11), .mv 13 (.t 1), .call (some 14) 16 [(.t 12), (.t 13)], .asg 1 (.t 14)]) (.seq (.seq (.ops [.mv 15 (.t 1), .bin 16 .lss (.t 15) (kI 0)]) (.cond (.t 16) (.seq (.ops [.asg 4 (kI (-1))]) .ret) .skip)) (.seq (.ops [.fa 17 9 (.t 2), .ld 18 1 false (.t 17), .mv 19 (.t 1), .call (some 20) 17 [(.t 18), (.t 19)], .asg 1 (.t 20)]) (.seq (.seq (.ops [.mv 21 (.t 1), .bin 22 .lss (.t 21) (kI 0)]) (.cond (.t 22) (.seq (.ops [.asg 4 (kI (-1))]) .ret) .skip)) (.seq (.ops [.mv 23 (.t 1), .asg 4 (.t 23)]) .ret))))))))
theorem trwSzPExpr : trFn Try.prog 5 = some (acwSzPExpr, [.mv 0 (.t 4)], 24) := by kernel_rfl
def qwSzPExpr (r : Int) : Exit → St → Prop := retQ [.mv 0 (.t 4)] fun x _ => x = (fun y => (vI y)) r
def acwSzValue : AC := (.seq (.ops [.box 2 23 (.t 0), .asg 4 (kI 0)]) (.seq (.ops [.mv 5 (.t 1), .fa 6 2 (.t 2), .ld 7 1 false (.t 6), .lns 8 (.t 7), .bin 9 .sub (.t 5) (.t 8), .asg 1 (.t 9)]) (.seq (.seq (.ops [.mv 10 (.t 1), .bin 11 .lss (.t 10) (kI 0)]) (.cond (.t 11) (.seq (.ops [.asg 4 (kI (-1))]) .ret) .skip)) (.seq (.ops [.mv 12 (.t 1), .asg 4 (.t 12)]) .ret))))
theorem trwSzValue : trFn Try.prog 15 = some (acwSzValue, [.mv 0 (.t 4)], 13) := by kernel_rfl
def qwSzValue (r : Int) : Exit → St → Prop := retQ [.mv 0 (.t 4)] fun x _ => x = (fun y => (vI y)) r
def acwSzPlanS_L0 : AC := (.loop (.seq (.seq (.ops [.mv 12 (.t 5), .mv 13 (.t 0), .len 14 (.t 13), .bin 15 .lss (.t 12) (.t 14)]) (.cond (.t 15) .skip (.exit 0))) (.seq (.block 1 (.seq (.ops [.mv 18 (.t 0), .mv 19 (.t 5), .ia 20 8 (.t 18) (.t 19), .ld 21 8 true (.t 20), .mv 22 (.t 1), .call (some 23) 10 [(.t 21), (.t 22)], .asg 1 (.t 23)]) (.seq (.ops [.mv 24 (.t 1), .bin 25 .lss (.t 24) (kI 0)]) (.cond (.t 25) (.seq (.ops [.asg 4 (kI (-1))]) .ret) .skip)))) (.ops [.mv 16 (.t 5), .bin 17 .add (.t 16) (kI 1), .asg 5 (.t 17)]))))
def acwSzPlanS : AC := (.seq (.ops [.asg 4 (kI 0)]) (.seq (.ops [.mv 6 (.t 1), .mv 7 (.t 0), .len 8 (.t 7), .bin 9 .sub (.t 6) (.t 8), .asg 1 (.t 9)]) (.seq (.seq (.ops [.mv 10 (.t 1), .bin 11 .lss (.t 10) (kI 0)]) (.cond (.t 11) (.seq (.ops [.asg 4 (kI (-1))]) .ret) .skip)) (.seq (.seq (.ops [.asg 5 (kI 0)]) (.block 0 acwSzPlanS_L0)) (.seq (.ops [.mv 26 (.t 1), .asg 4 (.t 26)]) .ret)))))
theorem trwSzPlanS : trFn Try.prog 17 = some (acwSzPlanS, [.mv 0 (.t 4)], 27) := by kernel_rfl
def qwSzPlanS (r : Int) : Exit → St → Prop := retQ [.mv 0 (.t 4)] fun x _ => x = (fun y => (vI y)) r
def qwSzPlanS_0 (r : Int) : Exit → St → Prop := (thenK (wkK (avc Try.prog (.seq (.ops [.mv 26 (.t 1), .asg 4 (.t 26)]) .ret) (qwSzPlanS r))) (qwSzPlanS r))
def qwSzPlanS_1 (r : Int) : Exit → St → Prop := (blockK 0 (qwSzPlanS_0 r))
def stwSzPlanS_L0 (p0 : (List GPlan)) (x1 : Int) (x5 : Int) : St := ⟨[(0, (.d (.sl 8 (p0.map cGPlan)))), (1, (vI x1)), (5, (vI x5))], []⟩
def acwSzPlan : AC := (.seq (.ops [.box 2 43 (.t 0), .asg 4 (kI 0)]) (.seq (.ops [.fa 5 0 (.t 2), .ld 6 1 false (.t 5), .mv 7 (.t 1), .call (some 8) 27 [(.t 6), (.t 7)], .asg 1 (.t 8)]) (.seq (.seq (.ops [.mv 9 (.t 1), .bin 10 .lss (.t 9) (kI 0)]) (.cond (.t 10) (.seq (.ops [.asg 4 (kI (-1))]) .ret) .skip)) (.seq (.ops [.fa 11 1 (.t 2), .ld 12 1 false (.t 11), .mv 13 (.t 1), .call (some 14) 28 [(.t 12), (.t 13)], .asg 1 (.t 14)]) (.seq (.seq (.ops [.mv 15 (.t 1), .bin 16 .lss (.t 15) (kI 0)]) (.cond (.t 16) (.seq (.ops [.asg 4 (kI (-1))]) .ret) .skip)) (.seq (.ops [.fa 17 2 (.t 2), .ld 18 1 false (.t 17), .mv 19 (.t 1), .call (some 20) 16 [(.t 18), (.t 19)], .asg 1 (.t 20)]) (.seq (.seq (.ops [.mv 21 (.t 1), .bin 22 .lss (.t 21) (kI 0)]) (.cond (.t 22) (.seq (.ops [.asg 4 (kI (-1))]) .ret) .skip)) (.seq (.ops [.fa 23 3 (.t 2), .ld 24 1 false (.t 23), .mv 25 (.t 1), .call (some 26) 29 [(.t 24), (.t 25)], .asg 1 (.t 26)]) (.seq (.seq (.ops [.mv 27 (.t 1), .bin 28 .lss (.t 27) (kI 0)]) (.cond (.t 28) (.seq (.ops [.asg 4 (kI (-1))]) .ret) .skip)) (.seq (.ops [.fa 29 4 (.t 2), .ld 30 1 false (.t 29), .mv 31 (.t 1), .call (some 32) 16 [(.t 30), (.t 31)], .asg 1 (.t 32)]) (.seq (.seq (.ops [.mv 33 (.t 1), .bin 34 .lss (.t 33) (kI 0)]) (.cond (.t 34) (.seq (.ops [.asg 4 (kI (-1))]) .ret) .skip)) (.seq (.ops [.fa 35 5 (.t 2), .ld 36 1 false (.t 35), .mv 37 (.t 1), .call (some 38) 30 [(.t 36), (.t 37)], .asg 1 (.t 38)]) (.seq (.seq (.ops [.mv 39 (.t 1), .bin 40 .lss (.t 39) (kI 0)]) (.cond (.t 40) (.seq (.ops [.asg 4 (kI (-1))]) .ret) .skip)) (.seq (.ops [.mv 41 (.t 1), .asg 4 (.t 41)]) .ret))))))))))))))
theorem trwSzPlan : trFn Try.prog 10 = some (acwSzPlan, [.mv 0 (.t 4)], 42) := by kernel_rfl
def qwSzPlan (r : Int) : Exit → St → Prop := retQ [.mv 0 (.t 4)] fun x _ => x = (fun y => (vI y)) r
def acwSzIntS : AC := (.seq (.ops [.asg 4 (kI 0)]) (.seq (.ops [.mv 5 (.t 1), .mv 6 (.t 0), .len 7 (.t 6), .bin 8 .sub (.t 5) (.t 7), .asg 1 (.t 8)]) (.seq (.seq (.ops [.mv 9 (.t 1), .bin 10 .lss (.t 9) (kI 0)]) (.cond (.t 10) (.seq (.ops [.asg 4 (kI (-1))]) .ret) .skip)) (.seq (.ops [.mv 11 (.t 1), .asg 4 (.t 11)]) .ret))))
theorem trwSzIntS : trFn Try.prog 27 = some (acwSzIntS, [.mv 0 (.t 4)], 12) := by kernel_rfl
def qwSzIntS (r : Int) : Exit → St → Prop := retQ [.mv 0 (.t 4)] fun x _ => x = (fun y => (vI y)) r
def acwSzStringS_L0 : AC := (.loop (.seq (.seq (.ops [.mv 12 (.t 5), .mv 13 (.t 0), .len 14 (.t 13), .bin 15 .lss (.t 12) (.t 14)]) (.cond (.t 15) .skip (.exit 0))) (.seq (.block 1 (.seq (.ops [.mv 18 (.t 1), .mv 19 (.t 0), .mv 20 (.t 5), .ia 21 1 (.t 19) (.t 20), .ld 22 1 false (.t 21), .lns 23 (.t 22), .bin 24 .sub (.t 18) (.t 23), .asg 1 (.t 24)]) (.seq (.ops [.mv 25 (.t 1), .bin 26 .lss (.t 25) (kI 0)]) (.cond (.t 26) (.seq (.ops [.asg 4 (kI (-1))]) .ret) .skip)))) (.ops [.mv 16 (.t 5), .bin 17 .add (.t 16) (kI 1), .asg 5 (.t 17)]))))
def acwSzStringS : AC := (.seq (.ops [.asg 4 (kI 0)]) (.seq (.ops [.mv 6 (.t 1), .mv 7 (.t 0), .len 8 (.t 7), .bin 9 .sub (.t 6) (.t 8), .asg 1 (.t 9)]) (.seq (.seq (.ops [.mv 10 (.t 1), .bin 11 .lss (.t 10) (kI 0)]) (.cond (.t 11) (.seq (.ops [.asg 4 (kI (-1))]) .ret) .skip)) (.seq (.seq (.ops [.asg 5 (kI 0)]) (.block 0 acwSzStringS_L0)) (.seq (.ops [.mv 27 (.t 1), .asg 4 (.t 27)]) .ret)))))
theorem trwSzStringS : trFn Try.prog 30 = some (acwSzStringS, [.mv 0 (.t 4)], 28) := by kernel_rfl
def qwSzStringS (r : Int) : Exit → St → Prop := retQ [.mv 0 (.t 4)] fun x _ => x = (fun y => (vI y)) r
def qwSzStringS_0 (r : Int) : Exit → St → Prop := (thenK (wkK (avc Try.prog (.seq (.ops [.mv 27 (.t 1), .asg 4 (.t 27)]) .ret) (qwSzStringS r))) (qwSzStringS r))
def qwSzStringS_1 (r : Int) : Exit → St → Prop := (blockK 0 (qwSzStringS_0 r))
def stwSzStringS_L0 (p0 : (List (List UInt8))) (x1 : Int) (x5 : Int) : St := ⟨[(0, (.d (.sl 1 (p0.map cStr)))), (1, (vI x1)), (5, (vI x5))], []⟩
def acwSzPSortS_L0 : AC := (.loop (.seq (.seq (.ops [.mv 12 (.t 5), .mv 13 (.t 0), .len 14 (.t 13), .bin 15 .lss (.t 12) (.t 14)]) (.cond (.t 15) .skip (.exit 0))) (.seq (.block 1 (.seq (.ops [.mv 18 (.t 0), .mv 19 (.t 5), .ia 20 11 (.t 18) (.t 19), .ld 21 11 true (.t 20), .mv 22 (.t 1), .call (some 23) 49 [(.t 21), (.t 22)], .asg 1 (.t 23)]) (.seq (.ops [.mv 24 (.t 1), .bin 25 .lss (.t 24) (kI 0)]) (.cond (.t 25) (.seq (.ops [.asg 4 (kI (-1))]) .ret) .skip)))) (.ops [.mv 16 (.t 5), .bin 17 .add (.t 16) (kI 1), .asg 5 (.t 17)]))))
def acwSzPSortS : AC := (.seq (.ops [.asg 4 (kI 0)]) (.seq (.ops [.mv 6 (.t 1), .mv 7 (.t 0), .len 8 (.t 7), .bin 9 .sub (.t 6) (.t 8), .asg 1 (.t 9)]) (.seq (.seq (.ops [.mv 10 (.t 1), .bin 11 .lss (.t 10) (kI 0)]) (.cond (.t 11) (.seq (.ops [.asg 4 (kI (-1))]) .ret) .skip)) (.seq (.seq (.ops [.asg 5 (kI 0)]) (.block 0 acwSzPSortS_L0)) (.seq (.ops [.mv 26 (.t 1), .asg 4 (.t 26)]) .ret)))))
theorem trwSzPSortS : trFn Try.prog 29 = some (acwSzPSortS, [.mv 0 (.t 4)], 27) := by kernel_rfl
def qwSzPSortS (r : Int) : Exit → St → Prop := retQ [.mv 0 (.t 4)] fun x _ => x = (fun y => (vI y)) r
def qwSzPSortS_0 (r : Int) : Exit → St → Prop := (thenK (wkK (avc Try.prog (.seq (.ops [.mv 26 (.t 1), .asg 4 (.t 26)]) .ret) (qwSzPSortS r))) (qwSzPSortS r))
def qwSzPSortS_1 (r : Int) : Exit → St → Prop := (blockK 0 (qwSzPSortS_0 r))
def stwSzPSortS_L0 (p0 : (List GPSort)) (x1 : Int) (x5 : Int) : St := ⟨[(0, (.d (.sl 11 (p0.map cGPSort)))), (1, (vI x1)), (5, (vI x5))], []⟩
def acwSzPSort : AC := (.seq (.ops [.box 2 97 (.t 0), .asg 4 (kI 0)]) (.seq (.ops [.fa 5 0 (.t 2), .ld 6 10 true (.t 5), .mv 7 (.t 1), .call (some 8) 5 [(.t 6), (.t 7)], .asg 1 (.t 8)]) (.seq (.seq (.ops [.mv 9 (.t 1), .bin 10 .lss (.t 9) (kI 0)]) (.cond (.t 10) (.seq (.ops [.asg 4 (kI (-1))]) .ret) .skip)) (.seq (.ops [.mv 11 (.t 1), .asg 4 (.t 11)]) .ret))))
theorem trwSzPSort : trFn Try.prog 49 = some (acwSzPSort, [.mv 0 (.t 4)], 12) := by kernel_rfl
def qwSzPSort (r : Int) : Exit → St → Prop := retQ [.mv 0 (.t 4)] fun x _ => x = (fun y => (vI y)) r
def acwSzPExprSS_L0 : AC := (.loop (.seq (.seq (.ops [.mv 12 (.t 5), .mv 13 (.t 0), .len 14 (.t 13), .bin 15 .lss (.t 12) (.t 14)]) (.cond (.t 15) .skip (.exit 0))) (.seq (.block 1 (.seq (.ops [.mv 18 (.t 0), .mv 19 (.t 5), .ia 20 1 (.t 18) (.t 19), .ld 21 1 false (.t 20), .mv 22 (.t 1), .call (some 23) 16 [(.t 21), (.t 22)], .asg 1 (.t 23)]) (.seq (.ops [.mv 24 (.t 1), .bin 25 .lss (.t 24) (kI 0)]) (.cond (.t 25) (.seq (.ops [.asg 4 (kI (-1))]) .ret) .skip)))) (.ops [.mv 16 (.t 5), .bin 17 .add (.t 16) (kI 1), .asg 5 (.t 17)]))))
def acwSzPExprSS : AC := (.seq (.ops [.asg 4 (kI 0)]) (.seq (.ops [.mv 6 (.t 1), .mv 7 (.t 0), .len 8 (.t 7), .bin 9 .sub (.t 6) (.t 8), .asg 1 (.t 9)]) (.seq (.seq (.ops [.mv 10 (.t 1), .bin 11 .lss (.t 10) (kI 0)]) (.cond (.t 11) (.seq (.ops [.asg 4 (kI (-1))]) .ret) .skip)) (.seq (.seq (.ops [.asg 5 (kI 0)]) (.block 0 acwSzPExprSS_L0)) (.seq (.ops [.mv 26 (.t 1), .asg 4 (.t 26)]) .ret)))))
theorem trwSzPExprSS : trFn Try.prog 28 = some (acwSzPExprSS, [.mv 0 (.t 4)], 27) := by kernel_rfl
def qwSzPExprSS (r : Int) : Exit → St → Prop := retQ [.mv 0 (.t 4)] fun x _ => x = (fun y => (vI y)) r
def qwSzPExprSS_0 (r : Int) : Exit → St → Prop := (thenK (wkK (avc Try.prog (.seq (.ops [.mv 26 (.t 1), .asg 4 (.t 26)]) .ret) (qwSzPExprSS r))) (qwSzPExprSS r))
def qwSzPExprSS_1 (r : Int) : Exit → St → Prop := (blockK 0 (qwSzPExprSS_0 r))
def stwSzPExprSS_L0 (p0 : (List (List GPExpr))) (x1 : Int) (x5 : Int) : St := ⟨[(0, (.d (.sl 1 (p0.map (cSl 10 cGPExpr))))), (1, (vI x1)), (5, (vI x5))], []⟩
def acwSzPExprS_L0 : AC := (.loop (.seq (.seq (.ops [.mv 12 (.t 5), .mv 13 (.t 0), .len 14 (.t 13), .bin 15 .lss (.t 12) (.t 14)]) (.cond (.t 15) .skip (.exit 0))) (.seq (.block 1 (.seq (.ops [.mv 18 (.t 0), .mv 19 (.t 5), .ia 20 10 (.t 18) (.t 19), .ld 21 10 true (.t 20), .mv 22 (.t 1), .call (some 23) 5 [(.t 21), (.t 22)], .asg 1 (.t 23)]) (.seq (.ops [.mv 24 (.t 1), .bin 25 .lss (.t 24) (kI 0)]) (.cond (.t 25) (.seq (.ops [.asg 4 (kI (-1))]) .ret) .skip)))) (.ops [.mv 16 (.t 5), .bin 17 .add (.t 16) (kI 1), .asg 5 (.t 17)]))))
def acwSzPExprS : AC := (.seq (.ops [.asg 4 (kI 0)]) (.seq (.ops [.mv 6 (.t 1), .mv 7 (.t 0), .len 8 (.t 7), .bin 9 .sub (.t 6) (.t 8), .asg 1 (.t 9)]) (.seq (.seq (.ops [.mv 10 (.t 1), .bin 11 .lss (.t 10) (kI 0)]) (.cond (.t 11) (.seq (.ops [.asg 4 (kI (-1))]) .ret) .skip)) (.seq (.seq (.ops [.asg 5 (kI 0)]) (.block 0 acwSzPExprS_L0)) (.seq (.ops [.mv 26 (.t 1), .asg 4 (.t 26)]) .ret)))))
theorem trwSzPExprS : trFn Try.prog 16 = some (acwSzPExprS, [.mv 0 (.t 4)], 27) := by kernel_rfl
def qwSzPExprS (r : Int) : Exit → St → Prop := retQ [.mv 0 (.t 4)] fun x _ => x = (fun y => (vI y)) r
def qwSzPExprS_0 (r : Int) : Exit → St → Prop := (thenK (wkK (avc Try.prog (.seq (.ops [.mv 26 (.t 1), .asg 4 (.t 26)]) .ret) (qwSzPExprS r))) (qwSzPExprS r))
def qwSzPExprS_1 (r : Int) : Exit → St → Prop := (blockK 0 (qwSzPExprS_0 r))
def stwSzPExprS_L0 (p0 : (List GPExpr)) (x1 : Int) (x5 : Int) : St := ⟨[(0, (.d (.sl 10 (p0.map cGPExpr)))), (1, (vI x1)), (5, (vI x5))], []⟩
def aciPutPExpr : AC := (.seq (.ops [.box 1 34 (.t 0), .asg 2 (.c (.d (.s (bs []))))]) (.seq (.ops [.bld 4 [.np, (.nil 1)] [], .box 5 66 (.t 4), .asg 3 (.t 5)]) (.seq (.ops [.mv 6 (.t 3), .ld 7 10 true (.t 1), .call (some 8) 22 [(.t 6), (.t 7)]]) (.seq (.ops [.mv 9 (.t 3), .nck 10 (.t 9), .fa 11 0 (.t 10), .call (some 12) 23 [(.t 11)], .asg 2 (.t 12)]) .ret))))
theorem triPutPExpr : trFn Try.prog 8 = some (aciPutPExpr, [.mv 0 (.t 2)], 13) := by kernel_rfl
def qiPutPExpr (r : (List UInt8)) : Exit → St → Prop := retQ [.mv 0 (.t 2)] fun x _ => x = (fun y => (vS y)) r
set_option maxHeartbeats 2000000 in
set_option maxRecDepth 100000 in
theorem bstr_row_23 : ∀ (b g cap : Nat) (cur : Array Value) (s : List UInt8) (w : World), w.cell? ⟨b, 1, none⟩ = some (.slice (some ⟨g, 0, none⟩) s.length cap) → s ≠ [] → s.length ≤ cap → cap ≤ maxLen → cur.size = cap * 1 →
    w.heap[g]? = some (.cells cur 5 (0, 0)) → (∀ j x, s[j]? = some x → w.cell? ((⟨g, 0, none⟩ : Addr).add j) = some (.int .u8 x.toNat)) →
    Calls Try.prog 23 #[.pointer (some ⟨b, 0, none⟩)] w fun e w' => e = .returned (.string ⟨s.toArray⟩) ∧ w' = w.drew.freeze ⟨g, 0, none⟩ s.length := by
  intro b g cap cur s w c0 h0 hnc hcm hcs hg hcell
  have hl0 : s.length ≠ 0 := by simpa using h0
  have c1 : w.drew.cell? ⟨b, 1, none⟩ = some (.slice (some ⟨g, 0, none⟩) s.length cap) := c0
  have hSD : (Builtin.unsafeSliceData_ #[56] 94 #[.slice (some ⟨g, 0, none⟩) s.length cap]).run Try.prog w.drew = .ok (.pointer (some ⟨g, 0, none⟩)) w.drew :=
    Lib.run_unsafeSliceData_row _ _ _ _ _ _ (by omega)
  have hUS : (Builtin.unsafeString_ #[94, 3] 9 #[.pointer (some ⟨g, 0, none⟩), .int .i64 s.length]).run Try.prog w.drew = .ok (.string ⟨s.toArray⟩) (w.drew.freeze ⟨g, 0, none⟩ s.length) := by
    refine Lib.run_unsafeString_row w.drew 94 3 9 5 (show Try.prog.underlying 94 = some (.pointer 5) by kernel_rfl) (show Try.prog.cellsOf 5 = 1 by kernel_rfl) g cur.size (by have hg' : w.drew.heap[g]? = some (.cells cur 5 (0, 0)) := hg; simp [World.shape?, hg']) s h0 (by omega) (by unfold maxLen at hcm; omega) ?_
    intro j x hx
    exact hcell j x hx
  go_enter Try.func23, Try.ntmps23
  go_wp2
  go_region
  all_goals (go_wp2; go_ret; exact ⟨rfl, rfl⟩)
set_option maxHeartbeats 2000000 in
set_option maxRecDepth 100000 in
theorem bstr_nil_23 : ∀ (b : Nat) (w : World), w.cell? ⟨b, 1, none⟩ = some (.slice none 0 0) → Calls Try.prog 23 #[.pointer (some ⟨b, 0, none⟩)] w fun e w' => e = .returned (.string ⟨#[]⟩) ∧ w' = w.drew := by
  intro b w c0
  have hUS : ∀ (W : World) (q : Option Addr), (Builtin.unsafeString_ #[94, 3] 9 #[.pointer q, .int .i64 0]).run Try.prog W = .ok (.string .empty) W := fun W q => Lib.run_unsafeString_none W _ _ _ q
  have c1 : w.drew.cell? ⟨b, 1, none⟩ = some (.slice none 0 0) := c0
  have hSD : (Builtin.unsafeSliceData_ #[56] 94 #[.slice none 0 0]).run Try.prog w.drew = .ok (.pointer none) w.drew := rfl
  go_enter Try.func23, Try.ntmps23
  go_wp2
  go_region
  all_goals (go_wp2; go_ret; exact ⟨rfl, rfl⟩)
set_option maxHeartbeats 2000000 in
set_option maxRecDepth 100000 in
theorem bstr_noroom_23 : ∀ (b g : Nat) (cur : Array Value) (w : World), w.cell? ⟨b, 1, none⟩ = some (.slice (some ⟨g, 0, none⟩) 0 0) → b < w.heap.size → w.heap[g]? = some (.cells cur 5 (0, 0)) →
    Calls Try.prog 23 #[.pointer (some ⟨b, 0, none⟩)] w fun e' w' => e' = .returned (.string ⟨#[]⟩) ∧ w' = w.drew.alloc (.view ⟨g, 0, none⟩ 5) := by
  intro b g cur w c0 hlt hg
  have hUS : ∀ (W : World) (q : Option Addr), (Builtin.unsafeString_ #[94, 3] 9 #[.pointer q, .int .i64 0]).run Try.prog W = .ok (.string .empty) W := fun W q => Lib.run_unsafeString_none W _ _ _ q
  have c1 : w.drew.cell? ⟨b, 1, none⟩ = some (.slice (some ⟨g, 0, none⟩) 0 0) := c0
  have hSD : (Builtin.unsafeSliceData_ #[56] 94 #[.slice (some ⟨g, 0, none⟩) 0 0]).run Try.prog w.drew = .ok (.pointer (some ⟨w.drew.heap.size, 0, none⟩)) (w.drew.alloc (.view ⟨g, 0, none⟩ 5)) :=
    Lib.run_unsafeSliceData_zero w.drew _ _ 5 (show Try.prog.underlying 94 = some (.pointer 5) by kernel_rfl) ⟨g, 0, none⟩ 0 (5, cur.size) (by have hg' : w.drew.heap[g]? = some (.cells cur 5 (0, 0)) := hg; simp [World.shape?, hg'])
  have c2 : (w.drew.alloc (.view ⟨g, 0, none⟩ 5)).cell? ⟨b, 1, none⟩ = some (.slice (some ⟨g, 0, none⟩) 0 0) :=
    (World.cell?_of_block (a := ⟨b, 1, none⟩) (RowKit.Below.heap_alloc w.drew _ b hlt)).trans c1
  have c3 : (w.alloc (.view ⟨g, 0, none⟩ 5)).drew.cell? ⟨b, 1, none⟩ = some (.slice (some ⟨g, 0, none⟩) 0 0) := c2
  go_enter Try.func23, Try.ntmps23
  go_wp2
  go_region
  all_goals (go_wp2; go_ret; exact ⟨rfl, rfl⟩)
set_option maxHeartbeats 2000000 in
set_option maxRecDepth 100000 in
theorem bstr_room_23 : ∀ (b g cap : Nat) (w : World), cap ≠ 0 → w.cell? ⟨b, 1, none⟩ = some (.slice (some ⟨g, 0, none⟩) 0 cap) → Calls Try.prog 23 #[.pointer (some ⟨b, 0, none⟩)] w fun e w' => e = .returned (.string ⟨#[]⟩) ∧ w' = w.drew := by
  intro b g cap w hc0 c0
  have hUS : ∀ (W : World) (q : Option Addr), (Builtin.unsafeString_ #[94, 3] 9 #[.pointer q, .int .i64 0]).run Try.prog W = .ok (.string .empty) W := fun W q => Lib.run_unsafeString_none W _ _ _ q
  have c1 : w.drew.cell? ⟨b, 1, none⟩ = some (.slice (some ⟨g, 0, none⟩) 0 cap) := c0
  have hSD : (Builtin.unsafeSliceData_ #[56] 94 #[.slice (some ⟨g, 0, none⟩) 0 cap]).run Try.prog w.drew = .ok (.pointer (some ⟨g, 0, none⟩)) w.drew :=
    Lib.run_unsafeSliceData_row _ _ _ _ _ _ hc0
  clear hc0
  go_enter Try.func23, Try.ntmps23
  go_wp2
  go_region
  all_goals (go_wp2; go_ret; exact ⟨rfl, rfl⟩)
def aciWriter_expr_x_L0 : AC := (.loop (.seq (.ops [.bin 54 .lss (.t 53) (.t 52)]) (.seq (.cond (.t 54) .skip (.exit 0)) (.seq (.block 1 (.seq (.ops [.ia 55 8 (.t 51) (.t 53), .ld 56 8 true (.t 55), .alc 5 [(.nil 1), (.nil 1), (.nil 10), (.nil 11), (.nil 10), (.nil 1), (.d (.b false)), (.d (.i .i64 0))], .st 8 (.t 5) (.t 56)]) (.ops [.mv 57 (.t 0), .ld 58 8 true (.t 5), .call (some 59) 36 [(.t 57), (.t 58)]]))) (.ops [.bin 60 .add (.t 53) (kI 1), .mv 53 (.t 60)])))))
def aciWriter_expr_x : AC := (.seq (.ops [.box 3 34 (.t 1)]) (.seq (.ops [.mv 6 (.t 0), .fa 7 0 (.t 3), .ld 8 1 false (.t 7), .call (some 9) 45 [(.t 6), (.t 8)]]) (.seq (.ops [.mv 10 (.t 0), .fa 11 1 (.t 3), .ld 12 1 false (.t 11), .call (some 13) 45 [(.t 10), (.t 12)]]) (.seq (.ops [.mv 14 (.t 0), .fa 15 2 (.t 3), .ld 16 1 false (.t 15), .call (some 17) 46 [(.t 14), (.t 16)]]) (.seq (.ops [.mv 18 (.t 0), .fa 19 3 (.t 3), .fa 20 0 (.t 19), .ld 21 1 false (.t 20), .call (some 22) 45 [(.t 18), (.t 21)]]) (.seq (.ops [.mv 23 (.t 0), .fa 24 3 (.t 3), .fa 25 1 (.t 24), .ld 26 1 false (.t 25), .call (some 27) 45 [(.t 23), (.t 26)]]) (.seq (.ops [.mv 28 (.t 0), .fa 29 3 (.t 3), .fa 30 2 (.t 29), .ld 31 1 false (.t 30), .call (some 32) 47 [(.t 28), (.t 31)]]) (.seq (.ops [.mv 33 (.t 0), .fa 34 6 (.t 3), .ld 35 1 false (.t 34), .call (some 36) 45 [(.t 33), (.t 35)]]) (.seq (.ops [.mv 37 (.t 0), .fa 38 7 (.t 3), .ld 39 1 false (.t 38), .call (some 40) 45 [(.t 37), (.t 39)]]) (.seq (.ops [.mv 41 (.t 0), .fa 42 8 (.t 3), .ld 43 1 false (.t 42), .call (some 44) 48 [(.t 41), (.t 43)]]) (.seq (.ops [.mv 45 (.t 0), .fa 46 9 (.t 3), .ld 47 1 false (.t 46), .len 48 (.t 47), .call (some 49) 45 [(.t 45), (.t 48)]]) (.seq (.ops [.fa 50 9 (.t 3), .ld 51 1 false (.t 50), .len 52 (.t 51), .mv 53 (kI 0)]) (.block 0 aciWriter_expr_x_L0)))))))))))))
theorem triWriter_expr_x : trFn Try.prog 22 = some (aciWriter_expr_x, [], 61) := by kernel_rfl
def qiWriter_expr_x (r : (List Int)) : Exit → St → Prop := retQ [] fun x b => x = (fun (y : (List Int)) => (.tup [])) r ∧ bxHas ((fun (y : (List Int)) => [(1000000, [(.bp 1000000 66), (.osl 6000001 5 1 (y.map cU8))])]) r) b
def qiWriter_expr_x_0 (r : (List Int)) : Exit → St → Prop := (blockK 0 (qiWriter_expr_x r))
def stiWriter_expr_x_L0 (p1 : GPExpr) (x53 : Int) (b1000000_1 : (List Int)) : St := ⟨[(0, (.ptr 1000000 0)), (51, (.d (.sl 8 (p1.sub.map cGPlan)))), (52, (vI (p1.sub.length : Int))), (53, (vI x53))], [(1000000, [(.bp 1000000 66), (.osl 6000001 5 1 (b1000000_1.map cU8))])]⟩
def aciWriter_exprs_x_L0 : AC := (.loop (.seq (.ops [.bin 13 .lss (.t 12) (.t 11)]) (.seq (.cond (.t 13) .skip (.exit 0)) (.seq (.block 1 (.seq (.ops [.ia 14 10 (.t 10) (.t 12), .ld 15 10 true (.t 14), .alc 5 [(.d (.i .i64 0)), (.d (.i .i64 0)), (.d (.b false)), (.d (.i .i64 0)), (.d (.i .i64 0)), (.d (.s (bs []))), (.d (.i .i64 0)), (.d (.i .i64 0)), (.nil 10), (.nil 8)], .st 10 (.t 5) (.t 15)]) (.ops [.mv 16 (.t 0), .ld 17 10 true (.t 5), .call (some 18) 22 [(.t 16), (.t 17)]]))) (.ops [.bin 19 .add (.t 12) (kI 1), .mv 12 (.t 19)])))))
def aciWriter_exprs_x : AC := (.seq (.ops [.mv 6 (.t 0), .mv 7 (.t 1), .len 8 (.t 7), .call (some 9) 45 [(.t 6), (.t 8)]]) (.seq (.ops [.mv 10 (.t 1), .len 11 (.t 10), .mv 12 (kI 0)]) (.block 0 aciWriter_exprs_x_L0)))
theorem triWriter_exprs_x : trFn Try.prog 48 = some (aciWriter_exprs_x, [], 20) := by kernel_rfl
def qiWriter_exprs_x (r : (List Int)) : Exit → St → Prop := retQ [] fun x b => x = (fun (y : (List Int)) => (.tup [])) r ∧ bxHas ((fun (y : (List Int)) => [(1000000, [(.bp 1000000 66), (.osl 6000001 5 1 (y.map cU8))])]) r) b
def qiWriter_exprs_x_0 (r : (List Int)) : Exit → St → Prop := (blockK 0 (qiWriter_exprs_x r))
def stiWriter_exprs_x_L0 (p1 : (List GPExpr)) (x12 : Int) (b1000000_1 : (List Int)) : St := ⟨[(0, (.ptr 1000000 0)), (10, (.d (.sl 10 (p1.map cGPExpr)))), (11, (vI (p1.length : Int))), (12, (vI x12))], [(1000000, [(.bp 1000000 66), (.osl 6000001 5 1 (b1000000_1.map cU8))])]⟩
def aciWriter_number_x : AC := (.dops [[], [0], [1], [], [3], [4, 4], [2, 5, 5]] [.mv 4 (.t 0), .nck 5 (.t 4), .fa 6 0 (.t 5), .mv 7 (.t 1), .call (some 8) 56 [(.t 7)], .call (some 9) 55 [(.t 8)], .call (some 10) 54 [(.t 6), (.t 9)]])
theorem triWriter_number_x : trFn Try.prog 45 = some (aciWriter_number_x, [], 11) := by kernel_rfl
def qiWriter_number_x (r : (List Int)) : Exit → St → Prop := retQ [] fun x b => x = (fun (y : (List Int)) => (.tup [])) r ∧ bxHas ((fun (y : (List Int)) => [(1000000, [(.bp 1000000 66), (.osl 6000001 5 1 (y.map cU8))])]) r) b
def aciPutVar_L0 : AC := (.loop (.seq (.seq (.ops [.mv 5 (.t 0), .bin 6 .geq (.t 5) (.c (.d (.i .u64 128)))]) (.cond (.t 6) .skip (.exit 0))) (.block 1 (.seq (.ops [.mv 7 (.t 3), .mv 8 (.t 0), .cvi 9 .u8 (.t 8), .bin 10 .or (.t 9) (.c (.d (.i .u8 128))), .bsl 11 5 1 [(.t 10)], .app 12 5 1 1 (.t 7) (.t 11), .asg 3 (.t 12)]) (.ops [.mv 13 (.t 0), .bin 14 .shr (.t 13) (.c (.d (.i .u64 7))), .asg 0 (.t 14)])))))
def aciPutVar : AC := (.seq (.ops [.asg 2 (.c (.d (.s (bs []))))]) (.seq (.ops [.bsl 4 5 1 [], .asg 3 (.t 4)]) (.seq (.block 0 aciPutVar_L0) (.seq (.ops [.mv 15 (.t 3), .mv 16 (.t 0), .cvi 17 .u8 (.t 16), .bsl 18 5 1 [(.t 17)], .app 19 5 1 1 (.t 15) (.t 18), .cbs 20 (.t 19), .asg 2 (.t 20)]) .ret))))
theorem triPutVar : trFn Try.prog 55 = some (aciPutVar, [.mv 0 (.t 2)], 21) := by kernel_rfl
def qiPutVar (r : (List UInt8)) : Exit → St → Prop := retQ [.mv 0 (.t 2)] fun x _ => x = (fun y => (vS y)) r
def qiPutVar_0 (r : (List UInt8)) : Exit → St → Prop := (thenK (wkK (avc Try.prog (.seq (.ops [.mv 15 (.t 3), .mv 16 (.t 0), .cvi 17 .u8 (.t 16), .bsl 18 5 1 [(.t 17)], .app 19 5 1 1 (.t 15) (.t 18), .cbs 20 (.t 19), .asg 2 (.t 20)]) .ret) (qiPutVar r))) (qiPutVar r))
def qiPutVar_1 (r : (List UInt8)) : Exit → St → Prop := (blockK 0 (qiPutVar_0 r))
def stiPutVar_L0 (x0 : Int) (x3 : (List Int)) : St := ⟨[(0, (.d (.i .u64 x0))), (3, (.osl 3 5 1 (x3.map cU8)))], []⟩
def acgStrings_Builder_WriteString_x : AC := (.seq (.ops [.asg 4 (kI 0), .asg 5 (.c .top)]) (.seq (.ops [.mv 6 (.t 0), .call (some 7) 57 [(.t 6)]]) (.seq (.ops [.mv 8 (.t 0), .mv 9 (.t 0), .nck 10 (.t 9), .fa 11 1 (.t 10), .ld 12 1 false (.t 11), .mv 13 (.t 1), .app 14 5 1 1 (.t 12) (.t 13), .nck 15 (.t 8), .fa 16 1 (.t 15), .st 1 (.t 16) (.t 14)]) (.seq (.ops [.mv 17 (.t 1), .lns 18 (.t 17), .asg 4 (.t 18), .asg 5 (.c .top)]) .ret))))
theorem trgStrings_Builder_WriteString_x : trFn Try.prog 54 = some (acgStrings_Builder_WriteString_x, [.mv 0 (.t 4), .mv 0 (.t 5)], 19) := by kernel_rfl
def qgStrings_Builder_WriteString_x (r : Int × (List Int)) : Exit → St → Prop := retQ [.mv 0 (.t 4), .mv 0 (.t 5)] fun x b => x = (fun (y : Int × (List Int)) => (.tup [(vI y.1), .top])) r ∧ bxHas ((fun (y : Int × (List Int)) => [(1000000, [(.bp 1000000 66), (.osl 6000001 5 1 (y.2.map cU8))])]) r) b
set_option maxHeartbeats 2000000 in
set_option maxRecDepth 100000 in
theorem cc_used_57 : ∀ (b : Nat) (w : World), w.cell? ⟨b, 0, none⟩ = some (.pointer (some ⟨b, 0, none⟩)) → Calls Try.prog 57 #[.pointer (some ⟨b, 0, none⟩)] w fun e w' => e = .returned (.tuple #[]) ∧ w' = w := by
  intro b w h0
  go_enter Try.func57, Try.ntmps57
  go_wp2
  rw [Lib.run_neq_ptr_same w _ (show Try.prog.underlying 62 = some (.pointer 64) by kernel_rfl) (show Try.prog.info? 64 = some Try.t64 by kernel_rfl)]
  go_wp2
  go_end0
  exact ⟨rfl, rfl⟩
set_option maxHeartbeats 2000000 in
set_option maxRecDepth 100000 in
theorem cc_fresh_57_66 : ∀ (b : Nat) (w : World) (cs : Array Value), w.heap[b]? = some (.cells cs 66 (0, 0)) → cs.size = 2 → cs[0]? = some (.pointer none) →
    Calls Try.prog 57 #[.pointer (some ⟨b, 0, none⟩)] w fun e w' => e = .returned (.tuple #[]) ∧ w' = w.setCell ⟨b, 0, none⟩ (.pointer (some ⟨b, 0, none⟩)) := by
  intro b w cs hh hn hc
  have h0 : w.cell? ⟨b, 0, none⟩ = some (.pointer none) := by rw [cell_of_row w b 0 cs 66 (0, 0) hh]; exact hc
  have hsh : w.shape? b = some (66, 2) := by simp [World.shape?, hh, hn]
  have hfz : w.frozen? ⟨b, 0, none⟩ = false := by simp [World.frozen?, hh]
  go_enter Try.func57, Try.ntmps57
  go_wp2
  rw [Lib.run_to_unsafe w ⟨b, 0, none⟩ (show Try.prog.underlying 62 = some (.pointer 64) by kernel_rfl) (show Try.prog.underlying 110 = some (.unsafePointer) by kernel_rfl) (show Try.prog.info? 64 = some Try.t64 by kernel_rfl) (by decide +kernel) hsh (Nat.zero_lt_succ 1)]
  simp only [Result.andThen]
  rw [Oper.upon_value]
  go_wp2
  rw [run_callFunc_extern Try.func58 (by kernel_rfl) (by kernel_rfl) (by kernel_rfl) (e := Extern.AbiNoEscape.same) (by kernel_rfl)]
  rw [Lib.run_noEscape]
  simp only [Result.andThen]
  rw [Oper.upon_value]
  go_wp2
  rw [Lib.run_from_unsafe w ⟨b, 0, none⟩ (show Try.prog.underlying 110 = some (.unsafePointer) by kernel_rfl) (show Try.prog.underlying 62 = some (.pointer 64) by kernel_rfl) (show Try.prog.info? 64 = some Try.t64 by kernel_rfl) hsh (by kernel_rfl)]
  simp only [Result.andThen]
  rw [Oper.upon_value]
  go_wp2
  go_end0
  exact ⟨rfl, rfl⟩
def aciZig : AC := (.seq (.ops [.asg 2 (.c (.d (.i .u64 0)))]) (.seq (.ops [.mv 3 (.t 0), .cvi 4 .u64 (.t 3), .bin 5 .shl (.t 4) (.c (.d (.i .u64 1))), .mv 6 (.t 0), .bin 7 .shr (.t 6) (.c (.d (.i .u64 63))), .cvi 8 .u64 (.t 7), .bin 9 .xor (.t 5) (.t 8), .asg 2 (.t 9)]) .ret))
theorem triZig : trFn Try.prog 56 = some (aciZig, [.mv 0 (.t 2)], 10) := by kernel_rfl
def qiZig (r : Int) : Exit → St → Prop := retQ [.mv 0 (.t 2)] fun x _ => x = (fun y => (.d (.i .u64 y))) r
def aciWriter_text_x : AC := (.seq (.ops [.mv 4 (.t 0), .mv 5 (.t 1), .lns 6 (.t 5), .call (some 7) 45 [(.t 4), (.t 6)]]) (.ops [.mv 8 (.t 0), .nck 9 (.t 8), .fa 10 0 (.t 9), .mv 11 (.t 1), .call (some 12) 54 [(.t 10), (.t 11)]]))
theorem triWriter_text_x : trFn Try.prog 47 = some (aciWriter_text_x, [], 13) := by kernel_rfl
def qiWriter_text_x (r : (List Int)) : Exit → St → Prop := retQ [] fun x b => x = (fun (y : (List Int)) => (.tup [])) r ∧ bxHas ((fun (y : (List Int)) => [(1000000, [(.bp 1000000 66), (.osl 6000001 5 1 (y.map cU8))])]) r) b
def aciWriter_flag_x : AC := (.seq (.ops [.mv 4 (.t 1)]) (.cond (.t 4) (.ops [.mv 5 (.t 0), .call (some 6) 45 [(.t 5), (kI 1)]]) (.ops [.mv 7 (.t 0), .call (some 8) 45 [(.t 7), (kI 0)]])))
theorem triWriter_flag_x : trFn Try.prog 46 = some (aciWriter_flag_x, [], 9) := by kernel_rfl
def qiWriter_flag_x (r : (List Int)) : Exit → St → Prop := retQ [] fun x b => x = (fun (y : (List Int)) => (.tup [])) r ∧ bxHas ((fun (y : (List Int)) => [(1000000, [(.bp 1000000 66), (.osl 6000001 5 1 (y.map cU8))])]) r) b
def aciWriter_plan_x_L0 : AC := (.loop (.seq (.ops [.bin 21 .lss (.t 20) (.t 19)]) (.seq (.cond (.t 21) .skip (.exit 0)) (.seq (.block 1 (.seq (.ops [.ia 22 1 (.t 18) (.t 20), .ld 23 1 false (.t 22), .asg 5 (.t 23)]) (.ops [.mv 24 (.t 0), .mv 25 (.t 5), .call (some 26) 45 [(.t 24), (.t 25)]]))) (.ops [.bin 27 .add (.t 20) (kI 1), .mv 20 (.t 27)])))))
def aciWriter_plan_x_L1 : AC := (.loop (.seq (.ops [.bin 37 .lss (.t 36) (.t 35)]) (.seq (.cond (.t 37) .skip (.exit 2)) (.seq (.block 3 (.seq (.ops [.ia 38 1 (.t 34) (.t 36), .ld 39 1 false (.t 38), .asg 7 (.t 39)]) (.ops [.mv 40 (.t 0), .mv 41 (.t 7), .call (some 42) 48 [(.t 40), (.t 41)]]))) (.ops [.bin 43 .add (.t 36) (kI 1), .mv 36 (.t 43)])))))
def aciWriter_plan_x_L2 : AC := (.loop (.seq (.ops [.bin 57 .lss (.t 56) (.t 55)]) (.seq (.cond (.t 57) .skip (.exit 4)) (.seq (.block 5 (.seq (.ops [.ia 58 11 (.t 54) (.t 56), .ld 59 11 true (.t 58), .alc 9 [(.d (.i .i64 0)), (.d (.i .i64 0)), (.d (.b false)), (.d (.i .i64 0)), (.d (.i .i64 0)), (.d (.s (bs []))), (.d (.i .i64 0)), (.d (.i .i64 0)), (.nil 10), (.nil 8), (.d (.b false))], .st 11 (.t 9) (.t 59)]) (.seq (.ops [.mv 60 (.t 0), .fa 61 0 (.t 9), .ld 62 10 true (.t 61), .call (some 63) 22 [(.t 60), (.t 62)]]) (.ops [.mv 64 (.t 0), .fa 65 10 (.t 9), .ld 66 1 false (.t 65), .call (some 67) 46 [(.t 64), (.t 66)]])))) (.ops [.bin 68 .add (.t 56) (kI 1), .mv 56 (.t 68)])))))
def aciWriter_plan_x_L3 : AC := (.loop (.seq (.ops [.bin 82 .lss (.t 81) (.t 80)]) (.seq (.cond (.t 82) .skip (.exit 6)) (.seq (.block 7 (.seq (.ops [.ia 83 1 (.t 79) (.t 81), .ld 84 1 false (.t 83), .asg 11 (.t 84)]) (.ops [.mv 85 (.t 0), .mv 86 (.t 11), .call (some 87) 47 [(.t 85), (.t 86)]]))) (.ops [.bin 88 .add (.t 81) (kI 1), .mv 81 (.t 88)])))))
def aciWriter_plan_x : AC := (.seq (.ops [.box 3 49 (.t 1)]) (.seq (.ops [.mv 12 (.t 0), .fa 13 0 (.t 3), .ld 14 1 false (.t 13), .len 15 (.t 14), .call (some 16) 45 [(.t 12), (.t 15)]]) (.seq (.seq (.ops [.fa 17 0 (.t 3), .ld 18 1 false (.t 17), .len 19 (.t 18), .mv 20 (kI 0)]) (.block 0 aciWriter_plan_x_L0)) (.seq (.ops [.mv 28 (.t 0), .fa 29 1 (.t 3), .ld 30 1 false (.t 29), .len 31 (.t 30), .call (some 32) 45 [(.t 28), (.t 31)]]) (.seq (.seq (.ops [.fa 33 1 (.t 3), .ld 34 1 false (.t 33), .len 35 (.t 34), .mv 36 (kI 0)]) (.block 2 aciWriter_plan_x_L1)) (.seq (.ops [.mv 44 (.t 0), .fa 45 2 (.t 3), .ld 46 1 false (.t 45), .call (some 47) 48 [(.t 44), (.t 46)]]) (.seq (.ops [.mv 48 (.t 0), .fa 49 3 (.t 3), .ld 50 1 false (.t 49), .len 51 (.t 50), .call (some 52) 45 [(.t 48), (.t 51)]]) (.seq (.seq (.ops [.fa 53 3 (.t 3), .ld 54 1 false (.t 53), .len 55 (.t 54), .mv 56 (kI 0)]) (.block 4 aciWriter_plan_x_L2)) (.seq (.ops [.mv 69 (.t 0), .fa 70 4 (.t 3), .ld 71 1 false (.t 70), .call (some 72) 48 [(.t 69), (.t 71)]]) (.seq (.ops [.mv 73 (.t 0), .fa 74 5 (.t 3), .ld 75 1 false (.t 74), .len 76 (.t 75), .call (some 77) 45 [(.t 73), (.t 76)]]) (.seq (.seq (.ops [.fa 78 5 (.t 3), .ld 79 1 false (.t 78), .len 80 (.t 79), .mv 81 (kI 0)]) (.block 6 aciWriter_plan_x_L3)) (.seq (.ops [.mv 89 (.t 0), .fa 90 6 (.t 3), .ld 91 1 false (.t 90), .call (some 92) 46 [(.t 89), (.t 91)]]) (.ops [.mv 93 (.t 0), .fa 94 7 (.t 3), .ld 95 1 false (.t 94), .call (some 96) 45 [(.t 93), (.t 95)]])))))))))))))
theorem triWriter_plan_x : trFn Try.prog 36 = some (aciWriter_plan_x, [], 97) := by kernel_rfl
def qiWriter_plan_x (r : (List Int)) : Exit → St → Prop := retQ [] fun x b => x = (fun (y : (List Int)) => (.tup [])) r ∧ bxHas ((fun (y : (List Int)) => [(1000000, [(.bp 1000000 66), (.osl 6000001 5 1 (y.map cU8))])]) r) b
def qiWriter_plan_x_0 (r : (List Int)) : Exit → St → Prop := (thenK (wkK (avc Try.prog (.seq (.ops [.mv 28 (.t 0), .fa 29 1 (.t 3), .ld 30 1 false (.t 29), .len 31 (.t 30), .call (some 32) 45 [(.t 28), (.t 31)]]) (.seq (.seq (.ops [.fa 33 1 (.t 3), .ld 34 1 false (.t 33), .len 35 (.t 34), .mv 36 (.c (.d (.i .i64 0)))]) (.block 2 aciWriter_plan_x_L1)) (.seq (.ops [.mv 44 (.t 0), .fa 45 2 (.t 3), .ld 46 1 false (.t 45), .call (some 47) 48 [(.t 44), (.t 46)]]) (.seq (.ops [.mv 48 (.t 0), .fa 49 3 (.t 3), .ld 50 1 false (.t 49), .len 51 (.t 50), .call (some 52) 45 [(.t 48), (.t 51)]]) (.seq (.seq (.ops [.fa 53 3 (.t 3), .ld 54 1 false (.t 53), .len 55 (.t 54), .mv 56 (.c (.d (.i .i64 0)))]) (.block 4 aciWriter_plan_x_L2)) (.seq (.ops [.mv 69 (.t 0), .fa 70 4 (.t 3), .ld 71 1 false (.t 70), .call (some 72) 48 [(.t 69), (.t 71)]]) (.seq (.ops [.mv 73 (.t 0), .fa 74 5 (.t 3), .ld 75 1 false (.t 74), .len 76 (.t 75), .call (some 77) 45 [(.t 73), (.t 76)]]) (.seq (.seq (.ops [.fa 78 5 (.t 3), .ld 79 1 false (.t 78), .len 80 (.t 79), .mv 81 (.c (.d (.i .i64 0)))]) (.block 6 aciWriter_plan_x_L3)) (.seq (.ops [.mv 89 (.t 0), .fa 90 6 (.t 3), .ld 91 1 false (.t 90), .call (some 92) 46 [(.t 89), (.t 91)]]) (.ops [.mv 93 (.t 0), .fa 94 7 (.t 3), .ld 95 1 false (.t 94), .call (some 96) 45 [(.t 93), (.t 95)]])))))))))) (qiWriter_plan_x r))) (qiWriter_plan_x r))
def qiWriter_plan_x_1 (r : (List Int)) : Exit → St → Prop := (blockK 0 (qiWriter_plan_x_0 r))
def qiWriter_plan_x_2 (r : (List Int)) : Exit → St → Prop := (thenK (wkK (avc Try.prog (.seq (.ops [.mv 44 (.t 0), .fa 45 2 (.t 3), .ld 46 1 false (.t 45), .call (some 47) 48 [(.t 44), (.t 46)]]) (.seq (.ops [.mv 48 (.t 0), .fa 49 3 (.t 3), .ld 50 1 false (.t 49), .len 51 (.t 50), .call (some 52) 45 [(.t 48), (.t 51)]]) (.seq (.seq (.ops [.fa 53 3 (.t 3), .ld 54 1 false (.t 53), .len 55 (.t 54), .mv 56 (.c (.d (.i .i64 0)))]) (.block 4 aciWriter_plan_x_L2)) (.seq (.ops [.mv 69 (.t 0), .fa 70 4 (.t 3), .ld 71 1 false (.t 70), .call (some 72) 48 [(.t 69), (.t 71)]]) (.seq (.ops [.mv 73 (.t 0), .fa 74 5 (.t 3), .ld 75 1 false (.t 74), .len 76 (.t 75), .call (some 77) 45 [(.t 73), (.t 76)]]) (.seq (.seq (.ops [.fa 78 5 (.t 3), .ld 79 1 false (.t 78), .len 80 (.t 79), .mv 81 (.c (.d (.i .i64 0)))]) (.block 6 aciWriter_plan_x_L3)) (.seq (.ops [.mv 89 (.t 0), .fa 90 6 (.t 3), .ld 91 1 false (.t 90), .call (some 92) 46 [(.t 89), (.t 91)]]) (.ops [.mv 93 (.t 0), .fa 94 7 (.t 3), .ld 95 1 false (.t 94), .call (some 96) 45 [(.t 93), (.t 95)]])))))))) (qiWriter_plan_x r))) (qiWriter_plan_x r))
def qiWriter_plan_x_3 (r : (List Int)) : Exit → St → Prop := (blockK 2 (qiWriter_plan_x_2 r))
def qiWriter_plan_x_4 (r : (List Int)) : Exit → St → Prop := (thenK (wkK (avc Try.prog (.seq (.ops [.mv 69 (.t 0), .fa 70 4 (.t 3), .ld 71 1 false (.t 70), .call (some 72) 48 [(.t 69), (.t 71)]]) (.seq (.ops [.mv 73 (.t 0), .fa 74 5 (.t 3), .ld 75 1 false (.t 74), .len 76 (.t 75), .call (some 77) 45 [(.t 73), (.t 76)]]) (.seq (.seq (.ops [.fa 78 5 (.t 3), .ld 79 1 false (.t 78), .len 80 (.t 79), .mv 81 (.c (.d (.i .i64 0)))]) (.block 6 aciWriter_plan_x_L3)) (.seq (.ops [.mv 89 (.t 0), .fa 90 6 (.t 3), .ld 91 1 false (.t 90), .call (some 92) 46 [(.t 89), (.t 91)]]) (.ops [.mv 93 (.t 0), .fa 94 7 (.t 3), .ld 95 1 false (.t 94), .call (some 96) 45 [(.t 93), (.t 95)]]))))) (qiWriter_plan_x r))) (qiWriter_plan_x r))
def qiWriter_plan_x_5 (r : (List Int)) : Exit → St → Prop := (blockK 4 (qiWriter_plan_x_4 r))
def qiWriter_plan_x_6 (r : (List Int)) : Exit → St → Prop := (thenK (wkK (avc Try.prog (.seq (.ops [.mv 89 (.t 0), .fa 90 6 (.t 3), .ld 91 1 false (.t 90), .call (some 92) 46 [(.t 89), (.t 91)]]) (.ops [.mv 93 (.t 0), .fa 94 7 (.t 3), .ld 95 1 false (.t 94), .call (some 96) 45 [(.t 93), (.t 95)]])) (qiWriter_plan_x r))) (qiWriter_plan_x r))
def qiWriter_plan_x_7 (r : (List Int)) : Exit → St → Prop := (blockK 6 (qiWriter_plan_x_6 r))
def stiWriter_plan_x_L0 (p1 : GPlan) (x20 : Int) (b1000000_1 : (List Int)) : St := ⟨[(0, (.ptr 1000000 0)), (3, (.ptr 3 0)), (18, (.d (.sl 1 (p1.tables.map cI)))), (19, (vI (p1.tables.length : Int))), (20, (vI x20))], [(3, bGPlan p1), (1000000, [(.bp 1000000 66), (.osl 6000001 5 1 (b1000000_1.map cU8))])]⟩
def stiWriter_plan_x_L1 (p1 : GPlan) (x36 : Int) (b1000000_1_5 : (List Int)) : St := ⟨[(0, (.ptr 1000000 0)), (3, (.ptr 3 0)), (34, (.d (.sl 1 (p1.on_.map (cSl 10 cGPExpr))))), (35, (vI (p1.on_.length : Int))), (36, (vI x36))], [(3, bGPlan p1), (1000000, [(.bp 1000000 66), (.osl 6000001 5 1 (b1000000_1_5.map cU8))])]⟩
def stiWriter_plan_x_L2 (p1 : GPlan) (x56 : Int) (b1000000_1_10 : (List Int)) : St := ⟨[(0, (.ptr 1000000 0)), (3, (.ptr 3 0)), (54, (.d (.sl 11 (p1.order.map cGPSort)))), (55, (vI (p1.order.length : Int))), (56, (vI x56))], [(3, bGPlan p1), (1000000, [(.bp 1000000 66), (.osl 6000001 5 1 (b1000000_1_10.map cU8))])]⟩
def stiWriter_plan_x_L3 (p1 : GPlan) (x81 : Int) (b1000000_1_16 : (List Int)) : St := ⟨[(0, (.ptr 1000000 0)), (3, (.ptr 3 0)), (79, (.d (.sl 1 (p1.names.map cStr)))), (80, (vI (p1.names.length : Int))), (81, (vI x81))], [(3, bGPlan p1), (1000000, [(.bp 1000000 66), (.osl 6000001 5 1 (b1000000_1_16.map cU8))])]⟩
def acwToPExpr : AC := (.seq (.ops [.box 1 27 (.t 0), .alc 2 [(.d (.i .i64 0)), (.d (.i .i64 0)), (.d (.b false)), (.d (.i .i64 0)), (.d (.i .i64 0)), (.d (.s (bs []))), (.d (.i .i64 0)), (.d (.i .i64 0)), (.nil 10), (.nil 8)]]) (.seq (.ops [.alc 3 [(.d (.i .i64 0)), (.d (.i .i64 0)), (.d (.b false)), (.d (.i .i64 0)), (.d (.i .i64 0)), (.d (.s (bs []))), (.d (.i .i64 0)), (.d (.i .i64 0)), (.nil 10), (.nil 8)]]) (.seq (.ops [.fa 4 0 (.t 1), .ld 5 1 false (.t 4), .fa 6 0 (.t 3), .st 1 (.t 6) (.t 5)]) (.seq (.ops [.fa 7 1 (.t 1), .ld 8 1 false (.t 7), .fa 9 1 (.t 3), .st 1 (.t 9) (.t 8)]) (.seq (.ops [.fa 10 2 (.t 1), .ld 11 1 false (.t 10), .fa 12 2 (.t 3), .st 1 (.t 12) (.t 11)]) (.seq (.ops [.fa 13 3 (.t 1), .ld 14 3 true (.t 13), .call (some 15) 19 [(.t 14)], .fa 16 3 (.t 3), .st 3 (.t 16) (.t 15)]) (.seq (.ops [.fa 17 6 (.t 1), .ld 18 1 false (.t 17), .fa 19 6 (.t 3), .st 1 (.t 19) (.t 18)]) (.seq (.ops [.fa 20 7 (.t 1), .ld 21 1 false (.t 20), .fa 22 7 (.t 3), .st 1 (.t 22) (.t 21)]) (.seq (.ops [.fa 23 8 (.t 1), .ld 24 1 false (.t 23), .call (some 25) 20 [(.t 24)], .fa 26 8 (.t 3), .st 1 (.t 26) (.t 25)]) (.seq (.ops [.fa 27 9 (.t 1), .ld 28 1 false (.t 27), .call (some 29) 21 [(.t 28)], .fa 30 9 (.t 3), .st 1 (.t 30) (.t 29)]) (.seq (.ops [.ld 31 10 true (.t 3), .st 10 (.t 2) (.t 31)]) .ret)))))))))))
theorem trwToPExpr : trFn Try.prog 7 = some (acwToPExpr, [.ld 0 10 true (.t 2)], 32) := by kernel_rfl
def qwToPExpr (r : GPExpr) : Exit → St → Prop := retQ [.ld 0 10 true (.t 2)] fun x _ => x = (fun y => (vGPExpr y)) r
def acwToPExprS_L0 : AC := (.loop (.seq (.seq (.ops [.mv 8 (.t 4), .mv 9 (.t 0), .len 10 (.t 9), .bin 11 .lss (.t 8) (.t 10)]) (.cond (.t 11) .skip (.exit 0))) (.seq (.block 1 (.ops [.mv 14 (.t 3), .mv 15 (.t 4), .mv 16 (.t 0), .mv 17 (.t 4), .ia 18 10 (.t 16) (.t 17), .ld 19 10 true (.t 18), .call (some 20) 7 [(.t 19)], .ia 21 10 (.t 14) (.t 15), .st 10 (.t 21) (.t 20)])) (.ops [.mv 12 (.t 4), .bin 13 .add (.t 12) (kI 1), .asg 4 (.t 13)]))))
def acwToPExprS : AC := (.seq (.ops [.asg 2 (.c (.nil 10))]) (.seq (.ops [.mv 5 (.t 0), .len 6 (.t 5), .mks 7 34 10 120 [(.i .i64 0), (.i .i64 0), (.b false), (.i .i64 0), (.i .i64 0), (.s (bs [])), (.i .i64 0), (.i .i64 0), (.sl 10 []), (.sl 8 [])] (.t 6) (.t 6), .asg 3 (.t 7)]) (.seq (.seq (.ops [.asg 4 (kI 0)]) (.block 0 acwToPExprS_L0)) (.seq (.ops [.mv 22 (.t 3), .asg 2 (.t 22)]) .ret))))
theorem trwToPExprS : trFn Try.prog 20 = some (acwToPExprS, [.mv 0 (.t 2)], 23) := by kernel_rfl
def qwToPExprS (r : (List GPExpr)) : Exit → St → Prop := retQ [.mv 0 (.t 2)] fun x _ => x = (fun y => (.d (.sl 10 (y.map cGPExpr)))) r
def qwToPExprS_0 (r : (List GPExpr)) : Exit → St → Prop := (thenK (wkK (avc Try.prog (.seq (.ops [.mv 22 (.t 3), .asg 2 (.t 22)]) .ret) (qwToPExprS r))) (qwToPExprS r))
def qwToPExprS_1 (r : (List GPExpr)) : Exit → St → Prop := (blockK 0 (qwToPExprS_0 r))
def stwToPExprS_L0 (p0 : (List GPExpr)) (x4 : Int) (b7_0 : (List GPExpr)) : St := ⟨[(0, (.d (.sl 10 (p0.map cGPExpr)))), (3, (.msl 7 10 0 b7_0.length b7_0.length)), (4, (vI x4))], [(7, rowsV (b7_0.map cGPExpr))]⟩
def acwToValue : AC := (.seq (.ops [.box 1 23 (.t 0), .alc 2 [(.d (.i .i64 0)), (.d (.i .i64 0)), (.d (.s (bs [])))]]) (.seq (.ops [.alc 3 [(.d (.i .i64 0)), (.d (.i .i64 0)), (.d (.s (bs [])))]]) (.seq (.ops [.fa 4 0 (.t 1), .ld 5 1 false (.t 4), .fa 6 0 (.t 3), .st 1 (.t 6) (.t 5)]) (.seq (.ops [.fa 7 1 (.t 1), .ld 8 1 false (.t 7), .fa 9 1 (.t 3), .st 1 (.t 9) (.t 8)]) (.seq (.ops [.fa 10 2 (.t 1), .ld 11 1 false (.t 10), .fa 12 2 (.t 3), .st 1 (.t 12) (.t 11)]) (.seq (.ops [.ld 13 3 true (.t 3), .st 3 (.t 2) (.t 13)]) .ret))))))
theorem trwToValue : trFn Try.prog 19 = some (acwToValue, [.ld 0 3 true (.t 2)], 14) := by kernel_rfl
def qwToValue (r : GValue) : Exit → St → Prop := retQ [.ld 0 3 true (.t 2)] fun x _ => x = (fun y => (vGValue y)) r
def acwToPlanS_L0 : AC := (.loop (.seq (.seq (.ops [.mv 8 (.t 4), .mv 9 (.t 0), .len 10 (.t 9), .bin 11 .lss (.t 8) (.t 10)]) (.cond (.t 11) .skip (.exit 0))) (.seq (.block 1 (.ops [.mv 14 (.t 3), .mv 15 (.t 4), .mv 16 (.t 0), .mv 17 (.t 4), .ia 18 8 (.t 16) (.t 17), .ld 19 8 true (.t 18), .call (some 20) 12 [(.t 19)], .ia 21 8 (.t 14) (.t 15), .st 8 (.t 21) (.t 20)])) (.ops [.mv 12 (.t 4), .bin 13 .add (.t 12) (kI 1), .asg 4 (.t 13)]))))
def acwToPlanS : AC := (.seq (.ops [.asg 2 (.c (.nil 8))]) (.seq (.ops [.mv 5 (.t 0), .len 6 (.t 5), .mks 7 49 8 160 [(.sl 1 []), (.sl 1 []), (.sl 10 []), (.sl 11 []), (.sl 10 []), (.sl 1 []), (.b false), (.i .i64 0)] (.t 6) (.t 6), .asg 3 (.t 7)]) (.seq (.seq (.ops [.asg 4 (kI 0)]) (.block 0 acwToPlanS_L0)) (.seq (.ops [.mv 22 (.t 3), .asg 2 (.t 22)]) .ret))))
theorem trwToPlanS : trFn Try.prog 21 = some (acwToPlanS, [.mv 0 (.t 2)], 23) := by kernel_rfl
def qwToPlanS (r : (List GPlan)) : Exit → St → Prop := retQ [.mv 0 (.t 2)] fun x _ => x = (fun y => (.d (.sl 8 (y.map cGPlan)))) r
def qwToPlanS_0 (r : (List GPlan)) : Exit → St → Prop := (thenK (wkK (avc Try.prog (.seq (.ops [.mv 22 (.t 3), .asg 2 (.t 22)]) .ret) (qwToPlanS r))) (qwToPlanS r))
def qwToPlanS_1 (r : (List GPlan)) : Exit → St → Prop := (blockK 0 (qwToPlanS_0 r))
def stwToPlanS_L0 (p0 : (List GPlan)) (x4 : Int) (b7_0 : (List GPlan)) : St := ⟨[(0, (.d (.sl 8 (p0.map cGPlan)))), (3, (.msl 7 8 0 b7_0.length b7_0.length)), (4, (vI x4))], [(7, rowsV (b7_0.map cGPlan))]⟩
def acwToPlan : AC := (.seq (.ops [.box 1 43 (.t 0), .alc 2 [(.nil 1), (.nil 1), (.nil 10), (.nil 11), (.nil 10), (.nil 1), (.d (.b false)), (.d (.i .i64 0))]]) (.seq (.ops [.alc 3 [(.nil 1), (.nil 1), (.nil 10), (.nil 11), (.nil 10), (.nil 1), (.d (.b false)), (.d (.i .i64 0))]]) (.seq (.ops [.fa 4 0 (.t 1), .ld 5 1 false (.t 4), .call (some 6) 32 [(.t 5)], .fa 7 0 (.t 3), .st 1 (.t 7) (.t 6)]) (.seq (.ops [.fa 8 1 (.t 1), .ld 9 1 false (.t 8), .call (some 10) 33 [(.t 9)], .fa 11 1 (.t 3), .st 1 (.t 11) (.t 10)]) (.seq (.ops [.fa 12 2 (.t 1), .ld 13 1 false (.t 12), .call (some 14) 20 [(.t 13)], .fa 15 2 (.t 3), .st 1 (.t 15) (.t 14)]) (.seq (.ops [.fa 16 3 (.t 1), .ld 17 1 false (.t 16), .call (some 18) 34 [(.t 17)], .fa 19 3 (.t 3), .st 1 (.t 19) (.t 18)]) (.seq (.ops [.fa 20 4 (.t 1), .ld 21 1 false (.t 20), .call (some 22) 20 [(.t 21)], .fa 23 4 (.t 3), .st 1 (.t 23) (.t 22)]) (.seq (.ops [.fa 24 5 (.t 1), .ld 25 1 false (.t 24), .call (some 26) 35 [(.t 25)], .fa 27 5 (.t 3), .st 1 (.t 27) (.t 26)]) (.seq (.ops [.fa 28 6 (.t 1), .ld 29 1 false (.t 28), .fa 30 6 (.t 3), .st 1 (.t 30) (.t 29)]) (.seq (.ops [.fa 31 7 (.t 1), .ld 32 1 false (.t 31), .fa 33 7 (.t 3), .st 1 (.t 33) (.t 32)]) (.seq (.ops [.ld 34 8 true (.t 3), .st 8 (.t 2) (.t 34)]) .ret)))))))))))
theorem trwToPlan : trFn Try.prog 12 = some (acwToPlan, [.ld 0 8 true (.t 2)], 35) := by kernel_rfl
def qwToPlan (r : GPlan) : Exit → St → Prop := retQ [.ld 0 8 true (.t 2)] fun x _ => x = (fun y => (vGPlan y)) r
def acwToIntS_L0 : AC := (.loop (.seq (.seq (.ops [.mv 8 (.t 4), .mv 9 (.t 0), .len 10 (.t 9), .bin 11 .lss (.t 8) (.t 10)]) (.cond (.t 11) .skip (.exit 0))) (.seq (.block 1 (.ops [.mv 14 (.t 3), .mv 15 (.t 4), .mv 16 (.t 0), .mv 17 (.t 4), .ia 18 1 (.t 16) (.t 17), .ld 19 1 false (.t 18), .ia 20 1 (.t 14) (.t 15), .st 1 (.t 20) (.t 19)])) (.ops [.mv 12 (.t 4), .bin 13 .add (.t 12) (kI 1), .asg 4 (.t 13)]))))
def acwToIntS : AC := (.seq (.ops [.asg 2 (.c (.nil 1))]) (.seq (.ops [.mv 5 (.t 0), .len 6 (.t 5), .mks 7 3 1 8 [(.i .i64 0)] (.t 6) (.t 6), .asg 3 (.t 7)]) (.seq (.seq (.ops [.asg 4 (kI 0)]) (.block 0 acwToIntS_L0)) (.seq (.ops [.mv 21 (.t 3), .asg 2 (.t 21)]) .ret))))
theorem trwToIntS : trFn Try.prog 32 = some (acwToIntS, [.mv 0 (.t 2)], 22) := by kernel_rfl
def qwToIntS (r : (List Int)) : Exit → St → Prop := retQ [.mv 0 (.t 2)] fun x _ => x = (fun y => (.d (.sl 1 (y.map cI)))) r
def qwToIntS_0 (r : (List Int)) : Exit → St → Prop := (thenK (wkK (avc Try.prog (.seq (.ops [.mv 21 (.t 3), .asg 2 (.t 21)]) .ret) (qwToIntS r))) (qwToIntS r))
def qwToIntS_1 (r : (List Int)) : Exit → St → Prop := (blockK 0 (qwToIntS_0 r))
def stwToIntS_L0 (p0 : (List Int)) (x4 : Int) (b7_0 : (List Int)) : St := ⟨[(0, (.d (.sl 1 (p0.map cI)))), (3, (.msl 7 1 0 b7_0.length b7_0.length)), (4, (vI x4))], [(7, rowsV (b7_0.map cI))]⟩
def acwToStringS_L0 : AC := (.loop (.seq (.seq (.ops [.mv 8 (.t 4), .mv 9 (.t 0), .len 10 (.t 9), .bin 11 .lss (.t 8) (.t 10)]) (.cond (.t 11) .skip (.exit 0))) (.seq (.block 1 (.ops [.mv 14 (.t 3), .mv 15 (.t 4), .mv 16 (.t 0), .mv 17 (.t 4), .ia 18 1 (.t 16) (.t 17), .ld 19 1 false (.t 18), .ia 20 1 (.t 14) (.t 15), .st 1 (.t 20) (.t 19)])) (.ops [.mv 12 (.t 4), .bin 13 .add (.t 12) (kI 1), .asg 4 (.t 13)]))))
def acwToStringS : AC := (.seq (.ops [.asg 2 (.c (.nil 1))]) (.seq (.ops [.mv 5 (.t 0), .len 6 (.t 5), .mks 7 9 1 16 [(.s (bs []))] (.t 6) (.t 6), .asg 3 (.t 7)]) (.seq (.seq (.ops [.asg 4 (kI 0)]) (.block 0 acwToStringS_L0)) (.seq (.ops [.mv 21 (.t 3), .asg 2 (.t 21)]) .ret))))
theorem trwToStringS : trFn Try.prog 35 = some (acwToStringS, [.mv 0 (.t 2)], 22) := by kernel_rfl
def qwToStringS (r : (List (List UInt8))) : Exit → St → Prop := retQ [.mv 0 (.t 2)] fun x _ => x = (fun y => (.d (.sl 1 (y.map cStr)))) r
def qwToStringS_0 (r : (List (List UInt8))) : Exit → St → Prop := (thenK (wkK (avc Try.prog (.seq (.ops [.mv 21 (.t 3), .asg 2 (.t 21)]) .ret) (qwToStringS r))) (qwToStringS r))
def qwToStringS_1 (r : (List (List UInt8))) : Exit → St → Prop := (blockK 0 (qwToStringS_0 r))
def stwToStringS_L0 (p0 : (List (List UInt8))) (x4 : Int) (b7_0 : (List (List UInt8))) : St := ⟨[(0, (.d (.sl 1 (p0.map cStr)))), (3, (.msl 7 1 0 b7_0.length b7_0.length)), (4, (vI x4))], [(7, rowsV (b7_0.map cStr))]⟩
def acwToPSortS_L0 : AC := (.loop (.seq (.seq (.ops [.mv 8 (.t 4), .mv 9 (.t 0), .len 10 (.t 9), .bin 11 .lss (.t 8) (.t 10)]) (.cond (.t 11) .skip (.exit 0))) (.seq (.block 1 (.ops [.mv 14 (.t 3), .mv 15 (.t 4), .mv 16 (.t 0), .mv 17 (.t 4), .ia 18 11 (.t 16) (.t 17), .ld 19 11 true (.t 18), .call (some 20) 50 [(.t 19)], .ia 21 11 (.t 14) (.t 15), .st 11 (.t 21) (.t 20)])) (.ops [.mv 12 (.t 4), .bin 13 .add (.t 12) (kI 1), .asg 4 (.t 13)]))))
def acwToPSortS : AC := (.seq (.ops [.asg 2 (.c (.nil 11))]) (.seq (.ops [.mv 5 (.t 0), .len 6 (.t 5), .mks 7 99 11 128 [(.i .i64 0), (.i .i64 0), (.b false), (.i .i64 0), (.i .i64 0), (.s (bs [])), (.i .i64 0), (.i .i64 0), (.sl 10 []), (.sl 8 []), (.b false)] (.t 6) (.t 6), .asg 3 (.t 7)]) (.seq (.seq (.ops [.asg 4 (kI 0)]) (.block 0 acwToPSortS_L0)) (.seq (.ops [.mv 22 (.t 3), .asg 2 (.t 22)]) .ret))))
theorem trwToPSortS : trFn Try.prog 34 = some (acwToPSortS, [.mv 0 (.t 2)], 23) := by kernel_rfl
def qwToPSortS (r : (List GPSort)) : Exit → St → Prop := retQ [.mv 0 (.t 2)] fun x _ => x = (fun y => (.d (.sl 11 (y.map cGPSort)))) r
def qwToPSortS_0 (r : (List GPSort)) : Exit → St → Prop := (thenK (wkK (avc Try.prog (.seq (.ops [.mv 22 (.t 3), .asg 2 (.t 22)]) .ret) (qwToPSortS r))) (qwToPSortS r))
def qwToPSortS_1 (r : (List GPSort)) : Exit → St → Prop := (blockK 0 (qwToPSortS_0 r))
def stwToPSortS_L0 (p0 : (List GPSort)) (x4 : Int) (b7_0 : (List GPSort)) : St := ⟨[(0, (.d (.sl 11 (p0.map cGPSort)))), (3, (.msl 7 11 0 b7_0.length b7_0.length)), (4, (vI x4))], [(7, rowsV (b7_0.map cGPSort))]⟩
def acwToPSort : AC := (.seq (.ops [.box 1 97 (.t 0), .alc 2 [(.d (.i .i64 0)), (.d (.i .i64 0)), (.d (.b false)), (.d (.i .i64 0)), (.d (.i .i64 0)), (.d (.s (bs []))), (.d (.i .i64 0)), (.d (.i .i64 0)), (.nil 10), (.nil 8), (.d (.b false))]]) (.seq (.ops [.alc 3 [(.d (.i .i64 0)), (.d (.i .i64 0)), (.d (.b false)), (.d (.i .i64 0)), (.d (.i .i64 0)), (.d (.s (bs []))), (.d (.i .i64 0)), (.d (.i .i64 0)), (.nil 10), (.nil 8), (.d (.b false))]]) (.seq (.ops [.fa 4 0 (.t 1), .ld 5 10 true (.t 4), .call (some 6) 7 [(.t 5)], .fa 7 0 (.t 3), .st 10 (.t 7) (.t 6)]) (.seq (.ops [.fa 8 10 (.t 1), .ld 9 1 false (.t 8), .fa 10 10 (.t 3), .st 1 (.t 10) (.t 9)]) (.seq (.ops [.ld 11 11 true (.t 3), .st 11 (.t 2) (.t 11)]) .ret)))))
theorem trwToPSort : trFn Try.prog 50 = some (acwToPSort, [.ld 0 11 true (.t 2)], 12) := by kernel_rfl
def qwToPSort (r : GPSort) : Exit → St → Prop := retQ [.ld 0 11 true (.t 2)] fun x _ => x = (fun y => (vGPSort y)) r
def acwToPExprSS_L0 : AC := (.loop (.seq (.seq (.ops [.mv 8 (.t 4), .mv 9 (.t 0), .len 10 (.t 9), .bin 11 .lss (.t 8) (.t 10)]) (.cond (.t 11) .skip (.exit 0))) (.seq (.block 1 (.ops [.mv 14 (.t 3), .mv 15 (.t 4), .mv 16 (.t 0), .mv 17 (.t 4), .ia 18 1 (.t 16) (.t 17), .ld 19 1 false (.t 18), .call (some 20) 20 [(.t 19)], .ia 21 1 (.t 14) (.t 15), .st 1 (.t 21) (.t 20)])) (.ops [.mv 12 (.t 4), .bin 13 .add (.t 12) (kI 1), .asg 4 (.t 13)]))))
def acwToPExprSS : AC := (.seq (.ops [.asg 2 (.c (.nil 1))]) (.seq (.ops [.mv 5 (.t 0), .len 6 (.t 5), .mks 7 31 1 24 [(.sl 10 [])] (.t 6) (.t 6), .asg 3 (.t 7)]) (.seq (.seq (.ops [.asg 4 (kI 0)]) (.block 0 acwToPExprSS_L0)) (.seq (.ops [.mv 22 (.t 3), .asg 2 (.t 22)]) .ret))))
theorem trwToPExprSS : trFn Try.prog 33 = some (acwToPExprSS, [.mv 0 (.t 2)], 23) := by kernel_rfl
def qwToPExprSS (r : (List (List GPExpr))) : Exit → St → Prop := retQ [.mv 0 (.t 2)] fun x _ => x = (fun y => (.d (.sl 1 (y.map (cSl 10 cGPExpr))))) r
def qwToPExprSS_0 (r : (List (List GPExpr))) : Exit → St → Prop := (thenK (wkK (avc Try.prog (.seq (.ops [.mv 22 (.t 3), .asg 2 (.t 22)]) .ret) (qwToPExprSS r))) (qwToPExprSS r))
def qwToPExprSS_1 (r : (List (List GPExpr))) : Exit → St → Prop := (blockK 0 (qwToPExprSS_0 r))
def stwToPExprSS_L0 (p0 : (List (List GPExpr))) (x4 : Int) (b7_0 : (List (List GPExpr))) : St := ⟨[(0, (.d (.sl 1 (p0.map (cSl 10 cGPExpr))))), (3, (.msl 7 1 0 b7_0.length b7_0.length)), (4, (vI x4))], [(7, rowsV (b7_0.map (cSl 10 cGPExpr)))]⟩
def acwEqPExpr : AC := (.seq (.ops [.box 2 34 (.t 0), .box 3 34 (.t 1), .asg 4 (kB false)]) (.seq (.seq (.ops [.fa 5 0 (.t 2), .ld 6 1 false (.t 5), .fa 7 0 (.t 3), .ld 8 1 false (.t 7), .bin 9 .neq (.t 6) (.t 8)]) (.cond (.t 9) (.seq (.ops [.asg 4 (kB false)]) .ret) .skip)) (.seq (.seq (.ops [.fa 10 1 (.t 2), .ld 11 1 false (.t 10), .fa 12 1 (.t 3), .ld 13 1 false (.t 12), .bin 14 .neq (.t 11) (.t 13)]) (.cond (.t 14) (.seq (.ops [.asg 4 (kB false)]) .ret) .skip)) (.seq (.seq (.ops [.fa 15 2 (.t 2), .ld 16 1 false (.t 15), .fa 17 2 (.t 3), .ld 18 1 false (.t 17), .eqb 19 true (.t 16) (.t 18)]) (.cond (.t 19) (.seq (.ops [.asg 4 (kB false)]) .ret) .skip)) (.seq (.seq (.ops [.fa 20 3 (.t 2), .ld 21 3 true (.t 20), .fa 22 3 (.t 3), .ld 23 3 true (.t 22), .call (some 24) 24 [(.t 21), (.t 23)], .not 25 (.t 24)]) (.cond (.t 25) (.seq (.ops [.asg 4 (kB false)]) .ret) .skip)) (.seq (.seq (.ops [.fa 26 6 (.t 2), .ld 27 1 false (.t 26), .fa 28 6 (.t 3), .ld 29 1 false (.t 28), .bin 30 .neq (.t 27) (.t 29)]) (.cond (.t 30) (.seq (.ops [.asg 4 (kB false)]) .ret) .skip)) (.seq (.seq (.ops [.fa 31 7 (.t 2), .ld 32 1 false (.t 31), .fa 33 7 (.t 3), .ld 34 1 false (.t 33), .bin 35 .neq (.t 32) (.t 34)]) (.cond (.t 35) (.seq (.ops [.asg 4 (kB false)]) .ret) .skip)) (.seq (.seq (.ops [.fa 36 8 (.t 2), .ld 37 1 false (.t 36), .fa 38 8 (.t 3), .ld 39 1 false (.t 38), .call (some 40) 25 [(.t 37), (.t 39)], .not 41 (.t 40)]) (.cond (.t 41) (.seq (.ops [.asg 4 (kB false)]) .ret) .skip)) (.seq (.seq (.ops [.fa 42 9 (.t 2), .ld 43 1 false (.t 42), .fa 44 9 (.t 3), .ld 45 1 false (.t 44), .call (some 46) 26 [(.t 43), (.t 45)], .not 47 (.t 46)]) (.cond (.t 47) (.seq (.ops [.asg 4 (kB false)]) .ret) .skip)) (.seq (.ops [.asg 4 (kB true)]) .ret))))))))))
theorem trwEqPExpr : trFn Try.prog 9 = some (acwEqPExpr, [.mv 0 (.t 4)], 48) := by kernel_rfl
def qwEqPExpr (r : Bool) : Exit → St → Prop := retQ [.mv 0 (.t 4)] fun x _ => x = (fun y => (vB y)) r
def acwEqPlanS_L0 : AC := (.loop (.seq (.seq (.ops [.mv 11 (.t 5), .mv 12 (.t 0), .len 13 (.t 12), .bin 14 .lss (.t 11) (.t 13)]) (.cond (.t 14) .skip (.exit 0))) (.seq (.block 1 (.seq (.dops [[], [], [0, 1], [2], [], [], [4, 5], [6], [3, 7], [8]] [.mv 17 (.t 0), .mv 18 (.t 5), .ia 19 8 (.t 17) (.t 18), .ld 20 8 true (.t 19), .mv 21 (.t 1), .mv 22 (.t 5), .ia 23 8 (.t 21) (.t 22), .ld 24 8 true (.t 23), .call (some 25) 14 [(.t 20), (.t 24)], .not 26 (.t 25)]) (.cond (.t 26) (.seq (.ops [.asg 4 (kB false)]) .ret) .skip))) (.ops [.mv 15 (.t 5), .bin 16 .add (.t 15) (kI 1), .asg 5 (.t 16)]))))
def acwEqPlanS : AC := (.seq (.ops [.asg 4 (kB false)]) (.seq (.seq (.ops [.mv 6 (.t 0), .len 7 (.t 6), .mv 8 (.t 1), .len 9 (.t 8), .bin 10 .neq (.t 7) (.t 9)]) (.cond (.t 10) (.seq (.ops [.asg 4 (kB false)]) .ret) .skip)) (.seq (.seq (.ops [.asg 5 (kI 0)]) (.block 0 acwEqPlanS_L0)) (.seq (.ops [.asg 4 (kB true)]) .ret))))
theorem trwEqPlanS : trFn Try.prog 26 = some (acwEqPlanS, [.mv 0 (.t 4)], 27) := by kernel_rfl
def qwEqPlanS (r : Bool) : Exit → St → Prop := retQ [.mv 0 (.t 4)] fun x _ => x = (fun y => (vB y)) r
def qwEqPlanS_0 (r : Bool) : Exit → St → Prop := (thenK (wkK (avc Try.prog (.seq (.ops [.asg 4 (.c (.d (.b true)))]) .ret) (qwEqPlanS r))) (qwEqPlanS r))
def qwEqPlanS_1 (r : Bool) : Exit → St → Prop := (blockK 0 (qwEqPlanS_0 r))
def stwEqPlanS_L0 (p0 : (List GPlan)) (p1 : (List GPlan)) (x5 : Int) : St := ⟨[(0, (.d (.sl 8 (p0.map cGPlan)))), (1, (.d (.sl 8 (p1.map cGPlan)))), (5, (vI x5))], []⟩
def acwEqPlan : AC := (.seq (.ops [.box 2 49 (.t 0), .box 3 49 (.t 1), .asg 4 (kB false)]) (.seq (.seq (.ops [.fa 5 0 (.t 2), .ld 6 1 false (.t 5), .fa 7 0 (.t 3), .ld 8 1 false (.t 7), .call (some 9) 37 [(.t 6), (.t 8)], .not 10 (.t 9)]) (.cond (.t 10) (.seq (.ops [.asg 4 (kB false)]) .ret) .skip)) (.seq (.seq (.ops [.fa 11 1 (.t 2), .ld 12 1 false (.t 11), .fa 13 1 (.t 3), .ld 14 1 false (.t 13), .call (some 15) 38 [(.t 12), (.t 14)], .not 16 (.t 15)]) (.cond (.t 16) (.seq (.ops [.asg 4 (kB false)]) .ret) .skip)) (.seq (.seq (.ops [.fa 17 2 (.t 2), .ld 18 1 false (.t 17), .fa 19 2 (.t 3), .ld 20 1 false (.t 19), .call (some 21) 25 [(.t 18), (.t 20)], .not 22 (.t 21)]) (.cond (.t 22) (.seq (.ops [.asg 4 (kB false)]) .ret) .skip)) (.seq (.seq (.ops [.fa 23 3 (.t 2), .ld 24 1 false (.t 23), .fa 25 3 (.t 3), .ld 26 1 false (.t 25), .call (some 27) 39 [(.t 24), (.t 26)], .not 28 (.t 27)]) (.cond (.t 28) (.seq (.ops [.asg 4 (kB false)]) .ret) .skip)) (.seq (.seq (.ops [.fa 29 4 (.t 2), .ld 30 1 false (.t 29), .fa 31 4 (.t 3), .ld 32 1 false (.t 31), .call (some 33) 25 [(.t 30), (.t 32)], .not 34 (.t 33)]) (.cond (.t 34) (.seq (.ops [.asg 4 (kB false)]) .ret) .skip)) (.seq (.seq (.ops [.fa 35 5 (.t 2), .ld 36 1 false (.t 35), .fa 37 5 (.t 3), .ld 38 1 false (.t 37), .call (some 39) 40 [(.t 36), (.t 38)], .not 40 (.t 39)]) (.cond (.t 40) (.seq (.ops [.asg 4 (kB false)]) .ret) .skip)) (.seq (.seq (.ops [.fa 41 6 (.t 2), .ld 42 1 false (.t 41), .fa 43 6 (.t 3), .ld 44 1 false (.t 43), .eqb 45 true (.t 42) (.t 44)]) (.cond (.t 45) (.seq (.ops [.asg 4 (kB false)]) .ret) .skip)) (.seq (.seq (.ops [.fa 46 7 (.t 2), .ld 47 1 false (.t 46), .fa 48 7 (.t 3), .ld 49 1 false (.t 48), .bin 50 .neq (.t 47) (.t 49)]) (.cond (.t 50) (.seq (.ops [.asg 4 (kB false)]) .ret) .skip)) (.seq (.ops [.asg 4 (kB true)]) .ret))))))))))
theorem trwEqPlan : trFn Try.prog 14 = some (acwEqPlan, [.mv 0 (.t 4)], 51) := by kernel_rfl
def qwEqPlan (r : Bool) : Exit → St → Prop := retQ [.mv 0 (.t 4)] fun x _ => x = (fun y => (vB y)) r
def acwEqPSortS_L0 : AC := (.loop (.seq (.seq (.ops [.mv 11 (.t 5), .mv 12 (.t 0), .len 13 (.t 12), .bin 14 .lss (.t 11) (.t 13)]) (.cond (.t 14) .skip (.exit 0))) (.seq (.block 1 (.seq (.dops [[], [], [0, 1], [2], [], [], [4, 5], [6], [3, 7], [8]] [.mv 17 (.t 0), .mv 18 (.t 5), .ia 19 11 (.t 17) (.t 18), .ld 20 11 true (.t 19), .mv 21 (.t 1), .mv 22 (.t 5), .ia 23 11 (.t 21) (.t 22), .ld 24 11 true (.t 23), .call (some 25) 51 [(.t 20), (.t 24)], .not 26 (.t 25)]) (.cond (.t 26) (.seq (.ops [.asg 4 (kB false)]) .ret) .skip))) (.ops [.mv 15 (.t 5), .bin 16 .add (.t 15) (kI 1), .asg 5 (.t 16)]))))
def acwEqPSortS : AC := (.seq (.ops [.asg 4 (kB false)]) (.seq (.seq (.ops [.mv 6 (.t 0), .len 7 (.t 6), .mv 8 (.t 1), .len 9 (.t 8), .bin 10 .neq (.t 7) (.t 9)]) (.cond (.t 10) (.seq (.ops [.asg 4 (kB false)]) .ret) .skip)) (.seq (.seq (.ops [.asg 5 (kI 0)]) (.block 0 acwEqPSortS_L0)) (.seq (.ops [.asg 4 (kB true)]) .ret))))
theorem trwEqPSortS : trFn Try.prog 39 = some (acwEqPSortS, [.mv 0 (.t 4)], 27) := by kernel_rfl
def qwEqPSortS (r : Bool) : Exit → St → Prop := retQ [.mv 0 (.t 4)] fun x _ => x = (fun y => (vB y)) r
def qwEqPSortS_0 (r : Bool) : Exit → St → Prop := (thenK (wkK (avc Try.prog (.seq (.ops [.asg 4 (.c (.d (.b true)))]) .ret) (qwEqPSortS r))) (qwEqPSortS r))
def qwEqPSortS_1 (r : Bool) : Exit → St → Prop := (blockK 0 (qwEqPSortS_0 r))
def stwEqPSortS_L0 (p0 : (List GPSort)) (p1 : (List GPSort)) (x5 : Int) : St := ⟨[(0, (.d (.sl 11 (p0.map cGPSort)))), (1, (.d (.sl 11 (p1.map cGPSort)))), (5, (vI x5))], []⟩
def acwEqPSort : AC := (.seq (.ops [.box 2 99 (.t 0), .box 3 99 (.t 1), .asg 4 (kB false)]) (.seq (.seq (.ops [.fa 5 0 (.t 2), .ld 6 10 true (.t 5), .fa 7 0 (.t 3), .ld 8 10 true (.t 7), .call (some 9) 9 [(.t 6), (.t 8)], .not 10 (.t 9)]) (.cond (.t 10) (.seq (.ops [.asg 4 (kB false)]) .ret) .skip)) (.seq (.seq (.ops [.fa 11 10 (.t 2), .ld 12 1 false (.t 11), .fa 13 10 (.t 3), .ld 14 1 false (.t 13), .eqb 15 true (.t 12) (.t 14)]) (.cond (.t 15) (.seq (.ops [.asg 4 (kB false)]) .ret) .skip)) (.seq (.ops [.asg 4 (kB true)]) .ret))))
theorem trwEqPSort : trFn Try.prog 51 = some (acwEqPSort, [.mv 0 (.t 4)], 16) := by kernel_rfl
def qwEqPSort (r : Bool) : Exit → St → Prop := retQ [.mv 0 (.t 4)] fun x _ => x = (fun y => (vB y)) r
def acwEqStringS_L0 : AC := (.loop (.seq (.seq (.ops [.mv 11 (.t 5), .mv 12 (.t 0), .len 13 (.t 12), .bin 14 .lss (.t 11) (.t 13)]) (.cond (.t 14) .skip (.exit 0))) (.seq (.block 1 (.seq (.dops [[], [], [0, 1], [2], [], [], [4, 5], [6], [3, 7]] [.mv 17 (.t 0), .mv 18 (.t 5), .ia 19 1 (.t 17) (.t 18), .ld 20 1 false (.t 19), .mv 21 (.t 1), .mv 22 (.t 5), .ia 23 1 (.t 21) (.t 22), .ld 24 1 false (.t 23), .bin 25 .neq (.t 20) (.t 24)]) (.cond (.t 25) (.seq (.ops [.asg 4 (kB false)]) .ret) .skip))) (.ops [.mv 15 (.t 5), .bin 16 .add (.t 15) (kI 1), .asg 5 (.t 16)]))))
def acwEqStringS : AC := (.seq (.ops [.asg 4 (kB false)]) (.seq (.seq (.ops [.mv 6 (.t 0), .len 7 (.t 6), .mv 8 (.t 1), .len 9 (.t 8), .bin 10 .neq (.t 7) (.t 9)]) (.cond (.t 10) (.seq (.ops [.asg 4 (kB false)]) .ret) .skip)) (.seq (.seq (.ops [.asg 5 (kI 0)]) (.block 0 acwEqStringS_L0)) (.seq (.ops [.asg 4 (kB true)]) .ret))))
theorem trwEqStringS : trFn Try.prog 40 = some (acwEqStringS, [.mv 0 (.t 4)], 26) := by kernel_rfl
def qwEqStringS (r : Bool) : Exit → St → Prop := retQ [.mv 0 (.t 4)] fun x _ => x = (fun y => (vB y)) r
def qwEqStringS_0 (r : Bool) : Exit → St → Prop := (thenK (wkK (avc Try.prog (.seq (.ops [.asg 4 (.c (.d (.b true)))]) .ret) (qwEqStringS r))) (qwEqStringS r))
def qwEqStringS_1 (r : Bool) : Exit → St → Prop := (blockK 0 (qwEqStringS_0 r))
def stwEqStringS_L0 (p0 : (List (List UInt8))) (p1 : (List (List UInt8))) (x5 : Int) : St := ⟨[(0, (.d (.sl 1 (p0.map cStr)))), (1, (.d (.sl 1 (p1.map cStr)))), (5, (vI x5))], []⟩
def acwEqPExprS_L0 : AC := (.loop (.seq (.seq (.ops [.mv 11 (.t 5), .mv 12 (.t 0), .len 13 (.t 12), .bin 14 .lss (.t 11) (.t 13)]) (.cond (.t 14) .skip (.exit 0))) (.seq (.block 1 (.seq (.dops [[], [], [0, 1], [2], [], [], [4, 5], [6], [3, 7], [8]] [.mv 17 (.t 0), .mv 18 (.t 5), .ia 19 10 (.t 17) (.t 18), .ld 20 10 true (.t 19), .mv 21 (.t 1), .mv 22 (.t 5), .ia 23 10 (.t 21) (.t 22), .ld 24 10 true (.t 23), .call (some 25) 9 [(.t 20), (.t 24)], .not 26 (.t 25)]) (.cond (.t 26) (.seq (.ops [.asg 4 (kB false)]) .ret) .skip))) (.ops [.mv 15 (.t 5), .bin 16 .add (.t 15) (kI 1), .asg 5 (.t 16)]))))
def acwEqPExprS : AC := (.seq (.ops [.asg 4 (kB false)]) (.seq (.seq (.ops [.mv 6 (.t 0), .len 7 (.t 6), .mv 8 (.t 1), .len 9 (.t 8), .bin 10 .neq (.t 7) (.t 9)]) (.cond (.t 10) (.seq (.ops [.asg 4 (kB false)]) .ret) .skip)) (.seq (.seq (.ops [.asg 5 (kI 0)]) (.block 0 acwEqPExprS_L0)) (.seq (.ops [.asg 4 (kB true)]) .ret))))
theorem trwEqPExprS : trFn Try.prog 25 = some (acwEqPExprS, [.mv 0 (.t 4)], 27) := by kernel_rfl
def qwEqPExprS (r : Bool) : Exit → St → Prop := retQ [.mv 0 (.t 4)] fun x _ => x = (fun y => (vB y)) r
def qwEqPExprS_0 (r : Bool) : Exit → St → Prop := (thenK (wkK (avc Try.prog (.seq (.ops [.asg 4 (.c (.d (.b true)))]) .ret) (qwEqPExprS r))) (qwEqPExprS r))
def qwEqPExprS_1 (r : Bool) : Exit → St → Prop := (blockK 0 (qwEqPExprS_0 r))
def stwEqPExprS_L0 (p0 : (List GPExpr)) (p1 : (List GPExpr)) (x5 : Int) : St := ⟨[(0, (.d (.sl 10 (p0.map cGPExpr)))), (1, (.d (.sl 10 (p1.map cGPExpr)))), (5, (vI x5))], []⟩
def acwEqPExprSS_L0 : AC := (.loop (.seq (.seq (.ops [.mv 11 (.t 5), .mv 12 (.t 0), .len 13 (.t 12), .bin 14 .lss (.t 11) (.t 13)]) (.cond (.t 14) .skip (.exit 0))) (.seq (.block 1 (.seq (.dops [[], [], [0, 1], [2], [], [], [4, 5], [6], [3, 7], [8]] [.mv 17 (.t 0), .mv 18 (.t 5), .ia 19 1 (.t 17) (.t 18), .ld 20 1 false (.t 19), .mv 21 (.t 1), .mv 22 (.t 5), .ia 23 1 (.t 21) (.t 22), .ld 24 1 false (.t 23), .call (some 25) 25 [(.t 20), (.t 24)], .not 26 (.t 25)]) (.cond (.t 26) (.seq (.ops [.asg 4 (kB false)]) .ret) .skip))) (.ops [.mv 15 (.t 5), .bin 16 .add (.t 15) (kI 1), .asg 5 (.t 16)]))))
def acwEqPExprSS : AC := (.seq (.ops [.asg 4 (kB false)]) (.seq (.seq (.ops [.mv 6 (.t 0), .len 7 (.t 6), .mv 8 (.t 1), .len 9 (.t 8), .bin 10 .neq (.t 7) (.t 9)]) (.cond (.t 10) (.seq (.ops [.asg 4 (kB false)]) .ret) .skip)) (.seq (.seq (.ops [.asg 5 (kI 0)]) (.block 0 acwEqPExprSS_L0)) (.seq (.ops [.asg 4 (kB true)]) .ret))))
theorem trwEqPExprSS : trFn Try.prog 38 = some (acwEqPExprSS, [.mv 0 (.t 4)], 27) := by kernel_rfl
def qwEqPExprSS (r : Bool) : Exit → St → Prop := retQ [.mv 0 (.t 4)] fun x _ => x = (fun y => (vB y)) r
def qwEqPExprSS_0 (r : Bool) : Exit → St → Prop := (thenK (wkK (avc Try.prog (.seq (.ops [.asg 4 (.c (.d (.b true)))]) .ret) (qwEqPExprSS r))) (qwEqPExprSS r))
def qwEqPExprSS_1 (r : Bool) : Exit → St → Prop := (blockK 0 (qwEqPExprSS_0 r))
def stwEqPExprSS_L0 (p0 : (List (List GPExpr))) (p1 : (List (List GPExpr))) (x5 : Int) : St := ⟨[(0, (.d (.sl 1 (p0.map (cSl 10 cGPExpr))))), (1, (.d (.sl 1 (p1.map (cSl 10 cGPExpr))))), (5, (vI x5))], []⟩
def acwEqIntS_L0 : AC := (.loop (.seq (.seq (.ops [.mv 11 (.t 5), .mv 12 (.t 0), .len 13 (.t 12), .bin 14 .lss (.t 11) (.t 13)]) (.cond (.t 14) .skip (.exit 0))) (.seq (.block 1 (.seq (.dops [[], [], [0, 1], [2], [], [], [4, 5], [6], [3, 7]] [.mv 17 (.t 0), .mv 18 (.t 5), .ia 19 1 (.t 17) (.t 18), .ld 20 1 false (.t 19), .mv 21 (.t 1), .mv 22 (.t 5), .ia 23 1 (.t 21) (.t 22), .ld 24 1 false (.t 23), .bin 25 .neq (.t 20) (.t 24)]) (.cond (.t 25) (.seq (.ops [.asg 4 (kB false)]) .ret) .skip))) (.ops [.mv 15 (.t 5), .bin 16 .add (.t 15) (kI 1), .asg 5 (.t 16)]))))
def acwEqIntS : AC := (.seq (.ops [.asg 4 (kB false)]) (.seq (.seq (.ops [.mv 6 (.t 0), .len 7 (.t 6), .mv 8 (.t 1), .len 9 (.t 8), .bin 10 .neq (.t 7) (.t 9)]) (.cond (.t 10) (.seq (.ops [.asg 4 (kB false)]) .ret) .skip)) (.seq (.seq (.ops [.asg 5 (kI 0)]) (.block 0 acwEqIntS_L0)) (.seq (.ops [.asg 4 (kB true)]) .ret))))
theorem trwEqIntS : trFn Try.prog 37 = some (acwEqIntS, [.mv 0 (.t 4)], 26) := by kernel_rfl
def qwEqIntS (r : Bool) : Exit → St → Prop := retQ [.mv 0 (.t 4)] fun x _ => x = (fun y => (vB y)) r
def qwEqIntS_0 (r : Bool) : Exit → St → Prop := (thenK (wkK (avc Try.prog (.seq (.ops [.asg 4 (.c (.d (.b true)))]) .ret) (qwEqIntS r))) (qwEqIntS r))
def qwEqIntS_1 (r : Bool) : Exit → St → Prop := (blockK 0 (qwEqIntS_0 r))
def stwEqIntS_L0 (p0 : (List Int)) (p1 : (List Int)) (x5 : Int) : St := ⟨[(0, (.d (.sl 1 (p0.map cI)))), (1, (.d (.sl 1 (p1.map cI)))), (5, (vI x5))], []⟩
def acwEqValue : AC := (.seq (.ops [.box 2 30 (.t 0), .box 3 30 (.t 1), .asg 4 (kB false)]) (.seq (.seq (.ops [.fa 5 0 (.t 2), .ld 6 1 false (.t 5), .fa 7 0 (.t 3), .ld 8 1 false (.t 7), .bin 9 .neq (.t 6) (.t 8)]) (.cond (.t 9) (.seq (.ops [.asg 4 (kB false)]) .ret) .skip)) (.seq (.seq (.ops [.fa 10 1 (.t 2), .ld 11 1 false (.t 10), .fa 12 1 (.t 3), .ld 13 1 false (.t 12), .bin 14 .neq (.t 11) (.t 13)]) (.cond (.t 14) (.seq (.ops [.asg 4 (kB false)]) .ret) .skip)) (.seq (.seq (.ops [.fa 15 2 (.t 2), .ld 16 1 false (.t 15), .fa 17 2 (.t 3), .ld 18 1 false (.t 17), .bin 19 .neq (.t 16) (.t 18)]) (.cond (.t 19) (.seq (.ops [.asg 4 (kB false)]) .ret) .skip)) (.seq (.ops [.asg 4 (kB true)]) .ret)))))
theorem trwEqValue : trFn Try.prog 24 = some (acwEqValue, [.mv 0 (.t 4)], 20) := by kernel_rfl
def qwEqValue (r : Bool) : Exit → St → Prop := retQ [.mv 0 (.t 4)] fun x _ => x = (fun y => (vB y)) r
def acsL24Expr_x_L0 : AC := (.loop (.seq (.seq (.ops [.mv 44 (.t 5), .fa 45 9 (.t 3), .ld 46 1 false (.t 45), .len 47 (.t 46), .bin 48 .lss (.t 44) (.t 47)]) (.cond (.t 48) .skip (.exit 0))) (.seq (.block 1 (.ops [.mv 51 (.t 0), .fa 52 9 (.t 3), .ld 53 1 false (.t 52), .mv 54 (.t 5), .ia 55 8 (.t 53) (.t 54), .ld 56 8 true (.t 55), .call (some 57) 31 [(.t 51), (.t 56)], .asg 0 (.t 57)])) (.ops [.mv 49 (.t 5), .bin 50 .add (.t 49) (kI 1), .asg 5 (.t 50)]))))
def acsL24Expr_x : AC := (.seq (.ops [.box 3 34 (.t 1), .asg 4 (.c (.nil 1))]) (.seq (.dops [[], [], [1], [0, 2], [], [4], [3, 5, 3], [], [7], [6, 8, 6], [9, 9, 0, 1, 2, 3, 4, 5, 6, 7, 8, 9]] [.mv 6 (.t 0), .fa 7 0 (.t 3), .ld 8 1 false (.t 7), .call (some 9) 42 [(.t 6), (.t 8)], .fa 10 1 (.t 3), .ld 11 1 false (.t 10), .call (some 12) 42 [(.t 9), (.t 11)], .fa 13 2 (.t 3), .ld 14 1 false (.t 13), .call (some 15) 41 [(.t 12), (.t 14)], .asg 0 (.t 15)]) (.seq (.dops [[], [], [1], [2], [0, 3], [], [5], [6], [4, 7, 4], [], [9], [10], [8, 11, 8], [12, 12, 0, 1, 2, 3, 4, 5, 6, 7, 8, 9, 10, 11, 12]] [.mv 16 (.t 0), .fa 17 3 (.t 3), .fa 18 0 (.t 17), .ld 19 1 false (.t 18), .call (some 20) 42 [(.t 16), (.t 19)], .fa 21 3 (.t 3), .fa 22 1 (.t 21), .ld 23 1 false (.t 22), .call (some 24) 42 [(.t 20), (.t 23)], .fa 25 3 (.t 3), .fa 26 2 (.t 25), .ld 27 1 false (.t 26), .call (some 28) 43 [(.t 24), (.t 27)], .asg 0 (.t 28)]) (.seq (.dops [[], [], [1], [0, 2], [], [4], [3, 5, 3], [], [7], [6, 8, 6], [9, 9, 0, 1, 2, 3, 4, 5, 6, 7, 8, 9]] [.mv 29 (.t 0), .fa 30 6 (.t 3), .ld 31 1 false (.t 30), .call (some 32) 42 [(.t 29), (.t 31)], .fa 33 7 (.t 3), .ld 34 1 false (.t 33), .call (some 35) 42 [(.t 32), (.t 34)], .fa 36 8 (.t 3), .ld 37 1 false (.t 36), .call (some 38) 44 [(.t 35), (.t 37)], .asg 0 (.t 38)]) (.seq (.ops [.mv 39 (.t 0), .fa 40 9 (.t 3), .ld 41 1 false (.t 40), .len 42 (.t 41), .call (some 43) 42 [(.t 39), (.t 42)], .asg 0 (.t 43)]) (.seq (.seq (.ops [.asg 5 (kI 0)]) (.block 0 acsL24Expr_x_L0)) (.seq (.ops [.mv 58 (.t 0), .asg 4 (.t 58)]) .ret)))))))
theorem trsL24Expr_x : trFn Try.prog 18 = some (acsL24Expr_x, [.mv 0 (.t 4)], 59) := by kernel_rfl
def qsL24Expr_x (r : (List Int)) : Exit → St → Prop := retQ [.mv 0 (.t 4)] fun x b => x = (fun (y : (List Int)) => (.osl 2000000 5 1 (y.map cU8))) r ∧ bxHas ((fun (y : (List Int)) => []) r) b
def qsL24Expr_x_0 (r : (List Int)) : Exit → St → Prop := (thenK (wkK (avc Try.prog (.seq (.ops [.mv 58 (.t 0), .asg 4 (.t 58)]) .ret) (qsL24Expr_x r))) (qsL24Expr_x r))
def qsL24Expr_x_1 (r : (List Int)) : Exit → St → Prop := (blockK 0 (qsL24Expr_x_0 r))
def stsL24Expr_x_L0 (p1 : GPExpr) (x0 : (List Int)) (x5 : Int) : St := ⟨[(0, (.osl 0 5 1 (x0.map cU8))), (3, (.ptr 3 0)), (5, (vI x5))], [(3, bGPExpr p1)]⟩
def acsL24Exprs_x_L0 : AC := (.loop (.seq (.seq (.ops [.mv 10 (.t 5), .mv 11 (.t 1), .len 12 (.t 11), .bin 13 .lss (.t 10) (.t 12)]) (.cond (.t 13) .skip (.exit 0))) (.seq (.block 1 (.ops [.mv 16 (.t 0), .mv 17 (.t 1), .mv 18 (.t 5), .ia 19 10 (.t 17) (.t 18), .ld 20 10 true (.t 19), .call (some 21) 18 [(.t 16), (.t 20)], .asg 0 (.t 21)])) (.ops [.mv 14 (.t 5), .bin 15 .add (.t 14) (kI 1), .asg 5 (.t 15)]))))
def acsL24Exprs_x : AC := (.seq (.ops [.asg 4 (.c (.nil 1))]) (.seq (.ops [.mv 6 (.t 0), .mv 7 (.t 1), .len 8 (.t 7), .call (some 9) 42 [(.t 6), (.t 8)], .asg 0 (.t 9)]) (.seq (.seq (.ops [.asg 5 (kI 0)]) (.block 0 acsL24Exprs_x_L0)) (.seq (.ops [.mv 22 (.t 0), .asg 4 (.t 22)]) .ret))))
theorem trsL24Exprs_x : trFn Try.prog 44 = some (acsL24Exprs_x, [.mv 0 (.t 4)], 23) := by kernel_rfl
def qsL24Exprs_x (r : (List Int)) : Exit → St → Prop := retQ [.mv 0 (.t 4)] fun x b => x = (fun (y : (List Int)) => (.osl 2000000 5 1 (y.map cU8))) r ∧ bxHas ((fun (y : (List Int)) => []) r) b
def qsL24Exprs_x_0 (r : (List Int)) : Exit → St → Prop := (thenK (wkK (avc Try.prog (.seq (.ops [.mv 22 (.t 0), .asg 4 (.t 22)]) .ret) (qsL24Exprs_x r))) (qsL24Exprs_x r))
def qsL24Exprs_x_1 (r : (List Int)) : Exit → St → Prop := (blockK 0 (qsL24Exprs_x_0 r))
def stsL24Exprs_x_L0 (p1 : (List GPExpr)) (x0 : (List Int)) (x5 : Int) : St := ⟨[(0, (.osl 0 5 1 (x0.map cU8))), (1, (.d (.sl 10 (p1.map cGPExpr)))), (5, (vI x5))], []⟩
def acsL24Text_x : AC := (.seq (.ops [.asg 4 (.c (.nil 1))]) (.seq (.ops [.mv 5 (.t 0), .mv 6 (.t 1), .lns 7 (.t 6), .call (some 8) 42 [(.t 5), (.t 7)], .mv 9 (.t 1), .app 10 5 1 1 (.t 8) (.t 9), .asg 4 (.t 10)]) .ret))
theorem trsL24Text_x : trFn Try.prog 43 = some (acsL24Text_x, [.mv 0 (.t 4)], 11) := by kernel_rfl
def qsL24Text_x (r : (List Int)) : Exit → St → Prop := retQ [.mv 0 (.t 4)] fun x b => x = (fun (y : (List Int)) => (.osl 2000000 5 1 (y.map cU8))) r ∧ bxHas ((fun (y : (List Int)) => []) r) b
def acsL24Plan_x_L0 : AC := (.loop (.seq (.seq (.ops [.mv 14 (.t 5), .fa 15 0 (.t 3), .ld 16 1 false (.t 15), .len 17 (.t 16), .bin 18 .lss (.t 14) (.t 17)]) (.cond (.t 18) .skip (.exit 0))) (.seq (.block 1 (.ops [.mv 21 (.t 0), .fa 22 0 (.t 3), .ld 23 1 false (.t 22), .mv 24 (.t 5), .ia 25 1 (.t 23) (.t 24), .ld 26 1 false (.t 25), .call (some 27) 42 [(.t 21), (.t 26)], .asg 0 (.t 27)])) (.ops [.mv 19 (.t 5), .bin 20 .add (.t 19) (kI 1), .asg 5 (.t 20)]))))
def acsL24Plan_x_L1 : AC := (.loop (.seq (.seq (.ops [.mv 33 (.t 6), .fa 34 1 (.t 3), .ld 35 1 false (.t 34), .len 36 (.t 35), .bin 37 .lss (.t 33) (.t 36)]) (.cond (.t 37) .skip (.exit 2))) (.seq (.block 3 (.ops [.mv 40 (.t 0), .fa 41 1 (.t 3), .ld 42 1 false (.t 41), .mv 43 (.t 6), .ia 44 1 (.t 42) (.t 43), .ld 45 1 false (.t 44), .call (some 46) 44 [(.t 40), (.t 45)], .asg 0 (.t 46)])) (.ops [.mv 38 (.t 6), .bin 39 .add (.t 38) (kI 1), .asg 6 (.t 39)]))))
def acsL24Plan_x_L2 : AC := (.loop (.seq (.seq (.ops [.mv 56 (.t 7), .fa 57 3 (.t 3), .ld 58 1 false (.t 57), .len 59 (.t 58), .bin 60 .lss (.t 56) (.t 59)]) (.cond (.t 60) .skip (.exit 4))) (.seq (.block 5 (.dops [[], [], [1], [], [2, 3], [4], [5], [0, 6], [], [8], [], [9, 10], [11], [12], [7, 13, 7], [14, 14, 0, 1, 2, 3, 4, 5, 6, 7, 8, 9, 10, 11, 12, 13, 14]] [.mv 63 (.t 0), .fa 64 3 (.t 3), .ld 65 1 false (.t 64), .mv 66 (.t 7), .ia 67 11 (.t 65) (.t 66), .fa 68 0 (.t 67), .ld 69 10 true (.t 68), .call (some 70) 18 [(.t 63), (.t 69)], .fa 71 3 (.t 3), .ld 72 1 false (.t 71), .mv 73 (.t 7), .ia 74 11 (.t 72) (.t 73), .fa 75 10 (.t 74), .ld 76 1 false (.t 75), .call (some 77) 41 [(.t 70), (.t 76)], .asg 0 (.t 77)])) (.ops [.mv 61 (.t 7), .bin 62 .add (.t 61) (kI 1), .asg 7 (.t 62)]))))
def acsL24Plan_x_L3 : AC := (.loop (.seq (.seq (.ops [.mv 87 (.t 8), .fa 88 5 (.t 3), .ld 89 1 false (.t 88), .len 90 (.t 89), .bin 91 .lss (.t 87) (.t 90)]) (.cond (.t 91) .skip (.exit 6))) (.seq (.block 7 (.ops [.mv 94 (.t 0), .fa 95 5 (.t 3), .ld 96 1 false (.t 95), .mv 97 (.t 8), .ia 98 1 (.t 96) (.t 97), .ld 99 1 false (.t 98), .call (some 100) 43 [(.t 94), (.t 99)], .asg 0 (.t 100)])) (.ops [.mv 92 (.t 8), .bin 93 .add (.t 92) (kI 1), .asg 8 (.t 93)]))))
def acsL24Plan_x : AC := (.seq (.ops [.box 3 49 (.t 1), .asg 4 (.c (.nil 1))]) (.seq (.ops [.mv 9 (.t 0), .fa 10 0 (.t 3), .ld 11 1 false (.t 10), .len 12 (.t 11), .call (some 13) 42 [(.t 9), (.t 12)], .asg 0 (.t 13)]) (.seq (.seq (.ops [.asg 5 (kI 0)]) (.block 0 acsL24Plan_x_L0)) (.seq (.ops [.mv 28 (.t 0), .fa 29 1 (.t 3), .ld 30 1 false (.t 29), .len 31 (.t 30), .call (some 32) 42 [(.t 28), (.t 31)], .asg 0 (.t 32)]) (.seq (.seq (.ops [.asg 6 (kI 0)]) (.block 2 acsL24Plan_x_L1)) (.seq (.ops [.mv 47 (.t 0), .fa 48 2 (.t 3), .ld 49 1 false (.t 48), .call (some 50) 44 [(.t 47), (.t 49)], .asg 0 (.t 50)]) (.seq (.ops [.mv 51 (.t 0), .fa 52 3 (.t 3), .ld 53 1 false (.t 52), .len 54 (.t 53), .call (some 55) 42 [(.t 51), (.t 54)], .asg 0 (.t 55)]) (.seq (.seq (.ops [.asg 7 (kI 0)]) (.block 4 acsL24Plan_x_L2)) (.seq (.ops [.mv 78 (.t 0), .fa 79 4 (.t 3), .ld 80 1 false (.t 79), .call (some 81) 44 [(.t 78), (.t 80)], .asg 0 (.t 81)]) (.seq (.ops [.mv 82 (.t 0), .fa 83 5 (.t 3), .ld 84 1 false (.t 83), .len 85 (.t 84), .call (some 86) 42 [(.t 82), (.t 85)], .asg 0 (.t 86)]) (.seq (.seq (.ops [.asg 8 (kI 0)]) (.block 6 acsL24Plan_x_L3)) (.seq (.dops [[], [], [1], [0, 2], [], [4], [3, 5, 3], [6, 6, 0, 1, 2, 3, 4, 5, 6]] [.mv 101 (.t 0), .fa 102 6 (.t 3), .ld 103 1 false (.t 102), .call (some 104) 41 [(.t 101), (.t 103)], .fa 105 7 (.t 3), .ld 106 1 false (.t 105), .call (some 107) 42 [(.t 104), (.t 106)], .asg 4 (.t 107)]) .ret))))))))))))
theorem trsL24Plan_x : trFn Try.prog 31 = some (acsL24Plan_x, [.mv 0 (.t 4)], 108) := by kernel_rfl
def qsL24Plan_x (r : (List Int)) : Exit → St → Prop := retQ [.mv 0 (.t 4)] fun x b => x = (fun (y : (List Int)) => (.osl 2000000 5 1 (y.map cU8))) r ∧ bxHas ((fun (y : (List Int)) => []) r) b
def qsL24Plan_x_0 (r : (List Int)) : Exit → St → Prop := (thenK (wkK (avc Try.prog (.seq (.ops [.mv 28 (.t 0), .fa 29 1 (.t 3), .ld 30 1 false (.t 29), .len 31 (.t 30), .call (some 32) 42 [(.t 28), (.t 31)], .asg 0 (.t 32)]) (.seq (.seq (.ops [.asg 6 (.c (.d (.i .i64 0)))]) (.block 2 acsL24Plan_x_L1)) (.seq (.ops [.mv 47 (.t 0), .fa 48 2 (.t 3), .ld 49 1 false (.t 48), .call (some 50) 44 [(.t 47), (.t 49)], .asg 0 (.t 50)]) (.seq (.ops [.mv 51 (.t 0), .fa 52 3 (.t 3), .ld 53 1 false (.t 52), .len 54 (.t 53), .call (some 55) 42 [(.t 51), (.t 54)], .asg 0 (.t 55)]) (.seq (.seq (.ops [.asg 7 (.c (.d (.i .i64 0)))]) (.block 4 acsL24Plan_x_L2)) (.seq (.ops [.mv 78 (.t 0), .fa 79 4 (.t 3), .ld 80 1 false (.t 79), .call (some 81) 44 [(.t 78), (.t 80)], .asg 0 (.t 81)]) (.seq (.ops [.mv 82 (.t 0), .fa 83 5 (.t 3), .ld 84 1 false (.t 83), .len 85 (.t 84), .call (some 86) 42 [(.t 82), (.t 85)], .asg 0 (.t 86)]) (.seq (.seq (.ops [.asg 8 (.c (.d (.i .i64 0)))]) (.block 6 acsL24Plan_x_L3)) (.seq (.dops [[], [], [1], [0, 2], [], [4], [3, 5, 3], [6, 6, 0, 1, 2, 3, 4, 5, 6]] [.mv 101 (.t 0), .fa 102 6 (.t 3), .ld 103 1 false (.t 102), .call (some 104) 41 [(.t 101), (.t 103)], .fa 105 7 (.t 3), .ld 106 1 false (.t 105), .call (some 107) 42 [(.t 104), (.t 106)], .asg 4 (.t 107)]) .ret))))))))) (qsL24Plan_x r))) (qsL24Plan_x r))
def qsL24Plan_x_1 (r : (List Int)) : Exit → St → Prop := (blockK 0 (qsL24Plan_x_0 r))
def qsL24Plan_x_2 (r : (List Int)) : Exit → St → Prop := (thenK (wkK (avc Try.prog (.seq (.ops [.mv 47 (.t 0), .fa 48 2 (.t 3), .ld 49 1 false (.t 48), .call (some 50) 44 [(.t 47), (.t 49)], .asg 0 (.t 50)]) (.seq (.ops [.mv 51 (.t 0), .fa 52 3 (.t 3), .ld 53 1 false (.t 52), .len 54 (.t 53), .call (some 55) 42 [(.t 51), (.t 54)], .asg 0 (.t 55)]) (.seq (.seq (.ops [.asg 7 (.c (.d (.i .i64 0)))]) (.block 4 acsL24Plan_x_L2)) (.seq (.ops [.mv 78 (.t 0), .fa 79 4 (.t 3), .ld 80 1 false (.t 79), .call (some 81) 44 [(.t 78), (.t 80)], .asg 0 (.t 81)]) (.seq (.ops [.mv 82 (.t 0), .fa 83 5 (.t 3), .ld 84 1 false (.t 83), .len 85 (.t 84), .call (some 86) 42 [(.t 82), (.t 85)], .asg 0 (.t 86)]) (.seq (.seq (.ops [.asg 8 (.c (.d (.i .i64 0)))]) (.block 6 acsL24Plan_x_L3)) (.seq (.dops [[], [], [1], [0, 2], [], [4], [3, 5, 3], [6, 6, 0, 1, 2, 3, 4, 5, 6]] [.mv 101 (.t 0), .fa 102 6 (.t 3), .ld 103 1 false (.t 102), .call (some 104) 41 [(.t 101), (.t 103)], .fa 105 7 (.t 3), .ld 106 1 false (.t 105), .call (some 107) 42 [(.t 104), (.t 106)], .asg 4 (.t 107)]) .ret))))))) (qsL24Plan_x r))) (qsL24Plan_x r))
def qsL24Plan_x_3 (r : (List Int)) : Exit → St → Prop := (blockK 2 (qsL24Plan_x_2 r))
def qsL24Plan_x_4 (r : (List Int)) : Exit → St → Prop := (thenK (wkK (avc Try.prog (.seq (.ops [.mv 78 (.t 0), .fa 79 4 (.t 3), .ld 80 1 false (.t 79), .call (some 81) 44 [(.t 78), (.t 80)], .asg 0 (.t 81)]) (.seq (.ops [.mv 82 (.t 0), .fa 83 5 (.t 3), .ld 84 1 false (.t 83), .len 85 (.t 84), .call (some 86) 42 [(.t 82), (.t 85)], .asg 0 (.t 86)]) (.seq (.seq (.ops [.asg 8 (.c (.d (.i .i64 0)))]) (.block 6 acsL24Plan_x_L3)) (.seq (.dops [[], [], [1], [0, 2], [], [4], [3, 5, 3], [6, 6, 0, 1, 2, 3, 4, 5, 6]] [.mv 101 (.t 0), .fa 102 6 (.t 3), .ld 103 1 false (.t 102), .call (some 104) 41 [(.t 101), (.t 103)], .fa 105 7 (.t 3), .ld 106 1 false (.t 105), .call (some 107) 42 [(.t 104), (.t 106)], .asg 4 (.t 107)]) .ret)))) (qsL24Plan_x r))) (qsL24Plan_x r))
def qsL24Plan_x_5 (r : (List Int)) : Exit → St → Prop := (blockK 4 (qsL24Plan_x_4 r))
def qsL24Plan_x_6 (r : (List Int)) : Exit → St → Prop := (thenK (wkK (avc Try.prog (.seq (.dops [[], [], [1], [0, 2], [], [4], [3, 5, 3], [6, 6, 0, 1, 2, 3, 4, 5, 6]] [.mv 101 (.t 0), .fa 102 6 (.t 3), .ld 103 1 false (.t 102), .call (some 104) 41 [(.t 101), (.t 103)], .fa 105 7 (.t 3), .ld 106 1 false (.t 105), .call (some 107) 42 [(.t 104), (.t 106)], .asg 4 (.t 107)]) .ret) (qsL24Plan_x r))) (qsL24Plan_x r))
def qsL24Plan_x_7 (r : (List Int)) : Exit → St → Prop := (blockK 6 (qsL24Plan_x_6 r))
def stsL24Plan_x_L0 (p1 : GPlan) (x0 : (List Int)) (x5 : Int) : St := ⟨[(0, (.osl 0 5 1 (x0.map cU8))), (3, (.ptr 3 0)), (5, (vI x5))], [(3, bGPlan p1)]⟩
def stsL24Plan_x_L1 (p1 : GPlan) (x0_5 : (List Int)) (x6 : Int) : St := ⟨[(0, (.osl 0 5 1 (x0_5.map cU8))), (3, (.ptr 3 0)), (6, (vI x6))], [(3, bGPlan p1)]⟩
def stsL24Plan_x_L2 (p1 : GPlan) (x0_10 : (List Int)) (x7 : Int) : St := ⟨[(0, (.osl 0 5 1 (x0_10.map cU8))), (3, (.ptr 3 0)), (7, (vI x7))], [(3, bGPlan p1)]⟩
def stsL24Plan_x_L3 (p1 : GPlan) (x0_17 : (List Int)) (x8 : Int) : St := ⟨[(0, (.osl 0 5 1 (x0_17.map cU8))), (3, (.ptr 3 0)), (8, (vI x8))], [(3, bGPlan p1)]⟩
def acsL24Flag_x : AC := (.seq (.ops [.asg 4 (.c (.nil 1))]) (.seq (.seq (.ops [.mv 5 (.t 1)]) (.cond (.t 5) (.seq (.ops [.mv 6 (.t 0), .call (some 7) 42 [(.t 6), (kI 1)], .asg 4 (.t 7)]) .ret) .skip)) (.seq (.ops [.mv 8 (.t 0), .call (some 9) 42 [(.t 8), (kI 0)], .asg 4 (.t 9)]) .ret)))
theorem trsL24Flag_x : trFn Try.prog 41 = some (acsL24Flag_x, [.mv 0 (.t 4)], 10) := by kernel_rfl
def qsL24Flag_x (r : (List Int)) : Exit → St → Prop := retQ [.mv 0 (.t 4)] fun x b => x = (fun (y : (List Int)) => (.osl 2000000 5 1 (y.map cU8))) r ∧ bxHas ((fun (y : (List Int)) => []) r) b
theorem koGValue (x : GValue) (h : ∀ d ∈ cGValue x, OkD d) : okGValue x := ⟨ko_i _ (ko_sub h 0 1), ko_i _ (ko_sub h 1 1), ko_s _ (ko_sub h 2 1)⟩
mutual
theorem koGPExpr : ∀ x : GPExpr, (∀ d ∈ cGPExpr x, OkD d) → okGPExpr x
  | ⟨a0, a1, a2, a3, a4, a5, a6, a7⟩, h0 => by
    rw [cGPExpr_eq] at h0
    have h : ∀ d ∈ oGPExpr ⟨a0, a1, a2, a3, a4, a5, a6, a7⟩, OkD d := h0
    unfold okGPExpr
    exact ⟨ko_i _ (ko_sub h 0 1), ko_i _ (ko_sub h 1 1), trivial, koGValue a3 (ko_sub h 3 3), ko_i _ (ko_sub h 6 1), ko_i _ (ko_sub h 7 1), ⟨by simpa using (ko_len (ko_sub h 8 1)).1, koLGPExpr a6 (ko_len (ko_sub h 8 1)).2⟩, ⟨by simpa using (ko_len (ko_sub h 9 1)).1, koLGPlan a7 (ko_len (ko_sub h 9 1)).2⟩⟩
theorem koGPSort : ∀ x : GPSort, (∀ d ∈ cGPSort x, OkD d) → okGPSort x
  | ⟨a0, a1⟩, h0 => by
    rw [cGPSort_eq] at h0
    have h : ∀ d ∈ oGPSort ⟨a0, a1⟩, OkD d := h0
    unfold okGPSort
    exact ⟨koGPExpr a0 (by rw [cGPExpr_eq]; exact (ko_sub h 0 10)), trivial⟩
theorem koGPlan : ∀ x : GPlan, (∀ d ∈ cGPlan x, OkD d) → okGPlan x
  | ⟨a0, a1, a2, a3, a4, a5, a6, a7⟩, h0 => by
    rw [cGPlan_eq] at h0
    have h : ∀ d ∈ oGPlan ⟨a0, a1, a2, a3, a4, a5, a6, a7⟩, OkD d := h0
    unfold okGPlan
    exact ⟨ko_l _ (fun y hy => ko_i _ hy) (ko_sub h 0 1), ⟨by simpa using (ko_len (ko_sub h 1 1)).1, koLLGPExpr a1 (ko_len (ko_sub h 1 1)).2⟩, ⟨by simpa using (ko_len (ko_sub h 2 1)).1, koLGPExpr a2 (ko_len (ko_sub h 2 1)).2⟩, ⟨by simpa using (ko_len (ko_sub h 3 1)).1, koLGPSort a3 (ko_len (ko_sub h 3 1)).2⟩, ⟨by simpa using (ko_len (ko_sub h 4 1)).1, koLGPExpr a4 (ko_len (ko_sub h 4 1)).2⟩, ko_l _ (fun y hy => ko_s _ hy) (ko_sub h 5 1), trivial, ko_i _ (ko_sub h 7 1)⟩
theorem koLGPExpr : ∀ l : List GPExpr, (∀ x ∈ l.map cGPExpr, ∀ d ∈ x, OkD d) → okLGPExpr l
  | [], _ => by unfold okLGPExpr; trivial
  | x :: l, h => by
    unfold okLGPExpr
    exact ⟨koGPExpr x (h _ (by simp)), koLGPExpr l fun y hy => h y (List.mem_cons_of_mem _ hy)⟩
theorem koLGPSort : ∀ l : List GPSort, (∀ x ∈ l.map cGPSort, ∀ d ∈ x, OkD d) → okLGPSort l
  | [], _ => by unfold okLGPSort; trivial
  | x :: l, h => by
    unfold okLGPSort
    exact ⟨koGPSort x (h _ (by simp)), koLGPSort l fun y hy => h y (List.mem_cons_of_mem _ hy)⟩
theorem koLGPlan : ∀ l : List GPlan, (∀ x ∈ l.map cGPlan, ∀ d ∈ x, OkD d) → okLGPlan l
  | [], _ => by unfold okLGPlan; trivial
  | x :: l, h => by
    unfold okLGPlan
    exact ⟨koGPlan x (h _ (by simp)), koLGPlan l fun y hy => h y (List.mem_cons_of_mem _ hy)⟩
theorem koLLGPExpr : ∀ l : List (List GPExpr), (∀ x ∈ l.map (cSl 10 cGPExpr), ∀ d ∈ x, OkD d) → okLLGPExpr l
  | [], _ => by unfold okLLGPExpr; trivial
  | x :: l, h => by
    unfold okLLGPExpr
    have h1 : ∀ d ∈ cSl 10 cGPExpr x, OkD d := h _ (by simp)
    exact ⟨⟨by simpa using (ko_len h1).1, koLGPExpr x (ko_len h1).2⟩, koLLGPExpr l fun y hy => h y (List.mem_cons_of_mem _ hy)⟩
end
theorem de3 {l : List D} (h : WtC Try.prog 3 l) : ∃ x : Int, l = cI x := (wt_i h (k := .i64) (by kernel_rfl))
theorem de4 {l : List D} (h : WtC Try.prog 4 l) : ∃ x : Bool, l = cB x := (wt_b h (by kernel_rfl))
theorem de9 {l : List D} (h : WtC Try.prog 9 l) : ∃ x : (List UInt8), l = cStr x := (wt_s h (by kernel_rfl))
theorem de23 {l : List D} (h : WtC Try.prog 23 l) : ∃ x : GValue, l = cGValue x := by
  obtain ⟨x0, e0⟩ := de3 (wt_fld h 0 (off := 0) (n := 1) (by kernel_rfl))
  obtain ⟨x1, e1⟩ := de3 (wt_fld h 1 (off := 1) (n := 1) (by kernel_rfl))
  obtain ⟨x2, e2⟩ := de9 (wt_fld h 2 (off := 2) (n := 1) (by kernel_rfl))
  exact ⟨⟨x0, x1, x2⟩, (dr1 (m := 1) (by kernel_rfl) e0 (dr1 (m := 2) (by kernel_rfl) e1 (dr1 (m := 3) (by kernel_rfl) e2 (dr0 (wt_len h (n := 3) (by kernel_rfl))))))⟩
theorem de38 {l : List D} (h : WtC Try.prog 38 l) : ∃ x : (List Int), l = (cSl 1 cI) x := (wt_sl h (e := 3) (n := 1) (c := cI) (by kernel_rfl) (by kernel_rfl) fun x hx => de3 hx)
theorem de41 {l : List D} (h : WtC Try.prog 41 l) : ∃ x : (List (List UInt8)), l = (cSl 1 cStr) x := (wt_sl h (e := 9) (n := 1) (c := cStr) (by kernel_rfl) (by kernel_rfl) fun x hx => de9 hx)
def DS24 (n : Nat) : Prop := ∀ m : List D, SizeOf.sizeOf m ≤ n → (WtC Try.prog 24 m → ∃ x : (List GPExpr), m = (cSl 10 cGPExpr) x) ∧ (WtC Try.prog 25 m → ∃ x : (List GPlan), m = (cSl 8 cGPlan) x) ∧ (WtC Try.prog 39 m → ∃ x : (List (List GPExpr)), m = (cSl 1 (cSl 10 cGPExpr)) x) ∧ (WtC Try.prog 40 m → ∃ x : (List GPSort), m = (cSl 11 cGPSort) x)
theorem DS24_le {n m : Nat} (h : DS24 n) (hm : m ≤ n) : DS24 m := fun l hl => h l (Nat.le_trans hl hm)
theorem de27_ {l : List D} (H : DS24 (SizeOf.sizeOf l)) (h : WtC Try.prog 27 l) : ∃ x : GPExpr, l = cGPExpr x := by
  obtain ⟨x0, e0⟩ := de3 (wt_fld h 0 (off := 0) (n := 1) (tf := 3) (by kernel_rfl))
  obtain ⟨x1, e1⟩ := de3 (wt_fld h 1 (off := 1) (n := 1) (tf := 3) (by kernel_rfl))
  obtain ⟨x2, e2⟩ := de4 (wt_fld h 2 (off := 2) (n := 1) (tf := 4) (by kernel_rfl))
  obtain ⟨x3, e3⟩ := de23 (wt_fld h 3 (off := 3) (n := 3) (tf := 23) (by kernel_rfl))
  obtain ⟨x4, e4⟩ := de3 (wt_fld h 4 (off := 6) (n := 1) (tf := 3) (by kernel_rfl))
  obtain ⟨x5, e5⟩ := de3 (wt_fld h 5 (off := 7) (n := 1) (tf := 3) (by kernel_rfl))
  obtain ⟨x6, e6⟩ := (H _ (size_sub l 8 1)).1 (wt_fld h 6 (off := 8) (n := 1) (tf := 24) (by kernel_rfl))
  obtain ⟨x7, e7⟩ := (H _ (size_sub l 9 1)).2.1 (wt_fld h 7 (off := 9) (n := 1) (tf := 25) (by kernel_rfl))
  exact ⟨⟨x0, x1, x2, x3, x4, x5, x6, x7⟩, (show l = oGPExpr ⟨x0, x1, x2, x3, x4, x5, x6, x7⟩ from (dr1 (m := 1) (by kernel_rfl) e0 (dr1 (m := 2) (by kernel_rfl) e1 (dr1 (m := 3) (by kernel_rfl) e2 (dr1 (m := 6) (by kernel_rfl) e3 (dr1 (m := 7) (by kernel_rfl) e4 (dr1 (m := 8) (by kernel_rfl) e5 (dr1 (m := 9) (by kernel_rfl) e6 (dr1 (m := 10) (by kernel_rfl) e7 (dr0 (wt_len h (n := 10) (by kernel_rfl)))))))))))).trans (cGPExpr_eq _).symm⟩
theorem de97_ {l : List D} (H : DS24 (SizeOf.sizeOf l)) (h : WtC Try.prog 97 l) : ∃ x : GPSort, l = cGPSort x := by
  obtain ⟨x0, e0⟩ := de27_ (DS24_le H (size_sub l 0 10)) (wt_fld h 0 (off := 0) (n := 10) (tf := 27) (by kernel_rfl))
  rw [cGPExpr_eq] at e0
  obtain ⟨x1, e1⟩ := de4 (wt_fld h 1 (off := 10) (n := 1) (tf := 4) (by kernel_rfl))
  exact ⟨⟨x0, x1⟩, (show l = oGPSort ⟨x0, x1⟩ from (dr1 (m := 10) (by kernel_rfl) e0 (dr1 (m := 11) (by kernel_rfl) e1 (dr0 (wt_len h (n := 11) (by kernel_rfl)))))).trans (cGPSort_eq _).symm⟩
theorem de43_ {l : List D} (H : DS24 (SizeOf.sizeOf l)) (h : WtC Try.prog 43 l) : ∃ x : GPlan, l = cGPlan x := by
  obtain ⟨x0, e0⟩ := de38 (wt_fld h 0 (off := 0) (n := 1) (tf := 38) (by kernel_rfl))
  obtain ⟨x1, e1⟩ := (H _ (size_sub l 1 1)).2.2.1 (wt_fld h 1 (off := 1) (n := 1) (tf := 39) (by kernel_rfl))
  obtain ⟨x2, e2⟩ := (H _ (size_sub l 2 1)).1 (wt_fld h 2 (off := 2) (n := 1) (tf := 24) (by kernel_rfl))
  obtain ⟨x3, e3⟩ := (H _ (size_sub l 3 1)).2.2.2 (wt_fld h 3 (off := 3) (n := 1) (tf := 40) (by kernel_rfl))
  obtain ⟨x4, e4⟩ := (H _ (size_sub l 4 1)).1 (wt_fld h 4 (off := 4) (n := 1) (tf := 24) (by kernel_rfl))
  obtain ⟨x5, e5⟩ := de41 (wt_fld h 5 (off := 5) (n := 1) (tf := 41) (by kernel_rfl))
  obtain ⟨x6, e6⟩ := de4 (wt_fld h 6 (off := 6) (n := 1) (tf := 4) (by kernel_rfl))
  obtain ⟨x7, e7⟩ := de3 (wt_fld h 7 (off := 7) (n := 1) (tf := 3) (by kernel_rfl))
  exact ⟨⟨x0, x1, x2, x3, x4, x5, x6, x7⟩, (show l = oGPlan ⟨x0, x1, x2, x3, x4, x5, x6, x7⟩ from (dr1 (m := 1) (by kernel_rfl) e0 (dr1 (m := 2) (by kernel_rfl) e1 (dr1 (m := 3) (by kernel_rfl) e2 (dr1 (m := 4) (by kernel_rfl) e3 (dr1 (m := 5) (by kernel_rfl) e4 (dr1 (m := 6) (by kernel_rfl) e5 (dr1 (m := 7) (by kernel_rfl) e6 (dr1 (m := 8) (by kernel_rfl) e7 (dr0 (wt_len h (n := 8) (by kernel_rfl)))))))))))).trans (cGPlan_eq _).symm⟩
theorem DS24_all : ∀ n, DS24 n := by
  intro n
  induction n with
  | zero =>
    intro m hm
    have : m = [] := by cases m with | nil => rfl | cons x l => simp at hm
    subst this
    exact ⟨fun h => by obtain ⟨ls, hl, _⟩ := wt_sl0 h (e := 27) (n := 10) (by kernel_rfl) (by kernel_rfl); simp at hl, fun h => by obtain ⟨ls, hl, _⟩ := wt_sl0 h (e := 43) (n := 8) (by kernel_rfl) (by kernel_rfl); simp at hl, fun h => by obtain ⟨ls, hl, _⟩ := wt_sl0 h (e := 24) (n := 1) (by kernel_rfl) (by kernel_rfl); simp at hl, fun h => by obtain ⟨ls, hl, _⟩ := wt_sl0 h (e := 97) (n := 11) (by kernel_rfl) (by kernel_rfl); simp at hl⟩
  | succ n ih =>
    intro m hm
    refine ⟨?_, ?_, ?_, ?_⟩
    · intro h
      obtain ⟨ls, rfl, hx⟩ := wt_sl0 h (e := 27) (n := 10) (by kernel_rfl) (by kernel_rfl)
      have H : ∀ x ∈ ls, ∃ y : GPExpr, x = cGPExpr y := fun x hm2 => de27_ (DS24_le ih (by have := size_mem (sz := 10) hm2; omega)) (hx x hm2)
      obtain ⟨ys, rfl⟩ := ex_map H
      exact ⟨ys, rfl⟩
    · intro h
      obtain ⟨ls, rfl, hx⟩ := wt_sl0 h (e := 43) (n := 8) (by kernel_rfl) (by kernel_rfl)
      have H : ∀ x ∈ ls, ∃ y : GPlan, x = cGPlan y := fun x hm2 => de43_ (DS24_le ih (by have := size_mem (sz := 8) hm2; omega)) (hx x hm2)
      obtain ⟨ys, rfl⟩ := ex_map H
      exact ⟨ys, rfl⟩
    · intro h
      obtain ⟨ls, rfl, hx⟩ := wt_sl0 h (e := 24) (n := 1) (by kernel_rfl) (by kernel_rfl)
      have H : ∀ x ∈ ls, ∃ y : (List GPExpr), x = (cSl 10 cGPExpr) y := fun x hm2 => (ih x (by have := size_mem (sz := 1) hm2; omega)).1 (hx x hm2)
      obtain ⟨ys, rfl⟩ := ex_map H
      exact ⟨ys, rfl⟩
    · intro h
      obtain ⟨ls, rfl, hx⟩ := wt_sl0 h (e := 97) (n := 11) (by kernel_rfl) (by kernel_rfl)
      have H : ∀ x ∈ ls, ∃ y : GPSort, x = cGPSort y := fun x hm2 => de97_ (DS24_le ih (by have := size_mem (sz := 11) hm2; omega)) (hx x hm2)
      obtain ⟨ys, rfl⟩ := ex_map H
      exact ⟨ys, rfl⟩
theorem de24 {l : List D} (h : WtC Try.prog 24 l) : ∃ x : (List GPExpr), l = (cSl 10 cGPExpr) x := (DS24_all _ l (Nat.le_refl _)).1 h
theorem de25 {l : List D} (h : WtC Try.prog 25 l) : ∃ x : (List GPlan), l = (cSl 8 cGPlan) x := (DS24_all _ l (Nat.le_refl _)).2.1 h
theorem de39 {l : List D} (h : WtC Try.prog 39 l) : ∃ x : (List (List GPExpr)), l = (cSl 1 (cSl 10 cGPExpr)) x := (DS24_all _ l (Nat.le_refl _)).2.2.1 h
theorem de40 {l : List D} (h : WtC Try.prog 40 l) : ∃ x : (List GPSort), l = (cSl 11 cGPSort) x := (DS24_all _ l (Nat.le_refl _)).2.2.2 h
theorem de27 {l : List D} (h : WtC Try.prog 27 l) : ∃ x : GPExpr, l = cGPExpr x := de27_ (DS24_all _) h
theorem de97 {l : List D} (h : WtC Try.prog 97 l) : ∃ x : GPSort, l = cGPSort x := de97_ (DS24_all _) h
theorem de43 {l : List D} (h : WtC Try.prog 43 l) : ∃ x : GPlan, l = cGPlan x := de43_ (DS24_all _) h
theorem OK_gStrings_Builder_String_x (c0_1 : (List Int)) : FOkB Try.prog 23 [(.ptr 1000000 0)] [(1000000, [(.bp 1000000 66), (.osl 6000001 5 1 (c0_1.map cU8))])] (fun (y : (List UInt8) × (List Int)) => (vS y.1)) (fun (y : (List UInt8) × (List Int)) => [(1000000, [(.bp 1000000 66), (.d (.sl 1 (y.2.map cU8)))])]) (gStrings_Builder_String_x c0_1) := by
 intro r h
 rw [gStrings_Builder_String_x] at h
 obtain ⟨y, hy, h⟩ := Option.bind_eq_some_iff.1 h
 injection h with h
 subst h
 exact acalls_bstr 1000000 6000001 c0_1 y hy (bstr_of 66 bstr_row_23 bstr_nil_23 bstr_noroom_23 bstr_room_23)
theorem OK_gStrings_Builder_copyCheck_x (c0_1 : (List Int)) : FOkB Try.prog 57 [(.ptr 1000000 0)] [(1000000, [(.bp 1000000 66), (.osl 6000001 5 1 (c0_1.map cU8))])] (fun (y : Unit) => (.tup [])) (fun (y : Unit) => [(1000000, [(.bp 1000000 66), (.osl 6000001 5 1 (c0_1.map cU8))])]) (gStrings_Builder_copyCheck_x c0_1) := by
 intro r _
 exact acalls_cc 1000000 [.osl 6000001 5 1 (c0_1.map cU8)] cc_used_57 cc_fresh_57_66 rfl
theorem OK_gStrings_Builder_WriteString_x (c0_1 : (List Int)) (p1 : (List UInt8)) : FOkB Try.prog 54 [(.ptr 1000000 0), (vS p1)] [(1000000, [(.bp 1000000 66), (.osl 6000001 5 1 (c0_1.map cU8))])] (fun (y : Int × (List Int)) => (.tup [(vI y.1), .top])) (fun (y : Int × (List Int)) => [(1000000, [(.bp 1000000 66), (.osl 6000001 5 1 (y.2.map cU8))])]) (gStrings_Builder_WriteString_x c0_1 p1) := by
 intro r h
 rw [gStrings_Builder_WriteString_x] at h
 refine acalls_of_fn trgStrings_Builder_WriteString_x (Nat.le_of_ble_eq_true rfl) (by intro n hn; simp at hn; omega) ?_
 show avc Try.prog acgStrings_Builder_WriteString_x (qgStrings_Builder_WriteString_x _) ⟨[(0, (.ptr 1000000 0)), (1, (vS p1))], [(1000000, [(.bp 1000000 66), (.osl 6000001 5 1 (c0_1.map cU8))])]⟩
 delta acgStrings_Builder_WriteString_x
 refine so ?_
 let a0 : St := ⟨[(5, .top), (4, (vI 0)), (0, (.ptr 1000000 0)), (1, (vS p1))], [(1000000, [(.bp 1000000 66), (.osl 6000001 5 1 (c0_1.map cU8))])]⟩
 refine st 2 a0 (nx (so ?_))
 let a1 : St := a0.p [(6, (.ptr 1000000 0))]
 refine st 1 a1 ?_
 refine callg_step ⟨[(1000000, 1000000)], [(6000001, 6000001)], [], [], [], [(6000001, 6000001)], [], [6000001]⟩ (m := gStrings_Builder_copyCheck_x c0_1) (S' := fun (y : Unit) => ⟨(7, (.tup [])) :: a1.env, [(1000000, [(.bp 1000000 66), (.osl 6000001 5 1 (c0_1.map cU8))])]⟩) h (OK_gStrings_Builder_copyCheck_x c0_1) (by kernel_rfl) (by kernel_rfl) (by kernel_rfl) (by kernel_rfl) (fun y => by kernel_rfl) (fun y => by kernel_rfl) ?_
 clear h; intro y1 h
 refine nx (so ?_)
 let a2 : St := ⟨(13, (vS p1)) :: (12, (.osl 6000001 5 1 (c0_1.map cU8))) :: (11, (.ptr 1000000 1)) :: (10, (.ptr 1000000 0)) :: (9, (.ptr 1000000 0)) :: (8, (.ptr 1000000 0)) :: (7, (.tup [])) :: a1.env, [(1000000, [(.bp 1000000 66), (.osl 6000001 5 1 (c0_1.map cU8))])]⟩
 refine st 6 a2 ?_
 refine app_step (t := 6000001) (l := c0_1) (m := (toBytes p1)) (f := cU8) (S' := fun y => ⟨[(14, (.osl 14 5 1 (y.map cU8))), (13, (vS p1)), (12, (.d (.sl 1 (c0_1.map cU8)))), (11, (.ptr 1000000 1)), (10, (.ptr 1000000 0)), (9, (.ptr 1000000 0)), (8, (.ptr 1000000 0)), (7, (.tup [])), (6, (.ptr 1000000 0)), (5, .top), (4, (vI 0)), (0, (.ptr 1000000 0)), (1, (vS p1))], [(1000000, [(.bp 1000000 66), (.d (.sl 1 (c0_1.map cU8)))])]⟩) h (by kernel_rfl) (by kernel_rfl) (by kernel_rfl) (by kernel_rfl) (fun y => by kernel_rfl) ?_
 clear h; intro y2 h
 let a3 : St := ⟨[(16, (.ptr 1000000 1)), (15, (.ptr 1000000 0)), (14, (.osl 14 5 1 (y2.map cU8))), (13, (vS p1)), (12, (.d (.sl 1 (c0_1.map cU8)))), (11, (.ptr 1000000 1)), (10, (.ptr 1000000 0)), (9, (.ptr 1000000 0)), (8, (.ptr 1000000 0)), (7, (.tup [])), (6, (.ptr 1000000 0)), (5, .top), (4, (vI 0)), (0, (.ptr 1000000 0)), (1, (vS p1))], [(1000000, [(.bp 1000000 66), (.osl 14 5 1 (y2.map cU8))])]⟩
 refine st 3 a3 (nx (so ?_))
 let a4 : St := a3.p [(5, .top), (4, (vI (p1.length : Int))), (18, (vI (p1.length : Int))), (17, (vS p1))]
 refine st 4 a4 (nx ?_)
 refine ret_wk (s' := ⟨[(4, (vI (p1.length : Int))), (5, .top)], [(1000000, [(.bp 1000000 66), (.osl 6000001 5 1 (y2.map cU8))])]⟩) (wr [(6000001, .old 14)] (es (es er_nil)) (br_cons (c0 := [(.bp 1000000 66), (.osl 14 5 1 (y2.map cU8))]) (by kernel_rfl) (vrs_cons (vr_same (by kernel_rfl) (by kernel_rfl)) (vrs_cons (vr_old (t := 14) (by kernel_rfl) (by kernel_rfl)) (vrs_nil))) br_nil)) ?_
 injection h with h; subst h
 exact retn_step (vs := [(vI (p1.length : Int)), .top]) (by kernel_rfl) ⟨by kernel_rfl, by kernel_rfl, trivial⟩
theorem OKs_iPutVar_L0 : (∀ (x0 : Int) (x3 : (List Int)) (r : (List UInt8)), iPutVar_L0 x0 x3 = some r → avc Try.prog aciPutVar_L0 (qiPutVar_1 r) (stiPutVar_L0 x0 x3)) := by
 refine iPutVar_L0.partial_correctness (fun x0 x3 r => avc Try.prog aciPutVar_L0 (qiPutVar_1 r) (stiPutVar_L0 x0 x3)) ?_
 · intro F_iPutVar_L0 OK_iPutVar_L0 x0 x3 r h
   delta aciPutVar_L0
   refine loop_unroll (si (so ?_))
   let a2 : St := (stiPutVar_L0 x0 x3).p [(6, (vB (decide (128 ≤ x0)))), (5, (.d (.i .u64 x0)))]
   refine st 2 a2 (nx ?_)
   refine cd h (fun h => ?_) fun h => ?_
   refine ki (xi (bi (so ?_)))
   let a3 : St := a2.p [(10, (.d (.i .u8 (IntKind.wrap .u8 ((BitVec.ofInt (IntKind.bits .u8) (IntKind.wrap .u8 x0) ||| BitVec.ofInt (IntKind.bits .u8) 128).toNat : Int))))), (9, (.d (.i .u8 (IntKind.wrap .u8 x0)))), (8, (.d (.i .u64 x0))), (7, (.osl 3 5 1 (x3.map cU8)))]
   refine st 4 a3 (bsl_step (l := ([(IntKind.wrap .u8 ((BitVec.ofInt (IntKind.bits .u8) (IntKind.wrap .u8 x0) ||| BitVec.ofInt (IntKind.bits .u8) 128).toNat : Int))] : List Int)) (f := cU8) (g := cU8) (by kernel_rfl) (fun _ => rfl) (by kernel_rfl) ?_)
   refine app_step (t := 3) (l := x3) (m := ([(IntKind.wrap .u8 ((BitVec.ofInt (IntKind.bits .u8) (IntKind.wrap .u8 x0) ||| BitVec.ofInt (IntKind.bits .u8) 128).toNat : Int))] : List Int)) (f := cU8) (S' := fun y => ⟨[(12, (.osl 12 5 1 (y.map cU8))), (11, (.osl 11 5 1 (([(IntKind.wrap .u8 ((BitVec.ofInt (IntKind.bits .u8) (IntKind.wrap .u8 x0) ||| BitVec.ofInt (IntKind.bits .u8) 128).toNat : Int))] : List Int).map cU8))), (10, (.d (.i .u8 (IntKind.wrap .u8 ((BitVec.ofInt (IntKind.bits .u8) (IntKind.wrap .u8 x0) ||| BitVec.ofInt (IntKind.bits .u8) 128).toNat : Int))))), (9, (.d (.i .u8 (IntKind.wrap .u8 x0)))), (8, (.d (.i .u64 x0))), (7, (.d (.sl 1 (x3.map cU8)))), (6, (vB (decide (128 ≤ x0)))), (5, (.d (.i .u64 x0))), (0, (.d (.i .u64 x0))), (3, (.d (.sl 1 (x3.map cU8))))], []⟩) h (by kernel_rfl) (by kernel_rfl) (by kernel_rfl) (by kernel_rfl) (fun y => by kernel_rfl) ?_
   clear h; intro y1 h
   let a4 : St := ⟨[(3, (.osl 3 5 1 (y1.map cU8))), (12, (.d (.sl 1 (y1.map cU8)))), (11, (.osl 11 5 1 (([(IntKind.wrap .u8 ((BitVec.ofInt (IntKind.bits .u8) (IntKind.wrap .u8 x0) ||| BitVec.ofInt (IntKind.bits .u8) 128).toNat : Int))] : List Int).map cU8))), (10, (.d (.i .u8 (IntKind.wrap .u8 ((BitVec.ofInt (IntKind.bits .u8) (IntKind.wrap .u8 x0) ||| BitVec.ofInt (IntKind.bits .u8) 128).toNat : Int))))), (9, (.d (.i .u8 (IntKind.wrap .u8 x0)))), (8, (.d (.i .u64 x0))), (7, (.d (.sl 1 (x3.map cU8)))), (6, (vB (decide (128 ≤ x0)))), (5, (.d (.i .u64 x0))), (0, (.d (.i .u64 x0))), (3, (.d (.sl 1 (x3.map cU8))))], []⟩
   refine st 1 a4 (nx (oi ?_))
   let a5 : St := a4.p [(0, (.d (.i .u64 (Int.fdiv x0 (2 ^ 7))))), (14, (.d (.i .u64 (Int.fdiv x0 (2 ^ 7))))), (13, (.d (.i .u64 x0)))]
   exact st 3 a5 (ni (bn (loop_back (s' := stiPutVar_L0 (Int.fdiv x0 (2 ^ 7)) y1) (wr [(3, .old 3)] (es (eo 3 er_nil)) br_nil) (OK_iPutVar_L0 (Int.fdiv x0 (2 ^ 7)) y1 _ h))))
   refine ei (te (te (bh (xi (so ?_)))))
   let a6 : St := a2.p [(17, (.d (.i .u8 (IntKind.wrap .u8 x0)))), (16, (.d (.i .u64 x0))), (15, (.osl 3 5 1 (x3.map cU8)))]
   refine st 3 a6 (bsl_step (l := ([(IntKind.wrap .u8 x0)] : List Int)) (f := cU8) (g := cU8) (by kernel_rfl) (fun _ => rfl) (by kernel_rfl) ?_)
   refine app_step (t := 3) (l := x3) (m := ([(IntKind.wrap .u8 x0)] : List Int)) (f := cU8) (S' := fun y => ⟨[(19, (.osl 19 5 1 (y.map cU8))), (18, (.osl 18 5 1 (([(IntKind.wrap .u8 x0)] : List Int).map cU8))), (17, (.d (.i .u8 (IntKind.wrap .u8 x0)))), (16, (.d (.i .u64 x0))), (15, (.d (.sl 1 (x3.map cU8)))), (6, (vB (decide (128 ≤ x0)))), (5, (.d (.i .u64 x0))), (0, (.d (.i .u64 x0))), (3, (.d (.sl 1 (x3.map cU8))))], []⟩) h (by kernel_rfl) (by kernel_rfl) (by kernel_rfl) (by kernel_rfl) (fun y => by kernel_rfl) ?_
   clear h; intro y2 h
   refine vs (fun (y : (List UInt8)) => (vS y)) h (fun y hy => vop_cbs (l := y2) hy (by kernel_rfl) (by kernel_rfl)) fun y3 h => ?_
   let a7 : St := ⟨[(2, (vS y3)), (20, (vS y3)), (19, (.osl 19 5 1 (y2.map cU8))), (18, (.osl 18 5 1 (([(IntKind.wrap .u8 x0)] : List Int).map cU8))), (17, (.d (.i .u8 (IntKind.wrap .u8 x0)))), (16, (.d (.i .u64 x0))), (15, (.d (.sl 1 (x3.map cU8)))), (6, (vB (decide (128 ≤ x0)))), (5, (.d (.i .u64 x0))), (0, (.d (.i .u64 x0))), (3, (.d (.sl 1 (x3.map cU8))))], []⟩
   refine st 1 a7 (nx (ri ?_))
   injection h with h; subst h
   exact ret1_step (v := (vS y3)) (by kernel_rfl) (by kernel_rfl) (by kernel_rfl)
theorem OK_iPutVar_L0 (x0 : Int) (x3 : (List Int)) (r : (List UInt8)) (h : iPutVar_L0 x0 x3 = some r) : avc Try.prog aciPutVar_L0 (qiPutVar_1 r) (stiPutVar_L0 x0 x3) := (OKs_iPutVar_L0) x0 x3 r h
theorem OK_iPutVar (p0 : Int) : FOk Try.prog 55 [(.d (.i .u64 p0))] (fun y => (vS y)) (iPutVar p0) := by
 intro r h
 rw [iPutVar] at h
 refine acalls_of_fn triPutVar (Nat.le_of_ble_eq_true rfl) (by simp) ?_
 show avc Try.prog aciPutVar (qiPutVar _) ⟨[(0, (.d (.i .u64 p0)))], []⟩
 delta aciPutVar
 refine so ?_
 let a0 : St := ⟨[(2, (vS [])), (0, (.d (.i .u64 p0)))], []⟩
 refine st 1 a0 (nx (so (bsl_step (l := ([] : List Int)) (f := cU8) (g := cU8) (by kernel_rfl) (fun _ => rfl) (by kernel_rfl) ?_)))
 let a1 : St := a0.p [(3, (.osl 3 5 1 (([] : List Int).map cU8))), (4, (.d (.sl 1 (([] : List Int).map cU8))))]
 exact st 1 a1 (nx (si (bi (loop_go (s' := stiPutVar_L0 p0 ([] : List Int)) (wr [(3, .old 3)] (es (eo 3 er_nil)) br_nil) (OK_iPutVar_L0 p0 ([] : List Int) _ h)))))
theorem OK_iZig (p0 : Int) : FOk Try.prog 56 [(vI p0)] (fun y => (.d (.i .u64 y))) (iZig p0) := by
 intro r h
 rw [iZig] at h
 refine acalls_of_fn triZig (Nat.le_of_ble_eq_true rfl) (by simp) ?_
 show avc Try.prog aciZig (qiZig _) ⟨[(0, (vI p0))], []⟩
 delta aciZig
 refine so ?_
 let a0 : St := ⟨[(2, (.d (.i .u64 0))), (0, (vI p0))], []⟩
 refine st 1 a0 (nx (so ?_))
 let a1 : St := a0.p [(2, (.d (.i .u64 (IntKind.wrap .u64 ((BitVec.ofInt (IntKind.bits .u64) (IntKind.wrap .u64 ((IntKind.wrap .u64 p0) * 2 ^ 1)) ^^^ BitVec.ofInt (IntKind.bits .u64) (IntKind.wrap .u64 (Int.fdiv p0 (2 ^ 63)))).toNat : Int))))), (9, (.d (.i .u64 (IntKind.wrap .u64 ((BitVec.ofInt (IntKind.bits .u64) (IntKind.wrap .u64 ((IntKind.wrap .u64 p0) * 2 ^ 1)) ^^^ BitVec.ofInt (IntKind.bits .u64) (IntKind.wrap .u64 (Int.fdiv p0 (2 ^ 63)))).toNat : Int))))), (8, (.d (.i .u64 (IntKind.wrap .u64 (Int.fdiv p0 (2 ^ 63)))))), (7, (vI (Int.fdiv p0 (2 ^ 63)))), (6, (vI p0)), (5, (.d (.i .u64 (IntKind.wrap .u64 ((IntKind.wrap .u64 p0) * 2 ^ 1))))), (4, (.d (.i .u64 (IntKind.wrap .u64 p0)))), (3, (vI p0))]
 refine st 8 a1 (nx (ri ?_))
 injection h with h; subst h
 exact ret1_step (v := (.d (.i .u64 (IntKind.wrap .u64 ((BitVec.ofInt (IntKind.bits .u64) (IntKind.wrap .u64 ((IntKind.wrap .u64 p0) * 2 ^ 1)) ^^^ BitVec.ofInt (IntKind.bits .u64) (IntKind.wrap .u64 (Int.fdiv p0 (2 ^ 63)))).toNat : Int))))) (by kernel_rfl) (by kernel_rfl) (by kernel_rfl)
theorem OK_iWriter_number_x (c0_1 : (List Int)) (p1 : Int) : FOkB Try.prog 45 [(.ptr 1000000 0), (vI p1)] [(1000000, [(.bp 1000000 66), (.osl 6000001 5 1 (c0_1.map cU8))])] (fun (y : (List Int)) => (.tup [])) (fun (y : (List Int)) => [(1000000, [(.bp 1000000 66), (.osl 6000001 5 1 (y.map cU8))])]) (iWriter_number_x c0_1 p1) := by
 intro r h
 rw [iWriter_number_x] at h
 refine acalls_of_fn triWriter_number_x (Nat.le_of_ble_eq_true rfl) (by intro n hn; simp at hn; omega) ?_
 show avc Try.prog aciWriter_number_x (qiWriter_number_x _) ⟨[(0, (.ptr 1000000 0)), (1, (vI p1))], [(1000000, [(.bp 1000000 66), (.osl 6000001 5 1 (c0_1.map cU8))])]⟩
 delta aciWriter_number_x
 refine dops_in ?_
 let a0 : St := ⟨[(7, (vI p1)), (6, (.ptr 1000000 0)), (5, (.ptr 1000000 0)), (4, (.ptr 1000000 0)), (0, (.ptr 1000000 0)), (1, (vI p1))], [(1000000, [(.bp 1000000 66), (.osl 6000001 5 1 (c0_1.map cU8))])]⟩
 refine dsts_ok 4 (s' := a0) (by kernel_rfl) (dcall_step (m := iZig p1) (args := [(vI p1)]) (v' := (fun y => (.d (.i .u64 y)))) h (OK_iZig p1) (by kernel_rfl) (by kernel_rfl) (fun _ => rfl) ?_)
 clear h; intro y1 h
 refine dcall_step (m := iPutVar y1) (args := [(.d (.i .u64 y1))]) (v' := (fun y => (vS y))) h (OK_iPutVar y1) (by kernel_rfl) (by kernel_rfl) (fun _ => rfl) ?_
 clear h; intro y2 h
 refine dcallg_step ⟨[(1000000, 1000000)], [(6000001, 6000001)], [], [], [], [(6000001, 6000001)], [], [6000001]⟩ [] [1000000] (m := gStrings_Builder_WriteString_x c0_1 y2) (S' := fun (y : Int × (List Int)) => ⟨(10, (.tup [(vI y.1), .top])) :: (9, (vS y2)) :: (8, (.d (.i .u64 y1))) :: a0.env, [(1000000, [(.bp 1000000 66), (.osl 6000001 5 1 (y.2.map cU8))])]⟩) h (OK_gStrings_Builder_WriteString_x c0_1 y2) (by kernel_rfl) (by kernel_rfl) (by kernel_rfl) (by kernel_rfl) (by kernel_rfl) (fun y => by kernel_rfl) (fun y => by kernel_rfl) ?_
 clear h; intro y3 h
 refine dnil_in (by kernel_rfl) (by kernel_rfl) ?_
 refine retn_wk (s' := ⟨[], [(1000000, [(.bp 1000000 66), (.osl 6000001 5 1 (y3.2.map cU8))])]⟩) (wr [(6000001, .old 6000001)] er_nil (br_cons (c0 := [(.bp 1000000 66), (.osl 6000001 5 1 (y3.2.map cU8))]) (by kernel_rfl) (vrs_cons (vr_same (by kernel_rfl) (by kernel_rfl)) (vrs_cons (vr_old (t := 6000001) (by kernel_rfl) (by kernel_rfl)) (vrs_nil))) br_nil)) ?_
 injection h with h; subst h
 exact ret0_step ⟨by kernel_rfl, by kernel_rfl, trivial⟩
theorem OK_iWriter_flag_x (c0_1 : (List Int)) (p1 : Bool) : FOkB Try.prog 46 [(.ptr 1000000 0), (vB p1)] [(1000000, [(.bp 1000000 66), (.osl 6000001 5 1 (c0_1.map cU8))])] (fun (y : (List Int)) => (.tup [])) (fun (y : (List Int)) => [(1000000, [(.bp 1000000 66), (.osl 6000001 5 1 (y.map cU8))])]) (iWriter_flag_x c0_1 p1) := by
 intro r h
 rw [iWriter_flag_x] at h
 refine acalls_of_fn triWriter_flag_x (Nat.le_of_ble_eq_true rfl) (by intro n hn; simp at hn; omega) ?_
 show avc Try.prog aciWriter_flag_x (qiWriter_flag_x _) ⟨[(0, (.ptr 1000000 0)), (1, (vB p1))], [(1000000, [(.bp 1000000 66), (.osl 6000001 5 1 (c0_1.map cU8))])]⟩
 delta aciWriter_flag_x
 refine so ?_
 let a0 : St := ⟨[(4, (vB p1)), (0, (.ptr 1000000 0)), (1, (vB p1))], [(1000000, [(.bp 1000000 66), (.osl 6000001 5 1 (c0_1.map cU8))])]⟩
 refine st 1 a0 (nx ?_)
 refine cd h (fun h => ?_) fun h => ?_
 refine oi ?_
 let a1 : St := a0.p [(5, (.ptr 1000000 0))]
 refine st 1 a1 ?_
 refine callg_step ⟨[(1000000, 1000000)], [(6000001, 6000001)], [], [], [], [(6000001, 6000001)], [], [6000001]⟩ (m := iWriter_number_x c0_1 1) (S' := fun (y : (List Int)) => ⟨(6, (.tup [])) :: a1.env, [(1000000, [(.bp 1000000 66), (.osl 6000001 5 1 (y.map cU8))])]⟩) h (OK_iWriter_number_x c0_1 1) (by kernel_rfl) (by kernel_rfl) (by kernel_rfl) (by kernel_rfl) (fun y => by kernel_rfl) (fun y => by kernel_rfl) ?_
 clear h; intro y1 h
 refine ni (retn_wk (s' := ⟨[], [(1000000, [(.bp 1000000 66), (.osl 6000001 5 1 (y1.map cU8))])]⟩) (wr [(6000001, .old 6000001)] er_nil (br_cons (c0 := [(.bp 1000000 66), (.osl 6000001 5 1 (y1.map cU8))]) (by kernel_rfl) (vrs_cons (vr_same (by kernel_rfl) (by kernel_rfl)) (vrs_cons (vr_old (t := 6000001) (by kernel_rfl) (by kernel_rfl)) (vrs_nil))) br_nil)) ?_)
 injection h with h; subst h
 exact ret0_step ⟨by kernel_rfl, by kernel_rfl, trivial⟩
 refine oi ?_
 let a2 : St := a0.p [(7, (.ptr 1000000 0))]
 refine st 1 a2 ?_
 refine callg_step ⟨[(1000000, 1000000)], [(6000001, 6000001)], [], [], [], [(6000001, 6000001)], [], [6000001]⟩ (m := iWriter_number_x c0_1 0) (S' := fun (y : (List Int)) => ⟨(8, (.tup [])) :: a2.env, [(1000000, [(.bp 1000000 66), (.osl 6000001 5 1 (y.map cU8))])]⟩) h (OK_iWriter_number_x c0_1 0) (by kernel_rfl) (by kernel_rfl) (by kernel_rfl) (by kernel_rfl) (fun y => by kernel_rfl) (fun y => by kernel_rfl) ?_
 clear h; intro y2 h
 refine ni (retn_wk (s' := ⟨[], [(1000000, [(.bp 1000000 66), (.osl 6000001 5 1 (y2.map cU8))])]⟩) (wr [(6000001, .old 6000001)] er_nil (br_cons (c0 := [(.bp 1000000 66), (.osl 6000001 5 1 (y2.map cU8))]) (by kernel_rfl) (vrs_cons (vr_same (by kernel_rfl) (by kernel_rfl)) (vrs_cons (vr_old (t := 6000001) (by kernel_rfl) (by kernel_rfl)) (vrs_nil))) br_nil)) ?_)
 injection h with h; subst h
 exact ret0_step ⟨by kernel_rfl, by kernel_rfl, trivial⟩
theorem OK_iWriter_text_x (c0_1 : (List Int)) (p1 : (List UInt8)) : FOkB Try.prog 47 [(.ptr 1000000 0), (vS p1)] [(1000000, [(.bp 1000000 66), (.osl 6000001 5 1 (c0_1.map cU8))])] (fun (y : (List Int)) => (.tup [])) (fun (y : (List Int)) => [(1000000, [(.bp 1000000 66), (.osl 6000001 5 1 (y.map cU8))])]) (iWriter_text_x c0_1 p1) := by
 intro r h
 rw [iWriter_text_x] at h
 refine acalls_of_fn triWriter_text_x (Nat.le_of_ble_eq_true rfl) (by intro n hn; simp at hn; omega) ?_
 show avc Try.prog aciWriter_text_x (qiWriter_text_x _) ⟨[(0, (.ptr 1000000 0)), (1, (vS p1))], [(1000000, [(.bp 1000000 66), (.osl 6000001 5 1 (c0_1.map cU8))])]⟩
 delta aciWriter_text_x
 refine so ?_
 let a0 : St := ⟨[(6, (vI (p1.length : Int))), (5, (vS p1)), (4, (.ptr 1000000 0)), (0, (.ptr 1000000 0)), (1, (vS p1))], [(1000000, [(.bp 1000000 66), (.osl 6000001 5 1 (c0_1.map cU8))])]⟩
 refine st 3 a0 ?_
 refine callg_step ⟨[(1000000, 1000000)], [(6000001, 6000001)], [], [], [], [(6000001, 6000001)], [], [6000001]⟩ (m := iWriter_number_x c0_1 (p1.length : Int)) (S' := fun (y : (List Int)) => ⟨(7, (.tup [])) :: a0.env, [(1000000, [(.bp 1000000 66), (.osl 6000001 5 1 (y.map cU8))])]⟩) h (OK_iWriter_number_x c0_1 (p1.length : Int)) (by kernel_rfl) (by kernel_rfl) (by kernel_rfl) (by kernel_rfl) (fun y => by kernel_rfl) (fun y => by kernel_rfl) ?_
 clear h; intro y1 h
 refine nx (oi ?_)
 let a1 : St := ⟨(11, (vS p1)) :: (10, (.ptr 1000000 0)) :: (9, (.ptr 1000000 0)) :: (8, (.ptr 1000000 0)) :: (7, (.tup [])) :: a0.env, [(1000000, [(.bp 1000000 66), (.osl 6000001 5 1 (y1.map cU8))])]⟩
 refine st 4 a1 ?_
 refine callg_step ⟨[(1000000, 1000000)], [(6000001, 6000001)], [], [], [], [(6000001, 6000001)], [], [6000001]⟩ (m := gStrings_Builder_WriteString_x y1 p1) (S' := fun (y : Int × (List Int)) => ⟨(12, (.tup [(vI y.1), .top])) :: a1.env, [(1000000, [(.bp 1000000 66), (.osl 6000001 5 1 (y.2.map cU8))])]⟩) h (OK_gStrings_Builder_WriteString_x y1 p1) (by kernel_rfl) (by kernel_rfl) (by kernel_rfl) (by kernel_rfl) (fun y => by kernel_rfl) (fun y => by kernel_rfl) ?_
 clear h; intro y2 h
 refine ni (retn_wk (s' := ⟨[], [(1000000, [(.bp 1000000 66), (.osl 6000001 5 1 (y2.2.map cU8))])]⟩) (wr [(6000001, .old 6000001)] er_nil (br_cons (c0 := [(.bp 1000000 66), (.osl 6000001 5 1 (y2.2.map cU8))]) (by kernel_rfl) (vrs_cons (vr_same (by kernel_rfl) (by kernel_rfl)) (vrs_cons (vr_old (t := 6000001) (by kernel_rfl) (by kernel_rfl)) (vrs_nil))) br_nil)) ?_)
 injection h with h; subst h
 exact ret0_step ⟨by kernel_rfl, by kernel_rfl, trivial⟩
theorem OKs_iWriter_plan_x_L3 (p1 : GPlan) : (∀ (x81 : Int) (b1000000_1_16 : (List Int)) (r : (List Int)), iWriter_plan_x_L3 p1 x81 b1000000_1_16 = some r → avc Try.prog aciWriter_plan_x_L3 (qiWriter_plan_x_7 r) (stiWriter_plan_x_L3 p1 x81 b1000000_1_16)) := by
 refine iWriter_plan_x_L3.partial_correctness p1 (fun x81 b1000000_1_16 r => avc Try.prog aciWriter_plan_x_L3 (qiWriter_plan_x_7 r) (stiWriter_plan_x_L3 p1 x81 b1000000_1_16)) ?_
 · intro F_iWriter_plan_x_L3 OK_iWriter_plan_x_L3 x81 b1000000_1_16 r h
   delta aciWriter_plan_x_L3
   refine loop_unroll (so ?_)
   let a28 : St := (stiWriter_plan_x_L3 p1 x81 b1000000_1_16).p [(82, (vB (decide (x81 < (p1.names.length : Int)))))]
   refine st 1 a28 (nx (si ?_))
   refine cd h (fun h => ?_) fun h => ?_
   refine ki (xi (si (bi (so (vs (fun (y : (List UInt8)) => (.rp [(.s (bs y))])) h (fun y hy => vop_ia (l := p1.names) (f := cStr) (g := cStr) (k := .i64) hy (fun _ => rfl) (by kernel_rfl) (by kernel_rfl) (by kernel_rfl)) fun y17 h => ?_)))))
   let a29 : St := a28.p [(11, (vS y17)), (84, (vS y17)), (83, (.rp [(.s (bs y17))]))]
   refine st 2 a29 (nx (oi ?_))
   let a30 : St := a29.p [(86, (vS y17)), (85, (.ptr 1000000 0))]
   refine st 2 a30 ?_
   refine callg_step ⟨[(1000000, 1000000)], [(6000001, 6000001)], [], [], [], [(6000001, 6000001)], [], [6000001]⟩ (m := iWriter_text_x b1000000_1_16 y17) (S' := fun (y : (List Int)) => ⟨(87, (.tup [])) :: a30.env, [(3, bGPlan p1), (1000000, [(.bp 1000000 66), (.osl 6000001 5 1 (y.map cU8))])]⟩) h (OK_iWriter_text_x b1000000_1_16 y17) (by kernel_rfl) (by kernel_rfl) (by kernel_rfl) (by kernel_rfl) (fun y => by kernel_rfl) (fun y => by kernel_rfl) ?_
   clear h; intro y18 h
   refine ni (bn (xi (oi ?_)))
   let a31 : St := ⟨(81, (vI (IntKind.wrap .i64 (x81 + 1)))) :: (88, (vI (IntKind.wrap .i64 (x81 + 1)))) :: (87, (.tup [])) :: a30.env, [(3, bGPlan p1), (1000000, [(.bp 1000000 66), (.osl 6000001 5 1 (y18.map cU8))])]⟩
   refine st 2 a31 (ni ?_)
   exact loop_back (s' := stiWriter_plan_x_L3 p1 (IntKind.wrap .i64 (x81 + 1)) y18) (wr [(6000001, .old 6000001)] (es (es (es (es (es er_nil))))) (bs_ (br_cons (c0 := [(.bp 1000000 66), (.osl 6000001 5 1 (y18.map cU8))]) (by kernel_rfl) (vrs_cons (vr_same (by kernel_rfl) (by kernel_rfl)) (vrs_cons (vr_old (t := 6000001) (by kernel_rfl) (by kernel_rfl)) (vrs_nil))) br_nil))) (OK_iWriter_plan_x_L3 (IntKind.wrap .i64 (x81 + 1)) y18 _ h)
   refine ei (te (te (bh (xi (so ?_)))))
   let a32 : St := a28.p [(91, (vB p1.distinct)), (90, (.ptr 3 6)), (89, (.ptr 1000000 0))]
   refine st 3 a32 ?_
   refine callg_step ⟨[(1000000, 1000000)], [(6000001, 6000001)], [], [], [], [(6000001, 6000001)], [], [6000001]⟩ (m := iWriter_flag_x b1000000_1_16 p1.distinct) (S' := fun (y : (List Int)) => ⟨(92, (.tup [])) :: a32.env, [(3, bGPlan p1), (1000000, [(.bp 1000000 66), (.osl 6000001 5 1 (y.map cU8))])]⟩) h (OK_iWriter_flag_x b1000000_1_16 p1.distinct) (by kernel_rfl) (by kernel_rfl) (by kernel_rfl) (by kernel_rfl) (fun y => by kernel_rfl) (fun y => by kernel_rfl) ?_
   clear h; intro y19 h
   refine nx (oi ?_)
   let a33 : St := ⟨(95, (vI p1.limit)) :: (94, (.ptr 3 7)) :: (93, (.ptr 1000000 0)) :: (92, (.tup [])) :: a32.env, [(3, bGPlan p1), (1000000, [(.bp 1000000 66), (.osl 6000001 5 1 (y19.map cU8))])]⟩
   refine st 3 a33 ?_
   refine callg_step ⟨[(1000000, 1000000)], [(6000001, 6000001)], [], [], [], [(6000001, 6000001)], [], [6000001]⟩ (m := iWriter_number_x y19 p1.limit) (S' := fun (y : (List Int)) => ⟨(96, (.tup [])) :: a33.env, [(3, bGPlan p1), (1000000, [(.bp 1000000 66), (.osl 6000001 5 1 (y.map cU8))])]⟩) h (OK_iWriter_number_x y19 p1.limit) (by kernel_rfl) (by kernel_rfl) (by kernel_rfl) (by kernel_rfl) (fun y => by kernel_rfl) (fun y => by kernel_rfl) ?_
   clear h; intro y20 h
   refine ni (retn_wk (s' := ⟨[], [(1000000, [(.bp 1000000 66), (.osl 6000001 5 1 (y20.map cU8))])]⟩) (wr [(6000001, .old 6000001)] er_nil (br_cons (c0 := [(.bp 1000000 66), (.osl 6000001 5 1 (y20.map cU8))]) (by kernel_rfl) (vrs_cons (vr_same (by kernel_rfl) (by kernel_rfl)) (vrs_cons (vr_old (t := 6000001) (by kernel_rfl) (by kernel_rfl)) (vrs_nil))) br_nil)) ?_)
   injection h with h; subst h
   exact ret0_step ⟨by kernel_rfl, by kernel_rfl, trivial⟩
theorem OK_iWriter_plan_x_L3 (p1 : GPlan) (x81 : Int) (b1000000_1_16 : (List Int)) (r : (List Int)) (h : iWriter_plan_x_L3 p1 x81 b1000000_1_16 = some r) : avc Try.prog aciWriter_plan_x_L3 (qiWriter_plan_x_7 r) (stiWriter_plan_x_L3 p1 x81 b1000000_1_16) := (OKs_iWriter_plan_x_L3 p1) x81 b1000000_1_16 r h
theorem OKs_iWriter_plan_x_L2 : (∀ (p1 : GPlan) (x56 : Int) (b1000000_1_10 : (List Int)) (r : (List Int)), iWriter_plan_x_L2 p1 x56 b1000000_1_10 = some r → avc Try.prog aciWriter_plan_x_L2 (qiWriter_plan_x_5 r) (stiWriter_plan_x_L2 p1 x56 b1000000_1_10)) ∧ (∀ (c0_1 : (List Int)) (p1 : (List GPExpr)) (r : (List Int)), iWriter_exprs_x c0_1 p1 = some r → ACalls Try.prog 48 [(.ptr 1000000 0), (.d (.sl 10 (p1.map cGPExpr)))] [(1000000, [(.bp 1000000 66), (.osl 6000001 5 1 (c0_1.map cU8))])] fun x b => x = (fun (y : (List Int)) => (.tup [])) r ∧ bxHas ((fun (y : (List Int)) => [(1000000, [(.bp 1000000 66), (.osl 6000001 5 1 (y.map cU8))])]) r) b) ∧ (∀ (p1 : (List GPExpr)) (x12 : Int) (b1000000_1 : (List Int)) (r : (List Int)), iWriter_exprs_x_L0 p1 x12 b1000000_1 = some r → avc Try.prog aciWriter_exprs_x_L0 (qiWriter_exprs_x_0 r) (stiWriter_exprs_x_L0 p1 x12 b1000000_1)) ∧ (∀ (c0_1 : (List Int)) (p1 : GPExpr) (r : (List Int)), iWriter_expr_x c0_1 p1 = some r → ACalls Try.prog 22 [(.ptr 1000000 0), (vGPExpr p1)] [(1000000, [(.bp 1000000 66), (.osl 6000001 5 1 (c0_1.map cU8))])] fun x b => x = (fun (y : (List Int)) => (.tup [])) r ∧ bxHas ((fun (y : (List Int)) => [(1000000, [(.bp 1000000 66), (.osl 6000001 5 1 (y.map cU8))])]) r) b) ∧ (∀ (p1 : GPExpr) (x53 : Int) (b1000000_1 : (List Int)) (r : (List Int)), iWriter_expr_x_L0 p1 x53 b1000000_1 = some r → avc Try.prog aciWriter_expr_x_L0 (qiWriter_expr_x_0 r) (stiWriter_expr_x_L0 p1 x53 b1000000_1)) ∧ (∀ (c0_1 : (List Int)) (p1 : GPlan) (r : (List Int)), iWriter_plan_x c0_1 p1 = some r → ACalls Try.prog 36 [(.ptr 1000000 0), (vGPlan p1)] [(1000000, [(.bp 1000000 66), (.osl 6000001 5 1 (c0_1.map cU8))])] fun x b => x = (fun (y : (List Int)) => (.tup [])) r ∧ bxHas ((fun (y : (List Int)) => [(1000000, [(.bp 1000000 66), (.osl 6000001 5 1 (y.map cU8))])]) r) b) ∧ (∀ (p1 : GPlan) (x20 : Int) (b1000000_1 : (List Int)) (r : (List Int)), iWriter_plan_x_L0 p1 x20 b1000000_1 = some r → avc Try.prog aciWriter_plan_x_L0 (qiWriter_plan_x_1 r) (stiWriter_plan_x_L0 p1 x20 b1000000_1)) ∧ (∀ (p1 : GPlan) (x36 : Int) (b1000000_1_5 : (List Int)) (r : (List Int)), iWriter_plan_x_L1 p1 x36 b1000000_1_5 = some r → avc Try.prog aciWriter_plan_x_L1 (qiWriter_plan_x_3 r) (stiWriter_plan_x_L1 p1 x36 b1000000_1_5)) := by
 refine iWriter_plan_x_L2.mutual_partial_correctness (fun p1 x56 b1000000_1_10 r => avc Try.prog aciWriter_plan_x_L2 (qiWriter_plan_x_5 r) (stiWriter_plan_x_L2 p1 x56 b1000000_1_10)) (fun c0_1 p1 r => ACalls Try.prog 48 [(.ptr 1000000 0), (.d (.sl 10 (p1.map cGPExpr)))] [(1000000, [(.bp 1000000 66), (.osl 6000001 5 1 (c0_1.map cU8))])] fun x b => x = (fun (y : (List Int)) => (.tup [])) r ∧ bxHas ((fun (y : (List Int)) => [(1000000, [(.bp 1000000 66), (.osl 6000001 5 1 (y.map cU8))])]) r) b) (fun p1 x12 b1000000_1 r => avc Try.prog aciWriter_exprs_x_L0 (qiWriter_exprs_x_0 r) (stiWriter_exprs_x_L0 p1 x12 b1000000_1)) (fun c0_1 p1 r => ACalls Try.prog 22 [(.ptr 1000000 0), (vGPExpr p1)] [(1000000, [(.bp 1000000 66), (.osl 6000001 5 1 (c0_1.map cU8))])] fun x b => x = (fun (y : (List Int)) => (.tup [])) r ∧ bxHas ((fun (y : (List Int)) => [(1000000, [(.bp 1000000 66), (.osl 6000001 5 1 (y.map cU8))])]) r) b) (fun p1 x53 b1000000_1 r => avc Try.prog aciWriter_expr_x_L0 (qiWriter_expr_x_0 r) (stiWriter_expr_x_L0 p1 x53 b1000000_1)) (fun c0_1 p1 r => ACalls Try.prog 36 [(.ptr 1000000 0), (vGPlan p1)] [(1000000, [(.bp 1000000 66), (.osl 6000001 5 1 (c0_1.map cU8))])] fun x b => x = (fun (y : (List Int)) => (.tup [])) r ∧ bxHas ((fun (y : (List Int)) => [(1000000, [(.bp 1000000 66), (.osl 6000001 5 1 (y.map cU8))])]) r) b) (fun p1 x20 b1000000_1 r => avc Try.prog aciWriter_plan_x_L0 (qiWriter_plan_x_1 r) (stiWriter_plan_x_L0 p1 x20 b1000000_1)) (fun p1 x36 b1000000_1_5 r => avc Try.prog aciWriter_plan_x_L1 (qiWriter_plan_x_3 r) (stiWriter_plan_x_L1 p1 x36 b1000000_1_5)) ?_ ?_ ?_ ?_ ?_ ?_ ?_ ?_
 · intro F_iWriter_plan_x_L2 F_iWriter_exprs_x F_iWriter_expr_x OK_iWriter_plan_x_L2 OK_iWriter_exprs_x OK_iWriter_expr_x p1 x56 b1000000_1_10 r h
   delta aciWriter_plan_x_L2
   refine loop_unroll (so ?_)
   let a19 : St := (stiWriter_plan_x_L2 p1 x56 b1000000_1_10).p [(57, (vB (decide (x56 < (p1.order.length : Int)))))]
   refine st 1 a19 (nx (si ?_))
   refine cd h (fun h => ?_) fun h => ?_
   refine ki (xi (si (bi (so (vs (fun (y : GPSort) => (.rp (oGPSort y))) h (fun y hy => vop_ia (l := p1.order) (f := cGPSort) (g := oGPSort) (k := .i64) hy cGPSort_eq (by kernel_rfl) (by kernel_rfl) (by kernel_rfl)) fun y11 h => ?_)))))
   let a20 : St := ⟨(9, (.ptr 9 0)) :: (59, (vGPSort y11)) :: (58, (.rp (oGPSort y11))) :: a19.env, [(9, bGPSort y11), (3, bGPlan p1), (1000000, [(.bp 1000000 66), (.osl 6000001 5 1 (b1000000_1_10.map cU8))])]⟩
   refine st 3 a20 (nx (so ?_))
   let a21 : St := a20.p [(62, (vGPExpr y11.expr)), (61, (.ptr 9 0)), (60, (.ptr 1000000 0))]
   refine st 3 a21 ?_
   refine callg_step ⟨[(1000000, 1000000)], [(6000001, 6000001)], [], [], [], [(6000001, 6000001)], [], [6000001]⟩ (m := F_iWriter_expr_x b1000000_1_10 y11.expr) (S' := fun (y : (List Int)) => ⟨(63, (.tup [])) :: a21.env, [(9, bGPSort y11), (3, bGPlan p1), (1000000, [(.bp 1000000 66), (.osl 6000001 5 1 (y.map cU8))])]⟩) h (OK_iWriter_expr_x b1000000_1_10 y11.expr) (by kernel_rfl) (by kernel_rfl) (by kernel_rfl) (by kernel_rfl) (fun y => by kernel_rfl) (fun y => by kernel_rfl) ?_
   clear h; intro y12 h
   refine nx (oi ?_)
   let a22 : St := ⟨(66, (vB y11.desc)) :: (65, (.ptr 9 10)) :: (64, (.ptr 1000000 0)) :: (63, (.tup [])) :: a21.env, [(9, bGPSort y11), (3, bGPlan p1), (1000000, [(.bp 1000000 66), (.osl 6000001 5 1 (y12.map cU8))])]⟩
   refine st 3 a22 ?_
   refine callg_step ⟨[(1000000, 1000000)], [(6000001, 6000001)], [], [], [], [(6000001, 6000001)], [], [6000001]⟩ (m := iWriter_flag_x y12 y11.desc) (S' := fun (y : (List Int)) => ⟨(67, (.tup [])) :: a22.env, [(9, bGPSort y11), (3, bGPlan p1), (1000000, [(.bp 1000000 66), (.osl 6000001 5 1 (y.map cU8))])]⟩) h (OK_iWriter_flag_x y12 y11.desc) (by kernel_rfl) (by kernel_rfl) (by kernel_rfl) (by kernel_rfl) (fun y => by kernel_rfl) (fun y => by kernel_rfl) ?_
   clear h; intro y13 h
   refine ni (bn (xi (oi ?_)))
   let a23 : St := ⟨(56, (vI (IntKind.wrap .i64 (x56 + 1)))) :: (68, (vI (IntKind.wrap .i64 (x56 + 1)))) :: (67, (.tup [])) :: a22.env, [(9, bGPSort y11), (3, bGPlan p1), (1000000, [(.bp 1000000 66), (.osl 6000001 5 1 (y13.map cU8))])]⟩
   refine st 2 a23 (ni ?_)
   exact loop_back (s' := stiWriter_plan_x_L2 p1 (IntKind.wrap .i64 (x56 + 1)) y13) (wr [(6000001, .old 6000001)] (es (es (es (es (es er_nil))))) (bs_ (br_cons (c0 := [(.bp 1000000 66), (.osl 6000001 5 1 (y13.map cU8))]) (by kernel_rfl) (vrs_cons (vr_same (by kernel_rfl) (by kernel_rfl)) (vrs_cons (vr_old (t := 6000001) (by kernel_rfl) (by kernel_rfl)) (vrs_nil))) br_nil))) (OK_iWriter_plan_x_L2 p1 (IntKind.wrap .i64 (x56 + 1)) y13 _ h)
   refine ei (te (te (bh (xi (so ?_)))))
   let a24 : St := a19.p [(71, (.d (.sl 10 (p1.items.map cGPExpr)))), (70, (.ptr 3 4)), (69, (.ptr 1000000 0))]
   refine st 3 a24 ?_
   refine callg_step ⟨[(1000000, 1000000)], [(6000001, 6000001)], [], [], [], [(6000001, 6000001)], [], [6000001]⟩ (m := F_iWriter_exprs_x b1000000_1_10 p1.items) (S' := fun (y : (List Int)) => ⟨(72, (.tup [])) :: a24.env, [(3, bGPlan p1), (1000000, [(.bp 1000000 66), (.osl 6000001 5 1 (y.map cU8))])]⟩) h (OK_iWriter_exprs_x b1000000_1_10 p1.items) (by kernel_rfl) (by kernel_rfl) (by kernel_rfl) (by kernel_rfl) (fun y => by kernel_rfl) (fun y => by kernel_rfl) ?_
   clear h; intro y14 h
   refine nx (so ?_)
   let a25 : St := ⟨(75, (.d (.sl 1 (p1.names.map cStr)))) :: (74, (.ptr 3 5)) :: (73, (.ptr 1000000 0)) :: (72, (.tup [])) :: a24.env, [(3, bGPlan p1), (1000000, [(.bp 1000000 66), (.osl 6000001 5 1 (y14.map cU8))])]⟩
   refine st 3 a25 (ps (vI (p1.names.length : Int)) (vop_len (sz := 1) (l := p1.names) (f := cStr) (by kernel_rfl) (by kernel_rfl)) ?_)
   refine callg_step ⟨[(1000000, 1000000)], [(6000001, 6000001)], [], [], [], [(6000001, 6000001)], [], [6000001]⟩ (m := iWriter_number_x y14 (p1.names.length : Int)) (S' := fun (y : (List Int)) => ⟨(77, (.tup [])) :: (76, (vI (p1.names.length : Int))) :: a25.env, [(3, bGPlan p1), (1000000, [(.bp 1000000 66), (.osl 6000001 5 1 (y.map cU8))])]⟩) h (OK_iWriter_number_x y14 (p1.names.length : Int)) (by kernel_rfl) (by kernel_rfl) (by kernel_rfl) (by kernel_rfl) (fun y => by kernel_rfl) (fun y => by kernel_rfl) ?_
   clear h; intro y15 h
   refine nx (si (so ?_))
   let a26 : St := ⟨(79, (.d (.sl 1 (p1.names.map cStr)))) :: (78, (.ptr 3 5)) :: (77, (.tup [])) :: (76, (vI (p1.names.length : Int))) :: a25.env, [(3, bGPlan p1), (1000000, [(.bp 1000000 66), (.osl 6000001 5 1 (y15.map cU8))])]⟩
   refine st 2 a26 (ps (vI (p1.names.length : Int)) (vop_len (sz := 1) (l := p1.names) (f := cStr) (by kernel_rfl) (by kernel_rfl)) ?_)
   let a27 : St := a26.p [(81, (vI 0)), (80, (vI (p1.names.length : Int)))]
   refine st 1 a27 (nx (bi ?_))
   exact loop_go (s' := stiWriter_plan_x_L3 p1 0 y15) (wr [(6000001, .old 6000001)] (es (es (es (es (es er_nil))))) (bs_ (br_cons (c0 := [(.bp 1000000 66), (.osl 6000001 5 1 (y15.map cU8))]) (by kernel_rfl) (vrs_cons (vr_same (by kernel_rfl) (by kernel_rfl)) (vrs_cons (vr_old (t := 6000001) (by kernel_rfl) (by kernel_rfl)) (vrs_nil))) br_nil))) (OK_iWriter_plan_x_L3 p1 0 y15 _ h)
 · intro F_iWriter_exprs_x_L0 OK_iWriter_exprs_x_L0 c0_1 p1 r h
   refine acalls_of_fn triWriter_exprs_x (Nat.le_of_ble_eq_true rfl) (by intro n hn; simp at hn; omega) ?_
   show avc Try.prog aciWriter_exprs_x (qiWriter_exprs_x _) ⟨[(0, (.ptr 1000000 0)), (1, (.d (.sl 10 (p1.map cGPExpr))))], [(1000000, [(.bp 1000000 66), (.osl 6000001 5 1 (c0_1.map cU8))])]⟩
   delta aciWriter_exprs_x
   refine so ?_
   let a0 : St := ⟨[(7, (.d (.sl 10 (p1.map cGPExpr)))), (6, (.ptr 1000000 0)), (0, (.ptr 1000000 0)), (1, (.d (.sl 10 (p1.map cGPExpr))))], [(1000000, [(.bp 1000000 66), (.osl 6000001 5 1 (c0_1.map cU8))])]⟩
   refine st 2 a0 (ps (vI (p1.length : Int)) (vop_len (sz := 10) (l := p1) (f := cGPExpr) (by kernel_rfl) (by kernel_rfl)) ?_)
   refine callg_step ⟨[(1000000, 1000000)], [(6000001, 6000001)], [], [], [], [(6000001, 6000001)], [], [6000001]⟩ (m := iWriter_number_x c0_1 (p1.length : Int)) (S' := fun (y : (List Int)) => ⟨(9, (.tup [])) :: (8, (vI (p1.length : Int))) :: a0.env, [(1000000, [(.bp 1000000 66), (.osl 6000001 5 1 (y.map cU8))])]⟩) h (OK_iWriter_number_x c0_1 (p1.length : Int)) (by kernel_rfl) (by kernel_rfl) (by kernel_rfl) (by kernel_rfl) (fun y => by kernel_rfl) (fun y => by kernel_rfl) ?_
   clear h; intro y1 h
   refine nx (so ?_)
   let a1 : St := ⟨(10, (.d (.sl 10 (p1.map cGPExpr)))) :: (9, (.tup [])) :: (8, (vI (p1.length : Int))) :: a0.env, [(1000000, [(.bp 1000000 66), (.osl 6000001 5 1 (y1.map cU8))])]⟩
   refine st 1 a1 (ps (vI (p1.length : Int)) (vop_len (sz := 10) (l := p1) (f := cGPExpr) (by kernel_rfl) (by kernel_rfl)) ?_)
   let a2 : St := a1.p [(12, (vI 0)), (11, (vI (p1.length : Int)))]
   exact st 1 a2 (nx (bi (loop_go (s' := stiWriter_exprs_x_L0 p1 0 y1) (wr [(6000001, .old 6000001)] (es (es (es (es er_nil)))) (br_cons (c0 := [(.bp 1000000 66), (.osl 6000001 5 1 (y1.map cU8))]) (by kernel_rfl) (vrs_cons (vr_same (by kernel_rfl) (by kernel_rfl)) (vrs_cons (vr_old (t := 6000001) (by kernel_rfl) (by kernel_rfl)) (vrs_nil))) br_nil)) (OK_iWriter_exprs_x_L0 p1 0 y1 _ h))))
 · intro F_iWriter_exprs_x_L0 F_iWriter_expr_x OK_iWriter_exprs_x_L0 OK_iWriter_expr_x p1 x12 b1000000_1 r h
   delta aciWriter_exprs_x_L0
   refine loop_unroll (so ?_)
   let a3 : St := (stiWriter_exprs_x_L0 p1 x12 b1000000_1).p [(13, (vB (decide (x12 < (p1.length : Int)))))]
   refine st 1 a3 (nx (si ?_))
   refine cd h (fun h => ?_) fun h => ?_
   refine ki (xi (si (bi (so (vs (fun (y : GPExpr) => (.rp (oGPExpr y))) h (fun y hy => vop_ia (l := p1) (f := cGPExpr) (g := oGPExpr) (k := .i64) hy cGPExpr_eq (by kernel_rfl) (by kernel_rfl) (by kernel_rfl)) fun y2 h => ?_)))))
   let a4 : St := ⟨(5, (.ptr 5 0)) :: (15, (vGPExpr y2)) :: (14, (.rp (oGPExpr y2))) :: a3.env, [(5, bGPExpr y2), (1000000, [(.bp 1000000 66), (.osl 6000001 5 1 (b1000000_1.map cU8))])]⟩
   refine st 3 a4 (nx (oi ?_))
   let a5 : St := a4.p [(17, (vGPExpr y2)), (16, (.ptr 1000000 0))]
   refine st 2 a5 ?_
   refine callg_step ⟨[(1000000, 1000000)], [(6000001, 6000001)], [], [], [], [(6000001, 6000001)], [], [6000001]⟩ (m := F_iWriter_expr_x b1000000_1 y2) (S' := fun (y : (List Int)) => ⟨(18, (.tup [])) :: a5.env, [(5, bGPExpr y2), (1000000, [(.bp 1000000 66), (.osl 6000001 5 1 (y.map cU8))])]⟩) h (OK_iWriter_expr_x b1000000_1 y2) (by kernel_rfl) (by kernel_rfl) (by kernel_rfl) (by kernel_rfl) (fun y => by kernel_rfl) (fun y => by kernel_rfl) ?_
   clear h; intro y3 h
   refine ni (bn (xi (oi ?_)))
   let a6 : St := ⟨(12, (vI (IntKind.wrap .i64 (x12 + 1)))) :: (19, (vI (IntKind.wrap .i64 (x12 + 1)))) :: (18, (.tup [])) :: a5.env, [(5, bGPExpr y2), (1000000, [(.bp 1000000 66), (.osl 6000001 5 1 (y3.map cU8))])]⟩
   refine st 2 a6 (ni ?_)
   exact loop_back (s' := stiWriter_exprs_x_L0 p1 (IntKind.wrap .i64 (x12 + 1)) y3) (wr [(6000001, .old 6000001)] (es (es (es (es er_nil)))) (br_cons (c0 := [(.bp 1000000 66), (.osl 6000001 5 1 (y3.map cU8))]) (by kernel_rfl) (vrs_cons (vr_same (by kernel_rfl) (by kernel_rfl)) (vrs_cons (vr_old (t := 6000001) (by kernel_rfl) (by kernel_rfl)) (vrs_nil))) br_nil)) (OK_iWriter_exprs_x_L0 p1 (IntKind.wrap .i64 (x12 + 1)) y3 _ h)
   refine ei (te (te (bh ?_)))
   refine retn_wk (s' := ⟨[], [(1000000, [(.bp 1000000 66), (.osl 6000001 5 1 (b1000000_1.map cU8))])]⟩) (wr [(6000001, .old 6000001)] er_nil (br_cons (c0 := [(.bp 1000000 66), (.osl 6000001 5 1 (b1000000_1.map cU8))]) (by kernel_rfl) (vrs_cons (vr_same (by kernel_rfl) (by kernel_rfl)) (vrs_cons (vr_old (t := 6000001) (by kernel_rfl) (by kernel_rfl)) (vrs_nil))) br_nil)) ?_
   injection h with h; subst h
   exact ret0_step ⟨by kernel_rfl, by kernel_rfl, trivial⟩
 · intro F_iWriter_exprs_x F_iWriter_expr_x_L0 OK_iWriter_exprs_x OK_iWriter_expr_x_L0 c0_1 p1 r h
   refine acalls_of_fn triWriter_expr_x (Nat.le_of_ble_eq_true rfl) (by intro n hn; simp at hn; omega) ?_
   show avc Try.prog aciWriter_expr_x (qiWriter_expr_x _) ⟨[(0, (.ptr 1000000 0)), (1, (vGPExpr p1))], [(1000000, [(.bp 1000000 66), (.osl 6000001 5 1 (c0_1.map cU8))])]⟩
   delta aciWriter_expr_x
   refine so ?_
   let a0 : St := ⟨[(3, (.ptr 3 0)), (0, (.ptr 1000000 0)), (1, (vGPExpr p1))], [(3, bGPExpr p1), (1000000, [(.bp 1000000 66), (.osl 6000001 5 1 (c0_1.map cU8))])]⟩
   refine st 1 a0 (nx (so ?_))
   let a1 : St := a0.p [(8, (vI p1.kind)), (7, (.ptr 3 0)), (6, (.ptr 1000000 0))]
   refine st 3 a1 ?_
   refine callg_step ⟨[(1000000, 1000000)], [(6000001, 6000001)], [], [], [], [(6000001, 6000001)], [], [6000001]⟩ (m := iWriter_number_x c0_1 p1.kind) (S' := fun (y : (List Int)) => ⟨(9, (.tup [])) :: a1.env, [(3, bGPExpr p1), (1000000, [(.bp 1000000 66), (.osl 6000001 5 1 (y.map cU8))])]⟩) h (OK_iWriter_number_x c0_1 p1.kind) (by kernel_rfl) (by kernel_rfl) (by kernel_rfl) (by kernel_rfl) (fun y => by kernel_rfl) (fun y => by kernel_rfl) ?_
   clear h; intro y1 h
   refine nx (so ?_)
   let a2 : St := ⟨(12, (vI p1.op)) :: (11, (.ptr 3 1)) :: (10, (.ptr 1000000 0)) :: (9, (.tup [])) :: a1.env, [(3, bGPExpr p1), (1000000, [(.bp 1000000 66), (.osl 6000001 5 1 (y1.map cU8))])]⟩
   refine st 3 a2 ?_
   refine callg_step ⟨[(1000000, 1000000)], [(6000001, 6000001)], [], [], [], [(6000001, 6000001)], [], [6000001]⟩ (m := iWriter_number_x y1 p1.op) (S' := fun (y : (List Int)) => ⟨(13, (.tup [])) :: a2.env, [(3, bGPExpr p1), (1000000, [(.bp 1000000 66), (.osl 6000001 5 1 (y.map cU8))])]⟩) h (OK_iWriter_number_x y1 p1.op) (by kernel_rfl) (by kernel_rfl) (by kernel_rfl) (by kernel_rfl) (fun y => by kernel_rfl) (fun y => by kernel_rfl) ?_
   clear h; intro y2 h
   refine nx (so ?_)
   let a3 : St := ⟨(16, (vB p1.not_)) :: (15, (.ptr 3 2)) :: (14, (.ptr 1000000 0)) :: (13, (.tup [])) :: a2.env, [(3, bGPExpr p1), (1000000, [(.bp 1000000 66), (.osl 6000001 5 1 (y2.map cU8))])]⟩
   refine st 3 a3 ?_
   refine callg_step ⟨[(1000000, 1000000)], [(6000001, 6000001)], [], [], [], [(6000001, 6000001)], [], [6000001]⟩ (m := iWriter_flag_x y2 p1.not_) (S' := fun (y : (List Int)) => ⟨(17, (.tup [])) :: a3.env, [(3, bGPExpr p1), (1000000, [(.bp 1000000 66), (.osl 6000001 5 1 (y.map cU8))])]⟩) h (OK_iWriter_flag_x y2 p1.not_) (by kernel_rfl) (by kernel_rfl) (by kernel_rfl) (by kernel_rfl) (fun y => by kernel_rfl) (fun y => by kernel_rfl) ?_
   clear h; intro y3 h
   refine nx (so ?_)
   let a4 : St := ⟨(21, (vI p1.value.kind)) :: (20, (.ptr 3 3)) :: (19, (.ptr 3 3)) :: (18, (.ptr 1000000 0)) :: (17, (.tup [])) :: a3.env, [(3, bGPExpr p1), (1000000, [(.bp 1000000 66), (.osl 6000001 5 1 (y3.map cU8))])]⟩
   refine st 4 a4 ?_
   refine callg_step ⟨[(1000000, 1000000)], [(6000001, 6000001)], [], [], [], [(6000001, 6000001)], [], [6000001]⟩ (m := iWriter_number_x y3 p1.value.kind) (S' := fun (y : (List Int)) => ⟨(22, (.tup [])) :: a4.env, [(3, bGPExpr p1), (1000000, [(.bp 1000000 66), (.osl 6000001 5 1 (y.map cU8))])]⟩) h (OK_iWriter_number_x y3 p1.value.kind) (by kernel_rfl) (by kernel_rfl) (by kernel_rfl) (by kernel_rfl) (fun y => by kernel_rfl) (fun y => by kernel_rfl) ?_
   clear h; intro y4 h
   refine nx (so ?_)
   let a5 : St := ⟨(26, (vI p1.value.num)) :: (25, (.ptr 3 4)) :: (24, (.ptr 3 3)) :: (23, (.ptr 1000000 0)) :: (22, (.tup [])) :: a4.env, [(3, bGPExpr p1), (1000000, [(.bp 1000000 66), (.osl 6000001 5 1 (y4.map cU8))])]⟩
   refine st 4 a5 ?_
   refine callg_step ⟨[(1000000, 1000000)], [(6000001, 6000001)], [], [], [], [(6000001, 6000001)], [], [6000001]⟩ (m := iWriter_number_x y4 p1.value.num) (S' := fun (y : (List Int)) => ⟨(27, (.tup [])) :: a5.env, [(3, bGPExpr p1), (1000000, [(.bp 1000000 66), (.osl 6000001 5 1 (y.map cU8))])]⟩) h (OK_iWriter_number_x y4 p1.value.num) (by kernel_rfl) (by kernel_rfl) (by kernel_rfl) (by kernel_rfl) (fun y => by kernel_rfl) (fun y => by kernel_rfl) ?_
   clear h; intro y5 h
   refine nx (so ?_)
   let a6 : St := ⟨(31, (vS p1.value.text)) :: (30, (.ptr 3 5)) :: (29, (.ptr 3 3)) :: (28, (.ptr 1000000 0)) :: (27, (.tup [])) :: a5.env, [(3, bGPExpr p1), (1000000, [(.bp 1000000 66), (.osl 6000001 5 1 (y5.map cU8))])]⟩
   refine st 4 a6 ?_
   refine callg_step ⟨[(1000000, 1000000)], [(6000001, 6000001)], [], [], [], [(6000001, 6000001)], [], [6000001]⟩ (m := iWriter_text_x y5 p1.value.text) (S' := fun (y : (List Int)) => ⟨(32, (.tup [])) :: a6.env, [(3, bGPExpr p1), (1000000, [(.bp 1000000 66), (.osl 6000001 5 1 (y.map cU8))])]⟩) h (OK_iWriter_text_x y5 p1.value.text) (by kernel_rfl) (by kernel_rfl) (by kernel_rfl) (by kernel_rfl) (fun y => by kernel_rfl) (fun y => by kernel_rfl) ?_
   clear h; intro y6 h
   refine nx (so ?_)
   let a7 : St := ⟨(35, (vI p1.up)) :: (34, (.ptr 3 6)) :: (33, (.ptr 1000000 0)) :: (32, (.tup [])) :: a6.env, [(3, bGPExpr p1), (1000000, [(.bp 1000000 66), (.osl 6000001 5 1 (y6.map cU8))])]⟩
   refine st 3 a7 ?_
   refine callg_step ⟨[(1000000, 1000000)], [(6000001, 6000001)], [], [], [], [(6000001, 6000001)], [], [6000001]⟩ (m := iWriter_number_x y6 p1.up) (S' := fun (y : (List Int)) => ⟨(36, (.tup [])) :: a7.env, [(3, bGPExpr p1), (1000000, [(.bp 1000000 66), (.osl 6000001 5 1 (y.map cU8))])]⟩) h (OK_iWriter_number_x y6 p1.up) (by kernel_rfl) (by kernel_rfl) (by kernel_rfl) (by kernel_rfl) (fun y => by kernel_rfl) (fun y => by kernel_rfl) ?_
   clear h; intro y7 h
   refine nx (so ?_)
   let a8 : St := ⟨(39, (vI p1.at_)) :: (38, (.ptr 3 7)) :: (37, (.ptr 1000000 0)) :: (36, (.tup [])) :: a7.env, [(3, bGPExpr p1), (1000000, [(.bp 1000000 66), (.osl 6000001 5 1 (y7.map cU8))])]⟩
   refine st 3 a8 ?_
   refine callg_step ⟨[(1000000, 1000000)], [(6000001, 6000001)], [], [], [], [(6000001, 6000001)], [], [6000001]⟩ (m := iWriter_number_x y7 p1.at_) (S' := fun (y : (List Int)) => ⟨(40, (.tup [])) :: a8.env, [(3, bGPExpr p1), (1000000, [(.bp 1000000 66), (.osl 6000001 5 1 (y.map cU8))])]⟩) h (OK_iWriter_number_x y7 p1.at_) (by kernel_rfl) (by kernel_rfl) (by kernel_rfl) (by kernel_rfl) (fun y => by kernel_rfl) (fun y => by kernel_rfl) ?_
   clear h; intro y8 h
   refine nx (so ?_)
   let a9 : St := ⟨(43, (.d (.sl 10 (p1.kids.map cGPExpr)))) :: (42, (.ptr 3 8)) :: (41, (.ptr 1000000 0)) :: (40, (.tup [])) :: a8.env, [(3, bGPExpr p1), (1000000, [(.bp 1000000 66), (.osl 6000001 5 1 (y8.map cU8))])]⟩
   refine st 3 a9 ?_
   refine callg_step ⟨[(1000000, 1000000)], [(6000001, 6000001)], [], [], [], [(6000001, 6000001)], [], [6000001]⟩ (m := F_iWriter_exprs_x y8 p1.kids) (S' := fun (y : (List Int)) => ⟨(44, (.tup [])) :: a9.env, [(3, bGPExpr p1), (1000000, [(.bp 1000000 66), (.osl 6000001 5 1 (y.map cU8))])]⟩) h (OK_iWriter_exprs_x y8 p1.kids) (by kernel_rfl) (by kernel_rfl) (by kernel_rfl) (by kernel_rfl) (fun y => by kernel_rfl) (fun y => by kernel_rfl) ?_
   clear h; intro y9 h
   refine nx (so ?_)
   let a10 : St := ⟨(47, (.d (.sl 8 (p1.sub.map cGPlan)))) :: (46, (.ptr 3 9)) :: (45, (.ptr 1000000 0)) :: (44, (.tup [])) :: a9.env, [(3, bGPExpr p1), (1000000, [(.bp 1000000 66), (.osl 6000001 5 1 (y9.map cU8))])]⟩
   refine st 3 a10 (ps (vI (p1.sub.length : Int)) (vop_len (sz := 8) (l := p1.sub) (f := cGPlan) (by kernel_rfl) (by kernel_rfl)) ?_)
   refine callg_step ⟨[(1000000, 1000000)], [(6000001, 6000001)], [], [], [], [(6000001, 6000001)], [], [6000001]⟩ (m := iWriter_number_x y9 (p1.sub.length : Int)) (S' := fun (y : (List Int)) => ⟨(49, (.tup [])) :: (48, (vI (p1.sub.length : Int))) :: a10.env, [(3, bGPExpr p1), (1000000, [(.bp 1000000 66), (.osl 6000001 5 1 (y.map cU8))])]⟩) h (OK_iWriter_number_x y9 (p1.sub.length : Int)) (by kernel_rfl) (by kernel_rfl) (by kernel_rfl) (by kernel_rfl) (fun y => by kernel_rfl) (fun y => by kernel_rfl) ?_
   clear h; intro y10 h
   refine nx (so ?_)
   let a11 : St := ⟨(51, (.d (.sl 8 (p1.sub.map cGPlan)))) :: (50, (.ptr 3 9)) :: (49, (.tup [])) :: (48, (vI (p1.sub.length : Int))) :: a10.env, [(3, bGPExpr p1), (1000000, [(.bp 1000000 66), (.osl 6000001 5 1 (y10.map cU8))])]⟩
   refine st 2 a11 (ps (vI (p1.sub.length : Int)) (vop_len (sz := 8) (l := p1.sub) (f := cGPlan) (by kernel_rfl) (by kernel_rfl)) ?_)
   let a12 : St := a11.p [(53, (vI 0)), (52, (vI (p1.sub.length : Int)))]
   exact st 1 a12 (nx (bi (loop_go (s' := stiWriter_expr_x_L0 p1 0 y10) (wr [(6000001, .old 6000001)] (es (es (es (es er_nil)))) (br_cons (c0 := [(.bp 1000000 66), (.osl 6000001 5 1 (y10.map cU8))]) (by kernel_rfl) (vrs_cons (vr_same (by kernel_rfl) (by kernel_rfl)) (vrs_cons (vr_old (t := 6000001) (by kernel_rfl) (by kernel_rfl)) (vrs_nil))) br_nil)) (OK_iWriter_expr_x_L0 p1 0 y10 _ h))))
 · intro F_iWriter_expr_x_L0 F_iWriter_plan_x OK_iWriter_expr_x_L0 OK_iWriter_plan_x p1 x53 b1000000_1 r h
   delta aciWriter_expr_x_L0
   refine loop_unroll (so ?_)
   let a13 : St := (stiWriter_expr_x_L0 p1 x53 b1000000_1).p [(54, (vB (decide (x53 < (p1.sub.length : Int)))))]
   refine st 1 a13 (nx (si ?_))
   refine cd h (fun h => ?_) fun h => ?_
   refine ki (xi (si (bi (so (vs (fun (y : GPlan) => (.rp (oGPlan y))) h (fun y hy => vop_ia (l := p1.sub) (f := cGPlan) (g := oGPlan) (k := .i64) hy cGPlan_eq (by kernel_rfl) (by kernel_rfl) (by kernel_rfl)) fun y11 h => ?_)))))
   let a14 : St := ⟨(5, (.ptr 5 0)) :: (56, (vGPlan y11)) :: (55, (.rp (oGPlan y11))) :: a13.env, [(5, bGPlan y11), (1000000, [(.bp 1000000 66), (.osl 6000001 5 1 (b1000000_1.map cU8))])]⟩
   refine st 3 a14 (nx (oi ?_))
   let a15 : St := a14.p [(58, (vGPlan y11)), (57, (.ptr 1000000 0))]
   refine st 2 a15 ?_
   refine callg_step ⟨[(1000000, 1000000)], [(6000001, 6000001)], [], [], [], [(6000001, 6000001)], [], [6000001]⟩ (m := F_iWriter_plan_x b1000000_1 y11) (S' := fun (y : (List Int)) => ⟨(59, (.tup [])) :: a15.env, [(5, bGPlan y11), (1000000, [(.bp 1000000 66), (.osl 6000001 5 1 (y.map cU8))])]⟩) h (OK_iWriter_plan_x b1000000_1 y11) (by kernel_rfl) (by kernel_rfl) (by kernel_rfl) (by kernel_rfl) (fun y => by kernel_rfl) (fun y => by kernel_rfl) ?_
   clear h; intro y12 h
   refine ni (bn (xi (oi ?_)))
   let a16 : St := ⟨(53, (vI (IntKind.wrap .i64 (x53 + 1)))) :: (60, (vI (IntKind.wrap .i64 (x53 + 1)))) :: (59, (.tup [])) :: a15.env, [(5, bGPlan y11), (1000000, [(.bp 1000000 66), (.osl 6000001 5 1 (y12.map cU8))])]⟩
   refine st 2 a16 (ni ?_)
   exact loop_back (s' := stiWriter_expr_x_L0 p1 (IntKind.wrap .i64 (x53 + 1)) y12) (wr [(6000001, .old 6000001)] (es (es (es (es er_nil)))) (br_cons (c0 := [(.bp 1000000 66), (.osl 6000001 5 1 (y12.map cU8))]) (by kernel_rfl) (vrs_cons (vr_same (by kernel_rfl) (by kernel_rfl)) (vrs_cons (vr_old (t := 6000001) (by kernel_rfl) (by kernel_rfl)) (vrs_nil))) br_nil)) (OK_iWriter_expr_x_L0 p1 (IntKind.wrap .i64 (x53 + 1)) y12 _ h)
   refine ei (te (te (bh ?_)))
   refine retn_wk (s' := ⟨[], [(1000000, [(.bp 1000000 66), (.osl 6000001 5 1 (b1000000_1.map cU8))])]⟩) (wr [(6000001, .old 6000001)] er_nil (br_cons (c0 := [(.bp 1000000 66), (.osl 6000001 5 1 (b1000000_1.map cU8))]) (by kernel_rfl) (vrs_cons (vr_same (by kernel_rfl) (by kernel_rfl)) (vrs_cons (vr_old (t := 6000001) (by kernel_rfl) (by kernel_rfl)) (vrs_nil))) br_nil)) ?_
   injection h with h; subst h
   exact ret0_step ⟨by kernel_rfl, by kernel_rfl, trivial⟩
 · intro F_iWriter_plan_x_L0 OK_iWriter_plan_x_L0 c0_1 p1 r h
   refine acalls_of_fn triWriter_plan_x (Nat.le_of_ble_eq_true rfl) (by intro n hn; simp at hn; omega) ?_
   show avc Try.prog aciWriter_plan_x (qiWriter_plan_x _) ⟨[(0, (.ptr 1000000 0)), (1, (vGPlan p1))], [(1000000, [(.bp 1000000 66), (.osl 6000001 5 1 (c0_1.map cU8))])]⟩
   delta aciWriter_plan_x
   refine so ?_
   let a0 : St := ⟨[(3, (.ptr 3 0)), (0, (.ptr 1000000 0)), (1, (vGPlan p1))], [(3, bGPlan p1), (1000000, [(.bp 1000000 66), (.osl 6000001 5 1 (c0_1.map cU8))])]⟩
   refine st 1 a0 (nx (so ?_))
   let a1 : St := a0.p [(14, (.d (.sl 1 (p1.tables.map cI)))), (13, (.ptr 3 0)), (12, (.ptr 1000000 0))]
   refine st 3 a1 (ps (vI (p1.tables.length : Int)) (vop_len (sz := 1) (l := p1.tables) (f := cI) (by kernel_rfl) (by kernel_rfl)) ?_)
   refine callg_step ⟨[(1000000, 1000000)], [(6000001, 6000001)], [], [], [], [(6000001, 6000001)], [], [6000001]⟩ (m := iWriter_number_x c0_1 (p1.tables.length : Int)) (S' := fun (y : (List Int)) => ⟨(16, (.tup [])) :: (15, (vI (p1.tables.length : Int))) :: a1.env, [(3, bGPlan p1), (1000000, [(.bp 1000000 66), (.osl 6000001 5 1 (y.map cU8))])]⟩) h (OK_iWriter_number_x c0_1 (p1.tables.length : Int)) (by kernel_rfl) (by kernel_rfl) (by kernel_rfl) (by kernel_rfl) (fun y => by kernel_rfl) (fun y => by kernel_rfl) ?_
   clear h; intro y1 h
   refine nx (si (so ?_))
   let a2 : St := ⟨(18, (.d (.sl 1 (p1.tables.map cI)))) :: (17, (.ptr 3 0)) :: (16, (.tup [])) :: (15, (vI (p1.tables.length : Int))) :: a1.env, [(3, bGPlan p1), (1000000, [(.bp 1000000 66), (.osl 6000001 5 1 (y1.map cU8))])]⟩
   refine st 2 a2 (ps (vI (p1.tables.length : Int)) (vop_len (sz := 1) (l := p1.tables) (f := cI) (by kernel_rfl) (by kernel_rfl)) ?_)
   let a3 : St := a2.p [(20, (vI 0)), (19, (vI (p1.tables.length : Int)))]
   refine st 1 a3 (nx (bi ?_))
   exact loop_go (s' := stiWriter_plan_x_L0 p1 0 y1) (wr [(6000001, .old 6000001)] (es (es (es (es (es er_nil))))) (bs_ (br_cons (c0 := [(.bp 1000000 66), (.osl 6000001 5 1 (y1.map cU8))]) (by kernel_rfl) (vrs_cons (vr_same (by kernel_rfl) (by kernel_rfl)) (vrs_cons (vr_old (t := 6000001) (by kernel_rfl) (by kernel_rfl)) (vrs_nil))) br_nil))) (OK_iWriter_plan_x_L0 p1 0 y1 _ h)
 · intro F_iWriter_plan_x_L0 F_iWriter_plan_x_L1 OK_iWriter_plan_x_L0 OK_iWriter_plan_x_L1 p1 x20 b1000000_1 r h
   delta aciWriter_plan_x_L0
   refine loop_unroll (so ?_)
   let a4 : St := (stiWriter_plan_x_L0 p1 x20 b1000000_1).p [(21, (vB (decide (x20 < (p1.tables.length : Int)))))]
   refine st 1 a4 (nx (si ?_))
   refine cd h (fun h => ?_) fun h => ?_
   refine ki (xi (si (bi (so (vs (fun (y : Int) => (.rp [(.i .i64 y)])) h (fun y hy => vop_ia (l := p1.tables) (f := cI) (g := cI) (k := .i64) hy (fun _ => rfl) (by kernel_rfl) (by kernel_rfl) (by kernel_rfl)) fun y2 h => ?_)))))
   let a5 : St := a4.p [(5, (vI y2)), (23, (vI y2)), (22, (.rp [(.i .i64 y2)]))]
   refine st 2 a5 (nx (oi ?_))
   let a6 : St := a5.p [(25, (vI y2)), (24, (.ptr 1000000 0))]
   refine st 2 a6 ?_
   refine callg_step ⟨[(1000000, 1000000)], [(6000001, 6000001)], [], [], [], [(6000001, 6000001)], [], [6000001]⟩ (m := iWriter_number_x b1000000_1 y2) (S' := fun (y : (List Int)) => ⟨(26, (.tup [])) :: a6.env, [(3, bGPlan p1), (1000000, [(.bp 1000000 66), (.osl 6000001 5 1 (y.map cU8))])]⟩) h (OK_iWriter_number_x b1000000_1 y2) (by kernel_rfl) (by kernel_rfl) (by kernel_rfl) (by kernel_rfl) (fun y => by kernel_rfl) (fun y => by kernel_rfl) ?_
   clear h; intro y3 h
   refine ni (bn (xi (oi ?_)))
   let a7 : St := ⟨(20, (vI (IntKind.wrap .i64 (x20 + 1)))) :: (27, (vI (IntKind.wrap .i64 (x20 + 1)))) :: (26, (.tup [])) :: a6.env, [(3, bGPlan p1), (1000000, [(.bp 1000000 66), (.osl 6000001 5 1 (y3.map cU8))])]⟩
   refine st 2 a7 (ni ?_)
   exact loop_back (s' := stiWriter_plan_x_L0 p1 (IntKind.wrap .i64 (x20 + 1)) y3) (wr [(6000001, .old 6000001)] (es (es (es (es (es er_nil))))) (bs_ (br_cons (c0 := [(.bp 1000000 66), (.osl 6000001 5 1 (y3.map cU8))]) (by kernel_rfl) (vrs_cons (vr_same (by kernel_rfl) (by kernel_rfl)) (vrs_cons (vr_old (t := 6000001) (by kernel_rfl) (by kernel_rfl)) (vrs_nil))) br_nil))) (OK_iWriter_plan_x_L0 p1 (IntKind.wrap .i64 (x20 + 1)) y3 _ h)
   refine ei (te (te (bh (xi (so ?_)))))
   let a8 : St := a4.p [(30, (.d (.sl 1 (p1.on_.map (cSl 10 cGPExpr))))), (29, (.ptr 3 1)), (28, (.ptr 1000000 0))]
   refine st 3 a8 (ps (vI (p1.on_.length : Int)) (vop_len (sz := 1) (l := p1.on_) (f := (cSl 10 cGPExpr)) (by kernel_rfl) (by kernel_rfl)) ?_)
   refine callg_step ⟨[(1000000, 1000000)], [(6000001, 6000001)], [], [], [], [(6000001, 6000001)], [], [6000001]⟩ (m := iWriter_number_x b1000000_1 (p1.on_.length : Int)) (S' := fun (y : (List Int)) => ⟨(32, (.tup [])) :: (31, (vI (p1.on_.length : Int))) :: a8.env, [(3, bGPlan p1), (1000000, [(.bp 1000000 66), (.osl 6000001 5 1 (y.map cU8))])]⟩) h (OK_iWriter_number_x b1000000_1 (p1.on_.length : Int)) (by kernel_rfl) (by kernel_rfl) (by kernel_rfl) (by kernel_rfl) (fun y => by kernel_rfl) (fun y => by kernel_rfl) ?_
   clear h; intro y4 h
   refine nx (si (so ?_))
   let a9 : St := ⟨(34, (.d (.sl 1 (p1.on_.map (cSl 10 cGPExpr))))) :: (33, (.ptr 3 1)) :: (32, (.tup [])) :: (31, (vI (p1.on_.length : Int))) :: a8.env, [(3, bGPlan p1), (1000000, [(.bp 1000000 66), (.osl 6000001 5 1 (y4.map cU8))])]⟩
   refine st 2 a9 (ps (vI (p1.on_.length : Int)) (vop_len (sz := 1) (l := p1.on_) (f := (cSl 10 cGPExpr)) (by kernel_rfl) (by kernel_rfl)) ?_)
   let a10 : St := a9.p [(36, (vI 0)), (35, (vI (p1.on_.length : Int)))]
   refine st 1 a10 (nx (bi ?_))
   exact loop_go (s' := stiWriter_plan_x_L1 p1 0 y4) (wr [(6000001, .old 6000001)] (es (es (es (es (es er_nil))))) (bs_ (br_cons (c0 := [(.bp 1000000 66), (.osl 6000001 5 1 (y4.map cU8))]) (by kernel_rfl) (vrs_cons (vr_same (by kernel_rfl) (by kernel_rfl)) (vrs_cons (vr_old (t := 6000001) (by kernel_rfl) (by kernel_rfl)) (vrs_nil))) br_nil))) (OK_iWriter_plan_x_L1 p1 0 y4 _ h)
 · intro F_iWriter_plan_x_L2 F_iWriter_exprs_x F_iWriter_plan_x_L1 OK_iWriter_plan_x_L2 OK_iWriter_exprs_x OK_iWriter_plan_x_L1 p1 x36 b1000000_1_5 r h
   delta aciWriter_plan_x_L1
   refine loop_unroll (so ?_)
   let a11 : St := (stiWriter_plan_x_L1 p1 x36 b1000000_1_5).p [(37, (vB (decide (x36 < (p1.on_.length : Int)))))]
   refine st 1 a11 (nx (si ?_))
   refine cd h (fun h => ?_) fun h => ?_
   refine ki (xi (si (bi (so (vs (fun (y : (List GPExpr)) => (.rp [(.sl 10 (y.map cGPExpr))])) h (fun y hy => vop_ia (l := p1.on_) (f := (cSl 10 cGPExpr)) (g := (cSl 10 cGPExpr)) (k := .i64) hy (fun _ => rfl) (by kernel_rfl) (by kernel_rfl) (by kernel_rfl)) fun y6 h => ?_)))))
   let a12 : St := a11.p [(7, (.d (.sl 10 (y6.map cGPExpr)))), (39, (.d (.sl 10 (y6.map cGPExpr)))), (38, (.rp [(.sl 10 (y6.map cGPExpr))]))]
   refine st 2 a12 (nx (oi ?_))
   let a13 : St := a12.p [(41, (.d (.sl 10 (y6.map cGPExpr)))), (40, (.ptr 1000000 0))]
   refine st 2 a13 ?_
   refine callg_step ⟨[(1000000, 1000000)], [(6000001, 6000001)], [], [], [], [(6000001, 6000001)], [], [6000001]⟩ (m := F_iWriter_exprs_x b1000000_1_5 y6) (S' := fun (y : (List Int)) => ⟨(42, (.tup [])) :: a13.env, [(3, bGPlan p1), (1000000, [(.bp 1000000 66), (.osl 6000001 5 1 (y.map cU8))])]⟩) h (OK_iWriter_exprs_x b1000000_1_5 y6) (by kernel_rfl) (by kernel_rfl) (by kernel_rfl) (by kernel_rfl) (fun y => by kernel_rfl) (fun y => by kernel_rfl) ?_
   clear h; intro y7 h
   refine ni (bn (xi (oi ?_)))
   let a14 : St := ⟨(36, (vI (IntKind.wrap .i64 (x36 + 1)))) :: (43, (vI (IntKind.wrap .i64 (x36 + 1)))) :: (42, (.tup [])) :: a13.env, [(3, bGPlan p1), (1000000, [(.bp 1000000 66), (.osl 6000001 5 1 (y7.map cU8))])]⟩
   refine st 2 a14 (ni ?_)
   exact loop_back (s' := stiWriter_plan_x_L1 p1 (IntKind.wrap .i64 (x36 + 1)) y7) (wr [(6000001, .old 6000001)] (es (es (es (es (es er_nil))))) (bs_ (br_cons (c0 := [(.bp 1000000 66), (.osl 6000001 5 1 (y7.map cU8))]) (by kernel_rfl) (vrs_cons (vr_same (by kernel_rfl) (by kernel_rfl)) (vrs_cons (vr_old (t := 6000001) (by kernel_rfl) (by kernel_rfl)) (vrs_nil))) br_nil))) (OK_iWriter_plan_x_L1 p1 (IntKind.wrap .i64 (x36 + 1)) y7 _ h)
   refine ei (te (te (bh (xi (so ?_)))))
   let a15 : St := a11.p [(46, (.d (.sl 10 (p1.where_.map cGPExpr)))), (45, (.ptr 3 2)), (44, (.ptr 1000000 0))]
   refine st 3 a15 ?_
   refine callg_step ⟨[(1000000, 1000000)], [(6000001, 6000001)], [], [], [], [(6000001, 6000001)], [], [6000001]⟩ (m := F_iWriter_exprs_x b1000000_1_5 p1.where_) (S' := fun (y : (List Int)) => ⟨(47, (.tup [])) :: a15.env, [(3, bGPlan p1), (1000000, [(.bp 1000000 66), (.osl 6000001 5 1 (y.map cU8))])]⟩) h (OK_iWriter_exprs_x b1000000_1_5 p1.where_) (by kernel_rfl) (by kernel_rfl) (by kernel_rfl) (by kernel_rfl) (fun y => by kernel_rfl) (fun y => by kernel_rfl) ?_
   clear h; intro y8 h
   refine nx (so ?_)
   let a16 : St := ⟨(50, (.d (.sl 11 (p1.order.map cGPSort)))) :: (49, (.ptr 3 3)) :: (48, (.ptr 1000000 0)) :: (47, (.tup [])) :: a15.env, [(3, bGPlan p1), (1000000, [(.bp 1000000 66), (.osl 6000001 5 1 (y8.map cU8))])]⟩
   refine st 3 a16 (ps (vI (p1.order.length : Int)) (vop_len (sz := 11) (l := p1.order) (f := cGPSort) (by kernel_rfl) (by kernel_rfl)) ?_)
   refine callg_step ⟨[(1000000, 1000000)], [(6000001, 6000001)], [], [], [], [(6000001, 6000001)], [], [6000001]⟩ (m := iWriter_number_x y8 (p1.order.length : Int)) (S' := fun (y : (List Int)) => ⟨(52, (.tup [])) :: (51, (vI (p1.order.length : Int))) :: a16.env, [(3, bGPlan p1), (1000000, [(.bp 1000000 66), (.osl 6000001 5 1 (y.map cU8))])]⟩) h (OK_iWriter_number_x y8 (p1.order.length : Int)) (by kernel_rfl) (by kernel_rfl) (by kernel_rfl) (by kernel_rfl) (fun y => by kernel_rfl) (fun y => by kernel_rfl) ?_
   clear h; intro y9 h
   refine nx (si (so ?_))
   let a17 : St := ⟨(54, (.d (.sl 11 (p1.order.map cGPSort)))) :: (53, (.ptr 3 3)) :: (52, (.tup [])) :: (51, (vI (p1.order.length : Int))) :: a16.env, [(3, bGPlan p1), (1000000, [(.bp 1000000 66), (.osl 6000001 5 1 (y9.map cU8))])]⟩
   refine st 2 a17 (ps (vI (p1.order.length : Int)) (vop_len (sz := 11) (l := p1.order) (f := cGPSort) (by kernel_rfl) (by kernel_rfl)) ?_)
   let a18 : St := a17.p [(56, (vI 0)), (55, (vI (p1.order.length : Int)))]
   refine st 1 a18 (nx (bi ?_))
   exact loop_go (s' := stiWriter_plan_x_L2 p1 0 y9) (wr [(6000001, .old 6000001)] (es (es (es (es (es er_nil))))) (bs_ (br_cons (c0 := [(.bp 1000000 66), (.osl 6000001 5 1 (y9.map cU8))]) (by kernel_rfl) (vrs_cons (vr_same (by kernel_rfl) (by kernel_rfl)) (vrs_cons (vr_old (t := 6000001) (by kernel_rfl) (by kernel_rfl)) (vrs_nil))) br_nil))) (OK_iWriter_plan_x_L2 p1 0 y9 _ h)
theorem OK_iWriter_plan_x_L2 (p1 : GPlan) (x56 : Int) (b1000000_1_10 : (List Int)) (r : (List Int)) (h : iWriter_plan_x_L2 p1 x56 b1000000_1_10 = some r) : avc Try.prog aciWriter_plan_x_L2 (qiWriter_plan_x_5 r) (stiWriter_plan_x_L2 p1 x56 b1000000_1_10) := (OKs_iWriter_plan_x_L2).1 p1 x56 b1000000_1_10 r h
theorem OK_iWriter_exprs_x (c0_1 : (List Int)) (p1 : (List GPExpr)) : FOkB Try.prog 48 [(.ptr 1000000 0), (.d (.sl 10 (p1.map cGPExpr)))] [(1000000, [(.bp 1000000 66), (.osl 6000001 5 1 (c0_1.map cU8))])] (fun (y : (List Int)) => (.tup [])) (fun (y : (List Int)) => [(1000000, [(.bp 1000000 66), (.osl 6000001 5 1 (y.map cU8))])]) (iWriter_exprs_x c0_1 p1) := fun r h => (OKs_iWriter_plan_x_L2).2.1 c0_1 p1 r h
theorem OK_iWriter_exprs_x_L0 (p1 : (List GPExpr)) (x12 : Int) (b1000000_1 : (List Int)) (r : (List Int)) (h : iWriter_exprs_x_L0 p1 x12 b1000000_1 = some r) : avc Try.prog aciWriter_exprs_x_L0 (qiWriter_exprs_x_0 r) (stiWriter_exprs_x_L0 p1 x12 b1000000_1) := (OKs_iWriter_plan_x_L2).2.2.1 p1 x12 b1000000_1 r h
theorem OK_iWriter_expr_x (c0_1 : (List Int)) (p1 : GPExpr) : FOkB Try.prog 22 [(.ptr 1000000 0), (vGPExpr p1)] [(1000000, [(.bp 1000000 66), (.osl 6000001 5 1 (c0_1.map cU8))])] (fun (y : (List Int)) => (.tup [])) (fun (y : (List Int)) => [(1000000, [(.bp 1000000 66), (.osl 6000001 5 1 (y.map cU8))])]) (iWriter_expr_x c0_1 p1) := fun r h => (OKs_iWriter_plan_x_L2).2.2.2.1 c0_1 p1 r h
theorem OK_iWriter_expr_x_L0 (p1 : GPExpr) (x53 : Int) (b1000000_1 : (List Int)) (r : (List Int)) (h : iWriter_expr_x_L0 p1 x53 b1000000_1 = some r) : avc Try.prog aciWriter_expr_x_L0 (qiWriter_expr_x_0 r) (stiWriter_expr_x_L0 p1 x53 b1000000_1) := (OKs_iWriter_plan_x_L2).2.2.2.2.1 p1 x53 b1000000_1 r h
theorem OK_iWriter_plan_x (c0_1 : (List Int)) (p1 : GPlan) : FOkB Try.prog 36 [(.ptr 1000000 0), (vGPlan p1)] [(1000000, [(.bp 1000000 66), (.osl 6000001 5 1 (c0_1.map cU8))])] (fun (y : (List Int)) => (.tup [])) (fun (y : (List Int)) => [(1000000, [(.bp 1000000 66), (.osl 6000001 5 1 (y.map cU8))])]) (iWriter_plan_x c0_1 p1) := fun r h => (OKs_iWriter_plan_x_L2).2.2.2.2.2.1 c0_1 p1 r h
theorem OK_iWriter_plan_x_L0 (p1 : GPlan) (x20 : Int) (b1000000_1 : (List Int)) (r : (List Int)) (h : iWriter_plan_x_L0 p1 x20 b1000000_1 = some r) : avc Try.prog aciWriter_plan_x_L0 (qiWriter_plan_x_1 r) (stiWriter_plan_x_L0 p1 x20 b1000000_1) := (OKs_iWriter_plan_x_L2).2.2.2.2.2.2.1 p1 x20 b1000000_1 r h
theorem OK_iWriter_plan_x_L1 (p1 : GPlan) (x36 : Int) (b1000000_1_5 : (List Int)) (r : (List Int)) (h : iWriter_plan_x_L1 p1 x36 b1000000_1_5 = some r) : avc Try.prog aciWriter_plan_x_L1 (qiWriter_plan_x_3 r) (stiWriter_plan_x_L1 p1 x36 b1000000_1_5) := (OKs_iWriter_plan_x_L2).2.2.2.2.2.2.2 p1 x36 b1000000_1_5 r h
theorem OK_iPutPExpr (p0 : GPExpr) : FOk Try.prog 8 [(vGPExpr p0)] (fun y => (vS y)) (iPutPExpr p0) := by
 intro r h
 rw [iPutPExpr] at h
 refine acalls_of_fn triPutPExpr (Nat.le_of_ble_eq_true rfl) (by simp) ?_
 show avc Try.prog aciPutPExpr (qiPutPExpr _) ⟨[(0, (vGPExpr p0))], []⟩
 delta aciPutPExpr
 refine so ?_
 let a0 : St := ⟨[(2, (vS [])), (1, (.ptr 1 0)), (0, (vGPExpr p0))], [(1, bGPExpr p0)]⟩
 refine st 2 a0 (nx (so (bldv_step (c := [.np, (.nil 1)]) (s' := ⟨(4, (.agv [.np, (.nil 1)])) :: a0.env, a0.bx⟩) (by kernel_rfl) (by kernel_rfl) (by kernel_rfl) ?_)))
 let a1 : St := ⟨(3, (.ptr 5 0)) :: (5, (.ptr 5 0)) :: (4, (.agv [.np, (.nil 1)])) :: a0.env, [(5, [(.bp 5 66), (.nil 1)]), (1, bGPExpr p0)]⟩
 refine st 2 a1 (nx (so ?_))
 let a2 : St := a1.p [(7, (vGPExpr p0)), (6, (.ptr 5 0))]
 refine st 2 a2 ?_
 refine callg_step ⟨[(1000000, 5)], [], [(6000001, 5, 1)], [], [[none, some 6000001]], [(6000001, 5013501)], [], [5013501]⟩ (m := iWriter_expr_x ([] : List Int) p0) (S' := fun (y : (List Int)) => ⟨(8, (.tup [])) :: a2.env, [(5, [(.bp 5 66), (.osl 5013501 5 1 (y.map cU8))]), (1, bGPExpr p0)]⟩) h (OK_iWriter_expr_x ([] : List Int) p0) (by kernel_rfl) (by kernel_rfl) (by kernel_rfl) (by kernel_rfl) (fun y => by kernel_rfl) (fun y => by kernel_rfl) ?_
 clear h; intro y1 h
 refine nx (so ?_)
 let a3 : St := ⟨(11, (.ptr 5 0)) :: (10, (.ptr 5 0)) :: (9, (.ptr 5 0)) :: (8, (.tup [])) :: a2.env, [(5, [(.bp 5 66), (.osl 5013501 5 1 (y1.map cU8))]), (1, bGPExpr p0)]⟩
 refine st 3 a3 ?_
 refine callg_step ⟨[(1000000, 5)], [(6000001, 5013501)], [], [], [], [], [], [5013501]⟩ (m := gStrings_Builder_String_x y1) (S' := fun (y : (List UInt8) × (List Int)) => ⟨(12, (vS y.1)) :: a3.env, [(5, [(.bp 5 66), (.d (.sl 1 (y.2.map cU8)))]), (1, bGPExpr p0)]⟩) h (OK_gStrings_Builder_String_x y1) (by kernel_rfl) (by kernel_rfl) (by kernel_rfl) (by kernel_rfl) (fun y => by kernel_rfl) (fun y => by kernel_rfl) ?_
 clear h; intro y2 h
 let a4 : St := ⟨(2, (vS y2.1)) :: (12, (vS y2.1)) :: a3.env, [(5, [(.bp 5 66), (.d (.sl 1 (y2.2.map cU8)))]), (1, bGPExpr p0)]⟩
 refine st 1 a4 (nx (ri ?_))
 injection h with h; subst h
 exact ret1_step (v := (vS y2.1)) (by kernel_rfl) (by kernel_rfl) (by kernel_rfl)
theorem OKs_sPutVar_L0 : (∀ (x0 : Int) (x3 : (List Int)) (r : (List UInt8)), sPutVar_L0 x0 x3 = some r → avc Try.prog acsPutVar_L0 (qsPutVar_1 r) (stsPutVar_L0 x0 x3)) := by
 refine sPutVar_L0.partial_correctness (fun x0 x3 r => avc Try.prog acsPutVar_L0 (qsPutVar_1 r) (stsPutVar_L0 x0 x3)) ?_
 · intro F_sPutVar_L0 OK_sPutVar_L0 x0 x3 r h
   delta acsPutVar_L0
   refine loop_unroll (si (so ?_))
   let a2 : St := (stsPutVar_L0 x0 x3).p [(6, (vB (decide (127 < x0)))), (5, (.d (.i .u64 x0)))]
   refine st 2 a2 (nx ?_)
   refine cd h (fun h => ?_) fun h => ?_
   refine ki (xi (bi (so ?_)))
   let a3 : St := a2.p [(11, (.d (.i .u8 (IntKind.wrap .u8 (IntKind.wrap .u64 ((Int.tmod x0 128) + 128)))))), (10, (.d (.i .u64 (IntKind.wrap .u64 ((Int.tmod x0 128) + 128))))), (9, (.d (.i .u64 (Int.tmod x0 128)))), (8, (.d (.i .u64 x0))), (7, (.osl 3 5 1 (x3.map cU8)))]
   refine st 5 a3 (bsl_step (l := ([(IntKind.wrap .u8 (IntKind.wrap .u64 ((Int.tmod x0 128) + 128)))] : List Int)) (f := cU8) (g := cU8) (by kernel_rfl) (fun _ => rfl) (by kernel_rfl) ?_)
   refine app_step (t := 3) (l := x3) (m := ([(IntKind.wrap .u8 (IntKind.wrap .u64 ((Int.tmod x0 128) + 128)))] : List Int)) (f := cU8) (S' := fun y => ⟨[(13, (.osl 13 5 1 (y.map cU8))), (12, (.osl 12 5 1 (([(IntKind.wrap .u8 (IntKind.wrap .u64 ((Int.tmod x0 128) + 128)))] : List Int).map cU8))), (11, (.d (.i .u8 (IntKind.wrap .u8 (IntKind.wrap .u64 ((Int.tmod x0 128) + 128)))))), (10, (.d (.i .u64 (IntKind.wrap .u64 ((Int.tmod x0 128) + 128))))), (9, (.d (.i .u64 (Int.tmod x0 128)))), (8, (.d (.i .u64 x0))), (7, (.d (.sl 1 (x3.map cU8)))), (6, (vB (decide (127 < x0)))), (5, (.d (.i .u64 x0))), (0, (.d (.i .u64 x0))), (3, (.d (.sl 1 (x3.map cU8))))], []⟩) h (by kernel_rfl) (by kernel_rfl) (by kernel_rfl) (by kernel_rfl) (fun y => by kernel_rfl) ?_
   clear h; intro y1 h
   let a4 : St := ⟨[(3, (.osl 3 5 1 (y1.map cU8))), (13, (.d (.sl 1 (y1.map cU8)))), (12, (.osl 12 5 1 (([(IntKind.wrap .u8 (IntKind.wrap .u64 ((Int.tmod x0 128) + 128)))] : List Int).map cU8))), (11, (.d (.i .u8 (IntKind.wrap .u8 (IntKind.wrap .u64 ((Int.tmod x0 128) + 128)))))), (10, (.d (.i .u64 (IntKind.wrap .u64 ((Int.tmod x0 128) + 128))))), (9, (.d (.i .u64 (Int.tmod x0 128)))), (8, (.d (.i .u64 x0))), (7, (.d (.sl 1 (x3.map cU8)))), (6, (vB (decide (127 < x0)))), (5, (.d (.i .u64 x0))), (0, (.d (.i .u64 x0))), (3, (.d (.sl 1 (x3.map cU8))))], []⟩
   refine st 1 a4 (nx (oi ?_))
   let a5 : St := a4.p [(0, (.d (.i .u64 (IntKind.wrap .u64 (Int.tdiv x0 128))))), (15, (.d (.i .u64 (IntKind.wrap .u64 (Int.tdiv x0 128))))), (14, (.d (.i .u64 x0)))]
   exact st 3 a5 (ni (bn (loop_back (s' := stsPutVar_L0 (IntKind.wrap .u64 (Int.tdiv x0 128)) y1) (wr [(3, .old 3)] (es (eo 3 er_nil)) br_nil) (OK_sPutVar_L0 (IntKind.wrap .u64 (Int.tdiv x0 128)) y1 _ h))))
   refine ei (te (te (bh (xi (so ?_)))))
   let a6 : St := a2.p [(18, (.d (.i .u8 (IntKind.wrap .u8 x0)))), (17, (.d (.i .u64 x0))), (16, (.osl 3 5 1 (x3.map cU8)))]
   refine st 3 a6 (bsl_step (l := ([(IntKind.wrap .u8 x0)] : List Int)) (f := cU8) (g := cU8) (by kernel_rfl) (fun _ => rfl) (by kernel_rfl) ?_)
   refine app_step (t := 3) (l := x3) (m := ([(IntKind.wrap .u8 x0)] : List Int)) (f := cU8) (S' := fun y => ⟨[(20, (.osl 20 5 1 (y.map cU8))), (19, (.osl 19 5 1 (([(IntKind.wrap .u8 x0)] : List Int).map cU8))), (18, (.d (.i .u8 (IntKind.wrap .u8 x0)))), (17, (.d (.i .u64 x0))), (16, (.d (.sl 1 (x3.map cU8)))), (6, (vB (decide (127 < x0)))), (5, (.d (.i .u64 x0))), (0, (.d (.i .u64 x0))), (3, (.d (.sl 1 (x3.map cU8))))], []⟩) h (by kernel_rfl) (by kernel_rfl) (by kernel_rfl) (by kernel_rfl) (fun y => by kernel_rfl) ?_
   clear h; intro y2 h
   refine vs (fun (y : (List UInt8)) => (vS y)) h (fun y hy => vop_cbs (l := y2) hy (by kernel_rfl) (by kernel_rfl)) fun y3 h => ?_
   let a7 : St := ⟨[(2, (vS y3)), (21, (vS y3)), (20, (.osl 20 5 1 (y2.map cU8))), (19, (.osl 19 5 1 (([(IntKind.wrap .u8 x0)] : List Int).map cU8))), (18, (.d (.i .u8 (IntKind.wrap .u8 x0)))), (17, (.d (.i .u64 x0))), (16, (.d (.sl 1 (x3.map cU8)))), (6, (vB (decide (127 < x0)))), (5, (.d (.i .u64 x0))), (0, (.d (.i .u64 x0))), (3, (.d (.sl 1 (x3.map cU8))))], []⟩
   refine st 1 a7 (nx (ri ?_))
   injection h with h; subst h
   exact ret1_step (v := (vS y3)) (by kernel_rfl) (by kernel_rfl) (by kernel_rfl)
theorem OK_sPutVar_L0 (x0 : Int) (x3 : (List Int)) (r : (List UInt8)) (h : sPutVar_L0 x0 x3 = some r) : avc Try.prog acsPutVar_L0 (qsPutVar_1 r) (stsPutVar_L0 x0 x3) := (OKs_sPutVar_L0) x0 x3 r h
theorem OK_sPutVar (p0 : Int) : FOk Try.prog 52 [(.d (.i .u64 p0))] (fun y => (vS y)) (sPutVar p0) := by
 intro r h
 rw [sPutVar] at h
 refine acalls_of_fn trsPutVar (Nat.le_of_ble_eq_true rfl) (by simp) ?_
 show avc Try.prog acsPutVar (qsPutVar _) ⟨[(0, (.d (.i .u64 p0)))], []⟩
 delta acsPutVar
 refine so ?_
 let a0 : St := ⟨[(2, (vS [])), (0, (.d (.i .u64 p0)))], []⟩
 refine st 1 a0 (nx (so (bsl_step (l := ([] : List Int)) (f := cU8) (g := cU8) (by kernel_rfl) (fun _ => rfl) (by kernel_rfl) ?_)))
 let a1 : St := a0.p [(3, (.osl 3 5 1 (([] : List Int).map cU8))), (4, (.d (.sl 1 (([] : List Int).map cU8))))]
 exact st 1 a1 (nx (si (bi (loop_go (s' := stsPutVar_L0 p0 ([] : List Int)) (wr [(3, .old 3)] (es (eo 3 er_nil)) br_nil) (OK_sPutVar_L0 p0 ([] : List Int) _ h)))))
theorem OK_sZig (p0 : Int) : FOk Try.prog 53 [(vI p0)] (fun y => (.d (.i .u64 y))) (sZig p0) := by
 intro r h
 rw [sZig] at h
 refine acalls_of_fn trsZig (Nat.le_of_ble_eq_true rfl) (by simp) ?_
 show avc Try.prog acsZig (qsZig _) ⟨[(0, (vI p0))], []⟩
 delta acsZig
 refine so ?_
 let a0 : St := ⟨[(2, (.d (.i .u64 0))), (0, (vI p0))], []⟩
 refine st 1 a0 (nx (si (so ?_)))
 let a1 : St := a0.p [(4, (vB (decide (p0 < 0)))), (3, (vI p0))]
 refine st 2 a1 (nx ?_)
 refine cd h (fun h => ?_) fun h => ?_
 refine so ?_
 let a2 : St := a1.p [(2, (.d (.i .u64 (IntKind.wrap .u64 ((IntKind.wrap .u64 (2 * (IntKind.wrap .u64 (IntKind.wrap .i64 (0 - (IntKind.wrap .i64 (p0 + 1))))))) + 1))))), (10, (.d (.i .u64 (IntKind.wrap .u64 ((IntKind.wrap .u64 (2 * (IntKind.wrap .u64 (IntKind.wrap .i64 (0 - (IntKind.wrap .i64 (p0 + 1))))))) + 1))))), (9, (.d (.i .u64 (IntKind.wrap .u64 (2 * (IntKind.wrap .u64 (IntKind.wrap .i64 (0 - (IntKind.wrap .i64 (p0 + 1)))))))))), (8, (.d (.i .u64 (IntKind.wrap .u64 (IntKind.wrap .i64 (0 - (IntKind.wrap .i64 (p0 + 1)))))))), (7, (vI (IntKind.wrap .i64 (0 - (IntKind.wrap .i64 (p0 + 1)))))), (6, (vI (IntKind.wrap .i64 (p0 + 1)))), (5, (vI p0))]
 refine st 7 a2 (nx (ri (tr ?_)))
 injection h with h; subst h
 exact ret1_step (v := (.d (.i .u64 (IntKind.wrap .u64 ((IntKind.wrap .u64 (2 * (IntKind.wrap .u64 (IntKind.wrap .i64 (0 - (IntKind.wrap .i64 (p0 + 1))))))) + 1))))) (by kernel_rfl) (by kernel_rfl) (by kernel_rfl)
 refine ki (xi (so ?_))
 let a3 : St := a1.p [(2, (.d (.i .u64 (IntKind.wrap .u64 (2 * (IntKind.wrap .u64 p0)))))), (13, (.d (.i .u64 (IntKind.wrap .u64 (2 * (IntKind.wrap .u64 p0)))))), (12, (.d (.i .u64 (IntKind.wrap .u64 p0)))), (11, (vI p0))]
 refine st 4 a3 (nx (ri ?_))
 injection h with h; subst h
 exact ret1_step (v := (.d (.i .u64 (IntKind.wrap .u64 (2 * (IntKind.wrap .u64 p0)))))) (by kernel_rfl) (by kernel_rfl) (by kernel_rfl)
theorem OK_sL24Num_x (p0 : (List Int)) (p1 : Int) : FOkB Try.prog 42 [(.osl 4000000 5 1 (p0.map cU8)), (vI p1)] [] (fun (y : (List Int)) => (.osl 2000000 5 1 (y.map cU8))) (fun (y : (List Int)) => []) (sL24Num_x p0 p1) := by
 intro r h
 rw [sL24Num_x] at h
 refine acalls_of_fn trsL24Num_x (Nat.le_of_ble_eq_true rfl) (by simp) ?_
 show avc Try.prog acsL24Num_x (qsL24Num_x _) ⟨[(0, (.osl 4000000 5 1 (p0.map cU8))), (1, (vI p1))], []⟩
 delta acsL24Num_x
 refine so ?_
 let a0 : St := ⟨[(4, (.nil 1)), (0, (.osl 4000000 5 1 (p0.map cU8))), (1, (vI p1))], []⟩
 refine st 1 a0 (nx (so ?_))
 let a1 : St := a0.p [(6, (vI p1)), (5, (.osl 4000000 5 1 (p0.map cU8)))]
 refine st 2 a1 (cs h (OK_sZig p1) fun y1 h => (cs h (OK_sPutVar y1) fun y2 h => ?_))
 refine app_step (t := 4000000) (l := p0) (m := (toBytes y2)) (f := cU8) (S' := fun y => ⟨[(9, (.osl 9 5 1 (y.map cU8))), (8, (vS y2)), (7, (.d (.i .u64 y1))), (6, (vI p1)), (5, (.d (.sl 1 (p0.map cU8)))), (4, (.nil 1)), (0, (.d (.sl 1 (p0.map cU8)))), (1, (vI p1))], []⟩) h (by kernel_rfl) (by kernel_rfl) (by kernel_rfl) (by kernel_rfl) (fun y => by kernel_rfl) ?_
 clear h; intro y3 h
 let a2 : St := ⟨[(4, (.osl 4 5 1 (y3.map cU8))), (9, (.d (.sl 1 (y3.map cU8)))), (8, (vS y2)), (7, (.d (.i .u64 y1))), (6, (vI p1)), (5, (.d (.sl 1 (p0.map cU8)))), (4, (.nil 1)), (0, (.d (.sl 1 (p0.map cU8)))), (1, (vI p1))], []⟩
 refine st 1 a2 (nx (ret_wk (s' := ⟨[(4, (.osl 2000000 5 1 (y3.map cU8)))], []⟩) (wr [(2000000, .old 4)] (eo 4 er_nil) br_nil) ?_))
 injection h with h; subst h
 exact ret1_step (v := (.osl 2000000 5 1 (y3.map cU8))) (by kernel_rfl) (by kernel_rfl) ⟨by kernel_rfl, trivial⟩
theorem OK_sL24Flag_x (p0 : (List Int)) (p1 : Bool) : FOkB Try.prog 41 [(.osl 4000000 5 1 (p0.map cU8)), (vB p1)] [] (fun (y : (List Int)) => (.osl 2000000 5 1 (y.map cU8))) (fun (y : (List Int)) => []) (sL24Flag_x p0 p1) := by
 intro r h
 rw [sL24Flag_x] at h
 refine acalls_of_fn trsL24Flag_x (Nat.le_of_ble_eq_true rfl) (by simp) ?_
 show avc Try.prog acsL24Flag_x (qsL24Flag_x _) ⟨[(0, (.osl 4000000 5 1 (p0.map cU8))), (1, (vB p1))], []⟩
 delta acsL24Flag_x
 refine so ?_
 let a0 : St := ⟨[(4, (.nil 1)), (0, (.osl 4000000 5 1 (p0.map cU8))), (1, (vB p1))], []⟩
 refine st 1 a0 (nx (si (so ?_)))
 let a1 : St := a0.p [(5, (vB p1))]
 refine st 1 a1 (nx ?_)
 refine cd h (fun h => ?_) fun h => ?_
 refine so ?_
 let a2 : St := a1.p [(6, (.osl 4000000 5 1 (p0.map cU8)))]
 refine st 1 a2 ?_
 refine callg_step ⟨[], [(4000000, 4000000)], [], [], [], [(2000000, 7)], [], [7, 4000000]⟩ (m := sL24Num_x p0 1) (S' := fun (y : (List Int)) => ⟨[(7, (.osl 7 5 1 (y.map cU8))), (6, (.d (.sl 1 (p0.map cU8)))), (5, (vB p1)), (4, (.nil 1)), (0, (.d (.sl 1 (p0.map cU8)))), (1, (vB p1))], []⟩) h (OK_sL24Num_x p0 1) (by kernel_rfl) (by kernel_rfl) (by kernel_rfl) (by kernel_rfl) (fun y => by kernel_rfl) (fun y => by kernel_rfl) ?_
 clear h; intro y1 h
 let a3 : St := ⟨[(4, (.osl 4 5 1 (y1.map cU8))), (7, (.d (.sl 1 (y1.map cU8)))), (6, (.d (.sl 1 (p0.map cU8)))), (5, (vB p1)), (4, (.nil 1)), (0, (.d (.sl 1 (p0.map cU8)))), (1, (vB p1))], []⟩
 refine st 1 a3 (nx (ret_wk (s' := ⟨[(4, (.osl 2000000 5 1 (y1.map cU8)))], []⟩) (wr [(2000000, .old 4)] (eo 4 er_nil) br_nil) (tr ?_)))
 injection h with h; subst h
 exact ret1_step (v := (.osl 2000000 5 1 (y1.map cU8))) (by kernel_rfl) (by kernel_rfl) ⟨by kernel_rfl, trivial⟩
 refine ki (xi (so ?_))
 let a4 : St := a1.p [(8, (.osl 4000000 5 1 (p0.map cU8)))]
 refine st 1 a4 ?_
 refine callg_step ⟨[], [(4000000, 4000000)], [], [], [], [(2000000, 9)], [], [9, 4000000]⟩ (m := sL24Num_x p0 0) (S' := fun (y : (List Int)) => ⟨[(9, (.osl 9 5 1 (y.map cU8))), (8, (.d (.sl 1 (p0.map cU8)))), (5, (vB p1)), (4, (.nil 1)), (0, (.d (.sl 1 (p0.map cU8)))), (1, (vB p1))], []⟩) h (OK_sL24Num_x p0 0) (by kernel_rfl) (by kernel_rfl) (by kernel_rfl) (by kernel_rfl) (fun y => by kernel_rfl) (fun y => by kernel_rfl) ?_
 clear h; intro y2 h
 let a5 : St := ⟨[(4, (.osl 4 5 1 (y2.map cU8))), (9, (.d (.sl 1 (y2.map cU8)))), (8, (.d (.sl 1 (p0.map cU8)))), (5, (vB p1)), (4, (.nil 1)), (0, (.d (.sl 1 (p0.map cU8)))), (1, (vB p1))], []⟩
 refine st 1 a5 (nx (ret_wk (s' := ⟨[(4, (.osl 2000000 5 1 (y2.map cU8)))], []⟩) (wr [(2000000, .old 4)] (eo 4 er_nil) br_nil) ?_))
 injection h with h; subst h
 exact ret1_step (v := (.osl 2000000 5 1 (y2.map cU8))) (by kernel_rfl) (by kernel_rfl) ⟨by kernel_rfl, trivial⟩
theorem OK_sL24Text_x (p0 : (List Int)) (p1 : (List UInt8)) : FOkB Try.prog 43 [(.osl 4000000 5 1 (p0.map cU8)), (vS p1)] [] (fun (y : (List Int)) => (.osl 2000000 5 1 (y.map cU8))) (fun (y : (List Int)) => []) (sL24Text_x p0 p1) := by
 intro r h
 rw [sL24Text_x] at h
 refine acalls_of_fn trsL24Text_x (Nat.le_of_ble_eq_true rfl) (by simp) ?_
 show avc Try.prog acsL24Text_x (qsL24Text_x _) ⟨[(0, (.osl 4000000 5 1 (p0.map cU8))), (1, (vS p1))], []⟩
 delta acsL24Text_x
 refine so ?_
 let a0 : St := ⟨[(4, (.nil 1)), (0, (.osl 4000000 5 1 (p0.map cU8))), (1, (vS p1))], []⟩
 refine st 1 a0 (nx (so ?_))
 let a1 : St := a0.p [(7, (vI (p1.length : Int))), (6, (vS p1)), (5, (.osl 4000000 5 1 (p0.map cU8)))]
 refine st 3 a1 ?_
 refine callg_step ⟨[], [(4000000, 4000000)], [], [], [], [(2000000, 8)], [], [8, 4000000]⟩ (m := sL24Num_x p0 (p1.length : Int)) (S' := fun (y : (List Int)) => ⟨[(8, (.osl 8 5 1 (y.map cU8))), (7, (vI (p1.length : Int))), (6, (vS p1)), (5, (.d (.sl 1 (p0.map cU8)))), (4, (.nil 1)), (0, (.d (.sl 1 (p0.map cU8)))), (1, (vS p1))], []⟩) h (OK_sL24Num_x p0 (p1.length : Int)) (by kernel_rfl) (by kernel_rfl) (by kernel_rfl) (by kernel_rfl) (fun y => by kernel_rfl) (fun y => by kernel_rfl) ?_
 clear h; intro y1 h
 let a2 : St := ⟨[(9, (vS p1)), (8, (.osl 8 5 1 (y1.map cU8))), (7, (vI (p1.length : Int))), (6, (vS p1)), (5, (.d (.sl 1 (p0.map cU8)))), (4, (.nil 1)), (0, (.d (.sl 1 (p0.map cU8)))), (1, (vS p1))], []⟩
 refine st 1 a2 (app_step (t := 8) (l := y1) (m := (toBytes p1)) (f := cU8) (S' := fun y => ⟨[(10, (.osl 10 5 1 (y.map cU8))), (9, (vS p1)), (8, (.d (.sl 1 (y1.map cU8)))), (7, (vI (p1.length : Int))), (6, (vS p1)), (5, (.d (.sl 1 (p0.map cU8)))), (4, (.nil 1)), (0, (.d (.sl 1 (p0.map cU8)))), (1, (vS p1))], []⟩) h (by kernel_rfl) (by kernel_rfl) (by kernel_rfl) (by kernel_rfl) (fun y => by kernel_rfl) ?_)
 clear h; intro y2 h
 let a3 : St := ⟨[(4, (.osl 4 5 1 (y2.map cU8))), (10, (.d (.sl 1 (y2.map cU8)))), (9, (vS p1)), (8, (.d (.sl 1 (y1.map cU8)))), (7, (vI (p1.length : Int))), (6, (vS p1)), (5, (.d (.sl 1 (p0.map cU8)))), (4, (.nil 1)), (0, (.d (.sl 1 (p0.map cU8)))), (1, (vS p1))], []⟩
 refine st 1 a3 (nx (ret_wk (s' := ⟨[(4, (.osl 2000000 5 1 (y2.map cU8)))], []⟩) (wr [(2000000, .old 4)] (eo 4 er_nil) br_nil) ?_))
 injection h with h; subst h
 exact ret1_step (v := (.osl 2000000 5 1 (y2.map cU8))) (by kernel_rfl) (by kernel_rfl) ⟨by kernel_rfl, trivial⟩
theorem OKs_sL24Plan_x_L3 (p1 : GPlan) : (∀ (x0_17 : (List Int)) (x8 : Int) (r : (List Int)), sL24Plan_x_L3 p1 x0_17 x8 = some r → avc Try.prog acsL24Plan_x_L3 (qsL24Plan_x_7 r) (stsL24Plan_x_L3 p1 x0_17 x8)) := by
 refine sL24Plan_x_L3.partial_correctness p1 (fun x0_17 x8 r => avc Try.prog acsL24Plan_x_L3 (qsL24Plan_x_7 r) (stsL24Plan_x_L3 p1 x0_17 x8)) ?_
 · intro F_sL24Plan_x_L3 OK_sL24Plan_x_L3 x0_17 x8 r h
   delta acsL24Plan_x_L3
   refine loop_unroll (si (so ?_))
   let a36 : St := (stsL24Plan_x_L3 p1 x0_17 x8).p [(89, (.d (.sl 1 (p1.names.map cStr)))), (88, (.ptr 3 5)), (87, (vI x8))]
   refine st 3 a36 (ps (vI (p1.names.length : Int)) (vop_len (sz := 1) (l := p1.names) (f := cStr) (by kernel_rfl) (by kernel_rfl)) ?_)
   let a37 : St := a36.p [(91, (vB (decide (x8 < (p1.names.length : Int))))), (90, (vI (p1.names.length : Int)))]
   refine st 1 a37 (nx ?_)
   refine cd h (fun h => ?_) fun h => ?_
   refine ki (xi (si (bi (oi ?_))))
   let a38 : St := a37.p [(97, (vI x8)), (96, (.d (.sl 1 (p1.names.map cStr)))), (95, (.ptr 3 5)), (94, (.osl 0 5 1 (x0_17.map cU8)))]
   refine st 4 a38 (vs (fun (y : (List UInt8)) => (.rp [(.s (bs y))])) h (fun y hy => vop_ia (l := p1.names) (f := cStr) (g := cStr) (k := .i64) hy (fun _ => rfl) (by kernel_rfl) (by kernel_rfl) (by kernel_rfl)) fun y18 h => ?_)
   let a39 : St := a38.p [(99, (vS y18)), (98, (.rp [(.s (bs y18))]))]
   refine st 1 a39 ?_
   refine callg_step ⟨[], [(4000000, 0)], [], [], [], [(2000000, 100)], [], [0, 100]⟩ (m := sL24Text_x x0_17 y18) (S' := fun (y : (List Int)) => ⟨[(100, (.osl 100 5 1 (y.map cU8))), (99, (vS y18)), (98, (.rp [(.s (bs y18))])), (97, (vI x8)), (96, (.d (.sl 1 (p1.names.map cStr)))), (95, (.ptr 3 5)), (94, (.d (.sl 1 (x0_17.map cU8)))), (91, (vB (decide (x8 < (p1.names.length : Int))))), (90, (vI (p1.names.length : Int))), (89, (.d (.sl 1 (p1.names.map cStr)))), (88, (.ptr 3 5)), (87, (vI x8)), (0, (.d (.sl 1 (x0_17.map cU8)))), (3, (.ptr 3 0)), (8, (vI x8))], [(3, bGPlan p1)]⟩) h (OK_sL24Text_x x0_17 y18) (by kernel_rfl) (by kernel_rfl) (by kernel_rfl) (by kernel_rfl) (fun y => by kernel_rfl) (fun y => by kernel_rfl) ?_
   clear h; intro y19 h
   let a40 : St := ⟨[(0, (.osl 0 5 1 (y19.map cU8))), (100, (.d (.sl 1 (y19.map cU8)))), (99, (vS y18)), (98, (.rp [(.s (bs y18))])), (97, (vI x8)), (96, (.d (.sl 1 (p1.names.map cStr)))), (95, (.ptr 3 5)), (94, (.d (.sl 1 (x0_17.map cU8)))), (91, (vB (decide (x8 < (p1.names.length : Int))))), (90, (vI (p1.names.length : Int))), (89, (.d (.sl 1 (p1.names.map cStr)))), (88, (.ptr 3 5)), (87, (vI x8)), (0, (.d (.sl 1 (x0_17.map cU8)))), (3, (.ptr 3 0)), (8, (vI x8))], [(3, bGPlan p1)]⟩
   refine st 1 a40 (ni (bn (xi (oi ?_))))
   let a41 : St := a40.p [(8, (vI (IntKind.wrap .i64 (x8 + 1)))), (93, (vI (IntKind.wrap .i64 (x8 + 1)))), (92, (vI x8))]
   exact st 3 a41 (ni (loop_back (s' := stsL24Plan_x_L3 p1 y19 (IntKind.wrap .i64 (x8 + 1))) (wr [(0, .old 0)] (eo 0 (es (es er_nil))) (bs_ br_nil)) (OK_sL24Plan_x_L3 y19 (IntKind.wrap .i64 (x8 + 1)) _ h)))
   refine ei (te (te (bh (xi (si (dops_in ?_))))))
   let a42 : St := a37.p [(103, (vB p1.distinct)), (102, (.ptr 3 6)), (101, (.osl 0 5 1 (x0_17.map cU8)))]
   refine dsts_ok 3 (s' := a42) (by kernel_rfl) ?_
   refine dcallg_step ⟨[], [(4000000, 0)], [], [], [], [(2000000, 104)], [], [0, 104]⟩ [0, 101] [] (m := sL24Flag_x x0_17 p1.distinct) (S' := fun (y : (List Int)) => ⟨[(104, (.osl 104 5 1 (y.map cU8))), (103, (vB p1.distinct)), (102, (.ptr 3 6)), (101, (.d (.sl 1 (x0_17.map cU8)))), (91, (vB (decide (x8 < (p1.names.length : Int))))), (90, (vI (p1.names.length : Int))), (89, (.d (.sl 1 (p1.names.map cStr)))), (88, (.ptr 3 5)), (87, (vI x8)), (0, (.d (.sl 1 (x0_17.map cU8)))), (3, (.ptr 3 0)), (8, (vI x8))], [(3, bGPlan p1)]⟩) h (OK_sL24Flag_x x0_17 p1.distinct) (by kernel_rfl) (by kernel_rfl) (by kernel_rfl) (by kernel_rfl) (by kernel_rfl) (fun y => by kernel_rfl) (fun y => by kernel_rfl) ?_
   clear h; intro y20 h
   let a43 : St := ⟨[(106, (vI p1.limit)), (105, (.ptr 3 7)), (104, (.osl 104 5 1 (y20.map cU8))), (103, (vB p1.distinct)), (102, (.ptr 3 6)), (101, (.d (.sl 1 (x0_17.map cU8)))), (91, (vB (decide (x8 < (p1.names.length : Int))))), (90, (vI (p1.names.length : Int))), (89, (.d (.sl 1 (p1.names.map cStr)))), (88, (.ptr 3 5)), (87, (vI x8)), (0, (.d (.sl 1 (x0_17.map cU8)))), (3, (.ptr 3 0)), (8, (vI x8))], [(3, bGPlan p1)]⟩
   refine dsts_ok 2 (s' := a43) (by kernel_rfl) ?_
   refine dcallg_step ⟨[], [(4000000, 104)], [], [], [], [(2000000, 107)], [], [104, 107]⟩ [104] [] (m := sL24Num_x y20 p1.limit) (S' := fun (y : (List Int)) => ⟨[(107, (.osl 107 5 1 (y.map cU8))), (106, (vI p1.limit)), (105, (.ptr 3 7)), (104, (.d (.sl 1 (y20.map cU8)))), (103, (vB p1.distinct)), (102, (.ptr 3 6)), (101, (.d (.sl 1 (x0_17.map cU8)))), (91, (vB (decide (x8 < (p1.names.length : Int))))), (90, (vI (p1.names.length : Int))), (89, (.d (.sl 1 (p1.names.map cStr)))), (88, (.ptr 3 5)), (87, (vI x8)), (0, (.d (.sl 1 (x0_17.map cU8)))), (3, (.ptr 3 0)), (8, (vI x8))], [(3, bGPlan p1)]⟩) h (OK_sL24Num_x y20 p1.limit) (by kernel_rfl) (by kernel_rfl) (by kernel_rfl) (by kernel_rfl) (by kernel_rfl) (fun y => by kernel_rfl) (fun y => by kernel_rfl) ?_
   clear h; intro y21 h
   refine dasg_step (t := 107) (e := 5) (sz := 1) (l := y21.map cU8) [107] [] (by kernel_rfl) (by kernel_rfl) (s' := ⟨[(4, (.osl 4 5 1 (y21.map cU8))), (107, (.d (.sl 1 (y21.map cU8)))), (106, (vI p1.limit)), (105, (.ptr 3 7)), (104, (.d (.sl 1 (y20.map cU8)))), (103, (vB p1.distinct)), (102, (.ptr 3 6)), (101, (.d (.sl 1 (x0_17.map cU8)))), (91, (vB (decide (x8 < (p1.names.length : Int))))), (90, (vI (p1.names.length : Int))), (89, (.d (.sl 1 (p1.names.map cStr)))), (88, (.ptr 3 5)), (87, (vI x8)), (0, (.d (.sl 1 (x0_17.map cU8)))), (3, (.ptr 3 0)), (8, (vI x8))], [(3, bGPlan p1)]⟩) (by kernel_rfl) ?_
   refine dnil_in (by kernel_rfl) (by kernel_rfl) (xi (ret_wk (s' := ⟨[(4, (.osl 2000000 5 1 (y21.map cU8)))], []⟩) (wr [(2000000, .old 4)] (eo 4 er_nil) br_nil) ?_))
   injection h with h; subst h
   exact ret1_step (v := (.osl 2000000 5 1 (y21.map cU8))) (by kernel_rfl) (by kernel_rfl) ⟨by kernel_rfl, trivial⟩
theorem OK_sL24Plan_x_L3 (p1 : GPlan) (x0_17 : (List Int)) (x8 : Int) (r : (List Int)) (h : sL24Plan_x_L3 p1 x0_17 x8 = some r) : avc Try.prog acsL24Plan_x_L3 (qsL24Plan_x_7 r) (stsL24Plan_x_L3 p1 x0_17 x8) := (OKs_sL24Plan_x_L3 p1) x0_17 x8 r h
theorem OKs_sL24Plan_x_L2 : (∀ (p1 : GPlan) (x0_10 : (List Int)) (x7 : Int) (r : (List Int)), sL24Plan_x_L2 p1 x0_10 x7 = some r → avc Try.prog acsL24Plan_x_L2 (qsL24Plan_x_5 r) (stsL24Plan_x_L2 p1 x0_10 x7)) ∧ (∀ (p0 : (List Int)) (p1 : (List GPExpr)) (r : (List Int)), sL24Exprs_x p0 p1 = some r → ACalls Try.prog 44 [(.osl 4000000 5 1 (p0.map cU8)), (.d (.sl 10 (p1.map cGPExpr)))] [] fun x b => x = (fun (y : (List Int)) => (.osl 2000000 5 1 (y.map cU8))) r ∧ bxHas ((fun (y : (List Int)) => []) r) b) ∧ (∀ (p1 : (List GPExpr)) (x0 : (List Int)) (x5 : Int) (r : (List Int)), sL24Exprs_x_L0 p1 x0 x5 = some r → avc Try.prog acsL24Exprs_x_L0 (qsL24Exprs_x_1 r) (stsL24Exprs_x_L0 p1 x0 x5)) ∧ (∀ (p0 : (List Int)) (p1 : GPExpr) (r : (List Int)), sL24Expr_x p0 p1 = some r → ACalls Try.prog 18 [(.osl 4000000 5 1 (p0.map cU8)), (vGPExpr p1)] [] fun x b => x = (fun (y : (List Int)) => (.osl 2000000 5 1 (y.map cU8))) r ∧ bxHas ((fun (y : (List Int)) => []) r) b) ∧ (∀ (p1 : GPExpr) (x0 : (List Int)) (x5 : Int) (r : (List Int)), sL24Expr_x_L0 p1 x0 x5 = some r → avc Try.prog acsL24Expr_x_L0 (qsL24Expr_x_1 r) (stsL24Expr_x_L0 p1 x0 x5)) ∧ (∀ (p0 : (List Int)) (p1 : GPlan) (r : (List Int)), sL24Plan_x p0 p1 = some r → ACalls Try.prog 31 [(.osl 4000000 5 1 (p0.map cU8)), (vGPlan p1)] [] fun x b => x = (fun (y : (List Int)) => (.osl 2000000 5 1 (y.map cU8))) r ∧ bxHas ((fun (y : (List Int)) => []) r) b) ∧ (∀ (p1 : GPlan) (x0 : (List Int)) (x5 : Int) (r : (List Int)), sL24Plan_x_L0 p1 x0 x5 = some r → avc Try.prog acsL24Plan_x_L0 (qsL24Plan_x_1 r) (stsL24Plan_x_L0 p1 x0 x5)) ∧ (∀ (p1 : GPlan) (x0_5 : (List Int)) (x6 : Int) (r : (List Int)), sL24Plan_x_L1 p1 x0_5 x6 = some r → avc Try.prog acsL24Plan_x_L1 (qsL24Plan_x_3 r) (stsL24Plan_x_L1 p1 x0_5 x6)) := by
 refine sL24Plan_x_L2.mutual_partial_correctness (fun p1 x0_10 x7 r => avc Try.prog acsL24Plan_x_L2 (qsL24Plan_x_5 r) (stsL24Plan_x_L2 p1 x0_10 x7)) (fun p0 p1 r => ACalls Try.prog 44 [(.osl 4000000 5 1 (p0.map cU8)), (.d (.sl 10 (p1.map cGPExpr)))] [] fun x b => x = (fun (y : (List Int)) => (.osl 2000000 5 1 (y.map cU8))) r ∧ bxHas ((fun (y : (List Int)) => []) r) b) (fun p1 x0 x5 r => avc Try.prog acsL24Exprs_x_L0 (qsL24Exprs_x_1 r) (stsL24Exprs_x_L0 p1 x0 x5)) (fun p0 p1 r => ACalls Try.prog 18 [(.osl 4000000 5 1 (p0.map cU8)), (vGPExpr p1)] [] fun x b => x = (fun (y : (List Int)) => (.osl 2000000 5 1 (y.map cU8))) r ∧ bxHas ((fun (y : (List Int)) => []) r) b) (fun p1 x0 x5 r => avc Try.prog acsL24Expr_x_L0 (qsL24Expr_x_1 r) (stsL24Expr_x_L0 p1 x0 x5)) (fun p0 p1 r => ACalls Try.prog 31 [(.osl 4000000 5 1 (p0.map cU8)), (vGPlan p1)] [] fun x b => x = (fun (y : (List Int)) => (.osl 2000000 5 1 (y.map cU8))) r ∧ bxHas ((fun (y : (List Int)) => []) r) b) (fun p1 x0 x5 r => avc Try.prog acsL24Plan_x_L0 (qsL24Plan_x_1 r) (stsL24Plan_x_L0 p1 x0 x5)) (fun p1 x0_5 x6 r => avc Try.prog acsL24Plan_x_L1 (qsL24Plan_x_3 r) (stsL24Plan_x_L1 p1 x0_5 x6)) ?_ ?_ ?_ ?_ ?_ ?_ ?_ ?_
 · intro F_sL24Plan_x_L2 F_sL24Exprs_x F_sL24Expr_x OK_sL24Plan_x_L2 OK_sL24Exprs_x OK_sL24Expr_x p1 x0_10 x7 r h
   delta acsL24Plan_x_L2
   refine loop_unroll (si (so ?_))
   let a24 : St := (stsL24Plan_x_L2 p1 x0_10 x7).p [(58, (.d (.sl 11 (p1.order.map cGPSort)))), (57, (.ptr 3 3)), (56, (vI x7))]
   refine st 3 a24 (ps (vI (p1.order.length : Int)) (vop_len (sz := 11) (l := p1.order) (f := cGPSort) (by kernel_rfl) (by kernel_rfl)) ?_)
   let a25 : St := a24.p [(60, (vB (decide (x7 < (p1.order.length : Int))))), (59, (vI (p1.order.length : Int)))]
   refine st 1 a25 (nx ?_)
   refine cd h (fun h => ?_) fun h => ?_
   refine ki (xi (si (bi (dops_in ?_))))
   let a26 : St := a25.p [(66, (vI x7)), (65, (.d (.sl 11 (p1.order.map cGPSort)))), (64, (.ptr 3 3)), (63, (.osl 0 5 1 (x0_10.map cU8)))]
   refine dsts_ok 4 (s' := a26) (by kernel_rfl) (dv_step (m := idx p1.order x7) (v' := fun y => (.rp (oGPSort y))) h rfl rfl (fun y hy => vop_ia (l := p1.order) (f := cGPSort) (g := oGPSort) (k := .i64) hy cGPSort_eq (by kernel_rfl) (by kernel_rfl) (by kernel_rfl)) ?_)
   clear h; intro y11 h
   let a27 : St := a26.p [(69, (vGPExpr y11.expr)), (68, (.rp [(.i .i64 y11.expr.kind), (.i .i64 y11.expr.op), (.b y11.expr.not_), (.i .i64 y11.expr.value.kind), (.i .i64 y11.expr.value.num), (.s (bs y11.expr.value.text)), (.i .i64 y11.expr.up), (.i .i64 y11.expr.at_), (.sl 10 (y11.expr.kids.map cGPExpr)), (.sl 8 (y11.expr.sub.map cGPlan)), (.b y11.desc)])), (67, (.rp (oGPSort y11)))]
   refine dsts_ok 2 (s' := a27) (by kernel_rfl) ?_
   refine dcallg_step ⟨[], [(4000000, 0)], [], [], [], [(2000000, 70)], [], [0, 70]⟩ [0, 63] [] (m := F_sL24Expr_x x0_10 y11.expr) (S' := fun (y : (List Int)) => ⟨[(70, (.osl 70 5 1 (y.map cU8))), (69, (vGPExpr y11.expr)), (68, (.rp [(.i .i64 y11.expr.kind), (.i .i64 y11.expr.op), (.b y11.expr.not_), (.i .i64 y11.expr.value.kind), (.i .i64 y11.expr.value.num), (.s (bs y11.expr.value.text)), (.i .i64 y11.expr.up), (.i .i64 y11.expr.at_), (.sl 10 (y11.expr.kids.map cGPExpr)), (.sl 8 (y11.expr.sub.map cGPlan)), (.b y11.desc)])), (67, (.rp (oGPSort y11))), (66, (vI x7)), (65, (.d (.sl 11 (p1.order.map cGPSort)))), (64, (.ptr 3 3)), (63, (.d (.sl 1 (x0_10.map cU8)))), (60, (vB (decide (x7 < (p1.order.length : Int))))), (59, (vI (p1.order.length : Int))), (58, (.d (.sl 11 (p1.order.map cGPSort)))), (57, (.ptr 3 3)), (56, (vI x7)), (0, (.d (.sl 1 (x0_10.map cU8)))), (3, (.ptr 3 0)), (7, (vI x7))], [(3, bGPlan p1)]⟩) h (OK_sL24Expr_x x0_10 y11.expr) (by kernel_rfl) (by kernel_rfl) (by kernel_rfl) (by kernel_rfl) (by kernel_rfl) (fun y => by kernel_rfl) (fun y => by kernel_rfl) ?_
   clear h; intro y12 h
   let a28 : St := ⟨[(73, (vI x7)), (72, (.d (.sl 11 (p1.order.map cGPSort)))), (71, (.ptr 3 3)), (70, (.osl 70 5 1 (y12.map cU8))), (69, (vGPExpr y11.expr)), (68, (.rp [(.i .i64 y11.expr.kind), (.i .i64 y11.expr.op), (.b y11.expr.not_), (.i .i64 y11.expr.value.kind), (.i .i64 y11.expr.value.num), (.s (bs y11.expr.value.text)), (.i .i64 y11.expr.up), (.i .i64 y11.expr.at_), (.sl 10 (y11.expr.kids.map cGPExpr)), (.sl 8 (y11.expr.sub.map cGPlan)), (.b y11.desc)])), (67, (.rp (oGPSort y11))), (66, (vI x7)), (65, (.d (.sl 11 (p1.order.map cGPSort)))), (64, (.ptr 3 3)), (63, (.d (.sl 1 (x0_10.map cU8)))), (60, (vB (decide (x7 < (p1.order.length : Int))))), (59, (vI (p1.order.length : Int))), (58, (.d (.sl 11 (p1.order.map cGPSort)))), (57, (.ptr 3 3)), (56, (vI x7)), (0, (.d (.sl 1 (x0_10.map cU8)))), (3, (.ptr 3 0)), (7, (vI x7))], [(3, bGPlan p1)]⟩
   refine dsts_ok 3 (s' := a28) (by kernel_rfl) (dv_step (m := idx p1.order x7) (v' := fun y => (.rp (oGPSort y))) h rfl rfl (fun y hy => vop_ia (l := p1.order) (f := cGPSort) (g := oGPSort) (k := .i64) hy cGPSort_eq (by kernel_rfl) (by kernel_rfl) (by kernel_rfl)) ?_)
   clear h; intro y13 h
   let a29 : St := a28.p [(76, (vB y13.desc)), (75, (.rp [(.b y13.desc)])), (74, (.rp (oGPSort y13)))]
   refine dsts_ok 2 (s' := a29) (by kernel_rfl) ?_
   refine dcallg_step ⟨[], [(4000000, 70)], [], [], [], [(2000000, 77)], [], [70, 77]⟩ [70] [] (m := sL24Flag_x y12 y13.desc) (S' := fun (y : (List Int)) => ⟨[(77, (.osl 77 5 1 (y.map cU8))), (76, (vB y13.desc)), (75, (.rp [(.b y13.desc)])), (74, (.rp (oGPSort y13))), (73, (vI x7)), (72, (.d (.sl 11 (p1.order.map cGPSort)))), (71, (.ptr 3 3)), (70, (.d (.sl 1 (y12.map cU8)))), (69, (vGPExpr y11.expr)), (68, (.rp [(.i .i64 y11.expr.kind), (.i .i64 y11.expr.op), (.b y11.expr.not_), (.i .i64 y11.expr.value.kind), (.i .i64 y11.expr.value.num), (.s (bs y11.expr.value.text)), (.i .i64 y11.expr.up), (.i .i64 y11.expr.at_), (.sl 10 (y11.expr.kids.map cGPExpr)), (.sl 8 (y11.expr.sub.map cGPlan)), (.b y11.desc)])), (67, (.rp (oGPSort y11))), (66, (vI x7)), (65, (.d (.sl 11 (p1.order.map cGPSort)))), (64, (.ptr 3 3)), (63, (.d (.sl 1 (x0_10.map cU8)))), (60, (vB (decide (x7 < (p1.order.length : Int))))), (59, (vI (p1.order.length : Int))), (58, (.d (.sl 11 (p1.order.map cGPSort)))), (57, (.ptr 3 3)), (56, (vI x7)), (0, (.d (.sl 1 (x0_10.map cU8)))), (3, (.ptr 3 0)), (7, (vI x7))], [(3, bGPlan p1)]⟩) h (OK_sL24Flag_x y12 y13.desc) (by kernel_rfl) (by kernel_rfl) (by kernel_rfl) (by kernel_rfl) (by kernel_rfl) (fun y => by kernel_rfl) (fun y => by kernel_rfl) ?_
   clear h; intro y14 h
   refine dasg_step (t := 77) (e := 5) (sz := 1) (l := y14.map cU8) [0, 63, 77] [] (by kernel_rfl) (by kernel_rfl) (s' := ⟨[(0, (.osl 0 5 1 (y14.map cU8))), (77, (.d (.sl 1 (y14.map cU8)))), (76, (vB y13.desc)), (75, (.rp [(.b y13.desc)])), (74, (.rp (oGPSort y13))), (73, (vI x7)), (72, (.d (.sl 11 (p1.order.map cGPSort)))), (71, (.ptr 3 3)), (70, (.d (.sl 1 (y12.map cU8)))), (69, (vGPExpr y11.expr)), (68, (.rp [(.i .i64 y11.expr.kind), (.i .i64 y11.expr.op), (.b y11.expr.not_), (.i .i64 y11.expr.value.kind), (.i .i64 y11.expr.value.num), (.s (bs y11.expr.value.text)), (.i .i64 y11.expr.up), (.i .i64 y11.expr.at_), (.sl 10 (y11.expr.kids.map cGPExpr)), (.sl 8 (y11.expr.sub.map cGPlan)), (.b y11.desc)])), (67, (.rp (oGPSort y11))), (66, (vI x7)), (65, (.d (.sl 11 (p1.order.map cGPSort)))), (64, (.ptr 3 3)), (63, (.d (.sl 1 (x0_10.map cU8)))), (60, (vB (decide (x7 < (p1.order.length : Int))))), (59, (vI (p1.order.length : Int))), (58, (.d (.sl 11 (p1.order.map cGPSort)))), (57, (.ptr 3 3)), (56, (vI x7)), (0, (.d (.sl 1 (x0_10.map cU8)))), (3, (.ptr 3 0)), (7, (vI x7))], [(3, bGPlan p1)]⟩) (by kernel_rfl) ?_
   refine dnil_in (by kernel_rfl) (by kernel_rfl) (bn (xi (oi ?_)))
   let a30 : St := ⟨[(7, (vI (IntKind.wrap .i64 (x7 + 1)))), (62, (vI (IntKind.wrap .i64 (x7 + 1)))), (61, (vI x7)), (0, (.osl 0 5 1 (y14.map cU8))), (77, (.d (.sl 1 (y14.map cU8)))), (76, (vB y13.desc)), (75, (.rp [(.b y13.desc)])), (74, (.rp (oGPSort y13))), (73, (vI x7)), (72, (.d (.sl 11 (p1.order.map cGPSort)))), (71, (.ptr 3 3)), (70, (.d (.sl 1 (y12.map cU8)))), (69, (vGPExpr y11.expr)), (68, (.rp [(.i .i64 y11.expr.kind), (.i .i64 y11.expr.op), (.b y11.expr.not_), (.i .i64 y11.expr.value.kind), (.i .i64 y11.expr.value.num), (.s (bs y11.expr.value.text)), (.i .i64 y11.expr.up), (.i .i64 y11.expr.at_), (.sl 10 (y11.expr.kids.map cGPExpr)), (.sl 8 (y11.expr.sub.map cGPlan)), (.b y11.desc)])), (67, (.rp (oGPSort y11))), (66, (vI x7)), (65, (.d (.sl 11 (p1.order.map cGPSort)))), (64, (.ptr 3 3)), (63, (.d (.sl 1 (x0_10.map cU8)))), (60, (vB (decide (x7 < (p1.order.length : Int))))), (59, (vI (p1.order.length : Int))), (58, (.d (.sl 11 (p1.order.map cGPSort)))), (57, (.ptr 3 3)), (56, (vI x7)), (0, (.d (.sl 1 (x0_10.map cU8)))), (3, (.ptr 3 0)), (7, (vI x7))], [(3, bGPlan p1)]⟩
   exact st 3 a30 (ni (loop_back (s' := stsL24Plan_x_L2 p1 y14 (IntKind.wrap .i64 (x7 + 1))) (wr [(0, .old 0)] (eo 0 (es (es er_nil))) (bs_ br_nil)) (OK_sL24Plan_x_L2 p1 y14 (IntKind.wrap .i64 (x7 + 1)) _ h)))
   refine ei (te (te (bh (xi (so ?_)))))
   let a31 : St := a25.p [(80, (.d (.sl 10 (p1.items.map cGPExpr)))), (79, (.ptr 3 4)), (78, (.osl 0 5 1 (x0_10.map cU8)))]
   refine st 3 a31 ?_
   refine callg_step ⟨[], [(4000000, 0)], [], [], [], [(2000000, 81)], [], [0, 81]⟩ (m := F_sL24Exprs_x x0_10 p1.items) (S' := fun (y : (List Int)) => ⟨[(81, (.osl 81 5 1 (y.map cU8))), (80, (.d (.sl 10 (p1.items.map cGPExpr)))), (79, (.ptr 3 4)), (78, (.d (.sl 1 (x0_10.map cU8)))), (60, (vB (decide (x7 < (p1.order.length : Int))))), (59, (vI (p1.order.length : Int))), (58, (.d (.sl 11 (p1.order.map cGPSort)))), (57, (.ptr 3 3)), (56, (vI x7)), (0, (.d (.sl 1 (x0_10.map cU8)))), (3, (.ptr 3 0)), (7, (vI x7))], [(3, bGPlan p1)]⟩) h (OK_sL24Exprs_x x0_10 p1.items) (by kernel_rfl) (by kernel_rfl) (by kernel_rfl) (by kernel_rfl) (fun y => by kernel_rfl) (fun y => by kernel_rfl) ?_
   clear h; intro y15 h
   let a32 : St := ⟨[(0, (.osl 0 5 1 (y15.map cU8))), (81, (.d (.sl 1 (y15.map cU8)))), (80, (.d (.sl 10 (p1.items.map cGPExpr)))), (79, (.ptr 3 4)), (78, (.d (.sl 1 (x0_10.map cU8)))), (60, (vB (decide (x7 < (p1.order.length : Int))))), (59, (vI (p1.order.length : Int))), (58, (.d (.sl 11 (p1.order.map cGPSort)))), (57, (.ptr 3 3)), (56, (vI x7)), (0, (.d (.sl 1 (x0_10.map cU8)))), (3, (.ptr 3 0)), (7, (vI x7))], [(3, bGPlan p1)]⟩
   refine st 1 a32 (nx (so ?_))
   let a33 : St := a32.p [(84, (.d (.sl 1 (p1.names.map cStr)))), (83, (.ptr 3 5)), (82, (.osl 0 5 1 (y15.map cU8)))]
   refine st 3 a33 (ps (vI (p1.names.length : Int)) (vop_len (sz := 1) (l := p1.names) (f := cStr) (by kernel_rfl) (by kernel_rfl)) ?_)
   refine callg_step ⟨[], [(4000000, 0)], [], [], [], [(2000000, 86)], [], [0, 86]⟩ (m := sL24Num_x y15 (p1.names.length : Int)) (S' := fun (y : (List Int)) => ⟨[(86, (.osl 86 5 1 (y.map cU8))), (85, (vI (p1.names.length : Int))), (84, (.d (.sl 1 (p1.names.map cStr)))), (83, (.ptr 3 5)), (82, (.d (.sl 1 (y15.map cU8)))), (0, (.d (.sl 1 (y15.map cU8)))), (81, (.d (.sl 1 (y15.map cU8)))), (80, (.d (.sl 10 (p1.items.map cGPExpr)))), (79, (.ptr 3 4)), (78, (.d (.sl 1 (x0_10.map cU8)))), (60, (vB (decide (x7 < (p1.order.length : Int))))), (59, (vI (p1.order.length : Int))), (58, (.d (.sl 11 (p1.order.map cGPSort)))), (57, (.ptr 3 3)), (56, (vI x7)), (0, (.d (.sl 1 (x0_10.map cU8)))), (3, (.ptr 3 0)), (7, (vI x7))], [(3, bGPlan p1)]⟩) h (OK_sL24Num_x y15 (p1.names.length : Int)) (by kernel_rfl) (by kernel_rfl) (by kernel_rfl) (by kernel_rfl) (fun y => by kernel_rfl) (fun y => by kernel_rfl) ?_
   clear h; intro y16 h
   let a34 : St := ⟨[(0, (.osl 0 5 1 (y16.map cU8))), (86, (.d (.sl 1 (y16.map cU8)))), (85, (vI (p1.names.length : Int))), (84, (.d (.sl 1 (p1.names.map cStr)))), (83, (.ptr 3 5)), (82, (.d (.sl 1 (y15.map cU8)))), (0, (.d (.sl 1 (y15.map cU8)))), (81, (.d (.sl 1 (y15.map cU8)))), (80, (.d (.sl 10 (p1.items.map cGPExpr)))), (79, (.ptr 3 4)), (78, (.d (.sl 1 (x0_10.map cU8)))), (60, (vB (decide (x7 < (p1.order.length : Int))))), (59, (vI (p1.order.length : Int))), (58, (.d (.sl 11 (p1.order.map cGPSort)))), (57, (.ptr 3 3)), (56, (vI x7)), (0, (.d (.sl 1 (x0_10.map cU8)))), (3, (.ptr 3 0)), (7, (vI x7))], [(3, bGPlan p1)]⟩
   refine st 1 a34 (nx (si (so ?_)))
   let a35 : St := a34.p [(8, (vI 0))]
   exact st 1 a35 (nx (bi (loop_go (s' := stsL24Plan_x_L3 p1 y16 0) (wr [(0, .old 0)] (eo 0 (es (es er_nil))) (bs_ br_nil)) (OK_sL24Plan_x_L3 p1 y16 0 _ h))))
 · intro F_sL24Exprs_x_L0 OK_sL24Exprs_x_L0 p0 p1 r h
   refine acalls_of_fn trsL24Exprs_x (Nat.le_of_ble_eq_true rfl) (by simp) ?_
   show avc Try.prog acsL24Exprs_x (qsL24Exprs_x _) ⟨[(0, (.osl 4000000 5 1 (p0.map cU8))), (1, (.d (.sl 10 (p1.map cGPExpr))))], []⟩
   delta acsL24Exprs_x
   refine so ?_
   let a0 : St := ⟨[(4, (.nil 1)), (0, (.osl 4000000 5 1 (p0.map cU8))), (1, (.d (.sl 10 (p1.map cGPExpr))))], []⟩
   refine st 1 a0 (nx (so ?_))
   let a1 : St := a0.p [(7, (.d (.sl 10 (p1.map cGPExpr)))), (6, (.osl 4000000 5 1 (p0.map cU8)))]
   refine st 2 a1 (ps (vI (p1.length : Int)) (vop_len (sz := 10) (l := p1) (f := cGPExpr) (by kernel_rfl) (by kernel_rfl)) ?_)
   refine callg_step ⟨[], [(4000000, 4000000)], [], [], [], [(2000000, 9)], [], [9, 4000000]⟩ (m := sL24Num_x p0 (p1.length : Int)) (S' := fun (y : (List Int)) => ⟨[(9, (.osl 9 5 1 (y.map cU8))), (8, (vI (p1.length : Int))), (7, (.d (.sl 10 (p1.map cGPExpr)))), (6, (.d (.sl 1 (p0.map cU8)))), (4, (.nil 1)), (0, (.d (.sl 1 (p0.map cU8)))), (1, (.d (.sl 10 (p1.map cGPExpr))))], []⟩) h (OK_sL24Num_x p0 (p1.length : Int)) (by kernel_rfl) (by kernel_rfl) (by kernel_rfl) (by kernel_rfl) (fun y => by kernel_rfl) (fun y => by kernel_rfl) ?_
   clear h; intro y1 h
   let a2 : St := ⟨[(0, (.osl 0 5 1 (y1.map cU8))), (9, (.d (.sl 1 (y1.map cU8)))), (8, (vI (p1.length : Int))), (7, (.d (.sl 10 (p1.map cGPExpr)))), (6, (.d (.sl 1 (p0.map cU8)))), (4, (.nil 1)), (0, (.d (.sl 1 (p0.map cU8)))), (1, (.d (.sl 10 (p1.map cGPExpr))))], []⟩
   refine st 1 a2 (nx (si (so ?_)))
   let a3 : St := a2.p [(5, (vI 0))]
   exact st 1 a3 (nx (bi (loop_go (s' := stsL24Exprs_x_L0 p1 y1 0) (wr [(0, .old 0)] (eo 0 (es (es er_nil))) br_nil) (OK_sL24Exprs_x_L0 p1 y1 0 _ h))))
 · intro F_sL24Exprs_x_L0 F_sL24Expr_x OK_sL24Exprs_x_L0 OK_sL24Expr_x p1 x0 x5 r h
   delta acsL24Exprs_x_L0
   refine loop_unroll (si (so ?_))
   let a4 : St := (stsL24Exprs_x_L0 p1 x0 x5).p [(11, (.d (.sl 10 (p1.map cGPExpr)))), (10, (vI x5))]
   refine st 2 a4 (ps (vI (p1.length : Int)) (vop_len (sz := 10) (l := p1) (f := cGPExpr) (by kernel_rfl) (by kernel_rfl)) ?_)
   let a5 : St := a4.p [(13, (vB (decide (x5 < (p1.length : Int))))), (12, (vI (p1.length : Int)))]
   refine st 1 a5 (nx ?_)
   refine cd h (fun h => ?_) fun h => ?_
   refine ki (xi (si (bi (oi ?_))))
   let a6 : St := a5.p [(18, (vI x5)), (17, (.d (.sl 10 (p1.map cGPExpr)))), (16, (.osl 0 5 1 (x0.map cU8)))]
   refine st 3 a6 (vs (fun (y : GPExpr) => (.rp (oGPExpr y))) h (fun y hy => vop_ia (l := p1) (f := cGPExpr) (g := oGPExpr) (k := .i64) hy cGPExpr_eq (by kernel_rfl) (by kernel_rfl) (by kernel_rfl)) fun y2 h => ?_)
   let a7 : St := a6.p [(20, (vGPExpr y2)), (19, (.rp (oGPExpr y2)))]
   refine st 1 a7 ?_
   refine callg_step ⟨[], [(4000000, 0)], [], [], [], [(2000000, 21)], [], [0, 21]⟩ (m := F_sL24Expr_x x0 y2) (S' := fun (y : (List Int)) => ⟨[(21, (.osl 21 5 1 (y.map cU8))), (20, (vGPExpr y2)), (19, (.rp (oGPExpr y2))), (18, (vI x5)), (17, (.d (.sl 10 (p1.map cGPExpr)))), (16, (.d (.sl 1 (x0.map cU8)))), (13, (vB (decide (x5 < (p1.length : Int))))), (12, (vI (p1.length : Int))), (11, (.d (.sl 10 (p1.map cGPExpr)))), (10, (vI x5)), (0, (.d (.sl 1 (x0.map cU8)))), (1, (.d (.sl 10 (p1.map cGPExpr)))), (5, (vI x5))], []⟩) h (OK_sL24Expr_x x0 y2) (by kernel_rfl) (by kernel_rfl) (by kernel_rfl) (by kernel_rfl) (fun y => by kernel_rfl) (fun y => by kernel_rfl) ?_
   clear h; intro y3 h
   let a8 : St := ⟨[(0, (.osl 0 5 1 (y3.map cU8))), (21, (.d (.sl 1 (y3.map cU8)))), (20, (vGPExpr y2)), (19, (.rp (oGPExpr y2))), (18, (vI x5)), (17, (.d (.sl 10 (p1.map cGPExpr)))), (16, (.d (.sl 1 (x0.map cU8)))), (13, (vB (decide (x5 < (p1.length : Int))))), (12, (vI (p1.length : Int))), (11, (.d (.sl 10 (p1.map cGPExpr)))), (10, (vI x5)), (0, (.d (.sl 1 (x0.map cU8)))), (1, (.d (.sl 10 (p1.map cGPExpr)))), (5, (vI x5))], []⟩
   refine st 1 a8 (ni (bn (xi (oi ?_))))
   let a9 : St := a8.p [(5, (vI (IntKind.wrap .i64 (x5 + 1)))), (15, (vI (IntKind.wrap .i64 (x5 + 1)))), (14, (vI x5))]
   exact st 3 a9 (ni (loop_back (s' := stsL24Exprs_x_L0 p1 y3 (IntKind.wrap .i64 (x5 + 1))) (wr [(0, .old 0)] (eo 0 (es (es er_nil))) br_nil) (OK_sL24Exprs_x_L0 p1 y3 (IntKind.wrap .i64 (x5 + 1)) _ h)))
   refine ei (te (te (bh (xi (so ?_)))))
   let a10 : St := ⟨[(4, (.osl 4 5 1 (x0.map cU8))), (22, (.d (.sl 1 (x0.map cU8)))), (13, (vB (decide (x5 < (p1.length : Int))))), (12, (vI (p1.length : Int))), (11, (.d (.sl 10 (p1.map cGPExpr)))), (10, (vI x5)), (0, (.d (.sl 1 (x0.map cU8)))), (1, (.d (.sl 10 (p1.map cGPExpr)))), (5, (vI x5))], []⟩
   refine st 2 a10 (nx (ret_wk (s' := ⟨[(4, (.osl 2000000 5 1 (x0.map cU8)))], []⟩) (wr [(2000000, .old 4)] (eo 4 er_nil) br_nil) ?_))
   injection h with h; subst h
   exact ret1_step (v := (.osl 2000000 5 1 (x0.map cU8))) (by kernel_rfl) (by kernel_rfl) ⟨by kernel_rfl, trivial⟩
 · intro F_sL24Exprs_x F_sL24Expr_x_L0 OK_sL24Exprs_x OK_sL24Expr_x_L0 p0 p1 r h
   refine acalls_of_fn trsL24Expr_x (Nat.le_of_ble_eq_true rfl) (by simp) ?_
   show avc Try.prog acsL24Expr_x (qsL24Expr_x _) ⟨[(0, (.osl 4000000 5 1 (p0.map cU8))), (1, (vGPExpr p1))], []⟩
   delta acsL24Expr_x
   refine so ?_
   let a0 : St := ⟨[(4, (.nil 1)), (3, (.ptr 3 0)), (0, (.osl 4000000 5 1 (p0.map cU8))), (1, (vGPExpr p1))], [(3, bGPExpr p1)]⟩
   refine st 2 a0 (nx (si (dops_in ?_)))
   let a1 : St := a0.p [(8, (vI p1.kind)), (7, (.ptr 3 0)), (6, (.osl 4000000 5 1 (p0.map cU8)))]
   refine dsts_ok 3 (s' := a1) (by kernel_rfl) ?_
   refine dcallg_step ⟨[], [(4000000, 4000000)], [], [], [], [(2000000, 9)], [], [9, 4000000]⟩ [0, 6] [] (m := sL24Num_x p0 p1.kind) (S' := fun (y : (List Int)) => ⟨[(9, (.osl 9 5 1 (y.map cU8))), (8, (vI p1.kind)), (7, (.ptr 3 0)), (6, (.d (.sl 1 (p0.map cU8)))), (4, (.nil 1)), (3, (.ptr 3 0)), (0, (.d (.sl 1 (p0.map cU8)))), (1, (vGPExpr p1))], [(3, bGPExpr p1)]⟩) h (OK_sL24Num_x p0 p1.kind) (by kernel_rfl) (by kernel_rfl) (by kernel_rfl) (by kernel_rfl) (by kernel_rfl) (fun y => by kernel_rfl) (fun y => by kernel_rfl) ?_
   clear h; intro y1 h
   let a2 : St := ⟨[(11, (vI p1.op)), (10, (.ptr 3 1)), (9, (.osl 9 5 1 (y1.map cU8))), (8, (vI p1.kind)), (7, (.ptr 3 0)), (6, (.d (.sl 1 (p0.map cU8)))), (4, (.nil 1)), (3, (.ptr 3 0)), (0, (.d (.sl 1 (p0.map cU8)))), (1, (vGPExpr p1))], [(3, bGPExpr p1)]⟩
   refine dsts_ok 2 (s' := a2) (by kernel_rfl) ?_
   refine dcallg_step ⟨[], [(4000000, 9)], [], [], [], [(2000000, 12)], [], [9, 12]⟩ [9] [] (m := sL24Num_x y1 p1.op) (S' := fun (y : (List Int)) => ⟨[(12, (.osl 12 5 1 (y.map cU8))), (11, (vI p1.op)), (10, (.ptr 3 1)), (9, (.d (.sl 1 (y1.map cU8)))), (8, (vI p1.kind)), (7, (.ptr 3 0)), (6, (.d (.sl 1 (p0.map cU8)))), (4, (.nil 1)), (3, (.ptr 3 0)), (0, (.d (.sl 1 (p0.map cU8)))), (1, (vGPExpr p1))], [(3, bGPExpr p1)]⟩) h (OK_sL24Num_x y1 p1.op) (by kernel_rfl) (by kernel_rfl) (by kernel_rfl) (by kernel_rfl) (by kernel_rfl) (fun y => by kernel_rfl) (fun y => by kernel_rfl) ?_
   clear h; intro y2 h
   let a3 : St := ⟨[(14, (vB p1.not_)), (13, (.ptr 3 2)), (12, (.osl 12 5 1 (y2.map cU8))), (11, (vI p1.op)), (10, (.ptr 3 1)), (9, (.d (.sl 1 (y1.map cU8)))), (8, (vI p1.kind)), (7, (.ptr 3 0)), (6, (.d (.sl 1 (p0.map cU8)))), (4, (.nil 1)), (3, (.ptr 3 0)), (0, (.d (.sl 1 (p0.map cU8)))), (1, (vGPExpr p1))], [(3, bGPExpr p1)]⟩
   refine dsts_ok 2 (s' := a3) (by kernel_rfl) ?_
   refine dcallg_step ⟨[], [(4000000, 12)], [], [], [], [(2000000, 15)], [], [12, 15]⟩ [12] [] (m := sL24Flag_x y2 p1.not_) (S' := fun (y : (List Int)) => ⟨[(15, (.osl 15 5 1 (y.map cU8))), (14, (vB p1.not_)), (13, (.ptr 3 2)), (12, (.d (.sl 1 (y2.map cU8)))), (11, (vI p1.op)), (10, (.ptr 3 1)), (9, (.d (.sl 1 (y1.map cU8)))), (8, (vI p1.kind)), (7, (.ptr 3 0)), (6, (.d (.sl 1 (p0.map cU8)))), (4, (.nil 1)), (3, (.ptr 3 0)), (0, (.d (.sl 1 (p0.map cU8)))), (1, (vGPExpr p1))], [(3, bGPExpr p1)]⟩) h (OK_sL24Flag_x y2 p1.not_) (by kernel_rfl) (by kernel_rfl) (by kernel_rfl) (by kernel_rfl) (by kernel_rfl) (fun y => by kernel_rfl) (fun y => by kernel_rfl) ?_
   clear h; intro y3 h
   refine dasg_step (t := 15) (e := 5) (sz := 1) (l := y3.map cU8) [15] [] (by kernel_rfl) (by kernel_rfl) (s' := ⟨[(0, (.osl 0 5 1 (y3.map cU8))), (15, (.d (.sl 1 (y3.map cU8)))), (14, (vB p1.not_)), (13, (.ptr 3 2)), (12, (.d (.sl 1 (y2.map cU8)))), (11, (vI p1.op)), (10, (.ptr 3 1)), (9, (.d (.sl 1 (y1.map cU8)))), (8, (vI p1.kind)), (7, (.ptr 3 0)), (6, (.d (.sl 1 (p0.map cU8)))), (4, (.nil 1)), (3, (.ptr 3 0)), (0, (.d (.sl 1 (p0.map cU8)))), (1, (vGPExpr p1))], [(3, bGPExpr p1)]⟩) (by kernel_rfl) ?_
   refine dnil_in (by kernel_rfl) (by kernel_rfl) (xi (si (dops_in ?_)))
   let a4 : St := ⟨[(19, (vI p1.value.kind)), (18, (.ptr 3 3)), (17, (.ptr 3 3)), (16, (.osl 0 5 1 (y3.map cU8))), (0, (.osl 0 5 1 (y3.map cU8))), (15, (.d (.sl 1 (y3.map cU8)))), (14, (vB p1.not_)), (13, (.ptr 3 2)), (12, (.d (.sl 1 (y2.map cU8)))), (11, (vI p1.op)), (10, (.ptr 3 1)), (9, (.d (.sl 1 (y1.map cU8)))), (8, (vI p1.kind)), (7, (.ptr 3 0)), (6, (.d (.sl 1 (p0.map cU8)))), (4, (.nil 1)), (3, (.ptr 3 0)), (0, (.d (.sl 1 (p0.map cU8)))), (1, (vGPExpr p1))], [(3, bGPExpr p1)]⟩
   refine dsts_ok 4 (s' := a4) (by kernel_rfl) ?_
   refine dcallg_step ⟨[], [(4000000, 0)], [], [], [], [(2000000, 20)], [], [0, 20]⟩ [0, 16] [] (m := sL24Num_x y3 p1.value.kind) (S' := fun (y : (List Int)) => ⟨[(20, (.osl 20 5 1 (y.map cU8))), (19, (vI p1.value.kind)), (18, (.ptr 3 3)), (17, (.ptr 3 3)), (16, (.d (.sl 1 (y3.map cU8)))), (0, (.d (.sl 1 (y3.map cU8)))), (15, (.d (.sl 1 (y3.map cU8)))), (14, (vB p1.not_)), (13, (.ptr 3 2)), (12, (.d (.sl 1 (y2.map cU8)))), (11, (vI p1.op)), (10, (.ptr 3 1)), (9, (.d (.sl 1 (y1.map cU8)))), (8, (vI p1.kind)), (7, (.ptr 3 0)), (6, (.d (.sl 1 (p0.map cU8)))), (4, (.nil 1)), (3, (.ptr 3 0)), (0, (.d (.sl 1 (p0.map cU8)))), (1, (vGPExpr p1))], [(3, bGPExpr p1)]⟩) h (OK_sL24Num_x y3 p1.value.kind) (by kernel_rfl) (by kernel_rfl) (by kernel_rfl) (by kernel_rfl) (by kernel_rfl) (fun y => by kernel_rfl) (fun y => by kernel_rfl) ?_
   clear h; intro y4 h
   let a5 : St := ⟨[(23, (vI p1.value.num)), (22, (.ptr 3 4)), (21, (.ptr 3 3)), (20, (.osl 20 5 1 (y4.map cU8))), (19, (vI p1.value.kind)), (18, (.ptr 3 3)), (17, (.ptr 3 3)), (16, (.d (.sl 1 (y3.map cU8)))), (0, (.d (.sl 1 (y3.map cU8)))), (15, (.d (.sl 1 (y3.map cU8)))), (14, (vB p1.not_)), (13, (.ptr 3 2)), (12, (.d (.sl 1 (y2.map cU8)))), (11, (vI p1.op)), (10, (.ptr 3 1)), (9, (.d (.sl 1 (y1.map cU8)))), (8, (vI p1.kind)), (7, (.ptr 3 0)), (6, (.d (.sl 1 (p0.map cU8)))), (4, (.nil 1)), (3, (.ptr 3 0)), (0, (.d (.sl 1 (p0.map cU8)))), (1, (vGPExpr p1))], [(3, bGPExpr p1)]⟩
   refine dsts_ok 3 (s' := a5) (by kernel_rfl) ?_
   refine dcallg_step ⟨[], [(4000000, 20)], [], [], [], [(2000000, 24)], [], [20, 24]⟩ [20] [] (m := sL24Num_x y4 p1.value.num) (S' := fun (y : (List Int)) => ⟨[(24, (.osl 24 5 1 (y.map cU8))), (23, (vI p1.value.num)), (22, (.ptr 3 4)), (21, (.ptr 3 3)), (20, (.d (.sl 1 (y4.map cU8)))), (19, (vI p1.value.kind)), (18, (.ptr 3 3)), (17, (.ptr 3 3)), (16, (.d (.sl 1 (y3.map cU8)))), (0, (.d (.sl 1 (y3.map cU8)))), (15, (.d (.sl 1 (y3.map cU8)))), (14, (vB p1.not_)), (13, (.ptr 3 2)), (12, (.d (.sl 1 (y2.map cU8)))), (11, (vI p1.op)), (10, (.ptr 3 1)), (9, (.d (.sl 1 (y1.map cU8)))), (8, (vI p1.kind)), (7, (.ptr 3 0)), (6, (.d (.sl 1 (p0.map cU8)))), (4, (.nil 1)), (3, (.ptr 3 0)), (0, (.d (.sl 1 (p0.map cU8)))), (1, (vGPExpr p1))], [(3, bGPExpr p1)]⟩) h (OK_sL24Num_x y4 p1.value.num) (by kernel_rfl) (by kernel_rfl) (by kernel_rfl) (by kernel_rfl) (by kernel_rfl) (fun y => by kernel_rfl) (fun y => by kernel_rfl) ?_
   clear h; intro y5 h
   let a6 : St := ⟨[(27, (vS p1.value.text)), (26, (.ptr 3 5)), (25, (.ptr 3 3)), (24, (.osl 24 5 1 (y5.map cU8))), (23, (vI p1.value.num)), (22, (.ptr 3 4)), (21, (.ptr 3 3)), (20, (.d (.sl 1 (y4.map cU8)))), (19, (vI p1.value.kind)), (18, (.ptr 3 3)), (17, (.ptr 3 3)), (16, (.d (.sl 1 (y3.map cU8)))), (0, (.d (.sl 1 (y3.map cU8)))), (15, (.d (.sl 1 (y3.map cU8)))), (14, (vB p1.not_)), (13, (.ptr 3 2)), (12, (.d (.sl 1 (y2.map cU8)))), (11, (vI p1.op)), (10, (.ptr 3 1)), (9, (.d (.sl 1 (y1.map cU8)))), (8, (vI p1.kind)), (7, (.ptr 3 0)), (6, (.d (.sl 1 (p0.map cU8)))), (4, (.nil 1)), (3, (.ptr 3 0)), (0, (.d (.sl 1 (p0.map cU8)))), (1, (vGPExpr p1))], [(3, bGPExpr p1)]⟩
   refine dsts_ok 3 (s' := a6) (by kernel_rfl) ?_
   refine dcallg_step ⟨[], [(4000000, 24)], [], [], [], [(2000000, 28)], [], [24, 28]⟩ [24] [] (m := sL24Text_x y5 p1.value.text) (S' := fun (y : (List Int)) => ⟨[(28, (.osl 28 5 1 (y.map cU8))), (27, (vS p1.value.text)), (26, (.ptr 3 5)), (25, (.ptr 3 3)), (24, (.d (.sl 1 (y5.map cU8)))), (23, (vI p1.value.num)), (22, (.ptr 3 4)), (21, (.ptr 3 3)), (20, (.d (.sl 1 (y4.map cU8)))), (19, (vI p1.value.kind)), (18, (.ptr 3 3)), (17, (.ptr 3 3)), (16, (.d (.sl 1 (y3.map cU8)))), (0, (.d (.sl 1 (y3.map cU8)))), (15, (.d (.sl 1 (y3.map cU8)))), (14, (vB p1.not_)), (13, (.ptr 3 2)), (12, (.d (.sl 1 (y2.map cU8)))), (11, (vI p1.op)), (10, (.ptr 3 1)), (9, (.d (.sl 1 (y1.map cU8)))), (8, (vI p1.kind)), (7, (.ptr 3 0)), (6, (.d (.sl 1 (p0.map cU8)))), (4, (.nil 1)), (3, (.ptr 3 0)), (0, (.d (.sl 1 (p0.map cU8)))), (1, (vGPExpr p1))], [(3, bGPExpr p1)]⟩) h (OK_sL24Text_x y5 p1.value.text) (by kernel_rfl) (by kernel_rfl) (by kernel_rfl) (by kernel_rfl) (by kernel_rfl) (fun y => by kernel_rfl) (fun y => by kernel_rfl) ?_
   clear h; intro y6 h
   refine dasg_step (t := 28) (e := 5) (sz := 1) (l := y6.map cU8) [0, 16, 28] [] (by kernel_rfl) (by kernel_rfl) (s' := ⟨[(0, (.osl 0 5 1 (y6.map cU8))), (28, (.d (.sl 1 (y6.map cU8)))), (27, (vS p1.value.text)), (26, (.ptr 3 5)), (25, (.ptr 3 3)), (24, (.d (.sl 1 (y5.map cU8)))), (23, (vI p1.value.num)), (22, (.ptr 3 4)), (21, (.ptr 3 3)), (20, (.d (.sl 1 (y4.map cU8)))), (19, (vI p1.value.kind)), (18, (.ptr 3 3)), (17, (.ptr 3 3)), (16, (.d (.sl 1 (y3.map cU8)))), (0, (.d (.sl 1 (y3.map cU8)))), (15, (.d (.sl 1 (y3.map cU8)))), (14, (vB p1.not_)), (13, (.ptr 3 2)), (12, (.d (.sl 1 (y2.map cU8)))), (11, (vI p1.op)), (10, (.ptr 3 1)), (9, (.d (.sl 1 (y1.map cU8)))), (8, (vI p1.kind)), (7, (.ptr 3 0)), (6, (.d (.sl 1 (p0.map cU8)))), (4, (.nil 1)), (3, (.ptr 3 0)), (0, (.d (.sl 1 (p0.map cU8)))), (1, (vGPExpr p1))], [(3, bGPExpr p1)]⟩) (by kernel_rfl) ?_
   refine dnil_in (by kernel_rfl) (by kernel_rfl) (xi (si (dops_in ?_)))
   let a7 : St := ⟨[(31, (vI p1.up)), (30, (.ptr 3 6)), (29, (.osl 0 5 1 (y6.map cU8))), (0, (.osl 0 5 1 (y6.map cU8))), (28, (.d (.sl 1 (y6.map cU8)))), (27, (vS p1.value.text)), (26, (.ptr 3 5)), (25, (.ptr 3 3)), (24, (.d (.sl 1 (y5.map cU8)))), (23, (vI p1.value.num)), (22, (.ptr 3 4)), (21, (.ptr 3 3)), (20, (.d (.sl 1 (y4.map cU8)))), (19, (vI p1.value.kind)), (18, (.ptr 3 3)), (17, (.ptr 3 3)), (16, (.d (.sl 1 (y3.map cU8)))), (0, (.d (.sl 1 (y3.map cU8)))), (15, (.d (.sl 1 (y3.map cU8)))), (14, (vB p1.not_)), (13, (.ptr 3 2)), (12, (.d (.sl 1 (y2.map cU8)))), (11, (vI p1.op)), (10, (.ptr 3 1)), (9, (.d (.sl 1 (y1.map cU8)))), (8, (vI p1.kind)), (7, (.ptr 3 0)), (6, (.d (.sl 1 (p0.map cU8)))), (4, (.nil 1)), (3, (.ptr 3 0)), (0, (.d (.sl 1 (p0.map cU8)))), (1, (vGPExpr p1))], [(3, bGPExpr p1)]⟩
   refine dsts_ok 3 (s' := a7) (by kernel_rfl) ?_
   refine dcallg_step ⟨[], [(4000000, 0)], [], [], [], [(2000000, 32)], [], [0, 32]⟩ [0, 29] [] (m := sL24Num_x y6 p1.up) (S' := fun (y : (List Int)) => ⟨[(32, (.osl 32 5 1 (y.map cU8))), (31, (vI p1.up)), (30, (.ptr 3 6)), (29, (.d (.sl 1 (y6.map cU8)))), (0, (.d (.sl 1 (y6.map cU8)))), (28, (.d (.sl 1 (y6.map cU8)))), (27, (vS p1.value.text)), (26, (.ptr 3 5)), (25, (.ptr 3 3)), (24, (.d (.sl 1 (y5.map cU8)))), (23, (vI p1.value.num)), (22, (.ptr 3 4)), (21, (.ptr 3 3)), (20, (.d (.sl 1 (y4.map cU8)))), (19, (vI p1.value.kind)), (18, (.ptr 3 3)), (17, (.ptr 3 3)), (16, (.d (.sl 1 (y3.map cU8)))), (0, (.d (.sl 1 (y3.map cU8)))), (15, (.d (.sl 1 (y3.map cU8)))), (14, (vB p1.not_)), (13, (.ptr 3 2)), (12, (.d (.sl 1 (y2.map cU8)))), (11, (vI p1.op)), (10, (.ptr 3 1)), (9, (.d (.sl 1 (y1.map cU8)))), (8, (vI p1.kind)), (7, (.ptr 3 0)), (6, (.d (.sl 1 (p0.map cU8)))), (4, (.nil 1)), (3, (.ptr 3 0)), (0, (.d (.sl 1 (p0.map cU8)))), (1, (vGPExpr p1))], [(3, bGPExpr p1)]⟩) h (OK_sL24Num_x y6 p1.up) (by kernel_rfl) (by kernel_rfl) (by kernel_rfl) (by kernel_rfl) (by kernel_rfl) (fun y => by kernel_rfl) (fun y => by kernel_rfl) ?_
   clear h; intro y7 h
   let a8 : St := ⟨[(34, (vI p1.at_)), (33, (.ptr 3 7)), (32, (.osl 32 5 1 (y7.map cU8))), (31, (vI p1.up)), (30, (.ptr 3 6)), (29, (.d (.sl 1 (y6.map cU8)))), (0, (.d (.sl 1 (y6.map cU8)))), (28, (.d (.sl 1 (y6.map cU8)))), (27, (vS p1.value.text)), (26, (.ptr 3 5)), (25, (.ptr 3 3)), (24, (.d (.sl 1 (y5.map cU8)))), (23, (vI p1.value.num)), (22, (.ptr 3 4)), (21, (.ptr 3 3)), (20, (.d (.sl 1 (y4.map cU8)))), (19, (vI p1.value.kind)), (18, (.ptr 3 3)), (17, (.ptr 3 3)), (16, (.d (.sl 1 (y3.map cU8)))), (0, (.d (.sl 1 (y3.map cU8)))), (15, (.d (.sl 1 (y3.map cU8)))), (14, (vB p1.not_)), (13, (.ptr 3 2)), (12, (.d (.sl 1 (y2.map cU8)))), (11, (vI p1.op)), (10, (.ptr 3 1)), (9, (.d (.sl 1 (y1.map cU8)))), (8, (vI p1.kind)), (7, (.ptr 3 0)), (6, (.d (.sl 1 (p0.map cU8)))), (4, (.nil 1)), (3, (.ptr 3 0)), (0, (.d (.sl 1 (p0.map cU8)))), (1, (vGPExpr p1))], [(3, bGPExpr p1)]⟩
   refine dsts_ok 2 (s' := a8) (by kernel_rfl) ?_
   refine dcallg_step ⟨[], [(4000000, 32)], [], [], [], [(2000000, 35)], [], [32, 35]⟩ [32] [] (m := sL24Num_x y7 p1.at_) (S' := fun (y : (List Int)) => ⟨[(35, (.osl 35 5 1 (y.map cU8))), (34, (vI p1.at_)), (33, (.ptr 3 7)), (32, (.d (.sl 1 (y7.map cU8)))), (31, (vI p1.up)), (30, (.ptr 3 6)), (29, (.d (.sl 1 (y6.map cU8)))), (0, (.d (.sl 1 (y6.map cU8)))), (28, (.d (.sl 1 (y6.map cU8)))), (27, (vS p1.value.text)), (26, (.ptr 3 5)), (25, (.ptr 3 3)), (24, (.d (.sl 1 (y5.map cU8)))), (23, (vI p1.value.num)), (22, (.ptr 3 4)), (21, (.ptr 3 3)), (20, (.d (.sl 1 (y4.map cU8)))), (19, (vI p1.value.kind)), (18, (.ptr 3 3)), (17, (.ptr 3 3)), (16, (.d (.sl 1 (y3.map cU8)))), (0, (.d (.sl 1 (y3.map cU8)))), (15, (.d (.sl 1 (y3.map cU8)))), (14, (vB p1.not_)), (13, (.ptr 3 2)), (12, (.d (.sl 1 (y2.map cU8)))), (11, (vI p1.op)), (10, (.ptr 3 1)), (9, (.d (.sl 1 (y1.map cU8)))), (8, (vI p1.kind)), (7, (.ptr 3 0)), (6, (.d (.sl 1 (p0.map cU8)))), (4, (.nil 1)), (3, (.ptr 3 0)), (0, (.d (.sl 1 (p0.map cU8)))), (1, (vGPExpr p1))], [(3, bGPExpr p1)]⟩) h (OK_sL24Num_x y7 p1.at_) (by kernel_rfl) (by kernel_rfl) (by kernel_rfl) (by kernel_rfl) (by kernel_rfl) (fun y => by kernel_rfl) (fun y => by kernel_rfl) ?_
   clear h; intro y8 h
   let a9 : St := ⟨[(37, (.d (.sl 10 (p1.kids.map cGPExpr)))), (36, (.ptr 3 8)), (35, (.osl 35 5 1 (y8.map cU8))), (34, (vI p1.at_)), (33, (.ptr 3 7)), (32, (.d (.sl 1 (y7.map cU8)))), (31, (vI p1.up)), (30, (.ptr 3 6)), (29, (.d (.sl 1 (y6.map cU8)))), (0, (.d (.sl 1 (y6.map cU8)))), (28, (.d (.sl 1 (y6.map cU8)))), (27, (vS p1.value.text)), (26, (.ptr 3 5)), (25, (.ptr 3 3)), (24, (.d (.sl 1 (y5.map cU8)))), (23, (vI p1.value.num)), (22, (.ptr 3 4)), (21, (.ptr 3 3)), (20, (.d (.sl 1 (y4.map cU8)))), (19, (vI p1.value.kind)), (18, (.ptr 3 3)), (17, (.ptr 3 3)), (16, (.d (.sl 1 (y3.map cU8)))), (0, (.d (.sl 1 (y3.map cU8)))), (15, (.d (.sl 1 (y3.map cU8)))), (14, (vB p1.not_)), (13, (.ptr 3 2)), (12, (.d (.sl 1 (y2.map cU8)))), (11, (vI p1.op)), (10, (.ptr 3 1)), (9, (.d (.sl 1 (y1.map cU8)))), (8, (vI p1.kind)), (7, (.ptr 3 0)), (6, (.d (.sl 1 (p0.map cU8)))), (4, (.nil 1)), (3, (.ptr 3 0)), (0, (.d (.sl 1 (p0.map cU8)))), (1, (vGPExpr p1))], [(3, bGPExpr p1)]⟩
   refine dsts_ok 2 (s' := a9) (by kernel_rfl) ?_
   refine dcallg_step ⟨[], [(4000000, 35)], [], [], [], [(2000000, 38)], [], [35, 38]⟩ [35] [] (m := F_sL24Exprs_x y8 p1.kids) (S' := fun (y : (List Int)) => ⟨[(38, (.osl 38 5 1 (y.map cU8))), (37, (.d (.sl 10 (p1.kids.map cGPExpr)))), (36, (.ptr 3 8)), (35, (.d (.sl 1 (y8.map cU8)))), (34, (vI p1.at_)), (33, (.ptr 3 7)), (32, (.d (.sl 1 (y7.map cU8)))), (31, (vI p1.up)), (30, (.ptr 3 6)), (29, (.d (.sl 1 (y6.map cU8)))), (0, (.d (.sl 1 (y6.map cU8)))), (28, (.d (.sl 1 (y6.map cU8)))), (27, (vS p1.value.text)), (26, (.ptr 3 5)), (25, (.ptr 3 3)), (24, (.d (.sl 1 (y5.map cU8)))), (23, (vI p1.value.num)), (22, (.ptr 3 4)), (21, (.ptr 3 3)), (20, (.d (.sl 1 (y4.map cU8)))), (19, (vI p1.value.kind)), (18, (.ptr 3 3)), (17, (.ptr 3 3)), (16, (.d (.sl 1 (y3.map cU8)))), (0, (.d (.sl 1 (y3.map cU8)))), (15, (.d (.sl 1 (y3.map cU8)))), (14, (vB p1.not_)), (13, (.ptr 3 2)), (12, (.d (.sl 1 (y2.map cU8)))), (11, (vI p1.op)), (10, (.ptr 3 1)), (9, (.d (.sl 1 (y1.map cU8)))), (8, (vI p1.kind)), (7, (.ptr 3 0)), (6, (.d (.sl 1 (p0.map cU8)))), (4, (.nil 1)), (3, (.ptr 3 0)), (0, (.d (.sl 1 (p0.map cU8)))), (1, (vGPExpr p1))], [(3, bGPExpr p1)]⟩) h (OK_sL24Exprs_x y8 p1.kids) (by kernel_rfl) (by kernel_rfl) (by kernel_rfl) (by kernel_rfl) (by kernel_rfl) (fun y => by kernel_rfl) (fun y => by kernel_rfl) ?_
   clear h; intro y9 h
   refine dasg_step (t := 38) (e := 5) (sz := 1) (l := y9.map cU8) [0, 29, 38] [] (by kernel_rfl) (by kernel_rfl) (s' := ⟨[(0, (.osl 0 5 1 (y9.map cU8))), (38, (.d (.sl 1 (y9.map cU8)))), (37, (.d (.sl 10 (p1.kids.map cGPExpr)))), (36, (.ptr 3 8)), (35, (.d (.sl 1 (y8.map cU8)))), (34, (vI p1.at_)), (33, (.ptr 3 7)), (32, (.d (.sl 1 (y7.map cU8)))), (31, (vI p1.up)), (30, (.ptr 3 6)), (29, (.d (.sl 1 (y6.map cU8)))), (0, (.d (.sl 1 (y6.map cU8)))), (28, (.d (.sl 1 (y6.map cU8)))), (27, (vS p1.value.text)), (26, (.ptr 3 5)), (25, (.ptr 3 3)), (24, (.d (.sl 1 (y5.map cU8)))), (23, (vI p1.value.num)), (22, (.ptr 3 4)), (21, (.ptr 3 3)), (20, (.d (.sl 1 (y4.map cU8)))), (19, (vI p1.value.kind)), (18, (.ptr 3 3)), (17, (.ptr 3 3)), (16, (.d (.sl 1 (y3.map cU8)))), (0, (.d (.sl 1 (y3.map cU8)))), (15, (.d (.sl 1 (y3.map cU8)))), (14, (vB p1.not_)), (13, (.ptr 3 2)), (12, (.d (.sl 1 (y2.map cU8)))), (11, (vI p1.op)), (10, (.ptr 3 1)), (9, (.d (.sl 1 (y1.map cU8)))), (8, (vI p1.kind)), (7, (.ptr 3 0)), (6, (.d (.sl 1 (p0.map cU8)))), (4, (.nil 1)), (3, (.ptr 3 0)), (0, (.d (.sl 1 (p0.map cU8)))), (1, (vGPExpr p1))], [(3, bGPExpr p1)]⟩) (by kernel_rfl) ?_
   refine dnil_in (by kernel_rfl) (by kernel_rfl) (xi (so ?_))
   let a10 : St := ⟨[(41, (.d (.sl 8 (p1.sub.map cGPlan)))), (40, (.ptr 3 9)), (39, (.osl 0 5 1 (y9.map cU8))), (0, (.osl 0 5 1 (y9.map cU8))), (38, (.d (.sl 1 (y9.map cU8)))), (37, (.d (.sl 10 (p1.kids.map cGPExpr)))), (36, (.ptr 3 8)), (35, (.d (.sl 1 (y8.map cU8)))), (34, (vI p1.at_)), (33, (.ptr 3 7)), (32, (.d (.sl 1 (y7.map cU8)))), (31, (vI p1.up)), (30, (.ptr 3 6)), (29, (.d (.sl 1 (y6.map cU8)))), (0, (.d (.sl 1 (y6.map cU8)))), (28, (.d (.sl 1 (y6.map cU8)))), (27, (vS p1.value.text)), (26, (.ptr 3 5)), (25, (.ptr 3 3)), (24, (.d (.sl 1 (y5.map cU8)))), (23, (vI p1.value.num)), (22, (.ptr 3 4)), (21, (.ptr 3 3)), (20, (.d (.sl 1 (y4.map cU8)))), (19, (vI p1.value.kind)), (18, (.ptr 3 3)), (17, (.ptr 3 3)), (16, (.d (.sl 1 (y3.map cU8)))), (0, (.d (.sl 1 (y3.map cU8)))), (15, (.d (.sl 1 (y3.map cU8)))), (14, (vB p1.not_)), (13, (.ptr 3 2)), (12, (.d (.sl 1 (y2.map cU8)))), (11, (vI p1.op)), (10, (.ptr 3 1)), (9, (.d (.sl 1 (y1.map cU8)))), (8, (vI p1.kind)), (7, (.ptr 3 0)), (6, (.d (.sl 1 (p0.map cU8)))), (4, (.nil 1)), (3, (.ptr 3 0)), (0, (.d (.sl 1 (p0.map cU8)))), (1, (vGPExpr p1))], [(3, bGPExpr p1)]⟩
   refine st 3 a10 (ps (vI (p1.sub.length : Int)) (vop_len (sz := 8) (l := p1.sub) (f := cGPlan) (by kernel_rfl) (by kernel_rfl)) ?_)
   refine callg_step ⟨[], [(4000000, 0)], [], [], [], [(2000000, 43)], [], [0, 43]⟩ (m := sL24Num_x y9 (p1.sub.length : Int)) (S' := fun (y : (List Int)) => ⟨[(43, (.osl 43 5 1 (y.map cU8))), (42, (vI (p1.sub.length : Int))), (41, (.d (.sl 8 (p1.sub.map cGPlan)))), (40, (.ptr 3 9)), (39, (.d (.sl 1 (y9.map cU8)))), (0, (.d (.sl 1 (y9.map cU8)))), (38, (.d (.sl 1 (y9.map cU8)))), (37, (.d (.sl 10 (p1.kids.map cGPExpr)))), (36, (.ptr 3 8)), (35, (.d (.sl 1 (y8.map cU8)))), (34, (vI p1.at_)), (33, (.ptr 3 7)), (32, (.d (.sl 1 (y7.map cU8)))), (31, (vI p1.up)), (30, (.ptr 3 6)), (29, (.d (.sl 1 (y6.map cU8)))), (0, (.d (.sl 1 (y6.map cU8)))), (28, (.d (.sl 1 (y6.map cU8)))), (27, (vS p1.value.text)), (26, (.ptr 3 5)), (25, (.ptr 3 3)), (24, (.d (.sl 1 (y5.map cU8)))), (23, (vI p1.value.num)), (22, (.ptr 3 4)), (21, (.ptr 3 3)), (20, (.d (.sl 1 (y4.map cU8)))), (19, (vI p1.value.kind)), (18, (.ptr 3 3)), (17, (.ptr 3 3)), (16, (.d (.sl 1 (y3.map cU8)))), (0, (.d (.sl 1 (y3.map cU8)))), (15, (.d (.sl 1 (y3.map cU8)))), (14, (vB p1.not_)), (13, (.ptr 3 2)), (12, (.d (.sl 1 (y2.map cU8)))), (11, (vI p1.op)), (10, (.ptr 3 1)), (9, (.d (.sl 1 (y1.map cU8)))), (8, (vI p1.kind)), (7, (.ptr 3 0)), (6, (.d (.sl 1 (p0.map cU8)))), (4, (.nil 1)), (3, (.ptr 3 0)), (0, (.d (.sl 1 (p0.map cU8)))), (1, (vGPExpr p1))], [(3, bGPExpr p1)]⟩) h (OK_sL24Num_x y9 (p1.sub.length : Int)) (by kernel_rfl) (by kernel_rfl) (by kernel_rfl) (by kernel_rfl) (fun y => by kernel_rfl) (fun y => by kernel_rfl) ?_
   clear h; intro y10 h
   let a11 : St := ⟨[(0, (.osl 0 5 1 (y10.map cU8))), (43, (.d (.sl 1 (y10.map cU8)))), (42, (vI (p1.sub.length : Int))), (41, (.d (.sl 8 (p1.sub.map cGPlan)))), (40, (.ptr 3 9)), (39, (.d (.sl 1 (y9.map cU8)))), (0, (.d (.sl 1 (y9.map cU8)))), (38, (.d (.sl 1 (y9.map cU8)))), (37, (.d (.sl 10 (p1.kids.map cGPExpr)))), (36, (.ptr 3 8)), (35, (.d (.sl 1 (y8.map cU8)))), (34, (vI p1.at_)), (33, (.ptr 3 7)), (32, (.d (.sl 1 (y7.map cU8)))), (31, (vI p1.up)), (30, (.ptr 3 6)), (29, (.d (.sl 1 (y6.map cU8)))), (0, (.d (.sl 1 (y6.map cU8)))), (28, (.d (.sl 1 (y6.map cU8)))), (27, (vS p1.value.text)), (26, (.ptr 3 5)), (25, (.ptr 3 3)), (24, (.d (.sl 1 (y5.map cU8)))), (23, (vI p1.value.num)), (22, (.ptr 3 4)), (21, (.ptr 3 3)), (20, (.d (.sl 1 (y4.map cU8)))), (19, (vI p1.value.kind)), (18, (.ptr 3 3)), (17, (.ptr 3 3)), (16, (.d (.sl 1 (y3.map cU8)))), (0, (.d (.sl 1 (y3.map cU8)))), (15, (.d (.sl 1 (y3.map cU8)))), (14, (vB p1.not_)), (13, (.ptr 3 2)), (12, (.d (.sl 1 (y2.map cU8)))), (11, (vI p1.op)), (10, (.ptr 3 1)), (9, (.d (.sl 1 (y1.map cU8)))), (8, (vI p1.kind)), (7, (.ptr 3 0)), (6, (.d (.sl 1 (p0.map cU8)))), (4, (.nil 1)), (3, (.ptr 3 0)), (0, (.d (.sl 1 (p0.map cU8)))), (1, (vGPExpr p1))], [(3, bGPExpr p1)]⟩
   refine st 1 a11 (nx (si (so ?_)))
   let a12 : St := a11.p [(5, (vI 0))]
   exact st 1 a12 (nx (bi (loop_go (s' := stsL24Expr_x_L0 p1 y10 0) (wr [(0, .old 0)] (eo 0 (es (es er_nil))) (bs_ br_nil)) (OK_sL24Expr_x_L0 p1 y10 0 _ h))))
 · intro F_sL24Expr_x_L0 F_sL24Plan_x OK_sL24Expr_x_L0 OK_sL24Plan_x p1 x0 x5 r h
   delta acsL24Expr_x_L0
   refine loop_unroll (si (so ?_))
   let a13 : St := (stsL24Expr_x_L0 p1 x0 x5).p [(46, (.d (.sl 8 (p1.sub.map cGPlan)))), (45, (.ptr 3 9)), (44, (vI x5))]
   refine st 3 a13 (ps (vI (p1.sub.length : Int)) (vop_len (sz := 8) (l := p1.sub) (f := cGPlan) (by kernel_rfl) (by kernel_rfl)) ?_)
   let a14 : St := a13.p [(48, (vB (decide (x5 < (p1.sub.length : Int))))), (47, (vI (p1.sub.length : Int)))]
   refine st 1 a14 (nx ?_)
   refine cd h (fun h => ?_) fun h => ?_
   refine ki (xi (si (bi (oi ?_))))
   let a15 : St := a14.p [(54, (vI x5)), (53, (.d (.sl 8 (p1.sub.map cGPlan)))), (52, (.ptr 3 9)), (51, (.osl 0 5 1 (x0.map cU8)))]
   refine st 4 a15 (vs (fun (y : GPlan) => (.rp (oGPlan y))) h (fun y hy => vop_ia (l := p1.sub) (f := cGPlan) (g := oGPlan) (k := .i64) hy cGPlan_eq (by kernel_rfl) (by kernel_rfl) (by kernel_rfl)) fun y11 h => ?_)
   let a16 : St := a15.p [(56, (vGPlan y11)), (55, (.rp (oGPlan y11)))]
   refine st 1 a16 ?_
   refine callg_step ⟨[], [(4000000, 0)], [], [], [], [(2000000, 57)], [], [0, 57]⟩ (m := F_sL24Plan_x x0 y11) (S' := fun (y : (List Int)) => ⟨[(57, (.osl 57 5 1 (y.map cU8))), (56, (vGPlan y11)), (55, (.rp (oGPlan y11))), (54, (vI x5)), (53, (.d (.sl 8 (p1.sub.map cGPlan)))), (52, (.ptr 3 9)), (51, (.d (.sl 1 (x0.map cU8)))), (48, (vB (decide (x5 < (p1.sub.length : Int))))), (47, (vI (p1.sub.length : Int))), (46, (.d (.sl 8 (p1.sub.map cGPlan)))), (45, (.ptr 3 9)), (44, (vI x5)), (0, (.d (.sl 1 (x0.map cU8)))), (3, (.ptr 3 0)), (5, (vI x5))], [(3, bGPExpr p1)]⟩) h (OK_sL24Plan_x x0 y11) (by kernel_rfl) (by kernel_rfl) (by kernel_rfl) (by kernel_rfl) (fun y => by kernel_rfl) (fun y => by kernel_rfl) ?_
   clear h; intro y12 h
   let a17 : St := ⟨[(0, (.osl 0 5 1 (y12.map cU8))), (57, (.d (.sl 1 (y12.map cU8)))), (56, (vGPlan y11)), (55, (.rp (oGPlan y11))), (54, (vI x5)), (53, (.d (.sl 8 (p1.sub.map cGPlan)))), (52, (.ptr 3 9)), (51, (.d (.sl 1 (x0.map cU8)))), (48, (vB (decide (x5 < (p1.sub.length : Int))))), (47, (vI (p1.sub.length : Int))), (46, (.d (.sl 8 (p1.sub.map cGPlan)))), (45, (.ptr 3 9)), (44, (vI x5)), (0, (.d (.sl 1 (x0.map cU8)))), (3, (.ptr 3 0)), (5, (vI x5))], [(3, bGPExpr p1)]⟩
   refine st 1 a17 (ni (bn (xi (oi ?_))))
   let a18 : St := a17.p [(5, (vI (IntKind.wrap .i64 (x5 + 1)))), (50, (vI (IntKind.wrap .i64 (x5 + 1)))), (49, (vI x5))]
   exact st 3 a18 (ni (loop_back (s' := stsL24Expr_x_L0 p1 y12 (IntKind.wrap .i64 (x5 + 1))) (wr [(0, .old 0)] (eo 0 (es (es er_nil))) (bs_ br_nil)) (OK_sL24Expr_x_L0 p1 y12 (IntKind.wrap .i64 (x5 + 1)) _ h)))
   refine ei (te (te (bh (xi (so ?_)))))
   let a19 : St := ⟨[(4, (.osl 4 5 1 (x0.map cU8))), (58, (.d (.sl 1 (x0.map cU8)))), (48, (vB (decide (x5 < (p1.sub.length : Int))))), (47, (vI (p1.sub.length : Int))), (46, (.d (.sl 8 (p1.sub.map cGPlan)))), (45, (.ptr 3 9)), (44, (vI x5)), (0, (.d (.sl 1 (x0.map cU8)))), (3, (.ptr 3 0)), (5, (vI x5))], [(3, bGPExpr p1)]⟩
   refine st 2 a19 (nx (ret_wk (s' := ⟨[(4, (.osl 2000000 5 1 (x0.map cU8)))], []⟩) (wr [(2000000, .old 4)] (eo 4 er_nil) br_nil) ?_))
   injection h with h; subst h
   exact ret1_step (v := (.osl 2000000 5 1 (x0.map cU8))) (by kernel_rfl) (by kernel_rfl) ⟨by kernel_rfl, trivial⟩
 · intro F_sL24Plan_x_L0 OK_sL24Plan_x_L0 p0 p1 r h
   refine acalls_of_fn trsL24Plan_x (Nat.le_of_ble_eq_true rfl) (by simp) ?_
   show avc Try.prog acsL24Plan_x (qsL24Plan_x _) ⟨[(0, (.osl 4000000 5 1 (p0.map cU8))), (1, (vGPlan p1))], []⟩
   delta acsL24Plan_x
   refine so ?_
   let a0 : St := ⟨[(4, (.nil 1)), (3, (.ptr 3 0)), (0, (.osl 4000000 5 1 (p0.map cU8))), (1, (vGPlan p1))], [(3, bGPlan p1)]⟩
   refine st 2 a0 (nx (so ?_))
   let a1 : St := a0.p [(11, (.d (.sl 1 (p1.tables.map cI)))), (10, (.ptr 3 0)), (9, (.osl 4000000 5 1 (p0.map cU8)))]
   refine st 3 a1 (ps (vI (p1.tables.length : Int)) (vop_len (sz := 1) (l := p1.tables) (f := cI) (by kernel_rfl) (by kernel_rfl)) ?_)
   refine callg_step ⟨[], [(4000000, 4000000)], [], [], [], [(2000000, 13)], [], [13, 4000000]⟩ (m := sL24Num_x p0 (p1.tables.length : Int)) (S' := fun (y : (List Int)) => ⟨[(13, (.osl 13 5 1 (y.map cU8))), (12, (vI (p1.tables.length : Int))), (11, (.d (.sl 1 (p1.tables.map cI)))), (10, (.ptr 3 0)), (9, (.d (.sl 1 (p0.map cU8)))), (4, (.nil 1)), (3, (.ptr 3 0)), (0, (.d (.sl 1 (p0.map cU8)))), (1, (vGPlan p1))], [(3, bGPlan p1)]⟩) h (OK_sL24Num_x p0 (p1.tables.length : Int)) (by kernel_rfl) (by kernel_rfl) (by kernel_rfl) (by kernel_rfl) (fun y => by kernel_rfl) (fun y => by kernel_rfl) ?_
   clear h; intro y1 h
   let a2 : St := ⟨[(0, (.osl 0 5 1 (y1.map cU8))), (13, (.d (.sl 1 (y1.map cU8)))), (12, (vI (p1.tables.length : Int))), (11, (.d (.sl 1 (p1.tables.map cI)))), (10, (.ptr 3 0)), (9, (.d (.sl 1 (p0.map cU8)))), (4, (.nil 1)), (3, (.ptr 3 0)), (0, (.d (.sl 1 (p0.map cU8)))), (1, (vGPlan p1))], [(3, bGPlan p1)]⟩
   refine st 1 a2 (nx (si (so ?_)))
   let a3 : St := a2.p [(5, (vI 0))]
   exact st 1 a3 (nx (bi (loop_go (s' := stsL24Plan_x_L0 p1 y1 0) (wr [(0, .old 0)] (eo 0 (es (es er_nil))) (bs_ br_nil)) (OK_sL24Plan_x_L0 p1 y1 0 _ h))))
 · intro F_sL24Plan_x_L0 F_sL24Plan_x_L1 OK_sL24Plan_x_L0 OK_sL24Plan_x_L1 p1 x0 x5 r h
   delta acsL24Plan_x_L0
   refine loop_unroll (si (so ?_))
   let a4 : St := (stsL24Plan_x_L0 p1 x0 x5).p [(16, (.d (.sl 1 (p1.tables.map cI)))), (15, (.ptr 3 0)), (14, (vI x5))]
   refine st 3 a4 (ps (vI (p1.tables.length : Int)) (vop_len (sz := 1) (l := p1.tables) (f := cI) (by kernel_rfl) (by kernel_rfl)) ?_)
   let a5 : St := a4.p [(18, (vB (decide (x5 < (p1.tables.length : Int))))), (17, (vI (p1.tables.length : Int)))]
   refine st 1 a5 (nx ?_)
   refine cd h (fun h => ?_) fun h => ?_
   refine ki (xi (si (bi (oi ?_))))
   let a6 : St := a5.p [(24, (vI x5)), (23, (.d (.sl 1 (p1.tables.map cI)))), (22, (.ptr 3 0)), (21, (.osl 0 5 1 (x0.map cU8)))]
   refine st 4 a6 (vs (fun (y : Int) => (.rp [(.i .i64 y)])) h (fun y hy => vop_ia (l := p1.tables) (f := cI) (g := cI) (k := .i64) hy (fun _ => rfl) (by kernel_rfl) (by kernel_rfl) (by kernel_rfl)) fun y2 h => ?_)
   let a7 : St := a6.p [(26, (vI y2)), (25, (.rp [(.i .i64 y2)]))]
   refine st 1 a7 ?_
   refine callg_step ⟨[], [(4000000, 0)], [], [], [], [(2000000, 27)], [], [0, 27]⟩ (m := sL24Num_x x0 y2) (S' := fun (y : (List Int)) => ⟨[(27, (.osl 27 5 1 (y.map cU8))), (26, (vI y2)), (25, (.rp [(.i .i64 y2)])), (24, (vI x5)), (23, (.d (.sl 1 (p1.tables.map cI)))), (22, (.ptr 3 0)), (21, (.d (.sl 1 (x0.map cU8)))), (18, (vB (decide (x5 < (p1.tables.length : Int))))), (17, (vI (p1.tables.length : Int))), (16, (.d (.sl 1 (p1.tables.map cI)))), (15, (.ptr 3 0)), (14, (vI x5)), (0, (.d (.sl 1 (x0.map cU8)))), (3, (.ptr 3 0)), (5, (vI x5))], [(3, bGPlan p1)]⟩) h (OK_sL24Num_x x0 y2) (by kernel_rfl) (by kernel_rfl) (by kernel_rfl) (by kernel_rfl) (fun y => by kernel_rfl) (fun y => by kernel_rfl) ?_
   clear h; intro y3 h
   let a8 : St := ⟨[(0, (.osl 0 5 1 (y3.map cU8))), (27, (.d (.sl 1 (y3.map cU8)))), (26, (vI y2)), (25, (.rp [(.i .i64 y2)])), (24, (vI x5)), (23, (.d (.sl 1 (p1.tables.map cI)))), (22, (.ptr 3 0)), (21, (.d (.sl 1 (x0.map cU8)))), (18, (vB (decide (x5 < (p1.tables.length : Int))))), (17, (vI (p1.tables.length : Int))), (16, (.d (.sl 1 (p1.tables.map cI)))), (15, (.ptr 3 0)), (14, (vI x5)), (0, (.d (.sl 1 (x0.map cU8)))), (3, (.ptr 3 0)), (5, (vI x5))], [(3, bGPlan p1)]⟩
   refine st 1 a8 (ni (bn (xi (oi ?_))))
   let a9 : St := a8.p [(5, (vI (IntKind.wrap .i64 (x5 + 1)))), (20, (vI (IntKind.wrap .i64 (x5 + 1)))), (19, (vI x5))]
   exact st 3 a9 (ni (loop_back (s' := stsL24Plan_x_L0 p1 y3 (IntKind.wrap .i64 (x5 + 1))) (wr [(0, .old 0)] (eo 0 (es (es er_nil))) (bs_ br_nil)) (OK_sL24Plan_x_L0 p1 y3 (IntKind.wrap .i64 (x5 + 1)) _ h)))
   refine ei (te (te (bh (xi (so ?_)))))
   let a10 : St := a5.p [(30, (.d (.sl 1 (p1.on_.map (cSl 10 cGPExpr))))), (29, (.ptr 3 1)), (28, (.osl 0 5 1 (x0.map cU8)))]
   refine st 3 a10 (ps (vI (p1.on_.length : Int)) (vop_len (sz := 1) (l := p1.on_) (f := (cSl 10 cGPExpr)) (by kernel_rfl) (by kernel_rfl)) ?_)
   refine callg_step ⟨[], [(4000000, 0)], [], [], [], [(2000000, 32)], [], [0, 32]⟩ (m := sL24Num_x x0 (p1.on_.length : Int)) (S' := fun (y : (List Int)) => ⟨[(32, (.osl 32 5 1 (y.map cU8))), (31, (vI (p1.on_.length : Int))), (30, (.d (.sl 1 (p1.on_.map (cSl 10 cGPExpr))))), (29, (.ptr 3 1)), (28, (.d (.sl 1 (x0.map cU8)))), (18, (vB (decide (x5 < (p1.tables.length : Int))))), (17, (vI (p1.tables.length : Int))), (16, (.d (.sl 1 (p1.tables.map cI)))), (15, (.ptr 3 0)), (14, (vI x5)), (0, (.d (.sl 1 (x0.map cU8)))), (3, (.ptr 3 0)), (5, (vI x5))], [(3, bGPlan p1)]⟩) h (OK_sL24Num_x x0 (p1.on_.length : Int)) (by kernel_rfl) (by kernel_rfl) (by kernel_rfl) (by kernel_rfl) (fun y => by kernel_rfl) (fun y => by kernel_rfl) ?_
   clear h; intro y4 h
   let a11 : St := ⟨[(0, (.osl 0 5 1 (y4.map cU8))), (32, (.d (.sl 1 (y4.map cU8)))), (31, (vI (p1.on_.length : Int))), (30, (.d (.sl 1 (p1.on_.map (cSl 10 cGPExpr))))), (29, (.ptr 3 1)), (28, (.d (.sl 1 (x0.map cU8)))), (18, (vB (decide (x5 < (p1.tables.length : Int))))), (17, (vI (p1.tables.length : Int))), (16, (.d (.sl 1 (p1.tables.map cI)))), (15, (.ptr 3 0)), (14, (vI x5)), (0, (.d (.sl 1 (x0.map cU8)))), (3, (.ptr 3 0)), (5, (vI x5))], [(3, bGPlan p1)]⟩
   refine st 1 a11 (nx (si (so ?_)))
   let a12 : St := a11.p [(6, (vI 0))]
   exact st 1 a12 (nx (bi (loop_go (s' := stsL24Plan_x_L1 p1 y4 0) (wr [(0, .old 0)] (eo 0 (es (es er_nil))) (bs_ br_nil)) (OK_sL24Plan_x_L1 p1 y4 0 _ h))))
 · intro F_sL24Plan_x_L2 F_sL24Exprs_x F_sL24Plan_x_L1 OK_sL24Plan_x_L2 OK_sL24Exprs_x OK_sL24Plan_x_L1 p1 x0_5 x6 r h
   delta acsL24Plan_x_L1
   refine loop_unroll (si (so ?_))
   let a13 : St := (stsL24Plan_x_L1 p1 x0_5 x6).p [(35, (.d (.sl 1 (p1.on_.map (cSl 10 cGPExpr))))), (34, (.ptr 3 1)), (33, (vI x6))]
   refine st 3 a13 (ps (vI (p1.on_.length : Int)) (vop_len (sz := 1) (l := p1.on_) (f := (cSl 10 cGPExpr)) (by kernel_rfl) (by kernel_rfl)) ?_)
   let a14 : St := a13.p [(37, (vB (decide (x6 < (p1.on_.length : Int))))), (36, (vI (p1.on_.length : Int)))]
   refine st 1 a14 (nx ?_)
   refine cd h (fun h => ?_) fun h => ?_
   refine ki (xi (si (bi (oi ?_))))
   let a15 : St := a14.p [(43, (vI x6)), (42, (.d (.sl 1 (p1.on_.map (cSl 10 cGPExpr))))), (41, (.ptr 3 1)), (40, (.osl 0 5 1 (x0_5.map cU8)))]
   refine st 4 a15 (vs (fun (y : (List GPExpr)) => (.rp [(.sl 10 (y.map cGPExpr))])) h (fun y hy => vop_ia (l := p1.on_) (f := (cSl 10 cGPExpr)) (g := (cSl 10 cGPExpr)) (k := .i64) hy (fun _ => rfl) (by kernel_rfl) (by kernel_rfl) (by kernel_rfl)) fun y6 h => ?_)
   let a16 : St := a15.p [(45, (.d (.sl 10 (y6.map cGPExpr)))), (44, (.rp [(.sl 10 (y6.map cGPExpr))]))]
   refine st 1 a16 ?_
   refine callg_step ⟨[], [(4000000, 0)], [], [], [], [(2000000, 46)], [], [0, 46]⟩ (m := F_sL24Exprs_x x0_5 y6) (S' := fun (y : (List Int)) => ⟨[(46, (.osl 46 5 1 (y.map cU8))), (45, (.d (.sl 10 (y6.map cGPExpr)))), (44, (.rp [(.sl 10 (y6.map cGPExpr))])), (43, (vI x6)), (42, (.d (.sl 1 (p1.on_.map (cSl 10 cGPExpr))))), (41, (.ptr 3 1)), (40, (.d (.sl 1 (x0_5.map cU8)))), (37, (vB (decide (x6 < (p1.on_.length : Int))))), (36, (vI (p1.on_.length : Int))), (35, (.d (.sl 1 (p1.on_.map (cSl 10 cGPExpr))))), (34, (.ptr 3 1)), (33, (vI x6)), (0, (.d (.sl 1 (x0_5.map cU8)))), (3, (.ptr 3 0)), (6, (vI x6))], [(3, bGPlan p1)]⟩) h (OK_sL24Exprs_x x0_5 y6) (by kernel_rfl) (by kernel_rfl) (by kernel_rfl) (by kernel_rfl) (fun y => by kernel_rfl) (fun y => by kernel_rfl) ?_
   clear h; intro y7 h
   let a17 : St := ⟨[(0, (.osl 0 5 1 (y7.map cU8))), (46, (.d (.sl 1 (y7.map cU8)))), (45, (.d (.sl 10 (y6.map cGPExpr)))), (44, (.rp [(.sl 10 (y6.map cGPExpr))])), (43, (vI x6)), (42, (.d (.sl 1 (p1.on_.map (cSl 10 cGPExpr))))), (41, (.ptr 3 1)), (40, (.d (.sl 1 (x0_5.map cU8)))), (37, (vB (decide (x6 < (p1.on_.length : Int))))), (36, (vI (p1.on_.length : Int))), (35, (.d (.sl 1 (p1.on_.map (cSl 10 cGPExpr))))), (34, (.ptr 3 1)), (33, (vI x6)), (0, (.d (.sl 1 (x0_5.map cU8)))), (3, (.ptr 3 0)), (6, (vI x6))], [(3, bGPlan p1)]⟩
   refine st 1 a17 (ni (bn (xi (oi ?_))))
   let a18 : St := a17.p [(6, (vI (IntKind.wrap .i64 (x6 + 1)))), (39, (vI (IntKind.wrap .i64 (x6 + 1)))), (38, (vI x6))]
   exact st 3 a18 (ni (loop_back (s' := stsL24Plan_x_L1 p1 y7 (IntKind.wrap .i64 (x6 + 1))) (wr [(0, .old 0)] (eo 0 (es (es er_nil))) (bs_ br_nil)) (OK_sL24Plan_x_L1 p1 y7 (IntKind.wrap .i64 (x6 + 1)) _ h)))
   refine ei (te (te (bh (xi (so ?_)))))
   let a19 : St := a14.p [(49, (.d (.sl 10 (p1.where_.map cGPExpr)))), (48, (.ptr 3 2)), (47, (.osl 0 5 1 (x0_5.map cU8)))]
   refine st 3 a19 ?_
   refine callg_step ⟨[], [(4000000, 0)], [], [], [], [(2000000, 50)], [], [0, 50]⟩ (m := F_sL24Exprs_x x0_5 p1.where_) (S' := fun (y : (List Int)) => ⟨[(50, (.osl 50 5 1 (y.map cU8))), (49, (.d (.sl 10 (p1.where_.map cGPExpr)))), (48, (.ptr 3 2)), (47, (.d (.sl 1 (x0_5.map cU8)))), (37, (vB (decide (x6 < (p1.on_.length : Int))))), (36, (vI (p1.on_.length : Int))), (35, (.d (.sl 1 (p1.on_.map (cSl 10 cGPExpr))))), (34, (.ptr 3 1)), (33, (vI x6)), (0, (.d (.sl 1 (x0_5.map cU8)))), (3, (.ptr 3 0)), (6, (vI x6))], [(3, bGPlan p1)]⟩) h (OK_sL24Exprs_x x0_5 p1.where_) (by kernel_rfl) (by kernel_rfl) (by kernel_rfl) (by kernel_rfl) (fun y => by kernel_rfl) (fun y => by kernel_rfl) ?_
   clear h; intro y8 h
   let a20 : St := ⟨[(0, (.osl 0 5 1 (y8.map cU8))), (50, (.d (.sl 1 (y8.map cU8)))), (49, (.d (.sl 10 (p1.where_.map cGPExpr)))), (48, (.ptr 3 2)), (47, (.d (.sl 1 (x0_5.map cU8)))), (37, (vB (decide (x6 < (p1.on_.length : Int))))), (36, (vI (p1.on_.length : Int))), (35, (.d (.sl 1 (p1.on_.map (cSl 10 cGPExpr))))), (34, (.ptr 3 1)), (33, (vI x6)), (0, (.d (.sl 1 (x0_5.map cU8)))), (3, (.ptr 3 0)), (6, (vI x6))], [(3, bGPlan p1)]⟩
   refine st 1 a20 (nx (so ?_))
   let a21 : St := a20.p [(53, (.d (.sl 11 (p1.order.map cGPSort)))), (52, (.ptr 3 3)), (51, (.osl 0 5 1 (y8.map cU8)))]
   refine st 3 a21 (ps (vI (p1.order.length : Int)) (vop_len (sz := 11) (l := p1.order) (f := cGPSort) (by kernel_rfl) (by kernel_rfl)) ?_)
   refine callg_step ⟨[], [(4000000, 0)], [], [], [], [(2000000, 55)], [], [0, 55]⟩ (m := sL24Num_x y8 (p1.order.length : Int)) (S' := fun (y : (List Int)) => ⟨[(55, (.osl 55 5 1 (y.map cU8))), (54, (vI (p1.order.length : Int))), (53, (.d (.sl 11 (p1.order.map cGPSort)))), (52, (.ptr 3 3)), (51, (.d (.sl 1 (y8.map cU8)))), (0, (.d (.sl 1 (y8.map cU8)))), (50, (.d (.sl 1 (y8.map cU8)))), (49, (.d (.sl 10 (p1.where_.map cGPExpr)))), (48, (.ptr 3 2)), (47, (.d (.sl 1 (x0_5.map cU8)))), (37, (vB (decide (x6 < (p1.on_.length : Int))))), (36, (vI (p1.on_.length : Int))), (35, (.d (.sl 1 (p1.on_.map (cSl 10 cGPExpr))))), (34, (.ptr 3 1)), (33, (vI x6)), (0, (.d (.sl 1 (x0_5.map cU8)))), (3, (.ptr 3 0)), (6, (vI x6))], [(3, bGPlan p1)]⟩) h (OK_sL24Num_x y8 (p1.order.length : Int)) (by kernel_rfl) (by kernel_rfl) (by kernel_rfl) (by kernel_rfl) (fun y => by kernel_rfl) (fun y => by kernel_rfl) ?_
   clear h; intro y9 h
   let a22 : St := ⟨[(0, (.osl 0 5 1 (y9.map cU8))), (55, (.d (.sl 1 (y9.map cU8)))), (54, (vI (p1.order.length : Int))), (53, (.d (.sl 11 (p1.order.map cGPSort)))), (52, (.ptr 3 3)), (51, (.d (.sl 1 (y8.map cU8)))), (0, (.d (.sl 1 (y8.map cU8)))), (50, (.d (.sl 1 (y8.map cU8)))), (49, (.d (.sl 10 (p1.where_.map cGPExpr)))), (48, (.ptr 3 2)), (47, (.d (.sl 1 (x0_5.map cU8)))), (37, (vB (decide (x6 < (p1.on_.length : Int))))), (36, (vI (p1.on_.length : Int))), (35, (.d (.sl 1 (p1.on_.map (cSl 10 cGPExpr))))), (34, (.ptr 3 1)), (33, (vI x6)), (0, (.d (.sl 1 (x0_5.map cU8)))), (3, (.ptr 3 0)), (6, (vI x6))], [(3, bGPlan p1)]⟩
   refine st 1 a22 (nx (si (so ?_)))
   let a23 : St := a22.p [(7, (vI 0))]
   exact st 1 a23 (nx (bi (loop_go (s' := stsL24Plan_x_L2 p1 y9 0) (wr [(0, .old 0)] (eo 0 (es (es er_nil))) (bs_ br_nil)) (OK_sL24Plan_x_L2 p1 y9 0 _ h))))
theorem OK_sL24Plan_x_L2 (p1 : GPlan) (x0_10 : (List Int)) (x7 : Int) (r : (List Int)) (h : sL24Plan_x_L2 p1 x0_10 x7 = some r) : avc Try.prog acsL24Plan_x_L2 (qsL24Plan_x_5 r) (stsL24Plan_x_L2 p1 x0_10 x7) := (OKs_sL24Plan_x_L2).1 p1 x0_10 x7 r h
theorem OK_sL24Exprs_x (p0 : (List Int)) (p1 : (List GPExpr)) : FOkB Try.prog 44 [(.osl 4000000 5 1 (p0.map cU8)), (.d (.sl 10 (p1.map cGPExpr)))] [] (fun (y : (List Int)) => (.osl 2000000 5 1 (y.map cU8))) (fun (y : (List Int)) => []) (sL24Exprs_x p0 p1) := fun r h => (OKs_sL24Plan_x_L2).2.1 p0 p1 r h
theorem OK_sL24Exprs_x_L0 (p1 : (List GPExpr)) (x0 : (List Int)) (x5 : Int) (r : (List Int)) (h : sL24Exprs_x_L0 p1 x0 x5 = some r) : avc Try.prog acsL24Exprs_x_L0 (qsL24Exprs_x_1 r) (stsL24Exprs_x_L0 p1 x0 x5) := (OKs_sL24Plan_x_L2).2.2.1 p1 x0 x5 r h
theorem OK_sL24Expr_x (p0 : (List Int)) (p1 : GPExpr) : FOkB Try.prog 18 [(.osl 4000000 5 1 (p0.map cU8)), (vGPExpr p1)] [] (fun (y : (List Int)) => (.osl 2000000 5 1 (y.map cU8))) (fun (y : (List Int)) => []) (sL24Expr_x p0 p1) := fun r h => (OKs_sL24Plan_x_L2).2.2.2.1 p0 p1 r h
theorem OK_sL24Expr_x_L0 (p1 : GPExpr) (x0 : (List Int)) (x5 : Int) (r : (List Int)) (h : sL24Expr_x_L0 p1 x0 x5 = some r) : avc Try.prog acsL24Expr_x_L0 (qsL24Expr_x_1 r) (stsL24Expr_x_L0 p1 x0 x5) := (OKs_sL24Plan_x_L2).2.2.2.2.1 p1 x0 x5 r h
theorem OK_sL24Plan_x (p0 : (List Int)) (p1 : GPlan) : FOkB Try.prog 31 [(.osl 4000000 5 1 (p0.map cU8)), (vGPlan p1)] [] (fun (y : (List Int)) => (.osl 2000000 5 1 (y.map cU8))) (fun (y : (List Int)) => []) (sL24Plan_x p0 p1) := fun r h => (OKs_sL24Plan_x_L2).2.2.2.2.2.1 p0 p1 r h
theorem OK_sL24Plan_x_L0 (p1 : GPlan) (x0 : (List Int)) (x5 : Int) (r : (List Int)) (h : sL24Plan_x_L0 p1 x0 x5 = some r) : avc Try.prog acsL24Plan_x_L0 (qsL24Plan_x_1 r) (stsL24Plan_x_L0 p1 x0 x5) := (OKs_sL24Plan_x_L2).2.2.2.2.2.2.1 p1 x0 x5 r h
theorem OK_sL24Plan_x_L1 (p1 : GPlan) (x0_5 : (List Int)) (x6 : Int) (r : (List Int)) (h : sL24Plan_x_L1 p1 x0_5 x6 = some r) : avc Try.prog acsL24Plan_x_L1 (qsL24Plan_x_3 r) (stsL24Plan_x_L1 p1 x0_5 x6) := (OKs_sL24Plan_x_L2).2.2.2.2.2.2.2 p1 x0_5 x6 r h
theorem OK_sPutPExpr (p0 : GPExpr) : FOk Try.prog 6 [(vGPExpr p0)] (fun y => (vS y)) (sPutPExpr p0) := by
 intro r h
 rw [sPutPExpr] at h
 refine acalls_of_fn trsPutPExpr (Nat.le_of_ble_eq_true rfl) (by simp) ?_
 show avc Try.prog acsPutPExpr (qsPutPExpr _) ⟨[(0, (vGPExpr p0))], []⟩
 delta acsPutPExpr
 refine so ?_
 let a0 : St := ⟨[(2, (vS [])), (1, (.ptr 1 0)), (0, (vGPExpr p0))], [(1, bGPExpr p0)]⟩
 refine st 2 a0 (nx (so (bsl_step (l := ([] : List Int)) (f := cU8) (g := cU8) (by kernel_rfl) (fun _ => rfl) (by kernel_rfl) ?_)))
 let a1 : St := a0.p [(4, (vGPExpr p0)), (3, (.osl 3 5 1 (([] : List Int).map cU8)))]
 refine st 1 a1 ?_
 refine callg_step ⟨[], [(4000000, 3)], [], [], [], [(2000000, 5)], [], [3, 5]⟩ (m := sL24Expr_x ([] : List Int) p0) (S' := fun (y : (List Int)) => ⟨[(5, (.osl 5 5 1 (y.map cU8))), (4, (vGPExpr p0)), (3, (.d (.sl 1 (([] : List Int).map cU8)))), (2, (vS [])), (1, (.ptr 1 0)), (0, (vGPExpr p0))], [(1, bGPExpr p0)]⟩) h (OK_sL24Expr_x ([] : List Int) p0) (by kernel_rfl) (by kernel_rfl) (by kernel_rfl) (by kernel_rfl) (fun y => by kernel_rfl) (fun y => by kernel_rfl) ?_
 clear h; intro y1 h
 refine vs (fun (y : (List UInt8)) => (vS y)) h (fun y hy => vop_cbs (l := y1) hy (by kernel_rfl) (by kernel_rfl)) fun y2 h => ?_
 let a2 : St := ⟨[(2, (vS y2)), (6, (vS y2)), (5, (.osl 5 5 1 (y1.map cU8))), (4, (vGPExpr p0)), (3, (.d (.sl 1 (([] : List Int).map cU8)))), (2, (vS [])), (1, (.ptr 1 0)), (0, (vGPExpr p0))], [(1, bGPExpr p0)]⟩
 refine st 1 a2 (nx (ri ?_))
 injection h with h; subst h
 exact ret1_step (v := (vS y2)) (by kernel_rfl) (by kernel_rfl) (by kernel_rfl)
theorem OKs_wEqIntS_L0 (p0 : (List Int)) (p1 : (List Int)) : (∀ (x5 : Int) (r : Bool), wEqIntS_L0 p0 p1 x5 = some r → avc Try.prog acwEqIntS_L0 (qwEqIntS_1 r) (stwEqIntS_L0 p0 p1 x5)) := by
 refine wEqIntS_L0.partial_correctness p0 p1 (fun x5 r => avc Try.prog acwEqIntS_L0 (qwEqIntS_1 r) (stwEqIntS_L0 p0 p1 x5)) ?_
 · intro F_wEqIntS_L0 OK_wEqIntS_L0 x5 r h
   delta acwEqIntS_L0
   refine loop_unroll (si (so ?_))
   let a6 : St := (stwEqIntS_L0 p0 p1 x5).p [(12, (.d (.sl 1 (p0.map cI)))), (11, (vI x5))]
   refine st 2 a6 (ps (vI (p0.length : Int)) (vop_len (sz := 1) (l := p0) (f := cI) (by kernel_rfl) (by kernel_rfl)) ?_)
   let a7 : St := a6.p [(14, (vB (decide (x5 < (p0.length : Int))))), (13, (vI (p0.length : Int)))]
   refine st 1 a7 (nx ?_)
   refine cd h (fun h => ?_) fun h => ?_
   refine ki (xi (si (bi (si (dops_in ?_)))))
   let a8 : St := a7.p [(18, (vI x5)), (17, (.d (.sl 1 (p0.map cI))))]
   refine dsts_ok 2 (s' := a8) (by kernel_rfl) (dv_step (m := idx p0 x5) (v' := fun y => (.rp [(.i .i64 y)])) h rfl rfl (fun y hy => vop_ia (l := p0) (f := cI) (g := cI) (k := .i64) hy (fun _ => rfl) (by kernel_rfl) (by kernel_rfl) (by kernel_rfl)) ?_)
   clear h; intro y1 h
   let a9 : St := a8.p [(22, (vI x5)), (21, (.d (.sl 1 (p1.map cI)))), (20, (vI y1)), (19, (.rp [(.i .i64 y1)]))]
   refine dsts_ok 3 (s' := a9) (by kernel_rfl) (dv_step (m := idx p1 x5) (v' := fun y => (.rp [(.i .i64 y)])) h rfl rfl (fun y hy => vop_ia (l := p1) (f := cI) (g := cI) (k := .i64) hy (fun _ => rfl) (by kernel_rfl) (by kernel_rfl) (by kernel_rfl)) ?_)
   clear h; intro y2 h
   let a10 : St := a9.p [(25, (vB (!decide (y1 = y2)))), (24, (vI y2)), (23, (.rp [(.i .i64 y2)]))]
   refine dsts_ok 2 (s' := a10) (by kernel_rfl) (dnil_in (by kernel_rfl) (by kernel_rfl) (xi ?_))
   refine cd h (fun h => ?_) fun h => ?_
   refine so ?_
   let a11 : St := a10.p [(4, (vB false))]
   refine st 1 a11 (nx (ri (br (tr (tr (br (tr ?_)))))))
   injection h with h; subst h
   exact ret1_step (v := (vB false)) (by kernel_rfl) (by kernel_rfl) (by kernel_rfl)
   refine ki (bn (xi (oi ?_)))
   let a12 : St := a10.p [(5, (vI (IntKind.wrap .i64 (x5 + 1)))), (16, (vI (IntKind.wrap .i64 (x5 + 1)))), (15, (vI x5))]
   exact st 3 a12 (ni (loop_back (s' := stwEqIntS_L0 p0 p1 (IntKind.wrap .i64 (x5 + 1))) (wr [] (es (es (es er_nil))) br_nil) (OK_wEqIntS_L0 (IntKind.wrap .i64 (x5 + 1)) _ h)))
   refine ei (te (te (bh (xi (so ?_)))))
   let a13 : St := a7.p [(4, (vB true))]
   refine st 1 a13 (nx (ri ?_))
   injection h with h; subst h
   exact ret1_step (v := (vB true)) (by kernel_rfl) (by kernel_rfl) (by kernel_rfl)
theorem OK_wEqIntS_L0 (p0 : (List Int)) (p1 : (List Int)) (x5 : Int) (r : Bool) (h : wEqIntS_L0 p0 p1 x5 = some r) : avc Try.prog acwEqIntS_L0 (qwEqIntS_1 r) (stwEqIntS_L0 p0 p1 x5) := (OKs_wEqIntS_L0 p0 p1) x5 r h
theorem OK_wEqIntS (p0 : (List Int)) (p1 : (List Int)) : FOk Try.prog 37 [(.d (.sl 1 (p0.map cI))), (.d (.sl 1 (p1.map cI)))] (fun y => (vB y)) (wEqIntS p0 p1) := by
 intro r h
 rw [wEqIntS] at h
 refine acalls_of_fn trwEqIntS (Nat.le_of_ble_eq_true rfl) (by simp) ?_
 show avc Try.prog acwEqIntS (qwEqIntS _) ⟨[(0, (.d (.sl 1 (p0.map cI)))), (1, (.d (.sl 1 (p1.map cI))))], []⟩
 delta acwEqIntS
 refine so ?_
 let a0 : St := ⟨[(4, (vB false)), (0, (.d (.sl 1 (p0.map cI)))), (1, (.d (.sl 1 (p1.map cI))))], []⟩
 refine st 1 a0 (nx (si (so ?_)))
 let a1 : St := a0.p [(6, (.d (.sl 1 (p0.map cI))))]
 refine st 1 a1 (ps (vI (p0.length : Int)) (vop_len (sz := 1) (l := p0) (f := cI) (by kernel_rfl) (by kernel_rfl)) ?_)
 let a2 : St := a1.p [(8, (.d (.sl 1 (p1.map cI)))), (7, (vI (p0.length : Int)))]
 refine st 1 a2 (ps (vI (p1.length : Int)) (vop_len (sz := 1) (l := p1) (f := cI) (by kernel_rfl) (by kernel_rfl)) ?_)
 let a3 : St := a2.p [(10, (vB (!decide ((p0.length : Int) = (p1.length : Int))))), (9, (vI (p1.length : Int)))]
 refine st 1 a3 (nx ?_)
 refine cd h (fun h => ?_) fun h => ?_
 refine so ?_
 let a4 : St := a3.p [(4, (vB false))]
 refine st 1 a4 (nx (ri (tr ?_)))
 injection h with h; subst h
 exact ret1_step (v := (vB false)) (by kernel_rfl) (by kernel_rfl) (by kernel_rfl)
 refine ki (xi (si (so ?_)))
 let a5 : St := a3.p [(5, (vI 0))]
 exact st 1 a5 (nx (bi (loop_go (s' := stwEqIntS_L0 p0 p1 0) (wr [] (es (es (es er_nil))) br_nil) (OK_wEqIntS_L0 p0 p1 0 _ h))))
theorem OKs_wEqStringS_L0 (p0 : (List (List UInt8))) (p1 : (List (List UInt8))) : (∀ (x5 : Int) (r : Bool), wEqStringS_L0 p0 p1 x5 = some r → avc Try.prog acwEqStringS_L0 (qwEqStringS_1 r) (stwEqStringS_L0 p0 p1 x5)) := by
 refine wEqStringS_L0.partial_correctness p0 p1 (fun x5 r => avc Try.prog acwEqStringS_L0 (qwEqStringS_1 r) (stwEqStringS_L0 p0 p1 x5)) ?_
 · intro F_wEqStringS_L0 OK_wEqStringS_L0 x5 r h
   delta acwEqStringS_L0
   refine loop_unroll (si (so ?_))
   let a6 : St := (stwEqStringS_L0 p0 p1 x5).p [(12, (.d (.sl 1 (p0.map cStr)))), (11, (vI x5))]
   refine st 2 a6 (ps (vI (p0.length : Int)) (vop_len (sz := 1) (l := p0) (f := cStr) (by kernel_rfl) (by kernel_rfl)) ?_)
   let a7 : St := a6.p [(14, (vB (decide (x5 < (p0.length : Int))))), (13, (vI (p0.length : Int)))]
   refine st 1 a7 (nx ?_)
   refine cd h (fun h => ?_) fun h => ?_
   refine ki (xi (si (bi (si (dops_in ?_)))))
   let a8 : St := a7.p [(18, (vI x5)), (17, (.d (.sl 1 (p0.map cStr))))]
   refine dsts_ok 2 (s' := a8) (by kernel_rfl) (dv_step (m := idx p0 x5) (v' := fun y => (.rp [(.s (bs y))])) h rfl rfl (fun y hy => vop_ia (l := p0) (f := cStr) (g := cStr) (k := .i64) hy (fun _ => rfl) (by kernel_rfl) (by kernel_rfl) (by kernel_rfl)) ?_)
   clear h; intro y1 h
   let a9 : St := a8.p [(22, (vI x5)), (21, (.d (.sl 1 (p1.map cStr)))), (20, (vS y1)), (19, (.rp [(.s (bs y1))]))]
   refine dsts_ok 3 (s' := a9) (by kernel_rfl) (dv_step (m := idx p1 x5) (v' := fun y => (.rp [(.s (bs y))])) h rfl rfl (fun y hy => vop_ia (l := p1) (f := cStr) (g := cStr) (k := .i64) hy (fun _ => rfl) (by kernel_rfl) (by kernel_rfl) (by kernel_rfl)) ?_)
   clear h; intro y2 h
   let a10 : St := a9.p [(25, (vB (!decide (y1 = y2)))), (24, (vS y2)), (23, (.rp [(.s (bs y2))]))]
   refine dsts_ok 2 (s' := a10) (by kernel_rfl) (dnil_in (by kernel_rfl) (by kernel_rfl) (xi ?_))
   refine cd h (fun h => ?_) fun h => ?_
   refine so ?_
   let a11 : St := a10.p [(4, (vB false))]
   refine st 1 a11 (nx (ri (br (tr (tr (br (tr ?_)))))))
   injection h with h; subst h
   exact ret1_step (v := (vB false)) (by kernel_rfl) (by kernel_rfl) (by kernel_rfl)
   refine ki (bn (xi (oi ?_)))
   let a12 : St := a10.p [(5, (vI (IntKind.wrap .i64 (x5 + 1)))), (16, (vI (IntKind.wrap .i64 (x5 + 1)))), (15, (vI x5))]
   exact st 3 a12 (ni (loop_back (s' := stwEqStringS_L0 p0 p1 (IntKind.wrap .i64 (x5 + 1))) (wr [] (es (es (es er_nil))) br_nil) (OK_wEqStringS_L0 (IntKind.wrap .i64 (x5 + 1)) _ h)))
   refine ei (te (te (bh (xi (so ?_)))))
   let a13 : St := a7.p [(4, (vB true))]
   refine st 1 a13 (nx (ri ?_))
   injection h with h; subst h
   exact ret1_step (v := (vB true)) (by kernel_rfl) (by kernel_rfl) (by kernel_rfl)
theorem OK_wEqStringS_L0 (p0 : (List (List UInt8))) (p1 : (List (List UInt8))) (x5 : Int) (r : Bool) (h : wEqStringS_L0 p0 p1 x5 = some r) : avc Try.prog acwEqStringS_L0 (qwEqStringS_1 r) (stwEqStringS_L0 p0 p1 x5) := (OKs_wEqStringS_L0 p0 p1) x5 r h
theorem OK_wEqStringS (p0 : (List (List UInt8))) (p1 : (List (List UInt8))) : FOk Try.prog 40 [(.d (.sl 1 (p0.map cStr))), (.d (.sl 1 (p1.map cStr)))] (fun y => (vB y)) (wEqStringS p0 p1) := by
 intro r h
 rw [wEqStringS] at h
 refine acalls_of_fn trwEqStringS (Nat.le_of_ble_eq_true rfl) (by simp) ?_
 show avc Try.prog acwEqStringS (qwEqStringS _) ⟨[(0, (.d (.sl 1 (p0.map cStr)))), (1, (.d (.sl 1 (p1.map cStr))))], []⟩
 delta acwEqStringS
 refine so ?_
 let a0 : St := ⟨[(4, (vB false)), (0, (.d (.sl 1 (p0.map cStr)))), (1, (.d (.sl 1 (p1.map cStr))))], []⟩
 refine st 1 a0 (nx (si (so ?_)))
 let a1 : St := a0.p [(6, (.d (.sl 1 (p0.map cStr))))]
 refine st 1 a1 (ps (vI (p0.length : Int)) (vop_len (sz := 1) (l := p0) (f := cStr) (by kernel_rfl) (by kernel_rfl)) ?_)
 let a2 : St := a1.p [(8, (.d (.sl 1 (p1.map cStr)))), (7, (vI (p0.length : Int)))]
 refine st 1 a2 (ps (vI (p1.length : Int)) (vop_len (sz := 1) (l := p1) (f := cStr) (by kernel_rfl) (by kernel_rfl)) ?_)
 let a3 : St := a2.p [(10, (vB (!decide ((p0.length : Int) = (p1.length : Int))))), (9, (vI (p1.length : Int)))]
 refine st 1 a3 (nx ?_)
 refine cd h (fun h => ?_) fun h => ?_
 refine so ?_
 let a4 : St := a3.p [(4, (vB false))]
 refine st 1 a4 (nx (ri (tr ?_)))
 injection h with h; subst h
 exact ret1_step (v := (vB false)) (by kernel_rfl) (by kernel_rfl) (by kernel_rfl)
 refine ki (xi (si (so ?_)))
 let a5 : St := a3.p [(5, (vI 0))]
 exact st 1 a5 (nx (bi (loop_go (s' := stwEqStringS_L0 p0 p1 0) (wr [] (es (es (es er_nil))) br_nil) (OK_wEqStringS_L0 p0 p1 0 _ h))))
theorem OK_wEqValue (p0 : GValue) (p1 : GValue) : FOk Try.prog 24 [(vGValue p0), (vGValue p1)] (fun y => (vB y)) (wEqValue p0 p1) := by
 intro r h
 rw [wEqValue] at h
 refine acalls_of_fn trwEqValue (Nat.le_of_ble_eq_true rfl) (by simp) ?_
 show avc Try.prog acwEqValue (qwEqValue _) ⟨[(0, (vGValue p0)), (1, (vGValue p1))], []⟩
 delta acwEqValue
 refine so ?_
 let a0 : St := ⟨[(4, (vB false)), (3, (.ptr 3 0)), (2, (.ptr 2 0)), (0, (vGValue p0)), (1, (vGValue p1))], [(3, bGValue p1), (2, bGValue p0)]⟩
 refine st 3 a0 (nx (si (so ?_)))
 let a1 : St := a0.p [(9, (vB (!decide (p0.kind = p1.kind)))), (8, (vI p1.kind)), (7, (.ptr 3 0)), (6, (vI p0.kind)), (5, (.ptr 2 0))]
 refine st 5 a1 (nx ?_)
 refine cd h (fun h => ?_) fun h => ?_
 refine so ?_
 let a2 : St := a1.p [(4, (vB false))]
 refine st 1 a2 (nx (ri (tr ?_)))
 injection h with h; subst h
 exact ret1_step (v := (vB false)) (by kernel_rfl) (by kernel_rfl) (by kernel_rfl)
 refine ki (xi (si (so ?_)))
 let a3 : St := a1.p [(14, (vB (!decide (p0.num = p1.num)))), (13, (vI p1.num)), (12, (.ptr 3 1)), (11, (vI p0.num)), (10, (.ptr 2 1))]
 refine st 5 a3 (nx ?_)
 refine cd h (fun h => ?_) fun h => ?_
 refine so ?_
 let a4 : St := a3.p [(4, (vB false))]
 refine st 1 a4 (nx (ri (tr ?_)))
 injection h with h; subst h
 exact ret1_step (v := (vB false)) (by kernel_rfl) (by kernel_rfl) (by kernel_rfl)
 refine ki (xi (si (so ?_)))
 let a5 : St := a3.p [(19, (vB (!decide (p0.text = p1.text)))), (18, (vS p1.text)), (17, (.ptr 3 2)), (16, (vS p0.text)), (15, (.ptr 2 2))]
 refine st 5 a5 (nx ?_)
 refine cd h (fun h => ?_) fun h => ?_
 refine so ?_
 let a6 : St := a5.p [(4, (vB false))]
 refine st 1 a6 (nx (ri (tr ?_)))
 injection h with h; subst h
 exact ret1_step (v := (vB false)) (by kernel_rfl) (by kernel_rfl) (by kernel_rfl)
 refine ki (xi (so ?_))
 let a7 : St := a5.p [(4, (vB true))]
 refine st 1 a7 (nx (ri ?_))
 injection h with h; subst h
 exact ret1_step (v := (vB true)) (by kernel_rfl) (by kernel_rfl) (by kernel_rfl)
end Go.Proofs.Ytkdkhdefdfkagaa
