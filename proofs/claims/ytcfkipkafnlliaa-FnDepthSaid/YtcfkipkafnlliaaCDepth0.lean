/- That the code computes these functions (printed by a program). -/
import Derived.KernelRfl
import Derived.Test.YtcfkipkafnlliaaAbG2
import Derived.Test.YtcfkipkafnlliaaAbC3
import Derived.Test.YtcfkipkafnlliaaAbT7
import Derived.Test.YtcfkipkafnlliaaFDepth
import Derived.Test.YtcfkipkafnlliaaProg
namespace Go.Proofs.Ytcfkipkafnlliaa
open Go Go.RowKit Go.Ab
def cI (n : Int) : List D := [.i .i64 n]
def cU8 (n : Int) : List D := [.i .u8 n]
def cU64 (n : Int) : List D := [.i .u64 n]
def cI32 (n : Int) : List D := [.i .i32 n]
def cU32 (n : Int) : List D := [.i .u32 n]
def cB (b : Bool) : List D := [.b b]
def cStr (s : List UInt8) : List D := [.s (bs s)]
def cSl {α : Type} (sz : Nat) (f : α → List D) (l : List α) : List D := [.sl sz (l.map f)]
def cGValue (x : GValue) : List D := [(.i .i64 x.kind), (.i .i64 x.num), (.s (bs x.text))]
def vGValue (x : GValue) : V := .agg (cGValue x)
def bGValue (x : GValue) : List V := (cGValue x).map V.d
mutual
def cGExpr : GExpr → List D
  | ⟨a0, a1, a2, a3, a4, a5, a6, a7⟩ => [(.i .i64 a0)] ++ [(.i .i64 a1)] ++ [(.b a2)] ++ cGValue a3 ++ [(.s (bs a4))] ++ [(.s (bs a5))] ++ [.sl 10 (cLGExpr a6)] ++ [.sl 6 (cLGQuery a7)]
def cGItem : GItem → List D
  | ⟨a0, a1, a2, a3⟩ => [(.b a0)] ++ [(.s (bs a1))] ++ cGExpr a2 ++ [(.s (bs a3))]
def cGQuery : GQuery → List D
  | ⟨a0, a1, a2, a3, a4, a5⟩ => [(.b a0)] ++ [.sl 13 (cLGItem a1)] ++ [.sl 3 (cLGSource a2)] ++ [.sl 10 (cLGExpr a3)] ++ [.sl 11 (cLGSortKey a4)] ++ [(.i .i64 a5)]
def cGSortKey : GSortKey → List D
  | ⟨a0, a1⟩ => cGExpr a0 ++ [(.b a1)]
def cGSource : GSource → List D
  | ⟨a0, a1, a2⟩ => [(.s (bs a0))] ++ [(.s (bs a1))] ++ [.sl 10 (cLGExpr a2)]
def cLGExpr : List GExpr → List (List D)
  | [] => []
  | x :: l => cGExpr x :: cLGExpr l
def cLGItem : List GItem → List (List D)
  | [] => []
  | x :: l => cGItem x :: cLGItem l
def cLGQuery : List GQuery → List (List D)
  | [] => []
  | x :: l => cGQuery x :: cLGQuery l
def cLGSortKey : List GSortKey → List (List D)
  | [] => []
  | x :: l => cGSortKey x :: cLGSortKey l
def cLGSource : List GSource → List (List D)
  | [] => []
  | x :: l => cGSource x :: cLGSource l
end
theorem cLGExpr_eq : ∀ l : List GExpr, cLGExpr l = l.map cGExpr
  | [] => by simp only [cLGExpr, List.map_nil]
  | x :: l => by simp only [cLGExpr, List.map_cons, cLGExpr_eq l]
theorem cLGItem_eq : ∀ l : List GItem, cLGItem l = l.map cGItem
  | [] => by simp only [cLGItem, List.map_nil]
  | x :: l => by simp only [cLGItem, List.map_cons, cLGItem_eq l]
theorem cLGQuery_eq : ∀ l : List GQuery, cLGQuery l = l.map cGQuery
  | [] => by simp only [cLGQuery, List.map_nil]
  | x :: l => by simp only [cLGQuery, List.map_cons, cLGQuery_eq l]
theorem cLGSortKey_eq : ∀ l : List GSortKey, cLGSortKey l = l.map cGSortKey
  | [] => by simp only [cLGSortKey, List.map_nil]
  | x :: l => by simp only [cLGSortKey, List.map_cons, cLGSortKey_eq l]
theorem cLGSource_eq : ∀ l : List GSource, cLGSource l = l.map cGSource
  | [] => by simp only [cLGSource, List.map_nil]
  | x :: l => by simp only [cLGSource, List.map_cons, cLGSource_eq l]
def oGExpr (x : GExpr) : List D := [(.i .i64 x.kind), (.i .i64 x.op), (.b x.not_), (.i .i64 x.value.kind), (.i .i64 x.value.num), (.s (bs x.value.text)), (.s (bs x.qual)), (.s (bs x.name)), (.sl 10 (x.kids.map cGExpr)), (.sl 6 (x.sub.map cGQuery))]
def oGItem (x : GItem) : List D := [(.b x.star), (.s (bs x.qual)), (.i .i64 x.expr.kind), (.i .i64 x.expr.op), (.b x.expr.not_), (.i .i64 x.expr.value.kind), (.i .i64 x.expr.value.num), (.s (bs x.expr.value.text)), (.s (bs x.expr.qual)), (.s (bs x.expr.name)), (.sl 10 (x.expr.kids.map cGExpr)), (.sl 6 (x.expr.sub.map cGQuery)), (.s (bs x.as_))]
def oGQuery (x : GQuery) : List D := [(.b x.distinct), (.sl 13 (x.items.map cGItem)), (.sl 3 (x.from_.map cGSource)), (.sl 10 (x.where_.map cGExpr)), (.sl 11 (x.order.map cGSortKey)), (.i .i64 x.limit)]
def oGSortKey (x : GSortKey) : List D := [(.i .i64 x.expr.kind), (.i .i64 x.expr.op), (.b x.expr.not_), (.i .i64 x.expr.value.kind), (.i .i64 x.expr.value.num), (.s (bs x.expr.value.text)), (.s (bs x.expr.qual)), (.s (bs x.expr.name)), (.sl 10 (x.expr.kids.map cGExpr)), (.sl 6 (x.expr.sub.map cGQuery)), (.b x.desc)]
def oGSource (x : GSource) : List D := [(.s (bs x.table)), (.s (bs x.as_)), (.sl 10 (x.on_.map cGExpr))]
theorem cGExpr_eq (x : GExpr) : cGExpr x = oGExpr x := by
  obtain ⟨a0, a1, a2, a3, a4, a5, a6, a7⟩ := x
  simp only [cGExpr, oGExpr, cLGExpr_eq, cLGItem_eq, cLGQuery_eq, cLGSortKey_eq, cLGSource_eq, List.cons_append, List.nil_append, cGValue]
theorem cGItem_eq (x : GItem) : cGItem x = oGItem x := by
  obtain ⟨a0, a1, a2, a3⟩ := x
  simp only [cGItem, oGItem, cLGExpr_eq, cLGItem_eq, cLGQuery_eq, cLGSortKey_eq, cLGSource_eq, cGExpr_eq, oGExpr, List.cons_append, List.nil_append]
theorem cGQuery_eq (x : GQuery) : cGQuery x = oGQuery x := by
  obtain ⟨a0, a1, a2, a3, a4, a5⟩ := x
  simp only [cGQuery, oGQuery, cLGExpr_eq, cLGItem_eq, cLGQuery_eq, cLGSortKey_eq, cLGSource_eq, List.cons_append, List.nil_append]
theorem cGSortKey_eq (x : GSortKey) : cGSortKey x = oGSortKey x := by
  obtain ⟨a0, a1⟩ := x
  simp only [cGSortKey, oGSortKey, cLGExpr_eq, cLGItem_eq, cLGQuery_eq, cLGSortKey_eq, cLGSource_eq, cGExpr_eq, oGExpr, List.cons_append, List.nil_append]
theorem cGSource_eq (x : GSource) : cGSource x = oGSource x := by
  obtain ⟨a0, a1, a2⟩ := x
  simp only [cGSource, oGSource, cLGExpr_eq, cLGItem_eq, cLGQuery_eq, cLGSortKey_eq, cLGSource_eq, List.cons_append, List.nil_append]
def vGExpr (x : GExpr) : V := .agg (oGExpr x)
def bGExpr (x : GExpr) : List V := (oGExpr x).map V.d
def vGItem (x : GItem) : V := .agg (oGItem x)
def bGItem (x : GItem) : List V := (oGItem x).map V.d
def vGQuery (x : GQuery) : V := .agg (oGQuery x)
def bGQuery (x : GQuery) : List V := (oGQuery x).map V.d
def vGSortKey (x : GSortKey) : V := .agg (oGSortKey x)
def bGSortKey (x : GSortKey) : List V := (oGSortKey x).map V.d
def vGSource (x : GSource) : V := .agg (oGSource x)
def bGSource (x : GSource) : List V := (oGSource x).map V.d
def cGL1Cur (x : GL1Cur) : List D := [(.sl 1 (x.b.map cU8)), (.i .i64 x.i), (.i .i64 x.h)]
def vGL1Cur (x : GL1Cur) : V := .agg (cGL1Cur x)
def bGL1Cur (x : GL1Cur) : List V := (cGL1Cur x).map V.d
def acwFnDepth_L0 : AC := (.loop (.seq (.seq (.ops [.mv 12 6, .fa 13 8 3, .ld 14 1 false 13, .len 15 14, .bin 16 .lss 12 15]) (.cond 16 .skip (.exit 0))) (.seq (.block 1 (.seq (.ops [.mv 19 4, .neg 20 19, .fa 21 8 3, .ld 22 1 false 21, .mv 23 6, .ia 24 10 22 23, .ld 25 10 true 24, .call (some 26) 12 [25], .neg 27 26, .call (some 28) 11 [20, 27], .neg 29 28, .asg 4 29]) (.ops [.mv 30 5, .fa 31 8 3, .ld 32 1 false 31, .mv 33 6, .ia 34 10 32 33, .ld 35 10 true 34, .call (some 36) 13 [35], .bin 37 .add 30 36, .asg 5 37]))) (.ops [.mv 17 6, .bin 18 .add 17 (kI 1), .asg 6 18]))))
def acwFnDepth_L1 : AC := (.loop (.seq (.seq (.ops [.mv 38 7, .fa 39 9 3, .ld 40 1 false 39, .len 41 40, .bin 42 .lss 38 41]) (.cond 42 .skip (.exit 2))) (.seq (.block 3 (.seq (.ops [.mv 45 4, .neg 46 45, .fa 47 9 3, .ld 48 1 false 47, .mv 49 7, .ia 50 6 48 49, .ld 51 6 true 50, .call (some 52) 14 [51], .neg 53 52, .call (some 54) 11 [46, 53], .neg 55 54, .asg 4 55]) (.ops [.mv 56 5, .fa 57 9 3, .ld 58 1 false 57, .mv 59 7, .ia 60 6 58 59, .ld 61 6 true 60, .call (some 62) 15 [61], .bin 63 .add 56 62, .asg 5 63]))) (.ops [.mv 43 7, .bin 44 .add 43 (kI 1), .asg 7 44]))))
def acwFnDepth : AC := (.seq (.ops [.asg 2 (kB false)]) (.seq (.seq (.ops [.mv 8 0, .call (some 9) 9 [8]]) (.cond 9 (.seq (.ops [.asg 2 (kB true)]) .ret) .skip)) (.seq (.ops [.mv 10 0, .call (some 11) 10 [10], .alc 3 [(.d (.i .i64 0)), (.d (.i .i64 0)), (.d (.b false)), (.d (.i .i64 0)), (.d (.i .i64 0)), (.d (.s (bs []))), (.d (.s (bs []))), (.d (.s (bs []))), (.nil 10), (.nil 6)], .st 10 3 11]) (.seq (.ops [.asg 4 (kI 0)]) (.seq (.ops [.asg 5 (kI 1)]) (.seq (.seq (.ops [.asg 6 (kI 0)]) (.block 0 acwFnDepth_L0)) (.seq (.seq (.ops [.asg 7 (kI 0)]) (.block 2 acwFnDepth_L1)) (.seq (.ops [.ld 64 10 true 3, .call (some 65) 12 [64], .mv 66 4, .bin 67 .add 66 (kI 1), .bin 68 .eql 65 67, .mv 69 68, .g 69 true (.ld 70 10 true 3), .g 69 true (.call (some 71) 13 [70]), .g 69 true (.mv 72 5), .g 69 true (.bin 73 .eql 71 72), .pick 74 69 73 (kB false), .mv 75 74, .g 75 true (.mv 76 5), .g 75 true (.mv 77 4), .g 75 true (.bin 78 .gtr 76 77), .pick 79 75 78 (kB false), .asg 2 79]) .ret))))))))
theorem trwFnDepth : trFn Try.prog 3 = some (acwFnDepth, [.mv 0 2], 80) := by kernel_rfl
def qwFnDepth (r : Bool) : Exit → St → Prop := retQ [.mv 0 2] fun x _ => x = (fun y => (vB y)) r
def qwFnDepth_0 (r : Bool) : Exit → St → Prop := (thenK (wkK (avc Try.prog (.seq (.seq (.ops [.asg 7 (.c (.d (.i .i64 0)))]) (.block 2 acwFnDepth_L1)) (.seq (.ops [.ld 64 10 true 3, .call (some 65) 12 [64], .mv 66 4, .bin 67 .add 66 (.c (.d (.i .i64 1))), .bin 68 .eql 65 67, .mv 69 68, .g 69 true (.ld 70 10 true 3), .g 69 true (.call (some 71) 13 [70]), .g 69 true (.mv 72 5), .g 69 true (.bin 73 .eql 71 72), .pick 74 69 73 (.c (.d (.b false))), .mv 75 74, .g 75 true (.mv 76 5), .g 75 true (.mv 77 4), .g 75 true (.bin 78 .gtr 76 77), .pick 79 75 78 (.c (.d (.b false))), .asg 2 79]) .ret)) (qwFnDepth r))) (qwFnDepth r))
def qwFnDepth_1 (r : Bool) : Exit → St → Prop := (blockK 0 (qwFnDepth_0 r))
def qwFnDepth_2 (r : Bool) : Exit → St → Prop := (thenK (wkK (avc Try.prog (.seq (.ops [.ld 64 10 true 3, .call (some 65) 12 [64], .mv 66 4, .bin 67 .add 66 (.c (.d (.i .i64 1))), .bin 68 .eql 65 67, .mv 69 68, .g 69 true (.ld 70 10 true 3), .g 69 true (.call (some 71) 13 [70]), .g 69 true (.mv 72 5), .g 69 true (.bin 73 .eql 71 72), .pick 74 69 73 (.c (.d (.b false))), .mv 75 74, .g 75 true (.mv 76 5), .g 75 true (.mv 77 4), .g 75 true (.bin 78 .gtr 76 77), .pick 79 75 78 (.c (.d (.b false))), .asg 2 79]) .ret) (qwFnDepth r))) (qwFnDepth r))
def qwFnDepth_3 (r : Bool) : Exit → St → Prop := (blockK 2 (qwFnDepth_2 r))
def stwFnDepth_L0 (y2 : GExpr) (x4 : Int) (x5 : Int) (x6 : Int) : St := ⟨[(3, (.ptr 3 0)), (4, (vI x4)), (5, (vI x5)), (6, (vI x6))], [(3, bGExpr y2)]⟩
def stwFnDepth_L1 (y2 : GExpr) (x4_8 : Int) (x5_9 : Int) (x7 : Int) : St := ⟨[(3, (.ptr 3 0)), (4, (vI x4_8)), (5, (vI x5_9)), (7, (vI x7))], [(3, bGExpr y2)]⟩
def acsDrawDepthOf : AC := (.seq (.ops [.alc 2 [(.d (.i .i64 0)), (.d (.i .i64 0)), (.d (.b false)), (.d (.i .i64 0)), (.d (.i .i64 0)), (.d (.s (bs []))), (.d (.s (bs []))), (.d (.s (bs []))), (.nil 10), (.nil 6)]]) (.seq (.ops [.mv 3 0, .call (some 4) 40 [3], .st 10 2 4]) .ret))
theorem trsDrawDepthOf : trFn Try.prog 10 = some (acsDrawDepthOf, [.ld 0 10 true 2], 5) := by kernel_rfl
def qsDrawDepthOf (r : GExpr) : Exit → St → Prop := retQ [.ld 0 10 true 2] fun x _ => x = (fun y => (vGExpr y)) r
def acsL1New_L0 : AC := (.loop (.seq (.seq (.ops [.mv 8 4, .mv 9 0, .len 10 9, .bin 11 .lss 8 10, .mv 12 11, .g 12 true (.mv 13 4), .g 12 true (.bin 14 .lss 13 (kI 4000)), .pick 15 12 14 (kB false)]) (.cond 15 .skip (.exit 0))) (.seq (.block 1 (.ops [.mv 18 3, .bin 19 .mul 18 (kI 131), .mv 20 0, .mv 21 4, .ia 22 1 20 21, .ld 23 1 false 22, .cvi 24 .i64 23, .bin 25 .add 19 24, .bin 26 .add 25 (kI 7), .bin 27 .and 26 (kI 1073741823), .asg 3 27])) (.ops [.mv 16 4, .bin 17 .add 16 (kI 1), .asg 4 17]))))
def acsL1New : AC := (.seq (.ops [.asg 2 (.c .np)]) (.seq (.ops [.mv 5 0, .len 6 5, .bin 7 .add (kI 28322) 6, .asg 3 7]) (.seq (.seq (.ops [.asg 4 (kI 0)]) (.block 0 acsL1New_L0)) (.seq (.ops [.mv 28 0, .mv 29 3, .bld 30 [(.nil 1), (.d (.i .i64 0)), (.d (.i .i64 0))] [(0, 1, 28), (2, 1, 29)], .box 31 162 30, .asg 2 31]) .ret))))
theorem trsL1New : trFn Try.prog 82 = some (acsL1New, [.mv 0 2], 32) := by kernel_rfl
def qsL1New (r : GL1Cur) : Exit → St → Prop := retQ [.mv 0 2] fun x b => x = (fun (y : GL1Cur) => (.ptr 31 0)) r ∧ bxHas ((fun (y : GL1Cur) => [(31, bGL1Cur y)]) r) b
def qsL1New_0 (r : GL1Cur) : Exit → St → Prop := (thenK (wkK (avc Try.prog (.seq (.ops [.mv 28 0, .mv 29 3, .bld 30 [(.nil 1), (.d (.i .i64 0)), (.d (.i .i64 0))] [(0, 1, 28), (2, 1, 29)], .box 31 162 30, .asg 2 31]) .ret) (qsL1New r))) (qsL1New r))
def qsL1New_1 (r : GL1Cur) : Exit → St → Prop := (blockK 0 (qsL1New_0 r))
def stsL1New_L0 (p0 : (List Int)) (x3 : Int) (x4 : Int) : St := ⟨[(0, (.d (.sl 1 (p0.map cU8)))), (3, (vI x3)), (4, (vI x4))], []⟩
def aciQuerySize : AC := (.seq (.ops [.box 1 38 0, .asg 2 (kI 0)]) (.seq (.ops [.ld 3 6 true 1, .call (some 4) 43 [3], .call (some 5) 41 [4], .asg 2 5]) .ret))
theorem triQuerySize : trFn Try.prog 15 = some (aciQuerySize, [.mv 0 2], 6) := by kernel_rfl
def qiQuerySize (r : Int) : Exit → St → Prop := retQ [.mv 0 2] fun x _ => x = (fun y => (vI y)) r
def aciSizeOfAll_L0 : AC := (.loop (.seq (.ops [.bin 9 .lss 8 7]) (.seq (.cond 9 .skip (.exit 0)) (.seq (.block 1 (.seq (.ops [.ia 10 10 6 8, .ld 11 10 true 10, .alc 5 [(.d (.i .i64 0)), (.d (.i .i64 0)), (.d (.b false)), (.d (.i .i64 0)), (.d (.i .i64 0)), (.d (.s (bs []))), (.d (.s (bs []))), (.d (.s (bs []))), (.nil 10), (.nil 6)], .st 10 5 11]) (.ops [.mv 12 3, .ld 13 10 true 5, .call (some 14) 13 [13], .bin 15 .add 12 14, .asg 3 15]))) (.ops [.bin 16 .add 8 (kI 1), .mv 8 16])))))
def aciSizeOfAll : AC := (.seq (.ops [.asg 2 (kI 0)]) (.seq (.ops [.asg 3 (kI 0)]) (.seq (.seq (.ops [.mv 6 0, .len 7 6, .mv 8 (kI 0)]) (.block 0 aciSizeOfAll_L0)) (.seq (.ops [.mv 17 3, .asg 2 17]) .ret))))
theorem triSizeOfAll : trFn Try.prog 41 = some (aciSizeOfAll, [.mv 0 2], 18) := by kernel_rfl
def qiSizeOfAll (r : Int) : Exit → St → Prop := retQ [.mv 0 2] fun x _ => x = (fun y => (vI y)) r
def qiSizeOfAll_0 (r : Int) : Exit → St → Prop := (thenK (wkK (avc Try.prog (.seq (.ops [.mv 17 3, .asg 2 17]) .ret) (qiSizeOfAll r))) (qiSizeOfAll r))
def qiSizeOfAll_1 (r : Int) : Exit → St → Prop := (blockK 0 (qiSizeOfAll_0 r))
def stiSizeOfAll_L0 (p0 : (List GExpr)) (x3 : Int) (x8 : Int) : St := ⟨[(3, (vI x3)), (6, (.d (.sl 10 (p0.map cGExpr)))), (7, (vI (p0.length : Int))), (8, (vI x8))], []⟩
def aciSizeOf_L0 : AC := (.loop (.seq (.ops [.bin 14 .lss 13 12]) (.seq (.cond 14 .skip (.exit 0)) (.seq (.block 1 (.seq (.ops [.ia 15 6 11 13, .ld 16 6 true 15, .alc 5 [(.d (.b false)), (.nil 13), (.nil 3), (.nil 10), (.nil 11), (.d (.i .i64 0))], .st 6 5 16]) (.ops [.mv 17 3, .ld 18 6 true 5, .call (some 19) 15 [18], .bin 20 .add 17 19, .asg 3 20]))) (.ops [.bin 21 .add 13 (kI 1), .mv 13 21])))))
def aciSizeOf : AC := (.seq (.ops [.box 1 29 0, .asg 2 (kI 0)]) (.seq (.ops [.fa 6 8 1, .ld 7 1 false 6, .call (some 8) 41 [7], .bin 9 .add (kI 1) 8, .asg 3 9]) (.seq (.seq (.ops [.fa 10 9 1, .ld 11 1 false 10, .len 12 11, .mv 13 (kI 0)]) (.block 0 aciSizeOf_L0)) (.seq (.ops [.mv 22 3, .asg 2 22]) .ret))))
theorem triSizeOf : trFn Try.prog 13 = some (aciSizeOf, [.mv 0 2], 23) := by kernel_rfl
def qiSizeOf (r : Int) : Exit → St → Prop := retQ [.mv 0 2] fun x _ => x = (fun y => (vI y)) r
def qiSizeOf_0 (r : Int) : Exit → St → Prop := (thenK (wkK (avc Try.prog (.seq (.ops [.mv 22 3, .asg 2 22]) .ret) (qiSizeOf r))) (qiSizeOf r))
def qiSizeOf_1 (r : Int) : Exit → St → Prop := (blockK 0 (qiSizeOf_0 r))
def stiSizeOf_L0 (p0 : GExpr) (x3 : Int) (x13 : Int) : St := ⟨[(3, (vI x3)), (11, (.d (.sl 6 (p0.sub.map cGQuery)))), (12, (vI (p0.sub.length : Int))), (13, (vI x13))], []⟩
def aciQuery_exprs_J1 : AC := (.ops [.bin 26 .add 14 (kI 1), .mv 14 26])
def aciQuery_exprs_L0 : AC := (.loop (.seq (.ops [.bin 15 .lss 14 13]) (.seq (.cond 15 .skip (.exit 0)) (.seq (.block 1 (.seq (.ops [.ia 16 13 12 14, .ld 17 13 true 16, .alc 5 [(.d (.b false)), (.d (.s (bs []))), (.d (.i .i64 0)), (.d (.i .i64 0)), (.d (.b false)), (.d (.i .i64 0)), (.d (.i .i64 0)), (.d (.s (bs []))), (.d (.s (bs []))), (.d (.s (bs []))), (.nil 10), (.nil 6), (.d (.s (bs [])))], .st 13 5 17]) (.seq (.ops [.fa 18 0 5, .ld 19 1 false 18, .not 20 19]) (.cond 20 (.ops [.mv 21 3, .fa 22 2 5, .ld 23 10 true 22, .bsl 24 29 10 [23], .app 25 29 10 136 21 24, .asg 3 25]) .skip)))) aciQuery_exprs_J1))))
def aciQuery_exprs_L2 : AC := (.loop (.seq (.ops [.bin 31 .lss 30 29]) (.seq (.cond 31 .skip (.exit 2)) (.seq (.block 3 (.seq (.ops [.ia 32 3 28 30, .ld 33 3 true 32, .alc 7 [(.d (.s (bs []))), (.d (.s (bs []))), (.nil 10)], .st 3 7 33]) (.ops [.mv 34 3, .fa 35 2 7, .ld 36 1 false 35, .app 37 29 10 136 34 36, .asg 3 37]))) (.ops [.bin 38 .add 30 (kI 1), .mv 30 38])))))
def aciQuery_exprs_L3 : AC := (.loop (.seq (.ops [.bin 47 .lss 46 45]) (.seq (.cond 47 .skip (.exit 4)) (.seq (.block 5 (.seq (.ops [.ia 48 11 44 46, .ld 49 11 true 48, .alc 9 [(.d (.i .i64 0)), (.d (.i .i64 0)), (.d (.b false)), (.d (.i .i64 0)), (.d (.i .i64 0)), (.d (.s (bs []))), (.d (.s (bs []))), (.d (.s (bs []))), (.nil 10), (.nil 6), (.d (.b false))], .st 11 9 49]) (.ops [.mv 50 3, .fa 51 0 9, .ld 52 10 true 51, .bsl 53 29 10 [52], .app 54 29 10 136 50 53, .asg 3 54]))) (.ops [.bin 55 .add 46 (kI 1), .mv 46 55])))))
def aciQuery_exprs : AC := (.seq (.ops [.box 1 38 0, .asg 2 (.c (.nil 10))]) (.seq (.ops [.bsl 10 29 10 [], .asg 3 10]) (.seq (.seq (.ops [.fa 11 1 1, .ld 12 1 false 11, .len 13 12, .mv 14 (kI 0)]) (.block 0 aciQuery_exprs_L0)) (.seq (.seq (.ops [.fa 27 2 1, .ld 28 1 false 27, .len 29 28, .mv 30 (kI 0)]) (.block 2 aciQuery_exprs_L2)) (.seq (.ops [.mv 39 3, .fa 40 3 1, .ld 41 1 false 40, .app 42 29 10 136 39 41, .asg 3 42]) (.seq (.seq (.ops [.fa 43 4 1, .ld 44 1 false 43, .len 45 44, .mv 46 (kI 0)]) (.block 4 aciQuery_exprs_L3)) (.seq (.ops [.mv 56 3, .asg 2 56]) .ret)))))))
theorem triQuery_exprs : trFn Try.prog 43 = some (aciQuery_exprs, [.mv 0 2], 57) := by kernel_rfl
def qiQuery_exprs (r : (List GExpr)) : Exit → St → Prop := retQ [.mv 0 2] fun x b => x = (fun (y : (List GExpr)) => (.osl 2000000 29 10 (y.map cGExpr))) r ∧ bxHas ((fun (y : (List GExpr)) => []) r) b
def qiQuery_exprs_0 (r : (List GExpr)) : Exit → St → Prop := (thenK (wkK (avc Try.prog (.seq (.seq (.ops [.fa 27 2 1, .ld 28 1 false 27, .len 29 28, .mv 30 (.c (.d (.i .i64 0)))]) (.block 2 aciQuery_exprs_L2)) (.seq (.ops [.mv 39 3, .fa 40 3 1, .ld 41 1 false 40, .app 42 29 10 136 39 41, .asg 3 42]) (.seq (.seq (.ops [.fa 43 4 1, .ld 44 1 false 43, .len 45 44, .mv 46 (.c (.d (.i .i64 0)))]) (.block 4 aciQuery_exprs_L3)) (.seq (.ops [.mv 56 3, .asg 2 56]) .ret)))) (qiQuery_exprs r))) (qiQuery_exprs r))
def qiQuery_exprs_1 (r : (List GExpr)) : Exit → St → Prop := (blockK 0 (qiQuery_exprs_0 r))
def qiQuery_exprs_2 (r : (List GExpr)) : Exit → St → Prop := (thenK (avc Try.prog aciQuery_exprs_L0 (qiQuery_exprs_1 r)) (qiQuery_exprs_1 r))
def qiQuery_exprs_3 (r : (List GExpr)) : Exit → St → Prop := (thenK (wkK (avc Try.prog (.seq (.ops [.mv 39 3, .fa 40 3 1, .ld 41 1 false 40, .app 42 29 10 136 39 41, .asg 3 42]) (.seq (.seq (.ops [.fa 43 4 1, .ld 44 1 false 43, .len 45 44, .mv 46 (.c (.d (.i .i64 0)))]) (.block 4 aciQuery_exprs_L3)) (.seq (.ops [.mv 56 3, .asg 2 56]) .ret))) (qiQuery_exprs r))) (qiQuery_exprs r))
def qiQuery_exprs_4 (r : (List GExpr)) : Exit → St → Prop := (blockK 2 (qiQuery_exprs_3 r))
def qiQuery_exprs_5 (r : (List GExpr)) : Exit → St → Prop := (thenK (wkK (avc Try.prog (.seq (.ops [.mv 56 3, .asg 2 56]) .ret) (qiQuery_exprs r))) (qiQuery_exprs r))
def qiQuery_exprs_6 (r : (List GExpr)) : Exit → St → Prop := (blockK 4 (qiQuery_exprs_5 r))
def stiQuery_exprs_L0 (p0 : GQuery) (x3 : (List GExpr)) (x14 : Int) : St := ⟨[(1, (.ptr 1 0)), (3, (.osl 3 29 10 (x3.map cGExpr))), (12, (.d (.sl 13 (p0.items.map cGItem)))), (13, (vI (p0.items.length : Int))), (14, (vI x14))], [(1, bGQuery p0)]⟩
def stiQuery_exprs_J1 (p0 : GQuery) (x14 : Int) (x3_3 : (List GExpr)) : St := ⟨[(1, (.ptr 1 0)), (3, (.osl 3 29 10 (x3_3.map cGExpr))), (12, (.d (.sl 13 (p0.items.map cGItem)))), (13, (vI (p0.items.length : Int))), (14, (vI x14))], [(1, bGQuery p0)]⟩
def stiQuery_exprs_L2 (p0 : GQuery) (x3_4 : (List GExpr)) (x30 : Int) : St := ⟨[(1, (.ptr 1 0)), (3, (.osl 3 29 10 (x3_4.map cGExpr))), (28, (.d (.sl 3 (p0.from_.map cGSource)))), (29, (vI (p0.from_.length : Int))), (30, (vI x30))], [(1, bGQuery p0)]⟩
def stiQuery_exprs_L3 (p0 : GQuery) (x3_8 : (List GExpr)) (x46 : Int) : St := ⟨[(3, (.osl 3 29 10 (x3_8.map cGExpr))), (44, (.d (.sl 11 (p0.order.map cGSortKey)))), (45, (vI (p0.order.length : Int))), (46, (vI x46))], []⟩
def aciQueryDepth : AC := (.seq (.ops [.box 1 38 0, .asg 2 (kI 0)]) (.seq (.ops [.ld 3 6 true 1, .call (some 4) 43 [3], .call (some 5) 42 [4], .asg 2 5]) .ret))
theorem triQueryDepth : trFn Try.prog 14 = some (aciQueryDepth, [.mv 0 2], 6) := by kernel_rfl
def qiQueryDepth (r : Int) : Exit → St → Prop := retQ [.mv 0 2] fun x _ => x = (fun y => (vI y)) r
def aciDeepestOf_L0 : AC := (.loop (.seq (.ops [.bin 9 .lss 8 7]) (.seq (.cond 9 .skip (.exit 0)) (.seq (.block 1 (.seq (.ops [.ia 10 10 6 8, .ld 11 10 true 10, .alc 5 [(.d (.i .i64 0)), (.d (.i .i64 0)), (.d (.b false)), (.d (.i .i64 0)), (.d (.i .i64 0)), (.d (.s (bs []))), (.d (.s (bs []))), (.d (.s (bs []))), (.nil 10), (.nil 6)], .st 10 5 11]) (.ops [.mv 12 3, .ld 13 10 true 5, .call (some 14) 12 [13], .max 15 12 14, .asg 3 15]))) (.ops [.bin 16 .add 8 (kI 1), .mv 8 16])))))
def aciDeepestOf : AC := (.seq (.ops [.asg 2 (kI 0)]) (.seq (.ops [.asg 3 (kI 0)]) (.seq (.seq (.ops [.mv 6 0, .len 7 6, .mv 8 (kI 0)]) (.block 0 aciDeepestOf_L0)) (.seq (.ops [.mv 17 3, .asg 2 17]) .ret))))
theorem triDeepestOf : trFn Try.prog 42 = some (aciDeepestOf, [.mv 0 2], 18) := by kernel_rfl
def qiDeepestOf (r : Int) : Exit → St → Prop := retQ [.mv 0 2] fun x _ => x = (fun y => (vI y)) r
def qiDeepestOf_0 (r : Int) : Exit → St → Prop := (thenK (wkK (avc Try.prog (.seq (.ops [.mv 17 3, .asg 2 17]) .ret) (qiDeepestOf r))) (qiDeepestOf r))
def qiDeepestOf_1 (r : Int) : Exit → St → Prop := (blockK 0 (qiDeepestOf_0 r))
def stiDeepestOf_L0 (p0 : (List GExpr)) (x3 : Int) (x8 : Int) : St := ⟨[(3, (vI x3)), (6, (.d (.sl 10 (p0.map cGExpr)))), (7, (vI (p0.length : Int))), (8, (vI x8))], []⟩
def aciDepthOf_L0 : AC := (.loop (.seq (.ops [.bin 12 .lss 11 10]) (.seq (.cond 12 .skip (.exit 0)) (.seq (.block 1 (.seq (.ops [.ia 13 10 9 11, .ld 14 10 true 13, .alc 5 [(.d (.i .i64 0)), (.d (.i .i64 0)), (.d (.b false)), (.d (.i .i64 0)), (.d (.i .i64 0)), (.d (.s (bs []))), (.d (.s (bs []))), (.d (.s (bs []))), (.nil 10), (.nil 6)], .st 10 5 14]) (.ops [.mv 15 3, .ld 16 10 true 5, .call (some 17) 12 [16], .max 18 15 17, .asg 3 18]))) (.ops [.bin 19 .add 11 (kI 1), .mv 11 19])))))
def aciDepthOf_L1 : AC := (.loop (.seq (.ops [.bin 24 .lss 23 22]) (.seq (.cond 24 .skip (.exit 2)) (.seq (.block 3 (.seq (.ops [.ia 25 6 21 23, .ld 26 6 true 25, .alc 7 [(.d (.b false)), (.nil 13), (.nil 3), (.nil 10), (.nil 11), (.d (.i .i64 0))], .st 6 7 26]) (.ops [.mv 27 3, .ld 28 6 true 7, .call (some 29) 14 [28], .max 30 27 29, .asg 3 30]))) (.ops [.bin 31 .add 23 (kI 1), .mv 23 31])))))
def aciDepthOf : AC := (.seq (.ops [.box 1 29 0, .asg 2 (kI 0)]) (.seq (.ops [.asg 3 (kI 0)]) (.seq (.seq (.ops [.fa 8 8 1, .ld 9 1 false 8, .len 10 9, .mv 11 (kI 0)]) (.block 0 aciDepthOf_L0)) (.seq (.seq (.ops [.fa 20 9 1, .ld 21 1 false 20, .len 22 21, .mv 23 (kI 0)]) (.block 2 aciDepthOf_L1)) (.seq (.ops [.mv 32 3, .bin 33 .add (kI 1) 32, .asg 2 33]) .ret)))))
theorem triDepthOf : trFn Try.prog 12 = some (aciDepthOf, [.mv 0 2], 34) := by kernel_rfl
def qiDepthOf (r : Int) : Exit → St → Prop := retQ [.mv 0 2] fun x _ => x = (fun y => (vI y)) r
def qiDepthOf_0 (r : Int) : Exit → St → Prop := (thenK (wkK (avc Try.prog (.seq (.seq (.ops [.fa 20 9 1, .ld 21 1 false 20, .len 22 21, .mv 23 (.c (.d (.i .i64 0)))]) (.block 2 aciDepthOf_L1)) (.seq (.ops [.mv 32 3, .bin 33 .add (.c (.d (.i .i64 1))) 32, .asg 2 33]) .ret)) (qiDepthOf r))) (qiDepthOf r))
def qiDepthOf_1 (r : Int) : Exit → St → Prop := (blockK 0 (qiDepthOf_0 r))
def qiDepthOf_2 (r : Int) : Exit → St → Prop := (thenK (wkK (avc Try.prog (.seq (.ops [.mv 32 3, .bin 33 .add (.c (.d (.i .i64 1))) 32, .asg 2 33]) .ret) (qiDepthOf r))) (qiDepthOf r))
def qiDepthOf_3 (r : Int) : Exit → St → Prop := (blockK 2 (qiDepthOf_2 r))
def stiDepthOf_L0 (p0 : GExpr) (x3 : Int) (x11 : Int) : St := ⟨[(1, (.ptr 1 0)), (3, (vI x3)), (9, (.d (.sl 10 (p0.kids.map cGExpr)))), (10, (vI (p0.kids.length : Int))), (11, (vI x11))], [(1, bGExpr p0)]⟩
def stiDepthOf_L1 (p0 : GExpr) (x3_3 : Int) (x23 : Int) : St := ⟨[(3, (vI x3_3)), (21, (.d (.sl 6 (p0.sub.map cGQuery)))), (22, (vI (p0.sub.length : Int))), (23, (vI x23))], []⟩
def acwLow : AC := (.seq (.ops [.asg 4 (kI 0)]) (.seq (.seq (.ops [.mv 5 0, .mv 6 1, .bin 7 .lss 5 6]) (.cond 7 (.seq (.ops [.mv 8 0, .asg 4 8]) .ret) .skip)) (.seq (.ops [.mv 9 1, .asg 4 9]) .ret)))
theorem trwLow : trFn Try.prog 11 = some (acwLow, [.mv 0 4], 10) := by kernel_rfl
def qwLow (r : Int) : Exit → St → Prop := retQ [.mv 0 4] fun x _ => x = (fun y => (vI y)) r
def acwBig : AC := (.seq (.ops [.asg 2 (kB false)]) (.seq (.ops [.mv 3 0, .len 4 3, .bin 5 .gtr 4 (kI 1048576), .asg 2 5]) .ret))
theorem trwBig : trFn Try.prog 9 = some (acwBig, [.mv 0 2], 6) := by kernel_rfl
def qwBig (r : Bool) : Exit → St → Prop := retQ [.mv 0 2] fun x _ => x = (fun y => (vB y)) r
def acsL7Draw_J0 : AC := (.seq (.ops [.ld 22 10 true 4, .st 10 2 22]) .ret)
def acsL7Draw : AC := (.seq (.ops [.alc 2 [(.d (.i .i64 0)), (.d (.i .i64 0)), (.d (.b false)), (.d (.i .i64 0)), (.d (.i .i64 0)), (.d (.s (bs []))), (.d (.s (bs []))), (.d (.s (bs []))), (.nil 10), (.nil 6)]]) (.seq (.ops [.mv 5 0, .call (some 6) 82 [5], .asg 3 6]) (.seq (.seq (.ops [.mv 7 3, .call (some 8) 83 [7, (kI 16)]]) (.cond 8 (.seq (.ops [.mv 9 3, .call (some 10) 84 [9], .st 10 2 10]) .ret) .skip)) (.seq (.ops [.mv 11 3, .mv 12 3, .mv 13 0, .call (some 14) 87 [13, (kI 4)], .call (some 15) 86 [12, 14], .call (some 16) 85 [11, 15], .alc 4 [(.d (.i .i64 0)), (.d (.i .i64 0)), (.d (.b false)), (.d (.i .i64 0)), (.d (.i .i64 0)), (.d (.s (bs []))), (.d (.s (bs []))), (.d (.s (bs []))), (.nil 10), (.nil 6)], .st 10 4 16]) (.seq (.seq (.ops [.mv 17 3, .call (some 18) 83 [17, (kI 4)]]) (.cond 18 (.ops [.mv 19 3, .ld 20 10 true 4, .call (some 21) 88 [19, 20], .st 10 4 21]) .skip)) acsL7Draw_J0)))))
theorem trsL7Draw : trFn Try.prog 40 = some (acsL7Draw, [.ld 0 10 true 2], 23) := by kernel_rfl
def qsL7Draw (r : GExpr) : Exit → St → Prop := retQ [.ld 0 10 true 2] fun x _ => x = (fun y => (vGExpr y)) r
def stsL7Draw_J0 (b4_0 : Int) (b4_1 : Int) (b4_2 : Bool) (b4_3 : Int) (b4_4 : Int) (b4_5 : (List UInt8)) (b4_6 : (List UInt8)) (b4_7 : (List UInt8)) (b60043000_0 : (List GExpr)) (b60043001_0 : (List GQuery)) : St := ⟨[(2, (.ptr 2 0)), (4, (.ptr 4 0))], [(2, [(vI 0), (vI 0), (vB false), (vI 0), (vI 0), (vS []), (vS []), (vS []), (.nil 10), (.nil 6)]), (4, [(vI b4_0), (vI b4_1), (vB b4_2), (vI b4_3), (vI b4_4), (vS b4_5), (vS b4_6), (vS b4_7), (.tre 60043000), (.tre 60043001)]), (60043000, [(.trc 10 (b60043000_0.map cGExpr))]), (60043001, [(.trc 6 (b60043001_0.map cGQuery))])]⟩
def acsL7Deep_X_L0 : AC := (.loop (.seq (.seq (.ops [.mv 11 5, .mv 12 4, .bin 13 .lss 11 12]) (.cond 13 .skip (.exit 0))) (.seq (.block 1 (.ops [.ld 16 10 true 3, .bsl 17 29 10 [16], .bld 18 [(.d (.i .i64 0)), (.d (.i .i64 0)), (.d (.b false)), (.d (.i .i64 0)), (.d (.i .i64 0)), (.d (.s (bs []))), (.d (.s (bs []))), (.d (.s (bs []))), (.nil 10), (.nil 6)] [(0, 1, (kI 3)), (1, 1, (kI 16)), (8, 1, 17)], .st 10 3 18])) (.ops [.mv 14 5, .bin 15 .add 14 (kI 1), .asg 5 15]))))
def acsL7Deep_X : AC := (.seq (.ops [.alc 2 [(.d (.i .i64 0)), (.d (.i .i64 0)), (.d (.b false)), (.d (.i .i64 0)), (.d (.i .i64 0)), (.d (.s (bs []))), (.d (.s (bs []))), (.d (.s (bs []))), (.nil 10), (.nil 6)]]) (.seq (.ops [.mv 6 0, .call (some 7) 143 [6], .alc 3 [(.d (.i .i64 0)), (.d (.i .i64 0)), (.d (.b false)), (.d (.i .i64 0)), (.d (.i .i64 0)), (.d (.s (bs []))), (.d (.s (bs []))), (.d (.s (bs []))), (.nil 10), (.nil 6)], .st 10 3 7]) (.seq (.ops [.mv 8 0, .call (some 9) 86 [8, (kI 3)], .bin 10 .add (kI 22) 9, .asg 4 10]) (.seq (.seq (.ops [.asg 5 (kI 0)]) (.block 0 acsL7Deep_X_L0)) (.seq (.ops [.ld 19 10 true 3, .st 10 2 19]) .ret)))))
theorem trsL7Deep_X : trFn Try.prog 84 = some (acsL7Deep_X, [.ld 0 10 true 2], 20) := by kernel_rfl
def qsL7Deep_X (r : GExpr × GL1Cur) : Exit → St → Prop := retQ [.ld 0 10 true 2] fun x b => x = (fun (y : GExpr × GL1Cur) => (.agv [(vI y.1.kind), (vI y.1.op), (vB y.1.not_), (vI y.1.value.kind), (vI y.1.value.num), (vS y.1.value.text), (vS y.1.qual), (vS y.1.name), (.tre 10000008), (.tre 10000009)])) r ∧ bxHas ((fun (y : GExpr × GL1Cur) => [(10000008, [(.trc 10 (y.1.kids.map cGExpr))]), (10000009, [(.trc 6 (y.1.sub.map cGQuery))]), (1000000, bGL1Cur y.2)]) r) b
def qsL7Deep_X_0 (r : GExpr × GL1Cur) : Exit → St → Prop := (thenK (wkK (avc Try.prog (.seq (.ops [.ld 19 10 true 3, .st 10 2 19]) .ret) (qsL7Deep_X r))) (qsL7Deep_X r))
def qsL7Deep_X_1 (r : GExpr × GL1Cur) : Exit → St → Prop := (blockK 0 (qsL7Deep_X_0 r))
def stsL7Deep_X_L0 (y2 : Int × GL1Cur) (x5 : Int) (b3_0 : Int) (b3_1 : Int) (b3_2 : Bool) (b3_3 : Int) (b3_4 : Int) (kb3_5 : ((List UInt8) × ((List UInt8) × ((List UInt8) × ((List GExpr) × (List GQuery)))))) : St := ⟨[(2, (.ptr 2 0)), (3, (.ptr 3 0)), (4, (vI (IntKind.wrap .i64 (22 + y2.1)))), (5, (vI x5))], [(2, [(vI 0), (vI 0), (vB false), (vI 0), (vI 0), (vS []), (vS []), (vS []), (.nil 10), (.nil 6)]), (3, [(vI b3_0), (vI b3_1), (vB b3_2), (vI b3_3), (vI b3_4), (vS kb3_5.1), (vS kb3_5.2.1), (vS kb3_5.2.2.1), (.tre 60020000), (.tre 60020001)]), (1000000, bGL1Cur y2.2), (60020000, [(.trc 10 (kb3_5.2.2.2.1.map cGExpr))]), (60020001, [(.trc 6 (kb3_5.2.2.2.2.map cGQuery))])]⟩
def acsL1Below : AC := (.seq (.ops [.asg 4 (kI 0)]) (.seq (.seq (.ops [.mv 9 1, .bin 10 .leq 9 (kI 0)]) (.cond 10 (.seq (.ops [.asg 4 (kI 0)]) .ret) .skip)) (.seq (.seq (.ops [.mv 11 1, .bin 12 .leq 11 (kI 256)]) (.cond 12 (.seq (.ops [.mv 13 0, .call (some 14) 147 [13], .mv 15 1, .bin 16 .rem 14 15, .asg 4 16]) .ret) .skip)) (.seq (.ops [.mv 17 0, .call (some 18) 147 [17], .asg 5 18]) (.seq (.ops [.mv 19 0, .call (some 20) 147 [19], .asg 6 20]) (.seq (.ops [.mv 21 0, .call (some 22) 147 [21], .asg 7 22]) (.seq (.ops [.mv 23 0, .call (some 24) 147 [23], .asg 8 24]) (.seq (.ops [.mv 25 5, .bin 26 .mul 25 (kI 16777216), .mv 27 6, .bin 28 .mul 27 (kI 65536), .bin 29 .add 26 28, .mv 30 7, .bin 31 .mul 30 (kI 256), .bin 32 .add 29 31, .mv 33 8, .bin 34 .add 32 33, .mv 35 1, .bin 36 .rem 34 35, .asg 4 36]) .ret))))))))
theorem trsL1Below : trFn Try.prog 86 = some (acsL1Below, [.mv 0 4], 37) := by kernel_rfl
def qsL1Below (r : Int × GL1Cur) : Exit → St → Prop := retQ [.mv 0 4] fun x b => x = (fun (y : Int × GL1Cur) => (vI y.1)) r ∧ bxHas ((fun (y : Int × GL1Cur) => [(1000000, bGL1Cur y.2)]) r) b
def acsL1Byte_J0 : AC := (.seq (.ops [.mv 57 3, .asg 2 57]) .ret)
def acsL1Byte : AC := (.seq (.ops [.asg 2 (kI 0)]) (.seq (.ops [.mv 4 0, .mv 5 0, .nck 6 5, .fa 7 2 6, .ld 8 1 false 7, .bin 9 .mul 8 (kI 6364136223846793005), .bin 10 .add 9 (kI 1442695040888963407), .nck 11 4, .fa 12 2 11, .st 1 12 10]) (.seq (.dops [[], [0], [1], [2], [3], [], [5], [6], [7], [8], [4, 9], [10], [11, 0, 1, 2, 3, 4, 5, 6, 7, 8, 9, 10, 11]] [.mv 13 0, .nck 14 13, .fa 15 2 14, .ld 16 1 false 15, .bin 17 .shr 16 (.c (.d (.i .u64 33))), .mv 18 0, .nck 19 18, .fa 20 2 19, .ld 21 1 false 20, .bin 22 .shr 21 (.c (.d (.i .u64 45))), .bin 23 .xor 17 22, .bin 24 .and 23 (kI 255), .asg 3 24]) (.seq (.seq (.dops [[], [0], [1], [2], [], [4], [5], [6], [7], [3, 8]] [.mv 25 0, .nck 26 25, .fa 27 1 26, .ld 28 1 false 27, .mv 29 0, .nck 30 29, .fa 31 0 30, .ld 32 1 false 31, .len 33 32, .bin 34 .lss 28 33]) (.cond 34 (.seq (.dops [[], [], [1], [2], [3], [], [5], [6], [7], [4, 8], [9], [10], [0, 11], [12], [13, 0, 1, 2, 3, 4, 5, 6, 7, 8, 9, 10, 11, 12, 13]] [.mv 35 3, .mv 36 0, .nck 37 36, .fa 38 0 37, .ld 39 1 false 38, .mv 40 0, .nck 41 40, .fa 42 1 41, .ld 43 1 false 42, .ia 44 1 39 43, .ld 45 1 false 44, .cvi 46 .i64 45, .bin 47 .add 35 46, .bin 48 .and 47 (kI 255), .asg 3 48]) (.ops [.mv 49 0, .mv 50 0, .nck 51 50, .fa 52 1 51, .ld 53 1 false 52, .bin 54 .add 53 (kI 1), .nck 55 49, .fa 56 1 55, .st 1 56 54])) .skip)) acsL1Byte_J0))))
theorem trsL1Byte : trFn Try.prog 147 = some (acsL1Byte, [.mv 0 2], 58) := by kernel_rfl
def qsL1Byte (r : Int × GL1Cur) : Exit → St → Prop := retQ [.mv 0 2] fun x b => x = (fun (y : Int × GL1Cur) => (vI y.1)) r ∧ bxHas ((fun (y : Int × GL1Cur) => [(1000000, bGL1Cur y.2)]) r) b
def stsL1Byte_J0 (p0 : GL1Cur) (x3 : Int) (b1000000_1 : Int) : St := ⟨[(3, (vI x3))], [(1000000, bGL1Cur (GL1Cur.mk p0.b b1000000_1 (IntKind.wrap .i64 ((IntKind.wrap .i64 (p0.h * 6364136223846793005)) + 1442695040888963407))))]⟩
def acsL7Col_X_J1 : AC := (.seq (.ops [.ld 19 10 true 3, .st 10 2 19]) .ret)
def acsL7Col_X_J0 : AC := (.seq (.seq (.ops [.mv 14 0, .call (some 15) 83 [14, (kI 12)]]) (.cond 15 (.ops [.mv 16 0, .call (some 17) 150 [16], .fa 18 7 3, .st 1 18 17]) .skip)) acsL7Col_X_J1)
def acsL7Col_X : AC := (.seq (.ops [.alc 2 [(.d (.i .i64 0)), (.d (.i .i64 0)), (.d (.b false)), (.d (.i .i64 0)), (.d (.i .i64 0)), (.d (.s (bs []))), (.d (.s (bs []))), (.d (.s (bs []))), (.nil 10), (.nil 6)]]) (.seq (.ops [.mv 4 0, .bsl 5 9 1 [(.c (.d (.s (bs [97])))), (.c (.d (.s (bs [98])))), (.c (.d (.s (bs [99])))), (.c (.d (.s (bs [105, 100])))), (.c (.d (.s (bs [110, 97, 109, 101]))))], .call (some 6) 151 [4, 5], .bld 7 [(.d (.i .i64 0)), (.d (.i .i64 0)), (.d (.b false)), (.d (.i .i64 0)), (.d (.i .i64 0)), (.d (.s (bs []))), (.d (.s (bs []))), (.d (.s (bs []))), (.nil 10), (.nil 6)] [(0, 1, (kI 2)), (7, 1, 6)], .alc 3 [(.d (.i .i64 0)), (.d (.i .i64 0)), (.d (.b false)), (.d (.i .i64 0)), (.d (.i .i64 0)), (.d (.s (bs []))), (.d (.s (bs []))), (.d (.s (bs []))), (.nil 10), (.nil 6)], .st 10 3 7]) (.seq (.seq (.ops [.mv 8 0, .call (some 9) 83 [8, (kI 3)]]) (.cond 9 (.ops [.mv 10 0, .bsl 11 9 1 [(.c (.d (.s (bs [116])))), (.c (.d (.s (bs [117])))), (.c (.d (.s (bs [118]))))], .call (some 12) 151 [10, 11], .fa 13 6 3, .st 1 13 12]) .skip)) acsL7Col_X_J0)))
theorem trsL7Col_X : trFn Try.prog 143 = some (acsL7Col_X, [.ld 0 10 true 2], 20) := by kernel_rfl
def qsL7Col_X (r : GExpr × GL1Cur) : Exit → St → Prop := retQ [.ld 0 10 true 2] fun x b => x = (fun (y : GExpr × GL1Cur) => (.agv [(vI y.1.kind), (vI y.1.op), (vB y.1.not_), (vI y.1.value.kind), (vI y.1.value.num), (vS y.1.value.text), (vS y.1.qual), (vS y.1.name), (.tre 10000008), (.tre 10000009)])) r ∧ bxHas ((fun (y : GExpr × GL1Cur) => [(10000008, [(.trc 10 (y.1.kids.map cGExpr))]), (10000009, [(.trc 6 (y.1.sub.map cGQuery))]), (1000000, bGL1Cur y.2)]) r) b
def stsL7Col_X_J0 (y1 : (List UInt8) × GL1Cur) (b3_6 : (List UInt8)) (b1000000_0 : (List Int)) (b1000000_1 : Int) (b1000000_2 : Int) : St := ⟨[(0, (.ptr 1000000 0)), (2, (.ptr 2 0)), (3, (.ptr 3 0))], [(2, [(vI 0), (vI 0), (vB false), (vI 0), (vI 0), (vS []), (vS []), (vS []), (.nil 10), (.nil 6)]), (3, [(vI 2), (vI 0), (vB false), (vI 0), (vI 0), (vS []), (vS b3_6), (vS y1.1), (.nil 10), (.nil 6)]), (1000000, bGL1Cur (GL1Cur.mk b1000000_0 b1000000_1 b1000000_2))]⟩
def stsL7Col_X_J1 (b3_6 : (List UInt8)) (b3_7 : (List UInt8)) (b1000000_0_6 : (List Int)) (b1000000_1_7 : Int) (b1000000_2_8 : Int) : St := ⟨[(2, (.ptr 2 0)), (3, (.ptr 3 0))], [(2, [(vI 0), (vI 0), (vB false), (vI 0), (vI 0), (vS []), (vS []), (vS []), (.nil 10), (.nil 6)]), (3, [(vI 2), (vI 0), (vB false), (vI 0), (vI 0), (vS []), (vS b3_6), (vS b3_7), (.nil 10), (.nil 6)]), (1000000, bGL1Cur (GL1Cur.mk b1000000_0_6 b1000000_1_7 b1000000_2_8))]⟩
def acsL2Name : AC := (.seq (.ops [.asg 2 (.c (.d (.s (bs []))))]) (.seq (.seq (.ops [.mv 3 0, .call (some 4) 83 [3, (kI 6)]]) (.cond 4 (.seq (.ops [.mv 5 0, .bsl 6 9 1 [(.c (.d (.s (bs [97, 32, 98])))), (.c (.d (.s (bs [102, 114, 111, 109])))), (.c (.d (.s (bs [83, 101, 108, 101, 99, 116])))), (.c (.d (.s (bs [49, 120])))), (.c (.d (.s (bs [113, 34, 113])))), (.c (.d (.s (bs [0])))), (.c (.d (.s (bs [34])))), (.c (.d (.s (bs [105, 116, 39, 115])))), (.c (.d (.s (bs [120, 46, 121])))), (.c (.d (.s (bs [45]))))], .call (some 7) 151 [5, 6], .asg 2 7]) .ret) .skip)) (.seq (.ops [.mv 8 0, .bsl 9 9 1 [(.c (.d (.s (bs [97])))), (.c (.d (.s (bs [98])))), (.c (.d (.s (bs [99])))), (.c (.d (.s (bs [116])))), (.c (.d (.s (bs [117])))), (.c (.d (.s (bs [118])))), (.c (.d (.s (bs [105, 100])))), (.c (.d (.s (bs [110, 97, 109, 101])))), (.c (.d (.s (bs [65])))), (.c (.d (.s (bs [95, 120, 49]))))], .call (some 10) 151 [8, 9], .asg 2 10]) .ret)))
theorem trsL2Name : trFn Try.prog 150 = some (acsL2Name, [.mv 0 2], 11) := by kernel_rfl
def qsL2Name (r : (List UInt8) × GL1Cur) : Exit → St → Prop := retQ [.mv 0 2] fun x b => x = (fun (y : (List UInt8) × GL1Cur) => (vS y.1)) r ∧ bxHas ((fun (y : (List UInt8) × GL1Cur) => [(1000000, bGL1Cur y.2)]) r) b
def acsL1Once : AC := (.seq (.ops [.asg 4 (kB false)]) (.seq (.ops [.mv 5 0, .mv 6 1, .call (some 7) 86 [5, 6], .bin 8 .eql 7 (kI 0), .asg 4 8]) .ret))
theorem trsL1Once : trFn Try.prog 83 = some (acsL1Once, [.mv 0 4], 9) := by kernel_rfl
def qsL1Once (r : Bool × GL1Cur) : Exit → St → Prop := retQ [.mv 0 4] fun x b => x = (fun (y : Bool × GL1Cur) => (vB y.1)) r ∧ bxHas ((fun (y : Bool × GL1Cur) => [(1000000, bGL1Cur y.2)]) r) b
def acsL1Pick : AC := (.seq (.ops [.asg 4 (.c (.d (.s (bs []))))]) (.seq (.ops [.mv 5 1, .mv 6 0, .mv 7 1, .len 8 7, .call (some 9) 86 [6, 8], .ia 10 1 5 9, .ld 11 1 false 10, .asg 4 11]) .ret))
theorem trsL1Pick : trFn Try.prog 151 = some (acsL1Pick, [.mv 0 4], 12) := by kernel_rfl
def qsL1Pick (r : (List UInt8) × GL1Cur) : Exit → St → Prop := retQ [.mv 0 4] fun x b => x = (fun (y : (List UInt8) × GL1Cur) => (vS y.1)) r ∧ bxHas ((fun (y : (List UInt8) × GL1Cur) => [(1000000, bGL1Cur y.2)]) r) b
def acsL7Bent_X_J0 : AC := (.seq (.ops [.ld 81 10 true 3, .st 10 4 81]) .ret)
def acsL7Bent_X : AC := (.seq (.ops [.box 3 29 1, .alc 4 [(.d (.i .i64 0)), (.d (.i .i64 0)), (.d (.b false)), (.d (.i .i64 0)), (.d (.i .i64 0)), (.d (.s (bs []))), (.d (.s (bs []))), (.d (.s (bs []))), (.nil 10), (.nil 6)]]) (.seq (.seq (.ops [.fa 6 8 3, .ld 7 1 false 6, .len 8 7, .bin 9 .gtr 8 (kI 0), .mv 10 9, .g 10 true (.mv 11 0), .g 10 true (.call (some 12) 83 [11, (kI 2)]), .pick 13 10 12 (kB false)]) (.cond 13 (.seq (.ops [.mv 14 0, .fa 15 8 3, .ld 16 1 false 15, .len 17 16, .call (some 18) 86 [14, 17], .asg 5 18]) (.seq (.dops [[], [0], [], [], [], [4], [], [5, 6], [7], [3, 8], [1, 2, 0, 1, 2, 3, 4, 5, 6, 7, 8, 9], [10, 9, 9, 0, 1, 2, 3, 4, 5, 6, 7, 8, 9]] [.fa 19 8 3, .ld 20 1 false 19, .mv 21 5, .mv 22 0, .fa 23 8 3, .ld 24 1 false 23, .mv 25 5, .ia 26 10 24 25, .ld 27 10 true 26, .call (some 28) 88 [22, 27], .ia 29 10 20 21, .st 10 29 28]) (.seq (.ops [.ld 30 10 true 3, .st 10 4 30]) .ret))) .skip)) (.seq (.seq (.ops [.mv 31 0, .call (some 32) 86 [31, (kI 8)]]) (.block 0 (.seq (.ops [.bin 40 .eql 32 (kI 0), .asg 39 40]) (.cond 39 (.ops [.mv 41 0, .call (some 42) 86 [41, (kI 12)], .bin 43 .sub 42 (kI 1), .fa 44 0 3, .st 1 44 43]) (.seq (.ops [.bin 46 .eql 32 (kI 1), .asg 45 46]) (.cond 45 (.ops [.mv 47 0, .bsl 48 3 1 [(kI 0), (kI 1), (kI 14), (kI 15), (kI 16), (kI 17), (kI (-1))], .call (some 49) 148 [47, 48], .fa 50 1 3, .st 1 50 49]) (.seq (.ops [.bin 52 .eql 32 (kI 2), .asg 51 52]) (.cond 51 (.ops [.fa 53 2 3, .ld 54 1 false 53, .not 55 54, .fa 56 2 3, .st 1 56 55]) (.seq (.ops [.bin 58 .eql 32 (kI 3), .asg 57 58]) (.cond 57 (.ops [.mv 59 0, .call (some 60) 149 [59], .fa 61 3 3, .st 3 61 60]) (.seq (.ops [.bin 63 .eql 32 (kI 4), .asg 62 63]) (.cond 62 (.ops [.mv 64 0, .call (some 65) 90 [64], .fa 66 7 3, .st 1 66 65]) (.seq (.ops [.bin 68 .eql 32 (kI 5), .asg 67 68]) (.cond 67 (.ops [.mv 69 0, .call (some 70) 90 [69], .fa 71 6 3, .st 1 71 70]) (.seq (.ops [.bin 73 .eql 32 (kI 6), .asg 72 73]) (.cond 72 (.dops [[], [0], [], [2], [3], [1, 4, 3], [0, 1, 2, 3, 4, 5], [6, 5, 5, 0, 1, 2, 3, 4, 5]] [.fa 74 8 3, .ld 75 1 false 74, .mv 76 0, .call (some 77) 143 [76], .bsl 78 29 10 [77], .app 79 29 10 136 75 78, .fa 80 8 3, .st 1 80 79]) (.ops [.fa 33 9 3, .ld 34 1 false 33, .bld 35 [(.d (.b false)), (.nil 13), (.nil 3), (.nil 10), (.nil 11), (.d (.i .i64 0))] [], .bsl 36 38 6 [35], .app 37 38 6 112 34 36, .fa 38 9 3, .st 1 38 37]))))))))))))))))) acsL7Bent_X_J0)))
theorem trsL7Bent_X : trFn Try.prog 88 = some (acsL7Bent_X, [.ld 0 10 true 4], 82) := by kernel_rfl
def qsL7Bent_X (r : GExpr × GL1Cur) : Exit → St → Prop := retQ [.ld 0 10 true 4] fun x b => x = (fun (y : GExpr × GL1Cur) => (.agv [(vI y.1.kind), (vI y.1.op), (vB y.1.not_), (vI y.1.value.kind), (vI y.1.value.num), (vS y.1.value.text), (vS y.1.qual), (vS y.1.name), (.tre 10000008), (.tre 10000009)])) r ∧ bxHas ((fun (y : GExpr × GL1Cur) => [(10000008, [(.trc 10 (y.1.kids.map cGExpr))]), (10000009, [(.trc 6 (y.1.sub.map cGQuery))]), (1000000, bGL1Cur y.2), (3001008, [.trd]), (3001009, [.trd])]) r) b
def stsL7Bent_X_J0 (b3_0 : Int) (b3_1 : Int) (b3_2 : Bool) (b3_3 : Int) (b3_4 : Int) (b3_5 : (List UInt8)) (b3_6 : (List UInt8)) (b3_7 : (List UInt8)) (b1000000_0 : (List Int)) (b1000000_1 : Int) (b1000000_2 : Int) (b60135000_0 : (List GExpr)) (b60135001_0 : (List GQuery)) : St := ⟨[(3, (.ptr 3 0)), (4, (.ptr 4 0))], [(3, [(vI b3_0), (vI b3_1), (vB b3_2), (vI b3_3), (vI b3_4), (vS b3_5), (vS b3_6), (vS b3_7), (.tre 60135000), (.tre 60135001)]), (4, [(vI 0), (vI 0), (vB false), (vI 0), (vI 0), (vS []), (vS []), (vS []), (.nil 10), (.nil 6)]), (1000000, bGL1Cur (GL1Cur.mk b1000000_0 b1000000_1 b1000000_2)), (60135000, [(.trc 10 (b60135000_0.map cGExpr))]), (60135001, [(.trc 6 (b60135001_0.map cGQuery))])]⟩
def acsL1PickInt : AC := (.seq (.ops [.asg 4 (kI 0)]) (.seq (.ops [.mv 5 1, .mv 6 0, .mv 7 1, .len 8 7, .call (some 9) 86 [6, 8], .ia 10 1 5 9, .ld 11 1 false 10, .asg 4 11]) .ret))
theorem trsL1PickInt : trFn Try.prog 148 = some (acsL1PickInt, [.mv 0 4], 12) := by kernel_rfl
def qsL1PickInt (r : Int × GL1Cur) : Exit → St → Prop := retQ [.mv 0 4] fun x b => x = (fun (y : Int × GL1Cur) => (vI y.1)) r ∧ bxHas ((fun (y : Int × GL1Cur) => [(1000000, bGL1Cur y.2)]) r) b
def acsL2Any : AC := (.seq (.ops [.asg 2 (.c (.d (.s (bs []))))]) (.seq (.seq (.ops [.mv 3 0, .call (some 4) 86 [3, (kI 6)]]) (.block 0 (.seq (.ops [.bin 6 .eql 4 (kI 0), .asg 5 6]) (.cond 5 (.seq (.ops [.mv 7 0, .bsl 8 9 1 [(.c (.d (.s (bs [])))), (.c (.d (.s (bs [97, 98, 99, 100, 101, 102, 103, 104, 105, 106, 107, 108, 109, 110, 111, 112, 113, 114, 115, 116])))), (.c (.d (.s (bs [97, 98, 99, 100, 101, 102, 103, 104, 105, 106, 107, 108, 109, 110, 111, 112, 113, 114, 115, 116, 117])))), (.c (.d (.s (bs [108, 105, 109, 105, 116])))), (.c (.d (.s (bs [76, 73, 77, 73, 84, 83])))), (.c (.d (.s (bs [65, 83, 99])))), (.c (.d (.s (bs [57])))), (.c (.d (.s (bs [97, 57])))), (.c (.d (.s (bs [195, 169]))))], .call (some 9) 151 [7, 8], .asg 2 9]) .ret) (.seq (.ops [.bin 11 .eql 4 (kI 1), .asg 10 11]) (.cond 10 (.seq (.ops [.call (some 12) 152 [], .mv 13 0, .call (some 14) 86 [13, (kI 29)], .ia 15 1 12 14, .ld 16 1 false 15, .asg 2 16]) .ret) (.seq (.ops [.bin 18 .eql 4 (kI 2), .asg 17 18]) (.cond 17 (.seq (.ops [.mv 19 0, .mv 20 0, .call (some 21) 86 [20, (kI 5)], .call (some 22) 153 [19, 21], .cbs 23 22, .asg 2 23]) .ret) .skip)))))))) (.seq (.ops [.mv 24 0, .call (some 25) 150 [24], .asg 2 25]) .ret)))
theorem trsL2Any : trFn Try.prog 90 = some (acsL2Any, [.mv 0 2], 26) := by kernel_rfl
def qsL2Any (r : (List UInt8) × GL1Cur) : Exit → St → Prop := retQ [.mv 0 2] fun x b => x = (fun (y : (List UInt8) × GL1Cur) => (vS y.1)) r ∧ bxHas ((fun (y : (List UInt8) × GL1Cur) => [(1000000, bGL1Cur y.2)]) r) b
def acsL2Words : AC := (.seq (.ops [.asg 0 (.c (.nil 1))]) (.seq (.ops [.bsl 1 9 1 [(.c (.d (.s (bs [])))), (.c (.d (.s (bs [83, 69, 76, 69, 67, 84])))), (.c (.d (.s (bs [68, 73, 83, 84, 73, 78, 67, 84])))), (.c (.d (.s (bs [70, 82, 79, 77])))), (.c (.d (.s (bs [74, 79, 73, 78])))), (.c (.d (.s (bs [79, 78])))), (.c (.d (.s (bs [87, 72, 69, 82, 69])))), (.c (.d (.s (bs [79, 82, 68, 69, 82])))), (.c (.d (.s (bs [66, 89])))), (.c (.d (.s (bs [65, 83, 67])))), (.c (.d (.s (bs [68, 69, 83, 67])))), (.c (.d (.s (bs [76, 73, 77, 73, 84])))), (.c (.d (.s (bs [65, 83])))), (.c (.d (.s (bs [65, 78, 68])))), (.c (.d (.s (bs [79, 82])))), (.c (.d (.s (bs [78, 79, 84])))), (.c (.d (.s (bs [73, 83])))), (.c (.d (.s (bs [73, 78])))), (.c (.d (.s (bs [66, 69, 84, 87, 69, 69, 78])))), (.c (.d (.s (bs [69, 88, 73, 83, 84, 83])))), (.c (.d (.s (bs [78, 85, 76, 76])))), (.c (.d (.s (bs [84, 82, 85, 69])))), (.c (.d (.s (bs [70, 65, 76, 83, 69])))), (.c (.d (.s (bs [73, 78, 83, 69, 82, 84])))), (.c (.d (.s (bs [73, 78, 84, 79])))), (.c (.d (.s (bs [86, 65, 76, 85, 69, 83])))), (.c (.d (.s (bs [85, 80, 68, 65, 84, 69])))), (.c (.d (.s (bs [83, 69, 84])))), (.c (.d (.s (bs [68, 69, 76, 69, 84, 69]))))], .asg 0 1]) .ret))
theorem trsL2Words : trFn Try.prog 152 = some (acsL2Words, [.mv 0 0], 2) := by kernel_rfl
def qsL2Words (r : (List (List UInt8))) : Exit → St → Prop := retQ [.mv 0 0] fun x b => x = (fun (y : (List (List UInt8))) => (.osl 2000000 9 1 (y.map cStr))) r ∧ bxHas ((fun (y : (List (List UInt8))) => []) r) b
def acsL1Bytes_L0 : AC := (.loop (.seq (.seq (.ops [.mv 8 6, .mv 9 1, .bin 10 .lss 8 9]) (.cond 10 .skip (.exit 0))) (.seq (.block 1 (.ops [.mv 13 5, .mv 14 0, .call (some 15) 147 [14], .cvi 16 .u8 15, .bsl 17 5 1 [16], .app 18 5 1 1 13 17, .asg 5 18])) (.ops [.mv 11 6, .bin 12 .add 11 (kI 1), .asg 6 12]))))
def acsL1Bytes : AC := (.seq (.ops [.asg 4 (.c (.nil 1))]) (.seq (.ops [.bsl 7 5 1 [], .asg 5 7]) (.seq (.seq (.ops [.asg 6 (kI 0)]) (.block 0 acsL1Bytes_L0)) (.seq (.ops [.mv 19 5, .asg 4 19]) .ret))))
theorem trsL1Bytes : trFn Try.prog 153 = some (acsL1Bytes, [.mv 0 4], 20) := by kernel_rfl
def qsL1Bytes (r : (List Int) × GL1Cur) : Exit → St → Prop := retQ [.mv 0 4] fun x b => x = (fun (y : (List Int) × GL1Cur) => (.osl 2000000 5 1 (y.1.map cU8))) r ∧ bxHas ((fun (y : (List Int) × GL1Cur) => [(1000000, bGL1Cur y.2)]) r) b
def qsL1Bytes_0 (r : (List Int) × GL1Cur) : Exit → St → Prop := (thenK (wkK (avc Try.prog (.seq (.ops [.mv 19 5, .asg 4 19]) .ret) (qsL1Bytes r))) (qsL1Bytes r))
def qsL1Bytes_1 (r : (List Int) × GL1Cur) : Exit → St → Prop := (blockK 0 (qsL1Bytes_0 r))
def stsL1Bytes_L0 (p1 : Int) (x5 : (List Int)) (x6 : Int) (b1000000_0 : (List Int)) (b1000000_1 : Int) (b1000000_2 : Int) : St := ⟨[(0, (.ptr 1000000 0)), (1, (vI p1)), (5, (.osl 5 5 1 (x5.map cU8))), (6, (vI x6))], [(1000000, bGL1Cur (GL1Cur.mk b1000000_0 b1000000_1 b1000000_2))]⟩
def acsL5Bent_J0 : AC := (.seq (.ops [.ld 40 3 true 3, .st 3 2 40]) .ret)
def acsL5Bent_L1 : AC := (.loop (.seq (.seq (.ops [.mv 25 0, .call (some 26) 83 [25, (kI 2)], .mv 27 26, .g 27 true (.fa 28 2 3), .g 27 true (.ld 29 1 false 28), .g 27 true (.lns 30 29), .g 27 true (.bin 31 .lss 30 (kI 400)), .pick 32 27 31 (kB false)]) (.cond 32 .skip (.exit 1))) (.block 2 (.ops [.fa 33 2 3, .ld 34 1 false 33, .fa 35 2 3, .ld 36 1 false 35, .bin 37 .add 34 36, .bin 38 .add 37 (.c (.d (.s (bs [48, 49, 50, 51, 52, 53, 54, 55, 56, 57])))), .fa 39 2 3, .st 1 39 38]))))
def acsL5Bent : AC := (.seq (.ops [.alc 2 [(.d (.i .i64 0)), (.d (.i .i64 0)), (.d (.s (bs [])))]]) (.seq (.ops [.mv 4 0, .call (some 5) 191 [4], .alc 3 [(.d (.i .i64 0)), (.d (.i .i64 0)), (.d (.s (bs [])))], .st 3 3 5]) (.seq (.seq (.ops [.mv 6 0, .call (some 7) 86 [6, (kI 14)]]) (.block 0 (.seq (.ops [.bin 9 .eql 7 (kI 0), .asg 8 9]) (.cond 8 (.ops [.mv 10 0, .call (some 11) 86 [10, (kI 6)], .bin 12 .sub 11 (kI 1), .fa 13 0 3, .st 1 13 12]) (.seq (.ops [.bin 15 .eql 7 (kI 1), .asg 14 15]) (.cond 14 (.ops [.mv 16 0, .call (some 17) 192 [16], .fa 18 1 3, .st 1 18 17]) (.seq (.ops [.bin 20 .eql 7 (kI 2), .asg 19 20]) (.cond 19 (.seq (.ops [.mv 21 0, .bsl 22 9 1 [(.c (.d (.s (bs [120])))), (.c (.d (.s (bs [])))), (.c (.d (.s (bs [108, 111, 110, 103]))))], .call (some 23) 151 [21, 22], .fa 24 2 3, .st 1 24 23]) (.block 1 acsL5Bent_L1)) .skip)))))))) acsL5Bent_J0)))
theorem trsL5Bent : trFn Try.prog 149 = some (acsL5Bent, [.ld 0 3 true 2], 41) := by kernel_rfl
def qsL5Bent (r : GValue × GL1Cur) : Exit → St → Prop := retQ [.ld 0 3 true 2] fun x b => x = (fun (y : GValue × GL1Cur) => (vGValue y.1)) r ∧ bxHas ((fun (y : GValue × GL1Cur) => [(1000000, bGL1Cur y.2)]) r) b
def qsL5Bent_0 (r : GValue × GL1Cur) : Exit → St → Prop := (thenK (wkK (avc Try.prog acsL5Bent_J0 (qsL5Bent r))) (qsL5Bent r))
def qsL5Bent_1 (r : GValue × GL1Cur) : Exit → St → Prop := (blockK 0 (qsL5Bent_0 r))
def qsL5Bent_2 (r : GValue × GL1Cur) : Exit → St → Prop := (blockK 1 (qsL5Bent_1 r))
def stsL5Bent_J0 (b3_0 : Int) (b3_1 : Int) (b3_2 : (List UInt8)) (b1000000_0 : (List Int)) (b1000000_1 : Int) (b1000000_2 : Int) : St := ⟨[(2, (.ptr 2 0)), (3, (.ptr 3 0))], [(2, [(vI 0), (vI 0), (vS [])]), (3, bGValue (GValue.mk b3_0 b3_1 b3_2)), (1000000, bGL1Cur (GL1Cur.mk b1000000_0 b1000000_1 b1000000_2))]⟩
def stsL5Bent_L1 (y1 : GValue × GL1Cur) (b3_2_6 : (List UInt8)) (b1000000_0_7 : (List Int)) (b1000000_1_8 : Int) (b1000000_2_9 : Int) : St := ⟨[(0, (.ptr 1000000 0)), (2, (.ptr 2 0)), (3, (.ptr 3 0))], [(2, [(vI 0), (vI 0), (vS [])]), (3, bGValue (GValue.mk y1.1.kind y1.1.num b3_2_6)), (1000000, bGL1Cur (GL1Cur.mk b1000000_0_7 b1000000_1_8 b1000000_2_9))]⟩
def acsL5Right : AC := (.seq (.ops [.alc 2 [(.d (.i .i64 0)), (.d (.i .i64 0)), (.d (.s (bs [])))]]) (.seq (.seq (.ops [.mv 3 0, .call (some 4) 86 [3, (kI 6)]]) (.block 0 (.seq (.ops [.bin 6 .eql 4 (kI 0), .asg 5 6]) (.cond 5 (.seq (.ops [.bld 7 [(.d (.i .i64 0)), (.d (.i .i64 0)), (.d (.s (bs [])))] [], .st 3 2 7]) .ret) (.seq (.ops [.bin 9 .eql 4 (kI 1), .asg 8 9]) (.cond 8 (.seq (.ops [.mv 10 0, .bsl 11 9 1 [(.c (.d (.s (bs [])))), (.c (.d (.s (bs [97])))), (.c (.d (.s (bs [98])))), (.c (.d (.s (bs [105, 116, 39, 115])))), (.c (.d (.s (bs [97, 98])))), (.c (.d (.s (bs [255]))))], .call (some 12) 151 [10, 11], .call (some 13) 202 [12], .st 3 2 13]) .ret) (.seq (.ops [.bin 15 .eql 4 (kI 2), .asg 14 15]) (.cond 14 (.seq (.ops [.mv 16 0, .call (some 17) 83 [16, (kI 2)], .call (some 18) 203 [17], .st 3 2 18]) .ret) (.seq (.ops [.bin 20 .eql 4 (kI 3), .asg 19 20]) (.cond 19 (.seq (.ops [.mv 21 0, .call (some 22) 192 [21], .call (some 23) 204 [22], .st 3 2 23]) .ret) .skip)))))))))) (.seq (.ops [.mv 24 0, .call (some 25) 86 [24, (kI 7)], .bin 26 .sub 25 (kI 2), .call (some 27) 204 [26], .st 3 2 27]) .ret)))
theorem trsL5Right : trFn Try.prog 191 = some (acsL5Right, [.ld 0 3 true 2], 28) := by kernel_rfl
def qsL5Right (r : GValue × GL1Cur) : Exit → St → Prop := retQ [.ld 0 3 true 2] fun x b => x = (fun (y : GValue × GL1Cur) => (vGValue y.1)) r ∧ bxHas ((fun (y : GValue × GL1Cur) => [(1000000, bGL1Cur y.2)]) r) b
def acsTextValue : AC := (.seq (.ops [.alc 2 [(.d (.i .i64 0)), (.d (.i .i64 0)), (.d (.s (bs [])))]]) (.seq (.ops [.mv 3 0, .bld 4 [(.d (.i .i64 0)), (.d (.i .i64 0)), (.d (.s (bs [])))] [(0, 1, (kI 2)), (2, 1, 3)], .st 3 2 4]) .ret))
theorem trsTextValue : trFn Try.prog 202 = some (acsTextValue, [.ld 0 3 true 2], 5) := by kernel_rfl
def qsTextValue (r : GValue) : Exit → St → Prop := retQ [.ld 0 3 true 2] fun x _ => x = (fun y => (vGValue y)) r
def acsIntValue : AC := (.seq (.ops [.alc 2 [(.d (.i .i64 0)), (.d (.i .i64 0)), (.d (.s (bs [])))]]) (.seq (.ops [.mv 3 0, .bld 4 [(.d (.i .i64 0)), (.d (.i .i64 0)), (.d (.s (bs [])))] [(0, 1, (kI 1)), (1, 1, 3)], .st 3 2 4]) .ret))
theorem trsIntValue : trFn Try.prog 204 = some (acsIntValue, [.ld 0 3 true 2], 5) := by kernel_rfl
def qsIntValue (r : GValue) : Exit → St → Prop := retQ [.ld 0 3 true 2] fun x _ => x = (fun y => (vGValue y)) r
def acsL1Whole : AC := (.seq (.ops [.asg 2 (kI 0)]) (.seq (.seq (.ops [.mv 3 0, .call (some 4) 86 [3, (kI 3)]]) (.block 0 (.seq (.ops [.bin 6 .eql 4 (kI 0), .asg 5 6]) (.cond 5 (.seq (.ops [.mv 7 0, .bsl 8 3 1 [(kI 0), (kI 1), (kI (-1)), (kI 63), (kI 64), (kI (-64)), (kI (-65)), (kI 127), (kI 128), (kI 16383), (kI 16384), (kI 9223372036854775807), (kI (-9223372036854775808)), (kI 4611686018427387904)], .call (some 9) 148 [7, 8], .asg 2 9]) .ret) (.seq (.ops [.bin 11 .eql 4 (kI 1), .asg 10 11]) (.cond 10 (.seq (.ops [.mv 12 0, .call (some 13) 86 [12, (kI 1000000)], .bin 14 .sub 13 (kI 500000), .asg 2 14]) .ret) .skip)))))) (.seq (.ops [.mv 15 0, .call (some 16) 86 [15, (kI 20)], .asg 2 16]) .ret)))
theorem trsL1Whole : trFn Try.prog 192 = some (acsL1Whole, [.mv 0 2], 17) := by kernel_rfl
def qsL1Whole (r : Int × GL1Cur) : Exit → St → Prop := retQ [.mv 0 2] fun x b => x = (fun (y : Int × GL1Cur) => (vI y.1)) r ∧ bxHas ((fun (y : Int × GL1Cur) => [(1000000, bGL1Cur y.2)]) r) b
def acsBoolValue : AC := (.seq (.ops [.alc 2 [(.d (.i .i64 0)), (.d (.i .i64 0)), (.d (.s (bs [])))]]) (.seq (.seq (.ops [.mv 3 0]) (.cond 3 (.seq (.ops [.bld 4 [(.d (.i .i64 0)), (.d (.i .i64 0)), (.d (.s (bs [])))] [(0, 1, (kI 3)), (1, 1, (kI 1))], .st 3 2 4]) .ret) .skip)) (.seq (.ops [.bld 5 [(.d (.i .i64 0)), (.d (.i .i64 0)), (.d (.s (bs [])))] [(0, 1, (kI 3))], .st 3 2 5]) .ret)))
theorem trsBoolValue : trFn Try.prog 203 = some (acsBoolValue, [.ld 0 3 true 2], 6) := by kernel_rfl
def qsBoolValue (r : GValue) : Exit → St → Prop := retQ [.ld 0 3 true 2] fun x _ => x = (fun y => (vGValue y)) r
def acsL1Size : AC := (.seq (.ops [.asg 4 (kI 0)]) (.seq (.ops [.mv 6 0, .len 7 6, .bin 8 .quo 7 (kI 20), .bin 9 .add (kI 2) 8, .asg 5 9]) (.seq (.seq (.ops [.mv 10 5, .mv 11 1, .bin 12 .gtr 10 11]) (.cond 12 (.seq (.ops [.mv 13 1, .asg 4 13]) .ret) .skip)) (.seq (.ops [.mv 14 5, .asg 4 14]) .ret))))
theorem trsL1Size : trFn Try.prog 87 = some (acsL1Size, [.mv 0 4], 15) := by kernel_rfl
def qsL1Size (r : Int) : Exit → St → Prop := retQ [.mv 0 4] fun x _ => x = (fun y => (vI y)) r
def acsL7Expr_X_J0 : AC := (.seq (.ops [.mv 84 0, .call (some 85) 86 [84, (kI 14)], .bin 86 .add (kI 1) 85, .mv 87 0, .mv 88 1, .call (some 89) 145 [87, 88, (kI 2)], .bld 90 [(.d (.i .i64 0)), (.d (.i .i64 0)), (.d (.b false)), (.d (.i .i64 0)), (.d (.i .i64 0)), (.d (.s (bs []))), (.d (.s (bs []))), (.d (.s (bs []))), (.nil 10), (.nil 6)] [(0, 1, (kI 4)), (1, 1, 86), (8, 1, 89)], .st 10 4 90]) .ret)
def acsL7Expr_X : AC := (.seq (.ops [.alc 4 [(.d (.i .i64 0)), (.d (.i .i64 0)), (.d (.b false)), (.d (.i .i64 0)), (.d (.i .i64 0)), (.d (.s (bs []))), (.d (.s (bs []))), (.d (.s (bs []))), (.nil 10), (.nil 6)]]) (.seq (.seq (.ops [.mv 5 1, .bin 6 .leq 5 (kI 0), .mv 7 6, .g 7 false (.mv 8 0), .g 7 false (.call (some 9) 83 [8, (kI 5)]), .pick 10 7 (kB true) 9]) (.cond 10 (.seq (.seq (.ops [.mv 11 0, .call (some 12) 83 [11, (kI 2)]]) (.cond 12 (.seq (.ops [.mv 13 0, .call (some 14) 143 [13], .st 10 4 14]) .ret) .skip)) (.seq (.ops [.mv 15 0, .call (some 16) 144 [15], .bld 17 [(.d (.i .i64 0)), (.d (.i .i64 0)), (.d (.b false)), (.d (.i .i64 0)), (.d (.i .i64 0)), (.d (.s (bs []))), (.d (.s (bs []))), (.d (.s (bs []))), (.nil 10), (.nil 6)] [(0, 1, (kI 1)), (3, 3, 16)], .st 10 4 17]) .ret)) .skip)) (.seq (.seq (.ops [.mv 18 0, .call (some 19) 86 [18, (kI 12)]]) (.block 0 (.seq (.ops [.bin 21 .eql 19 (kI 0), .asg 20 21]) (.cond 20 (.seq (.ops [.mv 22 0, .mv 23 1, .call (some 24) 145 [22, 23, (kI 1)], .bld 25 [(.d (.i .i64 0)), (.d (.i .i64 0)), (.d (.b false)), (.d (.i .i64 0)), (.d (.i .i64 0)), (.d (.s (bs []))), (.d (.s (bs []))), (.d (.s (bs []))), (.nil 10), (.nil 6)] [(0, 1, (kI 3)), (1, 1, (kI 15)), (8, 1, 24)], .st 10 4 25]) .ret) (.seq (.ops [.bin 27 .eql 19 (kI 1), .asg 26 27]) (.cond 26 (.seq (.ops [.mv 28 0, .mv 29 1, .call (some 30) 145 [28, 29, (kI 1)], .bld 31 [(.d (.i .i64 0)), (.d (.i .i64 0)), (.d (.b false)), (.d (.i .i64 0)), (.d (.i .i64 0)), (.d (.s (bs []))), (.d (.s (bs []))), (.d (.s (bs []))), (.nil 10), (.nil 6)] [(0, 1, (kI 3)), (1, 1, (kI 16)), (8, 1, 30)], .st 10 4 31]) .ret) (.seq (.ops [.bin 33 .eql 19 (kI 2), .asg 32 33]) (.cond 32 (.seq (.ops [.mv 34 0, .call (some 35) 83 [34, (kI 2)], .mv 36 0, .mv 37 1, .call (some 38) 145 [36, 37, (kI 1)], .bld 39 [(.d (.i .i64 0)), (.d (.i .i64 0)), (.d (.b false)), (.d (.i .i64 0)), (.d (.i .i64 0)), (.d (.s (bs []))), (.d (.s (bs []))), (.d (.s (bs []))), (.nil 10), (.nil 6)] [(0, 1, (kI 5)), (2, 1, 35), (8, 1, 38)], .st 10 4 39]) .ret) (.seq (.ops [.bin 41 .eql 19 (kI 3), .asg 40 41]) (.cond 40 (.seq (.ops [.mv 42 0, .call (some 43) 83 [42, (kI 2)], .mv 44 0, .mv 45 1, .call (some 46) 145 [44, 45, (kI 3)], .bld 47 [(.d (.i .i64 0)), (.d (.i .i64 0)), (.d (.b false)), (.d (.i .i64 0)), (.d (.i .i64 0)), (.d (.s (bs []))), (.d (.s (bs []))), (.d (.s (bs []))), (.nil 10), (.nil 6)] [(0, 1, (kI 6)), (2, 1, 43), (8, 1, 46)], .st 10 4 47]) .ret) (.seq (.ops [.bin 49 .eql 19 (kI 4), .asg 48 49]) (.cond 48 (.seq (.ops [.mv 50 0, .call (some 51) 83 [50, (kI 2)], .mv 52 0, .mv 53 1, .mv 54 0, .call (some 55) 86 [54, (kI 2)], .bin 56 .add (kI 2) 55, .call (some 57) 145 [52, 53, 56], .bld 58 [(.d (.i .i64 0)), (.d (.i .i64 0)), (.d (.b false)), (.d (.i .i64 0)), (.d (.i .i64 0)), (.d (.s (bs []))), (.d (.s (bs []))), (.d (.s (bs []))), (.nil 10), (.nil 6)] [(0, 1, (kI 7)), (2, 1, 51), (8, 1, 57)], .st 10 4 58]) .ret) (.seq (.ops [.bin 60 .eql 19 (kI 5), .asg 59 60]) (.cond 59 (.seq (.ops [.mv 61 1, .bin 62 .gtr 61 (kI 1)]) (.cond 62 (.seq (.ops [.mv 63 0, .call (some 64) 83 [63, (kI 2)], .mv 65 0, .mv 66 1, .call (some 67) 145 [65, 66, (kI 1)], .mv 68 0, .mv 69 1, .bin 70 .sub 69 (kI 2), .call (some 71) 146 [68, 70], .bsl 72 38 6 [71], .bld 73 [(.d (.i .i64 0)), (.d (.i .i64 0)), (.d (.b false)), (.d (.i .i64 0)), (.d (.i .i64 0)), (.d (.s (bs []))), (.d (.s (bs []))), (.d (.s (bs []))), (.nil 10), (.nil 6)] [(0, 1, (kI 8)), (2, 1, 64), (8, 1, 67), (9, 1, 72)], .st 10 4 73]) .ret) .skip)) (.seq (.ops [.bin 75 .eql 19 (kI 6), .asg 74 75]) (.cond 74 (.seq (.ops [.mv 76 1, .bin 77 .gtr 76 (kI 1)]) (.cond 77 (.seq (.ops [.mv 78 0, .mv 79 1, .bin 80 .sub 79 (kI 2), .call (some 81) 146 [78, 80], .bsl 82 38 6 [81], .bld 83 [(.d (.i .i64 0)), (.d (.i .i64 0)), (.d (.b false)), (.d (.i .i64 0)), (.d (.i .i64 0)), (.d (.s (bs []))), (.d (.s (bs []))), (.d (.s (bs []))), (.nil 10), (.nil 6)] [(0, 1, (kI 9)), (9, 1, 82)], .st 10 4 83]) .ret) .skip)) .skip)))))))))))))))) acsL7Expr_X_J0)))
theorem trsL7Expr_X : trFn Try.prog 85 = some (acsL7Expr_X, [.ld 0 10 true 4], 91) := by kernel_rfl
def qsL7Expr_X (r : GExpr × GL1Cur) : Exit → St → Prop := retQ [.ld 0 10 true 4] fun x b => x = (fun (y : GExpr × GL1Cur) => (.agv [(vI y.1.kind), (vI y.1.op), (vB y.1.not_), (vI y.1.value.kind), (vI y.1.value.num), (vS y.1.value.text), (vS y.1.qual), (vS y.1.name), (.tre 10000008), (.tre 10000009)])) r ∧ bxHas ((fun (y : GExpr × GL1Cur) => [(10000008, [(.trc 10 (y.1.kids.map cGExpr))]), (10000009, [(.trc 6 (y.1.sub.map cGQuery))]), (1000000, bGL1Cur y.2)]) r) b
def stsL7Expr_X_J0 (p1 : Int) (y6 : Int × GL1Cur) : St := ⟨[(0, (.ptr 1000000 0)), (1, (vI p1)), (4, (.ptr 4 0))], [(4, [(vI 0), (vI 0), (vB false), (vI 0), (vI 0), (vS []), (vS []), (vS []), (.nil 10), (.nil 6)]), (1000000, bGL1Cur y6.2)]⟩
def acsL7Kids_X_L0 : AC := (.loop (.seq (.seq (.ops [.mv 10 8, .mv 11 2, .bin 12 .lss 10 11]) (.cond 12 .skip (.exit 0))) (.seq (.block 1 (.ops [.mv 15 7, .mv 16 0, .mv 17 1, .bin 18 .sub 17 (kI 1), .call (some 19) 85 [16, 18], .bsl 20 29 10 [19], .app 21 29 10 136 15 20, .asg 7 21])) (.ops [.mv 13 8, .bin 14 .add 13 (kI 1), .asg 8 14]))))
def acsL7Kids_X : AC := (.seq (.ops [.asg 6 (.c (.nil 10))]) (.seq (.ops [.bsl 9 29 10 [], .asg 7 9]) (.seq (.seq (.ops [.asg 8 (kI 0)]) (.block 0 acsL7Kids_X_L0)) (.seq (.ops [.mv 22 7, .asg 6 22]) .ret))))
theorem trsL7Kids_X : trFn Try.prog 145 = some (acsL7Kids_X, [.mv 0 6], 23) := by kernel_rfl
def qsL7Kids_X (r : (List GExpr) × GL1Cur) : Exit → St → Prop := retQ [.mv 0 6] fun x b => x = (fun (y : (List GExpr) × GL1Cur) => (.tre 10000000)) r ∧ bxHas ((fun (y : (List GExpr) × GL1Cur) => [(10000000, [(.trc 10 (y.1.map cGExpr))]), (1000000, bGL1Cur y.2)]) r) b
def qsL7Kids_X_0 (r : (List GExpr) × GL1Cur) : Exit → St → Prop := (thenK (wkK (avc Try.prog (.seq (.ops [.mv 22 7, .asg 6 22]) .ret) (qsL7Kids_X r))) (qsL7Kids_X r))
def qsL7Kids_X_1 (r : (List GExpr) × GL1Cur) : Exit → St → Prop := (blockK 0 (qsL7Kids_X_0 r))
def stsL7Kids_X_L0 (p1 : Int) (p2 : Int) (x8 : Int) (b1000000_0 : (List Int)) (b1000000_1 : Int) (b1000000_2 : Int) (b60012000_0 : (List GExpr)) : St := ⟨[(0, (.ptr 1000000 0)), (1, (vI p1)), (2, (vI p2)), (7, (.tre 60012000)), (8, (vI x8))], [(1000000, bGL1Cur (GL1Cur.mk b1000000_0 b1000000_1 b1000000_2)), (60012000, [(.trc 10 (b60012000_0.map cGExpr))])]⟩
def acsL7Value_J0 : AC := (.seq (.ops [.ld 15 3 true 3, .st 3 2 15]) .ret)
def acsL7Value : AC := (.seq (.ops [.alc 2 [(.d (.i .i64 0)), (.d (.i .i64 0)), (.d (.s (bs [])))]]) (.seq (.ops [.mv 4 0, .call (some 5) 191 [4], .alc 3 [(.d (.i .i64 0)), (.d (.i .i64 0)), (.d (.s (bs [])))], .st 3 3 5]) (.seq (.seq (.ops [.fa 6 0 3, .ld 7 1 false 6, .bin 8 .eql 7 (kI 1), .mv 9 8, .g 9 true (.fa 10 1 3), .g 9 true (.ld 11 1 false 10), .g 9 true (.bin 12 .lss 11 (kI 0)), .pick 13 9 12 (kB false)]) (.cond 13 (.ops [.fa 14 1 3, .st 1 14 (kI 9223372036854775807)]) .skip)) acsL7Value_J0)))
theorem trsL7Value : trFn Try.prog 144 = some (acsL7Value, [.ld 0 3 true 2], 16) := by kernel_rfl
def qsL7Value (r : GValue × GL1Cur) : Exit → St → Prop := retQ [.ld 0 3 true 2] fun x b => x = (fun (y : GValue × GL1Cur) => (vGValue y.1)) r ∧ bxHas ((fun (y : GValue × GL1Cur) => [(1000000, bGL1Cur y.2)]) r) b
def stsL7Value_J0 (y1 : GValue × GL1Cur) (b3_1 : Int) : St := ⟨[(2, (.ptr 2 0)), (3, (.ptr 3 0))], [(2, [(vI 0), (vI 0), (vS [])]), (3, bGValue (GValue.mk y1.1.kind b3_1 y1.1.text)), (1000000, bGL1Cur y1.2)]⟩
def acsL7Query_X_J1 : AC := (.ops [.mv 20 7, .bin 21 .add 20 (kI 1), .asg 7 21])
def acsL7Query_X_J2 : AC := (.ops [.fa 33 1 5, .ld 34 1 false 33, .ld 35 13 true 8, .bsl 36 111 13 [35], .app 37 111 13 176 34 36, .fa 38 1 5, .st 1 38 37])
def acsL7Query_X_L0 : AC := (.loop (.seq (.seq (.ops [.mv 17 7, .mv 18 6, .bin 19 .lss 17 18]) (.cond 19 .skip (.exit 0))) (.seq (.block 1 (.seq (.ops [.mv 22 0, .call (some 23) 86 [22, (kI 5)]]) (.block 2 (.seq (.ops [.bin 40 .eql 23 (kI 0), .asg 39 40]) (.cond 39 (.ops [.fa 41 1 5, .ld 42 1 false 41, .bld 43 [(.d (.b false)), (.d (.s (bs []))), (.d (.i .i64 0)), (.d (.i .i64 0)), (.d (.b false)), (.d (.i .i64 0)), (.d (.i .i64 0)), (.d (.s (bs []))), (.d (.s (bs []))), (.d (.s (bs []))), (.nil 10), (.nil 6), (.d (.s (bs [])))] [(0, 1, (kB true))], .bsl 44 111 13 [43], .app 45 111 13 176 42 44, .fa 46 1 5, .st 1 46 45]) (.seq (.ops [.bin 48 .eql 23 (kI 1), .asg 47 48]) (.cond 47 (.dops [[], [0], [], [], [2, 3], [4], [5], [1, 6, 4], [0, 1, 2, 3, 4, 5, 6, 7], [8, 7, 7, 0, 1, 2, 3, 4, 5, 6, 7]] [.fa 49 1 5, .ld 50 1 false 49, .mv 51 0, .bsl 52 9 1 [(.c (.d (.s (bs [116])))), (.c (.d (.s (bs [117]))))], .call (some 53) 151 [51, 52], .bld 54 [(.d (.b false)), (.d (.s (bs []))), (.d (.i .i64 0)), (.d (.i .i64 0)), (.d (.b false)), (.d (.i .i64 0)), (.d (.i .i64 0)), (.d (.s (bs []))), (.d (.s (bs []))), (.d (.s (bs []))), (.nil 10), (.nil 6), (.d (.s (bs [])))] [(0, 1, (kB true)), (1, 1, 53)], .bsl 55 111 13 [54], .app 56 111 13 176 50 55, .fa 57 1 5, .st 1 57 56]) (.seq (.ops [.mv 24 0, .mv 25 1, .call (some 26) 85 [24, 25], .bld 27 [(.d (.b false)), (.d (.s (bs []))), (.d (.i .i64 0)), (.d (.i .i64 0)), (.d (.b false)), (.d (.i .i64 0)), (.d (.i .i64 0)), (.d (.s (bs []))), (.d (.s (bs []))), (.d (.s (bs []))), (.nil 10), (.nil 6), (.d (.s (bs [])))] [(2, 10, 26)], .alc 8 [(.d (.b false)), (.d (.s (bs []))), (.d (.i .i64 0)), (.d (.i .i64 0)), (.d (.b false)), (.d (.i .i64 0)), (.d (.i .i64 0)), (.d (.s (bs []))), (.d (.s (bs []))), (.d (.s (bs []))), (.nil 10), (.nil 6), (.d (.s (bs [])))], .st 13 8 27]) (.seq (.seq (.ops [.mv 28 0, .call (some 29) 83 [28, (kI 2)]]) (.cond 29 (.ops [.mv 30 0, .call (some 31) 150 [30], .fa 32 12 8, .st 1 32 31]) .skip)) acsL7Query_X_J2))))))))) acsL7Query_X_J1)))
def acsL7Query_X_J6 : AC := (.ops [.fa 86 2 5, .ld 87 1 false 86, .ld 88 3 true 10, .bsl 89 113 3 [88], .app 90 113 3 56 87 89, .fa 91 2 5, .st 1 91 90])
def acsL7Query_X_J4 : AC := (.seq (.seq (.ops [.mv 75 9, .bin 76 .gtr 75 (kI 0), .mv 77 76, .g 77 true (.mv 78 0), .g 77 true (.call (some 79) 83 [78, (kI 2)]), .pick 80 77 79 (kB false)]) (.cond 80 (.ops [.mv 81 0, .mv 82 1, .call (some 83) 85 [81, 82], .bsl 84 29 10 [83], .fa 85 2 10, .st 1 85 84]) .skip)) acsL7Query_X_J6)
def acsL7Query_X_L3 : AC := (.loop (.seq (.seq (.ops [.mv 61 9, .mv 62 6, .bin 63 .lss 61 62]) (.cond 63 .skip (.exit 3))) (.seq (.block 4 (.seq (.ops [.mv 66 0, .bsl 67 9 1 [(.c (.d (.s (bs [116])))), (.c (.d (.s (bs [117])))), (.c (.d (.s (bs [118]))))], .call (some 68) 151 [66, 67], .bld 69 [(.d (.s (bs []))), (.d (.s (bs []))), (.nil 10)] [(0, 1, 68)], .alc 10 [(.d (.s (bs []))), (.d (.s (bs []))), (.nil 10)], .st 3 10 69]) (.seq (.seq (.ops [.mv 70 0, .call (some 71) 83 [70, (kI 3)]]) (.cond 71 (.ops [.mv 72 0, .call (some 73) 150 [72], .fa 74 1 10, .st 1 74 73]) .skip)) acsL7Query_X_J4))) (.ops [.mv 64 9, .bin 65 .add 64 (kI 1), .asg 9 65]))))
def acsL7Query_X_J8 : AC := (.seq (.ops [.ld 118 6 true 5, .st 6 4 118]) .ret)
def acsL7Query_X_J7 : AC := (.seq (.seq (.ops [.mv 112 0, .call (some 113) 83 [112, (kI 4)]]) (.cond 113 (.ops [.mv 114 0, .bsl 115 3 1 [(kI 0), (kI 1), (kI 2), (kI 9223372036854775807)], .call (some 116) 148 [114, 115], .fa 117 5 5, .st 1 117 116]) .skip)) acsL7Query_X_J8)
def acsL7Query_X_J5 : AC := (.seq (.seq (.ops [.mv 99 0, .call (some 100) 83 [99, (kI 3)]]) (.cond 100 (.dops [[], [0], [], [], [2, 3], [], [5, 4], [4, 6], [7], [1, 8, 6], [0, 1, 2, 3, 4, 5, 6, 7, 8, 9], [10, 9, 9, 0, 1, 2, 3, 4, 5, 6, 7, 8, 9]] [.fa 101 4 5, .ld 102 1 false 101, .mv 103 0, .mv 104 1, .call (some 105) 85 [103, 104], .mv 106 0, .call (some 107) 83 [106, (kI 2)], .bld 108 [(.d (.i .i64 0)), (.d (.i .i64 0)), (.d (.b false)), (.d (.i .i64 0)), (.d (.i .i64 0)), (.d (.s (bs []))), (.d (.s (bs []))), (.d (.s (bs []))), (.nil 10), (.nil 6), (.d (.b false))] [(0, 10, 105), (10, 1, 107)], .bsl 109 115 11 [108], .app 110 115 11 144 102 109, .fa 111 4 5, .st 1 111 110]) .skip)) acsL7Query_X_J7)
def acsL7Query_X : AC := (.seq (.ops [.alc 4 [(.d (.b false)), (.nil 13), (.nil 3), (.nil 10), (.nil 11), (.d (.i .i64 0))]]) (.seq (.ops [.mv 11 0, .call (some 12) 83 [11, (kI 4)], .bld 13 [(.d (.b false)), (.nil 13), (.nil 3), (.nil 10), (.nil 11), (.d (.i .i64 0))] [(0, 1, 12), (5, 1, (kI (-1)))], .alc 5 [(.d (.b false)), (.nil 13), (.nil 3), (.nil 10), (.nil 11), (.d (.i .i64 0))], .st 6 5 13]) (.seq (.ops [.mv 14 0, .call (some 15) 86 [14, (kI 2)], .bin 16 .add (kI 1) 15, .asg 6 16]) (.seq (.seq (.ops [.asg 7 (kI 0)]) (.block 0 acsL7Query_X_L0)) (.seq (.ops [.mv 58 0, .call (some 59) 86 [58, (kI 2)], .bin 60 .add (kI 1) 59, .asg 6 60]) (.seq (.seq (.ops [.asg 9 (kI 0)]) (.block 3 acsL7Query_X_L3)) (.seq (.seq (.ops [.mv 92 0, .call (some 93) 83 [92, (kI 2)]]) (.cond 93 (.ops [.mv 94 0, .mv 95 1, .call (some 96) 85 [94, 95], .bsl 97 29 10 [96], .fa 98 3 5, .st 1 98 97]) .skip)) acsL7Query_X_J5)))))))
theorem trsL7Query_X : trFn Try.prog 146 = some (acsL7Query_X, [.ld 0 6 true 4], 119) := by kernel_rfl
def qsL7Query_X (r : GQuery × GL1Cur) : Exit → St → Prop := retQ [.ld 0 6 true 4] fun x b => x = (fun (y : GQuery × GL1Cur) => (.agv [(vB y.1.distinct), (.tre 10000001), (.tre 10000002), (.tre 10000003), (.tre 10000004), (vI y.1.limit)])) r ∧ bxHas ((fun (y : GQuery × GL1Cur) => [(10000001, [(.trc 13 (y.1.items.map cGItem))]), (10000002, [(.trc 3 (y.1.from_.map cGSource))]), (10000003, [(.trc 10 (y.1.where_.map cGExpr))]), (10000004, [(.trc 11 (y.1.order.map cGSortKey))]), (1000000, bGL1Cur y.2)]) r) b
def qsL7Query_X_0 (r : GQuery × GL1Cur) : Exit → St → Prop := (thenK (wkK (avc Try.prog (.seq (.ops [.mv 58 0, .call (some 59) 86 [58, (.c (.d (.i .i64 2)))], .bin 60 .add (.c (.d (.i .i64 1))) 59, .asg 6 60]) (.seq (.seq (.ops [.asg 9 (.c (.d (.i .i64 0)))]) (.block 3 acsL7Query_X_L3)) (.seq (.seq (.ops [.mv 92 0, .call (some 93) 83 [92, (.c (.d (.i .i64 2)))]]) (.cond 93 (.ops [.mv 94 0, .mv 95 1, .call (some 96) 85 [94, 95], .bsl 97 29 10 [96], .fa 98 3 5, .st 1 98 97]) .skip)) acsL7Query_X_J5))) (qsL7Query_X r))) (qsL7Query_X r))
def qsL7Query_X_1 (r : GQuery × GL1Cur) : Exit → St → Prop := (blockK 0 (qsL7Query_X_0 r))
def qsL7Query_X_2 (r : GQuery × GL1Cur) : Exit → St → Prop := (thenK (avc Try.prog acsL7Query_X_L0 (qsL7Query_X_1 r)) (qsL7Query_X_1 r))
def qsL7Query_X_3 (r : GQuery × GL1Cur) : Exit → St → Prop := (thenK (wkK (avc Try.prog acsL7Query_X_J1 (qsL7Query_X_2 r))) (qsL7Query_X_2 r))
def qsL7Query_X_4 (r : GQuery × GL1Cur) : Exit → St → Prop := (blockK 1 (qsL7Query_X_3 r))
def qsL7Query_X_5 (r : GQuery × GL1Cur) : Exit → St → Prop := (blockK 2 (qsL7Query_X_4 r))
def qsL7Query_X_6 (r : GQuery × GL1Cur) : Exit → St → Prop := (thenK (wkK (avc Try.prog (.seq (.seq (.ops [.mv 92 0, .call (some 93) 83 [92, (.c (.d (.i .i64 2)))]]) (.cond 93 (.ops [.mv 94 0, .mv 95 1, .call (some 96) 85 [94, 95], .bsl 97 29 10 [96], .fa 98 3 5, .st 1 98 97]) .skip)) acsL7Query_X_J5) (qsL7Query_X r))) (qsL7Query_X r))
def qsL7Query_X_7 (r : GQuery × GL1Cur) : Exit → St → Prop := (blockK 3 (qsL7Query_X_6 r))
def qsL7Query_X_8 (r : GQuery × GL1Cur) : Exit → St → Prop := (thenK (avc Try.prog acsL7Query_X_L3 (qsL7Query_X_7 r)) (qsL7Query_X_7 r))
def qsL7Query_X_9 (r : GQuery × GL1Cur) : Exit → St → Prop := (thenK (wkK (avc Try.prog (.ops [.mv 64 9, .bin 65 .add 64 (.c (.d (.i .i64 1))), .asg 9 65]) (qsL7Query_X_8 r))) (qsL7Query_X_8 r))
def qsL7Query_X_10 (r : GQuery × GL1Cur) : Exit → St → Prop := (blockK 4 (qsL7Query_X_9 r))
def stsL7Query_X_L0 (p1 : Int) (y2 : Int × GL1Cur) (y1 : Bool × GL1Cur) (x7 : Int) (b1000000_0 : (List Int)) (b1000000_1 : Int) (kb1000000_2 : (Int × (List GItem))) : St := ⟨[(0, (.ptr 1000000 0)), (1, (vI p1)), (4, (.ptr 4 0)), (5, (.ptr 5 0)), (6, (vI (IntKind.wrap .i64 (1 + y2.1)))), (7, (vI x7))], [(4, [(vB false), (.nil 13), (.nil 3), (.nil 10), (.nil 11), (vI 0)]), (5, [(vB y1.1), (.tre 60021000), (.nil 3), (.nil 10), (.nil 11), (vI (-1))]), (1000000, bGL1Cur (GL1Cur.mk b1000000_0 b1000000_1 kb1000000_2.1)), (60021000, [(.trc 13 (kb1000000_2.2.map cGItem))])]⟩
def stsL7Query_X_J1 (p1 : Int) (y2 : Int × GL1Cur) (x7 : Int) (y1 : Bool × GL1Cur) (b1000000_0_5 : (List Int)) (b1000000_1_6 : Int) (kb1000000_2_7 : (Int × (List GItem))) : St := ⟨[(0, (.ptr 1000000 0)), (1, (vI p1)), (4, (.ptr 4 0)), (5, (.ptr 5 0)), (6, (vI (IntKind.wrap .i64 (1 + y2.1)))), (7, (vI x7))], [(4, [(vB false), (.nil 13), (.nil 3), (.nil 10), (.nil 11), (vI 0)]), (5, [(vB y1.1), (.tre 60095000), (.nil 3), (.nil 10), (.nil 11), (vI (-1))]), (1000000, bGL1Cur (GL1Cur.mk b1000000_0_5 b1000000_1_6 kb1000000_2_7.1)), (60095000, [(.trc 13 (kb1000000_2_7.2.map cGItem))])]⟩
def stsL7Query_X_J2 (p1 : Int) (y2 : Int × GL1Cur) (x7 : Int) (y1 : Bool × GL1Cur) (y10 : GExpr × GL1Cur) (b60021000_0 : (List GItem)) (kb8_12 : ((List UInt8) × ((List Int) × (Int × Int)))) : St := ⟨[(0, (.ptr 1000000 0)), (1, (vI p1)), (4, (.ptr 4 0)), (5, (.ptr 5 0)), (6, (vI (IntKind.wrap .i64 (1 + y2.1)))), (7, (vI x7)), (8, (.ptr 8 0))], [(4, [(vB false), (.nil 13), (.nil 3), (.nil 10), (.nil 11), (vI 0)]), (5, [(vB y1.1), (.tre 60087000), (.nil 3), (.nil 10), (.nil 11), (vI (-1))]), (8, [(vB false), (vS []), (vI y10.1.kind), (vI y10.1.op), (vB y10.1.not_), (vI y10.1.value.kind), (vI y10.1.value.num), (vS y10.1.value.text), (vS y10.1.qual), (vS y10.1.name), (.tre 60087001), (.tre 60087002), (vS kb8_12.1)]), (1000000, bGL1Cur (GL1Cur.mk kb8_12.2.1 kb8_12.2.2.1 kb8_12.2.2.2)), (60087001, [(.trc 10 (y10.1.kids.map cGExpr))]), (60087002, [(.trc 6 (y10.1.sub.map cGQuery))]), (60087000, [(.trc 13 (b60021000_0.map cGItem))])]⟩
def stsL7Query_X_L3 (p1 : Int) (y16 : Int × GL1Cur) (y1 : Bool × GL1Cur) (b60021000_0 : (List GItem)) (x9 : Int) (b1000000_0_17 : (List Int)) (kb1000000_1_18 : (Int × (Int × (List GSource)))) : St := ⟨[(0, (.ptr 1000000 0)), (1, (vI p1)), (4, (.ptr 4 0)), (5, (.ptr 5 0)), (6, (vI (IntKind.wrap .i64 (1 + y16.1)))), (9, (vI x9))], [(4, [(vB false), (.nil 13), (.nil 3), (.nil 10), (.nil 11), (vI 0)]), (5, [(vB y1.1), (.tre 60110000), (.tre 60110001), (.nil 10), (.nil 11), (vI (-1))]), (1000000, bGL1Cur (GL1Cur.mk b1000000_0_17 kb1000000_1_18.1 kb1000000_1_18.2.1)), (60110001, [(.trc 3 (kb1000000_1_18.2.2.map cGSource))]), (60110000, [(.trc 13 (b60021000_0.map cGItem))])]⟩
def stsL7Query_X_J4 (p1 : Int) (y16 : Int × GL1Cur) (x9 : Int) (y1 : Bool × GL1Cur) (y21 : (List UInt8) × GL1Cur) (b60110001_0 : (List GSource)) (kb60021000_0 : ((List GItem) × ((List UInt8) × ((List Int) × (Int × Int))))) : St := ⟨[(0, (.ptr 1000000 0)), (1, (vI p1)), (4, (.ptr 4 0)), (5, (.ptr 5 0)), (6, (vI (IntKind.wrap .i64 (1 + y16.1)))), (9, (vI x9)), (10, (.ptr 10 0))], [(4, [(vB false), (.nil 13), (.nil 3), (.nil 10), (.nil 11), (vI 0)]), (5, [(vB y1.1), (.tre 60142000), (.tre 60142001), (.nil 10), (.nil 11), (vI (-1))]), (10, [(vS y21.1), (vS kb60021000_0.2.1), (.nil 10)]), (1000000, bGL1Cur (GL1Cur.mk kb60021000_0.2.2.1 kb60021000_0.2.2.2.1 kb60021000_0.2.2.2.2)), (60142001, [(.trc 3 (b60110001_0.map cGSource))]), (60142000, [(.trc 13 (kb60021000_0.1.map cGItem))])]⟩
def stsL7Query_X_J5 (p1 : Int) (y1 : Bool × GL1Cur) (b60021000_0 : (List GItem)) (b1000000_0_29 : (List Int)) (b1000000_1_30 : Int) (b1000000_2_31 : Int) (kb60186002_0 : ((List GExpr) × (List GSource))) : St := ⟨[(0, (.ptr 1000000 0)), (1, (vI p1)), (4, (.ptr 4 0)), (5, (.ptr 5 0))], [(4, [(vB false), (.nil 13), (.nil 3), (.nil 10), (.nil 11), (vI 0)]), (5, [(vB y1.1), (.tre 60186000), (.tre 60186001), (.tre 60186002), (.nil 11), (vI (-1))]), (1000000, bGL1Cur (GL1Cur.mk b1000000_0_29 b1000000_1_30 b1000000_2_31)), (60186002, [(.trc 10 (kb60186002_0.1.map cGExpr))]), (60186001, [(.trc 3 (kb60186002_0.2.map cGSource))]), (60186000, [(.trc 13 (b60021000_0.map cGItem))])]⟩
def stsL7Query_X_J6 (p1 : Int) (y16 : Int × GL1Cur) (x9 : Int) (y1 : Bool × GL1Cur) (y21 : (List UInt8) × GL1Cur) (b10_1 : (List UInt8)) (kb60021000_0q : ((List GItem) × ((List Int) × (Int × (Int × ((List GExpr) × (List GSource))))))) : St := ⟨[(0, (.ptr 1000000 0)), (1, (vI p1)), (4, (.ptr 4 0)), (5, (.ptr 5 0)), (6, (vI (IntKind.wrap .i64 (1 + y16.1)))), (9, (vI x9)), (10, (.ptr 10 0))], [(4, [(vB false), (.nil 13), (.nil 3), (.nil 10), (.nil 11), (vI 0)]), (5, [(vB y1.1), (.tre 60160000), (.tre 60160001), (.nil 10), (.nil 11), (vI (-1))]), (10, [(vS y21.1), (vS b10_1), (.tre 60160002)]), (1000000, bGL1Cur (GL1Cur.mk kb60021000_0q.2.1 kb60021000_0q.2.2.1 kb60021000_0q.2.2.2.1)), (60160002, [(.trc 10 (kb60021000_0q.2.2.2.2.1.map cGExpr))]), (60160001, [(.trc 3 (kb60021000_0q.2.2.2.2.2.map cGSource))]), (60160000, [(.trc 13 (kb60021000_0q.1.map cGItem))])]⟩
def stsL7Query_X_J7 (y1 : Bool × GL1Cur) (b60186001_0 : (List GSource)) (b60021000_0 : (List GItem)) (b1000000_0_42 : (List Int)) (b1000000_1_43 : Int) (b1000000_2_44 : Int) (b60206003_0 : (List GSortKey)) (b60206002_0 : (List GExpr)) : St := ⟨[(0, (.ptr 1000000 0)), (4, (.ptr 4 0)), (5, (.ptr 5 0))], [(4, [(vB false), (.nil 13), (.nil 3), (.nil 10), (.nil 11), (vI 0)]), (5, [(vB y1.1), (.tre 60206000), (.tre 60206001), (.tre 60206002), (.tre 60206003), (vI (-1))]), (1000000, bGL1Cur (GL1Cur.mk b1000000_0_42 b1000000_1_43 b1000000_2_44)), (60206003, [(.trc 11 (b60206003_0.map cGSortKey))]), (60206002, [(.trc 10 (b60206002_0.map cGExpr))]), (60206001, [(.trc 3 (b60186001_0.map cGSource))]), (60206000, [(.trc 13 (b60021000_0.map cGItem))])]⟩
def stsL7Query_X_J8 (y1 : Bool × GL1Cur) (b60206003_0 : (List GSortKey)) (b60206002_0 : (List GExpr)) (b60186001_0 : (List GSource)) (b60021000_0 : (List GItem)) (b5_5 : Int) (b1000000_0_48 : (List Int)) (b1000000_1_49 : Int) (b1000000_2_50 : Int) : St := ⟨[(4, (.ptr 4 0)), (5, (.ptr 5 0))], [(4, [(vB false), (.nil 13), (.nil 3), (.nil 10), (.nil 11), (vI 0)]), (5, [(vB y1.1), (.tre 60219000), (.tre 60219001), (.tre 60219002), (.tre 60219003), (vI b5_5)]), (1000000, bGL1Cur (GL1Cur.mk b1000000_0_48 b1000000_1_49 b1000000_2_50)), (60219003, [(.trc 11 (b60206003_0.map cGSortKey))]), (60219002, [(.trc 10 (b60206002_0.map cGExpr))]), (60219001, [(.trc 3 (b60186001_0.map cGSource))]), (60219000, [(.trc 13 (b60021000_0.map cGItem))])]⟩
theorem koGValue (x : GValue) (h : ∀ d ∈ cGValue x, OkD d) : okGValue x := ⟨ko_i _ (ko_sub h 0 1), ko_i _ (ko_sub h 1 1), ko_s _ (ko_sub h 2 1)⟩
mutual
theorem koGExpr : ∀ x : GExpr, (∀ d ∈ cGExpr x, OkD d) → okGExpr x
  | ⟨a0, a1, a2, a3, a4, a5, a6, a7⟩, h0 => by
    rw [cGExpr_eq] at h0
    have h : ∀ d ∈ oGExpr ⟨a0, a1, a2, a3, a4, a5, a6, a7⟩, OkD d := h0
    unfold okGExpr
    exact ⟨ko_i _ (ko_sub h 0 1), ko_i _ (ko_sub h 1 1), trivial, koGValue a3 (ko_sub h 3 3), ko_s _ (ko_sub h 6 1), ko_s _ (ko_sub h 7 1), ⟨by simpa using (ko_len (ko_sub h 8 1)).1, koLGExpr a6 (ko_len (ko_sub h 8 1)).2⟩, ⟨by simpa using (ko_len (ko_sub h 9 1)).1, koLGQuery a7 (ko_len (ko_sub h 9 1)).2⟩⟩
theorem koGItem : ∀ x : GItem, (∀ d ∈ cGItem x, OkD d) → okGItem x
  | ⟨a0, a1, a2, a3⟩, h0 => by
    rw [cGItem_eq] at h0
    have h : ∀ d ∈ oGItem ⟨a0, a1, a2, a3⟩, OkD d := h0
    unfold okGItem
    exact ⟨trivial, ko_s _ (ko_sub h 1 1), koGExpr a2 (by rw [cGExpr_eq]; exact (ko_sub h 2 10)), ko_s _ (ko_sub h 12 1)⟩
theorem koGQuery : ∀ x : GQuery, (∀ d ∈ cGQuery x, OkD d) → okGQuery x
  | ⟨a0, a1, a2, a3, a4, a5⟩, h0 => by
    rw [cGQuery_eq] at h0
    have h : ∀ d ∈ oGQuery ⟨a0, a1, a2, a3, a4, a5⟩, OkD d := h0
    unfold okGQuery
    exact ⟨trivial, ⟨by simpa using (ko_len (ko_sub h 1 1)).1, koLGItem a1 (ko_len (ko_sub h 1 1)).2⟩, ⟨by simpa using (ko_len (ko_sub h 2 1)).1, koLGSource a2 (ko_len (ko_sub h 2 1)).2⟩, ⟨by simpa using (ko_len (ko_sub h 3 1)).1, koLGExpr a3 (ko_len (ko_sub h 3 1)).2⟩, ⟨by simpa using (ko_len (ko_sub h 4 1)).1, koLGSortKey a4 (ko_len (ko_sub h 4 1)).2⟩, ko_i _ (ko_sub h 5 1)⟩
theorem koGSortKey : ∀ x : GSortKey, (∀ d ∈ cGSortKey x, OkD d) → okGSortKey x
  | ⟨a0, a1⟩, h0 => by
    rw [cGSortKey_eq] at h0
    have h : ∀ d ∈ oGSortKey ⟨a0, a1⟩, OkD d := h0
    unfold okGSortKey
    exact ⟨koGExpr a0 (by rw [cGExpr_eq]; exact (ko_sub h 0 10)), trivial⟩
theorem koGSource : ∀ x : GSource, (∀ d ∈ cGSource x, OkD d) → okGSource x
  | ⟨a0, a1, a2⟩, h0 => by
    rw [cGSource_eq] at h0
    have h : ∀ d ∈ oGSource ⟨a0, a1, a2⟩, OkD d := h0
    unfold okGSource
    exact ⟨ko_s _ (ko_sub h 0 1), ko_s _ (ko_sub h 1 1), ⟨by simpa using (ko_len (ko_sub h 2 1)).1, koLGExpr a2 (ko_len (ko_sub h 2 1)).2⟩⟩
theorem koLGExpr : ∀ l : List GExpr, (∀ x ∈ l.map cGExpr, ∀ d ∈ x, OkD d) → okLGExpr l
  | [], _ => by unfold okLGExpr; trivial
  | x :: l, h => by
    unfold okLGExpr
    exact ⟨koGExpr x (h _ (by simp)), koLGExpr l fun y hy => h y (List.mem_cons_of_mem _ hy)⟩
theorem koLGItem : ∀ l : List GItem, (∀ x ∈ l.map cGItem, ∀ d ∈ x, OkD d) → okLGItem l
  | [], _ => by unfold okLGItem; trivial
  | x :: l, h => by
    unfold okLGItem
    exact ⟨koGItem x (h _ (by simp)), koLGItem l fun y hy => h y (List.mem_cons_of_mem _ hy)⟩
theorem koLGQuery : ∀ l : List GQuery, (∀ x ∈ l.map cGQuery, ∀ d ∈ x, OkD d) → okLGQuery l
  | [], _ => by unfold okLGQuery; trivial
  | x :: l, h => by
    unfold okLGQuery
    exact ⟨koGQuery x (h _ (by simp)), koLGQuery l fun y hy => h y (List.mem_cons_of_mem _ hy)⟩
theorem koLGSortKey : ∀ l : List GSortKey, (∀ x ∈ l.map cGSortKey, ∀ d ∈ x, OkD d) → okLGSortKey l
  | [], _ => by unfold okLGSortKey; trivial
  | x :: l, h => by
    unfold okLGSortKey
    exact ⟨koGSortKey x (h _ (by simp)), koLGSortKey l fun y hy => h y (List.mem_cons_of_mem _ hy)⟩
theorem koLGSource : ∀ l : List GSource, (∀ x ∈ l.map cGSource, ∀ d ∈ x, OkD d) → okLGSource l
  | [], _ => by unfold okLGSource; trivial
  | x :: l, h => by
    unfold okLGSource
    exact ⟨koGSource x (h _ (by simp)), koLGSource l fun y hy => h y (List.mem_cons_of_mem _ hy)⟩
end
theorem koGL1Cur (x : GL1Cur) (h : ∀ d ∈ cGL1Cur x, OkD d) : okGL1Cur x := ⟨ko_l _ (fun y hy => ko_u8 _ hy) (ko_sub h 0 1), ko_i _ (ko_sub h 1 1), ko_i _ (ko_sub h 2 1)⟩
theorem de5 {l : List D} (h : WtC Try.prog 5 l) : ∃ x : Int, l = cU8 x := (wt_i h (k := .u8) (by kernel_rfl))
theorem de22 {l : List D} (h : WtC Try.prog 22 l) : ∃ x : (List Int), l = (cSl 1 cU8) x := (wt_sl h (e := 5) (n := 1) (c := cU8) (by kernel_rfl) (by kernel_rfl) fun x hx => de5 hx)
theorem OK_sL1Byte_J0 (p0 : GL1Cur) (x3 : Int) (b1000000_1 : Int) (r : Int × GL1Cur) (h : sL1Byte_J0 p0 x3 b1000000_1 = some r) : avc Try.prog acsL1Byte_J0 (qsL1Byte r) (stsL1Byte_J0 p0 x3 b1000000_1) := by
 rw [sL1Byte_J0] at h
 delta acsL1Byte_J0
 refine so ?_
 let a8 : St := (stsL1Byte_J0 p0 x3 b1000000_1).p [(2, (vI x3)), (57, (vI x3))]
 refine st 2 a8 (nx (ri ?_))
 injection h with h; subst h
 exact ret1_step (v := (vI x3)) (by kernel_rfl) (by kernel_rfl) ⟨by kernel_rfl, by kernel_rfl, trivial⟩
theorem OK_sL1Byte (p0 : GL1Cur) : FOkB Try.prog 147 [(.ptr 1000000 0)] [(1000000, bGL1Cur p0)] (fun (y : Int × GL1Cur) => (vI y.1)) (fun (y : Int × GL1Cur) => [(1000000, bGL1Cur y.2)]) (sL1Byte p0) := by
 intro r h
 rw [sL1Byte] at h
 refine acalls_of_fn trsL1Byte (Nat.le_of_ble_eq_true rfl) (by intro n hn; simp at hn; simp only [NX]; omega) ?_
 show avc Try.prog acsL1Byte (qsL1Byte _) ⟨[(0, (.ptr 1000000 0))], [(1000000, bGL1Cur p0)]⟩
 delta acsL1Byte
 refine so ?_
 let a0 : St := ⟨[(2, (vI 0)), (0, (.ptr 1000000 0))], [(1000000, bGL1Cur p0)]⟩
 refine st 1 a0 (nx (so ?_))
 let a1 : St := ⟨(12, (.ptr 1000000 2)) :: (11, (.ptr 1000000 0)) :: (10, (vI (IntKind.wrap .i64 ((IntKind.wrap .i64 (p0.h * 6364136223846793005)) + 1442695040888963407)))) :: (9, (vI (IntKind.wrap .i64 (p0.h * 6364136223846793005)))) :: (8, (vI p0.h)) :: (7, (.ptr 1000000 2)) :: (6, (.ptr 1000000 0)) :: (5, (.ptr 1000000 0)) :: (4, (.ptr 1000000 0)) :: a0.env, [(1000000, bGL1Cur (GL1Cur.mk p0.b p0.i (IntKind.wrap .i64 ((IntKind.wrap .i64 (p0.h * 6364136223846793005)) + 1442695040888963407))))]⟩
 refine st 10 a1 (nx (si (dops_in ?_)))
 let a2 : St := a1.p [(3, (vI (IntKind.wrap .i64 ((BitVec.ofInt (IntKind.bits .i64) (IntKind.wrap .i64 ((BitVec.ofInt (IntKind.bits .i64) (Int.fdiv (IntKind.wrap .i64 ((IntKind.wrap .i64 (p0.h * 6364136223846793005)) + 1442695040888963407)) (2 ^ 33)) ^^^ BitVec.ofInt (IntKind.bits .i64) (Int.fdiv (IntKind.wrap .i64 ((IntKind.wrap .i64 (p0.h * 6364136223846793005)) + 1442695040888963407)) (2 ^ 45))).toNat : Int)) &&& BitVec.ofInt (IntKind.bits .i64) 255).toNat : Int)))), (24, (vI (IntKind.wrap .i64 ((BitVec.ofInt (IntKind.bits .i64) (IntKind.wrap .i64 ((BitVec.ofInt (IntKind.bits .i64) (Int.fdiv (IntKind.wrap .i64 ((IntKind.wrap .i64 (p0.h * 6364136223846793005)) + 1442695040888963407)) (2 ^ 33)) ^^^ BitVec.ofInt (IntKind.bits .i64) (Int.fdiv (IntKind.wrap .i64 ((IntKind.wrap .i64 (p0.h * 6364136223846793005)) + 1442695040888963407)) (2 ^ 45))).toNat : Int)) &&& BitVec.ofInt (IntKind.bits .i64) 255).toNat : Int)))), (23, (vI (IntKind.wrap .i64 ((BitVec.ofInt (IntKind.bits .i64) (Int.fdiv (IntKind.wrap .i64 ((IntKind.wrap .i64 (p0.h * 6364136223846793005)) + 1442695040888963407)) (2 ^ 33)) ^^^ BitVec.ofInt (IntKind.bits .i64) (Int.fdiv (IntKind.wrap .i64 ((IntKind.wrap .i64 (p0.h * 6364136223846793005)) + 1442695040888963407)) (2 ^ 45))).toNat : Int)))), (22, (vI (Int.fdiv (IntKind.wrap .i64 ((IntKind.wrap .i64 (p0.h * 6364136223846793005)) + 1442695040888963407)) (2 ^ 45)))), (21, (vI (IntKind.wrap .i64 ((IntKind.wrap .i64 (p0.h * 6364136223846793005)) + 1442695040888963407)))), (20, (.ptr 1000000 2)), (19, (.ptr 1000000 0)), (18, (.ptr 1000000 0)), (17, (vI (Int.fdiv (IntKind.wrap .i64 ((IntKind.wrap .i64 (p0.h * 6364136223846793005)) + 1442695040888963407)) (2 ^ 33)))), (16, (vI (IntKind.wrap .i64 ((IntKind.wrap .i64 (p0.h * 6364136223846793005)) + 1442695040888963407)))), (15, (.ptr 1000000 2)), (14, (.ptr 1000000 0)), (13, (.ptr 1000000 0))]
 refine dsts_ok 13 (s' := a2) (by kernel_rfl) (dnil_in (by kernel_rfl) (by kernel_rfl) (xi (si (si (dops_in ?_)))))
 let a3 : St := a2.p [(32, (.d (.sl 1 (p0.b.map cU8)))), (31, (.ptr 1000000 0)), (30, (.ptr 1000000 0)), (29, (.ptr 1000000 0)), (28, (vI p0.i)), (27, (.ptr 1000000 1)), (26, (.ptr 1000000 0)), (25, (.ptr 1000000 0))]
 refine dsts_ok 8 (s' := a3) (by kernel_rfl) (dp_step (v' := (vI (ln p0.b))) rfl rfl (vln (sz := 1) (l := p0.b) (f := cU8)) ?_)
 let a4 : St := a3.p [(34, (vB (decide (p0.i < (ln p0.b))))), (33, (vI (ln p0.b)))]
 refine dsts_ok 1 (s' := a4) (by kernel_rfl) (dnil_in (by kernel_rfl) (by kernel_rfl) (xi ?_))
 refine cd h (fun h => ?_) fun h => ?_
 refine si (dops_in ?_)
 let a5 : St := a4.p [(43, (vI p0.i)), (42, (.ptr 1000000 1)), (41, (.ptr 1000000 0)), (40, (.ptr 1000000 0)), (39, (.d (.sl 1 (p0.b.map cU8)))), (38, (.ptr 1000000 0)), (37, (.ptr 1000000 0)), (36, (.ptr 1000000 0)), (35, (vI (IntKind.wrap .i64 ((BitVec.ofInt (IntKind.bits .i64) (IntKind.wrap .i64 ((BitVec.ofInt (IntKind.bits .i64) (Int.fdiv (IntKind.wrap .i64 ((IntKind.wrap .i64 (p0.h * 6364136223846793005)) + 1442695040888963407)) (2 ^ 33)) ^^^ BitVec.ofInt (IntKind.bits .i64) (Int.fdiv (IntKind.wrap .i64 ((IntKind.wrap .i64 (p0.h * 6364136223846793005)) + 1442695040888963407)) (2 ^ 45))).toNat : Int)) &&& BitVec.ofInt (IntKind.bits .i64) 255).toNat : Int))))]
 refine dsts_ok 9 (s' := a5) (by kernel_rfl) (dv_step (m := idx p0.b p0.i) (v' := fun y => (.rp [(.i .u8 y)])) h rfl rfl (fun y hy => via (l := p0.b) (f := cU8) (g := cU8) (k := .i64) hy (fun _ => rfl)) ?_)
 clear h; intro y1 h
 let a6 : St := a5.p [(3, (vI (IntKind.wrap .i64 ((BitVec.ofInt (IntKind.bits .i64) (IntKind.wrap .i64 ((IntKind.wrap .i64 ((BitVec.ofInt (IntKind.bits .i64) (IntKind.wrap .i64 ((BitVec.ofInt (IntKind.bits .i64) (Int.fdiv (IntKind.wrap .i64 ((IntKind.wrap .i64 (p0.h * 6364136223846793005)) + 1442695040888963407)) (2 ^ 33)) ^^^ BitVec.ofInt (IntKind.bits .i64) (Int.fdiv (IntKind.wrap .i64 ((IntKind.wrap .i64 (p0.h * 6364136223846793005)) + 1442695040888963407)) (2 ^ 45))).toNat : Int)) &&& BitVec.ofInt (IntKind.bits .i64) 255).toNat : Int)) + (IntKind.wrap .i64 y1))) &&& BitVec.ofInt (IntKind.bits .i64) 255).toNat : Int)))), (48, (vI (IntKind.wrap .i64 ((BitVec.ofInt (IntKind.bits .i64) (IntKind.wrap .i64 ((IntKind.wrap .i64 ((BitVec.ofInt (IntKind.bits .i64) (IntKind.wrap .i64 ((BitVec.ofInt (IntKind.bits .i64) (Int.fdiv (IntKind.wrap .i64 ((IntKind.wrap .i64 (p0.h * 6364136223846793005)) + 1442695040888963407)) (2 ^ 33)) ^^^ BitVec.ofInt (IntKind.bits .i64) (Int.fdiv (IntKind.wrap .i64 ((IntKind.wrap .i64 (p0.h * 6364136223846793005)) + 1442695040888963407)) (2 ^ 45))).toNat : Int)) &&& BitVec.ofInt (IntKind.bits .i64) 255).toNat : Int)) + (IntKind.wrap .i64 y1))) &&& BitVec.ofInt (IntKind.bits .i64) 255).toNat : Int)))), (47, (vI (IntKind.wrap .i64 ((IntKind.wrap .i64 ((BitVec.ofInt (IntKind.bits .i64) (IntKind.wrap .i64 ((BitVec.ofInt (IntKind.bits .i64) (Int.fdiv (IntKind.wrap .i64 ((IntKind.wrap .i64 (p0.h * 6364136223846793005)) + 1442695040888963407)) (2 ^ 33)) ^^^ BitVec.ofInt (IntKind.bits .i64) (Int.fdiv (IntKind.wrap .i64 ((IntKind.wrap .i64 (p0.h * 6364136223846793005)) + 1442695040888963407)) (2 ^ 45))).toNat : Int)) &&& BitVec.ofInt (IntKind.bits .i64) 255).toNat : Int)) + (IntKind.wrap .i64 y1))))), (46, (vI (IntKind.wrap .i64 y1))), (45, (.d (.i .u8 y1))), (44, (.rp [(.i .u8 y1)]))]
 refine dsts_ok 5 (s' := a6) (by kernel_rfl) (dnil_in (by kernel_rfl) (by kernel_rfl) (xi (oi ?_)))
 let a7 : St := ⟨(56, (.ptr 1000000 1)) :: (55, (.ptr 1000000 0)) :: (54, (vI (IntKind.wrap .i64 (p0.i + 1)))) :: (53, (vI p0.i)) :: (52, (.ptr 1000000 1)) :: (51, (.ptr 1000000 0)) :: (50, (.ptr 1000000 0)) :: (49, (.ptr 1000000 0)) :: a6.env, [(1000000, bGL1Cur (GL1Cur.mk p0.b (IntKind.wrap .i64 (p0.i + 1)) (IntKind.wrap .i64 ((IntKind.wrap .i64 (p0.h * 6364136223846793005)) + 1442695040888963407))))]⟩
 refine st 9 a7 (ni ?_)
 exact next_step (s' := stsL1Byte_J0 p0 (IntKind.wrap .i64 ((BitVec.ofInt (IntKind.bits .i64) (IntKind.wrap .i64 ((IntKind.wrap .i64 ((BitVec.ofInt (IntKind.bits .i64) (IntKind.wrap .i64 ((BitVec.ofInt (IntKind.bits .i64) (Int.fdiv (IntKind.wrap .i64 ((IntKind.wrap .i64 (p0.h * 6364136223846793005)) + 1442695040888963407)) (2 ^ 33)) ^^^ BitVec.ofInt (IntKind.bits .i64) (Int.fdiv (IntKind.wrap .i64 ((IntKind.wrap .i64 (p0.h * 6364136223846793005)) + 1442695040888963407)) (2 ^ 45))).toNat : Int)) &&& BitVec.ofInt (IntKind.bits .i64) 255).toNat : Int)) + (IntKind.wrap .i64 y1))) &&& BitVec.ofInt (IntKind.bits .i64) 255).toNat : Int)) (IntKind.wrap .i64 (p0.i + 1))) (wr [] (es er_nil) (bs_ br_nil)) (OK_sL1Byte_J0 p0 (IntKind.wrap .i64 ((BitVec.ofInt (IntKind.bits .i64) (IntKind.wrap .i64 ((IntKind.wrap .i64 ((BitVec.ofInt (IntKind.bits .i64) (IntKind.wrap .i64 ((BitVec.ofInt (IntKind.bits .i64) (Int.fdiv (IntKind.wrap .i64 ((IntKind.wrap .i64 (p0.h * 6364136223846793005)) + 1442695040888963407)) (2 ^ 33)) ^^^ BitVec.ofInt (IntKind.bits .i64) (Int.fdiv (IntKind.wrap .i64 ((IntKind.wrap .i64 (p0.h * 6364136223846793005)) + 1442695040888963407)) (2 ^ 45))).toNat : Int)) &&& BitVec.ofInt (IntKind.bits .i64) 255).toNat : Int)) + (IntKind.wrap .i64 y1))) &&& BitVec.ofInt (IntKind.bits .i64) 255).toNat : Int)) (IntKind.wrap .i64 (p0.i + 1)) _ h)
 refine ki ?_
 exact next_step (s' := stsL1Byte_J0 p0 (IntKind.wrap .i64 ((BitVec.ofInt (IntKind.bits .i64) (IntKind.wrap .i64 ((BitVec.ofInt (IntKind.bits .i64) (Int.fdiv (IntKind.wrap .i64 ((IntKind.wrap .i64 (p0.h * 6364136223846793005)) + 1442695040888963407)) (2 ^ 33)) ^^^ BitVec.ofInt (IntKind.bits .i64) (Int.fdiv (IntKind.wrap .i64 ((IntKind.wrap .i64 (p0.h * 6364136223846793005)) + 1442695040888963407)) (2 ^ 45))).toNat : Int)) &&& BitVec.ofInt (IntKind.bits .i64) 255).toNat : Int)) p0.i) (wr [] (es er_nil) (bs_ br_nil)) (OK_sL1Byte_J0 p0 (IntKind.wrap .i64 ((BitVec.ofInt (IntKind.bits .i64) (IntKind.wrap .i64 ((BitVec.ofInt (IntKind.bits .i64) (Int.fdiv (IntKind.wrap .i64 ((IntKind.wrap .i64 (p0.h * 6364136223846793005)) + 1442695040888963407)) (2 ^ 33)) ^^^ BitVec.ofInt (IntKind.bits .i64) (Int.fdiv (IntKind.wrap .i64 ((IntKind.wrap .i64 (p0.h * 6364136223846793005)) + 1442695040888963407)) (2 ^ 45))).toNat : Int)) &&& BitVec.ofInt (IntKind.bits .i64) 255).toNat : Int)) p0.i _ h)
theorem OK_sL1Below (p0 : GL1Cur) (p1 : Int) : FOkB Try.prog 86 [(.ptr 1000000 0), (vI p1)] [(1000000, bGL1Cur p0)] (fun (y : Int × GL1Cur) => (vI y.1)) (fun (y : Int × GL1Cur) => [(1000000, bGL1Cur y.2)]) (sL1Below p0 p1) := by
 intro r h
 rw [sL1Below] at h
 refine acalls_of_fn trsL1Below (Nat.le_of_ble_eq_true rfl) (by intro n hn; simp at hn; simp only [NX]; omega) ?_
 show avc Try.prog acsL1Below (qsL1Below _) ⟨[(0, (.ptr 1000000 0)), (1, (vI p1))], [(1000000, bGL1Cur p0)]⟩
 delta acsL1Below
 refine so ?_
 let a0 : St := ⟨[(4, (vI 0)), (0, (.ptr 1000000 0)), (1, (vI p1))], [(1000000, bGL1Cur p0)]⟩
 refine st 1 a0 (nx (si (so ?_)))
 let a1 : St := a0.p [(10, (vB (decide (p1 ≤ 0)))), (9, (vI p1))]
 refine st 2 a1 (nx ?_)
 refine cd h (fun h => ?_) fun h => ?_
 refine so ?_
 let a2 : St := a1.p [(4, (vI 0))]
 refine st 1 a2 (nx (ri (tr ?_)))
 injection h with h; subst h
 exact ret1_step (v := (vI 0)) (by kernel_rfl) (by kernel_rfl) ⟨by kernel_rfl, by kernel_rfl, trivial⟩
 refine ki (xi (si (so ?_)))
 let a3 : St := a1.p [(12, (vB (decide (p1 ≤ 256)))), (11, (vI p1))]
 refine st 2 a3 (nx ?_)
 refine cd h (fun h => ?_) fun h => ?_
 refine so ?_
 let a4 : St := a3.p [(13, (.ptr 1000000 0))]
 refine st 1 a4 (callg_step ⟨[(1000000, 1000000)], [], [], [], [], [], [], [], []⟩ (m := sL1Byte p0) (S' := fun (y : Int × GL1Cur) => ⟨(14, (vI y.1)) :: a4.env, [(1000000, bGL1Cur y.2)]⟩) h (OK_sL1Byte p0) (by kernel_rfl) (by kernel_rfl) (by kernel_rfl) (by kernel_rfl) (fun y => by kernel_rfl) (fun y => by kernel_rfl) ?_)
 clear h; intro y1 h
 let a5 : St := ⟨(15, (vI p1)) :: (14, (vI y1.1)) :: a4.env, [(1000000, bGL1Cur y1.2)]⟩
 refine st 1 a5 (vs (fun (y : Int) => (vI y)) h (fun y hy => vop_rem (k := .i64) (a := y1.1) (b := p1) hy (by kernel_rfl) (by kernel_rfl) (by kernel_rfl)) fun y2 h => ?_)
 let a6 : St := a5.p [(4, (vI y2)), (16, (vI y2))]
 refine st 1 a6 (nx (ri (tr ?_)))
 injection h with h; subst h
 exact ret1_step (v := (vI y2)) (by kernel_rfl) (by kernel_rfl) ⟨by kernel_rfl, by kernel_rfl, trivial⟩
 refine ki (xi (so ?_))
 let a7 : St := a3.p [(17, (.ptr 1000000 0))]
 refine st 1 a7 (callg_step ⟨[(1000000, 1000000)], [], [], [], [], [], [], [], []⟩ (m := sL1Byte p0) (S' := fun (y : Int × GL1Cur) => ⟨(18, (vI y.1)) :: a7.env, [(1000000, bGL1Cur y.2)]⟩) h (OK_sL1Byte p0) (by kernel_rfl) (by kernel_rfl) (by kernel_rfl) (by kernel_rfl) (fun y => by kernel_rfl) (fun y => by kernel_rfl) ?_)
 clear h; intro y3 h
 let a8 : St := ⟨(5, (vI y3.1)) :: (18, (vI y3.1)) :: a7.env, [(1000000, bGL1Cur y3.2)]⟩
 refine st 1 a8 (nx (so ?_))
 let a9 : St := a8.p [(19, (.ptr 1000000 0))]
 refine st 1 a9 (callg_step ⟨[(1000000, 1000000)], [], [], [], [], [], [], [], []⟩ (m := sL1Byte y3.2) (S' := fun (y : Int × GL1Cur) => ⟨(20, (vI y.1)) :: a9.env, [(1000000, bGL1Cur y.2)]⟩) h (OK_sL1Byte y3.2) (by kernel_rfl) (by kernel_rfl) (by kernel_rfl) (by kernel_rfl) (fun y => by kernel_rfl) (fun y => by kernel_rfl) ?_)
 clear h; intro y4 h
 let a10 : St := ⟨(6, (vI y4.1)) :: (20, (vI y4.1)) :: a9.env, [(1000000, bGL1Cur y4.2)]⟩
 refine st 1 a10 (nx (so ?_))
 let a11 : St := a10.p [(21, (.ptr 1000000 0))]
 refine st 1 a11 (callg_step ⟨[(1000000, 1000000)], [], [], [], [], [], [], [], []⟩ (m := sL1Byte y4.2) (S' := fun (y : Int × GL1Cur) => ⟨(22, (vI y.1)) :: a11.env, [(1000000, bGL1Cur y.2)]⟩) h (OK_sL1Byte y4.2) (by kernel_rfl) (by kernel_rfl) (by kernel_rfl) (by kernel_rfl) (fun y => by kernel_rfl) (fun y => by kernel_rfl) ?_)
 clear h; intro y5 h
 let a12 : St := ⟨(7, (vI y5.1)) :: (22, (vI y5.1)) :: a11.env, [(1000000, bGL1Cur y5.2)]⟩
 refine st 1 a12 (nx (so ?_))
 let a13 : St := a12.p [(23, (.ptr 1000000 0))]
 refine st 1 a13 (callg_step ⟨[(1000000, 1000000)], [], [], [], [], [], [], [], []⟩ (m := sL1Byte y5.2) (S' := fun (y : Int × GL1Cur) => ⟨(24, (vI y.1)) :: a13.env, [(1000000, bGL1Cur y.2)]⟩) h (OK_sL1Byte y5.2) (by kernel_rfl) (by kernel_rfl) (by kernel_rfl) (by kernel_rfl) (fun y => by kernel_rfl) (fun y => by kernel_rfl) ?_)
 clear h; intro y6 h
 let a14 : St := ⟨(8, (vI y6.1)) :: (24, (vI y6.1)) :: a13.env, [(1000000, bGL1Cur y6.2)]⟩
 refine st 1 a14 (nx (so ?_))
 let a15 : St := a14.p [(35, (vI p1)), (34, (vI (IntKind.wrap .i64 ((IntKind.wrap .i64 ((IntKind.wrap .i64 ((IntKind.wrap .i64 (y3.1 * 16777216)) + (IntKind.wrap .i64 (y4.1 * 65536)))) + (IntKind.wrap .i64 (y5.1 * 256)))) + y6.1)))), (33, (vI y6.1)), (32, (vI (IntKind.wrap .i64 ((IntKind.wrap .i64 ((IntKind.wrap .i64 (y3.1 * 16777216)) + (IntKind.wrap .i64 (y4.1 * 65536)))) + (IntKind.wrap .i64 (y5.1 * 256)))))), (31, (vI (IntKind.wrap .i64 (y5.1 * 256)))), (30, (vI y5.1)), (29, (vI (IntKind.wrap .i64 ((IntKind.wrap .i64 (y3.1 * 16777216)) + (IntKind.wrap .i64 (y4.1 * 65536)))))), (28, (vI (IntKind.wrap .i64 (y4.1 * 65536)))), (27, (vI y4.1)), (26, (vI (IntKind.wrap .i64 (y3.1 * 16777216)))), (25, (vI y3.1))]
 refine st 11 a15 (vs (fun (y : Int) => (vI y)) h (fun y hy => vop_rem (k := .i64) (a := (IntKind.wrap .i64 ((IntKind.wrap .i64 ((IntKind.wrap .i64 ((IntKind.wrap .i64 (y3.1 * 16777216)) + (IntKind.wrap .i64 (y4.1 * 65536)))) + (IntKind.wrap .i64 (y5.1 * 256)))) + y6.1))) (b := p1) hy (by kernel_rfl) (by kernel_rfl) (by kernel_rfl)) fun y7 h => ?_)
 let a16 : St := a15.p [(4, (vI y7)), (36, (vI y7))]
 refine st 1 a16 (nx (ri ?_))
 injection h with h; subst h
 exact ret1_step (v := (vI y7)) (by kernel_rfl) (by kernel_rfl) ⟨by kernel_rfl, by kernel_rfl, trivial⟩
theorem OKs_sL1New_L0 (p0 : (List Int)) : (∀ (x3 : Int) (x4 : Int) (r : GL1Cur), sL1New_L0 p0 x3 x4 = some r → avc Try.prog acsL1New_L0 (qsL1New_1 r) (stsL1New_L0 p0 x3 x4)) := by
 refine sL1New_L0.partial_correctness p0 (fun x3 x4 r => avc Try.prog acsL1New_L0 (qsL1New_1 r) (stsL1New_L0 p0 x3 x4)) ?_
 · intro F_sL1New_L0 OK_sL1New_L0 x3 x4 r h
   delta acsL1New_L0
   refine loop_unroll (si (so ?_))
   let a4 : St := (stsL1New_L0 p0 x3 x4).p [(9, (.d (.sl 1 (p0.map cU8)))), (8, (vI x4))]
   refine st 2 a4 (ps (vI (ln p0)) (vln (sz := 1) (l := p0) (f := cU8)) ?_)
   let a5 : St := a4.p [(12, (vB (decide (x4 < (ln p0))))), (11, (vB (decide (x4 < (ln p0))))), (10, (vI (ln p0)))]
   refine st 2 a5 (gp true (decide (x4 < (ln p0))) (vI x4) (fun hc => vl) (gp true (decide (x4 < (ln p0))) (vB (decide (x4 < 4000))) (fun hc => vg hc) ?_))
   refine vs (fun (y : Bool) => (vB y)) h (fun y hy => vop_pickV hy (p := (true && ((decide (x4 < (ln p0))) == true))) (q := true) (by kernel_rfl) (by kernel_rfl) (by kernel_rfl) (by kernel_rfl) (fun hb => gc_t rfl hb) (fun _ => rfl)) fun y1 h => (nx ?_)
   refine cd h (fun h => ?_) fun h => ?_
   refine ki (xi (si (bi (oi ?_))))
   let a6 : St := a5.p [(21, (vI x4)), (20, (.d (.sl 1 (p0.map cU8)))), (19, (vI (IntKind.wrap .i64 (x3 * 131)))), (18, (vI x3)), (15, (vB y1)), (14, (.ite (true && ((decide (x4 < (ln p0))) == true)) (vB (decide (x4 < 4000))))), (13, (.ite (true && ((decide (x4 < (ln p0))) == true)) (vI x4)))]
   refine st 4 a6 (vs (fun (y : Int) => (.rp [(.i .u8 y)])) h (fun y hy => via (l := p0) (f := cU8) (g := cU8) (k := .i64) hy (fun _ => rfl)) fun y2 h => ?_)
   let a7 : St := a6.p [(3, (vI (IntKind.wrap .i64 ((BitVec.ofInt (IntKind.bits .i64) (IntKind.wrap .i64 ((IntKind.wrap .i64 ((IntKind.wrap .i64 (x3 * 131)) + (IntKind.wrap .i64 y2))) + 7)) &&& BitVec.ofInt (IntKind.bits .i64) 1073741823).toNat : Int)))), (27, (vI (IntKind.wrap .i64 ((BitVec.ofInt (IntKind.bits .i64) (IntKind.wrap .i64 ((IntKind.wrap .i64 ((IntKind.wrap .i64 (x3 * 131)) + (IntKind.wrap .i64 y2))) + 7)) &&& BitVec.ofInt (IntKind.bits .i64) 1073741823).toNat : Int)))), (26, (vI (IntKind.wrap .i64 ((IntKind.wrap .i64 ((IntKind.wrap .i64 (x3 * 131)) + (IntKind.wrap .i64 y2))) + 7)))), (25, (vI (IntKind.wrap .i64 ((IntKind.wrap .i64 (x3 * 131)) + (IntKind.wrap .i64 y2))))), (24, (vI (IntKind.wrap .i64 y2))), (23, (.d (.i .u8 y2))), (22, (.rp [(.i .u8 y2)]))]
   refine st 6 a7 (ni (bn (xi (oi ?_))))
   let a8 : St := a7.p [(4, (vI (IntKind.wrap .i64 (x4 + 1)))), (17, (vI (IntKind.wrap .i64 (x4 + 1)))), (16, (vI x4))]
   refine st 3 a8 (ni ?_)
   exact loop_back (s' := stsL1New_L0 p0 (IntKind.wrap .i64 ((BitVec.ofInt (IntKind.bits .i64) (IntKind.wrap .i64 ((IntKind.wrap .i64 ((IntKind.wrap .i64 (x3 * 131)) + (IntKind.wrap .i64 y2))) + 7)) &&& BitVec.ofInt (IntKind.bits .i64) 1073741823).toNat : Int)) (IntKind.wrap .i64 (x4 + 1))) (wr [] (es (es (es er_nil))) br_nil) (OK_sL1New_L0 (IntKind.wrap .i64 ((BitVec.ofInt (IntKind.bits .i64) (IntKind.wrap .i64 ((IntKind.wrap .i64 ((IntKind.wrap .i64 (x3 * 131)) + (IntKind.wrap .i64 y2))) + 7)) &&& BitVec.ofInt (IntKind.bits .i64) 1073741823).toNat : Int)) (IntKind.wrap .i64 (x4 + 1)) _ h)
   refine ei (te (te (bh (xi (so ?_)))))
   let a9 : St := ⟨(2, (.ptr 31 0)) :: (31, (.ptr 31 0)) :: (30, (vGL1Cur (GL1Cur.mk p0 0 x3))) :: (29, (vI x3)) :: (28, (.d (.sl 1 (p0.map cU8)))) :: (15, (vB y1)) :: (14, (.ite (true && ((decide (x4 < (ln p0))) == true)) (vB (decide (x4 < 4000))))) :: (13, (.ite (true && ((decide (x4 < (ln p0))) == true)) (vI x4))) :: a5.env, [(31, bGL1Cur (GL1Cur.mk p0 0 x3))]⟩
   refine st 5 a9 (nx (ri ?_))
   injection h with h; subst h
   exact ret1_step (v := (.ptr 31 0)) (by kernel_rfl) (by kernel_rfl) ⟨by kernel_rfl, by kernel_rfl, trivial⟩
theorem OK_sL1New_L0 (p0 : (List Int)) (x3 : Int) (x4 : Int) (r : GL1Cur) (h : sL1New_L0 p0 x3 x4 = some r) : avc Try.prog acsL1New_L0 (qsL1New_1 r) (stsL1New_L0 p0 x3 x4) := (OKs_sL1New_L0 p0) x3 x4 r h
theorem OK_sL1New (p0 : (List Int)) : FOkB Try.prog 82 [(.d (.sl 1 (p0.map cU8)))] [] (fun (y : GL1Cur) => (.ptr 31 0)) (fun (y : GL1Cur) => [(31, bGL1Cur y)]) (sL1New p0) := by
 intro r h
 rw [sL1New] at h
 refine aof trsL1New ?_
 show avc Try.prog acsL1New (qsL1New _) ⟨[(0, (.d (.sl 1 (p0.map cU8))))], []⟩
 delta acsL1New
 refine so ?_
 let a0 : St := ⟨[(2, .np), (0, (.d (.sl 1 (p0.map cU8))))], []⟩
 refine st 1 a0 (nx (so ?_))
 let a1 : St := a0.p [(5, (.d (.sl 1 (p0.map cU8))))]
 refine st 1 a1 (ps (vI (ln p0)) (vln (sz := 1) (l := p0) (f := cU8)) ?_)
 let a2 : St := a1.p [(3, (vI (IntKind.wrap .i64 (28322 + (ln p0))))), (7, (vI (IntKind.wrap .i64 (28322 + (ln p0))))), (6, (vI (ln p0)))]
 refine st 2 a2 (nx (si (so ?_)))
 let a3 : St := a2.p [(4, (vI 0))]
 exact st 1 a3 (nx (bi (loop_go (s' := stsL1New_L0 p0 (IntKind.wrap .i64 (28322 + (ln p0))) 0) (wr [] (es (es (es er_nil))) br_nil) (OK_sL1New_L0 p0 (IntKind.wrap .i64 (28322 + (ln p0))) 0 _ h))))
theorem OK_sL1Once (p0 : GL1Cur) (p1 : Int) : FOkB Try.prog 83 [(.ptr 1000000 0), (vI p1)] [(1000000, bGL1Cur p0)] (fun (y : Bool × GL1Cur) => (vB y.1)) (fun (y : Bool × GL1Cur) => [(1000000, bGL1Cur y.2)]) (sL1Once p0 p1) := by
 intro r h
 rw [sL1Once] at h
 refine acalls_of_fn trsL1Once (Nat.le_of_ble_eq_true rfl) (by intro n hn; simp at hn; simp only [NX]; omega) ?_
 show avc Try.prog acsL1Once (qsL1Once _) ⟨[(0, (.ptr 1000000 0)), (1, (vI p1))], [(1000000, bGL1Cur p0)]⟩
 delta acsL1Once
 refine so ?_
 let a0 : St := ⟨[(4, (vB false)), (0, (.ptr 1000000 0)), (1, (vI p1))], [(1000000, bGL1Cur p0)]⟩
 refine st 1 a0 (nx (so ?_))
 let a1 : St := a0.p [(6, (vI p1)), (5, (.ptr 1000000 0))]
 refine st 2 a1 (callg_step ⟨[(1000000, 1000000)], [], [], [], [], [], [], [], []⟩ (m := sL1Below p0 p1) (S' := fun (y : Int × GL1Cur) => ⟨(7, (vI y.1)) :: a1.env, [(1000000, bGL1Cur y.2)]⟩) h (OK_sL1Below p0 p1) (by kernel_rfl) (by kernel_rfl) (by kernel_rfl) (by kernel_rfl) (fun y => by kernel_rfl) (fun y => by kernel_rfl) ?_)
 clear h; intro y1 h
 let a2 : St := ⟨(4, (vB (decide (y1.1 = 0)))) :: (8, (vB (decide (y1.1 = 0)))) :: (7, (vI y1.1)) :: a1.env, [(1000000, bGL1Cur y1.2)]⟩
 refine st 2 a2 (nx (ri ?_))
 injection h with h; subst h
 exact ret1_step (v := (vB (decide (y1.1 = 0)))) (by kernel_rfl) (by kernel_rfl) ⟨by kernel_rfl, by kernel_rfl, trivial⟩
theorem OK_sL1Size (p0 : (List Int)) (p1 : Int) : FOk Try.prog 87 [(.d (.sl 1 (p0.map cU8))), (vI p1)] (fun y => (vI y)) (sL1Size p0 p1) := by
 intro r h
 rw [sL1Size] at h
 refine aof trsL1Size ?_
 show avc Try.prog acsL1Size (qsL1Size _) ⟨[(0, (.d (.sl 1 (p0.map cU8)))), (1, (vI p1))], []⟩
 delta acsL1Size
 refine so ?_
 let a0 : St := ⟨[(4, (vI 0)), (0, (.d (.sl 1 (p0.map cU8)))), (1, (vI p1))], []⟩
 refine st 1 a0 (nx (so ?_))
 let a1 : St := a0.p [(6, (.d (.sl 1 (p0.map cU8))))]
 refine st 1 a1 (ps (vI (ln p0)) (vln (sz := 1) (l := p0) (f := cU8)) ?_)
 let a2 : St := a1.p [(5, (vI (IntKind.wrap .i64 (2 + (IntKind.wrap .i64 (Int.tdiv (ln p0) 20)))))), (9, (vI (IntKind.wrap .i64 (2 + (IntKind.wrap .i64 (Int.tdiv (ln p0) 20)))))), (8, (vI (IntKind.wrap .i64 (Int.tdiv (ln p0) 20)))), (7, (vI (ln p0)))]
 refine st 3 a2 (nx (si (so ?_)))
 let a3 : St := a2.p [(12, (vB (decide (p1 < (IntKind.wrap .i64 (2 + (IntKind.wrap .i64 (Int.tdiv (ln p0) 20)))))))), (11, (vI p1)), (10, (vI (IntKind.wrap .i64 (2 + (IntKind.wrap .i64 (Int.tdiv (ln p0) 20))))))]
 refine st 3 a3 (nx ?_)
 refine cd h (fun h => ?_) fun h => ?_
 refine so ?_
 let a4 : St := a3.p [(4, (vI p1)), (13, (vI p1))]
 refine st 2 a4 (nx (ri (tr ?_)))
 injection h with h; subst h
 exact r1 (v := (vI p1))
 refine ki (xi (so ?_))
 let a5 : St := a3.p [(4, (vI (IntKind.wrap .i64 (2 + (IntKind.wrap .i64 (Int.tdiv (ln p0) 20)))))), (14, (vI (IntKind.wrap .i64 (2 + (IntKind.wrap .i64 (Int.tdiv (ln p0) 20))))))]
 refine st 2 a5 (nx (ri ?_))
 injection h with h; subst h
 exact r1 (v := (vI (IntKind.wrap .i64 (2 + (IntKind.wrap .i64 (Int.tdiv (ln p0) 20))))))
theorem OK_sL1PickInt (p0 : GL1Cur) (p1 : (List Int)) : FOkB Try.prog 148 [(.ptr 1000000 0), (.d (.sl 1 (p1.map cI)))] [(1000000, bGL1Cur p0)] (fun (y : Int × GL1Cur) => (vI y.1)) (fun (y : Int × GL1Cur) => [(1000000, bGL1Cur y.2)]) (sL1PickInt p0 p1) := by
 intro r h
 rw [sL1PickInt] at h
 refine acalls_of_fn trsL1PickInt (Nat.le_of_ble_eq_true rfl) (by intro n hn; simp at hn; simp only [NX]; omega) ?_
 show avc Try.prog acsL1PickInt (qsL1PickInt _) ⟨[(0, (.ptr 1000000 0)), (1, (.d (.sl 1 (p1.map cI))))], [(1000000, bGL1Cur p0)]⟩
 delta acsL1PickInt
 refine so ?_
 let a0 : St := ⟨[(4, (vI 0)), (0, (.ptr 1000000 0)), (1, (.d (.sl 1 (p1.map cI))))], [(1000000, bGL1Cur p0)]⟩
 refine st 1 a0 (nx (so ?_))
 let a1 : St := a0.p [(7, (.d (.sl 1 (p1.map cI)))), (6, (.ptr 1000000 0)), (5, (.d (.sl 1 (p1.map cI))))]
 refine st 3 a1 (ps (vI (ln p1)) (vln (sz := 1) (l := p1) (f := cI)) ?_)
 refine callg_step ⟨[(1000000, 1000000)], [], [], [], [], [], [], [], []⟩ (m := sL1Below p0 (ln p1)) (S' := fun (y : Int × GL1Cur) => ⟨(9, (vI y.1)) :: (8, (vI (ln p1))) :: a1.env, [(1000000, bGL1Cur y.2)]⟩) h (OK_sL1Below p0 (ln p1)) (by kernel_rfl) (by kernel_rfl) (by kernel_rfl) (by kernel_rfl) (fun y => by kernel_rfl) (fun y => by kernel_rfl) ?_
 clear h; intro y1 h
 refine vs (fun (y : Int) => (.rp [(.i .i64 y)])) h (fun y hy => via (l := p1) (f := cI) (g := cI) (k := .i64) hy (fun _ => rfl)) fun y2 h => ?_
 let a2 : St := ⟨(4, (vI y2)) :: (11, (vI y2)) :: (10, (.rp [(.i .i64 y2)])) :: (9, (vI y1.1)) :: (8, (vI (ln p1))) :: a1.env, [(1000000, bGL1Cur y1.2)]⟩
 refine st 2 a2 (nx (ri ?_))
 injection h with h; subst h
 exact ret1_step (v := (vI y2)) (by kernel_rfl) (by kernel_rfl) ⟨by kernel_rfl, by kernel_rfl, trivial⟩
theorem OKs_sL1Bytes_L0 (p1 : Int) : (∀ (x5 : (List Int)) (x6 : Int) (b1000000_0 : (List Int)) (b1000000_1 : Int) (b1000000_2 : Int) (r : (List Int) × GL1Cur), sL1Bytes_L0 p1 x5 x6 b1000000_0 b1000000_1 b1000000_2 = some r → avc Try.prog acsL1Bytes_L0 (qsL1Bytes_1 r) (stsL1Bytes_L0 p1 x5 x6 b1000000_0 b1000000_1 b1000000_2)) := by
 refine sL1Bytes_L0.partial_correctness p1 (fun x5 x6 b1000000_0 b1000000_1 b1000000_2 r => avc Try.prog acsL1Bytes_L0 (qsL1Bytes_1 r) (stsL1Bytes_L0 p1 x5 x6 b1000000_0 b1000000_1 b1000000_2)) ?_
 · intro F_sL1Bytes_L0 OK_sL1Bytes_L0 x5 x6 b1000000_0 b1000000_1 b1000000_2 r h
   delta acsL1Bytes_L0
   refine loop_unroll (si (so ?_))
   let a3 : St := (stsL1Bytes_L0 p1 x5 x6 b1000000_0 b1000000_1 b1000000_2).p [(10, (vB (decide (x6 < p1)))), (9, (vI p1)), (8, (vI x6))]
   refine st 3 a3 (nx ?_)
   refine cd h (fun h => ?_) fun h => ?_
   refine ki (xi (si (bi (oi ?_))))
   let a4 : St := a3.p [(14, (.ptr 1000000 0)), (13, (.osl 5 5 1 (x5.map cU8)))]
   refine st 2 a4 (callg_step ⟨[(1000000, 1000000)], [], [], [], [], [], [], [], []⟩ (m := sL1Byte (GL1Cur.mk b1000000_0 b1000000_1 b1000000_2)) (S' := fun (y : Int × GL1Cur) => ⟨(15, (vI y.1)) :: a4.env, [(1000000, bGL1Cur y.2)]⟩) h (OK_sL1Byte (GL1Cur.mk b1000000_0 b1000000_1 b1000000_2)) (by kernel_rfl) (by kernel_rfl) (by kernel_rfl) (by kernel_rfl) (fun y => by kernel_rfl) (fun y => by kernel_rfl) ?_)
   clear h; intro y1 h
   let a5 : St := ⟨(16, (.d (.i .u8 (IntKind.wrap .u8 y1.1)))) :: (15, (vI y1.1)) :: a4.env, [(1000000, bGL1Cur y1.2)]⟩
   refine st 1 a5 (bsl_step (l := ([(IntKind.wrap .u8 y1.1)] : List Int)) (f := cU8) (g := cU8) (by kernel_rfl) (fun _ => rfl) (by kernel_rfl) ?_)
   refine app_step (t := 5) (l := x5) (m := ([(IntKind.wrap .u8 y1.1)] : List Int)) (f := cU8) (S' := fun y => ⟨[(18, (.osl 18 5 1 (y.map cU8))), (17, (.osl 17 5 1 (([(IntKind.wrap .u8 y1.1)] : List Int).map cU8))), (16, (.d (.i .u8 (IntKind.wrap .u8 y1.1)))), (15, (vI y1.1)), (14, (.ptr 1000000 0)), (13, (.d (.sl 1 (x5.map cU8)))), (10, (vB (decide (x6 < p1)))), (9, (vI p1)), (8, (vI x6)), (0, (.ptr 1000000 0)), (1, (vI p1)), (5, (.d (.sl 1 (x5.map cU8)))), (6, (vI x6))], [(1000000, bGL1Cur y1.2)]⟩) h (by kernel_rfl) (by kernel_rfl) (by kernel_rfl) (by kernel_rfl) (fun y => by kernel_rfl) ?_
   clear h; intro y2 h
   let a6 : St := ⟨[(5, (.osl 5 5 1 (y2.map cU8))), (18, (.d (.sl 1 (y2.map cU8)))), (17, (.osl 17 5 1 (([(IntKind.wrap .u8 y1.1)] : List Int).map cU8))), (16, (.d (.i .u8 (IntKind.wrap .u8 y1.1)))), (15, (vI y1.1)), (14, (.ptr 1000000 0)), (13, (.d (.sl 1 (x5.map cU8)))), (10, (vB (decide (x6 < p1)))), (9, (vI p1)), (8, (vI x6)), (0, (.ptr 1000000 0)), (1, (vI p1)), (5, (.d (.sl 1 (x5.map cU8)))), (6, (vI x6))], [(1000000, bGL1Cur y1.2)]⟩
   refine st 1 a6 (ni (bn (xi (oi ?_))))
   let a7 : St := a6.p [(6, (vI (IntKind.wrap .i64 (x6 + 1)))), (12, (vI (IntKind.wrap .i64 (x6 + 1)))), (11, (vI x6))]
   exact st 3 a7 (ni (loop_back (s' := stsL1Bytes_L0 p1 y2 (IntKind.wrap .i64 (x6 + 1)) y1.2.b y1.2.i y1.2.h) (wr [(5, .old 5)] (es (es (eo 5 (es er_nil)))) (bs_ br_nil)) (OK_sL1Bytes_L0 y2 (IntKind.wrap .i64 (x6 + 1)) y1.2.b y1.2.i y1.2.h _ h)))
   refine ei (te (te (bh (xi (so ?_)))))
   let a8 : St := ⟨[(4, (.osl 4 5 1 (x5.map cU8))), (19, (.d (.sl 1 (x5.map cU8)))), (10, (vB (decide (x6 < p1)))), (9, (vI p1)), (8, (vI x6)), (0, (.ptr 1000000 0)), (1, (vI p1)), (5, (.d (.sl 1 (x5.map cU8)))), (6, (vI x6))], [(1000000, bGL1Cur (GL1Cur.mk b1000000_0 b1000000_1 b1000000_2))]⟩
   refine st 2 a8 (nx ?_)
   refine ret_wk (s' := ⟨[(4, (.osl 2000000 5 1 (x5.map cU8)))], [(1000000, bGL1Cur (GL1Cur.mk b1000000_0 b1000000_1 b1000000_2))]⟩) (wr [(2000000, .old 4)] (eo 4 er_nil) (br_cons (c0 := [(.d (.sl 1 (b1000000_0.map cU8))), (vI b1000000_1), (vI b1000000_2)]) (by kernel_rfl) (vrs_cons (vr_same (by kernel_rfl) (by kernel_rfl)) (vrs_cons (vr_same (by kernel_rfl) (by kernel_rfl)) (vrs_cons (vr_same (by kernel_rfl) (by kernel_rfl)) (vrs_nil)))) br_nil)) ?_
   injection h with h; subst h
   exact ret1_step (v := (.osl 2000000 5 1 (x5.map cU8))) (by kernel_rfl) (by kernel_rfl) ⟨by kernel_rfl, by kernel_rfl, trivial⟩
theorem OK_sL1Bytes_L0 (p1 : Int) (x5 : (List Int)) (x6 : Int) (b1000000_0 : (List Int)) (b1000000_1 : Int) (b1000000_2 : Int) (r : (List Int) × GL1Cur) (h : sL1Bytes_L0 p1 x5 x6 b1000000_0 b1000000_1 b1000000_2 = some r) : avc Try.prog acsL1Bytes_L0 (qsL1Bytes_1 r) (stsL1Bytes_L0 p1 x5 x6 b1000000_0 b1000000_1 b1000000_2) := (OKs_sL1Bytes_L0 p1) x5 x6 b1000000_0 b1000000_1 b1000000_2 r h
theorem OK_sL1Bytes (p0 : GL1Cur) (p1 : Int) : FOkB Try.prog 153 [(.ptr 1000000 0), (vI p1)] [(1000000, bGL1Cur p0)] (fun (y : (List Int) × GL1Cur) => (.osl 2000000 5 1 (y.1.map cU8))) (fun (y : (List Int) × GL1Cur) => [(1000000, bGL1Cur y.2)]) (sL1Bytes p0 p1) := by
 intro r h
 rw [sL1Bytes] at h
 refine acalls_of_fn trsL1Bytes (Nat.le_of_ble_eq_true rfl) (by intro n hn; simp at hn; simp only [NX]; omega) ?_
 show avc Try.prog acsL1Bytes (qsL1Bytes _) ⟨[(0, (.ptr 1000000 0)), (1, (vI p1))], [(1000000, bGL1Cur p0)]⟩
 delta acsL1Bytes
 refine so ?_
 let a0 : St := ⟨[(4, (.nil 1)), (0, (.ptr 1000000 0)), (1, (vI p1))], [(1000000, bGL1Cur p0)]⟩
 refine st 1 a0 (nx (so (bsl_step (l := ([] : List Int)) (f := cU8) (g := cU8) (by kernel_rfl) (fun _ => rfl) (by kernel_rfl) ?_)))
 let a1 : St := a0.p [(5, (.osl 5 5 1 (([] : List Int).map cU8))), (7, (.d (.sl 1 (([] : List Int).map cU8))))]
 refine st 1 a1 (nx (si (so ?_)))
 let a2 : St := a1.p [(6, (vI 0))]
 exact st 1 a2 (nx (bi (loop_go (s' := stsL1Bytes_L0 p1 ([] : List Int) 0 p0.b p0.i p0.h) (wr [(5, .old 5)] (es (es (eo 5 (es er_nil)))) (bs_ br_nil)) (OK_sL1Bytes_L0 p1 ([] : List Int) 0 p0.b p0.i p0.h _ h))))
theorem OK_sL1Pick (p0 : GL1Cur) (p1 : (List (List UInt8))) : FOkB Try.prog 151 [(.ptr 1000000 0), (.d (.sl 1 (p1.map cStr)))] [(1000000, bGL1Cur p0)] (fun (y : (List UInt8) × GL1Cur) => (vS y.1)) (fun (y : (List UInt8) × GL1Cur) => [(1000000, bGL1Cur y.2)]) (sL1Pick p0 p1) := by
 intro r h
 rw [sL1Pick] at h
 refine acalls_of_fn trsL1Pick (Nat.le_of_ble_eq_true rfl) (by intro n hn; simp at hn; simp only [NX]; omega) ?_
 show avc Try.prog acsL1Pick (qsL1Pick _) ⟨[(0, (.ptr 1000000 0)), (1, (.d (.sl 1 (p1.map cStr))))], [(1000000, bGL1Cur p0)]⟩
 delta acsL1Pick
 refine so ?_
 let a0 : St := ⟨[(4, (vS [])), (0, (.ptr 1000000 0)), (1, (.d (.sl 1 (p1.map cStr))))], [(1000000, bGL1Cur p0)]⟩
 refine st 1 a0 (nx (so ?_))
 let a1 : St := a0.p [(7, (.d (.sl 1 (p1.map cStr)))), (6, (.ptr 1000000 0)), (5, (.d (.sl 1 (p1.map cStr))))]
 refine st 3 a1 (ps (vI (ln p1)) (vln (sz := 1) (l := p1) (f := cStr)) ?_)
 refine callg_step ⟨[(1000000, 1000000)], [], [], [], [], [], [], [], []⟩ (m := sL1Below p0 (ln p1)) (S' := fun (y : Int × GL1Cur) => ⟨(9, (vI y.1)) :: (8, (vI (ln p1))) :: a1.env, [(1000000, bGL1Cur y.2)]⟩) h (OK_sL1Below p0 (ln p1)) (by kernel_rfl) (by kernel_rfl) (by kernel_rfl) (by kernel_rfl) (fun y => by kernel_rfl) (fun y => by kernel_rfl) ?_
 clear h; intro y1 h
 refine vs (fun (y : (List UInt8)) => (.rp [(.s (bs y))])) h (fun y hy => via (l := p1) (f := cStr) (g := cStr) (k := .i64) hy (fun _ => rfl)) fun y2 h => ?_
 let a2 : St := ⟨(4, (vS y2)) :: (11, (vS y2)) :: (10, (.rp [(.s (bs y2))])) :: (9, (vI y1.1)) :: (8, (vI (ln p1))) :: a1.env, [(1000000, bGL1Cur y1.2)]⟩
 refine st 2 a2 (nx (ri ?_))
 injection h with h; subst h
 exact ret1_step (v := (vS y2)) (by kernel_rfl) (by kernel_rfl) ⟨by kernel_rfl, by kernel_rfl, trivial⟩
theorem OK_sL2Name (p0 : GL1Cur) : FOkB Try.prog 150 [(.ptr 1000000 0)] [(1000000, bGL1Cur p0)] (fun (y : (List UInt8) × GL1Cur) => (vS y.1)) (fun (y : (List UInt8) × GL1Cur) => [(1000000, bGL1Cur y.2)]) (sL2Name p0) := by
 intro r h
 rw [sL2Name] at h
 refine acalls_of_fn trsL2Name (Nat.le_of_ble_eq_true rfl) (by intro n hn; simp at hn; simp only [NX]; omega) ?_
 show avc Try.prog acsL2Name (qsL2Name _) ⟨[(0, (.ptr 1000000 0))], [(1000000, bGL1Cur p0)]⟩
 delta acsL2Name
 refine so ?_
 let a0 : St := ⟨[(2, (vS [])), (0, (.ptr 1000000 0))], [(1000000, bGL1Cur p0)]⟩
 refine st 1 a0 (nx (si (so ?_)))
 let a1 : St := a0.p [(3, (.ptr 1000000 0))]
 refine st 1 a1 (callg_step ⟨[(1000000, 1000000)], [], [], [], [], [], [], [], []⟩ (m := sL1Once p0 6) (S' := fun (y : Bool × GL1Cur) => ⟨(4, (vB y.1)) :: a1.env, [(1000000, bGL1Cur y.2)]⟩) h (OK_sL1Once p0 6) (by kernel_rfl) (by kernel_rfl) (by kernel_rfl) (by kernel_rfl) (fun y => by kernel_rfl) (fun y => by kernel_rfl) ?_)
 clear h; intro y1 h
 refine nx ?_
 refine cd h (fun h => ?_) fun h => ?_
 refine so ?_
 let a2 : St := ⟨(5, (.ptr 1000000 0)) :: (4, (vB y1.1)) :: a1.env, [(1000000, bGL1Cur y1.2)]⟩
 refine st 1 a2 (bsl_step (l := ([[97, 32, 98], [102, 114, 111, 109], [83, 101, 108, 101, 99, 116], [49, 120], [113, 34, 113], [0], [34], [105, 116, 39, 115], [120, 46, 121], [45]] : List (List UInt8))) (f := cStr) (g := cStr) (by kernel_rfl) (fun _ => rfl) (by kernel_rfl) ?_)
 refine callg_step ⟨[(1000000, 1000000)], [], [], [], [], [], [], [], []⟩ (m := sL1Pick y1.2 ([[97, 32, 98], [102, 114, 111, 109], [83, 101, 108, 101, 99, 116], [49, 120], [113, 34, 113], [0], [34], [105, 116, 39, 115], [120, 46, 121], [45]] : List (List UInt8))) (S' := fun (y : (List UInt8) × GL1Cur) => ⟨(7, (vS y.1)) :: (6, (.osl 6 9 1 (([[97, 32, 98], [102, 114, 111, 109], [83, 101, 108, 101, 99, 116], [49, 120], [113, 34, 113], [0], [34], [105, 116, 39, 115], [120, 46, 121], [45]] : List (List UInt8)).map cStr))) :: a2.env, [(1000000, bGL1Cur y.2)]⟩) h (OK_sL1Pick y1.2 ([[97, 32, 98], [102, 114, 111, 109], [83, 101, 108, 101, 99, 116], [49, 120], [113, 34, 113], [0], [34], [105, 116, 39, 115], [120, 46, 121], [45]] : List (List UInt8))) (by kernel_rfl) (by kernel_rfl) (by kernel_rfl) (by kernel_rfl) (fun y => by kernel_rfl) (fun y => by kernel_rfl) ?_
 clear h; intro y2 h
 let a3 : St := ⟨(2, (vS y2.1)) :: (7, (vS y2.1)) :: (6, (.osl 6 9 1 (([[97, 32, 98], [102, 114, 111, 109], [83, 101, 108, 101, 99, 116], [49, 120], [113, 34, 113], [0], [34], [105, 116, 39, 115], [120, 46, 121], [45]] : List (List UInt8)).map cStr))) :: a2.env, [(1000000, bGL1Cur y2.2)]⟩
 refine st 1 a3 (nx (ri (tr ?_)))
 injection h with h; subst h
 exact ret1_step (v := (vS y2.1)) (by kernel_rfl) (by kernel_rfl) ⟨by kernel_rfl, by kernel_rfl, trivial⟩
 refine ki (xi (so ?_))
 let a4 : St := ⟨(8, (.ptr 1000000 0)) :: (4, (vB y1.1)) :: a1.env, [(1000000, bGL1Cur y1.2)]⟩
 refine st 1 a4 (bsl_step (l := ([[97], [98], [99], [116], [117], [118], [105, 100], [110, 97, 109, 101], [65], [95, 120, 49]] : List (List UInt8))) (f := cStr) (g := cStr) (by kernel_rfl) (fun _ => rfl) (by kernel_rfl) ?_)
 refine callg_step ⟨[(1000000, 1000000)], [], [], [], [], [], [], [], []⟩ (m := sL1Pick y1.2 ([[97], [98], [99], [116], [117], [118], [105, 100], [110, 97, 109, 101], [65], [95, 120, 49]] : List (List UInt8))) (S' := fun (y : (List UInt8) × GL1Cur) => ⟨(10, (vS y.1)) :: (9, (.osl 9 9 1 (([[97], [98], [99], [116], [117], [118], [105, 100], [110, 97, 109, 101], [65], [95, 120, 49]] : List (List UInt8)).map cStr))) :: a4.env, [(1000000, bGL1Cur y.2)]⟩) h (OK_sL1Pick y1.2 ([[97], [98], [99], [116], [117], [118], [105, 100], [110, 97, 109, 101], [65], [95, 120, 49]] : List (List UInt8))) (by kernel_rfl) (by kernel_rfl) (by kernel_rfl) (by kernel_rfl) (fun y => by kernel_rfl) (fun y => by kernel_rfl) ?_
 clear h; intro y3 h
 let a5 : St := ⟨(2, (vS y3.1)) :: (10, (vS y3.1)) :: (9, (.osl 9 9 1 (([[97], [98], [99], [116], [117], [118], [105, 100], [110, 97, 109, 101], [65], [95, 120, 49]] : List (List UInt8)).map cStr))) :: a4.env, [(1000000, bGL1Cur y3.2)]⟩
 refine st 1 a5 (nx (ri ?_))
 injection h with h; subst h
 exact ret1_step (v := (vS y3.1)) (by kernel_rfl) (by kernel_rfl) ⟨by kernel_rfl, by kernel_rfl, trivial⟩
theorem OK_sL2Words : FOkB Try.prog 152 [] [] (fun (y : (List (List UInt8))) => (.osl 2000000 9 1 (y.map cStr))) (fun (y : (List (List UInt8))) => []) (sL2Words) := by
 intro r h
 rw [sL2Words] at h
 refine aof trsL2Words ?_
 show avc Try.prog acsL2Words (qsL2Words _) ⟨[], []⟩
 delta acsL2Words
 refine so ?_
 let a0 : St := ⟨[(0, (.nil 1))], []⟩
 refine st 1 a0 (nx (so ?_))
 refine bsl_step (l := ([[], [83, 69, 76, 69, 67, 84], [68, 73, 83, 84, 73, 78, 67, 84], [70, 82, 79, 77], [74, 79, 73, 78], [79, 78], [87, 72, 69, 82, 69], [79, 82, 68, 69, 82], [66, 89], [65, 83, 67], [68, 69, 83, 67], [76, 73, 77, 73, 84], [65, 83], [65, 78, 68], [79, 82], [78, 79, 84], [73, 83], [73, 78], [66, 69, 84, 87, 69, 69, 78], [69, 88, 73, 83, 84, 83], [78, 85, 76, 76], [84, 82, 85, 69], [70, 65, 76, 83, 69], [73, 78, 83, 69, 82, 84], [73, 78, 84, 79], [86, 65, 76, 85, 69, 83], [85, 80, 68, 65, 84, 69], [83, 69, 84], [68, 69, 76, 69, 84, 69]] : List (List UInt8))) (f := cStr) (g := cStr) (by kernel_rfl) (fun _ => rfl) (by kernel_rfl) ?_
 let a1 : St := a0.p [(0, (.osl 0 9 1 (([[], [83, 69, 76, 69, 67, 84], [68, 73, 83, 84, 73, 78, 67, 84], [70, 82, 79, 77], [74, 79, 73, 78], [79, 78], [87, 72, 69, 82, 69], [79, 82, 68, 69, 82], [66, 89], [65, 83, 67], [68, 69, 83, 67], [76, 73, 77, 73, 84], [65, 83], [65, 78, 68], [79, 82], [78, 79, 84], [73, 83], [73, 78], [66, 69, 84, 87, 69, 69, 78], [69, 88, 73, 83, 84, 83], [78, 85, 76, 76], [84, 82, 85, 69], [70, 65, 76, 83, 69], [73, 78, 83, 69, 82, 84], [73, 78, 84, 79], [86, 65, 76, 85, 69, 83], [85, 80, 68, 65, 84, 69], [83, 69, 84], [68, 69, 76, 69, 84, 69]] : List (List UInt8)).map cStr))), (1, (.d (.sl 1 (([[], [83, 69, 76, 69, 67, 84], [68, 73, 83, 84, 73, 78, 67, 84], [70, 82, 79, 77], [74, 79, 73, 78], [79, 78], [87, 72, 69, 82, 69], [79, 82, 68, 69, 82], [66, 89], [65, 83, 67], [68, 69, 83, 67], [76, 73, 77, 73, 84], [65, 83], [65, 78, 68], [79, 82], [78, 79, 84], [73, 83], [73, 78], [66, 69, 84, 87, 69, 69, 78], [69, 88, 73, 83, 84, 83], [78, 85, 76, 76], [84, 82, 85, 69], [70, 65, 76, 83, 69], [73, 78, 83, 69, 82, 84], [73, 78, 84, 79], [86, 65, 76, 85, 69, 83], [85, 80, 68, 65, 84, 69], [83, 69, 84], [68, 69, 76, 69, 84, 69]] : List (List UInt8)).map cStr))))]
 refine st 1 a1 (nx ?_)
 refine ret_wk (s' := ⟨[(0, (.osl 2000000 9 1 (([[], [83, 69, 76, 69, 67, 84], [68, 73, 83, 84, 73, 78, 67, 84], [70, 82, 79, 77], [74, 79, 73, 78], [79, 78], [87, 72, 69, 82, 69], [79, 82, 68, 69, 82], [66, 89], [65, 83, 67], [68, 69, 83, 67], [76, 73, 77, 73, 84], [65, 83], [65, 78, 68], [79, 82], [78, 79, 84], [73, 83], [73, 78], [66, 69, 84, 87, 69, 69, 78], [69, 88, 73, 83, 84, 83], [78, 85, 76, 76], [84, 82, 85, 69], [70, 65, 76, 83, 69], [73, 78, 83, 69, 82, 84], [73, 78, 84, 79], [86, 65, 76, 85, 69, 83], [85, 80, 68, 65, 84, 69], [83, 69, 84], [68, 69, 76, 69, 84, 69]] : List (List UInt8)).map cStr)))], []⟩) (wr [(2000000, .old 0)] (eo 0 er_nil) br_nil) ?_
 injection h with h; subst h
 exact ret1_step (v := (.osl 2000000 9 1 (([[], [83, 69, 76, 69, 67, 84], [68, 73, 83, 84, 73, 78, 67, 84], [70, 82, 79, 77], [74, 79, 73, 78], [79, 78], [87, 72, 69, 82, 69], [79, 82, 68, 69, 82], [66, 89], [65, 83, 67], [68, 69, 83, 67], [76, 73, 77, 73, 84], [65, 83], [65, 78, 68], [79, 82], [78, 79, 84], [73, 83], [73, 78], [66, 69, 84, 87, 69, 69, 78], [69, 88, 73, 83, 84, 83], [78, 85, 76, 76], [84, 82, 85, 69], [70, 65, 76, 83, 69], [73, 78, 83, 69, 82, 84], [73, 78, 84, 79], [86, 65, 76, 85, 69, 83], [85, 80, 68, 65, 84, 69], [83, 69, 84], [68, 69, 76, 69, 84, 69]] : List (List UInt8)).map cStr))) (by kernel_rfl) (by kernel_rfl) ⟨by kernel_rfl, trivial⟩
theorem OK_sL2Any (p0 : GL1Cur) : FOkB Try.prog 90 [(.ptr 1000000 0)] [(1000000, bGL1Cur p0)] (fun (y : (List UInt8) × GL1Cur) => (vS y.1)) (fun (y : (List UInt8) × GL1Cur) => [(1000000, bGL1Cur y.2)]) (sL2Any p0) := by
 intro r h
 rw [sL2Any] at h
 refine acalls_of_fn trsL2Any (Nat.le_of_ble_eq_true rfl) (by intro n hn; simp at hn; simp only [NX]; omega) ?_
 show avc Try.prog acsL2Any (qsL2Any _) ⟨[(0, (.ptr 1000000 0))], [(1000000, bGL1Cur p0)]⟩
 delta acsL2Any
 refine so ?_
 let a0 : St := ⟨[(2, (vS [])), (0, (.ptr 1000000 0))], [(1000000, bGL1Cur p0)]⟩
 refine st 1 a0 (nx (si (so ?_)))
 let a1 : St := a0.p [(3, (.ptr 1000000 0))]
 refine st 1 a1 (callg_step ⟨[(1000000, 1000000)], [], [], [], [], [], [], [], []⟩ (m := sL1Below p0 6) (S' := fun (y : Int × GL1Cur) => ⟨(4, (vI y.1)) :: a1.env, [(1000000, bGL1Cur y.2)]⟩) h (OK_sL1Below p0 6) (by kernel_rfl) (by kernel_rfl) (by kernel_rfl) (by kernel_rfl) (fun y => by kernel_rfl) (fun y => by kernel_rfl) ?_)
 clear h; intro y1 h
 refine nx (bi (so ?_))
 let a2 : St := ⟨(5, (vB (decide (y1.1 = 0)))) :: (6, (vB (decide (y1.1 = 0)))) :: (4, (vI y1.1)) :: a1.env, [(1000000, bGL1Cur y1.2)]⟩
 refine st 2 a2 (nx ?_)
 refine cd h (fun h => ?_) fun h => ?_
 refine so ?_
 let a3 : St := a2.p [(7, (.ptr 1000000 0))]
 refine st 1 a3 ?_
 refine bsl_step (l := ([[], [97, 98, 99, 100, 101, 102, 103, 104, 105, 106, 107, 108, 109, 110, 111, 112, 113, 114, 115, 116], [97, 98, 99, 100, 101, 102, 103, 104, 105, 106, 107, 108, 109, 110, 111, 112, 113, 114, 115, 116, 117], [108, 105, 109, 105, 116], [76, 73, 77, 73, 84, 83], [65, 83, 99], [57], [97, 57], [195, 169]] : List (List UInt8))) (f := cStr) (g := cStr) (by kernel_rfl) (fun _ => rfl) (by kernel_rfl) ?_
 refine callg_step ⟨[(1000000, 1000000)], [], [], [], [], [], [], [], []⟩ (m := sL1Pick y1.2 ([[], [97, 98, 99, 100, 101, 102, 103, 104, 105, 106, 107, 108, 109, 110, 111, 112, 113, 114, 115, 116], [97, 98, 99, 100, 101, 102, 103, 104, 105, 106, 107, 108, 109, 110, 111, 112, 113, 114, 115, 116, 117], [108, 105, 109, 105, 116], [76, 73, 77, 73, 84, 83], [65, 83, 99], [57], [97, 57], [195, 169]] : List (List UInt8))) (S' := fun (y : (List UInt8) × GL1Cur) => ⟨(9, (vS y.1)) :: (8, (.osl 8 9 1 (([[], [97, 98, 99, 100, 101, 102, 103, 104, 105, 106, 107, 108, 109, 110, 111, 112, 113, 114, 115, 116], [97, 98, 99, 100, 101, 102, 103, 104, 105, 106, 107, 108, 109, 110, 111, 112, 113, 114, 115, 116, 117], [108, 105, 109, 105, 116], [76, 73, 77, 73, 84, 83], [65, 83, 99], [57], [97, 57], [195, 169]] : List (List UInt8)).map cStr))) :: a3.env, [(1000000, bGL1Cur y.2)]⟩) h (OK_sL1Pick y1.2 ([[], [97, 98, 99, 100, 101, 102, 103, 104, 105, 106, 107, 108, 109, 110, 111, 112, 113, 114, 115, 116], [97, 98, 99, 100, 101, 102, 103, 104, 105, 106, 107, 108, 109, 110, 111, 112, 113, 114, 115, 116, 117], [108, 105, 109, 105, 116], [76, 73, 77, 73, 84, 83], [65, 83, 99], [57], [97, 57], [195, 169]] : List (List UInt8))) (by kernel_rfl) (by kernel_rfl) (by kernel_rfl) (by kernel_rfl) (fun y => by kernel_rfl) (fun y => by kernel_rfl) ?_
 clear h; intro y2 h
 let a4 : St := ⟨(2, (vS y2.1)) :: (9, (vS y2.1)) :: (8, (.osl 8 9 1 (([[], [97, 98, 99, 100, 101, 102, 103, 104, 105, 106, 107, 108, 109, 110, 111, 112, 113, 114, 115, 116], [97, 98, 99, 100, 101, 102, 103, 104, 105, 106, 107, 108, 109, 110, 111, 112, 113, 114, 115, 116, 117], [108, 105, 109, 105, 116], [76, 73, 77, 73, 84, 83], [65, 83, 99], [57], [97, 57], [195, 169]] : List (List UInt8)).map cStr))) :: a3.env, [(1000000, bGL1Cur y2.2)]⟩
 refine st 1 a4 (nx (ri (br (tr ?_))))
 injection h with h; subst h
 exact ret1_step (v := (vS y2.1)) (by kernel_rfl) (by kernel_rfl) ⟨by kernel_rfl, by kernel_rfl, trivial⟩
 refine so ?_
 let a5 : St := a2.p [(10, (vB (decide (y1.1 = 1)))), (11, (vB (decide (y1.1 = 1))))]
 refine st 2 a5 (nx ?_)
 refine cd h (fun h => ?_) fun h => ?_
 refine so (callg_step ⟨[], [], [], [], [], [(2000000, 12)], [], [12], []⟩ (m := sL2Words) (S' := fun (y : (List (List UInt8))) => ⟨(12, (.osl 12 9 1 (y.map cStr))) :: a5.env, a5.bx⟩) h (OK_sL2Words) (by kernel_rfl) (by kernel_rfl) (by kernel_rfl) (by kernel_rfl) (fun y => by kernel_rfl) (fun y => by kernel_rfl) ?_)
 clear h; intro y3 h
 let a6 : St := a5.p [(13, (.ptr 1000000 0)), (12, (.osl 12 9 1 (y3.map cStr)))]
 refine st 1 a6 (callg_step ⟨[(1000000, 1000000)], [], [], [], [], [], [], [], []⟩ (m := sL1Below y1.2 29) (S' := fun (y : Int × GL1Cur) => ⟨(14, (vI y.1)) :: a6.env, [(1000000, bGL1Cur y.2)]⟩) h (OK_sL1Below y1.2 29) (by kernel_rfl) (by kernel_rfl) (by kernel_rfl) (by kernel_rfl) (fun y => by kernel_rfl) (fun y => by kernel_rfl) ?_)
 clear h; intro y4 h
 refine vs (fun (y : (List UInt8)) => (.rp [(.s (bs y))])) h (fun y hy => via (l := y3) (f := cStr) (g := cStr) (k := .i64) hy (fun _ => rfl)) fun y5 h => ?_
 let a7 : St := ⟨(2, (vS y5)) :: (16, (vS y5)) :: (15, (.rp [(.s (bs y5))])) :: (14, (vI y4.1)) :: a6.env, [(1000000, bGL1Cur y4.2)]⟩
 refine st 2 a7 (nx (ri (br (tr ?_))))
 injection h with h; subst h
 exact ret1_step (v := (vS y5)) (by kernel_rfl) (by kernel_rfl) ⟨by kernel_rfl, by kernel_rfl, trivial⟩
 refine so ?_
 let a8 : St := a5.p [(17, (vB (decide (y1.1 = 2)))), (18, (vB (decide (y1.1 = 2))))]
 refine st 2 a8 (nx ?_)
 refine cd h (fun h => ?_) fun h => ?_
 refine so ?_
 let a9 : St := a8.p [(20, (.ptr 1000000 0)), (19, (.ptr 1000000 0))]
 refine st 2 a9 (callg_step ⟨[(1000000, 1000000)], [], [], [], [], [], [], [], []⟩ (m := sL1Below y1.2 5) (S' := fun (y : Int × GL1Cur) => ⟨(21, (vI y.1)) :: a9.env, [(1000000, bGL1Cur y.2)]⟩) h (OK_sL1Below y1.2 5) (by kernel_rfl) (by kernel_rfl) (by kernel_rfl) (by kernel_rfl) (fun y => by kernel_rfl) (fun y => by kernel_rfl) ?_)
 clear h; intro y6 h
 refine callg_step ⟨[(1000000, 1000000)], [], [], [], [], [(2000000, 22)], [], [22], []⟩ (m := sL1Bytes y6.2 y6.1) (S' := fun (y : (List Int) × GL1Cur) => ⟨(22, (.osl 22 5 1 (y.1.map cU8))) :: (21, (vI y6.1)) :: a9.env, [(1000000, bGL1Cur y.2)]⟩) h (OK_sL1Bytes y6.2 y6.1) (by kernel_rfl) (by kernel_rfl) (by kernel_rfl) (by kernel_rfl) (fun y => by kernel_rfl) (fun y => by kernel_rfl) ?_
 clear h; intro y7 h
 refine vs (fun (y : (List UInt8)) => (vS y)) h (fun y hy => vop_cbs (l := y7.1) hy (by kernel_rfl) (by kernel_rfl)) fun y8 h => ?_
 let a10 : St := ⟨(2, (vS y8)) :: (23, (vS y8)) :: (22, (.osl 22 5 1 (y7.1.map cU8))) :: (21, (vI y6.1)) :: a9.env, [(1000000, bGL1Cur y7.2)]⟩
 refine st 1 a10 (nx (ri (br (tr ?_))))
 injection h with h; subst h
 exact ret1_step (v := (vS y8)) (by kernel_rfl) (by kernel_rfl) ⟨by kernel_rfl, by kernel_rfl, trivial⟩
 refine ki (bn (xi (so ?_)))
 let a11 : St := a8.p [(24, (.ptr 1000000 0))]
 refine st 1 a11 (callg_step ⟨[(1000000, 1000000)], [], [], [], [], [], [], [], []⟩ (m := sL2Name y1.2) (S' := fun (y : (List UInt8) × GL1Cur) => ⟨(25, (vS y.1)) :: a11.env, [(1000000, bGL1Cur y.2)]⟩) h (OK_sL2Name y1.2) (by kernel_rfl) (by kernel_rfl) (by kernel_rfl) (by kernel_rfl) (fun y => by kernel_rfl) (fun y => by kernel_rfl) ?_)
 clear h; intro y9 h
 let a12 : St := ⟨(2, (vS y9.1)) :: (25, (vS y9.1)) :: a11.env, [(1000000, bGL1Cur y9.2)]⟩
 refine st 1 a12 (nx (ri ?_))
 injection h with h; subst h
 exact ret1_step (v := (vS y9.1)) (by kernel_rfl) (by kernel_rfl) ⟨by kernel_rfl, by kernel_rfl, trivial⟩
theorem OK_sL1Whole (p0 : GL1Cur) : FOkB Try.prog 192 [(.ptr 1000000 0)] [(1000000, bGL1Cur p0)] (fun (y : Int × GL1Cur) => (vI y.1)) (fun (y : Int × GL1Cur) => [(1000000, bGL1Cur y.2)]) (sL1Whole p0) := by
 intro r h
 rw [sL1Whole] at h
 refine acalls_of_fn trsL1Whole (Nat.le_of_ble_eq_true rfl) (by intro n hn; simp at hn; simp only [NX]; omega) ?_
 show avc Try.prog acsL1Whole (qsL1Whole _) ⟨[(0, (.ptr 1000000 0))], [(1000000, bGL1Cur p0)]⟩
 delta acsL1Whole
 refine so ?_
 let a0 : St := ⟨[(2, (vI 0)), (0, (.ptr 1000000 0))], [(1000000, bGL1Cur p0)]⟩
 refine st 1 a0 (nx (si (so ?_)))
 let a1 : St := a0.p [(3, (.ptr 1000000 0))]
 refine st 1 a1 (callg_step ⟨[(1000000, 1000000)], [], [], [], [], [], [], [], []⟩ (m := sL1Below p0 3) (S' := fun (y : Int × GL1Cur) => ⟨(4, (vI y.1)) :: a1.env, [(1000000, bGL1Cur y.2)]⟩) h (OK_sL1Below p0 3) (by kernel_rfl) (by kernel_rfl) (by kernel_rfl) (by kernel_rfl) (fun y => by kernel_rfl) (fun y => by kernel_rfl) ?_)
 clear h; intro y1 h
 refine nx (bi (so ?_))
 let a2 : St := ⟨(5, (vB (decide (y1.1 = 0)))) :: (6, (vB (decide (y1.1 = 0)))) :: (4, (vI y1.1)) :: a1.env, [(1000000, bGL1Cur y1.2)]⟩
 refine st 2 a2 (nx ?_)
 refine cd h (fun h => ?_) fun h => ?_
 refine so ?_
 let a3 : St := a2.p [(7, (.ptr 1000000 0))]
 refine st 1 a3 (bsl_step (l := ([0, 1, (-1), 63, 64, (-64), (-65), 127, 128, 16383, 16384, 9223372036854775807, (-9223372036854775808), 4611686018427387904] : List Int)) (f := cI) (g := cI) (by kernel_rfl) (fun _ => rfl) (by kernel_rfl) ?_)
 refine callg_step ⟨[(1000000, 1000000)], [], [], [], [], [], [], [], []⟩ (m := sL1PickInt y1.2 ([0, 1, (-1), 63, 64, (-64), (-65), 127, 128, 16383, 16384, 9223372036854775807, (-9223372036854775808), 4611686018427387904] : List Int)) (S' := fun (y : Int × GL1Cur) => ⟨(9, (vI y.1)) :: (8, (.osl 8 3 1 (([0, 1, (-1), 63, 64, (-64), (-65), 127, 128, 16383, 16384, 9223372036854775807, (-9223372036854775808), 4611686018427387904] : List Int).map cI))) :: a3.env, [(1000000, bGL1Cur y.2)]⟩) h (OK_sL1PickInt y1.2 ([0, 1, (-1), 63, 64, (-64), (-65), 127, 128, 16383, 16384, 9223372036854775807, (-9223372036854775808), 4611686018427387904] : List Int)) (by kernel_rfl) (by kernel_rfl) (by kernel_rfl) (by kernel_rfl) (fun y => by kernel_rfl) (fun y => by kernel_rfl) ?_
 clear h; intro y2 h
 let a4 : St := ⟨(2, (vI y2.1)) :: (9, (vI y2.1)) :: (8, (.osl 8 3 1 (([0, 1, (-1), 63, 64, (-64), (-65), 127, 128, 16383, 16384, 9223372036854775807, (-9223372036854775808), 4611686018427387904] : List Int).map cI))) :: a3.env, [(1000000, bGL1Cur y2.2)]⟩
 refine st 1 a4 (nx (ri (br (tr ?_))))
 injection h with h; subst h
 exact ret1_step (v := (vI y2.1)) (by kernel_rfl) (by kernel_rfl) ⟨by kernel_rfl, by kernel_rfl, trivial⟩
 refine so ?_
 let a5 : St := a2.p [(10, (vB (decide (y1.1 = 1)))), (11, (vB (decide (y1.1 = 1))))]
 refine st 2 a5 (nx ?_)
 refine cd h (fun h => ?_) fun h => ?_
 refine so ?_
 let a6 : St := a5.p [(12, (.ptr 1000000 0))]
 refine st 1 a6 (callg_step ⟨[(1000000, 1000000)], [], [], [], [], [], [], [], []⟩ (m := sL1Below y1.2 1000000) (S' := fun (y : Int × GL1Cur) => ⟨(13, (vI y.1)) :: a6.env, [(1000000, bGL1Cur y.2)]⟩) h (OK_sL1Below y1.2 1000000) (by kernel_rfl) (by kernel_rfl) (by kernel_rfl) (by kernel_rfl) (fun y => by kernel_rfl) (fun y => by kernel_rfl) ?_)
 clear h; intro y3 h
 let a7 : St := ⟨(2, (vI (IntKind.wrap .i64 (y3.1 - 500000)))) :: (14, (vI (IntKind.wrap .i64 (y3.1 - 500000)))) :: (13, (vI y3.1)) :: a6.env, [(1000000, bGL1Cur y3.2)]⟩
 refine st 2 a7 (nx (ri (br (tr ?_))))
 injection h with h; subst h
 exact ret1_step (v := (vI (IntKind.wrap .i64 (y3.1 - 500000)))) (by kernel_rfl) (by kernel_rfl) ⟨by kernel_rfl, by kernel_rfl, trivial⟩
 refine ki (bn (xi (so ?_)))
 let a8 : St := a5.p [(15, (.ptr 1000000 0))]
 refine st 1 a8 (callg_step ⟨[(1000000, 1000000)], [], [], [], [], [], [], [], []⟩ (m := sL1Below y1.2 20) (S' := fun (y : Int × GL1Cur) => ⟨(16, (vI y.1)) :: a8.env, [(1000000, bGL1Cur y.2)]⟩) h (OK_sL1Below y1.2 20) (by kernel_rfl) (by kernel_rfl) (by kernel_rfl) (by kernel_rfl) (fun y => by kernel_rfl) (fun y => by kernel_rfl) ?_)
 clear h; intro y4 h
 let a9 : St := ⟨(2, (vI y4.1)) :: (16, (vI y4.1)) :: a8.env, [(1000000, bGL1Cur y4.2)]⟩
 refine st 1 a9 (nx (ri ?_))
 injection h with h; subst h
 exact ret1_step (v := (vI y4.1)) (by kernel_rfl) (by kernel_rfl) ⟨by kernel_rfl, by kernel_rfl, trivial⟩
theorem OK_sL5Bent_J0 (b3_0 : Int) (b3_1 : Int) (b3_2 : (List UInt8)) (b1000000_0 : (List Int)) (b1000000_1 : Int) (b1000000_2 : Int) (r : GValue × GL1Cur) (h : sL5Bent_J0 b3_0 b3_1 b3_2 b1000000_0 b1000000_1 b1000000_2 = some r) : avc Try.prog acsL5Bent_J0 (qsL5Bent r) (stsL5Bent_J0 b3_0 b3_1 b3_2 b1000000_0 b1000000_1 b1000000_2) := by
 rw [sL5Bent_J0] at h
 delta acsL5Bent_J0
 refine so ?_
 let a13 : St := ⟨(40, (vGValue (GValue.mk b3_0 b3_1 b3_2))) :: (stsL5Bent_J0 b3_0 b3_1 b3_2 b1000000_0 b1000000_1 b1000000_2).env, [(2, bGValue (GValue.mk b3_0 b3_1 b3_2)), (3, bGValue (GValue.mk b3_0 b3_1 b3_2)), (1000000, bGL1Cur (GL1Cur.mk b1000000_0 b1000000_1 b1000000_2))]⟩
 refine st 2 a13 (nx (ri ?_))
 injection h with h; subst h
 exact ret1_step (v := (vGValue (GValue.mk b3_0 b3_1 b3_2))) (by kernel_rfl) (by kernel_rfl) ⟨by kernel_rfl, by kernel_rfl, trivial⟩
theorem OKs_sL5Bent_L1 (y1 : GValue × GL1Cur) : (∀ (b3_2_6 : (List UInt8)) (b1000000_0_7 : (List Int)) (b1000000_1_8 : Int) (b1000000_2_9 : Int) (r : GValue × GL1Cur), sL5Bent_L1 y1 b3_2_6 b1000000_0_7 b1000000_1_8 b1000000_2_9 = some r → avc Try.prog acsL5Bent_L1 (qsL5Bent_2 r) (stsL5Bent_L1 y1 b3_2_6 b1000000_0_7 b1000000_1_8 b1000000_2_9)) := by
 refine sL5Bent_L1.partial_correctness y1 (fun b3_2_6 b1000000_0_7 b1000000_1_8 b1000000_2_9 r => avc Try.prog acsL5Bent_L1 (qsL5Bent_2 r) (stsL5Bent_L1 y1 b3_2_6 b1000000_0_7 b1000000_1_8 b1000000_2_9)) ?_
 · intro F_sL5Bent_L1 OK_sL5Bent_L1 b3_2_6 b1000000_0_7 b1000000_1_8 b1000000_2_9 r h
   delta acsL5Bent_L1
   refine loop_unroll (si (so ?_))
   let a14 : St := (stsL5Bent_L1 y1 b3_2_6 b1000000_0_7 b1000000_1_8 b1000000_2_9).p [(25, (.ptr 1000000 0))]
   refine st 1 a14 ?_
   refine callg_step ⟨[(1000000, 1000000)], [], [], [], [], [], [], [], []⟩ (m := sL1Once (GL1Cur.mk b1000000_0_7 b1000000_1_8 b1000000_2_9) 2) (S' := fun (y : Bool × GL1Cur) => ⟨(26, (vB y.1)) :: a14.env, [(2, [(vI 0), (vI 0), (vS [])]), (3, bGValue (GValue.mk y1.1.kind y1.1.num b3_2_6)), (1000000, bGL1Cur y.2)]⟩) h (OK_sL1Once (GL1Cur.mk b1000000_0_7 b1000000_1_8 b1000000_2_9) 2) (by kernel_rfl) (by kernel_rfl) (by kernel_rfl) (by kernel_rfl) (fun y => by kernel_rfl) (fun y => by kernel_rfl) ?_
   clear h; intro y10 h
   let a15 : St := ⟨(27, (vB y10.1)) :: (26, (vB y10.1)) :: a14.env, [(2, [(vI 0), (vI 0), (vS [])]), (3, bGValue (GValue.mk y1.1.kind y1.1.num b3_2_6)), (1000000, bGL1Cur y10.2)]⟩
   refine st 1 a15 (gp true y10.1 (.ptr 3 2) (fun hc => vl) (gp true y10.1 (vS b3_2_6) (fun hc => vg hc) (gp true y10.1 (vI (ln b3_2_6)) (fun hc => vg hc) (gp true y10.1 (vB (decide ((ln b3_2_6) < 400))) (fun hc => vg hc) ?_))))
   refine vs (fun (y : Bool) => (vB y)) h (fun y hy => vop_pickV hy (p := (true && (y10.1 == true))) (q := true) (by kernel_rfl) (by kernel_rfl) (by kernel_rfl) (by kernel_rfl) (fun hb => gc_t rfl hb) (fun _ => rfl)) fun y11 h => (nx ?_)
   refine cd h (fun h => ?_) fun h => ?_
   refine ki (xi (bi (oi ?_)))
   let a16 : St := a15.p [(36, (vS b3_2_6)), (35, (.ptr 3 2)), (34, (vS b3_2_6)), (33, (.ptr 3 2)), (32, (vB y11)), (31, (.ite (true && (y10.1 == true)) (vB (decide ((ln b3_2_6) < 400))))), (30, (.ite (true && (y10.1 == true)) (vI (ln b3_2_6)))), (29, (.ite (true && (y10.1 == true)) (vS b3_2_6))), (28, (.ite (true && (y10.1 == true)) (.ptr 3 2)))]
   refine st 4 a16 (vs (fun (y : (List UInt8)) => (vS y)) h (fun y hy => vop_cat (a := b3_2_6) (b := b3_2_6) hy (by kernel_rfl) (by kernel_rfl) (by kernel_rfl)) fun y12 h => (vs (fun (y : (List UInt8)) => (vS y)) h (fun y hy => vop_cat (a := y12) (b := [48, 49, 50, 51, 52, 53, 54, 55, 56, 57]) hy (by kernel_rfl) (by kernel_rfl) (by kernel_rfl)) fun y13 h => ?_))
   let a17 : St := ⟨(39, (.ptr 3 2)) :: (38, (vS y13)) :: (37, (vS y12)) :: a16.env, [(2, [(vI 0), (vI 0), (vS [])]), (3, bGValue (GValue.mk y1.1.kind y1.1.num y13)), (1000000, bGL1Cur y10.2)]⟩
   exact st 2 a17 (ni (bn (loop_back (s' := stsL5Bent_L1 y1 y13 y10.2.b y10.2.i y10.2.h) (wr [] (es (es (es er_nil))) (bs_ (bs_ (bs_ br_nil)))) (OK_sL5Bent_L1 y13 y10.2.b y10.2.i y10.2.h _ h))))
   exact ei (te (te (bh (bn (next_step (s' := stsL5Bent_J0 y1.1.kind y1.1.num b3_2_6 y10.2.b y10.2.i y10.2.h) (wr [] (es (es er_nil)) (bs_ (bs_ (bs_ br_nil)))) (OK_sL5Bent_J0 y1.1.kind y1.1.num b3_2_6 y10.2.b y10.2.i y10.2.h _ h))))))
theorem OK_sL5Bent_L1 (y1 : GValue × GL1Cur) (b3_2_6 : (List UInt8)) (b1000000_0_7 : (List Int)) (b1000000_1_8 : Int) (b1000000_2_9 : Int) (r : GValue × GL1Cur) (h : sL5Bent_L1 y1 b3_2_6 b1000000_0_7 b1000000_1_8 b1000000_2_9 = some r) : avc Try.prog acsL5Bent_L1 (qsL5Bent_2 r) (stsL5Bent_L1 y1 b3_2_6 b1000000_0_7 b1000000_1_8 b1000000_2_9) := (OKs_sL5Bent_L1 y1) b3_2_6 b1000000_0_7 b1000000_1_8 b1000000_2_9 r h
theorem OK_sBoolValue (p0 : Bool) : FOk Try.prog 203 [(vB p0)] (fun y => (vGValue y)) (sBoolValue p0) := by
 intro r h
 rw [sBoolValue] at h
 refine aof trsBoolValue ?_
 show avc Try.prog acsBoolValue (qsBoolValue _) ⟨[(0, (vB p0))], []⟩
 delta acsBoolValue
 refine so ?_
 let a0 : St := ⟨[(2, (.ptr 2 0)), (0, (vB p0))], [(2, [(vI 0), (vI 0), (vS [])])]⟩
 refine st 1 a0 (nx (si (so ?_)))
 let a1 : St := a0.p [(3, (vB p0))]
 refine st 1 a1 (nx ?_)
 refine cd h (fun h => ?_) fun h => ?_
 refine so ?_
 let a2 : St := ⟨(4, (vGValue (GValue.mk 3 1 []))) :: a1.env, [(2, bGValue (GValue.mk 3 1 []))]⟩
 refine st 2 a2 (nx (ri (tr ?_)))
 injection h with h; subst h
 exact r1 (v := (vGValue (GValue.mk 3 1 [])))
 refine ki (xi (so ?_))
 let a3 : St := ⟨(5, (vGValue (GValue.mk 3 0 []))) :: a1.env, [(2, bGValue (GValue.mk 3 0 []))]⟩
 refine st 2 a3 (nx (ri ?_))
 injection h with h; subst h
 exact r1 (v := (vGValue (GValue.mk 3 0 [])))
theorem OK_sIntValue (p0 : Int) : FOk Try.prog 204 [(vI p0)] (fun y => (vGValue y)) (sIntValue p0) := by
 intro r h
 rw [sIntValue] at h
 refine aof trsIntValue ?_
 show avc Try.prog acsIntValue (qsIntValue _) ⟨[(0, (vI p0))], []⟩
 delta acsIntValue
 refine so ?_
 let a0 : St := ⟨[(2, (.ptr 2 0)), (0, (vI p0))], [(2, [(vI 0), (vI 0), (vS [])])]⟩
 refine st 1 a0 (nx (so ?_))
 let a1 : St := ⟨(4, (vGValue (GValue.mk 1 p0 []))) :: (3, (vI p0)) :: a0.env, [(2, bGValue (GValue.mk 1 p0 []))]⟩
 refine st 3 a1 (nx (ri ?_))
 injection h with h; subst h
 exact r1 (v := (vGValue (GValue.mk 1 p0 [])))
theorem OK_sTextValue (p0 : (List UInt8)) : FOk Try.prog 202 [(vS p0)] (fun y => (vGValue y)) (sTextValue p0) := by
 intro r h
 rw [sTextValue] at h
 refine aof trsTextValue ?_
 show avc Try.prog acsTextValue (qsTextValue _) ⟨[(0, (vS p0))], []⟩
 delta acsTextValue
 refine so ?_
 let a0 : St := ⟨[(2, (.ptr 2 0)), (0, (vS p0))], [(2, [(vI 0), (vI 0), (vS [])])]⟩
 refine st 1 a0 (nx (so ?_))
 let a1 : St := ⟨(4, (vGValue (GValue.mk 2 0 p0))) :: (3, (vS p0)) :: a0.env, [(2, bGValue (GValue.mk 2 0 p0))]⟩
 refine st 3 a1 (nx (ri ?_))
 injection h with h; subst h
 exact r1 (v := (vGValue (GValue.mk 2 0 p0)))
theorem OK_sL5Right (p0 : GL1Cur) : FOkB Try.prog 191 [(.ptr 1000000 0)] [(1000000, bGL1Cur p0)] (fun (y : GValue × GL1Cur) => (vGValue y.1)) (fun (y : GValue × GL1Cur) => [(1000000, bGL1Cur y.2)]) (sL5Right p0) := by
 intro r h
 rw [sL5Right] at h
 refine acalls_of_fn trsL5Right (Nat.le_of_ble_eq_true rfl) (by intro n hn; simp at hn; simp only [NX]; omega) ?_
 show avc Try.prog acsL5Right (qsL5Right _) ⟨[(0, (.ptr 1000000 0))], [(1000000, bGL1Cur p0)]⟩
 delta acsL5Right
 refine so ?_
 let a0 : St := ⟨[(2, (.ptr 2 0)), (0, (.ptr 1000000 0))], [(2, [(vI 0), (vI 0), (vS [])]), (1000000, bGL1Cur p0)]⟩
 refine st 1 a0 (nx (si (so ?_)))
 let a1 : St := a0.p [(3, (.ptr 1000000 0))]
 refine st 1 a1 (callg_step ⟨[(1000000, 1000000)], [], [], [], [], [], [], [], []⟩ (m := sL1Below p0 6) (S' := fun (y : Int × GL1Cur) => ⟨(4, (vI y.1)) :: a1.env, [(2, [(vI 0), (vI 0), (vS [])]), (1000000, bGL1Cur y.2)]⟩) h (OK_sL1Below p0 6) (by kernel_rfl) (by kernel_rfl) (by kernel_rfl) (by kernel_rfl) (fun y => by kernel_rfl) (fun y => by kernel_rfl) ?_)
 clear h; intro y1 h
 refine nx (bi (so ?_))
 let a2 : St := ⟨(5, (vB (decide (y1.1 = 0)))) :: (6, (vB (decide (y1.1 = 0)))) :: (4, (vI y1.1)) :: a1.env, [(2, [(vI 0), (vI 0), (vS [])]), (1000000, bGL1Cur y1.2)]⟩
 refine st 2 a2 (nx ?_)
 refine cd h (fun h => ?_) fun h => ?_
 refine so ?_
 let a3 : St := ⟨(7, (vGValue (GValue.mk 0 0 []))) :: a2.env, [(2, bGValue (GValue.mk 0 0 [])), (1000000, bGL1Cur y1.2)]⟩
 refine st 2 a3 (nx (ri (br (tr ?_))))
 injection h with h; subst h
 exact ret1_step (v := (vGValue (GValue.mk 0 0 []))) (by kernel_rfl) (by kernel_rfl) ⟨by kernel_rfl, by kernel_rfl, trivial⟩
 refine so ?_
 let a4 : St := a2.p [(8, (vB (decide (y1.1 = 1)))), (9, (vB (decide (y1.1 = 1))))]
 refine st 2 a4 (nx ?_)
 refine cd h (fun h => ?_) fun h => ?_
 refine so ?_
 let a5 : St := a4.p [(10, (.ptr 1000000 0))]
 refine st 1 a5 (bsl_step (l := ([[], [97], [98], [105, 116, 39, 115], [97, 98], [255]] : List (List UInt8))) (f := cStr) (g := cStr) (by kernel_rfl) (fun _ => rfl) (by kernel_rfl) ?_)
 refine callg_step ⟨[(1000000, 1000000)], [], [], [], [], [], [], [], []⟩ (m := sL1Pick y1.2 ([[], [97], [98], [105, 116, 39, 115], [97, 98], [255]] : List (List UInt8))) (S' := fun (y : (List UInt8) × GL1Cur) => ⟨(12, (vS y.1)) :: (11, (.osl 11 9 1 (([[], [97], [98], [105, 116, 39, 115], [97, 98], [255]] : List (List UInt8)).map cStr))) :: a5.env, [(2, [(vI 0), (vI 0), (vS [])]), (1000000, bGL1Cur y.2)]⟩) h (OK_sL1Pick y1.2 ([[], [97], [98], [105, 116, 39, 115], [97, 98], [255]] : List (List UInt8))) (by kernel_rfl) (by kernel_rfl) (by kernel_rfl) (by kernel_rfl) (fun y => by kernel_rfl) (fun y => by kernel_rfl) ?_
 clear h; intro y2 h
 refine cs h (OK_sTextValue y2.1) fun y3 h => ?_
 let a6 : St := ⟨(13, (vGValue y3)) :: (12, (vS y2.1)) :: (11, (.osl 11 9 1 (([[], [97], [98], [105, 116, 39, 115], [97, 98], [255]] : List (List UInt8)).map cStr))) :: a5.env, [(2, bGValue y3), (1000000, bGL1Cur y2.2)]⟩
 refine st 1 a6 (nx (ri (br (tr ?_))))
 injection h with h; subst h
 exact ret1_step (v := (vGValue y3)) (by kernel_rfl) (by kernel_rfl) ⟨by kernel_rfl, by kernel_rfl, trivial⟩
 refine so ?_
 let a7 : St := a4.p [(14, (vB (decide (y1.1 = 2)))), (15, (vB (decide (y1.1 = 2))))]
 refine st 2 a7 (nx ?_)
 refine cd h (fun h => ?_) fun h => ?_
 refine so ?_
 let a8 : St := a7.p [(16, (.ptr 1000000 0))]
 refine st 1 a8 (callg_step ⟨[(1000000, 1000000)], [], [], [], [], [], [], [], []⟩ (m := sL1Once y1.2 2) (S' := fun (y : Bool × GL1Cur) => ⟨(17, (vB y.1)) :: a8.env, [(2, [(vI 0), (vI 0), (vS [])]), (1000000, bGL1Cur y.2)]⟩) h (OK_sL1Once y1.2 2) (by kernel_rfl) (by kernel_rfl) (by kernel_rfl) (by kernel_rfl) (fun y => by kernel_rfl) (fun y => by kernel_rfl) ?_)
 clear h; intro y4 h
 refine cs h (OK_sBoolValue y4.1) fun y5 h => ?_
 let a9 : St := ⟨(18, (vGValue y5)) :: (17, (vB y4.1)) :: a8.env, [(2, bGValue y5), (1000000, bGL1Cur y4.2)]⟩
 refine st 1 a9 (nx (ri (br (tr ?_))))
 injection h with h; subst h
 exact ret1_step (v := (vGValue y5)) (by kernel_rfl) (by kernel_rfl) ⟨by kernel_rfl, by kernel_rfl, trivial⟩
 refine so ?_
 let a10 : St := a7.p [(19, (vB (decide (y1.1 = 3)))), (20, (vB (decide (y1.1 = 3))))]
 refine st 2 a10 (nx ?_)
 refine cd h (fun h => ?_) fun h => ?_
 refine so ?_
 let a11 : St := a10.p [(21, (.ptr 1000000 0))]
 refine st 1 a11 (callg_step ⟨[(1000000, 1000000)], [], [], [], [], [], [], [], []⟩ (m := sL1Whole y1.2) (S' := fun (y : Int × GL1Cur) => ⟨(22, (vI y.1)) :: a11.env, [(2, [(vI 0), (vI 0), (vS [])]), (1000000, bGL1Cur y.2)]⟩) h (OK_sL1Whole y1.2) (by kernel_rfl) (by kernel_rfl) (by kernel_rfl) (by kernel_rfl) (fun y => by kernel_rfl) (fun y => by kernel_rfl) ?_)
 clear h; intro y6 h
 refine cs h (OK_sIntValue y6.1) fun y7 h => ?_
 let a12 : St := ⟨(23, (vGValue y7)) :: (22, (vI y6.1)) :: a11.env, [(2, bGValue y7), (1000000, bGL1Cur y6.2)]⟩
 refine st 1 a12 (nx (ri (br (tr ?_))))
 injection h with h; subst h
 exact ret1_step (v := (vGValue y7)) (by kernel_rfl) (by kernel_rfl) ⟨by kernel_rfl, by kernel_rfl, trivial⟩
 refine ki (bn (xi (so ?_)))
 let a13 : St := a10.p [(24, (.ptr 1000000 0))]
 refine st 1 a13 (callg_step ⟨[(1000000, 1000000)], [], [], [], [], [], [], [], []⟩ (m := sL1Below y1.2 7) (S' := fun (y : Int × GL1Cur) => ⟨(25, (vI y.1)) :: a13.env, [(2, [(vI 0), (vI 0), (vS [])]), (1000000, bGL1Cur y.2)]⟩) h (OK_sL1Below y1.2 7) (by kernel_rfl) (by kernel_rfl) (by kernel_rfl) (by kernel_rfl) (fun y => by kernel_rfl) (fun y => by kernel_rfl) ?_)
 clear h; intro y8 h
 let a14 : St := ⟨(26, (vI (IntKind.wrap .i64 (y8.1 - 2)))) :: (25, (vI y8.1)) :: a13.env, [(2, [(vI 0), (vI 0), (vS [])]), (1000000, bGL1Cur y8.2)]⟩
 refine st 1 a14 (cs h (OK_sIntValue (IntKind.wrap .i64 (y8.1 - 2))) fun y9 h => ?_)
 let a15 : St := ⟨(27, (vGValue y9)) :: a14.env, [(2, bGValue y9), (1000000, bGL1Cur y8.2)]⟩
 refine st 1 a15 (nx (ri ?_))
 injection h with h; subst h
 exact ret1_step (v := (vGValue y9)) (by kernel_rfl) (by kernel_rfl) ⟨by kernel_rfl, by kernel_rfl, trivial⟩
theorem OK_sL5Bent (p0 : GL1Cur) : FOkB Try.prog 149 [(.ptr 1000000 0)] [(1000000, bGL1Cur p0)] (fun (y : GValue × GL1Cur) => (vGValue y.1)) (fun (y : GValue × GL1Cur) => [(1000000, bGL1Cur y.2)]) (sL5Bent p0) := by
 intro r h
 rw [sL5Bent] at h
 refine acalls_of_fn trsL5Bent (Nat.le_of_ble_eq_true rfl) (by intro n hn; simp at hn; simp only [NX]; omega) ?_
 show avc Try.prog acsL5Bent (qsL5Bent _) ⟨[(0, (.ptr 1000000 0))], [(1000000, bGL1Cur p0)]⟩
 delta acsL5Bent
 refine so ?_
 let a0 : St := ⟨[(2, (.ptr 2 0)), (0, (.ptr 1000000 0))], [(2, [(vI 0), (vI 0), (vS [])]), (1000000, bGL1Cur p0)]⟩
 refine st 1 a0 (nx (so ?_))
 let a1 : St := a0.p [(4, (.ptr 1000000 0))]
 refine st 1 a1 (callg_step ⟨[(1000000, 1000000)], [], [], [], [], [], [], [], []⟩ (m := sL5Right p0) (S' := fun (y : GValue × GL1Cur) => ⟨(5, (vGValue y.1)) :: a1.env, [(2, [(vI 0), (vI 0), (vS [])]), (1000000, bGL1Cur y.2)]⟩) h (OK_sL5Right p0) (by kernel_rfl) (by kernel_rfl) (by kernel_rfl) (by kernel_rfl) (fun y => by kernel_rfl) (fun y => by kernel_rfl) ?_)
 clear h; intro y1 h
 let a2 : St := ⟨(3, (.ptr 3 0)) :: (5, (vGValue y1.1)) :: a1.env, [(3, bGValue y1.1), (2, [(vI 0), (vI 0), (vS [])]), (1000000, bGL1Cur y1.2)]⟩
 refine st 2 a2 (nx (si (so ?_)))
 let a3 : St := a2.p [(6, (.ptr 1000000 0))]
 refine st 1 a3 (callg_step ⟨[(1000000, 1000000)], [], [], [], [], [], [], [], []⟩ (m := sL1Below y1.2 14) (S' := fun (y : Int × GL1Cur) => ⟨(7, (vI y.1)) :: a3.env, [(3, bGValue y1.1), (2, [(vI 0), (vI 0), (vS [])]), (1000000, bGL1Cur y.2)]⟩) h (OK_sL1Below y1.2 14) (by kernel_rfl) (by kernel_rfl) (by kernel_rfl) (by kernel_rfl) (fun y => by kernel_rfl) (fun y => by kernel_rfl) ?_)
 clear h; intro y2 h
 refine nx (bi (so ?_))
 let a4 : St := ⟨(8, (vB (decide (y2.1 = 0)))) :: (9, (vB (decide (y2.1 = 0)))) :: (7, (vI y2.1)) :: a3.env, [(3, bGValue y1.1), (2, [(vI 0), (vI 0), (vS [])]), (1000000, bGL1Cur y2.2)]⟩
 refine st 2 a4 (nx ?_)
 refine cd h (fun h => ?_) fun h => ?_
 refine oi ?_
 let a5 : St := a4.p [(10, (.ptr 1000000 0))]
 refine st 1 a5 (callg_step ⟨[(1000000, 1000000)], [], [], [], [], [], [], [], []⟩ (m := sL1Below y2.2 6) (S' := fun (y : Int × GL1Cur) => ⟨(11, (vI y.1)) :: a5.env, [(3, bGValue y1.1), (2, [(vI 0), (vI 0), (vS [])]), (1000000, bGL1Cur y.2)]⟩) h (OK_sL1Below y2.2 6) (by kernel_rfl) (by kernel_rfl) (by kernel_rfl) (by kernel_rfl) (fun y => by kernel_rfl) (fun y => by kernel_rfl) ?_)
 clear h; intro y3 h
 let a6 : St := ⟨(13, (.ptr 3 0)) :: (12, (vI (IntKind.wrap .i64 (y3.1 - 1)))) :: (11, (vI y3.1)) :: a5.env, [(3, bGValue (GValue.mk (IntKind.wrap .i64 (y3.1 - 1)) y1.1.num y1.1.text)), (2, [(vI 0), (vI 0), (vS [])]), (1000000, bGL1Cur y3.2)]⟩
 exact st 3 a6 (ni (bn (next_step (s' := stsL5Bent_J0 (IntKind.wrap .i64 (y3.1 - 1)) y1.1.num y1.1.text y3.2.b y3.2.i y3.2.h) (wr [] (es (es er_nil)) (bs_ (bs_ (bs_ br_nil)))) (OK_sL5Bent_J0 (IntKind.wrap .i64 (y3.1 - 1)) y1.1.num y1.1.text y3.2.b y3.2.i y3.2.h _ h))))
 refine so ?_
 let a7 : St := a4.p [(14, (vB (decide (y2.1 = 1)))), (15, (vB (decide (y2.1 = 1))))]
 refine st 2 a7 (nx ?_)
 refine cd h (fun h => ?_) fun h => ?_
 refine oi ?_
 let a8 : St := a7.p [(16, (.ptr 1000000 0))]
 refine st 1 a8 (callg_step ⟨[(1000000, 1000000)], [], [], [], [], [], [], [], []⟩ (m := sL1Whole y2.2) (S' := fun (y : Int × GL1Cur) => ⟨(17, (vI y.1)) :: a8.env, [(3, bGValue y1.1), (2, [(vI 0), (vI 0), (vS [])]), (1000000, bGL1Cur y.2)]⟩) h (OK_sL1Whole y2.2) (by kernel_rfl) (by kernel_rfl) (by kernel_rfl) (by kernel_rfl) (fun y => by kernel_rfl) (fun y => by kernel_rfl) ?_)
 clear h; intro y4 h
 let a9 : St := ⟨(18, (.ptr 3 1)) :: (17, (vI y4.1)) :: a8.env, [(3, bGValue (GValue.mk y1.1.kind y4.1 y1.1.text)), (2, [(vI 0), (vI 0), (vS [])]), (1000000, bGL1Cur y4.2)]⟩
 exact st 2 a9 (ni (bn (next_step (s' := stsL5Bent_J0 y1.1.kind y4.1 y1.1.text y4.2.b y4.2.i y4.2.h) (wr [] (es (es er_nil)) (bs_ (bs_ (bs_ br_nil)))) (OK_sL5Bent_J0 y1.1.kind y4.1 y1.1.text y4.2.b y4.2.i y4.2.h _ h))))
 refine so ?_
 let a10 : St := a7.p [(19, (vB (decide (y2.1 = 2)))), (20, (vB (decide (y2.1 = 2))))]
 refine st 2 a10 (nx ?_)
 refine cd h (fun h => ?_) fun h => ?_
 refine so ?_
 let a11 : St := a10.p [(21, (.ptr 1000000 0))]
 refine st 1 a11 (bsl_step (l := ([[120], [], [108, 111, 110, 103]] : List (List UInt8))) (f := cStr) (g := cStr) (by kernel_rfl) (fun _ => rfl) (by kernel_rfl) ?_)
 refine callg_step ⟨[(1000000, 1000000)], [], [], [], [], [], [], [], []⟩ (m := sL1Pick y2.2 ([[120], [], [108, 111, 110, 103]] : List (List UInt8))) (S' := fun (y : (List UInt8) × GL1Cur) => ⟨(23, (vS y.1)) :: (22, (.osl 22 9 1 (([[120], [], [108, 111, 110, 103]] : List (List UInt8)).map cStr))) :: a11.env, [(3, bGValue y1.1), (2, [(vI 0), (vI 0), (vS [])]), (1000000, bGL1Cur y.2)]⟩) h (OK_sL1Pick y2.2 ([[120], [], [108, 111, 110, 103]] : List (List UInt8))) (by kernel_rfl) (by kernel_rfl) (by kernel_rfl) (by kernel_rfl) (fun y => by kernel_rfl) (fun y => by kernel_rfl) ?_
 clear h; intro y5 h
 let a12 : St := ⟨(24, (.ptr 3 2)) :: (23, (vS y5.1)) :: (22, (.osl 22 9 1 (([[120], [], [108, 111, 110, 103]] : List (List UInt8)).map cStr))) :: a11.env, [(3, bGValue (GValue.mk y1.1.kind y1.1.num y5.1)), (2, [(vI 0), (vI 0), (vS [])]), (1000000, bGL1Cur y5.2)]⟩
 exact st 2 a12 (nx (bi (loop_go (s' := stsL5Bent_L1 y1 y5.1 y5.2.b y5.2.i y5.2.h) (wr [] (es (es (es er_nil))) (bs_ (bs_ (bs_ br_nil)))) (OK_sL5Bent_L1 y1 y5.1 y5.2.b y5.2.i y5.2.h _ h))))
 exact ki (bn (next_step (s' := stsL5Bent_J0 y1.1.kind y1.1.num y1.1.text y2.2.b y2.2.i y2.2.h) (wr [] (es (es er_nil)) (bs_ (bs_ (bs_ br_nil)))) (OK_sL5Bent_J0 y1.1.kind y1.1.num y1.1.text y2.2.b y2.2.i y2.2.h _ h)))
theorem OK_sL7Bent_X_J0 (b3_0 : Int) (b3_1 : Int) (b3_2 : Bool) (b3_3 : Int) (b3_4 : Int) (b3_5 : (List UInt8)) (b3_6 : (List UInt8)) (b3_7 : (List UInt8)) (b1000000_0 : (List Int)) (b1000000_1 : Int) (b1000000_2 : Int) (b60135000_0 : (List GExpr)) (b60135001_0 : (List GQuery)) (r : GExpr × GL1Cur) (h : sL7Bent_X_J0 b3_0 b3_1 b3_2 b3_3 b3_4 b3_5 b3_6 b3_7 b1000000_0 b1000000_1 b1000000_2 b60135000_0 b60135001_0 = some r) : avc Try.prog acsL7Bent_X_J0 (qsL7Bent_X r) (stsL7Bent_X_J0 b3_0 b3_1 b3_2 b3_3 b3_4 b3_5 b3_6 b3_7 b1000000_0 b1000000_1 b1000000_2 b60135000_0 b60135001_0) := by
 rw [sL7Bent_X_J0] at h
 delta acsL7Bent_X_J0
 refine so ?_
 let a30 : St := ⟨(81, (.agv [(vI b3_0), (vI b3_1), (vB b3_2), (vI b3_3), (vI b3_4), (vS b3_5), (vS b3_6), (vS b3_7), (.tre 60135000), (.tre 60135001)])) :: (stsL7Bent_X_J0 b3_0 b3_1 b3_2 b3_3 b3_4 b3_5 b3_6 b3_7 b1000000_0 b1000000_1 b1000000_2 b60135000_0 b60135001_0).env, [(3, [(vI b3_0), (vI b3_1), (vB b3_2), (vI b3_3), (vI b3_4), (vS b3_5), (vS b3_6), (vS b3_7), (.tre 60135000), (.tre 60135001)]), (4, [(vI b3_0), (vI b3_1), (vB b3_2), (vI b3_3), (vI b3_4), (vS b3_5), (vS b3_6), (vS b3_7), (.tre 60135000), (.tre 60135001)]), (1000000, bGL1Cur (GL1Cur.mk b1000000_0 b1000000_1 b1000000_2)), (60135000, [(.trc 10 (b60135000_0.map cGExpr))]), (60135001, [(.trc 6 (b60135001_0.map cGQuery))])]⟩
 refine st 2 a30 (nx ?_)
 refine ret_wk (s' := ⟨[(4, (.ptr 4 0))], [(4, [(vI b3_0), (vI b3_1), (vB b3_2), (vI b3_3), (vI b3_4), (vS b3_5), (vS b3_6), (vS b3_7), (.tre 10000008), (.tre 10000009)]), (1000000, bGL1Cur (GL1Cur.mk b1000000_0 b1000000_1 b1000000_2)), (3001009, [.trd]), (3001008, [.trd]), (10000008, [(.trc 10 (b60135000_0.map cGExpr))]), (10000009, [(.trc 6 (b60135001_0.map cGQuery))])]⟩) (tw [.rn [(60135000, 10000008), (60135001, 10000009)], .kl 3001008, .kl 3001009] (wr [] (es er_nil) (br_cons (c0 := [(vI b3_0), (vI b3_1), (vB b3_2), (vI b3_3), (vI b3_4), (vS b3_5), (vS b3_6), (vS b3_7), (.tre 10000008), (.tre 10000009)]) (by kernel_rfl) (vrs_cons (vr_same (by kernel_rfl) (by kernel_rfl)) (vrs_cons (vr_same (by kernel_rfl) (by kernel_rfl)) (vrs_cons (vr_same (by kernel_rfl) (by kernel_rfl)) (vrs_cons (vr_same (by kernel_rfl) (by kernel_rfl)) (vrs_cons (vr_same (by kernel_rfl) (by kernel_rfl)) (vrs_cons (vr_same (by kernel_rfl) (by kernel_rfl)) (vrs_cons (vr_same (by kernel_rfl) (by kernel_rfl)) (vrs_cons (vr_same (by kernel_rfl) (by kernel_rfl)) (vrs_cons (vr_same (by kernel_rfl) (by kernel_rfl)) (vrs_cons (vr_same (by kernel_rfl) (by kernel_rfl)) (vrs_nil))))))))))) (br_cons (c0 := [(.d (.sl 1 (b1000000_0.map cU8))), (vI b1000000_1), (vI b1000000_2)]) (by kernel_rfl) (vrs_cons (vr_same (by kernel_rfl) (by kernel_rfl)) (vrs_cons (vr_same (by kernel_rfl) (by kernel_rfl)) (vrs_cons (vr_same (by kernel_rfl) (by kernel_rfl)) (vrs_nil)))) (bs_ (bs_ (bs_ (bs_ br_nil)))))))) ?_
 injection h with h; subst h
 exact ret1_step (v := (.agv [(vI b3_0), (vI b3_1), (vB b3_2), (vI b3_3), (vI b3_4), (vS b3_5), (vS b3_6), (vS b3_7), (.tre 10000008), (.tre 10000009)])) (by kernel_rfl) (by kernel_rfl) ⟨by kernel_rfl, by kernel_rfl, by kernel_rfl, by kernel_rfl, by kernel_rfl, by kernel_rfl, trivial⟩
theorem OK_sL7Col_X_J1 (b3_6 : (List UInt8)) (b3_7 : (List UInt8)) (b1000000_0_6 : (List Int)) (b1000000_1_7 : Int) (b1000000_2_8 : Int) (r : GExpr × GL1Cur) (h : sL7Col_X_J1 b3_6 b3_7 b1000000_0_6 b1000000_1_7 b1000000_2_8 = some r) : avc Try.prog acsL7Col_X_J1 (qsL7Col_X r) (stsL7Col_X_J1 b3_6 b3_7 b1000000_0_6 b1000000_1_7 b1000000_2_8) := by
 rw [sL7Col_X_J1] at h
 delta acsL7Col_X_J1
 refine so ?_
 let a9 : St := ⟨(19, (.agv [(vI 2), (vI 0), (vB false), (vI 0), (vI 0), (vS []), (vS b3_6), (vS b3_7), (.nil 10), (.nil 6)])) :: (stsL7Col_X_J1 b3_6 b3_7 b1000000_0_6 b1000000_1_7 b1000000_2_8).env, [(2, [(vI 2), (vI 0), (vB false), (vI 0), (vI 0), (vS []), (vS b3_6), (vS b3_7), (.nil 10), (.nil 6)]), (3, [(vI 2), (vI 0), (vB false), (vI 0), (vI 0), (vS []), (vS b3_6), (vS b3_7), (.nil 10), (.nil 6)]), (1000000, bGL1Cur (GL1Cur.mk b1000000_0_6 b1000000_1_7 b1000000_2_8))]⟩
 refine st 2 a9 (nx ?_)
 refine ret_wk (s' := ⟨[(2, (.ptr 2 0))], [(2, [(vI 2), (vI 0), (vB false), (vI 0), (vI 0), (vS []), (vS b3_6), (vS b3_7), (.tre 10000008), (.tre 10000009)]), (1000000, bGL1Cur (GL1Cur.mk b1000000_0_6 b1000000_1_7 b1000000_2_8)), (10000009, [(.trc 6 (([] : List GQuery).map cGQuery))]), (10000008, [(.trc 10 (([] : List GExpr).map cGExpr))])]⟩) (tw [.nb 2 8 10000008, .nb 2 9 10000009] (wr [] (es er_nil) (br_cons (c0 := [(vI 2), (vI 0), (vB false), (vI 0), (vI 0), (vS []), (vS b3_6), (vS b3_7), (.tre 10000008), (.tre 10000009)]) (by kernel_rfl) (vrs_cons (vr_same (by kernel_rfl) (by kernel_rfl)) (vrs_cons (vr_same (by kernel_rfl) (by kernel_rfl)) (vrs_cons (vr_same (by kernel_rfl) (by kernel_rfl)) (vrs_cons (vr_same (by kernel_rfl) (by kernel_rfl)) (vrs_cons (vr_same (by kernel_rfl) (by kernel_rfl)) (vrs_cons (vr_same (by kernel_rfl) (by kernel_rfl)) (vrs_cons (vr_same (by kernel_rfl) (by kernel_rfl)) (vrs_cons (vr_same (by kernel_rfl) (by kernel_rfl)) (vrs_cons (vr_same (by kernel_rfl) (by kernel_rfl)) (vrs_cons (vr_same (by kernel_rfl) (by kernel_rfl)) (vrs_nil))))))))))) (br_cons (c0 := [(.d (.sl 1 (b1000000_0_6.map cU8))), (vI b1000000_1_7), (vI b1000000_2_8)]) (by kernel_rfl) (vrs_cons (vr_same (by kernel_rfl) (by kernel_rfl)) (vrs_cons (vr_same (by kernel_rfl) (by kernel_rfl)) (vrs_cons (vr_same (by kernel_rfl) (by kernel_rfl)) (vrs_nil)))) (bs_ (bs_ br_nil)))))) ?_
 injection h with h; subst h
 exact ret1_step (v := (.agv [(vI 2), (vI 0), (vB false), (vI 0), (vI 0), (vS []), (vS b3_6), (vS b3_7), (.tre 10000008), (.tre 10000009)])) (by kernel_rfl) (by kernel_rfl) ⟨by kernel_rfl, by kernel_rfl, by kernel_rfl, by kernel_rfl, trivial⟩
theorem OK_sL7Col_X_J0 (y1 : (List UInt8) × GL1Cur) (b3_6 : (List UInt8)) (b1000000_0 : (List Int)) (b1000000_1 : Int) (b1000000_2 : Int) (r : GExpr × GL1Cur) (h : sL7Col_X_J0 y1 b3_6 b1000000_0 b1000000_1 b1000000_2 = some r) : avc Try.prog acsL7Col_X_J0 (qsL7Col_X r) (stsL7Col_X_J0 y1 b3_6 b1000000_0 b1000000_1 b1000000_2) := by
 rw [sL7Col_X_J0] at h
 delta acsL7Col_X_J0
 refine si (so ?_)
 let a6 : St := (stsL7Col_X_J0 y1 b3_6 b1000000_0 b1000000_1 b1000000_2).p [(14, (.ptr 1000000 0))]
 refine st 1 a6 ?_
 refine callg_step ⟨[(1000000, 1000000)], [], [], [], [], [], [], [], []⟩ (m := sL1Once (GL1Cur.mk b1000000_0 b1000000_1 b1000000_2) 12) (S' := fun (y : Bool × GL1Cur) => ⟨(15, (vB y.1)) :: a6.env, [(2, [(vI 0), (vI 0), (vB false), (vI 0), (vI 0), (vS []), (vS []), (vS []), (.nil 10), (.nil 6)]), (3, [(vI 2), (vI 0), (vB false), (vI 0), (vI 0), (vS []), (vS b3_6), (vS y1.1), (.nil 10), (.nil 6)]), (1000000, bGL1Cur y.2)]⟩) h (OK_sL1Once (GL1Cur.mk b1000000_0 b1000000_1 b1000000_2) 12) (by kernel_rfl) (by kernel_rfl) (by kernel_rfl) (by kernel_rfl) (fun y => by kernel_rfl) (fun y => by kernel_rfl) ?_
 clear h; intro y4 h
 refine nx ?_
 refine cd h (fun h => ?_) fun h => ?_
 refine oi ?_
 let a7 : St := ⟨(16, (.ptr 1000000 0)) :: (15, (vB y4.1)) :: a6.env, [(2, [(vI 0), (vI 0), (vB false), (vI 0), (vI 0), (vS []), (vS []), (vS []), (.nil 10), (.nil 6)]), (3, [(vI 2), (vI 0), (vB false), (vI 0), (vI 0), (vS []), (vS b3_6), (vS y1.1), (.nil 10), (.nil 6)]), (1000000, bGL1Cur y4.2)]⟩
 refine st 1 a7 ?_
 refine callg_step ⟨[(1000000, 1000000)], [], [], [], [], [], [], [], []⟩ (m := sL2Name y4.2) (S' := fun (y : (List UInt8) × GL1Cur) => ⟨(17, (vS y.1)) :: a7.env, [(2, [(vI 0), (vI 0), (vB false), (vI 0), (vI 0), (vS []), (vS []), (vS []), (.nil 10), (.nil 6)]), (3, [(vI 2), (vI 0), (vB false), (vI 0), (vI 0), (vS []), (vS b3_6), (vS y1.1), (.nil 10), (.nil 6)]), (1000000, bGL1Cur y.2)]⟩) h (OK_sL2Name y4.2) (by kernel_rfl) (by kernel_rfl) (by kernel_rfl) (by kernel_rfl) (fun y => by kernel_rfl) (fun y => by kernel_rfl) ?_
 clear h; intro y5 h
 let a8 : St := ⟨(18, (.ptr 3 7)) :: (17, (vS y5.1)) :: a7.env, [(2, [(vI 0), (vI 0), (vB false), (vI 0), (vI 0), (vS []), (vS []), (vS []), (.nil 10), (.nil 6)]), (3, [(vI 2), (vI 0), (vB false), (vI 0), (vI 0), (vS []), (vS b3_6), (vS y5.1), (.nil 10), (.nil 6)]), (1000000, bGL1Cur y5.2)]⟩
 exact st 2 a8 (ni (next_step (s' := stsL7Col_X_J1 b3_6 y5.1 y5.2.b y5.2.i y5.2.h) (wr [] (es (es er_nil)) (bs_ (bs_ (bs_ br_nil)))) (OK_sL7Col_X_J1 b3_6 y5.1 y5.2.b y5.2.i y5.2.h _ h)))
 exact ki (next_step (s' := stsL7Col_X_J1 b3_6 y1.1 y4.2.b y4.2.i y4.2.h) (wr [] (es (es er_nil)) (bs_ (bs_ (bs_ br_nil)))) (OK_sL7Col_X_J1 b3_6 y1.1 y4.2.b y4.2.i y4.2.h _ h))
theorem OK_sL7Col_X (p0 : GL1Cur) : FOkB Try.prog 143 [(.ptr 1000000 0)] [(1000000, bGL1Cur p0)] (fun (y : GExpr × GL1Cur) => (.agv [(vI y.1.kind), (vI y.1.op), (vB y.1.not_), (vI y.1.value.kind), (vI y.1.value.num), (vS y.1.value.text), (vS y.1.qual), (vS y.1.name), (.tre 10000008), (.tre 10000009)])) (fun (y : GExpr × GL1Cur) => [(10000008, [(.trc 10 (y.1.kids.map cGExpr))]), (10000009, [(.trc 6 (y.1.sub.map cGQuery))]), (1000000, bGL1Cur y.2)]) (sL7Col_X p0) := by
 intro r h
 rw [sL7Col_X] at h
 refine acalls_of_fn trsL7Col_X (Nat.le_of_ble_eq_true rfl) (by intro n hn; simp at hn; simp only [NX]; omega) ?_
 show avc Try.prog acsL7Col_X (qsL7Col_X _) ⟨[(0, (.ptr 1000000 0))], [(1000000, bGL1Cur p0)]⟩
 delta acsL7Col_X
 refine so ?_
 let a0 : St := ⟨[(2, (.ptr 2 0)), (0, (.ptr 1000000 0))], [(2, [(vI 0), (vI 0), (vB false), (vI 0), (vI 0), (vS []), (vS []), (vS []), (.nil 10), (.nil 6)]), (1000000, bGL1Cur p0)]⟩
 refine st 1 a0 (nx (so ?_))
 let a1 : St := a0.p [(4, (.ptr 1000000 0))]
 refine st 1 a1 (bsl_step (l := ([[97], [98], [99], [105, 100], [110, 97, 109, 101]] : List (List UInt8))) (f := cStr) (g := cStr) (by kernel_rfl) (fun _ => rfl) (by kernel_rfl) ?_)
 refine callg_step ⟨[(1000000, 1000000)], [], [], [], [], [], [], [], []⟩ (m := sL1Pick p0 ([[97], [98], [99], [105, 100], [110, 97, 109, 101]] : List (List UInt8))) (S' := fun (y : (List UInt8) × GL1Cur) => ⟨(6, (vS y.1)) :: (5, (.osl 5 9 1 (([[97], [98], [99], [105, 100], [110, 97, 109, 101]] : List (List UInt8)).map cStr))) :: a1.env, [(2, [(vI 0), (vI 0), (vB false), (vI 0), (vI 0), (vS []), (vS []), (vS []), (.nil 10), (.nil 6)]), (1000000, bGL1Cur y.2)]⟩) h (OK_sL1Pick p0 ([[97], [98], [99], [105, 100], [110, 97, 109, 101]] : List (List UInt8))) (by kernel_rfl) (by kernel_rfl) (by kernel_rfl) (by kernel_rfl) (fun y => by kernel_rfl) (fun y => by kernel_rfl) ?_
 clear h; intro y1 h
 refine bldv_step (c := [(vI 2), (vI 0), (vB false), (vI 0), (vI 0), (vS []), (vS []), (vS y1.1), (.nil 10), (.nil 6)]) (s' := ⟨(7, (.agv [(vI 2), (vI 0), (vB false), (vI 0), (vI 0), (vS []), (vS []), (vS y1.1), (.nil 10), (.nil 6)])) :: (6, (vS y1.1)) :: (5, (.osl 5 9 1 (([[97], [98], [99], [105, 100], [110, 97, 109, 101]] : List (List UInt8)).map cStr))) :: a1.env, [(2, [(vI 0), (vI 0), (vB false), (vI 0), (vI 0), (vS []), (vS []), (vS []), (.nil 10), (.nil 6)]), (1000000, bGL1Cur y1.2)]⟩) (by kernel_rfl) (by kernel_rfl) (by kernel_rfl) ?_
 let a2 : St := ⟨(3, (.ptr 3 0)) :: (7, (.agv [(vI 2), (vI 0), (vB false), (vI 0), (vI 0), (vS []), (vS []), (vS y1.1), (.nil 10), (.nil 6)])) :: (6, (vS y1.1)) :: (5, (.osl 5 9 1 (([[97], [98], [99], [105, 100], [110, 97, 109, 101]] : List (List UInt8)).map cStr))) :: a1.env, [(3, [(vI 2), (vI 0), (vB false), (vI 0), (vI 0), (vS []), (vS []), (vS y1.1), (.nil 10), (.nil 6)]), (2, [(vI 0), (vI 0), (vB false), (vI 0), (vI 0), (vS []), (vS []), (vS []), (.nil 10), (.nil 6)]), (1000000, bGL1Cur y1.2)]⟩
 refine st 2 a2 (nx (si (so ?_)))
 let a3 : St := a2.p [(8, (.ptr 1000000 0))]
 refine st 1 a3 ?_
 refine callg_step ⟨[(1000000, 1000000)], [], [], [], [], [], [], [], []⟩ (m := sL1Once y1.2 3) (S' := fun (y : Bool × GL1Cur) => ⟨(9, (vB y.1)) :: a3.env, [(3, [(vI 2), (vI 0), (vB false), (vI 0), (vI 0), (vS []), (vS []), (vS y1.1), (.nil 10), (.nil 6)]), (2, [(vI 0), (vI 0), (vB false), (vI 0), (vI 0), (vS []), (vS []), (vS []), (.nil 10), (.nil 6)]), (1000000, bGL1Cur y.2)]⟩) h (OK_sL1Once y1.2 3) (by kernel_rfl) (by kernel_rfl) (by kernel_rfl) (by kernel_rfl) (fun y => by kernel_rfl) (fun y => by kernel_rfl) ?_
 clear h; intro y2 h
 refine nx ?_
 refine cd h (fun h => ?_) fun h => ?_
 refine oi ?_
 let a4 : St := ⟨(10, (.ptr 1000000 0)) :: (9, (vB y2.1)) :: a3.env, [(3, [(vI 2), (vI 0), (vB false), (vI 0), (vI 0), (vS []), (vS []), (vS y1.1), (.nil 10), (.nil 6)]), (2, [(vI 0), (vI 0), (vB false), (vI 0), (vI 0), (vS []), (vS []), (vS []), (.nil 10), (.nil 6)]), (1000000, bGL1Cur y2.2)]⟩
 refine st 1 a4 (bsl_step (l := ([[116], [117], [118]] : List (List UInt8))) (f := cStr) (g := cStr) (by kernel_rfl) (fun _ => rfl) (by kernel_rfl) ?_)
 refine callg_step ⟨[(1000000, 1000000)], [], [], [], [], [], [], [], []⟩ (m := sL1Pick y2.2 ([[116], [117], [118]] : List (List UInt8))) (S' := fun (y : (List UInt8) × GL1Cur) => ⟨(12, (vS y.1)) :: (11, (.osl 11 9 1 (([[116], [117], [118]] : List (List UInt8)).map cStr))) :: a4.env, [(3, [(vI 2), (vI 0), (vB false), (vI 0), (vI 0), (vS []), (vS []), (vS y1.1), (.nil 10), (.nil 6)]), (2, [(vI 0), (vI 0), (vB false), (vI 0), (vI 0), (vS []), (vS []), (vS []), (.nil 10), (.nil 6)]), (1000000, bGL1Cur y.2)]⟩) h (OK_sL1Pick y2.2 ([[116], [117], [118]] : List (List UInt8))) (by kernel_rfl) (by kernel_rfl) (by kernel_rfl) (by kernel_rfl) (fun y => by kernel_rfl) (fun y => by kernel_rfl) ?_
 clear h; intro y3 h
 let a5 : St := ⟨(13, (.ptr 3 6)) :: (12, (vS y3.1)) :: (11, (.osl 11 9 1 (([[116], [117], [118]] : List (List UInt8)).map cStr))) :: a4.env, [(3, [(vI 2), (vI 0), (vB false), (vI 0), (vI 0), (vS []), (vS y3.1), (vS y1.1), (.nil 10), (.nil 6)]), (2, [(vI 0), (vI 0), (vB false), (vI 0), (vI 0), (vS []), (vS []), (vS []), (.nil 10), (.nil 6)]), (1000000, bGL1Cur y3.2)]⟩
 exact st 2 a5 (ni (next_step (s' := stsL7Col_X_J0 y1 y3.1 y3.2.b y3.2.i y3.2.h) (wr [] (es (es (es er_nil))) (bs_ (bs_ (bs_ br_nil)))) (OK_sL7Col_X_J0 y1 y3.1 y3.2.b y3.2.i y3.2.h _ h)))
 exact ki (next_step (s' := stsL7Col_X_J0 y1 [] y2.2.b y2.2.i y2.2.h) (wr [] (es (es (es er_nil))) (bs_ (bs_ (bs_ br_nil)))) (OK_sL7Col_X_J0 y1 [] y2.2.b y2.2.i y2.2.h _ h))
theorem OKs_sL7Bent_X : (∀ (p0 : GL1Cur) (p1 : GExpr) (r : GExpr × GL1Cur), sL7Bent_X p0 p1 = some r → ACalls Try.prog 88 [(.ptr 1000000 0), (.agv [(vI p1.kind), (vI p1.op), (vB p1.not_), (vI p1.value.kind), (vI p1.value.num), (vS p1.value.text), (vS p1.qual), (vS p1.name), (.tre 3001008), (.tre 3001009)])] [(1000000, bGL1Cur p0), (3001008, [(.trc 10 (p1.kids.map cGExpr))]), (3001009, [(.trc 6 (p1.sub.map cGQuery))])] fun x b => x = (fun (y : GExpr × GL1Cur) => (.agv [(vI y.1.kind), (vI y.1.op), (vB y.1.not_), (vI y.1.value.kind), (vI y.1.value.num), (vS y.1.value.text), (vS y.1.qual), (vS y.1.name), (.tre 10000008), (.tre 10000009)])) r ∧ bxHas ((fun (y : GExpr × GL1Cur) => [(10000008, [(.trc 10 (y.1.kids.map cGExpr))]), (10000009, [(.trc 6 (y.1.sub.map cGQuery))]), (1000000, bGL1Cur y.2), (3001008, [.trd]), (3001009, [.trd])]) r) b) := by
 refine sL7Bent_X.partial_correctness (fun p0 p1 r => ACalls Try.prog 88 [(.ptr 1000000 0), (.agv [(vI p1.kind), (vI p1.op), (vB p1.not_), (vI p1.value.kind), (vI p1.value.num), (vS p1.value.text), (vS p1.qual), (vS p1.name), (.tre 3001008), (.tre 3001009)])] [(1000000, bGL1Cur p0), (3001008, [(.trc 10 (p1.kids.map cGExpr))]), (3001009, [(.trc 6 (p1.sub.map cGQuery))])] fun x b => x = (fun (y : GExpr × GL1Cur) => (.agv [(vI y.1.kind), (vI y.1.op), (vB y.1.not_), (vI y.1.value.kind), (vI y.1.value.num), (vS y.1.value.text), (vS y.1.qual), (vS y.1.name), (.tre 10000008), (.tre 10000009)])) r ∧ bxHas ((fun (y : GExpr × GL1Cur) => [(10000008, [(.trc 10 (y.1.kids.map cGExpr))]), (10000009, [(.trc 6 (y.1.sub.map cGQuery))]), (1000000, bGL1Cur y.2), (3001008, [.trd]), (3001009, [.trd])]) r) b) ?_
 · intro F_sL7Bent_X OK_sL7Bent_X p0 p1 r h
   refine acalls_of_fn trsL7Bent_X (Nat.le_of_ble_eq_true rfl) (by intro n hn; simp at hn; simp only [NX]; omega) ?_
   show avc Try.prog acsL7Bent_X (qsL7Bent_X _) ⟨[(0, (.ptr 1000000 0)), (1, (.agv [(vI p1.kind), (vI p1.op), (vB p1.not_), (vI p1.value.kind), (vI p1.value.num), (vS p1.value.text), (vS p1.qual), (vS p1.name), (.tre 3001008), (.tre 3001009)]))], [(1000000, bGL1Cur p0), (3001008, [(.trc 10 (p1.kids.map cGExpr))]), (3001009, [(.trc 6 (p1.sub.map cGQuery))])]⟩
   delta acsL7Bent_X
   refine so ?_
   let a0 : St := ⟨[(4, (.ptr 4 0)), (3, (.ptr 3 0)), (0, (.ptr 1000000 0)), (1, (.agv [(vI p1.kind), (vI p1.op), (vB p1.not_), (vI p1.value.kind), (vI p1.value.num), (vS p1.value.text), (vS p1.qual), (vS p1.name), (.tre 3001008), (.tre 3001009)]))], [(4, [(vI 0), (vI 0), (vB false), (vI 0), (vI 0), (vS []), (vS []), (vS []), (.nil 10), (.nil 6)]), (3, [(vI p1.kind), (vI p1.op), (vB p1.not_), (vI p1.value.kind), (vI p1.value.num), (vS p1.value.text), (vS p1.qual), (vS p1.name), (.tre 3001008), (.tre 3001009)]), (1000000, bGL1Cur p0), (3001008, [(.trc 10 (p1.kids.map cGExpr))]), (3001009, [(.trc 6 (p1.sub.map cGQuery))])]⟩
   refine st 2 a0 (nx (si (so ?_)))
   let a1 : St := a0.p [(7, (.tre 3001008)), (6, (.ptr 3 8))]
   refine st 2 a1 (ps (vI (ln p1.kids)) (vop_lenT (n := 3001008) (l := p1.kids.map cGExpr) (L := p1.kids.length) (by kernel_rfl) (by kernel_rfl) (List.length_map ..)) ?_)
   let a2 : St := a1.p [(10, (vB (decide (0 < (ln p1.kids))))), (9, (vB (decide (0 < (ln p1.kids))))), (8, (vI (ln p1.kids)))]
   refine st 2 a2 (gp true (decide (0 < (ln p1.kids))) (.ptr 1000000 0) (fun hc => vl) ?_)
   refine gcallg_step ⟨[(1000000, 1000000)], [], [], [], [], [], [], [], []⟩ (p := true) (b := (decide (0 < (ln p1.kids)))) (m := sL1Once p0 2) (dflt := ((default : Bool), p0)) (S' := fun (y : Bool × GL1Cur) => ⟨(12, (.ite (true && ((decide (0 < (ln p1.kids))) == true)) (vB y.1))) :: (11, (.ite (true && ((decide (0 < (ln p1.kids))) == true)) (.ptr 1000000 0))) :: a2.env, [(4, [(vI 0), (vI 0), (vB false), (vI 0), (vI 0), (vS []), (vS []), (vS []), (.nil 10), (.nil 6)]), (3, [(vI p1.kind), (vI p1.op), (vB p1.not_), (vI p1.value.kind), (vI p1.value.num), (vS p1.value.text), (vS p1.qual), (vS p1.name), (.tre 3001008), (.tre 3001009)]), (1000000, bGL1Cur y.2), (3001008, [(.trc 10 (p1.kids.map cGExpr))]), (3001009, [(.trc 6 (p1.sub.map cGQuery))])]⟩) h (by kernel_rfl) (OK_sL1Once p0 2) (fun hc => by kernel_rfl) (by kernel_rfl) (by kernel_rfl) (by kernel_rfl) (fun y => by kernel_rfl) (by kernel_rfl) (fun hc => (Eq.trans (b := ([(true && ((decide (0 < (ln p1.kids))) == true))] : List Bool).all id) (by kernel_rfl) (all_c hc rfl))) (fun y => by kernel_rfl) ?_
   clear h; intro y1 h
   refine vs (fun (y : Bool) => (vB y)) h (fun y hy => vop_pickV hy (p := (true && ((decide (0 < (ln p1.kids))) == true))) (q := true) (by kernel_rfl) (by kernel_rfl) (by kernel_rfl) (by kernel_rfl) (fun hb => gc_t rfl hb) (fun _ => rfl)) fun y2 h => (nx ?_)
   refine cd h (fun h => ?_) fun h => ?_
   refine so ?_
   let a3 : St := ⟨(16, (.tre 3001008)) :: (15, (.ptr 3 8)) :: (14, (.ptr 1000000 0)) :: (13, (vB y2)) :: (12, (.ite (true && ((decide (0 < (ln p1.kids))) == true)) (vB y1.1))) :: (11, (.ite (true && ((decide (0 < (ln p1.kids))) == true)) (.ptr 1000000 0))) :: a2.env, [(4, [(vI 0), (vI 0), (vB false), (vI 0), (vI 0), (vS []), (vS []), (vS []), (.nil 10), (.nil 6)]), (3, [(vI p1.kind), (vI p1.op), (vB p1.not_), (vI p1.value.kind), (vI p1.value.num), (vS p1.value.text), (vS p1.qual), (vS p1.name), (.tre 3001008), (.tre 3001009)]), (1000000, bGL1Cur y1.2), (3001008, [(.trc 10 (p1.kids.map cGExpr))]), (3001009, [(.trc 6 (p1.sub.map cGQuery))])]⟩
   refine st 3 a3 (ps (vI (ln p1.kids)) (vop_lenT (n := 3001008) (l := p1.kids.map cGExpr) (L := p1.kids.length) (by kernel_rfl) (by kernel_rfl) (List.length_map ..)) ?_)
   refine callg_step ⟨[(1000000, 1000000)], [], [], [], [], [], [], [], []⟩ (m := sL1Below y1.2 (ln p1.kids)) (S' := fun (y : Int × GL1Cur) => ⟨(18, (vI y.1)) :: (17, (vI (ln p1.kids))) :: a3.env, [(4, [(vI 0), (vI 0), (vB false), (vI 0), (vI 0), (vS []), (vS []), (vS []), (.nil 10), (.nil 6)]), (3, [(vI p1.kind), (vI p1.op), (vB p1.not_), (vI p1.value.kind), (vI p1.value.num), (vS p1.value.text), (vS p1.qual), (vS p1.name), (.tre 3001008), (.tre 3001009)]), (1000000, bGL1Cur y.2), (3001008, [(.trc 10 (p1.kids.map cGExpr))]), (3001009, [(.trc 6 (p1.sub.map cGQuery))])]⟩) h (OK_sL1Below y1.2 (ln p1.kids)) (by kernel_rfl) (by kernel_rfl) (by kernel_rfl) (by kernel_rfl) (fun y => by kernel_rfl) (fun y => by kernel_rfl) ?_
   clear h; intro y3 h
   let a4 : St := ⟨(5, (vI y3.1)) :: (18, (vI y3.1)) :: (17, (vI (ln p1.kids))) :: a3.env, [(4, [(vI 0), (vI 0), (vB false), (vI 0), (vI 0), (vS []), (vS []), (vS []), (.nil 10), (.nil 6)]), (3, [(vI p1.kind), (vI p1.op), (vB p1.not_), (vI p1.value.kind), (vI p1.value.num), (vS p1.value.text), (vS p1.qual), (vS p1.name), (.tre 3001008), (.tre 3001009)]), (1000000, bGL1Cur y3.2), (3001008, [(.trc 10 (p1.kids.map cGExpr))]), (3001009, [(.trc 6 (p1.sub.map cGQuery))])]⟩
   refine st 1 a4 (nx (si (dops_in ?_)))
   let a5 : St := a4.p [(25, (vI y3.1)), (24, (.tre 3001008)), (23, (.ptr 3 8)), (22, (.ptr 1000000 0)), (21, (vI y3.1)), (20, (.tre 3001008)), (19, (.ptr 3 8))]
   refine dsts_ok 7 (s' := a5) (by kernel_rfl) ?_
   refine diat_step (n := 3001008) (k := .i64) (i := y3.1) (l := p1.kids) (f := cGExpr) (g := oGExpr) [20003300, 20003301] (S' := fun y => ⟨(26, (.trp 3001008 10 (y3.1).toNat 0)) :: a5.env, [(20003300, [(.trc 10 (y.kids.map cGExpr))]), (20003301, [(.trc 6 (y.sub.map cGQuery))]), (4, [(vI 0), (vI 0), (vB false), (vI 0), (vI 0), (vS []), (vS []), (vS []), (.nil 10), (.nil 6)]), (3, [(vI p1.kind), (vI p1.op), (vB p1.not_), (vI p1.value.kind), (vI p1.value.num), (vS p1.value.text), (vS p1.qual), (vS p1.name), (.tre 3001008), (.tre 3001009)]), (1000000, bGL1Cur y3.2), (3001008, [(.tro 10 (y3.1).toNat (p1.kids.map cGExpr)), (vI y.kind), (vI y.op), (vB y.not_), (vI y.value.kind), (vI y.value.num), (vS y.value.text), (vS y.qual), (vS y.name), (.tre 20003300), (.tre 20003301)]), (3001009, [(.trc 6 (p1.sub.map cGQuery))])]⟩) h (by kernel_rfl) (by kernel_rfl) (by kernel_rfl) cGExpr_eq (by kernel_rfl) (fun y => by kernel_rfl) ?_
   clear h; intro y4 hiy4 h
   refine dp_step (v' := (.agv [(vI y4.kind), (vI y4.op), (vB y4.not_), (vI y4.value.kind), (vI y4.value.num), (vS y4.value.text), (vS y4.qual), (vS y4.name), (.tre 20003300), (.tre 20003301)])) rfl rfl (vop_ldT (n := 3001008) (sz := 10) (i := (y3.1).toNat) (off := 0) (l := p1.kids.map cGExpr) (c := [(vI y4.kind), (vI y4.op), (vB y4.not_), (vI y4.value.kind), (vI y4.value.num), (vS y4.value.text), (vS y4.qual), (vS y4.name), (.tre 20003300), (.tre 20003301)]) (by kernel_rfl) (by kernel_rfl) (by kernel_rfl)) ?_
   refine dcallg_step ⟨[(1000000, 1000000), (3001008, 20003300), (3001009, 20003301)], [], [], [], [], [], [(10000008, 40350008), (10000009, 40350009)], [], []⟩ [] [] (m := F_sL7Bent_X y3.2 y4) (S' := fun (y : GExpr × GL1Cur) => ⟨(28, (.agv [(vI y.1.kind), (vI y.1.op), (vB y.1.not_), (vI y.1.value.kind), (vI y.1.value.num), (vS y.1.value.text), (vS y.1.qual), (vS y.1.name), (.tre 40350008), (.tre 40350009)])) :: (27, (.agv [(vI y4.kind), (vI y4.op), (vB y4.not_), (vI y4.value.kind), (vI y4.value.num), (vS y4.value.text), (vS y4.qual), (vS y4.name), (.tre 20003300), (.tre 20003301)])) :: (26, (.trp 3001008 10 (y3.1).toNat 0)) :: a5.env, [(40350008, [(.trc 10 (y.1.kids.map cGExpr))]), (40350009, [(.trc 6 (y.1.sub.map cGQuery))]), (20003300, [.trd]), (20003301, [.trd]), (4, [(vI 0), (vI 0), (vB false), (vI 0), (vI 0), (vS []), (vS []), (vS []), (.nil 10), (.nil 6)]), (3, [(vI p1.kind), (vI p1.op), (vB p1.not_), (vI p1.value.kind), (vI p1.value.num), (vS p1.value.text), (vS p1.qual), (vS p1.name), (.tre 3001008), (.tre 3001009)]), (1000000, bGL1Cur y.2), (3001008, [(.tro 10 (y3.1).toNat (p1.kids.map cGExpr)), (vI y4.kind), (vI y4.op), (vB y4.not_), (vI y4.value.kind), (vI y4.value.num), (vS y4.value.text), (vS y4.qual), (vS y4.name), (.tre 20003300), (.tre 20003301)]), (3001009, [(.trc 6 (p1.sub.map cGQuery))])]⟩) h (OK_sL7Bent_X y3.2 y4) (by kernel_rfl) (by kernel_rfl) (by kernel_rfl) (by kernel_rfl) (fun y => by kernel_rfl) (fun y => by kernel_rfl) ?_
   clear h; intro y5 h
   refine diao_step (n := 3001008) (k := .i64) (i := y3.1) (l := p1.kids.map cGExpr) (c := [(vI y4.kind), (vI y4.op), (vB y4.not_), (vI y4.value.kind), (vI y4.value.num), (vS y4.value.text), (vS y4.qual), (vS y4.name), (.tre 20003300), (.tre 20003301)]) (s' := ⟨(29, (.trp 3001008 10 (y3.1).toNat 0)) :: (28, (.agv [(vI y5.1.kind), (vI y5.1.op), (vB y5.1.not_), (vI y5.1.value.kind), (vI y5.1.value.num), (vS y5.1.value.text), (vS y5.1.qual), (vS y5.1.name), (.tre 40350008), (.tre 40350009)])) :: (27, (.agv [(vI y4.kind), (vI y4.op), (vB y4.not_), (vI y4.value.kind), (vI y4.value.num), (vS y4.value.text), (vS y4.qual), (vS y4.name), (.tre 20003300), (.tre 20003301)])) :: (26, (.trp 3001008 10 (y3.1).toNat 0)) :: a5.env, [(40350008, [(.trc 10 (y5.1.kids.map cGExpr))]), (40350009, [(.trc 6 (y5.1.sub.map cGQuery))]), (20003300, [.trd]), (20003301, [.trd]), (4, [(vI 0), (vI 0), (vB false), (vI 0), (vI 0), (vS []), (vS []), (vS []), (.nil 10), (.nil 6)]), (3, [(vI p1.kind), (vI p1.op), (vB p1.not_), (vI p1.value.kind), (vI p1.value.num), (vS p1.value.text), (vS p1.qual), (vS p1.name), (.tre 3001008), (.tre 3001009)]), (1000000, bGL1Cur y5.2), (3001008, [(.tro 10 (y3.1).toNat (p1.kids.map cGExpr)), (vI y4.kind), (vI y4.op), (vB y4.not_), (vI y4.value.kind), (vI y4.value.num), (vS y4.value.text), (vS y4.qual), (vS y4.name), (.tre 20003300), (.tre 20003301)]), (3001009, [(.trc 6 (p1.sub.map cGQuery))])]⟩) (by kernel_rfl) (by kernel_rfl) (idx_get hiy4).1 (by kernel_rfl) (by kernel_rfl) ?_
   refine dstt_step (n := 3001008) (sz := 10) (i := (y3.1).toNat) (off := 0) (l := p1.kids.map cGExpr) (c := [(vI y4.kind), (vI y4.op), (vB y4.not_), (vI y4.value.kind), (vI y4.value.num), (vS y4.value.text), (vS y4.qual), (vS y4.name), (.tre 20003300), (.tre 20003301)]) (s' := ⟨(29, (.trp 3001008 10 (y3.1).toNat 0)) :: (28, (.agv [(vI y5.1.kind), (vI y5.1.op), (vB y5.1.not_), (vI y5.1.value.kind), (vI y5.1.value.num), (vS y5.1.value.text), (vS y5.1.qual), (vS y5.1.name), (.tre 40350008), (.tre 40350009)])) :: (27, (.agv [(vI y4.kind), (vI y4.op), (vB y4.not_), (vI y4.value.kind), (vI y4.value.num), (vS y4.value.text), (vS y4.qual), (vS y4.name), (.tre 20003300), (.tre 20003301)])) :: (26, (.trp 3001008 10 (y3.1).toNat 0)) :: a5.env, [(40350008, [(.trc 10 (y5.1.kids.map cGExpr))]), (40350009, [(.trc 6 (y5.1.sub.map cGQuery))]), (20003300, [.trd]), (20003301, [.trd]), (4, [(vI 0), (vI 0), (vB false), (vI 0), (vI 0), (vS []), (vS []), (vS []), (.nil 10), (.nil 6)]), (3, [(vI p1.kind), (vI p1.op), (vB p1.not_), (vI p1.value.kind), (vI p1.value.num), (vS p1.value.text), (vS p1.qual), (vS p1.name), (.tre 3001008), (.tre 3001009)]), (1000000, bGL1Cur y5.2), (3001008, [(.tro 10 (y3.1).toNat (p1.kids.map cGExpr)), (vI y5.1.kind), (vI y5.1.op), (vB y5.1.not_), (vI y5.1.value.kind), (vI y5.1.value.num), (vS y5.1.value.text), (vS y5.1.qual), (vS y5.1.name), (.tre 40350008), (.tre 40350009)]), (3001009, [(.trc 6 (p1.sub.map cGQuery))])]⟩) (by kernel_rfl) (by kernel_rfl) (by kernel_rfl) (by kernel_rfl) ?_
   refine dnil_in (by kernel_rfl) (by kernel_rfl) (xi (so ?_))
   let a6 : St := ⟨(30, (.agv [(vI p1.kind), (vI p1.op), (vB p1.not_), (vI p1.value.kind), (vI p1.value.num), (vS p1.value.text), (vS p1.qual), (vS p1.name), (.tre 3001008), (.tre 3001009)])) :: (29, (.trp 3001008 10 (y3.1).toNat 0)) :: (28, (.agv [(vI y5.1.kind), (vI y5.1.op), (vB y5.1.not_), (vI y5.1.value.kind), (vI y5.1.value.num), (vS y5.1.value.text), (vS y5.1.qual), (vS y5.1.name), (.tre 40350008), (.tre 40350009)])) :: (27, (.agv [(vI y4.kind), (vI y4.op), (vB y4.not_), (vI y4.value.kind), (vI y4.value.num), (vS y4.value.text), (vS y4.qual), (vS y4.name), (.tre 20003300), (.tre 20003301)])) :: (26, (.trp 3001008 10 (y3.1).toNat 0)) :: a5.env, [(40350008, [(.trc 10 (y5.1.kids.map cGExpr))]), (40350009, [(.trc 6 (y5.1.sub.map cGQuery))]), (20003300, [.trd]), (20003301, [.trd]), (4, [(vI p1.kind), (vI p1.op), (vB p1.not_), (vI p1.value.kind), (vI p1.value.num), (vS p1.value.text), (vS p1.qual), (vS p1.name), (.tre 3001008), (.tre 3001009)]), (3, [(vI p1.kind), (vI p1.op), (vB p1.not_), (vI p1.value.kind), (vI p1.value.num), (vS p1.value.text), (vS p1.qual), (vS p1.name), (.tre 3001008), (.tre 3001009)]), (1000000, bGL1Cur y5.2), (3001008, [(.tro 10 (y3.1).toNat (p1.kids.map cGExpr)), (vI y5.1.kind), (vI y5.1.op), (vB y5.1.not_), (vI y5.1.value.kind), (vI y5.1.value.num), (vS y5.1.value.text), (vS y5.1.qual), (vS y5.1.name), (.tre 40350008), (.tre 40350009)]), (3001009, [(.trc 6 (p1.sub.map cGQuery))])]⟩
   refine st 2 a6 (nx ?_)
   refine ret_wk (s' := ⟨[(4, (.ptr 4 0))], [(4, [(vI p1.kind), (vI p1.op), (vB p1.not_), (vI p1.value.kind), (vI p1.value.num), (vS p1.value.text), (vS p1.qual), (vS p1.name), (.tre 10000008), (.tre 10000009)]), (1000000, bGL1Cur y5.2), (3001009, [.trd]), (3001008, [.trd]), (10000008, [(.trc 10 ((p1.kids.set (y3.1).toNat y5.1).map cGExpr))]), (10000009, [(.trc 6 (p1.sub.map cGQuery))])]⟩) (tw [.clo 3001008, .rn [(3001008, 10000008), (3001009, 10000009)], .kl 3001008, .kl 3001009] (wr [] (es er_nil) (br_cons (c0 := [(vI p1.kind), (vI p1.op), (vB p1.not_), (vI p1.value.kind), (vI p1.value.num), (vS p1.value.text), (vS p1.qual), (vS p1.name), (.tre 10000008), (.tre 10000009)]) (by kernel_rfl) (vrs_cons (vr_same (by kernel_rfl) (by kernel_rfl)) (vrs_cons (vr_same (by kernel_rfl) (by kernel_rfl)) (vrs_cons (vr_same (by kernel_rfl) (by kernel_rfl)) (vrs_cons (vr_same (by kernel_rfl) (by kernel_rfl)) (vrs_cons (vr_same (by kernel_rfl) (by kernel_rfl)) (vrs_cons (vr_same (by kernel_rfl) (by kernel_rfl)) (vrs_cons (vr_same (by kernel_rfl) (by kernel_rfl)) (vrs_cons (vr_same (by kernel_rfl) (by kernel_rfl)) (vrs_cons (vr_same (by kernel_rfl) (by kernel_rfl)) (vrs_cons (vr_same (by kernel_rfl) (by kernel_rfl)) (vrs_nil))))))))))) (br_cons (c0 := [(.d (.sl 1 (y5.2.b.map cU8))), (vI y5.2.i), (vI y5.2.h)]) (by kernel_rfl) (vrs_cons (vr_same (by kernel_rfl) (by kernel_rfl)) (vrs_cons (vr_same (by kernel_rfl) (by kernel_rfl)) (vrs_cons (vr_same (by kernel_rfl) (by kernel_rfl)) (vrs_nil)))) (bs_ (bs_ (bt_ (R := (p1.kids.set (y3.1).toNat y5.1).map cGExpr) (set_map (l := p1.kids) (k := (y3.1).toNat) (x := y5.1) cGExpr_eq) (bs_ br_nil)))))))) ?_
   refine tr ?_
   injection h with h; subst h
   exact ret1_step (v := (.agv [(vI p1.kind), (vI p1.op), (vB p1.not_), (vI p1.value.kind), (vI p1.value.num), (vS p1.value.text), (vS p1.qual), (vS p1.name), (.tre 10000008), (.tre 10000009)])) (by kernel_rfl) (by kernel_rfl) ⟨by kernel_rfl, by kernel_rfl, by kernel_rfl, by kernel_rfl, by kernel_rfl, by kernel_rfl, trivial⟩
   refine ki (xi (si (so ?_)))
   let a7 : St := ⟨(31, (.ptr 1000000 0)) :: (13, (vB y2)) :: (12, (.ite (true && ((decide (0 < (ln p1.kids))) == true)) (vB y1.1))) :: (11, (.ite (true && ((decide (0 < (ln p1.kids))) == true)) (.ptr 1000000 0))) :: a2.env, [(4, [(vI 0), (vI 0), (vB false), (vI 0), (vI 0), (vS []), (vS []), (vS []), (.nil 10), (.nil 6)]), (3, [(vI p1.kind), (vI p1.op), (vB p1.not_), (vI p1.value.kind), (vI p1.value.num), (vS p1.value.text), (vS p1.qual), (vS p1.name), (.tre 3001008), (.tre 3001009)]), (1000000, bGL1Cur y1.2), (3001008, [(.trc 10 (p1.kids.map cGExpr))]), (3001009, [(.trc 6 (p1.sub.map cGQuery))])]⟩
   refine st 1 a7 ?_
   refine callg_step ⟨[(1000000, 1000000)], [], [], [], [], [], [], [], []⟩ (m := sL1Below y1.2 8) (S' := fun (y : Int × GL1Cur) => ⟨(32, (vI y.1)) :: a7.env, [(4, [(vI 0), (vI 0), (vB false), (vI 0), (vI 0), (vS []), (vS []), (vS []), (.nil 10), (.nil 6)]), (3, [(vI p1.kind), (vI p1.op), (vB p1.not_), (vI p1.value.kind), (vI p1.value.num), (vS p1.value.text), (vS p1.qual), (vS p1.name), (.tre 3001008), (.tre 3001009)]), (1000000, bGL1Cur y.2), (3001008, [(.trc 10 (p1.kids.map cGExpr))]), (3001009, [(.trc 6 (p1.sub.map cGQuery))])]⟩) h (OK_sL1Below y1.2 8) (by kernel_rfl) (by kernel_rfl) (by kernel_rfl) (by kernel_rfl) (fun y => by kernel_rfl) (fun y => by kernel_rfl) ?_
   clear h; intro y6 h
   refine nx (bi (so ?_))
   let a8 : St := ⟨(39, (vB (decide (y6.1 = 0)))) :: (40, (vB (decide (y6.1 = 0)))) :: (32, (vI y6.1)) :: a7.env, [(4, [(vI 0), (vI 0), (vB false), (vI 0), (vI 0), (vS []), (vS []), (vS []), (.nil 10), (.nil 6)]), (3, [(vI p1.kind), (vI p1.op), (vB p1.not_), (vI p1.value.kind), (vI p1.value.num), (vS p1.value.text), (vS p1.qual), (vS p1.name), (.tre 3001008), (.tre 3001009)]), (1000000, bGL1Cur y6.2), (3001008, [(.trc 10 (p1.kids.map cGExpr))]), (3001009, [(.trc 6 (p1.sub.map cGQuery))])]⟩
   refine st 2 a8 (nx ?_)
   refine cd h (fun h => ?_) fun h => ?_
   refine oi ?_
   let a9 : St := a8.p [(41, (.ptr 1000000 0))]
   refine st 1 a9 ?_
   refine callg_step ⟨[(1000000, 1000000)], [], [], [], [], [], [], [], []⟩ (m := sL1Below y6.2 12) (S' := fun (y : Int × GL1Cur) => ⟨(42, (vI y.1)) :: a9.env, [(4, [(vI 0), (vI 0), (vB false), (vI 0), (vI 0), (vS []), (vS []), (vS []), (.nil 10), (.nil 6)]), (3, [(vI p1.kind), (vI p1.op), (vB p1.not_), (vI p1.value.kind), (vI p1.value.num), (vS p1.value.text), (vS p1.qual), (vS p1.name), (.tre 3001008), (.tre 3001009)]), (1000000, bGL1Cur y.2), (3001008, [(.trc 10 (p1.kids.map cGExpr))]), (3001009, [(.trc 6 (p1.sub.map cGQuery))])]⟩) h (OK_sL1Below y6.2 12) (by kernel_rfl) (by kernel_rfl) (by kernel_rfl) (by kernel_rfl) (fun y => by kernel_rfl) (fun y => by kernel_rfl) ?_
   clear h; intro y7 h
   let a10 : St := ⟨(44, (.ptr 3 0)) :: (43, (vI (IntKind.wrap .i64 (y7.1 - 1)))) :: (42, (vI y7.1)) :: a9.env, [(4, [(vI 0), (vI 0), (vB false), (vI 0), (vI 0), (vS []), (vS []), (vS []), (.nil 10), (.nil 6)]), (3, [(vI (IntKind.wrap .i64 (y7.1 - 1))), (vI p1.op), (vB p1.not_), (vI p1.value.kind), (vI p1.value.num), (vS p1.value.text), (vS p1.qual), (vS p1.name), (.tre 3001008), (.tre 3001009)]), (1000000, bGL1Cur y7.2), (3001008, [(.trc 10 (p1.kids.map cGExpr))]), (3001009, [(.trc 6 (p1.sub.map cGQuery))])]⟩
   refine st 3 a10 (ni (bn ?_))
   exact next_step (s' := stsL7Bent_X_J0 (IntKind.wrap .i64 (y7.1 - 1)) p1.op p1.not_ p1.value.kind p1.value.num p1.value.text p1.qual p1.name y7.2.b y7.2.i y7.2.h p1.kids p1.sub) (tw [.rn [(3001008, 60135000), (3001009, 60135001)]] (wr [] (es (es er_nil)) (bs_ (bs_ (bs_ (bs_ (bs_ br_nil))))))) (OK_sL7Bent_X_J0 (IntKind.wrap .i64 (y7.1 - 1)) p1.op p1.not_ p1.value.kind p1.value.num p1.value.text p1.qual p1.name y7.2.b y7.2.i y7.2.h p1.kids p1.sub _ h)
   refine so ?_
   let a11 : St := a8.p [(45, (vB (decide (y6.1 = 1)))), (46, (vB (decide (y6.1 = 1))))]
   refine st 2 a11 (nx ?_)
   refine cd h (fun h => ?_) fun h => ?_
   refine oi ?_
   let a12 : St := a11.p [(47, (.ptr 1000000 0))]
   refine st 1 a12 (bsl_step (l := ([0, 1, 14, 15, 16, 17, (-1)] : List Int)) (f := cI) (g := cI) (by kernel_rfl) (fun _ => rfl) (by kernel_rfl) ?_)
   refine callg_step ⟨[(1000000, 1000000)], [], [], [], [], [], [], [], []⟩ (m := sL1PickInt y6.2 ([0, 1, 14, 15, 16, 17, (-1)] : List Int)) (S' := fun (y : Int × GL1Cur) => ⟨(49, (vI y.1)) :: (48, (.osl 48 3 1 (([0, 1, 14, 15, 16, 17, (-1)] : List Int).map cI))) :: a12.env, [(4, [(vI 0), (vI 0), (vB false), (vI 0), (vI 0), (vS []), (vS []), (vS []), (.nil 10), (.nil 6)]), (3, [(vI p1.kind), (vI p1.op), (vB p1.not_), (vI p1.value.kind), (vI p1.value.num), (vS p1.value.text), (vS p1.qual), (vS p1.name), (.tre 3001008), (.tre 3001009)]), (1000000, bGL1Cur y.2), (3001008, [(.trc 10 (p1.kids.map cGExpr))]), (3001009, [(.trc 6 (p1.sub.map cGQuery))])]⟩) h (OK_sL1PickInt y6.2 ([0, 1, 14, 15, 16, 17, (-1)] : List Int)) (by kernel_rfl) (by kernel_rfl) (by kernel_rfl) (by kernel_rfl) (fun y => by kernel_rfl) (fun y => by kernel_rfl) ?_
   clear h; intro y8 h
   let a13 : St := ⟨(50, (.ptr 3 1)) :: (49, (vI y8.1)) :: (48, (.osl 48 3 1 (([0, 1, 14, 15, 16, 17, (-1)] : List Int).map cI))) :: a12.env, [(4, [(vI 0), (vI 0), (vB false), (vI 0), (vI 0), (vS []), (vS []), (vS []), (.nil 10), (.nil 6)]), (3, [(vI p1.kind), (vI y8.1), (vB p1.not_), (vI p1.value.kind), (vI p1.value.num), (vS p1.value.text), (vS p1.qual), (vS p1.name), (.tre 3001008), (.tre 3001009)]), (1000000, bGL1Cur y8.2), (3001008, [(.trc 10 (p1.kids.map cGExpr))]), (3001009, [(.trc 6 (p1.sub.map cGQuery))])]⟩
   refine st 2 a13 (ni (bn ?_))
   exact next_step (s' := stsL7Bent_X_J0 p1.kind y8.1 p1.not_ p1.value.kind p1.value.num p1.value.text p1.qual p1.name y8.2.b y8.2.i y8.2.h p1.kids p1.sub) (tw [.rn [(3001008, 60135000), (3001009, 60135001)]] (wr [] (es (es er_nil)) (bs_ (bs_ (bs_ (bs_ (bs_ br_nil))))))) (OK_sL7Bent_X_J0 p1.kind y8.1 p1.not_ p1.value.kind p1.value.num p1.value.text p1.qual p1.name y8.2.b y8.2.i y8.2.h p1.kids p1.sub _ h)
   refine so ?_
   let a14 : St := a11.p [(51, (vB (decide (y6.1 = 2)))), (52, (vB (decide (y6.1 = 2))))]
   refine st 2 a14 (nx ?_)
   refine cd h (fun h => ?_) fun h => ?_
   refine oi ?_
   let a15 : St := ⟨(56, (.ptr 3 2)) :: (55, (vB (!p1.not_))) :: (54, (vB p1.not_)) :: (53, (.ptr 3 2)) :: a14.env, [(4, [(vI 0), (vI 0), (vB false), (vI 0), (vI 0), (vS []), (vS []), (vS []), (.nil 10), (.nil 6)]), (3, [(vI p1.kind), (vI p1.op), (vB (!p1.not_)), (vI p1.value.kind), (vI p1.value.num), (vS p1.value.text), (vS p1.qual), (vS p1.name), (.tre 3001008), (.tre 3001009)]), (1000000, bGL1Cur y6.2), (3001008, [(.trc 10 (p1.kids.map cGExpr))]), (3001009, [(.trc 6 (p1.sub.map cGQuery))])]⟩
   refine st 5 a15 (ni (bn ?_))
   exact next_step (s' := stsL7Bent_X_J0 p1.kind p1.op (!p1.not_) p1.value.kind p1.value.num p1.value.text p1.qual p1.name y6.2.b y6.2.i y6.2.h p1.kids p1.sub) (tw [.rn [(3001008, 60135000), (3001009, 60135001)]] (wr [] (es (es er_nil)) (bs_ (bs_ (bs_ (bs_ (bs_ br_nil))))))) (OK_sL7Bent_X_J0 p1.kind p1.op (!p1.not_) p1.value.kind p1.value.num p1.value.text p1.qual p1.name y6.2.b y6.2.i y6.2.h p1.kids p1.sub _ h)
   refine so ?_
   let a16 : St := a14.p [(57, (vB (decide (y6.1 = 3)))), (58, (vB (decide (y6.1 = 3))))]
   refine st 2 a16 (nx ?_)
   refine cd h (fun h => ?_) fun h => ?_
   refine oi ?_
   let a17 : St := a16.p [(59, (.ptr 1000000 0))]
   refine st 1 a17 ?_
   refine callg_step ⟨[(1000000, 1000000)], [], [], [], [], [], [], [], []⟩ (m := sL5Bent y6.2) (S' := fun (y : GValue × GL1Cur) => ⟨(60, (vGValue y.1)) :: a17.env, [(4, [(vI 0), (vI 0), (vB false), (vI 0), (vI 0), (vS []), (vS []), (vS []), (.nil 10), (.nil 6)]), (3, [(vI p1.kind), (vI p1.op), (vB p1.not_), (vI p1.value.kind), (vI p1.value.num), (vS p1.value.text), (vS p1.qual), (vS p1.name), (.tre 3001008), (.tre 3001009)]), (1000000, bGL1Cur y.2), (3001008, [(.trc 10 (p1.kids.map cGExpr))]), (3001009, [(.trc 6 (p1.sub.map cGQuery))])]⟩) h (OK_sL5Bent y6.2) (by kernel_rfl) (by kernel_rfl) (by kernel_rfl) (by kernel_rfl) (fun y => by kernel_rfl) (fun y => by kernel_rfl) ?_
   clear h; intro y9 h
   let a18 : St := ⟨(61, (.ptr 3 3)) :: (60, (vGValue y9.1)) :: a17.env, [(4, [(vI 0), (vI 0), (vB false), (vI 0), (vI 0), (vS []), (vS []), (vS []), (.nil 10), (.nil 6)]), (3, [(vI p1.kind), (vI p1.op), (vB p1.not_), (vI y9.1.kind), (vI y9.1.num), (vS y9.1.text), (vS p1.qual), (vS p1.name), (.tre 3001008), (.tre 3001009)]), (1000000, bGL1Cur y9.2), (3001008, [(.trc 10 (p1.kids.map cGExpr))]), (3001009, [(.trc 6 (p1.sub.map cGQuery))])]⟩
   refine st 2 a18 (ni (bn ?_))
   exact next_step (s' := stsL7Bent_X_J0 p1.kind p1.op p1.not_ y9.1.kind y9.1.num y9.1.text p1.qual p1.name y9.2.b y9.2.i y9.2.h p1.kids p1.sub) (tw [.rn [(3001008, 60135000), (3001009, 60135001)]] (wr [] (es (es er_nil)) (bs_ (bs_ (bs_ (bs_ (bs_ br_nil))))))) (OK_sL7Bent_X_J0 p1.kind p1.op p1.not_ y9.1.kind y9.1.num y9.1.text p1.qual p1.name y9.2.b y9.2.i y9.2.h p1.kids p1.sub _ h)
   refine so ?_
   let a19 : St := a16.p [(62, (vB (decide (y6.1 = 4)))), (63, (vB (decide (y6.1 = 4))))]
   refine st 2 a19 (nx ?_)
   refine cd h (fun h => ?_) fun h => ?_
   refine oi ?_
   let a20 : St := a19.p [(64, (.ptr 1000000 0))]
   refine st 1 a20 ?_
   refine callg_step ⟨[(1000000, 1000000)], [], [], [], [], [], [], [], []⟩ (m := sL2Any y6.2) (S' := fun (y : (List UInt8) × GL1Cur) => ⟨(65, (vS y.1)) :: a20.env, [(4, [(vI 0), (vI 0), (vB false), (vI 0), (vI 0), (vS []), (vS []), (vS []), (.nil 10), (.nil 6)]), (3, [(vI p1.kind), (vI p1.op), (vB p1.not_), (vI p1.value.kind), (vI p1.value.num), (vS p1.value.text), (vS p1.qual), (vS p1.name), (.tre 3001008), (.tre 3001009)]), (1000000, bGL1Cur y.2), (3001008, [(.trc 10 (p1.kids.map cGExpr))]), (3001009, [(.trc 6 (p1.sub.map cGQuery))])]⟩) h (OK_sL2Any y6.2) (by kernel_rfl) (by kernel_rfl) (by kernel_rfl) (by kernel_rfl) (fun y => by kernel_rfl) (fun y => by kernel_rfl) ?_
   clear h; intro y10 h
   let a21 : St := ⟨(66, (.ptr 3 7)) :: (65, (vS y10.1)) :: a20.env, [(4, [(vI 0), (vI 0), (vB false), (vI 0), (vI 0), (vS []), (vS []), (vS []), (.nil 10), (.nil 6)]), (3, [(vI p1.kind), (vI p1.op), (vB p1.not_), (vI p1.value.kind), (vI p1.value.num), (vS p1.value.text), (vS p1.qual), (vS y10.1), (.tre 3001008), (.tre 3001009)]), (1000000, bGL1Cur y10.2), (3001008, [(.trc 10 (p1.kids.map cGExpr))]), (3001009, [(.trc 6 (p1.sub.map cGQuery))])]⟩
   refine st 2 a21 (ni (bn ?_))
   exact next_step (s' := stsL7Bent_X_J0 p1.kind p1.op p1.not_ p1.value.kind p1.value.num p1.value.text p1.qual y10.1 y10.2.b y10.2.i y10.2.h p1.kids p1.sub) (tw [.rn [(3001008, 60135000), (3001009, 60135001)]] (wr [] (es (es er_nil)) (bs_ (bs_ (bs_ (bs_ (bs_ br_nil))))))) (OK_sL7Bent_X_J0 p1.kind p1.op p1.not_ p1.value.kind p1.value.num p1.value.text p1.qual y10.1 y10.2.b y10.2.i y10.2.h p1.kids p1.sub _ h)
   refine so ?_
   let a22 : St := a19.p [(67, (vB (decide (y6.1 = 5)))), (68, (vB (decide (y6.1 = 5))))]
   refine st 2 a22 (nx ?_)
   refine cd h (fun h => ?_) fun h => ?_
   refine oi ?_
   let a23 : St := a22.p [(69, (.ptr 1000000 0))]
   refine st 1 a23 ?_
   refine callg_step ⟨[(1000000, 1000000)], [], [], [], [], [], [], [], []⟩ (m := sL2Any y6.2) (S' := fun (y : (List UInt8) × GL1Cur) => ⟨(70, (vS y.1)) :: a23.env, [(4, [(vI 0), (vI 0), (vB false), (vI 0), (vI 0), (vS []), (vS []), (vS []), (.nil 10), (.nil 6)]), (3, [(vI p1.kind), (vI p1.op), (vB p1.not_), (vI p1.value.kind), (vI p1.value.num), (vS p1.value.text), (vS p1.qual), (vS p1.name), (.tre 3001008), (.tre 3001009)]), (1000000, bGL1Cur y.2), (3001008, [(.trc 10 (p1.kids.map cGExpr))]), (3001009, [(.trc 6 (p1.sub.map cGQuery))])]⟩) h (OK_sL2Any y6.2) (by kernel_rfl) (by kernel_rfl) (by kernel_rfl) (by kernel_rfl) (fun y => by kernel_rfl) (fun y => by kernel_rfl) ?_
   clear h; intro y11 h
   let a24 : St := ⟨(71, (.ptr 3 6)) :: (70, (vS y11.1)) :: a23.env, [(4, [(vI 0), (vI 0), (vB false), (vI 0), (vI 0), (vS []), (vS []), (vS []), (.nil 10), (.nil 6)]), (3, [(vI p1.kind), (vI p1.op), (vB p1.not_), (vI p1.value.kind), (vI p1.value.num), (vS p1.value.text), (vS y11.1), (vS p1.name), (.tre 3001008), (.tre 3001009)]), (1000000, bGL1Cur y11.2), (3001008, [(.trc 10 (p1.kids.map cGExpr))]), (3001009, [(.trc 6 (p1.sub.map cGQuery))])]⟩
   refine st 2 a24 (ni (bn ?_))
   exact next_step (s' := stsL7Bent_X_J0 p1.kind p1.op p1.not_ p1.value.kind p1.value.num p1.value.text y11.1 p1.name y11.2.b y11.2.i y11.2.h p1.kids p1.sub) (tw [.rn [(3001008, 60135000), (3001009, 60135001)]] (wr [] (es (es er_nil)) (bs_ (bs_ (bs_ (bs_ (bs_ br_nil))))))) (OK_sL7Bent_X_J0 p1.kind p1.op p1.not_ p1.value.kind p1.value.num p1.value.text y11.1 p1.name y11.2.b y11.2.i y11.2.h p1.kids p1.sub _ h)
   refine so ?_
   let a25 : St := a22.p [(72, (vB (decide (y6.1 = 6)))), (73, (vB (decide (y6.1 = 6))))]
   refine st 2 a25 (nx ?_)
   refine cd h (fun h => ?_) fun h => ?_
   refine dops_in ?_
   let a26 : St := a25.p [(76, (.ptr 1000000 0)), (75, (.tre 3001008)), (74, (.ptr 3 8))]
   refine dsts_ok 3 (s' := a26) (by kernel_rfl) ?_
   refine dcallg_step ⟨[(1000000, 1000000)], [], [], [], [], [], [(10000008, 41220008), (10000009, 41220009)], [], []⟩ [] [] (m := sL7Col_X y6.2) (S' := fun (y : GExpr × GL1Cur) => ⟨(77, (.agv [(vI y.1.kind), (vI y.1.op), (vB y.1.not_), (vI y.1.value.kind), (vI y.1.value.num), (vS y.1.value.text), (vS y.1.qual), (vS y.1.name), (.tre 41220008), (.tre 41220009)])) :: a26.env, [(41220008, [(.trc 10 (y.1.kids.map cGExpr))]), (41220009, [(.trc 6 (y.1.sub.map cGQuery))]), (4, [(vI 0), (vI 0), (vB false), (vI 0), (vI 0), (vS []), (vS []), (vS []), (.nil 10), (.nil 6)]), (3, [(vI p1.kind), (vI p1.op), (vB p1.not_), (vI p1.value.kind), (vI p1.value.num), (vS p1.value.text), (vS p1.qual), (vS p1.name), (.tre 3001008), (.tre 3001009)]), (1000000, bGL1Cur y.2), (3001008, [(.trc 10 (p1.kids.map cGExpr))]), (3001009, [(.trc 6 (p1.sub.map cGQuery))])]⟩) h (OK_sL7Col_X y6.2) (by kernel_rfl) (by kernel_rfl) (by kernel_rfl) (by kernel_rfl) (fun y => by kernel_rfl) (fun y => by kernel_rfl) ?_
   clear h; intro y12 h
   refine dbslT_step (l := ([y12.1] : List GExpr)) (f := cGExpr) (g := oGExpr) [41220008, 41220009] (s' := ⟨(78, (.tre 78)) :: (77, (.agv [(vI y12.1.kind), (vI y12.1.op), (vB y12.1.not_), (vI y12.1.value.kind), (vI y12.1.value.num), (vS y12.1.value.text), (vS y12.1.qual), (vS y12.1.name), (.tre 41220008), (.tre 41220009)])) :: a26.env, [(78, [(.trc 10 (([y12.1] : List GExpr).map cGExpr))]), (41220008, [.trd]), (41220009, [.trd]), (4, [(vI 0), (vI 0), (vB false), (vI 0), (vI 0), (vS []), (vS []), (vS []), (.nil 10), (.nil 6)]), (3, [(vI p1.kind), (vI p1.op), (vB p1.not_), (vI p1.value.kind), (vI p1.value.num), (vS p1.value.text), (vS p1.qual), (vS p1.name), (.tre 3001008), (.tre 3001009)]), (1000000, bGL1Cur y12.2), (3001008, [(.trc 10 (p1.kids.map cGExpr))]), (3001009, [(.trc 6 (p1.sub.map cGQuery))])]⟩) (by kernel_rfl) cGExpr_eq (by kernel_rfl) (by kernel_rfl) ?_
   refine dappTT_step (l := p1.kids) (m := ([y12.1] : List GExpr)) (f := cGExpr) [3001008] [78] (S' := fun y => ⟨(79, (.tre 79)) :: (78, (.tre 78)) :: (77, (.agv [(vI y12.1.kind), (vI y12.1.op), (vB y12.1.not_), (vI y12.1.value.kind), (vI y12.1.value.num), (vS y12.1.value.text), (vS y12.1.qual), (vS y12.1.name), (.tre 41220008), (.tre 41220009)])) :: a26.env, [(79, [(.trc 10 (y.map cGExpr))]), (78, [.trd]), (41220008, [.trd]), (41220009, [.trd]), (4, [(vI 0), (vI 0), (vB false), (vI 0), (vI 0), (vS []), (vS []), (vS []), (.nil 10), (.nil 6)]), (3, [(vI p1.kind), (vI p1.op), (vB p1.not_), (vI p1.value.kind), (vI p1.value.num), (vS p1.value.text), (vS p1.qual), (vS p1.name), (.tre 3001008), (.tre 3001009)]), (1000000, bGL1Cur y12.2), (3001008, [.trd]), (3001009, [(.trc 6 (p1.sub.map cGQuery))])]⟩) h (by kernel_rfl) (by kernel_rfl) (by kernel_rfl) (by kernel_rfl) (fun y => by kernel_rfl) ?_
   clear h; intro y13 h
   let a27 : St := ⟨(80, (.ptr 3 8)) :: (79, (.tre 79)) :: (78, (.tre 78)) :: (77, (.agv [(vI y12.1.kind), (vI y12.1.op), (vB y12.1.not_), (vI y12.1.value.kind), (vI y12.1.value.num), (vS y12.1.value.text), (vS y12.1.qual), (vS y12.1.name), (.tre 41220008), (.tre 41220009)])) :: a26.env, [(79, [(.trc 10 (y13.map cGExpr))]), (78, [.trd]), (41220008, [.trd]), (41220009, [.trd]), (4, [(vI 0), (vI 0), (vB false), (vI 0), (vI 0), (vS []), (vS []), (vS []), (.nil 10), (.nil 6)]), (3, [(vI p1.kind), (vI p1.op), (vB p1.not_), (vI p1.value.kind), (vI p1.value.num), (vS p1.value.text), (vS p1.qual), (vS p1.name), (.tre 79), (.tre 3001009)]), (1000000, bGL1Cur y12.2), (3001008, [.trd]), (3001009, [(.trc 6 (p1.sub.map cGQuery))])]⟩
   refine dsts_ok 2 (s' := a27) (by kernel_rfl) (dnil_in (by kernel_rfl) (by kernel_rfl) (bn ?_))
   exact next_step (s' := stsL7Bent_X_J0 p1.kind p1.op p1.not_ p1.value.kind p1.value.num p1.value.text p1.qual p1.name y12.2.b y12.2.i y12.2.h y13 p1.sub) (tw [.rn [(79, 60135000), (3001009, 60135001)]] (wr [] (es (es er_nil)) (bs_ (bs_ (bs_ (bs_ (bs_ br_nil))))))) (OK_sL7Bent_X_J0 p1.kind p1.op p1.not_ p1.value.kind p1.value.num p1.value.text p1.qual p1.name y12.2.b y12.2.i y12.2.h y13 p1.sub _ h)
   refine oi ?_
   let a28 : St := a25.p [(34, (.tre 3001009)), (33, (.ptr 3 9))]
   refine st 2 a28 (bldv_step (c := [(vB false), (.nil 13), (.nil 3), (.nil 10), (.nil 11), (vI 0)]) (s' := ⟨(35, (.agv [(vB false), (.nil 13), (.nil 3), (.nil 10), (.nil 11), (vI 0)])) :: a28.env, a28.bx⟩) (by kernel_rfl) (by kernel_rfl) (by kernel_rfl) ?_)
   refine bslT_step (l := ([(GQuery.mk false ([] : List GItem) ([] : List GSource) ([] : List GExpr) ([] : List GSortKey) 0)] : List GQuery)) (f := cGQuery) (g := oGQuery) [] (s' := ⟨(36, (.tre 36)) :: (35, (.agv [(vB false), (.nil 13), (.nil 3), (.nil 10), (.nil 11), (vI 0)])) :: a28.env, [(36, [(.trc 6 (([(GQuery.mk false ([] : List GItem) ([] : List GSource) ([] : List GExpr) ([] : List GSortKey) 0)] : List GQuery).map cGQuery))]), (4, [(vI 0), (vI 0), (vB false), (vI 0), (vI 0), (vS []), (vS []), (vS []), (.nil 10), (.nil 6)]), (3, [(vI p1.kind), (vI p1.op), (vB p1.not_), (vI p1.value.kind), (vI p1.value.num), (vS p1.value.text), (vS p1.qual), (vS p1.name), (.tre 3001008), (.tre 3001009)]), (1000000, bGL1Cur y6.2), (3001008, [(.trc 10 (p1.kids.map cGExpr))]), (3001009, [(.trc 6 (p1.sub.map cGQuery))])]⟩) (by kernel_rfl) cGQuery_eq (by kernel_rfl) (by kernel_rfl) ?_
   refine appTT_step (l := p1.sub) (m := ([(GQuery.mk false ([] : List GItem) ([] : List GSource) ([] : List GExpr) ([] : List GSortKey) 0)] : List GQuery)) (f := cGQuery) [3001009] [36] (S' := fun y => ⟨(37, (.tre 37)) :: (36, (.tre 36)) :: (35, (.agv [(vB false), (.nil 13), (.nil 3), (.nil 10), (.nil 11), (vI 0)])) :: a28.env, [(37, [(.trc 6 (y.map cGQuery))]), (36, [.trd]), (4, [(vI 0), (vI 0), (vB false), (vI 0), (vI 0), (vS []), (vS []), (vS []), (.nil 10), (.nil 6)]), (3, [(vI p1.kind), (vI p1.op), (vB p1.not_), (vI p1.value.kind), (vI p1.value.num), (vS p1.value.text), (vS p1.qual), (vS p1.name), (.tre 3001008), (.tre 3001009)]), (1000000, bGL1Cur y6.2), (3001008, [(.trc 10 (p1.kids.map cGExpr))]), (3001009, [.trd])]⟩) h (by kernel_rfl) (by kernel_rfl) (by kernel_rfl) (by kernel_rfl) (fun y => by kernel_rfl) ?_
   clear h; intro y14 h
   let a29 : St := ⟨(38, (.ptr 3 9)) :: (37, (.tre 37)) :: (36, (.tre 36)) :: (35, (.agv [(vB false), (.nil 13), (.nil 3), (.nil 10), (.nil 11), (vI 0)])) :: a28.env, [(37, [(.trc 6 (y14.map cGQuery))]), (36, [.trd]), (4, [(vI 0), (vI 0), (vB false), (vI 0), (vI 0), (vS []), (vS []), (vS []), (.nil 10), (.nil 6)]), (3, [(vI p1.kind), (vI p1.op), (vB p1.not_), (vI p1.value.kind), (vI p1.value.num), (vS p1.value.text), (vS p1.qual), (vS p1.name), (.tre 3001008), (.tre 37)]), (1000000, bGL1Cur y6.2), (3001008, [(.trc 10 (p1.kids.map cGExpr))]), (3001009, [.trd])]⟩
   refine st 2 a29 (ni (bn ?_))
   exact next_step (s' := stsL7Bent_X_J0 p1.kind p1.op p1.not_ p1.value.kind p1.value.num p1.value.text p1.qual p1.name y6.2.b y6.2.i y6.2.h p1.kids y14) (tw [.rn [(3001008, 60135000), (37, 60135001)]] (wr [] (es (es er_nil)) (bs_ (bs_ (bs_ (bs_ (bs_ br_nil))))))) (OK_sL7Bent_X_J0 p1.kind p1.op p1.not_ p1.value.kind p1.value.num p1.value.text p1.qual p1.name y6.2.b y6.2.i y6.2.h p1.kids y14 _ h)
theorem OK_sL7Bent_X (p0 : GL1Cur) (p1 : GExpr) : FOkB Try.prog 88 [(.ptr 1000000 0), (.agv [(vI p1.kind), (vI p1.op), (vB p1.not_), (vI p1.value.kind), (vI p1.value.num), (vS p1.value.text), (vS p1.qual), (vS p1.name), (.tre 3001008), (.tre 3001009)])] [(1000000, bGL1Cur p0), (3001008, [(.trc 10 (p1.kids.map cGExpr))]), (3001009, [(.trc 6 (p1.sub.map cGQuery))])] (fun (y : GExpr × GL1Cur) => (.agv [(vI y.1.kind), (vI y.1.op), (vB y.1.not_), (vI y.1.value.kind), (vI y.1.value.num), (vS y.1.value.text), (vS y.1.qual), (vS y.1.name), (.tre 10000008), (.tre 10000009)])) (fun (y : GExpr × GL1Cur) => [(10000008, [(.trc 10 (y.1.kids.map cGExpr))]), (10000009, [(.trc 6 (y.1.sub.map cGQuery))]), (1000000, bGL1Cur y.2), (3001008, [.trd]), (3001009, [.trd])]) (sL7Bent_X p0 p1) := fun r h => (OKs_sL7Bent_X) p0 p1 r h
theorem OKs_sL7Deep_X_L0 (y2 : Int × GL1Cur) : (∀ (x5 : Int) (b3_0 : Int) (b3_1 : Int) (b3_2 : Bool) (b3_3 : Int) (b3_4 : Int) (kb3_5 : ((List UInt8) × ((List UInt8) × ((List UInt8) × ((List GExpr) × (List GQuery)))))) (r : GExpr × GL1Cur), sL7Deep_X_L0 y2 x5 b3_0 b3_1 b3_2 b3_3 b3_4 kb3_5 = some r → avc Try.prog acsL7Deep_X_L0 (qsL7Deep_X_1 r) (stsL7Deep_X_L0 y2 x5 b3_0 b3_1 b3_2 b3_3 b3_4 kb3_5)) := by
 refine sL7Deep_X_L0.partial_correctness y2 (fun x5 b3_0 b3_1 b3_2 b3_3 b3_4 kb3_5 r => avc Try.prog acsL7Deep_X_L0 (qsL7Deep_X_1 r) (stsL7Deep_X_L0 y2 x5 b3_0 b3_1 b3_2 b3_3 b3_4 kb3_5)) ?_
 · intro F_sL7Deep_X_L0 OK_sL7Deep_X_L0 x5 b3_0 b3_1 b3_2 b3_3 b3_4 kb3_5 r h
   delta acsL7Deep_X_L0
   refine loop_unroll (si (so ?_))
   let a6 : St := (stsL7Deep_X_L0 y2 x5 b3_0 b3_1 b3_2 b3_3 b3_4 (kb3_5.1, (kb3_5.2.1, (kb3_5.2.2.1, (kb3_5.2.2.2.1, kb3_5.2.2.2.2))))).p [(13, (vB (decide (x5 < (IntKind.wrap .i64 (22 + y2.1)))))), (12, (vI (IntKind.wrap .i64 (22 + y2.1)))), (11, (vI x5))]
   refine st 3 a6 (nx ?_)
   refine cd h (fun h => ?_) fun h => ?_
   refine ki (xi (si (bi (oi ?_))))
   let a7 : St := a6.p [(16, (.agv [(vI b3_0), (vI b3_1), (vB b3_2), (vI b3_3), (vI b3_4), (vS kb3_5.1), (vS kb3_5.2.1), (vS kb3_5.2.2.1), (.tre 60020000), (.tre 60020001)]))]
   refine st 1 a7 ?_
   refine bslT_step (l := ([(GExpr.mk b3_0 b3_1 b3_2 (GValue.mk b3_3 b3_4 kb3_5.1) kb3_5.2.1 kb3_5.2.2.1 kb3_5.2.2.2.1 kb3_5.2.2.2.2)] : List GExpr)) (f := cGExpr) (g := oGExpr) [60020000, 60020001] (s' := ⟨(17, (.tre 17)) :: a7.env, [(17, [(.trc 10 (([(GExpr.mk b3_0 b3_1 b3_2 (GValue.mk b3_3 b3_4 kb3_5.1) kb3_5.2.1 kb3_5.2.2.1 kb3_5.2.2.2.1 kb3_5.2.2.2.2)] : List GExpr).map cGExpr))]), (2, [(vI 0), (vI 0), (vB false), (vI 0), (vI 0), (vS []), (vS []), (vS []), (.nil 10), (.nil 6)]), (3, [(vI b3_0), (vI b3_1), (vB b3_2), (vI b3_3), (vI b3_4), (vS kb3_5.1), (vS kb3_5.2.1), (vS kb3_5.2.2.1), (.tre 60020000), (.tre 60020001)]), (1000000, bGL1Cur y2.2), (60020000, [.trd]), (60020001, [.trd])]⟩) (by kernel_rfl) cGExpr_eq (by kernel_rfl) (by kernel_rfl) ?_
   refine bldv_step (c := [(vI 3), (vI 16), (vB false), (vI 0), (vI 0), (vS []), (vS []), (vS []), (.tre 17), (.nil 6)]) (s' := ⟨(18, (.agv [(vI 3), (vI 16), (vB false), (vI 0), (vI 0), (vS []), (vS []), (vS []), (.tre 17), (.nil 6)])) :: (17, (.tre 17)) :: a7.env, [(17, [(.trc 10 (([(GExpr.mk b3_0 b3_1 b3_2 (GValue.mk b3_3 b3_4 kb3_5.1) kb3_5.2.1 kb3_5.2.2.1 kb3_5.2.2.2.1 kb3_5.2.2.2.2)] : List GExpr).map cGExpr))]), (2, [(vI 0), (vI 0), (vB false), (vI 0), (vI 0), (vS []), (vS []), (vS []), (.nil 10), (.nil 6)]), (3, [(vI b3_0), (vI b3_1), (vB b3_2), (vI b3_3), (vI b3_4), (vS kb3_5.1), (vS kb3_5.2.1), (vS kb3_5.2.2.1), (.tre 60020000), (.tre 60020001)]), (1000000, bGL1Cur y2.2), (60020000, [.trd]), (60020001, [.trd])]⟩) (by kernel_rfl) (by kernel_rfl) (by kernel_rfl) ?_
   let a8 : St := ⟨(18, (.agv [(vI 3), (vI 16), (vB false), (vI 0), (vI 0), (vS []), (vS []), (vS []), (.tre 17), (.nil 6)])) :: (17, (.tre 17)) :: a7.env, [(17, [(.trc 10 (([(GExpr.mk b3_0 b3_1 b3_2 (GValue.mk b3_3 b3_4 kb3_5.1) kb3_5.2.1 kb3_5.2.2.1 kb3_5.2.2.2.1 kb3_5.2.2.2.2)] : List GExpr).map cGExpr))]), (2, [(vI 0), (vI 0), (vB false), (vI 0), (vI 0), (vS []), (vS []), (vS []), (.nil 10), (.nil 6)]), (3, [(vI 3), (vI 16), (vB false), (vI 0), (vI 0), (vS []), (vS []), (vS []), (.tre 17), (.nil 6)]), (1000000, bGL1Cur y2.2), (60020000, [.trd]), (60020001, [.trd])]⟩
   refine st 1 a8 (ni (bn (xi (oi ?_))))
   let a9 : St := a8.p [(5, (vI (IntKind.wrap .i64 (x5 + 1)))), (15, (vI (IntKind.wrap .i64 (x5 + 1)))), (14, (vI x5))]
   refine st 3 a9 (ni ?_)
   exact loop_back (s' := stsL7Deep_X_L0 y2 (IntKind.wrap .i64 (x5 + 1)) 3 16 false 0 0 ([], ([], ([], (([(GExpr.mk b3_0 b3_1 b3_2 (GValue.mk b3_3 b3_4 kb3_5.1) kb3_5.2.1 kb3_5.2.2.1 kb3_5.2.2.2.1 kb3_5.2.2.2.2)] : List GExpr), ([] : List GQuery)))))) (tw [.rn [(17, 60020000)], .nb 3 9 60020001] (wr [] (es (es (es (es er_nil)))) (bs_ (bs_ (bs_ (bs_ (bs_ br_nil))))))) (OK_sL7Deep_X_L0 (IntKind.wrap .i64 (x5 + 1)) 3 16 false 0 0 ([], ([], ([], (([(GExpr.mk b3_0 b3_1 b3_2 (GValue.mk b3_3 b3_4 kb3_5.1) kb3_5.2.1 kb3_5.2.2.1 kb3_5.2.2.2.1 kb3_5.2.2.2.2)] : List GExpr), ([] : List GQuery))))) _ h)
   refine ei (te (te (bh (xi (so ?_)))))
   let a10 : St := ⟨(19, (.agv [(vI b3_0), (vI b3_1), (vB b3_2), (vI b3_3), (vI b3_4), (vS kb3_5.1), (vS kb3_5.2.1), (vS kb3_5.2.2.1), (.tre 60020000), (.tre 60020001)])) :: a6.env, [(2, [(vI b3_0), (vI b3_1), (vB b3_2), (vI b3_3), (vI b3_4), (vS kb3_5.1), (vS kb3_5.2.1), (vS kb3_5.2.2.1), (.tre 60020000), (.tre 60020001)]), (3, [(vI b3_0), (vI b3_1), (vB b3_2), (vI b3_3), (vI b3_4), (vS kb3_5.1), (vS kb3_5.2.1), (vS kb3_5.2.2.1), (.tre 60020000), (.tre 60020001)]), (1000000, bGL1Cur y2.2), (60020000, [(.trc 10 (kb3_5.2.2.2.1.map cGExpr))]), (60020001, [(.trc 6 (kb3_5.2.2.2.2.map cGQuery))])]⟩
   refine st 2 a10 (nx ?_)
   refine ret_wk (s' := ⟨[(2, (.ptr 2 0))], [(2, [(vI b3_0), (vI b3_1), (vB b3_2), (vI b3_3), (vI b3_4), (vS kb3_5.1), (vS kb3_5.2.1), (vS kb3_5.2.2.1), (.tre 10000008), (.tre 10000009)]), (1000000, bGL1Cur y2.2), (10000008, [(.trc 10 (kb3_5.2.2.2.1.map cGExpr))]), (10000009, [(.trc 6 (kb3_5.2.2.2.2.map cGQuery))])]⟩) (tw [.rn [(60020000, 10000008), (60020001, 10000009)]] (wr [] (es er_nil) (br_cons (c0 := [(vI b3_0), (vI b3_1), (vB b3_2), (vI b3_3), (vI b3_4), (vS kb3_5.1), (vS kb3_5.2.1), (vS kb3_5.2.2.1), (.tre 10000008), (.tre 10000009)]) (by kernel_rfl) (vrs_cons (vr_same (by kernel_rfl) (by kernel_rfl)) (vrs_cons (vr_same (by kernel_rfl) (by kernel_rfl)) (vrs_cons (vr_same (by kernel_rfl) (by kernel_rfl)) (vrs_cons (vr_same (by kernel_rfl) (by kernel_rfl)) (vrs_cons (vr_same (by kernel_rfl) (by kernel_rfl)) (vrs_cons (vr_same (by kernel_rfl) (by kernel_rfl)) (vrs_cons (vr_same (by kernel_rfl) (by kernel_rfl)) (vrs_cons (vr_same (by kernel_rfl) (by kernel_rfl)) (vrs_cons (vr_same (by kernel_rfl) (by kernel_rfl)) (vrs_cons (vr_same (by kernel_rfl) (by kernel_rfl)) (vrs_nil))))))))))) (br_cons (c0 := [(.d (.sl 1 (y2.2.b.map cU8))), (vI y2.2.i), (vI y2.2.h)]) (by kernel_rfl) (vrs_cons (vr_same (by kernel_rfl) (by kernel_rfl)) (vrs_cons (vr_same (by kernel_rfl) (by kernel_rfl)) (vrs_cons (vr_same (by kernel_rfl) (by kernel_rfl)) (vrs_nil)))) (bs_ (bs_ br_nil)))))) ?_
   injection h with h; subst h
   exact ret1_step (v := (.agv [(vI b3_0), (vI b3_1), (vB b3_2), (vI b3_3), (vI b3_4), (vS kb3_5.1), (vS kb3_5.2.1), (vS kb3_5.2.2.1), (.tre 10000008), (.tre 10000009)])) (by kernel_rfl) (by kernel_rfl) ⟨by kernel_rfl, by kernel_rfl, by kernel_rfl, by kernel_rfl, trivial⟩
theorem OK_sL7Deep_X_L0 (y2 : Int × GL1Cur) (x5 : Int) (b3_0 : Int) (b3_1 : Int) (b3_2 : Bool) (b3_3 : Int) (b3_4 : Int) (kb3_5 : ((List UInt8) × ((List UInt8) × ((List UInt8) × ((List GExpr) × (List GQuery)))))) (r : GExpr × GL1Cur) (h : sL7Deep_X_L0 y2 x5 b3_0 b3_1 b3_2 b3_3 b3_4 kb3_5 = some r) : avc Try.prog acsL7Deep_X_L0 (qsL7Deep_X_1 r) (stsL7Deep_X_L0 y2 x5 b3_0 b3_1 b3_2 b3_3 b3_4 kb3_5) := (OKs_sL7Deep_X_L0 y2) x5 b3_0 b3_1 b3_2 b3_3 b3_4 kb3_5 r h
theorem OK_sL7Deep_X (p0 : GL1Cur) : FOkB Try.prog 84 [(.ptr 1000000 0)] [(1000000, bGL1Cur p0)] (fun (y : GExpr × GL1Cur) => (.agv [(vI y.1.kind), (vI y.1.op), (vB y.1.not_), (vI y.1.value.kind), (vI y.1.value.num), (vS y.1.value.text), (vS y.1.qual), (vS y.1.name), (.tre 10000008), (.tre 10000009)])) (fun (y : GExpr × GL1Cur) => [(10000008, [(.trc 10 (y.1.kids.map cGExpr))]), (10000009, [(.trc 6 (y.1.sub.map cGQuery))]), (1000000, bGL1Cur y.2)]) (sL7Deep_X p0) := by
 intro r h
 rw [sL7Deep_X] at h
 refine acalls_of_fn trsL7Deep_X (Nat.le_of_ble_eq_true rfl) (by intro n hn; simp at hn; simp only [NX]; omega) ?_
 show avc Try.prog acsL7Deep_X (qsL7Deep_X _) ⟨[(0, (.ptr 1000000 0))], [(1000000, bGL1Cur p0)]⟩
 delta acsL7Deep_X
 refine so ?_
 let a0 : St := ⟨[(2, (.ptr 2 0)), (0, (.ptr 1000000 0))], [(2, [(vI 0), (vI 0), (vB false), (vI 0), (vI 0), (vS []), (vS []), (vS []), (.nil 10), (.nil 6)]), (1000000, bGL1Cur p0)]⟩
 refine st 1 a0 (nx (so ?_))
 let a1 : St := a0.p [(6, (.ptr 1000000 0))]
 refine st 1 a1 ?_
 refine callg_step ⟨[(1000000, 1000000)], [], [], [], [], [], [(10000008, 40060008), (10000009, 40060009)], [], []⟩ (m := sL7Col_X p0) (S' := fun (y : GExpr × GL1Cur) => ⟨(7, (.agv [(vI y.1.kind), (vI y.1.op), (vB y.1.not_), (vI y.1.value.kind), (vI y.1.value.num), (vS y.1.value.text), (vS y.1.qual), (vS y.1.name), (.tre 40060008), (.tre 40060009)])) :: a1.env, [(40060008, [(.trc 10 (y.1.kids.map cGExpr))]), (40060009, [(.trc 6 (y.1.sub.map cGQuery))]), (2, [(vI 0), (vI 0), (vB false), (vI 0), (vI 0), (vS []), (vS []), (vS []), (.nil 10), (.nil 6)]), (1000000, bGL1Cur y.2)]⟩) h (OK_sL7Col_X p0) (by kernel_rfl) (by kernel_rfl) (by kernel_rfl) (by kernel_rfl) (fun y => by kernel_rfl) (fun y => by kernel_rfl) ?_
 clear h; intro y1 h
 let a2 : St := ⟨(3, (.ptr 3 0)) :: (7, (.agv [(vI y1.1.kind), (vI y1.1.op), (vB y1.1.not_), (vI y1.1.value.kind), (vI y1.1.value.num), (vS y1.1.value.text), (vS y1.1.qual), (vS y1.1.name), (.tre 40060008), (.tre 40060009)])) :: a1.env, [(3, [(vI y1.1.kind), (vI y1.1.op), (vB y1.1.not_), (vI y1.1.value.kind), (vI y1.1.value.num), (vS y1.1.value.text), (vS y1.1.qual), (vS y1.1.name), (.tre 40060008), (.tre 40060009)]), (40060008, [(.trc 10 (y1.1.kids.map cGExpr))]), (40060009, [(.trc 6 (y1.1.sub.map cGQuery))]), (2, [(vI 0), (vI 0), (vB false), (vI 0), (vI 0), (vS []), (vS []), (vS []), (.nil 10), (.nil 6)]), (1000000, bGL1Cur y1.2)]⟩
 refine st 2 a2 (nx (so ?_))
 let a3 : St := a2.p [(8, (.ptr 1000000 0))]
 refine st 1 a3 ?_
 refine callg_step ⟨[(1000000, 1000000)], [], [], [], [], [], [], [], []⟩ (m := sL1Below y1.2 3) (S' := fun (y : Int × GL1Cur) => ⟨(9, (vI y.1)) :: a3.env, [(3, [(vI y1.1.kind), (vI y1.1.op), (vB y1.1.not_), (vI y1.1.value.kind), (vI y1.1.value.num), (vS y1.1.value.text), (vS y1.1.qual), (vS y1.1.name), (.tre 40060008), (.tre 40060009)]), (40060008, [(.trc 10 (y1.1.kids.map cGExpr))]), (40060009, [(.trc 6 (y1.1.sub.map cGQuery))]), (2, [(vI 0), (vI 0), (vB false), (vI 0), (vI 0), (vS []), (vS []), (vS []), (.nil 10), (.nil 6)]), (1000000, bGL1Cur y.2)]⟩) h (OK_sL1Below y1.2 3) (by kernel_rfl) (by kernel_rfl) (by kernel_rfl) (by kernel_rfl) (fun y => by kernel_rfl) (fun y => by kernel_rfl) ?_
 clear h; intro y2 h
 let a4 : St := ⟨(4, (vI (IntKind.wrap .i64 (22 + y2.1)))) :: (10, (vI (IntKind.wrap .i64 (22 + y2.1)))) :: (9, (vI y2.1)) :: a3.env, [(3, [(vI y1.1.kind), (vI y1.1.op), (vB y1.1.not_), (vI y1.1.value.kind), (vI y1.1.value.num), (vS y1.1.value.text), (vS y1.1.qual), (vS y1.1.name), (.tre 40060008), (.tre 40060009)]), (40060008, [(.trc 10 (y1.1.kids.map cGExpr))]), (40060009, [(.trc 6 (y1.1.sub.map cGQuery))]), (2, [(vI 0), (vI 0), (vB false), (vI 0), (vI 0), (vS []), (vS []), (vS []), (.nil 10), (.nil 6)]), (1000000, bGL1Cur y2.2)]⟩
 refine st 2 a4 (nx (si (so ?_)))
 let a5 : St := a4.p [(5, (vI 0))]
 refine st 1 a5 (nx (bi ?_))
 exact loop_go (s' := stsL7Deep_X_L0 y2 0 y1.1.kind y1.1.op y1.1.not_ y1.1.value.kind y1.1.value.num (y1.1.value.text, (y1.1.qual, (y1.1.name, (y1.1.kids, y1.1.sub))))) (tw [.rn [(40060008, 60020000), (40060009, 60020001)]] (wr [] (es (es (es (es er_nil)))) (bs_ (bs_ (bs_ (bs_ (bs_ br_nil))))))) (OK_sL7Deep_X_L0 y2 0 y1.1.kind y1.1.op y1.1.not_ y1.1.value.kind y1.1.value.num (y1.1.value.text, (y1.1.qual, (y1.1.name, (y1.1.kids, y1.1.sub)))) _ h)
theorem OK_sL7Draw_J0 (b4_0 : Int) (b4_1 : Int) (b4_2 : Bool) (b4_3 : Int) (b4_4 : Int) (b4_5 : (List UInt8)) (b4_6 : (List UInt8)) (b4_7 : (List UInt8)) (b60043000_0 : (List GExpr)) (b60043001_0 : (List GQuery)) (r : GExpr) (h : sL7Draw_J0 b4_0 b4_1 b4_2 b4_3 b4_4 b4_5 b4_6 b4_7 b60043000_0 b60043001_0 = some r) : avc Try.prog acsL7Draw_J0 (qsL7Draw r) (stsL7Draw_J0 b4_0 b4_1 b4_2 b4_3 b4_4 b4_5 b4_6 b4_7 b60043000_0 b60043001_0) := by
 rw [sL7Draw_J0] at h
 delta acsL7Draw_J0
 refine so ?_
 let a11 : St := ⟨(22, (.agv [(vI b4_0), (vI b4_1), (vB b4_2), (vI b4_3), (vI b4_4), (vS b4_5), (vS b4_6), (vS b4_7), (.tre 60043000), (.tre 60043001)])) :: (stsL7Draw_J0 b4_0 b4_1 b4_2 b4_3 b4_4 b4_5 b4_6 b4_7 b60043000_0 b60043001_0).env, [(2, [(vI b4_0), (vI b4_1), (vB b4_2), (vI b4_3), (vI b4_4), (vS b4_5), (vS b4_6), (vS b4_7), (.tre 60043000), (.tre 60043001)]), (4, [(vI b4_0), (vI b4_1), (vB b4_2), (vI b4_3), (vI b4_4), (vS b4_5), (vS b4_6), (vS b4_7), (.tre 60043000), (.tre 60043001)]), (60043000, [(.trc 10 (b60043000_0.map cGExpr))]), (60043001, [(.trc 6 (b60043001_0.map cGQuery))])]⟩
 refine st 2 a11 (nx ?_)
 refine ret_wk (s' := ⟨[(2, (.ptr 2 0))], [(2, bGExpr (GExpr.mk b4_0 b4_1 b4_2 (GValue.mk b4_3 b4_4 b4_5) b4_6 b4_7 b60043000_0 b60043001_0))]⟩) (tw [.frz [60043000, 60043001]] (wr [] (es er_nil) (br_cons (c0 := [(vI b4_0), (vI b4_1), (vB b4_2), (vI b4_3), (vI b4_4), (vS b4_5), (vS b4_6), (vS b4_7), (.d (.sl 10 (b60043000_0.map cGExpr))), (.d (.sl 6 (b60043001_0.map cGQuery)))]) (by kernel_rfl) (vrs_cons (vr_same (by kernel_rfl) (by kernel_rfl)) (vrs_cons (vr_same (by kernel_rfl) (by kernel_rfl)) (vrs_cons (vr_same (by kernel_rfl) (by kernel_rfl)) (vrs_cons (vr_same (by kernel_rfl) (by kernel_rfl)) (vrs_cons (vr_same (by kernel_rfl) (by kernel_rfl)) (vrs_cons (vr_same (by kernel_rfl) (by kernel_rfl)) (vrs_cons (vr_same (by kernel_rfl) (by kernel_rfl)) (vrs_cons (vr_same (by kernel_rfl) (by kernel_rfl)) (vrs_cons (vr_same (by kernel_rfl) (by kernel_rfl)) (vrs_cons (vr_same (by kernel_rfl) (by kernel_rfl)) (vrs_nil))))))))))) br_nil))) ?_
 injection h with h; subst h
 exact r1 (v := (vGExpr (GExpr.mk b4_0 b4_1 b4_2 (GValue.mk b4_3 b4_4 b4_5) b4_6 b4_7 b60043000_0 b60043001_0)))
theorem OK_sL7Query_X_J8 (y1 : Bool × GL1Cur) (b60206003_0 : (List GSortKey)) (b60206002_0 : (List GExpr)) (b60186001_0 : (List GSource)) (b60021000_0 : (List GItem)) (b5_5 : Int) (b1000000_0_48 : (List Int)) (b1000000_1_49 : Int) (b1000000_2_50 : Int) (r : GQuery × GL1Cur) (h : sL7Query_X_J8 y1 b60206003_0 b60206002_0 b60186001_0 b60021000_0 b5_5 b1000000_0_48 b1000000_1_49 b1000000_2_50 = some r) : avc Try.prog acsL7Query_X_J8 (qsL7Query_X r) (stsL7Query_X_J8 y1 b60206003_0 b60206002_0 b60186001_0 b60021000_0 b5_5 b1000000_0_48 b1000000_1_49 b1000000_2_50) := by
 rw [sL7Query_X_J8] at h
 delta acsL7Query_X_J8
 refine so ?_
 let a47 : St := ⟨(118, (.agv [(vB y1.1), (.tre 60219000), (.tre 60219001), (.tre 60219002), (.tre 60219003), (vI b5_5)])) :: (stsL7Query_X_J8 y1 b60206003_0 b60206002_0 b60186001_0 b60021000_0 b5_5 b1000000_0_48 b1000000_1_49 b1000000_2_50).env, [(4, [(vB y1.1), (.tre 60219000), (.tre 60219001), (.tre 60219002), (.tre 60219003), (vI b5_5)]), (5, [(vB y1.1), (.tre 60219000), (.tre 60219001), (.tre 60219002), (.tre 60219003), (vI b5_5)]), (1000000, bGL1Cur (GL1Cur.mk b1000000_0_48 b1000000_1_49 b1000000_2_50)), (60219003, [(.trc 11 (b60206003_0.map cGSortKey))]), (60219002, [(.trc 10 (b60206002_0.map cGExpr))]), (60219001, [(.trc 3 (b60186001_0.map cGSource))]), (60219000, [(.trc 13 (b60021000_0.map cGItem))])]⟩
 refine st 2 a47 (nx ?_)
 refine ret_wk (s' := ⟨[(4, (.ptr 4 0))], [(4, [(vB y1.1), (.tre 10000001), (.tre 10000002), (.tre 10000003), (.tre 10000004), (vI b5_5)]), (1000000, bGL1Cur (GL1Cur.mk b1000000_0_48 b1000000_1_49 b1000000_2_50)), (10000004, [(.trc 11 (b60206003_0.map cGSortKey))]), (10000003, [(.trc 10 (b60206002_0.map cGExpr))]), (10000002, [(.trc 3 (b60186001_0.map cGSource))]), (10000001, [(.trc 13 (b60021000_0.map cGItem))])]⟩) (tw [.rn [(60219000, 10000001), (60219001, 10000002), (60219002, 10000003), (60219003, 10000004)]] (wr [] (es er_nil) (br_cons (c0 := [(vB y1.1), (.tre 10000001), (.tre 10000002), (.tre 10000003), (.tre 10000004), (vI b5_5)]) (by kernel_rfl) (vrs_cons (vr_same (by kernel_rfl) (by kernel_rfl)) (vrs_cons (vr_same (by kernel_rfl) (by kernel_rfl)) (vrs_cons (vr_same (by kernel_rfl) (by kernel_rfl)) (vrs_cons (vr_same (by kernel_rfl) (by kernel_rfl)) (vrs_cons (vr_same (by kernel_rfl) (by kernel_rfl)) (vrs_cons (vr_same (by kernel_rfl) (by kernel_rfl)) (vrs_nil))))))) (br_cons (c0 := [(.d (.sl 1 (b1000000_0_48.map cU8))), (vI b1000000_1_49), (vI b1000000_2_50)]) (by kernel_rfl) (vrs_cons (vr_same (by kernel_rfl) (by kernel_rfl)) (vrs_cons (vr_same (by kernel_rfl) (by kernel_rfl)) (vrs_cons (vr_same (by kernel_rfl) (by kernel_rfl)) (vrs_nil)))) (bs_ (bs_ (bs_ (bs_ br_nil)))))))) ?_
 injection h with h; subst h
 exact ret1_step (v := (.agv [(vB y1.1), (.tre 10000001), (.tre 10000002), (.tre 10000003), (.tre 10000004), (vI b5_5)])) (by kernel_rfl) (by kernel_rfl) ⟨by kernel_rfl, by kernel_rfl, by kernel_rfl, by kernel_rfl, by kernel_rfl, by kernel_rfl, trivial⟩
theorem OK_sL7Query_X_J7 (y1 : Bool × GL1Cur) (b60186001_0 : (List GSource)) (b60021000_0 : (List GItem)) (b1000000_0_42 : (List Int)) (b1000000_1_43 : Int) (b1000000_2_44 : Int) (b60206003_0 : (List GSortKey)) (b60206002_0 : (List GExpr)) (r : GQuery × GL1Cur) (h : sL7Query_X_J7 y1 b60186001_0 b60021000_0 b1000000_0_42 b1000000_1_43 b1000000_2_44 b60206003_0 b60206002_0 = some r) : avc Try.prog acsL7Query_X_J7 (qsL7Query_X r) (stsL7Query_X_J7 y1 b60186001_0 b60021000_0 b1000000_0_42 b1000000_1_43 b1000000_2_44 b60206003_0 b60206002_0) := by
 rw [sL7Query_X_J7] at h
 delta acsL7Query_X_J7
 refine si (so ?_)
 let a44 : St := (stsL7Query_X_J7 y1 b60186001_0 b60021000_0 b1000000_0_42 b1000000_1_43 b1000000_2_44 b60206003_0 b60206002_0).p [(112, (.ptr 1000000 0))]
 refine st 1 a44 ?_
 refine callg_step ⟨[(1000000, 1000000)], [], [], [], [], [], [], [], []⟩ (m := sL1Once (GL1Cur.mk b1000000_0_42 b1000000_1_43 b1000000_2_44) 4) (S' := fun (y : Bool × GL1Cur) => ⟨(113, (vB y.1)) :: a44.env, [(4, [(vB false), (.nil 13), (.nil 3), (.nil 10), (.nil 11), (vI 0)]), (5, [(vB y1.1), (.tre 60206000), (.tre 60206001), (.tre 60206002), (.tre 60206003), (vI (-1))]), (1000000, bGL1Cur y.2), (60206003, [(.trc 11 (b60206003_0.map cGSortKey))]), (60206002, [(.trc 10 (b60206002_0.map cGExpr))]), (60206001, [(.trc 3 (b60186001_0.map cGSource))]), (60206000, [(.trc 13 (b60021000_0.map cGItem))])]⟩) h (OK_sL1Once (GL1Cur.mk b1000000_0_42 b1000000_1_43 b1000000_2_44) 4) (by kernel_rfl) (by kernel_rfl) (by kernel_rfl) (by kernel_rfl) (fun y => by kernel_rfl) (fun y => by kernel_rfl) ?_
 clear h; intro y46 h
 refine nx ?_
 refine cd h (fun h => ?_) fun h => ?_
 refine oi ?_
 let a45 : St := ⟨(114, (.ptr 1000000 0)) :: (113, (vB y46.1)) :: a44.env, [(4, [(vB false), (.nil 13), (.nil 3), (.nil 10), (.nil 11), (vI 0)]), (5, [(vB y1.1), (.tre 60206000), (.tre 60206001), (.tre 60206002), (.tre 60206003), (vI (-1))]), (1000000, bGL1Cur y46.2), (60206003, [(.trc 11 (b60206003_0.map cGSortKey))]), (60206002, [(.trc 10 (b60206002_0.map cGExpr))]), (60206001, [(.trc 3 (b60186001_0.map cGSource))]), (60206000, [(.trc 13 (b60021000_0.map cGItem))])]⟩
 refine st 1 a45 (bsl_step (l := ([0, 1, 2, 9223372036854775807] : List Int)) (f := cI) (g := cI) (by kernel_rfl) (fun _ => rfl) (by kernel_rfl) ?_)
 refine callg_step ⟨[(1000000, 1000000)], [], [], [], [], [], [], [], []⟩ (m := sL1PickInt y46.2 ([0, 1, 2, 9223372036854775807] : List Int)) (S' := fun (y : Int × GL1Cur) => ⟨(116, (vI y.1)) :: (115, (.osl 115 3 1 (([0, 1, 2, 9223372036854775807] : List Int).map cI))) :: a45.env, [(4, [(vB false), (.nil 13), (.nil 3), (.nil 10), (.nil 11), (vI 0)]), (5, [(vB y1.1), (.tre 60206000), (.tre 60206001), (.tre 60206002), (.tre 60206003), (vI (-1))]), (1000000, bGL1Cur y.2), (60206003, [(.trc 11 (b60206003_0.map cGSortKey))]), (60206002, [(.trc 10 (b60206002_0.map cGExpr))]), (60206001, [(.trc 3 (b60186001_0.map cGSource))]), (60206000, [(.trc 13 (b60021000_0.map cGItem))])]⟩) h (OK_sL1PickInt y46.2 ([0, 1, 2, 9223372036854775807] : List Int)) (by kernel_rfl) (by kernel_rfl) (by kernel_rfl) (by kernel_rfl) (fun y => by kernel_rfl) (fun y => by kernel_rfl) ?_
 clear h; intro y47 h
 let a46 : St := ⟨(117, (.ptr 5 5)) :: (116, (vI y47.1)) :: (115, (.osl 115 3 1 (([0, 1, 2, 9223372036854775807] : List Int).map cI))) :: a45.env, [(4, [(vB false), (.nil 13), (.nil 3), (.nil 10), (.nil 11), (vI 0)]), (5, [(vB y1.1), (.tre 60206000), (.tre 60206001), (.tre 60206002), (.tre 60206003), (vI y47.1)]), (1000000, bGL1Cur y47.2), (60206003, [(.trc 11 (b60206003_0.map cGSortKey))]), (60206002, [(.trc 10 (b60206002_0.map cGExpr))]), (60206001, [(.trc 3 (b60186001_0.map cGSource))]), (60206000, [(.trc 13 (b60021000_0.map cGItem))])]⟩
 refine st 2 a46 (ni ?_)
 exact next_step (s' := stsL7Query_X_J8 y1 b60206003_0 b60206002_0 b60186001_0 b60021000_0 y47.1 y47.2.b y47.2.i y47.2.h) (tw [.rn [(60206000, 60219000), (60206001, 60219001), (60206002, 60219002), (60206003, 60219003)]] (wr [] (es (es er_nil)) (bs_ (bs_ (bs_ (bs_ (bs_ (bs_ (bs_ br_nil))))))))) (OK_sL7Query_X_J8 y1 b60206003_0 b60206002_0 b60186001_0 b60021000_0 y47.1 y47.2.b y47.2.i y47.2.h _ h)
 refine ki ?_
 exact next_step (s' := stsL7Query_X_J8 y1 b60206003_0 b60206002_0 b60186001_0 b60021000_0 (-1) y46.2.b y46.2.i y46.2.h) (tw [.rn [(60206000, 60219000), (60206001, 60219001), (60206002, 60219002), (60206003, 60219003)]] (wr [] (es (es er_nil)) (bs_ (bs_ (bs_ (bs_ (bs_ (bs_ (bs_ br_nil))))))))) (OK_sL7Query_X_J8 y1 b60206003_0 b60206002_0 b60186001_0 b60021000_0 (-1) y46.2.b y46.2.i y46.2.h _ h)
theorem OK_sL7Value_J0 (y1 : GValue × GL1Cur) (b3_1 : Int) (r : GValue × GL1Cur) (h : sL7Value_J0 y1 b3_1 = some r) : avc Try.prog acsL7Value_J0 (qsL7Value r) (stsL7Value_J0 y1 b3_1) := by
 rw [sL7Value_J0] at h
 delta acsL7Value_J0
 refine so ?_
 let a5 : St := ⟨(15, (vGValue (GValue.mk y1.1.kind b3_1 y1.1.text))) :: (stsL7Value_J0 y1 b3_1).env, [(2, bGValue (GValue.mk y1.1.kind b3_1 y1.1.text)), (3, bGValue (GValue.mk y1.1.kind b3_1 y1.1.text)), (1000000, bGL1Cur y1.2)]⟩
 refine st 2 a5 (nx (ri ?_))
 injection h with h; subst h
 exact ret1_step (v := (vGValue (GValue.mk y1.1.kind b3_1 y1.1.text))) (by kernel_rfl) (by kernel_rfl) ⟨by kernel_rfl, by kernel_rfl, trivial⟩
theorem OK_sL7Value (p0 : GL1Cur) : FOkB Try.prog 144 [(.ptr 1000000 0)] [(1000000, bGL1Cur p0)] (fun (y : GValue × GL1Cur) => (vGValue y.1)) (fun (y : GValue × GL1Cur) => [(1000000, bGL1Cur y.2)]) (sL7Value p0) := by
 intro r h
 rw [sL7Value] at h
 refine acalls_of_fn trsL7Value (Nat.le_of_ble_eq_true rfl) (by intro n hn; simp at hn; simp only [NX]; omega) ?_
 show avc Try.prog acsL7Value (qsL7Value _) ⟨[(0, (.ptr 1000000 0))], [(1000000, bGL1Cur p0)]⟩
 delta acsL7Value
 refine so ?_
 let a0 : St := ⟨[(2, (.ptr 2 0)), (0, (.ptr 1000000 0))], [(2, [(vI 0), (vI 0), (vS [])]), (1000000, bGL1Cur p0)]⟩
 refine st 1 a0 (nx (so ?_))
 let a1 : St := a0.p [(4, (.ptr 1000000 0))]
 refine st 1 a1 (callg_step ⟨[(1000000, 1000000)], [], [], [], [], [], [], [], []⟩ (m := sL5Right p0) (S' := fun (y : GValue × GL1Cur) => ⟨(5, (vGValue y.1)) :: a1.env, [(2, [(vI 0), (vI 0), (vS [])]), (1000000, bGL1Cur y.2)]⟩) h (OK_sL5Right p0) (by kernel_rfl) (by kernel_rfl) (by kernel_rfl) (by kernel_rfl) (fun y => by kernel_rfl) (fun y => by kernel_rfl) ?_)
 clear h; intro y1 h
 let a2 : St := ⟨(3, (.ptr 3 0)) :: (5, (vGValue y1.1)) :: a1.env, [(3, bGValue y1.1), (2, [(vI 0), (vI 0), (vS [])]), (1000000, bGL1Cur y1.2)]⟩
 refine st 2 a2 (nx (si (so ?_)))
 let a3 : St := a2.p [(9, (vB (decide (y1.1.kind = 1)))), (8, (vB (decide (y1.1.kind = 1)))), (7, (vI y1.1.kind)), (6, (.ptr 3 0))]
 refine st 4 a3 (gp true (decide (y1.1.kind = 1)) (.ptr 3 1) (fun hc => vl) (gp true (decide (y1.1.kind = 1)) (vI y1.1.num) (fun hc => vg hc) (gp true (decide (y1.1.kind = 1)) (vB (decide (y1.1.num < 0))) (fun hc => vg hc) ?_)))
 refine vs (fun (y : Bool) => (vB y)) h (fun y hy => vop_pickV hy (p := (true && ((decide (y1.1.kind = 1)) == true))) (q := true) (by kernel_rfl) (by kernel_rfl) (by kernel_rfl) (by kernel_rfl) (fun hb => gc_t rfl hb) (fun _ => rfl)) fun y2 h => (nx ?_)
 refine cd h (fun h => ?_) fun h => ?_
 refine oi ?_
 let a4 : St := ⟨(14, (.ptr 3 1)) :: (13, (vB y2)) :: (12, (.ite (true && ((decide (y1.1.kind = 1)) == true)) (vB (decide (y1.1.num < 0))))) :: (11, (.ite (true && ((decide (y1.1.kind = 1)) == true)) (vI y1.1.num))) :: (10, (.ite (true && ((decide (y1.1.kind = 1)) == true)) (.ptr 3 1))) :: a3.env, [(3, bGValue (GValue.mk y1.1.kind 9223372036854775807 y1.1.text)), (2, [(vI 0), (vI 0), (vS [])]), (1000000, bGL1Cur y1.2)]⟩
 exact st 2 a4 (ni (next_step (s' := stsL7Value_J0 y1 9223372036854775807) (wr [] (es (es er_nil)) (bs_ (bs_ (bs_ br_nil)))) (OK_sL7Value_J0 y1 9223372036854775807 _ h)))
 exact ki (next_step (s' := stsL7Value_J0 y1 y1.1.num) (wr [] (es (es er_nil)) (bs_ (bs_ (bs_ br_nil)))) (OK_sL7Value_J0 y1 y1.1.num _ h))
end Go.Proofs.Ytcfkipkafnlliaa
