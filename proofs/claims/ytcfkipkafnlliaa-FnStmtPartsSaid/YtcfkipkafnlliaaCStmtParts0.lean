/- That the code computes these functions (printed by a program). -/
import Derived.KernelRfl
import Derived.Test.YtcfkipkafnlliaaAbG2
import Derived.Test.YtcfkipkafnlliaaAbC3
import Derived.Test.YtcfkipkafnlliaaAbT7
import Derived.Test.YtcfkipkafnlliaaFStmtParts
import Derived.Test.YtcfkipkafnlliaaProg
namespace Go.Proofs.Ytcfkipkafnlliaa
open Go Go.RowKit Go.Ab
def cI (n : Int) : List D := [.i .i64 n]
def cU8 (n : Int) : List D := [.i .u8 n]
def cU64 (n : Int) : List D := [.i .u64 n]
def cI32 (n : Int) : List D := [.i .i32 n]
def cU32 (n : Int) : List D := [.i .u32 n]
def cB (b : Bool) : List D := [.b b]
def cStr (s : List UInt8) : List D := [.s (bs s)]
def cSl {α : Type} (sz : Nat) (f : α → List D) (l : List α) : List D := [.sl sz (l.map f)]
def cGValue (x : GValue) : List D := [(.i .i64 x.kind), (.i .i64 x.num), (.s (bs x.text))]
def vGValue (x : GValue) : V := .agg (cGValue x)
def bGValue (x : GValue) : List V := (cGValue x).map V.d
mutual
def cGExpr : GExpr → List D
  | ⟨a0, a1, a2, a3, a4, a5, a6, a7⟩ => [(.i .i64 a0)] ++ [(.i .i64 a1)] ++ [(.b a2)] ++ cGValue a3 ++ [(.s (bs a4))] ++ [(.s (bs a5))] ++ [.sl 10 (cLGExpr a6)] ++ [.sl 6 (cLGQuery a7)]
def cGItem : GItem → List D
  | ⟨a0, a1, a2, a3⟩ => [(.b a0)] ++ [(.s (bs a1))] ++ cGExpr a2 ++ [(.s (bs a3))]
def cGQuery : GQuery → List D
  | ⟨a0, a1, a2, a3, a4, a5⟩ => [(.b a0)] ++ [.sl 13 (cLGItem a1)] ++ [.sl 3 (cLGSource a2)] ++ [.sl 10 (cLGExpr a3)] ++ [.sl 11 (cLGSortKey a4)] ++ [(.i .i64 a5)]
def cGSortKey : GSortKey → List D
  | ⟨a0, a1⟩ => cGExpr a0 ++ [(.b a1)]
def cGSource : GSource → List D
  | ⟨a0, a1, a2⟩ => [(.s (bs a0))] ++ [(.s (bs a1))] ++ [.sl 10 (cLGExpr a2)]
def cLGExpr : List GExpr → List (List D)
  | [] => []
  | x :: l => cGExpr x :: cLGExpr l
def cLGItem : List GItem → List (List D)
  | [] => []
  | x :: l => cGItem x :: cLGItem l
def cLGQuery : List GQuery → List (List D)
  | [] => []
  | x :: l => cGQuery x :: cLGQuery l
def cLGSortKey : List GSortKey → List (List D)
  | [] => []
  | x :: l => cGSortKey x :: cLGSortKey l
def cLGSource : List GSource → List (List D)
  | [] => []
  | x :: l => cGSource x :: cLGSource l
end
theorem cLGExpr_eq : ∀ l : List GExpr, cLGExpr l = l.map cGExpr
  | [] => by simp only [cLGExpr, List.map_nil]
  | x :: l => by simp only [cLGExpr, List.map_cons, cLGExpr_eq l]
theorem cLGItem_eq : ∀ l : List GItem, cLGItem l = l.map cGItem
  | [] => by simp only [cLGItem, List.map_nil]
  | x :: l => by simp only [cLGItem, List.map_cons, cLGItem_eq l]
theorem cLGQuery_eq : ∀ l : List GQuery, cLGQuery l = l.map cGQuery
  | [] => by simp only [cLGQuery, List.map_nil]
  | x :: l => by simp only [cLGQuery, List.map_cons, cLGQuery_eq l]
theorem cLGSortKey_eq : ∀ l : List GSortKey, cLGSortKey l = l.map cGSortKey
  | [] => by simp only [cLGSortKey, List.map_nil]
  | x :: l => by simp only [cLGSortKey, List.map_cons, cLGSortKey_eq l]
theorem cLGSource_eq : ∀ l : List GSource, cLGSource l = l.map cGSource
  | [] => by simp only [cLGSource, List.map_nil]
  | x :: l => by simp only [cLGSource, List.map_cons, cLGSource_eq l]
def oGExpr (x : GExpr) : List D := [(.i .i64 x.kind), (.i .i64 x.op), (.b x.not_), (.i .i64 x.value.kind), (.i .i64 x.value.num), (.s (bs x.value.text)), (.s (bs x.qual)), (.s (bs x.name)), (.sl 10 (x.kids.map cGExpr)), (.sl 6 (x.sub.map cGQuery))]
def oGItem (x : GItem) : List D := [(.b x.star), (.s (bs x.qual)), (.i .i64 x.expr.kind), (.i .i64 x.expr.op), (.b x.expr.not_), (.i .i64 x.expr.value.kind), (.i .i64 x.expr.value.num), (.s (bs x.expr.value.text)), (.s (bs x.expr.qual)), (.s (bs x.expr.name)), (.sl 10 (x.expr.kids.map cGExpr)), (.sl 6 (x.expr.sub.map cGQuery)), (.s (bs x.as_))]
def oGQuery (x : GQuery) : List D := [(.b x.distinct), (.sl 13 (x.items.map cGItem)), (.sl 3 (x.from_.map cGSource)), (.sl 10 (x.where_.map cGExpr)), (.sl 11 (x.order.map cGSortKey)), (.i .i64 x.limit)]
def oGSortKey (x : GSortKey) : List D := [(.i .i64 x.expr.kind), (.i .i64 x.expr.op), (.b x.expr.not_), (.i .i64 x.expr.value.kind), (.i .i64 x.expr.value.num), (.s (bs x.expr.value.text)), (.s (bs x.expr.qual)), (.s (bs x.expr.name)), (.sl 10 (x.expr.kids.map cGExpr)), (.sl 6 (x.expr.sub.map cGQuery)), (.b x.desc)]
def oGSource (x : GSource) : List D := [(.s (bs x.table)), (.s (bs x.as_)), (.sl 10 (x.on_.map cGExpr))]
theorem cGExpr_eq (x : GExpr) : cGExpr x = oGExpr x := by
  obtain ⟨a0, a1, a2, a3, a4, a5, a6, a7⟩ := x
  simp only [cGExpr, oGExpr, cLGExpr_eq, cLGItem_eq, cLGQuery_eq, cLGSortKey_eq, cLGSource_eq, List.cons_append, List.nil_append, cGValue]
theorem cGItem_eq (x : GItem) : cGItem x = oGItem x := by
  obtain ⟨a0, a1, a2, a3⟩ := x
  simp only [cGItem, oGItem, cLGExpr_eq, cLGItem_eq, cLGQuery_eq, cLGSortKey_eq, cLGSource_eq, cGExpr_eq, oGExpr, List.cons_append, List.nil_append]
theorem cGQuery_eq (x : GQuery) : cGQuery x = oGQuery x := by
  obtain ⟨a0, a1, a2, a3, a4, a5⟩ := x
  simp only [cGQuery, oGQuery, cLGExpr_eq, cLGItem_eq, cLGQuery_eq, cLGSortKey_eq, cLGSource_eq, List.cons_append, List.nil_append]
theorem cGSortKey_eq (x : GSortKey) : cGSortKey x = oGSortKey x := by
  obtain ⟨a0, a1⟩ := x
  simp only [cGSortKey, oGSortKey, cLGExpr_eq, cLGItem_eq, cLGQuery_eq, cLGSortKey_eq, cLGSource_eq, cGExpr_eq, oGExpr, List.cons_append, List.nil_append]
theorem cGSource_eq (x : GSource) : cGSource x = oGSource x := by
  obtain ⟨a0, a1, a2⟩ := x
  simp only [cGSource, oGSource, cLGExpr_eq, cLGItem_eq, cLGQuery_eq, cLGSortKey_eq, cLGSource_eq, List.cons_append, List.nil_append]
def vGExpr (x : GExpr) : V := .agg (oGExpr x)
def bGExpr (x : GExpr) : List V := (oGExpr x).map V.d
def vGItem (x : GItem) : V := .agg (oGItem x)
def bGItem (x : GItem) : List V := (oGItem x).map V.d
def vGQuery (x : GQuery) : V := .agg (oGQuery x)
def bGQuery (x : GQuery) : List V := (oGQuery x).map V.d
def vGSortKey (x : GSortKey) : V := .agg (oGSortKey x)
def bGSortKey (x : GSortKey) : List V := (oGSortKey x).map V.d
def vGSource (x : GSource) : V := .agg (oGSource x)
def bGSource (x : GSource) : List V := (oGSource x).map V.d
def cGStmt (x : GStmt) : List D := [(.i .i64 x.kind), (.b x.query.distinct), (.sl 13 (x.query.items.map cGItem)), (.sl 3 (x.query.from_.map cGSource)), (.sl 10 (x.query.where_.map cGExpr)), (.sl 11 (x.query.order.map cGSortKey)), (.i .i64 x.query.limit), (.s (bs x.table)), (.sl 1 (x.rows.map (cSl 10 cGExpr))), (.sl 1 (x.cols.map cStr)), (.sl 10 (x.sets.map cGExpr)), (.sl 10 (x.where_.map cGExpr))]
def vGStmt (x : GStmt) : V := .agg (cGStmt x)
def bGStmt (x : GStmt) : List V := (cGStmt x).map V.d
def cGL1Cur (x : GL1Cur) : List D := [(.sl 1 (x.b.map cU8)), (.i .i64 x.i), (.i .i64 x.h)]
def vGL1Cur (x : GL1Cur) : V := .agg (cGL1Cur x)
def bGL1Cur (x : GL1Cur) : List V := (cGL1Cur x).map V.d
def acwFnStmtParts_L0 : AC := (.loop (.seq (.seq (.ops [.mv 14 7, .mv 15 4, .len 16 15, .bin 17 .lss 14 16]) (.cond 17 .skip (.exit 0))) (.seq (.block 1 (.seq (.ops [.mv 20 5, .neg 21 20, .mv 22 4, .mv 23 7, .ia 24 10 22 23, .ld 25 10 true 24, .call (some 26) 12 [25], .neg 27 26, .call (some 28) 11 [21, 27], .neg 29 28, .asg 5 29]) (.ops [.mv 30 6, .mv 31 4, .mv 32 7, .ia 33 10 31 32, .ld 34 10 true 33, .call (some 35) 13 [34], .bin 36 .add 30 35, .asg 6 36]))) (.ops [.mv 18 7, .bin 19 .add 18 (kI 1), .asg 7 19]))))
def acwFnStmtParts : AC := (.seq (.ops [.asg 2 (kB false)]) (.seq (.seq (.ops [.mv 8 0, .call (some 9) 9 [8]]) (.cond 9 (.seq (.ops [.asg 2 (kB true)]) .ret) .skip)) (.seq (.ops [.mv 10 0, .call (some 11) 16 [10], .alc 3 [(.d (.i .i64 0)), (.d (.b false)), (.nil 13), (.nil 3), (.nil 10), (.nil 11), (.d (.i .i64 0)), (.d (.s (bs []))), (.nil 1), (.nil 1), (.nil 10), (.nil 10)], .st 12 3 11]) (.seq (.ops [.ld 12 12 true 3, .call (some 13) 17 [12], .asg 4 13]) (.seq (.ops [.asg 5 (kI 0)]) (.seq (.ops [.asg 6 (kI 0)]) (.seq (.seq (.ops [.asg 7 (kI 0)]) (.block 0 acwFnStmtParts_L0)) (.seq (.ops [.mv 37 4, .len 38 37, .ld 39 12 true 3, .call (some 40) 18 [39], .len 41 40, .bin 42 .eql 38 41, .mv 43 42, .g 43 true (.ld 44 12 true 3), .g 43 true (.call (some 45) 19 [44]), .g 43 true (.mv 46 5), .g 43 true (.bin 47 .eql 45 46), .pick 48 43 47 (kB false), .mv 49 48, .g 49 true (.ld 50 12 true 3), .g 49 true (.call (some 51) 20 [50]), .g 49 true (.mv 52 6), .g 49 true (.bin 53 .eql 51 52), .pick 54 49 53 (kB false), .asg 2 54]) .ret))))))))
theorem trwFnStmtParts : trFn Try.prog 4 = some (acwFnStmtParts, [.mv 0 2], 55) := by kernel_rfl
def qwFnStmtParts (r : Bool) : Exit → St → Prop := retQ [.mv 0 2] fun x _ => x = (fun y => (vB y)) r
def qwFnStmtParts_0 (r : Bool) : Exit → St → Prop := (thenK (wkK (avc Try.prog (.seq (.ops [.mv 37 4, .len 38 37, .ld 39 12 true 3, .call (some 40) 18 [39], .len 41 40, .bin 42 .eql 38 41, .mv 43 42, .g 43 true (.ld 44 12 true 3), .g 43 true (.call (some 45) 19 [44]), .g 43 true (.mv 46 5), .g 43 true (.bin 47 .eql 45 46), .pick 48 43 47 (.c (.d (.b false))), .mv 49 48, .g 49 true (.ld 50 12 true 3), .g 49 true (.call (some 51) 20 [50]), .g 49 true (.mv 52 6), .g 49 true (.bin 53 .eql 51 52), .pick 54 49 53 (.c (.d (.b false))), .asg 2 54]) .ret) (qwFnStmtParts r))) (qwFnStmtParts r))
def qwFnStmtParts_1 (r : Bool) : Exit → St → Prop := (blockK 0 (qwFnStmtParts_0 r))
def stwFnStmtParts_L0 (y3 : (List GExpr)) (y2 : GStmt) (x5 : Int) (x6 : Int) (x7 : Int) : St := ⟨[(3, (.ptr 3 0)), (4, (.d (.sl 10 (y3.map cGExpr)))), (5, (vI x5)), (6, (vI x6)), (7, (vI x7))], [(3, bGStmt y2)]⟩
def aciSizeOf_L0 : AC := (.loop (.seq (.ops [.bin 14 .lss 13 12]) (.seq (.cond 14 .skip (.exit 0)) (.seq (.block 1 (.seq (.ops [.ia 15 6 11 13, .ld 16 6 true 15, .alc 5 [(.d (.b false)), (.nil 13), (.nil 3), (.nil 10), (.nil 11), (.d (.i .i64 0))], .st 6 5 16]) (.ops [.mv 17 3, .ld 18 6 true 5, .call (some 19) 15 [18], .bin 20 .add 17 19, .asg 3 20]))) (.ops [.bin 21 .add 13 (kI 1), .mv 13 21])))))
def aciSizeOf : AC := (.seq (.ops [.box 1 29 0, .asg 2 (kI 0)]) (.seq (.ops [.fa 6 8 1, .ld 7 1 false 6, .call (some 8) 41 [7], .bin 9 .add (kI 1) 8, .asg 3 9]) (.seq (.seq (.ops [.fa 10 9 1, .ld 11 1 false 10, .len 12 11, .mv 13 (kI 0)]) (.block 0 aciSizeOf_L0)) (.seq (.ops [.mv 22 3, .asg 2 22]) .ret))))
theorem triSizeOf : trFn Try.prog 13 = some (aciSizeOf, [.mv 0 2], 23) := by kernel_rfl
def qiSizeOf (r : Int) : Exit → St → Prop := retQ [.mv 0 2] fun x _ => x = (fun y => (vI y)) r
def qiSizeOf_0 (r : Int) : Exit → St → Prop := (thenK (wkK (avc Try.prog (.seq (.ops [.mv 22 3, .asg 2 22]) .ret) (qiSizeOf r))) (qiSizeOf r))
def qiSizeOf_1 (r : Int) : Exit → St → Prop := (blockK 0 (qiSizeOf_0 r))
def stiSizeOf_L0 (p0 : GExpr) (x3 : Int) (x13 : Int) : St := ⟨[(3, (vI x3)), (11, (.d (.sl 6 (p0.sub.map cGQuery)))), (12, (vI (p0.sub.length : Int))), (13, (vI x13))], []⟩
def aciQuerySize : AC := (.seq (.ops [.box 1 38 0, .asg 2 (kI 0)]) (.seq (.ops [.ld 3 6 true 1, .call (some 4) 43 [3], .call (some 5) 41 [4], .asg 2 5]) .ret))
theorem triQuerySize : trFn Try.prog 15 = some (aciQuerySize, [.mv 0 2], 6) := by kernel_rfl
def qiQuerySize (r : Int) : Exit → St → Prop := retQ [.mv 0 2] fun x _ => x = (fun y => (vI y)) r
def aciSizeOfAll_L0 : AC := (.loop (.seq (.ops [.bin 9 .lss 8 7]) (.seq (.cond 9 .skip (.exit 0)) (.seq (.block 1 (.seq (.ops [.ia 10 10 6 8, .ld 11 10 true 10, .alc 5 [(.d (.i .i64 0)), (.d (.i .i64 0)), (.d (.b false)), (.d (.i .i64 0)), (.d (.i .i64 0)), (.d (.s (bs []))), (.d (.s (bs []))), (.d (.s (bs []))), (.nil 10), (.nil 6)], .st 10 5 11]) (.ops [.mv 12 3, .ld 13 10 true 5, .call (some 14) 13 [13], .bin 15 .add 12 14, .asg 3 15]))) (.ops [.bin 16 .add 8 (kI 1), .mv 8 16])))))
def aciSizeOfAll : AC := (.seq (.ops [.asg 2 (kI 0)]) (.seq (.ops [.asg 3 (kI 0)]) (.seq (.seq (.ops [.mv 6 0, .len 7 6, .mv 8 (kI 0)]) (.block 0 aciSizeOfAll_L0)) (.seq (.ops [.mv 17 3, .asg 2 17]) .ret))))
theorem triSizeOfAll : trFn Try.prog 41 = some (aciSizeOfAll, [.mv 0 2], 18) := by kernel_rfl
def qiSizeOfAll (r : Int) : Exit → St → Prop := retQ [.mv 0 2] fun x _ => x = (fun y => (vI y)) r
def qiSizeOfAll_0 (r : Int) : Exit → St → Prop := (thenK (wkK (avc Try.prog (.seq (.ops [.mv 17 3, .asg 2 17]) .ret) (qiSizeOfAll r))) (qiSizeOfAll r))
def qiSizeOfAll_1 (r : Int) : Exit → St → Prop := (blockK 0 (qiSizeOfAll_0 r))
def stiSizeOfAll_L0 (p0 : (List GExpr)) (x3 : Int) (x8 : Int) : St := ⟨[(3, (vI x3)), (6, (.d (.sl 10 (p0.map cGExpr)))), (7, (vI (p0.length : Int))), (8, (vI x8))], []⟩
def aciQuery_exprs_J1 : AC := (.ops [.bin 26 .add 14 (kI 1), .mv 14 26])
def aciQuery_exprs_L0 : AC := (.loop (.seq (.ops [.bin 15 .lss 14 13]) (.seq (.cond 15 .skip (.exit 0)) (.seq (.block 1 (.seq (.ops [.ia 16 13 12 14, .ld 17 13 true 16, .alc 5 [(.d (.b false)), (.d (.s (bs []))), (.d (.i .i64 0)), (.d (.i .i64 0)), (.d (.b false)), (.d (.i .i64 0)), (.d (.i .i64 0)), (.d (.s (bs []))), (.d (.s (bs []))), (.d (.s (bs []))), (.nil 10), (.nil 6), (.d (.s (bs [])))], .st 13 5 17]) (.seq (.ops [.fa 18 0 5, .ld 19 1 false 18, .not 20 19]) (.cond 20 (.ops [.mv 21 3, .fa 22 2 5, .ld 23 10 true 22, .bsl 24 29 10 [23], .app 25 29 10 136 21 24, .asg 3 25]) .skip)))) aciQuery_exprs_J1))))
def aciQuery_exprs_L2 : AC := (.loop (.seq (.ops [.bin 31 .lss 30 29]) (.seq (.cond 31 .skip (.exit 2)) (.seq (.block 3 (.seq (.ops [.ia 32 3 28 30, .ld 33 3 true 32, .alc 7 [(.d (.s (bs []))), (.d (.s (bs []))), (.nil 10)], .st 3 7 33]) (.ops [.mv 34 3, .fa 35 2 7, .ld 36 1 false 35, .app 37 29 10 136 34 36, .asg 3 37]))) (.ops [.bin 38 .add 30 (kI 1), .mv 30 38])))))
def aciQuery_exprs_L3 : AC := (.loop (.seq (.ops [.bin 47 .lss 46 45]) (.seq (.cond 47 .skip (.exit 4)) (.seq (.block 5 (.seq (.ops [.ia 48 11 44 46, .ld 49 11 true 48, .alc 9 [(.d (.i .i64 0)), (.d (.i .i64 0)), (.d (.b false)), (.d (.i .i64 0)), (.d (.i .i64 0)), (.d (.s (bs []))), (.d (.s (bs []))), (.d (.s (bs []))), (.nil 10), (.nil 6), (.d (.b false))], .st 11 9 49]) (.ops [.mv 50 3, .fa 51 0 9, .ld 52 10 true 51, .bsl 53 29 10 [52], .app 54 29 10 136 50 53, .asg 3 54]))) (.ops [.bin 55 .add 46 (kI 1), .mv 46 55])))))
def aciQuery_exprs : AC := (.seq (.ops [.box 1 38 0, .asg 2 (.c (.nil 10))]) (.seq (.ops [.bsl 10 29 10 [], .asg 3 10]) (.seq (.seq (.ops [.fa 11 1 1, .ld 12 1 false 11, .len 13 12, .mv 14 (kI 0)]) (.block 0 aciQuery_exprs_L0)) (.seq (.seq (.ops [.fa 27 2 1, .ld 28 1 false 27, .len 29 28, .mv 30 (kI 0)]) (.block 2 aciQuery_exprs_L2)) (.seq (.ops [.mv 39 3, .fa 40 3 1, .ld 41 1 false 40, .app 42 29 10 136 39 41, .asg 3 42]) (.seq (.seq (.ops [.fa 43 4 1, .ld 44 1 false 43, .len 45 44, .mv 46 (kI 0)]) (.block 4 aciQuery_exprs_L3)) (.seq (.ops [.mv 56 3, .asg 2 56]) .ret)))))))
theorem triQuery_exprs : trFn Try.prog 43 = some (aciQuery_exprs, [.mv 0 2], 57) := by kernel_rfl
def qiQuery_exprs (r : (List GExpr)) : Exit → St → Prop := retQ [.mv 0 2] fun x b => x = (fun (y : (List GExpr)) => (.osl 2000000 29 10 (y.map cGExpr))) r ∧ bxHas ((fun (y : (List GExpr)) => []) r) b
def qiQuery_exprs_0 (r : (List GExpr)) : Exit → St → Prop := (thenK (wkK (avc Try.prog (.seq (.seq (.ops [.fa 27 2 1, .ld 28 1 false 27, .len 29 28, .mv 30 (.c (.d (.i .i64 0)))]) (.block 2 aciQuery_exprs_L2)) (.seq (.ops [.mv 39 3, .fa 40 3 1, .ld 41 1 false 40, .app 42 29 10 136 39 41, .asg 3 42]) (.seq (.seq (.ops [.fa 43 4 1, .ld 44 1 false 43, .len 45 44, .mv 46 (.c (.d (.i .i64 0)))]) (.block 4 aciQuery_exprs_L3)) (.seq (.ops [.mv 56 3, .asg 2 56]) .ret)))) (qiQuery_exprs r))) (qiQuery_exprs r))
def qiQuery_exprs_1 (r : (List GExpr)) : Exit → St → Prop := (blockK 0 (qiQuery_exprs_0 r))
def qiQuery_exprs_2 (r : (List GExpr)) : Exit → St → Prop := (thenK (avc Try.prog aciQuery_exprs_L0 (qiQuery_exprs_1 r)) (qiQuery_exprs_1 r))
def qiQuery_exprs_3 (r : (List GExpr)) : Exit → St → Prop := (thenK (wkK (avc Try.prog (.seq (.ops [.mv 39 3, .fa 40 3 1, .ld 41 1 false 40, .app 42 29 10 136 39 41, .asg 3 42]) (.seq (.seq (.ops [.fa 43 4 1, .ld 44 1 false 43, .len 45 44, .mv 46 (.c (.d (.i .i64 0)))]) (.block 4 aciQuery_exprs_L3)) (.seq (.ops [.mv 56 3, .asg 2 56]) .ret))) (qiQuery_exprs r))) (qiQuery_exprs r))
def qiQuery_exprs_4 (r : (List GExpr)) : Exit → St → Prop := (blockK 2 (qiQuery_exprs_3 r))
def qiQuery_exprs_5 (r : (List GExpr)) : Exit → St → Prop := (thenK (wkK (avc Try.prog (.seq (.ops [.mv 56 3, .asg 2 56]) .ret) (qiQuery_exprs r))) (qiQuery_exprs r))
def qiQuery_exprs_6 (r : (List GExpr)) : Exit → St → Prop := (blockK 4 (qiQuery_exprs_5 r))
def stiQuery_exprs_L0 (p0 : GQuery) (x3 : (List GExpr)) (x14 : Int) : St := ⟨[(1, (.ptr 1 0)), (3, (.osl 3 29 10 (x3.map cGExpr))), (12, (.d (.sl 13 (p0.items.map cGItem)))), (13, (vI (p0.items.length : Int))), (14, (vI x14))], [(1, bGQuery p0)]⟩
def stiQuery_exprs_J1 (p0 : GQuery) (x14 : Int) (x3_3 : (List GExpr)) : St := ⟨[(1, (.ptr 1 0)), (3, (.osl 3 29 10 (x3_3.map cGExpr))), (12, (.d (.sl 13 (p0.items.map cGItem)))), (13, (vI (p0.items.length : Int))), (14, (vI x14))], [(1, bGQuery p0)]⟩
def stiQuery_exprs_L2 (p0 : GQuery) (x3_4 : (List GExpr)) (x30 : Int) : St := ⟨[(1, (.ptr 1 0)), (3, (.osl 3 29 10 (x3_4.map cGExpr))), (28, (.d (.sl 3 (p0.from_.map cGSource)))), (29, (vI (p0.from_.length : Int))), (30, (vI x30))], [(1, bGQuery p0)]⟩
def stiQuery_exprs_L3 (p0 : GQuery) (x3_8 : (List GExpr)) (x46 : Int) : St := ⟨[(3, (.osl 3 29 10 (x3_8.map cGExpr))), (44, (.d (.sl 11 (p0.order.map cGSortKey)))), (45, (vI (p0.order.length : Int))), (46, (vI x46))], []⟩
def aciStmtSize : AC := (.seq (.ops [.box 1 42 0, .asg 2 (kI 0)]) (.seq (.ops [.ld 3 12 true 1, .call (some 4) 48 [3], .call (some 5) 41 [4], .asg 2 5]) .ret))
theorem triStmtSize : trFn Try.prog 20 = some (aciStmtSize, [.mv 0 2], 6) := by kernel_rfl
def qiStmtSize (r : Int) : Exit → St → Prop := retQ [.mv 0 2] fun x _ => x = (fun y => (vI y)) r
def aciStmt_exprs_L0 : AC := (.loop (.seq (.ops [.bin 13 .lss 12 11]) (.seq (.cond 13 .skip (.exit 0)) (.seq (.block 1 (.seq (.ops [.ia 14 1 10 12, .ld 15 1 false 14, .asg 5 15]) (.ops [.mv 16 3, .mv 17 5, .app 18 29 10 136 16 17, .asg 3 18]))) (.ops [.bin 19 .add 12 (kI 1), .mv 12 19])))))
def aciStmt_exprs : AC := (.seq (.ops [.box 1 42 0, .asg 2 (.c (.nil 10))]) (.seq (.ops [.fa 6 1 1, .ld 7 6 true 6, .call (some 8) 43 [7], .asg 3 8]) (.seq (.seq (.ops [.fa 9 8 1, .ld 10 1 false 9, .len 11 10, .mv 12 (kI 0)]) (.block 0 aciStmt_exprs_L0)) (.seq (.ops [.mv 20 3, .fa 21 10 1, .ld 22 1 false 21, .app 23 29 10 136 20 22, .asg 3 23]) (.seq (.ops [.mv 24 3, .fa 25 11 1, .ld 26 1 false 25, .app 27 29 10 136 24 26, .asg 2 27]) .ret)))))
theorem triStmt_exprs : trFn Try.prog 48 = some (aciStmt_exprs, [.mv 0 2], 28) := by kernel_rfl
def qiStmt_exprs (r : (List GExpr)) : Exit → St → Prop := retQ [.mv 0 2] fun x b => x = (fun (y : (List GExpr)) => (.osl 2000000 29 10 (y.map cGExpr))) r ∧ bxHas ((fun (y : (List GExpr)) => []) r) b
def qiStmt_exprs_0 (r : (List GExpr)) : Exit → St → Prop := (thenK (wkK (avc Try.prog (.seq (.ops [.mv 20 3, .fa 21 10 1, .ld 22 1 false 21, .app 23 29 10 136 20 22, .asg 3 23]) (.seq (.ops [.mv 24 3, .fa 25 11 1, .ld 26 1 false 25, .app 27 29 10 136 24 26, .asg 2 27]) .ret)) (qiStmt_exprs r))) (qiStmt_exprs r))
def qiStmt_exprs_1 (r : (List GExpr)) : Exit → St → Prop := (blockK 0 (qiStmt_exprs_0 r))
def stiStmt_exprs_L0 (p0 : GStmt) (x3 : (List GExpr)) (x12 : Int) : St := ⟨[(1, (.ptr 1 0)), (3, (.osl 3 29 10 (x3.map cGExpr))), (10, (.d (.sl 1 (p0.rows.map (cSl 10 cGExpr))))), (11, (vI (p0.rows.length : Int))), (12, (vI x12))], [(1, bGStmt p0)]⟩
def aciDepthOf_L0 : AC := (.loop (.seq (.ops [.bin 12 .lss 11 10]) (.seq (.cond 12 .skip (.exit 0)) (.seq (.block 1 (.seq (.ops [.ia 13 10 9 11, .ld 14 10 true 13, .alc 5 [(.d (.i .i64 0)), (.d (.i .i64 0)), (.d (.b false)), (.d (.i .i64 0)), (.d (.i .i64 0)), (.d (.s (bs []))), (.d (.s (bs []))), (.d (.s (bs []))), (.nil 10), (.nil 6)], .st 10 5 14]) (.ops [.mv 15 3, .ld 16 10 true 5, .call (some 17) 12 [16], .max 18 15 17, .asg 3 18]))) (.ops [.bin 19 .add 11 (kI 1), .mv 11 19])))))
def aciDepthOf_L1 : AC := (.loop (.seq (.ops [.bin 24 .lss 23 22]) (.seq (.cond 24 .skip (.exit 2)) (.seq (.block 3 (.seq (.ops [.ia 25 6 21 23, .ld 26 6 true 25, .alc 7 [(.d (.b false)), (.nil 13), (.nil 3), (.nil 10), (.nil 11), (.d (.i .i64 0))], .st 6 7 26]) (.ops [.mv 27 3, .ld 28 6 true 7, .call (some 29) 14 [28], .max 30 27 29, .asg 3 30]))) (.ops [.bin 31 .add 23 (kI 1), .mv 23 31])))))
def aciDepthOf : AC := (.seq (.ops [.box 1 29 0, .asg 2 (kI 0)]) (.seq (.ops [.asg 3 (kI 0)]) (.seq (.seq (.ops [.fa 8 8 1, .ld 9 1 false 8, .len 10 9, .mv 11 (kI 0)]) (.block 0 aciDepthOf_L0)) (.seq (.seq (.ops [.fa 20 9 1, .ld 21 1 false 20, .len 22 21, .mv 23 (kI 0)]) (.block 2 aciDepthOf_L1)) (.seq (.ops [.mv 32 3, .bin 33 .add (kI 1) 32, .asg 2 33]) .ret)))))
theorem triDepthOf : trFn Try.prog 12 = some (aciDepthOf, [.mv 0 2], 34) := by kernel_rfl
def qiDepthOf (r : Int) : Exit → St → Prop := retQ [.mv 0 2] fun x _ => x = (fun y => (vI y)) r
def qiDepthOf_0 (r : Int) : Exit → St → Prop := (thenK (wkK (avc Try.prog (.seq (.seq (.ops [.fa 20 9 1, .ld 21 1 false 20, .len 22 21, .mv 23 (.c (.d (.i .i64 0)))]) (.block 2 aciDepthOf_L1)) (.seq (.ops [.mv 32 3, .bin 33 .add (.c (.d (.i .i64 1))) 32, .asg 2 33]) .ret)) (qiDepthOf r))) (qiDepthOf r))
def qiDepthOf_1 (r : Int) : Exit → St → Prop := (blockK 0 (qiDepthOf_0 r))
def qiDepthOf_2 (r : Int) : Exit → St → Prop := (thenK (wkK (avc Try.prog (.seq (.ops [.mv 32 3, .bin 33 .add (.c (.d (.i .i64 1))) 32, .asg 2 33]) .ret) (qiDepthOf r))) (qiDepthOf r))
def qiDepthOf_3 (r : Int) : Exit → St → Prop := (blockK 2 (qiDepthOf_2 r))
def stiDepthOf_L0 (p0 : GExpr) (x3 : Int) (x11 : Int) : St := ⟨[(1, (.ptr 1 0)), (3, (vI x3)), (9, (.d (.sl 10 (p0.kids.map cGExpr)))), (10, (vI (p0.kids.length : Int))), (11, (vI x11))], [(1, bGExpr p0)]⟩
def stiDepthOf_L1 (p0 : GExpr) (x3_3 : Int) (x23 : Int) : St := ⟨[(3, (vI x3_3)), (21, (.d (.sl 6 (p0.sub.map cGQuery)))), (22, (vI (p0.sub.length : Int))), (23, (vI x23))], []⟩
def aciQueryDepth : AC := (.seq (.ops [.box 1 38 0, .asg 2 (kI 0)]) (.seq (.ops [.ld 3 6 true 1, .call (some 4) 43 [3], .call (some 5) 42 [4], .asg 2 5]) .ret))
theorem triQueryDepth : trFn Try.prog 14 = some (aciQueryDepth, [.mv 0 2], 6) := by kernel_rfl
def qiQueryDepth (r : Int) : Exit → St → Prop := retQ [.mv 0 2] fun x _ => x = (fun y => (vI y)) r
def aciDeepestOf_L0 : AC := (.loop (.seq (.ops [.bin 9 .lss 8 7]) (.seq (.cond 9 .skip (.exit 0)) (.seq (.block 1 (.seq (.ops [.ia 10 10 6 8, .ld 11 10 true 10, .alc 5 [(.d (.i .i64 0)), (.d (.i .i64 0)), (.d (.b false)), (.d (.i .i64 0)), (.d (.i .i64 0)), (.d (.s (bs []))), (.d (.s (bs []))), (.d (.s (bs []))), (.nil 10), (.nil 6)], .st 10 5 11]) (.ops [.mv 12 3, .ld 13 10 true 5, .call (some 14) 12 [13], .max 15 12 14, .asg 3 15]))) (.ops [.bin 16 .add 8 (kI 1), .mv 8 16])))))
def aciDeepestOf : AC := (.seq (.ops [.asg 2 (kI 0)]) (.seq (.ops [.asg 3 (kI 0)]) (.seq (.seq (.ops [.mv 6 0, .len 7 6, .mv 8 (kI 0)]) (.block 0 aciDeepestOf_L0)) (.seq (.ops [.mv 17 3, .asg 2 17]) .ret))))
theorem triDeepestOf : trFn Try.prog 42 = some (aciDeepestOf, [.mv 0 2], 18) := by kernel_rfl
def qiDeepestOf (r : Int) : Exit → St → Prop := retQ [.mv 0 2] fun x _ => x = (fun y => (vI y)) r
def qiDeepestOf_0 (r : Int) : Exit → St → Prop := (thenK (wkK (avc Try.prog (.seq (.ops [.mv 17 3, .asg 2 17]) .ret) (qiDeepestOf r))) (qiDeepestOf r))
def qiDeepestOf_1 (r : Int) : Exit → St → Prop := (blockK 0 (qiDeepestOf_0 r))
def stiDeepestOf_L0 (p0 : (List GExpr)) (x3 : Int) (x8 : Int) : St := ⟨[(3, (vI x3)), (6, (.d (.sl 10 (p0.map cGExpr)))), (7, (vI (p0.length : Int))), (8, (vI x8))], []⟩
def aciExprsOf_L0 : AC := (.loop (.seq (.ops [.bin 13 .lss 12 11]) (.seq (.cond 13 .skip (.exit 0)) (.seq (.block 1 (.seq (.ops [.ia 14 1 10 12, .ld 15 1 false 14, .asg 5 15]) (.ops [.mv 16 3, .mv 17 5, .app 18 29 10 136 16 17, .asg 3 18]))) (.ops [.bin 19 .add 12 (kI 1), .mv 12 19])))))
def aciExprsOf : AC := (.seq (.ops [.box 1 42 0, .asg 2 (.c (.nil 10))]) (.seq (.ops [.fa 6 1 1, .ld 7 6 true 6, .call (some 8) 43 [7], .asg 3 8]) (.seq (.seq (.ops [.fa 9 8 1, .ld 10 1 false 9, .len 11 10, .mv 12 (kI 0)]) (.block 0 aciExprsOf_L0)) (.seq (.ops [.mv 20 3, .fa 21 10 1, .ld 22 1 false 21, .app 23 29 10 136 20 22, .asg 3 23]) (.seq (.ops [.mv 24 3, .fa 25 11 1, .ld 26 1 false 25, .app 27 29 10 136 24 26, .asg 3 27]) (.seq (.ops [.mv 28 3, .call (some 29) 45 [28], .asg 2 29]) .ret))))))
theorem triExprsOf : trFn Try.prog 17 = some (aciExprsOf, [.mv 0 2], 30) := by kernel_rfl
def qiExprsOf (r : (List GExpr)) : Exit → St → Prop := retQ [.mv 0 2] fun x _ => x = (fun y => (.d (.sl 10 (y.map cGExpr)))) r
def qiExprsOf_0 (r : (List GExpr)) : Exit → St → Prop := (thenK (wkK (avc Try.prog (.seq (.ops [.mv 20 3, .fa 21 10 1, .ld 22 1 false 21, .app 23 29 10 136 20 22, .asg 3 23]) (.seq (.ops [.mv 24 3, .fa 25 11 1, .ld 26 1 false 25, .app 27 29 10 136 24 26, .asg 3 27]) (.seq (.ops [.mv 28 3, .call (some 29) 45 [28], .asg 2 29]) .ret))) (qiExprsOf r))) (qiExprsOf r))
def qiExprsOf_1 (r : (List GExpr)) : Exit → St → Prop := (blockK 0 (qiExprsOf_0 r))
def stiExprsOf_L0 (p0 : GStmt) (x3 : (List GExpr)) (x12 : Int) : St := ⟨[(1, (.ptr 1 0)), (3, (.osl 3 29 10 (x3.map cGExpr))), (10, (.d (.sl 1 (p0.rows.map (cSl 10 cGExpr))))), (11, (vI (p0.rows.length : Int))), (12, (vI x12))], [(1, bGStmt p0)]⟩
def aciCopyExprs_L0 : AC := (.loop (.seq (.ops [.bin 12 .lss 11 10]) (.seq (.cond 12 .skip (.exit 0)) (.seq (.block 1 (.seq (.ops [.ia 13 10 9 11, .ld 14 10 true 13, .alc 5 [(.d (.i .i64 0)), (.d (.i .i64 0)), (.d (.b false)), (.d (.i .i64 0)), (.d (.i .i64 0)), (.d (.s (bs []))), (.d (.s (bs []))), (.d (.s (bs []))), (.nil 10), (.nil 6)], .st 10 5 14]) (.ops [.mv 15 3, .ld 16 10 true 5, .call (some 17) 91 [16], .bsl 18 29 10 [17], .app 19 29 10 136 15 18, .asg 3 19]))) (.ops [.bin 20 .add 11 (kI 1), .mv 11 20])))))
def aciCopyExprs : AC := (.seq (.ops [.asg 2 (.c (.nil 10))]) (.seq (.seq (.ops [.mv 6 0, .eqn 7 false 6]) (.cond 7 (.seq (.ops [.asg 2 (.c (.nil 10))]) .ret) .skip)) (.seq (.ops [.bsl 8 29 10 [], .asg 3 8]) (.seq (.seq (.ops [.mv 9 0, .len 10 9, .mv 11 (kI 0)]) (.block 0 aciCopyExprs_L0)) (.seq (.ops [.mv 21 3, .asg 2 21]) .ret)))))
theorem triCopyExprs : trFn Try.prog 45 = some (aciCopyExprs, [.mv 0 2], 22) := by kernel_rfl
def qiCopyExprs (r : (List GExpr)) : Exit → St → Prop := retQ [.mv 0 2] fun x _ => x = (fun y => (.d (.sl 10 (y.map cGExpr)))) r
def qiCopyExprs_0 (r : (List GExpr)) : Exit → St → Prop := (thenK (wkK (avc Try.prog (.seq (.ops [.mv 21 3, .asg 2 21]) .ret) (qiCopyExprs r))) (qiCopyExprs r))
def qiCopyExprs_1 (r : (List GExpr)) : Exit → St → Prop := (blockK 0 (qiCopyExprs_0 r))
def stiCopyExprs_L0 (p0 : (List GExpr)) (x11 : Int) (b60025000_0 : (List GExpr)) : St := ⟨[(3, (.tre 60025000)), (9, (.d (.sl 10 (p0.map cGExpr)))), (10, (vI (p0.length : Int))), (11, (vI x11))], [(60025000, [(.trc 10 (b60025000_0.map cGExpr))])]⟩
def aciCopyExpr_X_L0 : AC := (.loop (.seq (.ops [.bin 15 .lss 14 13]) (.seq (.cond 15 .skip (.exit 0)) (.seq (.block 1 (.seq (.ops [.ia 16 6 12 14, .ld 17 6 true 16, .alc 5 [(.d (.b false)), (.nil 13), (.nil 3), (.nil 10), (.nil 11), (.d (.i .i64 0))], .st 6 5 17]) (.ops [.mv 18 3, .ld 19 6 true 5, .call (some 20) 154 [19], .bsl 21 38 6 [20], .app 22 38 6 112 18 21, .asg 3 22]))) (.ops [.bin 23 .add 14 (kI 1), .mv 14 23])))))
def aciCopyExpr_X : AC := (.seq (.ops [.box 1 29 0, .alc 2 [(.d (.i .i64 0)), (.d (.i .i64 0)), (.d (.b false)), (.d (.i .i64 0)), (.d (.i .i64 0)), (.d (.s (bs []))), (.d (.s (bs []))), (.d (.s (bs []))), (.nil 10), (.nil 6)]]) (.seq (.ops [.fa 6 8 1, .ld 7 1 false 6, .call (some 8) 45 [7], .fa 9 8 1, .st 1 9 8]) (.seq (.ops [.bsl 10 38 6 [], .asg 3 10]) (.seq (.seq (.ops [.fa 11 9 1, .ld 12 1 false 11, .len 13 12, .mv 14 (kI 0)]) (.block 0 aciCopyExpr_X_L0)) (.seq (.ops [.mv 24 3, .fa 25 9 1, .st 1 25 24]) (.seq (.ops [.ld 26 10 true 1, .st 10 2 26]) .ret))))))
theorem triCopyExpr_X : trFn Try.prog 91 = some (aciCopyExpr_X, [.ld 0 10 true 2], 27) := by kernel_rfl
def qiCopyExpr_X (r : GExpr) : Exit → St → Prop := retQ [.ld 0 10 true 2] fun x b => x = (fun (y : GExpr) => (.agv [(vI y.kind), (vI y.op), (vB y.not_), (vI y.value.kind), (vI y.value.num), (vS y.value.text), (vS y.qual), (vS y.name), (.tre 10000008), (.tre 10000009)])) r ∧ bxHas ((fun (y : GExpr) => [(10000008, [(.trc 10 (y.kids.map cGExpr))]), (10000009, [(.trc 6 (y.sub.map cGQuery))])]) r) b
def qiCopyExpr_X_0 (r : GExpr) : Exit → St → Prop := (thenK (wkK (avc Try.prog (.seq (.ops [.mv 24 3, .fa 25 9 1, .st 1 25 24]) (.seq (.ops [.ld 26 10 true 1, .st 10 2 26]) .ret)) (qiCopyExpr_X r))) (qiCopyExpr_X r))
def qiCopyExpr_X_1 (r : GExpr) : Exit → St → Prop := (blockK 0 (qiCopyExpr_X_0 r))
def stiCopyExpr_X_L0 (p0 : GExpr) (y1 : (List GExpr)) (x14 : Int) (b60023000_0 : (List GQuery)) : St := ⟨[(1, (.ptr 1 0)), (2, (.ptr 2 0)), (3, (.tre 60023000)), (12, (.d (.sl 6 (p0.sub.map cGQuery)))), (13, (vI (p0.sub.length : Int))), (14, (vI x14))], [(1, [(vI p0.kind), (vI p0.op), (vB p0.not_), (vI p0.value.kind), (vI p0.value.num), (vS p0.value.text), (vS p0.qual), (vS p0.name), (.tre 60023001), (.d (.sl 6 (p0.sub.map cGQuery)))]), (2, [(vI 0), (vI 0), (vB false), (vI 0), (vI 0), (vS []), (vS []), (vS []), (.nil 10), (.nil 6)]), (60023000, [(.trc 6 (b60023000_0.map cGQuery))]), (60023001, [(.trc 10 (y1.map cGExpr))])]⟩
def aciCopyExprs_X_L0 : AC := (.loop (.seq (.ops [.bin 12 .lss 11 10]) (.seq (.cond 12 .skip (.exit 0)) (.seq (.block 1 (.seq (.ops [.ia 13 10 9 11, .ld 14 10 true 13, .alc 5 [(.d (.i .i64 0)), (.d (.i .i64 0)), (.d (.b false)), (.d (.i .i64 0)), (.d (.i .i64 0)), (.d (.s (bs []))), (.d (.s (bs []))), (.d (.s (bs []))), (.nil 10), (.nil 6)], .st 10 5 14]) (.ops [.mv 15 3, .ld 16 10 true 5, .call (some 17) 91 [16], .bsl 18 29 10 [17], .app 19 29 10 136 15 18, .asg 3 19]))) (.ops [.bin 20 .add 11 (kI 1), .mv 11 20])))))
def aciCopyExprs_X : AC := (.seq (.ops [.asg 2 (.c (.nil 10))]) (.seq (.seq (.ops [.mv 6 0, .eqn 7 false 6]) (.cond 7 (.seq (.ops [.asg 2 (.c (.nil 10))]) .ret) .skip)) (.seq (.ops [.bsl 8 29 10 [], .asg 3 8]) (.seq (.seq (.ops [.mv 9 0, .len 10 9, .mv 11 (kI 0)]) (.block 0 aciCopyExprs_X_L0)) (.seq (.ops [.mv 21 3, .asg 2 21]) .ret)))))
theorem triCopyExprs_X : trFn Try.prog 45 = some (aciCopyExprs_X, [.mv 0 2], 22) := by kernel_rfl
def qiCopyExprs_X (r : (List GExpr)) : Exit → St → Prop := retQ [.mv 0 2] fun x b => x = (fun (y : (List GExpr)) => (.tre 10000000)) r ∧ bxHas ((fun (y : (List GExpr)) => [(10000000, [(.trc 10 (y.map cGExpr))])]) r) b
def qiCopyExprs_X_0 (r : (List GExpr)) : Exit → St → Prop := (thenK (wkK (avc Try.prog (.seq (.ops [.mv 21 3, .asg 2 21]) .ret) (qiCopyExprs_X r))) (qiCopyExprs_X r))
def qiCopyExprs_X_1 (r : (List GExpr)) : Exit → St → Prop := (blockK 0 (qiCopyExprs_X_0 r))
def stiCopyExprs_X_L0 (p0 : (List GExpr)) (x11 : Int) (b60025000_0 : (List GExpr)) : St := ⟨[(3, (.tre 60025000)), (9, (.d (.sl 10 (p0.map cGExpr)))), (10, (vI (p0.length : Int))), (11, (vI x11))], [(60025000, [(.trc 10 (b60025000_0.map cGExpr))])]⟩
def aciCopyQuery_X_L0 : AC := (.loop (.seq (.ops [.bin 22 .lss 21 20]) (.seq (.cond 22 .skip (.exit 0)) (.seq (.block 1 (.seq (.ops [.ia 23 13 19 21, .ld 24 13 true 23, .alc 5 [(.d (.b false)), (.d (.s (bs []))), (.d (.i .i64 0)), (.d (.i .i64 0)), (.d (.b false)), (.d (.i .i64 0)), (.d (.i .i64 0)), (.d (.s (bs []))), (.d (.s (bs []))), (.d (.s (bs []))), (.nil 10), (.nil 6), (.d (.s (bs [])))], .st 13 5 24]) (.seq (.ops [.fa 25 2 5, .ld 26 10 true 25, .call (some 27) 91 [26], .fa 28 2 5, .st 10 28 27]) (.ops [.fa 29 1 3, .ld 30 1 false 29, .ld 31 13 true 5, .bsl 32 111 13 [31], .app 33 111 13 176 30 32, .fa 34 1 3, .st 1 34 33])))) (.ops [.bin 35 .add 21 (kI 1), .mv 21 35])))))
def aciCopyQuery_X_L1 : AC := (.loop (.seq (.ops [.bin 40 .lss 39 38]) (.seq (.cond 40 .skip (.exit 2)) (.seq (.block 3 (.seq (.ops [.ia 41 3 37 39, .ld 42 3 true 41, .alc 7 [(.d (.s (bs []))), (.d (.s (bs []))), (.nil 10)], .st 3 7 42]) (.seq (.ops [.fa 43 2 7, .ld 44 1 false 43, .call (some 45) 45 [44], .fa 46 2 7, .st 1 46 45]) (.ops [.fa 47 2 3, .ld 48 1 false 47, .ld 49 3 true 7, .bsl 50 113 3 [49], .app 51 113 3 56 48 50, .fa 52 2 3, .st 1 52 51])))) (.ops [.bin 53 .add 39 (kI 1), .mv 39 53])))))
def aciCopyQuery_X_L2 : AC := (.loop (.seq (.ops [.bin 58 .lss 57 56]) (.seq (.cond 58 .skip (.exit 4)) (.seq (.block 5 (.seq (.ops [.ia 59 11 55 57, .ld 60 11 true 59, .alc 9 [(.d (.i .i64 0)), (.d (.i .i64 0)), (.d (.b false)), (.d (.i .i64 0)), (.d (.i .i64 0)), (.d (.s (bs []))), (.d (.s (bs []))), (.d (.s (bs []))), (.nil 10), (.nil 6), (.d (.b false))], .st 11 9 60]) (.seq (.ops [.fa 61 0 9, .ld 62 10 true 61, .call (some 63) 91 [62], .fa 64 0 9, .st 10 64 63]) (.ops [.fa 65 4 3, .ld 66 1 false 65, .ld 67 11 true 9, .bsl 68 115 11 [67], .app 69 115 11 144 66 68, .fa 70 4 3, .st 1 70 69])))) (.ops [.bin 71 .add 57 (kI 1), .mv 57 71])))))
def aciCopyQuery_X : AC := (.seq (.ops [.box 1 38 0, .alc 2 [(.d (.b false)), (.nil 13), (.nil 3), (.nil 10), (.nil 11), (.d (.i .i64 0))]]) (.seq (.dops [[], [0], [], [2], [3], [], [5], [1, 4, 6], [], [8, 7, 4, 0, 1, 2, 3, 4, 5, 6, 7, 8]] [.fa 10 0 1, .ld 11 1 false 10, .fa 12 3 1, .ld 13 1 false 12, .call (some 14) 45 [13], .fa 15 5 1, .ld 16 1 false 15, .bld 17 [(.d (.b false)), (.nil 13), (.nil 3), (.nil 10), (.nil 11), (.d (.i .i64 0))] [(0, 1, 11), (3, 1, 14), (5, 1, 16)], .alc 3 [(.d (.b false)), (.nil 13), (.nil 3), (.nil 10), (.nil 11), (.d (.i .i64 0))], .st 6 3 17]) (.seq (.seq (.ops [.fa 18 1 1, .ld 19 1 false 18, .len 20 19, .mv 21 (kI 0)]) (.block 0 aciCopyQuery_X_L0)) (.seq (.seq (.ops [.fa 36 2 1, .ld 37 1 false 36, .len 38 37, .mv 39 (kI 0)]) (.block 2 aciCopyQuery_X_L1)) (.seq (.seq (.ops [.fa 54 4 1, .ld 55 1 false 54, .len 56 55, .mv 57 (kI 0)]) (.block 4 aciCopyQuery_X_L2)) (.seq (.ops [.ld 72 6 true 3, .st 6 2 72]) .ret))))))
theorem triCopyQuery_X : trFn Try.prog 154 = some (aciCopyQuery_X, [.ld 0 6 true 2], 73) := by kernel_rfl
def qiCopyQuery_X (r : GQuery) : Exit → St → Prop := retQ [.ld 0 6 true 2] fun x b => x = (fun (y : GQuery) => (.agv [(vB y.distinct), (.tre 10000001), (.tre 10000002), (.tre 10000003), (.tre 10000004), (vI y.limit)])) r ∧ bxHas ((fun (y : GQuery) => [(10000001, [(.trc 13 (y.items.map cGItem))]), (10000002, [(.trc 3 (y.from_.map cGSource))]), (10000003, [(.trc 10 (y.where_.map cGExpr))]), (10000004, [(.trc 11 (y.order.map cGSortKey))])]) r) b
def qiCopyQuery_X_0 (r : GQuery) : Exit → St → Prop := (thenK (wkK (avc Try.prog (.seq (.seq (.ops [.fa 36 2 1, .ld 37 1 false 36, .len 38 37, .mv 39 (.c (.d (.i .i64 0)))]) (.block 2 aciCopyQuery_X_L1)) (.seq (.seq (.ops [.fa 54 4 1, .ld 55 1 false 54, .len 56 55, .mv 57 (.c (.d (.i .i64 0)))]) (.block 4 aciCopyQuery_X_L2)) (.seq (.ops [.ld 72 6 true 3, .st 6 2 72]) .ret))) (qiCopyQuery_X r))) (qiCopyQuery_X r))
def qiCopyQuery_X_1 (r : GQuery) : Exit → St → Prop := (blockK 0 (qiCopyQuery_X_0 r))
def qiCopyQuery_X_2 (r : GQuery) : Exit → St → Prop := (thenK (wkK (avc Try.prog (.seq (.seq (.ops [.fa 54 4 1, .ld 55 1 false 54, .len 56 55, .mv 57 (.c (.d (.i .i64 0)))]) (.block 4 aciCopyQuery_X_L2)) (.seq (.ops [.ld 72 6 true 3, .st 6 2 72]) .ret)) (qiCopyQuery_X r))) (qiCopyQuery_X r))
def qiCopyQuery_X_3 (r : GQuery) : Exit → St → Prop := (blockK 2 (qiCopyQuery_X_2 r))
def qiCopyQuery_X_4 (r : GQuery) : Exit → St → Prop := (thenK (wkK (avc Try.prog (.seq (.ops [.ld 72 6 true 3, .st 6 2 72]) .ret) (qiCopyQuery_X r))) (qiCopyQuery_X r))
def qiCopyQuery_X_5 (r : GQuery) : Exit → St → Prop := (blockK 4 (qiCopyQuery_X_4 r))
def stiCopyQuery_X_L0 (p0 : GQuery) (y1 : (List GExpr)) (x21 : Int) (b60024000_0 : (List GItem)) : St := ⟨[(1, (.ptr 1 0)), (2, (.ptr 2 0)), (3, (.ptr 3 0)), (19, (.d (.sl 13 (p0.items.map cGItem)))), (20, (vI (p0.items.length : Int))), (21, (vI x21))], [(1, bGQuery p0), (2, [(vB false), (.nil 13), (.nil 3), (.nil 10), (.nil 11), (vI 0)]), (3, [(vB p0.distinct), (.tre 60024000), (.nil 3), (.tre 60024001), (.nil 11), (vI p0.limit)]), (60024000, [(.trc 13 (b60024000_0.map cGItem))]), (60024001, [(.trc 10 (y1.map cGExpr))])]⟩
def stiCopyQuery_X_L1 (p0 : GQuery) (b60024000_0 : (List GItem)) (y1 : (List GExpr)) (x39 : Int) (b60066001_0 : (List GSource)) : St := ⟨[(1, (.ptr 1 0)), (2, (.ptr 2 0)), (3, (.ptr 3 0)), (37, (.d (.sl 3 (p0.from_.map cGSource)))), (38, (vI (p0.from_.length : Int))), (39, (vI x39))], [(1, bGQuery p0), (2, [(vB false), (.nil 13), (.nil 3), (.nil 10), (.nil 11), (vI 0)]), (3, [(vB p0.distinct), (.tre 60066000), (.tre 60066001), (.tre 60066002), (.nil 11), (vI p0.limit)]), (60066001, [(.trc 3 (b60066001_0.map cGSource))]), (60066000, [(.trc 13 (b60024000_0.map cGItem))]), (60066002, [(.trc 10 (y1.map cGExpr))])]⟩
def stiCopyQuery_X_L2 (p0 : GQuery) (b60066001_0 : (List GSource)) (b60024000_0 : (List GItem)) (y1 : (List GExpr)) (x57 : Int) (b60108003_0 : (List GSortKey)) : St := ⟨[(2, (.ptr 2 0)), (3, (.ptr 3 0)), (55, (.d (.sl 11 (p0.order.map cGSortKey)))), (56, (vI (p0.order.length : Int))), (57, (vI x57))], [(2, [(vB false), (.nil 13), (.nil 3), (.nil 10), (.nil 11), (vI 0)]), (3, [(vB p0.distinct), (.tre 60108000), (.tre 60108001), (.tre 60108002), (.tre 60108003), (vI p0.limit)]), (60108003, [(.trc 11 (b60108003_0.map cGSortKey))]), (60108001, [(.trc 3 (b60066001_0.map cGSource))]), (60108000, [(.trc 13 (b60024000_0.map cGItem))]), (60108002, [(.trc 10 (y1.map cGExpr))])]⟩
def aciStmtDepth : AC := (.seq (.ops [.box 1 42 0, .asg 2 (kI 0)]) (.seq (.ops [.ld 3 12 true 1, .call (some 4) 48 [3], .call (some 5) 42 [4], .asg 2 5]) .ret))
theorem triStmtDepth : trFn Try.prog 19 = some (aciStmtDepth, [.mv 0 2], 6) := by kernel_rfl
def qiStmtDepth (r : Int) : Exit → St → Prop := retQ [.mv 0 2] fun x _ => x = (fun y => (vI y)) r
def acwLow : AC := (.seq (.ops [.asg 4 (kI 0)]) (.seq (.seq (.ops [.mv 5 0, .mv 6 1, .bin 7 .lss 5 6]) (.cond 7 (.seq (.ops [.mv 8 0, .asg 4 8]) .ret) .skip)) (.seq (.ops [.mv 9 1, .asg 4 9]) .ret)))
theorem trwLow : trFn Try.prog 11 = some (acwLow, [.mv 0 4], 10) := by kernel_rfl
def qwLow (r : Int) : Exit → St → Prop := retQ [.mv 0 4] fun x _ => x = (fun y => (vI y)) r
def acsDrawStmtDepth : AC := (.seq (.ops [.alc 2 [(.d (.i .i64 0)), (.d (.b false)), (.nil 13), (.nil 3), (.nil 10), (.nil 11), (.d (.i .i64 0)), (.d (.s (bs []))), (.nil 1), (.nil 1), (.nil 10), (.nil 10)]]) (.seq (.ops [.mv 3 0, .call (some 4) 44 [3], .st 12 2 4]) .ret))
theorem trsDrawStmtDepth : trFn Try.prog 16 = some (acsDrawStmtDepth, [.ld 0 12 true 2], 5) := by kernel_rfl
def qsDrawStmtDepth (r : GStmt) : Exit → St → Prop := retQ [.ld 0 12 true 2] fun x _ => x = (fun y => (vGStmt y)) r
def acsL1New_L0 : AC := (.loop (.seq (.seq (.ops [.mv 8 4, .mv 9 0, .len 10 9, .bin 11 .lss 8 10, .mv 12 11, .g 12 true (.mv 13 4), .g 12 true (.bin 14 .lss 13 (kI 4000)), .pick 15 12 14 (kB false)]) (.cond 15 .skip (.exit 0))) (.seq (.block 1 (.ops [.mv 18 3, .bin 19 .mul 18 (kI 131), .mv 20 0, .mv 21 4, .ia 22 1 20 21, .ld 23 1 false 22, .cvi 24 .i64 23, .bin 25 .add 19 24, .bin 26 .add 25 (kI 7), .bin 27 .and 26 (kI 1073741823), .asg 3 27])) (.ops [.mv 16 4, .bin 17 .add 16 (kI 1), .asg 4 17]))))
def acsL1New : AC := (.seq (.ops [.asg 2 (.c .np)]) (.seq (.ops [.mv 5 0, .len 6 5, .bin 7 .add (kI 28322) 6, .asg 3 7]) (.seq (.seq (.ops [.asg 4 (kI 0)]) (.block 0 acsL1New_L0)) (.seq (.ops [.mv 28 0, .mv 29 3, .bld 30 [(.nil 1), (.d (.i .i64 0)), (.d (.i .i64 0))] [(0, 1, 28), (2, 1, 29)], .box 31 162 30, .asg 2 31]) .ret))))
theorem trsL1New : trFn Try.prog 82 = some (acsL1New, [.mv 0 2], 32) := by kernel_rfl
def qsL1New (r : GL1Cur) : Exit → St → Prop := retQ [.mv 0 2] fun x b => x = (fun (y : GL1Cur) => (.ptr 31 0)) r ∧ bxHas ((fun (y : GL1Cur) => [(31, bGL1Cur y)]) r) b
def qsL1New_0 (r : GL1Cur) : Exit → St → Prop := (thenK (wkK (avc Try.prog (.seq (.ops [.mv 28 0, .mv 29 3, .bld 30 [(.nil 1), (.d (.i .i64 0)), (.d (.i .i64 0))] [(0, 1, 28), (2, 1, 29)], .box 31 162 30, .asg 2 31]) .ret) (qsL1New r))) (qsL1New r))
def qsL1New_1 (r : GL1Cur) : Exit → St → Prop := (blockK 0 (qsL1New_0 r))
def stsL1New_L0 (p0 : (List Int)) (x3 : Int) (x4 : Int) : St := ⟨[(0, (.d (.sl 1 (p0.map cU8)))), (3, (vI x3)), (4, (vI x4))], []⟩
def acsExprsOf : AC := (.seq (.ops [.box 1 42 0, .asg 2 (.c (.nil 10))]) (.seq (.ops [.ld 3 12 true 1, .call (some 4) 47 [3], .call (some 5) 46 [4], .asg 2 5]) .ret))
theorem trsExprsOf : trFn Try.prog 18 = some (acsExprsOf, [.mv 0 2], 6) := by kernel_rfl
def qsExprsOf (r : (List GExpr)) : Exit → St → Prop := retQ [.mv 0 2] fun x _ => x = (fun y => (.d (.sl 10 (y.map cGExpr)))) r
def acsL8Exprs_L0 : AC := (.loop (.seq (.seq (.ops [.mv 8 4, .fa 9 8 1, .ld 10 1 false 9, .len 11 10, .bin 12 .lss 8 11]) (.cond 12 .skip (.exit 0))) (.seq (.block 1 (.ops [.mv 15 3, .fa 16 8 1, .ld 17 1 false 16, .mv 18 4, .ia 19 1 17 18, .ld 20 1 false 19, .app 21 29 10 136 15 20, .asg 3 21])) (.ops [.mv 13 4, .bin 14 .add 13 (kI 1), .asg 4 14]))))
def acsL8Exprs : AC := (.seq (.ops [.box 1 42 0, .asg 2 (.c (.nil 10))]) (.seq (.ops [.fa 5 1 1, .ld 6 6 true 5, .call (some 7) 93 [6], .asg 3 7]) (.seq (.seq (.ops [.asg 4 (kI 0)]) (.block 0 acsL8Exprs_L0)) (.seq (.ops [.mv 22 3, .fa 23 10 1, .ld 24 1 false 23, .app 25 29 10 136 22 24, .asg 3 25]) (.seq (.ops [.mv 26 3, .fa 27 11 1, .ld 28 1 false 27, .app 29 29 10 136 26 28, .asg 2 29]) .ret)))))
theorem trsL8Exprs : trFn Try.prog 47 = some (acsL8Exprs, [.mv 0 2], 30) := by kernel_rfl
def qsL8Exprs (r : (List GExpr)) : Exit → St → Prop := retQ [.mv 0 2] fun x b => x = (fun (y : (List GExpr)) => (.osl 2000000 29 10 (y.map cGExpr))) r ∧ bxHas ((fun (y : (List GExpr)) => []) r) b
def qsL8Exprs_0 (r : (List GExpr)) : Exit → St → Prop := (thenK (wkK (avc Try.prog (.seq (.ops [.mv 22 3, .fa 23 10 1, .ld 24 1 false 23, .app 25 29 10 136 22 24, .asg 3 25]) (.seq (.ops [.mv 26 3, .fa 27 11 1, .ld 28 1 false 27, .app 29 29 10 136 26 28, .asg 2 29]) .ret)) (qsL8Exprs r))) (qsL8Exprs r))
def qsL8Exprs_1 (r : (List GExpr)) : Exit → St → Prop := (blockK 0 (qsL8Exprs_0 r))
def stsL8Exprs_L0 (p0 : GStmt) (x3 : (List GExpr)) (x4 : Int) : St := ⟨[(1, (.ptr 1 0)), (3, (.osl 3 29 10 (x3.map cGExpr))), (4, (vI x4))], [(1, bGStmt p0)]⟩
def acsL7Exprs_J1 : AC := (.ops [.mv 13 4, .bin 14 .add 13 (kI 1), .asg 4 14])
def acsL7Exprs_L0 : AC := (.loop (.seq (.seq (.ops [.mv 8 4, .fa 9 1 1, .ld 10 1 false 9, .len 11 10, .bin 12 .lss 8 11]) (.cond 12 .skip (.exit 0))) (.seq (.block 1 (.seq (.ops [.fa 15 1 1, .ld 16 1 false 15, .mv 17 4, .ia 18 13 16 17, .fa 19 0 18, .ld 20 1 false 19, .not 21 20]) (.cond 21 (.ops [.mv 22 3, .fa 23 1 1, .ld 24 1 false 23, .mv 25 4, .ia 26 13 24 25, .fa 27 2 26, .ld 28 10 true 27, .bsl 29 29 10 [28], .app 30 29 10 136 22 29, .asg 3 30]) .skip))) acsL7Exprs_J1)))
def acsL7Exprs_L2 : AC := (.loop (.seq (.seq (.ops [.mv 31 5, .fa 32 2 1, .ld 33 1 false 32, .len 34 33, .bin 35 .lss 31 34]) (.cond 35 .skip (.exit 2))) (.seq (.block 3 (.ops [.mv 38 3, .fa 39 2 1, .ld 40 1 false 39, .mv 41 5, .ia 42 3 40 41, .fa 43 2 42, .ld 44 1 false 43, .app 45 29 10 136 38 44, .asg 3 45])) (.ops [.mv 36 5, .bin 37 .add 36 (kI 1), .asg 5 37]))))
def acsL7Exprs_L3 : AC := (.loop (.seq (.seq (.ops [.mv 50 6, .fa 51 4 1, .ld 52 1 false 51, .len 53 52, .bin 54 .lss 50 53]) (.cond 54 .skip (.exit 4))) (.seq (.block 5 (.ops [.mv 57 3, .fa 58 4 1, .ld 59 1 false 58, .mv 60 6, .ia 61 11 59 60, .fa 62 0 61, .ld 63 10 true 62, .bsl 64 29 10 [63], .app 65 29 10 136 57 64, .asg 3 65])) (.ops [.mv 55 6, .bin 56 .add 55 (kI 1), .asg 6 56]))))
def acsL7Exprs : AC := (.seq (.ops [.box 1 38 0, .asg 2 (.c (.nil 10))]) (.seq (.ops [.bsl 7 29 10 [], .asg 3 7]) (.seq (.seq (.ops [.asg 4 (kI 0)]) (.block 0 acsL7Exprs_L0)) (.seq (.seq (.ops [.asg 5 (kI 0)]) (.block 2 acsL7Exprs_L2)) (.seq (.ops [.mv 46 3, .fa 47 3 1, .ld 48 1 false 47, .app 49 29 10 136 46 48, .asg 3 49]) (.seq (.seq (.ops [.asg 6 (kI 0)]) (.block 4 acsL7Exprs_L3)) (.seq (.ops [.mv 66 3, .asg 2 66]) .ret)))))))
theorem trsL7Exprs : trFn Try.prog 93 = some (acsL7Exprs, [.mv 0 2], 67) := by kernel_rfl
def qsL7Exprs (r : (List GExpr)) : Exit → St → Prop := retQ [.mv 0 2] fun x b => x = (fun (y : (List GExpr)) => (.osl 2000000 29 10 (y.map cGExpr))) r ∧ bxHas ((fun (y : (List GExpr)) => []) r) b
def qsL7Exprs_0 (r : (List GExpr)) : Exit → St → Prop := (thenK (wkK (avc Try.prog (.seq (.seq (.ops [.asg 5 (.c (.d (.i .i64 0)))]) (.block 2 acsL7Exprs_L2)) (.seq (.ops [.mv 46 3, .fa 47 3 1, .ld 48 1 false 47, .app 49 29 10 136 46 48, .asg 3 49]) (.seq (.seq (.ops [.asg 6 (.c (.d (.i .i64 0)))]) (.block 4 acsL7Exprs_L3)) (.seq (.ops [.mv 66 3, .asg 2 66]) .ret)))) (qsL7Exprs r))) (qsL7Exprs r))
def qsL7Exprs_1 (r : (List GExpr)) : Exit → St → Prop := (blockK 0 (qsL7Exprs_0 r))
def qsL7Exprs_2 (r : (List GExpr)) : Exit → St → Prop := (thenK (avc Try.prog acsL7Exprs_L0 (qsL7Exprs_1 r)) (qsL7Exprs_1 r))
def qsL7Exprs_3 (r : (List GExpr)) : Exit → St → Prop := (thenK (wkK (avc Try.prog (.seq (.ops [.mv 46 3, .fa 47 3 1, .ld 48 1 false 47, .app 49 29 10 136 46 48, .asg 3 49]) (.seq (.seq (.ops [.asg 6 (.c (.d (.i .i64 0)))]) (.block 4 acsL7Exprs_L3)) (.seq (.ops [.mv 66 3, .asg 2 66]) .ret))) (qsL7Exprs r))) (qsL7Exprs r))
def qsL7Exprs_4 (r : (List GExpr)) : Exit → St → Prop := (blockK 2 (qsL7Exprs_3 r))
def qsL7Exprs_5 (r : (List GExpr)) : Exit → St → Prop := (thenK (wkK (avc Try.prog (.seq (.ops [.mv 66 3, .asg 2 66]) .ret) (qsL7Exprs r))) (qsL7Exprs r))
def qsL7Exprs_6 (r : (List GExpr)) : Exit → St → Prop := (blockK 4 (qsL7Exprs_5 r))
def stsL7Exprs_L0 (p0 : GQuery) (x3 : (List GExpr)) (x4 : Int) : St := ⟨[(1, (.ptr 1 0)), (3, (.osl 3 29 10 (x3.map cGExpr))), (4, (vI x4))], [(1, bGQuery p0)]⟩
def stsL7Exprs_J1 (x4 : Int) (p0 : GQuery) (x3_4 : (List GExpr)) : St := ⟨[(1, (.ptr 1 0)), (3, (.osl 3 29 10 (x3_4.map cGExpr))), (4, (vI x4))], [(1, bGQuery p0)]⟩
def stsL7Exprs_L2 (p0 : GQuery) (x3_5 : (List GExpr)) (x5 : Int) : St := ⟨[(1, (.ptr 1 0)), (3, (.osl 3 29 10 (x3_5.map cGExpr))), (5, (vI x5))], [(1, bGQuery p0)]⟩
def stsL7Exprs_L3 (p0 : GQuery) (x3_9 : (List GExpr)) (x6 : Int) : St := ⟨[(1, (.ptr 1 0)), (3, (.osl 3 29 10 (x3_9.map cGExpr))), (6, (vI x6))], [(1, bGQuery p0)]⟩
def acsL7Copies_L0 : AC := (.loop (.seq (.seq (.ops [.mv 6 4, .mv 7 0, .len 8 7, .bin 9 .lss 6 8]) (.cond 9 .skip (.exit 0))) (.seq (.block 1 (.ops [.mv 12 3, .mv 13 0, .mv 14 4, .ia 15 10 13 14, .ld 16 10 true 15, .call (some 17) 92 [16], .bsl 18 29 10 [17], .app 19 29 10 136 12 18, .asg 3 19])) (.ops [.mv 10 4, .bin 11 .add 10 (kI 1), .asg 4 11]))))
def acsL7Copies : AC := (.seq (.ops [.asg 2 (.c (.nil 10))]) (.seq (.ops [.bsl 5 29 10 [], .asg 3 5]) (.seq (.seq (.ops [.asg 4 (kI 0)]) (.block 0 acsL7Copies_L0)) (.seq (.ops [.mv 20 3, .asg 2 20]) .ret))))
theorem trsL7Copies : trFn Try.prog 46 = some (acsL7Copies, [.mv 0 2], 21) := by kernel_rfl
def qsL7Copies (r : (List GExpr)) : Exit → St → Prop := retQ [.mv 0 2] fun x _ => x = (fun y => (.d (.sl 10 (y.map cGExpr)))) r
def qsL7Copies_0 (r : (List GExpr)) : Exit → St → Prop := (thenK (wkK (avc Try.prog (.seq (.ops [.mv 20 3, .asg 2 20]) .ret) (qsL7Copies r))) (qsL7Copies r))
def qsL7Copies_1 (r : (List GExpr)) : Exit → St → Prop := (blockK 0 (qsL7Copies_0 r))
def stsL7Copies_L0 (p0 : (List GExpr)) (x4 : Int) (b60012000_0 : (List GExpr)) : St := ⟨[(0, (.d (.sl 10 (p0.map cGExpr)))), (3, (.tre 60012000)), (4, (vI x4))], [(60012000, [(.trc 10 (b60012000_0.map cGExpr))])]⟩
def acsL7Copy_X_L0 : AC := (.loop (.seq (.seq (.ops [.mv 11 4, .fa 12 9 1, .ld 13 1 false 12, .len 14 13, .bin 15 .lss 11 14]) (.cond 15 .skip (.exit 0))) (.seq (.block 1 (.dops [[], [0], [], [2], [], [3, 4], [5], [6], [7], [1, 8, 7], [0, 1, 2, 3, 4, 5, 6, 7, 8, 9], [10, 9, 9, 0, 1, 2, 3, 4, 5, 6, 7, 8, 9]] [.fa 18 9 3, .ld 19 1 false 18, .fa 20 9 1, .ld 21 1 false 20, .mv 22 4, .ia 23 6 21 22, .ld 24 6 true 23, .call (some 25) 155 [24], .bsl 26 38 6 [25], .app 27 38 6 112 19 26, .fa 28 9 3, .st 1 28 27])) (.ops [.mv 16 4, .bin 17 .add 16 (kI 1), .asg 4 17]))))
def acsL7Copy_X : AC := (.seq (.ops [.box 1 29 0, .alc 2 [(.d (.i .i64 0)), (.d (.i .i64 0)), (.d (.b false)), (.d (.i .i64 0)), (.d (.i .i64 0)), (.d (.s (bs []))), (.d (.s (bs []))), (.d (.s (bs []))), (.nil 10), (.nil 6)]]) (.seq (.ops [.ld 5 10 true 1, .alc 3 [(.d (.i .i64 0)), (.d (.i .i64 0)), (.d (.b false)), (.d (.i .i64 0)), (.d (.i .i64 0)), (.d (.s (bs []))), (.d (.s (bs []))), (.d (.s (bs []))), (.nil 10), (.nil 6)], .st 10 3 5]) (.seq (.ops [.fa 6 8 1, .ld 7 1 false 6, .call (some 8) 46 [7], .fa 9 8 3, .st 1 9 8]) (.seq (.ops [.fa 10 9 3, .st 1 10 (.c (.nil 6))]) (.seq (.seq (.ops [.asg 4 (kI 0)]) (.block 0 acsL7Copy_X_L0)) (.seq (.ops [.ld 29 10 true 3, .st 10 2 29]) .ret))))))
theorem trsL7Copy_X : trFn Try.prog 92 = some (acsL7Copy_X, [.ld 0 10 true 2], 30) := by kernel_rfl
def qsL7Copy_X (r : GExpr) : Exit → St → Prop := retQ [.ld 0 10 true 2] fun x b => x = (fun (y : GExpr) => (.agv [(vI y.kind), (vI y.op), (vB y.not_), (vI y.value.kind), (vI y.value.num), (vS y.value.text), (vS y.qual), (vS y.name), (.tre 10000008), (.tre 10000009)])) r ∧ bxHas ((fun (y : GExpr) => [(10000008, [(.trc 10 (y.kids.map cGExpr))]), (10000009, [(.trc 6 (y.sub.map cGQuery))])]) r) b
def qsL7Copy_X_0 (r : GExpr) : Exit → St → Prop := (thenK (wkK (avc Try.prog (.seq (.ops [.ld 29 10 true 3, .st 10 2 29]) .ret) (qsL7Copy_X r))) (qsL7Copy_X r))
def qsL7Copy_X_1 (r : GExpr) : Exit → St → Prop := (blockK 0 (qsL7Copy_X_0 r))
def stsL7Copy_X_L0 (p0 : GExpr) (y1 : (List GExpr)) (x4 : Int) (b60025001_0 : (List GQuery)) : St := ⟨[(1, (.ptr 1 0)), (2, (.ptr 2 0)), (3, (.ptr 3 0)), (4, (vI x4))], [(1, bGExpr p0), (2, [(vI 0), (vI 0), (vB false), (vI 0), (vI 0), (vS []), (vS []), (vS []), (.nil 10), (.nil 6)]), (3, [(vI p0.kind), (vI p0.op), (vB p0.not_), (vI p0.value.kind), (vI p0.value.num), (vS p0.value.text), (vS p0.qual), (vS p0.name), (.tre 60025000), (.tre 60025001)]), (60025001, [(.trc 6 (b60025001_0.map cGQuery))]), (60025000, [(.trc 10 (y1.map cGExpr))])]⟩
def acsL7CopyQuery_X_L0 : AC := (.loop (.seq (.seq (.ops [.mv 16 4, .fa 17 1 1, .ld 18 1 false 17, .len 19 18, .bin 20 .lss 16 19]) (.cond 20 .skip (.exit 0))) (.seq (.block 1 (.seq (.ops [.fa 23 1 1, .ld 24 1 false 23, .mv 25 4, .ia 26 13 24 25, .ld 27 13 true 26, .alc 5 [(.d (.b false)), (.d (.s (bs []))), (.d (.i .i64 0)), (.d (.i .i64 0)), (.d (.b false)), (.d (.i .i64 0)), (.d (.i .i64 0)), (.d (.s (bs []))), (.d (.s (bs []))), (.d (.s (bs []))), (.nil 10), (.nil 6), (.d (.s (bs [])))], .st 13 5 27]) (.seq (.ops [.fa 28 2 5, .ld 29 10 true 28, .call (some 30) 92 [29], .fa 31 2 5, .st 10 31 30]) (.ops [.fa 32 1 3, .ld 33 1 false 32, .ld 34 13 true 5, .bsl 35 111 13 [34], .app 36 111 13 176 33 35, .fa 37 1 3, .st 1 37 36])))) (.ops [.mv 21 4, .bin 22 .add 21 (kI 1), .asg 4 22]))))
def acsL7CopyQuery_X_L1 : AC := (.loop (.seq (.seq (.ops [.mv 38 6, .fa 39 2 1, .ld 40 1 false 39, .len 41 40, .bin 42 .lss 38 41]) (.cond 42 .skip (.exit 2))) (.seq (.block 3 (.dops [[], [0], [], [2], [], [3, 4], [5], [6], [], [8], [], [9, 10], [11], [12], [], [14], [], [15, 16], [17], [18], [19], [7, 13, 20], [21], [1, 22, 20], [0, 1, 2, 3, 4, 5, 6, 7, 8, 9, 10, 11, 12, 13, 14, 15, 16, 17, 18, 19, 20, 21, 22, 23], [24, 23, 23, 0, 1, 2, 3, 4, 5, 6, 7, 8, 9, 10, 11, 12, 13, 14, 15, 16, 17, 18, 19, 20, 21, 22, 23]] [.fa 45 2 3, .ld 46 1 false 45, .fa 47 2 1, .ld 48 1 false 47, .mv 49 6, .ia 50 3 48 49, .fa 51 0 50, .ld 52 1 false 51, .fa 53 2 1, .ld 54 1 false 53, .mv 55 6, .ia 56 3 54 55, .fa 57 1 56, .ld 58 1 false 57, .fa 59 2 1, .ld 60 1 false 59, .mv 61 6, .ia 62 3 60 61, .fa 63 2 62, .ld 64 1 false 63, .call (some 65) 46 [64], .bld 66 [(.d (.s (bs []))), (.d (.s (bs []))), (.nil 10)] [(0, 1, 52), (1, 1, 58), (2, 1, 65)], .bsl 67 113 3 [66], .app 68 113 3 56 46 67, .fa 69 2 3, .st 1 69 68])) (.ops [.mv 43 6, .bin 44 .add 43 (kI 1), .asg 6 44]))))
def acsL7CopyQuery_X_L2 : AC := (.loop (.seq (.seq (.ops [.mv 70 7, .fa 71 4 1, .ld 72 1 false 71, .len 73 72, .bin 74 .lss 70 73]) (.cond 74 .skip (.exit 4))) (.seq (.block 5 (.dops [[], [0], [], [2], [], [3, 4], [5], [6], [7], [], [9], [], [10, 11], [12], [13], [8, 14], [15], [1, 16, 8], [0, 1, 2, 3, 4, 5, 6, 7, 8, 9, 10, 11, 12, 13, 14, 15, 16, 17], [18, 17, 17, 0, 1, 2, 3, 4, 5, 6, 7, 8, 9, 10, 11, 12, 13, 14, 15, 16, 17]] [.fa 77 4 3, .ld 78 1 false 77, .fa 79 4 1, .ld 80 1 false 79, .mv 81 7, .ia 82 11 80 81, .fa 83 0 82, .ld 84 10 true 83, .call (some 85) 92 [84], .fa 86 4 1, .ld 87 1 false 86, .mv 88 7, .ia 89 11 87 88, .fa 90 10 89, .ld 91 1 false 90, .bld 92 [(.d (.i .i64 0)), (.d (.i .i64 0)), (.d (.b false)), (.d (.i .i64 0)), (.d (.i .i64 0)), (.d (.s (bs []))), (.d (.s (bs []))), (.d (.s (bs []))), (.nil 10), (.nil 6), (.d (.b false))] [(0, 10, 85), (10, 1, 91)], .bsl 93 115 11 [92], .app 94 115 11 144 78 93, .fa 95 4 3, .st 1 95 94])) (.ops [.mv 75 7, .bin 76 .add 75 (kI 1), .asg 7 76]))))
def acsL7CopyQuery_X : AC := (.seq (.ops [.box 1 38 0, .alc 2 [(.d (.b false)), (.nil 13), (.nil 3), (.nil 10), (.nil 11), (.d (.i .i64 0))]]) (.seq (.dops [[], [0], [], [2], [3], [], [5], [1, 4, 6], [], [8, 7, 4, 0, 1, 2, 3, 4, 5, 6, 7, 8]] [.fa 8 0 1, .ld 9 1 false 8, .fa 10 3 1, .ld 11 1 false 10, .call (some 12) 46 [11], .fa 13 5 1, .ld 14 1 false 13, .bld 15 [(.d (.b false)), (.nil 13), (.nil 3), (.nil 10), (.nil 11), (.d (.i .i64 0))] [(0, 1, 9), (3, 1, 12), (5, 1, 14)], .alc 3 [(.d (.b false)), (.nil 13), (.nil 3), (.nil 10), (.nil 11), (.d (.i .i64 0))], .st 6 3 15]) (.seq (.seq (.ops [.asg 4 (kI 0)]) (.block 0 acsL7CopyQuery_X_L0)) (.seq (.seq (.ops [.asg 6 (kI 0)]) (.block 2 acsL7CopyQuery_X_L1)) (.seq (.seq (.ops [.asg 7 (kI 0)]) (.block 4 acsL7CopyQuery_X_L2)) (.seq (.ops [.ld 96 6 true 3, .st 6 2 96]) .ret))))))
theorem trsL7CopyQuery_X : trFn Try.prog 155 = some (acsL7CopyQuery_X, [.ld 0 6 true 2], 97) := by kernel_rfl
def qsL7CopyQuery_X (r : GQuery) : Exit → St → Prop := retQ [.ld 0 6 true 2] fun x b => x = (fun (y : GQuery) => (.agv [(vB y.distinct), (.tre 10000001), (.tre 10000002), (.tre 10000003), (.tre 10000004), (vI y.limit)])) r ∧ bxHas ((fun (y : GQuery) => [(10000001, [(.trc 13 (y.items.map cGItem))]), (10000002, [(.trc 3 (y.from_.map cGSource))]), (10000003, [(.trc 10 (y.where_.map cGExpr))]), (10000004, [(.trc 11 (y.order.map cGSortKey))])]) r) b
def qsL7CopyQuery_X_0 (r : GQuery) : Exit → St → Prop := (thenK (wkK (avc Try.prog (.seq (.seq (.ops [.asg 6 (.c (.d (.i .i64 0)))]) (.block 2 acsL7CopyQuery_X_L1)) (.seq (.seq (.ops [.asg 7 (.c (.d (.i .i64 0)))]) (.block 4 acsL7CopyQuery_X_L2)) (.seq (.ops [.ld 96 6 true 3, .st 6 2 96]) .ret))) (qsL7CopyQuery_X r))) (qsL7CopyQuery_X r))
def qsL7CopyQuery_X_1 (r : GQuery) : Exit → St → Prop := (blockK 0 (qsL7CopyQuery_X_0 r))
def qsL7CopyQuery_X_2 (r : GQuery) : Exit → St → Prop := (thenK (wkK (avc Try.prog (.seq (.seq (.ops [.asg 7 (.c (.d (.i .i64 0)))]) (.block 4 acsL7CopyQuery_X_L2)) (.seq (.ops [.ld 96 6 true 3, .st 6 2 96]) .ret)) (qsL7CopyQuery_X r))) (qsL7CopyQuery_X r))
def qsL7CopyQuery_X_3 (r : GQuery) : Exit → St → Prop := (blockK 2 (qsL7CopyQuery_X_2 r))
def qsL7CopyQuery_X_4 (r : GQuery) : Exit → St → Prop := (thenK (wkK (avc Try.prog (.seq (.ops [.ld 96 6 true 3, .st 6 2 96]) .ret) (qsL7CopyQuery_X r))) (qsL7CopyQuery_X r))
def qsL7CopyQuery_X_5 (r : GQuery) : Exit → St → Prop := (blockK 4 (qsL7CopyQuery_X_4 r))
def stsL7CopyQuery_X_L0 (p0 : GQuery) (y1 : (List GExpr)) (x4 : Int) (b60021000_0 : (List GItem)) : St := ⟨[(1, (.ptr 1 0)), (2, (.ptr 2 0)), (3, (.ptr 3 0)), (4, (vI x4))], [(1, bGQuery p0), (2, [(vB false), (.nil 13), (.nil 3), (.nil 10), (.nil 11), (vI 0)]), (3, [(vB p0.distinct), (.tre 60021000), (.nil 3), (.tre 60021001), (.nil 11), (vI p0.limit)]), (60021000, [(.trc 13 (b60021000_0.map cGItem))]), (60021001, [(.trc 10 (y1.map cGExpr))])]⟩
def stsL7CopyQuery_X_L1 (p0 : GQuery) (b60021000_0 : (List GItem)) (y1 : (List GExpr)) (x6 : Int) (b60068001_0 : (List GSource)) : St := ⟨[(1, (.ptr 1 0)), (2, (.ptr 2 0)), (3, (.ptr 3 0)), (6, (vI x6))], [(1, bGQuery p0), (2, [(vB false), (.nil 13), (.nil 3), (.nil 10), (.nil 11), (vI 0)]), (3, [(vB p0.distinct), (.tre 60068000), (.tre 60068001), (.tre 60068002), (.nil 11), (vI p0.limit)]), (60068001, [(.trc 3 (b60068001_0.map cGSource))]), (60068000, [(.trc 13 (b60021000_0.map cGItem))]), (60068002, [(.trc 10 (y1.map cGExpr))])]⟩
def stsL7CopyQuery_X_L2 (p0 : GQuery) (b60068001_0 : (List GSource)) (b60021000_0 : (List GItem)) (y1 : (List GExpr)) (x7 : Int) (b60118003_0 : (List GSortKey)) : St := ⟨[(1, (.ptr 1 0)), (2, (.ptr 2 0)), (3, (.ptr 3 0)), (7, (vI x7))], [(1, bGQuery p0), (2, [(vB false), (.nil 13), (.nil 3), (.nil 10), (.nil 11), (vI 0)]), (3, [(vB p0.distinct), (.tre 60118000), (.tre 60118001), (.tre 60118002), (.tre 60118003), (vI p0.limit)]), (60118003, [(.trc 11 (b60118003_0.map cGSortKey))]), (60118001, [(.trc 3 (b60068001_0.map cGSource))]), (60118000, [(.trc 13 (b60021000_0.map cGItem))]), (60118002, [(.trc 10 (y1.map cGExpr))])]⟩
def acsL7Copies_X_L0 : AC := (.loop (.seq (.seq (.ops [.mv 6 4, .mv 7 0, .len 8 7, .bin 9 .lss 6 8]) (.cond 9 .skip (.exit 0))) (.seq (.block 1 (.ops [.mv 12 3, .mv 13 0, .mv 14 4, .ia 15 10 13 14, .ld 16 10 true 15, .call (some 17) 92 [16], .bsl 18 29 10 [17], .app 19 29 10 136 12 18, .asg 3 19])) (.ops [.mv 10 4, .bin 11 .add 10 (kI 1), .asg 4 11]))))
def acsL7Copies_X : AC := (.seq (.ops [.asg 2 (.c (.nil 10))]) (.seq (.ops [.bsl 5 29 10 [], .asg 3 5]) (.seq (.seq (.ops [.asg 4 (kI 0)]) (.block 0 acsL7Copies_X_L0)) (.seq (.ops [.mv 20 3, .asg 2 20]) .ret))))
theorem trsL7Copies_X : trFn Try.prog 46 = some (acsL7Copies_X, [.mv 0 2], 21) := by kernel_rfl
def qsL7Copies_X (r : (List GExpr)) : Exit → St → Prop := retQ [.mv 0 2] fun x b => x = (fun (y : (List GExpr)) => (.tre 10000000)) r ∧ bxHas ((fun (y : (List GExpr)) => [(10000000, [(.trc 10 (y.map cGExpr))])]) r) b
def qsL7Copies_X_0 (r : (List GExpr)) : Exit → St → Prop := (thenK (wkK (avc Try.prog (.seq (.ops [.mv 20 3, .asg 2 20]) .ret) (qsL7Copies_X r))) (qsL7Copies_X r))
def qsL7Copies_X_1 (r : (List GExpr)) : Exit → St → Prop := (blockK 0 (qsL7Copies_X_0 r))
def stsL7Copies_X_L0 (p0 : (List GExpr)) (x4 : Int) (b60012000_0 : (List GExpr)) : St := ⟨[(0, (.d (.sl 10 (p0.map cGExpr)))), (3, (.tre 60012000)), (4, (vI x4))], [(60012000, [(.trc 10 (b60012000_0.map cGExpr))])]⟩
def acwBig : AC := (.seq (.ops [.asg 2 (kB false)]) (.seq (.ops [.mv 3 0, .len 4 3, .bin 5 .gtr 4 (kI 1048576), .asg 2 5]) .ret))
theorem trwBig : trFn Try.prog 9 = some (acwBig, [.mv 0 2], 6) := by kernel_rfl
def qwBig (r : Bool) : Exit → St → Prop := retQ [.mv 0 2] fun x _ => x = (fun y => (vB y)) r
def acsL8Draw_J0 : AC := (.seq (.ops [.ld 71 12 true 4, .st 12 2 71]) .ret)
def acsL8Draw : AC := (.seq (.ops [.alc 2 [(.d (.i .i64 0)), (.d (.b false)), (.nil 13), (.nil 3), (.nil 10), (.nil 11), (.d (.i .i64 0)), (.d (.s (bs []))), (.nil 1), (.nil 1), (.nil 10), (.nil 10)]]) (.seq (.ops [.mv 5 0, .call (some 6) 82 [5], .asg 3 6]) (.seq (.ops [.mv 7 3, .mv 8 3, .mv 9 0, .call (some 10) 87 [9, (kI 3)], .call (some 11) 86 [8, 10], .bin 12 .add (kI 1) 11, .call (some 13) 89 [7, 12], .alc 4 [(.d (.i .i64 0)), (.d (.b false)), (.nil 13), (.nil 3), (.nil 10), (.nil 11), (.d (.i .i64 0)), (.d (.s (bs []))), (.nil 1), (.nil 1), (.nil 10), (.nil 10)], .st 12 4 13]) (.seq (.seq (.ops [.mv 14 3, .call (some 15) 86 [14, (kI 14)]]) (.block 0 (.seq (.ops [.bin 17 .eql 15 (kI 0), .asg 16 17]) (.cond 16 (.ops [.mv 18 3, .call (some 19) 86 [18, (kI 7)], .bin 20 .sub 19 (kI 1), .fa 21 0 4, .st 1 21 20]) (.seq (.ops [.bin 23 .eql 15 (kI 1), .asg 22 23]) (.cond 22 (.ops [.mv 24 3, .call (some 25) 90 [24], .fa 26 7 4, .st 1 26 25]) (.seq (.ops [.bin 28 .eql 15 (kI 2), .asg 27 28]) (.cond 27 (.dops [[], [0], [], [], [3], [2, 4, 4], [5], [1, 6, 5], [0, 1, 2, 3, 4, 5, 6, 7], [8, 7, 7, 0, 1, 2, 3, 4, 5, 6, 7]] [.fa 29 11 4, .ld 30 1 false 29, .mv 31 3, .mv 32 3, .call (some 33) 85 [32, (kI 1)], .call (some 34) 88 [31, 33], .bsl 35 29 10 [34], .app 36 29 10 136 30 35, .fa 37 11 4, .st 1 37 36]) (.seq (.ops [.bin 39 .eql 15 (kI 3), .asg 38 39]) (.cond 38 (.dops [[], [0], [], [2], [3], [1, 4, 3], [0, 1, 2, 3, 4, 5], [6, 5, 5, 0, 1, 2, 3, 4, 5]] [.fa 40 9 4, .ld 41 1 false 40, .mv 42 3, .call (some 43) 90 [42], .bsl 44 9 1 [43], .app 45 9 1 16 41 44, .fa 46 9 4, .st 1 46 45]) (.seq (.ops [.bin 48 .eql 15 (kI 4), .asg 47 48]) (.cond 47 (.ops [.fa 49 8 4, .ld 50 1 false 49, .bsl 51 29 10 [], .bsl 52 26 1 [51], .app 53 26 1 24 50 52, .fa 54 8 4, .st 1 54 53]) (.seq (.ops [.bin 56 .eql 15 (kI 5), .asg 55 56]) (.cond 55 (.ops [.mv 57 3, .call (some 58) 86 [57, (kI 4)], .bin 59 .sub 58 (kI 2), .fa 60 1 4, .fa 61 5 60, .st 1 61 59]) (.seq (.ops [.bin 63 .eql 15 (kI 6), .asg 62 63]) (.cond 62 (.dops [[], [0], [], [2], [3], [1, 4, 3], [0, 1, 2, 3, 4, 5], [6, 5, 5, 0, 1, 2, 3, 4, 5]] [.fa 64 10 4, .ld 65 1 false 64, .mv 66 3, .call (some 67) 84 [66], .bsl 68 29 10 [67], .app 69 29 10 136 65 68, .fa 70 10 4, .st 1 70 69]) .skip)))))))))))))))) acsL8Draw_J0))))
theorem trsL8Draw : trFn Try.prog 44 = some (acsL8Draw, [.ld 0 12 true 2], 72) := by kernel_rfl
def qsL8Draw (r : GStmt) : Exit → St → Prop := retQ [.ld 0 12 true 2] fun x _ => x = (fun y => (vGStmt y)) r
def stsL8Draw_J0 (y4 : GStmt × GL1Cur) (b4_0 : Int) (b4_6 : Int) (b4_7 : (List UInt8)) (b4_9 : (List (List UInt8))) (b60116004_0 : (List (List GExpr))) (b60116005_0 : (List GExpr)) (b60116006_0 : (List GExpr)) : St := ⟨[(2, (.ptr 2 0)), (4, (.ptr 4 0))], [(2, [(vI 0), (vB false), (.nil 13), (.nil 3), (.nil 10), (.nil 11), (vI 0), (vS []), (.nil 1), (.nil 1), (.nil 10), (.nil 10)]), (4, [(vI b4_0), (vB y4.1.query.distinct), (.tre 60116000), (.tre 60116001), (.tre 60116002), (.tre 60116003), (vI b4_6), (vS b4_7), (.tre 60116004), (.osl 300330009 9 1 (b4_9.map cStr)), (.tre 60116005), (.tre 60116006)]), (60116000, [(.trc 13 (y4.1.query.items.map cGItem))]), (60116001, [(.trc 3 (y4.1.query.from_.map cGSource))]), (60116002, [(.trc 10 (y4.1.query.where_.map cGExpr))]), (60116003, [(.trc 11 (y4.1.query.order.map cGSortKey))]), (60116004, [(.trc 1 (b60116004_0.map (cSl 10 cGExpr)))]), (60116005, [(.trc 10 (b60116005_0.map cGExpr))]), (60116006, [(.trc 10 (b60116006_0.map cGExpr))])]⟩
def acsL7Deep_X_L0 : AC := (.loop (.seq (.seq (.ops [.mv 11 5, .mv 12 4, .bin 13 .lss 11 12]) (.cond 13 .skip (.exit 0))) (.seq (.block 1 (.ops [.ld 16 10 true 3, .bsl 17 29 10 [16], .bld 18 [(.d (.i .i64 0)), (.d (.i .i64 0)), (.d (.b false)), (.d (.i .i64 0)), (.d (.i .i64 0)), (.d (.s (bs []))), (.d (.s (bs []))), (.d (.s (bs []))), (.nil 10), (.nil 6)] [(0, 1, (kI 3)), (1, 1, (kI 16)), (8, 1, 17)], .st 10 3 18])) (.ops [.mv 14 5, .bin 15 .add 14 (kI 1), .asg 5 15]))))
def acsL7Deep_X : AC := (.seq (.ops [.alc 2 [(.d (.i .i64 0)), (.d (.i .i64 0)), (.d (.b false)), (.d (.i .i64 0)), (.d (.i .i64 0)), (.d (.s (bs []))), (.d (.s (bs []))), (.d (.s (bs []))), (.nil 10), (.nil 6)]]) (.seq (.ops [.mv 6 0, .call (some 7) 143 [6], .alc 3 [(.d (.i .i64 0)), (.d (.i .i64 0)), (.d (.b false)), (.d (.i .i64 0)), (.d (.i .i64 0)), (.d (.s (bs []))), (.d (.s (bs []))), (.d (.s (bs []))), (.nil 10), (.nil 6)], .st 10 3 7]) (.seq (.ops [.mv 8 0, .call (some 9) 86 [8, (kI 3)], .bin 10 .add (kI 22) 9, .asg 4 10]) (.seq (.seq (.ops [.asg 5 (kI 0)]) (.block 0 acsL7Deep_X_L0)) (.seq (.ops [.ld 19 10 true 3, .st 10 2 19]) .ret)))))
theorem trsL7Deep_X : trFn Try.prog 84 = some (acsL7Deep_X, [.ld 0 10 true 2], 20) := by kernel_rfl
def qsL7Deep_X (r : GExpr × GL1Cur) : Exit → St → Prop := retQ [.ld 0 10 true 2] fun x b => x = (fun (y : GExpr × GL1Cur) => (.agv [(vI y.1.kind), (vI y.1.op), (vB y.1.not_), (vI y.1.value.kind), (vI y.1.value.num), (vS y.1.value.text), (vS y.1.qual), (vS y.1.name), (.tre 10000008), (.tre 10000009)])) r ∧ bxHas ((fun (y : GExpr × GL1Cur) => [(10000008, [(.trc 10 (y.1.kids.map cGExpr))]), (10000009, [(.trc 6 (y.1.sub.map cGQuery))]), (1000000, bGL1Cur y.2)]) r) b
def qsL7Deep_X_0 (r : GExpr × GL1Cur) : Exit → St → Prop := (thenK (wkK (avc Try.prog (.seq (.ops [.ld 19 10 true 3, .st 10 2 19]) .ret) (qsL7Deep_X r))) (qsL7Deep_X r))
def qsL7Deep_X_1 (r : GExpr × GL1Cur) : Exit → St → Prop := (blockK 0 (qsL7Deep_X_0 r))
def stsL7Deep_X_L0 (y2 : Int × GL1Cur) (x5 : Int) (b3_0 : Int) (b3_1 : Int) (b3_2 : Bool) (b3_3 : Int) (b3_4 : Int) (kb3_5 : ((List UInt8) × ((List UInt8) × ((List UInt8) × ((List GExpr) × (List GQuery)))))) : St := ⟨[(2, (.ptr 2 0)), (3, (.ptr 3 0)), (4, (vI (IntKind.wrap .i64 (22 + y2.1)))), (5, (vI x5))], [(2, [(vI 0), (vI 0), (vB false), (vI 0), (vI 0), (vS []), (vS []), (vS []), (.nil 10), (.nil 6)]), (3, [(vI b3_0), (vI b3_1), (vB b3_2), (vI b3_3), (vI b3_4), (vS kb3_5.1), (vS kb3_5.2.1), (vS kb3_5.2.2.1), (.tre 60020000), (.tre 60020001)]), (1000000, bGL1Cur y2.2), (60020000, [(.trc 10 (kb3_5.2.2.2.1.map cGExpr))]), (60020001, [(.trc 6 (kb3_5.2.2.2.2.map cGQuery))])]⟩
def acsL7Col_X_J1 : AC := (.seq (.ops [.ld 19 10 true 3, .st 10 2 19]) .ret)
def acsL7Col_X_J0 : AC := (.seq (.seq (.ops [.mv 14 0, .call (some 15) 83 [14, (kI 12)]]) (.cond 15 (.ops [.mv 16 0, .call (some 17) 150 [16], .fa 18 7 3, .st 1 18 17]) .skip)) acsL7Col_X_J1)
def acsL7Col_X : AC := (.seq (.ops [.alc 2 [(.d (.i .i64 0)), (.d (.i .i64 0)), (.d (.b false)), (.d (.i .i64 0)), (.d (.i .i64 0)), (.d (.s (bs []))), (.d (.s (bs []))), (.d (.s (bs []))), (.nil 10), (.nil 6)]]) (.seq (.ops [.mv 4 0, .bsl 5 9 1 [(.c (.d (.s (bs [97])))), (.c (.d (.s (bs [98])))), (.c (.d (.s (bs [99])))), (.c (.d (.s (bs [105, 100])))), (.c (.d (.s (bs [110, 97, 109, 101]))))], .call (some 6) 151 [4, 5], .bld 7 [(.d (.i .i64 0)), (.d (.i .i64 0)), (.d (.b false)), (.d (.i .i64 0)), (.d (.i .i64 0)), (.d (.s (bs []))), (.d (.s (bs []))), (.d (.s (bs []))), (.nil 10), (.nil 6)] [(0, 1, (kI 2)), (7, 1, 6)], .alc 3 [(.d (.i .i64 0)), (.d (.i .i64 0)), (.d (.b false)), (.d (.i .i64 0)), (.d (.i .i64 0)), (.d (.s (bs []))), (.d (.s (bs []))), (.d (.s (bs []))), (.nil 10), (.nil 6)], .st 10 3 7]) (.seq (.seq (.ops [.mv 8 0, .call (some 9) 83 [8, (kI 3)]]) (.cond 9 (.ops [.mv 10 0, .bsl 11 9 1 [(.c (.d (.s (bs [116])))), (.c (.d (.s (bs [117])))), (.c (.d (.s (bs [118]))))], .call (some 12) 151 [10, 11], .fa 13 6 3, .st 1 13 12]) .skip)) acsL7Col_X_J0)))
theorem trsL7Col_X : trFn Try.prog 143 = some (acsL7Col_X, [.ld 0 10 true 2], 20) := by kernel_rfl
def qsL7Col_X (r : GExpr × GL1Cur) : Exit → St → Prop := retQ [.ld 0 10 true 2] fun x b => x = (fun (y : GExpr × GL1Cur) => (.agv [(vI y.1.kind), (vI y.1.op), (vB y.1.not_), (vI y.1.value.kind), (vI y.1.value.num), (vS y.1.value.text), (vS y.1.qual), (vS y.1.name), (.tre 10000008), (.tre 10000009)])) r ∧ bxHas ((fun (y : GExpr × GL1Cur) => [(10000008, [(.trc 10 (y.1.kids.map cGExpr))]), (10000009, [(.trc 6 (y.1.sub.map cGQuery))]), (1000000, bGL1Cur y.2)]) r) b
def stsL7Col_X_J0 (y1 : (List UInt8) × GL1Cur) (b3_6 : (List UInt8)) (b1000000_0 : (List Int)) (b1000000_1 : Int) (b1000000_2 : Int) : St := ⟨[(0, (.ptr 1000000 0)), (2, (.ptr 2 0)), (3, (.ptr 3 0))], [(2, [(vI 0), (vI 0), (vB false), (vI 0), (vI 0), (vS []), (vS []), (vS []), (.nil 10), (.nil 6)]), (3, [(vI 2), (vI 0), (vB false), (vI 0), (vI 0), (vS []), (vS b3_6), (vS y1.1), (.nil 10), (.nil 6)]), (1000000, bGL1Cur (GL1Cur.mk b1000000_0 b1000000_1 b1000000_2))]⟩
def stsL7Col_X_J1 (b3_6 : (List UInt8)) (b3_7 : (List UInt8)) (b1000000_0_6 : (List Int)) (b1000000_1_7 : Int) (b1000000_2_8 : Int) : St := ⟨[(2, (.ptr 2 0)), (3, (.ptr 3 0))], [(2, [(vI 0), (vI 0), (vB false), (vI 0), (vI 0), (vS []), (vS []), (vS []), (.nil 10), (.nil 6)]), (3, [(vI 2), (vI 0), (vB false), (vI 0), (vI 0), (vS []), (vS b3_6), (vS b3_7), (.nil 10), (.nil 6)]), (1000000, bGL1Cur (GL1Cur.mk b1000000_0_6 b1000000_1_7 b1000000_2_8))]⟩
def acsL1Once : AC := (.seq (.ops [.asg 4 (kB false)]) (.seq (.ops [.mv 5 0, .mv 6 1, .call (some 7) 86 [5, 6], .bin 8 .eql 7 (kI 0), .asg 4 8]) .ret))
theorem trsL1Once : trFn Try.prog 83 = some (acsL1Once, [.mv 0 4], 9) := by kernel_rfl
def qsL1Once (r : Bool × GL1Cur) : Exit → St → Prop := retQ [.mv 0 4] fun x b => x = (fun (y : Bool × GL1Cur) => (vB y.1)) r ∧ bxHas ((fun (y : Bool × GL1Cur) => [(1000000, bGL1Cur y.2)]) r) b
def acsL1Below : AC := (.seq (.ops [.asg 4 (kI 0)]) (.seq (.seq (.ops [.mv 9 1, .bin 10 .leq 9 (kI 0)]) (.cond 10 (.seq (.ops [.asg 4 (kI 0)]) .ret) .skip)) (.seq (.seq (.ops [.mv 11 1, .bin 12 .leq 11 (kI 256)]) (.cond 12 (.seq (.ops [.mv 13 0, .call (some 14) 147 [13], .mv 15 1, .bin 16 .rem 14 15, .asg 4 16]) .ret) .skip)) (.seq (.ops [.mv 17 0, .call (some 18) 147 [17], .asg 5 18]) (.seq (.ops [.mv 19 0, .call (some 20) 147 [19], .asg 6 20]) (.seq (.ops [.mv 21 0, .call (some 22) 147 [21], .asg 7 22]) (.seq (.ops [.mv 23 0, .call (some 24) 147 [23], .asg 8 24]) (.seq (.ops [.mv 25 5, .bin 26 .mul 25 (kI 16777216), .mv 27 6, .bin 28 .mul 27 (kI 65536), .bin 29 .add 26 28, .mv 30 7, .bin 31 .mul 30 (kI 256), .bin 32 .add 29 31, .mv 33 8, .bin 34 .add 32 33, .mv 35 1, .bin 36 .rem 34 35, .asg 4 36]) .ret))))))))
theorem trsL1Below : trFn Try.prog 86 = some (acsL1Below, [.mv 0 4], 37) := by kernel_rfl
def qsL1Below (r : Int × GL1Cur) : Exit → St → Prop := retQ [.mv 0 4] fun x b => x = (fun (y : Int × GL1Cur) => (vI y.1)) r ∧ bxHas ((fun (y : Int × GL1Cur) => [(1000000, bGL1Cur y.2)]) r) b
def acsL1Byte_J0 : AC := (.seq (.ops [.mv 57 3, .asg 2 57]) .ret)
def acsL1Byte : AC := (.seq (.ops [.asg 2 (kI 0)]) (.seq (.ops [.mv 4 0, .mv 5 0, .nck 6 5, .fa 7 2 6, .ld 8 1 false 7, .bin 9 .mul 8 (kI 6364136223846793005), .bin 10 .add 9 (kI 1442695040888963407), .nck 11 4, .fa 12 2 11, .st 1 12 10]) (.seq (.dops [[], [0], [1], [2], [3], [], [5], [6], [7], [8], [4, 9], [10], [11, 0, 1, 2, 3, 4, 5, 6, 7, 8, 9, 10, 11]] [.mv 13 0, .nck 14 13, .fa 15 2 14, .ld 16 1 false 15, .bin 17 .shr 16 (.c (.d (.i .u64 33))), .mv 18 0, .nck 19 18, .fa 20 2 19, .ld 21 1 false 20, .bin 22 .shr 21 (.c (.d (.i .u64 45))), .bin 23 .xor 17 22, .bin 24 .and 23 (kI 255), .asg 3 24]) (.seq (.seq (.dops [[], [0], [1], [2], [], [4], [5], [6], [7], [3, 8]] [.mv 25 0, .nck 26 25, .fa 27 1 26, .ld 28 1 false 27, .mv 29 0, .nck 30 29, .fa 31 0 30, .ld 32 1 false 31, .len 33 32, .bin 34 .lss 28 33]) (.cond 34 (.seq (.dops [[], [], [1], [2], [3], [], [5], [6], [7], [4, 8], [9], [10], [0, 11], [12], [13, 0, 1, 2, 3, 4, 5, 6, 7, 8, 9, 10, 11, 12, 13]] [.mv 35 3, .mv 36 0, .nck 37 36, .fa 38 0 37, .ld 39 1 false 38, .mv 40 0, .nck 41 40, .fa 42 1 41, .ld 43 1 false 42, .ia 44 1 39 43, .ld 45 1 false 44, .cvi 46 .i64 45, .bin 47 .add 35 46, .bin 48 .and 47 (kI 255), .asg 3 48]) (.ops [.mv 49 0, .mv 50 0, .nck 51 50, .fa 52 1 51, .ld 53 1 false 52, .bin 54 .add 53 (kI 1), .nck 55 49, .fa 56 1 55, .st 1 56 54])) .skip)) acsL1Byte_J0))))
theorem trsL1Byte : trFn Try.prog 147 = some (acsL1Byte, [.mv 0 2], 58) := by kernel_rfl
def qsL1Byte (r : Int × GL1Cur) : Exit → St → Prop := retQ [.mv 0 2] fun x b => x = (fun (y : Int × GL1Cur) => (vI y.1)) r ∧ bxHas ((fun (y : Int × GL1Cur) => [(1000000, bGL1Cur y.2)]) r) b
def stsL1Byte_J0 (p0 : GL1Cur) (x3 : Int) (b1000000_1 : Int) : St := ⟨[(3, (vI x3))], [(1000000, bGL1Cur (GL1Cur.mk p0.b b1000000_1 (IntKind.wrap .i64 ((IntKind.wrap .i64 (p0.h * 6364136223846793005)) + 1442695040888963407))))]⟩
def acsL1Pick : AC := (.seq (.ops [.asg 4 (.c (.d (.s (bs []))))]) (.seq (.ops [.mv 5 1, .mv 6 0, .mv 7 1, .len 8 7, .call (some 9) 86 [6, 8], .ia 10 1 5 9, .ld 11 1 false 10, .asg 4 11]) .ret))
theorem trsL1Pick : trFn Try.prog 151 = some (acsL1Pick, [.mv 0 4], 12) := by kernel_rfl
def qsL1Pick (r : (List UInt8) × GL1Cur) : Exit → St → Prop := retQ [.mv 0 4] fun x b => x = (fun (y : (List UInt8) × GL1Cur) => (vS y.1)) r ∧ bxHas ((fun (y : (List UInt8) × GL1Cur) => [(1000000, bGL1Cur y.2)]) r) b
def acsL2Name : AC := (.seq (.ops [.asg 2 (.c (.d (.s (bs []))))]) (.seq (.seq (.ops [.mv 3 0, .call (some 4) 83 [3, (kI 6)]]) (.cond 4 (.seq (.ops [.mv 5 0, .bsl 6 9 1 [(.c (.d (.s (bs [97, 32, 98])))), (.c (.d (.s (bs [102, 114, 111, 109])))), (.c (.d (.s (bs [83, 101, 108, 101, 99, 116])))), (.c (.d (.s (bs [49, 120])))), (.c (.d (.s (bs [113, 34, 113])))), (.c (.d (.s (bs [0])))), (.c (.d (.s (bs [34])))), (.c (.d (.s (bs [105, 116, 39, 115])))), (.c (.d (.s (bs [120, 46, 121])))), (.c (.d (.s (bs [45]))))], .call (some 7) 151 [5, 6], .asg 2 7]) .ret) .skip)) (.seq (.ops [.mv 8 0, .bsl 9 9 1 [(.c (.d (.s (bs [97])))), (.c (.d (.s (bs [98])))), (.c (.d (.s (bs [99])))), (.c (.d (.s (bs [116])))), (.c (.d (.s (bs [117])))), (.c (.d (.s (bs [118])))), (.c (.d (.s (bs [105, 100])))), (.c (.d (.s (bs [110, 97, 109, 101])))), (.c (.d (.s (bs [65])))), (.c (.d (.s (bs [95, 120, 49]))))], .call (some 10) 151 [8, 9], .asg 2 10]) .ret)))
theorem trsL2Name : trFn Try.prog 150 = some (acsL2Name, [.mv 0 2], 11) := by kernel_rfl
def qsL2Name (r : (List UInt8) × GL1Cur) : Exit → St → Prop := retQ [.mv 0 2] fun x b => x = (fun (y : (List UInt8) × GL1Cur) => (vS y.1)) r ∧ bxHas ((fun (y : (List UInt8) × GL1Cur) => [(1000000, bGL1Cur y.2)]) r) b
def acsL2Any : AC := (.seq (.ops [.asg 2 (.c (.d (.s (bs []))))]) (.seq (.seq (.ops [.mv 3 0, .call (some 4) 86 [3, (kI 6)]]) (.block 0 (.seq (.ops [.bin 6 .eql 4 (kI 0), .asg 5 6]) (.cond 5 (.seq (.ops [.mv 7 0, .bsl 8 9 1 [(.c (.d (.s (bs [])))), (.c (.d (.s (bs [97, 98, 99, 100, 101, 102, 103, 104, 105, 106, 107, 108, 109, 110, 111, 112, 113, 114, 115, 116])))), (.c (.d (.s (bs [97, 98, 99, 100, 101, 102, 103, 104, 105, 106, 107, 108, 109, 110, 111, 112, 113, 114, 115, 116, 117])))), (.c (.d (.s (bs [108, 105, 109, 105, 116])))), (.c (.d (.s (bs [76, 73, 77, 73, 84, 83])))), (.c (.d (.s (bs [65, 83, 99])))), (.c (.d (.s (bs [57])))), (.c (.d (.s (bs [97, 57])))), (.c (.d (.s (bs [195, 169]))))], .call (some 9) 151 [7, 8], .asg 2 9]) .ret) (.seq (.ops [.bin 11 .eql 4 (kI 1), .asg 10 11]) (.cond 10 (.seq (.ops [.call (some 12) 152 [], .mv 13 0, .call (some 14) 86 [13, (kI 29)], .ia 15 1 12 14, .ld 16 1 false 15, .asg 2 16]) .ret) (.seq (.ops [.bin 18 .eql 4 (kI 2), .asg 17 18]) (.cond 17 (.seq (.ops [.mv 19 0, .mv 20 0, .call (some 21) 86 [20, (kI 5)], .call (some 22) 153 [19, 21], .cbs 23 22, .asg 2 23]) .ret) .skip)))))))) (.seq (.ops [.mv 24 0, .call (some 25) 150 [24], .asg 2 25]) .ret)))
theorem trsL2Any : trFn Try.prog 90 = some (acsL2Any, [.mv 0 2], 26) := by kernel_rfl
def qsL2Any (r : (List UInt8) × GL1Cur) : Exit → St → Prop := retQ [.mv 0 2] fun x b => x = (fun (y : (List UInt8) × GL1Cur) => (vS y.1)) r ∧ bxHas ((fun (y : (List UInt8) × GL1Cur) => [(1000000, bGL1Cur y.2)]) r) b
def acsL2Words : AC := (.seq (.ops [.asg 0 (.c (.nil 1))]) (.seq (.ops [.bsl 1 9 1 [(.c (.d (.s (bs [])))), (.c (.d (.s (bs [83, 69, 76, 69, 67, 84])))), (.c (.d (.s (bs [68, 73, 83, 84, 73, 78, 67, 84])))), (.c (.d (.s (bs [70, 82, 79, 77])))), (.c (.d (.s (bs [74, 79, 73, 78])))), (.c (.d (.s (bs [79, 78])))), (.c (.d (.s (bs [87, 72, 69, 82, 69])))), (.c (.d (.s (bs [79, 82, 68, 69, 82])))), (.c (.d (.s (bs [66, 89])))), (.c (.d (.s (bs [65, 83, 67])))), (.c (.d (.s (bs [68, 69, 83, 67])))), (.c (.d (.s (bs [76, 73, 77, 73, 84])))), (.c (.d (.s (bs [65, 83])))), (.c (.d (.s (bs [65, 78, 68])))), (.c (.d (.s (bs [79, 82])))), (.c (.d (.s (bs [78, 79, 84])))), (.c (.d (.s (bs [73, 83])))), (.c (.d (.s (bs [73, 78])))), (.c (.d (.s (bs [66, 69, 84, 87, 69, 69, 78])))), (.c (.d (.s (bs [69, 88, 73, 83, 84, 83])))), (.c (.d (.s (bs [78, 85, 76, 76])))), (.c (.d (.s (bs [84, 82, 85, 69])))), (.c (.d (.s (bs [70, 65, 76, 83, 69])))), (.c (.d (.s (bs [73, 78, 83, 69, 82, 84])))), (.c (.d (.s (bs [73, 78, 84, 79])))), (.c (.d (.s (bs [86, 65, 76, 85, 69, 83])))), (.c (.d (.s (bs [85, 80, 68, 65, 84, 69])))), (.c (.d (.s (bs [83, 69, 84])))), (.c (.d (.s (bs [68, 69, 76, 69, 84, 69]))))], .asg 0 1]) .ret))
theorem trsL2Words : trFn Try.prog 152 = some (acsL2Words, [.mv 0 0], 2) := by kernel_rfl
def qsL2Words (r : (List (List UInt8))) : Exit → St → Prop := retQ [.mv 0 0] fun x b => x = (fun (y : (List (List UInt8))) => (.osl 2000000 9 1 (y.map cStr))) r ∧ bxHas ((fun (y : (List (List UInt8))) => []) r) b
def acsL1Bytes_L0 : AC := (.loop (.seq (.seq (.ops [.mv 8 6, .mv 9 1, .bin 10 .lss 8 9]) (.cond 10 .skip (.exit 0))) (.seq (.block 1 (.ops [.mv 13 5, .mv 14 0, .call (some 15) 147 [14], .cvi 16 .u8 15, .bsl 17 5 1 [16], .app 18 5 1 1 13 17, .asg 5 18])) (.ops [.mv 11 6, .bin 12 .add 11 (kI 1), .asg 6 12]))))
def acsL1Bytes : AC := (.seq (.ops [.asg 4 (.c (.nil 1))]) (.seq (.ops [.bsl 7 5 1 [], .asg 5 7]) (.seq (.seq (.ops [.asg 6 (kI 0)]) (.block 0 acsL1Bytes_L0)) (.seq (.ops [.mv 19 5, .asg 4 19]) .ret))))
theorem trsL1Bytes : trFn Try.prog 153 = some (acsL1Bytes, [.mv 0 4], 20) := by kernel_rfl
def qsL1Bytes (r : (List Int) × GL1Cur) : Exit → St → Prop := retQ [.mv 0 4] fun x b => x = (fun (y : (List Int) × GL1Cur) => (.osl 2000000 5 1 (y.1.map cU8))) r ∧ bxHas ((fun (y : (List Int) × GL1Cur) => [(1000000, bGL1Cur y.2)]) r) b
def qsL1Bytes_0 (r : (List Int) × GL1Cur) : Exit → St → Prop := (thenK (wkK (avc Try.prog (.seq (.ops [.mv 19 5, .asg 4 19]) .ret) (qsL1Bytes r))) (qsL1Bytes r))
def qsL1Bytes_1 (r : (List Int) × GL1Cur) : Exit → St → Prop := (blockK 0 (qsL1Bytes_0 r))
def stsL1Bytes_L0 (p1 : Int) (x5 : (List Int)) (x6 : Int) (b1000000_0 : (List Int)) (b1000000_1 : Int) (b1000000_2 : Int) : St := ⟨[(0, (.ptr 1000000 0)), (1, (vI p1)), (5, (.osl 5 5 1 (x5.map cU8))), (6, (vI x6))], [(1000000, bGL1Cur (GL1Cur.mk b1000000_0 b1000000_1 b1000000_2))]⟩
def acsL1Size : AC := (.seq (.ops [.asg 4 (kI 0)]) (.seq (.ops [.mv 6 0, .len 7 6, .bin 8 .quo 7 (kI 20), .bin 9 .add (kI 2) 8, .asg 5 9]) (.seq (.seq (.ops [.mv 10 5, .mv 11 1, .bin 12 .gtr 10 11]) (.cond 12 (.seq (.ops [.mv 13 1, .asg 4 13]) .ret) .skip)) (.seq (.ops [.mv 14 5, .asg 4 14]) .ret))))
theorem trsL1Size : trFn Try.prog 87 = some (acsL1Size, [.mv 0 4], 15) := by kernel_rfl
def qsL1Size (r : Int) : Exit → St → Prop := retQ [.mv 0 4] fun x _ => x = (fun y => (vI y)) r
def acsL7Expr_X_J0 : AC := (.seq (.ops [.mv 84 0, .call (some 85) 86 [84, (kI 14)], .bin 86 .add (kI 1) 85, .mv 87 0, .mv 88 1, .call (some 89) 145 [87, 88, (kI 2)], .bld 90 [(.d (.i .i64 0)), (.d (.i .i64 0)), (.d (.b false)), (.d (.i .i64 0)), (.d (.i .i64 0)), (.d (.s (bs []))), (.d (.s (bs []))), (.d (.s (bs []))), (.nil 10), (.nil 6)] [(0, 1, (kI 4)), (1, 1, 86), (8, 1, 89)], .st 10 4 90]) .ret)
def acsL7Expr_X : AC := (.seq (.ops [.alc 4 [(.d (.i .i64 0)), (.d (.i .i64 0)), (.d (.b false)), (.d (.i .i64 0)), (.d (.i .i64 0)), (.d (.s (bs []))), (.d (.s (bs []))), (.d (.s (bs []))), (.nil 10), (.nil 6)]]) (.seq (.seq (.ops [.mv 5 1, .bin 6 .leq 5 (kI 0), .mv 7 6, .g 7 false (.mv 8 0), .g 7 false (.call (some 9) 83 [8, (kI 5)]), .pick 10 7 (kB true) 9]) (.cond 10 (.seq (.seq (.ops [.mv 11 0, .call (some 12) 83 [11, (kI 2)]]) (.cond 12 (.seq (.ops [.mv 13 0, .call (some 14) 143 [13], .st 10 4 14]) .ret) .skip)) (.seq (.ops [.mv 15 0, .call (some 16) 144 [15], .bld 17 [(.d (.i .i64 0)), (.d (.i .i64 0)), (.d (.b false)), (.d (.i .i64 0)), (.d (.i .i64 0)), (.d (.s (bs []))), (.d (.s (bs []))), (.d (.s (bs []))), (.nil 10), (.nil 6)] [(0, 1, (kI 1)), (3, 3, 16)], .st 10 4 17]) .ret)) .skip)) (.seq (.seq (.ops [.mv 18 0, .call (some 19) 86 [18, (kI 12)]]) (.block 0 (.seq (.ops [.bin 21 .eql 19 (kI 0), .asg 20 21]) (.cond 20 (.seq (.ops [.mv 22 0, .mv 23 1, .call (some 24) 145 [22, 23, (kI 1)], .bld 25 [(.d (.i .i64 0)), (.d (.i .i64 0)), (.d (.b false)), (.d (.i .i64 0)), (.d (.i .i64 0)), (.d (.s (bs []))), (.d (.s (bs []))), (.d (.s (bs []))), (.nil 10), (.nil 6)] [(0, 1, (kI 3)), (1, 1, (kI 15)), (8, 1, 24)], .st 10 4 25]) .ret) (.seq (.ops [.bin 27 .eql 19 (kI 1), .asg 26 27]) (.cond 26 (.seq (.ops [.mv 28 0, .mv 29 1, .call (some 30) 145 [28, 29, (kI 1)], .bld 31 [(.d (.i .i64 0)), (.d (.i .i64 0)), (.d (.b false)), (.d (.i .i64 0)), (.d (.i .i64 0)), (.d (.s (bs []))), (.d (.s (bs []))), (.d (.s (bs []))), (.nil 10), (.nil 6)] [(0, 1, (kI 3)), (1, 1, (kI 16)), (8, 1, 30)], .st 10 4 31]) .ret) (.seq (.ops [.bin 33 .eql 19 (kI 2), .asg 32 33]) (.cond 32 (.seq (.ops [.mv 34 0, .call (some 35) 83 [34, (kI 2)], .mv 36 0, .mv 37 1, .call (some 38) 145 [36, 37, (kI 1)], .bld 39 [(.d (.i .i64 0)), (.d (.i .i64 0)), (.d (.b false)), (.d (.i .i64 0)), (.d (.i .i64 0)), (.d (.s (bs []))), (.d (.s (bs []))), (.d (.s (bs []))), (.nil 10), (.nil 6)] [(0, 1, (kI 5)), (2, 1, 35), (8, 1, 38)], .st 10 4 39]) .ret) (.seq (.ops [.bin 41 .eql 19 (kI 3), .asg 40 41]) (.cond 40 (.seq (.ops [.mv 42 0, .call (some 43) 83 [42, (kI 2)], .mv 44 0, .mv 45 1, .call (some 46) 145 [44, 45, (kI 3)], .bld 47 [(.d (.i .i64 0)), (.d (.i .i64 0)), (.d (.b false)), (.d (.i .i64 0)), (.d (.i .i64 0)), (.d (.s (bs []))), (.d (.s (bs []))), (.d (.s (bs []))), (.nil 10), (.nil 6)] [(0, 1, (kI 6)), (2, 1, 43), (8, 1, 46)], .st 10 4 47]) .ret) (.seq (.ops [.bin 49 .eql 19 (kI 4), .asg 48 49]) (.cond 48 (.seq (.ops [.mv 50 0, .call (some 51) 83 [50, (kI 2)], .mv 52 0, .mv 53 1, .mv 54 0, .call (some 55) 86 [54, (kI 2)], .bin 56 .add (kI 2) 55, .call (some 57) 145 [52, 53, 56], .bld 58 [(.d (.i .i64 0)), (.d (.i .i64 0)), (.d (.b false)), (.d (.i .i64 0)), (.d (.i .i64 0)), (.d (.s (bs []))), (.d (.s (bs []))), (.d (.s (bs []))), (.nil 10), (.nil 6)] [(0, 1, (kI 7)), (2, 1, 51), (8, 1, 57)], .st 10 4 58]) .ret) (.seq (.ops [.bin 60 .eql 19 (kI 5), .asg 59 60]) (.cond 59 (.seq (.ops [.mv 61 1, .bin 62 .gtr 61 (kI 1)]) (.cond 62 (.seq (.ops [.mv 63 0, .call (some 64) 83 [63, (kI 2)], .mv 65 0, .mv 66 1, .call (some 67) 145 [65, 66, (kI 1)], .mv 68 0, .mv 69 1, .bin 70 .sub 69 (kI 2), .call (some 71) 146 [68, 70], .bsl 72 38 6 [71], .bld 73 [(.d (.i .i64 0)), (.d (.i .i64 0)), (.d (.b false)), (.d (.i .i64 0)), (.d (.i .i64 0)), (.d (.s (bs []))), (.d (.s (bs []))), (.d (.s (bs []))), (.nil 10), (.nil 6)] [(0, 1, (kI 8)), (2, 1, 64), (8, 1, 67), (9, 1, 72)], .st 10 4 73]) .ret) .skip)) (.seq (.ops [.bin 75 .eql 19 (kI 6), .asg 74 75]) (.cond 74 (.seq (.ops [.mv 76 1, .bin 77 .gtr 76 (kI 1)]) (.cond 77 (.seq (.ops [.mv 78 0, .mv 79 1, .bin 80 .sub 79 (kI 2), .call (some 81) 146 [78, 80], .bsl 82 38 6 [81], .bld 83 [(.d (.i .i64 0)), (.d (.i .i64 0)), (.d (.b false)), (.d (.i .i64 0)), (.d (.i .i64 0)), (.d (.s (bs []))), (.d (.s (bs []))), (.d (.s (bs []))), (.nil 10), (.nil 6)] [(0, 1, (kI 9)), (9, 1, 82)], .st 10 4 83]) .ret) .skip)) .skip)))))))))))))))) acsL7Expr_X_J0)))
theorem trsL7Expr_X : trFn Try.prog 85 = some (acsL7Expr_X, [.ld 0 10 true 4], 91) := by kernel_rfl
def qsL7Expr_X (r : GExpr × GL1Cur) : Exit → St → Prop := retQ [.ld 0 10 true 4] fun x b => x = (fun (y : GExpr × GL1Cur) => (.agv [(vI y.1.kind), (vI y.1.op), (vB y.1.not_), (vI y.1.value.kind), (vI y.1.value.num), (vS y.1.value.text), (vS y.1.qual), (vS y.1.name), (.tre 10000008), (.tre 10000009)])) r ∧ bxHas ((fun (y : GExpr × GL1Cur) => [(10000008, [(.trc 10 (y.1.kids.map cGExpr))]), (10000009, [(.trc 6 (y.1.sub.map cGQuery))]), (1000000, bGL1Cur y.2)]) r) b
def stsL7Expr_X_J0 (p1 : Int) (y6 : Int × GL1Cur) : St := ⟨[(0, (.ptr 1000000 0)), (1, (vI p1)), (4, (.ptr 4 0))], [(4, [(vI 0), (vI 0), (vB false), (vI 0), (vI 0), (vS []), (vS []), (vS []), (.nil 10), (.nil 6)]), (1000000, bGL1Cur y6.2)]⟩
def acsL7Query_X_J1 : AC := (.ops [.mv 20 7, .bin 21 .add 20 (kI 1), .asg 7 21])
def acsL7Query_X_J2 : AC := (.ops [.fa 33 1 5, .ld 34 1 false 33, .ld 35 13 true 8, .bsl 36 111 13 [35], .app 37 111 13 176 34 36, .fa 38 1 5, .st 1 38 37])
def acsL7Query_X_L0 : AC := (.loop (.seq (.seq (.ops [.mv 17 7, .mv 18 6, .bin 19 .lss 17 18]) (.cond 19 .skip (.exit 0))) (.seq (.block 1 (.seq (.ops [.mv 22 0, .call (some 23) 86 [22, (kI 5)]]) (.block 2 (.seq (.ops [.bin 40 .eql 23 (kI 0), .asg 39 40]) (.cond 39 (.ops [.fa 41 1 5, .ld 42 1 false 41, .bld 43 [(.d (.b false)), (.d (.s (bs []))), (.d (.i .i64 0)), (.d (.i .i64 0)), (.d (.b false)), (.d (.i .i64 0)), (.d (.i .i64 0)), (.d (.s (bs []))), (.d (.s (bs []))), (.d (.s (bs []))), (.nil 10), (.nil 6), (.d (.s (bs [])))] [(0, 1, (kB true))], .bsl 44 111 13 [43], .app 45 111 13 176 42 44, .fa 46 1 5, .st 1 46 45]) (.seq (.ops [.bin 48 .eql 23 (kI 1), .asg 47 48]) (.cond 47 (.dops [[], [0], [], [], [2, 3], [4], [5], [1, 6, 4], [0, 1, 2, 3, 4, 5, 6, 7], [8, 7, 7, 0, 1, 2, 3, 4, 5, 6, 7]] [.fa 49 1 5, .ld 50 1 false 49, .mv 51 0, .bsl 52 9 1 [(.c (.d (.s (bs [116])))), (.c (.d (.s (bs [117]))))], .call (some 53) 151 [51, 52], .bld 54 [(.d (.b false)), (.d (.s (bs []))), (.d (.i .i64 0)), (.d (.i .i64 0)), (.d (.b false)), (.d (.i .i64 0)), (.d (.i .i64 0)), (.d (.s (bs []))), (.d (.s (bs []))), (.d (.s (bs []))), (.nil 10), (.nil 6), (.d (.s (bs [])))] [(0, 1, (kB true)), (1, 1, 53)], .bsl 55 111 13 [54], .app 56 111 13 176 50 55, .fa 57 1 5, .st 1 57 56]) (.seq (.ops [.mv 24 0, .mv 25 1, .call (some 26) 85 [24, 25], .bld 27 [(.d (.b false)), (.d (.s (bs []))), (.d (.i .i64 0)), (.d (.i .i64 0)), (.d (.b false)), (.d (.i .i64 0)), (.d (.i .i64 0)), (.d (.s (bs []))), (.d (.s (bs []))), (.d (.s (bs []))), (.nil 10), (.nil 6), (.d (.s (bs [])))] [(2, 10, 26)], .alc 8 [(.d (.b false)), (.d (.s (bs []))), (.d (.i .i64 0)), (.d (.i .i64 0)), (.d (.b false)), (.d (.i .i64 0)), (.d (.i .i64 0)), (.d (.s (bs []))), (.d (.s (bs []))), (.d (.s (bs []))), (.nil 10), (.nil 6), (.d (.s (bs [])))], .st 13 8 27]) (.seq (.seq (.ops [.mv 28 0, .call (some 29) 83 [28, (kI 2)]]) (.cond 29 (.ops [.mv 30 0, .call (some 31) 150 [30], .fa 32 12 8, .st 1 32 31]) .skip)) acsL7Query_X_J2))))))))) acsL7Query_X_J1)))
def acsL7Query_X_J6 : AC := (.ops [.fa 86 2 5, .ld 87 1 false 86, .ld 88 3 true 10, .bsl 89 113 3 [88], .app 90 113 3 56 87 89, .fa 91 2 5, .st 1 91 90])
def acsL7Query_X_J4 : AC := (.seq (.seq (.ops [.mv 75 9, .bin 76 .gtr 75 (kI 0), .mv 77 76, .g 77 true (.mv 78 0), .g 77 true (.call (some 79) 83 [78, (kI 2)]), .pick 80 77 79 (kB false)]) (.cond 80 (.ops [.mv 81 0, .mv 82 1, .call (some 83) 85 [81, 82], .bsl 84 29 10 [83], .fa 85 2 10, .st 1 85 84]) .skip)) acsL7Query_X_J6)
def acsL7Query_X_L3 : AC := (.loop (.seq (.seq (.ops [.mv 61 9, .mv 62 6, .bin 63 .lss 61 62]) (.cond 63 .skip (.exit 3))) (.seq (.block 4 (.seq (.ops [.mv 66 0, .bsl 67 9 1 [(.c (.d (.s (bs [116])))), (.c (.d (.s (bs [117])))), (.c (.d (.s (bs [118]))))], .call (some 68) 151 [66, 67], .bld 69 [(.d (.s (bs []))), (.d (.s (bs []))), (.nil 10)] [(0, 1, 68)], .alc 10 [(.d (.s (bs []))), (.d (.s (bs []))), (.nil 10)], .st 3 10 69]) (.seq (.seq (.ops [.mv 70 0, .call (some 71) 83 [70, (kI 3)]]) (.cond 71 (.ops [.mv 72 0, .call (some 73) 150 [72], .fa 74 1 10, .st 1 74 73]) .skip)) acsL7Query_X_J4))) (.ops [.mv 64 9, .bin 65 .add 64 (kI 1), .asg 9 65]))))
def acsL7Query_X_J8 : AC := (.seq (.ops [.ld 118 6 true 5, .st 6 4 118]) .ret)
def acsL7Query_X_J7 : AC := (.seq (.seq (.ops [.mv 112 0, .call (some 113) 83 [112, (kI 4)]]) (.cond 113 (.ops [.mv 114 0, .bsl 115 3 1 [(kI 0), (kI 1), (kI 2), (kI 9223372036854775807)], .call (some 116) 148 [114, 115], .fa 117 5 5, .st 1 117 116]) .skip)) acsL7Query_X_J8)
def acsL7Query_X_J5 : AC := (.seq (.seq (.ops [.mv 99 0, .call (some 100) 83 [99, (kI 3)]]) (.cond 100 (.dops [[], [0], [], [], [2, 3], [], [5, 4], [4, 6], [7], [1, 8, 6], [0, 1, 2, 3, 4, 5, 6, 7, 8, 9], [10, 9, 9, 0, 1, 2, 3, 4, 5, 6, 7, 8, 9]] [.fa 101 4 5, .ld 102 1 false 101, .mv 103 0, .mv 104 1, .call (some 105) 85 [103, 104], .mv 106 0, .call (some 107) 83 [106, (kI 2)], .bld 108 [(.d (.i .i64 0)), (.d (.i .i64 0)), (.d (.b false)), (.d (.i .i64 0)), (.d (.i .i64 0)), (.d (.s (bs []))), (.d (.s (bs []))), (.d (.s (bs []))), (.nil 10), (.nil 6), (.d (.b false))] [(0, 10, 105), (10, 1, 107)], .bsl 109 115 11 [108], .app 110 115 11 144 102 109, .fa 111 4 5, .st 1 111 110]) .skip)) acsL7Query_X_J7)
def acsL7Query_X : AC := (.seq (.ops [.alc 4 [(.d (.b false)), (.nil 13), (.nil 3), (.nil 10), (.nil 11), (.d (.i .i64 0))]]) (.seq (.ops [.mv 11 0, .call (some 12) 83 [11, (kI 4)], .bld 13 [(.d (.b false)), (.nil 13), (.nil 3), (.nil 10), (.nil 11), (.d (.i .i64 0))] [(0, 1, 12), (5, 1, (kI (-1)))], .alc 5 [(.d (.b false)), (.nil 13), (.nil 3), (.nil 10), (.nil 11), (.d (.i .i64 0))], .st 6 5 13]) (.seq (.ops [.mv 14 0, .call (some 15) 86 [14, (kI 2)], .bin 16 .add (kI 1) 15, .asg 6 16]) (.seq (.seq (.ops [.asg 7 (kI 0)]) (.block 0 acsL7Query_X_L0)) (.seq (.ops [.mv 58 0, .call (some 59) 86 [58, (kI 2)], .bin 60 .add (kI 1) 59, .asg 6 60]) (.seq (.seq (.ops [.asg 9 (kI 0)]) (.block 3 acsL7Query_X_L3)) (.seq (.seq (.ops [.mv 92 0, .call (some 93) 83 [92, (kI 2)]]) (.cond 93 (.ops [.mv 94 0, .mv 95 1, .call (some 96) 85 [94, 95], .bsl 97 29 10 [96], .fa 98 3 5, .st 1 98 97]) .skip)) acsL7Query_X_J5)))))))
theorem trsL7Query_X : trFn Try.prog 146 = some (acsL7Query_X, [.ld 0 6 true 4], 119) := by kernel_rfl
def qsL7Query_X (r : GQuery × GL1Cur) : Exit → St → Prop := retQ [.ld 0 6 true 4] fun x b => x = (fun (y : GQuery × GL1Cur) => (.agv [(vB y.1.distinct), (.tre 10000001), (.tre 10000002), (.tre 10000003), (.tre 10000004), (vI y.1.limit)])) r ∧ bxHas ((fun (y : GQuery × GL1Cur) => [(10000001, [(.trc 13 (y.1.items.map cGItem))]), (10000002, [(.trc 3 (y.1.from_.map cGSource))]), (10000003, [(.trc 10 (y.1.where_.map cGExpr))]), (10000004, [(.trc 11 (y.1.order.map cGSortKey))]), (1000000, bGL1Cur y.2)]) r) b
def qsL7Query_X_0 (r : GQuery × GL1Cur) : Exit → St → Prop := (thenK (wkK (avc Try.prog (.seq (.ops [.mv 58 0, .call (some 59) 86 [58, (.c (.d (.i .i64 2)))], .bin 60 .add (.c (.d (.i .i64 1))) 59, .asg 6 60]) (.seq (.seq (.ops [.asg 9 (.c (.d (.i .i64 0)))]) (.block 3 acsL7Query_X_L3)) (.seq (.seq (.ops [.mv 92 0, .call (some 93) 83 [92, (.c (.d (.i .i64 2)))]]) (.cond 93 (.ops [.mv 94 0, .mv 95 1, .call (some 96) 85 [94, 95], .bsl 97 29 10 [96], .fa 98 3 5, .st 1 98 97]) .skip)) acsL7Query_X_J5))) (qsL7Query_X r))) (qsL7Query_X r))
def qsL7Query_X_1 (r : GQuery × GL1Cur) : Exit → St → Prop := (blockK 0 (qsL7Query_X_0 r))
def qsL7Query_X_2 (r : GQuery × GL1Cur) : Exit → St → Prop := (thenK (avc Try.prog acsL7Query_X_L0 (qsL7Query_X_1 r)) (qsL7Query_X_1 r))
def qsL7Query_X_3 (r : GQuery × GL1Cur) : Exit → St → Prop := (thenK (wkK (avc Try.prog acsL7Query_X_J1 (qsL7Query_X_2 r))) (qsL7Query_X_2 r))
def qsL7Query_X_4 (r : GQuery × GL1Cur) : Exit → St → Prop := (blockK 1 (qsL7Query_X_3 r))
def qsL7Query_X_5 (r : GQuery × GL1Cur) : Exit → St → Prop := (blockK 2 (qsL7Query_X_4 r))
def qsL7Query_X_6 (r : GQuery × GL1Cur) : Exit → St → Prop := (thenK (wkK (avc Try.prog (.seq (.seq (.ops [.mv 92 0, .call (some 93) 83 [92, (.c (.d (.i .i64 2)))]]) (.cond 93 (.ops [.mv 94 0, .mv 95 1, .call (some 96) 85 [94, 95], .bsl 97 29 10 [96], .fa 98 3 5, .st 1 98 97]) .skip)) acsL7Query_X_J5) (qsL7Query_X r))) (qsL7Query_X r))
def qsL7Query_X_7 (r : GQuery × GL1Cur) : Exit → St → Prop := (blockK 3 (qsL7Query_X_6 r))
def qsL7Query_X_8 (r : GQuery × GL1Cur) : Exit → St → Prop := (thenK (avc Try.prog acsL7Query_X_L3 (qsL7Query_X_7 r)) (qsL7Query_X_7 r))
def qsL7Query_X_9 (r : GQuery × GL1Cur) : Exit → St → Prop := (thenK (wkK (avc Try.prog (.ops [.mv 64 9, .bin 65 .add 64 (.c (.d (.i .i64 1))), .asg 9 65]) (qsL7Query_X_8 r))) (qsL7Query_X_8 r))
def qsL7Query_X_10 (r : GQuery × GL1Cur) : Exit → St → Prop := (blockK 4 (qsL7Query_X_9 r))
def stsL7Query_X_L0 (p1 : Int) (y2 : Int × GL1Cur) (y1 : Bool × GL1Cur) (x7 : Int) (b1000000_0 : (List Int)) (b1000000_1 : Int) (kb1000000_2 : (Int × (List GItem))) : St := ⟨[(0, (.ptr 1000000 0)), (1, (vI p1)), (4, (.ptr 4 0)), (5, (.ptr 5 0)), (6, (vI (IntKind.wrap .i64 (1 + y2.1)))), (7, (vI x7))], [(4, [(vB false), (.nil 13), (.nil 3), (.nil 10), (.nil 11), (vI 0)]), (5, [(vB y1.1), (.tre 60021000), (.nil 3), (.nil 10), (.nil 11), (vI (-1))]), (1000000, bGL1Cur (GL1Cur.mk b1000000_0 b1000000_1 kb1000000_2.1)), (60021000, [(.trc 13 (kb1000000_2.2.map cGItem))])]⟩
def stsL7Query_X_J1 (p1 : Int) (y2 : Int × GL1Cur) (x7 : Int) (y1 : Bool × GL1Cur) (b1000000_0_5 : (List Int)) (b1000000_1_6 : Int) (kb1000000_2_7 : (Int × (List GItem))) : St := ⟨[(0, (.ptr 1000000 0)), (1, (vI p1)), (4, (.ptr 4 0)), (5, (.ptr 5 0)), (6, (vI (IntKind.wrap .i64 (1 + y2.1)))), (7, (vI x7))], [(4, [(vB false), (.nil 13), (.nil 3), (.nil 10), (.nil 11), (vI 0)]), (5, [(vB y1.1), (.tre 60095000), (.nil 3), (.nil 10), (.nil 11), (vI (-1))]), (1000000, bGL1Cur (GL1Cur.mk b1000000_0_5 b1000000_1_6 kb1000000_2_7.1)), (60095000, [(.trc 13 (kb1000000_2_7.2.map cGItem))])]⟩
def stsL7Query_X_J2 (p1 : Int) (y2 : Int × GL1Cur) (x7 : Int) (y1 : Bool × GL1Cur) (y10 : GExpr × GL1Cur) (b60021000_0 : (List GItem)) (kb8_12 : ((List UInt8) × ((List Int) × (Int × Int)))) : St := ⟨[(0, (.ptr 1000000 0)), (1, (vI p1)), (4, (.ptr 4 0)), (5, (.ptr 5 0)), (6, (vI (IntKind.wrap .i64 (1 + y2.1)))), (7, (vI x7)), (8, (.ptr 8 0))], [(4, [(vB false), (.nil 13), (.nil 3), (.nil 10), (.nil 11), (vI 0)]), (5, [(vB y1.1), (.tre 60087000), (.nil 3), (.nil 10), (.nil 11), (vI (-1))]), (8, [(vB false), (vS []), (vI y10.1.kind), (vI y10.1.op), (vB y10.1.not_), (vI y10.1.value.kind), (vI y10.1.value.num), (vS y10.1.value.text), (vS y10.1.qual), (vS y10.1.name), (.tre 60087001), (.tre 60087002), (vS kb8_12.1)]), (1000000, bGL1Cur (GL1Cur.mk kb8_12.2.1 kb8_12.2.2.1 kb8_12.2.2.2)), (60087001, [(.trc 10 (y10.1.kids.map cGExpr))]), (60087002, [(.trc 6 (y10.1.sub.map cGQuery))]), (60087000, [(.trc 13 (b60021000_0.map cGItem))])]⟩
def stsL7Query_X_L3 (p1 : Int) (y16 : Int × GL1Cur) (y1 : Bool × GL1Cur) (b60021000_0 : (List GItem)) (x9 : Int) (b1000000_0_17 : (List Int)) (kb1000000_1_18 : (Int × (Int × (List GSource)))) : St := ⟨[(0, (.ptr 1000000 0)), (1, (vI p1)), (4, (.ptr 4 0)), (5, (.ptr 5 0)), (6, (vI (IntKind.wrap .i64 (1 + y16.1)))), (9, (vI x9))], [(4, [(vB false), (.nil 13), (.nil 3), (.nil 10), (.nil 11), (vI 0)]), (5, [(vB y1.1), (.tre 60110000), (.tre 60110001), (.nil 10), (.nil 11), (vI (-1))]), (1000000, bGL1Cur (GL1Cur.mk b1000000_0_17 kb1000000_1_18.1 kb1000000_1_18.2.1)), (60110001, [(.trc 3 (kb1000000_1_18.2.2.map cGSource))]), (60110000, [(.trc 13 (b60021000_0.map cGItem))])]⟩
def stsL7Query_X_J4 (p1 : Int) (y16 : Int × GL1Cur) (x9 : Int) (y1 : Bool × GL1Cur) (y21 : (List UInt8) × GL1Cur) (b60110001_0 : (List GSource)) (kb60021000_0 : ((List GItem) × ((List UInt8) × ((List Int) × (Int × Int))))) : St := ⟨[(0, (.ptr 1000000 0)), (1, (vI p1)), (4, (.ptr 4 0)), (5, (.ptr 5 0)), (6, (vI (IntKind.wrap .i64 (1 + y16.1)))), (9, (vI x9)), (10, (.ptr 10 0))], [(4, [(vB false), (.nil 13), (.nil 3), (.nil 10), (.nil 11), (vI 0)]), (5, [(vB y1.1), (.tre 60142000), (.tre 60142001), (.nil 10), (.nil 11), (vI (-1))]), (10, [(vS y21.1), (vS kb60021000_0.2.1), (.nil 10)]), (1000000, bGL1Cur (GL1Cur.mk kb60021000_0.2.2.1 kb60021000_0.2.2.2.1 kb60021000_0.2.2.2.2)), (60142001, [(.trc 3 (b60110001_0.map cGSource))]), (60142000, [(.trc 13 (kb60021000_0.1.map cGItem))])]⟩
def stsL7Query_X_J5 (p1 : Int) (y1 : Bool × GL1Cur) (b60021000_0 : (List GItem)) (b1000000_0_29 : (List Int)) (b1000000_1_30 : Int) (b1000000_2_31 : Int) (kb60186002_0 : ((List GExpr) × (List GSource))) : St := ⟨[(0, (.ptr 1000000 0)), (1, (vI p1)), (4, (.ptr 4 0)), (5, (.ptr 5 0))], [(4, [(vB false), (.nil 13), (.nil 3), (.nil 10), (.nil 11), (vI 0)]), (5, [(vB y1.1), (.tre 60186000), (.tre 60186001), (.tre 60186002), (.nil 11), (vI (-1))]), (1000000, bGL1Cur (GL1Cur.mk b1000000_0_29 b1000000_1_30 b1000000_2_31)), (60186002, [(.trc 10 (kb60186002_0.1.map cGExpr))]), (60186001, [(.trc 3 (kb60186002_0.2.map cGSource))]), (60186000, [(.trc 13 (b60021000_0.map cGItem))])]⟩
def stsL7Query_X_J6 (p1 : Int) (y16 : Int × GL1Cur) (x9 : Int) (y1 : Bool × GL1Cur) (y21 : (List UInt8) × GL1Cur) (b10_1 : (List UInt8)) (kb60021000_0q : ((List GItem) × ((List Int) × (Int × (Int × ((List GExpr) × (List GSource))))))) : St := ⟨[(0, (.ptr 1000000 0)), (1, (vI p1)), (4, (.ptr 4 0)), (5, (.ptr 5 0)), (6, (vI (IntKind.wrap .i64 (1 + y16.1)))), (9, (vI x9)), (10, (.ptr 10 0))], [(4, [(vB false), (.nil 13), (.nil 3), (.nil 10), (.nil 11), (vI 0)]), (5, [(vB y1.1), (.tre 60160000), (.tre 60160001), (.nil 10), (.nil 11), (vI (-1))]), (10, [(vS y21.1), (vS b10_1), (.tre 60160002)]), (1000000, bGL1Cur (GL1Cur.mk kb60021000_0q.2.1 kb60021000_0q.2.2.1 kb60021000_0q.2.2.2.1)), (60160002, [(.trc 10 (kb60021000_0q.2.2.2.2.1.map cGExpr))]), (60160001, [(.trc 3 (kb60021000_0q.2.2.2.2.2.map cGSource))]), (60160000, [(.trc 13 (kb60021000_0q.1.map cGItem))])]⟩
def stsL7Query_X_J7 (y1 : Bool × GL1Cur) (b60186001_0 : (List GSource)) (b60021000_0 : (List GItem)) (b1000000_0_42 : (List Int)) (b1000000_1_43 : Int) (b1000000_2_44 : Int) (b60206003_0 : (List GSortKey)) (b60206002_0 : (List GExpr)) : St := ⟨[(0, (.ptr 1000000 0)), (4, (.ptr 4 0)), (5, (.ptr 5 0))], [(4, [(vB false), (.nil 13), (.nil 3), (.nil 10), (.nil 11), (vI 0)]), (5, [(vB y1.1), (.tre 60206000), (.tre 60206001), (.tre 60206002), (.tre 60206003), (vI (-1))]), (1000000, bGL1Cur (GL1Cur.mk b1000000_0_42 b1000000_1_43 b1000000_2_44)), (60206003, [(.trc 11 (b60206003_0.map cGSortKey))]), (60206002, [(.trc 10 (b60206002_0.map cGExpr))]), (60206001, [(.trc 3 (b60186001_0.map cGSource))]), (60206000, [(.trc 13 (b60021000_0.map cGItem))])]⟩
def stsL7Query_X_J8 (y1 : Bool × GL1Cur) (b60206003_0 : (List GSortKey)) (b60206002_0 : (List GExpr)) (b60186001_0 : (List GSource)) (b60021000_0 : (List GItem)) (b5_5 : Int) (b1000000_0_48 : (List Int)) (b1000000_1_49 : Int) (b1000000_2_50 : Int) : St := ⟨[(4, (.ptr 4 0)), (5, (.ptr 5 0))], [(4, [(vB false), (.nil 13), (.nil 3), (.nil 10), (.nil 11), (vI 0)]), (5, [(vB y1.1), (.tre 60219000), (.tre 60219001), (.tre 60219002), (.tre 60219003), (vI b5_5)]), (1000000, bGL1Cur (GL1Cur.mk b1000000_0_48 b1000000_1_49 b1000000_2_50)), (60219003, [(.trc 11 (b60206003_0.map cGSortKey))]), (60219002, [(.trc 10 (b60206002_0.map cGExpr))]), (60219001, [(.trc 3 (b60186001_0.map cGSource))]), (60219000, [(.trc 13 (b60021000_0.map cGItem))])]⟩
def acsL1PickInt : AC := (.seq (.ops [.asg 4 (kI 0)]) (.seq (.ops [.mv 5 1, .mv 6 0, .mv 7 1, .len 8 7, .call (some 9) 86 [6, 8], .ia 10 1 5 9, .ld 11 1 false 10, .asg 4 11]) .ret))
theorem trsL1PickInt : trFn Try.prog 148 = some (acsL1PickInt, [.mv 0 4], 12) := by kernel_rfl
def qsL1PickInt (r : Int × GL1Cur) : Exit → St → Prop := retQ [.mv 0 4] fun x b => x = (fun (y : Int × GL1Cur) => (vI y.1)) r ∧ bxHas ((fun (y : Int × GL1Cur) => [(1000000, bGL1Cur y.2)]) r) b
def acsL7Value_J0 : AC := (.seq (.ops [.ld 15 3 true 3, .st 3 2 15]) .ret)
def acsL7Value : AC := (.seq (.ops [.alc 2 [(.d (.i .i64 0)), (.d (.i .i64 0)), (.d (.s (bs [])))]]) (.seq (.ops [.mv 4 0, .call (some 5) 191 [4], .alc 3 [(.d (.i .i64 0)), (.d (.i .i64 0)), (.d (.s (bs [])))], .st 3 3 5]) (.seq (.seq (.ops [.fa 6 0 3, .ld 7 1 false 6, .bin 8 .eql 7 (kI 1), .mv 9 8, .g 9 true (.fa 10 1 3), .g 9 true (.ld 11 1 false 10), .g 9 true (.bin 12 .lss 11 (kI 0)), .pick 13 9 12 (kB false)]) (.cond 13 (.ops [.fa 14 1 3, .st 1 14 (kI 9223372036854775807)]) .skip)) acsL7Value_J0)))
theorem trsL7Value : trFn Try.prog 144 = some (acsL7Value, [.ld 0 3 true 2], 16) := by kernel_rfl
def qsL7Value (r : GValue × GL1Cur) : Exit → St → Prop := retQ [.ld 0 3 true 2] fun x b => x = (fun (y : GValue × GL1Cur) => (vGValue y.1)) r ∧ bxHas ((fun (y : GValue × GL1Cur) => [(1000000, bGL1Cur y.2)]) r) b
def stsL7Value_J0 (y1 : GValue × GL1Cur) (b3_1 : Int) : St := ⟨[(2, (.ptr 2 0)), (3, (.ptr 3 0))], [(2, [(vI 0), (vI 0), (vS [])]), (3, bGValue (GValue.mk y1.1.kind b3_1 y1.1.text)), (1000000, bGL1Cur y1.2)]⟩
def acsL5Right : AC := (.seq (.ops [.alc 2 [(.d (.i .i64 0)), (.d (.i .i64 0)), (.d (.s (bs [])))]]) (.seq (.seq (.ops [.mv 3 0, .call (some 4) 86 [3, (kI 6)]]) (.block 0 (.seq (.ops [.bin 6 .eql 4 (kI 0), .asg 5 6]) (.cond 5 (.seq (.ops [.bld 7 [(.d (.i .i64 0)), (.d (.i .i64 0)), (.d (.s (bs [])))] [], .st 3 2 7]) .ret) (.seq (.ops [.bin 9 .eql 4 (kI 1), .asg 8 9]) (.cond 8 (.seq (.ops [.mv 10 0, .bsl 11 9 1 [(.c (.d (.s (bs [])))), (.c (.d (.s (bs [97])))), (.c (.d (.s (bs [98])))), (.c (.d (.s (bs [105, 116, 39, 115])))), (.c (.d (.s (bs [97, 98])))), (.c (.d (.s (bs [255]))))], .call (some 12) 151 [10, 11], .call (some 13) 202 [12], .st 3 2 13]) .ret) (.seq (.ops [.bin 15 .eql 4 (kI 2), .asg 14 15]) (.cond 14 (.seq (.ops [.mv 16 0, .call (some 17) 83 [16, (kI 2)], .call (some 18) 203 [17], .st 3 2 18]) .ret) (.seq (.ops [.bin 20 .eql 4 (kI 3), .asg 19 20]) (.cond 19 (.seq (.ops [.mv 21 0, .call (some 22) 192 [21], .call (some 23) 204 [22], .st 3 2 23]) .ret) .skip)))))))))) (.seq (.ops [.mv 24 0, .call (some 25) 86 [24, (kI 7)], .bin 26 .sub 25 (kI 2), .call (some 27) 204 [26], .st 3 2 27]) .ret)))
theorem trsL5Right : trFn Try.prog 191 = some (acsL5Right, [.ld 0 3 true 2], 28) := by kernel_rfl
def qsL5Right (r : GValue × GL1Cur) : Exit → St → Prop := retQ [.ld 0 3 true 2] fun x b => x = (fun (y : GValue × GL1Cur) => (vGValue y.1)) r ∧ bxHas ((fun (y : GValue × GL1Cur) => [(1000000, bGL1Cur y.2)]) r) b
def acsTextValue : AC := (.seq (.ops [.alc 2 [(.d (.i .i64 0)), (.d (.i .i64 0)), (.d (.s (bs [])))]]) (.seq (.ops [.mv 3 0, .bld 4 [(.d (.i .i64 0)), (.d (.i .i64 0)), (.d (.s (bs [])))] [(0, 1, (kI 2)), (2, 1, 3)], .st 3 2 4]) .ret))
theorem trsTextValue : trFn Try.prog 202 = some (acsTextValue, [.ld 0 3 true 2], 5) := by kernel_rfl
def qsTextValue (r : GValue) : Exit → St → Prop := retQ [.ld 0 3 true 2] fun x _ => x = (fun y => (vGValue y)) r
def acsIntValue : AC := (.seq (.ops [.alc 2 [(.d (.i .i64 0)), (.d (.i .i64 0)), (.d (.s (bs [])))]]) (.seq (.ops [.mv 3 0, .bld 4 [(.d (.i .i64 0)), (.d (.i .i64 0)), (.d (.s (bs [])))] [(0, 1, (kI 1)), (1, 1, 3)], .st 3 2 4]) .ret))
theorem trsIntValue : trFn Try.prog 204 = some (acsIntValue, [.ld 0 3 true 2], 5) := by kernel_rfl
def qsIntValue (r : GValue) : Exit → St → Prop := retQ [.ld 0 3 true 2] fun x _ => x = (fun y => (vGValue y)) r
def acsL1Whole : AC := (.seq (.ops [.asg 2 (kI 0)]) (.seq (.seq (.ops [.mv 3 0, .call (some 4) 86 [3, (kI 3)]]) (.block 0 (.seq (.ops [.bin 6 .eql 4 (kI 0), .asg 5 6]) (.cond 5 (.seq (.ops [.mv 7 0, .bsl 8 3 1 [(kI 0), (kI 1), (kI (-1)), (kI 63), (kI 64), (kI (-64)), (kI (-65)), (kI 127), (kI 128), (kI 16383), (kI 16384), (kI 9223372036854775807), (kI (-9223372036854775808)), (kI 4611686018427387904)], .call (some 9) 148 [7, 8], .asg 2 9]) .ret) (.seq (.ops [.bin 11 .eql 4 (kI 1), .asg 10 11]) (.cond 10 (.seq (.ops [.mv 12 0, .call (some 13) 86 [12, (kI 1000000)], .bin 14 .sub 13 (kI 500000), .asg 2 14]) .ret) .skip)))))) (.seq (.ops [.mv 15 0, .call (some 16) 86 [15, (kI 20)], .asg 2 16]) .ret)))
theorem trsL1Whole : trFn Try.prog 192 = some (acsL1Whole, [.mv 0 2], 17) := by kernel_rfl
def qsL1Whole (r : Int × GL1Cur) : Exit → St → Prop := retQ [.mv 0 2] fun x b => x = (fun (y : Int × GL1Cur) => (vI y.1)) r ∧ bxHas ((fun (y : Int × GL1Cur) => [(1000000, bGL1Cur y.2)]) r) b
def acsBoolValue : AC := (.seq (.ops [.alc 2 [(.d (.i .i64 0)), (.d (.i .i64 0)), (.d (.s (bs [])))]]) (.seq (.seq (.ops [.mv 3 0]) (.cond 3 (.seq (.ops [.bld 4 [(.d (.i .i64 0)), (.d (.i .i64 0)), (.d (.s (bs [])))] [(0, 1, (kI 3)), (1, 1, (kI 1))], .st 3 2 4]) .ret) .skip)) (.seq (.ops [.bld 5 [(.d (.i .i64 0)), (.d (.i .i64 0)), (.d (.s (bs [])))] [(0, 1, (kI 3))], .st 3 2 5]) .ret)))
theorem trsBoolValue : trFn Try.prog 203 = some (acsBoolValue, [.ld 0 3 true 2], 6) := by kernel_rfl
def qsBoolValue (r : GValue) : Exit → St → Prop := retQ [.ld 0 3 true 2] fun x _ => x = (fun y => (vGValue y)) r
def acsL7Kids_X_L0 : AC := (.loop (.seq (.seq (.ops [.mv 10 8, .mv 11 2, .bin 12 .lss 10 11]) (.cond 12 .skip (.exit 0))) (.seq (.block 1 (.ops [.mv 15 7, .mv 16 0, .mv 17 1, .bin 18 .sub 17 (kI 1), .call (some 19) 85 [16, 18], .bsl 20 29 10 [19], .app 21 29 10 136 15 20, .asg 7 21])) (.ops [.mv 13 8, .bin 14 .add 13 (kI 1), .asg 8 14]))))
def acsL7Kids_X : AC := (.seq (.ops [.asg 6 (.c (.nil 10))]) (.seq (.ops [.bsl 9 29 10 [], .asg 7 9]) (.seq (.seq (.ops [.asg 8 (kI 0)]) (.block 0 acsL7Kids_X_L0)) (.seq (.ops [.mv 22 7, .asg 6 22]) .ret))))
theorem trsL7Kids_X : trFn Try.prog 145 = some (acsL7Kids_X, [.mv 0 6], 23) := by kernel_rfl
def qsL7Kids_X (r : (List GExpr) × GL1Cur) : Exit → St → Prop := retQ [.mv 0 6] fun x b => x = (fun (y : (List GExpr) × GL1Cur) => (.tre 10000000)) r ∧ bxHas ((fun (y : (List GExpr) × GL1Cur) => [(10000000, [(.trc 10 (y.1.map cGExpr))]), (1000000, bGL1Cur y.2)]) r) b
def qsL7Kids_X_0 (r : (List GExpr) × GL1Cur) : Exit → St → Prop := (thenK (wkK (avc Try.prog (.seq (.ops [.mv 22 7, .asg 6 22]) .ret) (qsL7Kids_X r))) (qsL7Kids_X r))
def qsL7Kids_X_1 (r : (List GExpr) × GL1Cur) : Exit → St → Prop := (blockK 0 (qsL7Kids_X_0 r))
def stsL7Kids_X_L0 (p1 : Int) (p2 : Int) (x8 : Int) (b1000000_0 : (List Int)) (b1000000_1 : Int) (b1000000_2 : Int) (b60012000_0 : (List GExpr)) : St := ⟨[(0, (.ptr 1000000 0)), (1, (vI p1)), (2, (vI p2)), (7, (.tre 60012000)), (8, (vI x8))], [(1000000, bGL1Cur (GL1Cur.mk b1000000_0 b1000000_1 b1000000_2)), (60012000, [(.trc 10 (b60012000_0.map cGExpr))])]⟩
def acsL7Bent_X_J0 : AC := (.seq (.ops [.ld 81 10 true 3, .st 10 4 81]) .ret)
def acsL7Bent_X : AC := (.seq (.ops [.box 3 29 1, .alc 4 [(.d (.i .i64 0)), (.d (.i .i64 0)), (.d (.b false)), (.d (.i .i64 0)), (.d (.i .i64 0)), (.d (.s (bs []))), (.d (.s (bs []))), (.d (.s (bs []))), (.nil 10), (.nil 6)]]) (.seq (.seq (.ops [.fa 6 8 3, .ld 7 1 false 6, .len 8 7, .bin 9 .gtr 8 (kI 0), .mv 10 9, .g 10 true (.mv 11 0), .g 10 true (.call (some 12) 83 [11, (kI 2)]), .pick 13 10 12 (kB false)]) (.cond 13 (.seq (.ops [.mv 14 0, .fa 15 8 3, .ld 16 1 false 15, .len 17 16, .call (some 18) 86 [14, 17], .asg 5 18]) (.seq (.dops [[], [0], [], [], [], [4], [], [5, 6], [7], [3, 8], [1, 2, 0, 1, 2, 3, 4, 5, 6, 7, 8, 9], [10, 9, 9, 0, 1, 2, 3, 4, 5, 6, 7, 8, 9]] [.fa 19 8 3, .ld 20 1 false 19, .mv 21 5, .mv 22 0, .fa 23 8 3, .ld 24 1 false 23, .mv 25 5, .ia 26 10 24 25, .ld 27 10 true 26, .call (some 28) 88 [22, 27], .ia 29 10 20 21, .st 10 29 28]) (.seq (.ops [.ld 30 10 true 3, .st 10 4 30]) .ret))) .skip)) (.seq (.seq (.ops [.mv 31 0, .call (some 32) 86 [31, (kI 8)]]) (.block 0 (.seq (.ops [.bin 40 .eql 32 (kI 0), .asg 39 40]) (.cond 39 (.ops [.mv 41 0, .call (some 42) 86 [41, (kI 12)], .bin 43 .sub 42 (kI 1), .fa 44 0 3, .st 1 44 43]) (.seq (.ops [.bin 46 .eql 32 (kI 1), .asg 45 46]) (.cond 45 (.ops [.mv 47 0, .bsl 48 3 1 [(kI 0), (kI 1), (kI 14), (kI 15), (kI 16), (kI 17), (kI (-1))], .call (some 49) 148 [47, 48], .fa 50 1 3, .st 1 50 49]) (.seq (.ops [.bin 52 .eql 32 (kI 2), .asg 51 52]) (.cond 51 (.ops [.fa 53 2 3, .ld 54 1 false 53, .not 55 54, .fa 56 2 3, .st 1 56 55]) (.seq (.ops [.bin 58 .eql 32 (kI 3), .asg 57 58]) (.cond 57 (.ops [.mv 59 0, .call (some 60) 149 [59], .fa 61 3 3, .st 3 61 60]) (.seq (.ops [.bin 63 .eql 32 (kI 4), .asg 62 63]) (.cond 62 (.ops [.mv 64 0, .call (some 65) 90 [64], .fa 66 7 3, .st 1 66 65]) (.seq (.ops [.bin 68 .eql 32 (kI 5), .asg 67 68]) (.cond 67 (.ops [.mv 69 0, .call (some 70) 90 [69], .fa 71 6 3, .st 1 71 70]) (.seq (.ops [.bin 73 .eql 32 (kI 6), .asg 72 73]) (.cond 72 (.dops [[], [0], [], [2], [3], [1, 4, 3], [0, 1, 2, 3, 4, 5], [6, 5, 5, 0, 1, 2, 3, 4, 5]] [.fa 74 8 3, .ld 75 1 false 74, .mv 76 0, .call (some 77) 143 [76], .bsl 78 29 10 [77], .app 79 29 10 136 75 78, .fa 80 8 3, .st 1 80 79]) (.ops [.fa 33 9 3, .ld 34 1 false 33, .bld 35 [(.d (.b false)), (.nil 13), (.nil 3), (.nil 10), (.nil 11), (.d (.i .i64 0))] [], .bsl 36 38 6 [35], .app 37 38 6 112 34 36, .fa 38 9 3, .st 1 38 37]))))))))))))))))) acsL7Bent_X_J0)))
theorem trsL7Bent_X : trFn Try.prog 88 = some (acsL7Bent_X, [.ld 0 10 true 4], 82) := by kernel_rfl
def qsL7Bent_X (r : GExpr × GL1Cur) : Exit → St → Prop := retQ [.ld 0 10 true 4] fun x b => x = (fun (y : GExpr × GL1Cur) => (.agv [(vI y.1.kind), (vI y.1.op), (vB y.1.not_), (vI y.1.value.kind), (vI y.1.value.num), (vS y.1.value.text), (vS y.1.qual), (vS y.1.name), (.tre 10000008), (.tre 10000009)])) r ∧ bxHas ((fun (y : GExpr × GL1Cur) => [(10000008, [(.trc 10 (y.1.kids.map cGExpr))]), (10000009, [(.trc 6 (y.1.sub.map cGQuery))]), (1000000, bGL1Cur y.2), (3001008, [.trd]), (3001009, [.trd])]) r) b
def stsL7Bent_X_J0 (b3_0 : Int) (b3_1 : Int) (b3_2 : Bool) (b3_3 : Int) (b3_4 : Int) (b3_5 : (List UInt8)) (b3_6 : (List UInt8)) (b3_7 : (List UInt8)) (b1000000_0 : (List Int)) (b1000000_1 : Int) (b1000000_2 : Int) (b60135000_0 : (List GExpr)) (b60135001_0 : (List GQuery)) : St := ⟨[(3, (.ptr 3 0)), (4, (.ptr 4 0))], [(3, [(vI b3_0), (vI b3_1), (vB b3_2), (vI b3_3), (vI b3_4), (vS b3_5), (vS b3_6), (vS b3_7), (.tre 60135000), (.tre 60135001)]), (4, [(vI 0), (vI 0), (vB false), (vI 0), (vI 0), (vS []), (vS []), (vS []), (.nil 10), (.nil 6)]), (1000000, bGL1Cur (GL1Cur.mk b1000000_0 b1000000_1 b1000000_2)), (60135000, [(.trc 10 (b60135000_0.map cGExpr))]), (60135001, [(.trc 6 (b60135001_0.map cGQuery))])]⟩
def acsL5Bent_J0 : AC := (.seq (.ops [.ld 40 3 true 3, .st 3 2 40]) .ret)
def acsL5Bent_L1 : AC := (.loop (.seq (.seq (.ops [.mv 25 0, .call (some 26) 83 [25, (kI 2)], .mv 27 26, .g 27 true (.fa 28 2 3), .g 27 true (.ld 29 1 false 28), .g 27 true (.lns 30 29), .g 27 true (.bin 31 .lss 30 (kI 400)), .pick 32 27 31 (kB false)]) (.cond 32 .skip (.exit 1))) (.block 2 (.ops [.fa 33 2 3, .ld 34 1 false 33, .fa 35 2 3, .ld 36 1 false 35, .bin 37 .add 34 36, .bin 38 .add 37 (.c (.d (.s (bs [48, 49, 50, 51, 52, 53, 54, 55, 56, 57])))), .fa 39 2 3, .st 1 39 38]))))
def acsL5Bent : AC := (.seq (.ops [.alc 2 [(.d (.i .i64 0)), (.d (.i .i64 0)), (.d (.s (bs [])))]]) (.seq (.ops [.mv 4 0, .call (some 5) 191 [4], .alc 3 [(.d (.i .i64 0)), (.d (.i .i64 0)), (.d (.s (bs [])))], .st 3 3 5]) (.seq (.seq (.ops [.mv 6 0, .call (some 7) 86 [6, (kI 14)]]) (.block 0 (.seq (.ops [.bin 9 .eql 7 (kI 0), .asg 8 9]) (.cond 8 (.ops [.mv 10 0, .call (some 11) 86 [10, (kI 6)], .bin 12 .sub 11 (kI 1), .fa 13 0 3, .st 1 13 12]) (.seq (.ops [.bin 15 .eql 7 (kI 1), .asg 14 15]) (.cond 14 (.ops [.mv 16 0, .call (some 17) 192 [16], .fa 18 1 3, .st 1 18 17]) (.seq (.ops [.bin 20 .eql 7 (kI 2), .asg 19 20]) (.cond 19 (.seq (.ops [.mv 21 0, .bsl 22 9 1 [(.c (.d (.s (bs [120])))), (.c (.d (.s (bs [])))), (.c (.d (.s (bs [108, 111, 110, 103]))))], .call (some 23) 151 [21, 22], .fa 24 2 3, .st 1 24 23]) (.block 1 acsL5Bent_L1)) .skip)))))))) acsL5Bent_J0)))
theorem trsL5Bent : trFn Try.prog 149 = some (acsL5Bent, [.ld 0 3 true 2], 41) := by kernel_rfl
def qsL5Bent (r : GValue × GL1Cur) : Exit → St → Prop := retQ [.ld 0 3 true 2] fun x b => x = (fun (y : GValue × GL1Cur) => (vGValue y.1)) r ∧ bxHas ((fun (y : GValue × GL1Cur) => [(1000000, bGL1Cur y.2)]) r) b
def qsL5Bent_0 (r : GValue × GL1Cur) : Exit → St → Prop := (thenK (wkK (avc Try.prog acsL5Bent_J0 (qsL5Bent r))) (qsL5Bent r))
def qsL5Bent_1 (r : GValue × GL1Cur) : Exit → St → Prop := (blockK 0 (qsL5Bent_0 r))
def qsL5Bent_2 (r : GValue × GL1Cur) : Exit → St → Prop := (blockK 1 (qsL5Bent_1 r))
def stsL5Bent_J0 (b3_0 : Int) (b3_1 : Int) (b3_2 : (List UInt8)) (b1000000_0 : (List Int)) (b1000000_1 : Int) (b1000000_2 : Int) : St := ⟨[(2, (.ptr 2 0)), (3, (.ptr 3 0))], [(2, [(vI 0), (vI 0), (vS [])]), (3, bGValue (GValue.mk b3_0 b3_1 b3_2)), (1000000, bGL1Cur (GL1Cur.mk b1000000_0 b1000000_1 b1000000_2))]⟩
def stsL5Bent_L1 (y1 : GValue × GL1Cur) (b3_2_6 : (List UInt8)) (b1000000_0_7 : (List Int)) (b1000000_1_8 : Int) (b1000000_2_9 : Int) : St := ⟨[(0, (.ptr 1000000 0)), (2, (.ptr 2 0)), (3, (.ptr 3 0))], [(2, [(vI 0), (vI 0), (vS [])]), (3, bGValue (GValue.mk y1.1.kind y1.1.num b3_2_6)), (1000000, bGL1Cur (GL1Cur.mk b1000000_0_7 b1000000_1_8 b1000000_2_9))]⟩
def acsL8Right_X_L0 : AC := (.loop (.seq (.seq (.ops [.mv 24 7, .mv 25 6, .bin 26 .lss 24 25]) (.cond 26 .skip (.exit 1))) (.seq (.block 2 (.dops [[], [0], [], [], [], [4], [5], [2, 3, 6, 5], [7], [1, 8, 7], [0, 1, 2, 3, 4, 5, 6, 7, 8, 9], [10, 9, 9, 0, 1, 2, 3, 4, 5, 6, 7, 8, 9]] [.fa 29 8 5, .ld 30 1 false 29, .mv 31 0, .mv 32 1, .mv 33 0, .call (some 34) 86 [33, (kI 3)], .bin 35 .add (kI 1) 34, .call (some 36) 145 [31, 32, 35], .bsl 37 26 1 [36], .app 38 26 1 24 30 37, .fa 39 8 5, .st 1 39 38])) (.ops [.mv 27 7, .bin 28 .add 27 (kI 1), .asg 7 28]))))
def acsL8Right_X_L1 : AC := (.loop (.seq (.seq (.ops [.mv 46 9, .mv 47 8, .bin 48 .lss 46 47]) (.cond 48 .skip (.exit 3))) (.seq (.block 4 (.dops [[], [0], [], [2], [3], [1, 4, 3], [0, 1, 2, 3, 4, 5], [6, 5, 5, 0, 1, 2, 3, 4, 5]] [.fa 51 9 5, .ld 52 1 false 51, .mv 53 0, .call (some 54) 150 [53], .bsl 55 9 1 [54], .app 56 9 1 16 52 55, .fa 57 9 5, .st 1 57 56])) (.ops [.mv 49 9, .bin 50 .add 49 (kI 1), .asg 9 50]))))
def acsL8Right_X_J3 : AC := (.seq (.ops [.ld 80 12 true 5, .st 12 4 80]) .ret)
def acsL8Right_X_J2 : AC := (.seq (.ops [.mv 66 0, .call (some 67) 150 [66], .fa 68 7 5, .st 1 68 67]) (.seq (.seq (.ops [.fa 69 0 5, .ld 70 1 false 69, .bin 71 .neq 70 (kI 2), .mv 72 71, .g 72 true (.mv 73 0), .g 72 true (.call (some 74) 83 [73, (kI 2)]), .pick 75 72 74 (kB false)]) (.cond 75 (.ops [.mv 76 0, .mv 77 1, .call (some 78) 145 [76, 77, (kI 1)], .fa 79 11 5, .st 1 79 78]) .skip)) acsL8Right_X_J3))
def acsL8Right_X : AC := (.seq (.ops [.alc 4 [(.d (.i .i64 0)), (.d (.b false)), (.nil 13), (.nil 3), (.nil 10), (.nil 11), (.d (.i .i64 0)), (.d (.s (bs []))), (.nil 1), (.nil 1), (.nil 10), (.nil 10)]]) (.seq (.ops [.bld 10 [(.d (.i .i64 0)), (.d (.b false)), (.nil 13), (.nil 3), (.nil 10), (.nil 11), (.d (.i .i64 0)), (.d (.s (bs []))), (.nil 1), (.nil 1), (.nil 10), (.nil 10)] [(0, 1, (kI 1))], .alc 5 [(.d (.i .i64 0)), (.d (.b false)), (.nil 13), (.nil 3), (.nil 10), (.nil 11), (.d (.i .i64 0)), (.d (.s (bs []))), (.nil 1), (.nil 1), (.nil 10), (.nil 10)], .st 12 5 10]) (.seq (.seq (.ops [.mv 11 0, .call (some 12) 86 [11, (kI 6)]]) (.block 0 (.seq (.ops [.bin 19 .eql 12 (kI 0), .asg 18 19]) (.cond 18 (.seq (.ops [.fa 20 0 5, .st 1 20 (kI 2)]) (.seq (.ops [.mv 21 0, .call (some 22) 86 [21, (kI 2)], .bin 23 .add (kI 1) 22, .asg 6 23]) (.seq (.ops [.asg 7 (kI 0)]) (.block 1 acsL8Right_X_L0)))) (.seq (.ops [.bin 41 .eql 12 (kI 1), .asg 40 41]) (.cond 40 (.seq (.ops [.fa 42 0 5, .st 1 42 (kI 3)]) (.seq (.ops [.mv 43 0, .call (some 44) 86 [43, (kI 2)], .bin 45 .add (kI 1) 44, .asg 8 45]) (.seq (.seq (.ops [.asg 9 (kI 0)]) (.block 3 acsL8Right_X_L1)) (.ops [.mv 58 0, .mv 59 1, .mv 60 8, .call (some 61) 145 [58, 59, 60], .fa 62 10 5, .st 1 62 61])))) (.seq (.ops [.bin 64 .eql 12 (kI 2), .asg 63 64]) (.cond 63 (.ops [.fa 65 0 5, .st 1 65 (kI 4)]) (.seq (.ops [.mv 13 0, .mv 14 1, .call (some 15) 146 [13, 14], .fa 16 1 5, .st 6 16 15]) (.seq (.ops [.ld 17 12 true 5, .st 12 4 17]) .ret)))))))))) acsL8Right_X_J2)))
theorem trsL8Right_X : trFn Try.prog 89 = some (acsL8Right_X, [.ld 0 12 true 4], 81) := by kernel_rfl
def qsL8Right_X (r : GStmt × GL1Cur) : Exit → St → Prop := retQ [.ld 0 12 true 4] fun x b => x = (fun (y : GStmt × GL1Cur) => (.agv [(vI y.1.kind), (vB y.1.query.distinct), (.tre 10000002), (.tre 10000003), (.tre 10000004), (.tre 10000005), (vI y.1.query.limit), (vS y.1.table), (.tre 10000008), (.osl 2010009 9 1 (y.1.cols.map cStr)), (.tre 10000010), (.tre 10000011)])) r ∧ bxHas ((fun (y : GStmt × GL1Cur) => [(10000002, [(.trc 13 (y.1.query.items.map cGItem))]), (10000003, [(.trc 3 (y.1.query.from_.map cGSource))]), (10000004, [(.trc 10 (y.1.query.where_.map cGExpr))]), (10000005, [(.trc 11 (y.1.query.order.map cGSortKey))]), (10000008, [(.trc 1 (y.1.rows.map (cSl 10 cGExpr)))]), (10000010, [(.trc 10 (y.1.sets.map cGExpr))]), (10000011, [(.trc 10 (y.1.where_.map cGExpr))]), (1000000, bGL1Cur y.2)]) r) b
def qsL8Right_X_0 (r : GStmt × GL1Cur) : Exit → St → Prop := (thenK (wkK (avc Try.prog acsL8Right_X_J2 (qsL8Right_X r))) (qsL8Right_X r))
def qsL8Right_X_1 (r : GStmt × GL1Cur) : Exit → St → Prop := (blockK 0 (qsL8Right_X_0 r))
def qsL8Right_X_2 (r : GStmt × GL1Cur) : Exit → St → Prop := (blockK 1 (qsL8Right_X_1 r))
def qsL8Right_X_3 (r : GStmt × GL1Cur) : Exit → St → Prop := (thenK (wkK (avc Try.prog (.ops [.mv 58 0, .mv 59 1, .mv 60 8, .call (some 61) 145 [58, 59, 60], .fa 62 10 5, .st 1 62 61]) (qsL8Right_X_1 r))) (qsL8Right_X_1 r))
def qsL8Right_X_4 (r : GStmt × GL1Cur) : Exit → St → Prop := (blockK 3 (qsL8Right_X_3 r))
def stsL8Right_X_L0 (p1 : Int) (y2 : Int × GL1Cur) (x7 : Int) (b1000000_0 : (List Int)) (b1000000_1 : Int) (b1000000_2 : Int) (b60033000_0 : (List (List GExpr))) : St := ⟨[(0, (.ptr 1000000 0)), (1, (vI p1)), (4, (.ptr 4 0)), (5, (.ptr 5 0)), (6, (vI (IntKind.wrap .i64 (1 + y2.1)))), (7, (vI x7))], [(4, [(vI 0), (vB false), (.nil 13), (.nil 3), (.nil 10), (.nil 11), (vI 0), (vS []), (.nil 1), (.nil 1), (.nil 10), (.nil 10)]), (5, [(vI 2), (vB false), (.nil 13), (.nil 3), (.nil 10), (.nil 11), (vI 0), (vS []), (.tre 60033000), (.nil 1), (.nil 10), (.nil 10)]), (1000000, bGL1Cur (GL1Cur.mk b1000000_0 b1000000_1 b1000000_2)), (60033000, [(.trc 1 (b60033000_0.map (cSl 10 cGExpr)))])]⟩
def stsL8Right_X_L1 (p1 : Int) (y3 : Int × GL1Cur) (x9 : Int) (b5_9 : (List (List UInt8))) (b1000000_0_4 : (List Int)) (b1000000_1_5 : Int) (b1000000_2_6 : Int) : St := ⟨[(0, (.ptr 1000000 0)), (1, (vI p1)), (4, (.ptr 4 0)), (5, (.ptr 5 0)), (8, (vI (IntKind.wrap .i64 (1 + y3.1)))), (9, (vI x9))], [(4, [(vI 0), (vB false), (.nil 13), (.nil 3), (.nil 10), (.nil 11), (vI 0), (vS []), (.nil 1), (.nil 1), (.nil 10), (.nil 10)]), (5, [(vI 3), (vB false), (.nil 13), (.nil 3), (.nil 10), (.nil 11), (vI 0), (vS []), (.nil 1), (.osl 56 9 1 (b5_9.map cStr)), (.nil 10), (.nil 10)]), (1000000, bGL1Cur (GL1Cur.mk b1000000_0_4 b1000000_1_5 b1000000_2_6))]⟩
def stsL8Right_X_J2 (p1 : Int) (b5_0 : Int) (b5_9_7 : (List (List UInt8))) (b1000000_0_8 : (List Int)) (b1000000_1_9 : Int) (b1000000_2_10 : Int) (b60134001_0 : (List GExpr)) (b60134000_0 : (List (List GExpr))) : St := ⟨[(0, (.ptr 1000000 0)), (1, (vI p1)), (4, (.ptr 4 0)), (5, (.ptr 5 0))], [(4, [(vI 0), (vB false), (.nil 13), (.nil 3), (.nil 10), (.nil 11), (vI 0), (vS []), (.nil 1), (.nil 1), (.nil 10), (.nil 10)]), (5, [(vI b5_0), (vB false), (.nil 13), (.nil 3), (.nil 10), (.nil 11), (vI 0), (vS []), (.tre 60134000), (.osl 56 9 1 (b5_9_7.map cStr)), (.tre 60134001), (.nil 10)]), (1000000, bGL1Cur (GL1Cur.mk b1000000_0_8 b1000000_1_9 b1000000_2_10)), (60134001, [(.trc 10 (b60134001_0.map cGExpr))]), (60134000, [(.trc 1 (b60134000_0.map (cSl 10 cGExpr)))])]⟩
def stsL8Right_X_J3 (b5_0 : Int) (y18 : (List UInt8) × GL1Cur) (b5_9_7 : (List (List UInt8))) (b60134001_0 : (List GExpr)) (b60134000_0 : (List (List GExpr))) (b1000000_0_22 : (List Int)) (b1000000_1_23 : Int) (b1000000_2_24 : Int) (b60158002_0 : (List GExpr)) : St := ⟨[(4, (.ptr 4 0)), (5, (.ptr 5 0))], [(4, [(vI 0), (vB false), (.nil 13), (.nil 3), (.nil 10), (.nil 11), (vI 0), (vS []), (.nil 1), (.nil 1), (.nil 10), (.nil 10)]), (5, [(vI b5_0), (vB false), (.nil 13), (.nil 3), (.nil 10), (.nil 11), (vI 0), (vS y18.1), (.tre 60158000), (.osl 56 9 1 (b5_9_7.map cStr)), (.tre 60158001), (.tre 60158002)]), (1000000, bGL1Cur (GL1Cur.mk b1000000_0_22 b1000000_1_23 b1000000_2_24)), (60158002, [(.trc 10 (b60158002_0.map cGExpr))]), (60158001, [(.trc 10 (b60134001_0.map cGExpr))]), (60158000, [(.trc 1 (b60134000_0.map (cSl 10 cGExpr)))])]⟩
theorem koGValue (x : GValue) (h : ∀ d ∈ cGValue x, OkD d) : okGValue x := ⟨ko_i _ (ko_sub h 0 1), ko_i _ (ko_sub h 1 1), ko_s _ (ko_sub h 2 1)⟩
mutual
theorem koGExpr : ∀ x : GExpr, (∀ d ∈ cGExpr x, OkD d) → okGExpr x
  | ⟨a0, a1, a2, a3, a4, a5, a6, a7⟩, h0 => by
    rw [cGExpr_eq] at h0
    have h : ∀ d ∈ oGExpr ⟨a0, a1, a2, a3, a4, a5, a6, a7⟩, OkD d := h0
    unfold okGExpr
    exact ⟨ko_i _ (ko_sub h 0 1), ko_i _ (ko_sub h 1 1), trivial, koGValue a3 (ko_sub h 3 3), ko_s _ (ko_sub h 6 1), ko_s _ (ko_sub h 7 1), ⟨by simpa using (ko_len (ko_sub h 8 1)).1, koLGExpr a6 (ko_len (ko_sub h 8 1)).2⟩, ⟨by simpa using (ko_len (ko_sub h 9 1)).1, koLGQuery a7 (ko_len (ko_sub h 9 1)).2⟩⟩
theorem koGItem : ∀ x : GItem, (∀ d ∈ cGItem x, OkD d) → okGItem x
  | ⟨a0, a1, a2, a3⟩, h0 => by
    rw [cGItem_eq] at h0
    have h : ∀ d ∈ oGItem ⟨a0, a1, a2, a3⟩, OkD d := h0
    unfold okGItem
    exact ⟨trivial, ko_s _ (ko_sub h 1 1), koGExpr a2 (by rw [cGExpr_eq]; exact (ko_sub h 2 10)), ko_s _ (ko_sub h 12 1)⟩
theorem koGQuery : ∀ x : GQuery, (∀ d ∈ cGQuery x, OkD d) → okGQuery x
  | ⟨a0, a1, a2, a3, a4, a5⟩, h0 => by
    rw [cGQuery_eq] at h0
    have h : ∀ d ∈ oGQuery ⟨a0, a1, a2, a3, a4, a5⟩, OkD d := h0
    unfold okGQuery
    exact ⟨trivial, ⟨by simpa using (ko_len (ko_sub h 1 1)).1, koLGItem a1 (ko_len (ko_sub h 1 1)).2⟩, ⟨by simpa using (ko_len (ko_sub h 2 1)).1, koLGSource a2 (ko_len (ko_sub h 2 1)).2⟩, ⟨by simpa using (ko_len (ko_sub h 3 1)).1, koLGExpr a3 (ko_len (ko_sub h 3 1)).2⟩, ⟨by simpa using (ko_len (ko_sub h 4 1)).1, koLGSortKey a4 (ko_len (ko_sub h 4 1)).2⟩, ko_i _ (ko_sub h 5 1)⟩
theorem koGSortKey : ∀ x : GSortKey, (∀ d ∈ cGSortKey x, OkD d) → okGSortKey x
  | ⟨a0, a1⟩, h0 => by
    rw [cGSortKey_eq] at h0
    have h : ∀ d ∈ oGSortKey ⟨a0, a1⟩, OkD d := h0
    unfold okGSortKey
    exact ⟨koGExpr a0 (by rw [cGExpr_eq]; exact (ko_sub h 0 10)), trivial⟩
theorem koGSource : ∀ x : GSource, (∀ d ∈ cGSource x, OkD d) → okGSource x
  | ⟨a0, a1, a2⟩, h0 => by
    rw [cGSource_eq] at h0
    have h : ∀ d ∈ oGSource ⟨a0, a1, a2⟩, OkD d := h0
    unfold okGSource
    exact ⟨ko_s _ (ko_sub h 0 1), ko_s _ (ko_sub h 1 1), ⟨by simpa using (ko_len (ko_sub h 2 1)).1, koLGExpr a2 (ko_len (ko_sub h 2 1)).2⟩⟩
theorem koLGExpr : ∀ l : List GExpr, (∀ x ∈ l.map cGExpr, ∀ d ∈ x, OkD d) → okLGExpr l
  | [], _ => by unfold okLGExpr; trivial
  | x :: l, h => by
    unfold okLGExpr
    exact ⟨koGExpr x (h _ (by simp)), koLGExpr l fun y hy => h y (List.mem_cons_of_mem _ hy)⟩
theorem koLGItem : ∀ l : List GItem, (∀ x ∈ l.map cGItem, ∀ d ∈ x, OkD d) → okLGItem l
  | [], _ => by unfold okLGItem; trivial
  | x :: l, h => by
    unfold okLGItem
    exact ⟨koGItem x (h _ (by simp)), koLGItem l fun y hy => h y (List.mem_cons_of_mem _ hy)⟩
theorem koLGQuery : ∀ l : List GQuery, (∀ x ∈ l.map cGQuery, ∀ d ∈ x, OkD d) → okLGQuery l
  | [], _ => by unfold okLGQuery; trivial
  | x :: l, h => by
    unfold okLGQuery
    exact ⟨koGQuery x (h _ (by simp)), koLGQuery l fun y hy => h y (List.mem_cons_of_mem _ hy)⟩
theorem koLGSortKey : ∀ l : List GSortKey, (∀ x ∈ l.map cGSortKey, ∀ d ∈ x, OkD d) → okLGSortKey l
  | [], _ => by unfold okLGSortKey; trivial
  | x :: l, h => by
    unfold okLGSortKey
    exact ⟨koGSortKey x (h _ (by simp)), koLGSortKey l fun y hy => h y (List.mem_cons_of_mem _ hy)⟩
theorem koLGSource : ∀ l : List GSource, (∀ x ∈ l.map cGSource, ∀ d ∈ x, OkD d) → okLGSource l
  | [], _ => by unfold okLGSource; trivial
  | x :: l, h => by
    unfold okLGSource
    exact ⟨koGSource x (h _ (by simp)), koLGSource l fun y hy => h y (List.mem_cons_of_mem _ hy)⟩
end
theorem koGStmt (x : GStmt) (h : ∀ d ∈ cGStmt x, OkD d) : okGStmt x := ⟨ko_i _ (ko_sub h 0 1), koGQuery x.query (by rw [cGQuery_eq]; exact ko_sub h 1 6), ko_s _ (ko_sub h 7 1), ko_l _ (fun y hy => ko_l _ (fun y hy => koGExpr y hy) hy) (ko_sub h 8 1), ko_l _ (fun y hy => ko_s _ hy) (ko_sub h 9 1), ko_l _ (fun y hy => koGExpr y hy) (ko_sub h 10 1), ko_l _ (fun y hy => koGExpr y hy) (ko_sub h 11 1)⟩
theorem koGL1Cur (x : GL1Cur) (h : ∀ d ∈ cGL1Cur x, OkD d) : okGL1Cur x := ⟨ko_l _ (fun y hy => ko_u8 _ hy) (ko_sub h 0 1), ko_i _ (ko_sub h 1 1), ko_i _ (ko_sub h 2 1)⟩
theorem de5 {l : List D} (h : WtC Try.prog 5 l) : ∃ x : Int, l = cU8 x := (wt_i h (k := .u8) (by kernel_rfl))
theorem de22 {l : List D} (h : WtC Try.prog 22 l) : ∃ x : (List Int), l = (cSl 1 cU8) x := (wt_sl h (e := 5) (n := 1) (c := cU8) (by kernel_rfl) (by kernel_rfl) fun x hx => de5 hx)
theorem OKs_iCopyQuery_X_L2 : (∀ (p0 : GQuery) (b60066001_0 : (List GSource)) (b60024000_0 : (List GItem)) (y1 : (List GExpr)) (x57 : Int) (b60108003_0 : (List GSortKey)) (r : GQuery), iCopyQuery_X_L2 p0 b60066001_0 b60024000_0 y1 x57 b60108003_0 = some r → avc Try.prog aciCopyQuery_X_L2 (qiCopyQuery_X_5 r) (stiCopyQuery_X_L2 p0 b60066001_0 b60024000_0 y1 x57 b60108003_0)) ∧ (∀ (p0 : GExpr) (r : GExpr), iCopyExpr_X p0 = some r → ACalls Try.prog 91 [(vGExpr p0)] [] fun x b => x = (fun (y : GExpr) => (.agv [(vI y.kind), (vI y.op), (vB y.not_), (vI y.value.kind), (vI y.value.num), (vS y.value.text), (vS y.qual), (vS y.name), (.tre 10000008), (.tre 10000009)])) r ∧ bxHas ((fun (y : GExpr) => [(10000008, [(.trc 10 (y.kids.map cGExpr))]), (10000009, [(.trc 6 (y.sub.map cGQuery))])]) r) b) ∧ (∀ (p0 : GExpr) (y1 : (List GExpr)) (x14 : Int) (b60023000_0 : (List GQuery)) (r : GExpr), iCopyExpr_X_L0 p0 y1 x14 b60023000_0 = some r → avc Try.prog aciCopyExpr_X_L0 (qiCopyExpr_X_1 r) (stiCopyExpr_X_L0 p0 y1 x14 b60023000_0)) ∧ (∀ (p0 : GQuery) (r : GQuery), iCopyQuery_X p0 = some r → ACalls Try.prog 154 [(vGQuery p0)] [] fun x b => x = (fun (y : GQuery) => (.agv [(vB y.distinct), (.tre 10000001), (.tre 10000002), (.tre 10000003), (.tre 10000004), (vI y.limit)])) r ∧ bxHas ((fun (y : GQuery) => [(10000001, [(.trc 13 (y.items.map cGItem))]), (10000002, [(.trc 3 (y.from_.map cGSource))]), (10000003, [(.trc 10 (y.where_.map cGExpr))]), (10000004, [(.trc 11 (y.order.map cGSortKey))])]) r) b) ∧ (∀ (p0 : GQuery) (y1 : (List GExpr)) (x21 : Int) (b60024000_0 : (List GItem)) (r : GQuery), iCopyQuery_X_L0 p0 y1 x21 b60024000_0 = some r → avc Try.prog aciCopyQuery_X_L0 (qiCopyQuery_X_1 r) (stiCopyQuery_X_L0 p0 y1 x21 b60024000_0)) ∧ (∀ (p0 : GQuery) (b60024000_0 : (List GItem)) (y1 : (List GExpr)) (x39 : Int) (b60066001_0 : (List GSource)) (r : GQuery), iCopyQuery_X_L1 p0 b60024000_0 y1 x39 b60066001_0 = some r → avc Try.prog aciCopyQuery_X_L1 (qiCopyQuery_X_3 r) (stiCopyQuery_X_L1 p0 b60024000_0 y1 x39 b60066001_0)) ∧ (∀ (p0 : (List GExpr)) (r : (List GExpr)), iCopyExprs_X p0 = some r → ACalls Try.prog 45 [(.d (.sl 10 (p0.map cGExpr)))] [] fun x b => x = (fun (y : (List GExpr)) => (.tre 10000000)) r ∧ bxHas ((fun (y : (List GExpr)) => [(10000000, [(.trc 10 (y.map cGExpr))])]) r) b) ∧ (∀ (p0 : (List GExpr)) (x11 : Int) (b60025000_0 : (List GExpr)) (r : (List GExpr)), iCopyExprs_X_L0 p0 x11 b60025000_0 = some r → avc Try.prog aciCopyExprs_X_L0 (qiCopyExprs_X_1 r) (stiCopyExprs_X_L0 p0 x11 b60025000_0)) := by
 refine iCopyQuery_X_L2.mutual_partial_correctness (fun p0 b60066001_0 b60024000_0 y1 x57 b60108003_0 r => avc Try.prog aciCopyQuery_X_L2 (qiCopyQuery_X_5 r) (stiCopyQuery_X_L2 p0 b60066001_0 b60024000_0 y1 x57 b60108003_0)) (fun p0 r => ACalls Try.prog 91 [(vGExpr p0)] [] fun x b => x = (fun (y : GExpr) => (.agv [(vI y.kind), (vI y.op), (vB y.not_), (vI y.value.kind), (vI y.value.num), (vS y.value.text), (vS y.qual), (vS y.name), (.tre 10000008), (.tre 10000009)])) r ∧ bxHas ((fun (y : GExpr) => [(10000008, [(.trc 10 (y.kids.map cGExpr))]), (10000009, [(.trc 6 (y.sub.map cGQuery))])]) r) b) (fun p0 y1 x14 b60023000_0 r => avc Try.prog aciCopyExpr_X_L0 (qiCopyExpr_X_1 r) (stiCopyExpr_X_L0 p0 y1 x14 b60023000_0)) (fun p0 r => ACalls Try.prog 154 [(vGQuery p0)] [] fun x b => x = (fun (y : GQuery) => (.agv [(vB y.distinct), (.tre 10000001), (.tre 10000002), (.tre 10000003), (.tre 10000004), (vI y.limit)])) r ∧ bxHas ((fun (y : GQuery) => [(10000001, [(.trc 13 (y.items.map cGItem))]), (10000002, [(.trc 3 (y.from_.map cGSource))]), (10000003, [(.trc 10 (y.where_.map cGExpr))]), (10000004, [(.trc 11 (y.order.map cGSortKey))])]) r) b) (fun p0 y1 x21 b60024000_0 r => avc Try.prog aciCopyQuery_X_L0 (qiCopyQuery_X_1 r) (stiCopyQuery_X_L0 p0 y1 x21 b60024000_0)) (fun p0 b60024000_0 y1 x39 b60066001_0 r => avc Try.prog aciCopyQuery_X_L1 (qiCopyQuery_X_3 r) (stiCopyQuery_X_L1 p0 b60024000_0 y1 x39 b60066001_0)) (fun p0 r => ACalls Try.prog 45 [(.d (.sl 10 (p0.map cGExpr)))] [] fun x b => x = (fun (y : (List GExpr)) => (.tre 10000000)) r ∧ bxHas ((fun (y : (List GExpr)) => [(10000000, [(.trc 10 (y.map cGExpr))])]) r) b) (fun p0 x11 b60025000_0 r => avc Try.prog aciCopyExprs_X_L0 (qiCopyExprs_X_1 r) (stiCopyExprs_X_L0 p0 x11 b60025000_0)) ?_ ?_ ?_ ?_ ?_ ?_ ?_ ?_
 · intro F_iCopyQuery_X_L2 F_iCopyExpr_X OK_iCopyQuery_X_L2 OK_iCopyExpr_X p0 b60066001_0 b60024000_0 y1 x57 b60108003_0 r h
   delta aciCopyQuery_X_L2
   refine loop_unroll (so ?_)
   let a24 : St := (stiCopyQuery_X_L2 p0 b60066001_0 b60024000_0 y1 x57 b60108003_0).p [(58, (vB (decide (x57 < (ln p0.order)))))]
   refine st 1 a24 (nx (si ?_))
   refine cd h (fun h => ?_) fun h => ?_
   refine ki (xi (si (bi (so (vs (fun (y : GSortKey) => (.rp (oGSortKey y))) h (fun y hy => via (l := p0.order) (f := cGSortKey) (g := oGSortKey) (k := .i64) hy cGSortKey_eq) fun y8 h => ?_)))))
   let a25 : St := ⟨(9, (.ptr 9 0)) :: (60, (vGSortKey y8)) :: (59, (.rp (oGSortKey y8))) :: a24.env, [(9, bGSortKey y8), (2, [(vB false), (.nil 13), (.nil 3), (.nil 10), (.nil 11), (vI 0)]), (3, [(vB p0.distinct), (.tre 60108000), (.tre 60108001), (.tre 60108002), (.tre 60108003), (vI p0.limit)]), (60108003, [(.trc 11 (b60108003_0.map cGSortKey))]), (60108001, [(.trc 3 (b60066001_0.map cGSource))]), (60108000, [(.trc 13 (b60024000_0.map cGItem))]), (60108002, [(.trc 10 (y1.map cGExpr))])]⟩
   refine st 3 a25 (nx (so ?_))
   let a26 : St := a25.p [(62, (vGExpr y8.expr)), (61, (.ptr 9 0))]
   refine st 2 a26 ?_
   refine callg_step ⟨[], [], [], [], [], [], [(10000008, 41280008), (10000009, 41280009)], [], []⟩ (m := F_iCopyExpr_X y8.expr) (S' := fun (y : GExpr) => ⟨(63, (.agv [(vI y.kind), (vI y.op), (vB y.not_), (vI y.value.kind), (vI y.value.num), (vS y.value.text), (vS y.qual), (vS y.name), (.tre 41280008), (.tre 41280009)])) :: a26.env, [(41280008, [(.trc 10 (y.kids.map cGExpr))]), (41280009, [(.trc 6 (y.sub.map cGQuery))]), (9, bGSortKey y8), (2, [(vB false), (.nil 13), (.nil 3), (.nil 10), (.nil 11), (vI 0)]), (3, [(vB p0.distinct), (.tre 60108000), (.tre 60108001), (.tre 60108002), (.tre 60108003), (vI p0.limit)]), (60108003, [(.trc 11 (b60108003_0.map cGSortKey))]), (60108001, [(.trc 3 (b60066001_0.map cGSource))]), (60108000, [(.trc 13 (b60024000_0.map cGItem))]), (60108002, [(.trc 10 (y1.map cGExpr))])]⟩) h (OK_iCopyExpr_X y8.expr) (by kernel_rfl) (by kernel_rfl) (by kernel_rfl) (by kernel_rfl) (fun y => by kernel_rfl) (fun y => by kernel_rfl) ?_
   clear h; intro y9 h
   let a27 : St := ⟨(64, (.ptr 9 0)) :: (63, (.agv [(vI y9.kind), (vI y9.op), (vB y9.not_), (vI y9.value.kind), (vI y9.value.num), (vS y9.value.text), (vS y9.qual), (vS y9.name), (.tre 41280008), (.tre 41280009)])) :: a26.env, [(41280008, [(.trc 10 (y9.kids.map cGExpr))]), (41280009, [(.trc 6 (y9.sub.map cGQuery))]), (9, [(vI y9.kind), (vI y9.op), (vB y9.not_), (vI y9.value.kind), (vI y9.value.num), (vS y9.value.text), (vS y9.qual), (vS y9.name), (.tre 41280008), (.tre 41280009), (vB y8.desc)]), (2, [(vB false), (.nil 13), (.nil 3), (.nil 10), (.nil 11), (vI 0)]), (3, [(vB p0.distinct), (.tre 60108000), (.tre 60108001), (.tre 60108002), (.tre 60108003), (vI p0.limit)]), (60108003, [(.trc 11 (b60108003_0.map cGSortKey))]), (60108001, [(.trc 3 (b60066001_0.map cGSource))]), (60108000, [(.trc 13 (b60024000_0.map cGItem))]), (60108002, [(.trc 10 (y1.map cGExpr))])]⟩
   refine st 2 a27 (nx (oi ?_))
   let a28 : St := a27.p [(67, (.agv [(vI y9.kind), (vI y9.op), (vB y9.not_), (vI y9.value.kind), (vI y9.value.num), (vS y9.value.text), (vS y9.qual), (vS y9.name), (.tre 41280008), (.tre 41280009), (vB y8.desc)])), (66, (.tre 60108003)), (65, (.ptr 3 4))]
   refine st 3 a28 ?_
   refine bslT_step (l := ([(GSortKey.mk y9 y8.desc)] : List GSortKey)) (f := cGSortKey) (g := oGSortKey) [41280008, 41280009] (s' := ⟨(68, (.tre 68)) :: a28.env, [(68, [(.trc 11 (([(GSortKey.mk y9 y8.desc)] : List GSortKey).map cGSortKey))]), (41280008, [.trd]), (41280009, [.trd]), (9, [(vI y9.kind), (vI y9.op), (vB y9.not_), (vI y9.value.kind), (vI y9.value.num), (vS y9.value.text), (vS y9.qual), (vS y9.name), (.tre 41280008), (.tre 41280009), (vB y8.desc)]), (2, [(vB false), (.nil 13), (.nil 3), (.nil 10), (.nil 11), (vI 0)]), (3, [(vB p0.distinct), (.tre 60108000), (.tre 60108001), (.tre 60108002), (.tre 60108003), (vI p0.limit)]), (60108003, [(.trc 11 (b60108003_0.map cGSortKey))]), (60108001, [(.trc 3 (b60066001_0.map cGSource))]), (60108000, [(.trc 13 (b60024000_0.map cGItem))]), (60108002, [(.trc 10 (y1.map cGExpr))])]⟩) (by kernel_rfl) cGSortKey_eq (by kernel_rfl) (by kernel_rfl) ?_
   refine appTT_step (l := b60108003_0) (m := ([(GSortKey.mk y9 y8.desc)] : List GSortKey)) (f := cGSortKey) [60108003] [68] (S' := fun y => ⟨(69, (.tre 69)) :: (68, (.tre 68)) :: a28.env, [(69, [(.trc 11 (y.map cGSortKey))]), (68, [.trd]), (41280008, [.trd]), (41280009, [.trd]), (9, [(vI y9.kind), (vI y9.op), (vB y9.not_), (vI y9.value.kind), (vI y9.value.num), (vS y9.value.text), (vS y9.qual), (vS y9.name), (.tre 41280008), (.tre 41280009), (vB y8.desc)]), (2, [(vB false), (.nil 13), (.nil 3), (.nil 10), (.nil 11), (vI 0)]), (3, [(vB p0.distinct), (.tre 60108000), (.tre 60108001), (.tre 60108002), (.tre 60108003), (vI p0.limit)]), (60108003, [.trd]), (60108001, [(.trc 3 (b60066001_0.map cGSource))]), (60108000, [(.trc 13 (b60024000_0.map cGItem))]), (60108002, [(.trc 10 (y1.map cGExpr))])]⟩) h (by kernel_rfl) (by kernel_rfl) (by kernel_rfl) (by kernel_rfl) (fun y => by kernel_rfl) ?_
   clear h; intro y10 h
   let a29 : St := ⟨(70, (.ptr 3 4)) :: (69, (.tre 69)) :: (68, (.tre 68)) :: a28.env, [(69, [(.trc 11 (y10.map cGSortKey))]), (68, [.trd]), (41280008, [.trd]), (41280009, [.trd]), (9, [(vI y9.kind), (vI y9.op), (vB y9.not_), (vI y9.value.kind), (vI y9.value.num), (vS y9.value.text), (vS y9.qual), (vS y9.name), (.tre 41280008), (.tre 41280009), (vB y8.desc)]), (2, [(vB false), (.nil 13), (.nil 3), (.nil 10), (.nil 11), (vI 0)]), (3, [(vB p0.distinct), (.tre 60108000), (.tre 60108001), (.tre 60108002), (.tre 69), (vI p0.limit)]), (60108003, [.trd]), (60108001, [(.trc 3 (b60066001_0.map cGSource))]), (60108000, [(.trc 13 (b60024000_0.map cGItem))]), (60108002, [(.trc 10 (y1.map cGExpr))])]⟩
   refine st 2 a29 (ni (bn (xi (oi ?_))))
   let a30 : St := a29.p [(57, (vI (IntKind.wrap .i64 (x57 + 1)))), (71, (vI (IntKind.wrap .i64 (x57 + 1))))]
   refine st 2 a30 (ni ?_)
   exact loop_back (s' := stiCopyQuery_X_L2 p0 b60066001_0 b60024000_0 y1 (IntKind.wrap .i64 (x57 + 1)) y10) (tw [.rn [(69, 60108003)]] (wr [] (es (es (es (es (es er_nil))))) (bs_ (bs_ (bs_ (bs_ (bs_ (bs_ br_nil)))))))) (OK_iCopyQuery_X_L2 p0 b60066001_0 b60024000_0 y1 (IntKind.wrap .i64 (x57 + 1)) y10 _ h)
   refine ei (te (te (bh (xi (so ?_)))))
   let a31 : St := ⟨(72, (.agv [(vB p0.distinct), (.tre 60108000), (.tre 60108001), (.tre 60108002), (.tre 60108003), (vI p0.limit)])) :: a24.env, [(2, [(vB p0.distinct), (.tre 60108000), (.tre 60108001), (.tre 60108002), (.tre 60108003), (vI p0.limit)]), (3, [(vB p0.distinct), (.tre 60108000), (.tre 60108001), (.tre 60108002), (.tre 60108003), (vI p0.limit)]), (60108003, [(.trc 11 (b60108003_0.map cGSortKey))]), (60108001, [(.trc 3 (b60066001_0.map cGSource))]), (60108000, [(.trc 13 (b60024000_0.map cGItem))]), (60108002, [(.trc 10 (y1.map cGExpr))])]⟩
   refine st 2 a31 (nx ?_)
   refine ret_wk (s' := ⟨[(2, (.ptr 2 0))], [(2, [(vB p0.distinct), (.tre 10000001), (.tre 10000002), (.tre 10000003), (.tre 10000004), (vI p0.limit)]), (10000004, [(.trc 11 (b60108003_0.map cGSortKey))]), (10000002, [(.trc 3 (b60066001_0.map cGSource))]), (10000001, [(.trc 13 (b60024000_0.map cGItem))]), (10000003, [(.trc 10 (y1.map cGExpr))])]⟩) (tw [.rn [(60108000, 10000001), (60108001, 10000002), (60108002, 10000003), (60108003, 10000004)]] (wr [] (es er_nil) (br_cons (c0 := [(vB p0.distinct), (.tre 10000001), (.tre 10000002), (.tre 10000003), (.tre 10000004), (vI p0.limit)]) (by kernel_rfl) (vrs_cons (vr_same (by kernel_rfl) (by kernel_rfl)) (vrs_cons (vr_same (by kernel_rfl) (by kernel_rfl)) (vrs_cons (vr_same (by kernel_rfl) (by kernel_rfl)) (vrs_cons (vr_same (by kernel_rfl) (by kernel_rfl)) (vrs_cons (vr_same (by kernel_rfl) (by kernel_rfl)) (vrs_cons (vr_same (by kernel_rfl) (by kernel_rfl)) (vrs_nil))))))) (bs_ (bs_ (bs_ (bs_ br_nil))))))) ?_
   injection h with h; subst h
   exact ret1_step (v := (.agv [(vB p0.distinct), (.tre 10000001), (.tre 10000002), (.tre 10000003), (.tre 10000004), (vI p0.limit)])) (by kernel_rfl) (by kernel_rfl) ⟨by kernel_rfl, by kernel_rfl, by kernel_rfl, by kernel_rfl, by kernel_rfl, trivial⟩
 · intro F_iCopyExpr_X_L0 F_iCopyExprs_X OK_iCopyExpr_X_L0 OK_iCopyExprs_X p0 r h
   refine aof triCopyExpr_X ?_
   show avc Try.prog aciCopyExpr_X (qiCopyExpr_X _) ⟨[(0, (vGExpr p0))], []⟩
   delta aciCopyExpr_X
   refine so ?_
   let a0 : St := ⟨[(2, (.ptr 2 0)), (1, (.ptr 1 0)), (0, (vGExpr p0))], [(2, [(vI 0), (vI 0), (vB false), (vI 0), (vI 0), (vS []), (vS []), (vS []), (.nil 10), (.nil 6)]), (1, bGExpr p0)]⟩
   refine st 2 a0 (nx (so ?_))
   let a1 : St := a0.p [(7, (.d (.sl 10 (p0.kids.map cGExpr)))), (6, (.ptr 1 8))]
   refine st 2 a1 ?_
   refine callg_step ⟨[], [], [], [], [], [], [(10000000, 40080000)], [], []⟩ (m := F_iCopyExprs_X p0.kids) (S' := fun (y : (List GExpr)) => ⟨(8, (.tre 40080000)) :: a1.env, [(40080000, [(.trc 10 (y.map cGExpr))]), (2, [(vI 0), (vI 0), (vB false), (vI 0), (vI 0), (vS []), (vS []), (vS []), (.nil 10), (.nil 6)]), (1, bGExpr p0)]⟩) h (OK_iCopyExprs_X p0.kids) (by kernel_rfl) (by kernel_rfl) (by kernel_rfl) (by kernel_rfl) (fun y => by kernel_rfl) (fun y => by kernel_rfl) ?_
   clear h; intro y1 h
   let a2 : St := ⟨(9, (.ptr 1 8)) :: (8, (.tre 40080000)) :: a1.env, [(40080000, [(.trc 10 (y1.map cGExpr))]), (2, [(vI 0), (vI 0), (vB false), (vI 0), (vI 0), (vS []), (vS []), (vS []), (.nil 10), (.nil 6)]), (1, [(vI p0.kind), (vI p0.op), (vB p0.not_), (vI p0.value.kind), (vI p0.value.num), (vS p0.value.text), (vS p0.qual), (vS p0.name), (.tre 40080000), (.d (.sl 6 (p0.sub.map cGQuery)))])]⟩
   refine st 2 a2 (nx (so ?_))
   refine bslT_step (l := ([] : List GQuery)) (f := cGQuery) (g := oGQuery) [] (s' := ⟨(10, (.tre 10)) :: a2.env, [(10, [(.trc 6 (([] : List GQuery).map cGQuery))]), (40080000, [(.trc 10 (y1.map cGExpr))]), (2, [(vI 0), (vI 0), (vB false), (vI 0), (vI 0), (vS []), (vS []), (vS []), (.nil 10), (.nil 6)]), (1, [(vI p0.kind), (vI p0.op), (vB p0.not_), (vI p0.value.kind), (vI p0.value.num), (vS p0.value.text), (vS p0.qual), (vS p0.name), (.tre 40080000), (.d (.sl 6 (p0.sub.map cGQuery)))])]⟩) (by kernel_rfl) cGQuery_eq (by kernel_rfl) (by kernel_rfl) ?_
   let a3 : St := ⟨(3, (.tre 10)) :: (10, (.tre 10)) :: a2.env, [(10, [(.trc 6 (([] : List GQuery).map cGQuery))]), (40080000, [(.trc 10 (y1.map cGExpr))]), (2, [(vI 0), (vI 0), (vB false), (vI 0), (vI 0), (vS []), (vS []), (vS []), (.nil 10), (.nil 6)]), (1, [(vI p0.kind), (vI p0.op), (vB p0.not_), (vI p0.value.kind), (vI p0.value.num), (vS p0.value.text), (vS p0.qual), (vS p0.name), (.tre 40080000), (.d (.sl 6 (p0.sub.map cGQuery)))])]⟩
   refine st 1 a3 (nx (si (so ?_)))
   let a4 : St := a3.p [(12, (.d (.sl 6 (p0.sub.map cGQuery)))), (11, (.ptr 1 9))]
   refine st 2 a4 (ps (vI (ln p0.sub)) (vln (sz := 6) (l := p0.sub) (f := cGQuery)) ?_)
   let a5 : St := a4.p [(14, (vI 0)), (13, (vI (ln p0.sub)))]
   refine st 1 a5 (nx (bi ?_))
   exact loop_go (s' := stiCopyExpr_X_L0 p0 y1 0 ([] : List GQuery)) (tw [.rn [(10, 60023000), (40080000, 60023001)]] (wr [] (es (es (es (es (es (es er_nil)))))) (bs_ (bs_ (bs_ (bs_ br_nil)))))) (OK_iCopyExpr_X_L0 p0 y1 0 ([] : List GQuery) _ h)
 · intro F_iCopyExpr_X_L0 F_iCopyQuery_X OK_iCopyExpr_X_L0 OK_iCopyQuery_X p0 y1 x14 b60023000_0 r h
   delta aciCopyExpr_X_L0
   refine loop_unroll (so ?_)
   let a6 : St := (stiCopyExpr_X_L0 p0 y1 x14 b60023000_0).p [(15, (vB (decide (x14 < (ln p0.sub)))))]
   refine st 1 a6 (nx (si ?_))
   refine cd h (fun h => ?_) fun h => ?_
   refine ki (xi (si (bi (so (vs (fun (y : GQuery) => (.rp (oGQuery y))) h (fun y hy => via (l := p0.sub) (f := cGQuery) (g := oGQuery) (k := .i64) hy cGQuery_eq) fun y2 h => ?_)))))
   let a7 : St := ⟨(5, (.ptr 5 0)) :: (17, (vGQuery y2)) :: (16, (.rp (oGQuery y2))) :: a6.env, [(5, bGQuery y2), (1, [(vI p0.kind), (vI p0.op), (vB p0.not_), (vI p0.value.kind), (vI p0.value.num), (vS p0.value.text), (vS p0.qual), (vS p0.name), (.tre 60023001), (.d (.sl 6 (p0.sub.map cGQuery)))]), (2, [(vI 0), (vI 0), (vB false), (vI 0), (vI 0), (vS []), (vS []), (vS []), (.nil 10), (.nil 6)]), (60023000, [(.trc 6 (b60023000_0.map cGQuery))]), (60023001, [(.trc 10 (y1.map cGExpr))])]⟩
   refine st 3 a7 (nx (oi ?_))
   let a8 : St := a7.p [(19, (vGQuery y2)), (18, (.tre 60023000))]
   refine st 2 a8 ?_
   refine callg_step ⟨[], [], [], [], [], [], [(10000001, 40420001), (10000002, 40420002), (10000003, 40420003), (10000004, 40420004)], [], []⟩ (m := F_iCopyQuery_X y2) (S' := fun (y : GQuery) => ⟨(20, (.agv [(vB y.distinct), (.tre 40420001), (.tre 40420002), (.tre 40420003), (.tre 40420004), (vI y.limit)])) :: a8.env, [(40420001, [(.trc 13 (y.items.map cGItem))]), (40420002, [(.trc 3 (y.from_.map cGSource))]), (40420003, [(.trc 10 (y.where_.map cGExpr))]), (40420004, [(.trc 11 (y.order.map cGSortKey))]), (5, bGQuery y2), (1, [(vI p0.kind), (vI p0.op), (vB p0.not_), (vI p0.value.kind), (vI p0.value.num), (vS p0.value.text), (vS p0.qual), (vS p0.name), (.tre 60023001), (.d (.sl 6 (p0.sub.map cGQuery)))]), (2, [(vI 0), (vI 0), (vB false), (vI 0), (vI 0), (vS []), (vS []), (vS []), (.nil 10), (.nil 6)]), (60023000, [(.trc 6 (b60023000_0.map cGQuery))]), (60023001, [(.trc 10 (y1.map cGExpr))])]⟩) h (OK_iCopyQuery_X y2) (by kernel_rfl) (by kernel_rfl) (by kernel_rfl) (by kernel_rfl) (fun y => by kernel_rfl) (fun y => by kernel_rfl) ?_
   clear h; intro y3 h
   refine bslT_step (l := ([y3] : List GQuery)) (f := cGQuery) (g := oGQuery) [40420001, 40420002, 40420003, 40420004] (s' := ⟨(21, (.tre 21)) :: (20, (.agv [(vB y3.distinct), (.tre 40420001), (.tre 40420002), (.tre 40420003), (.tre 40420004), (vI y3.limit)])) :: a8.env, [(21, [(.trc 6 (([y3] : List GQuery).map cGQuery))]), (40420001, [.trd]), (40420002, [.trd]), (40420003, [.trd]), (40420004, [.trd]), (5, bGQuery y2), (1, [(vI p0.kind), (vI p0.op), (vB p0.not_), (vI p0.value.kind), (vI p0.value.num), (vS p0.value.text), (vS p0.qual), (vS p0.name), (.tre 60023001), (.d (.sl 6 (p0.sub.map cGQuery)))]), (2, [(vI 0), (vI 0), (vB false), (vI 0), (vI 0), (vS []), (vS []), (vS []), (.nil 10), (.nil 6)]), (60023000, [(.trc 6 (b60023000_0.map cGQuery))]), (60023001, [(.trc 10 (y1.map cGExpr))])]⟩) (by kernel_rfl) cGQuery_eq (by kernel_rfl) (by kernel_rfl) ?_
   refine appTT_step (l := b60023000_0) (m := ([y3] : List GQuery)) (f := cGQuery) [60023000] [21] (S' := fun y => ⟨(22, (.tre 22)) :: (21, (.tre 21)) :: (20, (.agv [(vB y3.distinct), (.tre 40420001), (.tre 40420002), (.tre 40420003), (.tre 40420004), (vI y3.limit)])) :: a8.env, [(22, [(.trc 6 (y.map cGQuery))]), (21, [.trd]), (40420001, [.trd]), (40420002, [.trd]), (40420003, [.trd]), (40420004, [.trd]), (5, bGQuery y2), (1, [(vI p0.kind), (vI p0.op), (vB p0.not_), (vI p0.value.kind), (vI p0.value.num), (vS p0.value.text), (vS p0.qual), (vS p0.name), (.tre 60023001), (.d (.sl 6 (p0.sub.map cGQuery)))]), (2, [(vI 0), (vI 0), (vB false), (vI 0), (vI 0), (vS []), (vS []), (vS []), (.nil 10), (.nil 6)]), (60023000, [.trd]), (60023001, [(.trc 10 (y1.map cGExpr))])]⟩) h (by kernel_rfl) (by kernel_rfl) (by kernel_rfl) (by kernel_rfl) (fun y => by kernel_rfl) ?_
   clear h; intro y4 h
   let a9 : St := ⟨(3, (.tre 22)) :: (22, (.tre 22)) :: (21, (.tre 21)) :: (20, (.agv [(vB y3.distinct), (.tre 40420001), (.tre 40420002), (.tre 40420003), (.tre 40420004), (vI y3.limit)])) :: a8.env, [(22, [(.trc 6 (y4.map cGQuery))]), (21, [.trd]), (40420001, [.trd]), (40420002, [.trd]), (40420003, [.trd]), (40420004, [.trd]), (5, bGQuery y2), (1, [(vI p0.kind), (vI p0.op), (vB p0.not_), (vI p0.value.kind), (vI p0.value.num), (vS p0.value.text), (vS p0.qual), (vS p0.name), (.tre 60023001), (.d (.sl 6 (p0.sub.map cGQuery)))]), (2, [(vI 0), (vI 0), (vB false), (vI 0), (vI 0), (vS []), (vS []), (vS []), (.nil 10), (.nil 6)]), (60023000, [.trd]), (60023001, [(.trc 10 (y1.map cGExpr))])]⟩
   refine st 1 a9 (ni (bn (xi (oi ?_))))
   let a10 : St := a9.p [(14, (vI (IntKind.wrap .i64 (x14 + 1)))), (23, (vI (IntKind.wrap .i64 (x14 + 1))))]
   refine st 2 a10 (ni ?_)
   exact loop_back (s' := stiCopyExpr_X_L0 p0 y1 (IntKind.wrap .i64 (x14 + 1)) y4) (tw [.rn [(22, 60023000)]] (wr [] (es (es (es (es (es (es er_nil)))))) (bs_ (bs_ (bs_ (bs_ br_nil)))))) (OK_iCopyExpr_X_L0 p0 y1 (IntKind.wrap .i64 (x14 + 1)) y4 _ h)
   refine ei (te (te (bh (xi (so ?_)))))
   let a11 : St := ⟨(25, (.ptr 1 9)) :: (24, (.tre 60023000)) :: a6.env, [(1, [(vI p0.kind), (vI p0.op), (vB p0.not_), (vI p0.value.kind), (vI p0.value.num), (vS p0.value.text), (vS p0.qual), (vS p0.name), (.tre 60023001), (.tre 60023000)]), (2, [(vI 0), (vI 0), (vB false), (vI 0), (vI 0), (vS []), (vS []), (vS []), (.nil 10), (.nil 6)]), (60023000, [(.trc 6 (b60023000_0.map cGQuery))]), (60023001, [(.trc 10 (y1.map cGExpr))])]⟩
   refine st 3 a11 (nx (so ?_))
   let a12 : St := ⟨(26, (.agv [(vI p0.kind), (vI p0.op), (vB p0.not_), (vI p0.value.kind), (vI p0.value.num), (vS p0.value.text), (vS p0.qual), (vS p0.name), (.tre 60023001), (.tre 60023000)])) :: a11.env, [(1, [(vI p0.kind), (vI p0.op), (vB p0.not_), (vI p0.value.kind), (vI p0.value.num), (vS p0.value.text), (vS p0.qual), (vS p0.name), (.tre 60023001), (.tre 60023000)]), (2, [(vI p0.kind), (vI p0.op), (vB p0.not_), (vI p0.value.kind), (vI p0.value.num), (vS p0.value.text), (vS p0.qual), (vS p0.name), (.tre 60023001), (.tre 60023000)]), (60023000, [(.trc 6 (b60023000_0.map cGQuery))]), (60023001, [(.trc 10 (y1.map cGExpr))])]⟩
   refine st 2 a12 (nx ?_)
   refine ret_wk (s' := ⟨[(2, (.ptr 2 0))], [(2, [(vI p0.kind), (vI p0.op), (vB p0.not_), (vI p0.value.kind), (vI p0.value.num), (vS p0.value.text), (vS p0.qual), (vS p0.name), (.tre 10000008), (.tre 10000009)]), (10000009, [(.trc 6 (b60023000_0.map cGQuery))]), (10000008, [(.trc 10 (y1.map cGExpr))])]⟩) (tw [.rn [(60023001, 10000008), (60023000, 10000009)]] (wr [] (es er_nil) (br_cons (c0 := [(vI p0.kind), (vI p0.op), (vB p0.not_), (vI p0.value.kind), (vI p0.value.num), (vS p0.value.text), (vS p0.qual), (vS p0.name), (.tre 10000008), (.tre 10000009)]) (by kernel_rfl) (vrs_cons (vr_same (by kernel_rfl) (by kernel_rfl)) (vrs_cons (vr_same (by kernel_rfl) (by kernel_rfl)) (vrs_cons (vr_same (by kernel_rfl) (by kernel_rfl)) (vrs_cons (vr_same (by kernel_rfl) (by kernel_rfl)) (vrs_cons (vr_same (by kernel_rfl) (by kernel_rfl)) (vrs_cons (vr_same (by kernel_rfl) (by kernel_rfl)) (vrs_cons (vr_same (by kernel_rfl) (by kernel_rfl)) (vrs_cons (vr_same (by kernel_rfl) (by kernel_rfl)) (vrs_cons (vr_same (by kernel_rfl) (by kernel_rfl)) (vrs_cons (vr_same (by kernel_rfl) (by kernel_rfl)) (vrs_nil))))))))))) (bs_ (bs_ br_nil))))) ?_
   injection h with h; subst h
   exact ret1_step (v := (.agv [(vI p0.kind), (vI p0.op), (vB p0.not_), (vI p0.value.kind), (vI p0.value.num), (vS p0.value.text), (vS p0.qual), (vS p0.name), (.tre 10000008), (.tre 10000009)])) (by kernel_rfl) (by kernel_rfl) ⟨by kernel_rfl, by kernel_rfl, by kernel_rfl, trivial⟩
 · intro F_iCopyQuery_X_L0 F_iCopyExprs_X OK_iCopyQuery_X_L0 OK_iCopyExprs_X p0 r h
   refine aof triCopyQuery_X ?_
   show avc Try.prog aciCopyQuery_X (qiCopyQuery_X _) ⟨[(0, (vGQuery p0))], []⟩
   delta aciCopyQuery_X
   refine so ?_
   let a0 : St := ⟨[(2, (.ptr 2 0)), (1, (.ptr 1 0)), (0, (vGQuery p0))], [(2, [(vB false), (.nil 13), (.nil 3), (.nil 10), (.nil 11), (vI 0)]), (1, bGQuery p0)]⟩
   refine st 2 a0 (nx (si (dops_in ?_)))
   let a1 : St := a0.p [(13, (.d (.sl 10 (p0.where_.map cGExpr)))), (12, (.ptr 1 3)), (11, (vB p0.distinct)), (10, (.ptr 1 0))]
   refine dsts_ok 4 (s' := a1) (by kernel_rfl) ?_
   refine dcallg_step ⟨[], [], [], [], [], [], [(10000000, 40100000)], [], []⟩ [] [] (m := F_iCopyExprs_X p0.where_) (S' := fun (y : (List GExpr)) => ⟨(14, (.tre 40100000)) :: a1.env, [(40100000, [(.trc 10 (y.map cGExpr))]), (2, [(vB false), (.nil 13), (.nil 3), (.nil 10), (.nil 11), (vI 0)]), (1, bGQuery p0)]⟩) h (OK_iCopyExprs_X p0.where_) (by kernel_rfl) (by kernel_rfl) (by kernel_rfl) (by kernel_rfl) (fun y => by kernel_rfl) (fun y => by kernel_rfl) ?_
   clear h; intro y1 h
   let a2 : St := ⟨(16, (vI p0.limit)) :: (15, (.ptr 1 5)) :: (14, (.tre 40100000)) :: a1.env, [(40100000, [(.trc 10 (y1.map cGExpr))]), (2, [(vB false), (.nil 13), (.nil 3), (.nil 10), (.nil 11), (vI 0)]), (1, bGQuery p0)]⟩
   refine dsts_ok 2 (s' := a2) (by kernel_rfl) (dbldv_step (c := [(vB p0.distinct), (.nil 13), (.nil 3), (.tre 40100000), (.nil 11), (vI p0.limit)]) (s' := ⟨(17, (.agv [(vB p0.distinct), (.nil 13), (.nil 3), (.tre 40100000), (.nil 11), (vI p0.limit)])) :: a2.env, a2.bx⟩) (by kernel_rfl) (by kernel_rfl) (by kernel_rfl) ?_)
   let a3 : St := ⟨(3, (.ptr 3 0)) :: (17, (.agv [(vB p0.distinct), (.nil 13), (.nil 3), (.tre 40100000), (.nil 11), (vI p0.limit)])) :: a2.env, [(3, [(vB p0.distinct), (.nil 13), (.nil 3), (.tre 40100000), (.nil 11), (vI p0.limit)]), (40100000, [(.trc 10 (y1.map cGExpr))]), (2, [(vB false), (.nil 13), (.nil 3), (.nil 10), (.nil 11), (vI 0)]), (1, bGQuery p0)]⟩
   refine dsts_ok 2 (s' := a3) (by kernel_rfl) (dnil_in (by kernel_rfl) (by kernel_rfl) (xi (si (so ?_))))
   let a4 : St := a3.p [(19, (.d (.sl 13 (p0.items.map cGItem)))), (18, (.ptr 1 1))]
   refine st 2 a4 (ps (vI (ln p0.items)) (vln (sz := 13) (l := p0.items) (f := cGItem)) ?_)
   let a5 : St := a4.p [(21, (vI 0)), (20, (vI (ln p0.items)))]
   refine st 1 a5 (nx (bi ?_))
   exact loop_go (s' := stiCopyQuery_X_L0 p0 y1 0 ([] : List GItem)) (tw [.rn [(40100000, 60024001)], .nb 3 1 60024000] (wr [] (es (es (es (es (es (es er_nil)))))) (bs_ (bs_ (bs_ (bs_ (bs_ br_nil))))))) (OK_iCopyQuery_X_L0 p0 y1 0 ([] : List GItem) _ h)
 · intro F_iCopyExpr_X F_iCopyQuery_X_L0 F_iCopyQuery_X_L1 OK_iCopyExpr_X OK_iCopyQuery_X_L0 OK_iCopyQuery_X_L1 p0 y1 x21 b60024000_0 r h
   delta aciCopyQuery_X_L0
   refine loop_unroll (so ?_)
   let a6 : St := (stiCopyQuery_X_L0 p0 y1 x21 b60024000_0).p [(22, (vB (decide (x21 < (ln p0.items)))))]
   refine st 1 a6 (nx (si ?_))
   refine cd h (fun h => ?_) fun h => ?_
   refine ki (xi (si (bi (so (vs (fun (y : GItem) => (.rp (oGItem y))) h (fun y hy => via (l := p0.items) (f := cGItem) (g := oGItem) (k := .i64) hy cGItem_eq) fun y2 h => ?_)))))
   let a7 : St := ⟨(5, (.ptr 5 0)) :: (24, (vGItem y2)) :: (23, (.rp (oGItem y2))) :: a6.env, [(5, bGItem y2), (1, bGQuery p0), (2, [(vB false), (.nil 13), (.nil 3), (.nil 10), (.nil 11), (vI 0)]), (3, [(vB p0.distinct), (.tre 60024000), (.nil 3), (.tre 60024001), (.nil 11), (vI p0.limit)]), (60024000, [(.trc 13 (b60024000_0.map cGItem))]), (60024001, [(.trc 10 (y1.map cGExpr))])]⟩
   refine st 3 a7 (nx (so ?_))
   let a8 : St := a7.p [(26, (vGExpr y2.expr)), (25, (.ptr 5 2))]
   refine st 2 a8 ?_
   refine callg_step ⟨[], [], [], [], [], [], [(10000008, 40440008), (10000009, 40440009)], [], []⟩ (m := F_iCopyExpr_X y2.expr) (S' := fun (y : GExpr) => ⟨(27, (.agv [(vI y.kind), (vI y.op), (vB y.not_), (vI y.value.kind), (vI y.value.num), (vS y.value.text), (vS y.qual), (vS y.name), (.tre 40440008), (.tre 40440009)])) :: a8.env, [(40440008, [(.trc 10 (y.kids.map cGExpr))]), (40440009, [(.trc 6 (y.sub.map cGQuery))]), (5, bGItem y2), (1, bGQuery p0), (2, [(vB false), (.nil 13), (.nil 3), (.nil 10), (.nil 11), (vI 0)]), (3, [(vB p0.distinct), (.tre 60024000), (.nil 3), (.tre 60024001), (.nil 11), (vI p0.limit)]), (60024000, [(.trc 13 (b60024000_0.map cGItem))]), (60024001, [(.trc 10 (y1.map cGExpr))])]⟩) h (OK_iCopyExpr_X y2.expr) (by kernel_rfl) (by kernel_rfl) (by kernel_rfl) (by kernel_rfl) (fun y => by kernel_rfl) (fun y => by kernel_rfl) ?_
   clear h; intro y3 h
   let a9 : St := ⟨(28, (.ptr 5 2)) :: (27, (.agv [(vI y3.kind), (vI y3.op), (vB y3.not_), (vI y3.value.kind), (vI y3.value.num), (vS y3.value.text), (vS y3.qual), (vS y3.name), (.tre 40440008), (.tre 40440009)])) :: a8.env, [(40440008, [(.trc 10 (y3.kids.map cGExpr))]), (40440009, [(.trc 6 (y3.sub.map cGQuery))]), (5, [(vB y2.star), (vS y2.qual), (vI y3.kind), (vI y3.op), (vB y3.not_), (vI y3.value.kind), (vI y3.value.num), (vS y3.value.text), (vS y3.qual), (vS y3.name), (.tre 40440008), (.tre 40440009), (vS y2.as_)]), (1, bGQuery p0), (2, [(vB false), (.nil 13), (.nil 3), (.nil 10), (.nil 11), (vI 0)]), (3, [(vB p0.distinct), (.tre 60024000), (.nil 3), (.tre 60024001), (.nil 11), (vI p0.limit)]), (60024000, [(.trc 13 (b60024000_0.map cGItem))]), (60024001, [(.trc 10 (y1.map cGExpr))])]⟩
   refine st 2 a9 (nx (oi ?_))
   let a10 : St := a9.p [(31, (.agv [(vB y2.star), (vS y2.qual), (vI y3.kind), (vI y3.op), (vB y3.not_), (vI y3.value.kind), (vI y3.value.num), (vS y3.value.text), (vS y3.qual), (vS y3.name), (.tre 40440008), (.tre 40440009), (vS y2.as_)])), (30, (.tre 60024000)), (29, (.ptr 3 1))]
   refine st 3 a10 ?_
   refine bslT_step (l := ([(GItem.mk y2.star y2.qual y3 y2.as_)] : List GItem)) (f := cGItem) (g := oGItem) [40440008, 40440009] (s' := ⟨(32, (.tre 32)) :: a10.env, [(32, [(.trc 13 (([(GItem.mk y2.star y2.qual y3 y2.as_)] : List GItem).map cGItem))]), (40440008, [.trd]), (40440009, [.trd]), (5, [(vB y2.star), (vS y2.qual), (vI y3.kind), (vI y3.op), (vB y3.not_), (vI y3.value.kind), (vI y3.value.num), (vS y3.value.text), (vS y3.qual), (vS y3.name), (.tre 40440008), (.tre 40440009), (vS y2.as_)]), (1, bGQuery p0), (2, [(vB false), (.nil 13), (.nil 3), (.nil 10), (.nil 11), (vI 0)]), (3, [(vB p0.distinct), (.tre 60024000), (.nil 3), (.tre 60024001), (.nil 11), (vI p0.limit)]), (60024000, [(.trc 13 (b60024000_0.map cGItem))]), (60024001, [(.trc 10 (y1.map cGExpr))])]⟩) (by kernel_rfl) cGItem_eq (by kernel_rfl) (by kernel_rfl) ?_
   refine appTT_step (l := b60024000_0) (m := ([(GItem.mk y2.star y2.qual y3 y2.as_)] : List GItem)) (f := cGItem) [60024000] [32] (S' := fun y => ⟨(33, (.tre 33)) :: (32, (.tre 32)) :: a10.env, [(33, [(.trc 13 (y.map cGItem))]), (32, [.trd]), (40440008, [.trd]), (40440009, [.trd]), (5, [(vB y2.star), (vS y2.qual), (vI y3.kind), (vI y3.op), (vB y3.not_), (vI y3.value.kind), (vI y3.value.num), (vS y3.value.text), (vS y3.qual), (vS y3.name), (.tre 40440008), (.tre 40440009), (vS y2.as_)]), (1, bGQuery p0), (2, [(vB false), (.nil 13), (.nil 3), (.nil 10), (.nil 11), (vI 0)]), (3, [(vB p0.distinct), (.tre 60024000), (.nil 3), (.tre 60024001), (.nil 11), (vI p0.limit)]), (60024000, [.trd]), (60024001, [(.trc 10 (y1.map cGExpr))])]⟩) h (by kernel_rfl) (by kernel_rfl) (by kernel_rfl) (by kernel_rfl) (fun y => by kernel_rfl) ?_
   clear h; intro y4 h
   let a11 : St := ⟨(34, (.ptr 3 1)) :: (33, (.tre 33)) :: (32, (.tre 32)) :: a10.env, [(33, [(.trc 13 (y4.map cGItem))]), (32, [.trd]), (40440008, [.trd]), (40440009, [.trd]), (5, [(vB y2.star), (vS y2.qual), (vI y3.kind), (vI y3.op), (vB y3.not_), (vI y3.value.kind), (vI y3.value.num), (vS y3.value.text), (vS y3.qual), (vS y3.name), (.tre 40440008), (.tre 40440009), (vS y2.as_)]), (1, bGQuery p0), (2, [(vB false), (.nil 13), (.nil 3), (.nil 10), (.nil 11), (vI 0)]), (3, [(vB p0.distinct), (.tre 33), (.nil 3), (.tre 60024001), (.nil 11), (vI p0.limit)]), (60024000, [.trd]), (60024001, [(.trc 10 (y1.map cGExpr))])]⟩
   refine st 2 a11 (ni (bn (xi (oi ?_))))
   let a12 : St := a11.p [(21, (vI (IntKind.wrap .i64 (x21 + 1)))), (35, (vI (IntKind.wrap .i64 (x21 + 1))))]
   refine st 2 a12 (ni ?_)
   exact loop_back (s' := stiCopyQuery_X_L0 p0 y1 (IntKind.wrap .i64 (x21 + 1)) y4) (tw [.rn [(33, 60024000)]] (wr [] (es (es (es (es (es (es er_nil)))))) (bs_ (bs_ (bs_ (bs_ (bs_ br_nil))))))) (OK_iCopyQuery_X_L0 p0 y1 (IntKind.wrap .i64 (x21 + 1)) y4 _ h)
   refine ei (te (te (bh (xi (si (so ?_))))))
   let a13 : St := a6.p [(37, (.d (.sl 3 (p0.from_.map cGSource)))), (36, (.ptr 1 2))]
   refine st 2 a13 (ps (vI (ln p0.from_)) (vln (sz := 3) (l := p0.from_) (f := cGSource)) ?_)
   let a14 : St := a13.p [(39, (vI 0)), (38, (vI (ln p0.from_)))]
   refine st 1 a14 (nx (bi ?_))
   exact loop_go (s' := stiCopyQuery_X_L1 p0 b60024000_0 y1 0 ([] : List GSource)) (tw [.rn [(60024000, 60066000), (60024001, 60066002)], .nb 3 2 60066001] (wr [] (es (es (es (es (es (es er_nil)))))) (bs_ (bs_ (bs_ (bs_ (bs_ (bs_ br_nil)))))))) (OK_iCopyQuery_X_L1 p0 b60024000_0 y1 0 ([] : List GSource) _ h)
 · intro F_iCopyQuery_X_L2 F_iCopyQuery_X_L1 F_iCopyExprs_X OK_iCopyQuery_X_L2 OK_iCopyQuery_X_L1 OK_iCopyExprs_X p0 b60024000_0 y1 x39 b60066001_0 r h
   delta aciCopyQuery_X_L1
   refine loop_unroll (so ?_)
   let a15 : St := (stiCopyQuery_X_L1 p0 b60024000_0 y1 x39 b60066001_0).p [(40, (vB (decide (x39 < (ln p0.from_)))))]
   refine st 1 a15 (nx (si ?_))
   refine cd h (fun h => ?_) fun h => ?_
   refine ki (xi (si (bi (so (vs (fun (y : GSource) => (.rp (oGSource y))) h (fun y hy => via (l := p0.from_) (f := cGSource) (g := oGSource) (k := .i64) hy cGSource_eq) fun y5 h => ?_)))))
   let a16 : St := ⟨(7, (.ptr 7 0)) :: (42, (vGSource y5)) :: (41, (.rp (oGSource y5))) :: a15.env, [(7, bGSource y5), (1, bGQuery p0), (2, [(vB false), (.nil 13), (.nil 3), (.nil 10), (.nil 11), (vI 0)]), (3, [(vB p0.distinct), (.tre 60066000), (.tre 60066001), (.tre 60066002), (.nil 11), (vI p0.limit)]), (60066001, [(.trc 3 (b60066001_0.map cGSource))]), (60066000, [(.trc 13 (b60024000_0.map cGItem))]), (60066002, [(.trc 10 (y1.map cGExpr))])]⟩
   refine st 3 a16 (nx (so ?_))
   let a17 : St := a16.p [(44, (.d (.sl 10 (y5.on_.map cGExpr)))), (43, (.ptr 7 2))]
   refine st 2 a17 ?_
   refine callg_step ⟨[], [], [], [], [], [], [(10000000, 40860000)], [], []⟩ (m := F_iCopyExprs_X y5.on_) (S' := fun (y : (List GExpr)) => ⟨(45, (.tre 40860000)) :: a17.env, [(40860000, [(.trc 10 (y.map cGExpr))]), (7, bGSource y5), (1, bGQuery p0), (2, [(vB false), (.nil 13), (.nil 3), (.nil 10), (.nil 11), (vI 0)]), (3, [(vB p0.distinct), (.tre 60066000), (.tre 60066001), (.tre 60066002), (.nil 11), (vI p0.limit)]), (60066001, [(.trc 3 (b60066001_0.map cGSource))]), (60066000, [(.trc 13 (b60024000_0.map cGItem))]), (60066002, [(.trc 10 (y1.map cGExpr))])]⟩) h (OK_iCopyExprs_X y5.on_) (by kernel_rfl) (by kernel_rfl) (by kernel_rfl) (by kernel_rfl) (fun y => by kernel_rfl) (fun y => by kernel_rfl) ?_
   clear h; intro y6 h
   let a18 : St := ⟨(46, (.ptr 7 2)) :: (45, (.tre 40860000)) :: a17.env, [(40860000, [(.trc 10 (y6.map cGExpr))]), (7, [(vS y5.table), (vS y5.as_), (.tre 40860000)]), (1, bGQuery p0), (2, [(vB false), (.nil 13), (.nil 3), (.nil 10), (.nil 11), (vI 0)]), (3, [(vB p0.distinct), (.tre 60066000), (.tre 60066001), (.tre 60066002), (.nil 11), (vI p0.limit)]), (60066001, [(.trc 3 (b60066001_0.map cGSource))]), (60066000, [(.trc 13 (b60024000_0.map cGItem))]), (60066002, [(.trc 10 (y1.map cGExpr))])]⟩
   refine st 2 a18 (nx (oi ?_))
   let a19 : St := a18.p [(49, (.agv [(vS y5.table), (vS y5.as_), (.tre 40860000)])), (48, (.tre 60066001)), (47, (.ptr 3 2))]
   refine st 3 a19 ?_
   refine bslT_step (l := ([(GSource.mk y5.table y5.as_ y6)] : List GSource)) (f := cGSource) (g := oGSource) [40860000] (s' := ⟨(50, (.tre 50)) :: a19.env, [(50, [(.trc 3 (([(GSource.mk y5.table y5.as_ y6)] : List GSource).map cGSource))]), (40860000, [.trd]), (7, [(vS y5.table), (vS y5.as_), (.tre 40860000)]), (1, bGQuery p0), (2, [(vB false), (.nil 13), (.nil 3), (.nil 10), (.nil 11), (vI 0)]), (3, [(vB p0.distinct), (.tre 60066000), (.tre 60066001), (.tre 60066002), (.nil 11), (vI p0.limit)]), (60066001, [(.trc 3 (b60066001_0.map cGSource))]), (60066000, [(.trc 13 (b60024000_0.map cGItem))]), (60066002, [(.trc 10 (y1.map cGExpr))])]⟩) (by kernel_rfl) cGSource_eq (by kernel_rfl) (by kernel_rfl) ?_
   refine appTT_step (l := b60066001_0) (m := ([(GSource.mk y5.table y5.as_ y6)] : List GSource)) (f := cGSource) [60066001] [50] (S' := fun y => ⟨(51, (.tre 51)) :: (50, (.tre 50)) :: a19.env, [(51, [(.trc 3 (y.map cGSource))]), (50, [.trd]), (40860000, [.trd]), (7, [(vS y5.table), (vS y5.as_), (.tre 40860000)]), (1, bGQuery p0), (2, [(vB false), (.nil 13), (.nil 3), (.nil 10), (.nil 11), (vI 0)]), (3, [(vB p0.distinct), (.tre 60066000), (.tre 60066001), (.tre 60066002), (.nil 11), (vI p0.limit)]), (60066001, [.trd]), (60066000, [(.trc 13 (b60024000_0.map cGItem))]), (60066002, [(.trc 10 (y1.map cGExpr))])]⟩) h (by kernel_rfl) (by kernel_rfl) (by kernel_rfl) (by kernel_rfl) (fun y => by kernel_rfl) ?_
   clear h; intro y7 h
   let a20 : St := ⟨(52, (.ptr 3 2)) :: (51, (.tre 51)) :: (50, (.tre 50)) :: a19.env, [(51, [(.trc 3 (y7.map cGSource))]), (50, [.trd]), (40860000, [.trd]), (7, [(vS y5.table), (vS y5.as_), (.tre 40860000)]), (1, bGQuery p0), (2, [(vB false), (.nil 13), (.nil 3), (.nil 10), (.nil 11), (vI 0)]), (3, [(vB p0.distinct), (.tre 60066000), (.tre 51), (.tre 60066002), (.nil 11), (vI p0.limit)]), (60066001, [.trd]), (60066000, [(.trc 13 (b60024000_0.map cGItem))]), (60066002, [(.trc 10 (y1.map cGExpr))])]⟩
   refine st 2 a20 (ni (bn (xi (oi ?_))))
   let a21 : St := a20.p [(39, (vI (IntKind.wrap .i64 (x39 + 1)))), (53, (vI (IntKind.wrap .i64 (x39 + 1))))]
   refine st 2 a21 (ni ?_)
   exact loop_back (s' := stiCopyQuery_X_L1 p0 b60024000_0 y1 (IntKind.wrap .i64 (x39 + 1)) y7) (tw [.rn [(51, 60066001)]] (wr [] (es (es (es (es (es (es er_nil)))))) (bs_ (bs_ (bs_ (bs_ (bs_ (bs_ br_nil)))))))) (OK_iCopyQuery_X_L1 p0 b60024000_0 y1 (IntKind.wrap .i64 (x39 + 1)) y7 _ h)
   refine ei (te (te (bh (xi (si (so ?_))))))
   let a22 : St := a15.p [(55, (.d (.sl 11 (p0.order.map cGSortKey)))), (54, (.ptr 1 4))]
   refine st 2 a22 (ps (vI (ln p0.order)) (vln (sz := 11) (l := p0.order) (f := cGSortKey)) ?_)
   let a23 : St := a22.p [(57, (vI 0)), (56, (vI (ln p0.order)))]
   refine st 1 a23 (nx (bi ?_))
   exact loop_go (s' := stiCopyQuery_X_L2 p0 b60066001_0 b60024000_0 y1 0 ([] : List GSortKey)) (tw [.rn [(60066000, 60108000), (60066001, 60108001), (60066002, 60108002)], .nb 3 4 60108003] (wr [] (es (es (es (es (es er_nil))))) (bs_ (bs_ (bs_ (bs_ (bs_ (bs_ br_nil)))))))) (OK_iCopyQuery_X_L2 p0 b60066001_0 b60024000_0 y1 0 ([] : List GSortKey) _ h)
 · intro F_iCopyExprs_X_L0 OK_iCopyExprs_X_L0 p0 r h
   refine aof triCopyExprs_X ?_
   show avc Try.prog aciCopyExprs_X (qiCopyExprs_X _) ⟨[(0, (.d (.sl 10 (p0.map cGExpr))))], []⟩
   delta aciCopyExprs_X
   refine so ?_
   let a0 : St := ⟨[(2, (.nil 10)), (0, (.d (.sl 10 (p0.map cGExpr))))], []⟩
   refine st 1 a0 (nx (si (so ?_)))
   let a1 : St := a0.p [(6, (.d (.sl 10 (p0.map cGExpr))))]
   refine st 1 a1 ?_
   refine eqn_step (sz := 10) (l := p0) (f := cGExpr) h (by kernel_rfl) (by kernel_rfl) (fun hl h => ?_) fun hl h => ?_
   refine nx (cdf (ki (xi (so (bslT_step (l := ([] : List GExpr)) (f := cGExpr) (g := oGExpr) [] (s' := ⟨(8, (.tre 8)) :: (7, (vB false)) :: a1.env, [(8, [(.trc 10 (([] : List GExpr).map cGExpr))])]⟩) (by kernel_rfl) cGExpr_eq (by kernel_rfl) (by kernel_rfl) ?_)))))
   let a2 : St := ⟨(3, (.tre 8)) :: (8, (.tre 8)) :: (7, (vB false)) :: a1.env, [(8, [(.trc 10 (([] : List GExpr).map cGExpr))])]⟩
   refine st 1 a2 (nx (si (so ?_)))
   let a3 : St := a2.p [(9, (.d (.sl 10 (p0.map cGExpr))))]
   refine st 1 a3 (ps (vI (ln p0)) (vln (sz := 10) (l := p0) (f := cGExpr)) ?_)
   let a4 : St := a3.p [(11, (vI 0)), (10, (vI (ln p0)))]
   exact st 1 a4 (nx (bi (loop_go (s' := stiCopyExprs_X_L0 p0 0 ([] : List GExpr)) (tw [.rn [(8, 60025000)]] (wr [] (es (es (es (es er_nil)))) (bs_ br_nil))) (OK_iCopyExprs_X_L0 p0 0 ([] : List GExpr) _ h))))
   subst hl
   refine ⟨?_, ?_⟩
   replace h : (some ([] : List GExpr) : Option (List GExpr)) = some r := h
   refine nx (cdf (ki (xi (so (bslT_step (l := ([] : List GExpr)) (f := cGExpr) (g := oGExpr) [] (s' := ⟨(8, (.tre 8)) :: (7, (vB false)) :: a1.env, [(8, [(.trc 10 (([] : List GExpr).map cGExpr))])]⟩) (by kernel_rfl) cGExpr_eq (by kernel_rfl) (by kernel_rfl) ?_)))))
   let a6 : St := ⟨(3, (.tre 8)) :: (8, (.tre 8)) :: (7, (vB false)) :: a1.env, [(8, [(.trc 10 (([] : List GExpr).map cGExpr))])]⟩
   refine st 1 a6 (nx (si (so ?_)))
   let a7 : St := a6.p [(9, (.d (.sl 10 (([] : List GExpr).map cGExpr))))]
   refine st 1 a7 (ps (vI (([] : List GExpr).length : Int)) (vln (sz := 10) (l := ([] : List GExpr)) (f := cGExpr)) ?_)
   let a8 : St := a7.p [(11, (vI 0)), (10, (vI (([] : List GExpr).length : Int)))]
   refine st 1 a8 (nx (bi (loop_unroll (so ?_))))
   let a9 : St := a8.p [(12, (vB (decide (0 < (([] : List GExpr).length : Int)))))]
   refine st 1 a9 (nx (si (cdf (ei (te (te (bh (xi (so ?_)))))))))
   let a10 : St := a9.p [(2, (.tre 8)), (21, (.tre 8))]
   refine st 2 a10 (nx (ret_wk (s' := ⟨[(2, (.tre 10000000))], [(10000000, [(.trc 10 (([] : List GExpr).map cGExpr))])]⟩) (tw [.rn [(8, 10000000)]] (wr [] (es er_nil) (bs_ br_nil))) ?_))
   injection h with h; subst h
   exact ret1_step (v := (.tre 10000000)) (by kernel_rfl) (by kernel_rfl) ⟨by kernel_rfl, by kernel_rfl, trivial⟩
   refine nx (cdt (so ?_))
   let a5 : St := a1.p [(2, (.nil 10)), (7, (vB true))]
   refine st 1 a5 (nx (ret_wk (s' := ⟨[(2, (.tre 10000000))], [(10000000, [(.trc 10 (([] : List GExpr).map cGExpr))])]⟩) (tw [.ne 2 0 10000000] (wr [] (es er_nil) (bs_ br_nil))) (tr ?_)))
   injection h with h; subst h
   exact ret1_step (v := (.tre 10000000)) (by kernel_rfl) (by kernel_rfl) ⟨by kernel_rfl, by kernel_rfl, trivial⟩
 · intro F_iCopyExpr_X F_iCopyExprs_X_L0 OK_iCopyExpr_X OK_iCopyExprs_X_L0 p0 x11 b60025000_0 r h
   delta aciCopyExprs_X_L0
   refine loop_unroll (so ?_)
   let a11 : St := (stiCopyExprs_X_L0 p0 x11 b60025000_0).p [(12, (vB (decide (x11 < (ln p0)))))]
   refine st 1 a11 (nx (si ?_))
   refine cd h (fun h => ?_) fun h => ?_
   refine ki (xi (si (bi (so (vs (fun (y : GExpr) => (.rp (oGExpr y))) h (fun y hy => via (l := p0) (f := cGExpr) (g := oGExpr) (k := .i64) hy cGExpr_eq) fun y1 h => ?_)))))
   let a12 : St := ⟨(5, (.ptr 5 0)) :: (14, (vGExpr y1)) :: (13, (.rp (oGExpr y1))) :: a11.env, [(5, bGExpr y1), (60025000, [(.trc 10 (b60025000_0.map cGExpr))])]⟩
   refine st 3 a12 (nx (oi ?_))
   let a13 : St := a12.p [(16, (vGExpr y1)), (15, (.tre 60025000))]
   refine st 2 a13 ?_
   refine callg_step ⟨[], [], [], [], [], [], [(10000008, 40440008), (10000009, 40440009)], [], []⟩ (m := F_iCopyExpr_X y1) (S' := fun (y : GExpr) => ⟨(17, (.agv [(vI y.kind), (vI y.op), (vB y.not_), (vI y.value.kind), (vI y.value.num), (vS y.value.text), (vS y.qual), (vS y.name), (.tre 40440008), (.tre 40440009)])) :: a13.env, [(40440008, [(.trc 10 (y.kids.map cGExpr))]), (40440009, [(.trc 6 (y.sub.map cGQuery))]), (5, bGExpr y1), (60025000, [(.trc 10 (b60025000_0.map cGExpr))])]⟩) h (OK_iCopyExpr_X y1) (by kernel_rfl) (by kernel_rfl) (by kernel_rfl) (by kernel_rfl) (fun y => by kernel_rfl) (fun y => by kernel_rfl) ?_
   clear h; intro y2 h
   refine bslT_step (l := ([y2] : List GExpr)) (f := cGExpr) (g := oGExpr) [40440008, 40440009] (s' := ⟨(18, (.tre 18)) :: (17, (.agv [(vI y2.kind), (vI y2.op), (vB y2.not_), (vI y2.value.kind), (vI y2.value.num), (vS y2.value.text), (vS y2.qual), (vS y2.name), (.tre 40440008), (.tre 40440009)])) :: a13.env, [(18, [(.trc 10 (([y2] : List GExpr).map cGExpr))]), (40440008, [.trd]), (40440009, [.trd]), (5, bGExpr y1), (60025000, [(.trc 10 (b60025000_0.map cGExpr))])]⟩) (by kernel_rfl) cGExpr_eq (by kernel_rfl) (by kernel_rfl) ?_
   refine appTT_step (l := b60025000_0) (m := ([y2] : List GExpr)) (f := cGExpr) [60025000] [18] (S' := fun y => ⟨(19, (.tre 19)) :: (18, (.tre 18)) :: (17, (.agv [(vI y2.kind), (vI y2.op), (vB y2.not_), (vI y2.value.kind), (vI y2.value.num), (vS y2.value.text), (vS y2.qual), (vS y2.name), (.tre 40440008), (.tre 40440009)])) :: a13.env, [(19, [(.trc 10 (y.map cGExpr))]), (18, [.trd]), (40440008, [.trd]), (40440009, [.trd]), (5, bGExpr y1), (60025000, [.trd])]⟩) h (by kernel_rfl) (by kernel_rfl) (by kernel_rfl) (by kernel_rfl) (fun y => by kernel_rfl) ?_
   clear h; intro y3 h
   let a14 : St := ⟨(3, (.tre 19)) :: (19, (.tre 19)) :: (18, (.tre 18)) :: (17, (.agv [(vI y2.kind), (vI y2.op), (vB y2.not_), (vI y2.value.kind), (vI y2.value.num), (vS y2.value.text), (vS y2.qual), (vS y2.name), (.tre 40440008), (.tre 40440009)])) :: a13.env, [(19, [(.trc 10 (y3.map cGExpr))]), (18, [.trd]), (40440008, [.trd]), (40440009, [.trd]), (5, bGExpr y1), (60025000, [.trd])]⟩
   refine st 1 a14 (ni (bn (xi (oi ?_))))
   let a15 : St := a14.p [(11, (vI (IntKind.wrap .i64 (x11 + 1)))), (20, (vI (IntKind.wrap .i64 (x11 + 1))))]
   exact st 2 a15 (ni (loop_back (s' := stiCopyExprs_X_L0 p0 (IntKind.wrap .i64 (x11 + 1)) y3) (tw [.rn [(19, 60025000)]] (wr [] (es (es (es (es er_nil)))) (bs_ br_nil))) (OK_iCopyExprs_X_L0 p0 (IntKind.wrap .i64 (x11 + 1)) y3 _ h)))
   refine ei (te (te (bh (xi (so ?_)))))
   let a16 : St := a11.p [(2, (.tre 60025000)), (21, (.tre 60025000))]
   refine st 2 a16 (nx (ret_wk (s' := ⟨[(2, (.tre 10000000))], [(10000000, [(.trc 10 (b60025000_0.map cGExpr))])]⟩) (tw [.rn [(60025000, 10000000)]] (wr [] (es er_nil) (bs_ br_nil))) ?_))
   injection h with h; subst h
   exact ret1_step (v := (.tre 10000000)) (by kernel_rfl) (by kernel_rfl) ⟨by kernel_rfl, by kernel_rfl, trivial⟩
theorem OK_iCopyQuery_X_L2 (p0 : GQuery) (b60066001_0 : (List GSource)) (b60024000_0 : (List GItem)) (y1 : (List GExpr)) (x57 : Int) (b60108003_0 : (List GSortKey)) (r : GQuery) (h : iCopyQuery_X_L2 p0 b60066001_0 b60024000_0 y1 x57 b60108003_0 = some r) : avc Try.prog aciCopyQuery_X_L2 (qiCopyQuery_X_5 r) (stiCopyQuery_X_L2 p0 b60066001_0 b60024000_0 y1 x57 b60108003_0) := (OKs_iCopyQuery_X_L2).1 p0 b60066001_0 b60024000_0 y1 x57 b60108003_0 r h
theorem OK_iCopyExpr_X (p0 : GExpr) : FOkB Try.prog 91 [(vGExpr p0)] [] (fun (y : GExpr) => (.agv [(vI y.kind), (vI y.op), (vB y.not_), (vI y.value.kind), (vI y.value.num), (vS y.value.text), (vS y.qual), (vS y.name), (.tre 10000008), (.tre 10000009)])) (fun (y : GExpr) => [(10000008, [(.trc 10 (y.kids.map cGExpr))]), (10000009, [(.trc 6 (y.sub.map cGQuery))])]) (iCopyExpr_X p0) := fun r h => (OKs_iCopyQuery_X_L2).2.1 p0 r h
theorem OK_iCopyExpr_X_L0 (p0 : GExpr) (y1 : (List GExpr)) (x14 : Int) (b60023000_0 : (List GQuery)) (r : GExpr) (h : iCopyExpr_X_L0 p0 y1 x14 b60023000_0 = some r) : avc Try.prog aciCopyExpr_X_L0 (qiCopyExpr_X_1 r) (stiCopyExpr_X_L0 p0 y1 x14 b60023000_0) := (OKs_iCopyQuery_X_L2).2.2.1 p0 y1 x14 b60023000_0 r h
theorem OK_iCopyQuery_X (p0 : GQuery) : FOkB Try.prog 154 [(vGQuery p0)] [] (fun (y : GQuery) => (.agv [(vB y.distinct), (.tre 10000001), (.tre 10000002), (.tre 10000003), (.tre 10000004), (vI y.limit)])) (fun (y : GQuery) => [(10000001, [(.trc 13 (y.items.map cGItem))]), (10000002, [(.trc 3 (y.from_.map cGSource))]), (10000003, [(.trc 10 (y.where_.map cGExpr))]), (10000004, [(.trc 11 (y.order.map cGSortKey))])]) (iCopyQuery_X p0) := fun r h => (OKs_iCopyQuery_X_L2).2.2.2.1 p0 r h
theorem OK_iCopyQuery_X_L0 (p0 : GQuery) (y1 : (List GExpr)) (x21 : Int) (b60024000_0 : (List GItem)) (r : GQuery) (h : iCopyQuery_X_L0 p0 y1 x21 b60024000_0 = some r) : avc Try.prog aciCopyQuery_X_L0 (qiCopyQuery_X_1 r) (stiCopyQuery_X_L0 p0 y1 x21 b60024000_0) := (OKs_iCopyQuery_X_L2).2.2.2.2.1 p0 y1 x21 b60024000_0 r h
theorem OK_iCopyQuery_X_L1 (p0 : GQuery) (b60024000_0 : (List GItem)) (y1 : (List GExpr)) (x39 : Int) (b60066001_0 : (List GSource)) (r : GQuery) (h : iCopyQuery_X_L1 p0 b60024000_0 y1 x39 b60066001_0 = some r) : avc Try.prog aciCopyQuery_X_L1 (qiCopyQuery_X_3 r) (stiCopyQuery_X_L1 p0 b60024000_0 y1 x39 b60066001_0) := (OKs_iCopyQuery_X_L2).2.2.2.2.2.1 p0 b60024000_0 y1 x39 b60066001_0 r h
theorem OK_iCopyExprs_X (p0 : (List GExpr)) : FOkB Try.prog 45 [(.d (.sl 10 (p0.map cGExpr)))] [] (fun (y : (List GExpr)) => (.tre 10000000)) (fun (y : (List GExpr)) => [(10000000, [(.trc 10 (y.map cGExpr))])]) (iCopyExprs_X p0) := fun r h => (OKs_iCopyQuery_X_L2).2.2.2.2.2.2.1 p0 r h
theorem OK_iCopyExprs_X_L0 (p0 : (List GExpr)) (x11 : Int) (b60025000_0 : (List GExpr)) (r : (List GExpr)) (h : iCopyExprs_X_L0 p0 x11 b60025000_0 = some r) : avc Try.prog aciCopyExprs_X_L0 (qiCopyExprs_X_1 r) (stiCopyExprs_X_L0 p0 x11 b60025000_0) := (OKs_iCopyQuery_X_L2).2.2.2.2.2.2.2 p0 x11 b60025000_0 r h
theorem OKs_iCopyExprs_L0 (p0 : (List GExpr)) : (∀ (x11 : Int) (b60025000_0 : (List GExpr)) (r : (List GExpr)), iCopyExprs_L0 p0 x11 b60025000_0 = some r → avc Try.prog aciCopyExprs_L0 (qiCopyExprs_1 r) (stiCopyExprs_L0 p0 x11 b60025000_0)) := by
 refine iCopyExprs_L0.partial_correctness p0 (fun x11 b60025000_0 r => avc Try.prog aciCopyExprs_L0 (qiCopyExprs_1 r) (stiCopyExprs_L0 p0 x11 b60025000_0)) ?_
 · intro F_iCopyExprs_L0 OK_iCopyExprs_L0 x11 b60025000_0 r h
   delta aciCopyExprs_L0
   refine loop_unroll (so ?_)
   let a11 : St := (stiCopyExprs_L0 p0 x11 b60025000_0).p [(12, (vB (decide (x11 < (ln p0)))))]
   refine st 1 a11 (nx (si ?_))
   refine cd h (fun h => ?_) fun h => ?_
   refine ki (xi (si (bi (so (vs (fun (y : GExpr) => (.rp (oGExpr y))) h (fun y hy => via (l := p0) (f := cGExpr) (g := oGExpr) (k := .i64) hy cGExpr_eq) fun y1 h => ?_)))))
   let a12 : St := ⟨(5, (.ptr 5 0)) :: (14, (vGExpr y1)) :: (13, (.rp (oGExpr y1))) :: a11.env, [(5, bGExpr y1), (60025000, [(.trc 10 (b60025000_0.map cGExpr))])]⟩
   refine st 3 a12 (nx (oi ?_))
   let a13 : St := a12.p [(16, (vGExpr y1)), (15, (.tre 60025000))]
   refine st 2 a13 ?_
   refine callg_step ⟨[], [], [], [], [], [], [(10000008, 40440008), (10000009, 40440009)], [], []⟩ (m := iCopyExpr_X y1) (S' := fun (y : GExpr) => ⟨(17, (.agv [(vI y.kind), (vI y.op), (vB y.not_), (vI y.value.kind), (vI y.value.num), (vS y.value.text), (vS y.qual), (vS y.name), (.tre 40440008), (.tre 40440009)])) :: a13.env, [(40440008, [(.trc 10 (y.kids.map cGExpr))]), (40440009, [(.trc 6 (y.sub.map cGQuery))]), (5, bGExpr y1), (60025000, [(.trc 10 (b60025000_0.map cGExpr))])]⟩) h (OK_iCopyExpr_X y1) (by kernel_rfl) (by kernel_rfl) (by kernel_rfl) (by kernel_rfl) (fun y => by kernel_rfl) (fun y => by kernel_rfl) ?_
   clear h; intro y2 h
   refine bslT_step (l := ([y2] : List GExpr)) (f := cGExpr) (g := oGExpr) [40440008, 40440009] (s' := ⟨(18, (.tre 18)) :: (17, (.agv [(vI y2.kind), (vI y2.op), (vB y2.not_), (vI y2.value.kind), (vI y2.value.num), (vS y2.value.text), (vS y2.qual), (vS y2.name), (.tre 40440008), (.tre 40440009)])) :: a13.env, [(18, [(.trc 10 (([y2] : List GExpr).map cGExpr))]), (40440008, [.trd]), (40440009, [.trd]), (5, bGExpr y1), (60025000, [(.trc 10 (b60025000_0.map cGExpr))])]⟩) (by kernel_rfl) cGExpr_eq (by kernel_rfl) (by kernel_rfl) ?_
   refine appTT_step (l := b60025000_0) (m := ([y2] : List GExpr)) (f := cGExpr) [60025000] [18] (S' := fun y => ⟨(19, (.tre 19)) :: (18, (.tre 18)) :: (17, (.agv [(vI y2.kind), (vI y2.op), (vB y2.not_), (vI y2.value.kind), (vI y2.value.num), (vS y2.value.text), (vS y2.qual), (vS y2.name), (.tre 40440008), (.tre 40440009)])) :: a13.env, [(19, [(.trc 10 (y.map cGExpr))]), (18, [.trd]), (40440008, [.trd]), (40440009, [.trd]), (5, bGExpr y1), (60025000, [.trd])]⟩) h (by kernel_rfl) (by kernel_rfl) (by kernel_rfl) (by kernel_rfl) (fun y => by kernel_rfl) ?_
   clear h; intro y3 h
   let a14 : St := ⟨(3, (.tre 19)) :: (19, (.tre 19)) :: (18, (.tre 18)) :: (17, (.agv [(vI y2.kind), (vI y2.op), (vB y2.not_), (vI y2.value.kind), (vI y2.value.num), (vS y2.value.text), (vS y2.qual), (vS y2.name), (.tre 40440008), (.tre 40440009)])) :: a13.env, [(19, [(.trc 10 (y3.map cGExpr))]), (18, [.trd]), (40440008, [.trd]), (40440009, [.trd]), (5, bGExpr y1), (60025000, [.trd])]⟩
   refine st 1 a14 (ni (bn (xi (oi ?_))))
   let a15 : St := a14.p [(11, (vI (IntKind.wrap .i64 (x11 + 1)))), (20, (vI (IntKind.wrap .i64 (x11 + 1))))]
   exact st 2 a15 (ni (loop_back (s' := stiCopyExprs_L0 p0 (IntKind.wrap .i64 (x11 + 1)) y3) (tw [.rn [(19, 60025000)]] (wr [] (es (es (es (es er_nil)))) (bs_ br_nil))) (OK_iCopyExprs_L0 (IntKind.wrap .i64 (x11 + 1)) y3 _ h)))
   refine ei (te (te (bh (xi (so ?_)))))
   let a16 : St := a11.p [(2, (.tre 60025000)), (21, (.tre 60025000))]
   refine st 2 a16 (nx (ret_wk (s' := ⟨[(2, (.d (.sl 10 (b60025000_0.map cGExpr))))], []⟩) (tw [.frz [60025000]] (wr [] (es er_nil) br_nil)) ?_))
   injection h with h; subst h
   exact r1 (v := (.d (.sl 10 (b60025000_0.map cGExpr))))
theorem OK_iCopyExprs_L0 (p0 : (List GExpr)) (x11 : Int) (b60025000_0 : (List GExpr)) (r : (List GExpr)) (h : iCopyExprs_L0 p0 x11 b60025000_0 = some r) : avc Try.prog aciCopyExprs_L0 (qiCopyExprs_1 r) (stiCopyExprs_L0 p0 x11 b60025000_0) := (OKs_iCopyExprs_L0 p0) x11 b60025000_0 r h
theorem OK_iCopyExprs (p0 : (List GExpr)) : FOk Try.prog 45 [(.d (.sl 10 (p0.map cGExpr)))] (fun y => (.d (.sl 10 (y.map cGExpr)))) (iCopyExprs p0) := by
 intro r h
 rw [iCopyExprs] at h
 refine aof triCopyExprs ?_
 show avc Try.prog aciCopyExprs (qiCopyExprs _) ⟨[(0, (.d (.sl 10 (p0.map cGExpr))))], []⟩
 delta aciCopyExprs
 refine so ?_
 let a0 : St := ⟨[(2, (.nil 10)), (0, (.d (.sl 10 (p0.map cGExpr))))], []⟩
 refine st 1 a0 (nx (si (so ?_)))
 let a1 : St := a0.p [(6, (.d (.sl 10 (p0.map cGExpr))))]
 refine st 1 a1 ?_
 refine eqn_step (sz := 10) (l := p0) (f := cGExpr) h (by kernel_rfl) (by kernel_rfl) (fun hl h => ?_) fun hl h => ?_
 refine nx (cdf (ki (xi (so (bslT_step (l := ([] : List GExpr)) (f := cGExpr) (g := oGExpr) [] (s' := ⟨(8, (.tre 8)) :: (7, (vB false)) :: a1.env, [(8, [(.trc 10 (([] : List GExpr).map cGExpr))])]⟩) (by kernel_rfl) cGExpr_eq (by kernel_rfl) (by kernel_rfl) ?_)))))
 let a2 : St := ⟨(3, (.tre 8)) :: (8, (.tre 8)) :: (7, (vB false)) :: a1.env, [(8, [(.trc 10 (([] : List GExpr).map cGExpr))])]⟩
 refine st 1 a2 (nx (si (so ?_)))
 let a3 : St := a2.p [(9, (.d (.sl 10 (p0.map cGExpr))))]
 refine st 1 a3 (ps (vI (ln p0)) (vln (sz := 10) (l := p0) (f := cGExpr)) ?_)
 let a4 : St := a3.p [(11, (vI 0)), (10, (vI (ln p0)))]
 exact st 1 a4 (nx (bi (loop_go (s' := stiCopyExprs_L0 p0 0 ([] : List GExpr)) (tw [.rn [(8, 60025000)]] (wr [] (es (es (es (es er_nil)))) (bs_ br_nil))) (OK_iCopyExprs_L0 p0 0 ([] : List GExpr) _ h))))
 subst hl
 refine ⟨?_, ?_⟩
 replace h : (some ([] : List GExpr) : Option (List GExpr)) = some r := h
 refine nx (cdf (ki (xi (so (bslT_step (l := ([] : List GExpr)) (f := cGExpr) (g := oGExpr) [] (s' := ⟨(8, (.tre 8)) :: (7, (vB false)) :: a1.env, [(8, [(.trc 10 (([] : List GExpr).map cGExpr))])]⟩) (by kernel_rfl) cGExpr_eq (by kernel_rfl) (by kernel_rfl) ?_)))))
 let a6 : St := ⟨(3, (.tre 8)) :: (8, (.tre 8)) :: (7, (vB false)) :: a1.env, [(8, [(.trc 10 (([] : List GExpr).map cGExpr))])]⟩
 refine st 1 a6 (nx (si (so ?_)))
 let a7 : St := a6.p [(9, (.d (.sl 10 (([] : List GExpr).map cGExpr))))]
 refine st 1 a7 (ps (vI (([] : List GExpr).length : Int)) (vln (sz := 10) (l := ([] : List GExpr)) (f := cGExpr)) ?_)
 let a8 : St := a7.p [(11, (vI 0)), (10, (vI (([] : List GExpr).length : Int)))]
 refine st 1 a8 (nx (bi (loop_unroll (so ?_))))
 let a9 : St := a8.p [(12, (vB (decide (0 < (([] : List GExpr).length : Int)))))]
 refine st 1 a9 (nx (si (cdf (ei (te (te (bh (xi (so ?_)))))))))
 let a10 : St := a9.p [(2, (.tre 8)), (21, (.tre 8))]
 refine st 2 a10 (nx (ret_wk (s' := ⟨[(2, (.d (.sl 10 (([] : List GExpr).map cGExpr))))], []⟩) (tw [.frz [8]] (wr [] (es er_nil) br_nil)) ?_))
 injection h with h; subst h
 exact r1 (v := (.d (.sl 10 (([] : List GExpr).map cGExpr))))
 refine nx (cdt (so ?_))
 let a5 : St := a1.p [(2, (.nil 10)), (7, (vB true))]
 refine st 1 a5 (nx (ret_wk (s' := ⟨[(2, (.d (.sl 10 (([] : List GExpr).map cGExpr))))], []⟩) (wr [] (ew er_nil) br_nil) (tr ?_)))
 injection h with h; subst h
 exact r1 (v := (.d (.sl 10 (([] : List GExpr).map cGExpr))))
theorem OKs_iExprsOf_L0 (p0 : GStmt) : (∀ (x3 : (List GExpr)) (x12 : Int) (r : (List GExpr)), iExprsOf_L0 p0 x3 x12 = some r → avc Try.prog aciExprsOf_L0 (qiExprsOf_1 r) (stiExprsOf_L0 p0 x3 x12)) := by
 refine iExprsOf_L0.partial_correctness p0 (fun x3 x12 r => avc Try.prog aciExprsOf_L0 (qiExprsOf_1 r) (stiExprsOf_L0 p0 x3 x12)) ?_
 · intro F_iExprsOf_L0 OK_iExprsOf_L0 x3 x12 r h
   delta aciExprsOf_L0
   refine loop_unroll (so ?_)
   let a5 : St := (stiExprsOf_L0 p0 x3 x12).p [(13, (vB (decide (x12 < (ln p0.rows)))))]
   refine st 1 a5 (nx (si ?_))
   refine cd h (fun h => ?_) fun h => ?_
   refine ki (xi (si (bi (so (vs (fun (y : (List GExpr)) => (.rp [(.sl 10 (y.map cGExpr))])) h (fun y hy => via (l := p0.rows) (f := (cSl 10 cGExpr)) (g := (cSl 10 cGExpr)) (k := .i64) hy (fun _ => rfl)) fun y2 h => ?_)))))
   let a6 : St := a5.p [(5, (.d (.sl 10 (y2.map cGExpr)))), (15, (.d (.sl 10 (y2.map cGExpr)))), (14, (.rp [(.sl 10 (y2.map cGExpr))]))]
   refine st 2 a6 (nx (oi ?_))
   let a7 : St := a6.p [(17, (.d (.sl 10 (y2.map cGExpr)))), (16, (.osl 3 29 10 (x3.map cGExpr)))]
   refine st 2 a7 ?_
   refine app_step (t := 3) (l := x3) (m := y2) (f := cGExpr) (S' := fun y => ⟨[(18, (.osl 18 29 10 (y.map cGExpr))), (17, (.d (.sl 10 (y2.map cGExpr)))), (16, (.d (.sl 10 (x3.map cGExpr)))), (5, (.d (.sl 10 (y2.map cGExpr)))), (15, (.d (.sl 10 (y2.map cGExpr)))), (14, (.rp [(.sl 10 (y2.map cGExpr))])), (13, (vB (decide (x12 < (ln p0.rows))))), (1, (.ptr 1 0)), (3, (.d (.sl 10 (x3.map cGExpr)))), (10, (.d (.sl 1 (p0.rows.map (cSl 10 cGExpr))))), (11, (vI (ln p0.rows))), (12, (vI x12))], [(1, bGStmt p0)]⟩) h (by kernel_rfl) (by kernel_rfl) (by kernel_rfl) (by kernel_rfl) (fun y => by kernel_rfl) ?_
   clear h; intro y3 h
   let a8 : St := ⟨[(3, (.osl 3 29 10 (y3.map cGExpr))), (18, (.d (.sl 10 (y3.map cGExpr)))), (17, (.d (.sl 10 (y2.map cGExpr)))), (16, (.d (.sl 10 (x3.map cGExpr)))), (5, (.d (.sl 10 (y2.map cGExpr)))), (15, (.d (.sl 10 (y2.map cGExpr)))), (14, (.rp [(.sl 10 (y2.map cGExpr))])), (13, (vB (decide (x12 < (ln p0.rows))))), (1, (.ptr 1 0)), (3, (.d (.sl 10 (x3.map cGExpr)))), (10, (.d (.sl 1 (p0.rows.map (cSl 10 cGExpr))))), (11, (vI (ln p0.rows))), (12, (vI x12))], [(1, bGStmt p0)]⟩
   refine st 1 a8 (ni (bn (xi (oi ?_))))
   let a9 : St := a8.p [(12, (vI (IntKind.wrap .i64 (x12 + 1)))), (19, (vI (IntKind.wrap .i64 (x12 + 1))))]
   exact st 2 a9 (ni (loop_back (s' := stiExprsOf_L0 p0 y3 (IntKind.wrap .i64 (x12 + 1))) (wr [(3, .old 3)] (es (eo 3 (es (es (es er_nil))))) (bs_ br_nil)) (OK_iExprsOf_L0 y3 (IntKind.wrap .i64 (x12 + 1)) _ h)))
   refine ei (te (te (bh (xi (so ?_)))))
   let a10 : St := a5.p [(22, (.d (.sl 10 (p0.sets.map cGExpr)))), (21, (.ptr 1 10)), (20, (.osl 3 29 10 (x3.map cGExpr)))]
   refine st 3 a10 ?_
   refine app_step (t := 3) (l := x3) (m := p0.sets) (f := cGExpr) (S' := fun y => ⟨[(23, (.osl 23 29 10 (y.map cGExpr))), (22, (.d (.sl 10 (p0.sets.map cGExpr)))), (21, (.ptr 1 10)), (20, (.d (.sl 10 (x3.map cGExpr)))), (13, (vB (decide (x12 < (ln p0.rows))))), (1, (.ptr 1 0)), (3, (.d (.sl 10 (x3.map cGExpr)))), (10, (.d (.sl 1 (p0.rows.map (cSl 10 cGExpr))))), (11, (vI (ln p0.rows))), (12, (vI x12))], [(1, bGStmt p0)]⟩) h (by kernel_rfl) (by kernel_rfl) (by kernel_rfl) (by kernel_rfl) (fun y => by kernel_rfl) ?_
   clear h; intro y4 h
   let a11 : St := ⟨[(3, (.osl 3 29 10 (y4.map cGExpr))), (23, (.d (.sl 10 (y4.map cGExpr)))), (22, (.d (.sl 10 (p0.sets.map cGExpr)))), (21, (.ptr 1 10)), (20, (.d (.sl 10 (x3.map cGExpr)))), (13, (vB (decide (x12 < (ln p0.rows))))), (1, (.ptr 1 0)), (3, (.d (.sl 10 (x3.map cGExpr)))), (10, (.d (.sl 1 (p0.rows.map (cSl 10 cGExpr))))), (11, (vI (ln p0.rows))), (12, (vI x12))], [(1, bGStmt p0)]⟩
   refine st 1 a11 (nx (so ?_))
   let a12 : St := a11.p [(26, (.d (.sl 10 (p0.where_.map cGExpr)))), (25, (.ptr 1 11)), (24, (.osl 3 29 10 (y4.map cGExpr)))]
   refine st 3 a12 ?_
   refine app_step (t := 3) (l := y4) (m := p0.where_) (f := cGExpr) (S' := fun y => ⟨[(27, (.osl 27 29 10 (y.map cGExpr))), (26, (.d (.sl 10 (p0.where_.map cGExpr)))), (25, (.ptr 1 11)), (24, (.d (.sl 10 (y4.map cGExpr)))), (3, (.d (.sl 10 (y4.map cGExpr)))), (23, (.d (.sl 10 (y4.map cGExpr)))), (22, (.d (.sl 10 (p0.sets.map cGExpr)))), (21, (.ptr 1 10)), (20, (.d (.sl 10 (x3.map cGExpr)))), (13, (vB (decide (x12 < (ln p0.rows))))), (1, (.ptr 1 0)), (3, (.d (.sl 10 (x3.map cGExpr)))), (10, (.d (.sl 1 (p0.rows.map (cSl 10 cGExpr))))), (11, (vI (ln p0.rows))), (12, (vI x12))], [(1, bGStmt p0)]⟩) h (by kernel_rfl) (by kernel_rfl) (by kernel_rfl) (by kernel_rfl) (fun y => by kernel_rfl) ?_
   clear h; intro y5 h
   let a13 : St := ⟨[(3, (.osl 3 29 10 (y5.map cGExpr))), (27, (.d (.sl 10 (y5.map cGExpr)))), (26, (.d (.sl 10 (p0.where_.map cGExpr)))), (25, (.ptr 1 11)), (24, (.d (.sl 10 (y4.map cGExpr)))), (3, (.d (.sl 10 (y4.map cGExpr)))), (23, (.d (.sl 10 (y4.map cGExpr)))), (22, (.d (.sl 10 (p0.sets.map cGExpr)))), (21, (.ptr 1 10)), (20, (.d (.sl 10 (x3.map cGExpr)))), (13, (vB (decide (x12 < (ln p0.rows))))), (1, (.ptr 1 0)), (3, (.d (.sl 10 (x3.map cGExpr)))), (10, (.d (.sl 1 (p0.rows.map (cSl 10 cGExpr))))), (11, (vI (ln p0.rows))), (12, (vI x12))], [(1, bGStmt p0)]⟩
   refine st 1 a13 (nx (so ?_))
   let a14 : St := a13.p [(28, (.osl 3 29 10 (y5.map cGExpr)))]
   refine st 1 a14 (cs h (OK_iCopyExprs y5) fun y6 h => ?_)
   let a15 : St := a14.p [(2, (.d (.sl 10 (y6.map cGExpr)))), (29, (.d (.sl 10 (y6.map cGExpr))))]
   refine st 1 a15 (nx (ri ?_))
   injection h with h; subst h
   exact r1 (v := (.d (.sl 10 (y6.map cGExpr))))
theorem OK_iExprsOf_L0 (p0 : GStmt) (x3 : (List GExpr)) (x12 : Int) (r : (List GExpr)) (h : iExprsOf_L0 p0 x3 x12 = some r) : avc Try.prog aciExprsOf_L0 (qiExprsOf_1 r) (stiExprsOf_L0 p0 x3 x12) := (OKs_iExprsOf_L0 p0) x3 x12 r h
theorem OKs_iQuery_exprs_L3 (p0 : GQuery) : (∀ (x3_8 : (List GExpr)) (x46 : Int) (r : (List GExpr)), iQuery_exprs_L3 p0 x3_8 x46 = some r → avc Try.prog aciQuery_exprs_L3 (qiQuery_exprs_6 r) (stiQuery_exprs_L3 p0 x3_8 x46)) := by
 refine iQuery_exprs_L3.partial_correctness p0 (fun x3_8 x46 r => avc Try.prog aciQuery_exprs_L3 (qiQuery_exprs_6 r) (stiQuery_exprs_L3 p0 x3_8 x46)) ?_
 · intro F_iQuery_exprs_L3 OK_iQuery_exprs_L3 x3_8 x46 r h
   delta aciQuery_exprs_L3
   refine loop_unroll (so ?_)
   let a21 : St := (stiQuery_exprs_L3 p0 x3_8 x46).p [(47, (vB (decide (x46 < (ln p0.order)))))]
   refine st 1 a21 (nx (si ?_))
   refine cd h (fun h => ?_) fun h => ?_
   refine ki (xi (si (bi (so (vs (fun (y : GSortKey) => (.rp (oGSortKey y))) h (fun y hy => via (l := p0.order) (f := cGSortKey) (g := oGSortKey) (k := .i64) hy cGSortKey_eq) fun y9 h => ?_)))))
   let a22 : St := ⟨(9, (.ptr 9 0)) :: (49, (vGSortKey y9)) :: (48, (.rp (oGSortKey y9))) :: a21.env, [(9, bGSortKey y9)]⟩
   refine st 3 a22 (nx (oi ?_))
   let a23 : St := a22.p [(52, (vGExpr y9.expr)), (51, (.ptr 9 0)), (50, (.osl 3 29 10 (x3_8.map cGExpr)))]
   refine st 3 a23 (bsl_step (l := ([y9.expr] : List GExpr)) (f := cGExpr) (g := oGExpr) (by kernel_rfl) cGExpr_eq (by kernel_rfl) ?_)
   refine app_step (t := 3) (l := x3_8) (m := ([y9.expr] : List GExpr)) (f := cGExpr) (S' := fun y => ⟨[(54, (.osl 54 29 10 (y.map cGExpr))), (53, (.osl 53 29 10 (([y9.expr] : List GExpr).map cGExpr))), (52, (vGExpr y9.expr)), (51, (.ptr 9 0)), (50, (.d (.sl 10 (x3_8.map cGExpr)))), (9, (.ptr 9 0)), (49, (vGSortKey y9)), (48, (.rp (oGSortKey y9))), (47, (vB (decide (x46 < (ln p0.order))))), (3, (.d (.sl 10 (x3_8.map cGExpr)))), (44, (.d (.sl 11 (p0.order.map cGSortKey)))), (45, (vI (ln p0.order))), (46, (vI x46))], [(9, bGSortKey y9)]⟩) h (by kernel_rfl) (by kernel_rfl) (by kernel_rfl) (by kernel_rfl) (fun y => by kernel_rfl) ?_
   clear h; intro y10 h
   let a24 : St := ⟨[(3, (.osl 3 29 10 (y10.map cGExpr))), (54, (.d (.sl 10 (y10.map cGExpr)))), (53, (.osl 53 29 10 (([y9.expr] : List GExpr).map cGExpr))), (52, (vGExpr y9.expr)), (51, (.ptr 9 0)), (50, (.d (.sl 10 (x3_8.map cGExpr)))), (9, (.ptr 9 0)), (49, (vGSortKey y9)), (48, (.rp (oGSortKey y9))), (47, (vB (decide (x46 < (ln p0.order))))), (3, (.d (.sl 10 (x3_8.map cGExpr)))), (44, (.d (.sl 11 (p0.order.map cGSortKey)))), (45, (vI (ln p0.order))), (46, (vI x46))], [(9, bGSortKey y9)]⟩
   refine st 1 a24 (ni (bn (xi (oi ?_))))
   let a25 : St := a24.p [(46, (vI (IntKind.wrap .i64 (x46 + 1)))), (55, (vI (IntKind.wrap .i64 (x46 + 1))))]
   exact st 2 a25 (ni (loop_back (s' := stiQuery_exprs_L3 p0 y10 (IntKind.wrap .i64 (x46 + 1))) (wr [(3, .old 3)] (eo 3 (es (es (es er_nil)))) br_nil) (OK_iQuery_exprs_L3 y10 (IntKind.wrap .i64 (x46 + 1)) _ h)))
   refine ei (te (te (bh (xi (so ?_)))))
   let a26 : St := ⟨[(2, (.osl 2 29 10 (x3_8.map cGExpr))), (56, (.d (.sl 10 (x3_8.map cGExpr)))), (47, (vB (decide (x46 < (ln p0.order))))), (3, (.d (.sl 10 (x3_8.map cGExpr)))), (44, (.d (.sl 11 (p0.order.map cGSortKey)))), (45, (vI (ln p0.order))), (46, (vI x46))], []⟩
   refine st 2 a26 (nx (ret_wk (s' := ⟨[(2, (.osl 2000000 29 10 (x3_8.map cGExpr)))], []⟩) (wr [(2000000, .old 2)] (eo 2 er_nil) br_nil) ?_))
   injection h with h; subst h
   exact ret1_step (v := (.osl 2000000 29 10 (x3_8.map cGExpr))) (by kernel_rfl) (by kernel_rfl) ⟨by kernel_rfl, trivial⟩
theorem OK_iQuery_exprs_L3 (p0 : GQuery) (x3_8 : (List GExpr)) (x46 : Int) (r : (List GExpr)) (h : iQuery_exprs_L3 p0 x3_8 x46 = some r) : avc Try.prog aciQuery_exprs_L3 (qiQuery_exprs_6 r) (stiQuery_exprs_L3 p0 x3_8 x46) := (OKs_iQuery_exprs_L3 p0) x3_8 x46 r h
theorem OKs_iQuery_exprs_L2 (p0 : GQuery) : (∀ (x3_4 : (List GExpr)) (x30 : Int) (r : (List GExpr)), iQuery_exprs_L2 p0 x3_4 x30 = some r → avc Try.prog aciQuery_exprs_L2 (qiQuery_exprs_4 r) (stiQuery_exprs_L2 p0 x3_4 x30)) := by
 refine iQuery_exprs_L2.partial_correctness p0 (fun x3_4 x30 r => avc Try.prog aciQuery_exprs_L2 (qiQuery_exprs_4 r) (stiQuery_exprs_L2 p0 x3_4 x30)) ?_
 · intro F_iQuery_exprs_L2 OK_iQuery_exprs_L2 x3_4 x30 r h
   delta aciQuery_exprs_L2
   refine loop_unroll (so ?_)
   let a12 : St := (stiQuery_exprs_L2 p0 x3_4 x30).p [(31, (vB (decide (x30 < (ln p0.from_)))))]
   refine st 1 a12 (nx (si ?_))
   refine cd h (fun h => ?_) fun h => ?_
   refine ki (xi (si (bi (so (vs (fun (y : GSource) => (.rp (oGSource y))) h (fun y hy => via (l := p0.from_) (f := cGSource) (g := oGSource) (k := .i64) hy cGSource_eq) fun y5 h => ?_)))))
   let a13 : St := ⟨(7, (.ptr 7 0)) :: (33, (vGSource y5)) :: (32, (.rp (oGSource y5))) :: a12.env, [(7, bGSource y5), (1, bGQuery p0)]⟩
   refine st 3 a13 (nx (oi ?_))
   let a14 : St := a13.p [(36, (.d (.sl 10 (y5.on_.map cGExpr)))), (35, (.ptr 7 2)), (34, (.osl 3 29 10 (x3_4.map cGExpr)))]
   refine st 3 a14 ?_
   refine app_step (t := 3) (l := x3_4) (m := y5.on_) (f := cGExpr) (S' := fun y => ⟨[(37, (.osl 37 29 10 (y.map cGExpr))), (36, (.d (.sl 10 (y5.on_.map cGExpr)))), (35, (.ptr 7 2)), (34, (.d (.sl 10 (x3_4.map cGExpr)))), (7, (.ptr 7 0)), (33, (vGSource y5)), (32, (.rp (oGSource y5))), (31, (vB (decide (x30 < (ln p0.from_))))), (1, (.ptr 1 0)), (3, (.d (.sl 10 (x3_4.map cGExpr)))), (28, (.d (.sl 3 (p0.from_.map cGSource)))), (29, (vI (ln p0.from_))), (30, (vI x30))], [(7, bGSource y5), (1, bGQuery p0)]⟩) h (by kernel_rfl) (by kernel_rfl) (by kernel_rfl) (by kernel_rfl) (fun y => by kernel_rfl) ?_
   clear h; intro y6 h
   let a15 : St := ⟨[(3, (.osl 3 29 10 (y6.map cGExpr))), (37, (.d (.sl 10 (y6.map cGExpr)))), (36, (.d (.sl 10 (y5.on_.map cGExpr)))), (35, (.ptr 7 2)), (34, (.d (.sl 10 (x3_4.map cGExpr)))), (7, (.ptr 7 0)), (33, (vGSource y5)), (32, (.rp (oGSource y5))), (31, (vB (decide (x30 < (ln p0.from_))))), (1, (.ptr 1 0)), (3, (.d (.sl 10 (x3_4.map cGExpr)))), (28, (.d (.sl 3 (p0.from_.map cGSource)))), (29, (vI (ln p0.from_))), (30, (vI x30))], [(7, bGSource y5), (1, bGQuery p0)]⟩
   refine st 1 a15 (ni (bn (xi (oi ?_))))
   let a16 : St := a15.p [(30, (vI (IntKind.wrap .i64 (x30 + 1)))), (38, (vI (IntKind.wrap .i64 (x30 + 1))))]
   exact st 2 a16 (ni (loop_back (s' := stiQuery_exprs_L2 p0 y6 (IntKind.wrap .i64 (x30 + 1))) (wr [(3, .old 3)] (es (eo 3 (es (es (es er_nil))))) (bs_ br_nil)) (OK_iQuery_exprs_L2 y6 (IntKind.wrap .i64 (x30 + 1)) _ h)))
   refine ei (te (te (bh (xi (so ?_)))))
   let a17 : St := a12.p [(41, (.d (.sl 10 (p0.where_.map cGExpr)))), (40, (.ptr 1 3)), (39, (.osl 3 29 10 (x3_4.map cGExpr)))]
   refine st 3 a17 ?_
   refine app_step (t := 3) (l := x3_4) (m := p0.where_) (f := cGExpr) (S' := fun y => ⟨[(42, (.osl 42 29 10 (y.map cGExpr))), (41, (.d (.sl 10 (p0.where_.map cGExpr)))), (40, (.ptr 1 3)), (39, (.d (.sl 10 (x3_4.map cGExpr)))), (31, (vB (decide (x30 < (ln p0.from_))))), (1, (.ptr 1 0)), (3, (.d (.sl 10 (x3_4.map cGExpr)))), (28, (.d (.sl 3 (p0.from_.map cGSource)))), (29, (vI (ln p0.from_))), (30, (vI x30))], [(1, bGQuery p0)]⟩) h (by kernel_rfl) (by kernel_rfl) (by kernel_rfl) (by kernel_rfl) (fun y => by kernel_rfl) ?_
   clear h; intro y7 h
   let a18 : St := ⟨[(3, (.osl 3 29 10 (y7.map cGExpr))), (42, (.d (.sl 10 (y7.map cGExpr)))), (41, (.d (.sl 10 (p0.where_.map cGExpr)))), (40, (.ptr 1 3)), (39, (.d (.sl 10 (x3_4.map cGExpr)))), (31, (vB (decide (x30 < (ln p0.from_))))), (1, (.ptr 1 0)), (3, (.d (.sl 10 (x3_4.map cGExpr)))), (28, (.d (.sl 3 (p0.from_.map cGSource)))), (29, (vI (ln p0.from_))), (30, (vI x30))], [(1, bGQuery p0)]⟩
   refine st 1 a18 (nx (si (so ?_)))
   let a19 : St := a18.p [(44, (.d (.sl 11 (p0.order.map cGSortKey)))), (43, (.ptr 1 4))]
   refine st 2 a19 (ps (vI (ln p0.order)) (vln (sz := 11) (l := p0.order) (f := cGSortKey)) ?_)
   let a20 : St := a19.p [(46, (vI 0)), (45, (vI (ln p0.order)))]
   exact st 1 a20 (nx (bi (loop_go (s' := stiQuery_exprs_L3 p0 y7 0) (wr [(3, .old 3)] (eo 3 (es (es (es er_nil)))) br_nil) (OK_iQuery_exprs_L3 p0 y7 0 _ h))))
theorem OK_iQuery_exprs_L2 (p0 : GQuery) (x3_4 : (List GExpr)) (x30 : Int) (r : (List GExpr)) (h : iQuery_exprs_L2 p0 x3_4 x30 = some r) : avc Try.prog aciQuery_exprs_L2 (qiQuery_exprs_4 r) (stiQuery_exprs_L2 p0 x3_4 x30) := (OKs_iQuery_exprs_L2 p0) x3_4 x30 r h
theorem OKs_iQuery_exprs_J1 (p0 : GQuery) : (∀ (x14 : Int) (x3_3 : (List GExpr)) (r : (List GExpr)), iQuery_exprs_J1 p0 x14 x3_3 = some r → avc Try.prog aciQuery_exprs_J1 (qiQuery_exprs_2 r) (stiQuery_exprs_J1 p0 x14 x3_3)) ∧ (∀ (x3 : (List GExpr)) (x14 : Int) (r : (List GExpr)), iQuery_exprs_L0 p0 x3 x14 = some r → avc Try.prog aciQuery_exprs_L0 (qiQuery_exprs_1 r) (stiQuery_exprs_L0 p0 x3 x14)) := by
 refine iQuery_exprs_J1.mutual_partial_correctness p0 (fun x14 x3_3 r => avc Try.prog aciQuery_exprs_J1 (qiQuery_exprs_2 r) (stiQuery_exprs_J1 p0 x14 x3_3)) (fun x3 x14 r => avc Try.prog aciQuery_exprs_L0 (qiQuery_exprs_1 r) (stiQuery_exprs_L0 p0 x3 x14)) ?_ ?_
 · intro F_iQuery_exprs_L0 OK_iQuery_exprs_L0 x14 x3_3 r h
   delta aciQuery_exprs_J1
   refine oi ?_
   let a11 : St := (stiQuery_exprs_J1 p0 x14 x3_3).p [(14, (vI (IntKind.wrap .i64 (x14 + 1)))), (26, (vI (IntKind.wrap .i64 (x14 + 1))))]
   exact st 2 a11 (ni (loop_back (s' := stiQuery_exprs_L0 p0 x3_3 (IntKind.wrap .i64 (x14 + 1))) (wr [(3, .old 3)] (es (eo 3 (es (es (es er_nil))))) (bs_ br_nil)) (OK_iQuery_exprs_L0 x3_3 (IntKind.wrap .i64 (x14 + 1)) _ h)))
 · intro F_iQuery_exprs_J1 OK_iQuery_exprs_J1 x3 x14 r h
   delta aciQuery_exprs_L0
   refine loop_unroll (so ?_)
   let a4 : St := (stiQuery_exprs_L0 p0 x3 x14).p [(15, (vB (decide (x14 < (ln p0.items)))))]
   refine st 1 a4 (nx (si ?_))
   refine cd h (fun h => ?_) fun h => ?_
   refine ki (xi (si (bi (so (vs (fun (y : GItem) => (.rp (oGItem y))) h (fun y hy => via (l := p0.items) (f := cGItem) (g := oGItem) (k := .i64) hy cGItem_eq) fun y1 h => ?_)))))
   let a5 : St := ⟨(5, (.ptr 5 0)) :: (17, (vGItem y1)) :: (16, (.rp (oGItem y1))) :: a4.env, [(5, bGItem y1), (1, bGQuery p0)]⟩
   refine st 3 a5 (nx (so ?_))
   let a6 : St := a5.p [(20, (vB (!y1.star))), (19, (vB y1.star)), (18, (.ptr 5 0))]
   refine st 3 a6 (nx ?_)
   refine cd h (fun h => ?_) fun h => ?_
   refine oi ?_
   let a7 : St := a6.p [(23, (vGExpr y1.expr)), (22, (.ptr 5 2)), (21, (.osl 3 29 10 (x3.map cGExpr)))]
   refine st 3 a7 (bsl_step (l := ([y1.expr] : List GExpr)) (f := cGExpr) (g := oGExpr) (by kernel_rfl) cGExpr_eq (by kernel_rfl) ?_)
   refine app_step (t := 3) (l := x3) (m := ([y1.expr] : List GExpr)) (f := cGExpr) (S' := fun y => ⟨[(25, (.osl 25 29 10 (y.map cGExpr))), (24, (.osl 24 29 10 (([y1.expr] : List GExpr).map cGExpr))), (23, (vGExpr y1.expr)), (22, (.ptr 5 2)), (21, (.d (.sl 10 (x3.map cGExpr)))), (20, (vB (!y1.star))), (19, (vB y1.star)), (18, (.ptr 5 0)), (5, (.ptr 5 0)), (17, (vGItem y1)), (16, (.rp (oGItem y1))), (15, (vB (decide (x14 < (ln p0.items))))), (1, (.ptr 1 0)), (3, (.d (.sl 10 (x3.map cGExpr)))), (12, (.d (.sl 13 (p0.items.map cGItem)))), (13, (vI (ln p0.items))), (14, (vI x14))], [(5, bGItem y1), (1, bGQuery p0)]⟩) h (by kernel_rfl) (by kernel_rfl) (by kernel_rfl) (by kernel_rfl) (fun y => by kernel_rfl) ?_
   clear h; intro y2 h
   let a8 : St := ⟨[(3, (.osl 3 29 10 (y2.map cGExpr))), (25, (.d (.sl 10 (y2.map cGExpr)))), (24, (.osl 24 29 10 (([y1.expr] : List GExpr).map cGExpr))), (23, (vGExpr y1.expr)), (22, (.ptr 5 2)), (21, (.d (.sl 10 (x3.map cGExpr)))), (20, (vB (!y1.star))), (19, (vB y1.star)), (18, (.ptr 5 0)), (5, (.ptr 5 0)), (17, (vGItem y1)), (16, (.rp (oGItem y1))), (15, (vB (decide (x14 < (ln p0.items))))), (1, (.ptr 1 0)), (3, (.d (.sl 10 (x3.map cGExpr)))), (12, (.d (.sl 13 (p0.items.map cGItem)))), (13, (vI (ln p0.items))), (14, (vI x14))], [(5, bGItem y1), (1, bGQuery p0)]⟩
   exact st 1 a8 (ni (bn (next_step (s' := stiQuery_exprs_J1 p0 x14 y2) (wr [(3, .old 3)] (es (eo 3 (es (es (es er_nil))))) (bs_ br_nil)) (OK_iQuery_exprs_J1 x14 y2 _ h))))
   exact ki (bn (next_step (s' := stiQuery_exprs_J1 p0 x14 x3) (wr [(3, .old 3)] (es (eo 3 (es (es (es er_nil))))) (bs_ br_nil)) (OK_iQuery_exprs_J1 x14 x3 _ h)))
   refine ei (te (te (bh (xi (si (so ?_))))))
   let a9 : St := a4.p [(28, (.d (.sl 3 (p0.from_.map cGSource)))), (27, (.ptr 1 2))]
   refine st 2 a9 (ps (vI (ln p0.from_)) (vln (sz := 3) (l := p0.from_) (f := cGSource)) ?_)
   let a10 : St := a9.p [(30, (vI 0)), (29, (vI (ln p0.from_)))]
   exact st 1 a10 (nx (bi (loop_go (s' := stiQuery_exprs_L2 p0 x3 0) (wr [(3, .old 3)] (es (eo 3 (es (es (es er_nil))))) (bs_ br_nil)) (OK_iQuery_exprs_L2 p0 x3 0 _ h))))
theorem OK_iQuery_exprs_J1 (p0 : GQuery) (x14 : Int) (x3_3 : (List GExpr)) (r : (List GExpr)) (h : iQuery_exprs_J1 p0 x14 x3_3 = some r) : avc Try.prog aciQuery_exprs_J1 (qiQuery_exprs_2 r) (stiQuery_exprs_J1 p0 x14 x3_3) := (OKs_iQuery_exprs_J1 p0).1 x14 x3_3 r h
theorem OK_iQuery_exprs_L0 (p0 : GQuery) (x3 : (List GExpr)) (x14 : Int) (r : (List GExpr)) (h : iQuery_exprs_L0 p0 x3 x14 = some r) : avc Try.prog aciQuery_exprs_L0 (qiQuery_exprs_1 r) (stiQuery_exprs_L0 p0 x3 x14) := (OKs_iQuery_exprs_J1 p0).2 x3 x14 r h
theorem OK_iQuery_exprs (p0 : GQuery) : FOkB Try.prog 43 [(vGQuery p0)] [] (fun (y : (List GExpr)) => (.osl 2000000 29 10 (y.map cGExpr))) (fun (y : (List GExpr)) => []) (iQuery_exprs p0) := by
 intro r h
 rw [iQuery_exprs] at h
 refine aof triQuery_exprs ?_
 show avc Try.prog aciQuery_exprs (qiQuery_exprs _) ⟨[(0, (vGQuery p0))], []⟩
 delta aciQuery_exprs
 refine so ?_
 let a0 : St := ⟨[(2, (.nil 10)), (1, (.ptr 1 0)), (0, (vGQuery p0))], [(1, bGQuery p0)]⟩
 refine st 2 a0 (nx (so (bsl_step (l := ([] : List GExpr)) (f := cGExpr) (g := oGExpr) (by kernel_rfl) cGExpr_eq (by kernel_rfl) ?_)))
 let a1 : St := a0.p [(3, (.osl 3 29 10 (([] : List GExpr).map cGExpr))), (10, (.d (.sl 10 (([] : List GExpr).map cGExpr))))]
 refine st 1 a1 (nx (si (so ?_)))
 let a2 : St := a1.p [(12, (.d (.sl 13 (p0.items.map cGItem)))), (11, (.ptr 1 1))]
 refine st 2 a2 (ps (vI (ln p0.items)) (vln (sz := 13) (l := p0.items) (f := cGItem)) ?_)
 let a3 : St := a2.p [(14, (vI 0)), (13, (vI (ln p0.items)))]
 exact st 1 a3 (nx (bi (loop_go (s' := stiQuery_exprs_L0 p0 ([] : List GExpr) 0) (wr [(3, .old 3)] (es (eo 3 (es (es (es er_nil))))) (bs_ br_nil)) (OK_iQuery_exprs_L0 p0 ([] : List GExpr) 0 _ h))))
theorem OK_iExprsOf (p0 : GStmt) : FOk Try.prog 17 [(vGStmt p0)] (fun y => (.d (.sl 10 (y.map cGExpr)))) (iExprsOf p0) := by
 intro r h
 rw [iExprsOf] at h
 refine aof triExprsOf ?_
 show avc Try.prog aciExprsOf (qiExprsOf _) ⟨[(0, (vGStmt p0))], []⟩
 delta aciExprsOf
 refine so ?_
 let a0 : St := ⟨[(2, (.nil 10)), (1, (.ptr 1 0)), (0, (vGStmt p0))], [(1, bGStmt p0)]⟩
 refine st 2 a0 (nx (so ?_))
 let a1 : St := a0.p [(7, (vGQuery p0.query)), (6, (.ptr 1 1))]
 refine st 2 a1 (callg_step ⟨[], [], [], [], [], [(2000000, 8)], [], [8], []⟩ (m := iQuery_exprs p0.query) (S' := fun (y : (List GExpr)) => ⟨(8, (.osl 8 29 10 (y.map cGExpr))) :: a1.env, a1.bx⟩) h (OK_iQuery_exprs p0.query) (by kernel_rfl) (by kernel_rfl) (by kernel_rfl) (by kernel_rfl) (fun y => by kernel_rfl) (fun y => by kernel_rfl) ?_)
 clear h; intro y1 h
 let a2 : St := a1.p [(3, (.osl 3 29 10 (y1.map cGExpr))), (8, (.d (.sl 10 (y1.map cGExpr))))]
 refine st 1 a2 (nx (si (so ?_)))
 let a3 : St := a2.p [(10, (.d (.sl 1 (p0.rows.map (cSl 10 cGExpr))))), (9, (.ptr 1 8))]
 refine st 2 a3 (ps (vI (ln p0.rows)) (vln (sz := 1) (l := p0.rows) (f := (cSl 10 cGExpr))) ?_)
 let a4 : St := a3.p [(12, (vI 0)), (11, (vI (ln p0.rows)))]
 exact st 1 a4 (nx (bi (loop_go (s' := stiExprsOf_L0 p0 y1 0) (wr [(3, .old 3)] (es (eo 3 (es (es (es er_nil))))) (bs_ br_nil)) (OK_iExprsOf_L0 p0 y1 0 _ h))))
theorem OK_sL1Byte_J0 (p0 : GL1Cur) (x3 : Int) (b1000000_1 : Int) (r : Int × GL1Cur) (h : sL1Byte_J0 p0 x3 b1000000_1 = some r) : avc Try.prog acsL1Byte_J0 (qsL1Byte r) (stsL1Byte_J0 p0 x3 b1000000_1) := by
 rw [sL1Byte_J0] at h
 delta acsL1Byte_J0
 refine so ?_
 let a8 : St := (stsL1Byte_J0 p0 x3 b1000000_1).p [(2, (vI x3)), (57, (vI x3))]
 refine st 2 a8 (nx (ri ?_))
 injection h with h; subst h
 exact ret1_step (v := (vI x3)) (by kernel_rfl) (by kernel_rfl) ⟨by kernel_rfl, by kernel_rfl, trivial⟩
theorem OK_sL1Byte (p0 : GL1Cur) : FOkB Try.prog 147 [(.ptr 1000000 0)] [(1000000, bGL1Cur p0)] (fun (y : Int × GL1Cur) => (vI y.1)) (fun (y : Int × GL1Cur) => [(1000000, bGL1Cur y.2)]) (sL1Byte p0) := by
 intro r h
 rw [sL1Byte] at h
 refine acalls_of_fn trsL1Byte (Nat.le_of_ble_eq_true rfl) (by intro n hn; simp at hn; simp only [NX]; omega) ?_
 show avc Try.prog acsL1Byte (qsL1Byte _) ⟨[(0, (.ptr 1000000 0))], [(1000000, bGL1Cur p0)]⟩
 delta acsL1Byte
 refine so ?_
 let a0 : St := ⟨[(2, (vI 0)), (0, (.ptr 1000000 0))], [(1000000, bGL1Cur p0)]⟩
 refine st 1 a0 (nx (so ?_))
 let a1 : St := ⟨(12, (.ptr 1000000 2)) :: (11, (.ptr 1000000 0)) :: (10, (vI (IntKind.wrap .i64 ((IntKind.wrap .i64 (p0.h * 6364136223846793005)) + 1442695040888963407)))) :: (9, (vI (IntKind.wrap .i64 (p0.h * 6364136223846793005)))) :: (8, (vI p0.h)) :: (7, (.ptr 1000000 2)) :: (6, (.ptr 1000000 0)) :: (5, (.ptr 1000000 0)) :: (4, (.ptr 1000000 0)) :: a0.env, [(1000000, bGL1Cur (GL1Cur.mk p0.b p0.i (IntKind.wrap .i64 ((IntKind.wrap .i64 (p0.h * 6364136223846793005)) + 1442695040888963407))))]⟩
 refine st 10 a1 (nx (si (dops_in ?_)))
 let a2 : St := a1.p [(3, (vI (IntKind.wrap .i64 ((BitVec.ofInt (IntKind.bits .i64) (IntKind.wrap .i64 ((BitVec.ofInt (IntKind.bits .i64) (Int.fdiv (IntKind.wrap .i64 ((IntKind.wrap .i64 (p0.h * 6364136223846793005)) + 1442695040888963407)) (2 ^ 33)) ^^^ BitVec.ofInt (IntKind.bits .i64) (Int.fdiv (IntKind.wrap .i64 ((IntKind.wrap .i64 (p0.h * 6364136223846793005)) + 1442695040888963407)) (2 ^ 45))).toNat : Int)) &&& BitVec.ofInt (IntKind.bits .i64) 255).toNat : Int)))), (24, (vI (IntKind.wrap .i64 ((BitVec.ofInt (IntKind.bits .i64) (IntKind.wrap .i64 ((BitVec.ofInt (IntKind.bits .i64) (Int.fdiv (IntKind.wrap .i64 ((IntKind.wrap .i64 (p0.h * 6364136223846793005)) + 1442695040888963407)) (2 ^ 33)) ^^^ BitVec.ofInt (IntKind.bits .i64) (Int.fdiv (IntKind.wrap .i64 ((IntKind.wrap .i64 (p0.h * 6364136223846793005)) + 1442695040888963407)) (2 ^ 45))).toNat : Int)) &&& BitVec.ofInt (IntKind.bits .i64) 255).toNat : Int)))), (23, (vI (IntKind.wrap .i64 ((BitVec.ofInt (IntKind.bits .i64) (Int.fdiv (IntKind.wrap .i64 ((IntKind.wrap .i64 (p0.h * 6364136223846793005)) + 1442695040888963407)) (2 ^ 33)) ^^^ BitVec.ofInt (IntKind.bits .i64) (Int.fdiv (IntKind.wrap .i64 ((IntKind.wrap .i64 (p0.h * 6364136223846793005)) + 1442695040888963407)) (2 ^ 45))).toNat : Int)))), (22, (vI (Int.fdiv (IntKind.wrap .i64 ((IntKind.wrap .i64 (p0.h * 6364136223846793005)) + 1442695040888963407)) (2 ^ 45)))), (21, (vI (IntKind.wrap .i64 ((IntKind.wrap .i64 (p0.h * 6364136223846793005)) + 1442695040888963407)))), (20, (.ptr 1000000 2)), (19, (.ptr 1000000 0)), (18, (.ptr 1000000 0)), (17, (vI (Int.fdiv (IntKind.wrap .i64 ((IntKind.wrap .i64 (p0.h * 6364136223846793005)) + 1442695040888963407)) (2 ^ 33)))), (16, (vI (IntKind.wrap .i64 ((IntKind.wrap .i64 (p0.h * 6364136223846793005)) + 1442695040888963407)))), (15, (.ptr 1000000 2)), (14, (.ptr 1000000 0)), (13, (.ptr 1000000 0))]
 refine dsts_ok 13 (s' := a2) (by kernel_rfl) (dnil_in (by kernel_rfl) (by kernel_rfl) (xi (si (si (dops_in ?_)))))
 let a3 : St := a2.p [(32, (.d (.sl 1 (p0.b.map cU8)))), (31, (.ptr 1000000 0)), (30, (.ptr 1000000 0)), (29, (.ptr 1000000 0)), (28, (vI p0.i)), (27, (.ptr 1000000 1)), (26, (.ptr 1000000 0)), (25, (.ptr 1000000 0))]
 refine dsts_ok 8 (s' := a3) (by kernel_rfl) (dp_step (v' := (vI (ln p0.b))) rfl rfl (vln (sz := 1) (l := p0.b) (f := cU8)) ?_)
 let a4 : St := a3.p [(34, (vB (decide (p0.i < (ln p0.b))))), (33, (vI (ln p0.b)))]
 refine dsts_ok 1 (s' := a4) (by kernel_rfl) (dnil_in (by kernel_rfl) (by kernel_rfl) (xi ?_))
 refine cd h (fun h => ?_) fun h => ?_
 refine si (dops_in ?_)
 let a5 : St := a4.p [(43, (vI p0.i)), (42, (.ptr 1000000 1)), (41, (.ptr 1000000 0)), (40, (.ptr 1000000 0)), (39, (.d (.sl 1 (p0.b.map cU8)))), (38, (.ptr 1000000 0)), (37, (.ptr 1000000 0)), (36, (.ptr 1000000 0)), (35, (vI (IntKind.wrap .i64 ((BitVec.ofInt (IntKind.bits .i64) (IntKind.wrap .i64 ((BitVec.ofInt (IntKind.bits .i64) (Int.fdiv (IntKind.wrap .i64 ((IntKind.wrap .i64 (p0.h * 6364136223846793005)) + 1442695040888963407)) (2 ^ 33)) ^^^ BitVec.ofInt (IntKind.bits .i64) (Int.fdiv (IntKind.wrap .i64 ((IntKind.wrap .i64 (p0.h * 6364136223846793005)) + 1442695040888963407)) (2 ^ 45))).toNat : Int)) &&& BitVec.ofInt (IntKind.bits .i64) 255).toNat : Int))))]
 refine dsts_ok 9 (s' := a5) (by kernel_rfl) (dv_step (m := idx p0.b p0.i) (v' := fun y => (.rp [(.i .u8 y)])) h rfl rfl (fun y hy => via (l := p0.b) (f := cU8) (g := cU8) (k := .i64) hy (fun _ => rfl)) ?_)
 clear h; intro y1 h
 let a6 : St := a5.p [(3, (vI (IntKind.wrap .i64 ((BitVec.ofInt (IntKind.bits .i64) (IntKind.wrap .i64 ((IntKind.wrap .i64 ((BitVec.ofInt (IntKind.bits .i64) (IntKind.wrap .i64 ((BitVec.ofInt (IntKind.bits .i64) (Int.fdiv (IntKind.wrap .i64 ((IntKind.wrap .i64 (p0.h * 6364136223846793005)) + 1442695040888963407)) (2 ^ 33)) ^^^ BitVec.ofInt (IntKind.bits .i64) (Int.fdiv (IntKind.wrap .i64 ((IntKind.wrap .i64 (p0.h * 6364136223846793005)) + 1442695040888963407)) (2 ^ 45))).toNat : Int)) &&& BitVec.ofInt (IntKind.bits .i64) 255).toNat : Int)) + (IntKind.wrap .i64 y1))) &&& BitVec.ofInt (IntKind.bits .i64) 255).toNat : Int)))), (48, (vI (IntKind.wrap .i64 ((BitVec.ofInt (IntKind.bits .i64) (IntKind.wrap .i64 ((IntKind.wrap .i64 ((BitVec.ofInt (IntKind.bits .i64) (IntKind.wrap .i64 ((BitVec.ofInt (IntKind.bits .i64) (Int.fdiv (IntKind.wrap .i64 ((IntKind.wrap .i64 (p0.h * 6364136223846793005)) + 1442695040888963407)) (2 ^ 33)) ^^^ BitVec.ofInt (IntKind.bits .i64) (Int.fdiv (IntKind.wrap .i64 ((IntKind.wrap .i64 (p0.h * 6364136223846793005)) + 1442695040888963407)) (2 ^ 45))).toNat : Int)) &&& BitVec.ofInt (IntKind.bits .i64) 255).toNat : Int)) + (IntKind.wrap .i64 y1))) &&& BitVec.ofInt (IntKind.bits .i64) 255).toNat : Int)))), (47, (vI (IntKind.wrap .i64 ((IntKind.wrap .i64 ((BitVec.ofInt (IntKind.bits .i64) (IntKind.wrap .i64 ((BitVec.ofInt (IntKind.bits .i64) (Int.fdiv (IntKind.wrap .i64 ((IntKind.wrap .i64 (p0.h * 6364136223846793005)) + 1442695040888963407)) (2 ^ 33)) ^^^ BitVec.ofInt (IntKind.bits .i64) (Int.fdiv (IntKind.wrap .i64 ((IntKind.wrap .i64 (p0.h * 6364136223846793005)) + 1442695040888963407)) (2 ^ 45))).toNat : Int)) &&& BitVec.ofInt (IntKind.bits .i64) 255).toNat : Int)) + (IntKind.wrap .i64 y1))))), (46, (vI (IntKind.wrap .i64 y1))), (45, (.d (.i .u8 y1))), (44, (.rp [(.i .u8 y1)]))]
 refine dsts_ok 5 (s' := a6) (by kernel_rfl) (dnil_in (by kernel_rfl) (by kernel_rfl) (xi (oi ?_)))
 let a7 : St := ⟨(56, (.ptr 1000000 1)) :: (55, (.ptr 1000000 0)) :: (54, (vI (IntKind.wrap .i64 (p0.i + 1)))) :: (53, (vI p0.i)) :: (52, (.ptr 1000000 1)) :: (51, (.ptr 1000000 0)) :: (50, (.ptr 1000000 0)) :: (49, (.ptr 1000000 0)) :: a6.env, [(1000000, bGL1Cur (GL1Cur.mk p0.b (IntKind.wrap .i64 (p0.i + 1)) (IntKind.wrap .i64 ((IntKind.wrap .i64 (p0.h * 6364136223846793005)) + 1442695040888963407))))]⟩
 refine st 9 a7 (ni ?_)
 exact next_step (s' := stsL1Byte_J0 p0 (IntKind.wrap .i64 ((BitVec.ofInt (IntKind.bits .i64) (IntKind.wrap .i64 ((IntKind.wrap .i64 ((BitVec.ofInt (IntKind.bits .i64) (IntKind.wrap .i64 ((BitVec.ofInt (IntKind.bits .i64) (Int.fdiv (IntKind.wrap .i64 ((IntKind.wrap .i64 (p0.h * 6364136223846793005)) + 1442695040888963407)) (2 ^ 33)) ^^^ BitVec.ofInt (IntKind.bits .i64) (Int.fdiv (IntKind.wrap .i64 ((IntKind.wrap .i64 (p0.h * 6364136223846793005)) + 1442695040888963407)) (2 ^ 45))).toNat : Int)) &&& BitVec.ofInt (IntKind.bits .i64) 255).toNat : Int)) + (IntKind.wrap .i64 y1))) &&& BitVec.ofInt (IntKind.bits .i64) 255).toNat : Int)) (IntKind.wrap .i64 (p0.i + 1))) (wr [] (es er_nil) (bs_ br_nil)) (OK_sL1Byte_J0 p0 (IntKind.wrap .i64 ((BitVec.ofInt (IntKind.bits .i64) (IntKind.wrap .i64 ((IntKind.wrap .i64 ((BitVec.ofInt (IntKind.bits .i64) (IntKind.wrap .i64 ((BitVec.ofInt (IntKind.bits .i64) (Int.fdiv (IntKind.wrap .i64 ((IntKind.wrap .i64 (p0.h * 6364136223846793005)) + 1442695040888963407)) (2 ^ 33)) ^^^ BitVec.ofInt (IntKind.bits .i64) (Int.fdiv (IntKind.wrap .i64 ((IntKind.wrap .i64 (p0.h * 6364136223846793005)) + 1442695040888963407)) (2 ^ 45))).toNat : Int)) &&& BitVec.ofInt (IntKind.bits .i64) 255).toNat : Int)) + (IntKind.wrap .i64 y1))) &&& BitVec.ofInt (IntKind.bits .i64) 255).toNat : Int)) (IntKind.wrap .i64 (p0.i + 1)) _ h)
 refine ki ?_
 exact next_step (s' := stsL1Byte_J0 p0 (IntKind.wrap .i64 ((BitVec.ofInt (IntKind.bits .i64) (IntKind.wrap .i64 ((BitVec.ofInt (IntKind.bits .i64) (Int.fdiv (IntKind.wrap .i64 ((IntKind.wrap .i64 (p0.h * 6364136223846793005)) + 1442695040888963407)) (2 ^ 33)) ^^^ BitVec.ofInt (IntKind.bits .i64) (Int.fdiv (IntKind.wrap .i64 ((IntKind.wrap .i64 (p0.h * 6364136223846793005)) + 1442695040888963407)) (2 ^ 45))).toNat : Int)) &&& BitVec.ofInt (IntKind.bits .i64) 255).toNat : Int)) p0.i) (wr [] (es er_nil) (bs_ br_nil)) (OK_sL1Byte_J0 p0 (IntKind.wrap .i64 ((BitVec.ofInt (IntKind.bits .i64) (IntKind.wrap .i64 ((BitVec.ofInt (IntKind.bits .i64) (Int.fdiv (IntKind.wrap .i64 ((IntKind.wrap .i64 (p0.h * 6364136223846793005)) + 1442695040888963407)) (2 ^ 33)) ^^^ BitVec.ofInt (IntKind.bits .i64) (Int.fdiv (IntKind.wrap .i64 ((IntKind.wrap .i64 (p0.h * 6364136223846793005)) + 1442695040888963407)) (2 ^ 45))).toNat : Int)) &&& BitVec.ofInt (IntKind.bits .i64) 255).toNat : Int)) p0.i _ h)
theorem OK_sL1Below (p0 : GL1Cur) (p1 : Int) : FOkB Try.prog 86 [(.ptr 1000000 0), (vI p1)] [(1000000, bGL1Cur p0)] (fun (y : Int × GL1Cur) => (vI y.1)) (fun (y : Int × GL1Cur) => [(1000000, bGL1Cur y.2)]) (sL1Below p0 p1) := by
 intro r h
 rw [sL1Below] at h
 refine acalls_of_fn trsL1Below (Nat.le_of_ble_eq_true rfl) (by intro n hn; simp at hn; simp only [NX]; omega) ?_
 show avc Try.prog acsL1Below (qsL1Below _) ⟨[(0, (.ptr 1000000 0)), (1, (vI p1))], [(1000000, bGL1Cur p0)]⟩
 delta acsL1Below
 refine so ?_
 let a0 : St := ⟨[(4, (vI 0)), (0, (.ptr 1000000 0)), (1, (vI p1))], [(1000000, bGL1Cur p0)]⟩
 refine st 1 a0 (nx (si (so ?_)))
 let a1 : St := a0.p [(10, (vB (decide (p1 ≤ 0)))), (9, (vI p1))]
 refine st 2 a1 (nx ?_)
 refine cd h (fun h => ?_) fun h => ?_
 refine so ?_
 let a2 : St := a1.p [(4, (vI 0))]
 refine st 1 a2 (nx (ri (tr ?_)))
 injection h with h; subst h
 exact ret1_step (v := (vI 0)) (by kernel_rfl) (by kernel_rfl) ⟨by kernel_rfl, by kernel_rfl, trivial⟩
 refine ki (xi (si (so ?_)))
 let a3 : St := a1.p [(12, (vB (decide (p1 ≤ 256)))), (11, (vI p1))]
 refine st 2 a3 (nx ?_)
 refine cd h (fun h => ?_) fun h => ?_
 refine so ?_
 let a4 : St := a3.p [(13, (.ptr 1000000 0))]
 refine st 1 a4 (callg_step ⟨[(1000000, 1000000)], [], [], [], [], [], [], [], []⟩ (m := sL1Byte p0) (S' := fun (y : Int × GL1Cur) => ⟨(14, (vI y.1)) :: a4.env, [(1000000, bGL1Cur y.2)]⟩) h (OK_sL1Byte p0) (by kernel_rfl) (by kernel_rfl) (by kernel_rfl) (by kernel_rfl) (fun y => by kernel_rfl) (fun y => by kernel_rfl) ?_)
 clear h; intro y1 h
 let a5 : St := ⟨(15, (vI p1)) :: (14, (vI y1.1)) :: a4.env, [(1000000, bGL1Cur y1.2)]⟩
 refine st 1 a5 (vs (fun (y : Int) => (vI y)) h (fun y hy => vop_rem (k := .i64) (a := y1.1) (b := p1) hy (by kernel_rfl) (by kernel_rfl) (by kernel_rfl)) fun y2 h => ?_)
 let a6 : St := a5.p [(4, (vI y2)), (16, (vI y2))]
 refine st 1 a6 (nx (ri (tr ?_)))
 injection h with h; subst h
 exact ret1_step (v := (vI y2)) (by kernel_rfl) (by kernel_rfl) ⟨by kernel_rfl, by kernel_rfl, trivial⟩
 refine ki (xi (so ?_))
 let a7 : St := a3.p [(17, (.ptr 1000000 0))]
 refine st 1 a7 (callg_step ⟨[(1000000, 1000000)], [], [], [], [], [], [], [], []⟩ (m := sL1Byte p0) (S' := fun (y : Int × GL1Cur) => ⟨(18, (vI y.1)) :: a7.env, [(1000000, bGL1Cur y.2)]⟩) h (OK_sL1Byte p0) (by kernel_rfl) (by kernel_rfl) (by kernel_rfl) (by kernel_rfl) (fun y => by kernel_rfl) (fun y => by kernel_rfl) ?_)
 clear h; intro y3 h
 let a8 : St := ⟨(5, (vI y3.1)) :: (18, (vI y3.1)) :: a7.env, [(1000000, bGL1Cur y3.2)]⟩
 refine st 1 a8 (nx (so ?_))
 let a9 : St := a8.p [(19, (.ptr 1000000 0))]
 refine st 1 a9 (callg_step ⟨[(1000000, 1000000)], [], [], [], [], [], [], [], []⟩ (m := sL1Byte y3.2) (S' := fun (y : Int × GL1Cur) => ⟨(20, (vI y.1)) :: a9.env, [(1000000, bGL1Cur y.2)]⟩) h (OK_sL1Byte y3.2) (by kernel_rfl) (by kernel_rfl) (by kernel_rfl) (by kernel_rfl) (fun y => by kernel_rfl) (fun y => by kernel_rfl) ?_)
 clear h; intro y4 h
 let a10 : St := ⟨(6, (vI y4.1)) :: (20, (vI y4.1)) :: a9.env, [(1000000, bGL1Cur y4.2)]⟩
 refine st 1 a10 (nx (so ?_))
 let a11 : St := a10.p [(21, (.ptr 1000000 0))]
 refine st 1 a11 (callg_step ⟨[(1000000, 1000000)], [], [], [], [], [], [], [], []⟩ (m := sL1Byte y4.2) (S' := fun (y : Int × GL1Cur) => ⟨(22, (vI y.1)) :: a11.env, [(1000000, bGL1Cur y.2)]⟩) h (OK_sL1Byte y4.2) (by kernel_rfl) (by kernel_rfl) (by kernel_rfl) (by kernel_rfl) (fun y => by kernel_rfl) (fun y => by kernel_rfl) ?_)
 clear h; intro y5 h
 let a12 : St := ⟨(7, (vI y5.1)) :: (22, (vI y5.1)) :: a11.env, [(1000000, bGL1Cur y5.2)]⟩
 refine st 1 a12 (nx (so ?_))
 let a13 : St := a12.p [(23, (.ptr 1000000 0))]
 refine st 1 a13 (callg_step ⟨[(1000000, 1000000)], [], [], [], [], [], [], [], []⟩ (m := sL1Byte y5.2) (S' := fun (y : Int × GL1Cur) => ⟨(24, (vI y.1)) :: a13.env, [(1000000, bGL1Cur y.2)]⟩) h (OK_sL1Byte y5.2) (by kernel_rfl) (by kernel_rfl) (by kernel_rfl) (by kernel_rfl) (fun y => by kernel_rfl) (fun y => by kernel_rfl) ?_)
 clear h; intro y6 h
 let a14 : St := ⟨(8, (vI y6.1)) :: (24, (vI y6.1)) :: a13.env, [(1000000, bGL1Cur y6.2)]⟩
 refine st 1 a14 (nx (so ?_))
 let a15 : St := a14.p [(35, (vI p1)), (34, (vI (IntKind.wrap .i64 ((IntKind.wrap .i64 ((IntKind.wrap .i64 ((IntKind.wrap .i64 (y3.1 * 16777216)) + (IntKind.wrap .i64 (y4.1 * 65536)))) + (IntKind.wrap .i64 (y5.1 * 256)))) + y6.1)))), (33, (vI y6.1)), (32, (vI (IntKind.wrap .i64 ((IntKind.wrap .i64 ((IntKind.wrap .i64 (y3.1 * 16777216)) + (IntKind.wrap .i64 (y4.1 * 65536)))) + (IntKind.wrap .i64 (y5.1 * 256)))))), (31, (vI (IntKind.wrap .i64 (y5.1 * 256)))), (30, (vI y5.1)), (29, (vI (IntKind.wrap .i64 ((IntKind.wrap .i64 (y3.1 * 16777216)) + (IntKind.wrap .i64 (y4.1 * 65536)))))), (28, (vI (IntKind.wrap .i64 (y4.1 * 65536)))), (27, (vI y4.1)), (26, (vI (IntKind.wrap .i64 (y3.1 * 16777216)))), (25, (vI y3.1))]
 refine st 11 a15 (vs (fun (y : Int) => (vI y)) h (fun y hy => vop_rem (k := .i64) (a := (IntKind.wrap .i64 ((IntKind.wrap .i64 ((IntKind.wrap .i64 ((IntKind.wrap .i64 (y3.1 * 16777216)) + (IntKind.wrap .i64 (y4.1 * 65536)))) + (IntKind.wrap .i64 (y5.1 * 256)))) + y6.1))) (b := p1) hy (by kernel_rfl) (by kernel_rfl) (by kernel_rfl)) fun y7 h => ?_)
 let a16 : St := a15.p [(4, (vI y7)), (36, (vI y7))]
 refine st 1 a16 (nx (ri ?_))
 injection h with h; subst h
 exact ret1_step (v := (vI y7)) (by kernel_rfl) (by kernel_rfl) ⟨by kernel_rfl, by kernel_rfl, trivial⟩
theorem OKs_sL1New_L0 (p0 : (List Int)) : (∀ (x3 : Int) (x4 : Int) (r : GL1Cur), sL1New_L0 p0 x3 x4 = some r → avc Try.prog acsL1New_L0 (qsL1New_1 r) (stsL1New_L0 p0 x3 x4)) := by
 refine sL1New_L0.partial_correctness p0 (fun x3 x4 r => avc Try.prog acsL1New_L0 (qsL1New_1 r) (stsL1New_L0 p0 x3 x4)) ?_
 · intro F_sL1New_L0 OK_sL1New_L0 x3 x4 r h
   delta acsL1New_L0
   refine loop_unroll (si (so ?_))
   let a4 : St := (stsL1New_L0 p0 x3 x4).p [(9, (.d (.sl 1 (p0.map cU8)))), (8, (vI x4))]
   refine st 2 a4 (ps (vI (ln p0)) (vln (sz := 1) (l := p0) (f := cU8)) ?_)
   let a5 : St := a4.p [(12, (vB (decide (x4 < (ln p0))))), (11, (vB (decide (x4 < (ln p0))))), (10, (vI (ln p0)))]
   refine st 2 a5 (gp true (decide (x4 < (ln p0))) (vI x4) (fun hc => vl) (gp true (decide (x4 < (ln p0))) (vB (decide (x4 < 4000))) (fun hc => vg hc) ?_))
   refine vs (fun (y : Bool) => (vB y)) h (fun y hy => vop_pickV hy (p := (true && ((decide (x4 < (ln p0))) == true))) (q := true) (by kernel_rfl) (by kernel_rfl) (by kernel_rfl) (by kernel_rfl) (fun hb => gc_t rfl hb) (fun _ => rfl)) fun y1 h => (nx ?_)
   refine cd h (fun h => ?_) fun h => ?_
   refine ki (xi (si (bi (oi ?_))))
   let a6 : St := a5.p [(21, (vI x4)), (20, (.d (.sl 1 (p0.map cU8)))), (19, (vI (IntKind.wrap .i64 (x3 * 131)))), (18, (vI x3)), (15, (vB y1)), (14, (.ite (true && ((decide (x4 < (ln p0))) == true)) (vB (decide (x4 < 4000))))), (13, (.ite (true && ((decide (x4 < (ln p0))) == true)) (vI x4)))]
   refine st 4 a6 (vs (fun (y : Int) => (.rp [(.i .u8 y)])) h (fun y hy => via (l := p0) (f := cU8) (g := cU8) (k := .i64) hy (fun _ => rfl)) fun y2 h => ?_)
   let a7 : St := a6.p [(3, (vI (IntKind.wrap .i64 ((BitVec.ofInt (IntKind.bits .i64) (IntKind.wrap .i64 ((IntKind.wrap .i64 ((IntKind.wrap .i64 (x3 * 131)) + (IntKind.wrap .i64 y2))) + 7)) &&& BitVec.ofInt (IntKind.bits .i64) 1073741823).toNat : Int)))), (27, (vI (IntKind.wrap .i64 ((BitVec.ofInt (IntKind.bits .i64) (IntKind.wrap .i64 ((IntKind.wrap .i64 ((IntKind.wrap .i64 (x3 * 131)) + (IntKind.wrap .i64 y2))) + 7)) &&& BitVec.ofInt (IntKind.bits .i64) 1073741823).toNat : Int)))), (26, (vI (IntKind.wrap .i64 ((IntKind.wrap .i64 ((IntKind.wrap .i64 (x3 * 131)) + (IntKind.wrap .i64 y2))) + 7)))), (25, (vI (IntKind.wrap .i64 ((IntKind.wrap .i64 (x3 * 131)) + (IntKind.wrap .i64 y2))))), (24, (vI (IntKind.wrap .i64 y2))), (23, (.d (.i .u8 y2))), (22, (.rp [(.i .u8 y2)]))]
   refine st 6 a7 (ni (bn (xi (oi ?_))))
   let a8 : St := a7.p [(4, (vI (IntKind.wrap .i64 (x4 + 1)))), (17, (vI (IntKind.wrap .i64 (x4 + 1)))), (16, (vI x4))]
   refine st 3 a8 (ni ?_)
   exact loop_back (s' := stsL1New_L0 p0 (IntKind.wrap .i64 ((BitVec.ofInt (IntKind.bits .i64) (IntKind.wrap .i64 ((IntKind.wrap .i64 ((IntKind.wrap .i64 (x3 * 131)) + (IntKind.wrap .i64 y2))) + 7)) &&& BitVec.ofInt (IntKind.bits .i64) 1073741823).toNat : Int)) (IntKind.wrap .i64 (x4 + 1))) (wr [] (es (es (es er_nil))) br_nil) (OK_sL1New_L0 (IntKind.wrap .i64 ((BitVec.ofInt (IntKind.bits .i64) (IntKind.wrap .i64 ((IntKind.wrap .i64 ((IntKind.wrap .i64 (x3 * 131)) + (IntKind.wrap .i64 y2))) + 7)) &&& BitVec.ofInt (IntKind.bits .i64) 1073741823).toNat : Int)) (IntKind.wrap .i64 (x4 + 1)) _ h)
   refine ei (te (te (bh (xi (so ?_)))))
   let a9 : St := ⟨(2, (.ptr 31 0)) :: (31, (.ptr 31 0)) :: (30, (vGL1Cur (GL1Cur.mk p0 0 x3))) :: (29, (vI x3)) :: (28, (.d (.sl 1 (p0.map cU8)))) :: (15, (vB y1)) :: (14, (.ite (true && ((decide (x4 < (ln p0))) == true)) (vB (decide (x4 < 4000))))) :: (13, (.ite (true && ((decide (x4 < (ln p0))) == true)) (vI x4))) :: a5.env, [(31, bGL1Cur (GL1Cur.mk p0 0 x3))]⟩
   refine st 5 a9 (nx (ri ?_))
   injection h with h; subst h
   exact ret1_step (v := (.ptr 31 0)) (by kernel_rfl) (by kernel_rfl) ⟨by kernel_rfl, by kernel_rfl, trivial⟩
theorem OK_sL1New_L0 (p0 : (List Int)) (x3 : Int) (x4 : Int) (r : GL1Cur) (h : sL1New_L0 p0 x3 x4 = some r) : avc Try.prog acsL1New_L0 (qsL1New_1 r) (stsL1New_L0 p0 x3 x4) := (OKs_sL1New_L0 p0) x3 x4 r h
theorem OK_sL1New (p0 : (List Int)) : FOkB Try.prog 82 [(.d (.sl 1 (p0.map cU8)))] [] (fun (y : GL1Cur) => (.ptr 31 0)) (fun (y : GL1Cur) => [(31, bGL1Cur y)]) (sL1New p0) := by
 intro r h
 rw [sL1New] at h
 refine aof trsL1New ?_
 show avc Try.prog acsL1New (qsL1New _) ⟨[(0, (.d (.sl 1 (p0.map cU8))))], []⟩
 delta acsL1New
 refine so ?_
 let a0 : St := ⟨[(2, .np), (0, (.d (.sl 1 (p0.map cU8))))], []⟩
 refine st 1 a0 (nx (so ?_))
 let a1 : St := a0.p [(5, (.d (.sl 1 (p0.map cU8))))]
 refine st 1 a1 (ps (vI (ln p0)) (vln (sz := 1) (l := p0) (f := cU8)) ?_)
 let a2 : St := a1.p [(3, (vI (IntKind.wrap .i64 (28322 + (ln p0))))), (7, (vI (IntKind.wrap .i64 (28322 + (ln p0))))), (6, (vI (ln p0)))]
 refine st 2 a2 (nx (si (so ?_)))
 let a3 : St := a2.p [(4, (vI 0))]
 exact st 1 a3 (nx (bi (loop_go (s' := stsL1New_L0 p0 (IntKind.wrap .i64 (28322 + (ln p0))) 0) (wr [] (es (es (es er_nil))) br_nil) (OK_sL1New_L0 p0 (IntKind.wrap .i64 (28322 + (ln p0))) 0 _ h))))
theorem OK_sL1Size (p0 : (List Int)) (p1 : Int) : FOk Try.prog 87 [(.d (.sl 1 (p0.map cU8))), (vI p1)] (fun y => (vI y)) (sL1Size p0 p1) := by
 intro r h
 rw [sL1Size] at h
 refine aof trsL1Size ?_
 show avc Try.prog acsL1Size (qsL1Size _) ⟨[(0, (.d (.sl 1 (p0.map cU8)))), (1, (vI p1))], []⟩
 delta acsL1Size
 refine so ?_
 let a0 : St := ⟨[(4, (vI 0)), (0, (.d (.sl 1 (p0.map cU8)))), (1, (vI p1))], []⟩
 refine st 1 a0 (nx (so ?_))
 let a1 : St := a0.p [(6, (.d (.sl 1 (p0.map cU8))))]
 refine st 1 a1 (ps (vI (ln p0)) (vln (sz := 1) (l := p0) (f := cU8)) ?_)
 let a2 : St := a1.p [(5, (vI (IntKind.wrap .i64 (2 + (IntKind.wrap .i64 (Int.tdiv (ln p0) 20)))))), (9, (vI (IntKind.wrap .i64 (2 + (IntKind.wrap .i64 (Int.tdiv (ln p0) 20)))))), (8, (vI (IntKind.wrap .i64 (Int.tdiv (ln p0) 20)))), (7, (vI (ln p0)))]
 refine st 3 a2 (nx (si (so ?_)))
 let a3 : St := a2.p [(12, (vB (decide (p1 < (IntKind.wrap .i64 (2 + (IntKind.wrap .i64 (Int.tdiv (ln p0) 20)))))))), (11, (vI p1)), (10, (vI (IntKind.wrap .i64 (2 + (IntKind.wrap .i64 (Int.tdiv (ln p0) 20))))))]
 refine st 3 a3 (nx ?_)
 refine cd h (fun h => ?_) fun h => ?_
 refine so ?_
 let a4 : St := a3.p [(4, (vI p1)), (13, (vI p1))]
 refine st 2 a4 (nx (ri (tr ?_)))
 injection h with h; subst h
 exact r1 (v := (vI p1))
 refine ki (xi (so ?_))
 let a5 : St := a3.p [(4, (vI (IntKind.wrap .i64 (2 + (IntKind.wrap .i64 (Int.tdiv (ln p0) 20)))))), (14, (vI (IntKind.wrap .i64 (2 + (IntKind.wrap .i64 (Int.tdiv (ln p0) 20))))))]
 refine st 2 a5 (nx (ri ?_))
 injection h with h; subst h
 exact r1 (v := (vI (IntKind.wrap .i64 (2 + (IntKind.wrap .i64 (Int.tdiv (ln p0) 20))))))
theorem OKs_sL1Bytes_L0 (p1 : Int) : (∀ (x5 : (List Int)) (x6 : Int) (b1000000_0 : (List Int)) (b1000000_1 : Int) (b1000000_2 : Int) (r : (List Int) × GL1Cur), sL1Bytes_L0 p1 x5 x6 b1000000_0 b1000000_1 b1000000_2 = some r → avc Try.prog acsL1Bytes_L0 (qsL1Bytes_1 r) (stsL1Bytes_L0 p1 x5 x6 b1000000_0 b1000000_1 b1000000_2)) := by
 refine sL1Bytes_L0.partial_correctness p1 (fun x5 x6 b1000000_0 b1000000_1 b1000000_2 r => avc Try.prog acsL1Bytes_L0 (qsL1Bytes_1 r) (stsL1Bytes_L0 p1 x5 x6 b1000000_0 b1000000_1 b1000000_2)) ?_
 · intro F_sL1Bytes_L0 OK_sL1Bytes_L0 x5 x6 b1000000_0 b1000000_1 b1000000_2 r h
   delta acsL1Bytes_L0
   refine loop_unroll (si (so ?_))
   let a3 : St := (stsL1Bytes_L0 p1 x5 x6 b1000000_0 b1000000_1 b1000000_2).p [(10, (vB (decide (x6 < p1)))), (9, (vI p1)), (8, (vI x6))]
   refine st 3 a3 (nx ?_)
   refine cd h (fun h => ?_) fun h => ?_
   refine ki (xi (si (bi (oi ?_))))
   let a4 : St := a3.p [(14, (.ptr 1000000 0)), (13, (.osl 5 5 1 (x5.map cU8)))]
   refine st 2 a4 (callg_step ⟨[(1000000, 1000000)], [], [], [], [], [], [], [], []⟩ (m := sL1Byte (GL1Cur.mk b1000000_0 b1000000_1 b1000000_2)) (S' := fun (y : Int × GL1Cur) => ⟨(15, (vI y.1)) :: a4.env, [(1000000, bGL1Cur y.2)]⟩) h (OK_sL1Byte (GL1Cur.mk b1000000_0 b1000000_1 b1000000_2)) (by kernel_rfl) (by kernel_rfl) (by kernel_rfl) (by kernel_rfl) (fun y => by kernel_rfl) (fun y => by kernel_rfl) ?_)
   clear h; intro y1 h
   let a5 : St := ⟨(16, (.d (.i .u8 (IntKind.wrap .u8 y1.1)))) :: (15, (vI y1.1)) :: a4.env, [(1000000, bGL1Cur y1.2)]⟩
   refine st 1 a5 (bsl_step (l := ([(IntKind.wrap .u8 y1.1)] : List Int)) (f := cU8) (g := cU8) (by kernel_rfl) (fun _ => rfl) (by kernel_rfl) ?_)
   refine app_step (t := 5) (l := x5) (m := ([(IntKind.wrap .u8 y1.1)] : List Int)) (f := cU8) (S' := fun y => ⟨[(18, (.osl 18 5 1 (y.map cU8))), (17, (.osl 17 5 1 (([(IntKind.wrap .u8 y1.1)] : List Int).map cU8))), (16, (.d (.i .u8 (IntKind.wrap .u8 y1.1)))), (15, (vI y1.1)), (14, (.ptr 1000000 0)), (13, (.d (.sl 1 (x5.map cU8)))), (10, (vB (decide (x6 < p1)))), (9, (vI p1)), (8, (vI x6)), (0, (.ptr 1000000 0)), (1, (vI p1)), (5, (.d (.sl 1 (x5.map cU8)))), (6, (vI x6))], [(1000000, bGL1Cur y1.2)]⟩) h (by kernel_rfl) (by kernel_rfl) (by kernel_rfl) (by kernel_rfl) (fun y => by kernel_rfl) ?_
   clear h; intro y2 h
   let a6 : St := ⟨[(5, (.osl 5 5 1 (y2.map cU8))), (18, (.d (.sl 1 (y2.map cU8)))), (17, (.osl 17 5 1 (([(IntKind.wrap .u8 y1.1)] : List Int).map cU8))), (16, (.d (.i .u8 (IntKind.wrap .u8 y1.1)))), (15, (vI y1.1)), (14, (.ptr 1000000 0)), (13, (.d (.sl 1 (x5.map cU8)))), (10, (vB (decide (x6 < p1)))), (9, (vI p1)), (8, (vI x6)), (0, (.ptr 1000000 0)), (1, (vI p1)), (5, (.d (.sl 1 (x5.map cU8)))), (6, (vI x6))], [(1000000, bGL1Cur y1.2)]⟩
   refine st 1 a6 (ni (bn (xi (oi ?_))))
   let a7 : St := a6.p [(6, (vI (IntKind.wrap .i64 (x6 + 1)))), (12, (vI (IntKind.wrap .i64 (x6 + 1)))), (11, (vI x6))]
   exact st 3 a7 (ni (loop_back (s' := stsL1Bytes_L0 p1 y2 (IntKind.wrap .i64 (x6 + 1)) y1.2.b y1.2.i y1.2.h) (wr [(5, .old 5)] (es (es (eo 5 (es er_nil)))) (bs_ br_nil)) (OK_sL1Bytes_L0 y2 (IntKind.wrap .i64 (x6 + 1)) y1.2.b y1.2.i y1.2.h _ h)))
   refine ei (te (te (bh (xi (so ?_)))))
   let a8 : St := ⟨[(4, (.osl 4 5 1 (x5.map cU8))), (19, (.d (.sl 1 (x5.map cU8)))), (10, (vB (decide (x6 < p1)))), (9, (vI p1)), (8, (vI x6)), (0, (.ptr 1000000 0)), (1, (vI p1)), (5, (.d (.sl 1 (x5.map cU8)))), (6, (vI x6))], [(1000000, bGL1Cur (GL1Cur.mk b1000000_0 b1000000_1 b1000000_2))]⟩
   refine st 2 a8 (nx ?_)
   refine ret_wk (s' := ⟨[(4, (.osl 2000000 5 1 (x5.map cU8)))], [(1000000, bGL1Cur (GL1Cur.mk b1000000_0 b1000000_1 b1000000_2))]⟩) (wr [(2000000, .old 4)] (eo 4 er_nil) (br_cons (c0 := [(.d (.sl 1 (b1000000_0.map cU8))), (vI b1000000_1), (vI b1000000_2)]) (by kernel_rfl) (vrs_cons (vr_same (by kernel_rfl) (by kernel_rfl)) (vrs_cons (vr_same (by kernel_rfl) (by kernel_rfl)) (vrs_cons (vr_same (by kernel_rfl) (by kernel_rfl)) (vrs_nil)))) br_nil)) ?_
   injection h with h; subst h
   exact ret1_step (v := (.osl 2000000 5 1 (x5.map cU8))) (by kernel_rfl) (by kernel_rfl) ⟨by kernel_rfl, by kernel_rfl, trivial⟩
theorem OK_sL1Bytes_L0 (p1 : Int) (x5 : (List Int)) (x6 : Int) (b1000000_0 : (List Int)) (b1000000_1 : Int) (b1000000_2 : Int) (r : (List Int) × GL1Cur) (h : sL1Bytes_L0 p1 x5 x6 b1000000_0 b1000000_1 b1000000_2 = some r) : avc Try.prog acsL1Bytes_L0 (qsL1Bytes_1 r) (stsL1Bytes_L0 p1 x5 x6 b1000000_0 b1000000_1 b1000000_2) := (OKs_sL1Bytes_L0 p1) x5 x6 b1000000_0 b1000000_1 b1000000_2 r h
theorem OK_sL1Bytes (p0 : GL1Cur) (p1 : Int) : FOkB Try.prog 153 [(.ptr 1000000 0), (vI p1)] [(1000000, bGL1Cur p0)] (fun (y : (List Int) × GL1Cur) => (.osl 2000000 5 1 (y.1.map cU8))) (fun (y : (List Int) × GL1Cur) => [(1000000, bGL1Cur y.2)]) (sL1Bytes p0 p1) := by
 intro r h
 rw [sL1Bytes] at h
 refine acalls_of_fn trsL1Bytes (Nat.le_of_ble_eq_true rfl) (by intro n hn; simp at hn; simp only [NX]; omega) ?_
 show avc Try.prog acsL1Bytes (qsL1Bytes _) ⟨[(0, (.ptr 1000000 0)), (1, (vI p1))], [(1000000, bGL1Cur p0)]⟩
 delta acsL1Bytes
 refine so ?_
 let a0 : St := ⟨[(4, (.nil 1)), (0, (.ptr 1000000 0)), (1, (vI p1))], [(1000000, bGL1Cur p0)]⟩
 refine st 1 a0 (nx (so (bsl_step (l := ([] : List Int)) (f := cU8) (g := cU8) (by kernel_rfl) (fun _ => rfl) (by kernel_rfl) ?_)))
 let a1 : St := a0.p [(5, (.osl 5 5 1 (([] : List Int).map cU8))), (7, (.d (.sl 1 (([] : List Int).map cU8))))]
 refine st 1 a1 (nx (si (so ?_)))
 let a2 : St := a1.p [(6, (vI 0))]
 exact st 1 a2 (nx (bi (loop_go (s' := stsL1Bytes_L0 p1 ([] : List Int) 0 p0.b p0.i p0.h) (wr [(5, .old 5)] (es (es (eo 5 (es er_nil)))) (bs_ br_nil)) (OK_sL1Bytes_L0 p1 ([] : List Int) 0 p0.b p0.i p0.h _ h))))
theorem OK_sL1Pick (p0 : GL1Cur) (p1 : (List (List UInt8))) : FOkB Try.prog 151 [(.ptr 1000000 0), (.d (.sl 1 (p1.map cStr)))] [(1000000, bGL1Cur p0)] (fun (y : (List UInt8) × GL1Cur) => (vS y.1)) (fun (y : (List UInt8) × GL1Cur) => [(1000000, bGL1Cur y.2)]) (sL1Pick p0 p1) := by
 intro r h
 rw [sL1Pick] at h
 refine acalls_of_fn trsL1Pick (Nat.le_of_ble_eq_true rfl) (by intro n hn; simp at hn; simp only [NX]; omega) ?_
 show avc Try.prog acsL1Pick (qsL1Pick _) ⟨[(0, (.ptr 1000000 0)), (1, (.d (.sl 1 (p1.map cStr))))], [(1000000, bGL1Cur p0)]⟩
 delta acsL1Pick
 refine so ?_
 let a0 : St := ⟨[(4, (vS [])), (0, (.ptr 1000000 0)), (1, (.d (.sl 1 (p1.map cStr))))], [(1000000, bGL1Cur p0)]⟩
 refine st 1 a0 (nx (so ?_))
 let a1 : St := a0.p [(7, (.d (.sl 1 (p1.map cStr)))), (6, (.ptr 1000000 0)), (5, (.d (.sl 1 (p1.map cStr))))]
 refine st 3 a1 (ps (vI (ln p1)) (vln (sz := 1) (l := p1) (f := cStr)) ?_)
 refine callg_step ⟨[(1000000, 1000000)], [], [], [], [], [], [], [], []⟩ (m := sL1Below p0 (ln p1)) (S' := fun (y : Int × GL1Cur) => ⟨(9, (vI y.1)) :: (8, (vI (ln p1))) :: a1.env, [(1000000, bGL1Cur y.2)]⟩) h (OK_sL1Below p0 (ln p1)) (by kernel_rfl) (by kernel_rfl) (by kernel_rfl) (by kernel_rfl) (fun y => by kernel_rfl) (fun y => by kernel_rfl) ?_
 clear h; intro y1 h
 refine vs (fun (y : (List UInt8)) => (.rp [(.s (bs y))])) h (fun y hy => via (l := p1) (f := cStr) (g := cStr) (k := .i64) hy (fun _ => rfl)) fun y2 h => ?_
 let a2 : St := ⟨(4, (vS y2)) :: (11, (vS y2)) :: (10, (.rp [(.s (bs y2))])) :: (9, (vI y1.1)) :: (8, (vI (ln p1))) :: a1.env, [(1000000, bGL1Cur y1.2)]⟩
 refine st 2 a2 (nx (ri ?_))
 injection h with h; subst h
 exact ret1_step (v := (vS y2)) (by kernel_rfl) (by kernel_rfl) ⟨by kernel_rfl, by kernel_rfl, trivial⟩
theorem OK_sL1Once (p0 : GL1Cur) (p1 : Int) : FOkB Try.prog 83 [(.ptr 1000000 0), (vI p1)] [(1000000, bGL1Cur p0)] (fun (y : Bool × GL1Cur) => (vB y.1)) (fun (y : Bool × GL1Cur) => [(1000000, bGL1Cur y.2)]) (sL1Once p0 p1) := by
 intro r h
 rw [sL1Once] at h
 refine acalls_of_fn trsL1Once (Nat.le_of_ble_eq_true rfl) (by intro n hn; simp at hn; simp only [NX]; omega) ?_
 show avc Try.prog acsL1Once (qsL1Once _) ⟨[(0, (.ptr 1000000 0)), (1, (vI p1))], [(1000000, bGL1Cur p0)]⟩
 delta acsL1Once
 refine so ?_
 let a0 : St := ⟨[(4, (vB false)), (0, (.ptr 1000000 0)), (1, (vI p1))], [(1000000, bGL1Cur p0)]⟩
 refine st 1 a0 (nx (so ?_))
 let a1 : St := a0.p [(6, (vI p1)), (5, (.ptr 1000000 0))]
 refine st 2 a1 (callg_step ⟨[(1000000, 1000000)], [], [], [], [], [], [], [], []⟩ (m := sL1Below p0 p1) (S' := fun (y : Int × GL1Cur) => ⟨(7, (vI y.1)) :: a1.env, [(1000000, bGL1Cur y.2)]⟩) h (OK_sL1Below p0 p1) (by kernel_rfl) (by kernel_rfl) (by kernel_rfl) (by kernel_rfl) (fun y => by kernel_rfl) (fun y => by kernel_rfl) ?_)
 clear h; intro y1 h
 let a2 : St := ⟨(4, (vB (decide (y1.1 = 0)))) :: (8, (vB (decide (y1.1 = 0)))) :: (7, (vI y1.1)) :: a1.env, [(1000000, bGL1Cur y1.2)]⟩
 refine st 2 a2 (nx (ri ?_))
 injection h with h; subst h
 exact ret1_step (v := (vB (decide (y1.1 = 0)))) (by kernel_rfl) (by kernel_rfl) ⟨by kernel_rfl, by kernel_rfl, trivial⟩
theorem OK_sL2Name (p0 : GL1Cur) : FOkB Try.prog 150 [(.ptr 1000000 0)] [(1000000, bGL1Cur p0)] (fun (y : (List UInt8) × GL1Cur) => (vS y.1)) (fun (y : (List UInt8) × GL1Cur) => [(1000000, bGL1Cur y.2)]) (sL2Name p0) := by
 intro r h
 rw [sL2Name] at h
 refine acalls_of_fn trsL2Name (Nat.le_of_ble_eq_true rfl) (by intro n hn; simp at hn; simp only [NX]; omega) ?_
 show avc Try.prog acsL2Name (qsL2Name _) ⟨[(0, (.ptr 1000000 0))], [(1000000, bGL1Cur p0)]⟩
 delta acsL2Name
 refine so ?_
 let a0 : St := ⟨[(2, (vS [])), (0, (.ptr 1000000 0))], [(1000000, bGL1Cur p0)]⟩
 refine st 1 a0 (nx (si (so ?_)))
 let a1 : St := a0.p [(3, (.ptr 1000000 0))]
 refine st 1 a1 (callg_step ⟨[(1000000, 1000000)], [], [], [], [], [], [], [], []⟩ (m := sL1Once p0 6) (S' := fun (y : Bool × GL1Cur) => ⟨(4, (vB y.1)) :: a1.env, [(1000000, bGL1Cur y.2)]⟩) h (OK_sL1Once p0 6) (by kernel_rfl) (by kernel_rfl) (by kernel_rfl) (by kernel_rfl) (fun y => by kernel_rfl) (fun y => by kernel_rfl) ?_)
 clear h; intro y1 h
 refine nx ?_
 refine cd h (fun h => ?_) fun h => ?_
 refine so ?_
 let a2 : St := ⟨(5, (.ptr 1000000 0)) :: (4, (vB y1.1)) :: a1.env, [(1000000, bGL1Cur y1.2)]⟩
 refine st 1 a2 (bsl_step (l := ([[97, 32, 98], [102, 114, 111, 109], [83, 101, 108, 101, 99, 116], [49, 120], [113, 34, 113], [0], [34], [105, 116, 39, 115], [120, 46, 121], [45]] : List (List UInt8))) (f := cStr) (g := cStr) (by kernel_rfl) (fun _ => rfl) (by kernel_rfl) ?_)
 refine callg_step ⟨[(1000000, 1000000)], [], [], [], [], [], [], [], []⟩ (m := sL1Pick y1.2 ([[97, 32, 98], [102, 114, 111, 109], [83, 101, 108, 101, 99, 116], [49, 120], [113, 34, 113], [0], [34], [105, 116, 39, 115], [120, 46, 121], [45]] : List (List UInt8))) (S' := fun (y : (List UInt8) × GL1Cur) => ⟨(7, (vS y.1)) :: (6, (.osl 6 9 1 (([[97, 32, 98], [102, 114, 111, 109], [83, 101, 108, 101, 99, 116], [49, 120], [113, 34, 113], [0], [34], [105, 116, 39, 115], [120, 46, 121], [45]] : List (List UInt8)).map cStr))) :: a2.env, [(1000000, bGL1Cur y.2)]⟩) h (OK_sL1Pick y1.2 ([[97, 32, 98], [102, 114, 111, 109], [83, 101, 108, 101, 99, 116], [49, 120], [113, 34, 113], [0], [34], [105, 116, 39, 115], [120, 46, 121], [45]] : List (List UInt8))) (by kernel_rfl) (by kernel_rfl) (by kernel_rfl) (by kernel_rfl) (fun y => by kernel_rfl) (fun y => by kernel_rfl) ?_
 clear h; intro y2 h
 let a3 : St := ⟨(2, (vS y2.1)) :: (7, (vS y2.1)) :: (6, (.osl 6 9 1 (([[97, 32, 98], [102, 114, 111, 109], [83, 101, 108, 101, 99, 116], [49, 120], [113, 34, 113], [0], [34], [105, 116, 39, 115], [120, 46, 121], [45]] : List (List UInt8)).map cStr))) :: a2.env, [(1000000, bGL1Cur y2.2)]⟩
 refine st 1 a3 (nx (ri (tr ?_)))
 injection h with h; subst h
 exact ret1_step (v := (vS y2.1)) (by kernel_rfl) (by kernel_rfl) ⟨by kernel_rfl, by kernel_rfl, trivial⟩
 refine ki (xi (so ?_))
 let a4 : St := ⟨(8, (.ptr 1000000 0)) :: (4, (vB y1.1)) :: a1.env, [(1000000, bGL1Cur y1.2)]⟩
 refine st 1 a4 (bsl_step (l := ([[97], [98], [99], [116], [117], [118], [105, 100], [110, 97, 109, 101], [65], [95, 120, 49]] : List (List UInt8))) (f := cStr) (g := cStr) (by kernel_rfl) (fun _ => rfl) (by kernel_rfl) ?_)
 refine callg_step ⟨[(1000000, 1000000)], [], [], [], [], [], [], [], []⟩ (m := sL1Pick y1.2 ([[97], [98], [99], [116], [117], [118], [105, 100], [110, 97, 109, 101], [65], [95, 120, 49]] : List (List UInt8))) (S' := fun (y : (List UInt8) × GL1Cur) => ⟨(10, (vS y.1)) :: (9, (.osl 9 9 1 (([[97], [98], [99], [116], [117], [118], [105, 100], [110, 97, 109, 101], [65], [95, 120, 49]] : List (List UInt8)).map cStr))) :: a4.env, [(1000000, bGL1Cur y.2)]⟩) h (OK_sL1Pick y1.2 ([[97], [98], [99], [116], [117], [118], [105, 100], [110, 97, 109, 101], [65], [95, 120, 49]] : List (List UInt8))) (by kernel_rfl) (by kernel_rfl) (by kernel_rfl) (by kernel_rfl) (fun y => by kernel_rfl) (fun y => by kernel_rfl) ?_
 clear h; intro y3 h
 let a5 : St := ⟨(2, (vS y3.1)) :: (10, (vS y3.1)) :: (9, (.osl 9 9 1 (([[97], [98], [99], [116], [117], [118], [105, 100], [110, 97, 109, 101], [65], [95, 120, 49]] : List (List UInt8)).map cStr))) :: a4.env, [(1000000, bGL1Cur y3.2)]⟩
 refine st 1 a5 (nx (ri ?_))
 injection h with h; subst h
 exact ret1_step (v := (vS y3.1)) (by kernel_rfl) (by kernel_rfl) ⟨by kernel_rfl, by kernel_rfl, trivial⟩
theorem OK_sL2Words : FOkB Try.prog 152 [] [] (fun (y : (List (List UInt8))) => (.osl 2000000 9 1 (y.map cStr))) (fun (y : (List (List UInt8))) => []) (sL2Words) := by
 intro r h
 rw [sL2Words] at h
 refine aof trsL2Words ?_
 show avc Try.prog acsL2Words (qsL2Words _) ⟨[], []⟩
 delta acsL2Words
 refine so ?_
 let a0 : St := ⟨[(0, (.nil 1))], []⟩
 refine st 1 a0 (nx (so ?_))
 refine bsl_step (l := ([[], [83, 69, 76, 69, 67, 84], [68, 73, 83, 84, 73, 78, 67, 84], [70, 82, 79, 77], [74, 79, 73, 78], [79, 78], [87, 72, 69, 82, 69], [79, 82, 68, 69, 82], [66, 89], [65, 83, 67], [68, 69, 83, 67], [76, 73, 77, 73, 84], [65, 83], [65, 78, 68], [79, 82], [78, 79, 84], [73, 83], [73, 78], [66, 69, 84, 87, 69, 69, 78], [69, 88, 73, 83, 84, 83], [78, 85, 76, 76], [84, 82, 85, 69], [70, 65, 76, 83, 69], [73, 78, 83, 69, 82, 84], [73, 78, 84, 79], [86, 65, 76, 85, 69, 83], [85, 80, 68, 65, 84, 69], [83, 69, 84], [68, 69, 76, 69, 84, 69]] : List (List UInt8))) (f := cStr) (g := cStr) (by kernel_rfl) (fun _ => rfl) (by kernel_rfl) ?_
 let a1 : St := a0.p [(0, (.osl 0 9 1 (([[], [83, 69, 76, 69, 67, 84], [68, 73, 83, 84, 73, 78, 67, 84], [70, 82, 79, 77], [74, 79, 73, 78], [79, 78], [87, 72, 69, 82, 69], [79, 82, 68, 69, 82], [66, 89], [65, 83, 67], [68, 69, 83, 67], [76, 73, 77, 73, 84], [65, 83], [65, 78, 68], [79, 82], [78, 79, 84], [73, 83], [73, 78], [66, 69, 84, 87, 69, 69, 78], [69, 88, 73, 83, 84, 83], [78, 85, 76, 76], [84, 82, 85, 69], [70, 65, 76, 83, 69], [73, 78, 83, 69, 82, 84], [73, 78, 84, 79], [86, 65, 76, 85, 69, 83], [85, 80, 68, 65, 84, 69], [83, 69, 84], [68, 69, 76, 69, 84, 69]] : List (List UInt8)).map cStr))), (1, (.d (.sl 1 (([[], [83, 69, 76, 69, 67, 84], [68, 73, 83, 84, 73, 78, 67, 84], [70, 82, 79, 77], [74, 79, 73, 78], [79, 78], [87, 72, 69, 82, 69], [79, 82, 68, 69, 82], [66, 89], [65, 83, 67], [68, 69, 83, 67], [76, 73, 77, 73, 84], [65, 83], [65, 78, 68], [79, 82], [78, 79, 84], [73, 83], [73, 78], [66, 69, 84, 87, 69, 69, 78], [69, 88, 73, 83, 84, 83], [78, 85, 76, 76], [84, 82, 85, 69], [70, 65, 76, 83, 69], [73, 78, 83, 69, 82, 84], [73, 78, 84, 79], [86, 65, 76, 85, 69, 83], [85, 80, 68, 65, 84, 69], [83, 69, 84], [68, 69, 76, 69, 84, 69]] : List (List UInt8)).map cStr))))]
 refine st 1 a1 (nx ?_)
 refine ret_wk (s' := ⟨[(0, (.osl 2000000 9 1 (([[], [83, 69, 76, 69, 67, 84], [68, 73, 83, 84, 73, 78, 67, 84], [70, 82, 79, 77], [74, 79, 73, 78], [79, 78], [87, 72, 69, 82, 69], [79, 82, 68, 69, 82], [66, 89], [65, 83, 67], [68, 69, 83, 67], [76, 73, 77, 73, 84], [65, 83], [65, 78, 68], [79, 82], [78, 79, 84], [73, 83], [73, 78], [66, 69, 84, 87, 69, 69, 78], [69, 88, 73, 83, 84, 83], [78, 85, 76, 76], [84, 82, 85, 69], [70, 65, 76, 83, 69], [73, 78, 83, 69, 82, 84], [73, 78, 84, 79], [86, 65, 76, 85, 69, 83], [85, 80, 68, 65, 84, 69], [83, 69, 84], [68, 69, 76, 69, 84, 69]] : List (List UInt8)).map cStr)))], []⟩) (wr [(2000000, .old 0)] (eo 0 er_nil) br_nil) ?_
 injection h with h; subst h
 exact ret1_step (v := (.osl 2000000 9 1 (([[], [83, 69, 76, 69, 67, 84], [68, 73, 83, 84, 73, 78, 67, 84], [70, 82, 79, 77], [74, 79, 73, 78], [79, 78], [87, 72, 69, 82, 69], [79, 82, 68, 69, 82], [66, 89], [65, 83, 67], [68, 69, 83, 67], [76, 73, 77, 73, 84], [65, 83], [65, 78, 68], [79, 82], [78, 79, 84], [73, 83], [73, 78], [66, 69, 84, 87, 69, 69, 78], [69, 88, 73, 83, 84, 83], [78, 85, 76, 76], [84, 82, 85, 69], [70, 65, 76, 83, 69], [73, 78, 83, 69, 82, 84], [73, 78, 84, 79], [86, 65, 76, 85, 69, 83], [85, 80, 68, 65, 84, 69], [83, 69, 84], [68, 69, 76, 69, 84, 69]] : List (List UInt8)).map cStr))) (by kernel_rfl) (by kernel_rfl) ⟨by kernel_rfl, trivial⟩
theorem OK_sL2Any (p0 : GL1Cur) : FOkB Try.prog 90 [(.ptr 1000000 0)] [(1000000, bGL1Cur p0)] (fun (y : (List UInt8) × GL1Cur) => (vS y.1)) (fun (y : (List UInt8) × GL1Cur) => [(1000000, bGL1Cur y.2)]) (sL2Any p0) := by
 intro r h
 rw [sL2Any] at h
 refine acalls_of_fn trsL2Any (Nat.le_of_ble_eq_true rfl) (by intro n hn; simp at hn; simp only [NX]; omega) ?_
 show avc Try.prog acsL2Any (qsL2Any _) ⟨[(0, (.ptr 1000000 0))], [(1000000, bGL1Cur p0)]⟩
 delta acsL2Any
 refine so ?_
 let a0 : St := ⟨[(2, (vS [])), (0, (.ptr 1000000 0))], [(1000000, bGL1Cur p0)]⟩
 refine st 1 a0 (nx (si (so ?_)))
 let a1 : St := a0.p [(3, (.ptr 1000000 0))]
 refine st 1 a1 (callg_step ⟨[(1000000, 1000000)], [], [], [], [], [], [], [], []⟩ (m := sL1Below p0 6) (S' := fun (y : Int × GL1Cur) => ⟨(4, (vI y.1)) :: a1.env, [(1000000, bGL1Cur y.2)]⟩) h (OK_sL1Below p0 6) (by kernel_rfl) (by kernel_rfl) (by kernel_rfl) (by kernel_rfl) (fun y => by kernel_rfl) (fun y => by kernel_rfl) ?_)
 clear h; intro y1 h
 refine nx (bi (so ?_))
 let a2 : St := ⟨(5, (vB (decide (y1.1 = 0)))) :: (6, (vB (decide (y1.1 = 0)))) :: (4, (vI y1.1)) :: a1.env, [(1000000, bGL1Cur y1.2)]⟩
 refine st 2 a2 (nx ?_)
 refine cd h (fun h => ?_) fun h => ?_
 refine so ?_
 let a3 : St := a2.p [(7, (.ptr 1000000 0))]
 refine st 1 a3 ?_
 refine bsl_step (l := ([[], [97, 98, 99, 100, 101, 102, 103, 104, 105, 106, 107, 108, 109, 110, 111, 112, 113, 114, 115, 116], [97, 98, 99, 100, 101, 102, 103, 104, 105, 106, 107, 108, 109, 110, 111, 112, 113, 114, 115, 116, 117], [108, 105, 109, 105, 116], [76, 73, 77, 73, 84, 83], [65, 83, 99], [57], [97, 57], [195, 169]] : List (List UInt8))) (f := cStr) (g := cStr) (by kernel_rfl) (fun _ => rfl) (by kernel_rfl) ?_
 refine callg_step ⟨[(1000000, 1000000)], [], [], [], [], [], [], [], []⟩ (m := sL1Pick y1.2 ([[], [97, 98, 99, 100, 101, 102, 103, 104, 105, 106, 107, 108, 109, 110, 111, 112, 113, 114, 115, 116], [97, 98, 99, 100, 101, 102, 103, 104, 105, 106, 107, 108, 109, 110, 111, 112, 113, 114, 115, 116, 117], [108, 105, 109, 105, 116], [76, 73, 77, 73, 84, 83], [65, 83, 99], [57], [97, 57], [195, 169]] : List (List UInt8))) (S' := fun (y : (List UInt8) × GL1Cur) => ⟨(9, (vS y.1)) :: (8, (.osl 8 9 1 (([[], [97, 98, 99, 100, 101, 102, 103, 104, 105, 106, 107, 108, 109, 110, 111, 112, 113, 114, 115, 116], [97, 98, 99, 100, 101, 102, 103, 104, 105, 106, 107, 108, 109, 110, 111, 112, 113, 114, 115, 116, 117], [108, 105, 109, 105, 116], [76, 73, 77, 73, 84, 83], [65, 83, 99], [57], [97, 57], [195, 169]] : List (List UInt8)).map cStr))) :: a3.env, [(1000000, bGL1Cur y.2)]⟩) h (OK_sL1Pick y1.2 ([[], [97, 98, 99, 100, 101, 102, 103, 104, 105, 106, 107, 108, 109, 110, 111, 112, 113, 114, 115, 116], [97, 98, 99, 100, 101, 102, 103, 104, 105, 106, 107, 108, 109, 110, 111, 112, 113, 114, 115, 116, 117], [108, 105, 109, 105, 116], [76, 73, 77, 73, 84, 83], [65, 83, 99], [57], [97, 57], [195, 169]] : List (List UInt8))) (by kernel_rfl) (by kernel_rfl) (by kernel_rfl) (by kernel_rfl) (fun y => by kernel_rfl) (fun y => by kernel_rfl) ?_
 clear h; intro y2 h
 let a4 : St := ⟨(2, (vS y2.1)) :: (9, (vS y2.1)) :: (8, (.osl 8 9 1 (([[], [97, 98, 99, 100, 101, 102, 103, 104, 105, 106, 107, 108, 109, 110, 111, 112, 113, 114, 115, 116], [97, 98, 99, 100, 101, 102, 103, 104, 105, 106, 107, 108, 109, 110, 111, 112, 113, 114, 115, 116, 117], [108, 105, 109, 105, 116], [76, 73, 77, 73, 84, 83], [65, 83, 99], [57], [97, 57], [195, 169]] : List (List UInt8)).map cStr))) :: a3.env, [(1000000, bGL1Cur y2.2)]⟩
 refine st 1 a4 (nx (ri (br (tr ?_))))
 injection h with h; subst h
 exact ret1_step (v := (vS y2.1)) (by kernel_rfl) (by kernel_rfl) ⟨by kernel_rfl, by kernel_rfl, trivial⟩
 refine so ?_
 let a5 : St := a2.p [(10, (vB (decide (y1.1 = 1)))), (11, (vB (decide (y1.1 = 1))))]
 refine st 2 a5 (nx ?_)
 refine cd h (fun h => ?_) fun h => ?_
 refine so (callg_step ⟨[], [], [], [], [], [(2000000, 12)], [], [12], []⟩ (m := sL2Words) (S' := fun (y : (List (List UInt8))) => ⟨(12, (.osl 12 9 1 (y.map cStr))) :: a5.env, a5.bx⟩) h (OK_sL2Words) (by kernel_rfl) (by kernel_rfl) (by kernel_rfl) (by kernel_rfl) (fun y => by kernel_rfl) (fun y => by kernel_rfl) ?_)
 clear h; intro y3 h
 let a6 : St := a5.p [(13, (.ptr 1000000 0)), (12, (.osl 12 9 1 (y3.map cStr)))]
 refine st 1 a6 (callg_step ⟨[(1000000, 1000000)], [], [], [], [], [], [], [], []⟩ (m := sL1Below y1.2 29) (S' := fun (y : Int × GL1Cur) => ⟨(14, (vI y.1)) :: a6.env, [(1000000, bGL1Cur y.2)]⟩) h (OK_sL1Below y1.2 29) (by kernel_rfl) (by kernel_rfl) (by kernel_rfl) (by kernel_rfl) (fun y => by kernel_rfl) (fun y => by kernel_rfl) ?_)
 clear h; intro y4 h
 refine vs (fun (y : (List UInt8)) => (.rp [(.s (bs y))])) h (fun y hy => via (l := y3) (f := cStr) (g := cStr) (k := .i64) hy (fun _ => rfl)) fun y5 h => ?_
 let a7 : St := ⟨(2, (vS y5)) :: (16, (vS y5)) :: (15, (.rp [(.s (bs y5))])) :: (14, (vI y4.1)) :: a6.env, [(1000000, bGL1Cur y4.2)]⟩
 refine st 2 a7 (nx (ri (br (tr ?_))))
 injection h with h; subst h
 exact ret1_step (v := (vS y5)) (by kernel_rfl) (by kernel_rfl) ⟨by kernel_rfl, by kernel_rfl, trivial⟩
 refine so ?_
 let a8 : St := a5.p [(17, (vB (decide (y1.1 = 2)))), (18, (vB (decide (y1.1 = 2))))]
 refine st 2 a8 (nx ?_)
 refine cd h (fun h => ?_) fun h => ?_
 refine so ?_
 let a9 : St := a8.p [(20, (.ptr 1000000 0)), (19, (.ptr 1000000 0))]
 refine st 2 a9 (callg_step ⟨[(1000000, 1000000)], [], [], [], [], [], [], [], []⟩ (m := sL1Below y1.2 5) (S' := fun (y : Int × GL1Cur) => ⟨(21, (vI y.1)) :: a9.env, [(1000000, bGL1Cur y.2)]⟩) h (OK_sL1Below y1.2 5) (by kernel_rfl) (by kernel_rfl) (by kernel_rfl) (by kernel_rfl) (fun y => by kernel_rfl) (fun y => by kernel_rfl) ?_)
 clear h; intro y6 h
 refine callg_step ⟨[(1000000, 1000000)], [], [], [], [], [(2000000, 22)], [], [22], []⟩ (m := sL1Bytes y6.2 y6.1) (S' := fun (y : (List Int) × GL1Cur) => ⟨(22, (.osl 22 5 1 (y.1.map cU8))) :: (21, (vI y6.1)) :: a9.env, [(1000000, bGL1Cur y.2)]⟩) h (OK_sL1Bytes y6.2 y6.1) (by kernel_rfl) (by kernel_rfl) (by kernel_rfl) (by kernel_rfl) (fun y => by kernel_rfl) (fun y => by kernel_rfl) ?_
 clear h; intro y7 h
 refine vs (fun (y : (List UInt8)) => (vS y)) h (fun y hy => vop_cbs (l := y7.1) hy (by kernel_rfl) (by kernel_rfl)) fun y8 h => ?_
 let a10 : St := ⟨(2, (vS y8)) :: (23, (vS y8)) :: (22, (.osl 22 5 1 (y7.1.map cU8))) :: (21, (vI y6.1)) :: a9.env, [(1000000, bGL1Cur y7.2)]⟩
 refine st 1 a10 (nx (ri (br (tr ?_))))
 injection h with h; subst h
 exact ret1_step (v := (vS y8)) (by kernel_rfl) (by kernel_rfl) ⟨by kernel_rfl, by kernel_rfl, trivial⟩
 refine ki (bn (xi (so ?_)))
 let a11 : St := a8.p [(24, (.ptr 1000000 0))]
 refine st 1 a11 (callg_step ⟨[(1000000, 1000000)], [], [], [], [], [], [], [], []⟩ (m := sL2Name y1.2) (S' := fun (y : (List UInt8) × GL1Cur) => ⟨(25, (vS y.1)) :: a11.env, [(1000000, bGL1Cur y.2)]⟩) h (OK_sL2Name y1.2) (by kernel_rfl) (by kernel_rfl) (by kernel_rfl) (by kernel_rfl) (fun y => by kernel_rfl) (fun y => by kernel_rfl) ?_)
 clear h; intro y9 h
 let a12 : St := ⟨(2, (vS y9.1)) :: (25, (vS y9.1)) :: a11.env, [(1000000, bGL1Cur y9.2)]⟩
 refine st 1 a12 (nx (ri ?_))
 injection h with h; subst h
 exact ret1_step (v := (vS y9.1)) (by kernel_rfl) (by kernel_rfl) ⟨by kernel_rfl, by kernel_rfl, trivial⟩
theorem OK_sL1PickInt (p0 : GL1Cur) (p1 : (List Int)) : FOkB Try.prog 148 [(.ptr 1000000 0), (.d (.sl 1 (p1.map cI)))] [(1000000, bGL1Cur p0)] (fun (y : Int × GL1Cur) => (vI y.1)) (fun (y : Int × GL1Cur) => [(1000000, bGL1Cur y.2)]) (sL1PickInt p0 p1) := by
 intro r h
 rw [sL1PickInt] at h
 refine acalls_of_fn trsL1PickInt (Nat.le_of_ble_eq_true rfl) (by intro n hn; simp at hn; simp only [NX]; omega) ?_
 show avc Try.prog acsL1PickInt (qsL1PickInt _) ⟨[(0, (.ptr 1000000 0)), (1, (.d (.sl 1 (p1.map cI))))], [(1000000, bGL1Cur p0)]⟩
 delta acsL1PickInt
 refine so ?_
 let a0 : St := ⟨[(4, (vI 0)), (0, (.ptr 1000000 0)), (1, (.d (.sl 1 (p1.map cI))))], [(1000000, bGL1Cur p0)]⟩
 refine st 1 a0 (nx (so ?_))
 let a1 : St := a0.p [(7, (.d (.sl 1 (p1.map cI)))), (6, (.ptr 1000000 0)), (5, (.d (.sl 1 (p1.map cI))))]
 refine st 3 a1 (ps (vI (ln p1)) (vln (sz := 1) (l := p1) (f := cI)) ?_)
 refine callg_step ⟨[(1000000, 1000000)], [], [], [], [], [], [], [], []⟩ (m := sL1Below p0 (ln p1)) (S' := fun (y : Int × GL1Cur) => ⟨(9, (vI y.1)) :: (8, (vI (ln p1))) :: a1.env, [(1000000, bGL1Cur y.2)]⟩) h (OK_sL1Below p0 (ln p1)) (by kernel_rfl) (by kernel_rfl) (by kernel_rfl) (by kernel_rfl) (fun y => by kernel_rfl) (fun y => by kernel_rfl) ?_
 clear h; intro y1 h
 refine vs (fun (y : Int) => (.rp [(.i .i64 y)])) h (fun y hy => via (l := p1) (f := cI) (g := cI) (k := .i64) hy (fun _ => rfl)) fun y2 h => ?_
 let a2 : St := ⟨(4, (vI y2)) :: (11, (vI y2)) :: (10, (.rp [(.i .i64 y2)])) :: (9, (vI y1.1)) :: (8, (vI (ln p1))) :: a1.env, [(1000000, bGL1Cur y1.2)]⟩
 refine st 2 a2 (nx (ri ?_))
 injection h with h; subst h
 exact ret1_step (v := (vI y2)) (by kernel_rfl) (by kernel_rfl) ⟨by kernel_rfl, by kernel_rfl, trivial⟩
theorem OK_sL1Whole (p0 : GL1Cur) : FOkB Try.prog 192 [(.ptr 1000000 0)] [(1000000, bGL1Cur p0)] (fun (y : Int × GL1Cur) => (vI y.1)) (fun (y : Int × GL1Cur) => [(1000000, bGL1Cur y.2)]) (sL1Whole p0) := by
 intro r h
 rw [sL1Whole] at h
 refine acalls_of_fn trsL1Whole (Nat.le_of_ble_eq_true rfl) (by intro n hn; simp at hn; simp only [NX]; omega) ?_
 show avc Try.prog acsL1Whole (qsL1Whole _) ⟨[(0, (.ptr 1000000 0))], [(1000000, bGL1Cur p0)]⟩
 delta acsL1Whole
 refine so ?_
 let a0 : St := ⟨[(2, (vI 0)), (0, (.ptr 1000000 0))], [(1000000, bGL1Cur p0)]⟩
 refine st 1 a0 (nx (si (so ?_)))
 let a1 : St := a0.p [(3, (.ptr 1000000 0))]
 refine st 1 a1 (callg_step ⟨[(1000000, 1000000)], [], [], [], [], [], [], [], []⟩ (m := sL1Below p0 3) (S' := fun (y : Int × GL1Cur) => ⟨(4, (vI y.1)) :: a1.env, [(1000000, bGL1Cur y.2)]⟩) h (OK_sL1Below p0 3) (by kernel_rfl) (by kernel_rfl) (by kernel_rfl) (by kernel_rfl) (fun y => by kernel_rfl) (fun y => by kernel_rfl) ?_)
 clear h; intro y1 h
 refine nx (bi (so ?_))
 let a2 : St := ⟨(5, (vB (decide (y1.1 = 0)))) :: (6, (vB (decide (y1.1 = 0)))) :: (4, (vI y1.1)) :: a1.env, [(1000000, bGL1Cur y1.2)]⟩
 refine st 2 a2 (nx ?_)
 refine cd h (fun h => ?_) fun h => ?_
 refine so ?_
 let a3 : St := a2.p [(7, (.ptr 1000000 0))]
 refine st 1 a3 (bsl_step (l := ([0, 1, (-1), 63, 64, (-64), (-65), 127, 128, 16383, 16384, 9223372036854775807, (-9223372036854775808), 4611686018427387904] : List Int)) (f := cI) (g := cI) (by kernel_rfl) (fun _ => rfl) (by kernel_rfl) ?_)
 refine callg_step ⟨[(1000000, 1000000)], [], [], [], [], [], [], [], []⟩ (m := sL1PickInt y1.2 ([0, 1, (-1), 63, 64, (-64), (-65), 127, 128, 16383, 16384, 9223372036854775807, (-9223372036854775808), 4611686018427387904] : List Int)) (S' := fun (y : Int × GL1Cur) => ⟨(9, (vI y.1)) :: (8, (.osl 8 3 1 (([0, 1, (-1), 63, 64, (-64), (-65), 127, 128, 16383, 16384, 9223372036854775807, (-9223372036854775808), 4611686018427387904] : List Int).map cI))) :: a3.env, [(1000000, bGL1Cur y.2)]⟩) h (OK_sL1PickInt y1.2 ([0, 1, (-1), 63, 64, (-64), (-65), 127, 128, 16383, 16384, 9223372036854775807, (-9223372036854775808), 4611686018427387904] : List Int)) (by kernel_rfl) (by kernel_rfl) (by kernel_rfl) (by kernel_rfl) (fun y => by kernel_rfl) (fun y => by kernel_rfl) ?_
 clear h; intro y2 h
 let a4 : St := ⟨(2, (vI y2.1)) :: (9, (vI y2.1)) :: (8, (.osl 8 3 1 (([0, 1, (-1), 63, 64, (-64), (-65), 127, 128, 16383, 16384, 9223372036854775807, (-9223372036854775808), 4611686018427387904] : List Int).map cI))) :: a3.env, [(1000000, bGL1Cur y2.2)]⟩
 refine st 1 a4 (nx (ri (br (tr ?_))))
 injection h with h; subst h
 exact ret1_step (v := (vI y2.1)) (by kernel_rfl) (by kernel_rfl) ⟨by kernel_rfl, by kernel_rfl, trivial⟩
 refine so ?_
 let a5 : St := a2.p [(10, (vB (decide (y1.1 = 1)))), (11, (vB (decide (y1.1 = 1))))]
 refine st 2 a5 (nx ?_)
 refine cd h (fun h => ?_) fun h => ?_
 refine so ?_
 let a6 : St := a5.p [(12, (.ptr 1000000 0))]
 refine st 1 a6 (callg_step ⟨[(1000000, 1000000)], [], [], [], [], [], [], [], []⟩ (m := sL1Below y1.2 1000000) (S' := fun (y : Int × GL1Cur) => ⟨(13, (vI y.1)) :: a6.env, [(1000000, bGL1Cur y.2)]⟩) h (OK_sL1Below y1.2 1000000) (by kernel_rfl) (by kernel_rfl) (by kernel_rfl) (by kernel_rfl) (fun y => by kernel_rfl) (fun y => by kernel_rfl) ?_)
 clear h; intro y3 h
 let a7 : St := ⟨(2, (vI (IntKind.wrap .i64 (y3.1 - 500000)))) :: (14, (vI (IntKind.wrap .i64 (y3.1 - 500000)))) :: (13, (vI y3.1)) :: a6.env, [(1000000, bGL1Cur y3.2)]⟩
 refine st 2 a7 (nx (ri (br (tr ?_))))
 injection h with h; subst h
 exact ret1_step (v := (vI (IntKind.wrap .i64 (y3.1 - 500000)))) (by kernel_rfl) (by kernel_rfl) ⟨by kernel_rfl, by kernel_rfl, trivial⟩
 refine ki (bn (xi (so ?_)))
 let a8 : St := a5.p [(15, (.ptr 1000000 0))]
 refine st 1 a8 (callg_step ⟨[(1000000, 1000000)], [], [], [], [], [], [], [], []⟩ (m := sL1Below y1.2 20) (S' := fun (y : Int × GL1Cur) => ⟨(16, (vI y.1)) :: a8.env, [(1000000, bGL1Cur y.2)]⟩) h (OK_sL1Below y1.2 20) (by kernel_rfl) (by kernel_rfl) (by kernel_rfl) (by kernel_rfl) (fun y => by kernel_rfl) (fun y => by kernel_rfl) ?_)
 clear h; intro y4 h
 let a9 : St := ⟨(2, (vI y4.1)) :: (16, (vI y4.1)) :: a8.env, [(1000000, bGL1Cur y4.2)]⟩
 refine st 1 a9 (nx (ri ?_))
 injection h with h; subst h
 exact ret1_step (v := (vI y4.1)) (by kernel_rfl) (by kernel_rfl) ⟨by kernel_rfl, by kernel_rfl, trivial⟩
theorem OK_sL5Bent_J0 (b3_0 : Int) (b3_1 : Int) (b3_2 : (List UInt8)) (b1000000_0 : (List Int)) (b1000000_1 : Int) (b1000000_2 : Int) (r : GValue × GL1Cur) (h : sL5Bent_J0 b3_0 b3_1 b3_2 b1000000_0 b1000000_1 b1000000_2 = some r) : avc Try.prog acsL5Bent_J0 (qsL5Bent r) (stsL5Bent_J0 b3_0 b3_1 b3_2 b1000000_0 b1000000_1 b1000000_2) := by
 rw [sL5Bent_J0] at h
 delta acsL5Bent_J0
 refine so ?_
 let a13 : St := ⟨(40, (vGValue (GValue.mk b3_0 b3_1 b3_2))) :: (stsL5Bent_J0 b3_0 b3_1 b3_2 b1000000_0 b1000000_1 b1000000_2).env, [(2, bGValue (GValue.mk b3_0 b3_1 b3_2)), (3, bGValue (GValue.mk b3_0 b3_1 b3_2)), (1000000, bGL1Cur (GL1Cur.mk b1000000_0 b1000000_1 b1000000_2))]⟩
 refine st 2 a13 (nx (ri ?_))
 injection h with h; subst h
 exact ret1_step (v := (vGValue (GValue.mk b3_0 b3_1 b3_2))) (by kernel_rfl) (by kernel_rfl) ⟨by kernel_rfl, by kernel_rfl, trivial⟩
theorem OKs_sL5Bent_L1 (y1 : GValue × GL1Cur) : (∀ (b3_2_6 : (List UInt8)) (b1000000_0_7 : (List Int)) (b1000000_1_8 : Int) (b1000000_2_9 : Int) (r : GValue × GL1Cur), sL5Bent_L1 y1 b3_2_6 b1000000_0_7 b1000000_1_8 b1000000_2_9 = some r → avc Try.prog acsL5Bent_L1 (qsL5Bent_2 r) (stsL5Bent_L1 y1 b3_2_6 b1000000_0_7 b1000000_1_8 b1000000_2_9)) := by
 refine sL5Bent_L1.partial_correctness y1 (fun b3_2_6 b1000000_0_7 b1000000_1_8 b1000000_2_9 r => avc Try.prog acsL5Bent_L1 (qsL5Bent_2 r) (stsL5Bent_L1 y1 b3_2_6 b1000000_0_7 b1000000_1_8 b1000000_2_9)) ?_
 · intro F_sL5Bent_L1 OK_sL5Bent_L1 b3_2_6 b1000000_0_7 b1000000_1_8 b1000000_2_9 r h
   delta acsL5Bent_L1
   refine loop_unroll (si (so ?_))
   let a14 : St := (stsL5Bent_L1 y1 b3_2_6 b1000000_0_7 b1000000_1_8 b1000000_2_9).p [(25, (.ptr 1000000 0))]
   refine st 1 a14 ?_
   refine callg_step ⟨[(1000000, 1000000)], [], [], [], [], [], [], [], []⟩ (m := sL1Once (GL1Cur.mk b1000000_0_7 b1000000_1_8 b1000000_2_9) 2) (S' := fun (y : Bool × GL1Cur) => ⟨(26, (vB y.1)) :: a14.env, [(2, [(vI 0), (vI 0), (vS [])]), (3, bGValue (GValue.mk y1.1.kind y1.1.num b3_2_6)), (1000000, bGL1Cur y.2)]⟩) h (OK_sL1Once (GL1Cur.mk b1000000_0_7 b1000000_1_8 b1000000_2_9) 2) (by kernel_rfl) (by kernel_rfl) (by kernel_rfl) (by kernel_rfl) (fun y => by kernel_rfl) (fun y => by kernel_rfl) ?_
   clear h; intro y10 h
   let a15 : St := ⟨(27, (vB y10.1)) :: (26, (vB y10.1)) :: a14.env, [(2, [(vI 0), (vI 0), (vS [])]), (3, bGValue (GValue.mk y1.1.kind y1.1.num b3_2_6)), (1000000, bGL1Cur y10.2)]⟩
   refine st 1 a15 (gp true y10.1 (.ptr 3 2) (fun hc => vl) (gp true y10.1 (vS b3_2_6) (fun hc => vg hc) (gp true y10.1 (vI (ln b3_2_6)) (fun hc => vg hc) (gp true y10.1 (vB (decide ((ln b3_2_6) < 400))) (fun hc => vg hc) ?_))))
   refine vs (fun (y : Bool) => (vB y)) h (fun y hy => vop_pickV hy (p := (true && (y10.1 == true))) (q := true) (by kernel_rfl) (by kernel_rfl) (by kernel_rfl) (by kernel_rfl) (fun hb => gc_t rfl hb) (fun _ => rfl)) fun y11 h => (nx ?_)
   refine cd h (fun h => ?_) fun h => ?_
   refine ki (xi (bi (oi ?_)))
   let a16 : St := a15.p [(36, (vS b3_2_6)), (35, (.ptr 3 2)), (34, (vS b3_2_6)), (33, (.ptr 3 2)), (32, (vB y11)), (31, (.ite (true && (y10.1 == true)) (vB (decide ((ln b3_2_6) < 400))))), (30, (.ite (true && (y10.1 == true)) (vI (ln b3_2_6)))), (29, (.ite (true && (y10.1 == true)) (vS b3_2_6))), (28, (.ite (true && (y10.1 == true)) (.ptr 3 2)))]
   refine st 4 a16 (vs (fun (y : (List UInt8)) => (vS y)) h (fun y hy => vop_cat (a := b3_2_6) (b := b3_2_6) hy (by kernel_rfl) (by kernel_rfl) (by kernel_rfl)) fun y12 h => (vs (fun (y : (List UInt8)) => (vS y)) h (fun y hy => vop_cat (a := y12) (b := [48, 49, 50, 51, 52, 53, 54, 55, 56, 57]) hy (by kernel_rfl) (by kernel_rfl) (by kernel_rfl)) fun y13 h => ?_))
   let a17 : St := ⟨(39, (.ptr 3 2)) :: (38, (vS y13)) :: (37, (vS y12)) :: a16.env, [(2, [(vI 0), (vI 0), (vS [])]), (3, bGValue (GValue.mk y1.1.kind y1.1.num y13)), (1000000, bGL1Cur y10.2)]⟩
   exact st 2 a17 (ni (bn (loop_back (s' := stsL5Bent_L1 y1 y13 y10.2.b y10.2.i y10.2.h) (wr [] (es (es (es er_nil))) (bs_ (bs_ (bs_ br_nil)))) (OK_sL5Bent_L1 y13 y10.2.b y10.2.i y10.2.h _ h))))
   exact ei (te (te (bh (bn (next_step (s' := stsL5Bent_J0 y1.1.kind y1.1.num b3_2_6 y10.2.b y10.2.i y10.2.h) (wr [] (es (es er_nil)) (bs_ (bs_ (bs_ br_nil)))) (OK_sL5Bent_J0 y1.1.kind y1.1.num b3_2_6 y10.2.b y10.2.i y10.2.h _ h))))))
theorem OK_sL5Bent_L1 (y1 : GValue × GL1Cur) (b3_2_6 : (List UInt8)) (b1000000_0_7 : (List Int)) (b1000000_1_8 : Int) (b1000000_2_9 : Int) (r : GValue × GL1Cur) (h : sL5Bent_L1 y1 b3_2_6 b1000000_0_7 b1000000_1_8 b1000000_2_9 = some r) : avc Try.prog acsL5Bent_L1 (qsL5Bent_2 r) (stsL5Bent_L1 y1 b3_2_6 b1000000_0_7 b1000000_1_8 b1000000_2_9) := (OKs_sL5Bent_L1 y1) b3_2_6 b1000000_0_7 b1000000_1_8 b1000000_2_9 r h
theorem OK_sBoolValue (p0 : Bool) : FOk Try.prog 203 [(vB p0)] (fun y => (vGValue y)) (sBoolValue p0) := by
 intro r h
 rw [sBoolValue] at h
 refine aof trsBoolValue ?_
 show avc Try.prog acsBoolValue (qsBoolValue _) ⟨[(0, (vB p0))], []⟩
 delta acsBoolValue
 refine so ?_
 let a0 : St := ⟨[(2, (.ptr 2 0)), (0, (vB p0))], [(2, [(vI 0), (vI 0), (vS [])])]⟩
 refine st 1 a0 (nx (si (so ?_)))
 let a1 : St := a0.p [(3, (vB p0))]
 refine st 1 a1 (nx ?_)
 refine cd h (fun h => ?_) fun h => ?_
 refine so ?_
 let a2 : St := ⟨(4, (vGValue (GValue.mk 3 1 []))) :: a1.env, [(2, bGValue (GValue.mk 3 1 []))]⟩
 refine st 2 a2 (nx (ri (tr ?_)))
 injection h with h; subst h
 exact r1 (v := (vGValue (GValue.mk 3 1 [])))
 refine ki (xi (so ?_))
 let a3 : St := ⟨(5, (vGValue (GValue.mk 3 0 []))) :: a1.env, [(2, bGValue (GValue.mk 3 0 []))]⟩
 refine st 2 a3 (nx (ri ?_))
 injection h with h; subst h
 exact r1 (v := (vGValue (GValue.mk 3 0 [])))
theorem OK_sIntValue (p0 : Int) : FOk Try.prog 204 [(vI p0)] (fun y => (vGValue y)) (sIntValue p0) := by
 intro r h
 rw [sIntValue] at h
 refine aof trsIntValue ?_
 show avc Try.prog acsIntValue (qsIntValue _) ⟨[(0, (vI p0))], []⟩
 delta acsIntValue
 refine so ?_
 let a0 : St := ⟨[(2, (.ptr 2 0)), (0, (vI p0))], [(2, [(vI 0), (vI 0), (vS [])])]⟩
 refine st 1 a0 (nx (so ?_))
 let a1 : St := ⟨(4, (vGValue (GValue.mk 1 p0 []))) :: (3, (vI p0)) :: a0.env, [(2, bGValue (GValue.mk 1 p0 []))]⟩
 refine st 3 a1 (nx (ri ?_))
 injection h with h; subst h
 exact r1 (v := (vGValue (GValue.mk 1 p0 [])))
theorem OK_sTextValue (p0 : (List UInt8)) : FOk Try.prog 202 [(vS p0)] (fun y => (vGValue y)) (sTextValue p0) := by
 intro r h
 rw [sTextValue] at h
 refine aof trsTextValue ?_
 show avc Try.prog acsTextValue (qsTextValue _) ⟨[(0, (vS p0))], []⟩
 delta acsTextValue
 refine so ?_
 let a0 : St := ⟨[(2, (.ptr 2 0)), (0, (vS p0))], [(2, [(vI 0), (vI 0), (vS [])])]⟩
 refine st 1 a0 (nx (so ?_))
 let a1 : St := ⟨(4, (vGValue (GValue.mk 2 0 p0))) :: (3, (vS p0)) :: a0.env, [(2, bGValue (GValue.mk 2 0 p0))]⟩
 refine st 3 a1 (nx (ri ?_))
 injection h with h; subst h
 exact r1 (v := (vGValue (GValue.mk 2 0 p0)))
theorem OK_sL5Right (p0 : GL1Cur) : FOkB Try.prog 191 [(.ptr 1000000 0)] [(1000000, bGL1Cur p0)] (fun (y : GValue × GL1Cur) => (vGValue y.1)) (fun (y : GValue × GL1Cur) => [(1000000, bGL1Cur y.2)]) (sL5Right p0) := by
 intro r h
 rw [sL5Right] at h
 refine acalls_of_fn trsL5Right (Nat.le_of_ble_eq_true rfl) (by intro n hn; simp at hn; simp only [NX]; omega) ?_
 show avc Try.prog acsL5Right (qsL5Right _) ⟨[(0, (.ptr 1000000 0))], [(1000000, bGL1Cur p0)]⟩
 delta acsL5Right
 refine so ?_
 let a0 : St := ⟨[(2, (.ptr 2 0)), (0, (.ptr 1000000 0))], [(2, [(vI 0), (vI 0), (vS [])]), (1000000, bGL1Cur p0)]⟩
 refine st 1 a0 (nx (si (so ?_)))
 let a1 : St := a0.p [(3, (.ptr 1000000 0))]
 refine st 1 a1 (callg_step ⟨[(1000000, 1000000)], [], [], [], [], [], [], [], []⟩ (m := sL1Below p0 6) (S' := fun (y : Int × GL1Cur) => ⟨(4, (vI y.1)) :: a1.env, [(2, [(vI 0), (vI 0), (vS [])]), (1000000, bGL1Cur y.2)]⟩) h (OK_sL1Below p0 6) (by kernel_rfl) (by kernel_rfl) (by kernel_rfl) (by kernel_rfl) (fun y => by kernel_rfl) (fun y => by kernel_rfl) ?_)
 clear h; intro y1 h
 refine nx (bi (so ?_))
 let a2 : St := ⟨(5, (vB (decide (y1.1 = 0)))) :: (6, (vB (decide (y1.1 = 0)))) :: (4, (vI y1.1)) :: a1.env, [(2, [(vI 0), (vI 0), (vS [])]), (1000000, bGL1Cur y1.2)]⟩
 refine st 2 a2 (nx ?_)
 refine cd h (fun h => ?_) fun h => ?_
 refine so ?_
 let a3 : St := ⟨(7, (vGValue (GValue.mk 0 0 []))) :: a2.env, [(2, bGValue (GValue.mk 0 0 [])), (1000000, bGL1Cur y1.2)]⟩
 refine st 2 a3 (nx (ri (br (tr ?_))))
 injection h with h; subst h
 exact ret1_step (v := (vGValue (GValue.mk 0 0 []))) (by kernel_rfl) (by kernel_rfl) ⟨by kernel_rfl, by kernel_rfl, trivial⟩
 refine so ?_
 let a4 : St := a2.p [(8, (vB (decide (y1.1 = 1)))), (9, (vB (decide (y1.1 = 1))))]
 refine st 2 a4 (nx ?_)
 refine cd h (fun h => ?_) fun h => ?_
 refine so ?_
 let a5 : St := a4.p [(10, (.ptr 1000000 0))]
 refine st 1 a5 (bsl_step (l := ([[], [97], [98], [105, 116, 39, 115], [97, 98], [255]] : List (List UInt8))) (f := cStr) (g := cStr) (by kernel_rfl) (fun _ => rfl) (by kernel_rfl) ?_)
 refine callg_step ⟨[(1000000, 1000000)], [], [], [], [], [], [], [], []⟩ (m := sL1Pick y1.2 ([[], [97], [98], [105, 116, 39, 115], [97, 98], [255]] : List (List UInt8))) (S' := fun (y : (List UInt8) × GL1Cur) => ⟨(12, (vS y.1)) :: (11, (.osl 11 9 1 (([[], [97], [98], [105, 116, 39, 115], [97, 98], [255]] : List (List UInt8)).map cStr))) :: a5.env, [(2, [(vI 0), (vI 0), (vS [])]), (1000000, bGL1Cur y.2)]⟩) h (OK_sL1Pick y1.2 ([[], [97], [98], [105, 116, 39, 115], [97, 98], [255]] : List (List UInt8))) (by kernel_rfl) (by kernel_rfl) (by kernel_rfl) (by kernel_rfl) (fun y => by kernel_rfl) (fun y => by kernel_rfl) ?_
 clear h; intro y2 h
 refine cs h (OK_sTextValue y2.1) fun y3 h => ?_
 let a6 : St := ⟨(13, (vGValue y3)) :: (12, (vS y2.1)) :: (11, (.osl 11 9 1 (([[], [97], [98], [105, 116, 39, 115], [97, 98], [255]] : List (List UInt8)).map cStr))) :: a5.env, [(2, bGValue y3), (1000000, bGL1Cur y2.2)]⟩
 refine st 1 a6 (nx (ri (br (tr ?_))))
 injection h with h; subst h
 exact ret1_step (v := (vGValue y3)) (by kernel_rfl) (by kernel_rfl) ⟨by kernel_rfl, by kernel_rfl, trivial⟩
 refine so ?_
 let a7 : St := a4.p [(14, (vB (decide (y1.1 = 2)))), (15, (vB (decide (y1.1 = 2))))]
 refine st 2 a7 (nx ?_)
 refine cd h (fun h => ?_) fun h => ?_
 refine so ?_
 let a8 : St := a7.p [(16, (.ptr 1000000 0))]
 refine st 1 a8 (callg_step ⟨[(1000000, 1000000)], [], [], [], [], [], [], [], []⟩ (m := sL1Once y1.2 2) (S' := fun (y : Bool × GL1Cur) => ⟨(17, (vB y.1)) :: a8.env, [(2, [(vI 0), (vI 0), (vS [])]), (1000000, bGL1Cur y.2)]⟩) h (OK_sL1Once y1.2 2) (by kernel_rfl) (by kernel_rfl) (by kernel_rfl) (by kernel_rfl) (fun y => by kernel_rfl) (fun y => by kernel_rfl) ?_)
 clear h; intro y4 h
 refine cs h (OK_sBoolValue y4.1) fun y5 h => ?_
 let a9 : St := ⟨(18, (vGValue y5)) :: (17, (vB y4.1)) :: a8.env, [(2, bGValue y5), (1000000, bGL1Cur y4.2)]⟩
 refine st 1 a9 (nx (ri (br (tr ?_))))
 injection h with h; subst h
 exact ret1_step (v := (vGValue y5)) (by kernel_rfl) (by kernel_rfl) ⟨by kernel_rfl, by kernel_rfl, trivial⟩
 refine so ?_
 let a10 : St := a7.p [(19, (vB (decide (y1.1 = 3)))), (20, (vB (decide (y1.1 = 3))))]
 refine st 2 a10 (nx ?_)
 refine cd h (fun h => ?_) fun h => ?_
 refine so ?_
 let a11 : St := a10.p [(21, (.ptr 1000000 0))]
 refine st 1 a11 (callg_step ⟨[(1000000, 1000000)], [], [], [], [], [], [], [], []⟩ (m := sL1Whole y1.2) (S' := fun (y : Int × GL1Cur) => ⟨(22, (vI y.1)) :: a11.env, [(2, [(vI 0), (vI 0), (vS [])]), (1000000, bGL1Cur y.2)]⟩) h (OK_sL1Whole y1.2) (by kernel_rfl) (by kernel_rfl) (by kernel_rfl) (by kernel_rfl) (fun y => by kernel_rfl) (fun y => by kernel_rfl) ?_)
 clear h; intro y6 h
 refine cs h (OK_sIntValue y6.1) fun y7 h => ?_
 let a12 : St := ⟨(23, (vGValue y7)) :: (22, (vI y6.1)) :: a11.env, [(2, bGValue y7), (1000000, bGL1Cur y6.2)]⟩
 refine st 1 a12 (nx (ri (br (tr ?_))))
 injection h with h; subst h
 exact ret1_step (v := (vGValue y7)) (by kernel_rfl) (by kernel_rfl) ⟨by kernel_rfl, by kernel_rfl, trivial⟩
 refine ki (bn (xi (so ?_)))
 let a13 : St := a10.p [(24, (.ptr 1000000 0))]
 refine st 1 a13 (callg_step ⟨[(1000000, 1000000)], [], [], [], [], [], [], [], []⟩ (m := sL1Below y1.2 7) (S' := fun (y : Int × GL1Cur) => ⟨(25, (vI y.1)) :: a13.env, [(2, [(vI 0), (vI 0), (vS [])]), (1000000, bGL1Cur y.2)]⟩) h (OK_sL1Below y1.2 7) (by kernel_rfl) (by kernel_rfl) (by kernel_rfl) (by kernel_rfl) (fun y => by kernel_rfl) (fun y => by kernel_rfl) ?_)
 clear h; intro y8 h
 let a14 : St := ⟨(26, (vI (IntKind.wrap .i64 (y8.1 - 2)))) :: (25, (vI y8.1)) :: a13.env, [(2, [(vI 0), (vI 0), (vS [])]), (1000000, bGL1Cur y8.2)]⟩
 refine st 1 a14 (cs h (OK_sIntValue (IntKind.wrap .i64 (y8.1 - 2))) fun y9 h => ?_)
 let a15 : St := ⟨(27, (vGValue y9)) :: a14.env, [(2, bGValue y9), (1000000, bGL1Cur y8.2)]⟩
 refine st 1 a15 (nx (ri ?_))
 injection h with h; subst h
 exact ret1_step (v := (vGValue y9)) (by kernel_rfl) (by kernel_rfl) ⟨by kernel_rfl, by kernel_rfl, trivial⟩
theorem OK_sL5Bent (p0 : GL1Cur) : FOkB Try.prog 149 [(.ptr 1000000 0)] [(1000000, bGL1Cur p0)] (fun (y : GValue × GL1Cur) => (vGValue y.1)) (fun (y : GValue × GL1Cur) => [(1000000, bGL1Cur y.2)]) (sL5Bent p0) := by
 intro r h
 rw [sL5Bent] at h
 refine acalls_of_fn trsL5Bent (Nat.le_of_ble_eq_true rfl) (by intro n hn; simp at hn; simp only [NX]; omega) ?_
 show avc Try.prog acsL5Bent (qsL5Bent _) ⟨[(0, (.ptr 1000000 0))], [(1000000, bGL1Cur p0)]⟩
 delta acsL5Bent
 refine so ?_
 let a0 : St := ⟨[(2, (.ptr 2 0)), (0, (.ptr 1000000 0))], [(2, [(vI 0), (vI 0), (vS [])]), (1000000, bGL1Cur p0)]⟩
 refine st 1 a0 (nx (so ?_))
 let a1 : St := a0.p [(4, (.ptr 1000000 0))]
 refine st 1 a1 (callg_step ⟨[(1000000, 1000000)], [], [], [], [], [], [], [], []⟩ (m := sL5Right p0) (S' := fun (y : GValue × GL1Cur) => ⟨(5, (vGValue y.1)) :: a1.env, [(2, [(vI 0), (vI 0), (vS [])]), (1000000, bGL1Cur y.2)]⟩) h (OK_sL5Right p0) (by kernel_rfl) (by kernel_rfl) (by kernel_rfl) (by kernel_rfl) (fun y => by kernel_rfl) (fun y => by kernel_rfl) ?_)
 clear h; intro y1 h
 let a2 : St := ⟨(3, (.ptr 3 0)) :: (5, (vGValue y1.1)) :: a1.env, [(3, bGValue y1.1), (2, [(vI 0), (vI 0), (vS [])]), (1000000, bGL1Cur y1.2)]⟩
 refine st 2 a2 (nx (si (so ?_)))
 let a3 : St := a2.p [(6, (.ptr 1000000 0))]
 refine st 1 a3 (callg_step ⟨[(1000000, 1000000)], [], [], [], [], [], [], [], []⟩ (m := sL1Below y1.2 14) (S' := fun (y : Int × GL1Cur) => ⟨(7, (vI y.1)) :: a3.env, [(3, bGValue y1.1), (2, [(vI 0), (vI 0), (vS [])]), (1000000, bGL1Cur y.2)]⟩) h (OK_sL1Below y1.2 14) (by kernel_rfl) (by kernel_rfl) (by kernel_rfl) (by kernel_rfl) (fun y => by kernel_rfl) (fun y => by kernel_rfl) ?_)
 clear h; intro y2 h
 refine nx (bi (so ?_))
 let a4 : St := ⟨(8, (vB (decide (y2.1 = 0)))) :: (9, (vB (decide (y2.1 = 0)))) :: (7, (vI y2.1)) :: a3.env, [(3, bGValue y1.1), (2, [(vI 0), (vI 0), (vS [])]), (1000000, bGL1Cur y2.2)]⟩
 refine st 2 a4 (nx ?_)
 refine cd h (fun h => ?_) fun h => ?_
 refine oi ?_
 let a5 : St := a4.p [(10, (.ptr 1000000 0))]
 refine st 1 a5 (callg_step ⟨[(1000000, 1000000)], [], [], [], [], [], [], [], []⟩ (m := sL1Below y2.2 6) (S' := fun (y : Int × GL1Cur) => ⟨(11, (vI y.1)) :: a5.env, [(3, bGValue y1.1), (2, [(vI 0), (vI 0), (vS [])]), (1000000, bGL1Cur y.2)]⟩) h (OK_sL1Below y2.2 6) (by kernel_rfl) (by kernel_rfl) (by kernel_rfl) (by kernel_rfl) (fun y => by kernel_rfl) (fun y => by kernel_rfl) ?_)
 clear h; intro y3 h
 let a6 : St := ⟨(13, (.ptr 3 0)) :: (12, (vI (IntKind.wrap .i64 (y3.1 - 1)))) :: (11, (vI y3.1)) :: a5.env, [(3, bGValue (GValue.mk (IntKind.wrap .i64 (y3.1 - 1)) y1.1.num y1.1.text)), (2, [(vI 0), (vI 0), (vS [])]), (1000000, bGL1Cur y3.2)]⟩
 exact st 3 a6 (ni (bn (next_step (s' := stsL5Bent_J0 (IntKind.wrap .i64 (y3.1 - 1)) y1.1.num y1.1.text y3.2.b y3.2.i y3.2.h) (wr [] (es (es er_nil)) (bs_ (bs_ (bs_ br_nil)))) (OK_sL5Bent_J0 (IntKind.wrap .i64 (y3.1 - 1)) y1.1.num y1.1.text y3.2.b y3.2.i y3.2.h _ h))))
 refine so ?_
 let a7 : St := a4.p [(14, (vB (decide (y2.1 = 1)))), (15, (vB (decide (y2.1 = 1))))]
 refine st 2 a7 (nx ?_)
 refine cd h (fun h => ?_) fun h => ?_
 refine oi ?_
 let a8 : St := a7.p [(16, (.ptr 1000000 0))]
 refine st 1 a8 (callg_step ⟨[(1000000, 1000000)], [], [], [], [], [], [], [], []⟩ (m := sL1Whole y2.2) (S' := fun (y : Int × GL1Cur) => ⟨(17, (vI y.1)) :: a8.env, [(3, bGValue y1.1), (2, [(vI 0), (vI 0), (vS [])]), (1000000, bGL1Cur y.2)]⟩) h (OK_sL1Whole y2.2) (by kernel_rfl) (by kernel_rfl) (by kernel_rfl) (by kernel_rfl) (fun y => by kernel_rfl) (fun y => by kernel_rfl) ?_)
 clear h; intro y4 h
 let a9 : St := ⟨(18, (.ptr 3 1)) :: (17, (vI y4.1)) :: a8.env, [(3, bGValue (GValue.mk y1.1.kind y4.1 y1.1.text)), (2, [(vI 0), (vI 0), (vS [])]), (1000000, bGL1Cur y4.2)]⟩
 exact st 2 a9 (ni (bn (next_step (s' := stsL5Bent_J0 y1.1.kind y4.1 y1.1.text y4.2.b y4.2.i y4.2.h) (wr [] (es (es er_nil)) (bs_ (bs_ (bs_ br_nil)))) (OK_sL5Bent_J0 y1.1.kind y4.1 y1.1.text y4.2.b y4.2.i y4.2.h _ h))))
 refine so ?_
 let a10 : St := a7.p [(19, (vB (decide (y2.1 = 2)))), (20, (vB (decide (y2.1 = 2))))]
 refine st 2 a10 (nx ?_)
 refine cd h (fun h => ?_) fun h => ?_
 refine so ?_
 let a11 : St := a10.p [(21, (.ptr 1000000 0))]
 refine st 1 a11 (bsl_step (l := ([[120], [], [108, 111, 110, 103]] : List (List UInt8))) (f := cStr) (g := cStr) (by kernel_rfl) (fun _ => rfl) (by kernel_rfl) ?_)
 refine callg_step ⟨[(1000000, 1000000)], [], [], [], [], [], [], [], []⟩ (m := sL1Pick y2.2 ([[120], [], [108, 111, 110, 103]] : List (List UInt8))) (S' := fun (y : (List UInt8) × GL1Cur) => ⟨(23, (vS y.1)) :: (22, (.osl 22 9 1 (([[120], [], [108, 111, 110, 103]] : List (List UInt8)).map cStr))) :: a11.env, [(3, bGValue y1.1), (2, [(vI 0), (vI 0), (vS [])]), (1000000, bGL1Cur y.2)]⟩) h (OK_sL1Pick y2.2 ([[120], [], [108, 111, 110, 103]] : List (List UInt8))) (by kernel_rfl) (by kernel_rfl) (by kernel_rfl) (by kernel_rfl) (fun y => by kernel_rfl) (fun y => by kernel_rfl) ?_
 clear h; intro y5 h
 let a12 : St := ⟨(24, (.ptr 3 2)) :: (23, (vS y5.1)) :: (22, (.osl 22 9 1 (([[120], [], [108, 111, 110, 103]] : List (List UInt8)).map cStr))) :: a11.env, [(3, bGValue (GValue.mk y1.1.kind y1.1.num y5.1)), (2, [(vI 0), (vI 0), (vS [])]), (1000000, bGL1Cur y5.2)]⟩
 exact st 2 a12 (nx (bi (loop_go (s' := stsL5Bent_L1 y1 y5.1 y5.2.b y5.2.i y5.2.h) (wr [] (es (es (es er_nil))) (bs_ (bs_ (bs_ br_nil)))) (OK_sL5Bent_L1 y1 y5.1 y5.2.b y5.2.i y5.2.h _ h))))
 exact ki (bn (next_step (s' := stsL5Bent_J0 y1.1.kind y1.1.num y1.1.text y2.2.b y2.2.i y2.2.h) (wr [] (es (es er_nil)) (bs_ (bs_ (bs_ br_nil)))) (OK_sL5Bent_J0 y1.1.kind y1.1.num y1.1.text y2.2.b y2.2.i y2.2.h _ h)))
theorem OK_sL7Bent_X_J0 (b3_0 : Int) (b3_1 : Int) (b3_2 : Bool) (b3_3 : Int) (b3_4 : Int) (b3_5 : (List UInt8)) (b3_6 : (List UInt8)) (b3_7 : (List UInt8)) (b1000000_0 : (List Int)) (b1000000_1 : Int) (b1000000_2 : Int) (b60135000_0 : (List GExpr)) (b60135001_0 : (List GQuery)) (r : GExpr × GL1Cur) (h : sL7Bent_X_J0 b3_0 b3_1 b3_2 b3_3 b3_4 b3_5 b3_6 b3_7 b1000000_0 b1000000_1 b1000000_2 b60135000_0 b60135001_0 = some r) : avc Try.prog acsL7Bent_X_J0 (qsL7Bent_X r) (stsL7Bent_X_J0 b3_0 b3_1 b3_2 b3_3 b3_4 b3_5 b3_6 b3_7 b1000000_0 b1000000_1 b1000000_2 b60135000_0 b60135001_0) := by
 rw [sL7Bent_X_J0] at h
 delta acsL7Bent_X_J0
 refine so ?_
 let a30 : St := ⟨(81, (.agv [(vI b3_0), (vI b3_1), (vB b3_2), (vI b3_3), (vI b3_4), (vS b3_5), (vS b3_6), (vS b3_7), (.tre 60135000), (.tre 60135001)])) :: (stsL7Bent_X_J0 b3_0 b3_1 b3_2 b3_3 b3_4 b3_5 b3_6 b3_7 b1000000_0 b1000000_1 b1000000_2 b60135000_0 b60135001_0).env, [(3, [(vI b3_0), (vI b3_1), (vB b3_2), (vI b3_3), (vI b3_4), (vS b3_5), (vS b3_6), (vS b3_7), (.tre 60135000), (.tre 60135001)]), (4, [(vI b3_0), (vI b3_1), (vB b3_2), (vI b3_3), (vI b3_4), (vS b3_5), (vS b3_6), (vS b3_7), (.tre 60135000), (.tre 60135001)]), (1000000, bGL1Cur (GL1Cur.mk b1000000_0 b1000000_1 b1000000_2)), (60135000, [(.trc 10 (b60135000_0.map cGExpr))]), (60135001, [(.trc 6 (b60135001_0.map cGQuery))])]⟩
 refine st 2 a30 (nx ?_)
 refine ret_wk (s' := ⟨[(4, (.ptr 4 0))], [(4, [(vI b3_0), (vI b3_1), (vB b3_2), (vI b3_3), (vI b3_4), (vS b3_5), (vS b3_6), (vS b3_7), (.tre 10000008), (.tre 10000009)]), (1000000, bGL1Cur (GL1Cur.mk b1000000_0 b1000000_1 b1000000_2)), (3001009, [.trd]), (3001008, [.trd]), (10000008, [(.trc 10 (b60135000_0.map cGExpr))]), (10000009, [(.trc 6 (b60135001_0.map cGQuery))])]⟩) (tw [.rn [(60135000, 10000008), (60135001, 10000009)], .kl 3001008, .kl 3001009] (wr [] (es er_nil) (br_cons (c0 := [(vI b3_0), (vI b3_1), (vB b3_2), (vI b3_3), (vI b3_4), (vS b3_5), (vS b3_6), (vS b3_7), (.tre 10000008), (.tre 10000009)]) (by kernel_rfl) (vrs_cons (vr_same (by kernel_rfl) (by kernel_rfl)) (vrs_cons (vr_same (by kernel_rfl) (by kernel_rfl)) (vrs_cons (vr_same (by kernel_rfl) (by kernel_rfl)) (vrs_cons (vr_same (by kernel_rfl) (by kernel_rfl)) (vrs_cons (vr_same (by kernel_rfl) (by kernel_rfl)) (vrs_cons (vr_same (by kernel_rfl) (by kernel_rfl)) (vrs_cons (vr_same (by kernel_rfl) (by kernel_rfl)) (vrs_cons (vr_same (by kernel_rfl) (by kernel_rfl)) (vrs_cons (vr_same (by kernel_rfl) (by kernel_rfl)) (vrs_cons (vr_same (by kernel_rfl) (by kernel_rfl)) (vrs_nil))))))))))) (br_cons (c0 := [(.d (.sl 1 (b1000000_0.map cU8))), (vI b1000000_1), (vI b1000000_2)]) (by kernel_rfl) (vrs_cons (vr_same (by kernel_rfl) (by kernel_rfl)) (vrs_cons (vr_same (by kernel_rfl) (by kernel_rfl)) (vrs_cons (vr_same (by kernel_rfl) (by kernel_rfl)) (vrs_nil)))) (bs_ (bs_ (bs_ (bs_ br_nil)))))))) ?_
 injection h with h; subst h
 exact ret1_step (v := (.agv [(vI b3_0), (vI b3_1), (vB b3_2), (vI b3_3), (vI b3_4), (vS b3_5), (vS b3_6), (vS b3_7), (.tre 10000008), (.tre 10000009)])) (by kernel_rfl) (by kernel_rfl) ⟨by kernel_rfl, by kernel_rfl, by kernel_rfl, by kernel_rfl, by kernel_rfl, by kernel_rfl, trivial⟩
theorem OK_sL7Col_X_J1 (b3_6 : (List UInt8)) (b3_7 : (List UInt8)) (b1000000_0_6 : (List Int)) (b1000000_1_7 : Int) (b1000000_2_8 : Int) (r : GExpr × GL1Cur) (h : sL7Col_X_J1 b3_6 b3_7 b1000000_0_6 b1000000_1_7 b1000000_2_8 = some r) : avc Try.prog acsL7Col_X_J1 (qsL7Col_X r) (stsL7Col_X_J1 b3_6 b3_7 b1000000_0_6 b1000000_1_7 b1000000_2_8) := by
 rw [sL7Col_X_J1] at h
 delta acsL7Col_X_J1
 refine so ?_
 let a9 : St := ⟨(19, (.agv [(vI 2), (vI 0), (vB false), (vI 0), (vI 0), (vS []), (vS b3_6), (vS b3_7), (.nil 10), (.nil 6)])) :: (stsL7Col_X_J1 b3_6 b3_7 b1000000_0_6 b1000000_1_7 b1000000_2_8).env, [(2, [(vI 2), (vI 0), (vB false), (vI 0), (vI 0), (vS []), (vS b3_6), (vS b3_7), (.nil 10), (.nil 6)]), (3, [(vI 2), (vI 0), (vB false), (vI 0), (vI 0), (vS []), (vS b3_6), (vS b3_7), (.nil 10), (.nil 6)]), (1000000, bGL1Cur (GL1Cur.mk b1000000_0_6 b1000000_1_7 b1000000_2_8))]⟩
 refine st 2 a9 (nx ?_)
 refine ret_wk (s' := ⟨[(2, (.ptr 2 0))], [(2, [(vI 2), (vI 0), (vB false), (vI 0), (vI 0), (vS []), (vS b3_6), (vS b3_7), (.tre 10000008), (.tre 10000009)]), (1000000, bGL1Cur (GL1Cur.mk b1000000_0_6 b1000000_1_7 b1000000_2_8)), (10000009, [(.trc 6 (([] : List GQuery).map cGQuery))]), (10000008, [(.trc 10 (([] : List GExpr).map cGExpr))])]⟩) (tw [.nb 2 8 10000008, .nb 2 9 10000009] (wr [] (es er_nil) (br_cons (c0 := [(vI 2), (vI 0), (vB false), (vI 0), (vI 0), (vS []), (vS b3_6), (vS b3_7), (.tre 10000008), (.tre 10000009)]) (by kernel_rfl) (vrs_cons (vr_same (by kernel_rfl) (by kernel_rfl)) (vrs_cons (vr_same (by kernel_rfl) (by kernel_rfl)) (vrs_cons (vr_same (by kernel_rfl) (by kernel_rfl)) (vrs_cons (vr_same (by kernel_rfl) (by kernel_rfl)) (vrs_cons (vr_same (by kernel_rfl) (by kernel_rfl)) (vrs_cons (vr_same (by kernel_rfl) (by kernel_rfl)) (vrs_cons (vr_same (by kernel_rfl) (by kernel_rfl)) (vrs_cons (vr_same (by kernel_rfl) (by kernel_rfl)) (vrs_cons (vr_same (by kernel_rfl) (by kernel_rfl)) (vrs_cons (vr_same (by kernel_rfl) (by kernel_rfl)) (vrs_nil))))))))))) (br_cons (c0 := [(.d (.sl 1 (b1000000_0_6.map cU8))), (vI b1000000_1_7), (vI b1000000_2_8)]) (by kernel_rfl) (vrs_cons (vr_same (by kernel_rfl) (by kernel_rfl)) (vrs_cons (vr_same (by kernel_rfl) (by kernel_rfl)) (vrs_cons (vr_same (by kernel_rfl) (by kernel_rfl)) (vrs_nil)))) (bs_ (bs_ br_nil)))))) ?_
 injection h with h; subst h
 exact ret1_step (v := (.agv [(vI 2), (vI 0), (vB false), (vI 0), (vI 0), (vS []), (vS b3_6), (vS b3_7), (.tre 10000008), (.tre 10000009)])) (by kernel_rfl) (by kernel_rfl) ⟨by kernel_rfl, by kernel_rfl, by kernel_rfl, by kernel_rfl, trivial⟩
end Go.Proofs.Ytcfkipkafnlliaa
