/- That the code computes these functions (printed by a program). -/
import Derived.KernelRfl
import Derived.Test.YtdiknmniclancaaGreatAbG2
import Derived.Test.YtdiknmniclancaaGreatAbC3
import Derived.Test.YtdiknmniclancaaGreatFExactStmtOk
import Derived.Test.YtdiknmniclancaaGreatProg
namespace Go.Proofs.YtdiknmniclancaaGreat
open Go Go.RowKit Go.Ab
def cI (n : Int) : List D := [.i .i64 n]
def cU8 (n : Int) : List D := [.i .u8 n]
def cU64 (n : Int) : List D := [.i .u64 n]
def cI32 (n : Int) : List D := [.i .i32 n]
def cU32 (n : Int) : List D := [.i .u32 n]
def cB (b : Bool) : List D := [.b b]
def cStr (s : List UInt8) : List D := [.s (bs s)]
def cSl {α : Type} (sz : Nat) (f : α → List D) (l : List α) : List D := [.sl sz (l.map f)]
def cGValue (x : GValue) : List D := [(.i .i64 x.kind), (.i .i64 x.num), (.s (bs x.text))]
def vGValue (x : GValue) : V := .agg (cGValue x)
def bGValue (x : GValue) : List V := (cGValue x).map V.d
mutual
def cGExpr : GExpr → List D
  | ⟨a0, a1, a2, a3, a4, a5, a6, a7⟩ => [(.i .i64 a0)] ++ [(.i .i64 a1)] ++ [(.b a2)] ++ cGValue a3 ++ [(.s (bs a4))] ++ [(.s (bs a5))] ++ [.sl 10 (cLGExpr a6)] ++ [.sl 6 (cLGQuery a7)]
def cGItem : GItem → List D
  | ⟨a0, a1, a2, a3⟩ => [(.b a0)] ++ [(.s (bs a1))] ++ cGExpr a2 ++ [(.s (bs a3))]
def cGQuery : GQuery → List D
  | ⟨a0, a1, a2, a3, a4, a5⟩ => [(.b a0)] ++ [.sl 13 (cLGItem a1)] ++ [.sl 3 (cLGSource a2)] ++ [.sl 10 (cLGExpr a3)] ++ [.sl 11 (cLGSortKey a4)] ++ [(.i .i64 a5)]
def cGSortKey : GSortKey → List D
  | ⟨a0, a1⟩ => cGExpr a0 ++ [(.b a1)]
def cGSource : GSource → List D
  | ⟨a0, a1, a2⟩ => [(.s (bs a0))] ++ [(.s (bs a1))] ++ [.sl 10 (cLGExpr a2)]
def cLGExpr : List GExpr → List (List D)
  | [] => []
  | x :: l => cGExpr x :: cLGExpr l
def cLGItem : List GItem → List (List D)
  | [] => []
  | x :: l => cGItem x :: cLGItem l
def cLGQuery : List GQuery → List (List D)
  | [] => []
  | x :: l => cGQuery x :: cLGQuery l
def cLGSortKey : List GSortKey → List (List D)
  | [] => []
  | x :: l => cGSortKey x :: cLGSortKey l
def cLGSource : List GSource → List (List D)
  | [] => []
  | x :: l => cGSource x :: cLGSource l
end
theorem cLGExpr_eq : ∀ l : List GExpr, cLGExpr l = l.map cGExpr
  | [] => by simp only [cLGExpr, List.map_nil]
  | x :: l => by simp only [cLGExpr, List.map_cons, cLGExpr_eq l]
theorem cLGItem_eq : ∀ l : List GItem, cLGItem l = l.map cGItem
  | [] => by simp only [cLGItem, List.map_nil]
  | x :: l => by simp only [cLGItem, List.map_cons, cLGItem_eq l]
theorem cLGQuery_eq : ∀ l : List GQuery, cLGQuery l = l.map cGQuery
  | [] => by simp only [cLGQuery, List.map_nil]
  | x :: l => by simp only [cLGQuery, List.map_cons, cLGQuery_eq l]
theorem cLGSortKey_eq : ∀ l : List GSortKey, cLGSortKey l = l.map cGSortKey
  | [] => by simp only [cLGSortKey, List.map_nil]
  | x :: l => by simp only [cLGSortKey, List.map_cons, cLGSortKey_eq l]
theorem cLGSource_eq : ∀ l : List GSource, cLGSource l = l.map cGSource
  | [] => by simp only [cLGSource, List.map_nil]
  | x :: l => by simp only [cLGSource, List.map_cons, cLGSource_eq l]
def oGExpr (x : GExpr) : List D := [(.i .i64 x.kind), (.i .i64 x.op), (.b x.not_), (.i .i64 x.value.kind), (.i .i64 x.value.num), (.s (bs x.value.text)), (.s (bs x.qual)), (.s (bs x.name)), (.sl 10 (x.kids.map cGExpr)), (.sl 6 (x.sub.map cGQuery))]
def oGItem (x : GItem) : List D := [(.b x.star), (.s (bs x.qual)), (.i .i64 x.expr.kind), (.i .i64 x.expr.op), (.b x.expr.not_), (.i .i64 x.expr.value.kind), (.i .i64 x.expr.value.num), (.s (bs x.expr.value.text)), (.s (bs x.expr.qual)), (.s (bs x.expr.name)), (.sl 10 (x.expr.kids.map cGExpr)), (.sl 6 (x.expr.sub.map cGQuery)), (.s (bs x.as_))]
def oGQuery (x : GQuery) : List D := [(.b x.distinct), (.sl 13 (x.items.map cGItem)), (.sl 3 (x.from_.map cGSource)), (.sl 10 (x.where_.map cGExpr)), (.sl 11 (x.order.map cGSortKey)), (.i .i64 x.limit)]
def oGSortKey (x : GSortKey) : List D := [(.i .i64 x.expr.kind), (.i .i64 x.expr.op), (.b x.expr.not_), (.i .i64 x.expr.value.kind), (.i .i64 x.expr.value.num), (.s (bs x.expr.value.text)), (.s (bs x.expr.qual)), (.s (bs x.expr.name)), (.sl 10 (x.expr.kids.map cGExpr)), (.sl 6 (x.expr.sub.map cGQuery)), (.b x.desc)]
def oGSource (x : GSource) : List D := [(.s (bs x.table)), (.s (bs x.as_)), (.sl 10 (x.on_.map cGExpr))]
theorem cGExpr_eq (x : GExpr) : cGExpr x = oGExpr x := by
  obtain ⟨a0, a1, a2, a3, a4, a5, a6, a7⟩ := x
  simp only [cGExpr, oGExpr, cLGExpr_eq, cLGItem_eq, cLGQuery_eq, cLGSortKey_eq, cLGSource_eq, List.cons_append, List.nil_append, cGValue]
theorem cGItem_eq (x : GItem) : cGItem x = oGItem x := by
  obtain ⟨a0, a1, a2, a3⟩ := x
  simp only [cGItem, oGItem, cLGExpr_eq, cLGItem_eq, cLGQuery_eq, cLGSortKey_eq, cLGSource_eq, cGExpr_eq, oGExpr, List.cons_append, List.nil_append]
theorem cGQuery_eq (x : GQuery) : cGQuery x = oGQuery x := by
  obtain ⟨a0, a1, a2, a3, a4, a5⟩ := x
  simp only [cGQuery, oGQuery, cLGExpr_eq, cLGItem_eq, cLGQuery_eq, cLGSortKey_eq, cLGSource_eq, List.cons_append, List.nil_append]
theorem cGSortKey_eq (x : GSortKey) : cGSortKey x = oGSortKey x := by
  obtain ⟨a0, a1⟩ := x
  simp only [cGSortKey, oGSortKey, cLGExpr_eq, cLGItem_eq, cLGQuery_eq, cLGSortKey_eq, cLGSource_eq, cGExpr_eq, oGExpr, List.cons_append, List.nil_append]
theorem cGSource_eq (x : GSource) : cGSource x = oGSource x := by
  obtain ⟨a0, a1, a2⟩ := x
  simp only [cGSource, oGSource, cLGExpr_eq, cLGItem_eq, cLGQuery_eq, cLGSortKey_eq, cLGSource_eq, List.cons_append, List.nil_append]
def vGExpr (x : GExpr) : V := .agg (oGExpr x)
def bGExpr (x : GExpr) : List V := (oGExpr x).map V.d
def vGItem (x : GItem) : V := .agg (oGItem x)
def bGItem (x : GItem) : List V := (oGItem x).map V.d
def vGQuery (x : GQuery) : V := .agg (oGQuery x)
def bGQuery (x : GQuery) : List V := (oGQuery x).map V.d
def vGSortKey (x : GSortKey) : V := .agg (oGSortKey x)
def bGSortKey (x : GSortKey) : List V := (oGSortKey x).map V.d
def vGSource (x : GSource) : V := .agg (oGSource x)
def bGSource (x : GSource) : List V := (oGSource x).map V.d
def cGStmt (x : GStmt) : List D := [(.i .i64 x.kind), (.b x.query.distinct), (.sl 13 (x.query.items.map cGItem)), (.sl 3 (x.query.from_.map cGSource)), (.sl 10 (x.query.where_.map cGExpr)), (.sl 11 (x.query.order.map cGSortKey)), (.i .i64 x.query.limit), (.s (bs x.table)), (.sl 1 (x.rows.map (cSl 10 cGExpr))), (.sl 1 (x.cols.map cStr)), (.sl 10 (x.sets.map cGExpr)), (.sl 10 (x.where_.map cGExpr))]
def vGStmt (x : GStmt) : V := .agg (cGStmt x)
def bGStmt (x : GStmt) : List V := (cGStmt x).map V.d
def cGForm (x : GForm) : List D := [(.b x.op), (.b x.not_), (.b x.value), (.b x.name), (.i .i64 x.least), (.i .i64 x.most), (.i .i64 x.subs)]
def vGForm (x : GForm) : V := .agg (cGForm x)
def bGForm (x : GForm) : List V := (cGForm x).map V.d
def acwFnExactStmtOk : AC := (.seq (.ops [.box 1 31 0, .asg 2 (kB false)]) (.seq (.ops [.asg 3 (kI 1048576)]) (.seq (.ops [.ld 7 12 true 1, .mv 8 3, .call (some 9) 4 [7, 8], .asg 3 9]) (.seq (.seq (.ops [.mv 10 3, .bin 11 .lss 10 (kI 0)]) (.cond 11 (.seq (.ops [.asg 2 (kB true)]) .ret) .skip)) (.seq (.ops [.ld 12 12 true 1, .call (some 13) 6 [12], .call (some 14) 5 [13], .asg 4 14]) (.seq (.ops [.ld 15 12 true 1, .call (some 16) 6 [15], .alc 5 [(.d (.i .i64 0)), (.d (.b false)), (.nil 13), (.nil 3), (.nil 10), (.nil 11), (.d (.i .i64 0)), (.d (.s (bs []))), (.nil 1), (.nil 1), (.nil 10), (.nil 10)], .st 12 5 16]) (.seq (.ops [.ld 17 12 true 5, .call (some 18) 7 [17], .asg 6 18]) (.seq (.seq (.ops [.mv 19 6, .mv 20 4, .eqb 21 true 19 20]) (.cond 21 (.seq (.ops [.asg 2 (kB false)]) .ret) .skip)) (.seq (.seq (.dops [[], [], [1], [0, 2, 2], [3]] [.ld 22 12 true 5, .ld 23 12 true 1, .call (some 24) 6 [23], .call (some 25) 8 [22, 24], .not 26 25]) (.cond 26 (.seq (.ops [.asg 2 (kB false)]) .ret) .skip)) (.seq (.ops [.asg 2 (kB true)]) .ret))))))))))
theorem trwFnExactStmtOk : trFn Tryz.prog 3 = some (acwFnExactStmtOk, [.mv 0 2], 27) := by kernel_rfl
def qwFnExactStmtOk (r : Bool) : Exit → St → Prop := retQ [.mv 0 2] fun x _ => x = (fun y => (vB y)) r
def acwToStmt : AC := (.seq (.ops [.box 1 31 0, .alc 2 [(.d (.i .i64 0)), (.d (.b false)), (.nil 13), (.nil 3), (.nil 10), (.nil 11), (.d (.i .i64 0)), (.d (.s (bs []))), (.nil 1), (.nil 1), (.nil 10), (.nil 10)]]) (.seq (.ops [.alc 3 [(.d (.i .i64 0)), (.d (.b false)), (.nil 13), (.nil 3), (.nil 10), (.nil 11), (.d (.i .i64 0)), (.d (.s (bs []))), (.nil 1), (.nil 1), (.nil 10), (.nil 10)]]) (.seq (.ops [.fa 4 0 1, .ld 5 1 false 4, .fa 6 0 3, .st 1 6 5]) (.seq (.ops [.fa 7 1 1, .ld 8 6 true 7, .call (some 9) 16 [8], .fa 10 1 3, .st 6 10 9]) (.seq (.ops [.fa 11 7 1, .ld 12 1 false 11, .fa 13 7 3, .st 1 13 12]) (.seq (.ops [.fa 14 8 1, .ld 15 1 false 14, .call (some 16) 17 [15], .fa 17 8 3, .st 1 17 16]) (.seq (.ops [.fa 18 9 1, .ld 19 1 false 18, .call (some 20) 18 [19], .fa 21 9 3, .st 1 21 20]) (.seq (.ops [.fa 22 10 1, .ld 23 1 false 22, .call (some 24) 19 [23], .fa 25 10 3, .st 1 25 24]) (.seq (.ops [.fa 26 11 1, .ld 27 1 false 26, .call (some 28) 19 [27], .fa 29 11 3, .st 1 29 28]) (.seq (.ops [.ld 30 12 true 3, .st 12 2 30]) .ret))))))))))
theorem trwToStmt : trFn Tryz.prog 6 = some (acwToStmt, [.ld 0 12 true 2], 31) := by kernel_rfl
def qwToStmt (r : GStmt) : Exit → St → Prop := retQ [.ld 0 12 true 2] fun x _ => x = (fun y => (vGStmt y)) r
def acwToExprS_L0 : AC := (.loop (.seq (.seq (.ops [.mv 8 4, .mv 9 0, .len 10 9, .bin 11 .lss 8 10]) (.cond 11 .skip (.exit 0))) (.seq (.block 1 (.ops [.mv 14 3, .mv 15 4, .mv 16 0, .mv 17 4, .ia 18 10 16 17, .ld 19 10 true 18, .call (some 20) 52 [19], .ia 21 10 14 15, .st 10 21 20])) (.ops [.mv 12 4, .bin 13 .add 12 (kI 1), .asg 4 13]))))
def acwToExprS : AC := (.seq (.ops [.asg 2 (.c (.nil 10))]) (.seq (.ops [.mv 5 0, .len 6 5, .mks 7 82 10 136 [(.i .i64 0), (.i .i64 0), (.b false), (.i .i64 0), (.i .i64 0), (.s (bs [])), (.s (bs [])), (.s (bs [])), (.sl 10 []), (.sl 6 [])] 6 6, .asg 3 7]) (.seq (.seq (.ops [.asg 4 (kI 0)]) (.block 0 acwToExprS_L0)) (.seq (.ops [.mv 22 3, .asg 2 22]) .ret))))
theorem trwToExprS : trFn Tryz.prog 19 = some (acwToExprS, [.mv 0 2], 23) := by kernel_rfl
def qwToExprS (r : (List GExpr)) : Exit → St → Prop := retQ [.mv 0 2] fun x _ => x = (fun y => (.d (.sl 10 (y.map cGExpr)))) r
def qwToExprS_0 (r : (List GExpr)) : Exit → St → Prop := (thenK (wkK (avc Tryz.prog (.seq (.ops [.mv 22 3, .asg 2 22]) .ret) (qwToExprS r))) (qwToExprS r))
def qwToExprS_1 (r : (List GExpr)) : Exit → St → Prop := (blockK 0 (qwToExprS_0 r))
def stwToExprS_L0 (p0 : (List GExpr)) (x4 : Int) (b7_0 : (List GExpr)) : St := ⟨[(0, (.d (.sl 10 (p0.map cGExpr)))), (3, (.msl 7 10 0 b7_0.length b7_0.length)), (4, (vI x4))], [(7, rowsV (b7_0.map cGExpr))]⟩
def acwToExpr : AC := (.seq (.ops [.box 1 74 0, .alc 2 [(.d (.i .i64 0)), (.d (.i .i64 0)), (.d (.b false)), (.d (.i .i64 0)), (.d (.i .i64 0)), (.d (.s (bs []))), (.d (.s (bs []))), (.d (.s (bs []))), (.nil 10), (.nil 6)]]) (.seq (.ops [.alc 3 [(.d (.i .i64 0)), (.d (.i .i64 0)), (.d (.b false)), (.d (.i .i64 0)), (.d (.i .i64 0)), (.d (.s (bs []))), (.d (.s (bs []))), (.d (.s (bs []))), (.nil 10), (.nil 6)]]) (.seq (.ops [.fa 4 0 1, .ld 5 1 false 4, .fa 6 0 3, .st 1 6 5]) (.seq (.ops [.fa 7 1 1, .ld 8 1 false 7, .fa 9 1 3, .st 1 9 8]) (.seq (.ops [.fa 10 2 1, .ld 11 1 false 10, .fa 12 2 3, .st 1 12 11]) (.seq (.ops [.fa 13 3 1, .ld 14 3 true 13, .call (some 15) 90 [14], .fa 16 3 3, .st 3 16 15]) (.seq (.ops [.fa 17 6 1, .ld 18 1 false 17, .fa 19 6 3, .st 1 19 18]) (.seq (.ops [.fa 20 7 1, .ld 21 1 false 20, .fa 22 7 3, .st 1 22 21]) (.seq (.ops [.fa 23 8 1, .ld 24 1 false 23, .call (some 25) 19 [24], .fa 26 8 3, .st 1 26 25]) (.seq (.ops [.fa 27 9 1, .ld 28 1 false 27, .call (some 29) 91 [28], .fa 30 9 3, .st 1 30 29]) (.seq (.ops [.ld 31 10 true 3, .st 10 2 31]) .ret)))))))))))
theorem trwToExpr : trFn Tryz.prog 52 = some (acwToExpr, [.ld 0 10 true 2], 32) := by kernel_rfl
def qwToExpr (r : GExpr) : Exit → St → Prop := retQ [.ld 0 10 true 2] fun x _ => x = (fun y => (vGExpr y)) r
def acwToValue : AC := (.seq (.ops [.box 1 71 0, .alc 2 [(.d (.i .i64 0)), (.d (.i .i64 0)), (.d (.s (bs [])))]]) (.seq (.ops [.alc 3 [(.d (.i .i64 0)), (.d (.i .i64 0)), (.d (.s (bs [])))]]) (.seq (.ops [.fa 4 0 1, .ld 5 1 false 4, .fa 6 0 3, .st 1 6 5]) (.seq (.ops [.fa 7 1 1, .ld 8 1 false 7, .fa 9 1 3, .st 1 9 8]) (.seq (.ops [.fa 10 2 1, .ld 11 1 false 10, .fa 12 2 3, .st 1 12 11]) (.seq (.ops [.ld 13 3 true 3, .st 3 2 13]) .ret))))))
theorem trwToValue : trFn Tryz.prog 90 = some (acwToValue, [.ld 0 3 true 2], 14) := by kernel_rfl
def qwToValue (r : GValue) : Exit → St → Prop := retQ [.ld 0 3 true 2] fun x _ => x = (fun y => (vGValue y)) r
def acwToQueryS_L0 : AC := (.loop (.seq (.seq (.ops [.mv 8 4, .mv 9 0, .len 10 9, .bin 11 .lss 8 10]) (.cond 11 .skip (.exit 0))) (.seq (.block 1 (.ops [.mv 14 3, .mv 15 4, .mv 16 0, .mv 17 4, .ia 18 6 16 17, .ld 19 6 true 18, .call (some 20) 16 [19], .ia 21 6 14 15, .st 6 21 20])) (.ops [.mv 12 4, .bin 13 .add 12 (kI 1), .asg 4 13]))))
def acwToQueryS : AC := (.seq (.ops [.asg 2 (.c (.nil 6))]) (.seq (.ops [.mv 5 0, .len 6 5, .mks 7 39 6 112 [(.b false), (.sl 13 []), (.sl 3 []), (.sl 10 []), (.sl 11 []), (.i .i64 0)] 6 6, .asg 3 7]) (.seq (.seq (.ops [.asg 4 (kI 0)]) (.block 0 acwToQueryS_L0)) (.seq (.ops [.mv 22 3, .asg 2 22]) .ret))))
theorem trwToQueryS : trFn Tryz.prog 91 = some (acwToQueryS, [.mv 0 2], 23) := by kernel_rfl
def qwToQueryS (r : (List GQuery)) : Exit → St → Prop := retQ [.mv 0 2] fun x _ => x = (fun y => (.d (.sl 6 (y.map cGQuery)))) r
def qwToQueryS_0 (r : (List GQuery)) : Exit → St → Prop := (thenK (wkK (avc Tryz.prog (.seq (.ops [.mv 22 3, .asg 2 22]) .ret) (qwToQueryS r))) (qwToQueryS r))
def qwToQueryS_1 (r : (List GQuery)) : Exit → St → Prop := (blockK 0 (qwToQueryS_0 r))
def stwToQueryS_L0 (p0 : (List GQuery)) (x4 : Int) (b7_0 : (List GQuery)) : St := ⟨[(0, (.d (.sl 6 (p0.map cGQuery)))), (3, (.msl 7 6 0 b7_0.length b7_0.length)), (4, (vI x4))], [(7, rowsV (b7_0.map cGQuery))]⟩
def acwToQuery : AC := (.seq (.ops [.box 1 27 0, .alc 2 [(.d (.b false)), (.nil 13), (.nil 3), (.nil 10), (.nil 11), (.d (.i .i64 0))]]) (.seq (.ops [.alc 3 [(.d (.b false)), (.nil 13), (.nil 3), (.nil 10), (.nil 11), (.d (.i .i64 0))]]) (.seq (.ops [.fa 4 0 1, .ld 5 1 false 4, .fa 6 0 3, .st 1 6 5]) (.seq (.ops [.fa 7 1 1, .ld 8 1 false 7, .call (some 9) 49 [8], .fa 10 1 3, .st 1 10 9]) (.seq (.ops [.fa 11 2 1, .ld 12 1 false 11, .call (some 13) 50 [12], .fa 14 2 3, .st 1 14 13]) (.seq (.ops [.fa 15 3 1, .ld 16 1 false 15, .call (some 17) 19 [16], .fa 18 3 3, .st 1 18 17]) (.seq (.ops [.fa 19 4 1, .ld 20 1 false 19, .call (some 21) 51 [20], .fa 22 4 3, .st 1 22 21]) (.seq (.ops [.fa 23 5 1, .ld 24 1 false 23, .fa 25 5 3, .st 1 25 24]) (.seq (.ops [.ld 26 6 true 3, .st 6 2 26]) .ret)))))))))
theorem trwToQuery : trFn Tryz.prog 16 = some (acwToQuery, [.ld 0 6 true 2], 27) := by kernel_rfl
def qwToQuery (r : GQuery) : Exit → St → Prop := retQ [.ld 0 6 true 2] fun x _ => x = (fun y => (vGQuery y)) r
def acwToItemS_L0 : AC := (.loop (.seq (.seq (.ops [.mv 8 4, .mv 9 0, .len 10 9, .bin 11 .lss 8 10]) (.cond 11 .skip (.exit 0))) (.seq (.block 1 (.ops [.mv 14 3, .mv 15 4, .mv 16 0, .mv 17 4, .ia 18 13 16 17, .ld 19 13 true 18, .call (some 20) 87 [19], .ia 21 13 14 15, .st 13 21 20])) (.ops [.mv 12 4, .bin 13 .add 12 (kI 1), .asg 4 13]))))
def acwToItemS : AC := (.seq (.ops [.asg 2 (.c (.nil 13))]) (.seq (.ops [.mv 5 0, .len 6 5, .mks 7 89 13 176 [(.b false), (.s (bs [])), (.i .i64 0), (.i .i64 0), (.b false), (.i .i64 0), (.i .i64 0), (.s (bs [])), (.s (bs [])), (.s (bs [])), (.sl 10 []), (.sl 6 []), (.s (bs []))] 6 6, .asg 3 7]) (.seq (.seq (.ops [.asg 4 (kI 0)]) (.block 0 acwToItemS_L0)) (.seq (.ops [.mv 22 3, .asg 2 22]) .ret))))
theorem trwToItemS : trFn Tryz.prog 49 = some (acwToItemS, [.mv 0 2], 23) := by kernel_rfl
def qwToItemS (r : (List GItem)) : Exit → St → Prop := retQ [.mv 0 2] fun x _ => x = (fun y => (.d (.sl 13 (y.map cGItem)))) r
def qwToItemS_0 (r : (List GItem)) : Exit → St → Prop := (thenK (wkK (avc Tryz.prog (.seq (.ops [.mv 22 3, .asg 2 22]) .ret) (qwToItemS r))) (qwToItemS r))
def qwToItemS_1 (r : (List GItem)) : Exit → St → Prop := (blockK 0 (qwToItemS_0 r))
def stwToItemS_L0 (p0 : (List GItem)) (x4 : Int) (b7_0 : (List GItem)) : St := ⟨[(0, (.d (.sl 13 (p0.map cGItem)))), (3, (.msl 7 13 0 b7_0.length b7_0.length)), (4, (vI x4))], [(7, rowsV (b7_0.map cGItem))]⟩
def acwToItem : AC := (.seq (.ops [.box 1 110 0, .alc 2 [(.d (.b false)), (.d (.s (bs []))), (.d (.i .i64 0)), (.d (.i .i64 0)), (.d (.b false)), (.d (.i .i64 0)), (.d (.i .i64 0)), (.d (.s (bs []))), (.d (.s (bs []))), (.d (.s (bs []))), (.nil 10), (.nil 6), (.d (.s (bs [])))]]) (.seq (.ops [.alc 3 [(.d (.b false)), (.d (.s (bs []))), (.d (.i .i64 0)), (.d (.i .i64 0)), (.d (.b false)), (.d (.i .i64 0)), (.d (.i .i64 0)), (.d (.s (bs []))), (.d (.s (bs []))), (.d (.s (bs []))), (.nil 10), (.nil 6), (.d (.s (bs [])))]]) (.seq (.ops [.fa 4 0 1, .ld 5 1 false 4, .fa 6 0 3, .st 1 6 5]) (.seq (.ops [.fa 7 1 1, .ld 8 1 false 7, .fa 9 1 3, .st 1 9 8]) (.seq (.ops [.fa 10 2 1, .ld 11 10 true 10, .call (some 12) 52 [11], .fa 13 2 3, .st 10 13 12]) (.seq (.ops [.fa 14 12 1, .ld 15 1 false 14, .fa 16 12 3, .st 1 16 15]) (.seq (.ops [.ld 17 13 true 3, .st 13 2 17]) .ret)))))))
theorem trwToItem : trFn Tryz.prog 87 = some (acwToItem, [.ld 0 13 true 2], 18) := by kernel_rfl
def qwToItem (r : GItem) : Exit → St → Prop := retQ [.ld 0 13 true 2] fun x _ => x = (fun y => (vGItem y)) r
def acwToSortKeyS_L0 : AC := (.loop (.seq (.seq (.ops [.mv 8 4, .mv 9 0, .len 10 9, .bin 11 .lss 8 10]) (.cond 11 .skip (.exit 0))) (.seq (.block 1 (.ops [.mv 14 3, .mv 15 4, .mv 16 0, .mv 17 4, .ia 18 11 16 17, .ld 19 11 true 18, .call (some 20) 89 [19], .ia 21 11 14 15, .st 11 21 20])) (.ops [.mv 12 4, .bin 13 .add 12 (kI 1), .asg 4 13]))))
def acwToSortKeyS : AC := (.seq (.ops [.asg 2 (.c (.nil 11))]) (.seq (.ops [.mv 5 0, .len 6 5, .mks 7 97 11 144 [(.i .i64 0), (.i .i64 0), (.b false), (.i .i64 0), (.i .i64 0), (.s (bs [])), (.s (bs [])), (.s (bs [])), (.sl 10 []), (.sl 6 []), (.b false)] 6 6, .asg 3 7]) (.seq (.seq (.ops [.asg 4 (kI 0)]) (.block 0 acwToSortKeyS_L0)) (.seq (.ops [.mv 22 3, .asg 2 22]) .ret))))
theorem trwToSortKeyS : trFn Tryz.prog 51 = some (acwToSortKeyS, [.mv 0 2], 23) := by kernel_rfl
def qwToSortKeyS (r : (List GSortKey)) : Exit → St → Prop := retQ [.mv 0 2] fun x _ => x = (fun y => (.d (.sl 11 (y.map cGSortKey)))) r
def qwToSortKeyS_0 (r : (List GSortKey)) : Exit → St → Prop := (thenK (wkK (avc Tryz.prog (.seq (.ops [.mv 22 3, .asg 2 22]) .ret) (qwToSortKeyS r))) (qwToSortKeyS r))
def qwToSortKeyS_1 (r : (List GSortKey)) : Exit → St → Prop := (blockK 0 (qwToSortKeyS_0 r))
def stwToSortKeyS_L0 (p0 : (List GSortKey)) (x4 : Int) (b7_0 : (List GSortKey)) : St := ⟨[(0, (.d (.sl 11 (p0.map cGSortKey)))), (3, (.msl 7 11 0 b7_0.length b7_0.length)), (4, (vI x4))], [(7, rowsV (b7_0.map cGSortKey))]⟩
def acwToSortKey : AC := (.seq (.ops [.box 1 116 0, .alc 2 [(.d (.i .i64 0)), (.d (.i .i64 0)), (.d (.b false)), (.d (.i .i64 0)), (.d (.i .i64 0)), (.d (.s (bs []))), (.d (.s (bs []))), (.d (.s (bs []))), (.nil 10), (.nil 6), (.d (.b false))]]) (.seq (.ops [.alc 3 [(.d (.i .i64 0)), (.d (.i .i64 0)), (.d (.b false)), (.d (.i .i64 0)), (.d (.i .i64 0)), (.d (.s (bs []))), (.d (.s (bs []))), (.d (.s (bs []))), (.nil 10), (.nil 6), (.d (.b false))]]) (.seq (.ops [.fa 4 0 1, .ld 5 10 true 4, .call (some 6) 52 [5], .fa 7 0 3, .st 10 7 6]) (.seq (.ops [.fa 8 10 1, .ld 9 1 false 8, .fa 10 10 3, .st 1 10 9]) (.seq (.ops [.ld 11 11 true 3, .st 11 2 11]) .ret)))))
theorem trwToSortKey : trFn Tryz.prog 89 = some (acwToSortKey, [.ld 0 11 true 2], 12) := by kernel_rfl
def qwToSortKey (r : GSortKey) : Exit → St → Prop := retQ [.ld 0 11 true 2] fun x _ => x = (fun y => (vGSortKey y)) r
def acwToSourceS_L0 : AC := (.loop (.seq (.seq (.ops [.mv 8 4, .mv 9 0, .len 10 9, .bin 11 .lss 8 10]) (.cond 11 .skip (.exit 0))) (.seq (.block 1 (.ops [.mv 14 3, .mv 15 4, .mv 16 0, .mv 17 4, .ia 18 3 16 17, .ld 19 3 true 18, .call (some 20) 88 [19], .ia 21 3 14 15, .st 3 21 20])) (.ops [.mv 12 4, .bin 13 .add 12 (kI 1), .asg 4 13]))))
def acwToSourceS : AC := (.seq (.ops [.asg 2 (.c (.nil 3))]) (.seq (.ops [.mv 5 0, .len 6 5, .mks 7 92 3 56 [(.s (bs [])), (.s (bs [])), (.sl 10 [])] 6 6, .asg 3 7]) (.seq (.seq (.ops [.asg 4 (kI 0)]) (.block 0 acwToSourceS_L0)) (.seq (.ops [.mv 22 3, .asg 2 22]) .ret))))
theorem trwToSourceS : trFn Tryz.prog 50 = some (acwToSourceS, [.mv 0 2], 23) := by kernel_rfl
def qwToSourceS (r : (List GSource)) : Exit → St → Prop := retQ [.mv 0 2] fun x _ => x = (fun y => (.d (.sl 3 (y.map cGSource)))) r
def qwToSourceS_0 (r : (List GSource)) : Exit → St → Prop := (thenK (wkK (avc Tryz.prog (.seq (.ops [.mv 22 3, .asg 2 22]) .ret) (qwToSourceS r))) (qwToSourceS r))
def qwToSourceS_1 (r : (List GSource)) : Exit → St → Prop := (blockK 0 (qwToSourceS_0 r))
def stwToSourceS_L0 (p0 : (List GSource)) (x4 : Int) (b7_0 : (List GSource)) : St := ⟨[(0, (.d (.sl 3 (p0.map cGSource)))), (3, (.msl 7 3 0 b7_0.length b7_0.length)), (4, (vI x4))], [(7, rowsV (b7_0.map cGSource))]⟩
def acwToSource : AC := (.seq (.ops [.box 1 113 0, .alc 2 [(.d (.s (bs []))), (.d (.s (bs []))), (.nil 10)]]) (.seq (.ops [.alc 3 [(.d (.s (bs []))), (.d (.s (bs []))), (.nil 10)]]) (.seq (.ops [.fa 4 0 1, .ld 5 1 false 4, .fa 6 0 3, .st 1 6 5]) (.seq (.ops [.fa 7 1 1, .ld 8 1 false 7, .fa 9 1 3, .st 1 9 8]) (.seq (.ops [.fa 10 2 1, .ld 11 1 false 10, .call (some 12) 19 [11], .fa 13 2 3, .st 1 13 12]) (.seq (.ops [.ld 14 3 true 3, .st 3 2 14]) .ret))))))
theorem trwToSource : trFn Tryz.prog 88 = some (acwToSource, [.ld 0 3 true 2], 15) := by kernel_rfl
def qwToSource (r : GSource) : Exit → St → Prop := retQ [.ld 0 3 true 2] fun x _ => x = (fun y => (vGSource y)) r
def acwToStringS_L0 : AC := (.loop (.seq (.seq (.ops [.mv 8 4, .mv 9 0, .len 10 9, .bin 11 .lss 8 10]) (.cond 11 .skip (.exit 0))) (.seq (.block 1 (.ops [.mv 14 3, .mv 15 4, .mv 16 0, .mv 17 4, .ia 18 1 16 17, .ld 19 1 false 18, .ia 20 1 14 15, .st 1 20 19])) (.ops [.mv 12 4, .bin 13 .add 12 (kI 1), .asg 4 13]))))
def acwToStringS : AC := (.seq (.ops [.asg 2 (.c (.nil 1))]) (.seq (.ops [.mv 5 0, .len 6 5, .mks 7 9 1 16 [(.s (bs []))] 6 6, .asg 3 7]) (.seq (.seq (.ops [.asg 4 (kI 0)]) (.block 0 acwToStringS_L0)) (.seq (.ops [.mv 21 3, .asg 2 21]) .ret))))
theorem trwToStringS : trFn Tryz.prog 18 = some (acwToStringS, [.mv 0 2], 22) := by kernel_rfl
def qwToStringS (r : (List (List UInt8))) : Exit → St → Prop := retQ [.mv 0 2] fun x _ => x = (fun y => (.d (.sl 1 (y.map cStr)))) r
def qwToStringS_0 (r : (List (List UInt8))) : Exit → St → Prop := (thenK (wkK (avc Tryz.prog (.seq (.ops [.mv 21 3, .asg 2 21]) .ret) (qwToStringS r))) (qwToStringS r))
def qwToStringS_1 (r : (List (List UInt8))) : Exit → St → Prop := (blockK 0 (qwToStringS_0 r))
def stwToStringS_L0 (p0 : (List (List UInt8))) (x4 : Int) (b7_0 : (List (List UInt8))) : St := ⟨[(0, (.d (.sl 1 (p0.map cStr)))), (3, (.msl 7 1 0 b7_0.length b7_0.length)), (4, (vI x4))], [(7, rowsV (b7_0.map cStr))]⟩
def acwToExprSS_L0 : AC := (.loop (.seq (.seq (.ops [.mv 8 4, .mv 9 0, .len 10 9, .bin 11 .lss 8 10]) (.cond 11 .skip (.exit 0))) (.seq (.block 1 (.ops [.mv 14 3, .mv 15 4, .mv 16 0, .mv 17 4, .ia 18 1 16 17, .ld 19 1 false 18, .call (some 20) 19 [19], .ia 21 1 14 15, .st 1 21 20])) (.ops [.mv 12 4, .bin 13 .add 12 (kI 1), .asg 4 13]))))
def acwToExprSS : AC := (.seq (.ops [.asg 2 (.c (.nil 1))]) (.seq (.ops [.mv 5 0, .len 6 5, .mks 7 36 1 24 [(.sl 10 [])] 6 6, .asg 3 7]) (.seq (.seq (.ops [.asg 4 (kI 0)]) (.block 0 acwToExprSS_L0)) (.seq (.ops [.mv 22 3, .asg 2 22]) .ret))))
theorem trwToExprSS : trFn Tryz.prog 17 = some (acwToExprSS, [.mv 0 2], 23) := by kernel_rfl
def qwToExprSS (r : (List (List GExpr))) : Exit → St → Prop := retQ [.mv 0 2] fun x _ => x = (fun y => (.d (.sl 1 (y.map (cSl 10 cGExpr))))) r
def qwToExprSS_0 (r : (List (List GExpr))) : Exit → St → Prop := (thenK (wkK (avc Tryz.prog (.seq (.ops [.mv 22 3, .asg 2 22]) .ret) (qwToExprSS r))) (qwToExprSS r))
def qwToExprSS_1 (r : (List (List GExpr))) : Exit → St → Prop := (blockK 0 (qwToExprSS_0 r))
def stwToExprSS_L0 (p0 : (List (List GExpr))) (x4 : Int) (b7_0 : (List (List GExpr))) : St := ⟨[(0, (.d (.sl 1 (p0.map (cSl 10 cGExpr))))), (3, (.msl 7 1 0 b7_0.length b7_0.length)), (4, (vI x4))], [(7, rowsV (b7_0.map (cSl 10 cGExpr)))]⟩
def acwEqStmt : AC := (.seq (.ops [.box 2 42 0, .box 3 42 1, .asg 4 (kB false)]) (.seq (.seq (.ops [.fa 5 0 2, .ld 6 1 false 5, .fa 7 0 3, .ld 8 1 false 7, .bin 9 .neq 6 8]) (.cond 9 (.seq (.ops [.asg 4 (kB false)]) .ret) .skip)) (.seq (.seq (.ops [.fa 10 1 2, .ld 11 6 true 10, .fa 12 1 3, .ld 13 6 true 12, .call (some 14) 32 [11, 13], .not 15 14]) (.cond 15 (.seq (.ops [.asg 4 (kB false)]) .ret) .skip)) (.seq (.seq (.ops [.fa 16 7 2, .ld 17 1 false 16, .fa 18 7 3, .ld 19 1 false 18, .bin 20 .neq 17 19]) (.cond 20 (.seq (.ops [.asg 4 (kB false)]) .ret) .skip)) (.seq (.seq (.ops [.fa 21 8 2, .ld 22 1 false 21, .fa 23 8 3, .ld 24 1 false 23, .call (some 25) 33 [22, 24], .not 26 25]) (.cond 26 (.seq (.ops [.asg 4 (kB false)]) .ret) .skip)) (.seq (.seq (.ops [.fa 27 9 2, .ld 28 1 false 27, .fa 29 9 3, .ld 30 1 false 29, .call (some 31) 34 [28, 30], .not 32 31]) (.cond 32 (.seq (.ops [.asg 4 (kB false)]) .ret) .skip)) (.seq (.seq (.ops [.fa 33 10 2, .ld 34 1 false 33, .fa 35 10 3, .ld 36 1 false 35, .call (some 37) 35 [34, 36], .not 38 37]) (.cond 38 (.seq (.ops [.asg 4 (kB false)]) .ret) .skip)) (.seq (.seq (.ops [.fa 39 11 2, .ld 40 1 false 39, .fa 41 11 3, .ld 42 1 false 41, .call (some 43) 35 [40, 42], .not 44 43]) (.cond 44 (.seq (.ops [.asg 4 (kB false)]) .ret) .skip)) (.seq (.ops [.asg 4 (kB true)]) .ret)))))))))
theorem trwEqStmt : trFn Tryz.prog 8 = some (acwEqStmt, [.mv 0 4], 45) := by kernel_rfl
def qwEqStmt (r : Bool) : Exit → St → Prop := retQ [.mv 0 4] fun x _ => x = (fun y => (vB y)) r
def acwEqExprSS_L0 : AC := (.loop (.seq (.seq (.ops [.mv 11 5, .mv 12 0, .len 13 12, .bin 14 .lss 11 13]) (.cond 14 .skip (.exit 0))) (.seq (.block 1 (.seq (.dops [[], [], [0, 1], [2], [], [], [4, 5], [6], [3, 7], [8]] [.mv 17 0, .mv 18 5, .ia 19 1 17 18, .ld 20 1 false 19, .mv 21 1, .mv 22 5, .ia 23 1 21 22, .ld 24 1 false 23, .call (some 25) 35 [20, 24], .not 26 25]) (.cond 26 (.seq (.ops [.asg 4 (kB false)]) .ret) .skip))) (.ops [.mv 15 5, .bin 16 .add 15 (kI 1), .asg 5 16]))))
def acwEqExprSS : AC := (.seq (.ops [.asg 4 (kB false)]) (.seq (.seq (.ops [.mv 6 0, .len 7 6, .mv 8 1, .len 9 8, .bin 10 .neq 7 9]) (.cond 10 (.seq (.ops [.asg 4 (kB false)]) .ret) .skip)) (.seq (.seq (.ops [.asg 5 (kI 0)]) (.block 0 acwEqExprSS_L0)) (.seq (.ops [.asg 4 (kB true)]) .ret))))
theorem trwEqExprSS : trFn Tryz.prog 33 = some (acwEqExprSS, [.mv 0 4], 27) := by kernel_rfl
def qwEqExprSS (r : Bool) : Exit → St → Prop := retQ [.mv 0 4] fun x _ => x = (fun y => (vB y)) r
def qwEqExprSS_0 (r : Bool) : Exit → St → Prop := (thenK (wkK (avc Tryz.prog (.seq (.ops [.asg 4 (.c (.d (.b true)))]) .ret) (qwEqExprSS r))) (qwEqExprSS r))
def qwEqExprSS_1 (r : Bool) : Exit → St → Prop := (blockK 0 (qwEqExprSS_0 r))
def stwEqExprSS_L0 (p0 : (List (List GExpr))) (p1 : (List (List GExpr))) (x5 : Int) : St := ⟨[(0, (.d (.sl 1 (p0.map (cSl 10 cGExpr))))), (1, (.d (.sl 1 (p1.map (cSl 10 cGExpr))))), (5, (vI x5))], []⟩
def acwEqExprS_L0 : AC := (.loop (.seq (.seq (.ops [.mv 11 5, .mv 12 0, .len 13 12, .bin 14 .lss 11 13]) (.cond 14 .skip (.exit 0))) (.seq (.block 1 (.seq (.dops [[], [], [0, 1], [2], [], [], [4, 5], [6], [3, 7], [8]] [.mv 17 0, .mv 18 5, .ia 19 10 17 18, .ld 20 10 true 19, .mv 21 1, .mv 22 5, .ia 23 10 21 22, .ld 24 10 true 23, .call (some 25) 74 [20, 24], .not 26 25]) (.cond 26 (.seq (.ops [.asg 4 (kB false)]) .ret) .skip))) (.ops [.mv 15 5, .bin 16 .add 15 (kI 1), .asg 5 16]))))
def acwEqExprS : AC := (.seq (.ops [.asg 4 (kB false)]) (.seq (.seq (.ops [.mv 6 0, .len 7 6, .mv 8 1, .len 9 8, .bin 10 .neq 7 9]) (.cond 10 (.seq (.ops [.asg 4 (kB false)]) .ret) .skip)) (.seq (.seq (.ops [.asg 5 (kI 0)]) (.block 0 acwEqExprS_L0)) (.seq (.ops [.asg 4 (kB true)]) .ret))))
theorem trwEqExprS : trFn Tryz.prog 35 = some (acwEqExprS, [.mv 0 4], 27) := by kernel_rfl
def qwEqExprS (r : Bool) : Exit → St → Prop := retQ [.mv 0 4] fun x _ => x = (fun y => (vB y)) r
def qwEqExprS_0 (r : Bool) : Exit → St → Prop := (thenK (wkK (avc Tryz.prog (.seq (.ops [.asg 4 (.c (.d (.b true)))]) .ret) (qwEqExprS r))) (qwEqExprS r))
def qwEqExprS_1 (r : Bool) : Exit → St → Prop := (blockK 0 (qwEqExprS_0 r))
def stwEqExprS_L0 (p0 : (List GExpr)) (p1 : (List GExpr)) (x5 : Int) : St := ⟨[(0, (.d (.sl 10 (p0.map cGExpr)))), (1, (.d (.sl 10 (p1.map cGExpr)))), (5, (vI x5))], []⟩
def acwEqExpr : AC := (.seq (.ops [.box 2 82 0, .box 3 82 1, .asg 4 (kB false)]) (.seq (.seq (.ops [.fa 5 0 2, .ld 6 1 false 5, .fa 7 0 3, .ld 8 1 false 7, .bin 9 .neq 6 8]) (.cond 9 (.seq (.ops [.asg 4 (kB false)]) .ret) .skip)) (.seq (.seq (.ops [.fa 10 1 2, .ld 11 1 false 10, .fa 12 1 3, .ld 13 1 false 12, .bin 14 .neq 11 13]) (.cond 14 (.seq (.ops [.asg 4 (kB false)]) .ret) .skip)) (.seq (.seq (.ops [.fa 15 2 2, .ld 16 1 false 15, .fa 17 2 3, .ld 18 1 false 17, .eqb 19 true 16 18]) (.cond 19 (.seq (.ops [.asg 4 (kB false)]) .ret) .skip)) (.seq (.seq (.ops [.fa 20 3 2, .ld 21 3 true 20, .fa 22 3 3, .ld 23 3 true 22, .call (some 24) 103 [21, 23], .not 25 24]) (.cond 25 (.seq (.ops [.asg 4 (kB false)]) .ret) .skip)) (.seq (.seq (.ops [.fa 26 6 2, .ld 27 1 false 26, .fa 28 6 3, .ld 29 1 false 28, .bin 30 .neq 27 29]) (.cond 30 (.seq (.ops [.asg 4 (kB false)]) .ret) .skip)) (.seq (.seq (.ops [.fa 31 7 2, .ld 32 1 false 31, .fa 33 7 3, .ld 34 1 false 33, .bin 35 .neq 32 34]) (.cond 35 (.seq (.ops [.asg 4 (kB false)]) .ret) .skip)) (.seq (.seq (.ops [.fa 36 8 2, .ld 37 1 false 36, .fa 38 8 3, .ld 39 1 false 38, .call (some 40) 35 [37, 39], .not 41 40]) (.cond 41 (.seq (.ops [.asg 4 (kB false)]) .ret) .skip)) (.seq (.seq (.ops [.fa 42 9 2, .ld 43 1 false 42, .fa 44 9 3, .ld 45 1 false 44, .call (some 46) 104 [43, 45], .not 47 46]) (.cond 47 (.seq (.ops [.asg 4 (kB false)]) .ret) .skip)) (.seq (.ops [.asg 4 (kB true)]) .ret))))))))))
theorem trwEqExpr : trFn Tryz.prog 74 = some (acwEqExpr, [.mv 0 4], 48) := by kernel_rfl
def qwEqExpr (r : Bool) : Exit → St → Prop := retQ [.mv 0 4] fun x _ => x = (fun y => (vB y)) r
def acwEqValue : AC := (.seq (.ops [.box 2 79 0, .box 3 79 1, .asg 4 (kB false)]) (.seq (.seq (.ops [.fa 5 0 2, .ld 6 1 false 5, .fa 7 0 3, .ld 8 1 false 7, .bin 9 .neq 6 8]) (.cond 9 (.seq (.ops [.asg 4 (kB false)]) .ret) .skip)) (.seq (.seq (.ops [.fa 10 1 2, .ld 11 1 false 10, .fa 12 1 3, .ld 13 1 false 12, .bin 14 .neq 11 13]) (.cond 14 (.seq (.ops [.asg 4 (kB false)]) .ret) .skip)) (.seq (.seq (.ops [.fa 15 2 2, .ld 16 1 false 15, .fa 17 2 3, .ld 18 1 false 17, .bin 19 .neq 16 18]) (.cond 19 (.seq (.ops [.asg 4 (kB false)]) .ret) .skip)) (.seq (.ops [.asg 4 (kB true)]) .ret)))))
theorem trwEqValue : trFn Tryz.prog 103 = some (acwEqValue, [.mv 0 4], 20) := by kernel_rfl
def qwEqValue (r : Bool) : Exit → St → Prop := retQ [.mv 0 4] fun x _ => x = (fun y => (vB y)) r
def acwEqQueryS_L0 : AC := (.loop (.seq (.seq (.ops [.mv 11 5, .mv 12 0, .len 13 12, .bin 14 .lss 11 13]) (.cond 14 .skip (.exit 0))) (.seq (.block 1 (.seq (.dops [[], [], [0, 1], [2], [], [], [4, 5], [6], [3, 7], [8]] [.mv 17 0, .mv 18 5, .ia 19 6 17 18, .ld 20 6 true 19, .mv 21 1, .mv 22 5, .ia 23 6 21 22, .ld 24 6 true 23, .call (some 25) 32 [20, 24], .not 26 25]) (.cond 26 (.seq (.ops [.asg 4 (kB false)]) .ret) .skip))) (.ops [.mv 15 5, .bin 16 .add 15 (kI 1), .asg 5 16]))))
def acwEqQueryS : AC := (.seq (.ops [.asg 4 (kB false)]) (.seq (.seq (.ops [.mv 6 0, .len 7 6, .mv 8 1, .len 9 8, .bin 10 .neq 7 9]) (.cond 10 (.seq (.ops [.asg 4 (kB false)]) .ret) .skip)) (.seq (.seq (.ops [.asg 5 (kI 0)]) (.block 0 acwEqQueryS_L0)) (.seq (.ops [.asg 4 (kB true)]) .ret))))
theorem trwEqQueryS : trFn Tryz.prog 104 = some (acwEqQueryS, [.mv 0 4], 27) := by kernel_rfl
def qwEqQueryS (r : Bool) : Exit → St → Prop := retQ [.mv 0 4] fun x _ => x = (fun y => (vB y)) r
def qwEqQueryS_0 (r : Bool) : Exit → St → Prop := (thenK (wkK (avc Tryz.prog (.seq (.ops [.asg 4 (.c (.d (.b true)))]) .ret) (qwEqQueryS r))) (qwEqQueryS r))
def qwEqQueryS_1 (r : Bool) : Exit → St → Prop := (blockK 0 (qwEqQueryS_0 r))
def stwEqQueryS_L0 (p0 : (List GQuery)) (p1 : (List GQuery)) (x5 : Int) : St := ⟨[(0, (.d (.sl 6 (p0.map cGQuery)))), (1, (.d (.sl 6 (p1.map cGQuery)))), (5, (vI x5))], []⟩
def acwEqQuery : AC := (.seq (.ops [.box 2 39 0, .box 3 39 1, .asg 4 (kB false)]) (.seq (.seq (.ops [.fa 5 0 2, .ld 6 1 false 5, .fa 7 0 3, .ld 8 1 false 7, .eqb 9 true 6 8]) (.cond 9 (.seq (.ops [.asg 4 (kB false)]) .ret) .skip)) (.seq (.seq (.ops [.fa 10 1 2, .ld 11 1 false 10, .fa 12 1 3, .ld 13 1 false 12, .call (some 14) 71 [11, 13], .not 15 14]) (.cond 15 (.seq (.ops [.asg 4 (kB false)]) .ret) .skip)) (.seq (.seq (.ops [.fa 16 2 2, .ld 17 1 false 16, .fa 18 2 3, .ld 19 1 false 18, .call (some 20) 72 [17, 19], .not 21 20]) (.cond 21 (.seq (.ops [.asg 4 (kB false)]) .ret) .skip)) (.seq (.seq (.ops [.fa 22 3 2, .ld 23 1 false 22, .fa 24 3 3, .ld 25 1 false 24, .call (some 26) 35 [23, 25], .not 27 26]) (.cond 27 (.seq (.ops [.asg 4 (kB false)]) .ret) .skip)) (.seq (.seq (.ops [.fa 28 4 2, .ld 29 1 false 28, .fa 30 4 3, .ld 31 1 false 30, .call (some 32) 73 [29, 31], .not 33 32]) (.cond 33 (.seq (.ops [.asg 4 (kB false)]) .ret) .skip)) (.seq (.seq (.ops [.fa 34 5 2, .ld 35 1 false 34, .fa 36 5 3, .ld 37 1 false 36, .bin 38 .neq 35 37]) (.cond 38 (.seq (.ops [.asg 4 (kB false)]) .ret) .skip)) (.seq (.ops [.asg 4 (kB true)]) .ret))))))))
theorem trwEqQuery : trFn Tryz.prog 32 = some (acwEqQuery, [.mv 0 4], 39) := by kernel_rfl
def qwEqQuery (r : Bool) : Exit → St → Prop := retQ [.mv 0 4] fun x _ => x = (fun y => (vB y)) r
def acwEqSortKeyS_L0 : AC := (.loop (.seq (.seq (.ops [.mv 11 5, .mv 12 0, .len 13 12, .bin 14 .lss 11 13]) (.cond 14 .skip (.exit 0))) (.seq (.block 1 (.seq (.dops [[], [], [0, 1], [2], [], [], [4, 5], [6], [3, 7], [8]] [.mv 17 0, .mv 18 5, .ia 19 11 17 18, .ld 20 11 true 19, .mv 21 1, .mv 22 5, .ia 23 11 21 22, .ld 24 11 true 23, .call (some 25) 102 [20, 24], .not 26 25]) (.cond 26 (.seq (.ops [.asg 4 (kB false)]) .ret) .skip))) (.ops [.mv 15 5, .bin 16 .add 15 (kI 1), .asg 5 16]))))
def acwEqSortKeyS : AC := (.seq (.ops [.asg 4 (kB false)]) (.seq (.seq (.ops [.mv 6 0, .len 7 6, .mv 8 1, .len 9 8, .bin 10 .neq 7 9]) (.cond 10 (.seq (.ops [.asg 4 (kB false)]) .ret) .skip)) (.seq (.seq (.ops [.asg 5 (kI 0)]) (.block 0 acwEqSortKeyS_L0)) (.seq (.ops [.asg 4 (kB true)]) .ret))))
theorem trwEqSortKeyS : trFn Tryz.prog 73 = some (acwEqSortKeyS, [.mv 0 4], 27) := by kernel_rfl
def qwEqSortKeyS (r : Bool) : Exit → St → Prop := retQ [.mv 0 4] fun x _ => x = (fun y => (vB y)) r
def qwEqSortKeyS_0 (r : Bool) : Exit → St → Prop := (thenK (wkK (avc Tryz.prog (.seq (.ops [.asg 4 (.c (.d (.b true)))]) .ret) (qwEqSortKeyS r))) (qwEqSortKeyS r))
def qwEqSortKeyS_1 (r : Bool) : Exit → St → Prop := (blockK 0 (qwEqSortKeyS_0 r))
def stwEqSortKeyS_L0 (p0 : (List GSortKey)) (p1 : (List GSortKey)) (x5 : Int) : St := ⟨[(0, (.d (.sl 11 (p0.map cGSortKey)))), (1, (.d (.sl 11 (p1.map cGSortKey)))), (5, (vI x5))], []⟩
def acwEqSortKey : AC := (.seq (.ops [.box 2 97 0, .box 3 97 1, .asg 4 (kB false)]) (.seq (.seq (.ops [.fa 5 0 2, .ld 6 10 true 5, .fa 7 0 3, .ld 8 10 true 7, .call (some 9) 74 [6, 8], .not 10 9]) (.cond 10 (.seq (.ops [.asg 4 (kB false)]) .ret) .skip)) (.seq (.seq (.ops [.fa 11 10 2, .ld 12 1 false 11, .fa 13 10 3, .ld 14 1 false 13, .eqb 15 true 12 14]) (.cond 15 (.seq (.ops [.asg 4 (kB false)]) .ret) .skip)) (.seq (.ops [.asg 4 (kB true)]) .ret))))
theorem trwEqSortKey : trFn Tryz.prog 102 = some (acwEqSortKey, [.mv 0 4], 16) := by kernel_rfl
def qwEqSortKey (r : Bool) : Exit → St → Prop := retQ [.mv 0 4] fun x _ => x = (fun y => (vB y)) r
def acwEqSourceS_L0 : AC := (.loop (.seq (.seq (.ops [.mv 11 5, .mv 12 0, .len 13 12, .bin 14 .lss 11 13]) (.cond 14 .skip (.exit 0))) (.seq (.block 1 (.seq (.dops [[], [], [0, 1], [2], [], [], [4, 5], [6], [3, 7], [8]] [.mv 17 0, .mv 18 5, .ia 19 3 17 18, .ld 20 3 true 19, .mv 21 1, .mv 22 5, .ia 23 3 21 22, .ld 24 3 true 23, .call (some 25) 101 [20, 24], .not 26 25]) (.cond 26 (.seq (.ops [.asg 4 (kB false)]) .ret) .skip))) (.ops [.mv 15 5, .bin 16 .add 15 (kI 1), .asg 5 16]))))
def acwEqSourceS : AC := (.seq (.ops [.asg 4 (kB false)]) (.seq (.seq (.ops [.mv 6 0, .len 7 6, .mv 8 1, .len 9 8, .bin 10 .neq 7 9]) (.cond 10 (.seq (.ops [.asg 4 (kB false)]) .ret) .skip)) (.seq (.seq (.ops [.asg 5 (kI 0)]) (.block 0 acwEqSourceS_L0)) (.seq (.ops [.asg 4 (kB true)]) .ret))))
theorem trwEqSourceS : trFn Tryz.prog 72 = some (acwEqSourceS, [.mv 0 4], 27) := by kernel_rfl
def qwEqSourceS (r : Bool) : Exit → St → Prop := retQ [.mv 0 4] fun x _ => x = (fun y => (vB y)) r
def qwEqSourceS_0 (r : Bool) : Exit → St → Prop := (thenK (wkK (avc Tryz.prog (.seq (.ops [.asg 4 (.c (.d (.b true)))]) .ret) (qwEqSourceS r))) (qwEqSourceS r))
def qwEqSourceS_1 (r : Bool) : Exit → St → Prop := (blockK 0 (qwEqSourceS_0 r))
def stwEqSourceS_L0 (p0 : (List GSource)) (p1 : (List GSource)) (x5 : Int) : St := ⟨[(0, (.d (.sl 3 (p0.map cGSource)))), (1, (.d (.sl 3 (p1.map cGSource)))), (5, (vI x5))], []⟩
def acwEqSource : AC := (.seq (.ops [.box 2 92 0, .box 3 92 1, .asg 4 (kB false)]) (.seq (.seq (.ops [.fa 5 0 2, .ld 6 1 false 5, .fa 7 0 3, .ld 8 1 false 7, .bin 9 .neq 6 8]) (.cond 9 (.seq (.ops [.asg 4 (kB false)]) .ret) .skip)) (.seq (.seq (.ops [.fa 10 1 2, .ld 11 1 false 10, .fa 12 1 3, .ld 13 1 false 12, .bin 14 .neq 11 13]) (.cond 14 (.seq (.ops [.asg 4 (kB false)]) .ret) .skip)) (.seq (.seq (.ops [.fa 15 2 2, .ld 16 1 false 15, .fa 17 2 3, .ld 18 1 false 17, .call (some 19) 35 [16, 18], .not 20 19]) (.cond 20 (.seq (.ops [.asg 4 (kB false)]) .ret) .skip)) (.seq (.ops [.asg 4 (kB true)]) .ret)))))
theorem trwEqSource : trFn Tryz.prog 101 = some (acwEqSource, [.mv 0 4], 21) := by kernel_rfl
def qwEqSource (r : Bool) : Exit → St → Prop := retQ [.mv 0 4] fun x _ => x = (fun y => (vB y)) r
def acwEqItemS_L0 : AC := (.loop (.seq (.seq (.ops [.mv 11 5, .mv 12 0, .len 13 12, .bin 14 .lss 11 13]) (.cond 14 .skip (.exit 0))) (.seq (.block 1 (.seq (.dops [[], [], [0, 1], [2], [], [], [4, 5], [6], [3, 7], [8]] [.mv 17 0, .mv 18 5, .ia 19 13 17 18, .ld 20 13 true 19, .mv 21 1, .mv 22 5, .ia 23 13 21 22, .ld 24 13 true 23, .call (some 25) 100 [20, 24], .not 26 25]) (.cond 26 (.seq (.ops [.asg 4 (kB false)]) .ret) .skip))) (.ops [.mv 15 5, .bin 16 .add 15 (kI 1), .asg 5 16]))))
def acwEqItemS : AC := (.seq (.ops [.asg 4 (kB false)]) (.seq (.seq (.ops [.mv 6 0, .len 7 6, .mv 8 1, .len 9 8, .bin 10 .neq 7 9]) (.cond 10 (.seq (.ops [.asg 4 (kB false)]) .ret) .skip)) (.seq (.seq (.ops [.asg 5 (kI 0)]) (.block 0 acwEqItemS_L0)) (.seq (.ops [.asg 4 (kB true)]) .ret))))
theorem trwEqItemS : trFn Tryz.prog 71 = some (acwEqItemS, [.mv 0 4], 27) := by kernel_rfl
def qwEqItemS (r : Bool) : Exit → St → Prop := retQ [.mv 0 4] fun x _ => x = (fun y => (vB y)) r
def qwEqItemS_0 (r : Bool) : Exit → St → Prop := (thenK (wkK (avc Tryz.prog (.seq (.ops [.asg 4 (.c (.d (.b true)))]) .ret) (qwEqItemS r))) (qwEqItemS r))
def qwEqItemS_1 (r : Bool) : Exit → St → Prop := (blockK 0 (qwEqItemS_0 r))
def stwEqItemS_L0 (p0 : (List GItem)) (p1 : (List GItem)) (x5 : Int) : St := ⟨[(0, (.d (.sl 13 (p0.map cGItem)))), (1, (.d (.sl 13 (p1.map cGItem)))), (5, (vI x5))], []⟩
def acwEqItem : AC := (.seq (.ops [.box 2 89 0, .box 3 89 1, .asg 4 (kB false)]) (.seq (.seq (.ops [.fa 5 0 2, .ld 6 1 false 5, .fa 7 0 3, .ld 8 1 false 7, .eqb 9 true 6 8]) (.cond 9 (.seq (.ops [.asg 4 (kB false)]) .ret) .skip)) (.seq (.seq (.ops [.fa 10 1 2, .ld 11 1 false 10, .fa 12 1 3, .ld 13 1 false 12, .bin 14 .neq 11 13]) (.cond 14 (.seq (.ops [.asg 4 (kB false)]) .ret) .skip)) (.seq (.seq (.ops [.fa 15 2 2, .ld 16 10 true 15, .fa 17 2 3, .ld 18 10 true 17, .call (some 19) 74 [16, 18], .not 20 19]) (.cond 20 (.seq (.ops [.asg 4 (kB false)]) .ret) .skip)) (.seq (.seq (.ops [.fa 21 12 2, .ld 22 1 false 21, .fa 23 12 3, .ld 24 1 false 23, .bin 25 .neq 22 24]) (.cond 25 (.seq (.ops [.asg 4 (kB false)]) .ret) .skip)) (.seq (.ops [.asg 4 (kB true)]) .ret))))))
theorem trwEqItem : trFn Tryz.prog 100 = some (acwEqItem, [.mv 0 4], 26) := by kernel_rfl
def qwEqItem (r : Bool) : Exit → St → Prop := retQ [.mv 0 4] fun x _ => x = (fun y => (vB y)) r
def acwEqStringS_L0 : AC := (.loop (.seq (.seq (.ops [.mv 11 5, .mv 12 0, .len 13 12, .bin 14 .lss 11 13]) (.cond 14 .skip (.exit 0))) (.seq (.block 1 (.seq (.dops [[], [], [0, 1], [2], [], [], [4, 5], [6], [3, 7]] [.mv 17 0, .mv 18 5, .ia 19 1 17 18, .ld 20 1 false 19, .mv 21 1, .mv 22 5, .ia 23 1 21 22, .ld 24 1 false 23, .bin 25 .neq 20 24]) (.cond 25 (.seq (.ops [.asg 4 (kB false)]) .ret) .skip))) (.ops [.mv 15 5, .bin 16 .add 15 (kI 1), .asg 5 16]))))
def acwEqStringS : AC := (.seq (.ops [.asg 4 (kB false)]) (.seq (.seq (.ops [.mv 6 0, .len 7 6, .mv 8 1, .len 9 8, .bin 10 .neq 7 9]) (.cond 10 (.seq (.ops [.asg 4 (kB false)]) .ret) .skip)) (.seq (.seq (.ops [.asg 5 (kI 0)]) (.block 0 acwEqStringS_L0)) (.seq (.ops [.asg 4 (kB true)]) .ret))))
theorem trwEqStringS : trFn Tryz.prog 34 = some (acwEqStringS, [.mv 0 4], 26) := by kernel_rfl
def qwEqStringS (r : Bool) : Exit → St → Prop := retQ [.mv 0 4] fun x _ => x = (fun y => (vB y)) r
def qwEqStringS_0 (r : Bool) : Exit → St → Prop := (thenK (wkK (avc Tryz.prog (.seq (.ops [.asg 4 (.c (.d (.b true)))]) .ret) (qwEqStringS r))) (qwEqStringS r))
def qwEqStringS_1 (r : Bool) : Exit → St → Prop := (blockK 0 (qwEqStringS_0 r))
def stwEqStringS_L0 (p0 : (List (List UInt8))) (p1 : (List (List UInt8))) (x5 : Int) : St := ⟨[(0, (.d (.sl 1 (p0.map cStr)))), (1, (.d (.sl 1 (p1.map cStr)))), (5, (vI x5))], []⟩
def acsStmtOk : AC := (.seq (.ops [.box 1 42 0, .asg 2 (kB false)]) (.seq (.ops [.ld 3 12 true 1, .call (some 4) 13 [3], .mv 5 4, .g 5 true (.ld 6 12 true 1), .g 5 true (.call (some 7) 14 [6]), .g 5 true (.bin 8 .leq 7 (kI 24)), .pick 9 5 8 (kB false), .mv 10 9, .g 10 true (.ld 11 12 true 1), .g 10 true (.call (some 12) 15 [11]), .g 10 true (.bin 13 .leq 12 (kI 200)), .pick 14 10 13 (kB false), .asg 2 14]) .ret))
theorem trsStmtOk : trFn Tryz.prog 5 = some (acsStmtOk, [.mv 0 2], 15) := by kernel_rfl
def qsStmtOk (r : Bool) : Exit → St → Prop := retQ [.mv 0 2] fun x _ => x = (fun y => (vB y)) r
def acsStmtDepth_L0 : AC := (.loop (.seq (.seq (.ops [.mv 8 5, .mv 9 4, .len 10 9, .bin 11 .lss 8 10]) (.cond 11 .skip (.exit 0))) (.seq (.block 1 (.ops [.mv 14 3, .mv 15 4, .mv 16 5, .ia 17 10 15 16, .ld 18 10 true 17, .call (some 19) 47 [18], .call (some 20) 46 [14, 19], .asg 3 20])) (.ops [.mv 12 5, .bin 13 .add 12 (kI 1), .asg 5 13]))))
def acsStmtDepth : AC := (.seq (.ops [.box 1 42 0, .asg 2 (kI 0)]) (.seq (.ops [.asg 3 (kI 0)]) (.seq (.ops [.ld 6 12 true 1, .call (some 7) 45 [6], .asg 4 7]) (.seq (.seq (.ops [.asg 5 (kI 0)]) (.block 0 acsStmtDepth_L0)) (.seq (.ops [.mv 21 3, .asg 2 21]) .ret)))))
theorem trsStmtDepth : trFn Tryz.prog 14 = some (acsStmtDepth, [.mv 0 2], 22) := by kernel_rfl
def qsStmtDepth (r : Int) : Exit → St → Prop := retQ [.mv 0 2] fun x _ => x = (fun y => (vI y)) r
def qsStmtDepth_0 (r : Int) : Exit → St → Prop := (thenK (wkK (avc Tryz.prog (.seq (.ops [.mv 21 3, .asg 2 21]) .ret) (qsStmtDepth r))) (qsStmtDepth r))
def qsStmtDepth_1 (r : Int) : Exit → St → Prop := (blockK 0 (qsStmtDepth_0 r))
def stsStmtDepth_L0 (y1 : (List GExpr)) (x3 : Int) (x5 : Int) : St := ⟨[(3, (vI x3)), (4, (.osl 4 82 10 (y1.map cGExpr))), (5, (vI x5))], []⟩
def acsL1Max : AC := (.seq (.ops [.asg 4 (kI 0)]) (.seq (.seq (.ops [.mv 5 0, .mv 6 1, .bin 7 .gtr 5 6]) (.cond 7 (.seq (.ops [.mv 8 0, .asg 4 8]) .ret) .skip)) (.seq (.ops [.mv 9 1, .asg 4 9]) .ret)))
theorem trsL1Max : trFn Tryz.prog 46 = some (acsL1Max, [.mv 0 4], 10) := by kernel_rfl
def qsL1Max (r : Int) : Exit → St → Prop := retQ [.mv 0 4] fun x _ => x = (fun y => (vI y)) r
def acsL8Exprs_L0 : AC := (.loop (.seq (.seq (.ops [.mv 8 4, .fa 9 8 1, .ld 10 1 false 9, .len 11 10, .bin 12 .lss 8 11]) (.cond 12 .skip (.exit 0))) (.seq (.block 1 (.ops [.mv 15 3, .fa 16 8 1, .ld 17 1 false 16, .mv 18 4, .ia 19 1 17 18, .ld 20 1 false 19, .app 21 82 10 136 15 20, .asg 3 21])) (.ops [.mv 13 4, .bin 14 .add 13 (kI 1), .asg 4 14]))))
def acsL8Exprs : AC := (.seq (.ops [.box 1 42 0, .asg 2 (.c (.nil 10))]) (.seq (.ops [.fa 5 1 1, .ld 6 6 true 5, .call (some 7) 86 [6], .asg 3 7]) (.seq (.seq (.ops [.asg 4 (kI 0)]) (.block 0 acsL8Exprs_L0)) (.seq (.ops [.mv 22 3, .fa 23 10 1, .ld 24 1 false 23, .app 25 82 10 136 22 24, .asg 3 25]) (.seq (.ops [.mv 26 3, .fa 27 11 1, .ld 28 1 false 27, .app 29 82 10 136 26 28, .asg 2 29]) .ret)))))
theorem trsL8Exprs : trFn Tryz.prog 45 = some (acsL8Exprs, [.mv 0 2], 30) := by kernel_rfl
def qsL8Exprs (r : (List GExpr)) : Exit → St → Prop := retQ [.mv 0 2] fun x b => x = (fun (y : (List GExpr)) => (.osl 2000000 82 10 (y.map cGExpr))) r ∧ bxHas ((fun (y : (List GExpr)) => []) r) b
def qsL8Exprs_0 (r : (List GExpr)) : Exit → St → Prop := (thenK (wkK (avc Tryz.prog (.seq (.ops [.mv 22 3, .fa 23 10 1, .ld 24 1 false 23, .app 25 82 10 136 22 24, .asg 3 25]) (.seq (.ops [.mv 26 3, .fa 27 11 1, .ld 28 1 false 27, .app 29 82 10 136 26 28, .asg 2 29]) .ret)) (qsL8Exprs r))) (qsL8Exprs r))
def qsL8Exprs_1 (r : (List GExpr)) : Exit → St → Prop := (blockK 0 (qsL8Exprs_0 r))
def stsL8Exprs_L0 (p0 : GStmt) (x3 : (List GExpr)) (x4 : Int) : St := ⟨[(1, (.ptr 1 0)), (3, (.osl 3 82 10 (x3.map cGExpr))), (4, (vI x4))], [(1, bGStmt p0)]⟩
def acsL7Exprs_J1 : AC := (.ops [.mv 13 4, .bin 14 .add 13 (kI 1), .asg 4 14])
def acsL7Exprs_L0 : AC := (.loop (.seq (.seq (.ops [.mv 8 4, .fa 9 1 1, .ld 10 1 false 9, .len 11 10, .bin 12 .lss 8 11]) (.cond 12 .skip (.exit 0))) (.seq (.block 1 (.seq (.ops [.fa 15 1 1, .ld 16 1 false 15, .mv 17 4, .ia 18 13 16 17, .fa 19 0 18, .ld 20 1 false 19, .not 21 20]) (.cond 21 (.ops [.mv 22 3, .fa 23 1 1, .ld 24 1 false 23, .mv 25 4, .ia 26 13 24 25, .fa 27 2 26, .ld 28 10 true 27, .bsl 29 82 10 [28], .app 30 82 10 136 22 29, .asg 3 30]) .skip))) acsL7Exprs_J1)))
def acsL7Exprs_L2 : AC := (.loop (.seq (.seq (.ops [.mv 31 5, .fa 32 2 1, .ld 33 1 false 32, .len 34 33, .bin 35 .lss 31 34]) (.cond 35 .skip (.exit 2))) (.seq (.block 3 (.ops [.mv 38 3, .fa 39 2 1, .ld 40 1 false 39, .mv 41 5, .ia 42 3 40 41, .fa 43 2 42, .ld 44 1 false 43, .app 45 82 10 136 38 44, .asg 3 45])) (.ops [.mv 36 5, .bin 37 .add 36 (kI 1), .asg 5 37]))))
def acsL7Exprs_L3 : AC := (.loop (.seq (.seq (.ops [.mv 50 6, .fa 51 4 1, .ld 52 1 false 51, .len 53 52, .bin 54 .lss 50 53]) (.cond 54 .skip (.exit 4))) (.seq (.block 5 (.ops [.mv 57 3, .fa 58 4 1, .ld 59 1 false 58, .mv 60 6, .ia 61 11 59 60, .fa 62 0 61, .ld 63 10 true 62, .bsl 64 82 10 [63], .app 65 82 10 136 57 64, .asg 3 65])) (.ops [.mv 55 6, .bin 56 .add 55 (kI 1), .asg 6 56]))))
def acsL7Exprs : AC := (.seq (.ops [.box 1 39 0, .asg 2 (.c (.nil 10))]) (.seq (.ops [.bsl 7 82 10 [], .asg 3 7]) (.seq (.seq (.ops [.asg 4 (kI 0)]) (.block 0 acsL7Exprs_L0)) (.seq (.seq (.ops [.asg 5 (kI 0)]) (.block 2 acsL7Exprs_L2)) (.seq (.ops [.mv 46 3, .fa 47 3 1, .ld 48 1 false 47, .app 49 82 10 136 46 48, .asg 3 49]) (.seq (.seq (.ops [.asg 6 (kI 0)]) (.block 4 acsL7Exprs_L3)) (.seq (.ops [.mv 66 3, .asg 2 66]) .ret)))))))
theorem trsL7Exprs : trFn Tryz.prog 86 = some (acsL7Exprs, [.mv 0 2], 67) := by kernel_rfl
def qsL7Exprs (r : (List GExpr)) : Exit → St → Prop := retQ [.mv 0 2] fun x b => x = (fun (y : (List GExpr)) => (.osl 2000000 82 10 (y.map cGExpr))) r ∧ bxHas ((fun (y : (List GExpr)) => []) r) b
def qsL7Exprs_0 (r : (List GExpr)) : Exit → St → Prop := (thenK (wkK (avc Tryz.prog (.seq (.seq (.ops [.asg 5 (.c (.d (.i .i64 0)))]) (.block 2 acsL7Exprs_L2)) (.seq (.ops [.mv 46 3, .fa 47 3 1, .ld 48 1 false 47, .app 49 82 10 136 46 48, .asg 3 49]) (.seq (.seq (.ops [.asg 6 (.c (.d (.i .i64 0)))]) (.block 4 acsL7Exprs_L3)) (.seq (.ops [.mv 66 3, .asg 2 66]) .ret)))) (qsL7Exprs r))) (qsL7Exprs r))
def qsL7Exprs_1 (r : (List GExpr)) : Exit → St → Prop := (blockK 0 (qsL7Exprs_0 r))
def qsL7Exprs_2 (r : (List GExpr)) : Exit → St → Prop := (thenK (avc Tryz.prog acsL7Exprs_L0 (qsL7Exprs_1 r)) (qsL7Exprs_1 r))
def qsL7Exprs_3 (r : (List GExpr)) : Exit → St → Prop := (thenK (wkK (avc Tryz.prog (.seq (.ops [.mv 46 3, .fa 47 3 1, .ld 48 1 false 47, .app 49 82 10 136 46 48, .asg 3 49]) (.seq (.seq (.ops [.asg 6 (.c (.d (.i .i64 0)))]) (.block 4 acsL7Exprs_L3)) (.seq (.ops [.mv 66 3, .asg 2 66]) .ret))) (qsL7Exprs r))) (qsL7Exprs r))
def qsL7Exprs_4 (r : (List GExpr)) : Exit → St → Prop := (blockK 2 (qsL7Exprs_3 r))
def qsL7Exprs_5 (r : (List GExpr)) : Exit → St → Prop := (thenK (wkK (avc Tryz.prog (.seq (.ops [.mv 66 3, .asg 2 66]) .ret) (qsL7Exprs r))) (qsL7Exprs r))
def qsL7Exprs_6 (r : (List GExpr)) : Exit → St → Prop := (blockK 4 (qsL7Exprs_5 r))
def stsL7Exprs_L0 (p0 : GQuery) (x3 : (List GExpr)) (x4 : Int) : St := ⟨[(1, (.ptr 1 0)), (3, (.osl 3 82 10 (x3.map cGExpr))), (4, (vI x4))], [(1, bGQuery p0)]⟩
def stsL7Exprs_J1 (x4 : Int) (p0 : GQuery) (x3_4 : (List GExpr)) : St := ⟨[(1, (.ptr 1 0)), (3, (.osl 3 82 10 (x3_4.map cGExpr))), (4, (vI x4))], [(1, bGQuery p0)]⟩
def stsL7Exprs_L2 (p0 : GQuery) (x3_5 : (List GExpr)) (x5 : Int) : St := ⟨[(1, (.ptr 1 0)), (3, (.osl 3 82 10 (x3_5.map cGExpr))), (5, (vI x5))], [(1, bGQuery p0)]⟩
def stsL7Exprs_L3 (p0 : GQuery) (x3_9 : (List GExpr)) (x6 : Int) : St := ⟨[(1, (.ptr 1 0)), (3, (.osl 3 82 10 (x3_9.map cGExpr))), (6, (vI x6))], [(1, bGQuery p0)]⟩
def acsDepthOf_L0 : AC := (.loop (.seq (.seq (.ops [.mv 6 4, .fa 7 8 1, .ld 8 1 false 7, .len 9 8, .bin 10 .lss 6 9]) (.cond 10 .skip (.exit 0))) (.seq (.block 1 (.ops [.mv 13 3, .fa 14 8 1, .ld 15 1 false 14, .mv 16 4, .ia 17 10 15 16, .ld 18 10 true 17, .call (some 19) 47 [18], .call (some 20) 46 [13, 19], .asg 3 20])) (.ops [.mv 11 4, .bin 12 .add 11 (kI 1), .asg 4 12]))))
def acsDepthOf_L1 : AC := (.loop (.seq (.seq (.ops [.mv 21 5, .fa 22 9 1, .ld 23 1 false 22, .len 24 23, .bin 25 .lss 21 24]) (.cond 25 .skip (.exit 2))) (.seq (.block 3 (.ops [.mv 28 3, .fa 29 9 1, .ld 30 1 false 29, .mv 31 5, .ia 32 6 30 31, .ld 33 6 true 32, .call (some 34) 83 [33], .call (some 35) 46 [28, 34], .asg 3 35])) (.ops [.mv 26 5, .bin 27 .add 26 (kI 1), .asg 5 27]))))
def acsDepthOf : AC := (.seq (.ops [.box 1 82 0, .asg 2 (kI 0)]) (.seq (.ops [.asg 3 (kI 0)]) (.seq (.seq (.ops [.asg 4 (kI 0)]) (.block 0 acsDepthOf_L0)) (.seq (.seq (.ops [.asg 5 (kI 0)]) (.block 2 acsDepthOf_L1)) (.seq (.ops [.mv 36 3, .bin 37 .add 36 (kI 1), .asg 2 37]) .ret)))))
theorem trsDepthOf : trFn Tryz.prog 47 = some (acsDepthOf, [.mv 0 2], 38) := by kernel_rfl
def qsDepthOf (r : Int) : Exit → St → Prop := retQ [.mv 0 2] fun x _ => x = (fun y => (vI y)) r
def qsDepthOf_0 (r : Int) : Exit → St → Prop := (thenK (wkK (avc Tryz.prog (.seq (.seq (.ops [.asg 5 (.c (.d (.i .i64 0)))]) (.block 2 acsDepthOf_L1)) (.seq (.ops [.mv 36 3, .bin 37 .add 36 (.c (.d (.i .i64 1))), .asg 2 37]) .ret)) (qsDepthOf r))) (qsDepthOf r))
def qsDepthOf_1 (r : Int) : Exit → St → Prop := (blockK 0 (qsDepthOf_0 r))
def qsDepthOf_2 (r : Int) : Exit → St → Prop := (thenK (wkK (avc Tryz.prog (.seq (.ops [.mv 36 3, .bin 37 .add 36 (.c (.d (.i .i64 1))), .asg 2 37]) .ret) (qsDepthOf r))) (qsDepthOf r))
def qsDepthOf_3 (r : Int) : Exit → St → Prop := (blockK 2 (qsDepthOf_2 r))
def stsDepthOf_L0 (p0 : GExpr) (x3 : Int) (x4 : Int) : St := ⟨[(1, (.ptr 1 0)), (3, (vI x3)), (4, (vI x4))], [(1, bGExpr p0)]⟩
def stsDepthOf_L1 (p0 : GExpr) (x3_4 : Int) (x5 : Int) : St := ⟨[(1, (.ptr 1 0)), (3, (vI x3_4)), (5, (vI x5))], [(1, bGExpr p0)]⟩
def acsQueryDepth_L0 : AC := (.loop (.seq (.seq (.ops [.mv 8 5, .mv 9 4, .len 10 9, .bin 11 .lss 8 10]) (.cond 11 .skip (.exit 0))) (.seq (.block 1 (.ops [.mv 14 3, .mv 15 4, .mv 16 5, .ia 17 10 15 16, .ld 18 10 true 17, .call (some 19) 47 [18], .call (some 20) 46 [14, 19], .asg 3 20])) (.ops [.mv 12 5, .bin 13 .add 12 (kI 1), .asg 5 13]))))
def acsQueryDepth : AC := (.seq (.ops [.box 1 39 0, .asg 2 (kI 0)]) (.seq (.ops [.asg 3 (kI 0)]) (.seq (.ops [.ld 6 6 true 1, .call (some 7) 86 [6], .asg 4 7]) (.seq (.seq (.ops [.asg 5 (kI 0)]) (.block 0 acsQueryDepth_L0)) (.seq (.ops [.mv 21 3, .asg 2 21]) .ret)))))
theorem trsQueryDepth : trFn Tryz.prog 83 = some (acsQueryDepth, [.mv 0 2], 22) := by kernel_rfl
def qsQueryDepth (r : Int) : Exit → St → Prop := retQ [.mv 0 2] fun x _ => x = (fun y => (vI y)) r
def qsQueryDepth_0 (r : Int) : Exit → St → Prop := (thenK (wkK (avc Tryz.prog (.seq (.ops [.mv 21 3, .asg 2 21]) .ret) (qsQueryDepth r))) (qsQueryDepth r))
def qsQueryDepth_1 (r : Int) : Exit → St → Prop := (blockK 0 (qsQueryDepth_0 r))
def stsQueryDepth_L0 (y1 : (List GExpr)) (x3 : Int) (x5 : Int) : St := ⟨[(3, (vI x3)), (4, (.osl 4 82 10 (y1.map cGExpr))), (5, (vI x5))], []⟩
def acsL8Shape_L0 : AC := (.loop (.seq (.seq (.ops [.mv 54 9, .mv 55 5, .bin 56 .lss 54 55]) (.cond 56 .skip (.exit 1))) (.seq (.block 2 (.seq (.ops [.fa 59 8 1, .ld 60 1 false 59, .mv 61 9, .ia 62 1 60 61, .ld 63 1 false 62, .len 64 63, .call (some 65) 43 [64, (kI 1), (kI 12)], .not 66 65, .mv 67 66, .g 67 false (.fa 68 8 1), .g 67 false (.ld 69 1 false 68), .g 67 false (.mv 70 9), .g 67 false (.ia 71 1 69 70), .g 67 false (.ld 72 1 false 71), .g 67 false (.call (some 73) 44 [72]), .g 67 false (.not 74 73), .pick 75 67 (kB true) 74]) (.cond 75 (.seq (.ops [.asg 2 (kB false)]) .ret) .skip))) (.ops [.mv 57 9, .bin 58 .add 57 (kI 1), .asg 9 58]))))
def acsL8Shape_L1 : AC := (.loop (.seq (.seq (.ops [.mv 94 10, .mv 95 6, .bin 96 .lss 94 95]) (.cond 96 .skip (.exit 3))) (.seq (.block 4 (.seq (.ops [.fa 99 9 1, .ld 100 1 false 99, .mv 101 10, .ia 102 1 100 101, .ld 103 1 false 102, .call (some 104) 41 [103], .not 105 104]) (.cond 105 (.seq (.ops [.asg 2 (kB false)]) .ret) .skip))) (.ops [.mv 97 10, .bin 98 .add 97 (kI 1), .asg 10 98]))))
def acsL8Shape : AC := (.seq (.ops [.box 1 42 0, .asg 2 (kB false)]) (.seq (.ops [.fa 11 1 1, .ld 12 6 true 11, .bld 13 [(.d (.b false)), (.nil 13), (.nil 3), (.nil 10), (.nil 11), (.d (.i .i64 0))] [], .call (some 14) 40 [12, 13], .asg 3 14]) (.seq (.ops [.fa 15 7 1, .ld 16 1 false 15, .call (some 17) 41 [16], .asg 4 17]) (.seq (.dops [[], [0], [1], [], [3], [4], [], [6], [7], [], [9], [10], [2, 0, 1, 2], [5, 12, 0, 1, 2, 3, 4, 5, 12], [8, 13, 0, 1, 2, 3, 4, 5, 6, 7, 8, 12, 13], [11, 14, 0, 1, 2, 3, 4, 5, 6, 7, 8, 9, 10, 11, 12, 13, 14]] [.fa 18 8 1, .ld 19 1 false 18, .len 20 19, .fa 21 9 1, .ld 22 1 false 21, .len 23 22, .fa 24 10 1, .ld 25 1 false 24, .len 26 25, .fa 27 11 1, .ld 28 1 false 27, .len 29 28, .asg 5 20, .asg 6 23, .asg 7 26, .asg 8 29]) (.seq (.seq (.ops [.fa 30 0 1, .ld 31 1 false 30]) (.block 0 (.seq (.ops [.bin 33 .eql 31 (kI 1), .asg 32 33]) (.cond 32 (.seq (.ops [.fa 34 1 1, .ld 35 6 true 34, .call (some 36) 42 [35], .mv 37 36, .g 37 true (.fa 38 7 1), .g 37 true (.ld 39 1 false 38), .g 37 true (.bin 40 .eql 39 (.c (.d (.s (bs []))))), .pick 41 37 40 (kB false), .mv 42 41, .g 42 true (.mv 43 5), .g 42 true (.mv 44 6), .g 42 true (.bin 45 .add 43 44), .g 42 true (.mv 46 7), .g 42 true (.bin 47 .add 45 46), .g 42 true (.mv 48 8), .g 42 true (.bin 49 .add 47 48), .g 42 true (.bin 50 .eql 49 (kI 0)), .pick 51 42 50 (kB false), .asg 2 51]) .ret) (.seq (.ops [.bin 53 .eql 31 (kI 2), .asg 52 53]) (.cond 52 (.seq (.seq (.ops [.asg 9 (kI 0)]) (.block 1 acsL8Shape_L0)) (.seq (.ops [.mv 76 3, .mv 77 76, .g 77 true (.mv 78 4), .pick 79 77 78 (kB false), .mv 80 79, .g 80 true (.mv 81 5), .g 80 true (.call (some 82) 43 [81, (kI 1), (kI 5)]), .pick 83 80 82 (kB false), .mv 84 83, .g 84 true (.mv 85 6), .g 84 true (.mv 86 7), .g 84 true (.bin 87 .add 85 86), .g 84 true (.mv 88 8), .g 84 true (.bin 89 .add 87 88), .g 84 true (.bin 90 .eql 89 (kI 0)), .pick 91 84 90 (kB false), .asg 2 91]) .ret)) (.seq (.ops [.bin 93 .eql 31 (kI 3), .asg 92 93]) (.cond 92 (.seq (.seq (.ops [.asg 10 (kI 0)]) (.block 3 acsL8Shape_L1)) (.seq (.ops [.mv 106 3, .mv 107 106, .g 107 true (.mv 108 4), .pick 109 107 108 (kB false), .mv 110 109, .g 110 true (.mv 111 5), .g 110 true (.bin 112 .eql 111 (kI 0)), .pick 113 110 112 (kB false), .mv 114 113, .g 114 true (.mv 115 6), .g 114 true (.call (some 116) 43 [115, (kI 1), (kI 12)]), .pick 117 114 116 (kB false), .mv 118 117, .g 118 true (.mv 119 7), .g 118 true (.mv 120 6), .g 118 true (.bin 121 .eql 119 120), .pick 122 118 121 (kB false), .mv 123 122, .g 123 true (.mv 124 8), .g 123 true (.bin 125 .leq 124 (kI 1)), .pick 126 123 125 (kB false), .mv 127 126, .g 127 true (.fa 128 10 1), .g 127 true (.ld 129 1 false 128), .g 127 true (.call (some 130) 44 [129]), .pick 131 127 130 (kB false), .mv 132 131, .g 132 true (.fa 133 11 1), .g 132 true (.ld 134 1 false 133), .g 132 true (.call (some 135) 44 [134]), .pick 136 132 135 (kB false), .asg 2 136]) .ret)) (.seq (.ops [.bin 138 .eql 31 (kI 4), .asg 137 138]) (.cond 137 (.seq (.ops [.mv 139 3, .mv 140 139, .g 140 true (.mv 141 4), .pick 142 140 141 (kB false), .mv 143 142, .g 143 true (.mv 144 5), .g 143 true (.mv 145 6), .g 143 true (.bin 146 .add 144 145), .g 143 true (.mv 147 7), .g 143 true (.bin 148 .add 146 147), .g 143 true (.bin 149 .eql 148 (kI 0)), .pick 150 143 149 (kB false), .mv 151 150, .g 151 true (.mv 152 8), .g 151 true (.bin 153 .leq 152 (kI 1)), .pick 154 151 153 (kB false), .mv 155 154, .g 155 true (.fa 156 11 1), .g 155 true (.ld 157 1 false 156), .g 155 true (.call (some 158) 44 [157]), .pick 159 155 158 (kB false), .asg 2 159]) .ret) .skip)))))))))) (.seq (.ops [.asg 2 (kB false)]) .ret))))))
theorem trsL8Shape : trFn Tryz.prog 13 = some (acsL8Shape, [.mv 0 2], 160) := by kernel_rfl
def qsL8Shape (r : Bool) : Exit → St → Prop := retQ [.mv 0 2] fun x _ => x = (fun y => (vB y)) r
def qsL8Shape_0 (r : Bool) : Exit → St → Prop := (thenK (wkK (avc Tryz.prog (.seq (.ops [.asg 2 (.c (.d (.b false)))]) .ret) (qsL8Shape r))) (qsL8Shape r))
def qsL8Shape_1 (r : Bool) : Exit → St → Prop := (blockK 0 (qsL8Shape_0 r))
def qsL8Shape_2 (r : Bool) : Exit → St → Prop := (thenK (wkK (avc Tryz.prog (.seq (.ops [.mv 76 3, .mv 77 76, .g 77 true (.mv 78 4), .pick 79 77 78 (.c (.d (.b false))), .mv 80 79, .g 80 true (.mv 81 5), .g 80 true (.call (some 82) 43 [81, (.c (.d (.i .i64 1))), (.c (.d (.i .i64 5)))]), .pick 83 80 82 (.c (.d (.b false))), .mv 84 83, .g 84 true (.mv 85 6), .g 84 true (.mv 86 7), .g 84 true (.bin 87 .add 85 86), .g 84 true (.mv 88 8), .g 84 true (.bin 89 .add 87 88), .g 84 true (.bin 90 .eql 89 (.c (.d (.i .i64 0)))), .pick 91 84 90 (.c (.d (.b false))), .asg 2 91]) .ret) (qsL8Shape_1 r))) (qsL8Shape_1 r))
def qsL8Shape_3 (r : Bool) : Exit → St → Prop := (blockK 1 (qsL8Shape_2 r))
def qsL8Shape_4 (r : Bool) : Exit → St → Prop := (thenK (wkK (avc Tryz.prog (.seq (.ops [.mv 106 3, .mv 107 106, .g 107 true (.mv 108 4), .pick 109 107 108 (.c (.d (.b false))), .mv 110 109, .g 110 true (.mv 111 5), .g 110 true (.bin 112 .eql 111 (.c (.d (.i .i64 0)))), .pick 113 110 112 (.c (.d (.b false))), .mv 114 113, .g 114 true (.mv 115 6), .g 114 true (.call (some 116) 43 [115, (.c (.d (.i .i64 1))), (.c (.d (.i .i64 12)))]), .pick 117 114 116 (.c (.d (.b false))), .mv 118 117, .g 118 true (.mv 119 7), .g 118 true (.mv 120 6), .g 118 true (.bin 121 .eql 119 120), .pick 122 118 121 (.c (.d (.b false))), .mv 123 122, .g 123 true (.mv 124 8), .g 123 true (.bin 125 .leq 124 (.c (.d (.i .i64 1)))), .pick 126 123 125 (.c (.d (.b false))), .mv 127 126, .g 127 true (.fa 128 10 1), .g 127 true (.ld 129 1 false 128), .g 127 true (.call (some 130) 44 [129]), .pick 131 127 130 (.c (.d (.b false))), .mv 132 131, .g 132 true (.fa 133 11 1), .g 132 true (.ld 134 1 false 133), .g 132 true (.call (some 135) 44 [134]), .pick 136 132 135 (.c (.d (.b false))), .asg 2 136]) .ret) (qsL8Shape_1 r))) (qsL8Shape_1 r))
def qsL8Shape_5 (r : Bool) : Exit → St → Prop := (blockK 3 (qsL8Shape_4 r))
def stsL8Shape_L0 (y1 : Bool) (y2 : Bool) (p0 : GStmt) (x9 : Int) : St := ⟨[(1, (.ptr 1 0)), (3, (vB y1)), (4, (vB y2)), (5, (vI (p0.rows.length : Int))), (6, (vI (p0.cols.length : Int))), (7, (vI (p0.sets.length : Int))), (8, (vI (p0.where_.length : Int))), (9, (vI x9))], [(1, bGStmt p0)]⟩
def stsL8Shape_L1 (y1 : Bool) (y2 : Bool) (p0 : GStmt) (x10 : Int) : St := ⟨[(1, (.ptr 1 0)), (3, (vB y1)), (4, (vB y2)), (5, (vI (p0.rows.length : Int))), (6, (vI (p0.cols.length : Int))), (7, (vI (p0.sets.length : Int))), (8, (vI (p0.where_.length : Int))), (10, (vI x10))], [(1, bGStmt p0)]⟩
def acsL1In : AC := (.seq (.ops [.asg 6 (kB false)]) (.seq (.ops [.mv 7 0, .mv 8 1, .bin 9 .geq 7 8, .mv 10 9, .g 10 true (.mv 11 0), .g 10 true (.mv 12 2), .g 10 true (.bin 13 .leq 11 12), .pick 14 10 13 (kB false), .asg 6 14]) .ret))
theorem trsL1In : trFn Tryz.prog 43 = some (acsL1In, [.mv 0 6], 15) := by kernel_rfl
def qsL1In (r : Bool) : Exit → St → Prop := retQ [.mv 0 6] fun x _ => x = (fun y => (vB y)) r
def acsSameQuery_L0 : AC := (.loop (.seq (.seq (.ops [.mv 59 5, .fa 60 1 2, .ld 61 1 false 60, .len 62 61, .bin 63 .lss 59 62]) (.cond 63 .skip (.exit 0))) (.seq (.block 1 (.seq (.ops [.fa 66 1 2, .ld 67 1 false 66, .mv 68 5, .ia 69 13 67 68, .ld 70 13 true 69, .alc 6 [(.d (.b false)), (.d (.s (bs []))), (.d (.i .i64 0)), (.d (.i .i64 0)), (.d (.b false)), (.d (.i .i64 0)), (.d (.i .i64 0)), (.d (.s (bs []))), (.d (.s (bs []))), (.d (.s (bs []))), (.nil 10), (.nil 6), (.d (.s (bs [])))], .st 13 6 70]) (.seq (.ops [.fa 71 1 3, .ld 72 1 false 71, .mv 73 5, .ia 74 13 72 73, .ld 75 13 true 74, .alc 7 [(.d (.b false)), (.d (.s (bs []))), (.d (.i .i64 0)), (.d (.i .i64 0)), (.d (.b false)), (.d (.i .i64 0)), (.d (.i .i64 0)), (.d (.s (bs []))), (.d (.s (bs []))), (.d (.s (bs []))), (.nil 10), (.nil 6), (.d (.s (bs [])))], .st 13 7 75]) (.seq (.ops [.fa 76 0 6, .ld 77 1 false 76, .fa 78 0 7, .ld 79 1 false 78, .eqb 80 true 77 79, .mv 81 80, .g 81 false (.fa 82 1 6), .g 81 false (.ld 83 1 false 82), .g 81 false (.fa 84 1 7), .g 81 false (.ld 85 1 false 84), .g 81 false (.bin 86 .neq 83 85), .pick 87 81 (kB true) 86, .mv 88 87, .g 88 false (.fa 89 12 6), .g 88 false (.ld 90 1 false 89), .g 88 false (.fa 91 12 7), .g 88 false (.ld 92 1 false 91), .g 88 false (.bin 93 .neq 90 92), .pick 94 88 (kB true) 93, .mv 95 94, .g 95 false (.fa 96 2 6), .g 95 false (.ld 97 10 true 96), .g 95 false (.fa 98 2 7), .g 95 false (.ld 99 10 true 98), .g 95 false (.call (some 100) 81 [97, 99]), .g 95 false (.not 101 100), .pick 102 95 (kB true) 101]) (.cond 102 (.seq (.ops [.asg 4 (kB false)]) .ret) .skip))))) (.ops [.mv 64 5, .bin 65 .add 64 (kI 1), .asg 5 65]))))
def acsSameQuery_L1 : AC := (.loop (.seq (.seq (.ops [.mv 103 8, .fa 104 2 2, .ld 105 1 false 104, .len 106 105, .bin 107 .lss 103 106]) (.cond 107 .skip (.exit 2))) (.seq (.block 3 (.seq (.ops [.fa 110 2 2, .ld 111 1 false 110, .mv 112 8, .ia 113 3 111 112, .ld 114 3 true 113, .alc 9 [(.d (.s (bs []))), (.d (.s (bs []))), (.nil 10)], .st 3 9 114]) (.seq (.ops [.fa 115 2 3, .ld 116 1 false 115, .mv 117 8, .ia 118 3 116 117, .ld 119 3 true 118, .alc 10 [(.d (.s (bs []))), (.d (.s (bs []))), (.nil 10)], .st 3 10 119]) (.seq (.ops [.fa 120 0 9, .ld 121 1 false 120, .fa 122 0 10, .ld 123 1 false 122, .bin 124 .neq 121 123, .mv 125 124, .g 125 false (.fa 126 1 9), .g 125 false (.ld 127 1 false 126), .g 125 false (.fa 128 1 10), .g 125 false (.ld 129 1 false 128), .g 125 false (.bin 130 .neq 127 129), .pick 131 125 (kB true) 130, .mv 132 131, .g 132 false (.fa 133 2 9), .g 132 false (.ld 134 1 false 133), .g 132 false (.fa 135 2 10), .g 132 false (.ld 136 1 false 135), .g 132 false (.call (some 137) 80 [134, 136]), .g 132 false (.not 138 137), .pick 139 132 (kB true) 138]) (.cond 139 (.seq (.ops [.asg 4 (kB false)]) .ret) .skip))))) (.ops [.mv 108 8, .bin 109 .add 108 (kI 1), .asg 8 109]))))
def acsSameQuery_L2 : AC := (.loop (.seq (.seq (.ops [.mv 140 11, .fa 141 4 2, .ld 142 1 false 141, .len 143 142, .bin 144 .lss 140 143]) (.cond 144 .skip (.exit 4))) (.seq (.block 5 (.seq (.dops [[], [0], [], [1, 2], [3], [4], [], [6], [], [7, 8], [9], [10], [5, 11], [12], [13], [14, 13], [13], [15, 16, 13], [17, 13], [18, 13], [13], [20, 13], [13], [21, 22, 13], [23, 13], [24, 13], [19, 25, 13, 13], [26, 13], [13, 27]] [.fa 147 4 2, .ld 148 1 false 147, .mv 149 11, .ia 150 11 148 149, .fa 151 10 150, .ld 152 1 false 151, .fa 153 4 3, .ld 154 1 false 153, .mv 155 11, .ia 156 11 154 155, .fa 157 10 156, .ld 158 1 false 157, .eqb 159 true 152 158, .mv 160 159, .g 160 false (.fa 161 4 2), .g 160 false (.ld 162 1 false 161), .g 160 false (.mv 163 11), .g 160 false (.ia 164 11 162 163), .g 160 false (.fa 165 0 164), .g 160 false (.ld 166 10 true 165), .g 160 false (.fa 167 4 3), .g 160 false (.ld 168 1 false 167), .g 160 false (.mv 169 11), .g 160 false (.ia 170 11 168 169), .g 160 false (.fa 171 0 170), .g 160 false (.ld 172 10 true 171), .g 160 false (.call (some 173) 81 [166, 172]), .g 160 false (.not 174 173), .pick 175 160 (kB true) 174]) (.cond 175 (.seq (.ops [.asg 4 (kB false)]) .ret) .skip))) (.ops [.mv 145 11, .bin 146 .add 145 (kI 1), .asg 11 146]))))
def acsSameQuery : AC := (.seq (.ops [.box 2 39 0, .box 3 39 1, .asg 4 (kB false)]) (.seq (.seq (.ops [.fa 12 0 2, .ld 13 1 false 12, .fa 14 0 3, .ld 15 1 false 14, .eqb 16 true 13 15, .mv 17 16, .g 17 false (.fa 18 5 2), .g 17 false (.ld 19 1 false 18), .g 17 false (.fa 20 5 3), .g 17 false (.ld 21 1 false 20), .g 17 false (.bin 22 .neq 19 21), .pick 23 17 (kB true) 22, .mv 24 23, .g 24 false (.fa 25 1 2), .g 24 false (.ld 26 1 false 25), .g 24 false (.len 27 26), .g 24 false (.fa 28 1 3), .g 24 false (.ld 29 1 false 28), .g 24 false (.len 30 29), .g 24 false (.bin 31 .neq 27 30), .pick 32 24 (kB true) 31, .mv 33 32, .g 33 false (.fa 34 2 2), .g 33 false (.ld 35 1 false 34), .g 33 false (.len 36 35), .g 33 false (.fa 37 2 3), .g 33 false (.ld 38 1 false 37), .g 33 false (.len 39 38), .g 33 false (.bin 40 .neq 36 39), .pick 41 33 (kB true) 40, .mv 42 41, .g 42 false (.fa 43 4 2), .g 42 false (.ld 44 1 false 43), .g 42 false (.len 45 44), .g 42 false (.fa 46 4 3), .g 42 false (.ld 47 1 false 46), .g 42 false (.len 48 47), .g 42 false (.bin 49 .neq 45 48), .pick 50 42 (kB true) 49, .mv 51 50, .g 51 false (.fa 52 3 2), .g 51 false (.ld 53 1 false 52), .g 51 false (.fa 54 3 3), .g 51 false (.ld 55 1 false 54), .g 51 false (.call (some 56) 80 [53, 55]), .g 51 false (.not 57 56), .pick 58 51 (kB true) 57]) (.cond 58 (.seq (.ops [.asg 4 (kB false)]) .ret) .skip)) (.seq (.seq (.ops [.asg 5 (kI 0)]) (.block 0 acsSameQuery_L0)) (.seq (.seq (.ops [.asg 8 (kI 0)]) (.block 2 acsSameQuery_L1)) (.seq (.seq (.ops [.asg 11 (kI 0)]) (.block 4 acsSameQuery_L2)) (.seq (.ops [.asg 4 (kB true)]) .ret))))))
theorem trsSameQuery : trFn Tryz.prog 40 = some (acsSameQuery, [.mv 0 4], 176) := by kernel_rfl
def qsSameQuery (r : Bool) : Exit → St → Prop := retQ [.mv 0 4] fun x _ => x = (fun y => (vB y)) r
def qsSameQuery_0 (r : Bool) : Exit → St → Prop := (thenK (wkK (avc Tryz.prog (.seq (.seq (.ops [.asg 8 (.c (.d (.i .i64 0)))]) (.block 2 acsSameQuery_L1)) (.seq (.seq (.ops [.asg 11 (.c (.d (.i .i64 0)))]) (.block 4 acsSameQuery_L2)) (.seq (.ops [.asg 4 (.c (.d (.b true)))]) .ret))) (qsSameQuery r))) (qsSameQuery r))
def qsSameQuery_1 (r : Bool) : Exit → St → Prop := (blockK 0 (qsSameQuery_0 r))
def qsSameQuery_2 (r : Bool) : Exit → St → Prop := (thenK (wkK (avc Tryz.prog (.seq (.seq (.ops [.asg 11 (.c (.d (.i .i64 0)))]) (.block 4 acsSameQuery_L2)) (.seq (.ops [.asg 4 (.c (.d (.b true)))]) .ret)) (qsSameQuery r))) (qsSameQuery r))
def qsSameQuery_3 (r : Bool) : Exit → St → Prop := (blockK 2 (qsSameQuery_2 r))
def qsSameQuery_4 (r : Bool) : Exit → St → Prop := (thenK (wkK (avc Tryz.prog (.seq (.ops [.asg 4 (.c (.d (.b true)))]) .ret) (qsSameQuery r))) (qsSameQuery r))
def qsSameQuery_5 (r : Bool) : Exit → St → Prop := (blockK 4 (qsSameQuery_4 r))
def stsSameQuery_L0 (p0 : GQuery) (p1 : GQuery) (x5 : Int) : St := ⟨[(2, (.ptr 2 0)), (3, (.ptr 3 0)), (5, (vI x5))], [(2, bGQuery p0), (3, bGQuery p1)]⟩
def stsSameQuery_L1 (p0 : GQuery) (p1 : GQuery) (x8 : Int) : St := ⟨[(2, (.ptr 2 0)), (3, (.ptr 3 0)), (8, (vI x8))], [(2, bGQuery p0), (3, bGQuery p1)]⟩
def stsSameQuery_L2 (p0 : GQuery) (p1 : GQuery) (x11 : Int) : St := ⟨[(2, (.ptr 2 0)), (3, (.ptr 3 0)), (11, (vI x11))], [(2, bGQuery p0), (3, bGQuery p1)]⟩
def acsSameExpr_L0 : AC := (.loop (.seq (.seq (.ops [.mv 63 5, .fa 64 9 2, .ld 65 1 false 64, .len 66 65, .bin 67 .lss 63 66]) (.cond 67 .skip (.exit 0))) (.seq (.block 1 (.seq (.dops [[], [0], [], [1, 2], [3], [], [5], [], [6, 7], [8], [4, 9], [10]] [.fa 70 9 2, .ld 71 1 false 70, .mv 72 5, .ia 73 6 71 72, .ld 74 6 true 73, .fa 75 9 3, .ld 76 1 false 75, .mv 77 5, .ia 78 6 76 77, .ld 79 6 true 78, .call (some 80) 40 [74, 79], .not 81 80]) (.cond 81 (.seq (.ops [.asg 4 (kB false)]) .ret) .skip))) (.ops [.mv 68 5, .bin 69 .add 68 (kI 1), .asg 5 69]))))
def acsSameExpr : AC := (.seq (.ops [.box 2 82 0, .box 3 82 1, .asg 4 (kB false)]) (.seq (.seq (.ops [.fa 6 0 2, .ld 7 1 false 6, .fa 8 0 3, .ld 9 1 false 8, .bin 10 .neq 7 9, .mv 11 10, .g 11 false (.fa 12 1 2), .g 11 false (.ld 13 1 false 12), .g 11 false (.fa 14 1 3), .g 11 false (.ld 15 1 false 14), .g 11 false (.bin 16 .neq 13 15), .pick 17 11 (kB true) 16, .mv 18 17, .g 18 false (.fa 19 2 2), .g 18 false (.ld 20 1 false 19), .g 18 false (.fa 21 2 3), .g 18 false (.ld 22 1 false 21), .g 18 false (.eqb 23 true 20 22), .pick 24 18 (kB true) 23, .mv 25 24, .g 25 false (.fa 26 3 2), .g 25 false (.ld 27 3 true 26), .g 25 false (.fa 28 3 3), .g 25 false (.ld 29 3 true 28), .g 25 false (.eqv 30 true [0, 0, 1] 27 29), .pick 31 25 (kB true) 30, .mv 32 31, .g 32 false (.fa 33 6 2), .g 32 false (.ld 34 1 false 33), .g 32 false (.fa 35 6 3), .g 32 false (.ld 36 1 false 35), .g 32 false (.bin 37 .neq 34 36), .pick 38 32 (kB true) 37, .mv 39 38, .g 39 false (.fa 40 7 2), .g 39 false (.ld 41 1 false 40), .g 39 false (.fa 42 7 3), .g 39 false (.ld 43 1 false 42), .g 39 false (.bin 44 .neq 41 43), .pick 45 39 (kB true) 44, .mv 46 45, .g 46 false (.fa 47 9 2), .g 46 false (.ld 48 1 false 47), .g 46 false (.len 49 48), .g 46 false (.fa 50 9 3), .g 46 false (.ld 51 1 false 50), .g 46 false (.len 52 51), .g 46 false (.bin 53 .neq 49 52), .pick 54 46 (kB true) 53, .mv 55 54, .g 55 false (.fa 56 8 2), .g 55 false (.ld 57 1 false 56), .g 55 false (.fa 58 8 3), .g 55 false (.ld 59 1 false 58), .g 55 false (.call (some 60) 80 [57, 59]), .g 55 false (.not 61 60), .pick 62 55 (kB true) 61]) (.cond 62 (.seq (.ops [.asg 4 (kB false)]) .ret) .skip)) (.seq (.seq (.ops [.asg 5 (kI 0)]) (.block 0 acsSameExpr_L0)) (.seq (.ops [.asg 4 (kB true)]) .ret))))
theorem trsSameExpr : trFn Tryz.prog 81 = some (acsSameExpr, [.mv 0 4], 82) := by kernel_rfl
def qsSameExpr (r : Bool) : Exit → St → Prop := retQ [.mv 0 4] fun x _ => x = (fun y => (vB y)) r
def qsSameExpr_0 (r : Bool) : Exit → St → Prop := (thenK (wkK (avc Tryz.prog (.seq (.ops [.asg 4 (.c (.d (.b true)))]) .ret) (qsSameExpr r))) (qsSameExpr r))
def qsSameExpr_1 (r : Bool) : Exit → St → Prop := (blockK 0 (qsSameExpr_0 r))
def stsSameExpr_L0 (p0 : GExpr) (p1 : GExpr) (x5 : Int) : St := ⟨[(2, (.ptr 2 0)), (3, (.ptr 3 0)), (5, (vI x5))], [(2, bGExpr p0), (3, bGExpr p1)]⟩
def acsL7Same_L0 : AC := (.loop (.seq (.seq (.ops [.mv 11 5, .mv 12 0, .len 13 12, .bin 14 .lss 11 13]) (.cond 14 .skip (.exit 0))) (.seq (.block 1 (.seq (.dops [[], [], [0, 1], [2], [], [], [4, 5], [6], [3, 7], [8]] [.mv 17 0, .mv 18 5, .ia 19 10 17 18, .ld 20 10 true 19, .mv 21 1, .mv 22 5, .ia 23 10 21 22, .ld 24 10 true 23, .call (some 25) 81 [20, 24], .not 26 25]) (.cond 26 (.seq (.ops [.asg 4 (kB false)]) .ret) .skip))) (.ops [.mv 15 5, .bin 16 .add 15 (kI 1), .asg 5 16]))))
def acsL7Same : AC := (.seq (.ops [.asg 4 (kB false)]) (.seq (.seq (.ops [.mv 6 0, .len 7 6, .mv 8 1, .len 9 8, .bin 10 .neq 7 9]) (.cond 10 (.seq (.ops [.asg 4 (kB false)]) .ret) .skip)) (.seq (.seq (.ops [.asg 5 (kI 0)]) (.block 0 acsL7Same_L0)) (.seq (.ops [.asg 4 (kB true)]) .ret))))
theorem trsL7Same : trFn Tryz.prog 80 = some (acsL7Same, [.mv 0 4], 27) := by kernel_rfl
def qsL7Same (r : Bool) : Exit → St → Prop := retQ [.mv 0 4] fun x _ => x = (fun y => (vB y)) r
def qsL7Same_0 (r : Bool) : Exit → St → Prop := (thenK (wkK (avc Tryz.prog (.seq (.ops [.asg 4 (.c (.d (.b true)))]) .ret) (qsL7Same r))) (qsL7Same r))
def qsL7Same_1 (r : Bool) : Exit → St → Prop := (blockK 0 (qsL7Same_0 r))
def stsL7Same_L0 (p0 : (List GExpr)) (p1 : (List GExpr)) (x5 : Int) : St := ⟨[(0, (.d (.sl 10 (p0.map cGExpr)))), (1, (.d (.sl 10 (p1.map cGExpr)))), (5, (vI x5))], []⟩
def acsNameOk : AC := (.seq (.ops [.asg 2 (kB false)]) (.seq (.ops [.mv 3 0, .lns 4 3, .call (some 5) 43 [4, (kI 1), (kI 20)], .asg 2 5]) .ret))
theorem trsNameOk : trFn Tryz.prog 41 = some (acsNameOk, [.mv 0 2], 6) := by kernel_rfl
def qsNameOk (r : Bool) : Exit → St → Prop := retQ [.mv 0 2] fun x _ => x = (fun y => (vB y)) r
def acsL8All_L0 : AC := (.loop (.seq (.seq (.ops [.mv 4 3, .mv 5 0, .len 6 5, .bin 7 .lss 4 6]) (.cond 7 .skip (.exit 0))) (.seq (.block 1 (.seq (.ops [.mv 10 0, .mv 11 3, .ia 12 10 10 11, .ld 13 10 true 12, .call (some 14) 85 [13], .not 15 14]) (.cond 15 (.seq (.ops [.asg 2 (kB false)]) .ret) .skip))) (.ops [.mv 8 3, .bin 9 .add 8 (kI 1), .asg 3 9]))))
def acsL8All : AC := (.seq (.ops [.asg 2 (kB false)]) (.seq (.seq (.ops [.asg 3 (kI 0)]) (.block 0 acsL8All_L0)) (.seq (.ops [.asg 2 (kB true)]) .ret)))
theorem trsL8All : trFn Tryz.prog 44 = some (acsL8All, [.mv 0 2], 16) := by kernel_rfl
def qsL8All (r : Bool) : Exit → St → Prop := retQ [.mv 0 2] fun x _ => x = (fun y => (vB y)) r
def qsL8All_0 (r : Bool) : Exit → St → Prop := (thenK (wkK (avc Tryz.prog (.seq (.ops [.asg 2 (.c (.d (.b true)))]) .ret) (qsL8All r))) (qsL8All r))
def qsL8All_1 (r : Bool) : Exit → St → Prop := (blockK 0 (qsL8All_0 r))
def stsL8All_L0 (p0 : (List GExpr)) (x3 : Int) : St := ⟨[(0, (.d (.sl 10 (p0.map cGExpr)))), (3, (vI x3))], []⟩
def acsExprOk : AC := (.seq (.ops [.box 1 82 0, .asg 2 (kB false)]) (.seq (.ops [.ld 3 10 true 1, .call (some 4) 107 [3, (kI 200)], .bin 5 .geq 4 (kI 0), .mv 6 5, .g 6 true (.ld 7 10 true 1), .g 6 true (.call (some 8) 106 [7]), .pick 9 6 8 (kB false), .mv 10 9, .g 10 true (.ld 11 10 true 1), .g 10 true (.call (some 12) 47 [11]), .g 10 true (.bin 13 .leq 12 (kI 24)), .pick 14 10 13 (kB false), .asg 2 14]) .ret))
theorem trsExprOk : trFn Tryz.prog 85 = some (acsExprOk, [.mv 0 2], 15) := by kernel_rfl
def qsExprOk (r : Bool) : Exit → St → Prop := retQ [.mv 0 2] fun x _ => x = (fun y => (vB y)) r
def acsL7Right_L0 : AC := (.loop (.seq (.seq (.ops [.mv 7 3, .fa 8 8 1, .ld 9 1 false 8, .len 10 9, .bin 11 .lss 7 10]) (.cond 11 .skip (.exit 0))) (.seq (.block 1 (.seq (.ops [.fa 14 8 1, .ld 15 1 false 14, .mv 16 3, .ia 17 10 15 16, .ld 18 10 true 17, .call (some 19) 106 [18], .not 20 19]) (.cond 20 (.seq (.ops [.asg 2 (kB false)]) .ret) .skip))) (.ops [.mv 12 3, .bin 13 .add 12 (kI 1), .asg 3 13]))))
def acsL7Right : AC := (.seq (.ops [.box 1 82 0, .asg 2 (kB false)]) (.seq (.seq (.ops [.ld 4 10 true 1, .call (some 5) 112 [4], .not 6 5]) (.cond 6 (.seq (.ops [.asg 2 (kB false)]) .ret) .skip)) (.seq (.seq (.ops [.asg 3 (kI 0)]) (.block 0 acsL7Right_L0)) (.seq (.ops [.fa 21 9 1, .ld 22 1 false 21, .len 23 22, .bin 24 .eql 23 (kI 0), .mv 25 24, .g 25 false (.fa 26 9 1), .g 25 false (.ld 27 1 false 26), .g 25 false (.ia 28 6 27 (kI 0)), .g 25 false (.ld 29 6 true 28), .g 25 false (.call (some 30) 82 [29]), .pick 31 25 (kB true) 30, .asg 2 31]) .ret))))
theorem trsL7Right : trFn Tryz.prog 106 = some (acsL7Right, [.mv 0 2], 32) := by kernel_rfl
def qsL7Right (r : Bool) : Exit → St → Prop := retQ [.mv 0 2] fun x _ => x = (fun y => (vB y)) r
def qsL7Right_0 (r : Bool) : Exit → St → Prop := (thenK (wkK (avc Tryz.prog (.seq (.ops [.fa 21 9 1, .ld 22 1 false 21, .len 23 22, .bin 24 .eql 23 (.c (.d (.i .i64 0))), .mv 25 24, .g 25 false (.fa 26 9 1), .g 25 false (.ld 27 1 false 26), .g 25 false (.ia 28 6 27 (.c (.d (.i .i64 0)))), .g 25 false (.ld 29 6 true 28), .g 25 false (.call (some 30) 82 [29]), .pick 31 25 (.c (.d (.b true))) 30, .asg 2 31]) .ret) (qsL7Right r))) (qsL7Right r))
def qsL7Right_1 (r : Bool) : Exit → St → Prop := (blockK 0 (qsL7Right_0 r))
def stsL7Right_L0 (p0 : GExpr) (x3 : Int) : St := ⟨[(1, (.ptr 1 0)), (3, (vI x3))], [(1, bGExpr p0)]⟩
def acsL7RightQuery_L0 : AC := (.loop (.seq (.seq (.ops [.mv 38 3, .fa 39 1 1, .ld 40 1 false 39, .len 41 40, .bin 42 .lss 38 41]) (.cond 42 .skip (.exit 0))) (.seq (.block 1 (.seq (.ops [.fa 45 1 1, .ld 46 1 false 45, .mv 47 3, .ia 48 13 46 47, .ld 49 13 true 48, .alc 4 [(.d (.b false)), (.d (.s (bs []))), (.d (.i .i64 0)), (.d (.i .i64 0)), (.d (.b false)), (.d (.i .i64 0)), (.d (.i .i64 0)), (.d (.s (bs []))), (.d (.s (bs []))), (.d (.s (bs []))), (.nil 10), (.nil 6), (.d (.s (bs [])))], .st 13 4 49]) (.seq (.ops [.fa 50 0 4, .ld 51 1 false 50, .mv 52 51, .g 52 true (.fa 53 1 4), .g 52 true (.ld 54 1 false 53), .g 52 true (.call (some 55) 105 [54]), .g 52 true (.not 56 55), .g 52 true (.mv 57 56), .g 57 false (.fa 58 12 4), .g 57 false (.ld 59 1 false 58), .g 57 false (.bin 60 .neq 59 (.c (.d (.s (bs []))))), .g 52 true (.pick 61 57 (kB true) 60), .g 52 true (.mv 62 61), .g 62 false (.fa 63 2 4), .g 62 false (.ld 64 10 true 63), .g 62 false (.bld 65 [(.d (.i .i64 0)), (.d (.i .i64 0)), (.d (.b false)), (.d (.i .i64 0)), (.d (.i .i64 0)), (.d (.s (bs []))), (.d (.s (bs []))), (.d (.s (bs []))), (.nil 10), (.nil 6)] []), .g 62 false (.call (some 66) 81 [64, 65]), .g 62 false (.not 67 66), .g 52 true (.pick 68 62 (kB true) 67), .pick 69 52 68 (kB false), .mv 70 69, .g 70 false (.fa 71 0 4), .g 70 false (.ld 72 1 false 71), .g 70 false (.not 73 72), .g 70 false (.mv 74 73), .g 74 true (.fa 75 1 4), .g 74 true (.ld 76 1 false 75), .g 74 true (.bin 77 .neq 76 (.c (.d (.s (bs []))))), .g 74 true (.mv 78 77), .g 78 false (.fa 79 12 4), .g 78 false (.ld 80 1 false 79), .g 78 false (.call (some 81) 105 [80]), .g 78 false (.not 82 81), .g 74 true (.pick 83 78 (kB true) 82), .g 70 false (.pick 84 74 83 (kB false)), .pick 85 70 (kB true) 84]) (.cond 85 (.seq (.ops [.asg 2 (kB false)]) .ret) .skip)))) (.ops [.mv 43 3, .bin 44 .add 43 (kI 1), .asg 3 44]))))
def acsL7RightQuery_L1 : AC := (.loop (.seq (.seq (.ops [.mv 86 5, .fa 87 2 1, .ld 88 1 false 87, .len 89 88, .bin 90 .lss 86 89]) (.cond 90 .skip (.exit 2))) (.seq (.block 3 (.seq (.ops [.fa 93 2 1, .ld 94 1 false 93, .mv 95 5, .ia 96 3 94 95, .ld 97 3 true 96, .alc 6 [(.d (.s (bs []))), (.d (.s (bs []))), (.nil 10)], .st 3 6 97]) (.seq (.ops [.fa 98 0 6, .ld 99 1 false 98, .call (some 100) 41 [99], .not 101 100, .mv 102 101, .g 102 false (.fa 103 1 6), .g 102 false (.ld 104 1 false 103), .g 102 false (.call (some 105) 105 [104]), .g 102 false (.not 106 105), .pick 107 102 (kB true) 106, .mv 108 107, .g 108 false (.fa 109 2 6), .g 108 false (.ld 110 1 false 109), .g 108 false (.len 111 110), .g 108 false (.bin 112 .gtr 111 (kI 1)), .pick 113 108 (kB true) 112, .mv 114 113, .g 114 false (.mv 115 5), .g 114 false (.bin 116 .eql 115 (kI 0)), .g 114 false (.mv 117 116), .g 117 true (.fa 118 2 6), .g 117 true (.ld 119 1 false 118), .g 117 true (.len 120 119), .g 117 true (.bin 121 .gtr 120 (kI 0)), .g 114 false (.pick 122 117 121 (kB false)), .pick 123 114 (kB true) 122]) (.cond 123 (.seq (.ops [.asg 2 (kB false)]) .ret) .skip)))) (.ops [.mv 91 5, .bin 92 .add 91 (kI 1), .asg 5 92]))))
def acsL7RightQuery_L2 : AC := (.loop (.seq (.seq (.ops [.mv 126 8, .mv 127 7, .len 128 127, .bin 129 .lss 126 128]) (.cond 129 .skip (.exit 4))) (.seq (.block 5 (.seq (.ops [.mv 132 7, .mv 133 8, .ia 134 10 132 133, .ld 135 10 true 134, .call (some 136) 106 [135], .not 137 136]) (.cond 137 (.seq (.ops [.asg 2 (kB false)]) .ret) .skip))) (.ops [.mv 130 8, .bin 131 .add 130 (kI 1), .asg 8 131]))))
def acsL7RightQuery : AC := (.seq (.ops [.box 1 39 0, .asg 2 (kB false)]) (.seq (.seq (.ops [.fa 9 1 1, .ld 10 1 false 9, .len 11 10, .call (some 12) 43 [11, (kI 1), (kI 12)], .not 13 12, .mv 14 13, .g 14 false (.fa 15 2 1), .g 14 false (.ld 16 1 false 15), .g 14 false (.len 17 16), .g 14 false (.call (some 18) 43 [17, (kI 1), (kI 3)]), .g 14 false (.not 19 18), .pick 20 14 (kB true) 19, .mv 21 20, .g 21 false (.fa 22 3 1), .g 21 false (.ld 23 1 false 22), .g 21 false (.len 24 23), .g 21 false (.bin 25 .gtr 24 (kI 1)), .pick 26 21 (kB true) 25, .mv 27 26, .g 27 false (.fa 28 4 1), .g 27 false (.ld 29 1 false 28), .g 27 false (.len 30 29), .g 27 false (.bin 31 .gtr 30 (kI 12)), .pick 32 27 (kB true) 31, .mv 33 32, .g 33 false (.fa 34 5 1), .g 33 false (.ld 35 1 false 34), .g 33 false (.bin 36 .lss 35 (kI (-1))), .pick 37 33 (kB true) 36]) (.cond 37 (.seq (.ops [.asg 2 (kB false)]) .ret) .skip)) (.seq (.seq (.ops [.asg 3 (kI 0)]) (.block 0 acsL7RightQuery_L0)) (.seq (.seq (.ops [.asg 5 (kI 0)]) (.block 2 acsL7RightQuery_L1)) (.seq (.ops [.ld 124 6 true 1, .call (some 125) 86 [124], .asg 7 125]) (.seq (.seq (.ops [.asg 8 (kI 0)]) (.block 4 acsL7RightQuery_L2)) (.seq (.ops [.asg 2 (kB true)]) .ret)))))))
theorem trsL7RightQuery : trFn Tryz.prog 82 = some (acsL7RightQuery, [.mv 0 2], 138) := by kernel_rfl
def qsL7RightQuery (r : Bool) : Exit → St → Prop := retQ [.mv 0 2] fun x _ => x = (fun y => (vB y)) r
def qsL7RightQuery_0 (r : Bool) : Exit → St → Prop := (thenK (wkK (avc Tryz.prog (.seq (.seq (.ops [.asg 5 (.c (.d (.i .i64 0)))]) (.block 2 acsL7RightQuery_L1)) (.seq (.ops [.ld 124 6 true 1, .call (some 125) 86 [124], .asg 7 125]) (.seq (.seq (.ops [.asg 8 (.c (.d (.i .i64 0)))]) (.block 4 acsL7RightQuery_L2)) (.seq (.ops [.asg 2 (.c (.d (.b true)))]) .ret)))) (qsL7RightQuery r))) (qsL7RightQuery r))
def qsL7RightQuery_1 (r : Bool) : Exit → St → Prop := (blockK 0 (qsL7RightQuery_0 r))
def qsL7RightQuery_2 (r : Bool) : Exit → St → Prop := (thenK (wkK (avc Tryz.prog (.seq (.ops [.ld 124 6 true 1, .call (some 125) 86 [124], .asg 7 125]) (.seq (.seq (.ops [.asg 8 (.c (.d (.i .i64 0)))]) (.block 4 acsL7RightQuery_L2)) (.seq (.ops [.asg 2 (.c (.d (.b true)))]) .ret))) (qsL7RightQuery r))) (qsL7RightQuery r))
def qsL7RightQuery_3 (r : Bool) : Exit → St → Prop := (blockK 2 (qsL7RightQuery_2 r))
def qsL7RightQuery_4 (r : Bool) : Exit → St → Prop := (thenK (wkK (avc Tryz.prog (.seq (.ops [.asg 2 (.c (.d (.b true)))]) .ret) (qsL7RightQuery r))) (qsL7RightQuery r))
def qsL7RightQuery_5 (r : Bool) : Exit → St → Prop := (blockK 4 (qsL7RightQuery_4 r))
def stsL7RightQuery_L0 (p0 : GQuery) (x3 : Int) : St := ⟨[(1, (.ptr 1 0)), (3, (vI x3))], [(1, bGQuery p0)]⟩
def stsL7RightQuery_L1 (p0 : GQuery) (x5 : Int) : St := ⟨[(1, (.ptr 1 0)), (5, (vI x5))], [(1, bGQuery p0)]⟩
def stsL7RightQuery_L2 (y24 : (List GExpr)) (x8 : Int) : St := ⟨[(7, (.osl 7 82 10 (y24.map cGExpr))), (8, (vI x8))], []⟩
def acsL7Maybe : AC := (.seq (.ops [.asg 2 (kB false)]) (.seq (.ops [.mv 3 0, .bin 4 .eql 3 (.c (.d (.s (bs [])))), .mv 5 4, .g 5 false (.mv 6 0), .g 5 false (.call (some 7) 41 [6]), .pick 8 5 (kB true) 7, .asg 2 8]) .ret))
theorem trsL7Maybe : trFn Tryz.prog 105 = some (acsL7Maybe, [.mv 0 2], 9) := by kernel_rfl
def qsL7Maybe (r : Bool) : Exit → St → Prop := retQ [.mv 0 2] fun x _ => x = (fun y => (vB y)) r
def acsL7Shape : AC := (.seq (.ops [.box 1 82 0, .asg 2 (kB false)]) (.seq (.ops [.fa 5 8 1, .ld 6 1 false 5, .len 7 6, .asg 3 7]) (.seq (.ops [.fa 8 9 1, .ld 9 1 false 8, .len 10 9, .asg 4 10]) (.seq (.seq (.ops [.fa 11 0 1, .ld 12 1 false 11, .bin 13 .neq 12 (kI 2), .mv 14 13, .g 14 true (.fa 15 6 1), .g 14 true (.ld 16 1 false 15), .g 14 true (.bin 17 .neq 16 (.c (.d (.s (bs []))))), .g 14 true (.mv 18 17), .g 18 false (.fa 19 7 1), .g 18 false (.ld 20 1 false 19), .g 18 false (.bin 21 .neq 20 (.c (.d (.s (bs []))))), .g 14 true (.pick 22 18 (kB true) 21), .pick 23 14 22 (kB false), .mv 24 23, .g 24 false (.fa 25 0 1), .g 24 false (.ld 26 1 false 25), .g 24 false (.bin 27 .neq 26 (kI 1)), .g 24 false (.mv 28 27), .g 28 true (.fa 29 3 1), .g 28 true (.ld 30 3 true 29), .g 28 true (.bld 31 [(.d (.i .i64 0)), (.d (.i .i64 0)), (.d (.s (bs [])))] []), .g 28 true (.eqv 32 true [0, 0, 1] 30 31), .g 24 false (.pick 33 28 32 (kB false)), .pick 34 24 (kB true) 33]) (.cond 34 (.seq (.ops [.asg 2 (kB false)]) .ret) .skip)) (.seq (.seq (.ops [.fa 35 0 1, .ld 36 1 false 35, .bin 37 .neq 36 (kI 3), .mv 38 37, .g 38 true (.fa 39 0 1), .g 38 true (.ld 40 1 false 39), .g 38 true (.bin 41 .neq 40 (kI 4)), .pick 42 38 41 (kB false), .mv 43 42, .g 43 true (.fa 44 1 1), .g 43 true (.ld 45 1 false 44), .g 43 true (.bin 46 .neq 45 (kI 0)), .pick 47 43 46 (kB false), .mv 48 47, .g 48 false (.fa 49 2 1), .g 48 false (.ld 50 1 false 49), .g 48 false (.mv 51 50), .g 51 true (.fa 52 0 1), .g 51 true (.ld 53 1 false 52), .g 51 true (.call (some 54) 43 [53, (kI 5), (kI 8)]), .g 51 true (.not 55 54), .g 48 false (.pick 56 51 55 (kB false)), .pick 57 48 (kB true) 56]) (.cond 57 (.seq (.ops [.asg 2 (kB false)]) .ret) .skip)) (.seq (.seq (.ops [.fa 58 0 1, .ld 59 1 false 58]) (.block 0 (.seq (.ops [.bin 61 .eql 59 (kI 1), .asg 60 61]) (.cond 60 (.seq (.ops [.fa 62 3 1, .ld 63 3 true 62, .call (some 64) 114 [63], .mv 65 64, .g 65 true (.mv 66 3), .g 65 true (.mv 67 4), .g 65 true (.bin 68 .add 66 67), .g 65 true (.bin 69 .eql 68 (kI 0)), .pick 70 65 69 (kB false), .asg 2 70]) .ret) (.seq (.ops [.bin 72 .eql 59 (kI 2), .asg 71 72]) (.cond 71 (.seq (.ops [.fa 73 7 1, .ld 74 1 false 73, .call (some 75) 41 [74], .mv 76 75, .g 76 true (.fa 77 6 1), .g 76 true (.ld 78 1 false 77), .g 76 true (.call (some 79) 105 [78]), .pick 80 76 79 (kB false), .mv 81 80, .g 81 true (.mv 82 3), .g 81 true (.mv 83 4), .g 81 true (.bin 84 .add 82 83), .g 81 true (.bin 85 .eql 84 (kI 0)), .pick 86 81 85 (kB false), .asg 2 86]) .ret) (.seq (.ops [.bin 88 .eql 59 (kI 3), .asg 87 88]) (.cond 87 (.seq (.ops [.fa 89 1 1, .ld 90 1 false 89, .bin 91 .eql 90 (kI 15), .mv 92 91, .g 92 false (.fa 93 1 1), .g 92 false (.ld 94 1 false 93), .g 92 false (.bin 95 .eql 94 (kI 16)), .pick 96 92 (kB true) 95, .mv 97 96, .g 97 true (.mv 98 3), .g 97 true (.bin 99 .eql 98 (kI 1)), .pick 100 97 99 (kB false), .mv 101 100, .g 101 true (.mv 102 4), .g 101 true (.bin 103 .eql 102 (kI 0)), .pick 104 101 103 (kB false), .asg 2 104]) .ret) (.seq (.ops [.bin 106 .eql 59 (kI 4), .asg 105 106]) (.cond 105 (.seq (.ops [.fa 107 1 1, .ld 108 1 false 107, .call (some 109) 43 [108, (kI 1), (kI 14)], .mv 110 109, .g 110 true (.mv 111 3), .g 110 true (.bin 112 .eql 111 (kI 2)), .pick 113 110 112 (kB false), .mv 114 113, .g 114 true (.mv 115 4), .g 114 true (.bin 116 .eql 115 (kI 0)), .pick 117 114 116 (kB false), .asg 2 117]) .ret) (.seq (.ops [.bin 119 .eql 59 (kI 5), .asg 118 119]) (.cond 118 (.seq (.ops [.mv 120 3, .bin 121 .eql 120 (kI 1), .mv 122 121, .g 122 true (.mv 123 4), .g 122 true (.bin 124 .eql 123 (kI 0)), .pick 125 122 124 (kB false), .asg 2 125]) .ret) (.seq (.ops [.bin 127 .eql 59 (kI 6), .asg 126 127]) (.cond 126 (.seq (.ops [.mv 128 3, .bin 129 .eql 128 (kI 3), .mv 130 129, .g 130 true (.mv 131 4), .g 130 true (.bin 132 .eql 131 (kI 0)), .pick 133 130 132 (kB false), .asg 2 133]) .ret) (.seq (.ops [.bin 135 .eql 59 (kI 7), .asg 134 135]) (.cond 134 (.seq (.ops [.mv 136 3, .call (some 137) 43 [136, (kI 2), (kI 9)], .mv 138 137, .g 138 true (.mv 139 4), .g 138 true (.bin 140 .eql 139 (kI 0)), .pick 141 138 140 (kB false), .asg 2 141]) .ret) (.seq (.ops [.bin 143 .eql 59 (kI 8), .asg 142 143]) (.cond 142 (.seq (.ops [.mv 144 3, .bin 145 .eql 144 (kI 1), .mv 146 145, .g 146 true (.mv 147 4), .g 146 true (.bin 148 .eql 147 (kI 1)), .pick 149 146 148 (kB false), .asg 2 149]) .ret) (.seq (.ops [.bin 151 .eql 59 (kI 9), .asg 150 151]) (.cond 150 (.seq (.ops [.mv 152 3, .bin 153 .eql 152 (kI 0), .mv 154 153, .g 154 true (.mv 155 4), .g 154 true (.bin 156 .eql 155 (kI 1)), .pick 157 154 156 (kB false), .asg 2 157]) .ret) .skip)))))))))))))))))))) (.seq (.ops [.asg 2 (kB false)]) .ret)))))))
theorem trsL7Shape : trFn Tryz.prog 112 = some (acsL7Shape, [.mv 0 2], 158) := by kernel_rfl
def qsL7Shape (r : Bool) : Exit → St → Prop := retQ [.mv 0 2] fun x _ => x = (fun y => (vB y)) r
def acsL7Lit : AC := (.seq (.ops [.box 1 79 0, .asg 2 (kB false)]) (.seq (.ops [.ld 3 3 true 1, .call (some 4) 115 [3], .mv 5 4, .g 5 true (.fa 6 0 1), .g 5 true (.ld 7 1 false 6), .g 5 true (.bin 8 .neq 7 (kI 1)), .g 5 true (.mv 9 8), .g 9 false (.fa 10 1 1), .g 9 false (.ld 11 1 false 10), .g 9 false (.bin 12 .geq 11 (kI 0)), .g 5 true (.pick 13 9 (kB true) 12), .pick 14 5 13 (kB false), .mv 15 14, .g 15 true (.fa 16 2 1), .g 15 true (.ld 17 1 false 16), .g 15 true (.lns 18 17), .g 15 true (.bin 19 .leq 18 (kI 40)), .pick 20 15 19 (kB false), .asg 2 20]) .ret))
theorem trsL7Lit : trFn Tryz.prog 114 = some (acsL7Lit, [.mv 0 2], 21) := by kernel_rfl
def qsL7Lit (r : Bool) : Exit → St → Prop := retQ [.mv 0 2] fun x _ => x = (fun y => (vB y)) r
def acsValueOk : AC := (.seq (.ops [.box 1 79 0, .asg 2 (kB false)]) (.seq (.seq (.ops [.fa 3 0 1, .ld 4 1 false 3]) (.block 0 (.seq (.ops [.bin 6 .eql 4 (kI 0), .asg 5 6]) (.cond 5 (.seq (.ops [.fa 7 1 1, .ld 8 1 false 7, .bin 9 .eql 8 (kI 0), .mv 10 9, .g 10 true (.fa 11 2 1), .g 10 true (.ld 12 1 false 11), .g 10 true (.bin 13 .eql 12 (.c (.d (.s (bs []))))), .pick 14 10 13 (kB false), .asg 2 14]) .ret) (.seq (.ops [.bin 16 .eql 4 (kI 1), .asg 15 16]) (.cond 15 (.seq (.ops [.fa 17 2 1, .ld 18 1 false 17, .bin 19 .eql 18 (.c (.d (.s (bs [])))), .asg 2 19]) .ret) (.seq (.ops [.bin 21 .eql 4 (kI 2), .asg 20 21]) (.cond 20 (.seq (.ops [.fa 22 1 1, .ld 23 1 false 22, .bin 24 .eql 23 (kI 0), .mv 25 24, .g 25 true (.fa 26 2 1), .g 25 true (.ld 27 1 false 26), .g 25 true (.lns 28 27), .g 25 true (.bin 29 .leq 28 (kI 200)), .pick 30 25 29 (kB false), .asg 2 30]) .ret) (.seq (.ops [.bin 32 .eql 4 (kI 3), .asg 31 32]) (.cond 31 (.seq (.ops [.fa 33 1 1, .ld 34 1 false 33, .call (some 35) 43 [34, (kI 0), (kI 1)], .mv 36 35, .g 36 true (.fa 37 2 1), .g 36 true (.ld 38 1 false 37), .g 36 true (.bin 39 .eql 38 (.c (.d (.s (bs []))))), .pick 40 36 39 (kB false), .asg 2 40]) .ret) .skip)))))))))) (.seq (.ops [.asg 2 (kB false)]) .ret)))
theorem trsValueOk : trFn Tryz.prog 115 = some (acsValueOk, [.mv 0 2], 41) := by kernel_rfl
def qsValueOk (r : Bool) : Exit → St → Prop := retQ [.mv 0 2] fun x _ => x = (fun y => (vB y)) r
def acsL7Left_L0 : AC := (.loop (.seq (.seq (.ops [.mv 11 5, .fa 12 8 2, .ld 13 1 false 12, .len 14 13, .bin 15 .lss 11 14, .mv 16 15, .g 16 true (.mv 17 1), .g 16 true (.bin 18 .geq 17 (kI 0)), .pick 19 16 18 (kB false)]) (.cond 19 .skip (.exit 0))) (.seq (.block 1 (.ops [.fa 22 8 2, .ld 23 1 false 22, .mv 24 5, .ia 25 10 23 24, .ld 26 10 true 25, .mv 27 1, .call (some 28) 107 [26, 27], .asg 1 28])) (.ops [.mv 20 5, .bin 21 .add 20 (kI 1), .asg 5 21]))))
def acsL7Left_L2 : AC := (.loop (.seq (.seq (.ops [.mv 46 8, .mv 47 7, .len 48 47, .bin 49 .lss 46 48, .mv 50 49, .g 50 true (.mv 51 1), .g 50 true (.bin 52 .geq 51 (kI 0)), .pick 53 50 52 (kB false)]) (.cond 53 .skip (.exit 4))) (.seq (.block 5 (.ops [.mv 56 7, .mv 57 8, .ia 58 10 56 57, .ld 59 10 true 58, .mv 60 1, .call (some 61) 107 [59, 60], .asg 1 61])) (.ops [.mv 54 8, .bin 55 .add 54 (kI 1), .asg 8 55]))))
def acsL7Left_L1 : AC := (.loop (.seq (.seq (.ops [.mv 29 6, .fa 30 9 2, .ld 31 1 false 30, .len 32 31, .bin 33 .lss 29 32, .mv 34 33, .g 34 true (.mv 35 1), .g 34 true (.bin 36 .geq 35 (kI 0)), .pick 37 34 36 (kB false)]) (.cond 37 .skip (.exit 2))) (.seq (.block 3 (.seq (.ops [.fa 40 9 2, .ld 41 1 false 40, .mv 42 6, .ia 43 6 41 42, .ld 44 6 true 43, .call (some 45) 86 [44], .asg 7 45]) (.seq (.ops [.asg 8 (kI 0)]) (.block 4 acsL7Left_L2)))) (.ops [.mv 38 6, .bin 39 .add 38 (kI 1), .asg 6 39]))))
def acsL7Left : AC := (.seq (.ops [.box 2 82 0, .asg 4 (kI 0)]) (.seq (.ops [.mv 9 1, .bin 10 .sub 9 (kI 1), .asg 1 10]) (.seq (.seq (.ops [.asg 5 (kI 0)]) (.block 0 acsL7Left_L0)) (.seq (.seq (.ops [.asg 6 (kI 0)]) (.block 2 acsL7Left_L1)) (.seq (.ops [.mv 62 1, .asg 4 62]) .ret)))))
theorem trsL7Left : trFn Tryz.prog 107 = some (acsL7Left, [.mv 0 4], 63) := by kernel_rfl
def qsL7Left (r : Int) : Exit → St → Prop := retQ [.mv 0 4] fun x _ => x = (fun y => (vI y)) r
def qsL7Left_0 (r : Int) : Exit → St → Prop := (thenK (wkK (avc Tryz.prog (.seq (.seq (.ops [.asg 6 (.c (.d (.i .i64 0)))]) (.block 2 acsL7Left_L1)) (.seq (.ops [.mv 62 1, .asg 4 62]) .ret)) (qsL7Left r))) (qsL7Left r))
def qsL7Left_1 (r : Int) : Exit → St → Prop := (blockK 0 (qsL7Left_0 r))
def qsL7Left_2 (r : Int) : Exit → St → Prop := (thenK (wkK (avc Tryz.prog (.seq (.ops [.mv 62 1, .asg 4 62]) .ret) (qsL7Left r))) (qsL7Left r))
def qsL7Left_3 (r : Int) : Exit → St → Prop := (blockK 2 (qsL7Left_2 r))
def qsL7Left_4 (r : Int) : Exit → St → Prop := (thenK (avc Tryz.prog acsL7Left_L1 (qsL7Left_3 r)) (qsL7Left_3 r))
def qsL7Left_5 (r : Int) : Exit → St → Prop := (thenK (wkK (avc Tryz.prog (.ops [.mv 38 6, .bin 39 .add 38 (.c (.d (.i .i64 1))), .asg 6 39]) (qsL7Left_4 r))) (qsL7Left_4 r))
def qsL7Left_6 (r : Int) : Exit → St → Prop := (blockK 3 (qsL7Left_5 r))
def qsL7Left_7 (r : Int) : Exit → St → Prop := (blockK 4 (qsL7Left_6 r))
def stsL7Left_L0 (p0 : GExpr) (x1 : Int) (x5 : Int) : St := ⟨[(1, (vI x1)), (2, (.ptr 2 0)), (5, (vI x5))], [(2, bGExpr p0)]⟩
def stsL7Left_L1 (p0 : GExpr) (x1_4 : Int) (x6 : Int) : St := ⟨[(1, (vI x1_4)), (2, (.ptr 2 0)), (6, (vI x6))], [(2, bGExpr p0)]⟩
def stsL7Left_L2 (x6 : Int) (y7 : (List GExpr)) (p0 : GExpr) (x1_8 : Int) (x8 : Int) : St := ⟨[(1, (vI x1_8)), (2, (.ptr 2 0)), (6, (vI x6)), (7, (.osl 7 82 10 (y7.map cGExpr))), (8, (vI x8))], [(2, bGExpr p0)]⟩
def acsQueryOk : AC := (.seq (.ops [.box 1 39 0, .asg 2 (kB false)]) (.seq (.ops [.ld 3 6 true 1, .call (some 4) 82 [3], .mv 5 4, .g 5 true (.ld 6 6 true 1), .g 5 true (.call (some 7) 83 [6]), .g 5 true (.bin 8 .leq 7 (kI 24)), .pick 9 5 8 (kB false), .mv 10 9, .g 10 true (.ld 11 6 true 1), .g 10 true (.call (some 12) 84 [11]), .g 10 true (.bin 13 .leq 12 (kI 200)), .pick 14 10 13 (kB false), .asg 2 14]) .ret))
theorem trsQueryOk : trFn Tryz.prog 42 = some (acsQueryOk, [.mv 0 2], 15) := by kernel_rfl
def qsQueryOk (r : Bool) : Exit → St → Prop := retQ [.mv 0 2] fun x _ => x = (fun y => (vB y)) r
def acsQuerySize_L0 : AC := (.loop (.seq (.seq (.ops [.mv 8 5, .mv 9 4, .len 10 9, .bin 11 .lss 8 10]) (.cond 11 .skip (.exit 0))) (.seq (.block 1 (.ops [.mv 14 3, .mv 15 4, .mv 16 5, .ia 17 10 15 16, .ld 18 10 true 17, .call (some 19) 48 [18], .bin 20 .add 14 19, .asg 3 20])) (.ops [.mv 12 5, .bin 13 .add 12 (kI 1), .asg 5 13]))))
def acsQuerySize : AC := (.seq (.ops [.box 1 39 0, .asg 2 (kI 0)]) (.seq (.ops [.asg 3 (kI 0)]) (.seq (.ops [.ld 6 6 true 1, .call (some 7) 86 [6], .asg 4 7]) (.seq (.seq (.ops [.asg 5 (kI 0)]) (.block 0 acsQuerySize_L0)) (.seq (.ops [.mv 21 3, .asg 2 21]) .ret)))))
theorem trsQuerySize : trFn Tryz.prog 84 = some (acsQuerySize, [.mv 0 2], 22) := by kernel_rfl
def qsQuerySize (r : Int) : Exit → St → Prop := retQ [.mv 0 2] fun x _ => x = (fun y => (vI y)) r
def qsQuerySize_0 (r : Int) : Exit → St → Prop := (thenK (wkK (avc Tryz.prog (.seq (.ops [.mv 21 3, .asg 2 21]) .ret) (qsQuerySize r))) (qsQuerySize r))
def qsQuerySize_1 (r : Int) : Exit → St → Prop := (blockK 0 (qsQuerySize_0 r))
def stsQuerySize_L0 (y1 : (List GExpr)) (x3 : Int) (x5 : Int) : St := ⟨[(3, (vI x3)), (4, (.osl 4 82 10 (y1.map cGExpr))), (5, (vI x5))], []⟩
def acsSizeOf_L0 : AC := (.loop (.seq (.seq (.ops [.mv 6 4, .fa 7 8 1, .ld 8 1 false 7, .len 9 8, .bin 10 .lss 6 9]) (.cond 10 .skip (.exit 0))) (.seq (.block 1 (.ops [.mv 13 3, .fa 14 8 1, .ld 15 1 false 14, .mv 16 4, .ia 17 10 15 16, .ld 18 10 true 17, .call (some 19) 48 [18], .bin 20 .add 13 19, .asg 3 20])) (.ops [.mv 11 4, .bin 12 .add 11 (kI 1), .asg 4 12]))))
def acsSizeOf_L1 : AC := (.loop (.seq (.seq (.ops [.mv 21 5, .fa 22 9 1, .ld 23 1 false 22, .len 24 23, .bin 25 .lss 21 24]) (.cond 25 .skip (.exit 2))) (.seq (.block 3 (.ops [.mv 28 3, .fa 29 9 1, .ld 30 1 false 29, .mv 31 5, .ia 32 6 30 31, .ld 33 6 true 32, .call (some 34) 84 [33], .bin 35 .add 28 34, .asg 3 35])) (.ops [.mv 26 5, .bin 27 .add 26 (kI 1), .asg 5 27]))))
def acsSizeOf : AC := (.seq (.ops [.box 1 82 0, .asg 2 (kI 0)]) (.seq (.ops [.asg 3 (kI 1)]) (.seq (.seq (.ops [.asg 4 (kI 0)]) (.block 0 acsSizeOf_L0)) (.seq (.seq (.ops [.asg 5 (kI 0)]) (.block 2 acsSizeOf_L1)) (.seq (.ops [.mv 36 3, .asg 2 36]) .ret)))))
theorem trsSizeOf : trFn Tryz.prog 48 = some (acsSizeOf, [.mv 0 2], 37) := by kernel_rfl
def qsSizeOf (r : Int) : Exit → St → Prop := retQ [.mv 0 2] fun x _ => x = (fun y => (vI y)) r
def qsSizeOf_0 (r : Int) : Exit → St → Prop := (thenK (wkK (avc Tryz.prog (.seq (.seq (.ops [.asg 5 (.c (.d (.i .i64 0)))]) (.block 2 acsSizeOf_L1)) (.seq (.ops [.mv 36 3, .asg 2 36]) .ret)) (qsSizeOf r))) (qsSizeOf r))
def qsSizeOf_1 (r : Int) : Exit → St → Prop := (blockK 0 (qsSizeOf_0 r))
def qsSizeOf_2 (r : Int) : Exit → St → Prop := (thenK (wkK (avc Tryz.prog (.seq (.ops [.mv 36 3, .asg 2 36]) .ret) (qsSizeOf r))) (qsSizeOf r))
def qsSizeOf_3 (r : Int) : Exit → St → Prop := (blockK 2 (qsSizeOf_2 r))
def stsSizeOf_L0 (p0 : GExpr) (x3 : Int) (x4 : Int) : St := ⟨[(1, (.ptr 1 0)), (3, (vI x3)), (4, (vI x4))], [(1, bGExpr p0)]⟩
def stsSizeOf_L1 (p0 : GExpr) (x3_3 : Int) (x5 : Int) : St := ⟨[(1, (.ptr 1 0)), (3, (vI x3_3)), (5, (vI x5))], [(1, bGExpr p0)]⟩
def acsStmtSize_L0 : AC := (.loop (.seq (.seq (.ops [.mv 8 5, .mv 9 4, .len 10 9, .bin 11 .lss 8 10]) (.cond 11 .skip (.exit 0))) (.seq (.block 1 (.ops [.mv 14 3, .mv 15 4, .mv 16 5, .ia 17 10 15 16, .ld 18 10 true 17, .call (some 19) 48 [18], .bin 20 .add 14 19, .asg 3 20])) (.ops [.mv 12 5, .bin 13 .add 12 (kI 1), .asg 5 13]))))
def acsStmtSize : AC := (.seq (.ops [.box 1 42 0, .asg 2 (kI 0)]) (.seq (.ops [.asg 3 (kI 0)]) (.seq (.ops [.ld 6 12 true 1, .call (some 7) 45 [6], .asg 4 7]) (.seq (.seq (.ops [.asg 5 (kI 0)]) (.block 0 acsStmtSize_L0)) (.seq (.ops [.mv 21 3, .asg 2 21]) .ret)))))
theorem trsStmtSize : trFn Tryz.prog 15 = some (acsStmtSize, [.mv 0 2], 22) := by kernel_rfl
def qsStmtSize (r : Int) : Exit → St → Prop := retQ [.mv 0 2] fun x _ => x = (fun y => (vI y)) r
def qsStmtSize_0 (r : Int) : Exit → St → Prop := (thenK (wkK (avc Tryz.prog (.seq (.ops [.mv 21 3, .asg 2 21]) .ret) (qsStmtSize r))) (qsStmtSize r))
def qsStmtSize_1 (r : Int) : Exit → St → Prop := (blockK 0 (qsStmtSize_0 r))
def stsStmtSize_L0 (y1 : (List GExpr)) (x3 : Int) (x5 : Int) : St := ⟨[(3, (vI x3)), (4, (.osl 4 82 10 (y1.map cGExpr))), (5, (vI x5))], []⟩
def aciStmtOk : AC := (.seq (.ops [.box 1 42 0, .asg 2 (kB false)]) (.seq (.seq (.dops [[], [0], [], [2, 1], [1, 3, 3], [4]] [.ld 3 12 true 1, .call (some 4) 21 [3], .ld 5 12 true 1, .call (some 6) 22 [5], .call (some 7) 20 [4, 6], .not 8 7]) (.cond 8 (.seq (.ops [.asg 2 (kB false)]) .ret) .skip)) (.seq (.seq (.ops [.fa 9 0 1, .ld 10 1 false 9, .bin 11 .eql 10 (kI 1)]) (.cond 11 (.seq (.ops [.fa 12 7 1, .ld 13 1 false 12, .bin 14 .eql 13 (.c (.d (.s (bs [])))), .mv 15 14, .g 15 true (.fa 16 8 1), .g 15 true (.ld 17 1 false 16), .g 15 true (.len 18 17), .g 15 true (.bin 19 .eql 18 (kI 0)), .pick 20 15 19 (kB false), .mv 21 20, .g 21 true (.fa 22 9 1), .g 21 true (.ld 23 1 false 22), .g 21 true (.len 24 23), .g 21 true (.bin 25 .eql 24 (kI 0)), .pick 26 21 25 (kB false), .mv 27 26, .g 27 true (.fa 28 10 1), .g 27 true (.ld 29 1 false 28), .g 27 true (.len 30 29), .g 27 true (.bin 31 .eql 30 (kI 0)), .pick 32 27 31 (kB false), .mv 33 32, .g 33 true (.fa 34 11 1), .g 33 true (.ld 35 1 false 34), .g 33 true (.len 36 35), .g 33 true (.bin 37 .eql 36 (kI 0)), .pick 38 33 37 (kB false), .mv 39 38, .g 39 true (.fa 40 1 1), .g 39 true (.ld 41 6 true 40), .g 39 true (.call (some 42) 23 [41]), .pick 43 39 42 (kB false), .asg 2 43]) .ret) .skip)) (.seq (.seq (.ops [.fa 44 1 1, .ld 45 6 true 44, .bld 46 [(.d (.b false)), (.nil 13), (.nil 3), (.nil 10), (.nil 11), (.d (.i .i64 0))] [], .call (some 47) 24 [45, 46], .not 48 47, .mv 49 48, .g 49 false (.fa 50 7 1), .g 49 false (.ld 51 1 false 50), .g 49 false (.call (some 52) 25 [51]), .g 49 false (.not 53 52), .pick 54 49 (kB true) 53, .mv 55 54, .g 55 false (.ld 56 12 true 1), .g 55 false (.call (some 57) 27 [56]), .g 55 false (.call (some 58) 26 [57]), .g 55 false (.not 59 58), .pick 60 55 (kB true) 59]) (.cond 60 (.seq (.ops [.asg 2 (kB false)]) .ret) .skip)) (.seq (.seq (.ops [.fa 61 0 1, .ld 62 1 false 61]) (.block 0 (.seq (.ops [.bin 64 .eql 62 (kI 2), .asg 63 64]) (.cond 63 (.seq (.ops [.fa 65 9 1, .ld 66 1 false 65, .len 67 66, .bin 68 .eql 67 (kI 0), .mv 69 68, .g 69 true (.fa 70 10 1), .g 69 true (.ld 71 1 false 70), .g 69 true (.len 72 71), .g 69 true (.bin 73 .eql 72 (kI 0)), .pick 74 69 73 (kB false), .mv 75 74, .g 75 true (.fa 76 11 1), .g 75 true (.ld 77 1 false 76), .g 75 true (.len 78 77), .g 75 true (.bin 79 .eql 78 (kI 0)), .pick 80 75 79 (kB false), .mv 81 80, .g 81 true (.fa 82 8 1), .g 81 true (.ld 83 1 false 82), .g 81 true (.len 84 83), .g 81 true (.bin 85 .geq 84 (kI 1)), .pick 86 81 85 (kB false), .mv 87 86, .g 87 true (.fa 88 8 1), .g 87 true (.ld 89 1 false 88), .g 87 true (.len 90 89), .g 87 true (.bin 91 .leq 90 (kI 5)), .pick 92 87 91 (kB false), .mv 93 92, .g 93 true (.fa 94 8 1), .g 93 true (.ld 95 1 false 94), .g 93 true (.call (some 96) 28 [95, (.c (.fn 29 []))]), .g 93 true (.not 97 96), .pick 98 93 97 (kB false), .asg 2 98]) .ret) (.seq (.ops [.bin 100 .eql 62 (kI 3), .asg 99 100]) (.cond 99 (.seq (.ops [.fa 101 8 1, .ld 102 1 false 101, .len 103 102, .bin 104 .eql 103 (kI 0), .mv 105 104, .g 105 true (.fa 106 9 1), .g 105 true (.ld 107 1 false 106), .g 105 true (.len 108 107), .g 105 true (.bin 109 .geq 108 (kI 1)), .pick 110 105 109 (kB false), .mv 111 110, .g 111 true (.fa 112 9 1), .g 111 true (.ld 113 1 false 112), .g 111 true (.len 114 113), .g 111 true (.bin 115 .leq 114 (kI 12)), .pick 116 111 115 (kB false), .mv 117 116, .g 117 true (.fa 118 10 1), .g 117 true (.ld 119 1 false 118), .g 117 true (.len 120 119), .g 117 true (.fa 121 9 1), .g 117 true (.ld 122 1 false 121), .g 117 true (.len 123 122), .g 117 true (.bin 124 .eql 120 123), .pick 125 117 124 (kB false), .mv 126 125, .g 126 true (.fa 127 11 1), .g 126 true (.ld 128 1 false 127), .g 126 true (.len 129 128), .g 126 true (.bin 130 .leq 129 (kI 1)), .pick 131 126 130 (kB false), .mv 132 131, .g 132 true (.fa 133 9 1), .g 132 true (.ld 134 1 false 133), .g 132 true (.call (some 135) 30 [134, (.c (.fn 31 []))]), .g 132 true (.not 136 135), .pick 137 132 136 (kB false), .asg 2 137]) .ret) (.seq (.ops [.bin 139 .eql 62 (kI 4), .asg 138 139]) (.cond 138 (.seq (.ops [.fa 140 8 1, .ld 141 1 false 140, .len 142 141, .bin 143 .eql 142 (kI 0), .mv 144 143, .g 144 true (.fa 145 9 1), .g 144 true (.ld 146 1 false 145), .g 144 true (.len 147 146), .g 144 true (.bin 148 .eql 147 (kI 0)), .pick 149 144 148 (kB false), .mv 150 149, .g 150 true (.fa 151 10 1), .g 150 true (.ld 152 1 false 151), .g 150 true (.len 153 152), .g 150 true (.bin 154 .eql 153 (kI 0)), .pick 155 150 154 (kB false), .mv 156 155, .g 156 true (.fa 157 11 1), .g 156 true (.ld 158 1 false 157), .g 156 true (.len 159 158), .g 156 true (.bin 160 .leq 159 (kI 1)), .pick 161 156 160 (kB false), .asg 2 161]) .ret) .skip)))))))) (.seq (.ops [.asg 2 (kB false)]) .ret))))))
theorem triStmtOk : trFn Tryz.prog 7 = some (aciStmtOk, [.mv 0 2], 162) := by kernel_rfl
def qiStmtOk (r : Bool) : Exit → St → Prop := retQ [.mv 0 2] fun x _ => x = (fun y => (vB y)) r
def acgZ11 : AC := (.seq (.ops [.asg 4 (kB false)]) (.seq (.ops [.mv 5 0, .mv 6 1, .call (some 7) 70 [5, 6], .bin 8 .geq 7 (kI 0), .asg 4 8]) .ret))
theorem trgZ11 : trFn Tryz.prog 30 = some (acgZ11, [.mv 0 4], 9) := by kernel_rfl
def qgZ11 (r : Bool) : Exit → St → Prop := retQ [.mv 0 4] fun x _ => x = (fun y => (vB y)) r
def acgZ12_L0 : AC := (.loop (.seq (.ops [.bin 9 .lss 8 7]) (.seq (.cond 9 .skip (.exit 0)) (.seq (.block 1 (.seq (.ops [.mv 10 8, .asg 5 10]) (.seq (.ops [.mv 11 1, .mv 12 0, .mv 13 5, .ia 14 1 12 13, .ld 15 1 false 14, .callv (some 16) 11 [15]]) (.cond 16 (.seq (.ops [.mv 17 5, .asg 4 17]) .ret) .skip)))) (.ops [.bin 18 .add 8 (kI 1), .mv 8 18])))))
def acgZ12 : AC := (.seq (.ops [.asg 4 (kI 0)]) (.seq (.seq (.ops [.mv 6 0, .len 7 6, .mv 8 (kI 0)]) (.block 0 acgZ12_L0)) (.seq (.ops [.asg 4 (kI (-1))]) .ret)))
theorem trgZ12 : trFn Tryz.prog 70 = some (acgZ12, [.mv 0 4], 19) := by kernel_rfl
def qgZ12 (r : Int) : Exit → St → Prop := retQ [.mv 0 4] fun x _ => x = (fun y => (vI y)) r
def qgZ12_0 (r : Int) : Exit → St → Prop := (thenK (wkK (avc Tryz.prog (.seq (.ops [.asg 4 (.c (.d (.i .i64 (-1))))]) .ret) (qgZ12 r))) (qgZ12 r))
def qgZ12_1 (r : Int) : Exit → St → Prop := (blockK 0 (qgZ12_0 r))
def stgZ12_L0 (p0 : (List (List UInt8))) (x8 : Int) : St := ⟨[(0, (.d (.sl 1 (p0.map cStr)))), (1, (.fn 31 [])), (7, (vI (p0.length : Int))), (8, (vI x8))], []⟩
def aciStmtOk_2 : AC := (.seq (.ops [.asg 2 (kB false)]) (.seq (.ops [.mv 3 0, .call (some 4) 25 [3], .not 5 4, .asg 2 5]) .ret))
theorem triStmtOk_2 : trFn Tryz.prog 31 = some (aciStmtOk_2, [.mv 0 2], 6) := by kernel_rfl
def qiStmtOk_2 (r : Bool) : Exit → St → Prop := retQ [.mv 0 2] fun x _ => x = (fun y => (vB y)) r
def aciNameOk : AC := (.seq (.ops [.asg 2 (kB false)]) (.seq (.ops [.mv 3 0, .lns 4 3, .bin 5 .geq 4 (kI 1), .mv 6 5, .g 6 true (.mv 7 0), .g 6 true (.lns 8 7), .g 6 true (.bin 9 .leq 8 (kI 20)), .pick 10 6 9 (kB false), .asg 2 10]) .ret))
theorem triNameOk : trFn Tryz.prog 25 = some (aciNameOk, [.mv 0 2], 11) := by kernel_rfl
def qiNameOk (r : Bool) : Exit → St → Prop := retQ [.mv 0 2] fun x _ => x = (fun y => (vB y)) r
def aciStmtSize : AC := (.seq (.ops [.box 1 42 0, .asg 2 (kI 0)]) (.seq (.ops [.ld 3 12 true 1, .call (some 4) 27 [3], .call (some 5) 54 [4], .asg 2 5]) .ret))
theorem triStmtSize : trFn Tryz.prog 22 = some (aciStmtSize, [.mv 0 2], 6) := by kernel_rfl
def qiStmtSize (r : Int) : Exit → St → Prop := retQ [.mv 0 2] fun x _ => x = (fun y => (vI y)) r
def aciSizeOfAll_L0 : AC := (.loop (.seq (.ops [.bin 9 .lss 8 7]) (.seq (.cond 9 .skip (.exit 0)) (.seq (.block 1 (.seq (.ops [.ia 10 10 6 8, .ld 11 10 true 10, .alc 5 [(.d (.i .i64 0)), (.d (.i .i64 0)), (.d (.b false)), (.d (.i .i64 0)), (.d (.i .i64 0)), (.d (.s (bs []))), (.d (.s (bs []))), (.d (.s (bs []))), (.nil 10), (.nil 6)], .st 10 5 11]) (.ops [.mv 12 3, .ld 13 10 true 5, .call (some 14) 93 [13], .bin 15 .add 12 14, .asg 3 15]))) (.ops [.bin 16 .add 8 (kI 1), .mv 8 16])))))
def aciSizeOfAll : AC := (.seq (.ops [.asg 2 (kI 0)]) (.seq (.ops [.asg 3 (kI 0)]) (.seq (.seq (.ops [.mv 6 0, .len 7 6, .mv 8 (kI 0)]) (.block 0 aciSizeOfAll_L0)) (.seq (.ops [.mv 17 3, .asg 2 17]) .ret))))
theorem triSizeOfAll : trFn Tryz.prog 54 = some (aciSizeOfAll, [.mv 0 2], 18) := by kernel_rfl
def qiSizeOfAll (r : Int) : Exit → St → Prop := retQ [.mv 0 2] fun x _ => x = (fun y => (vI y)) r
def qiSizeOfAll_0 (r : Int) : Exit → St → Prop := (thenK (wkK (avc Tryz.prog (.seq (.ops [.mv 17 3, .asg 2 17]) .ret) (qiSizeOfAll r))) (qiSizeOfAll r))
def qiSizeOfAll_1 (r : Int) : Exit → St → Prop := (blockK 0 (qiSizeOfAll_0 r))
def stiSizeOfAll_L0 (p0 : (List GExpr)) (x3 : Int) (x8 : Int) : St := ⟨[(3, (vI x3)), (6, (.d (.sl 10 (p0.map cGExpr)))), (7, (vI (p0.length : Int))), (8, (vI x8))], []⟩
def aciSizeOf_L0 : AC := (.loop (.seq (.ops [.bin 14 .lss 13 12]) (.seq (.cond 14 .skip (.exit 0)) (.seq (.block 1 (.seq (.ops [.ia 15 6 11 13, .ld 16 6 true 15, .alc 5 [(.d (.b false)), (.nil 13), (.nil 3), (.nil 10), (.nil 11), (.d (.i .i64 0))], .st 6 5 16]) (.ops [.mv 17 3, .ld 18 6 true 5, .call (some 19) 109 [18], .bin 20 .add 17 19, .asg 3 20]))) (.ops [.bin 21 .add 13 (kI 1), .mv 13 21])))))
def aciSizeOf : AC := (.seq (.ops [.box 1 82 0, .asg 2 (kI 0)]) (.seq (.ops [.fa 6 8 1, .ld 7 1 false 6, .call (some 8) 54 [7], .bin 9 .add (kI 1) 8, .asg 3 9]) (.seq (.seq (.ops [.fa 10 9 1, .ld 11 1 false 10, .len 12 11, .mv 13 (kI 0)]) (.block 0 aciSizeOf_L0)) (.seq (.ops [.mv 22 3, .asg 2 22]) .ret))))
theorem triSizeOf : trFn Tryz.prog 93 = some (aciSizeOf, [.mv 0 2], 23) := by kernel_rfl
def qiSizeOf (r : Int) : Exit → St → Prop := retQ [.mv 0 2] fun x _ => x = (fun y => (vI y)) r
def qiSizeOf_0 (r : Int) : Exit → St → Prop := (thenK (wkK (avc Tryz.prog (.seq (.ops [.mv 22 3, .asg 2 22]) .ret) (qiSizeOf r))) (qiSizeOf r))
def qiSizeOf_1 (r : Int) : Exit → St → Prop := (blockK 0 (qiSizeOf_0 r))
def stiSizeOf_L0 (p0 : GExpr) (x3 : Int) (x13 : Int) : St := ⟨[(3, (vI x3)), (11, (.d (.sl 6 (p0.sub.map cGQuery)))), (12, (vI (p0.sub.length : Int))), (13, (vI x13))], []⟩
def aciQuerySize : AC := (.seq (.ops [.box 1 39 0, .asg 2 (kI 0)]) (.seq (.ops [.ld 3 6 true 1, .call (some 4) 57 [3], .call (some 5) 54 [4], .asg 2 5]) .ret))
theorem triQuerySize : trFn Tryz.prog 109 = some (aciQuerySize, [.mv 0 2], 6) := by kernel_rfl
def qiQuerySize (r : Int) : Exit → St → Prop := retQ [.mv 0 2] fun x _ => x = (fun y => (vI y)) r
def aciQuery_exprs_J1 : AC := (.ops [.bin 26 .add 14 (kI 1), .mv 14 26])
def aciQuery_exprs_L0 : AC := (.loop (.seq (.ops [.bin 15 .lss 14 13]) (.seq (.cond 15 .skip (.exit 0)) (.seq (.block 1 (.seq (.ops [.ia 16 13 12 14, .ld 17 13 true 16, .alc 5 [(.d (.b false)), (.d (.s (bs []))), (.d (.i .i64 0)), (.d (.i .i64 0)), (.d (.b false)), (.d (.i .i64 0)), (.d (.i .i64 0)), (.d (.s (bs []))), (.d (.s (bs []))), (.d (.s (bs []))), (.nil 10), (.nil 6), (.d (.s (bs [])))], .st 13 5 17]) (.seq (.ops [.fa 18 0 5, .ld 19 1 false 18, .not 20 19]) (.cond 20 (.ops [.mv 21 3, .fa 22 2 5, .ld 23 10 true 22, .bsl 24 82 10 [23], .app 25 82 10 136 21 24, .asg 3 25]) .skip)))) aciQuery_exprs_J1))))
def aciQuery_exprs_L2 : AC := (.loop (.seq (.ops [.bin 31 .lss 30 29]) (.seq (.cond 31 .skip (.exit 2)) (.seq (.block 3 (.seq (.ops [.ia 32 3 28 30, .ld 33 3 true 32, .alc 7 [(.d (.s (bs []))), (.d (.s (bs []))), (.nil 10)], .st 3 7 33]) (.ops [.mv 34 3, .fa 35 2 7, .ld 36 1 false 35, .app 37 82 10 136 34 36, .asg 3 37]))) (.ops [.bin 38 .add 30 (kI 1), .mv 30 38])))))
def aciQuery_exprs_L3 : AC := (.loop (.seq (.ops [.bin 47 .lss 46 45]) (.seq (.cond 47 .skip (.exit 4)) (.seq (.block 5 (.seq (.ops [.ia 48 11 44 46, .ld 49 11 true 48, .alc 9 [(.d (.i .i64 0)), (.d (.i .i64 0)), (.d (.b false)), (.d (.i .i64 0)), (.d (.i .i64 0)), (.d (.s (bs []))), (.d (.s (bs []))), (.d (.s (bs []))), (.nil 10), (.nil 6), (.d (.b false))], .st 11 9 49]) (.ops [.mv 50 3, .fa 51 0 9, .ld 52 10 true 51, .bsl 53 82 10 [52], .app 54 82 10 136 50 53, .asg 3 54]))) (.ops [.bin 55 .add 46 (kI 1), .mv 46 55])))))
def aciQuery_exprs : AC := (.seq (.ops [.box 1 39 0, .asg 2 (.c (.nil 10))]) (.seq (.ops [.bsl 10 82 10 [], .asg 3 10]) (.seq (.seq (.ops [.fa 11 1 1, .ld 12 1 false 11, .len 13 12, .mv 14 (kI 0)]) (.block 0 aciQuery_exprs_L0)) (.seq (.seq (.ops [.fa 27 2 1, .ld 28 1 false 27, .len 29 28, .mv 30 (kI 0)]) (.block 2 aciQuery_exprs_L2)) (.seq (.ops [.mv 39 3, .fa 40 3 1, .ld 41 1 false 40, .app 42 82 10 136 39 41, .asg 3 42]) (.seq (.seq (.ops [.fa 43 4 1, .ld 44 1 false 43, .len 45 44, .mv 46 (kI 0)]) (.block 4 aciQuery_exprs_L3)) (.seq (.ops [.mv 56 3, .asg 2 56]) .ret)))))))
theorem triQuery_exprs : trFn Tryz.prog 57 = some (aciQuery_exprs, [.mv 0 2], 57) := by kernel_rfl
def qiQuery_exprs (r : (List GExpr)) : Exit → St → Prop := retQ [.mv 0 2] fun x b => x = (fun (y : (List GExpr)) => (.osl 2000000 82 10 (y.map cGExpr))) r ∧ bxHas ((fun (y : (List GExpr)) => []) r) b
def qiQuery_exprs_0 (r : (List GExpr)) : Exit → St → Prop := (thenK (wkK (avc Tryz.prog (.seq (.seq (.ops [.fa 27 2 1, .ld 28 1 false 27, .len 29 28, .mv 30 (.c (.d (.i .i64 0)))]) (.block 2 aciQuery_exprs_L2)) (.seq (.ops [.mv 39 3, .fa 40 3 1, .ld 41 1 false 40, .app 42 82 10 136 39 41, .asg 3 42]) (.seq (.seq (.ops [.fa 43 4 1, .ld 44 1 false 43, .len 45 44, .mv 46 (.c (.d (.i .i64 0)))]) (.block 4 aciQuery_exprs_L3)) (.seq (.ops [.mv 56 3, .asg 2 56]) .ret)))) (qiQuery_exprs r))) (qiQuery_exprs r))
def qiQuery_exprs_1 (r : (List GExpr)) : Exit → St → Prop := (blockK 0 (qiQuery_exprs_0 r))
def qiQuery_exprs_2 (r : (List GExpr)) : Exit → St → Prop := (thenK (avc Tryz.prog aciQuery_exprs_L0 (qiQuery_exprs_1 r)) (qiQuery_exprs_1 r))
def qiQuery_exprs_3 (r : (List GExpr)) : Exit → St → Prop := (thenK (wkK (avc Tryz.prog (.seq (.ops [.mv 39 3, .fa 40 3 1, .ld 41 1 false 40, .app 42 82 10 136 39 41, .asg 3 42]) (.seq (.seq (.ops [.fa 43 4 1, .ld 44 1 false 43, .len 45 44, .mv 46 (.c (.d (.i .i64 0)))]) (.block 4 aciQuery_exprs_L3)) (.seq (.ops [.mv 56 3, .asg 2 56]) .ret))) (qiQuery_exprs r))) (qiQuery_exprs r))
def qiQuery_exprs_4 (r : (List GExpr)) : Exit → St → Prop := (blockK 2 (qiQuery_exprs_3 r))
def qiQuery_exprs_5 (r : (List GExpr)) : Exit → St → Prop := (thenK (wkK (avc Tryz.prog (.seq (.ops [.mv 56 3, .asg 2 56]) .ret) (qiQuery_exprs r))) (qiQuery_exprs r))
def qiQuery_exprs_6 (r : (List GExpr)) : Exit → St → Prop := (blockK 4 (qiQuery_exprs_5 r))
def stiQuery_exprs_L0 (p0 : GQuery) (x3 : (List GExpr)) (x14 : Int) : St := ⟨[(1, (.ptr 1 0)), (3, (.osl 3 82 10 (x3.map cGExpr))), (12, (.d (.sl 13 (p0.items.map cGItem)))), (13, (vI (p0.items.length : Int))), (14, (vI x14))], [(1, bGQuery p0)]⟩
def stiQuery_exprs_J1 (p0 : GQuery) (x14 : Int) (x3_3 : (List GExpr)) : St := ⟨[(1, (.ptr 1 0)), (3, (.osl 3 82 10 (x3_3.map cGExpr))), (12, (.d (.sl 13 (p0.items.map cGItem)))), (13, (vI (p0.items.length : Int))), (14, (vI x14))], [(1, bGQuery p0)]⟩
def stiQuery_exprs_L2 (p0 : GQuery) (x3_4 : (List GExpr)) (x30 : Int) : St := ⟨[(1, (.ptr 1 0)), (3, (.osl 3 82 10 (x3_4.map cGExpr))), (28, (.d (.sl 3 (p0.from_.map cGSource)))), (29, (vI (p0.from_.length : Int))), (30, (vI x30))], [(1, bGQuery p0)]⟩
def stiQuery_exprs_L3 (p0 : GQuery) (x3_8 : (List GExpr)) (x46 : Int) : St := ⟨[(3, (.osl 3 82 10 (x3_8.map cGExpr))), (44, (.d (.sl 11 (p0.order.map cGSortKey)))), (45, (vI (p0.order.length : Int))), (46, (vI x46))], []⟩
def aciStmt_exprs_L0 : AC := (.loop (.seq (.ops [.bin 13 .lss 12 11]) (.seq (.cond 13 .skip (.exit 0)) (.seq (.block 1 (.seq (.ops [.ia 14 1 10 12, .ld 15 1 false 14, .asg 5 15]) (.ops [.mv 16 3, .mv 17 5, .app 18 82 10 136 16 17, .asg 3 18]))) (.ops [.bin 19 .add 12 (kI 1), .mv 12 19])))))
def aciStmt_exprs : AC := (.seq (.ops [.box 1 42 0, .asg 2 (.c (.nil 10))]) (.seq (.ops [.fa 6 1 1, .ld 7 6 true 6, .call (some 8) 57 [7], .asg 3 8]) (.seq (.seq (.ops [.fa 9 8 1, .ld 10 1 false 9, .len 11 10, .mv 12 (kI 0)]) (.block 0 aciStmt_exprs_L0)) (.seq (.ops [.mv 20 3, .fa 21 10 1, .ld 22 1 false 21, .app 23 82 10 136 20 22, .asg 3 23]) (.seq (.ops [.mv 24 3, .fa 25 11 1, .ld 26 1 false 25, .app 27 82 10 136 24 26, .asg 2 27]) .ret)))))
theorem triStmt_exprs : trFn Tryz.prog 27 = some (aciStmt_exprs, [.mv 0 2], 28) := by kernel_rfl
def qiStmt_exprs (r : (List GExpr)) : Exit → St → Prop := retQ [.mv 0 2] fun x b => x = (fun (y : (List GExpr)) => (.osl 2000000 82 10 (y.map cGExpr))) r ∧ bxHas ((fun (y : (List GExpr)) => []) r) b
def qiStmt_exprs_0 (r : (List GExpr)) : Exit → St → Prop := (thenK (wkK (avc Tryz.prog (.seq (.ops [.mv 20 3, .fa 21 10 1, .ld 22 1 false 21, .app 23 82 10 136 20 22, .asg 3 23]) (.seq (.ops [.mv 24 3, .fa 25 11 1, .ld 26 1 false 25, .app 27 82 10 136 24 26, .asg 2 27]) .ret)) (qiStmt_exprs r))) (qiStmt_exprs r))
def qiStmt_exprs_1 (r : (List GExpr)) : Exit → St → Prop := (blockK 0 (qiStmt_exprs_0 r))
def stiStmt_exprs_L0 (p0 : GStmt) (x3 : (List GExpr)) (x12 : Int) : St := ⟨[(1, (.ptr 1 0)), (3, (.osl 3 82 10 (x3.map cGExpr))), (10, (.d (.sl 1 (p0.rows.map (cSl 10 cGExpr))))), (11, (vI (p0.rows.length : Int))), (12, (vI x12))], [(1, bGStmt p0)]⟩
def aciSameQuery : AC := (.seq (.ops [.box 2 39 0, .box 3 39 1, .asg 4 (kB false)]) (.seq (.ops [.asg 5 (.c (.fn 58 []))]) (.seq (.ops [.asg 6 (.c (.fn 60 []))]) (.seq (.ops [.asg 7 (.c (.fn 62 []))]) (.seq (.ops [.fa 8 0 2, .ld 9 1 false 8, .fa 10 0 3, .ld 11 1 false 10, .eqb 12 false 9 11, .mv 13 12, .g 13 true (.fa 14 5 2), .g 13 true (.ld 15 1 false 14), .g 13 true (.fa 16 5 3), .g 13 true (.ld 17 1 false 16), .g 13 true (.bin 18 .eql 15 17), .pick 19 13 18 (kB false), .mv 20 19, .g 20 true (.fa 21 1 2), .g 20 true (.ld 22 1 false 21), .g 20 true (.fa 23 1 3), .g 20 true (.ld 24 1 false 23), .g 20 true (.mv 25 5), .g 20 true (.call (some 26) 63 [22, 24, 25]), .pick 27 20 26 (kB false), .mv 28 27, .g 28 true (.fa 29 2 2), .g 28 true (.ld 30 1 false 29), .g 28 true (.fa 31 2 3), .g 28 true (.ld 32 1 false 31), .g 28 true (.mv 33 6), .g 28 true (.call (some 34) 64 [30, 32, 33]), .pick 35 28 34 (kB false), .mv 36 35, .g 36 true (.fa 37 3 2), .g 36 true (.ld 38 1 false 37), .g 36 true (.fa 39 3 3), .g 36 true (.ld 40 1 false 39), .g 36 true (.call (some 41) 61 [38, 40]), .pick 42 36 41 (kB false), .mv 43 42, .g 43 true (.fa 44 4 2), .g 43 true (.ld 45 1 false 44), .g 43 true (.fa 46 4 3), .g 43 true (.ld 47 1 false 46), .g 43 true (.mv 48 7), .g 43 true (.call (some 49) 65 [45, 47, 48]), .pick 50 43 49 (kB false), .asg 4 50]) .ret)))))
theorem triSameQuery : trFn Tryz.prog 24 = some (aciSameQuery, [.mv 0 4], 51) := by kernel_rfl
def qiSameQuery (r : Bool) : Exit → St → Prop := retQ [.mv 0 4] fun x _ => x = (fun y => (vB y)) r
def aciSameExprs : AC := (.seq (.ops [.asg 4 (kB false)]) (.seq (.ops [.mv 5 0, .mv 6 1, .call (some 7) 95 [5, 6, (.c (.fn 59 []))], .asg 4 7]) .ret))
theorem triSameExprs : trFn Tryz.prog 61 = some (aciSameExprs, [.mv 0 4], 8) := by kernel_rfl
def qiSameExprs (r : Bool) : Exit → St → Prop := retQ [.mv 0 4] fun x _ => x = (fun y => (vB y)) r
def acgZ4_L0 : AC := (.loop (.seq (.ops [.bin 18 .lss 17 16]) (.seq (.cond 18 .skip (.exit 0)) (.seq (.block 1 (.seq (.ops [.mv 19 17, .ia 20 10 15 17, .ld 21 10 true 20, .alc 8 [(.d (.i .i64 0)), (.d (.i .i64 0)), (.d (.b false)), (.d (.i .i64 0)), (.d (.i .i64 0)), (.d (.s (bs []))), (.d (.s (bs []))), (.d (.s (bs []))), (.nil 10), (.nil 6)], .asg 7 19, .st 10 8 21]) (.seq (.ops [.mv 22 1, .mv 23 7, .ia 24 10 22 23, .ld 25 10 true 24, .alc 9 [(.d (.i .i64 0)), (.d (.i .i64 0)), (.d (.b false)), (.d (.i .i64 0)), (.d (.i .i64 0)), (.d (.s (bs []))), (.d (.s (bs []))), (.d (.s (bs []))), (.nil 10), (.nil 6)], .st 10 9 25]) (.seq (.ops [.mv 26 2, .ld 27 10 true 8, .ld 28 10 true 9, .callv (some 29) 26 [27, 28], .not 30 29]) (.cond 30 (.seq (.ops [.asg 6 (kB false)]) .ret) .skip))))) (.ops [.bin 31 .add 17 (kI 1), .mv 17 31])))))
def acgZ4 : AC := (.seq (.ops [.asg 6 (kB false)]) (.seq (.seq (.ops [.mv 10 0, .len 11 10, .mv 12 1, .len 13 12, .bin 14 .neq 11 13]) (.cond 14 (.seq (.ops [.asg 6 (kB false)]) .ret) .skip)) (.seq (.seq (.ops [.mv 15 0, .len 16 15, .mv 17 (kI 0)]) (.block 0 acgZ4_L0)) (.seq (.ops [.asg 6 (kB true)]) .ret))))
theorem trgZ4 : trFn Tryz.prog 95 = some (acgZ4, [.mv 0 6], 32) := by kernel_rfl
def qgZ4 (r : Bool) : Exit → St → Prop := retQ [.mv 0 6] fun x _ => x = (fun y => (vB y)) r
def qgZ4_0 (r : Bool) : Exit → St → Prop := (thenK (wkK (avc Tryz.prog (.seq (.ops [.asg 6 (.c (.d (.b true)))]) .ret) (qgZ4 r))) (qgZ4 r))
def qgZ4_1 (r : Bool) : Exit → St → Prop := (blockK 0 (qgZ4_0 r))
def stgZ4_L0 (p1 : (List GExpr)) (p0 : (List GExpr)) (x17 : Int) : St := ⟨[(1, (.d (.sl 10 (p1.map cGExpr)))), (2, (.fn 59 [])), (15, (.d (.sl 10 (p0.map cGExpr)))), (16, (vI (p0.length : Int))), (17, (vI x17))], []⟩
def aciSameExpr : AC := (.seq (.ops [.box 2 82 0, .box 3 82 1, .asg 4 (kB false)]) (.seq (.ops [.fa 5 0 2, .ld 6 1 false 5, .fa 7 0 3, .ld 8 1 false 7, .bin 9 .eql 6 8, .mv 10 9, .g 10 true (.fa 11 1 2), .g 10 true (.ld 12 1 false 11), .g 10 true (.fa 13 1 3), .g 10 true (.ld 14 1 false 13), .g 10 true (.bin 15 .eql 12 14), .pick 16 10 15 (kB false), .mv 17 16, .g 17 true (.fa 18 2 2), .g 17 true (.ld 19 1 false 18), .g 17 true (.fa 20 2 3), .g 17 true (.ld 21 1 false 20), .g 17 true (.eqb 22 false 19 21), .pick 23 17 22 (kB false), .mv 24 23, .g 24 true (.fa 25 3 2), .g 24 true (.ld 26 3 true 25), .g 24 true (.fa 27 3 3), .g 24 true (.ld 28 3 true 27), .g 24 true (.eqv 29 false [0, 0, 1] 26 28), .pick 30 24 29 (kB false), .mv 31 30, .g 31 true (.fa 32 6 2), .g 31 true (.ld 33 1 false 32), .g 31 true (.fa 34 6 3), .g 31 true (.ld 35 1 false 34), .g 31 true (.bin 36 .eql 33 35), .pick 37 31 36 (kB false), .mv 38 37, .g 38 true (.fa 39 7 2), .g 38 true (.ld 40 1 false 39), .g 38 true (.fa 41 7 3), .g 38 true (.ld 42 1 false 41), .g 38 true (.bin 43 .eql 40 42), .pick 44 38 43 (kB false), .mv 45 44, .g 45 true (.fa 46 8 2), .g 45 true (.ld 47 1 false 46), .g 45 true (.fa 48 8 3), .g 45 true (.ld 49 1 false 48), .g 45 true (.call (some 50) 61 [47, 49]), .pick 51 45 50 (kB false), .mv 52 51, .g 52 true (.fa 53 9 2), .g 52 true (.ld 54 1 false 53), .g 52 true (.fa 55 9 3), .g 52 true (.ld 56 1 false 55), .g 52 true (.call (some 57) 94 [54, 56, (.c (.fn 24 []))]), .pick 58 52 57 (kB false), .asg 4 58]) .ret))
theorem triSameExpr : trFn Tryz.prog 59 = some (aciSameExpr, [.mv 0 4], 59) := by kernel_rfl
def qiSameExpr (r : Bool) : Exit → St → Prop := retQ [.mv 0 4] fun x _ => x = (fun y => (vB y)) r
def acgZ2_L0 : AC := (.loop (.seq (.ops [.bin 18 .lss 17 16]) (.seq (.cond 18 .skip (.exit 0)) (.seq (.block 1 (.seq (.ops [.mv 19 17, .ia 20 6 15 17, .ld 21 6 true 20, .alc 8 [(.d (.b false)), (.nil 13), (.nil 3), (.nil 10), (.nil 11), (.d (.i .i64 0))], .asg 7 19, .st 6 8 21]) (.seq (.ops [.mv 22 1, .mv 23 7, .ia 24 6 22 23, .ld 25 6 true 24, .alc 9 [(.d (.b false)), (.nil 13), (.nil 3), (.nil 10), (.nil 11), (.d (.i .i64 0))], .st 6 9 25]) (.seq (.ops [.mv 26 2, .ld 27 6 true 8, .ld 28 6 true 9, .callv (some 29) 26 [27, 28], .not 30 29]) (.cond 30 (.seq (.ops [.asg 6 (kB false)]) .ret) .skip))))) (.ops [.bin 31 .add 17 (kI 1), .mv 17 31])))))
def acgZ2 : AC := (.seq (.ops [.asg 6 (kB false)]) (.seq (.seq (.ops [.mv 10 0, .len 11 10, .mv 12 1, .len 13 12, .bin 14 .neq 11 13]) (.cond 14 (.seq (.ops [.asg 6 (kB false)]) .ret) .skip)) (.seq (.seq (.ops [.mv 15 0, .len 16 15, .mv 17 (kI 0)]) (.block 0 acgZ2_L0)) (.seq (.ops [.asg 6 (kB true)]) .ret))))
theorem trgZ2 : trFn Tryz.prog 94 = some (acgZ2, [.mv 0 6], 32) := by kernel_rfl
def qgZ2 (r : Bool) : Exit → St → Prop := retQ [.mv 0 6] fun x _ => x = (fun y => (vB y)) r
def qgZ2_0 (r : Bool) : Exit → St → Prop := (thenK (wkK (avc Tryz.prog (.seq (.ops [.asg 6 (.c (.d (.b true)))]) .ret) (qgZ2 r))) (qgZ2 r))
def qgZ2_1 (r : Bool) : Exit → St → Prop := (blockK 0 (qgZ2_0 r))
def stgZ2_L0 (p1 : (List GQuery)) (p0 : (List GQuery)) (x17 : Int) : St := ⟨[(1, (.d (.sl 6 (p1.map cGQuery)))), (2, (.fn 24 [])), (15, (.d (.sl 6 (p0.map cGQuery)))), (16, (vI (p0.length : Int))), (17, (vI x17))], []⟩
def acgZ0_L0 : AC := (.loop (.seq (.ops [.bin 18 .lss 17 16]) (.seq (.cond 18 .skip (.exit 0)) (.seq (.block 1 (.seq (.ops [.mv 19 17, .ia 20 11 15 17, .ld 21 11 true 20, .alc 8 [(.d (.i .i64 0)), (.d (.i .i64 0)), (.d (.b false)), (.d (.i .i64 0)), (.d (.i .i64 0)), (.d (.s (bs []))), (.d (.s (bs []))), (.d (.s (bs []))), (.nil 10), (.nil 6), (.d (.b false))], .asg 7 19, .st 11 8 21]) (.seq (.ops [.mv 22 1, .mv 23 7, .ia 24 11 22 23, .ld 25 11 true 24, .alc 9 [(.d (.i .i64 0)), (.d (.i .i64 0)), (.d (.b false)), (.d (.i .i64 0)), (.d (.i .i64 0)), (.d (.s (bs []))), (.d (.s (bs []))), (.d (.s (bs []))), (.nil 10), (.nil 6), (.d (.b false))], .st 11 9 25]) (.seq (.ops [.mv 26 2, .ld 27 11 true 8, .ld 28 11 true 9, .callv (some 29) 26 [27, 28], .not 30 29]) (.cond 30 (.seq (.ops [.asg 6 (kB false)]) .ret) .skip))))) (.ops [.bin 31 .add 17 (kI 1), .mv 17 31])))))
def acgZ0 : AC := (.seq (.ops [.asg 6 (kB false)]) (.seq (.seq (.ops [.mv 10 0, .len 11 10, .mv 12 1, .len 13 12, .bin 14 .neq 11 13]) (.cond 14 (.seq (.ops [.asg 6 (kB false)]) .ret) .skip)) (.seq (.seq (.ops [.mv 15 0, .len 16 15, .mv 17 (kI 0)]) (.block 0 acgZ0_L0)) (.seq (.ops [.asg 6 (kB true)]) .ret))))
theorem trgZ0 : trFn Tryz.prog 65 = some (acgZ0, [.mv 0 6], 32) := by kernel_rfl
def qgZ0 (r : Bool) : Exit → St → Prop := retQ [.mv 0 6] fun x _ => x = (fun y => (vB y)) r
def qgZ0_0 (r : Bool) : Exit → St → Prop := (thenK (wkK (avc Tryz.prog (.seq (.ops [.asg 6 (.c (.d (.b true)))]) .ret) (qgZ0 r))) (qgZ0 r))
def qgZ0_1 (r : Bool) : Exit → St → Prop := (blockK 0 (qgZ0_0 r))
def stgZ0_L0 (p1 : (List GSortKey)) (p0 : (List GSortKey)) (x17 : Int) : St := ⟨[(1, (.d (.sl 11 (p1.map cGSortKey)))), (2, (.fn 62 [])), (15, (.d (.sl 11 (p0.map cGSortKey)))), (16, (vI (p0.length : Int))), (17, (vI x17))], []⟩
def aciSameQuery_3 : AC := (.seq (.ops [.box 2 97 0, .box 3 97 1, .asg 4 (kB false)]) (.seq (.ops [.fa 5 10 2, .ld 6 1 false 5, .fa 7 10 3, .ld 8 1 false 7, .eqb 9 false 6 8, .mv 10 9, .g 10 true (.fa 11 0 2), .g 10 true (.ld 12 10 true 11), .g 10 true (.fa 13 0 3), .g 10 true (.ld 14 10 true 13), .g 10 true (.call (some 15) 59 [12, 14]), .pick 16 10 15 (kB false), .asg 4 16]) .ret))
theorem triSameQuery_3 : trFn Tryz.prog 62 = some (aciSameQuery_3, [.mv 0 4], 17) := by kernel_rfl
def qiSameQuery_3 (r : Bool) : Exit → St → Prop := retQ [.mv 0 4] fun x _ => x = (fun y => (vB y)) r
def acgZ3_L0 : AC := (.loop (.seq (.ops [.bin 18 .lss 17 16]) (.seq (.cond 18 .skip (.exit 0)) (.seq (.block 1 (.seq (.ops [.mv 19 17, .ia 20 13 15 17, .ld 21 13 true 20, .alc 8 [(.d (.b false)), (.d (.s (bs []))), (.d (.i .i64 0)), (.d (.i .i64 0)), (.d (.b false)), (.d (.i .i64 0)), (.d (.i .i64 0)), (.d (.s (bs []))), (.d (.s (bs []))), (.d (.s (bs []))), (.nil 10), (.nil 6), (.d (.s (bs [])))], .asg 7 19, .st 13 8 21]) (.seq (.ops [.mv 22 1, .mv 23 7, .ia 24 13 22 23, .ld 25 13 true 24, .alc 9 [(.d (.b false)), (.d (.s (bs []))), (.d (.i .i64 0)), (.d (.i .i64 0)), (.d (.b false)), (.d (.i .i64 0)), (.d (.i .i64 0)), (.d (.s (bs []))), (.d (.s (bs []))), (.d (.s (bs []))), (.nil 10), (.nil 6), (.d (.s (bs [])))], .st 13 9 25]) (.seq (.ops [.mv 26 2, .ld 27 13 true 8, .ld 28 13 true 9, .callv (some 29) 26 [27, 28], .not 30 29]) (.cond 30 (.seq (.ops [.asg 6 (kB false)]) .ret) .skip))))) (.ops [.bin 31 .add 17 (kI 1), .mv 17 31])))))
def acgZ3 : AC := (.seq (.ops [.asg 6 (kB false)]) (.seq (.seq (.ops [.mv 10 0, .len 11 10, .mv 12 1, .len 13 12, .bin 14 .neq 11 13]) (.cond 14 (.seq (.ops [.asg 6 (kB false)]) .ret) .skip)) (.seq (.seq (.ops [.mv 15 0, .len 16 15, .mv 17 (kI 0)]) (.block 0 acgZ3_L0)) (.seq (.ops [.asg 6 (kB true)]) .ret))))
theorem trgZ3 : trFn Tryz.prog 63 = some (acgZ3, [.mv 0 6], 32) := by kernel_rfl
def qgZ3 (r : Bool) : Exit → St → Prop := retQ [.mv 0 6] fun x _ => x = (fun y => (vB y)) r
def qgZ3_0 (r : Bool) : Exit → St → Prop := (thenK (wkK (avc Tryz.prog (.seq (.ops [.asg 6 (.c (.d (.b true)))]) .ret) (qgZ3 r))) (qgZ3 r))
def qgZ3_1 (r : Bool) : Exit → St → Prop := (blockK 0 (qgZ3_0 r))
def stgZ3_L0 (p1 : (List GItem)) (p0 : (List GItem)) (x17 : Int) : St := ⟨[(1, (.d (.sl 13 (p1.map cGItem)))), (2, (.fn 58 [])), (15, (.d (.sl 13 (p0.map cGItem)))), (16, (vI (p0.length : Int))), (17, (vI x17))], []⟩
def aciSameQuery_1 : AC := (.seq (.ops [.box 2 89 0, .box 3 89 1, .asg 4 (kB false)]) (.seq (.ops [.fa 5 0 2, .ld 6 1 false 5, .fa 7 0 3, .ld 8 1 false 7, .eqb 9 false 6 8, .mv 10 9, .g 10 true (.fa 11 1 2), .g 10 true (.ld 12 1 false 11), .g 10 true (.fa 13 1 3), .g 10 true (.ld 14 1 false 13), .g 10 true (.bin 15 .eql 12 14), .pick 16 10 15 (kB false), .mv 17 16, .g 17 true (.fa 18 12 2), .g 17 true (.ld 19 1 false 18), .g 17 true (.fa 20 12 3), .g 17 true (.ld 21 1 false 20), .g 17 true (.bin 22 .eql 19 21), .pick 23 17 22 (kB false), .mv 24 23, .g 24 true (.fa 25 2 2), .g 24 true (.ld 26 10 true 25), .g 24 true (.fa 27 2 3), .g 24 true (.ld 28 10 true 27), .g 24 true (.call (some 29) 59 [26, 28]), .pick 30 24 29 (kB false), .asg 4 30]) .ret))
theorem triSameQuery_1 : trFn Tryz.prog 58 = some (aciSameQuery_1, [.mv 0 4], 31) := by kernel_rfl
def qiSameQuery_1 (r : Bool) : Exit → St → Prop := retQ [.mv 0 4] fun x _ => x = (fun y => (vB y)) r
def acgZ1_L0 : AC := (.loop (.seq (.ops [.bin 18 .lss 17 16]) (.seq (.cond 18 .skip (.exit 0)) (.seq (.block 1 (.seq (.ops [.mv 19 17, .ia 20 3 15 17, .ld 21 3 true 20, .alc 8 [(.d (.s (bs []))), (.d (.s (bs []))), (.nil 10)], .asg 7 19, .st 3 8 21]) (.seq (.ops [.mv 22 1, .mv 23 7, .ia 24 3 22 23, .ld 25 3 true 24, .alc 9 [(.d (.s (bs []))), (.d (.s (bs []))), (.nil 10)], .st 3 9 25]) (.seq (.ops [.mv 26 2, .ld 27 3 true 8, .ld 28 3 true 9, .callv (some 29) 26 [27, 28], .not 30 29]) (.cond 30 (.seq (.ops [.asg 6 (kB false)]) .ret) .skip))))) (.ops [.bin 31 .add 17 (kI 1), .mv 17 31])))))
def acgZ1 : AC := (.seq (.ops [.asg 6 (kB false)]) (.seq (.seq (.ops [.mv 10 0, .len 11 10, .mv 12 1, .len 13 12, .bin 14 .neq 11 13]) (.cond 14 (.seq (.ops [.asg 6 (kB false)]) .ret) .skip)) (.seq (.seq (.ops [.mv 15 0, .len 16 15, .mv 17 (kI 0)]) (.block 0 acgZ1_L0)) (.seq (.ops [.asg 6 (kB true)]) .ret))))
theorem trgZ1 : trFn Tryz.prog 64 = some (acgZ1, [.mv 0 6], 32) := by kernel_rfl
def qgZ1 (r : Bool) : Exit → St → Prop := retQ [.mv 0 6] fun x _ => x = (fun y => (vB y)) r
def qgZ1_0 (r : Bool) : Exit → St → Prop := (thenK (wkK (avc Tryz.prog (.seq (.ops [.asg 6 (.c (.d (.b true)))]) .ret) (qgZ1 r))) (qgZ1 r))
def qgZ1_1 (r : Bool) : Exit → St → Prop := (blockK 0 (qgZ1_0 r))
def stgZ1_L0 (p1 : (List GSource)) (p0 : (List GSource)) (x17 : Int) : St := ⟨[(1, (.d (.sl 3 (p1.map cGSource)))), (2, (.fn 60 [])), (15, (.d (.sl 3 (p0.map cGSource)))), (16, (vI (p0.length : Int))), (17, (vI x17))], []⟩
def aciSameQuery_2 : AC := (.seq (.ops [.box 2 92 0, .box 3 92 1, .asg 4 (kB false)]) (.seq (.ops [.fa 5 0 2, .ld 6 1 false 5, .fa 7 0 3, .ld 8 1 false 7, .bin 9 .eql 6 8, .mv 10 9, .g 10 true (.fa 11 1 2), .g 10 true (.ld 12 1 false 11), .g 10 true (.fa 13 1 3), .g 10 true (.ld 14 1 false 13), .g 10 true (.bin 15 .eql 12 14), .pick 16 10 15 (kB false), .mv 17 16, .g 17 true (.fa 18 2 2), .g 17 true (.ld 19 1 false 18), .g 17 true (.fa 20 2 3), .g 17 true (.ld 21 1 false 20), .g 17 true (.call (some 22) 61 [19, 21]), .pick 23 17 22 (kB false), .asg 4 23]) .ret))
theorem triSameQuery_2 : trFn Tryz.prog 60 = some (aciSameQuery_2, [.mv 0 4], 24) := by kernel_rfl
def qiSameQuery_2 (r : Bool) : Exit → St → Prop := retQ [.mv 0 4] fun x _ => x = (fun y => (vB y)) r
def aciAreFormed : AC := (.seq (.ops [.asg 2 (kB false)]) (.seq (.ops [.mv 3 0, .call (some 4) 66 [3, (.c (.fn 67 []))], .not 5 4, .asg 2 5]) .ret))
theorem triAreFormed : trFn Tryz.prog 26 = some (aciAreFormed, [.mv 0 2], 6) := by kernel_rfl
def qiAreFormed (r : Bool) : Exit → St → Prop := retQ [.mv 0 2] fun x _ => x = (fun y => (vB y)) r
def acgZ6 : AC := (.seq (.ops [.asg 4 (kB false)]) (.seq (.ops [.mv 5 0, .mv 6 1, .call (some 7) 96 [5, 6], .bin 8 .geq 7 (kI 0), .asg 4 8]) .ret))
theorem trgZ6 : trFn Tryz.prog 66 = some (acgZ6, [.mv 0 4], 9) := by kernel_rfl
def qgZ6 (r : Bool) : Exit → St → Prop := retQ [.mv 0 4] fun x _ => x = (fun y => (vB y)) r
def acgZ9_L0 : AC := (.loop (.seq (.ops [.bin 9 .lss 8 7]) (.seq (.cond 9 .skip (.exit 0)) (.seq (.block 1 (.seq (.ops [.mv 10 8, .asg 5 10]) (.seq (.ops [.mv 11 1, .mv 12 0, .mv 13 5, .ia 14 10 12 13, .ld 15 10 true 14, .callv (some 16) 11 [15]]) (.cond 16 (.seq (.ops [.mv 17 5, .asg 4 17]) .ret) .skip)))) (.ops [.bin 18 .add 8 (kI 1), .mv 8 18])))))
def acgZ9 : AC := (.seq (.ops [.asg 4 (kI 0)]) (.seq (.seq (.ops [.mv 6 0, .len 7 6, .mv 8 (kI 0)]) (.block 0 acgZ9_L0)) (.seq (.ops [.asg 4 (kI (-1))]) .ret)))
theorem trgZ9 : trFn Tryz.prog 96 = some (acgZ9, [.mv 0 4], 19) := by kernel_rfl
def qgZ9 (r : Int) : Exit → St → Prop := retQ [.mv 0 4] fun x _ => x = (fun y => (vI y)) r
def qgZ9_0 (r : Int) : Exit → St → Prop := (thenK (wkK (avc Tryz.prog (.seq (.ops [.asg 4 (.c (.d (.i .i64 (-1))))]) .ret) (qgZ9 r))) (qgZ9 r))
def qgZ9_1 (r : Int) : Exit → St → Prop := (blockK 0 (qgZ9_0 r))
def stgZ9_L0 (p0 : (List GExpr)) (x8 : Int) : St := ⟨[(0, (.d (.sl 10 (p0.map cGExpr)))), (1, (.fn 67 [])), (7, (vI (p0.length : Int))), (8, (vI x8))], []⟩
def aciAreFormed_1 : AC := (.seq (.ops [.box 1 82 0, .asg 2 (kB false)]) (.seq (.ops [.ld 3 10 true 1, .call (some 4) 68 [3], .not 5 4, .asg 2 5]) .ret))
theorem triAreFormed_1 : trFn Tryz.prog 67 = some (aciAreFormed_1, [.mv 0 2], 6) := by kernel_rfl
def qiAreFormed_1 (r : Bool) : Exit → St → Prop := retQ [.mv 0 2] fun x _ => x = (fun y => (vB y)) r
def aciIsFormed : AC := (.seq (.ops [.box 1 82 0, .asg 2 (kB false)]) (.seq (.ops [.ld 6 10 true 1, .call (some 7) 97 [6], .mv 5 7, .ext 8 5 0, .ext 9 5 1, .alc 3 [(.d (.b false)), (.d (.b false)), (.d (.b false)), (.d (.b false)), (.d (.i .i64 0)), (.d (.i .i64 0)), (.d (.i .i64 0))], .st 7 3 8, .asg 4 9]) (.seq (.seq (.ops [.mv 10 4, .not 11 10, .mv 12 11, .g 12 false (.fa 13 0 3), .g 12 false (.ld 14 1 false 13), .g 12 false (.not 15 14), .g 12 false (.mv 16 15), .g 16 true (.fa 17 1 1), .g 16 true (.ld 18 1 false 17), .g 16 true (.bin 19 .neq 18 (kI 0)), .g 12 false (.pick 20 16 19 (kB false)), .pick 21 12 (kB true) 20, .mv 22 21, .g 22 false (.fa 23 1 3), .g 22 false (.ld 24 1 false 23), .g 22 false (.not 25 24), .g 22 false (.mv 26 25), .g 26 true (.fa 27 2 1), .g 26 true (.ld 28 1 false 27), .g 22 false (.pick 29 26 28 (kB false)), .pick 30 22 (kB true) 29, .mv 31 30, .g 31 false (.fa 32 2 3), .g 31 false (.ld 33 1 false 32), .g 31 false (.not 34 33), .g 31 false (.mv 35 34), .g 35 true (.fa 36 3 1), .g 35 true (.ld 37 3 true 36), .g 35 true (.bld 38 [(.d (.i .i64 0)), (.d (.i .i64 0)), (.d (.s (bs [])))] []), .g 35 true (.eqv 39 true [0, 0, 1] 37 38), .g 31 false (.pick 40 35 39 (kB false)), .pick 41 31 (kB true) 40, .mv 42 41, .g 42 false (.fa 43 3 3), .g 42 false (.ld 44 1 false 43), .g 42 false (.not 45 44), .g 42 false (.mv 46 45), .g 46 true (.fa 47 6 1), .g 46 true (.ld 48 1 false 47), .g 46 true (.bin 49 .neq 48 (.c (.d (.s (bs []))))), .g 46 true (.mv 50 49), .g 50 false (.fa 51 7 1), .g 50 false (.ld 52 1 false 51), .g 50 false (.bin 53 .neq 52 (.c (.d (.s (bs []))))), .g 46 true (.pick 54 50 (kB true) 53), .g 42 false (.pick 55 46 54 (kB false)), .pick 56 42 (kB true) 55]) (.cond 56 (.seq (.ops [.asg 2 (kB false)]) .ret) .skip)) (.seq (.seq (.ops [.fa 57 8 1, .ld 58 1 false 57, .len 59 58, .fa 60 4 3, .ld 61 1 false 60, .bin 62 .lss 59 61, .mv 63 62, .g 63 false (.fa 64 8 1), .g 63 false (.ld 65 1 false 64), .g 63 false (.len 66 65), .g 63 false (.fa 67 5 3), .g 63 false (.ld 68 1 false 67), .g 63 false (.bin 69 .gtr 66 68), .pick 70 63 (kB true) 69, .mv 71 70, .g 71 false (.fa 72 9 1), .g 71 false (.ld 73 1 false 72), .g 71 false (.len 74 73), .g 71 false (.fa 75 6 3), .g 71 false (.ld 76 1 false 75), .g 71 false (.bin 77 .neq 74 76), .pick 78 71 (kB true) 77]) (.cond 78 (.seq (.ops [.asg 2 (kB false)]) .ret) .skip)) (.seq (.ops [.fa 79 8 1, .ld 80 1 false 79, .call (some 81) 26 [80], .mv 82 81, .g 82 true (.fa 83 9 1), .g 82 true (.ld 84 1 false 83), .g 82 true (.call (some 85) 98 [84, (.c (.fn 99 []))]), .g 82 true (.not 86 85), .pick 87 82 86 (kB false), .asg 2 87]) .ret)))))
theorem triIsFormed : trFn Tryz.prog 68 = some (aciIsFormed, [.mv 0 2], 88) := by kernel_rfl
def qiIsFormed (r : Bool) : Exit → St → Prop := retQ [.mv 0 2] fun x _ => x = (fun y => (vB y)) r
def acgZ5 : AC := (.seq (.ops [.asg 4 (kB false)]) (.seq (.ops [.mv 5 0, .mv 6 1, .call (some 7) 111 [5, 6], .bin 8 .geq 7 (kI 0), .asg 4 8]) .ret))
theorem trgZ5 : trFn Tryz.prog 98 = some (acgZ5, [.mv 0 4], 9) := by kernel_rfl
def qgZ5 (r : Bool) : Exit → St → Prop := retQ [.mv 0 4] fun x _ => x = (fun y => (vB y)) r
def acgZ8_L0 : AC := (.loop (.seq (.ops [.bin 9 .lss 8 7]) (.seq (.cond 9 .skip (.exit 0)) (.seq (.block 1 (.seq (.ops [.mv 10 8, .asg 5 10]) (.seq (.ops [.mv 11 1, .mv 12 0, .mv 13 5, .ia 14 6 12 13, .ld 15 6 true 14, .callv (some 16) 11 [15]]) (.cond 16 (.seq (.ops [.mv 17 5, .asg 4 17]) .ret) .skip)))) (.ops [.bin 18 .add 8 (kI 1), .mv 8 18])))))
def acgZ8 : AC := (.seq (.ops [.asg 4 (kI 0)]) (.seq (.seq (.ops [.mv 6 0, .len 7 6, .mv 8 (kI 0)]) (.block 0 acgZ8_L0)) (.seq (.ops [.asg 4 (kI (-1))]) .ret)))
theorem trgZ8 : trFn Tryz.prog 111 = some (acgZ8, [.mv 0 4], 19) := by kernel_rfl
def qgZ8 (r : Int) : Exit → St → Prop := retQ [.mv 0 4] fun x _ => x = (fun y => (vI y)) r
def qgZ8_0 (r : Int) : Exit → St → Prop := (thenK (wkK (avc Tryz.prog (.seq (.ops [.asg 4 (.c (.d (.i .i64 (-1))))]) .ret) (qgZ8 r))) (qgZ8 r))
def qgZ8_1 (r : Int) : Exit → St → Prop := (blockK 0 (qgZ8_0 r))
def stgZ8_L0 (p0 : (List GQuery)) (x8 : Int) : St := ⟨[(0, (.d (.sl 6 (p0.map cGQuery)))), (1, (.fn 99 [])), (7, (vI (p0.length : Int))), (8, (vI x8))], []⟩
def aciIsFormed_1 : AC := (.seq (.ops [.box 1 39 0, .asg 2 (kB false)]) (.seq (.ops [.ld 3 6 true 1, .call (some 4) 23 [3], .not 5 4, .asg 2 5]) .ret))
theorem triIsFormed_1 : trFn Tryz.prog 99 = some (aciIsFormed_1, [.mv 0 2], 6) := by kernel_rfl
def qiIsFormed_1 (r : Bool) : Exit → St → Prop := retQ [.mv 0 2] fun x _ => x = (fun y => (vB y)) r
def aciIsFormedQuery_L0 : AC := (.loop (.seq (.ops [.bin 50 .lss 49 48]) (.seq (.cond 50 .skip (.exit 0)) (.seq (.block 1 (.seq (.ops [.ia 51 13 47 49, .ld 52 13 true 51, .alc 4 [(.d (.b false)), (.d (.s (bs []))), (.d (.i .i64 0)), (.d (.i .i64 0)), (.d (.b false)), (.d (.i .i64 0)), (.d (.i .i64 0)), (.d (.s (bs []))), (.d (.s (bs []))), (.d (.s (bs []))), (.nil 10), (.nil 6), (.d (.s (bs [])))], .st 13 4 52]) (.seq (.ops [.fa 53 0 4, .ld 54 1 false 53, .mv 55 54, .g 55 true (.fa 56 1 4), .g 55 true (.ld 57 1 false 56), .g 55 true (.call (some 58) 55 [57]), .g 55 true (.not 59 58), .g 55 true (.mv 60 59), .g 60 false (.fa 61 12 4), .g 60 false (.ld 62 1 false 61), .g 60 false (.bin 63 .neq 62 (.c (.d (.s (bs []))))), .g 55 true (.pick 64 60 (kB true) 63), .g 55 true (.mv 65 64), .g 65 false (.fa 66 2 4), .g 65 false (.ld 67 10 true 66), .g 65 false (.call (some 68) 56 [67]), .g 65 false (.not 69 68), .g 55 true (.pick 70 65 (kB true) 69), .pick 71 55 70 (kB false), .mv 72 71, .g 72 false (.fa 73 0 4), .g 72 false (.ld 74 1 false 73), .g 72 false (.not 75 74), .g 72 false (.mv 76 75), .g 76 true (.fa 77 1 4), .g 76 true (.ld 78 1 false 77), .g 76 true (.bin 79 .neq 78 (.c (.d (.s (bs []))))), .g 76 true (.mv 80 79), .g 80 false (.fa 81 12 4), .g 80 false (.ld 82 1 false 81), .g 80 false (.call (some 83) 55 [82]), .g 80 false (.not 84 83), .g 76 true (.pick 85 80 (kB true) 84), .g 72 false (.pick 86 76 85 (kB false)), .pick 87 72 (kB true) 86]) (.cond 87 (.seq (.ops [.asg 2 (kB false)]) .ret) .skip)))) (.ops [.bin 88 .add 49 (kI 1), .mv 49 88])))))
def aciIsFormedQuery_L1 : AC := (.loop (.seq (.ops [.bin 93 .lss 92 91]) (.seq (.cond 93 .skip (.exit 2)) (.seq (.block 3 (.seq (.ops [.mv 94 92, .ia 95 3 90 92, .ld 96 3 true 95, .alc 6 [(.d (.s (bs []))), (.d (.s (bs []))), (.nil 10)], .asg 5 94, .st 3 6 96]) (.seq (.ops [.fa 97 0 6, .ld 98 1 false 97, .call (some 99) 25 [98], .not 100 99, .mv 101 100, .g 101 false (.fa 102 1 6), .g 101 false (.ld 103 1 false 102), .g 101 false (.call (some 104) 55 [103]), .g 101 false (.not 105 104), .pick 106 101 (kB true) 105, .mv 107 106, .g 107 false (.fa 108 2 6), .g 107 false (.ld 109 1 false 108), .g 107 false (.len 110 109), .g 107 false (.bin 111 .gtr 110 (kI 1)), .pick 112 107 (kB true) 111, .mv 113 112, .g 113 false (.mv 114 5), .g 113 false (.bin 115 .eql 114 (kI 0)), .g 113 false (.mv 116 115), .g 116 true (.fa 117 2 6), .g 116 true (.ld 118 1 false 117), .g 116 true (.len 119 118), .g 116 true (.bin 120 .gtr 119 (kI 0)), .g 113 false (.pick 121 116 120 (kB false)), .pick 122 113 (kB true) 121]) (.cond 122 (.seq (.ops [.asg 2 (kB false)]) .ret) .skip)))) (.ops [.bin 123 .add 92 (kI 1), .mv 92 123])))))
def aciIsFormedQuery : AC := (.seq (.ops [.box 1 39 0, .asg 2 (kB false)]) (.seq (.seq (.ops [.fa 7 1 1, .ld 8 1 false 7, .len 9 8, .bin 10 .lss 9 (kI 1), .mv 11 10, .g 11 false (.fa 12 1 1), .g 11 false (.ld 13 1 false 12), .g 11 false (.len 14 13), .g 11 false (.bin 15 .gtr 14 (kI 12)), .pick 16 11 (kB true) 15, .mv 17 16, .g 17 false (.fa 18 2 1), .g 17 false (.ld 19 1 false 18), .g 17 false (.len 20 19), .g 17 false (.bin 21 .lss 20 (kI 1)), .pick 22 17 (kB true) 21, .mv 23 22, .g 23 false (.fa 24 2 1), .g 23 false (.ld 25 1 false 24), .g 23 false (.len 26 25), .g 23 false (.bin 27 .gtr 26 (kI 3)), .pick 28 23 (kB true) 27, .mv 29 28, .g 29 false (.fa 30 3 1), .g 29 false (.ld 31 1 false 30), .g 29 false (.len 32 31), .g 29 false (.bin 33 .gtr 32 (kI 1)), .pick 34 29 (kB true) 33, .mv 35 34, .g 35 false (.fa 36 4 1), .g 35 false (.ld 37 1 false 36), .g 35 false (.len 38 37), .g 35 false (.bin 39 .gtr 38 (kI 12)), .pick 40 35 (kB true) 39, .mv 41 40, .g 41 false (.fa 42 5 1), .g 41 false (.ld 43 1 false 42), .g 41 false (.bin 44 .lss 43 (kI (-1))), .pick 45 41 (kB true) 44]) (.cond 45 (.seq (.ops [.asg 2 (kB false)]) .ret) .skip)) (.seq (.seq (.ops [.fa 46 1 1, .ld 47 1 false 46, .len 48 47, .mv 49 (kI 0)]) (.block 0 aciIsFormedQuery_L0)) (.seq (.seq (.ops [.fa 89 2 1, .ld 90 1 false 89, .len 91 90, .mv 92 (kI 0)]) (.block 2 aciIsFormedQuery_L1)) (.seq (.ops [.ld 124 6 true 1, .call (some 125) 57 [124], .call (some 126) 26 [125], .asg 2 126]) .ret)))))
theorem triIsFormedQuery : trFn Tryz.prog 23 = some (aciIsFormedQuery, [.mv 0 2], 127) := by kernel_rfl
def qiIsFormedQuery (r : Bool) : Exit → St → Prop := retQ [.mv 0 2] fun x _ => x = (fun y => (vB y)) r
def qiIsFormedQuery_0 (r : Bool) : Exit → St → Prop := (thenK (wkK (avc Tryz.prog (.seq (.seq (.ops [.fa 89 2 1, .ld 90 1 false 89, .len 91 90, .mv 92 (.c (.d (.i .i64 0)))]) (.block 2 aciIsFormedQuery_L1)) (.seq (.ops [.ld 124 6 true 1, .call (some 125) 57 [124], .call (some 126) 26 [125], .asg 2 126]) .ret)) (qiIsFormedQuery r))) (qiIsFormedQuery r))
def qiIsFormedQuery_1 (r : Bool) : Exit → St → Prop := (blockK 0 (qiIsFormedQuery_0 r))
def qiIsFormedQuery_2 (r : Bool) : Exit → St → Prop := (thenK (wkK (avc Tryz.prog (.seq (.ops [.ld 124 6 true 1, .call (some 125) 57 [124], .call (some 126) 26 [125], .asg 2 126]) .ret) (qiIsFormedQuery r))) (qiIsFormedQuery r))
def qiIsFormedQuery_3 (r : Bool) : Exit → St → Prop := (blockK 2 (qiIsFormedQuery_2 r))
def stiIsFormedQuery_L0 (p0 : GQuery) (x49 : Int) : St := ⟨[(1, (.ptr 1 0)), (47, (.d (.sl 13 (p0.items.map cGItem)))), (48, (vI (p0.items.length : Int))), (49, (vI x49))], [(1, bGQuery p0)]⟩
def stiIsFormedQuery_L1 (p0 : GQuery) (x92 : Int) : St := ⟨[(1, (.ptr 1 0)), (90, (.d (.sl 3 (p0.from_.map cGSource)))), (91, (vI (p0.from_.length : Int))), (92, (vI x92))], [(1, bGQuery p0)]⟩
def aciIsAs : AC := (.seq (.ops [.asg 2 (kB false)]) (.seq (.ops [.mv 3 0, .bin 4 .eql 3 (.c (.d (.s (bs [])))), .mv 5 4, .g 5 false (.mv 6 0), .g 5 false (.call (some 7) 25 [6]), .pick 8 5 (kB true) 7, .asg 2 8]) .ret))
theorem triIsAs : trFn Tryz.prog 55 = some (aciIsAs, [.mv 0 2], 9) := by kernel_rfl
def qiIsAs (r : Bool) : Exit → St → Prop := retQ [.mv 0 2] fun x _ => x = (fun y => (vB y)) r
def aciIsZero : AC := (.seq (.ops [.box 1 82 0, .asg 2 (kB false)]) (.seq (.ops [.ld 3 10 true 1, .bld 4 [(.d (.i .i64 0)), (.d (.i .i64 0)), (.d (.b false)), (.d (.i .i64 0)), (.d (.i .i64 0)), (.d (.s (bs []))), (.d (.s (bs []))), (.d (.s (bs []))), (.nil 10), (.nil 6)] [], .call (some 5) 59 [3, 4], .asg 2 5]) .ret))
theorem triIsZero : trFn Tryz.prog 56 = some (aciIsZero, [.mv 0 2], 6) := by kernel_rfl
def qiIsZero (r : Bool) : Exit → St → Prop := retQ [.mv 0 2] fun x _ => x = (fun y => (vB y)) r
def aciFormOf : AC := (.seq (.ops [.box 1 82 0, .alc 2 [(.d (.b false)), (.d (.b false)), (.d (.b false)), (.d (.b false)), (.d (.i .i64 0)), (.d (.i .i64 0)), (.d (.i .i64 0))], .asg 3 (kB false)]) (.seq (.seq (.ops [.fa 4 0 1, .ld 5 1 false 4]) (.block 0 (.seq (.ops [.bin 7 .eql 5 (kI 1), .asg 6 7]) (.cond 6 (.seq (.ops [.bld 8 [(.d (.b false)), (.d (.b false)), (.d (.b false)), (.d (.b false)), (.d (.i .i64 0)), (.d (.i .i64 0)), (.d (.i .i64 0))] [(2, 1, (kB true))], .fa 9 3 1, .ld 10 3 true 9, .call (some 11) 110 [10], .st 7 2 8, .asg 3 11]) .ret) (.seq (.ops [.bin 13 .eql 5 (kI 2), .asg 12 13]) (.cond 12 (.seq (.ops [.bld 14 [(.d (.b false)), (.d (.b false)), (.d (.b false)), (.d (.b false)), (.d (.i .i64 0)), (.d (.i .i64 0)), (.d (.i .i64 0))] [(3, 1, (kB true))], .fa 15 7 1, .ld 16 1 false 15, .call (some 17) 25 [16], .mv 18 17, .g 18 true (.fa 19 6 1), .g 18 true (.ld 20 1 false 19), .g 18 true (.bin 21 .eql 20 (.c (.d (.s (bs []))))), .g 18 true (.mv 22 21), .g 22 false (.fa 23 6 1), .g 22 false (.ld 24 1 false 23), .g 22 false (.call (some 25) 25 [24]), .g 18 true (.pick 26 22 (kB true) 25), .pick 27 18 26 (kB false), .st 7 2 14, .asg 3 27]) .ret) (.seq (.ops [.bin 29 .eql 5 (kI 3), .asg 28 29]) (.cond 28 (.seq (.dops [[], [], [1], [2], [3], [4], [5, 4], [6, 4], [4, 7], [0, 4, 0], [8, 9, 0, 1, 2, 3, 4, 5, 6, 7, 8, 9]] [.bld 30 [(.d (.b false)), (.d (.b false)), (.d (.b false)), (.d (.b false)), (.d (.i .i64 0)), (.d (.i .i64 0)), (.d (.i .i64 0))] [(0, 1, (kB true)), (4, 1, (kI 1)), (5, 1, (kI 1))], .fa 31 1 1, .ld 32 1 false 31, .bin 33 .eql 32 (kI 15), .mv 34 33, .g 34 false (.fa 35 1 1), .g 34 false (.ld 36 1 false 35), .g 34 false (.bin 37 .eql 36 (kI 16)), .pick 38 34 (kB true) 37, .st 7 2 30, .asg 3 38]) .ret) (.seq (.ops [.bin 40 .eql 5 (kI 4), .asg 39 40]) (.cond 39 (.seq (.dops [[], [], [1], [2], [3], [4], [5, 4], [6, 4], [4, 7], [0, 4, 0], [8, 9, 0, 1, 2, 3, 4, 5, 6, 7, 8, 9]] [.bld 41 [(.d (.b false)), (.d (.b false)), (.d (.b false)), (.d (.b false)), (.d (.i .i64 0)), (.d (.i .i64 0)), (.d (.i .i64 0))] [(0, 1, (kB true)), (4, 1, (kI 2)), (5, 1, (kI 2))], .fa 42 1 1, .ld 43 1 false 42, .bin 44 .geq 43 (kI 1), .mv 45 44, .g 45 true (.fa 46 1 1), .g 45 true (.ld 47 1 false 46), .g 45 true (.bin 48 .leq 47 (kI 14)), .pick 49 45 48 (kB false), .st 7 2 41, .asg 3 49]) .ret) (.seq (.ops [.bin 51 .eql 5 (kI 5), .asg 50 51]) (.cond 50 (.seq (.ops [.bld 52 [(.d (.b false)), (.d (.b false)), (.d (.b false)), (.d (.b false)), (.d (.i .i64 0)), (.d (.i .i64 0)), (.d (.i .i64 0))] [(1, 1, (kB true)), (4, 1, (kI 1)), (5, 1, (kI 1))], .st 7 2 52, .asg 3 (kB true)]) .ret) (.seq (.ops [.bin 54 .eql 5 (kI 6), .asg 53 54]) (.cond 53 (.seq (.ops [.bld 55 [(.d (.b false)), (.d (.b false)), (.d (.b false)), (.d (.b false)), (.d (.i .i64 0)), (.d (.i .i64 0)), (.d (.i .i64 0))] [(1, 1, (kB true)), (4, 1, (kI 3)), (5, 1, (kI 3))], .st 7 2 55, .asg 3 (kB true)]) .ret) (.seq (.ops [.bin 57 .eql 5 (kI 7), .asg 56 57]) (.cond 56 (.seq (.ops [.bld 58 [(.d (.b false)), (.d (.b false)), (.d (.b false)), (.d (.b false)), (.d (.i .i64 0)), (.d (.i .i64 0)), (.d (.i .i64 0))] [(1, 1, (kB true)), (4, 1, (kI 2)), (5, 1, (kI 9))], .st 7 2 58, .asg 3 (kB true)]) .ret) (.seq (.ops [.bin 60 .eql 5 (kI 8), .asg 59 60]) (.cond 59 (.seq (.ops [.bld 61 [(.d (.b false)), (.d (.b false)), (.d (.b false)), (.d (.b false)), (.d (.i .i64 0)), (.d (.i .i64 0)), (.d (.i .i64 0))] [(1, 1, (kB true)), (4, 1, (kI 1)), (5, 1, (kI 1)), (6, 1, (kI 1))], .st 7 2 61, .asg 3 (kB true)]) .ret) (.seq (.ops [.bin 63 .eql 5 (kI 9), .asg 62 63]) (.cond 62 (.seq (.ops [.bld 64 [(.d (.b false)), (.d (.b false)), (.d (.b false)), (.d (.b false)), (.d (.i .i64 0)), (.d (.i .i64 0)), (.d (.i .i64 0))] [(6, 1, (kI 1))], .st 7 2 64, .asg 3 (kB true)]) .ret) .skip)))))))))))))))))))) (.seq (.ops [.bld 65 [(.d (.b false)), (.d (.b false)), (.d (.b false)), (.d (.b false)), (.d (.i .i64 0)), (.d (.i .i64 0)), (.d (.i .i64 0))] [], .st 7 2 65, .asg 3 (kB false)]) .ret)))
theorem triFormOf : trFn Tryz.prog 97 = some (aciFormOf, [.ld 0 7 true 2, .mv 0 3], 66) := by kernel_rfl
def qiFormOf (r : GForm × Bool) : Exit → St → Prop := retQ [.ld 0 7 true 2, .mv 0 3] fun x _ => x = (fun y => (.tup [(vGForm y.1), (vB y.2)])) r
def aciIsLit : AC := (.seq (.ops [.box 1 79 0, .asg 2 (kB false)]) (.seq (.ops [.ld 3 3 true 1, .call (some 4) 113 [3], .mv 5 4, .g 5 true (.fa 6 0 1), .g 5 true (.ld 7 1 false 6), .g 5 true (.bin 8 .neq 7 (kI 1)), .g 5 true (.mv 9 8), .g 9 false (.fa 10 1 1), .g 9 false (.ld 11 1 false 10), .g 9 false (.bin 12 .geq 11 (kI 0)), .g 5 true (.pick 13 9 (kB true) 12), .pick 14 5 13 (kB false), .mv 15 14, .g 15 true (.fa 16 2 1), .g 15 true (.ld 17 1 false 16), .g 15 true (.lns 18 17), .g 15 true (.bin 19 .leq 18 (kI 40)), .pick 20 15 19 (kB false), .asg 2 20]) .ret))
theorem triIsLit : trFn Tryz.prog 110 = some (aciIsLit, [.mv 0 2], 21) := by kernel_rfl
def qiIsLit (r : Bool) : Exit → St → Prop := retQ [.mv 0 2] fun x _ => x = (fun y => (vB y)) r
def aciValueOk : AC := (.seq (.ops [.box 1 79 0, .asg 2 (kB false)]) (.seq (.seq (.ops [.fa 3 0 1, .ld 4 1 false 3]) (.block 0 (.seq (.ops [.bin 6 .eql 4 (kI 0), .asg 5 6]) (.cond 5 (.seq (.ops [.fa 7 1 1, .ld 8 1 false 7, .bin 9 .eql 8 (kI 0), .mv 10 9, .g 10 true (.fa 11 2 1), .g 10 true (.ld 12 1 false 11), .g 10 true (.bin 13 .eql 12 (.c (.d (.s (bs []))))), .pick 14 10 13 (kB false), .asg 2 14]) .ret) (.seq (.ops [.bin 16 .eql 4 (kI 1), .asg 15 16]) (.cond 15 (.seq (.ops [.fa 17 2 1, .ld 18 1 false 17, .bin 19 .eql 18 (.c (.d (.s (bs [])))), .asg 2 19]) .ret) (.seq (.ops [.bin 21 .eql 4 (kI 2), .asg 20 21]) (.cond 20 (.seq (.ops [.fa 22 1 1, .ld 23 1 false 22, .bin 24 .eql 23 (kI 0), .mv 25 24, .g 25 true (.fa 26 2 1), .g 25 true (.ld 27 1 false 26), .g 25 true (.lns 28 27), .g 25 true (.bin 29 .leq 28 (kI 200)), .pick 30 25 29 (kB false), .asg 2 30]) .ret) (.seq (.ops [.bin 32 .eql 4 (kI 3), .asg 31 32]) (.cond 31 (.seq (.ops [.fa 33 1 1, .ld 34 1 false 33, .bin 35 .eql 34 (kI 0), .mv 36 35, .g 36 false (.fa 37 1 1), .g 36 false (.ld 38 1 false 37), .g 36 false (.bin 39 .eql 38 (kI 1)), .pick 40 36 (kB true) 39, .mv 41 40, .g 41 true (.fa 42 2 1), .g 41 true (.ld 43 1 false 42), .g 41 true (.bin 44 .eql 43 (.c (.d (.s (bs []))))), .pick 45 41 44 (kB false), .asg 2 45]) .ret) .skip)))))))))) (.seq (.ops [.asg 2 (kB false)]) .ret)))
theorem triValueOk : trFn Tryz.prog 113 = some (aciValueOk, [.mv 0 2], 46) := by kernel_rfl
def qiValueOk (r : Bool) : Exit → St → Prop := retQ [.mv 0 2] fun x _ => x = (fun y => (vB y)) r
def aciIsSmall : AC := (.seq (.ops [.asg 4 (kB false)]) (.seq (.ops [.mv 5 0, .bin 6 .leq 5 (kI 24), .mv 7 6, .g 7 true (.mv 8 1), .g 7 true (.bin 9 .leq 8 (kI 200)), .pick 10 7 9 (kB false), .asg 4 10]) .ret))
theorem triIsSmall : trFn Tryz.prog 20 = some (aciIsSmall, [.mv 0 4], 11) := by kernel_rfl
def qiIsSmall (r : Bool) : Exit → St → Prop := retQ [.mv 0 4] fun x _ => x = (fun y => (vB y)) r
def acgZ7 : AC := (.seq (.ops [.asg 4 (kB false)]) (.seq (.ops [.mv 5 0, .mv 6 1, .call (some 7) 69 [5, 6], .bin 8 .geq 7 (kI 0), .asg 4 8]) .ret))
theorem trgZ7 : trFn Tryz.prog 28 = some (acgZ7, [.mv 0 4], 9) := by kernel_rfl
def qgZ7 (r : Bool) : Exit → St → Prop := retQ [.mv 0 4] fun x _ => x = (fun y => (vB y)) r
def acgZ10_L0 : AC := (.loop (.seq (.ops [.bin 9 .lss 8 7]) (.seq (.cond 9 .skip (.exit 0)) (.seq (.block 1 (.seq (.ops [.mv 10 8, .asg 5 10]) (.seq (.ops [.mv 11 1, .mv 12 0, .mv 13 5, .ia 14 1 12 13, .ld 15 1 false 14, .callv (some 16) 11 [15]]) (.cond 16 (.seq (.ops [.mv 17 5, .asg 4 17]) .ret) .skip)))) (.ops [.bin 18 .add 8 (kI 1), .mv 8 18])))))
def acgZ10 : AC := (.seq (.ops [.asg 4 (kI 0)]) (.seq (.seq (.ops [.mv 6 0, .len 7 6, .mv 8 (kI 0)]) (.block 0 acgZ10_L0)) (.seq (.ops [.asg 4 (kI (-1))]) .ret)))
theorem trgZ10 : trFn Tryz.prog 69 = some (acgZ10, [.mv 0 4], 19) := by kernel_rfl
def qgZ10 (r : Int) : Exit → St → Prop := retQ [.mv 0 4] fun x _ => x = (fun y => (vI y)) r
def qgZ10_0 (r : Int) : Exit → St → Prop := (thenK (wkK (avc Tryz.prog (.seq (.ops [.asg 4 (.c (.d (.i .i64 (-1))))]) .ret) (qgZ10 r))) (qgZ10 r))
def qgZ10_1 (r : Int) : Exit → St → Prop := (blockK 0 (qgZ10_0 r))
def stgZ10_L0 (p0 : (List (List GExpr))) (x8 : Int) : St := ⟨[(0, (.d (.sl 1 (p0.map (cSl 10 cGExpr))))), (1, (.fn 29 [])), (7, (vI (p0.length : Int))), (8, (vI x8))], []⟩
def aciStmtOk_1 : AC := (.seq (.ops [.asg 2 (kB false)]) (.seq (.ops [.mv 3 0, .len 4 3, .bin 5 .lss 4 (kI 1), .mv 6 5, .g 6 false (.mv 7 0), .g 6 false (.len 8 7), .g 6 false (.bin 9 .gtr 8 (kI 12)), .pick 10 6 (kB true) 9, .asg 2 10]) .ret))
theorem triStmtOk_1 : trFn Tryz.prog 29 = some (aciStmtOk_1, [.mv 0 2], 11) := by kernel_rfl
def qiStmtOk_1 (r : Bool) : Exit → St → Prop := retQ [.mv 0 2] fun x _ => x = (fun y => (vB y)) r
def aciStmtDepth : AC := (.seq (.ops [.box 1 42 0, .asg 2 (kI 0)]) (.seq (.ops [.ld 3 12 true 1, .call (some 4) 27 [3], .call (some 5) 53 [4], .asg 2 5]) .ret))
theorem triStmtDepth : trFn Tryz.prog 21 = some (aciStmtDepth, [.mv 0 2], 6) := by kernel_rfl
def qiStmtDepth (r : Int) : Exit → St → Prop := retQ [.mv 0 2] fun x _ => x = (fun y => (vI y)) r
def aciDeepestOf_L0 : AC := (.loop (.seq (.ops [.bin 9 .lss 8 7]) (.seq (.cond 9 .skip (.exit 0)) (.seq (.block 1 (.seq (.ops [.ia 10 10 6 8, .ld 11 10 true 10, .alc 5 [(.d (.i .i64 0)), (.d (.i .i64 0)), (.d (.b false)), (.d (.i .i64 0)), (.d (.i .i64 0)), (.d (.s (bs []))), (.d (.s (bs []))), (.d (.s (bs []))), (.nil 10), (.nil 6)], .st 10 5 11]) (.ops [.mv 12 3, .ld 13 10 true 5, .call (some 14) 92 [13], .max 15 12 14, .asg 3 15]))) (.ops [.bin 16 .add 8 (kI 1), .mv 8 16])))))
def aciDeepestOf : AC := (.seq (.ops [.asg 2 (kI 0)]) (.seq (.ops [.asg 3 (kI 0)]) (.seq (.seq (.ops [.mv 6 0, .len 7 6, .mv 8 (kI 0)]) (.block 0 aciDeepestOf_L0)) (.seq (.ops [.mv 17 3, .asg 2 17]) .ret))))
theorem triDeepestOf : trFn Tryz.prog 53 = some (aciDeepestOf, [.mv 0 2], 18) := by kernel_rfl
def qiDeepestOf (r : Int) : Exit → St → Prop := retQ [.mv 0 2] fun x _ => x = (fun y => (vI y)) r
def qiDeepestOf_0 (r : Int) : Exit → St → Prop := (thenK (wkK (avc Tryz.prog (.seq (.ops [.mv 17 3, .asg 2 17]) .ret) (qiDeepestOf r))) (qiDeepestOf r))
def qiDeepestOf_1 (r : Int) : Exit → St → Prop := (blockK 0 (qiDeepestOf_0 r))
def stiDeepestOf_L0 (p0 : (List GExpr)) (x3 : Int) (x8 : Int) : St := ⟨[(3, (vI x3)), (6, (.d (.sl 10 (p0.map cGExpr)))), (7, (vI (p0.length : Int))), (8, (vI x8))], []⟩
def aciDepthOf_L0 : AC := (.loop (.seq (.ops [.bin 12 .lss 11 10]) (.seq (.cond 12 .skip (.exit 0)) (.seq (.block 1 (.seq (.ops [.ia 13 10 9 11, .ld 14 10 true 13, .alc 5 [(.d (.i .i64 0)), (.d (.i .i64 0)), (.d (.b false)), (.d (.i .i64 0)), (.d (.i .i64 0)), (.d (.s (bs []))), (.d (.s (bs []))), (.d (.s (bs []))), (.nil 10), (.nil 6)], .st 10 5 14]) (.ops [.mv 15 3, .ld 16 10 true 5, .call (some 17) 92 [16], .max 18 15 17, .asg 3 18]))) (.ops [.bin 19 .add 11 (kI 1), .mv 11 19])))))
def aciDepthOf_L1 : AC := (.loop (.seq (.ops [.bin 24 .lss 23 22]) (.seq (.cond 24 .skip (.exit 2)) (.seq (.block 3 (.seq (.ops [.ia 25 6 21 23, .ld 26 6 true 25, .alc 7 [(.d (.b false)), (.nil 13), (.nil 3), (.nil 10), (.nil 11), (.d (.i .i64 0))], .st 6 7 26]) (.ops [.mv 27 3, .ld 28 6 true 7, .call (some 29) 108 [28], .max 30 27 29, .asg 3 30]))) (.ops [.bin 31 .add 23 (kI 1), .mv 23 31])))))
def aciDepthOf : AC := (.seq (.ops [.box 1 82 0, .asg 2 (kI 0)]) (.seq (.ops [.asg 3 (kI 0)]) (.seq (.seq (.ops [.fa 8 8 1, .ld 9 1 false 8, .len 10 9, .mv 11 (kI 0)]) (.block 0 aciDepthOf_L0)) (.seq (.seq (.ops [.fa 20 9 1, .ld 21 1 false 20, .len 22 21, .mv 23 (kI 0)]) (.block 2 aciDepthOf_L1)) (.seq (.ops [.mv 32 3, .bin 33 .add (kI 1) 32, .asg 2 33]) .ret)))))
theorem triDepthOf : trFn Tryz.prog 92 = some (aciDepthOf, [.mv 0 2], 34) := by kernel_rfl
def qiDepthOf (r : Int) : Exit → St → Prop := retQ [.mv 0 2] fun x _ => x = (fun y => (vI y)) r
def qiDepthOf_0 (r : Int) : Exit → St → Prop := (thenK (wkK (avc Tryz.prog (.seq (.seq (.ops [.fa 20 9 1, .ld 21 1 false 20, .len 22 21, .mv 23 (.c (.d (.i .i64 0)))]) (.block 2 aciDepthOf_L1)) (.seq (.ops [.mv 32 3, .bin 33 .add (.c (.d (.i .i64 1))) 32, .asg 2 33]) .ret)) (qiDepthOf r))) (qiDepthOf r))
def qiDepthOf_1 (r : Int) : Exit → St → Prop := (blockK 0 (qiDepthOf_0 r))
def qiDepthOf_2 (r : Int) : Exit → St → Prop := (thenK (wkK (avc Tryz.prog (.seq (.ops [.mv 32 3, .bin 33 .add (.c (.d (.i .i64 1))) 32, .asg 2 33]) .ret) (qiDepthOf r))) (qiDepthOf r))
def qiDepthOf_3 (r : Int) : Exit → St → Prop := (blockK 2 (qiDepthOf_2 r))
def stiDepthOf_L0 (p0 : GExpr) (x3 : Int) (x11 : Int) : St := ⟨[(1, (.ptr 1 0)), (3, (vI x3)), (9, (.d (.sl 10 (p0.kids.map cGExpr)))), (10, (vI (p0.kids.length : Int))), (11, (vI x11))], [(1, bGExpr p0)]⟩
def stiDepthOf_L1 (p0 : GExpr) (x3_3 : Int) (x23 : Int) : St := ⟨[(3, (vI x3_3)), (21, (.d (.sl 6 (p0.sub.map cGQuery)))), (22, (vI (p0.sub.length : Int))), (23, (vI x23))], []⟩
def aciQueryDepth : AC := (.seq (.ops [.box 1 39 0, .asg 2 (kI 0)]) (.seq (.ops [.ld 3 6 true 1, .call (some 4) 57 [3], .call (some 5) 53 [4], .asg 2 5]) .ret))
theorem triQueryDepth : trFn Tryz.prog 108 = some (aciQueryDepth, [.mv 0 2], 6) := by kernel_rfl
def qiQueryDepth (r : Int) : Exit → St → Prop := retQ [.mv 0 2] fun x _ => x = (fun y => (vI y)) r
def acwSzStmt : AC := (.seq (.ops [.box 2 31 0, .asg 4 (kI 0)]) (.seq (.ops [.fa 5 1 2, .ld 6 6 true 5, .mv 7 1, .call (some 8) 9 [6, 7], .asg 1 8]) (.seq (.seq (.ops [.mv 9 1, .bin 10 .lss 9 (kI 0)]) (.cond 10 (.seq (.ops [.asg 4 (kI (-1))]) .ret) .skip)) (.seq (.ops [.mv 11 1, .fa 12 7 2, .ld 13 1 false 12, .lns 14 13, .bin 15 .sub 11 14, .asg 1 15]) (.seq (.seq (.ops [.mv 16 1, .bin 17 .lss 16 (kI 0)]) (.cond 17 (.seq (.ops [.asg 4 (kI (-1))]) .ret) .skip)) (.seq (.ops [.fa 18 8 2, .ld 19 1 false 18, .mv 20 1, .call (some 21) 10 [19, 20], .asg 1 21]) (.seq (.seq (.ops [.mv 22 1, .bin 23 .lss 22 (kI 0)]) (.cond 23 (.seq (.ops [.asg 4 (kI (-1))]) .ret) .skip)) (.seq (.ops [.fa 24 9 2, .ld 25 1 false 24, .mv 26 1, .call (some 27) 11 [25, 26], .asg 1 27]) (.seq (.seq (.ops [.mv 28 1, .bin 29 .lss 28 (kI 0)]) (.cond 29 (.seq (.ops [.asg 4 (kI (-1))]) .ret) .skip)) (.seq (.ops [.fa 30 10 2, .ld 31 1 false 30, .mv 32 1, .call (some 33) 12 [31, 32], .asg 1 33]) (.seq (.seq (.ops [.mv 34 1, .bin 35 .lss 34 (kI 0)]) (.cond 35 (.seq (.ops [.asg 4 (kI (-1))]) .ret) .skip)) (.seq (.ops [.fa 36 11 2, .ld 37 1 false 36, .mv 38 1, .call (some 39) 12 [37, 38], .asg 1 39]) (.seq (.seq (.ops [.mv 40 1, .bin 41 .lss 40 (kI 0)]) (.cond 41 (.seq (.ops [.asg 4 (kI (-1))]) .ret) .skip)) (.seq (.ops [.mv 42 1, .asg 4 42]) .ret))))))))))))))
theorem trwSzStmt : trFn Tryz.prog 4 = some (acwSzStmt, [.mv 0 4], 43) := by kernel_rfl
def qwSzStmt (r : Int) : Exit → St → Prop := retQ [.mv 0 4] fun x _ => x = (fun y => (vI y)) r
def acwSzExprS_L0 : AC := (.loop (.seq (.seq (.ops [.mv 12 5, .mv 13 0, .len 14 13, .bin 15 .lss 12 14]) (.cond 15 .skip (.exit 0))) (.seq (.block 1 (.seq (.ops [.mv 18 0, .mv 19 5, .ia 20 10 18 19, .ld 21 10 true 20, .mv 22 1, .call (some 23) 39 [21, 22], .asg 1 23]) (.seq (.ops [.mv 24 1, .bin 25 .lss 24 (kI 0)]) (.cond 25 (.seq (.ops [.asg 4 (kI (-1))]) .ret) .skip)))) (.ops [.mv 16 5, .bin 17 .add 16 (kI 1), .asg 5 17]))))
def acwSzExprS : AC := (.seq (.ops [.asg 4 (kI 0)]) (.seq (.ops [.mv 6 1, .mv 7 0, .len 8 7, .bin 9 .sub 6 8, .asg 1 9]) (.seq (.seq (.ops [.mv 10 1, .bin 11 .lss 10 (kI 0)]) (.cond 11 (.seq (.ops [.asg 4 (kI (-1))]) .ret) .skip)) (.seq (.seq (.ops [.asg 5 (kI 0)]) (.block 0 acwSzExprS_L0)) (.seq (.ops [.mv 26 1, .asg 4 26]) .ret)))))
theorem trwSzExprS : trFn Tryz.prog 12 = some (acwSzExprS, [.mv 0 4], 27) := by kernel_rfl
def qwSzExprS (r : Int) : Exit → St → Prop := retQ [.mv 0 4] fun x _ => x = (fun y => (vI y)) r
def qwSzExprS_0 (r : Int) : Exit → St → Prop := (thenK (wkK (avc Tryz.prog (.seq (.ops [.mv 26 1, .asg 4 26]) .ret) (qwSzExprS r))) (qwSzExprS r))
def qwSzExprS_1 (r : Int) : Exit → St → Prop := (blockK 0 (qwSzExprS_0 r))
def stwSzExprS_L0 (p0 : (List GExpr)) (x1 : Int) (x5 : Int) : St := ⟨[(0, (.d (.sl 10 (p0.map cGExpr)))), (1, (vI x1)), (5, (vI x5))], []⟩
def acwSzExpr : AC := (.seq (.ops [.box 2 74 0, .asg 4 (kI 0)]) (.seq (.ops [.fa 5 3 2, .ld 6 3 true 5, .mv 7 1, .call (some 8) 78 [6, 7], .asg 1 8]) (.seq (.seq (.ops [.mv 9 1, .bin 10 .lss 9 (kI 0)]) (.cond 10 (.seq (.ops [.asg 4 (kI (-1))]) .ret) .skip)) (.seq (.ops [.mv 11 1, .fa 12 6 2, .ld 13 1 false 12, .lns 14 13, .bin 15 .sub 11 14, .asg 1 15]) (.seq (.seq (.ops [.mv 16 1, .bin 17 .lss 16 (kI 0)]) (.cond 17 (.seq (.ops [.asg 4 (kI (-1))]) .ret) .skip)) (.seq (.ops [.mv 18 1, .fa 19 7 2, .ld 20 1 false 19, .lns 21 20, .bin 22 .sub 18 21, .asg 1 22]) (.seq (.seq (.ops [.mv 23 1, .bin 24 .lss 23 (kI 0)]) (.cond 24 (.seq (.ops [.asg 4 (kI (-1))]) .ret) .skip)) (.seq (.ops [.fa 25 8 2, .ld 26 1 false 25, .mv 27 1, .call (some 28) 12 [26, 27], .asg 1 28]) (.seq (.seq (.ops [.mv 29 1, .bin 30 .lss 29 (kI 0)]) (.cond 30 (.seq (.ops [.asg 4 (kI (-1))]) .ret) .skip)) (.seq (.ops [.fa 31 9 2, .ld 32 1 false 31, .mv 33 1, .call (some 34) 79 [32, 33], .asg 1 34]) (.seq (.seq (.ops [.mv 35 1, .bin 36 .lss 35 (kI 0)]) (.cond 36 (.seq (.ops [.asg 4 (kI (-1))]) .ret) .skip)) (.seq (.ops [.mv 37 1, .asg 4 37]) .ret))))))))))))
theorem trwSzExpr : trFn Tryz.prog 39 = some (acwSzExpr, [.mv 0 4], 38) := by kernel_rfl
def qwSzExpr (r : Int) : Exit → St → Prop := retQ [.mv 0 4] fun x _ => x = (fun y => (vI y)) r
def acwSzQueryS_L0 : AC := (.loop (.seq (.seq (.ops [.mv 12 5, .mv 13 0, .len 14 13, .bin 15 .lss 12 14]) (.cond 15 .skip (.exit 0))) (.seq (.block 1 (.seq (.ops [.mv 18 0, .mv 19 5, .ia 20 6 18 19, .ld 21 6 true 20, .mv 22 1, .call (some 23) 9 [21, 22], .asg 1 23]) (.seq (.ops [.mv 24 1, .bin 25 .lss 24 (kI 0)]) (.cond 25 (.seq (.ops [.asg 4 (kI (-1))]) .ret) .skip)))) (.ops [.mv 16 5, .bin 17 .add 16 (kI 1), .asg 5 17]))))
def acwSzQueryS : AC := (.seq (.ops [.asg 4 (kI 0)]) (.seq (.ops [.mv 6 1, .mv 7 0, .len 8 7, .bin 9 .sub 6 8, .asg 1 9]) (.seq (.seq (.ops [.mv 10 1, .bin 11 .lss 10 (kI 0)]) (.cond 11 (.seq (.ops [.asg 4 (kI (-1))]) .ret) .skip)) (.seq (.seq (.ops [.asg 5 (kI 0)]) (.block 0 acwSzQueryS_L0)) (.seq (.ops [.mv 26 1, .asg 4 26]) .ret)))))
theorem trwSzQueryS : trFn Tryz.prog 79 = some (acwSzQueryS, [.mv 0 4], 27) := by kernel_rfl
def qwSzQueryS (r : Int) : Exit → St → Prop := retQ [.mv 0 4] fun x _ => x = (fun y => (vI y)) r
def qwSzQueryS_0 (r : Int) : Exit → St → Prop := (thenK (wkK (avc Tryz.prog (.seq (.ops [.mv 26 1, .asg 4 26]) .ret) (qwSzQueryS r))) (qwSzQueryS r))
def qwSzQueryS_1 (r : Int) : Exit → St → Prop := (blockK 0 (qwSzQueryS_0 r))
def stwSzQueryS_L0 (p0 : (List GQuery)) (x1 : Int) (x5 : Int) : St := ⟨[(0, (.d (.sl 6 (p0.map cGQuery)))), (1, (vI x1)), (5, (vI x5))], []⟩
def acwSzQuery : AC := (.seq (.ops [.box 2 27 0, .asg 4 (kI 0)]) (.seq (.ops [.fa 5 1 2, .ld 6 1 false 5, .mv 7 1, .call (some 8) 36 [6, 7], .asg 1 8]) (.seq (.seq (.ops [.mv 9 1, .bin 10 .lss 9 (kI 0)]) (.cond 10 (.seq (.ops [.asg 4 (kI (-1))]) .ret) .skip)) (.seq (.ops [.fa 11 2 2, .ld 12 1 false 11, .mv 13 1, .call (some 14) 37 [12, 13], .asg 1 14]) (.seq (.seq (.ops [.mv 15 1, .bin 16 .lss 15 (kI 0)]) (.cond 16 (.seq (.ops [.asg 4 (kI (-1))]) .ret) .skip)) (.seq (.ops [.fa 17 3 2, .ld 18 1 false 17, .mv 19 1, .call (some 20) 12 [18, 19], .asg 1 20]) (.seq (.seq (.ops [.mv 21 1, .bin 22 .lss 21 (kI 0)]) (.cond 22 (.seq (.ops [.asg 4 (kI (-1))]) .ret) .skip)) (.seq (.ops [.fa 23 4 2, .ld 24 1 false 23, .mv 25 1, .call (some 26) 38 [24, 25], .asg 1 26]) (.seq (.seq (.ops [.mv 27 1, .bin 28 .lss 27 (kI 0)]) (.cond 28 (.seq (.ops [.asg 4 (kI (-1))]) .ret) .skip)) (.seq (.ops [.mv 29 1, .asg 4 29]) .ret))))))))))
theorem trwSzQuery : trFn Tryz.prog 9 = some (acwSzQuery, [.mv 0 4], 30) := by kernel_rfl
def qwSzQuery (r : Int) : Exit → St → Prop := retQ [.mv 0 4] fun x _ => x = (fun y => (vI y)) r
def acwSzSortKeyS_L0 : AC := (.loop (.seq (.seq (.ops [.mv 12 5, .mv 13 0, .len 14 13, .bin 15 .lss 12 14]) (.cond 15 .skip (.exit 0))) (.seq (.block 1 (.seq (.ops [.mv 18 0, .mv 19 5, .ia 20 11 18 19, .ld 21 11 true 20, .mv 22 1, .call (some 23) 77 [21, 22], .asg 1 23]) (.seq (.ops [.mv 24 1, .bin 25 .lss 24 (kI 0)]) (.cond 25 (.seq (.ops [.asg 4 (kI (-1))]) .ret) .skip)))) (.ops [.mv 16 5, .bin 17 .add 16 (kI 1), .asg 5 17]))))
def acwSzSortKeyS : AC := (.seq (.ops [.asg 4 (kI 0)]) (.seq (.ops [.mv 6 1, .mv 7 0, .len 8 7, .bin 9 .sub 6 8, .asg 1 9]) (.seq (.seq (.ops [.mv 10 1, .bin 11 .lss 10 (kI 0)]) (.cond 11 (.seq (.ops [.asg 4 (kI (-1))]) .ret) .skip)) (.seq (.seq (.ops [.asg 5 (kI 0)]) (.block 0 acwSzSortKeyS_L0)) (.seq (.ops [.mv 26 1, .asg 4 26]) .ret)))))
theorem trwSzSortKeyS : trFn Tryz.prog 38 = some (acwSzSortKeyS, [.mv 0 4], 27) := by kernel_rfl
def qwSzSortKeyS (r : Int) : Exit → St → Prop := retQ [.mv 0 4] fun x _ => x = (fun y => (vI y)) r
def qwSzSortKeyS_0 (r : Int) : Exit → St → Prop := (thenK (wkK (avc Tryz.prog (.seq (.ops [.mv 26 1, .asg 4 26]) .ret) (qwSzSortKeyS r))) (qwSzSortKeyS r))
def qwSzSortKeyS_1 (r : Int) : Exit → St → Prop := (blockK 0 (qwSzSortKeyS_0 r))
def stwSzSortKeyS_L0 (p0 : (List GSortKey)) (x1 : Int) (x5 : Int) : St := ⟨[(0, (.d (.sl 11 (p0.map cGSortKey)))), (1, (vI x1)), (5, (vI x5))], []⟩
def acwSzSortKey : AC := (.seq (.ops [.box 2 116 0, .asg 4 (kI 0)]) (.seq (.ops [.fa 5 0 2, .ld 6 10 true 5, .mv 7 1, .call (some 8) 39 [6, 7], .asg 1 8]) (.seq (.seq (.ops [.mv 9 1, .bin 10 .lss 9 (kI 0)]) (.cond 10 (.seq (.ops [.asg 4 (kI (-1))]) .ret) .skip)) (.seq (.ops [.mv 11 1, .asg 4 11]) .ret))))
theorem trwSzSortKey : trFn Tryz.prog 77 = some (acwSzSortKey, [.mv 0 4], 12) := by kernel_rfl
def qwSzSortKey (r : Int) : Exit → St → Prop := retQ [.mv 0 4] fun x _ => x = (fun y => (vI y)) r
def acwSzSourceS_L0 : AC := (.loop (.seq (.seq (.ops [.mv 12 5, .mv 13 0, .len 14 13, .bin 15 .lss 12 14]) (.cond 15 .skip (.exit 0))) (.seq (.block 1 (.seq (.ops [.mv 18 0, .mv 19 5, .ia 20 3 18 19, .ld 21 3 true 20, .mv 22 1, .call (some 23) 76 [21, 22], .asg 1 23]) (.seq (.ops [.mv 24 1, .bin 25 .lss 24 (kI 0)]) (.cond 25 (.seq (.ops [.asg 4 (kI (-1))]) .ret) .skip)))) (.ops [.mv 16 5, .bin 17 .add 16 (kI 1), .asg 5 17]))))
def acwSzSourceS : AC := (.seq (.ops [.asg 4 (kI 0)]) (.seq (.ops [.mv 6 1, .mv 7 0, .len 8 7, .bin 9 .sub 6 8, .asg 1 9]) (.seq (.seq (.ops [.mv 10 1, .bin 11 .lss 10 (kI 0)]) (.cond 11 (.seq (.ops [.asg 4 (kI (-1))]) .ret) .skip)) (.seq (.seq (.ops [.asg 5 (kI 0)]) (.block 0 acwSzSourceS_L0)) (.seq (.ops [.mv 26 1, .asg 4 26]) .ret)))))
theorem trwSzSourceS : trFn Tryz.prog 37 = some (acwSzSourceS, [.mv 0 4], 27) := by kernel_rfl
def qwSzSourceS (r : Int) : Exit → St → Prop := retQ [.mv 0 4] fun x _ => x = (fun y => (vI y)) r
def qwSzSourceS_0 (r : Int) : Exit → St → Prop := (thenK (wkK (avc Tryz.prog (.seq (.ops [.mv 26 1, .asg 4 26]) .ret) (qwSzSourceS r))) (qwSzSourceS r))
def qwSzSourceS_1 (r : Int) : Exit → St → Prop := (blockK 0 (qwSzSourceS_0 r))
def stwSzSourceS_L0 (p0 : (List GSource)) (x1 : Int) (x5 : Int) : St := ⟨[(0, (.d (.sl 3 (p0.map cGSource)))), (1, (vI x1)), (5, (vI x5))], []⟩
def acwSzSource : AC := (.seq (.ops [.box 2 113 0, .asg 4 (kI 0)]) (.seq (.ops [.mv 5 1, .fa 6 0 2, .ld 7 1 false 6, .lns 8 7, .bin 9 .sub 5 8, .asg 1 9]) (.seq (.seq (.ops [.mv 10 1, .bin 11 .lss 10 (kI 0)]) (.cond 11 (.seq (.ops [.asg 4 (kI (-1))]) .ret) .skip)) (.seq (.ops [.mv 12 1, .fa 13 1 2, .ld 14 1 false 13, .lns 15 14, .bin 16 .sub 12 15, .asg 1 16]) (.seq (.seq (.ops [.mv 17 1, .bin 18 .lss 17 (kI 0)]) (.cond 18 (.seq (.ops [.asg 4 (kI (-1))]) .ret) .skip)) (.seq (.ops [.fa 19 2 2, .ld 20 1 false 19, .mv 21 1, .call (some 22) 12 [20, 21], .asg 1 22]) (.seq (.seq (.ops [.mv 23 1, .bin 24 .lss 23 (kI 0)]) (.cond 24 (.seq (.ops [.asg 4 (kI (-1))]) .ret) .skip)) (.seq (.ops [.mv 25 1, .asg 4 25]) .ret))))))))
theorem trwSzSource : trFn Tryz.prog 76 = some (acwSzSource, [.mv 0 4], 26) := by kernel_rfl
def qwSzSource (r : Int) : Exit → St → Prop := retQ [.mv 0 4] fun x _ => x = (fun y => (vI y)) r
def acwSzItemS_L0 : AC := (.loop (.seq (.seq (.ops [.mv 12 5, .mv 13 0, .len 14 13, .bin 15 .lss 12 14]) (.cond 15 .skip (.exit 0))) (.seq (.block 1 (.seq (.ops [.mv 18 0, .mv 19 5, .ia 20 13 18 19, .ld 21 13 true 20, .mv 22 1, .call (some 23) 75 [21, 22], .asg 1 23]) (.seq (.ops [.mv 24 1, .bin 25 .lss 24 (kI 0)]) (.cond 25 (.seq (.ops [.asg 4 (kI (-1))]) .ret) .skip)))) (.ops [.mv 16 5, .bin 17 .add 16 (kI 1), .asg 5 17]))))
def acwSzItemS : AC := (.seq (.ops [.asg 4 (kI 0)]) (.seq (.ops [.mv 6 1, .mv 7 0, .len 8 7, .bin 9 .sub 6 8, .asg 1 9]) (.seq (.seq (.ops [.mv 10 1, .bin 11 .lss 10 (kI 0)]) (.cond 11 (.seq (.ops [.asg 4 (kI (-1))]) .ret) .skip)) (.seq (.seq (.ops [.asg 5 (kI 0)]) (.block 0 acwSzItemS_L0)) (.seq (.ops [.mv 26 1, .asg 4 26]) .ret)))))
theorem trwSzItemS : trFn Tryz.prog 36 = some (acwSzItemS, [.mv 0 4], 27) := by kernel_rfl
def qwSzItemS (r : Int) : Exit → St → Prop := retQ [.mv 0 4] fun x _ => x = (fun y => (vI y)) r
def qwSzItemS_0 (r : Int) : Exit → St → Prop := (thenK (wkK (avc Tryz.prog (.seq (.ops [.mv 26 1, .asg 4 26]) .ret) (qwSzItemS r))) (qwSzItemS r))
def qwSzItemS_1 (r : Int) : Exit → St → Prop := (blockK 0 (qwSzItemS_0 r))
def stwSzItemS_L0 (p0 : (List GItem)) (x1 : Int) (x5 : Int) : St := ⟨[(0, (.d (.sl 13 (p0.map cGItem)))), (1, (vI x1)), (5, (vI x5))], []⟩
def acwSzItem : AC := (.seq (.ops [.box 2 110 0, .asg 4 (kI 0)]) (.seq (.ops [.mv 5 1, .fa 6 1 2, .ld 7 1 false 6, .lns 8 7, .bin 9 .sub 5 8, .asg 1 9]) (.seq (.seq (.ops [.mv 10 1, .bin 11 .lss 10 (kI 0)]) (.cond 11 (.seq (.ops [.asg 4 (kI (-1))]) .ret) .skip)) (.seq (.ops [.fa 12 2 2, .ld 13 10 true 12, .mv 14 1, .call (some 15) 39 [13, 14], .asg 1 15]) (.seq (.seq (.ops [.mv 16 1, .bin 17 .lss 16 (kI 0)]) (.cond 17 (.seq (.ops [.asg 4 (kI (-1))]) .ret) .skip)) (.seq (.ops [.mv 18 1, .fa 19 12 2, .ld 20 1 false 19, .lns 21 20, .bin 22 .sub 18 21, .asg 1 22]) (.seq (.seq (.ops [.mv 23 1, .bin 24 .lss 23 (kI 0)]) (.cond 24 (.seq (.ops [.asg 4 (kI (-1))]) .ret) .skip)) (.seq (.ops [.mv 25 1, .asg 4 25]) .ret))))))))
theorem trwSzItem : trFn Tryz.prog 75 = some (acwSzItem, [.mv 0 4], 26) := by kernel_rfl
def qwSzItem (r : Int) : Exit → St → Prop := retQ [.mv 0 4] fun x _ => x = (fun y => (vI y)) r
def acwSzValue : AC := (.seq (.ops [.box 2 71 0, .asg 4 (kI 0)]) (.seq (.ops [.mv 5 1, .fa 6 2 2, .ld 7 1 false 6, .lns 8 7, .bin 9 .sub 5 8, .asg 1 9]) (.seq (.seq (.ops [.mv 10 1, .bin 11 .lss 10 (kI 0)]) (.cond 11 (.seq (.ops [.asg 4 (kI (-1))]) .ret) .skip)) (.seq (.ops [.mv 12 1, .asg 4 12]) .ret))))
theorem trwSzValue : trFn Tryz.prog 78 = some (acwSzValue, [.mv 0 4], 13) := by kernel_rfl
def qwSzValue (r : Int) : Exit → St → Prop := retQ [.mv 0 4] fun x _ => x = (fun y => (vI y)) r
def acwSzStringS_L0 : AC := (.loop (.seq (.seq (.ops [.mv 12 5, .mv 13 0, .len 14 13, .bin 15 .lss 12 14]) (.cond 15 .skip (.exit 0))) (.seq (.block 1 (.seq (.ops [.mv 18 1, .mv 19 0, .mv 20 5, .ia 21 1 19 20, .ld 22 1 false 21, .lns 23 22, .bin 24 .sub 18 23, .asg 1 24]) (.seq (.ops [.mv 25 1, .bin 26 .lss 25 (kI 0)]) (.cond 26 (.seq (.ops [.asg 4 (kI (-1))]) .ret) .skip)))) (.ops [.mv 16 5, .bin 17 .add 16 (kI 1), .asg 5 17]))))
def acwSzStringS : AC := (.seq (.ops [.asg 4 (kI 0)]) (.seq (.ops [.mv 6 1, .mv 7 0, .len 8 7, .bin 9 .sub 6 8, .asg 1 9]) (.seq (.seq (.ops [.mv 10 1, .bin 11 .lss 10 (kI 0)]) (.cond 11 (.seq (.ops [.asg 4 (kI (-1))]) .ret) .skip)) (.seq (.seq (.ops [.asg 5 (kI 0)]) (.block 0 acwSzStringS_L0)) (.seq (.ops [.mv 27 1, .asg 4 27]) .ret)))))
theorem trwSzStringS : trFn Tryz.prog 11 = some (acwSzStringS, [.mv 0 4], 28) := by kernel_rfl
def qwSzStringS (r : Int) : Exit → St → Prop := retQ [.mv 0 4] fun x _ => x = (fun y => (vI y)) r
def qwSzStringS_0 (r : Int) : Exit → St → Prop := (thenK (wkK (avc Tryz.prog (.seq (.ops [.mv 27 1, .asg 4 27]) .ret) (qwSzStringS r))) (qwSzStringS r))
def qwSzStringS_1 (r : Int) : Exit → St → Prop := (blockK 0 (qwSzStringS_0 r))
def stwSzStringS_L0 (p0 : (List (List UInt8))) (x1 : Int) (x5 : Int) : St := ⟨[(0, (.d (.sl 1 (p0.map cStr)))), (1, (vI x1)), (5, (vI x5))], []⟩
def acwSzExprSS_L0 : AC := (.loop (.seq (.seq (.ops [.mv 12 5, .mv 13 0, .len 14 13, .bin 15 .lss 12 14]) (.cond 15 .skip (.exit 0))) (.seq (.block 1 (.seq (.ops [.mv 18 0, .mv 19 5, .ia 20 1 18 19, .ld 21 1 false 20, .mv 22 1, .call (some 23) 12 [21, 22], .asg 1 23]) (.seq (.ops [.mv 24 1, .bin 25 .lss 24 (kI 0)]) (.cond 25 (.seq (.ops [.asg 4 (kI (-1))]) .ret) .skip)))) (.ops [.mv 16 5, .bin 17 .add 16 (kI 1), .asg 5 17]))))
def acwSzExprSS : AC := (.seq (.ops [.asg 4 (kI 0)]) (.seq (.ops [.mv 6 1, .mv 7 0, .len 8 7, .bin 9 .sub 6 8, .asg 1 9]) (.seq (.seq (.ops [.mv 10 1, .bin 11 .lss 10 (kI 0)]) (.cond 11 (.seq (.ops [.asg 4 (kI (-1))]) .ret) .skip)) (.seq (.seq (.ops [.asg 5 (kI 0)]) (.block 0 acwSzExprSS_L0)) (.seq (.ops [.mv 26 1, .asg 4 26]) .ret)))))
theorem trwSzExprSS : trFn Tryz.prog 10 = some (acwSzExprSS, [.mv 0 4], 27) := by kernel_rfl
def qwSzExprSS (r : Int) : Exit → St → Prop := retQ [.mv 0 4] fun x _ => x = (fun y => (vI y)) r
def qwSzExprSS_0 (r : Int) : Exit → St → Prop := (thenK (wkK (avc Tryz.prog (.seq (.ops [.mv 26 1, .asg 4 26]) .ret) (qwSzExprSS r))) (qwSzExprSS r))
def qwSzExprSS_1 (r : Int) : Exit → St → Prop := (blockK 0 (qwSzExprSS_0 r))
def stwSzExprSS_L0 (p0 : (List (List GExpr))) (x1 : Int) (x5 : Int) : St := ⟨[(0, (.d (.sl 1 (p0.map (cSl 10 cGExpr))))), (1, (vI x1)), (5, (vI x5))], []⟩
theorem koGValue (x : GValue) (h : ∀ d ∈ cGValue x, OkD d) : okGValue x := ⟨ko_i _ (ko_sub h 0 1), ko_i _ (ko_sub h 1 1), ko_s _ (ko_sub h 2 1)⟩
mutual
theorem koGExpr : ∀ x : GExpr, (∀ d ∈ cGExpr x, OkD d) → okGExpr x
  | ⟨a0, a1, a2, a3, a4, a5, a6, a7⟩, h0 => by
    rw [cGExpr_eq] at h0
    have h : ∀ d ∈ oGExpr ⟨a0, a1, a2, a3, a4, a5, a6, a7⟩, OkD d := h0
    unfold okGExpr
    exact ⟨ko_i _ (ko_sub h 0 1), ko_i _ (ko_sub h 1 1), trivial, koGValue a3 (ko_sub h 3 3), ko_s _ (ko_sub h 6 1), ko_s _ (ko_sub h 7 1), ⟨by simpa using (ko_len (ko_sub h 8 1)).1, koLGExpr a6 (ko_len (ko_sub h 8 1)).2⟩, ⟨by simpa using (ko_len (ko_sub h 9 1)).1, koLGQuery a7 (ko_len (ko_sub h 9 1)).2⟩⟩
theorem koGItem : ∀ x : GItem, (∀ d ∈ cGItem x, OkD d) → okGItem x
  | ⟨a0, a1, a2, a3⟩, h0 => by
    rw [cGItem_eq] at h0
    have h : ∀ d ∈ oGItem ⟨a0, a1, a2, a3⟩, OkD d := h0
    unfold okGItem
    exact ⟨trivial, ko_s _ (ko_sub h 1 1), koGExpr a2 (by rw [cGExpr_eq]; exact (ko_sub h 2 10)), ko_s _ (ko_sub h 12 1)⟩
theorem koGQuery : ∀ x : GQuery, (∀ d ∈ cGQuery x, OkD d) → okGQuery x
  | ⟨a0, a1, a2, a3, a4, a5⟩, h0 => by
    rw [cGQuery_eq] at h0
    have h : ∀ d ∈ oGQuery ⟨a0, a1, a2, a3, a4, a5⟩, OkD d := h0
    unfold okGQuery
    exact ⟨trivial, ⟨by simpa using (ko_len (ko_sub h 1 1)).1, koLGItem a1 (ko_len (ko_sub h 1 1)).2⟩, ⟨by simpa using (ko_len (ko_sub h 2 1)).1, koLGSource a2 (ko_len (ko_sub h 2 1)).2⟩, ⟨by simpa using (ko_len (ko_sub h 3 1)).1, koLGExpr a3 (ko_len (ko_sub h 3 1)).2⟩, ⟨by simpa using (ko_len (ko_sub h 4 1)).1, koLGSortKey a4 (ko_len (ko_sub h 4 1)).2⟩, ko_i _ (ko_sub h 5 1)⟩
theorem koGSortKey : ∀ x : GSortKey, (∀ d ∈ cGSortKey x, OkD d) → okGSortKey x
  | ⟨a0, a1⟩, h0 => by
    rw [cGSortKey_eq] at h0
    have h : ∀ d ∈ oGSortKey ⟨a0, a1⟩, OkD d := h0
    unfold okGSortKey
    exact ⟨koGExpr a0 (by rw [cGExpr_eq]; exact (ko_sub h 0 10)), trivial⟩
theorem koGSource : ∀ x : GSource, (∀ d ∈ cGSource x, OkD d) → okGSource x
  | ⟨a0, a1, a2⟩, h0 => by
    rw [cGSource_eq] at h0
    have h : ∀ d ∈ oGSource ⟨a0, a1, a2⟩, OkD d := h0
    unfold okGSource
    exact ⟨ko_s _ (ko_sub h 0 1), ko_s _ (ko_sub h 1 1), ⟨by simpa using (ko_len (ko_sub h 2 1)).1, koLGExpr a2 (ko_len (ko_sub h 2 1)).2⟩⟩
theorem koLGExpr : ∀ l : List GExpr, (∀ x ∈ l.map cGExpr, ∀ d ∈ x, OkD d) → okLGExpr l
  | [], _ => by unfold okLGExpr; trivial
  | x :: l, h => by
    unfold okLGExpr
    exact ⟨koGExpr x (h _ (by simp)), koLGExpr l fun y hy => h y (List.mem_cons_of_mem _ hy)⟩
theorem koLGItem : ∀ l : List GItem, (∀ x ∈ l.map cGItem, ∀ d ∈ x, OkD d) → okLGItem l
  | [], _ => by unfold okLGItem; trivial
  | x :: l, h => by
    unfold okLGItem
    exact ⟨koGItem x (h _ (by simp)), koLGItem l fun y hy => h y (List.mem_cons_of_mem _ hy)⟩
theorem koLGQuery : ∀ l : List GQuery, (∀ x ∈ l.map cGQuery, ∀ d ∈ x, OkD d) → okLGQuery l
  | [], _ => by unfold okLGQuery; trivial
  | x :: l, h => by
    unfold okLGQuery
    exact ⟨koGQuery x (h _ (by simp)), koLGQuery l fun y hy => h y (List.mem_cons_of_mem _ hy)⟩
theorem koLGSortKey : ∀ l : List GSortKey, (∀ x ∈ l.map cGSortKey, ∀ d ∈ x, OkD d) → okLGSortKey l
  | [], _ => by unfold okLGSortKey; trivial
  | x :: l, h => by
    unfold okLGSortKey
    exact ⟨koGSortKey x (h _ (by simp)), koLGSortKey l fun y hy => h y (List.mem_cons_of_mem _ hy)⟩
theorem koLGSource : ∀ l : List GSource, (∀ x ∈ l.map cGSource, ∀ d ∈ x, OkD d) → okLGSource l
  | [], _ => by unfold okLGSource; trivial
  | x :: l, h => by
    unfold okLGSource
    exact ⟨koGSource x (h _ (by simp)), koLGSource l fun y hy => h y (List.mem_cons_of_mem _ hy)⟩
end
theorem koGStmt (x : GStmt) (h : ∀ d ∈ cGStmt x, OkD d) : okGStmt x := ⟨ko_i _ (ko_sub h 0 1), koGQuery x.query (by rw [cGQuery_eq]; exact ko_sub h 1 6), ko_s _ (ko_sub h 7 1), ko_l _ (fun y hy => ko_l _ (fun y hy => koGExpr y hy) hy) (ko_sub h 8 1), ko_l _ (fun y hy => ko_s _ hy) (ko_sub h 9 1), ko_l _ (fun y hy => koGExpr y hy) (ko_sub h 10 1), ko_l _ (fun y hy => koGExpr y hy) (ko_sub h 11 1)⟩
theorem koGForm (x : GForm) (h : ∀ d ∈ cGForm x, OkD d) : okGForm x := ⟨trivial, trivial, trivial, trivial, ko_i _ (ko_sub h 4 1), ko_i _ (ko_sub h 5 1), ko_i _ (ko_sub h 6 1)⟩
theorem de3 {l : List D} (h : WtC Tryz.prog 3 l) : ∃ x : Int, l = cI x := (wt_i h (k := .i64) (by kernel_rfl))
theorem de4 {l : List D} (h : WtC Tryz.prog 4 l) : ∃ x : Bool, l = cB x := (wt_b h (by kernel_rfl))
theorem de9 {l : List D} (h : WtC Tryz.prog 9 l) : ∃ x : (List UInt8), l = cStr x := (wt_s h (by kernel_rfl))
theorem de71 {l : List D} (h : WtC Tryz.prog 71 l) : ∃ x : GValue, l = cGValue x := by
  obtain ⟨x0, e0⟩ := de3 (wt_fld h 0 (off := 0) (n := 1) (by kernel_rfl))
  obtain ⟨x1, e1⟩ := de3 (wt_fld h 1 (off := 1) (n := 1) (by kernel_rfl))
  obtain ⟨x2, e2⟩ := de9 (wt_fld h 2 (off := 2) (n := 1) (by kernel_rfl))
  exact ⟨⟨x0, x1, x2⟩, (dr1 (m := 1) (by kernel_rfl) e0 (dr1 (m := 2) (by kernel_rfl) e1 (dr1 (m := 3) (by kernel_rfl) e2 (dr0 (wt_len h (n := 3) (by kernel_rfl))))))⟩
def DS22 (n : Nat) : Prop := ∀ m : List D, SizeOf.sizeOf m ≤ n → (WtC Tryz.prog 22 m → ∃ x : (List GItem), m = (cSl 13 cGItem) x) ∧ (WtC Tryz.prog 23 m → ∃ x : (List GSource), m = (cSl 3 cGSource) x) ∧ (WtC Tryz.prog 24 m → ∃ x : (List GExpr), m = (cSl 10 cGExpr) x) ∧ (WtC Tryz.prog 25 m → ∃ x : (List GSortKey), m = (cSl 11 cGSortKey) x) ∧ (WtC Tryz.prog 72 m → ∃ x : (List GQuery), m = (cSl 6 cGQuery) x)
theorem DS22_le {n m : Nat} (h : DS22 n) (hm : m ≤ n) : DS22 m := fun l hl => h l (Nat.le_trans hl hm)
theorem de74_ {l : List D} (H : DS22 (SizeOf.sizeOf l)) (h : WtC Tryz.prog 74 l) : ∃ x : GExpr, l = cGExpr x := by
  obtain ⟨x0, e0⟩ := de3 (wt_fld h 0 (off := 0) (n := 1) (tf := 3) (by kernel_rfl))
  obtain ⟨x1, e1⟩ := de3 (wt_fld h 1 (off := 1) (n := 1) (tf := 3) (by kernel_rfl))
  obtain ⟨x2, e2⟩ := de4 (wt_fld h 2 (off := 2) (n := 1) (tf := 4) (by kernel_rfl))
  obtain ⟨x3, e3⟩ := de71 (wt_fld h 3 (off := 3) (n := 3) (tf := 71) (by kernel_rfl))
  obtain ⟨x4, e4⟩ := de9 (wt_fld h 4 (off := 6) (n := 1) (tf := 9) (by kernel_rfl))
  obtain ⟨x5, e5⟩ := de9 (wt_fld h 5 (off := 7) (n := 1) (tf := 9) (by kernel_rfl))
  obtain ⟨x6, e6⟩ := (H _ (size_sub l 8 1)).2.2.1 (wt_fld h 6 (off := 8) (n := 1) (tf := 24) (by kernel_rfl))
  obtain ⟨x7, e7⟩ := (H _ (size_sub l 9 1)).2.2.2.2 (wt_fld h 7 (off := 9) (n := 1) (tf := 72) (by kernel_rfl))
  exact ⟨⟨x0, x1, x2, x3, x4, x5, x6, x7⟩, (show l = oGExpr ⟨x0, x1, x2, x3, x4, x5, x6, x7⟩ from (dr1 (m := 1) (by kernel_rfl) e0 (dr1 (m := 2) (by kernel_rfl) e1 (dr1 (m := 3) (by kernel_rfl) e2 (dr1 (m := 6) (by kernel_rfl) e3 (dr1 (m := 7) (by kernel_rfl) e4 (dr1 (m := 8) (by kernel_rfl) e5 (dr1 (m := 9) (by kernel_rfl) e6 (dr1 (m := 10) (by kernel_rfl) e7 (dr0 (wt_len h (n := 10) (by kernel_rfl)))))))))))).trans (cGExpr_eq _).symm⟩
theorem de116_ {l : List D} (H : DS22 (SizeOf.sizeOf l)) (h : WtC Tryz.prog 116 l) : ∃ x : GSortKey, l = cGSortKey x := by
  obtain ⟨x0, e0⟩ := de74_ (DS22_le H (size_sub l 0 10)) (wt_fld h 0 (off := 0) (n := 10) (tf := 74) (by kernel_rfl))
  rw [cGExpr_eq] at e0
  obtain ⟨x1, e1⟩ := de4 (wt_fld h 1 (off := 10) (n := 1) (tf := 4) (by kernel_rfl))
  exact ⟨⟨x0, x1⟩, (show l = oGSortKey ⟨x0, x1⟩ from (dr1 (m := 10) (by kernel_rfl) e0 (dr1 (m := 11) (by kernel_rfl) e1 (dr0 (wt_len h (n := 11) (by kernel_rfl)))))).trans (cGSortKey_eq _).symm⟩
theorem de113_ {l : List D} (H : DS22 (SizeOf.sizeOf l)) (h : WtC Tryz.prog 113 l) : ∃ x : GSource, l = cGSource x := by
  obtain ⟨x0, e0⟩ := de9 (wt_fld h 0 (off := 0) (n := 1) (tf := 9) (by kernel_rfl))
  obtain ⟨x1, e1⟩ := de9 (wt_fld h 1 (off := 1) (n := 1) (tf := 9) (by kernel_rfl))
  obtain ⟨x2, e2⟩ := (H _ (size_sub l 2 1)).2.2.1 (wt_fld h 2 (off := 2) (n := 1) (tf := 24) (by kernel_rfl))
  exact ⟨⟨x0, x1, x2⟩, (show l = oGSource ⟨x0, x1, x2⟩ from (dr1 (m := 1) (by kernel_rfl) e0 (dr1 (m := 2) (by kernel_rfl) e1 (dr1 (m := 3) (by kernel_rfl) e2 (dr0 (wt_len h (n := 3) (by kernel_rfl))))))).trans (cGSource_eq _).symm⟩
theorem de110_ {l : List D} (H : DS22 (SizeOf.sizeOf l)) (h : WtC Tryz.prog 110 l) : ∃ x : GItem, l = cGItem x := by
  obtain ⟨x0, e0⟩ := de4 (wt_fld h 0 (off := 0) (n := 1) (tf := 4) (by kernel_rfl))
  obtain ⟨x1, e1⟩ := de9 (wt_fld h 1 (off := 1) (n := 1) (tf := 9) (by kernel_rfl))
  obtain ⟨x2, e2⟩ := de74_ (DS22_le H (size_sub l 2 10)) (wt_fld h 2 (off := 2) (n := 10) (tf := 74) (by kernel_rfl))
  rw [cGExpr_eq] at e2
  obtain ⟨x3, e3⟩ := de9 (wt_fld h 3 (off := 12) (n := 1) (tf := 9) (by kernel_rfl))
  exact ⟨⟨x0, x1, x2, x3⟩, (show l = oGItem ⟨x0, x1, x2, x3⟩ from (dr1 (m := 1) (by kernel_rfl) e0 (dr1 (m := 2) (by kernel_rfl) e1 (dr1 (m := 12) (by kernel_rfl) e2 (dr1 (m := 13) (by kernel_rfl) e3 (dr0 (wt_len h (n := 13) (by kernel_rfl)))))))).trans (cGItem_eq _).symm⟩
theorem de27_ {l : List D} (H : DS22 (SizeOf.sizeOf l)) (h : WtC Tryz.prog 27 l) : ∃ x : GQuery, l = cGQuery x := by
  obtain ⟨x0, e0⟩ := de4 (wt_fld h 0 (off := 0) (n := 1) (tf := 4) (by kernel_rfl))
  obtain ⟨x1, e1⟩ := (H _ (size_sub l 1 1)).1 (wt_fld h 1 (off := 1) (n := 1) (tf := 22) (by kernel_rfl))
  obtain ⟨x2, e2⟩ := (H _ (size_sub l 2 1)).2.1 (wt_fld h 2 (off := 2) (n := 1) (tf := 23) (by kernel_rfl))
  obtain ⟨x3, e3⟩ := (H _ (size_sub l 3 1)).2.2.1 (wt_fld h 3 (off := 3) (n := 1) (tf := 24) (by kernel_rfl))
  obtain ⟨x4, e4⟩ := (H _ (size_sub l 4 1)).2.2.2.1 (wt_fld h 4 (off := 4) (n := 1) (tf := 25) (by kernel_rfl))
  obtain ⟨x5, e5⟩ := de3 (wt_fld h 5 (off := 5) (n := 1) (tf := 3) (by kernel_rfl))
  exact ⟨⟨x0, x1, x2, x3, x4, x5⟩, (show l = oGQuery ⟨x0, x1, x2, x3, x4, x5⟩ from (dr1 (m := 1) (by kernel_rfl) e0 (dr1 (m := 2) (by kernel_rfl) e1 (dr1 (m := 3) (by kernel_rfl) e2 (dr1 (m := 4) (by kernel_rfl) e3 (dr1 (m := 5) (by kernel_rfl) e4 (dr1 (m := 6) (by kernel_rfl) e5 (dr0 (wt_len h (n := 6) (by kernel_rfl)))))))))).trans (cGQuery_eq _).symm⟩
theorem DS22_all : ∀ n, DS22 n := by
  intro n
  induction n with
  | zero =>
    intro m hm
    have : m = [] := by cases m with | nil => rfl | cons x l => simp at hm
    subst this
    exact ⟨fun h => by obtain ⟨ls, hl, _⟩ := wt_sl0 h (e := 110) (n := 13) (by kernel_rfl) (by kernel_rfl); simp at hl, fun h => by obtain ⟨ls, hl, _⟩ := wt_sl0 h (e := 113) (n := 3) (by kernel_rfl) (by kernel_rfl); simp at hl, fun h => by obtain ⟨ls, hl, _⟩ := wt_sl0 h (e := 74) (n := 10) (by kernel_rfl) (by kernel_rfl); simp at hl, fun h => by obtain ⟨ls, hl, _⟩ := wt_sl0 h (e := 116) (n := 11) (by kernel_rfl) (by kernel_rfl); simp at hl, fun h => by obtain ⟨ls, hl, _⟩ := wt_sl0 h (e := 27) (n := 6) (by kernel_rfl) (by kernel_rfl); simp at hl⟩
  | succ n ih =>
    intro m hm
    refine ⟨?_, ?_, ?_, ?_, ?_⟩
    · intro h
      obtain ⟨ls, rfl, hx⟩ := wt_sl0 h (e := 110) (n := 13) (by kernel_rfl) (by kernel_rfl)
      have H : ∀ x ∈ ls, ∃ y : GItem, x = cGItem y := fun x hm2 => de110_ (DS22_le ih (by have := size_mem (sz := 13) hm2; omega)) (hx x hm2)
      obtain ⟨ys, rfl⟩ := ex_map H
      exact ⟨ys, rfl⟩
    · intro h
      obtain ⟨ls, rfl, hx⟩ := wt_sl0 h (e := 113) (n := 3) (by kernel_rfl) (by kernel_rfl)
      have H : ∀ x ∈ ls, ∃ y : GSource, x = cGSource y := fun x hm2 => de113_ (DS22_le ih (by have := size_mem (sz := 3) hm2; omega)) (hx x hm2)
      obtain ⟨ys, rfl⟩ := ex_map H
      exact ⟨ys, rfl⟩
    · intro h
      obtain ⟨ls, rfl, hx⟩ := wt_sl0 h (e := 74) (n := 10) (by kernel_rfl) (by kernel_rfl)
      have H : ∀ x ∈ ls, ∃ y : GExpr, x = cGExpr y := fun x hm2 => de74_ (DS22_le ih (by have := size_mem (sz := 10) hm2; omega)) (hx x hm2)
      obtain ⟨ys, rfl⟩ := ex_map H
      exact ⟨ys, rfl⟩
    · intro h
      obtain ⟨ls, rfl, hx⟩ := wt_sl0 h (e := 116) (n := 11) (by kernel_rfl) (by kernel_rfl)
      have H : ∀ x ∈ ls, ∃ y : GSortKey, x = cGSortKey y := fun x hm2 => de116_ (DS22_le ih (by have := size_mem (sz := 11) hm2; omega)) (hx x hm2)
      obtain ⟨ys, rfl⟩ := ex_map H
      exact ⟨ys, rfl⟩
    · intro h
      obtain ⟨ls, rfl, hx⟩ := wt_sl0 h (e := 27) (n := 6) (by kernel_rfl) (by kernel_rfl)
      have H : ∀ x ∈ ls, ∃ y : GQuery, x = cGQuery y := fun x hm2 => de27_ (DS22_le ih (by have := size_mem (sz := 6) hm2; omega)) (hx x hm2)
      obtain ⟨ys, rfl⟩ := ex_map H
      exact ⟨ys, rfl⟩
theorem de22 {l : List D} (h : WtC Tryz.prog 22 l) : ∃ x : (List GItem), l = (cSl 13 cGItem) x := (DS22_all _ l (Nat.le_refl _)).1 h
theorem de23 {l : List D} (h : WtC Tryz.prog 23 l) : ∃ x : (List GSource), l = (cSl 3 cGSource) x := (DS22_all _ l (Nat.le_refl _)).2.1 h
theorem de24 {l : List D} (h : WtC Tryz.prog 24 l) : ∃ x : (List GExpr), l = (cSl 10 cGExpr) x := (DS22_all _ l (Nat.le_refl _)).2.2.1 h
theorem de25 {l : List D} (h : WtC Tryz.prog 25 l) : ∃ x : (List GSortKey), l = (cSl 11 cGSortKey) x := (DS22_all _ l (Nat.le_refl _)).2.2.2.1 h
theorem de72 {l : List D} (h : WtC Tryz.prog 72 l) : ∃ x : (List GQuery), l = (cSl 6 cGQuery) x := (DS22_all _ l (Nat.le_refl _)).2.2.2.2 h
theorem de74 {l : List D} (h : WtC Tryz.prog 74 l) : ∃ x : GExpr, l = cGExpr x := de74_ (DS22_all _) h
theorem de116 {l : List D} (h : WtC Tryz.prog 116 l) : ∃ x : GSortKey, l = cGSortKey x := de116_ (DS22_all _) h
theorem de113 {l : List D} (h : WtC Tryz.prog 113 l) : ∃ x : GSource, l = cGSource x := de113_ (DS22_all _) h
theorem de110 {l : List D} (h : WtC Tryz.prog 110 l) : ∃ x : GItem, l = cGItem x := de110_ (DS22_all _) h
theorem de27 {l : List D} (h : WtC Tryz.prog 27 l) : ∃ x : GQuery, l = cGQuery x := de27_ (DS22_all _) h
theorem de28 {l : List D} (h : WtC Tryz.prog 28 l) : ∃ x : (List (List GExpr)), l = (cSl 1 (cSl 10 cGExpr)) x := (wt_sl h (e := 24) (n := 1) (c := (cSl 10 cGExpr)) (by kernel_rfl) (by kernel_rfl) fun x hx => de24 hx)
theorem de29 {l : List D} (h : WtC Tryz.prog 29 l) : ∃ x : (List (List UInt8)), l = (cSl 1 cStr) x := (wt_sl h (e := 9) (n := 1) (c := cStr) (by kernel_rfl) (by kernel_rfl) fun x hx => de9 hx)
theorem de31 {l : List D} (h : WtC Tryz.prog 31 l) : ∃ x : GStmt, l = cGStmt x := by
  obtain ⟨x0, e0⟩ := de3 (wt_fld h 0 (off := 0) (n := 1) (by kernel_rfl))
  obtain ⟨x1, e1⟩ := de27 (wt_fld h 1 (off := 1) (n := 6) (by kernel_rfl))
  rw [cGQuery_eq] at e1
  obtain ⟨x2, e2⟩ := de9 (wt_fld h 2 (off := 7) (n := 1) (by kernel_rfl))
  obtain ⟨x3, e3⟩ := de28 (wt_fld h 3 (off := 8) (n := 1) (by kernel_rfl))
  obtain ⟨x4, e4⟩ := de29 (wt_fld h 4 (off := 9) (n := 1) (by kernel_rfl))
  obtain ⟨x5, e5⟩ := de24 (wt_fld h 5 (off := 10) (n := 1) (by kernel_rfl))
  obtain ⟨x6, e6⟩ := de24 (wt_fld h 6 (off := 11) (n := 1) (by kernel_rfl))
  exact ⟨⟨x0, x1, x2, x3, x4, x5, x6⟩, (dr1 (m := 1) (by kernel_rfl) e0 (dr1 (m := 7) (by kernel_rfl) e1 (dr1 (m := 8) (by kernel_rfl) e2 (dr1 (m := 9) (by kernel_rfl) e3 (dr1 (m := 10) (by kernel_rfl) e4 (dr1 (m := 11) (by kernel_rfl) e5 (dr1 (m := 12) (by kernel_rfl) e6 (dr0 (wt_len h (n := 12) (by kernel_rfl))))))))))⟩
theorem OK_iStmtOk_1 (p0 : (List GExpr)) : FOk Tryz.prog 29 [(.d (.sl 10 (p0.map cGExpr)))] (fun y => (vB y)) (iStmtOk_1 p0) := by
 intro r h
 rw [iStmtOk_1] at h
 refine aof triStmtOk_1 ?_
 show avc Tryz.prog aciStmtOk_1 (qiStmtOk_1 _) ⟨[(0, (.d (.sl 10 (p0.map cGExpr))))], []⟩
 delta aciStmtOk_1
 refine so ?_
 let a0 : St := ⟨[(2, (vB false)), (0, (.d (.sl 10 (p0.map cGExpr))))], []⟩
 refine st 1 a0 (nx (so ?_))
 let a1 : St := a0.p [(3, (.d (.sl 10 (p0.map cGExpr))))]
 refine st 1 a1 (ps (vI (ln p0)) (vln (sz := 10) (l := p0) (f := cGExpr)) ?_)
 let a2 : St := a1.p [(6, (vB (decide ((ln p0) < 1)))), (5, (vB (decide ((ln p0) < 1)))), (4, (vI (ln p0)))]
 refine st 2 a2 (gp true (decide ((ln p0) < 1)) (.d (.sl 10 (p0.map cGExpr))) (fun hc => vl) (gp true (decide ((ln p0) < 1)) (vI (ln p0)) (fun hc => vop_len (sz := 10) (l := p0) (f := cGExpr) (Eq.trans (b := ([(true && ((decide ((ln p0) < 1)) == false))] : List Bool).all id) (by kernel_rfl) (all_c hc rfl)) (by kernel_rfl)) ?_))
 refine gp true (decide ((ln p0) < 1)) (vB (decide (12 < (ln p0)))) (fun hc => vg hc) (vs (fun (y : Bool) => (vB y)) h (fun y hy => vop_pickV hy (p := true) (q := (true && ((decide ((ln p0) < 1)) == false))) (by kernel_rfl) (by kernel_rfl) (by kernel_rfl) (by kernel_rfl) (fun _ => rfl) (fun hb => gc_f rfl hb)) fun y1 h => ?_)
 let a3 : St := a2.p [(2, (vB y1)), (10, (vB y1)), (9, (.ite (true && ((decide ((ln p0) < 1)) == false)) (vB (decide (12 < (ln p0)))))), (8, (.ite (true && ((decide ((ln p0) < 1)) == false)) (vI (ln p0)))), (7, (.ite (true && ((decide ((ln p0) < 1)) == false)) (.d (.sl 10 (p0.map cGExpr)))))]
 refine st 1 a3 (nx (ri ?_))
 injection h with h; subst h
 exact r1 (v := (vB y1))
theorem OKs_gZ10_L0 (p0 : (List (List GExpr))) : (∀ (x8 : Int) (r : Int), gZ10_L0 p0 x8 = some r → avc Tryz.prog acgZ10_L0 (qgZ10_1 r) (stgZ10_L0 p0 x8)) := by
 refine gZ10_L0.partial_correctness p0 (fun x8 r => avc Tryz.prog acgZ10_L0 (qgZ10_1 r) (stgZ10_L0 p0 x8)) ?_
 · intro F_gZ10_L0 OK_gZ10_L0 x8 r h
   delta acgZ10_L0
   refine loop_unroll (so ?_)
   let a3 : St := (stgZ10_L0 p0 x8).p [(9, (vB (decide (x8 < (ln p0)))))]
   refine st 1 a3 (nx (si ?_))
   refine cd h (fun h => ?_) fun h => ?_
   refine ki (xi (si (bi (so ?_))))
   let a4 : St := a3.p [(5, (vI x8)), (10, (vI x8))]
   refine st 2 a4 (nx (so ?_))
   let a5 : St := a4.p [(13, (vI x8)), (12, (.d (.sl 1 (p0.map (cSl 10 cGExpr))))), (11, (.fn 29 []))]
   refine st 3 a5 (vs (fun (y : (List GExpr)) => (.rp [(.sl 10 (y.map cGExpr))])) h (fun y hy => via (l := p0) (f := (cSl 10 cGExpr)) (g := (cSl 10 cGExpr)) (k := .i64) hy (fun _ => rfl)) fun y1 h => ?_)
   let a6 : St := a5.p [(15, (.d (.sl 10 (y1.map cGExpr)))), (14, (.rp [(.sl 10 (y1.map cGExpr))]))]
   refine st 1 a6 (callv_step (m := iStmtOk_1 y1) (caps := []) (args := [(.d (.sl 10 (y1.map cGExpr)))]) (v' := (fun y => (vB y))) h (by kernel_rfl) (by kernel_rfl) (OK_iStmtOk_1 y1) (by kernel_rfl) (by kernel_rfl) (fun _ => rfl) ?_)
   clear h; intro y2 h
   refine nx ?_
   refine cd h (fun h => ?_) fun h => ?_
   refine so ?_
   let a7 : St := a6.p [(4, (vI x8)), (17, (vI x8)), (16, (vB y2))]
   refine st 2 a7 (nx (ri (br (tr (tr (br (tr ?_)))))))
   injection h with h; subst h
   exact r1 (v := (vI x8))
   refine ki (bn (xi (oi ?_)))
   let a8 : St := a6.p [(8, (vI (IntKind.wrap .i64 (x8 + 1)))), (18, (vI (IntKind.wrap .i64 (x8 + 1)))), (16, (vB y2))]
   exact st 2 a8 (ni (loop_back (s' := stgZ10_L0 p0 (IntKind.wrap .i64 (x8 + 1))) (wr [] (es (es (es (es er_nil)))) br_nil) (OK_gZ10_L0 (IntKind.wrap .i64 (x8 + 1)) _ h)))
   refine ei (te (te (bh (xi (so ?_)))))
   let a9 : St := a3.p [(4, (vI (-1)))]
   refine st 1 a9 (nx (ri ?_))
   injection h with h; subst h
   exact r1 (v := (vI (-1)))
theorem OK_gZ10_L0 (p0 : (List (List GExpr))) (x8 : Int) (r : Int) (h : gZ10_L0 p0 x8 = some r) : avc Tryz.prog acgZ10_L0 (qgZ10_1 r) (stgZ10_L0 p0 x8) := (OKs_gZ10_L0 p0) x8 r h
theorem OK_gZ10 (p0 : (List (List GExpr))) : FOk Tryz.prog 69 [(.d (.sl 1 (p0.map (cSl 10 cGExpr)))), (.fn 29 [])] (fun y => (vI y)) (gZ10 p0) := by
 intro r h
 rw [gZ10] at h
 refine aof trgZ10 ?_
 show avc Tryz.prog acgZ10 (qgZ10 _) ⟨[(0, (.d (.sl 1 (p0.map (cSl 10 cGExpr))))), (1, (.fn 29 []))], []⟩
 delta acgZ10
 refine so ?_
 let a0 : St := ⟨[(4, (vI 0)), (0, (.d (.sl 1 (p0.map (cSl 10 cGExpr))))), (1, (.fn 29 []))], []⟩
 refine st 1 a0 (nx (si (so ?_)))
 let a1 : St := a0.p [(6, (.d (.sl 1 (p0.map (cSl 10 cGExpr)))))]
 refine st 1 a1 (ps (vI (ln p0)) (vln (sz := 1) (l := p0) (f := (cSl 10 cGExpr))) ?_)
 let a2 : St := a1.p [(8, (vI 0)), (7, (vI (ln p0)))]
 exact st 1 a2 (nx (bi (loop_go (s' := stgZ10_L0 p0 0) (wr [] (es (es (es (es er_nil)))) br_nil) (OK_gZ10_L0 p0 0 _ h))))
theorem OK_gZ7 (p0 : (List (List GExpr))) : FOk Tryz.prog 28 [(.d (.sl 1 (p0.map (cSl 10 cGExpr)))), (.fn 29 [])] (fun y => (vB y)) (gZ7 p0) := by
 intro r h
 rw [gZ7] at h
 refine aof trgZ7 ?_
 show avc Tryz.prog acgZ7 (qgZ7 _) ⟨[(0, (.d (.sl 1 (p0.map (cSl 10 cGExpr))))), (1, (.fn 29 []))], []⟩
 delta acgZ7
 refine so ?_
 let a0 : St := ⟨[(4, (vB false)), (0, (.d (.sl 1 (p0.map (cSl 10 cGExpr))))), (1, (.fn 29 []))], []⟩
 refine st 1 a0 (nx (so ?_))
 let a1 : St := a0.p [(6, (.fn 29 [])), (5, (.d (.sl 1 (p0.map (cSl 10 cGExpr)))))]
 refine st 2 a1 (cs h (OK_gZ10 p0) fun y1 h => ?_)
 let a2 : St := a1.p [(4, (vB (decide (0 ≤ y1)))), (8, (vB (decide (0 ≤ y1)))), (7, (vI y1))]
 refine st 2 a2 (nx (ri ?_))
 injection h with h; subst h
 exact r1 (v := (vB (decide (0 ≤ y1))))
theorem OK_iNameOk (p0 : (List UInt8)) : FOk Tryz.prog 25 [(vS p0)] (fun y => (vB y)) (iNameOk p0) := by
 intro r h
 rw [iNameOk] at h
 refine aof triNameOk ?_
 show avc Tryz.prog aciNameOk (qiNameOk _) ⟨[(0, (vS p0))], []⟩
 delta aciNameOk
 refine so ?_
 let a0 : St := ⟨[(2, (vB false)), (0, (vS p0))], []⟩
 refine st 1 a0 (nx (so ?_))
 let a1 : St := a0.p [(6, (vB (decide (1 ≤ (ln p0))))), (5, (vB (decide (1 ≤ (ln p0))))), (4, (vI (ln p0))), (3, (vS p0))]
 refine st 4 a1 (gp true (decide (1 ≤ (ln p0))) (vS p0) (fun hc => vl) (gp true (decide (1 ≤ (ln p0))) (vI (ln p0)) (fun hc => vg hc) (gp true (decide (1 ≤ (ln p0))) (vB (decide ((ln p0) ≤ 20))) (fun hc => vg hc) ?_)))
 refine vs (fun (y : Bool) => (vB y)) h (fun y hy => vop_pickV hy (p := (true && ((decide (1 ≤ (ln p0))) == true))) (q := true) (by kernel_rfl) (by kernel_rfl) (by kernel_rfl) (by kernel_rfl) (fun hb => gc_t rfl hb) (fun _ => rfl)) fun y1 h => ?_
 let a2 : St := a1.p [(2, (vB y1)), (10, (vB y1)), (9, (.ite (true && ((decide (1 ≤ (ln p0))) == true)) (vB (decide ((ln p0) ≤ 20))))), (8, (.ite (true && ((decide (1 ≤ (ln p0))) == true)) (vI (ln p0)))), (7, (.ite (true && ((decide (1 ≤ (ln p0))) == true)) (vS p0)))]
 refine st 1 a2 (nx (ri ?_))
 injection h with h; subst h
 exact r1 (v := (vB y1))
theorem OK_iStmtOk_2 (p0 : (List UInt8)) : FOk Tryz.prog 31 [(vS p0)] (fun y => (vB y)) (iStmtOk_2 p0) := by
 intro r h
 rw [iStmtOk_2] at h
 refine aof triStmtOk_2 ?_
 show avc Tryz.prog aciStmtOk_2 (qiStmtOk_2 _) ⟨[(0, (vS p0))], []⟩
 delta aciStmtOk_2
 refine so ?_
 let a0 : St := ⟨[(2, (vB false)), (0, (vS p0))], []⟩
 refine st 1 a0 (nx (so ?_))
 let a1 : St := a0.p [(3, (vS p0))]
 refine st 1 a1 (cs h (OK_iNameOk p0) fun y1 h => ?_)
 let a2 : St := a1.p [(2, (vB (!y1))), (5, (vB (!y1))), (4, (vB y1))]
 refine st 2 a2 (nx (ri ?_))
 injection h with h; subst h
 exact r1 (v := (vB (!y1)))
theorem OKs_gZ12_L0 (p0 : (List (List UInt8))) : (∀ (x8 : Int) (r : Int), gZ12_L0 p0 x8 = some r → avc Tryz.prog acgZ12_L0 (qgZ12_1 r) (stgZ12_L0 p0 x8)) := by
 refine gZ12_L0.partial_correctness p0 (fun x8 r => avc Tryz.prog acgZ12_L0 (qgZ12_1 r) (stgZ12_L0 p0 x8)) ?_
 · intro F_gZ12_L0 OK_gZ12_L0 x8 r h
   delta acgZ12_L0
   refine loop_unroll (so ?_)
   let a3 : St := (stgZ12_L0 p0 x8).p [(9, (vB (decide (x8 < (ln p0)))))]
   refine st 1 a3 (nx (si ?_))
   refine cd h (fun h => ?_) fun h => ?_
   refine ki (xi (si (bi (so ?_))))
   let a4 : St := a3.p [(5, (vI x8)), (10, (vI x8))]
   refine st 2 a4 (nx (so ?_))
   let a5 : St := a4.p [(13, (vI x8)), (12, (.d (.sl 1 (p0.map cStr)))), (11, (.fn 31 []))]
   refine st 3 a5 (vs (fun (y : (List UInt8)) => (.rp [(.s (bs y))])) h (fun y hy => via (l := p0) (f := cStr) (g := cStr) (k := .i64) hy (fun _ => rfl)) fun y1 h => ?_)
   let a6 : St := a5.p [(15, (vS y1)), (14, (.rp [(.s (bs y1))]))]
   refine st 1 a6 (callv_step (m := iStmtOk_2 y1) (caps := []) (args := [(vS y1)]) (v' := (fun y => (vB y))) h (by kernel_rfl) (by kernel_rfl) (OK_iStmtOk_2 y1) (by kernel_rfl) (by kernel_rfl) (fun _ => rfl) ?_)
   clear h; intro y2 h
   refine nx ?_
   refine cd h (fun h => ?_) fun h => ?_
   refine so ?_
   let a7 : St := a6.p [(4, (vI x8)), (17, (vI x8)), (16, (vB y2))]
   refine st 2 a7 (nx (ri (br (tr (tr (br (tr ?_)))))))
   injection h with h; subst h
   exact r1 (v := (vI x8))
   refine ki (bn (xi (oi ?_)))
   let a8 : St := a6.p [(8, (vI (IntKind.wrap .i64 (x8 + 1)))), (18, (vI (IntKind.wrap .i64 (x8 + 1)))), (16, (vB y2))]
   exact st 2 a8 (ni (loop_back (s' := stgZ12_L0 p0 (IntKind.wrap .i64 (x8 + 1))) (wr [] (es (es (es (es er_nil)))) br_nil) (OK_gZ12_L0 (IntKind.wrap .i64 (x8 + 1)) _ h)))
   refine ei (te (te (bh (xi (so ?_)))))
   let a9 : St := a3.p [(4, (vI (-1)))]
   refine st 1 a9 (nx (ri ?_))
   injection h with h; subst h
   exact r1 (v := (vI (-1)))
theorem OK_gZ12_L0 (p0 : (List (List UInt8))) (x8 : Int) (r : Int) (h : gZ12_L0 p0 x8 = some r) : avc Tryz.prog acgZ12_L0 (qgZ12_1 r) (stgZ12_L0 p0 x8) := (OKs_gZ12_L0 p0) x8 r h
theorem OK_gZ12 (p0 : (List (List UInt8))) : FOk Tryz.prog 70 [(.d (.sl 1 (p0.map cStr))), (.fn 31 [])] (fun y => (vI y)) (gZ12 p0) := by
 intro r h
 rw [gZ12] at h
 refine aof trgZ12 ?_
 show avc Tryz.prog acgZ12 (qgZ12 _) ⟨[(0, (.d (.sl 1 (p0.map cStr)))), (1, (.fn 31 []))], []⟩
 delta acgZ12
 refine so ?_
 let a0 : St := ⟨[(4, (vI 0)), (0, (.d (.sl 1 (p0.map cStr)))), (1, (.fn 31 []))], []⟩
 refine st 1 a0 (nx (si (so ?_)))
 let a1 : St := a0.p [(6, (.d (.sl 1 (p0.map cStr))))]
 refine st 1 a1 (ps (vI (ln p0)) (vln (sz := 1) (l := p0) (f := cStr)) ?_)
 let a2 : St := a1.p [(8, (vI 0)), (7, (vI (ln p0)))]
 exact st 1 a2 (nx (bi (loop_go (s' := stgZ12_L0 p0 0) (wr [] (es (es (es (es er_nil)))) br_nil) (OK_gZ12_L0 p0 0 _ h))))
theorem OK_gZ11 (p0 : (List (List UInt8))) : FOk Tryz.prog 30 [(.d (.sl 1 (p0.map cStr))), (.fn 31 [])] (fun y => (vB y)) (gZ11 p0) := by
 intro r h
 rw [gZ11] at h
 refine aof trgZ11 ?_
 show avc Tryz.prog acgZ11 (qgZ11 _) ⟨[(0, (.d (.sl 1 (p0.map cStr)))), (1, (.fn 31 []))], []⟩
 delta acgZ11
 refine so ?_
 let a0 : St := ⟨[(4, (vB false)), (0, (.d (.sl 1 (p0.map cStr)))), (1, (.fn 31 []))], []⟩
 refine st 1 a0 (nx (so ?_))
 let a1 : St := a0.p [(6, (.fn 31 [])), (5, (.d (.sl 1 (p0.map cStr))))]
 refine st 2 a1 (cs h (OK_gZ12 p0) fun y1 h => ?_)
 let a2 : St := a1.p [(4, (vB (decide (0 ≤ y1)))), (8, (vB (decide (0 ≤ y1)))), (7, (vI y1))]
 refine st 2 a2 (nx (ri ?_))
 injection h with h; subst h
 exact r1 (v := (vB (decide (0 ≤ y1))))
theorem OK_iIsAs (p0 : (List UInt8)) : FOk Tryz.prog 55 [(vS p0)] (fun y => (vB y)) (iIsAs p0) := by
 intro r h
 rw [iIsAs] at h
 refine aof triIsAs ?_
 show avc Tryz.prog aciIsAs (qiIsAs _) ⟨[(0, (vS p0))], []⟩
 delta aciIsAs
 refine so ?_
 let a0 : St := ⟨[(2, (vB false)), (0, (vS p0))], []⟩
 refine st 1 a0 (nx (so ?_))
 let a1 : St := a0.p [(5, (vB (decide (p0 = [])))), (4, (vB (decide (p0 = [])))), (3, (vS p0))]
 refine st 3 a1 (gp true (decide (p0 = [])) (vS p0) (fun hc => vl) ?_)
 refine gcall_step (p := true) (b := (decide (p0 = []))) (m := iNameOk p0) (dflt := default) (args := [(vS p0)]) (v' := (fun y => (vB y))) h (by kernel_rfl) (OK_iNameOk p0) (fun hc => by kernel_rfl) (by kernel_rfl) (fun _ => rfl) (fun hc => (Eq.trans (b := ([(true && ((decide (p0 = [])) == false))] : List Bool).all id) (by kernel_rfl) (all_c hc rfl))) ?_
 clear h; intro y1 h
 refine vs (fun (y : Bool) => (vB y)) h (fun y hy => vop_pickV hy (p := true) (q := (true && ((decide (p0 = [])) == false))) (by kernel_rfl) (by kernel_rfl) (by kernel_rfl) (by kernel_rfl) (fun _ => rfl) (fun hb => gc_f rfl hb)) fun y2 h => ?_
 let a2 : St := a1.p [(2, (vB y2)), (8, (vB y2)), (7, (.ite (true && ((decide (p0 = [])) == false)) (vB y1))), (6, (.ite (true && ((decide (p0 = [])) == false)) (vS p0)))]
 refine st 1 a2 (nx (ri ?_))
 injection h with h; subst h
 exact r1 (v := (vB y2))
theorem OKs_iQuery_exprs_L3 (p0 : GQuery) : (∀ (x3_8 : (List GExpr)) (x46 : Int) (r : (List GExpr)), iQuery_exprs_L3 p0 x3_8 x46 = some r → avc Tryz.prog aciQuery_exprs_L3 (qiQuery_exprs_6 r) (stiQuery_exprs_L3 p0 x3_8 x46)) := by
 refine iQuery_exprs_L3.partial_correctness p0 (fun x3_8 x46 r => avc Tryz.prog aciQuery_exprs_L3 (qiQuery_exprs_6 r) (stiQuery_exprs_L3 p0 x3_8 x46)) ?_
 · intro F_iQuery_exprs_L3 OK_iQuery_exprs_L3 x3_8 x46 r h
   delta aciQuery_exprs_L3
   refine loop_unroll (so ?_)
   let a21 : St := (stiQuery_exprs_L3 p0 x3_8 x46).p [(47, (vB (decide (x46 < (ln p0.order)))))]
   refine st 1 a21 (nx (si ?_))
   refine cd h (fun h => ?_) fun h => ?_
   refine ki (xi (si (bi (so (vs (fun (y : GSortKey) => (.rp (oGSortKey y))) h (fun y hy => via (l := p0.order) (f := cGSortKey) (g := oGSortKey) (k := .i64) hy cGSortKey_eq) fun y9 h => ?_)))))
   let a22 : St := ⟨(9, (.ptr 9 0)) :: (49, (vGSortKey y9)) :: (48, (.rp (oGSortKey y9))) :: a21.env, [(9, bGSortKey y9)]⟩
   refine st 3 a22 (nx (oi ?_))
   let a23 : St := a22.p [(52, (vGExpr y9.expr)), (51, (.ptr 9 0)), (50, (.osl 3 82 10 (x3_8.map cGExpr)))]
   refine st 3 a23 (bsl_step (l := ([y9.expr] : List GExpr)) (f := cGExpr) (g := oGExpr) (by kernel_rfl) cGExpr_eq (by kernel_rfl) ?_)
   refine app_step (t := 3) (l := x3_8) (m := ([y9.expr] : List GExpr)) (f := cGExpr) (S' := fun y => ⟨[(54, (.osl 54 82 10 (y.map cGExpr))), (53, (.osl 53 82 10 (([y9.expr] : List GExpr).map cGExpr))), (52, (vGExpr y9.expr)), (51, (.ptr 9 0)), (50, (.d (.sl 10 (x3_8.map cGExpr)))), (9, (.ptr 9 0)), (49, (vGSortKey y9)), (48, (.rp (oGSortKey y9))), (47, (vB (decide (x46 < (ln p0.order))))), (3, (.d (.sl 10 (x3_8.map cGExpr)))), (44, (.d (.sl 11 (p0.order.map cGSortKey)))), (45, (vI (ln p0.order))), (46, (vI x46))], [(9, bGSortKey y9)]⟩) h (by kernel_rfl) (by kernel_rfl) (by kernel_rfl) (by kernel_rfl) (fun y => by kernel_rfl) ?_
   clear h; intro y10 h
   let a24 : St := ⟨[(3, (.osl 3 82 10 (y10.map cGExpr))), (54, (.d (.sl 10 (y10.map cGExpr)))), (53, (.osl 53 82 10 (([y9.expr] : List GExpr).map cGExpr))), (52, (vGExpr y9.expr)), (51, (.ptr 9 0)), (50, (.d (.sl 10 (x3_8.map cGExpr)))), (9, (.ptr 9 0)), (49, (vGSortKey y9)), (48, (.rp (oGSortKey y9))), (47, (vB (decide (x46 < (ln p0.order))))), (3, (.d (.sl 10 (x3_8.map cGExpr)))), (44, (.d (.sl 11 (p0.order.map cGSortKey)))), (45, (vI (ln p0.order))), (46, (vI x46))], [(9, bGSortKey y9)]⟩
   refine st 1 a24 (ni (bn (xi (oi ?_))))
   let a25 : St := a24.p [(46, (vI (IntKind.wrap .i64 (x46 + 1)))), (55, (vI (IntKind.wrap .i64 (x46 + 1))))]
   exact st 2 a25 (ni (loop_back (s' := stiQuery_exprs_L3 p0 y10 (IntKind.wrap .i64 (x46 + 1))) (wr [(3, .old 3)] (eo 3 (es (es (es er_nil)))) br_nil) (OK_iQuery_exprs_L3 y10 (IntKind.wrap .i64 (x46 + 1)) _ h)))
   refine ei (te (te (bh (xi (so ?_)))))
   let a26 : St := ⟨[(2, (.osl 2 82 10 (x3_8.map cGExpr))), (56, (.d (.sl 10 (x3_8.map cGExpr)))), (47, (vB (decide (x46 < (ln p0.order))))), (3, (.d (.sl 10 (x3_8.map cGExpr)))), (44, (.d (.sl 11 (p0.order.map cGSortKey)))), (45, (vI (ln p0.order))), (46, (vI x46))], []⟩
   refine st 2 a26 (nx (ret_wk (s' := ⟨[(2, (.osl 2000000 82 10 (x3_8.map cGExpr)))], []⟩) (wr [(2000000, .old 2)] (eo 2 er_nil) br_nil) ?_))
   injection h with h; subst h
   exact ret1_step (v := (.osl 2000000 82 10 (x3_8.map cGExpr))) (by kernel_rfl) (by kernel_rfl) ⟨by kernel_rfl, trivial⟩
theorem OK_iQuery_exprs_L3 (p0 : GQuery) (x3_8 : (List GExpr)) (x46 : Int) (r : (List GExpr)) (h : iQuery_exprs_L3 p0 x3_8 x46 = some r) : avc Tryz.prog aciQuery_exprs_L3 (qiQuery_exprs_6 r) (stiQuery_exprs_L3 p0 x3_8 x46) := (OKs_iQuery_exprs_L3 p0) x3_8 x46 r h
theorem OKs_iQuery_exprs_L2 (p0 : GQuery) : (∀ (x3_4 : (List GExpr)) (x30 : Int) (r : (List GExpr)), iQuery_exprs_L2 p0 x3_4 x30 = some r → avc Tryz.prog aciQuery_exprs_L2 (qiQuery_exprs_4 r) (stiQuery_exprs_L2 p0 x3_4 x30)) := by
 refine iQuery_exprs_L2.partial_correctness p0 (fun x3_4 x30 r => avc Tryz.prog aciQuery_exprs_L2 (qiQuery_exprs_4 r) (stiQuery_exprs_L2 p0 x3_4 x30)) ?_
 · intro F_iQuery_exprs_L2 OK_iQuery_exprs_L2 x3_4 x30 r h
   delta aciQuery_exprs_L2
   refine loop_unroll (so ?_)
   let a12 : St := (stiQuery_exprs_L2 p0 x3_4 x30).p [(31, (vB (decide (x30 < (ln p0.from_)))))]
   refine st 1 a12 (nx (si ?_))
   refine cd h (fun h => ?_) fun h => ?_
   refine ki (xi (si (bi (so (vs (fun (y : GSource) => (.rp (oGSource y))) h (fun y hy => via (l := p0.from_) (f := cGSource) (g := oGSource) (k := .i64) hy cGSource_eq) fun y5 h => ?_)))))
   let a13 : St := ⟨(7, (.ptr 7 0)) :: (33, (vGSource y5)) :: (32, (.rp (oGSource y5))) :: a12.env, [(7, bGSource y5), (1, bGQuery p0)]⟩
   refine st 3 a13 (nx (oi ?_))
   let a14 : St := a13.p [(36, (.d (.sl 10 (y5.on_.map cGExpr)))), (35, (.ptr 7 2)), (34, (.osl 3 82 10 (x3_4.map cGExpr)))]
   refine st 3 a14 ?_
   refine app_step (t := 3) (l := x3_4) (m := y5.on_) (f := cGExpr) (S' := fun y => ⟨[(37, (.osl 37 82 10 (y.map cGExpr))), (36, (.d (.sl 10 (y5.on_.map cGExpr)))), (35, (.ptr 7 2)), (34, (.d (.sl 10 (x3_4.map cGExpr)))), (7, (.ptr 7 0)), (33, (vGSource y5)), (32, (.rp (oGSource y5))), (31, (vB (decide (x30 < (ln p0.from_))))), (1, (.ptr 1 0)), (3, (.d (.sl 10 (x3_4.map cGExpr)))), (28, (.d (.sl 3 (p0.from_.map cGSource)))), (29, (vI (ln p0.from_))), (30, (vI x30))], [(7, bGSource y5), (1, bGQuery p0)]⟩) h (by kernel_rfl) (by kernel_rfl) (by kernel_rfl) (by kernel_rfl) (fun y => by kernel_rfl) ?_
   clear h; intro y6 h
   let a15 : St := ⟨[(3, (.osl 3 82 10 (y6.map cGExpr))), (37, (.d (.sl 10 (y6.map cGExpr)))), (36, (.d (.sl 10 (y5.on_.map cGExpr)))), (35, (.ptr 7 2)), (34, (.d (.sl 10 (x3_4.map cGExpr)))), (7, (.ptr 7 0)), (33, (vGSource y5)), (32, (.rp (oGSource y5))), (31, (vB (decide (x30 < (ln p0.from_))))), (1, (.ptr 1 0)), (3, (.d (.sl 10 (x3_4.map cGExpr)))), (28, (.d (.sl 3 (p0.from_.map cGSource)))), (29, (vI (ln p0.from_))), (30, (vI x30))], [(7, bGSource y5), (1, bGQuery p0)]⟩
   refine st 1 a15 (ni (bn (xi (oi ?_))))
   let a16 : St := a15.p [(30, (vI (IntKind.wrap .i64 (x30 + 1)))), (38, (vI (IntKind.wrap .i64 (x30 + 1))))]
   exact st 2 a16 (ni (loop_back (s' := stiQuery_exprs_L2 p0 y6 (IntKind.wrap .i64 (x30 + 1))) (wr [(3, .old 3)] (es (eo 3 (es (es (es er_nil))))) (bs_ br_nil)) (OK_iQuery_exprs_L2 y6 (IntKind.wrap .i64 (x30 + 1)) _ h)))
   refine ei (te (te (bh (xi (so ?_)))))
   let a17 : St := a12.p [(41, (.d (.sl 10 (p0.where_.map cGExpr)))), (40, (.ptr 1 3)), (39, (.osl 3 82 10 (x3_4.map cGExpr)))]
   refine st 3 a17 ?_
   refine app_step (t := 3) (l := x3_4) (m := p0.where_) (f := cGExpr) (S' := fun y => ⟨[(42, (.osl 42 82 10 (y.map cGExpr))), (41, (.d (.sl 10 (p0.where_.map cGExpr)))), (40, (.ptr 1 3)), (39, (.d (.sl 10 (x3_4.map cGExpr)))), (31, (vB (decide (x30 < (ln p0.from_))))), (1, (.ptr 1 0)), (3, (.d (.sl 10 (x3_4.map cGExpr)))), (28, (.d (.sl 3 (p0.from_.map cGSource)))), (29, (vI (ln p0.from_))), (30, (vI x30))], [(1, bGQuery p0)]⟩) h (by kernel_rfl) (by kernel_rfl) (by kernel_rfl) (by kernel_rfl) (fun y => by kernel_rfl) ?_
   clear h; intro y7 h
   let a18 : St := ⟨[(3, (.osl 3 82 10 (y7.map cGExpr))), (42, (.d (.sl 10 (y7.map cGExpr)))), (41, (.d (.sl 10 (p0.where_.map cGExpr)))), (40, (.ptr 1 3)), (39, (.d (.sl 10 (x3_4.map cGExpr)))), (31, (vB (decide (x30 < (ln p0.from_))))), (1, (.ptr 1 0)), (3, (.d (.sl 10 (x3_4.map cGExpr)))), (28, (.d (.sl 3 (p0.from_.map cGSource)))), (29, (vI (ln p0.from_))), (30, (vI x30))], [(1, bGQuery p0)]⟩
   refine st 1 a18 (nx (si (so ?_)))
   let a19 : St := a18.p [(44, (.d (.sl 11 (p0.order.map cGSortKey)))), (43, (.ptr 1 4))]
   refine st 2 a19 (ps (vI (ln p0.order)) (vln (sz := 11) (l := p0.order) (f := cGSortKey)) ?_)
   let a20 : St := a19.p [(46, (vI 0)), (45, (vI (ln p0.order)))]
   exact st 1 a20 (nx (bi (loop_go (s' := stiQuery_exprs_L3 p0 y7 0) (wr [(3, .old 3)] (eo 3 (es (es (es er_nil)))) br_nil) (OK_iQuery_exprs_L3 p0 y7 0 _ h))))
theorem OK_iQuery_exprs_L2 (p0 : GQuery) (x3_4 : (List GExpr)) (x30 : Int) (r : (List GExpr)) (h : iQuery_exprs_L2 p0 x3_4 x30 = some r) : avc Tryz.prog aciQuery_exprs_L2 (qiQuery_exprs_4 r) (stiQuery_exprs_L2 p0 x3_4 x30) := (OKs_iQuery_exprs_L2 p0) x3_4 x30 r h
theorem OKs_iQuery_exprs_J1 (p0 : GQuery) : (∀ (x14 : Int) (x3_3 : (List GExpr)) (r : (List GExpr)), iQuery_exprs_J1 p0 x14 x3_3 = some r → avc Tryz.prog aciQuery_exprs_J1 (qiQuery_exprs_2 r) (stiQuery_exprs_J1 p0 x14 x3_3)) ∧ (∀ (x3 : (List GExpr)) (x14 : Int) (r : (List GExpr)), iQuery_exprs_L0 p0 x3 x14 = some r → avc Tryz.prog aciQuery_exprs_L0 (qiQuery_exprs_1 r) (stiQuery_exprs_L0 p0 x3 x14)) := by
 refine iQuery_exprs_J1.mutual_partial_correctness p0 (fun x14 x3_3 r => avc Tryz.prog aciQuery_exprs_J1 (qiQuery_exprs_2 r) (stiQuery_exprs_J1 p0 x14 x3_3)) (fun x3 x14 r => avc Tryz.prog aciQuery_exprs_L0 (qiQuery_exprs_1 r) (stiQuery_exprs_L0 p0 x3 x14)) ?_ ?_
 · intro F_iQuery_exprs_L0 OK_iQuery_exprs_L0 x14 x3_3 r h
   delta aciQuery_exprs_J1
   refine oi ?_
   let a11 : St := (stiQuery_exprs_J1 p0 x14 x3_3).p [(14, (vI (IntKind.wrap .i64 (x14 + 1)))), (26, (vI (IntKind.wrap .i64 (x14 + 1))))]
   exact st 2 a11 (ni (loop_back (s' := stiQuery_exprs_L0 p0 x3_3 (IntKind.wrap .i64 (x14 + 1))) (wr [(3, .old 3)] (es (eo 3 (es (es (es er_nil))))) (bs_ br_nil)) (OK_iQuery_exprs_L0 x3_3 (IntKind.wrap .i64 (x14 + 1)) _ h)))
 · intro F_iQuery_exprs_J1 OK_iQuery_exprs_J1 x3 x14 r h
   delta aciQuery_exprs_L0
   refine loop_unroll (so ?_)
   let a4 : St := (stiQuery_exprs_L0 p0 x3 x14).p [(15, (vB (decide (x14 < (ln p0.items)))))]
   refine st 1 a4 (nx (si ?_))
   refine cd h (fun h => ?_) fun h => ?_
   refine ki (xi (si (bi (so (vs (fun (y : GItem) => (.rp (oGItem y))) h (fun y hy => via (l := p0.items) (f := cGItem) (g := oGItem) (k := .i64) hy cGItem_eq) fun y1 h => ?_)))))
   let a5 : St := ⟨(5, (.ptr 5 0)) :: (17, (vGItem y1)) :: (16, (.rp (oGItem y1))) :: a4.env, [(5, bGItem y1), (1, bGQuery p0)]⟩
   refine st 3 a5 (nx (so ?_))
   let a6 : St := a5.p [(20, (vB (!y1.star))), (19, (vB y1.star)), (18, (.ptr 5 0))]
   refine st 3 a6 (nx ?_)
   refine cd h (fun h => ?_) fun h => ?_
   refine oi ?_
   let a7 : St := a6.p [(23, (vGExpr y1.expr)), (22, (.ptr 5 2)), (21, (.osl 3 82 10 (x3.map cGExpr)))]
   refine st 3 a7 (bsl_step (l := ([y1.expr] : List GExpr)) (f := cGExpr) (g := oGExpr) (by kernel_rfl) cGExpr_eq (by kernel_rfl) ?_)
   refine app_step (t := 3) (l := x3) (m := ([y1.expr] : List GExpr)) (f := cGExpr) (S' := fun y => ⟨[(25, (.osl 25 82 10 (y.map cGExpr))), (24, (.osl 24 82 10 (([y1.expr] : List GExpr).map cGExpr))), (23, (vGExpr y1.expr)), (22, (.ptr 5 2)), (21, (.d (.sl 10 (x3.map cGExpr)))), (20, (vB (!y1.star))), (19, (vB y1.star)), (18, (.ptr 5 0)), (5, (.ptr 5 0)), (17, (vGItem y1)), (16, (.rp (oGItem y1))), (15, (vB (decide (x14 < (ln p0.items))))), (1, (.ptr 1 0)), (3, (.d (.sl 10 (x3.map cGExpr)))), (12, (.d (.sl 13 (p0.items.map cGItem)))), (13, (vI (ln p0.items))), (14, (vI x14))], [(5, bGItem y1), (1, bGQuery p0)]⟩) h (by kernel_rfl) (by kernel_rfl) (by kernel_rfl) (by kernel_rfl) (fun y => by kernel_rfl) ?_
   clear h; intro y2 h
   let a8 : St := ⟨[(3, (.osl 3 82 10 (y2.map cGExpr))), (25, (.d (.sl 10 (y2.map cGExpr)))), (24, (.osl 24 82 10 (([y1.expr] : List GExpr).map cGExpr))), (23, (vGExpr y1.expr)), (22, (.ptr 5 2)), (21, (.d (.sl 10 (x3.map cGExpr)))), (20, (vB (!y1.star))), (19, (vB y1.star)), (18, (.ptr 5 0)), (5, (.ptr 5 0)), (17, (vGItem y1)), (16, (.rp (oGItem y1))), (15, (vB (decide (x14 < (ln p0.items))))), (1, (.ptr 1 0)), (3, (.d (.sl 10 (x3.map cGExpr)))), (12, (.d (.sl 13 (p0.items.map cGItem)))), (13, (vI (ln p0.items))), (14, (vI x14))], [(5, bGItem y1), (1, bGQuery p0)]⟩
   exact st 1 a8 (ni (bn (next_step (s' := stiQuery_exprs_J1 p0 x14 y2) (wr [(3, .old 3)] (es (eo 3 (es (es (es er_nil))))) (bs_ br_nil)) (OK_iQuery_exprs_J1 x14 y2 _ h))))
   exact ki (bn (next_step (s' := stiQuery_exprs_J1 p0 x14 x3) (wr [(3, .old 3)] (es (eo 3 (es (es (es er_nil))))) (bs_ br_nil)) (OK_iQuery_exprs_J1 x14 x3 _ h)))
   refine ei (te (te (bh (xi (si (so ?_))))))
   let a9 : St := a4.p [(28, (.d (.sl 3 (p0.from_.map cGSource)))), (27, (.ptr 1 2))]
   refine st 2 a9 (ps (vI (ln p0.from_)) (vln (sz := 3) (l := p0.from_) (f := cGSource)) ?_)
   let a10 : St := a9.p [(30, (vI 0)), (29, (vI (ln p0.from_)))]
   exact st 1 a10 (nx (bi (loop_go (s' := stiQuery_exprs_L2 p0 x3 0) (wr [(3, .old 3)] (es (eo 3 (es (es (es er_nil))))) (bs_ br_nil)) (OK_iQuery_exprs_L2 p0 x3 0 _ h))))
theorem OK_iQuery_exprs_J1 (p0 : GQuery) (x14 : Int) (x3_3 : (List GExpr)) (r : (List GExpr)) (h : iQuery_exprs_J1 p0 x14 x3_3 = some r) : avc Tryz.prog aciQuery_exprs_J1 (qiQuery_exprs_2 r) (stiQuery_exprs_J1 p0 x14 x3_3) := (OKs_iQuery_exprs_J1 p0).1 x14 x3_3 r h
theorem OK_iQuery_exprs_L0 (p0 : GQuery) (x3 : (List GExpr)) (x14 : Int) (r : (List GExpr)) (h : iQuery_exprs_L0 p0 x3 x14 = some r) : avc Tryz.prog aciQuery_exprs_L0 (qiQuery_exprs_1 r) (stiQuery_exprs_L0 p0 x3 x14) := (OKs_iQuery_exprs_J1 p0).2 x3 x14 r h
theorem OK_iQuery_exprs (p0 : GQuery) : FOkB Tryz.prog 57 [(vGQuery p0)] [] (fun (y : (List GExpr)) => (.osl 2000000 82 10 (y.map cGExpr))) (fun (y : (List GExpr)) => []) (iQuery_exprs p0) := by
 intro r h
 rw [iQuery_exprs] at h
 refine aof triQuery_exprs ?_
 show avc Tryz.prog aciQuery_exprs (qiQuery_exprs _) ⟨[(0, (vGQuery p0))], []⟩
 delta aciQuery_exprs
 refine so ?_
 let a0 : St := ⟨[(2, (.nil 10)), (1, (.ptr 1 0)), (0, (vGQuery p0))], [(1, bGQuery p0)]⟩
 refine st 2 a0 (nx (so (bsl_step (l := ([] : List GExpr)) (f := cGExpr) (g := oGExpr) (by kernel_rfl) cGExpr_eq (by kernel_rfl) ?_)))
 let a1 : St := a0.p [(3, (.osl 3 82 10 (([] : List GExpr).map cGExpr))), (10, (.d (.sl 10 (([] : List GExpr).map cGExpr))))]
 refine st 1 a1 (nx (si (so ?_)))
 let a2 : St := a1.p [(12, (.d (.sl 13 (p0.items.map cGItem)))), (11, (.ptr 1 1))]
 refine st 2 a2 (ps (vI (ln p0.items)) (vln (sz := 13) (l := p0.items) (f := cGItem)) ?_)
 let a3 : St := a2.p [(14, (vI 0)), (13, (vI (ln p0.items)))]
 exact st 1 a3 (nx (bi (loop_go (s' := stiQuery_exprs_L0 p0 ([] : List GExpr) 0) (wr [(3, .old 3)] (es (eo 3 (es (es (es er_nil))))) (bs_ br_nil)) (OK_iQuery_exprs_L0 p0 ([] : List GExpr) 0 _ h))))
end Go.Proofs.YtdiknmniclancaaGreat
