/- That the code computes these functions (printed by a program). -/
import Derived.KernelRfl
import Derived.Test.YtdiknmniclancaaAbG2
import Derived.Test.YtdiknmniclancaaAbC3
import Derived.Test.YtdiknmniclancaaFExactStmtDepth
import Derived.Test.YtdiknmniclancaaProg
namespace Go.Proofs.Ytdiknmniclancaa
open Go Go.RowKit Go.Ab
def cI (n : Int) : List D := [.i .i64 n]
def cU8 (n : Int) : List D := [.i .u8 n]
def cU64 (n : Int) : List D := [.i .u64 n]
def cI32 (n : Int) : List D := [.i .i32 n]
def cU32 (n : Int) : List D := [.i .u32 n]
def cB (b : Bool) : List D := [.b b]
def cStr (s : List UInt8) : List D := [.s (bs s)]
def cSl {α : Type} (sz : Nat) (f : α → List D) (l : List α) : List D := [.sl sz (l.map f)]
def cGValue (x : GValue) : List D := [(.i .i64 x.kind), (.i .i64 x.num), (.s (bs x.text))]
def vGValue (x : GValue) : V := .agg (cGValue x)
def bGValue (x : GValue) : List V := (cGValue x).map V.d
mutual
def cGExpr : GExpr → List D
  | ⟨a0, a1, a2, a3, a4, a5, a6, a7⟩ => [(.i .i64 a0)] ++ [(.i .i64 a1)] ++ [(.b a2)] ++ cGValue a3 ++ [(.s (bs a4))] ++ [(.s (bs a5))] ++ [.sl 10 (cLGExpr a6)] ++ [.sl 6 (cLGQuery a7)]
def cGItem : GItem → List D
  | ⟨a0, a1, a2, a3⟩ => [(.b a0)] ++ [(.s (bs a1))] ++ cGExpr a2 ++ [(.s (bs a3))]
def cGQuery : GQuery → List D
  | ⟨a0, a1, a2, a3, a4, a5⟩ => [(.b a0)] ++ [.sl 13 (cLGItem a1)] ++ [.sl 3 (cLGSource a2)] ++ [.sl 10 (cLGExpr a3)] ++ [.sl 11 (cLGSortKey a4)] ++ [(.i .i64 a5)]
def cGSortKey : GSortKey → List D
  | ⟨a0, a1⟩ => cGExpr a0 ++ [(.b a1)]
def cGSource : GSource → List D
  | ⟨a0, a1, a2⟩ => [(.s (bs a0))] ++ [(.s (bs a1))] ++ [.sl 10 (cLGExpr a2)]
def cLGExpr : List GExpr → List (List D)
  | [] => []
  | x :: l => cGExpr x :: cLGExpr l
def cLGItem : List GItem → List (List D)
  | [] => []
  | x :: l => cGItem x :: cLGItem l
def cLGQuery : List GQuery → List (List D)
  | [] => []
  | x :: l => cGQuery x :: cLGQuery l
def cLGSortKey : List GSortKey → List (List D)
  | [] => []
  | x :: l => cGSortKey x :: cLGSortKey l
def cLGSource : List GSource → List (List D)
  | [] => []
  | x :: l => cGSource x :: cLGSource l
end
theorem cLGExpr_eq : ∀ l : List GExpr, cLGExpr l = l.map cGExpr
  | [] => by simp only [cLGExpr, List.map_nil]
  | x :: l => by simp only [cLGExpr, List.map_cons, cLGExpr_eq l]
theorem cLGItem_eq : ∀ l : List GItem, cLGItem l = l.map cGItem
  | [] => by simp only [cLGItem, List.map_nil]
  | x :: l => by simp only [cLGItem, List.map_cons, cLGItem_eq l]
theorem cLGQuery_eq : ∀ l : List GQuery, cLGQuery l = l.map cGQuery
  | [] => by simp only [cLGQuery, List.map_nil]
  | x :: l => by simp only [cLGQuery, List.map_cons, cLGQuery_eq l]
theorem cLGSortKey_eq : ∀ l : List GSortKey, cLGSortKey l = l.map cGSortKey
  | [] => by simp only [cLGSortKey, List.map_nil]
  | x :: l => by simp only [cLGSortKey, List.map_cons, cLGSortKey_eq l]
theorem cLGSource_eq : ∀ l : List GSource, cLGSource l = l.map cGSource
  | [] => by simp only [cLGSource, List.map_nil]
  | x :: l => by simp only [cLGSource, List.map_cons, cLGSource_eq l]
def oGExpr (x : GExpr) : List D := [(.i .i64 x.kind), (.i .i64 x.op), (.b x.not_), (.i .i64 x.value.kind), (.i .i64 x.value.num), (.s (bs x.value.text)), (.s (bs x.qual)), (.s (bs x.name)), (.sl 10 (x.kids.map cGExpr)), (.sl 6 (x.sub.map cGQuery))]
def oGItem (x : GItem) : List D := [(.b x.star), (.s (bs x.qual)), (.i .i64 x.expr.kind), (.i .i64 x.expr.op), (.b x.expr.not_), (.i .i64 x.expr.value.kind), (.i .i64 x.expr.value.num), (.s (bs x.expr.value.text)), (.s (bs x.expr.qual)), (.s (bs x.expr.name)), (.sl 10 (x.expr.kids.map cGExpr)), (.sl 6 (x.expr.sub.map cGQuery)), (.s (bs x.as_))]
def oGQuery (x : GQuery) : List D := [(.b x.distinct), (.sl 13 (x.items.map cGItem)), (.sl 3 (x.from_.map cGSource)), (.sl 10 (x.where_.map cGExpr)), (.sl 11 (x.order.map cGSortKey)), (.i .i64 x.limit)]
def oGSortKey (x : GSortKey) : List D := [(.i .i64 x.expr.kind), (.i .i64 x.expr.op), (.b x.expr.not_), (.i .i64 x.expr.value.kind), (.i .i64 x.expr.value.num), (.s (bs x.expr.value.text)), (.s (bs x.expr.qual)), (.s (bs x.expr.name)), (.sl 10 (x.expr.kids.map cGExpr)), (.sl 6 (x.expr.sub.map cGQuery)), (.b x.desc)]
def oGSource (x : GSource) : List D := [(.s (bs x.table)), (.s (bs x.as_)), (.sl 10 (x.on_.map cGExpr))]
theorem cGExpr_eq (x : GExpr) : cGExpr x = oGExpr x := by
  obtain ⟨a0, a1, a2, a3, a4, a5, a6, a7⟩ := x
  simp only [cGExpr, oGExpr, cLGExpr_eq, cLGItem_eq, cLGQuery_eq, cLGSortKey_eq, cLGSource_eq, List.cons_append, List.nil_append, cGValue]
theorem cGItem_eq (x : GItem) : cGItem x = oGItem x := by
  obtain ⟨a0, a1, a2, a3⟩ := x
  simp only [cGItem, oGItem, cLGExpr_eq, cLGItem_eq, cLGQuery_eq, cLGSortKey_eq, cLGSource_eq, cGExpr_eq, oGExpr, List.cons_append, List.nil_append]
theorem cGQuery_eq (x : GQuery) : cGQuery x = oGQuery x := by
  obtain ⟨a0, a1, a2, a3, a4, a5⟩ := x
  simp only [cGQuery, oGQuery, cLGExpr_eq, cLGItem_eq, cLGQuery_eq, cLGSortKey_eq, cLGSource_eq, List.cons_append, List.nil_append]
theorem cGSortKey_eq (x : GSortKey) : cGSortKey x = oGSortKey x := by
  obtain ⟨a0, a1⟩ := x
  simp only [cGSortKey, oGSortKey, cLGExpr_eq, cLGItem_eq, cLGQuery_eq, cLGSortKey_eq, cLGSource_eq, cGExpr_eq, oGExpr, List.cons_append, List.nil_append]
theorem cGSource_eq (x : GSource) : cGSource x = oGSource x := by
  obtain ⟨a0, a1, a2⟩ := x
  simp only [cGSource, oGSource, cLGExpr_eq, cLGItem_eq, cLGQuery_eq, cLGSortKey_eq, cLGSource_eq, List.cons_append, List.nil_append]
def vGExpr (x : GExpr) : V := .agg (oGExpr x)
def bGExpr (x : GExpr) : List V := (oGExpr x).map V.d
def vGItem (x : GItem) : V := .agg (oGItem x)
def bGItem (x : GItem) : List V := (oGItem x).map V.d
def vGQuery (x : GQuery) : V := .agg (oGQuery x)
def bGQuery (x : GQuery) : List V := (oGQuery x).map V.d
def vGSortKey (x : GSortKey) : V := .agg (oGSortKey x)
def bGSortKey (x : GSortKey) : List V := (oGSortKey x).map V.d
def vGSource (x : GSource) : V := .agg (oGSource x)
def bGSource (x : GSource) : List V := (oGSource x).map V.d
def cGStmt (x : GStmt) : List D := [(.i .i64 x.kind), (.b x.query.distinct), (.sl 13 (x.query.items.map cGItem)), (.sl 3 (x.query.from_.map cGSource)), (.sl 10 (x.query.where_.map cGExpr)), (.sl 11 (x.query.order.map cGSortKey)), (.i .i64 x.query.limit), (.s (bs x.table)), (.sl 1 (x.rows.map (cSl 10 cGExpr))), (.sl 1 (x.cols.map cStr)), (.sl 10 (x.sets.map cGExpr)), (.sl 10 (x.where_.map cGExpr))]
def vGStmt (x : GStmt) : V := .agg (cGStmt x)
def bGStmt (x : GStmt) : List V := (cGStmt x).map V.d
def acwFnExactStmtDepth : AC := (.seq (.ops [.box 1 (.t 0), .asg 2 (kB false)]) (.seq (.ops [.asg 3 (kI 1048576)]) (.seq (.ops [.ld 7 12 true (.t 1), .mv 8 (.t 3), .call (some 9) 33 [(.t 7), (.t 8)], .asg 3 (.t 9)]) (.seq (.seq (.ops [.mv 10 (.t 3), .bin 11 .lss (.t 10) (kI 0)]) (.cond (.t 11) (.seq (.ops [.asg 2 (kB true)]) .ret) .skip)) (.seq (.ops [.ld 12 12 true (.t 1), .call (some 13) 35 [(.t 12)], .call (some 14) 38 [(.t 13)], .asg 4 (.t 14)]) (.seq (.ops [.ld 15 12 true (.t 1), .call (some 16) 35 [(.t 15)], .alc 5 [(.d (.i .i64 0)), (.d (.b false)), (.nil 13), (.nil 3), (.nil 10), (.nil 11), (.d (.i .i64 0)), (.d (.s (bs []))), (.nil 1), (.nil 1), (.nil 10), (.nil 10)], .st 12 (.t 5) (.t 16)]) (.seq (.ops [.ld 17 12 true (.t 5), .call (some 18) 39 [(.t 17)], .asg 6 (.t 18)]) (.seq (.seq (.ops [.mv 19 (.t 6), .mv 20 (.t 4), .bin 21 .neq (.t 19) (.t 20)]) (.cond (.t 21) (.seq (.ops [.asg 2 (kB false)]) .ret) .skip)) (.seq (.seq (.dops [[], [], [1], [0, 2, 2], [3]] [.ld 22 12 true (.t 5), .ld 23 12 true (.t 1), .call (some 24) 35 [(.t 23)], .call (some 25) 37 [(.t 22), (.t 24)], .not 26 (.t 25)]) (.cond (.t 26) (.seq (.ops [.asg 2 (kB false)]) .ret) .skip)) (.seq (.ops [.asg 2 (kB true)]) .ret))))))))))
theorem trwFnExactStmtDepth : trFn Try.prog 8 = some (acwFnExactStmtDepth, [.mv 0 (.t 2)], 27) := by kernel_rfl
def qwFnExactStmtDepth (r : Bool) : Exit → St → Prop := retQ [.mv 0 (.t 2)] fun x _ => x = (fun y => (vB y)) r
def aciStmtDepth : AC := (.seq (.ops [.box 1 (.t 0), .asg 2 (kI 0)]) (.seq (.ops [.ld 3 12 true (.t 1), .call (some 4) 97 [(.t 3)], .call (some 5) 65 [(.t 4)], .asg 2 (.t 5)]) .ret))
theorem triStmtDepth : trFn Try.prog 39 = some (aciStmtDepth, [.mv 0 (.t 2)], 6) := by kernel_rfl
def qiStmtDepth (r : Int) : Exit → St → Prop := retQ [.mv 0 (.t 2)] fun x _ => x = (fun y => (vI y)) r
def aciStmt_exprs_L0 : AC := (.loop (.seq (.ops [.bin 13 .lss (.t 12) (.t 11)]) (.seq (.cond (.t 13) .skip (.exit 0)) (.seq (.block 1 (.seq (.ops [.ia 14 1 (.t 10) (.t 12), .ld 15 1 false (.t 14), .asg 5 (.t 15)]) (.ops [.mv 16 (.t 3), .mv 17 (.t 5), .app 18 49 10 136 (.t 16) (.t 17), .asg 3 (.t 18)]))) (.ops [.bin 19 .add (.t 12) (kI 1), .mv 12 (.t 19)])))))
def aciStmt_exprs : AC := (.seq (.ops [.box 1 (.t 0), .asg 2 (.c (.nil 10))]) (.seq (.ops [.fa 6 1 (.t 1), .ld 7 6 true (.t 6), .call (some 8) 66 [(.t 7)], .asg 3 (.t 8)]) (.seq (.seq (.ops [.fa 9 8 (.t 1), .ld 10 1 false (.t 9), .len 11 (.t 10), .mv 12 (kI 0)]) (.block 0 aciStmt_exprs_L0)) (.seq (.ops [.mv 20 (.t 3), .fa 21 10 (.t 1), .ld 22 1 false (.t 21), .app 23 49 10 136 (.t 20) (.t 22), .asg 3 (.t 23)]) (.seq (.ops [.mv 24 (.t 3), .fa 25 11 (.t 1), .ld 26 1 false (.t 25), .app 27 49 10 136 (.t 24) (.t 26), .asg 2 (.t 27)]) .ret)))))
theorem triStmt_exprs : trFn Try.prog 97 = some (aciStmt_exprs, [.mv 0 (.t 2)], 28) := by kernel_rfl
def qiStmt_exprs (r : (List GExpr)) : Exit → St → Prop := retQ [.mv 0 (.t 2)] fun x b => x = (fun (y : (List GExpr)) => (.osl 2000000 49 10 (y.map cGExpr))) r ∧ bxHas ((fun (y : (List GExpr)) => []) r) b
def qiStmt_exprs_0 (r : (List GExpr)) : Exit → St → Prop := (thenK (wkK (avc Try.prog (.seq (.ops [.mv 20 (.t 3), .fa 21 10 (.t 1), .ld 22 1 false (.t 21), .app 23 49 10 136 (.t 20) (.t 22), .asg 3 (.t 23)]) (.seq (.ops [.mv 24 (.t 3), .fa 25 11 (.t 1), .ld 26 1 false (.t 25), .app 27 49 10 136 (.t 24) (.t 26), .asg 2 (.t 27)]) .ret)) (qiStmt_exprs r))) (qiStmt_exprs r))
def qiStmt_exprs_1 (r : (List GExpr)) : Exit → St → Prop := (blockK 0 (qiStmt_exprs_0 r))
def stiStmt_exprs_L0 (p0 : GStmt) (x3 : (List GExpr)) (x12 : Int) : St := ⟨[(1, (.ptr 1 0)), (3, (.osl 3 49 10 (x3.map cGExpr))), (10, (.d (.sl 1 (p0.rows.map (cSl 10 cGExpr))))), (11, (vI (p0.rows.length : Int))), (12, (vI x12))], [(1, bGStmt p0)]⟩
def aciQuery_exprs_J1 : AC := (.ops [.bin 26 .add (.t 14) (kI 1), .mv 14 (.t 26)])
def aciQuery_exprs_L0 : AC := (.loop (.seq (.ops [.bin 15 .lss (.t 14) (.t 13)]) (.seq (.cond (.t 15) .skip (.exit 0)) (.seq (.block 1 (.seq (.ops [.ia 16 13 (.t 12) (.t 14), .ld 17 13 true (.t 16), .alc 5 [(.d (.b false)), (.d (.s (bs []))), (.d (.i .i64 0)), (.d (.i .i64 0)), (.d (.b false)), (.d (.i .i64 0)), (.d (.i .i64 0)), (.d (.s (bs []))), (.d (.s (bs []))), (.d (.s (bs []))), (.nil 10), (.nil 6), (.d (.s (bs [])))], .st 13 (.t 5) (.t 17)]) (.seq (.ops [.fa 18 0 (.t 5), .ld 19 1 false (.t 18), .not 20 (.t 19)]) (.cond (.t 20) (.ops [.mv 21 (.t 3), .fa 22 2 (.t 5), .ld 23 10 true (.t 22), .bsl 24 49 10 [(.t 23)], .app 25 49 10 136 (.t 21) (.t 24), .asg 3 (.t 25)]) .skip)))) aciQuery_exprs_J1))))
def aciQuery_exprs_L2 : AC := (.loop (.seq (.ops [.bin 31 .lss (.t 30) (.t 29)]) (.seq (.cond (.t 31) .skip (.exit 2)) (.seq (.block 3 (.seq (.ops [.ia 32 3 (.t 28) (.t 30), .ld 33 3 true (.t 32), .alc 7 [(.d (.s (bs []))), (.d (.s (bs []))), (.nil 10)], .st 3 (.t 7) (.t 33)]) (.ops [.mv 34 (.t 3), .fa 35 2 (.t 7), .ld 36 1 false (.t 35), .app 37 49 10 136 (.t 34) (.t 36), .asg 3 (.t 37)]))) (.ops [.bin 38 .add (.t 30) (kI 1), .mv 30 (.t 38)])))))
def aciQuery_exprs_L3 : AC := (.loop (.seq (.ops [.bin 47 .lss (.t 46) (.t 45)]) (.seq (.cond (.t 47) .skip (.exit 4)) (.seq (.block 5 (.seq (.ops [.ia 48 11 (.t 44) (.t 46), .ld 49 11 true (.t 48), .alc 9 [(.d (.i .i64 0)), (.d (.i .i64 0)), (.d (.b false)), (.d (.i .i64 0)), (.d (.i .i64 0)), (.d (.s (bs []))), (.d (.s (bs []))), (.d (.s (bs []))), (.nil 10), (.nil 6), (.d (.b false))], .st 11 (.t 9) (.t 49)]) (.ops [.mv 50 (.t 3), .fa 51 0 (.t 9), .ld 52 10 true (.t 51), .bsl 53 49 10 [(.t 52)], .app 54 49 10 136 (.t 50) (.t 53), .asg 3 (.t 54)]))) (.ops [.bin 55 .add (.t 46) (kI 1), .mv 46 (.t 55)])))))
def aciQuery_exprs : AC := (.seq (.ops [.box 1 (.t 0), .asg 2 (.c (.nil 10))]) (.seq (.ops [.bsl 10 49 10 [], .asg 3 (.t 10)]) (.seq (.seq (.ops [.fa 11 1 (.t 1), .ld 12 1 false (.t 11), .len 13 (.t 12), .mv 14 (kI 0)]) (.block 0 aciQuery_exprs_L0)) (.seq (.seq (.ops [.fa 27 2 (.t 1), .ld 28 1 false (.t 27), .len 29 (.t 28), .mv 30 (kI 0)]) (.block 2 aciQuery_exprs_L2)) (.seq (.ops [.mv 39 (.t 3), .fa 40 3 (.t 1), .ld 41 1 false (.t 40), .app 42 49 10 136 (.t 39) (.t 41), .asg 3 (.t 42)]) (.seq (.seq (.ops [.fa 43 4 (.t 1), .ld 44 1 false (.t 43), .len 45 (.t 44), .mv 46 (kI 0)]) (.block 4 aciQuery_exprs_L3)) (.seq (.ops [.mv 56 (.t 3), .asg 2 (.t 56)]) .ret)))))))
theorem triQuery_exprs : trFn Try.prog 66 = some (aciQuery_exprs, [.mv 0 (.t 2)], 57) := by kernel_rfl
def qiQuery_exprs (r : (List GExpr)) : Exit → St → Prop := retQ [.mv 0 (.t 2)] fun x b => x = (fun (y : (List GExpr)) => (.osl 2000000 49 10 (y.map cGExpr))) r ∧ bxHas ((fun (y : (List GExpr)) => []) r) b
def qiQuery_exprs_0 (r : (List GExpr)) : Exit → St → Prop := (thenK (wkK (avc Try.prog (.seq (.seq (.ops [.fa 27 2 (.t 1), .ld 28 1 false (.t 27), .len 29 (.t 28), .mv 30 (.c (.d (.i .i64 0)))]) (.block 2 aciQuery_exprs_L2)) (.seq (.ops [.mv 39 (.t 3), .fa 40 3 (.t 1), .ld 41 1 false (.t 40), .app 42 49 10 136 (.t 39) (.t 41), .asg 3 (.t 42)]) (.seq (.seq (.ops [.fa 43 4 (.t 1), .ld 44 1 false (.t 43), .len 45 (.t 44), .mv 46 (.c (.d (.i .i64 0)))]) (.block 4 aciQuery_exprs_L3)) (.seq (.ops [.mv 56 (.t 3), .asg 2 (.t 56)]) .ret)))) (qiQuery_exprs r))) (qiQuery_exprs r))
def qiQuery_exprs_1 (r : (List GExpr)) : Exit → St → Prop := (blockK 0 (qiQuery_exprs_0 r))
def qiQuery_exprs_2 (r : (List GExpr)) : Exit → St → Prop := (thenK (avc Try.prog aciQuery_exprs_L0 (qiQuery_exprs_1 r)) (qiQuery_exprs_1 r))
def qiQuery_exprs_3 (r : (List GExpr)) : Exit → St → Prop := (thenK (wkK (avc Try.prog (.seq (.ops [.mv 39 (.t 3), .fa 40 3 (.t 1), .ld 41 1 false (.t 40), .app 42 49 10 136 (.t 39) (.t 41), .asg 3 (.t 42)]) (.seq (.seq (.ops [.fa 43 4 (.t 1), .ld 44 1 false (.t 43), .len 45 (.t 44), .mv 46 (.c (.d (.i .i64 0)))]) (.block 4 aciQuery_exprs_L3)) (.seq (.ops [.mv 56 (.t 3), .asg 2 (.t 56)]) .ret))) (qiQuery_exprs r))) (qiQuery_exprs r))
def qiQuery_exprs_4 (r : (List GExpr)) : Exit → St → Prop := (blockK 2 (qiQuery_exprs_3 r))
def qiQuery_exprs_5 (r : (List GExpr)) : Exit → St → Prop := (thenK (wkK (avc Try.prog (.seq (.ops [.mv 56 (.t 3), .asg 2 (.t 56)]) .ret) (qiQuery_exprs r))) (qiQuery_exprs r))
def qiQuery_exprs_6 (r : (List GExpr)) : Exit → St → Prop := (blockK 4 (qiQuery_exprs_5 r))
def stiQuery_exprs_L0 (p0 : GQuery) (x3 : (List GExpr)) (x14 : Int) : St := ⟨[(1, (.ptr 1 0)), (3, (.osl 3 49 10 (x3.map cGExpr))), (12, (.d (.sl 13 (p0.items.map cGItem)))), (13, (vI (p0.items.length : Int))), (14, (vI x14))], [(1, bGQuery p0)]⟩
def stiQuery_exprs_J1 (p0 : GQuery) (x14 : Int) (x3_3 : (List GExpr)) : St := ⟨[(1, (.ptr 1 0)), (3, (.osl 3 49 10 (x3_3.map cGExpr))), (12, (.d (.sl 13 (p0.items.map cGItem)))), (13, (vI (p0.items.length : Int))), (14, (vI x14))], [(1, bGQuery p0)]⟩
def stiQuery_exprs_L2 (p0 : GQuery) (x3_4 : (List GExpr)) (x30 : Int) : St := ⟨[(1, (.ptr 1 0)), (3, (.osl 3 49 10 (x3_4.map cGExpr))), (28, (.d (.sl 3 (p0.from_.map cGSource)))), (29, (vI (p0.from_.length : Int))), (30, (vI x30))], [(1, bGQuery p0)]⟩
def stiQuery_exprs_L3 (p0 : GQuery) (x3_8 : (List GExpr)) (x46 : Int) : St := ⟨[(3, (.osl 3 49 10 (x3_8.map cGExpr))), (44, (.d (.sl 11 (p0.order.map cGSortKey)))), (45, (vI (p0.order.length : Int))), (46, (vI x46))], []⟩
def aciDeepestOf_L0 : AC := (.loop (.seq (.ops [.bin 9 .lss (.t 8) (.t 7)]) (.seq (.cond (.t 9) .skip (.exit 0)) (.seq (.block 1 (.seq (.ops [.ia 10 10 (.t 6) (.t 8), .ld 11 10 true (.t 10), .alc 5 [(.d (.i .i64 0)), (.d (.i .i64 0)), (.d (.b false)), (.d (.i .i64 0)), (.d (.i .i64 0)), (.d (.s (bs []))), (.d (.s (bs []))), (.d (.s (bs []))), (.nil 10), (.nil 6)], .st 10 (.t 5) (.t 11)]) (.ops [.mv 12 (.t 3), .ld 13 10 true (.t 5), .call (some 14) 30 [(.t 13)], .max 15 (.t 12) (.t 14), .asg 3 (.t 15)]))) (.ops [.bin 16 .add (.t 8) (kI 1), .mv 8 (.t 16)])))))
def aciDeepestOf : AC := (.seq (.ops [.asg 2 (kI 0)]) (.seq (.ops [.asg 3 (kI 0)]) (.seq (.seq (.ops [.mv 6 (.t 0), .len 7 (.t 6), .mv 8 (kI 0)]) (.block 0 aciDeepestOf_L0)) (.seq (.ops [.mv 17 (.t 3), .asg 2 (.t 17)]) .ret))))
theorem triDeepestOf : trFn Try.prog 65 = some (aciDeepestOf, [.mv 0 (.t 2)], 18) := by kernel_rfl
def qiDeepestOf (r : Int) : Exit → St → Prop := retQ [.mv 0 (.t 2)] fun x _ => x = (fun y => (vI y)) r
def qiDeepestOf_0 (r : Int) : Exit → St → Prop := (thenK (wkK (avc Try.prog (.seq (.ops [.mv 17 (.t 3), .asg 2 (.t 17)]) .ret) (qiDeepestOf r))) (qiDeepestOf r))
def qiDeepestOf_1 (r : Int) : Exit → St → Prop := (blockK 0 (qiDeepestOf_0 r))
def stiDeepestOf_L0 (p0 : (List GExpr)) (x3 : Int) (x8 : Int) : St := ⟨[(3, (vI x3)), (6, (.d (.sl 10 (p0.map cGExpr)))), (7, (vI (p0.length : Int))), (8, (vI x8))], []⟩
def aciDepthOf_L0 : AC := (.loop (.seq (.ops [.bin 12 .lss (.t 11) (.t 10)]) (.seq (.cond (.t 12) .skip (.exit 0)) (.seq (.block 1 (.seq (.ops [.ia 13 10 (.t 9) (.t 11), .ld 14 10 true (.t 13), .alc 5 [(.d (.i .i64 0)), (.d (.i .i64 0)), (.d (.b false)), (.d (.i .i64 0)), (.d (.i .i64 0)), (.d (.s (bs []))), (.d (.s (bs []))), (.d (.s (bs []))), (.nil 10), (.nil 6)], .st 10 (.t 5) (.t 14)]) (.ops [.mv 15 (.t 3), .ld 16 10 true (.t 5), .call (some 17) 30 [(.t 16)], .max 18 (.t 15) (.t 17), .asg 3 (.t 18)]))) (.ops [.bin 19 .add (.t 11) (kI 1), .mv 11 (.t 19)])))))
def aciDepthOf_L1 : AC := (.loop (.seq (.ops [.bin 24 .lss (.t 23) (.t 22)]) (.seq (.cond (.t 24) .skip (.exit 2)) (.seq (.block 3 (.seq (.ops [.ia 25 6 (.t 21) (.t 23), .ld 26 6 true (.t 25), .alc 7 [(.d (.b false)), (.nil 13), (.nil 3), (.nil 10), (.nil 11), (.d (.i .i64 0))], .st 6 (.t 7) (.t 26)]) (.ops [.mv 27 (.t 3), .ld 28 6 true (.t 7), .call (some 29) 17 [(.t 28)], .max 30 (.t 27) (.t 29), .asg 3 (.t 30)]))) (.ops [.bin 31 .add (.t 23) (kI 1), .mv 23 (.t 31)])))))
def aciDepthOf : AC := (.seq (.ops [.box 1 (.t 0), .asg 2 (kI 0)]) (.seq (.ops [.asg 3 (kI 0)]) (.seq (.seq (.ops [.fa 8 8 (.t 1), .ld 9 1 false (.t 8), .len 10 (.t 9), .mv 11 (kI 0)]) (.block 0 aciDepthOf_L0)) (.seq (.seq (.ops [.fa 20 9 (.t 1), .ld 21 1 false (.t 20), .len 22 (.t 21), .mv 23 (kI 0)]) (.block 2 aciDepthOf_L1)) (.seq (.ops [.mv 32 (.t 3), .bin 33 .add (kI 1) (.t 32), .asg 2 (.t 33)]) .ret)))))
theorem triDepthOf : trFn Try.prog 30 = some (aciDepthOf, [.mv 0 (.t 2)], 34) := by kernel_rfl
def qiDepthOf (r : Int) : Exit → St → Prop := retQ [.mv 0 (.t 2)] fun x _ => x = (fun y => (vI y)) r
def qiDepthOf_0 (r : Int) : Exit → St → Prop := (thenK (wkK (avc Try.prog (.seq (.seq (.ops [.fa 20 9 (.t 1), .ld 21 1 false (.t 20), .len 22 (.t 21), .mv 23 (.c (.d (.i .i64 0)))]) (.block 2 aciDepthOf_L1)) (.seq (.ops [.mv 32 (.t 3), .bin 33 .add (.c (.d (.i .i64 1))) (.t 32), .asg 2 (.t 33)]) .ret)) (qiDepthOf r))) (qiDepthOf r))
def qiDepthOf_1 (r : Int) : Exit → St → Prop := (blockK 0 (qiDepthOf_0 r))
def qiDepthOf_2 (r : Int) : Exit → St → Prop := (thenK (wkK (avc Try.prog (.seq (.ops [.mv 32 (.t 3), .bin 33 .add (.c (.d (.i .i64 1))) (.t 32), .asg 2 (.t 33)]) .ret) (qiDepthOf r))) (qiDepthOf r))
def qiDepthOf_3 (r : Int) : Exit → St → Prop := (blockK 2 (qiDepthOf_2 r))
def stiDepthOf_L0 (p0 : GExpr) (x3 : Int) (x11 : Int) : St := ⟨[(1, (.ptr 1 0)), (3, (vI x3)), (9, (.d (.sl 10 (p0.kids.map cGExpr)))), (10, (vI (p0.kids.length : Int))), (11, (vI x11))], [(1, bGExpr p0)]⟩
def stiDepthOf_L1 (p0 : GExpr) (x3_3 : Int) (x23 : Int) : St := ⟨[(3, (vI x3_3)), (21, (.d (.sl 6 (p0.sub.map cGQuery)))), (22, (vI (p0.sub.length : Int))), (23, (vI x23))], []⟩
def aciQueryDepth : AC := (.seq (.ops [.box 1 (.t 0), .asg 2 (kI 0)]) (.seq (.ops [.ld 3 6 true (.t 1), .call (some 4) 66 [(.t 3)], .call (some 5) 65 [(.t 4)], .asg 2 (.t 5)]) .ret))
theorem triQueryDepth : trFn Try.prog 17 = some (aciQueryDepth, [.mv 0 (.t 2)], 6) := by kernel_rfl
def qiQueryDepth (r : Int) : Exit → St → Prop := retQ [.mv 0 (.t 2)] fun x _ => x = (fun y => (vI y)) r
def acwToStmt : AC := (.seq (.ops [.box 1 (.t 0), .alc 2 [(.d (.i .i64 0)), (.d (.b false)), (.nil 13), (.nil 3), (.nil 10), (.nil 11), (.d (.i .i64 0)), (.d (.s (bs []))), (.nil 1), (.nil 1), (.nil 10), (.nil 10)]]) (.seq (.ops [.alc 3 [(.d (.i .i64 0)), (.d (.b false)), (.nil 13), (.nil 3), (.nil 10), (.nil 11), (.d (.i .i64 0)), (.d (.s (bs []))), (.nil 1), (.nil 1), (.nil 10), (.nil 10)]]) (.seq (.ops [.fa 4 0 (.t 1), .ld 5 1 false (.t 4), .fa 6 0 (.t 3), .st 1 (.t 6) (.t 5)]) (.seq (.ops [.fa 7 1 (.t 1), .ld 8 6 true (.t 7), .call (some 9) 16 [(.t 8)], .fa 10 1 (.t 3), .st 6 (.t 10) (.t 9)]) (.seq (.ops [.fa 11 7 (.t 1), .ld 12 1 false (.t 11), .fa 13 7 (.t 3), .st 1 (.t 13) (.t 12)]) (.seq (.ops [.fa 14 8 (.t 1), .ld 15 1 false (.t 14), .call (some 16) 94 [(.t 15)], .fa 17 8 (.t 3), .st 1 (.t 17) (.t 16)]) (.seq (.ops [.fa 18 9 (.t 1), .ld 19 1 false (.t 18), .call (some 20) 95 [(.t 19)], .fa 21 9 (.t 3), .st 1 (.t 21) (.t 20)]) (.seq (.ops [.fa 22 10 (.t 1), .ld 23 1 false (.t 22), .call (some 24) 63 [(.t 23)], .fa 25 10 (.t 3), .st 1 (.t 25) (.t 24)]) (.seq (.ops [.fa 26 11 (.t 1), .ld 27 1 false (.t 26), .call (some 28) 63 [(.t 27)], .fa 29 11 (.t 3), .st 1 (.t 29) (.t 28)]) (.seq (.ops [.ld 30 12 true (.t 3), .st 12 (.t 2) (.t 30)]) .ret))))))))))
theorem trwToStmt : trFn Try.prog 35 = some (acwToStmt, [.ld 0 12 true (.t 2)], 31) := by kernel_rfl
def qwToStmt (r : GStmt) : Exit → St → Prop := retQ [.ld 0 12 true (.t 2)] fun x _ => x = (fun y => (vGStmt y)) r
def acwToExprS_L0 : AC := (.loop (.seq (.seq (.ops [.mv 8 (.t 4), .mv 9 (.t 0), .len 10 (.t 9), .bin 11 .lss (.t 8) (.t 10)]) (.cond (.t 11) .skip (.exit 0))) (.seq (.block 1 (.ops [.mv 14 (.t 3), .mv 15 (.t 4), .mv 16 (.t 0), .mv 17 (.t 4), .ia 18 10 (.t 16) (.t 17), .ld 19 10 true (.t 18), .call (some 20) 21 [(.t 19)], .ia 21 10 (.t 14) (.t 15), .st 10 (.t 21) (.t 20)])) (.ops [.mv 12 (.t 4), .bin 13 .add (.t 12) (kI 1), .asg 4 (.t 13)]))))
def acwToExprS : AC := (.seq (.ops [.asg 2 (.c (.nil 10))]) (.seq (.ops [.mv 5 (.t 0), .len 6 (.t 5), .mks 7 49 10 136 [(.i .i64 0), (.i .i64 0), (.b false), (.i .i64 0), (.i .i64 0), (.s (bs [])), (.s (bs [])), (.s (bs [])), (.sl 10 []), (.sl 6 [])] (.t 6) (.t 6), .asg 3 (.t 7)]) (.seq (.seq (.ops [.asg 4 (kI 0)]) (.block 0 acwToExprS_L0)) (.seq (.ops [.mv 22 (.t 3), .asg 2 (.t 22)]) .ret))))
theorem trwToExprS : trFn Try.prog 63 = some (acwToExprS, [.mv 0 (.t 2)], 23) := by kernel_rfl
def qwToExprS (r : (List GExpr)) : Exit → St → Prop := retQ [.mv 0 (.t 2)] fun x _ => x = (fun y => (.d (.sl 10 (y.map cGExpr)))) r
def qwToExprS_0 (r : (List GExpr)) : Exit → St → Prop := (thenK (wkK (avc Try.prog (.seq (.ops [.mv 22 (.t 3), .asg 2 (.t 22)]) .ret) (qwToExprS r))) (qwToExprS r))
def qwToExprS_1 (r : (List GExpr)) : Exit → St → Prop := (blockK 0 (qwToExprS_0 r))
def stwToExprS_L0 (p0 : (List GExpr)) (x4 : Int) (b7_0 : (List GExpr)) : St := ⟨[(0, (.d (.sl 10 (p0.map cGExpr)))), (3, (.msl 7 10 0 b7_0.length b7_0.length)), (4, (vI x4))], [(7, rowsV (b7_0.map cGExpr))]⟩
def acwToExpr : AC := (.seq (.ops [.box 1 (.t 0), .alc 2 [(.d (.i .i64 0)), (.d (.i .i64 0)), (.d (.b false)), (.d (.i .i64 0)), (.d (.i .i64 0)), (.d (.s (bs []))), (.d (.s (bs []))), (.d (.s (bs []))), (.nil 10), (.nil 6)]]) (.seq (.ops [.alc 3 [(.d (.i .i64 0)), (.d (.i .i64 0)), (.d (.b false)), (.d (.i .i64 0)), (.d (.i .i64 0)), (.d (.s (bs []))), (.d (.s (bs []))), (.d (.s (bs []))), (.nil 10), (.nil 6)]]) (.seq (.ops [.fa 4 0 (.t 1), .ld 5 1 false (.t 4), .fa 6 0 (.t 3), .st 1 (.t 6) (.t 5)]) (.seq (.ops [.fa 7 1 (.t 1), .ld 8 1 false (.t 7), .fa 9 1 (.t 3), .st 1 (.t 9) (.t 8)]) (.seq (.ops [.fa 10 2 (.t 1), .ld 11 1 false (.t 10), .fa 12 2 (.t 3), .st 1 (.t 12) (.t 11)]) (.seq (.ops [.fa 13 3 (.t 1), .ld 14 3 true (.t 13), .call (some 15) 73 [(.t 14)], .fa 16 3 (.t 3), .st 3 (.t 16) (.t 15)]) (.seq (.ops [.fa 17 6 (.t 1), .ld 18 1 false (.t 17), .fa 19 6 (.t 3), .st 1 (.t 19) (.t 18)]) (.seq (.ops [.fa 20 7 (.t 1), .ld 21 1 false (.t 20), .fa 22 7 (.t 3), .st 1 (.t 22) (.t 21)]) (.seq (.ops [.fa 23 8 (.t 1), .ld 24 1 false (.t 23), .call (some 25) 63 [(.t 24)], .fa 26 8 (.t 3), .st 1 (.t 26) (.t 25)]) (.seq (.ops [.fa 27 9 (.t 1), .ld 28 1 false (.t 27), .call (some 29) 74 [(.t 28)], .fa 30 9 (.t 3), .st 1 (.t 30) (.t 29)]) (.seq (.ops [.ld 31 10 true (.t 3), .st 10 (.t 2) (.t 31)]) .ret)))))))))))
theorem trwToExpr : trFn Try.prog 21 = some (acwToExpr, [.ld 0 10 true (.t 2)], 32) := by kernel_rfl
def qwToExpr (r : GExpr) : Exit → St → Prop := retQ [.ld 0 10 true (.t 2)] fun x _ => x = (fun y => (vGExpr y)) r
def acwToQueryS_L0 : AC := (.loop (.seq (.seq (.ops [.mv 8 (.t 4), .mv 9 (.t 0), .len 10 (.t 9), .bin 11 .lss (.t 8) (.t 10)]) (.cond (.t 11) .skip (.exit 0))) (.seq (.block 1 (.ops [.mv 14 (.t 3), .mv 15 (.t 4), .mv 16 (.t 0), .mv 17 (.t 4), .ia 18 6 (.t 16) (.t 17), .ld 19 6 true (.t 18), .call (some 20) 16 [(.t 19)], .ia 21 6 (.t 14) (.t 15), .st 6 (.t 21) (.t 20)])) (.ops [.mv 12 (.t 4), .bin 13 .add (.t 12) (kI 1), .asg 4 (.t 13)]))))
def acwToQueryS : AC := (.seq (.ops [.asg 2 (.c (.nil 6))]) (.seq (.ops [.mv 5 (.t 0), .len 6 (.t 5), .mks 7 35 6 112 [(.b false), (.sl 13 []), (.sl 3 []), (.sl 10 []), (.sl 11 []), (.i .i64 0)] (.t 6) (.t 6), .asg 3 (.t 7)]) (.seq (.seq (.ops [.asg 4 (kI 0)]) (.block 0 acwToQueryS_L0)) (.seq (.ops [.mv 22 (.t 3), .asg 2 (.t 22)]) .ret))))
theorem trwToQueryS : trFn Try.prog 74 = some (acwToQueryS, [.mv 0 (.t 2)], 23) := by kernel_rfl
def qwToQueryS (r : (List GQuery)) : Exit → St → Prop := retQ [.mv 0 (.t 2)] fun x _ => x = (fun y => (.d (.sl 6 (y.map cGQuery)))) r
def qwToQueryS_0 (r : (List GQuery)) : Exit → St → Prop := (thenK (wkK (avc Try.prog (.seq (.ops [.mv 22 (.t 3), .asg 2 (.t 22)]) .ret) (qwToQueryS r))) (qwToQueryS r))
def qwToQueryS_1 (r : (List GQuery)) : Exit → St → Prop := (blockK 0 (qwToQueryS_0 r))
def stwToQueryS_L0 (p0 : (List GQuery)) (x4 : Int) (b7_0 : (List GQuery)) : St := ⟨[(0, (.d (.sl 6 (p0.map cGQuery)))), (3, (.msl 7 6 0 b7_0.length b7_0.length)), (4, (vI x4))], [(7, rowsV (b7_0.map cGQuery))]⟩
def acwToQuery : AC := (.seq (.ops [.box 1 (.t 0), .alc 2 [(.d (.b false)), (.nil 13), (.nil 3), (.nil 10), (.nil 11), (.d (.i .i64 0))]]) (.seq (.ops [.alc 3 [(.d (.b false)), (.nil 13), (.nil 3), (.nil 10), (.nil 11), (.d (.i .i64 0))]]) (.seq (.ops [.fa 4 0 (.t 1), .ld 5 1 false (.t 4), .fa 6 0 (.t 3), .st 1 (.t 6) (.t 5)]) (.seq (.ops [.fa 7 1 (.t 1), .ld 8 1 false (.t 7), .call (some 9) 61 [(.t 8)], .fa 10 1 (.t 3), .st 1 (.t 10) (.t 9)]) (.seq (.ops [.fa 11 2 (.t 1), .ld 12 1 false (.t 11), .call (some 13) 62 [(.t 12)], .fa 14 2 (.t 3), .st 1 (.t 14) (.t 13)]) (.seq (.ops [.fa 15 3 (.t 1), .ld 16 1 false (.t 15), .call (some 17) 63 [(.t 16)], .fa 18 3 (.t 3), .st 1 (.t 18) (.t 17)]) (.seq (.ops [.fa 19 4 (.t 1), .ld 20 1 false (.t 19), .call (some 21) 64 [(.t 20)], .fa 22 4 (.t 3), .st 1 (.t 22) (.t 21)]) (.seq (.ops [.fa 23 5 (.t 1), .ld 24 1 false (.t 23), .fa 25 5 (.t 3), .st 1 (.t 25) (.t 24)]) (.seq (.ops [.ld 26 6 true (.t 3), .st 6 (.t 2) (.t 26)]) .ret)))))))))
theorem trwToQuery : trFn Try.prog 16 = some (acwToQuery, [.ld 0 6 true (.t 2)], 27) := by kernel_rfl
def qwToQuery (r : GQuery) : Exit → St → Prop := retQ [.ld 0 6 true (.t 2)] fun x _ => x = (fun y => (vGQuery y)) r
def acwToItemS_L0 : AC := (.loop (.seq (.seq (.ops [.mv 8 (.t 4), .mv 9 (.t 0), .len 10 (.t 9), .bin 11 .lss (.t 8) (.t 10)]) (.cond (.t 11) .skip (.exit 0))) (.seq (.block 1 (.ops [.mv 14 (.t 3), .mv 15 (.t 4), .mv 16 (.t 0), .mv 17 (.t 4), .ia 18 13 (.t 16) (.t 17), .ld 19 13 true (.t 18), .call (some 20) 120 [(.t 19)], .ia 21 13 (.t 14) (.t 15), .st 13 (.t 21) (.t 20)])) (.ops [.mv 12 (.t 4), .bin 13 .add (.t 12) (kI 1), .asg 4 (.t 13)]))))
def acwToItemS : AC := (.seq (.ops [.asg 2 (.c (.nil 13))]) (.seq (.ops [.mv 5 (.t 0), .len 6 (.t 5), .mks 7 137 13 176 [(.b false), (.s (bs [])), (.i .i64 0), (.i .i64 0), (.b false), (.i .i64 0), (.i .i64 0), (.s (bs [])), (.s (bs [])), (.s (bs [])), (.sl 10 []), (.sl 6 []), (.s (bs []))] (.t 6) (.t 6), .asg 3 (.t 7)]) (.seq (.seq (.ops [.asg 4 (kI 0)]) (.block 0 acwToItemS_L0)) (.seq (.ops [.mv 22 (.t 3), .asg 2 (.t 22)]) .ret))))
theorem trwToItemS : trFn Try.prog 61 = some (acwToItemS, [.mv 0 (.t 2)], 23) := by kernel_rfl
def qwToItemS (r : (List GItem)) : Exit → St → Prop := retQ [.mv 0 (.t 2)] fun x _ => x = (fun y => (.d (.sl 13 (y.map cGItem)))) r
def qwToItemS_0 (r : (List GItem)) : Exit → St → Prop := (thenK (wkK (avc Try.prog (.seq (.ops [.mv 22 (.t 3), .asg 2 (.t 22)]) .ret) (qwToItemS r))) (qwToItemS r))
def qwToItemS_1 (r : (List GItem)) : Exit → St → Prop := (blockK 0 (qwToItemS_0 r))
def stwToItemS_L0 (p0 : (List GItem)) (x4 : Int) (b7_0 : (List GItem)) : St := ⟨[(0, (.d (.sl 13 (p0.map cGItem)))), (3, (.msl 7 13 0 b7_0.length b7_0.length)), (4, (vI x4))], [(7, rowsV (b7_0.map cGItem))]⟩
def acwToItem : AC := (.seq (.ops [.box 1 (.t 0), .alc 2 [(.d (.b false)), (.d (.s (bs []))), (.d (.i .i64 0)), (.d (.i .i64 0)), (.d (.b false)), (.d (.i .i64 0)), (.d (.i .i64 0)), (.d (.s (bs []))), (.d (.s (bs []))), (.d (.s (bs []))), (.nil 10), (.nil 6), (.d (.s (bs [])))]]) (.seq (.ops [.alc 3 [(.d (.b false)), (.d (.s (bs []))), (.d (.i .i64 0)), (.d (.i .i64 0)), (.d (.b false)), (.d (.i .i64 0)), (.d (.i .i64 0)), (.d (.s (bs []))), (.d (.s (bs []))), (.d (.s (bs []))), (.nil 10), (.nil 6), (.d (.s (bs [])))]]) (.seq (.ops [.fa 4 0 (.t 1), .ld 5 1 false (.t 4), .fa 6 0 (.t 3), .st 1 (.t 6) (.t 5)]) (.seq (.ops [.fa 7 1 (.t 1), .ld 8 1 false (.t 7), .fa 9 1 (.t 3), .st 1 (.t 9) (.t 8)]) (.seq (.ops [.fa 10 2 (.t 1), .ld 11 10 true (.t 10), .call (some 12) 21 [(.t 11)], .fa 13 2 (.t 3), .st 10 (.t 13) (.t 12)]) (.seq (.ops [.fa 14 12 (.t 1), .ld 15 1 false (.t 14), .fa 16 12 (.t 3), .st 1 (.t 16) (.t 15)]) (.seq (.ops [.ld 17 13 true (.t 3), .st 13 (.t 2) (.t 17)]) .ret)))))))
theorem trwToItem : trFn Try.prog 120 = some (acwToItem, [.ld 0 13 true (.t 2)], 18) := by kernel_rfl
def qwToItem (r : GItem) : Exit → St → Prop := retQ [.ld 0 13 true (.t 2)] fun x _ => x = (fun y => (vGItem y)) r
def acwToSortKeyS_L0 : AC := (.loop (.seq (.seq (.ops [.mv 8 (.t 4), .mv 9 (.t 0), .len 10 (.t 9), .bin 11 .lss (.t 8) (.t 10)]) (.cond (.t 11) .skip (.exit 0))) (.seq (.block 1 (.ops [.mv 14 (.t 3), .mv 15 (.t 4), .mv 16 (.t 0), .mv 17 (.t 4), .ia 18 11 (.t 16) (.t 17), .ld 19 11 true (.t 18), .call (some 20) 122 [(.t 19)], .ia 21 11 (.t 14) (.t 15), .st 11 (.t 21) (.t 20)])) (.ops [.mv 12 (.t 4), .bin 13 .add (.t 12) (kI 1), .asg 4 (.t 13)]))))
def acwToSortKeyS : AC := (.seq (.ops [.asg 2 (.c (.nil 11))]) (.seq (.ops [.mv 5 (.t 0), .len 6 (.t 5), .mks 7 141 11 144 [(.i .i64 0), (.i .i64 0), (.b false), (.i .i64 0), (.i .i64 0), (.s (bs [])), (.s (bs [])), (.s (bs [])), (.sl 10 []), (.sl 6 []), (.b false)] (.t 6) (.t 6), .asg 3 (.t 7)]) (.seq (.seq (.ops [.asg 4 (kI 0)]) (.block 0 acwToSortKeyS_L0)) (.seq (.ops [.mv 22 (.t 3), .asg 2 (.t 22)]) .ret))))
theorem trwToSortKeyS : trFn Try.prog 64 = some (acwToSortKeyS, [.mv 0 (.t 2)], 23) := by kernel_rfl
def qwToSortKeyS (r : (List GSortKey)) : Exit → St → Prop := retQ [.mv 0 (.t 2)] fun x _ => x = (fun y => (.d (.sl 11 (y.map cGSortKey)))) r
def qwToSortKeyS_0 (r : (List GSortKey)) : Exit → St → Prop := (thenK (wkK (avc Try.prog (.seq (.ops [.mv 22 (.t 3), .asg 2 (.t 22)]) .ret) (qwToSortKeyS r))) (qwToSortKeyS r))
def qwToSortKeyS_1 (r : (List GSortKey)) : Exit → St → Prop := (blockK 0 (qwToSortKeyS_0 r))
def stwToSortKeyS_L0 (p0 : (List GSortKey)) (x4 : Int) (b7_0 : (List GSortKey)) : St := ⟨[(0, (.d (.sl 11 (p0.map cGSortKey)))), (3, (.msl 7 11 0 b7_0.length b7_0.length)), (4, (vI x4))], [(7, rowsV (b7_0.map cGSortKey))]⟩
def acwToSortKey : AC := (.seq (.ops [.box 1 (.t 0), .alc 2 [(.d (.i .i64 0)), (.d (.i .i64 0)), (.d (.b false)), (.d (.i .i64 0)), (.d (.i .i64 0)), (.d (.s (bs []))), (.d (.s (bs []))), (.d (.s (bs []))), (.nil 10), (.nil 6), (.d (.b false))]]) (.seq (.ops [.alc 3 [(.d (.i .i64 0)), (.d (.i .i64 0)), (.d (.b false)), (.d (.i .i64 0)), (.d (.i .i64 0)), (.d (.s (bs []))), (.d (.s (bs []))), (.d (.s (bs []))), (.nil 10), (.nil 6), (.d (.b false))]]) (.seq (.ops [.fa 4 0 (.t 1), .ld 5 10 true (.t 4), .call (some 6) 21 [(.t 5)], .fa 7 0 (.t 3), .st 10 (.t 7) (.t 6)]) (.seq (.ops [.fa 8 10 (.t 1), .ld 9 1 false (.t 8), .fa 10 10 (.t 3), .st 1 (.t 10) (.t 9)]) (.seq (.ops [.ld 11 11 true (.t 3), .st 11 (.t 2) (.t 11)]) .ret)))))
theorem trwToSortKey : trFn Try.prog 122 = some (acwToSortKey, [.ld 0 11 true (.t 2)], 12) := by kernel_rfl
def qwToSortKey (r : GSortKey) : Exit → St → Prop := retQ [.ld 0 11 true (.t 2)] fun x _ => x = (fun y => (vGSortKey y)) r
def acwToSourceS_L0 : AC := (.loop (.seq (.seq (.ops [.mv 8 (.t 4), .mv 9 (.t 0), .len 10 (.t 9), .bin 11 .lss (.t 8) (.t 10)]) (.cond (.t 11) .skip (.exit 0))) (.seq (.block 1 (.ops [.mv 14 (.t 3), .mv 15 (.t 4), .mv 16 (.t 0), .mv 17 (.t 4), .ia 18 3 (.t 16) (.t 17), .ld 19 3 true (.t 18), .call (some 20) 121 [(.t 19)], .ia 21 3 (.t 14) (.t 15), .st 3 (.t 21) (.t 20)])) (.ops [.mv 12 (.t 4), .bin 13 .add (.t 12) (kI 1), .asg 4 (.t 13)]))))
def acwToSourceS : AC := (.seq (.ops [.asg 2 (.c (.nil 3))]) (.seq (.ops [.mv 5 (.t 0), .len 6 (.t 5), .mks 7 139 3 56 [(.s (bs [])), (.s (bs [])), (.sl 10 [])] (.t 6) (.t 6), .asg 3 (.t 7)]) (.seq (.seq (.ops [.asg 4 (kI 0)]) (.block 0 acwToSourceS_L0)) (.seq (.ops [.mv 22 (.t 3), .asg 2 (.t 22)]) .ret))))
theorem trwToSourceS : trFn Try.prog 62 = some (acwToSourceS, [.mv 0 (.t 2)], 23) := by kernel_rfl
def qwToSourceS (r : (List GSource)) : Exit → St → Prop := retQ [.mv 0 (.t 2)] fun x _ => x = (fun y => (.d (.sl 3 (y.map cGSource)))) r
def qwToSourceS_0 (r : (List GSource)) : Exit → St → Prop := (thenK (wkK (avc Try.prog (.seq (.ops [.mv 22 (.t 3), .asg 2 (.t 22)]) .ret) (qwToSourceS r))) (qwToSourceS r))
def qwToSourceS_1 (r : (List GSource)) : Exit → St → Prop := (blockK 0 (qwToSourceS_0 r))
def stwToSourceS_L0 (p0 : (List GSource)) (x4 : Int) (b7_0 : (List GSource)) : St := ⟨[(0, (.d (.sl 3 (p0.map cGSource)))), (3, (.msl 7 3 0 b7_0.length b7_0.length)), (4, (vI x4))], [(7, rowsV (b7_0.map cGSource))]⟩
def acwToSource : AC := (.seq (.ops [.box 1 (.t 0), .alc 2 [(.d (.s (bs []))), (.d (.s (bs []))), (.nil 10)]]) (.seq (.ops [.alc 3 [(.d (.s (bs []))), (.d (.s (bs []))), (.nil 10)]]) (.seq (.ops [.fa 4 0 (.t 1), .ld 5 1 false (.t 4), .fa 6 0 (.t 3), .st 1 (.t 6) (.t 5)]) (.seq (.ops [.fa 7 1 (.t 1), .ld 8 1 false (.t 7), .fa 9 1 (.t 3), .st 1 (.t 9) (.t 8)]) (.seq (.ops [.fa 10 2 (.t 1), .ld 11 1 false (.t 10), .call (some 12) 63 [(.t 11)], .fa 13 2 (.t 3), .st 1 (.t 13) (.t 12)]) (.seq (.ops [.ld 14 3 true (.t 3), .st 3 (.t 2) (.t 14)]) .ret))))))
theorem trwToSource : trFn Try.prog 121 = some (acwToSource, [.ld 0 3 true (.t 2)], 15) := by kernel_rfl
def qwToSource (r : GSource) : Exit → St → Prop := retQ [.ld 0 3 true (.t 2)] fun x _ => x = (fun y => (vGSource y)) r
def acwToValue : AC := (.seq (.ops [.box 1 (.t 0), .alc 2 [(.d (.i .i64 0)), (.d (.i .i64 0)), (.d (.s (bs [])))]]) (.seq (.ops [.alc 3 [(.d (.i .i64 0)), (.d (.i .i64 0)), (.d (.s (bs [])))]]) (.seq (.ops [.fa 4 0 (.t 1), .ld 5 1 false (.t 4), .fa 6 0 (.t 3), .st 1 (.t 6) (.t 5)]) (.seq (.ops [.fa 7 1 (.t 1), .ld 8 1 false (.t 7), .fa 9 1 (.t 3), .st 1 (.t 9) (.t 8)]) (.seq (.ops [.fa 10 2 (.t 1), .ld 11 1 false (.t 10), .fa 12 2 (.t 3), .st 1 (.t 12) (.t 11)]) (.seq (.ops [.ld 13 3 true (.t 3), .st 3 (.t 2) (.t 13)]) .ret))))))
theorem trwToValue : trFn Try.prog 73 = some (acwToValue, [.ld 0 3 true (.t 2)], 14) := by kernel_rfl
def qwToValue (r : GValue) : Exit → St → Prop := retQ [.ld 0 3 true (.t 2)] fun x _ => x = (fun y => (vGValue y)) r
def acwToStringS_L0 : AC := (.loop (.seq (.seq (.ops [.mv 8 (.t 4), .mv 9 (.t 0), .len 10 (.t 9), .bin 11 .lss (.t 8) (.t 10)]) (.cond (.t 11) .skip (.exit 0))) (.seq (.block 1 (.ops [.mv 14 (.t 3), .mv 15 (.t 4), .mv 16 (.t 0), .mv 17 (.t 4), .ia 18 1 (.t 16) (.t 17), .ld 19 1 false (.t 18), .ia 20 1 (.t 14) (.t 15), .st 1 (.t 20) (.t 19)])) (.ops [.mv 12 (.t 4), .bin 13 .add (.t 12) (kI 1), .asg 4 (.t 13)]))))
def acwToStringS : AC := (.seq (.ops [.asg 2 (.c (.nil 1))]) (.seq (.ops [.mv 5 (.t 0), .len 6 (.t 5), .mks 7 9 1 16 [(.s (bs []))] (.t 6) (.t 6), .asg 3 (.t 7)]) (.seq (.seq (.ops [.asg 4 (kI 0)]) (.block 0 acwToStringS_L0)) (.seq (.ops [.mv 21 (.t 3), .asg 2 (.t 21)]) .ret))))
theorem trwToStringS : trFn Try.prog 95 = some (acwToStringS, [.mv 0 (.t 2)], 22) := by kernel_rfl
def qwToStringS (r : (List (List UInt8))) : Exit → St → Prop := retQ [.mv 0 (.t 2)] fun x _ => x = (fun y => (.d (.sl 1 (y.map cStr)))) r
def qwToStringS_0 (r : (List (List UInt8))) : Exit → St → Prop := (thenK (wkK (avc Try.prog (.seq (.ops [.mv 21 (.t 3), .asg 2 (.t 21)]) .ret) (qwToStringS r))) (qwToStringS r))
def qwToStringS_1 (r : (List (List UInt8))) : Exit → St → Prop := (blockK 0 (qwToStringS_0 r))
def stwToStringS_L0 (p0 : (List (List UInt8))) (x4 : Int) (b7_0 : (List (List UInt8))) : St := ⟨[(0, (.d (.sl 1 (p0.map cStr)))), (3, (.msl 7 1 0 b7_0.length b7_0.length)), (4, (vI x4))], [(7, rowsV (b7_0.map cStr))]⟩
def acwSzStmt : AC := (.seq (.ops [.box 2 (.t 0), .asg 4 (kI 0)]) (.seq (.ops [.fa 5 1 (.t 2), .ld 6 6 true (.t 5), .mv 7 (.t 1), .call (some 8) 14 [(.t 6), (.t 7)], .asg 1 (.t 8)]) (.seq (.seq (.ops [.mv 9 (.t 1), .bin 10 .lss (.t 9) (kI 0)]) (.cond (.t 10) (.seq (.ops [.asg 4 (kI (-1))]) .ret) .skip)) (.seq (.ops [.mv 11 (.t 1), .fa 12 7 (.t 2), .ld 13 1 false (.t 12), .lns 14 (.t 13), .bin 15 .sub (.t 11) (.t 14), .asg 1 (.t 15)]) (.seq (.seq (.ops [.mv 16 (.t 1), .bin 17 .lss (.t 16) (kI 0)]) (.cond (.t 17) (.seq (.ops [.asg 4 (kI (-1))]) .ret) .skip)) (.seq (.ops [.fa 18 8 (.t 2), .ld 19 1 false (.t 18), .mv 20 (.t 1), .call (some 21) 90 [(.t 19), (.t 20)], .asg 1 (.t 21)]) (.seq (.seq (.ops [.mv 22 (.t 1), .bin 23 .lss (.t 22) (kI 0)]) (.cond (.t 23) (.seq (.ops [.asg 4 (kI (-1))]) .ret) .skip)) (.seq (.ops [.fa 24 9 (.t 2), .ld 25 1 false (.t 24), .mv 26 (.t 1), .call (some 27) 91 [(.t 25), (.t 26)], .asg 1 (.t 27)]) (.seq (.seq (.ops [.mv 28 (.t 1), .bin 29 .lss (.t 28) (kI 0)]) (.cond (.t 29) (.seq (.ops [.asg 4 (kI (-1))]) .ret) .skip)) (.seq (.ops [.fa 30 10 (.t 2), .ld 31 1 false (.t 30), .mv 32 (.t 1), .call (some 33) 56 [(.t 31), (.t 32)], .asg 1 (.t 33)]) (.seq (.seq (.ops [.mv 34 (.t 1), .bin 35 .lss (.t 34) (kI 0)]) (.cond (.t 35) (.seq (.ops [.asg 4 (kI (-1))]) .ret) .skip)) (.seq (.ops [.fa 36 11 (.t 2), .ld 37 1 false (.t 36), .mv 38 (.t 1), .call (some 39) 56 [(.t 37), (.t 38)], .asg 1 (.t 39)]) (.seq (.seq (.ops [.mv 40 (.t 1), .bin 41 .lss (.t 40) (kI 0)]) (.cond (.t 41) (.seq (.ops [.asg 4 (kI (-1))]) .ret) .skip)) (.seq (.ops [.mv 42 (.t 1), .asg 4 (.t 42)]) .ret))))))))))))))
theorem trwSzStmt : trFn Try.prog 33 = some (acwSzStmt, [.mv 0 (.t 4)], 43) := by kernel_rfl
def qwSzStmt (r : Int) : Exit → St → Prop := retQ [.mv 0 (.t 4)] fun x _ => x = (fun y => (vI y)) r
def acwSzExprS_L0 : AC := (.loop (.seq (.seq (.ops [.mv 12 (.t 5), .mv 13 (.t 0), .len 14 (.t 13), .bin 15 .lss (.t 12) (.t 14)]) (.cond (.t 15) .skip (.exit 0))) (.seq (.block 1 (.seq (.ops [.mv 18 (.t 0), .mv 19 (.t 5), .ia 20 10 (.t 18) (.t 19), .ld 21 10 true (.t 20), .mv 22 (.t 1), .call (some 23) 19 [(.t 21), (.t 22)], .asg 1 (.t 23)]) (.seq (.ops [.mv 24 (.t 1), .bin 25 .lss (.t 24) (kI 0)]) (.cond (.t 25) (.seq (.ops [.asg 4 (kI (-1))]) .ret) .skip)))) (.ops [.mv 16 (.t 5), .bin 17 .add (.t 16) (kI 1), .asg 5 (.t 17)]))))
def acwSzExprS : AC := (.seq (.ops [.asg 4 (kI 0)]) (.seq (.ops [.mv 6 (.t 1), .mv 7 (.t 0), .len 8 (.t 7), .bin 9 .sub (.t 6) (.t 8), .asg 1 (.t 9)]) (.seq (.seq (.ops [.mv 10 (.t 1), .bin 11 .lss (.t 10) (kI 0)]) (.cond (.t 11) (.seq (.ops [.asg 4 (kI (-1))]) .ret) .skip)) (.seq (.seq (.ops [.asg 5 (kI 0)]) (.block 0 acwSzExprS_L0)) (.seq (.ops [.mv 26 (.t 1), .asg 4 (.t 26)]) .ret)))))
theorem trwSzExprS : trFn Try.prog 56 = some (acwSzExprS, [.mv 0 (.t 4)], 27) := by kernel_rfl
def qwSzExprS (r : Int) : Exit → St → Prop := retQ [.mv 0 (.t 4)] fun x _ => x = (fun y => (vI y)) r
def qwSzExprS_0 (r : Int) : Exit → St → Prop := (thenK (wkK (avc Try.prog (.seq (.ops [.mv 26 (.t 1), .asg 4 (.t 26)]) .ret) (qwSzExprS r))) (qwSzExprS r))
def qwSzExprS_1 (r : Int) : Exit → St → Prop := (blockK 0 (qwSzExprS_0 r))
def stwSzExprS_L0 (p0 : (List GExpr)) (x1 : Int) (x5 : Int) : St := ⟨[(0, (.d (.sl 10 (p0.map cGExpr)))), (1, (vI x1)), (5, (vI x5))], []⟩
def acwSzExpr : AC := (.seq (.ops [.box 2 (.t 0), .asg 4 (kI 0)]) (.seq (.ops [.fa 5 3 (.t 2), .ld 6 3 true (.t 5), .mv 7 (.t 1), .call (some 8) 70 [(.t 6), (.t 7)], .asg 1 (.t 8)]) (.seq (.seq (.ops [.mv 9 (.t 1), .bin 10 .lss (.t 9) (kI 0)]) (.cond (.t 10) (.seq (.ops [.asg 4 (kI (-1))]) .ret) .skip)) (.seq (.ops [.mv 11 (.t 1), .fa 12 6 (.t 2), .ld 13 1 false (.t 12), .lns 14 (.t 13), .bin 15 .sub (.t 11) (.t 14), .asg 1 (.t 15)]) (.seq (.seq (.ops [.mv 16 (.t 1), .bin 17 .lss (.t 16) (kI 0)]) (.cond (.t 17) (.seq (.ops [.asg 4 (kI (-1))]) .ret) .skip)) (.seq (.ops [.mv 18 (.t 1), .fa 19 7 (.t 2), .ld 20 1 false (.t 19), .lns 21 (.t 20), .bin 22 .sub (.t 18) (.t 21), .asg 1 (.t 22)]) (.seq (.seq (.ops [.mv 23 (.t 1), .bin 24 .lss (.t 23) (kI 0)]) (.cond (.t 24) (.seq (.ops [.asg 4 (kI (-1))]) .ret) .skip)) (.seq (.ops [.fa 25 8 (.t 2), .ld 26 1 false (.t 25), .mv 27 (.t 1), .call (some 28) 56 [(.t 26), (.t 27)], .asg 1 (.t 28)]) (.seq (.seq (.ops [.mv 29 (.t 1), .bin 30 .lss (.t 29) (kI 0)]) (.cond (.t 30) (.seq (.ops [.asg 4 (kI (-1))]) .ret) .skip)) (.seq (.ops [.fa 31 9 (.t 2), .ld 32 1 false (.t 31), .mv 33 (.t 1), .call (some 34) 71 [(.t 32), (.t 33)], .asg 1 (.t 34)]) (.seq (.seq (.ops [.mv 35 (.t 1), .bin 36 .lss (.t 35) (kI 0)]) (.cond (.t 36) (.seq (.ops [.asg 4 (kI (-1))]) .ret) .skip)) (.seq (.ops [.mv 37 (.t 1), .asg 4 (.t 37)]) .ret))))))))))))
theorem trwSzExpr : trFn Try.prog 19 = some (acwSzExpr, [.mv 0 (.t 4)], 38) := by kernel_rfl
def qwSzExpr (r : Int) : Exit → St → Prop := retQ [.mv 0 (.t 4)] fun x _ => x = (fun y => (vI y)) r
def acwSzQueryS_L0 : AC := (.loop (.seq (.seq (.ops [.mv 12 (.t 5), .mv 13 (.t 0), .len 14 (.t 13), .bin 15 .lss (.t 12) (.t 14)]) (.cond (.t 15) .skip (.exit 0))) (.seq (.block 1 (.seq (.ops [.mv 18 (.t 0), .mv 19 (.t 5), .ia 20 6 (.t 18) (.t 19), .ld 21 6 true (.t 20), .mv 22 (.t 1), .call (some 23) 14 [(.t 21), (.t 22)], .asg 1 (.t 23)]) (.seq (.ops [.mv 24 (.t 1), .bin 25 .lss (.t 24) (kI 0)]) (.cond (.t 25) (.seq (.ops [.asg 4 (kI (-1))]) .ret) .skip)))) (.ops [.mv 16 (.t 5), .bin 17 .add (.t 16) (kI 1), .asg 5 (.t 17)]))))
def acwSzQueryS : AC := (.seq (.ops [.asg 4 (kI 0)]) (.seq (.ops [.mv 6 (.t 1), .mv 7 (.t 0), .len 8 (.t 7), .bin 9 .sub (.t 6) (.t 8), .asg 1 (.t 9)]) (.seq (.seq (.ops [.mv 10 (.t 1), .bin 11 .lss (.t 10) (kI 0)]) (.cond (.t 11) (.seq (.ops [.asg 4 (kI (-1))]) .ret) .skip)) (.seq (.seq (.ops [.asg 5 (kI 0)]) (.block 0 acwSzQueryS_L0)) (.seq (.ops [.mv 26 (.t 1), .asg 4 (.t 26)]) .ret)))))
theorem trwSzQueryS : trFn Try.prog 71 = some (acwSzQueryS, [.mv 0 (.t 4)], 27) := by kernel_rfl
def qwSzQueryS (r : Int) : Exit → St → Prop := retQ [.mv 0 (.t 4)] fun x _ => x = (fun y => (vI y)) r
def qwSzQueryS_0 (r : Int) : Exit → St → Prop := (thenK (wkK (avc Try.prog (.seq (.ops [.mv 26 (.t 1), .asg 4 (.t 26)]) .ret) (qwSzQueryS r))) (qwSzQueryS r))
def qwSzQueryS_1 (r : Int) : Exit → St → Prop := (blockK 0 (qwSzQueryS_0 r))
def stwSzQueryS_L0 (p0 : (List GQuery)) (x1 : Int) (x5 : Int) : St := ⟨[(0, (.d (.sl 6 (p0.map cGQuery)))), (1, (vI x1)), (5, (vI x5))], []⟩
def acwSzQuery : AC := (.seq (.ops [.box 2 (.t 0), .asg 4 (kI 0)]) (.seq (.ops [.fa 5 1 (.t 2), .ld 6 1 false (.t 5), .mv 7 (.t 1), .call (some 8) 54 [(.t 6), (.t 7)], .asg 1 (.t 8)]) (.seq (.seq (.ops [.mv 9 (.t 1), .bin 10 .lss (.t 9) (kI 0)]) (.cond (.t 10) (.seq (.ops [.asg 4 (kI (-1))]) .ret) .skip)) (.seq (.ops [.fa 11 2 (.t 2), .ld 12 1 false (.t 11), .mv 13 (.t 1), .call (some 14) 55 [(.t 12), (.t 13)], .asg 1 (.t 14)]) (.seq (.seq (.ops [.mv 15 (.t 1), .bin 16 .lss (.t 15) (kI 0)]) (.cond (.t 16) (.seq (.ops [.asg 4 (kI (-1))]) .ret) .skip)) (.seq (.ops [.fa 17 3 (.t 2), .ld 18 1 false (.t 17), .mv 19 (.t 1), .call (some 20) 56 [(.t 18), (.t 19)], .asg 1 (.t 20)]) (.seq (.seq (.ops [.mv 21 (.t 1), .bin 22 .lss (.t 21) (kI 0)]) (.cond (.t 22) (.seq (.ops [.asg 4 (kI (-1))]) .ret) .skip)) (.seq (.ops [.fa 23 4 (.t 2), .ld 24 1 false (.t 23), .mv 25 (.t 1), .call (some 26) 57 [(.t 24), (.t 25)], .asg 1 (.t 26)]) (.seq (.seq (.ops [.mv 27 (.t 1), .bin 28 .lss (.t 27) (kI 0)]) (.cond (.t 28) (.seq (.ops [.asg 4 (kI (-1))]) .ret) .skip)) (.seq (.ops [.mv 29 (.t 1), .asg 4 (.t 29)]) .ret))))))))))
theorem trwSzQuery : trFn Try.prog 14 = some (acwSzQuery, [.mv 0 (.t 4)], 30) := by kernel_rfl
def qwSzQuery (r : Int) : Exit → St → Prop := retQ [.mv 0 (.t 4)] fun x _ => x = (fun y => (vI y)) r
def acwSzSortKeyS_L0 : AC := (.loop (.seq (.seq (.ops [.mv 12 (.t 5), .mv 13 (.t 0), .len 14 (.t 13), .bin 15 .lss (.t 12) (.t 14)]) (.cond (.t 15) .skip (.exit 0))) (.seq (.block 1 (.seq (.ops [.mv 18 (.t 0), .mv 19 (.t 5), .ia 20 11 (.t 18) (.t 19), .ld 21 11 true (.t 20), .mv 22 (.t 1), .call (some 23) 119 [(.t 21), (.t 22)], .asg 1 (.t 23)]) (.seq (.ops [.mv 24 (.t 1), .bin 25 .lss (.t 24) (kI 0)]) (.cond (.t 25) (.seq (.ops [.asg 4 (kI (-1))]) .ret) .skip)))) (.ops [.mv 16 (.t 5), .bin 17 .add (.t 16) (kI 1), .asg 5 (.t 17)]))))
def acwSzSortKeyS : AC := (.seq (.ops [.asg 4 (kI 0)]) (.seq (.ops [.mv 6 (.t 1), .mv 7 (.t 0), .len 8 (.t 7), .bin 9 .sub (.t 6) (.t 8), .asg 1 (.t 9)]) (.seq (.seq (.ops [.mv 10 (.t 1), .bin 11 .lss (.t 10) (kI 0)]) (.cond (.t 11) (.seq (.ops [.asg 4 (kI (-1))]) .ret) .skip)) (.seq (.seq (.ops [.asg 5 (kI 0)]) (.block 0 acwSzSortKeyS_L0)) (.seq (.ops [.mv 26 (.t 1), .asg 4 (.t 26)]) .ret)))))
theorem trwSzSortKeyS : trFn Try.prog 57 = some (acwSzSortKeyS, [.mv 0 (.t 4)], 27) := by kernel_rfl
def qwSzSortKeyS (r : Int) : Exit → St → Prop := retQ [.mv 0 (.t 4)] fun x _ => x = (fun y => (vI y)) r
def qwSzSortKeyS_0 (r : Int) : Exit → St → Prop := (thenK (wkK (avc Try.prog (.seq (.ops [.mv 26 (.t 1), .asg 4 (.t 26)]) .ret) (qwSzSortKeyS r))) (qwSzSortKeyS r))
def qwSzSortKeyS_1 (r : Int) : Exit → St → Prop := (blockK 0 (qwSzSortKeyS_0 r))
def stwSzSortKeyS_L0 (p0 : (List GSortKey)) (x1 : Int) (x5 : Int) : St := ⟨[(0, (.d (.sl 11 (p0.map cGSortKey)))), (1, (vI x1)), (5, (vI x5))], []⟩
def acwSzSortKey : AC := (.seq (.ops [.box 2 (.t 0), .asg 4 (kI 0)]) (.seq (.ops [.fa 5 0 (.t 2), .ld 6 10 true (.t 5), .mv 7 (.t 1), .call (some 8) 19 [(.t 6), (.t 7)], .asg 1 (.t 8)]) (.seq (.seq (.ops [.mv 9 (.t 1), .bin 10 .lss (.t 9) (kI 0)]) (.cond (.t 10) (.seq (.ops [.asg 4 (kI (-1))]) .ret) .skip)) (.seq (.ops [.mv 11 (.t 1), .asg 4 (.t 11)]) .ret))))
theorem trwSzSortKey : trFn Try.prog 119 = some (acwSzSortKey, [.mv 0 (.t 4)], 12) := by kernel_rfl
def qwSzSortKey (r : Int) : Exit → St → Prop := retQ [.mv 0 (.t 4)] fun x _ => x = (fun y => (vI y)) r
def acwSzSourceS_L0 : AC := (.loop (.seq (.seq (.ops [.mv 12 (.t 5), .mv 13 (.t 0), .len 14 (.t 13), .bin 15 .lss (.t 12) (.t 14)]) (.cond (.t 15) .skip (.exit 0))) (.seq (.block 1 (.seq (.ops [.mv 18 (.t 0), .mv 19 (.t 5), .ia 20 3 (.t 18) (.t 19), .ld 21 3 true (.t 20), .mv 22 (.t 1), .call (some 23) 118 [(.t 21), (.t 22)], .asg 1 (.t 23)]) (.seq (.ops [.mv 24 (.t 1), .bin 25 .lss (.t 24) (kI 0)]) (.cond (.t 25) (.seq (.ops [.asg 4 (kI (-1))]) .ret) .skip)))) (.ops [.mv 16 (.t 5), .bin 17 .add (.t 16) (kI 1), .asg 5 (.t 17)]))))
def acwSzSourceS : AC := (.seq (.ops [.asg 4 (kI 0)]) (.seq (.ops [.mv 6 (.t 1), .mv 7 (.t 0), .len 8 (.t 7), .bin 9 .sub (.t 6) (.t 8), .asg 1 (.t 9)]) (.seq (.seq (.ops [.mv 10 (.t 1), .bin 11 .lss (.t 10) (kI 0)]) (.cond (.t 11) (.seq (.ops [.asg 4 (kI (-1))]) .ret) .skip)) (.seq (.seq (.ops [.asg 5 (kI 0)]) (.block 0 acwSzSourceS_L0)) (.seq (.ops [.mv 26 (.t 1), .asg 4 (.t 26)]) .ret)))))
theorem trwSzSourceS : trFn Try.prog 55 = some (acwSzSourceS, [.mv 0 (.t 4)], 27) := by kernel_rfl
def qwSzSourceS (r : Int) : Exit → St → Prop := retQ [.mv 0 (.t 4)] fun x _ => x = (fun y => (vI y)) r
def qwSzSourceS_0 (r : Int) : Exit → St → Prop := (thenK (wkK (avc Try.prog (.seq (.ops [.mv 26 (.t 1), .asg 4 (.t 26)]) .ret) (qwSzSourceS r))) (qwSzSourceS r))
def qwSzSourceS_1 (r : Int) : Exit → St → Prop := (blockK 0 (qwSzSourceS_0 r))
def stwSzSourceS_L0 (p0 : (List GSource)) (x1 : Int) (x5 : Int) : St := ⟨[(0, (.d (.sl 3 (p0.map cGSource)))), (1, (vI x1)), (5, (vI x5))], []⟩
def acwSzSource : AC := (.seq (.ops [.box 2 (.t 0), .asg 4 (kI 0)]) (.seq (.ops [.mv 5 (.t 1), .fa 6 0 (.t 2), .ld 7 1 false (.t 6), .lns 8 (.t 7), .bin 9 .sub (.t 5) (.t 8), .asg 1 (.t 9)]) (.seq (.seq (.ops [.mv 10 (.t 1), .bin 11 .lss (.t 10) (kI 0)]) (.cond (.t 11) (.seq (.ops [.asg 4 (kI (-1))]) .ret) .skip)) (.seq (.ops [.mv 12 (.t 1), .fa 13 1 (.t 2), .ld 14 1 false (.t 13), .lns 15 (.t 14), .bin 16 .sub (.t 12) (.t 15), .asg 1 (.t 16)]) (.seq (.seq (.ops [.mv 17 (.t 1), .bin 18 .lss (.t 17) (kI 0)]) (.cond (.t 18) (.seq (.ops [.asg 4 (kI (-1))]) .ret) .skip)) (.seq (.ops [.fa 19 2 (.t 2), .ld 20 1 false (.t 19), .mv 21 (.t 1), .call (some 22) 56 [(.t 20), (.t 21)], .asg 1 (.t 22)]) (.seq (.seq (.ops [.mv 23 (.t 1), .bin 24 .lss (.t 23) (kI 0)]) (.cond (.t 24) (.seq (.ops [.asg 4 (kI (-1))]) .ret) .skip)) (.seq (.ops [.mv 25 (.t 1), .asg 4 (.t 25)]) .ret))))))))
theorem trwSzSource : trFn Try.prog 118 = some (acwSzSource, [.mv 0 (.t 4)], 26) := by kernel_rfl
def qwSzSource (r : Int) : Exit → St → Prop := retQ [.mv 0 (.t 4)] fun x _ => x = (fun y => (vI y)) r
def acwSzItemS_L0 : AC := (.loop (.seq (.seq (.ops [.mv 12 (.t 5), .mv 13 (.t 0), .len 14 (.t 13), .bin 15 .lss (.t 12) (.t 14)]) (.cond (.t 15) .skip (.exit 0))) (.seq (.block 1 (.seq (.ops [.mv 18 (.t 0), .mv 19 (.t 5), .ia 20 13 (.t 18) (.t 19), .ld 21 13 true (.t 20), .mv 22 (.t 1), .call (some 23) 117 [(.t 21), (.t 22)], .asg 1 (.t 23)]) (.seq (.ops [.mv 24 (.t 1), .bin 25 .lss (.t 24) (kI 0)]) (.cond (.t 25) (.seq (.ops [.asg 4 (kI (-1))]) .ret) .skip)))) (.ops [.mv 16 (.t 5), .bin 17 .add (.t 16) (kI 1), .asg 5 (.t 17)]))))
def acwSzItemS : AC := (.seq (.ops [.asg 4 (kI 0)]) (.seq (.ops [.mv 6 (.t 1), .mv 7 (.t 0), .len 8 (.t 7), .bin 9 .sub (.t 6) (.t 8), .asg 1 (.t 9)]) (.seq (.seq (.ops [.mv 10 (.t 1), .bin 11 .lss (.t 10) (kI 0)]) (.cond (.t 11) (.seq (.ops [.asg 4 (kI (-1))]) .ret) .skip)) (.seq (.seq (.ops [.asg 5 (kI 0)]) (.block 0 acwSzItemS_L0)) (.seq (.ops [.mv 26 (.t 1), .asg 4 (.t 26)]) .ret)))))
theorem trwSzItemS : trFn Try.prog 54 = some (acwSzItemS, [.mv 0 (.t 4)], 27) := by kernel_rfl
def qwSzItemS (r : Int) : Exit → St → Prop := retQ [.mv 0 (.t 4)] fun x _ => x = (fun y => (vI y)) r
def qwSzItemS_0 (r : Int) : Exit → St → Prop := (thenK (wkK (avc Try.prog (.seq (.ops [.mv 26 (.t 1), .asg 4 (.t 26)]) .ret) (qwSzItemS r))) (qwSzItemS r))
def qwSzItemS_1 (r : Int) : Exit → St → Prop := (blockK 0 (qwSzItemS_0 r))
def stwSzItemS_L0 (p0 : (List GItem)) (x1 : Int) (x5 : Int) : St := ⟨[(0, (.d (.sl 13 (p0.map cGItem)))), (1, (vI x1)), (5, (vI x5))], []⟩
def acwSzItem : AC := (.seq (.ops [.box 2 (.t 0), .asg 4 (kI 0)]) (.seq (.ops [.mv 5 (.t 1), .fa 6 1 (.t 2), .ld 7 1 false (.t 6), .lns 8 (.t 7), .bin 9 .sub (.t 5) (.t 8), .asg 1 (.t 9)]) (.seq (.seq (.ops [.mv 10 (.t 1), .bin 11 .lss (.t 10) (kI 0)]) (.cond (.t 11) (.seq (.ops [.asg 4 (kI (-1))]) .ret) .skip)) (.seq (.ops [.fa 12 2 (.t 2), .ld 13 10 true (.t 12), .mv 14 (.t 1), .call (some 15) 19 [(.t 13), (.t 14)], .asg 1 (.t 15)]) (.seq (.seq (.ops [.mv 16 (.t 1), .bin 17 .lss (.t 16) (kI 0)]) (.cond (.t 17) (.seq (.ops [.asg 4 (kI (-1))]) .ret) .skip)) (.seq (.ops [.mv 18 (.t 1), .fa 19 12 (.t 2), .ld 20 1 false (.t 19), .lns 21 (.t 20), .bin 22 .sub (.t 18) (.t 21), .asg 1 (.t 22)]) (.seq (.seq (.ops [.mv 23 (.t 1), .bin 24 .lss (.t 23) (kI 0)]) (.cond (.t 24) (.seq (.ops [.asg 4 (kI (-1))]) .ret) .skip)) (.seq (.ops [.mv 25 (.t 1), .asg 4 (.t 25)]) .ret))))))))
theorem trwSzItem : trFn Try.prog 117 = some (acwSzItem, [.mv 0 (.t 4)], 26) := by kernel_rfl
def qwSzItem (r : Int) : Exit → St → Prop := retQ [.mv 0 (.t 4)] fun x _ => x = (fun y => (vI y)) r
def acwSzValue : AC := (.seq (.ops [.box 2 (.t 0), .asg 4 (kI 0)]) (.seq (.ops [.mv 5 (.t 1), .fa 6 2 (.t 2), .ld 7 1 false (.t 6), .lns 8 (.t 7), .bin 9 .sub (.t 5) (.t 8), .asg 1 (.t 9)]) (.seq (.seq (.ops [.mv 10 (.t 1), .bin 11 .lss (.t 10) (kI 0)]) (.cond (.t 11) (.seq (.ops [.asg 4 (kI (-1))]) .ret) .skip)) (.seq (.ops [.mv 12 (.t 1), .asg 4 (.t 12)]) .ret))))
theorem trwSzValue : trFn Try.prog 70 = some (acwSzValue, [.mv 0 (.t 4)], 13) := by kernel_rfl
def qwSzValue (r : Int) : Exit → St → Prop := retQ [.mv 0 (.t 4)] fun x _ => x = (fun y => (vI y)) r
def acwSzStringS_L0 : AC := (.loop (.seq (.seq (.ops [.mv 12 (.t 5), .mv 13 (.t 0), .len 14 (.t 13), .bin 15 .lss (.t 12) (.t 14)]) (.cond (.t 15) .skip (.exit 0))) (.seq (.block 1 (.seq (.ops [.mv 18 (.t 1), .mv 19 (.t 0), .mv 20 (.t 5), .ia 21 1 (.t 19) (.t 20), .ld 22 1 false (.t 21), .lns 23 (.t 22), .bin 24 .sub (.t 18) (.t 23), .asg 1 (.t 24)]) (.seq (.ops [.mv 25 (.t 1), .bin 26 .lss (.t 25) (kI 0)]) (.cond (.t 26) (.seq (.ops [.asg 4 (kI (-1))]) .ret) .skip)))) (.ops [.mv 16 (.t 5), .bin 17 .add (.t 16) (kI 1), .asg 5 (.t 17)]))))
def acwSzStringS : AC := (.seq (.ops [.asg 4 (kI 0)]) (.seq (.ops [.mv 6 (.t 1), .mv 7 (.t 0), .len 8 (.t 7), .bin 9 .sub (.t 6) (.t 8), .asg 1 (.t 9)]) (.seq (.seq (.ops [.mv 10 (.t 1), .bin 11 .lss (.t 10) (kI 0)]) (.cond (.t 11) (.seq (.ops [.asg 4 (kI (-1))]) .ret) .skip)) (.seq (.seq (.ops [.asg 5 (kI 0)]) (.block 0 acwSzStringS_L0)) (.seq (.ops [.mv 27 (.t 1), .asg 4 (.t 27)]) .ret)))))
theorem trwSzStringS : trFn Try.prog 91 = some (acwSzStringS, [.mv 0 (.t 4)], 28) := by kernel_rfl
def qwSzStringS (r : Int) : Exit → St → Prop := retQ [.mv 0 (.t 4)] fun x _ => x = (fun y => (vI y)) r
def qwSzStringS_0 (r : Int) : Exit → St → Prop := (thenK (wkK (avc Try.prog (.seq (.ops [.mv 27 (.t 1), .asg 4 (.t 27)]) .ret) (qwSzStringS r))) (qwSzStringS r))
def qwSzStringS_1 (r : Int) : Exit → St → Prop := (blockK 0 (qwSzStringS_0 r))
def stwSzStringS_L0 (p0 : (List (List UInt8))) (x1 : Int) (x5 : Int) : St := ⟨[(0, (.d (.sl 1 (p0.map cStr)))), (1, (vI x1)), (5, (vI x5))], []⟩
def acwSzExprSS_L0 : AC := (.loop (.seq (.seq (.ops [.mv 12 (.t 5), .mv 13 (.t 0), .len 14 (.t 13), .bin 15 .lss (.t 12) (.t 14)]) (.cond (.t 15) .skip (.exit 0))) (.seq (.block 1 (.seq (.ops [.mv 18 (.t 0), .mv 19 (.t 5), .ia 20 1 (.t 18) (.t 19), .ld 21 1 false (.t 20), .mv 22 (.t 1), .call (some 23) 56 [(.t 21), (.t 22)], .asg 1 (.t 23)]) (.seq (.ops [.mv 24 (.t 1), .bin 25 .lss (.t 24) (kI 0)]) (.cond (.t 25) (.seq (.ops [.asg 4 (kI (-1))]) .ret) .skip)))) (.ops [.mv 16 (.t 5), .bin 17 .add (.t 16) (kI 1), .asg 5 (.t 17)]))))
def acwSzExprSS : AC := (.seq (.ops [.asg 4 (kI 0)]) (.seq (.ops [.mv 6 (.t 1), .mv 7 (.t 0), .len 8 (.t 7), .bin 9 .sub (.t 6) (.t 8), .asg 1 (.t 9)]) (.seq (.seq (.ops [.mv 10 (.t 1), .bin 11 .lss (.t 10) (kI 0)]) (.cond (.t 11) (.seq (.ops [.asg 4 (kI (-1))]) .ret) .skip)) (.seq (.seq (.ops [.asg 5 (kI 0)]) (.block 0 acwSzExprSS_L0)) (.seq (.ops [.mv 26 (.t 1), .asg 4 (.t 26)]) .ret)))))
theorem trwSzExprSS : trFn Try.prog 90 = some (acwSzExprSS, [.mv 0 (.t 4)], 27) := by kernel_rfl
def qwSzExprSS (r : Int) : Exit → St → Prop := retQ [.mv 0 (.t 4)] fun x _ => x = (fun y => (vI y)) r
def qwSzExprSS_0 (r : Int) : Exit → St → Prop := (thenK (wkK (avc Try.prog (.seq (.ops [.mv 26 (.t 1), .asg 4 (.t 26)]) .ret) (qwSzExprSS r))) (qwSzExprSS r))
def qwSzExprSS_1 (r : Int) : Exit → St → Prop := (blockK 0 (qwSzExprSS_0 r))
def stwSzExprSS_L0 (p0 : (List (List GExpr))) (x1 : Int) (x5 : Int) : St := ⟨[(0, (.d (.sl 1 (p0.map (cSl 10 cGExpr))))), (1, (vI x1)), (5, (vI x5))], []⟩
def acsStmtDepth_L0 : AC := (.loop (.seq (.seq (.ops [.mv 8 (.t 5), .mv 9 (.t 4), .len 10 (.t 9), .bin 11 .lss (.t 8) (.t 10)]) (.cond (.t 11) .skip (.exit 0))) (.seq (.block 1 (.ops [.mv 14 (.t 3), .mv 15 (.t 4), .mv 16 (.t 5), .ia 17 10 (.t 15) (.t 16), .ld 18 10 true (.t 17), .call (some 19) 60 [(.t 18)], .call (some 20) 59 [(.t 14), (.t 19)], .asg 3 (.t 20)])) (.ops [.mv 12 (.t 5), .bin 13 .add (.t 12) (kI 1), .asg 5 (.t 13)]))))
def acsStmtDepth : AC := (.seq (.ops [.box 1 (.t 0), .asg 2 (kI 0)]) (.seq (.ops [.asg 3 (kI 0)]) (.seq (.ops [.ld 6 12 true (.t 1), .call (some 7) 92 [(.t 6)], .asg 4 (.t 7)]) (.seq (.seq (.ops [.asg 5 (kI 0)]) (.block 0 acsStmtDepth_L0)) (.seq (.ops [.mv 21 (.t 3), .asg 2 (.t 21)]) .ret)))))
theorem trsStmtDepth : trFn Try.prog 38 = some (acsStmtDepth, [.mv 0 (.t 2)], 22) := by kernel_rfl
def qsStmtDepth (r : Int) : Exit → St → Prop := retQ [.mv 0 (.t 2)] fun x _ => x = (fun y => (vI y)) r
def qsStmtDepth_0 (r : Int) : Exit → St → Prop := (thenK (wkK (avc Try.prog (.seq (.ops [.mv 21 (.t 3), .asg 2 (.t 21)]) .ret) (qsStmtDepth r))) (qsStmtDepth r))
def qsStmtDepth_1 (r : Int) : Exit → St → Prop := (blockK 0 (qsStmtDepth_0 r))
def stsStmtDepth_L0 (y1 : (List GExpr)) (x3 : Int) (x5 : Int) : St := ⟨[(3, (vI x3)), (4, (.osl 4 49 10 (y1.map cGExpr))), (5, (vI x5))], []⟩
def acsDepthOf_L0 : AC := (.loop (.seq (.seq (.ops [.mv 6 (.t 4), .fa 7 8 (.t 1), .ld 8 1 false (.t 7), .len 9 (.t 8), .bin 10 .lss (.t 6) (.t 9)]) (.cond (.t 10) .skip (.exit 0))) (.seq (.block 1 (.ops [.mv 13 (.t 3), .fa 14 8 (.t 1), .ld 15 1 false (.t 14), .mv 16 (.t 4), .ia 17 10 (.t 15) (.t 16), .ld 18 10 true (.t 17), .call (some 19) 60 [(.t 18)], .call (some 20) 59 [(.t 13), (.t 19)], .asg 3 (.t 20)])) (.ops [.mv 11 (.t 4), .bin 12 .add (.t 11) (kI 1), .asg 4 (.t 12)]))))
def acsDepthOf_L1 : AC := (.loop (.seq (.seq (.ops [.mv 21 (.t 5), .fa 22 9 (.t 1), .ld 23 1 false (.t 22), .len 24 (.t 23), .bin 25 .lss (.t 21) (.t 24)]) (.cond (.t 25) .skip (.exit 2))) (.seq (.block 3 (.ops [.mv 28 (.t 3), .fa 29 9 (.t 1), .ld 30 1 false (.t 29), .mv 31 (.t 5), .ia 32 6 (.t 30) (.t 31), .ld 33 6 true (.t 32), .call (some 34) 15 [(.t 33)], .call (some 35) 59 [(.t 28), (.t 34)], .asg 3 (.t 35)])) (.ops [.mv 26 (.t 5), .bin 27 .add (.t 26) (kI 1), .asg 5 (.t 27)]))))
def acsDepthOf : AC := (.seq (.ops [.box 1 (.t 0), .asg 2 (kI 0)]) (.seq (.ops [.asg 3 (kI 0)]) (.seq (.seq (.ops [.asg 4 (kI 0)]) (.block 0 acsDepthOf_L0)) (.seq (.seq (.ops [.asg 5 (kI 0)]) (.block 2 acsDepthOf_L1)) (.seq (.ops [.mv 36 (.t 3), .bin 37 .add (.t 36) (kI 1), .asg 2 (.t 37)]) .ret)))))
theorem trsDepthOf : trFn Try.prog 60 = some (acsDepthOf, [.mv 0 (.t 2)], 38) := by kernel_rfl
def qsDepthOf (r : Int) : Exit → St → Prop := retQ [.mv 0 (.t 2)] fun x _ => x = (fun y => (vI y)) r
def qsDepthOf_0 (r : Int) : Exit → St → Prop := (thenK (wkK (avc Try.prog (.seq (.seq (.ops [.asg 5 (.c (.d (.i .i64 0)))]) (.block 2 acsDepthOf_L1)) (.seq (.ops [.mv 36 (.t 3), .bin 37 .add (.t 36) (.c (.d (.i .i64 1))), .asg 2 (.t 37)]) .ret)) (qsDepthOf r))) (qsDepthOf r))
def qsDepthOf_1 (r : Int) : Exit → St → Prop := (blockK 0 (qsDepthOf_0 r))
def qsDepthOf_2 (r : Int) : Exit → St → Prop := (thenK (wkK (avc Try.prog (.seq (.ops [.mv 36 (.t 3), .bin 37 .add (.t 36) (.c (.d (.i .i64 1))), .asg 2 (.t 37)]) .ret) (qsDepthOf r))) (qsDepthOf r))
def qsDepthOf_3 (r : Int) : Exit → St → Prop := (blockK 2 (qsDepthOf_2 r))
def stsDepthOf_L0 (p0 : GExpr) (x3 : Int) (x4 : Int) : St := ⟨[(1, (.ptr 1 0)), (3, (vI x3)), (4, (vI x4))], [(1, bGExpr p0)]⟩
def stsDepthOf_L1 (p0 : GExpr) (x3_4 : Int) (x5 : Int) : St := ⟨[(1, (.ptr 1 0)), (3, (vI x3_4)), (5, (vI x5))], [(1, bGExpr p0)]⟩
def acsQueryDepth_L0 : AC := (.loop (.seq (.seq (.ops [.mv 8 (.t 5), .mv 9 (.t 4), .len 10 (.t 9), .bin 11 .lss (.t 8) (.t 10)]) (.cond (.t 11) .skip (.exit 0))) (.seq (.block 1 (.ops [.mv 14 (.t 3), .mv 15 (.t 4), .mv 16 (.t 5), .ia 17 10 (.t 15) (.t 16), .ld 18 10 true (.t 17), .call (some 19) 60 [(.t 18)], .call (some 20) 59 [(.t 14), (.t 19)], .asg 3 (.t 20)])) (.ops [.mv 12 (.t 5), .bin 13 .add (.t 12) (kI 1), .asg 5 (.t 13)]))))
def acsQueryDepth : AC := (.seq (.ops [.box 1 (.t 0), .asg 2 (kI 0)]) (.seq (.ops [.asg 3 (kI 0)]) (.seq (.ops [.ld 6 6 true (.t 1), .call (some 7) 58 [(.t 6)], .asg 4 (.t 7)]) (.seq (.seq (.ops [.asg 5 (kI 0)]) (.block 0 acsQueryDepth_L0)) (.seq (.ops [.mv 21 (.t 3), .asg 2 (.t 21)]) .ret)))))
theorem trsQueryDepth : trFn Try.prog 15 = some (acsQueryDepth, [.mv 0 (.t 2)], 22) := by kernel_rfl
def qsQueryDepth (r : Int) : Exit → St → Prop := retQ [.mv 0 (.t 2)] fun x _ => x = (fun y => (vI y)) r
def qsQueryDepth_0 (r : Int) : Exit → St → Prop := (thenK (wkK (avc Try.prog (.seq (.ops [.mv 21 (.t 3), .asg 2 (.t 21)]) .ret) (qsQueryDepth r))) (qsQueryDepth r))
def qsQueryDepth_1 (r : Int) : Exit → St → Prop := (blockK 0 (qsQueryDepth_0 r))
def stsQueryDepth_L0 (y1 : (List GExpr)) (x3 : Int) (x5 : Int) : St := ⟨[(3, (vI x3)), (4, (.osl 4 49 10 (y1.map cGExpr))), (5, (vI x5))], []⟩
def acsL7Exprs_J1 : AC := (.ops [.mv 13 (.t 4), .bin 14 .add (.t 13) (kI 1), .asg 4 (.t 14)])
def acsL7Exprs_L0 : AC := (.loop (.seq (.seq (.ops [.mv 8 (.t 4), .fa 9 1 (.t 1), .ld 10 1 false (.t 9), .len 11 (.t 10), .bin 12 .lss (.t 8) (.t 11)]) (.cond (.t 12) .skip (.exit 0))) (.seq (.block 1 (.seq (.ops [.fa 15 1 (.t 1), .ld 16 1 false (.t 15), .mv 17 (.t 4), .ia 18 13 (.t 16) (.t 17), .fa 19 0 (.t 18), .ld 20 1 false (.t 19), .not 21 (.t 20)]) (.cond (.t 21) (.ops [.mv 22 (.t 3), .fa 23 1 (.t 1), .ld 24 1 false (.t 23), .mv 25 (.t 4), .ia 26 13 (.t 24) (.t 25), .fa 27 2 (.t 26), .ld 28 10 true (.t 27), .bsl 29 49 10 [(.t 28)], .app 30 49 10 136 (.t 22) (.t 29), .asg 3 (.t 30)]) .skip))) acsL7Exprs_J1)))
def acsL7Exprs_L2 : AC := (.loop (.seq (.seq (.ops [.mv 31 (.t 5), .fa 32 2 (.t 1), .ld 33 1 false (.t 32), .len 34 (.t 33), .bin 35 .lss (.t 31) (.t 34)]) (.cond (.t 35) .skip (.exit 2))) (.seq (.block 3 (.ops [.mv 38 (.t 3), .fa 39 2 (.t 1), .ld 40 1 false (.t 39), .mv 41 (.t 5), .ia 42 3 (.t 40) (.t 41), .fa 43 2 (.t 42), .ld 44 1 false (.t 43), .app 45 49 10 136 (.t 38) (.t 44), .asg 3 (.t 45)])) (.ops [.mv 36 (.t 5), .bin 37 .add (.t 36) (kI 1), .asg 5 (.t 37)]))))
def acsL7Exprs_L3 : AC := (.loop (.seq (.seq (.ops [.mv 50 (.t 6), .fa 51 4 (.t 1), .ld 52 1 false (.t 51), .len 53 (.t 52), .bin 54 .lss (.t 50) (.t 53)]) (.cond (.t 54) .skip (.exit 4))) (.seq (.block 5 (.ops [.mv 57 (.t 3), .fa 58 4 (.t 1), .ld 59 1 false (.t 58), .mv 60 (.t 6), .ia 61 11 (.t 59) (.t 60), .fa 62 0 (.t 61), .ld 63 10 true (.t 62), .bsl 64 49 10 [(.t 63)], .app 65 49 10 136 (.t 57) (.t 64), .asg 3 (.t 65)])) (.ops [.mv 55 (.t 6), .bin 56 .add (.t 55) (kI 1), .asg 6 (.t 56)]))))
def acsL7Exprs : AC := (.seq (.ops [.box 1 (.t 0), .asg 2 (.c (.nil 10))]) (.seq (.ops [.bsl 7 49 10 [], .asg 3 (.t 7)]) (.seq (.seq (.ops [.asg 4 (kI 0)]) (.block 0 acsL7Exprs_L0)) (.seq (.seq (.ops [.asg 5 (kI 0)]) (.block 2 acsL7Exprs_L2)) (.seq (.ops [.mv 46 (.t 3), .fa 47 3 (.t 1), .ld 48 1 false (.t 47), .app 49 49 10 136 (.t 46) (.t 48), .asg 3 (.t 49)]) (.seq (.seq (.ops [.asg 6 (kI 0)]) (.block 4 acsL7Exprs_L3)) (.seq (.ops [.mv 66 (.t 3), .asg 2 (.t 66)]) .ret)))))))
theorem trsL7Exprs : trFn Try.prog 58 = some (acsL7Exprs, [.mv 0 (.t 2)], 67) := by kernel_rfl
def qsL7Exprs (r : (List GExpr)) : Exit → St → Prop := retQ [.mv 0 (.t 2)] fun x b => x = (fun (y : (List GExpr)) => (.osl 2000000 49 10 (y.map cGExpr))) r ∧ bxHas ((fun (y : (List GExpr)) => []) r) b
def qsL7Exprs_0 (r : (List GExpr)) : Exit → St → Prop := (thenK (wkK (avc Try.prog (.seq (.seq (.ops [.asg 5 (.c (.d (.i .i64 0)))]) (.block 2 acsL7Exprs_L2)) (.seq (.ops [.mv 46 (.t 3), .fa 47 3 (.t 1), .ld 48 1 false (.t 47), .app 49 49 10 136 (.t 46) (.t 48), .asg 3 (.t 49)]) (.seq (.seq (.ops [.asg 6 (.c (.d (.i .i64 0)))]) (.block 4 acsL7Exprs_L3)) (.seq (.ops [.mv 66 (.t 3), .asg 2 (.t 66)]) .ret)))) (qsL7Exprs r))) (qsL7Exprs r))
def qsL7Exprs_1 (r : (List GExpr)) : Exit → St → Prop := (blockK 0 (qsL7Exprs_0 r))
def qsL7Exprs_2 (r : (List GExpr)) : Exit → St → Prop := (thenK (avc Try.prog acsL7Exprs_L0 (qsL7Exprs_1 r)) (qsL7Exprs_1 r))
def qsL7Exprs_3 (r : (List GExpr)) : Exit → St → Prop := (thenK (wkK (avc Try.prog (.seq (.ops [.mv 46 (.t 3), .fa 47 3 (.t 1), .ld 48 1 false (.t 47), .app 49 49 10 136 (.t 46) (.t 48), .asg 3 (.t 49)]) (.seq (.seq (.ops [.asg 6 (.c (.d (.i .i64 0)))]) (.block 4 acsL7Exprs_L3)) (.seq (.ops [.mv 66 (.t 3), .asg 2 (.t 66)]) .ret))) (qsL7Exprs r))) (qsL7Exprs r))
def qsL7Exprs_4 (r : (List GExpr)) : Exit → St → Prop := (blockK 2 (qsL7Exprs_3 r))
def qsL7Exprs_5 (r : (List GExpr)) : Exit → St → Prop := (thenK (wkK (avc Try.prog (.seq (.ops [.mv 66 (.t 3), .asg 2 (.t 66)]) .ret) (qsL7Exprs r))) (qsL7Exprs r))
def qsL7Exprs_6 (r : (List GExpr)) : Exit → St → Prop := (blockK 4 (qsL7Exprs_5 r))
def stsL7Exprs_L0 (p0 : GQuery) (x3 : (List GExpr)) (x4 : Int) : St := ⟨[(1, (.ptr 1 0)), (3, (.osl 3 49 10 (x3.map cGExpr))), (4, (vI x4))], [(1, bGQuery p0)]⟩
def stsL7Exprs_J1 (x4 : Int) (p0 : GQuery) (x3_4 : (List GExpr)) : St := ⟨[(1, (.ptr 1 0)), (3, (.osl 3 49 10 (x3_4.map cGExpr))), (4, (vI x4))], [(1, bGQuery p0)]⟩
def stsL7Exprs_L2 (p0 : GQuery) (x3_5 : (List GExpr)) (x5 : Int) : St := ⟨[(1, (.ptr 1 0)), (3, (.osl 3 49 10 (x3_5.map cGExpr))), (5, (vI x5))], [(1, bGQuery p0)]⟩
def stsL7Exprs_L3 (p0 : GQuery) (x3_9 : (List GExpr)) (x6 : Int) : St := ⟨[(1, (.ptr 1 0)), (3, (.osl 3 49 10 (x3_9.map cGExpr))), (6, (vI x6))], [(1, bGQuery p0)]⟩
def acsL1Max : AC := (.seq (.ops [.asg 4 (kI 0)]) (.seq (.seq (.ops [.mv 5 (.t 0), .mv 6 (.t 1), .bin 7 .gtr (.t 5) (.t 6)]) (.cond (.t 7) (.seq (.ops [.mv 8 (.t 0), .asg 4 (.t 8)]) .ret) .skip)) (.seq (.ops [.mv 9 (.t 1), .asg 4 (.t 9)]) .ret)))
theorem trsL1Max : trFn Try.prog 59 = some (acsL1Max, [.mv 0 (.t 4)], 10) := by kernel_rfl
def qsL1Max (r : Int) : Exit → St → Prop := retQ [.mv 0 (.t 4)] fun x _ => x = (fun y => (vI y)) r
def acsL8Exprs_L0 : AC := (.loop (.seq (.seq (.ops [.mv 8 (.t 4), .fa 9 8 (.t 1), .ld 10 1 false (.t 9), .len 11 (.t 10), .bin 12 .lss (.t 8) (.t 11)]) (.cond (.t 12) .skip (.exit 0))) (.seq (.block 1 (.ops [.mv 15 (.t 3), .fa 16 8 (.t 1), .ld 17 1 false (.t 16), .mv 18 (.t 4), .ia 19 1 (.t 17) (.t 18), .ld 20 1 false (.t 19), .app 21 49 10 136 (.t 15) (.t 20), .asg 3 (.t 21)])) (.ops [.mv 13 (.t 4), .bin 14 .add (.t 13) (kI 1), .asg 4 (.t 14)]))))
def acsL8Exprs : AC := (.seq (.ops [.box 1 (.t 0), .asg 2 (.c (.nil 10))]) (.seq (.ops [.fa 5 1 (.t 1), .ld 6 6 true (.t 5), .call (some 7) 58 [(.t 6)], .asg 3 (.t 7)]) (.seq (.seq (.ops [.asg 4 (kI 0)]) (.block 0 acsL8Exprs_L0)) (.seq (.ops [.mv 22 (.t 3), .fa 23 10 (.t 1), .ld 24 1 false (.t 23), .app 25 49 10 136 (.t 22) (.t 24), .asg 3 (.t 25)]) (.seq (.ops [.mv 26 (.t 3), .fa 27 11 (.t 1), .ld 28 1 false (.t 27), .app 29 49 10 136 (.t 26) (.t 28), .asg 2 (.t 29)]) .ret)))))
theorem trsL8Exprs : trFn Try.prog 92 = some (acsL8Exprs, [.mv 0 (.t 2)], 30) := by kernel_rfl
def qsL8Exprs (r : (List GExpr)) : Exit → St → Prop := retQ [.mv 0 (.t 2)] fun x b => x = (fun (y : (List GExpr)) => (.osl 2000000 49 10 (y.map cGExpr))) r ∧ bxHas ((fun (y : (List GExpr)) => []) r) b
def qsL8Exprs_0 (r : (List GExpr)) : Exit → St → Prop := (thenK (wkK (avc Try.prog (.seq (.ops [.mv 22 (.t 3), .fa 23 10 (.t 1), .ld 24 1 false (.t 23), .app 25 49 10 136 (.t 22) (.t 24), .asg 3 (.t 25)]) (.seq (.ops [.mv 26 (.t 3), .fa 27 11 (.t 1), .ld 28 1 false (.t 27), .app 29 49 10 136 (.t 26) (.t 28), .asg 2 (.t 29)]) .ret)) (qsL8Exprs r))) (qsL8Exprs r))
def qsL8Exprs_1 (r : (List GExpr)) : Exit → St → Prop := (blockK 0 (qsL8Exprs_0 r))
def stsL8Exprs_L0 (p0 : GStmt) (x3 : (List GExpr)) (x4 : Int) : St := ⟨[(1, (.ptr 1 0)), (3, (.osl 3 49 10 (x3.map cGExpr))), (4, (vI x4))], [(1, bGStmt p0)]⟩
def acwEqStmt : AC := (.seq (.ops [.box 2 (.t 0), .box 3 (.t 1), .asg 4 (kB false)]) (.seq (.seq (.ops [.fa 5 0 (.t 2), .ld 6 1 false (.t 5), .fa 7 0 (.t 3), .ld 8 1 false (.t 7), .bin 9 .neq (.t 6) (.t 8)]) (.cond (.t 9) (.seq (.ops [.asg 4 (kB false)]) .ret) .skip)) (.seq (.seq (.ops [.fa 10 1 (.t 2), .ld 11 6 true (.t 10), .fa 12 1 (.t 3), .ld 13 6 true (.t 12), .call (some 14) 18 [(.t 11), (.t 13)], .not 15 (.t 14)]) (.cond (.t 15) (.seq (.ops [.asg 4 (kB false)]) .ret) .skip)) (.seq (.seq (.ops [.fa 16 7 (.t 2), .ld 17 1 false (.t 16), .fa 18 7 (.t 3), .ld 19 1 false (.t 18), .bin 20 .neq (.t 17) (.t 19)]) (.cond (.t 20) (.seq (.ops [.asg 4 (kB false)]) .ret) .skip)) (.seq (.seq (.ops [.fa 21 8 (.t 2), .ld 22 1 false (.t 21), .fa 23 8 (.t 3), .ld 24 1 false (.t 23), .call (some 25) 98 [(.t 22), (.t 24)], .not 26 (.t 25)]) (.cond (.t 26) (.seq (.ops [.asg 4 (kB false)]) .ret) .skip)) (.seq (.seq (.ops [.fa 27 9 (.t 2), .ld 28 1 false (.t 27), .fa 29 9 (.t 3), .ld 30 1 false (.t 29), .call (some 31) 43 [(.t 28), (.t 30)], .not 32 (.t 31)]) (.cond (.t 32) (.seq (.ops [.asg 4 (kB false)]) .ret) .skip)) (.seq (.seq (.ops [.fa 33 10 (.t 2), .ld 34 1 false (.t 33), .fa 35 10 (.t 3), .ld 36 1 false (.t 35), .call (some 37) 51 [(.t 34), (.t 36)], .not 38 (.t 37)]) (.cond (.t 38) (.seq (.ops [.asg 4 (kB false)]) .ret) .skip)) (.seq (.seq (.ops [.fa 39 11 (.t 2), .ld 40 1 false (.t 39), .fa 41 11 (.t 3), .ld 42 1 false (.t 41), .call (some 43) 51 [(.t 40), (.t 42)], .not 44 (.t 43)]) (.cond (.t 44) (.seq (.ops [.asg 4 (kB false)]) .ret) .skip)) (.seq (.ops [.asg 4 (kB true)]) .ret)))))))))
theorem trwEqStmt : trFn Try.prog 37 = some (acwEqStmt, [.mv 0 (.t 4)], 45) := by kernel_rfl
def qwEqStmt (r : Bool) : Exit → St → Prop := retQ [.mv 0 (.t 4)] fun x _ => x = (fun y => (vB y)) r
def acwEqQuery : AC := (.seq (.ops [.box 2 (.t 0), .box 3 (.t 1), .asg 4 (kB false)]) (.seq (.seq (.ops [.fa 5 0 (.t 2), .ld 6 1 false (.t 5), .fa 7 0 (.t 3), .ld 8 1 false (.t 7), .eqb 9 true (.t 6) (.t 8)]) (.cond (.t 9) (.seq (.ops [.asg 4 (kB false)]) .ret) .skip)) (.seq (.seq (.ops [.fa 10 1 (.t 2), .ld 11 1 false (.t 10), .fa 12 1 (.t 3), .ld 13 1 false (.t 12), .call (some 14) 67 [(.t 11), (.t 13)], .not 15 (.t 14)]) (.cond (.t 15) (.seq (.ops [.asg 4 (kB false)]) .ret) .skip)) (.seq (.seq (.ops [.fa 16 2 (.t 2), .ld 17 1 false (.t 16), .fa 18 2 (.t 3), .ld 19 1 false (.t 18), .call (some 20) 68 [(.t 17), (.t 19)], .not 21 (.t 20)]) (.cond (.t 21) (.seq (.ops [.asg 4 (kB false)]) .ret) .skip)) (.seq (.seq (.ops [.fa 22 3 (.t 2), .ld 23 1 false (.t 22), .fa 24 3 (.t 3), .ld 25 1 false (.t 24), .call (some 26) 51 [(.t 23), (.t 25)], .not 27 (.t 26)]) (.cond (.t 27) (.seq (.ops [.asg 4 (kB false)]) .ret) .skip)) (.seq (.seq (.ops [.fa 28 4 (.t 2), .ld 29 1 false (.t 28), .fa 30 4 (.t 3), .ld 31 1 false (.t 30), .call (some 32) 69 [(.t 29), (.t 31)], .not 33 (.t 32)]) (.cond (.t 33) (.seq (.ops [.asg 4 (kB false)]) .ret) .skip)) (.seq (.seq (.ops [.fa 34 5 (.t 2), .ld 35 1 false (.t 34), .fa 36 5 (.t 3), .ld 37 1 false (.t 36), .bin 38 .neq (.t 35) (.t 37)]) (.cond (.t 38) (.seq (.ops [.asg 4 (kB false)]) .ret) .skip)) (.seq (.ops [.asg 4 (kB true)]) .ret))))))))
theorem trwEqQuery : trFn Try.prog 18 = some (acwEqQuery, [.mv 0 (.t 4)], 39) := by kernel_rfl
def qwEqQuery (r : Bool) : Exit → St → Prop := retQ [.mv 0 (.t 4)] fun x _ => x = (fun y => (vB y)) r
def acwEqExprS_L0 : AC := (.loop (.seq (.seq (.ops [.mv 11 (.t 5), .mv 12 (.t 0), .len 13 (.t 12), .bin 14 .lss (.t 11) (.t 13)]) (.cond (.t 14) .skip (.exit 0))) (.seq (.block 1 (.seq (.dops [[], [], [0, 1], [2], [], [], [4, 5], [6], [3, 7], [8]] [.mv 17 (.t 0), .mv 18 (.t 5), .ia 19 10 (.t 17) (.t 18), .ld 20 10 true (.t 19), .mv 21 (.t 1), .mv 22 (.t 5), .ia 23 10 (.t 21) (.t 22), .ld 24 10 true (.t 23), .call (some 25) 23 [(.t 20), (.t 24)], .not 26 (.t 25)]) (.cond (.t 26) (.seq (.ops [.asg 4 (kB false)]) .ret) .skip))) (.ops [.mv 15 (.t 5), .bin 16 .add (.t 15) (kI 1), .asg 5 (.t 16)]))))
def acwEqExprS : AC := (.seq (.ops [.asg 4 (kB false)]) (.seq (.seq (.ops [.mv 6 (.t 0), .len 7 (.t 6), .mv 8 (.t 1), .len 9 (.t 8), .bin 10 .neq (.t 7) (.t 9)]) (.cond (.t 10) (.seq (.ops [.asg 4 (kB false)]) .ret) .skip)) (.seq (.seq (.ops [.asg 5 (kI 0)]) (.block 0 acwEqExprS_L0)) (.seq (.ops [.asg 4 (kB true)]) .ret))))
theorem trwEqExprS : trFn Try.prog 51 = some (acwEqExprS, [.mv 0 (.t 4)], 27) := by kernel_rfl
def qwEqExprS (r : Bool) : Exit → St → Prop := retQ [.mv 0 (.t 4)] fun x _ => x = (fun y => (vB y)) r
def qwEqExprS_0 (r : Bool) : Exit → St → Prop := (thenK (wkK (avc Try.prog (.seq (.ops [.asg 4 (.c (.d (.b true)))]) .ret) (qwEqExprS r))) (qwEqExprS r))
def qwEqExprS_1 (r : Bool) : Exit → St → Prop := (blockK 0 (qwEqExprS_0 r))
def stwEqExprS_L0 (p0 : (List GExpr)) (p1 : (List GExpr)) (x5 : Int) : St := ⟨[(0, (.d (.sl 10 (p0.map cGExpr)))), (1, (.d (.sl 10 (p1.map cGExpr)))), (5, (vI x5))], []⟩
def acwEqExpr : AC := (.seq (.ops [.box 2 (.t 0), .box 3 (.t 1), .asg 4 (kB false)]) (.seq (.seq (.ops [.fa 5 0 (.t 2), .ld 6 1 false (.t 5), .fa 7 0 (.t 3), .ld 8 1 false (.t 7), .bin 9 .neq (.t 6) (.t 8)]) (.cond (.t 9) (.seq (.ops [.asg 4 (kB false)]) .ret) .skip)) (.seq (.seq (.ops [.fa 10 1 (.t 2), .ld 11 1 false (.t 10), .fa 12 1 (.t 3), .ld 13 1 false (.t 12), .bin 14 .neq (.t 11) (.t 13)]) (.cond (.t 14) (.seq (.ops [.asg 4 (kB false)]) .ret) .skip)) (.seq (.seq (.ops [.fa 15 2 (.t 2), .ld 16 1 false (.t 15), .fa 17 2 (.t 3), .ld 18 1 false (.t 17), .eqb 19 true (.t 16) (.t 18)]) (.cond (.t 19) (.seq (.ops [.asg 4 (kB false)]) .ret) .skip)) (.seq (.seq (.ops [.fa 20 3 (.t 2), .ld 21 3 true (.t 20), .fa 22 3 (.t 3), .ld 23 3 true (.t 22), .call (some 24) 77 [(.t 21), (.t 23)], .not 25 (.t 24)]) (.cond (.t 25) (.seq (.ops [.asg 4 (kB false)]) .ret) .skip)) (.seq (.seq (.ops [.fa 26 6 (.t 2), .ld 27 1 false (.t 26), .fa 28 6 (.t 3), .ld 29 1 false (.t 28), .bin 30 .neq (.t 27) (.t 29)]) (.cond (.t 30) (.seq (.ops [.asg 4 (kB false)]) .ret) .skip)) (.seq (.seq (.ops [.fa 31 7 (.t 2), .ld 32 1 false (.t 31), .fa 33 7 (.t 3), .ld 34 1 false (.t 33), .bin 35 .neq (.t 32) (.t 34)]) (.cond (.t 35) (.seq (.ops [.asg 4 (kB false)]) .ret) .skip)) (.seq (.seq (.ops [.fa 36 8 (.t 2), .ld 37 1 false (.t 36), .fa 38 8 (.t 3), .ld 39 1 false (.t 38), .call (some 40) 51 [(.t 37), (.t 39)], .not 41 (.t 40)]) (.cond (.t 41) (.seq (.ops [.asg 4 (kB false)]) .ret) .skip)) (.seq (.seq (.ops [.fa 42 9 (.t 2), .ld 43 1 false (.t 42), .fa 44 9 (.t 3), .ld 45 1 false (.t 44), .call (some 46) 78 [(.t 43), (.t 45)], .not 47 (.t 46)]) (.cond (.t 47) (.seq (.ops [.asg 4 (kB false)]) .ret) .skip)) (.seq (.ops [.asg 4 (kB true)]) .ret))))))))))
theorem trwEqExpr : trFn Try.prog 23 = some (acwEqExpr, [.mv 0 (.t 4)], 48) := by kernel_rfl
def qwEqExpr (r : Bool) : Exit → St → Prop := retQ [.mv 0 (.t 4)] fun x _ => x = (fun y => (vB y)) r
def acwEqValue : AC := (.seq (.ops [.box 2 (.t 0), .box 3 (.t 1), .asg 4 (kB false)]) (.seq (.seq (.ops [.fa 5 0 (.t 2), .ld 6 1 false (.t 5), .fa 7 0 (.t 3), .ld 8 1 false (.t 7), .bin 9 .neq (.t 6) (.t 8)]) (.cond (.t 9) (.seq (.ops [.asg 4 (kB false)]) .ret) .skip)) (.seq (.seq (.ops [.fa 10 1 (.t 2), .ld 11 1 false (.t 10), .fa 12 1 (.t 3), .ld 13 1 false (.t 12), .bin 14 .neq (.t 11) (.t 13)]) (.cond (.t 14) (.seq (.ops [.asg 4 (kB false)]) .ret) .skip)) (.seq (.seq (.ops [.fa 15 2 (.t 2), .ld 16 1 false (.t 15), .fa 17 2 (.t 3), .ld 18 1 false (.t 17), .bin 19 .neq (.t 16) (.t 18)]) (.cond (.t 19) (.seq (.ops [.asg 4 (kB false)]) .ret) .skip)) (.seq (.ops [.asg 4 (kB true)]) .ret)))))
theorem trwEqValue : trFn Try.prog 77 = some (acwEqValue, [.mv 0 (.t 4)], 20) := by kernel_rfl
def qwEqValue (r : Bool) : Exit → St → Prop := retQ [.mv 0 (.t 4)] fun x _ => x = (fun y => (vB y)) r
def acwEqQueryS_L0 : AC := (.loop (.seq (.seq (.ops [.mv 11 (.t 5), .mv 12 (.t 0), .len 13 (.t 12), .bin 14 .lss (.t 11) (.t 13)]) (.cond (.t 14) .skip (.exit 0))) (.seq (.block 1 (.seq (.dops [[], [], [0, 1], [2], [], [], [4, 5], [6], [3, 7], [8]] [.mv 17 (.t 0), .mv 18 (.t 5), .ia 19 6 (.t 17) (.t 18), .ld 20 6 true (.t 19), .mv 21 (.t 1), .mv 22 (.t 5), .ia 23 6 (.t 21) (.t 22), .ld 24 6 true (.t 23), .call (some 25) 18 [(.t 20), (.t 24)], .not 26 (.t 25)]) (.cond (.t 26) (.seq (.ops [.asg 4 (kB false)]) .ret) .skip))) (.ops [.mv 15 (.t 5), .bin 16 .add (.t 15) (kI 1), .asg 5 (.t 16)]))))
def acwEqQueryS : AC := (.seq (.ops [.asg 4 (kB false)]) (.seq (.seq (.ops [.mv 6 (.t 0), .len 7 (.t 6), .mv 8 (.t 1), .len 9 (.t 8), .bin 10 .neq (.t 7) (.t 9)]) (.cond (.t 10) (.seq (.ops [.asg 4 (kB false)]) .ret) .skip)) (.seq (.seq (.ops [.asg 5 (kI 0)]) (.block 0 acwEqQueryS_L0)) (.seq (.ops [.asg 4 (kB true)]) .ret))))
theorem trwEqQueryS : trFn Try.prog 78 = some (acwEqQueryS, [.mv 0 (.t 4)], 27) := by kernel_rfl
def qwEqQueryS (r : Bool) : Exit → St → Prop := retQ [.mv 0 (.t 4)] fun x _ => x = (fun y => (vB y)) r
def qwEqQueryS_0 (r : Bool) : Exit → St → Prop := (thenK (wkK (avc Try.prog (.seq (.ops [.asg 4 (.c (.d (.b true)))]) .ret) (qwEqQueryS r))) (qwEqQueryS r))
def qwEqQueryS_1 (r : Bool) : Exit → St → Prop := (blockK 0 (qwEqQueryS_0 r))
def stwEqQueryS_L0 (p0 : (List GQuery)) (p1 : (List GQuery)) (x5 : Int) : St := ⟨[(0, (.d (.sl 6 (p0.map cGQuery)))), (1, (.d (.sl 6 (p1.map cGQuery)))), (5, (vI x5))], []⟩
def acwEqSortKeyS_L0 : AC := (.loop (.seq (.seq (.ops [.mv 11 (.t 5), .mv 12 (.t 0), .len 13 (.t 12), .bin 14 .lss (.t 11) (.t 13)]) (.cond (.t 14) .skip (.exit 0))) (.seq (.block 1 (.seq (.dops [[], [], [0, 1], [2], [], [], [4, 5], [6], [3, 7], [8]] [.mv 17 (.t 0), .mv 18 (.t 5), .ia 19 11 (.t 17) (.t 18), .ld 20 11 true (.t 19), .mv 21 (.t 1), .mv 22 (.t 5), .ia 23 11 (.t 21) (.t 22), .ld 24 11 true (.t 23), .call (some 25) 125 [(.t 20), (.t 24)], .not 26 (.t 25)]) (.cond (.t 26) (.seq (.ops [.asg 4 (kB false)]) .ret) .skip))) (.ops [.mv 15 (.t 5), .bin 16 .add (.t 15) (kI 1), .asg 5 (.t 16)]))))
def acwEqSortKeyS : AC := (.seq (.ops [.asg 4 (kB false)]) (.seq (.seq (.ops [.mv 6 (.t 0), .len 7 (.t 6), .mv 8 (.t 1), .len 9 (.t 8), .bin 10 .neq (.t 7) (.t 9)]) (.cond (.t 10) (.seq (.ops [.asg 4 (kB false)]) .ret) .skip)) (.seq (.seq (.ops [.asg 5 (kI 0)]) (.block 0 acwEqSortKeyS_L0)) (.seq (.ops [.asg 4 (kB true)]) .ret))))
theorem trwEqSortKeyS : trFn Try.prog 69 = some (acwEqSortKeyS, [.mv 0 (.t 4)], 27) := by kernel_rfl
def qwEqSortKeyS (r : Bool) : Exit → St → Prop := retQ [.mv 0 (.t 4)] fun x _ => x = (fun y => (vB y)) r
def qwEqSortKeyS_0 (r : Bool) : Exit → St → Prop := (thenK (wkK (avc Try.prog (.seq (.ops [.asg 4 (.c (.d (.b true)))]) .ret) (qwEqSortKeyS r))) (qwEqSortKeyS r))
def qwEqSortKeyS_1 (r : Bool) : Exit → St → Prop := (blockK 0 (qwEqSortKeyS_0 r))
def stwEqSortKeyS_L0 (p0 : (List GSortKey)) (p1 : (List GSortKey)) (x5 : Int) : St := ⟨[(0, (.d (.sl 11 (p0.map cGSortKey)))), (1, (.d (.sl 11 (p1.map cGSortKey)))), (5, (vI x5))], []⟩
def acwEqSortKey : AC := (.seq (.ops [.box 2 (.t 0), .box 3 (.t 1), .asg 4 (kB false)]) (.seq (.seq (.ops [.fa 5 0 (.t 2), .ld 6 10 true (.t 5), .fa 7 0 (.t 3), .ld 8 10 true (.t 7), .call (some 9) 23 [(.t 6), (.t 8)], .not 10 (.t 9)]) (.cond (.t 10) (.seq (.ops [.asg 4 (kB false)]) .ret) .skip)) (.seq (.seq (.ops [.fa 11 10 (.t 2), .ld 12 1 false (.t 11), .fa 13 10 (.t 3), .ld 14 1 false (.t 13), .eqb 15 true (.t 12) (.t 14)]) (.cond (.t 15) (.seq (.ops [.asg 4 (kB false)]) .ret) .skip)) (.seq (.ops [.asg 4 (kB true)]) .ret))))
theorem trwEqSortKey : trFn Try.prog 125 = some (acwEqSortKey, [.mv 0 (.t 4)], 16) := by kernel_rfl
def qwEqSortKey (r : Bool) : Exit → St → Prop := retQ [.mv 0 (.t 4)] fun x _ => x = (fun y => (vB y)) r
def acwEqSourceS_L0 : AC := (.loop (.seq (.seq (.ops [.mv 11 (.t 5), .mv 12 (.t 0), .len 13 (.t 12), .bin 14 .lss (.t 11) (.t 13)]) (.cond (.t 14) .skip (.exit 0))) (.seq (.block 1 (.seq (.dops [[], [], [0, 1], [2], [], [], [4, 5], [6], [3, 7], [8]] [.mv 17 (.t 0), .mv 18 (.t 5), .ia 19 3 (.t 17) (.t 18), .ld 20 3 true (.t 19), .mv 21 (.t 1), .mv 22 (.t 5), .ia 23 3 (.t 21) (.t 22), .ld 24 3 true (.t 23), .call (some 25) 124 [(.t 20), (.t 24)], .not 26 (.t 25)]) (.cond (.t 26) (.seq (.ops [.asg 4 (kB false)]) .ret) .skip))) (.ops [.mv 15 (.t 5), .bin 16 .add (.t 15) (kI 1), .asg 5 (.t 16)]))))
def acwEqSourceS : AC := (.seq (.ops [.asg 4 (kB false)]) (.seq (.seq (.ops [.mv 6 (.t 0), .len 7 (.t 6), .mv 8 (.t 1), .len 9 (.t 8), .bin 10 .neq (.t 7) (.t 9)]) (.cond (.t 10) (.seq (.ops [.asg 4 (kB false)]) .ret) .skip)) (.seq (.seq (.ops [.asg 5 (kI 0)]) (.block 0 acwEqSourceS_L0)) (.seq (.ops [.asg 4 (kB true)]) .ret))))
theorem trwEqSourceS : trFn Try.prog 68 = some (acwEqSourceS, [.mv 0 (.t 4)], 27) := by kernel_rfl
def qwEqSourceS (r : Bool) : Exit → St → Prop := retQ [.mv 0 (.t 4)] fun x _ => x = (fun y => (vB y)) r
def qwEqSourceS_0 (r : Bool) : Exit → St → Prop := (thenK (wkK (avc Try.prog (.seq (.ops [.asg 4 (.c (.d (.b true)))]) .ret) (qwEqSourceS r))) (qwEqSourceS r))
def qwEqSourceS_1 (r : Bool) : Exit → St → Prop := (blockK 0 (qwEqSourceS_0 r))
def stwEqSourceS_L0 (p0 : (List GSource)) (p1 : (List GSource)) (x5 : Int) : St := ⟨[(0, (.d (.sl 3 (p0.map cGSource)))), (1, (.d (.sl 3 (p1.map cGSource)))), (5, (vI x5))], []⟩
def acwEqSource : AC := (.seq (.ops [.box 2 (.t 0), .box 3 (.t 1), .asg 4 (kB false)]) (.seq (.seq (.ops [.fa 5 0 (.t 2), .ld 6 1 false (.t 5), .fa 7 0 (.t 3), .ld 8 1 false (.t 7), .bin 9 .neq (.t 6) (.t 8)]) (.cond (.t 9) (.seq (.ops [.asg 4 (kB false)]) .ret) .skip)) (.seq (.seq (.ops [.fa 10 1 (.t 2), .ld 11 1 false (.t 10), .fa 12 1 (.t 3), .ld 13 1 false (.t 12), .bin 14 .neq (.t 11) (.t 13)]) (.cond (.t 14) (.seq (.ops [.asg 4 (kB false)]) .ret) .skip)) (.seq (.seq (.ops [.fa 15 2 (.t 2), .ld 16 1 false (.t 15), .fa 17 2 (.t 3), .ld 18 1 false (.t 17), .call (some 19) 51 [(.t 16), (.t 18)], .not 20 (.t 19)]) (.cond (.t 20) (.seq (.ops [.asg 4 (kB false)]) .ret) .skip)) (.seq (.ops [.asg 4 (kB true)]) .ret)))))
theorem trwEqSource : trFn Try.prog 124 = some (acwEqSource, [.mv 0 (.t 4)], 21) := by kernel_rfl
def qwEqSource (r : Bool) : Exit → St → Prop := retQ [.mv 0 (.t 4)] fun x _ => x = (fun y => (vB y)) r
def acwEqItemS_L0 : AC := (.loop (.seq (.seq (.ops [.mv 11 (.t 5), .mv 12 (.t 0), .len 13 (.t 12), .bin 14 .lss (.t 11) (.t 13)]) (.cond (.t 14) .skip (.exit 0))) (.seq (.block 1 (.seq (.dops [[], [], [0, 1], [2], [], [], [4, 5], [6], [3, 7], [8]] [.mv 17 (.t 0), .mv 18 (.t 5), .ia 19 13 (.t 17) (.t 18), .ld 20 13 true (.t 19), .mv 21 (.t 1), .mv 22 (.t 5), .ia 23 13 (.t 21) (.t 22), .ld 24 13 true (.t 23), .call (some 25) 123 [(.t 20), (.t 24)], .not 26 (.t 25)]) (.cond (.t 26) (.seq (.ops [.asg 4 (kB false)]) .ret) .skip))) (.ops [.mv 15 (.t 5), .bin 16 .add (.t 15) (kI 1), .asg 5 (.t 16)]))))
def acwEqItemS : AC := (.seq (.ops [.asg 4 (kB false)]) (.seq (.seq (.ops [.mv 6 (.t 0), .len 7 (.t 6), .mv 8 (.t 1), .len 9 (.t 8), .bin 10 .neq (.t 7) (.t 9)]) (.cond (.t 10) (.seq (.ops [.asg 4 (kB false)]) .ret) .skip)) (.seq (.seq (.ops [.asg 5 (kI 0)]) (.block 0 acwEqItemS_L0)) (.seq (.ops [.asg 4 (kB true)]) .ret))))
theorem trwEqItemS : trFn Try.prog 67 = some (acwEqItemS, [.mv 0 (.t 4)], 27) := by kernel_rfl
def qwEqItemS (r : Bool) : Exit → St → Prop := retQ [.mv 0 (.t 4)] fun x _ => x = (fun y => (vB y)) r
def qwEqItemS_0 (r : Bool) : Exit → St → Prop := (thenK (wkK (avc Try.prog (.seq (.ops [.asg 4 (.c (.d (.b true)))]) .ret) (qwEqItemS r))) (qwEqItemS r))
def qwEqItemS_1 (r : Bool) : Exit → St → Prop := (blockK 0 (qwEqItemS_0 r))
def stwEqItemS_L0 (p0 : (List GItem)) (p1 : (List GItem)) (x5 : Int) : St := ⟨[(0, (.d (.sl 13 (p0.map cGItem)))), (1, (.d (.sl 13 (p1.map cGItem)))), (5, (vI x5))], []⟩
def acwEqItem : AC := (.seq (.ops [.box 2 (.t 0), .box 3 (.t 1), .asg 4 (kB false)]) (.seq (.seq (.ops [.fa 5 0 (.t 2), .ld 6 1 false (.t 5), .fa 7 0 (.t 3), .ld 8 1 false (.t 7), .eqb 9 true (.t 6) (.t 8)]) (.cond (.t 9) (.seq (.ops [.asg 4 (kB false)]) .ret) .skip)) (.seq (.seq (.ops [.fa 10 1 (.t 2), .ld 11 1 false (.t 10), .fa 12 1 (.t 3), .ld 13 1 false (.t 12), .bin 14 .neq (.t 11) (.t 13)]) (.cond (.t 14) (.seq (.ops [.asg 4 (kB false)]) .ret) .skip)) (.seq (.seq (.ops [.fa 15 2 (.t 2), .ld 16 10 true (.t 15), .fa 17 2 (.t 3), .ld 18 10 true (.t 17), .call (some 19) 23 [(.t 16), (.t 18)], .not 20 (.t 19)]) (.cond (.t 20) (.seq (.ops [.asg 4 (kB false)]) .ret) .skip)) (.seq (.seq (.ops [.fa 21 12 (.t 2), .ld 22 1 false (.t 21), .fa 23 12 (.t 3), .ld 24 1 false (.t 23), .bin 25 .neq (.t 22) (.t 24)]) (.cond (.t 25) (.seq (.ops [.asg 4 (kB false)]) .ret) .skip)) (.seq (.ops [.asg 4 (kB true)]) .ret))))))
theorem trwEqItem : trFn Try.prog 123 = some (acwEqItem, [.mv 0 (.t 4)], 26) := by kernel_rfl
def qwEqItem (r : Bool) : Exit → St → Prop := retQ [.mv 0 (.t 4)] fun x _ => x = (fun y => (vB y)) r
def acwEqExprSS_L0 : AC := (.loop (.seq (.seq (.ops [.mv 11 (.t 5), .mv 12 (.t 0), .len 13 (.t 12), .bin 14 .lss (.t 11) (.t 13)]) (.cond (.t 14) .skip (.exit 0))) (.seq (.block 1 (.seq (.dops [[], [], [0, 1], [2], [], [], [4, 5], [6], [3, 7], [8]] [.mv 17 (.t 0), .mv 18 (.t 5), .ia 19 1 (.t 17) (.t 18), .ld 20 1 false (.t 19), .mv 21 (.t 1), .mv 22 (.t 5), .ia 23 1 (.t 21) (.t 22), .ld 24 1 false (.t 23), .call (some 25) 51 [(.t 20), (.t 24)], .not 26 (.t 25)]) (.cond (.t 26) (.seq (.ops [.asg 4 (kB false)]) .ret) .skip))) (.ops [.mv 15 (.t 5), .bin 16 .add (.t 15) (kI 1), .asg 5 (.t 16)]))))
def acwEqExprSS : AC := (.seq (.ops [.asg 4 (kB false)]) (.seq (.seq (.ops [.mv 6 (.t 0), .len 7 (.t 6), .mv 8 (.t 1), .len 9 (.t 8), .bin 10 .neq (.t 7) (.t 9)]) (.cond (.t 10) (.seq (.ops [.asg 4 (kB false)]) .ret) .skip)) (.seq (.seq (.ops [.asg 5 (kI 0)]) (.block 0 acwEqExprSS_L0)) (.seq (.ops [.asg 4 (kB true)]) .ret))))
theorem trwEqExprSS : trFn Try.prog 98 = some (acwEqExprSS, [.mv 0 (.t 4)], 27) := by kernel_rfl
def qwEqExprSS (r : Bool) : Exit → St → Prop := retQ [.mv 0 (.t 4)] fun x _ => x = (fun y => (vB y)) r
def qwEqExprSS_0 (r : Bool) : Exit → St → Prop := (thenK (wkK (avc Try.prog (.seq (.ops [.asg 4 (.c (.d (.b true)))]) .ret) (qwEqExprSS r))) (qwEqExprSS r))
def qwEqExprSS_1 (r : Bool) : Exit → St → Prop := (blockK 0 (qwEqExprSS_0 r))
def stwEqExprSS_L0 (p0 : (List (List GExpr))) (p1 : (List (List GExpr))) (x5 : Int) : St := ⟨[(0, (.d (.sl 1 (p0.map (cSl 10 cGExpr))))), (1, (.d (.sl 1 (p1.map (cSl 10 cGExpr))))), (5, (vI x5))], []⟩
def acwEqStringS_L0 : AC := (.loop (.seq (.seq (.ops [.mv 11 (.t 5), .mv 12 (.t 0), .len 13 (.t 12), .bin 14 .lss (.t 11) (.t 13)]) (.cond (.t 14) .skip (.exit 0))) (.seq (.block 1 (.seq (.dops [[], [], [0, 1], [2], [], [], [4, 5], [6], [3, 7]] [.mv 17 (.t 0), .mv 18 (.t 5), .ia 19 1 (.t 17) (.t 18), .ld 20 1 false (.t 19), .mv 21 (.t 1), .mv 22 (.t 5), .ia 23 1 (.t 21) (.t 22), .ld 24 1 false (.t 23), .bin 25 .neq (.t 20) (.t 24)]) (.cond (.t 25) (.seq (.ops [.asg 4 (kB false)]) .ret) .skip))) (.ops [.mv 15 (.t 5), .bin 16 .add (.t 15) (kI 1), .asg 5 (.t 16)]))))
def acwEqStringS : AC := (.seq (.ops [.asg 4 (kB false)]) (.seq (.seq (.ops [.mv 6 (.t 0), .len 7 (.t 6), .mv 8 (.t 1), .len 9 (.t 8), .bin 10 .neq (.t 7) (.t 9)]) (.cond (.t 10) (.seq (.ops [.asg 4 (kB false)]) .ret) .skip)) (.seq (.seq (.ops [.asg 5 (kI 0)]) (.block 0 acwEqStringS_L0)) (.seq (.ops [.asg 4 (kB true)]) .ret))))
theorem trwEqStringS : trFn Try.prog 43 = some (acwEqStringS, [.mv 0 (.t 4)], 26) := by kernel_rfl
def qwEqStringS (r : Bool) : Exit → St → Prop := retQ [.mv 0 (.t 4)] fun x _ => x = (fun y => (vB y)) r
def qwEqStringS_0 (r : Bool) : Exit → St → Prop := (thenK (wkK (avc Try.prog (.seq (.ops [.asg 4 (.c (.d (.b true)))]) .ret) (qwEqStringS r))) (qwEqStringS r))
def qwEqStringS_1 (r : Bool) : Exit → St → Prop := (blockK 0 (qwEqStringS_0 r))
def stwEqStringS_L0 (p0 : (List (List UInt8))) (p1 : (List (List UInt8))) (x5 : Int) : St := ⟨[(0, (.d (.sl 1 (p0.map cStr)))), (1, (.d (.sl 1 (p1.map cStr)))), (5, (vI x5))], []⟩
def acwToExprSS_L0 : AC := (.loop (.seq (.seq (.ops [.mv 8 (.t 4), .mv 9 (.t 0), .len 10 (.t 9), .bin 11 .lss (.t 8) (.t 10)]) (.cond (.t 11) .skip (.exit 0))) (.seq (.block 1 (.ops [.mv 14 (.t 3), .mv 15 (.t 4), .mv 16 (.t 0), .mv 17 (.t 4), .ia 18 1 (.t 16) (.t 17), .ld 19 1 false (.t 18), .call (some 20) 63 [(.t 19)], .ia 21 1 (.t 14) (.t 15), .st 1 (.t 21) (.t 20)])) (.ops [.mv 12 (.t 4), .bin 13 .add (.t 12) (kI 1), .asg 4 (.t 13)]))))
def acwToExprSS : AC := (.seq (.ops [.asg 2 (.c (.nil 1))]) (.seq (.ops [.mv 5 (.t 0), .len 6 (.t 5), .mks 7 32 1 24 [(.sl 10 [])] (.t 6) (.t 6), .asg 3 (.t 7)]) (.seq (.seq (.ops [.asg 4 (kI 0)]) (.block 0 acwToExprSS_L0)) (.seq (.ops [.mv 22 (.t 3), .asg 2 (.t 22)]) .ret))))
theorem trwToExprSS : trFn Try.prog 94 = some (acwToExprSS, [.mv 0 (.t 2)], 23) := by kernel_rfl
def qwToExprSS (r : (List (List GExpr))) : Exit → St → Prop := retQ [.mv 0 (.t 2)] fun x _ => x = (fun y => (.d (.sl 1 (y.map (cSl 10 cGExpr))))) r
def qwToExprSS_0 (r : (List (List GExpr))) : Exit → St → Prop := (thenK (wkK (avc Try.prog (.seq (.ops [.mv 22 (.t 3), .asg 2 (.t 22)]) .ret) (qwToExprSS r))) (qwToExprSS r))
def qwToExprSS_1 (r : (List (List GExpr))) : Exit → St → Prop := (blockK 0 (qwToExprSS_0 r))
def stwToExprSS_L0 (p0 : (List (List GExpr))) (x4 : Int) (b7_0 : (List (List GExpr))) : St := ⟨[(0, (.d (.sl 1 (p0.map (cSl 10 cGExpr))))), (3, (.msl 7 1 0 b7_0.length b7_0.length)), (4, (vI x4))], [(7, rowsV (b7_0.map (cSl 10 cGExpr)))]⟩
theorem koGValue (x : GValue) (h : ∀ d ∈ cGValue x, OkD d) : okGValue x := ⟨ko_i _ (ko_sub h 0 1), ko_i _ (ko_sub h 1 1), ko_s _ (ko_sub h 2 1)⟩
mutual
theorem koGExpr : ∀ x : GExpr, (∀ d ∈ cGExpr x, OkD d) → okGExpr x
  | ⟨a0, a1, a2, a3, a4, a5, a6, a7⟩, h0 => by
    rw [cGExpr_eq] at h0
    have h : ∀ d ∈ oGExpr ⟨a0, a1, a2, a3, a4, a5, a6, a7⟩, OkD d := h0
    unfold okGExpr
    exact ⟨ko_i _ (ko_sub h 0 1), ko_i _ (ko_sub h 1 1), trivial, koGValue a3 (ko_sub h 3 3), ko_s _ (ko_sub h 6 1), ko_s _ (ko_sub h 7 1), ⟨by simpa using (ko_len (ko_sub h 8 1)).1, koLGExpr a6 (ko_len (ko_sub h 8 1)).2⟩, ⟨by simpa using (ko_len (ko_sub h 9 1)).1, koLGQuery a7 (ko_len (ko_sub h 9 1)).2⟩⟩
theorem koGItem : ∀ x : GItem, (∀ d ∈ cGItem x, OkD d) → okGItem x
  | ⟨a0, a1, a2, a3⟩, h0 => by
    rw [cGItem_eq] at h0
    have h : ∀ d ∈ oGItem ⟨a0, a1, a2, a3⟩, OkD d := h0
    unfold okGItem
    exact ⟨trivial, ko_s _ (ko_sub h 1 1), koGExpr a2 (by rw [cGExpr_eq]; exact (ko_sub h 2 10)), ko_s _ (ko_sub h 12 1)⟩
theorem koGQuery : ∀ x : GQuery, (∀ d ∈ cGQuery x, OkD d) → okGQuery x
  | ⟨a0, a1, a2, a3, a4, a5⟩, h0 => by
    rw [cGQuery_eq] at h0
    have h : ∀ d ∈ oGQuery ⟨a0, a1, a2, a3, a4, a5⟩, OkD d := h0
    unfold okGQuery
    exact ⟨trivial, ⟨by simpa using (ko_len (ko_sub h 1 1)).1, koLGItem a1 (ko_len (ko_sub h 1 1)).2⟩, ⟨by simpa using (ko_len (ko_sub h 2 1)).1, koLGSource a2 (ko_len (ko_sub h 2 1)).2⟩, ⟨by simpa using (ko_len (ko_sub h 3 1)).1, koLGExpr a3 (ko_len (ko_sub h 3 1)).2⟩, ⟨by simpa using (ko_len (ko_sub h 4 1)).1, koLGSortKey a4 (ko_len (ko_sub h 4 1)).2⟩, ko_i _ (ko_sub h 5 1)⟩
theorem koGSortKey : ∀ x : GSortKey, (∀ d ∈ cGSortKey x, OkD d) → okGSortKey x
  | ⟨a0, a1⟩, h0 => by
    rw [cGSortKey_eq] at h0
    have h : ∀ d ∈ oGSortKey ⟨a0, a1⟩, OkD d := h0
    unfold okGSortKey
    exact ⟨koGExpr a0 (by rw [cGExpr_eq]; exact (ko_sub h 0 10)), trivial⟩
theorem koGSource : ∀ x : GSource, (∀ d ∈ cGSource x, OkD d) → okGSource x
  | ⟨a0, a1, a2⟩, h0 => by
    rw [cGSource_eq] at h0
    have h : ∀ d ∈ oGSource ⟨a0, a1, a2⟩, OkD d := h0
    unfold okGSource
    exact ⟨ko_s _ (ko_sub h 0 1), ko_s _ (ko_sub h 1 1), ⟨by simpa using (ko_len (ko_sub h 2 1)).1, koLGExpr a2 (ko_len (ko_sub h 2 1)).2⟩⟩
theorem koLGExpr : ∀ l : List GExpr, (∀ x ∈ l.map cGExpr, ∀ d ∈ x, OkD d) → okLGExpr l
  | [], _ => by unfold okLGExpr; trivial
  | x :: l, h => by
    unfold okLGExpr
    exact ⟨koGExpr x (h _ (by simp)), koLGExpr l fun y hy => h y (List.mem_cons_of_mem _ hy)⟩
theorem koLGItem : ∀ l : List GItem, (∀ x ∈ l.map cGItem, ∀ d ∈ x, OkD d) → okLGItem l
  | [], _ => by unfold okLGItem; trivial
  | x :: l, h => by
    unfold okLGItem
    exact ⟨koGItem x (h _ (by simp)), koLGItem l fun y hy => h y (List.mem_cons_of_mem _ hy)⟩
theorem koLGQuery : ∀ l : List GQuery, (∀ x ∈ l.map cGQuery, ∀ d ∈ x, OkD d) → okLGQuery l
  | [], _ => by unfold okLGQuery; trivial
  | x :: l, h => by
    unfold okLGQuery
    exact ⟨koGQuery x (h _ (by simp)), koLGQuery l fun y hy => h y (List.mem_cons_of_mem _ hy)⟩
theorem koLGSortKey : ∀ l : List GSortKey, (∀ x ∈ l.map cGSortKey, ∀ d ∈ x, OkD d) → okLGSortKey l
  | [], _ => by unfold okLGSortKey; trivial
  | x :: l, h => by
    unfold okLGSortKey
    exact ⟨koGSortKey x (h _ (by simp)), koLGSortKey l fun y hy => h y (List.mem_cons_of_mem _ hy)⟩
theorem koLGSource : ∀ l : List GSource, (∀ x ∈ l.map cGSource, ∀ d ∈ x, OkD d) → okLGSource l
  | [], _ => by unfold okLGSource; trivial
  | x :: l, h => by
    unfold okLGSource
    exact ⟨koGSource x (h _ (by simp)), koLGSource l fun y hy => h y (List.mem_cons_of_mem _ hy)⟩
end
theorem koGStmt (x : GStmt) (h : ∀ d ∈ cGStmt x, OkD d) : okGStmt x := ⟨ko_i _ (ko_sub h 0 1), koGQuery x.query (by rw [cGQuery_eq]; exact ko_sub h 1 6), ko_s _ (ko_sub h 7 1), ko_l _ (fun y hy => ko_l _ (fun y hy => koGExpr y hy) hy) (ko_sub h 8 1), ko_l _ (fun y hy => ko_s _ hy) (ko_sub h 9 1), ko_l _ (fun y hy => koGExpr y hy) (ko_sub h 10 1), ko_l _ (fun y hy => koGExpr y hy) (ko_sub h 11 1)⟩
theorem de3 {l : List D} (h : WtC Try.prog 3 l) : ∃ x : Int, l = cI x := (wt_i h (k := .i64) (by kernel_rfl))
theorem de4 {l : List D} (h : WtC Try.prog 4 l) : ∃ x : Bool, l = cB x := (wt_b h (by kernel_rfl))
theorem de9 {l : List D} (h : WtC Try.prog 9 l) : ∃ x : (List UInt8), l = cStr x := (wt_s h (by kernel_rfl))
theorem de40 {l : List D} (h : WtC Try.prog 40 l) : ∃ x : GValue, l = cGValue x := by
  obtain ⟨x0, e0⟩ := de3 (wt_fld h 0 (off := 0) (n := 1) (by kernel_rfl))
  obtain ⟨x1, e1⟩ := de3 (wt_fld h 1 (off := 1) (n := 1) (by kernel_rfl))
  obtain ⟨x2, e2⟩ := de9 (wt_fld h 2 (off := 2) (n := 1) (by kernel_rfl))
  exact ⟨⟨x0, x1, x2⟩, (dr1 (m := 1) (by kernel_rfl) e0 (dr1 (m := 2) (by kernel_rfl) e1 (dr1 (m := 3) (by kernel_rfl) e2 (dr0 (wt_len h (n := 3) (by kernel_rfl))))))⟩
def DS22 (n : Nat) : Prop := ∀ m : List D, SizeOf.sizeOf m ≤ n → (WtC Try.prog 22 m → ∃ x : (List GItem), m = (cSl 13 cGItem) x) ∧ (WtC Try.prog 23 m → ∃ x : (List GSource), m = (cSl 3 cGSource) x) ∧ (WtC Try.prog 24 m → ∃ x : (List GExpr), m = (cSl 10 cGExpr) x) ∧ (WtC Try.prog 25 m → ∃ x : (List GSortKey), m = (cSl 11 cGSortKey) x) ∧ (WtC Try.prog 41 m → ∃ x : (List GQuery), m = (cSl 6 cGQuery) x)
theorem DS22_le {n m : Nat} (h : DS22 n) (hm : m ≤ n) : DS22 m := fun l hl => h l (Nat.le_trans hl hm)
theorem de43_ {l : List D} (H : DS22 (SizeOf.sizeOf l)) (h : WtC Try.prog 43 l) : ∃ x : GExpr, l = cGExpr x := by
  obtain ⟨x0, e0⟩ := de3 (wt_fld h 0 (off := 0) (n := 1) (tf := 3) (by kernel_rfl))
  obtain ⟨x1, e1⟩ := de3 (wt_fld h 1 (off := 1) (n := 1) (tf := 3) (by kernel_rfl))
  obtain ⟨x2, e2⟩ := de4 (wt_fld h 2 (off := 2) (n := 1) (tf := 4) (by kernel_rfl))
  obtain ⟨x3, e3⟩ := de40 (wt_fld h 3 (off := 3) (n := 3) (tf := 40) (by kernel_rfl))
  obtain ⟨x4, e4⟩ := de9 (wt_fld h 4 (off := 6) (n := 1) (tf := 9) (by kernel_rfl))
  obtain ⟨x5, e5⟩ := de9 (wt_fld h 5 (off := 7) (n := 1) (tf := 9) (by kernel_rfl))
  obtain ⟨x6, e6⟩ := (H _ (size_sub l 8 1)).2.2.1 (wt_fld h 6 (off := 8) (n := 1) (tf := 24) (by kernel_rfl))
  obtain ⟨x7, e7⟩ := (H _ (size_sub l 9 1)).2.2.2.2 (wt_fld h 7 (off := 9) (n := 1) (tf := 41) (by kernel_rfl))
  exact ⟨⟨x0, x1, x2, x3, x4, x5, x6, x7⟩, (show l = oGExpr ⟨x0, x1, x2, x3, x4, x5, x6, x7⟩ from (dr1 (m := 1) (by kernel_rfl) e0 (dr1 (m := 2) (by kernel_rfl) e1 (dr1 (m := 3) (by kernel_rfl) e2 (dr1 (m := 6) (by kernel_rfl) e3 (dr1 (m := 7) (by kernel_rfl) e4 (dr1 (m := 8) (by kernel_rfl) e5 (dr1 (m := 9) (by kernel_rfl) e6 (dr1 (m := 10) (by kernel_rfl) e7 (dr0 (wt_len h (n := 10) (by kernel_rfl)))))))))))).trans (cGExpr_eq _).symm⟩
theorem de135_ {l : List D} (H : DS22 (SizeOf.sizeOf l)) (h : WtC Try.prog 135 l) : ∃ x : GSortKey, l = cGSortKey x := by
  obtain ⟨x0, e0⟩ := de43_ (DS22_le H (size_sub l 0 10)) (wt_fld h 0 (off := 0) (n := 10) (tf := 43) (by kernel_rfl))
  rw [cGExpr_eq] at e0
  obtain ⟨x1, e1⟩ := de4 (wt_fld h 1 (off := 10) (n := 1) (tf := 4) (by kernel_rfl))
  exact ⟨⟨x0, x1⟩, (show l = oGSortKey ⟨x0, x1⟩ from (dr1 (m := 10) (by kernel_rfl) e0 (dr1 (m := 11) (by kernel_rfl) e1 (dr0 (wt_len h (n := 11) (by kernel_rfl)))))).trans (cGSortKey_eq _).symm⟩
theorem de132_ {l : List D} (H : DS22 (SizeOf.sizeOf l)) (h : WtC Try.prog 132 l) : ∃ x : GSource, l = cGSource x := by
  obtain ⟨x0, e0⟩ := de9 (wt_fld h 0 (off := 0) (n := 1) (tf := 9) (by kernel_rfl))
  obtain ⟨x1, e1⟩ := de9 (wt_fld h 1 (off := 1) (n := 1) (tf := 9) (by kernel_rfl))
  obtain ⟨x2, e2⟩ := (H _ (size_sub l 2 1)).2.2.1 (wt_fld h 2 (off := 2) (n := 1) (tf := 24) (by kernel_rfl))
  exact ⟨⟨x0, x1, x2⟩, (show l = oGSource ⟨x0, x1, x2⟩ from (dr1 (m := 1) (by kernel_rfl) e0 (dr1 (m := 2) (by kernel_rfl) e1 (dr1 (m := 3) (by kernel_rfl) e2 (dr0 (wt_len h (n := 3) (by kernel_rfl))))))).trans (cGSource_eq _).symm⟩
theorem de129_ {l : List D} (H : DS22 (SizeOf.sizeOf l)) (h : WtC Try.prog 129 l) : ∃ x : GItem, l = cGItem x := by
  obtain ⟨x0, e0⟩ := de4 (wt_fld h 0 (off := 0) (n := 1) (tf := 4) (by kernel_rfl))
  obtain ⟨x1, e1⟩ := de9 (wt_fld h 1 (off := 1) (n := 1) (tf := 9) (by kernel_rfl))
  obtain ⟨x2, e2⟩ := de43_ (DS22_le H (size_sub l 2 10)) (wt_fld h 2 (off := 2) (n := 10) (tf := 43) (by kernel_rfl))
  rw [cGExpr_eq] at e2
  obtain ⟨x3, e3⟩ := de9 (wt_fld h 3 (off := 12) (n := 1) (tf := 9) (by kernel_rfl))
  exact ⟨⟨x0, x1, x2, x3⟩, (show l = oGItem ⟨x0, x1, x2, x3⟩ from (dr1 (m := 1) (by kernel_rfl) e0 (dr1 (m := 2) (by kernel_rfl) e1 (dr1 (m := 12) (by kernel_rfl) e2 (dr1 (m := 13) (by kernel_rfl) e3 (dr0 (wt_len h (n := 13) (by kernel_rfl)))))))).trans (cGItem_eq _).symm⟩
theorem de27_ {l : List D} (H : DS22 (SizeOf.sizeOf l)) (h : WtC Try.prog 27 l) : ∃ x : GQuery, l = cGQuery x := by
  obtain ⟨x0, e0⟩ := de4 (wt_fld h 0 (off := 0) (n := 1) (tf := 4) (by kernel_rfl))
  obtain ⟨x1, e1⟩ := (H _ (size_sub l 1 1)).1 (wt_fld h 1 (off := 1) (n := 1) (tf := 22) (by kernel_rfl))
  obtain ⟨x2, e2⟩ := (H _ (size_sub l 2 1)).2.1 (wt_fld h 2 (off := 2) (n := 1) (tf := 23) (by kernel_rfl))
  obtain ⟨x3, e3⟩ := (H _ (size_sub l 3 1)).2.2.1 (wt_fld h 3 (off := 3) (n := 1) (tf := 24) (by kernel_rfl))
  obtain ⟨x4, e4⟩ := (H _ (size_sub l 4 1)).2.2.2.1 (wt_fld h 4 (off := 4) (n := 1) (tf := 25) (by kernel_rfl))
  obtain ⟨x5, e5⟩ := de3 (wt_fld h 5 (off := 5) (n := 1) (tf := 3) (by kernel_rfl))
  exact ⟨⟨x0, x1, x2, x3, x4, x5⟩, (show l = oGQuery ⟨x0, x1, x2, x3, x4, x5⟩ from (dr1 (m := 1) (by kernel_rfl) e0 (dr1 (m := 2) (by kernel_rfl) e1 (dr1 (m := 3) (by kernel_rfl) e2 (dr1 (m := 4) (by kernel_rfl) e3 (dr1 (m := 5) (by kernel_rfl) e4 (dr1 (m := 6) (by kernel_rfl) e5 (dr0 (wt_len h (n := 6) (by kernel_rfl)))))))))).trans (cGQuery_eq _).symm⟩
theorem DS22_all : ∀ n, DS22 n := by
  intro n
  induction n with
  | zero =>
    intro m hm
    have : m = [] := by cases m with | nil => rfl | cons x l => simp at hm
    subst this
    exact ⟨fun h => by obtain ⟨ls, hl, _⟩ := wt_sl0 h (e := 129) (n := 13) (by kernel_rfl) (by kernel_rfl); simp at hl, fun h => by obtain ⟨ls, hl, _⟩ := wt_sl0 h (e := 132) (n := 3) (by kernel_rfl) (by kernel_rfl); simp at hl, fun h => by obtain ⟨ls, hl, _⟩ := wt_sl0 h (e := 43) (n := 10) (by kernel_rfl) (by kernel_rfl); simp at hl, fun h => by obtain ⟨ls, hl, _⟩ := wt_sl0 h (e := 135) (n := 11) (by kernel_rfl) (by kernel_rfl); simp at hl, fun h => by obtain ⟨ls, hl, _⟩ := wt_sl0 h (e := 27) (n := 6) (by kernel_rfl) (by kernel_rfl); simp at hl⟩
  | succ n ih =>
    intro m hm
    refine ⟨?_, ?_, ?_, ?_, ?_⟩
    · intro h
      obtain ⟨ls, rfl, hx⟩ := wt_sl0 h (e := 129) (n := 13) (by kernel_rfl) (by kernel_rfl)
      have H : ∀ x ∈ ls, ∃ y : GItem, x = cGItem y := fun x hm2 => de129_ (DS22_le ih (by have := size_mem (sz := 13) hm2; omega)) (hx x hm2)
      obtain ⟨ys, rfl⟩ := ex_map H
      exact ⟨ys, rfl⟩
    · intro h
      obtain ⟨ls, rfl, hx⟩ := wt_sl0 h (e := 132) (n := 3) (by kernel_rfl) (by kernel_rfl)
      have H : ∀ x ∈ ls, ∃ y : GSource, x = cGSource y := fun x hm2 => de132_ (DS22_le ih (by have := size_mem (sz := 3) hm2; omega)) (hx x hm2)
      obtain ⟨ys, rfl⟩ := ex_map H
      exact ⟨ys, rfl⟩
    · intro h
      obtain ⟨ls, rfl, hx⟩ := wt_sl0 h (e := 43) (n := 10) (by kernel_rfl) (by kernel_rfl)
      have H : ∀ x ∈ ls, ∃ y : GExpr, x = cGExpr y := fun x hm2 => de43_ (DS22_le ih (by have := size_mem (sz := 10) hm2; omega)) (hx x hm2)
      obtain ⟨ys, rfl⟩ := ex_map H
      exact ⟨ys, rfl⟩
    · intro h
      obtain ⟨ls, rfl, hx⟩ := wt_sl0 h (e := 135) (n := 11) (by kernel_rfl) (by kernel_rfl)
      have H : ∀ x ∈ ls, ∃ y : GSortKey, x = cGSortKey y := fun x hm2 => de135_ (DS22_le ih (by have := size_mem (sz := 11) hm2; omega)) (hx x hm2)
      obtain ⟨ys, rfl⟩ := ex_map H
      exact ⟨ys, rfl⟩
    · intro h
      obtain ⟨ls, rfl, hx⟩ := wt_sl0 h (e := 27) (n := 6) (by kernel_rfl) (by kernel_rfl)
      have H : ∀ x ∈ ls, ∃ y : GQuery, x = cGQuery y := fun x hm2 => de27_ (DS22_le ih (by have := size_mem (sz := 6) hm2; omega)) (hx x hm2)
      obtain ⟨ys, rfl⟩ := ex_map H
      exact ⟨ys, rfl⟩
theorem de22 {l : List D} (h : WtC Try.prog 22 l) : ∃ x : (List GItem), l = (cSl 13 cGItem) x := (DS22_all _ l (Nat.le_refl _)).1 h
theorem de23 {l : List D} (h : WtC Try.prog 23 l) : ∃ x : (List GSource), l = (cSl 3 cGSource) x := (DS22_all _ l (Nat.le_refl _)).2.1 h
theorem de24 {l : List D} (h : WtC Try.prog 24 l) : ∃ x : (List GExpr), l = (cSl 10 cGExpr) x := (DS22_all _ l (Nat.le_refl _)).2.2.1 h
theorem de25 {l : List D} (h : WtC Try.prog 25 l) : ∃ x : (List GSortKey), l = (cSl 11 cGSortKey) x := (DS22_all _ l (Nat.le_refl _)).2.2.2.1 h
theorem de41 {l : List D} (h : WtC Try.prog 41 l) : ∃ x : (List GQuery), l = (cSl 6 cGQuery) x := (DS22_all _ l (Nat.le_refl _)).2.2.2.2 h
theorem de43 {l : List D} (h : WtC Try.prog 43 l) : ∃ x : GExpr, l = cGExpr x := de43_ (DS22_all _) h
theorem de135 {l : List D} (h : WtC Try.prog 135 l) : ∃ x : GSortKey, l = cGSortKey x := de135_ (DS22_all _) h
theorem de132 {l : List D} (h : WtC Try.prog 132 l) : ∃ x : GSource, l = cGSource x := de132_ (DS22_all _) h
theorem de129 {l : List D} (h : WtC Try.prog 129 l) : ∃ x : GItem, l = cGItem x := de129_ (DS22_all _) h
theorem de27 {l : List D} (h : WtC Try.prog 27 l) : ∃ x : GQuery, l = cGQuery x := de27_ (DS22_all _) h
theorem de58 {l : List D} (h : WtC Try.prog 58 l) : ∃ x : (List (List GExpr)), l = (cSl 1 (cSl 10 cGExpr)) x := (wt_sl h (e := 24) (n := 1) (c := (cSl 10 cGExpr)) (by kernel_rfl) (by kernel_rfl) fun x hx => de24 hx)
theorem de59 {l : List D} (h : WtC Try.prog 59 l) : ∃ x : (List (List UInt8)), l = (cSl 1 cStr) x := (wt_sl h (e := 9) (n := 1) (c := cStr) (by kernel_rfl) (by kernel_rfl) fun x hx => de9 hx)
theorem de61 {l : List D} (h : WtC Try.prog 61 l) : ∃ x : GStmt, l = cGStmt x := by
  obtain ⟨x0, e0⟩ := de3 (wt_fld h 0 (off := 0) (n := 1) (by kernel_rfl))
  obtain ⟨x1, e1⟩ := de27 (wt_fld h 1 (off := 1) (n := 6) (by kernel_rfl))
  rw [cGQuery_eq] at e1
  obtain ⟨x2, e2⟩ := de9 (wt_fld h 2 (off := 7) (n := 1) (by kernel_rfl))
  obtain ⟨x3, e3⟩ := de58 (wt_fld h 3 (off := 8) (n := 1) (by kernel_rfl))
  obtain ⟨x4, e4⟩ := de59 (wt_fld h 4 (off := 9) (n := 1) (by kernel_rfl))
  obtain ⟨x5, e5⟩ := de24 (wt_fld h 5 (off := 10) (n := 1) (by kernel_rfl))
  obtain ⟨x6, e6⟩ := de24 (wt_fld h 6 (off := 11) (n := 1) (by kernel_rfl))
  exact ⟨⟨x0, x1, x2, x3, x4, x5, x6⟩, (dr1 (m := 1) (by kernel_rfl) e0 (dr1 (m := 7) (by kernel_rfl) e1 (dr1 (m := 8) (by kernel_rfl) e2 (dr1 (m := 9) (by kernel_rfl) e3 (dr1 (m := 10) (by kernel_rfl) e4 (dr1 (m := 11) (by kernel_rfl) e5 (dr1 (m := 12) (by kernel_rfl) e6 (dr0 (wt_len h (n := 12) (by kernel_rfl))))))))))⟩
theorem OKs_iQuery_exprs_L3 (p0 : GQuery) : (∀ (x3_8 : (List GExpr)) (x46 : Int) (r : (List GExpr)), iQuery_exprs_L3 p0 x3_8 x46 = some r → avc Try.prog aciQuery_exprs_L3 (qiQuery_exprs_6 r) (stiQuery_exprs_L3 p0 x3_8 x46)) := by
 refine iQuery_exprs_L3.partial_correctness p0 (fun x3_8 x46 r => avc Try.prog aciQuery_exprs_L3 (qiQuery_exprs_6 r) (stiQuery_exprs_L3 p0 x3_8 x46)) ?_
 · intro F_iQuery_exprs_L3 OK_iQuery_exprs_L3 x3_8 x46 r h
   delta aciQuery_exprs_L3
   refine loop_unroll (so ?_)
   let a21 : St := (stiQuery_exprs_L3 p0 x3_8 x46).p [(47, (vB (decide (x46 < (p0.order.length : Int)))))]
   refine st 1 a21 (nx (si ?_))
   refine cd h (fun h => ?_) fun h => ?_
   refine ki (xi (si (bi (so (vs (fun (y : GSortKey) => (.rp (oGSortKey y))) h (fun y hy => vop_ia (l := p0.order) (f := cGSortKey) (g := oGSortKey) (k := .i64) hy cGSortKey_eq (by kernel_rfl) (by kernel_rfl) (by kernel_rfl)) fun y9 h => ?_)))))
   let a22 : St := ⟨(9, (.ptr 9 0)) :: (49, (vGSortKey y9)) :: (48, (.rp (oGSortKey y9))) :: a21.env, [(9, bGSortKey y9)]⟩
   refine st 3 a22 (nx (oi ?_))
   let a23 : St := a22.p [(52, (vGExpr y9.expr)), (51, (.ptr 9 0)), (50, (.osl 3 49 10 (x3_8.map cGExpr)))]
   refine st 3 a23 (bsl_step (l := ([y9.expr] : List GExpr)) (f := cGExpr) (g := oGExpr) (by kernel_rfl) cGExpr_eq (by kernel_rfl) ?_)
   refine app_step (t := 3) (l := x3_8) (m := ([y9.expr] : List GExpr)) (f := cGExpr) (S' := fun y => ⟨[(54, (.osl 54 49 10 (y.map cGExpr))), (53, (.osl 53 49 10 (([y9.expr] : List GExpr).map cGExpr))), (52, (vGExpr y9.expr)), (51, (.ptr 9 0)), (50, (.d (.sl 10 (x3_8.map cGExpr)))), (9, (.ptr 9 0)), (49, (vGSortKey y9)), (48, (.rp (oGSortKey y9))), (47, (vB (decide (x46 < (p0.order.length : Int))))), (3, (.d (.sl 10 (x3_8.map cGExpr)))), (44, (.d (.sl 11 (p0.order.map cGSortKey)))), (45, (vI (p0.order.length : Int))), (46, (vI x46))], [(9, bGSortKey y9)]⟩) h (by kernel_rfl) (by kernel_rfl) (by kernel_rfl) (by kernel_rfl) (fun y => by kernel_rfl) ?_
   clear h; intro y10 h
   let a24 : St := ⟨[(3, (.osl 3 49 10 (y10.map cGExpr))), (54, (.d (.sl 10 (y10.map cGExpr)))), (53, (.osl 53 49 10 (([y9.expr] : List GExpr).map cGExpr))), (52, (vGExpr y9.expr)), (51, (.ptr 9 0)), (50, (.d (.sl 10 (x3_8.map cGExpr)))), (9, (.ptr 9 0)), (49, (vGSortKey y9)), (48, (.rp (oGSortKey y9))), (47, (vB (decide (x46 < (p0.order.length : Int))))), (3, (.d (.sl 10 (x3_8.map cGExpr)))), (44, (.d (.sl 11 (p0.order.map cGSortKey)))), (45, (vI (p0.order.length : Int))), (46, (vI x46))], [(9, bGSortKey y9)]⟩
   refine st 1 a24 (ni (bn (xi (oi ?_))))
   let a25 : St := a24.p [(46, (vI (IntKind.wrap .i64 (x46 + 1)))), (55, (vI (IntKind.wrap .i64 (x46 + 1))))]
   exact st 2 a25 (ni (loop_back (s' := stiQuery_exprs_L3 p0 y10 (IntKind.wrap .i64 (x46 + 1))) (wr [(3, .old 3)] (eo 3 (es (es (es er_nil)))) br_nil) (OK_iQuery_exprs_L3 y10 (IntKind.wrap .i64 (x46 + 1)) _ h)))
   refine ei (te (te (bh (xi (so ?_)))))
   let a26 : St := ⟨[(2, (.osl 2 49 10 (x3_8.map cGExpr))), (56, (.d (.sl 10 (x3_8.map cGExpr)))), (47, (vB (decide (x46 < (p0.order.length : Int))))), (3, (.d (.sl 10 (x3_8.map cGExpr)))), (44, (.d (.sl 11 (p0.order.map cGSortKey)))), (45, (vI (p0.order.length : Int))), (46, (vI x46))], []⟩
   refine st 2 a26 (nx (ret_wk (s' := ⟨[(2, (.osl 2000000 49 10 (x3_8.map cGExpr)))], []⟩) (wr [(2000000, .old 2)] (eo 2 er_nil) br_nil) ?_))
   injection h with h; subst h
   exact ret1_step (v := (.osl 2000000 49 10 (x3_8.map cGExpr))) (by kernel_rfl) (by kernel_rfl) ⟨by kernel_rfl, trivial⟩
theorem OK_iQuery_exprs_L3 (p0 : GQuery) (x3_8 : (List GExpr)) (x46 : Int) (r : (List GExpr)) (h : iQuery_exprs_L3 p0 x3_8 x46 = some r) : avc Try.prog aciQuery_exprs_L3 (qiQuery_exprs_6 r) (stiQuery_exprs_L3 p0 x3_8 x46) := (OKs_iQuery_exprs_L3 p0) x3_8 x46 r h
theorem OKs_iQuery_exprs_L2 (p0 : GQuery) : (∀ (x3_4 : (List GExpr)) (x30 : Int) (r : (List GExpr)), iQuery_exprs_L2 p0 x3_4 x30 = some r → avc Try.prog aciQuery_exprs_L2 (qiQuery_exprs_4 r) (stiQuery_exprs_L2 p0 x3_4 x30)) := by
 refine iQuery_exprs_L2.partial_correctness p0 (fun x3_4 x30 r => avc Try.prog aciQuery_exprs_L2 (qiQuery_exprs_4 r) (stiQuery_exprs_L2 p0 x3_4 x30)) ?_
 · intro F_iQuery_exprs_L2 OK_iQuery_exprs_L2 x3_4 x30 r h
   delta aciQuery_exprs_L2
   refine loop_unroll (so ?_)
   let a12 : St := (stiQuery_exprs_L2 p0 x3_4 x30).p [(31, (vB (decide (x30 < (p0.from_.length : Int)))))]
   refine st 1 a12 (nx (si ?_))
   refine cd h (fun h => ?_) fun h => ?_
   refine ki (xi (si (bi (so (vs (fun (y : GSource) => (.rp (oGSource y))) h (fun y hy => vop_ia (l := p0.from_) (f := cGSource) (g := oGSource) (k := .i64) hy cGSource_eq (by kernel_rfl) (by kernel_rfl) (by kernel_rfl)) fun y5 h => ?_)))))
   let a13 : St := ⟨(7, (.ptr 7 0)) :: (33, (vGSource y5)) :: (32, (.rp (oGSource y5))) :: a12.env, [(7, bGSource y5), (1, bGQuery p0)]⟩
   refine st 3 a13 (nx (oi ?_))
   let a14 : St := a13.p [(36, (.d (.sl 10 (y5.on_.map cGExpr)))), (35, (.ptr 7 2)), (34, (.osl 3 49 10 (x3_4.map cGExpr)))]
   refine st 3 a14 ?_
   refine app_step (t := 3) (l := x3_4) (m := y5.on_) (f := cGExpr) (S' := fun y => ⟨[(37, (.osl 37 49 10 (y.map cGExpr))), (36, (.d (.sl 10 (y5.on_.map cGExpr)))), (35, (.ptr 7 2)), (34, (.d (.sl 10 (x3_4.map cGExpr)))), (7, (.ptr 7 0)), (33, (vGSource y5)), (32, (.rp (oGSource y5))), (31, (vB (decide (x30 < (p0.from_.length : Int))))), (1, (.ptr 1 0)), (3, (.d (.sl 10 (x3_4.map cGExpr)))), (28, (.d (.sl 3 (p0.from_.map cGSource)))), (29, (vI (p0.from_.length : Int))), (30, (vI x30))], [(7, bGSource y5), (1, bGQuery p0)]⟩) h (by kernel_rfl) (by kernel_rfl) (by kernel_rfl) (by kernel_rfl) (fun y => by kernel_rfl) ?_
   clear h; intro y6 h
   let a15 : St := ⟨[(3, (.osl 3 49 10 (y6.map cGExpr))), (37, (.d (.sl 10 (y6.map cGExpr)))), (36, (.d (.sl 10 (y5.on_.map cGExpr)))), (35, (.ptr 7 2)), (34, (.d (.sl 10 (x3_4.map cGExpr)))), (7, (.ptr 7 0)), (33, (vGSource y5)), (32, (.rp (oGSource y5))), (31, (vB (decide (x30 < (p0.from_.length : Int))))), (1, (.ptr 1 0)), (3, (.d (.sl 10 (x3_4.map cGExpr)))), (28, (.d (.sl 3 (p0.from_.map cGSource)))), (29, (vI (p0.from_.length : Int))), (30, (vI x30))], [(7, bGSource y5), (1, bGQuery p0)]⟩
   refine st 1 a15 (ni (bn (xi (oi ?_))))
   let a16 : St := a15.p [(30, (vI (IntKind.wrap .i64 (x30 + 1)))), (38, (vI (IntKind.wrap .i64 (x30 + 1))))]
   exact st 2 a16 (ni (loop_back (s' := stiQuery_exprs_L2 p0 y6 (IntKind.wrap .i64 (x30 + 1))) (wr [(3, .old 3)] (es (eo 3 (es (es (es er_nil))))) (bs_ br_nil)) (OK_iQuery_exprs_L2 y6 (IntKind.wrap .i64 (x30 + 1)) _ h)))
   refine ei (te (te (bh (xi (so ?_)))))
   let a17 : St := a12.p [(41, (.d (.sl 10 (p0.where_.map cGExpr)))), (40, (.ptr 1 3)), (39, (.osl 3 49 10 (x3_4.map cGExpr)))]
   refine st 3 a17 ?_
   refine app_step (t := 3) (l := x3_4) (m := p0.where_) (f := cGExpr) (S' := fun y => ⟨[(42, (.osl 42 49 10 (y.map cGExpr))), (41, (.d (.sl 10 (p0.where_.map cGExpr)))), (40, (.ptr 1 3)), (39, (.d (.sl 10 (x3_4.map cGExpr)))), (31, (vB (decide (x30 < (p0.from_.length : Int))))), (1, (.ptr 1 0)), (3, (.d (.sl 10 (x3_4.map cGExpr)))), (28, (.d (.sl 3 (p0.from_.map cGSource)))), (29, (vI (p0.from_.length : Int))), (30, (vI x30))], [(1, bGQuery p0)]⟩) h (by kernel_rfl) (by kernel_rfl) (by kernel_rfl) (by kernel_rfl) (fun y => by kernel_rfl) ?_
   clear h; intro y7 h
   let a18 : St := ⟨[(3, (.osl 3 49 10 (y7.map cGExpr))), (42, (.d (.sl 10 (y7.map cGExpr)))), (41, (.d (.sl 10 (p0.where_.map cGExpr)))), (40, (.ptr 1 3)), (39, (.d (.sl 10 (x3_4.map cGExpr)))), (31, (vB (decide (x30 < (p0.from_.length : Int))))), (1, (.ptr 1 0)), (3, (.d (.sl 10 (x3_4.map cGExpr)))), (28, (.d (.sl 3 (p0.from_.map cGSource)))), (29, (vI (p0.from_.length : Int))), (30, (vI x30))], [(1, bGQuery p0)]⟩
   refine st 1 a18 (nx (si (so ?_)))
   let a19 : St := a18.p [(44, (.d (.sl 11 (p0.order.map cGSortKey)))), (43, (.ptr 1 4))]
   refine st 2 a19 (ps (vI (p0.order.length : Int)) (vop_len (sz := 11) (l := p0.order) (f := cGSortKey) (by kernel_rfl) (by kernel_rfl)) ?_)
   let a20 : St := a19.p [(46, (vI 0)), (45, (vI (p0.order.length : Int)))]
   exact st 1 a20 (nx (bi (loop_go (s' := stiQuery_exprs_L3 p0 y7 0) (wr [(3, .old 3)] (eo 3 (es (es (es er_nil)))) br_nil) (OK_iQuery_exprs_L3 p0 y7 0 _ h))))
theorem OK_iQuery_exprs_L2 (p0 : GQuery) (x3_4 : (List GExpr)) (x30 : Int) (r : (List GExpr)) (h : iQuery_exprs_L2 p0 x3_4 x30 = some r) : avc Try.prog aciQuery_exprs_L2 (qiQuery_exprs_4 r) (stiQuery_exprs_L2 p0 x3_4 x30) := (OKs_iQuery_exprs_L2 p0) x3_4 x30 r h
theorem OKs_iQuery_exprs_J1 (p0 : GQuery) : (∀ (x14 : Int) (x3_3 : (List GExpr)) (r : (List GExpr)), iQuery_exprs_J1 p0 x14 x3_3 = some r → avc Try.prog aciQuery_exprs_J1 (qiQuery_exprs_2 r) (stiQuery_exprs_J1 p0 x14 x3_3)) ∧ (∀ (x3 : (List GExpr)) (x14 : Int) (r : (List GExpr)), iQuery_exprs_L0 p0 x3 x14 = some r → avc Try.prog aciQuery_exprs_L0 (qiQuery_exprs_1 r) (stiQuery_exprs_L0 p0 x3 x14)) := by
 refine iQuery_exprs_J1.mutual_partial_correctness p0 (fun x14 x3_3 r => avc Try.prog aciQuery_exprs_J1 (qiQuery_exprs_2 r) (stiQuery_exprs_J1 p0 x14 x3_3)) (fun x3 x14 r => avc Try.prog aciQuery_exprs_L0 (qiQuery_exprs_1 r) (stiQuery_exprs_L0 p0 x3 x14)) ?_ ?_
 · intro F_iQuery_exprs_L0 OK_iQuery_exprs_L0 x14 x3_3 r h
   delta aciQuery_exprs_J1
   refine oi ?_
   let a11 : St := (stiQuery_exprs_J1 p0 x14 x3_3).p [(14, (vI (IntKind.wrap .i64 (x14 + 1)))), (26, (vI (IntKind.wrap .i64 (x14 + 1))))]
   exact st 2 a11 (ni (loop_back (s' := stiQuery_exprs_L0 p0 x3_3 (IntKind.wrap .i64 (x14 + 1))) (wr [(3, .old 3)] (es (eo 3 (es (es (es er_nil))))) (bs_ br_nil)) (OK_iQuery_exprs_L0 x3_3 (IntKind.wrap .i64 (x14 + 1)) _ h)))
 · intro F_iQuery_exprs_J1 OK_iQuery_exprs_J1 x3 x14 r h
   delta aciQuery_exprs_L0
   refine loop_unroll (so ?_)
   let a4 : St := (stiQuery_exprs_L0 p0 x3 x14).p [(15, (vB (decide (x14 < (p0.items.length : Int)))))]
   refine st 1 a4 (nx (si ?_))
   refine cd h (fun h => ?_) fun h => ?_
   refine ki (xi (si (bi (so (vs (fun (y : GItem) => (.rp (oGItem y))) h (fun y hy => vop_ia (l := p0.items) (f := cGItem) (g := oGItem) (k := .i64) hy cGItem_eq (by kernel_rfl) (by kernel_rfl) (by kernel_rfl)) fun y1 h => ?_)))))
   let a5 : St := ⟨(5, (.ptr 5 0)) :: (17, (vGItem y1)) :: (16, (.rp (oGItem y1))) :: a4.env, [(5, bGItem y1), (1, bGQuery p0)]⟩
   refine st 3 a5 (nx (so ?_))
   let a6 : St := a5.p [(20, (vB (!y1.star))), (19, (vB y1.star)), (18, (.ptr 5 0))]
   refine st 3 a6 (nx ?_)
   refine cd h (fun h => ?_) fun h => ?_
   refine oi ?_
   let a7 : St := a6.p [(23, (vGExpr y1.expr)), (22, (.ptr 5 2)), (21, (.osl 3 49 10 (x3.map cGExpr)))]
   refine st 3 a7 (bsl_step (l := ([y1.expr] : List GExpr)) (f := cGExpr) (g := oGExpr) (by kernel_rfl) cGExpr_eq (by kernel_rfl) ?_)
   refine app_step (t := 3) (l := x3) (m := ([y1.expr] : List GExpr)) (f := cGExpr) (S' := fun y => ⟨[(25, (.osl 25 49 10 (y.map cGExpr))), (24, (.osl 24 49 10 (([y1.expr] : List GExpr).map cGExpr))), (23, (vGExpr y1.expr)), (22, (.ptr 5 2)), (21, (.d (.sl 10 (x3.map cGExpr)))), (20, (vB (!y1.star))), (19, (vB y1.star)), (18, (.ptr 5 0)), (5, (.ptr 5 0)), (17, (vGItem y1)), (16, (.rp (oGItem y1))), (15, (vB (decide (x14 < (p0.items.length : Int))))), (1, (.ptr 1 0)), (3, (.d (.sl 10 (x3.map cGExpr)))), (12, (.d (.sl 13 (p0.items.map cGItem)))), (13, (vI (p0.items.length : Int))), (14, (vI x14))], [(5, bGItem y1), (1, bGQuery p0)]⟩) h (by kernel_rfl) (by kernel_rfl) (by kernel_rfl) (by kernel_rfl) (fun y => by kernel_rfl) ?_
   clear h; intro y2 h
   let a8 : St := ⟨[(3, (.osl 3 49 10 (y2.map cGExpr))), (25, (.d (.sl 10 (y2.map cGExpr)))), (24, (.osl 24 49 10 (([y1.expr] : List GExpr).map cGExpr))), (23, (vGExpr y1.expr)), (22, (.ptr 5 2)), (21, (.d (.sl 10 (x3.map cGExpr)))), (20, (vB (!y1.star))), (19, (vB y1.star)), (18, (.ptr 5 0)), (5, (.ptr 5 0)), (17, (vGItem y1)), (16, (.rp (oGItem y1))), (15, (vB (decide (x14 < (p0.items.length : Int))))), (1, (.ptr 1 0)), (3, (.d (.sl 10 (x3.map cGExpr)))), (12, (.d (.sl 13 (p0.items.map cGItem)))), (13, (vI (p0.items.length : Int))), (14, (vI x14))], [(5, bGItem y1), (1, bGQuery p0)]⟩
   exact st 1 a8 (ni (bn (next_step (s' := stiQuery_exprs_J1 p0 x14 y2) (wr [(3, .old 3)] (es (eo 3 (es (es (es er_nil))))) (bs_ br_nil)) (OK_iQuery_exprs_J1 x14 y2 _ h))))
   exact ki (bn (next_step (s' := stiQuery_exprs_J1 p0 x14 x3) (wr [(3, .old 3)] (es (eo 3 (es (es (es er_nil))))) (bs_ br_nil)) (OK_iQuery_exprs_J1 x14 x3 _ h)))
   refine ei (te (te (bh (xi (si (so ?_))))))
   let a9 : St := a4.p [(28, (.d (.sl 3 (p0.from_.map cGSource)))), (27, (.ptr 1 2))]
   refine st 2 a9 (ps (vI (p0.from_.length : Int)) (vop_len (sz := 3) (l := p0.from_) (f := cGSource) (by kernel_rfl) (by kernel_rfl)) ?_)
   let a10 : St := a9.p [(30, (vI 0)), (29, (vI (p0.from_.length : Int)))]
   exact st 1 a10 (nx (bi (loop_go (s' := stiQuery_exprs_L2 p0 x3 0) (wr [(3, .old 3)] (es (eo 3 (es (es (es er_nil))))) (bs_ br_nil)) (OK_iQuery_exprs_L2 p0 x3 0 _ h))))
theorem OK_iQuery_exprs_J1 (p0 : GQuery) (x14 : Int) (x3_3 : (List GExpr)) (r : (List GExpr)) (h : iQuery_exprs_J1 p0 x14 x3_3 = some r) : avc Try.prog aciQuery_exprs_J1 (qiQuery_exprs_2 r) (stiQuery_exprs_J1 p0 x14 x3_3) := (OKs_iQuery_exprs_J1 p0).1 x14 x3_3 r h
theorem OK_iQuery_exprs_L0 (p0 : GQuery) (x3 : (List GExpr)) (x14 : Int) (r : (List GExpr)) (h : iQuery_exprs_L0 p0 x3 x14 = some r) : avc Try.prog aciQuery_exprs_L0 (qiQuery_exprs_1 r) (stiQuery_exprs_L0 p0 x3 x14) := (OKs_iQuery_exprs_J1 p0).2 x3 x14 r h
theorem OK_iQuery_exprs (p0 : GQuery) : FOkB Try.prog 66 [(vGQuery p0)] [] (fun (y : (List GExpr)) => (.osl 2000000 49 10 (y.map cGExpr))) (fun (y : (List GExpr)) => []) (iQuery_exprs p0) := by
 intro r h
 rw [iQuery_exprs] at h
 refine acalls_of_fn triQuery_exprs (Nat.le_of_ble_eq_true rfl) (by simp) ?_
 show avc Try.prog aciQuery_exprs (qiQuery_exprs _) ⟨[(0, (vGQuery p0))], []⟩
 delta aciQuery_exprs
 refine so ?_
 let a0 : St := ⟨[(2, (.nil 10)), (1, (.ptr 1 0)), (0, (vGQuery p0))], [(1, bGQuery p0)]⟩
 refine st 2 a0 (nx (so (bsl_step (l := ([] : List GExpr)) (f := cGExpr) (g := oGExpr) (by kernel_rfl) cGExpr_eq (by kernel_rfl) ?_)))
 let a1 : St := a0.p [(3, (.osl 3 49 10 (([] : List GExpr).map cGExpr))), (10, (.d (.sl 10 (([] : List GExpr).map cGExpr))))]
 refine st 1 a1 (nx (si (so ?_)))
 let a2 : St := a1.p [(12, (.d (.sl 13 (p0.items.map cGItem)))), (11, (.ptr 1 1))]
 refine st 2 a2 (ps (vI (p0.items.length : Int)) (vop_len (sz := 13) (l := p0.items) (f := cGItem) (by kernel_rfl) (by kernel_rfl)) ?_)
 let a3 : St := a2.p [(14, (vI 0)), (13, (vI (p0.items.length : Int)))]
 exact st 1 a3 (nx (bi (loop_go (s' := stiQuery_exprs_L0 p0 ([] : List GExpr) 0) (wr [(3, .old 3)] (es (eo 3 (es (es (es er_nil))))) (bs_ br_nil)) (OK_iQuery_exprs_L0 p0 ([] : List GExpr) 0 _ h))))
theorem OKs_iQueryDepth : (∀ (p0 : GQuery) (r : Int), iQueryDepth p0 = some r → ACalls Try.prog 17 [(vGQuery p0)] [] fun x _ => x = (fun y => (vI y)) r) ∧ (∀ (p0 : (List GExpr)) (r : Int), iDeepestOf p0 = some r → ACalls Try.prog 65 [(.d (.sl 10 (p0.map cGExpr)))] [] fun x _ => x = (fun y => (vI y)) r) ∧ (∀ (p0 : (List GExpr)) (x3 : Int) (x8 : Int) (r : Int), iDeepestOf_L0 p0 x3 x8 = some r → avc Try.prog aciDeepestOf_L0 (qiDeepestOf_1 r) (stiDeepestOf_L0 p0 x3 x8)) ∧ (∀ (p0 : GExpr) (r : Int), iDepthOf p0 = some r → ACalls Try.prog 30 [(vGExpr p0)] [] fun x _ => x = (fun y => (vI y)) r) ∧ (∀ (p0 : GExpr) (x3 : Int) (x11 : Int) (r : Int), iDepthOf_L0 p0 x3 x11 = some r → avc Try.prog aciDepthOf_L0 (qiDepthOf_1 r) (stiDepthOf_L0 p0 x3 x11)) ∧ (∀ (p0 : GExpr) (x3_3 : Int) (x23 : Int) (r : Int), iDepthOf_L1 p0 x3_3 x23 = some r → avc Try.prog aciDepthOf_L1 (qiDepthOf_3 r) (stiDepthOf_L1 p0 x3_3 x23)) := by
 refine iQueryDepth.mutual_partial_correctness (fun p0 r => ACalls Try.prog 17 [(vGQuery p0)] [] fun x _ => x = (fun y => (vI y)) r) (fun p0 r => ACalls Try.prog 65 [(.d (.sl 10 (p0.map cGExpr)))] [] fun x _ => x = (fun y => (vI y)) r) (fun p0 x3 x8 r => avc Try.prog aciDeepestOf_L0 (qiDeepestOf_1 r) (stiDeepestOf_L0 p0 x3 x8)) (fun p0 r => ACalls Try.prog 30 [(vGExpr p0)] [] fun x _ => x = (fun y => (vI y)) r) (fun p0 x3 x11 r => avc Try.prog aciDepthOf_L0 (qiDepthOf_1 r) (stiDepthOf_L0 p0 x3 x11)) (fun p0 x3_3 x23 r => avc Try.prog aciDepthOf_L1 (qiDepthOf_3 r) (stiDepthOf_L1 p0 x3_3 x23)) ?_ ?_ ?_ ?_ ?_ ?_
 · intro F_iDeepestOf OK_iDeepestOf p0 r h
   refine acalls_of_fn triQueryDepth (Nat.le_of_ble_eq_true rfl) (by simp) ?_
   show avc Try.prog aciQueryDepth (qiQueryDepth _) ⟨[(0, (vGQuery p0))], []⟩
   delta aciQueryDepth
   refine so ?_
   let a0 : St := ⟨[(2, (vI 0)), (1, (.ptr 1 0)), (0, (vGQuery p0))], [(1, bGQuery p0)]⟩
   refine st 2 a0 (nx (so ?_))
   let a1 : St := a0.p [(3, (vGQuery p0))]
   refine st 1 a1 (callg_step ⟨[], [], [], [], [], [(2000000, 4)], [], [4]⟩ (m := iQuery_exprs p0) (S' := fun (y : (List GExpr)) => ⟨(4, (.osl 4 49 10 (y.map cGExpr))) :: a1.env, a1.bx⟩) h (OK_iQuery_exprs p0) (by kernel_rfl) (by kernel_rfl) (by kernel_rfl) (by kernel_rfl) (fun y => by kernel_rfl) (fun y => by kernel_rfl) ?_)
   clear h; intro y1 h
   refine cs h (OK_iDeepestOf y1) fun y2 h => ?_
   let a2 : St := a1.p [(2, (vI y2)), (5, (vI y2)), (4, (.osl 4 49 10 (y1.map cGExpr)))]
   refine st 1 a2 (nx (ri ?_))
   injection h with h; subst h
   exact ret1_step (v := (vI y2)) (by kernel_rfl) (by kernel_rfl) (by kernel_rfl)
 · intro F_iDeepestOf_L0 OK_iDeepestOf_L0 p0 r h
   refine acalls_of_fn triDeepestOf (Nat.le_of_ble_eq_true rfl) (by simp) ?_
   show avc Try.prog aciDeepestOf (qiDeepestOf _) ⟨[(0, (.d (.sl 10 (p0.map cGExpr))))], []⟩
   delta aciDeepestOf
   refine so ?_
   let a0 : St := ⟨[(2, (vI 0)), (0, (.d (.sl 10 (p0.map cGExpr))))], []⟩
   refine st 1 a0 (nx (so ?_))
   let a1 : St := a0.p [(3, (vI 0))]
   refine st 1 a1 (nx (si (so ?_)))
   let a2 : St := a1.p [(6, (.d (.sl 10 (p0.map cGExpr))))]
   refine st 1 a2 (ps (vI (p0.length : Int)) (vop_len (sz := 10) (l := p0) (f := cGExpr) (by kernel_rfl) (by kernel_rfl)) ?_)
   let a3 : St := a2.p [(8, (vI 0)), (7, (vI (p0.length : Int)))]
   exact st 1 a3 (nx (bi (loop_go (s' := stiDeepestOf_L0 p0 0 0) (wr [] (es (es (es (es er_nil)))) br_nil) (OK_iDeepestOf_L0 p0 0 0 _ h))))
 · intro F_iDeepestOf_L0 F_iDepthOf OK_iDeepestOf_L0 OK_iDepthOf p0 x3 x8 r h
   delta aciDeepestOf_L0
   refine loop_unroll (so ?_)
   let a4 : St := (stiDeepestOf_L0 p0 x3 x8).p [(9, (vB (decide (x8 < (p0.length : Int)))))]
   refine st 1 a4 (nx (si ?_))
   refine cd h (fun h => ?_) fun h => ?_
   refine ki (xi (si (bi (so (vs (fun (y : GExpr) => (.rp (oGExpr y))) h (fun y hy => vop_ia (l := p0) (f := cGExpr) (g := oGExpr) (k := .i64) hy cGExpr_eq (by kernel_rfl) (by kernel_rfl) (by kernel_rfl)) fun y1 h => ?_)))))
   let a5 : St := ⟨(5, (.ptr 5 0)) :: (11, (vGExpr y1)) :: (10, (.rp (oGExpr y1))) :: a4.env, [(5, bGExpr y1)]⟩
   refine st 3 a5 (nx (oi ?_))
   let a6 : St := a5.p [(13, (vGExpr y1)), (12, (vI x3))]
   refine st 2 a6 (cs h (OK_iDepthOf y1) fun y2 h => ?_)
   let a7 : St := a6.p [(3, (vI (if y2 > x3 then y2 else x3))), (15, (vI (if y2 > x3 then y2 else x3))), (14, (vI y2))]
   refine st 2 a7 (ni (bn (xi (oi ?_))))
   let a8 : St := a7.p [(8, (vI (IntKind.wrap .i64 (x8 + 1)))), (16, (vI (IntKind.wrap .i64 (x8 + 1))))]
   exact st 2 a8 (ni (loop_back (s' := stiDeepestOf_L0 p0 (if y2 > x3 then y2 else x3) (IntKind.wrap .i64 (x8 + 1))) (wr [] (es (es (es (es er_nil)))) br_nil) (OK_iDeepestOf_L0 p0 (if y2 > x3 then y2 else x3) (IntKind.wrap .i64 (x8 + 1)) _ h)))
   refine ei (te (te (bh (xi (so ?_)))))
   let a9 : St := a4.p [(2, (vI x3)), (17, (vI x3))]
   refine st 2 a9 (nx (ri ?_))
   injection h with h; subst h
   exact ret1_step (v := (vI x3)) (by kernel_rfl) (by kernel_rfl) (by kernel_rfl)
 · intro F_iDepthOf_L0 OK_iDepthOf_L0 p0 r h
   refine acalls_of_fn triDepthOf (Nat.le_of_ble_eq_true rfl) (by simp) ?_
   show avc Try.prog aciDepthOf (qiDepthOf _) ⟨[(0, (vGExpr p0))], []⟩
   delta aciDepthOf
   refine so ?_
   let a0 : St := ⟨[(2, (vI 0)), (1, (.ptr 1 0)), (0, (vGExpr p0))], [(1, bGExpr p0)]⟩
   refine st 2 a0 (nx (so ?_))
   let a1 : St := a0.p [(3, (vI 0))]
   refine st 1 a1 (nx (si (so ?_)))
   let a2 : St := a1.p [(9, (.d (.sl 10 (p0.kids.map cGExpr)))), (8, (.ptr 1 8))]
   refine st 2 a2 (ps (vI (p0.kids.length : Int)) (vop_len (sz := 10) (l := p0.kids) (f := cGExpr) (by kernel_rfl) (by kernel_rfl)) ?_)
   let a3 : St := a2.p [(11, (vI 0)), (10, (vI (p0.kids.length : Int)))]
   exact st 1 a3 (nx (bi (loop_go (s' := stiDepthOf_L0 p0 0 0) (wr [] (es (es (es (es (es er_nil))))) (bs_ br_nil)) (OK_iDepthOf_L0 p0 0 0 _ h))))
 · intro F_iDepthOf F_iDepthOf_L0 F_iDepthOf_L1 OK_iDepthOf OK_iDepthOf_L0 OK_iDepthOf_L1 p0 x3 x11 r h
   delta aciDepthOf_L0
   refine loop_unroll (so ?_)
   let a4 : St := (stiDepthOf_L0 p0 x3 x11).p [(12, (vB (decide (x11 < (p0.kids.length : Int)))))]
   refine st 1 a4 (nx (si ?_))
   refine cd h (fun h => ?_) fun h => ?_
   refine ki (xi (si (bi (so (vs (fun (y : GExpr) => (.rp (oGExpr y))) h (fun y hy => vop_ia (l := p0.kids) (f := cGExpr) (g := oGExpr) (k := .i64) hy cGExpr_eq (by kernel_rfl) (by kernel_rfl) (by kernel_rfl)) fun y1 h => ?_)))))
   let a5 : St := ⟨(5, (.ptr 5 0)) :: (14, (vGExpr y1)) :: (13, (.rp (oGExpr y1))) :: a4.env, [(5, bGExpr y1), (1, bGExpr p0)]⟩
   refine st 3 a5 (nx (oi ?_))
   let a6 : St := a5.p [(16, (vGExpr y1)), (15, (vI x3))]
   refine st 2 a6 (cs h (OK_iDepthOf y1) fun y2 h => ?_)
   let a7 : St := a6.p [(3, (vI (if y2 > x3 then y2 else x3))), (18, (vI (if y2 > x3 then y2 else x3))), (17, (vI y2))]
   refine st 2 a7 (ni (bn (xi (oi ?_))))
   let a8 : St := a7.p [(11, (vI (IntKind.wrap .i64 (x11 + 1)))), (19, (vI (IntKind.wrap .i64 (x11 + 1))))]
   exact st 2 a8 (ni (loop_back (s' := stiDepthOf_L0 p0 (if y2 > x3 then y2 else x3) (IntKind.wrap .i64 (x11 + 1))) (wr [] (es (es (es (es (es er_nil))))) (bs_ br_nil)) (OK_iDepthOf_L0 p0 (if y2 > x3 then y2 else x3) (IntKind.wrap .i64 (x11 + 1)) _ h)))
   refine ei (te (te (bh (xi (si (so ?_))))))
   let a9 : St := a4.p [(21, (.d (.sl 6 (p0.sub.map cGQuery)))), (20, (.ptr 1 9))]
   refine st 2 a9 (ps (vI (p0.sub.length : Int)) (vop_len (sz := 6) (l := p0.sub) (f := cGQuery) (by kernel_rfl) (by kernel_rfl)) ?_)
   let a10 : St := a9.p [(23, (vI 0)), (22, (vI (p0.sub.length : Int)))]
   exact st 1 a10 (nx (bi (loop_go (s' := stiDepthOf_L1 p0 x3 0) (wr [] (es (es (es (es er_nil)))) br_nil) (OK_iDepthOf_L1 p0 x3 0 _ h))))
 · intro F_iQueryDepth F_iDepthOf_L1 OK_iQueryDepth OK_iDepthOf_L1 p0 x3_3 x23 r h
   delta aciDepthOf_L1
   refine loop_unroll (so ?_)
   let a11 : St := (stiDepthOf_L1 p0 x3_3 x23).p [(24, (vB (decide (x23 < (p0.sub.length : Int)))))]
   refine st 1 a11 (nx (si ?_))
   refine cd h (fun h => ?_) fun h => ?_
   refine ki (xi (si (bi (so (vs (fun (y : GQuery) => (.rp (oGQuery y))) h (fun y hy => vop_ia (l := p0.sub) (f := cGQuery) (g := oGQuery) (k := .i64) hy cGQuery_eq (by kernel_rfl) (by kernel_rfl) (by kernel_rfl)) fun y4 h => ?_)))))
   let a12 : St := ⟨(7, (.ptr 7 0)) :: (26, (vGQuery y4)) :: (25, (.rp (oGQuery y4))) :: a11.env, [(7, bGQuery y4)]⟩
   refine st 3 a12 (nx (oi ?_))
   let a13 : St := a12.p [(28, (vGQuery y4)), (27, (vI x3_3))]
   refine st 2 a13 (cs h (OK_iQueryDepth y4) fun y5 h => ?_)
   let a14 : St := a13.p [(3, (vI (if y5 > x3_3 then y5 else x3_3))), (30, (vI (if y5 > x3_3 then y5 else x3_3))), (29, (vI y5))]
   refine st 2 a14 (ni (bn (xi (oi ?_))))
   let a15 : St := a14.p [(23, (vI (IntKind.wrap .i64 (x23 + 1)))), (31, (vI (IntKind.wrap .i64 (x23 + 1))))]
   exact st 2 a15 (ni (loop_back (s' := stiDepthOf_L1 p0 (if y5 > x3_3 then y5 else x3_3) (IntKind.wrap .i64 (x23 + 1))) (wr [] (es (es (es (es er_nil)))) br_nil) (OK_iDepthOf_L1 p0 (if y5 > x3_3 then y5 else x3_3) (IntKind.wrap .i64 (x23 + 1)) _ h)))
   refine ei (te (te (bh (xi (so ?_)))))
   let a16 : St := a11.p [(2, (vI (IntKind.wrap .i64 (1 + x3_3)))), (33, (vI (IntKind.wrap .i64 (1 + x3_3)))), (32, (vI x3_3))]
   refine st 3 a16 (nx (ri ?_))
   injection h with h; subst h
   exact ret1_step (v := (vI (IntKind.wrap .i64 (1 + x3_3)))) (by kernel_rfl) (by kernel_rfl) (by kernel_rfl)
theorem OK_iQueryDepth (p0 : GQuery) : FOk Try.prog 17 [(vGQuery p0)] (fun y => (vI y)) (iQueryDepth p0) := fun r h => (OKs_iQueryDepth).1 p0 r h
theorem OK_iDeepestOf (p0 : (List GExpr)) : FOk Try.prog 65 [(.d (.sl 10 (p0.map cGExpr)))] (fun y => (vI y)) (iDeepestOf p0) := fun r h => (OKs_iQueryDepth).2.1 p0 r h
theorem OK_iDeepestOf_L0 (p0 : (List GExpr)) (x3 : Int) (x8 : Int) (r : Int) (h : iDeepestOf_L0 p0 x3 x8 = some r) : avc Try.prog aciDeepestOf_L0 (qiDeepestOf_1 r) (stiDeepestOf_L0 p0 x3 x8) := (OKs_iQueryDepth).2.2.1 p0 x3 x8 r h
theorem OK_iDepthOf (p0 : GExpr) : FOk Try.prog 30 [(vGExpr p0)] (fun y => (vI y)) (iDepthOf p0) := fun r h => (OKs_iQueryDepth).2.2.2.1 p0 r h
theorem OK_iDepthOf_L0 (p0 : GExpr) (x3 : Int) (x11 : Int) (r : Int) (h : iDepthOf_L0 p0 x3 x11 = some r) : avc Try.prog aciDepthOf_L0 (qiDepthOf_1 r) (stiDepthOf_L0 p0 x3 x11) := (OKs_iQueryDepth).2.2.2.2.1 p0 x3 x11 r h
theorem OK_iDepthOf_L1 (p0 : GExpr) (x3_3 : Int) (x23 : Int) (r : Int) (h : iDepthOf_L1 p0 x3_3 x23 = some r) : avc Try.prog aciDepthOf_L1 (qiDepthOf_3 r) (stiDepthOf_L1 p0 x3_3 x23) := (OKs_iQueryDepth).2.2.2.2.2 p0 x3_3 x23 r h
theorem OKs_iStmt_exprs_L0 (p0 : GStmt) : (∀ (x3 : (List GExpr)) (x12 : Int) (r : (List GExpr)), iStmt_exprs_L0 p0 x3 x12 = some r → avc Try.prog aciStmt_exprs_L0 (qiStmt_exprs_1 r) (stiStmt_exprs_L0 p0 x3 x12)) := by
 refine iStmt_exprs_L0.partial_correctness p0 (fun x3 x12 r => avc Try.prog aciStmt_exprs_L0 (qiStmt_exprs_1 r) (stiStmt_exprs_L0 p0 x3 x12)) ?_
 · intro F_iStmt_exprs_L0 OK_iStmt_exprs_L0 x3 x12 r h
   delta aciStmt_exprs_L0
   refine loop_unroll (so ?_)
   let a5 : St := (stiStmt_exprs_L0 p0 x3 x12).p [(13, (vB (decide (x12 < (p0.rows.length : Int)))))]
   refine st 1 a5 (nx (si ?_))
   refine cd h (fun h => ?_) fun h => ?_
   refine ki (xi (si (bi (so (vs (fun (y : (List GExpr)) => (.rp [(.sl 10 (y.map cGExpr))])) h (fun y hy => vop_ia (l := p0.rows) (f := (cSl 10 cGExpr)) (g := (cSl 10 cGExpr)) (k := .i64) hy (fun _ => rfl) (by kernel_rfl) (by kernel_rfl) (by kernel_rfl)) fun y2 h => ?_)))))
   let a6 : St := a5.p [(5, (.d (.sl 10 (y2.map cGExpr)))), (15, (.d (.sl 10 (y2.map cGExpr)))), (14, (.rp [(.sl 10 (y2.map cGExpr))]))]
   refine st 2 a6 (nx (oi ?_))
   let a7 : St := a6.p [(17, (.d (.sl 10 (y2.map cGExpr)))), (16, (.osl 3 49 10 (x3.map cGExpr)))]
   refine st 2 a7 ?_
   refine app_step (t := 3) (l := x3) (m := y2) (f := cGExpr) (S' := fun y => ⟨[(18, (.osl 18 49 10 (y.map cGExpr))), (17, (.d (.sl 10 (y2.map cGExpr)))), (16, (.d (.sl 10 (x3.map cGExpr)))), (5, (.d (.sl 10 (y2.map cGExpr)))), (15, (.d (.sl 10 (y2.map cGExpr)))), (14, (.rp [(.sl 10 (y2.map cGExpr))])), (13, (vB (decide (x12 < (p0.rows.length : Int))))), (1, (.ptr 1 0)), (3, (.d (.sl 10 (x3.map cGExpr)))), (10, (.d (.sl 1 (p0.rows.map (cSl 10 cGExpr))))), (11, (vI (p0.rows.length : Int))), (12, (vI x12))], [(1, bGStmt p0)]⟩) h (by kernel_rfl) (by kernel_rfl) (by kernel_rfl) (by kernel_rfl) (fun y => by kernel_rfl) ?_
   clear h; intro y3 h
   let a8 : St := ⟨[(3, (.osl 3 49 10 (y3.map cGExpr))), (18, (.d (.sl 10 (y3.map cGExpr)))), (17, (.d (.sl 10 (y2.map cGExpr)))), (16, (.d (.sl 10 (x3.map cGExpr)))), (5, (.d (.sl 10 (y2.map cGExpr)))), (15, (.d (.sl 10 (y2.map cGExpr)))), (14, (.rp [(.sl 10 (y2.map cGExpr))])), (13, (vB (decide (x12 < (p0.rows.length : Int))))), (1, (.ptr 1 0)), (3, (.d (.sl 10 (x3.map cGExpr)))), (10, (.d (.sl 1 (p0.rows.map (cSl 10 cGExpr))))), (11, (vI (p0.rows.length : Int))), (12, (vI x12))], [(1, bGStmt p0)]⟩
   refine st 1 a8 (ni (bn (xi (oi ?_))))
   let a9 : St := a8.p [(12, (vI (IntKind.wrap .i64 (x12 + 1)))), (19, (vI (IntKind.wrap .i64 (x12 + 1))))]
   exact st 2 a9 (ni (loop_back (s' := stiStmt_exprs_L0 p0 y3 (IntKind.wrap .i64 (x12 + 1))) (wr [(3, .old 3)] (es (eo 3 (es (es (es er_nil))))) (bs_ br_nil)) (OK_iStmt_exprs_L0 y3 (IntKind.wrap .i64 (x12 + 1)) _ h)))
   refine ei (te (te (bh (xi (so ?_)))))
   let a10 : St := a5.p [(22, (.d (.sl 10 (p0.sets.map cGExpr)))), (21, (.ptr 1 10)), (20, (.osl 3 49 10 (x3.map cGExpr)))]
   refine st 3 a10 ?_
   refine app_step (t := 3) (l := x3) (m := p0.sets) (f := cGExpr) (S' := fun y => ⟨[(23, (.osl 23 49 10 (y.map cGExpr))), (22, (.d (.sl 10 (p0.sets.map cGExpr)))), (21, (.ptr 1 10)), (20, (.d (.sl 10 (x3.map cGExpr)))), (13, (vB (decide (x12 < (p0.rows.length : Int))))), (1, (.ptr 1 0)), (3, (.d (.sl 10 (x3.map cGExpr)))), (10, (.d (.sl 1 (p0.rows.map (cSl 10 cGExpr))))), (11, (vI (p0.rows.length : Int))), (12, (vI x12))], [(1, bGStmt p0)]⟩) h (by kernel_rfl) (by kernel_rfl) (by kernel_rfl) (by kernel_rfl) (fun y => by kernel_rfl) ?_
   clear h; intro y4 h
   let a11 : St := ⟨[(3, (.osl 3 49 10 (y4.map cGExpr))), (23, (.d (.sl 10 (y4.map cGExpr)))), (22, (.d (.sl 10 (p0.sets.map cGExpr)))), (21, (.ptr 1 10)), (20, (.d (.sl 10 (x3.map cGExpr)))), (13, (vB (decide (x12 < (p0.rows.length : Int))))), (1, (.ptr 1 0)), (3, (.d (.sl 10 (x3.map cGExpr)))), (10, (.d (.sl 1 (p0.rows.map (cSl 10 cGExpr))))), (11, (vI (p0.rows.length : Int))), (12, (vI x12))], [(1, bGStmt p0)]⟩
   refine st 1 a11 (nx (so ?_))
   let a12 : St := a11.p [(26, (.d (.sl 10 (p0.where_.map cGExpr)))), (25, (.ptr 1 11)), (24, (.osl 3 49 10 (y4.map cGExpr)))]
   refine st 3 a12 ?_
   refine app_step (t := 3) (l := y4) (m := p0.where_) (f := cGExpr) (S' := fun y => ⟨[(27, (.osl 27 49 10 (y.map cGExpr))), (26, (.d (.sl 10 (p0.where_.map cGExpr)))), (25, (.ptr 1 11)), (24, (.d (.sl 10 (y4.map cGExpr)))), (3, (.d (.sl 10 (y4.map cGExpr)))), (23, (.d (.sl 10 (y4.map cGExpr)))), (22, (.d (.sl 10 (p0.sets.map cGExpr)))), (21, (.ptr 1 10)), (20, (.d (.sl 10 (x3.map cGExpr)))), (13, (vB (decide (x12 < (p0.rows.length : Int))))), (1, (.ptr 1 0)), (3, (.d (.sl 10 (x3.map cGExpr)))), (10, (.d (.sl 1 (p0.rows.map (cSl 10 cGExpr))))), (11, (vI (p0.rows.length : Int))), (12, (vI x12))], [(1, bGStmt p0)]⟩) h (by kernel_rfl) (by kernel_rfl) (by kernel_rfl) (by kernel_rfl) (fun y => by kernel_rfl) ?_
   clear h; intro y5 h
   let a13 : St := ⟨[(2, (.osl 2 49 10 (y5.map cGExpr))), (27, (.d (.sl 10 (y5.map cGExpr)))), (26, (.d (.sl 10 (p0.where_.map cGExpr)))), (25, (.ptr 1 11)), (24, (.d (.sl 10 (y4.map cGExpr)))), (3, (.d (.sl 10 (y4.map cGExpr)))), (23, (.d (.sl 10 (y4.map cGExpr)))), (22, (.d (.sl 10 (p0.sets.map cGExpr)))), (21, (.ptr 1 10)), (20, (.d (.sl 10 (x3.map cGExpr)))), (13, (vB (decide (x12 < (p0.rows.length : Int))))), (1, (.ptr 1 0)), (3, (.d (.sl 10 (x3.map cGExpr)))), (10, (.d (.sl 1 (p0.rows.map (cSl 10 cGExpr))))), (11, (vI (p0.rows.length : Int))), (12, (vI x12))], [(1, bGStmt p0)]⟩
   refine st 1 a13 (nx (ret_wk (s' := ⟨[(2, (.osl 2000000 49 10 (y5.map cGExpr)))], []⟩) (wr [(2000000, .old 2)] (eo 2 er_nil) br_nil) ?_))
   injection h with h; subst h
   exact ret1_step (v := (.osl 2000000 49 10 (y5.map cGExpr))) (by kernel_rfl) (by kernel_rfl) ⟨by kernel_rfl, trivial⟩
theorem OK_iStmt_exprs_L0 (p0 : GStmt) (x3 : (List GExpr)) (x12 : Int) (r : (List GExpr)) (h : iStmt_exprs_L0 p0 x3 x12 = some r) : avc Try.prog aciStmt_exprs_L0 (qiStmt_exprs_1 r) (stiStmt_exprs_L0 p0 x3 x12) := (OKs_iStmt_exprs_L0 p0) x3 x12 r h
theorem OK_iStmt_exprs (p0 : GStmt) : FOkB Try.prog 97 [(vGStmt p0)] [] (fun (y : (List GExpr)) => (.osl 2000000 49 10 (y.map cGExpr))) (fun (y : (List GExpr)) => []) (iStmt_exprs p0) := by
 intro r h
 rw [iStmt_exprs] at h
 refine acalls_of_fn triStmt_exprs (Nat.le_of_ble_eq_true rfl) (by simp) ?_
 show avc Try.prog aciStmt_exprs (qiStmt_exprs _) ⟨[(0, (vGStmt p0))], []⟩
 delta aciStmt_exprs
 refine so ?_
 let a0 : St := ⟨[(2, (.nil 10)), (1, (.ptr 1 0)), (0, (vGStmt p0))], [(1, bGStmt p0)]⟩
 refine st 2 a0 (nx (so ?_))
 let a1 : St := a0.p [(7, (vGQuery p0.query)), (6, (.ptr 1 1))]
 refine st 2 a1 (callg_step ⟨[], [], [], [], [], [(2000000, 8)], [], [8]⟩ (m := iQuery_exprs p0.query) (S' := fun (y : (List GExpr)) => ⟨(8, (.osl 8 49 10 (y.map cGExpr))) :: a1.env, a1.bx⟩) h (OK_iQuery_exprs p0.query) (by kernel_rfl) (by kernel_rfl) (by kernel_rfl) (by kernel_rfl) (fun y => by kernel_rfl) (fun y => by kernel_rfl) ?_)
 clear h; intro y1 h
 let a2 : St := a1.p [(3, (.osl 3 49 10 (y1.map cGExpr))), (8, (.d (.sl 10 (y1.map cGExpr))))]
 refine st 1 a2 (nx (si (so ?_)))
 let a3 : St := a2.p [(10, (.d (.sl 1 (p0.rows.map (cSl 10 cGExpr))))), (9, (.ptr 1 8))]
 refine st 2 a3 (ps (vI (p0.rows.length : Int)) (vop_len (sz := 1) (l := p0.rows) (f := (cSl 10 cGExpr)) (by kernel_rfl) (by kernel_rfl)) ?_)
 let a4 : St := a3.p [(12, (vI 0)), (11, (vI (p0.rows.length : Int)))]
 exact st 1 a4 (nx (bi (loop_go (s' := stiStmt_exprs_L0 p0 y1 0) (wr [(3, .old 3)] (es (eo 3 (es (es (es er_nil))))) (bs_ br_nil)) (OK_iStmt_exprs_L0 p0 y1 0 _ h))))
theorem OK_iStmtDepth (p0 : GStmt) : FOk Try.prog 39 [(vGStmt p0)] (fun y => (vI y)) (iStmtDepth p0) := by
 intro r h
 rw [iStmtDepth] at h
 refine acalls_of_fn triStmtDepth (Nat.le_of_ble_eq_true rfl) (by simp) ?_
 show avc Try.prog aciStmtDepth (qiStmtDepth _) ⟨[(0, (vGStmt p0))], []⟩
 delta aciStmtDepth
 refine so ?_
 let a0 : St := ⟨[(2, (vI 0)), (1, (.ptr 1 0)), (0, (vGStmt p0))], [(1, bGStmt p0)]⟩
 refine st 2 a0 (nx (so ?_))
 let a1 : St := a0.p [(3, (vGStmt p0))]
 refine st 1 a1 (callg_step ⟨[], [], [], [], [], [(2000000, 4)], [], [4]⟩ (m := iStmt_exprs p0) (S' := fun (y : (List GExpr)) => ⟨(4, (.osl 4 49 10 (y.map cGExpr))) :: a1.env, a1.bx⟩) h (OK_iStmt_exprs p0) (by kernel_rfl) (by kernel_rfl) (by kernel_rfl) (by kernel_rfl) (fun y => by kernel_rfl) (fun y => by kernel_rfl) ?_)
 clear h; intro y1 h
 refine cs h (OK_iDeepestOf y1) fun y2 h => ?_
 let a2 : St := a1.p [(2, (vI y2)), (5, (vI y2)), (4, (.osl 4 49 10 (y1.map cGExpr)))]
 refine st 1 a2 (nx (ri ?_))
 injection h with h; subst h
 exact ret1_step (v := (vI y2)) (by kernel_rfl) (by kernel_rfl) (by kernel_rfl)
theorem OKs_sL7Exprs_L3 (p0 : GQuery) : (∀ (x3_9 : (List GExpr)) (x6 : Int) (r : (List GExpr)), sL7Exprs_L3 p0 x3_9 x6 = some r → avc Try.prog acsL7Exprs_L3 (qsL7Exprs_6 r) (stsL7Exprs_L3 p0 x3_9 x6)) := by
 refine sL7Exprs_L3.partial_correctness p0 (fun x3_9 x6 r => avc Try.prog acsL7Exprs_L3 (qsL7Exprs_6 r) (stsL7Exprs_L3 p0 x3_9 x6)) ?_
 · intro F_sL7Exprs_L3 OK_sL7Exprs_L3 x3_9 x6 r h
   delta acsL7Exprs_L3
   refine loop_unroll (si (so ?_))
   let a21 : St := (stsL7Exprs_L3 p0 x3_9 x6).p [(52, (.d (.sl 11 (p0.order.map cGSortKey)))), (51, (.ptr 1 4)), (50, (vI x6))]
   refine st 3 a21 (ps (vI (p0.order.length : Int)) (vop_len (sz := 11) (l := p0.order) (f := cGSortKey) (by kernel_rfl) (by kernel_rfl)) ?_)
   let a22 : St := a21.p [(54, (vB (decide (x6 < (p0.order.length : Int))))), (53, (vI (p0.order.length : Int)))]
   refine st 1 a22 (nx ?_)
   refine cd h (fun h => ?_) fun h => ?_
   refine ki (xi (si (bi (oi ?_))))
   let a23 : St := a22.p [(60, (vI x6)), (59, (.d (.sl 11 (p0.order.map cGSortKey)))), (58, (.ptr 1 4)), (57, (.osl 3 49 10 (x3_9.map cGExpr)))]
   refine st 4 a23 (vs (fun (y : GSortKey) => (.rp (oGSortKey y))) h (fun y hy => vop_ia (l := p0.order) (f := cGSortKey) (g := oGSortKey) (k := .i64) hy cGSortKey_eq (by kernel_rfl) (by kernel_rfl) (by kernel_rfl)) fun y10 h => ?_)
   let a24 : St := a23.p [(63, (vGExpr y10.expr)), (62, (.rp [(.i .i64 y10.expr.kind), (.i .i64 y10.expr.op), (.b y10.expr.not_), (.i .i64 y10.expr.value.kind), (.i .i64 y10.expr.value.num), (.s (bs y10.expr.value.text)), (.s (bs y10.expr.qual)), (.s (bs y10.expr.name)), (.sl 10 (y10.expr.kids.map cGExpr)), (.sl 6 (y10.expr.sub.map cGQuery)), (.b y10.desc)])), (61, (.rp (oGSortKey y10)))]
   refine st 2 a24 (bsl_step (l := ([y10.expr] : List GExpr)) (f := cGExpr) (g := oGExpr) (by kernel_rfl) cGExpr_eq (by kernel_rfl) ?_)
   refine app_step (t := 3) (l := x3_9) (m := ([y10.expr] : List GExpr)) (f := cGExpr) (S' := fun y => ⟨[(65, (.osl 65 49 10 (y.map cGExpr))), (64, (.osl 64 49 10 (([y10.expr] : List GExpr).map cGExpr))), (63, (vGExpr y10.expr)), (62, (.rp [(.i .i64 y10.expr.kind), (.i .i64 y10.expr.op), (.b y10.expr.not_), (.i .i64 y10.expr.value.kind), (.i .i64 y10.expr.value.num), (.s (bs y10.expr.value.text)), (.s (bs y10.expr.qual)), (.s (bs y10.expr.name)), (.sl 10 (y10.expr.kids.map cGExpr)), (.sl 6 (y10.expr.sub.map cGQuery)), (.b y10.desc)])), (61, (.rp (oGSortKey y10))), (60, (vI x6)), (59, (.d (.sl 11 (p0.order.map cGSortKey)))), (58, (.ptr 1 4)), (57, (.d (.sl 10 (x3_9.map cGExpr)))), (54, (vB (decide (x6 < (p0.order.length : Int))))), (53, (vI (p0.order.length : Int))), (52, (.d (.sl 11 (p0.order.map cGSortKey)))), (51, (.ptr 1 4)), (50, (vI x6)), (1, (.ptr 1 0)), (3, (.d (.sl 10 (x3_9.map cGExpr)))), (6, (vI x6))], [(1, bGQuery p0)]⟩) h (by kernel_rfl) (by kernel_rfl) (by kernel_rfl) (by kernel_rfl) (fun y => by kernel_rfl) ?_
   clear h; intro y11 h
   let a25 : St := ⟨[(3, (.osl 3 49 10 (y11.map cGExpr))), (65, (.d (.sl 10 (y11.map cGExpr)))), (64, (.osl 64 49 10 (([y10.expr] : List GExpr).map cGExpr))), (63, (vGExpr y10.expr)), (62, (.rp [(.i .i64 y10.expr.kind), (.i .i64 y10.expr.op), (.b y10.expr.not_), (.i .i64 y10.expr.value.kind), (.i .i64 y10.expr.value.num), (.s (bs y10.expr.value.text)), (.s (bs y10.expr.qual)), (.s (bs y10.expr.name)), (.sl 10 (y10.expr.kids.map cGExpr)), (.sl 6 (y10.expr.sub.map cGQuery)), (.b y10.desc)])), (61, (.rp (oGSortKey y10))), (60, (vI x6)), (59, (.d (.sl 11 (p0.order.map cGSortKey)))), (58, (.ptr 1 4)), (57, (.d (.sl 10 (x3_9.map cGExpr)))), (54, (vB (decide (x6 < (p0.order.length : Int))))), (53, (vI (p0.order.length : Int))), (52, (.d (.sl 11 (p0.order.map cGSortKey)))), (51, (.ptr 1 4)), (50, (vI x6)), (1, (.ptr 1 0)), (3, (.d (.sl 10 (x3_9.map cGExpr)))), (6, (vI x6))], [(1, bGQuery p0)]⟩
   refine st 1 a25 (ni (bn (xi (oi ?_))))
   let a26 : St := a25.p [(6, (vI (IntKind.wrap .i64 (x6 + 1)))), (56, (vI (IntKind.wrap .i64 (x6 + 1)))), (55, (vI x6))]
   exact st 3 a26 (ni (loop_back (s' := stsL7Exprs_L3 p0 y11 (IntKind.wrap .i64 (x6 + 1))) (wr [(3, .old 3)] (es (eo 3 (es er_nil))) (bs_ br_nil)) (OK_sL7Exprs_L3 y11 (IntKind.wrap .i64 (x6 + 1)) _ h)))
   refine ei (te (te (bh (xi (so ?_)))))
   let a27 : St := ⟨[(2, (.osl 2 49 10 (x3_9.map cGExpr))), (66, (.d (.sl 10 (x3_9.map cGExpr)))), (54, (vB (decide (x6 < (p0.order.length : Int))))), (53, (vI (p0.order.length : Int))), (52, (.d (.sl 11 (p0.order.map cGSortKey)))), (51, (.ptr 1 4)), (50, (vI x6)), (1, (.ptr 1 0)), (3, (.d (.sl 10 (x3_9.map cGExpr)))), (6, (vI x6))], [(1, bGQuery p0)]⟩
   refine st 2 a27 (nx (ret_wk (s' := ⟨[(2, (.osl 2000000 49 10 (x3_9.map cGExpr)))], []⟩) (wr [(2000000, .old 2)] (eo 2 er_nil) br_nil) ?_))
   injection h with h; subst h
   exact ret1_step (v := (.osl 2000000 49 10 (x3_9.map cGExpr))) (by kernel_rfl) (by kernel_rfl) ⟨by kernel_rfl, trivial⟩
theorem OK_sL7Exprs_L3 (p0 : GQuery) (x3_9 : (List GExpr)) (x6 : Int) (r : (List GExpr)) (h : sL7Exprs_L3 p0 x3_9 x6 = some r) : avc Try.prog acsL7Exprs_L3 (qsL7Exprs_6 r) (stsL7Exprs_L3 p0 x3_9 x6) := (OKs_sL7Exprs_L3 p0) x3_9 x6 r h
theorem OKs_sL7Exprs_L2 (p0 : GQuery) : (∀ (x3_5 : (List GExpr)) (x5 : Int) (r : (List GExpr)), sL7Exprs_L2 p0 x3_5 x5 = some r → avc Try.prog acsL7Exprs_L2 (qsL7Exprs_4 r) (stsL7Exprs_L2 p0 x3_5 x5)) := by
 refine sL7Exprs_L2.partial_correctness p0 (fun x3_5 x5 r => avc Try.prog acsL7Exprs_L2 (qsL7Exprs_4 r) (stsL7Exprs_L2 p0 x3_5 x5)) ?_
 · intro F_sL7Exprs_L2 OK_sL7Exprs_L2 x3_5 x5 r h
   delta acsL7Exprs_L2
   refine loop_unroll (si (so ?_))
   let a12 : St := (stsL7Exprs_L2 p0 x3_5 x5).p [(33, (.d (.sl 3 (p0.from_.map cGSource)))), (32, (.ptr 1 2)), (31, (vI x5))]
   refine st 3 a12 (ps (vI (p0.from_.length : Int)) (vop_len (sz := 3) (l := p0.from_) (f := cGSource) (by kernel_rfl) (by kernel_rfl)) ?_)
   let a13 : St := a12.p [(35, (vB (decide (x5 < (p0.from_.length : Int))))), (34, (vI (p0.from_.length : Int)))]
   refine st 1 a13 (nx ?_)
   refine cd h (fun h => ?_) fun h => ?_
   refine ki (xi (si (bi (oi ?_))))
   let a14 : St := a13.p [(41, (vI x5)), (40, (.d (.sl 3 (p0.from_.map cGSource)))), (39, (.ptr 1 2)), (38, (.osl 3 49 10 (x3_5.map cGExpr)))]
   refine st 4 a14 (vs (fun (y : GSource) => (.rp (oGSource y))) h (fun y hy => vop_ia (l := p0.from_) (f := cGSource) (g := oGSource) (k := .i64) hy cGSource_eq (by kernel_rfl) (by kernel_rfl) (by kernel_rfl)) fun y6 h => ?_)
   let a15 : St := a14.p [(44, (.d (.sl 10 (y6.on_.map cGExpr)))), (43, (.rp [(.sl 10 (y6.on_.map cGExpr))])), (42, (.rp (oGSource y6)))]
   refine st 2 a15 ?_
   refine app_step (t := 3) (l := x3_5) (m := y6.on_) (f := cGExpr) (S' := fun y => ⟨[(45, (.osl 45 49 10 (y.map cGExpr))), (44, (.d (.sl 10 (y6.on_.map cGExpr)))), (43, (.rp [(.sl 10 (y6.on_.map cGExpr))])), (42, (.rp (oGSource y6))), (41, (vI x5)), (40, (.d (.sl 3 (p0.from_.map cGSource)))), (39, (.ptr 1 2)), (38, (.d (.sl 10 (x3_5.map cGExpr)))), (35, (vB (decide (x5 < (p0.from_.length : Int))))), (34, (vI (p0.from_.length : Int))), (33, (.d (.sl 3 (p0.from_.map cGSource)))), (32, (.ptr 1 2)), (31, (vI x5)), (1, (.ptr 1 0)), (3, (.d (.sl 10 (x3_5.map cGExpr)))), (5, (vI x5))], [(1, bGQuery p0)]⟩) h (by kernel_rfl) (by kernel_rfl) (by kernel_rfl) (by kernel_rfl) (fun y => by kernel_rfl) ?_
   clear h; intro y7 h
   let a16 : St := ⟨[(3, (.osl 3 49 10 (y7.map cGExpr))), (45, (.d (.sl 10 (y7.map cGExpr)))), (44, (.d (.sl 10 (y6.on_.map cGExpr)))), (43, (.rp [(.sl 10 (y6.on_.map cGExpr))])), (42, (.rp (oGSource y6))), (41, (vI x5)), (40, (.d (.sl 3 (p0.from_.map cGSource)))), (39, (.ptr 1 2)), (38, (.d (.sl 10 (x3_5.map cGExpr)))), (35, (vB (decide (x5 < (p0.from_.length : Int))))), (34, (vI (p0.from_.length : Int))), (33, (.d (.sl 3 (p0.from_.map cGSource)))), (32, (.ptr 1 2)), (31, (vI x5)), (1, (.ptr 1 0)), (3, (.d (.sl 10 (x3_5.map cGExpr)))), (5, (vI x5))], [(1, bGQuery p0)]⟩
   refine st 1 a16 (ni (bn (xi (oi ?_))))
   let a17 : St := a16.p [(5, (vI (IntKind.wrap .i64 (x5 + 1)))), (37, (vI (IntKind.wrap .i64 (x5 + 1)))), (36, (vI x5))]
   exact st 3 a17 (ni (loop_back (s' := stsL7Exprs_L2 p0 y7 (IntKind.wrap .i64 (x5 + 1))) (wr [(3, .old 3)] (es (eo 3 (es er_nil))) (bs_ br_nil)) (OK_sL7Exprs_L2 y7 (IntKind.wrap .i64 (x5 + 1)) _ h)))
   refine ei (te (te (bh (xi (so ?_)))))
   let a18 : St := a13.p [(48, (.d (.sl 10 (p0.where_.map cGExpr)))), (47, (.ptr 1 3)), (46, (.osl 3 49 10 (x3_5.map cGExpr)))]
   refine st 3 a18 ?_
   refine app_step (t := 3) (l := x3_5) (m := p0.where_) (f := cGExpr) (S' := fun y => ⟨[(49, (.osl 49 49 10 (y.map cGExpr))), (48, (.d (.sl 10 (p0.where_.map cGExpr)))), (47, (.ptr 1 3)), (46, (.d (.sl 10 (x3_5.map cGExpr)))), (35, (vB (decide (x5 < (p0.from_.length : Int))))), (34, (vI (p0.from_.length : Int))), (33, (.d (.sl 3 (p0.from_.map cGSource)))), (32, (.ptr 1 2)), (31, (vI x5)), (1, (.ptr 1 0)), (3, (.d (.sl 10 (x3_5.map cGExpr)))), (5, (vI x5))], [(1, bGQuery p0)]⟩) h (by kernel_rfl) (by kernel_rfl) (by kernel_rfl) (by kernel_rfl) (fun y => by kernel_rfl) ?_
   clear h; intro y8 h
   let a19 : St := ⟨[(3, (.osl 3 49 10 (y8.map cGExpr))), (49, (.d (.sl 10 (y8.map cGExpr)))), (48, (.d (.sl 10 (p0.where_.map cGExpr)))), (47, (.ptr 1 3)), (46, (.d (.sl 10 (x3_5.map cGExpr)))), (35, (vB (decide (x5 < (p0.from_.length : Int))))), (34, (vI (p0.from_.length : Int))), (33, (.d (.sl 3 (p0.from_.map cGSource)))), (32, (.ptr 1 2)), (31, (vI x5)), (1, (.ptr 1 0)), (3, (.d (.sl 10 (x3_5.map cGExpr)))), (5, (vI x5))], [(1, bGQuery p0)]⟩
   refine st 1 a19 (nx (si (so ?_)))
   let a20 : St := a19.p [(6, (vI 0))]
   exact st 1 a20 (nx (bi (loop_go (s' := stsL7Exprs_L3 p0 y8 0) (wr [(3, .old 3)] (es (eo 3 (es er_nil))) (bs_ br_nil)) (OK_sL7Exprs_L3 p0 y8 0 _ h))))
theorem OK_sL7Exprs_L2 (p0 : GQuery) (x3_5 : (List GExpr)) (x5 : Int) (r : (List GExpr)) (h : sL7Exprs_L2 p0 x3_5 x5 = some r) : avc Try.prog acsL7Exprs_L2 (qsL7Exprs_4 r) (stsL7Exprs_L2 p0 x3_5 x5) := (OKs_sL7Exprs_L2 p0) x3_5 x5 r h
theorem OKs_sL7Exprs_J1 (p0 : GQuery) : (∀ (x4 : Int) (x3_4 : (List GExpr)) (r : (List GExpr)), sL7Exprs_J1 x4 p0 x3_4 = some r → avc Try.prog acsL7Exprs_J1 (qsL7Exprs_2 r) (stsL7Exprs_J1 x4 p0 x3_4)) ∧ (∀ (x3 : (List GExpr)) (x4 : Int) (r : (List GExpr)), sL7Exprs_L0 p0 x3 x4 = some r → avc Try.prog acsL7Exprs_L0 (qsL7Exprs_1 r) (stsL7Exprs_L0 p0 x3 x4)) := by
 refine sL7Exprs_J1.mutual_partial_correctness p0 (fun x4 x3_4 r => avc Try.prog acsL7Exprs_J1 (qsL7Exprs_2 r) (stsL7Exprs_J1 x4 p0 x3_4)) (fun x3 x4 r => avc Try.prog acsL7Exprs_L0 (qsL7Exprs_1 r) (stsL7Exprs_L0 p0 x3 x4)) ?_ ?_
 · intro F_sL7Exprs_L0 OK_sL7Exprs_L0 x4 x3_4 r h
   delta acsL7Exprs_J1
   refine oi ?_
   let a11 : St := (stsL7Exprs_J1 x4 p0 x3_4).p [(4, (vI (IntKind.wrap .i64 (x4 + 1)))), (14, (vI (IntKind.wrap .i64 (x4 + 1)))), (13, (vI x4))]
   exact st 3 a11 (ni (loop_back (s' := stsL7Exprs_L0 p0 x3_4 (IntKind.wrap .i64 (x4 + 1))) (wr [(3, .old 3)] (es (eo 3 (es er_nil))) (bs_ br_nil)) (OK_sL7Exprs_L0 x3_4 (IntKind.wrap .i64 (x4 + 1)) _ h)))
 · intro F_sL7Exprs_J1 OK_sL7Exprs_J1 x3 x4 r h
   delta acsL7Exprs_L0
   refine loop_unroll (si (so ?_))
   let a3 : St := (stsL7Exprs_L0 p0 x3 x4).p [(10, (.d (.sl 13 (p0.items.map cGItem)))), (9, (.ptr 1 1)), (8, (vI x4))]
   refine st 3 a3 (ps (vI (p0.items.length : Int)) (vop_len (sz := 13) (l := p0.items) (f := cGItem) (by kernel_rfl) (by kernel_rfl)) ?_)
   let a4 : St := a3.p [(12, (vB (decide (x4 < (p0.items.length : Int))))), (11, (vI (p0.items.length : Int)))]
   refine st 1 a4 (nx ?_)
   refine cd h (fun h => ?_) fun h => ?_
   refine ki (xi (si (bi (so ?_))))
   let a5 : St := a4.p [(17, (vI x4)), (16, (.d (.sl 13 (p0.items.map cGItem)))), (15, (.ptr 1 1))]
   refine st 3 a5 (vs (fun (y : GItem) => (.rp (oGItem y))) h (fun y hy => vop_ia (l := p0.items) (f := cGItem) (g := oGItem) (k := .i64) hy cGItem_eq (by kernel_rfl) (by kernel_rfl) (by kernel_rfl)) fun y1 h => ?_)
   let a6 : St := a5.p [(21, (vB (!y1.star))), (20, (vB y1.star)), (19, (.rp [(.b y1.star), (.s (bs y1.qual)), (.i .i64 y1.expr.kind), (.i .i64 y1.expr.op), (.b y1.expr.not_), (.i .i64 y1.expr.value.kind), (.i .i64 y1.expr.value.num), (.s (bs y1.expr.value.text)), (.s (bs y1.expr.qual)), (.s (bs y1.expr.name)), (.sl 10 (y1.expr.kids.map cGExpr)), (.sl 6 (y1.expr.sub.map cGQuery)), (.s (bs y1.as_))])), (18, (.rp (oGItem y1)))]
   refine st 3 a6 (nx ?_)
   refine cd h (fun h => ?_) fun h => ?_
   refine oi ?_
   let a7 : St := a6.p [(25, (vI x4)), (24, (.d (.sl 13 (p0.items.map cGItem)))), (23, (.ptr 1 1)), (22, (.osl 3 49 10 (x3.map cGExpr)))]
   refine st 4 a7 (vs (fun (y : GItem) => (.rp (oGItem y))) h (fun y hy => vop_ia (l := p0.items) (f := cGItem) (g := oGItem) (k := .i64) hy cGItem_eq (by kernel_rfl) (by kernel_rfl) (by kernel_rfl)) fun y2 h => ?_)
   let a8 : St := a7.p [(28, (vGExpr y2.expr)), (27, (.rp [(.i .i64 y2.expr.kind), (.i .i64 y2.expr.op), (.b y2.expr.not_), (.i .i64 y2.expr.value.kind), (.i .i64 y2.expr.value.num), (.s (bs y2.expr.value.text)), (.s (bs y2.expr.qual)), (.s (bs y2.expr.name)), (.sl 10 (y2.expr.kids.map cGExpr)), (.sl 6 (y2.expr.sub.map cGQuery)), (.s (bs y2.as_))])), (26, (.rp (oGItem y2)))]
   refine st 2 a8 (bsl_step (l := ([y2.expr] : List GExpr)) (f := cGExpr) (g := oGExpr) (by kernel_rfl) cGExpr_eq (by kernel_rfl) ?_)
   refine app_step (t := 3) (l := x3) (m := ([y2.expr] : List GExpr)) (f := cGExpr) (S' := fun y => ⟨[(30, (.osl 30 49 10 (y.map cGExpr))), (29, (.osl 29 49 10 (([y2.expr] : List GExpr).map cGExpr))), (28, (vGExpr y2.expr)), (27, (.rp [(.i .i64 y2.expr.kind), (.i .i64 y2.expr.op), (.b y2.expr.not_), (.i .i64 y2.expr.value.kind), (.i .i64 y2.expr.value.num), (.s (bs y2.expr.value.text)), (.s (bs y2.expr.qual)), (.s (bs y2.expr.name)), (.sl 10 (y2.expr.kids.map cGExpr)), (.sl 6 (y2.expr.sub.map cGQuery)), (.s (bs y2.as_))])), (26, (.rp (oGItem y2))), (25, (vI x4)), (24, (.d (.sl 13 (p0.items.map cGItem)))), (23, (.ptr 1 1)), (22, (.d (.sl 10 (x3.map cGExpr)))), (21, (vB (!y1.star))), (20, (vB y1.star)), (19, (.rp [(.b y1.star), (.s (bs y1.qual)), (.i .i64 y1.expr.kind), (.i .i64 y1.expr.op), (.b y1.expr.not_), (.i .i64 y1.expr.value.kind), (.i .i64 y1.expr.value.num), (.s (bs y1.expr.value.text)), (.s (bs y1.expr.qual)), (.s (bs y1.expr.name)), (.sl 10 (y1.expr.kids.map cGExpr)), (.sl 6 (y1.expr.sub.map cGQuery)), (.s (bs y1.as_))])), (18, (.rp (oGItem y1))), (17, (vI x4)), (16, (.d (.sl 13 (p0.items.map cGItem)))), (15, (.ptr 1 1)), (12, (vB (decide (x4 < (p0.items.length : Int))))), (11, (vI (p0.items.length : Int))), (10, (.d (.sl 13 (p0.items.map cGItem)))), (9, (.ptr 1 1)), (8, (vI x4)), (1, (.ptr 1 0)), (3, (.d (.sl 10 (x3.map cGExpr)))), (4, (vI x4))], [(1, bGQuery p0)]⟩) h (by kernel_rfl) (by kernel_rfl) (by kernel_rfl) (by kernel_rfl) (fun y => by kernel_rfl) ?_
   clear h; intro y3 h
   let a9 : St := ⟨[(3, (.osl 3 49 10 (y3.map cGExpr))), (30, (.d (.sl 10 (y3.map cGExpr)))), (29, (.osl 29 49 10 (([y2.expr] : List GExpr).map cGExpr))), (28, (vGExpr y2.expr)), (27, (.rp [(.i .i64 y2.expr.kind), (.i .i64 y2.expr.op), (.b y2.expr.not_), (.i .i64 y2.expr.value.kind), (.i .i64 y2.expr.value.num), (.s (bs y2.expr.value.text)), (.s (bs y2.expr.qual)), (.s (bs y2.expr.name)), (.sl 10 (y2.expr.kids.map cGExpr)), (.sl 6 (y2.expr.sub.map cGQuery)), (.s (bs y2.as_))])), (26, (.rp (oGItem y2))), (25, (vI x4)), (24, (.d (.sl 13 (p0.items.map cGItem)))), (23, (.ptr 1 1)), (22, (.d (.sl 10 (x3.map cGExpr)))), (21, (vB (!y1.star))), (20, (vB y1.star)), (19, (.rp [(.b y1.star), (.s (bs y1.qual)), (.i .i64 y1.expr.kind), (.i .i64 y1.expr.op), (.b y1.expr.not_), (.i .i64 y1.expr.value.kind), (.i .i64 y1.expr.value.num), (.s (bs y1.expr.value.text)), (.s (bs y1.expr.qual)), (.s (bs y1.expr.name)), (.sl 10 (y1.expr.kids.map cGExpr)), (.sl 6 (y1.expr.sub.map cGQuery)), (.s (bs y1.as_))])), (18, (.rp (oGItem y1))), (17, (vI x4)), (16, (.d (.sl 13 (p0.items.map cGItem)))), (15, (.ptr 1 1)), (12, (vB (decide (x4 < (p0.items.length : Int))))), (11, (vI (p0.items.length : Int))), (10, (.d (.sl 13 (p0.items.map cGItem)))), (9, (.ptr 1 1)), (8, (vI x4)), (1, (.ptr 1 0)), (3, (.d (.sl 10 (x3.map cGExpr)))), (4, (vI x4))], [(1, bGQuery p0)]⟩
   exact st 1 a9 (ni (bn (next_step (s' := stsL7Exprs_J1 x4 p0 y3) (wr [(3, .old 3)] (es (eo 3 (es er_nil))) (bs_ br_nil)) (OK_sL7Exprs_J1 x4 y3 _ h))))
   exact ki (bn (next_step (s' := stsL7Exprs_J1 x4 p0 x3) (wr [(3, .old 3)] (es (eo 3 (es er_nil))) (bs_ br_nil)) (OK_sL7Exprs_J1 x4 x3 _ h)))
   refine ei (te (te (bh (xi (si (so ?_))))))
   let a10 : St := a4.p [(5, (vI 0))]
   exact st 1 a10 (nx (bi (loop_go (s' := stsL7Exprs_L2 p0 x3 0) (wr [(3, .old 3)] (es (eo 3 (es er_nil))) (bs_ br_nil)) (OK_sL7Exprs_L2 p0 x3 0 _ h))))
theorem OK_sL7Exprs_J1 (x4 : Int) (p0 : GQuery) (x3_4 : (List GExpr)) (r : (List GExpr)) (h : sL7Exprs_J1 x4 p0 x3_4 = some r) : avc Try.prog acsL7Exprs_J1 (qsL7Exprs_2 r) (stsL7Exprs_J1 x4 p0 x3_4) := (OKs_sL7Exprs_J1 p0).1 x4 x3_4 r h
theorem OK_sL7Exprs_L0 (p0 : GQuery) (x3 : (List GExpr)) (x4 : Int) (r : (List GExpr)) (h : sL7Exprs_L0 p0 x3 x4 = some r) : avc Try.prog acsL7Exprs_L0 (qsL7Exprs_1 r) (stsL7Exprs_L0 p0 x3 x4) := (OKs_sL7Exprs_J1 p0).2 x3 x4 r h
theorem OK_sL7Exprs (p0 : GQuery) : FOkB Try.prog 58 [(vGQuery p0)] [] (fun (y : (List GExpr)) => (.osl 2000000 49 10 (y.map cGExpr))) (fun (y : (List GExpr)) => []) (sL7Exprs p0) := by
 intro r h
 rw [sL7Exprs] at h
 refine acalls_of_fn trsL7Exprs (Nat.le_of_ble_eq_true rfl) (by simp) ?_
 show avc Try.prog acsL7Exprs (qsL7Exprs _) ⟨[(0, (vGQuery p0))], []⟩
 delta acsL7Exprs
 refine so ?_
 let a0 : St := ⟨[(2, (.nil 10)), (1, (.ptr 1 0)), (0, (vGQuery p0))], [(1, bGQuery p0)]⟩
 refine st 2 a0 (nx (so (bsl_step (l := ([] : List GExpr)) (f := cGExpr) (g := oGExpr) (by kernel_rfl) cGExpr_eq (by kernel_rfl) ?_)))
 let a1 : St := a0.p [(3, (.osl 3 49 10 (([] : List GExpr).map cGExpr))), (7, (.d (.sl 10 (([] : List GExpr).map cGExpr))))]
 refine st 1 a1 (nx (si (so ?_)))
 let a2 : St := a1.p [(4, (vI 0))]
 exact st 1 a2 (nx (bi (loop_go (s' := stsL7Exprs_L0 p0 ([] : List GExpr) 0) (wr [(3, .old 3)] (es (eo 3 (es er_nil))) (bs_ br_nil)) (OK_sL7Exprs_L0 p0 ([] : List GExpr) 0 _ h))))
theorem OKs_sL8Exprs_L0 (p0 : GStmt) : (∀ (x3 : (List GExpr)) (x4 : Int) (r : (List GExpr)), sL8Exprs_L0 p0 x3 x4 = some r → avc Try.prog acsL8Exprs_L0 (qsL8Exprs_1 r) (stsL8Exprs_L0 p0 x3 x4)) := by
 refine sL8Exprs_L0.partial_correctness p0 (fun x3 x4 r => avc Try.prog acsL8Exprs_L0 (qsL8Exprs_1 r) (stsL8Exprs_L0 p0 x3 x4)) ?_
 · intro F_sL8Exprs_L0 OK_sL8Exprs_L0 x3 x4 r h
   delta acsL8Exprs_L0
   refine loop_unroll (si (so ?_))
   let a4 : St := (stsL8Exprs_L0 p0 x3 x4).p [(10, (.d (.sl 1 (p0.rows.map (cSl 10 cGExpr))))), (9, (.ptr 1 8)), (8, (vI x4))]
   refine st 3 a4 (ps (vI (p0.rows.length : Int)) (vop_len (sz := 1) (l := p0.rows) (f := (cSl 10 cGExpr)) (by kernel_rfl) (by kernel_rfl)) ?_)
   let a5 : St := a4.p [(12, (vB (decide (x4 < (p0.rows.length : Int))))), (11, (vI (p0.rows.length : Int)))]
   refine st 1 a5 (nx ?_)
   refine cd h (fun h => ?_) fun h => ?_
   refine ki (xi (si (bi (oi ?_))))
   let a6 : St := a5.p [(18, (vI x4)), (17, (.d (.sl 1 (p0.rows.map (cSl 10 cGExpr))))), (16, (.ptr 1 8)), (15, (.osl 3 49 10 (x3.map cGExpr)))]
   refine st 4 a6 (vs (fun (y : (List GExpr)) => (.rp [(.sl 10 (y.map cGExpr))])) h (fun y hy => vop_ia (l := p0.rows) (f := (cSl 10 cGExpr)) (g := (cSl 10 cGExpr)) (k := .i64) hy (fun _ => rfl) (by kernel_rfl) (by kernel_rfl) (by kernel_rfl)) fun y2 h => ?_)
   let a7 : St := a6.p [(20, (.d (.sl 10 (y2.map cGExpr)))), (19, (.rp [(.sl 10 (y2.map cGExpr))]))]
   refine st 1 a7 ?_
   refine app_step (t := 3) (l := x3) (m := y2) (f := cGExpr) (S' := fun y => ⟨[(21, (.osl 21 49 10 (y.map cGExpr))), (20, (.d (.sl 10 (y2.map cGExpr)))), (19, (.rp [(.sl 10 (y2.map cGExpr))])), (18, (vI x4)), (17, (.d (.sl 1 (p0.rows.map (cSl 10 cGExpr))))), (16, (.ptr 1 8)), (15, (.d (.sl 10 (x3.map cGExpr)))), (12, (vB (decide (x4 < (p0.rows.length : Int))))), (11, (vI (p0.rows.length : Int))), (10, (.d (.sl 1 (p0.rows.map (cSl 10 cGExpr))))), (9, (.ptr 1 8)), (8, (vI x4)), (1, (.ptr 1 0)), (3, (.d (.sl 10 (x3.map cGExpr)))), (4, (vI x4))], [(1, bGStmt p0)]⟩) h (by kernel_rfl) (by kernel_rfl) (by kernel_rfl) (by kernel_rfl) (fun y => by kernel_rfl) ?_
   clear h; intro y3 h
   let a8 : St := ⟨[(3, (.osl 3 49 10 (y3.map cGExpr))), (21, (.d (.sl 10 (y3.map cGExpr)))), (20, (.d (.sl 10 (y2.map cGExpr)))), (19, (.rp [(.sl 10 (y2.map cGExpr))])), (18, (vI x4)), (17, (.d (.sl 1 (p0.rows.map (cSl 10 cGExpr))))), (16, (.ptr 1 8)), (15, (.d (.sl 10 (x3.map cGExpr)))), (12, (vB (decide (x4 < (p0.rows.length : Int))))), (11, (vI (p0.rows.length : Int))), (10, (.d (.sl 1 (p0.rows.map (cSl 10 cGExpr))))), (9, (.ptr 1 8)), (8, (vI x4)), (1, (.ptr 1 0)), (3, (.d (.sl 10 (x3.map cGExpr)))), (4, (vI x4))], [(1, bGStmt p0)]⟩
   refine st 1 a8 (ni (bn (xi (oi ?_))))
   let a9 : St := a8.p [(4, (vI (IntKind.wrap .i64 (x4 + 1)))), (14, (vI (IntKind.wrap .i64 (x4 + 1)))), (13, (vI x4))]
   exact st 3 a9 (ni (loop_back (s' := stsL8Exprs_L0 p0 y3 (IntKind.wrap .i64 (x4 + 1))) (wr [(3, .old 3)] (es (eo 3 (es er_nil))) (bs_ br_nil)) (OK_sL8Exprs_L0 y3 (IntKind.wrap .i64 (x4 + 1)) _ h)))
   refine ei (te (te (bh (xi (so ?_)))))
   let a10 : St := a5.p [(24, (.d (.sl 10 (p0.sets.map cGExpr)))), (23, (.ptr 1 10)), (22, (.osl 3 49 10 (x3.map cGExpr)))]
   refine st 3 a10 ?_
   refine app_step (t := 3) (l := x3) (m := p0.sets) (f := cGExpr) (S' := fun y => ⟨[(25, (.osl 25 49 10 (y.map cGExpr))), (24, (.d (.sl 10 (p0.sets.map cGExpr)))), (23, (.ptr 1 10)), (22, (.d (.sl 10 (x3.map cGExpr)))), (12, (vB (decide (x4 < (p0.rows.length : Int))))), (11, (vI (p0.rows.length : Int))), (10, (.d (.sl 1 (p0.rows.map (cSl 10 cGExpr))))), (9, (.ptr 1 8)), (8, (vI x4)), (1, (.ptr 1 0)), (3, (.d (.sl 10 (x3.map cGExpr)))), (4, (vI x4))], [(1, bGStmt p0)]⟩) h (by kernel_rfl) (by kernel_rfl) (by kernel_rfl) (by kernel_rfl) (fun y => by kernel_rfl) ?_
   clear h; intro y4 h
   let a11 : St := ⟨[(3, (.osl 3 49 10 (y4.map cGExpr))), (25, (.d (.sl 10 (y4.map cGExpr)))), (24, (.d (.sl 10 (p0.sets.map cGExpr)))), (23, (.ptr 1 10)), (22, (.d (.sl 10 (x3.map cGExpr)))), (12, (vB (decide (x4 < (p0.rows.length : Int))))), (11, (vI (p0.rows.length : Int))), (10, (.d (.sl 1 (p0.rows.map (cSl 10 cGExpr))))), (9, (.ptr 1 8)), (8, (vI x4)), (1, (.ptr 1 0)), (3, (.d (.sl 10 (x3.map cGExpr)))), (4, (vI x4))], [(1, bGStmt p0)]⟩
   refine st 1 a11 (nx (so ?_))
   let a12 : St := a11.p [(28, (.d (.sl 10 (p0.where_.map cGExpr)))), (27, (.ptr 1 11)), (26, (.osl 3 49 10 (y4.map cGExpr)))]
   refine st 3 a12 ?_
   refine app_step (t := 3) (l := y4) (m := p0.where_) (f := cGExpr) (S' := fun y => ⟨[(29, (.osl 29 49 10 (y.map cGExpr))), (28, (.d (.sl 10 (p0.where_.map cGExpr)))), (27, (.ptr 1 11)), (26, (.d (.sl 10 (y4.map cGExpr)))), (3, (.d (.sl 10 (y4.map cGExpr)))), (25, (.d (.sl 10 (y4.map cGExpr)))), (24, (.d (.sl 10 (p0.sets.map cGExpr)))), (23, (.ptr 1 10)), (22, (.d (.sl 10 (x3.map cGExpr)))), (12, (vB (decide (x4 < (p0.rows.length : Int))))), (11, (vI (p0.rows.length : Int))), (10, (.d (.sl 1 (p0.rows.map (cSl 10 cGExpr))))), (9, (.ptr 1 8)), (8, (vI x4)), (1, (.ptr 1 0)), (3, (.d (.sl 10 (x3.map cGExpr)))), (4, (vI x4))], [(1, bGStmt p0)]⟩) h (by kernel_rfl) (by kernel_rfl) (by kernel_rfl) (by kernel_rfl) (fun y => by kernel_rfl) ?_
   clear h; intro y5 h
   let a13 : St := ⟨[(2, (.osl 2 49 10 (y5.map cGExpr))), (29, (.d (.sl 10 (y5.map cGExpr)))), (28, (.d (.sl 10 (p0.where_.map cGExpr)))), (27, (.ptr 1 11)), (26, (.d (.sl 10 (y4.map cGExpr)))), (3, (.d (.sl 10 (y4.map cGExpr)))), (25, (.d (.sl 10 (y4.map cGExpr)))), (24, (.d (.sl 10 (p0.sets.map cGExpr)))), (23, (.ptr 1 10)), (22, (.d (.sl 10 (x3.map cGExpr)))), (12, (vB (decide (x4 < (p0.rows.length : Int))))), (11, (vI (p0.rows.length : Int))), (10, (.d (.sl 1 (p0.rows.map (cSl 10 cGExpr))))), (9, (.ptr 1 8)), (8, (vI x4)), (1, (.ptr 1 0)), (3, (.d (.sl 10 (x3.map cGExpr)))), (4, (vI x4))], [(1, bGStmt p0)]⟩
   refine st 1 a13 (nx (ret_wk (s' := ⟨[(2, (.osl 2000000 49 10 (y5.map cGExpr)))], []⟩) (wr [(2000000, .old 2)] (eo 2 er_nil) br_nil) ?_))
   injection h with h; subst h
   exact ret1_step (v := (.osl 2000000 49 10 (y5.map cGExpr))) (by kernel_rfl) (by kernel_rfl) ⟨by kernel_rfl, trivial⟩
theorem OK_sL8Exprs_L0 (p0 : GStmt) (x3 : (List GExpr)) (x4 : Int) (r : (List GExpr)) (h : sL8Exprs_L0 p0 x3 x4 = some r) : avc Try.prog acsL8Exprs_L0 (qsL8Exprs_1 r) (stsL8Exprs_L0 p0 x3 x4) := (OKs_sL8Exprs_L0 p0) x3 x4 r h
theorem OK_sL8Exprs (p0 : GStmt) : FOkB Try.prog 92 [(vGStmt p0)] [] (fun (y : (List GExpr)) => (.osl 2000000 49 10 (y.map cGExpr))) (fun (y : (List GExpr)) => []) (sL8Exprs p0) := by
 intro r h
 rw [sL8Exprs] at h
 refine acalls_of_fn trsL8Exprs (Nat.le_of_ble_eq_true rfl) (by simp) ?_
 show avc Try.prog acsL8Exprs (qsL8Exprs _) ⟨[(0, (vGStmt p0))], []⟩
 delta acsL8Exprs
 refine so ?_
 let a0 : St := ⟨[(2, (.nil 10)), (1, (.ptr 1 0)), (0, (vGStmt p0))], [(1, bGStmt p0)]⟩
 refine st 2 a0 (nx (so ?_))
 let a1 : St := a0.p [(6, (vGQuery p0.query)), (5, (.ptr 1 1))]
 refine st 2 a1 (callg_step ⟨[], [], [], [], [], [(2000000, 7)], [], [7]⟩ (m := sL7Exprs p0.query) (S' := fun (y : (List GExpr)) => ⟨(7, (.osl 7 49 10 (y.map cGExpr))) :: a1.env, a1.bx⟩) h (OK_sL7Exprs p0.query) (by kernel_rfl) (by kernel_rfl) (by kernel_rfl) (by kernel_rfl) (fun y => by kernel_rfl) (fun y => by kernel_rfl) ?_)
 clear h; intro y1 h
 let a2 : St := a1.p [(3, (.osl 3 49 10 (y1.map cGExpr))), (7, (.d (.sl 10 (y1.map cGExpr))))]
 refine st 1 a2 (nx (si (so ?_)))
 let a3 : St := a2.p [(4, (vI 0))]
 exact st 1 a3 (nx (bi (loop_go (s' := stsL8Exprs_L0 p0 y1 0) (wr [(3, .old 3)] (es (eo 3 (es er_nil))) (bs_ br_nil)) (OK_sL8Exprs_L0 p0 y1 0 _ h))))
theorem OK_sL1Max (p0 : Int) (p1 : Int) : FOk Try.prog 59 [(vI p0), (vI p1)] (fun y => (vI y)) (sL1Max p0 p1) := by
 intro r h
 rw [sL1Max] at h
 refine acalls_of_fn trsL1Max (Nat.le_of_ble_eq_true rfl) (by simp) ?_
 show avc Try.prog acsL1Max (qsL1Max _) ⟨[(0, (vI p0)), (1, (vI p1))], []⟩
 delta acsL1Max
 refine so ?_
 let a0 : St := ⟨[(4, (vI 0)), (0, (vI p0)), (1, (vI p1))], []⟩
 refine st 1 a0 (nx (si (so ?_)))
 let a1 : St := a0.p [(7, (vB (decide (p1 < p0)))), (6, (vI p1)), (5, (vI p0))]
 refine st 3 a1 (nx ?_)
 refine cd h (fun h => ?_) fun h => ?_
 refine so ?_
 let a2 : St := a1.p [(4, (vI p0)), (8, (vI p0))]
 refine st 2 a2 (nx (ri (tr ?_)))
 injection h with h; subst h
 exact ret1_step (v := (vI p0)) (by kernel_rfl) (by kernel_rfl) (by kernel_rfl)
 refine ki (xi (so ?_))
 let a3 : St := a1.p [(4, (vI p1)), (9, (vI p1))]
 refine st 2 a3 (nx (ri ?_))
 injection h with h; subst h
 exact ret1_step (v := (vI p1)) (by kernel_rfl) (by kernel_rfl) (by kernel_rfl)
theorem OKs_sQueryDepth_L0 : (∀ (y1 : (List GExpr)) (x3 : Int) (x5 : Int) (r : Int), sQueryDepth_L0 y1 x3 x5 = some r → avc Try.prog acsQueryDepth_L0 (qsQueryDepth_1 r) (stsQueryDepth_L0 y1 x3 x5)) ∧ (∀ (p0 : GExpr) (r : Int), sDepthOf p0 = some r → ACalls Try.prog 60 [(vGExpr p0)] [] fun x _ => x = (fun y => (vI y)) r) ∧ (∀ (p0 : GExpr) (x3 : Int) (x4 : Int) (r : Int), sDepthOf_L0 p0 x3 x4 = some r → avc Try.prog acsDepthOf_L0 (qsDepthOf_1 r) (stsDepthOf_L0 p0 x3 x4)) ∧ (∀ (p0 : GExpr) (x3_4 : Int) (x5 : Int) (r : Int), sDepthOf_L1 p0 x3_4 x5 = some r → avc Try.prog acsDepthOf_L1 (qsDepthOf_3 r) (stsDepthOf_L1 p0 x3_4 x5)) ∧ (∀ (p0 : GQuery) (r : Int), sQueryDepth p0 = some r → ACalls Try.prog 15 [(vGQuery p0)] [] fun x _ => x = (fun y => (vI y)) r) := by
 refine sQueryDepth_L0.mutual_partial_correctness (fun y1 x3 x5 r => avc Try.prog acsQueryDepth_L0 (qsQueryDepth_1 r) (stsQueryDepth_L0 y1 x3 x5)) (fun p0 r => ACalls Try.prog 60 [(vGExpr p0)] [] fun x _ => x = (fun y => (vI y)) r) (fun p0 x3 x4 r => avc Try.prog acsDepthOf_L0 (qsDepthOf_1 r) (stsDepthOf_L0 p0 x3 x4)) (fun p0 x3_4 x5 r => avc Try.prog acsDepthOf_L1 (qsDepthOf_3 r) (stsDepthOf_L1 p0 x3_4 x5)) (fun p0 r => ACalls Try.prog 15 [(vGQuery p0)] [] fun x _ => x = (fun y => (vI y)) r) ?_ ?_ ?_ ?_ ?_
 · intro F_sQueryDepth_L0 F_sDepthOf OK_sQueryDepth_L0 OK_sDepthOf y1 x3 x5 r h
   delta acsQueryDepth_L0
   refine loop_unroll (si (so ?_))
   let a5 : St := (stsQueryDepth_L0 y1 x3 x5).p [(9, (.osl 4 49 10 (y1.map cGExpr))), (8, (vI x5))]
   refine st 2 a5 (ps (vI (y1.length : Int)) (vop_len (sz := 10) (l := y1) (f := cGExpr) (by kernel_rfl) (by kernel_rfl)) ?_)
   let a6 : St := a5.p [(11, (vB (decide (x5 < (y1.length : Int))))), (10, (vI (y1.length : Int)))]
   refine st 1 a6 (nx ?_)
   refine cd h (fun h => ?_) fun h => ?_
   refine ki (xi (si (bi (oi ?_))))
   let a7 : St := a6.p [(16, (vI x5)), (15, (.osl 4 49 10 (y1.map cGExpr))), (14, (vI x3))]
   refine st 3 a7 (vs (fun (y : GExpr) => (.rp (oGExpr y))) h (fun y hy => vop_ia (l := y1) (f := cGExpr) (g := oGExpr) (k := .i64) hy cGExpr_eq (by kernel_rfl) (by kernel_rfl) (by kernel_rfl)) fun y2 h => ?_)
   let a8 : St := a7.p [(18, (vGExpr y2)), (17, (.rp (oGExpr y2)))]
   refine st 1 a8 (cs h (OK_sDepthOf y2) fun y3 h => (cs h (OK_sL1Max x3 y3) fun y4 h => ?_))
   let a9 : St := a8.p [(3, (vI y4)), (20, (vI y4)), (19, (vI y3))]
   refine st 1 a9 (ni (bn (xi (oi ?_))))
   let a10 : St := a9.p [(5, (vI (IntKind.wrap .i64 (x5 + 1)))), (13, (vI (IntKind.wrap .i64 (x5 + 1)))), (12, (vI x5))]
   exact st 3 a10 (ni (loop_back (s' := stsQueryDepth_L0 y1 y4 (IntKind.wrap .i64 (x5 + 1))) (wr [(4, .old 4)] (es (eo 4 (es er_nil))) br_nil) (OK_sQueryDepth_L0 y1 y4 (IntKind.wrap .i64 (x5 + 1)) _ h)))
   refine ei (te (te (bh (xi (so ?_)))))
   let a11 : St := a6.p [(2, (vI x3)), (21, (vI x3))]
   refine st 2 a11 (nx (ri ?_))
   injection h with h; subst h
   exact ret1_step (v := (vI x3)) (by kernel_rfl) (by kernel_rfl) (by kernel_rfl)
 · intro F_sDepthOf_L0 OK_sDepthOf_L0 p0 r h
   refine acalls_of_fn trsDepthOf (Nat.le_of_ble_eq_true rfl) (by simp) ?_
   show avc Try.prog acsDepthOf (qsDepthOf _) ⟨[(0, (vGExpr p0))], []⟩
   delta acsDepthOf
   refine so ?_
   let a0 : St := ⟨[(2, (vI 0)), (1, (.ptr 1 0)), (0, (vGExpr p0))], [(1, bGExpr p0)]⟩
   refine st 2 a0 (nx (so ?_))
   let a1 : St := a0.p [(3, (vI 0))]
   refine st 1 a1 (nx (si (so ?_)))
   let a2 : St := a1.p [(4, (vI 0))]
   exact st 1 a2 (nx (bi (loop_go (s' := stsDepthOf_L0 p0 0 0) (wr [] (es (es (es er_nil))) (bs_ br_nil)) (OK_sDepthOf_L0 p0 0 0 _ h))))
 · intro F_sDepthOf F_sDepthOf_L0 F_sDepthOf_L1 OK_sDepthOf OK_sDepthOf_L0 OK_sDepthOf_L1 p0 x3 x4 r h
   delta acsDepthOf_L0
   refine loop_unroll (si (so ?_))
   let a3 : St := (stsDepthOf_L0 p0 x3 x4).p [(8, (.d (.sl 10 (p0.kids.map cGExpr)))), (7, (.ptr 1 8)), (6, (vI x4))]
   refine st 3 a3 (ps (vI (p0.kids.length : Int)) (vop_len (sz := 10) (l := p0.kids) (f := cGExpr) (by kernel_rfl) (by kernel_rfl)) ?_)
   let a4 : St := a3.p [(10, (vB (decide (x4 < (p0.kids.length : Int))))), (9, (vI (p0.kids.length : Int)))]
   refine st 1 a4 (nx ?_)
   refine cd h (fun h => ?_) fun h => ?_
   refine ki (xi (si (bi (oi ?_))))
   let a5 : St := a4.p [(16, (vI x4)), (15, (.d (.sl 10 (p0.kids.map cGExpr)))), (14, (.ptr 1 8)), (13, (vI x3))]
   refine st 4 a5 (vs (fun (y : GExpr) => (.rp (oGExpr y))) h (fun y hy => vop_ia (l := p0.kids) (f := cGExpr) (g := oGExpr) (k := .i64) hy cGExpr_eq (by kernel_rfl) (by kernel_rfl) (by kernel_rfl)) fun y1 h => ?_)
   let a6 : St := a5.p [(18, (vGExpr y1)), (17, (.rp (oGExpr y1)))]
   refine st 1 a6 (cs h (OK_sDepthOf y1) fun y2 h => (cs h (OK_sL1Max x3 y2) fun y3 h => ?_))
   let a7 : St := a6.p [(3, (vI y3)), (20, (vI y3)), (19, (vI y2))]
   refine st 1 a7 (ni (bn (xi (oi ?_))))
   let a8 : St := a7.p [(4, (vI (IntKind.wrap .i64 (x4 + 1)))), (12, (vI (IntKind.wrap .i64 (x4 + 1)))), (11, (vI x4))]
   exact st 3 a8 (ni (loop_back (s' := stsDepthOf_L0 p0 y3 (IntKind.wrap .i64 (x4 + 1))) (wr [] (es (es (es er_nil))) (bs_ br_nil)) (OK_sDepthOf_L0 p0 y3 (IntKind.wrap .i64 (x4 + 1)) _ h)))
   refine ei (te (te (bh (xi (si (so ?_))))))
   let a9 : St := a4.p [(5, (vI 0))]
   exact st 1 a9 (nx (bi (loop_go (s' := stsDepthOf_L1 p0 x3 0) (wr [] (es (es (es er_nil))) (bs_ br_nil)) (OK_sDepthOf_L1 p0 x3 0 _ h))))
 · intro F_sDepthOf_L1 F_sQueryDepth OK_sDepthOf_L1 OK_sQueryDepth p0 x3_4 x5 r h
   delta acsDepthOf_L1
   refine loop_unroll (si (so ?_))
   let a10 : St := (stsDepthOf_L1 p0 x3_4 x5).p [(23, (.d (.sl 6 (p0.sub.map cGQuery)))), (22, (.ptr 1 9)), (21, (vI x5))]
   refine st 3 a10 (ps (vI (p0.sub.length : Int)) (vop_len (sz := 6) (l := p0.sub) (f := cGQuery) (by kernel_rfl) (by kernel_rfl)) ?_)
   let a11 : St := a10.p [(25, (vB (decide (x5 < (p0.sub.length : Int))))), (24, (vI (p0.sub.length : Int)))]
   refine st 1 a11 (nx ?_)
   refine cd h (fun h => ?_) fun h => ?_
   refine ki (xi (si (bi (oi ?_))))
   let a12 : St := a11.p [(31, (vI x5)), (30, (.d (.sl 6 (p0.sub.map cGQuery)))), (29, (.ptr 1 9)), (28, (vI x3_4))]
   refine st 4 a12 (vs (fun (y : GQuery) => (.rp (oGQuery y))) h (fun y hy => vop_ia (l := p0.sub) (f := cGQuery) (g := oGQuery) (k := .i64) hy cGQuery_eq (by kernel_rfl) (by kernel_rfl) (by kernel_rfl)) fun y5 h => ?_)
   let a13 : St := a12.p [(33, (vGQuery y5)), (32, (.rp (oGQuery y5)))]
   refine st 1 a13 (cs h (OK_sQueryDepth y5) fun y6 h => (cs h (OK_sL1Max x3_4 y6) fun y7 h => ?_))
   let a14 : St := a13.p [(3, (vI y7)), (35, (vI y7)), (34, (vI y6))]
   refine st 1 a14 (ni (bn (xi (oi ?_))))
   let a15 : St := a14.p [(5, (vI (IntKind.wrap .i64 (x5 + 1)))), (27, (vI (IntKind.wrap .i64 (x5 + 1)))), (26, (vI x5))]
   exact st 3 a15 (ni (loop_back (s' := stsDepthOf_L1 p0 y7 (IntKind.wrap .i64 (x5 + 1))) (wr [] (es (es (es er_nil))) (bs_ br_nil)) (OK_sDepthOf_L1 p0 y7 (IntKind.wrap .i64 (x5 + 1)) _ h)))
   refine ei (te (te (bh (xi (so ?_)))))
   let a16 : St := a11.p [(2, (vI (IntKind.wrap .i64 (x3_4 + 1)))), (37, (vI (IntKind.wrap .i64 (x3_4 + 1)))), (36, (vI x3_4))]
   refine st 3 a16 (nx (ri ?_))
   injection h with h; subst h
   exact ret1_step (v := (vI (IntKind.wrap .i64 (x3_4 + 1)))) (by kernel_rfl) (by kernel_rfl) (by kernel_rfl)
 · intro F_sQueryDepth_L0 OK_sQueryDepth_L0 p0 r h
   refine acalls_of_fn trsQueryDepth (Nat.le_of_ble_eq_true rfl) (by simp) ?_
   show avc Try.prog acsQueryDepth (qsQueryDepth _) ⟨[(0, (vGQuery p0))], []⟩
   delta acsQueryDepth
   refine so ?_
   let a0 : St := ⟨[(2, (vI 0)), (1, (.ptr 1 0)), (0, (vGQuery p0))], [(1, bGQuery p0)]⟩
   refine st 2 a0 (nx (so ?_))
   let a1 : St := a0.p [(3, (vI 0))]
   refine st 1 a1 (nx (so ?_))
   let a2 : St := a1.p [(6, (vGQuery p0))]
   refine st 1 a2 (callg_step ⟨[], [], [], [], [], [(2000000, 7)], [], [7]⟩ (m := sL7Exprs p0) (S' := fun (y : (List GExpr)) => ⟨(7, (.osl 7 49 10 (y.map cGExpr))) :: a2.env, a2.bx⟩) h (OK_sL7Exprs p0) (by kernel_rfl) (by kernel_rfl) (by kernel_rfl) (by kernel_rfl) (fun y => by kernel_rfl) (fun y => by kernel_rfl) ?_)
   clear h; intro y1 h
   let a3 : St := a2.p [(4, (.osl 4 49 10 (y1.map cGExpr))), (7, (.d (.sl 10 (y1.map cGExpr))))]
   refine st 1 a3 (nx (si (so ?_)))
   let a4 : St := a3.p [(5, (vI 0))]
   exact st 1 a4 (nx (bi (loop_go (s' := stsQueryDepth_L0 y1 0 0) (wr [(4, .old 4)] (es (eo 4 (es er_nil))) br_nil) (OK_sQueryDepth_L0 y1 0 0 _ h))))
theorem OK_sQueryDepth_L0 (y1 : (List GExpr)) (x3 : Int) (x5 : Int) (r : Int) (h : sQueryDepth_L0 y1 x3 x5 = some r) : avc Try.prog acsQueryDepth_L0 (qsQueryDepth_1 r) (stsQueryDepth_L0 y1 x3 x5) := (OKs_sQueryDepth_L0).1 y1 x3 x5 r h
theorem OK_sDepthOf (p0 : GExpr) : FOk Try.prog 60 [(vGExpr p0)] (fun y => (vI y)) (sDepthOf p0) := fun r h => (OKs_sQueryDepth_L0).2.1 p0 r h
theorem OK_sDepthOf_L0 (p0 : GExpr) (x3 : Int) (x4 : Int) (r : Int) (h : sDepthOf_L0 p0 x3 x4 = some r) : avc Try.prog acsDepthOf_L0 (qsDepthOf_1 r) (stsDepthOf_L0 p0 x3 x4) := (OKs_sQueryDepth_L0).2.2.1 p0 x3 x4 r h
theorem OK_sDepthOf_L1 (p0 : GExpr) (x3_4 : Int) (x5 : Int) (r : Int) (h : sDepthOf_L1 p0 x3_4 x5 = some r) : avc Try.prog acsDepthOf_L1 (qsDepthOf_3 r) (stsDepthOf_L1 p0 x3_4 x5) := (OKs_sQueryDepth_L0).2.2.2.1 p0 x3_4 x5 r h
theorem OK_sQueryDepth (p0 : GQuery) : FOk Try.prog 15 [(vGQuery p0)] (fun y => (vI y)) (sQueryDepth p0) := fun r h => (OKs_sQueryDepth_L0).2.2.2.2 p0 r h
theorem OKs_sStmtDepth_L0 (y1 : (List GExpr)) : (∀ (x3 : Int) (x5 : Int) (r : Int), sStmtDepth_L0 y1 x3 x5 = some r → avc Try.prog acsStmtDepth_L0 (qsStmtDepth_1 r) (stsStmtDepth_L0 y1 x3 x5)) := by
 refine sStmtDepth_L0.partial_correctness y1 (fun x3 x5 r => avc Try.prog acsStmtDepth_L0 (qsStmtDepth_1 r) (stsStmtDepth_L0 y1 x3 x5)) ?_
 · intro F_sStmtDepth_L0 OK_sStmtDepth_L0 x3 x5 r h
   delta acsStmtDepth_L0
   refine loop_unroll (si (so ?_))
   let a5 : St := (stsStmtDepth_L0 y1 x3 x5).p [(9, (.osl 4 49 10 (y1.map cGExpr))), (8, (vI x5))]
   refine st 2 a5 (ps (vI (y1.length : Int)) (vop_len (sz := 10) (l := y1) (f := cGExpr) (by kernel_rfl) (by kernel_rfl)) ?_)
   let a6 : St := a5.p [(11, (vB (decide (x5 < (y1.length : Int))))), (10, (vI (y1.length : Int)))]
   refine st 1 a6 (nx ?_)
   refine cd h (fun h => ?_) fun h => ?_
   refine ki (xi (si (bi (oi ?_))))
   let a7 : St := a6.p [(16, (vI x5)), (15, (.osl 4 49 10 (y1.map cGExpr))), (14, (vI x3))]
   refine st 3 a7 (vs (fun (y : GExpr) => (.rp (oGExpr y))) h (fun y hy => vop_ia (l := y1) (f := cGExpr) (g := oGExpr) (k := .i64) hy cGExpr_eq (by kernel_rfl) (by kernel_rfl) (by kernel_rfl)) fun y2 h => ?_)
   let a8 : St := a7.p [(18, (vGExpr y2)), (17, (.rp (oGExpr y2)))]
   refine st 1 a8 (cs h (OK_sDepthOf y2) fun y3 h => (cs h (OK_sL1Max x3 y3) fun y4 h => ?_))
   let a9 : St := a8.p [(3, (vI y4)), (20, (vI y4)), (19, (vI y3))]
   refine st 1 a9 (ni (bn (xi (oi ?_))))
   let a10 : St := a9.p [(5, (vI (IntKind.wrap .i64 (x5 + 1)))), (13, (vI (IntKind.wrap .i64 (x5 + 1)))), (12, (vI x5))]
   exact st 3 a10 (ni (loop_back (s' := stsStmtDepth_L0 y1 y4 (IntKind.wrap .i64 (x5 + 1))) (wr [(4, .old 4)] (es (eo 4 (es er_nil))) br_nil) (OK_sStmtDepth_L0 y4 (IntKind.wrap .i64 (x5 + 1)) _ h)))
   refine ei (te (te (bh (xi (so ?_)))))
   let a11 : St := a6.p [(2, (vI x3)), (21, (vI x3))]
   refine st 2 a11 (nx (ri ?_))
   injection h with h; subst h
   exact ret1_step (v := (vI x3)) (by kernel_rfl) (by kernel_rfl) (by kernel_rfl)
theorem OK_sStmtDepth_L0 (y1 : (List GExpr)) (x3 : Int) (x5 : Int) (r : Int) (h : sStmtDepth_L0 y1 x3 x5 = some r) : avc Try.prog acsStmtDepth_L0 (qsStmtDepth_1 r) (stsStmtDepth_L0 y1 x3 x5) := (OKs_sStmtDepth_L0 y1) x3 x5 r h
theorem OK_sStmtDepth (p0 : GStmt) : FOk Try.prog 38 [(vGStmt p0)] (fun y => (vI y)) (sStmtDepth p0) := by
 intro r h
 rw [sStmtDepth] at h
 refine acalls_of_fn trsStmtDepth (Nat.le_of_ble_eq_true rfl) (by simp) ?_
 show avc Try.prog acsStmtDepth (qsStmtDepth _) ⟨[(0, (vGStmt p0))], []⟩
 delta acsStmtDepth
 refine so ?_
 let a0 : St := ⟨[(2, (vI 0)), (1, (.ptr 1 0)), (0, (vGStmt p0))], [(1, bGStmt p0)]⟩
 refine st 2 a0 (nx (so ?_))
 let a1 : St := a0.p [(3, (vI 0))]
 refine st 1 a1 (nx (so ?_))
 let a2 : St := a1.p [(6, (vGStmt p0))]
 refine st 1 a2 (callg_step ⟨[], [], [], [], [], [(2000000, 7)], [], [7]⟩ (m := sL8Exprs p0) (S' := fun (y : (List GExpr)) => ⟨(7, (.osl 7 49 10 (y.map cGExpr))) :: a2.env, a2.bx⟩) h (OK_sL8Exprs p0) (by kernel_rfl) (by kernel_rfl) (by kernel_rfl) (by kernel_rfl) (fun y => by kernel_rfl) (fun y => by kernel_rfl) ?_)
 clear h; intro y1 h
 let a3 : St := a2.p [(4, (.osl 4 49 10 (y1.map cGExpr))), (7, (.d (.sl 10 (y1.map cGExpr))))]
 refine st 1 a3 (nx (si (so ?_)))
 let a4 : St := a3.p [(5, (vI 0))]
 exact st 1 a4 (nx (bi (loop_go (s' := stsStmtDepth_L0 y1 0 0) (wr [(4, .old 4)] (es (eo 4 (es er_nil))) br_nil) (OK_sStmtDepth_L0 y1 0 0 _ h))))
theorem OK_wEqValue (p0 : GValue) (p1 : GValue) : FOk Try.prog 77 [(vGValue p0), (vGValue p1)] (fun y => (vB y)) (wEqValue p0 p1) := by
 intro r h
 rw [wEqValue] at h
 refine acalls_of_fn trwEqValue (Nat.le_of_ble_eq_true rfl) (by simp) ?_
 show avc Try.prog acwEqValue (qwEqValue _) ⟨[(0, (vGValue p0)), (1, (vGValue p1))], []⟩
 delta acwEqValue
 refine so ?_
 let a0 : St := ⟨[(4, (vB false)), (3, (.ptr 3 0)), (2, (.ptr 2 0)), (0, (vGValue p0)), (1, (vGValue p1))], [(3, bGValue p1), (2, bGValue p0)]⟩
 refine st 3 a0 (nx (si (so ?_)))
 let a1 : St := a0.p [(9, (vB (!decide (p0.kind = p1.kind)))), (8, (vI p1.kind)), (7, (.ptr 3 0)), (6, (vI p0.kind)), (5, (.ptr 2 0))]
 refine st 5 a1 (nx ?_)
 refine cd h (fun h => ?_) fun h => ?_
 refine so ?_
 let a2 : St := a1.p [(4, (vB false))]
 refine st 1 a2 (nx (ri (tr ?_)))
 injection h with h; subst h
 exact ret1_step (v := (vB false)) (by kernel_rfl) (by kernel_rfl) (by kernel_rfl)
 refine ki (xi (si (so ?_)))
 let a3 : St := a1.p [(14, (vB (!decide (p0.num = p1.num)))), (13, (vI p1.num)), (12, (.ptr 3 1)), (11, (vI p0.num)), (10, (.ptr 2 1))]
 refine st 5 a3 (nx ?_)
 refine cd h (fun h => ?_) fun h => ?_
 refine so ?_
 let a4 : St := a3.p [(4, (vB false))]
 refine st 1 a4 (nx (ri (tr ?_)))
 injection h with h; subst h
 exact ret1_step (v := (vB false)) (by kernel_rfl) (by kernel_rfl) (by kernel_rfl)
 refine ki (xi (si (so ?_)))
 let a5 : St := a3.p [(19, (vB (!decide (p0.text = p1.text)))), (18, (vS p1.text)), (17, (.ptr 3 2)), (16, (vS p0.text)), (15, (.ptr 2 2))]
 refine st 5 a5 (nx ?_)
 refine cd h (fun h => ?_) fun h => ?_
 refine so ?_
 let a6 : St := a5.p [(4, (vB false))]
 refine st 1 a6 (nx (ri (tr ?_)))
 injection h with h; subst h
 exact ret1_step (v := (vB false)) (by kernel_rfl) (by kernel_rfl) (by kernel_rfl)
 refine ki (xi (so ?_))
 let a7 : St := a5.p [(4, (vB true))]
 refine st 1 a7 (nx (ri ?_))
 injection h with h; subst h
 exact ret1_step (v := (vB true)) (by kernel_rfl) (by kernel_rfl) (by kernel_rfl)
theorem OKs_wEqSource : (∀ (p0 : GSource) (p1 : GSource) (r : Bool), wEqSource p0 p1 = some r → ACalls Try.prog 124 [(vGSource p0), (vGSource p1)] [] fun x _ => x = (fun y => (vB y)) r) ∧ (∀ (p0 : (List GExpr)) (p1 : (List GExpr)) (r : Bool), wEqExprS p0 p1 = some r → ACalls Try.prog 51 [(.d (.sl 10 (p0.map cGExpr))), (.d (.sl 10 (p1.map cGExpr)))] [] fun x _ => x = (fun y => (vB y)) r) ∧ (∀ (p0 : (List GExpr)) (p1 : (List GExpr)) (x5 : Int) (r : Bool), wEqExprS_L0 p0 p1 x5 = some r → avc Try.prog acwEqExprS_L0 (qwEqExprS_1 r) (stwEqExprS_L0 p0 p1 x5)) ∧ (∀ (p0 : GExpr) (p1 : GExpr) (r : Bool), wEqExpr p0 p1 = some r → ACalls Try.prog 23 [(vGExpr p0), (vGExpr p1)] [] fun x _ => x = (fun y => (vB y)) r) ∧ (∀ (p0 : (List GQuery)) (p1 : (List GQuery)) (r : Bool), wEqQueryS p0 p1 = some r → ACalls Try.prog 78 [(.d (.sl 6 (p0.map cGQuery))), (.d (.sl 6 (p1.map cGQuery)))] [] fun x _ => x = (fun y => (vB y)) r) ∧ (∀ (p0 : (List GQuery)) (p1 : (List GQuery)) (x5 : Int) (r : Bool), wEqQueryS_L0 p0 p1 x5 = some r → avc Try.prog acwEqQueryS_L0 (qwEqQueryS_1 r) (stwEqQueryS_L0 p0 p1 x5)) ∧ (∀ (p0 : GQuery) (p1 : GQuery) (r : Bool), wEqQuery p0 p1 = some r → ACalls Try.prog 18 [(vGQuery p0), (vGQuery p1)] [] fun x _ => x = (fun y => (vB y)) r) ∧ (∀ (p0 : (List GSortKey)) (p1 : (List GSortKey)) (r : Bool), wEqSortKeyS p0 p1 = some r → ACalls Try.prog 69 [(.d (.sl 11 (p0.map cGSortKey))), (.d (.sl 11 (p1.map cGSortKey)))] [] fun x _ => x = (fun y => (vB y)) r) ∧ (∀ (p0 : (List GSortKey)) (p1 : (List GSortKey)) (x5 : Int) (r : Bool), wEqSortKeyS_L0 p0 p1 x5 = some r → avc Try.prog acwEqSortKeyS_L0 (qwEqSortKeyS_1 r) (stwEqSortKeyS_L0 p0 p1 x5)) ∧ (∀ (p0 : GSortKey) (p1 : GSortKey) (r : Bool), wEqSortKey p0 p1 = some r → ACalls Try.prog 125 [(vGSortKey p0), (vGSortKey p1)] [] fun x _ => x = (fun y => (vB y)) r) ∧ (∀ (p0 : (List GSource)) (p1 : (List GSource)) (r : Bool), wEqSourceS p0 p1 = some r → ACalls Try.prog 68 [(.d (.sl 3 (p0.map cGSource))), (.d (.sl 3 (p1.map cGSource)))] [] fun x _ => x = (fun y => (vB y)) r) ∧ (∀ (p0 : (List GSource)) (p1 : (List GSource)) (x5 : Int) (r : Bool), wEqSourceS_L0 p0 p1 x5 = some r → avc Try.prog acwEqSourceS_L0 (qwEqSourceS_1 r) (stwEqSourceS_L0 p0 p1 x5)) ∧ (∀ (p0 : (List GItem)) (p1 : (List GItem)) (r : Bool), wEqItemS p0 p1 = some r → ACalls Try.prog 67 [(.d (.sl 13 (p0.map cGItem))), (.d (.sl 13 (p1.map cGItem)))] [] fun x _ => x = (fun y => (vB y)) r) ∧ (∀ (p0 : (List GItem)) (p1 : (List GItem)) (x5 : Int) (r : Bool), wEqItemS_L0 p0 p1 x5 = some r → avc Try.prog acwEqItemS_L0 (qwEqItemS_1 r) (stwEqItemS_L0 p0 p1 x5)) ∧ (∀ (p0 : GItem) (p1 : GItem) (r : Bool), wEqItem p0 p1 = some r → ACalls Try.prog 123 [(vGItem p0), (vGItem p1)] [] fun x _ => x = (fun y => (vB y)) r) := by
 refine wEqSource.mutual_partial_correctness (fun p0 p1 r => ACalls Try.prog 124 [(vGSource p0), (vGSource p1)] [] fun x _ => x = (fun y => (vB y)) r) (fun p0 p1 r => ACalls Try.prog 51 [(.d (.sl 10 (p0.map cGExpr))), (.d (.sl 10 (p1.map cGExpr)))] [] fun x _ => x = (fun y => (vB y)) r) (fun p0 p1 x5 r => avc Try.prog acwEqExprS_L0 (qwEqExprS_1 r) (stwEqExprS_L0 p0 p1 x5)) (fun p0 p1 r => ACalls Try.prog 23 [(vGExpr p0), (vGExpr p1)] [] fun x _ => x = (fun y => (vB y)) r) (fun p0 p1 r => ACalls Try.prog 78 [(.d (.sl 6 (p0.map cGQuery))), (.d (.sl 6 (p1.map cGQuery)))] [] fun x _ => x = (fun y => (vB y)) r) (fun p0 p1 x5 r => avc Try.prog acwEqQueryS_L0 (qwEqQueryS_1 r) (stwEqQueryS_L0 p0 p1 x5)) (fun p0 p1 r => ACalls Try.prog 18 [(vGQuery p0), (vGQuery p1)] [] fun x _ => x = (fun y => (vB y)) r) (fun p0 p1 r => ACalls Try.prog 69 [(.d (.sl 11 (p0.map cGSortKey))), (.d (.sl 11 (p1.map cGSortKey)))] [] fun x _ => x = (fun y => (vB y)) r) (fun p0 p1 x5 r => avc Try.prog acwEqSortKeyS_L0 (qwEqSortKeyS_1 r) (stwEqSortKeyS_L0 p0 p1 x5)) (fun p0 p1 r => ACalls Try.prog 125 [(vGSortKey p0), (vGSortKey p1)] [] fun x _ => x = (fun y => (vB y)) r) (fun p0 p1 r => ACalls Try.prog 68 [(.d (.sl 3 (p0.map cGSource))), (.d (.sl 3 (p1.map cGSource)))] [] fun x _ => x = (fun y => (vB y)) r) (fun p0 p1 x5 r => avc Try.prog acwEqSourceS_L0 (qwEqSourceS_1 r) (stwEqSourceS_L0 p0 p1 x5)) (fun p0 p1 r => ACalls Try.prog 67 [(.d (.sl 13 (p0.map cGItem))), (.d (.sl 13 (p1.map cGItem)))] [] fun x _ => x = (fun y => (vB y)) r) (fun p0 p1 x5 r => avc Try.prog acwEqItemS_L0 (qwEqItemS_1 r) (stwEqItemS_L0 p0 p1 x5)) (fun p0 p1 r => ACalls Try.prog 123 [(vGItem p0), (vGItem p1)] [] fun x _ => x = (fun y => (vB y)) r) ?_ ?_ ?_ ?_ ?_ ?_ ?_ ?_ ?_ ?_ ?_ ?_ ?_ ?_ ?_
 · intro F_wEqExprS OK_wEqExprS p0 p1 r h
   refine acalls_of_fn trwEqSource (Nat.le_of_ble_eq_true rfl) (by simp) ?_
   show avc Try.prog acwEqSource (qwEqSource _) ⟨[(0, (vGSource p0)), (1, (vGSource p1))], []⟩
   delta acwEqSource
   refine so ?_
   let a0 : St := ⟨[(4, (vB false)), (3, (.ptr 3 0)), (2, (.ptr 2 0)), (0, (vGSource p0)), (1, (vGSource p1))], [(3, bGSource p1), (2, bGSource p0)]⟩
   refine st 3 a0 (nx (si (so ?_)))
   let a1 : St := a0.p [(9, (vB (!decide (p0.table = p1.table)))), (8, (vS p1.table)), (7, (.ptr 3 0)), (6, (vS p0.table)), (5, (.ptr 2 0))]
   refine st 5 a1 (nx ?_)
   refine cd h (fun h => ?_) fun h => ?_
   refine so ?_
   let a2 : St := a1.p [(4, (vB false))]
   refine st 1 a2 (nx (ri (tr ?_)))
   injection h with h; subst h
   exact ret1_step (v := (vB false)) (by kernel_rfl) (by kernel_rfl) (by kernel_rfl)
   refine ki (xi (si (so ?_)))
   let a3 : St := a1.p [(14, (vB (!decide (p0.as_ = p1.as_)))), (13, (vS p1.as_)), (12, (.ptr 3 1)), (11, (vS p0.as_)), (10, (.ptr 2 1))]
   refine st 5 a3 (nx ?_)
   refine cd h (fun h => ?_) fun h => ?_
   refine so ?_
   let a4 : St := a3.p [(4, (vB false))]
   refine st 1 a4 (nx (ri (tr ?_)))
   injection h with h; subst h
   exact ret1_step (v := (vB false)) (by kernel_rfl) (by kernel_rfl) (by kernel_rfl)
   refine ki (xi (si (so ?_)))
   let a5 : St := a3.p [(18, (.d (.sl 10 (p1.on_.map cGExpr)))), (17, (.ptr 3 2)), (16, (.d (.sl 10 (p0.on_.map cGExpr)))), (15, (.ptr 2 2))]
   refine st 4 a5 (cs h (OK_wEqExprS p0.on_ p1.on_) fun y1 h => ?_)
   let a6 : St := a5.p [(20, (vB (!y1))), (19, (vB y1))]
   refine st 1 a6 (nx ?_)
   refine cd h (fun h => ?_) fun h => ?_
   refine so ?_
   let a7 : St := a6.p [(4, (vB false))]
   refine st 1 a7 (nx (ri (tr ?_)))
   injection h with h; subst h
   exact ret1_step (v := (vB false)) (by kernel_rfl) (by kernel_rfl) (by kernel_rfl)
   refine ki (xi (so ?_))
   let a8 : St := a6.p [(4, (vB true))]
   refine st 1 a8 (nx (ri ?_))
   injection h with h; subst h
   exact ret1_step (v := (vB true)) (by kernel_rfl) (by kernel_rfl) (by kernel_rfl)
 · intro F_wEqExprS_L0 OK_wEqExprS_L0 p0 p1 r h
   refine acalls_of_fn trwEqExprS (Nat.le_of_ble_eq_true rfl) (by simp) ?_
   show avc Try.prog acwEqExprS (qwEqExprS _) ⟨[(0, (.d (.sl 10 (p0.map cGExpr)))), (1, (.d (.sl 10 (p1.map cGExpr))))], []⟩
   delta acwEqExprS
   refine so ?_
   let a0 : St := ⟨[(4, (vB false)), (0, (.d (.sl 10 (p0.map cGExpr)))), (1, (.d (.sl 10 (p1.map cGExpr))))], []⟩
   refine st 1 a0 (nx (si (so ?_)))
   let a1 : St := a0.p [(6, (.d (.sl 10 (p0.map cGExpr))))]
   refine st 1 a1 (ps (vI (p0.length : Int)) (vop_len (sz := 10) (l := p0) (f := cGExpr) (by kernel_rfl) (by kernel_rfl)) ?_)
   let a2 : St := a1.p [(8, (.d (.sl 10 (p1.map cGExpr)))), (7, (vI (p0.length : Int)))]
   refine st 1 a2 (ps (vI (p1.length : Int)) (vop_len (sz := 10) (l := p1) (f := cGExpr) (by kernel_rfl) (by kernel_rfl)) ?_)
   let a3 : St := a2.p [(10, (vB (!decide ((p0.length : Int) = (p1.length : Int))))), (9, (vI (p1.length : Int)))]
   refine st 1 a3 (nx ?_)
   refine cd h (fun h => ?_) fun h => ?_
   refine so ?_
   let a4 : St := a3.p [(4, (vB false))]
   refine st 1 a4 (nx (ri (tr ?_)))
   injection h with h; subst h
   exact ret1_step (v := (vB false)) (by kernel_rfl) (by kernel_rfl) (by kernel_rfl)
   refine ki (xi (si (so ?_)))
   let a5 : St := a3.p [(5, (vI 0))]
   exact st 1 a5 (nx (bi (loop_go (s' := stwEqExprS_L0 p0 p1 0) (wr [] (es (es (es er_nil))) br_nil) (OK_wEqExprS_L0 p0 p1 0 _ h))))
 · intro F_wEqExprS_L0 F_wEqExpr OK_wEqExprS_L0 OK_wEqExpr p0 p1 x5 r h
   delta acwEqExprS_L0
   refine loop_unroll (si (so ?_))
   let a6 : St := (stwEqExprS_L0 p0 p1 x5).p [(12, (.d (.sl 10 (p0.map cGExpr)))), (11, (vI x5))]
   refine st 2 a6 (ps (vI (p0.length : Int)) (vop_len (sz := 10) (l := p0) (f := cGExpr) (by kernel_rfl) (by kernel_rfl)) ?_)
   let a7 : St := a6.p [(14, (vB (decide (x5 < (p0.length : Int))))), (13, (vI (p0.length : Int)))]
   refine st 1 a7 (nx ?_)
   refine cd h (fun h => ?_) fun h => ?_
   refine ki (xi (si (bi (si (dops_in ?_)))))
   let a8 : St := a7.p [(18, (vI x5)), (17, (.d (.sl 10 (p0.map cGExpr))))]
   refine dsts_ok 2 (s' := a8) (by kernel_rfl) (dv_step (m := idx p0 x5) (v' := fun y => (.rp (oGExpr y))) h rfl rfl (fun y hy => vop_ia (l := p0) (f := cGExpr) (g := oGExpr) (k := .i64) hy cGExpr_eq (by kernel_rfl) (by kernel_rfl) (by kernel_rfl)) ?_)
   clear h; intro y1 h
   let a9 : St := a8.p [(22, (vI x5)), (21, (.d (.sl 10 (p1.map cGExpr)))), (20, (vGExpr y1)), (19, (.rp (oGExpr y1)))]
   refine dsts_ok 3 (s' := a9) (by kernel_rfl) (dv_step (m := idx p1 x5) (v' := fun y => (.rp (oGExpr y))) h rfl rfl (fun y hy => vop_ia (l := p1) (f := cGExpr) (g := oGExpr) (k := .i64) hy cGExpr_eq (by kernel_rfl) (by kernel_rfl) (by kernel_rfl)) ?_)
   clear h; intro y2 h
   let a10 : St := a9.p [(24, (vGExpr y2)), (23, (.rp (oGExpr y2)))]
   refine dsts_ok 1 (s' := a10) (by kernel_rfl) (dcall_step (m := F_wEqExpr y1 y2) (args := [(vGExpr y1), (vGExpr y2)]) (v' := (fun y => (vB y))) h (OK_wEqExpr y1 y2) (by kernel_rfl) (by kernel_rfl) (fun _ => rfl) ?_)
   clear h; intro y3 h
   let a11 : St := a10.p [(26, (vB (!y3))), (25, (vB y3))]
   refine dsts_ok 1 (s' := a11) (by kernel_rfl) (dnil_in (by kernel_rfl) (by kernel_rfl) (xi ?_))
   refine cd h (fun h => ?_) fun h => ?_
   refine so ?_
   let a12 : St := a11.p [(4, (vB false))]
   refine st 1 a12 (nx (ri (br (tr (tr (br (tr ?_)))))))
   injection h with h; subst h
   exact ret1_step (v := (vB false)) (by kernel_rfl) (by kernel_rfl) (by kernel_rfl)
   refine ki (bn (xi (oi ?_)))
   let a13 : St := a11.p [(5, (vI (IntKind.wrap .i64 (x5 + 1)))), (16, (vI (IntKind.wrap .i64 (x5 + 1)))), (15, (vI x5))]
   exact st 3 a13 (ni (loop_back (s' := stwEqExprS_L0 p0 p1 (IntKind.wrap .i64 (x5 + 1))) (wr [] (es (es (es er_nil))) br_nil) (OK_wEqExprS_L0 p0 p1 (IntKind.wrap .i64 (x5 + 1)) _ h)))
   refine ei (te (te (bh (xi (so ?_)))))
   let a14 : St := a7.p [(4, (vB true))]
   refine st 1 a14 (nx (ri ?_))
   injection h with h; subst h
   exact ret1_step (v := (vB true)) (by kernel_rfl) (by kernel_rfl) (by kernel_rfl)
 · intro F_wEqExprS F_wEqQueryS OK_wEqExprS OK_wEqQueryS p0 p1 r h
   refine acalls_of_fn trwEqExpr (Nat.le_of_ble_eq_true rfl) (by simp) ?_
   show avc Try.prog acwEqExpr (qwEqExpr _) ⟨[(0, (vGExpr p0)), (1, (vGExpr p1))], []⟩
   delta acwEqExpr
   refine so ?_
   let a0 : St := ⟨[(4, (vB false)), (3, (.ptr 3 0)), (2, (.ptr 2 0)), (0, (vGExpr p0)), (1, (vGExpr p1))], [(3, bGExpr p1), (2, bGExpr p0)]⟩
   refine st 3 a0 (nx (si (so ?_)))
   let a1 : St := a0.p [(9, (vB (!decide (p0.kind = p1.kind)))), (8, (vI p1.kind)), (7, (.ptr 3 0)), (6, (vI p0.kind)), (5, (.ptr 2 0))]
   refine st 5 a1 (nx ?_)
   refine cd h (fun h => ?_) fun h => ?_
   refine so ?_
   let a2 : St := a1.p [(4, (vB false))]
   refine st 1 a2 (nx (ri (tr ?_)))
   injection h with h; subst h
   exact ret1_step (v := (vB false)) (by kernel_rfl) (by kernel_rfl) (by kernel_rfl)
   refine ki (xi (si (so ?_)))
   let a3 : St := a1.p [(14, (vB (!decide (p0.op = p1.op)))), (13, (vI p1.op)), (12, (.ptr 3 1)), (11, (vI p0.op)), (10, (.ptr 2 1))]
   refine st 5 a3 (nx ?_)
   refine cd h (fun h => ?_) fun h => ?_
   refine so ?_
   let a4 : St := a3.p [(4, (vB false))]
   refine st 1 a4 (nx (ri (tr ?_)))
   injection h with h; subst h
   exact ret1_step (v := (vB false)) (by kernel_rfl) (by kernel_rfl) (by kernel_rfl)
   refine ki (xi (si (so ?_)))
   let a5 : St := a3.p [(19, (vB (!(p0.not_ == p1.not_)))), (18, (vB p1.not_)), (17, (.ptr 3 2)), (16, (vB p0.not_)), (15, (.ptr 2 2))]
   refine st 5 a5 (nx ?_)
   refine cd h (fun h => ?_) fun h => ?_
   refine so ?_
   let a6 : St := a5.p [(4, (vB false))]
   refine st 1 a6 (nx (ri (tr ?_)))
   injection h with h; subst h
   exact ret1_step (v := (vB false)) (by kernel_rfl) (by kernel_rfl) (by kernel_rfl)
   refine ki (xi (si (so ?_)))
   let a7 : St := a5.p [(23, (vGValue p1.value)), (22, (.ptr 3 3)), (21, (vGValue p0.value)), (20, (.ptr 2 3))]
   refine st 4 a7 (cs h (OK_wEqValue p0.value p1.value) fun y1 h => ?_)
   let a8 : St := a7.p [(25, (vB (!y1))), (24, (vB y1))]
   refine st 1 a8 (nx ?_)
   refine cd h (fun h => ?_) fun h => ?_
   refine so ?_
   let a9 : St := a8.p [(4, (vB false))]
   refine st 1 a9 (nx (ri (tr ?_)))
   injection h with h; subst h
   exact ret1_step (v := (vB false)) (by kernel_rfl) (by kernel_rfl) (by kernel_rfl)
   refine ki (xi (si (so ?_)))
   let a10 : St := a8.p [(30, (vB (!decide (p0.qual = p1.qual)))), (29, (vS p1.qual)), (28, (.ptr 3 6)), (27, (vS p0.qual)), (26, (.ptr 2 6))]
   refine st 5 a10 (nx ?_)
   refine cd h (fun h => ?_) fun h => ?_
   refine so ?_
   let a11 : St := a10.p [(4, (vB false))]
   refine st 1 a11 (nx (ri (tr ?_)))
   injection h with h; subst h
   exact ret1_step (v := (vB false)) (by kernel_rfl) (by kernel_rfl) (by kernel_rfl)
   refine ki (xi (si (so ?_)))
   let a12 : St := a10.p [(35, (vB (!decide (p0.name = p1.name)))), (34, (vS p1.name)), (33, (.ptr 3 7)), (32, (vS p0.name)), (31, (.ptr 2 7))]
   refine st 5 a12 (nx ?_)
   refine cd h (fun h => ?_) fun h => ?_
   refine so ?_
   let a13 : St := a12.p [(4, (vB false))]
   refine st 1 a13 (nx (ri (tr ?_)))
   injection h with h; subst h
   exact ret1_step (v := (vB false)) (by kernel_rfl) (by kernel_rfl) (by kernel_rfl)
   refine ki (xi (si (so ?_)))
   let a14 : St := a12.p [(39, (.d (.sl 10 (p1.kids.map cGExpr)))), (38, (.ptr 3 8)), (37, (.d (.sl 10 (p0.kids.map cGExpr)))), (36, (.ptr 2 8))]
   refine st 4 a14 (cs h (OK_wEqExprS p0.kids p1.kids) fun y2 h => ?_)
   let a15 : St := a14.p [(41, (vB (!y2))), (40, (vB y2))]
   refine st 1 a15 (nx ?_)
   refine cd h (fun h => ?_) fun h => ?_
   refine so ?_
   let a16 : St := a15.p [(4, (vB false))]
   refine st 1 a16 (nx (ri (tr ?_)))
   injection h with h; subst h
   exact ret1_step (v := (vB false)) (by kernel_rfl) (by kernel_rfl) (by kernel_rfl)
   refine ki (xi (si (so ?_)))
   let a17 : St := a15.p [(45, (.d (.sl 6 (p1.sub.map cGQuery)))), (44, (.ptr 3 9)), (43, (.d (.sl 6 (p0.sub.map cGQuery)))), (42, (.ptr 2 9))]
   refine st 4 a17 (cs h (OK_wEqQueryS p0.sub p1.sub) fun y3 h => ?_)
   let a18 : St := a17.p [(47, (vB (!y3))), (46, (vB y3))]
   refine st 1 a18 (nx ?_)
   refine cd h (fun h => ?_) fun h => ?_
   refine so ?_
   let a19 : St := a18.p [(4, (vB false))]
   refine st 1 a19 (nx (ri (tr ?_)))
   injection h with h; subst h
   exact ret1_step (v := (vB false)) (by kernel_rfl) (by kernel_rfl) (by kernel_rfl)
   refine ki (xi (so ?_))
   let a20 : St := a18.p [(4, (vB true))]
   refine st 1 a20 (nx (ri ?_))
   injection h with h; subst h
   exact ret1_step (v := (vB true)) (by kernel_rfl) (by kernel_rfl) (by kernel_rfl)
 · intro F_wEqQueryS_L0 OK_wEqQueryS_L0 p0 p1 r h
   refine acalls_of_fn trwEqQueryS (Nat.le_of_ble_eq_true rfl) (by simp) ?_
   show avc Try.prog acwEqQueryS (qwEqQueryS _) ⟨[(0, (.d (.sl 6 (p0.map cGQuery)))), (1, (.d (.sl 6 (p1.map cGQuery))))], []⟩
   delta acwEqQueryS
   refine so ?_
   let a0 : St := ⟨[(4, (vB false)), (0, (.d (.sl 6 (p0.map cGQuery)))), (1, (.d (.sl 6 (p1.map cGQuery))))], []⟩
   refine st 1 a0 (nx (si (so ?_)))
   let a1 : St := a0.p [(6, (.d (.sl 6 (p0.map cGQuery))))]
   refine st 1 a1 (ps (vI (p0.length : Int)) (vop_len (sz := 6) (l := p0) (f := cGQuery) (by kernel_rfl) (by kernel_rfl)) ?_)
   let a2 : St := a1.p [(8, (.d (.sl 6 (p1.map cGQuery)))), (7, (vI (p0.length : Int)))]
   refine st 1 a2 (ps (vI (p1.length : Int)) (vop_len (sz := 6) (l := p1) (f := cGQuery) (by kernel_rfl) (by kernel_rfl)) ?_)
   let a3 : St := a2.p [(10, (vB (!decide ((p0.length : Int) = (p1.length : Int))))), (9, (vI (p1.length : Int)))]
   refine st 1 a3 (nx ?_)
   refine cd h (fun h => ?_) fun h => ?_
   refine so ?_
   let a4 : St := a3.p [(4, (vB false))]
   refine st 1 a4 (nx (ri (tr ?_)))
   injection h with h; subst h
   exact ret1_step (v := (vB false)) (by kernel_rfl) (by kernel_rfl) (by kernel_rfl)
   refine ki (xi (si (so ?_)))
   let a5 : St := a3.p [(5, (vI 0))]
   exact st 1 a5 (nx (bi (loop_go (s' := stwEqQueryS_L0 p0 p1 0) (wr [] (es (es (es er_nil))) br_nil) (OK_wEqQueryS_L0 p0 p1 0 _ h))))
 · intro F_wEqQueryS_L0 F_wEqQuery OK_wEqQueryS_L0 OK_wEqQuery p0 p1 x5 r h
   delta acwEqQueryS_L0
   refine loop_unroll (si (so ?_))
   let a6 : St := (stwEqQueryS_L0 p0 p1 x5).p [(12, (.d (.sl 6 (p0.map cGQuery)))), (11, (vI x5))]
   refine st 2 a6 (ps (vI (p0.length : Int)) (vop_len (sz := 6) (l := p0) (f := cGQuery) (by kernel_rfl) (by kernel_rfl)) ?_)
   let a7 : St := a6.p [(14, (vB (decide (x5 < (p0.length : Int))))), (13, (vI (p0.length : Int)))]
   refine st 1 a7 (nx ?_)
   refine cd h (fun h => ?_) fun h => ?_
   refine ki (xi (si (bi (si (dops_in ?_)))))
   let a8 : St := a7.p [(18, (vI x5)), (17, (.d (.sl 6 (p0.map cGQuery))))]
   refine dsts_ok 2 (s' := a8) (by kernel_rfl) (dv_step (m := idx p0 x5) (v' := fun y => (.rp (oGQuery y))) h rfl rfl (fun y hy => vop_ia (l := p0) (f := cGQuery) (g := oGQuery) (k := .i64) hy cGQuery_eq (by kernel_rfl) (by kernel_rfl) (by kernel_rfl)) ?_)
   clear h; intro y1 h
   let a9 : St := a8.p [(22, (vI x5)), (21, (.d (.sl 6 (p1.map cGQuery)))), (20, (vGQuery y1)), (19, (.rp (oGQuery y1)))]
   refine dsts_ok 3 (s' := a9) (by kernel_rfl) (dv_step (m := idx p1 x5) (v' := fun y => (.rp (oGQuery y))) h rfl rfl (fun y hy => vop_ia (l := p1) (f := cGQuery) (g := oGQuery) (k := .i64) hy cGQuery_eq (by kernel_rfl) (by kernel_rfl) (by kernel_rfl)) ?_)
   clear h; intro y2 h
   let a10 : St := a9.p [(24, (vGQuery y2)), (23, (.rp (oGQuery y2)))]
   refine dsts_ok 1 (s' := a10) (by kernel_rfl) (dcall_step (m := F_wEqQuery y1 y2) (args := [(vGQuery y1), (vGQuery y2)]) (v' := (fun y => (vB y))) h (OK_wEqQuery y1 y2) (by kernel_rfl) (by kernel_rfl) (fun _ => rfl) ?_)
   clear h; intro y3 h
   let a11 : St := a10.p [(26, (vB (!y3))), (25, (vB y3))]
   refine dsts_ok 1 (s' := a11) (by kernel_rfl) (dnil_in (by kernel_rfl) (by kernel_rfl) (xi ?_))
   refine cd h (fun h => ?_) fun h => ?_
   refine so ?_
   let a12 : St := a11.p [(4, (vB false))]
   refine st 1 a12 (nx (ri (br (tr (tr (br (tr ?_)))))))
   injection h with h; subst h
   exact ret1_step (v := (vB false)) (by kernel_rfl) (by kernel_rfl) (by kernel_rfl)
   refine ki (bn (xi (oi ?_)))
   let a13 : St := a11.p [(5, (vI (IntKind.wrap .i64 (x5 + 1)))), (16, (vI (IntKind.wrap .i64 (x5 + 1)))), (15, (vI x5))]
   exact st 3 a13 (ni (loop_back (s' := stwEqQueryS_L0 p0 p1 (IntKind.wrap .i64 (x5 + 1))) (wr [] (es (es (es er_nil))) br_nil) (OK_wEqQueryS_L0 p0 p1 (IntKind.wrap .i64 (x5 + 1)) _ h)))
   refine ei (te (te (bh (xi (so ?_)))))
   let a14 : St := a7.p [(4, (vB true))]
   refine st 1 a14 (nx (ri ?_))
   injection h with h; subst h
   exact ret1_step (v := (vB true)) (by kernel_rfl) (by kernel_rfl) (by kernel_rfl)
 · intro F_wEqExprS F_wEqSortKeyS F_wEqSourceS F_wEqItemS OK_wEqExprS OK_wEqSortKeyS OK_wEqSourceS OK_wEqItemS p0 p1 r h
   refine acalls_of_fn trwEqQuery (Nat.le_of_ble_eq_true rfl) (by simp) ?_
   show avc Try.prog acwEqQuery (qwEqQuery _) ⟨[(0, (vGQuery p0)), (1, (vGQuery p1))], []⟩
   delta acwEqQuery
   refine so ?_
   let a0 : St := ⟨[(4, (vB false)), (3, (.ptr 3 0)), (2, (.ptr 2 0)), (0, (vGQuery p0)), (1, (vGQuery p1))], [(3, bGQuery p1), (2, bGQuery p0)]⟩
   refine st 3 a0 (nx (si (so ?_)))
   let a1 : St := a0.p [(9, (vB (!(p0.distinct == p1.distinct)))), (8, (vB p1.distinct)), (7, (.ptr 3 0)), (6, (vB p0.distinct)), (5, (.ptr 2 0))]
   refine st 5 a1 (nx ?_)
   refine cd h (fun h => ?_) fun h => ?_
   refine so ?_
   let a2 : St := a1.p [(4, (vB false))]
   refine st 1 a2 (nx (ri (tr ?_)))
   injection h with h; subst h
   exact ret1_step (v := (vB false)) (by kernel_rfl) (by kernel_rfl) (by kernel_rfl)
   refine ki (xi (si (so ?_)))
   let a3 : St := a1.p [(13, (.d (.sl 13 (p1.items.map cGItem)))), (12, (.ptr 3 1)), (11, (.d (.sl 13 (p0.items.map cGItem)))), (10, (.ptr 2 1))]
   refine st 4 a3 (cs h (OK_wEqItemS p0.items p1.items) fun y1 h => ?_)
   let a4 : St := a3.p [(15, (vB (!y1))), (14, (vB y1))]
   refine st 1 a4 (nx ?_)
   refine cd h (fun h => ?_) fun h => ?_
   refine so ?_
   let a5 : St := a4.p [(4, (vB false))]
   refine st 1 a5 (nx (ri (tr ?_)))
   injection h with h; subst h
   exact ret1_step (v := (vB false)) (by kernel_rfl) (by kernel_rfl) (by kernel_rfl)
   refine ki (xi (si (so ?_)))
   let a6 : St := a4.p [(19, (.d (.sl 3 (p1.from_.map cGSource)))), (18, (.ptr 3 2)), (17, (.d (.sl 3 (p0.from_.map cGSource)))), (16, (.ptr 2 2))]
   refine st 4 a6 (cs h (OK_wEqSourceS p0.from_ p1.from_) fun y2 h => ?_)
   let a7 : St := a6.p [(21, (vB (!y2))), (20, (vB y2))]
   refine st 1 a7 (nx ?_)
   refine cd h (fun h => ?_) fun h => ?_
   refine so ?_
   let a8 : St := a7.p [(4, (vB false))]
   refine st 1 a8 (nx (ri (tr ?_)))
   injection h with h; subst h
   exact ret1_step (v := (vB false)) (by kernel_rfl) (by kernel_rfl) (by kernel_rfl)
   refine ki (xi (si (so ?_)))
   let a9 : St := a7.p [(25, (.d (.sl 10 (p1.where_.map cGExpr)))), (24, (.ptr 3 3)), (23, (.d (.sl 10 (p0.where_.map cGExpr)))), (22, (.ptr 2 3))]
   refine st 4 a9 (cs h (OK_wEqExprS p0.where_ p1.where_) fun y3 h => ?_)
   let a10 : St := a9.p [(27, (vB (!y3))), (26, (vB y3))]
   refine st 1 a10 (nx ?_)
   refine cd h (fun h => ?_) fun h => ?_
   refine so ?_
   let a11 : St := a10.p [(4, (vB false))]
   refine st 1 a11 (nx (ri (tr ?_)))
   injection h with h; subst h
   exact ret1_step (v := (vB false)) (by kernel_rfl) (by kernel_rfl) (by kernel_rfl)
   refine ki (xi (si (so ?_)))
   let a12 : St := a10.p [(31, (.d (.sl 11 (p1.order.map cGSortKey)))), (30, (.ptr 3 4)), (29, (.d (.sl 11 (p0.order.map cGSortKey)))), (28, (.ptr 2 4))]
   refine st 4 a12 (cs h (OK_wEqSortKeyS p0.order p1.order) fun y4 h => ?_)
   let a13 : St := a12.p [(33, (vB (!y4))), (32, (vB y4))]
   refine st 1 a13 (nx ?_)
   refine cd h (fun h => ?_) fun h => ?_
   refine so ?_
   let a14 : St := a13.p [(4, (vB false))]
   refine st 1 a14 (nx (ri (tr ?_)))
   injection h with h; subst h
   exact ret1_step (v := (vB false)) (by kernel_rfl) (by kernel_rfl) (by kernel_rfl)
   refine ki (xi (si (so ?_)))
   let a15 : St := a13.p [(38, (vB (!decide (p0.limit = p1.limit)))), (37, (vI p1.limit)), (36, (.ptr 3 5)), (35, (vI p0.limit)), (34, (.ptr 2 5))]
   refine st 5 a15 (nx ?_)
   refine cd h (fun h => ?_) fun h => ?_
   refine so ?_
   let a16 : St := a15.p [(4, (vB false))]
   refine st 1 a16 (nx (ri (tr ?_)))
   injection h with h; subst h
   exact ret1_step (v := (vB false)) (by kernel_rfl) (by kernel_rfl) (by kernel_rfl)
   refine ki (xi (so ?_))
   let a17 : St := a15.p [(4, (vB true))]
   refine st 1 a17 (nx (ri ?_))
   injection h with h; subst h
   exact ret1_step (v := (vB true)) (by kernel_rfl) (by kernel_rfl) (by kernel_rfl)
 · intro F_wEqSortKeyS_L0 OK_wEqSortKeyS_L0 p0 p1 r h
   refine acalls_of_fn trwEqSortKeyS (Nat.le_of_ble_eq_true rfl) (by simp) ?_
   show avc Try.prog acwEqSortKeyS (qwEqSortKeyS _) ⟨[(0, (.d (.sl 11 (p0.map cGSortKey)))), (1, (.d (.sl 11 (p1.map cGSortKey))))], []⟩
   delta acwEqSortKeyS
   refine so ?_
   let a0 : St := ⟨[(4, (vB false)), (0, (.d (.sl 11 (p0.map cGSortKey)))), (1, (.d (.sl 11 (p1.map cGSortKey))))], []⟩
   refine st 1 a0 (nx (si (so ?_)))
   let a1 : St := a0.p [(6, (.d (.sl 11 (p0.map cGSortKey))))]
   refine st 1 a1 (ps (vI (p0.length : Int)) (vop_len (sz := 11) (l := p0) (f := cGSortKey) (by kernel_rfl) (by kernel_rfl)) ?_)
   let a2 : St := a1.p [(8, (.d (.sl 11 (p1.map cGSortKey)))), (7, (vI (p0.length : Int)))]
   refine st 1 a2 (ps (vI (p1.length : Int)) (vop_len (sz := 11) (l := p1) (f := cGSortKey) (by kernel_rfl) (by kernel_rfl)) ?_)
   let a3 : St := a2.p [(10, (vB (!decide ((p0.length : Int) = (p1.length : Int))))), (9, (vI (p1.length : Int)))]
   refine st 1 a3 (nx ?_)
   refine cd h (fun h => ?_) fun h => ?_
   refine so ?_
   let a4 : St := a3.p [(4, (vB false))]
   refine st 1 a4 (nx (ri (tr ?_)))
   injection h with h; subst h
   exact ret1_step (v := (vB false)) (by kernel_rfl) (by kernel_rfl) (by kernel_rfl)
   refine ki (xi (si (so ?_)))
   let a5 : St := a3.p [(5, (vI 0))]
   exact st 1 a5 (nx (bi (loop_go (s' := stwEqSortKeyS_L0 p0 p1 0) (wr [] (es (es (es er_nil))) br_nil) (OK_wEqSortKeyS_L0 p0 p1 0 _ h))))
 · intro F_wEqSortKeyS_L0 F_wEqSortKey OK_wEqSortKeyS_L0 OK_wEqSortKey p0 p1 x5 r h
   delta acwEqSortKeyS_L0
   refine loop_unroll (si (so ?_))
   let a6 : St := (stwEqSortKeyS_L0 p0 p1 x5).p [(12, (.d (.sl 11 (p0.map cGSortKey)))), (11, (vI x5))]
   refine st 2 a6 (ps (vI (p0.length : Int)) (vop_len (sz := 11) (l := p0) (f := cGSortKey) (by kernel_rfl) (by kernel_rfl)) ?_)
   let a7 : St := a6.p [(14, (vB (decide (x5 < (p0.length : Int))))), (13, (vI (p0.length : Int)))]
   refine st 1 a7 (nx ?_)
   refine cd h (fun h => ?_) fun h => ?_
   refine ki (xi (si (bi (si (dops_in ?_)))))
   let a8 : St := a7.p [(18, (vI x5)), (17, (.d (.sl 11 (p0.map cGSortKey))))]
   refine dsts_ok 2 (s' := a8) (by kernel_rfl) (dv_step (m := idx p0 x5) (v' := fun y => (.rp (oGSortKey y))) h rfl rfl (fun y hy => vop_ia (l := p0) (f := cGSortKey) (g := oGSortKey) (k := .i64) hy cGSortKey_eq (by kernel_rfl) (by kernel_rfl) (by kernel_rfl)) ?_)
   clear h; intro y1 h
   let a9 : St := a8.p [(22, (vI x5)), (21, (.d (.sl 11 (p1.map cGSortKey)))), (20, (vGSortKey y1)), (19, (.rp (oGSortKey y1)))]
   refine dsts_ok 3 (s' := a9) (by kernel_rfl) (dv_step (m := idx p1 x5) (v' := fun y => (.rp (oGSortKey y))) h rfl rfl (fun y hy => vop_ia (l := p1) (f := cGSortKey) (g := oGSortKey) (k := .i64) hy cGSortKey_eq (by kernel_rfl) (by kernel_rfl) (by kernel_rfl)) ?_)
   clear h; intro y2 h
   let a10 : St := a9.p [(24, (vGSortKey y2)), (23, (.rp (oGSortKey y2)))]
   refine dsts_ok 1 (s' := a10) (by kernel_rfl) (dcall_step (m := F_wEqSortKey y1 y2) (args := [(vGSortKey y1), (vGSortKey y2)]) (v' := (fun y => (vB y))) h (OK_wEqSortKey y1 y2) (by kernel_rfl) (by kernel_rfl) (fun _ => rfl) ?_)
   clear h; intro y3 h
   let a11 : St := a10.p [(26, (vB (!y3))), (25, (vB y3))]
   refine dsts_ok 1 (s' := a11) (by kernel_rfl) (dnil_in (by kernel_rfl) (by kernel_rfl) (xi ?_))
   refine cd h (fun h => ?_) fun h => ?_
   refine so ?_
   let a12 : St := a11.p [(4, (vB false))]
   refine st 1 a12 (nx (ri (br (tr (tr (br (tr ?_)))))))
   injection h with h; subst h
   exact ret1_step (v := (vB false)) (by kernel_rfl) (by kernel_rfl) (by kernel_rfl)
   refine ki (bn (xi (oi ?_)))
   let a13 : St := a11.p [(5, (vI (IntKind.wrap .i64 (x5 + 1)))), (16, (vI (IntKind.wrap .i64 (x5 + 1)))), (15, (vI x5))]
   exact st 3 a13 (ni (loop_back (s' := stwEqSortKeyS_L0 p0 p1 (IntKind.wrap .i64 (x5 + 1))) (wr [] (es (es (es er_nil))) br_nil) (OK_wEqSortKeyS_L0 p0 p1 (IntKind.wrap .i64 (x5 + 1)) _ h)))
   refine ei (te (te (bh (xi (so ?_)))))
   let a14 : St := a7.p [(4, (vB true))]
   refine st 1 a14 (nx (ri ?_))
   injection h with h; subst h
   exact ret1_step (v := (vB true)) (by kernel_rfl) (by kernel_rfl) (by kernel_rfl)
 · intro F_wEqExpr OK_wEqExpr p0 p1 r h
   refine acalls_of_fn trwEqSortKey (Nat.le_of_ble_eq_true rfl) (by simp) ?_
   show avc Try.prog acwEqSortKey (qwEqSortKey _) ⟨[(0, (vGSortKey p0)), (1, (vGSortKey p1))], []⟩
   delta acwEqSortKey
   refine so ?_
   let a0 : St := ⟨[(4, (vB false)), (3, (.ptr 3 0)), (2, (.ptr 2 0)), (0, (vGSortKey p0)), (1, (vGSortKey p1))], [(3, bGSortKey p1), (2, bGSortKey p0)]⟩
   refine st 3 a0 (nx (si (so ?_)))
   let a1 : St := a0.p [(8, (vGExpr p1.expr)), (7, (.ptr 3 0)), (6, (vGExpr p0.expr)), (5, (.ptr 2 0))]
   refine st 4 a1 (cs h (OK_wEqExpr p0.expr p1.expr) fun y1 h => ?_)
   let a2 : St := a1.p [(10, (vB (!y1))), (9, (vB y1))]
   refine st 1 a2 (nx ?_)
   refine cd h (fun h => ?_) fun h => ?_
   refine so ?_
   let a3 : St := a2.p [(4, (vB false))]
   refine st 1 a3 (nx (ri (tr ?_)))
   injection h with h; subst h
   exact ret1_step (v := (vB false)) (by kernel_rfl) (by kernel_rfl) (by kernel_rfl)
   refine ki (xi (si (so ?_)))
   let a4 : St := a2.p [(15, (vB (!(p0.desc == p1.desc)))), (14, (vB p1.desc)), (13, (.ptr 3 10)), (12, (vB p0.desc)), (11, (.ptr 2 10))]
   refine st 5 a4 (nx ?_)
   refine cd h (fun h => ?_) fun h => ?_
   refine so ?_
   let a5 : St := a4.p [(4, (vB false))]
   refine st 1 a5 (nx (ri (tr ?_)))
   injection h with h; subst h
   exact ret1_step (v := (vB false)) (by kernel_rfl) (by kernel_rfl) (by kernel_rfl)
   refine ki (xi (so ?_))
   let a6 : St := a4.p [(4, (vB true))]
   refine st 1 a6 (nx (ri ?_))
   injection h with h; subst h
   exact ret1_step (v := (vB true)) (by kernel_rfl) (by kernel_rfl) (by kernel_rfl)
 · intro F_wEqSourceS_L0 OK_wEqSourceS_L0 p0 p1 r h
   refine acalls_of_fn trwEqSourceS (Nat.le_of_ble_eq_true rfl) (by simp) ?_
   show avc Try.prog acwEqSourceS (qwEqSourceS _) ⟨[(0, (.d (.sl 3 (p0.map cGSource)))), (1, (.d (.sl 3 (p1.map cGSource))))], []⟩
   delta acwEqSourceS
   refine so ?_
   let a0 : St := ⟨[(4, (vB false)), (0, (.d (.sl 3 (p0.map cGSource)))), (1, (.d (.sl 3 (p1.map cGSource))))], []⟩
   refine st 1 a0 (nx (si (so ?_)))
   let a1 : St := a0.p [(6, (.d (.sl 3 (p0.map cGSource))))]
   refine st 1 a1 (ps (vI (p0.length : Int)) (vop_len (sz := 3) (l := p0) (f := cGSource) (by kernel_rfl) (by kernel_rfl)) ?_)
   let a2 : St := a1.p [(8, (.d (.sl 3 (p1.map cGSource)))), (7, (vI (p0.length : Int)))]
   refine st 1 a2 (ps (vI (p1.length : Int)) (vop_len (sz := 3) (l := p1) (f := cGSource) (by kernel_rfl) (by kernel_rfl)) ?_)
   let a3 : St := a2.p [(10, (vB (!decide ((p0.length : Int) = (p1.length : Int))))), (9, (vI (p1.length : Int)))]
   refine st 1 a3 (nx ?_)
   refine cd h (fun h => ?_) fun h => ?_
   refine so ?_
   let a4 : St := a3.p [(4, (vB false))]
   refine st 1 a4 (nx (ri (tr ?_)))
   injection h with h; subst h
   exact ret1_step (v := (vB false)) (by kernel_rfl) (by kernel_rfl) (by kernel_rfl)
   refine ki (xi (si (so ?_)))
   let a5 : St := a3.p [(5, (vI 0))]
   exact st 1 a5 (nx (bi (loop_go (s' := stwEqSourceS_L0 p0 p1 0) (wr [] (es (es (es er_nil))) br_nil) (OK_wEqSourceS_L0 p0 p1 0 _ h))))
 · intro F_wEqSource F_wEqSourceS_L0 OK_wEqSource OK_wEqSourceS_L0 p0 p1 x5 r h
   delta acwEqSourceS_L0
   refine loop_unroll (si (so ?_))
   let a6 : St := (stwEqSourceS_L0 p0 p1 x5).p [(12, (.d (.sl 3 (p0.map cGSource)))), (11, (vI x5))]
   refine st 2 a6 (ps (vI (p0.length : Int)) (vop_len (sz := 3) (l := p0) (f := cGSource) (by kernel_rfl) (by kernel_rfl)) ?_)
   let a7 : St := a6.p [(14, (vB (decide (x5 < (p0.length : Int))))), (13, (vI (p0.length : Int)))]
   refine st 1 a7 (nx ?_)
   refine cd h (fun h => ?_) fun h => ?_
   refine ki (xi (si (bi (si (dops_in ?_)))))
   let a8 : St := a7.p [(18, (vI x5)), (17, (.d (.sl 3 (p0.map cGSource))))]
   refine dsts_ok 2 (s' := a8) (by kernel_rfl) (dv_step (m := idx p0 x5) (v' := fun y => (.rp (oGSource y))) h rfl rfl (fun y hy => vop_ia (l := p0) (f := cGSource) (g := oGSource) (k := .i64) hy cGSource_eq (by kernel_rfl) (by kernel_rfl) (by kernel_rfl)) ?_)
   clear h; intro y1 h
   let a9 : St := a8.p [(22, (vI x5)), (21, (.d (.sl 3 (p1.map cGSource)))), (20, (vGSource y1)), (19, (.rp (oGSource y1)))]
   refine dsts_ok 3 (s' := a9) (by kernel_rfl) (dv_step (m := idx p1 x5) (v' := fun y => (.rp (oGSource y))) h rfl rfl (fun y hy => vop_ia (l := p1) (f := cGSource) (g := oGSource) (k := .i64) hy cGSource_eq (by kernel_rfl) (by kernel_rfl) (by kernel_rfl)) ?_)
   clear h; intro y2 h
   let a10 : St := a9.p [(24, (vGSource y2)), (23, (.rp (oGSource y2)))]
   refine dsts_ok 1 (s' := a10) (by kernel_rfl) (dcall_step (m := F_wEqSource y1 y2) (args := [(vGSource y1), (vGSource y2)]) (v' := (fun y => (vB y))) h (OK_wEqSource y1 y2) (by kernel_rfl) (by kernel_rfl) (fun _ => rfl) ?_)
   clear h; intro y3 h
   let a11 : St := a10.p [(26, (vB (!y3))), (25, (vB y3))]
   refine dsts_ok 1 (s' := a11) (by kernel_rfl) (dnil_in (by kernel_rfl) (by kernel_rfl) (xi ?_))
   refine cd h (fun h => ?_) fun h => ?_
   refine so ?_
   let a12 : St := a11.p [(4, (vB false))]
   refine st 1 a12 (nx (ri (br (tr (tr (br (tr ?_)))))))
   injection h with h; subst h
   exact ret1_step (v := (vB false)) (by kernel_rfl) (by kernel_rfl) (by kernel_rfl)
   refine ki (bn (xi (oi ?_)))
   let a13 : St := a11.p [(5, (vI (IntKind.wrap .i64 (x5 + 1)))), (16, (vI (IntKind.wrap .i64 (x5 + 1)))), (15, (vI x5))]
   exact st 3 a13 (ni (loop_back (s' := stwEqSourceS_L0 p0 p1 (IntKind.wrap .i64 (x5 + 1))) (wr [] (es (es (es er_nil))) br_nil) (OK_wEqSourceS_L0 p0 p1 (IntKind.wrap .i64 (x5 + 1)) _ h)))
   refine ei (te (te (bh (xi (so ?_)))))
   let a14 : St := a7.p [(4, (vB true))]
   refine st 1 a14 (nx (ri ?_))
   injection h with h; subst h
   exact ret1_step (v := (vB true)) (by kernel_rfl) (by kernel_rfl) (by kernel_rfl)
 · intro F_wEqItemS_L0 OK_wEqItemS_L0 p0 p1 r h
   refine acalls_of_fn trwEqItemS (Nat.le_of_ble_eq_true rfl) (by simp) ?_
   show avc Try.prog acwEqItemS (qwEqItemS _) ⟨[(0, (.d (.sl 13 (p0.map cGItem)))), (1, (.d (.sl 13 (p1.map cGItem))))], []⟩
   delta acwEqItemS
   refine so ?_
   let a0 : St := ⟨[(4, (vB false)), (0, (.d (.sl 13 (p0.map cGItem)))), (1, (.d (.sl 13 (p1.map cGItem))))], []⟩
   refine st 1 a0 (nx (si (so ?_)))
   let a1 : St := a0.p [(6, (.d (.sl 13 (p0.map cGItem))))]
   refine st 1 a1 (ps (vI (p0.length : Int)) (vop_len (sz := 13) (l := p0) (f := cGItem) (by kernel_rfl) (by kernel_rfl)) ?_)
   let a2 : St := a1.p [(8, (.d (.sl 13 (p1.map cGItem)))), (7, (vI (p0.length : Int)))]
   refine st 1 a2 (ps (vI (p1.length : Int)) (vop_len (sz := 13) (l := p1) (f := cGItem) (by kernel_rfl) (by kernel_rfl)) ?_)
   let a3 : St := a2.p [(10, (vB (!decide ((p0.length : Int) = (p1.length : Int))))), (9, (vI (p1.length : Int)))]
   refine st 1 a3 (nx ?_)
   refine cd h (fun h => ?_) fun h => ?_
   refine so ?_
   let a4 : St := a3.p [(4, (vB false))]
   refine st 1 a4 (nx (ri (tr ?_)))
   injection h with h; subst h
   exact ret1_step (v := (vB false)) (by kernel_rfl) (by kernel_rfl) (by kernel_rfl)
   refine ki (xi (si (so ?_)))
   let a5 : St := a3.p [(5, (vI 0))]
   exact st 1 a5 (nx (bi (loop_go (s' := stwEqItemS_L0 p0 p1 0) (wr [] (es (es (es er_nil))) br_nil) (OK_wEqItemS_L0 p0 p1 0 _ h))))
 · intro F_wEqItemS_L0 F_wEqItem OK_wEqItemS_L0 OK_wEqItem p0 p1 x5 r h
   delta acwEqItemS_L0
   refine loop_unroll (si (so ?_))
   let a6 : St := (stwEqItemS_L0 p0 p1 x5).p [(12, (.d (.sl 13 (p0.map cGItem)))), (11, (vI x5))]
   refine st 2 a6 (ps (vI (p0.length : Int)) (vop_len (sz := 13) (l := p0) (f := cGItem) (by kernel_rfl) (by kernel_rfl)) ?_)
   let a7 : St := a6.p [(14, (vB (decide (x5 < (p0.length : Int))))), (13, (vI (p0.length : Int)))]
   refine st 1 a7 (nx ?_)
   refine cd h (fun h => ?_) fun h => ?_
   refine ki (xi (si (bi (si (dops_in ?_)))))
   let a8 : St := a7.p [(18, (vI x5)), (17, (.d (.sl 13 (p0.map cGItem))))]
   refine dsts_ok 2 (s' := a8) (by kernel_rfl) (dv_step (m := idx p0 x5) (v' := fun y => (.rp (oGItem y))) h rfl rfl (fun y hy => vop_ia (l := p0) (f := cGItem) (g := oGItem) (k := .i64) hy cGItem_eq (by kernel_rfl) (by kernel_rfl) (by kernel_rfl)) ?_)
   clear h; intro y1 h
   let a9 : St := a8.p [(22, (vI x5)), (21, (.d (.sl 13 (p1.map cGItem)))), (20, (vGItem y1)), (19, (.rp (oGItem y1)))]
   refine dsts_ok 3 (s' := a9) (by kernel_rfl) (dv_step (m := idx p1 x5) (v' := fun y => (.rp (oGItem y))) h rfl rfl (fun y hy => vop_ia (l := p1) (f := cGItem) (g := oGItem) (k := .i64) hy cGItem_eq (by kernel_rfl) (by kernel_rfl) (by kernel_rfl)) ?_)
   clear h; intro y2 h
   let a10 : St := a9.p [(24, (vGItem y2)), (23, (.rp (oGItem y2)))]
   refine dsts_ok 1 (s' := a10) (by kernel_rfl) (dcall_step (m := F_wEqItem y1 y2) (args := [(vGItem y1), (vGItem y2)]) (v' := (fun y => (vB y))) h (OK_wEqItem y1 y2) (by kernel_rfl) (by kernel_rfl) (fun _ => rfl) ?_)
   clear h; intro y3 h
   let a11 : St := a10.p [(26, (vB (!y3))), (25, (vB y3))]
   refine dsts_ok 1 (s' := a11) (by kernel_rfl) (dnil_in (by kernel_rfl) (by kernel_rfl) (xi ?_))
   refine cd h (fun h => ?_) fun h => ?_
   refine so ?_
   let a12 : St := a11.p [(4, (vB false))]
   refine st 1 a12 (nx (ri (br (tr (tr (br (tr ?_)))))))
   injection h with h; subst h
   exact ret1_step (v := (vB false)) (by kernel_rfl) (by kernel_rfl) (by kernel_rfl)
   refine ki (bn (xi (oi ?_)))
   let a13 : St := a11.p [(5, (vI (IntKind.wrap .i64 (x5 + 1)))), (16, (vI (IntKind.wrap .i64 (x5 + 1)))), (15, (vI x5))]
   exact st 3 a13 (ni (loop_back (s' := stwEqItemS_L0 p0 p1 (IntKind.wrap .i64 (x5 + 1))) (wr [] (es (es (es er_nil))) br_nil) (OK_wEqItemS_L0 p0 p1 (IntKind.wrap .i64 (x5 + 1)) _ h)))
   refine ei (te (te (bh (xi (so ?_)))))
   let a14 : St := a7.p [(4, (vB true))]
   refine st 1 a14 (nx (ri ?_))
   injection h with h; subst h
   exact ret1_step (v := (vB true)) (by kernel_rfl) (by kernel_rfl) (by kernel_rfl)
 · intro F_wEqExpr OK_wEqExpr p0 p1 r h
   refine acalls_of_fn trwEqItem (Nat.le_of_ble_eq_true rfl) (by simp) ?_
   show avc Try.prog acwEqItem (qwEqItem _) ⟨[(0, (vGItem p0)), (1, (vGItem p1))], []⟩
   delta acwEqItem
   refine so ?_
   let a0 : St := ⟨[(4, (vB false)), (3, (.ptr 3 0)), (2, (.ptr 2 0)), (0, (vGItem p0)), (1, (vGItem p1))], [(3, bGItem p1), (2, bGItem p0)]⟩
   refine st 3 a0 (nx (si (so ?_)))
   let a1 : St := a0.p [(9, (vB (!(p0.star == p1.star)))), (8, (vB p1.star)), (7, (.ptr 3 0)), (6, (vB p0.star)), (5, (.ptr 2 0))]
   refine st 5 a1 (nx ?_)
   refine cd h (fun h => ?_) fun h => ?_
   refine so ?_
   let a2 : St := a1.p [(4, (vB false))]
   refine st 1 a2 (nx (ri (tr ?_)))
   injection h with h; subst h
   exact ret1_step (v := (vB false)) (by kernel_rfl) (by kernel_rfl) (by kernel_rfl)
   refine ki (xi (si (so ?_)))
   let a3 : St := a1.p [(14, (vB (!decide (p0.qual = p1.qual)))), (13, (vS p1.qual)), (12, (.ptr 3 1)), (11, (vS p0.qual)), (10, (.ptr 2 1))]
   refine st 5 a3 (nx ?_)
   refine cd h (fun h => ?_) fun h => ?_
   refine so ?_
   let a4 : St := a3.p [(4, (vB false))]
   refine st 1 a4 (nx (ri (tr ?_)))
   injection h with h; subst h
   exact ret1_step (v := (vB false)) (by kernel_rfl) (by kernel_rfl) (by kernel_rfl)
   refine ki (xi (si (so ?_)))
   let a5 : St := a3.p [(18, (vGExpr p1.expr)), (17, (.ptr 3 2)), (16, (vGExpr p0.expr)), (15, (.ptr 2 2))]
   refine st 4 a5 (cs h (OK_wEqExpr p0.expr p1.expr) fun y1 h => ?_)
   let a6 : St := a5.p [(20, (vB (!y1))), (19, (vB y1))]
   refine st 1 a6 (nx ?_)
   refine cd h (fun h => ?_) fun h => ?_
   refine so ?_
   let a7 : St := a6.p [(4, (vB false))]
   refine st 1 a7 (nx (ri (tr ?_)))
   injection h with h; subst h
   exact ret1_step (v := (vB false)) (by kernel_rfl) (by kernel_rfl) (by kernel_rfl)
   refine ki (xi (si (so ?_)))
   let a8 : St := a6.p [(25, (vB (!decide (p0.as_ = p1.as_)))), (24, (vS p1.as_)), (23, (.ptr 3 12)), (22, (vS p0.as_)), (21, (.ptr 2 12))]
   refine st 5 a8 (nx ?_)
   refine cd h (fun h => ?_) fun h => ?_
   refine so ?_
   let a9 : St := a8.p [(4, (vB false))]
   refine st 1 a9 (nx (ri (tr ?_)))
   injection h with h; subst h
   exact ret1_step (v := (vB false)) (by kernel_rfl) (by kernel_rfl) (by kernel_rfl)
   refine ki (xi (so ?_))
   let a10 : St := a8.p [(4, (vB true))]
   refine st 1 a10 (nx (ri ?_))
   injection h with h; subst h
   exact ret1_step (v := (vB true)) (by kernel_rfl) (by kernel_rfl) (by kernel_rfl)
theorem OK_wEqSource (p0 : GSource) (p1 : GSource) : FOk Try.prog 124 [(vGSource p0), (vGSource p1)] (fun y => (vB y)) (wEqSource p0 p1) := fun r h => (OKs_wEqSource).1 p0 p1 r h
theorem OK_wEqExprS (p0 : (List GExpr)) (p1 : (List GExpr)) : FOk Try.prog 51 [(.d (.sl 10 (p0.map cGExpr))), (.d (.sl 10 (p1.map cGExpr)))] (fun y => (vB y)) (wEqExprS p0 p1) := fun r h => (OKs_wEqSource).2.1 p0 p1 r h
theorem OK_wEqExprS_L0 (p0 : (List GExpr)) (p1 : (List GExpr)) (x5 : Int) (r : Bool) (h : wEqExprS_L0 p0 p1 x5 = some r) : avc Try.prog acwEqExprS_L0 (qwEqExprS_1 r) (stwEqExprS_L0 p0 p1 x5) := (OKs_wEqSource).2.2.1 p0 p1 x5 r h
theorem OK_wEqExpr (p0 : GExpr) (p1 : GExpr) : FOk Try.prog 23 [(vGExpr p0), (vGExpr p1)] (fun y => (vB y)) (wEqExpr p0 p1) := fun r h => (OKs_wEqSource).2.2.2.1 p0 p1 r h
theorem OK_wEqQueryS (p0 : (List GQuery)) (p1 : (List GQuery)) : FOk Try.prog 78 [(.d (.sl 6 (p0.map cGQuery))), (.d (.sl 6 (p1.map cGQuery)))] (fun y => (vB y)) (wEqQueryS p0 p1) := fun r h => (OKs_wEqSource).2.2.2.2.1 p0 p1 r h
theorem OK_wEqQueryS_L0 (p0 : (List GQuery)) (p1 : (List GQuery)) (x5 : Int) (r : Bool) (h : wEqQueryS_L0 p0 p1 x5 = some r) : avc Try.prog acwEqQueryS_L0 (qwEqQueryS_1 r) (stwEqQueryS_L0 p0 p1 x5) := (OKs_wEqSource).2.2.2.2.2.1 p0 p1 x5 r h
theorem OK_wEqQuery (p0 : GQuery) (p1 : GQuery) : FOk Try.prog 18 [(vGQuery p0), (vGQuery p1)] (fun y => (vB y)) (wEqQuery p0 p1) := fun r h => (OKs_wEqSource).2.2.2.2.2.2.1 p0 p1 r h
theorem OK_wEqSortKeyS (p0 : (List GSortKey)) (p1 : (List GSortKey)) : FOk Try.prog 69 [(.d (.sl 11 (p0.map cGSortKey))), (.d (.sl 11 (p1.map cGSortKey)))] (fun y => (vB y)) (wEqSortKeyS p0 p1) := fun r h => (OKs_wEqSource).2.2.2.2.2.2.2.1 p0 p1 r h
theorem OK_wEqSortKeyS_L0 (p0 : (List GSortKey)) (p1 : (List GSortKey)) (x5 : Int) (r : Bool) (h : wEqSortKeyS_L0 p0 p1 x5 = some r) : avc Try.prog acwEqSortKeyS_L0 (qwEqSortKeyS_1 r) (stwEqSortKeyS_L0 p0 p1 x5) := (OKs_wEqSource).2.2.2.2.2.2.2.2.1 p0 p1 x5 r h
theorem OK_wEqSortKey (p0 : GSortKey) (p1 : GSortKey) : FOk Try.prog 125 [(vGSortKey p0), (vGSortKey p1)] (fun y => (vB y)) (wEqSortKey p0 p1) := fun r h => (OKs_wEqSource).2.2.2.2.2.2.2.2.2.1 p0 p1 r h
theorem OK_wEqSourceS (p0 : (List GSource)) (p1 : (List GSource)) : FOk Try.prog 68 [(.d (.sl 3 (p0.map cGSource))), (.d (.sl 3 (p1.map cGSource)))] (fun y => (vB y)) (wEqSourceS p0 p1) := fun r h => (OKs_wEqSource).2.2.2.2.2.2.2.2.2.2.1 p0 p1 r h
theorem OK_wEqSourceS_L0 (p0 : (List GSource)) (p1 : (List GSource)) (x5 : Int) (r : Bool) (h : wEqSourceS_L0 p0 p1 x5 = some r) : avc Try.prog acwEqSourceS_L0 (qwEqSourceS_1 r) (stwEqSourceS_L0 p0 p1 x5) := (OKs_wEqSource).2.2.2.2.2.2.2.2.2.2.2.1 p0 p1 x5 r h
theorem OK_wEqItemS (p0 : (List GItem)) (p1 : (List GItem)) : FOk Try.prog 67 [(.d (.sl 13 (p0.map cGItem))), (.d (.sl 13 (p1.map cGItem)))] (fun y => (vB y)) (wEqItemS p0 p1) := fun r h => (OKs_wEqSource).2.2.2.2.2.2.2.2.2.2.2.2.1 p0 p1 r h
theorem OK_wEqItemS_L0 (p0 : (List GItem)) (p1 : (List GItem)) (x5 : Int) (r : Bool) (h : wEqItemS_L0 p0 p1 x5 = some r) : avc Try.prog acwEqItemS_L0 (qwEqItemS_1 r) (stwEqItemS_L0 p0 p1 x5) := (OKs_wEqSource).2.2.2.2.2.2.2.2.2.2.2.2.2.1 p0 p1 x5 r h
theorem OK_wEqItem (p0 : GItem) (p1 : GItem) : FOk Try.prog 123 [(vGItem p0), (vGItem p1)] (fun y => (vB y)) (wEqItem p0 p1) := fun r h => (OKs_wEqSource).2.2.2.2.2.2.2.2.2.2.2.2.2.2 p0 p1 r h
theorem OKs_wEqExprSS_L0 (p0 : (List (List GExpr))) (p1 : (List (List GExpr))) : (∀ (x5 : Int) (r : Bool), wEqExprSS_L0 p0 p1 x5 = some r → avc Try.prog acwEqExprSS_L0 (qwEqExprSS_1 r) (stwEqExprSS_L0 p0 p1 x5)) := by
 refine wEqExprSS_L0.partial_correctness p0 p1 (fun x5 r => avc Try.prog acwEqExprSS_L0 (qwEqExprSS_1 r) (stwEqExprSS_L0 p0 p1 x5)) ?_
 · intro F_wEqExprSS_L0 OK_wEqExprSS_L0 x5 r h
   delta acwEqExprSS_L0
   refine loop_unroll (si (so ?_))
   let a6 : St := (stwEqExprSS_L0 p0 p1 x5).p [(12, (.d (.sl 1 (p0.map (cSl 10 cGExpr))))), (11, (vI x5))]
   refine st 2 a6 (ps (vI (p0.length : Int)) (vop_len (sz := 1) (l := p0) (f := (cSl 10 cGExpr)) (by kernel_rfl) (by kernel_rfl)) ?_)
   let a7 : St := a6.p [(14, (vB (decide (x5 < (p0.length : Int))))), (13, (vI (p0.length : Int)))]
   refine st 1 a7 (nx ?_)
   refine cd h (fun h => ?_) fun h => ?_
   refine ki (xi (si (bi (si (dops_in ?_)))))
   let a8 : St := a7.p [(18, (vI x5)), (17, (.d (.sl 1 (p0.map (cSl 10 cGExpr)))))]
   refine dsts_ok 2 (s' := a8) (by kernel_rfl) (dv_step (m := idx p0 x5) (v' := fun y => (.rp [(.sl 10 (y.map cGExpr))])) h rfl rfl (fun y hy => vop_ia (l := p0) (f := (cSl 10 cGExpr)) (g := (cSl 10 cGExpr)) (k := .i64) hy (fun _ => rfl) (by kernel_rfl) (by kernel_rfl) (by kernel_rfl)) ?_)
   clear h; intro y1 h
   let a9 : St := a8.p [(22, (vI x5)), (21, (.d (.sl 1 (p1.map (cSl 10 cGExpr))))), (20, (.d (.sl 10 (y1.map cGExpr)))), (19, (.rp [(.sl 10 (y1.map cGExpr))]))]
   refine dsts_ok 3 (s' := a9) (by kernel_rfl) (dv_step (m := idx p1 x5) (v' := fun y => (.rp [(.sl 10 (y.map cGExpr))])) h rfl rfl (fun y hy => vop_ia (l := p1) (f := (cSl 10 cGExpr)) (g := (cSl 10 cGExpr)) (k := .i64) hy (fun _ => rfl) (by kernel_rfl) (by kernel_rfl) (by kernel_rfl)) ?_)
   clear h; intro y2 h
   let a10 : St := a9.p [(24, (.d (.sl 10 (y2.map cGExpr)))), (23, (.rp [(.sl 10 (y2.map cGExpr))]))]
   refine dsts_ok 1 (s' := a10) (by kernel_rfl) (dcall_step (m := wEqExprS y1 y2) (args := [(.d (.sl 10 (y1.map cGExpr))), (.d (.sl 10 (y2.map cGExpr)))]) (v' := (fun y => (vB y))) h (OK_wEqExprS y1 y2) (by kernel_rfl) (by kernel_rfl) (fun _ => rfl) ?_)
   clear h; intro y3 h
   let a11 : St := a10.p [(26, (vB (!y3))), (25, (vB y3))]
   refine dsts_ok 1 (s' := a11) (by kernel_rfl) (dnil_in (by kernel_rfl) (by kernel_rfl) (xi ?_))
   refine cd h (fun h => ?_) fun h => ?_
   refine so ?_
   let a12 : St := a11.p [(4, (vB false))]
   refine st 1 a12 (nx (ri (br (tr (tr (br (tr ?_)))))))
   injection h with h; subst h
   exact ret1_step (v := (vB false)) (by kernel_rfl) (by kernel_rfl) (by kernel_rfl)
   refine ki (bn (xi (oi ?_)))
   let a13 : St := a11.p [(5, (vI (IntKind.wrap .i64 (x5 + 1)))), (16, (vI (IntKind.wrap .i64 (x5 + 1)))), (15, (vI x5))]
   exact st 3 a13 (ni (loop_back (s' := stwEqExprSS_L0 p0 p1 (IntKind.wrap .i64 (x5 + 1))) (wr [] (es (es (es er_nil))) br_nil) (OK_wEqExprSS_L0 (IntKind.wrap .i64 (x5 + 1)) _ h)))
   refine ei (te (te (bh (xi (so ?_)))))
   let a14 : St := a7.p [(4, (vB true))]
   refine st 1 a14 (nx (ri ?_))
   injection h with h; subst h
   exact ret1_step (v := (vB true)) (by kernel_rfl) (by kernel_rfl) (by kernel_rfl)
theorem OK_wEqExprSS_L0 (p0 : (List (List GExpr))) (p1 : (List (List GExpr))) (x5 : Int) (r : Bool) (h : wEqExprSS_L0 p0 p1 x5 = some r) : avc Try.prog acwEqExprSS_L0 (qwEqExprSS_1 r) (stwEqExprSS_L0 p0 p1 x5) := (OKs_wEqExprSS_L0 p0 p1) x5 r h
theorem OK_wEqExprSS (p0 : (List (List GExpr))) (p1 : (List (List GExpr))) : FOk Try.prog 98 [(.d (.sl 1 (p0.map (cSl 10 cGExpr)))), (.d (.sl 1 (p1.map (cSl 10 cGExpr))))] (fun y => (vB y)) (wEqExprSS p0 p1) := by
 intro r h
 rw [wEqExprSS] at h
 refine acalls_of_fn trwEqExprSS (Nat.le_of_ble_eq_true rfl) (by simp) ?_
 show avc Try.prog acwEqExprSS (qwEqExprSS _) ⟨[(0, (.d (.sl 1 (p0.map (cSl 10 cGExpr))))), (1, (.d (.sl 1 (p1.map (cSl 10 cGExpr)))))], []⟩
 delta acwEqExprSS
 refine so ?_
 let a0 : St := ⟨[(4, (vB false)), (0, (.d (.sl 1 (p0.map (cSl 10 cGExpr))))), (1, (.d (.sl 1 (p1.map (cSl 10 cGExpr)))))], []⟩
 refine st 1 a0 (nx (si (so ?_)))
 let a1 : St := a0.p [(6, (.d (.sl 1 (p0.map (cSl 10 cGExpr)))))]
 refine st 1 a1 (ps (vI (p0.length : Int)) (vop_len (sz := 1) (l := p0) (f := (cSl 10 cGExpr)) (by kernel_rfl) (by kernel_rfl)) ?_)
 let a2 : St := a1.p [(8, (.d (.sl 1 (p1.map (cSl 10 cGExpr))))), (7, (vI (p0.length : Int)))]
 refine st 1 a2 (ps (vI (p1.length : Int)) (vop_len (sz := 1) (l := p1) (f := (cSl 10 cGExpr)) (by kernel_rfl) (by kernel_rfl)) ?_)
 let a3 : St := a2.p [(10, (vB (!decide ((p0.length : Int) = (p1.length : Int))))), (9, (vI (p1.length : Int)))]
 refine st 1 a3 (nx ?_)
 refine cd h (fun h => ?_) fun h => ?_
 refine so ?_
 let a4 : St := a3.p [(4, (vB false))]
 refine st 1 a4 (nx (ri (tr ?_)))
 injection h with h; subst h
 exact ret1_step (v := (vB false)) (by kernel_rfl) (by kernel_rfl) (by kernel_rfl)
 refine ki (xi (si (so ?_)))
 let a5 : St := a3.p [(5, (vI 0))]
 exact st 1 a5 (nx (bi (loop_go (s' := stwEqExprSS_L0 p0 p1 0) (wr [] (es (es (es er_nil))) br_nil) (OK_wEqExprSS_L0 p0 p1 0 _ h))))
theorem OKs_wEqStringS_L0 (p0 : (List (List UInt8))) (p1 : (List (List UInt8))) : (∀ (x5 : Int) (r : Bool), wEqStringS_L0 p0 p1 x5 = some r → avc Try.prog acwEqStringS_L0 (qwEqStringS_1 r) (stwEqStringS_L0 p0 p1 x5)) := by
 refine wEqStringS_L0.partial_correctness p0 p1 (fun x5 r => avc Try.prog acwEqStringS_L0 (qwEqStringS_1 r) (stwEqStringS_L0 p0 p1 x5)) ?_
 · intro F_wEqStringS_L0 OK_wEqStringS_L0 x5 r h
   delta acwEqStringS_L0
   refine loop_unroll (si (so ?_))
   let a6 : St := (stwEqStringS_L0 p0 p1 x5).p [(12, (.d (.sl 1 (p0.map cStr)))), (11, (vI x5))]
   refine st 2 a6 (ps (vI (p0.length : Int)) (vop_len (sz := 1) (l := p0) (f := cStr) (by kernel_rfl) (by kernel_rfl)) ?_)
   let a7 : St := a6.p [(14, (vB (decide (x5 < (p0.length : Int))))), (13, (vI (p0.length : Int)))]
   refine st 1 a7 (nx ?_)
   refine cd h (fun h => ?_) fun h => ?_
   refine ki (xi (si (bi (si (dops_in ?_)))))
   let a8 : St := a7.p [(18, (vI x5)), (17, (.d (.sl 1 (p0.map cStr))))]
   refine dsts_ok 2 (s' := a8) (by kernel_rfl) (dv_step (m := idx p0 x5) (v' := fun y => (.rp [(.s (bs y))])) h rfl rfl (fun y hy => vop_ia (l := p0) (f := cStr) (g := cStr) (k := .i64) hy (fun _ => rfl) (by kernel_rfl) (by kernel_rfl) (by kernel_rfl)) ?_)
   clear h; intro y1 h
   let a9 : St := a8.p [(22, (vI x5)), (21, (.d (.sl 1 (p1.map cStr)))), (20, (vS y1)), (19, (.rp [(.s (bs y1))]))]
   refine dsts_ok 3 (s' := a9) (by kernel_rfl) (dv_step (m := idx p1 x5) (v' := fun y => (.rp [(.s (bs y))])) h rfl rfl (fun y hy => vop_ia (l := p1) (f := cStr) (g := cStr) (k := .i64) hy (fun _ => rfl) (by kernel_rfl) (by kernel_rfl) (by kernel_rfl)) ?_)
   clear h; intro y2 h
   let a10 : St := a9.p [(25, (vB (!decide (y1 = y2)))), (24, (vS y2)), (23, (.rp [(.s (bs y2))]))]
   refine dsts_ok 2 (s' := a10) (by kernel_rfl) (dnil_in (by kernel_rfl) (by kernel_rfl) (xi ?_))
   refine cd h (fun h => ?_) fun h => ?_
   refine so ?_
   let a11 : St := a10.p [(4, (vB false))]
   refine st 1 a11 (nx (ri (br (tr (tr (br (tr ?_)))))))
   injection h with h; subst h
   exact ret1_step (v := (vB false)) (by kernel_rfl) (by kernel_rfl) (by kernel_rfl)
   refine ki (bn (xi (oi ?_)))
   let a12 : St := a10.p [(5, (vI (IntKind.wrap .i64 (x5 + 1)))), (16, (vI (IntKind.wrap .i64 (x5 + 1)))), (15, (vI x5))]
   exact st 3 a12 (ni (loop_back (s' := stwEqStringS_L0 p0 p1 (IntKind.wrap .i64 (x5 + 1))) (wr [] (es (es (es er_nil))) br_nil) (OK_wEqStringS_L0 (IntKind.wrap .i64 (x5 + 1)) _ h)))
   refine ei (te (te (bh (xi (so ?_)))))
   let a13 : St := a7.p [(4, (vB true))]
   refine st 1 a13 (nx (ri ?_))
   injection h with h; subst h
   exact ret1_step (v := (vB true)) (by kernel_rfl) (by kernel_rfl) (by kernel_rfl)
theorem OK_wEqStringS_L0 (p0 : (List (List UInt8))) (p1 : (List (List UInt8))) (x5 : Int) (r : Bool) (h : wEqStringS_L0 p0 p1 x5 = some r) : avc Try.prog acwEqStringS_L0 (qwEqStringS_1 r) (stwEqStringS_L0 p0 p1 x5) := (OKs_wEqStringS_L0 p0 p1) x5 r h
theorem OK_wEqStringS (p0 : (List (List UInt8))) (p1 : (List (List UInt8))) : FOk Try.prog 43 [(.d (.sl 1 (p0.map cStr))), (.d (.sl 1 (p1.map cStr)))] (fun y => (vB y)) (wEqStringS p0 p1) := by
 intro r h
 rw [wEqStringS] at h
 refine acalls_of_fn trwEqStringS (Nat.le_of_ble_eq_true rfl) (by simp) ?_
 show avc Try.prog acwEqStringS (qwEqStringS _) ⟨[(0, (.d (.sl 1 (p0.map cStr)))), (1, (.d (.sl 1 (p1.map cStr))))], []⟩
 delta acwEqStringS
 refine so ?_
 let a0 : St := ⟨[(4, (vB false)), (0, (.d (.sl 1 (p0.map cStr)))), (1, (.d (.sl 1 (p1.map cStr))))], []⟩
 refine st 1 a0 (nx (si (so ?_)))
 let a1 : St := a0.p [(6, (.d (.sl 1 (p0.map cStr))))]
 refine st 1 a1 (ps (vI (p0.length : Int)) (vop_len (sz := 1) (l := p0) (f := cStr) (by kernel_rfl) (by kernel_rfl)) ?_)
 let a2 : St := a1.p [(8, (.d (.sl 1 (p1.map cStr)))), (7, (vI (p0.length : Int)))]
 refine st 1 a2 (ps (vI (p1.length : Int)) (vop_len (sz := 1) (l := p1) (f := cStr) (by kernel_rfl) (by kernel_rfl)) ?_)
 let a3 : St := a2.p [(10, (vB (!decide ((p0.length : Int) = (p1.length : Int))))), (9, (vI (p1.length : Int)))]
 refine st 1 a3 (nx ?_)
 refine cd h (fun h => ?_) fun h => ?_
 refine so ?_
 let a4 : St := a3.p [(4, (vB false))]
 refine st 1 a4 (nx (ri (tr ?_)))
 injection h with h; subst h
 exact ret1_step (v := (vB false)) (by kernel_rfl) (by kernel_rfl) (by kernel_rfl)
 refine ki (xi (si (so ?_)))
 let a5 : St := a3.p [(5, (vI 0))]
 exact st 1 a5 (nx (bi (loop_go (s' := stwEqStringS_L0 p0 p1 0) (wr [] (es (es (es er_nil))) br_nil) (OK_wEqStringS_L0 p0 p1 0 _ h))))
theorem OK_wEqStmt (p0 : GStmt) (p1 : GStmt) : FOk Try.prog 37 [(vGStmt p0), (vGStmt p1)] (fun y => (vB y)) (wEqStmt p0 p1) := by
 intro r h
 rw [wEqStmt] at h
 refine acalls_of_fn trwEqStmt (Nat.le_of_ble_eq_true rfl) (by simp) ?_
 show avc Try.prog acwEqStmt (qwEqStmt _) ⟨[(0, (vGStmt p0)), (1, (vGStmt p1))], []⟩
 delta acwEqStmt
 refine so ?_
 let a0 : St := ⟨[(4, (vB false)), (3, (.ptr 3 0)), (2, (.ptr 2 0)), (0, (vGStmt p0)), (1, (vGStmt p1))], [(3, bGStmt p1), (2, bGStmt p0)]⟩
 refine st 3 a0 (nx (si (so ?_)))
 let a1 : St := a0.p [(9, (vB (!decide (p0.kind = p1.kind)))), (8, (vI p1.kind)), (7, (.ptr 3 0)), (6, (vI p0.kind)), (5, (.ptr 2 0))]
 refine st 5 a1 (nx ?_)
 refine cd h (fun h => ?_) fun h => ?_
 refine so ?_
 let a2 : St := a1.p [(4, (vB false))]
 refine st 1 a2 (nx (ri (tr ?_)))
 injection h with h; subst h
 exact ret1_step (v := (vB false)) (by kernel_rfl) (by kernel_rfl) (by kernel_rfl)
 refine ki (xi (si (so ?_)))
 let a3 : St := a1.p [(13, (vGQuery p1.query)), (12, (.ptr 3 1)), (11, (vGQuery p0.query)), (10, (.ptr 2 1))]
 refine st 4 a3 (cs h (OK_wEqQuery p0.query p1.query) fun y1 h => ?_)
 let a4 : St := a3.p [(15, (vB (!y1))), (14, (vB y1))]
 refine st 1 a4 (nx ?_)
 refine cd h (fun h => ?_) fun h => ?_
 refine so ?_
 let a5 : St := a4.p [(4, (vB false))]
 refine st 1 a5 (nx (ri (tr ?_)))
 injection h with h; subst h
 exact ret1_step (v := (vB false)) (by kernel_rfl) (by kernel_rfl) (by kernel_rfl)
 refine ki (xi (si (so ?_)))
 let a6 : St := a4.p [(20, (vB (!decide (p0.table = p1.table)))), (19, (vS p1.table)), (18, (.ptr 3 7)), (17, (vS p0.table)), (16, (.ptr 2 7))]
 refine st 5 a6 (nx ?_)
 refine cd h (fun h => ?_) fun h => ?_
 refine so ?_
 let a7 : St := a6.p [(4, (vB false))]
 refine st 1 a7 (nx (ri (tr ?_)))
 injection h with h; subst h
 exact ret1_step (v := (vB false)) (by kernel_rfl) (by kernel_rfl) (by kernel_rfl)
 refine ki (xi (si (so ?_)))
 let a8 : St := a6.p [(24, (.d (.sl 1 (p1.rows.map (cSl 10 cGExpr))))), (23, (.ptr 3 8)), (22, (.d (.sl 1 (p0.rows.map (cSl 10 cGExpr))))), (21, (.ptr 2 8))]
 refine st 4 a8 (cs h (OK_wEqExprSS p0.rows p1.rows) fun y2 h => ?_)
 let a9 : St := a8.p [(26, (vB (!y2))), (25, (vB y2))]
 refine st 1 a9 (nx ?_)
 refine cd h (fun h => ?_) fun h => ?_
 refine so ?_
 let a10 : St := a9.p [(4, (vB false))]
 refine st 1 a10 (nx (ri (tr ?_)))
 injection h with h; subst h
 exact ret1_step (v := (vB false)) (by kernel_rfl) (by kernel_rfl) (by kernel_rfl)
 refine ki (xi (si (so ?_)))
 let a11 : St := a9.p [(30, (.d (.sl 1 (p1.cols.map cStr)))), (29, (.ptr 3 9)), (28, (.d (.sl 1 (p0.cols.map cStr)))), (27, (.ptr 2 9))]
 refine st 4 a11 (cs h (OK_wEqStringS p0.cols p1.cols) fun y3 h => ?_)
 let a12 : St := a11.p [(32, (vB (!y3))), (31, (vB y3))]
 refine st 1 a12 (nx ?_)
 refine cd h (fun h => ?_) fun h => ?_
 refine so ?_
 let a13 : St := a12.p [(4, (vB false))]
 refine st 1 a13 (nx (ri (tr ?_)))
 injection h with h; subst h
 exact ret1_step (v := (vB false)) (by kernel_rfl) (by kernel_rfl) (by kernel_rfl)
 refine ki (xi (si (so ?_)))
 let a14 : St := a12.p [(36, (.d (.sl 10 (p1.sets.map cGExpr)))), (35, (.ptr 3 10)), (34, (.d (.sl 10 (p0.sets.map cGExpr)))), (33, (.ptr 2 10))]
 refine st 4 a14 (cs h (OK_wEqExprS p0.sets p1.sets) fun y4 h => ?_)
 let a15 : St := a14.p [(38, (vB (!y4))), (37, (vB y4))]
 refine st 1 a15 (nx ?_)
 refine cd h (fun h => ?_) fun h => ?_
 refine so ?_
 let a16 : St := a15.p [(4, (vB false))]
 refine st 1 a16 (nx (ri (tr ?_)))
 injection h with h; subst h
 exact ret1_step (v := (vB false)) (by kernel_rfl) (by kernel_rfl) (by kernel_rfl)
 refine ki (xi (si (so ?_)))
 let a17 : St := a15.p [(42, (.d (.sl 10 (p1.where_.map cGExpr)))), (41, (.ptr 3 11)), (40, (.d (.sl 10 (p0.where_.map cGExpr)))), (39, (.ptr 2 11))]
 refine st 4 a17 (cs h (OK_wEqExprS p0.where_ p1.where_) fun y5 h => ?_)
 let a18 : St := a17.p [(44, (vB (!y5))), (43, (vB y5))]
 refine st 1 a18 (nx ?_)
 refine cd h (fun h => ?_) fun h => ?_
 refine so ?_
 let a19 : St := a18.p [(4, (vB false))]
 refine st 1 a19 (nx (ri (tr ?_)))
 injection h with h; subst h
 exact ret1_step (v := (vB false)) (by kernel_rfl) (by kernel_rfl) (by kernel_rfl)
 refine ki (xi (so ?_))
 let a20 : St := a18.p [(4, (vB true))]
 refine st 1 a20 (nx (ri ?_))
 injection h with h; subst h
 exact ret1_step (v := (vB true)) (by kernel_rfl) (by kernel_rfl) (by kernel_rfl)
theorem OK_wSzValue (p0 : GValue) (p1 : Int) : FOk Try.prog 70 [(vGValue p0), (vI p1)] (fun y => (vI y)) (wSzValue p0 p1) := by
 intro r h
 rw [wSzValue] at h
 refine acalls_of_fn trwSzValue (Nat.le_of_ble_eq_true rfl) (by simp) ?_
 show avc Try.prog acwSzValue (qwSzValue _) ⟨[(0, (vGValue p0)), (1, (vI p1))], []⟩
 delta acwSzValue
 refine so ?_
 let a0 : St := ⟨[(4, (vI 0)), (2, (.ptr 2 0)), (0, (vGValue p0)), (1, (vI p1))], [(2, bGValue p0)]⟩
 refine st 2 a0 (nx (so ?_))
 let a1 : St := a0.p [(1, (vI (IntKind.wrap .i64 (p1 - (p0.text.length : Int))))), (9, (vI (IntKind.wrap .i64 (p1 - (p0.text.length : Int))))), (8, (vI (p0.text.length : Int))), (7, (vS p0.text)), (6, (.ptr 2 2)), (5, (vI p1))]
 refine st 6 a1 (nx (si (so ?_)))
 let a2 : St := a1.p [(11, (vB (decide ((IntKind.wrap .i64 (p1 - (p0.text.length : Int))) < 0)))), (10, (vI (IntKind.wrap .i64 (p1 - (p0.text.length : Int)))))]
 refine st 2 a2 (nx ?_)
 refine cd h (fun h => ?_) fun h => ?_
 refine so ?_
 let a3 : St := a2.p [(4, (vI (-1)))]
 refine st 1 a3 (nx (ri (tr ?_)))
 injection h with h; subst h
 exact ret1_step (v := (vI (-1))) (by kernel_rfl) (by kernel_rfl) (by kernel_rfl)
 refine ki (xi (so ?_))
 let a4 : St := a2.p [(4, (vI (IntKind.wrap .i64 (p1 - (p0.text.length : Int))))), (12, (vI (IntKind.wrap .i64 (p1 - (p0.text.length : Int)))))]
 refine st 2 a4 (nx (ri ?_))
 injection h with h; subst h
 exact ret1_step (v := (vI (IntKind.wrap .i64 (p1 - (p0.text.length : Int))))) (by kernel_rfl) (by kernel_rfl) (by kernel_rfl)
theorem OKs_wSzSource : (∀ (p0 : GSource) (p1 : Int) (r : Int), wSzSource p0 p1 = some r → ACalls Try.prog 118 [(vGSource p0), (vI p1)] [] fun x _ => x = (fun y => (vI y)) r) ∧ (∀ (p0 : (List GExpr)) (p1 : Int) (r : Int), wSzExprS p0 p1 = some r → ACalls Try.prog 56 [(.d (.sl 10 (p0.map cGExpr))), (vI p1)] [] fun x _ => x = (fun y => (vI y)) r) ∧ (∀ (p0 : (List GExpr)) (x1 : Int) (x5 : Int) (r : Int), wSzExprS_L0 p0 x1 x5 = some r → avc Try.prog acwSzExprS_L0 (qwSzExprS_1 r) (stwSzExprS_L0 p0 x1 x5)) ∧ (∀ (p0 : GExpr) (p1 : Int) (r : Int), wSzExpr p0 p1 = some r → ACalls Try.prog 19 [(vGExpr p0), (vI p1)] [] fun x _ => x = (fun y => (vI y)) r) ∧ (∀ (p0 : (List GQuery)) (p1 : Int) (r : Int), wSzQueryS p0 p1 = some r → ACalls Try.prog 71 [(.d (.sl 6 (p0.map cGQuery))), (vI p1)] [] fun x _ => x = (fun y => (vI y)) r) ∧ (∀ (p0 : (List GQuery)) (x1 : Int) (x5 : Int) (r : Int), wSzQueryS_L0 p0 x1 x5 = some r → avc Try.prog acwSzQueryS_L0 (qwSzQueryS_1 r) (stwSzQueryS_L0 p0 x1 x5)) ∧ (∀ (p0 : GQuery) (p1 : Int) (r : Int), wSzQuery p0 p1 = some r → ACalls Try.prog 14 [(vGQuery p0), (vI p1)] [] fun x _ => x = (fun y => (vI y)) r) ∧ (∀ (p0 : (List GSortKey)) (p1 : Int) (r : Int), wSzSortKeyS p0 p1 = some r → ACalls Try.prog 57 [(.d (.sl 11 (p0.map cGSortKey))), (vI p1)] [] fun x _ => x = (fun y => (vI y)) r) ∧ (∀ (p0 : (List GSortKey)) (x1 : Int) (x5 : Int) (r : Int), wSzSortKeyS_L0 p0 x1 x5 = some r → avc Try.prog acwSzSortKeyS_L0 (qwSzSortKeyS_1 r) (stwSzSortKeyS_L0 p0 x1 x5)) ∧ (∀ (p0 : GSortKey) (p1 : Int) (r : Int), wSzSortKey p0 p1 = some r → ACalls Try.prog 119 [(vGSortKey p0), (vI p1)] [] fun x _ => x = (fun y => (vI y)) r) ∧ (∀ (p0 : (List GSource)) (p1 : Int) (r : Int), wSzSourceS p0 p1 = some r → ACalls Try.prog 55 [(.d (.sl 3 (p0.map cGSource))), (vI p1)] [] fun x _ => x = (fun y => (vI y)) r) ∧ (∀ (p0 : (List GSource)) (x1 : Int) (x5 : Int) (r : Int), wSzSourceS_L0 p0 x1 x5 = some r → avc Try.prog acwSzSourceS_L0 (qwSzSourceS_1 r) (stwSzSourceS_L0 p0 x1 x5)) ∧ (∀ (p0 : (List GItem)) (p1 : Int) (r : Int), wSzItemS p0 p1 = some r → ACalls Try.prog 54 [(.d (.sl 13 (p0.map cGItem))), (vI p1)] [] fun x _ => x = (fun y => (vI y)) r) ∧ (∀ (p0 : (List GItem)) (x1 : Int) (x5 : Int) (r : Int), wSzItemS_L0 p0 x1 x5 = some r → avc Try.prog acwSzItemS_L0 (qwSzItemS_1 r) (stwSzItemS_L0 p0 x1 x5)) ∧ (∀ (p0 : GItem) (p1 : Int) (r : Int), wSzItem p0 p1 = some r → ACalls Try.prog 117 [(vGItem p0), (vI p1)] [] fun x _ => x = (fun y => (vI y)) r) := by
 refine wSzSource.mutual_partial_correctness (fun p0 p1 r => ACalls Try.prog 118 [(vGSource p0), (vI p1)] [] fun x _ => x = (fun y => (vI y)) r) (fun p0 p1 r => ACalls Try.prog 56 [(.d (.sl 10 (p0.map cGExpr))), (vI p1)] [] fun x _ => x = (fun y => (vI y)) r) (fun p0 x1 x5 r => avc Try.prog acwSzExprS_L0 (qwSzExprS_1 r) (stwSzExprS_L0 p0 x1 x5)) (fun p0 p1 r => ACalls Try.prog 19 [(vGExpr p0), (vI p1)] [] fun x _ => x = (fun y => (vI y)) r) (fun p0 p1 r => ACalls Try.prog 71 [(.d (.sl 6 (p0.map cGQuery))), (vI p1)] [] fun x _ => x = (fun y => (vI y)) r) (fun p0 x1 x5 r => avc Try.prog acwSzQueryS_L0 (qwSzQueryS_1 r) (stwSzQueryS_L0 p0 x1 x5)) (fun p0 p1 r => ACalls Try.prog 14 [(vGQuery p0), (vI p1)] [] fun x _ => x = (fun y => (vI y)) r) (fun p0 p1 r => ACalls Try.prog 57 [(.d (.sl 11 (p0.map cGSortKey))), (vI p1)] [] fun x _ => x = (fun y => (vI y)) r) (fun p0 x1 x5 r => avc Try.prog acwSzSortKeyS_L0 (qwSzSortKeyS_1 r) (stwSzSortKeyS_L0 p0 x1 x5)) (fun p0 p1 r => ACalls Try.prog 119 [(vGSortKey p0), (vI p1)] [] fun x _ => x = (fun y => (vI y)) r) (fun p0 p1 r => ACalls Try.prog 55 [(.d (.sl 3 (p0.map cGSource))), (vI p1)] [] fun x _ => x = (fun y => (vI y)) r) (fun p0 x1 x5 r => avc Try.prog acwSzSourceS_L0 (qwSzSourceS_1 r) (stwSzSourceS_L0 p0 x1 x5)) (fun p0 p1 r => ACalls Try.prog 54 [(.d (.sl 13 (p0.map cGItem))), (vI p1)] [] fun x _ => x = (fun y => (vI y)) r) (fun p0 x1 x5 r => avc Try.prog acwSzItemS_L0 (qwSzItemS_1 r) (stwSzItemS_L0 p0 x1 x5)) (fun p0 p1 r => ACalls Try.prog 117 [(vGItem p0), (vI p1)] [] fun x _ => x = (fun y => (vI y)) r) ?_ ?_ ?_ ?_ ?_ ?_ ?_ ?_ ?_ ?_ ?_ ?_ ?_ ?_ ?_
 · intro F_wSzExprS OK_wSzExprS p0 p1 r h
   refine acalls_of_fn trwSzSource (Nat.le_of_ble_eq_true rfl) (by simp) ?_
   show avc Try.prog acwSzSource (qwSzSource _) ⟨[(0, (vGSource p0)), (1, (vI p1))], []⟩
   delta acwSzSource
   refine so ?_
   let a0 : St := ⟨[(4, (vI 0)), (2, (.ptr 2 0)), (0, (vGSource p0)), (1, (vI p1))], [(2, bGSource p0)]⟩
   refine st 2 a0 (nx (so ?_))
   let a1 : St := a0.p [(1, (vI (IntKind.wrap .i64 (p1 - (p0.table.length : Int))))), (9, (vI (IntKind.wrap .i64 (p1 - (p0.table.length : Int))))), (8, (vI (p0.table.length : Int))), (7, (vS p0.table)), (6, (.ptr 2 0)), (5, (vI p1))]
   refine st 6 a1 (nx (si (so ?_)))
   let a2 : St := a1.p [(11, (vB (decide ((IntKind.wrap .i64 (p1 - (p0.table.length : Int))) < 0)))), (10, (vI (IntKind.wrap .i64 (p1 - (p0.table.length : Int)))))]
   refine st 2 a2 (nx ?_)
   refine cd h (fun h => ?_) fun h => ?_
   refine so ?_
   let a3 : St := a2.p [(4, (vI (-1)))]
   refine st 1 a3 (nx (ri (tr ?_)))
   injection h with h; subst h
   exact ret1_step (v := (vI (-1))) (by kernel_rfl) (by kernel_rfl) (by kernel_rfl)
   refine ki (xi (so ?_))
   let a4 : St := a2.p [(1, (vI (IntKind.wrap .i64 ((IntKind.wrap .i64 (p1 - (p0.table.length : Int))) - (p0.as_.length : Int))))), (16, (vI (IntKind.wrap .i64 ((IntKind.wrap .i64 (p1 - (p0.table.length : Int))) - (p0.as_.length : Int))))), (15, (vI (p0.as_.length : Int))), (14, (vS p0.as_)), (13, (.ptr 2 1)), (12, (vI (IntKind.wrap .i64 (p1 - (p0.table.length : Int)))))]
   refine st 6 a4 (nx (si (so ?_)))
   let a5 : St := a4.p [(18, (vB (decide ((IntKind.wrap .i64 ((IntKind.wrap .i64 (p1 - (p0.table.length : Int))) - (p0.as_.length : Int))) < 0)))), (17, (vI (IntKind.wrap .i64 ((IntKind.wrap .i64 (p1 - (p0.table.length : Int))) - (p0.as_.length : Int)))))]
   refine st 2 a5 (nx ?_)
   refine cd h (fun h => ?_) fun h => ?_
   refine so ?_
   let a6 : St := a5.p [(4, (vI (-1)))]
   refine st 1 a6 (nx (ri (tr ?_)))
   injection h with h; subst h
   exact ret1_step (v := (vI (-1))) (by kernel_rfl) (by kernel_rfl) (by kernel_rfl)
   refine ki (xi (so ?_))
   let a7 : St := a5.p [(21, (vI (IntKind.wrap .i64 ((IntKind.wrap .i64 (p1 - (p0.table.length : Int))) - (p0.as_.length : Int))))), (20, (.d (.sl 10 (p0.on_.map cGExpr)))), (19, (.ptr 2 2))]
   refine st 3 a7 (cs h (OK_wSzExprS p0.on_ (IntKind.wrap .i64 ((IntKind.wrap .i64 (p1 - (p0.table.length : Int))) - (p0.as_.length : Int)))) fun y1 h => ?_)
   let a8 : St := a7.p [(1, (vI y1)), (22, (vI y1))]
   refine st 1 a8 (nx (si (so ?_)))
   let a9 : St := a8.p [(24, (vB (decide (y1 < 0)))), (23, (vI y1))]
   refine st 2 a9 (nx ?_)
   refine cd h (fun h => ?_) fun h => ?_
   refine so ?_
   let a10 : St := a9.p [(4, (vI (-1)))]
   refine st 1 a10 (nx (ri (tr ?_)))
   injection h with h; subst h
   exact ret1_step (v := (vI (-1))) (by kernel_rfl) (by kernel_rfl) (by kernel_rfl)
   refine ki (xi (so ?_))
   let a11 : St := a9.p [(4, (vI y1)), (25, (vI y1))]
   refine st 2 a11 (nx (ri ?_))
   injection h with h; subst h
   exact ret1_step (v := (vI y1)) (by kernel_rfl) (by kernel_rfl) (by kernel_rfl)
 · intro F_wSzExprS_L0 OK_wSzExprS_L0 p0 p1 r h
   refine acalls_of_fn trwSzExprS (Nat.le_of_ble_eq_true rfl) (by simp) ?_
   show avc Try.prog acwSzExprS (qwSzExprS _) ⟨[(0, (.d (.sl 10 (p0.map cGExpr)))), (1, (vI p1))], []⟩
   delta acwSzExprS
   refine so ?_
   let a0 : St := ⟨[(4, (vI 0)), (0, (.d (.sl 10 (p0.map cGExpr)))), (1, (vI p1))], []⟩
   refine st 1 a0 (nx (so ?_))
   let a1 : St := a0.p [(7, (.d (.sl 10 (p0.map cGExpr)))), (6, (vI p1))]
   refine st 2 a1 (ps (vI (p0.length : Int)) (vop_len (sz := 10) (l := p0) (f := cGExpr) (by kernel_rfl) (by kernel_rfl)) ?_)
   let a2 : St := a1.p [(1, (vI (IntKind.wrap .i64 (p1 - (p0.length : Int))))), (9, (vI (IntKind.wrap .i64 (p1 - (p0.length : Int))))), (8, (vI (p0.length : Int)))]
   refine st 2 a2 (nx (si (so ?_)))
   let a3 : St := a2.p [(11, (vB (decide ((IntKind.wrap .i64 (p1 - (p0.length : Int))) < 0)))), (10, (vI (IntKind.wrap .i64 (p1 - (p0.length : Int)))))]
   refine st 2 a3 (nx ?_)
   refine cd h (fun h => ?_) fun h => ?_
   refine so ?_
   let a4 : St := a3.p [(4, (vI (-1)))]
   refine st 1 a4 (nx (ri (tr ?_)))
   injection h with h; subst h
   exact ret1_step (v := (vI (-1))) (by kernel_rfl) (by kernel_rfl) (by kernel_rfl)
   refine ki (xi (si (so ?_)))
   let a5 : St := a3.p [(5, (vI 0))]
   exact st 1 a5 (nx (bi (loop_go (s' := stwSzExprS_L0 p0 (IntKind.wrap .i64 (p1 - (p0.length : Int))) 0) (wr [] (es (es (es er_nil))) br_nil) (OK_wSzExprS_L0 p0 (IntKind.wrap .i64 (p1 - (p0.length : Int))) 0 _ h))))
 · intro F_wSzExprS_L0 F_wSzExpr OK_wSzExprS_L0 OK_wSzExpr p0 x1 x5 r h
   delta acwSzExprS_L0
   refine loop_unroll (si (so ?_))
   let a6 : St := (stwSzExprS_L0 p0 x1 x5).p [(13, (.d (.sl 10 (p0.map cGExpr)))), (12, (vI x5))]
   refine st 2 a6 (ps (vI (p0.length : Int)) (vop_len (sz := 10) (l := p0) (f := cGExpr) (by kernel_rfl) (by kernel_rfl)) ?_)
   let a7 : St := a6.p [(15, (vB (decide (x5 < (p0.length : Int))))), (14, (vI (p0.length : Int)))]
   refine st 1 a7 (nx ?_)
   refine cd h (fun h => ?_) fun h => ?_
   refine ki (xi (si (bi (so ?_))))
   let a8 : St := a7.p [(19, (vI x5)), (18, (.d (.sl 10 (p0.map cGExpr))))]
   refine st 2 a8 (vs (fun (y : GExpr) => (.rp (oGExpr y))) h (fun y hy => vop_ia (l := p0) (f := cGExpr) (g := oGExpr) (k := .i64) hy cGExpr_eq (by kernel_rfl) (by kernel_rfl) (by kernel_rfl)) fun y1 h => ?_)
   let a9 : St := a8.p [(22, (vI x1)), (21, (vGExpr y1)), (20, (.rp (oGExpr y1)))]
   refine st 2 a9 (cs h (OK_wSzExpr y1 x1) fun y2 h => ?_)
   let a10 : St := a9.p [(1, (vI y2)), (23, (vI y2))]
   refine st 1 a10 (nx (so ?_))
   let a11 : St := a10.p [(25, (vB (decide (y2 < 0)))), (24, (vI y2))]
   refine st 2 a11 (nx ?_)
   refine cd h (fun h => ?_) fun h => ?_
   refine so ?_
   let a12 : St := a11.p [(4, (vI (-1)))]
   refine st 1 a12 (nx (ri (br (tr (tr (br (tr ?_)))))))
   injection h with h; subst h
   exact ret1_step (v := (vI (-1))) (by kernel_rfl) (by kernel_rfl) (by kernel_rfl)
   refine ki (bn (xi (oi ?_)))
   let a13 : St := a11.p [(5, (vI (IntKind.wrap .i64 (x5 + 1)))), (17, (vI (IntKind.wrap .i64 (x5 + 1)))), (16, (vI x5))]
   exact st 3 a13 (ni (loop_back (s' := stwSzExprS_L0 p0 y2 (IntKind.wrap .i64 (x5 + 1))) (wr [] (es (es (es er_nil))) br_nil) (OK_wSzExprS_L0 p0 y2 (IntKind.wrap .i64 (x5 + 1)) _ h)))
   refine ei (te (te (bh (xi (so ?_)))))
   let a14 : St := a7.p [(4, (vI x1)), (26, (vI x1))]
   refine st 2 a14 (nx (ri ?_))
   injection h with h; subst h
   exact ret1_step (v := (vI x1)) (by kernel_rfl) (by kernel_rfl) (by kernel_rfl)
 · intro F_wSzExprS F_wSzQueryS OK_wSzExprS OK_wSzQueryS p0 p1 r h
   refine acalls_of_fn trwSzExpr (Nat.le_of_ble_eq_true rfl) (by simp) ?_
   show avc Try.prog acwSzExpr (qwSzExpr _) ⟨[(0, (vGExpr p0)), (1, (vI p1))], []⟩
   delta acwSzExpr
   refine so ?_
   let a0 : St := ⟨[(4, (vI 0)), (2, (.ptr 2 0)), (0, (vGExpr p0)), (1, (vI p1))], [(2, bGExpr p0)]⟩
   refine st 2 a0 (nx (so ?_))
   let a1 : St := a0.p [(7, (vI p1)), (6, (vGValue p0.value)), (5, (.ptr 2 3))]
   refine st 3 a1 (cs h (OK_wSzValue p0.value p1) fun y1 h => ?_)
   let a2 : St := a1.p [(1, (vI y1)), (8, (vI y1))]
   refine st 1 a2 (nx (si (so ?_)))
   let a3 : St := a2.p [(10, (vB (decide (y1 < 0)))), (9, (vI y1))]
   refine st 2 a3 (nx ?_)
   refine cd h (fun h => ?_) fun h => ?_
   refine so ?_
   let a4 : St := a3.p [(4, (vI (-1)))]
   refine st 1 a4 (nx (ri (tr ?_)))
   injection h with h; subst h
   exact ret1_step (v := (vI (-1))) (by kernel_rfl) (by kernel_rfl) (by kernel_rfl)
   refine ki (xi (so ?_))
   let a5 : St := a3.p [(1, (vI (IntKind.wrap .i64 (y1 - (p0.qual.length : Int))))), (15, (vI (IntKind.wrap .i64 (y1 - (p0.qual.length : Int))))), (14, (vI (p0.qual.length : Int))), (13, (vS p0.qual)), (12, (.ptr 2 6)), (11, (vI y1))]
   refine st 6 a5 (nx (si (so ?_)))
   let a6 : St := a5.p [(17, (vB (decide ((IntKind.wrap .i64 (y1 - (p0.qual.length : Int))) < 0)))), (16, (vI (IntKind.wrap .i64 (y1 - (p0.qual.length : Int)))))]
   refine st 2 a6 (nx ?_)
   refine cd h (fun h => ?_) fun h => ?_
   refine so ?_
   let a7 : St := a6.p [(4, (vI (-1)))]
   refine st 1 a7 (nx (ri (tr ?_)))
   injection h with h; subst h
   exact ret1_step (v := (vI (-1))) (by kernel_rfl) (by kernel_rfl) (by kernel_rfl)
   refine ki (xi (so ?_))
   let a8 : St := a6.p [(1, (vI (IntKind.wrap .i64 ((IntKind.wrap .i64 (y1 - (p0.qual.length : Int))) - (p0.name.length : Int))))), (22, (vI (IntKind.wrap .i64 ((IntKind.wrap .i64 (y1 - (p0.qual.length : Int))) - (p0.name.length : Int))))), (21, (vI (p0.name.length : Int))), (20, (vS p0.name)), (19, (.ptr 2 7)), (18, (vI (IntKind.wrap .i64 (y1 - (p0.qual.length : Int)))))]
   refine st 6 a8 (nx (si (so ?_)))
   let a9 : St := a8.p [(24, (vB (decide ((IntKind.wrap .i64 ((IntKind.wrap .i64 (y1 - (p0.qual.length : Int))) - (p0.name.length : Int))) < 0)))), (23, (vI (IntKind.wrap .i64 ((IntKind.wrap .i64 (y1 - (p0.qual.length : Int))) - (p0.name.length : Int)))))]
   refine st 2 a9 (nx ?_)
   refine cd h (fun h => ?_) fun h => ?_
   refine so ?_
   let a10 : St := a9.p [(4, (vI (-1)))]
   refine st 1 a10 (nx (ri (tr ?_)))
   injection h with h; subst h
   exact ret1_step (v := (vI (-1))) (by kernel_rfl) (by kernel_rfl) (by kernel_rfl)
   refine ki (xi (so ?_))
   let a11 : St := a9.p [(27, (vI (IntKind.wrap .i64 ((IntKind.wrap .i64 (y1 - (p0.qual.length : Int))) - (p0.name.length : Int))))), (26, (.d (.sl 10 (p0.kids.map cGExpr)))), (25, (.ptr 2 8))]
   refine st 3 a11 (cs h (OK_wSzExprS p0.kids (IntKind.wrap .i64 ((IntKind.wrap .i64 (y1 - (p0.qual.length : Int))) - (p0.name.length : Int)))) fun y2 h => ?_)
   let a12 : St := a11.p [(1, (vI y2)), (28, (vI y2))]
   refine st 1 a12 (nx (si (so ?_)))
   let a13 : St := a12.p [(30, (vB (decide (y2 < 0)))), (29, (vI y2))]
   refine st 2 a13 (nx ?_)
   refine cd h (fun h => ?_) fun h => ?_
   refine so ?_
   let a14 : St := a13.p [(4, (vI (-1)))]
   refine st 1 a14 (nx (ri (tr ?_)))
   injection h with h; subst h
   exact ret1_step (v := (vI (-1))) (by kernel_rfl) (by kernel_rfl) (by kernel_rfl)
   refine ki (xi (so ?_))
   let a15 : St := a13.p [(33, (vI y2)), (32, (.d (.sl 6 (p0.sub.map cGQuery)))), (31, (.ptr 2 9))]
   refine st 3 a15 (cs h (OK_wSzQueryS p0.sub y2) fun y3 h => ?_)
   let a16 : St := a15.p [(1, (vI y3)), (34, (vI y3))]
   refine st 1 a16 (nx (si (so ?_)))
   let a17 : St := a16.p [(36, (vB (decide (y3 < 0)))), (35, (vI y3))]
   refine st 2 a17 (nx ?_)
   refine cd h (fun h => ?_) fun h => ?_
   refine so ?_
   let a18 : St := a17.p [(4, (vI (-1)))]
   refine st 1 a18 (nx (ri (tr ?_)))
   injection h with h; subst h
   exact ret1_step (v := (vI (-1))) (by kernel_rfl) (by kernel_rfl) (by kernel_rfl)
   refine ki (xi (so ?_))
   let a19 : St := a17.p [(4, (vI y3)), (37, (vI y3))]
   refine st 2 a19 (nx (ri ?_))
   injection h with h; subst h
   exact ret1_step (v := (vI y3)) (by kernel_rfl) (by kernel_rfl) (by kernel_rfl)
 · intro F_wSzQueryS_L0 OK_wSzQueryS_L0 p0 p1 r h
   refine acalls_of_fn trwSzQueryS (Nat.le_of_ble_eq_true rfl) (by simp) ?_
   show avc Try.prog acwSzQueryS (qwSzQueryS _) ⟨[(0, (.d (.sl 6 (p0.map cGQuery)))), (1, (vI p1))], []⟩
   delta acwSzQueryS
   refine so ?_
   let a0 : St := ⟨[(4, (vI 0)), (0, (.d (.sl 6 (p0.map cGQuery)))), (1, (vI p1))], []⟩
   refine st 1 a0 (nx (so ?_))
   let a1 : St := a0.p [(7, (.d (.sl 6 (p0.map cGQuery)))), (6, (vI p1))]
   refine st 2 a1 (ps (vI (p0.length : Int)) (vop_len (sz := 6) (l := p0) (f := cGQuery) (by kernel_rfl) (by kernel_rfl)) ?_)
   let a2 : St := a1.p [(1, (vI (IntKind.wrap .i64 (p1 - (p0.length : Int))))), (9, (vI (IntKind.wrap .i64 (p1 - (p0.length : Int))))), (8, (vI (p0.length : Int)))]
   refine st 2 a2 (nx (si (so ?_)))
   let a3 : St := a2.p [(11, (vB (decide ((IntKind.wrap .i64 (p1 - (p0.length : Int))) < 0)))), (10, (vI (IntKind.wrap .i64 (p1 - (p0.length : Int)))))]
   refine st 2 a3 (nx ?_)
   refine cd h (fun h => ?_) fun h => ?_
   refine so ?_
   let a4 : St := a3.p [(4, (vI (-1)))]
   refine st 1 a4 (nx (ri (tr ?_)))
   injection h with h; subst h
   exact ret1_step (v := (vI (-1))) (by kernel_rfl) (by kernel_rfl) (by kernel_rfl)
   refine ki (xi (si (so ?_)))
   let a5 : St := a3.p [(5, (vI 0))]
   exact st 1 a5 (nx (bi (loop_go (s' := stwSzQueryS_L0 p0 (IntKind.wrap .i64 (p1 - (p0.length : Int))) 0) (wr [] (es (es (es er_nil))) br_nil) (OK_wSzQueryS_L0 p0 (IntKind.wrap .i64 (p1 - (p0.length : Int))) 0 _ h))))
 · intro F_wSzQueryS_L0 F_wSzQuery OK_wSzQueryS_L0 OK_wSzQuery p0 x1 x5 r h
   delta acwSzQueryS_L0
   refine loop_unroll (si (so ?_))
   let a6 : St := (stwSzQueryS_L0 p0 x1 x5).p [(13, (.d (.sl 6 (p0.map cGQuery)))), (12, (vI x5))]
   refine st 2 a6 (ps (vI (p0.length : Int)) (vop_len (sz := 6) (l := p0) (f := cGQuery) (by kernel_rfl) (by kernel_rfl)) ?_)
   let a7 : St := a6.p [(15, (vB (decide (x5 < (p0.length : Int))))), (14, (vI (p0.length : Int)))]
   refine st 1 a7 (nx ?_)
   refine cd h (fun h => ?_) fun h => ?_
   refine ki (xi (si (bi (so ?_))))
   let a8 : St := a7.p [(19, (vI x5)), (18, (.d (.sl 6 (p0.map cGQuery))))]
   refine st 2 a8 (vs (fun (y : GQuery) => (.rp (oGQuery y))) h (fun y hy => vop_ia (l := p0) (f := cGQuery) (g := oGQuery) (k := .i64) hy cGQuery_eq (by kernel_rfl) (by kernel_rfl) (by kernel_rfl)) fun y1 h => ?_)
   let a9 : St := a8.p [(22, (vI x1)), (21, (vGQuery y1)), (20, (.rp (oGQuery y1)))]
   refine st 2 a9 (cs h (OK_wSzQuery y1 x1) fun y2 h => ?_)
   let a10 : St := a9.p [(1, (vI y2)), (23, (vI y2))]
   refine st 1 a10 (nx (so ?_))
   let a11 : St := a10.p [(25, (vB (decide (y2 < 0)))), (24, (vI y2))]
   refine st 2 a11 (nx ?_)
   refine cd h (fun h => ?_) fun h => ?_
   refine so ?_
   let a12 : St := a11.p [(4, (vI (-1)))]
   refine st 1 a12 (nx (ri (br (tr (tr (br (tr ?_)))))))
   injection h with h; subst h
   exact ret1_step (v := (vI (-1))) (by kernel_rfl) (by kernel_rfl) (by kernel_rfl)
   refine ki (bn (xi (oi ?_)))
   let a13 : St := a11.p [(5, (vI (IntKind.wrap .i64 (x5 + 1)))), (17, (vI (IntKind.wrap .i64 (x5 + 1)))), (16, (vI x5))]
   exact st 3 a13 (ni (loop_back (s' := stwSzQueryS_L0 p0 y2 (IntKind.wrap .i64 (x5 + 1))) (wr [] (es (es (es er_nil))) br_nil) (OK_wSzQueryS_L0 p0 y2 (IntKind.wrap .i64 (x5 + 1)) _ h)))
   refine ei (te (te (bh (xi (so ?_)))))
   let a14 : St := a7.p [(4, (vI x1)), (26, (vI x1))]
   refine st 2 a14 (nx (ri ?_))
   injection h with h; subst h
   exact ret1_step (v := (vI x1)) (by kernel_rfl) (by kernel_rfl) (by kernel_rfl)
 · intro F_wSzExprS F_wSzSortKeyS F_wSzSourceS F_wSzItemS OK_wSzExprS OK_wSzSortKeyS OK_wSzSourceS OK_wSzItemS p0 p1 r h
   refine acalls_of_fn trwSzQuery (Nat.le_of_ble_eq_true rfl) (by simp) ?_
   show avc Try.prog acwSzQuery (qwSzQuery _) ⟨[(0, (vGQuery p0)), (1, (vI p1))], []⟩
   delta acwSzQuery
   refine so ?_
   let a0 : St := ⟨[(4, (vI 0)), (2, (.ptr 2 0)), (0, (vGQuery p0)), (1, (vI p1))], [(2, bGQuery p0)]⟩
   refine st 2 a0 (nx (so ?_))
   let a1 : St := a0.p [(7, (vI p1)), (6, (.d (.sl 13 (p0.items.map cGItem)))), (5, (.ptr 2 1))]
   refine st 3 a1 (cs h (OK_wSzItemS p0.items p1) fun y1 h => ?_)
   let a2 : St := a1.p [(1, (vI y1)), (8, (vI y1))]
   refine st 1 a2 (nx (si (so ?_)))
   let a3 : St := a2.p [(10, (vB (decide (y1 < 0)))), (9, (vI y1))]
   refine st 2 a3 (nx ?_)
   refine cd h (fun h => ?_) fun h => ?_
   refine so ?_
   let a4 : St := a3.p [(4, (vI (-1)))]
   refine st 1 a4 (nx (ri (tr ?_)))
   injection h with h; subst h
   exact ret1_step (v := (vI (-1))) (by kernel_rfl) (by kernel_rfl) (by kernel_rfl)
   refine ki (xi (so ?_))
   let a5 : St := a3.p [(13, (vI y1)), (12, (.d (.sl 3 (p0.from_.map cGSource)))), (11, (.ptr 2 2))]
   refine st 3 a5 (cs h (OK_wSzSourceS p0.from_ y1) fun y2 h => ?_)
   let a6 : St := a5.p [(1, (vI y2)), (14, (vI y2))]
   refine st 1 a6 (nx (si (so ?_)))
   let a7 : St := a6.p [(16, (vB (decide (y2 < 0)))), (15, (vI y2))]
   refine st 2 a7 (nx ?_)
   refine cd h (fun h => ?_) fun h => ?_
   refine so ?_
   let a8 : St := a7.p [(4, (vI (-1)))]
   refine st 1 a8 (nx (ri (tr ?_)))
   injection h with h; subst h
   exact ret1_step (v := (vI (-1))) (by kernel_rfl) (by kernel_rfl) (by kernel_rfl)
   refine ki (xi (so ?_))
   let a9 : St := a7.p [(19, (vI y2)), (18, (.d (.sl 10 (p0.where_.map cGExpr)))), (17, (.ptr 2 3))]
   refine st 3 a9 (cs h (OK_wSzExprS p0.where_ y2) fun y3 h => ?_)
   let a10 : St := a9.p [(1, (vI y3)), (20, (vI y3))]
   refine st 1 a10 (nx (si (so ?_)))
   let a11 : St := a10.p [(22, (vB (decide (y3 < 0)))), (21, (vI y3))]
   refine st 2 a11 (nx ?_)
   refine cd h (fun h => ?_) fun h => ?_
   refine so ?_
   let a12 : St := a11.p [(4, (vI (-1)))]
   refine st 1 a12 (nx (ri (tr ?_)))
   injection h with h; subst h
   exact ret1_step (v := (vI (-1))) (by kernel_rfl) (by kernel_rfl) (by kernel_rfl)
   refine ki (xi (so ?_))
   let a13 : St := a11.p [(25, (vI y3)), (24, (.d (.sl 11 (p0.order.map cGSortKey)))), (23, (.ptr 2 4))]
   refine st 3 a13 (cs h (OK_wSzSortKeyS p0.order y3) fun y4 h => ?_)
   let a14 : St := a13.p [(1, (vI y4)), (26, (vI y4))]
   refine st 1 a14 (nx (si (so ?_)))
   let a15 : St := a14.p [(28, (vB (decide (y4 < 0)))), (27, (vI y4))]
   refine st 2 a15 (nx ?_)
   refine cd h (fun h => ?_) fun h => ?_
   refine so ?_
   let a16 : St := a15.p [(4, (vI (-1)))]
   refine st 1 a16 (nx (ri (tr ?_)))
   injection h with h; subst h
   exact ret1_step (v := (vI (-1))) (by kernel_rfl) (by kernel_rfl) (by kernel_rfl)
   refine ki (xi (so ?_))
   let a17 : St := a15.p [(4, (vI y4)), (29, (vI y4))]
   refine st 2 a17 (nx (ri ?_))
   injection h with h; subst h
   exact ret1_step (v := (vI y4)) (by kernel_rfl) (by kernel_rfl) (by kernel_rfl)
 · intro F_wSzSortKeyS_L0 OK_wSzSortKeyS_L0 p0 p1 r h
   refine acalls_of_fn trwSzSortKeyS (Nat.le_of_ble_eq_true rfl) (by simp) ?_
   show avc Try.prog acwSzSortKeyS (qwSzSortKeyS _) ⟨[(0, (.d (.sl 11 (p0.map cGSortKey)))), (1, (vI p1))], []⟩
   delta acwSzSortKeyS
   refine so ?_
   let a0 : St := ⟨[(4, (vI 0)), (0, (.d (.sl 11 (p0.map cGSortKey)))), (1, (vI p1))], []⟩
   refine st 1 a0 (nx (so ?_))
   let a1 : St := a0.p [(7, (.d (.sl 11 (p0.map cGSortKey)))), (6, (vI p1))]
   refine st 2 a1 (ps (vI (p0.length : Int)) (vop_len (sz := 11) (l := p0) (f := cGSortKey) (by kernel_rfl) (by kernel_rfl)) ?_)
   let a2 : St := a1.p [(1, (vI (IntKind.wrap .i64 (p1 - (p0.length : Int))))), (9, (vI (IntKind.wrap .i64 (p1 - (p0.length : Int))))), (8, (vI (p0.length : Int)))]
   refine st 2 a2 (nx (si (so ?_)))
   let a3 : St := a2.p [(11, (vB (decide ((IntKind.wrap .i64 (p1 - (p0.length : Int))) < 0)))), (10, (vI (IntKind.wrap .i64 (p1 - (p0.length : Int)))))]
   refine st 2 a3 (nx ?_)
   refine cd h (fun h => ?_) fun h => ?_
   refine so ?_
   let a4 : St := a3.p [(4, (vI (-1)))]
   refine st 1 a4 (nx (ri (tr ?_)))
   injection h with h; subst h
   exact ret1_step (v := (vI (-1))) (by kernel_rfl) (by kernel_rfl) (by kernel_rfl)
   refine ki (xi (si (so ?_)))
   let a5 : St := a3.p [(5, (vI 0))]
   exact st 1 a5 (nx (bi (loop_go (s' := stwSzSortKeyS_L0 p0 (IntKind.wrap .i64 (p1 - (p0.length : Int))) 0) (wr [] (es (es (es er_nil))) br_nil) (OK_wSzSortKeyS_L0 p0 (IntKind.wrap .i64 (p1 - (p0.length : Int))) 0 _ h))))
 · intro F_wSzSortKeyS_L0 F_wSzSortKey OK_wSzSortKeyS_L0 OK_wSzSortKey p0 x1 x5 r h
   delta acwSzSortKeyS_L0
   refine loop_unroll (si (so ?_))
   let a6 : St := (stwSzSortKeyS_L0 p0 x1 x5).p [(13, (.d (.sl 11 (p0.map cGSortKey)))), (12, (vI x5))]
   refine st 2 a6 (ps (vI (p0.length : Int)) (vop_len (sz := 11) (l := p0) (f := cGSortKey) (by kernel_rfl) (by kernel_rfl)) ?_)
   let a7 : St := a6.p [(15, (vB (decide (x5 < (p0.length : Int))))), (14, (vI (p0.length : Int)))]
   refine st 1 a7 (nx ?_)
   refine cd h (fun h => ?_) fun h => ?_
   refine ki (xi (si (bi (so ?_))))
   let a8 : St := a7.p [(19, (vI x5)), (18, (.d (.sl 11 (p0.map cGSortKey))))]
   refine st 2 a8 (vs (fun (y : GSortKey) => (.rp (oGSortKey y))) h (fun y hy => vop_ia (l := p0) (f := cGSortKey) (g := oGSortKey) (k := .i64) hy cGSortKey_eq (by kernel_rfl) (by kernel_rfl) (by kernel_rfl)) fun y1 h => ?_)
   let a9 : St := a8.p [(22, (vI x1)), (21, (vGSortKey y1)), (20, (.rp (oGSortKey y1)))]
   refine st 2 a9 (cs h (OK_wSzSortKey y1 x1) fun y2 h => ?_)
   let a10 : St := a9.p [(1, (vI y2)), (23, (vI y2))]
   refine st 1 a10 (nx (so ?_))
   let a11 : St := a10.p [(25, (vB (decide (y2 < 0)))), (24, (vI y2))]
   refine st 2 a11 (nx ?_)
   refine cd h (fun h => ?_) fun h => ?_
   refine so ?_
   let a12 : St := a11.p [(4, (vI (-1)))]
   refine st 1 a12 (nx (ri (br (tr (tr (br (tr ?_)))))))
   injection h with h; subst h
   exact ret1_step (v := (vI (-1))) (by kernel_rfl) (by kernel_rfl) (by kernel_rfl)
   refine ki (bn (xi (oi ?_)))
   let a13 : St := a11.p [(5, (vI (IntKind.wrap .i64 (x5 + 1)))), (17, (vI (IntKind.wrap .i64 (x5 + 1)))), (16, (vI x5))]
   exact st 3 a13 (ni (loop_back (s' := stwSzSortKeyS_L0 p0 y2 (IntKind.wrap .i64 (x5 + 1))) (wr [] (es (es (es er_nil))) br_nil) (OK_wSzSortKeyS_L0 p0 y2 (IntKind.wrap .i64 (x5 + 1)) _ h)))
   refine ei (te (te (bh (xi (so ?_)))))
   let a14 : St := a7.p [(4, (vI x1)), (26, (vI x1))]
   refine st 2 a14 (nx (ri ?_))
   injection h with h; subst h
   exact ret1_step (v := (vI x1)) (by kernel_rfl) (by kernel_rfl) (by kernel_rfl)
 · intro F_wSzExpr OK_wSzExpr p0 p1 r h
   refine acalls_of_fn trwSzSortKey (Nat.le_of_ble_eq_true rfl) (by simp) ?_
   show avc Try.prog acwSzSortKey (qwSzSortKey _) ⟨[(0, (vGSortKey p0)), (1, (vI p1))], []⟩
   delta acwSzSortKey
   refine so ?_
   let a0 : St := ⟨[(4, (vI 0)), (2, (.ptr 2 0)), (0, (vGSortKey p0)), (1, (vI p1))], [(2, bGSortKey p0)]⟩
   refine st 2 a0 (nx (so ?_))
   let a1 : St := a0.p [(7, (vI p1)), (6, (vGExpr p0.expr)), (5, (.ptr 2 0))]
   refine st 3 a1 (cs h (OK_wSzExpr p0.expr p1) fun y1 h => ?_)
   let a2 : St := a1.p [(1, (vI y1)), (8, (vI y1))]
   refine st 1 a2 (nx (si (so ?_)))
   let a3 : St := a2.p [(10, (vB (decide (y1 < 0)))), (9, (vI y1))]
   refine st 2 a3 (nx ?_)
   refine cd h (fun h => ?_) fun h => ?_
   refine so ?_
   let a4 : St := a3.p [(4, (vI (-1)))]
   refine st 1 a4 (nx (ri (tr ?_)))
   injection h with h; subst h
   exact ret1_step (v := (vI (-1))) (by kernel_rfl) (by kernel_rfl) (by kernel_rfl)
   refine ki (xi (so ?_))
   let a5 : St := a3.p [(4, (vI y1)), (11, (vI y1))]
   refine st 2 a5 (nx (ri ?_))
   injection h with h; subst h
   exact ret1_step (v := (vI y1)) (by kernel_rfl) (by kernel_rfl) (by kernel_rfl)
 · intro F_wSzSourceS_L0 OK_wSzSourceS_L0 p0 p1 r h
   refine acalls_of_fn trwSzSourceS (Nat.le_of_ble_eq_true rfl) (by simp) ?_
   show avc Try.prog acwSzSourceS (qwSzSourceS _) ⟨[(0, (.d (.sl 3 (p0.map cGSource)))), (1, (vI p1))], []⟩
   delta acwSzSourceS
   refine so ?_
   let a0 : St := ⟨[(4, (vI 0)), (0, (.d (.sl 3 (p0.map cGSource)))), (1, (vI p1))], []⟩
   refine st 1 a0 (nx (so ?_))
   let a1 : St := a0.p [(7, (.d (.sl 3 (p0.map cGSource)))), (6, (vI p1))]
   refine st 2 a1 (ps (vI (p0.length : Int)) (vop_len (sz := 3) (l := p0) (f := cGSource) (by kernel_rfl) (by kernel_rfl)) ?_)
   let a2 : St := a1.p [(1, (vI (IntKind.wrap .i64 (p1 - (p0.length : Int))))), (9, (vI (IntKind.wrap .i64 (p1 - (p0.length : Int))))), (8, (vI (p0.length : Int)))]
   refine st 2 a2 (nx (si (so ?_)))
   let a3 : St := a2.p [(11, (vB (decide ((IntKind.wrap .i64 (p1 - (p0.length : Int))) < 0)))), (10, (vI (IntKind.wrap .i64 (p1 - (p0.length : Int)))))]
   refine st 2 a3 (nx ?_)
   refine cd h (fun h => ?_) fun h => ?_
   refine so ?_
   let a4 : St := a3.p [(4, (vI (-1)))]
   refine st 1 a4 (nx (ri (tr ?_)))
   injection h with h; subst h
   exact ret1_step (v := (vI (-1))) (by kernel_rfl) (by kernel_rfl) (by kernel_rfl)
   refine ki (xi (si (so ?_)))
   let a5 : St := a3.p [(5, (vI 0))]
   exact st 1 a5 (nx (bi (loop_go (s' := stwSzSourceS_L0 p0 (IntKind.wrap .i64 (p1 - (p0.length : Int))) 0) (wr [] (es (es (es er_nil))) br_nil) (OK_wSzSourceS_L0 p0 (IntKind.wrap .i64 (p1 - (p0.length : Int))) 0 _ h))))
 · intro F_wSzSource F_wSzSourceS_L0 OK_wSzSource OK_wSzSourceS_L0 p0 x1 x5 r h
   delta acwSzSourceS_L0
   refine loop_unroll (si (so ?_))
   let a6 : St := (stwSzSourceS_L0 p0 x1 x5).p [(13, (.d (.sl 3 (p0.map cGSource)))), (12, (vI x5))]
   refine st 2 a6 (ps (vI (p0.length : Int)) (vop_len (sz := 3) (l := p0) (f := cGSource) (by kernel_rfl) (by kernel_rfl)) ?_)
   let a7 : St := a6.p [(15, (vB (decide (x5 < (p0.length : Int))))), (14, (vI (p0.length : Int)))]
   refine st 1 a7 (nx ?_)
   refine cd h (fun h => ?_) fun h => ?_
   refine ki (xi (si (bi (so ?_))))
   let a8 : St := a7.p [(19, (vI x5)), (18, (.d (.sl 3 (p0.map cGSource))))]
   refine st 2 a8 (vs (fun (y : GSource) => (.rp (oGSource y))) h (fun y hy => vop_ia (l := p0) (f := cGSource) (g := oGSource) (k := .i64) hy cGSource_eq (by kernel_rfl) (by kernel_rfl) (by kernel_rfl)) fun y1 h => ?_)
   let a9 : St := a8.p [(22, (vI x1)), (21, (vGSource y1)), (20, (.rp (oGSource y1)))]
   refine st 2 a9 (cs h (OK_wSzSource y1 x1) fun y2 h => ?_)
   let a10 : St := a9.p [(1, (vI y2)), (23, (vI y2))]
   refine st 1 a10 (nx (so ?_))
   let a11 : St := a10.p [(25, (vB (decide (y2 < 0)))), (24, (vI y2))]
   refine st 2 a11 (nx ?_)
   refine cd h (fun h => ?_) fun h => ?_
   refine so ?_
   let a12 : St := a11.p [(4, (vI (-1)))]
   refine st 1 a12 (nx (ri (br (tr (tr (br (tr ?_)))))))
   injection h with h; subst h
   exact ret1_step (v := (vI (-1))) (by kernel_rfl) (by kernel_rfl) (by kernel_rfl)
   refine ki (bn (xi (oi ?_)))
   let a13 : St := a11.p [(5, (vI (IntKind.wrap .i64 (x5 + 1)))), (17, (vI (IntKind.wrap .i64 (x5 + 1)))), (16, (vI x5))]
   exact st 3 a13 (ni (loop_back (s' := stwSzSourceS_L0 p0 y2 (IntKind.wrap .i64 (x5 + 1))) (wr [] (es (es (es er_nil))) br_nil) (OK_wSzSourceS_L0 p0 y2 (IntKind.wrap .i64 (x5 + 1)) _ h)))
   refine ei (te (te (bh (xi (so ?_)))))
   let a14 : St := a7.p [(4, (vI x1)), (26, (vI x1))]
   refine st 2 a14 (nx (ri ?_))
   injection h with h; subst h
   exact ret1_step (v := (vI x1)) (by kernel_rfl) (by kernel_rfl) (by kernel_rfl)
 · intro F_wSzItemS_L0 OK_wSzItemS_L0 p0 p1 r h
   refine acalls_of_fn trwSzItemS (Nat.le_of_ble_eq_true rfl) (by simp) ?_
   show avc Try.prog acwSzItemS (qwSzItemS _) ⟨[(0, (.d (.sl 13 (p0.map cGItem)))), (1, (vI p1))], []⟩
   delta acwSzItemS
   refine so ?_
   let a0 : St := ⟨[(4, (vI 0)), (0, (.d (.sl 13 (p0.map cGItem)))), (1, (vI p1))], []⟩
   refine st 1 a0 (nx (so ?_))
   let a1 : St := a0.p [(7, (.d (.sl 13 (p0.map cGItem)))), (6, (vI p1))]
   refine st 2 a1 (ps (vI (p0.length : Int)) (vop_len (sz := 13) (l := p0) (f := cGItem) (by kernel_rfl) (by kernel_rfl)) ?_)
   let a2 : St := a1.p [(1, (vI (IntKind.wrap .i64 (p1 - (p0.length : Int))))), (9, (vI (IntKind.wrap .i64 (p1 - (p0.length : Int))))), (8, (vI (p0.length : Int)))]
   refine st 2 a2 (nx (si (so ?_)))
   let a3 : St := a2.p [(11, (vB (decide ((IntKind.wrap .i64 (p1 - (p0.length : Int))) < 0)))), (10, (vI (IntKind.wrap .i64 (p1 - (p0.length : Int)))))]
   refine st 2 a3 (nx ?_)
   refine cd h (fun h => ?_) fun h => ?_
   refine so ?_
   let a4 : St := a3.p [(4, (vI (-1)))]
   refine st 1 a4 (nx (ri (tr ?_)))
   injection h with h; subst h
   exact ret1_step (v := (vI (-1))) (by kernel_rfl) (by kernel_rfl) (by kernel_rfl)
   refine ki (xi (si (so ?_)))
   let a5 : St := a3.p [(5, (vI 0))]
   exact st 1 a5 (nx (bi (loop_go (s' := stwSzItemS_L0 p0 (IntKind.wrap .i64 (p1 - (p0.length : Int))) 0) (wr [] (es (es (es er_nil))) br_nil) (OK_wSzItemS_L0 p0 (IntKind.wrap .i64 (p1 - (p0.length : Int))) 0 _ h))))
 · intro F_wSzItemS_L0 F_wSzItem OK_wSzItemS_L0 OK_wSzItem p0 x1 x5 r h
   delta acwSzItemS_L0
   refine loop_unroll (si (so ?_))
   let a6 : St := (stwSzItemS_L0 p0 x1 x5).p [(13, (.d (.sl 13 (p0.map cGItem)))), (12, (vI x5))]
   refine st 2 a6 (ps (vI (p0.length : Int)) (vop_len (sz := 13) (l := p0) (f := cGItem) (by kernel_rfl) (by kernel_rfl)) ?_)
   let a7 : St := a6.p [(15, (vB (decide (x5 < (p0.length : Int))))), (14, (vI (p0.length : Int)))]
   refine st 1 a7 (nx ?_)
   refine cd h (fun h => ?_) fun h => ?_
   refine ki (xi (si (bi (so ?_))))
   let a8 : St := a7.p [(19, (vI x5)), (18, (.d (.sl 13 (p0.map cGItem))))]
   refine st 2 a8 (vs (fun (y : GItem) => (.rp (oGItem y))) h (fun y hy => vop_ia (l := p0) (f := cGItem) (g := oGItem) (k := .i64) hy cGItem_eq (by kernel_rfl) (by kernel_rfl) (by kernel_rfl)) fun y1 h => ?_)
   let a9 : St := a8.p [(22, (vI x1)), (21, (vGItem y1)), (20, (.rp (oGItem y1)))]
   refine st 2 a9 (cs h (OK_wSzItem y1 x1) fun y2 h => ?_)
   let a10 : St := a9.p [(1, (vI y2)), (23, (vI y2))]
   refine st 1 a10 (nx (so ?_))
   let a11 : St := a10.p [(25, (vB (decide (y2 < 0)))), (24, (vI y2))]
   refine st 2 a11 (nx ?_)
   refine cd h (fun h => ?_) fun h => ?_
   refine so ?_
   let a12 : St := a11.p [(4, (vI (-1)))]
   refine st 1 a12 (nx (ri (br (tr (tr (br (tr ?_)))))))
   injection h with h; subst h
   exact ret1_step (v := (vI (-1))) (by kernel_rfl) (by kernel_rfl) (by kernel_rfl)
   refine ki (bn (xi (oi ?_)))
   let a13 : St := a11.p [(5, (vI (IntKind.wrap .i64 (x5 + 1)))), (17, (vI (IntKind.wrap .i64 (x5 + 1)))), (16, (vI x5))]
   exact st 3 a13 (ni (loop_back (s' := stwSzItemS_L0 p0 y2 (IntKind.wrap .i64 (x5 + 1))) (wr [] (es (es (es er_nil))) br_nil) (OK_wSzItemS_L0 p0 y2 (IntKind.wrap .i64 (x5 + 1)) _ h)))
   refine ei (te (te (bh (xi (so ?_)))))
   let a14 : St := a7.p [(4, (vI x1)), (26, (vI x1))]
   refine st 2 a14 (nx (ri ?_))
   injection h with h; subst h
   exact ret1_step (v := (vI x1)) (by kernel_rfl) (by kernel_rfl) (by kernel_rfl)
 · intro F_wSzExpr OK_wSzExpr p0 p1 r h
   refine acalls_of_fn trwSzItem (Nat.le_of_ble_eq_true rfl) (by simp) ?_
   show avc Try.prog acwSzItem (qwSzItem _) ⟨[(0, (vGItem p0)), (1, (vI p1))], []⟩
   delta acwSzItem
   refine so ?_
   let a0 : St := ⟨[(4, (vI 0)), (2, (.ptr 2 0)), (0, (vGItem p0)), (1, (vI p1))], [(2, bGItem p0)]⟩
   refine st 2 a0 (nx (so ?_))
   let a1 : St := a0.p [(1, (vI (IntKind.wrap .i64 (p1 - (p0.qual.length : Int))))), (9, (vI (IntKind.wrap .i64 (p1 - (p0.qual.length : Int))))), (8, (vI (p0.qual.length : Int))), (7, (vS p0.qual)), (6, (.ptr 2 1)), (5, (vI p1))]
   refine st 6 a1 (nx (si (so ?_)))
   let a2 : St := a1.p [(11, (vB (decide ((IntKind.wrap .i64 (p1 - (p0.qual.length : Int))) < 0)))), (10, (vI (IntKind.wrap .i64 (p1 - (p0.qual.length : Int)))))]
   refine st 2 a2 (nx ?_)
   refine cd h (fun h => ?_) fun h => ?_
   refine so ?_
   let a3 : St := a2.p [(4, (vI (-1)))]
   refine st 1 a3 (nx (ri (tr ?_)))
   injection h with h; subst h
   exact ret1_step (v := (vI (-1))) (by kernel_rfl) (by kernel_rfl) (by kernel_rfl)
   refine ki (xi (so ?_))
   let a4 : St := a2.p [(14, (vI (IntKind.wrap .i64 (p1 - (p0.qual.length : Int))))), (13, (vGExpr p0.expr)), (12, (.ptr 2 2))]
   refine st 3 a4 (cs h (OK_wSzExpr p0.expr (IntKind.wrap .i64 (p1 - (p0.qual.length : Int)))) fun y1 h => ?_)
   let a5 : St := a4.p [(1, (vI y1)), (15, (vI y1))]
   refine st 1 a5 (nx (si (so ?_)))
   let a6 : St := a5.p [(17, (vB (decide (y1 < 0)))), (16, (vI y1))]
   refine st 2 a6 (nx ?_)
   refine cd h (fun h => ?_) fun h => ?_
   refine so ?_
   let a7 : St := a6.p [(4, (vI (-1)))]
   refine st 1 a7 (nx (ri (tr ?_)))
   injection h with h; subst h
   exact ret1_step (v := (vI (-1))) (by kernel_rfl) (by kernel_rfl) (by kernel_rfl)
   refine ki (xi (so ?_))
   let a8 : St := a6.p [(1, (vI (IntKind.wrap .i64 (y1 - (p0.as_.length : Int))))), (22, (vI (IntKind.wrap .i64 (y1 - (p0.as_.length : Int))))), (21, (vI (p0.as_.length : Int))), (20, (vS p0.as_)), (19, (.ptr 2 12)), (18, (vI y1))]
   refine st 6 a8 (nx (si (so ?_)))
   let a9 : St := a8.p [(24, (vB (decide ((IntKind.wrap .i64 (y1 - (p0.as_.length : Int))) < 0)))), (23, (vI (IntKind.wrap .i64 (y1 - (p0.as_.length : Int)))))]
   refine st 2 a9 (nx ?_)
   refine cd h (fun h => ?_) fun h => ?_
   refine so ?_
   let a10 : St := a9.p [(4, (vI (-1)))]
   refine st 1 a10 (nx (ri (tr ?_)))
   injection h with h; subst h
   exact ret1_step (v := (vI (-1))) (by kernel_rfl) (by kernel_rfl) (by kernel_rfl)
   refine ki (xi (so ?_))
   let a11 : St := a9.p [(4, (vI (IntKind.wrap .i64 (y1 - (p0.as_.length : Int))))), (25, (vI (IntKind.wrap .i64 (y1 - (p0.as_.length : Int)))))]
   refine st 2 a11 (nx (ri ?_))
   injection h with h; subst h
   exact ret1_step (v := (vI (IntKind.wrap .i64 (y1 - (p0.as_.length : Int))))) (by kernel_rfl) (by kernel_rfl) (by kernel_rfl)
theorem OK_wSzSource (p0 : GSource) (p1 : Int) : FOk Try.prog 118 [(vGSource p0), (vI p1)] (fun y => (vI y)) (wSzSource p0 p1) := fun r h => (OKs_wSzSource).1 p0 p1 r h
theorem OK_wSzExprS (p0 : (List GExpr)) (p1 : Int) : FOk Try.prog 56 [(.d (.sl 10 (p0.map cGExpr))), (vI p1)] (fun y => (vI y)) (wSzExprS p0 p1) := fun r h => (OKs_wSzSource).2.1 p0 p1 r h
theorem OK_wSzExprS_L0 (p0 : (List GExpr)) (x1 : Int) (x5 : Int) (r : Int) (h : wSzExprS_L0 p0 x1 x5 = some r) : avc Try.prog acwSzExprS_L0 (qwSzExprS_1 r) (stwSzExprS_L0 p0 x1 x5) := (OKs_wSzSource).2.2.1 p0 x1 x5 r h
theorem OK_wSzExpr (p0 : GExpr) (p1 : Int) : FOk Try.prog 19 [(vGExpr p0), (vI p1)] (fun y => (vI y)) (wSzExpr p0 p1) := fun r h => (OKs_wSzSource).2.2.2.1 p0 p1 r h
theorem OK_wSzQueryS (p0 : (List GQuery)) (p1 : Int) : FOk Try.prog 71 [(.d (.sl 6 (p0.map cGQuery))), (vI p1)] (fun y => (vI y)) (wSzQueryS p0 p1) := fun r h => (OKs_wSzSource).2.2.2.2.1 p0 p1 r h
theorem OK_wSzQueryS_L0 (p0 : (List GQuery)) (x1 : Int) (x5 : Int) (r : Int) (h : wSzQueryS_L0 p0 x1 x5 = some r) : avc Try.prog acwSzQueryS_L0 (qwSzQueryS_1 r) (stwSzQueryS_L0 p0 x1 x5) := (OKs_wSzSource).2.2.2.2.2.1 p0 x1 x5 r h
theorem OK_wSzQuery (p0 : GQuery) (p1 : Int) : FOk Try.prog 14 [(vGQuery p0), (vI p1)] (fun y => (vI y)) (wSzQuery p0 p1) := fun r h => (OKs_wSzSource).2.2.2.2.2.2.1 p0 p1 r h
theorem OK_wSzSortKeyS (p0 : (List GSortKey)) (p1 : Int) : FOk Try.prog 57 [(.d (.sl 11 (p0.map cGSortKey))), (vI p1)] (fun y => (vI y)) (wSzSortKeyS p0 p1) := fun r h => (OKs_wSzSource).2.2.2.2.2.2.2.1 p0 p1 r h
theorem OK_wSzSortKeyS_L0 (p0 : (List GSortKey)) (x1 : Int) (x5 : Int) (r : Int) (h : wSzSortKeyS_L0 p0 x1 x5 = some r) : avc Try.prog acwSzSortKeyS_L0 (qwSzSortKeyS_1 r) (stwSzSortKeyS_L0 p0 x1 x5) := (OKs_wSzSource).2.2.2.2.2.2.2.2.1 p0 x1 x5 r h
theorem OK_wSzSortKey (p0 : GSortKey) (p1 : Int) : FOk Try.prog 119 [(vGSortKey p0), (vI p1)] (fun y => (vI y)) (wSzSortKey p0 p1) := fun r h => (OKs_wSzSource).2.2.2.2.2.2.2.2.2.1 p0 p1 r h
theorem OK_wSzSourceS (p0 : (List GSource)) (p1 : Int) : FOk Try.prog 55 [(.d (.sl 3 (p0.map cGSource))), (vI p1)] (fun y => (vI y)) (wSzSourceS p0 p1) := fun r h => (OKs_wSzSource).2.2.2.2.2.2.2.2.2.2.1 p0 p1 r h
theorem OK_wSzSourceS_L0 (p0 : (List GSource)) (x1 : Int) (x5 : Int) (r : Int) (h : wSzSourceS_L0 p0 x1 x5 = some r) : avc Try.prog acwSzSourceS_L0 (qwSzSourceS_1 r) (stwSzSourceS_L0 p0 x1 x5) := (OKs_wSzSource).2.2.2.2.2.2.2.2.2.2.2.1 p0 x1 x5 r h
theorem OK_wSzItemS (p0 : (List GItem)) (p1 : Int) : FOk Try.prog 54 [(.d (.sl 13 (p0.map cGItem))), (vI p1)] (fun y => (vI y)) (wSzItemS p0 p1) := fun r h => (OKs_wSzSource).2.2.2.2.2.2.2.2.2.2.2.2.1 p0 p1 r h
theorem OK_wSzItemS_L0 (p0 : (List GItem)) (x1 : Int) (x5 : Int) (r : Int) (h : wSzItemS_L0 p0 x1 x5 = some r) : avc Try.prog acwSzItemS_L0 (qwSzItemS_1 r) (stwSzItemS_L0 p0 x1 x5) := (OKs_wSzSource).2.2.2.2.2.2.2.2.2.2.2.2.2.1 p0 x1 x5 r h
theorem OK_wSzItem (p0 : GItem) (p1 : Int) : FOk Try.prog 117 [(vGItem p0), (vI p1)] (fun y => (vI y)) (wSzItem p0 p1) := fun r h => (OKs_wSzSource).2.2.2.2.2.2.2.2.2.2.2.2.2.2 p0 p1 r h
end Go.Proofs.Ytdiknmniclancaa
