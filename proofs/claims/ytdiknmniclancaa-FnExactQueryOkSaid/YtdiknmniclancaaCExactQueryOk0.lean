/- That the code computes these functions (printed by a program). -/
import Derived.KernelRfl
import Derived.Test.YtdiknmniclancaaAbG2
import Derived.Test.YtdiknmniclancaaAbC3
import Derived.Test.YtdiknmniclancaaFExactQueryOk
import Derived.Test.YtdiknmniclancaaProg
namespace Go.Proofs.Ytdiknmniclancaa
open Go Go.RowKit Go.Ab
def cI (n : Int) : List D := [.i .i64 n]
def cU8 (n : Int) : List D := [.i .u8 n]
def cU64 (n : Int) : List D := [.i .u64 n]
def cI32 (n : Int) : List D := [.i .i32 n]
def cU32 (n : Int) : List D := [.i .u32 n]
def cB (b : Bool) : List D := [.b b]
def cStr (s : List UInt8) : List D := [.s (bs s)]
def cSl {α : Type} (sz : Nat) (f : α → List D) (l : List α) : List D := [.sl sz (l.map f)]
def cGValue (x : GValue) : List D := [(.i .i64 x.kind), (.i .i64 x.num), (.s (bs x.text))]
def vGValue (x : GValue) : V := .agg (cGValue x)
def bGValue (x : GValue) : List V := (cGValue x).map V.d
mutual
def cGExpr : GExpr → List D
  | ⟨a0, a1, a2, a3, a4, a5, a6, a7⟩ => [(.i .i64 a0)] ++ [(.i .i64 a1)] ++ [(.b a2)] ++ cGValue a3 ++ [(.s (bs a4))] ++ [(.s (bs a5))] ++ [.sl 10 (cLGExpr a6)] ++ [.sl 6 (cLGQuery a7)]
def cGItem : GItem → List D
  | ⟨a0, a1, a2, a3⟩ => [(.b a0)] ++ [(.s (bs a1))] ++ cGExpr a2 ++ [(.s (bs a3))]
def cGQuery : GQuery → List D
  | ⟨a0, a1, a2, a3, a4, a5⟩ => [(.b a0)] ++ [.sl 13 (cLGItem a1)] ++ [.sl 3 (cLGSource a2)] ++ [.sl 10 (cLGExpr a3)] ++ [.sl 11 (cLGSortKey a4)] ++ [(.i .i64 a5)]
def cGSortKey : GSortKey → List D
  | ⟨a0, a1⟩ => cGExpr a0 ++ [(.b a1)]
def cGSource : GSource → List D
  | ⟨a0, a1, a2⟩ => [(.s (bs a0))] ++ [(.s (bs a1))] ++ [.sl 10 (cLGExpr a2)]
def cLGExpr : List GExpr → List (List D)
  | [] => []
  | x :: l => cGExpr x :: cLGExpr l
def cLGItem : List GItem → List (List D)
  | [] => []
  | x :: l => cGItem x :: cLGItem l
def cLGQuery : List GQuery → List (List D)
  | [] => []
  | x :: l => cGQuery x :: cLGQuery l
def cLGSortKey : List GSortKey → List (List D)
  | [] => []
  | x :: l => cGSortKey x :: cLGSortKey l
def cLGSource : List GSource → List (List D)
  | [] => []
  | x :: l => cGSource x :: cLGSource l
end
theorem cLGExpr_eq : ∀ l : List GExpr, cLGExpr l = l.map cGExpr
  | [] => by simp only [cLGExpr, List.map_nil]
  | x :: l => by simp only [cLGExpr, List.map_cons, cLGExpr_eq l]
theorem cLGItem_eq : ∀ l : List GItem, cLGItem l = l.map cGItem
  | [] => by simp only [cLGItem, List.map_nil]
  | x :: l => by simp only [cLGItem, List.map_cons, cLGItem_eq l]
theorem cLGQuery_eq : ∀ l : List GQuery, cLGQuery l = l.map cGQuery
  | [] => by simp only [cLGQuery, List.map_nil]
  | x :: l => by simp only [cLGQuery, List.map_cons, cLGQuery_eq l]
theorem cLGSortKey_eq : ∀ l : List GSortKey, cLGSortKey l = l.map cGSortKey
  | [] => by simp only [cLGSortKey, List.map_nil]
  | x :: l => by simp only [cLGSortKey, List.map_cons, cLGSortKey_eq l]
theorem cLGSource_eq : ∀ l : List GSource, cLGSource l = l.map cGSource
  | [] => by simp only [cLGSource, List.map_nil]
  | x :: l => by simp only [cLGSource, List.map_cons, cLGSource_eq l]
def oGExpr (x : GExpr) : List D := [(.i .i64 x.kind), (.i .i64 x.op), (.b x.not_), (.i .i64 x.value.kind), (.i .i64 x.value.num), (.s (bs x.value.text)), (.s (bs x.qual)), (.s (bs x.name)), (.sl 10 (x.kids.map cGExpr)), (.sl 6 (x.sub.map cGQuery))]
def oGItem (x : GItem) : List D := [(.b x.star), (.s (bs x.qual)), (.i .i64 x.expr.kind), (.i .i64 x.expr.op), (.b x.expr.not_), (.i .i64 x.expr.value.kind), (.i .i64 x.expr.value.num), (.s (bs x.expr.value.text)), (.s (bs x.expr.qual)), (.s (bs x.expr.name)), (.sl 10 (x.expr.kids.map cGExpr)), (.sl 6 (x.expr.sub.map cGQuery)), (.s (bs x.as_))]
def oGQuery (x : GQuery) : List D := [(.b x.distinct), (.sl 13 (x.items.map cGItem)), (.sl 3 (x.from_.map cGSource)), (.sl 10 (x.where_.map cGExpr)), (.sl 11 (x.order.map cGSortKey)), (.i .i64 x.limit)]
def oGSortKey (x : GSortKey) : List D := [(.i .i64 x.expr.kind), (.i .i64 x.expr.op), (.b x.expr.not_), (.i .i64 x.expr.value.kind), (.i .i64 x.expr.value.num), (.s (bs x.expr.value.text)), (.s (bs x.expr.qual)), (.s (bs x.expr.name)), (.sl 10 (x.expr.kids.map cGExpr)), (.sl 6 (x.expr.sub.map cGQuery)), (.b x.desc)]
def oGSource (x : GSource) : List D := [(.s (bs x.table)), (.s (bs x.as_)), (.sl 10 (x.on_.map cGExpr))]
theorem cGExpr_eq (x : GExpr) : cGExpr x = oGExpr x := by
  obtain ⟨a0, a1, a2, a3, a4, a5, a6, a7⟩ := x
  simp only [cGExpr, oGExpr, cLGExpr_eq, cLGItem_eq, cLGQuery_eq, cLGSortKey_eq, cLGSource_eq, List.cons_append, List.nil_append, cGValue]
theorem cGItem_eq (x : GItem) : cGItem x = oGItem x := by
  obtain ⟨a0, a1, a2, a3⟩ := x
  simp only [cGItem, oGItem, cLGExpr_eq, cLGItem_eq, cLGQuery_eq, cLGSortKey_eq, cLGSource_eq, cGExpr_eq, oGExpr, List.cons_append, List.nil_append]
theorem cGQuery_eq (x : GQuery) : cGQuery x = oGQuery x := by
  obtain ⟨a0, a1, a2, a3, a4, a5⟩ := x
  simp only [cGQuery, oGQuery, cLGExpr_eq, cLGItem_eq, cLGQuery_eq, cLGSortKey_eq, cLGSource_eq, List.cons_append, List.nil_append]
theorem cGSortKey_eq (x : GSortKey) : cGSortKey x = oGSortKey x := by
  obtain ⟨a0, a1⟩ := x
  simp only [cGSortKey, oGSortKey, cLGExpr_eq, cLGItem_eq, cLGQuery_eq, cLGSortKey_eq, cLGSource_eq, cGExpr_eq, oGExpr, List.cons_append, List.nil_append]
theorem cGSource_eq (x : GSource) : cGSource x = oGSource x := by
  obtain ⟨a0, a1, a2⟩ := x
  simp only [cGSource, oGSource, cLGExpr_eq, cLGItem_eq, cLGQuery_eq, cLGSortKey_eq, cLGSource_eq, List.cons_append, List.nil_append]
def vGExpr (x : GExpr) : V := .agg (oGExpr x)
def bGExpr (x : GExpr) : List V := (oGExpr x).map V.d
def vGItem (x : GItem) : V := .agg (oGItem x)
def bGItem (x : GItem) : List V := (oGItem x).map V.d
def vGQuery (x : GQuery) : V := .agg (oGQuery x)
def bGQuery (x : GQuery) : List V := (oGQuery x).map V.d
def vGSortKey (x : GSortKey) : V := .agg (oGSortKey x)
def bGSortKey (x : GSortKey) : List V := (oGSortKey x).map V.d
def vGSource (x : GSource) : V := .agg (oGSource x)
def bGSource (x : GSource) : List V := (oGSource x).map V.d
def cGForm (x : GForm) : List D := [(.b x.op), (.b x.not_), (.b x.value), (.b x.name), (.i .i64 x.least), (.i .i64 x.most), (.i .i64 x.subs)]
def vGForm (x : GForm) : V := .agg (cGForm x)
def bGForm (x : GForm) : List V := (cGForm x).map V.d
def acwFnExactQueryOk : AC := (.seq (.ops [.box 1 (.t 0), .asg 2 (kB false)]) (.seq (.ops [.asg 3 (kI 1048576)]) (.seq (.ops [.ld 7 6 true (.t 1), .mv 8 (.t 3), .call (some 9) 14 [(.t 7), (.t 8)], .asg 3 (.t 9)]) (.seq (.seq (.ops [.mv 10 (.t 3), .bin 11 .lss (.t 10) (kI 0)]) (.cond (.t 11) (.seq (.ops [.asg 2 (kB true)]) .ret) .skip)) (.seq (.ops [.ld 12 6 true (.t 1), .call (some 13) 16 [(.t 12)], .call (some 14) 40 [(.t 13)], .asg 4 (.t 14)]) (.seq (.ops [.ld 15 6 true (.t 1), .call (some 16) 16 [(.t 15)], .alc 5 [(.d (.b false)), (.nil 13), (.nil 3), (.nil 10), (.nil 11), (.d (.i .i64 0))], .st 6 (.t 5) (.t 16)]) (.seq (.ops [.ld 17 6 true (.t 5), .call (some 18) 31 [(.t 17)], .asg 6 (.t 18)]) (.seq (.seq (.ops [.mv 19 (.t 6), .mv 20 (.t 4), .eqb 21 true (.t 19) (.t 20)]) (.cond (.t 21) (.seq (.ops [.asg 2 (kB false)]) .ret) .skip)) (.seq (.seq (.dops [[], [], [1], [0, 2, 2], [3]] [.ld 22 6 true (.t 5), .ld 23 6 true (.t 1), .call (some 24) 16 [(.t 23)], .call (some 25) 18 [(.t 22), (.t 24)], .not 26 (.t 25)]) (.cond (.t 26) (.seq (.ops [.asg 2 (kB false)]) .ret) .skip)) (.seq (.ops [.asg 2 (kB true)]) .ret))))))))))
theorem trwFnExactQueryOk : trFn Try.prog 10 = some (acwFnExactQueryOk, [.mv 0 (.t 2)], 27) := by kernel_rfl
def qwFnExactQueryOk (r : Bool) : Exit → St → Prop := retQ [.mv 0 (.t 2)] fun x _ => x = (fun y => (vB y)) r
def acwToQuery : AC := (.seq (.ops [.box 1 (.t 0), .alc 2 [(.d (.b false)), (.nil 13), (.nil 3), (.nil 10), (.nil 11), (.d (.i .i64 0))]]) (.seq (.ops [.alc 3 [(.d (.b false)), (.nil 13), (.nil 3), (.nil 10), (.nil 11), (.d (.i .i64 0))]]) (.seq (.ops [.fa 4 0 (.t 1), .ld 5 1 false (.t 4), .fa 6 0 (.t 3), .st 1 (.t 6) (.t 5)]) (.seq (.ops [.fa 7 1 (.t 1), .ld 8 1 false (.t 7), .call (some 9) 61 [(.t 8)], .fa 10 1 (.t 3), .st 1 (.t 10) (.t 9)]) (.seq (.ops [.fa 11 2 (.t 1), .ld 12 1 false (.t 11), .call (some 13) 62 [(.t 12)], .fa 14 2 (.t 3), .st 1 (.t 14) (.t 13)]) (.seq (.ops [.fa 15 3 (.t 1), .ld 16 1 false (.t 15), .call (some 17) 63 [(.t 16)], .fa 18 3 (.t 3), .st 1 (.t 18) (.t 17)]) (.seq (.ops [.fa 19 4 (.t 1), .ld 20 1 false (.t 19), .call (some 21) 64 [(.t 20)], .fa 22 4 (.t 3), .st 1 (.t 22) (.t 21)]) (.seq (.ops [.fa 23 5 (.t 1), .ld 24 1 false (.t 23), .fa 25 5 (.t 3), .st 1 (.t 25) (.t 24)]) (.seq (.ops [.ld 26 6 true (.t 3), .st 6 (.t 2) (.t 26)]) .ret)))))))))
theorem trwToQuery : trFn Try.prog 16 = some (acwToQuery, [.ld 0 6 true (.t 2)], 27) := by kernel_rfl
def qwToQuery (r : GQuery) : Exit → St → Prop := retQ [.ld 0 6 true (.t 2)] fun x _ => x = (fun y => (vGQuery y)) r
def acwToSourceS_L0 : AC := (.loop (.seq (.seq (.ops [.mv 8 (.t 4), .mv 9 (.t 0), .len 10 (.t 9), .bin 11 .lss (.t 8) (.t 10)]) (.cond (.t 11) .skip (.exit 0))) (.seq (.block 1 (.ops [.mv 14 (.t 3), .mv 15 (.t 4), .mv 16 (.t 0), .mv 17 (.t 4), .ia 18 3 (.t 16) (.t 17), .ld 19 3 true (.t 18), .call (some 20) 121 [(.t 19)], .ia 21 3 (.t 14) (.t 15), .st 3 (.t 21) (.t 20)])) (.ops [.mv 12 (.t 4), .bin 13 .add (.t 12) (kI 1), .asg 4 (.t 13)]))))
def acwToSourceS : AC := (.seq (.ops [.asg 2 (.c (.nil 3))]) (.seq (.ops [.mv 5 (.t 0), .len 6 (.t 5), .mks 7 139 3 56 [(.s (bs [])), (.s (bs [])), (.sl 10 [])] (.t 6) (.t 6), .asg 3 (.t 7)]) (.seq (.seq (.ops [.asg 4 (kI 0)]) (.block 0 acwToSourceS_L0)) (.seq (.ops [.mv 22 (.t 3), .asg 2 (.t 22)]) .ret))))
theorem trwToSourceS : trFn Try.prog 62 = some (acwToSourceS, [.mv 0 (.t 2)], 23) := by kernel_rfl
def qwToSourceS (r : (List GSource)) : Exit → St → Prop := retQ [.mv 0 (.t 2)] fun x _ => x = (fun y => (.d (.sl 3 (y.map cGSource)))) r
def qwToSourceS_0 (r : (List GSource)) : Exit → St → Prop := (thenK (wkK (avc Try.prog (.seq (.ops [.mv 22 (.t 3), .asg 2 (.t 22)]) .ret) (qwToSourceS r))) (qwToSourceS r))
def qwToSourceS_1 (r : (List GSource)) : Exit → St → Prop := (blockK 0 (qwToSourceS_0 r))
def stwToSourceS_L0 (p0 : (List GSource)) (x4 : Int) (b7_0 : (List GSource)) : St := ⟨[(0, (.d (.sl 3 (p0.map cGSource)))), (3, (.msl 7 3 0 b7_0.length b7_0.length)), (4, (vI x4))], [(7, rowsV (b7_0.map cGSource))]⟩
def acwToSource : AC := (.seq (.ops [.box 1 (.t 0), .alc 2 [(.d (.s (bs []))), (.d (.s (bs []))), (.nil 10)]]) (.seq (.ops [.alc 3 [(.d (.s (bs []))), (.d (.s (bs []))), (.nil 10)]]) (.seq (.ops [.fa 4 0 (.t 1), .ld 5 1 false (.t 4), .fa 6 0 (.t 3), .st 1 (.t 6) (.t 5)]) (.seq (.ops [.fa 7 1 (.t 1), .ld 8 1 false (.t 7), .fa 9 1 (.t 3), .st 1 (.t 9) (.t 8)]) (.seq (.ops [.fa 10 2 (.t 1), .ld 11 1 false (.t 10), .call (some 12) 63 [(.t 11)], .fa 13 2 (.t 3), .st 1 (.t 13) (.t 12)]) (.seq (.ops [.ld 14 3 true (.t 3), .st 3 (.t 2) (.t 14)]) .ret))))))
theorem trwToSource : trFn Try.prog 121 = some (acwToSource, [.ld 0 3 true (.t 2)], 15) := by kernel_rfl
def qwToSource (r : GSource) : Exit → St → Prop := retQ [.ld 0 3 true (.t 2)] fun x _ => x = (fun y => (vGSource y)) r
def acwToExprS_L0 : AC := (.loop (.seq (.seq (.ops [.mv 8 (.t 4), .mv 9 (.t 0), .len 10 (.t 9), .bin 11 .lss (.t 8) (.t 10)]) (.cond (.t 11) .skip (.exit 0))) (.seq (.block 1 (.ops [.mv 14 (.t 3), .mv 15 (.t 4), .mv 16 (.t 0), .mv 17 (.t 4), .ia 18 10 (.t 16) (.t 17), .ld 19 10 true (.t 18), .call (some 20) 21 [(.t 19)], .ia 21 10 (.t 14) (.t 15), .st 10 (.t 21) (.t 20)])) (.ops [.mv 12 (.t 4), .bin 13 .add (.t 12) (kI 1), .asg 4 (.t 13)]))))
def acwToExprS : AC := (.seq (.ops [.asg 2 (.c (.nil 10))]) (.seq (.ops [.mv 5 (.t 0), .len 6 (.t 5), .mks 7 49 10 136 [(.i .i64 0), (.i .i64 0), (.b false), (.i .i64 0), (.i .i64 0), (.s (bs [])), (.s (bs [])), (.s (bs [])), (.sl 10 []), (.sl 6 [])] (.t 6) (.t 6), .asg 3 (.t 7)]) (.seq (.seq (.ops [.asg 4 (kI 0)]) (.block 0 acwToExprS_L0)) (.seq (.ops [.mv 22 (.t 3), .asg 2 (.t 22)]) .ret))))
theorem trwToExprS : trFn Try.prog 63 = some (acwToExprS, [.mv 0 (.t 2)], 23) := by kernel_rfl
def qwToExprS (r : (List GExpr)) : Exit → St → Prop := retQ [.mv 0 (.t 2)] fun x _ => x = (fun y => (.d (.sl 10 (y.map cGExpr)))) r
def qwToExprS_0 (r : (List GExpr)) : Exit → St → Prop := (thenK (wkK (avc Try.prog (.seq (.ops [.mv 22 (.t 3), .asg 2 (.t 22)]) .ret) (qwToExprS r))) (qwToExprS r))
def qwToExprS_1 (r : (List GExpr)) : Exit → St → Prop := (blockK 0 (qwToExprS_0 r))
def stwToExprS_L0 (p0 : (List GExpr)) (x4 : Int) (b7_0 : (List GExpr)) : St := ⟨[(0, (.d (.sl 10 (p0.map cGExpr)))), (3, (.msl 7 10 0 b7_0.length b7_0.length)), (4, (vI x4))], [(7, rowsV (b7_0.map cGExpr))]⟩
def acwToExpr : AC := (.seq (.ops [.box 1 (.t 0), .alc 2 [(.d (.i .i64 0)), (.d (.i .i64 0)), (.d (.b false)), (.d (.i .i64 0)), (.d (.i .i64 0)), (.d (.s (bs []))), (.d (.s (bs []))), (.d (.s (bs []))), (.nil 10), (.nil 6)]]) (.seq (.ops [.alc 3 [(.d (.i .i64 0)), (.d (.i .i64 0)), (.d (.b false)), (.d (.i .i64 0)), (.d (.i .i64 0)), (.d (.s (bs []))), (.d (.s (bs []))), (.d (.s (bs []))), (.nil 10), (.nil 6)]]) (.seq (.ops [.fa 4 0 (.t 1), .ld 5 1 false (.t 4), .fa 6 0 (.t 3), .st 1 (.t 6) (.t 5)]) (.seq (.ops [.fa 7 1 (.t 1), .ld 8 1 false (.t 7), .fa 9 1 (.t 3), .st 1 (.t 9) (.t 8)]) (.seq (.ops [.fa 10 2 (.t 1), .ld 11 1 false (.t 10), .fa 12 2 (.t 3), .st 1 (.t 12) (.t 11)]) (.seq (.ops [.fa 13 3 (.t 1), .ld 14 3 true (.t 13), .call (some 15) 73 [(.t 14)], .fa 16 3 (.t 3), .st 3 (.t 16) (.t 15)]) (.seq (.ops [.fa 17 6 (.t 1), .ld 18 1 false (.t 17), .fa 19 6 (.t 3), .st 1 (.t 19) (.t 18)]) (.seq (.ops [.fa 20 7 (.t 1), .ld 21 1 false (.t 20), .fa 22 7 (.t 3), .st 1 (.t 22) (.t 21)]) (.seq (.ops [.fa 23 8 (.t 1), .ld 24 1 false (.t 23), .call (some 25) 63 [(.t 24)], .fa 26 8 (.t 3), .st 1 (.t 26) (.t 25)]) (.seq (.ops [.fa 27 9 (.t 1), .ld 28 1 false (.t 27), .call (some 29) 74 [(.t 28)], .fa 30 9 (.t 3), .st 1 (.t 30) (.t 29)]) (.seq (.ops [.ld 31 10 true (.t 3), .st 10 (.t 2) (.t 31)]) .ret)))))))))))
theorem trwToExpr : trFn Try.prog 21 = some (acwToExpr, [.ld 0 10 true (.t 2)], 32) := by kernel_rfl
def qwToExpr (r : GExpr) : Exit → St → Prop := retQ [.ld 0 10 true (.t 2)] fun x _ => x = (fun y => (vGExpr y)) r
def acwToValue : AC := (.seq (.ops [.box 1 (.t 0), .alc 2 [(.d (.i .i64 0)), (.d (.i .i64 0)), (.d (.s (bs [])))]]) (.seq (.ops [.alc 3 [(.d (.i .i64 0)), (.d (.i .i64 0)), (.d (.s (bs [])))]]) (.seq (.ops [.fa 4 0 (.t 1), .ld 5 1 false (.t 4), .fa 6 0 (.t 3), .st 1 (.t 6) (.t 5)]) (.seq (.ops [.fa 7 1 (.t 1), .ld 8 1 false (.t 7), .fa 9 1 (.t 3), .st 1 (.t 9) (.t 8)]) (.seq (.ops [.fa 10 2 (.t 1), .ld 11 1 false (.t 10), .fa 12 2 (.t 3), .st 1 (.t 12) (.t 11)]) (.seq (.ops [.ld 13 3 true (.t 3), .st 3 (.t 2) (.t 13)]) .ret))))))
theorem trwToValue : trFn Try.prog 73 = some (acwToValue, [.ld 0 3 true (.t 2)], 14) := by kernel_rfl
def qwToValue (r : GValue) : Exit → St → Prop := retQ [.ld 0 3 true (.t 2)] fun x _ => x = (fun y => (vGValue y)) r
def acwToQueryS_L0 : AC := (.loop (.seq (.seq (.ops [.mv 8 (.t 4), .mv 9 (.t 0), .len 10 (.t 9), .bin 11 .lss (.t 8) (.t 10)]) (.cond (.t 11) .skip (.exit 0))) (.seq (.block 1 (.ops [.mv 14 (.t 3), .mv 15 (.t 4), .mv 16 (.t 0), .mv 17 (.t 4), .ia 18 6 (.t 16) (.t 17), .ld 19 6 true (.t 18), .call (some 20) 16 [(.t 19)], .ia 21 6 (.t 14) (.t 15), .st 6 (.t 21) (.t 20)])) (.ops [.mv 12 (.t 4), .bin 13 .add (.t 12) (kI 1), .asg 4 (.t 13)]))))
def acwToQueryS : AC := (.seq (.ops [.asg 2 (.c (.nil 6))]) (.seq (.ops [.mv 5 (.t 0), .len 6 (.t 5), .mks 7 35 6 112 [(.b false), (.sl 13 []), (.sl 3 []), (.sl 10 []), (.sl 11 []), (.i .i64 0)] (.t 6) (.t 6), .asg 3 (.t 7)]) (.seq (.seq (.ops [.asg 4 (kI 0)]) (.block 0 acwToQueryS_L0)) (.seq (.ops [.mv 22 (.t 3), .asg 2 (.t 22)]) .ret))))
theorem trwToQueryS : trFn Try.prog 74 = some (acwToQueryS, [.mv 0 (.t 2)], 23) := by kernel_rfl
def qwToQueryS (r : (List GQuery)) : Exit → St → Prop := retQ [.mv 0 (.t 2)] fun x _ => x = (fun y => (.d (.sl 6 (y.map cGQuery)))) r
def qwToQueryS_0 (r : (List GQuery)) : Exit → St → Prop := (thenK (wkK (avc Try.prog (.seq (.ops [.mv 22 (.t 3), .asg 2 (.t 22)]) .ret) (qwToQueryS r))) (qwToQueryS r))
def qwToQueryS_1 (r : (List GQuery)) : Exit → St → Prop := (blockK 0 (qwToQueryS_0 r))
def stwToQueryS_L0 (p0 : (List GQuery)) (x4 : Int) (b7_0 : (List GQuery)) : St := ⟨[(0, (.d (.sl 6 (p0.map cGQuery)))), (3, (.msl 7 6 0 b7_0.length b7_0.length)), (4, (vI x4))], [(7, rowsV (b7_0.map cGQuery))]⟩
def acwToItemS_L0 : AC := (.loop (.seq (.seq (.ops [.mv 8 (.t 4), .mv 9 (.t 0), .len 10 (.t 9), .bin 11 .lss (.t 8) (.t 10)]) (.cond (.t 11) .skip (.exit 0))) (.seq (.block 1 (.ops [.mv 14 (.t 3), .mv 15 (.t 4), .mv 16 (.t 0), .mv 17 (.t 4), .ia 18 13 (.t 16) (.t 17), .ld 19 13 true (.t 18), .call (some 20) 120 [(.t 19)], .ia 21 13 (.t 14) (.t 15), .st 13 (.t 21) (.t 20)])) (.ops [.mv 12 (.t 4), .bin 13 .add (.t 12) (kI 1), .asg 4 (.t 13)]))))
def acwToItemS : AC := (.seq (.ops [.asg 2 (.c (.nil 13))]) (.seq (.ops [.mv 5 (.t 0), .len 6 (.t 5), .mks 7 137 13 176 [(.b false), (.s (bs [])), (.i .i64 0), (.i .i64 0), (.b false), (.i .i64 0), (.i .i64 0), (.s (bs [])), (.s (bs [])), (.s (bs [])), (.sl 10 []), (.sl 6 []), (.s (bs []))] (.t 6) (.t 6), .asg 3 (.t 7)]) (.seq (.seq (.ops [.asg 4 (kI 0)]) (.block 0 acwToItemS_L0)) (.seq (.ops [.mv 22 (.t 3), .asg 2 (.t 22)]) .ret))))
theorem trwToItemS : trFn Try.prog 61 = some (acwToItemS, [.mv 0 (.t 2)], 23) := by kernel_rfl
def qwToItemS (r : (List GItem)) : Exit → St → Prop := retQ [.mv 0 (.t 2)] fun x _ => x = (fun y => (.d (.sl 13 (y.map cGItem)))) r
def qwToItemS_0 (r : (List GItem)) : Exit → St → Prop := (thenK (wkK (avc Try.prog (.seq (.ops [.mv 22 (.t 3), .asg 2 (.t 22)]) .ret) (qwToItemS r))) (qwToItemS r))
def qwToItemS_1 (r : (List GItem)) : Exit → St → Prop := (blockK 0 (qwToItemS_0 r))
def stwToItemS_L0 (p0 : (List GItem)) (x4 : Int) (b7_0 : (List GItem)) : St := ⟨[(0, (.d (.sl 13 (p0.map cGItem)))), (3, (.msl 7 13 0 b7_0.length b7_0.length)), (4, (vI x4))], [(7, rowsV (b7_0.map cGItem))]⟩
def acwToItem : AC := (.seq (.ops [.box 1 (.t 0), .alc 2 [(.d (.b false)), (.d (.s (bs []))), (.d (.i .i64 0)), (.d (.i .i64 0)), (.d (.b false)), (.d (.i .i64 0)), (.d (.i .i64 0)), (.d (.s (bs []))), (.d (.s (bs []))), (.d (.s (bs []))), (.nil 10), (.nil 6), (.d (.s (bs [])))]]) (.seq (.ops [.alc 3 [(.d (.b false)), (.d (.s (bs []))), (.d (.i .i64 0)), (.d (.i .i64 0)), (.d (.b false)), (.d (.i .i64 0)), (.d (.i .i64 0)), (.d (.s (bs []))), (.d (.s (bs []))), (.d (.s (bs []))), (.nil 10), (.nil 6), (.d (.s (bs [])))]]) (.seq (.ops [.fa 4 0 (.t 1), .ld 5 1 false (.t 4), .fa 6 0 (.t 3), .st 1 (.t 6) (.t 5)]) (.seq (.ops [.fa 7 1 (.t 1), .ld 8 1 false (.t 7), .fa 9 1 (.t 3), .st 1 (.t 9) (.t 8)]) (.seq (.ops [.fa 10 2 (.t 1), .ld 11 10 true (.t 10), .call (some 12) 21 [(.t 11)], .fa 13 2 (.t 3), .st 10 (.t 13) (.t 12)]) (.seq (.ops [.fa 14 12 (.t 1), .ld 15 1 false (.t 14), .fa 16 12 (.t 3), .st 1 (.t 16) (.t 15)]) (.seq (.ops [.ld 17 13 true (.t 3), .st 13 (.t 2) (.t 17)]) .ret)))))))
theorem trwToItem : trFn Try.prog 120 = some (acwToItem, [.ld 0 13 true (.t 2)], 18) := by kernel_rfl
def qwToItem (r : GItem) : Exit → St → Prop := retQ [.ld 0 13 true (.t 2)] fun x _ => x = (fun y => (vGItem y)) r
def acwToSortKeyS_L0 : AC := (.loop (.seq (.seq (.ops [.mv 8 (.t 4), .mv 9 (.t 0), .len 10 (.t 9), .bin 11 .lss (.t 8) (.t 10)]) (.cond (.t 11) .skip (.exit 0))) (.seq (.block 1 (.ops [.mv 14 (.t 3), .mv 15 (.t 4), .mv 16 (.t 0), .mv 17 (.t 4), .ia 18 11 (.t 16) (.t 17), .ld 19 11 true (.t 18), .call (some 20) 122 [(.t 19)], .ia 21 11 (.t 14) (.t 15), .st 11 (.t 21) (.t 20)])) (.ops [.mv 12 (.t 4), .bin 13 .add (.t 12) (kI 1), .asg 4 (.t 13)]))))
def acwToSortKeyS : AC := (.seq (.ops [.asg 2 (.c (.nil 11))]) (.seq (.ops [.mv 5 (.t 0), .len 6 (.t 5), .mks 7 141 11 144 [(.i .i64 0), (.i .i64 0), (.b false), (.i .i64 0), (.i .i64 0), (.s (bs [])), (.s (bs [])), (.s (bs [])), (.sl 10 []), (.sl 6 []), (.b false)] (.t 6) (.t 6), .asg 3 (.t 7)]) (.seq (.seq (.ops [.asg 4 (kI 0)]) (.block 0 acwToSortKeyS_L0)) (.seq (.ops [.mv 22 (.t 3), .asg 2 (.t 22)]) .ret))))
theorem trwToSortKeyS : trFn Try.prog 64 = some (acwToSortKeyS, [.mv 0 (.t 2)], 23) := by kernel_rfl
def qwToSortKeyS (r : (List GSortKey)) : Exit → St → Prop := retQ [.mv 0 (.t 2)] fun x _ => x = (fun y => (.d (.sl 11 (y.map cGSortKey)))) r
def qwToSortKeyS_0 (r : (List GSortKey)) : Exit → St → Prop := (thenK (wkK (avc Try.prog (.seq (.ops [.mv 22 (.t 3), .asg 2 (.t 22)]) .ret) (qwToSortKeyS r))) (qwToSortKeyS r))
def qwToSortKeyS_1 (r : (List GSortKey)) : Exit → St → Prop := (blockK 0 (qwToSortKeyS_0 r))
def stwToSortKeyS_L0 (p0 : (List GSortKey)) (x4 : Int) (b7_0 : (List GSortKey)) : St := ⟨[(0, (.d (.sl 11 (p0.map cGSortKey)))), (3, (.msl 7 11 0 b7_0.length b7_0.length)), (4, (vI x4))], [(7, rowsV (b7_0.map cGSortKey))]⟩
def acwToSortKey : AC := (.seq (.ops [.box 1 (.t 0), .alc 2 [(.d (.i .i64 0)), (.d (.i .i64 0)), (.d (.b false)), (.d (.i .i64 0)), (.d (.i .i64 0)), (.d (.s (bs []))), (.d (.s (bs []))), (.d (.s (bs []))), (.nil 10), (.nil 6), (.d (.b false))]]) (.seq (.ops [.alc 3 [(.d (.i .i64 0)), (.d (.i .i64 0)), (.d (.b false)), (.d (.i .i64 0)), (.d (.i .i64 0)), (.d (.s (bs []))), (.d (.s (bs []))), (.d (.s (bs []))), (.nil 10), (.nil 6), (.d (.b false))]]) (.seq (.ops [.fa 4 0 (.t 1), .ld 5 10 true (.t 4), .call (some 6) 21 [(.t 5)], .fa 7 0 (.t 3), .st 10 (.t 7) (.t 6)]) (.seq (.ops [.fa 8 10 (.t 1), .ld 9 1 false (.t 8), .fa 10 10 (.t 3), .st 1 (.t 10) (.t 9)]) (.seq (.ops [.ld 11 11 true (.t 3), .st 11 (.t 2) (.t 11)]) .ret)))))
theorem trwToSortKey : trFn Try.prog 122 = some (acwToSortKey, [.ld 0 11 true (.t 2)], 12) := by kernel_rfl
def qwToSortKey (r : GSortKey) : Exit → St → Prop := retQ [.ld 0 11 true (.t 2)] fun x _ => x = (fun y => (vGSortKey y)) r
def aciQueryOk : AC := (.seq (.ops [.box 1 (.t 0), .asg 2 (kB false)]) (.seq (.dops [[], [0], [], [2, 1], [1, 3, 3], [4, 4], [5], [6, 5, 5], [5, 7], [8, 7, 0, 1, 2, 3, 4, 5, 6, 7, 8]] [.ld 3 6 true (.t 1), .call (some 4) 17 [(.t 3)], .ld 5 6 true (.t 1), .call (some 6) 85 [(.t 5)], .call (some 7) 80 [(.t 4), (.t 6)], .mv 8 (.t 7), .g 8 true (.ld 9 6 true (.t 1)), .g 8 true (.call (some 10) 86 [(.t 9)]), .pick 11 (.t 8) (.t 10) (kB false), .asg 2 (.t 11)]) .ret))
theorem triQueryOk : trFn Try.prog 31 = some (aciQueryOk, [.mv 0 (.t 2)], 12) := by kernel_rfl
def qiQueryOk (r : Bool) : Exit → St → Prop := retQ [.mv 0 (.t 2)] fun x _ => x = (fun y => (vB y)) r
def aciIsFormedQuery_L0 : AC := (.loop (.seq (.ops [.bin 50 .lss (.t 49) (.t 48)]) (.seq (.cond (.t 50) .skip (.exit 0)) (.seq (.block 1 (.seq (.ops [.ia 51 13 (.t 47) (.t 49), .ld 52 13 true (.t 51), .alc 4 [(.d (.b false)), (.d (.s (bs []))), (.d (.i .i64 0)), (.d (.i .i64 0)), (.d (.b false)), (.d (.i .i64 0)), (.d (.i .i64 0)), (.d (.s (bs []))), (.d (.s (bs []))), (.d (.s (bs []))), (.nil 10), (.nil 6), (.d (.s (bs [])))], .st 13 (.t 4) (.t 52)]) (.seq (.ops [.fa 53 0 (.t 4), .ld 54 1 false (.t 53), .mv 55 (.t 54), .g 55 true (.fa 56 1 (.t 4)), .g 55 true (.ld 57 1 false (.t 56)), .g 55 true (.call (some 58) 143 [(.t 57)]), .g 55 true (.not 59 (.t 58)), .g 55 true (.mv 60 (.t 59)), .g 60 false (.fa 61 12 (.t 4)), .g 60 false (.ld 62 1 false (.t 61)), .g 60 false (.bin 63 .neq (.t 62) (.c (.d (.s (bs []))))), .g 55 true (.pick 64 (.t 60) (kB true) (.t 63)), .g 55 true (.mv 65 (.t 64)), .g 65 false (.fa 66 2 (.t 4)), .g 65 false (.ld 67 10 true (.t 66)), .g 65 false (.call (some 68) 144 [(.t 67)]), .g 65 false (.not 69 (.t 68)), .g 55 true (.pick 70 (.t 65) (kB true) (.t 69)), .pick 71 (.t 55) (.t 70) (kB false), .mv 72 (.t 71), .g 72 false (.fa 73 0 (.t 4)), .g 72 false (.ld 74 1 false (.t 73)), .g 72 false (.not 75 (.t 74)), .g 72 false (.mv 76 (.t 75)), .g 76 true (.fa 77 1 (.t 4)), .g 76 true (.ld 78 1 false (.t 77)), .g 76 true (.bin 79 .neq (.t 78) (.c (.d (.s (bs []))))), .g 76 true (.mv 80 (.t 79)), .g 80 false (.fa 81 12 (.t 4)), .g 80 false (.ld 82 1 false (.t 81)), .g 80 false (.call (some 83) 143 [(.t 82)]), .g 80 false (.not 84 (.t 83)), .g 76 true (.pick 85 (.t 80) (kB true) (.t 84)), .g 72 false (.pick 86 (.t 76) (.t 85) (kB false)), .pick 87 (.t 72) (kB true) (.t 86)]) (.cond (.t 87) (.seq (.ops [.asg 2 (kB false)]) .ret) .skip)))) (.ops [.bin 88 .add (.t 49) (kI 1), .mv 49 (.t 88)])))))
def aciIsFormedQuery_L1 : AC := (.loop (.seq (.ops [.bin 93 .lss (.t 92) (.t 91)]) (.seq (.cond (.t 93) .skip (.exit 2)) (.seq (.block 3 (.seq (.ops [.mv 94 (.t 92), .ia 95 3 (.t 90) (.t 92), .ld 96 3 true (.t 95), .alc 6 [(.d (.s (bs []))), (.d (.s (bs []))), (.nil 10)], .asg 5 (.t 94), .st 3 (.t 6) (.t 96)]) (.seq (.ops [.fa 97 0 (.t 6), .ld 98 1 false (.t 97), .call (some 99) 145 [(.t 98)], .not 100 (.t 99), .mv 101 (.t 100), .g 101 false (.fa 102 1 (.t 6)), .g 101 false (.ld 103 1 false (.t 102)), .g 101 false (.call (some 104) 143 [(.t 103)]), .g 101 false (.not 105 (.t 104)), .pick 106 (.t 101) (kB true) (.t 105), .mv 107 (.t 106), .g 107 false (.fa 108 2 (.t 6)), .g 107 false (.ld 109 1 false (.t 108)), .g 107 false (.len 110 (.t 109)), .g 107 false (.bin 111 .gtr (.t 110) (kI 1)), .pick 112 (.t 107) (kB true) (.t 111), .mv 113 (.t 112), .g 113 false (.mv 114 (.t 5)), .g 113 false (.bin 115 .eql (.t 114) (kI 0)), .g 113 false (.mv 116 (.t 115)), .g 116 true (.fa 117 2 (.t 6)), .g 116 true (.ld 118 1 false (.t 117)), .g 116 true (.len 119 (.t 118)), .g 116 true (.bin 120 .gtr (.t 119) (kI 0)), .g 113 false (.pick 121 (.t 116) (.t 120) (kB false)), .pick 122 (.t 113) (kB true) (.t 121)]) (.cond (.t 122) (.seq (.ops [.asg 2 (kB false)]) .ret) .skip)))) (.ops [.bin 123 .add (.t 92) (kI 1), .mv 92 (.t 123)])))))
def aciIsFormedQuery : AC := (.seq (.ops [.box 1 (.t 0), .asg 2 (kB false)]) (.seq (.seq (.ops [.fa 7 1 (.t 1), .ld 8 1 false (.t 7), .len 9 (.t 8), .bin 10 .lss (.t 9) (kI 1), .mv 11 (.t 10), .g 11 false (.fa 12 1 (.t 1)), .g 11 false (.ld 13 1 false (.t 12)), .g 11 false (.len 14 (.t 13)), .g 11 false (.bin 15 .gtr (.t 14) (kI 12)), .pick 16 (.t 11) (kB true) (.t 15), .mv 17 (.t 16), .g 17 false (.fa 18 2 (.t 1)), .g 17 false (.ld 19 1 false (.t 18)), .g 17 false (.len 20 (.t 19)), .g 17 false (.bin 21 .lss (.t 20) (kI 1)), .pick 22 (.t 17) (kB true) (.t 21), .mv 23 (.t 22), .g 23 false (.fa 24 2 (.t 1)), .g 23 false (.ld 25 1 false (.t 24)), .g 23 false (.len 26 (.t 25)), .g 23 false (.bin 27 .gtr (.t 26) (kI 3)), .pick 28 (.t 23) (kB true) (.t 27), .mv 29 (.t 28), .g 29 false (.fa 30 3 (.t 1)), .g 29 false (.ld 31 1 false (.t 30)), .g 29 false (.len 32 (.t 31)), .g 29 false (.bin 33 .gtr (.t 32) (kI 1)), .pick 34 (.t 29) (kB true) (.t 33), .mv 35 (.t 34), .g 35 false (.fa 36 4 (.t 1)), .g 35 false (.ld 37 1 false (.t 36)), .g 35 false (.len 38 (.t 37)), .g 35 false (.bin 39 .gtr (.t 38) (kI 12)), .pick 40 (.t 35) (kB true) (.t 39), .mv 41 (.t 40), .g 41 false (.fa 42 5 (.t 1)), .g 41 false (.ld 43 1 false (.t 42)), .g 41 false (.bin 44 .lss (.t 43) (kI (-1))), .pick 45 (.t 41) (kB true) (.t 44)]) (.cond (.t 45) (.seq (.ops [.asg 2 (kB false)]) .ret) .skip)) (.seq (.seq (.ops [.fa 46 1 (.t 1), .ld 47 1 false (.t 46), .len 48 (.t 47), .mv 49 (kI 0)]) (.block 0 aciIsFormedQuery_L0)) (.seq (.seq (.ops [.fa 89 2 (.t 1), .ld 90 1 false (.t 89), .len 91 (.t 90), .mv 92 (kI 0)]) (.block 2 aciIsFormedQuery_L1)) (.seq (.ops [.ld 124 6 true (.t 1), .call (some 125) 66 [(.t 124)], .call (some 126) 139 [(.t 125)], .asg 2 (.t 126)]) .ret)))))
theorem triIsFormedQuery : trFn Try.prog 86 = some (aciIsFormedQuery, [.mv 0 (.t 2)], 127) := by kernel_rfl
def qiIsFormedQuery (r : Bool) : Exit → St → Prop := retQ [.mv 0 (.t 2)] fun x _ => x = (fun y => (vB y)) r
def qiIsFormedQuery_0 (r : Bool) : Exit → St → Prop := (thenK (wkK (avc Try.prog (.seq (.seq (.ops [.fa 89 2 (.t 1), .ld 90 1 false (.t 89), .len 91 (.t 90), .mv 92 (.c (.d (.i .i64 0)))]) (.block 2 aciIsFormedQuery_L1)) (.seq (.ops [.ld 124 6 true (.t 1), .call (some 125) 66 [(.t 124)], .call (some 126) 139 [(.t 125)], .asg 2 (.t 126)]) .ret)) (qiIsFormedQuery r))) (qiIsFormedQuery r))
def qiIsFormedQuery_1 (r : Bool) : Exit → St → Prop := (blockK 0 (qiIsFormedQuery_0 r))
def qiIsFormedQuery_2 (r : Bool) : Exit → St → Prop := (thenK (wkK (avc Try.prog (.seq (.ops [.ld 124 6 true (.t 1), .call (some 125) 66 [(.t 124)], .call (some 126) 139 [(.t 125)], .asg 2 (.t 126)]) .ret) (qiIsFormedQuery r))) (qiIsFormedQuery r))
def qiIsFormedQuery_3 (r : Bool) : Exit → St → Prop := (blockK 2 (qiIsFormedQuery_2 r))
def stiIsFormedQuery_L0 (p0 : GQuery) (x49 : Int) : St := ⟨[(1, (.ptr 1 0)), (47, (.d (.sl 13 (p0.items.map cGItem)))), (48, (vI (p0.items.length : Int))), (49, (vI x49))], [(1, bGQuery p0)]⟩
def stiIsFormedQuery_L1 (p0 : GQuery) (x92 : Int) : St := ⟨[(1, (.ptr 1 0)), (90, (.d (.sl 3 (p0.from_.map cGSource)))), (91, (vI (p0.from_.length : Int))), (92, (vI x92))], [(1, bGQuery p0)]⟩
def aciIsAs : AC := (.seq (.ops [.asg 2 (kB false)]) (.seq (.ops [.mv 3 (.t 0), .bin 4 .eql (.t 3) (.c (.d (.s (bs [])))), .mv 5 (.t 4), .g 5 false (.mv 6 (.t 0)), .g 5 false (.call (some 7) 145 [(.t 6)]), .pick 8 (.t 5) (kB true) (.t 7), .asg 2 (.t 8)]) .ret))
theorem triIsAs : trFn Try.prog 143 = some (aciIsAs, [.mv 0 (.t 2)], 9) := by kernel_rfl
def qiIsAs (r : Bool) : Exit → St → Prop := retQ [.mv 0 (.t 2)] fun x _ => x = (fun y => (vB y)) r
def aciNameOk : AC := (.seq (.ops [.asg 2 (kB false)]) (.seq (.ops [.mv 3 (.t 0), .lns 4 (.t 3), .bin 5 .geq (.t 4) (kI 1), .mv 6 (.t 5), .g 6 true (.mv 7 (.t 0)), .g 6 true (.lns 8 (.t 7)), .g 6 true (.bin 9 .leq (.t 8) (kI 20)), .pick 10 (.t 6) (.t 9) (kB false), .asg 2 (.t 10)]) .ret))
theorem triNameOk : trFn Try.prog 145 = some (aciNameOk, [.mv 0 (.t 2)], 11) := by kernel_rfl
def qiNameOk (r : Bool) : Exit → St → Prop := retQ [.mv 0 (.t 2)] fun x _ => x = (fun y => (vB y)) r
def aciAreFormed : AC := (.seq (.ops [.asg 2 (kB false)]) (.seq (.ops [.mv 3 (.t 0), .call (some 4) 185 [(.t 3), (.c (.fn 186 []))], .not 5 (.t 4), .asg 2 (.t 5)]) .ret))
theorem triAreFormed : trFn Try.prog 139 = some (aciAreFormed, [.mv 0 (.t 2)], 6) := by kernel_rfl
def qiAreFormed (r : Bool) : Exit → St → Prop := retQ [.mv 0 (.t 2)] fun x _ => x = (fun y => (vB y)) r
def acgSlices_ContainsFunc_Simpl_Expr_impl_Expr_iAreFormed_1 : AC := (.seq (.ops [.asg 4 (kB false)]) (.seq (.ops [.mv 5 (.t 0), .mv 6 (.t 1), .call (some 7) 210 [(.t 5), (.t 6)], .bin 8 .geq (.t 7) (kI 0), .asg 4 (.t 8)]) .ret))
theorem trgSlices_ContainsFunc_Simpl_Expr_impl_Expr_iAreFormed_1 : trFn Try.prog 185 = some (acgSlices_ContainsFunc_Simpl_Expr_impl_Expr_iAreFormed_1, [.mv 0 (.t 4)], 9) := by kernel_rfl
def qgSlices_ContainsFunc_Simpl_Expr_impl_Expr_iAreFormed_1 (r : Bool) : Exit → St → Prop := retQ [.mv 0 (.t 4)] fun x _ => x = (fun y => (vB y)) r
def acgSlices_IndexFunc_Simpl_Expr_impl_Expr_iAreFormed_1_L0 : AC := (.loop (.seq (.ops [.bin 9 .lss (.t 8) (.t 7)]) (.seq (.cond (.t 9) .skip (.exit 0)) (.seq (.block 1 (.seq (.ops [.mv 10 (.t 8), .asg 5 (.t 10)]) (.seq (.ops [.mv 11 (.t 1), .mv 12 (.t 0), .mv 13 (.t 5), .ia 14 10 (.t 12) (.t 13), .ld 15 10 true (.t 14), .callv (some 16) (.t 11) [(.t 15)]]) (.cond (.t 16) (.seq (.ops [.mv 17 (.t 5), .asg 4 (.t 17)]) .ret) .skip)))) (.ops [.bin 18 .add (.t 8) (kI 1), .mv 8 (.t 18)])))))
def acgSlices_IndexFunc_Simpl_Expr_impl_Expr_iAreFormed_1 : AC := (.seq (.ops [.asg 4 (kI 0)]) (.seq (.seq (.ops [.mv 6 (.t 0), .len 7 (.t 6), .mv 8 (kI 0)]) (.block 0 acgSlices_IndexFunc_Simpl_Expr_impl_Expr_iAreFormed_1_L0)) (.seq (.ops [.asg 4 (kI (-1))]) .ret)))
theorem trgSlices_IndexFunc_Simpl_Expr_impl_Expr_iAreFormed_1 : trFn Try.prog 210 = some (acgSlices_IndexFunc_Simpl_Expr_impl_Expr_iAreFormed_1, [.mv 0 (.t 4)], 19) := by kernel_rfl
def qgSlices_IndexFunc_Simpl_Expr_impl_Expr_iAreFormed_1 (r : Int) : Exit → St → Prop := retQ [.mv 0 (.t 4)] fun x _ => x = (fun y => (vI y)) r
def qgSlices_IndexFunc_Simpl_Expr_impl_Expr_iAreFormed_1_0 (r : Int) : Exit → St → Prop := (thenK (wkK (avc Try.prog (.seq (.ops [.asg 4 (.c (.d (.i .i64 (-1))))]) .ret) (qgSlices_IndexFunc_Simpl_Expr_impl_Expr_iAreFormed_1 r))) (qgSlices_IndexFunc_Simpl_Expr_impl_Expr_iAreFormed_1 r))
def qgSlices_IndexFunc_Simpl_Expr_impl_Expr_iAreFormed_1_1 (r : Int) : Exit → St → Prop := (blockK 0 (qgSlices_IndexFunc_Simpl_Expr_impl_Expr_iAreFormed_1_0 r))
def stgSlices_IndexFunc_Simpl_Expr_impl_Expr_iAreFormed_1_L0 (p0 : (List GExpr)) (x8 : Int) : St := ⟨[(0, (.d (.sl 10 (p0.map cGExpr)))), (1, (.fn 186 [])), (7, (vI (p0.length : Int))), (8, (vI x8))], []⟩
def aciAreFormed_1 : AC := (.seq (.ops [.box 1 (.t 0), .asg 2 (kB false)]) (.seq (.ops [.ld 3 10 true (.t 1), .call (some 4) 82 [(.t 3)], .not 5 (.t 4), .asg 2 (.t 5)]) .ret))
theorem triAreFormed_1 : trFn Try.prog 186 = some (aciAreFormed_1, [.mv 0 (.t 2)], 6) := by kernel_rfl
def qiAreFormed_1 (r : Bool) : Exit → St → Prop := retQ [.mv 0 (.t 2)] fun x _ => x = (fun y => (vB y)) r
def aciIsFormed : AC := (.seq (.ops [.box 1 (.t 0), .asg 2 (kB false)]) (.seq (.ops [.ld 6 10 true (.t 1), .call (some 7) 138 [(.t 6)], .mv 5 (.t 7), .ext 8 (.t 5) 0, .ext 9 (.t 5) 1, .alc 3 [(.d (.b false)), (.d (.b false)), (.d (.b false)), (.d (.b false)), (.d (.i .i64 0)), (.d (.i .i64 0)), (.d (.i .i64 0))], .st 7 (.t 3) (.t 8), .asg 4 (.t 9)]) (.seq (.seq (.ops [.mv 10 (.t 4), .not 11 (.t 10), .mv 12 (.t 11), .g 12 false (.fa 13 0 (.t 3)), .g 12 false (.ld 14 1 false (.t 13)), .g 12 false (.not 15 (.t 14)), .g 12 false (.mv 16 (.t 15)), .g 16 true (.fa 17 1 (.t 1)), .g 16 true (.ld 18 1 false (.t 17)), .g 16 true (.bin 19 .neq (.t 18) (kI 0)), .g 12 false (.pick 20 (.t 16) (.t 19) (kB false)), .pick 21 (.t 12) (kB true) (.t 20), .mv 22 (.t 21), .g 22 false (.fa 23 1 (.t 3)), .g 22 false (.ld 24 1 false (.t 23)), .g 22 false (.not 25 (.t 24)), .g 22 false (.mv 26 (.t 25)), .g 26 true (.fa 27 2 (.t 1)), .g 26 true (.ld 28 1 false (.t 27)), .g 22 false (.pick 29 (.t 26) (.t 28) (kB false)), .pick 30 (.t 22) (kB true) (.t 29), .mv 31 (.t 30), .g 31 false (.fa 32 2 (.t 3)), .g 31 false (.ld 33 1 false (.t 32)), .g 31 false (.not 34 (.t 33)), .g 31 false (.mv 35 (.t 34)), .g 35 true (.fa 36 3 (.t 1)), .g 35 true (.ld 37 3 true (.t 36)), .g 35 true (.bld 38 [(.d (.i .i64 0)), (.d (.i .i64 0)), (.d (.s (bs [])))] []), .g 35 true (.eqv 39 true [0, 0, 1] (.t 37) (.t 38)), .g 31 false (.pick 40 (.t 35) (.t 39) (kB false)), .pick 41 (.t 31) (kB true) (.t 40), .mv 42 (.t 41), .g 42 false (.fa 43 3 (.t 3)), .g 42 false (.ld 44 1 false (.t 43)), .g 42 false (.not 45 (.t 44)), .g 42 false (.mv 46 (.t 45)), .g 46 true (.fa 47 6 (.t 1)), .g 46 true (.ld 48 1 false (.t 47)), .g 46 true (.bin 49 .neq (.t 48) (.c (.d (.s (bs []))))), .g 46 true (.mv 50 (.t 49)), .g 50 false (.fa 51 7 (.t 1)), .g 50 false (.ld 52 1 false (.t 51)), .g 50 false (.bin 53 .neq (.t 52) (.c (.d (.s (bs []))))), .g 46 true (.pick 54 (.t 50) (kB true) (.t 53)), .g 42 false (.pick 55 (.t 46) (.t 54) (kB false)), .pick 56 (.t 42) (kB true) (.t 55)]) (.cond (.t 56) (.seq (.ops [.asg 2 (kB false)]) .ret) .skip)) (.seq (.seq (.ops [.fa 57 8 (.t 1), .ld 58 1 false (.t 57), .len 59 (.t 58), .fa 60 4 (.t 3), .ld 61 1 false (.t 60), .bin 62 .lss (.t 59) (.t 61), .mv 63 (.t 62), .g 63 false (.fa 64 8 (.t 1)), .g 63 false (.ld 65 1 false (.t 64)), .g 63 false (.len 66 (.t 65)), .g 63 false (.fa 67 5 (.t 3)), .g 63 false (.ld 68 1 false (.t 67)), .g 63 false (.bin 69 .gtr (.t 66) (.t 68)), .pick 70 (.t 63) (kB true) (.t 69), .mv 71 (.t 70), .g 71 false (.fa 72 9 (.t 1)), .g 71 false (.ld 73 1 false (.t 72)), .g 71 false (.len 74 (.t 73)), .g 71 false (.fa 75 6 (.t 3)), .g 71 false (.ld 76 1 false (.t 75)), .g 71 false (.bin 77 .neq (.t 74) (.t 76)), .pick 78 (.t 71) (kB true) (.t 77)]) (.cond (.t 78) (.seq (.ops [.asg 2 (kB false)]) .ret) .skip)) (.seq (.ops [.fa 79 8 (.t 1), .ld 80 1 false (.t 79), .call (some 81) 139 [(.t 80)], .mv 82 (.t 81), .g 82 true (.fa 83 9 (.t 1)), .g 82 true (.ld 84 1 false (.t 83)), .g 82 true (.call (some 85) 140 [(.t 84), (.c (.fn 141 []))]), .g 82 true (.not 86 (.t 85)), .pick 87 (.t 82) (.t 86) (kB false), .asg 2 (.t 87)]) .ret)))))
theorem triIsFormed : trFn Try.prog 82 = some (aciIsFormed, [.mv 0 (.t 2)], 88) := by kernel_rfl
def qiIsFormed (r : Bool) : Exit → St → Prop := retQ [.mv 0 (.t 2)] fun x _ => x = (fun y => (vB y)) r
def acgSlices_ContainsFunc_Simpl_Query_impl_Query_iIsFormed_1 : AC := (.seq (.ops [.asg 4 (kB false)]) (.seq (.ops [.mv 5 (.t 0), .mv 6 (.t 1), .call (some 7) 187 [(.t 5), (.t 6)], .bin 8 .geq (.t 7) (kI 0), .asg 4 (.t 8)]) .ret))
theorem trgSlices_ContainsFunc_Simpl_Query_impl_Query_iIsFormed_1 : trFn Try.prog 140 = some (acgSlices_ContainsFunc_Simpl_Query_impl_Query_iIsFormed_1, [.mv 0 (.t 4)], 9) := by kernel_rfl
def qgSlices_ContainsFunc_Simpl_Query_impl_Query_iIsFormed_1 (r : Bool) : Exit → St → Prop := retQ [.mv 0 (.t 4)] fun x _ => x = (fun y => (vB y)) r
def acgSlices_IndexFunc_Simpl_Query_impl_Query_iIsFormed_1_L0 : AC := (.loop (.seq (.ops [.bin 9 .lss (.t 8) (.t 7)]) (.seq (.cond (.t 9) .skip (.exit 0)) (.seq (.block 1 (.seq (.ops [.mv 10 (.t 8), .asg 5 (.t 10)]) (.seq (.ops [.mv 11 (.t 1), .mv 12 (.t 0), .mv 13 (.t 5), .ia 14 6 (.t 12) (.t 13), .ld 15 6 true (.t 14), .callv (some 16) (.t 11) [(.t 15)]]) (.cond (.t 16) (.seq (.ops [.mv 17 (.t 5), .asg 4 (.t 17)]) .ret) .skip)))) (.ops [.bin 18 .add (.t 8) (kI 1), .mv 8 (.t 18)])))))
def acgSlices_IndexFunc_Simpl_Query_impl_Query_iIsFormed_1 : AC := (.seq (.ops [.asg 4 (kI 0)]) (.seq (.seq (.ops [.mv 6 (.t 0), .len 7 (.t 6), .mv 8 (kI 0)]) (.block 0 acgSlices_IndexFunc_Simpl_Query_impl_Query_iIsFormed_1_L0)) (.seq (.ops [.asg 4 (kI (-1))]) .ret)))
theorem trgSlices_IndexFunc_Simpl_Query_impl_Query_iIsFormed_1 : trFn Try.prog 187 = some (acgSlices_IndexFunc_Simpl_Query_impl_Query_iIsFormed_1, [.mv 0 (.t 4)], 19) := by kernel_rfl
def qgSlices_IndexFunc_Simpl_Query_impl_Query_iIsFormed_1 (r : Int) : Exit → St → Prop := retQ [.mv 0 (.t 4)] fun x _ => x = (fun y => (vI y)) r
def qgSlices_IndexFunc_Simpl_Query_impl_Query_iIsFormed_1_0 (r : Int) : Exit → St → Prop := (thenK (wkK (avc Try.prog (.seq (.ops [.asg 4 (.c (.d (.i .i64 (-1))))]) .ret) (qgSlices_IndexFunc_Simpl_Query_impl_Query_iIsFormed_1 r))) (qgSlices_IndexFunc_Simpl_Query_impl_Query_iIsFormed_1 r))
def qgSlices_IndexFunc_Simpl_Query_impl_Query_iIsFormed_1_1 (r : Int) : Exit → St → Prop := (blockK 0 (qgSlices_IndexFunc_Simpl_Query_impl_Query_iIsFormed_1_0 r))
def stgSlices_IndexFunc_Simpl_Query_impl_Query_iIsFormed_1_L0 (p0 : (List GQuery)) (x8 : Int) : St := ⟨[(0, (.d (.sl 6 (p0.map cGQuery)))), (1, (.fn 141 [])), (7, (vI (p0.length : Int))), (8, (vI x8))], []⟩
def aciIsFormed_1 : AC := (.seq (.ops [.box 1 (.t 0), .asg 2 (kB false)]) (.seq (.ops [.ld 3 6 true (.t 1), .call (some 4) 86 [(.t 3)], .not 5 (.t 4), .asg 2 (.t 5)]) .ret))
theorem triIsFormed_1 : trFn Try.prog 141 = some (aciIsFormed_1, [.mv 0 (.t 2)], 6) := by kernel_rfl
def qiIsFormed_1 (r : Bool) : Exit → St → Prop := retQ [.mv 0 (.t 2)] fun x _ => x = (fun y => (vB y)) r
def aciFormOf : AC := (.seq (.ops [.box 1 (.t 0), .alc 2 [(.d (.b false)), (.d (.b false)), (.d (.b false)), (.d (.b false)), (.d (.i .i64 0)), (.d (.i .i64 0)), (.d (.i .i64 0))], .asg 3 (kB false)]) (.seq (.seq (.ops [.fa 4 0 (.t 1), .ld 5 1 false (.t 4)]) (.block 0 (.seq (.ops [.bin 7 .eql (.t 5) (kI 1), .asg 6 (.t 7)]) (.cond (.t 6) (.seq (.ops [.bld 8 [(.d (.b false)), (.d (.b false)), (.d (.b false)), (.d (.b false)), (.d (.i .i64 0)), (.d (.i .i64 0)), (.d (.i .i64 0))] [(2, 1, (kB true))], .fa 9 3 (.t 1), .ld 10 3 true (.t 9), .call (some 11) 184 [(.t 10)], .st 7 (.t 2) (.t 8), .asg 3 (.t 11)]) .ret) (.seq (.ops [.bin 13 .eql (.t 5) (kI 2), .asg 12 (.t 13)]) (.cond (.t 12) (.seq (.ops [.bld 14 [(.d (.b false)), (.d (.b false)), (.d (.b false)), (.d (.b false)), (.d (.i .i64 0)), (.d (.i .i64 0)), (.d (.i .i64 0))] [(3, 1, (kB true))], .fa 15 7 (.t 1), .ld 16 1 false (.t 15), .call (some 17) 145 [(.t 16)], .mv 18 (.t 17), .g 18 true (.fa 19 6 (.t 1)), .g 18 true (.ld 20 1 false (.t 19)), .g 18 true (.bin 21 .eql (.t 20) (.c (.d (.s (bs []))))), .g 18 true (.mv 22 (.t 21)), .g 22 false (.fa 23 6 (.t 1)), .g 22 false (.ld 24 1 false (.t 23)), .g 22 false (.call (some 25) 145 [(.t 24)]), .g 18 true (.pick 26 (.t 22) (kB true) (.t 25)), .pick 27 (.t 18) (.t 26) (kB false), .st 7 (.t 2) (.t 14), .asg 3 (.t 27)]) .ret) (.seq (.ops [.bin 29 .eql (.t 5) (kI 3), .asg 28 (.t 29)]) (.cond (.t 28) (.seq (.dops [[], [], [1], [2], [3], [4], [5, 4], [6, 4], [4, 7], [0, 4, 0], [8, 9, 0, 1, 2, 3, 4, 5, 6, 7, 8, 9]] [.bld 30 [(.d (.b false)), (.d (.b false)), (.d (.b false)), (.d (.b false)), (.d (.i .i64 0)), (.d (.i .i64 0)), (.d (.i .i64 0))] [(0, 1, (kB true)), (4, 1, (kI 1)), (5, 1, (kI 1))], .fa 31 1 (.t 1), .ld 32 1 false (.t 31), .bin 33 .eql (.t 32) (kI 15), .mv 34 (.t 33), .g 34 false (.fa 35 1 (.t 1)), .g 34 false (.ld 36 1 false (.t 35)), .g 34 false (.bin 37 .eql (.t 36) (kI 16)), .pick 38 (.t 34) (kB true) (.t 37), .st 7 (.t 2) (.t 30), .asg 3 (.t 38)]) .ret) (.seq (.ops [.bin 40 .eql (.t 5) (kI 4), .asg 39 (.t 40)]) (.cond (.t 39) (.seq (.dops [[], [], [1], [2], [3], [4], [5, 4], [6, 4], [4, 7], [0, 4, 0], [8, 9, 0, 1, 2, 3, 4, 5, 6, 7, 8, 9]] [.bld 41 [(.d (.b false)), (.d (.b false)), (.d (.b false)), (.d (.b false)), (.d (.i .i64 0)), (.d (.i .i64 0)), (.d (.i .i64 0))] [(0, 1, (kB true)), (4, 1, (kI 2)), (5, 1, (kI 2))], .fa 42 1 (.t 1), .ld 43 1 false (.t 42), .bin 44 .geq (.t 43) (kI 1), .mv 45 (.t 44), .g 45 true (.fa 46 1 (.t 1)), .g 45 true (.ld 47 1 false (.t 46)), .g 45 true (.bin 48 .leq (.t 47) (kI 14)), .pick 49 (.t 45) (.t 48) (kB false), .st 7 (.t 2) (.t 41), .asg 3 (.t 49)]) .ret) (.seq (.ops [.bin 51 .eql (.t 5) (kI 5), .asg 50 (.t 51)]) (.cond (.t 50) (.seq (.ops [.bld 52 [(.d (.b false)), (.d (.b false)), (.d (.b false)), (.d (.b false)), (.d (.i .i64 0)), (.d (.i .i64 0)), (.d (.i .i64 0))] [(1, 1, (kB true)), (4, 1, (kI 1)), (5, 1, (kI 1))], .st 7 (.t 2) (.t 52), .asg 3 (kB true)]) .ret) (.seq (.ops [.bin 54 .eql (.t 5) (kI 6), .asg 53 (.t 54)]) (.cond (.t 53) (.seq (.ops [.bld 55 [(.d (.b false)), (.d (.b false)), (.d (.b false)), (.d (.b false)), (.d (.i .i64 0)), (.d (.i .i64 0)), (.d (.i .i64 0))] [(1, 1, (kB true)), (4, 1, (kI 3)), (5, 1, (kI 3))], .st 7 (.t 2) (.t 55), .asg 3 (kB true)]) .ret) (.seq (.ops [.bin 57 .eql (.t 5) (kI 7), .asg 56 (.t 57)]) (.cond (.t 56) (.seq (.ops [.bld 58 [(.d (.b false)), (.d (.b false)), (.d (.b false)), (.d (.b false)), (.d (.i .i64 0)), (.d (.i .i64 0)), (.d (.i .i64 0))] [(1, 1, (kB true)), (4, 1, (kI 2)), (5, 1, (kI 9))], .st 7 (.t 2) (.t 58), .asg 3 (kB true)]) .ret) (.seq (.ops [.bin 60 .eql (.t 5) (kI 8), .asg 59 (.t 60)]) (.cond (.t 59) (.seq (.ops [.bld 61 [(.d (.b false)), (.d (.b false)), (.d (.b false)), (.d (.b false)), (.d (.i .i64 0)), (.d (.i .i64 0)), (.d (.i .i64 0))] [(1, 1, (kB true)), (4, 1, (kI 1)), (5, 1, (kI 1)), (6, 1, (kI 1))], .st 7 (.t 2) (.t 61), .asg 3 (kB true)]) .ret) (.seq (.ops [.bin 63 .eql (.t 5) (kI 9), .asg 62 (.t 63)]) (.cond (.t 62) (.seq (.ops [.bld 64 [(.d (.b false)), (.d (.b false)), (.d (.b false)), (.d (.b false)), (.d (.i .i64 0)), (.d (.i .i64 0)), (.d (.i .i64 0))] [(6, 1, (kI 1))], .st 7 (.t 2) (.t 64), .asg 3 (kB true)]) .ret) .skip)))))))))))))))))))) (.seq (.ops [.bld 65 [(.d (.b false)), (.d (.b false)), (.d (.b false)), (.d (.b false)), (.d (.i .i64 0)), (.d (.i .i64 0)), (.d (.i .i64 0))] [], .st 7 (.t 2) (.t 65), .asg 3 (kB false)]) .ret)))
theorem triFormOf : trFn Try.prog 138 = some (aciFormOf, [.ld 0 7 true (.t 2), .mv 0 (.t 3)], 66) := by kernel_rfl
def qiFormOf (r : GForm × Bool) : Exit → St → Prop := retQ [.ld 0 7 true (.t 2), .mv 0 (.t 3)] fun x _ => x = (fun y => (.tup [(vGForm y.1), (vB y.2)])) r
def aciIsLit : AC := (.seq (.ops [.box 1 (.t 0), .asg 2 (kB false)]) (.seq (.ops [.ld 3 3 true (.t 1), .call (some 4) 209 [(.t 3)], .mv 5 (.t 4), .g 5 true (.fa 6 0 (.t 1)), .g 5 true (.ld 7 1 false (.t 6)), .g 5 true (.bin 8 .neq (.t 7) (kI 1)), .g 5 true (.mv 9 (.t 8)), .g 9 false (.fa 10 1 (.t 1)), .g 9 false (.ld 11 1 false (.t 10)), .g 9 false (.bin 12 .geq (.t 11) (kI 0)), .g 5 true (.pick 13 (.t 9) (kB true) (.t 12)), .pick 14 (.t 5) (.t 13) (kB false), .mv 15 (.t 14), .g 15 true (.fa 16 2 (.t 1)), .g 15 true (.ld 17 1 false (.t 16)), .g 15 true (.lns 18 (.t 17)), .g 15 true (.bin 19 .leq (.t 18) (kI 40)), .pick 20 (.t 15) (.t 19) (kB false), .asg 2 (.t 20)]) .ret))
theorem triIsLit : trFn Try.prog 184 = some (aciIsLit, [.mv 0 (.t 2)], 21) := by kernel_rfl
def qiIsLit (r : Bool) : Exit → St → Prop := retQ [.mv 0 (.t 2)] fun x _ => x = (fun y => (vB y)) r
def aciValueOk : AC := (.seq (.ops [.box 1 (.t 0), .asg 2 (kB false)]) (.seq (.seq (.ops [.fa 3 0 (.t 1), .ld 4 1 false (.t 3)]) (.block 0 (.seq (.ops [.bin 6 .eql (.t 4) (kI 0), .asg 5 (.t 6)]) (.cond (.t 5) (.seq (.ops [.fa 7 1 (.t 1), .ld 8 1 false (.t 7), .bin 9 .eql (.t 8) (kI 0), .mv 10 (.t 9), .g 10 true (.fa 11 2 (.t 1)), .g 10 true (.ld 12 1 false (.t 11)), .g 10 true (.bin 13 .eql (.t 12) (.c (.d (.s (bs []))))), .pick 14 (.t 10) (.t 13) (kB false), .asg 2 (.t 14)]) .ret) (.seq (.ops [.bin 16 .eql (.t 4) (kI 1), .asg 15 (.t 16)]) (.cond (.t 15) (.seq (.ops [.fa 17 2 (.t 1), .ld 18 1 false (.t 17), .bin 19 .eql (.t 18) (.c (.d (.s (bs [])))), .asg 2 (.t 19)]) .ret) (.seq (.ops [.bin 21 .eql (.t 4) (kI 2), .asg 20 (.t 21)]) (.cond (.t 20) (.seq (.ops [.fa 22 1 (.t 1), .ld 23 1 false (.t 22), .bin 24 .eql (.t 23) (kI 0), .mv 25 (.t 24), .g 25 true (.fa 26 2 (.t 1)), .g 25 true (.ld 27 1 false (.t 26)), .g 25 true (.lns 28 (.t 27)), .g 25 true (.bin 29 .leq (.t 28) (kI 200)), .pick 30 (.t 25) (.t 29) (kB false), .asg 2 (.t 30)]) .ret) (.seq (.ops [.bin 32 .eql (.t 4) (kI 3), .asg 31 (.t 32)]) (.cond (.t 31) (.seq (.ops [.fa 33 1 (.t 1), .ld 34 1 false (.t 33), .bin 35 .eql (.t 34) (kI 0), .mv 36 (.t 35), .g 36 false (.fa 37 1 (.t 1)), .g 36 false (.ld 38 1 false (.t 37)), .g 36 false (.bin 39 .eql (.t 38) (kI 1)), .pick 40 (.t 36) (kB true) (.t 39), .mv 41 (.t 40), .g 41 true (.fa 42 2 (.t 1)), .g 41 true (.ld 43 1 false (.t 42)), .g 41 true (.bin 44 .eql (.t 43) (.c (.d (.s (bs []))))), .pick 45 (.t 41) (.t 44) (kB false), .asg 2 (.t 45)]) .ret) .skip)))))))))) (.seq (.ops [.asg 2 (kB false)]) .ret)))
theorem triValueOk : trFn Try.prog 209 = some (aciValueOk, [.mv 0 (.t 2)], 46) := by kernel_rfl
def qiValueOk (r : Bool) : Exit → St → Prop := retQ [.mv 0 (.t 2)] fun x _ => x = (fun y => (vB y)) r
def aciIsZero : AC := (.seq (.ops [.box 1 (.t 0), .asg 2 (kB false)]) (.seq (.ops [.ld 3 10 true (.t 1), .bld 4 [(.d (.i .i64 0)), (.d (.i .i64 0)), (.d (.b false)), (.d (.i .i64 0)), (.d (.i .i64 0)), (.d (.s (bs []))), (.d (.s (bs []))), (.d (.s (bs []))), (.nil 10), (.nil 6)] [], .call (some 5) 32 [(.t 3), (.t 4)], .asg 2 (.t 5)]) .ret))
theorem triIsZero : trFn Try.prog 144 = some (aciIsZero, [.mv 0 (.t 2)], 6) := by kernel_rfl
def qiIsZero (r : Bool) : Exit → St → Prop := retQ [.mv 0 (.t 2)] fun x _ => x = (fun y => (vB y)) r
def aciSameExpr : AC := (.seq (.ops [.box 2 (.t 0), .box 3 (.t 1), .asg 4 (kB false)]) (.seq (.ops [.fa 5 0 (.t 2), .ld 6 1 false (.t 5), .fa 7 0 (.t 3), .ld 8 1 false (.t 7), .bin 9 .eql (.t 6) (.t 8), .mv 10 (.t 9), .g 10 true (.fa 11 1 (.t 2)), .g 10 true (.ld 12 1 false (.t 11)), .g 10 true (.fa 13 1 (.t 3)), .g 10 true (.ld 14 1 false (.t 13)), .g 10 true (.bin 15 .eql (.t 12) (.t 14)), .pick 16 (.t 10) (.t 15) (kB false), .mv 17 (.t 16), .g 17 true (.fa 18 2 (.t 2)), .g 17 true (.ld 19 1 false (.t 18)), .g 17 true (.fa 20 2 (.t 3)), .g 17 true (.ld 21 1 false (.t 20)), .g 17 true (.eqb 22 false (.t 19) (.t 21)), .pick 23 (.t 17) (.t 22) (kB false), .mv 24 (.t 23), .g 24 true (.fa 25 3 (.t 2)), .g 24 true (.ld 26 3 true (.t 25)), .g 24 true (.fa 27 3 (.t 3)), .g 24 true (.ld 28 3 true (.t 27)), .g 24 true (.eqv 29 false [0, 0, 1] (.t 26) (.t 28)), .pick 30 (.t 24) (.t 29) (kB false), .mv 31 (.t 30), .g 31 true (.fa 32 6 (.t 2)), .g 31 true (.ld 33 1 false (.t 32)), .g 31 true (.fa 34 6 (.t 3)), .g 31 true (.ld 35 1 false (.t 34)), .g 31 true (.bin 36 .eql (.t 33) (.t 35)), .pick 37 (.t 31) (.t 36) (kB false), .mv 38 (.t 37), .g 38 true (.fa 39 7 (.t 2)), .g 38 true (.ld 40 1 false (.t 39)), .g 38 true (.fa 41 7 (.t 3)), .g 38 true (.ld 42 1 false (.t 41)), .g 38 true (.bin 43 .eql (.t 40) (.t 42)), .pick 44 (.t 38) (.t 43) (kB false), .mv 45 (.t 44), .g 45 true (.fa 46 8 (.t 2)), .g 45 true (.ld 47 1 false (.t 46)), .g 45 true (.fa 48 8 (.t 3)), .g 45 true (.ld 49 1 false (.t 48)), .g 45 true (.call (some 50) 87 [(.t 47), (.t 49)]), .pick 51 (.t 45) (.t 50) (kB false), .mv 52 (.t 51), .g 52 true (.fa 53 9 (.t 2)), .g 52 true (.ld 54 1 false (.t 53)), .g 52 true (.fa 55 9 (.t 3)), .g 52 true (.ld 56 1 false (.t 55)), .g 52 true (.call (some 57) 88 [(.t 54), (.t 56), (.c (.fn 89 []))]), .pick 58 (.t 52) (.t 57) (kB false), .asg 4 (.t 58)]) .ret))
theorem triSameExpr : trFn Try.prog 32 = some (aciSameExpr, [.mv 0 (.t 4)], 59) := by kernel_rfl
def qiSameExpr (r : Bool) : Exit → St → Prop := retQ [.mv 0 (.t 4)] fun x _ => x = (fun y => (vB y)) r
def acgSlices_EqualFunc_Simpl_Query_Simpl_Query_impl_Query_impl_Query_iSameQuery_L0 : AC := (.loop (.seq (.ops [.bin 18 .lss (.t 17) (.t 16)]) (.seq (.cond (.t 18) .skip (.exit 0)) (.seq (.block 1 (.seq (.ops [.mv 19 (.t 17), .ia 20 6 (.t 15) (.t 17), .ld 21 6 true (.t 20), .alc 8 [(.d (.b false)), (.nil 13), (.nil 3), (.nil 10), (.nil 11), (.d (.i .i64 0))], .asg 7 (.t 19), .st 6 (.t 8) (.t 21)]) (.seq (.ops [.mv 22 (.t 1), .mv 23 (.t 7), .ia 24 6 (.t 22) (.t 23), .ld 25 6 true (.t 24), .alc 9 [(.d (.b false)), (.nil 13), (.nil 3), (.nil 10), (.nil 11), (.d (.i .i64 0))], .st 6 (.t 9) (.t 25)]) (.seq (.ops [.mv 26 (.t 2), .ld 27 6 true (.t 8), .ld 28 6 true (.t 9), .callv (some 29) (.t 26) [(.t 27), (.t 28)], .not 30 (.t 29)]) (.cond (.t 30) (.seq (.ops [.asg 6 (kB false)]) .ret) .skip))))) (.ops [.bin 31 .add (.t 17) (kI 1), .mv 17 (.t 31)])))))
def acgSlices_EqualFunc_Simpl_Query_Simpl_Query_impl_Query_impl_Query_iSameQuery : AC := (.seq (.ops [.asg 6 (kB false)]) (.seq (.seq (.ops [.mv 10 (.t 0), .len 11 (.t 10), .mv 12 (.t 1), .len 13 (.t 12), .bin 14 .neq (.t 11) (.t 13)]) (.cond (.t 14) (.seq (.ops [.asg 6 (kB false)]) .ret) .skip)) (.seq (.seq (.ops [.mv 15 (.t 0), .len 16 (.t 15), .mv 17 (kI 0)]) (.block 0 acgSlices_EqualFunc_Simpl_Query_Simpl_Query_impl_Query_impl_Query_iSameQuery_L0)) (.seq (.ops [.asg 6 (kB true)]) .ret))))
theorem trgSlices_EqualFunc_Simpl_Query_Simpl_Query_impl_Query_impl_Query_iSameQuery : trFn Try.prog 88 = some (acgSlices_EqualFunc_Simpl_Query_Simpl_Query_impl_Query_impl_Query_iSameQuery, [.mv 0 (.t 6)], 32) := by kernel_rfl
def qgSlices_EqualFunc_Simpl_Query_Simpl_Query_impl_Query_impl_Query_iSameQuery (r : Bool) : Exit → St → Prop := retQ [.mv 0 (.t 6)] fun x _ => x = (fun y => (vB y)) r
def qgSlices_EqualFunc_Simpl_Query_Simpl_Query_impl_Query_impl_Query_iSameQuery_0 (r : Bool) : Exit → St → Prop := (thenK (wkK (avc Try.prog (.seq (.ops [.asg 6 (.c (.d (.b true)))]) .ret) (qgSlices_EqualFunc_Simpl_Query_Simpl_Query_impl_Query_impl_Query_iSameQuery r))) (qgSlices_EqualFunc_Simpl_Query_Simpl_Query_impl_Query_impl_Query_iSameQuery r))
def qgSlices_EqualFunc_Simpl_Query_Simpl_Query_impl_Query_impl_Query_iSameQuery_1 (r : Bool) : Exit → St → Prop := (blockK 0 (qgSlices_EqualFunc_Simpl_Query_Simpl_Query_impl_Query_impl_Query_iSameQuery_0 r))
def stgSlices_EqualFunc_Simpl_Query_Simpl_Query_impl_Query_impl_Query_iSameQuery_L0 (p1 : (List GQuery)) (p0 : (List GQuery)) (x17 : Int) : St := ⟨[(1, (.d (.sl 6 (p1.map cGQuery)))), (2, (.fn 89 [])), (15, (.d (.sl 6 (p0.map cGQuery)))), (16, (vI (p0.length : Int))), (17, (vI x17))], []⟩
def aciSameQuery : AC := (.seq (.ops [.box 2 (.t 0), .box 3 (.t 1), .asg 4 (kB false)]) (.seq (.ops [.asg 5 (.c (.fn 147 []))]) (.seq (.ops [.asg 6 (.c (.fn 148 []))]) (.seq (.ops [.asg 7 (.c (.fn 149 []))]) (.seq (.ops [.fa 8 0 (.t 2), .ld 9 1 false (.t 8), .fa 10 0 (.t 3), .ld 11 1 false (.t 10), .eqb 12 false (.t 9) (.t 11), .mv 13 (.t 12), .g 13 true (.fa 14 5 (.t 2)), .g 13 true (.ld 15 1 false (.t 14)), .g 13 true (.fa 16 5 (.t 3)), .g 13 true (.ld 17 1 false (.t 16)), .g 13 true (.bin 18 .eql (.t 15) (.t 17)), .pick 19 (.t 13) (.t 18) (kB false), .mv 20 (.t 19), .g 20 true (.fa 21 1 (.t 2)), .g 20 true (.ld 22 1 false (.t 21)), .g 20 true (.fa 23 1 (.t 3)), .g 20 true (.ld 24 1 false (.t 23)), .g 20 true (.mv 25 (.t 5)), .g 20 true (.call (some 26) 150 [(.t 22), (.t 24), (.t 25)]), .pick 27 (.t 20) (.t 26) (kB false), .mv 28 (.t 27), .g 28 true (.fa 29 2 (.t 2)), .g 28 true (.ld 30 1 false (.t 29)), .g 28 true (.fa 31 2 (.t 3)), .g 28 true (.ld 32 1 false (.t 31)), .g 28 true (.mv 33 (.t 6)), .g 28 true (.call (some 34) 151 [(.t 30), (.t 32), (.t 33)]), .pick 35 (.t 28) (.t 34) (kB false), .mv 36 (.t 35), .g 36 true (.fa 37 3 (.t 2)), .g 36 true (.ld 38 1 false (.t 37)), .g 36 true (.fa 39 3 (.t 3)), .g 36 true (.ld 40 1 false (.t 39)), .g 36 true (.call (some 41) 87 [(.t 38), (.t 40)]), .pick 42 (.t 36) (.t 41) (kB false), .mv 43 (.t 42), .g 43 true (.fa 44 4 (.t 2)), .g 43 true (.ld 45 1 false (.t 44)), .g 43 true (.fa 46 4 (.t 3)), .g 43 true (.ld 47 1 false (.t 46)), .g 43 true (.mv 48 (.t 7)), .g 43 true (.call (some 49) 152 [(.t 45), (.t 47), (.t 48)]), .pick 50 (.t 43) (.t 49) (kB false), .asg 4 (.t 50)]) .ret)))))
theorem triSameQuery : trFn Try.prog 89 = some (aciSameQuery, [.mv 0 (.t 4)], 51) := by kernel_rfl
def qiSameQuery (r : Bool) : Exit → St → Prop := retQ [.mv 0 (.t 4)] fun x _ => x = (fun y => (vB y)) r
def acgSlices_EqualFunc_Simpl_SortKey_Simpl_SortKey_impl_SortKey_impl_SortKey_iSameQuery_3_L0 : AC := (.loop (.seq (.ops [.bin 18 .lss (.t 17) (.t 16)]) (.seq (.cond (.t 18) .skip (.exit 0)) (.seq (.block 1 (.seq (.ops [.mv 19 (.t 17), .ia 20 11 (.t 15) (.t 17), .ld 21 11 true (.t 20), .alc 8 [(.d (.i .i64 0)), (.d (.i .i64 0)), (.d (.b false)), (.d (.i .i64 0)), (.d (.i .i64 0)), (.d (.s (bs []))), (.d (.s (bs []))), (.d (.s (bs []))), (.nil 10), (.nil 6), (.d (.b false))], .asg 7 (.t 19), .st 11 (.t 8) (.t 21)]) (.seq (.ops [.mv 22 (.t 1), .mv 23 (.t 7), .ia 24 11 (.t 22) (.t 23), .ld 25 11 true (.t 24), .alc 9 [(.d (.i .i64 0)), (.d (.i .i64 0)), (.d (.b false)), (.d (.i .i64 0)), (.d (.i .i64 0)), (.d (.s (bs []))), (.d (.s (bs []))), (.d (.s (bs []))), (.nil 10), (.nil 6), (.d (.b false))], .st 11 (.t 9) (.t 25)]) (.seq (.ops [.mv 26 (.t 2), .ld 27 11 true (.t 8), .ld 28 11 true (.t 9), .callv (some 29) (.t 26) [(.t 27), (.t 28)], .not 30 (.t 29)]) (.cond (.t 30) (.seq (.ops [.asg 6 (kB false)]) .ret) .skip))))) (.ops [.bin 31 .add (.t 17) (kI 1), .mv 17 (.t 31)])))))
def acgSlices_EqualFunc_Simpl_SortKey_Simpl_SortKey_impl_SortKey_impl_SortKey_iSameQuery_3 : AC := (.seq (.ops [.asg 6 (kB false)]) (.seq (.seq (.ops [.mv 10 (.t 0), .len 11 (.t 10), .mv 12 (.t 1), .len 13 (.t 12), .bin 14 .neq (.t 11) (.t 13)]) (.cond (.t 14) (.seq (.ops [.asg 6 (kB false)]) .ret) .skip)) (.seq (.seq (.ops [.mv 15 (.t 0), .len 16 (.t 15), .mv 17 (kI 0)]) (.block 0 acgSlices_EqualFunc_Simpl_SortKey_Simpl_SortKey_impl_SortKey_impl_SortKey_iSameQuery_3_L0)) (.seq (.ops [.asg 6 (kB true)]) .ret))))
theorem trgSlices_EqualFunc_Simpl_SortKey_Simpl_SortKey_impl_SortKey_impl_SortKey_iSameQuery_3 : trFn Try.prog 152 = some (acgSlices_EqualFunc_Simpl_SortKey_Simpl_SortKey_impl_SortKey_impl_SortKey_iSameQuery_3, [.mv 0 (.t 6)], 32) := by kernel_rfl
def qgSlices_EqualFunc_Simpl_SortKey_Simpl_SortKey_impl_SortKey_impl_SortKey_iSameQuery_3 (r : Bool) : Exit → St → Prop := retQ [.mv 0 (.t 6)] fun x _ => x = (fun y => (vB y)) r
def qgSlices_EqualFunc_Simpl_SortKey_Simpl_SortKey_impl_SortKey_impl_SortKey_iSameQuery_3_0 (r : Bool) : Exit → St → Prop := (thenK (wkK (avc Try.prog (.seq (.ops [.asg 6 (.c (.d (.b true)))]) .ret) (qgSlices_EqualFunc_Simpl_SortKey_Simpl_SortKey_impl_SortKey_impl_SortKey_iSameQuery_3 r))) (qgSlices_EqualFunc_Simpl_SortKey_Simpl_SortKey_impl_SortKey_impl_SortKey_iSameQuery_3 r))
def qgSlices_EqualFunc_Simpl_SortKey_Simpl_SortKey_impl_SortKey_impl_SortKey_iSameQuery_3_1 (r : Bool) : Exit → St → Prop := (blockK 0 (qgSlices_EqualFunc_Simpl_SortKey_Simpl_SortKey_impl_SortKey_impl_SortKey_iSameQuery_3_0 r))
def stgSlices_EqualFunc_Simpl_SortKey_Simpl_SortKey_impl_SortKey_impl_SortKey_iSameQuery_3_L0 (p1 : (List GSortKey)) (p0 : (List GSortKey)) (x17 : Int) : St := ⟨[(1, (.d (.sl 11 (p1.map cGSortKey)))), (2, (.fn 149 [])), (15, (.d (.sl 11 (p0.map cGSortKey)))), (16, (vI (p0.length : Int))), (17, (vI x17))], []⟩
def aciSameQuery_3 : AC := (.seq (.ops [.box 2 (.t 0), .box 3 (.t 1), .asg 4 (kB false)]) (.seq (.ops [.fa 5 10 (.t 2), .ld 6 1 false (.t 5), .fa 7 10 (.t 3), .ld 8 1 false (.t 7), .eqb 9 false (.t 6) (.t 8), .mv 10 (.t 9), .g 10 true (.fa 11 0 (.t 2)), .g 10 true (.ld 12 10 true (.t 11)), .g 10 true (.fa 13 0 (.t 3)), .g 10 true (.ld 14 10 true (.t 13)), .g 10 true (.call (some 15) 32 [(.t 12), (.t 14)]), .pick 16 (.t 10) (.t 15) (kB false), .asg 4 (.t 16)]) .ret))
theorem triSameQuery_3 : trFn Try.prog 149 = some (aciSameQuery_3, [.mv 0 (.t 4)], 17) := by kernel_rfl
def qiSameQuery_3 (r : Bool) : Exit → St → Prop := retQ [.mv 0 (.t 4)] fun x _ => x = (fun y => (vB y)) r
def acgSlices_EqualFunc_Simpl_Source_Simpl_Source_impl_Source_impl_Source_iSameQuery_2_L0 : AC := (.loop (.seq (.ops [.bin 18 .lss (.t 17) (.t 16)]) (.seq (.cond (.t 18) .skip (.exit 0)) (.seq (.block 1 (.seq (.ops [.mv 19 (.t 17), .ia 20 3 (.t 15) (.t 17), .ld 21 3 true (.t 20), .alc 8 [(.d (.s (bs []))), (.d (.s (bs []))), (.nil 10)], .asg 7 (.t 19), .st 3 (.t 8) (.t 21)]) (.seq (.ops [.mv 22 (.t 1), .mv 23 (.t 7), .ia 24 3 (.t 22) (.t 23), .ld 25 3 true (.t 24), .alc 9 [(.d (.s (bs []))), (.d (.s (bs []))), (.nil 10)], .st 3 (.t 9) (.t 25)]) (.seq (.ops [.mv 26 (.t 2), .ld 27 3 true (.t 8), .ld 28 3 true (.t 9), .callv (some 29) (.t 26) [(.t 27), (.t 28)], .not 30 (.t 29)]) (.cond (.t 30) (.seq (.ops [.asg 6 (kB false)]) .ret) .skip))))) (.ops [.bin 31 .add (.t 17) (kI 1), .mv 17 (.t 31)])))))
def acgSlices_EqualFunc_Simpl_Source_Simpl_Source_impl_Source_impl_Source_iSameQuery_2 : AC := (.seq (.ops [.asg 6 (kB false)]) (.seq (.seq (.ops [.mv 10 (.t 0), .len 11 (.t 10), .mv 12 (.t 1), .len 13 (.t 12), .bin 14 .neq (.t 11) (.t 13)]) (.cond (.t 14) (.seq (.ops [.asg 6 (kB false)]) .ret) .skip)) (.seq (.seq (.ops [.mv 15 (.t 0), .len 16 (.t 15), .mv 17 (kI 0)]) (.block 0 acgSlices_EqualFunc_Simpl_Source_Simpl_Source_impl_Source_impl_Source_iSameQuery_2_L0)) (.seq (.ops [.asg 6 (kB true)]) .ret))))
theorem trgSlices_EqualFunc_Simpl_Source_Simpl_Source_impl_Source_impl_Source_iSameQuery_2 : trFn Try.prog 151 = some (acgSlices_EqualFunc_Simpl_Source_Simpl_Source_impl_Source_impl_Source_iSameQuery_2, [.mv 0 (.t 6)], 32) := by kernel_rfl
def qgSlices_EqualFunc_Simpl_Source_Simpl_Source_impl_Source_impl_Source_iSameQuery_2 (r : Bool) : Exit → St → Prop := retQ [.mv 0 (.t 6)] fun x _ => x = (fun y => (vB y)) r
def qgSlices_EqualFunc_Simpl_Source_Simpl_Source_impl_Source_impl_Source_iSameQuery_2_0 (r : Bool) : Exit → St → Prop := (thenK (wkK (avc Try.prog (.seq (.ops [.asg 6 (.c (.d (.b true)))]) .ret) (qgSlices_EqualFunc_Simpl_Source_Simpl_Source_impl_Source_impl_Source_iSameQuery_2 r))) (qgSlices_EqualFunc_Simpl_Source_Simpl_Source_impl_Source_impl_Source_iSameQuery_2 r))
def qgSlices_EqualFunc_Simpl_Source_Simpl_Source_impl_Source_impl_Source_iSameQuery_2_1 (r : Bool) : Exit → St → Prop := (blockK 0 (qgSlices_EqualFunc_Simpl_Source_Simpl_Source_impl_Source_impl_Source_iSameQuery_2_0 r))
def stgSlices_EqualFunc_Simpl_Source_Simpl_Source_impl_Source_impl_Source_iSameQuery_2_L0 (p1 : (List GSource)) (p0 : (List GSource)) (x17 : Int) : St := ⟨[(1, (.d (.sl 3 (p1.map cGSource)))), (2, (.fn 148 [])), (15, (.d (.sl 3 (p0.map cGSource)))), (16, (vI (p0.length : Int))), (17, (vI x17))], []⟩
def aciSameQuery_2 : AC := (.seq (.ops [.box 2 (.t 0), .box 3 (.t 1), .asg 4 (kB false)]) (.seq (.ops [.fa 5 0 (.t 2), .ld 6 1 false (.t 5), .fa 7 0 (.t 3), .ld 8 1 false (.t 7), .bin 9 .eql (.t 6) (.t 8), .mv 10 (.t 9), .g 10 true (.fa 11 1 (.t 2)), .g 10 true (.ld 12 1 false (.t 11)), .g 10 true (.fa 13 1 (.t 3)), .g 10 true (.ld 14 1 false (.t 13)), .g 10 true (.bin 15 .eql (.t 12) (.t 14)), .pick 16 (.t 10) (.t 15) (kB false), .mv 17 (.t 16), .g 17 true (.fa 18 2 (.t 2)), .g 17 true (.ld 19 1 false (.t 18)), .g 17 true (.fa 20 2 (.t 3)), .g 17 true (.ld 21 1 false (.t 20)), .g 17 true (.call (some 22) 87 [(.t 19), (.t 21)]), .pick 23 (.t 17) (.t 22) (kB false), .asg 4 (.t 23)]) .ret))
theorem triSameQuery_2 : trFn Try.prog 148 = some (aciSameQuery_2, [.mv 0 (.t 4)], 24) := by kernel_rfl
def qiSameQuery_2 (r : Bool) : Exit → St → Prop := retQ [.mv 0 (.t 4)] fun x _ => x = (fun y => (vB y)) r
def aciSameExprs : AC := (.seq (.ops [.asg 4 (kB false)]) (.seq (.ops [.mv 5 (.t 0), .mv 6 (.t 1), .call (some 7) 146 [(.t 5), (.t 6), (.c (.fn 32 []))], .asg 4 (.t 7)]) .ret))
theorem triSameExprs : trFn Try.prog 87 = some (aciSameExprs, [.mv 0 (.t 4)], 8) := by kernel_rfl
def qiSameExprs (r : Bool) : Exit → St → Prop := retQ [.mv 0 (.t 4)] fun x _ => x = (fun y => (vB y)) r
def acgSlices_EqualFunc_Simpl_Expr_Simpl_Expr_impl_Expr_impl_Expr_iSameExpr_L0 : AC := (.loop (.seq (.ops [.bin 18 .lss (.t 17) (.t 16)]) (.seq (.cond (.t 18) .skip (.exit 0)) (.seq (.block 1 (.seq (.ops [.mv 19 (.t 17), .ia 20 10 (.t 15) (.t 17), .ld 21 10 true (.t 20), .alc 8 [(.d (.i .i64 0)), (.d (.i .i64 0)), (.d (.b false)), (.d (.i .i64 0)), (.d (.i .i64 0)), (.d (.s (bs []))), (.d (.s (bs []))), (.d (.s (bs []))), (.nil 10), (.nil 6)], .asg 7 (.t 19), .st 10 (.t 8) (.t 21)]) (.seq (.ops [.mv 22 (.t 1), .mv 23 (.t 7), .ia 24 10 (.t 22) (.t 23), .ld 25 10 true (.t 24), .alc 9 [(.d (.i .i64 0)), (.d (.i .i64 0)), (.d (.b false)), (.d (.i .i64 0)), (.d (.i .i64 0)), (.d (.s (bs []))), (.d (.s (bs []))), (.d (.s (bs []))), (.nil 10), (.nil 6)], .st 10 (.t 9) (.t 25)]) (.seq (.ops [.mv 26 (.t 2), .ld 27 10 true (.t 8), .ld 28 10 true (.t 9), .callv (some 29) (.t 26) [(.t 27), (.t 28)], .not 30 (.t 29)]) (.cond (.t 30) (.seq (.ops [.asg 6 (kB false)]) .ret) .skip))))) (.ops [.bin 31 .add (.t 17) (kI 1), .mv 17 (.t 31)])))))
def acgSlices_EqualFunc_Simpl_Expr_Simpl_Expr_impl_Expr_impl_Expr_iSameExpr : AC := (.seq (.ops [.asg 6 (kB false)]) (.seq (.seq (.ops [.mv 10 (.t 0), .len 11 (.t 10), .mv 12 (.t 1), .len 13 (.t 12), .bin 14 .neq (.t 11) (.t 13)]) (.cond (.t 14) (.seq (.ops [.asg 6 (kB false)]) .ret) .skip)) (.seq (.seq (.ops [.mv 15 (.t 0), .len 16 (.t 15), .mv 17 (kI 0)]) (.block 0 acgSlices_EqualFunc_Simpl_Expr_Simpl_Expr_impl_Expr_impl_Expr_iSameExpr_L0)) (.seq (.ops [.asg 6 (kB true)]) .ret))))
theorem trgSlices_EqualFunc_Simpl_Expr_Simpl_Expr_impl_Expr_impl_Expr_iSameExpr : trFn Try.prog 146 = some (acgSlices_EqualFunc_Simpl_Expr_Simpl_Expr_impl_Expr_impl_Expr_iSameExpr, [.mv 0 (.t 6)], 32) := by kernel_rfl
def qgSlices_EqualFunc_Simpl_Expr_Simpl_Expr_impl_Expr_impl_Expr_iSameExpr (r : Bool) : Exit → St → Prop := retQ [.mv 0 (.t 6)] fun x _ => x = (fun y => (vB y)) r
def qgSlices_EqualFunc_Simpl_Expr_Simpl_Expr_impl_Expr_impl_Expr_iSameExpr_0 (r : Bool) : Exit → St → Prop := (thenK (wkK (avc Try.prog (.seq (.ops [.asg 6 (.c (.d (.b true)))]) .ret) (qgSlices_EqualFunc_Simpl_Expr_Simpl_Expr_impl_Expr_impl_Expr_iSameExpr r))) (qgSlices_EqualFunc_Simpl_Expr_Simpl_Expr_impl_Expr_impl_Expr_iSameExpr r))
def qgSlices_EqualFunc_Simpl_Expr_Simpl_Expr_impl_Expr_impl_Expr_iSameExpr_1 (r : Bool) : Exit → St → Prop := (blockK 0 (qgSlices_EqualFunc_Simpl_Expr_Simpl_Expr_impl_Expr_impl_Expr_iSameExpr_0 r))
def stgSlices_EqualFunc_Simpl_Expr_Simpl_Expr_impl_Expr_impl_Expr_iSameExpr_L0 (p1 : (List GExpr)) (p0 : (List GExpr)) (x17 : Int) : St := ⟨[(1, (.d (.sl 10 (p1.map cGExpr)))), (2, (.fn 32 [])), (15, (.d (.sl 10 (p0.map cGExpr)))), (16, (vI (p0.length : Int))), (17, (vI x17))], []⟩
def acgSlices_EqualFunc_Simpl_Item_Simpl_Item_impl_Item_impl_Item_iSameQuery_1_L0 : AC := (.loop (.seq (.ops [.bin 18 .lss (.t 17) (.t 16)]) (.seq (.cond (.t 18) .skip (.exit 0)) (.seq (.block 1 (.seq (.ops [.mv 19 (.t 17), .ia 20 13 (.t 15) (.t 17), .ld 21 13 true (.t 20), .alc 8 [(.d (.b false)), (.d (.s (bs []))), (.d (.i .i64 0)), (.d (.i .i64 0)), (.d (.b false)), (.d (.i .i64 0)), (.d (.i .i64 0)), (.d (.s (bs []))), (.d (.s (bs []))), (.d (.s (bs []))), (.nil 10), (.nil 6), (.d (.s (bs [])))], .asg 7 (.t 19), .st 13 (.t 8) (.t 21)]) (.seq (.ops [.mv 22 (.t 1), .mv 23 (.t 7), .ia 24 13 (.t 22) (.t 23), .ld 25 13 true (.t 24), .alc 9 [(.d (.b false)), (.d (.s (bs []))), (.d (.i .i64 0)), (.d (.i .i64 0)), (.d (.b false)), (.d (.i .i64 0)), (.d (.i .i64 0)), (.d (.s (bs []))), (.d (.s (bs []))), (.d (.s (bs []))), (.nil 10), (.nil 6), (.d (.s (bs [])))], .st 13 (.t 9) (.t 25)]) (.seq (.ops [.mv 26 (.t 2), .ld 27 13 true (.t 8), .ld 28 13 true (.t 9), .callv (some 29) (.t 26) [(.t 27), (.t 28)], .not 30 (.t 29)]) (.cond (.t 30) (.seq (.ops [.asg 6 (kB false)]) .ret) .skip))))) (.ops [.bin 31 .add (.t 17) (kI 1), .mv 17 (.t 31)])))))
def acgSlices_EqualFunc_Simpl_Item_Simpl_Item_impl_Item_impl_Item_iSameQuery_1 : AC := (.seq (.ops [.asg 6 (kB false)]) (.seq (.seq (.ops [.mv 10 (.t 0), .len 11 (.t 10), .mv 12 (.t 1), .len 13 (.t 12), .bin 14 .neq (.t 11) (.t 13)]) (.cond (.t 14) (.seq (.ops [.asg 6 (kB false)]) .ret) .skip)) (.seq (.seq (.ops [.mv 15 (.t 0), .len 16 (.t 15), .mv 17 (kI 0)]) (.block 0 acgSlices_EqualFunc_Simpl_Item_Simpl_Item_impl_Item_impl_Item_iSameQuery_1_L0)) (.seq (.ops [.asg 6 (kB true)]) .ret))))
theorem trgSlices_EqualFunc_Simpl_Item_Simpl_Item_impl_Item_impl_Item_iSameQuery_1 : trFn Try.prog 150 = some (acgSlices_EqualFunc_Simpl_Item_Simpl_Item_impl_Item_impl_Item_iSameQuery_1, [.mv 0 (.t 6)], 32) := by kernel_rfl
def qgSlices_EqualFunc_Simpl_Item_Simpl_Item_impl_Item_impl_Item_iSameQuery_1 (r : Bool) : Exit → St → Prop := retQ [.mv 0 (.t 6)] fun x _ => x = (fun y => (vB y)) r
def qgSlices_EqualFunc_Simpl_Item_Simpl_Item_impl_Item_impl_Item_iSameQuery_1_0 (r : Bool) : Exit → St → Prop := (thenK (wkK (avc Try.prog (.seq (.ops [.asg 6 (.c (.d (.b true)))]) .ret) (qgSlices_EqualFunc_Simpl_Item_Simpl_Item_impl_Item_impl_Item_iSameQuery_1 r))) (qgSlices_EqualFunc_Simpl_Item_Simpl_Item_impl_Item_impl_Item_iSameQuery_1 r))
def qgSlices_EqualFunc_Simpl_Item_Simpl_Item_impl_Item_impl_Item_iSameQuery_1_1 (r : Bool) : Exit → St → Prop := (blockK 0 (qgSlices_EqualFunc_Simpl_Item_Simpl_Item_impl_Item_impl_Item_iSameQuery_1_0 r))
def stgSlices_EqualFunc_Simpl_Item_Simpl_Item_impl_Item_impl_Item_iSameQuery_1_L0 (p1 : (List GItem)) (p0 : (List GItem)) (x17 : Int) : St := ⟨[(1, (.d (.sl 13 (p1.map cGItem)))), (2, (.fn 147 [])), (15, (.d (.sl 13 (p0.map cGItem)))), (16, (vI (p0.length : Int))), (17, (vI x17))], []⟩
def aciSameQuery_1 : AC := (.seq (.ops [.box 2 (.t 0), .box 3 (.t 1), .asg 4 (kB false)]) (.seq (.ops [.fa 5 0 (.t 2), .ld 6 1 false (.t 5), .fa 7 0 (.t 3), .ld 8 1 false (.t 7), .eqb 9 false (.t 6) (.t 8), .mv 10 (.t 9), .g 10 true (.fa 11 1 (.t 2)), .g 10 true (.ld 12 1 false (.t 11)), .g 10 true (.fa 13 1 (.t 3)), .g 10 true (.ld 14 1 false (.t 13)), .g 10 true (.bin 15 .eql (.t 12) (.t 14)), .pick 16 (.t 10) (.t 15) (kB false), .mv 17 (.t 16), .g 17 true (.fa 18 12 (.t 2)), .g 17 true (.ld 19 1 false (.t 18)), .g 17 true (.fa 20 12 (.t 3)), .g 17 true (.ld 21 1 false (.t 20)), .g 17 true (.bin 22 .eql (.t 19) (.t 21)), .pick 23 (.t 17) (.t 22) (kB false), .mv 24 (.t 23), .g 24 true (.fa 25 2 (.t 2)), .g 24 true (.ld 26 10 true (.t 25)), .g 24 true (.fa 27 2 (.t 3)), .g 24 true (.ld 28 10 true (.t 27)), .g 24 true (.call (some 29) 32 [(.t 26), (.t 28)]), .pick 30 (.t 24) (.t 29) (kB false), .asg 4 (.t 30)]) .ret))
theorem triSameQuery_1 : trFn Try.prog 147 = some (aciSameQuery_1, [.mv 0 (.t 4)], 31) := by kernel_rfl
def qiSameQuery_1 (r : Bool) : Exit → St → Prop := retQ [.mv 0 (.t 4)] fun x _ => x = (fun y => (vB y)) r
def aciQuery_exprs_J1 : AC := (.ops [.bin 26 .add (.t 14) (kI 1), .mv 14 (.t 26)])
def aciQuery_exprs_L0 : AC := (.loop (.seq (.ops [.bin 15 .lss (.t 14) (.t 13)]) (.seq (.cond (.t 15) .skip (.exit 0)) (.seq (.block 1 (.seq (.ops [.ia 16 13 (.t 12) (.t 14), .ld 17 13 true (.t 16), .alc 5 [(.d (.b false)), (.d (.s (bs []))), (.d (.i .i64 0)), (.d (.i .i64 0)), (.d (.b false)), (.d (.i .i64 0)), (.d (.i .i64 0)), (.d (.s (bs []))), (.d (.s (bs []))), (.d (.s (bs []))), (.nil 10), (.nil 6), (.d (.s (bs [])))], .st 13 (.t 5) (.t 17)]) (.seq (.ops [.fa 18 0 (.t 5), .ld 19 1 false (.t 18), .not 20 (.t 19)]) (.cond (.t 20) (.ops [.mv 21 (.t 3), .fa 22 2 (.t 5), .ld 23 10 true (.t 22), .bsl 24 49 10 [(.t 23)], .app 25 49 10 136 (.t 21) (.t 24), .asg 3 (.t 25)]) .skip)))) aciQuery_exprs_J1))))
def aciQuery_exprs_L2 : AC := (.loop (.seq (.ops [.bin 31 .lss (.t 30) (.t 29)]) (.seq (.cond (.t 31) .skip (.exit 2)) (.seq (.block 3 (.seq (.ops [.ia 32 3 (.t 28) (.t 30), .ld 33 3 true (.t 32), .alc 7 [(.d (.s (bs []))), (.d (.s (bs []))), (.nil 10)], .st 3 (.t 7) (.t 33)]) (.ops [.mv 34 (.t 3), .fa 35 2 (.t 7), .ld 36 1 false (.t 35), .app 37 49 10 136 (.t 34) (.t 36), .asg 3 (.t 37)]))) (.ops [.bin 38 .add (.t 30) (kI 1), .mv 30 (.t 38)])))))
def aciQuery_exprs_L3 : AC := (.loop (.seq (.ops [.bin 47 .lss (.t 46) (.t 45)]) (.seq (.cond (.t 47) .skip (.exit 4)) (.seq (.block 5 (.seq (.ops [.ia 48 11 (.t 44) (.t 46), .ld 49 11 true (.t 48), .alc 9 [(.d (.i .i64 0)), (.d (.i .i64 0)), (.d (.b false)), (.d (.i .i64 0)), (.d (.i .i64 0)), (.d (.s (bs []))), (.d (.s (bs []))), (.d (.s (bs []))), (.nil 10), (.nil 6), (.d (.b false))], .st 11 (.t 9) (.t 49)]) (.ops [.mv 50 (.t 3), .fa 51 0 (.t 9), .ld 52 10 true (.t 51), .bsl 53 49 10 [(.t 52)], .app 54 49 10 136 (.t 50) (.t 53), .asg 3 (.t 54)]))) (.ops [.bin 55 .add (.t 46) (kI 1), .mv 46 (.t 55)])))))
def aciQuery_exprs : AC := (.seq (.ops [.box 1 (.t 0), .asg 2 (.c (.nil 10))]) (.seq (.ops [.bsl 10 49 10 [], .asg 3 (.t 10)]) (.seq (.seq (.ops [.fa 11 1 (.t 1), .ld 12 1 false (.t 11), .len 13 (.t 12), .mv 14 (kI 0)]) (.block 0 aciQuery_exprs_L0)) (.seq (.seq (.ops [.fa 27 2 (.t 1), .ld 28 1 false (.t 27), .len 29 (.t 28), .mv 30 (kI 0)]) (.block 2 aciQuery_exprs_L2)) (.seq (.ops [.mv 39 (.t 3), .fa 40 3 (.t 1), .ld 41 1 false (.t 40), .app 42 49 10 136 (.t 39) (.t 41), .asg 3 (.t 42)]) (.seq (.seq (.ops [.fa 43 4 (.t 1), .ld 44 1 false (.t 43), .len 45 (.t 44), .mv 46 (kI 0)]) (.block 4 aciQuery_exprs_L3)) (.seq (.ops [.mv 56 (.t 3), .asg 2 (.t 56)]) .ret)))))))
theorem triQuery_exprs : trFn Try.prog 66 = some (aciQuery_exprs, [.mv 0 (.t 2)], 57) := by kernel_rfl
def qiQuery_exprs (r : (List GExpr)) : Exit → St → Prop := retQ [.mv 0 (.t 2)] fun x b => x = (fun (y : (List GExpr)) => (.osl 2000000 49 10 (y.map cGExpr))) r ∧ bxHas ((fun (y : (List GExpr)) => []) r) b
def qiQuery_exprs_0 (r : (List GExpr)) : Exit → St → Prop := (thenK (wkK (avc Try.prog (.seq (.seq (.ops [.fa 27 2 (.t 1), .ld 28 1 false (.t 27), .len 29 (.t 28), .mv 30 (.c (.d (.i .i64 0)))]) (.block 2 aciQuery_exprs_L2)) (.seq (.ops [.mv 39 (.t 3), .fa 40 3 (.t 1), .ld 41 1 false (.t 40), .app 42 49 10 136 (.t 39) (.t 41), .asg 3 (.t 42)]) (.seq (.seq (.ops [.fa 43 4 (.t 1), .ld 44 1 false (.t 43), .len 45 (.t 44), .mv 46 (.c (.d (.i .i64 0)))]) (.block 4 aciQuery_exprs_L3)) (.seq (.ops [.mv 56 (.t 3), .asg 2 (.t 56)]) .ret)))) (qiQuery_exprs r))) (qiQuery_exprs r))
def qiQuery_exprs_1 (r : (List GExpr)) : Exit → St → Prop := (blockK 0 (qiQuery_exprs_0 r))
def qiQuery_exprs_2 (r : (List GExpr)) : Exit → St → Prop := (thenK (avc Try.prog aciQuery_exprs_L0 (qiQuery_exprs_1 r)) (qiQuery_exprs_1 r))
def qiQuery_exprs_3 (r : (List GExpr)) : Exit → St → Prop := (thenK (wkK (avc Try.prog (.seq (.ops [.mv 39 (.t 3), .fa 40 3 (.t 1), .ld 41 1 false (.t 40), .app 42 49 10 136 (.t 39) (.t 41), .asg 3 (.t 42)]) (.seq (.seq (.ops [.fa 43 4 (.t 1), .ld 44 1 false (.t 43), .len 45 (.t 44), .mv 46 (.c (.d (.i .i64 0)))]) (.block 4 aciQuery_exprs_L3)) (.seq (.ops [.mv 56 (.t 3), .asg 2 (.t 56)]) .ret))) (qiQuery_exprs r))) (qiQuery_exprs r))
def qiQuery_exprs_4 (r : (List GExpr)) : Exit → St → Prop := (blockK 2 (qiQuery_exprs_3 r))
def qiQuery_exprs_5 (r : (List GExpr)) : Exit → St → Prop := (thenK (wkK (avc Try.prog (.seq (.ops [.mv 56 (.t 3), .asg 2 (.t 56)]) .ret) (qiQuery_exprs r))) (qiQuery_exprs r))
def qiQuery_exprs_6 (r : (List GExpr)) : Exit → St → Prop := (blockK 4 (qiQuery_exprs_5 r))
def stiQuery_exprs_L0 (p0 : GQuery) (x3 : (List GExpr)) (x14 : Int) : St := ⟨[(1, (.ptr 1 0)), (3, (.osl 3 49 10 (x3.map cGExpr))), (12, (.d (.sl 13 (p0.items.map cGItem)))), (13, (vI (p0.items.length : Int))), (14, (vI x14))], [(1, bGQuery p0)]⟩
def stiQuery_exprs_J1 (p0 : GQuery) (x14 : Int) (x3_3 : (List GExpr)) : St := ⟨[(1, (.ptr 1 0)), (3, (.osl 3 49 10 (x3_3.map cGExpr))), (12, (.d (.sl 13 (p0.items.map cGItem)))), (13, (vI (p0.items.length : Int))), (14, (vI x14))], [(1, bGQuery p0)]⟩
def stiQuery_exprs_L2 (p0 : GQuery) (x3_4 : (List GExpr)) (x30 : Int) : St := ⟨[(1, (.ptr 1 0)), (3, (.osl 3 49 10 (x3_4.map cGExpr))), (28, (.d (.sl 3 (p0.from_.map cGSource)))), (29, (vI (p0.from_.length : Int))), (30, (vI x30))], [(1, bGQuery p0)]⟩
def stiQuery_exprs_L3 (p0 : GQuery) (x3_8 : (List GExpr)) (x46 : Int) : St := ⟨[(3, (.osl 3 49 10 (x3_8.map cGExpr))), (44, (.d (.sl 11 (p0.order.map cGSortKey)))), (45, (vI (p0.order.length : Int))), (46, (vI x46))], []⟩
def aciQueryDepth : AC := (.seq (.ops [.box 1 (.t 0), .asg 2 (kI 0)]) (.seq (.ops [.ld 3 6 true (.t 1), .call (some 4) 66 [(.t 3)], .call (some 5) 65 [(.t 4)], .asg 2 (.t 5)]) .ret))
theorem triQueryDepth : trFn Try.prog 17 = some (aciQueryDepth, [.mv 0 (.t 2)], 6) := by kernel_rfl
def qiQueryDepth (r : Int) : Exit → St → Prop := retQ [.mv 0 (.t 2)] fun x _ => x = (fun y => (vI y)) r
def aciDeepestOf_L0 : AC := (.loop (.seq (.ops [.bin 9 .lss (.t 8) (.t 7)]) (.seq (.cond (.t 9) .skip (.exit 0)) (.seq (.block 1 (.seq (.ops [.ia 10 10 (.t 6) (.t 8), .ld 11 10 true (.t 10), .alc 5 [(.d (.i .i64 0)), (.d (.i .i64 0)), (.d (.b false)), (.d (.i .i64 0)), (.d (.i .i64 0)), (.d (.s (bs []))), (.d (.s (bs []))), (.d (.s (bs []))), (.nil 10), (.nil 6)], .st 10 (.t 5) (.t 11)]) (.ops [.mv 12 (.t 3), .ld 13 10 true (.t 5), .call (some 14) 30 [(.t 13)], .max 15 (.t 12) (.t 14), .asg 3 (.t 15)]))) (.ops [.bin 16 .add (.t 8) (kI 1), .mv 8 (.t 16)])))))
def aciDeepestOf : AC := (.seq (.ops [.asg 2 (kI 0)]) (.seq (.ops [.asg 3 (kI 0)]) (.seq (.seq (.ops [.mv 6 (.t 0), .len 7 (.t 6), .mv 8 (kI 0)]) (.block 0 aciDeepestOf_L0)) (.seq (.ops [.mv 17 (.t 3), .asg 2 (.t 17)]) .ret))))
theorem triDeepestOf : trFn Try.prog 65 = some (aciDeepestOf, [.mv 0 (.t 2)], 18) := by kernel_rfl
def qiDeepestOf (r : Int) : Exit → St → Prop := retQ [.mv 0 (.t 2)] fun x _ => x = (fun y => (vI y)) r
def qiDeepestOf_0 (r : Int) : Exit → St → Prop := (thenK (wkK (avc Try.prog (.seq (.ops [.mv 17 (.t 3), .asg 2 (.t 17)]) .ret) (qiDeepestOf r))) (qiDeepestOf r))
def qiDeepestOf_1 (r : Int) : Exit → St → Prop := (blockK 0 (qiDeepestOf_0 r))
def stiDeepestOf_L0 (p0 : (List GExpr)) (x3 : Int) (x8 : Int) : St := ⟨[(3, (vI x3)), (6, (.d (.sl 10 (p0.map cGExpr)))), (7, (vI (p0.length : Int))), (8, (vI x8))], []⟩
def aciDepthOf_L0 : AC := (.loop (.seq (.ops [.bin 12 .lss (.t 11) (.t 10)]) (.seq (.cond (.t 12) .skip (.exit 0)) (.seq (.block 1 (.seq (.ops [.ia 13 10 (.t 9) (.t 11), .ld 14 10 true (.t 13), .alc 5 [(.d (.i .i64 0)), (.d (.i .i64 0)), (.d (.b false)), (.d (.i .i64 0)), (.d (.i .i64 0)), (.d (.s (bs []))), (.d (.s (bs []))), (.d (.s (bs []))), (.nil 10), (.nil 6)], .st 10 (.t 5) (.t 14)]) (.ops [.mv 15 (.t 3), .ld 16 10 true (.t 5), .call (some 17) 30 [(.t 16)], .max 18 (.t 15) (.t 17), .asg 3 (.t 18)]))) (.ops [.bin 19 .add (.t 11) (kI 1), .mv 11 (.t 19)])))))
def aciDepthOf_L1 : AC := (.loop (.seq (.ops [.bin 24 .lss (.t 23) (.t 22)]) (.seq (.cond (.t 24) .skip (.exit 2)) (.seq (.block 3 (.seq (.ops [.ia 25 6 (.t 21) (.t 23), .ld 26 6 true (.t 25), .alc 7 [(.d (.b false)), (.nil 13), (.nil 3), (.nil 10), (.nil 11), (.d (.i .i64 0))], .st 6 (.t 7) (.t 26)]) (.ops [.mv 27 (.t 3), .ld 28 6 true (.t 7), .call (some 29) 17 [(.t 28)], .max 30 (.t 27) (.t 29), .asg 3 (.t 30)]))) (.ops [.bin 31 .add (.t 23) (kI 1), .mv 23 (.t 31)])))))
def aciDepthOf : AC := (.seq (.ops [.box 1 (.t 0), .asg 2 (kI 0)]) (.seq (.ops [.asg 3 (kI 0)]) (.seq (.seq (.ops [.fa 8 8 (.t 1), .ld 9 1 false (.t 8), .len 10 (.t 9), .mv 11 (kI 0)]) (.block 0 aciDepthOf_L0)) (.seq (.seq (.ops [.fa 20 9 (.t 1), .ld 21 1 false (.t 20), .len 22 (.t 21), .mv 23 (kI 0)]) (.block 2 aciDepthOf_L1)) (.seq (.ops [.mv 32 (.t 3), .bin 33 .add (kI 1) (.t 32), .asg 2 (.t 33)]) .ret)))))
theorem triDepthOf : trFn Try.prog 30 = some (aciDepthOf, [.mv 0 (.t 2)], 34) := by kernel_rfl
def qiDepthOf (r : Int) : Exit → St → Prop := retQ [.mv 0 (.t 2)] fun x _ => x = (fun y => (vI y)) r
def qiDepthOf_0 (r : Int) : Exit → St → Prop := (thenK (wkK (avc Try.prog (.seq (.seq (.ops [.fa 20 9 (.t 1), .ld 21 1 false (.t 20), .len 22 (.t 21), .mv 23 (.c (.d (.i .i64 0)))]) (.block 2 aciDepthOf_L1)) (.seq (.ops [.mv 32 (.t 3), .bin 33 .add (.c (.d (.i .i64 1))) (.t 32), .asg 2 (.t 33)]) .ret)) (qiDepthOf r))) (qiDepthOf r))
def qiDepthOf_1 (r : Int) : Exit → St → Prop := (blockK 0 (qiDepthOf_0 r))
def qiDepthOf_2 (r : Int) : Exit → St → Prop := (thenK (wkK (avc Try.prog (.seq (.ops [.mv 32 (.t 3), .bin 33 .add (.c (.d (.i .i64 1))) (.t 32), .asg 2 (.t 33)]) .ret) (qiDepthOf r))) (qiDepthOf r))
def qiDepthOf_3 (r : Int) : Exit → St → Prop := (blockK 2 (qiDepthOf_2 r))
def stiDepthOf_L0 (p0 : GExpr) (x3 : Int) (x11 : Int) : St := ⟨[(1, (.ptr 1 0)), (3, (vI x3)), (9, (.d (.sl 10 (p0.kids.map cGExpr)))), (10, (vI (p0.kids.length : Int))), (11, (vI x11))], [(1, bGExpr p0)]⟩
def stiDepthOf_L1 (p0 : GExpr) (x3_3 : Int) (x23 : Int) : St := ⟨[(3, (vI x3_3)), (21, (.d (.sl 6 (p0.sub.map cGQuery)))), (22, (vI (p0.sub.length : Int))), (23, (vI x23))], []⟩
def aciQuerySize : AC := (.seq (.ops [.box 1 (.t 0), .asg 2 (kI 0)]) (.seq (.ops [.ld 3 6 true (.t 1), .call (some 4) 66 [(.t 3)], .call (some 5) 96 [(.t 4)], .asg 2 (.t 5)]) .ret))
theorem triQuerySize : trFn Try.prog 85 = some (aciQuerySize, [.mv 0 (.t 2)], 6) := by kernel_rfl
def qiQuerySize (r : Int) : Exit → St → Prop := retQ [.mv 0 (.t 2)] fun x _ => x = (fun y => (vI y)) r
def aciSizeOfAll_L0 : AC := (.loop (.seq (.ops [.bin 9 .lss (.t 8) (.t 7)]) (.seq (.cond (.t 9) .skip (.exit 0)) (.seq (.block 1 (.seq (.ops [.ia 10 10 (.t 6) (.t 8), .ld 11 10 true (.t 10), .alc 5 [(.d (.i .i64 0)), (.d (.i .i64 0)), (.d (.b false)), (.d (.i .i64 0)), (.d (.i .i64 0)), (.d (.s (bs []))), (.d (.s (bs []))), (.d (.s (bs []))), (.nil 10), (.nil 6)], .st 10 (.t 5) (.t 11)]) (.ops [.mv 12 (.t 3), .ld 13 10 true (.t 5), .call (some 14) 81 [(.t 13)], .bin 15 .add (.t 12) (.t 14), .asg 3 (.t 15)]))) (.ops [.bin 16 .add (.t 8) (kI 1), .mv 8 (.t 16)])))))
def aciSizeOfAll : AC := (.seq (.ops [.asg 2 (kI 0)]) (.seq (.ops [.asg 3 (kI 0)]) (.seq (.seq (.ops [.mv 6 (.t 0), .len 7 (.t 6), .mv 8 (kI 0)]) (.block 0 aciSizeOfAll_L0)) (.seq (.ops [.mv 17 (.t 3), .asg 2 (.t 17)]) .ret))))
theorem triSizeOfAll : trFn Try.prog 96 = some (aciSizeOfAll, [.mv 0 (.t 2)], 18) := by kernel_rfl
def qiSizeOfAll (r : Int) : Exit → St → Prop := retQ [.mv 0 (.t 2)] fun x _ => x = (fun y => (vI y)) r
def qiSizeOfAll_0 (r : Int) : Exit → St → Prop := (thenK (wkK (avc Try.prog (.seq (.ops [.mv 17 (.t 3), .asg 2 (.t 17)]) .ret) (qiSizeOfAll r))) (qiSizeOfAll r))
def qiSizeOfAll_1 (r : Int) : Exit → St → Prop := (blockK 0 (qiSizeOfAll_0 r))
def stiSizeOfAll_L0 (p0 : (List GExpr)) (x3 : Int) (x8 : Int) : St := ⟨[(3, (vI x3)), (6, (.d (.sl 10 (p0.map cGExpr)))), (7, (vI (p0.length : Int))), (8, (vI x8))], []⟩
def aciSizeOf_L0 : AC := (.loop (.seq (.ops [.bin 14 .lss (.t 13) (.t 12)]) (.seq (.cond (.t 14) .skip (.exit 0)) (.seq (.block 1 (.seq (.ops [.ia 15 6 (.t 11) (.t 13), .ld 16 6 true (.t 15), .alc 5 [(.d (.b false)), (.nil 13), (.nil 3), (.nil 10), (.nil 11), (.d (.i .i64 0))], .st 6 (.t 5) (.t 16)]) (.ops [.mv 17 (.t 3), .ld 18 6 true (.t 5), .call (some 19) 85 [(.t 18)], .bin 20 .add (.t 17) (.t 19), .asg 3 (.t 20)]))) (.ops [.bin 21 .add (.t 13) (kI 1), .mv 13 (.t 21)])))))
def aciSizeOf : AC := (.seq (.ops [.box 1 (.t 0), .asg 2 (kI 0)]) (.seq (.ops [.fa 6 8 (.t 1), .ld 7 1 false (.t 6), .call (some 8) 96 [(.t 7)], .bin 9 .add (kI 1) (.t 8), .asg 3 (.t 9)]) (.seq (.seq (.ops [.fa 10 9 (.t 1), .ld 11 1 false (.t 10), .len 12 (.t 11), .mv 13 (kI 0)]) (.block 0 aciSizeOf_L0)) (.seq (.ops [.mv 22 (.t 3), .asg 2 (.t 22)]) .ret))))
theorem triSizeOf : trFn Try.prog 81 = some (aciSizeOf, [.mv 0 (.t 2)], 23) := by kernel_rfl
def qiSizeOf (r : Int) : Exit → St → Prop := retQ [.mv 0 (.t 2)] fun x _ => x = (fun y => (vI y)) r
def qiSizeOf_0 (r : Int) : Exit → St → Prop := (thenK (wkK (avc Try.prog (.seq (.ops [.mv 22 (.t 3), .asg 2 (.t 22)]) .ret) (qiSizeOf r))) (qiSizeOf r))
def qiSizeOf_1 (r : Int) : Exit → St → Prop := (blockK 0 (qiSizeOf_0 r))
def stiSizeOf_L0 (p0 : GExpr) (x3 : Int) (x13 : Int) : St := ⟨[(3, (vI x3)), (11, (.d (.sl 6 (p0.sub.map cGQuery)))), (12, (vI (p0.sub.length : Int))), (13, (vI x13))], []⟩
def aciIsSmall : AC := (.seq (.ops [.asg 4 (kB false)]) (.seq (.ops [.mv 5 (.t 0), .bin 6 .leq (.t 5) (kI 24), .mv 7 (.t 6), .g 7 true (.mv 8 (.t 1)), .g 7 true (.bin 9 .leq (.t 8) (kI 200)), .pick 10 (.t 7) (.t 9) (kB false), .asg 4 (.t 10)]) .ret))
theorem triIsSmall : trFn Try.prog 80 = some (aciIsSmall, [.mv 0 (.t 4)], 11) := by kernel_rfl
def qiIsSmall (r : Bool) : Exit → St → Prop := retQ [.mv 0 (.t 4)] fun x _ => x = (fun y => (vB y)) r
def acwSzQuery : AC := (.seq (.ops [.box 2 (.t 0), .asg 4 (kI 0)]) (.seq (.ops [.fa 5 1 (.t 2), .ld 6 1 false (.t 5), .mv 7 (.t 1), .call (some 8) 54 [(.t 6), (.t 7)], .asg 1 (.t 8)]) (.seq (.seq (.ops [.mv 9 (.t 1), .bin 10 .lss (.t 9) (kI 0)]) (.cond (.t 10) (.seq (.ops [.asg 4 (kI (-1))]) .ret) .skip)) (.seq (.ops [.fa 11 2 (.t 2), .ld 12 1 false (.t 11), .mv 13 (.t 1), .call (some 14) 55 [(.t 12), (.t 13)], .asg 1 (.t 14)]) (.seq (.seq (.ops [.mv 15 (.t 1), .bin 16 .lss (.t 15) (kI 0)]) (.cond (.t 16) (.seq (.ops [.asg 4 (kI (-1))]) .ret) .skip)) (.seq (.ops [.fa 17 3 (.t 2), .ld 18 1 false (.t 17), .mv 19 (.t 1), .call (some 20) 56 [(.t 18), (.t 19)], .asg 1 (.t 20)]) (.seq (.seq (.ops [.mv 21 (.t 1), .bin 22 .lss (.t 21) (kI 0)]) (.cond (.t 22) (.seq (.ops [.asg 4 (kI (-1))]) .ret) .skip)) (.seq (.ops [.fa 23 4 (.t 2), .ld 24 1 false (.t 23), .mv 25 (.t 1), .call (some 26) 57 [(.t 24), (.t 25)], .asg 1 (.t 26)]) (.seq (.seq (.ops [.mv 27 (.t 1), .bin 28 .lss (.t 27) (kI 0)]) (.cond (.t 28) (.seq (.ops [.asg 4 (kI (-1))]) .ret) .skip)) (.seq (.ops [.mv 29 (.t 1), .asg 4 (.t 29)]) .ret))))))))))
theorem trwSzQuery : trFn Try.prog 14 = some (acwSzQuery, [.mv 0 (.t 4)], 30) := by kernel_rfl
def qwSzQuery (r : Int) : Exit → St → Prop := retQ [.mv 0 (.t 4)] fun x _ => x = (fun y => (vI y)) r
def acwSzItemS_L0 : AC := (.loop (.seq (.seq (.ops [.mv 12 (.t 5), .mv 13 (.t 0), .len 14 (.t 13), .bin 15 .lss (.t 12) (.t 14)]) (.cond (.t 15) .skip (.exit 0))) (.seq (.block 1 (.seq (.ops [.mv 18 (.t 0), .mv 19 (.t 5), .ia 20 13 (.t 18) (.t 19), .ld 21 13 true (.t 20), .mv 22 (.t 1), .call (some 23) 117 [(.t 21), (.t 22)], .asg 1 (.t 23)]) (.seq (.ops [.mv 24 (.t 1), .bin 25 .lss (.t 24) (kI 0)]) (.cond (.t 25) (.seq (.ops [.asg 4 (kI (-1))]) .ret) .skip)))) (.ops [.mv 16 (.t 5), .bin 17 .add (.t 16) (kI 1), .asg 5 (.t 17)]))))
def acwSzItemS : AC := (.seq (.ops [.asg 4 (kI 0)]) (.seq (.ops [.mv 6 (.t 1), .mv 7 (.t 0), .len 8 (.t 7), .bin 9 .sub (.t 6) (.t 8), .asg 1 (.t 9)]) (.seq (.seq (.ops [.mv 10 (.t 1), .bin 11 .lss (.t 10) (kI 0)]) (.cond (.t 11) (.seq (.ops [.asg 4 (kI (-1))]) .ret) .skip)) (.seq (.seq (.ops [.asg 5 (kI 0)]) (.block 0 acwSzItemS_L0)) (.seq (.ops [.mv 26 (.t 1), .asg 4 (.t 26)]) .ret)))))
theorem trwSzItemS : trFn Try.prog 54 = some (acwSzItemS, [.mv 0 (.t 4)], 27) := by kernel_rfl
def qwSzItemS (r : Int) : Exit → St → Prop := retQ [.mv 0 (.t 4)] fun x _ => x = (fun y => (vI y)) r
def qwSzItemS_0 (r : Int) : Exit → St → Prop := (thenK (wkK (avc Try.prog (.seq (.ops [.mv 26 (.t 1), .asg 4 (.t 26)]) .ret) (qwSzItemS r))) (qwSzItemS r))
def qwSzItemS_1 (r : Int) : Exit → St → Prop := (blockK 0 (qwSzItemS_0 r))
def stwSzItemS_L0 (p0 : (List GItem)) (x1 : Int) (x5 : Int) : St := ⟨[(0, (.d (.sl 13 (p0.map cGItem)))), (1, (vI x1)), (5, (vI x5))], []⟩
def acwSzItem : AC := (.seq (.ops [.box 2 (.t 0), .asg 4 (kI 0)]) (.seq (.ops [.mv 5 (.t 1), .fa 6 1 (.t 2), .ld 7 1 false (.t 6), .lns 8 (.t 7), .bin 9 .sub (.t 5) (.t 8), .asg 1 (.t 9)]) (.seq (.seq (.ops [.mv 10 (.t 1), .bin 11 .lss (.t 10) (kI 0)]) (.cond (.t 11) (.seq (.ops [.asg 4 (kI (-1))]) .ret) .skip)) (.seq (.ops [.fa 12 2 (.t 2), .ld 13 10 true (.t 12), .mv 14 (.t 1), .call (some 15) 19 [(.t 13), (.t 14)], .asg 1 (.t 15)]) (.seq (.seq (.ops [.mv 16 (.t 1), .bin 17 .lss (.t 16) (kI 0)]) (.cond (.t 17) (.seq (.ops [.asg 4 (kI (-1))]) .ret) .skip)) (.seq (.ops [.mv 18 (.t 1), .fa 19 12 (.t 2), .ld 20 1 false (.t 19), .lns 21 (.t 20), .bin 22 .sub (.t 18) (.t 21), .asg 1 (.t 22)]) (.seq (.seq (.ops [.mv 23 (.t 1), .bin 24 .lss (.t 23) (kI 0)]) (.cond (.t 24) (.seq (.ops [.asg 4 (kI (-1))]) .ret) .skip)) (.seq (.ops [.mv 25 (.t 1), .asg 4 (.t 25)]) .ret))))))))
theorem trwSzItem : trFn Try.prog 117 = some (acwSzItem, [.mv 0 (.t 4)], 26) := by kernel_rfl
def qwSzItem (r : Int) : Exit → St → Prop := retQ [.mv 0 (.t 4)] fun x _ => x = (fun y => (vI y)) r
def acwSzExpr : AC := (.seq (.ops [.box 2 (.t 0), .asg 4 (kI 0)]) (.seq (.ops [.fa 5 3 (.t 2), .ld 6 3 true (.t 5), .mv 7 (.t 1), .call (some 8) 70 [(.t 6), (.t 7)], .asg 1 (.t 8)]) (.seq (.seq (.ops [.mv 9 (.t 1), .bin 10 .lss (.t 9) (kI 0)]) (.cond (.t 10) (.seq (.ops [.asg 4 (kI (-1))]) .ret) .skip)) (.seq (.ops [.mv 11 (.t 1), .fa 12 6 (.t 2), .ld 13 1 false (.t 12), .lns 14 (.t 13), .bin 15 .sub (.t 11) (.t 14), .asg 1 (.t 15)]) (.seq (.seq (.ops [.mv 16 (.t 1), .bin 17 .lss (.t 16) (kI 0)]) (.cond (.t 17) (.seq (.ops [.asg 4 (kI (-1))]) .ret) .skip)) (.seq (.ops [.mv 18 (.t 1), .fa 19 7 (.t 2), .ld 20 1 false (.t 19), .lns 21 (.t 20), .bin 22 .sub (.t 18) (.t 21), .asg 1 (.t 22)]) (.seq (.seq (.ops [.mv 23 (.t 1), .bin 24 .lss (.t 23) (kI 0)]) (.cond (.t 24) (.seq (.ops [.asg 4 (kI (-1))]) .ret) .skip)) (.seq (.ops [.fa 25 8 (.t 2), .ld 26 1 false (.t 25), .mv 27 (.t 1), .call (some 28) 56 [(.t 26), (.t 27)], .asg 1 (.t 28)]) (.seq (.seq (.ops [.mv 29 (.t 1), .bin 30 .lss (.t 29) (kI 0)]) (.cond (.t 30) (.seq (.ops [.asg 4 (kI (-1))]) .ret) .skip)) (.seq (.ops [.fa 31 9 (.t 2), .ld 32 1 false (.t 31), .mv 33 (.t 1), .call (some 34) 71 [(.t 32), (.t 33)], .asg 1 (.t 34)]) (.seq (.seq (.ops [.mv 35 (.t 1), .bin 36 .lss (.t 35) (kI 0)]) (.cond (.t 36) (.seq (.ops [.asg 4 (kI (-1))]) .ret) .skip)) (.seq (.ops [.mv 37 (.t 1), .asg 4 (.t 37)]) .ret))))))))))))
theorem trwSzExpr : trFn Try.prog 19 = some (acwSzExpr, [.mv 0 (.t 4)], 38) := by kernel_rfl
def qwSzExpr (r : Int) : Exit → St → Prop := retQ [.mv 0 (.t 4)] fun x _ => x = (fun y => (vI y)) r
def acwSzValue : AC := (.seq (.ops [.box 2 (.t 0), .asg 4 (kI 0)]) (.seq (.ops [.mv 5 (.t 1), .fa 6 2 (.t 2), .ld 7 1 false (.t 6), .lns 8 (.t 7), .bin 9 .sub (.t 5) (.t 8), .asg 1 (.t 9)]) (.seq (.seq (.ops [.mv 10 (.t 1), .bin 11 .lss (.t 10) (kI 0)]) (.cond (.t 11) (.seq (.ops [.asg 4 (kI (-1))]) .ret) .skip)) (.seq (.ops [.mv 12 (.t 1), .asg 4 (.t 12)]) .ret))))
theorem trwSzValue : trFn Try.prog 70 = some (acwSzValue, [.mv 0 (.t 4)], 13) := by kernel_rfl
def qwSzValue (r : Int) : Exit → St → Prop := retQ [.mv 0 (.t 4)] fun x _ => x = (fun y => (vI y)) r
def acwSzExprS_L0 : AC := (.loop (.seq (.seq (.ops [.mv 12 (.t 5), .mv 13 (.t 0), .len 14 (.t 13), .bin 15 .lss (.t 12) (.t 14)]) (.cond (.t 15) .skip (.exit 0))) (.seq (.block 1 (.seq (.ops [.mv 18 (.t 0), .mv 19 (.t 5), .ia 20 10 (.t 18) (.t 19), .ld 21 10 true (.t 20), .mv 22 (.t 1), .call (some 23) 19 [(.t 21), (.t 22)], .asg 1 (.t 23)]) (.seq (.ops [.mv 24 (.t 1), .bin 25 .lss (.t 24) (kI 0)]) (.cond (.t 25) (.seq (.ops [.asg 4 (kI (-1))]) .ret) .skip)))) (.ops [.mv 16 (.t 5), .bin 17 .add (.t 16) (kI 1), .asg 5 (.t 17)]))))
def acwSzExprS : AC := (.seq (.ops [.asg 4 (kI 0)]) (.seq (.ops [.mv 6 (.t 1), .mv 7 (.t 0), .len 8 (.t 7), .bin 9 .sub (.t 6) (.t 8), .asg 1 (.t 9)]) (.seq (.seq (.ops [.mv 10 (.t 1), .bin 11 .lss (.t 10) (kI 0)]) (.cond (.t 11) (.seq (.ops [.asg 4 (kI (-1))]) .ret) .skip)) (.seq (.seq (.ops [.asg 5 (kI 0)]) (.block 0 acwSzExprS_L0)) (.seq (.ops [.mv 26 (.t 1), .asg 4 (.t 26)]) .ret)))))
theorem trwSzExprS : trFn Try.prog 56 = some (acwSzExprS, [.mv 0 (.t 4)], 27) := by kernel_rfl
def qwSzExprS (r : Int) : Exit → St → Prop := retQ [.mv 0 (.t 4)] fun x _ => x = (fun y => (vI y)) r
def qwSzExprS_0 (r : Int) : Exit → St → Prop := (thenK (wkK (avc Try.prog (.seq (.ops [.mv 26 (.t 1), .asg 4 (.t 26)]) .ret) (qwSzExprS r))) (qwSzExprS r))
def qwSzExprS_1 (r : Int) : Exit → St → Prop := (blockK 0 (qwSzExprS_0 r))
def stwSzExprS_L0 (p0 : (List GExpr)) (x1 : Int) (x5 : Int) : St := ⟨[(0, (.d (.sl 10 (p0.map cGExpr)))), (1, (vI x1)), (5, (vI x5))], []⟩
def acwSzQueryS_L0 : AC := (.loop (.seq (.seq (.ops [.mv 12 (.t 5), .mv 13 (.t 0), .len 14 (.t 13), .bin 15 .lss (.t 12) (.t 14)]) (.cond (.t 15) .skip (.exit 0))) (.seq (.block 1 (.seq (.ops [.mv 18 (.t 0), .mv 19 (.t 5), .ia 20 6 (.t 18) (.t 19), .ld 21 6 true (.t 20), .mv 22 (.t 1), .call (some 23) 14 [(.t 21), (.t 22)], .asg 1 (.t 23)]) (.seq (.ops [.mv 24 (.t 1), .bin 25 .lss (.t 24) (kI 0)]) (.cond (.t 25) (.seq (.ops [.asg 4 (kI (-1))]) .ret) .skip)))) (.ops [.mv 16 (.t 5), .bin 17 .add (.t 16) (kI 1), .asg 5 (.t 17)]))))
def acwSzQueryS : AC := (.seq (.ops [.asg 4 (kI 0)]) (.seq (.ops [.mv 6 (.t 1), .mv 7 (.t 0), .len 8 (.t 7), .bin 9 .sub (.t 6) (.t 8), .asg 1 (.t 9)]) (.seq (.seq (.ops [.mv 10 (.t 1), .bin 11 .lss (.t 10) (kI 0)]) (.cond (.t 11) (.seq (.ops [.asg 4 (kI (-1))]) .ret) .skip)) (.seq (.seq (.ops [.asg 5 (kI 0)]) (.block 0 acwSzQueryS_L0)) (.seq (.ops [.mv 26 (.t 1), .asg 4 (.t 26)]) .ret)))))
theorem trwSzQueryS : trFn Try.prog 71 = some (acwSzQueryS, [.mv 0 (.t 4)], 27) := by kernel_rfl
def qwSzQueryS (r : Int) : Exit → St → Prop := retQ [.mv 0 (.t 4)] fun x _ => x = (fun y => (vI y)) r
def qwSzQueryS_0 (r : Int) : Exit → St → Prop := (thenK (wkK (avc Try.prog (.seq (.ops [.mv 26 (.t 1), .asg 4 (.t 26)]) .ret) (qwSzQueryS r))) (qwSzQueryS r))
def qwSzQueryS_1 (r : Int) : Exit → St → Prop := (blockK 0 (qwSzQueryS_0 r))
def stwSzQueryS_L0 (p0 : (List GQuery)) (x1 : Int) (x5 : Int) : St := ⟨[(0, (.d (.sl 6 (p0.map cGQuery)))), (1, (vI x1)), (5, (vI x5))], []⟩
def acwSzSortKeyS_L0 : AC := (.loop (.seq (.seq (.ops [.mv 12 (.t 5), .mv 13 (.t 0), .len 14 (.t 13), .bin 15 .lss (.t 12) (.t 14)]) (.cond (.t 15) .skip (.exit 0))) (.seq (.block 1 (.seq (.ops [.mv 18 (.t 0), .mv 19 (.t 5), .ia 20 11 (.t 18) (.t 19), .ld 21 11 true (.t 20), .mv 22 (.t 1), .call (some 23) 119 [(.t 21), (.t 22)], .asg 1 (.t 23)]) (.seq (.ops [.mv 24 (.t 1), .bin 25 .lss (.t 24) (kI 0)]) (.cond (.t 25) (.seq (.ops [.asg 4 (kI (-1))]) .ret) .skip)))) (.ops [.mv 16 (.t 5), .bin 17 .add (.t 16) (kI 1), .asg 5 (.t 17)]))))
def acwSzSortKeyS : AC := (.seq (.ops [.asg 4 (kI 0)]) (.seq (.ops [.mv 6 (.t 1), .mv 7 (.t 0), .len 8 (.t 7), .bin 9 .sub (.t 6) (.t 8), .asg 1 (.t 9)]) (.seq (.seq (.ops [.mv 10 (.t 1), .bin 11 .lss (.t 10) (kI 0)]) (.cond (.t 11) (.seq (.ops [.asg 4 (kI (-1))]) .ret) .skip)) (.seq (.seq (.ops [.asg 5 (kI 0)]) (.block 0 acwSzSortKeyS_L0)) (.seq (.ops [.mv 26 (.t 1), .asg 4 (.t 26)]) .ret)))))
theorem trwSzSortKeyS : trFn Try.prog 57 = some (acwSzSortKeyS, [.mv 0 (.t 4)], 27) := by kernel_rfl
def qwSzSortKeyS (r : Int) : Exit → St → Prop := retQ [.mv 0 (.t 4)] fun x _ => x = (fun y => (vI y)) r
def qwSzSortKeyS_0 (r : Int) : Exit → St → Prop := (thenK (wkK (avc Try.prog (.seq (.ops [.mv 26 (.t 1), .asg 4 (.t 26)]) .ret) (qwSzSortKeyS r))) (qwSzSortKeyS r))
def qwSzSortKeyS_1 (r : Int) : Exit → St → Prop := (blockK 0 (qwSzSortKeyS_0 r))
def stwSzSortKeyS_L0 (p0 : (List GSortKey)) (x1 : Int) (x5 : Int) : St := ⟨[(0, (.d (.sl 11 (p0.map cGSortKey)))), (1, (vI x1)), (5, (vI x5))], []⟩
def acwSzSortKey : AC := (.seq (.ops [.box 2 (.t 0), .asg 4 (kI 0)]) (.seq (.ops [.fa 5 0 (.t 2), .ld 6 10 true (.t 5), .mv 7 (.t 1), .call (some 8) 19 [(.t 6), (.t 7)], .asg 1 (.t 8)]) (.seq (.seq (.ops [.mv 9 (.t 1), .bin 10 .lss (.t 9) (kI 0)]) (.cond (.t 10) (.seq (.ops [.asg 4 (kI (-1))]) .ret) .skip)) (.seq (.ops [.mv 11 (.t 1), .asg 4 (.t 11)]) .ret))))
theorem trwSzSortKey : trFn Try.prog 119 = some (acwSzSortKey, [.mv 0 (.t 4)], 12) := by kernel_rfl
def qwSzSortKey (r : Int) : Exit → St → Prop := retQ [.mv 0 (.t 4)] fun x _ => x = (fun y => (vI y)) r
def acwSzSourceS_L0 : AC := (.loop (.seq (.seq (.ops [.mv 12 (.t 5), .mv 13 (.t 0), .len 14 (.t 13), .bin 15 .lss (.t 12) (.t 14)]) (.cond (.t 15) .skip (.exit 0))) (.seq (.block 1 (.seq (.ops [.mv 18 (.t 0), .mv 19 (.t 5), .ia 20 3 (.t 18) (.t 19), .ld 21 3 true (.t 20), .mv 22 (.t 1), .call (some 23) 118 [(.t 21), (.t 22)], .asg 1 (.t 23)]) (.seq (.ops [.mv 24 (.t 1), .bin 25 .lss (.t 24) (kI 0)]) (.cond (.t 25) (.seq (.ops [.asg 4 (kI (-1))]) .ret) .skip)))) (.ops [.mv 16 (.t 5), .bin 17 .add (.t 16) (kI 1), .asg 5 (.t 17)]))))
def acwSzSourceS : AC := (.seq (.ops [.asg 4 (kI 0)]) (.seq (.ops [.mv 6 (.t 1), .mv 7 (.t 0), .len 8 (.t 7), .bin 9 .sub (.t 6) (.t 8), .asg 1 (.t 9)]) (.seq (.seq (.ops [.mv 10 (.t 1), .bin 11 .lss (.t 10) (kI 0)]) (.cond (.t 11) (.seq (.ops [.asg 4 (kI (-1))]) .ret) .skip)) (.seq (.seq (.ops [.asg 5 (kI 0)]) (.block 0 acwSzSourceS_L0)) (.seq (.ops [.mv 26 (.t 1), .asg 4 (.t 26)]) .ret)))))
theorem trwSzSourceS : trFn Try.prog 55 = some (acwSzSourceS, [.mv 0 (.t 4)], 27) := by kernel_rfl
def qwSzSourceS (r : Int) : Exit → St → Prop := retQ [.mv 0 (.t 4)] fun x _ => x = (fun y => (vI y)) r
def qwSzSourceS_0 (r : Int) : Exit → St → Prop := (thenK (wkK (avc Try.prog (.seq (.ops [.mv 26 (.t 1), .asg 4 (.t 26)]) .ret) (qwSzSourceS r))) (qwSzSourceS r))
def qwSzSourceS_1 (r : Int) : Exit → St → Prop := (blockK 0 (qwSzSourceS_0 r))
def stwSzSourceS_L0 (p0 : (List GSource)) (x1 : Int) (x5 : Int) : St := ⟨[(0, (.d (.sl 3 (p0.map cGSource)))), (1, (vI x1)), (5, (vI x5))], []⟩
def acwSzSource : AC := (.seq (.ops [.box 2 (.t 0), .asg 4 (kI 0)]) (.seq (.ops [.mv 5 (.t 1), .fa 6 0 (.t 2), .ld 7 1 false (.t 6), .lns 8 (.t 7), .bin 9 .sub (.t 5) (.t 8), .asg 1 (.t 9)]) (.seq (.seq (.ops [.mv 10 (.t 1), .bin 11 .lss (.t 10) (kI 0)]) (.cond (.t 11) (.seq (.ops [.asg 4 (kI (-1))]) .ret) .skip)) (.seq (.ops [.mv 12 (.t 1), .fa 13 1 (.t 2), .ld 14 1 false (.t 13), .lns 15 (.t 14), .bin 16 .sub (.t 12) (.t 15), .asg 1 (.t 16)]) (.seq (.seq (.ops [.mv 17 (.t 1), .bin 18 .lss (.t 17) (kI 0)]) (.cond (.t 18) (.seq (.ops [.asg 4 (kI (-1))]) .ret) .skip)) (.seq (.ops [.fa 19 2 (.t 2), .ld 20 1 false (.t 19), .mv 21 (.t 1), .call (some 22) 56 [(.t 20), (.t 21)], .asg 1 (.t 22)]) (.seq (.seq (.ops [.mv 23 (.t 1), .bin 24 .lss (.t 23) (kI 0)]) (.cond (.t 24) (.seq (.ops [.asg 4 (kI (-1))]) .ret) .skip)) (.seq (.ops [.mv 25 (.t 1), .asg 4 (.t 25)]) .ret))))))))
theorem trwSzSource : trFn Try.prog 118 = some (acwSzSource, [.mv 0 (.t 4)], 26) := by kernel_rfl
def qwSzSource (r : Int) : Exit → St → Prop := retQ [.mv 0 (.t 4)] fun x _ => x = (fun y => (vI y)) r
def acsQueryOk : AC := (.seq (.ops [.box 1 (.t 0), .asg 2 (kB false)]) (.seq (.ops [.ld 3 6 true (.t 1), .call (some 4) 99 [(.t 3)], .mv 5 (.t 4), .g 5 true (.ld 6 6 true (.t 1)), .g 5 true (.call (some 7) 15 [(.t 6)]), .g 5 true (.bin 8 .leq (.t 7) (kI 24)), .pick 9 (.t 5) (.t 8) (kB false), .mv 10 (.t 9), .g 10 true (.ld 11 6 true (.t 1)), .g 10 true (.call (some 12) 100 [(.t 11)]), .g 10 true (.bin 13 .leq (.t 12) (kI 200)), .pick 14 (.t 10) (.t 13) (kB false), .asg 2 (.t 14)]) .ret))
theorem trsQueryOk : trFn Try.prog 40 = some (acsQueryOk, [.mv 0 (.t 2)], 15) := by kernel_rfl
def qsQueryOk (r : Bool) : Exit → St → Prop := retQ [.mv 0 (.t 2)] fun x _ => x = (fun y => (vB y)) r
def acsQueryDepth_L0 : AC := (.loop (.seq (.seq (.ops [.mv 8 (.t 5), .mv 9 (.t 4), .len 10 (.t 9), .bin 11 .lss (.t 8) (.t 10)]) (.cond (.t 11) .skip (.exit 0))) (.seq (.block 1 (.ops [.mv 14 (.t 3), .mv 15 (.t 4), .mv 16 (.t 5), .ia 17 10 (.t 15) (.t 16), .ld 18 10 true (.t 17), .call (some 19) 60 [(.t 18)], .call (some 20) 59 [(.t 14), (.t 19)], .asg 3 (.t 20)])) (.ops [.mv 12 (.t 5), .bin 13 .add (.t 12) (kI 1), .asg 5 (.t 13)]))))
def acsQueryDepth : AC := (.seq (.ops [.box 1 (.t 0), .asg 2 (kI 0)]) (.seq (.ops [.asg 3 (kI 0)]) (.seq (.ops [.ld 6 6 true (.t 1), .call (some 7) 58 [(.t 6)], .asg 4 (.t 7)]) (.seq (.seq (.ops [.asg 5 (kI 0)]) (.block 0 acsQueryDepth_L0)) (.seq (.ops [.mv 21 (.t 3), .asg 2 (.t 21)]) .ret)))))
theorem trsQueryDepth : trFn Try.prog 15 = some (acsQueryDepth, [.mv 0 (.t 2)], 22) := by kernel_rfl
def qsQueryDepth (r : Int) : Exit → St → Prop := retQ [.mv 0 (.t 2)] fun x _ => x = (fun y => (vI y)) r
def qsQueryDepth_0 (r : Int) : Exit → St → Prop := (thenK (wkK (avc Try.prog (.seq (.ops [.mv 21 (.t 3), .asg 2 (.t 21)]) .ret) (qsQueryDepth r))) (qsQueryDepth r))
def qsQueryDepth_1 (r : Int) : Exit → St → Prop := (blockK 0 (qsQueryDepth_0 r))
def stsQueryDepth_L0 (y1 : (List GExpr)) (x3 : Int) (x5 : Int) : St := ⟨[(3, (vI x3)), (4, (.osl 4 49 10 (y1.map cGExpr))), (5, (vI x5))], []⟩
def acsDepthOf_L0 : AC := (.loop (.seq (.seq (.ops [.mv 6 (.t 4), .fa 7 8 (.t 1), .ld 8 1 false (.t 7), .len 9 (.t 8), .bin 10 .lss (.t 6) (.t 9)]) (.cond (.t 10) .skip (.exit 0))) (.seq (.block 1 (.ops [.mv 13 (.t 3), .fa 14 8 (.t 1), .ld 15 1 false (.t 14), .mv 16 (.t 4), .ia 17 10 (.t 15) (.t 16), .ld 18 10 true (.t 17), .call (some 19) 60 [(.t 18)], .call (some 20) 59 [(.t 13), (.t 19)], .asg 3 (.t 20)])) (.ops [.mv 11 (.t 4), .bin 12 .add (.t 11) (kI 1), .asg 4 (.t 12)]))))
def acsDepthOf_L1 : AC := (.loop (.seq (.seq (.ops [.mv 21 (.t 5), .fa 22 9 (.t 1), .ld 23 1 false (.t 22), .len 24 (.t 23), .bin 25 .lss (.t 21) (.t 24)]) (.cond (.t 25) .skip (.exit 2))) (.seq (.block 3 (.ops [.mv 28 (.t 3), .fa 29 9 (.t 1), .ld 30 1 false (.t 29), .mv 31 (.t 5), .ia 32 6 (.t 30) (.t 31), .ld 33 6 true (.t 32), .call (some 34) 15 [(.t 33)], .call (some 35) 59 [(.t 28), (.t 34)], .asg 3 (.t 35)])) (.ops [.mv 26 (.t 5), .bin 27 .add (.t 26) (kI 1), .asg 5 (.t 27)]))))
def acsDepthOf : AC := (.seq (.ops [.box 1 (.t 0), .asg 2 (kI 0)]) (.seq (.ops [.asg 3 (kI 0)]) (.seq (.seq (.ops [.asg 4 (kI 0)]) (.block 0 acsDepthOf_L0)) (.seq (.seq (.ops [.asg 5 (kI 0)]) (.block 2 acsDepthOf_L1)) (.seq (.ops [.mv 36 (.t 3), .bin 37 .add (.t 36) (kI 1), .asg 2 (.t 37)]) .ret)))))
theorem trsDepthOf : trFn Try.prog 60 = some (acsDepthOf, [.mv 0 (.t 2)], 38) := by kernel_rfl
def qsDepthOf (r : Int) : Exit → St → Prop := retQ [.mv 0 (.t 2)] fun x _ => x = (fun y => (vI y)) r
def qsDepthOf_0 (r : Int) : Exit → St → Prop := (thenK (wkK (avc Try.prog (.seq (.seq (.ops [.asg 5 (.c (.d (.i .i64 0)))]) (.block 2 acsDepthOf_L1)) (.seq (.ops [.mv 36 (.t 3), .bin 37 .add (.t 36) (.c (.d (.i .i64 1))), .asg 2 (.t 37)]) .ret)) (qsDepthOf r))) (qsDepthOf r))
def qsDepthOf_1 (r : Int) : Exit → St → Prop := (blockK 0 (qsDepthOf_0 r))
def qsDepthOf_2 (r : Int) : Exit → St → Prop := (thenK (wkK (avc Try.prog (.seq (.ops [.mv 36 (.t 3), .bin 37 .add (.t 36) (.c (.d (.i .i64 1))), .asg 2 (.t 37)]) .ret) (qsDepthOf r))) (qsDepthOf r))
def qsDepthOf_3 (r : Int) : Exit → St → Prop := (blockK 2 (qsDepthOf_2 r))
def stsDepthOf_L0 (p0 : GExpr) (x3 : Int) (x4 : Int) : St := ⟨[(1, (.ptr 1 0)), (3, (vI x3)), (4, (vI x4))], [(1, bGExpr p0)]⟩
def stsDepthOf_L1 (p0 : GExpr) (x3_4 : Int) (x5 : Int) : St := ⟨[(1, (.ptr 1 0)), (3, (vI x3_4)), (5, (vI x5))], [(1, bGExpr p0)]⟩
def acsL1Max : AC := (.seq (.ops [.asg 4 (kI 0)]) (.seq (.seq (.ops [.mv 5 (.t 0), .mv 6 (.t 1), .bin 7 .gtr (.t 5) (.t 6)]) (.cond (.t 7) (.seq (.ops [.mv 8 (.t 0), .asg 4 (.t 8)]) .ret) .skip)) (.seq (.ops [.mv 9 (.t 1), .asg 4 (.t 9)]) .ret)))
theorem trsL1Max : trFn Try.prog 59 = some (acsL1Max, [.mv 0 (.t 4)], 10) := by kernel_rfl
def qsL1Max (r : Int) : Exit → St → Prop := retQ [.mv 0 (.t 4)] fun x _ => x = (fun y => (vI y)) r
def acsL7Exprs_J1 : AC := (.ops [.mv 13 (.t 4), .bin 14 .add (.t 13) (kI 1), .asg 4 (.t 14)])
def acsL7Exprs_L0 : AC := (.loop (.seq (.seq (.ops [.mv 8 (.t 4), .fa 9 1 (.t 1), .ld 10 1 false (.t 9), .len 11 (.t 10), .bin 12 .lss (.t 8) (.t 11)]) (.cond (.t 12) .skip (.exit 0))) (.seq (.block 1 (.seq (.ops [.fa 15 1 (.t 1), .ld 16 1 false (.t 15), .mv 17 (.t 4), .ia 18 13 (.t 16) (.t 17), .fa 19 0 (.t 18), .ld 20 1 false (.t 19), .not 21 (.t 20)]) (.cond (.t 21) (.ops [.mv 22 (.t 3), .fa 23 1 (.t 1), .ld 24 1 false (.t 23), .mv 25 (.t 4), .ia 26 13 (.t 24) (.t 25), .fa 27 2 (.t 26), .ld 28 10 true (.t 27), .bsl 29 49 10 [(.t 28)], .app 30 49 10 136 (.t 22) (.t 29), .asg 3 (.t 30)]) .skip))) acsL7Exprs_J1)))
def acsL7Exprs_L2 : AC := (.loop (.seq (.seq (.ops [.mv 31 (.t 5), .fa 32 2 (.t 1), .ld 33 1 false (.t 32), .len 34 (.t 33), .bin 35 .lss (.t 31) (.t 34)]) (.cond (.t 35) .skip (.exit 2))) (.seq (.block 3 (.ops [.mv 38 (.t 3), .fa 39 2 (.t 1), .ld 40 1 false (.t 39), .mv 41 (.t 5), .ia 42 3 (.t 40) (.t 41), .fa 43 2 (.t 42), .ld 44 1 false (.t 43), .app 45 49 10 136 (.t 38) (.t 44), .asg 3 (.t 45)])) (.ops [.mv 36 (.t 5), .bin 37 .add (.t 36) (kI 1), .asg 5 (.t 37)]))))
def acsL7Exprs_L3 : AC := (.loop (.seq (.seq (.ops [.mv 50 (.t 6), .fa 51 4 (.t 1), .ld 52 1 false (.t 51), .len 53 (.t 52), .bin 54 .lss (.t 50) (.t 53)]) (.cond (.t 54) .skip (.exit 4))) (.seq (.block 5 (.ops [.mv 57 (.t 3), .fa 58 4 (.t 1), .ld 59 1 false (.t 58), .mv 60 (.t 6), .ia 61 11 (.t 59) (.t 60), .fa 62 0 (.t 61), .ld 63 10 true (.t 62), .bsl 64 49 10 [(.t 63)], .app 65 49 10 136 (.t 57) (.t 64), .asg 3 (.t 65)])) (.ops [.mv 55 (.t 6), .bin 56 .add (.t 55) (kI 1), .asg 6 (.t 56)]))))
def acsL7Exprs : AC := (.seq (.ops [.box 1 (.t 0), .asg 2 (.c (.nil 10))]) (.seq (.ops [.bsl 7 49 10 [], .asg 3 (.t 7)]) (.seq (.seq (.ops [.asg 4 (kI 0)]) (.block 0 acsL7Exprs_L0)) (.seq (.seq (.ops [.asg 5 (kI 0)]) (.block 2 acsL7Exprs_L2)) (.seq (.ops [.mv 46 (.t 3), .fa 47 3 (.t 1), .ld 48 1 false (.t 47), .app 49 49 10 136 (.t 46) (.t 48), .asg 3 (.t 49)]) (.seq (.seq (.ops [.asg 6 (kI 0)]) (.block 4 acsL7Exprs_L3)) (.seq (.ops [.mv 66 (.t 3), .asg 2 (.t 66)]) .ret)))))))
theorem trsL7Exprs : trFn Try.prog 58 = some (acsL7Exprs, [.mv 0 (.t 2)], 67) := by kernel_rfl
def qsL7Exprs (r : (List GExpr)) : Exit → St → Prop := retQ [.mv 0 (.t 2)] fun x b => x = (fun (y : (List GExpr)) => (.osl 2000000 49 10 (y.map cGExpr))) r ∧ bxHas ((fun (y : (List GExpr)) => []) r) b
def qsL7Exprs_0 (r : (List GExpr)) : Exit → St → Prop := (thenK (wkK (avc Try.prog (.seq (.seq (.ops [.asg 5 (.c (.d (.i .i64 0)))]) (.block 2 acsL7Exprs_L2)) (.seq (.ops [.mv 46 (.t 3), .fa 47 3 (.t 1), .ld 48 1 false (.t 47), .app 49 49 10 136 (.t 46) (.t 48), .asg 3 (.t 49)]) (.seq (.seq (.ops [.asg 6 (.c (.d (.i .i64 0)))]) (.block 4 acsL7Exprs_L3)) (.seq (.ops [.mv 66 (.t 3), .asg 2 (.t 66)]) .ret)))) (qsL7Exprs r))) (qsL7Exprs r))
def qsL7Exprs_1 (r : (List GExpr)) : Exit → St → Prop := (blockK 0 (qsL7Exprs_0 r))
def qsL7Exprs_2 (r : (List GExpr)) : Exit → St → Prop := (thenK (avc Try.prog acsL7Exprs_L0 (qsL7Exprs_1 r)) (qsL7Exprs_1 r))
def qsL7Exprs_3 (r : (List GExpr)) : Exit → St → Prop := (thenK (wkK (avc Try.prog (.seq (.ops [.mv 46 (.t 3), .fa 47 3 (.t 1), .ld 48 1 false (.t 47), .app 49 49 10 136 (.t 46) (.t 48), .asg 3 (.t 49)]) (.seq (.seq (.ops [.asg 6 (.c (.d (.i .i64 0)))]) (.block 4 acsL7Exprs_L3)) (.seq (.ops [.mv 66 (.t 3), .asg 2 (.t 66)]) .ret))) (qsL7Exprs r))) (qsL7Exprs r))
def qsL7Exprs_4 (r : (List GExpr)) : Exit → St → Prop := (blockK 2 (qsL7Exprs_3 r))
def qsL7Exprs_5 (r : (List GExpr)) : Exit → St → Prop := (thenK (wkK (avc Try.prog (.seq (.ops [.mv 66 (.t 3), .asg 2 (.t 66)]) .ret) (qsL7Exprs r))) (qsL7Exprs r))
def qsL7Exprs_6 (r : (List GExpr)) : Exit → St → Prop := (blockK 4 (qsL7Exprs_5 r))
def stsL7Exprs_L0 (p0 : GQuery) (x3 : (List GExpr)) (x4 : Int) : St := ⟨[(1, (.ptr 1 0)), (3, (.osl 3 49 10 (x3.map cGExpr))), (4, (vI x4))], [(1, bGQuery p0)]⟩
def stsL7Exprs_J1 (x4 : Int) (p0 : GQuery) (x3_4 : (List GExpr)) : St := ⟨[(1, (.ptr 1 0)), (3, (.osl 3 49 10 (x3_4.map cGExpr))), (4, (vI x4))], [(1, bGQuery p0)]⟩
def stsL7Exprs_L2 (p0 : GQuery) (x3_5 : (List GExpr)) (x5 : Int) : St := ⟨[(1, (.ptr 1 0)), (3, (.osl 3 49 10 (x3_5.map cGExpr))), (5, (vI x5))], [(1, bGQuery p0)]⟩
def stsL7Exprs_L3 (p0 : GQuery) (x3_9 : (List GExpr)) (x6 : Int) : St := ⟨[(1, (.ptr 1 0)), (3, (.osl 3 49 10 (x3_9.map cGExpr))), (6, (vI x6))], [(1, bGQuery p0)]⟩
def acsQuerySize_L0 : AC := (.loop (.seq (.seq (.ops [.mv 8 (.t 5), .mv 9 (.t 4), .len 10 (.t 9), .bin 11 .lss (.t 8) (.t 10)]) (.cond (.t 11) .skip (.exit 0))) (.seq (.block 1 (.ops [.mv 14 (.t 3), .mv 15 (.t 4), .mv 16 (.t 5), .ia 17 10 (.t 15) (.t 16), .ld 18 10 true (.t 17), .call (some 19) 93 [(.t 18)], .bin 20 .add (.t 14) (.t 19), .asg 3 (.t 20)])) (.ops [.mv 12 (.t 5), .bin 13 .add (.t 12) (kI 1), .asg 5 (.t 13)]))))
def acsQuerySize : AC := (.seq (.ops [.box 1 (.t 0), .asg 2 (kI 0)]) (.seq (.ops [.asg 3 (kI 0)]) (.seq (.ops [.ld 6 6 true (.t 1), .call (some 7) 58 [(.t 6)], .asg 4 (.t 7)]) (.seq (.seq (.ops [.asg 5 (kI 0)]) (.block 0 acsQuerySize_L0)) (.seq (.ops [.mv 21 (.t 3), .asg 2 (.t 21)]) .ret)))))
theorem trsQuerySize : trFn Try.prog 100 = some (acsQuerySize, [.mv 0 (.t 2)], 22) := by kernel_rfl
def qsQuerySize (r : Int) : Exit → St → Prop := retQ [.mv 0 (.t 2)] fun x _ => x = (fun y => (vI y)) r
def qsQuerySize_0 (r : Int) : Exit → St → Prop := (thenK (wkK (avc Try.prog (.seq (.ops [.mv 21 (.t 3), .asg 2 (.t 21)]) .ret) (qsQuerySize r))) (qsQuerySize r))
def qsQuerySize_1 (r : Int) : Exit → St → Prop := (blockK 0 (qsQuerySize_0 r))
def stsQuerySize_L0 (y1 : (List GExpr)) (x3 : Int) (x5 : Int) : St := ⟨[(3, (vI x3)), (4, (.osl 4 49 10 (y1.map cGExpr))), (5, (vI x5))], []⟩
def acsSizeOf_L0 : AC := (.loop (.seq (.seq (.ops [.mv 6 (.t 4), .fa 7 8 (.t 1), .ld 8 1 false (.t 7), .len 9 (.t 8), .bin 10 .lss (.t 6) (.t 9)]) (.cond (.t 10) .skip (.exit 0))) (.seq (.block 1 (.ops [.mv 13 (.t 3), .fa 14 8 (.t 1), .ld 15 1 false (.t 14), .mv 16 (.t 4), .ia 17 10 (.t 15) (.t 16), .ld 18 10 true (.t 17), .call (some 19) 93 [(.t 18)], .bin 20 .add (.t 13) (.t 19), .asg 3 (.t 20)])) (.ops [.mv 11 (.t 4), .bin 12 .add (.t 11) (kI 1), .asg 4 (.t 12)]))))
def acsSizeOf_L1 : AC := (.loop (.seq (.seq (.ops [.mv 21 (.t 5), .fa 22 9 (.t 1), .ld 23 1 false (.t 22), .len 24 (.t 23), .bin 25 .lss (.t 21) (.t 24)]) (.cond (.t 25) .skip (.exit 2))) (.seq (.block 3 (.ops [.mv 28 (.t 3), .fa 29 9 (.t 1), .ld 30 1 false (.t 29), .mv 31 (.t 5), .ia 32 6 (.t 30) (.t 31), .ld 33 6 true (.t 32), .call (some 34) 100 [(.t 33)], .bin 35 .add (.t 28) (.t 34), .asg 3 (.t 35)])) (.ops [.mv 26 (.t 5), .bin 27 .add (.t 26) (kI 1), .asg 5 (.t 27)]))))
def acsSizeOf : AC := (.seq (.ops [.box 1 (.t 0), .asg 2 (kI 0)]) (.seq (.ops [.asg 3 (kI 1)]) (.seq (.seq (.ops [.asg 4 (kI 0)]) (.block 0 acsSizeOf_L0)) (.seq (.seq (.ops [.asg 5 (kI 0)]) (.block 2 acsSizeOf_L1)) (.seq (.ops [.mv 36 (.t 3), .asg 2 (.t 36)]) .ret)))))
theorem trsSizeOf : trFn Try.prog 93 = some (acsSizeOf, [.mv 0 (.t 2)], 37) := by kernel_rfl
def qsSizeOf (r : Int) : Exit → St → Prop := retQ [.mv 0 (.t 2)] fun x _ => x = (fun y => (vI y)) r
def qsSizeOf_0 (r : Int) : Exit → St → Prop := (thenK (wkK (avc Try.prog (.seq (.seq (.ops [.asg 5 (.c (.d (.i .i64 0)))]) (.block 2 acsSizeOf_L1)) (.seq (.ops [.mv 36 (.t 3), .asg 2 (.t 36)]) .ret)) (qsSizeOf r))) (qsSizeOf r))
def qsSizeOf_1 (r : Int) : Exit → St → Prop := (blockK 0 (qsSizeOf_0 r))
def qsSizeOf_2 (r : Int) : Exit → St → Prop := (thenK (wkK (avc Try.prog (.seq (.ops [.mv 36 (.t 3), .asg 2 (.t 36)]) .ret) (qsSizeOf r))) (qsSizeOf r))
def qsSizeOf_3 (r : Int) : Exit → St → Prop := (blockK 2 (qsSizeOf_2 r))
def stsSizeOf_L0 (p0 : GExpr) (x3 : Int) (x4 : Int) : St := ⟨[(1, (.ptr 1 0)), (3, (vI x3)), (4, (vI x4))], [(1, bGExpr p0)]⟩
def stsSizeOf_L1 (p0 : GExpr) (x3_3 : Int) (x5 : Int) : St := ⟨[(1, (.ptr 1 0)), (3, (vI x3_3)), (5, (vI x5))], [(1, bGExpr p0)]⟩
def acsL7RightQuery_L0 : AC := (.loop (.seq (.seq (.ops [.mv 38 (.t 3), .fa 39 1 (.t 1), .ld 40 1 false (.t 39), .len 41 (.t 40), .bin 42 .lss (.t 38) (.t 41)]) (.cond (.t 42) .skip (.exit 0))) (.seq (.block 1 (.seq (.ops [.fa 45 1 (.t 1), .ld 46 1 false (.t 45), .mv 47 (.t 3), .ia 48 13 (.t 46) (.t 47), .ld 49 13 true (.t 48), .alc 4 [(.d (.b false)), (.d (.s (bs []))), (.d (.i .i64 0)), (.d (.i .i64 0)), (.d (.b false)), (.d (.i .i64 0)), (.d (.i .i64 0)), (.d (.s (bs []))), (.d (.s (bs []))), (.d (.s (bs []))), (.nil 10), (.nil 6), (.d (.s (bs [])))], .st 13 (.t 4) (.t 49)]) (.seq (.ops [.fa 50 0 (.t 4), .ld 51 1 false (.t 50), .mv 52 (.t 51), .g 52 true (.fa 53 1 (.t 4)), .g 52 true (.ld 54 1 false (.t 53)), .g 52 true (.call (some 55) 153 [(.t 54)]), .g 52 true (.not 56 (.t 55)), .g 52 true (.mv 57 (.t 56)), .g 57 false (.fa 58 12 (.t 4)), .g 57 false (.ld 59 1 false (.t 58)), .g 57 false (.bin 60 .neq (.t 59) (.c (.d (.s (bs []))))), .g 52 true (.pick 61 (.t 57) (kB true) (.t 60)), .g 52 true (.mv 62 (.t 61)), .g 62 false (.fa 63 2 (.t 4)), .g 62 false (.ld 64 10 true (.t 63)), .g 62 false (.bld 65 [(.d (.i .i64 0)), (.d (.i .i64 0)), (.d (.b false)), (.d (.i .i64 0)), (.d (.i .i64 0)), (.d (.s (bs []))), (.d (.s (bs []))), (.d (.s (bs []))), (.nil 10), (.nil 6)] []), .g 62 false (.call (some 66) 154 [(.t 64), (.t 65)]), .g 62 false (.not 67 (.t 66)), .g 52 true (.pick 68 (.t 62) (kB true) (.t 67)), .pick 69 (.t 52) (.t 68) (kB false), .mv 70 (.t 69), .g 70 false (.fa 71 0 (.t 4)), .g 70 false (.ld 72 1 false (.t 71)), .g 70 false (.not 73 (.t 72)), .g 70 false (.mv 74 (.t 73)), .g 74 true (.fa 75 1 (.t 4)), .g 74 true (.ld 76 1 false (.t 75)), .g 74 true (.bin 77 .neq (.t 76) (.c (.d (.s (bs []))))), .g 74 true (.mv 78 (.t 77)), .g 78 false (.fa 79 12 (.t 4)), .g 78 false (.ld 80 1 false (.t 79)), .g 78 false (.call (some 81) 153 [(.t 80)]), .g 78 false (.not 82 (.t 81)), .g 74 true (.pick 83 (.t 78) (kB true) (.t 82)), .g 70 false (.pick 84 (.t 74) (.t 83) (kB false)), .pick 85 (.t 70) (kB true) (.t 84)]) (.cond (.t 85) (.seq (.ops [.asg 2 (kB false)]) .ret) .skip)))) (.ops [.mv 43 (.t 3), .bin 44 .add (.t 43) (kI 1), .asg 3 (.t 44)]))))
def acsL7RightQuery_L1 : AC := (.loop (.seq (.seq (.ops [.mv 86 (.t 5), .fa 87 2 (.t 1), .ld 88 1 false (.t 87), .len 89 (.t 88), .bin 90 .lss (.t 86) (.t 89)]) (.cond (.t 90) .skip (.exit 2))) (.seq (.block 3 (.seq (.ops [.fa 93 2 (.t 1), .ld 94 1 false (.t 93), .mv 95 (.t 5), .ia 96 3 (.t 94) (.t 95), .ld 97 3 true (.t 96), .alc 6 [(.d (.s (bs []))), (.d (.s (bs []))), (.nil 10)], .st 3 (.t 6) (.t 97)]) (.seq (.ops [.fa 98 0 (.t 6), .ld 99 1 false (.t 98), .call (some 100) 155 [(.t 99)], .not 101 (.t 100), .mv 102 (.t 101), .g 102 false (.fa 103 1 (.t 6)), .g 102 false (.ld 104 1 false (.t 103)), .g 102 false (.call (some 105) 153 [(.t 104)]), .g 102 false (.not 106 (.t 105)), .pick 107 (.t 102) (kB true) (.t 106), .mv 108 (.t 107), .g 108 false (.fa 109 2 (.t 6)), .g 108 false (.ld 110 1 false (.t 109)), .g 108 false (.len 111 (.t 110)), .g 108 false (.bin 112 .gtr (.t 111) (kI 1)), .pick 113 (.t 108) (kB true) (.t 112), .mv 114 (.t 113), .g 114 false (.mv 115 (.t 5)), .g 114 false (.bin 116 .eql (.t 115) (kI 0)), .g 114 false (.mv 117 (.t 116)), .g 117 true (.fa 118 2 (.t 6)), .g 117 true (.ld 119 1 false (.t 118)), .g 117 true (.len 120 (.t 119)), .g 117 true (.bin 121 .gtr (.t 120) (kI 0)), .g 114 false (.pick 122 (.t 117) (.t 121) (kB false)), .pick 123 (.t 114) (kB true) (.t 122)]) (.cond (.t 123) (.seq (.ops [.asg 2 (kB false)]) .ret) .skip)))) (.ops [.mv 91 (.t 5), .bin 92 .add (.t 91) (kI 1), .asg 5 (.t 92)]))))
def acsL7RightQuery_L2 : AC := (.loop (.seq (.seq (.ops [.mv 126 (.t 8), .mv 127 (.t 7), .len 128 (.t 127), .bin 129 .lss (.t 126) (.t 128)]) (.cond (.t 129) .skip (.exit 4))) (.seq (.block 5 (.seq (.ops [.mv 132 (.t 7), .mv 133 (.t 8), .ia 134 10 (.t 132) (.t 133), .ld 135 10 true (.t 134), .call (some 136) 84 [(.t 135)], .not 137 (.t 136)]) (.cond (.t 137) (.seq (.ops [.asg 2 (kB false)]) .ret) .skip))) (.ops [.mv 130 (.t 8), .bin 131 .add (.t 130) (kI 1), .asg 8 (.t 131)]))))
def acsL7RightQuery : AC := (.seq (.ops [.box 1 (.t 0), .asg 2 (kB false)]) (.seq (.seq (.ops [.fa 9 1 (.t 1), .ld 10 1 false (.t 9), .len 11 (.t 10), .call (some 12) 126 [(.t 11), (kI 1), (kI 12)], .not 13 (.t 12), .mv 14 (.t 13), .g 14 false (.fa 15 2 (.t 1)), .g 14 false (.ld 16 1 false (.t 15)), .g 14 false (.len 17 (.t 16)), .g 14 false (.call (some 18) 126 [(.t 17), (kI 1), (kI 3)]), .g 14 false (.not 19 (.t 18)), .pick 20 (.t 14) (kB true) (.t 19), .mv 21 (.t 20), .g 21 false (.fa 22 3 (.t 1)), .g 21 false (.ld 23 1 false (.t 22)), .g 21 false (.len 24 (.t 23)), .g 21 false (.bin 25 .gtr (.t 24) (kI 1)), .pick 26 (.t 21) (kB true) (.t 25), .mv 27 (.t 26), .g 27 false (.fa 28 4 (.t 1)), .g 27 false (.ld 29 1 false (.t 28)), .g 27 false (.len 30 (.t 29)), .g 27 false (.bin 31 .gtr (.t 30) (kI 12)), .pick 32 (.t 27) (kB true) (.t 31), .mv 33 (.t 32), .g 33 false (.fa 34 5 (.t 1)), .g 33 false (.ld 35 1 false (.t 34)), .g 33 false (.bin 36 .lss (.t 35) (kI (-1))), .pick 37 (.t 33) (kB true) (.t 36)]) (.cond (.t 37) (.seq (.ops [.asg 2 (kB false)]) .ret) .skip)) (.seq (.seq (.ops [.asg 3 (kI 0)]) (.block 0 acsL7RightQuery_L0)) (.seq (.seq (.ops [.asg 5 (kI 0)]) (.block 2 acsL7RightQuery_L1)) (.seq (.ops [.ld 124 6 true (.t 1), .call (some 125) 58 [(.t 124)], .asg 7 (.t 125)]) (.seq (.seq (.ops [.asg 8 (kI 0)]) (.block 4 acsL7RightQuery_L2)) (.seq (.ops [.asg 2 (kB true)]) .ret)))))))
theorem trsL7RightQuery : trFn Try.prog 99 = some (acsL7RightQuery, [.mv 0 (.t 2)], 138) := by kernel_rfl
def qsL7RightQuery (r : Bool) : Exit → St → Prop := retQ [.mv 0 (.t 2)] fun x _ => x = (fun y => (vB y)) r
def qsL7RightQuery_0 (r : Bool) : Exit → St → Prop := (thenK (wkK (avc Try.prog (.seq (.seq (.ops [.asg 5 (.c (.d (.i .i64 0)))]) (.block 2 acsL7RightQuery_L1)) (.seq (.ops [.ld 124 6 true (.t 1), .call (some 125) 58 [(.t 124)], .asg 7 (.t 125)]) (.seq (.seq (.ops [.asg 8 (.c (.d (.i .i64 0)))]) (.block 4 acsL7RightQuery_L2)) (.seq (.ops [.asg 2 (.c (.d (.b true)))]) .ret)))) (qsL7RightQuery r))) (qsL7RightQuery r))
def qsL7RightQuery_1 (r : Bool) : Exit → St → Prop := (blockK 0 (qsL7RightQuery_0 r))
def qsL7RightQuery_2 (r : Bool) : Exit → St → Prop := (thenK (wkK (avc Try.prog (.seq (.ops [.ld 124 6 true (.t 1), .call (some 125) 58 [(.t 124)], .asg 7 (.t 125)]) (.seq (.seq (.ops [.asg 8 (.c (.d (.i .i64 0)))]) (.block 4 acsL7RightQuery_L2)) (.seq (.ops [.asg 2 (.c (.d (.b true)))]) .ret))) (qsL7RightQuery r))) (qsL7RightQuery r))
def qsL7RightQuery_3 (r : Bool) : Exit → St → Prop := (blockK 2 (qsL7RightQuery_2 r))
def qsL7RightQuery_4 (r : Bool) : Exit → St → Prop := (thenK (wkK (avc Try.prog (.seq (.ops [.asg 2 (.c (.d (.b true)))]) .ret) (qsL7RightQuery r))) (qsL7RightQuery r))
def qsL7RightQuery_5 (r : Bool) : Exit → St → Prop := (blockK 4 (qsL7RightQuery_4 r))
def stsL7RightQuery_L0 (p0 : GQuery) (x3 : Int) : St := ⟨[(1, (.ptr 1 0)), (3, (vI x3))], [(1, bGQuery p0)]⟩
def stsL7RightQuery_L1 (p0 : GQuery) (x5 : Int) : St := ⟨[(1, (.ptr 1 0)), (5, (vI x5))], [(1, bGQuery p0)]⟩
def stsL7RightQuery_L2 (y24 : (List GExpr)) (x8 : Int) : St := ⟨[(7, (.osl 7 49 10 (y24.map cGExpr))), (8, (vI x8))], []⟩
def acsL1In : AC := (.seq (.ops [.asg 6 (kB false)]) (.seq (.ops [.mv 7 (.t 0), .mv 8 (.t 1), .bin 9 .geq (.t 7) (.t 8), .mv 10 (.t 9), .g 10 true (.mv 11 (.t 0)), .g 10 true (.mv 12 (.t 2)), .g 10 true (.bin 13 .leq (.t 11) (.t 12)), .pick 14 (.t 10) (.t 13) (kB false), .asg 6 (.t 14)]) .ret))
theorem trsL1In : trFn Try.prog 126 = some (acsL1In, [.mv 0 (.t 6)], 15) := by kernel_rfl
def qsL1In (r : Bool) : Exit → St → Prop := retQ [.mv 0 (.t 6)] fun x _ => x = (fun y => (vB y)) r
def acsNameOk : AC := (.seq (.ops [.asg 2 (kB false)]) (.seq (.ops [.mv 3 (.t 0), .lns 4 (.t 3), .call (some 5) 126 [(.t 4), (kI 1), (kI 20)], .asg 2 (.t 5)]) .ret))
theorem trsNameOk : trFn Try.prog 155 = some (acsNameOk, [.mv 0 (.t 2)], 6) := by kernel_rfl
def qsNameOk (r : Bool) : Exit → St → Prop := retQ [.mv 0 (.t 2)] fun x _ => x = (fun y => (vB y)) r
def acsL7Right_L0 : AC := (.loop (.seq (.seq (.ops [.mv 7 (.t 3), .fa 8 8 (.t 1), .ld 9 1 false (.t 8), .len 10 (.t 9), .bin 11 .lss (.t 7) (.t 10)]) (.cond (.t 11) .skip (.exit 0))) (.seq (.block 1 (.seq (.ops [.fa 14 8 (.t 1), .ld 15 1 false (.t 14), .mv 16 (.t 3), .ia 17 10 (.t 15) (.t 16), .ld 18 10 true (.t 17), .call (some 19) 84 [(.t 18)], .not 20 (.t 19)]) (.cond (.t 20) (.seq (.ops [.asg 2 (kB false)]) .ret) .skip))) (.ops [.mv 12 (.t 3), .bin 13 .add (.t 12) (kI 1), .asg 3 (.t 13)]))))
def acsL7Right : AC := (.seq (.ops [.box 1 (.t 0), .asg 2 (kB false)]) (.seq (.seq (.ops [.ld 4 10 true (.t 1), .call (some 5) 142 [(.t 4)], .not 6 (.t 5)]) (.cond (.t 6) (.seq (.ops [.asg 2 (kB false)]) .ret) .skip)) (.seq (.seq (.ops [.asg 3 (kI 0)]) (.block 0 acsL7Right_L0)) (.seq (.ops [.fa 21 9 (.t 1), .ld 22 1 false (.t 21), .len 23 (.t 22), .bin 24 .eql (.t 23) (kI 0), .mv 25 (.t 24), .g 25 false (.fa 26 9 (.t 1)), .g 25 false (.ld 27 1 false (.t 26)), .g 25 false (.ia 28 6 (.t 27) (kI 0)), .g 25 false (.ld 29 6 true (.t 28)), .g 25 false (.call (some 30) 99 [(.t 29)]), .pick 31 (.t 25) (kB true) (.t 30), .asg 2 (.t 31)]) .ret))))
theorem trsL7Right : trFn Try.prog 84 = some (acsL7Right, [.mv 0 (.t 2)], 32) := by kernel_rfl
def qsL7Right (r : Bool) : Exit → St → Prop := retQ [.mv 0 (.t 2)] fun x _ => x = (fun y => (vB y)) r
def qsL7Right_0 (r : Bool) : Exit → St → Prop := (thenK (wkK (avc Try.prog (.seq (.ops [.fa 21 9 (.t 1), .ld 22 1 false (.t 21), .len 23 (.t 22), .bin 24 .eql (.t 23) (.c (.d (.i .i64 0))), .mv 25 (.t 24), .g 25 false (.fa 26 9 (.t 1)), .g 25 false (.ld 27 1 false (.t 26)), .g 25 false (.ia 28 6 (.t 27) (.c (.d (.i .i64 0)))), .g 25 false (.ld 29 6 true (.t 28)), .g 25 false (.call (some 30) 99 [(.t 29)]), .pick 31 (.t 25) (.c (.d (.b true))) (.t 30), .asg 2 (.t 31)]) .ret) (qsL7Right r))) (qsL7Right r))
def qsL7Right_1 (r : Bool) : Exit → St → Prop := (blockK 0 (qsL7Right_0 r))
def stsL7Right_L0 (p0 : GExpr) (x3 : Int) : St := ⟨[(1, (.ptr 1 0)), (3, (vI x3))], [(1, bGExpr p0)]⟩
def acsL7Shape : AC := (.seq (.ops [.box 1 (.t 0), .asg 2 (kB false)]) (.seq (.ops [.fa 5 8 (.t 1), .ld 6 1 false (.t 5), .len 7 (.t 6), .asg 3 (.t 7)]) (.seq (.ops [.fa 8 9 (.t 1), .ld 9 1 false (.t 8), .len 10 (.t 9), .asg 4 (.t 10)]) (.seq (.seq (.ops [.fa 11 0 (.t 1), .ld 12 1 false (.t 11), .bin 13 .neq (.t 12) (kI 2), .mv 14 (.t 13), .g 14 true (.fa 15 6 (.t 1)), .g 14 true (.ld 16 1 false (.t 15)), .g 14 true (.bin 17 .neq (.t 16) (.c (.d (.s (bs []))))), .g 14 true (.mv 18 (.t 17)), .g 18 false (.fa 19 7 (.t 1)), .g 18 false (.ld 20 1 false (.t 19)), .g 18 false (.bin 21 .neq (.t 20) (.c (.d (.s (bs []))))), .g 14 true (.pick 22 (.t 18) (kB true) (.t 21)), .pick 23 (.t 14) (.t 22) (kB false), .mv 24 (.t 23), .g 24 false (.fa 25 0 (.t 1)), .g 24 false (.ld 26 1 false (.t 25)), .g 24 false (.bin 27 .neq (.t 26) (kI 1)), .g 24 false (.mv 28 (.t 27)), .g 28 true (.fa 29 3 (.t 1)), .g 28 true (.ld 30 3 true (.t 29)), .g 28 true (.bld 31 [(.d (.i .i64 0)), (.d (.i .i64 0)), (.d (.s (bs [])))] []), .g 28 true (.eqv 32 true [0, 0, 1] (.t 30) (.t 31)), .g 24 false (.pick 33 (.t 28) (.t 32) (kB false)), .pick 34 (.t 24) (kB true) (.t 33)]) (.cond (.t 34) (.seq (.ops [.asg 2 (kB false)]) .ret) .skip)) (.seq (.seq (.ops [.fa 35 0 (.t 1), .ld 36 1 false (.t 35), .bin 37 .neq (.t 36) (kI 3), .mv 38 (.t 37), .g 38 true (.fa 39 0 (.t 1)), .g 38 true (.ld 40 1 false (.t 39)), .g 38 true (.bin 41 .neq (.t 40) (kI 4)), .pick 42 (.t 38) (.t 41) (kB false), .mv 43 (.t 42), .g 43 true (.fa 44 1 (.t 1)), .g 43 true (.ld 45 1 false (.t 44)), .g 43 true (.bin 46 .neq (.t 45) (kI 0)), .pick 47 (.t 43) (.t 46) (kB false), .mv 48 (.t 47), .g 48 false (.fa 49 2 (.t 1)), .g 48 false (.ld 50 1 false (.t 49)), .g 48 false (.mv 51 (.t 50)), .g 51 true (.fa 52 0 (.t 1)), .g 51 true (.ld 53 1 false (.t 52)), .g 51 true (.call (some 54) 126 [(.t 53), (kI 5), (kI 8)]), .g 51 true (.not 55 (.t 54)), .g 48 false (.pick 56 (.t 51) (.t 55) (kB false)), .pick 57 (.t 48) (kB true) (.t 56)]) (.cond (.t 57) (.seq (.ops [.asg 2 (kB false)]) .ret) .skip)) (.seq (.seq (.ops [.fa 58 0 (.t 1), .ld 59 1 false (.t 58)]) (.block 0 (.seq (.ops [.bin 61 .eql (.t 59) (kI 1), .asg 60 (.t 61)]) (.cond (.t 60) (.seq (.ops [.fa 62 3 (.t 1), .ld 63 3 true (.t 62), .call (some 64) 188 [(.t 63)], .mv 65 (.t 64), .g 65 true (.mv 66 (.t 3)), .g 65 true (.mv 67 (.t 4)), .g 65 true (.bin 68 .add (.t 66) (.t 67)), .g 65 true (.bin 69 .eql (.t 68) (kI 0)), .pick 70 (.t 65) (.t 69) (kB false), .asg 2 (.t 70)]) .ret) (.seq (.ops [.bin 72 .eql (.t 59) (kI 2), .asg 71 (.t 72)]) (.cond (.t 71) (.seq (.ops [.fa 73 7 (.t 1), .ld 74 1 false (.t 73), .call (some 75) 155 [(.t 74)], .mv 76 (.t 75), .g 76 true (.fa 77 6 (.t 1)), .g 76 true (.ld 78 1 false (.t 77)), .g 76 true (.call (some 79) 153 [(.t 78)]), .pick 80 (.t 76) (.t 79) (kB false), .mv 81 (.t 80), .g 81 true (.mv 82 (.t 3)), .g 81 true (.mv 83 (.t 4)), .g 81 true (.bin 84 .add (.t 82) (.t 83)), .g 81 true (.bin 85 .eql (.t 84) (kI 0)), .pick 86 (.t 81) (.t 85) (kB false), .asg 2 (.t 86)]) .ret) (.seq (.ops [.bin 88 .eql (.t 59) (kI 3), .asg 87 (.t 88)]) (.cond (.t 87) (.seq (.ops [.fa 89 1 (.t 1), .ld 90 1 false (.t 89), .bin 91 .eql (.t 90) (kI 15), .mv 92 (.t 91), .g 92 false (.fa 93 1 (.t 1)), .g 92 false (.ld 94 1 false (.t 93)), .g 92 false (.bin 95 .eql (.t 94) (kI 16)), .pick 96 (.t 92) (kB true) (.t 95), .mv 97 (.t 96), .g 97 true (.mv 98 (.t 3)), .g 97 true (.bin 99 .eql (.t 98) (kI 1)), .pick 100 (.t 97) (.t 99) (kB false), .mv 101 (.t 100), .g 101 true (.mv 102 (.t 4)), .g 101 true (.bin 103 .eql (.t 102) (kI 0)), .pick 104 (.t 101) (.t 103) (kB false), .asg 2 (.t 104)]) .ret) (.seq (.ops [.bin 106 .eql (.t 59) (kI 4), .asg 105 (.t 106)]) (.cond (.t 105) (.seq (.ops [.fa 107 1 (.t 1), .ld 108 1 false (.t 107), .call (some 109) 126 [(.t 108), (kI 1), (kI 14)], .mv 110 (.t 109), .g 110 true (.mv 111 (.t 3)), .g 110 true (.bin 112 .eql (.t 111) (kI 2)), .pick 113 (.t 110) (.t 112) (kB false), .mv 114 (.t 113), .g 114 true (.mv 115 (.t 4)), .g 114 true (.bin 116 .eql (.t 115) (kI 0)), .pick 117 (.t 114) (.t 116) (kB false), .asg 2 (.t 117)]) .ret) (.seq (.ops [.bin 119 .eql (.t 59) (kI 5), .asg 118 (.t 119)]) (.cond (.t 118) (.seq (.ops [.mv 120 (.t 3), .bin 121 .eql (.t 120) (kI 1), .mv 122 (.t 121), .g 122 true (.mv 123 (.t 4)), .g 122 true (.bin 124 .eql (.t 123) (kI 0)), .pick 125 (.t 122) (.t 124) (kB false), .asg 2 (.t 125)]) .ret) (.seq (.ops [.bin 127 .eql (.t 59) (kI 6), .asg 126 (.t 127)]) (.cond (.t 126) (.seq (.ops [.mv 128 (.t 3), .bin 129 .eql (.t 128) (kI 3), .mv 130 (.t 129), .g 130 true (.mv 131 (.t 4)), .g 130 true (.bin 132 .eql (.t 131) (kI 0)), .pick 133 (.t 130) (.t 132) (kB false), .asg 2 (.t 133)]) .ret) (.seq (.ops [.bin 135 .eql (.t 59) (kI 7), .asg 134 (.t 135)]) (.cond (.t 134) (.seq (.ops [.mv 136 (.t 3), .call (some 137) 126 [(.t 136), (kI 2), (kI 9)], .mv 138 (.t 137), .g 138 true (.mv 139 (.t 4)), .g 138 true (.bin 140 .eql (.t 139) (kI 0)), .pick 141 (.t 138) (.t 140) (kB false), .asg 2 (.t 141)]) .ret) (.seq (.ops [.bin 143 .eql (.t 59) (kI 8), .asg 142 (.t 143)]) (.cond (.t 142) (.seq (.ops [.mv 144 (.t 3), .bin 145 .eql (.t 144) (kI 1), .mv 146 (.t 145), .g 146 true (.mv 147 (.t 4)), .g 146 true (.bin 148 .eql (.t 147) (kI 1)), .pick 149 (.t 146) (.t 148) (kB false), .asg 2 (.t 149)]) .ret) (.seq (.ops [.bin 151 .eql (.t 59) (kI 9), .asg 150 (.t 151)]) (.cond (.t 150) (.seq (.ops [.mv 152 (.t 3), .bin 153 .eql (.t 152) (kI 0), .mv 154 (.t 153), .g 154 true (.mv 155 (.t 4)), .g 154 true (.bin 156 .eql (.t 155) (kI 1)), .pick 157 (.t 154) (.t 156) (kB false), .asg 2 (.t 157)]) .ret) .skip)))))))))))))))))))) (.seq (.ops [.asg 2 (kB false)]) .ret)))))))
theorem trsL7Shape : trFn Try.prog 142 = some (acsL7Shape, [.mv 0 (.t 2)], 158) := by kernel_rfl
def qsL7Shape (r : Bool) : Exit → St → Prop := retQ [.mv 0 (.t 2)] fun x _ => x = (fun y => (vB y)) r
def acsL7Lit : AC := (.seq (.ops [.box 1 (.t 0), .asg 2 (kB false)]) (.seq (.ops [.ld 3 3 true (.t 1), .call (some 4) 211 [(.t 3)], .mv 5 (.t 4), .g 5 true (.fa 6 0 (.t 1)), .g 5 true (.ld 7 1 false (.t 6)), .g 5 true (.bin 8 .neq (.t 7) (kI 1)), .g 5 true (.mv 9 (.t 8)), .g 9 false (.fa 10 1 (.t 1)), .g 9 false (.ld 11 1 false (.t 10)), .g 9 false (.bin 12 .geq (.t 11) (kI 0)), .g 5 true (.pick 13 (.t 9) (kB true) (.t 12)), .pick 14 (.t 5) (.t 13) (kB false), .mv 15 (.t 14), .g 15 true (.fa 16 2 (.t 1)), .g 15 true (.ld 17 1 false (.t 16)), .g 15 true (.lns 18 (.t 17)), .g 15 true (.bin 19 .leq (.t 18) (kI 40)), .pick 20 (.t 15) (.t 19) (kB false), .asg 2 (.t 20)]) .ret))
theorem trsL7Lit : trFn Try.prog 188 = some (acsL7Lit, [.mv 0 (.t 2)], 21) := by kernel_rfl
def qsL7Lit (r : Bool) : Exit → St → Prop := retQ [.mv 0 (.t 2)] fun x _ => x = (fun y => (vB y)) r
def acsValueOk : AC := (.seq (.ops [.box 1 (.t 0), .asg 2 (kB false)]) (.seq (.seq (.ops [.fa 3 0 (.t 1), .ld 4 1 false (.t 3)]) (.block 0 (.seq (.ops [.bin 6 .eql (.t 4) (kI 0), .asg 5 (.t 6)]) (.cond (.t 5) (.seq (.ops [.fa 7 1 (.t 1), .ld 8 1 false (.t 7), .bin 9 .eql (.t 8) (kI 0), .mv 10 (.t 9), .g 10 true (.fa 11 2 (.t 1)), .g 10 true (.ld 12 1 false (.t 11)), .g 10 true (.bin 13 .eql (.t 12) (.c (.d (.s (bs []))))), .pick 14 (.t 10) (.t 13) (kB false), .asg 2 (.t 14)]) .ret) (.seq (.ops [.bin 16 .eql (.t 4) (kI 1), .asg 15 (.t 16)]) (.cond (.t 15) (.seq (.ops [.fa 17 2 (.t 1), .ld 18 1 false (.t 17), .bin 19 .eql (.t 18) (.c (.d (.s (bs [])))), .asg 2 (.t 19)]) .ret) (.seq (.ops [.bin 21 .eql (.t 4) (kI 2), .asg 20 (.t 21)]) (.cond (.t 20) (.seq (.ops [.fa 22 1 (.t 1), .ld 23 1 false (.t 22), .bin 24 .eql (.t 23) (kI 0), .mv 25 (.t 24), .g 25 true (.fa 26 2 (.t 1)), .g 25 true (.ld 27 1 false (.t 26)), .g 25 true (.lns 28 (.t 27)), .g 25 true (.bin 29 .leq (.t 28) (kI 200)), .pick 30 (.t 25) (.t 29) (kB false), .asg 2 (.t 30)]) .ret) (.seq (.ops [.bin 32 .eql (.t 4) (kI 3), .asg 31 (.t 32)]) (.cond (.t 31) (.seq (.ops [.fa 33 1 (.t 1), .ld 34 1 false (.t 33), .call (some 35) 126 [(.t 34), (kI 0), (kI 1)], .mv 36 (.t 35), .g 36 true (.fa 37 2 (.t 1)), .g 36 true (.ld 38 1 false (.t 37)), .g 36 true (.bin 39 .eql (.t 38) (.c (.d (.s (bs []))))), .pick 40 (.t 36) (.t 39) (kB false), .asg 2 (.t 40)]) .ret) .skip)))))))))) (.seq (.ops [.asg 2 (kB false)]) .ret)))
theorem trsValueOk : trFn Try.prog 211 = some (acsValueOk, [.mv 0 (.t 2)], 41) := by kernel_rfl
def qsValueOk (r : Bool) : Exit → St → Prop := retQ [.mv 0 (.t 2)] fun x _ => x = (fun y => (vB y)) r
def acsL7Maybe : AC := (.seq (.ops [.asg 2 (kB false)]) (.seq (.ops [.mv 3 (.t 0), .bin 4 .eql (.t 3) (.c (.d (.s (bs [])))), .mv 5 (.t 4), .g 5 false (.mv 6 (.t 0)), .g 5 false (.call (some 7) 155 [(.t 6)]), .pick 8 (.t 5) (kB true) (.t 7), .asg 2 (.t 8)]) .ret))
theorem trsL7Maybe : trFn Try.prog 153 = some (acsL7Maybe, [.mv 0 (.t 2)], 9) := by kernel_rfl
def qsL7Maybe (r : Bool) : Exit → St → Prop := retQ [.mv 0 (.t 2)] fun x _ => x = (fun y => (vB y)) r
def acsSameExpr_L0 : AC := (.loop (.seq (.seq (.ops [.mv 63 (.t 5), .fa 64 9 (.t 2), .ld 65 1 false (.t 64), .len 66 (.t 65), .bin 67 .lss (.t 63) (.t 66)]) (.cond (.t 67) .skip (.exit 0))) (.seq (.block 1 (.seq (.dops [[], [0], [], [1, 2], [3], [], [5], [], [6, 7], [8], [4, 9], [10]] [.fa 70 9 (.t 2), .ld 71 1 false (.t 70), .mv 72 (.t 5), .ia 73 6 (.t 71) (.t 72), .ld 74 6 true (.t 73), .fa 75 9 (.t 3), .ld 76 1 false (.t 75), .mv 77 (.t 5), .ia 78 6 (.t 76) (.t 77), .ld 79 6 true (.t 78), .call (some 80) 190 [(.t 74), (.t 79)], .not 81 (.t 80)]) (.cond (.t 81) (.seq (.ops [.asg 4 (kB false)]) .ret) .skip))) (.ops [.mv 68 (.t 5), .bin 69 .add (.t 68) (kI 1), .asg 5 (.t 69)]))))
def acsSameExpr : AC := (.seq (.ops [.box 2 (.t 0), .box 3 (.t 1), .asg 4 (kB false)]) (.seq (.seq (.ops [.fa 6 0 (.t 2), .ld 7 1 false (.t 6), .fa 8 0 (.t 3), .ld 9 1 false (.t 8), .bin 10 .neq (.t 7) (.t 9), .mv 11 (.t 10), .g 11 false (.fa 12 1 (.t 2)), .g 11 false (.ld 13 1 false (.t 12)), .g 11 false (.fa 14 1 (.t 3)), .g 11 false (.ld 15 1 false (.t 14)), .g 11 false (.bin 16 .neq (.t 13) (.t 15)), .pick 17 (.t 11) (kB true) (.t 16), .mv 18 (.t 17), .g 18 false (.fa 19 2 (.t 2)), .g 18 false (.ld 20 1 false (.t 19)), .g 18 false (.fa 21 2 (.t 3)), .g 18 false (.ld 22 1 false (.t 21)), .g 18 false (.eqb 23 true (.t 20) (.t 22)), .pick 24 (.t 18) (kB true) (.t 23), .mv 25 (.t 24), .g 25 false (.fa 26 3 (.t 2)), .g 25 false (.ld 27 3 true (.t 26)), .g 25 false (.fa 28 3 (.t 3)), .g 25 false (.ld 29 3 true (.t 28)), .g 25 false (.eqv 30 true [0, 0, 1] (.t 27) (.t 29)), .pick 31 (.t 25) (kB true) (.t 30), .mv 32 (.t 31), .g 32 false (.fa 33 6 (.t 2)), .g 32 false (.ld 34 1 false (.t 33)), .g 32 false (.fa 35 6 (.t 3)), .g 32 false (.ld 36 1 false (.t 35)), .g 32 false (.bin 37 .neq (.t 34) (.t 36)), .pick 38 (.t 32) (kB true) (.t 37), .mv 39 (.t 38), .g 39 false (.fa 40 7 (.t 2)), .g 39 false (.ld 41 1 false (.t 40)), .g 39 false (.fa 42 7 (.t 3)), .g 39 false (.ld 43 1 false (.t 42)), .g 39 false (.bin 44 .neq (.t 41) (.t 43)), .pick 45 (.t 39) (kB true) (.t 44), .mv 46 (.t 45), .g 46 false (.fa 47 9 (.t 2)), .g 46 false (.ld 48 1 false (.t 47)), .g 46 false (.len 49 (.t 48)), .g 46 false (.fa 50 9 (.t 3)), .g 46 false (.ld 51 1 false (.t 50)), .g 46 false (.len 52 (.t 51)), .g 46 false (.bin 53 .neq (.t 49) (.t 52)), .pick 54 (.t 46) (kB true) (.t 53), .mv 55 (.t 54), .g 55 false (.fa 56 8 (.t 2)), .g 55 false (.ld 57 1 false (.t 56)), .g 55 false (.fa 58 8 (.t 3)), .g 55 false (.ld 59 1 false (.t 58)), .g 55 false (.call (some 60) 189 [(.t 57), (.t 59)]), .g 55 false (.not 61 (.t 60)), .pick 62 (.t 55) (kB true) (.t 61)]) (.cond (.t 62) (.seq (.ops [.asg 4 (kB false)]) .ret) .skip)) (.seq (.seq (.ops [.asg 5 (kI 0)]) (.block 0 acsSameExpr_L0)) (.seq (.ops [.asg 4 (kB true)]) .ret))))
theorem trsSameExpr : trFn Try.prog 154 = some (acsSameExpr, [.mv 0 (.t 4)], 82) := by kernel_rfl
def qsSameExpr (r : Bool) : Exit → St → Prop := retQ [.mv 0 (.t 4)] fun x _ => x = (fun y => (vB y)) r
def qsSameExpr_0 (r : Bool) : Exit → St → Prop := (thenK (wkK (avc Try.prog (.seq (.ops [.asg 4 (.c (.d (.b true)))]) .ret) (qsSameExpr r))) (qsSameExpr r))
def qsSameExpr_1 (r : Bool) : Exit → St → Prop := (blockK 0 (qsSameExpr_0 r))
def stsSameExpr_L0 (p0 : GExpr) (p1 : GExpr) (x5 : Int) : St := ⟨[(2, (.ptr 2 0)), (3, (.ptr 3 0)), (5, (vI x5))], [(2, bGExpr p0), (3, bGExpr p1)]⟩
def acsSameQuery_L0 : AC := (.loop (.seq (.seq (.ops [.mv 59 (.t 5), .fa 60 1 (.t 2), .ld 61 1 false (.t 60), .len 62 (.t 61), .bin 63 .lss (.t 59) (.t 62)]) (.cond (.t 63) .skip (.exit 0))) (.seq (.block 1 (.seq (.ops [.fa 66 1 (.t 2), .ld 67 1 false (.t 66), .mv 68 (.t 5), .ia 69 13 (.t 67) (.t 68), .ld 70 13 true (.t 69), .alc 6 [(.d (.b false)), (.d (.s (bs []))), (.d (.i .i64 0)), (.d (.i .i64 0)), (.d (.b false)), (.d (.i .i64 0)), (.d (.i .i64 0)), (.d (.s (bs []))), (.d (.s (bs []))), (.d (.s (bs []))), (.nil 10), (.nil 6), (.d (.s (bs [])))], .st 13 (.t 6) (.t 70)]) (.seq (.ops [.fa 71 1 (.t 3), .ld 72 1 false (.t 71), .mv 73 (.t 5), .ia 74 13 (.t 72) (.t 73), .ld 75 13 true (.t 74), .alc 7 [(.d (.b false)), (.d (.s (bs []))), (.d (.i .i64 0)), (.d (.i .i64 0)), (.d (.b false)), (.d (.i .i64 0)), (.d (.i .i64 0)), (.d (.s (bs []))), (.d (.s (bs []))), (.d (.s (bs []))), (.nil 10), (.nil 6), (.d (.s (bs [])))], .st 13 (.t 7) (.t 75)]) (.seq (.ops [.fa 76 0 (.t 6), .ld 77 1 false (.t 76), .fa 78 0 (.t 7), .ld 79 1 false (.t 78), .eqb 80 true (.t 77) (.t 79), .mv 81 (.t 80), .g 81 false (.fa 82 1 (.t 6)), .g 81 false (.ld 83 1 false (.t 82)), .g 81 false (.fa 84 1 (.t 7)), .g 81 false (.ld 85 1 false (.t 84)), .g 81 false (.bin 86 .neq (.t 83) (.t 85)), .pick 87 (.t 81) (kB true) (.t 86), .mv 88 (.t 87), .g 88 false (.fa 89 12 (.t 6)), .g 88 false (.ld 90 1 false (.t 89)), .g 88 false (.fa 91 12 (.t 7)), .g 88 false (.ld 92 1 false (.t 91)), .g 88 false (.bin 93 .neq (.t 90) (.t 92)), .pick 94 (.t 88) (kB true) (.t 93), .mv 95 (.t 94), .g 95 false (.fa 96 2 (.t 6)), .g 95 false (.ld 97 10 true (.t 96)), .g 95 false (.fa 98 2 (.t 7)), .g 95 false (.ld 99 10 true (.t 98)), .g 95 false (.call (some 100) 154 [(.t 97), (.t 99)]), .g 95 false (.not 101 (.t 100)), .pick 102 (.t 95) (kB true) (.t 101)]) (.cond (.t 102) (.seq (.ops [.asg 4 (kB false)]) .ret) .skip))))) (.ops [.mv 64 (.t 5), .bin 65 .add (.t 64) (kI 1), .asg 5 (.t 65)]))))
def acsSameQuery_L1 : AC := (.loop (.seq (.seq (.ops [.mv 103 (.t 8), .fa 104 2 (.t 2), .ld 105 1 false (.t 104), .len 106 (.t 105), .bin 107 .lss (.t 103) (.t 106)]) (.cond (.t 107) .skip (.exit 2))) (.seq (.block 3 (.seq (.ops [.fa 110 2 (.t 2), .ld 111 1 false (.t 110), .mv 112 (.t 8), .ia 113 3 (.t 111) (.t 112), .ld 114 3 true (.t 113), .alc 9 [(.d (.s (bs []))), (.d (.s (bs []))), (.nil 10)], .st 3 (.t 9) (.t 114)]) (.seq (.ops [.fa 115 2 (.t 3), .ld 116 1 false (.t 115), .mv 117 (.t 8), .ia 118 3 (.t 116) (.t 117), .ld 119 3 true (.t 118), .alc 10 [(.d (.s (bs []))), (.d (.s (bs []))), (.nil 10)], .st 3 (.t 10) (.t 119)]) (.seq (.ops [.fa 120 0 (.t 9), .ld 121 1 false (.t 120), .fa 122 0 (.t 10), .ld 123 1 false (.t 122), .bin 124 .neq (.t 121) (.t 123), .mv 125 (.t 124), .g 125 false (.fa 126 1 (.t 9)), .g 125 false (.ld 127 1 false (.t 126)), .g 125 false (.fa 128 1 (.t 10)), .g 125 false (.ld 129 1 false (.t 128)), .g 125 false (.bin 130 .neq (.t 127) (.t 129)), .pick 131 (.t 125) (kB true) (.t 130), .mv 132 (.t 131), .g 132 false (.fa 133 2 (.t 9)), .g 132 false (.ld 134 1 false (.t 133)), .g 132 false (.fa 135 2 (.t 10)), .g 132 false (.ld 136 1 false (.t 135)), .g 132 false (.call (some 137) 189 [(.t 134), (.t 136)]), .g 132 false (.not 138 (.t 137)), .pick 139 (.t 132) (kB true) (.t 138)]) (.cond (.t 139) (.seq (.ops [.asg 4 (kB false)]) .ret) .skip))))) (.ops [.mv 108 (.t 8), .bin 109 .add (.t 108) (kI 1), .asg 8 (.t 109)]))))
def acsSameQuery_L2 : AC := (.loop (.seq (.seq (.ops [.mv 140 (.t 11), .fa 141 4 (.t 2), .ld 142 1 false (.t 141), .len 143 (.t 142), .bin 144 .lss (.t 140) (.t 143)]) (.cond (.t 144) .skip (.exit 4))) (.seq (.block 5 (.seq (.dops [[], [0], [], [1, 2], [3], [4], [], [6], [], [7, 8], [9], [10], [5, 11], [12], [13], [14, 13], [13], [15, 16, 13], [17, 13], [18, 13], [13], [20, 13], [13], [21, 22, 13], [23, 13], [24, 13], [19, 25, 13, 13], [26, 13], [13, 27]] [.fa 147 4 (.t 2), .ld 148 1 false (.t 147), .mv 149 (.t 11), .ia 150 11 (.t 148) (.t 149), .fa 151 10 (.t 150), .ld 152 1 false (.t 151), .fa 153 4 (.t 3), .ld 154 1 false (.t 153), .mv 155 (.t 11), .ia 156 11 (.t 154) (.t 155), .fa 157 10 (.t 156), .ld 158 1 false (.t 157), .eqb 159 true (.t 152) (.t 158), .mv 160 (.t 159), .g 160 false (.fa 161 4 (.t 2)), .g 160 false (.ld 162 1 false (.t 161)), .g 160 false (.mv 163 (.t 11)), .g 160 false (.ia 164 11 (.t 162) (.t 163)), .g 160 false (.fa 165 0 (.t 164)), .g 160 false (.ld 166 10 true (.t 165)), .g 160 false (.fa 167 4 (.t 3)), .g 160 false (.ld 168 1 false (.t 167)), .g 160 false (.mv 169 (.t 11)), .g 160 false (.ia 170 11 (.t 168) (.t 169)), .g 160 false (.fa 171 0 (.t 170)), .g 160 false (.ld 172 10 true (.t 171)), .g 160 false (.call (some 173) 154 [(.t 166), (.t 172)]), .g 160 false (.not 174 (.t 173)), .pick 175 (.t 160) (kB true) (.t 174)]) (.cond (.t 175) (.seq (.ops [.asg 4 (kB false)]) .ret) .skip))) (.ops [.mv 145 (.t 11), .bin 146 .add (.t 145) (kI 1), .asg 11 (.t 146)]))))
def acsSameQuery : AC := (.seq (.ops [.box 2 (.t 0), .box 3 (.t 1), .asg 4 (kB false)]) (.seq (.seq (.ops [.fa 12 0 (.t 2), .ld 13 1 false (.t 12), .fa 14 0 (.t 3), .ld 15 1 false (.t 14), .eqb 16 true (.t 13) (.t 15), .mv 17 (.t 16), .g 17 false (.fa 18 5 (.t 2)), .g 17 false (.ld 19 1 false (.t 18)), .g 17 false (.fa 20 5 (.t 3)), .g 17 false (.ld 21 1 false (.t 20)), .g 17 false (.bin 22 .neq (.t 19) (.t 21)), .pick 23 (.t 17) (kB true) (.t 22), .mv 24 (.t 23), .g 24 false (.fa 25 1 (.t 2)), .g 24 false (.ld 26 1 false (.t 25)), .g 24 false (.len 27 (.t 26)), .g 24 false (.fa 28 1 (.t 3)), .g 24 false (.ld 29 1 false (.t 28)), .g 24 false (.len 30 (.t 29)), .g 24 false (.bin 31 .neq (.t 27) (.t 30)), .pick 32 (.t 24) (kB true) (.t 31), .mv 33 (.t 32), .g 33 false (.fa 34 2 (.t 2)), .g 33 false (.ld 35 1 false (.t 34)), .g 33 false (.len 36 (.t 35)), .g 33 false (.fa 37 2 (.t 3)), .g 33 false (.ld 38 1 false (.t 37)), .g 33 false (.len 39 (.t 38)), .g 33 false (.bin 40 .neq (.t 36) (.t 39)), .pick 41 (.t 33) (kB true) (.t 40), .mv 42 (.t 41), .g 42 false (.fa 43 4 (.t 2)), .g 42 false (.ld 44 1 false (.t 43)), .g 42 false (.len 45 (.t 44)), .g 42 false (.fa 46 4 (.t 3)), .g 42 false (.ld 47 1 false (.t 46)), .g 42 false (.len 48 (.t 47)), .g 42 false (.bin 49 .neq (.t 45) (.t 48)), .pick 50 (.t 42) (kB true) (.t 49), .mv 51 (.t 50), .g 51 false (.fa 52 3 (.t 2)), .g 51 false (.ld 53 1 false (.t 52)), .g 51 false (.fa 54 3 (.t 3)), .g 51 false (.ld 55 1 false (.t 54)), .g 51 false (.call (some 56) 189 [(.t 53), (.t 55)]), .g 51 false (.not 57 (.t 56)), .pick 58 (.t 51) (kB true) (.t 57)]) (.cond (.t 58) (.seq (.ops [.asg 4 (kB false)]) .ret) .skip)) (.seq (.seq (.ops [.asg 5 (kI 0)]) (.block 0 acsSameQuery_L0)) (.seq (.seq (.ops [.asg 8 (kI 0)]) (.block 2 acsSameQuery_L1)) (.seq (.seq (.ops [.asg 11 (kI 0)]) (.block 4 acsSameQuery_L2)) (.seq (.ops [.asg 4 (kB true)]) .ret))))))
theorem trsSameQuery : trFn Try.prog 190 = some (acsSameQuery, [.mv 0 (.t 4)], 176) := by kernel_rfl
def qsSameQuery (r : Bool) : Exit → St → Prop := retQ [.mv 0 (.t 4)] fun x _ => x = (fun y => (vB y)) r
def qsSameQuery_0 (r : Bool) : Exit → St → Prop := (thenK (wkK (avc Try.prog (.seq (.seq (.ops [.asg 8 (.c (.d (.i .i64 0)))]) (.block 2 acsSameQuery_L1)) (.seq (.seq (.ops [.asg 11 (.c (.d (.i .i64 0)))]) (.block 4 acsSameQuery_L2)) (.seq (.ops [.asg 4 (.c (.d (.b true)))]) .ret))) (qsSameQuery r))) (qsSameQuery r))
def qsSameQuery_1 (r : Bool) : Exit → St → Prop := (blockK 0 (qsSameQuery_0 r))
def qsSameQuery_2 (r : Bool) : Exit → St → Prop := (thenK (wkK (avc Try.prog (.seq (.seq (.ops [.asg 11 (.c (.d (.i .i64 0)))]) (.block 4 acsSameQuery_L2)) (.seq (.ops [.asg 4 (.c (.d (.b true)))]) .ret)) (qsSameQuery r))) (qsSameQuery r))
def qsSameQuery_3 (r : Bool) : Exit → St → Prop := (blockK 2 (qsSameQuery_2 r))
def qsSameQuery_4 (r : Bool) : Exit → St → Prop := (thenK (wkK (avc Try.prog (.seq (.ops [.asg 4 (.c (.d (.b true)))]) .ret) (qsSameQuery r))) (qsSameQuery r))
def qsSameQuery_5 (r : Bool) : Exit → St → Prop := (blockK 4 (qsSameQuery_4 r))
def stsSameQuery_L0 (p0 : GQuery) (p1 : GQuery) (x5 : Int) : St := ⟨[(2, (.ptr 2 0)), (3, (.ptr 3 0)), (5, (vI x5))], [(2, bGQuery p0), (3, bGQuery p1)]⟩
def stsSameQuery_L1 (p0 : GQuery) (p1 : GQuery) (x8 : Int) : St := ⟨[(2, (.ptr 2 0)), (3, (.ptr 3 0)), (8, (vI x8))], [(2, bGQuery p0), (3, bGQuery p1)]⟩
def stsSameQuery_L2 (p0 : GQuery) (p1 : GQuery) (x11 : Int) : St := ⟨[(2, (.ptr 2 0)), (3, (.ptr 3 0)), (11, (vI x11))], [(2, bGQuery p0), (3, bGQuery p1)]⟩
def acsL7Same_L0 : AC := (.loop (.seq (.seq (.ops [.mv 11 (.t 5), .mv 12 (.t 0), .len 13 (.t 12), .bin 14 .lss (.t 11) (.t 13)]) (.cond (.t 14) .skip (.exit 0))) (.seq (.block 1 (.seq (.dops [[], [], [0, 1], [2], [], [], [4, 5], [6], [3, 7], [8]] [.mv 17 (.t 0), .mv 18 (.t 5), .ia 19 10 (.t 17) (.t 18), .ld 20 10 true (.t 19), .mv 21 (.t 1), .mv 22 (.t 5), .ia 23 10 (.t 21) (.t 22), .ld 24 10 true (.t 23), .call (some 25) 154 [(.t 20), (.t 24)], .not 26 (.t 25)]) (.cond (.t 26) (.seq (.ops [.asg 4 (kB false)]) .ret) .skip))) (.ops [.mv 15 (.t 5), .bin 16 .add (.t 15) (kI 1), .asg 5 (.t 16)]))))
def acsL7Same : AC := (.seq (.ops [.asg 4 (kB false)]) (.seq (.seq (.ops [.mv 6 (.t 0), .len 7 (.t 6), .mv 8 (.t 1), .len 9 (.t 8), .bin 10 .neq (.t 7) (.t 9)]) (.cond (.t 10) (.seq (.ops [.asg 4 (kB false)]) .ret) .skip)) (.seq (.seq (.ops [.asg 5 (kI 0)]) (.block 0 acsL7Same_L0)) (.seq (.ops [.asg 4 (kB true)]) .ret))))
theorem trsL7Same : trFn Try.prog 189 = some (acsL7Same, [.mv 0 (.t 4)], 27) := by kernel_rfl
def qsL7Same (r : Bool) : Exit → St → Prop := retQ [.mv 0 (.t 4)] fun x _ => x = (fun y => (vB y)) r
def qsL7Same_0 (r : Bool) : Exit → St → Prop := (thenK (wkK (avc Try.prog (.seq (.ops [.asg 4 (.c (.d (.b true)))]) .ret) (qsL7Same r))) (qsL7Same r))
def qsL7Same_1 (r : Bool) : Exit → St → Prop := (blockK 0 (qsL7Same_0 r))
def stsL7Same_L0 (p0 : (List GExpr)) (p1 : (List GExpr)) (x5 : Int) : St := ⟨[(0, (.d (.sl 10 (p0.map cGExpr)))), (1, (.d (.sl 10 (p1.map cGExpr)))), (5, (vI x5))], []⟩
def acwEqQuery : AC := (.seq (.ops [.box 2 (.t 0), .box 3 (.t 1), .asg 4 (kB false)]) (.seq (.seq (.ops [.fa 5 0 (.t 2), .ld 6 1 false (.t 5), .fa 7 0 (.t 3), .ld 8 1 false (.t 7), .eqb 9 true (.t 6) (.t 8)]) (.cond (.t 9) (.seq (.ops [.asg 4 (kB false)]) .ret) .skip)) (.seq (.seq (.ops [.fa 10 1 (.t 2), .ld 11 1 false (.t 10), .fa 12 1 (.t 3), .ld 13 1 false (.t 12), .call (some 14) 67 [(.t 11), (.t 13)], .not 15 (.t 14)]) (.cond (.t 15) (.seq (.ops [.asg 4 (kB false)]) .ret) .skip)) (.seq (.seq (.ops [.fa 16 2 (.t 2), .ld 17 1 false (.t 16), .fa 18 2 (.t 3), .ld 19 1 false (.t 18), .call (some 20) 68 [(.t 17), (.t 19)], .not 21 (.t 20)]) (.cond (.t 21) (.seq (.ops [.asg 4 (kB false)]) .ret) .skip)) (.seq (.seq (.ops [.fa 22 3 (.t 2), .ld 23 1 false (.t 22), .fa 24 3 (.t 3), .ld 25 1 false (.t 24), .call (some 26) 51 [(.t 23), (.t 25)], .not 27 (.t 26)]) (.cond (.t 27) (.seq (.ops [.asg 4 (kB false)]) .ret) .skip)) (.seq (.seq (.ops [.fa 28 4 (.t 2), .ld 29 1 false (.t 28), .fa 30 4 (.t 3), .ld 31 1 false (.t 30), .call (some 32) 69 [(.t 29), (.t 31)], .not 33 (.t 32)]) (.cond (.t 33) (.seq (.ops [.asg 4 (kB false)]) .ret) .skip)) (.seq (.seq (.ops [.fa 34 5 (.t 2), .ld 35 1 false (.t 34), .fa 36 5 (.t 3), .ld 37 1 false (.t 36), .bin 38 .neq (.t 35) (.t 37)]) (.cond (.t 38) (.seq (.ops [.asg 4 (kB false)]) .ret) .skip)) (.seq (.ops [.asg 4 (kB true)]) .ret))))))))
theorem trwEqQuery : trFn Try.prog 18 = some (acwEqQuery, [.mv 0 (.t 4)], 39) := by kernel_rfl
def qwEqQuery (r : Bool) : Exit → St → Prop := retQ [.mv 0 (.t 4)] fun x _ => x = (fun y => (vB y)) r
def acwEqSourceS_L0 : AC := (.loop (.seq (.seq (.ops [.mv 11 (.t 5), .mv 12 (.t 0), .len 13 (.t 12), .bin 14 .lss (.t 11) (.t 13)]) (.cond (.t 14) .skip (.exit 0))) (.seq (.block 1 (.seq (.dops [[], [], [0, 1], [2], [], [], [4, 5], [6], [3, 7], [8]] [.mv 17 (.t 0), .mv 18 (.t 5), .ia 19 3 (.t 17) (.t 18), .ld 20 3 true (.t 19), .mv 21 (.t 1), .mv 22 (.t 5), .ia 23 3 (.t 21) (.t 22), .ld 24 3 true (.t 23), .call (some 25) 124 [(.t 20), (.t 24)], .not 26 (.t 25)]) (.cond (.t 26) (.seq (.ops [.asg 4 (kB false)]) .ret) .skip))) (.ops [.mv 15 (.t 5), .bin 16 .add (.t 15) (kI 1), .asg 5 (.t 16)]))))
def acwEqSourceS : AC := (.seq (.ops [.asg 4 (kB false)]) (.seq (.seq (.ops [.mv 6 (.t 0), .len 7 (.t 6), .mv 8 (.t 1), .len 9 (.t 8), .bin 10 .neq (.t 7) (.t 9)]) (.cond (.t 10) (.seq (.ops [.asg 4 (kB false)]) .ret) .skip)) (.seq (.seq (.ops [.asg 5 (kI 0)]) (.block 0 acwEqSourceS_L0)) (.seq (.ops [.asg 4 (kB true)]) .ret))))
theorem trwEqSourceS : trFn Try.prog 68 = some (acwEqSourceS, [.mv 0 (.t 4)], 27) := by kernel_rfl
def qwEqSourceS (r : Bool) : Exit → St → Prop := retQ [.mv 0 (.t 4)] fun x _ => x = (fun y => (vB y)) r
def qwEqSourceS_0 (r : Bool) : Exit → St → Prop := (thenK (wkK (avc Try.prog (.seq (.ops [.asg 4 (.c (.d (.b true)))]) .ret) (qwEqSourceS r))) (qwEqSourceS r))
def qwEqSourceS_1 (r : Bool) : Exit → St → Prop := (blockK 0 (qwEqSourceS_0 r))
def stwEqSourceS_L0 (p0 : (List GSource)) (p1 : (List GSource)) (x5 : Int) : St := ⟨[(0, (.d (.sl 3 (p0.map cGSource)))), (1, (.d (.sl 3 (p1.map cGSource)))), (5, (vI x5))], []⟩
def acwEqSource : AC := (.seq (.ops [.box 2 (.t 0), .box 3 (.t 1), .asg 4 (kB false)]) (.seq (.seq (.ops [.fa 5 0 (.t 2), .ld 6 1 false (.t 5), .fa 7 0 (.t 3), .ld 8 1 false (.t 7), .bin 9 .neq (.t 6) (.t 8)]) (.cond (.t 9) (.seq (.ops [.asg 4 (kB false)]) .ret) .skip)) (.seq (.seq (.ops [.fa 10 1 (.t 2), .ld 11 1 false (.t 10), .fa 12 1 (.t 3), .ld 13 1 false (.t 12), .bin 14 .neq (.t 11) (.t 13)]) (.cond (.t 14) (.seq (.ops [.asg 4 (kB false)]) .ret) .skip)) (.seq (.seq (.ops [.fa 15 2 (.t 2), .ld 16 1 false (.t 15), .fa 17 2 (.t 3), .ld 18 1 false (.t 17), .call (some 19) 51 [(.t 16), (.t 18)], .not 20 (.t 19)]) (.cond (.t 20) (.seq (.ops [.asg 4 (kB false)]) .ret) .skip)) (.seq (.ops [.asg 4 (kB true)]) .ret)))))
theorem trwEqSource : trFn Try.prog 124 = some (acwEqSource, [.mv 0 (.t 4)], 21) := by kernel_rfl
def qwEqSource (r : Bool) : Exit → St → Prop := retQ [.mv 0 (.t 4)] fun x _ => x = (fun y => (vB y)) r
def acwEqExprS_L0 : AC := (.loop (.seq (.seq (.ops [.mv 11 (.t 5), .mv 12 (.t 0), .len 13 (.t 12), .bin 14 .lss (.t 11) (.t 13)]) (.cond (.t 14) .skip (.exit 0))) (.seq (.block 1 (.seq (.dops [[], [], [0, 1], [2], [], [], [4, 5], [6], [3, 7], [8]] [.mv 17 (.t 0), .mv 18 (.t 5), .ia 19 10 (.t 17) (.t 18), .ld 20 10 true (.t 19), .mv 21 (.t 1), .mv 22 (.t 5), .ia 23 10 (.t 21) (.t 22), .ld 24 10 true (.t 23), .call (some 25) 23 [(.t 20), (.t 24)], .not 26 (.t 25)]) (.cond (.t 26) (.seq (.ops [.asg 4 (kB false)]) .ret) .skip))) (.ops [.mv 15 (.t 5), .bin 16 .add (.t 15) (kI 1), .asg 5 (.t 16)]))))
def acwEqExprS : AC := (.seq (.ops [.asg 4 (kB false)]) (.seq (.seq (.ops [.mv 6 (.t 0), .len 7 (.t 6), .mv 8 (.t 1), .len 9 (.t 8), .bin 10 .neq (.t 7) (.t 9)]) (.cond (.t 10) (.seq (.ops [.asg 4 (kB false)]) .ret) .skip)) (.seq (.seq (.ops [.asg 5 (kI 0)]) (.block 0 acwEqExprS_L0)) (.seq (.ops [.asg 4 (kB true)]) .ret))))
theorem trwEqExprS : trFn Try.prog 51 = some (acwEqExprS, [.mv 0 (.t 4)], 27) := by kernel_rfl
def qwEqExprS (r : Bool) : Exit → St → Prop := retQ [.mv 0 (.t 4)] fun x _ => x = (fun y => (vB y)) r
def qwEqExprS_0 (r : Bool) : Exit → St → Prop := (thenK (wkK (avc Try.prog (.seq (.ops [.asg 4 (.c (.d (.b true)))]) .ret) (qwEqExprS r))) (qwEqExprS r))
def qwEqExprS_1 (r : Bool) : Exit → St → Prop := (blockK 0 (qwEqExprS_0 r))
def stwEqExprS_L0 (p0 : (List GExpr)) (p1 : (List GExpr)) (x5 : Int) : St := ⟨[(0, (.d (.sl 10 (p0.map cGExpr)))), (1, (.d (.sl 10 (p1.map cGExpr)))), (5, (vI x5))], []⟩
def acwEqExpr : AC := (.seq (.ops [.box 2 (.t 0), .box 3 (.t 1), .asg 4 (kB false)]) (.seq (.seq (.ops [.fa 5 0 (.t 2), .ld 6 1 false (.t 5), .fa 7 0 (.t 3), .ld 8 1 false (.t 7), .bin 9 .neq (.t 6) (.t 8)]) (.cond (.t 9) (.seq (.ops [.asg 4 (kB false)]) .ret) .skip)) (.seq (.seq (.ops [.fa 10 1 (.t 2), .ld 11 1 false (.t 10), .fa 12 1 (.t 3), .ld 13 1 false (.t 12), .bin 14 .neq (.t 11) (.t 13)]) (.cond (.t 14) (.seq (.ops [.asg 4 (kB false)]) .ret) .skip)) (.seq (.seq (.ops [.fa 15 2 (.t 2), .ld 16 1 false (.t 15), .fa 17 2 (.t 3), .ld 18 1 false (.t 17), .eqb 19 true (.t 16) (.t 18)]) (.cond (.t 19) (.seq (.ops [.asg 4 (kB false)]) .ret) .skip)) (.seq (.seq (.ops [.fa 20 3 (.t 2), .ld 21 3 true (.t 20), .fa 22 3 (.t 3), .ld 23 3 true (.t 22), .call (some 24) 77 [(.t 21), (.t 23)], .not 25 (.t 24)]) (.cond (.t 25) (.seq (.ops [.asg 4 (kB false)]) .ret) .skip)) (.seq (.seq (.ops [.fa 26 6 (.t 2), .ld 27 1 false (.t 26), .fa 28 6 (.t 3), .ld 29 1 false (.t 28), .bin 30 .neq (.t 27) (.t 29)]) (.cond (.t 30) (.seq (.ops [.asg 4 (kB false)]) .ret) .skip)) (.seq (.seq (.ops [.fa 31 7 (.t 2), .ld 32 1 false (.t 31), .fa 33 7 (.t 3), .ld 34 1 false (.t 33), .bin 35 .neq (.t 32) (.t 34)]) (.cond (.t 35) (.seq (.ops [.asg 4 (kB false)]) .ret) .skip)) (.seq (.seq (.ops [.fa 36 8 (.t 2), .ld 37 1 false (.t 36), .fa 38 8 (.t 3), .ld 39 1 false (.t 38), .call (some 40) 51 [(.t 37), (.t 39)], .not 41 (.t 40)]) (.cond (.t 41) (.seq (.ops [.asg 4 (kB false)]) .ret) .skip)) (.seq (.seq (.ops [.fa 42 9 (.t 2), .ld 43 1 false (.t 42), .fa 44 9 (.t 3), .ld 45 1 false (.t 44), .call (some 46) 78 [(.t 43), (.t 45)], .not 47 (.t 46)]) (.cond (.t 47) (.seq (.ops [.asg 4 (kB false)]) .ret) .skip)) (.seq (.ops [.asg 4 (kB true)]) .ret))))))))))
theorem trwEqExpr : trFn Try.prog 23 = some (acwEqExpr, [.mv 0 (.t 4)], 48) := by kernel_rfl
def qwEqExpr (r : Bool) : Exit → St → Prop := retQ [.mv 0 (.t 4)] fun x _ => x = (fun y => (vB y)) r
def acwEqQueryS_L0 : AC := (.loop (.seq (.seq (.ops [.mv 11 (.t 5), .mv 12 (.t 0), .len 13 (.t 12), .bin 14 .lss (.t 11) (.t 13)]) (.cond (.t 14) .skip (.exit 0))) (.seq (.block 1 (.seq (.dops [[], [], [0, 1], [2], [], [], [4, 5], [6], [3, 7], [8]] [.mv 17 (.t 0), .mv 18 (.t 5), .ia 19 6 (.t 17) (.t 18), .ld 20 6 true (.t 19), .mv 21 (.t 1), .mv 22 (.t 5), .ia 23 6 (.t 21) (.t 22), .ld 24 6 true (.t 23), .call (some 25) 18 [(.t 20), (.t 24)], .not 26 (.t 25)]) (.cond (.t 26) (.seq (.ops [.asg 4 (kB false)]) .ret) .skip))) (.ops [.mv 15 (.t 5), .bin 16 .add (.t 15) (kI 1), .asg 5 (.t 16)]))))
def acwEqQueryS : AC := (.seq (.ops [.asg 4 (kB false)]) (.seq (.seq (.ops [.mv 6 (.t 0), .len 7 (.t 6), .mv 8 (.t 1), .len 9 (.t 8), .bin 10 .neq (.t 7) (.t 9)]) (.cond (.t 10) (.seq (.ops [.asg 4 (kB false)]) .ret) .skip)) (.seq (.seq (.ops [.asg 5 (kI 0)]) (.block 0 acwEqQueryS_L0)) (.seq (.ops [.asg 4 (kB true)]) .ret))))
theorem trwEqQueryS : trFn Try.prog 78 = some (acwEqQueryS, [.mv 0 (.t 4)], 27) := by kernel_rfl
def qwEqQueryS (r : Bool) : Exit → St → Prop := retQ [.mv 0 (.t 4)] fun x _ => x = (fun y => (vB y)) r
def qwEqQueryS_0 (r : Bool) : Exit → St → Prop := (thenK (wkK (avc Try.prog (.seq (.ops [.asg 4 (.c (.d (.b true)))]) .ret) (qwEqQueryS r))) (qwEqQueryS r))
def qwEqQueryS_1 (r : Bool) : Exit → St → Prop := (blockK 0 (qwEqQueryS_0 r))
def stwEqQueryS_L0 (p0 : (List GQuery)) (p1 : (List GQuery)) (x5 : Int) : St := ⟨[(0, (.d (.sl 6 (p0.map cGQuery)))), (1, (.d (.sl 6 (p1.map cGQuery)))), (5, (vI x5))], []⟩
def acwEqValue : AC := (.seq (.ops [.box 2 (.t 0), .box 3 (.t 1), .asg 4 (kB false)]) (.seq (.seq (.ops [.fa 5 0 (.t 2), .ld 6 1 false (.t 5), .fa 7 0 (.t 3), .ld 8 1 false (.t 7), .bin 9 .neq (.t 6) (.t 8)]) (.cond (.t 9) (.seq (.ops [.asg 4 (kB false)]) .ret) .skip)) (.seq (.seq (.ops [.fa 10 1 (.t 2), .ld 11 1 false (.t 10), .fa 12 1 (.t 3), .ld 13 1 false (.t 12), .bin 14 .neq (.t 11) (.t 13)]) (.cond (.t 14) (.seq (.ops [.asg 4 (kB false)]) .ret) .skip)) (.seq (.seq (.ops [.fa 15 2 (.t 2), .ld 16 1 false (.t 15), .fa 17 2 (.t 3), .ld 18 1 false (.t 17), .bin 19 .neq (.t 16) (.t 18)]) (.cond (.t 19) (.seq (.ops [.asg 4 (kB false)]) .ret) .skip)) (.seq (.ops [.asg 4 (kB true)]) .ret)))))
theorem trwEqValue : trFn Try.prog 77 = some (acwEqValue, [.mv 0 (.t 4)], 20) := by kernel_rfl
def qwEqValue (r : Bool) : Exit → St → Prop := retQ [.mv 0 (.t 4)] fun x _ => x = (fun y => (vB y)) r
def acwEqItemS_L0 : AC := (.loop (.seq (.seq (.ops [.mv 11 (.t 5), .mv 12 (.t 0), .len 13 (.t 12), .bin 14 .lss (.t 11) (.t 13)]) (.cond (.t 14) .skip (.exit 0))) (.seq (.block 1 (.seq (.dops [[], [], [0, 1], [2], [], [], [4, 5], [6], [3, 7], [8]] [.mv 17 (.t 0), .mv 18 (.t 5), .ia 19 13 (.t 17) (.t 18), .ld 20 13 true (.t 19), .mv 21 (.t 1), .mv 22 (.t 5), .ia 23 13 (.t 21) (.t 22), .ld 24 13 true (.t 23), .call (some 25) 123 [(.t 20), (.t 24)], .not 26 (.t 25)]) (.cond (.t 26) (.seq (.ops [.asg 4 (kB false)]) .ret) .skip))) (.ops [.mv 15 (.t 5), .bin 16 .add (.t 15) (kI 1), .asg 5 (.t 16)]))))
def acwEqItemS : AC := (.seq (.ops [.asg 4 (kB false)]) (.seq (.seq (.ops [.mv 6 (.t 0), .len 7 (.t 6), .mv 8 (.t 1), .len 9 (.t 8), .bin 10 .neq (.t 7) (.t 9)]) (.cond (.t 10) (.seq (.ops [.asg 4 (kB false)]) .ret) .skip)) (.seq (.seq (.ops [.asg 5 (kI 0)]) (.block 0 acwEqItemS_L0)) (.seq (.ops [.asg 4 (kB true)]) .ret))))
theorem trwEqItemS : trFn Try.prog 67 = some (acwEqItemS, [.mv 0 (.t 4)], 27) := by kernel_rfl
def qwEqItemS (r : Bool) : Exit → St → Prop := retQ [.mv 0 (.t 4)] fun x _ => x = (fun y => (vB y)) r
def qwEqItemS_0 (r : Bool) : Exit → St → Prop := (thenK (wkK (avc Try.prog (.seq (.ops [.asg 4 (.c (.d (.b true)))]) .ret) (qwEqItemS r))) (qwEqItemS r))
def qwEqItemS_1 (r : Bool) : Exit → St → Prop := (blockK 0 (qwEqItemS_0 r))
def stwEqItemS_L0 (p0 : (List GItem)) (p1 : (List GItem)) (x5 : Int) : St := ⟨[(0, (.d (.sl 13 (p0.map cGItem)))), (1, (.d (.sl 13 (p1.map cGItem)))), (5, (vI x5))], []⟩
def acwEqItem : AC := (.seq (.ops [.box 2 (.t 0), .box 3 (.t 1), .asg 4 (kB false)]) (.seq (.seq (.ops [.fa 5 0 (.t 2), .ld 6 1 false (.t 5), .fa 7 0 (.t 3), .ld 8 1 false (.t 7), .eqb 9 true (.t 6) (.t 8)]) (.cond (.t 9) (.seq (.ops [.asg 4 (kB false)]) .ret) .skip)) (.seq (.seq (.ops [.fa 10 1 (.t 2), .ld 11 1 false (.t 10), .fa 12 1 (.t 3), .ld 13 1 false (.t 12), .bin 14 .neq (.t 11) (.t 13)]) (.cond (.t 14) (.seq (.ops [.asg 4 (kB false)]) .ret) .skip)) (.seq (.seq (.ops [.fa 15 2 (.t 2), .ld 16 10 true (.t 15), .fa 17 2 (.t 3), .ld 18 10 true (.t 17), .call (some 19) 23 [(.t 16), (.t 18)], .not 20 (.t 19)]) (.cond (.t 20) (.seq (.ops [.asg 4 (kB false)]) .ret) .skip)) (.seq (.seq (.ops [.fa 21 12 (.t 2), .ld 22 1 false (.t 21), .fa 23 12 (.t 3), .ld 24 1 false (.t 23), .bin 25 .neq (.t 22) (.t 24)]) (.cond (.t 25) (.seq (.ops [.asg 4 (kB false)]) .ret) .skip)) (.seq (.ops [.asg 4 (kB true)]) .ret))))))
theorem trwEqItem : trFn Try.prog 123 = some (acwEqItem, [.mv 0 (.t 4)], 26) := by kernel_rfl
def qwEqItem (r : Bool) : Exit → St → Prop := retQ [.mv 0 (.t 4)] fun x _ => x = (fun y => (vB y)) r
def acwEqSortKeyS_L0 : AC := (.loop (.seq (.seq (.ops [.mv 11 (.t 5), .mv 12 (.t 0), .len 13 (.t 12), .bin 14 .lss (.t 11) (.t 13)]) (.cond (.t 14) .skip (.exit 0))) (.seq (.block 1 (.seq (.dops [[], [], [0, 1], [2], [], [], [4, 5], [6], [3, 7], [8]] [.mv 17 (.t 0), .mv 18 (.t 5), .ia 19 11 (.t 17) (.t 18), .ld 20 11 true (.t 19), .mv 21 (.t 1), .mv 22 (.t 5), .ia 23 11 (.t 21) (.t 22), .ld 24 11 true (.t 23), .call (some 25) 125 [(.t 20), (.t 24)], .not 26 (.t 25)]) (.cond (.t 26) (.seq (.ops [.asg 4 (kB false)]) .ret) .skip))) (.ops [.mv 15 (.t 5), .bin 16 .add (.t 15) (kI 1), .asg 5 (.t 16)]))))
def acwEqSortKeyS : AC := (.seq (.ops [.asg 4 (kB false)]) (.seq (.seq (.ops [.mv 6 (.t 0), .len 7 (.t 6), .mv 8 (.t 1), .len 9 (.t 8), .bin 10 .neq (.t 7) (.t 9)]) (.cond (.t 10) (.seq (.ops [.asg 4 (kB false)]) .ret) .skip)) (.seq (.seq (.ops [.asg 5 (kI 0)]) (.block 0 acwEqSortKeyS_L0)) (.seq (.ops [.asg 4 (kB true)]) .ret))))
theorem trwEqSortKeyS : trFn Try.prog 69 = some (acwEqSortKeyS, [.mv 0 (.t 4)], 27) := by kernel_rfl
def qwEqSortKeyS (r : Bool) : Exit → St → Prop := retQ [.mv 0 (.t 4)] fun x _ => x = (fun y => (vB y)) r
def qwEqSortKeyS_0 (r : Bool) : Exit → St → Prop := (thenK (wkK (avc Try.prog (.seq (.ops [.asg 4 (.c (.d (.b true)))]) .ret) (qwEqSortKeyS r))) (qwEqSortKeyS r))
def qwEqSortKeyS_1 (r : Bool) : Exit → St → Prop := (blockK 0 (qwEqSortKeyS_0 r))
def stwEqSortKeyS_L0 (p0 : (List GSortKey)) (p1 : (List GSortKey)) (x5 : Int) : St := ⟨[(0, (.d (.sl 11 (p0.map cGSortKey)))), (1, (.d (.sl 11 (p1.map cGSortKey)))), (5, (vI x5))], []⟩
def acwEqSortKey : AC := (.seq (.ops [.box 2 (.t 0), .box 3 (.t 1), .asg 4 (kB false)]) (.seq (.seq (.ops [.fa 5 0 (.t 2), .ld 6 10 true (.t 5), .fa 7 0 (.t 3), .ld 8 10 true (.t 7), .call (some 9) 23 [(.t 6), (.t 8)], .not 10 (.t 9)]) (.cond (.t 10) (.seq (.ops [.asg 4 (kB false)]) .ret) .skip)) (.seq (.seq (.ops [.fa 11 10 (.t 2), .ld 12 1 false (.t 11), .fa 13 10 (.t 3), .ld 14 1 false (.t 13), .eqb 15 true (.t 12) (.t 14)]) (.cond (.t 15) (.seq (.ops [.asg 4 (kB false)]) .ret) .skip)) (.seq (.ops [.asg 4 (kB true)]) .ret))))
theorem trwEqSortKey : trFn Try.prog 125 = some (acwEqSortKey, [.mv 0 (.t 4)], 16) := by kernel_rfl
def qwEqSortKey (r : Bool) : Exit → St → Prop := retQ [.mv 0 (.t 4)] fun x _ => x = (fun y => (vB y)) r
theorem koGValue (x : GValue) (h : ∀ d ∈ cGValue x, OkD d) : okGValue x := ⟨ko_i _ (ko_sub h 0 1), ko_i _ (ko_sub h 1 1), ko_s _ (ko_sub h 2 1)⟩
mutual
theorem koGExpr : ∀ x : GExpr, (∀ d ∈ cGExpr x, OkD d) → okGExpr x
  | ⟨a0, a1, a2, a3, a4, a5, a6, a7⟩, h0 => by
    rw [cGExpr_eq] at h0
    have h : ∀ d ∈ oGExpr ⟨a0, a1, a2, a3, a4, a5, a6, a7⟩, OkD d := h0
    unfold okGExpr
    exact ⟨ko_i _ (ko_sub h 0 1), ko_i _ (ko_sub h 1 1), trivial, koGValue a3 (ko_sub h 3 3), ko_s _ (ko_sub h 6 1), ko_s _ (ko_sub h 7 1), ⟨by simpa using (ko_len (ko_sub h 8 1)).1, koLGExpr a6 (ko_len (ko_sub h 8 1)).2⟩, ⟨by simpa using (ko_len (ko_sub h 9 1)).1, koLGQuery a7 (ko_len (ko_sub h 9 1)).2⟩⟩
theorem koGItem : ∀ x : GItem, (∀ d ∈ cGItem x, OkD d) → okGItem x
  | ⟨a0, a1, a2, a3⟩, h0 => by
    rw [cGItem_eq] at h0
    have h : ∀ d ∈ oGItem ⟨a0, a1, a2, a3⟩, OkD d := h0
    unfold okGItem
    exact ⟨trivial, ko_s _ (ko_sub h 1 1), koGExpr a2 (by rw [cGExpr_eq]; exact (ko_sub h 2 10)), ko_s _ (ko_sub h 12 1)⟩
theorem koGQuery : ∀ x : GQuery, (∀ d ∈ cGQuery x, OkD d) → okGQuery x
  | ⟨a0, a1, a2, a3, a4, a5⟩, h0 => by
    rw [cGQuery_eq] at h0
    have h : ∀ d ∈ oGQuery ⟨a0, a1, a2, a3, a4, a5⟩, OkD d := h0
    unfold okGQuery
    exact ⟨trivial, ⟨by simpa using (ko_len (ko_sub h 1 1)).1, koLGItem a1 (ko_len (ko_sub h 1 1)).2⟩, ⟨by simpa using (ko_len (ko_sub h 2 1)).1, koLGSource a2 (ko_len (ko_sub h 2 1)).2⟩, ⟨by simpa using (ko_len (ko_sub h 3 1)).1, koLGExpr a3 (ko_len (ko_sub h 3 1)).2⟩, ⟨by simpa using (ko_len (ko_sub h 4 1)).1, koLGSortKey a4 (ko_len (ko_sub h 4 1)).2⟩, ko_i _ (ko_sub h 5 1)⟩
theorem koGSortKey : ∀ x : GSortKey, (∀ d ∈ cGSortKey x, OkD d) → okGSortKey x
  | ⟨a0, a1⟩, h0 => by
    rw [cGSortKey_eq] at h0
    have h : ∀ d ∈ oGSortKey ⟨a0, a1⟩, OkD d := h0
    unfold okGSortKey
    exact ⟨koGExpr a0 (by rw [cGExpr_eq]; exact (ko_sub h 0 10)), trivial⟩
theorem koGSource : ∀ x : GSource, (∀ d ∈ cGSource x, OkD d) → okGSource x
  | ⟨a0, a1, a2⟩, h0 => by
    rw [cGSource_eq] at h0
    have h : ∀ d ∈ oGSource ⟨a0, a1, a2⟩, OkD d := h0
    unfold okGSource
    exact ⟨ko_s _ (ko_sub h 0 1), ko_s _ (ko_sub h 1 1), ⟨by simpa using (ko_len (ko_sub h 2 1)).1, koLGExpr a2 (ko_len (ko_sub h 2 1)).2⟩⟩
theorem koLGExpr : ∀ l : List GExpr, (∀ x ∈ l.map cGExpr, ∀ d ∈ x, OkD d) → okLGExpr l
  | [], _ => by unfold okLGExpr; trivial
  | x :: l, h => by
    unfold okLGExpr
    exact ⟨koGExpr x (h _ (by simp)), koLGExpr l fun y hy => h y (List.mem_cons_of_mem _ hy)⟩
theorem koLGItem : ∀ l : List GItem, (∀ x ∈ l.map cGItem, ∀ d ∈ x, OkD d) → okLGItem l
  | [], _ => by unfold okLGItem; trivial
  | x :: l, h => by
    unfold okLGItem
    exact ⟨koGItem x (h _ (by simp)), koLGItem l fun y hy => h y (List.mem_cons_of_mem _ hy)⟩
theorem koLGQuery : ∀ l : List GQuery, (∀ x ∈ l.map cGQuery, ∀ d ∈ x, OkD d) → okLGQuery l
  | [], _ => by unfold okLGQuery; trivial
  | x :: l, h => by
    unfold okLGQuery
    exact ⟨koGQuery x (h _ (by simp)), koLGQuery l fun y hy => h y (List.mem_cons_of_mem _ hy)⟩
theorem koLGSortKey : ∀ l : List GSortKey, (∀ x ∈ l.map cGSortKey, ∀ d ∈ x, OkD d) → okLGSortKey l
  | [], _ => by unfold okLGSortKey; trivial
  | x :: l, h => by
    unfold okLGSortKey
    exact ⟨koGSortKey x (h _ (by simp)), koLGSortKey l fun y hy => h y (List.mem_cons_of_mem _ hy)⟩
theorem koLGSource : ∀ l : List GSource, (∀ x ∈ l.map cGSource, ∀ d ∈ x, OkD d) → okLGSource l
  | [], _ => by unfold okLGSource; trivial
  | x :: l, h => by
    unfold okLGSource
    exact ⟨koGSource x (h _ (by simp)), koLGSource l fun y hy => h y (List.mem_cons_of_mem _ hy)⟩
end
theorem koGForm (x : GForm) (h : ∀ d ∈ cGForm x, OkD d) : okGForm x := ⟨trivial, trivial, trivial, trivial, ko_i _ (ko_sub h 4 1), ko_i _ (ko_sub h 5 1), ko_i _ (ko_sub h 6 1)⟩
theorem de4 {l : List D} (h : WtC Try.prog 4 l) : ∃ x : Bool, l = cB x := (wt_b h (by kernel_rfl))
theorem de9 {l : List D} (h : WtC Try.prog 9 l) : ∃ x : (List UInt8), l = cStr x := (wt_s h (by kernel_rfl))
theorem de3 {l : List D} (h : WtC Try.prog 3 l) : ∃ x : Int, l = cI x := (wt_i h (k := .i64) (by kernel_rfl))
theorem de40 {l : List D} (h : WtC Try.prog 40 l) : ∃ x : GValue, l = cGValue x := by
  obtain ⟨x0, e0⟩ := de3 (wt_fld h 0 (off := 0) (n := 1) (by kernel_rfl))
  obtain ⟨x1, e1⟩ := de3 (wt_fld h 1 (off := 1) (n := 1) (by kernel_rfl))
  obtain ⟨x2, e2⟩ := de9 (wt_fld h 2 (off := 2) (n := 1) (by kernel_rfl))
  exact ⟨⟨x0, x1, x2⟩, (dr1 (m := 1) (by kernel_rfl) e0 (dr1 (m := 2) (by kernel_rfl) e1 (dr1 (m := 3) (by kernel_rfl) e2 (dr0 (wt_len h (n := 3) (by kernel_rfl))))))⟩
def DS22 (n : Nat) : Prop := ∀ m : List D, SizeOf.sizeOf m ≤ n → (WtC Try.prog 22 m → ∃ x : (List GItem), m = (cSl 13 cGItem) x) ∧ (WtC Try.prog 23 m → ∃ x : (List GSource), m = (cSl 3 cGSource) x) ∧ (WtC Try.prog 24 m → ∃ x : (List GExpr), m = (cSl 10 cGExpr) x) ∧ (WtC Try.prog 25 m → ∃ x : (List GSortKey), m = (cSl 11 cGSortKey) x) ∧ (WtC Try.prog 41 m → ∃ x : (List GQuery), m = (cSl 6 cGQuery) x)
theorem DS22_le {n m : Nat} (h : DS22 n) (hm : m ≤ n) : DS22 m := fun l hl => h l (Nat.le_trans hl hm)
theorem de43_ {l : List D} (H : DS22 (SizeOf.sizeOf l)) (h : WtC Try.prog 43 l) : ∃ x : GExpr, l = cGExpr x := by
  obtain ⟨x0, e0⟩ := de3 (wt_fld h 0 (off := 0) (n := 1) (tf := 3) (by kernel_rfl))
  obtain ⟨x1, e1⟩ := de3 (wt_fld h 1 (off := 1) (n := 1) (tf := 3) (by kernel_rfl))
  obtain ⟨x2, e2⟩ := de4 (wt_fld h 2 (off := 2) (n := 1) (tf := 4) (by kernel_rfl))
  obtain ⟨x3, e3⟩ := de40 (wt_fld h 3 (off := 3) (n := 3) (tf := 40) (by kernel_rfl))
  obtain ⟨x4, e4⟩ := de9 (wt_fld h 4 (off := 6) (n := 1) (tf := 9) (by kernel_rfl))
  obtain ⟨x5, e5⟩ := de9 (wt_fld h 5 (off := 7) (n := 1) (tf := 9) (by kernel_rfl))
  obtain ⟨x6, e6⟩ := (H _ (size_sub l 8 1)).2.2.1 (wt_fld h 6 (off := 8) (n := 1) (tf := 24) (by kernel_rfl))
  obtain ⟨x7, e7⟩ := (H _ (size_sub l 9 1)).2.2.2.2 (wt_fld h 7 (off := 9) (n := 1) (tf := 41) (by kernel_rfl))
  exact ⟨⟨x0, x1, x2, x3, x4, x5, x6, x7⟩, (show l = oGExpr ⟨x0, x1, x2, x3, x4, x5, x6, x7⟩ from (dr1 (m := 1) (by kernel_rfl) e0 (dr1 (m := 2) (by kernel_rfl) e1 (dr1 (m := 3) (by kernel_rfl) e2 (dr1 (m := 6) (by kernel_rfl) e3 (dr1 (m := 7) (by kernel_rfl) e4 (dr1 (m := 8) (by kernel_rfl) e5 (dr1 (m := 9) (by kernel_rfl) e6 (dr1 (m := 10) (by kernel_rfl) e7 (dr0 (wt_len h (n := 10) (by kernel_rfl)))))))))))).trans (cGExpr_eq _).symm⟩
theorem de135_ {l : List D} (H : DS22 (SizeOf.sizeOf l)) (h : WtC Try.prog 135 l) : ∃ x : GSortKey, l = cGSortKey x := by
  obtain ⟨x0, e0⟩ := de43_ (DS22_le H (size_sub l 0 10)) (wt_fld h 0 (off := 0) (n := 10) (tf := 43) (by kernel_rfl))
  rw [cGExpr_eq] at e0
  obtain ⟨x1, e1⟩ := de4 (wt_fld h 1 (off := 10) (n := 1) (tf := 4) (by kernel_rfl))
  exact ⟨⟨x0, x1⟩, (show l = oGSortKey ⟨x0, x1⟩ from (dr1 (m := 10) (by kernel_rfl) e0 (dr1 (m := 11) (by kernel_rfl) e1 (dr0 (wt_len h (n := 11) (by kernel_rfl)))))).trans (cGSortKey_eq _).symm⟩
theorem de132_ {l : List D} (H : DS22 (SizeOf.sizeOf l)) (h : WtC Try.prog 132 l) : ∃ x : GSource, l = cGSource x := by
  obtain ⟨x0, e0⟩ := de9 (wt_fld h 0 (off := 0) (n := 1) (tf := 9) (by kernel_rfl))
  obtain ⟨x1, e1⟩ := de9 (wt_fld h 1 (off := 1) (n := 1) (tf := 9) (by kernel_rfl))
  obtain ⟨x2, e2⟩ := (H _ (size_sub l 2 1)).2.2.1 (wt_fld h 2 (off := 2) (n := 1) (tf := 24) (by kernel_rfl))
  exact ⟨⟨x0, x1, x2⟩, (show l = oGSource ⟨x0, x1, x2⟩ from (dr1 (m := 1) (by kernel_rfl) e0 (dr1 (m := 2) (by kernel_rfl) e1 (dr1 (m := 3) (by kernel_rfl) e2 (dr0 (wt_len h (n := 3) (by kernel_rfl))))))).trans (cGSource_eq _).symm⟩
theorem de129_ {l : List D} (H : DS22 (SizeOf.sizeOf l)) (h : WtC Try.prog 129 l) : ∃ x : GItem, l = cGItem x := by
  obtain ⟨x0, e0⟩ := de4 (wt_fld h 0 (off := 0) (n := 1) (tf := 4) (by kernel_rfl))
  obtain ⟨x1, e1⟩ := de9 (wt_fld h 1 (off := 1) (n := 1) (tf := 9) (by kernel_rfl))
  obtain ⟨x2, e2⟩ := de43_ (DS22_le H (size_sub l 2 10)) (wt_fld h 2 (off := 2) (n := 10) (tf := 43) (by kernel_rfl))
  rw [cGExpr_eq] at e2
  obtain ⟨x3, e3⟩ := de9 (wt_fld h 3 (off := 12) (n := 1) (tf := 9) (by kernel_rfl))
  exact ⟨⟨x0, x1, x2, x3⟩, (show l = oGItem ⟨x0, x1, x2, x3⟩ from (dr1 (m := 1) (by kernel_rfl) e0 (dr1 (m := 2) (by kernel_rfl) e1 (dr1 (m := 12) (by kernel_rfl) e2 (dr1 (m := 13) (by kernel_rfl) e3 (dr0 (wt_len h (n := 13) (by kernel_rfl)))))))).trans (cGItem_eq _).symm⟩
theorem de27_ {l : List D} (H : DS22 (SizeOf.sizeOf l)) (h : WtC Try.prog 27 l) : ∃ x : GQuery, l = cGQuery x := by
  obtain ⟨x0, e0⟩ := de4 (wt_fld h 0 (off := 0) (n := 1) (tf := 4) (by kernel_rfl))
  obtain ⟨x1, e1⟩ := (H _ (size_sub l 1 1)).1 (wt_fld h 1 (off := 1) (n := 1) (tf := 22) (by kernel_rfl))
  obtain ⟨x2, e2⟩ := (H _ (size_sub l 2 1)).2.1 (wt_fld h 2 (off := 2) (n := 1) (tf := 23) (by kernel_rfl))
  obtain ⟨x3, e3⟩ := (H _ (size_sub l 3 1)).2.2.1 (wt_fld h 3 (off := 3) (n := 1) (tf := 24) (by kernel_rfl))
  obtain ⟨x4, e4⟩ := (H _ (size_sub l 4 1)).2.2.2.1 (wt_fld h 4 (off := 4) (n := 1) (tf := 25) (by kernel_rfl))
  obtain ⟨x5, e5⟩ := de3 (wt_fld h 5 (off := 5) (n := 1) (tf := 3) (by kernel_rfl))
  exact ⟨⟨x0, x1, x2, x3, x4, x5⟩, (show l = oGQuery ⟨x0, x1, x2, x3, x4, x5⟩ from (dr1 (m := 1) (by kernel_rfl) e0 (dr1 (m := 2) (by kernel_rfl) e1 (dr1 (m := 3) (by kernel_rfl) e2 (dr1 (m := 4) (by kernel_rfl) e3 (dr1 (m := 5) (by kernel_rfl) e4 (dr1 (m := 6) (by kernel_rfl) e5 (dr0 (wt_len h (n := 6) (by kernel_rfl)))))))))).trans (cGQuery_eq _).symm⟩
theorem DS22_all : ∀ n, DS22 n := by
  intro n
  induction n with
  | zero =>
    intro m hm
    have : m = [] := by cases m with | nil => rfl | cons x l => simp at hm
    subst this
    exact ⟨fun h => by obtain ⟨ls, hl, _⟩ := wt_sl0 h (e := 129) (n := 13) (by kernel_rfl) (by kernel_rfl); simp at hl, fun h => by obtain ⟨ls, hl, _⟩ := wt_sl0 h (e := 132) (n := 3) (by kernel_rfl) (by kernel_rfl); simp at hl, fun h => by obtain ⟨ls, hl, _⟩ := wt_sl0 h (e := 43) (n := 10) (by kernel_rfl) (by kernel_rfl); simp at hl, fun h => by obtain ⟨ls, hl, _⟩ := wt_sl0 h (e := 135) (n := 11) (by kernel_rfl) (by kernel_rfl); simp at hl, fun h => by obtain ⟨ls, hl, _⟩ := wt_sl0 h (e := 27) (n := 6) (by kernel_rfl) (by kernel_rfl); simp at hl⟩
  | succ n ih =>
    intro m hm
    refine ⟨?_, ?_, ?_, ?_, ?_⟩
    · intro h
      obtain ⟨ls, rfl, hx⟩ := wt_sl0 h (e := 129) (n := 13) (by kernel_rfl) (by kernel_rfl)
      have H : ∀ x ∈ ls, ∃ y : GItem, x = cGItem y := fun x hm2 => de129_ (DS22_le ih (by have := size_mem (sz := 13) hm2; omega)) (hx x hm2)
      obtain ⟨ys, rfl⟩ := ex_map H
      exact ⟨ys, rfl⟩
    · intro h
      obtain ⟨ls, rfl, hx⟩ := wt_sl0 h (e := 132) (n := 3) (by kernel_rfl) (by kernel_rfl)
      have H : ∀ x ∈ ls, ∃ y : GSource, x = cGSource y := fun x hm2 => de132_ (DS22_le ih (by have := size_mem (sz := 3) hm2; omega)) (hx x hm2)
      obtain ⟨ys, rfl⟩ := ex_map H
      exact ⟨ys, rfl⟩
    · intro h
      obtain ⟨ls, rfl, hx⟩ := wt_sl0 h (e := 43) (n := 10) (by kernel_rfl) (by kernel_rfl)
      have H : ∀ x ∈ ls, ∃ y : GExpr, x = cGExpr y := fun x hm2 => de43_ (DS22_le ih (by have := size_mem (sz := 10) hm2; omega)) (hx x hm2)
      obtain ⟨ys, rfl⟩ := ex_map H
      exact ⟨ys, rfl⟩
    · intro h
      obtain ⟨ls, rfl, hx⟩ := wt_sl0 h (e := 135) (n := 11) (by kernel_rfl) (by kernel_rfl)
      have H : ∀ x ∈ ls, ∃ y : GSortKey, x = cGSortKey y := fun x hm2 => de135_ (DS22_le ih (by have := size_mem (sz := 11) hm2; omega)) (hx x hm2)
      obtain ⟨ys, rfl⟩ := ex_map H
      exact ⟨ys, rfl⟩
    · intro h
      obtain ⟨ls, rfl, hx⟩ := wt_sl0 h (e := 27) (n := 6) (by kernel_rfl) (by kernel_rfl)
      have H : ∀ x ∈ ls, ∃ y : GQuery, x = cGQuery y := fun x hm2 => de27_ (DS22_le ih (by have := size_mem (sz := 6) hm2; omega)) (hx x hm2)
      obtain ⟨ys, rfl⟩ := ex_map H
      exact ⟨ys, rfl⟩
theorem de22 {l : List D} (h : WtC Try.prog 22 l) : ∃ x : (List GItem), l = (cSl 13 cGItem) x := (DS22_all _ l (Nat.le_refl _)).1 h
theorem de23 {l : List D} (h : WtC Try.prog 23 l) : ∃ x : (List GSource), l = (cSl 3 cGSource) x := (DS22_all _ l (Nat.le_refl _)).2.1 h
theorem de24 {l : List D} (h : WtC Try.prog 24 l) : ∃ x : (List GExpr), l = (cSl 10 cGExpr) x := (DS22_all _ l (Nat.le_refl _)).2.2.1 h
theorem de25 {l : List D} (h : WtC Try.prog 25 l) : ∃ x : (List GSortKey), l = (cSl 11 cGSortKey) x := (DS22_all _ l (Nat.le_refl _)).2.2.2.1 h
theorem de41 {l : List D} (h : WtC Try.prog 41 l) : ∃ x : (List GQuery), l = (cSl 6 cGQuery) x := (DS22_all _ l (Nat.le_refl _)).2.2.2.2 h
theorem de43 {l : List D} (h : WtC Try.prog 43 l) : ∃ x : GExpr, l = cGExpr x := de43_ (DS22_all _) h
theorem de135 {l : List D} (h : WtC Try.prog 135 l) : ∃ x : GSortKey, l = cGSortKey x := de135_ (DS22_all _) h
theorem de132 {l : List D} (h : WtC Try.prog 132 l) : ∃ x : GSource, l = cGSource x := de132_ (DS22_all _) h
theorem de129 {l : List D} (h : WtC Try.prog 129 l) : ∃ x : GItem, l = cGItem x := de129_ (DS22_all _) h
theorem de27 {l : List D} (h : WtC Try.prog 27 l) : ∃ x : GQuery, l = cGQuery x := de27_ (DS22_all _) h
theorem OK_iNameOk (p0 : (List UInt8)) : FOk Try.prog 145 [(vS p0)] (fun y => (vB y)) (iNameOk p0) := by
 intro r h
 rw [iNameOk] at h
 refine acalls_of_fn triNameOk (Nat.le_of_ble_eq_true rfl) (by simp) ?_
 show avc Try.prog aciNameOk (qiNameOk _) ⟨[(0, (vS p0))], []⟩
 delta aciNameOk
 refine so ?_
 let a0 : St := ⟨[(2, (vB false)), (0, (vS p0))], []⟩
 refine st 1 a0 (nx (so ?_))
 let a1 : St := a0.p [(6, (vB (decide (1 ≤ (p0.length : Int))))), (5, (vB (decide (1 ≤ (p0.length : Int))))), (4, (vI (p0.length : Int))), (3, (vS p0))]
 refine st 4 a1 (gp true (decide (1 ≤ (p0.length : Int))) (vS p0) (fun hc => vl) (gp true (decide (1 ≤ (p0.length : Int))) (vI (p0.length : Int)) (fun hc => vg hc) (gp true (decide (1 ≤ (p0.length : Int))) (vB (decide ((p0.length : Int) ≤ 20))) (fun hc => vg hc) ?_)))
 refine vs (fun (y : Bool) => (vB y)) h (fun y hy => vop_pickV hy (p := (true && ((decide (1 ≤ (p0.length : Int))) == true))) (q := true) (by kernel_rfl) (by kernel_rfl) (by kernel_rfl) (by kernel_rfl) (fun hb => gc_t rfl hb) (fun _ => rfl)) fun y1 h => ?_
 let a2 : St := a1.p [(2, (vB y1)), (10, (vB y1)), (9, (.ite (true && ((decide (1 ≤ (p0.length : Int))) == true)) (vB (decide ((p0.length : Int) ≤ 20))))), (8, (.ite (true && ((decide (1 ≤ (p0.length : Int))) == true)) (vI (p0.length : Int)))), (7, (.ite (true && ((decide (1 ≤ (p0.length : Int))) == true)) (vS p0)))]
 refine st 1 a2 (nx (ri ?_))
 injection h with h; subst h
 exact ret1_step (v := (vB y1)) (by kernel_rfl) (by kernel_rfl) (by kernel_rfl)
theorem OK_iIsAs (p0 : (List UInt8)) : FOk Try.prog 143 [(vS p0)] (fun y => (vB y)) (iIsAs p0) := by
 intro r h
 rw [iIsAs] at h
 refine acalls_of_fn triIsAs (Nat.le_of_ble_eq_true rfl) (by simp) ?_
 show avc Try.prog aciIsAs (qiIsAs _) ⟨[(0, (vS p0))], []⟩
 delta aciIsAs
 refine so ?_
 let a0 : St := ⟨[(2, (vB false)), (0, (vS p0))], []⟩
 refine st 1 a0 (nx (so ?_))
 let a1 : St := a0.p [(5, (vB (decide (p0 = [])))), (4, (vB (decide (p0 = [])))), (3, (vS p0))]
 refine st 3 a1 (gp true (decide (p0 = [])) (vS p0) (fun hc => vl) ?_)
 refine gcall_step (p := true) (b := (decide (p0 = []))) (m := iNameOk p0) (dflt := default) (args := [(vS p0)]) (v' := (fun y => (vB y))) h (by kernel_rfl) (OK_iNameOk p0) (fun hc => by kernel_rfl) (by kernel_rfl) (fun _ => rfl) (fun hc => (Eq.trans (b := ([(true && ((decide (p0 = [])) == false))] : List Bool).all id) (by kernel_rfl) (all_c hc rfl))) ?_
 clear h; intro y1 h
 refine vs (fun (y : Bool) => (vB y)) h (fun y hy => vop_pickV hy (p := true) (q := (true && ((decide (p0 = [])) == false))) (by kernel_rfl) (by kernel_rfl) (by kernel_rfl) (by kernel_rfl) (fun _ => rfl) (fun hb => gc_f rfl hb)) fun y2 h => ?_
 let a2 : St := a1.p [(2, (vB y2)), (8, (vB y2)), (7, (.ite (true && ((decide (p0 = [])) == false)) (vB y1))), (6, (.ite (true && ((decide (p0 = [])) == false)) (vS p0)))]
 refine st 1 a2 (nx (ri ?_))
 injection h with h; subst h
 exact ret1_step (v := (vB y2)) (by kernel_rfl) (by kernel_rfl) (by kernel_rfl)
theorem OK_iValueOk (p0 : GValue) : FOk Try.prog 209 [(vGValue p0)] (fun y => (vB y)) (iValueOk p0) := by
 intro r h
 rw [iValueOk] at h
 refine acalls_of_fn triValueOk (Nat.le_of_ble_eq_true rfl) (by simp) ?_
 show avc Try.prog aciValueOk (qiValueOk _) ⟨[(0, (vGValue p0))], []⟩
 delta aciValueOk
 refine so ?_
 let a0 : St := ⟨[(2, (vB false)), (1, (.ptr 1 0)), (0, (vGValue p0))], [(1, bGValue p0)]⟩
 refine st 2 a0 (nx (si (so ?_)))
 let a1 : St := a0.p [(4, (vI p0.kind)), (3, (.ptr 1 0))]
 refine st 2 a1 (nx (bi (so ?_)))
 let a2 : St := a1.p [(5, (vB (decide (p0.kind = 0)))), (6, (vB (decide (p0.kind = 0))))]
 refine st 2 a2 (nx ?_)
 refine cd h (fun h => ?_) fun h => ?_
 refine so ?_
 let a3 : St := a2.p [(10, (vB (decide (p0.num = 0)))), (9, (vB (decide (p0.num = 0)))), (8, (vI p0.num)), (7, (.ptr 1 1))]
 refine st 4 a3 (gp true (decide (p0.num = 0)) (.ptr 1 2) (fun hc => vl) (gp true (decide (p0.num = 0)) (vS p0.text) (fun hc => vg hc) (gp true (decide (p0.num = 0)) (vB (decide (p0.text = []))) (fun hc => vg hc) ?_)))
 refine vs (fun (y : Bool) => (vB y)) h (fun y hy => vop_pickV hy (p := (true && ((decide (p0.num = 0)) == true))) (q := true) (by kernel_rfl) (by kernel_rfl) (by kernel_rfl) (by kernel_rfl) (fun hb => gc_t rfl hb) (fun _ => rfl)) fun y1 h => ?_
 let a4 : St := a3.p [(2, (vB y1)), (14, (vB y1)), (13, (.ite (true && ((decide (p0.num = 0)) == true)) (vB (decide (p0.text = []))))), (12, (.ite (true && ((decide (p0.num = 0)) == true)) (vS p0.text))), (11, (.ite (true && ((decide (p0.num = 0)) == true)) (.ptr 1 2)))]
 refine st 1 a4 (nx (ri (br (tr ?_))))
 injection h with h; subst h
 exact ret1_step (v := (vB y1)) (by kernel_rfl) (by kernel_rfl) (by kernel_rfl)
 refine so ?_
 let a5 : St := a2.p [(15, (vB (decide (p0.kind = 1)))), (16, (vB (decide (p0.kind = 1))))]
 refine st 2 a5 (nx ?_)
 refine cd h (fun h => ?_) fun h => ?_
 refine so ?_
 let a6 : St := a5.p [(2, (vB (decide (p0.text = [])))), (19, (vB (decide (p0.text = [])))), (18, (vS p0.text)), (17, (.ptr 1 2))]
 refine st 4 a6 (nx (ri (br (tr ?_))))
 injection h with h; subst h
 exact ret1_step (v := (vB (decide (p0.text = [])))) (by kernel_rfl) (by kernel_rfl) (by kernel_rfl)
 refine so ?_
 let a7 : St := a5.p [(20, (vB (decide (p0.kind = 2)))), (21, (vB (decide (p0.kind = 2))))]
 refine st 2 a7 (nx ?_)
 refine cd h (fun h => ?_) fun h => ?_
 refine so ?_
 let a8 : St := a7.p [(25, (vB (decide (p0.num = 0)))), (24, (vB (decide (p0.num = 0)))), (23, (vI p0.num)), (22, (.ptr 1 1))]
 refine st 4 a8 (gp true (decide (p0.num = 0)) (.ptr 1 2) (fun hc => vl) (gp true (decide (p0.num = 0)) (vS p0.text) (fun hc => vg hc) (gp true (decide (p0.num = 0)) (vI (p0.text.length : Int)) (fun hc => vg hc) (gp true (decide (p0.num = 0)) (vB (decide ((p0.text.length : Int) ≤ 200))) (fun hc => vg hc) ?_))))
 refine vs (fun (y : Bool) => (vB y)) h (fun y hy => vop_pickV hy (p := (true && ((decide (p0.num = 0)) == true))) (q := true) (by kernel_rfl) (by kernel_rfl) (by kernel_rfl) (by kernel_rfl) (fun hb => gc_t rfl hb) (fun _ => rfl)) fun y2 h => ?_
 let a9 : St := a8.p [(2, (vB y2)), (30, (vB y2)), (29, (.ite (true && ((decide (p0.num = 0)) == true)) (vB (decide ((p0.text.length : Int) ≤ 200))))), (28, (.ite (true && ((decide (p0.num = 0)) == true)) (vI (p0.text.length : Int)))), (27, (.ite (true && ((decide (p0.num = 0)) == true)) (vS p0.text))), (26, (.ite (true && ((decide (p0.num = 0)) == true)) (.ptr 1 2)))]
 refine st 1 a9 (nx (ri (br (tr ?_))))
 injection h with h; subst h
 exact ret1_step (v := (vB y2)) (by kernel_rfl) (by kernel_rfl) (by kernel_rfl)
 refine so ?_
 let a10 : St := a7.p [(31, (vB (decide (p0.kind = 3)))), (32, (vB (decide (p0.kind = 3))))]
 refine st 2 a10 (nx ?_)
 refine cd h (fun h => ?_) fun h => ?_
 refine so ?_
 let a11 : St := a10.p [(36, (vB (decide (p0.num = 0)))), (35, (vB (decide (p0.num = 0)))), (34, (vI p0.num)), (33, (.ptr 1 1))]
 refine st 4 a11 (gp true (decide (p0.num = 0)) (.ptr 1 1) (fun hc => vl) (gp true (decide (p0.num = 0)) (vI p0.num) (fun hc => vg hc) (gp true (decide (p0.num = 0)) (vB (decide (p0.num = 1))) (fun hc => vg hc) ?_)))
 refine vs (fun (y : Bool) => (vB y)) h (fun y hy => vop_pickV hy (p := true) (q := (true && ((decide (p0.num = 0)) == false))) (by kernel_rfl) (by kernel_rfl) (by kernel_rfl) (by kernel_rfl) (fun _ => rfl) (fun hb => gc_f rfl hb)) fun y3 h => ?_
 let a12 : St := a11.p [(41, (vB y3)), (40, (vB y3)), (39, (.ite (true && ((decide (p0.num = 0)) == false)) (vB (decide (p0.num = 1))))), (38, (.ite (true && ((decide (p0.num = 0)) == false)) (vI p0.num))), (37, (.ite (true && ((decide (p0.num = 0)) == false)) (.ptr 1 1)))]
 refine st 1 a12 (gp true y3 (.ptr 1 2) (fun hc => vl) (gp true y3 (vS p0.text) (fun hc => vg hc) (gp true y3 (vB (decide (p0.text = []))) (fun hc => vg hc) (vs (fun (y : Bool) => (vB y)) h (fun y hy => vop_pickV hy (p := (true && (y3 == true))) (q := true) (by kernel_rfl) (by kernel_rfl) (by kernel_rfl) (by kernel_rfl) (fun hb => gc_t rfl hb) (fun _ => rfl)) fun y4 h => ?_))))
 let a13 : St := a12.p [(2, (vB y4)), (45, (vB y4)), (44, (.ite (gT y3) (vB (decide (p0.text = []))))), (43, (.ite (gT y3) (vS p0.text))), (42, (.ite (gT y3) (.ptr 1 2)))]
 refine st 1 a13 (nx (ri (br (tr ?_))))
 injection h with h; subst h
 exact ret1_step (v := (vB y4)) (by kernel_rfl) (by kernel_rfl) (by kernel_rfl)
 refine ki (bn (xi (so ?_)))
 let a14 : St := a10.p [(2, (vB false))]
 refine st 1 a14 (nx (ri ?_))
 injection h with h; subst h
 exact ret1_step (v := (vB false)) (by kernel_rfl) (by kernel_rfl) (by kernel_rfl)
theorem OK_iIsLit (p0 : GValue) : FOk Try.prog 184 [(vGValue p0)] (fun y => (vB y)) (iIsLit p0) := by
 intro r h
 rw [iIsLit] at h
 refine acalls_of_fn triIsLit (Nat.le_of_ble_eq_true rfl) (by simp) ?_
 show avc Try.prog aciIsLit (qiIsLit _) ⟨[(0, (vGValue p0))], []⟩
 delta aciIsLit
 refine so ?_
 let a0 : St := ⟨[(2, (vB false)), (1, (.ptr 1 0)), (0, (vGValue p0))], [(1, bGValue p0)]⟩
 refine st 2 a0 (nx (so ?_))
 let a1 : St := a0.p [(3, (vGValue p0))]
 refine st 1 a1 (cs h (OK_iValueOk p0) fun y1 h => ?_)
 let a2 : St := a1.p [(5, (vB y1)), (4, (vB y1))]
 refine st 1 a2 (gp true y1 (.ptr 1 0) (fun hc => vl) (gp true y1 (vI p0.kind) (fun hc => vg hc) (gp true y1 (vB (!decide (p0.kind = 1))) (fun hc => vg hc) (gp true y1 (vB (!decide (p0.kind = 1))) (fun hc => vg hc) (gp (true && (y1 == true)) (!decide (p0.kind = 1)) (.ptr 1 1) (fun hc => vl) (gp (true && (y1 == true)) (!decide (p0.kind = 1)) (vI p0.num) (fun hc => vg hc) ?_))))))
 refine gp (true && (y1 == true)) (!decide (p0.kind = 1)) (vB (decide (0 ≤ p0.num))) (fun hc => vg hc) ?_
 refine gv true y1 (fun (y : Bool) => (vB y)) h (fun y hy hc => vop_pickV hy (p := true) (q := ((true && (y1 == true)) && ((!decide (p0.kind = 1)) == false))) (Eq.trans (b := ([(true && (y1 == true))] : List Bool).all id) (by kernel_rfl) (all_c hc rfl)) (by kernel_rfl) (by kernel_rfl) (by kernel_rfl) (fun _ => rfl) (fun hb => gc_f hc hb)) fun y2 h => ?_
 refine vs (fun (y : Bool) => (vB y)) h (fun y hy => vop_pickV hy (p := (true && (y1 == true))) (q := true) (by kernel_rfl) (by kernel_rfl) (by kernel_rfl) (by kernel_rfl) (fun hb => gc_t rfl hb) (fun _ => rfl)) fun y3 h => ?_
 let a3 : St := a2.p [(15, (vB y3)), (14, (vB y3)), (13, (.ite (gT y1) (vB y2))), (12, (.ite ((gT y1) && ((!decide (p0.kind = 1)) == false)) (vB (decide (0 ≤ p0.num))))), (11, (.ite ((gT y1) && ((!decide (p0.kind = 1)) == false)) (vI p0.num))), (10, (.ite ((gT y1) && ((!decide (p0.kind = 1)) == false)) (.ptr 1 1))), (9, (.ite (gT y1) (vB (!decide (p0.kind = 1))))), (8, (.ite (gT y1) (vB (!decide (p0.kind = 1))))), (7, (.ite (gT y1) (vI p0.kind))), (6, (.ite (gT y1) (.ptr 1 0)))]
 refine st 1 a3 (gp true y3 (.ptr 1 2) (fun hc => vl) (gp true y3 (vS p0.text) (fun hc => vg hc) (gp true y3 (vI (p0.text.length : Int)) (fun hc => vg hc) (gp true y3 (vB (decide ((p0.text.length : Int) ≤ 40))) (fun hc => vg hc) ?_))))
 refine vs (fun (y : Bool) => (vB y)) h (fun y hy => vop_pickV hy (p := (true && (y3 == true))) (q := true) (by kernel_rfl) (by kernel_rfl) (by kernel_rfl) (by kernel_rfl) (fun hb => gc_t rfl hb) (fun _ => rfl)) fun y4 h => ?_
 let a4 : St := a3.p [(2, (vB y4)), (20, (vB y4)), (19, (.ite (gT y3) (vB (decide ((p0.text.length : Int) ≤ 40))))), (18, (.ite (gT y3) (vI (p0.text.length : Int)))), (17, (.ite (gT y3) (vS p0.text))), (16, (.ite (gT y3) (.ptr 1 2)))]
 refine st 1 a4 (nx (ri ?_))
 injection h with h; subst h
 exact ret1_step (v := (vB y4)) (by kernel_rfl) (by kernel_rfl) (by kernel_rfl)
theorem OK_iFormOf (p0 : GExpr) : FOk Try.prog 138 [(vGExpr p0)] (fun y => (.tup [(vGForm y.1), (vB y.2)])) (iFormOf p0) := by
 intro r h
 rw [iFormOf] at h
 refine acalls_of_fn triFormOf (Nat.le_of_ble_eq_true rfl) (by simp) ?_
 show avc Try.prog aciFormOf (qiFormOf _) ⟨[(0, (vGExpr p0))], []⟩
 delta aciFormOf
 refine so ?_
 let a0 : St := ⟨[(3, (vB false)), (2, (.ptr 2 0)), (1, (.ptr 1 0)), (0, (vGExpr p0))], [(2, [(vB false), (vB false), (vB false), (vB false), (vI 0), (vI 0), (vI 0)]), (1, bGExpr p0)]⟩
 refine st 3 a0 (nx (si (so ?_)))
 let a1 : St := a0.p [(5, (vI p0.kind)), (4, (.ptr 1 0))]
 refine st 2 a1 (nx (bi (so ?_)))
 let a2 : St := a1.p [(6, (vB (decide (p0.kind = 1)))), (7, (vB (decide (p0.kind = 1))))]
 refine st 2 a2 (nx ?_)
 refine cd h (fun h => ?_) fun h => ?_
 refine so ?_
 let a3 : St := a2.p [(10, (vGValue p0.value)), (9, (.ptr 1 3)), (8, (vGForm (GForm.mk false false true false 0 0 0)))]
 refine st 3 a3 (cs h (OK_iIsLit p0.value) fun y1 h => ?_)
 let a4 : St := ⟨(3, (vB y1)) :: (11, (vB y1)) :: a3.env, [(2, bGForm (GForm.mk false false true false 0 0 0)), (1, bGExpr p0)]⟩
 refine st 2 a4 (nx (ri (br (tr ?_))))
 injection h with h; subst h
 exact retn_step (vs := [(vGForm (GForm.mk false false true false 0 0 0)), (vB y1)]) (by kernel_rfl) (by kernel_rfl)
 refine so ?_
 let a5 : St := a2.p [(12, (vB (decide (p0.kind = 2)))), (13, (vB (decide (p0.kind = 2))))]
 refine st 2 a5 (nx ?_)
 refine cd h (fun h => ?_) fun h => ?_
 refine so ?_
 let a6 : St := a5.p [(16, (vS p0.name)), (15, (.ptr 1 7)), (14, (vGForm (GForm.mk false false false true 0 0 0)))]
 refine st 3 a6 (cs h (OK_iNameOk p0.name) fun y2 h => ?_)
 let a7 : St := a6.p [(18, (vB y2)), (17, (vB y2))]
 refine st 1 a7 (gp true y2 (.ptr 1 6) (fun hc => vl) (gp true y2 (vS p0.qual) (fun hc => vg hc) (gp true y2 (vB (decide (p0.qual = []))) (fun hc => vg hc) (gp true y2 (vB (decide (p0.qual = []))) (fun hc => vg hc) (gp (true && (y2 == true)) (decide (p0.qual = [])) (.ptr 1 6) (fun hc => vl) ?_)))))
 refine gp (true && (y2 == true)) (decide (p0.qual = [])) (vS p0.qual) (fun hc => vop_val1 (Eq.trans (b := ([((true && (y2 == true)) && ((decide (p0.qual = [])) == false))] : List Bool).all id) (by kernel_rfl) (all_c hc rfl)) (by kernel_rfl)) ?_
 refine gcall_step (p := (true && (y2 == true))) (b := (decide (p0.qual = []))) (m := iNameOk p0.qual) (dflt := default) (args := [(vS p0.qual)]) (v' := (fun y => (vB y))) h (by kernel_rfl) (OK_iNameOk p0.qual) (fun hc => by kernel_rfl) (by kernel_rfl) (fun _ => rfl) (fun hc => (Eq.trans (b := ([((true && (y2 == true)) && ((decide (p0.qual = [])) == false))] : List Bool).all id) (by kernel_rfl) (all_c hc rfl))) ?_
 clear h; intro y3 h
 refine gv true y2 (fun (y : Bool) => (vB y)) h (fun y hy hc => vop_pickV hy (p := true) (q := ((true && (y2 == true)) && ((decide (p0.qual = [])) == false))) (Eq.trans (b := ([(true && (y2 == true))] : List Bool).all id) (by kernel_rfl) (all_c hc rfl)) (by kernel_rfl) (by kernel_rfl) (by kernel_rfl) (fun _ => rfl) (fun hb => gc_f hc hb)) fun y4 h => ?_
 refine vs (fun (y : Bool) => (vB y)) h (fun y hy => vop_pickV hy (p := (true && (y2 == true))) (q := true) (by kernel_rfl) (by kernel_rfl) (by kernel_rfl) (by kernel_rfl) (fun hb => gc_t rfl hb) (fun _ => rfl)) fun y5 h => ?_
 let a8 : St := ⟨(3, (vB y5)) :: (27, (vB y5)) :: (26, (.ite (gT y2) (vB y4))) :: (25, (.ite ((gT y2) && ((decide (p0.qual = [])) == false)) (vB y3))) :: (24, (.ite ((gT y2) && ((decide (p0.qual = [])) == false)) (vS p0.qual))) :: (23, (.ite ((gT y2) && ((decide (p0.qual = [])) == false)) (.ptr 1 6))) :: (22, (.ite (gT y2) (vB (decide (p0.qual = []))))) :: (21, (.ite (gT y2) (vB (decide (p0.qual = []))))) :: (20, (.ite (gT y2) (vS p0.qual))) :: (19, (.ite (gT y2) (.ptr 1 6))) :: a7.env, [(2, bGForm (GForm.mk false false false true 0 0 0)), (1, bGExpr p0)]⟩
 refine st 2 a8 (nx (ri (br (tr ?_))))
 injection h with h; subst h
 exact retn_step (vs := [(vGForm (GForm.mk false false false true 0 0 0)), (vB y5)]) (by kernel_rfl) (by kernel_rfl)
 refine so ?_
 let a9 : St := a5.p [(28, (vB (decide (p0.kind = 3)))), (29, (vB (decide (p0.kind = 3))))]
 refine st 2 a9 (nx ?_)
 refine cd h (fun h => ?_) fun h => ?_
 refine si (dops_in ?_)
 let a10 : St := a9.p [(34, (vB (decide (p0.op = 15)))), (33, (vB (decide (p0.op = 15)))), (32, (vI p0.op)), (31, (.ptr 1 1)), (30, (vGForm (GForm.mk true false false false 1 1 0)))]
 refine dsts_ok 5 (s' := a10) (by kernel_rfl) (dgp_step (p := true) (b := (decide (p0.op = 15))) (v' := (.ptr 1 1)) (by kernel_rfl) rfl rfl (fun hc => vl) (dgp_step (p := true) (b := (decide (p0.op = 15))) (v' := (vI p0.op)) (by kernel_rfl) rfl rfl (fun hc => vg hc) (dgp_step (p := true) (b := (decide (p0.op = 15))) (v' := (vB (decide (p0.op = 16)))) (by kernel_rfl) rfl rfl (fun hc => vg hc) ?_)))
 refine dv_step (m := some (if (decide (p0.op = 15)) = true then true else (decide (p0.op = 16)))) (v' := fun y => (vB y)) h rfl rfl (fun y hy => vop_pickV hy (p := true) (q := (true && ((decide (p0.op = 15)) == false))) (by kernel_rfl) (by kernel_rfl) (by kernel_rfl) (by kernel_rfl) (fun _ => rfl) (fun hb => gc_f rfl hb)) ?_
 clear h; intro y6 h
 let a11 : St := ⟨(3, (vB y6)) :: (38, (vB y6)) :: (37, (.ite (true && ((decide (p0.op = 15)) == false)) (vB (decide (p0.op = 16))))) :: (36, (.ite (true && ((decide (p0.op = 15)) == false)) (vI p0.op))) :: (35, (.ite (true && ((decide (p0.op = 15)) == false)) (.ptr 1 1))) :: a10.env, [(2, bGForm (GForm.mk true false false false 1 1 0)), (1, bGExpr p0)]⟩
 refine dsts_ok 2 (s' := a11) (by kernel_rfl) (dnil_in (by kernel_rfl) (by kernel_rfl) (xi (ri (br (tr ?_)))))
 injection h with h; subst h
 exact retn_step (vs := [(vGForm (GForm.mk true false false false 1 1 0)), (vB y6)]) (by kernel_rfl) (by kernel_rfl)
 refine so ?_
 let a12 : St := a9.p [(39, (vB (decide (p0.kind = 4)))), (40, (vB (decide (p0.kind = 4))))]
 refine st 2 a12 (nx ?_)
 refine cd h (fun h => ?_) fun h => ?_
 refine si (dops_in ?_)
 let a13 : St := a12.p [(45, (vB (decide (1 ≤ p0.op)))), (44, (vB (decide (1 ≤ p0.op)))), (43, (vI p0.op)), (42, (.ptr 1 1)), (41, (vGForm (GForm.mk true false false false 2 2 0)))]
 refine dsts_ok 5 (s' := a13) (by kernel_rfl) (dgp_step (p := true) (b := (decide (1 ≤ p0.op))) (v' := (.ptr 1 1)) (by kernel_rfl) rfl rfl (fun hc => vl) (dgp_step (p := true) (b := (decide (1 ≤ p0.op))) (v' := (vI p0.op)) (by kernel_rfl) rfl rfl (fun hc => vg hc) (dgp_step (p := true) (b := (decide (1 ≤ p0.op))) (v' := (vB (decide (p0.op ≤ 14)))) (by kernel_rfl) rfl rfl (fun hc => vg hc) ?_)))
 refine dv_step (m := some (if (decide (1 ≤ p0.op)) = true then (decide (p0.op ≤ 14)) else false)) (v' := fun y => (vB y)) h rfl rfl (fun y hy => vop_pickV hy (p := (true && ((decide (1 ≤ p0.op)) == true))) (q := true) (by kernel_rfl) (by kernel_rfl) (by kernel_rfl) (by kernel_rfl) (fun hb => gc_t rfl hb) (fun _ => rfl)) ?_
 clear h; intro y7 h
 let a14 : St := ⟨(3, (vB y7)) :: (49, (vB y7)) :: (48, (.ite (true && ((decide (1 ≤ p0.op)) == true)) (vB (decide (p0.op ≤ 14))))) :: (47, (.ite (true && ((decide (1 ≤ p0.op)) == true)) (vI p0.op))) :: (46, (.ite (true && ((decide (1 ≤ p0.op)) == true)) (.ptr 1 1))) :: a13.env, [(2, bGForm (GForm.mk true false false false 2 2 0)), (1, bGExpr p0)]⟩
 refine dsts_ok 2 (s' := a14) (by kernel_rfl) (dnil_in (by kernel_rfl) (by kernel_rfl) (xi (ri (br (tr ?_)))))
 injection h with h; subst h
 exact retn_step (vs := [(vGForm (GForm.mk true false false false 2 2 0)), (vB y7)]) (by kernel_rfl) (by kernel_rfl)
 refine so ?_
 let a15 : St := a12.p [(50, (vB (decide (p0.kind = 5)))), (51, (vB (decide (p0.kind = 5))))]
 refine st 2 a15 (nx ?_)
 refine cd h (fun h => ?_) fun h => ?_
 refine so ?_
 let a16 : St := ⟨(3, (vB true)) :: (52, (vGForm (GForm.mk false true false false 1 1 0))) :: a15.env, [(2, bGForm (GForm.mk false true false false 1 1 0)), (1, bGExpr p0)]⟩
 refine st 3 a16 (nx (ri (br (tr ?_))))
 injection h with h; subst h
 exact retn_step (vs := [(vGForm (GForm.mk false true false false 1 1 0)), (vB true)]) (by kernel_rfl) (by kernel_rfl)
 refine so ?_
 let a17 : St := a15.p [(53, (vB (decide (p0.kind = 6)))), (54, (vB (decide (p0.kind = 6))))]
 refine st 2 a17 (nx ?_)
 refine cd h (fun h => ?_) fun h => ?_
 refine so ?_
 let a18 : St := ⟨(3, (vB true)) :: (55, (vGForm (GForm.mk false true false false 3 3 0))) :: a17.env, [(2, bGForm (GForm.mk false true false false 3 3 0)), (1, bGExpr p0)]⟩
 refine st 3 a18 (nx (ri (br (tr ?_))))
 injection h with h; subst h
 exact retn_step (vs := [(vGForm (GForm.mk false true false false 3 3 0)), (vB true)]) (by kernel_rfl) (by kernel_rfl)
 refine so ?_
 let a19 : St := a17.p [(56, (vB (decide (p0.kind = 7)))), (57, (vB (decide (p0.kind = 7))))]
 refine st 2 a19 (nx ?_)
 refine cd h (fun h => ?_) fun h => ?_
 refine so ?_
 let a20 : St := ⟨(3, (vB true)) :: (58, (vGForm (GForm.mk false true false false 2 9 0))) :: a19.env, [(2, bGForm (GForm.mk false true false false 2 9 0)), (1, bGExpr p0)]⟩
 refine st 3 a20 (nx (ri (br (tr ?_))))
 injection h with h; subst h
 exact retn_step (vs := [(vGForm (GForm.mk false true false false 2 9 0)), (vB true)]) (by kernel_rfl) (by kernel_rfl)
 refine so ?_
 let a21 : St := a19.p [(59, (vB (decide (p0.kind = 8)))), (60, (vB (decide (p0.kind = 8))))]
 refine st 2 a21 (nx ?_)
 refine cd h (fun h => ?_) fun h => ?_
 refine so ?_
 let a22 : St := ⟨(3, (vB true)) :: (61, (vGForm (GForm.mk false true false false 1 1 1))) :: a21.env, [(2, bGForm (GForm.mk false true false false 1 1 1)), (1, bGExpr p0)]⟩
 refine st 3 a22 (nx (ri (br (tr ?_))))
 injection h with h; subst h
 exact retn_step (vs := [(vGForm (GForm.mk false true false false 1 1 1)), (vB true)]) (by kernel_rfl) (by kernel_rfl)
 refine so ?_
 let a23 : St := a21.p [(62, (vB (decide (p0.kind = 9)))), (63, (vB (decide (p0.kind = 9))))]
 refine st 2 a23 (nx ?_)
 refine cd h (fun h => ?_) fun h => ?_
 refine so ?_
 let a24 : St := ⟨(3, (vB true)) :: (64, (vGForm (GForm.mk false false false false 0 0 1))) :: a23.env, [(2, bGForm (GForm.mk false false false false 0 0 1)), (1, bGExpr p0)]⟩
 refine st 3 a24 (nx (ri (br (tr ?_))))
 injection h with h; subst h
 exact retn_step (vs := [(vGForm (GForm.mk false false false false 0 0 1)), (vB true)]) (by kernel_rfl) (by kernel_rfl)
 refine ki (bn (xi (so ?_)))
 let a25 : St := ⟨(3, (vB false)) :: (65, (vGForm (GForm.mk false false false false 0 0 0))) :: a23.env, [(2, bGForm (GForm.mk false false false false 0 0 0)), (1, bGExpr p0)]⟩
 refine st 3 a25 (nx (ri ?_))
 injection h with h; subst h
 exact retn_step (vs := [(vGForm (GForm.mk false false false false 0 0 0)), (vB false)]) (by kernel_rfl) (by kernel_rfl)
theorem OKs_iQuery_exprs_L3 (p0 : GQuery) : (∀ (x3_8 : (List GExpr)) (x46 : Int) (r : (List GExpr)), iQuery_exprs_L3 p0 x3_8 x46 = some r → avc Try.prog aciQuery_exprs_L3 (qiQuery_exprs_6 r) (stiQuery_exprs_L3 p0 x3_8 x46)) := by
 refine iQuery_exprs_L3.partial_correctness p0 (fun x3_8 x46 r => avc Try.prog aciQuery_exprs_L3 (qiQuery_exprs_6 r) (stiQuery_exprs_L3 p0 x3_8 x46)) ?_
 · intro F_iQuery_exprs_L3 OK_iQuery_exprs_L3 x3_8 x46 r h
   delta aciQuery_exprs_L3
   refine loop_unroll (so ?_)
   let a21 : St := (stiQuery_exprs_L3 p0 x3_8 x46).p [(47, (vB (decide (x46 < (p0.order.length : Int)))))]
   refine st 1 a21 (nx (si ?_))
   refine cd h (fun h => ?_) fun h => ?_
   refine ki (xi (si (bi (so (vs (fun (y : GSortKey) => (.rp (oGSortKey y))) h (fun y hy => vop_ia (l := p0.order) (f := cGSortKey) (g := oGSortKey) (k := .i64) hy cGSortKey_eq (by kernel_rfl) (by kernel_rfl) (by kernel_rfl)) fun y9 h => ?_)))))
   let a22 : St := ⟨(9, (.ptr 9 0)) :: (49, (vGSortKey y9)) :: (48, (.rp (oGSortKey y9))) :: a21.env, [(9, bGSortKey y9)]⟩
   refine st 3 a22 (nx (oi ?_))
   let a23 : St := a22.p [(52, (vGExpr y9.expr)), (51, (.ptr 9 0)), (50, (.osl 3 49 10 (x3_8.map cGExpr)))]
   refine st 3 a23 (bsl_step (l := ([y9.expr] : List GExpr)) (f := cGExpr) (g := oGExpr) (by kernel_rfl) cGExpr_eq (by kernel_rfl) ?_)
   refine app_step (t := 3) (l := x3_8) (m := ([y9.expr] : List GExpr)) (f := cGExpr) (S' := fun y => ⟨[(54, (.osl 54 49 10 (y.map cGExpr))), (53, (.osl 53 49 10 (([y9.expr] : List GExpr).map cGExpr))), (52, (vGExpr y9.expr)), (51, (.ptr 9 0)), (50, (.d (.sl 10 (x3_8.map cGExpr)))), (9, (.ptr 9 0)), (49, (vGSortKey y9)), (48, (.rp (oGSortKey y9))), (47, (vB (decide (x46 < (p0.order.length : Int))))), (3, (.d (.sl 10 (x3_8.map cGExpr)))), (44, (.d (.sl 11 (p0.order.map cGSortKey)))), (45, (vI (p0.order.length : Int))), (46, (vI x46))], [(9, bGSortKey y9)]⟩) h (by kernel_rfl) (by kernel_rfl) (by kernel_rfl) (by kernel_rfl) (fun y => by kernel_rfl) ?_
   clear h; intro y10 h
   let a24 : St := ⟨[(3, (.osl 3 49 10 (y10.map cGExpr))), (54, (.d (.sl 10 (y10.map cGExpr)))), (53, (.osl 53 49 10 (([y9.expr] : List GExpr).map cGExpr))), (52, (vGExpr y9.expr)), (51, (.ptr 9 0)), (50, (.d (.sl 10 (x3_8.map cGExpr)))), (9, (.ptr 9 0)), (49, (vGSortKey y9)), (48, (.rp (oGSortKey y9))), (47, (vB (decide (x46 < (p0.order.length : Int))))), (3, (.d (.sl 10 (x3_8.map cGExpr)))), (44, (.d (.sl 11 (p0.order.map cGSortKey)))), (45, (vI (p0.order.length : Int))), (46, (vI x46))], [(9, bGSortKey y9)]⟩
   refine st 1 a24 (ni (bn (xi (oi ?_))))
   let a25 : St := a24.p [(46, (vI (IntKind.wrap .i64 (x46 + 1)))), (55, (vI (IntKind.wrap .i64 (x46 + 1))))]
   exact st 2 a25 (ni (loop_back (s' := stiQuery_exprs_L3 p0 y10 (IntKind.wrap .i64 (x46 + 1))) (wr [(3, .old 3)] (eo 3 (es (es (es er_nil)))) br_nil) (OK_iQuery_exprs_L3 y10 (IntKind.wrap .i64 (x46 + 1)) _ h)))
   refine ei (te (te (bh (xi (so ?_)))))
   let a26 : St := ⟨[(2, (.osl 2 49 10 (x3_8.map cGExpr))), (56, (.d (.sl 10 (x3_8.map cGExpr)))), (47, (vB (decide (x46 < (p0.order.length : Int))))), (3, (.d (.sl 10 (x3_8.map cGExpr)))), (44, (.d (.sl 11 (p0.order.map cGSortKey)))), (45, (vI (p0.order.length : Int))), (46, (vI x46))], []⟩
   refine st 2 a26 (nx (ret_wk (s' := ⟨[(2, (.osl 2000000 49 10 (x3_8.map cGExpr)))], []⟩) (wr [(2000000, .old 2)] (eo 2 er_nil) br_nil) ?_))
   injection h with h; subst h
   exact ret1_step (v := (.osl 2000000 49 10 (x3_8.map cGExpr))) (by kernel_rfl) (by kernel_rfl) ⟨by kernel_rfl, trivial⟩
theorem OK_iQuery_exprs_L3 (p0 : GQuery) (x3_8 : (List GExpr)) (x46 : Int) (r : (List GExpr)) (h : iQuery_exprs_L3 p0 x3_8 x46 = some r) : avc Try.prog aciQuery_exprs_L3 (qiQuery_exprs_6 r) (stiQuery_exprs_L3 p0 x3_8 x46) := (OKs_iQuery_exprs_L3 p0) x3_8 x46 r h
theorem OKs_iQuery_exprs_L2 (p0 : GQuery) : (∀ (x3_4 : (List GExpr)) (x30 : Int) (r : (List GExpr)), iQuery_exprs_L2 p0 x3_4 x30 = some r → avc Try.prog aciQuery_exprs_L2 (qiQuery_exprs_4 r) (stiQuery_exprs_L2 p0 x3_4 x30)) := by
 refine iQuery_exprs_L2.partial_correctness p0 (fun x3_4 x30 r => avc Try.prog aciQuery_exprs_L2 (qiQuery_exprs_4 r) (stiQuery_exprs_L2 p0 x3_4 x30)) ?_
 · intro F_iQuery_exprs_L2 OK_iQuery_exprs_L2 x3_4 x30 r h
   delta aciQuery_exprs_L2
   refine loop_unroll (so ?_)
   let a12 : St := (stiQuery_exprs_L2 p0 x3_4 x30).p [(31, (vB (decide (x30 < (p0.from_.length : Int)))))]
   refine st 1 a12 (nx (si ?_))
   refine cd h (fun h => ?_) fun h => ?_
   refine ki (xi (si (bi (so (vs (fun (y : GSource) => (.rp (oGSource y))) h (fun y hy => vop_ia (l := p0.from_) (f := cGSource) (g := oGSource) (k := .i64) hy cGSource_eq (by kernel_rfl) (by kernel_rfl) (by kernel_rfl)) fun y5 h => ?_)))))
   let a13 : St := ⟨(7, (.ptr 7 0)) :: (33, (vGSource y5)) :: (32, (.rp (oGSource y5))) :: a12.env, [(7, bGSource y5), (1, bGQuery p0)]⟩
   refine st 3 a13 (nx (oi ?_))
   let a14 : St := a13.p [(36, (.d (.sl 10 (y5.on_.map cGExpr)))), (35, (.ptr 7 2)), (34, (.osl 3 49 10 (x3_4.map cGExpr)))]
   refine st 3 a14 ?_
   refine app_step (t := 3) (l := x3_4) (m := y5.on_) (f := cGExpr) (S' := fun y => ⟨[(37, (.osl 37 49 10 (y.map cGExpr))), (36, (.d (.sl 10 (y5.on_.map cGExpr)))), (35, (.ptr 7 2)), (34, (.d (.sl 10 (x3_4.map cGExpr)))), (7, (.ptr 7 0)), (33, (vGSource y5)), (32, (.rp (oGSource y5))), (31, (vB (decide (x30 < (p0.from_.length : Int))))), (1, (.ptr 1 0)), (3, (.d (.sl 10 (x3_4.map cGExpr)))), (28, (.d (.sl 3 (p0.from_.map cGSource)))), (29, (vI (p0.from_.length : Int))), (30, (vI x30))], [(7, bGSource y5), (1, bGQuery p0)]⟩) h (by kernel_rfl) (by kernel_rfl) (by kernel_rfl) (by kernel_rfl) (fun y => by kernel_rfl) ?_
   clear h; intro y6 h
   let a15 : St := ⟨[(3, (.osl 3 49 10 (y6.map cGExpr))), (37, (.d (.sl 10 (y6.map cGExpr)))), (36, (.d (.sl 10 (y5.on_.map cGExpr)))), (35, (.ptr 7 2)), (34, (.d (.sl 10 (x3_4.map cGExpr)))), (7, (.ptr 7 0)), (33, (vGSource y5)), (32, (.rp (oGSource y5))), (31, (vB (decide (x30 < (p0.from_.length : Int))))), (1, (.ptr 1 0)), (3, (.d (.sl 10 (x3_4.map cGExpr)))), (28, (.d (.sl 3 (p0.from_.map cGSource)))), (29, (vI (p0.from_.length : Int))), (30, (vI x30))], [(7, bGSource y5), (1, bGQuery p0)]⟩
   refine st 1 a15 (ni (bn (xi (oi ?_))))
   let a16 : St := a15.p [(30, (vI (IntKind.wrap .i64 (x30 + 1)))), (38, (vI (IntKind.wrap .i64 (x30 + 1))))]
   exact st 2 a16 (ni (loop_back (s' := stiQuery_exprs_L2 p0 y6 (IntKind.wrap .i64 (x30 + 1))) (wr [(3, .old 3)] (es (eo 3 (es (es (es er_nil))))) (bs_ br_nil)) (OK_iQuery_exprs_L2 y6 (IntKind.wrap .i64 (x30 + 1)) _ h)))
   refine ei (te (te (bh (xi (so ?_)))))
   let a17 : St := a12.p [(41, (.d (.sl 10 (p0.where_.map cGExpr)))), (40, (.ptr 1 3)), (39, (.osl 3 49 10 (x3_4.map cGExpr)))]
   refine st 3 a17 ?_
   refine app_step (t := 3) (l := x3_4) (m := p0.where_) (f := cGExpr) (S' := fun y => ⟨[(42, (.osl 42 49 10 (y.map cGExpr))), (41, (.d (.sl 10 (p0.where_.map cGExpr)))), (40, (.ptr 1 3)), (39, (.d (.sl 10 (x3_4.map cGExpr)))), (31, (vB (decide (x30 < (p0.from_.length : Int))))), (1, (.ptr 1 0)), (3, (.d (.sl 10 (x3_4.map cGExpr)))), (28, (.d (.sl 3 (p0.from_.map cGSource)))), (29, (vI (p0.from_.length : Int))), (30, (vI x30))], [(1, bGQuery p0)]⟩) h (by kernel_rfl) (by kernel_rfl) (by kernel_rfl) (by kernel_rfl) (fun y => by kernel_rfl) ?_
   clear h; intro y7 h
   let a18 : St := ⟨[(3, (.osl 3 49 10 (y7.map cGExpr))), (42, (.d (.sl 10 (y7.map cGExpr)))), (41, (.d (.sl 10 (p0.where_.map cGExpr)))), (40, (.ptr 1 3)), (39, (.d (.sl 10 (x3_4.map cGExpr)))), (31, (vB (decide (x30 < (p0.from_.length : Int))))), (1, (.ptr 1 0)), (3, (.d (.sl 10 (x3_4.map cGExpr)))), (28, (.d (.sl 3 (p0.from_.map cGSource)))), (29, (vI (p0.from_.length : Int))), (30, (vI x30))], [(1, bGQuery p0)]⟩
   refine st 1 a18 (nx (si (so ?_)))
   let a19 : St := a18.p [(44, (.d (.sl 11 (p0.order.map cGSortKey)))), (43, (.ptr 1 4))]
   refine st 2 a19 (ps (vI (p0.order.length : Int)) (vop_len (sz := 11) (l := p0.order) (f := cGSortKey) (by kernel_rfl) (by kernel_rfl)) ?_)
   let a20 : St := a19.p [(46, (vI 0)), (45, (vI (p0.order.length : Int)))]
   exact st 1 a20 (nx (bi (loop_go (s' := stiQuery_exprs_L3 p0 y7 0) (wr [(3, .old 3)] (eo 3 (es (es (es er_nil)))) br_nil) (OK_iQuery_exprs_L3 p0 y7 0 _ h))))
theorem OK_iQuery_exprs_L2 (p0 : GQuery) (x3_4 : (List GExpr)) (x30 : Int) (r : (List GExpr)) (h : iQuery_exprs_L2 p0 x3_4 x30 = some r) : avc Try.prog aciQuery_exprs_L2 (qiQuery_exprs_4 r) (stiQuery_exprs_L2 p0 x3_4 x30) := (OKs_iQuery_exprs_L2 p0) x3_4 x30 r h
theorem OKs_iQuery_exprs_J1 (p0 : GQuery) : (∀ (x14 : Int) (x3_3 : (List GExpr)) (r : (List GExpr)), iQuery_exprs_J1 p0 x14 x3_3 = some r → avc Try.prog aciQuery_exprs_J1 (qiQuery_exprs_2 r) (stiQuery_exprs_J1 p0 x14 x3_3)) ∧ (∀ (x3 : (List GExpr)) (x14 : Int) (r : (List GExpr)), iQuery_exprs_L0 p0 x3 x14 = some r → avc Try.prog aciQuery_exprs_L0 (qiQuery_exprs_1 r) (stiQuery_exprs_L0 p0 x3 x14)) := by
 refine iQuery_exprs_J1.mutual_partial_correctness p0 (fun x14 x3_3 r => avc Try.prog aciQuery_exprs_J1 (qiQuery_exprs_2 r) (stiQuery_exprs_J1 p0 x14 x3_3)) (fun x3 x14 r => avc Try.prog aciQuery_exprs_L0 (qiQuery_exprs_1 r) (stiQuery_exprs_L0 p0 x3 x14)) ?_ ?_
 · intro F_iQuery_exprs_L0 OK_iQuery_exprs_L0 x14 x3_3 r h
   delta aciQuery_exprs_J1
   refine oi ?_
   let a11 : St := (stiQuery_exprs_J1 p0 x14 x3_3).p [(14, (vI (IntKind.wrap .i64 (x14 + 1)))), (26, (vI (IntKind.wrap .i64 (x14 + 1))))]
   exact st 2 a11 (ni (loop_back (s' := stiQuery_exprs_L0 p0 x3_3 (IntKind.wrap .i64 (x14 + 1))) (wr [(3, .old 3)] (es (eo 3 (es (es (es er_nil))))) (bs_ br_nil)) (OK_iQuery_exprs_L0 x3_3 (IntKind.wrap .i64 (x14 + 1)) _ h)))
 · intro F_iQuery_exprs_J1 OK_iQuery_exprs_J1 x3 x14 r h
   delta aciQuery_exprs_L0
   refine loop_unroll (so ?_)
   let a4 : St := (stiQuery_exprs_L0 p0 x3 x14).p [(15, (vB (decide (x14 < (p0.items.length : Int)))))]
   refine st 1 a4 (nx (si ?_))
   refine cd h (fun h => ?_) fun h => ?_
   refine ki (xi (si (bi (so (vs (fun (y : GItem) => (.rp (oGItem y))) h (fun y hy => vop_ia (l := p0.items) (f := cGItem) (g := oGItem) (k := .i64) hy cGItem_eq (by kernel_rfl) (by kernel_rfl) (by kernel_rfl)) fun y1 h => ?_)))))
   let a5 : St := ⟨(5, (.ptr 5 0)) :: (17, (vGItem y1)) :: (16, (.rp (oGItem y1))) :: a4.env, [(5, bGItem y1), (1, bGQuery p0)]⟩
   refine st 3 a5 (nx (so ?_))
   let a6 : St := a5.p [(20, (vB (!y1.star))), (19, (vB y1.star)), (18, (.ptr 5 0))]
   refine st 3 a6 (nx ?_)
   refine cd h (fun h => ?_) fun h => ?_
   refine oi ?_
   let a7 : St := a6.p [(23, (vGExpr y1.expr)), (22, (.ptr 5 2)), (21, (.osl 3 49 10 (x3.map cGExpr)))]
   refine st 3 a7 (bsl_step (l := ([y1.expr] : List GExpr)) (f := cGExpr) (g := oGExpr) (by kernel_rfl) cGExpr_eq (by kernel_rfl) ?_)
   refine app_step (t := 3) (l := x3) (m := ([y1.expr] : List GExpr)) (f := cGExpr) (S' := fun y => ⟨[(25, (.osl 25 49 10 (y.map cGExpr))), (24, (.osl 24 49 10 (([y1.expr] : List GExpr).map cGExpr))), (23, (vGExpr y1.expr)), (22, (.ptr 5 2)), (21, (.d (.sl 10 (x3.map cGExpr)))), (20, (vB (!y1.star))), (19, (vB y1.star)), (18, (.ptr 5 0)), (5, (.ptr 5 0)), (17, (vGItem y1)), (16, (.rp (oGItem y1))), (15, (vB (decide (x14 < (p0.items.length : Int))))), (1, (.ptr 1 0)), (3, (.d (.sl 10 (x3.map cGExpr)))), (12, (.d (.sl 13 (p0.items.map cGItem)))), (13, (vI (p0.items.length : Int))), (14, (vI x14))], [(5, bGItem y1), (1, bGQuery p0)]⟩) h (by kernel_rfl) (by kernel_rfl) (by kernel_rfl) (by kernel_rfl) (fun y => by kernel_rfl) ?_
   clear h; intro y2 h
   let a8 : St := ⟨[(3, (.osl 3 49 10 (y2.map cGExpr))), (25, (.d (.sl 10 (y2.map cGExpr)))), (24, (.osl 24 49 10 (([y1.expr] : List GExpr).map cGExpr))), (23, (vGExpr y1.expr)), (22, (.ptr 5 2)), (21, (.d (.sl 10 (x3.map cGExpr)))), (20, (vB (!y1.star))), (19, (vB y1.star)), (18, (.ptr 5 0)), (5, (.ptr 5 0)), (17, (vGItem y1)), (16, (.rp (oGItem y1))), (15, (vB (decide (x14 < (p0.items.length : Int))))), (1, (.ptr 1 0)), (3, (.d (.sl 10 (x3.map cGExpr)))), (12, (.d (.sl 13 (p0.items.map cGItem)))), (13, (vI (p0.items.length : Int))), (14, (vI x14))], [(5, bGItem y1), (1, bGQuery p0)]⟩
   exact st 1 a8 (ni (bn (next_step (s' := stiQuery_exprs_J1 p0 x14 y2) (wr [(3, .old 3)] (es (eo 3 (es (es (es er_nil))))) (bs_ br_nil)) (OK_iQuery_exprs_J1 x14 y2 _ h))))
   exact ki (bn (next_step (s' := stiQuery_exprs_J1 p0 x14 x3) (wr [(3, .old 3)] (es (eo 3 (es (es (es er_nil))))) (bs_ br_nil)) (OK_iQuery_exprs_J1 x14 x3 _ h)))
   refine ei (te (te (bh (xi (si (so ?_))))))
   let a9 : St := a4.p [(28, (.d (.sl 3 (p0.from_.map cGSource)))), (27, (.ptr 1 2))]
   refine st 2 a9 (ps (vI (p0.from_.length : Int)) (vop_len (sz := 3) (l := p0.from_) (f := cGSource) (by kernel_rfl) (by kernel_rfl)) ?_)
   let a10 : St := a9.p [(30, (vI 0)), (29, (vI (p0.from_.length : Int)))]
   exact st 1 a10 (nx (bi (loop_go (s' := stiQuery_exprs_L2 p0 x3 0) (wr [(3, .old 3)] (es (eo 3 (es (es (es er_nil))))) (bs_ br_nil)) (OK_iQuery_exprs_L2 p0 x3 0 _ h))))
theorem OK_iQuery_exprs_J1 (p0 : GQuery) (x14 : Int) (x3_3 : (List GExpr)) (r : (List GExpr)) (h : iQuery_exprs_J1 p0 x14 x3_3 = some r) : avc Try.prog aciQuery_exprs_J1 (qiQuery_exprs_2 r) (stiQuery_exprs_J1 p0 x14 x3_3) := (OKs_iQuery_exprs_J1 p0).1 x14 x3_3 r h
theorem OK_iQuery_exprs_L0 (p0 : GQuery) (x3 : (List GExpr)) (x14 : Int) (r : (List GExpr)) (h : iQuery_exprs_L0 p0 x3 x14 = some r) : avc Try.prog aciQuery_exprs_L0 (qiQuery_exprs_1 r) (stiQuery_exprs_L0 p0 x3 x14) := (OKs_iQuery_exprs_J1 p0).2 x3 x14 r h
theorem OK_iQuery_exprs (p0 : GQuery) : FOkB Try.prog 66 [(vGQuery p0)] [] (fun (y : (List GExpr)) => (.osl 2000000 49 10 (y.map cGExpr))) (fun (y : (List GExpr)) => []) (iQuery_exprs p0) := by
 intro r h
 rw [iQuery_exprs] at h
 refine acalls_of_fn triQuery_exprs (Nat.le_of_ble_eq_true rfl) (by simp) ?_
 show avc Try.prog aciQuery_exprs (qiQuery_exprs _) ⟨[(0, (vGQuery p0))], []⟩
 delta aciQuery_exprs
 refine so ?_
 let a0 : St := ⟨[(2, (.nil 10)), (1, (.ptr 1 0)), (0, (vGQuery p0))], [(1, bGQuery p0)]⟩
 refine st 2 a0 (nx (so (bsl_step (l := ([] : List GExpr)) (f := cGExpr) (g := oGExpr) (by kernel_rfl) cGExpr_eq (by kernel_rfl) ?_)))
 let a1 : St := a0.p [(3, (.osl 3 49 10 (([] : List GExpr).map cGExpr))), (10, (.d (.sl 10 (([] : List GExpr).map cGExpr))))]
 refine st 1 a1 (nx (si (so ?_)))
 let a2 : St := a1.p [(12, (.d (.sl 13 (p0.items.map cGItem)))), (11, (.ptr 1 1))]
 refine st 2 a2 (ps (vI (p0.items.length : Int)) (vop_len (sz := 13) (l := p0.items) (f := cGItem) (by kernel_rfl) (by kernel_rfl)) ?_)
 let a3 : St := a2.p [(14, (vI 0)), (13, (vI (p0.items.length : Int)))]
 exact st 1 a3 (nx (bi (loop_go (s' := stiQuery_exprs_L0 p0 ([] : List GExpr) 0) (wr [(3, .old 3)] (es (eo 3 (es (es (es er_nil))))) (bs_ br_nil)) (OK_iQuery_exprs_L0 p0 ([] : List GExpr) 0 _ h))))
theorem OKs_gSlices_EqualFunc_Simpl_Expr_Simpl_Expr_impl_Expr_impl_Expr_iSameExpr_L0 : (∀ (p1 : (List GExpr)) (p0 : (List GExpr)) (x17 : Int) (r : Bool), gSlices_EqualFunc_Simpl_Expr_Simpl_Expr_impl_Expr_impl_Expr_iSameExpr_L0 p1 p0 x17 = some r → avc Try.prog acgSlices_EqualFunc_Simpl_Expr_Simpl_Expr_impl_Expr_impl_Expr_iSameExpr_L0 (qgSlices_EqualFunc_Simpl_Expr_Simpl_Expr_impl_Expr_impl_Expr_iSameExpr_1 r) (stgSlices_EqualFunc_Simpl_Expr_Simpl_Expr_impl_Expr_impl_Expr_iSameExpr_L0 p1 p0 x17)) ∧ (∀ (p0 : GExpr) (p1 : GExpr) (r : Bool), iSameExpr p0 p1 = some r → ACalls Try.prog 32 [(vGExpr p0), (vGExpr p1)] [] fun x _ => x = (fun y => (vB y)) r) ∧ (∀ (p0 : (List GQuery)) (p1 : (List GQuery)) (r : Bool), gSlices_EqualFunc_Simpl_Query_Simpl_Query_impl_Query_impl_Query_iSameQuery p0 p1 = some r → ACalls Try.prog 88 [(.d (.sl 6 (p0.map cGQuery))), (.d (.sl 6 (p1.map cGQuery))), (.fn 89 [])] [] fun x _ => x = (fun y => (vB y)) r) ∧ (∀ (p1 : (List GQuery)) (p0 : (List GQuery)) (x17 : Int) (r : Bool), gSlices_EqualFunc_Simpl_Query_Simpl_Query_impl_Query_impl_Query_iSameQuery_L0 p1 p0 x17 = some r → avc Try.prog acgSlices_EqualFunc_Simpl_Query_Simpl_Query_impl_Query_impl_Query_iSameQuery_L0 (qgSlices_EqualFunc_Simpl_Query_Simpl_Query_impl_Query_impl_Query_iSameQuery_1 r) (stgSlices_EqualFunc_Simpl_Query_Simpl_Query_impl_Query_impl_Query_iSameQuery_L0 p1 p0 x17)) ∧ (∀ (p0 : GQuery) (p1 : GQuery) (r : Bool), iSameQuery p0 p1 = some r → ACalls Try.prog 89 [(vGQuery p0), (vGQuery p1)] [] fun x _ => x = (fun y => (vB y)) r) ∧ (∀ (p0 : (List GSortKey)) (p1 : (List GSortKey)) (r : Bool), gSlices_EqualFunc_Simpl_SortKey_Simpl_SortKey_impl_SortKey_impl_SortKey_iSameQuery_3 p0 p1 = some r → ACalls Try.prog 152 [(.d (.sl 11 (p0.map cGSortKey))), (.d (.sl 11 (p1.map cGSortKey))), (.fn 149 [])] [] fun x _ => x = (fun y => (vB y)) r) ∧ (∀ (p1 : (List GSortKey)) (p0 : (List GSortKey)) (x17 : Int) (r : Bool), gSlices_EqualFunc_Simpl_SortKey_Simpl_SortKey_impl_SortKey_impl_SortKey_iSameQuery_3_L0 p1 p0 x17 = some r → avc Try.prog acgSlices_EqualFunc_Simpl_SortKey_Simpl_SortKey_impl_SortKey_impl_SortKey_iSameQuery_3_L0 (qgSlices_EqualFunc_Simpl_SortKey_Simpl_SortKey_impl_SortKey_impl_SortKey_iSameQuery_3_1 r) (stgSlices_EqualFunc_Simpl_SortKey_Simpl_SortKey_impl_SortKey_impl_SortKey_iSameQuery_3_L0 p1 p0 x17)) ∧ (∀ (p0 : GSortKey) (p1 : GSortKey) (r : Bool), iSameQuery_3 p0 p1 = some r → ACalls Try.prog 149 [(vGSortKey p0), (vGSortKey p1)] [] fun x _ => x = (fun y => (vB y)) r) ∧ (∀ (p0 : (List GExpr)) (p1 : (List GExpr)) (r : Bool), iSameExprs p0 p1 = some r → ACalls Try.prog 87 [(.d (.sl 10 (p0.map cGExpr))), (.d (.sl 10 (p1.map cGExpr)))] [] fun x _ => x = (fun y => (vB y)) r) ∧ (∀ (p0 : (List GExpr)) (p1 : (List GExpr)) (r : Bool), gSlices_EqualFunc_Simpl_Expr_Simpl_Expr_impl_Expr_impl_Expr_iSameExpr p0 p1 = some r → ACalls Try.prog 146 [(.d (.sl 10 (p0.map cGExpr))), (.d (.sl 10 (p1.map cGExpr))), (.fn 32 [])] [] fun x _ => x = (fun y => (vB y)) r) ∧ (∀ (p0 : (List GSource)) (p1 : (List GSource)) (r : Bool), gSlices_EqualFunc_Simpl_Source_Simpl_Source_impl_Source_impl_Source_iSameQuery_2 p0 p1 = some r → ACalls Try.prog 151 [(.d (.sl 3 (p0.map cGSource))), (.d (.sl 3 (p1.map cGSource))), (.fn 148 [])] [] fun x _ => x = (fun y => (vB y)) r) ∧ (∀ (p1 : (List GSource)) (p0 : (List GSource)) (x17 : Int) (r : Bool), gSlices_EqualFunc_Simpl_Source_Simpl_Source_impl_Source_impl_Source_iSameQuery_2_L0 p1 p0 x17 = some r → avc Try.prog acgSlices_EqualFunc_Simpl_Source_Simpl_Source_impl_Source_impl_Source_iSameQuery_2_L0 (qgSlices_EqualFunc_Simpl_Source_Simpl_Source_impl_Source_impl_Source_iSameQuery_2_1 r) (stgSlices_EqualFunc_Simpl_Source_Simpl_Source_impl_Source_impl_Source_iSameQuery_2_L0 p1 p0 x17)) ∧ (∀ (p0 : GSource) (p1 : GSource) (r : Bool), iSameQuery_2 p0 p1 = some r → ACalls Try.prog 148 [(vGSource p0), (vGSource p1)] [] fun x _ => x = (fun y => (vB y)) r) ∧ (∀ (p0 : (List GItem)) (p1 : (List GItem)) (r : Bool), gSlices_EqualFunc_Simpl_Item_Simpl_Item_impl_Item_impl_Item_iSameQuery_1 p0 p1 = some r → ACalls Try.prog 150 [(.d (.sl 13 (p0.map cGItem))), (.d (.sl 13 (p1.map cGItem))), (.fn 147 [])] [] fun x _ => x = (fun y => (vB y)) r) ∧ (∀ (p1 : (List GItem)) (p0 : (List GItem)) (x17 : Int) (r : Bool), gSlices_EqualFunc_Simpl_Item_Simpl_Item_impl_Item_impl_Item_iSameQuery_1_L0 p1 p0 x17 = some r → avc Try.prog acgSlices_EqualFunc_Simpl_Item_Simpl_Item_impl_Item_impl_Item_iSameQuery_1_L0 (qgSlices_EqualFunc_Simpl_Item_Simpl_Item_impl_Item_impl_Item_iSameQuery_1_1 r) (stgSlices_EqualFunc_Simpl_Item_Simpl_Item_impl_Item_impl_Item_iSameQuery_1_L0 p1 p0 x17)) ∧ (∀ (p0 : GItem) (p1 : GItem) (r : Bool), iSameQuery_1 p0 p1 = some r → ACalls Try.prog 147 [(vGItem p0), (vGItem p1)] [] fun x _ => x = (fun y => (vB y)) r) := by
 refine gSlices_EqualFunc_Simpl_Expr_Simpl_Expr_impl_Expr_impl_Expr_iSameExpr_L0.mutual_partial_correctness (fun p1 p0 x17 r => avc Try.prog acgSlices_EqualFunc_Simpl_Expr_Simpl_Expr_impl_Expr_impl_Expr_iSameExpr_L0 (qgSlices_EqualFunc_Simpl_Expr_Simpl_Expr_impl_Expr_impl_Expr_iSameExpr_1 r) (stgSlices_EqualFunc_Simpl_Expr_Simpl_Expr_impl_Expr_impl_Expr_iSameExpr_L0 p1 p0 x17)) (fun p0 p1 r => ACalls Try.prog 32 [(vGExpr p0), (vGExpr p1)] [] fun x _ => x = (fun y => (vB y)) r) (fun p0 p1 r => ACalls Try.prog 88 [(.d (.sl 6 (p0.map cGQuery))), (.d (.sl 6 (p1.map cGQuery))), (.fn 89 [])] [] fun x _ => x = (fun y => (vB y)) r) (fun p1 p0 x17 r => avc Try.prog acgSlices_EqualFunc_Simpl_Query_Simpl_Query_impl_Query_impl_Query_iSameQuery_L0 (qgSlices_EqualFunc_Simpl_Query_Simpl_Query_impl_Query_impl_Query_iSameQuery_1 r) (stgSlices_EqualFunc_Simpl_Query_Simpl_Query_impl_Query_impl_Query_iSameQuery_L0 p1 p0 x17)) (fun p0 p1 r => ACalls Try.prog 89 [(vGQuery p0), (vGQuery p1)] [] fun x _ => x = (fun y => (vB y)) r) (fun p0 p1 r => ACalls Try.prog 152 [(.d (.sl 11 (p0.map cGSortKey))), (.d (.sl 11 (p1.map cGSortKey))), (.fn 149 [])] [] fun x _ => x = (fun y => (vB y)) r) (fun p1 p0 x17 r => avc Try.prog acgSlices_EqualFunc_Simpl_SortKey_Simpl_SortKey_impl_SortKey_impl_SortKey_iSameQuery_3_L0 (qgSlices_EqualFunc_Simpl_SortKey_Simpl_SortKey_impl_SortKey_impl_SortKey_iSameQuery_3_1 r) (stgSlices_EqualFunc_Simpl_SortKey_Simpl_SortKey_impl_SortKey_impl_SortKey_iSameQuery_3_L0 p1 p0 x17)) (fun p0 p1 r => ACalls Try.prog 149 [(vGSortKey p0), (vGSortKey p1)] [] fun x _ => x = (fun y => (vB y)) r) (fun p0 p1 r => ACalls Try.prog 87 [(.d (.sl 10 (p0.map cGExpr))), (.d (.sl 10 (p1.map cGExpr)))] [] fun x _ => x = (fun y => (vB y)) r) (fun p0 p1 r => ACalls Try.prog 146 [(.d (.sl 10 (p0.map cGExpr))), (.d (.sl 10 (p1.map cGExpr))), (.fn 32 [])] [] fun x _ => x = (fun y => (vB y)) r) (fun p0 p1 r => ACalls Try.prog 151 [(.d (.sl 3 (p0.map cGSource))), (.d (.sl 3 (p1.map cGSource))), (.fn 148 [])] [] fun x _ => x = (fun y => (vB y)) r) (fun p1 p0 x17 r => avc Try.prog acgSlices_EqualFunc_Simpl_Source_Simpl_Source_impl_Source_impl_Source_iSameQuery_2_L0 (qgSlices_EqualFunc_Simpl_Source_Simpl_Source_impl_Source_impl_Source_iSameQuery_2_1 r) (stgSlices_EqualFunc_Simpl_Source_Simpl_Source_impl_Source_impl_Source_iSameQuery_2_L0 p1 p0 x17)) (fun p0 p1 r => ACalls Try.prog 148 [(vGSource p0), (vGSource p1)] [] fun x _ => x = (fun y => (vB y)) r) (fun p0 p1 r => ACalls Try.prog 150 [(.d (.sl 13 (p0.map cGItem))), (.d (.sl 13 (p1.map cGItem))), (.fn 147 [])] [] fun x _ => x = (fun y => (vB y)) r) (fun p1 p0 x17 r => avc Try.prog acgSlices_EqualFunc_Simpl_Item_Simpl_Item_impl_Item_impl_Item_iSameQuery_1_L0 (qgSlices_EqualFunc_Simpl_Item_Simpl_Item_impl_Item_impl_Item_iSameQuery_1_1 r) (stgSlices_EqualFunc_Simpl_Item_Simpl_Item_impl_Item_impl_Item_iSameQuery_1_L0 p1 p0 x17)) (fun p0 p1 r => ACalls Try.prog 147 [(vGItem p0), (vGItem p1)] [] fun x _ => x = (fun y => (vB y)) r) ?_ ?_ ?_ ?_ ?_ ?_ ?_ ?_ ?_ ?_ ?_ ?_ ?_ ?_ ?_ ?_
 · intro F_gSlices_EqualFunc_Simpl_Expr_Simpl_Expr_impl_Expr_impl_Expr_iSameExpr_L0 F_iSameExpr OK_gSlices_EqualFunc_Simpl_Expr_Simpl_Expr_impl_Expr_impl_Expr_iSameExpr_L0 OK_iSameExpr p1 p0 x17 r h
   delta acgSlices_EqualFunc_Simpl_Expr_Simpl_Expr_impl_Expr_impl_Expr_iSameExpr_L0
   refine loop_unroll (so ?_)
   let a7 : St := (stgSlices_EqualFunc_Simpl_Expr_Simpl_Expr_impl_Expr_impl_Expr_iSameExpr_L0 p1 p0 x17).p [(18, (vB (decide (x17 < (p0.length : Int)))))]
   refine st 1 a7 (nx (si ?_))
   refine cd h (fun h => ?_) fun h => ?_
   refine ki (xi (si (bi (so ?_))))
   let a8 : St := a7.p [(19, (vI x17))]
   refine st 1 a8 (vs (fun (y : GExpr) => (.rp (oGExpr y))) h (fun y hy => vop_ia (l := p0) (f := cGExpr) (g := oGExpr) (k := .i64) hy cGExpr_eq (by kernel_rfl) (by kernel_rfl) (by kernel_rfl)) fun y1 h => ?_)
   let a9 : St := ⟨(7, (vI x17)) :: (8, (.ptr 8 0)) :: (21, (vGExpr y1)) :: (20, (.rp (oGExpr y1))) :: a8.env, [(8, bGExpr y1)]⟩
   refine st 4 a9 (nx (so ?_))
   let a10 : St := a9.p [(23, (vI x17)), (22, (.d (.sl 10 (p1.map cGExpr))))]
   refine st 2 a10 (vs (fun (y : GExpr) => (.rp (oGExpr y))) h (fun y hy => vop_ia (l := p1) (f := cGExpr) (g := oGExpr) (k := .i64) hy cGExpr_eq (by kernel_rfl) (by kernel_rfl) (by kernel_rfl)) fun y2 h => ?_)
   let a11 : St := ⟨(9, (.ptr 9 0)) :: (25, (vGExpr y2)) :: (24, (.rp (oGExpr y2))) :: a10.env, [(9, bGExpr y2), (8, bGExpr y1)]⟩
   refine st 3 a11 (nx (so ?_))
   let a12 : St := a11.p [(28, (vGExpr y2)), (27, (vGExpr y1)), (26, (.fn 32 []))]
   refine st 3 a12 (callv_step (m := F_iSameExpr y1 y2) (caps := []) (args := [(vGExpr y1), (vGExpr y2)]) (v' := (fun y => (vB y))) h (by kernel_rfl) (by kernel_rfl) (OK_iSameExpr y1 y2) (by kernel_rfl) (by kernel_rfl) (fun _ => rfl) ?_)
   clear h; intro y3 h
   let a13 : St := a12.p [(30, (vB (!y3))), (29, (vB y3))]
   refine st 1 a13 (nx ?_)
   refine cd h (fun h => ?_) fun h => ?_
   refine so ?_
   let a14 : St := a13.p [(6, (vB false))]
   refine st 1 a14 (nx (ri (br (tr (tr (br (tr ?_)))))))
   injection h with h; subst h
   exact ret1_step (v := (vB false)) (by kernel_rfl) (by kernel_rfl) (by kernel_rfl)
   refine ki (bn (xi (oi ?_)))
   let a15 : St := a13.p [(17, (vI (IntKind.wrap .i64 (x17 + 1)))), (31, (vI (IntKind.wrap .i64 (x17 + 1))))]
   exact st 2 a15 (ni (loop_back (s' := stgSlices_EqualFunc_Simpl_Expr_Simpl_Expr_impl_Expr_impl_Expr_iSameExpr_L0 p1 p0 (IntKind.wrap .i64 (x17 + 1))) (wr [] (es (es (es (es (es er_nil))))) br_nil) (OK_gSlices_EqualFunc_Simpl_Expr_Simpl_Expr_impl_Expr_impl_Expr_iSameExpr_L0 p1 p0 (IntKind.wrap .i64 (x17 + 1)) _ h)))
   refine ei (te (te (bh (xi (so ?_)))))
   let a16 : St := a7.p [(6, (vB true))]
   refine st 1 a16 (nx (ri ?_))
   injection h with h; subst h
   exact ret1_step (v := (vB true)) (by kernel_rfl) (by kernel_rfl) (by kernel_rfl)
 · intro F_gSlices_EqualFunc_Simpl_Query_Simpl_Query_impl_Query_impl_Query_iSameQuery F_iSameExprs OK_gSlices_EqualFunc_Simpl_Query_Simpl_Query_impl_Query_impl_Query_iSameQuery OK_iSameExprs p0 p1 r h
   refine acalls_of_fn triSameExpr (Nat.le_of_ble_eq_true rfl) (by simp) ?_
   show avc Try.prog aciSameExpr (qiSameExpr _) ⟨[(0, (vGExpr p0)), (1, (vGExpr p1))], []⟩
   delta aciSameExpr
   refine so ?_
   let a0 : St := ⟨[(4, (vB false)), (3, (.ptr 3 0)), (2, (.ptr 2 0)), (0, (vGExpr p0)), (1, (vGExpr p1))], [(3, bGExpr p1), (2, bGExpr p0)]⟩
   refine st 3 a0 (nx (so ?_))
   let a1 : St := a0.p [(10, (vB (decide (p0.kind = p1.kind)))), (9, (vB (decide (p0.kind = p1.kind)))), (8, (vI p1.kind)), (7, (.ptr 3 0)), (6, (vI p0.kind)), (5, (.ptr 2 0))]
   refine st 6 a1 (gp true (decide (p0.kind = p1.kind)) (.ptr 2 1) (fun hc => vl) (gp true (decide (p0.kind = p1.kind)) (vI p0.op) (fun hc => vg hc) (gp true (decide (p0.kind = p1.kind)) (.ptr 3 1) (fun hc => vl) (gp true (decide (p0.kind = p1.kind)) (vI p1.op) (fun hc => vg hc) ?_))))
   refine gp true (decide (p0.kind = p1.kind)) (vB (decide (p0.op = p1.op))) (fun hc => vop_val1 (Eq.trans (b := ([(true && ((decide (p0.kind = p1.kind)) == true)), (true && ((decide (p0.kind = p1.kind)) == true))] : List Bool).all id) (by kernel_rfl) (all_c hc (all_c hc rfl))) (by kernel_rfl)) ?_
   refine vs (fun (y : Bool) => (vB y)) h (fun y hy => vop_pickV hy (p := (true && ((decide (p0.kind = p1.kind)) == true))) (q := true) (by kernel_rfl) (by kernel_rfl) (by kernel_rfl) (by kernel_rfl) (fun hb => gc_t rfl hb) (fun _ => rfl)) fun y1 h => ?_
   let a2 : St := a1.p [(17, (vB y1)), (16, (vB y1)), (15, (.ite (true && ((decide (p0.kind = p1.kind)) == true)) (vB (decide (p0.op = p1.op))))), (14, (.ite (true && ((decide (p0.kind = p1.kind)) == true)) (vI p1.op))), (13, (.ite (true && ((decide (p0.kind = p1.kind)) == true)) (.ptr 3 1))), (12, (.ite (true && ((decide (p0.kind = p1.kind)) == true)) (vI p0.op))), (11, (.ite (true && ((decide (p0.kind = p1.kind)) == true)) (.ptr 2 1)))]
   refine st 1 a2 (gp true y1 (.ptr 2 2) (fun hc => vl) (gp true y1 (vB p0.not_) (fun hc => vg hc) (gp true y1 (.ptr 3 2) (fun hc => vl) (gp true y1 (vB p1.not_) (fun hc => vg hc) (gp true y1 (vB (p0.not_ == p1.not_)) (fun hc => vop_val1 (Eq.trans (b := ([(true && (y1 == true)), (true && (y1 == true))] : List Bool).all id) (by kernel_rfl) (all_c hc (all_c hc rfl))) (by kernel_rfl)) ?_)))))
   refine vs (fun (y : Bool) => (vB y)) h (fun y hy => vop_pickV hy (p := (true && (y1 == true))) (q := true) (by kernel_rfl) (by kernel_rfl) (by kernel_rfl) (by kernel_rfl) (fun hb => gc_t rfl hb) (fun _ => rfl)) fun y2 h => ?_
   let a3 : St := a2.p [(24, (vB y2)), (23, (vB y2)), (22, (.ite (gT y1) (vB (p0.not_ == p1.not_)))), (21, (.ite (gT y1) (vB p1.not_))), (20, (.ite (gT y1) (.ptr 3 2))), (19, (.ite (gT y1) (vB p0.not_))), (18, (.ite (gT y1) (.ptr 2 2)))]
   refine st 1 a3 (gp true y2 (.ptr 2 3) (fun hc => vl) (gp true y2 (vGValue p0.value) (fun hc => vg hc) (gp true y2 (.ptr 3 3) (fun hc => vl) (gp true y2 (vGValue p1.value) (fun hc => vg hc) ?_))))
   refine gp true y2 (vB ((decide (p0.value.kind = p1.value.kind)) && ((decide (p0.value.num = p1.value.num)) && ((decide (p0.value.text = p1.value.text)) && true)))) (fun hc => vop_val1 (Eq.trans (b := ([(true && (y2 == true)), (true && (y2 == true))] : List Bool).all id) (by kernel_rfl) (all_c hc (all_c hc rfl))) (by kernel_rfl)) ?_
   refine vs (fun (y : Bool) => (vB y)) h (fun y hy => vop_pickV hy (p := (true && (y2 == true))) (q := true) (by kernel_rfl) (by kernel_rfl) (by kernel_rfl) (by kernel_rfl) (fun hb => gc_t rfl hb) (fun _ => rfl)) fun y3 h => ?_
   let a4 : St := a3.p [(31, (vB y3)), (30, (vB y3)), (29, (.ite (gT y2) (vB ((decide (p0.value.kind = p1.value.kind)) && ((decide (p0.value.num = p1.value.num)) && ((decide (p0.value.text = p1.value.text)) && true)))))), (28, (.ite (gT y2) (vGValue p1.value))), (27, (.ite (gT y2) (.ptr 3 3))), (26, (.ite (gT y2) (vGValue p0.value))), (25, (.ite (gT y2) (.ptr 2 3)))]
   refine st 1 a4 (gp true y3 (.ptr 2 6) (fun hc => vl) (gp true y3 (vS p0.qual) (fun hc => vg hc) (gp true y3 (.ptr 3 6) (fun hc => vl) (gp true y3 (vS p1.qual) (fun hc => vg hc) (gp true y3 (vB (decide (p0.qual = p1.qual))) (fun hc => vop_val1 (Eq.trans (b := ([(true && (y3 == true)), (true && (y3 == true))] : List Bool).all id) (by kernel_rfl) (all_c hc (all_c hc rfl))) (by kernel_rfl)) ?_)))))
   refine vs (fun (y : Bool) => (vB y)) h (fun y hy => vop_pickV hy (p := (true && (y3 == true))) (q := true) (by kernel_rfl) (by kernel_rfl) (by kernel_rfl) (by kernel_rfl) (fun hb => gc_t rfl hb) (fun _ => rfl)) fun y4 h => ?_
   let a5 : St := a4.p [(38, (vB y4)), (37, (vB y4)), (36, (.ite (gT y3) (vB (decide (p0.qual = p1.qual))))), (35, (.ite (gT y3) (vS p1.qual))), (34, (.ite (gT y3) (.ptr 3 6))), (33, (.ite (gT y3) (vS p0.qual))), (32, (.ite (gT y3) (.ptr 2 6)))]
   refine st 1 a5 (gp true y4 (.ptr 2 7) (fun hc => vl) (gp true y4 (vS p0.name) (fun hc => vg hc) (gp true y4 (.ptr 3 7) (fun hc => vl) (gp true y4 (vS p1.name) (fun hc => vg hc) (gp true y4 (vB (decide (p0.name = p1.name))) (fun hc => vop_val1 (Eq.trans (b := ([(true && (y4 == true)), (true && (y4 == true))] : List Bool).all id) (by kernel_rfl) (all_c hc (all_c hc rfl))) (by kernel_rfl)) ?_)))))
   refine vs (fun (y : Bool) => (vB y)) h (fun y hy => vop_pickV hy (p := (true && (y4 == true))) (q := true) (by kernel_rfl) (by kernel_rfl) (by kernel_rfl) (by kernel_rfl) (fun hb => gc_t rfl hb) (fun _ => rfl)) fun y5 h => ?_
   let a6 : St := a5.p [(45, (vB y5)), (44, (vB y5)), (43, (.ite (gT y4) (vB (decide (p0.name = p1.name))))), (42, (.ite (gT y4) (vS p1.name))), (41, (.ite (gT y4) (.ptr 3 7))), (40, (.ite (gT y4) (vS p0.name))), (39, (.ite (gT y4) (.ptr 2 7)))]
   refine st 1 a6 (gp true y5 (.ptr 2 8) (fun hc => vl) (gp true y5 (.d (.sl 10 (p0.kids.map cGExpr))) (fun hc => vg hc) (gp true y5 (.ptr 3 8) (fun hc => vl) (gp true y5 (.d (.sl 10 (p1.kids.map cGExpr))) (fun hc => vg hc) ?_))))
   refine gcall_step (p := true) (b := y5) (m := F_iSameExprs p0.kids p1.kids) (dflt := default) (args := [(.d (.sl 10 (p0.kids.map cGExpr))), (.d (.sl 10 (p1.kids.map cGExpr)))]) (v' := (fun y => (vB y))) h (by kernel_rfl) (OK_iSameExprs p0.kids p1.kids) (fun hc => by kernel_rfl) (by kernel_rfl) (fun _ => rfl) (fun hc => (Eq.trans (b := ([(true && (y5 == true)), (true && (y5 == true))] : List Bool).all id) (by kernel_rfl) (all_c hc (all_c hc rfl)))) ?_
   clear h; intro y6 h
   refine vs (fun (y : Bool) => (vB y)) h (fun y hy => vop_pickV hy (p := (true && (y5 == true))) (q := true) (by kernel_rfl) (by kernel_rfl) (by kernel_rfl) (by kernel_rfl) (fun hb => gc_t rfl hb) (fun _ => rfl)) fun y7 h => ?_
   let a7 : St := a6.p [(52, (vB y7)), (51, (vB y7)), (50, (.ite (gT y5) (vB y6))), (49, (.ite (gT y5) (.d (.sl 10 (p1.kids.map cGExpr))))), (48, (.ite (gT y5) (.ptr 3 8))), (47, (.ite (gT y5) (.d (.sl 10 (p0.kids.map cGExpr))))), (46, (.ite (gT y5) (.ptr 2 8)))]
   refine st 1 a7 (gp true y7 (.ptr 2 9) (fun hc => vl) (gp true y7 (.d (.sl 6 (p0.sub.map cGQuery))) (fun hc => vg hc) (gp true y7 (.ptr 3 9) (fun hc => vl) (gp true y7 (.d (.sl 6 (p1.sub.map cGQuery))) (fun hc => vg hc) ?_))))
   refine gcall_step (p := true) (b := y7) (m := F_gSlices_EqualFunc_Simpl_Query_Simpl_Query_impl_Query_impl_Query_iSameQuery p0.sub p1.sub) (dflt := default) (args := [(.d (.sl 6 (p0.sub.map cGQuery))), (.d (.sl 6 (p1.sub.map cGQuery))), (.fn 89 [])]) (v' := (fun y => (vB y))) h (by kernel_rfl) (OK_gSlices_EqualFunc_Simpl_Query_Simpl_Query_impl_Query_impl_Query_iSameQuery p0.sub p1.sub) (fun hc => by kernel_rfl) (by kernel_rfl) (fun _ => rfl) (fun hc => (Eq.trans (b := ([(true && (y7 == true)), (true && (y7 == true))] : List Bool).all id) (by kernel_rfl) (all_c hc (all_c hc rfl)))) ?_
   clear h; intro y8 h
   refine vs (fun (y : Bool) => (vB y)) h (fun y hy => vop_pickV hy (p := (true && (y7 == true))) (q := true) (by kernel_rfl) (by kernel_rfl) (by kernel_rfl) (by kernel_rfl) (fun hb => gc_t rfl hb) (fun _ => rfl)) fun y9 h => ?_
   let a8 : St := a7.p [(4, (vB y9)), (58, (vB y9)), (57, (.ite (gT y7) (vB y8))), (56, (.ite (gT y7) (.d (.sl 6 (p1.sub.map cGQuery))))), (55, (.ite (gT y7) (.ptr 3 9))), (54, (.ite (gT y7) (.d (.sl 6 (p0.sub.map cGQuery))))), (53, (.ite (gT y7) (.ptr 2 9)))]
   refine st 1 a8 (nx (ri ?_))
   injection h with h; subst h
   exact ret1_step (v := (vB y9)) (by kernel_rfl) (by kernel_rfl) (by kernel_rfl)
 · intro F_gSlices_EqualFunc_Simpl_Query_Simpl_Query_impl_Query_impl_Query_iSameQuery_L0 OK_gSlices_EqualFunc_Simpl_Query_Simpl_Query_impl_Query_impl_Query_iSameQuery_L0 p0 p1 r h
   refine acalls_of_fn trgSlices_EqualFunc_Simpl_Query_Simpl_Query_impl_Query_impl_Query_iSameQuery (Nat.le_of_ble_eq_true rfl) (by simp) ?_
   show avc Try.prog acgSlices_EqualFunc_Simpl_Query_Simpl_Query_impl_Query_impl_Query_iSameQuery (qgSlices_EqualFunc_Simpl_Query_Simpl_Query_impl_Query_impl_Query_iSameQuery _) ⟨[(0, (.d (.sl 6 (p0.map cGQuery)))), (1, (.d (.sl 6 (p1.map cGQuery)))), (2, (.fn 89 []))], []⟩
   delta acgSlices_EqualFunc_Simpl_Query_Simpl_Query_impl_Query_impl_Query_iSameQuery
   refine so ?_
   let a0 : St := ⟨[(6, (vB false)), (0, (.d (.sl 6 (p0.map cGQuery)))), (1, (.d (.sl 6 (p1.map cGQuery)))), (2, (.fn 89 []))], []⟩
   refine st 1 a0 (nx (si (so ?_)))
   let a1 : St := a0.p [(10, (.d (.sl 6 (p0.map cGQuery))))]
   refine st 1 a1 (ps (vI (p0.length : Int)) (vop_len (sz := 6) (l := p0) (f := cGQuery) (by kernel_rfl) (by kernel_rfl)) ?_)
   let a2 : St := a1.p [(12, (.d (.sl 6 (p1.map cGQuery)))), (11, (vI (p0.length : Int)))]
   refine st 1 a2 (ps (vI (p1.length : Int)) (vop_len (sz := 6) (l := p1) (f := cGQuery) (by kernel_rfl) (by kernel_rfl)) ?_)
   let a3 : St := a2.p [(14, (vB (!decide ((p0.length : Int) = (p1.length : Int))))), (13, (vI (p1.length : Int)))]
   refine st 1 a3 (nx ?_)
   refine cd h (fun h => ?_) fun h => ?_
   refine so ?_
   let a4 : St := a3.p [(6, (vB false))]
   refine st 1 a4 (nx (ri (tr ?_)))
   injection h with h; subst h
   exact ret1_step (v := (vB false)) (by kernel_rfl) (by kernel_rfl) (by kernel_rfl)
   refine ki (xi (si (so ?_)))
   let a5 : St := a3.p [(15, (.d (.sl 6 (p0.map cGQuery))))]
   refine st 1 a5 (ps (vI (p0.length : Int)) (vop_len (sz := 6) (l := p0) (f := cGQuery) (by kernel_rfl) (by kernel_rfl)) ?_)
   let a6 : St := a5.p [(17, (vI 0)), (16, (vI (p0.length : Int)))]
   exact st 1 a6 (nx (bi (loop_go (s' := stgSlices_EqualFunc_Simpl_Query_Simpl_Query_impl_Query_impl_Query_iSameQuery_L0 p1 p0 0) (wr [] (es (es (es (es (es er_nil))))) br_nil) (OK_gSlices_EqualFunc_Simpl_Query_Simpl_Query_impl_Query_impl_Query_iSameQuery_L0 p1 p0 0 _ h))))
 · intro F_gSlices_EqualFunc_Simpl_Query_Simpl_Query_impl_Query_impl_Query_iSameQuery_L0 F_iSameQuery OK_gSlices_EqualFunc_Simpl_Query_Simpl_Query_impl_Query_impl_Query_iSameQuery_L0 OK_iSameQuery p1 p0 x17 r h
   delta acgSlices_EqualFunc_Simpl_Query_Simpl_Query_impl_Query_impl_Query_iSameQuery_L0
   refine loop_unroll (so ?_)
   let a7 : St := (stgSlices_EqualFunc_Simpl_Query_Simpl_Query_impl_Query_impl_Query_iSameQuery_L0 p1 p0 x17).p [(18, (vB (decide (x17 < (p0.length : Int)))))]
   refine st 1 a7 (nx (si ?_))
   refine cd h (fun h => ?_) fun h => ?_
   refine ki (xi (si (bi (so ?_))))
   let a8 : St := a7.p [(19, (vI x17))]
   refine st 1 a8 (vs (fun (y : GQuery) => (.rp (oGQuery y))) h (fun y hy => vop_ia (l := p0) (f := cGQuery) (g := oGQuery) (k := .i64) hy cGQuery_eq (by kernel_rfl) (by kernel_rfl) (by kernel_rfl)) fun y1 h => ?_)
   let a9 : St := ⟨(7, (vI x17)) :: (8, (.ptr 8 0)) :: (21, (vGQuery y1)) :: (20, (.rp (oGQuery y1))) :: a8.env, [(8, bGQuery y1)]⟩
   refine st 4 a9 (nx (so ?_))
   let a10 : St := a9.p [(23, (vI x17)), (22, (.d (.sl 6 (p1.map cGQuery))))]
   refine st 2 a10 (vs (fun (y : GQuery) => (.rp (oGQuery y))) h (fun y hy => vop_ia (l := p1) (f := cGQuery) (g := oGQuery) (k := .i64) hy cGQuery_eq (by kernel_rfl) (by kernel_rfl) (by kernel_rfl)) fun y2 h => ?_)
   let a11 : St := ⟨(9, (.ptr 9 0)) :: (25, (vGQuery y2)) :: (24, (.rp (oGQuery y2))) :: a10.env, [(9, bGQuery y2), (8, bGQuery y1)]⟩
   refine st 3 a11 (nx (so ?_))
   let a12 : St := a11.p [(28, (vGQuery y2)), (27, (vGQuery y1)), (26, (.fn 89 []))]
   refine st 3 a12 (callv_step (m := F_iSameQuery y1 y2) (caps := []) (args := [(vGQuery y1), (vGQuery y2)]) (v' := (fun y => (vB y))) h (by kernel_rfl) (by kernel_rfl) (OK_iSameQuery y1 y2) (by kernel_rfl) (by kernel_rfl) (fun _ => rfl) ?_)
   clear h; intro y3 h
   let a13 : St := a12.p [(30, (vB (!y3))), (29, (vB y3))]
   refine st 1 a13 (nx ?_)
   refine cd h (fun h => ?_) fun h => ?_
   refine so ?_
   let a14 : St := a13.p [(6, (vB false))]
   refine st 1 a14 (nx (ri (br (tr (tr (br (tr ?_)))))))
   injection h with h; subst h
   exact ret1_step (v := (vB false)) (by kernel_rfl) (by kernel_rfl) (by kernel_rfl)
   refine ki (bn (xi (oi ?_)))
   let a15 : St := a13.p [(17, (vI (IntKind.wrap .i64 (x17 + 1)))), (31, (vI (IntKind.wrap .i64 (x17 + 1))))]
   exact st 2 a15 (ni (loop_back (s' := stgSlices_EqualFunc_Simpl_Query_Simpl_Query_impl_Query_impl_Query_iSameQuery_L0 p1 p0 (IntKind.wrap .i64 (x17 + 1))) (wr [] (es (es (es (es (es er_nil))))) br_nil) (OK_gSlices_EqualFunc_Simpl_Query_Simpl_Query_impl_Query_impl_Query_iSameQuery_L0 p1 p0 (IntKind.wrap .i64 (x17 + 1)) _ h)))
   refine ei (te (te (bh (xi (so ?_)))))
   let a16 : St := a7.p [(6, (vB true))]
   refine st 1 a16 (nx (ri ?_))
   injection h with h; subst h
   exact ret1_step (v := (vB true)) (by kernel_rfl) (by kernel_rfl) (by kernel_rfl)
 · intro F_gSlices_EqualFunc_Simpl_SortKey_Simpl_SortKey_impl_SortKey_impl_SortKey_iSameQuery_3 F_iSameExprs F_gSlices_EqualFunc_Simpl_Source_Simpl_Source_impl_Source_impl_Source_iSameQuery_2 F_gSlices_EqualFunc_Simpl_Item_Simpl_Item_impl_Item_impl_Item_iSameQuery_1 OK_gSlices_EqualFunc_Simpl_SortKey_Simpl_SortKey_impl_SortKey_impl_SortKey_iSameQuery_3 OK_iSameExprs OK_gSlices_EqualFunc_Simpl_Source_Simpl_Source_impl_Source_impl_Source_iSameQuery_2 OK_gSlices_EqualFunc_Simpl_Item_Simpl_Item_impl_Item_impl_Item_iSameQuery_1 p0 p1 r h
   refine acalls_of_fn triSameQuery (Nat.le_of_ble_eq_true rfl) (by simp) ?_
   show avc Try.prog aciSameQuery (qiSameQuery _) ⟨[(0, (vGQuery p0)), (1, (vGQuery p1))], []⟩
   delta aciSameQuery
   refine so ?_
   let a0 : St := ⟨[(4, (vB false)), (3, (.ptr 3 0)), (2, (.ptr 2 0)), (0, (vGQuery p0)), (1, (vGQuery p1))], [(3, bGQuery p1), (2, bGQuery p0)]⟩
   refine st 3 a0 (nx (so ?_))
   let a1 : St := a0.p [(5, (.fn 147 []))]
   refine st 1 a1 (nx (so ?_))
   let a2 : St := a1.p [(6, (.fn 148 []))]
   refine st 1 a2 (nx (so ?_))
   let a3 : St := a2.p [(7, (.fn 149 []))]
   refine st 1 a3 (nx (so ?_))
   let a4 : St := a3.p [(13, (vB (p0.distinct == p1.distinct))), (12, (vB (p0.distinct == p1.distinct))), (11, (vB p1.distinct)), (10, (.ptr 3 0)), (9, (vB p0.distinct)), (8, (.ptr 2 0))]
   refine st 6 a4 (gp true (p0.distinct == p1.distinct) (.ptr 2 5) (fun hc => vl) (gp true (p0.distinct == p1.distinct) (vI p0.limit) (fun hc => vg hc) (gp true (p0.distinct == p1.distinct) (.ptr 3 5) (fun hc => vl) (gp true (p0.distinct == p1.distinct) (vI p1.limit) (fun hc => vg hc) ?_))))
   refine gp true (p0.distinct == p1.distinct) (vB (decide (p0.limit = p1.limit))) (fun hc => vop_val1 (Eq.trans (b := ([(true && ((p0.distinct == p1.distinct) == true)), (true && ((p0.distinct == p1.distinct) == true))] : List Bool).all id) (by kernel_rfl) (all_c hc (all_c hc rfl))) (by kernel_rfl)) ?_
   refine vs (fun (y : Bool) => (vB y)) h (fun y hy => vop_pickV hy (p := (true && ((p0.distinct == p1.distinct) == true))) (q := true) (by kernel_rfl) (by kernel_rfl) (by kernel_rfl) (by kernel_rfl) (fun hb => gc_t rfl hb) (fun _ => rfl)) fun y1 h => ?_
   let a5 : St := a4.p [(20, (vB y1)), (19, (vB y1)), (18, (.ite (true && ((p0.distinct == p1.distinct) == true)) (vB (decide (p0.limit = p1.limit))))), (17, (.ite (true && ((p0.distinct == p1.distinct) == true)) (vI p1.limit))), (16, (.ite (true && ((p0.distinct == p1.distinct) == true)) (.ptr 3 5))), (15, (.ite (true && ((p0.distinct == p1.distinct) == true)) (vI p0.limit))), (14, (.ite (true && ((p0.distinct == p1.distinct) == true)) (.ptr 2 5)))]
   refine st 1 a5 (gp true y1 (.ptr 2 1) (fun hc => vl) (gp true y1 (.d (.sl 13 (p0.items.map cGItem))) (fun hc => vg hc) (gp true y1 (.ptr 3 1) (fun hc => vl) (gp true y1 (.d (.sl 13 (p1.items.map cGItem))) (fun hc => vg hc) (gp true y1 (.fn 147 []) (fun hc => vl) ?_)))))
   refine gcall_step (p := true) (b := y1) (m := F_gSlices_EqualFunc_Simpl_Item_Simpl_Item_impl_Item_impl_Item_iSameQuery_1 p0.items p1.items) (dflt := default) (args := [(.d (.sl 13 (p0.items.map cGItem))), (.d (.sl 13 (p1.items.map cGItem))), (.fn 147 [])]) (v' := (fun y => (vB y))) h (by kernel_rfl) (OK_gSlices_EqualFunc_Simpl_Item_Simpl_Item_impl_Item_impl_Item_iSameQuery_1 p0.items p1.items) (fun hc => by kernel_rfl) (by kernel_rfl) (fun _ => rfl) (fun hc => (Eq.trans (b := ([(true && (y1 == true)), (true && (y1 == true)), (true && (y1 == true))] : List Bool).all id) (by kernel_rfl) (all_c hc (all_c hc (all_c hc rfl))))) ?_
   clear h; intro y2 h
   refine vs (fun (y : Bool) => (vB y)) h (fun y hy => vop_pickV hy (p := (true && (y1 == true))) (q := true) (by kernel_rfl) (by kernel_rfl) (by kernel_rfl) (by kernel_rfl) (fun hb => gc_t rfl hb) (fun _ => rfl)) fun y3 h => ?_
   let a6 : St := a5.p [(28, (vB y3)), (27, (vB y3)), (26, (.ite (gT y1) (vB y2))), (25, (.ite (gT y1) (.fn 147 []))), (24, (.ite (gT y1) (.d (.sl 13 (p1.items.map cGItem))))), (23, (.ite (gT y1) (.ptr 3 1))), (22, (.ite (gT y1) (.d (.sl 13 (p0.items.map cGItem))))), (21, (.ite (gT y1) (.ptr 2 1)))]
   refine st 1 a6 (gp true y3 (.ptr 2 2) (fun hc => vl) (gp true y3 (.d (.sl 3 (p0.from_.map cGSource))) (fun hc => vg hc) (gp true y3 (.ptr 3 2) (fun hc => vl) (gp true y3 (.d (.sl 3 (p1.from_.map cGSource))) (fun hc => vg hc) (gp true y3 (.fn 148 []) (fun hc => vl) ?_)))))
   refine gcall_step (p := true) (b := y3) (m := F_gSlices_EqualFunc_Simpl_Source_Simpl_Source_impl_Source_impl_Source_iSameQuery_2 p0.from_ p1.from_) (dflt := default) (args := [(.d (.sl 3 (p0.from_.map cGSource))), (.d (.sl 3 (p1.from_.map cGSource))), (.fn 148 [])]) (v' := (fun y => (vB y))) h (by kernel_rfl) (OK_gSlices_EqualFunc_Simpl_Source_Simpl_Source_impl_Source_impl_Source_iSameQuery_2 p0.from_ p1.from_) (fun hc => by kernel_rfl) (by kernel_rfl) (fun _ => rfl) (fun hc => (Eq.trans (b := ([(true && (y3 == true)), (true && (y3 == true)), (true && (y3 == true))] : List Bool).all id) (by kernel_rfl) (all_c hc (all_c hc (all_c hc rfl))))) ?_
   clear h; intro y4 h
   refine vs (fun (y : Bool) => (vB y)) h (fun y hy => vop_pickV hy (p := (true && (y3 == true))) (q := true) (by kernel_rfl) (by kernel_rfl) (by kernel_rfl) (by kernel_rfl) (fun hb => gc_t rfl hb) (fun _ => rfl)) fun y5 h => ?_
   let a7 : St := a6.p [(36, (vB y5)), (35, (vB y5)), (34, (.ite (gT y3) (vB y4))), (33, (.ite (gT y3) (.fn 148 []))), (32, (.ite (gT y3) (.d (.sl 3 (p1.from_.map cGSource))))), (31, (.ite (gT y3) (.ptr 3 2))), (30, (.ite (gT y3) (.d (.sl 3 (p0.from_.map cGSource))))), (29, (.ite (gT y3) (.ptr 2 2)))]
   refine st 1 a7 (gp true y5 (.ptr 2 3) (fun hc => vl) (gp true y5 (.d (.sl 10 (p0.where_.map cGExpr))) (fun hc => vg hc) (gp true y5 (.ptr 3 3) (fun hc => vl) (gp true y5 (.d (.sl 10 (p1.where_.map cGExpr))) (fun hc => vg hc) ?_))))
   refine gcall_step (p := true) (b := y5) (m := F_iSameExprs p0.where_ p1.where_) (dflt := default) (args := [(.d (.sl 10 (p0.where_.map cGExpr))), (.d (.sl 10 (p1.where_.map cGExpr)))]) (v' := (fun y => (vB y))) h (by kernel_rfl) (OK_iSameExprs p0.where_ p1.where_) (fun hc => by kernel_rfl) (by kernel_rfl) (fun _ => rfl) (fun hc => (Eq.trans (b := ([(true && (y5 == true)), (true && (y5 == true))] : List Bool).all id) (by kernel_rfl) (all_c hc (all_c hc rfl)))) ?_
   clear h; intro y6 h
   refine vs (fun (y : Bool) => (vB y)) h (fun y hy => vop_pickV hy (p := (true && (y5 == true))) (q := true) (by kernel_rfl) (by kernel_rfl) (by kernel_rfl) (by kernel_rfl) (fun hb => gc_t rfl hb) (fun _ => rfl)) fun y7 h => ?_
   let a8 : St := a7.p [(43, (vB y7)), (42, (vB y7)), (41, (.ite (gT y5) (vB y6))), (40, (.ite (gT y5) (.d (.sl 10 (p1.where_.map cGExpr))))), (39, (.ite (gT y5) (.ptr 3 3))), (38, (.ite (gT y5) (.d (.sl 10 (p0.where_.map cGExpr))))), (37, (.ite (gT y5) (.ptr 2 3)))]
   refine st 1 a8 (gp true y7 (.ptr 2 4) (fun hc => vl) (gp true y7 (.d (.sl 11 (p0.order.map cGSortKey))) (fun hc => vg hc) (gp true y7 (.ptr 3 4) (fun hc => vl) (gp true y7 (.d (.sl 11 (p1.order.map cGSortKey))) (fun hc => vg hc) (gp true y7 (.fn 149 []) (fun hc => vl) ?_)))))
   refine gcall_step (p := true) (b := y7) (m := F_gSlices_EqualFunc_Simpl_SortKey_Simpl_SortKey_impl_SortKey_impl_SortKey_iSameQuery_3 p0.order p1.order) (dflt := default) (args := [(.d (.sl 11 (p0.order.map cGSortKey))), (.d (.sl 11 (p1.order.map cGSortKey))), (.fn 149 [])]) (v' := (fun y => (vB y))) h (by kernel_rfl) (OK_gSlices_EqualFunc_Simpl_SortKey_Simpl_SortKey_impl_SortKey_impl_SortKey_iSameQuery_3 p0.order p1.order) (fun hc => by kernel_rfl) (by kernel_rfl) (fun _ => rfl) (fun hc => (Eq.trans (b := ([(true && (y7 == true)), (true && (y7 == true)), (true && (y7 == true))] : List Bool).all id) (by kernel_rfl) (all_c hc (all_c hc (all_c hc rfl))))) ?_
   clear h; intro y8 h
   refine vs (fun (y : Bool) => (vB y)) h (fun y hy => vop_pickV hy (p := (true && (y7 == true))) (q := true) (by kernel_rfl) (by kernel_rfl) (by kernel_rfl) (by kernel_rfl) (fun hb => gc_t rfl hb) (fun _ => rfl)) fun y9 h => ?_
   let a9 : St := a8.p [(4, (vB y9)), (50, (vB y9)), (49, (.ite (gT y7) (vB y8))), (48, (.ite (gT y7) (.fn 149 []))), (47, (.ite (gT y7) (.d (.sl 11 (p1.order.map cGSortKey))))), (46, (.ite (gT y7) (.ptr 3 4))), (45, (.ite (gT y7) (.d (.sl 11 (p0.order.map cGSortKey))))), (44, (.ite (gT y7) (.ptr 2 4)))]
   refine st 1 a9 (nx (ri ?_))
   injection h with h; subst h
   exact ret1_step (v := (vB y9)) (by kernel_rfl) (by kernel_rfl) (by kernel_rfl)
 · intro F_gSlices_EqualFunc_Simpl_SortKey_Simpl_SortKey_impl_SortKey_impl_SortKey_iSameQuery_3_L0 OK_gSlices_EqualFunc_Simpl_SortKey_Simpl_SortKey_impl_SortKey_impl_SortKey_iSameQuery_3_L0 p0 p1 r h
   refine acalls_of_fn trgSlices_EqualFunc_Simpl_SortKey_Simpl_SortKey_impl_SortKey_impl_SortKey_iSameQuery_3 (Nat.le_of_ble_eq_true rfl) (by simp) ?_
   show avc Try.prog acgSlices_EqualFunc_Simpl_SortKey_Simpl_SortKey_impl_SortKey_impl_SortKey_iSameQuery_3 (qgSlices_EqualFunc_Simpl_SortKey_Simpl_SortKey_impl_SortKey_impl_SortKey_iSameQuery_3 _) ⟨[(0, (.d (.sl 11 (p0.map cGSortKey)))), (1, (.d (.sl 11 (p1.map cGSortKey)))), (2, (.fn 149 []))], []⟩
   delta acgSlices_EqualFunc_Simpl_SortKey_Simpl_SortKey_impl_SortKey_impl_SortKey_iSameQuery_3
   refine so ?_
   let a0 : St := ⟨[(6, (vB false)), (0, (.d (.sl 11 (p0.map cGSortKey)))), (1, (.d (.sl 11 (p1.map cGSortKey)))), (2, (.fn 149 []))], []⟩
   refine st 1 a0 (nx (si (so ?_)))
   let a1 : St := a0.p [(10, (.d (.sl 11 (p0.map cGSortKey))))]
   refine st 1 a1 (ps (vI (p0.length : Int)) (vop_len (sz := 11) (l := p0) (f := cGSortKey) (by kernel_rfl) (by kernel_rfl)) ?_)
   let a2 : St := a1.p [(12, (.d (.sl 11 (p1.map cGSortKey)))), (11, (vI (p0.length : Int)))]
   refine st 1 a2 (ps (vI (p1.length : Int)) (vop_len (sz := 11) (l := p1) (f := cGSortKey) (by kernel_rfl) (by kernel_rfl)) ?_)
   let a3 : St := a2.p [(14, (vB (!decide ((p0.length : Int) = (p1.length : Int))))), (13, (vI (p1.length : Int)))]
   refine st 1 a3 (nx ?_)
   refine cd h (fun h => ?_) fun h => ?_
   refine so ?_
   let a4 : St := a3.p [(6, (vB false))]
   refine st 1 a4 (nx (ri (tr ?_)))
   injection h with h; subst h
   exact ret1_step (v := (vB false)) (by kernel_rfl) (by kernel_rfl) (by kernel_rfl)
   refine ki (xi (si (so ?_)))
   let a5 : St := a3.p [(15, (.d (.sl 11 (p0.map cGSortKey))))]
   refine st 1 a5 (ps (vI (p0.length : Int)) (vop_len (sz := 11) (l := p0) (f := cGSortKey) (by kernel_rfl) (by kernel_rfl)) ?_)
   let a6 : St := a5.p [(17, (vI 0)), (16, (vI (p0.length : Int)))]
   exact st 1 a6 (nx (bi (loop_go (s' := stgSlices_EqualFunc_Simpl_SortKey_Simpl_SortKey_impl_SortKey_impl_SortKey_iSameQuery_3_L0 p1 p0 0) (wr [] (es (es (es (es (es er_nil))))) br_nil) (OK_gSlices_EqualFunc_Simpl_SortKey_Simpl_SortKey_impl_SortKey_impl_SortKey_iSameQuery_3_L0 p1 p0 0 _ h))))
 · intro F_gSlices_EqualFunc_Simpl_SortKey_Simpl_SortKey_impl_SortKey_impl_SortKey_iSameQuery_3_L0 F_iSameQuery_3 OK_gSlices_EqualFunc_Simpl_SortKey_Simpl_SortKey_impl_SortKey_impl_SortKey_iSameQuery_3_L0 OK_iSameQuery_3 p1 p0 x17 r h
   delta acgSlices_EqualFunc_Simpl_SortKey_Simpl_SortKey_impl_SortKey_impl_SortKey_iSameQuery_3_L0
   refine loop_unroll (so ?_)
   let a7 : St := (stgSlices_EqualFunc_Simpl_SortKey_Simpl_SortKey_impl_SortKey_impl_SortKey_iSameQuery_3_L0 p1 p0 x17).p [(18, (vB (decide (x17 < (p0.length : Int)))))]
   refine st 1 a7 (nx (si ?_))
   refine cd h (fun h => ?_) fun h => ?_
   refine ki (xi (si (bi (so ?_))))
   let a8 : St := a7.p [(19, (vI x17))]
   refine st 1 a8 (vs (fun (y : GSortKey) => (.rp (oGSortKey y))) h (fun y hy => vop_ia (l := p0) (f := cGSortKey) (g := oGSortKey) (k := .i64) hy cGSortKey_eq (by kernel_rfl) (by kernel_rfl) (by kernel_rfl)) fun y1 h => ?_)
   let a9 : St := ⟨(7, (vI x17)) :: (8, (.ptr 8 0)) :: (21, (vGSortKey y1)) :: (20, (.rp (oGSortKey y1))) :: a8.env, [(8, bGSortKey y1)]⟩
   refine st 4 a9 (nx (so ?_))
   let a10 : St := a9.p [(23, (vI x17)), (22, (.d (.sl 11 (p1.map cGSortKey))))]
   refine st 2 a10 (vs (fun (y : GSortKey) => (.rp (oGSortKey y))) h (fun y hy => vop_ia (l := p1) (f := cGSortKey) (g := oGSortKey) (k := .i64) hy cGSortKey_eq (by kernel_rfl) (by kernel_rfl) (by kernel_rfl)) fun y2 h => ?_)
   let a11 : St := ⟨(9, (.ptr 9 0)) :: (25, (vGSortKey y2)) :: (24, (.rp (oGSortKey y2))) :: a10.env, [(9, bGSortKey y2), (8, bGSortKey y1)]⟩
   refine st 3 a11 (nx (so ?_))
   let a12 : St := a11.p [(28, (vGSortKey y2)), (27, (vGSortKey y1)), (26, (.fn 149 []))]
   refine st 3 a12 (callv_step (m := F_iSameQuery_3 y1 y2) (caps := []) (args := [(vGSortKey y1), (vGSortKey y2)]) (v' := (fun y => (vB y))) h (by kernel_rfl) (by kernel_rfl) (OK_iSameQuery_3 y1 y2) (by kernel_rfl) (by kernel_rfl) (fun _ => rfl) ?_)
   clear h; intro y3 h
   let a13 : St := a12.p [(30, (vB (!y3))), (29, (vB y3))]
   refine st 1 a13 (nx ?_)
   refine cd h (fun h => ?_) fun h => ?_
   refine so ?_
   let a14 : St := a13.p [(6, (vB false))]
   refine st 1 a14 (nx (ri (br (tr (tr (br (tr ?_)))))))
   injection h with h; subst h
   exact ret1_step (v := (vB false)) (by kernel_rfl) (by kernel_rfl) (by kernel_rfl)
   refine ki (bn (xi (oi ?_)))
   let a15 : St := a13.p [(17, (vI (IntKind.wrap .i64 (x17 + 1)))), (31, (vI (IntKind.wrap .i64 (x17 + 1))))]
   refine st 2 a15 (ni ?_)
   exact loop_back (s' := stgSlices_EqualFunc_Simpl_SortKey_Simpl_SortKey_impl_SortKey_impl_SortKey_iSameQuery_3_L0 p1 p0 (IntKind.wrap .i64 (x17 + 1))) (wr [] (es (es (es (es (es er_nil))))) br_nil) (OK_gSlices_EqualFunc_Simpl_SortKey_Simpl_SortKey_impl_SortKey_impl_SortKey_iSameQuery_3_L0 p1 p0 (IntKind.wrap .i64 (x17 + 1)) _ h)
   refine ei (te (te (bh (xi (so ?_)))))
   let a16 : St := a7.p [(6, (vB true))]
   refine st 1 a16 (nx (ri ?_))
   injection h with h; subst h
   exact ret1_step (v := (vB true)) (by kernel_rfl) (by kernel_rfl) (by kernel_rfl)
 · intro F_iSameExpr OK_iSameExpr p0 p1 r h
   refine acalls_of_fn triSameQuery_3 (Nat.le_of_ble_eq_true rfl) (by simp) ?_
   show avc Try.prog aciSameQuery_3 (qiSameQuery_3 _) ⟨[(0, (vGSortKey p0)), (1, (vGSortKey p1))], []⟩
   delta aciSameQuery_3
   refine so ?_
   let a0 : St := ⟨[(4, (vB false)), (3, (.ptr 3 0)), (2, (.ptr 2 0)), (0, (vGSortKey p0)), (1, (vGSortKey p1))], [(3, bGSortKey p1), (2, bGSortKey p0)]⟩
   refine st 3 a0 (nx (so ?_))
   let a1 : St := a0.p [(10, (vB (p0.desc == p1.desc))), (9, (vB (p0.desc == p1.desc))), (8, (vB p1.desc)), (7, (.ptr 3 10)), (6, (vB p0.desc)), (5, (.ptr 2 10))]
   refine st 6 a1 (gp true (p0.desc == p1.desc) (.ptr 2 0) (fun hc => vl) (gp true (p0.desc == p1.desc) (vGExpr p0.expr) (fun hc => vg hc) (gp true (p0.desc == p1.desc) (.ptr 3 0) (fun hc => vl) (gp true (p0.desc == p1.desc) (vGExpr p1.expr) (fun hc => vg hc) ?_))))
   refine gcall_step (p := true) (b := (p0.desc == p1.desc)) (m := F_iSameExpr p0.expr p1.expr) (dflt := default) (args := [(vGExpr p0.expr), (vGExpr p1.expr)]) (v' := (fun y => (vB y))) h (by kernel_rfl) (OK_iSameExpr p0.expr p1.expr) (fun hc => by kernel_rfl) (by kernel_rfl) (fun _ => rfl) (fun hc => (Eq.trans (b := ([(true && ((p0.desc == p1.desc) == true)), (true && ((p0.desc == p1.desc) == true))] : List Bool).all id) (by kernel_rfl) (all_c hc (all_c hc rfl)))) ?_
   clear h; intro y1 h
   refine vs (fun (y : Bool) => (vB y)) h (fun y hy => vop_pickV hy (p := (true && ((p0.desc == p1.desc) == true))) (q := true) (by kernel_rfl) (by kernel_rfl) (by kernel_rfl) (by kernel_rfl) (fun hb => gc_t rfl hb) (fun _ => rfl)) fun y2 h => ?_
   let a2 : St := a1.p [(4, (vB y2)), (16, (vB y2)), (15, (.ite (true && ((p0.desc == p1.desc) == true)) (vB y1))), (14, (.ite (true && ((p0.desc == p1.desc) == true)) (vGExpr p1.expr))), (13, (.ite (true && ((p0.desc == p1.desc) == true)) (.ptr 3 0))), (12, (.ite (true && ((p0.desc == p1.desc) == true)) (vGExpr p0.expr))), (11, (.ite (true && ((p0.desc == p1.desc) == true)) (.ptr 2 0)))]
   refine st 1 a2 (nx (ri ?_))
   injection h with h; subst h
   exact ret1_step (v := (vB y2)) (by kernel_rfl) (by kernel_rfl) (by kernel_rfl)
 · intro F_gSlices_EqualFunc_Simpl_Expr_Simpl_Expr_impl_Expr_impl_Expr_iSameExpr OK_gSlices_EqualFunc_Simpl_Expr_Simpl_Expr_impl_Expr_impl_Expr_iSameExpr p0 p1 r h
   refine acalls_of_fn triSameExprs (Nat.le_of_ble_eq_true rfl) (by simp) ?_
   show avc Try.prog aciSameExprs (qiSameExprs _) ⟨[(0, (.d (.sl 10 (p0.map cGExpr)))), (1, (.d (.sl 10 (p1.map cGExpr))))], []⟩
   delta aciSameExprs
   refine so ?_
   let a0 : St := ⟨[(4, (vB false)), (0, (.d (.sl 10 (p0.map cGExpr)))), (1, (.d (.sl 10 (p1.map cGExpr))))], []⟩
   refine st 1 a0 (nx (so ?_))
   let a1 : St := a0.p [(6, (.d (.sl 10 (p1.map cGExpr)))), (5, (.d (.sl 10 (p0.map cGExpr))))]
   refine st 2 a1 (cs h (OK_gSlices_EqualFunc_Simpl_Expr_Simpl_Expr_impl_Expr_impl_Expr_iSameExpr p0 p1) fun y1 h => ?_)
   let a2 : St := a1.p [(4, (vB y1)), (7, (vB y1))]
   refine st 1 a2 (nx (ri ?_))
   injection h with h; subst h
   exact ret1_step (v := (vB y1)) (by kernel_rfl) (by kernel_rfl) (by kernel_rfl)
 · intro F_gSlices_EqualFunc_Simpl_Expr_Simpl_Expr_impl_Expr_impl_Expr_iSameExpr_L0 OK_gSlices_EqualFunc_Simpl_Expr_Simpl_Expr_impl_Expr_impl_Expr_iSameExpr_L0 p0 p1 r h
   refine acalls_of_fn trgSlices_EqualFunc_Simpl_Expr_Simpl_Expr_impl_Expr_impl_Expr_iSameExpr (Nat.le_of_ble_eq_true rfl) (by simp) ?_
   show avc Try.prog acgSlices_EqualFunc_Simpl_Expr_Simpl_Expr_impl_Expr_impl_Expr_iSameExpr (qgSlices_EqualFunc_Simpl_Expr_Simpl_Expr_impl_Expr_impl_Expr_iSameExpr _) ⟨[(0, (.d (.sl 10 (p0.map cGExpr)))), (1, (.d (.sl 10 (p1.map cGExpr)))), (2, (.fn 32 []))], []⟩
   delta acgSlices_EqualFunc_Simpl_Expr_Simpl_Expr_impl_Expr_impl_Expr_iSameExpr
   refine so ?_
   let a0 : St := ⟨[(6, (vB false)), (0, (.d (.sl 10 (p0.map cGExpr)))), (1, (.d (.sl 10 (p1.map cGExpr)))), (2, (.fn 32 []))], []⟩
   refine st 1 a0 (nx (si (so ?_)))
   let a1 : St := a0.p [(10, (.d (.sl 10 (p0.map cGExpr))))]
   refine st 1 a1 (ps (vI (p0.length : Int)) (vop_len (sz := 10) (l := p0) (f := cGExpr) (by kernel_rfl) (by kernel_rfl)) ?_)
   let a2 : St := a1.p [(12, (.d (.sl 10 (p1.map cGExpr)))), (11, (vI (p0.length : Int)))]
   refine st 1 a2 (ps (vI (p1.length : Int)) (vop_len (sz := 10) (l := p1) (f := cGExpr) (by kernel_rfl) (by kernel_rfl)) ?_)
   let a3 : St := a2.p [(14, (vB (!decide ((p0.length : Int) = (p1.length : Int))))), (13, (vI (p1.length : Int)))]
   refine st 1 a3 (nx ?_)
   refine cd h (fun h => ?_) fun h => ?_
   refine so ?_
   let a4 : St := a3.p [(6, (vB false))]
   refine st 1 a4 (nx (ri (tr ?_)))
   injection h with h; subst h
   exact ret1_step (v := (vB false)) (by kernel_rfl) (by kernel_rfl) (by kernel_rfl)
   refine ki (xi (si (so ?_)))
   let a5 : St := a3.p [(15, (.d (.sl 10 (p0.map cGExpr))))]
   refine st 1 a5 (ps (vI (p0.length : Int)) (vop_len (sz := 10) (l := p0) (f := cGExpr) (by kernel_rfl) (by kernel_rfl)) ?_)
   let a6 : St := a5.p [(17, (vI 0)), (16, (vI (p0.length : Int)))]
   exact st 1 a6 (nx (bi (loop_go (s' := stgSlices_EqualFunc_Simpl_Expr_Simpl_Expr_impl_Expr_impl_Expr_iSameExpr_L0 p1 p0 0) (wr [] (es (es (es (es (es er_nil))))) br_nil) (OK_gSlices_EqualFunc_Simpl_Expr_Simpl_Expr_impl_Expr_impl_Expr_iSameExpr_L0 p1 p0 0 _ h))))
 · intro F_gSlices_EqualFunc_Simpl_Source_Simpl_Source_impl_Source_impl_Source_iSameQuery_2_L0 OK_gSlices_EqualFunc_Simpl_Source_Simpl_Source_impl_Source_impl_Source_iSameQuery_2_L0 p0 p1 r h
   refine acalls_of_fn trgSlices_EqualFunc_Simpl_Source_Simpl_Source_impl_Source_impl_Source_iSameQuery_2 (Nat.le_of_ble_eq_true rfl) (by simp) ?_
   show avc Try.prog acgSlices_EqualFunc_Simpl_Source_Simpl_Source_impl_Source_impl_Source_iSameQuery_2 (qgSlices_EqualFunc_Simpl_Source_Simpl_Source_impl_Source_impl_Source_iSameQuery_2 _) ⟨[(0, (.d (.sl 3 (p0.map cGSource)))), (1, (.d (.sl 3 (p1.map cGSource)))), (2, (.fn 148 []))], []⟩
   delta acgSlices_EqualFunc_Simpl_Source_Simpl_Source_impl_Source_impl_Source_iSameQuery_2
   refine so ?_
   let a0 : St := ⟨[(6, (vB false)), (0, (.d (.sl 3 (p0.map cGSource)))), (1, (.d (.sl 3 (p1.map cGSource)))), (2, (.fn 148 []))], []⟩
   refine st 1 a0 (nx (si (so ?_)))
   let a1 : St := a0.p [(10, (.d (.sl 3 (p0.map cGSource))))]
   refine st 1 a1 (ps (vI (p0.length : Int)) (vop_len (sz := 3) (l := p0) (f := cGSource) (by kernel_rfl) (by kernel_rfl)) ?_)
   let a2 : St := a1.p [(12, (.d (.sl 3 (p1.map cGSource)))), (11, (vI (p0.length : Int)))]
   refine st 1 a2 (ps (vI (p1.length : Int)) (vop_len (sz := 3) (l := p1) (f := cGSource) (by kernel_rfl) (by kernel_rfl)) ?_)
   let a3 : St := a2.p [(14, (vB (!decide ((p0.length : Int) = (p1.length : Int))))), (13, (vI (p1.length : Int)))]
   refine st 1 a3 (nx ?_)
   refine cd h (fun h => ?_) fun h => ?_
   refine so ?_
   let a4 : St := a3.p [(6, (vB false))]
   refine st 1 a4 (nx (ri (tr ?_)))
   injection h with h; subst h
   exact ret1_step (v := (vB false)) (by kernel_rfl) (by kernel_rfl) (by kernel_rfl)
   refine ki (xi (si (so ?_)))
   let a5 : St := a3.p [(15, (.d (.sl 3 (p0.map cGSource))))]
   refine st 1 a5 (ps (vI (p0.length : Int)) (vop_len (sz := 3) (l := p0) (f := cGSource) (by kernel_rfl) (by kernel_rfl)) ?_)
   let a6 : St := a5.p [(17, (vI 0)), (16, (vI (p0.length : Int)))]
   exact st 1 a6 (nx (bi (loop_go (s' := stgSlices_EqualFunc_Simpl_Source_Simpl_Source_impl_Source_impl_Source_iSameQuery_2_L0 p1 p0 0) (wr [] (es (es (es (es (es er_nil))))) br_nil) (OK_gSlices_EqualFunc_Simpl_Source_Simpl_Source_impl_Source_impl_Source_iSameQuery_2_L0 p1 p0 0 _ h))))
 · intro F_gSlices_EqualFunc_Simpl_Source_Simpl_Source_impl_Source_impl_Source_iSameQuery_2_L0 F_iSameQuery_2 OK_gSlices_EqualFunc_Simpl_Source_Simpl_Source_impl_Source_impl_Source_iSameQuery_2_L0 OK_iSameQuery_2 p1 p0 x17 r h
   delta acgSlices_EqualFunc_Simpl_Source_Simpl_Source_impl_Source_impl_Source_iSameQuery_2_L0
   refine loop_unroll (so ?_)
   let a7 : St := (stgSlices_EqualFunc_Simpl_Source_Simpl_Source_impl_Source_impl_Source_iSameQuery_2_L0 p1 p0 x17).p [(18, (vB (decide (x17 < (p0.length : Int)))))]
   refine st 1 a7 (nx (si ?_))
   refine cd h (fun h => ?_) fun h => ?_
   refine ki (xi (si (bi (so ?_))))
   let a8 : St := a7.p [(19, (vI x17))]
   refine st 1 a8 (vs (fun (y : GSource) => (.rp (oGSource y))) h (fun y hy => vop_ia (l := p0) (f := cGSource) (g := oGSource) (k := .i64) hy cGSource_eq (by kernel_rfl) (by kernel_rfl) (by kernel_rfl)) fun y1 h => ?_)
   let a9 : St := ⟨(7, (vI x17)) :: (8, (.ptr 8 0)) :: (21, (vGSource y1)) :: (20, (.rp (oGSource y1))) :: a8.env, [(8, bGSource y1)]⟩
   refine st 4 a9 (nx (so ?_))
   let a10 : St := a9.p [(23, (vI x17)), (22, (.d (.sl 3 (p1.map cGSource))))]
   refine st 2 a10 (vs (fun (y : GSource) => (.rp (oGSource y))) h (fun y hy => vop_ia (l := p1) (f := cGSource) (g := oGSource) (k := .i64) hy cGSource_eq (by kernel_rfl) (by kernel_rfl) (by kernel_rfl)) fun y2 h => ?_)
   let a11 : St := ⟨(9, (.ptr 9 0)) :: (25, (vGSource y2)) :: (24, (.rp (oGSource y2))) :: a10.env, [(9, bGSource y2), (8, bGSource y1)]⟩
   refine st 3 a11 (nx (so ?_))
   let a12 : St := a11.p [(28, (vGSource y2)), (27, (vGSource y1)), (26, (.fn 148 []))]
   refine st 3 a12 (callv_step (m := F_iSameQuery_2 y1 y2) (caps := []) (args := [(vGSource y1), (vGSource y2)]) (v' := (fun y => (vB y))) h (by kernel_rfl) (by kernel_rfl) (OK_iSameQuery_2 y1 y2) (by kernel_rfl) (by kernel_rfl) (fun _ => rfl) ?_)
   clear h; intro y3 h
   let a13 : St := a12.p [(30, (vB (!y3))), (29, (vB y3))]
   refine st 1 a13 (nx ?_)
   refine cd h (fun h => ?_) fun h => ?_
   refine so ?_
   let a14 : St := a13.p [(6, (vB false))]
   refine st 1 a14 (nx (ri (br (tr (tr (br (tr ?_)))))))
   injection h with h; subst h
   exact ret1_step (v := (vB false)) (by kernel_rfl) (by kernel_rfl) (by kernel_rfl)
   refine ki (bn (xi (oi ?_)))
   let a15 : St := a13.p [(17, (vI (IntKind.wrap .i64 (x17 + 1)))), (31, (vI (IntKind.wrap .i64 (x17 + 1))))]
   exact st 2 a15 (ni (loop_back (s' := stgSlices_EqualFunc_Simpl_Source_Simpl_Source_impl_Source_impl_Source_iSameQuery_2_L0 p1 p0 (IntKind.wrap .i64 (x17 + 1))) (wr [] (es (es (es (es (es er_nil))))) br_nil) (OK_gSlices_EqualFunc_Simpl_Source_Simpl_Source_impl_Source_impl_Source_iSameQuery_2_L0 p1 p0 (IntKind.wrap .i64 (x17 + 1)) _ h)))
   refine ei (te (te (bh (xi (so ?_)))))
   let a16 : St := a7.p [(6, (vB true))]
   refine st 1 a16 (nx (ri ?_))
   injection h with h; subst h
   exact ret1_step (v := (vB true)) (by kernel_rfl) (by kernel_rfl) (by kernel_rfl)
 · intro F_iSameExprs OK_iSameExprs p0 p1 r h
   refine acalls_of_fn triSameQuery_2 (Nat.le_of_ble_eq_true rfl) (by simp) ?_
   show avc Try.prog aciSameQuery_2 (qiSameQuery_2 _) ⟨[(0, (vGSource p0)), (1, (vGSource p1))], []⟩
   delta aciSameQuery_2
   refine so ?_
   let a0 : St := ⟨[(4, (vB false)), (3, (.ptr 3 0)), (2, (.ptr 2 0)), (0, (vGSource p0)), (1, (vGSource p1))], [(3, bGSource p1), (2, bGSource p0)]⟩
   refine st 3 a0 (nx (so ?_))
   let a1 : St := a0.p [(10, (vB (decide (p0.table = p1.table)))), (9, (vB (decide (p0.table = p1.table)))), (8, (vS p1.table)), (7, (.ptr 3 0)), (6, (vS p0.table)), (5, (.ptr 2 0))]
   refine st 6 a1 (gp true (decide (p0.table = p1.table)) (.ptr 2 1) (fun hc => vl) (gp true (decide (p0.table = p1.table)) (vS p0.as_) (fun hc => vg hc) (gp true (decide (p0.table = p1.table)) (.ptr 3 1) (fun hc => vl) (gp true (decide (p0.table = p1.table)) (vS p1.as_) (fun hc => vg hc) ?_))))
   refine gp true (decide (p0.table = p1.table)) (vB (decide (p0.as_ = p1.as_))) (fun hc => vop_val1 (Eq.trans (b := ([(true && ((decide (p0.table = p1.table)) == true)), (true && ((decide (p0.table = p1.table)) == true))] : List Bool).all id) (by kernel_rfl) (all_c hc (all_c hc rfl))) (by kernel_rfl)) ?_
   refine vs (fun (y : Bool) => (vB y)) h (fun y hy => vop_pickV hy (p := (true && ((decide (p0.table = p1.table)) == true))) (q := true) (by kernel_rfl) (by kernel_rfl) (by kernel_rfl) (by kernel_rfl) (fun hb => gc_t rfl hb) (fun _ => rfl)) fun y1 h => ?_
   let a2 : St := a1.p [(17, (vB y1)), (16, (vB y1)), (15, (.ite (true && ((decide (p0.table = p1.table)) == true)) (vB (decide (p0.as_ = p1.as_))))), (14, (.ite (true && ((decide (p0.table = p1.table)) == true)) (vS p1.as_))), (13, (.ite (true && ((decide (p0.table = p1.table)) == true)) (.ptr 3 1))), (12, (.ite (true && ((decide (p0.table = p1.table)) == true)) (vS p0.as_))), (11, (.ite (true && ((decide (p0.table = p1.table)) == true)) (.ptr 2 1)))]
   refine st 1 a2 (gp true y1 (.ptr 2 2) (fun hc => vl) (gp true y1 (.d (.sl 10 (p0.on_.map cGExpr))) (fun hc => vg hc) (gp true y1 (.ptr 3 2) (fun hc => vl) (gp true y1 (.d (.sl 10 (p1.on_.map cGExpr))) (fun hc => vg hc) ?_))))
   refine gcall_step (p := true) (b := y1) (m := F_iSameExprs p0.on_ p1.on_) (dflt := default) (args := [(.d (.sl 10 (p0.on_.map cGExpr))), (.d (.sl 10 (p1.on_.map cGExpr)))]) (v' := (fun y => (vB y))) h (by kernel_rfl) (OK_iSameExprs p0.on_ p1.on_) (fun hc => by kernel_rfl) (by kernel_rfl) (fun _ => rfl) (fun hc => (Eq.trans (b := ([(true && (y1 == true)), (true && (y1 == true))] : List Bool).all id) (by kernel_rfl) (all_c hc (all_c hc rfl)))) ?_
   clear h; intro y2 h
   refine vs (fun (y : Bool) => (vB y)) h (fun y hy => vop_pickV hy (p := (true && (y1 == true))) (q := true) (by kernel_rfl) (by kernel_rfl) (by kernel_rfl) (by kernel_rfl) (fun hb => gc_t rfl hb) (fun _ => rfl)) fun y3 h => ?_
   let a3 : St := a2.p [(4, (vB y3)), (23, (vB y3)), (22, (.ite (gT y1) (vB y2))), (21, (.ite (gT y1) (.d (.sl 10 (p1.on_.map cGExpr))))), (20, (.ite (gT y1) (.ptr 3 2))), (19, (.ite (gT y1) (.d (.sl 10 (p0.on_.map cGExpr))))), (18, (.ite (gT y1) (.ptr 2 2)))]
   refine st 1 a3 (nx (ri ?_))
   injection h with h; subst h
   exact ret1_step (v := (vB y3)) (by kernel_rfl) (by kernel_rfl) (by kernel_rfl)
 · intro F_gSlices_EqualFunc_Simpl_Item_Simpl_Item_impl_Item_impl_Item_iSameQuery_1_L0 OK_gSlices_EqualFunc_Simpl_Item_Simpl_Item_impl_Item_impl_Item_iSameQuery_1_L0 p0 p1 r h
   refine acalls_of_fn trgSlices_EqualFunc_Simpl_Item_Simpl_Item_impl_Item_impl_Item_iSameQuery_1 (Nat.le_of_ble_eq_true rfl) (by simp) ?_
   show avc Try.prog acgSlices_EqualFunc_Simpl_Item_Simpl_Item_impl_Item_impl_Item_iSameQuery_1 (qgSlices_EqualFunc_Simpl_Item_Simpl_Item_impl_Item_impl_Item_iSameQuery_1 _) ⟨[(0, (.d (.sl 13 (p0.map cGItem)))), (1, (.d (.sl 13 (p1.map cGItem)))), (2, (.fn 147 []))], []⟩
   delta acgSlices_EqualFunc_Simpl_Item_Simpl_Item_impl_Item_impl_Item_iSameQuery_1
   refine so ?_
   let a0 : St := ⟨[(6, (vB false)), (0, (.d (.sl 13 (p0.map cGItem)))), (1, (.d (.sl 13 (p1.map cGItem)))), (2, (.fn 147 []))], []⟩
   refine st 1 a0 (nx (si (so ?_)))
   let a1 : St := a0.p [(10, (.d (.sl 13 (p0.map cGItem))))]
   refine st 1 a1 (ps (vI (p0.length : Int)) (vop_len (sz := 13) (l := p0) (f := cGItem) (by kernel_rfl) (by kernel_rfl)) ?_)
   let a2 : St := a1.p [(12, (.d (.sl 13 (p1.map cGItem)))), (11, (vI (p0.length : Int)))]
   refine st 1 a2 (ps (vI (p1.length : Int)) (vop_len (sz := 13) (l := p1) (f := cGItem) (by kernel_rfl) (by kernel_rfl)) ?_)
   let a3 : St := a2.p [(14, (vB (!decide ((p0.length : Int) = (p1.length : Int))))), (13, (vI (p1.length : Int)))]
   refine st 1 a3 (nx ?_)
   refine cd h (fun h => ?_) fun h => ?_
   refine so ?_
   let a4 : St := a3.p [(6, (vB false))]
   refine st 1 a4 (nx (ri (tr ?_)))
   injection h with h; subst h
   exact ret1_step (v := (vB false)) (by kernel_rfl) (by kernel_rfl) (by kernel_rfl)
   refine ki (xi (si (so ?_)))
   let a5 : St := a3.p [(15, (.d (.sl 13 (p0.map cGItem))))]
   refine st 1 a5 (ps (vI (p0.length : Int)) (vop_len (sz := 13) (l := p0) (f := cGItem) (by kernel_rfl) (by kernel_rfl)) ?_)
   let a6 : St := a5.p [(17, (vI 0)), (16, (vI (p0.length : Int)))]
   exact st 1 a6 (nx (bi (loop_go (s' := stgSlices_EqualFunc_Simpl_Item_Simpl_Item_impl_Item_impl_Item_iSameQuery_1_L0 p1 p0 0) (wr [] (es (es (es (es (es er_nil))))) br_nil) (OK_gSlices_EqualFunc_Simpl_Item_Simpl_Item_impl_Item_impl_Item_iSameQuery_1_L0 p1 p0 0 _ h))))
 · intro F_gSlices_EqualFunc_Simpl_Item_Simpl_Item_impl_Item_impl_Item_iSameQuery_1_L0 F_iSameQuery_1 OK_gSlices_EqualFunc_Simpl_Item_Simpl_Item_impl_Item_impl_Item_iSameQuery_1_L0 OK_iSameQuery_1 p1 p0 x17 r h
   delta acgSlices_EqualFunc_Simpl_Item_Simpl_Item_impl_Item_impl_Item_iSameQuery_1_L0
   refine loop_unroll (so ?_)
   let a7 : St := (stgSlices_EqualFunc_Simpl_Item_Simpl_Item_impl_Item_impl_Item_iSameQuery_1_L0 p1 p0 x17).p [(18, (vB (decide (x17 < (p0.length : Int)))))]
   refine st 1 a7 (nx (si ?_))
   refine cd h (fun h => ?_) fun h => ?_
   refine ki (xi (si (bi (so ?_))))
   let a8 : St := a7.p [(19, (vI x17))]
   refine st 1 a8 (vs (fun (y : GItem) => (.rp (oGItem y))) h (fun y hy => vop_ia (l := p0) (f := cGItem) (g := oGItem) (k := .i64) hy cGItem_eq (by kernel_rfl) (by kernel_rfl) (by kernel_rfl)) fun y1 h => ?_)
   let a9 : St := ⟨(7, (vI x17)) :: (8, (.ptr 8 0)) :: (21, (vGItem y1)) :: (20, (.rp (oGItem y1))) :: a8.env, [(8, bGItem y1)]⟩
   refine st 4 a9 (nx (so ?_))
   let a10 : St := a9.p [(23, (vI x17)), (22, (.d (.sl 13 (p1.map cGItem))))]
   refine st 2 a10 (vs (fun (y : GItem) => (.rp (oGItem y))) h (fun y hy => vop_ia (l := p1) (f := cGItem) (g := oGItem) (k := .i64) hy cGItem_eq (by kernel_rfl) (by kernel_rfl) (by kernel_rfl)) fun y2 h => ?_)
   let a11 : St := ⟨(9, (.ptr 9 0)) :: (25, (vGItem y2)) :: (24, (.rp (oGItem y2))) :: a10.env, [(9, bGItem y2), (8, bGItem y1)]⟩
   refine st 3 a11 (nx (so ?_))
   let a12 : St := a11.p [(28, (vGItem y2)), (27, (vGItem y1)), (26, (.fn 147 []))]
   refine st 3 a12 (callv_step (m := F_iSameQuery_1 y1 y2) (caps := []) (args := [(vGItem y1), (vGItem y2)]) (v' := (fun y => (vB y))) h (by kernel_rfl) (by kernel_rfl) (OK_iSameQuery_1 y1 y2) (by kernel_rfl) (by kernel_rfl) (fun _ => rfl) ?_)
   clear h; intro y3 h
   let a13 : St := a12.p [(30, (vB (!y3))), (29, (vB y3))]
   refine st 1 a13 (nx ?_)
   refine cd h (fun h => ?_) fun h => ?_
   refine so ?_
   let a14 : St := a13.p [(6, (vB false))]
   refine st 1 a14 (nx (ri (br (tr (tr (br (tr ?_)))))))
   injection h with h; subst h
   exact ret1_step (v := (vB false)) (by kernel_rfl) (by kernel_rfl) (by kernel_rfl)
   refine ki (bn (xi (oi ?_)))
   let a15 : St := a13.p [(17, (vI (IntKind.wrap .i64 (x17 + 1)))), (31, (vI (IntKind.wrap .i64 (x17 + 1))))]
   exact st 2 a15 (ni (loop_back (s' := stgSlices_EqualFunc_Simpl_Item_Simpl_Item_impl_Item_impl_Item_iSameQuery_1_L0 p1 p0 (IntKind.wrap .i64 (x17 + 1))) (wr [] (es (es (es (es (es er_nil))))) br_nil) (OK_gSlices_EqualFunc_Simpl_Item_Simpl_Item_impl_Item_impl_Item_iSameQuery_1_L0 p1 p0 (IntKind.wrap .i64 (x17 + 1)) _ h)))
   refine ei (te (te (bh (xi (so ?_)))))
   let a16 : St := a7.p [(6, (vB true))]
   refine st 1 a16 (nx (ri ?_))
   injection h with h; subst h
   exact ret1_step (v := (vB true)) (by kernel_rfl) (by kernel_rfl) (by kernel_rfl)
 · intro F_iSameExpr OK_iSameExpr p0 p1 r h
   refine acalls_of_fn triSameQuery_1 (Nat.le_of_ble_eq_true rfl) (by simp) ?_
   show avc Try.prog aciSameQuery_1 (qiSameQuery_1 _) ⟨[(0, (vGItem p0)), (1, (vGItem p1))], []⟩
   delta aciSameQuery_1
   refine so ?_
   let a0 : St := ⟨[(4, (vB false)), (3, (.ptr 3 0)), (2, (.ptr 2 0)), (0, (vGItem p0)), (1, (vGItem p1))], [(3, bGItem p1), (2, bGItem p0)]⟩
   refine st 3 a0 (nx (so ?_))
   let a1 : St := a0.p [(10, (vB (p0.star == p1.star))), (9, (vB (p0.star == p1.star))), (8, (vB p1.star)), (7, (.ptr 3 0)), (6, (vB p0.star)), (5, (.ptr 2 0))]
   refine st 6 a1 (gp true (p0.star == p1.star) (.ptr 2 1) (fun hc => vl) (gp true (p0.star == p1.star) (vS p0.qual) (fun hc => vg hc) (gp true (p0.star == p1.star) (.ptr 3 1) (fun hc => vl) (gp true (p0.star == p1.star) (vS p1.qual) (fun hc => vg hc) ?_))))
   refine gp true (p0.star == p1.star) (vB (decide (p0.qual = p1.qual))) (fun hc => vop_val1 (Eq.trans (b := ([(true && ((p0.star == p1.star) == true)), (true && ((p0.star == p1.star) == true))] : List Bool).all id) (by kernel_rfl) (all_c hc (all_c hc rfl))) (by kernel_rfl)) ?_
   refine vs (fun (y : Bool) => (vB y)) h (fun y hy => vop_pickV hy (p := (true && ((p0.star == p1.star) == true))) (q := true) (by kernel_rfl) (by kernel_rfl) (by kernel_rfl) (by kernel_rfl) (fun hb => gc_t rfl hb) (fun _ => rfl)) fun y1 h => ?_
   let a2 : St := a1.p [(17, (vB y1)), (16, (vB y1)), (15, (.ite (true && ((p0.star == p1.star) == true)) (vB (decide (p0.qual = p1.qual))))), (14, (.ite (true && ((p0.star == p1.star) == true)) (vS p1.qual))), (13, (.ite (true && ((p0.star == p1.star) == true)) (.ptr 3 1))), (12, (.ite (true && ((p0.star == p1.star) == true)) (vS p0.qual))), (11, (.ite (true && ((p0.star == p1.star) == true)) (.ptr 2 1)))]
   refine st 1 a2 (gp true y1 (.ptr 2 12) (fun hc => vl) (gp true y1 (vS p0.as_) (fun hc => vg hc) (gp true y1 (.ptr 3 12) (fun hc => vl) (gp true y1 (vS p1.as_) (fun hc => vg hc) (gp true y1 (vB (decide (p0.as_ = p1.as_))) (fun hc => vop_val1 (Eq.trans (b := ([(true && (y1 == true)), (true && (y1 == true))] : List Bool).all id) (by kernel_rfl) (all_c hc (all_c hc rfl))) (by kernel_rfl)) ?_)))))
   refine vs (fun (y : Bool) => (vB y)) h (fun y hy => vop_pickV hy (p := (true && (y1 == true))) (q := true) (by kernel_rfl) (by kernel_rfl) (by kernel_rfl) (by kernel_rfl) (fun hb => gc_t rfl hb) (fun _ => rfl)) fun y2 h => ?_
   let a3 : St := a2.p [(24, (vB y2)), (23, (vB y2)), (22, (.ite (gT y1) (vB (decide (p0.as_ = p1.as_))))), (21, (.ite (gT y1) (vS p1.as_))), (20, (.ite (gT y1) (.ptr 3 12))), (19, (.ite (gT y1) (vS p0.as_))), (18, (.ite (gT y1) (.ptr 2 12)))]
   refine st 1 a3 (gp true y2 (.ptr 2 2) (fun hc => vl) (gp true y2 (vGExpr p0.expr) (fun hc => vg hc) (gp true y2 (.ptr 3 2) (fun hc => vl) (gp true y2 (vGExpr p1.expr) (fun hc => vg hc) ?_))))
   refine gcall_step (p := true) (b := y2) (m := F_iSameExpr p0.expr p1.expr) (dflt := default) (args := [(vGExpr p0.expr), (vGExpr p1.expr)]) (v' := (fun y => (vB y))) h (by kernel_rfl) (OK_iSameExpr p0.expr p1.expr) (fun hc => by kernel_rfl) (by kernel_rfl) (fun _ => rfl) (fun hc => (Eq.trans (b := ([(true && (y2 == true)), (true && (y2 == true))] : List Bool).all id) (by kernel_rfl) (all_c hc (all_c hc rfl)))) ?_
   clear h; intro y3 h
   refine vs (fun (y : Bool) => (vB y)) h (fun y hy => vop_pickV hy (p := (true && (y2 == true))) (q := true) (by kernel_rfl) (by kernel_rfl) (by kernel_rfl) (by kernel_rfl) (fun hb => gc_t rfl hb) (fun _ => rfl)) fun y4 h => ?_
   let a4 : St := a3.p [(4, (vB y4)), (30, (vB y4)), (29, (.ite (gT y2) (vB y3))), (28, (.ite (gT y2) (vGExpr p1.expr))), (27, (.ite (gT y2) (.ptr 3 2))), (26, (.ite (gT y2) (vGExpr p0.expr))), (25, (.ite (gT y2) (.ptr 2 2)))]
   refine st 1 a4 (nx (ri ?_))
   injection h with h; subst h
   exact ret1_step (v := (vB y4)) (by kernel_rfl) (by kernel_rfl) (by kernel_rfl)
theorem OK_gSlices_EqualFunc_Simpl_Expr_Simpl_Expr_impl_Expr_impl_Expr_iSameExpr_L0 (p1 : (List GExpr)) (p0 : (List GExpr)) (x17 : Int) (r : Bool) (h : gSlices_EqualFunc_Simpl_Expr_Simpl_Expr_impl_Expr_impl_Expr_iSameExpr_L0 p1 p0 x17 = some r) : avc Try.prog acgSlices_EqualFunc_Simpl_Expr_Simpl_Expr_impl_Expr_impl_Expr_iSameExpr_L0 (qgSlices_EqualFunc_Simpl_Expr_Simpl_Expr_impl_Expr_impl_Expr_iSameExpr_1 r) (stgSlices_EqualFunc_Simpl_Expr_Simpl_Expr_impl_Expr_impl_Expr_iSameExpr_L0 p1 p0 x17) := (OKs_gSlices_EqualFunc_Simpl_Expr_Simpl_Expr_impl_Expr_impl_Expr_iSameExpr_L0).1 p1 p0 x17 r h
theorem OK_iSameExpr (p0 : GExpr) (p1 : GExpr) : FOk Try.prog 32 [(vGExpr p0), (vGExpr p1)] (fun y => (vB y)) (iSameExpr p0 p1) := fun r h => (OKs_gSlices_EqualFunc_Simpl_Expr_Simpl_Expr_impl_Expr_impl_Expr_iSameExpr_L0).2.1 p0 p1 r h
theorem OK_gSlices_EqualFunc_Simpl_Query_Simpl_Query_impl_Query_impl_Query_iSameQuery (p0 : (List GQuery)) (p1 : (List GQuery)) : FOk Try.prog 88 [(.d (.sl 6 (p0.map cGQuery))), (.d (.sl 6 (p1.map cGQuery))), (.fn 89 [])] (fun y => (vB y)) (gSlices_EqualFunc_Simpl_Query_Simpl_Query_impl_Query_impl_Query_iSameQuery p0 p1) := fun r h => (OKs_gSlices_EqualFunc_Simpl_Expr_Simpl_Expr_impl_Expr_impl_Expr_iSameExpr_L0).2.2.1 p0 p1 r h
theorem OK_gSlices_EqualFunc_Simpl_Query_Simpl_Query_impl_Query_impl_Query_iSameQuery_L0 (p1 : (List GQuery)) (p0 : (List GQuery)) (x17 : Int) (r : Bool) (h : gSlices_EqualFunc_Simpl_Query_Simpl_Query_impl_Query_impl_Query_iSameQuery_L0 p1 p0 x17 = some r) : avc Try.prog acgSlices_EqualFunc_Simpl_Query_Simpl_Query_impl_Query_impl_Query_iSameQuery_L0 (qgSlices_EqualFunc_Simpl_Query_Simpl_Query_impl_Query_impl_Query_iSameQuery_1 r) (stgSlices_EqualFunc_Simpl_Query_Simpl_Query_impl_Query_impl_Query_iSameQuery_L0 p1 p0 x17) := (OKs_gSlices_EqualFunc_Simpl_Expr_Simpl_Expr_impl_Expr_impl_Expr_iSameExpr_L0).2.2.2.1 p1 p0 x17 r h
theorem OK_iSameQuery (p0 : GQuery) (p1 : GQuery) : FOk Try.prog 89 [(vGQuery p0), (vGQuery p1)] (fun y => (vB y)) (iSameQuery p0 p1) := fun r h => (OKs_gSlices_EqualFunc_Simpl_Expr_Simpl_Expr_impl_Expr_impl_Expr_iSameExpr_L0).2.2.2.2.1 p0 p1 r h
theorem OK_gSlices_EqualFunc_Simpl_SortKey_Simpl_SortKey_impl_SortKey_impl_SortKey_iSameQuery_3 (p0 : (List GSortKey)) (p1 : (List GSortKey)) : FOk Try.prog 152 [(.d (.sl 11 (p0.map cGSortKey))), (.d (.sl 11 (p1.map cGSortKey))), (.fn 149 [])] (fun y => (vB y)) (gSlices_EqualFunc_Simpl_SortKey_Simpl_SortKey_impl_SortKey_impl_SortKey_iSameQuery_3 p0 p1) := fun r h => (OKs_gSlices_EqualFunc_Simpl_Expr_Simpl_Expr_impl_Expr_impl_Expr_iSameExpr_L0).2.2.2.2.2.1 p0 p1 r h
theorem OK_gSlices_EqualFunc_Simpl_SortKey_Simpl_SortKey_impl_SortKey_impl_SortKey_iSameQuery_3_L0 (p1 : (List GSortKey)) (p0 : (List GSortKey)) (x17 : Int) (r : Bool) (h : gSlices_EqualFunc_Simpl_SortKey_Simpl_SortKey_impl_SortKey_impl_SortKey_iSameQuery_3_L0 p1 p0 x17 = some r) : avc Try.prog acgSlices_EqualFunc_Simpl_SortKey_Simpl_SortKey_impl_SortKey_impl_SortKey_iSameQuery_3_L0 (qgSlices_EqualFunc_Simpl_SortKey_Simpl_SortKey_impl_SortKey_impl_SortKey_iSameQuery_3_1 r) (stgSlices_EqualFunc_Simpl_SortKey_Simpl_SortKey_impl_SortKey_impl_SortKey_iSameQuery_3_L0 p1 p0 x17) := (OKs_gSlices_EqualFunc_Simpl_Expr_Simpl_Expr_impl_Expr_impl_Expr_iSameExpr_L0).2.2.2.2.2.2.1 p1 p0 x17 r h
theorem OK_iSameQuery_3 (p0 : GSortKey) (p1 : GSortKey) : FOk Try.prog 149 [(vGSortKey p0), (vGSortKey p1)] (fun y => (vB y)) (iSameQuery_3 p0 p1) := fun r h => (OKs_gSlices_EqualFunc_Simpl_Expr_Simpl_Expr_impl_Expr_impl_Expr_iSameExpr_L0).2.2.2.2.2.2.2.1 p0 p1 r h
theorem OK_iSameExprs (p0 : (List GExpr)) (p1 : (List GExpr)) : FOk Try.prog 87 [(.d (.sl 10 (p0.map cGExpr))), (.d (.sl 10 (p1.map cGExpr)))] (fun y => (vB y)) (iSameExprs p0 p1) := fun r h => (OKs_gSlices_EqualFunc_Simpl_Expr_Simpl_Expr_impl_Expr_impl_Expr_iSameExpr_L0).2.2.2.2.2.2.2.2.1 p0 p1 r h
theorem OK_gSlices_EqualFunc_Simpl_Expr_Simpl_Expr_impl_Expr_impl_Expr_iSameExpr (p0 : (List GExpr)) (p1 : (List GExpr)) : FOk Try.prog 146 [(.d (.sl 10 (p0.map cGExpr))), (.d (.sl 10 (p1.map cGExpr))), (.fn 32 [])] (fun y => (vB y)) (gSlices_EqualFunc_Simpl_Expr_Simpl_Expr_impl_Expr_impl_Expr_iSameExpr p0 p1) := fun r h => (OKs_gSlices_EqualFunc_Simpl_Expr_Simpl_Expr_impl_Expr_impl_Expr_iSameExpr_L0).2.2.2.2.2.2.2.2.2.1 p0 p1 r h
theorem OK_gSlices_EqualFunc_Simpl_Source_Simpl_Source_impl_Source_impl_Source_iSameQuery_2 (p0 : (List GSource)) (p1 : (List GSource)) : FOk Try.prog 151 [(.d (.sl 3 (p0.map cGSource))), (.d (.sl 3 (p1.map cGSource))), (.fn 148 [])] (fun y => (vB y)) (gSlices_EqualFunc_Simpl_Source_Simpl_Source_impl_Source_impl_Source_iSameQuery_2 p0 p1) := fun r h => (OKs_gSlices_EqualFunc_Simpl_Expr_Simpl_Expr_impl_Expr_impl_Expr_iSameExpr_L0).2.2.2.2.2.2.2.2.2.2.1 p0 p1 r h
theorem OK_gSlices_EqualFunc_Simpl_Source_Simpl_Source_impl_Source_impl_Source_iSameQuery_2_L0 (p1 : (List GSource)) (p0 : (List GSource)) (x17 : Int) (r : Bool) (h : gSlices_EqualFunc_Simpl_Source_Simpl_Source_impl_Source_impl_Source_iSameQuery_2_L0 p1 p0 x17 = some r) : avc Try.prog acgSlices_EqualFunc_Simpl_Source_Simpl_Source_impl_Source_impl_Source_iSameQuery_2_L0 (qgSlices_EqualFunc_Simpl_Source_Simpl_Source_impl_Source_impl_Source_iSameQuery_2_1 r) (stgSlices_EqualFunc_Simpl_Source_Simpl_Source_impl_Source_impl_Source_iSameQuery_2_L0 p1 p0 x17) := (OKs_gSlices_EqualFunc_Simpl_Expr_Simpl_Expr_impl_Expr_impl_Expr_iSameExpr_L0).2.2.2.2.2.2.2.2.2.2.2.1 p1 p0 x17 r h
theorem OK_iSameQuery_2 (p0 : GSource) (p1 : GSource) : FOk Try.prog 148 [(vGSource p0), (vGSource p1)] (fun y => (vB y)) (iSameQuery_2 p0 p1) := fun r h => (OKs_gSlices_EqualFunc_Simpl_Expr_Simpl_Expr_impl_Expr_impl_Expr_iSameExpr_L0).2.2.2.2.2.2.2.2.2.2.2.2.1 p0 p1 r h
theorem OK_gSlices_EqualFunc_Simpl_Item_Simpl_Item_impl_Item_impl_Item_iSameQuery_1 (p0 : (List GItem)) (p1 : (List GItem)) : FOk Try.prog 150 [(.d (.sl 13 (p0.map cGItem))), (.d (.sl 13 (p1.map cGItem))), (.fn 147 [])] (fun y => (vB y)) (gSlices_EqualFunc_Simpl_Item_Simpl_Item_impl_Item_impl_Item_iSameQuery_1 p0 p1) := fun r h => (OKs_gSlices_EqualFunc_Simpl_Expr_Simpl_Expr_impl_Expr_impl_Expr_iSameExpr_L0).2.2.2.2.2.2.2.2.2.2.2.2.2.1 p0 p1 r h
theorem OK_gSlices_EqualFunc_Simpl_Item_Simpl_Item_impl_Item_impl_Item_iSameQuery_1_L0 (p1 : (List GItem)) (p0 : (List GItem)) (x17 : Int) (r : Bool) (h : gSlices_EqualFunc_Simpl_Item_Simpl_Item_impl_Item_impl_Item_iSameQuery_1_L0 p1 p0 x17 = some r) : avc Try.prog acgSlices_EqualFunc_Simpl_Item_Simpl_Item_impl_Item_impl_Item_iSameQuery_1_L0 (qgSlices_EqualFunc_Simpl_Item_Simpl_Item_impl_Item_impl_Item_iSameQuery_1_1 r) (stgSlices_EqualFunc_Simpl_Item_Simpl_Item_impl_Item_impl_Item_iSameQuery_1_L0 p1 p0 x17) := (OKs_gSlices_EqualFunc_Simpl_Expr_Simpl_Expr_impl_Expr_impl_Expr_iSameExpr_L0).2.2.2.2.2.2.2.2.2.2.2.2.2.2.1 p1 p0 x17 r h
theorem OK_iSameQuery_1 (p0 : GItem) (p1 : GItem) : FOk Try.prog 147 [(vGItem p0), (vGItem p1)] (fun y => (vB y)) (iSameQuery_1 p0 p1) := fun r h => (OKs_gSlices_EqualFunc_Simpl_Expr_Simpl_Expr_impl_Expr_impl_Expr_iSameExpr_L0).2.2.2.2.2.2.2.2.2.2.2.2.2.2.2 p0 p1 r h
theorem OK_iIsZero (p0 : GExpr) : FOk Try.prog 144 [(vGExpr p0)] (fun y => (vB y)) (iIsZero p0) := by
 intro r h
 rw [iIsZero] at h
 refine acalls_of_fn triIsZero (Nat.le_of_ble_eq_true rfl) (by simp) ?_
 show avc Try.prog aciIsZero (qiIsZero _) ⟨[(0, (vGExpr p0))], []⟩
 delta aciIsZero
 refine so ?_
 let a0 : St := ⟨[(2, (vB false)), (1, (.ptr 1 0)), (0, (vGExpr p0))], [(1, bGExpr p0)]⟩
 refine st 2 a0 (nx (so ?_))
 let a1 : St := a0.p [(4, (vGExpr (GExpr.mk 0 0 false (GValue.mk 0 0 []) [] [] ([] : List GExpr) ([] : List GQuery)))), (3, (vGExpr p0))]
 refine st 2 a1 (cs h (OK_iSameExpr p0 (GExpr.mk 0 0 false (GValue.mk 0 0 []) [] [] ([] : List GExpr) ([] : List GQuery))) fun y1 h => ?_)
 let a2 : St := a1.p [(2, (vB y1)), (5, (vB y1))]
 refine st 1 a2 (nx (ri ?_))
 injection h with h; subst h
 exact ret1_step (v := (vB y1)) (by kernel_rfl) (by kernel_rfl) (by kernel_rfl)
end Go.Proofs.Ytdiknmniclancaa
